/- JoinPrograms and SwapProgram, on both sides. -/
import Derived.Test.YtndlhdmpfnadcaaGreatDoorSy
import Derived.Test.YtndlhdmpfnadcaaGreatDoorGa
import Derived.Test.YtndlhdmpfnadcaaGreatDoorGk
import Derived.Test.YtndlhdmpfnadcaaGreatDoorGb
import Derived.Test.YtndlhdmpfnadcaaGreatDoorDri
namespace Go.Proofs.YtndlhdmpfnadcaaGreatDoor
open Go.RowKit
open Pl

def joinO (P Q : ByteArray) : Option Nd :=
  match whole false 2 200 P.data.toList, whole false 2 200 Q.data.toList with
  | some a, some b => if P.size + Q.size + 1 ≤ 200 then some (.n2 59 a b) else none
  | _, _ => none
def swapO (S V U : ByteArray) : Option Nd :=
  match whole false 2 200 S.data.toList, varOf V.data.toList, varOf U.data.toList with
  | some k, some v, some u => some (mapN (xch v u) k)
  | _, _, _ => none
theorem u8_neq {c d : UInt8} (h : c ≠ d) : ((c.toNat : Int) == (d.toNat : Int)) = false := by
  have : ¬ c.toNat = d.toNat := fun e => h (UInt8.toNat_inj.1 e)
  simp; omega
theorem xch_one (v u : UInt8) : xch v u v = u := by simp [xch]
theorem xch_two (v u : UInt8) : xch v u u = v := by
  unfold xch
  by_cases h : u = v
  · simp [h]
  · simp [h]
theorem xch_no {v u c : UInt8} (h1 : c ≠ v) (h2 : c ≠ u) : xch v u c = c := by simp [xch, h1, h2]
set_option maxRecDepth 100000 in
set_option maxHeartbeats 16000000 in
theorem SwapProgramS_any (S V U : ByteArray) (hS : S.size ≤ 1000000000000) (hV : V.size ≤ 1000000000000) (hU : U.size ≤ 1000000000000) (w : World) : Calls Tryz.prog 43 #[.string S, .string V, .string U] w fun e w' => (e = .returned (.tuple #[.string (bs (optT (swapO S V U))), .bool (swapO S V U).isSome]) ∧ Below w.heap.size w w') := by
  have VV := Lib.hid (fun w => (ProgramValidS_any S w hS).mono fun _ _ h => (⟨h.1, drew_below h.2⟩ : _ ∧ _))
  have IV := Lib.hid (fun w => l1Var_any V hV w)
  have IU := Lib.hid (fun w => l1Var_any U hU w)
  cases hk : whole false 2 200 S.data.toList with
  | none =>
    have hr : swapO S V U = none := by unfold swapO; rw [hk]
    rw [hk] at VV
    clear IV IU hk
    rw [hr]
    simp only [optT, Option.isSome_none] at VV ⊢
    clear hr
    go_enter Tryz.func43, Tryz.ntmps43
    go_wp2_with fail
    refine (VV.out _).mono ?_
    rintro e w1 ⟨rfl, hb1⟩
    have B1 := Lib.hid hb1
    clear hb1
    go_wp2_with fail
    go_ret2
    exact ⟨(by first | trivial | rfl), B1.out⟩
  | some k =>
    rw [hk] at VV
    cases hv : varOf V.data.toList with
    | none =>
      have hr : swapO S V U = none := by unfold swapO; rw [hk, hv]
      rw [hv] at IV
      clear IU hk hv
      rw [hr]
      simp only [optT, Option.isSome_none, Option.isSome_some, varNo] at VV IV ⊢
      clear hr
      go_enter Tryz.func43, Tryz.ntmps43
      go_wp2_with fail
      refine (VV.out _).mono ?_
      rintro e w1 ⟨rfl, hb1⟩
      have B1 := Lib.hid hb1
      clear hb1
      go_wp2_with fail
      refine (IV.out _).mono ?_
      rintro e w' ⟨rfl, rfl⟩
      go_wp2_with fail
      go_ret2
      exact ⟨(by first | trivial | rfl), B1.out⟩
    | some v =>
      rw [hv] at IV
      cases hu : varOf U.data.toList with
      | none =>
        have hr : swapO S V U = none := by unfold swapO; rw [hk, hv, hu]
        rw [hu] at IU
        have hk0 := hk
        obtain ⟨e1, m1⟩ := varOf_some hv
        have hf := (fnd_mem (c := v) (l := nmsN)).2 m1
        clear hk hv hu e1 m1
        have hf2 : ¬ fnd nmsN v < 0 := by omega
        clear hf
        rw [hr]
        simp only [optT, Option.isSome_none, Option.isSome_some, varNo] at VV IV IU ⊢
        clear hr
        clear hk0
        go_enter Tryz.func43, Tryz.ntmps43
        go_wp2_with fail
        refine (VV.out _).mono ?_
        rintro e w1 ⟨rfl, hb1⟩
        have B1 := Lib.hid hb1
        clear hb1
        go_wp2_with fail
        refine (IV.out _).mono ?_
        rintro e w' ⟨rfl, rfl⟩
        go_wp2_with fail
        refine (IU.out _).mono ?_
        rintro e w' ⟨rfl, rfl⟩
        go_wp2_with fail
        go_ret2
        exact ⟨(by first | trivial | rfl), B1.out⟩
      | some u =>
        have hr : swapO S V U = some (mapN (xch v u) k) := by unfold swapO; rw [hk, hv, hu]
        rw [hu] at IU
        rw [hr]
        obtain ⟨hl, hok, ht⟩ := (whole_iff (by omega)).1 hk
        obtain ⟨e1, m1⟩ := varOf_some hv
        obtain ⟨e2, m2⟩ := varOf_some hu
        obtain ⟨hvz, hv0⟩ : ∃ h : 0 < V.size, V[0] = v := by
          obtain rfl : V = ⟨#[v]⟩ := bytes_of e1
          exact ⟨Nat.lt_succ_self 0, rfl⟩
        obtain ⟨huz, hu0⟩ : ∃ h : 0 < U.size, U[0] = u := by
          obtain rfl : U = ⟨#[u]⟩ := bytes_of e2
          exact ⟨Nat.lt_succ_self 0, rfl⟩
        have hz : S.size ≤ 200 := by rw [← len_S]; exact hl
        have HT : Hid (bs (optT (some (mapN (xch v u) k))) = bs (S.data.toList.map (xch v u))) := by
          have : bs (mapN (xch v u) k).text = bs (S.data.toList.map (xch v u)) := by rw [mapN_text, ht]
          exact this
        obtain ⟨RS, hRS⟩ : ∃ R, bs (S.data.toList.map (xch v u)) = R := ⟨_, rfl⟩
        have HRS := Lib.hid hRS
        rw [HT.out, hRS]
        simp only [Option.isSome_some] at VV ⊢
        have hf1 : 0 ≤ fnd nmsN v := fnd_mem.2 m1
        have hf2 : 0 ≤ fnd nmsN u := fnd_mem.2 m2
        simp only [varNo] at IV IU
        generalize fnd nmsN v = nv at *
        generalize fnd nmsN u = nu at *
        clear hr hk hv hu hl hok ht e1 e2 hRS HT m1 m2
        go_enter Tryz.func43, Tryz.ntmps43
        go_wp2_with fail
        refine (VV.out _).mono ?_
        rintro e w1 ⟨rfl, hb1⟩
        have B1 := Lib.hid hb1
        clear hb1
        go_wp2_with fail
        refine (IV.out _).mono ?_
        rintro e w' ⟨rfl, rfl⟩
        go_wp2_with fail
        refine (IU.out _).mono ?_
        rintro e w' ⟨rfl, rfl⟩
        obtain ⟨cap1, w4, hrun1, r1, hb4⟩ := bytes_new w1 S
        have B4 := Lib.hid (below_2 B1.out hb4)
        have hge := B1.out.size
        have R1 : Hid (ByteRow w4 w1.heap.size (prog (xch v u) 0 S.data.toList)) := by rw [prog_zero]; exact r1
        clear r1 hb4 B1 VV IV IU
        go_wp2_with fail
        go_loopg [9] S.size (fun gk i wr => ∃ j : Nat, j + gk = S.size ∧ i = .int .i64 j ∧ Hid (ByteRow wr w1.heap.size (prog (xch v u) j S.data.toList)) ∧ Hid (Below w.heap.size w wr))
        case atStart => exact ⟨0, by omega, rfl, R1, B4⟩
        case round =>
          clear R1 B4
          obtain ⟨j, hj, rfl, R, B⟩ := hrel
          by_cases hlt : j < S.size
          · have hll : j < S.data.toList.length := by rw [len_S]; exact hlt
            obtain ⟨ch, hch⟩ : ∃ c, S.data.toList[j] = c := ⟨_, rfl⟩
            have hcs : S[j] = ch := hch
            have c1 := R.out.at_ (c := ch) (by rw [prog_len]; exact hll) (by rw [prog_get _ hll]; exact hch)
            have f1 := R.out.free j (by rw [prog_len]; exact hll)
            have HCH := Lib.hid hch
            have hput : ∀ (W : World) (x : UInt8), ByteRow W w1.heap.size (prog (xch v u) j S.data.toList) → xch v u ch = x → ByteRow (W.setCell ⟨w1.heap.size, j, none⟩ (.int .u8 (x.toNat : Int))) w1.heap.size (prog (xch v u) (j + 1) S.data.toList) := by
              intro W x h e
              have := h.put (i := j) (by rw [prog_len]; exact hll) (xch v u S.data.toList[j])
              rw [prog_put _ hll, HCH.out, e] at this
              exact this
            have HPUT := Lib.hid hput
            clear hput hch
            have hdr : ∀ n, ByteRow (wr.drewN n) w1.heap.size (prog (xch v u) j S.data.toList) := fun n => R.out.drewN n
            have hbd : ∀ n, Below w.heap.size w (wr.drewN n) := fun n => B.out.trans (below_drewN _ _ n)
            have HDR := Lib.hid hdr
            have HBD := Lib.hid hbd
            clear hdr hbd
            have hput2 : ∀ (W : World) (x : UInt8), ByteRow W w1.heap.size (prog (xch v u) (j + 1) S.data.toList) → xch v u ch = x → ByteRow (W.setCell ⟨w1.heap.size, j, none⟩ (.int .u8 (x.toNat : Int))) w1.heap.size (prog (xch v u) (j + 1) S.data.toList) := by
              intro W x h e
              have := h.put (i := j) (by rw [prog_len]; exact hll) x
              have e2 : (prog (xch v u) (j + 1) S.data.toList).set j x = prog (xch v u) (j + 1) S.data.toList := by
                rw [← prog_put _ hll, HCH.out, e, List.set_set]
              rw [e2] at this
              exact this
            have hat2 : ∀ (W : World), ByteRow W w1.heap.size (prog (xch v u) (j + 1) S.data.toList) → (∃ x : UInt8, W.cell? ⟨w1.heap.size, j, none⟩ = some (.int .u8 (x.toNat : Int))) ∧ W.frozen? ⟨w1.heap.size, j, none⟩ = false := by
              intro W h
              have hl2 : j < (prog (xch v u) (j + 1) S.data.toList).length := by rw [prog_len]; exact hll
              exact ⟨⟨_, h.at_ (c := _) hl2 rfl⟩, h.free j hl2⟩
            have HPUT2 := Lib.hid hput2
            have HAT2 := Lib.hid hat2
            clear hput2 hat2
            by_cases h1 : ch = v
            · subst h1
              go_wp2_with fail
              go_quiet (fail)
              obtain ⟨m1, hm1⟩ : ∃ m, m = nq := ⟨_, rfl⟩
              subst hm1
              have R2 := HPUT.out (wr.drewN m1) u (HDR.out m1) (xch_one _ _)
              have B2 := (HBD.out m1).setCell (p := ⟨w1.heap.size, j, none⟩) hge (.int .u8 (u.toNat : Int))
              have RR2 := Lib.hid R2
              have BB2 := Lib.hid B2
              clear R2 B2
              go_wp2_with fail
              generalize (wr.drewN m1).setCell ⟨w1.heap.size, j, none⟩ (.int .u8 (u.toNat : Int)) = W2 at *
              obtain ⟨⟨x2, c2⟩, f2⟩ := HAT2.out W2 RR2.out
              clear R B HDR HBD c1 f1
              by_cases h2 : ch = u
              · subst h2
                go_quiet (fail)
                have RR3 : Hid (ByteRow ((W2.drewN nq).setCell ⟨w1.heap.size, j, none⟩ (.int .u8 (ch.toNat : Int))) w1.heap.size (prog (xch ch ch) (j + 1) S.data.toList)) := HPUT2.out _ ch (RR2.out.drewN _) (xch_one _ _)
                have BB3 : Hid (Below w.heap.size w ((W2.drewN nq).setCell ⟨w1.heap.size, j, none⟩ (.int .u8 (ch.toNat : Int)))) := (BB2.out.trans (below_drewN _ _ _)).setCell (p := ⟨w1.heap.size, j, none⟩) hge _
                clear HPUT HPUT2 HAT2 HCH
                go_wp2_with fail
                go_roundg (gk - 1)
                case measure => omega
                case rel => exact ⟨j + 1, by omega, by go_num, RR3, BB3⟩
              · have e2 := u8_neq h2
                clear h2 HPUT HPUT2 HAT2 HCH
                go_quiet (fail)
                go_wp2_with fail
                go_roundg (gk - 1)
                case measure => omega
                case rel => exact ⟨j + 1, by omega, by go_num, RR2.out.drewN _, BB2.out.trans (below_drewN _ _ _)⟩
            · have e1 := u8_neq h1
              go_wp2_with fail
              go_quiet (fail)
              obtain ⟨m1, hm1⟩ : ∃ m, m = nq := ⟨_, rfl⟩
              subst hm1
              have RD := Lib.hid (HDR.out m1)
              have BD := Lib.hid (HBD.out m1)
              by_cases h2 : ch = u
              · subst h2
                go_wp2_with fail
                go_quiet (fail)
                have RR3 : Hid (ByteRow (((wr.drewN m1).drewN nq).setCell ⟨w1.heap.size, j, none⟩ (.int .u8 (v.toNat : Int))) w1.heap.size (prog (xch v ch) (j + 1) S.data.toList)) := HPUT.out _ v (RD.out.drewN _) (xch_two _ _)
                have BB3 : Hid (Below w.heap.size w (((wr.drewN m1).drewN nq).setCell ⟨w1.heap.size, j, none⟩ (.int .u8 (v.toNat : Int)))) := (BD.out.trans (below_drewN _ _ _)).setCell (p := ⟨w1.heap.size, j, none⟩) hge _
                clear HPUT HPUT2 HAT2 HCH h1
                go_wp2_with fail
                go_roundg (gk - 1)
                case measure => omega
                case rel => first | exact ⟨j + 1, by omega, by go_num, RR3, BB3⟩ | (rw [World.drewN_drewN] at RR3 BB3; exact ⟨j + 1, by omega, by go_num, RR3, BB3⟩)
              · have e2 := u8_neq h2
                have R2 : Hid (∀ n, ByteRow (wr.drewN n) w1.heap.size (prog (xch v u) (j + 1) S.data.toList)) := fun n => by
                  rw [prog_skip _ hll (by rw [HCH.out]; exact xch_no h1 h2)]; exact R.out.drewN n
                clear HPUT HPUT2 HAT2 HCH h1 h2 RD BD
                go_wp2_with fail
                go_quiet (fail)
                go_wp2_with fail
                go_roundg (gk - 1)
                case measure => omega
                case rel => first | exact ⟨j + 1, by omega, by go_num, (R2.out _), (HBD.out _)⟩ | (rw [World.drewN_drewN]; exact ⟨j + 1, by omega, by go_num, (R2.out _), (HBD.out _)⟩)
          · have hjl : S.data.toList.length ≤ j := by rw [len_S]; omega
            have r1 := R.out
            rw [Pl.prog_all _ hjl] at r1
            have hback := bytes_back r1 (n := S.size) (by rw [List.length_map, len_S]) cap1
            obtain rfl := HRS.out
            clear r1 R hjl
            go_wp2_with fail
            go_ret2
            exact ⟨(by first | trivial | rfl), B.out⟩

end Go.Proofs.YtndlhdmpfnadcaaGreatDoor
