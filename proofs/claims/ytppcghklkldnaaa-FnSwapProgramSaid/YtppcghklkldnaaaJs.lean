/- JoinPrograms and SwapProgram, on both sides. -/
import Derived.Test.YtppcghklkldnaaaSy
import Derived.Test.YtppcghklkldnaaaPlo
import Derived.Test.YtppcghklkldnaaaSv
import Derived.Test.YtppcghklkldnaaaBy
import Derived.Test.YtppcghklkldnaaaDri
namespace Go.Proofs.Ytppcghklkldnaaa
open Go.RowKit
open Pl

def joinO (P Q : ByteArray) : Option Nd :=
  match whole false 2 200 P.data.toList, whole false 2 200 Q.data.toList with
  | some a, some b => if P.size + Q.size + 1 ≤ 200 then some (.n2 59 a b) else none
  | _, _ => none
set_option maxRecDepth 100000 in
set_option maxHeartbeats 4000000 in
theorem JoinPrograms_any (P Q : ByteArray) (hP : P.size ≤ 1000000000000) (hQ : Q.size ≤ 1000000000000) (w : World) : Calls Try.prog 27 #[.string P, .string Q] w fun e w' => (e = .returned (.tuple #[.string (bs (optT (joinO P Q))), .bool (joinO P Q).isSome]) ∧ Below w.heap.size w w') := by
  have V := Lib.hid (fun w => ProgramValid_any P hP w)
  have U := Lib.hid (fun w => ProgramValid_any Q hQ w)
  cases hp : whole false 2 200 P.data.toList with
  | none =>
    have hr : joinO P Q = none := by unfold joinO; rw [hp]
    rw [hp] at V
    rw [hr]
    simp only [optT, Option.isSome_none] at V ⊢
    clear hp hr U
    go_enter Try.func27, Try.ntmps27
    go_wp2_with fail
    refine (V.out _).mono ?_
    rintro e w1 ⟨rfl, hb1⟩
    have B1 := Lib.hid hb1
    clear hb1
    go_wp2_with fail
    go_ret2
    exact ⟨(by first | trivial | rfl), B1.out⟩
  | some a =>
    cases hq : whole false 2 200 Q.data.toList with
    | none =>
      have hr : joinO P Q = none := by unfold joinO; rw [hp, hq]
      rw [hp] at V
      rw [hq] at U
      rw [hr]
      simp only [optT, Option.isSome_none, Option.isSome_some] at V U ⊢
      clear hp hq hr
      go_enter Try.func27, Try.ntmps27
      go_wp2_with fail
      refine (V.out _).mono ?_
      rintro e w1 ⟨rfl, hb1⟩
      have B1 := Lib.hid hb1
      clear hb1
      go_wp2_with fail
      refine (U.out _).mono ?_
      rintro e w2 ⟨rfl, hb2⟩
      have B2 := Lib.hid (below_2 B1.out hb2)
      clear hb2
      go_wp2_with fail
      go_ret2
      exact ⟨(by first | trivial | rfl), B2.out⟩
    | some b =>
      have hr : joinO P Q = if P.size + Q.size + 1 ≤ 200 then some (.n2 59 a b) else none := by unfold joinO; rw [hp, hq]
      obtain ⟨_, _, ha⟩ := (whole_iff (by omega)).1 hp
      obtain ⟨_, _, hb⟩ := (whole_iff (by omega)).1 hq
      rw [hp] at V
      rw [hq] at U
      rw [hr]
      clear hr
      by_cases hl : P.size + Q.size + 1 ≤ 200
      · rw [if_pos hl]
        have ht : bs (optT (some (.n2 59 a b))) = (⟨#[59]⟩ : ByteArray) ++ P ++ Q := by
          rw [nd_lt ha, nd_lt hb]; exact bs_two 59 a b
        rw [ht]
        simp only [Option.isSome_some] at V U ⊢
        have z1 : 1 + P.size ≤ 9223372036854775807 := by omega
        have z2 : 1 + P.size + Q.size ≤ 9223372036854775807 := by omega
        clear hp hq ha hb ht
        go_enter Try.func27, Try.ntmps27
        go_wp2_with fail
        refine (V.out _).mono ?_
        rintro e w1 ⟨rfl, hb1⟩
        have B1 := Lib.hid hb1
        clear hb1
        go_wp2_with fail
        refine (U.out _).mono ?_
        rintro e w2 ⟨rfl, hb2⟩
        have B2 := Lib.hid (below_2 B1.out hb2)
        clear hb2
        go_wp2_with fail
        go_ret2
        exact ⟨(by first | trivial | rfl), B2.out⟩
      · rw [if_neg hl]
        simp only [optT, Option.isSome_none, Option.isSome_some] at V U ⊢
        clear hp hq ha hb
        go_enter Try.func27, Try.ntmps27
        go_wp2_with fail
        refine (V.out _).mono ?_
        rintro e w1 ⟨rfl, hb1⟩
        have B1 := Lib.hid hb1
        clear hb1
        go_wp2_with fail
        refine (U.out _).mono ?_
        rintro e w2 ⟨rfl, hb2⟩
        have B2 := Lib.hid (below_2 B1.out hb2)
        clear hb2
        go_wp2_with fail
        go_ret2
        exact ⟨(by first | trivial | rfl), B2.out⟩
set_option maxRecDepth 100000 in
set_option maxHeartbeats 4000000 in
theorem JoinProgramsS_any (P Q : ByteArray) (hP : P.size ≤ 1000000000000) (hQ : Q.size ≤ 1000000000000) (w : World) : Calls Try.prog 28 #[.string P, .string Q] w fun e w' => (e = .returned (.tuple #[.string (bs (optT (joinO P Q))), .bool (joinO P Q).isSome]) ∧ Below w.heap.size w w') := by
  have V := Lib.hid (fun w => (ProgramValidS_any P w hP).mono fun _ _ h => (⟨h.1, drew_below h.2⟩ : _ ∧ _))
  have U := Lib.hid (fun w => (ProgramValidS_any Q w hQ).mono fun _ _ h => (⟨h.1, drew_below h.2⟩ : _ ∧ _))
  cases hp : whole false 2 200 P.data.toList with
  | none =>
    have hr : joinO P Q = none := by unfold joinO; rw [hp]
    rw [hp] at V
    rw [hr]
    simp only [optT, Option.isSome_none] at V ⊢
    clear hp hr U
    go_enter Try.func28, Try.ntmps28
    go_wp2_with fail
    refine (V.out _).mono ?_
    rintro e w1 ⟨rfl, hb1⟩
    have B1 := Lib.hid hb1
    clear hb1
    go_wp2_with fail
    go_ret2
    exact ⟨(by first | trivial | rfl), B1.out⟩
  | some a =>
    cases hq : whole false 2 200 Q.data.toList with
    | none =>
      have hr : joinO P Q = none := by unfold joinO; rw [hp, hq]
      rw [hp] at V
      rw [hq] at U
      rw [hr]
      simp only [optT, Option.isSome_none, Option.isSome_some] at V U ⊢
      clear hp hq hr
      go_enter Try.func28, Try.ntmps28
      go_wp2_with fail
      refine (V.out _).mono ?_
      rintro e w1 ⟨rfl, hb1⟩
      have B1 := Lib.hid hb1
      clear hb1
      go_wp2_with fail
      refine (U.out _).mono ?_
      rintro e w2 ⟨rfl, hb2⟩
      have B2 := Lib.hid (below_2 B1.out hb2)
      clear hb2
      go_wp2_with fail
      go_ret2
      exact ⟨(by first | trivial | rfl), B2.out⟩
    | some b =>
      have hr : joinO P Q = if P.size + Q.size + 1 ≤ 200 then some (.n2 59 a b) else none := by unfold joinO; rw [hp, hq]
      obtain ⟨_, _, ha⟩ := (whole_iff (by omega)).1 hp
      obtain ⟨_, _, hb⟩ := (whole_iff (by omega)).1 hq
      rw [hp] at V
      rw [hq] at U
      rw [hr]
      clear hr
      by_cases hl : P.size + Q.size + 1 ≤ 200
      · rw [if_pos hl]
        have ht : bs (optT (some (.n2 59 a b))) = (⟨#[59]⟩ : ByteArray) ++ P ++ Q := by
          rw [nd_lt ha, nd_lt hb]; exact bs_two 59 a b
        rw [ht]
        simp only [Option.isSome_some] at V U ⊢
        have z1 : 1 + P.size ≤ 9223372036854775807 := by omega
        have z2 : 1 + P.size + Q.size ≤ 9223372036854775807 := by omega
        clear hp hq ha hb ht
        go_enter Try.func28, Try.ntmps28
        go_wp2_with fail
        refine (V.out _).mono ?_
        rintro e w1 ⟨rfl, hb1⟩
        have B1 := Lib.hid hb1
        clear hb1
        go_wp2_with fail
        refine (U.out _).mono ?_
        rintro e w2 ⟨rfl, hb2⟩
        have B2 := Lib.hid (below_2 B1.out hb2)
        clear hb2
        go_wp2_with fail
        go_ret2
        exact ⟨(by first | trivial | rfl), B2.out⟩
      · rw [if_neg hl]
        simp only [optT, Option.isSome_none, Option.isSome_some] at V U ⊢
        clear hp hq ha hb
        go_enter Try.func28, Try.ntmps28
        go_wp2_with fail
        refine (V.out _).mono ?_
        rintro e w1 ⟨rfl, hb1⟩
        have B1 := Lib.hid hb1
        clear hb1
        go_wp2_with fail
        refine (U.out _).mono ?_
        rintro e w2 ⟨rfl, hb2⟩
        have B2 := Lib.hid (below_2 B1.out hb2)
        clear hb2
        go_wp2_with fail
        go_ret2
        exact ⟨(by first | trivial | rfl), B2.out⟩
set_option maxRecDepth 100000 in
set_option maxHeartbeats 4000000 in
theorem DrawJoinPrograms_any (A : Option Addr) (n cap : Nat) (w : World) (hn : n ≤ 4000000000000) (hc : n ≤ cap) (h : Bytes w A n w.heap.size) :
    Calls Try.prog 26 #[.slice A n cap] w fun e w' => ∃ p q : ByteArray, p.size ≤ 30001 ∧ q.size ≤ 30001 ∧ e = .returned (.tuple #[.string p, .string q]) ∧ Below w.heap.size w w' := by
  have O := Lib.hid (open_ex A n cap w hn hc h)
  clear h
  go_enter Try.func26, Try.ntmps26
  go_wp2_with fail
  refine O.out.mono ?_
  rintro e w0 ⟨g, hg0, rfl, hr0, hb0⟩
  have R0 := Lib.hid hr0
  have G0 : Hid (w.grownBy w0 (some g)) := Lib.hid (grown_of_below hb0 _)
  clear hr0 hb0 O
  go_wp2_with fail
  refine (openP_any g 0 w0 (by omega) R0.out).mono ?_
  rintro e w1 ⟨s1, sb1, rfl, hg1, q1, qa1, qb1, hr1⟩
  have R1 := Lib.hid hr1
  have G1 := Lib.hid (grown_trans G0.out hg1)
  clear hr1 hg1
  go_wp2_with fail
  refine (openP_any g q1 w1 (by omega) R1.out).mono ?_
  rintro e w2 ⟨s2, sb2, rfl, hg2, q2, qa2, qb2, hr2⟩
  have R2 := Lib.hid hr2
  have G2 := Lib.hid (grown_trans G1.out hg2)
  clear hr2 hg2
  go_wp2_with fail
  refine (pick_any g q2 20 w2 (by omega) (by omega) R2.out).mono ?_
  rintro e w3 ⟨v3, ⟨va3, vb3, _⟩, rfl, hg3, q3, qa3, qb3, hr3⟩
  have BB := Lib.hid (below_src (grown_trans G2.out hg3) hg0)
  clear vb3 hr3 hg3
  by_cases hv : v3 = 0
  · subst hv
    go_wp2_with fail
    go_loopg [5] (180 - s1.size) (fun gk p wr => ∃ T : ByteArray, p = .string T ∧ T.size ≤ 30001 ∧ 180 - T.size = gk ∧ wr = w3)
    case atStart => exact ⟨s1, rfl, sb1, rfl, rfl⟩
    case round =>
      obtain ⟨T, rfl, hT, hgk, rfl⟩ := hrel
      by_cases hlt : T.size < 180
      · have z1 : 2 + T.size ≤ 9223372036854775807 := by omega
        have z2 : ((⟨#[59, 115]⟩ : ByteArray) ++ T).size = 2 + T.size := by rw [ByteArray.size_append]; rfl
        have HZ := Lib.hid z2
        clear z2
        go_wp2_with fail
        go_roundg (gk - 2)
        case measure => omega
        case rel => exact ⟨_, rfl, by rw [HZ.out]; omega, by rw [HZ.out]; omega, rfl⟩
      · go_wp2_with fail
        go_ret2
        exact ⟨T, s2, hT, sb2, (by first | trivial | rfl), BB.out⟩
  · have hv' : (v3 == 0) = false := by simp; exact hv
    clear hv
    go_wp2_with fail
    go_ret2
    exact ⟨s1, s2, sb1, sb2, (by first | trivial | rfl), BB.out⟩
def swapO (S V U : ByteArray) : Option Nd :=
  match whole false 2 200 S.data.toList, varOf V.data.toList, varOf U.data.toList with
  | some k, some v, some u => some (mapN (xch v u) k)
  | _, _, _ => none
theorem u8_neq {c d : UInt8} (h : c ≠ d) : ((c.toNat : Int) == (d.toNat : Int)) = false := by
  have : ¬ c.toNat = d.toNat := fun e => h (UInt8.toNat_inj.1 e)
  simp; omega
theorem xch_one (v u : UInt8) : xch v u v = u := by simp [xch]
theorem xch_two (v u : UInt8) : xch v u u = v := by
  unfold xch
  by_cases h : u = v
  · simp [h]
  · simp [h]
theorem xch_no {v u c : UInt8} (h1 : c ≠ v) (h2 : c ≠ u) : xch v u c = c := by simp [xch, h1, h2]
set_option maxRecDepth 100000 in
set_option maxHeartbeats 16000000 in
theorem SwapProgram_any (S V U : ByteArray) (hS : S.size ≤ 1000000000000) (w : World) : Calls Try.prog 46 #[.string S, .string V, .string U] w fun e w' => (e = .returned (.tuple #[.string (bs (optT (swapO S V U))), .bool (swapO S V U).isSome]) ∧ Below w.heap.size w w') := by
  have VV := Lib.hid (fun w => ProgramValid_any S hS w)
  have IV := Lib.hid (fun w => isVar_any V w)
  have IU := Lib.hid (fun w => isVar_any U w)
  cases hk : whole false 2 200 S.data.toList with
  | none =>
    have hr : swapO S V U = none := by unfold swapO; rw [hk]
    rw [hk] at VV
    clear IV IU hk
    rw [hr]
    simp only [optT, Option.isSome_none] at VV ⊢
    clear hr
    go_enter Try.func46, Try.ntmps46
    go_wp2_with fail
    refine (VV.out _).mono ?_
    rintro e w1 ⟨rfl, hb1⟩
    have B1 := Lib.hid hb1
    clear hb1
    go_wp2_with fail
    go_ret2
    exact ⟨(by first | trivial | rfl), B1.out⟩
  | some k =>
    rw [hk] at VV
    cases hv : varOf V.data.toList with
    | none =>
      have hr : swapO S V U = none := by unfold swapO; rw [hk, hv]
      rw [hv] at IV
      clear IU hk hv
      rw [hr]
      simp only [optT, Option.isSome_none, Option.isSome_some] at VV IV ⊢
      clear hr
      go_enter Try.func46, Try.ntmps46
      go_wp2_with fail
      refine (VV.out _).mono ?_
      rintro e w1 ⟨rfl, hb1⟩
      have B1 := Lib.hid hb1
      clear hb1
      go_wp2_with fail
      refine (IV.out _).mono ?_
      rintro e w' ⟨rfl, rfl⟩
      go_wp2_with fail
      go_ret2
      exact ⟨(by first | trivial | rfl), B1.out⟩
    | some v =>
      rw [hv] at IV
      cases hu : varOf U.data.toList with
      | none =>
        have hr : swapO S V U = none := by unfold swapO; rw [hk, hv, hu]
        rw [hu] at IU
        have hk0 := hk
        obtain ⟨e1, m1⟩ := varOf_some hv
        skip
        clear hk hv hu e1 m1 hk0
        rw [hr]
        simp only [optT, Option.isSome_none, Option.isSome_some] at VV IV IU ⊢
        clear hr
        go_enter Try.func46, Try.ntmps46
        go_wp2_with fail
        refine (VV.out _).mono ?_
        rintro e w1 ⟨rfl, hb1⟩
        have B1 := Lib.hid hb1
        clear hb1
        go_wp2_with fail
        refine (IV.out _).mono ?_
        rintro e w' ⟨rfl, rfl⟩
        go_wp2_with fail
        refine (IU.out _).mono ?_
        rintro e w' ⟨rfl, rfl⟩
        go_wp2_with fail
        go_ret2
        exact ⟨(by first | trivial | rfl), B1.out⟩
      | some u =>
        have hr : swapO S V U = some (mapN (xch v u) k) := by unfold swapO; rw [hk, hv, hu]
        rw [hu] at IU
        rw [hr]
        obtain ⟨hl, hok, ht⟩ := (whole_iff (by omega)).1 hk
        obtain ⟨e1, m1⟩ := varOf_some hv
        obtain ⟨e2, m2⟩ := varOf_some hu
        obtain ⟨hvz, hv0⟩ : ∃ h : 0 < V.size, V[0] = v := by
          obtain rfl : V = ⟨#[v]⟩ := bytes_of e1
          exact ⟨Nat.lt_succ_self 0, rfl⟩
        obtain ⟨huz, hu0⟩ : ∃ h : 0 < U.size, U[0] = u := by
          obtain rfl : U = ⟨#[u]⟩ := bytes_of e2
          exact ⟨Nat.lt_succ_self 0, rfl⟩
        have hz : S.size ≤ 200 := by rw [← len_S]; exact hl
        have HT : Hid (bs (optT (some (mapN (xch v u) k))) = bs (S.data.toList.map (xch v u))) := by
          have : bs (mapN (xch v u) k).text = bs (S.data.toList.map (xch v u)) := by rw [mapN_text, ht]
          exact this
        obtain ⟨RS, hRS⟩ : ∃ R, bs (S.data.toList.map (xch v u)) = R := ⟨_, rfl⟩
        have HRS := Lib.hid hRS
        rw [HT.out, hRS]
        simp only [Option.isSome_some] at VV IV IU ⊢
        skip
        clear hr hk hv hu hl hok ht e1 e2 hRS HT m1 m2
        go_enter Try.func46, Try.ntmps46
        go_wp2_with fail
        refine (VV.out _).mono ?_
        rintro e w1 ⟨rfl, hb1⟩
        have B1 := Lib.hid hb1
        clear hb1
        go_wp2_with fail
        refine (IV.out _).mono ?_
        rintro e w' ⟨rfl, rfl⟩
        go_wp2_with fail
        refine (IU.out _).mono ?_
        rintro e w' ⟨rfl, rfl⟩
        obtain ⟨cap1, w4, hrun1, r1, hb4⟩ := bytes_new w1 S
        have B4 := Lib.hid (below_2 B1.out hb4)
        have hge := B1.out.size
        have R1 : Hid (ByteRow w4 w1.heap.size (prog (xch v u) 0 S.data.toList)) := by rw [prog_zero]; exact r1
        clear r1 hb4 B1 VV IV IU
        go_wp2_with fail
        go_loopg [28] S.size (fun gk i wr => ∃ j : Nat, j + gk = S.size ∧ i = .int .i64 j ∧ Hid (ByteRow wr w1.heap.size (prog (xch v u) j S.data.toList)) ∧ Hid (Below w.heap.size w wr))
        case atStart => exact ⟨0, by omega, rfl, R1, B4⟩
        case round =>
          clear R1 B4
          obtain ⟨j, hj, rfl, R, B⟩ := hrel
          by_cases hlt : j < S.size
          · have hll : j < S.data.toList.length := by rw [len_S]; exact hlt
            obtain ⟨ch, hch⟩ : ∃ c, S.data.toList[j] = c := ⟨_, rfl⟩
            have hcs : S[j] = ch := hch
            have c1 := R.out.at_ (c := ch) (by rw [prog_len]; exact hll) (by rw [prog_get _ hll]; exact hch)
            have f1 := R.out.free j (by rw [prog_len]; exact hll)
            have HCH := Lib.hid hch
            have hput : ∀ (W : World) (x : UInt8), ByteRow W w1.heap.size (prog (xch v u) j S.data.toList) → xch v u ch = x → ByteRow (W.setCell ⟨w1.heap.size, j, none⟩ (.int .u8 (x.toNat : Int))) w1.heap.size (prog (xch v u) (j + 1) S.data.toList) := by
              intro W x h e
              have := h.put (i := j) (by rw [prog_len]; exact hll) (xch v u S.data.toList[j])
              rw [prog_put _ hll, HCH.out, e] at this
              exact this
            have HPUT := Lib.hid hput
            clear hput hch
            by_cases h1 : ch = v
            · subst h1
              have R2 := Lib.hid (HPUT.out wr u R.out (xch_one _ _))
              have B2 := Lib.hid (B.out.setCell (p := ⟨w1.heap.size, j, none⟩) hge (.int .u8 (u.toNat : Int)))
              clear HPUT R B HCH
              go_wp2_with fail
              go_roundg (gk - 1)
              case measure => omega
              case rel => exact ⟨j + 1, by omega, by go_num, R2, B2⟩
            · have e1 := u8_neq h1
              by_cases h2 : ch = u
              · subst h2
                have R2 := Lib.hid (HPUT.out wr v R.out (xch_two _ _))
                have B2 := Lib.hid (B.out.setCell (p := ⟨w1.heap.size, j, none⟩) hge (.int .u8 (v.toNat : Int)))
                clear HPUT R B HCH h1
                go_wp2_with fail
                go_roundg (gk - 1)
                case measure => omega
                case rel => exact ⟨j + 1, by omega, by go_num, R2, B2⟩
              · have e2 := u8_neq h2
                have R2 : Hid (ByteRow wr w1.heap.size (prog (xch v u) (j + 1) S.data.toList)) := by
                  rw [prog_skip _ hll (by rw [HCH.out]; exact xch_no h1 h2)]; exact R
                clear HPUT R HCH h1 h2
                go_wp2_with fail
                go_roundg (gk - 1)
                case measure => omega
                case rel => exact ⟨j + 1, by omega, by go_num, R2, B⟩
          · have hjl : S.data.toList.length ≤ j := by rw [len_S]; omega
            have r1 := R.out
            rw [Pl.prog_all _ hjl] at r1
            have hback := bytes_back r1 (n := S.size) (by rw [List.length_map, len_S]) cap1
            obtain rfl := HRS.out
            clear r1 R hjl
            go_wp2_with fail
            go_ret2
            exact ⟨(by first | trivial | rfl), B.out⟩
set_option maxRecDepth 100000 in
set_option maxHeartbeats 16000000 in
theorem SwapProgramS_any (S V U : ByteArray) (hS : S.size ≤ 1000000000000) (hV : V.size ≤ 1000000000000) (hU : U.size ≤ 1000000000000) (w : World) : Calls Try.prog 47 #[.string S, .string V, .string U] w fun e w' => (e = .returned (.tuple #[.string (bs (optT (swapO S V U))), .bool (swapO S V U).isSome]) ∧ Below w.heap.size w w') := by
  have VV := Lib.hid (fun w => (ProgramValidS_any S w hS).mono fun _ _ h => (⟨h.1, drew_below h.2⟩ : _ ∧ _))
  have IV := Lib.hid (fun w => l1Var_any V hV w)
  have IU := Lib.hid (fun w => l1Var_any U hU w)
  cases hk : whole false 2 200 S.data.toList with
  | none =>
    have hr : swapO S V U = none := by unfold swapO; rw [hk]
    rw [hk] at VV
    clear IV IU hk
    rw [hr]
    simp only [optT, Option.isSome_none] at VV ⊢
    clear hr
    go_enter Try.func47, Try.ntmps47
    go_wp2_with fail
    refine (VV.out _).mono ?_
    rintro e w1 ⟨rfl, hb1⟩
    have B1 := Lib.hid hb1
    clear hb1
    go_wp2_with fail
    go_ret2
    exact ⟨(by first | trivial | rfl), B1.out⟩
  | some k =>
    rw [hk] at VV
    cases hv : varOf V.data.toList with
    | none =>
      have hr : swapO S V U = none := by unfold swapO; rw [hk, hv]
      rw [hv] at IV
      clear IU hk hv
      rw [hr]
      simp only [optT, Option.isSome_none, Option.isSome_some, varNo] at VV IV ⊢
      clear hr
      go_enter Try.func47, Try.ntmps47
      go_wp2_with fail
      refine (VV.out _).mono ?_
      rintro e w1 ⟨rfl, hb1⟩
      have B1 := Lib.hid hb1
      clear hb1
      go_wp2_with fail
      refine (IV.out _).mono ?_
      rintro e w' ⟨rfl, rfl⟩
      go_wp2_with fail
      go_ret2
      exact ⟨(by first | trivial | rfl), B1.out⟩
    | some v =>
      rw [hv] at IV
      cases hu : varOf U.data.toList with
      | none =>
        have hr : swapO S V U = none := by unfold swapO; rw [hk, hv, hu]
        rw [hu] at IU
        have hk0 := hk
        obtain ⟨e1, m1⟩ := varOf_some hv
        have hf := (fnd_mem (c := v) (l := nmsN)).2 m1
        clear hk hv hu e1 m1
        have hf2 : ¬ fnd nmsN v < 0 := by omega
        clear hf
        rw [hr]
        simp only [optT, Option.isSome_none, Option.isSome_some, varNo] at VV IV IU ⊢
        clear hr
        clear hk0
        go_enter Try.func47, Try.ntmps47
        go_wp2_with fail
        refine (VV.out _).mono ?_
        rintro e w1 ⟨rfl, hb1⟩
        have B1 := Lib.hid hb1
        clear hb1
        go_wp2_with fail
        refine (IV.out _).mono ?_
        rintro e w' ⟨rfl, rfl⟩
        go_wp2_with fail
        refine (IU.out _).mono ?_
        rintro e w' ⟨rfl, rfl⟩
        go_wp2_with fail
        go_ret2
        exact ⟨(by first | trivial | rfl), B1.out⟩
      | some u =>
        have hr : swapO S V U = some (mapN (xch v u) k) := by unfold swapO; rw [hk, hv, hu]
        rw [hu] at IU
        rw [hr]
        obtain ⟨hl, hok, ht⟩ := (whole_iff (by omega)).1 hk
        obtain ⟨e1, m1⟩ := varOf_some hv
        obtain ⟨e2, m2⟩ := varOf_some hu
        obtain ⟨hvz, hv0⟩ : ∃ h : 0 < V.size, V[0] = v := by
          obtain rfl : V = ⟨#[v]⟩ := bytes_of e1
          exact ⟨Nat.lt_succ_self 0, rfl⟩
        obtain ⟨huz, hu0⟩ : ∃ h : 0 < U.size, U[0] = u := by
          obtain rfl : U = ⟨#[u]⟩ := bytes_of e2
          exact ⟨Nat.lt_succ_self 0, rfl⟩
        have hz : S.size ≤ 200 := by rw [← len_S]; exact hl
        have HT : Hid (bs (optT (some (mapN (xch v u) k))) = bs (S.data.toList.map (xch v u))) := by
          have : bs (mapN (xch v u) k).text = bs (S.data.toList.map (xch v u)) := by rw [mapN_text, ht]
          exact this
        obtain ⟨RS, hRS⟩ : ∃ R, bs (S.data.toList.map (xch v u)) = R := ⟨_, rfl⟩
        have HRS := Lib.hid hRS
        rw [HT.out, hRS]
        simp only [Option.isSome_some] at VV ⊢
        have hf1 : 0 ≤ fnd nmsN v := fnd_mem.2 m1
        have hf2 : 0 ≤ fnd nmsN u := fnd_mem.2 m2
        simp only [varNo] at IV IU
        generalize fnd nmsN v = nv at *
        generalize fnd nmsN u = nu at *
        clear hr hk hv hu hl hok ht e1 e2 hRS HT m1 m2
        go_enter Try.func47, Try.ntmps47
        go_wp2_with fail
        refine (VV.out _).mono ?_
        rintro e w1 ⟨rfl, hb1⟩
        have B1 := Lib.hid hb1
        clear hb1
        go_wp2_with fail
        refine (IV.out _).mono ?_
        rintro e w' ⟨rfl, rfl⟩
        go_wp2_with fail
        refine (IU.out _).mono ?_
        rintro e w' ⟨rfl, rfl⟩
        obtain ⟨cap1, w4, hrun1, r1, hb4⟩ := bytes_new w1 S
        have B4 := Lib.hid (below_2 B1.out hb4)
        have hge := B1.out.size
        have R1 : Hid (ByteRow w4 w1.heap.size (prog (xch v u) 0 S.data.toList)) := by rw [prog_zero]; exact r1
        clear r1 hb4 B1 VV IV IU
        go_wp2_with fail
        go_loopg [9] S.size (fun gk i wr => ∃ j : Nat, j + gk = S.size ∧ i = .int .i64 j ∧ Hid (ByteRow wr w1.heap.size (prog (xch v u) j S.data.toList)) ∧ Hid (Below w.heap.size w wr))
        case atStart => exact ⟨0, by omega, rfl, R1, B4⟩
        case round =>
          clear R1 B4
          obtain ⟨j, hj, rfl, R, B⟩ := hrel
          by_cases hlt : j < S.size
          · have hll : j < S.data.toList.length := by rw [len_S]; exact hlt
            obtain ⟨ch, hch⟩ : ∃ c, S.data.toList[j] = c := ⟨_, rfl⟩
            have hcs : S[j] = ch := hch
            have c1 := R.out.at_ (c := ch) (by rw [prog_len]; exact hll) (by rw [prog_get _ hll]; exact hch)
            have f1 := R.out.free j (by rw [prog_len]; exact hll)
            have HCH := Lib.hid hch
            have hput : ∀ (W : World) (x : UInt8), ByteRow W w1.heap.size (prog (xch v u) j S.data.toList) → xch v u ch = x → ByteRow (W.setCell ⟨w1.heap.size, j, none⟩ (.int .u8 (x.toNat : Int))) w1.heap.size (prog (xch v u) (j + 1) S.data.toList) := by
              intro W x h e
              have := h.put (i := j) (by rw [prog_len]; exact hll) (xch v u S.data.toList[j])
              rw [prog_put _ hll, HCH.out, e] at this
              exact this
            have HPUT := Lib.hid hput
            clear hput hch
            have hdr : ∀ n, ByteRow (wr.drewN n) w1.heap.size (prog (xch v u) j S.data.toList) := fun n => R.out.drewN n
            have hbd : ∀ n, Below w.heap.size w (wr.drewN n) := fun n => B.out.trans (below_drewN _ _ n)
            have HDR := Lib.hid hdr
            have HBD := Lib.hid hbd
            clear hdr hbd
            have hput2 : ∀ (W : World) (x : UInt8), ByteRow W w1.heap.size (prog (xch v u) (j + 1) S.data.toList) → xch v u ch = x → ByteRow (W.setCell ⟨w1.heap.size, j, none⟩ (.int .u8 (x.toNat : Int))) w1.heap.size (prog (xch v u) (j + 1) S.data.toList) := by
              intro W x h e
              have := h.put (i := j) (by rw [prog_len]; exact hll) x
              have e2 : (prog (xch v u) (j + 1) S.data.toList).set j x = prog (xch v u) (j + 1) S.data.toList := by
                rw [← prog_put _ hll, HCH.out, e, List.set_set]
              rw [e2] at this
              exact this
            have hat2 : ∀ (W : World), ByteRow W w1.heap.size (prog (xch v u) (j + 1) S.data.toList) → (∃ x : UInt8, W.cell? ⟨w1.heap.size, j, none⟩ = some (.int .u8 (x.toNat : Int))) ∧ W.frozen? ⟨w1.heap.size, j, none⟩ = false := by
              intro W h
              have hl2 : j < (prog (xch v u) (j + 1) S.data.toList).length := by rw [prog_len]; exact hll
              exact ⟨⟨_, h.at_ (c := _) hl2 rfl⟩, h.free j hl2⟩
            have HPUT2 := Lib.hid hput2
            have HAT2 := Lib.hid hat2
            clear hput2 hat2
            by_cases h1 : ch = v
            · subst h1
              go_wp2_with fail
              go_quiet (fail)
              obtain ⟨m1, hm1⟩ : ∃ m, m = nq := ⟨_, rfl⟩
              subst hm1
              have R2 := HPUT.out (wr.drewN m1) u (HDR.out m1) (xch_one _ _)
              have B2 := (HBD.out m1).setCell (p := ⟨w1.heap.size, j, none⟩) hge (.int .u8 (u.toNat : Int))
              have RR2 := Lib.hid R2
              have BB2 := Lib.hid B2
              clear R2 B2
              go_wp2_with fail
              generalize (wr.drewN m1).setCell ⟨w1.heap.size, j, none⟩ (.int .u8 (u.toNat : Int)) = W2 at *
              obtain ⟨⟨x2, c2⟩, f2⟩ := HAT2.out W2 RR2.out
              clear R B HDR HBD c1 f1
              by_cases h2 : ch = u
              · subst h2
                go_quiet (fail)
                have RR3 : Hid (ByteRow ((W2.drewN nq).setCell ⟨w1.heap.size, j, none⟩ (.int .u8 (ch.toNat : Int))) w1.heap.size (prog (xch ch ch) (j + 1) S.data.toList)) := HPUT2.out _ ch (RR2.out.drewN _) (xch_one _ _)
                have BB3 : Hid (Below w.heap.size w ((W2.drewN nq).setCell ⟨w1.heap.size, j, none⟩ (.int .u8 (ch.toNat : Int)))) := (BB2.out.trans (below_drewN _ _ _)).setCell (p := ⟨w1.heap.size, j, none⟩) hge _
                clear HPUT HPUT2 HAT2 HCH
                go_wp2_with fail
                go_roundg (gk - 1)
                case measure => omega
                case rel => exact ⟨j + 1, by omega, by go_num, RR3, BB3⟩
              · have e2 := u8_neq h2
                clear h2 HPUT HPUT2 HAT2 HCH
                go_quiet (fail)
                go_wp2_with fail
                go_roundg (gk - 1)
                case measure => omega
                case rel => exact ⟨j + 1, by omega, by go_num, RR2.out.drewN _, BB2.out.trans (below_drewN _ _ _)⟩
            · have e1 := u8_neq h1
              go_wp2_with fail
              go_quiet (fail)
              obtain ⟨m1, hm1⟩ : ∃ m, m = nq := ⟨_, rfl⟩
              subst hm1
              have RD := Lib.hid (HDR.out m1)
              have BD := Lib.hid (HBD.out m1)
              by_cases h2 : ch = u
              · subst h2
                go_wp2_with fail
                go_quiet (fail)
                have RR3 : Hid (ByteRow (((wr.drewN m1).drewN nq).setCell ⟨w1.heap.size, j, none⟩ (.int .u8 (v.toNat : Int))) w1.heap.size (prog (xch v ch) (j + 1) S.data.toList)) := HPUT.out _ v (RD.out.drewN _) (xch_two _ _)
                have BB3 : Hid (Below w.heap.size w (((wr.drewN m1).drewN nq).setCell ⟨w1.heap.size, j, none⟩ (.int .u8 (v.toNat : Int)))) := (BD.out.trans (below_drewN _ _ _)).setCell (p := ⟨w1.heap.size, j, none⟩) hge _
                clear HPUT HPUT2 HAT2 HCH h1
                go_wp2_with fail
                go_roundg (gk - 1)
                case measure => omega
                case rel => first | exact ⟨j + 1, by omega, by go_num, RR3, BB3⟩ | (rw [World.drewN_drewN] at RR3 BB3; exact ⟨j + 1, by omega, by go_num, RR3, BB3⟩)
              · have e2 := u8_neq h2
                have R2 : Hid (∀ n, ByteRow (wr.drewN n) w1.heap.size (prog (xch v u) (j + 1) S.data.toList)) := fun n => by
                  rw [prog_skip _ hll (by rw [HCH.out]; exact xch_no h1 h2)]; exact R.out.drewN n
                clear HPUT HPUT2 HAT2 HCH h1 h2 RD BD
                go_wp2_with fail
                go_quiet (fail)
                go_wp2_with fail
                go_roundg (gk - 1)
                case measure => omega
                case rel => first | exact ⟨j + 1, by omega, by go_num, (R2.out _), (HBD.out _)⟩ | (rw [World.drewN_drewN]; exact ⟨j + 1, by omega, by go_num, (R2.out _), (HBD.out _)⟩)
          · have hjl : S.data.toList.length ≤ j := by rw [len_S]; omega
            have r1 := R.out
            rw [Pl.prog_all _ hjl] at r1
            have hback := bytes_back r1 (n := S.size) (by rw [List.length_map, len_S]) cap1
            obtain rfl := HRS.out
            clear r1 R hjl
            go_wp2_with fail
            go_ret2
            exact ⟨(by first | trivial | rfl), B.out⟩

end Go.Proofs.Ytppcghklkldnaaa
