/- The law FnSubstTest: the walk. -/
import Derived.Test.YtonadnfbnpkneaaDoorDrh
import Derived.Test.YtonadnfbnpkneaaDoorSub
import Derived.Test.YtonadnfbnpkneaaDoorPp
import Derived.Test.YtonadnfbnpkneaaDoorSs
import Derived.Test.YtonadnfbnpkneaaDoorLwa
import Derived.Test.YtonadnfbnpkneaaDoorShl
import Derived.Deep.RegionHeld3
import Derived.Deep.LoopGhost
import Derived.Deep.DeepCutAuto
import Derived.Deep.CutBlock
namespace Go.Proofs.YtonadnfbnpkneaaDoor.fnSubstTest
open Go.RowKit
open Pl
set_option linter.unusedVariables false

theorem state_ok {i : Nat} (hi : i < 27) : stB ((i : Int) % 3) ((i : Int) / 3 % 3) ((i : Int) / 9) = true := by
  simp only [stB, Bool.and_eq_true]
  exact ⟨inB_small.2 ⟨by omega, by omega⟩, inB_small.2 ⟨by omega, by omega⟩, inB_small.2 ⟨by omega, by omega⟩⟩
theorem sub_id {v : UInt8} {b : List UInt8} : ∀ {l : List UInt8}, v ∉ l → sub v b l = l
  | [], _ => rfl
  | c :: l, h => by
    rw [sub_cons, if_neg (fun e => h (by rw [e]; exact List.mem_cons_self)), sub_id (fun hm => h (List.mem_cons_of_mem _ hm))]
    rfl
theorem sts_c {w W : World} {g j : Nat} (H : Sit w W (sts g)) (hj : j < 27) : W.cell? ⟨g, j * 3, none⟩ = some (.int .i64 ((j : Int) % 3)) ∧ W.cell? ⟨g, j * 3 + 1, none⟩ = some (.int .i64 ((j : Int) / 3 % 3)) ∧ W.cell? ⟨g, j * 3 + 2, none⟩ = some (.int .i64 ((j : Int) / 9)) :=
  ⟨H.get (mem_sts hj).1, H.get (mem_sts hj).2.1, H.get (mem_sts hj).2.2⟩

set_option maxRecDepth 100000 in
set_option maxHeartbeats 8000000 in
theorem walk (a0 : Option Addr) (len0 cap0 : Nat) (w : World) (hb0 : Bytes w a0 len0 w.heap.size) (hl0 : len0 ≤ cap0) (hc0 : cap0 ≤ 9223372036854775807) (hm : Most w) :
    Calls Tryd.prog 4 #[.slice a0 len0 cap0] w fun e w' => e = .returned (.bool true) ∧ Below w.heap.size w w' := by
  by_cases hbig : 1048576 < len0
  · clear hb0 hm
    go_enter Tryd.func4, Tryd.ntmps4
    go_wp2_with fail
    go_ret
    exact ⟨rfl, by first | exact Below.refl _ _ | exact below_n _ _ | exact (below_n _ _).alloc (by simp) _⟩
  have D := Lib.hid (DrawSubstTest_any a0 len0 cap0 w (by omega) hl0 hb0)
  have M := Lib.hid hm
  clear hb0 hm
  go_enter Tryd.func4, Tryd.ntmps4
  go_wp2_with fail
  refine D.out.mono ?_
  rintro e w1 ⟨S, V, B, hS, hV, hB, rfl, hb1⟩
  clear D
  have B1 := Lib.hid hb1
  clear hb1
  have hVs := which_size hV
  clear hV
  have X1 := Lib.hid (fun w hm => SubstTest_any S V B (by omega) (by omega) w hm)
  have X2 := Lib.hid (fun w => SubstTestS_any S V B (by omega) (by omega) (by omega) w)
  clear hVs
  have key : sbO 1 S V B = .tuple #[.string (bs []), .bool false] ∨ ∃ (k1 k3 : Nd) (c : UInt8), whole false 1 200 S.data.toList = some k1 ∧ varOf V.data.toList = some c ∧ whole false 0 200 B.data.toList = some k3 ∧
      (sub c B.data.toList S.data.toList).length ≤ 200 ∧ sbO 1 S V B = .tuple #[.string (bs (sub c B.data.toList S.data.toList)), .bool true] := by
    unfold sbO
    cases h1 : whole false 1 200 S.data.toList with
    | none => exact .inl rfl
    | some k1 =>
      cases h2 : varOf V.data.toList with
      | none => exact .inl rfl
      | some c =>
        cases h3 : whole false 0 200 B.data.toList with
        | none => exact .inl rfl
        | some k3 =>
          simp only [sbV]
          by_cases h : (sub c B.data.toList S.data.toList).length ≤ 200
          · rw [if_pos h]; exact .inr ⟨k1, k3, c, rfl, rfl, rfl, h, rfl⟩
          · rw [if_neg h]; exact .inl rfl
  rcases key with h0 | ⟨k1, k3, c, h1, h2, h3, hlen, h0⟩
  · rw [h0] at X1 X2
    clear h0
    have q0 : ((bs []).toList != (bs []).toList) = false := by simp
    have q1 : ((bs []).toList == (bs []).toList) = true := by simp
    generalize bs [] = X at *
    go_wp2_with fail
    refine (X1.out _ (M.out.below B1.out)).mono ?_
    rintro e w2 ⟨rfl, hb⟩
    have B2 := Lib.hid (below_2 B1.out hb)
    clear hb
    go_wp2_with fail
    refine (X2.out _).mono ?_
    rintro e w3 ⟨rfl, hb⟩
    have B3 := Lib.hid (below_2 B2.out hb)
    clear hb
    go_wp2_with fail
    go_ret
    exact ⟨rfl, B3.out⟩
  · rw [h0] at X1 X2
    clear h0
    obtain ⟨hv, hcm⟩ := varOf_some h2
    obtain rfl := bytes_of hv
    clear h2 hv
    obtain ⟨hle1, hk1, htx1⟩ := (whole_iff (by omega)).1 h1
    obtain ⟨hle3, hk3, htx3⟩ := (whole_iff (by omega)).1 h3
    have hcv : isV false c = true := mem_nms.1 (show c ∈ nms false from hcm)
    obtain ⟨_, hcd, _⟩ := isV_not hcv
    obtain ⟨sok, stx⟩ := sub_ok hcv hk3 (s := 1) (by omega) hk1
    rw [← htx1, ← htx3] at stx
    have hwx : whole false 1 200 (sub c B.data.toList S.data.toList) = some (subN c k3 k1) := by
      have := whole_text (most := 200) sok (by rw [stx]; exact hlen)
      rwa [stx] at this
    have hxz : (bs (sub c B.data.toList S.data.toList)).size ≤ 200 := by rw [bs_size]; exact hlen
    have EV := Lib.hid (fun w => TestValid_any (bs (sub c B.data.toList S.data.toList)) (by omega) w)
    rw [bs_list, hwx] at EV
    simp only [Option.isSome_some] at EV
    have EX := Lib.hid (fun w => TestVars_any S (by omega) w)
    have hpv : ∀ j : Nat, j < 27 → ∃ (u pa pb pc : Int) (v : Bool),
        (∀ w, Calls Tryd.prog 10 #[.string B, .agg #[.int .i64 ((j : Int) % 3), .int .i64 ((j : Int) / 3 % 3), .int .i64 ((j : Int) / 9)]] w fun e w' => (e = .returned (.int .i64 u) ∧ Below w.heap.size w w')) ∧
        (∀ w, Calls Tryd.prog 9 #[.agg #[.int .i64 ((j : Int) % 3), .int .i64 ((j : Int) / 3 % 3), .int .i64 ((j : Int) / 9)], .string ⟨#[c]⟩, .int .i64 u] w fun e w' => (e = .returned (.tuple #[.agg #[.int .i64 pa, .int .i64 pb, .int .i64 pc], .bool true]) ∧ Below w.heap.size w w')) ∧
        (∀ w, Calls Tryd.prog 17 #[.string (bs (sub c B.data.toList S.data.toList)), .agg #[.int .i64 ((j : Int) % 3), .int .i64 ((j : Int) / 3 % 3), .int .i64 ((j : Int) / 9)]] w fun e w' => (e = .returned (.bool v) ∧ Below w.heap.size w w')) ∧
        (∀ w, Calls Tryd.prog 17 #[.string S, .agg #[.int .i64 pa, .int .i64 pb, .int .i64 pc]] w fun e w' => (e = .returned (.bool v) ∧ Below w.heap.size w w')) := by
      intro j hj
      have hst := state_ok hj
      obtain ⟨sx, sy, sz⟩ := stB_small hst
      have s0 : small 0 := ⟨by omega, by omega⟩
      have hu := val_small (ρ := envOf ((j : Int) % 3) ((j : Int) / 3 % 3) ((j : Int) / 9) 0 0 0) (fun c => envOf_small sx sy sz s0 s0 s0 c) k3
      have E1 := fun w => ppValue_any B (by omega) ((j : Int) % 3) ((j : Int) / 3 % 3) ((j : Int) / 9) w
      rw [h3, hst] at E1
      simp only [evV, if_true] at E1
      have E3 := fun w => ppTrue_any (bs (sub c B.data.toList S.data.toList)) (by omega) ((j : Int) % 3) ((j : Int) / 3 % 3) ((j : Int) / 9) w
      rw [bs_list, hwx, hst] at E3
      simp only [evT, Bool.true_and, sub_tru hcv hk1] at E3
      have E2 := fun w => SetVar_any ((j : Int) % 3) ((j : Int) / 3 % 3) ((j : Int) / 9) (val (envOf ((j : Int) % 3) ((j : Int) / 3 % 3) ((j : Int) / 9) 0 0 0) k3) ⟨#[c]⟩ w
      rw [show (⟨#[c]⟩ : ByteArray).data.toList = [c] from rfl, varOf_one hcm, hst, inB_small.2 hu] at E2
      simp only [sv1, svB, if_true, Option.isSome_some, Bool.and_true] at E2
      generalize val (envOf ((j : Int) % 3) ((j : Int) / 3 % 3) ((j : Int) / 9) 0 0 0) k3 = u at *
      rw [envOf_put_fun hcm] at E3
      have E4 := fun w => ppTrue_any S (by omega) (put1 c 120 u ((j : Int) % 3)) (put1 c 121 u ((j : Int) / 3 % 3)) (put1 c 122 u ((j : Int) / 9)) w
      have hst2 : stB (put1 c 120 u ((j : Int) % 3)) (put1 c 121 u ((j : Int) / 3 % 3)) (put1 c 122 u ((j : Int) / 9)) = true := by
        simp only [stB, Bool.and_eq_true]
        exact ⟨inB_small.2 (put1_small hu sx), inB_small.2 (put1_small hu sy), inB_small.2 (put1_small hu sz)⟩
      rw [h1, hst2] at E4
      simp only [evT, Bool.true_and] at E4
      exact ⟨_, _, _, _, _, E1, E2, E3, E4⟩
    have HPV := Lib.hid hpv
    have hvz : (⟨(vsTest S.data.toList).toArray⟩ : ByteArray).size ≤ 1000000 := by
      show (vsTest S.data.toList).toArray.size ≤ _
      rw [List.size_toArray]
      unfold vsTest
      split
      · have h3 := vars_len (ns := nmsN) (l := S.data.toList)
        have h4 : nmsN.length = 3 := rfl
        omega
      · simp
    have PH := Lib.hid (fun w => has_one ⟨(vsTest S.data.toList).toArray⟩ c hvz w)
    clear hvz
    rw [show (⟨(vsTest S.data.toList).toArray⟩ : ByteArray).data.toList = vsTest S.data.toList from rfl] at PH
    have hem : hasB (vsTest S.data.toList) c = false → bs (sub c B.data.toList S.data.toList) = S := by
      intro h
      have hn : c ∉ S.data.toList := by
        intro hmem
        have : c ∈ vsTest S.data.toList := by
          unfold vsTest
          rw [h1]
          simp only [Option.isSome_some, if_true]
          exact mem_vars.2 ⟨hcm, hmem⟩
        simp [hasB, this] at h
      rw [sub_id hn, bs_of]
    have HEM := Lib.hid hem
    obtain ⟨VB, hVB⟩ : ∃ B : ByteArray, ⟨(vsTest S.data.toList).toArray⟩ = B := ⟨_, rfl⟩
    simp only [str, hVB] at EX PH
    generalize hasB (vsTest S.data.toList) c = hb at *
    clear hem hVB hpv hwx stx sok hk1 hk3 hle1 hle3 htx1 htx3 h1 h3 hcv hcd hlen
    generalize bs (sub c B.data.toList S.data.toList) = X at *
    have q0 : (X.toList != X.toList) = false := by simp
    have q1 : (X.toList == X.toList) = true := by simp
    go_wp2_with fail
    refine (X1.out _ (M.out.below B1.out)).mono ?_
    rintro e w2 ⟨rfl, hb⟩
    have B2 := Lib.hid (below_2 B1.out hb)
    clear hb
    go_wp2_with fail
    refine (X2.out _).mono ?_
    rintro e w3 ⟨rfl, hb⟩
    have B3 := Lib.hid (below_2 B2.out hb)
    clear hb
    go_wp2_with fail
    refine (ppStates_any _).mono ?_
    rintro e w5 ⟨g, cap, hcap, rfl, hs⟩
    have HH : Hid (Sit w w5 (sts g)) := Lib.hid ⟨below_2 B3.out hs.below, hs.cells⟩
    clear hs X1 X2
    go_wp2_with fail
    go_loopg [11] 27 (fun gk i wr => ∃ k : Nat, k + gk = 27 ∧ i = .int .i64 k ∧ Hid (Sit w wr (sts g)))
    case atStart => exact ⟨0, rfl, rfl, HH⟩
    case round =>
      clear HH
      obtain ⟨j, hj, rfl, HH⟩ := hrel
      have H := HH.out
      clear HH
      by_cases hlt : j < 27
      · obtain ⟨u, pa, pb, pc, v, P1, P2, P3, P4⟩ := HPV.out j hlt
        have PA := Lib.hid P1
        have PB := Lib.hid P2
        have PC := Lib.hid P3
        have PD := Lib.hid P4
        have q3 : (v != v) = false := by simp
        clear P1 P2 P3 P4
        obtain ⟨d0, d1, d2⟩ := sts_c H hlt
        go_upto_region 12 with fail
        go_cut [12, 13] (fun s12 s13 wx => ∃ g' : Nat, s12 = .pointer (some ⟨g', 0, none⟩) ∧ s13 = .bool true ∧ Hid (Sit w wx (sts g)) ∧ Hid (New w wx (sts g) g' 30 #[.int .i64 pa, .int .i64 pb, .int .i64 pc]))
        case first =>
          go_region_held3 (fun W => W.cell? ⟨g, j * 3, none⟩ = some (.int .i64 ((j : Int) % 3)) ∧ W.cell? ⟨g, j * 3 + 1, none⟩ = some (.int .i64 ((j : Int) / 3 % 3)) ∧ W.cell? ⟨g, j * 3 + 2, none⟩ = some (.int .i64 ((j : Int) / 9))) (first | with_reducible exact sts_c H hlt | with_reducible exact sts_c (H.alloc _) hlt | with_reducible exact sts_c (H.put3 N _ _ _) hlt | with_reducible exact sts_c H.drew hlt | with_reducible exact sts_c (H.alloc _).drew hlt) ((first | (go_at_call 10; refine (PA.out _).mono ?_; rintro e wn ⟨rfl, hb⟩; first | (with_reducible have N' := N.call hb; have H' := H.call hb; clear N H hb g0 g1 g2 h0 h1 h2; have N := N'; have H := H'; clear N' H'; have g0 := N.blk.cell 0; have g1 := N.blk.cell 1; have g2 := N.blk.cell 2; have h0 := N.blk.frozen 0; have h1 := N.blk.frozen 1; have h2 := N.blk.frozen 2; simp at g0 g1 g2) | (with_reducible have H' := H.call hb; clear H hb; have H := H'; clear H') | (with_reducible have N := H.newa hb; have H' := H.calla hb; clear H hb; have H := H'; clear H'; have g0 := N.blk.cell 0; have g1 := N.blk.cell 1; have g2 := N.blk.cell 2; have h0 := N.blk.frozen 0; have h1 := N.blk.frozen 1; have h2 := N.blk.frozen 2; simp at g0 g1 g2) | (with_reducible have H' := H.calld hb; clear H hb; have H := H'; clear H') | (with_reducible have N := H.newad hb; have H' := H.callad hb; clear H hb; have H := H'; clear H'; have g0 := N.blk.cell 0; have g1 := N.blk.cell 1; have g2 := N.blk.cell 2; have h0 := N.blk.frozen 0; have h1 := N.blk.frozen 1; have h2 := N.blk.frozen 2; simp at g0 g1 g2)) | (go_at_call 9; refine (PB.out _).mono ?_; rintro e wn ⟨rfl, hb⟩; first | (with_reducible have N' := N.call hb; have H' := H.call hb; clear N H hb g0 g1 g2 h0 h1 h2; have N := N'; have H := H'; clear N' H'; have g0 := N.blk.cell 0; have g1 := N.blk.cell 1; have g2 := N.blk.cell 2; have h0 := N.blk.frozen 0; have h1 := N.blk.frozen 1; have h2 := N.blk.frozen 2; simp at g0 g1 g2) | (with_reducible have H' := H.call hb; clear H hb; have H := H'; clear H') | (with_reducible have N := H.newa hb; have H' := H.calla hb; clear H hb; have H := H'; clear H'; have g0 := N.blk.cell 0; have g1 := N.blk.cell 1; have g2 := N.blk.cell 2; have h0 := N.blk.frozen 0; have h1 := N.blk.frozen 1; have h2 := N.blk.frozen 2; simp at g0 g1 g2) | (with_reducible have H' := H.calld hb; clear H hb; have H := H'; clear H') | (with_reducible have N := H.newad hb; have H' := H.callad hb; clear H hb; have H := H'; clear H'; have g0 := N.blk.cell 0; have g1 := N.blk.cell 1; have g2 := N.blk.cell 2; have h0 := N.blk.frozen 0; have h1 := N.blk.frozen 1; have h2 := N.blk.frozen 2; simp at g0 g1 g2))))
          all_goals go_wp2_with fail
          all_goals go_meet
          all_goals first | exact ⟨_, rfl, rfl, H.alloc _, H.new _ _⟩ | exact ⟨_, rfl, rfl, H.put3 N _ _ _, N.put3 _ _ _⟩
        case rest =>
          obtain ⟨gb, rfl, rfl, HH, NN⟩ := hcut
          clear H d0 d1 d2
          have H := HH.out.take3 NN.out
          clear HH NN
          go_wp2_with fail
          refine region_class (fun W => Sit w W ((⟨gb, 0, none⟩, .int .i64 pa) :: (⟨gb, 1, none⟩, .int .i64 pb) :: (⟨gb, 2, none⟩, .int .i64 pc) :: sts g)) (by kernel_rfl) (by kernel_rfl) H.drew ?_
          repeat (first | go_big_quiet_skip | (go_big_quiet_want; first | (apply quiet_value; (· (intro W hW; (have d0 := hW.get (.tail _ (.tail _ (.tail _ (mem_sts hlt).1))); have d1 := hW.get (.tail _ (.tail _ (.tail _ (mem_sts hlt).2.1))); have d2 := hW.get (.tail _ (.tail _ (.tail _ (mem_sts hlt).2.2))); have e0 := hW.get (.head _); have e1 := hW.get (.tail _ (.head _)); have e2 := hW.get (.tail _ (.tail _ (.head _)))); go_simp; exact rfl)); simp only [Act.put, List.setIfInBounds_toArray, List.set_cons_zero, List.set_cons_succ]; go_big_quiet_on) | (apply quiet_call; (· (intro W hW; go_simp; exact ⟨rfl, rfl⟩)); (· (intro W hW; first | with_reducible exact (PC.out W).mono fun _ _ h => ⟨h.1, hW.call h.2⟩ | with_reducible exact (PD.out W).mono fun _ _ h => ⟨h.1, hW.call h.2⟩)); simp only [Act.put, List.setIfInBounds_toArray, List.set_cons_zero, List.set_cons_succ]; go_big_quiet_on)))
          refine wpQuiet_nil ?_
          intro wq hq
          clear H
          have H := hq
          clear hq
          replace H : Sit w _ (sts g) := H.less (fun p hp => .tail _ (.tail _ (.tail _ hp)))
          go_wp2_with fail
          go_roundg (gk - 1)
          case measure => omega
          case rel => exact ⟨j + 1, by omega, by go_num, H⟩
      · have HB := Lib.hid H.below
        clear H
        go_wp2_with fail
        refine (EV.out _).mono ?_
        rintro e w6 ⟨rfl, hb⟩
        have B6 := Lib.hid (below_2 HB.out hb)
        clear hb
        go_wp2_with fail
        refine (EX.out _).mono ?_
        rintro e w7 ⟨rfl, hb⟩
        have B7 := Lib.hid (below_2 B6.out hb)
        clear hb
        go_wp2_with fail
        refine (PH.out _).mono ?_
        rintro e w8 ⟨rfl, rfl⟩
        cases hb
        · have hx := HEM.out rfl
          have q4 : (X.toList == S.toList) = true := by rw [hx]; simp
          clear hx
          go_wp2_with fail
          go_ret
          exact ⟨ret_bool (by first | rfl | simp), B7.out⟩
        · go_wp2_with fail
          go_ret
          exact ⟨ret_bool (by first | rfl | simp), B7.out⟩

end Go.Proofs.YtonadnfbnpkneaaDoor.fnSubstTest
