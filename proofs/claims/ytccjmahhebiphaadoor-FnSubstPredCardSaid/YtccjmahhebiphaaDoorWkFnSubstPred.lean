/- The walk of the law FnSubstPred. -/
import Derived.Test.YtccjmahhebiphaaDoorVe
import Derived.Test.YtccjmahhebiphaaDoorVs
import Derived.Test.YtccjmahhebiphaaDoorDrh
import Derived.Test.YtccjmahhebiphaaDoorSub
import Derived.Test.YtccjmahhebiphaaDoorDft
namespace Go.Proofs.YtccjmahhebiphaaDoor.fnSubstPred
open Go.ChangeShapes Go.WideShapes Go.ChangeAt Go.RowKit
open Pl
set_option linter.unusedVariables false
set_option maxRecDepth 100000 in
set_option maxHeartbeats 16000000 in
theorem walk (a0 : Option Addr) (len0 cap0 : Nat) (w : World) (hb0 : Bytes w a0 len0 w.heap.size) (hl0 : len0 ≤ cap0) (hc0 : cap0 ≤ 9223372036854775807) (hst : Str w) (hm : Most w) :
    Calls Tryd.prog 10 #[.slice a0 len0 cap0] w fun e w' => e = .returned (.bool true) ∧ Below w.heap.size w w' := by
  by_cases hbig : 1048576 < len0
  · clear hb0
    go_enter Tryd.func10, Tryd.ntmps10
    go_wp2_with fail
    go_ret
    exact ⟨rfl, by first | exact Below.refl _ _ | exact below_n _ _ | exact (below_n _ _).alloc (by simp) _⟩
  have D := Lib.hid (DrawSubstTest_any a0 len0 cap0 w (by omega) hl0 hb0)
  have S0 := Lib.hid hst
  have M := Lib.hid hm
  clear hb0 hm hst
  go_enter Tryd.func10, Tryd.ntmps10
  go_wp2_with fail
  refine D.out.mono ?_
  rintro e w1 ⟨S, V, B, hS, hV, hB, rfl, hb1⟩
  clear D
  have B1 := Lib.hid hb1
  clear hb1
  have hVs := which_size hV
  clear hV
  have X1 := Lib.hid (fun w hm => SubstTest_any S V B (by omega) (by omega) w hm)
  have X2 := Lib.hid (fun w => SubstTestS_any S V B (by omega) (by omega) (by omega) w)
  have key : sbO 1 S V B = .tuple #[.string (bs []), .bool false] ∨ ∃ (k1 k3 : Nd) (c : UInt8), whole false 1 200 S.data.toList = some k1 ∧ varOf V.data.toList = some c ∧ whole false 0 200 B.data.toList = some k3 ∧
      (sub c B.data.toList S.data.toList).length ≤ 200 ∧ sbO 1 S V B = .tuple #[.string (bs (sub c B.data.toList S.data.toList)), .bool true] := by
    unfold sbO
    cases h1 : whole false 1 200 S.data.toList with
    | none => exact .inl rfl
    | some k1 =>
      cases h2 : varOf V.data.toList with
      | none => exact .inl rfl
      | some c =>
        cases h3 : whole false 0 200 B.data.toList with
        | none => exact .inl rfl
        | some k3 =>
          simp only [sbV]
          by_cases h : (sub c B.data.toList S.data.toList).length ≤ 200
          · rw [if_pos h]; exact .inr ⟨k1, k3, c, rfl, rfl, rfl, h, rfl⟩
          · rw [if_neg h]; exact .inl rfl
  rcases key with h0 | ⟨k1, k3, c, h1, h2, h3, hlen, h0⟩
  · rw [h0] at X1 X2
    clear h0
    have q0 : ((bs []).toList != (bs []).toList) = false := by simp
    have q1 : ((bs []).toList == (bs []).toList) = true := by simp
    generalize bs [] = X at *
    go_wp2_with fail
    refine (X1.out _ (M.out.below B1.out)).mono ?_
    rintro e w2 ⟨rfl, hb⟩
    have B2 := Lib.hid (below_2 B1.out hb)
    clear hb
    go_wp2_with fail
    refine (X2.out _).mono ?_
    rintro e w3 ⟨rfl, hb⟩
    have B3 := Lib.hid (below_2 B2.out hb)
    clear hb
    go_wp2_with fail
    go_ret
    exact ⟨rfl, B3.out⟩
  · rw [h0] at X1 X2
    clear h0
    obtain ⟨hv, hcm⟩ := varOf_some h2
    obtain ⟨hle1, hk1, htx1⟩ := (whole_iff (by omega)).1 h1
    obtain ⟨hle3, hk3, htx3⟩ := (whole_iff (by omega)).1 h3
    have hcv : isV false c = true := mem_nms.1 (show c ∈ nms false from hcm)
    obtain ⟨sok, stx⟩ := sub_ok hcv hk3 (s := 1) (by omega) hk1
    rw [← htx1, ← htx3] at stx
    have hwx : whole false 1 200 (sub c B.data.toList S.data.toList) = some (subN c k3 k1) := by
      have := whole_text (most := 200) sok (by rw [stx]; exact hlen)
      rwa [stx] at this
    have PS := Lib.hid (fun w => ppSet_any S (by omega) w)
    rw [h1] at PS
    have PX := Lib.hid (fun w => ppSet_any (bs (sub c B.data.toList S.data.toList)) (by rw [bs_size]; omega) w)
    rw [bs_list, hwx] at PX
    simp only [Option.map_some, optB] at PS PX
    rw [predOf_sub hcm hcv hk1] at PX
    have hpo : bOk 27 (bs (predOf k1)).data.toList = true := by rw [bs_list]; exact bits_ok _ _
    have zp := ok_size hpo
    have AP := Lib.hid (fun w hs => AssignPre_any (bs (predOf k1)) V B (by omega) (by omega) w hs)
    rw [asO_yes h2 h3 hpo, bs_list] at AP
    simp only [optB, Option.isSome_some] at AP
    have q3 : ((bs (bitsN 27 (preF c k3 (bt (predOf k1))))).toList == (bs (bitsN 27 (preF c k3 (bt (predOf k1))))).toList) = true := by simp
    generalize bs (bitsN 27 (preF c k3 (bt (predOf k1)))) = Y at *
    generalize bs (predOf k1) = P at *
    clear hwx stx sok hk1 hk3 hle1 hle3 htx1 htx3 h1 h2 h3 hcv hlen hpo zp hv hcm
    generalize bs (sub c B.data.toList S.data.toList) = X at *
    have q0 : (X.toList != X.toList) = false := by simp
    go_wp2_with fail
    refine (X1.out _ (M.out.below B1.out)).mono ?_
    rintro e w2 ⟨rfl, hb⟩
    have B2 := Lib.hid (below_2 B1.out hb)
    clear hb
    go_wp2_with fail
    refine (X2.out _).mono ?_
    rintro e w3 ⟨rfl, hb⟩
    have B3 := Lib.hid (below_2 B2.out hb)
    clear hb X1 X2
    go_wp2_with fail
    refine (PS.out _).mono ?_
    rintro e w4 ⟨rfl, hb4⟩
    have B4 : Hid (Below w.heap.size w w4) := by first | exact Lib.hid (below_2 B3.out hb4) | exact Lib.hid (below_a1 B3.out hb4) | exact Lib.hid (below_a2 B3.out hb4) | exact Lib.hid (below_a3 B3.out hb4)
    clear hb4
    go_wp2_with fail
    refine (AP.out _ (S0.out.below B4.out)).mono ?_
    rintro e w5 ⟨rfl, hb5⟩
    have B5 : Hid (Below w.heap.size w w5) := by first | exact Lib.hid (below_2 B4.out hb5) | exact Lib.hid (below_a1 B4.out hb5) | exact Lib.hid (below_a2 B4.out hb5) | exact Lib.hid (below_a3 B4.out hb5)
    clear hb5
    go_wp2_with fail
    refine (PX.out _).mono ?_
    rintro e w6 ⟨rfl, hb6⟩
    have B6 : Hid (Below w.heap.size w w6) := by first | exact Lib.hid (below_2 B5.out hb6) | exact Lib.hid (below_a1 B5.out hb6) | exact Lib.hid (below_a2 B5.out hb6) | exact Lib.hid (below_a3 B5.out hb6)
    clear hb6
    go_wp2_with fail
    go_ret
    exact ⟨ret_bool (by first | rfl | simp), B6.out⟩

end Go.Proofs.YtccjmahhebiphaaDoor.fnSubstPred
