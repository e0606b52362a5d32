/- The walk of the law FnNotPred. -/
import Derived.Test.YtccjmahhebiphaaDoorVc
import Derived.Test.YtccjmahhebiphaaDoorVd
import Derived.Test.YtccjmahhebiphaaDoorVs
import Derived.Test.YtccjmahhebiphaaDoorVn
namespace Go.Proofs.YtccjmahhebiphaaDoor.fnNotPred
open Go.ChangeShapes Go.WideShapes Go.ChangeAt Go.RowKit
open Pl
set_option linter.unusedVariables false
set_option maxRecDepth 100000 in
set_option maxHeartbeats 16000000 in
theorem walk (a0 : Option Addr) (len0 cap0 : Nat) (w : World) (hb0 : Bytes w a0 len0 w.heap.size) (hl0 : len0 ≤ cap0) (hc0 : cap0 ≤ 9223372036854775807) (hst : Str w) :
    Calls Tryd.prog 5 #[.slice a0 len0 cap0] w fun e w' => e = .returned (.bool true) ∧ Below w.heap.size w w' := by
  by_cases hbig : 1048576 < len0
  · clear hb0
    go_enter Tryd.func5, Tryd.ntmps5
    go_wp2_with fail
    go_ret
    exact ⟨rfl, by first | exact Below.refl _ _ | exact below_n _ _ | exact (below_n _ _).alloc (by simp) _⟩
  have D := Lib.hid (DrawNotPred_any a0 len0 cap0 w (by omega) hl0 hb0)
  have S0 := Lib.hid hst
  clear hb0 hst
  go_enter Tryd.func5, Tryd.ntmps5
  go_wp2_with fail
  refine D.out.mono ?_
  rintro e w1 ⟨P, hP, rfl, hb1⟩
  have B1 := Lib.hid hb1
  clear D hb1
  have hP' : P.size ≤ 1000000000000 := by omega
  have NA := Lib.hid (fun w => NotPred_any P hP' w)
  have NS := Lib.hid (fun w => NotPredS_any P hP' w)
  have PV := Lib.hid (fun w => PredValid_any P hP' w)
  cases hp : bOk 27 P.data.toList
  · rw [hp] at PV
    have hr : notO P = none := by unfold notO; rw [hp]; rfl
    rw [hr] at NA NS
    simp only [optB, Option.isSome_none] at NA NS
    have q1 : ((bs []).toList != (bs []).toList) = false := by simp
    have q2 : ((bs []).toList == (bs []).toList) = true := by simp
    generalize bs [] = E0 at *
    clear hp hr
    go_wp2_with fail
    refine (NA.out _).mono ?_
    rintro e w2 ⟨rfl, hb2⟩
    have B2 : Hid (Below w.heap.size w w2) := by first | exact Lib.hid (below_2 B1.out hb2) | exact Lib.hid (below_a1 B1.out hb2) | exact Lib.hid (below_a2 B1.out hb2) | exact Lib.hid (below_a3 B1.out hb2)
    clear hb2
    go_wp2_with fail
    refine (NS.out _).mono ?_
    rintro e w3 ⟨rfl, hb3⟩
    have B3 : Hid (Below w.heap.size w w3) := by first | exact Lib.hid (below_2 B2.out hb3) | exact Lib.hid (below_a1 B2.out hb3) | exact Lib.hid (below_a2 B2.out hb3) | exact Lib.hid (below_a3 B2.out hb3)
    clear hb3
    go_wp2_with fail
    refine (PV.out _).mono ?_
    rintro e w' ⟨rfl, rfl⟩
    go_wp2_with fail
    refine (PV.out _).mono ?_
    rintro e w' ⟨rfl, rfl⟩
    go_wp2_with fail
    go_ret
    exact ⟨ret_bool (by first | rfl | simp), B3.out⟩
  · rw [hp] at PV
    have hn := notO_some hp
    have hs : (notO P).isSome = true := by unfold notO; rw [hp]; rfl
    have hq : bOk 27 (bs (optB (notO P))).data.toList = true := not_ok hp
    have hqz := ok_size hq
    rw [hs] at NA NS
    have CP := Lib.hid (fun w => CountPred_any P hP' w)
    have CQ := Lib.hid (fun w => CountPred_any (bs (optB (notO P))) (by omega) w)
    obtain ⟨a, b, ha, hb, hab⟩ : ∃ a b : Nat, cntP P.data.toList = (a : Int) ∧ cntP (bs (optB (notO P))).data.toList = (b : Int) ∧ a + b = 27 :=
      ⟨_, _, cntP_ok hp, cntP_ok hq, by rw [cnt_congr (fun i hi => bt_notO hp hi)]; exact cnt_compl 27 _⟩
    rw [ha] at CP
    rw [hb] at CQ
    have NN := Lib.hid (fun w => ppNot_any (bs (optB (notO P))) (by omega) w)
    rw [not_not hp] at NN
    have AN := Lib.hid (fun w => ppAnd_any P (bs (optB (notO P))) hP' (by omega) w)
    have hao := both_ok (· && ·) hp hq
    have CA := Lib.hid (fun w => CountPred_any (bs (optB (both P (bs (optB (notO P))) (· && ·)))) (by rw [ok_size hao]; omega) w)
    have hz0 : cntP (bs (optB (both P (bs (optB (notO P))) (· && ·)))).data.toList = 0 := by
      rw [cntP_ok hao]
      have : cnt 27 (bt (bs (optB (both P (bs (optB (notO P))) (· && ·)))).data.toList) = 0 := cnt_zero.2 (fun i hi => by
        rw [bt_both _ hp hq hi, bt_notO hp hi]
        cases bt P.data.toList i <;> rfl)
      rw [this]
      rfl
    rw [hz0] at CA
    have V1 := Lib.hid (fun w hs => PredVars_any P hP' w hs)
    have V2 := Lib.hid (fun w hs => PredVars_any (bs (optB (notO P))) (by omega) w hs)
    have hpv : pvL (bs (optB (notO P))).data.toList = pvL P.data.toList := by rw [bs_list, hn, pvL_not hp]
    rw [hpv] at V2
    have q1 : ((bs (optB (notO P))).toList != (bs (optB (notO P))).toList) = false := by simp
    have q2 : (P.toList == P.toList) = true := by simp
    have q3 : ((bs (pvL P.data.toList)).toList == (bs (pvL P.data.toList)).toList) = true := by simp
    have hsum : ((a : Int) + (b : Int)) = 27 := by omega
    generalize bs (optB (both P (bs (optB (notO P))) (· && ·))) = A at *
    generalize bs (optB (notO P)) = Q at *
    generalize bs (pvL P.data.toList) = X at *
    clear hp hn hs hq hqz ha hb hao hz0 hpv
    go_wp2_with fail
    refine (NA.out _).mono ?_
    rintro e w2 ⟨rfl, hb2⟩
    have B2 : Hid (Below w.heap.size w w2) := by first | exact Lib.hid (below_2 B1.out hb2) | exact Lib.hid (below_a1 B1.out hb2) | exact Lib.hid (below_a2 B1.out hb2) | exact Lib.hid (below_a3 B1.out hb2)
    clear hb2
    go_wp2_with fail
    refine (NS.out _).mono ?_
    rintro e w3 ⟨rfl, hb3⟩
    have B3 : Hid (Below w.heap.size w w3) := by first | exact Lib.hid (below_2 B2.out hb3) | exact Lib.hid (below_a1 B2.out hb3) | exact Lib.hid (below_a2 B2.out hb3) | exact Lib.hid (below_a3 B2.out hb3)
    clear hb3
    go_wp2_with fail
    refine (PV.out _).mono ?_
    rintro e w' ⟨rfl, rfl⟩
    go_wp2_with fail
    refine (NN.out _).mono ?_
    rintro e w4 ⟨rfl, hb4⟩
    have B4 : Hid (Below w.heap.size w w4) := by first | exact Lib.hid (below_2 B3.out hb4) | exact Lib.hid (below_a1 B3.out hb4) | exact Lib.hid (below_a2 B3.out hb4) | exact Lib.hid (below_a3 B3.out hb4)
    clear hb4
    go_wp2_with fail
    refine (CP.out _).mono ?_
    rintro e w' ⟨rfl, rfl⟩
    go_wp2_with fail
    refine (CQ.out _).mono ?_
    rintro e w' ⟨rfl, rfl⟩
    go_wp2_with fail
    refine (AN.out _).mono ?_
    rintro e w5 ⟨rfl, hb5⟩
    have B5 : Hid (Below w.heap.size w w5) := by first | exact Lib.hid (below_2 B4.out hb5) | exact Lib.hid (below_a1 B4.out hb5) | exact Lib.hid (below_a2 B4.out hb5) | exact Lib.hid (below_a3 B4.out hb5)
    clear hb5
    go_wp2_with fail
    refine (CA.out _).mono ?_
    rintro e w' ⟨rfl, rfl⟩
    go_wp2_with fail
    refine (V2.out _ (S0.out.below B5.out)).mono ?_
    rintro e w6 ⟨rfl, hb6⟩
    have B6 : Hid (Below w.heap.size w w6) := by first | exact Lib.hid (below_2 B5.out hb6) | exact Lib.hid (below_a1 B5.out hb6) | exact Lib.hid (below_a2 B5.out hb6) | exact Lib.hid (below_a3 B5.out hb6)
    clear hb6
    go_wp2_with fail
    refine (V1.out _ (S0.out.below B6.out)).mono ?_
    rintro e w7 ⟨rfl, hb7⟩
    have B7 : Hid (Below w.heap.size w w7) := by first | exact Lib.hid (below_2 B6.out hb7) | exact Lib.hid (below_a1 B6.out hb7) | exact Lib.hid (below_a2 B6.out hb7) | exact Lib.hid (below_a3 B6.out hb7)
    clear hb7
    go_wp2_with fail
    go_ret
    exact ⟨ret_bool (by first | rfl | simp), B7.out⟩

end Go.Proofs.YtccjmahhebiphaaDoor.fnNotPred
