/- The walk of the law FnPredVars. -/
import Derived.Test.YtccjmahhebiphaaDoorVc
import Derived.Test.YtccjmahhebiphaaDoorVd
import Derived.Test.YtccjmahhebiphaaDoorVs
import Derived.Test.YtccjmahhebiphaaDoorLwa
namespace Go.Proofs.YtccjmahhebiphaaDoor.fnPredVars
open Go.ChangeShapes Go.WideShapes Go.ChangeAt Go.RowKit
open Pl
set_option linter.unusedVariables false
set_option maxRecDepth 100000 in
set_option maxHeartbeats 16000000 in
theorem walk (a0 : Option Addr) (len0 cap0 : Nat) (w : World) (hb0 : Bytes w a0 len0 w.heap.size) (hl0 : len0 ≤ cap0) (hc0 : cap0 ≤ 9223372036854775807) (hst : Str w) :
    Calls Tryd.prog 3 #[.slice a0 len0 cap0] w fun e w' => e = .returned (.bool true) ∧ Below w.heap.size w w' := by
  by_cases hbig : 1048576 < len0
  · clear hb0
    go_enter Tryd.func3, Tryd.ntmps3
    go_wp2_with fail
    go_ret
    exact ⟨rfl, by first | exact Below.refl _ _ | exact below_n _ _ | exact (below_n _ _).alloc (by simp) _⟩
  have D := Lib.hid (DrawPredVars_any a0 len0 cap0 w (by omega) hl0 hb0)
  have S0 := Lib.hid hst
  clear hb0 hst
  go_enter Tryd.func3, Tryd.ntmps3
  go_wp2_with fail
  refine D.out.mono ?_
  rintro e w1 ⟨P, hP, rfl, hb1⟩
  have B1 := Lib.hid hb1
  clear D hb1
  have hP' : P.size ≤ 1000000000000 := by omega
  have VA := Lib.hid (fun w hs => PredVars_any P hP' w hs)
  have VS := Lib.hid (fun w => PredVarsS_any P hP' w)
  have PV := Lib.hid (fun w => PredValid_any P hP' w)
  have hvz : (bs (pvL P.data.toList)).size ≤ 1000000 := by rw [bs_size]; have := pvL_len P.data.toList; omega
  have PH := Lib.hid (fun c w => has_one (bs (pvL P.data.toList)) c hvz w)
  simp only [bs_list] at PH
  have q1 : ((bs (pvL P.data.toList)).toList != (bs (pvL P.data.toList)).toList) = false := by simp
  have q2 : ((bs (pvL P.data.toList)).toList == (bs (pvL P.data.toList)).toList) = true := by simp
  clear hvz
  cases hp : bOk 27 P.data.toList
  · rw [hp] at PV
    clear PH hp
    generalize bs (pvL P.data.toList) = X at *
    go_wp2_with fail
    refine (VA.out _ (S0.out.below B1.out)).mono ?_
    rintro e w2 ⟨rfl, hb2⟩
    have B2 : Hid (Below w.heap.size w w2) := by first | exact Lib.hid (below_2 B1.out hb2) | exact Lib.hid (below_a1 B1.out hb2) | exact Lib.hid (below_a2 B1.out hb2) | exact Lib.hid (below_a3 B1.out hb2)
    clear hb2
    go_wp2_with fail
    refine (VS.out _).mono ?_
    rintro e w3 ⟨rfl, hb3⟩
    have B3 : Hid (Below w.heap.size w w3) := by first | exact Lib.hid (below_2 B2.out hb3) | exact Lib.hid (below_a1 B2.out hb3) | exact Lib.hid (below_a2 B2.out hb3) | exact Lib.hid (below_a3 B2.out hb3)
    clear hb3
    go_wp2_with fail
    refine (PV.out _).mono ?_
    rintro e w' ⟨rfl, rfl⟩
    go_wp2_with fail
    refine (VS.out _).mono ?_
    rintro e w4 ⟨rfl, hb4⟩
    have B4 : Hid (Below w.heap.size w w4) := by first | exact Lib.hid (below_2 B3.out hb4) | exact Lib.hid (below_a1 B3.out hb4) | exact Lib.hid (below_a2 B3.out hb4) | exact Lib.hid (below_a3 B3.out hb4)
    clear hb4
    go_wp2_with fail
    go_ret
    exact ⟨ret_bool (by first | rfl | simp), B4.out⟩
  · rw [hp] at PV
    have key : Hid (∀ c, c ∈ nmsN → ∃ (X1 X2 : ByteArray) (d : Bool), X1.size ≤ 1000 ∧ (∀ w, Str w → Calls Tryd.prog 15 #[.string P, .string ⟨#[c]⟩] w fun e w' => (e = .returned (.tuple #[.string X1, .bool true]) ∧ Below w.heap.size w w')) ∧
        (∀ w, Str w → Calls Tryd.prog 16 #[.string P, .string ⟨#[c]⟩] w fun e w' => (e = .returned (.tuple #[.string X2, .bool true]) ∧ Below w.heap.size w w')) ∧
        hasB (pvL P.data.toList) c = d ∧ (X1.toList == P.toList) = !d ∧ (X2.toList == P.toList) = !d ∧ hasB (pvL X1.data.toList) c = false) := Lib.hid (by
      intro c hc
      have hv : varOf (⟨#[c]⟩ : ByteArray).data.toList = some c := varOf_one hc
      refine ⟨bs (bitsN 27 (smF c (bt P.data.toList))), bs (bitsN 27 (alF c (bt P.data.toList))), dep (bt P.data.toList) c, by rw [bs_size, bits_len]; omega, ?_, ?_, ?_, ?_, ?_, ?_⟩
      · intro w hs
        have h := SomeVar_any P ⟨#[c]⟩ hP' w hs
        rw [smO_yes hv hp] at h
        exact h
      · intro w hs
        have h := AllVar_any P ⟨#[c]⟩ hP' w hs
        rw [smO_yes hv hp] at h
        exact h
      · rw [Bool.eq_iff_iff, ← mem_pvL hp hc]
        simp [hasB]
      · apply str_beq
        rw [Bool.not_eq_true', ← sm_same hc]
        constructor
        · intro h i hi
          have e := bt_of_eq h i
          rwa [bs_list, bt_bits hi] at e
        · intro h
          exact eq_of_bt (by rw [bs_list]; exact bits_ok _ _) hp (fun i hi => by rw [bs_list, bt_bits hi, h i hi])
      · apply str_beq
        rw [Bool.not_eq_true', ← al_same hc]
        constructor
        · intro h i hi
          have e := bt_of_eq h i
          rwa [bs_list, bt_bits hi] at e
        · intro h
          exact eq_of_bt (by rw [bs_list]; exact bits_ok _ _) hp (fun i hi => by rw [bs_list, bt_bits hi, h i hi])
      · have hn : c ∉ pvL (bitsN 27 (smF c (bt P.data.toList))) := by
          rw [pvL_bits]
          intro hm
          have := (List.mem_filter.1 hm).2
          rw [dep_sm] at this
          cases this
        rw [bs_list]
        simp [hasB, hn])
    clear hp
    generalize bs (pvL P.data.toList) = X at *
    go_wp2_with fail
    refine (VA.out _ (S0.out.below B1.out)).mono ?_
    rintro e w2 ⟨rfl, hb2⟩
    have B2 : Hid (Below w.heap.size w w2) := by first | exact Lib.hid (below_2 B1.out hb2) | exact Lib.hid (below_a1 B1.out hb2) | exact Lib.hid (below_a2 B1.out hb2) | exact Lib.hid (below_a3 B1.out hb2)
    clear hb2
    go_wp2_with fail
    refine (VS.out _).mono ?_
    rintro e w3 ⟨rfl, hb3⟩
    have B3 : Hid (Below w.heap.size w w3) := by first | exact Lib.hid (below_2 B2.out hb3) | exact Lib.hid (below_a1 B2.out hb3) | exact Lib.hid (below_a2 B2.out hb3) | exact Lib.hid (below_a3 B2.out hb3)
    clear hb3
    go_wp2_with fail
    refine (PV.out _).mono ?_
    rintro e w' ⟨rfl, rfl⟩
    clear VA VS PV
    go_wp2_with fail
    go_loopg [5] 3 (fun gk i wr => ∃ k : Nat, k + gk = 3 ∧ i = .int .i64 k ∧ Hid (Below w.heap.size w wr))
    case atStart => exact ⟨0, rfl, rfl, B3⟩
    case round =>
      clear B1 B2 B3
      obtain ⟨k, hk, rfl, BR⟩ := hrel
      by_cases hlt : k < 3
      · have hc3 : k = 0 ∨ k = 1 ∨ k = 2 := by omega
        rcases hc3 with rfl | rfl | rfl
        · obtain ⟨X1, X2, d, hx1, A1, A2, a3, a4, a5, a6⟩ := key.out 120 (by decide)
          have SV := Lib.hid A1
          have AV := Lib.hid A2
          have P1 := Lib.hid (fun w => PH.out 120 w)
          rw [a3] at P1
          have V2 := Lib.hid (fun w hs => PredVars_any X1 (by omega) w hs)
          have hz2 : (bs (pvL X1.data.toList)).size ≤ 1000000 := by rw [bs_size]; have := pvL_len X1.data.toList; omega
          have P2 := Lib.hid (fun w => has_one (bs (pvL X1.data.toList)) 120 hz2 w)
          rw [bs_list, a6] at P2
          generalize bs (pvL X1.data.toList) = Y at *
          clear A1 A2 a3 a6 key hz2
          cases d
          all_goals
            simp only [Bool.not_false, Bool.not_true] at a4 a5
            go_wp2_with fail
            refine (SV.out _ (S0.out.below BR.out)).mono ?_
            rintro e w5 ⟨rfl, hb5⟩
            have B5 : Hid (Below w.heap.size w w5) := by first | exact Lib.hid (below_2 BR.out hb5) | exact Lib.hid (below_a1 BR.out hb5) | exact Lib.hid (below_a2 BR.out hb5) | exact Lib.hid (below_a3 BR.out hb5)
            clear hb5
            go_wp2_with fail
            refine (AV.out _ (S0.out.below B5.out)).mono ?_
            rintro e w6 ⟨rfl, hb6⟩
            have B6 : Hid (Below w.heap.size w w6) := by first | exact Lib.hid (below_2 B5.out hb6) | exact Lib.hid (below_a1 B5.out hb6) | exact Lib.hid (below_a2 B5.out hb6) | exact Lib.hid (below_a3 B5.out hb6)
            clear hb6
            go_wp2_with fail
            refine (P1.out _).mono ?_
            rintro e w' ⟨rfl, rfl⟩
            go_wp2_with fail
            refine (P1.out _).mono ?_
            rintro e w' ⟨rfl, rfl⟩
            go_wp2_with fail
            refine (V2.out _ (S0.out.below B6.out)).mono ?_
            rintro e w7 ⟨rfl, hb7⟩
            have B7 : Hid (Below w.heap.size w w7) := by first | exact Lib.hid (below_2 B6.out hb7) | exact Lib.hid (below_a1 B6.out hb7) | exact Lib.hid (below_a2 B6.out hb7) | exact Lib.hid (below_a3 B6.out hb7)
            clear hb7
            go_wp2_with fail
            refine (P2.out _).mono ?_
            rintro e w' ⟨rfl, rfl⟩
            go_wp2_with fail
            go_roundg (gk - 1)
            case measure => omega
            case rel => exact ⟨1, by omega, by go_num, B7⟩
        · obtain ⟨X1, X2, d, hx1, A1, A2, a3, a4, a5, a6⟩ := key.out 121 (by decide)
          have SV := Lib.hid A1
          have AV := Lib.hid A2
          have P1 := Lib.hid (fun w => PH.out 121 w)
          rw [a3] at P1
          have V2 := Lib.hid (fun w hs => PredVars_any X1 (by omega) w hs)
          have hz2 : (bs (pvL X1.data.toList)).size ≤ 1000000 := by rw [bs_size]; have := pvL_len X1.data.toList; omega
          have P2 := Lib.hid (fun w => has_one (bs (pvL X1.data.toList)) 121 hz2 w)
          rw [bs_list, a6] at P2
          generalize bs (pvL X1.data.toList) = Y at *
          clear A1 A2 a3 a6 key hz2
          cases d
          all_goals
            simp only [Bool.not_false, Bool.not_true] at a4 a5
            go_wp2_with fail
            refine (SV.out _ (S0.out.below BR.out)).mono ?_
            rintro e w5 ⟨rfl, hb5⟩
            have B5 : Hid (Below w.heap.size w w5) := by first | exact Lib.hid (below_2 BR.out hb5) | exact Lib.hid (below_a1 BR.out hb5) | exact Lib.hid (below_a2 BR.out hb5) | exact Lib.hid (below_a3 BR.out hb5)
            clear hb5
            go_wp2_with fail
            refine (AV.out _ (S0.out.below B5.out)).mono ?_
            rintro e w6 ⟨rfl, hb6⟩
            have B6 : Hid (Below w.heap.size w w6) := by first | exact Lib.hid (below_2 B5.out hb6) | exact Lib.hid (below_a1 B5.out hb6) | exact Lib.hid (below_a2 B5.out hb6) | exact Lib.hid (below_a3 B5.out hb6)
            clear hb6
            go_wp2_with fail
            refine (P1.out _).mono ?_
            rintro e w' ⟨rfl, rfl⟩
            go_wp2_with fail
            refine (P1.out _).mono ?_
            rintro e w' ⟨rfl, rfl⟩
            go_wp2_with fail
            refine (V2.out _ (S0.out.below B6.out)).mono ?_
            rintro e w7 ⟨rfl, hb7⟩
            have B7 : Hid (Below w.heap.size w w7) := by first | exact Lib.hid (below_2 B6.out hb7) | exact Lib.hid (below_a1 B6.out hb7) | exact Lib.hid (below_a2 B6.out hb7) | exact Lib.hid (below_a3 B6.out hb7)
            clear hb7
            go_wp2_with fail
            refine (P2.out _).mono ?_
            rintro e w' ⟨rfl, rfl⟩
            go_wp2_with fail
            go_roundg (gk - 1)
            case measure => omega
            case rel => exact ⟨2, by omega, by go_num, B7⟩
        · obtain ⟨X1, X2, d, hx1, A1, A2, a3, a4, a5, a6⟩ := key.out 122 (by decide)
          have SV := Lib.hid A1
          have AV := Lib.hid A2
          have P1 := Lib.hid (fun w => PH.out 122 w)
          rw [a3] at P1
          have V2 := Lib.hid (fun w hs => PredVars_any X1 (by omega) w hs)
          have hz2 : (bs (pvL X1.data.toList)).size ≤ 1000000 := by rw [bs_size]; have := pvL_len X1.data.toList; omega
          have P2 := Lib.hid (fun w => has_one (bs (pvL X1.data.toList)) 122 hz2 w)
          rw [bs_list, a6] at P2
          generalize bs (pvL X1.data.toList) = Y at *
          clear A1 A2 a3 a6 key hz2
          cases d
          all_goals
            simp only [Bool.not_false, Bool.not_true] at a4 a5
            go_wp2_with fail
            refine (SV.out _ (S0.out.below BR.out)).mono ?_
            rintro e w5 ⟨rfl, hb5⟩
            have B5 : Hid (Below w.heap.size w w5) := by first | exact Lib.hid (below_2 BR.out hb5) | exact Lib.hid (below_a1 BR.out hb5) | exact Lib.hid (below_a2 BR.out hb5) | exact Lib.hid (below_a3 BR.out hb5)
            clear hb5
            go_wp2_with fail
            refine (AV.out _ (S0.out.below B5.out)).mono ?_
            rintro e w6 ⟨rfl, hb6⟩
            have B6 : Hid (Below w.heap.size w w6) := by first | exact Lib.hid (below_2 B5.out hb6) | exact Lib.hid (below_a1 B5.out hb6) | exact Lib.hid (below_a2 B5.out hb6) | exact Lib.hid (below_a3 B5.out hb6)
            clear hb6
            go_wp2_with fail
            refine (P1.out _).mono ?_
            rintro e w' ⟨rfl, rfl⟩
            go_wp2_with fail
            refine (P1.out _).mono ?_
            rintro e w' ⟨rfl, rfl⟩
            go_wp2_with fail
            refine (V2.out _ (S0.out.below B6.out)).mono ?_
            rintro e w7 ⟨rfl, hb7⟩
            have B7 : Hid (Below w.heap.size w w7) := by first | exact Lib.hid (below_2 B6.out hb7) | exact Lib.hid (below_a1 B6.out hb7) | exact Lib.hid (below_a2 B6.out hb7) | exact Lib.hid (below_a3 B6.out hb7)
            clear hb7
            go_wp2_with fail
            refine (P2.out _).mono ?_
            rintro e w' ⟨rfl, rfl⟩
            go_wp2_with fail
            go_roundg (gk - 1)
            case measure => omega
            case rel => exact ⟨3, by omega, by go_num, B7⟩
      · go_wp2_with fail
        go_ret
        exact ⟨rfl, BR.out⟩

end Go.Proofs.YtccjmahhebiphaaDoor.fnPredVars
