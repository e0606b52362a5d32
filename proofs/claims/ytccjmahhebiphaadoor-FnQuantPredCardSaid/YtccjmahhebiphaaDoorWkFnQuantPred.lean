/- The walk of the law FnQuantPred. -/
import Derived.Test.YtccjmahhebiphaaDoorVc
import Derived.Test.YtccjmahhebiphaaDoorVd
import Derived.Test.YtccjmahhebiphaaDoorVs
import Derived.Test.YtccjmahhebiphaaDoorVn
import Derived.Test.YtccjmahhebiphaaDoorLwa
namespace Go.Proofs.YtccjmahhebiphaaDoor.fnQuantPred
open Go.ChangeShapes Go.WideShapes Go.ChangeAt Go.RowKit
open Pl
set_option linter.unusedVariables false
set_option maxRecDepth 100000 in
set_option maxHeartbeats 16000000 in
theorem walk (a0 : Option Addr) (len0 cap0 : Nat) (a1 : Option Addr) (len1 cap1 : Nat) (w : World) (hb0 : Bytes w a0 len0 w.heap.size) (hl0 : len0 ≤ cap0) (hc0 : cap0 ≤ 9223372036854775807) (hb1 : Bytes w a1 len1 w.heap.size) (hl1 : len1 ≤ cap1) (hc1 : cap1 ≤ 9223372036854775807) (hst : Str w) :
    Calls Tryd.prog 4 #[.slice a0 len0 cap0, .slice a1 len1 cap1] w fun e w' => e = .returned (.bool true) ∧ Below w.heap.size w w' := by
  by_cases hbig0 : 1048576 < len0
  · clear hb0 hb1
    go_enter Tryd.func4, Tryd.ntmps4
    go_wp2_with fail
    go_ret
    exact ⟨rfl, by first | exact Below.refl _ _ | exact below_n _ _⟩
  by_cases hbig1 : 1048576 < len1
  · clear hb0 hb1
    go_enter Tryd.func4, Tryd.ntmps4
    go_wp2_with fail
    go_ret
    exact ⟨rfl, by first | exact Below.refl _ _ | exact below_n _ _⟩
  have D := Lib.hid (DrawSomeVar_any a0 len0 cap0 w (by omega) hl0 hb0)
  have S0 := Lib.hid hst
  have HB1 := Lib.hid hb1
  clear hb0 hb1 hst
  go_enter Tryd.func4, Tryd.ntmps4
  go_wp2_with fail
  refine D.out.mono ?_
  rintro e w1 ⟨P, V, hP, hV, rfl, hb1⟩
  have B1 := Lib.hid hb1
  have hV2 := which_small hV
  clear D hb1 hV
  have hP' : P.size ≤ 1000000000000 := by omega
  have hV' : V.size ≤ 1000000000000 := by omega
  have SA := Lib.hid (fun w hs => SomeVar_any P V hP' w hs)
  have SS := Lib.hid (fun w => SomeVarS_any P V hP' hV' w)
  have AA := Lib.hid (fun w hs => AllVar_any P V hP' w hs)
  have AS := Lib.hid (fun w => AllVarS_any P V hP' hV' w)
  have bad : (bOk 27 P.data.toList = false ∨ varOf V.data.toList = none) ∨ (∃ c, varOf V.data.toList = some c ∧ bOk 27 P.data.toList = true) := by
    cases hp : bOk 27 P.data.toList
    · exact .inl (.inl rfl)
    · cases hv : varOf V.data.toList with
      | none => exact .inl (.inr rfl)
      | some c => exact .inr ⟨c, rfl, rfl⟩
  rcases bad with bad | ⟨c, hv, hp⟩
  · have h1 : smO P V smF = none := by rcases bad with h | h; exact smO_bad h; exact smO_no h
    have h2 : smO P V alF = none := by rcases bad with h | h; exact smO_bad h; exact smO_no h
    rw [h1] at SA SS
    rw [h2] at AA AS
    simp only [optB, Option.isSome_none] at SA SS AA AS
    have q1 : ((bs []).toList != (bs []).toList) = false := by simp
    have q2 : ((bs []).toList == (bs []).toList) = true := by simp
    generalize bs [] = E0 at *
    clear bad h1 h2
    go_wp2_with fail
    refine (SA.out _ (S0.out.below B1.out)).mono ?_
    rintro e w2 ⟨rfl, hb2⟩
    have B2 : Hid (Below w.heap.size w w2) := by first | exact Lib.hid (below_2 B1.out hb2) | exact Lib.hid (below_a1 B1.out hb2) | exact Lib.hid (below_a2 B1.out hb2) | exact Lib.hid (below_a3 B1.out hb2)
    clear hb2
    go_wp2_with fail
    refine (SS.out _).mono ?_
    rintro e w3 ⟨rfl, hb3⟩
    have B3 : Hid (Below w.heap.size w w3) := by first | exact Lib.hid (below_2 B2.out hb3) | exact Lib.hid (below_a1 B2.out hb3) | exact Lib.hid (below_a2 B2.out hb3) | exact Lib.hid (below_a3 B2.out hb3)
    clear hb3
    go_wp2_with fail
    refine (AA.out _ (S0.out.below B3.out)).mono ?_
    rintro e w4 ⟨rfl, hb4⟩
    have B4 : Hid (Below w.heap.size w w4) := by first | exact Lib.hid (below_2 B3.out hb4) | exact Lib.hid (below_a1 B3.out hb4) | exact Lib.hid (below_a2 B3.out hb4) | exact Lib.hid (below_a3 B3.out hb4)
    clear hb4
    go_wp2_with fail
    refine (AS.out _).mono ?_
    rintro e w5 ⟨rfl, hb5⟩
    have B5 : Hid (Below w.heap.size w w5) := by first | exact Lib.hid (below_2 B4.out hb5) | exact Lib.hid (below_a1 B4.out hb5) | exact Lib.hid (below_a2 B4.out hb5) | exact Lib.hid (below_a3 B4.out hb5)
    clear hb5
    go_wp2_with fail
    go_ret
    exact ⟨ret_bool (by first | rfl | simp), B5.out⟩
  · rw [smO_yes hv hp] at SA SS AA AS
    simp only [optB, Option.isSome_some] at SA SS AA AS
    obtain ⟨hvl, hcm⟩ := varOf_some hv
    obtain rfl := bytes_of hvl
    obtain ⟨b, hbb⟩ : ∃ b, bt P.data.toList = b := ⟨_, rfl⟩
    have hxo : bOk 27 (bs (bitsN 27 (smF c (bt P.data.toList)))).data.toList = true := by rw [bs_list]; exact bits_ok _ _
    have hyo : bOk 27 (bs (bitsN 27 (alF c (bt P.data.toList)))).data.toList = true := by rw [bs_list]; exact bits_ok _ _
    have hbx : ∀ i, i < 27 → bt (bs (bitsN 27 (smF c (bt P.data.toList)))).data.toList i = smF c (bt P.data.toList) i := fun i hi => by rw [bs_list, bt_bits hi]
    have hby : ∀ i, i < 27 → bt (bs (bitsN 27 (alF c (bt P.data.toList)))).data.toList i = alF c (bt P.data.toList) i := fun i hi => by rw [bs_list, bt_bits hi]
    have hpx : pvL (bs (bitsN 27 (smF c (bt P.data.toList)))).data.toList = nmsN.filter (dep (smF c (bt P.data.toList))) := by rw [bs_list, pvL_bits]
    have hpy : pvL (bs (bitsN 27 (alF c (bt P.data.toList)))).data.toList = nmsN.filter (dep (alF c (bt P.data.toList))) := by rw [bs_list, pvL_bits]
    generalize bs (bitsN 27 (smF c (bt P.data.toList))) = X at *
    generalize bs (bitsN 27 (alF c (bt P.data.toList))) = Y at *
    clear hbb b
    have zx := ok_size hxo
    have zy := ok_size hyo
    have WX := Lib.hid (fun w => PredWithin_any P X hP' (by omega) w)
    have WY := Lib.hid (fun w => PredWithin_any Y P (by omega) hP' w)
    rw [(winO_ok hp hxo).2 (fun i hi h => by rw [hbx i hi]; exact smF_of hcm hi h)] at WX
    rw [(winO_ok hyo hp).2 (fun i hi h => by rw [hby i hi] at h; exact alF_to hcm hi h)] at WY
    have NP := Lib.hid (fun w => ppNot_any P hP' w)
    have NY := Lib.hid (fun w => ppNot_any Y (by omega) w)
    have hno := not_ok hp
    have zn := ok_size hno
    have hbn : ∀ i, i < 27 → bt (bs (optB (notO P))).data.toList i = !bt P.data.toList i := fun i hi => bt_notO hp hi
    generalize bs (optB (notO P)) = N at *
    have SN := Lib.hid (fun w hs => SomeVar_any N ⟨[c].toArray⟩ (by omega) w hs)
    rw [smO_yes hv hno] at SN
    simp only [optB, Option.isSome_some] at SN
    have hoe : bs (bitsN 27 (smF c (bt N.data.toList))) = bs (optB (notO Y)) := by
      apply eq_of_bt (by rw [bs_list]; exact bits_ok _ _) (not_ok hyo)
      intro i hi
      rw [bs_list, bt_bits hi, bt_notO hyo hi, hby i hi, ← smF_not]
      exact smF_congr hbn hi
    rw [hoe] at SN
    have VX := Lib.hid (fun w hs => PredVars_any X (by omega) w hs)
    have VY := Lib.hid (fun w hs => PredVars_any Y (by omega) w hs)
    have lx := pvL_len X.data.toList
    have ly := pvL_len Y.data.toList
    have HX := Lib.hid (fun w => has_one (bs (pvL X.data.toList)) c (by rw [bs_size]; omega) w)
    have HY := Lib.hid (fun w => has_one (bs (pvL Y.data.toList)) c (by rw [bs_size]; omega) w)
    have hx0 : hasB (bs (pvL X.data.toList)).data.toList c = false := by
      rw [bs_list, hpx]
      simp [hasB, dep_sm]
    have hy0 : hasB (bs (pvL Y.data.toList)).data.toList c = false := by
      rw [bs_list, hpy]
      simp [hasB, dep_al]
    rw [hx0] at HX
    rw [hy0] at HY
    have q1 : (X.toList != X.toList) = false := by simp
    have q2 : (Y.toList != Y.toList) = false := by simp
    have q3 : ((bs (optB (notO Y))).toList == (bs (optB (notO Y))).toList) = true := by simp
    have KEY : Hid (∀ Q : ByteArray, bOk 27 Q.data.toList = true → ∀ Z : ByteArray, Z = bs (bitsN 27 (alF c (bt Q.data.toList))) → winO X.data.toList Q.data.toList = winO P.data.toList Z.data.toList) := Lib.hid (by
      intro Q hq Z hZ
      have hzo : bOk 27 Z.data.toList = true := by rw [hZ, bs_list]; exact bits_ok _ _
      rw [Bool.eq_iff_iff, winO_ok hxo hq, winO_ok hp hzo]
      have h1 : (∀ i, i < 27 → bt X.data.toList i = true → bt Q.data.toList i = true) ↔ (∀ i, i < 27 → smF c (bt P.data.toList) i = true → bt Q.data.toList i = true) := by
        constructor <;> intro h i hi hb <;> exact h i hi (by first | (rw [hbx i hi]; exact hb) | (rw [← hbx i hi]; exact hb))
      have h2 : (∀ i, i < 27 → bt P.data.toList i = true → bt Z.data.toList i = true) ↔ (∀ i, i < 27 → bt P.data.toList i = true → alF c (bt Q.data.toList) i = true) := by
        have hz : ∀ i, i < 27 → bt Z.data.toList i = alF c (bt Q.data.toList) i := fun i hi => by rw [hZ, bs_list, bt_bits hi]
        constructor <;> intro h i hi hb
        · rw [← hz i hi]; exact h i hi hb
        · rw [hz i hi]; exact h i hi hb
      rw [h1, h2]
      exact sm_al hcm)
    generalize bs (optB (notO Y)) = O at *
    generalize bs (pvL X.data.toList) = LX at *
    generalize bs (pvL Y.data.toList) = LY at *
    have HV := Lib.hid hv
    clear hoe hbn hpx hpy hbx hby hno hx0 hy0 hvl hcm hp hyo lx ly hv
    go_wp2_with fail
    refine (SA.out _ (S0.out.below B1.out)).mono ?_
    rintro e w2 ⟨rfl, hb2⟩
    have B2 : Hid (Below w.heap.size w w2) := by first | exact Lib.hid (below_2 B1.out hb2) | exact Lib.hid (below_a1 B1.out hb2) | exact Lib.hid (below_a2 B1.out hb2) | exact Lib.hid (below_a3 B1.out hb2)
    clear hb2
    go_wp2_with fail
    refine (SS.out _).mono ?_
    rintro e w3 ⟨rfl, hb3⟩
    have B3 : Hid (Below w.heap.size w w3) := by first | exact Lib.hid (below_2 B2.out hb3) | exact Lib.hid (below_a1 B2.out hb3) | exact Lib.hid (below_a2 B2.out hb3) | exact Lib.hid (below_a3 B2.out hb3)
    clear hb3
    go_wp2_with fail
    refine (AA.out _ (S0.out.below B3.out)).mono ?_
    rintro e w4 ⟨rfl, hb4⟩
    have B4 : Hid (Below w.heap.size w w4) := by first | exact Lib.hid (below_2 B3.out hb4) | exact Lib.hid (below_a1 B3.out hb4) | exact Lib.hid (below_a2 B3.out hb4) | exact Lib.hid (below_a3 B3.out hb4)
    clear hb4
    go_wp2_with fail
    refine (AS.out _).mono ?_
    rintro e w5 ⟨rfl, hb5⟩
    have B5 : Hid (Below w.heap.size w w5) := by first | exact Lib.hid (below_2 B4.out hb5) | exact Lib.hid (below_a1 B4.out hb5) | exact Lib.hid (below_a2 B4.out hb5) | exact Lib.hid (below_a3 B4.out hb5)
    clear hb5
    clear SA SS AA AS
    have D2 := Lib.hid (DrawSomeVar_any a1 len1 cap1 w5 (by omega) hl1 (HB1.out.later B5.out))
    go_wp2_with fail
    refine D2.out.mono ?_
    rintro e w6 ⟨Q, V2, hQ, hV3, rfl, hb6⟩
    have B6 := Lib.hid (below_2 B5.out hb6)
    clear D2 hb6 hV3
    have hQ' : Q.size ≤ 1000000000000 := by omega
    have AQ := Lib.hid (fun w hs => AllVar_any Q ⟨[c].toArray⟩ hQ' w hs)
    cases hq : bOk 27 Q.data.toList
    · rw [smO_bad hq] at AQ
      simp only [optB, Option.isSome_none] at AQ
      generalize bs [] = E0 at *
      clear hq KEY
      go_wp2_with fail
      refine (AQ.out _ (S0.out.below B6.out)).mono ?_
      rintro e w7 ⟨rfl, hb7⟩
      have B7 : Hid (Below w.heap.size w w7) := by first | exact Lib.hid (below_2 B6.out hb7) | exact Lib.hid (below_a1 B6.out hb7) | exact Lib.hid (below_a2 B6.out hb7) | exact Lib.hid (below_a3 B6.out hb7)
      clear hb7
      go_wp2_with fail
      refine (NP.out _).mono ?_
      rintro e w8 ⟨rfl, hb8⟩
      have B8 : Hid (Below w.heap.size w w8) := by first | exact Lib.hid (below_2 B7.out hb8) | exact Lib.hid (below_a1 B7.out hb8) | exact Lib.hid (below_a2 B7.out hb8) | exact Lib.hid (below_a3 B7.out hb8)
      clear hb8
      go_wp2_with fail
      refine (SN.out _ (S0.out.below B8.out)).mono ?_
      rintro e w9 ⟨rfl, hb9⟩
      have B9 : Hid (Below w.heap.size w w9) := by first | exact Lib.hid (below_2 B8.out hb9) | exact Lib.hid (below_a1 B8.out hb9) | exact Lib.hid (below_a2 B8.out hb9) | exact Lib.hid (below_a3 B8.out hb9)
      clear hb9
      go_wp2_with fail
      refine (WX.out _).mono ?_
      rintro e w10 ⟨rfl, hb10⟩
      have B10 : Hid (Below w.heap.size w w10) := by first | exact Lib.hid (below_2 B9.out hb10) | exact Lib.hid (below_a1 B9.out hb10) | exact Lib.hid (below_a2 B9.out hb10) | exact Lib.hid (below_a3 B9.out hb10)
      clear hb10
      go_wp2_with fail
      refine (WY.out _).mono ?_
      rintro e w11 ⟨rfl, hb11⟩
      have B11 : Hid (Below w.heap.size w w11) := by first | exact Lib.hid (below_2 B10.out hb11) | exact Lib.hid (below_a1 B10.out hb11) | exact Lib.hid (below_a2 B10.out hb11) | exact Lib.hid (below_a3 B10.out hb11)
      clear hb11
      go_wp2_with fail
      refine (NY.out _).mono ?_
      rintro e w12 ⟨rfl, hb12⟩
      have B12 : Hid (Below w.heap.size w w12) := by first | exact Lib.hid (below_2 B11.out hb12) | exact Lib.hid (below_a1 B11.out hb12) | exact Lib.hid (below_a2 B11.out hb12) | exact Lib.hid (below_a3 B11.out hb12)
      clear hb12
      go_wp2_with fail
      refine (VX.out _ (S0.out.below B12.out)).mono ?_
      rintro e w13 ⟨rfl, hb13⟩
      have B13 : Hid (Below w.heap.size w w13) := by first | exact Lib.hid (below_2 B12.out hb13) | exact Lib.hid (below_a1 B12.out hb13) | exact Lib.hid (below_a2 B12.out hb13) | exact Lib.hid (below_a3 B12.out hb13)
      clear hb13
      go_wp2_with fail
      refine (HX.out _).mono ?_
      rintro e w' ⟨rfl, rfl⟩
      go_wp2_with fail
      refine (VY.out _ (S0.out.below B13.out)).mono ?_
      rintro e w14 ⟨rfl, hb14⟩
      have B14 : Hid (Below w.heap.size w w14) := by first | exact Lib.hid (below_2 B13.out hb14) | exact Lib.hid (below_a1 B13.out hb14) | exact Lib.hid (below_a2 B13.out hb14) | exact Lib.hid (below_a3 B13.out hb14)
      clear hb14
      go_wp2_with fail
      refine (HY.out _).mono ?_
      rintro e w' ⟨rfl, rfl⟩
      go_wp2_with fail
      go_ret
      exact ⟨ret_bool (by first | rfl | simp), B14.out⟩
    · rw [smO_yes HV.out hq] at AQ
      simp only [optB, Option.isSome_some] at AQ
      have hkey := KEY.out Q hq _ rfl
      have zz : (bs (bitsN 27 (alF c (bt Q.data.toList)))).size ≤ 1000000000000 := by rw [bs_size, bits_len]; omega
      generalize bs (bitsN 27 (alF c (bt Q.data.toList))) = Z at *
      have W1 := Lib.hid (fun w => PredWithin_any X Q (by omega) hQ' w)
      have W2 := Lib.hid (fun w => PredWithin_any P Z hP' zz w)
      rw [hkey] at W1
      generalize winO P.data.toList Z.data.toList = wb at *
      have q4 : (wb != wb) = false := by simp
      clear hq KEY hkey zz
      go_wp2_with fail
      refine (AQ.out _ (S0.out.below B6.out)).mono ?_
      rintro e w7 ⟨rfl, hb7⟩
      have B7 : Hid (Below w.heap.size w w7) := by first | exact Lib.hid (below_2 B6.out hb7) | exact Lib.hid (below_a1 B6.out hb7) | exact Lib.hid (below_a2 B6.out hb7) | exact Lib.hid (below_a3 B6.out hb7)
      clear hb7
      go_wp2_with fail
      refine (W1.out _).mono ?_
      rintro e w8 ⟨rfl, hb8⟩
      have B8 : Hid (Below w.heap.size w w8) := by first | exact Lib.hid (below_2 B7.out hb8) | exact Lib.hid (below_a1 B7.out hb8) | exact Lib.hid (below_a2 B7.out hb8) | exact Lib.hid (below_a3 B7.out hb8)
      clear hb8
      go_wp2_with fail
      refine (W2.out _).mono ?_
      rintro e w9 ⟨rfl, hb9⟩
      have B9 : Hid (Below w.heap.size w w9) := by first | exact Lib.hid (below_2 B8.out hb9) | exact Lib.hid (below_a1 B8.out hb9) | exact Lib.hid (below_a2 B8.out hb9) | exact Lib.hid (below_a3 B8.out hb9)
      clear hb9
      go_wp2_with fail
      refine (NP.out _).mono ?_
      rintro e w10 ⟨rfl, hb10⟩
      have B10 : Hid (Below w.heap.size w w10) := by first | exact Lib.hid (below_2 B9.out hb10) | exact Lib.hid (below_a1 B9.out hb10) | exact Lib.hid (below_a2 B9.out hb10) | exact Lib.hid (below_a3 B9.out hb10)
      clear hb10
      go_wp2_with fail
      refine (SN.out _ (S0.out.below B10.out)).mono ?_
      rintro e w11 ⟨rfl, hb11⟩
      have B11 : Hid (Below w.heap.size w w11) := by first | exact Lib.hid (below_2 B10.out hb11) | exact Lib.hid (below_a1 B10.out hb11) | exact Lib.hid (below_a2 B10.out hb11) | exact Lib.hid (below_a3 B10.out hb11)
      clear hb11
      go_wp2_with fail
      refine (WX.out _).mono ?_
      rintro e w12 ⟨rfl, hb12⟩
      have B12 : Hid (Below w.heap.size w w12) := by first | exact Lib.hid (below_2 B11.out hb12) | exact Lib.hid (below_a1 B11.out hb12) | exact Lib.hid (below_a2 B11.out hb12) | exact Lib.hid (below_a3 B11.out hb12)
      clear hb12
      go_wp2_with fail
      refine (WY.out _).mono ?_
      rintro e w13 ⟨rfl, hb13⟩
      have B13 : Hid (Below w.heap.size w w13) := by first | exact Lib.hid (below_2 B12.out hb13) | exact Lib.hid (below_a1 B12.out hb13) | exact Lib.hid (below_a2 B12.out hb13) | exact Lib.hid (below_a3 B12.out hb13)
      clear hb13
      go_wp2_with fail
      refine (NY.out _).mono ?_
      rintro e w14 ⟨rfl, hb14⟩
      have B14 : Hid (Below w.heap.size w w14) := by first | exact Lib.hid (below_2 B13.out hb14) | exact Lib.hid (below_a1 B13.out hb14) | exact Lib.hid (below_a2 B13.out hb14) | exact Lib.hid (below_a3 B13.out hb14)
      clear hb14
      go_wp2_with fail
      refine (VX.out _ (S0.out.below B14.out)).mono ?_
      rintro e w15 ⟨rfl, hb15⟩
      have B15 : Hid (Below w.heap.size w w15) := by first | exact Lib.hid (below_2 B14.out hb15) | exact Lib.hid (below_a1 B14.out hb15) | exact Lib.hid (below_a2 B14.out hb15) | exact Lib.hid (below_a3 B14.out hb15)
      clear hb15
      go_wp2_with fail
      refine (HX.out _).mono ?_
      rintro e w' ⟨rfl, rfl⟩
      go_wp2_with fail
      refine (VY.out _ (S0.out.below B15.out)).mono ?_
      rintro e w16 ⟨rfl, hb16⟩
      have B16 : Hid (Below w.heap.size w w16) := by first | exact Lib.hid (below_2 B15.out hb16) | exact Lib.hid (below_a1 B15.out hb16) | exact Lib.hid (below_a2 B15.out hb16) | exact Lib.hid (below_a3 B15.out hb16)
      clear hb16
      go_wp2_with fail
      refine (HY.out _).mono ?_
      rintro e w' ⟨rfl, rfl⟩
      go_wp2_with fail
      go_ret
      exact ⟨ret_bool (by first | rfl | simp), B16.out⟩

end Go.Proofs.YtccjmahhebiphaaDoor.fnQuantPred
