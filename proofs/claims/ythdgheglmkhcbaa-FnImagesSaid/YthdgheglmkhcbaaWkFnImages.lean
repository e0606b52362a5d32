/- The walk of the law FnImages. -/
import Derived.Test.YthdgheglmkhcbaaDs
import Derived.Test.YthdgheglmkhcbaaMu
namespace Go.Proofs.Ythdgheglmkhcbaa.fnImages
open Go.ChangeShapes Go.WideShapes Go.ChangeAt Go.RowKit
open Pl
set_option linter.unusedVariables false
theorem bytes_later {w w' : World} {A : Option Addr} {n : Nat} (h : Bytes w A n w.heap.size) (hb : Below w.heap.size w w') : Bytes w' A n w'.heap.size := by
  have hz := hb.size
  rcases h with h | ⟨b, off, hA, hne, hlt, hc⟩
  · exact .inl h
  · refine .inr ⟨b, off, hA, by omega, by omega, fun i hi => ?_⟩
    obtain ⟨v, hv, hce⟩ := hc i hi
    exact ⟨v, hv, (hb.cell (p := ⟨b, off + i, none⟩) hlt).trans hce⟩
theorem win_img (r p q : List UInt8) : win (imgT r p) q = win p (shaT r q) := bool_ext (by rw [win_iff, win_iff]; exact img_sha)
set_option maxRecDepth 100000 in
set_option maxHeartbeats 16000000 in
theorem walk (a0 : Option Addr) (len0 cap0 : Nat) (a1 : Option Addr) (len1 cap1 : Nat) (w : World) (hb0 : Bytes w a0 len0 w.heap.size) (hl0 : len0 ≤ cap0) (hc0 : cap0 ≤ 9223372036854775807) (hb1 : Bytes w a1 len1 w.heap.size) (hl1 : len1 ≤ cap1) (hc1 : cap1 ≤ 9223372036854775807) :
    Calls Try.prog 12 #[.slice a0 len0 cap0, .slice a1 len1 cap1] w fun e w' => e = .returned (.bool true) ∧ Below w.heap.size w w' := by
  by_cases hbig0 : 1048576 < len0
  · clear hb0 hb1
    go_enter Try.func12, Try.ntmps12
    go_wp2_with fail
    go_ret
    exact ⟨rfl, by first | exact Below.refl _ _ | exact below_n _ _⟩
  by_cases hbig1 : 1048576 < len1
  · clear hb0 hb1
    go_enter Try.func12, Try.ntmps12
    go_wp2_with fail
    go_ret
    exact ⟨rfl, by first | exact Below.refl _ _ | exact below_n _ _⟩
  have D := Lib.hid (DrawImageOf_any a0 len0 cap0 w (by omega) hl0 hb0)
  have HB1 := Lib.hid hb1
  clear hb0 hb1
  go_enter Try.func12, Try.ntmps12
  go_wp2_with fail
  refine D.out.mono ?_
  rintro e w1 ⟨P, Q, hP, hQ, rfl, hb1⟩
  have B1 := Lib.hid hb1
  clear D hb1
  have hP' : P.size ≤ 1000000000000 := by omega
  have hQ' : Q.size ≤ 1000000000000 := by omega
  have A1 := Lib.hid (fun w => ImageOf_any P Q hP' hQ' w)
  have A2 := Lib.hid (fun w => ImageOfS_any P Q hP' hQ' w)
  have S1 := Lib.hid (fun w => ShadowOf_any P Q hP' hQ' w)
  have S2 := Lib.hid (fun w => ShadowOfS_any P Q hP' hQ' w)
  cases hpq : bOk 729 P.data.toList && bOk 27 Q.data.toList
  · rw [imgO_no hpq] at A1 A2
    rw [shaO_no hpq] at S1 S2
    simp only [optB, Option.isSome_none] at A1 A2 S1 S2
    have q1 : ((bs []).toList != (bs []).toList) = false := by simp
    have q2 : ((bs []).toList == (bs []).toList) = true := by simp
    generalize bs [] = E0 at *
    clear hpq
    go_wp2_with fail
    refine (A1.out _).mono ?_
    rintro e w2 ⟨rfl, hb2⟩
    have B2 : Hid (Below w.heap.size w w2) := by first | exact Lib.hid (below_2 B1.out hb2) | exact Lib.hid (below_a1 B1.out hb2) | exact Lib.hid (below_a2 B1.out hb2) | exact Lib.hid (below_a3 B1.out hb2)
    clear hb2
    go_wp2_with fail
    refine (A2.out _).mono ?_
    rintro e w3 ⟨rfl, hb3⟩
    have B3 : Hid (Below w.heap.size w w3) := by first | exact Lib.hid (below_2 B2.out hb3) | exact Lib.hid (below_a1 B2.out hb3) | exact Lib.hid (below_a2 B2.out hb3) | exact Lib.hid (below_a3 B2.out hb3)
    clear hb3
    go_wp2_with fail
    refine (S1.out _).mono ?_
    rintro e w4 ⟨rfl, hb4⟩
    have B4 : Hid (Below w.heap.size w w4) := by first | exact Lib.hid (below_2 B3.out hb4) | exact Lib.hid (below_a1 B3.out hb4) | exact Lib.hid (below_a2 B3.out hb4) | exact Lib.hid (below_a3 B3.out hb4)
    clear hb4
    go_wp2_with fail
    refine (S2.out _).mono ?_
    rintro e w5 ⟨rfl, hb5⟩
    have B5 : Hid (Below w.heap.size w w5) := by first | exact Lib.hid (below_2 B4.out hb5) | exact Lib.hid (below_a1 B4.out hb5) | exact Lib.hid (below_a2 B4.out hb5) | exact Lib.hid (below_a3 B4.out hb5)
    clear hb5
    go_wp2_with fail
    go_ret
    exact ⟨ret_bool (by first | rfl | simp), B5.out⟩
  · obtain ⟨hp, hq⟩ : bOk 729 P.data.toList = true ∧ bOk 27 Q.data.toList = true := by simpa using hpq
    have z1 : (bs (imgT P.data.toList Q.data.toList)).size ≤ 1000000000000 := by rw [bs_size, bOk_len (imgT_ok _ _)]; omega
    have z2 : (bs (trnT P.data.toList)).size ≤ 1000000000000 := by rw [bs_size, bOk_len (trnT_ok)]; omega
    have z3 : (bs (bitsN 27 (fun i => !bt Q.data.toList i))).size ≤ 1000000000000 := by rw [bs_size, bOk_len (bits_ok _ _)]; omega
    have z4 : (bs (imgT (trnT P.data.toList) (bitsN 27 (fun i => !bt Q.data.toList i)))).size ≤ 1000000000000 := by rw [bs_size, bOk_len (imgT_ok _ _)]; omega
    have k2 : bOk 729 (bs (trnT P.data.toList)).data.toList = true := by rw [bs_list]; exact trnT_ok
    have k3 : bOk 27 (bs (bitsN 27 (fun i => !bt Q.data.toList i))).data.toList = true := by rw [bs_list]; exact bits_ok _ _
    have k4 : bOk 27 (bs (imgT (trnT P.data.toList) (bitsN 27 (fun i => !bt Q.data.toList i)))).data.toList = true := by rw [bs_list]; exact imgT_ok _ _
    have TP := Lib.hid (fun w => ppTurn_any P hP' w)
    rw [turnR_yes hp] at TP
    have NP := Lib.hid (fun w => ppNot_any Q hQ' w)
    have n1 : notO Q = some (bitsN 27 (fun i => !bt Q.data.toList i)) := by unfold notO; rw [hq]; rfl
    rw [n1] at NP
    have BK := Lib.hid (fun w => ImageOf_any (bs (trnT P.data.toList)) (bs (bitsN 27 (fun i => !bt Q.data.toList i))) z2 z3 w)
    rw [imgO_yes k2 k3, bs_list, bs_list] at BK
    have NB := Lib.hid (fun w => ppNot_any (bs (imgT (trnT P.data.toList) (bitsN 27 (fun i => !bt Q.data.toList i)))) z4 w)
    have n2 : notO (bs (imgT (trnT P.data.toList) (bitsN 27 (fun i => !bt Q.data.toList i)))) = some (shaT P.data.toList Q.data.toList) := by unfold notO; rw [k4, bs_list, sha_img]; rfl
    rw [n2] at NB
    have GEN : Hid (∀ U : ByteArray, U.size ≤ 730 → ∃ (Z : ByteArray) (g b : Bool), (∀ w, Calls Try.prog 58 #[.string P, .string U] w fun e w' => (e = .returned (.tuple #[.string Z, .bool g]) ∧ Below w.heap.size w w')) ∧ (g = true → (∀ w, Calls Try.prog 60 #[.string (bs (imgT P.data.toList Q.data.toList)), .string U] w fun e w' => (e = .returned (.bool b) ∧ Below w.heap.size w w')) ∧ (∀ w, Calls Try.prog 60 #[.string Q, .string Z] w fun e w' => (e = .returned (.bool b) ∧ Below w.heap.size w w')))) := Lib.hid (by
      intro U hU
      have hU' : U.size ≤ 1000000000000 := by omega
      cases hu : bOk 27 U.data.toList
      · refine ⟨bs [], false, false, fun w => ?_, fun h => by cases h⟩
        have h := ShadowOf_any P U hP' hU' w
        rw [shaO_no (by rw [hp, hu]; rfl)] at h
        exact h
      · have zz : (bs (shaT P.data.toList U.data.toList)).size ≤ 1000000000000 := by rw [bs_size, bOk_len (shaT_ok _ _)]; omega
        refine ⟨bs (shaT P.data.toList U.data.toList), true, win (imgT P.data.toList Q.data.toList) U.data.toList, fun w => ?_, fun _ => ⟨fun w => ?_, fun w => ?_⟩⟩
        · have h := ShadowOf_any P U hP' hU' w
          rw [shaO_yes hp hu] at h
          exact h
        · have h := PredWithin_any (bs (imgT P.data.toList Q.data.toList)) U z1 hU' w
          have e1 : winO (bs (imgT P.data.toList Q.data.toList)).data.toList U.data.toList = win (imgT P.data.toList Q.data.toList) U.data.toList := by unfold winO; rw [bs_list, imgT_ok, hu, Bool.true_and, Bool.true_and]
          rw [e1] at h
          exact h
        · have h := PredWithin_any Q (bs (shaT P.data.toList U.data.toList)) hQ' zz w
          have e1 : winO Q.data.toList (bs (shaT P.data.toList U.data.toList)).data.toList = win (imgT P.data.toList Q.data.toList) U.data.toList := by unfold winO; rw [bs_list, shaT_ok, hq, Bool.true_and, Bool.true_and, win_img]
          rw [e1] at h
          exact h)
    rw [imgO_yes hp hq] at A1 A2
    rw [shaO_yes hp hq] at S1 S2
    simp only [optB, Option.isSome_some] at A1 A2 S1 S2 TP NP BK NB
    clear n1 n2 k2 k3 k4 z1 z2 z3 z4 hp hq hpq
    generalize bs (imgT (trnT P.data.toList) (bitsN 27 (fun i => !bt Q.data.toList i))) = E at *
    generalize bs (bitsN 27 (fun i => !bt Q.data.toList i)) = R at *
    generalize bs (trnT P.data.toList) = T at *
    generalize bs (imgT P.data.toList Q.data.toList) = X at *
    generalize bs (shaT P.data.toList Q.data.toList) = Y at *
    have q1 : (X.toList != X.toList) = false := by simp
    have q2 : (Y.toList != Y.toList) = false := by simp
    have q3 : (Y.toList == Y.toList) = true := by simp
    go_wp2_with fail
    refine (A1.out _).mono ?_
    rintro e w2 ⟨rfl, hb2⟩
    have B2 : Hid (Below w.heap.size w w2) := by first | exact Lib.hid (below_2 B1.out hb2) | exact Lib.hid (below_a1 B1.out hb2) | exact Lib.hid (below_a2 B1.out hb2) | exact Lib.hid (below_a3 B1.out hb2)
    clear hb2
    go_wp2_with fail
    refine (A2.out _).mono ?_
    rintro e w3 ⟨rfl, hb3⟩
    have B3 : Hid (Below w.heap.size w w3) := by first | exact Lib.hid (below_2 B2.out hb3) | exact Lib.hid (below_a1 B2.out hb3) | exact Lib.hid (below_a2 B2.out hb3) | exact Lib.hid (below_a3 B2.out hb3)
    clear hb3
    go_wp2_with fail
    refine (S1.out _).mono ?_
    rintro e w4 ⟨rfl, hb4⟩
    have B4 : Hid (Below w.heap.size w w4) := by first | exact Lib.hid (below_2 B3.out hb4) | exact Lib.hid (below_a1 B3.out hb4) | exact Lib.hid (below_a2 B3.out hb4) | exact Lib.hid (below_a3 B3.out hb4)
    clear hb4
    go_wp2_with fail
    refine (S2.out _).mono ?_
    rintro e w5 ⟨rfl, hb5⟩
    have B5 : Hid (Below w.heap.size w w5) := by first | exact Lib.hid (below_2 B4.out hb5) | exact Lib.hid (below_a1 B4.out hb5) | exact Lib.hid (below_a2 B4.out hb5) | exact Lib.hid (below_a3 B4.out hb5)
    clear hb5
    clear A1 A2 S1 S2
    go_wp2_with fail
    refine (DrawImageOf_any a1 len1 cap1 w5 (by omega) hl1 (bytes_later HB1.out B5.out)).mono ?_
    rintro e w20 ⟨_, U, _, hU, rfl, hb20⟩
    have B20 := Lib.hid (below_2 B5.out hb20)
    clear hb20 HB1
    obtain ⟨Z, g, b, hz, hgg⟩ := GEN.out U hU
    have SZ := Lib.hid hz
    clear hz GEN
    cases g
    · clear hgg
      go_wp2_with fail
      refine (SZ.out _).mono ?_
      rintro e w21 ⟨rfl, hb21⟩
      have B21 : Hid (Below w.heap.size w w21) := by first | exact Lib.hid (below_2 B20.out hb21) | exact Lib.hid (below_a1 B20.out hb21) | exact Lib.hid (below_a2 B20.out hb21) | exact Lib.hid (below_a3 B20.out hb21)
      clear hb21
      go_wp2_with fail
      refine (TP.out _).mono ?_
      rintro e w22 ⟨rfl, hb22⟩
      have B22 : Hid (Below w.heap.size w w22) := by first | exact Lib.hid (below_2 B21.out hb22) | exact Lib.hid (below_a1 B21.out hb22) | exact Lib.hid (below_a2 B21.out hb22) | exact Lib.hid (below_a3 B21.out hb22)
      clear hb22
      go_wp2_with fail
      refine (NP.out _).mono ?_
      rintro e w23 ⟨rfl, hb23⟩
      have B23 : Hid (Below w.heap.size w w23) := by first | exact Lib.hid (below_2 B22.out hb23) | exact Lib.hid (below_a1 B22.out hb23) | exact Lib.hid (below_a2 B22.out hb23) | exact Lib.hid (below_a3 B22.out hb23)
      clear hb23
      go_wp2_with fail
      refine (BK.out _).mono ?_
      rintro e w24 ⟨rfl, hb24⟩
      have B24 : Hid (Below w.heap.size w w24) := by first | exact Lib.hid (below_2 B23.out hb24) | exact Lib.hid (below_a1 B23.out hb24) | exact Lib.hid (below_a2 B23.out hb24) | exact Lib.hid (below_a3 B23.out hb24)
      clear hb24
      go_wp2_with fail
      refine (NB.out _).mono ?_
      rintro e w25 ⟨rfl, hb25⟩
      have B25 : Hid (Below w.heap.size w w25) := by first | exact Lib.hid (below_2 B24.out hb25) | exact Lib.hid (below_a1 B24.out hb25) | exact Lib.hid (below_a2 B24.out hb25) | exact Lib.hid (below_a3 B24.out hb25)
      clear hb25
      go_wp2_with fail
      go_ret
      exact ⟨ret_bool (by first | rfl | simp), B25.out⟩
    · obtain ⟨hw1, hw2⟩ := hgg rfl
      have W1 := Lib.hid hw1
      have W2 := Lib.hid hw2
      have q5 : (b != b) = false := by simp
      clear hw1 hw2 hgg
      go_wp2_with fail
      refine (SZ.out _).mono ?_
      rintro e w21 ⟨rfl, hb21⟩
      have B21 : Hid (Below w.heap.size w w21) := by first | exact Lib.hid (below_2 B20.out hb21) | exact Lib.hid (below_a1 B20.out hb21) | exact Lib.hid (below_a2 B20.out hb21) | exact Lib.hid (below_a3 B20.out hb21)
      clear hb21
      go_wp2_with fail
      refine (W1.out _).mono ?_
      rintro e w22 ⟨rfl, hb22⟩
      have B22 : Hid (Below w.heap.size w w22) := by first | exact Lib.hid (below_2 B21.out hb22) | exact Lib.hid (below_a1 B21.out hb22) | exact Lib.hid (below_a2 B21.out hb22) | exact Lib.hid (below_a3 B21.out hb22)
      clear hb22
      go_wp2_with fail
      refine (W2.out _).mono ?_
      rintro e w23 ⟨rfl, hb23⟩
      have B23 : Hid (Below w.heap.size w w23) := by first | exact Lib.hid (below_2 B22.out hb23) | exact Lib.hid (below_a1 B22.out hb23) | exact Lib.hid (below_a2 B22.out hb23) | exact Lib.hid (below_a3 B22.out hb23)
      clear hb23
      go_wp2_with fail
      refine (TP.out _).mono ?_
      rintro e w24 ⟨rfl, hb24⟩
      have B24 : Hid (Below w.heap.size w w24) := by first | exact Lib.hid (below_2 B23.out hb24) | exact Lib.hid (below_a1 B23.out hb24) | exact Lib.hid (below_a2 B23.out hb24) | exact Lib.hid (below_a3 B23.out hb24)
      clear hb24
      go_wp2_with fail
      refine (NP.out _).mono ?_
      rintro e w25 ⟨rfl, hb25⟩
      have B25 : Hid (Below w.heap.size w w25) := by first | exact Lib.hid (below_2 B24.out hb25) | exact Lib.hid (below_a1 B24.out hb25) | exact Lib.hid (below_a2 B24.out hb25) | exact Lib.hid (below_a3 B24.out hb25)
      clear hb25
      go_wp2_with fail
      refine (BK.out _).mono ?_
      rintro e w26 ⟨rfl, hb26⟩
      have B26 : Hid (Below w.heap.size w w26) := by first | exact Lib.hid (below_2 B25.out hb26) | exact Lib.hid (below_a1 B25.out hb26) | exact Lib.hid (below_a2 B25.out hb26) | exact Lib.hid (below_a3 B25.out hb26)
      clear hb26
      go_wp2_with fail
      refine (NB.out _).mono ?_
      rintro e w27 ⟨rfl, hb27⟩
      have B27 : Hid (Below w.heap.size w w27) := by first | exact Lib.hid (below_2 B26.out hb27) | exact Lib.hid (below_a1 B26.out hb27) | exact Lib.hid (below_a2 B26.out hb27) | exact Lib.hid (below_a3 B26.out hb27)
      clear hb27
      go_wp2_with fail
      go_ret
      exact ⟨ret_bool (by first | rfl | simp), B27.out⟩

end Go.Proofs.Ythdgheglmkhcbaa.fnImages
