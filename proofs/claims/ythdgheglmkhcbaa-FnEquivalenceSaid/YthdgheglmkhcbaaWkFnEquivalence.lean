/- The walk of the law FnEquivalence. -/
import Derived.Test.YthdgheglmkhcbaaDs
namespace Go.Proofs.Ythdgheglmkhcbaa.fnEquivalence
open Go.ChangeShapes Go.WideShapes Go.ChangeAt Go.RowKit
open Pl
set_option linter.unusedVariables false
set_option maxRecDepth 100000 in
set_option maxHeartbeats 16000000 in
theorem walk (a0 : Option Addr) (len0 cap0 : Nat) (w : World) (hb0 : Bytes w a0 len0 w.heap.size) (hl0 : len0 ≤ cap0) (hc0 : cap0 ≤ 9223372036854775807) :
    Calls Try.prog 11 #[.slice a0 len0 cap0] w fun e w' => e = .returned (.bool true) ∧ Below w.heap.size w w' := by
  by_cases hbig : 1048576 < len0
  · clear hb0
    go_enter Try.func11, Try.ntmps11
    go_wp2_with fail
    go_ret
    exact ⟨rfl, by first | exact Below.refl _ _ | exact below_n _ _ | exact (below_n _ _).alloc (by simp) _⟩
  have D := Lib.hid (DrawIsEquivalence_any a0 len0 cap0 w (by omega) hl0 hb0)
  clear hb0
  go_enter Try.func11, Try.ntmps11
  go_wp2_with fail
  refine D.out.mono ?_
  rintro e w1 ⟨P, hP, rfl, hb1⟩
  have B1 := Lib.hid hb1
  clear D hb1
  have hP' : P.size ≤ 1000000000000 := by omega
  have A1 := Lib.hid (fun w => IsEquivalence_any P hP' w)
  have A2 := Lib.hid (fun w => IsEquivalenceS_any P hP' w)
  have V := Lib.hid (fun w => RelValid_any P hP' w)
  cases hp : bOk 729 P.data.toList
  · rw [eqv_no hp] at A1 A2
    rw [hp] at V
    clear hp
    go_wp2_with fail
    refine (A1.out _).mono ?_
    rintro e w2 ⟨rfl, hb2⟩
    have B2 : Hid (Below w.heap.size w w2) := by first | exact Lib.hid (below_2 B1.out hb2) | exact Lib.hid (below_a1 B1.out hb2) | exact Lib.hid (below_a2 B1.out hb2) | exact Lib.hid (below_a3 B1.out hb2)
    clear hb2
    go_wp2_with fail
    refine (A2.out _).mono ?_
    rintro e w3 ⟨rfl, hb3⟩
    have B3 : Hid (Below w.heap.size w w3) := by first | exact Lib.hid (below_2 B2.out hb3) | exact Lib.hid (below_a1 B2.out hb3) | exact Lib.hid (below_a2 B2.out hb3) | exact Lib.hid (below_a3 B2.out hb3)
    clear hb3
    go_wp2_with fail
    refine (V.out _).mono ?_
    rintro e w' ⟨rfl, rfl⟩
    go_wp2_with fail
    refine (A2.out _).mono ?_
    rintro e w4 ⟨rfl, hb4⟩
    have B4 : Hid (Below w.heap.size w w4) := by first | exact Lib.hid (below_2 B3.out hb4) | exact Lib.hid (below_a1 B3.out hb4) | exact Lib.hid (below_a2 B3.out hb4) | exact Lib.hid (below_a3 B3.out hb4)
    clear hb4
    go_wp2_with fail
    refine (V.out _).mono ?_
    rintro e w' ⟨rfl, rfl⟩
    go_wp2_with fail
    go_ret
    exact ⟨ret_bool (by first | rfl | simp), B4.out⟩
  · rw [hp] at V
    have z1 : (bs (cloT P.data.toList)).size ≤ 1000000000000 := by rw [bs_size, bOk_len (cloT_ok _)]; omega
    have z2 : (bs (trnT P.data.toList)).size ≤ 1000000000000 := by rw [bs_size, bOk_len (trnT_ok)]; omega
    have z3 : (bs (opT (· || ·) P.data.toList (trnT P.data.toList))).size ≤ 1000000000000 := by rw [bs_size, bOk_len (opT_ok)]; omega
    have z4 : (bs (cloT (opT (· || ·) P.data.toList (trnT P.data.toList)))).size ≤ 1000000000000 := by rw [bs_size, bOk_len (cloT_ok _)]; omega
    have k2 : bOk 729 (bs (trnT P.data.toList)).data.toList = true := by rw [bs_list]; exact trnT_ok
    have k3 : bOk 729 (bs (opT (· || ·) P.data.toList (trnT P.data.toList))).data.toList = true := by rw [bs_list]; exact opT_ok
    have CL := Lib.hid (fun w => CloseRel_any P hP' w)
    rw [closeR_yes hp] at CL
    have TP := Lib.hid (fun w => ppTurn_any P hP' w)
    rw [turnR_yes hp] at TP
    have PO := Lib.hid (fun w => ppOrRel_any P (bs (trnT P.data.toList)) hP' z2 w)
    rw [bothR_yes _ hp k2, bs_list] at PO
    have CZ := Lib.hid (fun w => CloseRel_any (bs (opT (· || ·) P.data.toList (trnT P.data.toList))) z3 w)
    rw [closeR_yes k3, bs_list] at CZ
    have IZ := Lib.hid (fun w => IsEquivalence_any (bs (cloT (opT (· || ·) P.data.toList (trnT P.data.toList)))) z4 w)
    rw [bs_list, eqv_clo (or_trn hp)] at IZ
    simp only [optB, Option.isSome_some] at CL TP PO CZ
    have he : eqvT P.data.toList = (trnT P.data.toList == P.data.toList && cloT P.data.toList == P.data.toList) := by unfold eqvT; rw [hp]; rfl
    rw [he] at A1 A2
    have c1 : ((bs (cloT P.data.toList)).toList == P.toList) = (cloT P.data.toList == P.data.toList) := eqTS
    have c2 : ((bs (trnT P.data.toList)).toList == P.toList) = (trnT P.data.toList == P.data.toList) := eqTS
    clear z1 z2 z3 z4 k2 k3 he hp
    generalize bs (cloT (opT (· || ·) P.data.toList (trnT P.data.toList))) = Z at *
    generalize bs (opT (· || ·) P.data.toList (trnT P.data.toList)) = O at *
    generalize bs (cloT P.data.toList) = X at *
    generalize bs (trnT P.data.toList) = T at *
    generalize (trnT P.data.toList == P.data.toList) = b1 at *
    generalize (cloT P.data.toList == P.data.toList) = b2 at *
    cases b2
    · rw [Bool.and_false] at A1 A2
      go_wp2_with fail
      refine (A1.out _).mono ?_
      rintro e w2 ⟨rfl, hb2⟩
      have B2 : Hid (Below w.heap.size w w2) := by first | exact Lib.hid (below_2 B1.out hb2) | exact Lib.hid (below_a1 B1.out hb2) | exact Lib.hid (below_a2 B1.out hb2) | exact Lib.hid (below_a3 B1.out hb2)
      clear hb2
      go_wp2_with fail
      refine (A2.out _).mono ?_
      rintro e w3 ⟨rfl, hb3⟩
      have B3 : Hid (Below w.heap.size w w3) := by first | exact Lib.hid (below_2 B2.out hb3) | exact Lib.hid (below_a1 B2.out hb3) | exact Lib.hid (below_a2 B2.out hb3) | exact Lib.hid (below_a3 B2.out hb3)
      clear hb3
      go_wp2_with fail
      refine (V.out _).mono ?_
      rintro e w' ⟨rfl, rfl⟩
      go_wp2_with fail
      refine (CL.out _).mono ?_
      rintro e w4 ⟨rfl, hb4⟩
      have B4 : Hid (Below w.heap.size w w4) := by first | exact Lib.hid (below_2 B3.out hb4) | exact Lib.hid (below_a1 B3.out hb4) | exact Lib.hid (below_a2 B3.out hb4) | exact Lib.hid (below_a3 B3.out hb4)
      clear hb4
      go_wp2_with fail
      refine (TP.out _).mono ?_
      rintro e w5 ⟨rfl, hb5⟩
      have B5 : Hid (Below w.heap.size w w5) := by first | exact Lib.hid (below_2 B4.out hb5) | exact Lib.hid (below_a1 B4.out hb5) | exact Lib.hid (below_a2 B4.out hb5) | exact Lib.hid (below_a3 B4.out hb5)
      clear hb5
      go_wp2_with fail
      refine (PO.out _).mono ?_
      rintro e w6 ⟨rfl, hb6⟩
      have B6 : Hid (Below w.heap.size w w6) := by first | exact Lib.hid (below_2 B5.out hb6) | exact Lib.hid (below_a1 B5.out hb6) | exact Lib.hid (below_a2 B5.out hb6) | exact Lib.hid (below_a3 B5.out hb6)
      clear hb6
      go_wp2_with fail
      refine (CZ.out _).mono ?_
      rintro e w7 ⟨rfl, hb7⟩
      have B7 : Hid (Below w.heap.size w w7) := by first | exact Lib.hid (below_2 B6.out hb7) | exact Lib.hid (below_a1 B6.out hb7) | exact Lib.hid (below_a2 B6.out hb7) | exact Lib.hid (below_a3 B6.out hb7)
      clear hb7
      go_wp2_with fail
      refine (IZ.out _).mono ?_
      rintro e w8 ⟨rfl, hb8⟩
      have B8 : Hid (Below w.heap.size w w8) := by first | exact Lib.hid (below_2 B7.out hb8) | exact Lib.hid (below_a1 B7.out hb8) | exact Lib.hid (below_a2 B7.out hb8) | exact Lib.hid (below_a3 B7.out hb8)
      clear hb8
      go_wp2_with fail
      go_ret
      exact ⟨ret_bool (by first | rfl | simp), B8.out⟩
    · rw [Bool.and_true] at A1 A2
      have q1 : (b1 != b1) = false := by simp
      have q2 : (b1 == b1) = true := by simp
      go_wp2_with fail
      refine (A1.out _).mono ?_
      rintro e w2 ⟨rfl, hb2⟩
      have B2 : Hid (Below w.heap.size w w2) := by first | exact Lib.hid (below_2 B1.out hb2) | exact Lib.hid (below_a1 B1.out hb2) | exact Lib.hid (below_a2 B1.out hb2) | exact Lib.hid (below_a3 B1.out hb2)
      clear hb2
      go_wp2_with fail
      refine (A2.out _).mono ?_
      rintro e w3 ⟨rfl, hb3⟩
      have B3 : Hid (Below w.heap.size w w3) := by first | exact Lib.hid (below_2 B2.out hb3) | exact Lib.hid (below_a1 B2.out hb3) | exact Lib.hid (below_a2 B2.out hb3) | exact Lib.hid (below_a3 B2.out hb3)
      clear hb3
      go_wp2_with fail
      refine (V.out _).mono ?_
      rintro e w' ⟨rfl, rfl⟩
      go_wp2_with fail
      refine (CL.out _).mono ?_
      rintro e w4 ⟨rfl, hb4⟩
      have B4 : Hid (Below w.heap.size w w4) := by first | exact Lib.hid (below_2 B3.out hb4) | exact Lib.hid (below_a1 B3.out hb4) | exact Lib.hid (below_a2 B3.out hb4) | exact Lib.hid (below_a3 B3.out hb4)
      clear hb4
      go_wp2_with fail
      refine (TP.out _).mono ?_
      rintro e w5 ⟨rfl, hb5⟩
      have B5 : Hid (Below w.heap.size w w5) := by first | exact Lib.hid (below_2 B4.out hb5) | exact Lib.hid (below_a1 B4.out hb5) | exact Lib.hid (below_a2 B4.out hb5) | exact Lib.hid (below_a3 B4.out hb5)
      clear hb5
      go_wp2_with fail
      refine (PO.out _).mono ?_
      rintro e w6 ⟨rfl, hb6⟩
      have B6 : Hid (Below w.heap.size w w6) := by first | exact Lib.hid (below_2 B5.out hb6) | exact Lib.hid (below_a1 B5.out hb6) | exact Lib.hid (below_a2 B5.out hb6) | exact Lib.hid (below_a3 B5.out hb6)
      clear hb6
      go_wp2_with fail
      refine (CZ.out _).mono ?_
      rintro e w7 ⟨rfl, hb7⟩
      have B7 : Hid (Below w.heap.size w w7) := by first | exact Lib.hid (below_2 B6.out hb7) | exact Lib.hid (below_a1 B6.out hb7) | exact Lib.hid (below_a2 B6.out hb7) | exact Lib.hid (below_a3 B6.out hb7)
      clear hb7
      go_wp2_with fail
      refine (TP.out _).mono ?_
      rintro e w8 ⟨rfl, hb8⟩
      have B8 : Hid (Below w.heap.size w w8) := by first | exact Lib.hid (below_2 B7.out hb8) | exact Lib.hid (below_a1 B7.out hb8) | exact Lib.hid (below_a2 B7.out hb8) | exact Lib.hid (below_a3 B7.out hb8)
      clear hb8
      go_wp2_with fail
      refine (IZ.out _).mono ?_
      rintro e w9 ⟨rfl, hb9⟩
      have B9 : Hid (Below w.heap.size w w9) := by first | exact Lib.hid (below_2 B8.out hb9) | exact Lib.hid (below_a1 B8.out hb9) | exact Lib.hid (below_a2 B8.out hb9) | exact Lib.hid (below_a3 B8.out hb9)
      clear hb9
      go_wp2_with fail
      go_ret
      exact ⟨ret_bool (by first | rfl | simp), B9.out⟩

end Go.Proofs.Ythdgheglmkhcbaa.fnEquivalence
