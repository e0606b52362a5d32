/- The walk of the law FnTurnRel. -/
import Derived.Test.YthdgheglmkhcbaaDs
namespace Go.Proofs.Ythdgheglmkhcbaa.fnTurnRel
open Go.ChangeShapes Go.WideShapes Go.ChangeAt Go.RowKit
open Pl
set_option linter.unusedVariables false
def sameN : Nd := .n2 38 (.n2 61 (.n0 120) (.n0 88)) (.n2 38 (.n2 61 (.n0 121) (.n0 89)) (.n2 61 (.n0 122) (.n0 90)))
theorem whole_same : whole true 1 200 (⟨#[38, 61, 120, 88, 38, 61, 121, 89, 61, 122, 90]⟩ : ByteArray).data.toList = some sameN :=
  whole_text (k := sameN) (by decide +kernel) (by decide +kernel)
theorem same_rel : relOf sameN = sameT := by
  unfold relOf sameT rt
  apply bits_congr
  intro n hn
  have h : ∀ i, i < 27 → ∀ j, j < 27 → relB sameN i j = (i == j) := by decide +kernel
  exact h _ (by omega) _ (by omega)
theorem same_any (w : World) : Calls Try.prog 47 #[.string ⟨#[38, 61, 120, 88, 38, 61, 121, 89, 61, 122, 90]⟩] w fun e w' => (e = .returned (.string (bs sameT)) ∧ Below w.heap.size w w') := by
  have h := ppRel_any ⟨#[38, 61, 120, 88, 38, 61, 121, 89, 61, 122, 90]⟩ (by decide) w
  rw [whole_same] at h
  simp only [Option.map_some, optB, same_rel] at h
  exact h
set_option maxRecDepth 100000 in
set_option maxHeartbeats 16000000 in
theorem walk (a0 : Option Addr) (len0 cap0 : Nat) (w : World) (hb0 : Bytes w a0 len0 w.heap.size) (hl0 : len0 ≤ cap0) (hc0 : cap0 ≤ 9223372036854775807) :
    Calls Try.prog 8 #[.slice a0 len0 cap0] w fun e w' => e = .returned (.bool true) ∧ Below w.heap.size w w' := by
  by_cases hbig : 1048576 < len0
  · clear hb0
    go_enter Try.func8, Try.ntmps8
    go_wp2_with fail
    go_ret
    exact ⟨rfl, by first | exact Below.refl _ _ | exact below_n _ _ | exact (below_n _ _).alloc (by simp) _⟩
  have D := Lib.hid (DrawComposeRel_any a0 len0 cap0 w (by omega) hl0 hb0)
  clear hb0
  go_enter Try.func8, Try.ntmps8
  go_wp2_with fail
  refine D.out.mono ?_
  rintro e w1 ⟨P, Q, hP, hQ, rfl, hb1⟩
  have B1 := Lib.hid hb1
  clear D hb1
  have hP' : P.size ≤ 1000000000000 := by omega
  have hQ' : Q.size ≤ 1000000000000 := by omega
  have A1 := Lib.hid (fun w => ComposeRel_any P Q hP' hQ' w)
  have A2 := Lib.hid (fun w => ComposeRelS_any P Q hP' hQ' w)
  cases hpq : bOk 729 P.data.toList && bOk 729 Q.data.toList
  · rw [thenR_no hpq] at A1 A2
    simp only [optB, Option.isSome_none] at A1 A2
    have q1 : ((bs []).toList != (bs []).toList) = false := by simp
    have q2 : ((bs []).toList == (bs []).toList) = true := by simp
    generalize bs [] = E0 at *
    clear hpq
    go_wp2_with fail
    refine (A1.out _).mono ?_
    rintro e w2 ⟨rfl, hb2⟩
    have B2 : Hid (Below w.heap.size w w2) := by first | exact Lib.hid (below_2 B1.out hb2) | exact Lib.hid (below_a1 B1.out hb2) | exact Lib.hid (below_a2 B1.out hb2) | exact Lib.hid (below_a3 B1.out hb2)
    clear hb2
    go_wp2_with fail
    refine (A2.out _).mono ?_
    rintro e w3 ⟨rfl, hb3⟩
    have B3 : Hid (Below w.heap.size w w3) := by first | exact Lib.hid (below_2 B2.out hb3) | exact Lib.hid (below_a1 B2.out hb3) | exact Lib.hid (below_a2 B2.out hb3) | exact Lib.hid (below_a3 B2.out hb3)
    clear hb3
    go_wp2_with fail
    go_ret
    exact ⟨ret_bool (by first | rfl | simp), B3.out⟩
  · obtain ⟨hp, hq⟩ : bOk 729 P.data.toList = true ∧ bOk 729 Q.data.toList = true := by simpa using hpq
    have z1 : (bs (cmpT P.data.toList Q.data.toList)).size ≤ 1000000000000 := by rw [bs_size, bOk_len (cmpT_ok)]; omega
    have z2 : (bs (trnT P.data.toList)).size ≤ 1000000000000 := by rw [bs_size, bOk_len (trnT_ok)]; omega
    have z3 : (bs (trnT Q.data.toList)).size ≤ 1000000000000 := by rw [bs_size, bOk_len (trnT_ok)]; omega
    have z4 : (bs (sameT)).size ≤ 1000000000000 := by rw [bs_size, bOk_len (sameT_ok)]; omega
    have k1 : bOk 729 (bs (cmpT P.data.toList Q.data.toList)).data.toList = true := by rw [bs_list]; exact cmpT_ok
    have k2 : bOk 729 (bs (trnT P.data.toList)).data.toList = true := by rw [bs_list]; exact trnT_ok
    have k3 : bOk 729 (bs (trnT Q.data.toList)).data.toList = true := by rw [bs_list]; exact trnT_ok
    have k4 : bOk 729 (bs (sameT)).data.toList = true := by rw [bs_list]; exact sameT_ok
    have TP := Lib.hid (fun w => ppTurn_any P hP' w)
    rw [turnR_yes hp] at TP
    have TQ := Lib.hid (fun w => ppTurn_any Q hQ' w)
    rw [turnR_yes hq] at TQ
    have TT := Lib.hid (fun w => ppTurn_any (bs (trnT P.data.toList)) z2 w)
    rw [turnR_yes k2, bs_list, trnT_trn hp] at TT
    have TX := Lib.hid (fun w => ppTurn_any (bs (cmpT P.data.toList Q.data.toList)) z1 w)
    rw [turnR_yes k1, bs_list, trnT_cmp] at TX
    have TH := Lib.hid (fun w => ppThen_any (bs (trnT Q.data.toList)) (bs (trnT P.data.toList)) z3 z2 w)
    rw [thenR_yes k3 k2, bs_list, bs_list] at TH
    have PS := Lib.hid (fun w => ppThen_any P (bs sameT) hP' z4 w)
    rw [thenR_yes hp k4, bs_list, cmpT_same hp] at PS
    have SP := Lib.hid (fun w => ppThen_any (bs sameT) P z4 hP' w)
    rw [thenR_yes k4 hp, bs_list, same_cmpT hp] at SP
    have CT := Lib.hid (fun w => CountRel_any (bs (trnT P.data.toList)) z2 w)
    have CP := Lib.hid (fun w => CountRel_any P hP' w)
    have e1 : cntRO (bs (trnT P.data.toList)).data.toList = (cntR P.data.toList : Int) := by unfold cntRO; rw [bs_list, trnT_ok, cntR_trn]; rfl
    have e2 : cntRO P.data.toList = (cntR P.data.toList : Int) := by unfold cntRO; rw [hp]; rfl
    rw [e1] at CT
    rw [e2] at CP
    have SM := Lib.hid same_any
    rw [thenR_yes hp hq] at A1 A2
    simp only [optB, Option.isSome_some] at A1 A2 TP TQ TT TX TH PS SP
    rw [bs_of] at TT PS SP
    clear e1 e2 k1 k2 k3 k4 z1 z2 z3 z4 hpq hp hq
    generalize bs (cmpT (trnT Q.data.toList) (trnT P.data.toList)) = G at *
    generalize bs (cmpT P.data.toList Q.data.toList) = X at *
    generalize bs (trnT P.data.toList) = Y1 at *
    generalize bs (trnT Q.data.toList) = Y2 at *
    generalize bs sameT = S at *
    generalize (cntR P.data.toList : Int) = m at *
    have q1 : (X.toList != X.toList) = false := by simp
    have q2 : (P.toList == P.toList) = true := by simp
    have q3 : (G.toList == G.toList) = true := by simp
    have q4 : (m == m) = true := by simp
    go_wp2_with fail
    refine (A1.out _).mono ?_
    rintro e w2 ⟨rfl, hb2⟩
    have B2 : Hid (Below w.heap.size w w2) := by first | exact Lib.hid (below_2 B1.out hb2) | exact Lib.hid (below_a1 B1.out hb2) | exact Lib.hid (below_a2 B1.out hb2) | exact Lib.hid (below_a3 B1.out hb2)
    clear hb2
    go_wp2_with fail
    refine (A2.out _).mono ?_
    rintro e w3 ⟨rfl, hb3⟩
    have B3 : Hid (Below w.heap.size w w3) := by first | exact Lib.hid (below_2 B2.out hb3) | exact Lib.hid (below_a1 B2.out hb3) | exact Lib.hid (below_a2 B2.out hb3) | exact Lib.hid (below_a3 B2.out hb3)
    clear hb3
    go_wp2_with fail
    refine (SM.out _).mono ?_
    rintro e w4 ⟨rfl, hb4⟩
    have B4 : Hid (Below w.heap.size w w4) := by first | exact Lib.hid (below_2 B3.out hb4) | exact Lib.hid (below_a1 B3.out hb4) | exact Lib.hid (below_a2 B3.out hb4) | exact Lib.hid (below_a3 B3.out hb4)
    clear hb4
    go_wp2_with fail
    refine (TP.out _).mono ?_
    rintro e w5 ⟨rfl, hb5⟩
    have B5 : Hid (Below w.heap.size w w5) := by first | exact Lib.hid (below_2 B4.out hb5) | exact Lib.hid (below_a1 B4.out hb5) | exact Lib.hid (below_a2 B4.out hb5) | exact Lib.hid (below_a3 B4.out hb5)
    clear hb5
    go_wp2_with fail
    refine (TT.out _).mono ?_
    rintro e w6 ⟨rfl, hb6⟩
    have B6 : Hid (Below w.heap.size w w6) := by first | exact Lib.hid (below_2 B5.out hb6) | exact Lib.hid (below_a1 B5.out hb6) | exact Lib.hid (below_a2 B5.out hb6) | exact Lib.hid (below_a3 B5.out hb6)
    clear hb6
    go_wp2_with fail
    refine (TX.out _).mono ?_
    rintro e w7 ⟨rfl, hb7⟩
    have B7 : Hid (Below w.heap.size w w7) := by first | exact Lib.hid (below_2 B6.out hb7) | exact Lib.hid (below_a1 B6.out hb7) | exact Lib.hid (below_a2 B6.out hb7) | exact Lib.hid (below_a3 B6.out hb7)
    clear hb7
    go_wp2_with fail
    refine (TQ.out _).mono ?_
    rintro e w8 ⟨rfl, hb8⟩
    have B8 : Hid (Below w.heap.size w w8) := by first | exact Lib.hid (below_2 B7.out hb8) | exact Lib.hid (below_a1 B7.out hb8) | exact Lib.hid (below_a2 B7.out hb8) | exact Lib.hid (below_a3 B7.out hb8)
    clear hb8
    go_wp2_with fail
    refine (TP.out _).mono ?_
    rintro e w9 ⟨rfl, hb9⟩
    have B9 : Hid (Below w.heap.size w w9) := by first | exact Lib.hid (below_2 B8.out hb9) | exact Lib.hid (below_a1 B8.out hb9) | exact Lib.hid (below_a2 B8.out hb9) | exact Lib.hid (below_a3 B8.out hb9)
    clear hb9
    go_wp2_with fail
    refine (TH.out _).mono ?_
    rintro e w10 ⟨rfl, hb10⟩
    have B10 : Hid (Below w.heap.size w w10) := by first | exact Lib.hid (below_2 B9.out hb10) | exact Lib.hid (below_a1 B9.out hb10) | exact Lib.hid (below_a2 B9.out hb10) | exact Lib.hid (below_a3 B9.out hb10)
    clear hb10
    go_wp2_with fail
    refine (PS.out _).mono ?_
    rintro e w11 ⟨rfl, hb11⟩
    have B11 : Hid (Below w.heap.size w w11) := by first | exact Lib.hid (below_2 B10.out hb11) | exact Lib.hid (below_a1 B10.out hb11) | exact Lib.hid (below_a2 B10.out hb11) | exact Lib.hid (below_a3 B10.out hb11)
    clear hb11
    go_wp2_with fail
    refine (SP.out _).mono ?_
    rintro e w12 ⟨rfl, hb12⟩
    have B12 : Hid (Below w.heap.size w w12) := by first | exact Lib.hid (below_2 B11.out hb12) | exact Lib.hid (below_a1 B11.out hb12) | exact Lib.hid (below_a2 B11.out hb12) | exact Lib.hid (below_a3 B11.out hb12)
    clear hb12
    go_wp2_with fail
    refine (TP.out _).mono ?_
    rintro e w13 ⟨rfl, hb13⟩
    have B13 : Hid (Below w.heap.size w w13) := by first | exact Lib.hid (below_2 B12.out hb13) | exact Lib.hid (below_a1 B12.out hb13) | exact Lib.hid (below_a2 B12.out hb13) | exact Lib.hid (below_a3 B12.out hb13)
    clear hb13
    go_wp2_with fail
    refine (CT.out _).mono ?_
    rintro e w' ⟨rfl, rfl⟩
    go_wp2_with fail
    refine (CP.out _).mono ?_
    rintro e w' ⟨rfl, rfl⟩
    go_wp2_with fail
    go_ret
    exact ⟨ret_bool (by first | rfl | simp), B13.out⟩

end Go.Proofs.Ythdgheglmkhcbaa.fnTurnRel
