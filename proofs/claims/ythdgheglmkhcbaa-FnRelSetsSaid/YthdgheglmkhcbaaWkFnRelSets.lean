/- The walk of the law FnRelSets. -/
import Derived.Test.YthdgheglmkhcbaaDs
namespace Go.Proofs.Ythdgheglmkhcbaa.fnRelSets
open Go.ChangeShapes Go.WideShapes Go.ChangeAt Go.RowKit
open Pl
set_option linter.unusedVariables false
theorem win_and_l (p q : List UInt8) : winR (opT (· && ·) p q) p = true := winR_iff.2 (fun i hi h => by unfold opT at h; rw [bt_bits hi] at h; simp at h; exact h.1)
theorem win_or_r (p q : List UInt8) : winR q (opT (· || ·) p q) = true := winR_iff.2 (fun i hi h => by unfold opT; rw [bt_bits hi]; simp [h])
theorem within_and {p q : List UInt8} (hp : bOk 729 p = true) : (opT (· && ·) p q == p) = winR p q := bool_ext (by rw [beq_iff_eq]; exact winR_and hp)
set_option maxRecDepth 100000 in
set_option maxHeartbeats 16000000 in
theorem walk (a0 : Option Addr) (len0 cap0 : Nat) (w : World) (hb0 : Bytes w a0 len0 w.heap.size) (hl0 : len0 ≤ cap0) (hc0 : cap0 ≤ 9223372036854775807) :
    Calls Try.prog 7 #[.slice a0 len0 cap0] w fun e w' => e = .returned (.bool true) ∧ Below w.heap.size w w' := by
  by_cases hbig : 1048576 < len0
  · clear hb0
    go_enter Try.func7, Try.ntmps7
    go_wp2_with fail
    go_ret
    exact ⟨rfl, by first | exact Below.refl _ _ | exact below_n _ _ | exact (below_n _ _).alloc (by simp) _⟩
  have D := Lib.hid (DrawAndRel_any a0 len0 cap0 w (by omega) hl0 hb0)
  clear hb0
  go_enter Try.func7, Try.ntmps7
  go_wp2_with fail
  refine D.out.mono ?_
  rintro e w1 ⟨P, Q, hP, hQ, rfl, hb1⟩
  have B1 := Lib.hid hb1
  clear D hb1
  have hP' : P.size ≤ 1000000000000 := by omega
  have hQ' : Q.size ≤ 1000000000000 := by omega
  have A1 := Lib.hid (fun w => AndRel_any P Q hP' hQ' w)
  have A2 := Lib.hid (fun w => AndRelS_any P Q hP' hQ' w)
  have O1 := Lib.hid (fun w => OrRel_any P Q hP' hQ' w)
  have O2 := Lib.hid (fun w => OrRelS_any P Q hP' hQ' w)
  cases hpq : bOk 729 P.data.toList && bOk 729 Q.data.toList
  · rw [bothR_no _ hpq] at A1 A2 O1 O2
    simp only [optB, Option.isSome_none] at A1 A2 O1 O2
    have q1 : ((bs []).toList != (bs []).toList) = false := by simp
    have q2 : ((bs []).toList == (bs []).toList) = true := by simp
    generalize bs [] = E0 at *
    clear hpq
    go_wp2_with fail
    refine (A1.out _).mono ?_
    rintro e w2 ⟨rfl, hb2⟩
    have B2 : Hid (Below w.heap.size w w2) := by first | exact Lib.hid (below_2 B1.out hb2) | exact Lib.hid (below_a1 B1.out hb2) | exact Lib.hid (below_a2 B1.out hb2) | exact Lib.hid (below_a3 B1.out hb2)
    clear hb2
    go_wp2_with fail
    refine (A2.out _).mono ?_
    rintro e w3 ⟨rfl, hb3⟩
    have B3 : Hid (Below w.heap.size w w3) := by first | exact Lib.hid (below_2 B2.out hb3) | exact Lib.hid (below_a1 B2.out hb3) | exact Lib.hid (below_a2 B2.out hb3) | exact Lib.hid (below_a3 B2.out hb3)
    clear hb3
    go_wp2_with fail
    refine (O1.out _).mono ?_
    rintro e w4 ⟨rfl, hb4⟩
    have B4 : Hid (Below w.heap.size w w4) := by first | exact Lib.hid (below_2 B3.out hb4) | exact Lib.hid (below_a1 B3.out hb4) | exact Lib.hid (below_a2 B3.out hb4) | exact Lib.hid (below_a3 B3.out hb4)
    clear hb4
    go_wp2_with fail
    refine (O2.out _).mono ?_
    rintro e w5 ⟨rfl, hb5⟩
    have B5 : Hid (Below w.heap.size w w5) := by first | exact Lib.hid (below_2 B4.out hb5) | exact Lib.hid (below_a1 B4.out hb5) | exact Lib.hid (below_a2 B4.out hb5) | exact Lib.hid (below_a3 B4.out hb5)
    clear hb5
    go_wp2_with fail
    go_ret
    exact ⟨ret_bool (by first | rfl | simp), B5.out⟩
  · obtain ⟨hp, hq⟩ : bOk 729 P.data.toList = true ∧ bOk 729 Q.data.toList = true := by simpa using hpq
    have haz : (bs (opT (· && ·) P.data.toList Q.data.toList)).size ≤ 1000000000000 := by rw [bs_size, bOk_len (opT_ok)]; omega
    have hoz : (bs (opT (· || ·) P.data.toList Q.data.toList)).size ≤ 1000000000000 := by rw [bs_size, bOk_len (opT_ok)]; omega
    have hn1 : (bs (ngT P.data.toList)).size ≤ 1000000000000 := by rw [bs_size, bOk_len (ngT_ok)]; omega
    have hn2 : (bs (ngT Q.data.toList)).size ≤ 1000000000000 := by rw [bs_size, bOk_len (ngT_ok)]; omega
    have ht1 : (bs (trnT P.data.toList)).size ≤ 1000000000000 := by rw [bs_size, bOk_len (trnT_ok)]; omega
    have ht2 : (bs (trnT Q.data.toList)).size ≤ 1000000000000 := by rw [bs_size, bOk_len (trnT_ok)]; omega
    have ha : bOk 729 (bs (opT (· && ·) P.data.toList Q.data.toList)).data.toList = true := by rw [bs_list]; exact opT_ok
    have hk1 : bOk 729 (bs (ngT P.data.toList)).data.toList = true := by rw [bs_list]; exact ngT_ok
    have hk2 : bOk 729 (bs (ngT Q.data.toList)).data.toList = true := by rw [bs_list]; exact ngT_ok
    have hk3 : bOk 729 (bs (trnT P.data.toList)).data.toList = true := by rw [bs_list]; exact trnT_ok
    have hk4 : bOk 729 (bs (trnT Q.data.toList)).data.toList = true := by rw [bs_list]; exact trnT_ok
    have CA := Lib.hid (fun w => CountRel_any (bs (opT (· && ·) P.data.toList Q.data.toList)) haz w)
    have CO := Lib.hid (fun w => CountRel_any (bs (opT (· || ·) P.data.toList Q.data.toList)) hoz w)
    have CP := Lib.hid (fun w => CountRel_any P hP' w)
    have CQ := Lib.hid (fun w => CountRel_any Q hQ' w)
    have e1 : cntRO (bs (opT (· && ·) P.data.toList Q.data.toList)).data.toList = (cntR (opT (· && ·) P.data.toList Q.data.toList) : Int) := by unfold cntRO; rw [bs_list, opT_ok]; rfl
    have e2 : cntRO (bs (opT (· || ·) P.data.toList Q.data.toList)).data.toList = (cntR (opT (· || ·) P.data.toList Q.data.toList) : Int) := by unfold cntRO; rw [bs_list, opT_ok]; rfl
    have e3 : cntRO P.data.toList = (cntR P.data.toList : Int) := by unfold cntRO; rw [hp]; rfl
    have e4 : cntRO Q.data.toList = (cntR Q.data.toList : Int) := by unfold cntRO; rw [hq]; rfl
    rw [e1] at CA
    rw [e2] at CO
    rw [e3] at CP
    rw [e4] at CQ
    have hsum := cntR_and_or P.data.toList Q.data.toList
    have NA := Lib.hid (fun w => ppNotRel_any (bs (opT (· && ·) P.data.toList Q.data.toList)) haz w)
    rw [notR_yes ha, bs_list, ngT_and] at NA
    have NP := Lib.hid (fun w => ppNotRel_any P hP' w)
    rw [notR_yes hp] at NP
    have NQ := Lib.hid (fun w => ppNotRel_any Q hQ' w)
    rw [notR_yes hq] at NQ
    have OO := Lib.hid (fun w => ppOrRel_any (bs (ngT P.data.toList)) (bs (ngT Q.data.toList)) hn1 hn2 w)
    rw [bothR_yes _ hk1 hk2, bs_list, bs_list] at OO
    have W1 := Lib.hid (fun w => RelWithin_any (bs (opT (· && ·) P.data.toList Q.data.toList)) P haz hP' w)
    have f1 : winRO (bs (opT (· && ·) P.data.toList Q.data.toList)).data.toList P.data.toList = true := by unfold winRO; rw [bs_list, opT_ok, hp, win_and_l]; rfl
    rw [f1] at W1
    have W2 := Lib.hid (fun w => RelWithin_any Q (bs (opT (· || ·) P.data.toList Q.data.toList)) hQ' hoz w)
    have f2 : winRO Q.data.toList (bs (opT (· || ·) P.data.toList Q.data.toList)).data.toList = true := by unfold winRO; rw [bs_list, opT_ok, hq, win_or_r]; rfl
    rw [f2] at W2
    have TA := Lib.hid (fun w => ppTurn_any (bs (opT (· && ·) P.data.toList Q.data.toList)) haz w)
    rw [turnR_yes ha, bs_list, trnT_op] at TA
    have TP := Lib.hid (fun w => ppTurn_any P hP' w)
    rw [turnR_yes hp] at TP
    have TQ := Lib.hid (fun w => ppTurn_any Q hQ' w)
    rw [turnR_yes hq] at TQ
    have AA := Lib.hid (fun w => ppAndRel_any (bs (trnT P.data.toList)) (bs (trnT Q.data.toList)) ht1 ht2 w)
    rw [bothR_yes _ hk3 hk4, bs_list, bs_list] at AA
    have W3 := Lib.hid (fun w => RelWithin_any P Q hP' hQ' w)
    have f3 : winRO P.data.toList Q.data.toList = winR P.data.toList Q.data.toList := by unfold winRO; rw [hp, hq, Bool.true_and, Bool.true_and]
    rw [f3] at W3
    have hand : ((bs (opT (· && ·) P.data.toList Q.data.toList)).toList == P.toList) = winR P.data.toList Q.data.toList := by rw [eqTS, within_and hp]
    rw [bothR_yes _ hp hq] at A1 A2 O1 O2
    simp only [optB, Option.isSome_some] at A1 A2 O1 O2 NA NP NQ OO TA TP TQ AA
    clear e1 e2 e3 e4 f1 f2 f3 ha hk1 hk2 hk3 hk4 haz hoz hn1 hn2 ht1 ht2 hpq
    generalize bs (opT (· || ·) (ngT P.data.toList) (ngT Q.data.toList)) = G1 at *
    generalize bs (opT (· && ·) (trnT P.data.toList) (trnT Q.data.toList)) = G2 at *
    generalize cntR (opT (· && ·) P.data.toList Q.data.toList) = ma at *
    generalize cntR (opT (· || ·) P.data.toList Q.data.toList) = mo at *
    generalize cntR P.data.toList = mp at *
    generalize cntR Q.data.toList = mq at *
    generalize bs (opT (· && ·) P.data.toList Q.data.toList) = A at *
    generalize bs (opT (· || ·) P.data.toList Q.data.toList) = O at *
    generalize bs (ngT P.data.toList) = X1 at *
    generalize bs (ngT Q.data.toList) = X2 at *
    generalize bs (trnT P.data.toList) = Y1 at *
    generalize bs (trnT Q.data.toList) = Y2 at *
    generalize winR P.data.toList Q.data.toList = b at *
    have q1 : (A.toList != A.toList) = false := by simp
    have q2 : (O.toList != O.toList) = false := by simp
    have q3 : (wrap64 ((ma : Int) + (mo : Int)) == wrap64 ((mp : Int) + (mq : Int))) = true := by rw [show (ma : Int) + mo = (mp : Int) + mq by omega]; simp
    have q3' : wrap64 ((ma : Int) + (mo : Int)) = wrap64 ((mp : Int) + (mq : Int)) := by rw [show (ma : Int) + mo = (mp : Int) + mq by omega]
    have q4 : (G1.toList == G1.toList) = true := by simp
    have q5 : (G2.toList == G2.toList) = true := by simp
    have q6 : (b == b) = true := by simp
    clear hp hq hsum
    go_wp2_with fail
    refine (A1.out _).mono ?_
    rintro e w2 ⟨rfl, hb2⟩
    have B2 : Hid (Below w.heap.size w w2) := by first | exact Lib.hid (below_2 B1.out hb2) | exact Lib.hid (below_a1 B1.out hb2) | exact Lib.hid (below_a2 B1.out hb2) | exact Lib.hid (below_a3 B1.out hb2)
    clear hb2
    go_wp2_with fail
    refine (A2.out _).mono ?_
    rintro e w3 ⟨rfl, hb3⟩
    have B3 : Hid (Below w.heap.size w w3) := by first | exact Lib.hid (below_2 B2.out hb3) | exact Lib.hid (below_a1 B2.out hb3) | exact Lib.hid (below_a2 B2.out hb3) | exact Lib.hid (below_a3 B2.out hb3)
    clear hb3
    go_wp2_with fail
    refine (O1.out _).mono ?_
    rintro e w4 ⟨rfl, hb4⟩
    have B4 : Hid (Below w.heap.size w w4) := by first | exact Lib.hid (below_2 B3.out hb4) | exact Lib.hid (below_a1 B3.out hb4) | exact Lib.hid (below_a2 B3.out hb4) | exact Lib.hid (below_a3 B3.out hb4)
    clear hb4
    go_wp2_with fail
    refine (O2.out _).mono ?_
    rintro e w5 ⟨rfl, hb5⟩
    have B5 : Hid (Below w.heap.size w w5) := by first | exact Lib.hid (below_2 B4.out hb5) | exact Lib.hid (below_a1 B4.out hb5) | exact Lib.hid (below_a2 B4.out hb5) | exact Lib.hid (below_a3 B4.out hb5)
    clear hb5
    go_wp2_with fail
    refine (CA.out _).mono ?_
    rintro e w' ⟨rfl, rfl⟩
    go_wp2_with fail
    refine (CO.out _).mono ?_
    rintro e w' ⟨rfl, rfl⟩
    go_wp2_with fail
    refine (CP.out _).mono ?_
    rintro e w' ⟨rfl, rfl⟩
    go_wp2_with fail
    refine (CQ.out _).mono ?_
    rintro e w' ⟨rfl, rfl⟩
    go_wp2_with fail
    refine (NA.out _).mono ?_
    rintro e w6 ⟨rfl, hb6⟩
    have B6 : Hid (Below w.heap.size w w6) := by first | exact Lib.hid (below_2 B5.out hb6) | exact Lib.hid (below_a1 B5.out hb6) | exact Lib.hid (below_a2 B5.out hb6) | exact Lib.hid (below_a3 B5.out hb6)
    clear hb6
    go_wp2_with fail
    refine (NP.out _).mono ?_
    rintro e w7 ⟨rfl, hb7⟩
    have B7 : Hid (Below w.heap.size w w7) := by first | exact Lib.hid (below_2 B6.out hb7) | exact Lib.hid (below_a1 B6.out hb7) | exact Lib.hid (below_a2 B6.out hb7) | exact Lib.hid (below_a3 B6.out hb7)
    clear hb7
    go_wp2_with fail
    refine (NQ.out _).mono ?_
    rintro e w8 ⟨rfl, hb8⟩
    have B8 : Hid (Below w.heap.size w w8) := by first | exact Lib.hid (below_2 B7.out hb8) | exact Lib.hid (below_a1 B7.out hb8) | exact Lib.hid (below_a2 B7.out hb8) | exact Lib.hid (below_a3 B7.out hb8)
    clear hb8
    go_wp2_with fail
    refine (OO.out _).mono ?_
    rintro e w9 ⟨rfl, hb9⟩
    have B9 : Hid (Below w.heap.size w w9) := by first | exact Lib.hid (below_2 B8.out hb9) | exact Lib.hid (below_a1 B8.out hb9) | exact Lib.hid (below_a2 B8.out hb9) | exact Lib.hid (below_a3 B8.out hb9)
    clear hb9
    go_wp2_with fail
    refine (W1.out _).mono ?_
    rintro e w10 ⟨rfl, hb10⟩
    have B10 : Hid (Below w.heap.size w w10) := by first | exact Lib.hid (below_2 B9.out hb10) | exact Lib.hid (below_a1 B9.out hb10) | exact Lib.hid (below_a2 B9.out hb10) | exact Lib.hid (below_a3 B9.out hb10)
    clear hb10
    go_wp2_with fail
    refine (W2.out _).mono ?_
    rintro e w11 ⟨rfl, hb11⟩
    have B11 : Hid (Below w.heap.size w w11) := by first | exact Lib.hid (below_2 B10.out hb11) | exact Lib.hid (below_a1 B10.out hb11) | exact Lib.hid (below_a2 B10.out hb11) | exact Lib.hid (below_a3 B10.out hb11)
    clear hb11
    go_wp2_with fail
    refine (TA.out _).mono ?_
    rintro e w12 ⟨rfl, hb12⟩
    have B12 : Hid (Below w.heap.size w w12) := by first | exact Lib.hid (below_2 B11.out hb12) | exact Lib.hid (below_a1 B11.out hb12) | exact Lib.hid (below_a2 B11.out hb12) | exact Lib.hid (below_a3 B11.out hb12)
    clear hb12
    go_wp2_with fail
    refine (TP.out _).mono ?_
    rintro e w13 ⟨rfl, hb13⟩
    have B13 : Hid (Below w.heap.size w w13) := by first | exact Lib.hid (below_2 B12.out hb13) | exact Lib.hid (below_a1 B12.out hb13) | exact Lib.hid (below_a2 B12.out hb13) | exact Lib.hid (below_a3 B12.out hb13)
    clear hb13
    go_wp2_with fail
    refine (TQ.out _).mono ?_
    rintro e w14 ⟨rfl, hb14⟩
    have B14 : Hid (Below w.heap.size w w14) := by first | exact Lib.hid (below_2 B13.out hb14) | exact Lib.hid (below_a1 B13.out hb14) | exact Lib.hid (below_a2 B13.out hb14) | exact Lib.hid (below_a3 B13.out hb14)
    clear hb14
    go_wp2_with fail
    refine (AA.out _).mono ?_
    rintro e w15 ⟨rfl, hb15⟩
    have B15 : Hid (Below w.heap.size w w15) := by first | exact Lib.hid (below_2 B14.out hb15) | exact Lib.hid (below_a1 B14.out hb15) | exact Lib.hid (below_a2 B14.out hb15) | exact Lib.hid (below_a3 B14.out hb15)
    clear hb15
    go_wp2_with fail
    refine (W3.out _).mono ?_
    rintro e w16 ⟨rfl, hb16⟩
    have B16 : Hid (Below w.heap.size w w16) := by first | exact Lib.hid (below_2 B15.out hb16) | exact Lib.hid (below_a1 B15.out hb16) | exact Lib.hid (below_a2 B15.out hb16) | exact Lib.hid (below_a3 B15.out hb16)
    clear hb16
    go_wp2_with fail
    go_ret
    exact ⟨ret_bool (by first | rfl | simp), B16.out⟩

end Go.Proofs.Ythdgheglmkhcbaa.fnRelSets
