/- The law FnAndOr holds: for every input it returns true, and writes nothing that was there. No condition. -/
import Derived.Test.YtppcghklkldnaabHs
import Derived.Test.YtppcghklkldnaabShl
namespace Go.Proofs.Ytppcghklkldnaab.fnAndOr
open Go.ChangeShapes Go.WideShapes Go.ChangeAt Go.RowKit
open Go.ChangeMaps (open_string shut_string)

open Pl
set_option linter.unusedVariables false

theorem own : ownKnob Try.prog.godebug = none := by kernel_rfl
theorem laidOut : laidOutB Try.prog = true := by kernel_rfl

set_option maxRecDepth 100000 in
set_option maxHeartbeats 16000000 in
theorem walk (a0 : Option Addr) (len0 cap0 : Nat) (w : World) (hb0 : Bytes w a0 len0 w.heap.size) (hl0 : len0 ≤ cap0) (hc0 : cap0 ≤ 9223372036854775807) :
    Calls Try.prog 5 #[.slice a0 len0 cap0] w fun e w' => e = .returned (.bool true) ∧ Below w.heap.size w w' := by
  by_cases hbig : 1048576 < len0
  · clear hb0
    go_enter Try.func5, Try.ntmps5
    go_wp2_with fail
    go_ret
    exact ⟨rfl, by first | exact Below.refl _ _ | exact below_n _ _ | exact (below_n _ _).alloc (by simp) _⟩
  have D := Lib.hid (DrawAndPred_any a0 len0 cap0 w (by omega) hl0 hb0)
  clear hb0
  go_enter Try.func5, Try.ntmps5
  go_wp2_with fail
  refine D.out.mono ?_
  rintro e w1 ⟨P, Q, hP, hQ, rfl, hb1⟩
  have B1 := Lib.hid hb1
  clear D hb1
  have hP' : P.size ≤ 1000000000000 := by omega
  have hQ' : Q.size ≤ 1000000000000 := by omega
  have A1 := Lib.hid (fun w => AndPred_any P Q hP' hQ' w)
  have A2 := Lib.hid (fun w => AndPredS_any P Q hP' hQ' w)
  have O1 := Lib.hid (fun w => OrPred_any P Q hP' hQ' w)
  have O2 := Lib.hid (fun w => OrPredS_any P Q hP' hQ' w)
  cases hpq : bOk 27 P.data.toList && bOk 27 Q.data.toList
  · have e1 : both P Q (· && ·) = none := by unfold both; rw [hpq]; rfl
    have e2 : both P Q (· || ·) = none := by unfold both; rw [hpq]; rfl
    rw [e1] at A1 A2
    rw [e2] at O1 O2
    simp only [optB, Option.isSome_none] at A1 A2 O1 O2
    have q1 : ((bs []).toList != (bs []).toList) = false := by simp
    have q2 : ((bs []).toList == (bs []).toList) = true := by simp
    generalize bs [] = E0 at *
    clear e1 e2 hpq
    go_wp2_with fail
    refine (A1.out _).mono ?_
    rintro e w2 ⟨rfl, hb2⟩
    have B2 : Hid (Below w.heap.size w w2) := by first | exact Lib.hid (below_2 B1.out hb2) | exact Lib.hid (below_a1 B1.out hb2) | exact Lib.hid (below_a2 B1.out hb2) | exact Lib.hid (below_a3 B1.out hb2)
    clear hb2
    go_wp2_with fail
    refine (A2.out _).mono ?_
    rintro e w3 ⟨rfl, hb3⟩
    have B3 : Hid (Below w.heap.size w w3) := by first | exact Lib.hid (below_2 B2.out hb3) | exact Lib.hid (below_a1 B2.out hb3) | exact Lib.hid (below_a2 B2.out hb3) | exact Lib.hid (below_a3 B2.out hb3)
    clear hb3
    go_wp2_with fail
    refine (O1.out _).mono ?_
    rintro e w4 ⟨rfl, hb4⟩
    have B4 : Hid (Below w.heap.size w w4) := by first | exact Lib.hid (below_2 B3.out hb4) | exact Lib.hid (below_a1 B3.out hb4) | exact Lib.hid (below_a2 B3.out hb4) | exact Lib.hid (below_a3 B3.out hb4)
    clear hb4
    go_wp2_with fail
    refine (O2.out _).mono ?_
    rintro e w5 ⟨rfl, hb5⟩
    have B5 : Hid (Below w.heap.size w w5) := by first | exact Lib.hid (below_2 B4.out hb5) | exact Lib.hid (below_a1 B4.out hb5) | exact Lib.hid (below_a2 B4.out hb5) | exact Lib.hid (below_a3 B4.out hb5)
    clear hb5
    go_wp2_with fail
    go_ret
    exact ⟨ret_bool (by first | rfl | simp), B5.out⟩
  · obtain ⟨hp, hq⟩ := Bool.and_eq_true_iff.1 hpq
    have e1 : (both P Q (· && ·)).isSome = true := by unfold both; rw [hpq]; rfl
    have e2 : (both P Q (· || ·)).isSome = true := by unfold both; rw [hpq]; rfl
    rw [e1] at A1 A2
    rw [e2] at O1 O2
    have zA := ok_size (both_ok (· && ·) hp hq)
    have zO := ok_size (both_ok (· || ·) hp hq)
    have zNP := ok_size (not_ok hp)
    have zNQ := ok_size (not_ok hq)
    have HP := Lib.hid (fun j (hj : j < 27) w => HasState_any P hp j hj w)
    have HQ := Lib.hid (fun j (hj : j < 27) w => HasState_any Q hq j hj w)
    have HA : Hid (∀ j (_ : j < 27) w, Calls Try.prog 17 #[.string (bs (optB (both P Q (· && ·)))), .agg #[.int .i64 (stX j), .int .i64 (stY j), .int .i64 (stZ j)]] w fun e w' => (e = .returned (.bool (bt P.data.toList j && bt Q.data.toList j)) ∧ Below w.heap.size w w')) :=
      fun j hj w => by have := HasState_any _ (both_ok (· && ·) hp hq) j hj w; rw [bt_both _ hp hq hj] at this; exact this
    have HO : Hid (∀ j (_ : j < 27) w, Calls Try.prog 17 #[.string (bs (optB (both P Q (· || ·)))), .agg #[.int .i64 (stX j), .int .i64 (stY j), .int .i64 (stZ j)]] w fun e w' => (e = .returned (.bool (bt P.data.toList j || bt Q.data.toList j)) ∧ Below w.heap.size w w')) :=
      fun j hj w => by have := HasState_any _ (both_ok (· || ·) hp hq) j hj w; rw [bt_both _ hp hq hj] at this; exact this
    have CP := Lib.hid (fun w => CountPred_any P hP' w)
    have CQ := Lib.hid (fun w => CountPred_any Q hQ' w)
    have CA := Lib.hid (fun w => CountPred_any (bs (optB (both P Q (· && ·)))) (by omega) w)
    have CO := Lib.hid (fun w => CountPred_any (bs (optB (both P Q (· || ·)))) (by omega) w)
    obtain ⟨na, nb, nc, nd, h1, h2, h3, h4, la, lb, lc, ld, hsum⟩ := cnt_sum hp hq
    rw [h1] at CA
    rw [h2] at CO
    rw [h3] at CP
    rw [h4] at CQ
    have NA := Lib.hid (fun w => ppNot_any (bs (optB (both P Q (· && ·)))) (by omega) w)
    have NP := Lib.hid (fun w => ppNot_any P hP' w)
    have NQ := Lib.hid (fun w => ppNot_any Q hQ' w)
    have PO := Lib.hid (fun w => ppOr_any (bs (optB (notO P))) (bs (optB (notO Q))) (by omega) (by omega) w)
    rw [demorgan hp hq] at NA
    have WL := Lib.hid (fun w => PredWithin_any (bs (optB (both P Q (· && ·)))) P (by omega) hP' w)
    have WR := Lib.hid (fun w => PredWithin_any Q (bs (optB (both P Q (· || ·)))) hQ' (by omega) w)
    rw [win_left hp hq] at WL
    rw [win_right hp hq] at WR
    obtain ⟨X, hX⟩ : ∃ X, bs (optB (both P Q (· && ·))) = X := ⟨_, rfl⟩
    obtain ⟨Y, hY⟩ : ∃ X, bs (optB (both P Q (· || ·))) = X := ⟨_, rfl⟩
    obtain ⟨U, hU⟩ : ∃ X, bs (optB (notO P)) = X := ⟨_, rfl⟩
    obtain ⟨V, hV⟩ : ∃ X, bs (optB (notO Q)) = X := ⟨_, rfl⟩
    rw [hU, hV] at NA PO
    rw [hU] at NP
    rw [hV] at NQ
    obtain ⟨Z, hZ⟩ : ∃ X, bs (optB (both U V (· || ·))) = X := ⟨_, rfl⟩
    rw [hZ] at NA PO
    rw [hX] at A1 A2 HA CA NA WL
    rw [hY] at O1 O2 HO CO WR
    clear hX hY hU hV hZ zA zO zNP zNQ e1 e2 hp hq hpq h1 h2 h3 h4
    have q1 : (X.toList != X.toList) = false := by simp
    have q2 : (Y.toList != Y.toList) = false := by simp
    have q3 : (Z.toList == Z.toList) = true := by simp
    have q4 : (((na : Int) + (nb : Int)) == ((nc : Int) + (nd : Int))) = true := by simp; omega
    clear hsum
    go_wp2_with fail
    refine (A1.out _).mono ?_
    rintro e w2 ⟨rfl, hb2⟩
    have B2 : Hid (Below w.heap.size w w2) := by first | exact Lib.hid (below_2 B1.out hb2) | exact Lib.hid (below_a1 B1.out hb2) | exact Lib.hid (below_a2 B1.out hb2) | exact Lib.hid (below_a3 B1.out hb2)
    clear hb2
    go_wp2_with fail
    refine (A2.out _).mono ?_
    rintro e w3 ⟨rfl, hb3⟩
    have B3 : Hid (Below w.heap.size w w3) := by first | exact Lib.hid (below_2 B2.out hb3) | exact Lib.hid (below_a1 B2.out hb3) | exact Lib.hid (below_a2 B2.out hb3) | exact Lib.hid (below_a3 B2.out hb3)
    clear hb3
    go_wp2_with fail
    refine (O1.out _).mono ?_
    rintro e w4 ⟨rfl, hb4⟩
    have B4 : Hid (Below w.heap.size w w4) := by first | exact Lib.hid (below_2 B3.out hb4) | exact Lib.hid (below_a1 B3.out hb4) | exact Lib.hid (below_a2 B3.out hb4) | exact Lib.hid (below_a3 B3.out hb4)
    clear hb4
    go_wp2_with fail
    refine (O2.out _).mono ?_
    rintro e w5 ⟨rfl, hb5⟩
    have B5 : Hid (Below w.heap.size w w5) := by first | exact Lib.hid (below_2 B4.out hb5) | exact Lib.hid (below_a1 B4.out hb5) | exact Lib.hid (below_a2 B4.out hb5) | exact Lib.hid (below_a3 B4.out hb5)
    clear hb5
    clear A1 A2 O1 O2
    go_wp2_with fail
    refine (ppStates_any _).mono ?_
    rintro e w9 ⟨g, cap, hcap, rfl, hs⟩
    have HH : Hid (Sit w w9 (sts g)) := Lib.hid ⟨below_2 B5.out hs.below, hs.cells⟩
    clear hs
    go_wp2_with fail
    go_loopg [14, 15, 16] 27 (fun gk i x y wr => ∃ k : Nat, k + gk = 27 ∧ i = .int .i64 k ∧ Hid (Sit w wr (sts g)))
    case atStart => exact ⟨0, rfl, rfl, HH⟩
    case round =>
      clear HH
      obtain ⟨j, hj, rfl, HH⟩ := hrel
      by_cases hlt : j < 27
      · have KP := Lib.hid (fun w => HP.out j hlt w)
        have KQ := Lib.hid (fun w => HQ.out j hlt w)
        have KA := Lib.hid (fun w => HA.out j hlt w)
        have KO := Lib.hid (fun w => HO.out j hlt w)
        generalize bt P.data.toList j = p1 at *
        generalize bt Q.data.toList j = p2 at *
        cases p1 <;> cases p2
        all_goals
          have H0 := HH.out
          obtain ⟨d0, d1, d2⟩ := sts_x H0 hlt
          clear H0
          go_wp2_with fail
          refine (KP.out _).mono ?_
          rintro e w10 ⟨rfl, hb⟩
          have S0 := Lib.hid (HH.out.call hb)
          clear hb d0 d1 d2
          have H1 := S0.out
          obtain ⟨d0, d1, d2⟩ := sts_x H1 hlt
          clear H1
          go_wp2_with fail
          refine (KQ.out _).mono ?_
          rintro e w11 ⟨rfl, hb⟩
          have S1 := Lib.hid (S0.out.call hb)
          clear hb d0 d1 d2
          have H2 := S1.out
          obtain ⟨d0, d1, d2⟩ := sts_x H2 hlt
          clear H2
          go_wp2_with fail
          refine (KA.out _).mono ?_
          rintro e w12 ⟨rfl, hb⟩
          have S2 := Lib.hid (S1.out.call hb)
          clear hb d0 d1 d2
          have H3 := S2.out
          obtain ⟨d0, d1, d2⟩ := sts_x H3 hlt
          clear H3
          go_wp2_with fail
          refine (KO.out _).mono ?_
          rintro e w13 ⟨rfl, hb⟩
          have S3 := Lib.hid (S2.out.call hb)
          clear hb d0 d1 d2
          go_wp2_with fail
          go_roundg (gk - 1)
          case measure => omega
          case rel => exact ⟨j + 1, by omega, by go_num, S3⟩
      · have BE := Lib.hid HH.out.below
        clear HH HP HQ HA HO
        go_wp2_with fail
        refine (CA.out _).mono ?_
        rintro e w' ⟨rfl, rfl⟩
        go_wp2_with fail
        refine (CO.out _).mono ?_
        rintro e w' ⟨rfl, rfl⟩
        go_wp2_with fail
        refine (CP.out _).mono ?_
        rintro e w' ⟨rfl, rfl⟩
        go_wp2_with fail
        refine (CQ.out _).mono ?_
        rintro e w' ⟨rfl, rfl⟩
        go_wp2_with fail
        refine (NA.out _).mono ?_
        rintro e w21 ⟨rfl, hb21⟩
        have B21 : Hid (Below w.heap.size w w21) := by first | exact Lib.hid (below_2 BE.out hb21) | exact Lib.hid (below_a1 BE.out hb21) | exact Lib.hid (below_a2 BE.out hb21) | exact Lib.hid (below_a3 BE.out hb21)
        clear hb21
        go_wp2_with fail
        refine (NP.out _).mono ?_
        rintro e w22 ⟨rfl, hb22⟩
        have B22 : Hid (Below w.heap.size w w22) := by first | exact Lib.hid (below_2 B21.out hb22) | exact Lib.hid (below_a1 B21.out hb22) | exact Lib.hid (below_a2 B21.out hb22) | exact Lib.hid (below_a3 B21.out hb22)
        clear hb22
        go_wp2_with fail
        refine (NQ.out _).mono ?_
        rintro e w23 ⟨rfl, hb23⟩
        have B23 : Hid (Below w.heap.size w w23) := by first | exact Lib.hid (below_2 B22.out hb23) | exact Lib.hid (below_a1 B22.out hb23) | exact Lib.hid (below_a2 B22.out hb23) | exact Lib.hid (below_a3 B22.out hb23)
        clear hb23
        go_wp2_with fail
        refine (PO.out _).mono ?_
        rintro e w24 ⟨rfl, hb24⟩
        have B24 : Hid (Below w.heap.size w w24) := by first | exact Lib.hid (below_2 B23.out hb24) | exact Lib.hid (below_a1 B23.out hb24) | exact Lib.hid (below_a2 B23.out hb24) | exact Lib.hid (below_a3 B23.out hb24)
        clear hb24
        go_wp2_with fail
        refine (WL.out _).mono ?_
        rintro e w25 ⟨rfl, hb25⟩
        have B25 : Hid (Below w.heap.size w w25) := by first | exact Lib.hid (below_2 B24.out hb25) | exact Lib.hid (below_a1 B24.out hb25) | exact Lib.hid (below_a2 B24.out hb25) | exact Lib.hid (below_a3 B24.out hb25)
        clear hb25
        go_wp2_with fail
        refine (WR.out _).mono ?_
        rintro e w26 ⟨rfl, hb26⟩
        have B26 : Hid (Below w.heap.size w w26) := by first | exact Lib.hid (below_2 B25.out hb26) | exact Lib.hid (below_a1 B25.out hb26) | exact Lib.hid (below_a2 B25.out hb26) | exact Lib.hid (below_a3 B25.out hb26)
        clear hb26
        go_wp2_with fail
        go_ret
        exact ⟨ret_bool (by first | rfl | simp), B26.out⟩

set_option maxRecDepth 100000 in
theorem lifted (os : Os) (started : os.Started) (H : Type) (enc : TypeId × Value → H) :
    ReturnsInHanded {} Try.checked os 5 .any (Rows.fnAndOrSpec.pre6 enc Try.prog Try.f5 Rows.fnAndOrRow.domain false) (Rows.fnAndOrSpec.post enc Try.prog Try.f5 false true false false) := by
  refine returnsInHanded_of_change (C := Try.checked) own started (by kernel_rfl) Try.func5
    (ChangeSpec.witness6 (enc := enc) (C := Try.checked) false ⟨#[], #[.slice none 0 0], []⟩ 8 (by kernel_rfl) (by kernel_rfl) (by kernel_rfl) (by kernel_rfl)) ?_
  intro W base args ds gs before hval0 hW hcnd _
  have hval : ∀ (j : Nat) t v, Try.f5.params[j]? = some t → args[j]? = some v → Value.okWide Try.prog W .any base t v := hval0
  have hW' := hW
  obtain ⟨p, q, hA0, hV, rfl, hfz, hnd⟩ := hW
  have hA : DataW.TrodAll enc Try.prog W 0 (fun _ => true) true Try.f5.params.toList args.toList ds p := hA0
  rw [Try.params5] at hA hval
  obtain ⟨v0, vs0, d0, ds0, p0, q0, hargs, rfl, rfl, h0, r0⟩ := trodAll_cons hA
  obtain ⟨rfl, rfl, rfl⟩ := trodAll_nil r0
  obtain rfl : args = #[v0] := by cases args; simp_all
  obtain ⟨rfl, rfl⟩ := trodVars_none hV
  have k0 := h0
  have lt0 : ∀ x ∈ p0, x.block < W.heap.size := by obtain ⟨m, hm⟩ := k0; exact DataW.trod_lt m _ _ _ hm
  obtain ⟨a0, len0, cap0, rfl⟩ := okWide_slice Try.underlying22 (hval 0 22 v0 rfl rfl)
  obtain ⟨z0, w0⟩ : ∃ zs, IsRow .u8 W a0 len0 cap0 zs := by
    obtain ⟨fuel, hf⟩ := h0
    rcases open_ints Try.underlying22 Try.underlying5 (by kernel_rfl) hf with ⟨hcs, _⟩ | ⟨x, l, c, zs, hcs, _, hl, hm, hz, _, hcell, hwz⟩
    · simp [Value.cells] at hcs
      obtain ⟨rfl, rfl, rfl⟩ := hcs
      exact ⟨[], .inl ⟨rfl, rfl, rfl, rfl⟩⟩
    · simp [Value.cells] at hcs
      obtain ⟨rfl, rfl, rfl⟩ := hcs
      exact ⟨zs, .inr ⟨_, rfl, hl, hm, by simpa using hz, hcell, hwz⟩⟩
  obtain ⟨by0, lc0, cm0⟩ := bytes_of_row w0
  clear hA0 hval0
  refine (walk a0 len0 cap0 W by0 lc0 cm0).mono fun e W' ⟨he, bel⟩ => ?_
  subst he
  exact ⟨_, rfl, _, _, _, [], _, [], hW', trodAll_mk1 (shut_bool Try.underlying4 _), (trodAll_cons_mk (Below.trod laidOut (by kernel_rfl) (of_decide_eq_true (by kernel_rfl)) k0 bel lt0) trodAll_mk0), rfl, bel.frame _, fun h => by cases h⟩

theorem over : Rows.fnAndOrRow.holds Try.pinned (OpenSpec.ofChange Rows.fnAndOrSpec) :=
  OpenClaim.holds_of_wide 5 Try.f5 rfl rfl rfl rfl rfl rfl rfl ⟨rfl, rfl, rfl, rfl, rfl⟩ rfl rfl rfl rfl rfl (by kernel_rfl) Try.func5 (by kernel_rfl)
    (of_decide_eq_true (by kernel_rfl)) (by unfold Func.isWrapper; first | (rw [if_pos (by decide +kernel)]; kernel_rfl) | (rw [if_neg (by decide +kernel)]; exact ⟨rfl, rfl⟩))
    (fun os started H enc _ => lifted os started H enc)

/-- the statement -/
theorem proved : Rows.FnAndOrSaid := over
#print axioms proved
end Go.Proofs.Ytppcghklkldnaab.fnAndOr
