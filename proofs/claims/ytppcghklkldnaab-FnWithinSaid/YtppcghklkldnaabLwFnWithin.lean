/- The law FnWithin holds: for every input it returns true, and writes nothing that was there. No condition. -/
import Derived.Test.YtppcghklkldnaabSf
import Derived.Test.YtppcghklkldnaabShl
namespace Go.Proofs.Ytppcghklkldnaab.fnWithin
open Go.ChangeShapes Go.WideShapes Go.ChangeAt Go.RowKit
open Go.ChangeMaps (open_string shut_string)

open Pl
set_option linter.unusedVariables false

theorem own : ownKnob Try.prog.godebug = none := by kernel_rfl
theorem laidOut : laidOutB Try.prog = true := by kernel_rfl

set_option maxRecDepth 100000 in
set_option maxHeartbeats 16000000 in
theorem walk (a0 : Option Addr) (len0 cap0 : Nat) (w : World) (hb0 : Bytes w a0 len0 w.heap.size) (hl0 : len0 ≤ cap0) (hc0 : cap0 ≤ 9223372036854775807) :
    Calls Try.prog 4 #[.slice a0 len0 cap0] w fun e w' => e = .returned (.bool true) ∧ Below w.heap.size w w' := by
  by_cases hbig : 1048576 < len0
  · clear hb0
    go_enter Try.func4, Try.ntmps4
    go_wp2_with fail
    go_ret
    exact ⟨rfl, by first | exact Below.refl _ _ | exact below_n _ _ | exact (below_n _ _).alloc (by simp) _⟩
  have D := Lib.hid (DrawPredWithin_any a0 len0 cap0 w (by omega) hl0 hb0)
  clear hb0
  go_enter Try.func4, Try.ntmps4
  go_wp2_with fail
  refine D.out.mono ?_
  rintro e w1 ⟨P, Q, hP, hQ, rfl, hb1⟩
  have B1 := Lib.hid hb1
  clear D hb1
  have hP' : P.size ≤ 1000000000000 := by omega
  have hQ' : Q.size ≤ 1000000000000 := by omega
  have W1 := Lib.hid (fun w => PredWithin_any P Q hP' hQ' w)
  have W2 := Lib.hid (fun w => PredWithinS_any P Q hP' hQ' w)
  have V := Lib.hid (fun w => PredValid_any P hP' w)
  have U := Lib.hid (fun w => PredValid_any Q hQ' w)
  have same : ∀ (h : bOk 27 P.data.toList = true) (b : Bool), b = b := fun _ _ => rfl
  clear same
  cases hp : bOk 27 P.data.toList
  · have hw : winO P.data.toList Q.data.toList = false := by unfold winO; rw [hp]; rfl
    rw [hw] at W1 W2
    rw [hp] at V
    clear hp hw
    go_wp2_with fail
    refine (W1.out _).mono ?_
    rintro e w2 ⟨rfl, hb2⟩
    have B2 : Hid (Below w.heap.size w w2) := by first | exact Lib.hid (below_2 B1.out hb2) | exact Lib.hid (below_a1 B1.out hb2) | exact Lib.hid (below_a2 B1.out hb2) | exact Lib.hid (below_a3 B1.out hb2)
    clear hb2
    go_wp2_with fail
    refine (W2.out _).mono ?_
    rintro e w3 ⟨rfl, hb3⟩
    have B3 : Hid (Below w.heap.size w w3) := by first | exact Lib.hid (below_2 B2.out hb3) | exact Lib.hid (below_a1 B2.out hb3) | exact Lib.hid (below_a2 B2.out hb3) | exact Lib.hid (below_a3 B2.out hb3)
    clear hb3
    go_wp2_with fail
    refine (V.out _).mono ?_
    rintro e w' ⟨rfl, rfl⟩
    go_wp2_with fail
    refine (W2.out _).mono ?_
    rintro e w4 ⟨rfl, hb4⟩
    have B4 : Hid (Below w.heap.size w w4) := by first | exact Lib.hid (below_2 B3.out hb4) | exact Lib.hid (below_a1 B3.out hb4) | exact Lib.hid (below_a2 B3.out hb4) | exact Lib.hid (below_a3 B3.out hb4)
    clear hb4
    go_wp2_with fail
    go_ret
    exact ⟨rfl, B4.out⟩
  · cases hq : bOk 27 Q.data.toList
    · have hw : winO P.data.toList Q.data.toList = false := by unfold winO; rw [hp, hq]; rfl
      rw [hw] at W1 W2
      rw [hp] at V
      rw [hq] at U
      clear hp hq hw
      go_wp2_with fail
      refine (W1.out _).mono ?_
      rintro e w2 ⟨rfl, hb2⟩
      have B2 : Hid (Below w.heap.size w w2) := by first | exact Lib.hid (below_2 B1.out hb2) | exact Lib.hid (below_a1 B1.out hb2) | exact Lib.hid (below_a2 B1.out hb2) | exact Lib.hid (below_a3 B1.out hb2)
      clear hb2
      go_wp2_with fail
      refine (W2.out _).mono ?_
      rintro e w3 ⟨rfl, hb3⟩
      have B3 : Hid (Below w.heap.size w w3) := by first | exact Lib.hid (below_2 B2.out hb3) | exact Lib.hid (below_a1 B2.out hb3) | exact Lib.hid (below_a2 B2.out hb3) | exact Lib.hid (below_a3 B2.out hb3)
      clear hb3
      go_wp2_with fail
      refine (V.out _).mono ?_
      rintro e w' ⟨rfl, rfl⟩
      go_wp2_with fail
      refine (U.out _).mono ?_
      rintro e w' ⟨rfl, rfl⟩
      go_wp2_with fail
      refine (W2.out _).mono ?_
      rintro e w4 ⟨rfl, hb4⟩
      have B4 : Hid (Below w.heap.size w w4) := by first | exact Lib.hid (below_2 B3.out hb4) | exact Lib.hid (below_a1 B3.out hb4) | exact Lib.hid (below_a2 B3.out hb4) | exact Lib.hid (below_a3 B3.out hb4)
      clear hb4
      go_wp2_with fail
      go_ret
      exact ⟨rfl, B4.out⟩
    · have hw : winO P.data.toList Q.data.toList = win P.data.toList Q.data.toList := by unfold winO; rw [hp, hq]; rfl
      have hw2 : winO Q.data.toList P.data.toList = win Q.data.toList P.data.toList := by unfold winO; rw [hp, hq]; rfl
      have NQ := Lib.hid (fun w => ppNot_any Q hQ' w)
      have NP := Lib.hid (fun w => ppNot_any P hP' w)
      have z1 := ok_size (not_ok hq)
      have z2 := ok_size (not_ok hp)
      have z3 := ok_size (both_ok (· && ·) hp (not_ok hq))
      have AN := Lib.hid (fun w => ppAnd_any P (bs (optB (notO Q))) hP' (by omega) w)
      have CA := Lib.hid (fun w => CountPred_any (bs (optB (both P (bs (optB (notO Q))) (· && ·)))) (by omega) w)
      have OR := Lib.hid (fun w => ppOr_any P Q hP' hQ' w)
      have W3 := Lib.hid (fun w => PredWithin_any (bs (optB (notO Q))) (bs (optB (notO P))) (by omega) (by omega) w)
      have W4 := Lib.hid (fun w => PredWithin_any Q P hQ' hP' w)
      have f1 := fact_cnt hp hq
      have f2 := fact_or hp hq
      have f3 := fact_not hp hq
      have f4 := fact_eq hp hq
      rw [f3] at W3
      rw [hw] at W1 W2
      rw [hw2] at W4
      rw [hp] at V
      rw [hq] at U
      clear z1 z2 z3 hw hw2 f3 hp hq
      generalize win Q.data.toList P.data.toList = wq at *
      generalize cntP (bs (optB (both P (bs (optB (notO Q))) (· && ·)))).data.toList = n at *
      generalize bs (optB (both P (bs (optB (notO Q))) (· && ·))) = an at *
      generalize bs (optB (both P Q (· || ·))) = o at *
      generalize bs (optB (notO Q)) = nq0 at *
      generalize bs (optB (notO P)) = np0 at *
      cases hb : win P.data.toList Q.data.toList
      · rw [hb] at W1 W2 W3 f1 f2
        clear f4 hb W4
        go_wp2_with fail
        refine (W1.out _).mono ?_
        rintro e w2 ⟨rfl, hb2⟩
        have B2 : Hid (Below w.heap.size w w2) := by first | exact Lib.hid (below_2 B1.out hb2) | exact Lib.hid (below_a1 B1.out hb2) | exact Lib.hid (below_a2 B1.out hb2) | exact Lib.hid (below_a3 B1.out hb2)
        clear hb2
        go_wp2_with fail
        refine (W2.out _).mono ?_
        rintro e w3 ⟨rfl, hb3⟩
        have B3 : Hid (Below w.heap.size w w3) := by first | exact Lib.hid (below_2 B2.out hb3) | exact Lib.hid (below_a1 B2.out hb3) | exact Lib.hid (below_a2 B2.out hb3) | exact Lib.hid (below_a3 B2.out hb3)
        clear hb3
        go_wp2_with fail
        refine (V.out _).mono ?_
        rintro e w' ⟨rfl, rfl⟩
        go_wp2_with fail
        refine (U.out _).mono ?_
        rintro e w' ⟨rfl, rfl⟩
        go_wp2_with fail
        refine (NQ.out _).mono ?_
        rintro e w4 ⟨rfl, hb4⟩
        have B4 : Hid (Below w.heap.size w w4) := by first | exact Lib.hid (below_2 B3.out hb4) | exact Lib.hid (below_a1 B3.out hb4) | exact Lib.hid (below_a2 B3.out hb4) | exact Lib.hid (below_a3 B3.out hb4)
        clear hb4
        go_wp2_with fail
        refine (AN.out _).mono ?_
        rintro e w5 ⟨rfl, hb5⟩
        have B5 : Hid (Below w.heap.size w w5) := by first | exact Lib.hid (below_2 B4.out hb5) | exact Lib.hid (below_a1 B4.out hb5) | exact Lib.hid (below_a2 B4.out hb5) | exact Lib.hid (below_a3 B4.out hb5)
        clear hb5
        go_wp2_with fail
        refine (CA.out _).mono ?_
        rintro e w' ⟨rfl, rfl⟩
        go_wp2_with fail
        refine (OR.out _).mono ?_
        rintro e w6 ⟨rfl, hb6⟩
        have B6 : Hid (Below w.heap.size w w6) := by first | exact Lib.hid (below_2 B5.out hb6) | exact Lib.hid (below_a1 B5.out hb6) | exact Lib.hid (below_a2 B5.out hb6) | exact Lib.hid (below_a3 B5.out hb6)
        clear hb6
        go_wp2_with fail
        refine (NQ.out _).mono ?_
        rintro e w7 ⟨rfl, hb7⟩
        have B7 : Hid (Below w.heap.size w w7) := by first | exact Lib.hid (below_2 B6.out hb7) | exact Lib.hid (below_a1 B6.out hb7) | exact Lib.hid (below_a2 B6.out hb7) | exact Lib.hid (below_a3 B6.out hb7)
        clear hb7
        go_wp2_with fail
        refine (NP.out _).mono ?_
        rintro e w8 ⟨rfl, hb8⟩
        have B8 : Hid (Below w.heap.size w w8) := by first | exact Lib.hid (below_2 B7.out hb8) | exact Lib.hid (below_a1 B7.out hb8) | exact Lib.hid (below_a2 B7.out hb8) | exact Lib.hid (below_a3 B7.out hb8)
        clear hb8
        go_wp2_with fail
        refine (W3.out _).mono ?_
        rintro e w9 ⟨rfl, hb9⟩
        have B9 : Hid (Below w.heap.size w w9) := by first | exact Lib.hid (below_2 B8.out hb9) | exact Lib.hid (below_a1 B8.out hb9) | exact Lib.hid (below_a2 B8.out hb9) | exact Lib.hid (below_a3 B8.out hb9)
        clear hb9
        go_wp2_with fail
        go_ret
        exact ⟨rfl, B9.out⟩
      · rw [hb] at W1 W2 W3 f1 f2
        cases wq
        · clear f4 hb
          go_wp2_with fail
          refine (W1.out _).mono ?_
          rintro e w2 ⟨rfl, hb2⟩
          have B2 : Hid (Below w.heap.size w w2) := by first | exact Lib.hid (below_2 B1.out hb2) | exact Lib.hid (below_a1 B1.out hb2) | exact Lib.hid (below_a2 B1.out hb2) | exact Lib.hid (below_a3 B1.out hb2)
          clear hb2
          go_wp2_with fail
          refine (W2.out _).mono ?_
          rintro e w3 ⟨rfl, hb3⟩
          have B3 : Hid (Below w.heap.size w w3) := by first | exact Lib.hid (below_2 B2.out hb3) | exact Lib.hid (below_a1 B2.out hb3) | exact Lib.hid (below_a2 B2.out hb3) | exact Lib.hid (below_a3 B2.out hb3)
          clear hb3
          go_wp2_with fail
          refine (V.out _).mono ?_
          rintro e w' ⟨rfl, rfl⟩
          go_wp2_with fail
          refine (U.out _).mono ?_
          rintro e w' ⟨rfl, rfl⟩
          go_wp2_with fail
          refine (NQ.out _).mono ?_
          rintro e w4 ⟨rfl, hb4⟩
          have B4 : Hid (Below w.heap.size w w4) := by first | exact Lib.hid (below_2 B3.out hb4) | exact Lib.hid (below_a1 B3.out hb4) | exact Lib.hid (below_a2 B3.out hb4) | exact Lib.hid (below_a3 B3.out hb4)
          clear hb4
          go_wp2_with fail
          refine (AN.out _).mono ?_
          rintro e w5 ⟨rfl, hb5⟩
          have B5 : Hid (Below w.heap.size w w5) := by first | exact Lib.hid (below_2 B4.out hb5) | exact Lib.hid (below_a1 B4.out hb5) | exact Lib.hid (below_a2 B4.out hb5) | exact Lib.hid (below_a3 B4.out hb5)
          clear hb5
          go_wp2_with fail
          refine (CA.out _).mono ?_
          rintro e w' ⟨rfl, rfl⟩
          go_wp2_with fail
          refine (OR.out _).mono ?_
          rintro e w6 ⟨rfl, hb6⟩
          have B6 : Hid (Below w.heap.size w w6) := by first | exact Lib.hid (below_2 B5.out hb6) | exact Lib.hid (below_a1 B5.out hb6) | exact Lib.hid (below_a2 B5.out hb6) | exact Lib.hid (below_a3 B5.out hb6)
          clear hb6
          go_wp2_with fail
          refine (NQ.out _).mono ?_
          rintro e w7 ⟨rfl, hb7⟩
          have B7 : Hid (Below w.heap.size w w7) := by first | exact Lib.hid (below_2 B6.out hb7) | exact Lib.hid (below_a1 B6.out hb7) | exact Lib.hid (below_a2 B6.out hb7) | exact Lib.hid (below_a3 B6.out hb7)
          clear hb7
          go_wp2_with fail
          refine (NP.out _).mono ?_
          rintro e w8 ⟨rfl, hb8⟩
          have B8 : Hid (Below w.heap.size w w8) := by first | exact Lib.hid (below_2 B7.out hb8) | exact Lib.hid (below_a1 B7.out hb8) | exact Lib.hid (below_a2 B7.out hb8) | exact Lib.hid (below_a3 B7.out hb8)
          clear hb8
          go_wp2_with fail
          refine (W3.out _).mono ?_
          rintro e w9 ⟨rfl, hb9⟩
          have B9 : Hid (Below w.heap.size w w9) := by first | exact Lib.hid (below_2 B8.out hb9) | exact Lib.hid (below_a1 B8.out hb9) | exact Lib.hid (below_a2 B8.out hb9) | exact Lib.hid (below_a3 B8.out hb9)
          clear hb9
          go_wp2_with fail
          refine (W4.out _).mono ?_
          rintro e w10 ⟨rfl, hb10⟩
          have B10 : Hid (Below w.heap.size w w10) := by first | exact Lib.hid (below_2 B9.out hb10) | exact Lib.hid (below_a1 B9.out hb10) | exact Lib.hid (below_a2 B9.out hb10) | exact Lib.hid (below_a3 B9.out hb10)
          clear hb10
          go_wp2_with fail
          go_ret
          exact ⟨rfl, B10.out⟩
        · have hPQ := f4 hb rfl
          have q1 : (P.toList == Q.toList) = true := str_beq ⟨fun _ => rfl, fun _ => hPQ⟩
          clear f4 hb hPQ
          go_wp2_with fail
          refine (W1.out _).mono ?_
          rintro e w2 ⟨rfl, hb2⟩
          have B2 : Hid (Below w.heap.size w w2) := by first | exact Lib.hid (below_2 B1.out hb2) | exact Lib.hid (below_a1 B1.out hb2) | exact Lib.hid (below_a2 B1.out hb2) | exact Lib.hid (below_a3 B1.out hb2)
          clear hb2
          go_wp2_with fail
          refine (W2.out _).mono ?_
          rintro e w3 ⟨rfl, hb3⟩
          have B3 : Hid (Below w.heap.size w w3) := by first | exact Lib.hid (below_2 B2.out hb3) | exact Lib.hid (below_a1 B2.out hb3) | exact Lib.hid (below_a2 B2.out hb3) | exact Lib.hid (below_a3 B2.out hb3)
          clear hb3
          go_wp2_with fail
          refine (V.out _).mono ?_
          rintro e w' ⟨rfl, rfl⟩
          go_wp2_with fail
          refine (U.out _).mono ?_
          rintro e w' ⟨rfl, rfl⟩
          go_wp2_with fail
          refine (NQ.out _).mono ?_
          rintro e w4 ⟨rfl, hb4⟩
          have B4 : Hid (Below w.heap.size w w4) := by first | exact Lib.hid (below_2 B3.out hb4) | exact Lib.hid (below_a1 B3.out hb4) | exact Lib.hid (below_a2 B3.out hb4) | exact Lib.hid (below_a3 B3.out hb4)
          clear hb4
          go_wp2_with fail
          refine (AN.out _).mono ?_
          rintro e w5 ⟨rfl, hb5⟩
          have B5 : Hid (Below w.heap.size w w5) := by first | exact Lib.hid (below_2 B4.out hb5) | exact Lib.hid (below_a1 B4.out hb5) | exact Lib.hid (below_a2 B4.out hb5) | exact Lib.hid (below_a3 B4.out hb5)
          clear hb5
          go_wp2_with fail
          refine (CA.out _).mono ?_
          rintro e w' ⟨rfl, rfl⟩
          go_wp2_with fail
          refine (OR.out _).mono ?_
          rintro e w6 ⟨rfl, hb6⟩
          have B6 : Hid (Below w.heap.size w w6) := by first | exact Lib.hid (below_2 B5.out hb6) | exact Lib.hid (below_a1 B5.out hb6) | exact Lib.hid (below_a2 B5.out hb6) | exact Lib.hid (below_a3 B5.out hb6)
          clear hb6
          go_wp2_with fail
          refine (NQ.out _).mono ?_
          rintro e w7 ⟨rfl, hb7⟩
          have B7 : Hid (Below w.heap.size w w7) := by first | exact Lib.hid (below_2 B6.out hb7) | exact Lib.hid (below_a1 B6.out hb7) | exact Lib.hid (below_a2 B6.out hb7) | exact Lib.hid (below_a3 B6.out hb7)
          clear hb7
          go_wp2_with fail
          refine (NP.out _).mono ?_
          rintro e w8 ⟨rfl, hb8⟩
          have B8 : Hid (Below w.heap.size w w8) := by first | exact Lib.hid (below_2 B7.out hb8) | exact Lib.hid (below_a1 B7.out hb8) | exact Lib.hid (below_a2 B7.out hb8) | exact Lib.hid (below_a3 B7.out hb8)
          clear hb8
          go_wp2_with fail
          refine (W3.out _).mono ?_
          rintro e w9 ⟨rfl, hb9⟩
          have B9 : Hid (Below w.heap.size w w9) := by first | exact Lib.hid (below_2 B8.out hb9) | exact Lib.hid (below_a1 B8.out hb9) | exact Lib.hid (below_a2 B8.out hb9) | exact Lib.hid (below_a3 B8.out hb9)
          clear hb9
          go_wp2_with fail
          refine (W4.out _).mono ?_
          rintro e w10 ⟨rfl, hb10⟩
          have B10 : Hid (Below w.heap.size w w10) := by first | exact Lib.hid (below_2 B9.out hb10) | exact Lib.hid (below_a1 B9.out hb10) | exact Lib.hid (below_a2 B9.out hb10) | exact Lib.hid (below_a3 B9.out hb10)
          clear hb10
          go_wp2_with fail
          go_ret
          exact ⟨rfl, B10.out⟩

set_option maxRecDepth 100000 in
theorem lifted (os : Os) (started : os.Started) (H : Type) (enc : TypeId × Value → H) :
    ReturnsInHanded {} Try.checked os 4 .any (Rows.fnWithinSpec.pre6 enc Try.prog Try.f4 Rows.fnWithinRow.domain false) (Rows.fnWithinSpec.post enc Try.prog Try.f4 false true false false) := by
  refine returnsInHanded_of_change (C := Try.checked) own started (by kernel_rfl) Try.func4
    (ChangeSpec.witness6 (enc := enc) (C := Try.checked) false ⟨#[], #[.slice none 0 0], []⟩ 8 (by kernel_rfl) (by kernel_rfl) (by kernel_rfl) (by kernel_rfl)) ?_
  intro W base args ds gs before hval0 hW hcnd _
  have hval : ∀ (j : Nat) t v, Try.f4.params[j]? = some t → args[j]? = some v → Value.okWide Try.prog W .any base t v := hval0
  have hW' := hW
  obtain ⟨p, q, hA0, hV, rfl, hfz, hnd⟩ := hW
  have hA : DataW.TrodAll enc Try.prog W 0 (fun _ => true) true Try.f4.params.toList args.toList ds p := hA0
  rw [Try.params4] at hA hval
  obtain ⟨v0, vs0, d0, ds0, p0, q0, hargs, rfl, rfl, h0, r0⟩ := trodAll_cons hA
  obtain ⟨rfl, rfl, rfl⟩ := trodAll_nil r0
  obtain rfl : args = #[v0] := by cases args; simp_all
  obtain ⟨rfl, rfl⟩ := trodVars_none hV
  have k0 := h0
  have lt0 : ∀ x ∈ p0, x.block < W.heap.size := by obtain ⟨m, hm⟩ := k0; exact DataW.trod_lt m _ _ _ hm
  obtain ⟨a0, len0, cap0, rfl⟩ := okWide_slice Try.underlying22 (hval 0 22 v0 rfl rfl)
  obtain ⟨z0, w0⟩ : ∃ zs, IsRow .u8 W a0 len0 cap0 zs := by
    obtain ⟨fuel, hf⟩ := h0
    rcases open_ints Try.underlying22 Try.underlying5 (by kernel_rfl) hf with ⟨hcs, _⟩ | ⟨x, l, c, zs, hcs, _, hl, hm, hz, _, hcell, hwz⟩
    · simp [Value.cells] at hcs
      obtain ⟨rfl, rfl, rfl⟩ := hcs
      exact ⟨[], .inl ⟨rfl, rfl, rfl, rfl⟩⟩
    · simp [Value.cells] at hcs
      obtain ⟨rfl, rfl, rfl⟩ := hcs
      exact ⟨zs, .inr ⟨_, rfl, hl, hm, by simpa using hz, hcell, hwz⟩⟩
  obtain ⟨by0, lc0, cm0⟩ := bytes_of_row w0
  clear hA0 hval0
  refine (walk a0 len0 cap0 W by0 lc0 cm0).mono fun e W' ⟨he, bel⟩ => ?_
  subst he
  exact ⟨_, rfl, _, _, _, [], _, [], hW', trodAll_mk1 (shut_bool Try.underlying4 _), (trodAll_cons_mk (Below.trod laidOut (by kernel_rfl) (of_decide_eq_true (by kernel_rfl)) k0 bel lt0) trodAll_mk0), rfl, bel.frame _, fun h => by cases h⟩

theorem over : Rows.fnWithinRow.holds Try.pinned (OpenSpec.ofChange Rows.fnWithinSpec) :=
  OpenClaim.holds_of_wide 4 Try.f4 rfl rfl rfl rfl rfl rfl rfl ⟨rfl, rfl, rfl, rfl, rfl⟩ rfl rfl rfl rfl rfl (by kernel_rfl) Try.func4 (by kernel_rfl)
    (of_decide_eq_true (by kernel_rfl)) (by unfold Func.isWrapper; first | (rw [if_pos (by decide +kernel)]; kernel_rfl) | (rw [if_neg (by decide +kernel)]; exact ⟨rfl, rfl⟩))
    (fun os started H enc _ => lifted os started H enc)

/-- the statement -/
theorem proved : Rows.FnWithinSaid := over
#print axioms proved
end Go.Proofs.Ytppcghklkldnaab.fnWithin
