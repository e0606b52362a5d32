/- The law FnRelWithin holds: for every input it returns true, and writes nothing that was there. No condition. -/
import Derived.Test.YthdgheglmkhcbaaDs
import Derived.Test.YthdgheglmkhcbaaMu
import Derived.Test.YthdgheglmkhcbaaGc
namespace Go.Proofs.Ythdgheglmkhcbaa.fnRelWithin
open Go.ChangeShapes Go.WideShapes Go.ChangeAt Go.RowKit
open Go.ChangeMaps (open_string shut_string)

open Pl
set_option linter.unusedVariables false

theorem own : ownKnob Try.prog.godebug = none := by kernel_rfl
theorem laidOut : laidOutB Try.prog = true := by kernel_rfl

theorem trn_w (p q : List UInt8) : winRO (trnT p) (trnT q) = winR p q := by unfold winRO; rw [trnT_ok, trnT_ok, winR_trn, Bool.true_and, Bool.true_and]
theorem within_or {p q : List UInt8} (hq : bOk 729 q = true) : (opT (· || ·) p q == q) = winR p q := bool_ext (by rw [beq_iff_eq]; exact winR_or hq)
set_option maxRecDepth 100000 in
set_option maxHeartbeats 16000000 in
theorem walk (a0 : Option Addr) (len0 cap0 : Nat) (w : World) (hb0 : Bytes w a0 len0 w.heap.size) (hl0 : len0 ≤ cap0) (hc0 : cap0 ≤ 9223372036854775807) :
    Calls Try.prog 6 #[.slice a0 len0 cap0] w fun e w' => e = .returned (.bool true) ∧ Below w.heap.size w w' := by
  by_cases hbig : 1048576 < len0
  · clear hb0
    go_enter Try.func6, Try.ntmps6
    go_wp2_with fail
    go_ret
    exact ⟨rfl, by first | exact Below.refl _ _ | exact below_n _ _ | exact (below_n _ _).alloc (by simp) _⟩
  have D := Lib.hid (DrawRelWithin_any a0 len0 cap0 w (by omega) hl0 hb0)
  clear hb0
  go_enter Try.func6, Try.ntmps6
  go_wp2_with fail
  refine D.out.mono ?_
  rintro e w1 ⟨P, Q, hP, hQ, rfl, hb1⟩
  have B1 := Lib.hid hb1
  clear D hb1
  have hP' : P.size ≤ 1000000000000 := by omega
  have hQ' : Q.size ≤ 1000000000000 := by omega
  have N1 := Lib.hid (fun w => RelWithin_any P Q hP' hQ' w)
  have N2 := Lib.hid (fun w => RelWithinS_any P Q hP' hQ' w)
  have V := Lib.hid (fun w => RelValid_any P hP' w)
  have U := Lib.hid (fun w => RelValid_any Q hQ' w)
  cases hp : bOk 729 P.data.toList
  · rw [hp] at V
    generalize winRO P.data.toList Q.data.toList = b at *
    clear hp U
    have q2 : (b == b) = true := by simp
    have q1 : (b != b) = false := by simp
    go_wp2_with fail
    refine (N1.out _).mono ?_
    rintro e w2 ⟨rfl, hb2⟩
    have B2 : Hid (Below w.heap.size w w2) := by first | exact Lib.hid (below_2 B1.out hb2) | exact Lib.hid (below_a1 B1.out hb2) | exact Lib.hid (below_a2 B1.out hb2) | exact Lib.hid (below_a3 B1.out hb2)
    clear hb2
    go_wp2_with fail
    refine (N2.out _).mono ?_
    rintro e w3 ⟨rfl, hb3⟩
    have B3 : Hid (Below w.heap.size w w3) := by first | exact Lib.hid (below_2 B2.out hb3) | exact Lib.hid (below_a1 B2.out hb3) | exact Lib.hid (below_a2 B2.out hb3) | exact Lib.hid (below_a3 B2.out hb3)
    clear hb3
    go_wp2_with fail
    refine (V.out _).mono ?_
    rintro e w' ⟨rfl, rfl⟩
    go_wp2_with fail
    refine (N2.out _).mono ?_
    rintro e w4 ⟨rfl, hb4⟩
    have B4 : Hid (Below w.heap.size w w4) := by first | exact Lib.hid (below_2 B3.out hb4) | exact Lib.hid (below_a1 B3.out hb4) | exact Lib.hid (below_a2 B3.out hb4) | exact Lib.hid (below_a3 B3.out hb4)
    clear hb4
    go_wp2_with fail
    go_ret
    exact ⟨ret_bool (by first | rfl | simp), B4.out⟩
  · cases hq : bOk 729 Q.data.toList
    · rw [hp] at V
      rw [hq] at U
      generalize winRO P.data.toList Q.data.toList = b at *
      clear hp hq
      have q2 : (b == b) = true := by simp
      have q1 : (b != b) = false := by simp
      go_wp2_with fail
      refine (N1.out _).mono ?_
      rintro e w2 ⟨rfl, hb2⟩
      have B2 : Hid (Below w.heap.size w w2) := by first | exact Lib.hid (below_2 B1.out hb2) | exact Lib.hid (below_a1 B1.out hb2) | exact Lib.hid (below_a2 B1.out hb2) | exact Lib.hid (below_a3 B1.out hb2)
      clear hb2
      go_wp2_with fail
      refine (N2.out _).mono ?_
      rintro e w3 ⟨rfl, hb3⟩
      have B3 : Hid (Below w.heap.size w w3) := by first | exact Lib.hid (below_2 B2.out hb3) | exact Lib.hid (below_a1 B2.out hb3) | exact Lib.hid (below_a2 B2.out hb3) | exact Lib.hid (below_a3 B2.out hb3)
      clear hb3
      go_wp2_with fail
      refine (V.out _).mono ?_
      rintro e w' ⟨rfl, rfl⟩
      go_wp2_with fail
      refine (U.out _).mono ?_
      rintro e w' ⟨rfl, rfl⟩
      go_wp2_with fail
      refine (N2.out _).mono ?_
      rintro e w4 ⟨rfl, hb4⟩
      have B4 : Hid (Below w.heap.size w w4) := by first | exact Lib.hid (below_2 B3.out hb4) | exact Lib.hid (below_a1 B3.out hb4) | exact Lib.hid (below_a2 B3.out hb4) | exact Lib.hid (below_a3 B3.out hb4)
      clear hb4
      go_wp2_with fail
      go_ret
      exact ⟨ret_bool (by first | rfl | simp), B4.out⟩
    · have hnz : (bs (ngT Q.data.toList)).size ≤ 1000000000000 := by rw [bs_size]; unfold ngT; rw [bits_len]; omega
      have hnq : bOk 729 (bs (ngT Q.data.toList)).data.toList = true := by rw [bs_list]; exact ngT_ok
      have htp : (bs (trnT P.data.toList)).size ≤ 1000000000000 := by rw [bs_size, bOk_len (trnT_ok)]; omega
      have htq : (bs (trnT Q.data.toList)).size ≤ 1000000000000 := by rw [bs_size, bOk_len (trnT_ok)]; omega
      have haz : (bs (opT (· && ·) P.data.toList (ngT Q.data.toList))).size ≤ 1000000000000 := by rw [bs_size, bOk_len (opT_ok)]; omega
      have NN := Lib.hid (fun w => ppNotRel_any Q hQ' w)
      rw [notR_yes hq] at NN
      have PA := Lib.hid (fun w => ppAndRel_any P (bs (ngT Q.data.toList)) hP' hnz w)
      rw [bothR_yes _ hp hnq, bs_list] at PA
      have PO := Lib.hid (fun w => ppOrRel_any P Q hP' hQ' w)
      rw [bothR_yes _ hp hq] at PO
      have TP := Lib.hid (fun w => ppTurn_any P hP' w)
      rw [turnR_yes hp] at TP
      have TQ := Lib.hid (fun w => ppTurn_any Q hQ' w)
      rw [turnR_yes hq] at TQ
      have CA := Lib.hid (fun w => CountRel_any (bs (opT (· && ·) P.data.toList (ngT Q.data.toList))) haz w)
      have hc : cntRO (bs (opT (· && ·) P.data.toList (ngT Q.data.toList))).data.toList = (cntR (opT (· && ·) P.data.toList (ngT Q.data.toList)) : Int) := by
        unfold cntRO; rw [bs_list, opT_ok]; rfl
      rw [hc] at CA
      have TW := Lib.hid (fun w => RelWithin_any (bs (trnT P.data.toList)) (bs (trnT Q.data.toList)) htp htq w)
      rw [bs_list, bs_list, trn_w] at TW
      have hd := winR_diff (p := P.data.toList) (q := Q.data.toList)
      have hw : winRO P.data.toList Q.data.toList = winR P.data.toList Q.data.toList := by unfold winRO; rw [hp, hq, Bool.true_and, Bool.true_and]
      rw [hw] at N1 N2
      have ho : ((bs (opT (· || ·) P.data.toList Q.data.toList)).toList == Q.toList) = winR P.data.toList Q.data.toList := by rw [eqTS, within_or hq]
      rw [hp] at V
      rw [hq] at U
      simp only [optB] at NN PA PO TP TQ
      generalize bs (opT (· || ·) P.data.toList Q.data.toList) = O at *
      generalize bs (opT (· && ·) P.data.toList (ngT Q.data.toList)) = A at *
      generalize bs (ngT Q.data.toList) = X at *
      generalize bs (trnT P.data.toList) = X1 at *
      generalize bs (trnT Q.data.toList) = X2 at *
      generalize cntR (opT (· && ·) P.data.toList (ngT Q.data.toList)) = m at *
      generalize winR P.data.toList Q.data.toList = b at *
      have q1 : (b != b) = false := by simp
      have q2 : (b == b) = true := by simp
      have q3 : ((m : Int) == 0) = b := by rw [← hd]; exact bool_ext (by simp)
      clear hp hq hc hw hnz hnq htp htq haz hd
      go_wp2_with fail
      refine (N1.out _).mono ?_
      rintro e w2 ⟨rfl, hb2⟩
      have B2 : Hid (Below w.heap.size w w2) := by first | exact Lib.hid (below_2 B1.out hb2) | exact Lib.hid (below_a1 B1.out hb2) | exact Lib.hid (below_a2 B1.out hb2) | exact Lib.hid (below_a3 B1.out hb2)
      clear hb2
      go_wp2_with fail
      refine (N2.out _).mono ?_
      rintro e w3 ⟨rfl, hb3⟩
      have B3 : Hid (Below w.heap.size w w3) := by first | exact Lib.hid (below_2 B2.out hb3) | exact Lib.hid (below_a1 B2.out hb3) | exact Lib.hid (below_a2 B2.out hb3) | exact Lib.hid (below_a3 B2.out hb3)
      clear hb3
      go_wp2_with fail
      refine (V.out _).mono ?_
      rintro e w' ⟨rfl, rfl⟩
      go_wp2_with fail
      refine (U.out _).mono ?_
      rintro e w' ⟨rfl, rfl⟩
      go_wp2_with fail
      refine (NN.out _).mono ?_
      rintro e w4 ⟨rfl, hb4⟩
      have B4 : Hid (Below w.heap.size w w4) := by first | exact Lib.hid (below_2 B3.out hb4) | exact Lib.hid (below_a1 B3.out hb4) | exact Lib.hid (below_a2 B3.out hb4) | exact Lib.hid (below_a3 B3.out hb4)
      clear hb4
      go_wp2_with fail
      refine (PA.out _).mono ?_
      rintro e w5 ⟨rfl, hb5⟩
      have B5 : Hid (Below w.heap.size w w5) := by first | exact Lib.hid (below_2 B4.out hb5) | exact Lib.hid (below_a1 B4.out hb5) | exact Lib.hid (below_a2 B4.out hb5) | exact Lib.hid (below_a3 B4.out hb5)
      clear hb5
      go_wp2_with fail
      refine (CA.out _).mono ?_
      rintro e w' ⟨rfl, rfl⟩
      go_wp2_with fail
      refine (TP.out _).mono ?_
      rintro e w6 ⟨rfl, hb6⟩
      have B6 : Hid (Below w.heap.size w w6) := by first | exact Lib.hid (below_2 B5.out hb6) | exact Lib.hid (below_a1 B5.out hb6) | exact Lib.hid (below_a2 B5.out hb6) | exact Lib.hid (below_a3 B5.out hb6)
      clear hb6
      go_wp2_with fail
      refine (TQ.out _).mono ?_
      rintro e w7 ⟨rfl, hb7⟩
      have B7 : Hid (Below w.heap.size w w7) := by first | exact Lib.hid (below_2 B6.out hb7) | exact Lib.hid (below_a1 B6.out hb7) | exact Lib.hid (below_a2 B6.out hb7) | exact Lib.hid (below_a3 B6.out hb7)
      clear hb7
      go_wp2_with fail
      refine (TW.out _).mono ?_
      rintro e w8 ⟨rfl, hb8⟩
      have B8 : Hid (Below w.heap.size w w8) := by first | exact Lib.hid (below_2 B7.out hb8) | exact Lib.hid (below_a1 B7.out hb8) | exact Lib.hid (below_a2 B7.out hb8) | exact Lib.hid (below_a3 B7.out hb8)
      clear hb8
      go_wp2_with fail
      refine (PO.out _).mono ?_
      rintro e w9 ⟨rfl, hb9⟩
      have B9 : Hid (Below w.heap.size w w9) := by first | exact Lib.hid (below_2 B8.out hb9) | exact Lib.hid (below_a1 B8.out hb9) | exact Lib.hid (below_a2 B8.out hb9) | exact Lib.hid (below_a3 B8.out hb9)
      clear hb9
      go_wp2_with fail
      go_ret
      exact ⟨ret_bool (by first | rfl | simp), B9.out⟩

set_option maxRecDepth 100000 in
theorem lifted (os : Os) (started : os.Started) (H : Type) (enc : TypeId × Value → H) :
    ReturnsInHanded {} Try.checked os 6 .any (Rows.fnRelWithinSpec.pre6 enc Try.prog Try.f6 Rows.fnRelWithinRow.domain false) (Rows.fnRelWithinSpec.post enc Try.prog Try.f6 false true false false) := by
  refine returnsInHanded_of_change (C := Try.checked) own started (by kernel_rfl) Try.func6
    (ChangeSpec.witness6 (enc := enc) (C := Try.checked) false ⟨#[], #[.slice none 0 0], []⟩ 8 (by kernel_rfl) (by kernel_rfl) (by kernel_rfl) (by kernel_rfl)) ?_
  intro W base args ds gs before hval0 hW hcnd _
  have hval : ∀ (j : Nat) t v, Try.f6.params[j]? = some t → args[j]? = some v → Value.okWide Try.prog W .any base t v := hval0
  have hW' := hW
  obtain ⟨p, q, hA0, hV, rfl, hfz, hnd⟩ := hW
  have hA : DataW.TrodAll enc Try.prog W 0 (fun _ => true) true Try.f6.params.toList args.toList ds p := hA0
  rw [Try.params6] at hA hval
  obtain ⟨v0, vs0, d0, ds0, p0, q0, hargs, rfl, rfl, h0, r0⟩ := trodAll_cons hA
  obtain ⟨rfl, rfl, rfl⟩ := trodAll_nil r0
  obtain rfl : args = #[v0] := by cases args; simp_all
  obtain ⟨rfl, rfl⟩ := trodVars_none hV
  have k0 := h0
  have lt0 : ∀ x ∈ p0, x.block < W.heap.size := by obtain ⟨m, hm⟩ := k0; exact DataW.trod_lt m _ _ _ hm
  obtain ⟨a0, len0, cap0, rfl⟩ := okWide_slice Try.underlying22 (hval 0 22 v0 rfl rfl)
  obtain ⟨z0, w0⟩ : ∃ zs, IsRow .u8 W a0 len0 cap0 zs := by
    obtain ⟨fuel, hf⟩ := h0
    rcases open_ints Try.underlying22 Try.underlying5 (by kernel_rfl) hf with ⟨hcs, _⟩ | ⟨x, l, c, zs, hcs, _, hl, hm, hz, _, hcell, hwz⟩
    · simp [Value.cells] at hcs
      obtain ⟨rfl, rfl, rfl⟩ := hcs
      exact ⟨[], .inl ⟨rfl, rfl, rfl, rfl⟩⟩
    · simp [Value.cells] at hcs
      obtain ⟨rfl, rfl, rfl⟩ := hcs
      exact ⟨zs, .inr ⟨_, rfl, hl, hm, by simpa using hz, hcell, hwz⟩⟩
  obtain ⟨by0, lc0, cm0⟩ := bytes_of_row w0
  clear hA0 hval0
  refine (walk a0 len0 cap0 W by0 lc0 cm0).mono fun e W' ⟨he, bel⟩ => ?_
  subst he
  exact ⟨_, rfl, _, _, _, [], _, [], hW', trodAll_mk1 (shut_bool Try.underlying4 _), (trodAll_cons_mk (Below.trod laidOut (by kernel_rfl) (of_decide_eq_true (by kernel_rfl)) k0 bel lt0) trodAll_mk0), rfl, bel.frame _, fun h => by cases h⟩

theorem over : Rows.fnRelWithinRow.holds Try.pinned (OpenSpec.ofChange Rows.fnRelWithinSpec) :=
  OpenClaim.holds_of_wide 6 Try.f6 rfl rfl rfl rfl rfl rfl rfl ⟨rfl, rfl, rfl, rfl, rfl⟩ rfl rfl rfl rfl rfl (by kernel_rfl) Try.func6 (by kernel_rfl)
    (of_decide_eq_true (by kernel_rfl)) (by unfold Func.isWrapper; first | (rw [if_pos (by decide +kernel)]; kernel_rfl) | (rw [if_neg (by decide +kernel)]; exact ⟨rfl, rfl⟩))
    (fun os started H enc _ => lifted os started H enc)

/-- the statement -/
theorem proved : Rows.FnRelWithinSaid := over
#print axioms proved
end Go.Proofs.Ythdgheglmkhcbaa.fnRelWithin
