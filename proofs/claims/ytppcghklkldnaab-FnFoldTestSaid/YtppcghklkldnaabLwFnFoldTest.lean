/- The law FnFoldTest holds: for every input it returns true, and writes nothing that was there. No condition. -/
import Derived.Test.YtppcghklkldnaabDft
import Derived.Test.YtppcghklkldnaabShl
namespace Go.Proofs.Ytppcghklkldnaab.fnFoldTest
open Go.ChangeShapes Go.WideShapes Go.ChangeAt Go.RowKit
open Go.ChangeMaps (open_string shut_string)

open Pl
set_option linter.unusedVariables false

theorem own : ownKnob Try.prog.godebug = none := by kernel_rfl
theorem laidOut : laidOutB Try.prog = true := by kernel_rfl

theorem vars_none {l : List UInt8} (h : vars nmsN l = []) : ∀ c ∈ nmsN, c ∉ l := by
  intro c hc hm
  have : c ∈ vars nmsN l := mem_vars.2 ⟨hc, hm⟩
  rw [h] at this
  cases this
set_option maxRecDepth 100000 in
set_option maxHeartbeats 16000000 in
theorem walk (a0 : Option Addr) (len0 cap0 : Nat) (w : World) (hb0 : Bytes w a0 len0 w.heap.size) (hl0 : len0 ≤ cap0) (hc0 : cap0 ≤ 9223372036854775807) :
    Calls Try.prog 7 #[.slice a0 len0 cap0] w fun e w' => e = .returned (.bool true) ∧ Below w.heap.size w w' := by
  by_cases hbig : 1048576 < len0
  · clear hb0
    go_enter Try.func7, Try.ntmps7
    go_wp2_with fail
    go_ret
    exact ⟨rfl, by first | exact Below.refl _ _ | exact below_n _ _ | exact (below_n _ _).alloc (by simp) _⟩
  have D := Lib.hid (DrawFoldTest_any a0 len0 cap0 w (by omega) hl0 hb0)
  clear hb0
  go_enter Try.func7, Try.ntmps7
  go_wp2_with fail
  refine D.out.mono ?_
  rintro e w1 ⟨S, hS, rfl, hb1⟩
  have B1 := Lib.hid hb1
  clear D hb1
  have hs : S.size ≤ 1000000000000 := by omega
  have J := Lib.hid (fun w => FoldTest_any S hs w)
  have JS := Lib.hid (fun w => FoldTestS_any S hs w)
  have TV := Lib.hid (fun w => TestValid_any S hs w)
  cases ho : whole false 1 200 S.data.toList with
  | none =>
    rw [ho] at J JS TV
    simp only [Option.map_none, optT, Option.isSome_none] at J JS TV
    have q3 : ((bs []).toList != (bs []).toList) = false := by simp
    have q4 : ((bs []).toList == (bs []).toList) = true := by simp
    clear ho
    generalize bs [] = E0 at *
    go_wp2_with fail
    refine (J.out _).mono ?_
    rintro e w2 ⟨rfl, hb2⟩
    have B2 : Hid (Below w.heap.size w w2) := by first | exact Lib.hid (below_2 B1.out hb2) | exact Lib.hid (below_a1 B1.out hb2) | exact Lib.hid (below_a2 B1.out hb2) | exact Lib.hid (below_a3 B1.out hb2)
    clear hb2
    go_wp2_with fail
    refine (JS.out _).mono ?_
    rintro e w3 ⟨rfl, hb3⟩
    have B3 : Hid (Below w.heap.size w w3) := by first | exact Lib.hid (below_2 B2.out hb3) | exact Lib.hid (below_a1 B2.out hb3) | exact Lib.hid (below_a2 B2.out hb3) | exact Lib.hid (below_a3 B2.out hb3)
    clear hb3
    go_wp2_with fail
    refine (TV.out _).mono ?_
    rintro e w4 ⟨rfl, hb4⟩
    have B4 : Hid (Below w.heap.size w w4) := by first | exact Lib.hid (below_2 B3.out hb4) | exact Lib.hid (below_a1 B3.out hb4) | exact Lib.hid (below_a2 B3.out hb4) | exact Lib.hid (below_a3 B3.out hb4)
    clear hb4
    go_wp2_with fail
    refine (TV.out _).mono ?_
    rintro e w5 ⟨rfl, hb5⟩
    have B5 : Hid (Below w.heap.size w w5) := by first | exact Lib.hid (below_2 B4.out hb5) | exact Lib.hid (below_a1 B4.out hb5) | exact Lib.hid (below_a2 B4.out hb5) | exact Lib.hid (below_a3 B4.out hb5)
    clear hb5
    go_wp2_with fail
    go_ret
    exact ⟨ret_bool (by first | rfl | simp), B5.out⟩
  | some k =>
    obtain ⟨hl, hok, ht⟩ := (whole_iff (by omega)).1 ho
    have hl1 : k.text.length ≤ 200 := by rw [← ht]; exact hl
    have hfl := foldT_len k
    have hwX := whole_text (foldT_ok hok) (show (foldT k).text.length ≤ 200 by omega)
    have hXz : (bs (foldT k).text).size ≤ 1000000000000 := by rw [bs_size]; omega
    have JX := Lib.hid (fun w => FoldTest_any (bs (foldT k).text) hXz w)
    have PX := Lib.hid (fun w => ppSet_any (bs (foldT k).text) hXz w)
    have PS := Lib.hid (fun w => ppSet_any S hs w)
    have VS := Lib.hid (fun w => TestVars_any S hs w)
    rw [bs_list, hwX] at JX PX
    rw [ho] at J JS TV PS
    have ev : vsTest S.data.toList = vars nmsN S.data.toList := by unfold vsTest; rw [ho]; rfl
    have es : str (vars nmsN S.data.toList) = .string (bs (vars nmsN S.data.toList)) := rfl
    rw [ev, es] at VS
    clear ev es
    simp only [Option.map_some, optT, optB, Option.isSome_some, foldT_foldT, predOf_fold hok] at J JS TV JX PX PS
    have hle : (bs (foldT k).text).size ≤ S.size := by rw [bs_size, ← len_S, ht]; exact hfl
    have hend : ¬ ((bs (vars nmsN S.data.toList)).toList = []) ∨ ((bs (vars nmsN S.data.toList)).toList = [] ∧ ((bs (foldT k).text).toList = [116] ∨ ((bs (foldT k).text).toList = [102] ∧ ¬ (bs (foldT k).text).toList = [116]))) := by
      rw [ByteArray.toList_eq, bs_list, ByteArray.toList_eq, bs_list]
      cases hv : vars nmsN S.data.toList with
      | cons x r => exact .inl (by simp)
      | nil =>
        refine .inr ⟨rfl, ?_⟩
        rw [ht] at hv
        rcases foldT_none hok (vars_none hv) with e | e
        · exact .inl (by rw [e]; rfl)
        · exact .inr (by rw [e]; exact ⟨rfl, by decide⟩)
    generalize bs (vars nmsN S.data.toList) = VV at *
    obtain ⟨X, hX⟩ : ∃ X, bs (foldT k).text = X := ⟨_, rfl⟩
    rw [hX] at J JS JX PX hle hend
    generalize bs (predOf k) = PO at *
    clear ho hok hl ht hl1 hfl hwX hXz hX hs hS
    have q1 : (X.toList != X.toList) = false := by simp
    have q2 : (X.toList == X.toList) = true := by simp
    have q3 : (PO.toList == PO.toList) = true := by simp
    rcases hend with h | ⟨h, h2 | ⟨h2, h3⟩⟩
    · skip
      go_wp2_with fail
      refine (J.out _).mono ?_
      rintro e w2 ⟨rfl, hb2⟩
      have B2 : Hid (Below w.heap.size w w2) := by first | exact Lib.hid (below_2 B1.out hb2) | exact Lib.hid (below_a1 B1.out hb2) | exact Lib.hid (below_a2 B1.out hb2) | exact Lib.hid (below_a3 B1.out hb2)
      clear hb2
      go_wp2_with fail
      refine (JS.out _).mono ?_
      rintro e w3 ⟨rfl, hb3⟩
      have B3 : Hid (Below w.heap.size w w3) := by first | exact Lib.hid (below_2 B2.out hb3) | exact Lib.hid (below_a1 B2.out hb3) | exact Lib.hid (below_a2 B2.out hb3) | exact Lib.hid (below_a3 B2.out hb3)
      clear hb3
      go_wp2_with fail
      refine (TV.out _).mono ?_
      rintro e w4 ⟨rfl, hb4⟩
      have B4 : Hid (Below w.heap.size w w4) := by first | exact Lib.hid (below_2 B3.out hb4) | exact Lib.hid (below_a1 B3.out hb4) | exact Lib.hid (below_a2 B3.out hb4) | exact Lib.hid (below_a3 B3.out hb4)
      clear hb4
      go_wp2_with fail
      refine (JX.out _).mono ?_
      rintro e w5 ⟨rfl, hb5⟩
      have B5 : Hid (Below w.heap.size w w5) := by first | exact Lib.hid (below_2 B4.out hb5) | exact Lib.hid (below_a1 B4.out hb5) | exact Lib.hid (below_a2 B4.out hb5) | exact Lib.hid (below_a3 B4.out hb5)
      clear hb5
      go_wp2_with fail
      refine (PX.out _).mono ?_
      rintro e w6 ⟨rfl, hb6⟩
      have B6 : Hid (Below w.heap.size w w6) := by first | exact Lib.hid (below_2 B5.out hb6) | exact Lib.hid (below_a1 B5.out hb6) | exact Lib.hid (below_a2 B5.out hb6) | exact Lib.hid (below_a3 B5.out hb6)
      clear hb6
      go_wp2_with fail
      refine (PS.out _).mono ?_
      rintro e w7 ⟨rfl, hb7⟩
      have B7 : Hid (Below w.heap.size w w7) := by first | exact Lib.hid (below_2 B6.out hb7) | exact Lib.hid (below_a1 B6.out hb7) | exact Lib.hid (below_a2 B6.out hb7) | exact Lib.hid (below_a3 B6.out hb7)
      clear hb7
      go_wp2_with fail
      refine (VS.out _).mono ?_
      rintro e w8 ⟨rfl, hb8⟩
      have B8 : Hid (Below w.heap.size w w8) := by first | exact Lib.hid (below_2 B7.out hb8) | exact Lib.hid (below_a1 B7.out hb8) | exact Lib.hid (below_a2 B7.out hb8) | exact Lib.hid (below_a3 B7.out hb8)
      clear hb8
      go_wp2_with fail
      go_ret
      exact ⟨ret_bool (by first | rfl | simp), B8.out⟩
    · skip
      go_wp2_with fail
      refine (J.out _).mono ?_
      rintro e w2 ⟨rfl, hb2⟩
      have B2 : Hid (Below w.heap.size w w2) := by first | exact Lib.hid (below_2 B1.out hb2) | exact Lib.hid (below_a1 B1.out hb2) | exact Lib.hid (below_a2 B1.out hb2) | exact Lib.hid (below_a3 B1.out hb2)
      clear hb2
      go_wp2_with fail
      refine (JS.out _).mono ?_
      rintro e w3 ⟨rfl, hb3⟩
      have B3 : Hid (Below w.heap.size w w3) := by first | exact Lib.hid (below_2 B2.out hb3) | exact Lib.hid (below_a1 B2.out hb3) | exact Lib.hid (below_a2 B2.out hb3) | exact Lib.hid (below_a3 B2.out hb3)
      clear hb3
      go_wp2_with fail
      refine (TV.out _).mono ?_
      rintro e w4 ⟨rfl, hb4⟩
      have B4 : Hid (Below w.heap.size w w4) := by first | exact Lib.hid (below_2 B3.out hb4) | exact Lib.hid (below_a1 B3.out hb4) | exact Lib.hid (below_a2 B3.out hb4) | exact Lib.hid (below_a3 B3.out hb4)
      clear hb4
      go_wp2_with fail
      refine (JX.out _).mono ?_
      rintro e w5 ⟨rfl, hb5⟩
      have B5 : Hid (Below w.heap.size w w5) := by first | exact Lib.hid (below_2 B4.out hb5) | exact Lib.hid (below_a1 B4.out hb5) | exact Lib.hid (below_a2 B4.out hb5) | exact Lib.hid (below_a3 B4.out hb5)
      clear hb5
      go_wp2_with fail
      refine (PX.out _).mono ?_
      rintro e w6 ⟨rfl, hb6⟩
      have B6 : Hid (Below w.heap.size w w6) := by first | exact Lib.hid (below_2 B5.out hb6) | exact Lib.hid (below_a1 B5.out hb6) | exact Lib.hid (below_a2 B5.out hb6) | exact Lib.hid (below_a3 B5.out hb6)
      clear hb6
      go_wp2_with fail
      refine (PS.out _).mono ?_
      rintro e w7 ⟨rfl, hb7⟩
      have B7 : Hid (Below w.heap.size w w7) := by first | exact Lib.hid (below_2 B6.out hb7) | exact Lib.hid (below_a1 B6.out hb7) | exact Lib.hid (below_a2 B6.out hb7) | exact Lib.hid (below_a3 B6.out hb7)
      clear hb7
      go_wp2_with fail
      refine (VS.out _).mono ?_
      rintro e w8 ⟨rfl, hb8⟩
      have B8 : Hid (Below w.heap.size w w8) := by first | exact Lib.hid (below_2 B7.out hb8) | exact Lib.hid (below_a1 B7.out hb8) | exact Lib.hid (below_a2 B7.out hb8) | exact Lib.hid (below_a3 B7.out hb8)
      clear hb8
      go_wp2_with fail
      go_ret
      exact ⟨ret_bool (by first | rfl | simp), B8.out⟩
    · skip
      go_wp2_with fail
      refine (J.out _).mono ?_
      rintro e w2 ⟨rfl, hb2⟩
      have B2 : Hid (Below w.heap.size w w2) := by first | exact Lib.hid (below_2 B1.out hb2) | exact Lib.hid (below_a1 B1.out hb2) | exact Lib.hid (below_a2 B1.out hb2) | exact Lib.hid (below_a3 B1.out hb2)
      clear hb2
      go_wp2_with fail
      refine (JS.out _).mono ?_
      rintro e w3 ⟨rfl, hb3⟩
      have B3 : Hid (Below w.heap.size w w3) := by first | exact Lib.hid (below_2 B2.out hb3) | exact Lib.hid (below_a1 B2.out hb3) | exact Lib.hid (below_a2 B2.out hb3) | exact Lib.hid (below_a3 B2.out hb3)
      clear hb3
      go_wp2_with fail
      refine (TV.out _).mono ?_
      rintro e w4 ⟨rfl, hb4⟩
      have B4 : Hid (Below w.heap.size w w4) := by first | exact Lib.hid (below_2 B3.out hb4) | exact Lib.hid (below_a1 B3.out hb4) | exact Lib.hid (below_a2 B3.out hb4) | exact Lib.hid (below_a3 B3.out hb4)
      clear hb4
      go_wp2_with fail
      refine (JX.out _).mono ?_
      rintro e w5 ⟨rfl, hb5⟩
      have B5 : Hid (Below w.heap.size w w5) := by first | exact Lib.hid (below_2 B4.out hb5) | exact Lib.hid (below_a1 B4.out hb5) | exact Lib.hid (below_a2 B4.out hb5) | exact Lib.hid (below_a3 B4.out hb5)
      clear hb5
      go_wp2_with fail
      refine (PX.out _).mono ?_
      rintro e w6 ⟨rfl, hb6⟩
      have B6 : Hid (Below w.heap.size w w6) := by first | exact Lib.hid (below_2 B5.out hb6) | exact Lib.hid (below_a1 B5.out hb6) | exact Lib.hid (below_a2 B5.out hb6) | exact Lib.hid (below_a3 B5.out hb6)
      clear hb6
      go_wp2_with fail
      refine (PS.out _).mono ?_
      rintro e w7 ⟨rfl, hb7⟩
      have B7 : Hid (Below w.heap.size w w7) := by first | exact Lib.hid (below_2 B6.out hb7) | exact Lib.hid (below_a1 B6.out hb7) | exact Lib.hid (below_a2 B6.out hb7) | exact Lib.hid (below_a3 B6.out hb7)
      clear hb7
      go_wp2_with fail
      refine (VS.out _).mono ?_
      rintro e w8 ⟨rfl, hb8⟩
      have B8 : Hid (Below w.heap.size w w8) := by first | exact Lib.hid (below_2 B7.out hb8) | exact Lib.hid (below_a1 B7.out hb8) | exact Lib.hid (below_a2 B7.out hb8) | exact Lib.hid (below_a3 B7.out hb8)
      clear hb8
      go_wp2_with fail
      go_ret
      exact ⟨ret_bool (by first | rfl | simp), B8.out⟩

set_option maxRecDepth 100000 in
theorem lifted (os : Os) (started : os.Started) (H : Type) (enc : TypeId × Value → H) :
    ReturnsInHanded {} Try.checked os 7 .any (Rows.fnFoldTestSpec.pre6 enc Try.prog Try.f7 Rows.fnFoldTestRow.domain false) (Rows.fnFoldTestSpec.post enc Try.prog Try.f7 false true false false) := by
  refine returnsInHanded_of_change (C := Try.checked) own started (by kernel_rfl) Try.func7
    (ChangeSpec.witness6 (enc := enc) (C := Try.checked) false ⟨#[], #[.slice none 0 0], []⟩ 8 (by kernel_rfl) (by kernel_rfl) (by kernel_rfl) (by kernel_rfl)) ?_
  intro W base args ds gs before hval0 hW hcnd _
  have hval : ∀ (j : Nat) t v, Try.f7.params[j]? = some t → args[j]? = some v → Value.okWide Try.prog W .any base t v := hval0
  have hW' := hW
  obtain ⟨p, q, hA0, hV, rfl, hfz, hnd⟩ := hW
  have hA : DataW.TrodAll enc Try.prog W 0 (fun _ => true) true Try.f7.params.toList args.toList ds p := hA0
  rw [Try.params7] at hA hval
  obtain ⟨v0, vs0, d0, ds0, p0, q0, hargs, rfl, rfl, h0, r0⟩ := trodAll_cons hA
  obtain ⟨rfl, rfl, rfl⟩ := trodAll_nil r0
  obtain rfl : args = #[v0] := by cases args; simp_all
  obtain ⟨rfl, rfl⟩ := trodVars_none hV
  have k0 := h0
  have lt0 : ∀ x ∈ p0, x.block < W.heap.size := by obtain ⟨m, hm⟩ := k0; exact DataW.trod_lt m _ _ _ hm
  obtain ⟨a0, len0, cap0, rfl⟩ := okWide_slice Try.underlying22 (hval 0 22 v0 rfl rfl)
  obtain ⟨z0, w0⟩ : ∃ zs, IsRow .u8 W a0 len0 cap0 zs := by
    obtain ⟨fuel, hf⟩ := h0
    rcases open_ints Try.underlying22 Try.underlying5 (by kernel_rfl) hf with ⟨hcs, _⟩ | ⟨x, l, c, zs, hcs, _, hl, hm, hz, _, hcell, hwz⟩
    · simp [Value.cells] at hcs
      obtain ⟨rfl, rfl, rfl⟩ := hcs
      exact ⟨[], .inl ⟨rfl, rfl, rfl, rfl⟩⟩
    · simp [Value.cells] at hcs
      obtain ⟨rfl, rfl, rfl⟩ := hcs
      exact ⟨zs, .inr ⟨_, rfl, hl, hm, by simpa using hz, hcell, hwz⟩⟩
  obtain ⟨by0, lc0, cm0⟩ := bytes_of_row w0
  clear hA0 hval0
  refine (walk a0 len0 cap0 W by0 lc0 cm0).mono fun e W' ⟨he, bel⟩ => ?_
  subst he
  exact ⟨_, rfl, _, _, _, [], _, [], hW', trodAll_mk1 (shut_bool Try.underlying4 _), (trodAll_cons_mk (Below.trod laidOut (by kernel_rfl) (of_decide_eq_true (by kernel_rfl)) k0 bel lt0) trodAll_mk0), rfl, bel.frame _, fun h => by cases h⟩

theorem over : Rows.fnFoldTestRow.holds Try.pinned (OpenSpec.ofChange Rows.fnFoldTestSpec) :=
  OpenClaim.holds_of_wide 7 Try.f7 rfl rfl rfl rfl rfl rfl rfl ⟨rfl, rfl, rfl, rfl, rfl⟩ rfl rfl rfl rfl rfl (by kernel_rfl) Try.func7 (by kernel_rfl)
    (of_decide_eq_true (by kernel_rfl)) (by unfold Func.isWrapper; first | (rw [if_pos (by decide +kernel)]; kernel_rfl) | (rw [if_neg (by decide +kernel)]; exact ⟨rfl, rfl⟩))
    (fun os started H enc _ => lifted os started H enc)

/-- the statement -/
theorem proved : Rows.FnFoldTestSaid := over
#print axioms proved
end Go.Proofs.Ytppcghklkldnaab.fnFoldTest
