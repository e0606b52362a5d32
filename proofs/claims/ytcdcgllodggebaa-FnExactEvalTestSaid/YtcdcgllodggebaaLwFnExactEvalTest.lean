/- The law FnExactEvalTest holds: for every input it returns true, and writes nothing that was there. No condition. -/
import Derived.Test.YtcdcgllodggebaaCh
import Derived.Lib.SmallJoins
import Derived.Test.YtcdcgllodggebaaShl
namespace Go.Proofs.Ytcdcgllodggebaa.fnExactEvalTest
open Go.ChangeShapes Go.WideShapes Go.ChangeAt Go.RowKit
open Go.ChangeMaps (open_string shut_string)
open Go.Joins
open Pl
set_option linter.unusedVariables false

theorem own : ownKnob Try.prog.godebug = none := by kernel_rfl
theorem laidOut : laidOutB Try.prog = true := by kernel_rfl

set_option maxHeartbeats 4000000 in
theorem walk (s0 : ByteArray) (x1 y1 z1 : Int) (w : World) (hs0 : s0.size ≤ maxLen) :
    Calls Try.prog 10 #[.string s0, .agg #[.int .i64 x1, .int .i64 y1, .int .i64 z1]] w fun e w' => e = .returned (.bool true) ∧ Below w.heap.size w w' := by
  by_cases hbig : 1048576 < s0.size
  · skip
    go_enter Try.func10, Try.ntmps10
    go_wp2_with fail
    go_ret
    exact ⟨rfl, by first | exact Below.refl _ _ | exact below_n _ _ | exact (below_n _ _).alloc (by simp) _⟩
  have hs : s0.size ≤ 1000000000000 := by omega
  have B0 := Lib.hid (below_n w (.cells #[.int .i64 x1, .int .i64 y1, .int .i64 z1] 49))
  have V := Lib.hid (fun w => EvalTest_any s0 hs x1 y1 z1 w)
  have VS := Lib.hid (fun w => EvalTestS_any s0 hs x1 y1 z1 w)
  obtain ⟨tv, htv⟩ : ∃ v, evT (whole false 1 200 s0.data.toList) (stB x1 y1 z1) (envOf x1 y1 z1 0 0 0) = v := ⟨_, rfl⟩
  obtain ⟨ov, hov⟩ : ∃ v, evO (whole false 1 200 s0.data.toList) (stB x1 y1 z1) = v := ⟨_, rfl⟩
  rw [htv, hov] at V VS
  clear htv hov hs0 hs
  have q1 : (tv != tv) = false := by simp
  have q2 : (ov != ov) = false := by simp
  have d0 : (w.alloc (.cells #[.int .i64 x1, .int .i64 y1, .int .i64 z1] 49)).cell? ⟨w.heap.size, 0, none⟩ = some (.int .i64 x1) := by simp
  have d1 : (w.alloc (.cells #[.int .i64 x1, .int .i64 y1, .int .i64 z1] 49)).cell? ⟨w.heap.size, 1, none⟩ = some (.int .i64 y1) := by simp
  have d2 : (w.alloc (.cells #[.int .i64 x1, .int .i64 y1, .int .i64 z1] 49)).cell? ⟨w.heap.size, 2, none⟩ = some (.int .i64 z1) := by simp
  go_enter Try.func10, Try.ntmps10
  go_wp2_with fail
  refine (toState_any x1 y1 z1 _).mono ?_
  rintro e w1 ⟨rfl, hb1⟩
  replace d0 := (hb1.cell (p := ⟨w.heap.size, 0, none⟩) (by first | assumption | simp)).trans d0
  replace d1 := (hb1.cell (p := ⟨w.heap.size, 1, none⟩) (by first | assumption | simp)).trans d1
  replace d2 := (hb1.cell (p := ⟨w.heap.size, 2, none⟩) (by first | assumption | simp)).trans d2
  have hz1 : w.heap.size < w1.heap.size := by have := hb1.size; simp at this; omega
  have B1 : Hid (Below w.heap.size w w1) := by first | exact Lib.hid (below_2 B0.out hb1) | exact Lib.hid (below_a1 B0.out hb1) | exact Lib.hid (below_a2 B0.out hb1) | exact Lib.hid (below_a3 B0.out hb1)
  clear hb1
  go_wp2_with fail
  refine (VS.out _).mono ?_
  rintro e w2 ⟨rfl, hb2⟩
  replace d0 := (hb2.cell (p := ⟨w.heap.size, 0, none⟩) (by first | assumption | simp)).trans d0
  replace d1 := (hb2.cell (p := ⟨w.heap.size, 1, none⟩) (by first | assumption | simp)).trans d1
  replace d2 := (hb2.cell (p := ⟨w.heap.size, 2, none⟩) (by first | assumption | simp)).trans d2
  have hz2 := Nat.lt_of_lt_of_le hz1 hb2.size
  have B2 : Hid (Below w.heap.size w w2) := by first | exact Lib.hid (below_2 B1.out hb2) | exact Lib.hid (below_a1 B1.out hb2) | exact Lib.hid (below_a2 B1.out hb2) | exact Lib.hid (below_a3 B1.out hb2)
  clear hb2
  go_wp2_with fail
  refine (toState_any x1 y1 z1 _).mono ?_
  rintro e w3 ⟨rfl, hb3⟩
  replace d0 := (hb3.cell (p := ⟨w.heap.size, 0, none⟩) (by first | assumption | simp)).trans d0
  replace d1 := (hb3.cell (p := ⟨w.heap.size, 1, none⟩) (by first | assumption | simp)).trans d1
  replace d2 := (hb3.cell (p := ⟨w.heap.size, 2, none⟩) (by first | assumption | simp)).trans d2
  have hz3 := Nat.lt_of_lt_of_le hz2 hb3.size
  have B3 : Hid (Below w.heap.size w w3) := by first | exact Lib.hid (below_2 B2.out hb3) | exact Lib.hid (below_a1 B2.out hb3) | exact Lib.hid (below_a2 B2.out hb3) | exact Lib.hid (below_a3 B2.out hb3)
  clear hb3
  go_wp2_with fail
  refine (V.out _).mono ?_
  rintro e w4 ⟨rfl, hb4⟩
  replace d0 := (hb4.cell (p := ⟨w.heap.size, 0, none⟩) (by first | assumption | simp)).trans d0
  replace d1 := (hb4.cell (p := ⟨w.heap.size, 1, none⟩) (by first | assumption | simp)).trans d1
  replace d2 := (hb4.cell (p := ⟨w.heap.size, 2, none⟩) (by first | assumption | simp)).trans d2
  have B4 : Hid (Below w.heap.size w w4) := by first | exact Lib.hid (below_2 B3.out hb4) | exact Lib.hid (below_a1 B3.out hb4) | exact Lib.hid (below_a2 B3.out hb4) | exact Lib.hid (below_a3 B3.out hb4)
  clear hb4
  go_wp2_with fail
  go_ret
  exact ⟨rfl, B4.out⟩

set_option maxRecDepth 100000 in
theorem lifted (os : Os) (started : os.Started) (H : Type) (enc : TypeId × Value → H) :
    ReturnsInHanded {} Try.checked os 10 .any (Rows.fnExactEvalTestSpec.pre6 enc Try.prog Try.f10 Rows.fnExactEvalTestRow.domain false) (Rows.fnExactEvalTestSpec.post enc Try.prog Try.f10 false true false false) := by
  refine returnsInHanded_of_change (C := Try.checked) own started (by kernel_rfl) Try.func10
    (ChangeSpec.witness6 (enc := enc) (C := Try.checked) false ⟨#[], #[.string ⟨#[]⟩, .agg #[.int .i64 0, .int .i64 0, .int .i64 0]], []⟩ 8 (by kernel_rfl) (by kernel_rfl) (by kernel_rfl) (by kernel_rfl)) ?_
  intro W base args ds gs before hval0 hW hcnd _
  have hval : ∀ (j : Nat) t v, Try.f10.params[j]? = some t → args[j]? = some v → Value.okWide Try.prog W .any base t v := hval0
  have hW' := hW
  obtain ⟨p, q, hA0, hV, rfl, hfz, hnd⟩ := hW
  have hA : DataW.TrodAll enc Try.prog W 0 (fun _ => true) true Try.f10.params.toList args.toList ds p := hA0
  rw [Try.params10] at hA hval
  obtain ⟨v0, vs0, d0, ds0, p0, q0, hargs, rfl, rfl, h0, r0⟩ := trodAll_cons hA
  obtain ⟨v1, vs1, d1, ds1, p1, q1, rfl, rfl, rfl, h1, r1⟩ := trodAll_cons r0
  obtain ⟨rfl, rfl, rfl⟩ := trodAll_nil r1
  obtain rfl : args = #[v0, v1] := by cases args; simp_all
  obtain ⟨rfl, rfl⟩ := trodVars_none hV
  obtain ⟨s0, rfl, rfl, rfl, ws0⟩ := open_string Try.underlying9 (hval 0 9 v0 rfl rfl) h0
  have k1 := h1
  have lt1 : ∀ x ∈ p1, x.block < W.heap.size := by obtain ⟨m, hm⟩ := k1; exact DataW.trod_lt m _ _ _ hm
  obtain ⟨x1, y1, z1, rfl⟩ : ∃ x y z : Int, v1 = .agg #[.int .i64 x, .int .i64 y, .int .i64 z] := by
    obtain ⟨ca, cb, cc, ya, yb, yc, m, hv, _, _, ha, hb, hc⟩ := open_agg3 Try.underlying49 (by kernel_rfl) (by kernel_rfl) (hval 1 49 v1 rfl rfl) h1
    obtain ⟨a, e0, _, _⟩ := DataW.trod_int Try.underlying3 ha
    obtain ⟨b, e1, _, _⟩ := DataW.trod_int Try.underlying3 hb
    obtain ⟨c, e2, _, _⟩ := DataW.trod_int Try.underlying3 hc
    simp at e0 e1 e2
    subst e0 e1 e2
    exact ⟨a, b, c, hv⟩
  clear hA0 hval0
  refine (walk s0 x1 y1 z1 W ws0).mono fun e W' ⟨he, bel⟩ => ?_
  subst he
  exact ⟨_, rfl, _, _, _, [], _, [], hW', trodAll_mk1 (shut_bool Try.underlying4 _), (trodAll_cons_mk (shut_string Try.underlying9 ws0) (trodAll_cons_mk (Below.trod laidOut (by kernel_rfl) (of_decide_eq_true (by kernel_rfl)) k1 bel lt1) trodAll_mk0)), rfl, bel.frame _, fun h => by cases h⟩

theorem over : Rows.fnExactEvalTestRow.holds Try.pinned (OpenSpec.ofChange Rows.fnExactEvalTestSpec) :=
  OpenClaim.holds_of_wide 10 Try.f10 rfl rfl rfl rfl rfl rfl rfl ⟨rfl, rfl, rfl, rfl, rfl⟩ rfl rfl rfl rfl rfl (by kernel_rfl) Try.func10 (by kernel_rfl)
    (of_decide_eq_true (by kernel_rfl)) (by unfold Func.isWrapper; first | (rw [if_pos (by decide +kernel)]; kernel_rfl) | (rw [if_neg (by decide +kernel)]; exact ⟨rfl, rfl⟩))
    (fun os started H enc _ => lifted os started H enc)

/-- the statement -/
theorem proved : Rows.FnExactEvalTestSaid := over
#print axioms proved
end Go.Proofs.Ytcdcgllodggebaa.fnExactEvalTest
