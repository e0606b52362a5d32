/- The law FnExactEvalWide holds: for every input it returns true, and writes nothing that was there. No condition. -/
import Derived.Test.YtcdcgllodggebaaCh
import Derived.Lib.SmallJoins
import Derived.Deep.RegionHeld3
import Derived.Test.YtcdcgllodggebaaShl
namespace Go.Proofs.Ytcdcgllodggebaa.fnExactEvalWide
open Go.ChangeShapes Go.WideShapes Go.ChangeAt Go.RowKit
open Go.ChangeMaps (open_string shut_string)
open Go.Joins
open Pl
set_option linter.unusedVariables false

theorem own : ownKnob Try.prog.godebug = none := by kernel_rfl
theorem laidOut : laidOutB Try.prog = true := by kernel_rfl

set_option maxHeartbeats 4000000 in
theorem walk (s0 : ByteArray) (x1 y1 z1 : Int) (x2 y2 z2 : Int) (w : World) (hs0 : s0.size ≤ maxLen) :
    Calls Try.prog 11 #[.string s0, .agg #[.int .i64 x1, .int .i64 y1, .int .i64 z1], .agg #[.int .i64 x2, .int .i64 y2, .int .i64 z2]] w fun e w' => e = .returned (.bool true) ∧ Below w.heap.size w w' := by
  by_cases hbig : 1048576 < s0.size
  · skip
    go_enter Try.func11, Try.ntmps11
    go_wp2_with fail
    go_ret
    exact ⟨rfl, by first | exact Below.refl _ _ | exact below_n _ _ | exact (below_n _ _).alloc (by simp) _⟩
  have hs : s0.size ≤ 1000000000000 := by omega
  have BB := Lib.hid (((below_n w (.cells #[.int .i64 x1, .int .i64 y1, .int .i64 z1] 49)).alloc (by simp) (.cells #[.int .i64 x2, .int .i64 y2, .int .i64 z2] 49)).trans (below_drew _ _))
  have V := Lib.hid (fun w => EvalWide_any s0 hs x1 y1 z1 x2 y2 z2 w)
  have VS := Lib.hid (fun w => EvalWideS_any s0 hs x1 y1 z1 x2 y2 z2 w)
  obtain ⟨tv, htv⟩ : ∃ v, evT (whole true 1 200 s0.data.toList) (stB x1 y1 z1 && stB x2 y2 z2) (envOf x1 y1 z1 x2 y2 z2) = v := ⟨_, rfl⟩
  obtain ⟨ov, hov⟩ : ∃ v, evO (whole true 1 200 s0.data.toList) (stB x1 y1 z1 && stB x2 y2 z2) = v := ⟨_, rfl⟩
  rw [htv, hov] at V VS
  clear htv hov hs0 hs
  have q1 : (tv != tv) = false := by simp
  have q2 : (ov != ov) = false := by simp
  have d0 : ((w.alloc (.cells #[.int .i64 x1, .int .i64 y1, .int .i64 z1] 49)).alloc (.cells #[.int .i64 x2, .int .i64 y2, .int .i64 z2] 49)).drew.cell? ⟨w.heap.size, 0, none⟩ = some (.int .i64 x1) := by simp
  have d1 : ((w.alloc (.cells #[.int .i64 x1, .int .i64 y1, .int .i64 z1] 49)).alloc (.cells #[.int .i64 x2, .int .i64 y2, .int .i64 z2] 49)).drew.cell? ⟨w.heap.size, 1, none⟩ = some (.int .i64 y1) := by simp
  have d2 : ((w.alloc (.cells #[.int .i64 x1, .int .i64 y1, .int .i64 z1] 49)).alloc (.cells #[.int .i64 x2, .int .i64 y2, .int .i64 z2] 49)).drew.cell? ⟨w.heap.size, 2, none⟩ = some (.int .i64 z1) := by simp
  have e0 : ((w.alloc (.cells #[.int .i64 x1, .int .i64 y1, .int .i64 z1] 49)).alloc (.cells #[.int .i64 x2, .int .i64 y2, .int .i64 z2] 49)).drew.cell? ⟨w.heap.size + 1, 0, none⟩ = some (.int .i64 x2) := by simp
  have e1 : ((w.alloc (.cells #[.int .i64 x1, .int .i64 y1, .int .i64 z1] 49)).alloc (.cells #[.int .i64 x2, .int .i64 y2, .int .i64 z2] 49)).drew.cell? ⟨w.heap.size + 1, 1, none⟩ = some (.int .i64 y2) := by simp
  have e2 : ((w.alloc (.cells #[.int .i64 x1, .int .i64 y1, .int .i64 z1] 49)).alloc (.cells #[.int .i64 x2, .int .i64 y2, .int .i64 z2] 49)).drew.cell? ⟨w.heap.size + 1, 2, none⟩ = some (.int .i64 z2) := by simp
  have hz : w.heap.size + 1 < ((w.alloc (.cells #[.int .i64 x1, .int .i64 y1, .int .i64 z1] 49)).alloc (.cells #[.int .i64 x2, .int .i64 y2, .int .i64 z2] 49)).drew.heap.size := by simp
  have hy : w.heap.size < ((w.alloc (.cells #[.int .i64 x1, .int .i64 y1, .int .i64 z1] 49)).alloc (.cells #[.int .i64 x2, .int .i64 y2, .int .i64 z2] 49)).drew.heap.size := by simp; omega
  go_enter Try.func11, Try.ntmps11
  go_wp2_with fail
  go_region_held3 (fun W => W.cell? ⟨w.heap.size, 0, none⟩ = some (.int .i64 x1) ∧ W.cell? ⟨w.heap.size, 1, none⟩ = some (.int .i64 y1) ∧ W.cell? ⟨w.heap.size, 2, none⟩ = some (.int .i64 z1) ∧ W.cell? ⟨w.heap.size + 1, 0, none⟩ = some (.int .i64 x2) ∧ W.cell? ⟨w.heap.size + 1, 1, none⟩ = some (.int .i64 y2) ∧ W.cell? ⟨w.heap.size + 1, 2, none⟩ = some (.int .i64 z2)) (with_reducible exact ⟨d0, d1, d2, e0, e1, e2⟩) ((first | (go_at_call 47; refine (toState_any _ _ _ _).mono ?_; rintro e wn ⟨rfl, hb⟩; replace d0 := (hb.cell (p := ⟨w.heap.size, 0, none⟩) hy).trans d0; replace d1 := (hb.cell (p := ⟨w.heap.size, 1, none⟩) hy).trans d1; replace d2 := (hb.cell (p := ⟨w.heap.size, 2, none⟩) hy).trans d2; replace e0 := (hb.cell (p := ⟨w.heap.size + 1, 0, none⟩) hz).trans e0; replace e1 := (hb.cell (p := ⟨w.heap.size + 1, 1, none⟩) hz).trans e1; replace e2 := (hb.cell (p := ⟨w.heap.size + 1, 2, none⟩) hz).trans e2; replace hz := Nat.lt_of_lt_of_le hz hb.size; replace hy := Nat.lt_of_lt_of_le hy hb.size; replace BB := Lib.hid (below_2 BB.out hb); clear hb) | (go_at_call 48; refine (VS.out _).mono ?_; rintro e wn ⟨rfl, hb⟩; replace d0 := (hb.cell (p := ⟨w.heap.size, 0, none⟩) hy).trans d0; replace d1 := (hb.cell (p := ⟨w.heap.size, 1, none⟩) hy).trans d1; replace d2 := (hb.cell (p := ⟨w.heap.size, 2, none⟩) hy).trans d2; replace e0 := (hb.cell (p := ⟨w.heap.size + 1, 0, none⟩) hz).trans e0; replace e1 := (hb.cell (p := ⟨w.heap.size + 1, 1, none⟩) hz).trans e1; replace e2 := (hb.cell (p := ⟨w.heap.size + 1, 2, none⟩) hz).trans e2; replace hz := Nat.lt_of_lt_of_le hz hb.size; replace hy := Nat.lt_of_lt_of_le hy hb.size; replace BB := Lib.hid (below_2 BB.out hb); clear hb)))
  go_wp2_with fail
  replace d0 := (drew_cell _ _).trans d0
  replace d1 := (drew_cell _ _).trans d1
  replace d2 := (drew_cell _ _).trans d2
  replace e0 := (drew_cell _ _).trans e0
  replace e1 := (drew_cell _ _).trans e1
  replace e2 := (drew_cell _ _).trans e2
  replace BB := Lib.hid (BB.out.trans (below_drew _ _))
  go_region_held3 (fun W => W.cell? ⟨w.heap.size, 0, none⟩ = some (.int .i64 x1) ∧ W.cell? ⟨w.heap.size, 1, none⟩ = some (.int .i64 y1) ∧ W.cell? ⟨w.heap.size, 2, none⟩ = some (.int .i64 z1) ∧ W.cell? ⟨w.heap.size + 1, 0, none⟩ = some (.int .i64 x2) ∧ W.cell? ⟨w.heap.size + 1, 1, none⟩ = some (.int .i64 y2) ∧ W.cell? ⟨w.heap.size + 1, 2, none⟩ = some (.int .i64 z2)) (with_reducible exact ⟨d0, d1, d2, e0, e1, e2⟩) ((first | (go_at_call 47; refine (toState_any _ _ _ _).mono ?_; rintro e wn ⟨rfl, hb⟩; replace d0 := (hb.cell (p := ⟨w.heap.size, 0, none⟩) hy).trans d0; replace d1 := (hb.cell (p := ⟨w.heap.size, 1, none⟩) hy).trans d1; replace d2 := (hb.cell (p := ⟨w.heap.size, 2, none⟩) hy).trans d2; replace e0 := (hb.cell (p := ⟨w.heap.size + 1, 0, none⟩) hz).trans e0; replace e1 := (hb.cell (p := ⟨w.heap.size + 1, 1, none⟩) hz).trans e1; replace e2 := (hb.cell (p := ⟨w.heap.size + 1, 2, none⟩) hz).trans e2; replace hz := Nat.lt_of_lt_of_le hz hb.size; replace hy := Nat.lt_of_lt_of_le hy hb.size; replace BB := Lib.hid (below_2 BB.out hb); clear hb) | (go_at_call 49; refine (V.out _).mono ?_; rintro e wn ⟨rfl, hb⟩; replace d0 := (hb.cell (p := ⟨w.heap.size, 0, none⟩) hy).trans d0; replace d1 := (hb.cell (p := ⟨w.heap.size, 1, none⟩) hy).trans d1; replace d2 := (hb.cell (p := ⟨w.heap.size, 2, none⟩) hy).trans d2; replace e0 := (hb.cell (p := ⟨w.heap.size + 1, 0, none⟩) hz).trans e0; replace e1 := (hb.cell (p := ⟨w.heap.size + 1, 1, none⟩) hz).trans e1; replace e2 := (hb.cell (p := ⟨w.heap.size + 1, 2, none⟩) hz).trans e2; replace hz := Nat.lt_of_lt_of_le hz hb.size; replace hy := Nat.lt_of_lt_of_le hy hb.size; replace BB := Lib.hid (below_2 BB.out hb); clear hb)))
  go_wp2_with fail
  go_ret
  exact ⟨rfl, BB.out⟩

set_option maxRecDepth 100000 in
theorem lifted (os : Os) (started : os.Started) (H : Type) (enc : TypeId × Value → H) :
    ReturnsInHanded {} Try.checked os 11 .any (Rows.fnExactEvalWideSpec.pre6 enc Try.prog Try.f11 Rows.fnExactEvalWideRow.domain false) (Rows.fnExactEvalWideSpec.post enc Try.prog Try.f11 false true false false) := by
  refine returnsInHanded_of_change (C := Try.checked) own started (by kernel_rfl) Try.func11
    (ChangeSpec.witness6 (enc := enc) (C := Try.checked) false ⟨#[], #[.string ⟨#[]⟩, .agg #[.int .i64 0, .int .i64 0, .int .i64 0], .agg #[.int .i64 0, .int .i64 0, .int .i64 0]], []⟩ 8 (by kernel_rfl) (by kernel_rfl) (by kernel_rfl) (by kernel_rfl)) ?_
  intro W base args ds gs before hval0 hW hcnd _
  have hval : ∀ (j : Nat) t v, Try.f11.params[j]? = some t → args[j]? = some v → Value.okWide Try.prog W .any base t v := hval0
  have hW' := hW
  obtain ⟨p, q, hA0, hV, rfl, hfz, hnd⟩ := hW
  have hA : DataW.TrodAll enc Try.prog W 0 (fun _ => true) true Try.f11.params.toList args.toList ds p := hA0
  rw [Try.params11] at hA hval
  obtain ⟨v0, vs0, d0, ds0, p0, q0, hargs, rfl, rfl, h0, r0⟩ := trodAll_cons hA
  obtain ⟨v1, vs1, d1, ds1, p1, q1, rfl, rfl, rfl, h1, r1⟩ := trodAll_cons r0
  obtain ⟨v2, vs2, d2, ds2, p2, q2, rfl, rfl, rfl, h2, r2⟩ := trodAll_cons r1
  obtain ⟨rfl, rfl, rfl⟩ := trodAll_nil r2
  obtain rfl : args = #[v0, v1, v2] := by cases args; simp_all
  obtain ⟨rfl, rfl⟩ := trodVars_none hV
  obtain ⟨s0, rfl, rfl, rfl, ws0⟩ := open_string Try.underlying9 (hval 0 9 v0 rfl rfl) h0
  have k1 := h1
  have lt1 : ∀ x ∈ p1, x.block < W.heap.size := by obtain ⟨m, hm⟩ := k1; exact DataW.trod_lt m _ _ _ hm
  obtain ⟨x1, y1, z1, rfl⟩ : ∃ x y z : Int, v1 = .agg #[.int .i64 x, .int .i64 y, .int .i64 z] := by
    obtain ⟨ca, cb, cc, ya, yb, yc, m, hv, _, _, ha, hb, hc⟩ := open_agg3 Try.underlying49 (by kernel_rfl) (by kernel_rfl) (hval 1 49 v1 rfl rfl) h1
    obtain ⟨a, e0, _, _⟩ := DataW.trod_int Try.underlying3 ha
    obtain ⟨b, e1, _, _⟩ := DataW.trod_int Try.underlying3 hb
    obtain ⟨c, e2, _, _⟩ := DataW.trod_int Try.underlying3 hc
    simp at e0 e1 e2
    subst e0 e1 e2
    exact ⟨a, b, c, hv⟩
  have k2 := h2
  have lt2 : ∀ x ∈ p2, x.block < W.heap.size := by obtain ⟨m, hm⟩ := k2; exact DataW.trod_lt m _ _ _ hm
  obtain ⟨x2, y2, z2, rfl⟩ : ∃ x y z : Int, v2 = .agg #[.int .i64 x, .int .i64 y, .int .i64 z] := by
    obtain ⟨ca, cb, cc, ya, yb, yc, m, hv, _, _, ha, hb, hc⟩ := open_agg3 Try.underlying49 (by kernel_rfl) (by kernel_rfl) (hval 2 49 v2 rfl rfl) h2
    obtain ⟨a, e0, _, _⟩ := DataW.trod_int Try.underlying3 ha
    obtain ⟨b, e1, _, _⟩ := DataW.trod_int Try.underlying3 hb
    obtain ⟨c, e2, _, _⟩ := DataW.trod_int Try.underlying3 hc
    simp at e0 e1 e2
    subst e0 e1 e2
    exact ⟨a, b, c, hv⟩
  clear hA0 hval0
  refine (walk s0 x1 y1 z1 x2 y2 z2 W ws0).mono fun e W' ⟨he, bel⟩ => ?_
  subst he
  exact ⟨_, rfl, _, _, _, [], _, [], hW', trodAll_mk1 (shut_bool Try.underlying4 _), (trodAll_cons_mk (shut_string Try.underlying9 ws0) (trodAll_cons_mk (Below.trod laidOut (by kernel_rfl) (of_decide_eq_true (by kernel_rfl)) k1 bel lt1) (trodAll_cons_mk (Below.trod laidOut (by kernel_rfl) (of_decide_eq_true (by kernel_rfl)) k2 bel lt2) trodAll_mk0))), rfl, bel.frame _, fun h => by cases h⟩

theorem over : Rows.fnExactEvalWideRow.holds Try.pinned (OpenSpec.ofChange Rows.fnExactEvalWideSpec) :=
  OpenClaim.holds_of_wide 11 Try.f11 rfl rfl rfl rfl rfl rfl rfl ⟨rfl, rfl, rfl, rfl, rfl⟩ rfl rfl rfl rfl rfl (by kernel_rfl) Try.func11 (by kernel_rfl)
    (of_decide_eq_true (by kernel_rfl)) (by unfold Func.isWrapper; first | (rw [if_pos (by decide +kernel)]; kernel_rfl) | (rw [if_neg (by decide +kernel)]; exact ⟨rfl, rfl⟩))
    (fun os started H enc _ => lifted os started H enc)

/-- the statement -/
theorem proved : Rows.FnExactEvalWideSaid := over
#print axioms proved
end Go.Proofs.Ytcdcgllodggebaa.fnExactEvalWide
