/- The laws' small words: ppValue, ppTrue, ppGet; the variables of texts. -/
import Derived.Test.YtccjmahhebiphaaDoorSv
import Derived.Test.YtccjmahhebiphaaDoorGa
import Derived.Test.YtccjmahhebiphaaDoorGc
namespace Go.Proofs.YtccjmahhebiphaaDoor
open Go.RowKit
open Pl

theorem box3 (w : World) (x y z : Int) (t : TypeId) : (w.alloc (.cells #[.int .i64 x, .int .i64 y, .int .i64 z] t)).cell? ⟨w.heap.size, 0, none⟩ = some (.int .i64 x) ∧ (w.alloc (.cells #[.int .i64 x, .int .i64 y, .int .i64 z] t)).cell? ⟨w.heap.size, 1, none⟩ = some (.int .i64 y) ∧ (w.alloc (.cells #[.int .i64 x, .int .i64 y, .int .i64 z] t)).cell? ⟨w.heap.size, 2, none⟩ = some (.int .i64 z) := by
  refine ⟨?_, ?_, ?_⟩ <;> simp
set_option maxHeartbeats 1000000 in
theorem ppValue_any (S : ByteArray) (hS : S.size ≤ 1000000000000) (x y z : Int) (w : World) : Calls Tryd.prog 33 #[.string S, .agg #[.int .i64 x, .int .i64 y, .int .i64 z]] w fun e w' =>
    (e = .returned (.int .i64 (evV (whole false 0 200 S.data.toList) (stB x y z) (envOf x y z 0 0 0))) ∧ Below w.heap.size w w') := by
  have E := Lib.hid (fun w => EvalExpr_any S hS x y z w)
  have B0 := Lib.hid (below_n w (.cells #[.int .i64 x, .int .i64 y, .int .i64 z] 42))
  clear hS
  go_enter Tryd.func33, Tryd.ntmps33
  go_wp2_with fail
  refine (E.out _).mono ?_
  rintro e w1 ⟨rfl, hb1⟩
  have B1 := Lib.hid (below_2 B0.out hb1)
  clear hb1
  go_wp2_with fail
  go_ret
  exact ⟨rfl, B1.out⟩
set_option maxHeartbeats 1000000 in
theorem ppTrue_any (S : ByteArray) (hS : S.size ≤ 1000000000000) (x y z : Int) (w : World) : Calls Tryd.prog 41 #[.string S, .agg #[.int .i64 x, .int .i64 y, .int .i64 z]] w fun e w' =>
    (e = .returned (.bool (evT (whole false 1 200 S.data.toList) (stB x y z) (envOf x y z 0 0 0))) ∧ Below w.heap.size w w') := by
  have E := Lib.hid (fun w => EvalTest_any S hS x y z w)
  have B0 := Lib.hid (below_n w (.cells #[.int .i64 x, .int .i64 y, .int .i64 z] 42))
  clear hS
  go_enter Tryd.func41, Tryd.ntmps41
  go_wp2_with fail
  refine (E.out _).mono ?_
  rintro e w1 ⟨rfl, hb1⟩
  have B1 := Lib.hid (below_2 B0.out hb1)
  clear hb1
  go_wp2_with fail
  go_ret
  exact ⟨rfl, B1.out⟩
theorem whole_var {c : UInt8} (hc : c ∈ nmsN) : whole false 0 200 [c] = some (.n0 c) := by
  have h : isV false c = true := mem_nms.1 hc
  exact whole_text (k := .n0 c) (by simp [ok, h]) (by simp [Nd.text])
theorem val_var {c : UInt8} (hc : c ∈ nmsN) (ρ : UInt8 → Int) : val ρ (.n0 c) = ρ c := by
  obtain ⟨_, h, _⟩ := isV_not (mem_nms.1 hc)
  simp [val, h]
set_option maxHeartbeats 1000000 in
theorem ppGet_any (c : UInt8) (hc : c ∈ nmsN) (x y z : Int) (w : World) : Calls Tryd.prog 46 #[.agg #[.int .i64 x, .int .i64 y, .int .i64 z], .string ⟨#[c]⟩] w fun e w' =>
    (e = .returned (.int .i64 (if stB x y z then envOf x y z 0 0 0 c else 0)) ∧ Below w.heap.size w w') := by
  have E := Lib.hid (fun w => ppValue_any ⟨#[c]⟩ (by rw [size_one]; omega) x y z w)
  have hv : evV (whole false 0 200 (⟨#[c]⟩ : ByteArray).data.toList) (stB x y z) (envOf x y z 0 0 0) = if stB x y z then envOf x y z 0 0 0 c else 0 := by
    rw [show (⟨#[c]⟩ : ByteArray).data.toList = [c] from rfl, whole_var hc]
    simp only [evV, val_var hc]
  rw [hv] at E
  obtain ⟨v, hv2⟩ : ∃ v, (if stB x y z then envOf x y z 0 0 0 c else 0) = v := ⟨_, rfl⟩
  rw [hv2] at E ⊢
  have B0 := Lib.hid (below_n w (.cells #[.int .i64 x, .int .i64 y, .int .i64 z] 42))
  clear hv hv2 hc
  go_enter Tryd.func46, Tryd.ntmps46
  go_wp2_with fail
  refine (E.out _).mono ?_
  rintro e w1 ⟨rfl, hb1⟩
  have B1 := Lib.hid (below_2 B0.out hb1)
  clear hb1
  go_wp2_with fail
  go_ret
  exact ⟨rfl, B1.out⟩
/-- the variables of a valid text -/
def vsExpr (l : List UInt8) : List UInt8 := if (whole false 0 200 l).isSome then vars nmsN l else []
/-- the variables of a valid text -/
def vsTest (l : List UInt8) : List UInt8 := if (whole false 1 200 l).isSome then vars nmsN l else []
set_option maxHeartbeats 1000000 in
theorem TestVars_any (S : ByteArray) (hS : S.size ≤ 1000000000000) (w : World) : Calls Tryd.prog 42 #[.string S] w fun e w' => (e = .returned (str (vsTest S.data.toList)) ∧ Below w.heap.size w w') := by
  have V := Lib.hid (fun w => TestValid_any S hS w)
  unfold vsTest
  cases ho : (whole false 1 200 S.data.toList).isSome
  all_goals
    rw [ho] at V
    clear ho hS
    go_enter Tryd.func42, Tryd.ntmps42
    go_wp2_with fail
    refine (V.out _).mono ?_
    rintro e w1 ⟨rfl, hb1⟩
    have B1 := Lib.hid hb1
    clear hb1 V
    go_wp2_with fail
  · go_ret
    exact ⟨rfl, B1.out⟩
  · refine (lettersIn_any S _).mono ?_
    rintro e w2 ⟨rfl, hb2⟩
    have B2 := Lib.hid (below_2 B1.out hb2)
    clear hb2
    go_wp2_with fail
    go_ret
    exact ⟨rfl, B2.out⟩

end Go.Proofs.YtccjmahhebiphaaDoor
