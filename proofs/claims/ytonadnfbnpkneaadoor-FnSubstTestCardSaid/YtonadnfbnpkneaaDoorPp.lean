/- The laws' small words: ppValue, ppTrue, ppGet; the variables of texts. -/
import Derived.Test.YtonadnfbnpkneaaDoorSv
import Derived.Test.YtonadnfbnpkneaaDoorPlf
import Derived.Test.YtonadnfbnpkneaaDoorDrb
namespace Go.Proofs.YtonadnfbnpkneaaDoor
open Go.RowKit
open Pl

theorem box3 (w : World) (x y z : Int) (t : TypeId) : (w.alloc (.cells #[.int .i64 x, .int .i64 y, .int .i64 z] t)).cell? ⟨w.heap.size, 0, none⟩ = some (.int .i64 x) ∧ (w.alloc (.cells #[.int .i64 x, .int .i64 y, .int .i64 z] t)).cell? ⟨w.heap.size, 1, none⟩ = some (.int .i64 y) ∧ (w.alloc (.cells #[.int .i64 x, .int .i64 y, .int .i64 z] t)).cell? ⟨w.heap.size, 2, none⟩ = some (.int .i64 z) := by
  refine ⟨?_, ?_, ?_⟩ <;> simp
set_option maxHeartbeats 1000000 in
theorem ppValue_any (S : ByteArray) (hS : S.size ≤ 1000000000000) (x y z : Int) (w : World) : Calls Tryd.prog 10 #[.string S, .agg #[.int .i64 x, .int .i64 y, .int .i64 z]] w fun e w' =>
    (e = .returned (.int .i64 (evV (whole false 0 200 S.data.toList) (stB x y z) (envOf x y z 0 0 0))) ∧ Below w.heap.size w w') := by
  have E := Lib.hid (fun w => EvalExpr_any S hS x y z w)
  have B0 := Lib.hid (below_n w (.cells #[.int .i64 x, .int .i64 y, .int .i64 z] 30))
  clear hS
  go_enter Tryd.func10, Tryd.ntmps10
  go_wp2_with fail
  refine (E.out _).mono ?_
  rintro e w1 ⟨rfl, hb1⟩
  have B1 := Lib.hid (below_2 B0.out hb1)
  clear hb1
  go_wp2_with fail
  go_ret
  exact ⟨rfl, B1.out⟩
set_option maxHeartbeats 1000000 in
theorem ppTrue_any (S : ByteArray) (hS : S.size ≤ 1000000000000) (x y z : Int) (w : World) : Calls Tryd.prog 17 #[.string S, .agg #[.int .i64 x, .int .i64 y, .int .i64 z]] w fun e w' =>
    (e = .returned (.bool (evT (whole false 1 200 S.data.toList) (stB x y z) (envOf x y z 0 0 0))) ∧ Below w.heap.size w w') := by
  have E := Lib.hid (fun w => EvalTest_any S hS x y z w)
  have B0 := Lib.hid (below_n w (.cells #[.int .i64 x, .int .i64 y, .int .i64 z] 30))
  clear hS
  go_enter Tryd.func17, Tryd.ntmps17
  go_wp2_with fail
  refine (E.out _).mono ?_
  rintro e w1 ⟨rfl, hb1⟩
  have B1 := Lib.hid (below_2 B0.out hb1)
  clear hb1
  go_wp2_with fail
  go_ret
  exact ⟨rfl, B1.out⟩
/-- the variables of a valid text -/
def vsExpr (l : List UInt8) : List UInt8 := if (whole false 0 200 l).isSome then vars nmsN l else []
set_option maxHeartbeats 1000000 in
theorem ExprVars_any (S : ByteArray) (hS : S.size ≤ 1000000000000) (w : World) : Calls Tryd.prog 13 #[.string S] w fun e w' => (e = .returned (str (vsExpr S.data.toList)) ∧ Below w.heap.size w w') := by
  have V := Lib.hid (fun w => ExprValid_any S hS w)
  unfold vsExpr
  cases ho : (whole false 0 200 S.data.toList).isSome
  all_goals
    rw [ho] at V
    clear ho hS
    go_enter Tryd.func13, Tryd.ntmps13
    go_wp2_with fail
    refine (V.out _).mono ?_
    rintro e w1 ⟨rfl, hb1⟩
    have B1 := Lib.hid hb1
    clear hb1 V
    go_wp2_with fail
  · go_ret
    exact ⟨rfl, B1.out⟩
  · refine (lettersIn_any S _).mono ?_
    rintro e w2 ⟨rfl, hb2⟩
    have B2 := Lib.hid (below_2 B1.out hb2)
    clear hb2
    go_wp2_with fail
    go_ret
    exact ⟨rfl, B2.out⟩
/-- the variables of a valid text -/
def vsTest (l : List UInt8) : List UInt8 := if (whole false 1 200 l).isSome then vars nmsN l else []
set_option maxHeartbeats 1000000 in
theorem TestVars_any (S : ByteArray) (hS : S.size ≤ 1000000000000) (w : World) : Calls Tryd.prog 19 #[.string S] w fun e w' => (e = .returned (str (vsTest S.data.toList)) ∧ Below w.heap.size w w') := by
  have V := Lib.hid (fun w => TestValid_any S hS w)
  unfold vsTest
  cases ho : (whole false 1 200 S.data.toList).isSome
  all_goals
    rw [ho] at V
    clear ho hS
    go_enter Tryd.func19, Tryd.ntmps19
    go_wp2_with fail
    refine (V.out _).mono ?_
    rintro e w1 ⟨rfl, hb1⟩
    have B1 := Lib.hid hb1
    clear hb1 V
    go_wp2_with fail
  · go_ret
    exact ⟨rfl, B1.out⟩
  · refine (lettersIn_any S _).mono ?_
    rintro e w2 ⟨rfl, hb2⟩
    have B2 := Lib.hid (below_2 B1.out hb2)
    clear hb2
    go_wp2_with fail
    go_ret
    exact ⟨rfl, B2.out⟩

end Go.Proofs.YtonadnfbnpkneaaDoor
