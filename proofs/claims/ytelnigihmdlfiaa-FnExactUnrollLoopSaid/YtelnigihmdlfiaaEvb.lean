/- Values of states side by side; what an expression, a test, a wide test is in states: the program's and the reference's. -/
import Derived.Test.YtelnigihmdlfiaaEva
namespace Go.Proofs.Ytelnigihmdlfiaa
open Go.RowKit
open Pl

set_option maxHeartbeats 1000000 in
theorem envOf_any (x y z X Y Z : Int) (w : World) : Calls Try.prog 60 #[.agg #[.int .i64 x, .int .i64 y, .int .i64 z], .agg #[.int .i64 X, .int .i64 Y, .int .i64 Z]] w fun e w' =>
    (e = .returned (.agg #[.int .i64 x, .int .i64 y, .int .i64 z, .int .i64 X, .int .i64 Y, .int .i64 Z]) ∧ Below w.heap.size w w') := by
  go_enter Try.func60, Try.ntmps60
  go_wp2_with fail
  exact bodyPost_ret (v := .agg #[.int .i64 x, .int .i64 y, .int .i64 z, .int .i64 X, .int .i64 Y, .int .i64 Z]) (by simp [results, Try.results60, go_sem]) rfl
    ⟨rfl, (((Below.refl _ _).alloc (Nat.le_refl _) _).alloc (by simp) _).alloc (by simp; omega) _⟩
set_option maxHeartbeats 1000000 in
theorem one_any (x y z : Int) (w : World) : Calls Try.prog 85 #[.agg #[.int .i64 x, .int .i64 y, .int .i64 z]] w fun e w' =>
    (e = .returned (.agg #[.int .i64 x, .int .i64 y, .int .i64 z, .int .i64 0, .int .i64 0, .int .i64 0]) ∧ Below w.heap.size w w') := by
  go_enter Try.func85, Try.ntmps85
  go_wp2_with fail
  exact bodyPost_ret (v := .agg #[.int .i64 x, .int .i64 y, .int .i64 z, .int .i64 0, .int .i64 0, .int .i64 0]) (by simp [results, Try.results85, go_sem]) rfl
    ⟨rfl, ((Below.refl _ _).alloc (Nat.le_refl _) _).alloc (by simp) _⟩
set_option maxHeartbeats 1000000 in
theorem env6_any (x y z X Y Z : Int) (w : World) : Calls Try.prog 91 #[.agg #[.int .i64 x, .int .i64 y, .int .i64 z], .agg #[.int .i64 X, .int .i64 Y, .int .i64 Z]] w fun e w' =>
    (e = .returned (.agg #[.int .i64 x, .int .i64 y, .int .i64 z, .int .i64 X, .int .i64 Y, .int .i64 Z]) ∧ Below w.heap.size w w') := by
  go_enter Try.func91, Try.ntmps91
  go_wp2_with fail
  exact bodyPost_ret (v := .agg #[.int .i64 x, .int .i64 y, .int .i64 z, .int .i64 X, .int .i64 Y, .int .i64 Z]) (by simp [results, Try.results91, go_sem]) rfl
    ⟨rfl, (((Below.refl _ _).alloc (Nat.le_refl _) _).alloc (by simp) _).alloc (by simp; omega) _⟩

end Go.Proofs.Ytelnigihmdlfiaa
