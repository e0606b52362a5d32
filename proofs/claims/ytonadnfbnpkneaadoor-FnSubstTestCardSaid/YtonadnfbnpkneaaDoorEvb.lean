/- Values of states side by side; what an expression, a test, a wide test is in states: the program's and the reference's. -/
import Derived.Test.YtonadnfbnpkneaaDoorEva
namespace Go.Proofs.YtonadnfbnpkneaaDoor
open Go.RowKit
open Pl

set_option maxHeartbeats 1000000 in
theorem envOf_any (x y z X Y Z : Int) (w : World) : Calls Tryd.prog 45 #[.agg #[.int .i64 x, .int .i64 y, .int .i64 z], .agg #[.int .i64 X, .int .i64 Y, .int .i64 Z]] w fun e w' =>
    (e = .returned (.agg #[.int .i64 x, .int .i64 y, .int .i64 z, .int .i64 X, .int .i64 Y, .int .i64 Z]) ∧ Below w.heap.size w w') := by
  go_enter Tryd.func45, Tryd.ntmps45
  go_wp2_with fail
  exact bodyPost_ret (v := .agg #[.int .i64 x, .int .i64 y, .int .i64 z, .int .i64 X, .int .i64 Y, .int .i64 Z]) (by simp [results, Tryd.results45, go_sem]) rfl
    ⟨rfl, (((Below.refl _ _).alloc (Nat.le_refl _) _).alloc (by simp) _).alloc (by simp; omega) _⟩

end Go.Proofs.YtonadnfbnpkneaaDoor
