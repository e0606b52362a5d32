/- The laws' small words: ppValue, ppTrue, ppGet; the variables of texts. -/
import Derived.Test.YtndlhdmpfnadcaaDoorSv
import Derived.Test.YtndlhdmpfnadcaaDoorGa
import Derived.Test.YtndlhdmpfnadcaaDoorGc
namespace Go.Proofs.YtndlhdmpfnadcaaDoor
open Go.RowKit
open Pl

theorem box3 (w : World) (x y z : Int) (t : TypeId) : (w.alloc (.cells #[.int .i64 x, .int .i64 y, .int .i64 z] t)).cell? ⟨w.heap.size, 0, none⟩ = some (.int .i64 x) ∧ (w.alloc (.cells #[.int .i64 x, .int .i64 y, .int .i64 z] t)).cell? ⟨w.heap.size, 1, none⟩ = some (.int .i64 y) ∧ (w.alloc (.cells #[.int .i64 x, .int .i64 y, .int .i64 z] t)).cell? ⟨w.heap.size, 2, none⟩ = some (.int .i64 z) := by
  refine ⟨?_, ?_, ?_⟩ <;> simp
/-- the variables of a valid text -/
def vsExpr (l : List UInt8) : List UInt8 := if (whole false 0 200 l).isSome then vars nmsN l else []
/-- the variables of a valid text -/
def vsTest (l : List UInt8) : List UInt8 := if (whole false 1 200 l).isSome then vars nmsN l else []

end Go.Proofs.YtndlhdmpfnadcaaDoor
