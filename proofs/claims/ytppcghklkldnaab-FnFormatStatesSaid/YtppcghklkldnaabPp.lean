/- The laws' small words: ppValue, ppTrue, ppGet; the variables of texts. -/
import Derived.Test.YtppcghklkldnaabSv
import Derived.Test.YtppcghklkldnaabPlf
import Derived.Test.YtppcghklkldnaabDrb
namespace Go.Proofs.Ytppcghklkldnaab
open Go.RowKit
open Pl

theorem box3 (w : World) (x y z : Int) (t : TypeId) : (w.alloc (.cells #[.int .i64 x, .int .i64 y, .int .i64 z] t)).cell? ⟨w.heap.size, 0, none⟩ = some (.int .i64 x) ∧ (w.alloc (.cells #[.int .i64 x, .int .i64 y, .int .i64 z] t)).cell? ⟨w.heap.size, 1, none⟩ = some (.int .i64 y) ∧ (w.alloc (.cells #[.int .i64 x, .int .i64 y, .int .i64 z] t)).cell? ⟨w.heap.size, 2, none⟩ = some (.int .i64 z) := by
  refine ⟨?_, ?_, ?_⟩ <;> simp
/-- the variables of a valid text -/
def vsExpr (l : List UInt8) : List UInt8 := if (whole false 0 200 l).isSome then vars nmsN l else []
/-- the variables of a valid text -/
def vsTest (l : List UInt8) : List UInt8 := if (whole false 1 200 l).isSome then vars nmsN l else []
set_option maxHeartbeats 1000000 in
theorem TestVars_any (S : ByteArray) (hS : S.size ≤ 1000000000000) (w : World) : Calls Try.prog 39 #[.string S] w fun e w' => (e = .returned (str (vsTest S.data.toList)) ∧ Below w.heap.size w w') := by
  have V := Lib.hid (fun w => TestValid_any S hS w)
  unfold vsTest
  cases ho : (whole false 1 200 S.data.toList).isSome
  all_goals
    rw [ho] at V
    clear ho hS
    go_enter Try.func39, Try.ntmps39
    go_wp2_with fail
    refine (V.out _).mono ?_
    rintro e w1 ⟨rfl, hb1⟩
    have B1 := Lib.hid hb1
    clear hb1 V
    go_wp2_with fail
  · go_ret
    exact ⟨rfl, B1.out⟩
  · refine (lettersIn_any S _).mono ?_
    rintro e w2 ⟨rfl, hb2⟩
    have B2 := Lib.hid (below_2 B1.out hb2)
    clear hb2
    go_wp2_with fail
    go_ret
    exact ⟨rfl, B2.out⟩

end Go.Proofs.Ytppcghklkldnaab
