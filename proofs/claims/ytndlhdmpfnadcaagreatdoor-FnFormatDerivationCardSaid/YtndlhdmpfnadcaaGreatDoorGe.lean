/- XGe: XEva XEvb XEvc XEvd put together. -/
import Derived.Test.YtndlhdmpfnadcaaGreatDoorGc
import Derived.Test.YtndlhdmpfnadcaaGreatDoorSpb
import Derived.Test.YtndlhdmpfnadcaaGreatDoorPar
import Derived.Test.YtndlhdmpfnadcaaGreatDoorLwa
import Derived.Test.YtndlhdmpfnadcaaGreatDoorGb
/- States: which are valid; their values laid side by side. -/
namespace Go.Proofs.YtndlhdmpfnadcaaGreatDoor
open Go.RowKit
open Pl

/-- a value of a variable -/
def inB (n : Int) : Bool := decide (0 ≤ n) && decide (n ≤ 2)
theorem inB_small {n : Int} : inB n = true ↔ small n := by simp [inB, small]
theorem inB_no {n : Int} (h : inB n = false) : n < 0 ∨ 2 < n := by
  unfold inB at h
  simp at h
  omega
def stB (x y z : Int) : Bool := inB x && (inB y && inB z)


end Go.Proofs.YtndlhdmpfnadcaaGreatDoor

/- Values of states side by side; what an expression, a test, a wide test is in states: the program's and the reference's. -/
namespace Go.Proofs.YtndlhdmpfnadcaaGreatDoor
open Go.RowKit
open Pl

set_option maxHeartbeats 1000000 in
theorem one_any (x y z : Int) (w : World) : Calls Tryz.prog 93 #[.agg #[.int .i64 x, .int .i64 y, .int .i64 z]] w fun e w' =>
    (e = .returned (.agg #[.int .i64 x, .int .i64 y, .int .i64 z, .int .i64 0, .int .i64 0, .int .i64 0]) ∧ Below w.heap.size w w') := by
  go_enter Tryz.func93, Tryz.ntmps93
  go_wp2_with fail
  exact bodyPost_ret (v := .agg #[.int .i64 x, .int .i64 y, .int .i64 z, .int .i64 0, .int .i64 0, .int .i64 0]) (by simp [results, Tryz.results93, go_sem]) rfl
    ⟨rfl, ((Below.refl _ _).alloc (Nat.le_refl _) _).alloc (by simp) _⟩
set_option maxHeartbeats 1000000 in
theorem env6_any (x y z X Y Z : Int) (w : World) : Calls Tryz.prog 60 #[.agg #[.int .i64 x, .int .i64 y, .int .i64 z], .agg #[.int .i64 X, .int .i64 Y, .int .i64 Z]] w fun e w' =>
    (e = .returned (.agg #[.int .i64 x, .int .i64 y, .int .i64 z, .int .i64 X, .int .i64 Y, .int .i64 Z]) ∧ Below w.heap.size w w') := by
  go_enter Tryz.func60, Tryz.ntmps60
  go_wp2_with fail
  exact bodyPost_ret (v := .agg #[.int .i64 x, .int .i64 y, .int .i64 z, .int .i64 X, .int .i64 Y, .int .i64 Z]) (by simp [results, Tryz.results60, go_sem]) rfl
    ⟨rfl, (((Below.refl _ _).alloc (Nat.le_refl _) _).alloc (by simp) _).alloc (by simp; omega) _⟩

end Go.Proofs.YtndlhdmpfnadcaaGreatDoor

/- EvalExpr, EvalTest, EvalWide of the program. -/
namespace Go.Proofs.YtndlhdmpfnadcaaGreatDoor
open Go.RowKit
open Pl

def evT (o : Option Nd) (v : Bool) (ρ : UInt8 → Int) : Bool :=
  match o with
  | some k => v && tru ρ k
  | none => false
def evV (o : Option Nd) (v : Bool) (ρ : UInt8 → Int) : Int :=
  match o with
  | some k => if v then val ρ k else 0
  | none => 0
def evO (o : Option Nd) (v : Bool) : Bool := o.isSome && v
theorem stB_small {x y z : Int} (h : stB x y z = true) : small x ∧ small y ∧ small z := by
  simp only [stB, Bool.and_eq_true] at h
  exact ⟨inB_small.1 h.1, inB_small.1 h.2.1, inB_small.1 h.2.2⟩



end Go.Proofs.YtndlhdmpfnadcaaGreatDoor

/- EvalWide of the program; EvalTest, EvalExpr, EvalWide of the reference. -/
namespace Go.Proofs.YtndlhdmpfnadcaaGreatDoor
open Go.RowKit
open Pl


end Go.Proofs.YtndlhdmpfnadcaaGreatDoor
