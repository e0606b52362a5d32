/- XGe: XEva XEvb XEvc XEvd put together. -/
import Derived.Test.YtndlhdmpfnadcaaDoorGc
import Derived.Test.YtndlhdmpfnadcaaDoorSpb
import Derived.Test.YtndlhdmpfnadcaaDoorPar
import Derived.Test.YtndlhdmpfnadcaaDoorLwa
import Derived.Test.YtndlhdmpfnadcaaDoorGb
/- States: which are valid; their values laid side by side. -/
namespace Go.Proofs.YtndlhdmpfnadcaaDoor
open Go.RowKit
open Pl

/-- a value of a variable -/
def inB (n : Int) : Bool := decide (0 ≤ n) && decide (n ≤ 2)
theorem inB_small {n : Int} : inB n = true ↔ small n := by simp [inB, small]
theorem inB_no {n : Int} (h : inB n = false) : n < 0 ∨ 2 < n := by
  unfold inB at h
  simp at h
  omega
def stB (x y z : Int) : Bool := inB x && (inB y && inB z)


end Go.Proofs.YtndlhdmpfnadcaaDoor

/- Values of states side by side; what an expression, a test, a wide test is in states: the program's and the reference's. -/
namespace Go.Proofs.YtndlhdmpfnadcaaDoor
open Go.RowKit
open Pl


end Go.Proofs.YtndlhdmpfnadcaaDoor

/- EvalExpr, EvalTest, EvalWide of the program. -/
namespace Go.Proofs.YtndlhdmpfnadcaaDoor
open Go.RowKit
open Pl

def evT (o : Option Nd) (v : Bool) (ρ : UInt8 → Int) : Bool :=
  match o with
  | some k => v && tru ρ k
  | none => false
def evV (o : Option Nd) (v : Bool) (ρ : UInt8 → Int) : Int :=
  match o with
  | some k => if v then val ρ k else 0
  | none => 0
def evO (o : Option Nd) (v : Bool) : Bool := o.isSome && v
theorem stB_small {x y z : Int} (h : stB x y z = true) : small x ∧ small y ∧ small z := by
  simp only [stB, Bool.and_eq_true] at h
  exact ⟨inB_small.1 h.1, inB_small.1 h.2.1, inB_small.1 h.2.2⟩



end Go.Proofs.YtndlhdmpfnadcaaDoor

/- EvalWide of the program; EvalTest, EvalExpr, EvalWide of the reference. -/
namespace Go.Proofs.YtndlhdmpfnadcaaDoor
open Go.RowKit
open Pl


end Go.Proofs.YtndlhdmpfnadcaaDoor
