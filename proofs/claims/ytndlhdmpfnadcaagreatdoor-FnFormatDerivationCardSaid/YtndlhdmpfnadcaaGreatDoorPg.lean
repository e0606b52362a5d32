/- What the program says of programs: size, loops, plainness, what is read and written. -/
import Derived.Test.YtndlhdmpfnadcaaGreatDoorGy
import Derived.Test.YtndlhdmpfnadcaaGreatDoorPar
import Derived.Test.YtndlhdmpfnadcaaGreatDoorVr
import Derived.StillTailTactics
namespace Go.Proofs.YtndlhdmpfnadcaaGreatDoor
open Go.RowKit
open Pl

def oI (o : Option Nd) (f : Nd → Nat) : Int :=
  match o with
  | some k => f k
  | none => -1
def oL (o : Option Nd) (f : Nd → List UInt8) : List UInt8 :=
  match o with
  | some k => f k
  | none => []
/-- the first letter is one of some -/
def inO (O : ByteArray) (c : UInt8) : Bool := decide (0 ≤ fnd O.data.toList c)
def oB (o : Option Nd) (f : Nd → Bool) : Bool :=
  match o with
  | some k => f k
  | none => false

end Go.Proofs.YtndlhdmpfnadcaaGreatDoor
