/- The program's parse and what is built on it: the node of a whole text, or nil. -/
import Derived.Test.YtndlhdmpfnadcaaGreatDoorRd
import Derived.Test.YtndlhdmpfnadcaaGreatDoorGa
namespace Go.Proofs.YtndlhdmpfnadcaaGreatDoor
open Go.RowKit
open Pl

def ParsePost (w : World) (o : Option Nd) (e : Ending) (w' : World) : Prop :=
  Below w.heap.size w w' ∧ match o with
  | none => e = .returned (.pointer none)
  | some k => ∃ b, e = .returned (.pointer (some ⟨b, 0, none⟩)) ∧ In w' k b
def full (o : Option (Nd × List UInt8)) : Option Nd :=
  match o with
  | some (k, []) => some k
  | _ => none
theorem parsePost_none {w w' : World} {o : Option Nd} {e : Ending} (ho : o = none) (he : e = .returned (.pointer none)) (hb : Below w.heap.size w w') : ParsePost w o e w' := by
  subst ho; exact ⟨hb, he⟩


end Go.Proofs.YtndlhdmpfnadcaaGreatDoor
