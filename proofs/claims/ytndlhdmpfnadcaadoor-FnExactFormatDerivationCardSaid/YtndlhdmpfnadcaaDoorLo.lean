/- Lines: LineValid. -/
import Derived.Test.YtndlhdmpfnadcaaDoorLn
import Derived.Test.YtndlhdmpfnadcaaDoorRx
import Derived.Test.YtndlhdmpfnadcaaDoorRz
import Derived.Test.YtndlhdmpfnadcaaDoorHd
import Derived.Test.YtndlhdmpfnadcaaDoorPar
namespace Go.Proofs.YtndlhdmpfnadcaaDoor
open Go.RowKit
open Pl
set_option linter.unusedVariables false

theorem purB {w w' : World} (h : w = w') : Below w.heap.size w w' := by subst h; exact Below.refl _ _
theorem drwB {w w' : World} (h : ∃ m, w' = w.drewN m) : Below w.heap.size w w' := by obtain ⟨m, rfl⟩ := h; exact below_drewN _ _ _
theorem Sit.box6 {w W : World} {l : List (Addr × Value)} {a b c d e f : Value} (H : Sit w W l) (t : TypeId) : Sit w (W.alloc (.cells #[a, b, c, d, e, f] t)) ((⟨W.heap.size, 0, none⟩, a) :: (⟨W.heap.size, 1, none⟩, b) :: (⟨W.heap.size, 2, none⟩, c) :: (⟨W.heap.size, 3, none⟩, d) :: (⟨W.heap.size, 4, none⟩, e) :: (⟨W.heap.size, 5, none⟩, f) :: l) := by
  have N := H.new #[a, b, c, d, e, f] t
  have hlt := N.blk.lt
  exact ((((((H.alloc _).more (p := ⟨_, 5, none⟩) hlt (N.blk.cell 5)).more (p := ⟨_, 4, none⟩) hlt (N.blk.cell 4)).more (p := ⟨_, 3, none⟩) hlt (N.blk.cell 3)).more (p := ⟨_, 2, none⟩) hlt (N.blk.cell 2)).more (p := ⟨_, 1, none⟩) hlt (N.blk.cell 1)).more (p := ⟨_, 0, none⟩) hlt (N.blk.cell 0)
def wpB (P : ByteArray) : Bool := (whole false 2 200 P.data.toList).isSome
/-- a line's validity -/
def lnV (R A P Q B : ByteArray) (n : Nat) : Bool := rfN R == (n : Int) && (bOk 729 A.data.toList && (bOk 729 B.data.toList && (wpB P && wpB Q)))
end Go.Proofs.YtndlhdmpfnadcaaDoor
