/- The letters of variables that occur in a text: the program's by strings.Contains, the reference's by its own search. -/
import Derived.Test.YtndlhdmpfnadcaaGreatDoorLwa
import Derived.Test.YtndlhdmpfnadcaaGreatDoorGa
import Derived.Lib.Bytealg
import Derived.Lib.Walk
import Derived.BigCall
import Derived.BigGuard
namespace Go.Proofs.YtndlhdmpfnadcaaGreatDoor
open Go.RowKit
open Pl

theorem indexByte_fnd (c : UInt8) : ∀ l : List UInt8, Lib.indexByte l c = fnd l c
  | [] => rfl
  | x :: r => by
    have h := indexByte_fnd c r
    have := fnd_range c r
    simp only [Lib.indexByte, fnd, h]
    by_cases e : x = c
    · simp [e]
    · by_cases h2 : fnd r c < 0
      · have h3 : fnd r c = -1 := by omega
        simp [e, h3]
      · have h3 : ¬ fnd r c = -1 := by omega
        simp [e, h2, h3]
theorem below_n' (w : World) (o : Obj) : Below w.heap.size w (w.alloc o) := (Below.refl _ _).alloc (Nat.le_refl _) o
theorem beq_bytes {a b : ByteArray} (h : a.data.toList ≠ b.data.toList) : (a.toList == b.toList) = false := by
  rw [ByteArray.toList_eq, ByteArray.toList_eq]; simpa using h

end Go.Proofs.YtndlhdmpfnadcaaGreatDoor
