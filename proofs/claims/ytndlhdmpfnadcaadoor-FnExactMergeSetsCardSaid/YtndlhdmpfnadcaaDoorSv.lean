/- Another value of a variable: the program's SetVar and the reference's. -/
import Derived.Test.YtndlhdmpfnadcaaDoorVr
import Derived.Test.YtndlhdmpfnadcaaDoorGb
import Derived.Test.YtndlhdmpfnadcaaDoorGe
namespace Go.Proofs.YtndlhdmpfnadcaaDoor
open Go.RowKit
open Pl

/-- the letter of a variable -/
def varOf (l : List UInt8) : Option UInt8 :=
  match l with
  | [c] => if c ∈ nmsN then some c else none
  | _ => none
theorem varOf_some {l : List UInt8} {c : UInt8} (h : varOf l = some c) : l = [c] ∧ c ∈ nmsN := by
  unfold varOf at h
  split at h
  · split at h
    · injection h with h; subst h; exact ⟨rfl, by assumption⟩
    · cases h
  · cases h
theorem varOf_one {c : UInt8} (h : c ∈ nmsN) : varOf [c] = some c := by simp [varOf, h]
theorem varOf_ne {l : List UInt8} (h : varOf l = none) {c : UInt8} (hc : c ∈ nmsN) : l ≠ [c] := by
  rintro rfl
  rw [varOf_one hc] at h; cases h
theorem nms_cases {c : UInt8} (h : c ∈ nmsN) : c = 120 ∨ c = 121 ∨ c = 122 := by simpa [nmsN] using h
theorem bytes_of {V : ByteArray} {l : List UInt8} (h : V.data.toList = l) : V = ⟨l.toArray⟩ := by
  apply ByteArray.ext; apply Array.toList_inj.1; rw [h]
theorem list_beq {V : ByteArray} {l : List UInt8} (h : V.data.toList ≠ l) : (V.toList == l) = false ∧ (l == V.toList) = false := by
  rw [ByteArray.toList_eq]; exact ⟨by simpa using h, by simpa using fun e => h e.symm⟩
/-- a value of the state that SetVar hands back -/
def sv1 (o : Option UInt8) (b : Bool) (a : UInt8) (n x : Int) : Int :=
  match o with
  | some c => if b then put1 c a n x else 0
  | none => 0
def svB (o : Option UInt8) (b : Bool) : Bool := o.isSome && b

/-- three numbers written into a block of three -/
theorem putw {w w1 : World} {r : Nat} {t : TypeId} {x y z : Int} (B : Below w.heap.size w w1) (hk : Blk w1 r t #[.int .i64 x, .int .i64 y, .int .i64 z]) (hr : w.heap.size ≤ r) (a b c : Int) :
    ∃ w2, ((w1.setCell ⟨r, 0, none⟩ (.int .i64 a)).setCell ⟨r, 1, none⟩ (.int .i64 b)).setCell ⟨r, 2, none⟩ (.int .i64 c) = w2 ∧ Below w.heap.size w w2 ∧ Blk w2 r t #[.int .i64 a, .int .i64 b, .int .i64 c] := by
  refine ⟨_, rfl, ((B.setCell hr _).setCell hr _).setCell hr _, ?_⟩
  have := ((hk.set_ 0 (.int .i64 a)).set_ 1 (.int .i64 b)).set_ 2 (.int .i64 c)
  simpa using this

/-- the number of a variable -/
def varNo (o : Option UInt8) : Int :=
  match o with
  | some c => fnd nmsN c
  | none => -1

end Go.Proofs.YtndlhdmpfnadcaaDoor
