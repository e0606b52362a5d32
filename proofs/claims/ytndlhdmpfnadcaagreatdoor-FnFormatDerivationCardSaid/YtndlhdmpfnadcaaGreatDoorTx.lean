/- Texts and numbers of states, on both sides. -/
import Derived.Test.YtndlhdmpfnadcaaGreatDoorBi
import Derived.Test.YtndlhdmpfnadcaaGreatDoorGa
import Derived.Test.YtndlhdmpfnadcaaGreatDoorGf
import Derived.Test.YtndlhdmpfnadcaaGreatDoorGy
import Derived.Deep.RegionHeld3
namespace Go.Proofs.YtndlhdmpfnadcaaGreatDoor
open Go.RowKit
open Pl

theorem conv_three (a b c : Int) (W : World) : (convert 22 9 (.slice (some ⟨W.heap.size, 0, none⟩) 3 3)).run Tryz.prog (W.alloc (.cells #[.int .u8 a, .int .u8 b, .int .u8 c] 5)) = .ok (.string ⟨#[UInt8.ofNat a.toNat, UInt8.ofNat b.toNat, UInt8.ofNat c.toNat]⟩) (W.alloc (.cells #[.int .u8 a, .int .u8 b, .int .u8 c] 5)) :=
  run_convert_bytes_arg (P := Tryz.prog) _ 22 5 Tryz.underlying22 Tryz.underlying5 W.heap.size 0 3 3 [a, b, c] rfl (fun i hi => by
    rw [(Blk.new W _ _).cell]
    match i, hi with
    | 0, _ => rfl
    | 1, _ => rfl
    | 2, _ => rfl) 9 Tryz.underlying9
theorem digOf_48 {n : Int} (h : small n) : UInt8.ofNat (48 + n).toNat = digOf n := by
  unfold digOf
  congr 1
  have := h.1
  omega
/-- the text of a state that is one -/
def fmt1 (x y z : Int) : List UInt8 := if stB x y z then tx3 x y z else []
theorem st_ok {i : Nat} (h : i < 27) : stB (stX i) (stY i) (stZ i) = true := by
  simp only [stB, Bool.and_eq_true]
  exact ⟨inB_small.2 (stX_small i), inB_small.2 (stY_small i), inB_small.2 (stZ_small h)⟩
theorem fmt_st {i : Nat} (h : i < 27) : fmt1 (stX i) (stY i) (stZ i) = stT i := by unfold fmt1; rw [st_ok h]; rfl
def oX (o : Option Nat) : Int :=
  match o with
  | some i => stX i
  | none => 0
def oY (o : Option Nat) : Int :=
  match o with
  | some i => stY i
  | none => 0
def oZ (o : Option Nat) : Int :=
  match o with
  | some i => stZ i
  | none => 0
/-- a block of three, written anew -/
theorem put3r {W : World} {r : Nat} {t : TypeId} {a b c : Value} (h : Blk W r t #[a, b, c]) (x y z : Value) : ∃ W', ((W.setCell ⟨r, 0, none⟩ x).setCell ⟨r, 1, none⟩ y).setCell ⟨r, 2, none⟩ z = W' ∧ Blk W' r t #[x, y, z] ∧ Below r W W' := by
  refine ⟨_, rfl, ?_, (((Below.refl r W).setCell (p := ⟨r, 0, none⟩) (Nat.le_refl _) x).setCell (p := ⟨r, 1, none⟩) (Nat.le_refl _) y).setCell (p := ⟨r, 2, none⟩) (Nat.le_refl _) z⟩
  have := ((h.set_ 0 x).set_ 1 y).set_ 2 z
  simpa using this
/-- the number of a state, if it is one -/
def atN (i : Int) : Option Nat := if 0 ≤ i ∧ i < 27 then some i.toNat else none
def numI (x y z : Int) : Int := if stB x y z then x + 3 * y + 9 * z else -1

end Go.Proofs.YtndlhdmpfnadcaaGreatDoor
