/- XGf: XDrf XDrg put together. -/
import Derived.Test.YtndlhdmpfnadcaaDoorGc
import Derived.Test.YtndlhdmpfnadcaaDoorGe
import Derived.Test.YtndlhdmpfnadcaaDoorGb
import Derived.Deep.RegionHeld3
/- Drawn states and letters. -/
namespace Go.Proofs.YtndlhdmpfnadcaaDoor
open Go.RowKit
open Pl

theorem grown_put {a b : World} {g r : Nat} (h : a.grownBy b (some g)) (hr : a.heap.size ≤ r) (i : Nat) (v : Value) : a.grownBy (b.setCell ⟨r, i, none⟩ v) (some g) :=
  grown_step h (grownBy_setCell b ⟨r, i, none⟩ v) (fun x e => .inr (by injection e with e; subst e; exact hr))
def Ints (cs : Array Value) : Prop := ∀ (i : Nat) (v : Value), cs[i]? = some v → ∃ n, v = .int .i64 n
theorem ints3 (a b c : Int) : Ints #[.int .i64 a, .int .i64 b, .int .i64 c] := by
  intro i v h
  rcases i with _ | _ | _ | i
  · exact ⟨a, by simpa using h.symm⟩
  · exact ⟨b, by simpa using h.symm⟩
  · exact ⟨c, by simpa using h.symm⟩
  · simp at h




end Go.Proofs.YtndlhdmpfnadcaaDoor

/- A drawn letter; the drawn arguments of EvalExpr, EvalTest, EvalWide, SetVar, FoldExpr. -/
namespace Go.Proofs.YtndlhdmpfnadcaaDoor
open Go.RowKit
open Pl

/-- a row of bytes in a later world -/
theorem Bytes.later {w W : World} {A : Option Addr} {n g : Nat} (h : Bytes w A n g) (hb : Below w.heap.size w W) : Bytes W A n W.heap.size := by
  rcases h with h | ⟨b, off, hA, _, hlt, hc⟩
  · exact .inl h
  · have := hb.size
    refine .inr ⟨b, off, hA, by omega, by omega, fun i hi => ?_⟩
    obtain ⟨v, hv, hcell⟩ := hc i hi
    exact ⟨v, hv, (hb.cell (p := ⟨b, off + i, none⟩) hlt).trans hcell⟩
theorem below_src {w w' : World} {g : Nat} (h : w.grownBy w' (some g)) (hg : w.heap.size ≤ g) : Below w.heap.size w w' :=
  below_of_grown h w.heap.size (Nat.le_refl _) (fun x e => by injection e with e; omega)

/-- three writes into another block -/
theorem far3 {W : World} {b r i : Nat} {x y z : Value} (h : b ≠ r) : (((W.setCell ⟨r, 0, none⟩ x).setCell ⟨r, 1, none⟩ y).setCell ⟨r, 2, none⟩ z).cell? ⟨b, i, none⟩ = W.cell? ⟨b, i, none⟩ := by
  refine World.cell?_of_block (a := ⟨b, i, none⟩) ?_
  rw [Below.heap_setCell _ _ _ _ (by exact h), Below.heap_setCell _ _ _ _ (by exact h), Below.heap_setCell _ _ _ _ (by exact h)]
theorem Blk.far3 {w : World} {g r : Nat} {t : TypeId} {cs : Array Value} (h : Blk w g t cs) (hne : g ≠ r) (x y z : Value) : Blk (((w.setCell ⟨r, 0, none⟩ x).setCell ⟨r, 1, none⟩ y).setCell ⟨r, 2, none⟩ z) g t cs :=
  ((h.far (p := ⟨r, 0, none⟩) hne x).far (p := ⟨r, 1, none⟩) hne y).far (p := ⟨r, 2, none⟩) hne z
theorem cellA {W : World} {b i : Nat} {o : Obj} (h : b < W.heap.size) : (W.alloc o).drew.cell? ⟨b, i, none⟩ = W.cell? ⟨b, i, none⟩ := World.cell?_of_block (a := ⟨b, i, none⟩) (Below.heap_alloc W o b h)
def whichs : List ByteArray := [⟨#[120]⟩, ⟨#[121]⟩, ⟨#[122]⟩, ⟨#[120]⟩, ⟨#[121]⟩, ⟨#[122]⟩, ⟨#[120]⟩, ⟨#[121]⟩, ⟨#[]⟩, ⟨#[88]⟩, ⟨#[119]⟩, ⟨#[120, 121]⟩]

end Go.Proofs.YtndlhdmpfnadcaaDoor
