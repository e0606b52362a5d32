/- Rows of lines: a copied row can be read, and holds the same. -/
import Derived.Test.YtndlhdmpfnadcaaDoorLz
namespace Go.Proofs.YtndlhdmpfnadcaaDoor
open Go.RowKit
open Pl
set_option linter.unusedVariables false

theorem LR.of_copy {W : World} {g n : Nat} {t : TypeId} {L M : Nat → LnD} (h : Blk W g t (lvA n M)) (hc : Cpd W g L M n) : LR W (some ⟨g, 0, none⟩) n M := by
  refine .inr ⟨g, 0, rfl, h.lt, fun i hi => ?_⟩
  obtain ⟨g', _, hm, hir⟩ := hc i hi
  have c0 := (h.cell (i * 6 + 0)).trans (lvA_cell M hi (by omega))
  have c1 := (h.cell (i * 6 + 1)).trans (lvA_cell M hi (by omega))
  have c2 := (h.cell (i * 6 + 2)).trans (lvA_cell M hi (by omega))
  have c3 := (h.cell (i * 6 + 3)).trans (lvA_cell M hi (by omega))
  have c4 := (h.cell (i * 6 + 4)).trans (lvA_cell M hi (by omega))
  have c5 := (h.cell (i * 6 + 5)).trans (lvA_cell M hi (by omega))
  simp only [Nat.add_zero, Nat.zero_add] at c0 c1 c2 c3 c4 c5 ⊢
  refine ⟨⟨c0, c1, c2, c3, c4, c5⟩, ?_, ?_⟩
  · rw [hm]; exact hir
  · rw [hm]; exact Nat.le_refl _
theorem SameL.copies {W1 W2 : World} {g1 g2 n : Nat} {L M1 M2 : Nat → LnD} (h1 : Cpd W1 g1 L M1 n) (h2 : Cpd W2 g2 L M2 n) (hs : ∀ i, i < n → (L i).n ≤ 1048576) : SameL n M1 M2 := fun i hi => by
  obtain ⟨a, _, ha, _⟩ := h1 i hi
  obtain ⟨b, _, hb, _⟩ := h2 i hi
  rw [ha, hb]
  exact ⟨rfl, rfl, rfl, rfl, rfl, rfl, rfl, hs i hi⟩
theorem isR_copy {W : World} {g n : Nat} {L M : Nat → LnD} (h : Cpd W g L M n) (r : ByteArray) : ∀ i, i < n → isR M r i = isR L r i := fun i hi => by
  obtain ⟨a, _, ha, _⟩ := h i hi
  unfold isR
  rw [ha]
  rfl
end Go.Proofs.YtndlhdmpfnadcaaDoor
