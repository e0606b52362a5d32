/- Rows of lines: the number of lines with a rule. -/
import Derived.Test.YtndlhdmpfnadcaaDoorLr
namespace Go.Proofs.YtndlhdmpfnadcaaDoor
open Go.RowKit
open Pl
set_option linter.unusedVariables false

/-- the data of a line -/
structure LnD where
  R : ByteArray
  A : ByteArray
  P : ByteArray
  Q : ByteArray
  B : ByteArray
  s : Option Addr
  n : Nat
  c : Nat
  z : Nat → Int
/-- a row of lines that can be read -/
def LR (W : World) (s : Option Addr) (n : Nat) (L : Nat → LnD) : Prop :=
  n = 0 ∨ ∃ b off, s = some ⟨b, off, none⟩ ∧ b < W.heap.size ∧ ∀ i, i < n →
    (W.cell? ⟨b, off + i * 6, none⟩ = some (.string (L i).R) ∧ W.cell? ⟨b, off + i * 6 + 1, none⟩ = some (.string (L i).A) ∧ W.cell? ⟨b, off + i * 6 + 2, none⟩ = some (.string (L i).P) ∧ W.cell? ⟨b, off + i * 6 + 3, none⟩ = some (.string (L i).Q) ∧ W.cell? ⟨b, off + i * 6 + 4, none⟩ = some (.string (L i).B) ∧ W.cell? ⟨b, off + i * 6 + 5, none⟩ = some (.slice (L i).s (L i).n (L i).c)) ∧
    IR W (L i).s (L i).n (L i).z ∧ (L i).n ≤ (L i).c
theorem LR.call {W W' : World} {s : Option Addr} {n : Nat} {L : Nat → LnD} (h : LR W s n L) (hb : Below W.heap.size W W') : LR W' s n L := by
  rcases h with h | ⟨b, off, hs, hlt, hc⟩
  · exact .inl h
  · refine .inr ⟨b, off, hs, Nat.lt_of_lt_of_le hlt hb.size, fun i hi => ?_⟩
    obtain ⟨⟨h0, h1, h2, h3, h4, h5⟩, hI, hn⟩ := hc i hi
    exact ⟨⟨(hb.cell (p := ⟨b, _, none⟩) hlt).trans h0, (hb.cell (p := ⟨b, _, none⟩) hlt).trans h1, (hb.cell (p := ⟨b, _, none⟩) hlt).trans h2, (hb.cell (p := ⟨b, _, none⟩) hlt).trans h3, (hb.cell (p := ⟨b, _, none⟩) hlt).trans h4, (hb.cell (p := ⟨b, _, none⟩) hlt).trans h5⟩, hI.call hb, hn⟩
def isR (L : Nat → LnD) (r : ByteArray) (i : Nat) : Bool := (L i).R.toList == r.toList
end Go.Proofs.YtndlhdmpfnadcaaDoor
