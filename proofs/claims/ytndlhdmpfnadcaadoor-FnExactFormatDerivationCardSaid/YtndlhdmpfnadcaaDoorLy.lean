/- Rows of lines: the array of a row's cells. -/
import Derived.Test.YtndlhdmpfnadcaaDoorLv
namespace Go.Proofs.YtndlhdmpfnadcaaDoor
open Go.RowKit
open Pl
set_option linter.unusedVariables false

def fldV (x : LnD) : Nat → Value
  | 0 => .string x.R
  | 1 => .string x.A
  | 2 => .string x.P
  | 3 => .string x.Q
  | 4 => .string x.B
  | _ => .slice x.s x.n x.c
def zeroD : LnD := ⟨⟨#[]⟩, ⟨#[]⟩, ⟨#[]⟩, ⟨#[]⟩, ⟨#[]⟩, none, 0, 0, fun _ => 0⟩
def lvA (n : Nat) (M : Nat → LnD) : Array Value := ((List.range (n * 6)).map (fun j => fldV (M (j / 6)) (j % 6))).toArray
theorem lvA_size (n : Nat) (M : Nat → LnD) : (lvA n M).size = n * 6 := by simp [lvA]
theorem lvA_get {n : Nat} (M : Nat → LnD) {j : Nat} (hj : j < n * 6) : (lvA n M)[j]? = some (fldV (M (j / 6)) (j % 6)) := by simp [lvA, hj]
theorem lvA_cell {n : Nat} (M : Nat → LnD) {i k : Nat} (hi : i < n) (hk : k < 6) : (lvA n M)[i * 6 + k]? = some (fldV (M i) k) := by
  rw [lvA_get M (by omega), show (i * 6 + k) / 6 = i by omega, show (i * 6 + k) % 6 = k by omega]
theorem lvA_ext {n : Nat} {C : Array Value} (M : Nat → LnD) (hz : C.size = n * 6) (h : ∀ j, j < n * 6 → C[j]? = some (fldV (M (j / 6)) (j % 6))) : C = lvA n M := by
  apply Array.ext
  · rw [hz, lvA_size]
  · intro i h1 h2
    have h3 := h i (by omega)
    have h4 := lvA_get M (show i < n * 6 by omega)
    rw [Array.getElem?_eq_getElem h1] at h3
    rw [Array.getElem?_eq_getElem h2] at h4
    exact Option.some.inj (h3.trans h4.symm)
def updL (M : Nat → LnD) (a : Nat) (x : LnD) : Nat → LnD := fun i => if i = a then x else M i
/-- a line put into its place -/
theorem lvA_put {n : Nat} (M : Nat → LnD) {a : Nat} (ha : a < n) (x : LnD) :
    ((((((lvA n M).setIfInBounds (a * 6) (.string x.R)).setIfInBounds (a * 6 + 1) (.string x.A)).setIfInBounds (a * 6 + 2) (.string x.P)).setIfInBounds (a * 6 + 3) (.string x.Q)).setIfInBounds (a * 6 + 4) (.string x.B)).setIfInBounds (a * 6 + 5) (.slice x.s x.n x.c) = lvA n (updL M a x) := by
  apply lvA_ext _ (by simp [lvA_size])
  intro j hj
  simp only [Array.getElem?_setIfInBounds, Array.size_setIfInBounds, lvA_size, lvA_get M hj]
  by_cases h : j / 6 = a
  · have hk : j % 6 = 0 ∨ j % 6 = 1 ∨ j % 6 = 2 ∨ j % 6 = 3 ∨ j % 6 = 4 ∨ j % 6 = 5 := by omega
    have hu : updL M a x (j / 6) = x := if_pos h
    rw [hu]
    rcases hk with e | e | e | e | e | e
    all_goals (rw [e]; repeat' split)
    all_goals first | rfl | omega
  · have hu : updL M a x (j / 6) = M (j / 6) := if_neg h
    rw [hu]
    repeat' split
    all_goals first | rfl | omega
end Go.Proofs.YtndlhdmpfnadcaaDoor
