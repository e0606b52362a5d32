/- Plain: the text of a derivation. -/
import Derived.Test.YtndlhdmpfnadcaaGreatDoorLx
import Derived.Test.YtndlhdmpfnadcaaGreatDoorGm
import Derived.Lib.Join
namespace Go.Proofs.YtndlhdmpfnadcaaGreatDoor
open Go.RowKit
open Pl
set_option linter.unusedVariables false

/-- a line's text, up to its k-th number -/
def rfT (x : LnD) (k : Nat) : List UInt8 := x.R.data.toList ++ (List.range k).flatMap (fun i => 44 :: Lib.itoa (x.z i))
def lineT (x : LnD) : List UInt8 := rfT x x.n
theorem rfT_zero (x : LnD) : rfT x 0 = x.R.data.toList := by simp [rfT]
theorem rfT_succ (x : LnD) (k : Nat) : rfT x (k + 1) = rfT x k ++ 44 :: Lib.itoa (x.z k) := by simp [rfT, List.range_succ]
/-- the lines' texts, joined -/
def accT (L : Nat → LnD) : Nat → List UInt8
  | 0 => []
  | i + 1 => (if i = 0 then [] else accT L i ++ [32]) ++ lineT (L i)
def fdT (L : Nat → LnD) (n : Nat) : List UInt8 := if n = 0 then [45] else accT L n
/-- a line of a size that a machine can have -/
def okD (x : LnD) : Prop := x.R.size ≤ 1048576 ∧ x.n ≤ 1048576 ∧ ∀ k, k < x.n → -9223372036854775808 ≤ x.z k ∧ x.z k ≤ 9223372036854775807
theorem rfT_len {x : LnD} (h : okD x) : ∀ k, k ≤ x.n → (rfT x k).length ≤ 1048576 + 21 * k
  | 0, _ => by rw [rfT_zero, len_S]; exact h.1
  | k + 1, hk => by
    have ih := rfT_len h k (by omega)
    have hz := h.2.2 k (by omega)
    have hi := itoa_len hz.1 hz.2
    rw [rfT_succ, List.length_append, List.length_cons]
    omega
theorem lineT_len {x : LnD} (h : okD x) : (lineT x).length ≤ 23068672 := by
  have := rfT_len h x.n (Nat.le_refl _)
  have := h.2.1
  unfold lineT
  omega
theorem accT_len {L : Nat → LnD} {n : Nat} (h : ∀ i, i < n → okD (L i)) : ∀ i, i ≤ n → (accT L i).length ≤ i * 23068673
  | 0, _ => by simp [accT]
  | i + 1, hi => by
    have ih := accT_len h i (by omega)
    have hl := lineT_len (h i (by omega))
    simp only [accT]
    split
    · simp only [List.nil_append]; omega
    · simp only [List.length_append, List.length_singleton]; omega
theorem joinTail_snoc (sep : List UInt8) (l : List (List UInt8)) (a : List UInt8) : Lib.joinTail sep (l ++ [a]) = Lib.joinTail sep l ++ (sep ++ a) := by
  simp [Lib.joinTail]
theorem accT_join (L : Nat → LnD) : ∀ n, Lib.join ((List.range n).map (fun i => lineT (L i))) [32] = accT L n
  | 0 => rfl
  | 1 => by
    simp only [List.range_one, List.map_cons, List.map_nil, Lib.join_cons, accT]
    simp [Lib.joinTail]
  | n + 2 => by
    have ih := accT_join L (n + 1)
    have e : ∀ m, (List.range (m + 1)).map (fun i => lineT (L i)) = lineT (L 0) :: ((List.range m).map (fun i => lineT (L (i + 1)))) := fun m => by
      rw [List.range_succ_eq_map, List.map_cons, List.map_map]
      rfl
    rw [e, Lib.join_cons] at ih
    rw [e, Lib.join_cons, List.range_succ, List.map_append, List.map_singleton, joinTail_snoc, ← List.append_assoc, ih]
    simp only [accT]
    rw [if_neg (by omega : ¬ n + 1 = 0)]
    simp
theorem accT_congr {L M : Nat → LnD} {n : Nat} (h : ∀ i, i < n → lineT (L i) = lineT (M i)) : ∀ i, i ≤ n → accT L i = accT M i
  | 0, _ => rfl
  | i + 1, hi => by
    simp only [accT]
    rw [accT_congr h i (by omega), h i (by omega)]
theorem fdT_congr {L M : Nat → LnD} {n : Nat} (h : ∀ i, i < n → lineT (L i) = lineT (M i)) : fdT L n = fdT M n := by
  unfold fdT
  rw [accT_congr h n (Nat.le_refl _)]
end Go.Proofs.YtndlhdmpfnadcaaGreatDoor
