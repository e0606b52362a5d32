/- The list of all states; FoldExpr of both sides. -/
import Derived.Test.YtndlhdmpfnadcaaDoorFo
import Derived.Test.YtndlhdmpfnadcaaDoorPp
import Derived.Maps.AppendAt
import Derived.Laws.OwnMore
namespace Go.Proofs.YtndlhdmpfnadcaaDoor
open Go.RowKit
open Pl

def stV (i : Nat) : List Value := [.int .i64 ((i : Int) % 3), .int .i64 ((i : Int) / 3 % 3), .int .i64 ((i : Int) / 9)]
def stsV (k : Nat) : List Value := (List.range k).flatMap stV
theorem stsV_succ (k : Nat) : stsV (k + 1) = stsV k ++ stV k := by simp [stsV, List.range_succ]
theorem stsV_len : ∀ k, (stsV k).length = k * 3
  | 0 => rfl
  | k + 1 => by rw [stsV_succ, List.length_append, stsV_len k]; simp [stV]; omega
theorem stsV_get : ∀ i, i < 27 → (stsV 27)[i * 3]? = some (.int .i64 ((i : Int) % 3)) ∧ (stsV 27)[i * 3 + 1]? = some (.int .i64 ((i : Int) / 3 % 3)) ∧ (stsV 27)[i * 3 + 2]? = some (.int .i64 ((i : Int) / 9)) := by
  intro i hi
  have h : i = 0 ∨ i = 1 ∨ i = 2 ∨ i = 3 ∨ i = 4 ∨ i = 5 ∨ i = 6 ∨ i = 7 ∨ i = 8 ∨ i = 9 ∨ i = 10 ∨ i = 11 ∨ i = 12 ∨ i = 13 ∨ i = 14 ∨ i = 15 ∨ i = 16 ∨ i = 17 ∨ i = 18 ∨ i = 19 ∨ i = 20 ∨ i = 21 ∨ i = 22 ∨ i = 23 ∨ i = 24 ∨ i = 25 ∨ i = 26 := by omega
  rcases h with rfl | rfl | rfl | rfl | rfl | rfl | rfl | rfl | rfl | rfl | rfl | rfl | rfl | rfl | rfl | rfl | rfl | rfl | rfl | rfl | rfl | rfl | rfl | rfl | rfl | rfl | rfl <;> exact ⟨rfl, rfl, rfl⟩
/-- the cells of the list of all states at block g -/
def sts (g : Nat) : List (Addr × Value) := (List.range 27).flatMap fun i => [(⟨g, i * 3, none⟩, .int .i64 ((i : Int) % 3)), (⟨g, i * 3 + 1, none⟩, .int .i64 ((i : Int) / 3 % 3)), (⟨g, i * 3 + 2, none⟩, .int .i64 ((i : Int) / 9))]
theorem mem_sts {g i : Nat} (hi : i < 27) : ((⟨g, i * 3, none⟩ : Addr), Value.int .i64 ((i : Int) % 3)) ∈ sts g ∧ ((⟨g, i * 3 + 1, none⟩ : Addr), Value.int .i64 ((i : Int) / 3 % 3)) ∈ sts g ∧ ((⟨g, i * 3 + 2, none⟩ : Addr), Value.int .i64 ((i : Int) / 9)) ∈ sts g :=
  ⟨List.mem_flatMap.2 ⟨i, List.mem_range.2 hi, by simp⟩, List.mem_flatMap.2 ⟨i, List.mem_range.2 hi, by simp⟩, List.mem_flatMap.2 ⟨i, List.mem_range.2 hi, by simp⟩⟩
theorem three_new (W : World) (a b c : Value) (t : TypeId) : ∀ j u, [a, b, c][j]? = some u → (W.alloc (.cells #[a, b, c] t)).cell? ((⟨W.heap.size, 0, none⟩ : Addr).add j) = some u := by
  intro j u h
  have e : (⟨W.heap.size, 0, none⟩ : Addr).add j = ⟨W.heap.size, j, none⟩ := by unfold Addr.add; split <;> simp_all
  rw [e, (Blk.new W t #[a, b, c]).cell j]
  simpa using h

/-- what FoldExpr hands back -/
def foO (o : Option Nd) : List UInt8 :=
  match o with
  | some k => (fold k).text
  | none => []

end Go.Proofs.YtndlhdmpfnadcaaDoor
