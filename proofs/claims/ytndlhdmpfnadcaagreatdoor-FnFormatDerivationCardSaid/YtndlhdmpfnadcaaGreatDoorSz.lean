/- What the reference says of programs. -/
import Derived.Test.YtndlhdmpfnadcaaGreatDoorPh
namespace Go.Proofs.YtndlhdmpfnadcaaGreatDoor
open Go.RowKit
open Pl

theorem row_at {w : World} {base : Nat} {ps : List Nd} {g N cap j : Nat} {f : Nd → Value} (h : w.ownsRow base 9 1 (.slice (some ⟨g, 0, none⟩) N cap) N (ps.map f)) (hN : ps.length = N) (hj : j < ps.length) : w.cell? ⟨g, j, none⟩ = some (f ps[j]) := by
  rw [h.cellAt j (by omega)]
  simp [hj]
theorem mem_in {O : List UInt8} {c : UInt8} : inO (bs O) c = true ↔ c ∈ O := by
  unfold inO
  rw [decide_eq_true_eq, bs_list, fnd_mem]
def hdv (k : Nd) : Value := .string (bs (headN k))
def HeadsPost (w : World) (k : Nd) (e : Ending) (w' : World) : Prop :=
  ∃ v, e = .returned (.tuple #[v, .string (bs ((stm k).map Nd.op))]) ∧ w'.ownsRow w.heap.size 9 1 v (stm k).length ((stm k).map hdv) ∧ Below w.heap.size w w'

end Go.Proofs.YtndlhdmpfnadcaaGreatDoor
