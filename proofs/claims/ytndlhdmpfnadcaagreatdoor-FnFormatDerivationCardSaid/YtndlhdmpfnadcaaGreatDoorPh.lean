/- What the program says of programs: depth, parts, head. -/
import Derived.Test.YtndlhdmpfnadcaaGreatDoorPg
import Derived.Test.YtndlhdmpfnadcaaGreatDoorGy
namespace Go.Proofs.YtndlhdmpfnadcaaGreatDoor
open Go.RowKit
open Pl

theorem depL_take {ps : List Nd} {j : Nat} (h : j < ps.length) : depL (ps.take (j + 1)) = max (depL (ps.take j)) (depN ps[j]) := by
  rw [List.take_succ_eq_append_getElem h, depL_snoc]
theorem depL_le {n : Nat} : ∀ {ps : List Nd}, (∀ x ∈ ps, x.text.length ≤ n) → depL ps ≤ n := by
  intro ps
  induction ps with
  | nil => intro _; exact Nat.zero_le _
  | cons x ps ih =>
    intro h
    have h1 := h x (by simp)
    have h2 := ih (fun y hy => h y (by simp [hy]))
    have h3 := dep_len x
    simp only [depL]
    omega
theorem max_cast (a b : Nat) : ((max a b : Nat) : Int) = max (a : Int) (b : Int) := by omega
def oP (o : Option Nd) : List Nd :=
  match o with
  | some k => prt k
  | none => []

end Go.Proofs.YtndlhdmpfnadcaaGreatDoor
