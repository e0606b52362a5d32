/- What a law's walk is told of a slice of bytes that came in, and what drawing asks of it. -/
import Derived.Test.YtppcghklkldnaaaDra
import Derived.ProofKit
import Derived.OpenShut
import Derived.ShutString
import Derived.ChangeOld
namespace Go.Proofs.Ytppcghklkldnaaa
open Go.ChangeShapes Go.WideShapes Go.ChangeAt Go.RowKit

/-- it is nil; or it leads to a row of 'cap' cells, the numbers 'zs' (the first 'len' are its elements), each fitting its kind -/
def IsRow (k : IntKind) (w : World) (a : Option Addr) (len cap : Nat) (zs : List Int) : Prop :=
  (a = none ∧ len = 0 ∧ cap = 0 ∧ zs = []) ∨
  ∃ x, a = some x ∧ len ≤ cap ∧ cap ≤ maxLen ∧ zs.length = cap ∧ (∀ i, i < zs.length → w.cell? (x.add i) = some (.int k (zs.getD i 0))) ∧ ∀ n ∈ zs, (Lit.int k n).wf = true

theorem bytes_of_row {w : World} {a : Option Addr} {len cap : Nat} {zs : List Int} (h : IsRow .u8 w a len cap zs) : Bytes w a len w.heap.size ∧ len ≤ cap ∧ cap ≤ 9223372036854775807 := by
  rcases h with ⟨rfl, rfl, rfl, rfl⟩ | ⟨x, rfl, hl, hm, hz, hcell, hwz⟩
  · exact ⟨.inl rfl, Nat.le_refl _, by omega⟩
  · unfold maxLen at hm
    refine ⟨?_, hl, by omega⟩
    by_cases h0 : len = 0
    · exact .inl h0
    · obtain ⟨b, off, spot⟩ := x
      have hc := hcell 0 (by omega)
      have hspot : spot = none := by simpa [Addr.add] using World.cell?_spot hc
      subst hspot
      have hadd : ∀ i, (⟨b, off, none⟩ : Addr).add i = ⟨b, off + i, none⟩ := by intro i; unfold Addr.add; split <;> simp_all
      have hlt := World.block_lt_of_cell? w _ hc
      rw [hadd] at hlt
      refine .inr ⟨b, off, rfl, by show b ≠ _; have : b < w.heap.size := hlt; omega, hlt, fun i hi => ?_⟩
      have hci := hcell i (by omega)
      rw [hadd] at hci
      have hwf := hwz (zs.getD i 0) (by rw [List.getD_eq_getElem?_getD, List.getElem?_eq_getElem (by omega), Option.getD_some]; exact List.getElem_mem _)
      have hb := bounds_u8 hwf
      refine ⟨(zs.getD i 0).toNat, by omega, ?_⟩
      rw [hci, Int.toNat_of_nonneg (by omega)]

end Go.Proofs.Ytppcghklkldnaaa
