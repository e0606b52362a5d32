/- Texts of bits: whether they are, what two have both, what one has not, how many, on both sides. -/
import Derived.Test.YtndlhdmpfnadcaaDoorTx
import Derived.Test.YtndlhdmpfnadcaaDoorVr
namespace Go.Proofs.YtndlhdmpfnadcaaDoor
open Go.RowKit
open Pl

theorem bOk_yes {n : Nat} {l : List UInt8} (hl : l.length = n) (h : ∀ i (hi : i < l.length), l[i] = 48 ∨ l[i] = 49) : bOk n l = true := by
  simp only [bOk, hl, beq_self_eq_true, Bool.true_and, List.all_eq_true]
  intro c hc
  obtain ⟨i, hi, rfl⟩ := List.getElem_of_mem hc
  rcases h i hi with e | e <;> simp [e]
theorem bOk_no {n : Nat} {l : List UInt8} {i : Nat} (hi : i < l.length) (h1 : l[i] ≠ 48) (h2 : l[i] ≠ 49) : bOk n l = false := by
  cases hb : bOk n l
  · rfl
  · simp only [bOk, Bool.and_eq_true, List.all_eq_true] at hb
    have := hb.2 _ (List.getElem_mem hi)
    simp [h1, h2] at this
theorem bOk_ne {n : Nat} {l : List UInt8} (h : l.length ≠ n) : bOk n l = false := by
  cases hb : bOk n l
  · rfl
  · exact absurd (bOk_len hb) h
/-- what a byte at a place says -/
theorem bt_yes {S : ByteArray} {i : Nat} (hi : i < S.size) (h : bt S.data.toList i = true) : S[i] = 49 := by
  unfold bt at h
  have hl : i < S.data.toList.length := by rw [len_S]; exact hi
  rw [List.getD_eq_getElem?_getD, List.getElem?_eq_getElem hl] at h
  have h2 : S.data.toList[i] = 49 := by simpa using h
  exact h2
theorem bt_no {S : ByteArray} {i : Nat} (hi : i < S.size) (h : bt S.data.toList i = false) : S[i] ≠ 49 := by
  unfold bt at h
  have hl : i < S.data.toList.length := by rw [len_S]; exact hi
  rw [List.getD_eq_getElem?_getD, List.getElem?_eq_getElem hl] at h
  have h2 : S.data.toList[i] ≠ 49 := by simpa using h
  exact h2
theorem bt_zero {n : Nat} {S : ByteArray} {i : Nat} (hk : bOk n S.data.toList = true) (hi : i < S.size) (h : bt S.data.toList i = false) : S[i] = 48 := by
  have hl : i < S.data.toList.length := by rw [len_S]; exact hi
  have := bOk_get hk hl
  rw [h] at this
  exact this
def both (P Q : ByteArray) (f : Bool → Bool → Bool) : Option (List UInt8) :=
  if bOk 27 P.data.toList && bOk 27 Q.data.toList then some (bitsN 27 (fun i => f (bt P.data.toList i) (bt Q.data.toList i))) else none
def notO (P : ByteArray) : Option (List UInt8) :=
  if bOk 27 P.data.toList then some (bitsN 27 (fun i => !bt P.data.toList i)) else none

end Go.Proofs.YtndlhdmpfnadcaaDoor
