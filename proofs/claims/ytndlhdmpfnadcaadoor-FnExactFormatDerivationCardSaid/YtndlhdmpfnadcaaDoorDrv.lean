/- Drawn expressions and tests are expressions and tests. -/
import Derived.Test.YtndlhdmpfnadcaaDoorGc
import Derived.Test.YtndlhdmpfnadcaaDoorGb
import Derived.Test.YtndlhdmpfnadcaaDoorLwa
namespace Go.Proofs.YtndlhdmpfnadcaaDoor
open Go.RowKit
open Pl

theorem ext_leaf {wd : Bool} {names : ByteArray} (hnm : ∀ c ∈ names.data.toList, isV wd c = true) {j : Nat} (hj : j < names.size) : ∃ N : Nd, ok wd 0 N = true ∧ names.extract j (j + 1) = bs N.text := by
  have hl : j < names.data.toList.length := by rw [len_S]; exact hj
  refine ⟨.n0 names.data.toList[j], by simp only [ok, Bool.or_eq_true]; exact .inl (hnm _ (List.getElem_mem hl)), ?_⟩
  apply ByteArray.ext
  apply Array.toList_inj.1
  simp only [bs, ByteArray.data_extract, Array.toList_extract, List.extract_eq_take_drop, Nd.text]
  rw [show j + 1 - j = 1 by omega, List.drop_eq_getElem_cons hl]
  rfl
theorem dig_leaf {wd : Bool} {v : Int} (h0 : 0 ≤ v) (h1 : v ≤ 2) : ∃ N : Nd, ok wd 0 N = true ∧ (⟨#[UInt8.ofNat (48 + v).toNat]⟩ : ByteArray) = bs N.text := by
  refine ⟨.n0 (UInt8.ofNat (48 + v).toNat), ?_, rfl⟩
  rcases (show v = 0 ∨ v = 1 ∨ v = 2 by omega) with rfl | rfl | rfl <;> simp [ok, isD]
/-- one letter of some -/
def One (cs : List UInt8) (S : ByteArray) : Prop := ∃ o, o ∈ cs ∧ S = bs [o]
theorem one_of {cs : List UInt8} {S : ByteArray} (h : S ∈ cs.map (fun c => bs [c])) : One cs S := by
  obtain ⟨o, ho, rfl⟩ := List.mem_map.1 h
  exact ⟨o, ho, rfl⟩
theorem leaf_of {wd : Bool} {S : ByteArray} (h : One [116, 102] S) : ∃ N : Nd, ok wd 1 N = true ∧ S = bs N.text := by
  obtain ⟨o, ho, rfl⟩ := h
  simp only [List.mem_cons, List.not_mem_nil, or_false] at ho
  exact ⟨.n0 o, by rcases ho with rfl | rfl <;> rfl, rfl⟩
theorem two_of {wd : Bool} {so sk : Nat} {cs : List UInt8} (hs : ∀ o ∈ cs, ∀ a b, ok wd sk a = true → ok wd sk b = true → ok wd so (.n2 o a b) = true) {A B C : ByteArray} (h : One cs A) (hb : ∃ N : Nd, ok wd sk N = true ∧ B = bs N.text) (hc : ∃ N : Nd, ok wd sk N = true ∧ C = bs N.text) : ∃ N : Nd, ok wd so N = true ∧ A ++ B ++ C = bs N.text := by
  obtain ⟨o, ho, rfl⟩ := h
  obtain ⟨x, hx, rfl⟩ := hb
  obtain ⟨y, hy, rfl⟩ := hc
  exact ⟨.n2 o x y, hs o ho x y hx hy, by rw [bs_app, bs_app]; congr 1⟩
theorem not_of {wd : Bool} {B : ByteArray} (hb : ∃ N : Nd, ok wd 1 N = true ∧ B = bs N.text) : ∃ N : Nd, ok wd 1 N = true ∧ (⟨#[33]⟩ : ByteArray) ++ B = bs N.text := by
  obtain ⟨x, hx, rfl⟩ := hb
  exact ⟨.n1 33 x, by simp [ok, hx], by rw [show (⟨#[33]⟩ : ByteArray) = bs [33] from rfl, bs_app]; congr 1⟩
theorem op_two {wd : Bool} : ∀ o ∈ ([43, 45, 42] : List UInt8), ∀ a b, ok wd 0 a = true → ok wd 0 b = true → ok wd 0 (.n2 o a b) = true := by
  intro o ho a b ha hb
  simp [ok, mem_ops.1 ho, ha, hb]
theorem cmp_two {wd : Bool} : ∀ o ∈ ([61, 60] : List UInt8), ∀ a b, ok wd 0 a = true → ok wd 0 b = true → ok wd 1 (.n2 o a b) = true := by
  intro o ho a b ha hb
  simp at ho
  simp [ok, ho, ha, hb]
theorem con_two {wd : Bool} : ∀ o ∈ ([38, 124] : List UInt8), ∀ a b, ok wd 1 a = true → ok wd 1 b = true → ok wd 1 (.n2 o a b) = true := by
  intro o ho a b ha hb
  simp at ho
  simp [ok, ho, ha, hb]


end Go.Proofs.YtndlhdmpfnadcaaDoor
