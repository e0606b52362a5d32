/- Texts of bits: whether they are, what two have both, what one has not, how many, on both sides. -/
import Derived.Test.YtndlhdmpfnadcaaGreatDoorTx
import Derived.Test.YtndlhdmpfnadcaaGreatDoorVr
namespace Go.Proofs.YtndlhdmpfnadcaaGreatDoor
open Go.RowKit
open Pl

theorem bOk_yes {n : Nat} {l : List UInt8} (hl : l.length = n) (h : ∀ i (hi : i < l.length), l[i] = 48 ∨ l[i] = 49) : bOk n l = true := by
  simp only [bOk, hl, beq_self_eq_true, Bool.true_and, List.all_eq_true]
  intro c hc
  obtain ⟨i, hi, rfl⟩ := List.getElem_of_mem hc
  rcases h i hi with e | e <;> simp [e]
theorem bOk_no {n : Nat} {l : List UInt8} {i : Nat} (hi : i < l.length) (h1 : l[i] ≠ 48) (h2 : l[i] ≠ 49) : bOk n l = false := by
  cases hb : bOk n l
  · rfl
  · simp only [bOk, Bool.and_eq_true, List.all_eq_true] at hb
    have := hb.2 _ (List.getElem_mem hi)
    simp [h1, h2] at this
theorem bOk_ne {n : Nat} {l : List UInt8} (h : l.length ≠ n) : bOk n l = false := by
  cases hb : bOk n l
  · rfl
  · exact absurd (bOk_len hb) h
set_option maxRecDepth 100000 in
set_option maxHeartbeats 4000000 in
theorem l2Bits_any (S : ByteArray) (n : Nat) (hS : S.size ≤ 1000000000000) (w : World) : Calls Tryz.prog 98 #[.string S, .int .i64 (n : Int)] w fun e w' => e = .returned (.bool (bOk n S.data.toList)) ∧ w = w' := by
  have hl := len_S S
  go_enter Tryz.func98, Tryz.ntmps98
  go_wp2_with fail
  go_loopg [5] S.size (fun gk i wr => ∃ j : Nat, j + gk = S.size ∧ i = .int .i64 j ∧ Hid (∀ i (hi : i < S.data.toList.length), i < j → S.data.toList[i] = 48 ∨ S.data.toList[i] = 49) ∧ wr = w)
  case atStart => exact ⟨0, by omega, rfl, Lib.hid (fun i _ h => absurd h (by omega)), rfl⟩
  case round =>
    obtain ⟨j, hj, rfl, HR, rfl⟩ := hrel
    by_cases hlt : j < S.size
    · obtain ⟨c, hc⟩ : ∃ c, S[j] = c := ⟨_, rfl⟩
      have hll : j < S.data.toList.length := by omega
      have hcl : S.data.toList[j] = c := hc
      have HCL := Lib.hid hcl
      clear hcl
      by_cases h1 : c = 48
      · have HR2 : Hid (∀ i (hi : i < S.data.toList.length), i < j + 1 → S.data.toList[i] = 48 ∨ S.data.toList[i] = 49) := fun i hi h => by
          by_cases e : i = j
          · subst e; exact .inl (HCL.out.trans h1)
          · exact HR.out i hi (by omega)
        subst h1
        clear HR hl
        go_wp2_with fail
        go_roundg (gk - 1)
        case measure => omega
        case rel => exact ⟨j + 1, by omega, by go_num, HR2, rfl⟩
      · by_cases h2 : c = 49
        · have HR2 : Hid (∀ i (hi : i < S.data.toList.length), i < j + 1 → S.data.toList[i] = 48 ∨ S.data.toList[i] = 49) := fun i hi h => by
            by_cases e : i = j
            · subst e; exact .inr (HCL.out.trans h2)
            · exact HR.out i hi (by omega)
          subst h2
          clear HR hl h1
          go_wp2_with fail
          go_roundg (gk - 1)
          case measure => omega
          case rel => exact ⟨j + 1, by omega, by go_num, HR2, rfl⟩
        · have e1 := u8_ne 48 h1 (by decide)
          have e2 := u8_ne 49 h2 (by decide)
          simp only [Int.cast_ofNat_Int] at e1 e2
          have e3 : ((c.toNat : Int) != 48) = true := by simpa using e1
          have e4 : ((c.toNat : Int) != 49) = true := by simpa using e2
          have HF := Lib.hid (bOk_no (n := n) hll (by rw [HCL.out]; exact h1) (by rw [HCL.out]; exact h2))
          clear h1 h2 HR hl
          go_wp2_with fail
          go_ret
          exact ⟨ret_bool HF.out.symm, rfl⟩
    · have HF : Hid (bOk n S.data.toList = ((S.size : Int) == (n : Int))) := by
        by_cases hz : S.size = n
        · have := bOk_yes (n := n) (hl.trans hz) (fun i hi => HR.out i hi (by omega))
          show bOk n S.data.toList = _
          rw [this]; simp [hz]
        · have := bOk_ne (n := n) (l := S.data.toList) (by omega)
          show bOk n S.data.toList = _
          rw [this]; have hz' : ¬ ((S.size : Int) = (n : Int)) := by omega
          simp [hz']
      clear HR hl
      go_wp2_with fail
      go_ret
      exact ⟨ret_bool HF.out.symm, rfl⟩
/-- what a byte at a place says -/
theorem bt_yes {S : ByteArray} {i : Nat} (hi : i < S.size) (h : bt S.data.toList i = true) : S[i] = 49 := by
  unfold bt at h
  have hl : i < S.data.toList.length := by rw [len_S]; exact hi
  rw [List.getD_eq_getElem?_getD, List.getElem?_eq_getElem hl] at h
  have h2 : S.data.toList[i] = 49 := by simpa using h
  exact h2
theorem bt_no {S : ByteArray} {i : Nat} (hi : i < S.size) (h : bt S.data.toList i = false) : S[i] ≠ 49 := by
  unfold bt at h
  have hl : i < S.data.toList.length := by rw [len_S]; exact hi
  rw [List.getD_eq_getElem?_getD, List.getElem?_eq_getElem hl] at h
  have h2 : S.data.toList[i] ≠ 49 := by simpa using h
  exact h2
theorem bt_zero {n : Nat} {S : ByteArray} {i : Nat} (hk : bOk n S.data.toList = true) (hi : i < S.size) (h : bt S.data.toList i = false) : S[i] = 48 := by
  have hl : i < S.data.toList.length := by rw [len_S]; exact hi
  have := bOk_get hk hl
  rw [h] at this
  exact this
def both (P Q : ByteArray) (f : Bool → Bool → Bool) : Option (List UInt8) :=
  if bOk 27 P.data.toList && bOk 27 Q.data.toList then some (bitsN 27 (fun i => f (bt P.data.toList i) (bt Q.data.toList i))) else none
def notO (P : ByteArray) : Option (List UInt8) :=
  if bOk 27 P.data.toList then some (bitsN 27 (fun i => !bt P.data.toList i)) else none

end Go.Proofs.YtndlhdmpfnadcaaGreatDoor
