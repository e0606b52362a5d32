/- HasState; the first state of a set, on both sides; counts of sets put together. -/
import Derived.Test.YtndlhdmpfnadcaaDoorGx
import Derived.Test.YtndlhdmpfnadcaaDoorSs
import Derived.Test.YtndlhdmpfnadcaaDoorSpa
namespace Go.Proofs.YtndlhdmpfnadcaaDoor
open Go.RowKit
open Pl

theorem numX {i : Nat} (h : i < 27) : numI (stX i) (stY i) (stZ i) = i := by
  unfold numI
  rw [st_ok h, if_pos rfl]
  exact st_num i
theorem sts_x {w W : World} {g j : Nat} (H : Sit w W (sts g)) (hj : j < 27) : W.cell? ⟨g, j * 3, none⟩ = some (.int .i64 (stX j)) ∧ W.cell? ⟨g, j * 3 + 1, none⟩ = some (.int .i64 (stY j)) ∧ W.cell? ⟨g, j * 3 + 2, none⟩ = some (.int .i64 (stZ j)) :=
  ⟨H.get (mem_sts hj).1, H.get (mem_sts hj).2.1, H.get (mem_sts hj).2.2⟩
theorem cnt_sum {P Q : ByteArray} (hp : bOk 27 P.data.toList = true) (hq : bOk 27 Q.data.toList = true) : ∃ a b c d : Nat, cntP (bs (optB (both P Q (· && ·)))).data.toList = (a : Int) ∧ cntP (bs (optB (both P Q (· || ·)))).data.toList = (b : Int) ∧ cntP P.data.toList = (c : Int) ∧ cntP Q.data.toList = (d : Int) ∧ a ≤ 27 ∧ b ≤ 27 ∧ c ≤ 27 ∧ d ≤ 27 ∧ a + b = c + d := by
  refine ⟨_, _, _, _, cntP_ok (both_ok _ hp hq), cntP_ok (both_ok _ hp hq), cntP_ok hp, cntP_ok hq, cnt_le _ _, cnt_le _ _, cnt_le _ _, cnt_le _ _, ?_⟩
  rw [cnt_congr (fun i hi => bt_both (· && ·) hp hq hi), cnt_congr (fun i hi => bt_both (· || ·) hp hq hi)]
  exact cnt_and_or 27 _ _
theorem demorgan {P Q : ByteArray} (hp : bOk 27 P.data.toList = true) (hq : bOk 27 Q.data.toList = true) : bs (optB (notO (bs (optB (both P Q (· && ·)))))) = bs (optB (both (bs (optB (notO P))) (bs (optB (notO Q))) (· || ·))) := by
  apply eq_of_bt (not_ok (both_ok _ hp hq)) (both_ok _ (not_ok hp) (not_ok hq))
  intro i hi
  rw [bt_notO (both_ok _ hp hq) hi, bt_both _ hp hq hi, bt_both _ (not_ok hp) (not_ok hq) hi, bt_notO hp hi, bt_notO hq hi]
  cases bt P.data.toList i <;> rfl
theorem win_left {P Q : ByteArray} (hp : bOk 27 P.data.toList = true) (hq : bOk 27 Q.data.toList = true) : winO (bs (optB (both P Q (· && ·)))).data.toList P.data.toList = true := by
  unfold winO
  rw [both_ok _ hp hq, hp, Bool.true_and, Bool.true_and, win_iff]
  intro i hi h
  rw [bt_both _ hp hq hi] at h
  simp at h
  exact h.1
theorem win_right {P Q : ByteArray} (hp : bOk 27 P.data.toList = true) (hq : bOk 27 Q.data.toList = true) : winO Q.data.toList (bs (optB (both P Q (· || ·)))).data.toList = true := by
  unfold winO
  rw [both_ok _ hp hq, hq, Bool.true_and, Bool.true_and, win_iff]
  intro i hi h
  rw [bt_both _ hp hq hi, h]
  simp
/-- the first state of a set -/
def fsO (l : List UInt8) : Option Nat := if bOk 27 l then (if fnd l 49 < 0 then none else some (fnd l 49).toNat) else none
theorem fs_no {l : List UInt8} (h : bOk 27 l = false) : fsO l = none := by unfold fsO; rw [h]; rfl
theorem fnd_cnt {l : List UInt8} (h : bOk 27 l = true) : fnd l 49 < 0 ↔ cnt 27 (bt l) = 0 := by
  have := fnd_bits (n := 27) (f := bt l)
  rw [bits_of h] at this
  exact this
theorem fs_neg {l : List UInt8} (h : bOk 27 l = true) (h2 : fnd l 49 < 0) : fsO l = none := by unfold fsO; rw [h, if_pos rfl, if_pos h2]
theorem fs_pos {l : List UInt8} (h : bOk 27 l = true) (h2 : ¬ fnd l 49 < 0) : ∃ k : Nat, fnd l 49 = k ∧ fsO l = some k ∧ k < 27 ∧ bt l k = true ∧ ∀ j, j < k → bt l j = false := by
  obtain ⟨k, hk, hkl, h3, h4⟩ := fnd_at (l := l) (c := 49) (by omega)
  have hl := bOk_len h
  refine ⟨k, hk, ?_, by omega, ?_, fun j hj => ?_⟩
  · unfold fsO; rw [h, if_pos rfl, if_neg h2, hk]; rfl
  · unfold bt; rw [List.getD_eq_getElem?_getD, List.getElem?_eq_getElem hkl, Option.getD_some, h3]; rfl
  · have := h4 j hj
    unfold bt
    rw [List.getD_eq_getElem?_getD, List.getElem?_eq_getElem (by omega), Option.getD_some]
    simpa using this

end Go.Proofs.YtndlhdmpfnadcaaDoor
