/- Facts on sets of states put together. -/
import Derived.Test.YtppcghklkldnaabPf
namespace Go.Proofs.Ytppcghklkldnaab
open Go.RowKit
open Pl

theorem cnt_congr {n : Nat} {f g : Nat → Bool} (h : ∀ i, i < n → f i = g i) : cnt n f = cnt n g := by
  unfold cnt
  apply List.countP_congr
  intro i hi
  rw [h i (by simpa using hi)]
theorem notO_some {P : ByteArray} (hp : bOk 27 P.data.toList = true) : optB (notO P) = bitsN 27 (fun i => !bt P.data.toList i) := by unfold notO; rw [hp]; rfl
theorem both_some {P Q : ByteArray} (f : Bool → Bool → Bool) (hp : bOk 27 P.data.toList = true) (hq : bOk 27 Q.data.toList = true) : optB (both P Q f) = bitsN 27 (fun i => f (bt P.data.toList i) (bt Q.data.toList i)) := by unfold both; rw [hp, hq]; rfl
theorem not_ok {P : ByteArray} (hp : bOk 27 P.data.toList = true) : bOk 27 (bs (optB (notO P))).data.toList = true := by rw [bs_list, notO_some hp]; exact bits_ok _ _
theorem both_ok {P Q : ByteArray} (f : Bool → Bool → Bool) (hp : bOk 27 P.data.toList = true) (hq : bOk 27 Q.data.toList = true) : bOk 27 (bs (optB (both P Q f))).data.toList = true := by rw [bs_list, both_some f hp hq]; exact bits_ok _ _
theorem bt_notO {P : ByteArray} (hp : bOk 27 P.data.toList = true) {i : Nat} (hi : i < 27) : bt (bs (optB (notO P))).data.toList i = !bt P.data.toList i := by rw [bs_list, notO_some hp, bt_bits hi]
theorem bt_both {P Q : ByteArray} (f : Bool → Bool → Bool) (hp : bOk 27 P.data.toList = true) (hq : bOk 27 Q.data.toList = true) {i : Nat} (hi : i < 27) : bt (bs (optB (both P Q f))).data.toList i = f (bt P.data.toList i) (bt Q.data.toList i) := by rw [bs_list, both_some f hp hq, bt_bits hi]
theorem ok_size {P : ByteArray} (hp : bOk 27 P.data.toList = true) : P.size = 27 := by rw [← len_S, bOk_len hp]
theorem cntP_ok {l : List UInt8} (h : bOk 27 l = true) : cntP l = cnt 27 (bt l) := by unfold cntP; rw [h]; rfl
theorem eq_of_bt {P Q : ByteArray} (hp : bOk 27 P.data.toList = true) (hq : bOk 27 Q.data.toList = true) (h : ∀ i, i < 27 → bt P.data.toList i = bt Q.data.toList i) : P = Q := by
  have e : P.data.toList = Q.data.toList := by rw [← bits_of hp, ← bits_of hq]; exact bits_congr h
  rw [← bs_of P, ← bs_of Q, e]
theorem bt_of_eq {P Q : ByteArray} (h : P = Q) (i : Nat) : bt P.data.toList i = bt Q.data.toList i := by rw [h]
theorem str_beq {P Q : ByteArray} {b : Bool} (h : P = Q ↔ b = true) : (P.toList == Q.toList) = b := by
  rw [Bool.eq_iff_iff, beq_iff_eq, ByteArray.toList_eq, ByteArray.toList_eq, ← h]
  constructor
  · intro e; rw [← bs_of P, ← bs_of Q, e]
  · intro e; rw [e]
theorem fact_cnt {P Q : ByteArray} (hp : bOk 27 P.data.toList = true) (hq : bOk 27 Q.data.toList = true) : (cntP (bs (optB (both P (bs (optB (notO Q))) (· && ·)))).data.toList == 0) = win P.data.toList Q.data.toList := by
  rw [cntP_ok (both_ok _ hp (not_ok hq)), Bool.eq_iff_iff, beq_iff_eq, win_iff]
  have h0 : ((cnt 27 (bt (bs (optB (both P (bs (optB (notO Q))) (· && ·)))).data.toList) : Int) = 0) ↔ cnt 27 (bt (bs (optB (both P (bs (optB (notO Q))) (· && ·)))).data.toList) = 0 := by omega
  rw [h0, cnt_zero]
  constructor
  · intro h i hi h1
    have h2 := h i hi
    rw [bt_both _ hp (not_ok hq) hi, bt_notO hq hi, h1] at h2
    simpa using h2
  · intro h i hi
    rw [bt_both _ hp (not_ok hq) hi, bt_notO hq hi]
    cases h1 : bt P.data.toList i
    · rfl
    · rw [h i hi h1]; rfl
theorem fact_or {P Q : ByteArray} (hp : bOk 27 P.data.toList = true) (hq : bOk 27 Q.data.toList = true) : ((bs (optB (both P Q (· || ·)))).toList == Q.toList) = win P.data.toList Q.data.toList := by
  apply str_beq
  rw [win_iff]
  constructor
  · intro h i hi h1
    have h2 := bt_of_eq h i
    rw [bt_both _ hp hq hi, h1] at h2
    exact h2.symm
  · intro h
    apply eq_of_bt (both_ok _ hp hq) hq
    intro i hi
    rw [bt_both _ hp hq hi]
    cases h1 : bt P.data.toList i
    · rfl
    · rw [h i hi h1]; rfl
theorem fact_not {P Q : ByteArray} (hp : bOk 27 P.data.toList = true) (hq : bOk 27 Q.data.toList = true) : winO (bs (optB (notO Q))).data.toList (bs (optB (notO P))).data.toList = win P.data.toList Q.data.toList := by
  unfold winO
  rw [not_ok hp, not_ok hq, Bool.true_and, Bool.true_and, Bool.eq_iff_iff, win_iff, win_iff]
  constructor
  · intro h i hi h1
    have h2 := h i hi
    rw [bt_notO hp hi, bt_notO hq hi, h1] at h2
    cases h3 : bt Q.data.toList i
    · rw [h3] at h2; simp at h2
    · rfl
  · intro h i hi h1
    rw [bt_notO hq hi] at h1
    rw [bt_notO hp hi]
    cases h3 : bt P.data.toList i
    · rfl
    · rw [h i hi h3] at h1; simp at h1
theorem fact_eq {P Q : ByteArray} (hp : bOk 27 P.data.toList = true) (hq : bOk 27 Q.data.toList = true) (h1 : win P.data.toList Q.data.toList = true) (h2 : win Q.data.toList P.data.toList = true) : P = Q := by
  apply eq_of_bt hp hq
  intro i hi
  rw [Bool.eq_iff_iff]
  exact ⟨win_iff.1 h1 i hi, win_iff.1 h2 i hi⟩

end Go.Proofs.Ytppcghklkldnaab
