/- HasState; the first state of a set, on both sides; counts of sets put together. -/
import Derived.Test.YtccjmahhebiphaaDoorGx
import Derived.Test.YtccjmahhebiphaaDoorSs
import Derived.Test.YtccjmahhebiphaaDoorSpa
namespace Go.Proofs.YtccjmahhebiphaaDoor
open Go.RowKit
open Pl

theorem numX {i : Nat} (h : i < 27) : numI (stX i) (stY i) (stZ i) = i := by
  unfold numI
  rw [st_ok h, if_pos rfl]
  exact st_num i
theorem sts_x {w W : World} {g j : Nat} (H : Sit w W (sts g)) (hj : j < 27) : W.cell? ⟨g, j * 3, none⟩ = some (.int .i64 (stX j)) ∧ W.cell? ⟨g, j * 3 + 1, none⟩ = some (.int .i64 (stY j)) ∧ W.cell? ⟨g, j * 3 + 2, none⟩ = some (.int .i64 (stZ j)) :=
  ⟨H.get (mem_sts hj).1, H.get (mem_sts hj).2.1, H.get (mem_sts hj).2.2⟩
set_option maxHeartbeats 4000000 in
theorem HasState_any (P : ByteArray) (hp : bOk 27 P.data.toList = true) (j : Nat) (hj : j < 27) (w : World) : Calls Tryd.prog 34 #[.string P, .agg #[.int .i64 (stX j), .int .i64 (stY j), .int .i64 (stZ j)]] w fun e w' => (e = .returned (.bool (bt P.data.toList j)) ∧ Below w.heap.size w w') := by
  have z1 := ok_size hp
  have hpz : j < P.size := by omega
  have V := Lib.hid (fun w => PredValid_any P (by omega) w)
  rw [hp] at V
  have SV := Lib.hid (fun w => StateValid_any (stX j) (stY j) (stZ j) w)
  rw [st_ok hj] at SV
  have SI := Lib.hid (fun w => StateIndex_any (stX j) (stY j) (stZ j) w)
  rw [numX hj] at SI
  generalize stX j = x at *
  generalize stY j = y at *
  generalize stZ j = z at *
  have dk := Blk.new w 42 #[.int .i64 x, .int .i64 y, .int .i64 z]
  have d0 := dk.cell 0
  have d1 := dk.cell 1
  have d2 := dk.cell 2
  simp at d0 d1 d2
  have hal := Lib.hid (below_n w (.cells #[.int .i64 x, .int .i64 y, .int .i64 z] 42))
  have DK := Lib.hid dk
  clear dk
  cases hb : bt P.data.toList j
  · have c1 := bt_zero hp hpz hb
    clear hb hp z1
    go_enter Tryd.func34, Tryd.ntmps34
    go_wp2_with fail
    refine (V.out _).mono ?_
    rintro e w' ⟨rfl, rfl⟩
    go_wp2_with fail
    refine (SV.out _).mono ?_
    rintro e w1 ⟨rfl, hb1⟩
    have k1 := DK.out.below hb1 (by simp)
    have e0 := k1.cell 0
    have e1 := k1.cell 1
    have e2 := k1.cell 2
    simp at e0 e1 e2
    have B1 := Lib.hid (below_2 hal.out hb1)
    clear hb1 k1 d0 d1 d2
    go_wp2_with fail
    refine (SI.out _).mono ?_
    rintro e w2 ⟨rfl, hb2⟩
    have B2 := Lib.hid (below_2 B1.out hb2)
    clear hb2 e0 e1 e2
    go_wp2_with fail
    go_ret
    exact ⟨rfl, B2.out⟩
  · have c1 := bt_yes hpz hb
    clear hb hp z1
    go_enter Tryd.func34, Tryd.ntmps34
    go_wp2_with fail
    refine (V.out _).mono ?_
    rintro e w' ⟨rfl, rfl⟩
    go_wp2_with fail
    refine (SV.out _).mono ?_
    rintro e w1 ⟨rfl, hb1⟩
    have k1 := DK.out.below hb1 (by simp)
    have e0 := k1.cell 0
    have e1 := k1.cell 1
    have e2 := k1.cell 2
    simp at e0 e1 e2
    have B1 := Lib.hid (below_2 hal.out hb1)
    clear hb1 k1 d0 d1 d2
    go_wp2_with fail
    refine (SI.out _).mono ?_
    rintro e w2 ⟨rfl, hb2⟩
    have B2 := Lib.hid (below_2 B1.out hb2)
    clear hb2 e0 e1 e2
    go_wp2_with fail
    go_ret
    exact ⟨rfl, B2.out⟩
theorem cnt_sum {P Q : ByteArray} (hp : bOk 27 P.data.toList = true) (hq : bOk 27 Q.data.toList = true) : ∃ a b c d : Nat, cntP (bs (optB (both P Q (· && ·)))).data.toList = (a : Int) ∧ cntP (bs (optB (both P Q (· || ·)))).data.toList = (b : Int) ∧ cntP P.data.toList = (c : Int) ∧ cntP Q.data.toList = (d : Int) ∧ a ≤ 27 ∧ b ≤ 27 ∧ c ≤ 27 ∧ d ≤ 27 ∧ a + b = c + d := by
  refine ⟨_, _, _, _, cntP_ok (both_ok _ hp hq), cntP_ok (both_ok _ hp hq), cntP_ok hp, cntP_ok hq, cnt_le _ _, cnt_le _ _, cnt_le _ _, cnt_le _ _, ?_⟩
  rw [cnt_congr (fun i hi => bt_both (· && ·) hp hq hi), cnt_congr (fun i hi => bt_both (· || ·) hp hq hi)]
  exact cnt_and_or 27 _ _
theorem demorgan {P Q : ByteArray} (hp : bOk 27 P.data.toList = true) (hq : bOk 27 Q.data.toList = true) : bs (optB (notO (bs (optB (both P Q (· && ·)))))) = bs (optB (both (bs (optB (notO P))) (bs (optB (notO Q))) (· || ·))) := by
  apply eq_of_bt (not_ok (both_ok _ hp hq)) (both_ok _ (not_ok hp) (not_ok hq))
  intro i hi
  rw [bt_notO (both_ok _ hp hq) hi, bt_both _ hp hq hi, bt_both _ (not_ok hp) (not_ok hq) hi, bt_notO hp hi, bt_notO hq hi]
  cases bt P.data.toList i <;> rfl
theorem win_left {P Q : ByteArray} (hp : bOk 27 P.data.toList = true) (hq : bOk 27 Q.data.toList = true) : winO (bs (optB (both P Q (· && ·)))).data.toList P.data.toList = true := by
  unfold winO
  rw [both_ok _ hp hq, hp, Bool.true_and, Bool.true_and, win_iff]
  intro i hi h
  rw [bt_both _ hp hq hi] at h
  simp at h
  exact h.1
theorem win_right {P Q : ByteArray} (hp : bOk 27 P.data.toList = true) (hq : bOk 27 Q.data.toList = true) : winO Q.data.toList (bs (optB (both P Q (· || ·)))).data.toList = true := by
  unfold winO
  rw [both_ok _ hp hq, hq, Bool.true_and, Bool.true_and, win_iff]
  intro i hi h
  rw [bt_both _ hp hq hi, h]
  simp
/-- the first state of a set -/
def fsO (l : List UInt8) : Option Nat := if bOk 27 l then (if fnd l 49 < 0 then none else some (fnd l 49).toNat) else none
theorem fs_no {l : List UInt8} (h : bOk 27 l = false) : fsO l = none := by unfold fsO; rw [h]; rfl
theorem fnd_cnt {l : List UInt8} (h : bOk 27 l = true) : fnd l 49 < 0 ↔ cnt 27 (bt l) = 0 := by
  have := fnd_bits (n := 27) (f := bt l)
  rw [bits_of h] at this
  exact this
theorem fs_neg {l : List UInt8} (h : bOk 27 l = true) (h2 : fnd l 49 < 0) : fsO l = none := by unfold fsO; rw [h, if_pos rfl, if_pos h2]
theorem fs_pos {l : List UInt8} (h : bOk 27 l = true) (h2 : ¬ fnd l 49 < 0) : ∃ k : Nat, fnd l 49 = k ∧ fsO l = some k ∧ k < 27 ∧ bt l k = true ∧ ∀ j, j < k → bt l j = false := by
  obtain ⟨k, hk, hkl, h3, h4⟩ := fnd_at (l := l) (c := 49) (by omega)
  have hl := bOk_len h
  refine ⟨k, hk, ?_, by omega, ?_, fun j hj => ?_⟩
  · unfold fsO; rw [h, if_pos rfl, if_neg h2, hk]; rfl
  · unfold bt; rw [List.getD_eq_getElem?_getD, List.getElem?_eq_getElem hkl, Option.getD_some, h3]; rfl
  · have := h4 j hj
    unfold bt
    rw [List.getD_eq_getElem?_getD, List.getElem?_eq_getElem (by omega), Option.getD_some]
    simpa using this

end Go.Proofs.YtccjmahhebiphaaDoor
