/- XGx: XPe XPf XSf put together. -/
import Derived.Test.YtndlhdmpfnadcaaGreatDoorPd
import Derived.Test.YtndlhdmpfnadcaaGreatDoorDrv
import Derived.Test.YtndlhdmpfnadcaaGreatDoorBi
import Derived.Test.YtndlhdmpfnadcaaGreatDoorGf
/- Sets of states put together, compared and counted, on both sides; drawn sets. -/
namespace Go.Proofs.YtndlhdmpfnadcaaGreatDoor
open Go.RowKit
open Pl

theorem bt_at {S : ByteArray} {i : Nat} (hi : i < S.size) : bt S.data.toList i = (S[i] == 49) := by
  unfold bt
  have hl : i < S.data.toList.length := by rw [len_S]; exact hi
  rw [List.getD_eq_getElem?_getD, List.getElem?_eq_getElem hl]
  rfl
set_option maxRecDepth 100000 in
set_option maxHeartbeats 4000000 in
theorem l2And_any (P Q : ByteArray) (hPQ : P.size = Q.size) (hP : P.size ≤ 1000) (w : World) : Calls Tryz.prog 37 #[.string P, .string Q] w fun e w' => (e = .returned (.string (bs (bitsN P.size (fun i => bt P.data.toList i && bt Q.data.toList i)))) ∧ Below w.heap.size w w') := by
  have hmk := run_make_row' (P := Tryz.prog) 22 5 (.int .u8 0) 1 Tryz.underlying22 u8_info rfl .i64 .i64 P.size (by omega) (by omega)
  obtain ⟨bb, hbt⟩ : ∃ f : Nat → Bool, (fun i => bt P.data.toList i && bt Q.data.toList i) = f := ⟨_, rfl⟩
  rw [hbt]
  have HBT := Lib.hid (fun i => congrFun hbt i)
  have R0 : Hid (ByteRow (w.alloc (.cells (madeCells #[.int .u8 0] P.size) 5)) w.heap.size (fillN (bitsN P.size bb) 0)) := by rw [part_zero, bits_len]; exact byteRow_made w P.size
  have B0 := Lib.hid (below_n w (.cells (madeCells #[.int .u8 0] P.size) 5))
  have HPQ := Lib.hid hPQ
  clear hbt hPQ
  go_enter Tryz.func37, Tryz.ntmps37
  go_wp2_with fail
  go_loopg [6] P.size (fun gk i wr => ∃ k : Nat, k + gk = P.size ∧ i = .int .i64 k ∧ Hid (ByteRow wr w.heap.size (fillN (bitsN P.size bb) k)) ∧ Hid (Below w.heap.size w wr))
  case atStart => exact ⟨0, by simp, rfl, R0, B0⟩
  case round =>
    clear R0 B0 hmk
    obtain ⟨j, hj, rfl, R, B⟩ := hrel
    by_cases hlt : j < P.size
    · have hlq : j < Q.size := by have := HPQ.out; omega
      obtain ⟨c, hc⟩ : ∃ c, P[j] = c := ⟨_, rfl⟩
      obtain ⟨d, hd⟩ : ∃ d, Q[j] = d := ⟨_, rfl⟩
      have hbj := (HBT.out j).symm
      rw [bt_at hlt, bt_at hlq, hc, hd] at hbj
      have hkl : j < (fillN (bitsN P.size bb) j).length := by rw [part_len _ _ (by rw [bits_len]; omega), bits_len]; exact hlt
      obtain ⟨⟨cv, hcc⟩, hf⟩ := R.out.any (i := j) hkl
      have B4 := Lib.hid (B.out.setCell (p := ⟨w.heap.size, j, none⟩) (Nat.le_refl _) (.int .u8 ((bitC (bb j)).toNat : Int)))
      have R4 := Lib.hid (row_step R.out hlt)
      clear R B hkl
      by_cases h1 : c = 49
      · subst h1
        by_cases h2 : d = 49
        · subst h2
          have hv : bb j = true := by rw [hbj]; rfl
          rw [hv] at R4 B4
          have BI := Lib.hid (l2Bit_any true)
          clear hv hbj
          go_wp2_with fail
          refine (BI.out _).mono ?_
          rintro e w' ⟨rfl, rfl⟩
          go_wp2_with fail
          go_roundg (gk - 1)
          case measure => omega
          case rel => exact ⟨j + 1, by omega, by go_num, R4, B4⟩
        · have e2 := u8_ne 49 h2 (by decide)
          have f2 : (d == 49) = false := by simpa using h2
          have hv : bb j = false := by rw [hbj]; simp [f2]
          rw [hv] at R4 B4
          have BI := Lib.hid (l2Bit_any false)
          clear hv hbj h2 f2
          simp only [Int.cast_ofNat_Int] at e2
          go_wp2_with fail
          refine (BI.out _).mono ?_
          rintro e w' ⟨rfl, rfl⟩
          go_wp2_with fail
          go_roundg (gk - 1)
          case measure => omega
          case rel => exact ⟨j + 1, by omega, by go_num, R4, B4⟩
      · have e1 := u8_ne 49 h1 (by decide)
        by_cases h2 : d = 49
        · subst h2
          have f1 : (c == 49) = false := by simpa using h1
          have hv : bb j = false := by rw [hbj]; simp [f1]
          rw [hv] at R4 B4
          have BI := Lib.hid (l2Bit_any false)
          clear hv hbj h1 f1
          simp only [Int.cast_ofNat_Int] at e1
          go_wp2_with fail
          refine (BI.out _).mono ?_
          rintro e w' ⟨rfl, rfl⟩
          go_wp2_with fail
          go_roundg (gk - 1)
          case measure => omega
          case rel => exact ⟨j + 1, by omega, by go_num, R4, B4⟩
        · have e2 := u8_ne 49 h2 (by decide)
          have f1 : (c == 49) = false := by simpa using h1
          have f2 : (d == 49) = false := by simpa using h2
          have hv : bb j = false := by rw [hbj]; simp [f1, f2]
          rw [hv] at R4 B4
          have BI := Lib.hid (l2Bit_any false)
          clear hv hbj h1 f1 h2 f2
          simp only [Int.cast_ofNat_Int] at e1
          simp only [Int.cast_ofNat_Int] at e2
          go_wp2_with fail
          refine (BI.out _).mono ?_
          rintro e w' ⟨rfl, rfl⟩
          go_wp2_with fail
          go_roundg (gk - 1)
          case measure => omega
          case rel => exact ⟨j + 1, by omega, by go_num, R4, B4⟩
    · obtain rfl : j = P.size := by omega
      have r := R.out
      have hpa := part_all (bitsN P.size bb)
      rw [bits_len] at hpa
      rw [hpa] at r
      have hback := bytes_back r (n := P.size) (by rw [bits_len]) P.size
      clear r R hpa hlt
      go_wp2_with fail
      go_ret
      exact ⟨rfl, B.out⟩
set_option maxRecDepth 100000 in
set_option maxHeartbeats 4000000 in
theorem l2Or_any (P Q : ByteArray) (hPQ : P.size = Q.size) (hP : P.size ≤ 1000) (w : World) : Calls Tryz.prog 27 #[.string P, .string Q] w fun e w' => (e = .returned (.string (bs (bitsN P.size (fun i => bt P.data.toList i || bt Q.data.toList i)))) ∧ Below w.heap.size w w') := by
  have hmk := run_make_row' (P := Tryz.prog) 22 5 (.int .u8 0) 1 Tryz.underlying22 u8_info rfl .i64 .i64 P.size (by omega) (by omega)
  obtain ⟨bb, hbt⟩ : ∃ f : Nat → Bool, (fun i => bt P.data.toList i || bt Q.data.toList i) = f := ⟨_, rfl⟩
  rw [hbt]
  have HBT := Lib.hid (fun i => congrFun hbt i)
  have R0 : Hid (ByteRow (w.alloc (.cells (madeCells #[.int .u8 0] P.size) 5)) w.heap.size (fillN (bitsN P.size bb) 0)) := by rw [part_zero, bits_len]; exact byteRow_made w P.size
  have B0 := Lib.hid (below_n w (.cells (madeCells #[.int .u8 0] P.size) 5))
  have HPQ := Lib.hid hPQ
  clear hbt hPQ
  go_enter Tryz.func27, Tryz.ntmps27
  go_wp2_with fail
  go_loopg [6] P.size (fun gk i wr => ∃ k : Nat, k + gk = P.size ∧ i = .int .i64 k ∧ Hid (ByteRow wr w.heap.size (fillN (bitsN P.size bb) k)) ∧ Hid (Below w.heap.size w wr))
  case atStart => exact ⟨0, by simp, rfl, R0, B0⟩
  case round =>
    clear R0 B0 hmk
    obtain ⟨j, hj, rfl, R, B⟩ := hrel
    by_cases hlt : j < P.size
    · have hlq : j < Q.size := by have := HPQ.out; omega
      obtain ⟨c, hc⟩ : ∃ c, P[j] = c := ⟨_, rfl⟩
      obtain ⟨d, hd⟩ : ∃ d, Q[j] = d := ⟨_, rfl⟩
      have hbj := (HBT.out j).symm
      rw [bt_at hlt, bt_at hlq, hc, hd] at hbj
      have hkl : j < (fillN (bitsN P.size bb) j).length := by rw [part_len _ _ (by rw [bits_len]; omega), bits_len]; exact hlt
      obtain ⟨⟨cv, hcc⟩, hf⟩ := R.out.any (i := j) hkl
      have B4 := Lib.hid (B.out.setCell (p := ⟨w.heap.size, j, none⟩) (Nat.le_refl _) (.int .u8 ((bitC (bb j)).toNat : Int)))
      have R4 := Lib.hid (row_step R.out hlt)
      clear R B hkl
      by_cases h1 : c = 49
      · subst h1
        by_cases h2 : d = 49
        · subst h2
          have hv : bb j = true := by rw [hbj]; rfl
          rw [hv] at R4 B4
          have BI := Lib.hid (l2Bit_any true)
          clear hv hbj
          go_wp2_with fail
          refine (BI.out _).mono ?_
          rintro e w' ⟨rfl, rfl⟩
          go_wp2_with fail
          go_roundg (gk - 1)
          case measure => omega
          case rel => exact ⟨j + 1, by omega, by go_num, R4, B4⟩
        · have e2 := u8_ne 49 h2 (by decide)
          have f2 : (d == 49) = false := by simpa using h2
          have hv : bb j = true := by rw [hbj]; simp [f2]
          rw [hv] at R4 B4
          have BI := Lib.hid (l2Bit_any true)
          clear hv hbj h2 f2
          simp only [Int.cast_ofNat_Int] at e2
          go_wp2_with fail
          refine (BI.out _).mono ?_
          rintro e w' ⟨rfl, rfl⟩
          go_wp2_with fail
          go_roundg (gk - 1)
          case measure => omega
          case rel => exact ⟨j + 1, by omega, by go_num, R4, B4⟩
      · have e1 := u8_ne 49 h1 (by decide)
        by_cases h2 : d = 49
        · subst h2
          have f1 : (c == 49) = false := by simpa using h1
          have hv : bb j = true := by rw [hbj]; simp [f1]
          rw [hv] at R4 B4
          have BI := Lib.hid (l2Bit_any true)
          clear hv hbj h1 f1
          simp only [Int.cast_ofNat_Int] at e1
          go_wp2_with fail
          refine (BI.out _).mono ?_
          rintro e w' ⟨rfl, rfl⟩
          go_wp2_with fail
          go_roundg (gk - 1)
          case measure => omega
          case rel => exact ⟨j + 1, by omega, by go_num, R4, B4⟩
        · have e2 := u8_ne 49 h2 (by decide)
          have f1 : (c == 49) = false := by simpa using h1
          have f2 : (d == 49) = false := by simpa using h2
          have hv : bb j = false := by rw [hbj]; simp [f1, f2]
          rw [hv] at R4 B4
          have BI := Lib.hid (l2Bit_any false)
          clear hv hbj h1 f1 h2 f2
          simp only [Int.cast_ofNat_Int] at e1
          simp only [Int.cast_ofNat_Int] at e2
          go_wp2_with fail
          refine (BI.out _).mono ?_
          rintro e w' ⟨rfl, rfl⟩
          go_wp2_with fail
          go_roundg (gk - 1)
          case measure => omega
          case rel => exact ⟨j + 1, by omega, by go_num, R4, B4⟩
    · obtain rfl : j = P.size := by omega
      have r := R.out
      have hpa := part_all (bitsN P.size bb)
      rw [bits_len] at hpa
      rw [hpa] at r
      have hback := bytes_back r (n := P.size) (by rw [bits_len]) P.size
      clear r R hpa hlt
      go_wp2_with fail
      go_ret
      exact ⟨rfl, B.out⟩
/-- one set within another -/
def win (p q : List UInt8) : Bool := (List.range 27).all (fun i => !bt p i || bt q i)
theorem win_iff {p q : List UInt8} : win p q = true ↔ ∀ i, i < 27 → bt p i = true → bt q i = true := by
  simp only [win, List.all_eq_true, List.mem_range, Bool.or_eq_true, Bool.not_eq_true']
  constructor
  · intro h i hi hp
    rcases h i hi with e | e
    · rw [hp] at e; cases e
    · exact e
  · intro h i hi
    cases hp : bt p i
    · exact .inl rfl
    · exact .inr (h i hi hp)
theorem win_no {p q : List UInt8} {i : Nat} (hi : i < 27) (h1 : bt p i = true) (h2 : bt q i = false) : win p q = false := by
  cases h : win p q
  · rfl
  · have := win_iff.1 h i hi h1
    rw [h2] at this; cases this
def winO (p q : List UInt8) : Bool := bOk 27 p && bOk 27 q && win p q
theorem win_and {P : ByteArray} {q : List UInt8} (hp : bOk 27 P.data.toList = true) : ((bs (bitsN 27 (fun i => bt P.data.toList i && bt q i))).toList == P.toList) = win P.data.toList q := by
  rw [Bool.eq_iff_iff, beq_iff_eq, ByteArray.toList_eq, ByteArray.toList_eq, bs_list, win_iff]
  constructor
  · intro h i hi h1
    have h2 : bt (bitsN 27 (fun i => bt P.data.toList i && bt q i)) i = true := by rw [h]; exact h1
    rw [bt_bits hi] at h2
    simp at h2
    exact h2.2
  · intro h
    rw [← bits_of hp]
    apply bits_congr
    intro i hi
    rw [bits_of hp]
    cases h1 : bt P.data.toList i
    · rfl
    · rw [h i hi h1]; rfl
/-- how many states a set has -/
def cntP (l : List UInt8) : Int := if bOk 27 l then (cnt 27 (bt l) : Int) else -1
theorem count_of {l : List UInt8} (h : bOk 27 l = true) : l.count 49 = cnt 27 (bt l) := by
  rw [← cnt_bits, bits_of h]
/-- a drawn set -/
def SetPost (w : World) (g p n k : Nat) (e : Ending) (w' : World) : Prop :=
  ∃ S : ByteArray, S.size ≤ n ∧ e = .returned (.string S) ∧ Drew w g p k w'
def Set27 (w : World) (g p k : Nat) (e : Ending) (w' : World) : Prop :=
  ∃ S : ByteArray, S.size = 27 ∧ e = .returned (.string S) ∧ Drew w g p k w'
theorem ByteRow.grown {w w' : World} {g b : Nat} {l : List UInt8} (h : ByteRow w b l) (hg : w.grownBy w' (some g)) (hne : b ≠ g) : ByteRow w' b l :=
  h.keep hg.size (hg.block b h.lt (fun e => hne (by injection e)))

end Go.Proofs.YtndlhdmpfnadcaaGreatDoor

/- Drawn sets of states. -/
namespace Go.Proofs.YtndlhdmpfnadcaaGreatDoor
open Go.RowKit
open Pl

theorem Rnd.put8 {w : World} {g p r i : Nat} {l : List UInt8} (h : Rnd w g p) (hr : ByteRow w r l) (hi : i < l.length) (hne : g ≠ r) (c : UInt8) : Rnd (w.setCell ⟨r, i, none⟩ (.int .u8 (c.toNat : Int))) g p := by
  obtain ⟨A, n, cap, hb, hn, hy⟩ := h
  refine ⟨A, n, cap, hb.far (p := ⟨r, i, none⟩) hne _, hn, ?_⟩
  rcases hy with hy | ⟨b, off, hA, hbg, hlt, hc⟩
  · exact .inl hy
  · refine .inr ⟨b, off, hA, hbg, ?_, fun j hj => ?_⟩
    · have := (grownBy_setCell w ⟨r, i, none⟩ (.int .u8 (c.toNat : Int))).size
      omega
    · obtain ⟨u, hu, hcu⟩ := hc j hj
      by_cases e : b = r ∧ off + j = i
      · obtain ⟨rfl, rfl⟩ := e
        exact ⟨c.toNat, by have := c.toNat_lt; omega, World.cell?_setCell_same w _ _ (hr.cell _ hi)⟩
      · exact ⟨u, hu, (World.cell?_setCell_other w _ _ _ (by intro h; injection h with h1 h2; exact e ⟨h1.symm, h2.symm⟩)).trans hcu⟩
theorem size_bits (n : Nat) (f : Nat → Bool) : (bs (bitsN n f)).size = n := by
  rw [← len_S, bs_list, bits_len]
theorem size_row {l : List UInt8} (h : l.length = 27) : (⟨l.toArray⟩ : ByteArray).size = 27 := by
  rw [← len_S]; exact h
theorem xyz_v : ∀ c ∈ (⟨#[120, 121, 122]⟩ : ByteArray).data.toList, isV false c = true := by
  intro c hc
  simp only [List.mem_cons, List.not_mem_nil, or_false] at hc
  rcases hc with rfl | rfl | rfl <;> rfl

end Go.Proofs.YtndlhdmpfnadcaaGreatDoor

/- Facts on sets of states put together. -/
namespace Go.Proofs.YtndlhdmpfnadcaaGreatDoor
open Go.RowKit
open Pl

theorem cnt_congr {n : Nat} {f g : Nat → Bool} (h : ∀ i, i < n → f i = g i) : cnt n f = cnt n g := by
  unfold cnt
  apply List.countP_congr
  intro i hi
  rw [h i (by simpa using hi)]
theorem notO_some {P : ByteArray} (hp : bOk 27 P.data.toList = true) : optB (notO P) = bitsN 27 (fun i => !bt P.data.toList i) := by unfold notO; rw [hp]; rfl
theorem both_some {P Q : ByteArray} (f : Bool → Bool → Bool) (hp : bOk 27 P.data.toList = true) (hq : bOk 27 Q.data.toList = true) : optB (both P Q f) = bitsN 27 (fun i => f (bt P.data.toList i) (bt Q.data.toList i)) := by unfold both; rw [hp, hq]; rfl
theorem not_ok {P : ByteArray} (hp : bOk 27 P.data.toList = true) : bOk 27 (bs (optB (notO P))).data.toList = true := by rw [bs_list, notO_some hp]; exact bits_ok _ _
theorem both_ok {P Q : ByteArray} (f : Bool → Bool → Bool) (hp : bOk 27 P.data.toList = true) (hq : bOk 27 Q.data.toList = true) : bOk 27 (bs (optB (both P Q f))).data.toList = true := by rw [bs_list, both_some f hp hq]; exact bits_ok _ _
theorem bt_notO {P : ByteArray} (hp : bOk 27 P.data.toList = true) {i : Nat} (hi : i < 27) : bt (bs (optB (notO P))).data.toList i = !bt P.data.toList i := by rw [bs_list, notO_some hp, bt_bits hi]
theorem bt_both {P Q : ByteArray} (f : Bool → Bool → Bool) (hp : bOk 27 P.data.toList = true) (hq : bOk 27 Q.data.toList = true) {i : Nat} (hi : i < 27) : bt (bs (optB (both P Q f))).data.toList i = f (bt P.data.toList i) (bt Q.data.toList i) := by rw [bs_list, both_some f hp hq, bt_bits hi]
theorem ok_size {P : ByteArray} (hp : bOk 27 P.data.toList = true) : P.size = 27 := by rw [← len_S, bOk_len hp]
theorem cntP_ok {l : List UInt8} (h : bOk 27 l = true) : cntP l = cnt 27 (bt l) := by unfold cntP; rw [h]; rfl
theorem eq_of_bt {P Q : ByteArray} (hp : bOk 27 P.data.toList = true) (hq : bOk 27 Q.data.toList = true) (h : ∀ i, i < 27 → bt P.data.toList i = bt Q.data.toList i) : P = Q := by
  have e : P.data.toList = Q.data.toList := by rw [← bits_of hp, ← bits_of hq]; exact bits_congr h
  rw [← bs_of P, ← bs_of Q, e]
theorem bt_of_eq {P Q : ByteArray} (h : P = Q) (i : Nat) : bt P.data.toList i = bt Q.data.toList i := by rw [h]
theorem str_beq {P Q : ByteArray} {b : Bool} (h : P = Q ↔ b = true) : (P.toList == Q.toList) = b := by
  rw [Bool.eq_iff_iff, beq_iff_eq, ByteArray.toList_eq, ByteArray.toList_eq, ← h]
  constructor
  · intro e; rw [← bs_of P, ← bs_of Q, e]
  · intro e; rw [e]
theorem fact_cnt {P Q : ByteArray} (hp : bOk 27 P.data.toList = true) (hq : bOk 27 Q.data.toList = true) : (cntP (bs (optB (both P (bs (optB (notO Q))) (· && ·)))).data.toList == 0) = win P.data.toList Q.data.toList := by
  rw [cntP_ok (both_ok _ hp (not_ok hq)), Bool.eq_iff_iff, beq_iff_eq, win_iff]
  have h0 : ((cnt 27 (bt (bs (optB (both P (bs (optB (notO Q))) (· && ·)))).data.toList) : Int) = 0) ↔ cnt 27 (bt (bs (optB (both P (bs (optB (notO Q))) (· && ·)))).data.toList) = 0 := by omega
  rw [h0, cnt_zero]
  constructor
  · intro h i hi h1
    have h2 := h i hi
    rw [bt_both _ hp (not_ok hq) hi, bt_notO hq hi, h1] at h2
    simpa using h2
  · intro h i hi
    rw [bt_both _ hp (not_ok hq) hi, bt_notO hq hi]
    cases h1 : bt P.data.toList i
    · rfl
    · rw [h i hi h1]; rfl
theorem fact_or {P Q : ByteArray} (hp : bOk 27 P.data.toList = true) (hq : bOk 27 Q.data.toList = true) : ((bs (optB (both P Q (· || ·)))).toList == Q.toList) = win P.data.toList Q.data.toList := by
  apply str_beq
  rw [win_iff]
  constructor
  · intro h i hi h1
    have h2 := bt_of_eq h i
    rw [bt_both _ hp hq hi, h1] at h2
    exact h2.symm
  · intro h
    apply eq_of_bt (both_ok _ hp hq) hq
    intro i hi
    rw [bt_both _ hp hq hi]
    cases h1 : bt P.data.toList i
    · rfl
    · rw [h i hi h1]; rfl
theorem fact_not {P Q : ByteArray} (hp : bOk 27 P.data.toList = true) (hq : bOk 27 Q.data.toList = true) : winO (bs (optB (notO Q))).data.toList (bs (optB (notO P))).data.toList = win P.data.toList Q.data.toList := by
  unfold winO
  rw [not_ok hp, not_ok hq, Bool.true_and, Bool.true_and, Bool.eq_iff_iff, win_iff, win_iff]
  constructor
  · intro h i hi h1
    have h2 := h i hi
    rw [bt_notO hp hi, bt_notO hq hi, h1] at h2
    cases h3 : bt Q.data.toList i
    · rw [h3] at h2; simp at h2
    · rfl
  · intro h i hi h1
    rw [bt_notO hq hi] at h1
    rw [bt_notO hp hi]
    cases h3 : bt P.data.toList i
    · rfl
    · rw [h i hi h3] at h1; simp at h1
theorem fact_eq {P Q : ByteArray} (hp : bOk 27 P.data.toList = true) (hq : bOk 27 Q.data.toList = true) (h1 : win P.data.toList Q.data.toList = true) (h2 : win Q.data.toList P.data.toList = true) : P = Q := by
  apply eq_of_bt hp hq
  intro i hi
  rw [Bool.eq_iff_iff]
  exact ⟨win_iff.1 h1 i hi, win_iff.1 h2 i hi⟩

end Go.Proofs.YtndlhdmpfnadcaaGreatDoor
