/- Sets of states put together, compared and counted, on both sides; drawn sets. -/
import Derived.Test.YtppcghklkldnaabPd
import Derived.Test.YtppcghklkldnaabDrv
import Derived.Test.YtppcghklkldnaabBi
namespace Go.Proofs.Ytppcghklkldnaab
open Go.RowKit
open Pl

theorem bt_at {S : ByteArray} {i : Nat} (hi : i < S.size) : bt S.data.toList i = (S[i] == 49) := by
  unfold bt
  have hl : i < S.data.toList.length := by rw [len_S]; exact hi
  rw [List.getD_eq_getElem?_getD, List.getElem?_eq_getElem hl]
  rfl
set_option maxRecDepth 100000 in
set_option maxHeartbeats 4000000 in
theorem l2And_any (P Q : ByteArray) (hPQ : P.size = Q.size) (hP : P.size ≤ 1000) (w : World) : Calls Try.prog 63 #[.string P, .string Q] w fun e w' => (e = .returned (.string (bs (bitsN P.size (fun i => bt P.data.toList i && bt Q.data.toList i)))) ∧ Below w.heap.size w w') := by
  have hmk := run_make_row' (P := Try.prog) 22 5 (.int .u8 0) 1 Try.underlying22 u8_info rfl .i64 .i64 P.size (by omega) (by omega)
  obtain ⟨bb, hbt⟩ : ∃ f : Nat → Bool, (fun i => bt P.data.toList i && bt Q.data.toList i) = f := ⟨_, rfl⟩
  rw [hbt]
  have HBT := Lib.hid (fun i => congrFun hbt i)
  have R0 : Hid (ByteRow (w.alloc (.cells (madeCells #[.int .u8 0] P.size) 5)) w.heap.size (fillN (bitsN P.size bb) 0)) := by rw [part_zero, bits_len]; exact byteRow_made w P.size
  have B0 := Lib.hid (below_n w (.cells (madeCells #[.int .u8 0] P.size) 5))
  have HPQ := Lib.hid hPQ
  clear hbt hPQ
  go_enter Try.func63, Try.ntmps63
  go_wp2_with fail
  go_loopg [6] P.size (fun gk i wr => ∃ k : Nat, k + gk = P.size ∧ i = .int .i64 k ∧ Hid (ByteRow wr w.heap.size (fillN (bitsN P.size bb) k)) ∧ Hid (Below w.heap.size w wr))
  case atStart => exact ⟨0, by simp, rfl, R0, B0⟩
  case round =>
    clear R0 B0 hmk
    obtain ⟨j, hj, rfl, R, B⟩ := hrel
    by_cases hlt : j < P.size
    · have hlq : j < Q.size := by have := HPQ.out; omega
      obtain ⟨c, hc⟩ : ∃ c, P[j] = c := ⟨_, rfl⟩
      obtain ⟨d, hd⟩ : ∃ d, Q[j] = d := ⟨_, rfl⟩
      have hbj := (HBT.out j).symm
      rw [bt_at hlt, bt_at hlq, hc, hd] at hbj
      have hkl : j < (fillN (bitsN P.size bb) j).length := by rw [part_len _ _ (by rw [bits_len]; omega), bits_len]; exact hlt
      obtain ⟨⟨cv, hcc⟩, hf⟩ := R.out.any (i := j) hkl
      have B4 := Lib.hid (B.out.setCell (p := ⟨w.heap.size, j, none⟩) (Nat.le_refl _) (.int .u8 ((bitC (bb j)).toNat : Int)))
      have R4 := Lib.hid (row_step R.out hlt)
      clear R B hkl
      by_cases h1 : c = 49
      · subst h1
        by_cases h2 : d = 49
        · subst h2
          have hv : bb j = true := by rw [hbj]; rfl
          rw [hv] at R4 B4
          have BI := Lib.hid (l2Bit_any true)
          clear hv hbj
          go_wp2_with fail
          refine (BI.out _).mono ?_
          rintro e w' ⟨rfl, rfl⟩
          go_wp2_with fail
          go_roundg (gk - 1)
          case measure => omega
          case rel => exact ⟨j + 1, by omega, by go_num, R4, B4⟩
        · have e2 := u8_ne 49 h2 (by decide)
          have f2 : (d == 49) = false := by simpa using h2
          have hv : bb j = false := by rw [hbj]; simp [f2]
          rw [hv] at R4 B4
          have BI := Lib.hid (l2Bit_any false)
          clear hv hbj h2 f2
          simp only [Int.cast_ofNat_Int] at e2
          go_wp2_with fail
          refine (BI.out _).mono ?_
          rintro e w' ⟨rfl, rfl⟩
          go_wp2_with fail
          go_roundg (gk - 1)
          case measure => omega
          case rel => exact ⟨j + 1, by omega, by go_num, R4, B4⟩
      · have e1 := u8_ne 49 h1 (by decide)
        by_cases h2 : d = 49
        · subst h2
          have f1 : (c == 49) = false := by simpa using h1
          have hv : bb j = false := by rw [hbj]; simp [f1]
          rw [hv] at R4 B4
          have BI := Lib.hid (l2Bit_any false)
          clear hv hbj h1 f1
          simp only [Int.cast_ofNat_Int] at e1
          go_wp2_with fail
          refine (BI.out _).mono ?_
          rintro e w' ⟨rfl, rfl⟩
          go_wp2_with fail
          go_roundg (gk - 1)
          case measure => omega
          case rel => exact ⟨j + 1, by omega, by go_num, R4, B4⟩
        · have e2 := u8_ne 49 h2 (by decide)
          have f1 : (c == 49) = false := by simpa using h1
          have f2 : (d == 49) = false := by simpa using h2
          have hv : bb j = false := by rw [hbj]; simp [f1, f2]
          rw [hv] at R4 B4
          have BI := Lib.hid (l2Bit_any false)
          clear hv hbj h1 f1 h2 f2
          simp only [Int.cast_ofNat_Int] at e1
          simp only [Int.cast_ofNat_Int] at e2
          go_wp2_with fail
          refine (BI.out _).mono ?_
          rintro e w' ⟨rfl, rfl⟩
          go_wp2_with fail
          go_roundg (gk - 1)
          case measure => omega
          case rel => exact ⟨j + 1, by omega, by go_num, R4, B4⟩
    · obtain rfl : j = P.size := by omega
      have r := R.out
      have hpa := part_all (bitsN P.size bb)
      rw [bits_len] at hpa
      rw [hpa] at r
      have hback := bytes_back r (n := P.size) (by rw [bits_len]) P.size
      clear r R hpa hlt
      go_wp2_with fail
      go_ret
      exact ⟨rfl, B.out⟩
set_option maxRecDepth 100000 in
set_option maxHeartbeats 4000000 in
theorem l2Or_any (P Q : ByteArray) (hPQ : P.size = Q.size) (hP : P.size ≤ 1000) (w : World) : Calls Try.prog 68 #[.string P, .string Q] w fun e w' => (e = .returned (.string (bs (bitsN P.size (fun i => bt P.data.toList i || bt Q.data.toList i)))) ∧ Below w.heap.size w w') := by
  have hmk := run_make_row' (P := Try.prog) 22 5 (.int .u8 0) 1 Try.underlying22 u8_info rfl .i64 .i64 P.size (by omega) (by omega)
  obtain ⟨bb, hbt⟩ : ∃ f : Nat → Bool, (fun i => bt P.data.toList i || bt Q.data.toList i) = f := ⟨_, rfl⟩
  rw [hbt]
  have HBT := Lib.hid (fun i => congrFun hbt i)
  have R0 : Hid (ByteRow (w.alloc (.cells (madeCells #[.int .u8 0] P.size) 5)) w.heap.size (fillN (bitsN P.size bb) 0)) := by rw [part_zero, bits_len]; exact byteRow_made w P.size
  have B0 := Lib.hid (below_n w (.cells (madeCells #[.int .u8 0] P.size) 5))
  have HPQ := Lib.hid hPQ
  clear hbt hPQ
  go_enter Try.func68, Try.ntmps68
  go_wp2_with fail
  go_loopg [6] P.size (fun gk i wr => ∃ k : Nat, k + gk = P.size ∧ i = .int .i64 k ∧ Hid (ByteRow wr w.heap.size (fillN (bitsN P.size bb) k)) ∧ Hid (Below w.heap.size w wr))
  case atStart => exact ⟨0, by simp, rfl, R0, B0⟩
  case round =>
    clear R0 B0 hmk
    obtain ⟨j, hj, rfl, R, B⟩ := hrel
    by_cases hlt : j < P.size
    · have hlq : j < Q.size := by have := HPQ.out; omega
      obtain ⟨c, hc⟩ : ∃ c, P[j] = c := ⟨_, rfl⟩
      obtain ⟨d, hd⟩ : ∃ d, Q[j] = d := ⟨_, rfl⟩
      have hbj := (HBT.out j).symm
      rw [bt_at hlt, bt_at hlq, hc, hd] at hbj
      have hkl : j < (fillN (bitsN P.size bb) j).length := by rw [part_len _ _ (by rw [bits_len]; omega), bits_len]; exact hlt
      obtain ⟨⟨cv, hcc⟩, hf⟩ := R.out.any (i := j) hkl
      have B4 := Lib.hid (B.out.setCell (p := ⟨w.heap.size, j, none⟩) (Nat.le_refl _) (.int .u8 ((bitC (bb j)).toNat : Int)))
      have R4 := Lib.hid (row_step R.out hlt)
      clear R B hkl
      by_cases h1 : c = 49
      · subst h1
        by_cases h2 : d = 49
        · subst h2
          have hv : bb j = true := by rw [hbj]; rfl
          rw [hv] at R4 B4
          have BI := Lib.hid (l2Bit_any true)
          clear hv hbj
          go_wp2_with fail
          refine (BI.out _).mono ?_
          rintro e w' ⟨rfl, rfl⟩
          go_wp2_with fail
          go_roundg (gk - 1)
          case measure => omega
          case rel => exact ⟨j + 1, by omega, by go_num, R4, B4⟩
        · have e2 := u8_ne 49 h2 (by decide)
          have f2 : (d == 49) = false := by simpa using h2
          have hv : bb j = true := by rw [hbj]; simp [f2]
          rw [hv] at R4 B4
          have BI := Lib.hid (l2Bit_any true)
          clear hv hbj h2 f2
          simp only [Int.cast_ofNat_Int] at e2
          go_wp2_with fail
          refine (BI.out _).mono ?_
          rintro e w' ⟨rfl, rfl⟩
          go_wp2_with fail
          go_roundg (gk - 1)
          case measure => omega
          case rel => exact ⟨j + 1, by omega, by go_num, R4, B4⟩
      · have e1 := u8_ne 49 h1 (by decide)
        by_cases h2 : d = 49
        · subst h2
          have f1 : (c == 49) = false := by simpa using h1
          have hv : bb j = true := by rw [hbj]; simp [f1]
          rw [hv] at R4 B4
          have BI := Lib.hid (l2Bit_any true)
          clear hv hbj h1 f1
          simp only [Int.cast_ofNat_Int] at e1
          go_wp2_with fail
          refine (BI.out _).mono ?_
          rintro e w' ⟨rfl, rfl⟩
          go_wp2_with fail
          go_roundg (gk - 1)
          case measure => omega
          case rel => exact ⟨j + 1, by omega, by go_num, R4, B4⟩
        · have e2 := u8_ne 49 h2 (by decide)
          have f1 : (c == 49) = false := by simpa using h1
          have f2 : (d == 49) = false := by simpa using h2
          have hv : bb j = false := by rw [hbj]; simp [f1, f2]
          rw [hv] at R4 B4
          have BI := Lib.hid (l2Bit_any false)
          clear hv hbj h1 f1 h2 f2
          simp only [Int.cast_ofNat_Int] at e1
          simp only [Int.cast_ofNat_Int] at e2
          go_wp2_with fail
          refine (BI.out _).mono ?_
          rintro e w' ⟨rfl, rfl⟩
          go_wp2_with fail
          go_roundg (gk - 1)
          case measure => omega
          case rel => exact ⟨j + 1, by omega, by go_num, R4, B4⟩
    · obtain rfl : j = P.size := by omega
      have r := R.out
      have hpa := part_all (bitsN P.size bb)
      rw [bits_len] at hpa
      rw [hpa] at r
      have hback := bytes_back r (n := P.size) (by rw [bits_len]) P.size
      clear r R hpa hlt
      go_wp2_with fail
      go_ret
      exact ⟨rfl, B.out⟩
set_option maxHeartbeats 2000000 in
theorem AndPredS_any (P Q : ByteArray) (hP : P.size ≤ 1000000000000) (hQ : Q.size ≤ 1000000000000) (w : World) : Calls Try.prog 27 #[.string P, .string Q] w fun e w' => (e = .returned (.tuple #[.string (bs (optB (both P Q (· && ·)))), .bool (both P Q (· && ·)).isSome]) ∧ Below w.heap.size w w') := by
  have V := Lib.hid (fun w => PredValidS_any P hP w)
  have U := Lib.hid (fun w => PredValidS_any Q hQ w)
  cases hp : bOk 27 P.data.toList
  · have hr : both P Q (· && ·) = none := by unfold both; rw [hp]; rfl
    rw [hr]
    rw [hp] at V
    simp only [optB, Option.isSome_none]
    clear hr
    go_enter Try.func27, Try.ntmps27
    go_wp2_with fail
    refine (V.out _).mono ?_
    rintro e w' ⟨rfl, rfl⟩
    go_wp2_with fail
    go_ret2
    exact ⟨(by first | trivial | rfl), Below.refl _ _⟩
  · cases hq : bOk 27 Q.data.toList
    · have hr : both P Q (· && ·) = none := by unfold both; rw [hp, hq]; rfl
      rw [hr]
      rw [hp] at V
      rw [hq] at U
      simp only [optB, Option.isSome_none]
      clear hr
      go_enter Try.func27, Try.ntmps27
      go_wp2_with fail
      refine (V.out _).mono ?_
      rintro e w' ⟨rfl, rfl⟩
      go_wp2_with fail
      refine (U.out _).mono ?_
      rintro e w' ⟨rfl, rfl⟩
      go_wp2_with fail
      go_ret2
      exact ⟨(by first | trivial | rfl), Below.refl _ _⟩
    · have hr : both P Q (· && ·) = some (bitsN 27 (fun i => (· && ·) (bt P.data.toList i) (bt Q.data.toList i))) := by unfold both; rw [hp, hq]; rfl
      have z1 : P.size = 27 := by rw [← len_S, bOk_len hp]
      have z2 : Q.size = 27 := by rw [← len_S, bOk_len hq]
      rw [hr]
      rw [hp] at V
      rw [hq] at U
      simp only [optB, Option.isSome_some]
      have X := Lib.hid (fun w => l2And_any P Q (by omega) (by omega) w)
      rw [z1] at X
      clear hr hp hq z1 z2
      go_enter Try.func27, Try.ntmps27
      go_wp2_with fail
      refine (V.out _).mono ?_
      rintro e w' ⟨rfl, rfl⟩
      go_wp2_with fail
      refine (U.out _).mono ?_
      rintro e w' ⟨rfl, rfl⟩
      go_wp2_with fail
      refine (X.out _).mono ?_
      rintro e w3 ⟨rfl, hb3⟩
      have B3 := Lib.hid hb3
      clear hb3
      go_wp2_with fail
      go_ret2
      exact ⟨(by first | trivial | rfl), B3.out⟩
set_option maxHeartbeats 2000000 in
theorem OrPredS_any (P Q : ByteArray) (hP : P.size ≤ 1000000000000) (hQ : Q.size ≤ 1000000000000) (w : World) : Calls Try.prog 29 #[.string P, .string Q] w fun e w' => (e = .returned (.tuple #[.string (bs (optB (both P Q (· || ·)))), .bool (both P Q (· || ·)).isSome]) ∧ Below w.heap.size w w') := by
  have V := Lib.hid (fun w => PredValidS_any P hP w)
  have U := Lib.hid (fun w => PredValidS_any Q hQ w)
  cases hp : bOk 27 P.data.toList
  · have hr : both P Q (· || ·) = none := by unfold both; rw [hp]; rfl
    rw [hr]
    rw [hp] at V
    simp only [optB, Option.isSome_none]
    clear hr
    go_enter Try.func29, Try.ntmps29
    go_wp2_with fail
    refine (V.out _).mono ?_
    rintro e w' ⟨rfl, rfl⟩
    go_wp2_with fail
    go_ret2
    exact ⟨(by first | trivial | rfl), Below.refl _ _⟩
  · cases hq : bOk 27 Q.data.toList
    · have hr : both P Q (· || ·) = none := by unfold both; rw [hp, hq]; rfl
      rw [hr]
      rw [hp] at V
      rw [hq] at U
      simp only [optB, Option.isSome_none]
      clear hr
      go_enter Try.func29, Try.ntmps29
      go_wp2_with fail
      refine (V.out _).mono ?_
      rintro e w' ⟨rfl, rfl⟩
      go_wp2_with fail
      refine (U.out _).mono ?_
      rintro e w' ⟨rfl, rfl⟩
      go_wp2_with fail
      go_ret2
      exact ⟨(by first | trivial | rfl), Below.refl _ _⟩
    · have hr : both P Q (· || ·) = some (bitsN 27 (fun i => (· || ·) (bt P.data.toList i) (bt Q.data.toList i))) := by unfold both; rw [hp, hq]; rfl
      have z1 : P.size = 27 := by rw [← len_S, bOk_len hp]
      have z2 : Q.size = 27 := by rw [← len_S, bOk_len hq]
      rw [hr]
      rw [hp] at V
      rw [hq] at U
      simp only [optB, Option.isSome_some]
      have X := Lib.hid (fun w => l2Or_any P Q (by omega) (by omega) w)
      rw [z1] at X
      clear hr hp hq z1 z2
      go_enter Try.func29, Try.ntmps29
      go_wp2_with fail
      refine (V.out _).mono ?_
      rintro e w' ⟨rfl, rfl⟩
      go_wp2_with fail
      refine (U.out _).mono ?_
      rintro e w' ⟨rfl, rfl⟩
      go_wp2_with fail
      refine (X.out _).mono ?_
      rintro e w3 ⟨rfl, hb3⟩
      have B3 := Lib.hid hb3
      clear hb3
      go_wp2_with fail
      go_ret2
      exact ⟨(by first | trivial | rfl), B3.out⟩
/-- one set within another -/
def win (p q : List UInt8) : Bool := (List.range 27).all (fun i => !bt p i || bt q i)
theorem win_iff {p q : List UInt8} : win p q = true ↔ ∀ i, i < 27 → bt p i = true → bt q i = true := by
  simp only [win, List.all_eq_true, List.mem_range, Bool.or_eq_true, Bool.not_eq_true']
  constructor
  · intro h i hi hp
    rcases h i hi with e | e
    · rw [hp] at e; cases e
    · exact e
  · intro h i hi
    cases hp : bt p i
    · exact .inl rfl
    · exact .inr (h i hi hp)
theorem win_no {p q : List UInt8} {i : Nat} (hi : i < 27) (h1 : bt p i = true) (h2 : bt q i = false) : win p q = false := by
  cases h : win p q
  · rfl
  · have := win_iff.1 h i hi h1
    rw [h2] at this; cases this
def winO (p q : List UInt8) : Bool := bOk 27 p && bOk 27 q && win p q
theorem win_and {P : ByteArray} {q : List UInt8} (hp : bOk 27 P.data.toList = true) : ((bs (bitsN 27 (fun i => bt P.data.toList i && bt q i))).toList == P.toList) = win P.data.toList q := by
  rw [Bool.eq_iff_iff, beq_iff_eq, ByteArray.toList_eq, ByteArray.toList_eq, bs_list, win_iff]
  constructor
  · intro h i hi h1
    have h2 : bt (bitsN 27 (fun i => bt P.data.toList i && bt q i)) i = true := by rw [h]; exact h1
    rw [bt_bits hi] at h2
    simp at h2
    exact h2.2
  · intro h
    rw [← bits_of hp]
    apply bits_congr
    intro i hi
    rw [bits_of hp]
    cases h1 : bt P.data.toList i
    · rfl
    · rw [h i hi h1]; rfl
set_option maxRecDepth 100000 in
set_option maxHeartbeats 4000000 in
theorem bitsWithin_any (P Q : ByteArray) (hp : bOk 27 P.data.toList = true) (hq : bOk 27 Q.data.toList = true) (w : World) : Calls Try.prog 62 #[.string P, .string Q] w fun e w' => e = .returned (.bool (win P.data.toList Q.data.toList)) ∧ w = w' := by
  have z1 : P.size = 27 := by rw [← len_S, bOk_len hp]
  have z2 : Q.size = 27 := by rw [← len_S, bOk_len hq]
  have HP := Lib.hid hp
  have HQ := Lib.hid hq
  clear hp hq
  go_enter Try.func62, Try.ntmps62
  go_wp2_with fail
  go_loopg [8] P.size (fun gk i wr => ∃ j : Nat, j + gk = P.size ∧ i = .int .i64 j ∧ Hid (∀ i, i < j → bt P.data.toList i = true → bt Q.data.toList i = true) ∧ wr = w)
  case atStart => exact ⟨0, by omega, rfl, Lib.hid (fun i h => absurd h (by omega)), rfl⟩
  case round =>
    obtain ⟨j, hj, rfl, HR, rfl⟩ := hrel
    by_cases hlt : j < P.size
    · have hlq : j < Q.size := by omega
      have h27 : j < 27 := by omega
      cases hb : bt P.data.toList j
      · have c1 := bt_zero HP.out hlt hb
        have HR2 : Hid (∀ i, i < j + 1 → bt P.data.toList i = true → bt Q.data.toList i = true) := fun i hi h => by
          by_cases e : i = j
          · subst e; rw [hb] at h; cases h
          · exact HR.out i (by omega) h
        clear hb
        clear HR
        go_wp2_with fail
        go_roundg (gk - 1)
        case measure => omega
        case rel => exact ⟨j + 1, by omega, by go_num, HR2, rfl⟩
      · have c1 := bt_yes hlt hb
        cases hb2 : bt Q.data.toList j
        · have c2 := bt_zero HQ.out hlq hb2
          have HF := Lib.hid (win_no h27 hb hb2)
          clear hb hb2 HR
          go_wp2_with fail
          go_ret
          exact ⟨ret_bool HF.out.symm, rfl⟩
        · have c2 := bt_yes hlq hb2
          have HR2 : Hid (∀ i, i < j + 1 → bt P.data.toList i = true → bt Q.data.toList i = true) := fun i hi h => by
            by_cases e : i = j
            · subst e; exact hb2
            · exact HR.out i (by omega) h
          clear hb hb2
          clear HR
          go_wp2_with fail
          go_roundg (gk - 1)
          case measure => omega
          case rel => exact ⟨j + 1, by omega, by go_num, HR2, rfl⟩
    · have HF := Lib.hid (win_iff.2 (fun i hi h => HR.out i (by omega) h))
      clear HR
      go_wp2_with fail
      go_ret
      exact ⟨ret_bool HF.out.symm, rfl⟩
set_option maxHeartbeats 2000000 in
theorem PredWithin_any (P Q : ByteArray) (hP : P.size ≤ 1000000000000) (hQ : Q.size ≤ 1000000000000) (w : World) : Calls Try.prog 20 #[.string P, .string Q] w fun e w' => (e = .returned (.bool (winO P.data.toList Q.data.toList)) ∧ Below w.heap.size w w') := by
  have V := Lib.hid (fun w => PredValid_any P hP w)
  have U := Lib.hid (fun w => PredValid_any Q hQ w)
  unfold winO
  cases hp : bOk 27 P.data.toList
  · rw [hp] at V
    go_enter Try.func20, Try.ntmps20
    go_wp2_with fail
    refine (V.out _).mono ?_
    rintro e w' ⟨rfl, rfl⟩
    go_wp2_with fail
    go_ret
    exact ⟨rfl, Below.refl _ _⟩
  · cases hq : bOk 27 Q.data.toList
    · rw [hp] at V
      rw [hq] at U
      go_enter Try.func20, Try.ntmps20
      go_wp2_with fail
      refine (V.out _).mono ?_
      rintro e w' ⟨rfl, rfl⟩
      go_wp2_with fail
      refine (U.out _).mono ?_
      rintro e w' ⟨rfl, rfl⟩
      go_wp2_with fail
      go_ret
      exact ⟨rfl, Below.refl _ _⟩
    · rw [hp] at V
      rw [hq] at U
      have X := Lib.hid (fun w => bitsWithin_any P Q hp hq w)
      simp only [Bool.true_and]
      generalize win P.data.toList Q.data.toList = wv at *
      clear hp hq
      go_enter Try.func20, Try.ntmps20
      go_wp2_with fail
      refine (V.out _).mono ?_
      rintro e w' ⟨rfl, rfl⟩
      go_wp2_with fail
      refine (U.out _).mono ?_
      rintro e w' ⟨rfl, rfl⟩
      go_wp2_with fail
      refine (X.out _).mono ?_
      rintro e w' ⟨rfl, rfl⟩
      go_wp2_with fail
      go_ret
      exact ⟨rfl, Below.refl _ _⟩
set_option maxHeartbeats 2000000 in
theorem PredWithinS_any (P Q : ByteArray) (hP : P.size ≤ 1000000000000) (hQ : Q.size ≤ 1000000000000) (w : World) : Calls Try.prog 21 #[.string P, .string Q] w fun e w' => (e = .returned (.bool (winO P.data.toList Q.data.toList)) ∧ Below w.heap.size w w') := by
  have V := Lib.hid (fun w => PredValidS_any P hP w)
  have U := Lib.hid (fun w => PredValidS_any Q hQ w)
  unfold winO
  cases hp : bOk 27 P.data.toList
  · rw [hp] at V
    go_enter Try.func21, Try.ntmps21
    go_wp2_with fail
    refine (V.out _).mono ?_
    rintro e w' ⟨rfl, rfl⟩
    go_wp2_with fail
    go_ret
    exact ⟨rfl, Below.refl _ _⟩
  · cases hq : bOk 27 Q.data.toList
    · rw [hp] at V
      rw [hq] at U
      go_enter Try.func21, Try.ntmps21
      go_wp2_with fail
      refine (V.out _).mono ?_
      rintro e w' ⟨rfl, rfl⟩
      go_wp2_with fail
      refine (U.out _).mono ?_
      rintro e w' ⟨rfl, rfl⟩
      go_wp2_with fail
      go_ret
      exact ⟨rfl, Below.refl _ _⟩
    · rw [hp] at V
      rw [hq] at U
      have z1 : P.size = 27 := by rw [← len_S, bOk_len hp]
      have z2 : Q.size = 27 := by rw [← len_S, bOk_len hq]
      have X := Lib.hid (fun w => l2And_any P Q (by omega) (by omega) w)
      rw [z1] at X
      have hw := win_and (q := Q.data.toList) hp
      simp only [Bool.true_and]
      rw [← hw]
      generalize bs (bitsN 27 (fun i => bt P.data.toList i && bt Q.data.toList i)) = A at *
      clear hp hq z1 z2 hw
      go_enter Try.func21, Try.ntmps21
      go_wp2_with fail
      refine (V.out _).mono ?_
      rintro e w' ⟨rfl, rfl⟩
      go_wp2_with fail
      refine (U.out _).mono ?_
      rintro e w' ⟨rfl, rfl⟩
      go_wp2_with fail
      refine (X.out _).mono ?_
      rintro e w3 ⟨rfl, hb3⟩
      have B3 := Lib.hid hb3
      clear hb3
      go_wp2_with fail
      go_ret
      exact ⟨rfl, B3.out⟩
/-- how many states a set has -/
def cntP (l : List UInt8) : Int := if bOk 27 l then (cnt 27 (bt l) : Int) else -1
theorem count_of {l : List UInt8} (h : bOk 27 l = true) : l.count 49 = cnt 27 (bt l) := by
  rw [← cnt_bits, bits_of h]
set_option maxRecDepth 100000 in
set_option maxHeartbeats 1000000 in
theorem count_one (s : ByteArray) (w : World) :
    Calls Try.prog 59 #[.string s, .string ⟨#[49]⟩] w fun e w' => e = .returned (.int .i64 (s.data.toList.count 49 : Nat)) ∧ w = w' := by
  go_enter Try.func59, Try.ntmps59
  go_wp2
  rw [run_callFunc_extern Try.func97 (by kernel_rfl) (by kernel_rfl) (by kernel_rfl) (e := Extern.BytealgCount.count) (by kernel_rfl), Lib.run_countString]
  simp only [Result.andThen]
  rw [Oper.upon_value]
  go_wp2
  go_ret
  exact ⟨rfl, rfl⟩
set_option maxHeartbeats 2000000 in
theorem CountPred_any (P : ByteArray) (hP : P.size ≤ 1000000000000) (w : World) : Calls Try.prog 14 #[.string P] w fun e w' => e = .returned (.int .i64 (cntP P.data.toList)) ∧ w = w' := by
  have V := Lib.hid (fun w => PredValid_any P hP w)
  unfold cntP
  cases hp : bOk 27 P.data.toList
  · rw [hp] at V
    simp only [Bool.false_eq_true, if_false]
    go_enter Try.func14, Try.ntmps14
    go_wp2_with fail
    refine (V.out _).mono ?_
    rintro e w' ⟨rfl, rfl⟩
    go_wp2_with fail
    go_ret
    exact ⟨rfl, rfl⟩
  · rw [hp] at V
    have X := Lib.hid (fun w => count_one P w)
    rw [count_of hp] at X
    simp only [if_true]
    clear hp
    go_enter Try.func14, Try.ntmps14
    go_wp2_with fail
    refine (V.out _).mono ?_
    rintro e w' ⟨rfl, rfl⟩
    go_wp2_with fail
    refine (X.out _).mono ?_
    rintro e w' ⟨rfl, rfl⟩
    go_wp2_with fail
    go_ret
    exact ⟨rfl, rfl⟩
set_option maxRecDepth 100000 in
set_option maxHeartbeats 4000000 in
theorem l2Count_any (P : ByteArray) (hp : bOk 27 P.data.toList = true) (w : World) : Calls Try.prog 55 #[.string P] w fun e w' => e = .returned (.int .i64 (cnt 27 (bt P.data.toList) : Nat)) ∧ w = w' := by
  have z1 : P.size = 27 := by rw [← len_S, bOk_len hp]
  have HP := Lib.hid hp
  obtain ⟨rs, hrs⟩ : ∃ r, cnt 27 (bt P.data.toList) = r := ⟨_, rfl⟩
  rw [hrs]
  have HRS := Lib.hid hrs
  clear hp hrs
  go_enter Try.func55, Try.ntmps55
  go_wp2_with fail
  go_loopg [3, 4] P.size (fun gk n i wr => ∃ j m : Nat, j + gk = P.size ∧ i = .int .i64 j ∧ n = .int .i64 m ∧ m ≤ j ∧ Hid (cnt j (bt P.data.toList) = m) ∧ wr = w)
  case atStart => exact ⟨0, 0, by omega, rfl, rfl, Nat.le_refl _, Lib.hid rfl, rfl⟩
  case round =>
    obtain ⟨j, m, hj, rfl, rfl, hm, HM, rfl⟩ := hrel
    by_cases hlt : j < P.size
    · have hs := cnt_succ j (bt P.data.toList)
      rw [HM.out] at hs
      cases hb : bt P.data.toList j
      · have c1 := bt_zero HP.out hlt hb
        rw [hb] at hs
        have HM2 : Hid (cnt (j + 1) (bt P.data.toList) = m) := hs
        clear hb hs HM
        go_wp2_with fail
        go_roundg (gk - 1)
        case measure => omega
        case rel => exact ⟨j + 1, m, by omega, by go_num, by go_num, by omega, HM2, rfl⟩
      · have c1 := bt_yes hlt hb
        rw [hb] at hs
        have HM2 : Hid (cnt (j + 1) (bt P.data.toList) = m + 1) := hs
        clear hb hs HM
        go_wp2_with fail
        go_roundg (gk - 1)
        case measure => omega
        case rel => exact ⟨j + 1, m + 1, by omega, by go_num, by go_num, by omega, HM2, rfl⟩
    · obtain rfl : j = P.size := by omega
      have hf : rs = m := by rw [← HRS.out, ← HM.out, z1]
      subst hf
      clear HM HRS
      go_wp2_with fail
      go_ret
      exact ⟨rfl, rfl⟩
set_option maxHeartbeats 2000000 in
theorem CountPredS_any (P : ByteArray) (hP : P.size ≤ 1000000000000) (w : World) : Calls Try.prog 15 #[.string P] w fun e w' => e = .returned (.int .i64 (cntP P.data.toList)) ∧ w = w' := by
  have V := Lib.hid (fun w => PredValidS_any P hP w)
  unfold cntP
  cases hp : bOk 27 P.data.toList
  · rw [hp] at V
    simp only [Bool.false_eq_true, if_false]
    go_enter Try.func15, Try.ntmps15
    go_wp2_with fail
    refine (V.out _).mono ?_
    rintro e w' ⟨rfl, rfl⟩
    go_wp2_with fail
    go_ret
    exact ⟨rfl, rfl⟩
  · rw [hp] at V
    have X := Lib.hid (fun w => l2Count_any P hp w)
    simp only [if_true]
    clear hp
    go_enter Try.func15, Try.ntmps15
    go_wp2_with fail
    refine (V.out _).mono ?_
    rintro e w' ⟨rfl, rfl⟩
    go_wp2_with fail
    refine (X.out _).mono ?_
    rintro e w' ⟨rfl, rfl⟩
    go_wp2_with fail
    go_ret
    exact ⟨rfl, rfl⟩
set_option maxHeartbeats 1000000 in
theorem ppAnd_any (P Q : ByteArray) (hP : P.size ≤ 1000000000000) (hQ : Q.size ≤ 1000000000000) (w : World) : Calls Try.prog 22 #[.string P, .string Q] w fun e w' => (e = .returned (.string (bs (optB (both P Q (· && ·))))) ∧ Below w.heap.size w w') := by
  have X := Lib.hid (AndPred_any P Q hP hQ w)
  go_enter Try.func22, Try.ntmps22
  go_wp2_with fail
  refine X.out.mono ?_
  rintro e w1 ⟨rfl, hb1⟩
  have B1 := Lib.hid hb1
  clear hb1 X
  go_wp2_with fail
  go_ret
  exact ⟨rfl, B1.out⟩
set_option maxHeartbeats 1000000 in
theorem ppOr_any (P Q : ByteArray) (hP : P.size ≤ 1000000000000) (hQ : Q.size ≤ 1000000000000) (w : World) : Calls Try.prog 24 #[.string P, .string Q] w fun e w' => (e = .returned (.string (bs (optB (both P Q (· || ·))))) ∧ Below w.heap.size w w') := by
  have X := Lib.hid (OrPred_any P Q hP hQ w)
  go_enter Try.func24, Try.ntmps24
  go_wp2_with fail
  refine X.out.mono ?_
  rintro e w1 ⟨rfl, hb1⟩
  have B1 := Lib.hid hb1
  clear hb1 X
  go_wp2_with fail
  go_ret
  exact ⟨rfl, B1.out⟩
set_option maxHeartbeats 1000000 in
theorem ppNot_any (P : ByteArray) (hP : P.size ≤ 1000000000000) (w : World) : Calls Try.prog 23 #[.string P] w fun e w' => (e = .returned (.string (bs (optB (notO P)))) ∧ Below w.heap.size w w') := by
  have X := Lib.hid (NotPred_any P hP w)
  go_enter Try.func23, Try.ntmps23
  go_wp2_with fail
  refine X.out.mono ?_
  rintro e w1 ⟨rfl, hb1⟩
  have B1 := Lib.hid hb1
  clear hb1 X
  go_wp2_with fail
  go_ret
  exact ⟨rfl, B1.out⟩
/-- a drawn set -/
def SetPost (w : World) (g p n k : Nat) (e : Ending) (w' : World) : Prop :=
  ∃ S : ByteArray, S.size ≤ n ∧ e = .returned (.string S) ∧ Drew w g p k w'
def Set27 (w : World) (g p k : Nat) (e : Ending) (w' : World) : Prop :=
  ∃ S : ByteArray, S.size = 27 ∧ e = .returned (.string S) ∧ Drew w g p k w'
theorem ByteRow.grown {w w' : World} {g b : Nat} {l : List UInt8} (h : ByteRow w b l) (hg : w.grownBy w' (some g)) (hne : b ≠ g) : ByteRow w' b l :=
  h.keep hg.size (hg.block b h.lt (fun e => hne (by injection e)))

end Go.Proofs.Ytppcghklkldnaab
