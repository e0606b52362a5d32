/- Texts of bits: whether they are, what two have both, what one has not, how many, on both sides. -/
import Derived.Test.YtccjmahhebiphaaDoorTx
import Derived.Test.YtccjmahhebiphaaDoorVr
namespace Go.Proofs.YtccjmahhebiphaaDoor
open Go.RowKit
open Pl

theorem bOk_yes {n : Nat} {l : List UInt8} (hl : l.length = n) (h : ∀ i (hi : i < l.length), l[i] = 48 ∨ l[i] = 49) : bOk n l = true := by
  simp only [bOk, hl, beq_self_eq_true, Bool.true_and, List.all_eq_true]
  intro c hc
  obtain ⟨i, hi, rfl⟩ := List.getElem_of_mem hc
  rcases h i hi with e | e <;> simp [e]
theorem bOk_no {n : Nat} {l : List UInt8} {i : Nat} (hi : i < l.length) (h1 : l[i] ≠ 48) (h2 : l[i] ≠ 49) : bOk n l = false := by
  cases hb : bOk n l
  · rfl
  · simp only [bOk, Bool.and_eq_true, List.all_eq_true] at hb
    have := hb.2 _ (List.getElem_mem hi)
    simp [h1, h2] at this
theorem bOk_ne {n : Nat} {l : List UInt8} (h : l.length ≠ n) : bOk n l = false := by
  cases hb : bOk n l
  · rfl
  · exact absurd (bOk_len hb) h
set_option maxRecDepth 100000 in
set_option maxHeartbeats 4000000 in
theorem bitsOk_any (S : ByteArray) (n : Nat) (hn : n ≤ 1000) (hS : S.size ≤ 1000000000000) (w : World) : Calls Tryd.prog 60 #[.string S, .int .i64 (n : Int)] w fun e w' => e = .returned (.bool (bOk n S.data.toList)) ∧ w = w' := by
  have hl := len_S S
  by_cases hz : S.size = n
  · subst hz
    go_enter Tryd.func60, Tryd.ntmps60
    go_wp2_with fail
    go_loopg [5] S.size (fun gk i wr => ∃ j : Nat, j + gk = S.size ∧ i = .int .i64 j ∧ Hid (∀ i (hi : i < S.data.toList.length), i < j → S.data.toList[i] = 48 ∨ S.data.toList[i] = 49) ∧ wr = w)
    case atStart => exact ⟨0, by omega, rfl, Lib.hid (fun i _ h => absurd h (by omega)), rfl⟩
    case round =>
      obtain ⟨j, hj, rfl, HR, rfl⟩ := hrel
      by_cases hlt : j < S.size
      · obtain ⟨c, hc⟩ : ∃ c, S[j] = c := ⟨_, rfl⟩
        have hll : j < S.data.toList.length := by omega
        have hcl : S.data.toList[j] = c := hc
        have HCL := Lib.hid hcl
        clear hcl
        by_cases h1 : c = 48
        · have HR2 : Hid (∀ i (hi : i < S.data.toList.length), i < j + 1 → S.data.toList[i] = 48 ∨ S.data.toList[i] = 49) := fun i hi h => by
            by_cases e : i = j
            · subst e; exact .inl (HCL.out.trans h1)
            · exact HR.out i hi (by omega)
          subst h1
          clear HR hl
          go_wp2_with fail
          go_roundg (gk - 1)
          case measure => omega
          case rel => exact ⟨j + 1, by omega, by go_num, HR2, rfl⟩
        · by_cases h2 : c = 49
          · have HR2 : Hid (∀ i (hi : i < S.data.toList.length), i < j + 1 → S.data.toList[i] = 48 ∨ S.data.toList[i] = 49) := fun i hi h => by
              by_cases e : i = j
              · subst e; exact .inr (HCL.out.trans h2)
              · exact HR.out i hi (by omega)
            subst h2
            clear HR hl h1
            go_wp2_with fail
            go_roundg (gk - 1)
            case measure => omega
            case rel => exact ⟨j + 1, by omega, by go_num, HR2, rfl⟩
          · have e1 := u8_ne 48 h1 (by decide)
            have e2 := u8_ne 49 h2 (by decide)
            simp only [Int.cast_ofNat_Int] at e1 e2
            have e3 : ((c.toNat : Int) != 48) = true := by simpa using e1
            have e4 : ((c.toNat : Int) != 49) = true := by simpa using e2
            have HF := Lib.hid (bOk_no (n := S.size) hll (by rw [HCL.out]; exact h1) (by rw [HCL.out]; exact h2))
            clear h1 h2 HR hl
            go_wp2_with fail
            go_ret
            exact ⟨ret_bool HF.out.symm, rfl⟩
      · have HF := Lib.hid (bOk_yes (n := S.size) hl (fun i hi => HR.out i hi (by omega)))
        clear HR hl
        go_wp2_with fail
        go_ret
        exact ⟨ret_bool HF.out.symm, rfl⟩
  · have HF := Lib.hid (bOk_ne (n := n) (l := S.data.toList) (by omega))
    have h2 : ((S.size : Int) != (n : Int)) = true := by simp; omega
    clear hl hz
    go_enter Tryd.func60, Tryd.ntmps60
    go_wp2_with fail
    go_ret
    exact ⟨ret_bool HF.out.symm, rfl⟩
set_option maxRecDepth 100000 in
set_option maxHeartbeats 4000000 in
theorem l2Bits_any (S : ByteArray) (n : Nat) (hS : S.size ≤ 1000000000000) (w : World) : Calls Tryd.prog 115 #[.string S, .int .i64 (n : Int)] w fun e w' => e = .returned (.bool (bOk n S.data.toList)) ∧ w = w' := by
  have hl := len_S S
  go_enter Tryd.func115, Tryd.ntmps115
  go_wp2_with fail
  go_loopg [5] S.size (fun gk i wr => ∃ j : Nat, j + gk = S.size ∧ i = .int .i64 j ∧ Hid (∀ i (hi : i < S.data.toList.length), i < j → S.data.toList[i] = 48 ∨ S.data.toList[i] = 49) ∧ wr = w)
  case atStart => exact ⟨0, by omega, rfl, Lib.hid (fun i _ h => absurd h (by omega)), rfl⟩
  case round =>
    obtain ⟨j, hj, rfl, HR, rfl⟩ := hrel
    by_cases hlt : j < S.size
    · obtain ⟨c, hc⟩ : ∃ c, S[j] = c := ⟨_, rfl⟩
      have hll : j < S.data.toList.length := by omega
      have hcl : S.data.toList[j] = c := hc
      have HCL := Lib.hid hcl
      clear hcl
      by_cases h1 : c = 48
      · have HR2 : Hid (∀ i (hi : i < S.data.toList.length), i < j + 1 → S.data.toList[i] = 48 ∨ S.data.toList[i] = 49) := fun i hi h => by
          by_cases e : i = j
          · subst e; exact .inl (HCL.out.trans h1)
          · exact HR.out i hi (by omega)
        subst h1
        clear HR hl
        go_wp2_with fail
        go_roundg (gk - 1)
        case measure => omega
        case rel => exact ⟨j + 1, by omega, by go_num, HR2, rfl⟩
      · by_cases h2 : c = 49
        · have HR2 : Hid (∀ i (hi : i < S.data.toList.length), i < j + 1 → S.data.toList[i] = 48 ∨ S.data.toList[i] = 49) := fun i hi h => by
            by_cases e : i = j
            · subst e; exact .inr (HCL.out.trans h2)
            · exact HR.out i hi (by omega)
          subst h2
          clear HR hl h1
          go_wp2_with fail
          go_roundg (gk - 1)
          case measure => omega
          case rel => exact ⟨j + 1, by omega, by go_num, HR2, rfl⟩
        · have e1 := u8_ne 48 h1 (by decide)
          have e2 := u8_ne 49 h2 (by decide)
          simp only [Int.cast_ofNat_Int] at e1 e2
          have e3 : ((c.toNat : Int) != 48) = true := by simpa using e1
          have e4 : ((c.toNat : Int) != 49) = true := by simpa using e2
          have HF := Lib.hid (bOk_no (n := n) hll (by rw [HCL.out]; exact h1) (by rw [HCL.out]; exact h2))
          clear h1 h2 HR hl
          go_wp2_with fail
          go_ret
          exact ⟨ret_bool HF.out.symm, rfl⟩
    · have HF : Hid (bOk n S.data.toList = ((S.size : Int) == (n : Int))) := by
        by_cases hz : S.size = n
        · have := bOk_yes (n := n) (hl.trans hz) (fun i hi => HR.out i hi (by omega))
          show bOk n S.data.toList = _
          rw [this]; simp [hz]
        · have := bOk_ne (n := n) (l := S.data.toList) (by omega)
          show bOk n S.data.toList = _
          rw [this]; have hz' : ¬ ((S.size : Int) = (n : Int)) := by omega
          simp [hz']
      clear HR hl
      go_wp2_with fail
      go_ret
      exact ⟨ret_bool HF.out.symm, rfl⟩
set_option maxHeartbeats 1000000 in
theorem PredValid_any (S : ByteArray) (hS : S.size ≤ 1000000000000) (w : World) : Calls Tryd.prog 14 #[.string S] w fun e w' => e = .returned (.bool (bOk 27 S.data.toList)) ∧ w = w' := by
  have B := Lib.hid (bitsOk_any S 27 (by omega) hS w)
  simp only [Int.cast_ofNat_Int] at B
  go_enter Tryd.func14, Tryd.ntmps14
  go_wp2_with fail
  refine B.out.mono ?_
  rintro e w' ⟨rfl, rfl⟩
  go_wp2_with fail
  go_ret
  exact ⟨rfl, rfl⟩
set_option maxHeartbeats 1000000 in
theorem PredValidS_any (S : ByteArray) (hS : S.size ≤ 1000000000000) (w : World) : Calls Tryd.prog 56 #[.string S] w fun e w' => e = .returned (.bool (bOk 27 S.data.toList)) ∧ w = w' := by
  have B := Lib.hid (l2Bits_any S 27 hS w)
  simp only [Int.cast_ofNat_Int] at B
  go_enter Tryd.func56, Tryd.ntmps56
  go_wp2_with fail
  refine B.out.mono ?_
  rintro e w' ⟨rfl, rfl⟩
  go_wp2_with fail
  go_ret
  exact ⟨rfl, rfl⟩
set_option maxRecDepth 100000 in
set_option maxHeartbeats 4000000 in
theorem bits_any (F : FuncId) (hent : ∀ (args : Array Value) (w : World), (callFunc F args).run Tryd.prog w = .ok (.enter F args) w) (caps : Array Value) (n : Nat) (hn : n ≤ 1000) (bt : Nat → Bool) (w : World)
    (HF : ∀ i : Nat, i < n → ∀ W, Below w.heap.size w W → Calls Tryd.prog F (#[.int .i64 (i : Int)] ++ caps) W fun e W' => e = .returned (.bool (bt i)) ∧ Below W.heap.size W W') :
    Calls Tryd.prog 119 #[.int .i64 (n : Int), .func (.func F) #[] caps] w fun e w' => (e = .returned (.string (bs (bitsN n bt))) ∧ Below w.heap.size w w') := by
  have hmk := run_make_row' (P := Tryd.prog) 22 5 (.int .u8 0) 1 Tryd.underlying22 u8_info rfl .i64 .i64 n (by omega) (by omega)
  have R0 : Hid (ByteRow (w.alloc (.cells (madeCells #[.int .u8 0] n) 5)) w.heap.size (fillN (bitsN n bt) 0)) := by rw [part_zero, bits_len]; exact byteRow_made w n
  have B0 := Lib.hid (below_n w (.cells (madeCells #[.int .u8 0] n) 5))
  have HH := Lib.hid HF
  clear HF
  go_enter Tryd.func119, Tryd.ntmps119
  go_wp2_with fail
  go_loopg [11] n (fun gk i wr => ∃ k : Nat, k + gk = n ∧ i = .int .i64 k ∧ Hid (ByteRow wr w.heap.size (fillN (bitsN n bt) k)) ∧ Hid (Below w.heap.size w wr))
  case atStart => exact ⟨0, by simp, rfl, R0, B0⟩
  case round =>
    clear R0 B0 hmk
    obtain ⟨k, hk, rfl, R, B⟩ := hrel
    by_cases hlt : k < n
    · have R1 := Lib.hid (row_step1 R.out hlt 48)
      have B1 := Lib.hid (B.out.setCell (p := ⟨w.heap.size, k, none⟩) (Nat.le_refl _) (.int .u8 48))
      obtain ⟨⟨cv, hc⟩, hf⟩ := R.out.any (i := k) (by rw [part_len _ _ (by rw [bits_len]; omega), bits_len]; exact hlt)
      have FX := Lib.hid (HH.out k hlt _ B1.out)
      cases hb : bt k
      · rw [hb] at FX
        have HB := Lib.hid hb
        clear hb R B
        go_wp2_with fail
        refine FX.out.mono ?_
        rintro e w2 ⟨rfl, hb2⟩
        have R2 : Hid (ByteRow w2 w.heap.size (fillN (bitsN n bt) (k + 1))) := row_step0 (R1.out.call hb2) hlt (by rw [HB.out]; rfl)
        have B2 := Lib.hid (below_2 B1.out hb2)
        clear hb2 R1 B1 FX hc hf
        go_wp2_with fail
        go_roundg (gk - 1)
        case measure => omega
        case rel => exact ⟨k + 1, by omega, by go_num, R2, B2⟩
      · rw [hb] at FX
        have HB := Lib.hid hb
        clear hb R B
        go_wp2_with fail
        refine FX.out.mono ?_
        rintro e w2 ⟨rfl, hb2⟩
        have r2 := R1.out.call hb2
        have hkl : k < ((fillN (bitsN n bt) k).set k 48).length := by rw [List.length_set, part_len _ _ (by rw [bits_len]; omega), bits_len]; exact hlt
        obtain ⟨⟨cv2, hc2⟩, hf2⟩ := r2.any (i := k) hkl
        have R2 : Hid (ByteRow (w2.setCell ⟨w.heap.size, k, none⟩ (.int .u8 49)) w.heap.size (fillN (bitsN n bt) (k + 1))) := by
          have := row_step2 r2 hlt
          rw [HB.out] at this
          exact this
        have B2 := Lib.hid ((below_2 B1.out hb2).setCell (p := ⟨w.heap.size, k, none⟩) (Nat.le_refl _) (.int .u8 49))
        clear hb2 R1 B1 FX hc hf r2 hkl
        go_wp2_with fail
        go_roundg (gk - 1)
        case measure => omega
        case rel => exact ⟨k + 1, by omega, by go_num, R2, B2⟩
    · obtain rfl : k = n := by omega
      have r := R.out
      have hpa := part_all (bitsN k bt)
      rw [bits_len] at hpa
      rw [hpa] at r
      have hback := bytes_back r (n := k) (by rw [bits_len]) k
      clear r R hpa hlt
      go_wp2_with fail
      go_ret
      exact ⟨rfl, B.out⟩
set_option maxHeartbeats 1000000 in
theorem set_any (F : FuncId) (hent : ∀ (args : Array Value) (w : World), (callFunc F args).run Tryd.prog w = .ok (.enter F args) w) (caps : Array Value) (bt : Nat → Bool) (w : World)
    (HF : ∀ i : Nat, i < 27 → ∀ W, Below w.heap.size w W → Calls Tryd.prog F (#[.int .i64 (i : Int)] ++ caps) W fun e W' => e = .returned (.bool (bt i)) ∧ Below W.heap.size W W') :
    Calls Tryd.prog 63 #[.func (.func F) #[] caps] w fun e w' => (e = .returned (.string (bs (bitsN 27 bt))) ∧ Below w.heap.size w w') := by
  have B := Lib.hid (bits_any F hent caps 27 (by omega) bt w HF)
  clear HF
  go_enter Tryd.func63, Tryd.ntmps63
  go_wp2_with fail
  refine B.out.mono ?_
  rintro e w1 ⟨rfl, hb1⟩
  have B1 := Lib.hid hb1
  clear hb1
  go_wp2_with fail
  go_ret
  exact ⟨rfl, B1.out⟩
/-- what a byte at a place says -/
theorem bt_yes {S : ByteArray} {i : Nat} (hi : i < S.size) (h : bt S.data.toList i = true) : S[i] = 49 := by
  unfold bt at h
  have hl : i < S.data.toList.length := by rw [len_S]; exact hi
  rw [List.getD_eq_getElem?_getD, List.getElem?_eq_getElem hl] at h
  have h2 : S.data.toList[i] = 49 := by simpa using h
  exact h2
theorem bt_no {S : ByteArray} {i : Nat} (hi : i < S.size) (h : bt S.data.toList i = false) : S[i] ≠ 49 := by
  unfold bt at h
  have hl : i < S.data.toList.length := by rw [len_S]; exact hi
  rw [List.getD_eq_getElem?_getD, List.getElem?_eq_getElem hl] at h
  have h2 : S.data.toList[i] ≠ 49 := by simpa using h
  exact h2
theorem bt_zero {n : Nat} {S : ByteArray} {i : Nat} (hk : bOk n S.data.toList = true) (hi : i < S.size) (h : bt S.data.toList i = false) : S[i] = 48 := by
  have hl : i < S.data.toList.length := by rw [len_S]; exact hi
  have := bOk_get hk hl
  rw [h] at this
  exact this
set_option maxHeartbeats 4000000 in
theorem AndPred1_any (P Q : ByteArray) (hp : bOk 27 P.data.toList = true) (hq : bOk 27 Q.data.toList = true) (i : Nat) (hi : i < 27) (c d : Nat) (W : World) (h1 : W.cell? ⟨c, 0, none⟩ = some (.string P)) (h2 : W.cell? ⟨d, 0, none⟩ = some (.string Q)) :
    Calls Tryd.prog 125 #[.int .i64 (i : Int), .pointer (some ⟨c, 0, none⟩), .pointer (some ⟨d, 0, none⟩)] W fun e W' => e = .returned (.bool (bt P.data.toList i && bt Q.data.toList i)) ∧ Below W.heap.size W W' := by
  have hpz : i < P.size := by rw [← len_S, bOk_len hp]; exact hi
  have hqz : i < Q.size := by rw [← len_S, bOk_len hq]; exact hi
  cases hb : bt P.data.toList i
  · have c1 := bt_zero hp hpz hb
    cases hb2 : bt Q.data.toList i
    · have c2 := bt_zero hq hqz hb2
      clear hb hb2 hp hq
      go_enter Tryd.func125, Tryd.ntmps125
      go_wp2_with fail
      go_ret
      exact ⟨rfl, Below.refl _ _⟩
    · have c2 := bt_yes hqz hb2
      clear hb hb2 hp hq
      go_enter Tryd.func125, Tryd.ntmps125
      go_wp2_with fail
      go_ret
      exact ⟨rfl, Below.refl _ _⟩
  · have c1 := bt_yes hpz hb
    cases hb2 : bt Q.data.toList i
    · have c2 := bt_zero hq hqz hb2
      clear hb hb2 hp hq
      go_enter Tryd.func125, Tryd.ntmps125
      go_wp2_with fail
      go_ret
      exact ⟨rfl, Below.refl _ _⟩
    · have c2 := bt_yes hqz hb2
      clear hb hb2 hp hq
      go_enter Tryd.func125, Tryd.ntmps125
      go_wp2_with fail
      go_ret
      exact ⟨rfl, Below.refl _ _⟩
set_option maxHeartbeats 4000000 in
theorem NotPred1_any (P : ByteArray) (hp : bOk 27 P.data.toList = true) (i : Nat) (hi : i < 27) (c : Nat) (W : World) (h1 : W.cell? ⟨c, 0, none⟩ = some (.string P)) :
    Calls Tryd.prog 70 #[.int .i64 (i : Int), .pointer (some ⟨c, 0, none⟩)] W fun e W' => e = .returned (.bool (!bt P.data.toList i)) ∧ Below W.heap.size W W' := by
  have hpz : i < P.size := by rw [← len_S, bOk_len hp]; exact hi
  skip
  cases hb : bt P.data.toList i
  · have c1 := bt_zero hp hpz hb
    clear hb hp
    go_enter Tryd.func70, Tryd.ntmps70
    go_wp2_with fail
    go_ret
    exact ⟨rfl, Below.refl _ _⟩
  · have c1 := bt_yes hpz hb
    clear hb hp
    go_enter Tryd.func70, Tryd.ntmps70
    go_wp2_with fail
    go_ret
    exact ⟨rfl, Below.refl _ _⟩
def both (P Q : ByteArray) (f : Bool → Bool → Bool) : Option (List UInt8) :=
  if bOk 27 P.data.toList && bOk 27 Q.data.toList then some (bitsN 27 (fun i => f (bt P.data.toList i) (bt Q.data.toList i))) else none
def notO (P : ByteArray) : Option (List UInt8) :=
  if bOk 27 P.data.toList then some (bitsN 27 (fun i => !bt P.data.toList i)) else none
set_option maxRecDepth 100000 in
set_option maxHeartbeats 4000000 in
theorem AndPred_any (P Q : ByteArray) (hP : P.size ≤ 1000000000000) (hQ : Q.size ≤ 1000000000000) (w : World) : Calls Tryd.prog 73 #[.string P, .string Q] w fun e w' => (e = .returned (.tuple #[.string (bs (optB (both P Q (· && ·)))), .bool (both P Q (· && ·)).isSome]) ∧ Below w.heap.size w w') := by
  have V := Lib.hid (fun w => PredValid_any P hP w)
  have U := Lib.hid (fun w => PredValid_any Q hQ w)
  have B2 := Lib.hid ((below_n w (.cells #[.string P] 9)).alloc (by simp) (.cells #[.string Q] 9))
  have k1 : Blk ((w.alloc (.cells #[.string P] 9)).alloc (.cells #[.string Q] 9)) w.heap.size 9 #[.string P] := (Blk.new w _ _).alloc _
  have k2 : Blk ((w.alloc (.cells #[.string P] 9)).alloc (.cells #[.string Q] 9)) (w.heap.size + 1) 9 #[.string Q] := by
    have := Blk.new (w.alloc (.cells #[.string P] 9)) 9 #[.string Q]
    simp at this
    exact this
  cases hp : bOk 27 P.data.toList
  · have hr : both P Q (· && ·) = none := by unfold both; rw [hp]; rfl
    rw [hr]
    rw [hp] at V
    simp only [optB, Option.isSome_none]
    clear hr k1 k2
    go_enter Tryd.func73, Tryd.ntmps73
    go_wp2_with fail
    refine (V.out _).mono ?_
    rintro e w' ⟨rfl, rfl⟩
    go_wp2_with fail
    go_ret2
    exact ⟨(by first | trivial | rfl), B2.out⟩
  · cases hq : bOk 27 Q.data.toList
    · have hr : both P Q (· && ·) = none := by unfold both; rw [hp, hq]; rfl
      rw [hr]
      rw [hp] at V
      rw [hq] at U
      simp only [optB, Option.isSome_none]
      clear hr k1 k2
      go_enter Tryd.func73, Tryd.ntmps73
      go_wp2_with fail
      refine (V.out _).mono ?_
      rintro e w' ⟨rfl, rfl⟩
      go_wp2_with fail
      refine (U.out _).mono ?_
      rintro e w' ⟨rfl, rfl⟩
      go_wp2_with fail
      go_ret2
      exact ⟨(by first | trivial | rfl), B2.out⟩
    · have hr : both P Q (· && ·) = some (bitsN 27 (fun i => (· && ·) (bt P.data.toList i) (bt Q.data.toList i))) := by unfold both; rw [hp, hq]; rfl
      rw [hr]
      rw [hp] at V
      rw [hq] at U
      simp only [optB, Option.isSome_some]
      have ST := Lib.hid (set_any 125 (enterF Tryd.func125 (by kernel_rfl) rfl) #[.pointer (some ⟨w.heap.size, 0, none⟩), .pointer (some ⟨w.heap.size + 1, 0, none⟩)] (fun i => (· && ·) (bt P.data.toList i) (bt Q.data.toList i)) ((w.alloc (.cells #[.string P] 9)).alloc (.cells #[.string Q] 9))
        (fun i hi W hW => AndPred1_any P Q hp hq i hi w.heap.size (w.heap.size + 1) W ((hW.cell (p := ⟨w.heap.size, 0, none⟩) k1.lt).trans (k1.cell 0)) ((hW.cell (p := ⟨w.heap.size + 1, 0, none⟩) k2.lt).trans (k2.cell 0))))
      have hmf : ∀ (f : Fn) (first cap : Array Value) (w : World), (Instr.makeFunc f first cap).run Tryd.prog w = .ok (.func f first cap) w := fun _ _ _ _ => rfl
      clear hr k1 k2 hp hq
      go_enter Tryd.func73, Tryd.ntmps73
      go_wp2_with fail
      refine (V.out _).mono ?_
      rintro e w' ⟨rfl, rfl⟩
      go_wp2_with fail
      refine (U.out _).mono ?_
      rintro e w' ⟨rfl, rfl⟩
      go_wp2_with fail
      refine ST.out.mono ?_
      rintro e w3 ⟨rfl, hb3⟩
      have B3 := Lib.hid (below_2 B2.out hb3)
      clear hb3
      go_wp2_with fail
      go_ret2
      exact ⟨(by first | trivial | rfl), B3.out⟩
set_option maxRecDepth 100000 in
set_option maxHeartbeats 4000000 in
theorem NotPred_any (P : ByteArray) (hP : P.size ≤ 1000000000000) (w : World) : Calls Tryd.prog 24 #[.string P] w fun e w' => (e = .returned (.tuple #[.string (bs (optB (notO P))), .bool (notO P).isSome]) ∧ Below w.heap.size w w') := by
  have V := Lib.hid (fun w => PredValid_any P hP w)
  have B2 := Lib.hid (below_n w (.cells #[.string P] 9))
  have k1 : Blk (w.alloc (.cells #[.string P] 9)) w.heap.size 9 #[.string P] := Blk.new w _ _
  cases hp : bOk 27 P.data.toList
  · have hr : notO P = none := by unfold notO; rw [hp]; rfl
    rw [hr]
    rw [hp] at V
    simp only [optB, Option.isSome_none]
    clear hr k1
    go_enter Tryd.func24, Tryd.ntmps24
    go_wp2_with fail
    refine (V.out _).mono ?_
    rintro e w' ⟨rfl, rfl⟩
    go_wp2_with fail
    go_ret2
    exact ⟨(by first | trivial | rfl), B2.out⟩
  · have hr : notO P = some (bitsN 27 (fun i => !bt P.data.toList i)) := by unfold notO; rw [hp]; rfl
    rw [hr]
    rw [hp] at V
    simp only [optB, Option.isSome_some]
    have ST := Lib.hid (set_any 70 (enterF Tryd.func70 (by kernel_rfl) rfl) #[.pointer (some ⟨w.heap.size, 0, none⟩)] (fun i => !bt P.data.toList i) (w.alloc (.cells #[.string P] 9))
      (fun i hi W hW => NotPred1_any P hp i hi w.heap.size W ((hW.cell (p := ⟨w.heap.size, 0, none⟩) k1.lt).trans (k1.cell 0))))
    have hmf : ∀ (f : Fn) (first cap : Array Value) (w : World), (Instr.makeFunc f first cap).run Tryd.prog w = .ok (.func f first cap) w := fun _ _ _ _ => rfl
    clear hr k1 hp
    go_enter Tryd.func24, Tryd.ntmps24
    go_wp2_with fail
    refine (V.out _).mono ?_
    rintro e w' ⟨rfl, rfl⟩
    go_wp2_with fail
    refine ST.out.mono ?_
    rintro e w3 ⟨rfl, hb3⟩
    have B3 := Lib.hid (below_2 B2.out hb3)
    clear hb3
    go_wp2_with fail
    go_ret2
    exact ⟨(by first | trivial | rfl), B3.out⟩

end Go.Proofs.YtccjmahhebiphaaDoor
