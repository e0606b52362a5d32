/- The letters of variables that occur in a text: the program's by strings.Contains, the reference's by its own search. -/
import Derived.Test.YtccjmahhebiphaaDoorLwa
import Derived.Test.YtccjmahhebiphaaDoorGa
import Derived.Lib.Bytealg
import Derived.Lib.Walk
import Derived.BigCall
import Derived.BigGuard
namespace Go.Proofs.YtccjmahhebiphaaDoor
open Go.RowKit
open Pl

theorem indexByte_fnd (c : UInt8) : ∀ l : List UInt8, Lib.indexByte l c = fnd l c
  | [] => rfl
  | x :: r => by
    have h := indexByte_fnd c r
    have := fnd_range c r
    simp only [Lib.indexByte, fnd, h]
    by_cases e : x = c
    · simp [e]
    · by_cases h2 : fnd r c < 0
      · have h3 : fnd r c = -1 := by omega
        simp [e, h3]
      · have h3 : ¬ fnd r c = -1 := by omega
        simp [e, h2, h3]
theorem below_n' (w : World) (o : Obj) : Below w.heap.size w (w.alloc o) := (Below.refl _ _).alloc (Nat.le_refl _) o
theorem beq_bytes {a b : ByteArray} (h : a.data.toList ≠ b.data.toList) : (a.toList == b.toList) = false := by
  rw [ByteArray.toList_eq, ByteArray.toList_eq]; simpa using h
set_option maxHeartbeats 1000000 in
set_option maxRecDepth 100000 in
theorem contains_one (s : ByteArray) (c : UInt8) (w : World) :
    Calls Tryd.prog 135 #[.string s, .string ⟨#[c]⟩] w fun e w' => e = .returned (.bool (decide (0 ≤ fnd s.data.toList c))) ∧ w = w' := by
  by_cases hs : s.data.toList = [c]
  · have h1 : ([c] == s.toList) = true := by rw [ByteArray.toList_eq, hs]; simp
    have HS := Lib.hid hs
    clear hs
    go_enter Tryd.func135, Tryd.ntmps135
    go_wp2
    go_ret
    exact ⟨ret_bool (by rw [HS.out]; simp [fnd]), rfl⟩
  · have h1 : ([c] == s.toList) = false := by rw [ByteArray.toList_eq]; simpa using fun e => hs e.symm
    clear hs
    go_enter Tryd.func135, Tryd.ntmps135
    go_wp2
    rw [run_callFunc_extern Tryd.func162 (by kernel_rfl) (by kernel_rfl) (by kernel_rfl) (e := Extern.BytealgIndexByte.indexByte) (by kernel_rfl), Lib.run_indexByteString]
    simp only [Result.andThen]
    rw [Oper.upon_value]
    go_wp2
    go_ret
    exact ⟨ret_bool (by rw [indexByte_fnd]; simp; exact Iff.rfl), rfl⟩
set_option maxHeartbeats 1000000 in
theorem lettersIn_any (S : ByteArray) (w : World) : Calls Tryd.prog 95 #[.string S] w fun e w' => (e = .returned (str (vars nmsN S.data.toList)) ∧ Below w.heap.size w w') := by
  have hB := Lib.hid (below_n' w (.cells #[.string ⟨#[120]⟩, .string ⟨#[121]⟩, .string ⟨#[122]⟩] 9))
  go_enter Tryd.func95, Tryd.ntmps95
  go_wp2_with fail
  go_loop [3, 8] (fun o i => ∃ (k : Nat) (T : ByteArray), k ≤ 3 ∧ i = .int .i64 k ∧ o = .string T ∧ T.size ≤ k ∧ Hid (T.data.toList = vars (nmsN.take k) S.data.toList)) (fun _ i => 3 - (intOf i).toNat)
  case atStart => exact ⟨0, ⟨#[]⟩, by omega, rfl, rfl, by decide, by simp [Hid, vars]⟩
  case round =>
    obtain ⟨k, T, hk, rfl, rfl, hT, HT⟩ := hrel
    by_cases hlt : k < 3
    · have hc : k = 0 ∨ k = 1 ∨ k = 2 := by omega
      have hsn : ∀ (h : k < nmsN.length) (b : Bool), decide (0 ≤ fnd S.data.toList nmsN[k]) = b → vars (nmsN.take (k + 1)) S.data.toList = T.data.toList ++ (if b then [nmsN[k]] else []) := by
        intro h b hb
        rw [vars_snoc h, HT.out, ← hb]
        simp only [fnd_mem, decide_eq_true_eq]
      have HSN := Lib.hid hsn
      have t1 : T.size + 1 ≤ 9223372036854775807 := by omega
      clear hsn
      rcases hc with rfl | rfl | rfl
      · cases hb : decide (0 ≤ fnd S.data.toList 120)
        all_goals
          have HN := Lib.hid (HSN.out (by decide) _ hb)
          have C1 := Lib.hid (fun w => contains_one S 120 w)
          rw [hb] at C1
          clear hb HSN
          go_wp2_with fail
          refine (C1.out _).mono ?_
          rintro e w' ⟨rfl, rfl⟩
          clear C1
          go_wp2_with fail
          go_round
          case rel => exact ⟨1, _, by omega, by go_num, rfl, by first | omega | (rw [ByteArray.size_append]; show T.size + 1 ≤ _; omega), by show _ = _; rw [HN.out]; simp [nmsN]⟩
          case measure => simp [intOf]
      · cases hb : decide (0 ≤ fnd S.data.toList 121)
        all_goals
          have HN := Lib.hid (HSN.out (by decide) _ hb)
          have C1 := Lib.hid (fun w => contains_one S 121 w)
          rw [hb] at C1
          clear hb HSN
          go_wp2_with fail
          refine (C1.out _).mono ?_
          rintro e w' ⟨rfl, rfl⟩
          clear C1
          go_wp2_with fail
          go_round
          case rel => exact ⟨2, _, by omega, by go_num, rfl, by first | omega | (rw [ByteArray.size_append]; show T.size + 1 ≤ _; omega), by show _ = _; rw [HN.out]; simp [nmsN]⟩
          case measure => simp [intOf]
      · cases hb : decide (0 ≤ fnd S.data.toList 122)
        all_goals
          have HN := Lib.hid (HSN.out (by decide) _ hb)
          have C1 := Lib.hid (fun w => contains_one S 122 w)
          rw [hb] at C1
          clear hb HSN
          go_wp2_with fail
          refine (C1.out _).mono ?_
          rintro e w' ⟨rfl, rfl⟩
          clear C1
          go_wp2_with fail
          go_round
          case rel => exact ⟨3, _, by omega, by go_num, rfl, by first | omega | (rw [ByteArray.size_append]; show T.size + 1 ≤ _; omega), by show _ = _; rw [HN.out]; simp [nmsN]⟩
          case measure => simp [intOf]
    · obtain rfl : k = 3 := by omega
      have hE : T = ⟨(vars nmsN S.data.toList).toArray⟩ := by
        apply ByteArray.ext; apply Array.toList_inj.1; rw [HT.out]; rfl
      have HE := Lib.hid hE
      clear hE HT
      go_wp2_with fail
      go_ret
      exact ⟨by rw [HE.out]; rfl, hB.out⟩
set_option maxHeartbeats 1000000 in
theorem l1Vars_any (S : ByteArray) (hS : S.size ≤ 1000000) (wd : Bool) (w : World) : Calls Tryd.prog 137 #[.string S, .bool wd] w fun e w' => (e = .returned (str (vars (nms wd) S.data.toList)) ∧ w = w') := by
  have hz : (⟨(nms wd).toArray⟩ : ByteArray).size ≤ 6 := by cases wd <;> decide
  have hz2 : (⟨(nms wd).toArray⟩ : ByteArray).size = (nms wd).length := by cases wd <;> decide
  have HZ := Lib.hid hz2
  clear hz2
  obtain ⟨N, hN⟩ : ∃ N : ByteArray, ⟨(nms wd).toArray⟩ = N := ⟨_, rfl⟩
  have NM := Lib.hid (names_any wd w)
  rw [hN] at NM hz HZ
  have HNN : Hid (N.data.toList = nms wd) := by rw [← hN]; rfl
  clear hN
  go_enter Tryd.func137, Tryd.ntmps137
  go_wp2_with fail
  refine NM.out.mono ?_
  rintro e w' ⟨rfl, rfl⟩
  clear NM
  go_wp2_with fail
  go_loop [5, 7] (fun o i => ∃ (k : Nat) (T : ByteArray), k ≤ N.size ∧ i = .int .i64 k ∧ o = .string T ∧ T.size ≤ k ∧ Hid (T.data.toList = vars ((nms wd).take k) S.data.toList)) (fun _ i => N.size - (intOf i).toNat)
  case atStart => exact ⟨0, ⟨#[]⟩, by omega, rfl, rfl, by decide, by simp [Hid, vars]⟩
  case round =>
    obtain ⟨k, T, hk, rfl, rfl, hT, HT⟩ := hrel
    by_cases hlt : k < N.size
    · have hex := extract_one hlt
      have t1 : T.size + 1 ≤ 9223372036854775807 := by omega
      obtain ⟨c, hc⟩ : ∃ c, N[k] = c := ⟨_, rfl⟩
      rw [hc] at hex
      have hkl : k < (nms wd).length := by have := HZ.out; omega
      have hck : (nms wd)[k] = c := by
        rw [← hc]
        have : N[k] = N.data.toList[k]'(by rw [HNN.out]; exact hkl) := rfl
        rw [this]; simp only [HNN.out]
      have hsn : ∀ (b : Bool), decide (0 ≤ fnd S.data.toList c) = b → vars ((nms wd).take (k + 1)) S.data.toList = T.data.toList ++ (if b then [c] else []) := by
        intro b hb
        rw [vars_snoc hkl, HT.out, ← hb, hck]
        simp only [fnd_mem, decide_eq_true_eq]
      have HSN := Lib.hid hsn
      have HC := Lib.hid hc
      clear hsn hck hc
      have FN := Lib.hid (find_any S c hS)
      have hrg := fnd_range c S.data.toList
      obtain ⟨z, hz⟩ : ∃ z, fnd S.data.toList c = z := ⟨_, rfl⟩
      rw [hz] at FN HSN hrg
      obtain ⟨hr1, hr2, hr3⟩ := hrg
      clear hz hr2 hr3
      by_cases h0 : 0 ≤ z
      · have HN := Lib.hid (HSN.out true (by simpa using h0))
        go_wp2_with fail
        rw [HC.out]
        refine (FN.out _).mono ?_
        rintro e w' ⟨rfl, rfl⟩
        go_wp2_with fail
        go_round
        case rel => exact ⟨k + 1, _, by omega, by go_num, rfl, by rw [ByteArray.size_append]; show T.size + 1 ≤ _; omega, by show _ = _; rw [HN.out]; simp⟩
        case measure => simp [intOf]; omega
      · have HN := Lib.hid (HSN.out false (by simpa using h0))
        go_wp2_with fail
        rw [HC.out]
        refine (FN.out _).mono ?_
        rintro e w' ⟨rfl, rfl⟩
        go_wp2_with fail
        go_round
        case rel => exact ⟨k + 1, T, by omega, by go_num, rfl, by omega, by show _ = _; rw [HN.out]; simp⟩
        case measure => simp [intOf]; omega
    · have hE : T = ⟨(vars (nms wd) S.data.toList).toArray⟩ := by
        apply ByteArray.ext; apply Array.toList_inj.1; rw [HT.out, List.take_of_length_le (by have := HZ.out; omega)]
      have HE := Lib.hid hE
      clear hE HT
      go_wp2_with fail
      go_ret
      exact ⟨by rw [HE.out]; rfl, rfl⟩

end Go.Proofs.YtccjmahhebiphaaDoor
