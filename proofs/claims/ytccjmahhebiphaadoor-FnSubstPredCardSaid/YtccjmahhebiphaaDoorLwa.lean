/- Small words of the laws and the reference's tests of whole texts: ppHas, ExprValid, TestValid. -/
import Derived.Test.YtccjmahhebiphaaDoorSpa
import Derived.Test.YtccjmahhebiphaaDoorGb
namespace Go.Proofs.YtccjmahhebiphaaDoor
open Go.RowKit
open Pl

theorem extract_one {S : ByteArray} {k : Nat} (h : k < S.size) : S.extract k (k + 1) = ⟨#[S[k]]⟩ := by
  have h1 := drop_cons h
  exact (extract_text (S := S) (p := k) (q := k + 1) (t := [S[k]]) (by omega) (by simpa using h1) (by omega)).2

/-- a string has a letter -/
def hasB (l : List UInt8) (c : UInt8) : Bool := decide (c ∈ l)
set_option maxHeartbeats 1000000 in
theorem has_one (S : ByteArray) (c : UInt8) (hS : S.size ≤ 1000000) (w : World) :
    Calls Tryd.prog 17 #[.string S, .string ⟨#[c]⟩] w fun e w' => e = .returned (.bool (hasB S.data.toList c)) ∧ w = w' := by
  go_enter Tryd.func17, Tryd.ntmps17
  go_wp2
  go_loop [5] (fun i => ∃ k : Nat, k ≤ S.size ∧ i = .int .i64 k ∧ Hid (∀ j (hj : j < k) (h2 : j < S.size), S[j] ≠ c)) (fun i => S.size - (intOf i).toNat)
  case atStart => exact ⟨0, Nat.zero_le _, rfl, fun j hj => absurd hj (by omega)⟩
  case round =>
    obtain ⟨k, hk, rfl, hno⟩ := hrel
    by_cases hlt : k < S.size
    · have hex := extract_one hlt
      obtain ⟨x, hx⟩ : ∃ x, S[k] = x := ⟨_, rfl⟩
      rw [hx] at hex
      by_cases he : x = c
      · subst he
        have hm : x ∈ S.data.toList := by
          have hl := len_S S
          have : S.data.toList[k]'(by omega) = x := hx
          rw [← this]; exact List.getElem_mem _
        have HM := Lib.hid hm
        clear hm hno hx
        go_wp2
        go_ret
        exact ⟨ret_bool (decide_eq_true HM.out).symm, rfl⟩
      · have HN : Hid (∀ j (hj : j < k + 1) (h2 : j < S.size), S[j] ≠ c) := by
          intro j hj h2
          by_cases hjk : j = k
          · subst hjk; rw [hx]; exact he
          · exact hno.out j (by omega) h2
        have hb : (x == c) = false := by simp [he]
        clear hno hx he
        go_wp2
        go_round
        case rel => exact ⟨k + 1, by omega, by go_num, HN⟩
        case measure => simp [intOf]; omega
    · have hm : ¬ c ∈ S.data.toList := by
        intro h
        obtain ⟨j, hj, e⟩ := List.getElem_of_mem h
        have hl := len_S S
        exact hno.out j (by omega) (by omega) e
      have HM := Lib.hid hm
      clear hm hno
      go_wp2
      go_ret
      exact ⟨ret_bool (decide_eq_false HM.out).symm, rfl⟩

set_option maxHeartbeats 1000000 in
theorem ExprValidS_any (S : ByteArray) (w : World) (hS : S.size ≤ 1000000000000) : Calls Tryd.prog 78 #[.string S] w fun e w' => (e = .returned (.bool (whole false 0 200 S.data.toList).isSome) ∧ ∃ m, w' = w.drewN m) := by
  have hW := endOf_whole (wd := false) (so := 0) (most := 200) (l := S.data.toList) (by omega)
  rw [len_S] at hW
  by_cases hbig : S.size ≤ 200
  · have E := Lib.hid (expr_all S (by omega) false 0 w (by omega) (by omega))
    simp only [hbig, decide_true, Bool.true_and] at hW
    rw [← hW]
    clear hW
    generalize endOf false 0 S.data.toList 0 = z at *
    go_enter Tryd.func78, Tryd.ntmps78
    go_wp2_with fail
    refine E.out.mono ?_
    rintro e w' ⟨rfl, m, rfl⟩
    go_wp2_with fail
    go_ret
    exact ⟨rfl, _, rfl⟩
  · simp only [hbig, decide_false, Bool.false_and] at hW
    rw [← hW]
    clear hW
    go_enter Tryd.func78, Tryd.ntmps78
    go_wp2_with fail
    go_ret
    exact ⟨rfl, 0, rfl⟩

set_option maxHeartbeats 1000000 in
theorem TestValidS_any (S : ByteArray) (w : World) (hS : S.size ≤ 1000000000000) : Calls Tryd.prog 91 #[.string S] w fun e w' => (e = .returned (.bool (whole false 1 200 S.data.toList).isSome) ∧ ∃ m, w' = w.drewN m) := by
  have hW := endOf_whole (wd := false) (so := 1) (most := 200) (l := S.data.toList) (by omega)
  rw [len_S] at hW
  by_cases hbig : S.size ≤ 200
  · have E := Lib.hid (test_all S (by omega) false 0 w (by omega) (by omega))
    simp only [hbig, decide_true, Bool.true_and] at hW
    rw [← hW]
    clear hW
    generalize endOf false 1 S.data.toList 0 = z at *
    go_enter Tryd.func91, Tryd.ntmps91
    go_wp2_with fail
    refine E.out.mono ?_
    rintro e w' ⟨rfl, m, rfl⟩
    go_wp2_with fail
    go_ret
    exact ⟨rfl, _, rfl⟩
  · simp only [hbig, decide_false, Bool.false_and] at hW
    rw [← hW]
    clear hW
    go_enter Tryd.func91, Tryd.ntmps91
    go_wp2_with fail
    go_ret
    exact ⟨rfl, 0, rfl⟩

set_option maxHeartbeats 1000000 in
theorem WideValidS_any (S : ByteArray) (w : World) (hS : S.size ≤ 1000000000000) : Calls Tryd.prog 138 #[.string S] w fun e w' => (e = .returned (.bool (whole true 1 200 S.data.toList).isSome) ∧ ∃ m, w' = w.drewN m) := by
  have hW := endOf_whole (wd := true) (so := 1) (most := 200) (l := S.data.toList) (by omega)
  rw [len_S] at hW
  by_cases hbig : S.size ≤ 200
  · have E := Lib.hid (test_all S (by omega) true 0 w (by omega) (by omega))
    simp only [hbig, decide_true, Bool.true_and] at hW
    rw [← hW]
    clear hW
    generalize endOf true 1 S.data.toList 0 = z at *
    go_enter Tryd.func138, Tryd.ntmps138
    go_wp2_with fail
    refine E.out.mono ?_
    rintro e w' ⟨rfl, m, rfl⟩
    go_wp2_with fail
    go_ret
    exact ⟨rfl, _, rfl⟩
  · simp only [hbig, decide_false, Bool.false_and] at hW
    rw [← hW]
    clear hW
    go_enter Tryd.func138, Tryd.ntmps138
    go_wp2_with fail
    go_ret
    exact ⟨rfl, 0, rfl⟩

end Go.Proofs.YtccjmahhebiphaaDoor
