/- Lines: the law's own helpers: sizes. -/
import Derived.Test.YtndlhdmpfnadcaaDoorLo
namespace Go.Proofs.YtndlhdmpfnadcaaDoor
open Go.RowKit
open Pl
set_option linter.unusedVariables false

/-- what is left behind a line's size -/
def leftV (left sum : Nat) : Int := if sum ≤ left then ((left - sum : Nat) : Int) else -1
theorem leftV_yes {left sum m : Nat} (h : sum + m = left) : leftV left sum = (m : Int) := by unfold leftV; rw [if_pos (by omega), show left - sum = m by omega]
theorem leftV_no {left sum : Nat} (h : left < sum) : leftV left sum = -1 := by unfold leftV; rw [if_neg (by omega)]
set_option maxHeartbeats 4000000 in
theorem szIntS_any (s : Option Addr) (n c l : Nat) (hn : n ≤ 9223372036854775807) (hl : l ≤ 1048576) (w : World) :
    Calls Tryd.prog 21 #[.slice s n c, .int .i64 (l : Int)] w fun e w' => e = .returned (.int .i64 (leftV l n)) ∧ w = w' := by
  by_cases h : n ≤ l
  · obtain ⟨m, hm⟩ : ∃ m, n + m = l := ⟨l - n, by omega⟩
    rw [leftV_yes hm]
    have g1 : (l : Int) - (n : Int) = (m : Int) := by omega
    have g2 : wrap64 ((l : Int) - (n : Int)) = (m : Int) := by unfold wrap64; omega
    have g3 : decide ((m : Int) < 0) = false := decide_eq_false (by omega)
    clear hm
    go_enter Tryd.func21, Tryd.ntmps21
    go_wp2_with fail
    go_ret
    exact ⟨by first | rfl | simp [g1, g2], rfl⟩
  · rw [leftV_no (by omega)]
    obtain ⟨x, hx⟩ : ∃ x, (l : Int) - (n : Int) = x := ⟨_, rfl⟩
    have g0 : x < 0 := by omega
    have g1 : wrap64 x = x := by unfold wrap64; omega
    have g3 : decide (x < 0) = true := by simp; omega
    go_enter Tryd.func21, Tryd.ntmps21
    go_wp2_with fail
    go_ret
    exact ⟨rfl, rfl⟩
set_option maxRecDepth 100000 in
set_option maxHeartbeats 16000000 in
theorem szLine_any (R A P Q B : ByteArray) (s : Option Addr) (n c l : Nat) (hs : R.size ≤ 9223372036854775807 ∧ A.size ≤ 9223372036854775807 ∧ P.size ≤ 9223372036854775807 ∧ Q.size ≤ 9223372036854775807 ∧ B.size ≤ 9223372036854775807) (hn : n ≤ 9223372036854775807) (hl : l ≤ 1048576) (w : World) :
    Calls Tryd.prog 12 #[.agg #[.string R, .string A, .string P, .string Q, .string B, .slice s n c], .int .i64 (l : Int)] w fun e w' => (e = .returned (.int .i64 (leftV l (R.size + A.size + P.size + Q.size + B.size + n))) ∧ Below w.heap.size w w') := by
  have H := (Sit.refl w).box6 (a := .string R) (b := .string A) (c := .string P) (d := .string Q) (e := .string B) (f := .slice s n c) 35
  obtain ⟨hs1, hs2, hs3, hs4, hs5⟩ := hs
  by_cases h0 : l < R.size
  · rw [leftV_no (by omega)]
    have g0 : (((l : Nat) : Int) - (R.size : Int)) < 0 := by omega
    have g1 : wrap64 (((l : Nat) : Int) - (R.size : Int)) = ((l : Nat) : Int) - (R.size : Int) := by unfold wrap64; omega
    have g3 : decide ((((l : Nat) : Int) - (R.size : Int)) < 0) = true := by simp; omega
    obtain ⟨d0, d1, d2, d3, d4, d5⟩ := H.c6
    go_enter Tryd.func12, Tryd.ntmps12
    go_wp2_with fail
    go_ret
    exact ⟨rfl, H.below⟩
  obtain ⟨m0, hm0⟩ : ∃ m, R.size + m = l := ⟨l - R.size, by omega⟩
  have e0 : ((l : Nat) : Int) - (R.size : Int) = (m0 : Int) := by omega
  have f0 : decide ((m0 : Int) < 0) = false := decide_eq_false (by omega)
  by_cases h1 : m0 < A.size
  · rw [leftV_no (by omega)]
    have g0 : (((m0 : Nat) : Int) - (A.size : Int)) < 0 := by omega
    have g1 : wrap64 (((m0 : Nat) : Int) - (A.size : Int)) = ((m0 : Nat) : Int) - (A.size : Int) := by unfold wrap64; omega
    have g3 : decide ((((m0 : Nat) : Int) - (A.size : Int)) < 0) = true := by simp; omega
    obtain ⟨d0, d1, d2, d3, d4, d5⟩ := H.c6
    go_enter Tryd.func12, Tryd.ntmps12
    go_wp2_with fail
    go_ret
    exact ⟨rfl, H.below⟩
  obtain ⟨m1, hm1⟩ : ∃ m, A.size + m = m0 := ⟨m0 - A.size, by omega⟩
  have e1 : ((m0 : Nat) : Int) - (A.size : Int) = (m1 : Int) := by omega
  have f1 : decide ((m1 : Int) < 0) = false := decide_eq_false (by omega)
  by_cases h2 : m1 < P.size
  · rw [leftV_no (by omega)]
    have g0 : (((m1 : Nat) : Int) - (P.size : Int)) < 0 := by omega
    have g1 : wrap64 (((m1 : Nat) : Int) - (P.size : Int)) = ((m1 : Nat) : Int) - (P.size : Int) := by unfold wrap64; omega
    have g3 : decide ((((m1 : Nat) : Int) - (P.size : Int)) < 0) = true := by simp; omega
    obtain ⟨d0, d1, d2, d3, d4, d5⟩ := H.c6
    go_enter Tryd.func12, Tryd.ntmps12
    go_wp2_with fail
    go_ret
    exact ⟨rfl, H.below⟩
  obtain ⟨m2, hm2⟩ : ∃ m, P.size + m = m1 := ⟨m1 - P.size, by omega⟩
  have e2 : ((m1 : Nat) : Int) - (P.size : Int) = (m2 : Int) := by omega
  have f2 : decide ((m2 : Int) < 0) = false := decide_eq_false (by omega)
  by_cases h3 : m2 < Q.size
  · rw [leftV_no (by omega)]
    have g0 : (((m2 : Nat) : Int) - (Q.size : Int)) < 0 := by omega
    have g1 : wrap64 (((m2 : Nat) : Int) - (Q.size : Int)) = ((m2 : Nat) : Int) - (Q.size : Int) := by unfold wrap64; omega
    have g3 : decide ((((m2 : Nat) : Int) - (Q.size : Int)) < 0) = true := by simp; omega
    obtain ⟨d0, d1, d2, d3, d4, d5⟩ := H.c6
    go_enter Tryd.func12, Tryd.ntmps12
    go_wp2_with fail
    go_ret
    exact ⟨rfl, H.below⟩
  obtain ⟨m3, hm3⟩ : ∃ m, Q.size + m = m2 := ⟨m2 - Q.size, by omega⟩
  have e3 : ((m2 : Nat) : Int) - (Q.size : Int) = (m3 : Int) := by omega
  have f3 : decide ((m3 : Int) < 0) = false := decide_eq_false (by omega)
  by_cases h4 : m3 < B.size
  · rw [leftV_no (by omega)]
    have g0 : (((m3 : Nat) : Int) - (B.size : Int)) < 0 := by omega
    have g1 : wrap64 (((m3 : Nat) : Int) - (B.size : Int)) = ((m3 : Nat) : Int) - (B.size : Int) := by unfold wrap64; omega
    have g3 : decide ((((m3 : Nat) : Int) - (B.size : Int)) < 0) = true := by simp; omega
    obtain ⟨d0, d1, d2, d3, d4, d5⟩ := H.c6
    go_enter Tryd.func12, Tryd.ntmps12
    go_wp2_with fail
    go_ret
    exact ⟨rfl, H.below⟩
  obtain ⟨m4, hm4⟩ : ∃ m, B.size + m = m3 := ⟨m3 - B.size, by omega⟩
  have e4 : ((m3 : Nat) : Int) - (B.size : Int) = (m4 : Int) := by omega
  have f4 : decide ((m4 : Int) < 0) = false := decide_eq_false (by omega)
  have SZ := Lib.hid (fun w => szIntS_any s n c m4 hn (by omega) w)
  have hv : leftV l (R.size + A.size + P.size + Q.size + B.size + n) = leftV m4 n := by
    by_cases h : n ≤ m4
    · rw [leftV_yes (m := m4 - n) (by omega), leftV_yes (m := m4 - n) (by omega)]
    · rw [leftV_no (by omega), leftV_no (by omega)]
  rw [hv]
  by_cases h5 : m4 < n
  · rw [leftV_no h5] at SZ
    rw [leftV_no h5]
    obtain ⟨d0, d1, d2, d3, d4, d5⟩ := H.c6
    clear hv
    go_enter Tryd.func12, Tryd.ntmps12
    go_wp2_with fail
    refine (SZ.out _).mono ?_
    rintro e w' ⟨rfl, rfl⟩
    go_wp2_with fail
    go_ret
    exact ⟨rfl, H.below⟩
  · obtain ⟨m5, hm5⟩ : ∃ m, n + m = m4 := ⟨m4 - n, by omega⟩
    rw [leftV_yes hm5] at SZ
    rw [leftV_yes hm5]
    have f5 : decide ((m5 : Int) < 0) = false := decide_eq_false (by omega)
    obtain ⟨d0, d1, d2, d3, d4, d5⟩ := H.c6
    clear hv hm5
    go_enter Tryd.func12, Tryd.ntmps12
    go_wp2_with fail
    refine (SZ.out _).mono ?_
    rintro e w' ⟨rfl, rfl⟩
    go_wp2_with fail
    go_ret
    exact ⟨rfl, H.below⟩
end Go.Proofs.YtndlhdmpfnadcaaDoor
