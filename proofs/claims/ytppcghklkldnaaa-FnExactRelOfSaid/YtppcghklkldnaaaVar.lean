/- The contract of variable: a letter is that of a variable. -/
import Derived.Test.YtppcghklkldnaaaRows
import Derived.Test.YtppcghklkldnaaaKit
import Derived.WalkLawsBesides
import Derived.Deep.QuietTactic
import Derived.BigQuiet
import Derived.Deep.RegionWith
import Derived.Deep.DeepCutAuto
import Derived.Deep.CutBlock
import Derived.Deep.LoopGhost
import Derived.StillTailTactics
import Derived.Maps.AppendAt
namespace Go.Proofs.Ytppcghklkldnaaa
open Go.RowKit
open Pl

set_option maxHeartbeats 1000000 in
theorem variable_yes (c : UInt8) (wd : Bool) (rb : Nat) (w : World) (c2 : w.cell? ⟨rb, 2, none⟩ = some (.bool wd)) (h : isV wd c = true) :
    Calls Try.prog 154 #[.pointer (some ⟨rb, 0, none⟩), .int .u8 c.toNat] w fun e w' => e = .returned (.bool true) ∧ w = w' := by
  simp only [isV, Bool.or_eq_true, Bool.and_eq_true, decide_eq_true_eq, UInt8.le_iff_toNat_le] at h
  simp only [UInt8.reduceToNat] at h
  generalize c.toNat = n at *
  by_cases h1 : 120 ≤ n
  · by_cases h2 : n ≤ 122
    · clear h c2
      go_enter Try.func154, Try.ntmps154
      go_wp2
      go_ret
      exact ⟨rfl, rfl⟩
    · exfalso; omega
  · have h3 : 88 ≤ n := by omega
    have h4 : n ≤ 90 := by omega
    obtain rfl : wd = true := by rcases h with h | h; omega; exact h.1
    clear h
    go_enter Try.func154, Try.ntmps154
    go_wp2
    go_ret
    exact ⟨ret_bool (by simp; omega), rfl⟩

set_option maxHeartbeats 1000000 in
theorem variable_no (c : UInt8) (wd : Bool) (rb : Nat) (w : World) (c2 : w.cell? ⟨rb, 2, none⟩ = some (.bool wd)) (h : isV wd c = false) :
    Calls Try.prog 154 #[.pointer (some ⟨rb, 0, none⟩), .int .u8 c.toNat] w fun e w' => e = .returned (.bool false) ∧ w = w' := by
  have h' : ¬ ((120 ≤ c.toNat ∧ c.toNat ≤ 122) ∨ (wd = true ∧ (88 ≤ c.toNat ∧ c.toNat ≤ 90))) := by
    intro hh
    have : isV wd c = true := by
      simp only [isV, Bool.or_eq_true, Bool.and_eq_true, decide_eq_true_eq, UInt8.le_iff_toNat_le]
      exact hh
    rw [this] at h; cases h
  clear h
  have hc := c.toNat_lt
  generalize c.toNat = n at *
  have f : wd = false ∨ n < 88 ∨ 90 < n := by
    cases wd
    · exact .inl rfl
    · by_cases h1 : 88 ≤ n
      · by_cases h2 : n ≤ 90
        · exact absurd (.inr ⟨rfl, h1, h2⟩) h'
        · exact .inr (.inr (by omega))
      · exact .inr (.inl (by omega))
  have g : n < 120 ∨ 122 < n := by
    by_cases h1 : 120 ≤ n
    · by_cases h2 : n ≤ 122
      · exact absurd (.inl ⟨h1, h2⟩) h'
      · exact .inr (by omega)
    · exact .inl (by omega)
  clear h'
  rcases f with rfl | f | f
  · rcases g with g | g
    all_goals
      go_enter Try.func154, Try.ntmps154
      go_wp2
      go_ret
      exact ⟨ret_bool (by simp <;> omega), rfl⟩
  · have g' : n < 120 := by omega
    clear g
    cases wd
    all_goals
      go_enter Try.func154, Try.ntmps154
      go_wp2
      go_ret
      exact ⟨ret_bool (by simp <;> omega), rfl⟩
  · rcases g with g | g <;> cases wd
    all_goals
      go_enter Try.func154, Try.ntmps154
      go_wp2
      go_ret
      exact ⟨ret_bool (by simp <;> omega), rfl⟩

end Go.Proofs.Ytppcghklkldnaaa
