/- What values and truths the program reads off its nodes in memory: the contracts of slot, value and truth. -/
import Derived.Test.YtndlhdmpfnadcaaGreatDoorRows
import Derived.Test.YtndlhdmpfnadcaaGreatDoorGb
import Derived.WalkLawsBesides
import Derived.Deep.QuietTactic
import Derived.BigQuiet
import Derived.Deep.RegionWith
namespace Go.Proofs.YtndlhdmpfnadcaaGreatDoor
open Go.RowKit
open Pl


theorem isV_cases {wd : Bool} {c : UInt8} (h : isV wd c = true) : (120 ≤ c.toNat ∧ c.toNat ≤ 122) ∨ (88 ≤ c.toNat ∧ c.toNat ≤ 90) := by
  simp only [isV, Bool.or_eq_true, Bool.and_eq_true, decide_eq_true_eq, UInt8.le_iff_toNat_le] at h
  rcases h with h | ⟨_, h⟩
  · exact .inl h
  · exact .inr h
theorem isD_V {wd : Bool} {c : UInt8} (h : isV wd c = true) : isD c = false := by
  have h' := isV_cases h
  cases hd : isD c
  · rfl
  · have := isD_range hd; omega
theorem u8_of {c : UInt8} {n : Nat} (hn : n < 256) (h : c.toNat = n) : c = UInt8.ofNat n := by
  apply UInt8.toNat_inj.1
  rw [h, UInt8.toNat_ofNat']
  exact (Nat.mod_eq_of_lt hn).symm

/-- which cell of the block of values a letter names -/
theorem env_lo {w : World} {eb : Nat} {x y z X Y Z : Int} (h : Env w eb x y z X Y Z) {c : UInt8} (h1 : 120 ≤ c.toNat) (h2 : c.toNat ≤ 122) :
    w.cell? ⟨eb, ((c.toNat : Int) - 120).toNat, none⟩ = some (.int .i64 (envOf x y z X Y Z c)) := by
  obtain ⟨_, h3, h4, h5, _⟩ := h
  have : c.toNat = 120 ∨ c.toNat = 121 ∨ c.toNat = 122 := by omega
  rcases this with e | e | e <;> obtain rfl := u8_of (by omega) e
  · exact h3
  · exact h4
  · exact h5
theorem env_hi {w : World} {eb : Nat} {x y z X Y Z : Int} (h : Env w eb x y z X Y Z) {c : UInt8} (h1 : 88 ≤ c.toNat) (h2 : c.toNat ≤ 90) :
    w.cell? ⟨eb, ((c.toNat : Int) - 88 + 3).toNat, none⟩ = some (.int .i64 (envOf x y z X Y Z c)) := by
  obtain ⟨_, _, _, _, h3, h4, h5⟩ := h
  have : c.toNat = 88 ∨ c.toNat = 89 ∨ c.toNat = 90 := by omega
  rcases this with e | e | e <;> obtain rfl := u8_of (by omega) e
  · exact h3
  · exact h4
  · exact h5


theorem val_v {wd : Bool} {ρ : UInt8 → Int} {c : UInt8} (h : isV wd c = true) : val ρ (.n0 c) = ρ c := by simp [val, isD_V h]


theorem UInt8.toNat_ne {c : UInt8} {n : Nat} (h : ¬ c = UInt8.ofNat n) (hn : n < 256) : ¬ c.toNat = n := fun e => h (u8_of hn e)


end Go.Proofs.YtndlhdmpfnadcaaGreatDoor
