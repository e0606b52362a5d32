/- RelOf of the reference: sets of states as masks. -/
import Derived.Test.YtndlhdmpfnadcaaDoorPd
import Derived.Test.YtndlhdmpfnadcaaDoorBi
import Derived.Test.YtndlhdmpfnadcaaDoorSpb
import Derived.Lib.EndianBits
namespace Go.Proofs.YtndlhdmpfnadcaaDoor
open Go.RowKit
open Pl

def msk (f : Nat → Bool) : Nat → Nat
  | 0 => 0
  | n + 1 => msk f n + (if f n then 2 ^ n else 0)
theorem msk_lt (f : Nat → Bool) : ∀ n, msk f n < 2 ^ n
  | 0 => Nat.zero_lt_one
  | n + 1 => by
    have := msk_lt f n
    simp only [msk]
    rw [Nat.pow_succ]
    split <;> omega
theorem msk_bit (f : Nat → Bool) {i : Nat} : ∀ {n : Nat}, i < n → (msk f n / 2 ^ i % 2 == 1) = f i
  | n + 1, h => by
    simp only [msk]
    by_cases e : i = n
    · subst e
      have := msk_lt f i
      cases hf : f i
      · simp [Nat.div_eq_of_lt this]
      · simp only [if_true]
        rw [Nat.add_div_right _ (Nat.two_pow_pos i), Nat.div_eq_of_lt this]
        rfl
    · have h2 : i < n := by omega
      rw [← msk_bit f h2]
      cases hf : f n
      · simp
      · simp only [if_true]
        obtain ⟨m, rfl⟩ : ∃ m, n = i + (m + 1) := ⟨n - i - 1, by omega⟩
        have e2 : 2 ^ (i + (m + 1)) = 2 ^ i * (2 * 2 ^ m) := by rw [Nat.pow_add, Nat.pow_succ, Nat.mul_comm (2 ^ m) 2]
        rw [e2, Nat.add_mul_div_left _ _ (Nat.two_pow_pos i), Nat.add_mul_mod_self_left]
theorem i64_id (n : Int) (h0 : 0 ≤ n) (h1 : n < 2 ^ 62) : IntKind.i64.wrap n = n := IntWalk.i64_in _ (by omega)
theorem and_bit (m i : Nat) (hm : m < 134217728) : bits BinOp.and IntKind.i64 ((m : Int) / 2 ^ i) 1 = ((m / 2 ^ i % 2 : Nat) : Int) := by
  have e : ((m : Int) / 2 ^ i) = ((m / 2 ^ i : Nat) : Int) := by push_cast; rfl
  have hd : m / 2 ^ i ≤ m := Nat.div_le_self _ _
  rw [e, show (1 : Int) = ((1 : Nat) : Int) from rfl, (bits_nat .i64 62 (by decide) i64_id (m / 2 ^ i) 1 (by omega) (by decide)).1, Nat.and_one_is_mod]
theorem or_bit (m j : Nat) (hm : m < 2 ^ j) (hj : j < 27) : bits BinOp.or IntKind.i64 (m : Int) (2 ^ j) = ((m + 2 ^ j : Nat) : Int) := by
  have h1 : 2 ^ j < 2 ^ 27 := Nat.pow_lt_pow_right (by decide) hj
  have h2 : ((2 ^ j : Nat) : Int) = (2 : Int) ^ j := by push_cast; rfl
  rw [bits_join_low .i64 62 (by decide) i64_id j (m : Int) (2 ^ j) (by omega) (by rw [← h2]; omega) (by omega) (by rw [← h2]; omega) (Int.emod_self) (by rw [← h2]; omega), ← h2]
  push_cast
  rfl
/-- the rows of a relation, one after the other -/
def rflat (rb : Nat → Nat → Bool) (k : Nat) : List UInt8 := (List.range k).flatMap (fun i => bitsN 27 (rb i))
theorem rfl_succ (rb : Nat → Nat → Bool) (k : Nat) : rflat rb (k + 1) = rflat rb k ++ bitsN 27 (rb k) := by simp [rflat, List.range_succ]
theorem rfl_len (rb : Nat → Nat → Bool) : ∀ k, (rflat rb k).length = 27 * k
  | 0 => rfl
  | k + 1 => by rw [rfl_succ, List.length_append, rfl_len rb k, bits_len]; omega
theorem rfl_bits (rb : Nat → Nat → Bool) : ∀ k, bitsN (27 * k) (fun n => rb (n / 27) (n % 27)) = rflat rb k
  | 0 => rfl
  | k + 1 => by
    rw [rfl_succ, ← rfl_bits rb k, Nat.mul_succ]
    unfold bitsN
    rw [List.range_add, List.map_append, List.map_map]
    congr 1
    apply List.map_congr_left
    intro i hi
    have hi : i < 27 := by simpa using hi
    simp only [Function.comp_apply]
    rw [show (27 * k + i) / 27 = k by omega, show (27 * k + i) % 27 = i by omega]
theorem relOf_flat (k : Nd) : relOf k = rflat (relB k) 27 := (rfl_bits (relB k) 27)
/-- a relation as masks -/
def rowV (rb : Nat → Nat → Bool) : Array Value := ((List.range 27).map (fun i => Value.int .i64 (msk (rb i) 27 : Nat))).toArray
theorem rowV_get (rb : Nat → Nat → Bool) {i : Nat} (hi : i < 27) : (rowV rb)[i]? = some (.int .i64 (msk (rb i) 27 : Nat)) := by
  unfold rowV
  simp [hi]

end Go.Proofs.YtndlhdmpfnadcaaDoor
