/- Masks: or, and, and-not of sets of states as numbers; arrays of numbers. -/
import Derived.Test.YtccjmahhebiphaaDoorRr
import Derived.Test.YtccjmahhebiphaaDoorGa
import Derived.Lib.QuoteBits
namespace Go.Proofs.YtccjmahhebiphaaDoor
open Go.RowKit
open Pl

/-! ### bits of a mask -/
theorem tb_div (m i : Nat) : m.testBit i = (m / 2 ^ i % 2 == 1) := by
  rw [Nat.testBit_eq_decide_div_mod_eq]
  cases h : decide (m / 2 ^ i % 2 = 1) <;> simp_all
theorem msk_tb (f : Nat → Bool) (n i : Nat) : (msk f n).testBit i = (decide (i < n) && f i) := by
  by_cases h : i < n
  · rw [tb_div, msk_bit f h]; simp [h]
  · rw [Nat.testBit_lt_two_pow (Nat.lt_of_lt_of_le (msk_lt f n) (Nat.pow_le_pow_right (by decide) (by omega)))]
    simp [h]
theorem msk_ext {m : Nat} {f : Nat → Bool} {n : Nat} (hm : m < 2 ^ n) (h : ∀ i, i < n → m.testBit i = f i) : m = msk f n := by
  apply Nat.eq_of_testBit_eq
  intro i
  rw [msk_tb]
  by_cases hi : i < n
  · rw [h i hi]; simp [hi]
  · rw [Nat.testBit_lt_two_pow (Nat.lt_of_lt_of_le hm (Nat.pow_le_pow_right (by decide) (by omega)))]; simp [hi]
theorem msk_congr {f g : Nat → Bool} {n : Nat} (h : ∀ i, i < n → f i = g i) : msk f n = msk g n := by
  refine msk_ext (msk_lt f n) (fun i hi => ?_)
  rw [msk_tb, h i hi]; simp [hi]
theorem msk_inj {f g : Nat → Bool} {n : Nat} (h : msk f n = msk g n) {i : Nat} (hi : i < n) : f i = g i := by
  have h1 := msk_tb f n i
  have h2 := msk_tb g n i
  rw [h] at h1
  rw [h1] at h2
  simpa [hi] using h2
theorem msk_or (f g : Nat → Bool) (n : Nat) : msk f n ||| msk g n = msk (fun i => f i || g i) n := by
  refine msk_ext (Nat.or_lt_two_pow (msk_lt f n) (msk_lt g n)) (fun i hi => ?_)
  rw [Nat.testBit_or, msk_tb, msk_tb]; simp [hi]
theorem msk_one {n j : Nat} (hj : j < n) : 2 ^ j = msk (fun i => i == j) n := by
  refine msk_ext (Nat.pow_lt_pow_right (by decide) hj) (fun i hi => ?_)
  rw [Nat.testBit_two_pow]
  apply bool_ext
  rw [decide_eq_true_iff, beq_iff_eq]
  exact eq_comm
theorem msk_or1 (f : Nat → Bool) {n j : Nat} (hj : j < n) : msk f n ||| 2 ^ j = msk (fun i => f i || i == j) n := by
  rw [msk_one hj, msk_or]
theorem msk_zero (n : Nat) : msk (fun _ => false) n = 0 := by
  symm
  exact msk_ext (Nat.two_pow_pos n) (fun i _ => by simp)
/-! ### the machine's operations -/
theorem p27 {j : Nat} (hj : j < 27) : 2 ^ j < 134217728 := Nat.pow_lt_pow_right (by decide) hj
theorem or_int (m k : Nat) (hm : m < 134217728) (hk : k < 134217728) : bits BinOp.or IntKind.i64 (m : Int) (k : Int) = ((m ||| k : Nat) : Int) :=
  (bits_nat .i64 62 (by decide) i64_id m k (by omega) (by omega)).2
theorem and_int (m k : Nat) (hm : m < 134217728) (hk : k < 134217728) : bits BinOp.and IntKind.i64 (m : Int) (k : Int) = ((m &&& k : Nat) : Int) :=
  (bits_nat .i64 62 (by decide) i64_id m k (by omega) (by omega)).1
theorem wrap_pow {j : Nat} (hj : j < 27) : wrap64 (2 ^ j) = ((2 ^ j : Nat) : Int) := by
  have h1 := p27 hj
  have h2 : ((2 ^ j : Nat) : Int) = (2 : Int) ^ j := by push_cast; rfl
  have h3 : (0 : Int) ≤ 2 ^ j := by rw [← h2]; exact Int.natCast_nonneg _
  have h4 : (2 : Int) ^ j < 134217728 := by rw [← h2]; exact Int.ofNat_lt.2 h1
  rw [h2, ← IntWalk.i64_left, i64_id (2 ^ j) h3 (by omega)]
theorem or_pow (m j : Nat) (hm : m < 134217728) (hj : j < 27) : bits BinOp.or IntKind.i64 (m : Int) (wrap64 (2 ^ j)) = ((m ||| 2 ^ j : Nat) : Int) := by
  rw [wrap_pow hj]; exact or_int m _ hm (p27 hj)
theorem or_pow2 (m j : Nat) (hm : m < 134217728) (hj : j < 27) : bits BinOp.or IntKind.i64 (m : Int) (2 ^ j) = ((m ||| 2 ^ j : Nat) : Int) := by
  rw [show ((2 : Int) ^ j) = ((2 ^ j : Nat) : Int) by push_cast; rfl]; exact or_int m _ hm (p27 hj)
/-- what is in one mask and not in another -/
def adn (m k : Nat) : Nat := m &&& (18446744073709551615 - k)
theorem adn_le (m k : Nat) : adn m k ≤ m := Nat.and_le_left
theorem or_lt {m k : Nat} (hm : m < 134217728) (hk : k < 134217728) : m ||| k < 134217728 := Nat.or_lt_two_pow (n := 27) hm hk
theorem and_lt {m : Nat} (k : Nat) (hm : m < 134217728) : m &&& k < 134217728 := Nat.lt_of_le_of_lt Nat.and_le_left hm
theorem adn_lt {m : Nat} (k : Nat) (hm : m < 134217728) : adn m k < 134217728 := Nat.lt_of_le_of_lt (adn_le m k) hm
theorem adn_int (m k : Nat) (hm : m < 134217728) (hk : k < 134217728) : bits BinOp.andNot IntKind.i64 (m : Int) (k : Int) = ((adn m k : Nat) : Int) := by
  show IntKind.i64.wrap ((BitVec.ofInt 64 (m : Int) &&& ~~~BitVec.ofInt 64 (k : Int)).toNat : Int) = _
  rw [BitVec.toNat_and, BitVec.toNat_not, ofInt_u64 m (by omega), ofInt_u64 k (by omega)]
  have h2 := adn_lt k hm
  exact Lib.wrap_i64_small _ (show adn m k < _ by omega)
theorem adn_tb (m k i : Nat) (hk : k < 134217728) (hi : i < 64) : (adn m k).testBit i = (m.testBit i && !k.testBit i) := by
  unfold adn
  rw [Nat.testBit_and]
  have := Nat.testBit_two_pow_sub_succ (x := k) (n := 64) (by omega) i
  rw [show 2 ^ 64 - (k + 1) = 18446744073709551615 - k by omega] at this
  rw [this]
  simp [hi]
theorem adn_zero {f g : Nat → Bool} {n : Nat} (hn : n ≤ 27) : (adn (msk f n) (msk g n) == 0) = (List.range n).all (fun i => !f i || g i) := by
  have hk : msk g n < 134217728 := Nat.lt_of_lt_of_le (msk_lt g n) (Nat.pow_le_pow_right (by decide) hn)
  have hm : msk f n < 2 ^ n := msk_lt f n
  apply bool_ext
  rw [beq_iff_eq, List.all_eq_true]
  constructor
  · intro h i hi
    have hi : i < n := by simpa using hi
    have := adn_tb (msk f n) (msk g n) i hk (by omega)
    rw [h, msk_tb, msk_tb] at this
    simp [hi] at this
    cases hf : f i
    · rfl
    · simp [hf] at this; simp [this]
  · intro h
    apply Nat.eq_of_testBit_eq
    intro i
    rw [Nat.zero_testBit]
    by_cases hi : i < n
    · rw [adn_tb _ _ i hk (by omega), msk_tb, msk_tb]
      have := h i (by simpa using hi)
      simp [hi]
      intro hf
      simpa [hf] using this
    · exact Nat.testBit_lt_two_pow (Nat.lt_of_le_of_lt (adn_le _ _) (Nat.lt_of_lt_of_le hm (Nat.pow_le_pow_right (by decide) (by omega))))

/-! ### arrays of numbers -/
def av (n : Nat) (f : Nat → Nat) : Array Value := ((List.range n).map (fun a => Value.int .i64 (f a : Nat))).toArray
theorem av_size (n : Nat) (f : Nat → Nat) : (av n f).size = n := by simp [av]
theorem av_get {n : Nat} (f : Nat → Nat) {a : Nat} (ha : a < n) : (av n f)[a]? = some (.int .i64 (f a : Nat)) := by simp [av, ha]
theorem av_congr {n : Nat} {f g : Nat → Nat} (h : ∀ a, a < n → f a = g a) : av n f = av n g := by
  unfold av
  congr 1
  exact List.map_congr_left (fun i hi => by rw [h i (by simpa using hi)])
theorem av_inj {n : Nat} {f g : Nat → Nat} (h : av n f = av n g) {a : Nat} (ha : a < n) : f a = g a := by
  have h1 := av_get f ha
  rw [h, av_get g ha] at h1
  simp at h1
  omega
def upd (f : Nat → Nat) (a v : Nat) : Nat → Nat := fun i => if i = a then v else f i
theorem upd_at (f : Nat → Nat) (a v : Nat) : upd f a v a = v := if_pos rfl
theorem upd_ne {f : Nat → Nat} {a v i : Nat} (h : i ≠ a) : upd f a v i = f i := if_neg h
theorem av_set {n : Nat} (f : Nat → Nat) {a : Nat} (v : Nat) : (av n f).setIfInBounds a (.int .i64 (v : Nat)) = av n (upd f a v) := by
  apply Array.ext_getElem?
  intro i
  by_cases hi : i < n
  · rw [av_get _ hi]
    by_cases e : a = i
    · subst e
      rw [Array.getElem?_setIfInBounds_self_of_lt (by rw [av_size]; exact hi), upd_at]
    · rw [Array.getElem?_setIfInBounds_ne e, av_get _ hi, upd_ne (fun h => e h.symm)]
  · rw [Array.getElem?_eq_none (by simp [av_size]; omega), Array.getElem?_eq_none (by rw [av_size]; omega)]
theorem av_one (n : Nat) (f : Nat → Nat) : (av n f).all (·.oneCell') = true := by
  rw [Array.all_eq_true_iff_forall_mem]
  intro v hv
  simp only [av, List.mem_toArray, List.mem_map] at hv
  obtain ⟨i, _, rfl⟩ := hv
  rfl
theorem rowV_av (rb : Nat → Nat → Bool) : rowV rb = av 27 (fun i => msk (rb i) 27) := rfl
theorem av_zero : #[.int .i64 0, .int .i64 0, .int .i64 0, .int .i64 0, .int .i64 0, .int .i64 0, .int .i64 0, .int .i64 0, .int .i64 0, .int .i64 0, .int .i64 0, .int .i64 0, .int .i64 0, .int .i64 0, .int .i64 0, .int .i64 0, .int .i64 0, .int .i64 0, .int .i64 0, .int .i64 0, .int .i64 0, .int .i64 0, .int .i64 0, .int .i64 0, .int .i64 0, .int .i64 0, .int .i64 0] = av 27 (fun _ => 0) := by
  rw [arr_zero (fun _ _ => false), arr, av]
  refine congrArg List.toArray (List.map_congr_left ?_)
  intro a _
  simp [msk]
theorem rowV_congr {r s : Rl} (h : Eq27 r s) : rowV r = rowV s := by
  rw [rowV_av, rowV_av]
  exact av_congr (fun a ha => msk_congr (fun j hj => h a j ha hj))
theorem rowV_inj {r s : Rl} (h : rowV r = rowV s) : Eq27 r s := fun i j hi hj => by
  rw [rowV_av r, rowV_av s] at h
  have h2 : msk (r i) 27 = msk (s i) 27 := av_inj h hi
  exact msk_inj h2 hj
/-- masks small enough are relations -/
theorem av_rowV {f : Nat → Nat} (h : ∀ i, i < 27 → f i < 134217728) : av 27 f = rowV (fun i j => (f i).testBit j) := by
  rw [rowV_av]
  exact av_congr (fun a ha => msk_ext (h a ha) (fun _ _ => rfl))

end Go.Proofs.YtccjmahhebiphaaDoor
