/- RelOf of the reference: sets of states as masks. -/
import Derived.Test.YtndlhdmpfnadcaaPd
import Derived.Test.YtndlhdmpfnadcaaBi
import Derived.Test.YtndlhdmpfnadcaaSpb
import Derived.Lib.EndianBits
namespace Go.Proofs.Ytndlhdmpfnadcaa
open Go.RowKit
open Pl

def msk (f : Nat → Bool) : Nat → Nat
  | 0 => 0
  | n + 1 => msk f n + (if f n then 2 ^ n else 0)
theorem msk_lt (f : Nat → Bool) : ∀ n, msk f n < 2 ^ n
  | 0 => Nat.zero_lt_one
  | n + 1 => by
    have := msk_lt f n
    simp only [msk]
    rw [Nat.pow_succ]
    split <;> omega
theorem msk_bit (f : Nat → Bool) {i : Nat} : ∀ {n : Nat}, i < n → (msk f n / 2 ^ i % 2 == 1) = f i
  | n + 1, h => by
    simp only [msk]
    by_cases e : i = n
    · subst e
      have := msk_lt f i
      cases hf : f i
      · simp [Nat.div_eq_of_lt this]
      · simp only [if_true]
        rw [Nat.add_div_right _ (Nat.two_pow_pos i), Nat.div_eq_of_lt this]
        rfl
    · have h2 : i < n := by omega
      rw [← msk_bit f h2]
      cases hf : f n
      · simp
      · simp only [if_true]
        obtain ⟨m, rfl⟩ : ∃ m, n = i + (m + 1) := ⟨n - i - 1, by omega⟩
        have e2 : 2 ^ (i + (m + 1)) = 2 ^ i * (2 * 2 ^ m) := by rw [Nat.pow_add, Nat.pow_succ, Nat.mul_comm (2 ^ m) 2]
        rw [e2, Nat.add_mul_div_left _ _ (Nat.two_pow_pos i), Nat.add_mul_mod_self_left]
theorem i64_id (n : Int) (h0 : 0 ≤ n) (h1 : n < 2 ^ 62) : IntKind.i64.wrap n = n := IntWalk.i64_in _ (by omega)
theorem and_bit (m i : Nat) (hm : m < 134217728) : bits BinOp.and IntKind.i64 ((m : Int) / 2 ^ i) 1 = ((m / 2 ^ i % 2 : Nat) : Int) := by
  have e : ((m : Int) / 2 ^ i) = ((m / 2 ^ i : Nat) : Int) := by push_cast; rfl
  have hd : m / 2 ^ i ≤ m := Nat.div_le_self _ _
  rw [e, show (1 : Int) = ((1 : Nat) : Int) from rfl, (bits_nat .i64 62 (by decide) i64_id (m / 2 ^ i) 1 (by omega) (by decide)).1, Nat.and_one_is_mod]
theorem or_bit (m j : Nat) (hm : m < 2 ^ j) (hj : j < 27) : bits BinOp.or IntKind.i64 (m : Int) (2 ^ j) = ((m + 2 ^ j : Nat) : Int) := by
  have h1 : 2 ^ j < 2 ^ 27 := Nat.pow_lt_pow_right (by decide) hj
  have h2 : ((2 ^ j : Nat) : Int) = (2 : Int) ^ j := by push_cast; rfl
  rw [bits_join_low .i64 62 (by decide) i64_id j (m : Int) (2 ^ j) (by omega) (by rw [← h2]; omega) (by omega) (by rw [← h2]; omega) (Int.emod_self) (by rw [← h2]; omega), ← h2]
  push_cast
  rfl
set_option maxHeartbeats 1000000 in
theorem l4In_any (m i : Nat) (hm : m < 134217728) (hi : i < 27) (w : World) : Calls Try.prog 92 #[.int .i64 (m : Int), .int .i64 (i : Int)] w fun e w' => e = .returned (.bool (m / 2 ^ i % 2 == 1)) ∧ w = w' := by
  have HA := Lib.hid (and_bit m i hm)
  go_enter Try.func92, Try.ntmps92
  go_wp2_with fail
  go_ret
  exact ⟨ret_bool (by
    show (bits BinOp.and IntKind.i64 ((m : Int) / 2 ^ i) 1 == 1) = _
    rw [HA.out, Bool.eq_iff_iff, beq_iff_eq, beq_iff_eq]
    omega), rfl⟩
set_option maxRecDepth 100000 in
set_option maxHeartbeats 4000000 in
theorem l4Text_any (f : Nat → Bool) (m : Nat) (hm : m = msk f 27) (w : World) : Calls Try.prog 71 #[.int .i64 (m : Int)] w fun e w' => (e = .returned (.string (bs (bitsN 27 f))) ∧ Below w.heap.size w w') := by
  have hlt : m < 134217728 := by rw [hm]; exact msk_lt f 27
  have HF := Lib.hid (fun i (hi : i < 27) => show (m / 2 ^ i % 2 == 1) = f i by rw [hm]; exact msk_bit f hi)
  have hmk := run_make_row' (P := Try.prog) 29 5 (.int .u8 0) 1 Try.underlying29 u8_info rfl .i64 .i64 27 (by omega) (by omega)
  simp only [Int.cast_ofNat_Int] at hmk
  have R0 : Hid (ByteRow (w.alloc (.cells (madeCells #[.int .u8 0] 27) 5)) w.heap.size (fillN (bitsN 27 f) 0)) := by rw [part_zero, bits_len]; exact byteRow_made w 27
  have B0 := Lib.hid (below_n w (.cells (madeCells #[.int .u8 0] 27) 5))
  clear hm
  go_enter Try.func71, Try.ntmps71
  go_wp2_with fail
  go_loopg [4] 27 (fun gk i wr => ∃ k : Nat, k + gk = 27 ∧ i = .int .i64 k ∧ Hid (ByteRow wr w.heap.size (fillN (bitsN 27 f) k)) ∧ Hid (Below w.heap.size w wr))
  case atStart => exact ⟨0, by simp, rfl, R0, B0⟩
  case round =>
    clear R0 B0 hmk
    obtain ⟨j, hj, rfl, R, B⟩ := hrel
    by_cases h27 : j < 27
    · have IN := Lib.hid (fun w => l4In_any m j hlt h27 w)
      rw [HF.out j h27] at IN
      have hkl : j < (fillN (bitsN 27 f) j).length := by rw [part_len _ _ (by rw [bits_len]; omega), bits_len]; exact h27
      obtain ⟨⟨cv, hcc⟩, hf⟩ := R.out.any (i := j) hkl
      have B4 := Lib.hid (B.out.setCell (p := ⟨w.heap.size, j, none⟩) (Nat.le_refl _) (.int .u8 ((bitC (f j)).toNat : Int)))
      have R4 := Lib.hid (row_step R.out h27)
      have BI := Lib.hid (l2Bit_any (f j))
      generalize f j = fj at *
      clear R B hkl
      go_wp2_with fail
      refine (IN.out _).mono ?_
      rintro e w' ⟨rfl, rfl⟩
      go_wp2_with fail
      refine (BI.out _).mono ?_
      rintro e w' ⟨rfl, rfl⟩
      go_wp2_with fail
      go_roundg (gk - 1)
      case measure => omega
      case rel => exact ⟨j + 1, by omega, by go_num, R4, B4⟩
    · obtain rfl : j = 27 := by omega
      have r := R.out
      have hpa := part_all (bitsN 27 f)
      rw [bits_len] at hpa
      rw [hpa] at r
      have hback := bytes_back r (n := 27) (by rw [bits_len]) 27
      clear r R hpa h27
      go_wp2_with fail
      go_ret
      exact ⟨rfl, B.out⟩
/-- the rows of a relation, one after the other -/
def rflat (rb : Nat → Nat → Bool) (k : Nat) : List UInt8 := (List.range k).flatMap (fun i => bitsN 27 (rb i))
theorem rfl_succ (rb : Nat → Nat → Bool) (k : Nat) : rflat rb (k + 1) = rflat rb k ++ bitsN 27 (rb k) := by simp [rflat, List.range_succ]
theorem rfl_len (rb : Nat → Nat → Bool) : ∀ k, (rflat rb k).length = 27 * k
  | 0 => rfl
  | k + 1 => by rw [rfl_succ, List.length_append, rfl_len rb k, bits_len]; omega
theorem rfl_bits (rb : Nat → Nat → Bool) : ∀ k, bitsN (27 * k) (fun n => rb (n / 27) (n % 27)) = rflat rb k
  | 0 => rfl
  | k + 1 => by
    rw [rfl_succ, ← rfl_bits rb k, Nat.mul_succ]
    unfold bitsN
    rw [List.range_add, List.map_append, List.map_map]
    congr 1
    apply List.map_congr_left
    intro i hi
    have hi : i < 27 := by simpa using hi
    simp only [Function.comp_apply]
    rw [show (27 * k + i) / 27 = k by omega, show (27 * k + i) % 27 = i by omega]
theorem relOf_flat (k : Nd) : relOf k = rflat (relB k) 27 := (rfl_bits (relB k) 27)
/-- a relation as masks -/
def rowV (rb : Nat → Nat → Bool) : Array Value := ((List.range 27).map (fun i => Value.int .i64 (msk (rb i) 27 : Nat))).toArray
theorem rowV_get (rb : Nat → Nat → Bool) {i : Nat} (hi : i < 27) : (rowV rb)[i]? = some (.int .i64 (msk (rb i) 27 : Nat)) := by
  unfold rowV
  simp [hi]
set_option maxRecDepth 100000 in
set_option maxHeartbeats 4000000 in
theorem l6Text_any (rb : Nat → Nat → Bool) (w : World) : Calls Try.prog 49 #[.agg (rowV rb)] w fun e w' => (e = .returned (.string (bs (rflat rb 27))) ∧ Below w.heap.size w w') := by
  have K0 := Lib.hid (Blk.new w 76 (rowV rb))
  have B0 := Lib.hid (below_n w (.cells (rowV rb) 76))
  have RV := Lib.hid (fun i (hi : i < 27) => rowV_get rb hi)
  obtain ⟨V, hV⟩ : ∃ V, rowV rb = V := ⟨_, rfl⟩
  rw [hV] at K0 B0 RV ⊢
  clear hV
  go_enter Try.func49, Try.ntmps49
  go_wp2_with fail
  go_loopg [3, 4] 27 (fun gk s i wr => ∃ (k : Nat) (A : ByteArray), k + gk = 27 ∧ i = .int .i64 k ∧ s = .string A ∧ Hid (A = bs (rflat rb k)) ∧ Hid (Blk wr w.heap.size 76 V) ∧ Hid (Below w.heap.size w wr))
  case atStart => exact ⟨0, _, rfl, rfl, rfl, Lib.hid rfl, K0, B0⟩
  case round =>
    clear K0 B0
    obtain ⟨j, A, hj, rfl, rfl, HA, K, B⟩ := hrel
    have hsz : A.size ≤ 729 := by rw [HA.out, bs_size, rfl_len]; omega
    by_cases hlt : j < 27
    · have hc := (K.out.cell j).trans (RV.out j hlt)
      have LT := Lib.hid (fun w => l4Text_any (rb j) _ rfl w)
      have HN := Lib.hid (show A ++ bs (bitsN 27 (rb j)) = bs (rflat rb (j + 1)) by rw [HA.out, rfl_succ, bs_app])
      have hz := bs_size (bitsN 27 (rb j))
      rw [bits_len] at hz
      generalize bs (bitsN 27 (rb j)) = TX at *
      have z1 : ¬ (9223372036854775807 < A.size + TX.size) := by omega
      have z2 : A.size + TX.size ≤ 9223372036854775807 := by omega
      generalize msk (rb j) 27 = m at *
      have HZ := Lib.hid hz
      clear HA hz
      go_wp2_with fail
      refine (LT.out _).mono ?_
      rintro e w2 ⟨rfl, hb2⟩
      have K2 := Lib.hid (K.out.below hb2 K.out.lt)
      have B2 := Lib.hid (below_2 B.out hb2)
      clear hb2 K B hc
      go_wp2_with fail
      go_roundg (gk - 1)
      case measure => omega
      case rel => exact ⟨j + 1, _, by omega, by go_num, rfl, HN, K2, B2⟩
    · obtain rfl : j = 27 := by omega
      obtain rfl := HA.out
      clear hlt HA
      go_wp2_with fail
      go_ret
      exact ⟨rfl, B.out⟩

end Go.Proofs.Ytndlhdmpfnadcaa
