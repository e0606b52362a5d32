/- XGl: XRo XRq XRx XRy XRz put together. -/
import Derived.Test.YtndlhdmpfnadcaaGreatDoorPd
import Derived.Test.YtndlhdmpfnadcaaGreatDoorGy
import Derived.Test.YtndlhdmpfnadcaaGreatDoorBi
import Derived.Test.YtndlhdmpfnadcaaGreatDoorSpb
import Derived.Lib.EndianBits
import Derived.Test.YtndlhdmpfnadcaaGreatDoorGa
import Derived.Test.YtndlhdmpfnadcaaGreatDoorGk
import Derived.BigQuiet
/- RelOf of the program. -/
namespace Go.Proofs.YtndlhdmpfnadcaaGreatDoor
open Go.RowKit
open Pl


end Go.Proofs.YtndlhdmpfnadcaaGreatDoor

/- RelOf of the reference: sets of states as masks. -/
namespace Go.Proofs.YtndlhdmpfnadcaaGreatDoor
open Go.RowKit
open Pl

def msk (f : Nat → Bool) : Nat → Nat
  | 0 => 0
  | n + 1 => msk f n + (if f n then 2 ^ n else 0)
theorem msk_lt (f : Nat → Bool) : ∀ n, msk f n < 2 ^ n
  | 0 => Nat.zero_lt_one
  | n + 1 => by
    have := msk_lt f n
    simp only [msk]
    rw [Nat.pow_succ]
    split <;> omega
theorem msk_bit (f : Nat → Bool) {i : Nat} : ∀ {n : Nat}, i < n → (msk f n / 2 ^ i % 2 == 1) = f i
  | n + 1, h => by
    simp only [msk]
    by_cases e : i = n
    · subst e
      have := msk_lt f i
      cases hf : f i
      · simp [Nat.div_eq_of_lt this]
      · simp only [if_true]
        rw [Nat.add_div_right _ (Nat.two_pow_pos i), Nat.div_eq_of_lt this]
        rfl
    · have h2 : i < n := by omega
      rw [← msk_bit f h2]
      cases hf : f n
      · simp
      · simp only [if_true]
        obtain ⟨m, rfl⟩ : ∃ m, n = i + (m + 1) := ⟨n - i - 1, by omega⟩
        have e2 : 2 ^ (i + (m + 1)) = 2 ^ i * (2 * 2 ^ m) := by rw [Nat.pow_add, Nat.pow_succ, Nat.mul_comm (2 ^ m) 2]
        rw [e2, Nat.add_mul_div_left _ _ (Nat.two_pow_pos i), Nat.add_mul_mod_self_left]
theorem i64_id (n : Int) (h0 : 0 ≤ n) (h1 : n < 2 ^ 62) : IntKind.i64.wrap n = n := IntWalk.i64_in _ (by omega)
theorem and_bit (m i : Nat) (hm : m < 134217728) : bits BinOp.and IntKind.i64 ((m : Int) / 2 ^ i) 1 = ((m / 2 ^ i % 2 : Nat) : Int) := by
  have e : ((m : Int) / 2 ^ i) = ((m / 2 ^ i : Nat) : Int) := by push_cast; rfl
  have hd : m / 2 ^ i ≤ m := Nat.div_le_self _ _
  rw [e, show (1 : Int) = ((1 : Nat) : Int) from rfl, (bits_nat .i64 62 (by decide) i64_id (m / 2 ^ i) 1 (by omega) (by decide)).1, Nat.and_one_is_mod]
theorem or_bit (m j : Nat) (hm : m < 2 ^ j) (hj : j < 27) : bits BinOp.or IntKind.i64 (m : Int) (2 ^ j) = ((m + 2 ^ j : Nat) : Int) := by
  have h1 : 2 ^ j < 2 ^ 27 := Nat.pow_lt_pow_right (by decide) hj
  have h2 : ((2 ^ j : Nat) : Int) = (2 : Int) ^ j := by push_cast; rfl
  rw [bits_join_low .i64 62 (by decide) i64_id j (m : Int) (2 ^ j) (by omega) (by rw [← h2]; omega) (by omega) (by rw [← h2]; omega) (Int.emod_self) (by rw [← h2]; omega), ← h2]
  push_cast
  rfl
set_option maxHeartbeats 1000000 in
theorem l4In_any (m i : Nat) (hm : m < 134217728) (hi : i < 27) (w : World) : Calls Tryz.prog 83 #[.int .i64 (m : Int), .int .i64 (i : Int)] w fun e w' => e = .returned (.bool (m / 2 ^ i % 2 == 1)) ∧ w = w' := by
  have HA := Lib.hid (and_bit m i hm)
  go_enter Tryz.func83, Tryz.ntmps83
  go_wp2_with fail
  go_ret
  exact ⟨ret_bool (by
    show (bits BinOp.and IntKind.i64 ((m : Int) / 2 ^ i) 1 == 1) = _
    rw [HA.out, Bool.eq_iff_iff, beq_iff_eq, beq_iff_eq]
    omega), rfl⟩
set_option maxRecDepth 100000 in
set_option maxHeartbeats 4000000 in
theorem l4Text_any (f : Nat → Bool) (m : Nat) (hm : m = msk f 27) (w : World) : Calls Tryz.prog 58 #[.int .i64 (m : Int)] w fun e w' => (e = .returned (.string (bs (bitsN 27 f))) ∧ Below w.heap.size w w') := by
  have hlt : m < 134217728 := by rw [hm]; exact msk_lt f 27
  have HF := Lib.hid (fun i (hi : i < 27) => show (m / 2 ^ i % 2 == 1) = f i by rw [hm]; exact msk_bit f hi)
  have hmk := run_make_row' (P := Tryz.prog) 22 5 (.int .u8 0) 1 Tryz.underlying22 u8_info rfl .i64 .i64 27 (by omega) (by omega)
  simp only [Int.cast_ofNat_Int] at hmk
  have R0 : Hid (ByteRow (w.alloc (.cells (madeCells #[.int .u8 0] 27) 5)) w.heap.size (fillN (bitsN 27 f) 0)) := by rw [part_zero, bits_len]; exact byteRow_made w 27
  have B0 := Lib.hid (below_n w (.cells (madeCells #[.int .u8 0] 27) 5))
  clear hm
  go_enter Tryz.func58, Tryz.ntmps58
  go_wp2_with fail
  go_loopg [4] 27 (fun gk i wr => ∃ k : Nat, k + gk = 27 ∧ i = .int .i64 k ∧ Hid (ByteRow wr w.heap.size (fillN (bitsN 27 f) k)) ∧ Hid (Below w.heap.size w wr))
  case atStart => exact ⟨0, by simp, rfl, R0, B0⟩
  case round =>
    clear R0 B0 hmk
    obtain ⟨j, hj, rfl, R, B⟩ := hrel
    by_cases h27 : j < 27
    · have IN := Lib.hid (fun w => l4In_any m j hlt h27 w)
      rw [HF.out j h27] at IN
      have hkl : j < (fillN (bitsN 27 f) j).length := by rw [part_len _ _ (by rw [bits_len]; omega), bits_len]; exact h27
      obtain ⟨⟨cv, hcc⟩, hf⟩ := R.out.any (i := j) hkl
      have B4 := Lib.hid (B.out.setCell (p := ⟨w.heap.size, j, none⟩) (Nat.le_refl _) (.int .u8 ((bitC (f j)).toNat : Int)))
      have R4 := Lib.hid (row_step R.out h27)
      have BI := Lib.hid (l2Bit_any (f j))
      generalize f j = fj at *
      clear R B hkl
      go_wp2_with fail
      refine (IN.out _).mono ?_
      rintro e w' ⟨rfl, rfl⟩
      go_wp2_with fail
      refine (BI.out _).mono ?_
      rintro e w' ⟨rfl, rfl⟩
      go_wp2_with fail
      go_roundg (gk - 1)
      case measure => omega
      case rel => exact ⟨j + 1, by omega, by go_num, R4, B4⟩
    · obtain rfl : j = 27 := by omega
      have r := R.out
      have hpa := part_all (bitsN 27 f)
      rw [bits_len] at hpa
      rw [hpa] at r
      have hback := bytes_back r (n := 27) (by rw [bits_len]) 27
      clear r R hpa h27
      go_wp2_with fail
      go_ret
      exact ⟨rfl, B.out⟩
/-- the rows of a relation, one after the other -/
def rflat (rb : Nat → Nat → Bool) (k : Nat) : List UInt8 := (List.range k).flatMap (fun i => bitsN 27 (rb i))
theorem rfl_succ (rb : Nat → Nat → Bool) (k : Nat) : rflat rb (k + 1) = rflat rb k ++ bitsN 27 (rb k) := by simp [rflat, List.range_succ]
theorem rfl_len (rb : Nat → Nat → Bool) : ∀ k, (rflat rb k).length = 27 * k
  | 0 => rfl
  | k + 1 => by rw [rfl_succ, List.length_append, rfl_len rb k, bits_len]; omega
theorem rfl_bits (rb : Nat → Nat → Bool) : ∀ k, bitsN (27 * k) (fun n => rb (n / 27) (n % 27)) = rflat rb k
  | 0 => rfl
  | k + 1 => by
    rw [rfl_succ, ← rfl_bits rb k, Nat.mul_succ]
    unfold bitsN
    rw [List.range_add, List.map_append, List.map_map]
    congr 1
    apply List.map_congr_left
    intro i hi
    have hi : i < 27 := by simpa using hi
    simp only [Function.comp_apply]
    rw [show (27 * k + i) / 27 = k by omega, show (27 * k + i) % 27 = i by omega]
theorem relOf_flat (k : Nd) : relOf k = rflat (relB k) 27 := (rfl_bits (relB k) 27)
/-- a relation as masks -/
def rowV (rb : Nat → Nat → Bool) : Array Value := ((List.range 27).map (fun i => Value.int .i64 (msk (rb i) 27 : Nat))).toArray
theorem rowV_get (rb : Nat → Nat → Bool) {i : Nat} (hi : i < 27) : (rowV rb)[i]? = some (.int .i64 (msk (rb i) 27 : Nat)) := by
  unfold rowV
  simp [hi]
set_option maxRecDepth 100000 in
set_option maxHeartbeats 4000000 in
theorem l6Text_any (rb : Nat → Nat → Bool) (w : World) : Calls Tryz.prog 35 #[.agg (rowV rb)] w fun e w' => (e = .returned (.string (bs (rflat rb 27))) ∧ Below w.heap.size w w') := by
  have K0 := Lib.hid (Blk.new w 62 (rowV rb))
  have B0 := Lib.hid (below_n w (.cells (rowV rb) 62))
  have RV := Lib.hid (fun i (hi : i < 27) => rowV_get rb hi)
  obtain ⟨V, hV⟩ : ∃ V, rowV rb = V := ⟨_, rfl⟩
  rw [hV] at K0 B0 RV ⊢
  clear hV
  go_enter Tryz.func35, Tryz.ntmps35
  go_wp2_with fail
  go_loopg [3, 4] 27 (fun gk s i wr => ∃ (k : Nat) (A : ByteArray), k + gk = 27 ∧ i = .int .i64 k ∧ s = .string A ∧ Hid (A = bs (rflat rb k)) ∧ Hid (Blk wr w.heap.size 62 V) ∧ Hid (Below w.heap.size w wr))
  case atStart => exact ⟨0, _, rfl, rfl, rfl, Lib.hid rfl, K0, B0⟩
  case round =>
    clear K0 B0
    obtain ⟨j, A, hj, rfl, rfl, HA, K, B⟩ := hrel
    have hsz : A.size ≤ 729 := by rw [HA.out, bs_size, rfl_len]; omega
    by_cases hlt : j < 27
    · have hc := (K.out.cell j).trans (RV.out j hlt)
      have LT := Lib.hid (fun w => l4Text_any (rb j) _ rfl w)
      have HN := Lib.hid (show A ++ bs (bitsN 27 (rb j)) = bs (rflat rb (j + 1)) by rw [HA.out, rfl_succ, bs_app])
      have hz := bs_size (bitsN 27 (rb j))
      rw [bits_len] at hz
      generalize bs (bitsN 27 (rb j)) = TX at *
      have z1 : ¬ (9223372036854775807 < A.size + TX.size) := by omega
      have z2 : A.size + TX.size ≤ 9223372036854775807 := by omega
      generalize msk (rb j) 27 = m at *
      have HZ := Lib.hid hz
      clear HA hz
      go_wp2_with fail
      refine (LT.out _).mono ?_
      rintro e w2 ⟨rfl, hb2⟩
      have K2 := Lib.hid (K.out.below hb2 K.out.lt)
      have B2 := Lib.hid (below_2 B.out hb2)
      clear hb2 K B hc
      go_wp2_with fail
      go_roundg (gk - 1)
      case measure => omega
      case rel => exact ⟨j + 1, _, by omega, by go_num, rfl, HN, K2, B2⟩
    · obtain rfl : j = 27 := by omega
      obtain rfl := HA.out
      clear hlt HA
      go_wp2_with fail
      go_ret
      exact ⟨rfl, B.out⟩

end Go.Proofs.YtndlhdmpfnadcaaGreatDoor

/- Relations as texts: whether they are, put together, compared, counted, asked for a pair. -/
namespace Go.Proofs.YtndlhdmpfnadcaaGreatDoor
open Go.RowKit
open Pl

theorem okR_size {P : ByteArray} (hp : bOk 729 P.data.toList = true) : P.size = 729 := by rw [← len_S, bOk_len hp]
def bothR (P Q : ByteArray) (f : Bool → Bool → Bool) : Option (List UInt8) :=
  if bOk 729 P.data.toList && bOk 729 Q.data.toList then some (opT f P.data.toList Q.data.toList) else none
def notR (P : ByteArray) : Option (List UInt8) := if bOk 729 P.data.toList then some (ngT P.data.toList) else none
theorem bothR_yes {P Q : ByteArray} (f : Bool → Bool → Bool) (hp : bOk 729 P.data.toList = true) (hq : bOk 729 Q.data.toList = true) : bothR P Q f = some (opT f P.data.toList Q.data.toList) := by unfold bothR; rw [hp, hq]; rfl
theorem bothR_no {P Q : ByteArray} (f : Bool → Bool → Bool) (h : (bOk 729 P.data.toList && bOk 729 Q.data.toList) = false) : bothR P Q f = none := by unfold bothR; rw [h]; rfl
theorem notR_yes {P : ByteArray} (hp : bOk 729 P.data.toList = true) : notR P = some (ngT P.data.toList) := by unfold notR; rw [hp]; rfl
theorem notR_no {P : ByteArray} (hp : bOk 729 P.data.toList = false) : notR P = none := by unfold notR; rw [hp]; rfl
set_option maxHeartbeats 1000000 in
theorem RelValidS_any (S : ByteArray) (hS : S.size ≤ 1000000000000) (w : World) : Calls Tryz.prog 85 #[.string S] w fun e w' => e = .returned (.bool (bOk 729 S.data.toList)) ∧ w = w' := by
  have B := Lib.hid (l2Bits_any S 729 hS w)
  simp only [Int.cast_ofNat_Int] at B
  go_enter Tryz.func85, Tryz.ntmps85
  go_wp2_with fail
  refine B.out.mono ?_
  rintro e w' ⟨rfl, rfl⟩
  go_wp2_with fail
  go_ret
  exact ⟨rfl, rfl⟩
set_option maxRecDepth 100000 in
set_option maxHeartbeats 4000000 in
theorem l2Not_any (P : ByteArray) {n : Nat} (hp : bOk n P.data.toList = true) (hP : P.size ≤ 1000) (w : World) : Calls Tryz.prog 39 #[.string P] w fun e w' => (e = .returned (.string (bs (bitsN P.size (fun i => !bt P.data.toList i)))) ∧ Below w.heap.size w w') := by
  have hmk := run_make_row' (P := Tryz.prog) 22 5 (.int .u8 0) 1 Tryz.underlying22 u8_info rfl .i64 .i64 P.size (by omega) (by omega)
  obtain ⟨bb, hbt⟩ : ∃ f : Nat → Bool, (fun i => !bt P.data.toList i) = f := ⟨_, rfl⟩
  rw [hbt]
  have HBT := Lib.hid (fun i => congrFun hbt i)
  have R0 : Hid (ByteRow (w.alloc (.cells (madeCells #[.int .u8 0] P.size) 5)) w.heap.size (fillN (bitsN P.size bb) 0)) := by rw [part_zero, bits_len]; exact byteRow_made w P.size
  have B0 := Lib.hid (below_n w (.cells (madeCells #[.int .u8 0] P.size) 5))
  have HP := Lib.hid hp
  clear hbt hp
  go_enter Tryz.func39, Tryz.ntmps39
  go_wp2_with fail
  go_loopg [4] P.size (fun gk i wr => ∃ k : Nat, k + gk = P.size ∧ i = .int .i64 k ∧ Hid (ByteRow wr w.heap.size (fillN (bitsN P.size bb) k)) ∧ Hid (Below w.heap.size w wr))
  case atStart => exact ⟨0, by simp, rfl, R0, B0⟩
  case round =>
    clear R0 B0 hmk
    obtain ⟨j, hj, rfl, R, B⟩ := hrel
    by_cases hlt : j < P.size
    · have hkl : j < (fillN (bitsN P.size bb) j).length := by rw [part_len _ _ (by rw [bits_len]; omega), bits_len]; exact hlt
      obtain ⟨⟨cv, hcc⟩, hf⟩ := R.out.any (i := j) hkl
      have B4 := Lib.hid (B.out.setCell (p := ⟨w.heap.size, j, none⟩) (Nat.le_refl _) (.int .u8 ((bitC (bb j)).toNat : Int)))
      have R4 := Lib.hid (row_step R.out hlt)
      clear R B hkl
      have hbj := (HBT.out j).symm
      cases hb : bt P.data.toList j
      · have c1 := bt_zero HP.out hlt hb
        rw [hb] at hbj
        have hv : bb j = true := hbj
        rw [hv] at R4 B4
        have BI := Lib.hid (l2Bit_any true)
        clear hv hbj hb
        go_wp2_with fail
        refine (BI.out _).mono ?_
        rintro e w' ⟨rfl, rfl⟩
        go_wp2_with fail
        go_roundg (gk - 1)
        case measure => omega
        case rel => exact ⟨j + 1, by omega, by go_num, R4, B4⟩
      · have c1 := bt_yes hlt hb
        rw [hb] at hbj
        have hv : bb j = false := hbj
        rw [hv] at R4 B4
        have BI := Lib.hid (l2Bit_any false)
        clear hv hbj hb
        go_wp2_with fail
        refine (BI.out _).mono ?_
        rintro e w' ⟨rfl, rfl⟩
        go_wp2_with fail
        go_roundg (gk - 1)
        case measure => omega
        case rel => exact ⟨j + 1, by omega, by go_num, R4, B4⟩
    · obtain rfl : j = P.size := by omega
      have r := R.out
      have hpa := part_all (bitsN P.size bb)
      rw [bits_len] at hpa
      rw [hpa] at r
      have hback := bytes_back r (n := P.size) (by rw [bits_len]) P.size
      clear r R hpa hlt
      go_wp2_with fail
      go_ret
      exact ⟨rfl, B.out⟩
theorem winR_no {p q : List UInt8} {i : Nat} (hi : i < 729) (h1 : bt p i = true) (h2 : bt q i = false) : winR p q = false := by
  cases h : winR p q
  · rfl
  · have := winR_iff.1 h i hi h1
    rw [h2] at this; cases this
def winRO (p q : List UInt8) : Bool := bOk 729 p && bOk 729 q && winR p q
theorem winR_eq {P : ByteArray} {q : List UInt8} (hp : bOk 729 P.data.toList = true) : ((bs (bitsN 729 (fun i => bt P.data.toList i && bt q i))).toList == P.toList) = winR P.data.toList q := by
  rw [Bool.eq_iff_iff, beq_iff_eq, ByteArray.toList_eq, ByteArray.toList_eq, bs_list]
  exact winR_and hp
def cntRO (l : List UInt8) : Int := if bOk 729 l then (cntR l : Int) else -1
theorem count_ofR {l : List UInt8} (h : bOk 729 l = true) : l.count 49 = cntR l := by
  unfold cntR
  rw [← cnt_bits, bits_of h]
def turnR (P : ByteArray) : Option (List UInt8) := if bOk 729 P.data.toList then some (trnT P.data.toList) else none
theorem turnR_yes {P : ByteArray} (hp : bOk 729 P.data.toList = true) : turnR P = some (trnT P.data.toList) := by unfold turnR; rw [hp]; rfl
theorem turnR_no {P : ByteArray} (hp : bOk 729 P.data.toList = false) : turnR P = none := by unfold turnR; rw [hp]; rfl
def closeR (P : ByteArray) : Option (List UInt8) := if bOk 729 P.data.toList then some (cloT P.data.toList) else none
theorem closeR_yes {P : ByteArray} (hp : bOk 729 P.data.toList = true) : closeR P = some (cloT P.data.toList) := by unfold closeR; rw [hp]; rfl
theorem closeR_no {P : ByteArray} (hp : bOk 729 P.data.toList = false) : closeR P = none := by unfold closeR; rw [hp]; rfl
def thenR (P Q : ByteArray) : Option (List UInt8) := if bOk 729 P.data.toList && bOk 729 Q.data.toList then some (cmpT P.data.toList Q.data.toList) else none
theorem thenR_yes {P Q : ByteArray} (hp : bOk 729 P.data.toList = true) (hq : bOk 729 Q.data.toList = true) : thenR P Q = some (cmpT P.data.toList Q.data.toList) := by unfold thenR; rw [hp, hq]; rfl
theorem thenR_no {P Q : ByteArray} (h : (bOk 729 P.data.toList && bOk 729 Q.data.toList) = false) : thenR P Q = none := by unfold thenR; rw [h]; rfl

end Go.Proofs.YtndlhdmpfnadcaaGreatDoor

/- Relations turned, composed and closed; images and shadows; equivalences: the program. -/
namespace Go.Proofs.YtndlhdmpfnadcaaGreatDoor
open Go.RowKit
open Pl

theorem close_step {a : List UInt8} {k : Nat} (ha : bOk 729 a = true) (h : Rf a) (hk : 729 ≤ cntR a + k) (hne : cmpT a a ≠ a) : ∃ k', k = k' + 1 ∧ 729 ≤ cntR (cmpT a a) + k' := by
  rcases cnt_up ha h with e | e
  · exact absurd e hne
  · have := cntR_le (cmpT a a)
    exact ⟨k - 1, by omega, by omega⟩
/-- the closing loop: what is closed so far -/
def Clo (R : List UInt8) (k : Nat) (N : ByteArray) : Prop := bOk 729 N.data.toList = true ∧ Rf N.data.toList ∧ 729 ≤ cntR N.data.toList + k ∧ itT k N.data.toList = R
theorem Clo.start (a : List UInt8) : Clo (cloT a) 729 (bs (rfxT a)) := by
  unfold Clo
  rw [bs_list]
  exact ⟨rfxT_ok, rf_rfx a, Nat.le_add_left _ _, by rw [cloT]⟩
theorem bs_inj {l : List UInt8} {N : ByteArray} (e : bs l = N) : l = N.data.toList := by rw [← e, bs_list]
theorem Clo.done {R : List UInt8} {k : Nat} {N : ByteArray} (h : Clo R k N) (e : bs (cmpT N.data.toList N.data.toList) = N) : N = bs R := by
  have e2 := bs_inj e
  have := itT_fix e2 k
  rw [h.2.2.2] at this
  rw [this, bs_of]
theorem Clo.next {R : List UInt8} {k : Nat} {N : ByteArray} (h : Clo R k N) (e : ¬ bs (cmpT N.data.toList N.data.toList) = N) : ∃ k', k = k' + 1 ∧ Clo R k' (bs (cmpT N.data.toList N.data.toList)) := by
  have e2 : cmpT N.data.toList N.data.toList ≠ N.data.toList := fun h2 => e (by rw [h2, bs_of])
  obtain ⟨k', rfl, hk⟩ := close_step h.1 h.2.1 h.2.2.1 e2
  refine ⟨k', rfl, ?_⟩
  have h4 := h.2.2.2
  rw [itT] at h4
  unfold Clo
  rw [bs_list]
  exact ⟨cmpT_ok, rf_cmp h.2.1, hk, h4⟩

end Go.Proofs.YtndlhdmpfnadcaaGreatDoor

/- Pairs of a relation, the first one; images, shadows, equivalences of the program. -/
namespace Go.Proofs.YtndlhdmpfnadcaaGreatDoor
open Go.RowKit
open Pl

theorem row_text {l : List UInt8} (h : bOk 729 l = true) {i : Nat} (hi : i < 27) : l.drop (27 * i) = bitsN 27 (ro l i) ++ l.drop (27 * i + 27) := by
  have hl := bOk_len h
  have h1 : (l.drop (27 * i)).take 27 = bitsN 27 (ro l i) := by
    apply List.ext_getElem
    · rw [List.length_take, List.length_drop, bits_len]; omega
    · intro k h1 h2
      rw [bits_len] at h2
      rw [List.getElem_take, List.getElem_drop, bits_get (by rw [bits_len]; exact h2), bOk_get h (by omega)]
      rfl
  rw [← h1, ← List.drop_drop, List.take_append_drop]
theorem ext_row {R : ByteArray} (h : bOk 729 R.data.toList = true) {i : Nat} (hi : i < 27) {p n : Nat} (hp : p = 27 * i) (hn : n = 27 * i + 27) : R.extract p n = bs (bitsN 27 (ro R.data.toList i)) := by
  subst hp hn
  exact extract_nd (row_text h hi) (by rw [bits_len])
theorem eqT {a b : List UInt8} : ((bs a).toList == (bs b).toList) = (a == b) := by
  rw [ByteArray.toList_eq, ByteArray.toList_eq, bs_list, bs_list]
theorem eqTS {a : List UInt8} {P : ByteArray} : ((bs a).toList == P.toList) = (a == P.data.toList) := by
  rw [ByteArray.toList_eq, ByteArray.toList_eq, bs_list]
theorem eqv_no {a : List UInt8} (h : bOk 729 a = false) : eqvT a = false := by unfold eqvT; rw [h]; rfl
def imgO (R P : ByteArray) : Option (List UInt8) := if bOk 729 R.data.toList && bOk 27 P.data.toList then some (imgT R.data.toList P.data.toList) else none
def shaO (R P : ByteArray) : Option (List UInt8) := if bOk 729 R.data.toList && bOk 27 P.data.toList then some (shaT R.data.toList P.data.toList) else none
theorem imgO_yes {R P : ByteArray} (hr : bOk 729 R.data.toList = true) (hp : bOk 27 P.data.toList = true) : imgO R P = some (imgT R.data.toList P.data.toList) := by unfold imgO; rw [hr, hp]; rfl
theorem imgO_no {R P : ByteArray} (h : (bOk 729 R.data.toList && bOk 27 P.data.toList) = false) : imgO R P = none := by unfold imgO; rw [h]; rfl
theorem shaO_yes {R P : ByteArray} (hr : bOk 729 R.data.toList = true) (hp : bOk 27 P.data.toList = true) : shaO R P = some (shaT R.data.toList P.data.toList) := by unfold shaO; rw [hr, hp]; rfl
theorem shaO_no {R P : ByteArray} (h : (bOk 729 R.data.toList && bOk 27 P.data.toList) = false) : shaO R P = none := by unfold shaO; rw [h]; rfl
/-- the first pair of a relation -/
def fpO (l : List UInt8) : Option Nat := if bOk 729 l then (if fnd l 49 < 0 then none else some (fnd l 49).toNat) else none
theorem fp_no {l : List UInt8} (h : bOk 729 l = false) : fpO l = none := by unfold fpO; rw [h]; rfl
theorem fnd_cntR {l : List UInt8} (h : bOk 729 l = true) : fnd l 49 < 0 ↔ cntR l = 0 := by
  have := fnd_bits (n := 729) (f := bt l)
  rw [bits_of h] at this
  exact this
theorem fp_neg {l : List UInt8} (h : bOk 729 l = true) (h2 : fnd l 49 < 0) : fpO l = none := by unfold fpO; rw [h, if_pos rfl, if_pos h2]
theorem fp_pos {l : List UInt8} (h : bOk 729 l = true) (h2 : ¬ fnd l 49 < 0) : ∃ k : Nat, fnd l 49 = k ∧ fpO l = some k ∧ k < 729 ∧ bt l k = true ∧ ∀ j, j < k → bt l j = false := by
  obtain ⟨k, hk, hkl, h3, h4⟩ := fnd_at (l := l) (c := 49) (by omega)
  have hl := bOk_len h
  refine ⟨k, hk, ?_, by omega, ?_, fun j hj => ?_⟩
  · unfold fpO; rw [h, if_pos rfl, if_neg h2, hk]; rfl
  · unfold bt; rw [List.getD_eq_getElem?_getD, List.getElem?_eq_getElem hkl, Option.getD_some, h3]; rfl
  · have := h4 j hj
    unfold bt
    rw [List.getD_eq_getElem?_getD, List.getElem?_eq_getElem (by omega), Option.getD_some]
    simpa using this
/-- the value of the first pair -/
def fpV (l : List UInt8) : Value := .tuple #[.agg #[.int .i64 (oX ((fpO l).map (· / 27))), .int .i64 (oY ((fpO l).map (· / 27))), .int .i64 (oZ ((fpO l).map (· / 27)))], .agg #[.int .i64 (oX ((fpO l).map (· % 27))), .int .i64 (oY ((fpO l).map (· % 27))), .int .i64 (oZ ((fpO l).map (· % 27)))], .bool (fpO l).isSome]
theorem fpV_none {l : List UInt8} (h : fpO l = none) : fpV l = .tuple #[.agg #[.int .i64 0, .int .i64 0, .int .i64 0], .agg #[.int .i64 0, .int .i64 0, .int .i64 0], .bool false] := by unfold fpV; rw [h]; rfl
theorem fpV_some {l : List UInt8} {k : Nat} (h : fpO l = some k) : fpV l = .tuple #[.agg #[.int .i64 (stX (k / 27)), .int .i64 (stY (k / 27)), .int .i64 (stZ (k / 27))], .agg #[.int .i64 (stX (k % 27)), .int .i64 (stY (k % 27)), .int .i64 (stZ (k % 27))], .bool true] := by unfold fpV; rw [h]; rfl

end Go.Proofs.YtndlhdmpfnadcaaGreatDoor
