/- XGn: XMk XRa XMr XMs XMu put together. -/
import Derived.Test.YtndlhdmpfnadcaaGreatDoorRr
import Derived.Test.YtndlhdmpfnadcaaGreatDoorGa
import Derived.Lib.QuoteBits
import Derived.Test.YtndlhdmpfnadcaaGreatDoorGk
import Derived.Test.YtndlhdmpfnadcaaGreatDoorTx
import Derived.StillTailTactics
import Derived.Test.YtndlhdmpfnadcaaGreatDoorGl
import Derived.ChangeKeysEq
/- Masks: or, and, and-not of sets of states as numbers; arrays of numbers. -/
namespace Go.Proofs.YtndlhdmpfnadcaaGreatDoor
open Go.RowKit
open Pl

/-! ### bits of a mask -/
theorem tb_div (m i : Nat) : m.testBit i = (m / 2 ^ i % 2 == 1) := by
  rw [Nat.testBit_eq_decide_div_mod_eq]
  cases h : decide (m / 2 ^ i % 2 = 1) <;> simp_all
theorem msk_tb (f : Nat → Bool) (n i : Nat) : (msk f n).testBit i = (decide (i < n) && f i) := by
  by_cases h : i < n
  · rw [tb_div, msk_bit f h]; simp [h]
  · rw [Nat.testBit_lt_two_pow (Nat.lt_of_lt_of_le (msk_lt f n) (Nat.pow_le_pow_right (by decide) (by omega)))]
    simp [h]
theorem msk_ext {m : Nat} {f : Nat → Bool} {n : Nat} (hm : m < 2 ^ n) (h : ∀ i, i < n → m.testBit i = f i) : m = msk f n := by
  apply Nat.eq_of_testBit_eq
  intro i
  rw [msk_tb]
  by_cases hi : i < n
  · rw [h i hi]; simp [hi]
  · rw [Nat.testBit_lt_two_pow (Nat.lt_of_lt_of_le hm (Nat.pow_le_pow_right (by decide) (by omega)))]; simp [hi]
theorem msk_congr {f g : Nat → Bool} {n : Nat} (h : ∀ i, i < n → f i = g i) : msk f n = msk g n := by
  refine msk_ext (msk_lt f n) (fun i hi => ?_)
  rw [msk_tb, h i hi]; simp [hi]
theorem msk_inj {f g : Nat → Bool} {n : Nat} (h : msk f n = msk g n) {i : Nat} (hi : i < n) : f i = g i := by
  have h1 := msk_tb f n i
  have h2 := msk_tb g n i
  rw [h] at h1
  rw [h1] at h2
  simpa [hi] using h2
theorem msk_or (f g : Nat → Bool) (n : Nat) : msk f n ||| msk g n = msk (fun i => f i || g i) n := by
  refine msk_ext (Nat.or_lt_two_pow (msk_lt f n) (msk_lt g n)) (fun i hi => ?_)
  rw [Nat.testBit_or, msk_tb, msk_tb]; simp [hi]
theorem msk_one {n j : Nat} (hj : j < n) : 2 ^ j = msk (fun i => i == j) n := by
  refine msk_ext (Nat.pow_lt_pow_right (by decide) hj) (fun i hi => ?_)
  rw [Nat.testBit_two_pow]
  apply bool_ext
  rw [decide_eq_true_iff, beq_iff_eq]
  exact eq_comm
theorem msk_or1 (f : Nat → Bool) {n j : Nat} (hj : j < n) : msk f n ||| 2 ^ j = msk (fun i => f i || i == j) n := by
  rw [msk_one hj, msk_or]
theorem msk_zero (n : Nat) : msk (fun _ => false) n = 0 := by
  symm
  exact msk_ext (Nat.two_pow_pos n) (fun i _ => by simp)
/-! ### the machine's operations -/
theorem p27 {j : Nat} (hj : j < 27) : 2 ^ j < 134217728 := Nat.pow_lt_pow_right (by decide) hj
theorem or_int (m k : Nat) (hm : m < 134217728) (hk : k < 134217728) : bits BinOp.or IntKind.i64 (m : Int) (k : Int) = ((m ||| k : Nat) : Int) :=
  (bits_nat .i64 62 (by decide) i64_id m k (by omega) (by omega)).2
theorem and_int (m k : Nat) (hm : m < 134217728) (hk : k < 134217728) : bits BinOp.and IntKind.i64 (m : Int) (k : Int) = ((m &&& k : Nat) : Int) :=
  (bits_nat .i64 62 (by decide) i64_id m k (by omega) (by omega)).1
theorem wrap_pow {j : Nat} (hj : j < 27) : wrap64 (2 ^ j) = ((2 ^ j : Nat) : Int) := by
  have h1 := p27 hj
  have h2 : ((2 ^ j : Nat) : Int) = (2 : Int) ^ j := by push_cast; rfl
  have h3 : (0 : Int) ≤ 2 ^ j := by rw [← h2]; exact Int.natCast_nonneg _
  have h4 : (2 : Int) ^ j < 134217728 := by rw [← h2]; exact Int.ofNat_lt.2 h1
  rw [h2, ← IntWalk.i64_left, i64_id (2 ^ j) h3 (by omega)]
theorem or_pow (m j : Nat) (hm : m < 134217728) (hj : j < 27) : bits BinOp.or IntKind.i64 (m : Int) (wrap64 (2 ^ j)) = ((m ||| 2 ^ j : Nat) : Int) := by
  rw [wrap_pow hj]; exact or_int m _ hm (p27 hj)
theorem or_pow2 (m j : Nat) (hm : m < 134217728) (hj : j < 27) : bits BinOp.or IntKind.i64 (m : Int) (2 ^ j) = ((m ||| 2 ^ j : Nat) : Int) := by
  rw [show ((2 : Int) ^ j) = ((2 ^ j : Nat) : Int) by push_cast; rfl]; exact or_int m _ hm (p27 hj)
/-- what is in one mask and not in another -/
def adn (m k : Nat) : Nat := m &&& (18446744073709551615 - k)
theorem adn_le (m k : Nat) : adn m k ≤ m := Nat.and_le_left
theorem or_lt {m k : Nat} (hm : m < 134217728) (hk : k < 134217728) : m ||| k < 134217728 := Nat.or_lt_two_pow (n := 27) hm hk
theorem and_lt {m : Nat} (k : Nat) (hm : m < 134217728) : m &&& k < 134217728 := Nat.lt_of_le_of_lt Nat.and_le_left hm
theorem adn_lt {m : Nat} (k : Nat) (hm : m < 134217728) : adn m k < 134217728 := Nat.lt_of_le_of_lt (adn_le m k) hm
theorem adn_int (m k : Nat) (hm : m < 134217728) (hk : k < 134217728) : bits BinOp.andNot IntKind.i64 (m : Int) (k : Int) = ((adn m k : Nat) : Int) := by
  show IntKind.i64.wrap ((BitVec.ofInt 64 (m : Int) &&& ~~~BitVec.ofInt 64 (k : Int)).toNat : Int) = _
  rw [BitVec.toNat_and, BitVec.toNat_not, ofInt_u64 m (by omega), ofInt_u64 k (by omega)]
  have h2 := adn_lt k hm
  exact Lib.wrap_i64_small _ (show adn m k < _ by omega)
theorem adn_tb (m k i : Nat) (hk : k < 134217728) (hi : i < 64) : (adn m k).testBit i = (m.testBit i && !k.testBit i) := by
  unfold adn
  rw [Nat.testBit_and]
  have := Nat.testBit_two_pow_sub_succ (x := k) (n := 64) (by omega) i
  rw [show 2 ^ 64 - (k + 1) = 18446744073709551615 - k by omega] at this
  rw [this]
  simp [hi]
theorem adn_zero {f g : Nat → Bool} {n : Nat} (hn : n ≤ 27) : (adn (msk f n) (msk g n) == 0) = (List.range n).all (fun i => !f i || g i) := by
  have hk : msk g n < 134217728 := Nat.lt_of_lt_of_le (msk_lt g n) (Nat.pow_le_pow_right (by decide) hn)
  have hm : msk f n < 2 ^ n := msk_lt f n
  apply bool_ext
  rw [beq_iff_eq, List.all_eq_true]
  constructor
  · intro h i hi
    have hi : i < n := by simpa using hi
    have := adn_tb (msk f n) (msk g n) i hk (by omega)
    rw [h, msk_tb, msk_tb] at this
    simp [hi] at this
    cases hf : f i
    · rfl
    · simp [hf] at this; simp [this]
  · intro h
    apply Nat.eq_of_testBit_eq
    intro i
    rw [Nat.zero_testBit]
    by_cases hi : i < n
    · rw [adn_tb _ _ i hk (by omega), msk_tb, msk_tb]
      have := h i (by simpa using hi)
      simp [hi]
      intro hf
      simpa [hf] using this
    · exact Nat.testBit_lt_two_pow (Nat.lt_of_le_of_lt (adn_le _ _) (Nat.lt_of_lt_of_le hm (Nat.pow_le_pow_right (by decide) (by omega))))

/-! ### arrays of numbers -/
def av (n : Nat) (f : Nat → Nat) : Array Value := ((List.range n).map (fun a => Value.int .i64 (f a : Nat))).toArray
theorem av_size (n : Nat) (f : Nat → Nat) : (av n f).size = n := by simp [av]
theorem av_get {n : Nat} (f : Nat → Nat) {a : Nat} (ha : a < n) : (av n f)[a]? = some (.int .i64 (f a : Nat)) := by simp [av, ha]
theorem av_congr {n : Nat} {f g : Nat → Nat} (h : ∀ a, a < n → f a = g a) : av n f = av n g := by
  unfold av
  congr 1
  exact List.map_congr_left (fun i hi => by rw [h i (by simpa using hi)])
theorem av_inj {n : Nat} {f g : Nat → Nat} (h : av n f = av n g) {a : Nat} (ha : a < n) : f a = g a := by
  have h1 := av_get f ha
  rw [h, av_get g ha] at h1
  simp at h1
  omega
def upd (f : Nat → Nat) (a v : Nat) : Nat → Nat := fun i => if i = a then v else f i
theorem upd_at (f : Nat → Nat) (a v : Nat) : upd f a v a = v := if_pos rfl
theorem upd_ne {f : Nat → Nat} {a v i : Nat} (h : i ≠ a) : upd f a v i = f i := if_neg h
theorem av_set {n : Nat} (f : Nat → Nat) {a : Nat} (v : Nat) : (av n f).setIfInBounds a (.int .i64 (v : Nat)) = av n (upd f a v) := by
  apply Array.ext_getElem?
  intro i
  by_cases hi : i < n
  · rw [av_get _ hi]
    by_cases e : a = i
    · subst e
      rw [Array.getElem?_setIfInBounds_self_of_lt (by rw [av_size]; exact hi), upd_at]
    · rw [Array.getElem?_setIfInBounds_ne e, av_get _ hi, upd_ne (fun h => e h.symm)]
  · rw [Array.getElem?_eq_none (by simp [av_size]; omega), Array.getElem?_eq_none (by rw [av_size]; omega)]
theorem av_one (n : Nat) (f : Nat → Nat) : (av n f).all (·.oneCell') = true := by
  rw [Array.all_eq_true_iff_forall_mem]
  intro v hv
  simp only [av, List.mem_toArray, List.mem_map] at hv
  obtain ⟨i, _, rfl⟩ := hv
  rfl
theorem rowV_av (rb : Nat → Nat → Bool) : rowV rb = av 27 (fun i => msk (rb i) 27) := rfl
theorem av_zero : #[.int .i64 0, .int .i64 0, .int .i64 0, .int .i64 0, .int .i64 0, .int .i64 0, .int .i64 0, .int .i64 0, .int .i64 0, .int .i64 0, .int .i64 0, .int .i64 0, .int .i64 0, .int .i64 0, .int .i64 0, .int .i64 0, .int .i64 0, .int .i64 0, .int .i64 0, .int .i64 0, .int .i64 0, .int .i64 0, .int .i64 0, .int .i64 0, .int .i64 0, .int .i64 0, .int .i64 0] = av 27 (fun _ => 0) := by
  rw [arr_zero (fun _ _ => false), arr, av]
  refine congrArg List.toArray (List.map_congr_left ?_)
  intro a _
  simp [msk]
theorem rowV_congr {r s : Rl} (h : Eq27 r s) : rowV r = rowV s := by
  rw [rowV_av, rowV_av]
  exact av_congr (fun a ha => msk_congr (fun j hj => h a j ha hj))
theorem rowV_inj {r s : Rl} (h : rowV r = rowV s) : Eq27 r s := fun i j hi hj => by
  rw [rowV_av r, rowV_av s] at h
  have h2 : msk (r i) 27 = msk (s i) 27 := av_inj h hi
  exact msk_inj h2 hj
/-- masks small enough are relations -/
theorem av_rowV {f : Nat → Nat} (h : ∀ i, i < 27 → f i < 134217728) : av 27 f = rowV (fun i j => (f i).testBit j) := by
  rw [rowV_av]
  exact av_congr (fun a ha => msk_ext (h a ha) (fun _ _ => rfl))

end Go.Proofs.YtndlhdmpfnadcaaGreatDoor

/- A state assigned to; what a program can do from all states, as 29 numbers: doing nothing, assigning; the states of a test. -/
namespace Go.Proofs.YtndlhdmpfnadcaaGreatDoor
open Go.RowKit
open Pl

/-- a stored block of three as a result -/
theorem res3 {fn : Func} {p : Tmp} {tmps : Array Value} {W : World} {g : Nat} {x y z : Int} (h : fn.results = #[.cell p 93]) (hp : tmps.getD p undef = .pointer (some ⟨g, 0, none⟩)) (hk : Blk W g 93 #[.int .i64 x, .int .i64 y, .int .i64 z]) :
    (results fn tmps).run Tryz.prog W = .ok (.agg #[.int .i64 x, .int .i64 y, .int .i64 z]) W :=
  results_cell_row h tmps W g 93 _ (0, 0) _ hp hk Tryz.underlying93 rfl (by kernel_rfl)
theorem below_le {B C : Nat} {a b : World} (h : Below B a b) (hc : C ≤ B) : Below C a b := ⟨h.os, h.tape, h.output, h.size, fun k hk => h.block k (by omega)⟩
set_option maxHeartbeats 2000000 in
theorem l2Index_any (x y z : Int) (hx : small x) (hy : small y) (hz : small z) (w : World) : Calls Tryz.prog 91 #[.agg #[.int .i64 x, .int .i64 y, .int .i64 z]] w fun e w' => (e = .returned (.int .i64 (x + 3 * y + 9 * z)) ∧ Below w.heap.size w w') := by
  obtain ⟨x1, x2⟩ := hx
  obtain ⟨y1, y2⟩ := hy
  obtain ⟨z1, z2⟩ := hz
  go_enter Tryz.func91, Tryz.ntmps91
  go_wp2_with fail
  go_ret
  exact ⟨rfl, below_n _ _⟩
set_option maxRecDepth 100000 in
set_option maxHeartbeats 4000000 in
theorem l2With_any (x y z n : Int) (c : UInt8) (hc : c ∈ nmsN) (w : World) : Calls Tryz.prog 100 #[.agg #[.int .i64 x, .int .i64 y, .int .i64 z], .int .i64 (fnd nmsN c), .int .i64 n] w fun e w' => (e = .returned (.agg #[.int .i64 (put1 c 120 n x), .int .i64 (put1 c 121 n y), .int .i64 (put1 c 122 n z)]) ∧ Below w.heap.size w w') := by
  have ON := Lib.hid (fun w => one_any x y z w)
  have SE := Lib.hid (fun w => l1Set_any x y z 0 0 0 n c hc w)
  have SA := Lib.hid (fun w => l1State_any (put1 c 120 n x) (put1 c 121 n y) (put1 c 122 n z) 0 0 0 w)
  have ka : Blk ((w.alloc (.cells #[.int .i64 x, .int .i64 y, .int .i64 z] 93)).alloc (.cells #[.int .i64 0, .int .i64 0, .int .i64 0] 93)) w.heap.size 93 #[.int .i64 x, .int .i64 y, .int .i64 z] := (Blk.new w _ _).alloc _
  have kb : Blk ((w.alloc (.cells #[.int .i64 x, .int .i64 y, .int .i64 z] 93)).alloc (.cells #[.int .i64 0, .int .i64 0, .int .i64 0] 93)) (w.heap.size + 1) 93 #[.int .i64 0, .int .i64 0, .int .i64 0] := by
    have := Blk.new (w.alloc (.cells #[.int .i64 x, .int .i64 y, .int .i64 z] 93)) 93 #[.int .i64 0, .int .i64 0, .int .i64 0]
    simp at this
    exact this
  have KA := Lib.hid ka
  have KB := Lib.hid kb
  have B0 := Lib.hid ((below_n w (.cells #[.int .i64 x, .int .i64 y, .int .i64 z] 93)).alloc (by simp) (.cells #[.int .i64 0, .int .i64 0, .int .i64 0] 93))
  have a0 := ka.cell 0
  have a1 := ka.cell 1
  have a2 := ka.cell 2
  simp at a0 a1 a2
  clear ka kb
  generalize put1 c 120 n x = p1 at *
  generalize put1 c 121 n y = p2 at *
  generalize put1 c 122 n z = p3 at *
  generalize fnd nmsN c = vn at *
  clear hc
  go_enter Tryz.func100, Tryz.ntmps100
  go_wp2_with fail
  refine (ON.out _).mono ?_
  rintro e w1 ⟨rfl, hb⟩
  replace KB := Lib.hid (KB.out.below hb KB.out.lt)
  have B1 := Lib.hid (below_2 B0.out hb)
  clear hb
  clear a0 a1 a2 KA
  go_wp2_with fail
  refine (SE.out _).mono ?_
  rintro e w2 ⟨rfl, hb⟩
  replace KB := Lib.hid (KB.out.below hb KB.out.lt)
  have B2 := Lib.hid (below_2 B1.out hb)
  clear hb
  go_wp2_with fail
  refine (SA.out _).mono ?_
  rintro e w3 ⟨rfl, hb⟩
  replace KB := Lib.hid (KB.out.below hb KB.out.lt)
  have B3 := Lib.hid (below_2 B2.out hb)
  clear hb
  have k_ := KB.out
  have c0 := k_.cell 0
  have c1 := k_.cell 1
  have c2 := k_.cell 2
  have cf0 := k_.frozen 0
  have cf1 := k_.frozen 1
  have cf2 := k_.frozen 2
  simp at c0 c1 c2
  clear k_
  go_wp2_with fail
  obtain ⟨w4, hw4, k4, hb4⟩ := put3r KB.out (.int .i64 p1) (.int .i64 p2) (.int .i64 p3)
  rw [hw4]
  exact bodyPost_ret (v := .agg #[.int .i64 p1, .int .i64 p2, .int .i64 p3]) (res3 rfl rfl k4) rfl ⟨rfl, B3.out.trans (below_le hb4 (Nat.le_succ _))⟩
set_option maxRecDepth 100000 in
set_option maxHeartbeats 4000000 in
theorem l2Assign_any (S : ByteArray) (hS : S.size ≤ 1000000) (k : Nd) (hk : ok false 0 k = true) (ht : S.data.toList = k.text) (x y z : Int) (hx : small x) (hy : small y) (hz : small z) (c : UInt8) (hc : c ∈ nmsN) (w : World) : Calls Tryz.prog 92 #[.agg #[.int .i64 x, .int .i64 y, .int .i64 z], .int .i64 (fnd nmsN c), .string S] w fun e w' => (e = .returned (.agg #[.int .i64 (put1 c 120 (val (envOf x y z 0 0 0) k) x), .int .i64 (put1 c 121 (val (envOf x y z 0 0 0) k) y), .int .i64 (put1 c 122 (val (envOf x y z 0 0 0) k) z)]) ∧ Below w.heap.size w w') := by
  have s0 : small 0 := ⟨by omega, by omega⟩
  have ON := Lib.hid (fun w => one_any x y z w)
  have VA := Lib.hid (fun w => valueS_any S hS x y z 0 0 0 hx hy hz s0 s0 s0 false k 0 [] w hk (by rw [List.drop_zero, List.append_nil]; exact ht))
  simp only [Int.cast_ofNat_Int] at VA
  generalize val (envOf x y z 0 0 0) k = n at *
  generalize (k.text.length : Int) = lk at *
  have WI := Lib.hid (fun w => l2With_any x y z n c hc w)
  have ka : Blk ((w.alloc (.cells #[.int .i64 x, .int .i64 y, .int .i64 z] 93)).alloc (.cells #[.int .i64 0, .int .i64 0, .int .i64 0] 93)) w.heap.size 93 #[.int .i64 x, .int .i64 y, .int .i64 z] := (Blk.new w _ _).alloc _
  have kb : Blk ((w.alloc (.cells #[.int .i64 x, .int .i64 y, .int .i64 z] 93)).alloc (.cells #[.int .i64 0, .int .i64 0, .int .i64 0] 93)) (w.heap.size + 1) 93 #[.int .i64 0, .int .i64 0, .int .i64 0] := by
    have := Blk.new (w.alloc (.cells #[.int .i64 x, .int .i64 y, .int .i64 z] 93)) 93 #[.int .i64 0, .int .i64 0, .int .i64 0]
    simp at this
    exact this
  have KA := Lib.hid ka
  have KB := Lib.hid kb
  have B0 := Lib.hid ((below_n w (.cells #[.int .i64 x, .int .i64 y, .int .i64 z] 93)).alloc (by simp) (.cells #[.int .i64 0, .int .i64 0, .int .i64 0] 93))
  have a0 := ka.cell 0
  have a1 := ka.cell 1
  have a2 := ka.cell 2
  simp at a0 a1 a2
  clear ka kb
  generalize put1 c 120 n x = p1 at *
  generalize put1 c 121 n y = p2 at *
  generalize put1 c 122 n z = p3 at *
  generalize fnd nmsN c = vn at *
  clear hc hk ht s0
  go_enter Tryz.func92, Tryz.ntmps92
  go_wp2_with fail
  refine (ON.out _).mono ?_
  rintro e w1 ⟨rfl, hb⟩
  replace KB := Lib.hid (KB.out.below hb KB.out.lt)
  replace KA := Lib.hid (KA.out.below hb KA.out.lt)
  have B1 := Lib.hid (below_2 B0.out hb)
  clear hb
  clear a0 a1 a2
  go_wp2_with fail
  refine (VA.out _).mono ?_
  rintro e w2 ⟨rfl, hb⟩
  replace KB := Lib.hid (KB.out.below hb KB.out.lt)
  replace KA := Lib.hid (KA.out.below hb KA.out.lt)
  have B2 := Lib.hid (below_2 B1.out hb)
  clear hb
  have k_ := KA.out
  have a0 := k_.cell 0
  have a1 := k_.cell 1
  have a2 := k_.cell 2
  have af0 := k_.frozen 0
  have af1 := k_.frozen 1
  have af2 := k_.frozen 2
  simp at a0 a1 a2
  clear k_
  go_wp2_with fail
  refine (WI.out _).mono ?_
  rintro e w3 ⟨rfl, hb⟩
  replace KB := Lib.hid (KB.out.below hb KB.out.lt)
  have B3 := Lib.hid (below_2 B2.out hb)
  clear hb
  have k_ := KB.out
  have c0 := k_.cell 0
  have c1 := k_.cell 1
  have c2 := k_.cell 2
  have cf0 := k_.frozen 0
  have cf1 := k_.frozen 1
  have cf2 := k_.frozen 2
  simp at c0 c1 c2
  clear k_
  clear a0 a1 a2 af0 af1 af2
  go_wp2_with fail
  obtain ⟨w4, hw4, k4, hb4⟩ := put3r KB.out (.int .i64 p1) (.int .i64 p2) (.int .i64 p3)
  rw [hw4]
  exact bodyPost_ret (v := .agg #[.int .i64 p1, .int .i64 p2, .int .i64 p3]) (res3 rfl rfl k4) rfl ⟨rfl, B3.out.trans (below_le hb4 (Nat.le_succ _))⟩

end Go.Proofs.YtndlhdmpfnadcaaGreatDoor

/- The reference's relations as masks: a set read, a relation read, turned, composed. -/
namespace Go.Proofs.YtndlhdmpfnadcaaGreatDoor
open Go.RowKit
open Pl

set_option maxRecDepth 100000 in
set_option maxHeartbeats 4000000 in
theorem l4Mask_any (P : ByteArray) (hP : P.size ≤ 27) (w : World) : Calls Tryz.prog 99 #[.string P] w fun e w' => e = .returned (.int .i64 (msk (bt P.data.toList) P.size : Nat)) ∧ w = w' := by
  obtain ⟨f, hf⟩ : ∃ f, bt P.data.toList = f := ⟨_, rfl⟩
  have HF := Lib.hid (fun i (hi : i < P.size) => show f i = (P[i] == 49) by rw [← hf]; exact bt_at hi)
  rw [hf]
  clear hf
  go_enter Tryz.func99, Tryz.ntmps99
  go_wp2_with fail
  go_loopg [3, 4] P.size (fun gk so si wr => ∃ j : Nat, j + gk = P.size ∧ si = .int .i64 j ∧ so = .int .i64 (msk f j : Nat) ∧ wr = w)
  case atStart => exact ⟨0, by omega, rfl, rfl, rfl⟩
  case round =>
    obtain ⟨j, hj, rfl, rfl, rfl⟩ := hrel
    by_cases hlt : j < P.size
    · obtain ⟨c, hc⟩ : ∃ c, P[j] = c := ⟨_, rfl⟩
      have hfj := HF.out j hlt
      rw [hc] at hfj
      have hor := or_wrap (msk f j) j (msk_lt _ _) (by omega)
      have hn : msk f (j + 1) = msk f j + (if f j then 2 ^ j else 0) := rfl
      rw [hfj] at hn
      clear hfj
      by_cases h1 : c = 49
      · subst h1
        have HO : Hid (bits BinOp.or IntKind.i64 ((msk f j : Nat) : Int) (wrap64 (2 ^ j)) = ((msk f (j + 1) : Nat) : Int)) := by show bits BinOp.or IntKind.i64 _ _ = _; rw [hn]; simpa using hor
        clear hor hn HF
        go_wp2_with fail
        go_roundg (gk - 1)
        case measure => omega
        case rel => exact ⟨j + 1, by omega, by go_num, congrArg (Value.int .i64) HO.out, rfl⟩
      · have e1 := u8_ne 49 h1 (by decide)
        simp only [Int.cast_ofNat_Int] at e1
        have f1 : (c == 49) = false := by simpa using h1
        have HO : Hid (msk f j = msk f (j + 1)) := by rw [f1] at hn; exact hn.symm
        clear hor hn h1 HF f1
        go_wp2_with fail
        go_roundg (gk - 1)
        case measure => omega
        case rel => exact ⟨j + 1, by omega, by go_num, by rw [← HO.out], rfl⟩
    · obtain rfl : j = P.size := by omega
      clear HF
      go_wp2_with fail
      go_ret
      exact ⟨rfl, rfl⟩
/-- the masks made so far -/
def rdS (f : Nat → Nat) (i : Nat) : Nat → Nat := fun a => if a < i then f a else 0
theorem rdS_upd (f : Nat → Nat) (i : Nat) : av 27 (upd (rdS f i) i (f i)) = av 27 (rdS f (i + 1)) := by
  apply av_congr
  intro a _
  unfold upd rdS
  by_cases e : a = i
  · subst e; simp
  · rw [if_neg e]
    by_cases h : a < i
    · rw [if_pos h, if_pos (by omega)]
    · rw [if_neg h, if_neg (by omega)]
theorem rdS_all (f : Nat → Nat) : av 27 (rdS f 27) = av 27 f := av_congr (fun _ ha => if_pos ha)
theorem Held.set_ {w : World} {g : Nat} (h : Held w g) {p : Addr} (hp : g ≠ p.block) (u : Value) : Held (w.setCell p u) g := h.far hp u
set_option maxRecDepth 100000 in
set_option maxHeartbeats 8000000 in
theorem l6Read_any (R : ByteArray) (hr : bOk 729 R.data.toList = true) (w : World) : Calls Tryz.prog 86 #[.string R] w fun e w' => (e = .returned (.agg (rowV (ro R.data.toList))) ∧ Below w.heap.size w w') := by
  have hz := okR_size hr
  have EX := Lib.hid (fun (i : Nat) (hi : i < 27) => ext_row hr hi (p := 27 * i) (n := 27 * i + 27) rfl rfl)
  have LM := Lib.hid (fun (i : Nat) (hi : i < 27) w => by have := l4Mask_any (bs (bitsN 27 (ro R.data.toList i))) (by rw [bs_size, bits_len]; omega) w; rw [bs_size, bits_len, bs_list, msk_congr (g := ro R.data.toList i) (fun j hj => bt_bits hj)] at this; exact this)
  obtain ⟨f, hf⟩ : ∃ f : Nat → Nat, (fun i => msk (ro R.data.toList i) 27) = f := ⟨_, rfl⟩
  have HF := Lib.hid (fun i => congrFun hf i)
  obtain ⟨V, hV⟩ : ∃ V, rowV (ro R.data.toList) = V := ⟨_, rfl⟩
  have HV : Hid (av 27 (rdS f 27) = V) := by show av 27 _ = V; rw [rdS_all, ← hV, rowV_av, hf]
  rw [hV]
  clear hf hV hr
  have kr : Blk ((w.alloc (.cells #[.int .i64 0, .int .i64 0, .int .i64 0, .int .i64 0, .int .i64 0, .int .i64 0, .int .i64 0, .int .i64 0, .int .i64 0, .int .i64 0, .int .i64 0, .int .i64 0, .int .i64 0, .int .i64 0, .int .i64 0, .int .i64 0, .int .i64 0, .int .i64 0, .int .i64 0, .int .i64 0, .int .i64 0, .int .i64 0, .int .i64 0, .int .i64 0, .int .i64 0, .int .i64 0, .int .i64 0] 62)).alloc (.cells #[.int .i64 0, .int .i64 0, .int .i64 0, .int .i64 0, .int .i64 0, .int .i64 0, .int .i64 0, .int .i64 0, .int .i64 0, .int .i64 0, .int .i64 0, .int .i64 0, .int .i64 0, .int .i64 0, .int .i64 0, .int .i64 0, .int .i64 0, .int .i64 0, .int .i64 0, .int .i64 0, .int .i64 0, .int .i64 0, .int .i64 0, .int .i64 0, .int .i64 0, .int .i64 0, .int .i64 0] 62)) (w.heap.size) 62 #[.int .i64 0, .int .i64 0, .int .i64 0, .int .i64 0, .int .i64 0, .int .i64 0, .int .i64 0, .int .i64 0, .int .i64 0, .int .i64 0, .int .i64 0, .int .i64 0, .int .i64 0, .int .i64 0, .int .i64 0, .int .i64 0, .int .i64 0, .int .i64 0, .int .i64 0, .int .i64 0, .int .i64 0, .int .i64 0, .int .i64 0, .int .i64 0, .int .i64 0, .int .i64 0, .int .i64 0] := by
    have h0 := Blk.new w 62 #[.int .i64 0, .int .i64 0, .int .i64 0, .int .i64 0, .int .i64 0, .int .i64 0, .int .i64 0, .int .i64 0, .int .i64 0, .int .i64 0, .int .i64 0, .int .i64 0, .int .i64 0, .int .i64 0, .int .i64 0, .int .i64 0, .int .i64 0, .int .i64 0, .int .i64 0, .int .i64 0, .int .i64 0, .int .i64 0, .int .i64 0, .int .i64 0, .int .i64 0, .int .i64 0, .int .i64 0]
    have hz : w.heap.size = w.heap.size := by simp
    rw [hz] at h0
    exact h0.alloc _
  have kz : Blk ((w.alloc (.cells #[.int .i64 0, .int .i64 0, .int .i64 0, .int .i64 0, .int .i64 0, .int .i64 0, .int .i64 0, .int .i64 0, .int .i64 0, .int .i64 0, .int .i64 0, .int .i64 0, .int .i64 0, .int .i64 0, .int .i64 0, .int .i64 0, .int .i64 0, .int .i64 0, .int .i64 0, .int .i64 0, .int .i64 0, .int .i64 0, .int .i64 0, .int .i64 0, .int .i64 0, .int .i64 0, .int .i64 0] 62)).alloc (.cells #[.int .i64 0, .int .i64 0, .int .i64 0, .int .i64 0, .int .i64 0, .int .i64 0, .int .i64 0, .int .i64 0, .int .i64 0, .int .i64 0, .int .i64 0, .int .i64 0, .int .i64 0, .int .i64 0, .int .i64 0, .int .i64 0, .int .i64 0, .int .i64 0, .int .i64 0, .int .i64 0, .int .i64 0, .int .i64 0, .int .i64 0, .int .i64 0, .int .i64 0, .int .i64 0, .int .i64 0] 62)) (w.heap.size + 1) 62 #[.int .i64 0, .int .i64 0, .int .i64 0, .int .i64 0, .int .i64 0, .int .i64 0, .int .i64 0, .int .i64 0, .int .i64 0, .int .i64 0, .int .i64 0, .int .i64 0, .int .i64 0, .int .i64 0, .int .i64 0, .int .i64 0, .int .i64 0, .int .i64 0, .int .i64 0, .int .i64 0, .int .i64 0, .int .i64 0, .int .i64 0, .int .i64 0, .int .i64 0, .int .i64 0, .int .i64 0] := by
    have h0 := Blk.new (w.alloc (.cells #[.int .i64 0, .int .i64 0, .int .i64 0, .int .i64 0, .int .i64 0, .int .i64 0, .int .i64 0, .int .i64 0, .int .i64 0, .int .i64 0, .int .i64 0, .int .i64 0, .int .i64 0, .int .i64 0, .int .i64 0, .int .i64 0, .int .i64 0, .int .i64 0, .int .i64 0, .int .i64 0, .int .i64 0, .int .i64 0, .int .i64 0, .int .i64 0, .int .i64 0, .int .i64 0, .int .i64 0] 62)) 62 #[.int .i64 0, .int .i64 0, .int .i64 0, .int .i64 0, .int .i64 0, .int .i64 0, .int .i64 0, .int .i64 0, .int .i64 0, .int .i64 0, .int .i64 0, .int .i64 0, .int .i64 0, .int .i64 0, .int .i64 0, .int .i64 0, .int .i64 0, .int .i64 0, .int .i64 0, .int .i64 0, .int .i64 0, .int .i64 0, .int .i64 0, .int .i64 0, .int .i64 0, .int .i64 0, .int .i64 0]
    have hz : (w.alloc (.cells #[.int .i64 0, .int .i64 0, .int .i64 0, .int .i64 0, .int .i64 0, .int .i64 0, .int .i64 0, .int .i64 0, .int .i64 0, .int .i64 0, .int .i64 0, .int .i64 0, .int .i64 0, .int .i64 0, .int .i64 0, .int .i64 0, .int .i64 0, .int .i64 0, .int .i64 0, .int .i64 0, .int .i64 0, .int .i64 0, .int .i64 0, .int .i64 0, .int .i64 0, .int .i64 0, .int .i64 0] 62)).heap.size = w.heap.size + 1 := by simp
    rw [hz] at h0
    exact h0
  have KR : Hid (Held ((w.alloc (.cells #[.int .i64 0, .int .i64 0, .int .i64 0, .int .i64 0, .int .i64 0, .int .i64 0, .int .i64 0, .int .i64 0, .int .i64 0, .int .i64 0, .int .i64 0, .int .i64 0, .int .i64 0, .int .i64 0, .int .i64 0, .int .i64 0, .int .i64 0, .int .i64 0, .int .i64 0, .int .i64 0, .int .i64 0, .int .i64 0, .int .i64 0, .int .i64 0, .int .i64 0, .int .i64 0, .int .i64 0] 62)).alloc (.cells #[.int .i64 0, .int .i64 0, .int .i64 0, .int .i64 0, .int .i64 0, .int .i64 0, .int .i64 0, .int .i64 0, .int .i64 0, .int .i64 0, .int .i64 0, .int .i64 0, .int .i64 0, .int .i64 0, .int .i64 0, .int .i64 0, .int .i64 0, .int .i64 0, .int .i64 0, .int .i64 0, .int .i64 0, .int .i64 0, .int .i64 0, .int .i64 0, .int .i64 0, .int .i64 0, .int .i64 0] 62)) (w.heap.size)) := ⟨_, rfl, kr⟩
  have KZ := Lib.hid kz
  have KL : Hid (Blk ((w.alloc (.cells #[.int .i64 0, .int .i64 0, .int .i64 0, .int .i64 0, .int .i64 0, .int .i64 0, .int .i64 0, .int .i64 0, .int .i64 0, .int .i64 0, .int .i64 0, .int .i64 0, .int .i64 0, .int .i64 0, .int .i64 0, .int .i64 0, .int .i64 0, .int .i64 0, .int .i64 0, .int .i64 0, .int .i64 0, .int .i64 0, .int .i64 0, .int .i64 0, .int .i64 0, .int .i64 0, .int .i64 0] 62)).alloc (.cells #[.int .i64 0, .int .i64 0, .int .i64 0, .int .i64 0, .int .i64 0, .int .i64 0, .int .i64 0, .int .i64 0, .int .i64 0, .int .i64 0, .int .i64 0, .int .i64 0, .int .i64 0, .int .i64 0, .int .i64 0, .int .i64 0, .int .i64 0, .int .i64 0, .int .i64 0, .int .i64 0, .int .i64 0, .int .i64 0, .int .i64 0, .int .i64 0, .int .i64 0, .int .i64 0, .int .i64 0] 62)) (w.heap.size + 1) 62 (av 27 (fun _ => 0))) := by rw [← av_zero]; exact kz
  have HW := Lib.hid (setRow_self ((w.alloc (.cells #[.int .i64 0, .int .i64 0, .int .i64 0, .int .i64 0, .int .i64 0, .int .i64 0, .int .i64 0, .int .i64 0, .int .i64 0, .int .i64 0, .int .i64 0, .int .i64 0, .int .i64 0, .int .i64 0, .int .i64 0, .int .i64 0, .int .i64 0, .int .i64 0, .int .i64 0, .int .i64 0, .int .i64 0, .int .i64 0, .int .i64 0, .int .i64 0, .int .i64 0, .int .i64 0, .int .i64 0] 62)).alloc (.cells #[.int .i64 0, .int .i64 0, .int .i64 0, .int .i64 0, .int .i64 0, .int .i64 0, .int .i64 0, .int .i64 0, .int .i64 0, .int .i64 0, .int .i64 0, .int .i64 0, .int .i64 0, .int .i64 0, .int .i64 0, .int .i64 0, .int .i64 0, .int .i64 0, .int .i64 0, .int .i64 0, .int .i64 0, .int .i64 0, .int .i64 0, .int .i64 0, .int .i64 0, .int .i64 0, .int .i64 0] 62)) (w.heap.size + 1) #[.int .i64 0, .int .i64 0, .int .i64 0, .int .i64 0, .int .i64 0, .int .i64 0, .int .i64 0, .int .i64 0, .int .i64 0, .int .i64 0, .int .i64 0, .int .i64 0, .int .i64 0, .int .i64 0, .int .i64 0, .int .i64 0, .int .i64 0, .int .i64 0, .int .i64 0, .int .i64 0, .int .i64 0, .int .i64 0, .int .i64 0, .int .i64 0, .int .i64 0, .int .i64 0, .int .i64 0] 62 (0, 0) kz)
  have B0 : Hid (Below w.heap.size w ((w.alloc (.cells #[.int .i64 0, .int .i64 0, .int .i64 0, .int .i64 0, .int .i64 0, .int .i64 0, .int .i64 0, .int .i64 0, .int .i64 0, .int .i64 0, .int .i64 0, .int .i64 0, .int .i64 0, .int .i64 0, .int .i64 0, .int .i64 0, .int .i64 0, .int .i64 0, .int .i64 0, .int .i64 0, .int .i64 0, .int .i64 0, .int .i64 0, .int .i64 0, .int .i64 0, .int .i64 0, .int .i64 0] 62)).alloc (.cells #[.int .i64 0, .int .i64 0, .int .i64 0, .int .i64 0, .int .i64 0, .int .i64 0, .int .i64 0, .int .i64 0, .int .i64 0, .int .i64 0, .int .i64 0, .int .i64 0, .int .i64 0, .int .i64 0, .int .i64 0, .int .i64 0, .int .i64 0, .int .i64 0, .int .i64 0, .int .i64 0, .int .i64 0, .int .i64 0, .int .i64 0, .int .i64 0, .int .i64 0, .int .i64 0, .int .i64 0] 62))) := ((Below.refl w.heap.size w).alloc (by first | exact Nat.le_refl _ | (simp; done) | (simp; omega)) (.cells #[.int .i64 0, .int .i64 0, .int .i64 0, .int .i64 0, .int .i64 0, .int .i64 0, .int .i64 0, .int .i64 0, .int .i64 0, .int .i64 0, .int .i64 0, .int .i64 0, .int .i64 0, .int .i64 0, .int .i64 0, .int .i64 0, .int .i64 0, .int .i64 0, .int .i64 0, .int .i64 0, .int .i64 0, .int .i64 0, .int .i64 0, .int .i64 0, .int .i64 0, .int .i64 0, .int .i64 0] 62)).alloc (by first | exact Nat.le_refl _ | (simp; done) | (simp; omega)) (.cells #[.int .i64 0, .int .i64 0, .int .i64 0, .int .i64 0, .int .i64 0, .int .i64 0, .int .i64 0, .int .i64 0, .int .i64 0, .int .i64 0, .int .i64 0, .int .i64 0, .int .i64 0, .int .i64 0, .int .i64 0, .int .i64 0, .int .i64 0, .int .i64 0, .int .i64 0, .int .i64 0, .int .i64 0, .int .i64 0, .int .i64 0, .int .i64 0, .int .i64 0, .int .i64 0, .int .i64 0] 62)
  clear kz kr 
  go_enter Tryz.func86, Tryz.ntmps86
  go_wp2_with (refine wpList_store_row rfl 62 (.tmp 3) (.tmp 5) rfl (w.heap.size + 1) #[.int .i64 0, .int .i64 0, .int .i64 0, .int .i64 0, .int .i64 0, .int .i64 0, .int .i64 0, .int .i64 0, .int .i64 0, .int .i64 0, .int .i64 0, .int .i64 0, .int .i64 0, .int .i64 0, .int .i64 0, .int .i64 0, .int .i64 0, .int .i64 0, .int .i64 0, .int .i64 0, .int .i64 0, .int .i64 0, .int .i64 0, .int .i64 0, .int .i64 0, .int .i64 0, .int .i64 0] rfl rfl 62 #[.int .i64 0, .int .i64 0, .int .i64 0, .int .i64 0, .int .i64 0, .int .i64 0, .int .i64 0, .int .i64 0, .int .i64 0, .int .i64 0, .int .i64 0, .int .i64 0, .int .i64 0, .int .i64 0, .int .i64 0, .int .i64 0, .int .i64 0, .int .i64 0, .int .i64 0, .int .i64 0, .int .i64 0, .int .i64 0, .int .i64 0, .int .i64 0, .int .i64 0, .int .i64 0, .int .i64 0] KZ.out rel_size rfl z_one ?_)
  try rw [HW.out]
  clear HW KZ
  go_loopg [4] 27 (fun gk sv wr => ∃ a : Nat, a + gk = 27 ∧ sv = .int .i64 a ∧ Hid (Held wr (w.heap.size)) ∧ Hid (Blk wr (w.heap.size + 1) 62 (av 27 (rdS f a))) ∧ Hid (Below w.heap.size w wr))
  case atStart => exact ⟨0, rfl, rfl, KR, KL, B0⟩
  case round =>
    clear KR KL B0
    obtain ⟨a, ha, rfl, KR, KL, B⟩ := hrel
    by_cases hla : a < 27
    · have hex := EX.out a hla
      have LX := Lib.hid (fun w => LM.out a hla w)
      generalize bs (bitsN 27 (ro R.data.toList a)) = X at *
      have hfa := HF.out a
      rw [hfa] at LX
      clear hfa
      obtain ⟨n, hn⟩ : ∃ n, n = 27 * a := ⟨_, rfl⟩
      obtain ⟨m, hm⟩ : ∃ m, m = 27 * a + 27 := ⟨_, rfl⟩
      rw [← hm, ← hn] at hex
      have e1 : 27 * (a : Int) = (n : Int) := by omega
      have e2 : (n : Int) + 27 = (m : Int) := by omega
      have g1 : n ≤ m := by omega
      have g2 : m ≤ R.size := by omega
      have hc := (KL.out.cell a).trans (av_get _ hla)
      have hf := KL.out.frozen a
      have k5 := KL.out.set_ a (.int .i64 (f a : Nat))
      rw [av_set, rdS_upd] at k5
      have K5 := Lib.hid k5
      have R5 := Lib.hid (KR.out.far (p := ⟨w.heap.size + 1, a, none⟩) (by simp) (.int .i64 (f a : Nat)))
      have B5 := Lib.hid (B.out.setCell (p := ⟨w.heap.size + 1, a, none⟩) (by simp) (.int .i64 (f a : Nat)))
      clear k5 KR KL B hn hm
      go_wp2_with fail
      refine (LX.out _).mono ?_
      rintro e w' ⟨rfl, rfl⟩
      go_wp2_with fail
      go_roundg (gk - 1)
      case measure => omega
      case rel => exact ⟨a + 1, by omega, by go_num, R5, K5, B5⟩
    · obtain rfl : a = 27 := by omega
      clear EX LM HF
      have k3 := KL.out
      rw [HV.out] at k3
      have hz : V.size = 27 := by rw [← HV.out]; exact av_size _ _
      have h1 : V.all (·.oneCell') = true := by rw [← HV.out]; exact av_one _ _
      have hi : (Tryz.prog.info? 62).map (·.size) = some V.size := by rw [hz]; exact rel_size
      obtain ⟨old, hoz, k2⟩ := KR.out
      have kE := setRow_heap wr (w.heap.size) _ V 62 (0, 0) k2
      have BE : Hid (Below w.heap.size w (wr.setRow (w.heap.size) V)) := B.out.trans (show Below w.heap.size wr (wr.setRow (w.heap.size) V) from ⟨rfl, rfl, rfl, by simp, fun g hg => setRow_other wr (w.heap.size) g V (by omega)⟩)
      have X := Lib.hid (And.intro k3 (And.intro k2 (And.intro hi (And.intro (hoz.trans hz.symm) (And.intro h1 kE)))))
      clear k3 KL KR k2 hoz kE hz h1 hi 
      go_wp2_with (first | (refine wpList_load_row rfl 62 (.tmp 3) rfl (w.heap.size + 1) rfl 62 V (0, 0) _ X.out.1 Tryz.underlying62 rfl X.out.2.2.1 ?_) | (refine wpList_store_row rfl 62 (.tmp 2) (.tmp 20) rfl (w.heap.size) V rfl rfl 62 old X.out.2.1 X.out.2.2.1 X.out.2.2.2.1 X.out.2.2.2.2.1 ?_))
      exact bodyPost_ret (v := .agg V) (results_cell_row rfl _ _ (w.heap.size) 62 V (0, 0) _ rfl X.out.2.2.2.2.2 Tryz.underlying62 rfl X.out.2.2.1) rfl ⟨rfl, BE.out⟩
def trS (rb : Rl) (i j : Nat) : Nat → Nat := fun a => msk (trnF rb a) (if a < j then i + 1 else i)
theorem trS_zero (rb : Rl) : av 27 (fun _ => 0) = av 27 (trS rb 0 0) := av_congr (fun a _ => by simp [trS, msk])
theorem trS_no {rb : Rl} {i j : Nat} (h : rb i j = false) : av 27 (trS rb i j) = av 27 (trS rb i (j + 1)) := by
  apply av_congr
  intro a _
  unfold trS
  by_cases e : a = j
  · subst e
    rw [if_neg (Nat.lt_irrefl _), if_pos (Nat.lt_succ_self _), msk, show trnF rb a i = false from h]; simp
  · by_cases h1 : a < j
    · rw [if_pos h1, if_pos (by omega)]
    · rw [if_neg h1, if_neg (by omega)]
theorem trS_yes {rb : Rl} {i j : Nat} (h : rb i j = true) : av 27 (upd (trS rb i j) j (trS rb i j j + 2 ^ i)) = av 27 (trS rb i (j + 1)) := by
  apply av_congr
  intro a _
  unfold upd trS
  by_cases e : a = j
  · subst e
    rw [if_pos rfl, if_neg (Nat.lt_irrefl _), if_pos (Nat.lt_succ_self _), msk, show trnF rb a i = true from h]; simp
  · rw [if_neg e]
    by_cases h1 : a < j
    · rw [if_pos h1, if_pos (by omega)]
    · rw [if_neg h1, if_neg (by omega)]
theorem trS_next (rb : Rl) (i : Nat) : av 27 (trS rb i 27) = av 27 (trS rb (i + 1) 0) := by
  apply av_congr
  intro a ha
  unfold trS
  rw [if_pos ha, if_neg (Nat.not_lt_zero _)]
theorem trS_all (rb : Rl) : av 27 (trS rb 27 0) = rowV (trnF rb) := by
  rw [rowV_av]
  apply av_congr
  intro a _
  unfold trS
  rw [if_neg (Nat.not_lt_zero _)]
theorem trS_at (rb : Rl) (i j : Nat) : trS rb i j j = msk (trnF rb j) i := by unfold trS; rw [if_neg (Nat.lt_irrefl _)]
def cmJ (ra rb : Rl) (i j : Nat) : Nat → Bool := fun k => (List.range j).any (fun u => ra i u && rb u k)
def cpS (ra rb : Rl) (i j : Nat) : Nat → Nat := fun a => if a < i then msk (cmpF ra rb a) 27 else if a = i then msk (cmJ ra rb i j) 27 else 0
theorem cmJ_succ (ra rb : Rl) (i j k : Nat) : cmJ ra rb i (j + 1) k = (cmJ ra rb i j k || (ra i j && rb j k)) := by
  unfold cmJ
  rw [List.range_succ, List.any_append]
  simp
theorem cmJ_zero (ra rb : Rl) (i : Nat) : msk (cmJ ra rb i 0) 27 = 0 := by
  rw [← msk_zero 27]; exact msk_congr (fun _ _ => rfl)
theorem cpS_zero (ra rb : Rl) : av 27 (fun _ => 0) = av 27 (cpS ra rb 0 0) := av_congr (fun a _ => by
  unfold cpS
  rw [if_neg (Nat.not_lt_zero _)]
  by_cases e : a = 0
  · rw [if_pos e, cmJ_zero]
  · rw [if_neg e])
theorem cpS_at (ra rb : Rl) (i j : Nat) : cpS ra rb i j i = msk (cmJ ra rb i j) 27 := by unfold cpS; rw [if_neg (Nat.lt_irrefl _), if_pos rfl]
theorem cpS_no {ra rb : Rl} {i j : Nat} (h : ra i j = false) : av 27 (cpS ra rb i j) = av 27 (cpS ra rb i (j + 1)) := by
  apply av_congr
  intro a _
  unfold cpS
  rw [msk_congr (f := cmJ ra rb i (j + 1)) (g := cmJ ra rb i j) (fun k _ => by rw [cmJ_succ, h, Bool.false_and, Bool.or_false])]
theorem cpS_yes {ra rb : Rl} {i j : Nat} (h : ra i j = true) : av 27 (upd (cpS ra rb i j) i (msk (cmJ ra rb i j) 27 ||| msk (rb j) 27)) = av 27 (cpS ra rb i (j + 1)) := by
  apply av_congr
  intro a _
  by_cases e : a = i
  · subst e
    rw [upd_at, cpS_at, msk_or]
    exact msk_congr (fun k _ => by rw [cmJ_succ, h, Bool.true_and])
  · rw [upd_ne e]
    unfold cpS
    rw [if_neg e, if_neg e]
theorem cpS_next (ra rb : Rl) (i : Nat) : av 27 (cpS ra rb i 27) = av 27 (cpS ra rb (i + 1) 0) := by
  apply av_congr
  intro a _
  unfold cpS
  by_cases h1 : a < i
  · rw [if_pos h1, if_pos (by omega)]
  · by_cases h2 : a = i
    · subst h2; rw [if_neg h1, if_pos rfl, if_pos (Nat.lt_succ_self _)]; rfl
    · rw [if_neg h1, if_neg h2, if_neg (by omega)]
      by_cases h3 : a = i + 1
      · rw [if_pos h3, cmJ_zero]
      · rw [if_neg h3]
theorem cpS_all (ra rb : Rl) : av 27 (cpS ra rb 27 0) = rowV (cmpF ra rb) := by
  rw [rowV_av]
  apply av_congr
  intro a ha
  unfold cpS
  rw [if_pos ha]

end Go.Proofs.YtndlhdmpfnadcaaGreatDoor

/- The reference's relations turned, composed, closed; images, shadows, equivalences. -/
namespace Go.Proofs.YtndlhdmpfnadcaaGreatDoor
open Go.RowKit
open Pl

theorem rt_flat (r : Rl) : rflat r 27 = rt r := (rfl_bits r 27).symm
theorem l6TextR_any (r : Rl) (w : World) : Calls Tryz.prog 35 #[.agg (rowV r)] w fun e w' => (e = .returned (.string (bs (rt r))) ∧ Below w.heap.size w w') := by
  have := l6Text_any r w
  rwa [rt_flat] at this
/-! ### arrays compared -/
theorem eqItems_av (d : Nat) (f g : Nat → Nat) (w : World) : ∀ is : List Nat, (∀ i ∈ is, i < 27) → (Op.eqItems (d + 1) 3 (Tryz.prog.cellsOf 3) (av 27 f) (av 27 g) is).run Tryz.prog w = .ok (is.all (fun i => f i == g i)) w := by
  have hc : Tryz.prog.cellsOf 3 = 1 := by kernel_rfl
  have hp : Tryz.prog.plainKey 3 = true := by kernel_rfl
  intro is
  induction is with
  | nil => intro _; simp [Op.eqItems]
  | cons i is ih =>
    intro h
    have hi : i < 27 := h i (by simp)
    have p1 := run_part_plain (P := Tryz.prog) w hp (xs := av 27 f) (off := i * 1) (v := .int .i64 (f i : Nat)) (by rw [Nat.mul_one]; exact av_get f hi)
    have p2 := run_part_plain (P := Tryz.prog) w hp (xs := av 27 g) (off := i * 1) (v := .int .i64 (g i : Nat)) (by rw [Nat.mul_one]; exact av_get g hi)
    have p3 := run_equalIn_int (P := Tryz.prog) w d 3 .i64 .i64 (f i : Nat) (g i : Nat) Tryz.underlying3
    have ih' := ih (fun j hj => h j (by simp [hj]))
    rw [hc] at ih' ⊢
    simp only [Op.eqItems, Sem.run_bind, p1, p2, p3, Result.andThen_ok]
    by_cases e : f i = g i
    · simp [e, ih']
    · have : ((f i : Int) == (g i : Int)) = false := by simp; omega
      simp [this, e]
theorem int_info : ∃ i, Tryz.prog.info? 3 = some i := by
  have h : (Tryz.prog.info? 3).isSome = true := by kernel_rfl
  exact Option.isSome_iff_exists.1 h
theorem eq_rows (r s : Rl) (w : World) : (Op.equalIn 10000 62 (.agg (rowV r)) (.agg (rowV s))).run Tryz.prog w = .ok (rt r == rt s) w := by
  obtain ⟨i, hi⟩ := int_info
  rw [show (10000 : Nat) = 9999 + 1 from rfl, run_equalIn_array w 9999 (t := 62) (e := 3) (n := 27) (rowV r) (rowV s) Tryz.underlying62 hi, rowV_av, rowV_av, show (9999 : Nat) = 9998 + 1 from rfl, eqItems_av 9998 _ _ w (List.range 27) (fun i hi => by simpa using hi)]
  refine congrArg (fun b => Result.ok b w) ?_
  apply bool_ext
  rw [List.all_eq_true, beq_iff_eq, rt_inj]
  constructor
  · intro h i j hi hj
    have := h i (by simpa using hi)
    rw [beq_iff_eq] at this
    exact msk_inj this hj
  · intro h i hi
    rw [beq_iff_eq]
    exact msk_congr (fun j hj => h i j (by simpa using hi) hj)
theorem eqv_alt2 {a : List UInt8} (ha : bOk 729 a = true) (h : ∀ i, i < 27 → ro a i i = true) : eqvT a = (trnT a == a && cmpT a a == a) := by
  rw [eqv_alt ha]
  have : (List.range 27).all (fun i => ro a i i) = true := List.all_eq_true.2 (fun i hi => h i (by simpa using hi))
  rw [this, Bool.true_and]
theorem eqv_alt3 {a : List UInt8} (ha : bOk 729 a = true) {i : Nat} (hi : i < 27) (h : ro a i i = false) : eqvT a = false := by
  rw [eqv_alt ha]
  have : (List.range 27).all (fun i => ro a i i) = false := by
    cases hb : (List.range 27).all (fun i => ro a i i)
    · rfl
    · have := List.all_eq_true.1 hb i (by simpa using hi)
      rw [h] at this; cases this
  rw [this, Bool.false_and]
theorem Blk.row {W : World} {g : Nat} {t : TypeId} {old : Array Value} (h : Blk W g t old) (V : Array Value) : Blk (W.setRow g V) g t V := setRow_heap W g _ V t (0, 0) h
theorem Blk.row_ne {W : World} {g g' : Nat} {t : TypeId} {cs : Array Value} (h : Blk W g t cs) (hne : g ≠ g') (V : Array Value) : Blk (W.setRow g' V) g t cs := (setRow_other W g' g V hne).trans h
theorem below_row {B : Nat} {W : World} {g : Nat} (hg : B ≤ g) (V : Array Value) : Below B W (W.setRow g V) := ⟨rfl, rfl, rfl, by simp, fun k hk => setRow_other W g k V (by omega)⟩
theorem rowV_size (r : Rl) : (rowV r).size = 27 := by rw [rowV_av]; exact av_size _ _
structure RowIn (w W : World) (g : Nat) (V : Array Value) : Prop where
  blk : Blk W g 62 V
  below : Below w.heap.size w W
theorem RowIn.call {w W W' : World} {g : Nat} {V : Array Value} (H : RowIn w W g V) (hb : Below W.heap.size W W') : RowIn w W' g V := ⟨H.blk.below hb H.blk.lt, below_2 H.below hb⟩
theorem quiet_load_row {o : Oper} {a : Act} {K : Act → Prop} {C : World → Prop} (x : Operand) (ho : o.op = .load 62 x) (g : Nat) (hx : a.eval x = .pointer (some ⟨g, 0, none⟩)) (V : Array Value) (hC : ∀ W, C W → Blk W g 62 V) (hz : V.size = 27) (hk : K (a.put o.dst (.agg V))) : o.quiet Tryz.prog a C K :=
  ⟨.agg V, fun W hW => by
    unfold Oper.quietAt execOp
    simp only [ho, hx, Instr.loadAt, Instr.sureAddr, Sem.run_bind, Sem.run_pure, Result.andThen_ok, ldAt (hC W hW) hz]
    exact ⟨rfl, rfl⟩, hk⟩
theorem RowIn.drew {w W : World} {g : Nat} {V : Array Value} (H : RowIn w W g V) : RowIn w W.drew g V := H.call (below_drew _ _)

end Go.Proofs.YtndlhdmpfnadcaaGreatDoor

/- The reference's ImageOf and ShadowOf. -/
namespace Go.Proofs.YtndlhdmpfnadcaaGreatDoor
open Go.RowKit
open Pl

theorem all_size : (Tryz.prog.info? 74).map (·.size) = some 29 := by kernel_rfl
/-- a struct's first field, an array of 27 -/
theorem fold_set : ∀ (xs : List Value) (k : Nat) (C : Array Value) (i : Nat), k + xs.length ≤ C.size →
    ((xs.zipIdx k).foldl (fun (cs : Array Value) x => cs.setIfInBounds x.2 x.1) C)[i]? = if k ≤ i ∧ i < k + xs.length then xs[i - k]? else C[i]?
  | [], k, C, i, _ => by
    rw [if_neg (by simp only [List.length_nil]; omega)]
    rfl
  | x :: xs, k, C, i, h => by
    simp only [List.length_cons] at h
    rw [List.zipIdx_cons, List.foldl_cons, fold_set xs (k + 1) _ i (by simp; omega)]
    simp only [List.length_cons]
    by_cases h1 : k + 1 ≤ i ∧ i < k + 1 + xs.length
    · rw [if_pos h1, if_pos (by omega), show i - k = (i - (k + 1)) + 1 by omega, List.getElem?_cons_succ]
    · rw [if_neg h1]
      by_cases h2 : i = k
      · subst h2
        rw [if_pos (by omega), Array.getElem?_setIfInBounds_self_of_lt (by omega), Nat.sub_self]; rfl
      · rw [if_neg (by omega), Array.getElem?_setIfInBounds_ne (fun e => h2 e.symm)]
theorem build_get {V : Array Value} (hz : V.size = 27) (C : Array Value) (hC : 27 ≤ C.size) {i : Nat} (hi : i < 27) : (Array.foldl (fun (cs : Array Value) x => cs.setIfInBounds x.2 x.1) C V.zipIdx 0 27)[i]? = V[i]? := by
  have hs : V.zipIdx.size = 27 := by rw [Array.size_zipIdx, hz]
  have h1 := Array.foldl_toList (fun (cs : Array Value) (x : Value × Nat) => cs.setIfInBounds x.2 x.1) (init := C) (xs := V.zipIdx)
  rw [hs] at h1
  have hl : V.toList.length = 27 := by rw [Array.length_toList, hz]
  rw [← h1, Array.toList_zipIdx, fold_set V.toList 0 C i (by omega), if_pos (by omega)]
  simp
/-- what the masks in a set have together -/
def poS (p : Nat → Bool) (rb : Rl) (i : Nat) : Nat → Bool := fun j => (List.range i).any (fun u => p u && rb u j)
theorem poS_succ (p : Nat → Bool) (rb : Rl) (i j : Nat) : poS p rb (i + 1) j = (poS p rb i j || (p i && rb i j)) := by
  unfold poS
  rw [List.range_succ, List.any_append]
  simp
theorem poS_zero (p : Nat → Bool) (rb : Rl) : msk (poS p rb 0) 27 = 0 := by rw [← msk_zero 27]; exact msk_congr (fun _ _ => rfl)
theorem poS_no {p : Nat → Bool} {rb : Rl} {i : Nat} (h : p i = false) : msk (poS p rb i) 27 = msk (poS p rb (i + 1)) 27 := msk_congr (fun j _ => by rw [poS_succ, h, Bool.false_and, Bool.or_false])
theorem poS_yes {p : Nat → Bool} {rb : Rl} {i : Nat} (h : p i = true) : msk (poS p rb i) 27 ||| msk (rb i) 27 = msk (poS p rb (i + 1)) 27 := by
  rw [msk_or]
  exact msk_congr (fun j _ => by rw [poS_succ, h, Bool.true_and])
def shS (r p : List UInt8) (i : Nat) : Nat → Bool := fun a => decide (a < i) && (List.range 27).all (fun j => !ro r a j || bt p j)
theorem shS_zero (r p : List UInt8) : msk (shS r p 0) 27 = 0 := (msk_congr (g := fun _ => false) (fun _ _ => by simp [shS])).trans (msk_zero 27)
theorem shS_no {r p : List UInt8} {i : Nat} (h : (List.range 27).all (fun j => !ro r i j || bt p j) = false) : msk (shS r p i) 27 = msk (shS r p (i + 1)) 27 := msk_congr (fun a _ => by
  unfold shS
  by_cases e : a = i
  · subst e; rw [h]; simp
  · congr 1
    exact decide_eq_decide.2 (by omega))
theorem shS_yes {r p : List UInt8} {i : Nat} (hi : i < 27) (h : (List.range 27).all (fun j => !ro r i j || bt p j) = true) : msk (shS r p i) 27 ||| 2 ^ i = msk (shS r p (i + 1)) 27 := by
  rw [msk_or1 _ hi]
  refine msk_congr (fun a _ => ?_)
  unfold shS
  by_cases e : a = i
  · subst e; rw [h]; simp
  · rw [show decide (a < i + 1) = decide (a < i) from decide_eq_decide.2 (by omega), show (a == i) = false by simp [e], Bool.or_false]
theorem shS_all (r p : List UInt8) : bitsN 27 (shS r p 27) = shaT r p := by
  unfold shaT
  apply bits_congr
  intro i hi
  simp [shS, hi]

end Go.Proofs.YtndlhdmpfnadcaaGreatDoor
