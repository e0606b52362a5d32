/- Plain: states with another value of a variable, by number; on which variables a set depends; sets for some and for all values; sets before and after an assignment. -/
import Derived.Test.YtccjmahhebiphaaDoorGa
namespace Go.Proofs.YtccjmahhebiphaaDoor
namespace Pl
set_option linter.unusedVariables false

/-- the number of a state with another value of a variable -/
def wv (c : UInt8) (i : Nat) (n : Int) : Nat := (put1 c 120 n (stX i) + 3 * put1 c 121 n (stY i) + 9 * put1 c 122 n (stZ i)).toNat
/-- the difference of numbers of a variable -/
def strd (c : UInt8) : Int := if c = 120 then 1 else if c = 121 then 3 else 9
theorem nmsN_cases {c : UInt8} (h : c ∈ nmsN) : c = 120 ∨ c = 121 ∨ c = 122 := by simpa [nmsN] using h
theorem wv_int {c : UInt8} {i : Nat} {n : Int} (hi : i < 27) (hn : small n) : (wv c i n : Int) = put1 c 120 n (stX i) + 3 * put1 c 121 n (stY i) + 9 * put1 c 122 n (stZ i) := by
  have h1 := put1_small (c := c) (a := 120) hn (stX_small i)
  have h2 := put1_small (c := c) (a := 121) hn (stY_small i)
  have h3 := put1_small (c := c) (a := 122) hn (stZ_small hi)
  obtain ⟨a1, _⟩ := h1
  obtain ⟨a2, _⟩ := h2
  obtain ⟨a3, _⟩ := h3
  unfold wv
  omega
theorem wv_lt {c : UInt8} {i : Nat} {n : Int} (hi : i < 27) (hn : small n) : wv c i n < 27 := by
  have e := wv_int (c := c) hi hn
  have h1 := put1_small (c := c) (a := 120) hn (stX_small i)
  have h2 := put1_small (c := c) (a := 121) hn (stY_small i)
  have h3 := put1_small (c := c) (a := 122) hn (stZ_small hi)
  obtain ⟨_, a1⟩ := h1
  obtain ⟨_, a2⟩ := h2
  obtain ⟨_, a3⟩ := h3
  omega
theorem st_wv {c : UInt8} {i : Nat} {n : Int} (hi : i < 27) (hn : small n) : stX (wv c i n) = put1 c 120 n (stX i) ∧ stY (wv c i n) = put1 c 121 n (stY i) ∧ stZ (wv c i n) = put1 c 122 n (stZ i) := by
  have e := wv_int (c := c) hi hn
  have h1 := put1_small (c := c) (a := 120) hn (stX_small i)
  have h2 := put1_small (c := c) (a := 121) hn (stY_small i)
  have h3 := put1_small (c := c) (a := 122) hn (stZ_small hi)
  obtain ⟨a1, b1⟩ := h1
  obtain ⟨a2, b2⟩ := h2
  obtain ⟨a3, b3⟩ := h3
  refine ⟨?_, ?_, ?_⟩
  · show (wv c i n : Int) % 3 = _
    omega
  · show (wv c i n : Int) / 3 % 3 = _
    omega
  · show (wv c i n : Int) / 9 = _
    omega
theorem wv_prog {c : UInt8} (hc : c ∈ nmsN) {i : Nat} {n : Int} (hi : i < 27) (hn : small n) : (wv c i n : Int) = (i : Int) + (n - (i : Int) / strd c % 3) * strd c := by
  rw [wv_int hi hn]
  rcases nmsN_cases hc with rfl | rfl | rfl
  · show n + 3 * ((i : Int) / 3 % 3) + 9 * ((i : Int) / 9) = (i : Int) + (n - (i : Int) / 1 % 3) * 1
    omega
  · show (i : Int) % 3 + 3 * n + 9 * ((i : Int) / 9) = (i : Int) + (n - (i : Int) / 3 % 3) * 3
    omega
  · show (i : Int) % 3 + 3 * ((i : Int) / 3 % 3) + 9 * n = (i : Int) + (n - (i : Int) / 9 % 3) * 9
    omega
theorem put1_put {c a : UInt8} {n m x : Int} : put1 c a m (put1 c a n x) = put1 c a m x := by unfold put1; split <;> rfl
theorem wv_wv {c : UInt8} {i : Nat} {n m : Int} (hi : i < 27) (hn : small n) : wv c (wv c i n) m = wv c i m := by
  obtain ⟨e1, e2, e3⟩ := st_wv (c := c) hi hn
  unfold wv
  rw [show stX ((put1 c 120 n (stX i) + 3 * put1 c 121 n (stY i) + 9 * put1 c 122 n (stZ i)).toNat) = put1 c 120 n (stX i) from e1, show stY ((put1 c 120 n (stX i) + 3 * put1 c 121 n (stY i) + 9 * put1 c 122 n (stZ i)).toNat) = put1 c 121 n (stY i) from e2, show stZ ((put1 c 120 n (stX i) + 3 * put1 c 121 n (stY i) + 9 * put1 c 122 n (stZ i)).toNat) = put1 c 122 n (stZ i) from e3, put1_put, put1_put, put1_put]
/-- the value of a variable -/
def gv (c : UInt8) (i : Nat) : Int := (i : Int) / strd c % 3
theorem gv_small (c : UInt8) (i : Nat) : small (gv c i) := by unfold gv small; omega
theorem wv_self {c : UInt8} (hc : c ∈ nmsN) {i : Nat} (hi : i < 27) : wv c i (gv c i) = i := by
  have e := wv_prog hc hi (gv_small c i)
  unfold gv at *
  rw [show ((i : Int) / strd c % 3 - (i : Int) / strd c % 3) * strd c = 0 by rw [Int.sub_self, Int.zero_mul]] at e
  omega
theorem small_cases {n : Int} (h : small n) : n = 0 ∨ n = 1 ∨ n = 2 := by obtain ⟨a, b⟩ := h; omega
theorem sm0 : small 0 := ⟨by omega, by omega⟩
theorem sm1 : small 1 := ⟨by omega, by omega⟩
theorem sm2 : small 2 := ⟨by omega, by omega⟩

/-! ### which variables matter -/
def dep (b : Nat → Bool) (c : UInt8) : Bool := (List.range 27).any fun i => b i != b (wv c i 0)
theorem dep_no {b : Nat → Bool} {c : UInt8} : dep b c = false ↔ ∀ i, i < 27 → ∀ n, small n → b i = b (wv c i n) := by
  constructor
  · intro h i hi n hn
    have hh : ∀ i, i < 27 → b i = b (wv c i 0) := by
      intro i hi
      simp only [dep, List.any_eq_false, List.mem_range, bne_iff_ne, ne_eq, Decidable.not_not] at h
      exact h i hi
    rw [hh i hi, hh _ (wv_lt hi hn), wv_wv hi hn]
  · intro h
    simp only [dep, List.any_eq_false, List.mem_range, bne_iff_ne, ne_eq, Decidable.not_not]
    exact fun i hi => h i hi 0 sm0
theorem dep_yes {b : Nat → Bool} {c : UInt8} : dep b c = true ↔ ∃ i, i < 27 ∧ b i ≠ b (wv c i 0) := by
  simp only [dep, List.any_eq_true, List.mem_range, bne_iff_ne]
theorem dep_at {b : Nat → Bool} {c : UInt8} {i : Nat} {n : Int} (hi : i < 27) (hn : small n) (h : b i ≠ b (wv c i n)) : dep b c = true := by
  cases hd : dep b c
  · exact absurd (dep_no.1 hd i hi n hn) h
  · rfl
theorem dep_congr {b b' : Nat → Bool} {c : UInt8} (h : ∀ i, i < 27 → b i = b' i) : dep b c = dep b' c := by
  rw [Bool.eq_iff_iff, dep_yes, dep_yes]
  constructor <;> rintro ⟨i, hi, hne⟩ <;> refine ⟨i, hi, ?_⟩
  · rwa [← h i hi, ← h _ (wv_lt hi sm0)]
  · rwa [h i hi, h _ (wv_lt hi sm0)]
theorem dep_not {b : Nat → Bool} {c : UInt8} : dep (fun i => !b i) c = dep b c := by
  rw [Bool.eq_iff_iff, dep_yes, dep_yes]
  constructor <;> rintro ⟨i, hi, hne⟩ <;> refine ⟨i, hi, ?_⟩
  · intro e; exact hne (by rw [e])
  · intro e; exact hne (by simpa using e)
/-- the letters of a set -/
def pvL (l : List UInt8) : List UInt8 := if bOk 27 l then nmsN.filter (dep (bt l)) else []
theorem mem_pvL {l : List UInt8} {c : UInt8} (h : bOk 27 l = true) (hc : c ∈ nmsN) : c ∈ pvL l ↔ dep (bt l) c = true := by
  unfold pvL
  rw [h, if_pos rfl, List.mem_filter]
  exact ⟨fun h => h.2, fun h => ⟨hc, h⟩⟩
theorem pvL_sub {l : List UInt8} {c : UInt8} (h : c ∈ pvL l) : c ∈ nmsN := by
  unfold pvL at h
  split at h
  · exact (List.mem_filter.1 h).1
  · cases h
theorem pvL_len (l : List UInt8) : (pvL l).length ≤ 3 := by
  unfold pvL
  split
  · exact Nat.le_trans (List.length_filter_le _ _) (by decide)
  · simp
theorem pvL_bits {b : Nat → Bool} : pvL (bitsN 27 b) = nmsN.filter (dep b) := by
  unfold pvL
  rw [bits_ok, if_pos rfl]
  congr 1
  funext c
  exact dep_congr (fun i hi => bt_bits hi)
theorem pvL_not {l : List UInt8} (h : bOk 27 l = true) : pvL (bitsN 27 (fun i => !bt l i)) = pvL l := by
  rw [pvL_bits]
  unfold pvL
  rw [h, if_pos rfl]
  congr 1
  funext c
  exact dep_not
theorem filter_snoc {k : Nat} (h : k < 3) (f : UInt8 → Bool) : (nmsN.take (k + 1)).filter f = (nmsN.take k).filter f ++ (if f (nmsN[k]'(by simpa [nmsN] using h)) then [nmsN[k]'(by simpa [nmsN] using h)] else []) := by
  rw [List.take_succ_eq_append_getElem (by simpa [nmsN] using h), List.filter_append]
  congr 1
  cases hf : f (nmsN[k]'(by simpa [nmsN] using h)) <;> simp [List.filter, hf]

/-! ### some value, all values -/
def smF (c : UInt8) (b : Nat → Bool) (i : Nat) : Bool := b (wv c i 0) || b (wv c i 1) || b (wv c i 2)
def alF (c : UInt8) (b : Nat → Bool) (i : Nat) : Bool := b (wv c i 0) && b (wv c i 1) && b (wv c i 2)
theorem smF_iff {c : UInt8} {b : Nat → Bool} {i : Nat} : smF c b i = true ↔ ∃ n, small n ∧ b (wv c i n) = true := by
  unfold smF
  simp only [Bool.or_eq_true]
  constructor
  · rintro ((h | h) | h)
    · exact ⟨0, sm0, h⟩
    · exact ⟨1, sm1, h⟩
    · exact ⟨2, sm2, h⟩
  · rintro ⟨n, hn, h⟩
    rcases small_cases hn with rfl | rfl | rfl
    · exact .inl (.inl h)
    · exact .inl (.inr h)
    · exact .inr h
theorem alF_iff {c : UInt8} {b : Nat → Bool} {i : Nat} : alF c b i = true ↔ ∀ n, small n → b (wv c i n) = true := by
  unfold alF
  simp only [Bool.and_eq_true]
  constructor
  · rintro ⟨⟨h0, h1⟩, h2⟩ n hn
    rcases small_cases hn with rfl | rfl | rfl
    · exact h0
    · exact h1
    · exact h2
  · intro h
    exact ⟨⟨h 0 sm0, h 1 sm1⟩, h 2 sm2⟩
theorem smF_wv {c : UInt8} {b : Nat → Bool} {i : Nat} {n : Int} (hi : i < 27) (hn : small n) : smF c b (wv c i n) = smF c b i := by unfold smF; rw [wv_wv hi hn, wv_wv hi hn, wv_wv hi hn]
theorem alF_wv {c : UInt8} {b : Nat → Bool} {i : Nat} {n : Int} (hi : i < 27) (hn : small n) : alF c b (wv c i n) = alF c b i := by unfold alF; rw [wv_wv hi hn, wv_wv hi hn, wv_wv hi hn]
theorem dep_sm {c : UInt8} {b : Nat → Bool} : dep (smF c b) c = false := dep_no.2 (fun _ hi _ hn => (smF_wv hi hn).symm)
theorem dep_al {c : UInt8} {b : Nat → Bool} : dep (alF c b) c = false := dep_no.2 (fun _ hi _ hn => (alF_wv hi hn).symm)
theorem smF_of {c : UInt8} (hc : c ∈ nmsN) {b : Nat → Bool} {i : Nat} (hi : i < 27) (h : b i = true) : smF c b i = true := smF_iff.2 ⟨gv c i, gv_small c i, by rw [wv_self hc hi]; exact h⟩
theorem alF_to {c : UInt8} (hc : c ∈ nmsN) {b : Nat → Bool} {i : Nat} (hi : i < 27) (h : alF c b i = true) : b i = true := by
  have := alF_iff.1 h (gv c i) (gv_small c i)
  rwa [wv_self hc hi] at this
theorem smF_not {c : UInt8} {b : Nat → Bool} {i : Nat} : smF c (fun i => !b i) i = !alF c b i := by unfold smF alF; simp [Bool.not_and]
theorem smF_congr {c : UInt8} {b b' : Nat → Bool} (h : ∀ i, i < 27 → b i = b' i) {i : Nat} (hi : i < 27) : smF c b i = smF c b' i := by unfold smF; rw [h _ (wv_lt hi sm0), h _ (wv_lt hi sm1), h _ (wv_lt hi sm2)]
theorem alF_congr {c : UInt8} {b b' : Nat → Bool} (h : ∀ i, i < 27 → b i = b' i) {i : Nat} (hi : i < 27) : alF c b i = alF c b' i := by unfold alF; rw [h _ (wv_lt hi sm0), h _ (wv_lt hi sm1), h _ (wv_lt hi sm2)]
theorem sm_same {c : UInt8} (hc : c ∈ nmsN) {b : Nat → Bool} : (∀ i, i < 27 → smF c b i = b i) ↔ dep b c = false := by
  constructor
  · intro h
    refine dep_no.2 fun i hi n hn => ?_
    rw [← h i hi, ← h _ (wv_lt hi hn), smF_wv hi hn]
  · intro h i hi
    unfold smF
    rw [← dep_no.1 h i hi 0 sm0, ← dep_no.1 h i hi 1 sm1, ← dep_no.1 h i hi 2 sm2]
    cases b i <;> rfl
theorem al_same {c : UInt8} (hc : c ∈ nmsN) {b : Nat → Bool} : (∀ i, i < 27 → alF c b i = b i) ↔ dep b c = false := by
  constructor
  · intro h
    refine dep_no.2 fun i hi n hn => ?_
    rw [← h i hi, ← h _ (wv_lt hi hn), alF_wv hi hn]
  · intro h i hi
    unfold alF
    rw [← dep_no.1 h i hi 0 sm0, ← dep_no.1 h i hi 1 sm1, ← dep_no.1 h i hi 2 sm2]
    cases b i <;> rfl
theorem sm_al {c : UInt8} (hc : c ∈ nmsN) {b d : Nat → Bool} : (∀ i, i < 27 → smF c b i = true → d i = true) ↔ (∀ i, i < 27 → b i = true → alF c d i = true) := by
  constructor
  · intro h i hi hb
    refine alF_iff.2 fun n hn => h _ (wv_lt hi hn) ?_
    rw [smF_wv hi hn]
    exact smF_of hc hi hb
  · intro h i hi hb
    obtain ⟨n, hn, hb⟩ := smF_iff.1 hb
    have := h _ (wv_lt hi hn) hb
    rw [alF_wv hi hn] at this
    exact alF_to hc hi this

/-! ### assignments -/
/-- where an assignment leads -/
def toA (c : UInt8) (k : Nd) (i : Nat) : Nat := wv c i (val (envOf (stX i) (stY i) (stZ i) 0 0 0) k)
theorem valA_small (k : Nd) {i : Nat} (hi : i < 27) : small (val (envOf (stX i) (stY i) (stZ i) 0 0 0) k) :=
  val_small (fun c => envOf_small (stX_small i) (stY_small i) (stZ_small hi) sm0 sm0 sm0 c) k
theorem toA_lt {c : UInt8} {k : Nd} {i : Nat} (hi : i < 27) : toA c k i < 27 := wv_lt hi (valA_small k hi)
/-- the states before, the states after -/
def preF (c : UInt8) (k : Nd) (b : Nat → Bool) (i : Nat) : Bool := b (toA c k i)
def postF (c : UInt8) (k : Nd) (b : Nat → Bool) (j : Nat) : Bool := (List.range 27).any fun i => toA c k i == j && b i
theorem postF_iff {c : UInt8} {k : Nd} {b : Nat → Bool} {j : Nat} : postF c k b j = true ↔ ∃ i, i < 27 ∧ toA c k i = j ∧ b i = true := by
  simp only [postF, List.any_eq_true, List.mem_range, Bool.and_eq_true, beq_iff_eq]
theorem post_pre {c : UInt8} {k : Nd} {b d : Nat → Bool} : (∀ i, i < 27 → postF c k b i = true → d i = true) ↔ (∀ i, i < 27 → b i = true → preF c k d i = true) := by
  constructor
  · intro h i hi hb
    exact h _ (toA_lt hi) (postF_iff.2 ⟨i, hi, rfl, hb⟩)
  · intro h j hj hb
    obtain ⟨i, hi, rfl, hb2⟩ := postF_iff.1 hb
    exact h i hi hb2
theorem cnt_image {n m : Nat} (f : Nat → Nat) (b d : Nat → Bool) (h : ∀ j, j < m → d j = true → ∃ i, i < n ∧ f i = j ∧ b i = true) : cnt m d ≤ cnt n b := by
  induction n generalizing d with
  | zero =>
    rw [cnt_zero.2 (fun j hj => by
      cases hd : d j
      · rfl
      · obtain ⟨i, hi, _⟩ := h j hj hd; omega)]
    exact Nat.zero_le _
  | succ n ih =>
    rw [cnt_succ]
    cases hb : b n
    · have := ih d (fun j hj hd => by
        obtain ⟨i, hi, e, hbi⟩ := h j hj hd
        by_cases hin : i = n
        · subst hin; rw [hb] at hbi; cases hbi
        · exact ⟨i, by omega, e, hbi⟩)
      simpa using this
    · have h1 := ih (fun j => d j && !(j == f n)) (fun j hj hd => by
        simp only [Bool.and_eq_true, Bool.not_eq_true', beq_eq_false_iff_ne] at hd
        obtain ⟨i, hi, e, hbi⟩ := h j hj hd.1
        by_cases hin : i = n
        · subst hin; exact absurd e.symm hd.2
        · exact ⟨i, by omega, e, hbi⟩)
      have h2 : ∀ m, cnt m d ≤ cnt m (fun j => d j && !(j == f n)) + (if f n < m then 1 else 0) := by
        intro m
        induction m with
        | zero => simp [cnt]
        | succ m ih2 =>
          rw [cnt_succ, cnt_succ]
          by_cases e : m = f n
          · subst e
            have : ¬ (f n < f n) := by omega
            rw [if_neg this] at ih2
            have h3 : (d (f n) && !(f n == f n)) = false := by simp
            rw [h3]
            simp
            split <;> omega
          · have h3 : (d m && !(m == f n)) = d m := by
              have : (m == f n) = false := by simpa using e
              rw [this]; simp
            rw [h3]
            have : (if f n < m + 1 then 1 else 0) = (if f n < m then 1 else 0) := by
              by_cases h4 : f n < m
              · rw [if_pos h4, if_pos (by omega)]
              · rw [if_neg h4, if_neg (by omega)]
            rw [this]
            omega
      have h3 := h2 m
      have h4 : (if f n < m then 1 else 0) ≤ 1 := by split <;> omega
      simp only [if_true]
      omega
theorem post_cnt {c : UInt8} {k : Nd} {b : Nat → Bool} : cnt 27 (postF c k b) ≤ cnt 27 b :=
  cnt_image (toA c k) b _ (fun j _ h => postF_iff.1 h)
/-- the set of a test after putting an expression in place of a variable -/
theorem predOf_sub {c : UInt8} (hc : c ∈ nmsN) (hv : isV false c = true) {e k : Nd} (hk : ok false 1 k = true) : predOf (subN c e k) = bitsN 27 (preF c e (bt (predOf k))) := by
  unfold predOf
  refine bits_inj.2 fun i hi => ?_
  unfold preF
  rw [bt_bits (toA_lt hi)]
  unfold toA
  obtain ⟨e1, e2, e3⟩ := st_wv (c := c) hi (valA_small e hi)
  rw [e1, e2, e3, sub_tru hv hk, envOf_put_fun hc]
theorem dep_pred {k : Nd} {c : UInt8} (hc : c ∈ nmsN) (h : c ∉ k.text) : dep (fun i => tru (envOf (stX i) (stY i) (stZ i) 0 0 0) k) c = false := by
  refine dep_no.2 fun i hi n hn => ?_
  obtain ⟨e1, e2, e3⟩ := st_wv (c := c) hi hn
  rw [e1, e2, e3, tru_put hc h]
/-! ### how the program looks for what matters -/
def fdN (b : Nat → Bool) (c : UInt8) (m : Nat) : Bool := (List.range m).any fun k => b (k / 3) != b (wv c (k / 3) ((k % 3 : Nat) : Int))
theorem fdN_zero {b : Nat → Bool} {c : UInt8} : fdN b c 0 = false := rfl
theorem fdN_succ {b : Nat → Bool} {c : UInt8} {m : Nat} : fdN b c (m + 1) = (fdN b c m || (b (m / 3) != b (wv c (m / 3) ((m % 3 : Nat) : Int)))) := by
  unfold fdN
  rw [List.range_succ, List.any_append]
  simp
theorem fdN_all {b : Nat → Bool} {c : UInt8} : fdN b c 81 = dep b c := by
  rw [Bool.eq_iff_iff]
  constructor
  · intro h
    simp only [fdN, List.any_eq_true, List.mem_range, bne_iff_ne] at h
    obtain ⟨k, hk, hne⟩ := h
    exact dep_at (i := k / 3) (n := ((k % 3 : Nat) : Int)) (by omega) ⟨by omega, by omega⟩ hne
  · intro h
    obtain ⟨i, hi, hne⟩ := dep_yes.1 h
    simp only [fdN, List.any_eq_true, List.mem_range, bne_iff_ne]
    refine ⟨3 * i, by omega, ?_⟩
    rw [show 3 * i / 3 = i by omega, show 3 * i % 3 = 0 by omega]
    exact hne
def rdp (b : Nat → Bool) (c : UInt8) (m : Nat) : Bool := (List.range m).any fun i => b i != b (wv c i 0)
theorem rdp_succ {b : Nat → Bool} {c : UInt8} {m : Nat} : rdp b c (m + 1) = (rdp b c m || (b m != b (wv c m 0))) := by
  unfold rdp
  rw [List.range_succ, List.any_append]
  simp
theorem rdp_all {b : Nat → Bool} {c : UInt8} : rdp b c 27 = dep b c := rfl
end Pl
end Go.Proofs.YtccjmahhebiphaaDoor
