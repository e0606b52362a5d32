/- Plain: texts of states, texts of bits, and what is counted, joined and found in them. -/
import Derived.Test.YtppcghklkldnaaaPli
import Derived.Test.YtppcghklkldnaaaPlb
namespace Go.Proofs.Ytppcghklkldnaaa
namespace Pl

/-! ### texts of states -/
def tx3 (x y z : Int) : List UInt8 := [digOf x, digOf y, digOf z]
def stT (i : Nat) : List UInt8 := tx3 (stX i) (stY i) (stZ i)
theorem digOf_inj {a b : Int} (ha : small a) (hb : small b) (h : digOf a = digOf b) : a = b := by
  have h1 := (digOf_D ha).2
  have h2 := (digOf_D hb).2
  rw [h] at h1
  omega
theorem tx3_inj {x y z x' y' z' : Int} (hx : small x) (hy : small y) (hz : small z) (hx' : small x') (hy' : small y') (hz' : small z') (h : tx3 x y z = tx3 x' y' z') : x = x' ∧ y = y' ∧ z = z' := by
  simp only [tx3, List.cons.injEq, and_true] at h
  exact ⟨digOf_inj hx hx' h.1, digOf_inj hy hy' h.2.1, digOf_inj hz hz' h.2.2⟩
theorem st_num (i : Nat) : stX i + 3 * stY i + 9 * stZ i = (i : Int) := by unfold stX stY stZ; omega
theorem stT_inj {i j : Nat} (hi : i < 27) (hj : j < 27) (h : stT i = stT j) : i = j := by
  obtain ⟨h1, h2, h3⟩ := tx3_inj (stX_small i) (stY_small i) (stZ_small hi) (stX_small j) (stY_small j) (stZ_small hj) h
  have := st_num i
  have := st_num j
  omega
theorem stT_len (i : Nat) : (stT i).length = 3 := rfl
/-- the state of a text -/
def psN (l : List UInt8) : Option Nat := (List.range 27).find? (fun i => stT i == l)
theorem psN_some {l : List UInt8} {i : Nat} (h : psN l = some i) : i < 27 ∧ stT i = l := by
  have h1 := List.find?_some h
  have h2 := List.mem_of_find?_eq_some h
  exact ⟨by simpa using h2, by simpa using h1⟩
theorem psN_none {l : List UInt8} (h : psN l = none) : ∀ i, i < 27 → stT i ≠ l := by
  intro i hi e
  have := List.find?_eq_none.1 h i (by simpa using hi)
  simp [e] at this
theorem psN_at {l : List UInt8} {i : Nat} (hi : i < 27) (h : stT i = l) : psN l = some i := by
  cases hp : psN l with
  | none => exact absurd h (psN_none hp i hi)
  | some j =>
    obtain ⟨hj, e⟩ := psN_some hp
    rw [stT_inj hi hj (h.trans e.symm)]
theorem psN_no {l : List UInt8} (h : ∀ i, i < 27 → stT i ≠ l) : psN l = none := by
  cases hp : psN l with
  | none => rfl
  | some j => obtain ⟨hj, e⟩ := psN_some hp; exact absurd e (h j hj)

/-! ### texts of bits -/
def bOk (n : Nat) (l : List UInt8) : Bool := l.length == n && l.all (fun c => c == 48 || c == 49)
def bt (l : List UInt8) (i : Nat) : Bool := l.getD i 0 == 49
theorem bOk_len {n : Nat} {l : List UInt8} (h : bOk n l = true) : l.length = n := by simp [bOk] at h; exact h.1
theorem bOk_get {n : Nat} {l : List UInt8} (h : bOk n l = true) {i : Nat} (hi : i < l.length) : l[i] = bitC (bt l i) := by
  simp only [bOk, Bool.and_eq_true, List.all_eq_true] at h
  have := h.2 l[i] (List.getElem_mem hi)
  simp only [Bool.or_eq_true, beq_iff_eq] at this
  have e : l.getD i 0 = l[i] := by simp [List.getD_eq_getElem?_getD, hi]
  unfold bt bitC
  rw [e]
  rcases this with h | h <;> simp [h]
theorem bits_ok (n : Nat) (f : Nat → Bool) : bOk n (bitsN n f) = true := by
  simp only [bOk, bits_len, beq_self_eq_true, Bool.true_and, List.all_eq_true]
  intro c hc
  simp only [bitsN, List.mem_map] at hc
  obtain ⟨i, _, rfl⟩ := hc
  cases f i <;> rfl
theorem bt_bits {n : Nat} {f : Nat → Bool} {i : Nat} (h : i < n) : bt (bitsN n f) i = f i := by
  have hl : i < (bitsN n f).length := by rw [bits_len]; exact h
  have e : (bitsN n f).getD i 0 = bitC (f i) := by
    rw [List.getD_eq_getElem?_getD, List.getElem?_eq_getElem hl, Option.getD_some, bits_get hl]
  unfold bt
  rw [e]
  cases f i <;> rfl
theorem bits_of {n : Nat} {l : List UInt8} (h : bOk n l = true) : bitsN n (bt l) = l := by
  apply List.ext_getElem
  · rw [bits_len, bOk_len h]
  · intro i h1 h2
    rw [bits_get h1, bOk_get h h2]
theorem bits_inj {n : Nat} {f g : Nat → Bool} : bitsN n f = bitsN n g ↔ ∀ i, i < n → f i = g i := by
  constructor
  · intro h i hi
    rw [← bt_bits (f := f) hi, h, bt_bits hi]
  · exact bits_congr
/-- how many there are -/
def cnt (n : Nat) (f : Nat → Bool) : Nat := (List.range n).countP f
theorem cnt_bits (n : Nat) (f : Nat → Bool) : (bitsN n f).count 49 = cnt n f := by
  unfold bitsN cnt
  rw [List.count, List.countP_map]
  apply List.countP_congr
  intro i _
  simp only [Function.comp_apply]
  cases f i <;> simp [bitC]
theorem cnt_le (n : Nat) (f : Nat → Bool) : cnt n f ≤ n := by
  have := List.countP_le_length (p := f) (l := List.range n)
  simpa [cnt] using this
theorem cnt_zero {n : Nat} {f : Nat → Bool} : cnt n f = 0 ↔ ∀ i, i < n → f i = false := by
  simp [cnt, List.countP_eq_zero]
theorem cnt_and_or (n : Nat) (f g : Nat → Bool) : cnt n (fun i => f i && g i) + cnt n (fun i => f i || g i) = cnt n f + cnt n g := by
  unfold cnt
  induction List.range n with
  | nil => rfl
  | cons i l ih =>
    simp only [List.countP_cons]
    cases f i <;> cases g i <;> simp <;> omega
theorem cnt_succ (n : Nat) (f : Nat → Bool) : cnt (n + 1) f = cnt n f + (if f n then 1 else 0) := by
  simp [cnt, List.range_succ, List.countP_append, List.countP_cons, List.countP_nil]
theorem count_le49 (l : List UInt8) : l.count 49 ≤ l.length := List.count_le_length
/-- the first one -/
theorem fnd_bits {n : Nat} {f : Nat → Bool} : (fnd (bitsN n f) 49 < 0 ↔ cnt n f = 0) := by
  rw [← cnt_bits, List.count_eq_zero, ← Int.not_le, fnd_mem]
theorem fnd_at {l : List UInt8} {c : UInt8} (h : 0 ≤ fnd l c) : ∃ k : Nat, fnd l c = k ∧ ∃ hk : k < l.length, l[k] = c ∧ ∀ j (hj : j < k), l[j]'(by omega) ≠ c := by
  have hm := fnd_mem.1 h
  obtain ⟨n, hn, e⟩ := List.getElem_of_mem hm
  -- the least index
  have : ∃ k, ∃ hk : k < l.length, l[k] = c ∧ ∀ j (hj : j < k), l[j]'(by omega) ≠ c := by
    induction n using Nat.strongRecOn with
    | _ n ih =>
      by_cases hx : ∃ j, ∃ hj : j < n, l[j]'(by omega) = c
      · obtain ⟨j, hj, e2⟩ := hx
        exact ih j hj (by omega) e2
      · exact ⟨n, hn, e, fun j hj e2 => hx ⟨j, hj, e2⟩⟩
  obtain ⟨k, hk, e1, e2⟩ := this
  exact ⟨k, fnd_found hk e1 e2, hk, e1, e2⟩

/-! ### joined texts -/
def jn : List Nat → List UInt8
  | [] => []
  | [a] => stT a
  | a :: b :: r => stT a ++ 32 :: jn (b :: r)
theorem jn_snoc {js : List Nat} (h : js ≠ []) (j : Nat) : jn (js ++ [j]) = jn js ++ 32 :: stT j := by
  induction js with
  | nil => exact absurd rfl h
  | cons a js ih =>
    cases js with
    | nil => simp [jn]
    | cons b r =>
      have := ih (by simp)
      simp only [List.cons_append] at this ⊢
      rw [jn, this, jn]
      simp
theorem jn_len {js : List Nat} (h : js ≠ []) : (jn js).length + 1 = 4 * js.length := by
  induction js with
  | nil => exact absurd rfl h
  | cons a js ih =>
    cases js with
    | nil => simp [jn, stT_len]
    | cons b r =>
      have := ih (by simp)
      simp only [jn, List.length_append, List.length_cons, stT_len] at this ⊢
      omega
theorem jn_ne {js : List Nat} (h : js ≠ []) : jn js ≠ [] := by
  intro e
  have := jn_len h
  rw [e] at this
  cases js with
  | nil => exact h rfl
  | cons a js => simp at this; omega
theorem jn_dash (js : List Nat) : jn js ≠ [45] := by
  intro e
  cases js with
  | nil => simp [jn] at e
  | cons a js =>
    have := jn_len (js := a :: js) (by simp)
    rw [e] at this
    simp at this
    omega
theorem jn_at : ∀ {js : List Nat} {i : Nat} (h : i < js.length), ((jn js).drop (4 * i)).take 3 = stT js[i]
  | [a], i, h => by
    obtain rfl : i = 0 := by simp at h; omega
    simp [jn]
    exact List.take_of_length_le (by rw [stT_len]; exact Nat.le_refl _)
  | a :: b :: r, 0, _ => by
    simp only [jn, Nat.mul_zero, List.drop_zero, List.getElem_cons_zero]
    rw [List.take_append_of_le_length (by rw [stT_len]; exact Nat.le_refl _)]
    exact List.take_of_length_le (by rw [stT_len]; exact Nat.le_refl _)
  | a :: b :: r, i + 1, h => by
    have := jn_at (js := b :: r) (i := i) (by simpa using h)
    simp only [jn, List.getElem_cons_succ]
    rw [show 4 * (i + 1) = (stT a ++ [32]).length + 4 * i by simp [stT_len]; omega, show stT a ++ 32 :: jn (b :: r) = (stT a ++ [32]) ++ jn (b :: r) by simp, ← List.drop_drop, List.drop_left]
    exact this
/-- the states of a set, in order -/
def ones (l : List UInt8) (n : Nat) : List Nat := (List.range n).filter (bt l)
theorem ones_succ (l : List UInt8) (n : Nat) : ones l (n + 1) = ones l n ++ (if bt l n then [n] else []) := by
  unfold ones
  rw [List.range_succ, List.filter_append]
  congr 1
  cases h : bt l n <;> simp [h]
theorem ones_zero (l : List UInt8) : ones l 0 = [] := rfl
theorem ones_len (l : List UInt8) (n : Nat) : (ones l n).length = cnt n (bt l) := by
  unfold ones cnt
  rw [List.countP_eq_length_filter]
theorem mem_ones {l : List UInt8} {n j : Nat} : j ∈ ones l n ↔ j < n ∧ bt l j = true := by simp [ones]
theorem ones_sorted (l : List UInt8) (n : Nat) : (ones l n).Pairwise (· < ·) := List.Pairwise.filter _ List.pairwise_lt_range
/-- the text of a set -/
def fmtS (l : List UInt8) : List UInt8 := if bOk 27 l then (if ones l 27 = [] then [45] else jn (ones l 27)) else []

end Pl
end Go.Proofs.Ytppcghklkldnaaa
