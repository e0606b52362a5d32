/- Plain: the statements of a program, each before its parts; its depth; what it reads and writes. -/
import Derived.Test.YtppcghklkldnaaaPlj
import Derived.Test.YtppcghklkldnaaaPle
namespace Go.Proofs.Ytppcghklkldnaaa
namespace Pl

/-- all statements of a program, each before its parts -/
def stm : Nd → List Nd
  | .n0 o => [.n0 o]
  | .n1 o a => [.n1 o a]
  | .n2 o a b => .n2 o a b :: (if o = 97 then [] else if o = 64 then stm b else stm a ++ stm b)
  | .n3 o t a b => .n3 o t a b :: (stm a ++ stm b)
def stmL : List Nd → List Nd
  | [] => []
  | k :: r => stm k ++ stmL r
theorem stm_eq (k : Nd) : stm k = k :: stmL (prt k) := by
  cases k with
  | n0 o => rfl
  | n1 o a => rfl
  | n2 o a b =>
    by_cases h1 : o = 97
    · simp [stm, prt, stmL, h1]
    · by_cases h2 : o = 64
      · subst h2; simp [stm, prt, stmL]
      · simp [stm, prt, stmL, h1, h2]
  | n3 o t a b => simp [stm, prt, stmL]
theorem stmL_append (a b : List Nd) : stmL (a ++ b) = stmL a ++ stmL b := by
  induction a with
  | nil => rfl
  | cons x a ih => simp [stmL, ih]
theorem stm_len : ∀ k : Nd, (stm k).length ≤ k.text.length := by
  intro k
  induction k with
  | n0 o => exact Nat.le_refl _
  | n1 o a => simp [stm, Nd.text]
  | n2 o a b iha ihb =>
    simp only [stm, Nd.text, List.length_cons, List.length_append]
    repeat' split
    all_goals ((try simp only [List.length_nil, List.length_append]); omega)
  | n3 o t a b _ iha ihb => simp only [stm, Nd.text, List.length_cons, List.length_append]; omega
theorem stm_pos (k : Nd) : 0 < (stm k).length := by rw [stm_eq]; simp
theorem stm_ok {wd : Bool} : ∀ {k : Nd}, ok wd 2 k = true → ∀ x ∈ stm k, ok wd 2 x = true := by
  intro k
  induction k with
  | n0 o => intro h x hx; simp [stm] at hx; subst hx; exact h
  | n1 o a => intro h x hx; simp [stm] at hx; subst hx; exact h
  | n2 o a b iha ihb =>
    intro h x hx
    rw [stm_eq] at hx
    rcases List.mem_cons.1 hx with rfl | hx
    · exact h
    · have hp := prt_ok h
      simp only [prt] at hp hx
      by_cases h1 : o = 97
      · simp [h1, stmL] at hx
      · by_cases h2 : o = 64
        · simp [h2, stmL] at hp hx
          exact ihb hp x hx
        · simp [h1, h2, stmL] at hp hx
          rcases hx with hx | hx
          · exact iha hp.1 x hx
          · exact ihb hp.2 x hx
  | n3 o t a b _ iha ihb =>
    intro h x hx
    have hp := prt_ok h
    simp [stm, prt] at hp hx
    rcases hx with rfl | hx | hx
    · exact h
    · exact iha hp.1 x hx
    · exact ihb hp.2 x hx
/-- how deep statements are nested -/
def depN : Nd → Nat
  | .n0 _ => 1
  | .n1 _ _ => 1
  | .n2 o a b => (if o = 97 then 0 else if o = 64 then depN b else max (depN a) (depN b)) + 1
  | .n3 _ _ a b => max (depN a) (depN b) + 1
def depL : List Nd → Nat
  | [] => 0
  | k :: r => max (depN k) (depL r)
theorem dep_eq (k : Nd) : depN k = depL (prt k) + 1 := by
  cases k with
  | n0 o => rfl
  | n1 o a => rfl
  | n2 o a b =>
    by_cases h1 : o = 97
    · simp [depN, prt, depL, h1]
    · by_cases h2 : o = 64
      · subst h2; simp [depN, prt, depL]
      · simp [depN, prt, depL, h1, h2]
  | n3 o t a b => simp [depN, prt, depL]
theorem depL_snoc (a : List Nd) (k : Nd) : depL (a ++ [k]) = max (depL a) (depN k) := by
  induction a with
  | nil => simp [depL]
  | cons x a ih => simp [depL, ih, Nat.max_assoc]
theorem dep_le : ∀ k : Nd, depN k ≤ (stm k).length := by
  intro k
  induction k with
  | n0 o => exact Nat.le_refl _
  | n1 o a => exact Nat.le_refl _
  | n2 o a b iha ihb =>
    simp only [stm, depN, List.length_cons]
    repeat' split
    all_goals ((try simp only [List.length_nil, List.length_append]); omega)
  | n3 o t a b _ iha ihb => simp only [stm, depN, List.length_cons, List.length_append]; omega
theorem dep_pos (k : Nd) : 1 ≤ depN k := by rw [dep_eq]; omega
theorem dep_len (k : Nd) : depN k ≤ k.text.length := Nat.le_trans (dep_le k) (stm_len k)
/-- how many statements have one of some first letters -/
def cntN (f : UInt8 → Bool) : List Nd → Nat
  | [] => 0
  | k :: r => (if f k.op then 1 else 0) + cntN f r
theorem cntN_append (f : UInt8 → Bool) (a b : List Nd) : cntN f (a ++ b) = cntN f a + cntN f b := by
  induction a with
  | nil => simp [cntN]
  | cons x a ih => simp only [List.cons_append, cntN, ih]; omega
theorem cntN_le (f : UInt8 → Bool) (a : List Nd) : cntN f a ≤ a.length := by
  induction a with
  | nil => exact Nat.le_refl _
  | cons x a ih => simp only [cntN, List.length_cons]; split <;> omega
theorem cntN_zero {f : UInt8 → Bool} {a : List Nd} : cntN f a = 0 ↔ ∀ x ∈ a, f x.op = false := by
  induction a with
  | nil => simp [cntN]
  | cons x a ih =>
    simp only [cntN, List.mem_cons, forall_eq_or_imp]
    rw [← ih]
    cases f x.op <;> simp
/-- the text that a statement itself reads, and the letter that it writes -/
def rdsN (k : Nd) : List UInt8 := if k.op = 97 then (headN k).drop 1 else headN k
def wrsN (k : Nd) : List UInt8 := if k.op = 97 then (headN k).take 1 else []
def catN (f : Nd → List UInt8) : List Nd → List UInt8
  | [] => []
  | k :: r => f k ++ catN f r
theorem catN_append (f : Nd → List UInt8) (a b : List Nd) : catN f (a ++ b) = catN f a ++ catN f b := by
  induction a with
  | nil => rfl
  | cons x a ih => simp [catN, ih]
theorem mem_catN {f : Nd → List UInt8} {c : UInt8} {a : List Nd} : c ∈ catN f a ↔ ∃ x ∈ a, c ∈ f x := by
  induction a with
  | nil => simp [catN]
  | cons x a ih => simp [catN, ih]
theorem headN_le (k : Nd) : (headN k).length + 1 ≤ k.text.length := by
  have := hd_le k
  rw [hd_head] at this
  omega
theorem rds_le (k : Nd) : (rdsN k).length ≤ k.text.length := by
  have := headN_le k
  unfold rdsN
  split
  · rw [List.length_drop]; omega
  · omega
theorem wrs_le (k : Nd) : (wrsN k).length ≤ 1 := by
  unfold wrsN
  split
  · rw [List.length_take]; omega
  · simp
/-- the texts of the statements' own heads take no more than the whole -/
theorem cat_stm {f : Nd → List UInt8} (hf : ∀ k, (f k).length ≤ (headN k).length) : ∀ k : Nd, (catN f (stm k)).length ≤ k.text.length := by
  intro k
  induction k with
  | n0 o => have := hf (.n0 o); simp [stm, catN, headN] at this ⊢; rw [this]; simp [Nd.text]
  | n1 o a => have := hf (.n1 o a); simp [stm, catN, headN, Nd.text] at this ⊢; omega
  | n2 o a b iha ihb =>
    have h0 := hf (.n2 o a b)
    simp only [stm, catN, Nd.text, List.length_cons, List.length_append]
    by_cases h1 : o = 97
    · simp only [headN, if_pos h1, List.length_append] at h0
      simp only [if_pos h1, catN, List.length_nil]
      omega
    · by_cases h2 : o = 64
      · simp only [headN, if_neg h1, if_pos h2] at h0
        simp only [if_neg h1, if_pos h2]
        omega
      · simp only [headN, if_neg h1, if_neg h2, List.length_nil] at h0
        simp only [if_neg h1, if_neg h2, catN_append, List.length_append]
        omega
  | n3 o t a b _ iha ihb =>
    have h0 := hf (.n3 o t a b)
    simp only [stm, catN, headN, Nd.text, List.length_cons, List.length_append, catN_append] at h0 ⊢
    omega
theorem rds_head (k : Nd) : (rdsN k).length ≤ (headN k).length := by
  unfold rdsN
  split
  · rw [List.length_drop]; omega
  · exact Nat.le_refl _
theorem wrs_head (k : Nd) : (wrsN k).length ≤ (headN k).length := by
  unfold wrsN
  split
  · rw [List.length_take]; omega
  · simp
/-- the first letter of a program's text -/
theorem text_head (k : Nd) : ∃ r, k.text = k.op :: r := by cases k <;> exact ⟨_, rfl⟩
theorem mem_vars_cat {f : Nd → List UInt8} {k : Nd} {c : UInt8} : c ∈ catN f (stm k) ↔ c ∈ f k ∨ ∃ x ∈ prt k, c ∈ catN f (stm x) := by
  have key : ∀ ps : List Nd, c ∈ catN f (stmL ps) ↔ ∃ x ∈ ps, c ∈ catN f (stm x) := by
    intro ps
    induction ps with
    | nil => simp [stmL, catN]
    | cons y ps ih => rw [stmL, catN_append, List.mem_append, ih]; simp
  rw [stm_eq, catN, List.mem_append, key]
end Pl
end Go.Proofs.Ytppcghklkldnaaa
