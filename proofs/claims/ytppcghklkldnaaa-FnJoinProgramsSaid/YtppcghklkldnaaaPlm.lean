/- Plain: programs in the usual form; their braces. -/
import Derived.Test.YtppcghklkldnaaaShw
import Derived.Test.YtppcghklkldnaaaPlk
namespace Go.Proofs.Ytppcghklkldnaaa
open Go.RowKit
open Pl

namespace Pl
def shP : Nd → List UInt8
  | .n0 _ => [115, 107, 105, 112]
  | .n1 _ t => [97, 115, 115, 117, 109, 101, 32] ++ shT t
  | .n2 o a b =>
    if o = 97 then a.text ++ [58, 61] ++ shE b
    else if o = 64 then [119, 104, 105, 108, 101, 32] ++ shT a ++ [32, 123] ++ shP b ++ [125]
    else if o = 59 then shP a ++ [59, 32] ++ shP b
    else [101, 105, 116, 104, 101, 114, 32, 123] ++ shP a ++ [125, 32, 111, 114, 32, 123] ++ shP b ++ [125]
  | .n3 _ t a b => [105, 102, 32] ++ shT t ++ [32, 123] ++ shP a ++ [125, 32, 101, 108, 115, 101, 32, 123] ++ shP b ++ [125]
theorem shP_len : ∀ k, (shP k).length ≤ 20 * k.text.length := by
  intro k
  induction k with
  | n0 c => simp [shP, Nd.text]
  | n1 o a ha => have := shT_len a; have := text_pos a; simp [shP, Nd.text]; omega
  | n2 o a b ha hb =>
    have h1 := shE_len b
    have h2 := shT_len a
    have h3 := text_pos a
    have h4 := text_pos b
    simp only [shP, Nd.text]
    repeat' split
    all_goals (simp only [List.length_append, List.length_cons, List.length_nil]; omega)
  | n3 o t a b ht ha hb =>
    have h1 := shT_len t
    have h3 := text_pos t
    simp only [shP, Nd.text, List.length_append, List.length_cons, List.length_nil]
    omega
theorem shP_ne (k : Nd) : shP k ≠ [] := by
  cases k with
  | n0 c => simp [shP]
  | n1 o a => simp [shP]
  | n2 o a b => simp only [shP]; repeat' split
                all_goals simp
  | n3 o t a b => simp [shP]
/-- as many braces are shut as opened, and nowhere more -/
def Bal (l : List UInt8) (n : Nat) : Prop := l.count 123 = n ∧ l.count 125 = n ∧ ∀ i, (l.take i).count 125 ≤ (l.take i).count 123
theorem bal_app {a b : List UInt8} {m n : Nat} (ha : Bal a m) (hb : Bal b n) : Bal (a ++ b) (m + n) := by
  refine ⟨by rw [List.count_append, ha.1, hb.1], by rw [List.count_append, ha.2.1, hb.2.1], fun i => ?_⟩
  rw [List.take_append, List.count_append, List.count_append]
  have := ha.2.2 i
  have := hb.2.2 (i - a.length)
  omega
theorem bal_none {l : List UInt8} (h : ∀ c ∈ l, c ≠ 123 ∧ c ≠ 125) : Bal l 0 := by
  have h1 : ∀ l' : List UInt8, (∀ c ∈ l', c ≠ 123 ∧ c ≠ 125) → l'.count 123 = 0 ∧ l'.count 125 = 0 := fun l' h' =>
    ⟨List.count_eq_zero.2 (fun hm => (h' _ hm).1 rfl), List.count_eq_zero.2 (fun hm => (h' _ hm).2 rfl)⟩
  refine ⟨(h1 l h).1, (h1 l h).2, fun i => ?_⟩
  rw [(h1 (l.take i) (fun c hc => h c (List.mem_of_mem_take hc))).2]
  exact Nat.zero_le _
theorem bal_wrap {l : List UInt8} {n : Nat} (h : Bal l n) : Bal ([123] ++ l ++ [125]) (n + 1) := by
  refine ⟨by simp [List.count_append, h.1], by simp [List.count_append, h.2.1], fun i => ?_⟩
  cases i with
  | zero => simp
  | succ i =>
    have h2 := h.2.2 i
    have h3 : ((l ++ [125]).take i).count 125 ≤ ((l ++ [125]).take i).count 123 + 1 := by
      rw [List.take_append, List.count_append, List.count_append]
      have : (([125] : List UInt8).take (i - l.length)).count 125 ≤ 1 := by
        cases i - l.length with
        | zero => simp
        | succ j => simp
      omega
    have e : ([123] ++ l ++ [125] : List UInt8).take (i + 1) = 123 :: (l ++ [125]).take i := by simp
    rw [e, List.count_cons, List.count_cons]
    simp
    omega
theorem vd_free {wd : Bool} {c : UInt8} (h : (isV wd c || isD c) = true) : c ≠ 123 ∧ c ≠ 125 := by
  constructor
  · rintro rfl; cases wd <;> exact absurd h (by decide)
  · rintro rfl; cases wd <;> exact absurd h (by decide)
theorem o_free {c : UInt8} (h : isO c = true) : c ≠ 123 ∧ c ≠ 125 := by
  rcases isO_cases h with rfl | rfl | rfl <;> decide
theorem shE_free {wd : Bool} : ∀ {k : Nd}, ok wd 0 k = true → ∀ c ∈ shE k, c ≠ 123 ∧ c ≠ 125 := by
  intro k
  induction k with
  | n0 c => intro h d hd; simp only [shE, List.mem_singleton] at hd; subst hd; simp only [ok] at h; exact vd_free h
  | n2 o a b ha hb =>
    intro h d hd
    simp only [ok, Bool.and_eq_true] at h
    simp only [shE, List.mem_cons, List.mem_append, List.not_mem_nil, or_false] at hd
    rcases hd with rfl | hd | rfl | hd | rfl
    · decide
    · exact ha h.2.1 d hd
    · exact o_free h.1
    · exact hb h.2.2 d hd
    · decide
  | n1 | n3 => intro h d hd; simp [ok] at h
theorem shT_free {wd : Bool} : ∀ {k : Nd}, ok wd 1 k = true → ∀ c ∈ shT k, c ≠ 123 ∧ c ≠ 125 := by
  intro k
  induction k with
  | n0 c =>
    intro h d hd
    simp only [shT] at hd
    split at hd <;> simp at hd <;> rcases hd with rfl | rfl | rfl | rfl | rfl <;> decide
  | n1 o a ha =>
    intro h d hd
    simp only [ok, Bool.and_eq_true] at h
    simp only [shT, List.mem_cons, List.mem_append, List.not_mem_nil, or_false] at hd
    rcases hd with rfl | rfl | hd | rfl
    · decide
    · decide
    · exact ha h.2 d hd
    · decide
  | n2 o a b ha hb =>
    intro h d hd
    simp only [ok, Bool.or_eq_true, Bool.and_eq_true, beq_iff_eq] at h
    rcases h with ⟨ho, h1, h2⟩ | ⟨ho, h1, h2⟩
    · have hc : (o == 61 || o == 60) = true := by rcases ho with rfl | rfl <;> rfl
      simp only [shT, hc, if_true, List.mem_cons, List.mem_append] at hd
      rcases hd with hd | rfl | hd
      · exact shE_free h1 d hd
      · rcases ho with rfl | rfl <;> decide
      · exact shE_free h2 d hd
    · have hc : (o == 61 || o == 60) = false := by rcases ho with rfl | rfl <;> rfl
      simp only [shT, hc, Bool.false_eq_true, if_false, List.mem_cons, List.mem_append, List.not_mem_nil, or_false] at hd
      rcases hd with rfl | hd | rfl | hd | rfl
      · decide
      · exact ha h1 d hd
      · rcases ho with rfl | rfl <;> decide
      · exact hb h2 d hd
      · decide
  | n3 => intro h; simp [ok] at h
/-- how many pairs of braces a text of a program asks for -/
def brN (l : List UInt8) : Nat := l.count 64 + 2 * (l.count 63 + l.count 47)
theorem brN_app (a b : List UInt8) : brN (a ++ b) = brN a + brN b := by simp only [brN, List.count_append]; omega
theorem brN_cons (c : UInt8) (b : List UInt8) : brN (c :: b) = brN [c] + brN b := brN_app [c] b
theorem brN_none {l : List UInt8} (h : ∀ c ∈ l, c ≠ 64 ∧ c ≠ 63 ∧ c ≠ 47) : brN l = 0 := by
  have a : l.count 64 = 0 := List.count_eq_zero.2 (fun hm => (h _ hm).1 rfl)
  have b : l.count 63 = 0 := List.count_eq_zero.2 (fun hm => (h _ hm).2.1 rfl)
  have c : l.count 47 = 0 := List.count_eq_zero.2 (fun hm => (h _ hm).2.2 rfl)
  simp [brN, a, b, c]
theorem text_free0 : ∀ {k : Nd}, ok false 0 k = true → ∀ c ∈ k.text, c ≠ 64 ∧ c ≠ 63 ∧ c ≠ 47 := by
  intro k
  induction k with
  | n0 c =>
    intro h d hd
    simp only [Nd.text, List.mem_singleton] at hd
    subst hd
    simp only [ok] at h
    refine ⟨?_, ?_, ?_⟩ <;> (rintro rfl; exact absurd h (by decide))
  | n2 o a b ha hb =>
    intro h d hd
    simp only [ok, Bool.and_eq_true] at h
    simp only [Nd.text, List.mem_cons, List.mem_append] at hd
    rcases hd with rfl | hd | hd
    · rcases isO_cases h.1 with rfl | rfl | rfl <;> decide
    · exact ha h.2.1 d hd
    · exact hb h.2.2 d hd
  | n1 | n3 => intro h; simp [ok] at h
theorem text_free1 : ∀ {k : Nd}, ok false 1 k = true → ∀ c ∈ k.text, c ≠ 64 ∧ c ≠ 63 ∧ c ≠ 47 := by
  intro k
  induction k with
  | n0 c =>
    intro h d hd
    simp only [Nd.text, List.mem_singleton] at hd
    subst hd
    simp only [ok, Bool.or_eq_true, beq_iff_eq] at h
    rcases h with rfl | rfl <;> decide
  | n1 o a ha =>
    intro h d hd
    simp only [ok, Bool.and_eq_true, beq_iff_eq] at h
    simp only [Nd.text, List.mem_cons] at hd
    rcases hd with rfl | hd
    · rw [h.1]; decide
    · exact ha h.2 d hd
  | n2 o a b ha hb =>
    intro h d hd
    simp only [ok, Bool.or_eq_true, Bool.and_eq_true, beq_iff_eq] at h
    simp only [Nd.text, List.mem_cons, List.mem_append] at hd
    rcases h with ⟨ho, h1, h2⟩ | ⟨ho, h1, h2⟩
    · rcases hd with rfl | hd | hd
      · rcases ho with rfl | rfl <;> decide
      · exact text_free0 h1 d hd
      · exact text_free0 h2 d hd
    · rcases hd with rfl | hd | hd
      · rcases ho with rfl | rfl <;> decide
      · exact ha h1 d hd
      · exact hb h2 d hd
  | n3 => intro h; simp [ok] at h
theorem shP_bal : ∀ {k : Nd}, ok false 2 k = true → Bal (shP k) (brN k.text) := by
  intro k
  induction k with
  | n0 c =>
    intro h
    simp only [ok, beq_iff_eq] at h
    subst h
    exact bal_none (by decide)
  | n1 o t _ =>
    intro h
    simp only [ok, Bool.and_eq_true, beq_iff_eq] at h
    obtain ⟨rfl, ht⟩ := h
    have e : brN (Nd.n1 126 t).text = 0 := by
      rw [Nd.text, brN_cons, brN_none (text_free1 ht)]; rfl
    rw [e]
    exact bal_none (by
      intro c hc
      simp only [shP, List.mem_append] at hc
      rcases hc with hc | hc
      · revert c; decide
      · exact shT_free ht c hc)
  | n2 o a b iha ihb =>
    intro h
    simp only [ok, Bool.or_eq_true, Bool.and_eq_true, beq_iff_eq] at h
    rcases h with (⟨rfl, ha, hb⟩ | ⟨ho, ha, hb⟩) | ⟨rfl, ha, hb⟩
    · have ha0 : ok false 0 a = true := by cases a <;> simp [leaf] at ha; simp [ok, ha]
      have e : brN (Nd.n2 97 a b).text = 0 := by
        rw [Nd.text, brN_cons, brN_app, brN_none (text_free0 ha0), brN_none (text_free0 hb)]; rfl
      rw [e]
      have fa : ∀ c ∈ a.text, c ≠ 123 ∧ c ≠ 125 := by
        cases a <;> simp [leaf] at ha
        intro c hc
        simp only [Nd.text, List.mem_singleton] at hc
        subst hc
        exact vd_free (wd := false) (by simp [ha])
      exact bal_none (by
        intro c hc
        simp only [shP, if_true, List.mem_append] at hc
        rcases hc with (hc | hc) | hc
        · exact fa c hc
        · revert c; decide
        · exact shE_free hb c hc)
    · have A := iha ha
      have B := ihb hb
      rw [Nd.text, brN_cons, brN_app]
      rcases ho with rfl | rfl
      · have := bal_app (bal_app A (bal_none (l := [59, 32]) (by decide))) B
        have e : shP (.n2 59 a b) = shP a ++ [59, 32] ++ shP b := by simp [shP]
        rw [e]
        have e2 : brN [59] + (brN a.text + brN b.text) = brN a.text + 0 + brN b.text := by simp [brN]
        rw [e2]
        exact this
      · have := bal_app (bal_app (bal_app (bal_none (l := [101, 105, 116, 104, 101, 114, 32]) (by decide)) (bal_wrap A)) (bal_none (l := [32, 111, 114, 32]) (by decide))) (bal_wrap B)
        have e : shP (.n2 47 a b) = [101, 105, 116, 104, 101, 114, 32] ++ ([123] ++ shP a ++ [125]) ++ [32, 111, 114, 32] ++ ([123] ++ shP b ++ [125]) := by simp [shP]
        rw [e]
        have e2 : brN [47] + (brN a.text + brN b.text) = 0 + (brN a.text + 1) + 0 + (brN b.text + 1) := by
          have : brN [47] = 2 := rfl
          omega
        rw [e2]
        exact this
    · have B := ihb hb
      rw [Nd.text, brN_cons, brN_app, brN_none (text_free1 ha)]
      have := bal_app (bal_app (bal_none (l := [119, 104, 105, 108, 101, 32] ++ shT a) (by
        intro c hc
        simp only [List.mem_append] at hc
        rcases hc with hc | hc
        · revert c; decide
        · exact shT_free ha c hc)) (bal_none (l := [32]) (by decide))) (bal_wrap B)
      have e : shP (.n2 64 a b) = [119, 104, 105, 108, 101, 32] ++ shT a ++ [32] ++ ([123] ++ shP b ++ [125]) := by simp [shP]
      rw [e]
      have e2 : brN [64] + (0 + brN b.text) = 0 + 0 + (brN b.text + 1) := by
        have : brN [64] = 1 := rfl
        omega
      rw [e2]
      exact this
  | n3 o t a b _ iha ihb =>
    intro h
    simp only [ok, Bool.and_eq_true, beq_iff_eq] at h
    obtain ⟨rfl, ht, ha, hb⟩ := h
    have A := iha ha
    have B := ihb hb
    rw [Nd.text, brN_cons, brN_app, brN_app, brN_none (text_free1 ht)]
    have := bal_app (bal_app (bal_app (bal_none (l := [105, 102, 32] ++ shT t ++ [32]) (by
      intro c hc
      simp only [List.mem_append] at hc
      rcases hc with (hc | hc) | hc
      · revert c; decide
      · exact shT_free ht c hc
      · revert c; decide)) (bal_wrap A)) (bal_none (l := [32, 101, 108, 115, 101, 32]) (by decide))) (bal_wrap B)
    have e : shP (.n3 63 t a b) = [105, 102, 32] ++ shT t ++ [32] ++ ([123] ++ shP a ++ [125]) ++ [32, 101, 108, 115, 101, 32] ++ ([123] ++ shP b ++ [125]) := by simp [shP]
    rw [e]
    have e2 : brN [63] + (0 + (brN a.text + brN b.text)) = 0 + (brN a.text + 1) + 0 + (brN b.text + 1) := by
      have : brN [63] = 2 := rfl
      omega
    rw [e2]
    exact this
end Pl
end Go.Proofs.Ytppcghklkldnaaa
