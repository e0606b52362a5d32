/- Plain: tests are built of tests. -/
import Derived.Test.YtcdcgllodggebaaPlb
namespace Go.Proofs.Ytcdcgllodggebaa
namespace Pl

/-! ### tests are built of tests -/
theorem ok1_head {k : Nd} (h : ok false 1 k = true) : (∃ c, k = .n0 c ∧ (c = 116 ∨ c = 102)) ∨ (∃ a, k = .n1 33 a ∧ ok false 1 a = true) ∨ (∃ o a b, k = .n2 o a b ∧ (o = 61 ∨ o = 60) ∧ ok false 0 a = true ∧ ok false 0 b = true) ∨ (∃ o a b, k = .n2 o a b ∧ (o = 38 ∨ o = 124) ∧ ok false 1 a = true ∧ ok false 1 b = true) := by
  cases k with
  | n0 c => simp only [ok, Bool.or_eq_true, beq_iff_eq] at h; exact .inl ⟨c, rfl, h⟩
  | n1 o a => simp only [ok, Bool.and_eq_true, beq_iff_eq] at h; obtain ⟨rfl, h⟩ := h; exact .inr (.inl ⟨a, rfl, h⟩)
  | n2 o a b =>
    simp only [ok, Bool.or_eq_true, Bool.and_eq_true, beq_iff_eq] at h
    rcases h with ⟨h1, h2, h3⟩ | ⟨h1, h2, h3⟩
    · exact .inr (.inr (.inl ⟨o, a, b, rfl, h1, h2, h3⟩))
    · exact .inr (.inr (.inr ⟨o, a, b, rfl, h1, h2, h3⟩))
  | n3 => simp [ok] at h
theorem whole_some {so most : Nat} (hs : so ≤ 2) {l : List UInt8} : (whole false so most l).isSome = true ↔ ∃ k, l.length ≤ most ∧ ok false so k = true ∧ l = k.text := by
  rw [Option.isSome_iff_exists]
  simp only [whole_iff hs]
theorem whole_not {l : List UInt8} (hl : l.length ≤ 90) : (whole false 1 200 (33 :: l)).isSome = (whole false 1 200 l).isSome := by
  rw [Bool.eq_iff_iff, whole_some (by omega), whole_some (by omega)]
  constructor
  · rintro ⟨k, _, h, e⟩
    rcases ok1_head h with ⟨c, rfl, hc⟩ | ⟨a, rfl, ha⟩ | ⟨o, a, b, rfl, ho, _⟩ | ⟨o, a, b, rfl, ho, _⟩
    · simp only [Nd.text, List.cons.injEq] at e; rcases hc with rfl | rfl <;> exact absurd e.1 (by decide)
    · simp only [Nd.text, List.cons.injEq] at e; exact ⟨a, by omega, ha, e.2⟩
    · simp only [Nd.text, List.cons.injEq] at e; rcases ho with rfl | rfl <;> exact absurd e.1 (by decide)
    · simp only [Nd.text, List.cons.injEq] at e; rcases ho with rfl | rfl <;> exact absurd e.1 (by decide)
  · rintro ⟨k, _, h, rfl⟩
    exact ⟨.n1 33 k, by simp; omega, by simp [ok, h], rfl⟩
theorem whole_con {o c : UInt8} (ho : o = 38 ∨ o = 124) (hc : c = 116 ∨ c = 102) {l : List UInt8} (hl : l.length ≤ 90) : (whole false 1 200 (o :: c :: l)).isSome = (whole false 1 200 l).isSome := by
  have hcok : ok false 1 (.n0 c) = true := by rcases hc with rfl | rfl <;> rfl
  rw [Bool.eq_iff_iff, whole_some (by omega), whole_some (by omega)]
  constructor
  · rintro ⟨k, _, h, e⟩
    rcases ok1_head h with ⟨c', rfl, hc'⟩ | ⟨a, rfl, ha⟩ | ⟨o', a, b, rfl, ho', _⟩ | ⟨o', a, b, rfl, ho', ha, hb⟩
    · simp [Nd.text] at e
    · simp only [Nd.text, List.cons.injEq] at e; rcases ho with rfl | rfl <;> exact absurd e.1 (by decide)
    · simp only [Nd.text, List.cons.injEq] at e; obtain ⟨rfl, _⟩ := e; rcases ho with rfl | rfl <;> rcases ho' with h | h <;> exact absurd h (by decide)
    · simp only [Nd.text, List.cons.injEq] at e
      have e2 : (Nd.n0 c).text ++ l = a.text ++ b.text := by simpa [Nd.text] using e.2
      obtain ⟨_, rfl⟩ := text_inj hcok ha e2
      exact ⟨b, by omega, hb, rfl⟩
  · rintro ⟨k, _, h, rfl⟩
    refine ⟨.n2 o (.n0 c) k, by simp; omega, ?_, by simp [Nd.text]⟩
    simp only [ok, Bool.or_eq_true, Bool.and_eq_true, beq_iff_eq]
    exact .inr ⟨ho, by rcases hc with rfl | rfl <;> simp, h⟩
theorem test_no_expr {l : List UInt8} (h : (whole false 1 200 l).isSome = true) : (whole false 0 200 l).isSome = false := by
  cases hx : (whole false 0 200 l).isSome
  · rfl
  · obtain ⟨k, _, hk, rfl⟩ := (whole_some (by omega)).1 h
    obtain ⟨k', _, hk', e⟩ := (whole_some (by omega)).1 hx
    exfalso
    have hop : k.text.head? = k'.text.head? := by rw [e]
    have h0 : ∃ c, k'.text.head? = some c ∧ (isV false c || isD c || isO c) = true := by
      cases k' with
      | n0 c => exact ⟨c, rfl, by simp only [ok] at hk'; simp [hk']⟩
      | n2 o a b => simp only [ok, Bool.and_eq_true] at hk'; exact ⟨o, rfl, by simp [hk'.1]⟩
      | n1 | n3 => simp [ok] at hk'
    obtain ⟨c, hc1, hc2⟩ := h0
    rw [hc1] at hop
    rcases ok1_head hk with ⟨x, rfl, hy⟩ | ⟨a, rfl, _⟩ | ⟨o, a, b, rfl, ho, _⟩ | ⟨o, a, b, rfl, ho, _⟩
    · simp only [Nd.text, List.head?_cons, Option.some.injEq] at hop; subst hop; rcases hy with rfl | rfl <;> exact absurd hc2 (by decide)
    · simp only [Nd.text, List.head?_cons, Option.some.injEq] at hop; subst hop; exact absurd hc2 (by decide)
    · simp only [Nd.text, List.head?_cons, Option.some.injEq] at hop; subst hop; rcases ho with rfl | rfl <;> exact absurd hc2 (by decide)
    · simp only [Nd.text, List.head?_cons, Option.some.injEq] at hop; subst hop; rcases ho with rfl | rfl <;> exact absurd hc2 (by decide)

end Pl
end Go.Proofs.Ytcdcgllodggebaa
