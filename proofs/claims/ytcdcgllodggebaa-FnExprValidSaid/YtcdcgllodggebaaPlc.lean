/- Plain: a text is an expression exactly if its operands are one more than its operators, and at no earlier place. -/
import Derived.Test.YtcdcgllodggebaaPlb
namespace Go.Proofs.Ytcdcgllodggebaa
namespace Pl

/-- so many operands are still open -/
def chk : List UInt8 → Int → Bool
  | [], o => o == 0
  | c :: r, o => decide (0 < o) && (if isO c then chk r (o + 1) else (isV false c || isD c) && chk r (o - 1))

def flat : List Nd → List UInt8
  | [] => []
  | k :: ks => k.text ++ flat ks

theorem chk_text : ∀ (k : Nd) (r : List UInt8) (o : Int), ok false 0 k = true → 0 < o → chk (k.text ++ r) o = chk r (o - 1) := by
  intro k
  induction k with
  | n0 c =>
    intro r o hk ho
    simp only [ok] at hk
    have : isO c = false := by
      cases h : isO c
      · rfl
      · rcases isO_cases h with rfl | rfl | rfl <;> exact absurd hk (by decide)
    simp [Nd.text, chk, ho, this, hk]
  | n2 c a b iha ihb =>
    intro r o hk ho
    simp only [ok, Bool.and_eq_true] at hk
    simp only [Nd.text, List.cons_append, List.append_assoc, chk, ho, decide_true, Bool.true_and, hk.1, if_true]
    rw [iha _ _ hk.2.1 (by omega), ihb _ _ hk.2.2 (by omega)]
    congr 1
    omega
  | n1 | n3 => intro r o hk; simp [ok] at hk

theorem chk_flat : ∀ (l : List UInt8) (o : Nat), chk l o = true → ∃ ks : List Nd, ks.length = o ∧ (∀ k ∈ ks, ok false 0 k = true) ∧ l = flat ks
  | [], o, h => by
    simp [chk] at h
    exact ⟨[], by simp; omega, by simp, rfl⟩
  | c :: r, o, h => by
    simp only [chk, Bool.and_eq_true, decide_eq_true_eq] at h
    obtain ⟨ho, h⟩ := h
    by_cases hc : isO c = true
    · rw [if_pos hc] at h
      obtain ⟨ks, hl, hk, rfl⟩ := chk_flat r (o + 1) (by simpa using h)
      match ks, hl, hk with
      | a :: b :: ks, hl, hk =>
        refine ⟨.n2 c a b :: ks, by simp at hl ⊢; omega, ?_, by simp [flat, Nd.text]⟩
        intro k hkm
        rcases List.mem_cons.1 hkm with rfl | hkm
        · simp [ok, hc, hk a (by simp), hk b (by simp)]
        · exact hk k (by simp [hkm])
      | [a], hl, _ => simp at hl; omega
      | [], hl, _ => simp at hl
    · rw [if_neg hc] at h
      simp only [Bool.and_eq_true] at h
      obtain ⟨h1, h2⟩ := h
      obtain ⟨ks, hl, hk, rfl⟩ := chk_flat r (o - 1) (by rw [show ((o - 1 : Nat) : Int) = (o : Int) - 1 by omega]; exact h2)
      refine ⟨.n0 c :: ks, by simp; omega, ?_, by simp [flat, Nd.text]⟩
      intro k hkm
      rcases List.mem_cons.1 hkm with rfl | hkm
      · simpa [ok] using h1
      · exact hk k hkm

theorem chk_whole {most : Nat} {l : List UInt8} : (whole false 0 most l).isSome = (chk l 1 && decide (l.length ≤ most)) := by
  rw [Bool.eq_iff_iff, Option.isSome_iff_exists]
  simp only [whole_iff (show 0 ≤ 2 by omega), Bool.and_eq_true, decide_eq_true_eq]
  constructor
  · rintro ⟨k, h1, h2, rfl⟩
    refine ⟨?_, h1⟩
    have := chk_text k [] 1 h2 (by omega)
    simpa [chk] using this
  · rintro ⟨h1, h2⟩
    obtain ⟨ks, hl, hk, rfl⟩ := chk_flat l 1 h1
    match ks, hl, hk with
    | [k], _, hk => exact ⟨k, h2, hk k (by simp), by simp [flat]⟩

end Pl
end Go.Proofs.Ytcdcgllodggebaa
