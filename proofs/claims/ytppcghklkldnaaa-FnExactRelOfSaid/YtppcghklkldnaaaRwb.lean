/- Rewritings of a statement: the reference's. -/
import Derived.Test.YtppcghklkldnaaaRw
namespace Go.Proofs.Ytppcghklkldnaaa
open Go.RowKit
open Pl

theorem op_at {S : ByteArray} {k : Nd} (ht : S.data.toList = k.text) : ∃ h : 0 < S.size, S[0] = k.op := by
  have hz : S.size = k.text.length := by rw [← ht, len_S]
  have hp0 : 0 < S.size := by rw [hz]; exact text_pos k
  refine ⟨hp0, ?_⟩
  have h1 : S.data.toList[0]'(by rw [len_S]; exact hp0) = k.text[0]'(text_pos k) := by simp only [ht]
  have h2 : k.text[0]'(text_pos k) = k.op := by cases k <;> rfl
  exact h1.trans h2
theorem row_form {w : World} {base : Nat} {t : TypeId} {v : Value} {n : Nat} {xs : List Value} (h : w.ownsRow base t 1 v n xs) (hn : 0 < n) : ∃ g cap, v = .slice (some ⟨g, 0, none⟩) n cap ∧ n ≤ cap ∧ g < w.heap.size ∧ base ≤ g := by
  obtain ⟨g, cap, hv, _⟩ := h.form hn
  subst hv
  have hg := h.lt g rfl
  refine ⟨g, cap, rfl, ?_, hg.2, hg.1⟩
  rcases h.2 with ⟨h, _⟩ | ⟨_, _, _, h, _, _, h2, _⟩
  · cases h
  · injection h with _ _ h3; omega

theorem drew_below {w w' : World} (h : ∃ m, w' = w.drewN m) : Below w.heap.size w w' := by obtain ⟨m, rfl⟩ := h; exact below_drewN _ _ _

end Go.Proofs.Ytppcghklkldnaaa
