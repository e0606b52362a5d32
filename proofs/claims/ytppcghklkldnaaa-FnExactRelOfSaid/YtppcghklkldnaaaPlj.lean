/- Plain: the head and the parts of a program, and where they lie in its text. -/
import Derived.Test.YtppcghklkldnaaaPlh
namespace Go.Proofs.Ytppcghklkldnaaa
namespace Pl

/-- where the head ends -/
def hd : Nd → Nat
  | .n0 _ => 1
  | .n1 _ a => 1 + a.text.length
  | .n2 o a b => if o = 97 then 1 + a.text.length + b.text.length else if o = 64 then 1 + a.text.length else 1
  | .n3 _ a _ _ => 1 + a.text.length
/-- the direct parts -/
def prt : Nd → List Nd
  | .n0 _ => []
  | .n1 _ _ => []
  | .n2 o a b => if o = 97 then [] else if o = 64 then [b] else [a, b]
  | .n3 _ _ b c => [b, c]
def headN : Nd → List UInt8
  | .n0 _ => []
  | .n1 _ a => a.text
  | .n2 o a b => if o = 97 then a.text ++ b.text else if o = 64 then a.text else []
  | .n3 _ a _ _ => a.text
def flatN : List Nd → List UInt8
  | [] => []
  | k :: r => k.text ++ flatN r
theorem drop_hd (k : Nd) : k.text.drop (hd k) = flatN (prt k) := by
  cases k with
  | n0 o => rfl
  | n1 o a => simp [hd, prt, flatN, Nd.text, Nat.add_comm]
  | n2 o a b =>
    by_cases h1 : o = 97
    · simp [hd, prt, flatN, Nd.text, h1]; omega
    · by_cases h2 : o = 64
      · subst h2
        rw [show hd (.n2 64 a b) = a.text.length + 1 by simp [hd]; omega]
        simp [prt, flatN, Nd.text]
      · simp [hd, prt, flatN, Nd.text, h1, h2]
  | n3 o a b c =>
    rw [show hd (.n3 o a b c) = a.text.length + 1 by simp [hd]; omega]
    simp [prt, flatN, Nd.text]
theorem hd_le (k : Nd) : hd k ≤ k.text.length := by
  cases k with
  | n0 o => exact Nat.le_refl _
  | n1 o a => simp [hd, Nd.text]; omega
  | n2 o a b => simp only [hd, Nd.text, List.length_cons, List.length_append]; repeat' split
                all_goals omega
  | n3 o a b c => simp only [hd, Nd.text, List.length_cons, List.length_append]; omega
theorem hd_pos (k : Nd) : 1 ≤ hd k := by
  cases k with
  | n0 o => exact Nat.le_refl _
  | n1 o a => simp [hd]
  | n2 o a b => simp only [hd]; repeat' split
                all_goals omega
  | n3 o a b c => simp [hd]
theorem head_text (k : Nd) : k.text = k.op :: (headN k ++ flatN (prt k)) := by
  cases k with
  | n0 o => rfl
  | n1 o a => simp [headN, prt, flatN, Nd.text, Nd.op]
  | n2 o a b =>
    by_cases h1 : o = 97
    · simp [headN, prt, flatN, Nd.text, Nd.op, h1]
    · by_cases h2 : o = 64
      · subst h2; simp [headN, prt, flatN, Nd.text, Nd.op]
      · simp [headN, prt, flatN, Nd.text, Nd.op, h1, h2]
  | n3 o a b c => simp [headN, prt, flatN, Nd.text, Nd.op]
theorem hd_head (k : Nd) : hd k = 1 + (headN k).length := by
  cases k with
  | n0 o => rfl
  | n1 o a => simp [hd, headN]
  | n2 o a b => simp only [hd, headN]; repeat' split
                all_goals (simp; try omega)
  | n3 o a b c => simp [hd, headN]
theorem prt_ok {wd : Bool} {k : Nd} (h : ok wd 2 k = true) : ∀ x ∈ prt k, ok wd 2 x = true := by
  intro x hx
  cases k with
  | n0 o => simp [prt] at hx
  | n1 o a => simp [prt] at hx
  | n2 o a b =>
    simp only [ok, Bool.or_eq_true, Bool.and_eq_true, beq_iff_eq] at h
    rcases h with (⟨ho, ha, hb⟩ | ⟨ho, ha, hb⟩) | ⟨ho, ha, hb⟩
    · simp [prt, ho] at hx
    · have n1 : ¬ o = 97 := by rcases ho with rfl | rfl <;> decide
      have n2 : ¬ o = 64 := by rcases ho with rfl | rfl <;> decide
      simp [prt, n1, n2] at hx
      rcases hx with rfl | rfl
      · exact ha
      · exact hb
    · subst ho
      simp [prt] at hx
      subst hx
      exact hb
  | n3 o a b c =>
    simp only [ok, Bool.and_eq_true] at h
    simp [prt] at hx
    rcases hx with rfl | rfl
    · exact h.2.2.1
    · exact h.2.2.2
theorem prt_len {k : Nd} : (prt k).length ≤ 2 := by
  cases k with
  | n0 o => simp [prt]
  | n1 o a => simp [prt]
  | n2 o a b => simp only [prt]; repeat' split
                all_goals simp
  | n3 o a b c => simp [prt]
/-- the shapes of a program -/
theorem ok2_head {wd : Bool} {k : Nd} (h : ok wd 2 k = true) : (k = .n0 115) ∨ (∃ v e, k = .n2 97 (.n0 v) e ∧ isV wd v = true ∧ ok wd 0 e = true) ∨ (∃ o a b, k = .n2 o a b ∧ (o = 59 ∨ o = 47) ∧ ok wd 2 a = true ∧ ok wd 2 b = true) ∨
    (∃ t a b, k = .n3 63 t a b ∧ ok wd 1 t = true ∧ ok wd 2 a = true ∧ ok wd 2 b = true) ∨ (∃ t a, k = .n2 64 t a ∧ ok wd 1 t = true ∧ ok wd 2 a = true) ∨ (∃ t, k = .n1 126 t ∧ ok wd 1 t = true) := by
  cases k with
  | n0 c => simp only [ok, beq_iff_eq] at h; subst h; exact .inl rfl
  | n1 o a => simp only [ok, Bool.and_eq_true, beq_iff_eq] at h; obtain ⟨rfl, h⟩ := h; exact .inr (.inr (.inr (.inr (.inr ⟨a, rfl, h⟩))))
  | n2 o a b =>
    simp only [ok, Bool.or_eq_true, Bool.and_eq_true, beq_iff_eq] at h
    rcases h with (⟨ho, ha, hb⟩ | ⟨ho, ha, hb⟩) | ⟨ho, ha, hb⟩
    · subst ho
      cases a <;> simp [leaf] at ha
      exact .inr (.inl ⟨_, _, rfl, ha, hb⟩)
    · exact .inr (.inr (.inl ⟨o, a, b, rfl, ho, ha, hb⟩))
    · subst ho; exact .inr (.inr (.inr (.inr (.inl ⟨a, b, rfl, ha, hb⟩))))
  | n3 o a b c => simp only [ok, Bool.and_eq_true, beq_iff_eq] at h; obtain ⟨rfl, h⟩ := h; exact .inr (.inr (.inr (.inl ⟨a, b, c, rfl, h.1, h.2.1, h.2.2⟩)))

end Pl
end Go.Proofs.Ytppcghklkldnaaa
