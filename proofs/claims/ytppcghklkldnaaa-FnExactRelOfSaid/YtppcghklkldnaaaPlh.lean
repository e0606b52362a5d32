/- Plain: folded tests and programs; what a rewriting makes of a program. -/
import Derived.Test.YtppcghklkldnaaaPlf
namespace Go.Proofs.Ytppcghklkldnaaa
namespace Pl

theorem text_ne (k : Nd) : k.text ≠ [] := by
  have := text_pos k
  intro h
  rw [h] at this
  simp at this
/-- a letter alone -/
def isC (c : UInt8) : Nd → Bool
  | .n0 d => d == c
  | _ => false
theorem isC_text {c : UInt8} : ∀ {k : Nd}, k.text = [c] ↔ isC c k = true := by
  intro k
  cases k with
  | n0 d => simp [Nd.text, isC]
  | n1 o a => simp [Nd.text, isC, text_ne]
  | n2 o a b => simp [Nd.text, isC, text_ne]
  | n3 o a b c => simp [Nd.text, isC, text_ne]
theorem isC_eq {c : UInt8} {k : Nd} (h : isC c k = true) : k = .n0 c := by
  cases k <;> simp [isC] at h
  rw [h]
def tf (b : Bool) : Nd := .n0 (if b then 116 else 102)
def zer (o : UInt8) : UInt8 := if o = 124 then 116 else 102
def uni (o : UInt8) : UInt8 := if o = 124 then 102 else 116
def con (o : UInt8) (x y : Nd) : Nd :=
  if isC (zer o) x || isC (zer o) y then .n0 (zer o) else if isC (uni o) x then y else if isC (uni o) y then x else .n2 o x y
def cmp (o : UInt8) (x y : Nd) : Nd :=
  if isDg x && isDg y then tf (tru (fun _ => 0) (.n2 o x y)) else .n2 o x y
def neg (o : UInt8) (x : Nd) : Nd :=
  if isC 116 x then .n0 102 else if isC 102 x then .n0 116 else .n1 o x
def foldT : Nd → Nd
  | .n0 c => .n0 c
  | .n1 o a => neg o (foldT a)
  | .n2 o a b => if o = 61 ∨ o = 60 then cmp o (fold a) (fold b) else con o (foldT a) (foldT b)
  | .n3 o a b c => .n3 o a b c
theorem ok_tf (wd : Bool) (b : Bool) : ok wd 1 (tf b) = true := by cases b <;> rfl
theorem zer_or (o : UInt8) : zer o = 116 ∨ zer o = 102 := by unfold zer; split <;> simp
theorem uni_or (o : UInt8) : uni o = 116 ∨ uni o = 102 := by unfold uni; split <;> simp
theorem foldT_ok : ∀ {k : Nd} {wd : Bool}, ok wd 1 k = true → ok wd 1 (foldT k) = true := by
  intro k
  induction k with
  | n0 c => intro wd h; exact h
  | n1 o a ha =>
    intro wd h
    simp only [ok, Bool.and_eq_true] at h
    simp only [foldT, neg]
    split
    · rfl
    · split
      · rfl
      · simp only [ok, Bool.and_eq_true]; exact ⟨h.1, ha h.2⟩
  | n3 o a b c => intro wd h; simp [ok] at h
  | n2 o a b ha hb =>
    intro wd h
    simp only [ok, Bool.and_eq_true, Bool.or_eq_true, beq_iff_eq] at h
    rcases h with ⟨h0, h1, h2⟩ | ⟨h0, h1, h2⟩
    · simp only [foldT, if_pos h0, cmp]
      split
      · exact ok_tf _ _
      · simp only [ok, Bool.and_eq_true, Bool.or_eq_true, beq_iff_eq]; exact .inl ⟨h0, fold_ok h1, fold_ok h2⟩
    · have hn : ¬ (o = 61 ∨ o = 60) := by rcases h0 with rfl | rfl <;> decide
      simp only [foldT, if_neg hn, con]
      split
      · rcases zer_or o with e | e <;> rw [e] <;> rfl
      · split
        · exact hb h2
        · split
          · exact ha h1
          · simp only [ok, Bool.and_eq_true, Bool.or_eq_true, beq_iff_eq]; exact .inr ⟨h0, ha h1, hb h2⟩
theorem foldT_len : ∀ k : Nd, (foldT k).text.length ≤ k.text.length := by
  intro k
  induction k with
  | n0 | n3 => exact Nat.le_refl _
  | n1 o a ha =>
    simp only [foldT, neg]
    split
    · simp [Nd.text]
    · split
      · simp [Nd.text]
      · simp only [Nd.text, List.length_cons]; omega
  | n2 o a b ha hb =>
    have h1 := fold_len a
    have h2 := fold_len b
    simp only [foldT]
    split
    · simp only [cmp]
      split
      · simp [Nd.text, tf]
      · simp only [Nd.text, List.length_cons, List.length_append]; omega
    · simp only [con]
      split
      · simp [Nd.text]
      · split
        · simp only [Nd.text, List.length_cons, List.length_append]; omega
        · split
          · simp only [Nd.text, List.length_cons, List.length_append]; omega
          · simp only [Nd.text, List.length_cons, List.length_append]; omega

/-! ### programs -/
def foldP : Nd → Nd
  | .n0 c => .n0 c
  | .n1 o a => if isC 116 (foldT a) then .n0 115 else .n1 o (foldT a)
  | .n2 o a b => if o = 97 then .n2 o a (fold b) else if o = 64 then (if isC 102 (foldT a) then .n0 115 else .n2 o (foldT a) (foldP b)) else .n2 o (foldP a) (foldP b)
  | .n3 o a b c => if isC 116 (foldT a) then foldP b else if isC 102 (foldT a) then foldP c else .n3 o (foldT a) (foldP b) (foldP c)
theorem foldP_ok : ∀ {k : Nd} {wd : Bool}, ok wd 2 k = true → ok wd 2 (foldP k) = true := by
  intro k
  induction k with
  | n0 c => intro wd h; exact h
  | n1 o a ha =>
    intro wd h
    simp only [ok, Bool.and_eq_true] at h
    simp only [foldP]
    split
    · rfl
    · simp only [ok, Bool.and_eq_true]; exact ⟨h.1, foldT_ok h.2⟩
  | n3 o a b c ha hb hc =>
    intro wd h
    simp only [ok, Bool.and_eq_true] at h
    simp only [foldP]
    split
    · exact hb h.2.2.1
    · split
      · exact hc h.2.2.2
      · simp only [ok, Bool.and_eq_true]; exact ⟨h.1, foldT_ok h.2.1, hb h.2.2.1, hc h.2.2.2⟩
  | n2 o a b ha hb =>
    intro wd h
    simp only [ok, Bool.and_eq_true, Bool.or_eq_true, beq_iff_eq] at h
    rcases h with (⟨h0, h1, h2⟩ | ⟨h0, h1, h2⟩) | ⟨h0, h1, h2⟩
    · subst h0
      simp only [foldP, if_true, ok, Bool.and_eq_true, Bool.or_eq_true, beq_iff_eq]
      exact .inl (.inl ⟨trivial, h1, fold_ok h2⟩)
    · have n1 : ¬ o = 97 := by rcases h0 with rfl | rfl <;> decide
      have n2 : ¬ o = 64 := by rcases h0 with rfl | rfl <;> decide
      simp only [foldP, if_neg n1, if_neg n2, ok, Bool.and_eq_true, Bool.or_eq_true, beq_iff_eq]
      exact .inl (.inr ⟨h0, ha h1, hb h2⟩)
    · subst h0
      simp only [foldP, if_neg (show ¬ (64 : UInt8) = 97 by decide), if_true]
      split
      · rfl
      · simp only [ok, Bool.and_eq_true, Bool.or_eq_true, beq_iff_eq]
        exact .inr ⟨trivial, foldT_ok h1, hb h2⟩
theorem foldP_len : ∀ k : Nd, (foldP k).text.length ≤ k.text.length := by
  intro k
  induction k with
  | n0 => exact Nat.le_refl _
  | n1 o a ha =>
    have h1 := foldT_len a
    simp only [foldP]
    split
    · simp [Nd.text]
    · simp only [Nd.text, List.length_cons]; omega
  | n3 o a b c ha hb hc =>
    have h1 := foldT_len a
    simp only [foldP]
    split
    · simp only [Nd.text, List.length_cons, List.length_append]; omega
    · split
      · simp only [Nd.text, List.length_cons, List.length_append]; omega
      · simp only [Nd.text, List.length_cons, List.length_append]; omega
  | n2 o a b ha hb =>
    have h1 := fold_len b
    have h2 := foldT_len a
    simp only [foldP]
    split
    · simp only [Nd.text, List.length_cons, List.length_append]; omega
    · split
      · split
        · simp [Nd.text]
        · simp only [Nd.text, List.length_cons, List.length_append]; omega
      · simp only [Nd.text, List.length_cons, List.length_append]; omega

/-! ### rewritings of a statement -/
def unrollN : Nd → Option Nd
  | .n2 o t p => if o = 64 then some (.n3 63 t (.n2 59 p (.n2 64 t p)) (.n0 115)) else none
  | _ => none
def swapN : Nd → Option Nd
  | .n3 o t a b => some (.n3 o (.n1 33 t) b a)
  | _ => none
def pushN : Nd → Option Nd
  | .n2 o (.n3 _ t a b) c => if o = 59 then some (.n3 63 t (.n2 59 a c) (.n2 59 b c)) else none
  | _ => none
def setsN : Nd → Option Nd
  | .n2 o (.n2 p (.n0 v) e) (.n2 q (.n0 u) f) => if o = 59 ∧ p = 97 ∧ q = 97 ∧ v = u then some (.n2 97 (.n0 v) (subN v e f)) else none
  | _ => none
theorem unrollN_ok {k k' : Nd} (h : ok false 2 k = true) (e : unrollN k = some k') : ok false 2 k' = true := by
  cases k with
  | n0 | n1 | n3 => simp [unrollN] at e
  | n2 o t p =>
    by_cases ho : o = 64
    · subst ho
      simp only [unrollN, if_true, Option.some.injEq] at e
      subst e
      have h2 : ok false 1 t = true ∧ ok false 2 p = true := by simpa [ok] using h
      simp [ok, h2.1, h2.2]
    · simp [unrollN, ho] at e
theorem swapN_ok {k k' : Nd} (h : ok false 2 k = true) (e : swapN k = some k') : ok false 2 k' = true := by
  cases k with
  | n0 | n1 | n2 => simp [swapN] at e
  | n3 o t a b =>
    simp only [swapN, Option.some.injEq] at e
    subst e
    simp only [ok, Bool.and_eq_true, beq_iff_eq] at h
    obtain ⟨rfl, h1, h2, h3⟩ := h
    simp [ok, h1, h2, h3]
theorem pushN_ok {k k' : Nd} (h : ok false 2 k = true) (e : pushN k = some k') : ok false 2 k' = true := by
  cases k with
  | n0 | n1 | n3 => simp [pushN] at e
  | n2 o x c =>
    cases x with
    | n0 | n1 | n2 => simp [pushN] at e
    | n3 q t a b =>
      by_cases ho : o = 59
      · subst ho
        simp only [pushN, if_true, Option.some.injEq] at e
        subst e
        have h2 : ok false 2 (.n3 q t a b) = true ∧ ok false 2 c = true := by simpa [ok] using h
        obtain ⟨h2, hc⟩ := h2
        simp only [ok, Bool.and_eq_true, beq_iff_eq] at h2
        obtain ⟨rfl, h1, h2, h3⟩ := h2
        simp [ok, h1, h2, h3, hc]
      · simp [pushN, ho] at e
theorem setsN_ok {k k' : Nd} (h : ok false 2 k = true) (e : setsN k = some k') : ok false 2 k' = true := by
  unfold setsN at e
  split at e
  · rename_i o p v f q u g
    split at e
    · rename_i hc
      obtain ⟨rfl, rfl, rfl, rfl⟩ := hc
      simp only [Option.some.injEq] at e
      subst e
      simp [ok, leaf] at h
      obtain ⟨⟨h1, h2⟩, h3, h4⟩ := h
      have := (sub_ok h1 h2 (k := g) (s := 0) (by omega) h4).1
      simp [ok, leaf, h1, this]
    · cases e
  · cases e
/-- what is found of a text, if it is short enough -/
def keepS (o : Option Nd) : Option Nd :=
  match o with
  | some k => if k.text.length ≤ 200 then some k else none
  | none => none
def rewr (f : Nd → Option Nd) (l : List UInt8) : Option Nd :=
  match whole false 2 200 l with
  | some k => keepS (f k)
  | none => none
def optT (o : Option Nd) : List UInt8 :=
  match o with
  | some k => k.text
  | none => []

end Pl
end Go.Proofs.Ytppcghklkldnaaa
