/- Plain: folded tests are true where the tests are, are not changed by folding again, and without variables are 't' or 'f'. -/
import Derived.Test.YtppcghklkldnaabPlh
import Derived.Test.YtppcghklkldnaabPle
import Derived.Test.YtppcghklkldnaabPli
namespace Go.Proofs.Ytppcghklkldnaab
namespace Pl

theorem tru_tf {ρ : UInt8 → Int} (b : Bool) : tru ρ (tf b) = b := by cases b <;> rfl
theorem tru_isC {ρ : UInt8 → Int} {c : UInt8} {k : Nd} (h : isC c k = true) : tru ρ k = (c == 116) := by rw [isC_eq h]; rfl
theorem isC_self (c : UInt8) : isC c (.n0 c) = true := by simp [isC]
theorem foldT_tru {ρ : UInt8 → Int} : ∀ {k : Nd} {wd : Bool}, ok wd 1 k = true → tru ρ (foldT k) = tru ρ k := by
  intro k
  induction k with
  | n0 c => intro wd _; rfl
  | n3 o a b c => intro wd h; simp [ok] at h
  | n1 o a ha =>
    intro wd h
    simp only [ok, Bool.and_eq_true] at h
    have ih := ha h.2
    simp only [foldT, neg]
    split
    · next h1 => rw [tru_isC h1] at ih; show _ = !tru ρ a; rw [← ih]; rfl
    · split
      · next h1 => rw [tru_isC h1] at ih; show _ = !tru ρ a; rw [← ih]; rfl
      · show (!tru ρ (foldT a)) = !tru ρ a; rw [ih]
  | n2 o a b ha hb =>
    intro wd h
    simp only [ok, Bool.and_eq_true, Bool.or_eq_true, beq_iff_eq] at h
    rcases h with ⟨h0, h1, h2⟩ | ⟨h0, h1, h2⟩
    · have hv : tru ρ (.n2 o (fold a) (fold b)) = tru ρ (.n2 o a b) := by
        rcases h0 with rfl | rfl <;> simp [tru, fold_val]
      simp only [foldT, if_pos h0, cmp]
      split
      · next hd =>
        rw [Bool.and_eq_true] at hd
        rw [tru_tf, ← hv]
        have e1 := val_isDg (ρ := fun _ => 0) (σ := ρ) hd.1
        have e2 := val_isDg (ρ := fun _ => 0) (σ := ρ) hd.2
        rcases h0 with rfl | rfl <;> simp [tru, e1, e2]
      · exact hv
    · have hn : ¬ (o = 61 ∨ o = 60) := by rcases h0 with rfl | rfl <;> decide
      have i1 := ha h1
      have i2 := hb h2
      simp only [foldT, if_neg hn, con]
      split
      · next hz =>
        rw [Bool.or_eq_true] at hz
        rcases h0 with rfl | rfl
        · rcases hz with hz | hz
          · rw [tru_isC hz] at i1
            simp [tru, ← i1, zer]
          · rw [tru_isC hz] at i2
            simp [tru, ← i2, zer]
        · rcases hz with hz | hz
          · rw [tru_isC hz] at i1
            simp [tru, ← i1, zer]
          · rw [tru_isC hz] at i2
            simp [tru, ← i2, zer]
      · split
        · next hz =>
          rw [tru_isC hz] at i1
          rcases h0 with rfl | rfl <;> simp [tru, ← i1, i2, uni]
        · split
          · next hz =>
            rw [tru_isC hz] at i2
            rcases h0 with rfl | rfl <;> simp [tru, ← i2, i1, uni]
          · rcases h0 with rfl | rfl <;> simp [tru, i1, i2]
theorem foldT_tf (b : Bool) : foldT (tf b) = tf b := by cases b <;> rfl
theorem foldT_foldT : ∀ k : Nd, foldT (foldT k) = foldT k := by
  intro k
  induction k with
  | n0 | n3 => rfl
  | n1 o a ha =>
    simp only [foldT]
    obtain ⟨x, hx⟩ : ∃ x, foldT a = x := ⟨_, rfl⟩
    rw [hx] at ha ⊢
    by_cases h1 : isC 116 x = true
    · simp only [neg, h1, if_true, foldT]
    · by_cases h2 : isC 102 x = true
      · simp only [neg, h1, h2, if_true]; simp [foldT]
      · have e : neg o x = .n1 o x := by simp [neg, h1, h2]
        rw [e]; simp only [foldT]; rw [ha, e]
  | n2 o a b ha hb =>
    simp only [foldT]
    by_cases h0 : o = 61 ∨ o = 60
    · rw [if_pos h0]
      have f1 := fold_fold a
      have f2 := fold_fold b
      obtain ⟨x, hx⟩ : ∃ x, fold a = x := ⟨_, rfl⟩
      obtain ⟨y, hy⟩ : ∃ x, fold b = x := ⟨_, rfl⟩
      rw [hx] at f1 ⊢
      rw [hy] at f2 ⊢
      by_cases hd : (isDg x && isDg y) = true
      · have e : cmp o x y = tf (tru (fun _ => 0) (.n2 o x y)) := by simp only [cmp, hd, if_true]
        rw [e, foldT_tf]
      · have e : cmp o x y = .n2 o x y := by simp only [cmp, hd]; rfl
        rw [e]; simp only [foldT]; rw [if_pos h0, f1, f2, e]
    · rw [if_neg h0]
      obtain ⟨x, hx⟩ : ∃ x, foldT a = x := ⟨_, rfl⟩
      obtain ⟨y, hy⟩ : ∃ x, foldT b = x := ⟨_, rfl⟩
      rw [hx] at ha ⊢
      rw [hy] at hb ⊢
      by_cases hz : (isC (zer o) x || isC (zer o) y) = true
      · have e : con o x y = .n0 (zer o) := by simp only [con, hz, if_true]
        rw [e]; rfl
      · by_cases hu : isC (uni o) x = true
        · have e : con o x y = y := by simp only [con, hz, hu, if_true]; rfl
          rw [e]; exact hb
        · by_cases hw : isC (uni o) y = true
          · have e : con o x y = x := by simp only [con, hz, hu, hw, if_true]; rfl
            rw [e]; exact ha
          · have e : con o x y = .n2 o x y := by simp only [con, hz, hu, hw]; rfl
            rw [e]; simp only [foldT]; rw [if_neg h0, ha, hb, e]
def isT (k : Nd) : Prop := k = .n0 116 ∨ k = .n0 102
theorem isT_tf (b : Bool) : isT (tf b) := by cases b; exact .inr rfl; exact .inl rfl
theorem foldT_none : ∀ {k : Nd}, ok false 1 k = true → (∀ c ∈ nmsN, c ∉ k.text) → isT (foldT k) := by
  intro k
  induction k with
  | n0 c =>
    intro h _
    simp only [ok, Bool.or_eq_true, beq_iff_eq] at h
    rcases h with rfl | rfl
    · exact .inl rfl
    · exact .inr rfl
  | n3 o a b c => intro h; simp [ok] at h
  | n1 o a ha =>
    intro h hn
    simp only [ok, Bool.and_eq_true] at h
    have ih := ha h.2 (fun c hc hm => hn c hc (by simp only [Nd.text, List.mem_cons]; exact .inr hm))
    simp only [foldT]
    rcases ih with e | e
    · rw [e]; exact .inr rfl
    · rw [e]; exact .inl rfl
  | n2 o a b ha hb =>
    intro h hn
    have n1 : ∀ c ∈ nmsN, c ∉ a.text := fun c hc hm => hn c hc (by simp only [Nd.text, List.mem_cons, List.mem_append]; exact .inr (.inl hm))
    have n2 : ∀ c ∈ nmsN, c ∉ b.text := fun c hc hm => hn c hc (by simp only [Nd.text, List.mem_cons, List.mem_append]; exact .inr (.inr hm))
    simp only [ok, Bool.and_eq_true, Bool.or_eq_true, beq_iff_eq] at h
    rcases h with ⟨h0, h1, h2⟩ | ⟨h0, h1, h2⟩
    · simp only [foldT, if_pos h0, cmp, fold_none h1 n1, fold_none h2 n2, Bool.and_self, if_true]
      exact isT_tf _
    · have hx : ¬ (o = 61 ∨ o = 60) := by rcases h0 with rfl | rfl <;> decide
      simp only [foldT, if_neg hx]
      rcases h0 with rfl | rfl <;> rcases ha h1 n1 with e | e <;> rcases hb h2 n2 with f | f <;> rw [e, f] <;> first | exact .inl rfl | exact .inr rfl
theorem predOf_fold {k : Nd} (h : ok false 1 k = true) : predOf (foldT k) = predOf k := by
  unfold predOf
  apply bits_congr
  intro i _
  exact foldT_tru h
end Pl
end Go.Proofs.Ytppcghklkldnaab
