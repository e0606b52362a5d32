/- Plain: folded expressions; an expression in place of a letter. -/
import Derived.Test.YtppcghklkldnaaaPle
namespace Go.Proofs.Ytppcghklkldnaaa
namespace Pl

def digOf (n : Int) : UInt8 := UInt8.ofNat (48 + n.toNat)
/-- a digit alone -/
def isDg : Nd → Bool
  | .n0 c => isD c
  | _ => false
def fold : Nd → Nd
  | .n0 c => .n0 c
  | .n1 o a => .n1 o a
  | .n2 o a b => if isDg (fold a) && isDg (fold b) then .n0 (digOf (val (fun _ => 0) (.n2 o (fold a) (fold b)))) else .n2 o (fold a) (fold b)
  | .n3 o a b c => .n3 o a b c

theorem digOf_D {n : Int} (h : small n) : isD (digOf n) = true ∧ ((digOf n).toNat : Int) - 48 = n := by
  unfold small at h
  have : n = 0 ∨ n = 1 ∨ n = 2 := by omega
  rcases this with rfl | rfl | rfl <;> decide
theorem small0 : ∀ c : UInt8, small ((fun _ => 0 : UInt8 → Int) c) := fun _ => (⟨by decide, by decide⟩ : (0 : Int) ≤ 0 ∧ (0 : Int) ≤ 2)
theorem val_isDg {ρ σ : UInt8 → Int} {k : Nd} (h : isDg k = true) : val ρ k = val σ k := by
  cases k <;> simp [isDg] at h
  simp [val, h]
theorem fold_val {ρ : UInt8 → Int} : ∀ k, val ρ (fold k) = val ρ k := by
  intro k
  induction k with
  | n0 c => rfl
  | n1 | n3 => rfl
  | n2 o a b ha hb =>
    simp only [fold]
    split
    · rename_i h
      simp only [Bool.and_eq_true] at h
      have h1 := digOf_D (val_small (ρ := fun _ => 0) small0 (.n2 o (fold a) (fold b)))
      have e : val ρ (.n0 (digOf (val (fun _ => 0) (.n2 o (fold a) (fold b))))) = val (fun _ => 0) (.n2 o (fold a) (fold b)) := by
        generalize val (fun _ => 0) (.n2 o (fold a) (fold b)) = m at h1
        simp only [val, h1.1, if_true]; exact h1.2
      rw [e]
      simp only [val]
      rw [val_isDg (ρ := fun _ => 0) (σ := ρ) h.1, val_isDg (ρ := fun _ => 0) (σ := ρ) h.2, ha, hb]
    · simp only [val, ha, hb]
theorem fold_ok : ∀ {k : Nd} {wd : Bool}, ok wd 0 k = true → ok wd 0 (fold k) = true := by
  intro k
  induction k with
  | n0 c => intro wd h; exact h
  | n1 o a => intro wd h; simp [ok] at h
  | n3 o a b c => intro wd h; simp [ok] at h
  | n2 o a b ha hb =>
    intro wd h
    simp only [ok, Bool.and_eq_true] at h
    simp only [fold]
    split
    · simp only [ok, (digOf_D (val_small small0 (.n2 o (fold a) (fold b)))).1, Bool.or_true]
    · simp only [ok, Bool.and_eq_true]; exact ⟨h.1, ha h.2.1, hb h.2.2⟩
theorem fold_len : ∀ k : Nd, (fold k).text.length ≤ k.text.length := by
  intro k
  induction k with
  | n0 | n1 | n3 => exact Nat.le_refl _
  | n2 o a b ha hb =>
    simp only [fold]
    split
    · simp [Nd.text]
    · simp only [Nd.text, List.length_cons, List.length_append]; omega
theorem fold_fold : ∀ k : Nd, fold (fold k) = fold k := by
  intro k
  induction k with
  | n0 | n1 | n3 => rfl
  | n2 o a b ha hb =>
    by_cases h : (isDg (fold a) && isDg (fold b)) = true
    · simp only [fold, if_pos h]
    · simp only [fold, if_neg h, ha, hb]
/-- a letter that is no digit and no operator stays -/
theorem fold_mem {c : UInt8} (hc : isD c = false) (hO : isO c = false) : ∀ {k : Nd} {wd : Bool}, ok wd 0 k = true → (c ∈ (fold k).text ↔ c ∈ k.text) := by
  intro k
  induction k with
  | n0 | n1 | n3 => intro _ _; rfl
  | n2 o a b ha hb =>
    intro wd h
    simp only [ok, Bool.and_eq_true] at h
    have iha := ha h.2.1
    have ihb := hb h.2.2
    have hco : c ≠ o := by rintro rfl; rw [hO] at h; exact absurd h.1 (by decide)
    have hdg : ∀ {x : Nd}, isDg x = true → c ∉ x.text := by
      intro x hx
      cases x <;> simp [isDg] at hx
      simp only [Nd.text, List.mem_singleton]
      rintro rfl
      rw [hx] at hc; cases hc
    simp only [fold]
    split
    · rename_i hd
      simp only [Bool.and_eq_true] at hd
      have h1 := digOf_D (val_small small0 (.n2 o (fold a) (fold b)))
      have n1 : c ∉ (Nd.n0 (digOf (val (fun _ => 0) (.n2 o (fold a) (fold b))))).text := hdg (by simp only [isDg]; exact h1.1)
      have n2 := hdg hd.1
      have n3 := hdg hd.2
      rw [iha] at n2
      rw [ihb] at n3
      refine ⟨fun hm => absurd hm n1, fun hm => ?_⟩
      simp only [Nd.text, List.mem_cons, List.mem_append] at hm
      rcases hm with hm | hm | hm
      · exact absurd hm hco
      · exact absurd hm n2
      · exact absurd hm n3
    · simp only [Nd.text, List.mem_cons, List.mem_append, iha, ihb]
/-- what has no variables is a digit -/
theorem fold_none : ∀ {k : Nd}, ok false 0 k = true → (∀ c ∈ nmsN, c ∉ k.text) → isDg (fold k) = true := by
  intro k
  induction k with
  | n0 c =>
    intro h hn
    simp only [ok, Bool.or_eq_true] at h
    rcases h with h | h
    · exact absurd (by simp [Nd.text]) (hn c (mem_nms (wd := false).2 h))
    · exact h
  | n1 o a => intro h; simp [ok] at h
  | n3 o a b c => intro h; simp [ok] at h
  | n2 o a b ha hb =>
    intro h hn
    simp only [ok, Bool.and_eq_true] at h
    have h1 := ha h.2.1 (fun c hc hm => hn c hc (by simp [Nd.text, hm]))
    have h2 := hb h.2.2 (fun c hc hm => hn c hc (by simp [Nd.text, hm]))
    show isDg (if (isDg (fold a) && isDg (fold b)) = true then _ else _) = true
    rw [h1, h2]
    exact (digOf_D (val_small small0 (.n2 o (fold a) (fold b)))).1
theorem isDg_text {k : Nd} (h : ok false 0 k = true) : isDg k = true ↔ ∃ c, k.text = [c] ∧ isD c = true := by
  cases k with
  | n0 c => simp [isDg, Nd.text]
  | n1 o a => simp [ok] at h
  | n3 o a b c => simp [ok] at h
  | n2 o a b =>
    have := text_pos a
    have := text_pos b
    simp only [isDg, Nd.text, Bool.false_eq_true, false_iff]
    rintro ⟨c, hc, _⟩
    have := congrArg List.length hc
    simp only [List.length_cons, List.length_append, List.length_nil] at this
    omega

/-! ### an expression in place of a letter -/
def sub (v : UInt8) (by_ : List UInt8) (l : List UInt8) : List UInt8 := l.flatMap fun c => if c = v then by_ else [c]
def subN (v : UInt8) (e : Nd) : Nd → Nd
  | .n0 c => if c = v then e else .n0 c
  | .n1 o a => .n1 o (subN v e a)
  | .n2 o a b => .n2 o (subN v e a) (subN v e b)
  | .n3 o a b c => .n3 o (subN v e a) (subN v e b) (subN v e c)
theorem sub_append (v : UInt8) (e a b : List UInt8) : sub v e (a ++ b) = sub v e a ++ sub v e b := by simp [sub]
theorem sub_cons (v : UInt8) (e b : List UInt8) (c : UInt8) : sub v e (c :: b) = (if c = v then e else [c]) ++ sub v e b := by simp [sub]
theorem sub_nil (v : UInt8) (e : List UInt8) : sub v e [] = [] := rfl
theorem isV_not {v : UInt8} (hv : isV false v = true) : isO v = false ∧ isD v = false ∧ v ≠ 116 ∧ v ≠ 102 ∧ v ≠ 61 ∧ v ≠ 60 ∧ v ≠ 33 ∧ v ≠ 38 ∧ v ≠ 124 := by
  have hm := (mem_nms (wd := false)).2 hv
  simp only [nms, Bool.false_eq_true, if_false, nmsN, List.mem_cons, List.not_mem_nil, or_false] at hm
  rcases hm with rfl | rfl | rfl <;> decide
/-- an expression, and a test, with an expression in place of a variable -/
theorem sub_ok {v : UInt8} (hv : isV false v = true) {e : Nd} (he : ok false 0 e = true) : ∀ {k : Nd} {s : Nat}, s ≤ 1 → ok false s k = true → ok false s (subN v e k) = true ∧ (subN v e k).text = sub v e.text k.text := by
  obtain ⟨v1, v2, v3, v4, v5, v6, v7, v8, v9⟩ := isV_not hv
  intro k
  induction k with
  | n0 c =>
    intro s hs h
    match s, hs, h with
    | 0, _, h =>
      by_cases hc : c = v
      · simp [subN, hc, Nd.text, sub, he]
      · simp [subN, hc, Nd.text, sub]; simpa [ok] using h
    | 1, _, h =>
      have hc : c ≠ v := by
        rintro rfl
        simp only [ok, Bool.or_eq_true, beq_iff_eq] at h
        rcases h with h | h
        · exact v3 h
        · exact v4 h
      simp [subN, hc, Nd.text, sub]; simpa [ok] using h
  | n1 o a ha =>
    intro s hs h
    match s, hs, h with
    | 1, _, h1 =>
      simp only [ok, Bool.and_eq_true, beq_iff_eq] at h1
      obtain ⟨rfl, h2⟩ := h1
      obtain ⟨i1, i2⟩ := ha (s := 1) (by omega) h2
      refine ⟨by simp [subN, ok, i1], ?_⟩
      simp only [subN, Nd.text, i2, sub_cons, if_neg (Ne.symm v7)]
      rfl
  | n3 o a b c =>
    intro s hs h
    match s, hs, h with
    | 0, _, h => simp [ok] at h
    | 1, _, h => simp [ok] at h
  | n2 o a b ha hb =>
    intro s hs h
    match s, hs, h with
    | 0, _, h =>
      simp only [ok, Bool.and_eq_true] at h
      obtain ⟨i1, i2⟩ := ha (s := 0) (by omega) h.2.1
      obtain ⟨j1, j2⟩ := hb (s := 0) (by omega) h.2.2
      have ho : o ≠ v := by rintro rfl; rw [v1] at h; exact absurd h.1 (by decide)
      refine ⟨by simp [subN, ok, i1, j1, h.1], ?_⟩
      simp only [subN, Nd.text, i2, j2, sub_cons, sub_append, if_neg ho]
      rfl
    | 1, _, h =>
      simp only [ok, Bool.and_eq_true, Bool.or_eq_true, beq_iff_eq] at h
      have ho : o ≠ v := by
        rintro rfl
        rcases h with ⟨h | h, _⟩ | ⟨h | h, _⟩
        · exact v5 h
        · exact v6 h
        · exact v8 h
        · exact v9 h
      rcases h with ⟨h0, h1, h2⟩ | ⟨h0, h1, h2⟩
      · obtain ⟨i1, i2⟩ := ha (s := 0) (by omega) h1
        obtain ⟨j1, j2⟩ := hb (s := 0) (by omega) h2
        refine ⟨by simp [subN, ok, i1, j1, h0], ?_⟩
        simp only [subN, Nd.text, i2, j2, sub_cons, sub_append, if_neg ho]
        rfl
      · obtain ⟨i1, i2⟩ := ha (s := 1) (by omega) h1
        obtain ⟨j1, j2⟩ := hb (s := 1) (by omega) h2
        refine ⟨by simp [subN, ok, i1, j1, h0], ?_⟩
        simp only [subN, Nd.text, i2, j2, sub_cons, sub_append, if_neg ho]
        rfl

theorem sub_val {v : UInt8} (hv : isD v = false) {e : Nd} {ρ : UInt8 → Int} : ∀ k : Nd, val ρ (subN v e k) = val (fun c => if c = v then val ρ e else ρ c) k := by
  intro k
  induction k with
  | n0 c =>
    by_cases hc : c = v
    · subst hc; simp [subN, val, hv]
    · simp [subN, val, hc]
  | n1 | n3 => rfl
  | n2 o a b ha hb => simp only [subN, val, ha, hb]
theorem sub_tru {v : UInt8} (hv : isV false v = true) {e : Nd} {ρ : UInt8 → Int} : ∀ {k : Nd}, ok false 1 k = true → tru ρ (subN v e k) = tru (fun c => if c = v then val ρ e else ρ c) k := by
  obtain ⟨v1, v2, v3, v4, v5, v6, v7, v8, v9⟩ := isV_not hv
  intro k
  induction k with
  | n0 c =>
    intro h
    have hc : c ≠ v := by
      rintro rfl
      simp only [ok, Bool.or_eq_true, beq_iff_eq] at h
      rcases h with h | h
      · exact v3 h
      · exact v4 h
    simp [subN, tru, hc]
  | n1 o a ha =>
    intro h
    simp only [ok, Bool.and_eq_true] at h
    simp only [subN, tru, ha h.2]
  | n3 => intro _; rfl
  | n2 o a b ha hb =>
    intro h
    simp only [ok, Bool.and_eq_true, Bool.or_eq_true, beq_iff_eq] at h
    rcases h with ⟨h0, h1, h2⟩ | ⟨h0, h1, h2⟩
    · rcases h0 with rfl | rfl <;> simp [subN, tru, sub_val v2]
    · rcases h0 with rfl | rfl <;> simp [subN, tru, ha h1, hb h2]
theorem envOf_put_fun {x y z n : Int} {c : UInt8} (hc : c ∈ nmsN) : (fun d => if d = c then n else envOf x y z 0 0 0 d) = envOf (put1 c 120 n x) (put1 c 121 n y) (put1 c 122 n z) 0 0 0 := by
  funext d
  by_cases hd : d = c
  · subst hd; rw [if_pos rfl, envOf_put_self hc]
  · rw [if_neg hd, envOf_put hc hd]

end Pl
end Go.Proofs.Ytppcghklkldnaaa
