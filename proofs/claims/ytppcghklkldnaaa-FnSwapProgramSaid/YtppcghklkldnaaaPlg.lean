/- Plain: letters exchanged in a text. -/
import Derived.Test.YtppcghklkldnaaaPle
namespace Go.Proofs.Ytppcghklkldnaaa
namespace Pl

/-- a letter of the second state is one of the first -/
def low (c : UInt8) : UInt8 := if 88 ≤ c ∧ c ≤ 90 then c + 32 else c
/-- the letters of the two states exchanged -/
def swp (c : UInt8) : UInt8 := if 88 ≤ c ∧ c ≤ 90 then c + 32 else if 120 ≤ c ∧ c ≤ 122 then c - 32 else c
def mapN (f : UInt8 → UInt8) : Nd → Nd
  | .n0 c => .n0 (f c)
  | .n1 o a => .n1 (f o) (mapN f a)
  | .n2 o a b => .n2 (f o) (mapN f a) (mapN f b)
  | .n3 o a b c => .n3 (f o) (mapN f a) (mapN f b) (mapN f c)
theorem mapN_text (f : UInt8 → UInt8) : ∀ k : Nd, (mapN f k).text = k.text.map f := by
  intro k
  induction k with
  | n0 c => rfl
  | n1 o a ha => simp [mapN, Nd.text, ha]
  | n2 o a b ha hb => simp [mapN, Nd.text, ha, hb]
  | n3 o a b c ha hb hc => simp [mapN, Nd.text, ha, hb, hc]
/-- a map of letters that leaves what is no letter of a variable -/
structure Keeps (f : UInt8 → UInt8) (wd wd' : Bool) : Prop where
  v : ∀ c, isV wd c = true → isV wd' (f c) = true
  o : ∀ c, isV true c = false → f c = c
theorem isV_cases {c : UInt8} (h : isV true c = true) : c = 120 ∨ c = 121 ∨ c = 122 ∨ c = 88 ∨ c = 89 ∨ c = 90 := by
  have hm := (mem_nms (wd := true)).2 h
  simpa [nms, nmsW] using hm
theorem low_keeps : Keeps low true false := by
  refine ⟨fun c h => ?_, fun c h => ?_⟩
  · rcases isV_cases h with rfl | rfl | rfl | rfl | rfl | rfl <;> decide
  · unfold low
    rw [if_neg]
    intro hc
    have : isV true c = true := by simp [isV, hc.1, hc.2]
    rw [this] at h; cases h
theorem swp_keeps : Keeps swp true true := by
  refine ⟨fun c h => ?_, fun c h => ?_⟩
  · rcases isV_cases h with rfl | rfl | rfl | rfl | rfl | rfl <;> decide
  · unfold swp
    rw [if_neg, if_neg]
    · intro hc
      have : isV true c = true := by simp [isV, hc.1, hc.2]
      rw [this] at h; cases h
    · intro hc
      have : isV true c = true := by simp [isV, hc.1, hc.2]
      rw [this] at h; cases h
theorem isV_of_D {c : UInt8} (h : isD c = true) : isV true c = false := by
  have := isD_range h
  rcases hv : isV true c with _ | _
  · rfl
  · rcases isV_cases hv with rfl | rfl | rfl | rfl | rfl | rfl <;> simp at this
section
variable {f : UInt8 → UInt8} {wd' : Bool} (hf : Keeps f true wd')
include hf
theorem keep_O {c : UInt8} (h : isO c = true) : f c = c := hf.o c (by
  simp [isO] at h
  rcases h with (rfl | rfl) | rfl <;> decide)
theorem mapN_ok : ∀ {k : Nd} {s : Nat}, s ≤ 1 → ok true s k = true → ok wd' s (mapN f k) = true := by
  intro k
  induction k with
  | n0 c =>
    intro s hs h
    match s, hs, h with
    | 0, _, h =>
      simp only [ok, Bool.or_eq_true, mapN] at h ⊢
      rcases h with h | h
      · exact .inl (hf.v c h)
      · rw [hf.o c (isV_of_D h)]; exact .inr h
    | 1, _, h =>
      simp only [ok, Bool.or_eq_true, beq_iff_eq, mapN] at h ⊢
      rcases h with rfl | rfl
      · rw [hf.o 116 (by decide)]; exact .inl rfl
      · rw [hf.o 102 (by decide)]; exact .inr rfl
  | n1 o a ha =>
    intro s hs h
    match s, hs, h with
    | 1, _, h1 =>
      simp only [ok, Bool.and_eq_true, beq_iff_eq] at h1
      obtain ⟨rfl, h2⟩ := h1
      simp only [mapN, ok, hf.o 33 (by decide), ha (s := 1) (by omega) h2]
      decide
  | n3 o a b c =>
    intro s hs h
    match s, hs, h with
    | 0, _, h => simp [ok] at h
    | 1, _, h => simp [ok] at h
  | n2 o a b ha hb =>
    intro s hs h
    match s, hs, h with
    | 0, _, h =>
      simp only [ok, Bool.and_eq_true] at h
      simp only [mapN, ok, keep_O hf h.1, h.1, ha (s := 0) (by omega) h.2.1, hb (s := 0) (by omega) h.2.2, Bool.and_self]
    | 1, _, h =>
      simp only [ok, Bool.and_eq_true, Bool.or_eq_true, beq_iff_eq] at h
      rcases h with ⟨h0, h1, h2⟩ | ⟨h0, h1, h2⟩
      · rcases h0 with rfl | rfl
        · simp only [mapN, ok, hf.o 61 (by decide), ha (s := 0) (by omega) h1, hb (s := 0) (by omega) h2]; simp
        · simp only [mapN, ok, hf.o 60 (by decide), ha (s := 0) (by omega) h1, hb (s := 0) (by omega) h2]; simp
      · rcases h0 with rfl | rfl
        · simp only [mapN, ok, hf.o 38 (by decide), ha (s := 1) (by omega) h1, hb (s := 1) (by omega) h2]; simp
        · simp only [mapN, ok, hf.o 124 (by decide), ha (s := 1) (by omega) h1, hb (s := 1) (by omega) h2]; simp
theorem mapN_val {ρ σ : UInt8 → Int} (hρ : ∀ c, isV true c = true → ρ (f c) = σ c) : ∀ {k : Nd}, ok true 0 k = true → val ρ (mapN f k) = val σ k := by
  intro k
  induction k with
  | n0 c =>
    intro h
    simp only [ok, Bool.or_eq_true] at h
    by_cases hd : isD c = true
    · rw [mapN, hf.o c (isV_of_D hd)]; simp [val, hd]
    · have hv : isV true c = true := h.resolve_right hd
      have h2 := hf.v c hv
      have h3 : isD (f c) = false := by
        cases hq : isD (f c) with
        | false => rfl
        | true =>
          have h4 := isV_of_D hq
          have h5 : isV true (f c) = true := by cases wd'; exact isV_wide h2 true; exact h2
          rw [h4] at h5; cases h5
      simp only [mapN, val, h3, hd, Bool.false_eq_true, if_false]
      exact hρ c hv
  | n1 | n3 => intro _; rfl
  | n2 o a b ha hb =>
    intro h
    simp only [ok, Bool.and_eq_true] at h
    simp only [mapN, val, keep_O hf h.1, ha h.2.1, hb h.2.2]
theorem mapN_tru {ρ σ : UInt8 → Int} (hρ : ∀ c, isV true c = true → ρ (f c) = σ c) : ∀ {k : Nd}, ok true 1 k = true → tru ρ (mapN f k) = tru σ k := by
  intro k
  induction k with
  | n0 c =>
    intro h
    simp only [ok, Bool.or_eq_true, beq_iff_eq] at h
    rcases h with rfl | rfl
    · simp [mapN, hf.o 116 (by decide), tru]
    · simp [mapN, hf.o 102 (by decide), tru]
  | n1 o a ha =>
    intro h
    simp only [ok, Bool.and_eq_true] at h
    simp only [mapN, tru, ha h.2]
  | n3 => intro _; rfl
  | n2 o a b ha hb =>
    intro h
    simp only [ok, Bool.and_eq_true, Bool.or_eq_true, beq_iff_eq] at h
    rcases h with ⟨h0, h1, h2⟩ | ⟨h0, h1, h2⟩
    · rcases h0 with rfl | rfl
      · simp [mapN, hf.o 61 (by decide), tru, mapN_val hf hρ h1, mapN_val hf hρ h2]
      · simp [mapN, hf.o 60 (by decide), tru, mapN_val hf hρ h1, mapN_val hf hρ h2]
    · rcases h0 with rfl | rfl
      · simp [mapN, hf.o 38 (by decide), tru, ha h1, hb h2]
      · simp [mapN, hf.o 124 (by decide), tru, ha h1, hb h2]
end
theorem low_env {x y z : Int} : ∀ c, isV true c = true → envOf x y z 0 0 0 (low c) = envOf x y z x y z c := by
  intro c h
  rcases isV_cases h with rfl | rfl | rfl | rfl | rfl | rfl <;> simp [envOf, low]
theorem swp_env {x y z X Y Z : Int} : ∀ c, isV true c = true → envOf X Y Z x y z (swp c) = envOf x y z X Y Z c := by
  intro c h
  rcases isV_cases h with rfl | rfl | rfl | rfl | rfl | rfl <;> simp [envOf, swp]
/-- how far a map has gone -/
def prog (f : UInt8 → UInt8) (k : Nat) (l : List UInt8) : List UInt8 := (l.take k).map f ++ l.drop k
theorem prog_zero (f : UInt8 → UInt8) (l : List UInt8) : prog f 0 l = l := by simp [prog]
theorem prog_all (f : UInt8 → UInt8) {k : Nat} {l : List UInt8} (h : l.length ≤ k) : prog f k l = l.map f := by simp [prog, List.take_of_length_le h, List.drop_of_length_le h]
theorem prog_len (f : UInt8 → UInt8) (k : Nat) (l : List UInt8) : (prog f k l).length = l.length := by simp [prog]; omega
theorem prog_get (f : UInt8 → UInt8) {k : Nat} {l : List UInt8} (h : k < l.length) : (prog f k l)[k]'(by rw [prog_len]; exact h) = l[k] := by
  simp only [prog]
  rw [List.getElem_append_right (by simp; omega)]
  simp [Nat.min_eq_left (Nat.le_of_lt h)]
theorem prog_put (f : UInt8 → UInt8) {k : Nat} {l : List UInt8} (h : k < l.length) : (prog f k l).set k (f l[k]) = prog f (k + 1) l := by
  simp only [prog]
  rw [List.set_append, if_neg (by simp; omega)]
  have e : k - (List.map f (List.take k l)).length = 0 := by simp; omega
  rw [e, List.drop_eq_getElem_cons h, List.set_cons_zero, List.take_succ_eq_append_getElem h, List.map_append, List.append_assoc]
  rfl
theorem prog_skip (f : UInt8 → UInt8) {k : Nat} {l : List UInt8} (h : k < l.length) (hf : f l[k] = l[k]) : prog f (k + 1) l = prog f k l := by
  rw [← prog_put f h, hf]
  apply List.ext_getElem (by simp)
  intro i h1 h2
  by_cases hi : k = i
  · subst hi; rw [List.getElem_set_self]; exact (prog_get f h).symm
  · rw [List.getElem_set_ne (by omega)]

end Pl
end Go.Proofs.Ytppcghklkldnaaa
