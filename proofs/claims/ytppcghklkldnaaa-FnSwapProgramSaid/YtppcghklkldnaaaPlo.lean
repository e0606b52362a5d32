/- Plain: two letters exchanged in a program. -/
import Derived.Test.YtppcghklkldnaaaPlg
import Derived.Test.YtppcghklkldnaaaPlk
namespace Go.Proofs.Ytppcghklkldnaaa
namespace Pl

def xch (v u c : UInt8) : UInt8 := if c = v then u else if c = u then v else c
theorem xch_sym (v u c : UInt8) : xch v u c = xch u v c := by
  unfold xch
  by_cases h1 : c = v
  · by_cases h2 : c = u
    · subst h1; simp [h2]
    · simp [h1]; intro h; exact absurd (h1.trans h) h2
  · by_cases h2 : c = u
    · subst h2; simp [h1]
    · simp [h1, h2]
theorem xch_xch (v u c : UInt8) : xch v u (xch v u c) = c := by
  by_cases h1 : c = v
  · subst h1
    by_cases h3 : u = c
    · simp [xch, h3]
    · simp [xch, h3]
  · by_cases h2 : c = u
    · subst h2; simp [xch, h1]
    · simp [xch, h1, h2]
theorem xch_map (v u : UInt8) (l : List UInt8) : (l.map (xch v u)).map (xch v u) = l := by
  rw [List.map_map]
  have : xch v u ∘ xch v u = id := by funext c; exact xch_xch v u c
  rw [this, List.map_id]
theorem mem_xch {v u : UInt8} {l : List UInt8} : v ∈ l.map (xch v u) ↔ u ∈ l := by
  rw [List.mem_map]
  constructor
  · rintro ⟨c, hc, e⟩
    have : c = u := by
      have := congrArg (xch v u) e
      rw [xch_xch] at this
      rw [this]; simp [xch]
    exact this ▸ hc
  · intro h
    refine ⟨u, h, ?_⟩
    unfold xch
    by_cases h1 : u = v
    · simp [h1]
    · simp [h1]
structure Kp (f : UInt8 → UInt8) : Prop where
  v : ∀ c, isV false c = true → isV false (f c) = true
  o : ∀ c, isV false c = false → f c = c
theorem xch_kp {v u : UInt8} (hv : isV false v = true) (hu : isV false u = true) : Kp (xch v u) := by
  refine ⟨fun c h => ?_, fun c h => ?_⟩
  · unfold xch
    split
    · exact hu
    · split
      · exact hv
      · exact h
  · unfold xch
    rw [if_neg (by rintro rfl; rw [hv] at h; cases h), if_neg (by rintro rfl; rw [hu] at h; cases h)]
section
variable {f : UInt8 → UInt8} (hf : Kp f)
include hf
theorem kp_c {c : UInt8} (h : isV false c = false := by decide) : f c = c := hf.o c h
theorem kp_ok : ∀ {k : Nd} {s : Nat}, s ≤ 2 → ok false s k = true → ok false s (mapN f k) = true := by
  intro k
  induction k with
  | n0 c =>
    intro s hs h
    match s, hs with
    | 0, _ =>
      simp only [ok, mapN, Bool.or_eq_true] at h ⊢
      by_cases hv : isV false c = true
      · exact .inl (hf.v c hv)
      · rw [hf.o c (by simpa using hv)]; exact h
    | 1, _ =>
      simp only [ok, mapN, Bool.or_eq_true, beq_iff_eq] at h ⊢
      rcases h with rfl | rfl
      · exact .inl (kp_c hf)
      · exact .inr (kp_c hf)
    | 2, _ =>
      simp only [ok, mapN, beq_iff_eq] at h ⊢
      subst h; exact kp_c hf
  | n1 o a ha =>
    intro s hs h
    match s, hs with
    | 0, _ => simp [ok] at h
    | 1, _ =>
      simp only [ok, mapN, Bool.and_eq_true, beq_iff_eq] at h ⊢
      obtain ⟨rfl, h⟩ := h
      exact ⟨kp_c hf, ha (by omega) h⟩
    | 2, _ =>
      simp only [ok, mapN, Bool.and_eq_true, beq_iff_eq] at h ⊢
      obtain ⟨rfl, h⟩ := h
      exact ⟨kp_c hf, ha (by omega) h⟩
  | n2 o a b ha hb =>
    intro s hs h
    match s, hs with
    | 0, _ =>
      simp only [ok, mapN, Bool.and_eq_true] at h ⊢
      obtain ⟨h1, h2, h3⟩ := h
      have : f o = o := by rcases isO_cases h1 with rfl | rfl | rfl <;> exact kp_c hf
      rw [this]
      exact ⟨h1, ha (by omega) h2, hb (by omega) h3⟩
    | 1, _ =>
      simp only [ok, mapN, Bool.and_eq_true, Bool.or_eq_true, beq_iff_eq] at h ⊢
      rcases h with ⟨h1, h2, h3⟩ | ⟨h1, h2, h3⟩
      · have : f o = o := by rcases h1 with rfl | rfl <;> exact kp_c hf
        rw [this]
        exact .inl ⟨h1, ha (by omega) h2, hb (by omega) h3⟩
      · have : f o = o := by rcases h1 with rfl | rfl <;> exact kp_c hf
        rw [this]
        exact .inr ⟨h1, ha (by omega) h2, hb (by omega) h3⟩
    | 2, _ =>
      simp only [ok, mapN, Bool.and_eq_true, Bool.or_eq_true, beq_iff_eq] at h ⊢
      rcases h with (⟨h1, h2, h3⟩ | ⟨h1, h2, h3⟩) | ⟨h1, h2, h3⟩
      · subst h1
        refine .inl (.inl ⟨kp_c hf, ?_, hb (by omega) h3⟩)
        cases a <;> simp [leaf, mapN] at h2 ⊢
        exact hf.v _ h2
      · have : f o = o := by rcases h1 with rfl | rfl <;> exact kp_c hf
        rw [this]
        exact .inl (.inr ⟨h1, ha (by omega) h2, hb (by omega) h3⟩)
      · subst h1
        exact .inr ⟨kp_c hf, ha (by omega) h2, hb (by omega) h3⟩
  | n3 o a b c ha hb hc =>
    intro s hs h
    match s, hs with
    | 0, _ => simp [ok] at h
    | 1, _ => simp [ok] at h
    | 2, _ =>
      simp only [ok, mapN, Bool.and_eq_true, beq_iff_eq] at h ⊢
      obtain ⟨rfl, h1, h2, h3⟩ := h
      exact ⟨kp_c hf, ha (by omega) h1, hb (by omega) h2, hc (by omega) h3⟩
theorem kp_op {k : Nd} (h : ok false 2 k = true) : (mapN f k).op = k.op := by
  rcases ok2_head h with rfl | ⟨v, e, rfl, hv, he⟩ | ⟨o, x, y, rfl, ho, hx, hy⟩ | ⟨t, x, y, rfl, ht, hx, hy⟩ | ⟨t, x, rfl, ht, hx⟩ | ⟨t, rfl, ht⟩
  · exact kp_c hf
  · exact kp_c hf
  · rcases ho with rfl | rfl <;> exact kp_c hf
  · exact kp_c hf
  · exact kp_c hf
  · exact kp_c hf
theorem kp_stm : ∀ {k : Nd}, ok false 2 k = true → stm (mapN f k) = (stm k).map (mapN f) := by
  intro k
  induction k with
  | n0 c => intro _; rfl
  | n1 o a _ => intro _; rfl
  | n2 o a b ha hb =>
    intro h
    simp only [ok, Bool.and_eq_true, Bool.or_eq_true, beq_iff_eq] at h
    rcases h with (⟨h1, h2, h3⟩ | ⟨h1, h2, h3⟩) | ⟨h1, h2, h3⟩
    · subst h1
      have e := kp_c hf (c := 97)
      simp [stm, mapN, e]
    · have n0 : ¬ o = 97 := by rcases h1 with rfl | rfl <;> decide
      have n1 : ¬ o = 64 := by rcases h1 with rfl | rfl <;> decide
      have e : f o = o := by rcases h1 with rfl | rfl <;> exact kp_c hf
      simp [stm, mapN, e, n0, n1, ha h2, hb h3]
    · subst h1
      have e := kp_c hf (c := 64)
      simp [stm, mapN, e, hb h3]
  | n3 o t a b _ ha hb =>
    intro h
    simp only [ok, Bool.and_eq_true] at h
    simp [stm, mapN, ha h.2.2.1, hb h.2.2.2]
theorem kp_head {k : Nd} (h : ok false 2 k = true) : headN (mapN f k) = (headN k).map f := by
  rcases ok2_head h with rfl | ⟨v, e, rfl, hv, he⟩ | ⟨o, x, y, rfl, ho, hx, hy⟩ | ⟨t, x, y, rfl, ht, hx, hy⟩ | ⟨t, x, rfl, ht, hx⟩ | ⟨t, rfl, ht⟩
  · rfl
  · have e := kp_c hf (c := 97)
    simp [headN, mapN, e, mapN_text, Nd.text]
  · have n0 : ¬ o = 97 := by rcases ho with rfl | rfl <;> decide
    have n1 : ¬ o = 64 := by rcases ho with rfl | rfl <;> decide
    have e : f o = o := by rcases ho with rfl | rfl <;> exact kp_c hf
    simp [headN, mapN, e, n0, n1]
  · simp [headN, mapN, mapN_text]
  · have e := kp_c hf (c := 64)
    simp [headN, mapN, e, mapN_text]
  · simp [headN, mapN, mapN_text]
theorem kp_rds {k : Nd} (h : ok false 2 k = true) : rdsN (mapN f k) = (rdsN k).map f := by
  unfold rdsN
  rw [kp_op hf h, kp_head hf h]
  split
  · rw [List.map_drop]
  · rfl
theorem kp_wrs {k : Nd} (h : ok false 2 k = true) : wrsN (mapN f k) = (wrsN k).map f := by
  unfold wrsN
  rw [kp_op hf h, kp_head hf h]
  split
  · rw [List.map_take]
  · rfl
theorem kp_cat {g : Nd → List UInt8} (hg : ∀ k, ok false 2 k = true → g (mapN f k) = (g k).map f) {k : Nd} (h : ok false 2 k = true) : catN g (stm (mapN f k)) = (catN g (stm k)).map f := by
  rw [kp_stm hf h]
  have hs := stm_ok h
  generalize stm k = l at hs
  induction l with
  | nil => rfl
  | cons x l ih =>
    simp only [List.map_cons, catN, List.map_append]
    rw [hg x (hs x (by simp)), ih (fun y hy => hs y (by simp [hy]))]
end

end Pl
end Go.Proofs.Ytppcghklkldnaaa
