/- The plain grammar of the program's texts: nodes, their texts, the reader with fuel, what is well formed, values and truths. No program in sight. -/
namespace Go.Proofs.Ytppcghklkldnaaa
namespace Pl

inductive Nd where
  | n0 (op : UInt8)
  | n1 (op : UInt8) (a : Nd)
  | n2 (op : UInt8) (a b : Nd)
  | n3 (op : UInt8) (a b c : Nd)

def Nd.op : Nd → UInt8
  | .n0 o => o | .n1 o _ => o | .n2 o _ _ => o | .n3 o _ _ _ => o
def Nd.kids : Nd → List Nd
  | .n0 _ => [] | .n1 _ a => [a] | .n2 _ a b => [a, b] | .n3 _ a b c => [a, b, c]
def Nd.text : Nd → List UInt8
  | .n0 o => [o] | .n1 o a => o :: a.text | .n2 o a b => o :: (a.text ++ b.text) | .n3 o a b c => o :: (a.text ++ (b.text ++ c.text))
def mk (o : UInt8) : List Nd → Nd
  | [] => .n0 o | [a] => .n1 o a | [a, b] => .n2 o a b | a :: b :: c :: _ => .n3 o a b c

theorem text_pos (k : Nd) : 0 < k.text.length := by cases k <;> simp [Nd.text]

/-- the letter of a variable: 120 to 122, and, of two states, 88 to 90 -/
def isV (wd : Bool) (c : UInt8) : Bool := (120 ≤ c && c ≤ 122) || (wd && (88 ≤ c && c ≤ 90))
def isD (c : UInt8) : Bool := 48 ≤ c && c ≤ 50
def isO (c : UInt8) : Bool := c == 43 || c == 45 || c == 42

def want (wd : Bool) (s : Nat) (c : UInt8) : Option (List Nat) :=
  match s with
  | 0 => if isV wd c || isD c then some [] else if isO c then some [0, 0] else none
  | 1 => if c == 116 || c == 102 then some [] else if c == 61 || c == 60 then some [0, 0] else if c == 33 then some [1] else if c == 38 || c == 124 then some [1, 1] else none
  | _ => if c == 115 then some [] else if c == 59 || c == 47 then some [2, 2] else if c == 63 then some [1, 2, 2] else if c == 64 then some [1, 2] else if c == 126 then some [1] else none

def rdL (f : Nat → List UInt8 → Option (Nd × List UInt8)) : List Nat → List UInt8 → Option (List Nd × List UInt8)
  | [], r => some ([], r)
  | s :: ws, r => match f s r with
    | none => none
    | some (k, r1) => match rdL f ws r1 with
      | none => none
      | some (ks, r2) => some (k :: ks, r2)

def rd (wd : Bool) : Nat → Nat → List UInt8 → Option (Nd × List UInt8)
  | 0, _, _ => none
  | _ + 1, _, [] => none
  | n + 1, s, c :: r =>
    if 2 ≤ s ∧ c = 97 then
      match r with
      | [] => none
      | v :: r1 => if isV wd v then (match rd wd n 0 r1 with
        | none => none
        | some (e, r2) => some (.n2 97 (.n0 v) e, r2)) else none
    else match want wd s c with
      | none => none
      | some ws => match rdL (rd wd n) ws r with
        | none => none
        | some (ks, r2) => some (mk c ks, r2)

def leaf (wd : Bool) : Nd → Bool
  | .n0 v => isV wd v
  | _ => false

def ok (wd : Bool) : Nat → Nd → Bool
  | 0, .n0 c => isV wd c || isD c
  | 0, .n2 o a b => isO o && (ok wd 0 a && ok wd 0 b)
  | 1, .n0 c => c == 116 || c == 102
  | 1, .n1 o a => o == 33 && ok wd 1 a
  | 1, .n2 o a b => ((o == 61 || o == 60) && (ok wd 0 a && ok wd 0 b)) || ((o == 38 || o == 124) && (ok wd 1 a && ok wd 1 b))
  | 2, .n0 c => c == 115
  | 2, .n1 o a => o == 126 && ok wd 1 a
  | 2, .n2 o a b => (o == 97 && (leaf wd a && ok wd 0 b)) || ((o == 59 || o == 47) && (ok wd 2 a && ok wd 2 b)) || (o == 64 && (ok wd 1 a && ok wd 2 b))
  | 2, .n3 o a b c => o == 63 && (ok wd 1 a && (ok wd 2 b && ok wd 2 c))
  | _, _ => false

theorem rd_sound (wd : Bool) : ∀ (n s : Nat) (l : List UInt8) (k : Nd) (r : List UInt8), s ≤ 2 → rd wd n s l = some (k, r) → l = k.text ++ r ∧ ok wd s k = true := by
  intro n
  induction n with
  | zero => intro s l k r _ h; simp [rd] at h
  | succ n ih =>
    intro s l k r hs h
    cases l with
    | nil => simp [rd] at h
    | cons c l =>
      unfold rd at h
      by_cases ha : 2 ≤ s ∧ c = 97
      · rw [if_pos ha] at h
        obtain ⟨h2, rfl⟩ := ha
        have : s = 2 := by omega
        subst this
        cases l with
        | nil => simp at h
        | cons v l =>
          simp only at h
          by_cases hv : isV wd v = true
          · rw [if_pos hv] at h
            cases he : rd wd n 0 l with
            | none => rw [he] at h; simp at h
            | some p =>
              obtain ⟨e, r2⟩ := p
              rw [he] at h
              simp only [Option.some.injEq, Prod.mk.injEq] at h
              obtain ⟨rfl, rfl⟩ := h
              obtain ⟨h1, h2⟩ := ih 0 l e r2 (by omega) he
              subst h1
              simp [Nd.text, ok, leaf, hv, h2]
          · rw [if_neg hv] at h; simp at h
      · rw [if_neg ha] at h
        cases hw : want wd s c with
        | none => rw [hw] at h; simp at h
        | some ws =>
          rw [hw] at h
          simp only at h
          cases hL : rdL (rd wd n) ws l with
          | none => rw [hL] at h; simp at h
          | some p =>
            obtain ⟨ks, r2⟩ := p
            rw [hL] at h
            simp only [Option.some.injEq, Prod.mk.injEq] at h
            obtain ⟨rfl, rfl⟩ := h
            have one : ∀ (a : Nat) (l1 : List UInt8) (q : List Nd × List UInt8), a ≤ 2 → rdL (rd wd n) [a] l1 = some q → ∃ k, q.1 = [k] ∧ l1 = k.text ++ q.2 ∧ ok wd a k = true := by
              intro a l1 q hal hq
              simp only [rdL] at hq
              cases h1 : rd wd n a l1 with
              | none => rw [h1] at hq; simp at hq
              | some p =>
                rw [h1] at hq
                simp only [Option.some.injEq] at hq
                subst hq
                exact ⟨p.1, rfl, ih a l1 p.1 p.2 hal h1⟩
            have more : ∀ (a : Nat) (ws : List Nat) (l1 : List UInt8) (q : List Nd × List UInt8), a ≤ 2 → rdL (rd wd n) (a :: ws) l1 = some q → ∃ k r1 ks, q.1 = k :: ks ∧ l1 = k.text ++ r1 ∧ ok wd a k = true ∧ rdL (rd wd n) ws r1 = some (ks, q.2) := by
              intro a ws l1 q hal hq
              simp only [rdL] at hq
              cases h1 : rd wd n a l1 with
              | none => rw [h1] at hq; simp at hq
              | some p =>
                rw [h1] at hq
                simp only at hq
                cases h2 : rdL (rd wd n) ws p.2 with
                | none => rw [h2] at hq; simp at hq
                | some p2 =>
                  rw [h2] at hq
                  simp only [Option.some.injEq] at hq
                  subst hq
                  exact ⟨p.1, p.2, p2.1, rfl, (ih a l1 p.1 p.2 hal h1).1, (ih a l1 p.1 p.2 hal h1).2, h2⟩
            have two : ∀ (a b : Nat), a ≤ 2 → b ≤ 2 → rdL (rd wd n) [a, b] l = some (ks, r2) → ∃ x y, ks = [x, y] ∧ l = x.text ++ (y.text ++ r2) ∧ ok wd a x = true ∧ ok wd b y = true := by
              intro a b hal hbl hq
              obtain ⟨x, r1, ks1, e1, e2, e3, e4⟩ := more a [b] l _ hal hq
              obtain ⟨y, f1, f2, f3⟩ := one b r1 _ hbl e4
              simp only at e1 f1 f2
              subst f1 e1 f2
              exact ⟨x, y, rfl, e2, e3, f3⟩
            match s, hs with
            | 0, _ =>
              simp only [want] at hw
              by_cases c1 : (isV wd c || isD c) = true
              · rw [if_pos c1] at hw
                obtain rfl := (Option.some.inj hw)
                simp only [rdL, Option.some.injEq, Prod.mk.injEq] at hL
                obtain ⟨rfl, rfl⟩ := hL
                exact ⟨by simp [mk, Nd.text], by simpa [mk, ok] using c1⟩
              · rw [if_neg c1] at hw
                by_cases c2 : isO c = true
                · rw [if_pos c2] at hw
                  obtain rfl := (Option.some.inj hw)
                  obtain ⟨x, y, rfl, rfl, h1, h2⟩ := two 0 0 (by omega) (by omega) hL
                  exact ⟨by simp [mk, Nd.text], by simp [mk, ok, c2, h1, h2]⟩
                · rw [if_neg c2] at hw; simp at hw
            | 1, _ =>
              simp only [want] at hw
              by_cases c1 : (c == 116 || c == 102) = true
              · rw [if_pos c1] at hw
                obtain rfl := (Option.some.inj hw)
                simp only [rdL, Option.some.injEq, Prod.mk.injEq] at hL
                obtain ⟨rfl, rfl⟩ := hL
                exact ⟨by simp [mk, Nd.text], by simpa [mk, ok] using c1⟩
              · rw [if_neg c1] at hw
                by_cases c2 : (c == 61 || c == 60) = true
                · rw [if_pos c2] at hw
                  obtain rfl := (Option.some.inj hw)
                  obtain ⟨x, y, rfl, rfl, h1, h2⟩ := two 0 0 (by omega) (by omega) hL
                  exact ⟨by simp [mk, Nd.text], by simp [mk, ok, h1, h2]; exact .inl (by simpa using c2)⟩
                · rw [if_neg c2] at hw
                  by_cases c3 : (c == 33) = true
                  · rw [if_pos c3] at hw
                    obtain rfl := (Option.some.inj hw)
                    obtain ⟨x, f1, f2, f3⟩ := one 1 l _ (by omega) hL
                    simp only at f1 f2
                    subst f1 f2
                    exact ⟨by simp [mk, Nd.text], by simp [mk, ok, f3]; simpa using c3⟩
                  · rw [if_neg c3] at hw
                    by_cases c4 : (c == 38 || c == 124) = true
                    · rw [if_pos c4] at hw
                      obtain rfl := (Option.some.inj hw)
                      obtain ⟨x, y, rfl, rfl, h1, h2⟩ := two 1 1 (by omega) (by omega) hL
                      exact ⟨by simp [mk, Nd.text], by simp [mk, ok, h1, h2]; exact .inr (by simpa using c4)⟩
                    · rw [if_neg c4] at hw; simp at hw
            | 2, _ =>
              simp only [want] at hw
              by_cases c1 : (c == 115) = true
              · rw [if_pos c1] at hw
                obtain rfl := (Option.some.inj hw)
                simp only [rdL, Option.some.injEq, Prod.mk.injEq] at hL
                obtain ⟨rfl, rfl⟩ := hL
                exact ⟨by simp [mk, Nd.text], by simpa [mk, ok] using c1⟩
              · rw [if_neg c1] at hw
                by_cases c2 : (c == 59 || c == 47) = true
                · rw [if_pos c2] at hw
                  obtain rfl := (Option.some.inj hw)
                  obtain ⟨x, y, rfl, rfl, h1, h2⟩ := two 2 2 (by omega) (by omega) hL
                  exact ⟨by simp [mk, Nd.text], by simp [mk, ok, h1, h2]; exact .inl (.inr (by simpa using c2))⟩
                · rw [if_neg c2] at hw
                  by_cases c3 : (c == 63) = true
                  · rw [if_pos c3] at hw
                    obtain rfl := (Option.some.inj hw)
                    obtain ⟨x, r1, ks1, e1, e2, e3, e4⟩ := more 1 [2, 2] l _ (by omega) hL
                    obtain ⟨y, r3, ks3, g1, g2, g3, g4⟩ := more 2 [2] r1 _ (by omega) e4
                    obtain ⟨z, f1, f2, f3⟩ := one 2 r3 _ (by omega) g4
                    simp only at e1 f1 f2 g1
                    subst f1 g1 e1 f2 g2 e2
                    exact ⟨by simp [mk, Nd.text], by simp [mk, ok, e3, g3, f3]; simpa using c3⟩
                  · rw [if_neg c3] at hw
                    by_cases c4 : (c == 64) = true
                    · rw [if_pos c4] at hw
                      obtain rfl := (Option.some.inj hw)
                      obtain ⟨x, y, rfl, rfl, h1, h2⟩ := two 1 2 (by omega) (by omega) hL
                      exact ⟨by simp [mk, Nd.text], by simp [mk, ok, h1, h2]; exact .inr (by simpa using c4)⟩
                    · rw [if_neg c4] at hw
                      by_cases c5 : (c == 126) = true
                      · rw [if_pos c5] at hw
                        obtain rfl := (Option.some.inj hw)
                        obtain ⟨x, f1, f2, f3⟩ := one 1 l _ (by omega) hL
                        simp only at f1 f2
                        subst f1 f2
                        exact ⟨by simp [mk, Nd.text], by simp [mk, ok, f3]; simpa using c5⟩
                      · rw [if_neg c5] at hw; simp at hw

theorem isO_cases {c : UInt8} (h : isO c = true) : c = 43 ∨ c = 45 ∨ c = 42 := by
  simp [isO] at h
  rcases h with (h | h) | h <;> simp [h]

theorem rd_complete (wd : Bool) : ∀ (n s : Nat) (k : Nd) (r : List UInt8), ok wd s k = true → k.text.length ≤ n → rd wd n s (k.text ++ r) = some (k, r) := by
  intro n
  induction n with
  | zero => intro s k r _ h; have := text_pos k; omega
  | succ n ih =>
    intro s k r hok hl
    match s, k, hok with
    | 0, .n0 c, h =>
      simp only [ok] at h
      simp [Nd.text, rd, want, h, rdL, mk]
    | 0, .n2 o a b, h =>
      simp only [ok, Bool.and_eq_true] at h
      obtain ⟨ho, ha, hb⟩ := h
      simp only [Nd.text, List.length_cons, List.length_append] at hl
      have e1 := ih 0 a (b.text ++ r) ha (by omega)
      have e2 := ih 0 b r hb (by omega)
      have hw : want wd 0 o = some [0, 0] := by rcases isO_cases ho with rfl | rfl | rfl <;> cases wd <;> rfl
      simp [Nd.text, rd, hw, rdL, e1, e2, mk]
    | 1, .n0 c, h =>
      simp only [ok] at h
      simp [Nd.text, rd, want, h, rdL, mk]
    | 1, .n1 o a, h =>
      simp only [ok, Bool.and_eq_true, beq_iff_eq] at h
      obtain ⟨rfl, ha⟩ := h
      simp only [Nd.text, List.length_cons] at hl
      have e1 := ih 1 a r ha (by omega)
      have hw : want wd 1 33 = some [1] := rfl
      simp [Nd.text, rd, hw, rdL, e1, mk]
    | 1, .n2 o a b, h =>
      simp only [Nd.text, List.length_cons, List.length_append] at hl
      simp only [ok, Bool.or_eq_true, Bool.and_eq_true, beq_iff_eq] at h
      rcases h with ⟨ho, ha, hb⟩ | ⟨ho, ha, hb⟩
      · have e1 := ih 0 a (b.text ++ r) ha (by omega)
        have e2 := ih 0 b r hb (by omega)
        have hw : want wd 1 o = some [0, 0] := by rcases ho with rfl | rfl <;> rfl
        simp [Nd.text, rd, hw, rdL, e1, e2, mk]
      · have e1 := ih 1 a (b.text ++ r) ha (by omega)
        have e2 := ih 1 b r hb (by omega)
        have hw : want wd 1 o = some [1, 1] := by rcases ho with rfl | rfl <;> rfl
        simp [Nd.text, rd, hw, rdL, e1, e2, mk]
    | 2, .n0 c, h =>
      simp only [ok, beq_iff_eq] at h
      subst h
      simp [Nd.text, rd, want, rdL, mk]
    | 2, .n1 o a, h =>
      simp only [ok, Bool.and_eq_true, beq_iff_eq] at h
      obtain ⟨rfl, ha⟩ := h
      simp only [Nd.text, List.length_cons] at hl
      have e1 := ih 1 a r ha (by omega)
      have hw : want wd 2 126 = some [1] := rfl
      simp [Nd.text, rd, hw, rdL, e1, mk]
    | 2, .n2 o a b, h =>
      simp only [Nd.text, List.length_cons, List.length_append] at hl
      simp only [ok, Bool.or_eq_true, Bool.and_eq_true, beq_iff_eq] at h
      rcases h with (⟨ho, ha, hb⟩ | ⟨ho, ha, hb⟩) | ⟨ho, ha, hb⟩
      · subst ho
        cases a <;> simp [leaf] at ha
        rename_i v
        have e2 := ih 0 b r hb (by omega)
        simp [Nd.text, rd, ha, e2]
      · have e1 := ih 2 a (b.text ++ r) ha (by omega)
        have e2 := ih 2 b r hb (by omega)
        have hw : want wd 2 o = some [2, 2] := by rcases ho with rfl | rfl <;> rfl
        have h97 : ¬ o = 97 := by rcases ho with rfl | rfl <;> decide
        simp [Nd.text, rd, hw, rdL, e1, e2, mk, h97]
      · subst ho
        have e1 := ih 1 a (b.text ++ r) ha (by omega)
        have e2 := ih 2 b r hb (by omega)
        have hw : want wd 2 64 = some [1, 2] := rfl
        simp [Nd.text, rd, hw, rdL, e1, e2, mk]
    | 2, .n3 o a b c, h =>
      simp only [Nd.text, List.length_cons, List.length_append] at hl
      simp only [ok, Bool.and_eq_true, beq_iff_eq] at h
      obtain ⟨rfl, ha, hb, hc⟩ := h
      have e1 := ih 1 a (b.text ++ (c.text ++ r)) ha (by omega)
      have e2 := ih 2 b (c.text ++ r) hb (by omega)
      have e3 := ih 2 c r hc (by omega)
      have hw : want wd 2 63 = some [1, 2, 2] := rfl
      simp [Nd.text, rd, hw, rdL, e1, e2, e3, mk]
    | m + 3, k, h => cases k <;> simp [ok] at h

theorem ok_le {wd : Bool} {s : Nat} {k : Nd} (h : ok wd s k = true) : s ≤ 2 := by
  match s, h with
  | 0, _ => omega
  | 1, _ => omega
  | 2, _ => omega
  | n + 3, h => cases k <;> simp [ok] at h

/-- a prefix code -/
theorem text_inj {wd : Bool} {s : Nat} {k k' : Nd} {r r' : List UInt8} (h : ok wd s k = true) (h' : ok wd s k' = true) (e : k.text ++ r = k'.text ++ r') : k = k' ∧ r = r' := by
  have h1 := rd_complete wd (k.text.length + k'.text.length) s k r h (by omega)
  have h2 := rd_complete wd (k.text.length + k'.text.length) s k' r' h' (by omega)
  rw [e, h2] at h1
  simp only [Option.some.injEq, Prod.mk.injEq] at h1
  exact ⟨h1.1.symm, h1.2.symm⟩

/-- more fuel than letters changes nothing -/
theorem rd_fuel {wd : Bool} {n m s : Nat} {l : List UInt8} (hs : s ≤ 2) (hn : l.length ≤ n) (hm : l.length ≤ m) : rd wd n s l = rd wd m s l := by
  cases h1 : rd wd n s l with
  | some p =>
    obtain ⟨k, r⟩ := p
    obtain ⟨rfl, h2⟩ := rd_sound wd n s l k r hs h1
    rw [rd_complete wd m s k r h2 (by simp at hm; omega)]
  | none =>
    cases h2 : rd wd m s l with
    | none => rfl
    | some p =>
      obtain ⟨k, r⟩ := p
      obtain ⟨rfl, h3⟩ := rd_sound wd m s l k r hs h2
      rw [rd_complete wd n s k r h3 (by simp at hn; omega)] at h1
      cases h1

/-- the whole text -/
def whole (wd : Bool) (s most : Nat) (l : List UInt8) : Option Nd :=
  if l.length ≤ most then match rd wd l.length s l with
    | some (k, []) => some k
    | _ => none else none

theorem whole_iff {wd : Bool} {s most : Nat} {l : List UInt8} {k : Nd} (hs : s ≤ 2) : whole wd s most l = some k ↔ l.length ≤ most ∧ ok wd s k = true ∧ l = k.text := by
  unfold whole
  constructor
  · intro h
    by_cases hl : l.length ≤ most
    · rw [if_pos hl] at h
      cases h1 : rd wd l.length s l with
      | none => rw [h1] at h; simp at h
      | some p =>
        obtain ⟨k', r⟩ := p
        rw [h1] at h
        cases r with
        | nil =>
          simp only [Option.some.injEq] at h
          subst h
          obtain ⟨e, h2⟩ := rd_sound wd _ s l _ _ hs h1
          exact ⟨hl, h2, by simpa using e⟩
        | cons x r => simp at h
    · rw [if_neg hl] at h; cases h
  · rintro ⟨hl, h, rfl⟩
    rw [if_pos hl]
    have := rd_complete wd k.text.length s k [] h (by omega)
    simp only [List.append_nil] at this
    rw [this]

theorem whole_text {wd : Bool} {s most : Nat} {k : Nd} (h : ok wd s k = true) (hl : k.text.length ≤ most) : whole wd s most k.text = some k :=
  (whole_iff (ok_le h)).2 ⟨hl, h, rfl⟩

theorem whole_none {wd : Bool} {s most : Nat} {l : List UInt8} (h : whole wd s most l = none) {k : Nd} (hk : ok wd s k = true) (hl : l.length ≤ most) : l ≠ k.text := by
  rintro rfl
  rw [whole_text hk hl] at h
  cases h

/-- what a valid narrow text is, is so of two states, too -/
theorem isV_wide {c : UInt8} (h : isV false c = true) (wd : Bool) : isV wd c = true := by
  simp only [isV, Bool.false_and, Bool.or_false] at h
  simp [isV, h]
theorem ok_wide {wd : Bool} : ∀ {k : Nd} {s : Nat}, ok false s k = true → ok wd s k = true := by
  have hleaf : ∀ a, leaf false a = true → leaf wd a = true := by
    intro a h; cases a <;> simp [leaf] at h ⊢; exact isV_wide h wd
  intro k
  induction k with
  | n0 c =>
    intro s h
    match s, h with
    | 0, h => simp only [ok, Bool.or_eq_true] at h ⊢; exact h.imp (fun h => isV_wide h wd) id
    | 1, h => exact h
    | 2, h => exact h
  | n1 o a ha =>
    intro s h
    match s, h with
    | 1, h => simp only [ok, Bool.and_eq_true] at h ⊢; exact ⟨h.1, ha h.2⟩
    | 2, h => simp only [ok, Bool.and_eq_true] at h ⊢; exact ⟨h.1, ha h.2⟩
  | n2 o a b ha hb =>
    intro s h
    match s, h with
    | 0, h => simp only [ok, Bool.and_eq_true] at h ⊢; exact ⟨h.1, ha h.2.1, hb h.2.2⟩
    | 1, h => simp only [ok, Bool.and_eq_true, Bool.or_eq_true] at h ⊢; exact h.imp (fun h => ⟨h.1, ha h.2.1, hb h.2.2⟩) (fun h => ⟨h.1, ha h.2.1, hb h.2.2⟩)
    | 2, h => simp only [ok, Bool.and_eq_true, Bool.or_eq_true] at h ⊢; exact h.imp (fun h => h.imp (fun h => ⟨h.1, hleaf _ h.2.1, hb h.2.2⟩) (fun h => ⟨h.1, ha h.2.1, hb h.2.2⟩)) (fun h => ⟨h.1, ha h.2.1, hb h.2.2⟩)
  | n3 o a b c ha hb hc =>
    intro s h
    match s, h with
    | 2, h => simp only [ok, Bool.and_eq_true] at h ⊢; exact ⟨h.1, ha h.2.1, hb h.2.2.1, hc h.2.2.2⟩

/-! ### values and truths -/
def val (ρ : UInt8 → Int) : Nd → Int
  | .n0 c => if isD c then (c.toNat : Int) - 48 else ρ c
  | .n2 o a b => if o == 43 then (val ρ a + val ρ b) % 3 else if o == 45 then (val ρ a - val ρ b + 3) % 3 else val ρ a * val ρ b % 3
  | _ => 0
def tru (ρ : UInt8 → Int) : Nd → Bool
  | .n0 c => c == 116
  | .n1 _ a => !tru ρ a
  | .n2 o a b => if o == 61 then val ρ a == val ρ b else if o == 60 then decide (val ρ a < val ρ b) else if o == 38 then tru ρ a && tru ρ b else tru ρ a || tru ρ b
  | _ => false
/-- the values of two states -/
def envOf (x y z X Y Z : Int) (c : UInt8) : Int :=
  if c = 120 then x else if c = 121 then y else if c = 122 then z else if c = 88 then X else if c = 89 then Y else Z
def small (n : Int) : Prop := 0 ≤ n ∧ n ≤ 2
theorem envOf_small {x y z X Y Z : Int} (hx : small x) (hy : small y) (hz : small z) (hX : small X) (hY : small Y) (hZ : small Z) (c : UInt8) : small (envOf x y z X Y Z c) := by
  unfold envOf
  repeat' split
  all_goals assumption
theorem isD_range {c : UInt8} (h : isD c = true) : 48 ≤ c.toNat ∧ c.toNat ≤ 50 := by
  simp only [isD, Bool.and_eq_true, decide_eq_true_eq, UInt8.le_iff_toNat_le] at h
  exact h
theorem val_small {ρ : UInt8 → Int} (hρ : ∀ c, small (ρ c)) : ∀ k, small (val ρ k) := by
  intro k
  unfold small at *
  induction k with
  | n0 c =>
    simp only [val]
    split
    · rename_i h; have := isD_range h; omega
    · exact hρ c
  | n2 o a b ha hb => simp only [val]; repeat' split
                      all_goals omega
  | n1 | n3 => simp [val]


end Pl
end Go.Proofs.Ytppcghklkldnaaa
