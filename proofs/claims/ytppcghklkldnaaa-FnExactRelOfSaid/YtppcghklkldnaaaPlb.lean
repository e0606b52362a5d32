/- Plain: the first place of a letter, and where a text that begins at a place ends. -/
import Derived.Test.YtppcghklkldnaaaPl
namespace Go.Proofs.Ytppcghklkldnaaa
namespace Pl

/-- the index of the first such letter, or -1 -/
def fnd (l : List UInt8) (c : UInt8) : Int :=
  match l with
  | [] => -1
  | x :: r => if x = c then 0 else if fnd r c < 0 then -1 else fnd r c + 1

theorem fnd_range (c : UInt8) : ∀ l : List UInt8, -1 ≤ fnd l c ∧ fnd l c < l.length ∧ (fnd l c < 0 → fnd l c = -1)
  | [] => by simp [fnd]
  | x :: r => by
    have := fnd_range c r
    simp only [fnd, List.length_cons]
    split
    · omega
    · split <;> omega
theorem fnd_found {c : UInt8} : ∀ {l : List UInt8} {k : Nat} (h : k < l.length), l[k] = c → (∀ j (hj : j < k), l[j]'(by omega) ≠ c) → fnd l c = k
  | x :: r, 0, _, h0, _ => by simp at h0; simp [fnd, h0]
  | x :: r, k + 1, h, h0, hj => by
    have h1 := fnd_found (l := r) (k := k) (by simpa using h) (by simpa using h0) (fun j hjk => by have := hj (j + 1) (by omega); simpa using this)
    have h2 := hj 0 (by omega)
    simp only [List.getElem_cons_zero] at h2
    rw [fnd, if_neg h2, h1, if_neg (by omega)]
    omega
theorem fnd_none {c : UInt8} : ∀ {l : List UInt8}, (∀ j (hj : j < l.length), l[j] ≠ c) → fnd l c = -1
  | [], _ => rfl
  | x :: r, h => by
    have h1 := fnd_none (l := r) (fun j hj => by have := h (j + 1) (by simpa using hj); simpa using this)
    have h2 := h 0 (by simp)
    simp only [List.getElem_cons_zero] at h2
    rw [fnd, if_neg h2, h1]
    rfl
theorem fnd_mem {c : UInt8} : ∀ {l : List UInt8}, 0 ≤ fnd l c ↔ c ∈ l
  | [] => by simp [fnd]
  | x :: r => by
    have ih := fnd_mem (c := c) (l := r)
    simp only [fnd, List.mem_cons]
    by_cases h : x = c
    · simp [h]
    · rw [if_neg h]
      by_cases h2 : fnd r c < 0
      · rw [if_pos h2]
        have : ¬ c ∈ r := fun hm => by have := ih.2 hm; omega
        simp [this]
        exact fun e => h e.symm
      · rw [if_neg h2]
        have : c ∈ r := ih.1 (by omega)
        simp [this]
        omega

def nmsN : List UInt8 := [120, 121, 122]
def nmsW : List UInt8 := [120, 121, 122, 88, 89, 90]
def nms (wd : Bool) : List UInt8 := if wd then nmsW else nmsN
theorem mem_nms {wd : Bool} {c : UInt8} : c ∈ nms wd ↔ isV wd c = true := by
  have hc := c.toNat_lt
  have e : ∀ n : Nat, n < 256 → (c = UInt8.ofNat n ↔ c.toNat = n) := fun n hn => ⟨fun h => by rw [h, UInt8.toNat_ofNat']; exact Nat.mod_eq_of_lt hn, fun h => by apply UInt8.toNat_inj.1; rw [h, UInt8.toNat_ofNat']; exact (Nat.mod_eq_of_lt hn).symm⟩
  have e1 : c = 120 ↔ c.toNat = 120 := e 120 (by decide)
  have e2 : c = 121 ↔ c.toNat = 121 := e 121 (by decide)
  have e3 : c = 122 ↔ c.toNat = 122 := e 122 (by decide)
  have e4 : c = 88 ↔ c.toNat = 88 := e 88 (by decide)
  have e5 : c = 89 ↔ c.toNat = 89 := e 89 (by decide)
  have e6 : c = 90 ↔ c.toNat = 90 := e 90 (by decide)
  simp only [isV, Bool.or_eq_true, Bool.and_eq_true, decide_eq_true_eq, UInt8.le_iff_toNat_le, UInt8.reduceToNat]
  cases wd
  · simp [nms, nmsN, e1, e2, e3]; omega
  · simp [nms, nmsW, e1, e2, e3, e4, e5, e6]; omega
theorem mem_digs {c : UInt8} : c ∈ ([48, 49, 50] : List UInt8) ↔ isD c = true := by
  have e : ∀ n : Nat, n < 256 → (c = UInt8.ofNat n ↔ c.toNat = n) := fun n hn => ⟨fun h => by rw [h, UInt8.toNat_ofNat']; exact Nat.mod_eq_of_lt hn, fun h => by apply UInt8.toNat_inj.1; rw [h, UInt8.toNat_ofNat']; exact (Nat.mod_eq_of_lt hn).symm⟩
  have e1 : c = 48 ↔ c.toNat = 48 := e 48 (by decide)
  have e2 : c = 49 ↔ c.toNat = 49 := e 49 (by decide)
  have e3 : c = 50 ↔ c.toNat = 50 := e 50 (by decide)
  simp only [isD, Bool.and_eq_true, decide_eq_true_eq, UInt8.le_iff_toNat_le, UInt8.reduceToNat]
  simp [e1, e2, e3]; omega
theorem mem_ops {c : UInt8} : c ∈ ([43, 45, 42] : List UInt8) ↔ isO c = true := by
  simp [isO, or_assoc]
/-- the cell of a letter's value -/
theorem fnd_nmsW {c : UInt8} (h : isV true c = true) : (fnd nmsW c = 0 ∧ c = 120) ∨ (fnd nmsW c = 1 ∧ c = 121) ∨ (fnd nmsW c = 2 ∧ c = 122) ∨ (fnd nmsW c = 3 ∧ c = 88) ∨ (fnd nmsW c = 4 ∧ c = 89) ∨ (fnd nmsW c = 5 ∧ c = 90) := by
  have hm := mem_nms.2 h
  simp only [nms, if_true, nmsW, List.mem_cons, List.not_mem_nil, or_false] at hm
  rcases hm with rfl | rfl | rfl | rfl | rfl | rfl
  · exact .inl ⟨by decide, rfl⟩
  · exact .inr (.inl ⟨by decide, rfl⟩)
  · exact .inr (.inr (.inl ⟨by decide, rfl⟩))
  · exact .inr (.inr (.inr (.inl ⟨by decide, rfl⟩)))
  · exact .inr (.inr (.inr (.inr (.inl ⟨by decide, rfl⟩))))
  · exact .inr (.inr (.inr (.inr (.inr ⟨by decide, rfl⟩))))
theorem fnd_nmsW_neg {c : UInt8} (h : isV true c = false) : fnd nmsW c = -1 := by
  have h1 : ¬ 0 ≤ fnd nmsW c := fun h0 => by
    have h2 : c ∈ nms true := fnd_mem.1 h0
    rw [mem_nms.1 h2] at h; cases h
  have := fnd_range c nmsW
  omega

/-- where the text of a sort that begins at a place ends, or -1 -/
def endOf (wd : Bool) (so : Nat) (l : List UInt8) (z : Int) : Int :=
  if z < 0 then -1 else match rd wd l.length so (l.drop z.toNat) with
  | none => -1
  | some (_, r) => ((l.length - r.length : Nat) : Int)

theorem endOf_neg {wd : Bool} {so : Nat} {l : List UInt8} {z : Int} (h : z < 0) : endOf wd so l z = -1 := by rw [endOf, if_pos h]
theorem endOf_out {wd : Bool} {so : Nat} {l : List UInt8} {z : Int} (h : (l.length : Int) ≤ z) : endOf wd so l z = -1 := by
  rw [endOf]
  split
  · rfl
  · rw [List.drop_of_length_le (by omega)]
    cases l.length <;> rfl
theorem endOf_range {wd : Bool} {so : Nat} {l : List UInt8} {z : Int} (hs : so ≤ 2) : endOf wd so l z = -1 ∨ (z < endOf wd so l z ∧ 0 ≤ z ∧ endOf wd so l z ≤ l.length) := by
  by_cases h : z < 0
  · exact .inl (endOf_neg h)
  · rw [endOf, if_neg h]
    cases hr : rd wd l.length so (l.drop z.toNat) with
    | none => exact .inl rfl
    | some p =>
      obtain ⟨k, r⟩ := p
      obtain ⟨e, _⟩ := rd_sound wd _ _ _ _ _ hs hr
      have hl := congrArg List.length e
      have := text_pos k
      simp only [List.length_drop, List.length_append] at hl
      refine .inr ⟨?_, by omega, ?_⟩ <;> simp only <;> omega
/-- what begins here is a text: it ends behind it -/
theorem endOf_text {wd : Bool} {so : Nat} {l r : List UInt8} {p : Nat} {k : Nd} (hk : ok wd so k = true) (h : l.drop p = k.text ++ r) : endOf wd so l p = (p + k.text.length : Nat) ∧ l.drop (p + k.text.length) = r := by
  have hl := congrArg List.length h
  have hp := text_pos k
  simp only [List.length_drop, List.length_append] at hl
  refine ⟨?_, by rw [← List.drop_drop, h]; simp⟩
  rw [endOf, if_neg (by omega), Int.toNat_natCast, h, rd_complete wd _ _ _ _ hk (by omega)]
  simp only
  omega
theorem endOf_some {wd : Bool} {so : Nat} {l : List UInt8} {z : Int} (hs : so ≤ 2) (h : 0 ≤ endOf wd so l z) : ∃ k r, ok wd so k = true ∧ 0 ≤ z ∧ l.drop z.toNat = k.text ++ r := by
  by_cases hz : z < 0
  · rw [endOf_neg hz] at h; omega
  · rw [endOf, if_neg hz] at h
    cases hr : rd wd l.length so (l.drop z.toNat) with
    | none => rw [hr] at h; simp at h
    | some p =>
      obtain ⟨k, r⟩ := p
      obtain ⟨e, h2⟩ := rd_sound wd _ _ _ _ _ hs hr
      exact ⟨k, r, h2, by omega, e⟩

theorem rdL_one {f : Nat → List UInt8 → Option (Nd × List UInt8)} {s : Nat} {l : List UInt8} : rdL f [s] l = (match f s l with | none => none | some (k, r) => some ([k], r)) := by
  simp only [rdL]
  cases f s l <;> rfl

/-- an end, as one reads on: 'from this end on, a text of the next sort' -/
theorem end_chain {wd : Bool} {n : Nat} {l : List UInt8} {p : Nat} {s : Nat} (hs : s ≤ 2) (hn : l.length ≤ n) :
    endOf wd s l p = (match rd wd n s (l.drop p) with | none => -1 | some (_, r) => ((l.length - r.length : Nat) : Int)) := by
  rw [endOf, if_neg (by omega), Int.toNat_natCast, rd_fuel (n := l.length) (m := n) hs (by simp) (by simp; omega)]
theorem drop_end {wd : Bool} {n : Nat} {l r : List UInt8} {p : Nat} {s : Nat} {k : Nd} (hs : s ≤ 2) (h : rd wd n s (l.drop p) = some (k, r)) : l.drop (l.length - r.length) = r := by
  obtain ⟨e, _⟩ := rd_sound wd _ _ _ _ _ hs h
  have hl := congrArg List.length e
  simp only [List.length_drop, List.length_append] at hl
  have hp := text_pos k
  have h2 : l.length - r.length = p + k.text.length := by omega
  rw [h2, ← List.drop_drop, e]
  simp

/-- the ends of a list of wanted sorts, one behind the other -/
def ends (wd : Bool) (l : List UInt8) : List Nat → Int → Int
  | [], z => z
  | s :: ws, z => ends wd l ws (endOf wd s l z)
theorem ends_neg {wd : Bool} {l : List UInt8} : ∀ (ws : List Nat), ends wd l ws (-1) = -1
  | [] => rfl
  | s :: ws => by rw [ends, endOf_neg (by omega)]; exact ends_neg ws
theorem ends_rdL {wd : Bool} {n : Nat} {l : List UInt8} (hn : l.length ≤ n) : ∀ (ws : List Nat) (p : Nat), (∀ s ∈ ws, s ≤ 2) → p ≤ l.length →
    ends wd l ws p = (match rdL (rd wd n) ws (l.drop p) with | none => -1 | some (_, r) => ((l.length - r.length : Nat) : Int))
  | [], p, _, hp => by
    have : l.length - (l.length - p) = p := by omega
    simp [ends, rdL, this]
  | s :: ws, p, hs, hp => by
    rw [ends, end_chain (n := n) (hs s (by simp)) hn]
    simp only [rdL]
    cases h : rd wd n s (l.drop p) with
    | none => exact ends_neg ws
    | some q =>
      obtain ⟨k, r⟩ := q
      simp only
      have hd := drop_end (hs s (by simp)) h
      rw [ends_rdL hn ws (l.length - r.length) (fun s hs' => hs s (by simp [hs'])) (by omega), hd]
      cases rdL (rd wd n) ws r <;> rfl

/-- the end of a text whose first letter is known -/
theorem endOf_step {wd : Bool} {so : Nat} {l : List UInt8} {p : Nat} (hs : so ≤ 2) (hp : p < l.length) (h97 : ¬ (2 ≤ so ∧ l[p] = 97)) :
    endOf wd so l p = (match want wd so l[p] with | none => -1 | some ws => ends wd l ws ((p : Int) + 1)) := by
  rw [end_chain (n := l.length + 1) hs (by omega), List.drop_eq_getElem_cons hp]
  unfold rd
  rw [if_neg h97]
  cases hw : want wd so l[p] with
  | none => rfl
  | some ws =>
    simp only
    have hws : ∀ s ∈ ws, s ≤ 2 := by
      have hc : ws = [] ∨ ws = [0, 0] ∨ ws = [1] ∨ ws = [1, 1] ∨ ws = [2, 2] ∨ ws = [1, 2, 2] ∨ ws = [1, 2] := by
        unfold want at hw
        repeat' split at hw
        all_goals first | (injection hw with hw; subst hw; simp; done) | cases hw
      rcases hc with rfl | rfl | rfl | rfl | rfl | rfl | rfl <;> simp
    have e := ends_rdL (wd := wd) (n := l.length) (Nat.le_refl _) ws (p + 1) hws (by omega)
    rw [show ((p : Int) + 1) = ((p + 1 : Nat) : Int) by omega, e]
    cases rdL (rd wd l.length) ws (l.drop (p + 1)) <;> rfl
/-- .. of an assignment -/
theorem endOf_set {wd : Bool} {l : List UInt8} {p : Nat} (hp : p < l.length) (h97 : l[p] = 97) :
    endOf wd 2 l p = (if h : p + 1 < l.length then (if isV wd l[p + 1] then endOf wd 0 l ((p : Int) + 2) else -1) else -1) := by
  rw [end_chain (n := l.length + 1) (by omega) (by omega), List.drop_eq_getElem_cons hp]
  unfold rd
  rw [if_pos ⟨by omega, h97⟩]
  by_cases h : p + 1 < l.length
  · rw [dif_pos h, List.drop_eq_getElem_cons h]
    simp only
    by_cases hv : isV wd l[p + 1] = true
    · rw [if_pos hv, if_pos hv, show ((p : Int) + 2) = ((p + 2 : Nat) : Int) by omega, end_chain (n := l.length) (by omega) (Nat.le_refl _)]
      cases rd wd l.length 0 (l.drop (p + 1 + 1)) <;> rfl
    · rw [if_neg hv, if_neg hv]
  · rw [dif_neg h, List.drop_of_length_le (by omega)]

theorem endOf_whole {wd : Bool} {so most : Nat} {l : List UInt8} (hs : so ≤ 2) : (decide (l.length ≤ most) && (endOf wd so l 0 == (l.length : Int))) = (whole wd so most l).isSome := by
  unfold whole endOf
  by_cases hl : l.length ≤ most
  · rw [if_pos hl, if_neg (by omega)]
    simp only [hl, decide_true, Bool.true_and, Int.toNat_zero, List.drop_zero]
    cases hr : rd wd l.length so l with
    | none => simp
    | some p =>
      obtain ⟨k, r⟩ := p
      obtain ⟨e, _⟩ := rd_sound wd _ _ _ _ _ hs hr
      have hp := text_pos k
      have hlen := congrArg List.length e
      simp only [List.length_append] at hlen
      cases r with
      | nil => simp
      | cons x r => (simp at hlen ⊢; try omega)
  · rw [if_neg hl]
    simp [hl]

end Pl
end Go.Proofs.Ytppcghklkldnaaa
