/- What a program can do from all states: 29 numbers in memory; doing nothing, assigning; the states of a test. -/
import Derived.Test.YthdgheglmkhcbaaRa
import Derived.Test.YthdgheglmkhcbaaMu
namespace Go.Proofs.Ythdgheglmkhcbaa
open Go.RowKit
open Pl

def M29 (f : Nat → Nat) : Prop := ∀ i, i < 29 → f i < 134217728
theorem M29.upd {f : Nat → Nat} (h : M29 f) (i : Nat) {v : Nat} (hv : v < 134217728) : M29 (upd f i v) := fun a ha => by
  unfold Proofs.Ythdgheglmkhcbaa.upd
  split
  · exact hv
  · exact h a ha
theorem av2_zero : #[.int .i64 0, .int .i64 0, .int .i64 0, .int .i64 0, .int .i64 0, .int .i64 0, .int .i64 0, .int .i64 0, .int .i64 0, .int .i64 0, .int .i64 0, .int .i64 0, .int .i64 0, .int .i64 0, .int .i64 0, .int .i64 0, .int .i64 0, .int .i64 0, .int .i64 0, .int .i64 0, .int .i64 0, .int .i64 0, .int .i64 0, .int .i64 0, .int .i64 0, .int .i64 0, .int .i64 0, .int .i64 0, .int .i64 0] = av 29 (fun _ => 0) := by
  apply Array.ext_getElem?
  intro a
  by_cases ha : a < 29
  · rw [av_get _ ha]
    have h : a = 0 ∨ a = 1 ∨ a = 2 ∨ a = 3 ∨ a = 4 ∨ a = 5 ∨ a = 6 ∨ a = 7 ∨ a = 8 ∨ a = 9 ∨ a = 10 ∨ a = 11 ∨ a = 12 ∨ a = 13 ∨ a = 14 ∨ a = 15 ∨ a = 16 ∨ a = 17 ∨ a = 18 ∨ a = 19 ∨ a = 20 ∨ a = 21 ∨ a = 22 ∨ a = 23 ∨ a = 24 ∨ a = 25 ∨ a = 26 ∨ a = 27 ∨ a = 28 := by omega
    rcases h with rfl | rfl | rfl | rfl | rfl | rfl | rfl | rfl | rfl | rfl | rfl | rfl | rfl | rfl | rfl | rfl | rfl | rfl | rfl | rfl | rfl | rfl | rfl | rfl | rfl | rfl | rfl | rfl | rfl <;> rfl
  · rw [Array.getElem?_eq_none (by show 29 ≤ a; omega), Array.getElem?_eq_none (by rw [av_size]; omega)]
def ltF (m n : Nat) : Nat → Nat := fun i => if i = 27 then m else if i = 28 then n else 0
theorem lt_av (m n : Nat) : #[.int .i64 0, .int .i64 0, .int .i64 0, .int .i64 0, .int .i64 0, .int .i64 0, .int .i64 0, .int .i64 0, .int .i64 0, .int .i64 0, .int .i64 0, .int .i64 0, .int .i64 0, .int .i64 0, .int .i64 0, .int .i64 0, .int .i64 0, .int .i64 0, .int .i64 0, .int .i64 0, .int .i64 0, .int .i64 0, .int .i64 0, .int .i64 0, .int .i64 0, .int .i64 0, .int .i64 0, .int .i64 ((m : Nat)), .int .i64 ((n : Nat))] = av 29 (ltF m n) := by
  apply Array.ext_getElem?
  intro a
  by_cases ha : a < 29
  · rw [av_get _ ha]
    have h : a = 0 ∨ a = 1 ∨ a = 2 ∨ a = 3 ∨ a = 4 ∨ a = 5 ∨ a = 6 ∨ a = 7 ∨ a = 8 ∨ a = 9 ∨ a = 10 ∨ a = 11 ∨ a = 12 ∨ a = 13 ∨ a = 14 ∨ a = 15 ∨ a = 16 ∨ a = 17 ∨ a = 18 ∨ a = 19 ∨ a = 20 ∨ a = 21 ∨ a = 22 ∨ a = 23 ∨ a = 24 ∨ a = 25 ∨ a = 26 ∨ a = 27 ∨ a = 28 := by omega
    rcases h with rfl | rfl | rfl | rfl | rfl | rfl | rfl | rfl | rfl | rfl | rfl | rfl | rfl | rfl | rfl | rfl | rfl | rfl | rfl | rfl | rfl | rfl | rfl | rfl | rfl | rfl | rfl | rfl | rfl <;> rfl
  · rw [Array.getElem?_eq_none (by show 29 ≤ a; omega), Array.getElem?_eq_none (by rw [av_size]; omega)]
theorem z2_one : (#[.int .i64 0, .int .i64 0, .int .i64 0, .int .i64 0, .int .i64 0, .int .i64 0, .int .i64 0, .int .i64 0, .int .i64 0, .int .i64 0, .int .i64 0, .int .i64 0, .int .i64 0, .int .i64 0, .int .i64 0, .int .i64 0, .int .i64 0, .int .i64 0, .int .i64 0, .int .i64 0, .int .i64 0, .int .i64 0, .int .i64 0, .int .i64 0, .int .i64 0, .int .i64 0, .int .i64 0, .int .i64 0, .int .i64 0] : Array Value).all (·.oneCell') = true := by rw [av2_zero]; exact av_one _ _
theorem lt_one (m n : Nat) : (#[.int .i64 0, .int .i64 0, .int .i64 0, .int .i64 0, .int .i64 0, .int .i64 0, .int .i64 0, .int .i64 0, .int .i64 0, .int .i64 0, .int .i64 0, .int .i64 0, .int .i64 0, .int .i64 0, .int .i64 0, .int .i64 0, .int .i64 0, .int .i64 0, .int .i64 0, .int .i64 0, .int .i64 0, .int .i64 0, .int .i64 0, .int .i64 0, .int .i64 0, .int .i64 0, .int .i64 0, .int .i64 ((m : Nat)), .int .i64 ((n : Nat))] : Array Value).all (·.oneCell') = true := by rw [lt_av]; exact av_one _ _
def Held2 (w : World) (g : Nat) : Prop := ∃ V : Array Value, V.size = 29 ∧ Blk w g 95 V
theorem Held2.below {w w' : World} {g B : Nat} (h : Held2 w g) (hb : Below B w w') (hg : g < B) : Held2 w' g := by obtain ⟨V, hz, hk⟩ := h; exact ⟨V, hz, hk.below hb hg⟩
theorem Held2.lt {w : World} {g : Nat} (h : Held2 w g) : g < w.heap.size := by obtain ⟨V, hz, hk⟩ := h; exact hk.lt
theorem Held2.far {w : World} {g : Nat} (h : Held2 w g) {p : Addr} (hp : g ≠ p.block) (u : Value) : Held2 (w.setCell p u) g := by obtain ⟨V, hz, hk⟩ := h; exact ⟨V, hz, hk.far hp u⟩
/-- the frame of a function that makes its result in a local block -/
structure S4 (w W : World) (bx : List (Nat × Array Value)) (r l : Nat) (f : Nat → Nat) : Prop where
  boxes : ∀ p ∈ bx, Blk W p.1 95 p.2 ∧ p.1 ≠ l
  res : Held2 W r
  loc : Blk W l 95 (av 29 f)
  rl : r ≠ l
  ge : w.heap.size ≤ l
  below : Below w.heap.size w W
section
variable {w W W' : World} {bx : List (Nat × Array Value)} {r l : Nat} {f : Nat → Nat}
theorem S4.call (H : S4 w W bx r l f) (hb : Below W.heap.size W W') : S4 w W' bx r l f :=
  ⟨fun p hp => ⟨(H.boxes p hp).1.below hb (H.boxes p hp).1.lt, (H.boxes p hp).2⟩, H.res.below hb H.res.lt, H.loc.below hb H.loc.lt, H.rl, H.ge, below_2 H.below hb⟩
theorem S4.drew (H : S4 w W bx r l f) : S4 w W.drew bx r l f := H.call (below_drew _ _)
theorem S4.put (H : S4 w W bx r l f) (i v : Nat) : S4 w (W.setCell ⟨l, i, none⟩ (.int .i64 (v : Nat))) bx r l (upd f i v) :=
  ⟨fun p hp => ⟨(H.boxes p hp).1.far (p := ⟨l, i, none⟩) (H.boxes p hp).2 _, (H.boxes p hp).2⟩, H.res.far (p := ⟨l, i, none⟩) H.rl _, by rw [← av_set]; exact H.loc.set_ i _, H.rl, H.ge, H.below.setCell (p := ⟨l, i, none⟩) H.ge _⟩
theorem S4.putI (H : S4 w W bx r l f) (i : Nat) {v : Nat} {raw : Int} (h : raw = (v : Nat)) : S4 w (W.setCell ⟨l, i, none⟩ (.int .i64 raw)) bx r l (upd f i v) := by rw [h]; exact H.put i v
theorem S4.get (H : S4 w W bx r l f) {i : Nat} (hi : i < 29) : W.cell? ⟨l, i, none⟩ = some (.int .i64 (f i : Nat)) ∧ W.frozen? ⟨l, i, none⟩ = false ∧ W.drew.cell? ⟨l, i, none⟩ = some (.int .i64 (f i : Nat)) ∧ W.drew.frozen? ⟨l, i, none⟩ = false :=
  ⟨(H.loc.cell i).trans (av_get f hi), H.loc.frozen i, (H.loc.cell i).trans (av_get f hi), H.loc.frozen i⟩
theorem S4.box (H : S4 w W bx r l f) {b : Nat} {g : Nat → Nat} (hp : (b, av 29 g) ∈ bx) {i : Nat} (hi : i < 29) : W.cell? ⟨b, i, none⟩ = some (.int .i64 (g i : Nat)) := ((H.boxes _ hp).1.cell i).trans (av_get g hi)
theorem S4.less (H : S4 w W bx r l f) {g : Nat → Nat} (h : ∀ i, i < 29 → f i = g i) : S4 w W bx r l g := ⟨H.boxes, H.res, by rw [← av_congr h]; exact H.loc, H.rl, H.ge, H.below⟩
end
def skF (a : Nat) : Nat → Nat := fun i => if i < a then 2 ^ i else 0
theorem skF_next {a i : Nat} : upd (skF a) a (2 ^ a) i = skF (a + 1) i := by
  unfold upd skF
  by_cases e : i = a
  · subst e; simp
  · rw [if_neg e]
    by_cases h : i < a
    · rw [if_pos h, if_pos (by omega)]
    · rw [if_neg h, if_neg (by omega)]
theorem skF_small : M29 (skF 27) := fun i _ => by
  unfold skF
  split
  · exact p27 (by assumption)
  · decide
set_option maxRecDepth 100000 in
set_option maxHeartbeats 8000000 in
theorem l4Skip_any (w : World) : Calls Try.prog 169 #[] w fun e w' => (e = .returned (.agg (av 29 (skF 27))) ∧ Below w.heap.size w w') := by
  obtain ⟨VE, hVE⟩ : ∃ V, av 29 (skF 27) = V := ⟨_, rfl⟩
  rw [hVE]
  have HVE := Lib.hid hVE
  clear hVE
  have kr : Blk (w.alloc (.cells #[.int .i64 0, .int .i64 0, .int .i64 0, .int .i64 0, .int .i64 0, .int .i64 0, .int .i64 0, .int .i64 0, .int .i64 0, .int .i64 0, .int .i64 0, .int .i64 0, .int .i64 0, .int .i64 0, .int .i64 0, .int .i64 0, .int .i64 0, .int .i64 0, .int .i64 0, .int .i64 0, .int .i64 0, .int .i64 0, .int .i64 0, .int .i64 0, .int .i64 0, .int .i64 0, .int .i64 0, .int .i64 0, .int .i64 0] 95)) (w.heap.size) 95 #[.int .i64 0, .int .i64 0, .int .i64 0, .int .i64 0, .int .i64 0, .int .i64 0, .int .i64 0, .int .i64 0, .int .i64 0, .int .i64 0, .int .i64 0, .int .i64 0, .int .i64 0, .int .i64 0, .int .i64 0, .int .i64 0, .int .i64 0, .int .i64 0, .int .i64 0, .int .i64 0, .int .i64 0, .int .i64 0, .int .i64 0, .int .i64 0, .int .i64 0, .int .i64 0, .int .i64 0, .int .i64 0, .int .i64 0] := by
    have h0 := Blk.new w 95 #[.int .i64 0, .int .i64 0, .int .i64 0, .int .i64 0, .int .i64 0, .int .i64 0, .int .i64 0, .int .i64 0, .int .i64 0, .int .i64 0, .int .i64 0, .int .i64 0, .int .i64 0, .int .i64 0, .int .i64 0, .int .i64 0, .int .i64 0, .int .i64 0, .int .i64 0, .int .i64 0, .int .i64 0, .int .i64 0, .int .i64 0, .int .i64 0, .int .i64 0, .int .i64 0, .int .i64 0, .int .i64 0, .int .i64 0]
    have hz : w.heap.size = w.heap.size := by simp
    rw [hz] at h0
    exact h0
  have kz : Blk ((w.alloc (.cells #[.int .i64 0, .int .i64 0, .int .i64 0, .int .i64 0, .int .i64 0, .int .i64 0, .int .i64 0, .int .i64 0, .int .i64 0, .int .i64 0, .int .i64 0, .int .i64 0, .int .i64 0, .int .i64 0, .int .i64 0, .int .i64 0, .int .i64 0, .int .i64 0, .int .i64 0, .int .i64 0, .int .i64 0, .int .i64 0, .int .i64 0, .int .i64 0, .int .i64 0, .int .i64 0, .int .i64 0, .int .i64 0, .int .i64 0] 95)).alloc (.cells #[.int .i64 0, .int .i64 0, .int .i64 0, .int .i64 0, .int .i64 0, .int .i64 0, .int .i64 0, .int .i64 0, .int .i64 0, .int .i64 0, .int .i64 0, .int .i64 0, .int .i64 0, .int .i64 0, .int .i64 0, .int .i64 0, .int .i64 0, .int .i64 0, .int .i64 0, .int .i64 0, .int .i64 0, .int .i64 0, .int .i64 0, .int .i64 0, .int .i64 0, .int .i64 0, .int .i64 0, .int .i64 0, .int .i64 0] 95)) (w.heap.size + 1) 95 #[.int .i64 0, .int .i64 0, .int .i64 0, .int .i64 0, .int .i64 0, .int .i64 0, .int .i64 0, .int .i64 0, .int .i64 0, .int .i64 0, .int .i64 0, .int .i64 0, .int .i64 0, .int .i64 0, .int .i64 0, .int .i64 0, .int .i64 0, .int .i64 0, .int .i64 0, .int .i64 0, .int .i64 0, .int .i64 0, .int .i64 0, .int .i64 0, .int .i64 0, .int .i64 0, .int .i64 0, .int .i64 0, .int .i64 0] := by
    have h0 := Blk.new (w.alloc (.cells #[.int .i64 0, .int .i64 0, .int .i64 0, .int .i64 0, .int .i64 0, .int .i64 0, .int .i64 0, .int .i64 0, .int .i64 0, .int .i64 0, .int .i64 0, .int .i64 0, .int .i64 0, .int .i64 0, .int .i64 0, .int .i64 0, .int .i64 0, .int .i64 0, .int .i64 0, .int .i64 0, .int .i64 0, .int .i64 0, .int .i64 0, .int .i64 0, .int .i64 0, .int .i64 0, .int .i64 0, .int .i64 0, .int .i64 0] 95)) 95 #[.int .i64 0, .int .i64 0, .int .i64 0, .int .i64 0, .int .i64 0, .int .i64 0, .int .i64 0, .int .i64 0, .int .i64 0, .int .i64 0, .int .i64 0, .int .i64 0, .int .i64 0, .int .i64 0, .int .i64 0, .int .i64 0, .int .i64 0, .int .i64 0, .int .i64 0, .int .i64 0, .int .i64 0, .int .i64 0, .int .i64 0, .int .i64 0, .int .i64 0, .int .i64 0, .int .i64 0, .int .i64 0, .int .i64 0]
    have hz : (w.alloc (.cells #[.int .i64 0, .int .i64 0, .int .i64 0, .int .i64 0, .int .i64 0, .int .i64 0, .int .i64 0, .int .i64 0, .int .i64 0, .int .i64 0, .int .i64 0, .int .i64 0, .int .i64 0, .int .i64 0, .int .i64 0, .int .i64 0, .int .i64 0, .int .i64 0, .int .i64 0, .int .i64 0, .int .i64 0, .int .i64 0, .int .i64 0, .int .i64 0, .int .i64 0, .int .i64 0, .int .i64 0, .int .i64 0, .int .i64 0] 95)).heap.size = w.heap.size + 1 := by simp
    rw [hz] at h0
    exact h0
  have KZ := Lib.hid kz
  have H0 : Hid (S4 w (((w.alloc (.cells #[.int .i64 0, .int .i64 0, .int .i64 0, .int .i64 0, .int .i64 0, .int .i64 0, .int .i64 0, .int .i64 0, .int .i64 0, .int .i64 0, .int .i64 0, .int .i64 0, .int .i64 0, .int .i64 0, .int .i64 0, .int .i64 0, .int .i64 0, .int .i64 0, .int .i64 0, .int .i64 0, .int .i64 0, .int .i64 0, .int .i64 0, .int .i64 0, .int .i64 0, .int .i64 0, .int .i64 0, .int .i64 0, .int .i64 0] 95)).alloc (.cells #[.int .i64 0, .int .i64 0, .int .i64 0, .int .i64 0, .int .i64 0, .int .i64 0, .int .i64 0, .int .i64 0, .int .i64 0, .int .i64 0, .int .i64 0, .int .i64 0, .int .i64 0, .int .i64 0, .int .i64 0, .int .i64 0, .int .i64 0, .int .i64 0, .int .i64 0, .int .i64 0, .int .i64 0, .int .i64 0, .int .i64 0, .int .i64 0, .int .i64 0, .int .i64 0, .int .i64 0, .int .i64 0, .int .i64 0] 95)).setRow (w.heap.size + 1) #[.int .i64 0, .int .i64 0, .int .i64 0, .int .i64 0, .int .i64 0, .int .i64 0, .int .i64 0, .int .i64 0, .int .i64 0, .int .i64 0, .int .i64 0, .int .i64 0, .int .i64 0, .int .i64 0, .int .i64 0, .int .i64 0, .int .i64 0, .int .i64 0, .int .i64 0, .int .i64 0, .int .i64 0, .int .i64 0, .int .i64 0, .int .i64 0, .int .i64 0, .int .i64 0, .int .i64 0, .int .i64 0, .int .i64 0]) [] (w.heap.size) (w.heap.size + 1) (skF 0)) := by
    refine ⟨fun p hp => ?_, ⟨_, rfl, (kr.alloc _).row_ne (by omega) _⟩, ?_, by omega, by omega, (((Below.refl w.heap.size w).alloc (by first | exact Nat.le_refl _ | (simp; done) | (simp; omega)) (.cells #[.int .i64 0, .int .i64 0, .int .i64 0, .int .i64 0, .int .i64 0, .int .i64 0, .int .i64 0, .int .i64 0, .int .i64 0, .int .i64 0, .int .i64 0, .int .i64 0, .int .i64 0, .int .i64 0, .int .i64 0, .int .i64 0, .int .i64 0, .int .i64 0, .int .i64 0, .int .i64 0, .int .i64 0, .int .i64 0, .int .i64 0, .int .i64 0, .int .i64 0, .int .i64 0, .int .i64 0, .int .i64 0, .int .i64 0] 95)).alloc (by first | exact Nat.le_refl _ | (simp; done) | (simp; omega)) (.cells #[.int .i64 0, .int .i64 0, .int .i64 0, .int .i64 0, .int .i64 0, .int .i64 0, .int .i64 0, .int .i64 0, .int .i64 0, .int .i64 0, .int .i64 0, .int .i64 0, .int .i64 0, .int .i64 0, .int .i64 0, .int .i64 0, .int .i64 0, .int .i64 0, .int .i64 0, .int .i64 0, .int .i64 0, .int .i64 0, .int .i64 0, .int .i64 0, .int .i64 0, .int .i64 0, .int .i64 0, .int .i64 0, .int .i64 0] 95)).trans (below_row (by omega) _)⟩
    · exact absurd hp (by simp)
    · rw [← (show #[.int .i64 0, .int .i64 0, .int .i64 0, .int .i64 0, .int .i64 0, .int .i64 0, .int .i64 0, .int .i64 0, .int .i64 0, .int .i64 0, .int .i64 0, .int .i64 0, .int .i64 0, .int .i64 0, .int .i64 0, .int .i64 0, .int .i64 0, .int .i64 0, .int .i64 0, .int .i64 0, .int .i64 0, .int .i64 0, .int .i64 0, .int .i64 0, .int .i64 0, .int .i64 0, .int .i64 0, .int .i64 0, .int .i64 0] = av 29 (skF 0) from av2_zero)]; exact kz.row _
  clear kz kr 
  go_enter Try.func169, Try.ntmps169
  go_wp2_with (refine wpList_store_row rfl 95 (.tmp 1) (.tmp 3) rfl (w.heap.size + 1) #[.int .i64 0, .int .i64 0, .int .i64 0, .int .i64 0, .int .i64 0, .int .i64 0, .int .i64 0, .int .i64 0, .int .i64 0, .int .i64 0, .int .i64 0, .int .i64 0, .int .i64 0, .int .i64 0, .int .i64 0, .int .i64 0, .int .i64 0, .int .i64 0, .int .i64 0, .int .i64 0, .int .i64 0, .int .i64 0, .int .i64 0, .int .i64 0, .int .i64 0, .int .i64 0, .int .i64 0, .int .i64 0, .int .i64 0] rfl rfl 95 #[.int .i64 0, .int .i64 0, .int .i64 0, .int .i64 0, .int .i64 0, .int .i64 0, .int .i64 0, .int .i64 0, .int .i64 0, .int .i64 0, .int .i64 0, .int .i64 0, .int .i64 0, .int .i64 0, .int .i64 0, .int .i64 0, .int .i64 0, .int .i64 0, .int .i64 0, .int .i64 0, .int .i64 0, .int .i64 0, .int .i64 0, .int .i64 0, .int .i64 0, .int .i64 0, .int .i64 0, .int .i64 0, .int .i64 0] KZ.out all_size rfl z2_one ?_)
  clear KZ
  go_loopg [2] 27 (fun gk sv wr => ∃ a : Nat, a + gk = 27 ∧ sv = .int .i64 a ∧ Hid (S4 w wr [] (w.heap.size) (w.heap.size + 1) (skF a)))
  case atStart => exact ⟨0, rfl, rfl, H0⟩
  case round =>
    clear H0
    obtain ⟨a, ha, rfl, HH⟩ := hrel
    have H := HH.out
    clear HH
    by_cases hla : a < 27
    · have hxa : (a : Int) < 27 := by omega
      obtain ⟨hc, hf, _, _⟩ := H.get (i := a) (by omega)
      have H5 := (H.putI a (wrap_pow hla)).less (g := skF (a + 1)) (fun i _ => skF_next)
      have HH := Lib.hid H5
      clear H5 H
      go_wp2_with fail
      go_roundg (gk - 1)
      case measure => omega
      case rel => exact ⟨a + 1, by omega, by go_num, HH⟩
    · obtain rfl : a = 27 := by omega
      clear hla 
      have k3 := H.loc
      rw [HVE.out] at k3
      have hz : VE.size = 29 := by rw [← HVE.out]; exact av_size _ _
      have h1 : VE.all (·.oneCell') = true := by rw [← HVE.out]; exact av_one _ _
      have hi : (Try.prog.info? 95).map (·.size) = some VE.size := by rw [hz]; exact all_size
      obtain ⟨old, hoz, k2⟩ := H.res
      have kE := setRow_heap wr (w.heap.size) _ VE 95 (0, 0) k2
      have BE : Hid (Below w.heap.size w (wr.setRow (w.heap.size) VE)) := H.below.trans (below_row (by first | omega | exact Nat.le_refl _) VE)
      have X := Lib.hid (And.intro k3 (And.intro k2 (And.intro hi (And.intro (hoz.trans hz.symm) (And.intro h1 kE)))))
      clear k3 k2 hoz kE hz h1 hi H HVE
      go_wp2_with (first | (refine wpList_load_row rfl 95 (.tmp 1) rfl (w.heap.size + 1) rfl 95 VE (0, 0) _ X.out.1 Try.underlying95 rfl X.out.2.2.1 ?_) | (refine wpList_store_row rfl 95 (.tmp 0) (.tmp 14) rfl (w.heap.size) VE rfl rfl 95 old X.out.2.1 X.out.2.2.1 X.out.2.2.2.1 X.out.2.2.2.2.1 ?_))
      exact bodyPost_ret (v := .agg VE) (results_cell_row rfl _ _ (w.heap.size) 95 VE (0, 0) _ rfl X.out.2.2.2.2.2 Try.underlying95 rfl X.out.2.2.1) rfl ⟨rfl, BE.out⟩
/-- the number of a state assigned to -/
def asN (c : UInt8) (k : Nd) (i : Nat) : Nat := (put1 c 120 (val (envOf (stX i) (stY i) (stZ i) 0 0 0) k) (stX i) + 3 * put1 c 121 (val (envOf (stX i) (stY i) (stZ i) 0 0 0) k) (stY i) + 9 * put1 c 122 (val (envOf (stX i) (stY i) (stZ i) 0 0 0) k) (stZ i)).toNat
theorem as_small {c : UInt8} {k : Nd} {i : Nat} (hi : i < 27) : ∃ n : Int, small n ∧ val (envOf (stX i) (stY i) (stZ i) 0 0 0) k = n ∧ small (put1 c 120 n (stX i)) ∧ small (put1 c 121 n (stY i)) ∧ small (put1 c 122 n (stZ i)) := by
  have s0 : small 0 := ⟨by omega, by omega⟩
  have hn := val_small (ρ := envOf (stX i) (stY i) (stZ i) 0 0 0) (fun c => envOf_small (stX_small i) (stY_small i) (stZ_small hi) s0 s0 s0 c) k
  exact ⟨_, hn, rfl, put1_small hn (stX_small i), put1_small hn (stY_small i), put1_small hn (stZ_small hi)⟩
theorem asN_lt {c : UInt8} {k : Nd} {i : Nat} (hi : i < 27) : asN c k i < 27 := by
  obtain ⟨n, hn, e, ⟨x1, x2⟩, ⟨y1, y2⟩, z1, z2⟩ := as_small (c := c) (k := k) hi
  unfold asN
  rw [e]
  omega
theorem asN_int {c : UInt8} {k : Nd} {i : Nat} (hi : i < 27) : put1 c 120 (val (envOf (stX i) (stY i) (stZ i) 0 0 0) k) (stX i) + 3 * put1 c 121 (val (envOf (stX i) (stY i) (stZ i) 0 0 0) k) (stY i) + 9 * put1 c 122 (val (envOf (stX i) (stY i) (stZ i) 0 0 0) k) (stZ i) = (asN c k i : Nat) := by
  obtain ⟨n, hn, e, ⟨x1, x2⟩, ⟨y1, y2⟩, z1, z2⟩ := as_small (c := c) (k := k) hi
  unfold asN
  rw [e]
  omega
def seF (c : UInt8) (k : Nd) (a : Nat) : Nat → Nat := fun i => if i < a then 2 ^ (asN c k i) else 0
theorem seF_next {c : UInt8} {k : Nd} {a i : Nat} : upd (seF c k a) a (2 ^ (asN c k a)) i = seF c k (a + 1) i := by
  unfold upd seF
  by_cases e : i = a
  · subst e; simp
  · rw [if_neg e]
    by_cases h : i < a
    · rw [if_pos h, if_pos (by omega)]
    · rw [if_neg h, if_neg (by omega)]
theorem seF_small (c : UInt8) (k : Nd) : M29 (seF c k 27) := fun i _ => by
  unfold seF
  split
  · exact p27 (asN_lt (by assumption))
  · decide
set_option maxRecDepth 100000 in
set_option maxHeartbeats 8000000 in
theorem l4Set_any (S : ByteArray) (hS : S.size ≤ 1000000) (k : Nd) (hk : ok false 0 k = true) (ht : S.data.toList = k.text) (c : UInt8) (hc : c ∈ nmsN) (w : World) : Calls Try.prog 170 #[.int .i64 (fnd nmsN c), .string S] w fun e w' => (e = .returned (.agg (av 29 (seF c k 27))) ∧ Below w.heap.size w w') := by
  have AT := Lib.hid (fun (i : Nat) (hi : i < 27) w => l2At_any i hi w)
  have AS := Lib.hid (fun (i : Nat) (hi : i < 27) w => l2Assign_any S hS k hk ht (stX i) (stY i) (stZ i) (stX_small i) (stY_small i) (stZ_small hi) c hc w)
  have IX := Lib.hid (fun (i : Nat) (hi : i < 27) w => by
    obtain ⟨n, hn, e, sx, sy, sz⟩ := as_small (c := c) (k := k) hi
    have := l2Index_any _ _ _ (e ▸ sx) (e ▸ sy) (e ▸ sz) w
    rw [asN_int hi] at this
    exact this)
  clear hk ht hc
  obtain ⟨VE, hVE⟩ : ∃ V, av 29 (seF c k 27) = V := ⟨_, rfl⟩
  rw [hVE]
  have HVE := Lib.hid hVE
  clear hVE
  have kr : Blk (w.alloc (.cells #[.int .i64 0, .int .i64 0, .int .i64 0, .int .i64 0, .int .i64 0, .int .i64 0, .int .i64 0, .int .i64 0, .int .i64 0, .int .i64 0, .int .i64 0, .int .i64 0, .int .i64 0, .int .i64 0, .int .i64 0, .int .i64 0, .int .i64 0, .int .i64 0, .int .i64 0, .int .i64 0, .int .i64 0, .int .i64 0, .int .i64 0, .int .i64 0, .int .i64 0, .int .i64 0, .int .i64 0, .int .i64 0, .int .i64 0] 95)) (w.heap.size) 95 #[.int .i64 0, .int .i64 0, .int .i64 0, .int .i64 0, .int .i64 0, .int .i64 0, .int .i64 0, .int .i64 0, .int .i64 0, .int .i64 0, .int .i64 0, .int .i64 0, .int .i64 0, .int .i64 0, .int .i64 0, .int .i64 0, .int .i64 0, .int .i64 0, .int .i64 0, .int .i64 0, .int .i64 0, .int .i64 0, .int .i64 0, .int .i64 0, .int .i64 0, .int .i64 0, .int .i64 0, .int .i64 0, .int .i64 0] := by
    have h0 := Blk.new w 95 #[.int .i64 0, .int .i64 0, .int .i64 0, .int .i64 0, .int .i64 0, .int .i64 0, .int .i64 0, .int .i64 0, .int .i64 0, .int .i64 0, .int .i64 0, .int .i64 0, .int .i64 0, .int .i64 0, .int .i64 0, .int .i64 0, .int .i64 0, .int .i64 0, .int .i64 0, .int .i64 0, .int .i64 0, .int .i64 0, .int .i64 0, .int .i64 0, .int .i64 0, .int .i64 0, .int .i64 0, .int .i64 0, .int .i64 0]
    have hz : w.heap.size = w.heap.size := by simp
    rw [hz] at h0
    exact h0
  have kz : Blk ((w.alloc (.cells #[.int .i64 0, .int .i64 0, .int .i64 0, .int .i64 0, .int .i64 0, .int .i64 0, .int .i64 0, .int .i64 0, .int .i64 0, .int .i64 0, .int .i64 0, .int .i64 0, .int .i64 0, .int .i64 0, .int .i64 0, .int .i64 0, .int .i64 0, .int .i64 0, .int .i64 0, .int .i64 0, .int .i64 0, .int .i64 0, .int .i64 0, .int .i64 0, .int .i64 0, .int .i64 0, .int .i64 0, .int .i64 0, .int .i64 0] 95)).alloc (.cells #[.int .i64 0, .int .i64 0, .int .i64 0, .int .i64 0, .int .i64 0, .int .i64 0, .int .i64 0, .int .i64 0, .int .i64 0, .int .i64 0, .int .i64 0, .int .i64 0, .int .i64 0, .int .i64 0, .int .i64 0, .int .i64 0, .int .i64 0, .int .i64 0, .int .i64 0, .int .i64 0, .int .i64 0, .int .i64 0, .int .i64 0, .int .i64 0, .int .i64 0, .int .i64 0, .int .i64 0, .int .i64 0, .int .i64 0] 95)) (w.heap.size + 1) 95 #[.int .i64 0, .int .i64 0, .int .i64 0, .int .i64 0, .int .i64 0, .int .i64 0, .int .i64 0, .int .i64 0, .int .i64 0, .int .i64 0, .int .i64 0, .int .i64 0, .int .i64 0, .int .i64 0, .int .i64 0, .int .i64 0, .int .i64 0, .int .i64 0, .int .i64 0, .int .i64 0, .int .i64 0, .int .i64 0, .int .i64 0, .int .i64 0, .int .i64 0, .int .i64 0, .int .i64 0, .int .i64 0, .int .i64 0] := by
    have h0 := Blk.new (w.alloc (.cells #[.int .i64 0, .int .i64 0, .int .i64 0, .int .i64 0, .int .i64 0, .int .i64 0, .int .i64 0, .int .i64 0, .int .i64 0, .int .i64 0, .int .i64 0, .int .i64 0, .int .i64 0, .int .i64 0, .int .i64 0, .int .i64 0, .int .i64 0, .int .i64 0, .int .i64 0, .int .i64 0, .int .i64 0, .int .i64 0, .int .i64 0, .int .i64 0, .int .i64 0, .int .i64 0, .int .i64 0, .int .i64 0, .int .i64 0] 95)) 95 #[.int .i64 0, .int .i64 0, .int .i64 0, .int .i64 0, .int .i64 0, .int .i64 0, .int .i64 0, .int .i64 0, .int .i64 0, .int .i64 0, .int .i64 0, .int .i64 0, .int .i64 0, .int .i64 0, .int .i64 0, .int .i64 0, .int .i64 0, .int .i64 0, .int .i64 0, .int .i64 0, .int .i64 0, .int .i64 0, .int .i64 0, .int .i64 0, .int .i64 0, .int .i64 0, .int .i64 0, .int .i64 0, .int .i64 0]
    have hz : (w.alloc (.cells #[.int .i64 0, .int .i64 0, .int .i64 0, .int .i64 0, .int .i64 0, .int .i64 0, .int .i64 0, .int .i64 0, .int .i64 0, .int .i64 0, .int .i64 0, .int .i64 0, .int .i64 0, .int .i64 0, .int .i64 0, .int .i64 0, .int .i64 0, .int .i64 0, .int .i64 0, .int .i64 0, .int .i64 0, .int .i64 0, .int .i64 0, .int .i64 0, .int .i64 0, .int .i64 0, .int .i64 0, .int .i64 0, .int .i64 0] 95)).heap.size = w.heap.size + 1 := by simp
    rw [hz] at h0
    exact h0
  have KZ := Lib.hid kz
  have H0 : Hid (S4 w (((w.alloc (.cells #[.int .i64 0, .int .i64 0, .int .i64 0, .int .i64 0, .int .i64 0, .int .i64 0, .int .i64 0, .int .i64 0, .int .i64 0, .int .i64 0, .int .i64 0, .int .i64 0, .int .i64 0, .int .i64 0, .int .i64 0, .int .i64 0, .int .i64 0, .int .i64 0, .int .i64 0, .int .i64 0, .int .i64 0, .int .i64 0, .int .i64 0, .int .i64 0, .int .i64 0, .int .i64 0, .int .i64 0, .int .i64 0, .int .i64 0] 95)).alloc (.cells #[.int .i64 0, .int .i64 0, .int .i64 0, .int .i64 0, .int .i64 0, .int .i64 0, .int .i64 0, .int .i64 0, .int .i64 0, .int .i64 0, .int .i64 0, .int .i64 0, .int .i64 0, .int .i64 0, .int .i64 0, .int .i64 0, .int .i64 0, .int .i64 0, .int .i64 0, .int .i64 0, .int .i64 0, .int .i64 0, .int .i64 0, .int .i64 0, .int .i64 0, .int .i64 0, .int .i64 0, .int .i64 0, .int .i64 0] 95)).setRow (w.heap.size + 1) #[.int .i64 0, .int .i64 0, .int .i64 0, .int .i64 0, .int .i64 0, .int .i64 0, .int .i64 0, .int .i64 0, .int .i64 0, .int .i64 0, .int .i64 0, .int .i64 0, .int .i64 0, .int .i64 0, .int .i64 0, .int .i64 0, .int .i64 0, .int .i64 0, .int .i64 0, .int .i64 0, .int .i64 0, .int .i64 0, .int .i64 0, .int .i64 0, .int .i64 0, .int .i64 0, .int .i64 0, .int .i64 0, .int .i64 0]) [] (w.heap.size) (w.heap.size + 1) (seF c k 0)) := by
    refine ⟨fun p hp => ?_, ⟨_, rfl, (kr.alloc _).row_ne (by omega) _⟩, ?_, by omega, by omega, (((Below.refl w.heap.size w).alloc (by first | exact Nat.le_refl _ | (simp; done) | (simp; omega)) (.cells #[.int .i64 0, .int .i64 0, .int .i64 0, .int .i64 0, .int .i64 0, .int .i64 0, .int .i64 0, .int .i64 0, .int .i64 0, .int .i64 0, .int .i64 0, .int .i64 0, .int .i64 0, .int .i64 0, .int .i64 0, .int .i64 0, .int .i64 0, .int .i64 0, .int .i64 0, .int .i64 0, .int .i64 0, .int .i64 0, .int .i64 0, .int .i64 0, .int .i64 0, .int .i64 0, .int .i64 0, .int .i64 0, .int .i64 0] 95)).alloc (by first | exact Nat.le_refl _ | (simp; done) | (simp; omega)) (.cells #[.int .i64 0, .int .i64 0, .int .i64 0, .int .i64 0, .int .i64 0, .int .i64 0, .int .i64 0, .int .i64 0, .int .i64 0, .int .i64 0, .int .i64 0, .int .i64 0, .int .i64 0, .int .i64 0, .int .i64 0, .int .i64 0, .int .i64 0, .int .i64 0, .int .i64 0, .int .i64 0, .int .i64 0, .int .i64 0, .int .i64 0, .int .i64 0, .int .i64 0, .int .i64 0, .int .i64 0, .int .i64 0, .int .i64 0] 95)).trans (below_row (by omega) _)⟩
    · exact absurd hp (by simp)
    · rw [← (show #[.int .i64 0, .int .i64 0, .int .i64 0, .int .i64 0, .int .i64 0, .int .i64 0, .int .i64 0, .int .i64 0, .int .i64 0, .int .i64 0, .int .i64 0, .int .i64 0, .int .i64 0, .int .i64 0, .int .i64 0, .int .i64 0, .int .i64 0, .int .i64 0, .int .i64 0, .int .i64 0, .int .i64 0, .int .i64 0, .int .i64 0, .int .i64 0, .int .i64 0, .int .i64 0, .int .i64 0, .int .i64 0, .int .i64 0] = av 29 (seF c k 0) from av2_zero)]; exact kz.row _
  clear kz kr 
  go_enter Try.func170, Try.ntmps170
  go_wp2_with (refine wpList_store_row rfl 95 (.tmp 5) (.tmp 7) rfl (w.heap.size + 1) #[.int .i64 0, .int .i64 0, .int .i64 0, .int .i64 0, .int .i64 0, .int .i64 0, .int .i64 0, .int .i64 0, .int .i64 0, .int .i64 0, .int .i64 0, .int .i64 0, .int .i64 0, .int .i64 0, .int .i64 0, .int .i64 0, .int .i64 0, .int .i64 0, .int .i64 0, .int .i64 0, .int .i64 0, .int .i64 0, .int .i64 0, .int .i64 0, .int .i64 0, .int .i64 0, .int .i64 0, .int .i64 0, .int .i64 0] rfl rfl 95 #[.int .i64 0, .int .i64 0, .int .i64 0, .int .i64 0, .int .i64 0, .int .i64 0, .int .i64 0, .int .i64 0, .int .i64 0, .int .i64 0, .int .i64 0, .int .i64 0, .int .i64 0, .int .i64 0, .int .i64 0, .int .i64 0, .int .i64 0, .int .i64 0, .int .i64 0, .int .i64 0, .int .i64 0, .int .i64 0, .int .i64 0, .int .i64 0, .int .i64 0, .int .i64 0, .int .i64 0, .int .i64 0, .int .i64 0] KZ.out all_size rfl z2_one ?_)
  clear KZ
  go_loopg [6] 27 (fun gk sv wr => ∃ a : Nat, a + gk = 27 ∧ sv = .int .i64 a ∧ Hid (S4 w wr [] (w.heap.size) (w.heap.size + 1) (seF c k a)))
  case atStart => exact ⟨0, rfl, rfl, H0⟩
  case round =>
    clear H0
    obtain ⟨a, ha, rfl, HH⟩ := hrel
    have H := HH.out
    clear HH
    by_cases hla : a < 27
    · have hxa : (a : Int) < 27 := by omega
      have A1 := Lib.hid (fun w => AT.out a hla w)
      have A2 := Lib.hid (fun w => AS.out a hla w)
      have A3 := Lib.hid (fun w => IX.out a hla w)
      have hn := asN_lt (c := c) (k := k) hla
      have hnx : seF c k (a + 1) = seF c k (a + 1) := rfl
      generalize val (envOf (stX a) (stY a) (stZ a) 0 0 0) k = vv at *
      generalize put1 c 120 vv (stX a) = p1 at *
      generalize put1 c 121 vv (stY a) = p2 at *
      generalize put1 c 122 vv (stZ a) = p3 at *
      have NX := Lib.hid (fun i => seF_next (c := c) (k := k) (a := a) (i := i))
      generalize asN c k a = na at *
      generalize stX a = x at *
      generalize stY a = y at *
      generalize stZ a = z at *
      clear hnx
      go_wp2_with fail
      refine (A1.out _).mono ?_
      rintro e w1 ⟨rfl, hb⟩
      replace H := H.call hb
      clear hb
      go_wp2_with fail
      refine (A2.out _).mono ?_
      rintro e w2 ⟨rfl, hb⟩
      replace H := H.call hb
      clear hb
      go_wp2_with fail
      refine (A3.out _).mono ?_
      rintro e w3 ⟨rfl, hb⟩
      replace H := H.call hb
      clear hb
      obtain ⟨hcc, hf, _, _⟩ := H.get (i := a) (by omega)
      have H5 := (H.putI a (wrap_pow hn)).less (g := seF c k (a + 1)) (fun i _ => NX.out i)
      have HH := Lib.hid H5
      clear H5 H NX
      go_wp2_with fail
      go_roundg (gk - 1)
      case measure => omega
      case rel => exact ⟨a + 1, by omega, by go_num, HH⟩
    · obtain rfl : a = 27 := by omega
      clear hla AT AS IX
      have k3 := H.loc
      rw [HVE.out] at k3
      have hz : VE.size = 29 := by rw [← HVE.out]; exact av_size _ _
      have h1 : VE.all (·.oneCell') = true := by rw [← HVE.out]; exact av_one _ _
      have hi : (Try.prog.info? 95).map (·.size) = some VE.size := by rw [hz]; exact all_size
      obtain ⟨old, hoz, k2⟩ := H.res
      have kE := setRow_heap wr (w.heap.size) _ VE 95 (0, 0) k2
      have BE : Hid (Below w.heap.size w (wr.setRow (w.heap.size) VE)) := H.below.trans (below_row (by first | omega | exact Nat.le_refl _) VE)
      have X := Lib.hid (And.intro k3 (And.intro k2 (And.intro hi (And.intro (hoz.trans hz.symm) (And.intro h1 kE)))))
      clear k3 k2 hoz kE hz h1 hi H HVE
      go_wp2_with (first | (refine wpList_load_row rfl 95 (.tmp 5) rfl (w.heap.size + 1) rfl 95 VE (0, 0) _ X.out.1 Try.underlying95 rfl X.out.2.2.1 ?_) | (refine wpList_store_row rfl 95 (.tmp 4) (.tmp 23) rfl (w.heap.size) VE rfl rfl 95 old X.out.2.1 X.out.2.2.1 X.out.2.2.2.1 X.out.2.2.2.2.1 ?_))
      exact bodyPost_ret (v := .agg VE) (results_cell_row rfl _ _ (w.heap.size) 95 VE (0, 0) _ rfl X.out.2.2.2.2.2 Try.underlying95 rfl X.out.2.2.1) rfl ⟨rfl, BE.out⟩
/-- the states of a test -/
def teB (k : Nd) (i : Nat) : Bool := tru (envOf (stX i) (stY i) (stZ i) 0 0 0) k
set_option maxRecDepth 100000 in
set_option maxHeartbeats 8000000 in
theorem l4Test_any (S : ByteArray) (hS : S.size ≤ 1000000) (k : Nd) (hk : ok false 1 k = true) (ht : S.data.toList = k.text) (w : World) : Calls Try.prog 174 #[.string S] w fun e w' => (e = .returned (.int .i64 (msk (teB k) 27 : Nat)) ∧ Below w.heap.size w w') := by
  have s0 : small 0 := ⟨by omega, by omega⟩
  have HO := Lib.hid (fun i (hi : i < 27) w => holdsS_any S hS (stX i) (stY i) (stZ i) 0 0 0 (stX_small i) (stY_small i) (stZ_small hi) s0 s0 s0 false k 0 [] w hk (by rw [List.drop_zero, List.append_nil]; exact ht))
  have HT := Lib.hid (fun i => show tru (envOf (stX i) (stY i) (stZ i) 0 0 0) k = teB k i from rfl)
  generalize teB k = f at *
  have B0 := Lib.hid (Below.refl w.heap.size w)
  clear hk ht s0
  go_enter Try.func174, Try.ntmps174
  go_wp2_with fail
  go_loopg [3, 4] 27 (fun gk so si wr => ∃ a : Nat, a + gk = 27 ∧ si = .int .i64 a ∧ so = .int .i64 (msk f a : Nat) ∧ Hid (Below w.heap.size w wr))
  case atStart => exact ⟨0, rfl, rfl, rfl, B0⟩
  case round =>
    clear B0
    obtain ⟨a, ha, rfl, rfl, B⟩ := hrel
    by_cases hla : a < 27
    · have A1 := Lib.hid (fun w => l2At_any a hla w)
      have A2 := Lib.hid (fun w => one_any (stX a) (stY a) (stZ a) w)
      have A3 := Lib.hid (fun w => HO.out a hla w)
      rw [HT.out a] at A3
      have hor := or_wrap (msk f a) a (msk_lt _ _) hla
      have hn : msk f (a + 1) = msk f a + (if f a then 2 ^ a else 0) := rfl
      generalize (k.text.length : Int) = lk at *
      generalize hxx : stX a = x at *
      generalize hyy : stY a = y at *
      generalize hzz : stZ a = z at *
      clear hxx hyy hzz
      cases hfa : f a
      all_goals
        rw [hfa] at A3 hn
        simp only [Bool.false_eq_true, if_false, if_true, Nat.add_zero] at hn
        have HN := Lib.hid hn
        have HOR := Lib.hid hor
        clear hfa hn hor
        go_wp2_with fail
        refine (A1.out _).mono ?_
        rintro e w1 ⟨rfl, hb⟩
        replace B := Lib.hid (below_2 B.out hb)
        clear hb
        go_wp2_with fail
        refine (A2.out _).mono ?_
        rintro e w2 ⟨rfl, hb⟩
        replace B := Lib.hid (below_2 B.out hb)
        clear hb
        go_wp2_with fail
        refine (A3.out _).mono ?_
        rintro e w3 ⟨rfl, hb⟩
        replace B := Lib.hid (below_2 B.out hb)
        clear hb
        go_wp2_with fail
        go_roundg (gk - 1)
        case measure => omega
        case rel => exact ⟨a + 1, by omega, by go_num, (by first | (rw [HN.out]; done) | exact congrArg (Value.int .i64) (by rw [HN.out]; exact HOR.out)), B⟩
    · obtain rfl : a = 27 := by omega
      clear HO HT
      go_wp2_with fail
      go_ret
      exact ⟨rfl, B.out⟩

end Go.Proofs.Ythdgheglmkhcbaa
