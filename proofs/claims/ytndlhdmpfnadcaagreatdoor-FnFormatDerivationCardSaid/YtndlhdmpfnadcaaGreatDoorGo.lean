/- XGo: XRb XRc XRe put together. -/
import Derived.Test.YtndlhdmpfnadcaaGreatDoorGn
/- What a program can do from all states: 29 numbers in memory; doing nothing, assigning; the states of a test. -/
namespace Go.Proofs.YtndlhdmpfnadcaaGreatDoor
open Go.RowKit
open Pl

def M29 (f : Nat → Nat) : Prop := ∀ i, i < 29 → f i < 134217728
theorem M29.upd {f : Nat → Nat} (h : M29 f) (i : Nat) {v : Nat} (hv : v < 134217728) : M29 (upd f i v) := fun a ha => by
  unfold Proofs.YtndlhdmpfnadcaaGreatDoor.upd
  split
  · exact hv
  · exact h a ha
theorem av2_zero : #[.int .i64 0, .int .i64 0, .int .i64 0, .int .i64 0, .int .i64 0, .int .i64 0, .int .i64 0, .int .i64 0, .int .i64 0, .int .i64 0, .int .i64 0, .int .i64 0, .int .i64 0, .int .i64 0, .int .i64 0, .int .i64 0, .int .i64 0, .int .i64 0, .int .i64 0, .int .i64 0, .int .i64 0, .int .i64 0, .int .i64 0, .int .i64 0, .int .i64 0, .int .i64 0, .int .i64 0, .int .i64 0, .int .i64 0] = av 29 (fun _ => 0) := by
  apply Array.ext_getElem?
  intro a
  by_cases ha : a < 29
  · rw [av_get _ ha]
    have h : a = 0 ∨ a = 1 ∨ a = 2 ∨ a = 3 ∨ a = 4 ∨ a = 5 ∨ a = 6 ∨ a = 7 ∨ a = 8 ∨ a = 9 ∨ a = 10 ∨ a = 11 ∨ a = 12 ∨ a = 13 ∨ a = 14 ∨ a = 15 ∨ a = 16 ∨ a = 17 ∨ a = 18 ∨ a = 19 ∨ a = 20 ∨ a = 21 ∨ a = 22 ∨ a = 23 ∨ a = 24 ∨ a = 25 ∨ a = 26 ∨ a = 27 ∨ a = 28 := by omega
    rcases h with rfl | rfl | rfl | rfl | rfl | rfl | rfl | rfl | rfl | rfl | rfl | rfl | rfl | rfl | rfl | rfl | rfl | rfl | rfl | rfl | rfl | rfl | rfl | rfl | rfl | rfl | rfl | rfl | rfl <;> rfl
  · rw [Array.getElem?_eq_none (by show 29 ≤ a; omega), Array.getElem?_eq_none (by rw [av_size]; omega)]
def ltF (m n : Nat) : Nat → Nat := fun i => if i = 27 then m else if i = 28 then n else 0
theorem lt_av (m n : Nat) : #[.int .i64 0, .int .i64 0, .int .i64 0, .int .i64 0, .int .i64 0, .int .i64 0, .int .i64 0, .int .i64 0, .int .i64 0, .int .i64 0, .int .i64 0, .int .i64 0, .int .i64 0, .int .i64 0, .int .i64 0, .int .i64 0, .int .i64 0, .int .i64 0, .int .i64 0, .int .i64 0, .int .i64 0, .int .i64 0, .int .i64 0, .int .i64 0, .int .i64 0, .int .i64 0, .int .i64 0, .int .i64 ((m : Nat)), .int .i64 ((n : Nat))] = av 29 (ltF m n) := by
  apply Array.ext_getElem?
  intro a
  by_cases ha : a < 29
  · rw [av_get _ ha]
    have h : a = 0 ∨ a = 1 ∨ a = 2 ∨ a = 3 ∨ a = 4 ∨ a = 5 ∨ a = 6 ∨ a = 7 ∨ a = 8 ∨ a = 9 ∨ a = 10 ∨ a = 11 ∨ a = 12 ∨ a = 13 ∨ a = 14 ∨ a = 15 ∨ a = 16 ∨ a = 17 ∨ a = 18 ∨ a = 19 ∨ a = 20 ∨ a = 21 ∨ a = 22 ∨ a = 23 ∨ a = 24 ∨ a = 25 ∨ a = 26 ∨ a = 27 ∨ a = 28 := by omega
    rcases h with rfl | rfl | rfl | rfl | rfl | rfl | rfl | rfl | rfl | rfl | rfl | rfl | rfl | rfl | rfl | rfl | rfl | rfl | rfl | rfl | rfl | rfl | rfl | rfl | rfl | rfl | rfl | rfl | rfl <;> rfl
  · rw [Array.getElem?_eq_none (by show 29 ≤ a; omega), Array.getElem?_eq_none (by rw [av_size]; omega)]
theorem z2_one : (#[.int .i64 0, .int .i64 0, .int .i64 0, .int .i64 0, .int .i64 0, .int .i64 0, .int .i64 0, .int .i64 0, .int .i64 0, .int .i64 0, .int .i64 0, .int .i64 0, .int .i64 0, .int .i64 0, .int .i64 0, .int .i64 0, .int .i64 0, .int .i64 0, .int .i64 0, .int .i64 0, .int .i64 0, .int .i64 0, .int .i64 0, .int .i64 0, .int .i64 0, .int .i64 0, .int .i64 0, .int .i64 0, .int .i64 0] : Array Value).all (·.oneCell') = true := by rw [av2_zero]; exact av_one _ _
theorem lt_one (m n : Nat) : (#[.int .i64 0, .int .i64 0, .int .i64 0, .int .i64 0, .int .i64 0, .int .i64 0, .int .i64 0, .int .i64 0, .int .i64 0, .int .i64 0, .int .i64 0, .int .i64 0, .int .i64 0, .int .i64 0, .int .i64 0, .int .i64 0, .int .i64 0, .int .i64 0, .int .i64 0, .int .i64 0, .int .i64 0, .int .i64 0, .int .i64 0, .int .i64 0, .int .i64 0, .int .i64 0, .int .i64 0, .int .i64 ((m : Nat)), .int .i64 ((n : Nat))] : Array Value).all (·.oneCell') = true := by rw [lt_av]; exact av_one _ _
def Held2 (w : World) (g : Nat) : Prop := ∃ V : Array Value, V.size = 29 ∧ Blk w g 74 V
theorem Held2.below {w w' : World} {g B : Nat} (h : Held2 w g) (hb : Below B w w') (hg : g < B) : Held2 w' g := by obtain ⟨V, hz, hk⟩ := h; exact ⟨V, hz, hk.below hb hg⟩
theorem Held2.lt {w : World} {g : Nat} (h : Held2 w g) : g < w.heap.size := by obtain ⟨V, hz, hk⟩ := h; exact hk.lt
theorem Held2.far {w : World} {g : Nat} (h : Held2 w g) {p : Addr} (hp : g ≠ p.block) (u : Value) : Held2 (w.setCell p u) g := by obtain ⟨V, hz, hk⟩ := h; exact ⟨V, hz, hk.far hp u⟩
/-- the frame of a function that makes its result in a local block -/
structure S4 (w W : World) (bx : List (Nat × Array Value)) (r l : Nat) (f : Nat → Nat) : Prop where
  boxes : ∀ p ∈ bx, Blk W p.1 74 p.2 ∧ p.1 ≠ l
  res : Held2 W r
  loc : Blk W l 74 (av 29 f)
  rl : r ≠ l
  ge : w.heap.size ≤ l
  below : Below w.heap.size w W
section
variable {w W W' : World} {bx : List (Nat × Array Value)} {r l : Nat} {f : Nat → Nat}
theorem S4.call (H : S4 w W bx r l f) (hb : Below W.heap.size W W') : S4 w W' bx r l f :=
  ⟨fun p hp => ⟨(H.boxes p hp).1.below hb (H.boxes p hp).1.lt, (H.boxes p hp).2⟩, H.res.below hb H.res.lt, H.loc.below hb H.loc.lt, H.rl, H.ge, below_2 H.below hb⟩
theorem S4.drew (H : S4 w W bx r l f) : S4 w W.drew bx r l f := H.call (below_drew _ _)
theorem S4.put (H : S4 w W bx r l f) (i v : Nat) : S4 w (W.setCell ⟨l, i, none⟩ (.int .i64 (v : Nat))) bx r l (upd f i v) :=
  ⟨fun p hp => ⟨(H.boxes p hp).1.far (p := ⟨l, i, none⟩) (H.boxes p hp).2 _, (H.boxes p hp).2⟩, H.res.far (p := ⟨l, i, none⟩) H.rl _, by rw [← av_set]; exact H.loc.set_ i _, H.rl, H.ge, H.below.setCell (p := ⟨l, i, none⟩) H.ge _⟩
theorem S4.putI (H : S4 w W bx r l f) (i : Nat) {v : Nat} {raw : Int} (h : raw = (v : Nat)) : S4 w (W.setCell ⟨l, i, none⟩ (.int .i64 raw)) bx r l (upd f i v) := by rw [h]; exact H.put i v
theorem S4.get (H : S4 w W bx r l f) {i : Nat} (hi : i < 29) : W.cell? ⟨l, i, none⟩ = some (.int .i64 (f i : Nat)) ∧ W.frozen? ⟨l, i, none⟩ = false ∧ W.drew.cell? ⟨l, i, none⟩ = some (.int .i64 (f i : Nat)) ∧ W.drew.frozen? ⟨l, i, none⟩ = false :=
  ⟨(H.loc.cell i).trans (av_get f hi), H.loc.frozen i, (H.loc.cell i).trans (av_get f hi), H.loc.frozen i⟩
theorem S4.box (H : S4 w W bx r l f) {b : Nat} {g : Nat → Nat} (hp : (b, av 29 g) ∈ bx) {i : Nat} (hi : i < 29) : W.cell? ⟨b, i, none⟩ = some (.int .i64 (g i : Nat)) := ((H.boxes _ hp).1.cell i).trans (av_get g hi)
theorem S4.less (H : S4 w W bx r l f) {g : Nat → Nat} (h : ∀ i, i < 29 → f i = g i) : S4 w W bx r l g := ⟨H.boxes, H.res, by rw [← av_congr h]; exact H.loc, H.rl, H.ge, H.below⟩
end
def skF (a : Nat) : Nat → Nat := fun i => if i < a then 2 ^ i else 0
theorem skF_next {a i : Nat} : upd (skF a) a (2 ^ a) i = skF (a + 1) i := by
  unfold upd skF
  by_cases e : i = a
  · subst e; simp
  · rw [if_neg e]
    by_cases h : i < a
    · rw [if_pos h, if_pos (by omega)]
    · rw [if_neg h, if_neg (by omega)]
theorem skF_small : M29 (skF 27) := fun i _ => by
  unfold skF
  split
  · exact p27 (by assumption)
  · decide
set_option maxRecDepth 100000 in
set_option maxHeartbeats 8000000 in
theorem l4Skip_any (w : World) : Calls Tryz.prog 72 #[] w fun e w' => (e = .returned (.agg (av 29 (skF 27))) ∧ Below w.heap.size w w') := by
  obtain ⟨VE, hVE⟩ : ∃ V, av 29 (skF 27) = V := ⟨_, rfl⟩
  rw [hVE]
  have HVE := Lib.hid hVE
  clear hVE
  have kr : Blk (w.alloc (.cells #[.int .i64 0, .int .i64 0, .int .i64 0, .int .i64 0, .int .i64 0, .int .i64 0, .int .i64 0, .int .i64 0, .int .i64 0, .int .i64 0, .int .i64 0, .int .i64 0, .int .i64 0, .int .i64 0, .int .i64 0, .int .i64 0, .int .i64 0, .int .i64 0, .int .i64 0, .int .i64 0, .int .i64 0, .int .i64 0, .int .i64 0, .int .i64 0, .int .i64 0, .int .i64 0, .int .i64 0, .int .i64 0, .int .i64 0] 74)) (w.heap.size) 74 #[.int .i64 0, .int .i64 0, .int .i64 0, .int .i64 0, .int .i64 0, .int .i64 0, .int .i64 0, .int .i64 0, .int .i64 0, .int .i64 0, .int .i64 0, .int .i64 0, .int .i64 0, .int .i64 0, .int .i64 0, .int .i64 0, .int .i64 0, .int .i64 0, .int .i64 0, .int .i64 0, .int .i64 0, .int .i64 0, .int .i64 0, .int .i64 0, .int .i64 0, .int .i64 0, .int .i64 0, .int .i64 0, .int .i64 0] := by
    have h0 := Blk.new w 74 #[.int .i64 0, .int .i64 0, .int .i64 0, .int .i64 0, .int .i64 0, .int .i64 0, .int .i64 0, .int .i64 0, .int .i64 0, .int .i64 0, .int .i64 0, .int .i64 0, .int .i64 0, .int .i64 0, .int .i64 0, .int .i64 0, .int .i64 0, .int .i64 0, .int .i64 0, .int .i64 0, .int .i64 0, .int .i64 0, .int .i64 0, .int .i64 0, .int .i64 0, .int .i64 0, .int .i64 0, .int .i64 0, .int .i64 0]
    have hz : w.heap.size = w.heap.size := by simp
    rw [hz] at h0
    exact h0
  have kz : Blk ((w.alloc (.cells #[.int .i64 0, .int .i64 0, .int .i64 0, .int .i64 0, .int .i64 0, .int .i64 0, .int .i64 0, .int .i64 0, .int .i64 0, .int .i64 0, .int .i64 0, .int .i64 0, .int .i64 0, .int .i64 0, .int .i64 0, .int .i64 0, .int .i64 0, .int .i64 0, .int .i64 0, .int .i64 0, .int .i64 0, .int .i64 0, .int .i64 0, .int .i64 0, .int .i64 0, .int .i64 0, .int .i64 0, .int .i64 0, .int .i64 0] 74)).alloc (.cells #[.int .i64 0, .int .i64 0, .int .i64 0, .int .i64 0, .int .i64 0, .int .i64 0, .int .i64 0, .int .i64 0, .int .i64 0, .int .i64 0, .int .i64 0, .int .i64 0, .int .i64 0, .int .i64 0, .int .i64 0, .int .i64 0, .int .i64 0, .int .i64 0, .int .i64 0, .int .i64 0, .int .i64 0, .int .i64 0, .int .i64 0, .int .i64 0, .int .i64 0, .int .i64 0, .int .i64 0, .int .i64 0, .int .i64 0] 74)) (w.heap.size + 1) 74 #[.int .i64 0, .int .i64 0, .int .i64 0, .int .i64 0, .int .i64 0, .int .i64 0, .int .i64 0, .int .i64 0, .int .i64 0, .int .i64 0, .int .i64 0, .int .i64 0, .int .i64 0, .int .i64 0, .int .i64 0, .int .i64 0, .int .i64 0, .int .i64 0, .int .i64 0, .int .i64 0, .int .i64 0, .int .i64 0, .int .i64 0, .int .i64 0, .int .i64 0, .int .i64 0, .int .i64 0, .int .i64 0, .int .i64 0] := by
    have h0 := Blk.new (w.alloc (.cells #[.int .i64 0, .int .i64 0, .int .i64 0, .int .i64 0, .int .i64 0, .int .i64 0, .int .i64 0, .int .i64 0, .int .i64 0, .int .i64 0, .int .i64 0, .int .i64 0, .int .i64 0, .int .i64 0, .int .i64 0, .int .i64 0, .int .i64 0, .int .i64 0, .int .i64 0, .int .i64 0, .int .i64 0, .int .i64 0, .int .i64 0, .int .i64 0, .int .i64 0, .int .i64 0, .int .i64 0, .int .i64 0, .int .i64 0] 74)) 74 #[.int .i64 0, .int .i64 0, .int .i64 0, .int .i64 0, .int .i64 0, .int .i64 0, .int .i64 0, .int .i64 0, .int .i64 0, .int .i64 0, .int .i64 0, .int .i64 0, .int .i64 0, .int .i64 0, .int .i64 0, .int .i64 0, .int .i64 0, .int .i64 0, .int .i64 0, .int .i64 0, .int .i64 0, .int .i64 0, .int .i64 0, .int .i64 0, .int .i64 0, .int .i64 0, .int .i64 0, .int .i64 0, .int .i64 0]
    have hz : (w.alloc (.cells #[.int .i64 0, .int .i64 0, .int .i64 0, .int .i64 0, .int .i64 0, .int .i64 0, .int .i64 0, .int .i64 0, .int .i64 0, .int .i64 0, .int .i64 0, .int .i64 0, .int .i64 0, .int .i64 0, .int .i64 0, .int .i64 0, .int .i64 0, .int .i64 0, .int .i64 0, .int .i64 0, .int .i64 0, .int .i64 0, .int .i64 0, .int .i64 0, .int .i64 0, .int .i64 0, .int .i64 0, .int .i64 0, .int .i64 0] 74)).heap.size = w.heap.size + 1 := by simp
    rw [hz] at h0
    exact h0
  have KZ := Lib.hid kz
  have H0 : Hid (S4 w (((w.alloc (.cells #[.int .i64 0, .int .i64 0, .int .i64 0, .int .i64 0, .int .i64 0, .int .i64 0, .int .i64 0, .int .i64 0, .int .i64 0, .int .i64 0, .int .i64 0, .int .i64 0, .int .i64 0, .int .i64 0, .int .i64 0, .int .i64 0, .int .i64 0, .int .i64 0, .int .i64 0, .int .i64 0, .int .i64 0, .int .i64 0, .int .i64 0, .int .i64 0, .int .i64 0, .int .i64 0, .int .i64 0, .int .i64 0, .int .i64 0] 74)).alloc (.cells #[.int .i64 0, .int .i64 0, .int .i64 0, .int .i64 0, .int .i64 0, .int .i64 0, .int .i64 0, .int .i64 0, .int .i64 0, .int .i64 0, .int .i64 0, .int .i64 0, .int .i64 0, .int .i64 0, .int .i64 0, .int .i64 0, .int .i64 0, .int .i64 0, .int .i64 0, .int .i64 0, .int .i64 0, .int .i64 0, .int .i64 0, .int .i64 0, .int .i64 0, .int .i64 0, .int .i64 0, .int .i64 0, .int .i64 0] 74)).setRow (w.heap.size + 1) #[.int .i64 0, .int .i64 0, .int .i64 0, .int .i64 0, .int .i64 0, .int .i64 0, .int .i64 0, .int .i64 0, .int .i64 0, .int .i64 0, .int .i64 0, .int .i64 0, .int .i64 0, .int .i64 0, .int .i64 0, .int .i64 0, .int .i64 0, .int .i64 0, .int .i64 0, .int .i64 0, .int .i64 0, .int .i64 0, .int .i64 0, .int .i64 0, .int .i64 0, .int .i64 0, .int .i64 0, .int .i64 0, .int .i64 0]) [] (w.heap.size) (w.heap.size + 1) (skF 0)) := by
    refine ⟨fun p hp => ?_, ⟨_, rfl, (kr.alloc _).row_ne (by omega) _⟩, ?_, by omega, by omega, (((Below.refl w.heap.size w).alloc (by first | exact Nat.le_refl _ | (simp; done) | (simp; omega)) (.cells #[.int .i64 0, .int .i64 0, .int .i64 0, .int .i64 0, .int .i64 0, .int .i64 0, .int .i64 0, .int .i64 0, .int .i64 0, .int .i64 0, .int .i64 0, .int .i64 0, .int .i64 0, .int .i64 0, .int .i64 0, .int .i64 0, .int .i64 0, .int .i64 0, .int .i64 0, .int .i64 0, .int .i64 0, .int .i64 0, .int .i64 0, .int .i64 0, .int .i64 0, .int .i64 0, .int .i64 0, .int .i64 0, .int .i64 0] 74)).alloc (by first | exact Nat.le_refl _ | (simp; done) | (simp; omega)) (.cells #[.int .i64 0, .int .i64 0, .int .i64 0, .int .i64 0, .int .i64 0, .int .i64 0, .int .i64 0, .int .i64 0, .int .i64 0, .int .i64 0, .int .i64 0, .int .i64 0, .int .i64 0, .int .i64 0, .int .i64 0, .int .i64 0, .int .i64 0, .int .i64 0, .int .i64 0, .int .i64 0, .int .i64 0, .int .i64 0, .int .i64 0, .int .i64 0, .int .i64 0, .int .i64 0, .int .i64 0, .int .i64 0, .int .i64 0] 74)).trans (below_row (by omega) _)⟩
    · exact absurd hp (by simp)
    · rw [← (show #[.int .i64 0, .int .i64 0, .int .i64 0, .int .i64 0, .int .i64 0, .int .i64 0, .int .i64 0, .int .i64 0, .int .i64 0, .int .i64 0, .int .i64 0, .int .i64 0, .int .i64 0, .int .i64 0, .int .i64 0, .int .i64 0, .int .i64 0, .int .i64 0, .int .i64 0, .int .i64 0, .int .i64 0, .int .i64 0, .int .i64 0, .int .i64 0, .int .i64 0, .int .i64 0, .int .i64 0, .int .i64 0, .int .i64 0] = av 29 (skF 0) from av2_zero)]; exact kz.row _
  clear kz kr 
  go_enter Tryz.func72, Tryz.ntmps72
  go_wp2_with (refine wpList_store_row rfl 74 (.tmp 1) (.tmp 3) rfl (w.heap.size + 1) #[.int .i64 0, .int .i64 0, .int .i64 0, .int .i64 0, .int .i64 0, .int .i64 0, .int .i64 0, .int .i64 0, .int .i64 0, .int .i64 0, .int .i64 0, .int .i64 0, .int .i64 0, .int .i64 0, .int .i64 0, .int .i64 0, .int .i64 0, .int .i64 0, .int .i64 0, .int .i64 0, .int .i64 0, .int .i64 0, .int .i64 0, .int .i64 0, .int .i64 0, .int .i64 0, .int .i64 0, .int .i64 0, .int .i64 0] rfl rfl 74 #[.int .i64 0, .int .i64 0, .int .i64 0, .int .i64 0, .int .i64 0, .int .i64 0, .int .i64 0, .int .i64 0, .int .i64 0, .int .i64 0, .int .i64 0, .int .i64 0, .int .i64 0, .int .i64 0, .int .i64 0, .int .i64 0, .int .i64 0, .int .i64 0, .int .i64 0, .int .i64 0, .int .i64 0, .int .i64 0, .int .i64 0, .int .i64 0, .int .i64 0, .int .i64 0, .int .i64 0, .int .i64 0, .int .i64 0] KZ.out all_size rfl z2_one ?_)
  clear KZ
  go_loopg [2] 27 (fun gk sv wr => ∃ a : Nat, a + gk = 27 ∧ sv = .int .i64 a ∧ Hid (S4 w wr [] (w.heap.size) (w.heap.size + 1) (skF a)))
  case atStart => exact ⟨0, rfl, rfl, H0⟩
  case round =>
    clear H0
    obtain ⟨a, ha, rfl, HH⟩ := hrel
    have H := HH.out
    clear HH
    by_cases hla : a < 27
    · have hxa : (a : Int) < 27 := by omega
      obtain ⟨hc, hf, _, _⟩ := H.get (i := a) (by omega)
      have H5 := (H.putI a (wrap_pow hla)).less (g := skF (a + 1)) (fun i _ => skF_next)
      have HH := Lib.hid H5
      clear H5 H
      go_wp2_with fail
      go_roundg (gk - 1)
      case measure => omega
      case rel => exact ⟨a + 1, by omega, by go_num, HH⟩
    · obtain rfl : a = 27 := by omega
      clear hla 
      have k3 := H.loc
      rw [HVE.out] at k3
      have hz : VE.size = 29 := by rw [← HVE.out]; exact av_size _ _
      have h1 : VE.all (·.oneCell') = true := by rw [← HVE.out]; exact av_one _ _
      have hi : (Tryz.prog.info? 74).map (·.size) = some VE.size := by rw [hz]; exact all_size
      obtain ⟨old, hoz, k2⟩ := H.res
      have kE := setRow_heap wr (w.heap.size) _ VE 74 (0, 0) k2
      have BE : Hid (Below w.heap.size w (wr.setRow (w.heap.size) VE)) := H.below.trans (below_row (by first | omega | exact Nat.le_refl _) VE)
      have X := Lib.hid (And.intro k3 (And.intro k2 (And.intro hi (And.intro (hoz.trans hz.symm) (And.intro h1 kE)))))
      clear k3 k2 hoz kE hz h1 hi H HVE
      go_wp2_with (first | (refine wpList_load_row rfl 74 (.tmp 1) rfl (w.heap.size + 1) rfl 74 VE (0, 0) _ X.out.1 Tryz.underlying74 rfl X.out.2.2.1 ?_) | (refine wpList_store_row rfl 74 (.tmp 0) (.tmp 14) rfl (w.heap.size) VE rfl rfl 74 old X.out.2.1 X.out.2.2.1 X.out.2.2.2.1 X.out.2.2.2.2.1 ?_))
      exact bodyPost_ret (v := .agg VE) (results_cell_row rfl _ _ (w.heap.size) 74 VE (0, 0) _ rfl X.out.2.2.2.2.2 Tryz.underlying74 rfl X.out.2.2.1) rfl ⟨rfl, BE.out⟩
/-- the number of a state assigned to -/
def asN (c : UInt8) (k : Nd) (i : Nat) : Nat := (put1 c 120 (val (envOf (stX i) (stY i) (stZ i) 0 0 0) k) (stX i) + 3 * put1 c 121 (val (envOf (stX i) (stY i) (stZ i) 0 0 0) k) (stY i) + 9 * put1 c 122 (val (envOf (stX i) (stY i) (stZ i) 0 0 0) k) (stZ i)).toNat
theorem as_small {c : UInt8} {k : Nd} {i : Nat} (hi : i < 27) : ∃ n : Int, small n ∧ val (envOf (stX i) (stY i) (stZ i) 0 0 0) k = n ∧ small (put1 c 120 n (stX i)) ∧ small (put1 c 121 n (stY i)) ∧ small (put1 c 122 n (stZ i)) := by
  have s0 : small 0 := ⟨by omega, by omega⟩
  have hn := val_small (ρ := envOf (stX i) (stY i) (stZ i) 0 0 0) (fun c => envOf_small (stX_small i) (stY_small i) (stZ_small hi) s0 s0 s0 c) k
  exact ⟨_, hn, rfl, put1_small hn (stX_small i), put1_small hn (stY_small i), put1_small hn (stZ_small hi)⟩
theorem asN_lt {c : UInt8} {k : Nd} {i : Nat} (hi : i < 27) : asN c k i < 27 := by
  obtain ⟨n, hn, e, ⟨x1, x2⟩, ⟨y1, y2⟩, z1, z2⟩ := as_small (c := c) (k := k) hi
  unfold asN
  rw [e]
  omega
theorem asN_int {c : UInt8} {k : Nd} {i : Nat} (hi : i < 27) : put1 c 120 (val (envOf (stX i) (stY i) (stZ i) 0 0 0) k) (stX i) + 3 * put1 c 121 (val (envOf (stX i) (stY i) (stZ i) 0 0 0) k) (stY i) + 9 * put1 c 122 (val (envOf (stX i) (stY i) (stZ i) 0 0 0) k) (stZ i) = (asN c k i : Nat) := by
  obtain ⟨n, hn, e, ⟨x1, x2⟩, ⟨y1, y2⟩, z1, z2⟩ := as_small (c := c) (k := k) hi
  unfold asN
  rw [e]
  omega
def seF (c : UInt8) (k : Nd) (a : Nat) : Nat → Nat := fun i => if i < a then 2 ^ (asN c k i) else 0
theorem seF_next {c : UInt8} {k : Nd} {a i : Nat} : upd (seF c k a) a (2 ^ (asN c k a)) i = seF c k (a + 1) i := by
  unfold upd seF
  by_cases e : i = a
  · subst e; simp
  · rw [if_neg e]
    by_cases h : i < a
    · rw [if_pos h, if_pos (by omega)]
    · rw [if_neg h, if_neg (by omega)]
theorem seF_small (c : UInt8) (k : Nd) : M29 (seF c k 27) := fun i _ => by
  unfold seF
  split
  · exact p27 (asN_lt (by assumption))
  · decide
set_option maxRecDepth 100000 in
set_option maxHeartbeats 8000000 in
theorem l4Set_any (S : ByteArray) (hS : S.size ≤ 1000000) (k : Nd) (hk : ok false 0 k = true) (ht : S.data.toList = k.text) (c : UInt8) (hc : c ∈ nmsN) (w : World) : Calls Tryz.prog 73 #[.int .i64 (fnd nmsN c), .string S] w fun e w' => (e = .returned (.agg (av 29 (seF c k 27))) ∧ Below w.heap.size w w') := by
  have AT := Lib.hid (fun (i : Nat) (hi : i < 27) w => l2At_any i hi w)
  have AS := Lib.hid (fun (i : Nat) (hi : i < 27) w => l2Assign_any S hS k hk ht (stX i) (stY i) (stZ i) (stX_small i) (stY_small i) (stZ_small hi) c hc w)
  have IX := Lib.hid (fun (i : Nat) (hi : i < 27) w => by
    obtain ⟨n, hn, e, sx, sy, sz⟩ := as_small (c := c) (k := k) hi
    have := l2Index_any _ _ _ (e ▸ sx) (e ▸ sy) (e ▸ sz) w
    rw [asN_int hi] at this
    exact this)
  clear hk ht hc
  obtain ⟨VE, hVE⟩ : ∃ V, av 29 (seF c k 27) = V := ⟨_, rfl⟩
  rw [hVE]
  have HVE := Lib.hid hVE
  clear hVE
  have kr : Blk (w.alloc (.cells #[.int .i64 0, .int .i64 0, .int .i64 0, .int .i64 0, .int .i64 0, .int .i64 0, .int .i64 0, .int .i64 0, .int .i64 0, .int .i64 0, .int .i64 0, .int .i64 0, .int .i64 0, .int .i64 0, .int .i64 0, .int .i64 0, .int .i64 0, .int .i64 0, .int .i64 0, .int .i64 0, .int .i64 0, .int .i64 0, .int .i64 0, .int .i64 0, .int .i64 0, .int .i64 0, .int .i64 0, .int .i64 0, .int .i64 0] 74)) (w.heap.size) 74 #[.int .i64 0, .int .i64 0, .int .i64 0, .int .i64 0, .int .i64 0, .int .i64 0, .int .i64 0, .int .i64 0, .int .i64 0, .int .i64 0, .int .i64 0, .int .i64 0, .int .i64 0, .int .i64 0, .int .i64 0, .int .i64 0, .int .i64 0, .int .i64 0, .int .i64 0, .int .i64 0, .int .i64 0, .int .i64 0, .int .i64 0, .int .i64 0, .int .i64 0, .int .i64 0, .int .i64 0, .int .i64 0, .int .i64 0] := by
    have h0 := Blk.new w 74 #[.int .i64 0, .int .i64 0, .int .i64 0, .int .i64 0, .int .i64 0, .int .i64 0, .int .i64 0, .int .i64 0, .int .i64 0, .int .i64 0, .int .i64 0, .int .i64 0, .int .i64 0, .int .i64 0, .int .i64 0, .int .i64 0, .int .i64 0, .int .i64 0, .int .i64 0, .int .i64 0, .int .i64 0, .int .i64 0, .int .i64 0, .int .i64 0, .int .i64 0, .int .i64 0, .int .i64 0, .int .i64 0, .int .i64 0]
    have hz : w.heap.size = w.heap.size := by simp
    rw [hz] at h0
    exact h0
  have kz : Blk ((w.alloc (.cells #[.int .i64 0, .int .i64 0, .int .i64 0, .int .i64 0, .int .i64 0, .int .i64 0, .int .i64 0, .int .i64 0, .int .i64 0, .int .i64 0, .int .i64 0, .int .i64 0, .int .i64 0, .int .i64 0, .int .i64 0, .int .i64 0, .int .i64 0, .int .i64 0, .int .i64 0, .int .i64 0, .int .i64 0, .int .i64 0, .int .i64 0, .int .i64 0, .int .i64 0, .int .i64 0, .int .i64 0, .int .i64 0, .int .i64 0] 74)).alloc (.cells #[.int .i64 0, .int .i64 0, .int .i64 0, .int .i64 0, .int .i64 0, .int .i64 0, .int .i64 0, .int .i64 0, .int .i64 0, .int .i64 0, .int .i64 0, .int .i64 0, .int .i64 0, .int .i64 0, .int .i64 0, .int .i64 0, .int .i64 0, .int .i64 0, .int .i64 0, .int .i64 0, .int .i64 0, .int .i64 0, .int .i64 0, .int .i64 0, .int .i64 0, .int .i64 0, .int .i64 0, .int .i64 0, .int .i64 0] 74)) (w.heap.size + 1) 74 #[.int .i64 0, .int .i64 0, .int .i64 0, .int .i64 0, .int .i64 0, .int .i64 0, .int .i64 0, .int .i64 0, .int .i64 0, .int .i64 0, .int .i64 0, .int .i64 0, .int .i64 0, .int .i64 0, .int .i64 0, .int .i64 0, .int .i64 0, .int .i64 0, .int .i64 0, .int .i64 0, .int .i64 0, .int .i64 0, .int .i64 0, .int .i64 0, .int .i64 0, .int .i64 0, .int .i64 0, .int .i64 0, .int .i64 0] := by
    have h0 := Blk.new (w.alloc (.cells #[.int .i64 0, .int .i64 0, .int .i64 0, .int .i64 0, .int .i64 0, .int .i64 0, .int .i64 0, .int .i64 0, .int .i64 0, .int .i64 0, .int .i64 0, .int .i64 0, .int .i64 0, .int .i64 0, .int .i64 0, .int .i64 0, .int .i64 0, .int .i64 0, .int .i64 0, .int .i64 0, .int .i64 0, .int .i64 0, .int .i64 0, .int .i64 0, .int .i64 0, .int .i64 0, .int .i64 0, .int .i64 0, .int .i64 0] 74)) 74 #[.int .i64 0, .int .i64 0, .int .i64 0, .int .i64 0, .int .i64 0, .int .i64 0, .int .i64 0, .int .i64 0, .int .i64 0, .int .i64 0, .int .i64 0, .int .i64 0, .int .i64 0, .int .i64 0, .int .i64 0, .int .i64 0, .int .i64 0, .int .i64 0, .int .i64 0, .int .i64 0, .int .i64 0, .int .i64 0, .int .i64 0, .int .i64 0, .int .i64 0, .int .i64 0, .int .i64 0, .int .i64 0, .int .i64 0]
    have hz : (w.alloc (.cells #[.int .i64 0, .int .i64 0, .int .i64 0, .int .i64 0, .int .i64 0, .int .i64 0, .int .i64 0, .int .i64 0, .int .i64 0, .int .i64 0, .int .i64 0, .int .i64 0, .int .i64 0, .int .i64 0, .int .i64 0, .int .i64 0, .int .i64 0, .int .i64 0, .int .i64 0, .int .i64 0, .int .i64 0, .int .i64 0, .int .i64 0, .int .i64 0, .int .i64 0, .int .i64 0, .int .i64 0, .int .i64 0, .int .i64 0] 74)).heap.size = w.heap.size + 1 := by simp
    rw [hz] at h0
    exact h0
  have KZ := Lib.hid kz
  have H0 : Hid (S4 w (((w.alloc (.cells #[.int .i64 0, .int .i64 0, .int .i64 0, .int .i64 0, .int .i64 0, .int .i64 0, .int .i64 0, .int .i64 0, .int .i64 0, .int .i64 0, .int .i64 0, .int .i64 0, .int .i64 0, .int .i64 0, .int .i64 0, .int .i64 0, .int .i64 0, .int .i64 0, .int .i64 0, .int .i64 0, .int .i64 0, .int .i64 0, .int .i64 0, .int .i64 0, .int .i64 0, .int .i64 0, .int .i64 0, .int .i64 0, .int .i64 0] 74)).alloc (.cells #[.int .i64 0, .int .i64 0, .int .i64 0, .int .i64 0, .int .i64 0, .int .i64 0, .int .i64 0, .int .i64 0, .int .i64 0, .int .i64 0, .int .i64 0, .int .i64 0, .int .i64 0, .int .i64 0, .int .i64 0, .int .i64 0, .int .i64 0, .int .i64 0, .int .i64 0, .int .i64 0, .int .i64 0, .int .i64 0, .int .i64 0, .int .i64 0, .int .i64 0, .int .i64 0, .int .i64 0, .int .i64 0, .int .i64 0] 74)).setRow (w.heap.size + 1) #[.int .i64 0, .int .i64 0, .int .i64 0, .int .i64 0, .int .i64 0, .int .i64 0, .int .i64 0, .int .i64 0, .int .i64 0, .int .i64 0, .int .i64 0, .int .i64 0, .int .i64 0, .int .i64 0, .int .i64 0, .int .i64 0, .int .i64 0, .int .i64 0, .int .i64 0, .int .i64 0, .int .i64 0, .int .i64 0, .int .i64 0, .int .i64 0, .int .i64 0, .int .i64 0, .int .i64 0, .int .i64 0, .int .i64 0]) [] (w.heap.size) (w.heap.size + 1) (seF c k 0)) := by
    refine ⟨fun p hp => ?_, ⟨_, rfl, (kr.alloc _).row_ne (by omega) _⟩, ?_, by omega, by omega, (((Below.refl w.heap.size w).alloc (by first | exact Nat.le_refl _ | (simp; done) | (simp; omega)) (.cells #[.int .i64 0, .int .i64 0, .int .i64 0, .int .i64 0, .int .i64 0, .int .i64 0, .int .i64 0, .int .i64 0, .int .i64 0, .int .i64 0, .int .i64 0, .int .i64 0, .int .i64 0, .int .i64 0, .int .i64 0, .int .i64 0, .int .i64 0, .int .i64 0, .int .i64 0, .int .i64 0, .int .i64 0, .int .i64 0, .int .i64 0, .int .i64 0, .int .i64 0, .int .i64 0, .int .i64 0, .int .i64 0, .int .i64 0] 74)).alloc (by first | exact Nat.le_refl _ | (simp; done) | (simp; omega)) (.cells #[.int .i64 0, .int .i64 0, .int .i64 0, .int .i64 0, .int .i64 0, .int .i64 0, .int .i64 0, .int .i64 0, .int .i64 0, .int .i64 0, .int .i64 0, .int .i64 0, .int .i64 0, .int .i64 0, .int .i64 0, .int .i64 0, .int .i64 0, .int .i64 0, .int .i64 0, .int .i64 0, .int .i64 0, .int .i64 0, .int .i64 0, .int .i64 0, .int .i64 0, .int .i64 0, .int .i64 0, .int .i64 0, .int .i64 0] 74)).trans (below_row (by omega) _)⟩
    · exact absurd hp (by simp)
    · rw [← (show #[.int .i64 0, .int .i64 0, .int .i64 0, .int .i64 0, .int .i64 0, .int .i64 0, .int .i64 0, .int .i64 0, .int .i64 0, .int .i64 0, .int .i64 0, .int .i64 0, .int .i64 0, .int .i64 0, .int .i64 0, .int .i64 0, .int .i64 0, .int .i64 0, .int .i64 0, .int .i64 0, .int .i64 0, .int .i64 0, .int .i64 0, .int .i64 0, .int .i64 0, .int .i64 0, .int .i64 0, .int .i64 0, .int .i64 0] = av 29 (seF c k 0) from av2_zero)]; exact kz.row _
  clear kz kr 
  go_enter Tryz.func73, Tryz.ntmps73
  go_wp2_with (refine wpList_store_row rfl 74 (.tmp 5) (.tmp 7) rfl (w.heap.size + 1) #[.int .i64 0, .int .i64 0, .int .i64 0, .int .i64 0, .int .i64 0, .int .i64 0, .int .i64 0, .int .i64 0, .int .i64 0, .int .i64 0, .int .i64 0, .int .i64 0, .int .i64 0, .int .i64 0, .int .i64 0, .int .i64 0, .int .i64 0, .int .i64 0, .int .i64 0, .int .i64 0, .int .i64 0, .int .i64 0, .int .i64 0, .int .i64 0, .int .i64 0, .int .i64 0, .int .i64 0, .int .i64 0, .int .i64 0] rfl rfl 74 #[.int .i64 0, .int .i64 0, .int .i64 0, .int .i64 0, .int .i64 0, .int .i64 0, .int .i64 0, .int .i64 0, .int .i64 0, .int .i64 0, .int .i64 0, .int .i64 0, .int .i64 0, .int .i64 0, .int .i64 0, .int .i64 0, .int .i64 0, .int .i64 0, .int .i64 0, .int .i64 0, .int .i64 0, .int .i64 0, .int .i64 0, .int .i64 0, .int .i64 0, .int .i64 0, .int .i64 0, .int .i64 0, .int .i64 0] KZ.out all_size rfl z2_one ?_)
  clear KZ
  go_loopg [6] 27 (fun gk sv wr => ∃ a : Nat, a + gk = 27 ∧ sv = .int .i64 a ∧ Hid (S4 w wr [] (w.heap.size) (w.heap.size + 1) (seF c k a)))
  case atStart => exact ⟨0, rfl, rfl, H0⟩
  case round =>
    clear H0
    obtain ⟨a, ha, rfl, HH⟩ := hrel
    have H := HH.out
    clear HH
    by_cases hla : a < 27
    · have hxa : (a : Int) < 27 := by omega
      have A1 := Lib.hid (fun w => AT.out a hla w)
      have A2 := Lib.hid (fun w => AS.out a hla w)
      have A3 := Lib.hid (fun w => IX.out a hla w)
      have hn := asN_lt (c := c) (k := k) hla
      have hnx : seF c k (a + 1) = seF c k (a + 1) := rfl
      generalize val (envOf (stX a) (stY a) (stZ a) 0 0 0) k = vv at *
      generalize put1 c 120 vv (stX a) = p1 at *
      generalize put1 c 121 vv (stY a) = p2 at *
      generalize put1 c 122 vv (stZ a) = p3 at *
      have NX := Lib.hid (fun i => seF_next (c := c) (k := k) (a := a) (i := i))
      generalize asN c k a = na at *
      generalize stX a = x at *
      generalize stY a = y at *
      generalize stZ a = z at *
      clear hnx
      go_wp2_with fail
      refine (A1.out _).mono ?_
      rintro e w1 ⟨rfl, hb⟩
      replace H := H.call hb
      clear hb
      go_wp2_with fail
      refine (A2.out _).mono ?_
      rintro e w2 ⟨rfl, hb⟩
      replace H := H.call hb
      clear hb
      go_wp2_with fail
      refine (A3.out _).mono ?_
      rintro e w3 ⟨rfl, hb⟩
      replace H := H.call hb
      clear hb
      obtain ⟨hcc, hf, _, _⟩ := H.get (i := a) (by omega)
      have H5 := (H.putI a (wrap_pow hn)).less (g := seF c k (a + 1)) (fun i _ => NX.out i)
      have HH := Lib.hid H5
      clear H5 H NX
      go_wp2_with fail
      go_roundg (gk - 1)
      case measure => omega
      case rel => exact ⟨a + 1, by omega, by go_num, HH⟩
    · obtain rfl : a = 27 := by omega
      clear hla AT AS IX
      have k3 := H.loc
      rw [HVE.out] at k3
      have hz : VE.size = 29 := by rw [← HVE.out]; exact av_size _ _
      have h1 : VE.all (·.oneCell') = true := by rw [← HVE.out]; exact av_one _ _
      have hi : (Tryz.prog.info? 74).map (·.size) = some VE.size := by rw [hz]; exact all_size
      obtain ⟨old, hoz, k2⟩ := H.res
      have kE := setRow_heap wr (w.heap.size) _ VE 74 (0, 0) k2
      have BE : Hid (Below w.heap.size w (wr.setRow (w.heap.size) VE)) := H.below.trans (below_row (by first | omega | exact Nat.le_refl _) VE)
      have X := Lib.hid (And.intro k3 (And.intro k2 (And.intro hi (And.intro (hoz.trans hz.symm) (And.intro h1 kE)))))
      clear k3 k2 hoz kE hz h1 hi H HVE
      go_wp2_with (first | (refine wpList_load_row rfl 74 (.tmp 5) rfl (w.heap.size + 1) rfl 74 VE (0, 0) _ X.out.1 Tryz.underlying74 rfl X.out.2.2.1 ?_) | (refine wpList_store_row rfl 74 (.tmp 4) (.tmp 23) rfl (w.heap.size) VE rfl rfl 74 old X.out.2.1 X.out.2.2.1 X.out.2.2.2.1 X.out.2.2.2.2.1 ?_))
      exact bodyPost_ret (v := .agg VE) (results_cell_row rfl _ _ (w.heap.size) 74 VE (0, 0) _ rfl X.out.2.2.2.2.2 Tryz.underlying74 rfl X.out.2.2.1) rfl ⟨rfl, BE.out⟩
/-- the states of a test -/
def teB (k : Nd) (i : Nat) : Bool := tru (envOf (stX i) (stY i) (stZ i) 0 0 0) k
set_option maxRecDepth 100000 in
set_option maxHeartbeats 8000000 in
theorem l4Test_any (S : ByteArray) (hS : S.size ≤ 1000000) (k : Nd) (hk : ok false 1 k = true) (ht : S.data.toList = k.text) (w : World) : Calls Tryz.prog 76 #[.string S] w fun e w' => (e = .returned (.int .i64 (msk (teB k) 27 : Nat)) ∧ Below w.heap.size w w') := by
  have s0 : small 0 := ⟨by omega, by omega⟩
  have HO := Lib.hid (fun i (hi : i < 27) w => holdsS_any S hS (stX i) (stY i) (stZ i) 0 0 0 (stX_small i) (stY_small i) (stZ_small hi) s0 s0 s0 false k 0 [] w hk (by rw [List.drop_zero, List.append_nil]; exact ht))
  have HT := Lib.hid (fun i => show tru (envOf (stX i) (stY i) (stZ i) 0 0 0) k = teB k i from rfl)
  generalize teB k = f at *
  have B0 := Lib.hid (Below.refl w.heap.size w)
  clear hk ht s0
  go_enter Tryz.func76, Tryz.ntmps76
  go_wp2_with fail
  go_loopg [3, 4] 27 (fun gk so si wr => ∃ a : Nat, a + gk = 27 ∧ si = .int .i64 a ∧ so = .int .i64 (msk f a : Nat) ∧ Hid (Below w.heap.size w wr))
  case atStart => exact ⟨0, rfl, rfl, rfl, B0⟩
  case round =>
    clear B0
    obtain ⟨a, ha, rfl, rfl, B⟩ := hrel
    by_cases hla : a < 27
    · have A1 := Lib.hid (fun w => l2At_any a hla w)
      have A2 := Lib.hid (fun w => one_any (stX a) (stY a) (stZ a) w)
      have A3 := Lib.hid (fun w => HO.out a hla w)
      rw [HT.out a] at A3
      have hor := or_wrap (msk f a) a (msk_lt _ _) hla
      have hn : msk f (a + 1) = msk f a + (if f a then 2 ^ a else 0) := rfl
      generalize (k.text.length : Int) = lk at *
      generalize hxx : stX a = x at *
      generalize hyy : stY a = y at *
      generalize hzz : stZ a = z at *
      clear hxx hyy hzz
      cases hfa : f a
      all_goals
        rw [hfa] at A3 hn
        simp only [Bool.false_eq_true, if_false, if_true, Nat.add_zero] at hn
        have HN := Lib.hid hn
        have HOR := Lib.hid hor
        clear hfa hn hor
        go_wp2_with fail
        refine (A1.out _).mono ?_
        rintro e w1 ⟨rfl, hb⟩
        replace B := Lib.hid (below_2 B.out hb)
        clear hb
        go_wp2_with fail
        refine (A2.out _).mono ?_
        rintro e w2 ⟨rfl, hb⟩
        replace B := Lib.hid (below_2 B.out hb)
        clear hb
        go_wp2_with fail
        refine (A3.out _).mono ?_
        rintro e w3 ⟨rfl, hb⟩
        replace B := Lib.hid (below_2 B.out hb)
        clear hb
        go_wp2_with fail
        go_roundg (gk - 1)
        case measure => omega
        case rel => exact ⟨a + 1, by omega, by go_num, (by first | (rw [HN.out]; done) | exact congrArg (Value.int .i64) (by rw [HN.out]; exact HOR.out)), B⟩
    · obtain rfl : a = 27 := by omega
      clear HO HT
      go_wp2_with fail
      go_ret
      exact ⟨rfl, B.out⟩

end Go.Proofs.YtndlhdmpfnadcaaGreatDoor

/- What two programs in sequence can do, and what one of two can do. -/
namespace Go.Proofs.YtndlhdmpfnadcaaGreatDoor
open Go.RowKit
open Pl

def bitN (m j : Nat) : Bool := m / 2 ^ j % 2 == 1
theorem inN_any (m j : Nat) (hm : m < 134217728) (hj : j < 27) (w : World) : Calls Tryz.prog 83 #[.int .i64 (m : Int), .int .i64 (j : Int)] w fun e w' => e = .returned (.bool (bitN m j)) ∧ w = w' := l4In_any m j hm hj w
theorem ltF_small {m n : Nat} (hm : m < 134217728) (hn : n < 134217728) : M29 (ltF m n) := fun i _ => by
  unfold ltF
  split
  · exact hm
  · split
    · exact hn
    · decide
/-- one step of the sequence's loops -/
def sq1 (fb g : Nat → Nat) (i j : Nat) : Nat → Nat := upd g i (g i ||| fb j)
def sq2 (fb g : Nat → Nat) (i j : Nat) : Nat → Nat := if bitN (fb 27) j then upd g 27 (g 27 ||| 2 ^ i) else g
def sq3 (fb g : Nat → Nat) (i j : Nat) : Nat → Nat := if bitN (fb 28) j then upd g 28 (g 28 ||| 2 ^ i) else g
def sqS (fa fb g : Nat → Nat) (i j : Nat) : Nat → Nat := if bitN (fa i) j then sq3 fb (sq2 fb (sq1 fb g i j) i j) i j else g
def sqN (fa fb : Nat → Nat) : Nat → Nat → Nat
  | 0 => ltF (fa 27) (fa 28)
  | n + 1 => sqS fa fb (sqN fa fb n) (n / 27) (n % 27)
theorem sq1_small {fb g : Nat → Nat} {i j : Nat} (hb : M29 fb) (hg : M29 g) (hi : i < 27) (hj : j < 27) : M29 (sq1 fb g i j) := hg.upd i (or_lt (hg i (by omega)) (hb j (by omega)))
theorem sq2_small {fb g : Nat → Nat} {i j : Nat} (hg : M29 g) (hi : i < 27) : M29 (sq2 fb g i j) := by
  unfold sq2
  split
  · exact hg.upd 27 (or_lt (hg 27 (by omega)) (p27 hi))
  · exact hg
theorem sq3_small {fb g : Nat → Nat} {i j : Nat} (hg : M29 g) (hi : i < 27) : M29 (sq3 fb g i j) := by
  unfold sq3
  split
  · exact hg.upd 28 (or_lt (hg 28 (by omega)) (p27 hi))
  · exact hg
theorem sqN_small {fa fb : Nat → Nat} (ha : M29 fa) (hb : M29 fb) (n : Nat) : n ≤ 729 → M29 (sqN fa fb n) := by
  induction n with
  | zero => intro _; exact ltF_small (ha 27 (by omega)) (ha 28 (by omega))
  | succ n ih =>
    intro hn
    have h := ih (by omega)
    rw [sqN]
    unfold sqS
    split
    · exact sq3_small (sq2_small (sq1_small hb h (by omega) (by omega)) (by omega)) (by omega)
    · exact h
theorem sqN_next (fa fb : Nat → Nat) {a b : Nat} (hb : b < 27) : sqN fa fb (27 * a + (b + 1)) = sqS fa fb (sqN fa fb (27 * a + b)) a b := by
  rw [show 27 * a + (b + 1) = (27 * a + b) + 1 by omega, sqN, show (27 * a + b) / 27 = a by omega, show (27 * a + b) % 27 = b by omega]
set_option maxRecDepth 100000 in
set_option maxHeartbeats 16000000 in
theorem l4Seq_any (fa fb : Nat → Nat) (ha : M29 fa) (hb : M29 fb) (w : World) : Calls Tryz.prog 74 #[.agg (av 29 fa), .agg (av 29 fb)] w fun e w' => (e = .returned (.agg (av 29 (sqN fa fb 729))) ∧ Below w.heap.size w w') := by
  have SM := Lib.hid (fun n (hn : n ≤ 729) => sqN_small ha hb n hn)
  have FA := Lib.hid ha
  have FB := Lib.hid hb
  obtain ⟨V1, hV1⟩ : ∃ V, av 29 fa = V := ⟨_, rfl⟩
  obtain ⟨V2, hV2⟩ : ∃ V, av 29 fb = V := ⟨_, rfl⟩
  rw [hV1, hV2]
  have HV1 := Lib.hid hV1
  have HV2 := Lib.hid hV2
  clear ha hb
  obtain ⟨VE, hVE⟩ : ∃ V, av 29 (sqN fa fb 729) = V := ⟨_, rfl⟩
  rw [hVE]
  have HVE := Lib.hid hVE
  clear hVE
  have kb0 : Blk (((w.alloc (.cells V1 74)).alloc (.cells V2 74)).alloc (.cells #[.int .i64 0, .int .i64 0, .int .i64 0, .int .i64 0, .int .i64 0, .int .i64 0, .int .i64 0, .int .i64 0, .int .i64 0, .int .i64 0, .int .i64 0, .int .i64 0, .int .i64 0, .int .i64 0, .int .i64 0, .int .i64 0, .int .i64 0, .int .i64 0, .int .i64 0, .int .i64 0, .int .i64 0, .int .i64 0, .int .i64 0, .int .i64 0, .int .i64 0, .int .i64 0, .int .i64 0, .int .i64 0, .int .i64 0] 74)) (w.heap.size) 74 V1 := by
    have h0 := Blk.new w 74 V1
    have hz : w.heap.size = w.heap.size := by simp
    rw [hz] at h0
    exact ((h0.alloc _).alloc _)
  have kb1 : Blk (((w.alloc (.cells V1 74)).alloc (.cells V2 74)).alloc (.cells #[.int .i64 0, .int .i64 0, .int .i64 0, .int .i64 0, .int .i64 0, .int .i64 0, .int .i64 0, .int .i64 0, .int .i64 0, .int .i64 0, .int .i64 0, .int .i64 0, .int .i64 0, .int .i64 0, .int .i64 0, .int .i64 0, .int .i64 0, .int .i64 0, .int .i64 0, .int .i64 0, .int .i64 0, .int .i64 0, .int .i64 0, .int .i64 0, .int .i64 0, .int .i64 0, .int .i64 0, .int .i64 0, .int .i64 0] 74)) (w.heap.size + 1) 74 V2 := by
    have h0 := Blk.new (w.alloc (.cells V1 74)) 74 V2
    have hz : (w.alloc (.cells V1 74)).heap.size = w.heap.size + 1 := by simp
    rw [hz] at h0
    exact (h0.alloc _)
  have kr : Blk (((w.alloc (.cells V1 74)).alloc (.cells V2 74)).alloc (.cells #[.int .i64 0, .int .i64 0, .int .i64 0, .int .i64 0, .int .i64 0, .int .i64 0, .int .i64 0, .int .i64 0, .int .i64 0, .int .i64 0, .int .i64 0, .int .i64 0, .int .i64 0, .int .i64 0, .int .i64 0, .int .i64 0, .int .i64 0, .int .i64 0, .int .i64 0, .int .i64 0, .int .i64 0, .int .i64 0, .int .i64 0, .int .i64 0, .int .i64 0, .int .i64 0, .int .i64 0, .int .i64 0, .int .i64 0] 74)) (w.heap.size + 2) 74 #[.int .i64 0, .int .i64 0, .int .i64 0, .int .i64 0, .int .i64 0, .int .i64 0, .int .i64 0, .int .i64 0, .int .i64 0, .int .i64 0, .int .i64 0, .int .i64 0, .int .i64 0, .int .i64 0, .int .i64 0, .int .i64 0, .int .i64 0, .int .i64 0, .int .i64 0, .int .i64 0, .int .i64 0, .int .i64 0, .int .i64 0, .int .i64 0, .int .i64 0, .int .i64 0, .int .i64 0, .int .i64 0, .int .i64 0] := by
    have h0 := Blk.new ((w.alloc (.cells V1 74)).alloc (.cells V2 74)) 74 #[.int .i64 0, .int .i64 0, .int .i64 0, .int .i64 0, .int .i64 0, .int .i64 0, .int .i64 0, .int .i64 0, .int .i64 0, .int .i64 0, .int .i64 0, .int .i64 0, .int .i64 0, .int .i64 0, .int .i64 0, .int .i64 0, .int .i64 0, .int .i64 0, .int .i64 0, .int .i64 0, .int .i64 0, .int .i64 0, .int .i64 0, .int .i64 0, .int .i64 0, .int .i64 0, .int .i64 0, .int .i64 0, .int .i64 0]
    have hz : ((w.alloc (.cells V1 74)).alloc (.cells V2 74)).heap.size = w.heap.size + 2 := by simp
    rw [hz] at h0
    exact h0
  have kz : Blk ((((w.alloc (.cells V1 74)).alloc (.cells V2 74)).alloc (.cells #[.int .i64 0, .int .i64 0, .int .i64 0, .int .i64 0, .int .i64 0, .int .i64 0, .int .i64 0, .int .i64 0, .int .i64 0, .int .i64 0, .int .i64 0, .int .i64 0, .int .i64 0, .int .i64 0, .int .i64 0, .int .i64 0, .int .i64 0, .int .i64 0, .int .i64 0, .int .i64 0, .int .i64 0, .int .i64 0, .int .i64 0, .int .i64 0, .int .i64 0, .int .i64 0, .int .i64 0, .int .i64 0, .int .i64 0] 74)).alloc (.cells #[.int .i64 0, .int .i64 0, .int .i64 0, .int .i64 0, .int .i64 0, .int .i64 0, .int .i64 0, .int .i64 0, .int .i64 0, .int .i64 0, .int .i64 0, .int .i64 0, .int .i64 0, .int .i64 0, .int .i64 0, .int .i64 0, .int .i64 0, .int .i64 0, .int .i64 0, .int .i64 0, .int .i64 0, .int .i64 0, .int .i64 0, .int .i64 0, .int .i64 0, .int .i64 0, .int .i64 0, .int .i64 0, .int .i64 0] 74)) (w.heap.size + 3) 74 #[.int .i64 0, .int .i64 0, .int .i64 0, .int .i64 0, .int .i64 0, .int .i64 0, .int .i64 0, .int .i64 0, .int .i64 0, .int .i64 0, .int .i64 0, .int .i64 0, .int .i64 0, .int .i64 0, .int .i64 0, .int .i64 0, .int .i64 0, .int .i64 0, .int .i64 0, .int .i64 0, .int .i64 0, .int .i64 0, .int .i64 0, .int .i64 0, .int .i64 0, .int .i64 0, .int .i64 0, .int .i64 0, .int .i64 0] := by
    have h0 := Blk.new (((w.alloc (.cells V1 74)).alloc (.cells V2 74)).alloc (.cells #[.int .i64 0, .int .i64 0, .int .i64 0, .int .i64 0, .int .i64 0, .int .i64 0, .int .i64 0, .int .i64 0, .int .i64 0, .int .i64 0, .int .i64 0, .int .i64 0, .int .i64 0, .int .i64 0, .int .i64 0, .int .i64 0, .int .i64 0, .int .i64 0, .int .i64 0, .int .i64 0, .int .i64 0, .int .i64 0, .int .i64 0, .int .i64 0, .int .i64 0, .int .i64 0, .int .i64 0, .int .i64 0, .int .i64 0] 74)) 74 #[.int .i64 0, .int .i64 0, .int .i64 0, .int .i64 0, .int .i64 0, .int .i64 0, .int .i64 0, .int .i64 0, .int .i64 0, .int .i64 0, .int .i64 0, .int .i64 0, .int .i64 0, .int .i64 0, .int .i64 0, .int .i64 0, .int .i64 0, .int .i64 0, .int .i64 0, .int .i64 0, .int .i64 0, .int .i64 0, .int .i64 0, .int .i64 0, .int .i64 0, .int .i64 0, .int .i64 0, .int .i64 0, .int .i64 0]
    have hz : (((w.alloc (.cells V1 74)).alloc (.cells V2 74)).alloc (.cells #[.int .i64 0, .int .i64 0, .int .i64 0, .int .i64 0, .int .i64 0, .int .i64 0, .int .i64 0, .int .i64 0, .int .i64 0, .int .i64 0, .int .i64 0, .int .i64 0, .int .i64 0, .int .i64 0, .int .i64 0, .int .i64 0, .int .i64 0, .int .i64 0, .int .i64 0, .int .i64 0, .int .i64 0, .int .i64 0, .int .i64 0, .int .i64 0, .int .i64 0, .int .i64 0, .int .i64 0, .int .i64 0, .int .i64 0] 74)).heap.size = w.heap.size + 3 := by simp
    rw [hz] at h0
    exact h0
  have hv1 : (((w.alloc (.cells V1 74)).alloc (.cells V2 74)).alloc (.cells #[.int .i64 0, .int .i64 0, .int .i64 0, .int .i64 0, .int .i64 0, .int .i64 0, .int .i64 0, .int .i64 0, .int .i64 0, .int .i64 0, .int .i64 0, .int .i64 0, .int .i64 0, .int .i64 0, .int .i64 0, .int .i64 0, .int .i64 0, .int .i64 0, .int .i64 0, .int .i64 0, .int .i64 0, .int .i64 0, .int .i64 0, .int .i64 0, .int .i64 0, .int .i64 0, .int .i64 0, .int .i64 0, .int .i64 0] 74)).cell? ⟨w.heap.size, 27, none⟩ = some (.int .i64 (fa 27 : Nat)) := (kb0.cell 27).trans (by rw [← hV1]; exact av_get fa (by omega))
  have hv2 : (((w.alloc (.cells V1 74)).alloc (.cells V2 74)).alloc (.cells #[.int .i64 0, .int .i64 0, .int .i64 0, .int .i64 0, .int .i64 0, .int .i64 0, .int .i64 0, .int .i64 0, .int .i64 0, .int .i64 0, .int .i64 0, .int .i64 0, .int .i64 0, .int .i64 0, .int .i64 0, .int .i64 0, .int .i64 0, .int .i64 0, .int .i64 0, .int .i64 0, .int .i64 0, .int .i64 0, .int .i64 0, .int .i64 0, .int .i64 0, .int .i64 0, .int .i64 0, .int .i64 0, .int .i64 0] 74)).cell? ⟨w.heap.size, 28, none⟩ = some (.int .i64 (fa 28 : Nat)) := (kb0.cell 28).trans (by rw [← hV1]; exact av_get fa (by omega))
  have KZ := Lib.hid kz
  have H0 : Hid (S4 w (((((w.alloc (.cells V1 74)).alloc (.cells V2 74)).alloc (.cells #[.int .i64 0, .int .i64 0, .int .i64 0, .int .i64 0, .int .i64 0, .int .i64 0, .int .i64 0, .int .i64 0, .int .i64 0, .int .i64 0, .int .i64 0, .int .i64 0, .int .i64 0, .int .i64 0, .int .i64 0, .int .i64 0, .int .i64 0, .int .i64 0, .int .i64 0, .int .i64 0, .int .i64 0, .int .i64 0, .int .i64 0, .int .i64 0, .int .i64 0, .int .i64 0, .int .i64 0, .int .i64 0, .int .i64 0] 74)).alloc (.cells #[.int .i64 0, .int .i64 0, .int .i64 0, .int .i64 0, .int .i64 0, .int .i64 0, .int .i64 0, .int .i64 0, .int .i64 0, .int .i64 0, .int .i64 0, .int .i64 0, .int .i64 0, .int .i64 0, .int .i64 0, .int .i64 0, .int .i64 0, .int .i64 0, .int .i64 0, .int .i64 0, .int .i64 0, .int .i64 0, .int .i64 0, .int .i64 0, .int .i64 0, .int .i64 0, .int .i64 0, .int .i64 0, .int .i64 0] 74)).setRow (w.heap.size + 3) #[.int .i64 0, .int .i64 0, .int .i64 0, .int .i64 0, .int .i64 0, .int .i64 0, .int .i64 0, .int .i64 0, .int .i64 0, .int .i64 0, .int .i64 0, .int .i64 0, .int .i64 0, .int .i64 0, .int .i64 0, .int .i64 0, .int .i64 0, .int .i64 0, .int .i64 0, .int .i64 0, .int .i64 0, .int .i64 0, .int .i64 0, .int .i64 0, .int .i64 0, .int .i64 0, .int .i64 0, .int .i64 ((fa 27 : Nat)), .int .i64 ((fa 28 : Nat))]) [(w.heap.size, V1), (w.heap.size + 1, V2)] (w.heap.size + 2) (w.heap.size + 3) (sqN fa fb (27 * 0))) := by
    refine ⟨fun p hp => ?_, ⟨_, rfl, (kr.alloc _).row_ne (by omega) _⟩, ?_, by omega, by omega, (((((Below.refl w.heap.size w).alloc (by first | exact Nat.le_refl _ | (simp; done) | (simp; omega)) (.cells V1 74)).alloc (by first | exact Nat.le_refl _ | (simp; done) | (simp; omega)) (.cells V2 74)).alloc (by first | exact Nat.le_refl _ | (simp; done) | (simp; omega)) (.cells #[.int .i64 0, .int .i64 0, .int .i64 0, .int .i64 0, .int .i64 0, .int .i64 0, .int .i64 0, .int .i64 0, .int .i64 0, .int .i64 0, .int .i64 0, .int .i64 0, .int .i64 0, .int .i64 0, .int .i64 0, .int .i64 0, .int .i64 0, .int .i64 0, .int .i64 0, .int .i64 0, .int .i64 0, .int .i64 0, .int .i64 0, .int .i64 0, .int .i64 0, .int .i64 0, .int .i64 0, .int .i64 0, .int .i64 0] 74)).alloc (by first | exact Nat.le_refl _ | (simp; done) | (simp; omega)) (.cells #[.int .i64 0, .int .i64 0, .int .i64 0, .int .i64 0, .int .i64 0, .int .i64 0, .int .i64 0, .int .i64 0, .int .i64 0, .int .i64 0, .int .i64 0, .int .i64 0, .int .i64 0, .int .i64 0, .int .i64 0, .int .i64 0, .int .i64 0, .int .i64 0, .int .i64 0, .int .i64 0, .int .i64 0, .int .i64 0, .int .i64 0, .int .i64 0, .int .i64 0, .int .i64 0, .int .i64 0, .int .i64 0, .int .i64 0] 74)).trans (below_row (by omega) _)⟩
    · simp only [List.mem_cons, List.not_mem_nil, or_false] at hp
      rcases hp with rfl | rfl
      · exact ⟨(kb0.alloc _).row_ne (by show _ ≠ _; omega) _, by show _ ≠ _; omega⟩
      · exact ⟨(kb1.alloc _).row_ne (by show _ ≠ _; omega) _, by show _ ≠ _; omega⟩
    · rw [← (show _ = av 29 (sqN fa fb (27 * 0)) from lt_av (fa 27) (fa 28))]; exact kz.row _
  clear kz kr kb0 kb1
  go_enter Tryz.func74, Tryz.ntmps74
  clear hV1 hV2
  go_wp2_with (refine wpList_store_row rfl 74 (.tmp 5) (.tmp 12) rfl (w.heap.size + 3) #[.int .i64 0, .int .i64 0, .int .i64 0, .int .i64 0, .int .i64 0, .int .i64 0, .int .i64 0, .int .i64 0, .int .i64 0, .int .i64 0, .int .i64 0, .int .i64 0, .int .i64 0, .int .i64 0, .int .i64 0, .int .i64 0, .int .i64 0, .int .i64 0, .int .i64 0, .int .i64 0, .int .i64 0, .int .i64 0, .int .i64 0, .int .i64 0, .int .i64 0, .int .i64 0, .int .i64 0, .int .i64 ((fa 27 : Nat)), .int .i64 ((fa 28 : Nat))] rfl rfl 74 #[.int .i64 0, .int .i64 0, .int .i64 0, .int .i64 0, .int .i64 0, .int .i64 0, .int .i64 0, .int .i64 0, .int .i64 0, .int .i64 0, .int .i64 0, .int .i64 0, .int .i64 0, .int .i64 0, .int .i64 0, .int .i64 0, .int .i64 0, .int .i64 0, .int .i64 0, .int .i64 0, .int .i64 0, .int .i64 0, .int .i64 0, .int .i64 0, .int .i64 0, .int .i64 0, .int .i64 0, .int .i64 0, .int .i64 0] KZ.out all_size rfl (lt_one _ _) ?_)
  clear KZ
  clear hv1 hv2
  go_loopg [6] 27 (fun gk sv wr => ∃ a : Nat, a + gk = 27 ∧ sv = .int .i64 a ∧ Hid (S4 w wr [(w.heap.size, V1), (w.heap.size + 1, V2)] (w.heap.size + 2) (w.heap.size + 3) (sqN fa fb (27 * a))))
  case atStart => exact ⟨0, rfl, rfl, H0⟩
  case round =>
    clear H0
    obtain ⟨a, ha, rfl, HH⟩ := hrel
    obtain ⟨go, hgo⟩ : ∃ n, n = gk := ⟨_, rfl⟩
    rw [← hgo] at ha
    by_cases hla : a < 27
    · have hda : decide ((a : Int) < 27) = true := by simp; omega
      go_wp2_with fail
      try rw [hda]
      clear hda
      go_loopg [7] 27 (fun gk sv wr => ∃ b : Nat, b + gk = 27 ∧ sv = .int .i64 b ∧ Hid (S4 w wr [(w.heap.size, V1), (w.heap.size + 1, V2)] (w.heap.size + 2) (w.heap.size + 3) (sqN fa fb (27 * a + b))))
      case atStart => exact ⟨0, rfl, rfl, HH⟩
      case round =>
        clear HH
        obtain ⟨b, hb, rfl, HH⟩ := hrel
        have H := HH.out
        clear HH
        by_cases hlb : b < 27
        · skip
          have hM := SM.out (27 * a + b) (by omega)
          have hnx := sqN_next fa fb (a := a) hlb
          obtain ⟨g, hg⟩ : ∃ g, sqN fa fb (27 * a + b) = g := ⟨_, rfl⟩
          rw [hg] at hM hnx H
          have ca := H.box (b := w.heap.size) (g := fa) (by rw [HV1.out]; simp) (i := a) (by omega)
          have I1 := Lib.hid (fun w => inN_any (fa a) b (FA.out a (by omega)) hlb w)
          have I2 := Lib.hid (fun w => inN_any (fb 27) b (FB.out 27 (by omega)) hlb w)
          have I3 := Lib.hid (fun w => inN_any (fb 28) b (FB.out 28 (by omega)) hlb w)
          have hxa : (a : Int) < 27 := by omega
          have hxb : (b : Int) < 27 := by omega
          clear hg
          unfold sqS at hnx
          cases hb1 : bitN (fa a) b
          · as_aux_lemma =>
              rw [hb1] at I1 hnx
              simp only [Bool.false_eq_true, if_false] at hnx
              have NX := Lib.hid hnx
              clear hb1 hnx hM I2 I3
              go_wp2_with fail
              refine (I1.out _).mono ?_
              rintro e w1 ⟨rfl, rfl⟩
              have HH := Lib.hid (H.less (g := sqN fa fb (27 * a + (b + 1))) (fun i _ => by rw [NX.out]))
              clear H NX
              go_wp2_with fail
              go_roundg (gk - 1)
              case measure => omega
              case rel =>
                refine ⟨b + 1, by omega, by go_num, ?_⟩
                with_reducible exact HH
          · rw [hb1] at I1 hnx
            simp only [if_true] at hnx
            have hM1 := sq1_small FB.out hM hla hlb
            obtain ⟨hc, hf, hc', hf'⟩ := H.get (i := a) (by omega)
            have cb := H.box (b := w.heap.size + 1) (g := fb) (by rw [HV2.out]; simp) (i := b) (by omega)
            have cc := H.box (b := w.heap.size + 1) (g := fb) (by rw [HV2.out]; simp) (i := 27) (by omega)
            have cd := H.box (b := w.heap.size + 1) (g := fb) (by rw [HV2.out]; simp) (i := 28) (by omega)
            obtain ⟨jc, jf, _, _⟩ := H.get (i := 27) (by omega)
            obtain ⟨kc, kf, _, _⟩ := H.get (i := 28) (by omega)
            have H1 := H.putI a (or_int (g a) (fb b) (hM a (by omega)) (FB.out b (by omega)))
            rw [show Proofs.YtndlhdmpfnadcaaGreatDoor.upd g a (g a ||| fb b) = sq1 fb g a b from rfl] at H1
            have e27 : sq1 fb g a b 27 = g 27 := upd_ne (by omega)
            have e28 : sq1 fb g a b 28 = g 28 := upd_ne (by omega)
            generalize sq1 fb g a b = g1 at *
            have hM27 := hM 27 (by omega)
            have hM28 := hM 28 (by omega)
            clear hb1 hM H
            unfold sq2 at hnx
            cases hb2 : bitN (fb 27) b
            · rw [hb2] at I2 hnx
              simp only [Bool.false_eq_true, if_false] at hnx
              have H2 := H1
              have hM2 := hM1
              obtain ⟨g2, hg2⟩ : ∃ g2, g1 = g2 := ⟨_, rfl⟩
              rw [hg2] at H2 hM2 hnx e28
              clear hb2 hg2
              unfold sq3 at hnx
              cases hb3 : bitN (fb 28) b
              · as_aux_lemma =>
                    rw [hb3] at I3 hnx
                    simp only [Bool.false_eq_true, if_false] at hnx
                    have H3 := H2
                    have NX := Lib.hid hnx
                    have H4 := Lib.hid H3.drew
                    clear hb3 hnx hM1 hM2 H1 H2 H3 e27 e28 hM27 hM28
                    go_wp2_with fail
                    refine (I1.out _).mono ?_
                    rintro e w1 ⟨rfl, rfl⟩
                    go_wp2_with fail
                    go_still_tail 12, (by kernel_rfl)
                    all_goals go_wp2_with fail
                    refine (I2.out _).mono ?_
                    rintro e w2 ⟨rfl, rfl⟩
                    go_wp2_with fail
                    refine (I3.out _).mono ?_
                    rintro e w3 ⟨rfl, rfl⟩
                    have H5 := H4.out
                    clear H4
                    have HH := Lib.hid (H5.less (g := sqN fa fb (27 * a + (b + 1))) (fun i _ => by rw [NX.out]))
                    clear H5 NX
                    go_wp2_with fail
                    go_roundg (gk - 1)
                    case measure => omega
                    case rel =>
                      refine ⟨b + 1, by omega, by go_num, ?_⟩
                      with_reducible exact HH
              · as_aux_lemma =>
                    rw [hb3] at I3 hnx
                    simp only [if_true] at hnx
                    rw [e28] at hnx
                    have H3 := H2.putI 28 (or_pow (g 28) a hM28 hla)
                    have NX := Lib.hid hnx
                    have H4 := Lib.hid H3.drew
                    clear hb3 hnx hM1 hM2 H1 H2 H3 e27 e28 hM27 hM28
                    go_wp2_with fail
                    refine (I1.out _).mono ?_
                    rintro e w1 ⟨rfl, rfl⟩
                    go_wp2_with fail
                    go_still_tail 12, (by kernel_rfl)
                    all_goals go_wp2_with fail
                    refine (I2.out _).mono ?_
                    rintro e w2 ⟨rfl, rfl⟩
                    go_wp2_with fail
                    refine (I3.out _).mono ?_
                    rintro e w3 ⟨rfl, rfl⟩
                    have H5 := H4.out
                    clear H4
                    have HH := Lib.hid (H5.less (g := sqN fa fb (27 * a + (b + 1))) (fun i _ => by rw [NX.out]))
                    clear H5 NX
                    go_wp2_with fail
                    go_roundg (gk - 1)
                    case measure => omega
                    case rel =>
                      refine ⟨b + 1, by omega, by go_num, ?_⟩
                      with_reducible exact HH
            · rw [hb2] at I2 hnx
              simp only [if_true] at hnx
              have H2 := H1.putI 27 (or_pow (g 27) a hM27 hla)
              have hM2 := hM1.upd 27 (or_lt hM27 (p27 hla))
              rw [e27] at hnx
              have e28b : Proofs.YtndlhdmpfnadcaaGreatDoor.upd g1 27 (g 27 ||| 2 ^ a) 28 = g 28 := (upd_ne (by decide)).trans e28
              obtain ⟨g2, hg2⟩ : ∃ g2, Proofs.YtndlhdmpfnadcaaGreatDoor.upd g1 27 (g 27 ||| 2 ^ a) = g2 := ⟨_, rfl⟩
              rw [hg2] at H2 hM2 hnx e28b
              replace e28 := e28b
              clear e28b
              clear hb2 hg2
              unfold sq3 at hnx
              cases hb3 : bitN (fb 28) b
              · as_aux_lemma =>
                    rw [hb3] at I3 hnx
                    simp only [Bool.false_eq_true, if_false] at hnx
                    have H3 := H2
                    have NX := Lib.hid hnx
                    have H4 := Lib.hid H3.drew
                    clear hb3 hnx hM1 hM2 H1 H2 H3 e27 e28 hM27 hM28
                    go_wp2_with fail
                    refine (I1.out _).mono ?_
                    rintro e w1 ⟨rfl, rfl⟩
                    go_wp2_with fail
                    go_still_tail 12, (by kernel_rfl)
                    all_goals go_wp2_with fail
                    refine (I2.out _).mono ?_
                    rintro e w2 ⟨rfl, rfl⟩
                    go_wp2_with fail
                    refine (I3.out _).mono ?_
                    rintro e w3 ⟨rfl, rfl⟩
                    have H5 := H4.out
                    clear H4
                    have HH := Lib.hid (H5.less (g := sqN fa fb (27 * a + (b + 1))) (fun i _ => by rw [NX.out]))
                    clear H5 NX
                    go_wp2_with fail
                    go_roundg (gk - 1)
                    case measure => omega
                    case rel =>
                      refine ⟨b + 1, by omega, by go_num, ?_⟩
                      with_reducible exact HH
              · as_aux_lemma =>
                    rw [hb3] at I3 hnx
                    simp only [if_true] at hnx
                    rw [e28] at hnx
                    have H3 := H2.putI 28 (or_pow (g 28) a hM28 hla)
                    have NX := Lib.hid hnx
                    have H4 := Lib.hid H3.drew
                    clear hb3 hnx hM1 hM2 H1 H2 H3 e27 e28 hM27 hM28
                    go_wp2_with fail
                    refine (I1.out _).mono ?_
                    rintro e w1 ⟨rfl, rfl⟩
                    go_wp2_with fail
                    go_still_tail 12, (by kernel_rfl)
                    all_goals go_wp2_with fail
                    refine (I2.out _).mono ?_
                    rintro e w2 ⟨rfl, rfl⟩
                    go_wp2_with fail
                    refine (I3.out _).mono ?_
                    rintro e w3 ⟨rfl, rfl⟩
                    have H5 := H4.out
                    clear H4
                    have HH := Lib.hid (H5.less (g := sqN fa fb (27 * a + (b + 1))) (fun i _ => by rw [NX.out]))
                    clear H5 NX
                    go_wp2_with fail
                    go_roundg (gk - 1)
                    case measure => omega
                    case rel =>
                      refine ⟨b + 1, by omega, by go_num, ?_⟩
                      with_reducible exact HH
        · obtain rfl : b = 27 := by omega
          have HH := Lib.hid (H.less (g := sqN fa fb (27 * (a + 1))) (fun i _ => by rw [show 27 * (a + 1) = 27 * a + 27 by omega]))
          clear H
          go_wp2_with fail
          go_roundg (go - 1)
          case measure => omega
          case rel => exact ⟨a + 1, by omega, by go_num, HH⟩
    · obtain rfl : a = 27 := by omega
      have H := HH.out
      clear hla hgo HH SM FA FB
      have k3 := H.loc
      rw [HVE.out] at k3
      have hz : VE.size = 29 := by rw [← HVE.out]; exact av_size _ _
      have h1 : VE.all (·.oneCell') = true := by rw [← HVE.out]; exact av_one _ _
      have hi : (Tryz.prog.info? 74).map (·.size) = some VE.size := by rw [hz]; exact all_size
      obtain ⟨old, hoz, k2⟩ := H.res
      have kE := setRow_heap wr (w.heap.size + 2) _ VE 74 (0, 0) k2
      have BE : Hid (Below w.heap.size w (wr.setRow (w.heap.size + 2) VE)) := H.below.trans (below_row (by first | omega | exact Nat.le_refl _) VE)
      have X := Lib.hid (And.intro k3 (And.intro k2 (And.intro hi (And.intro (hoz.trans hz.symm) (And.intro h1 kE)))))
      clear k3 k2 hoz kE hz h1 hi H HVE
      go_wp2_with (first | (refine wpList_load_row rfl 74 (.tmp 5) rfl (w.heap.size + 3) rfl 74 VE (0, 0) _ X.out.1 Tryz.underlying74 rfl X.out.2.2.1 ?_) | (refine wpList_store_row rfl 74 (.tmp 4) (.tmp 62) rfl (w.heap.size + 2) VE rfl rfl 74 old X.out.2.1 X.out.2.2.1 X.out.2.2.2.1 X.out.2.2.2.2.1 ?_))
      exact bodyPost_ret (v := .agg VE) (results_cell_row rfl _ _ (w.heap.size + 2) 74 VE (0, 0) _ rfl X.out.2.2.2.2.2 Tryz.underlying74 rfl X.out.2.2.1) rfl ⟨rfl, BE.out⟩

end Go.Proofs.YtndlhdmpfnadcaaGreatDoor

/- What one of two programs can do. -/
namespace Go.Proofs.YtndlhdmpfnadcaaGreatDoor
open Go.RowKit
open Pl

def ch1 (m : Nat) (fa g : Nat → Nat) (i : Nat) : Nat → Nat := if bitN m i then upd g i (g i ||| fa i) else g
def chN (m n L B : Nat) (fa fb : Nat → Nat) : Nat → Nat → Nat
  | 0 => ltF L B
  | i + 1 => ch1 n fb (ch1 m fa (chN m n L B fa fb i) i) i
theorem ch1_small {m : Nat} {fa g : Nat → Nat} {i : Nat} (ha : M29 fa) (hg : M29 g) (hi : i < 27) : M29 (ch1 m fa g i) := by
  unfold ch1
  split
  · exact hg.upd i (or_lt (hg i (by omega)) (ha i (by omega)))
  · exact hg
theorem chN_small {m n L B : Nat} {fa fb : Nat → Nat} (ha : M29 fa) (hb : M29 fb) (hL : L < 134217728) (hB : B < 134217728) (i : Nat) : i ≤ 27 → M29 (chN m n L B fa fb i) := by
  induction i with
  | zero => intro _; exact ltF_small hL hB
  | succ i ih => intro h; exact ch1_small hb (ch1_small ha (ih (by omega)) (by omega)) (by omega)
def chL (m n x y : Nat) : Nat := (x &&& m) ||| (y &&& n)
theorem chL_lt {m n x y : Nat} (hx : x < 134217728) (hy : y < 134217728) : chL m n x y < 134217728 := or_lt (and_lt _ hx) (and_lt _ hy)
theorem chL_int {m n x y : Nat} (hm : m < 134217728) (hn : n < 134217728) (hx : x < 134217728) (hy : y < 134217728) : bits BinOp.or IntKind.i64 (bits BinOp.and IntKind.i64 (x : Int) (m : Int)) (bits BinOp.and IntKind.i64 (y : Int) (n : Int)) = ((chL m n x y : Nat) : Int) := by
  rw [and_int x m hx hm, and_int y n hy hn]
  exact or_int _ _ (and_lt _ hx) (and_lt _ hy)
set_option maxRecDepth 100000 in
set_option maxHeartbeats 16000000 in
theorem l4Choose_any (fa fb : Nat → Nat) (ha : M29 fa) (hb : M29 fb) (m n : Nat) (hm : m < 134217728) (hn : n < 134217728) (w : World) : Calls Tryz.prog 75 #[.agg (av 29 fa), .agg (av 29 fb), .int .i64 (m : Int), .int .i64 (n : Int)] w fun e w' => (e = .returned (.agg (av 29 (chN m n (chL m n (fa 27) (fb 27)) (chL m n (fa 28) (fb 28)) fa fb 27))) ∧ Below w.heap.size w w') := by
  have SM := Lib.hid (fun i (hi : i ≤ 27) => chN_small (m := m) (n := n) ha hb (chL_lt (m := m) (n := n) (ha 27 (by omega)) (hb 27 (by omega))) (chL_lt (m := m) (n := n) (ha 28 (by omega)) (hb 28 (by omega))) i hi)
  have FA := Lib.hid ha
  have FB := Lib.hid hb
  have r1 := chL_int hm hn (ha 27 (by omega)) (hb 27 (by omega))
  have r2 := chL_int hm hn (ha 28 (by omega)) (hb 28 (by omega))
  have hlt : #[.int .i64 0, .int .i64 0, .int .i64 0, .int .i64 0, .int .i64 0, .int .i64 0, .int .i64 0, .int .i64 0, .int .i64 0, .int .i64 0, .int .i64 0, .int .i64 0, .int .i64 0, .int .i64 0, .int .i64 0, .int .i64 0, .int .i64 0, .int .i64 0, .int .i64 0, .int .i64 0, .int .i64 0, .int .i64 0, .int .i64 0, .int .i64 0, .int .i64 0, .int .i64 0, .int .i64 0, .int .i64 (bits BinOp.or IntKind.i64 (bits BinOp.and IntKind.i64 ((fa 27 : Nat) : Int) (m : Nat)) (bits BinOp.and IntKind.i64 ((fb 27 : Nat) : Int) (n : Nat))), .int .i64 (bits BinOp.or IntKind.i64 (bits BinOp.and IntKind.i64 ((fa 28 : Nat) : Int) (m : Nat)) (bits BinOp.and IntKind.i64 ((fb 28 : Nat) : Int) (n : Nat)))] = av 29 (chN m n (chL m n (fa 27) (fb 27)) (chL m n (fa 28) (fb 28)) fa fb 0) := by rw [r1, r2]; exact lt_av _ _
  have LO : Hid ((#[.int .i64 0, .int .i64 0, .int .i64 0, .int .i64 0, .int .i64 0, .int .i64 0, .int .i64 0, .int .i64 0, .int .i64 0, .int .i64 0, .int .i64 0, .int .i64 0, .int .i64 0, .int .i64 0, .int .i64 0, .int .i64 0, .int .i64 0, .int .i64 0, .int .i64 0, .int .i64 0, .int .i64 0, .int .i64 0, .int .i64 0, .int .i64 0, .int .i64 0, .int .i64 0, .int .i64 0, .int .i64 (bits BinOp.or IntKind.i64 (bits BinOp.and IntKind.i64 ((fa 27 : Nat) : Int) (m : Nat)) (bits BinOp.and IntKind.i64 ((fb 27 : Nat) : Int) (n : Nat))), .int .i64 (bits BinOp.or IntKind.i64 (bits BinOp.and IntKind.i64 ((fa 28 : Nat) : Int) (m : Nat)) (bits BinOp.and IntKind.i64 ((fb 28 : Nat) : Int) (n : Nat)))] : Array Value).all (·.oneCell') = true) := by show _ = true; rw [r1, r2]; exact lt_one _ _
  have IN1 := Lib.hid (fun i (hi : i < 27) w => inN_any m i hm hi w)
  have IN2 := Lib.hid (fun i (hi : i < 27) w => inN_any n i hn hi w)
  obtain ⟨V1, hV1⟩ : ∃ V, av 29 fa = V := ⟨_, rfl⟩
  obtain ⟨V2, hV2⟩ : ∃ V, av 29 fb = V := ⟨_, rfl⟩
  rw [hV1, hV2]
  have HV1 := Lib.hid hV1
  have HV2 := Lib.hid hV2
  clear ha hb r1 r2
  obtain ⟨VE, hVE⟩ : ∃ V, av 29 (chN m n (chL m n (fa 27) (fb 27)) (chL m n (fa 28) (fb 28)) fa fb 27) = V := ⟨_, rfl⟩
  rw [hVE]
  have HVE := Lib.hid hVE
  clear hVE
  have kb0 : Blk (((w.alloc (.cells V1 74)).alloc (.cells V2 74)).alloc (.cells #[.int .i64 0, .int .i64 0, .int .i64 0, .int .i64 0, .int .i64 0, .int .i64 0, .int .i64 0, .int .i64 0, .int .i64 0, .int .i64 0, .int .i64 0, .int .i64 0, .int .i64 0, .int .i64 0, .int .i64 0, .int .i64 0, .int .i64 0, .int .i64 0, .int .i64 0, .int .i64 0, .int .i64 0, .int .i64 0, .int .i64 0, .int .i64 0, .int .i64 0, .int .i64 0, .int .i64 0, .int .i64 0, .int .i64 0] 74)) (w.heap.size) 74 V1 := by
    have h0 := Blk.new w 74 V1
    have hz : w.heap.size = w.heap.size := by simp
    rw [hz] at h0
    exact ((h0.alloc _).alloc _)
  have kb1 : Blk (((w.alloc (.cells V1 74)).alloc (.cells V2 74)).alloc (.cells #[.int .i64 0, .int .i64 0, .int .i64 0, .int .i64 0, .int .i64 0, .int .i64 0, .int .i64 0, .int .i64 0, .int .i64 0, .int .i64 0, .int .i64 0, .int .i64 0, .int .i64 0, .int .i64 0, .int .i64 0, .int .i64 0, .int .i64 0, .int .i64 0, .int .i64 0, .int .i64 0, .int .i64 0, .int .i64 0, .int .i64 0, .int .i64 0, .int .i64 0, .int .i64 0, .int .i64 0, .int .i64 0, .int .i64 0] 74)) (w.heap.size + 1) 74 V2 := by
    have h0 := Blk.new (w.alloc (.cells V1 74)) 74 V2
    have hz : (w.alloc (.cells V1 74)).heap.size = w.heap.size + 1 := by simp
    rw [hz] at h0
    exact (h0.alloc _)
  have kr : Blk (((w.alloc (.cells V1 74)).alloc (.cells V2 74)).alloc (.cells #[.int .i64 0, .int .i64 0, .int .i64 0, .int .i64 0, .int .i64 0, .int .i64 0, .int .i64 0, .int .i64 0, .int .i64 0, .int .i64 0, .int .i64 0, .int .i64 0, .int .i64 0, .int .i64 0, .int .i64 0, .int .i64 0, .int .i64 0, .int .i64 0, .int .i64 0, .int .i64 0, .int .i64 0, .int .i64 0, .int .i64 0, .int .i64 0, .int .i64 0, .int .i64 0, .int .i64 0, .int .i64 0, .int .i64 0] 74)) (w.heap.size + 2) 74 #[.int .i64 0, .int .i64 0, .int .i64 0, .int .i64 0, .int .i64 0, .int .i64 0, .int .i64 0, .int .i64 0, .int .i64 0, .int .i64 0, .int .i64 0, .int .i64 0, .int .i64 0, .int .i64 0, .int .i64 0, .int .i64 0, .int .i64 0, .int .i64 0, .int .i64 0, .int .i64 0, .int .i64 0, .int .i64 0, .int .i64 0, .int .i64 0, .int .i64 0, .int .i64 0, .int .i64 0, .int .i64 0, .int .i64 0] := by
    have h0 := Blk.new ((w.alloc (.cells V1 74)).alloc (.cells V2 74)) 74 #[.int .i64 0, .int .i64 0, .int .i64 0, .int .i64 0, .int .i64 0, .int .i64 0, .int .i64 0, .int .i64 0, .int .i64 0, .int .i64 0, .int .i64 0, .int .i64 0, .int .i64 0, .int .i64 0, .int .i64 0, .int .i64 0, .int .i64 0, .int .i64 0, .int .i64 0, .int .i64 0, .int .i64 0, .int .i64 0, .int .i64 0, .int .i64 0, .int .i64 0, .int .i64 0, .int .i64 0, .int .i64 0, .int .i64 0]
    have hz : ((w.alloc (.cells V1 74)).alloc (.cells V2 74)).heap.size = w.heap.size + 2 := by simp
    rw [hz] at h0
    exact h0
  have kz : Blk ((((w.alloc (.cells V1 74)).alloc (.cells V2 74)).alloc (.cells #[.int .i64 0, .int .i64 0, .int .i64 0, .int .i64 0, .int .i64 0, .int .i64 0, .int .i64 0, .int .i64 0, .int .i64 0, .int .i64 0, .int .i64 0, .int .i64 0, .int .i64 0, .int .i64 0, .int .i64 0, .int .i64 0, .int .i64 0, .int .i64 0, .int .i64 0, .int .i64 0, .int .i64 0, .int .i64 0, .int .i64 0, .int .i64 0, .int .i64 0, .int .i64 0, .int .i64 0, .int .i64 0, .int .i64 0] 74)).alloc (.cells #[.int .i64 0, .int .i64 0, .int .i64 0, .int .i64 0, .int .i64 0, .int .i64 0, .int .i64 0, .int .i64 0, .int .i64 0, .int .i64 0, .int .i64 0, .int .i64 0, .int .i64 0, .int .i64 0, .int .i64 0, .int .i64 0, .int .i64 0, .int .i64 0, .int .i64 0, .int .i64 0, .int .i64 0, .int .i64 0, .int .i64 0, .int .i64 0, .int .i64 0, .int .i64 0, .int .i64 0, .int .i64 0, .int .i64 0] 74)) (w.heap.size + 3) 74 #[.int .i64 0, .int .i64 0, .int .i64 0, .int .i64 0, .int .i64 0, .int .i64 0, .int .i64 0, .int .i64 0, .int .i64 0, .int .i64 0, .int .i64 0, .int .i64 0, .int .i64 0, .int .i64 0, .int .i64 0, .int .i64 0, .int .i64 0, .int .i64 0, .int .i64 0, .int .i64 0, .int .i64 0, .int .i64 0, .int .i64 0, .int .i64 0, .int .i64 0, .int .i64 0, .int .i64 0, .int .i64 0, .int .i64 0] := by
    have h0 := Blk.new (((w.alloc (.cells V1 74)).alloc (.cells V2 74)).alloc (.cells #[.int .i64 0, .int .i64 0, .int .i64 0, .int .i64 0, .int .i64 0, .int .i64 0, .int .i64 0, .int .i64 0, .int .i64 0, .int .i64 0, .int .i64 0, .int .i64 0, .int .i64 0, .int .i64 0, .int .i64 0, .int .i64 0, .int .i64 0, .int .i64 0, .int .i64 0, .int .i64 0, .int .i64 0, .int .i64 0, .int .i64 0, .int .i64 0, .int .i64 0, .int .i64 0, .int .i64 0, .int .i64 0, .int .i64 0] 74)) 74 #[.int .i64 0, .int .i64 0, .int .i64 0, .int .i64 0, .int .i64 0, .int .i64 0, .int .i64 0, .int .i64 0, .int .i64 0, .int .i64 0, .int .i64 0, .int .i64 0, .int .i64 0, .int .i64 0, .int .i64 0, .int .i64 0, .int .i64 0, .int .i64 0, .int .i64 0, .int .i64 0, .int .i64 0, .int .i64 0, .int .i64 0, .int .i64 0, .int .i64 0, .int .i64 0, .int .i64 0, .int .i64 0, .int .i64 0]
    have hz : (((w.alloc (.cells V1 74)).alloc (.cells V2 74)).alloc (.cells #[.int .i64 0, .int .i64 0, .int .i64 0, .int .i64 0, .int .i64 0, .int .i64 0, .int .i64 0, .int .i64 0, .int .i64 0, .int .i64 0, .int .i64 0, .int .i64 0, .int .i64 0, .int .i64 0, .int .i64 0, .int .i64 0, .int .i64 0, .int .i64 0, .int .i64 0, .int .i64 0, .int .i64 0, .int .i64 0, .int .i64 0, .int .i64 0, .int .i64 0, .int .i64 0, .int .i64 0, .int .i64 0, .int .i64 0] 74)).heap.size = w.heap.size + 3 := by simp
    rw [hz] at h0
    exact h0
  have hv0 : (((w.alloc (.cells V1 74)).alloc (.cells V2 74)).alloc (.cells #[.int .i64 0, .int .i64 0, .int .i64 0, .int .i64 0, .int .i64 0, .int .i64 0, .int .i64 0, .int .i64 0, .int .i64 0, .int .i64 0, .int .i64 0, .int .i64 0, .int .i64 0, .int .i64 0, .int .i64 0, .int .i64 0, .int .i64 0, .int .i64 0, .int .i64 0, .int .i64 0, .int .i64 0, .int .i64 0, .int .i64 0, .int .i64 0, .int .i64 0, .int .i64 0, .int .i64 0, .int .i64 0, .int .i64 0] 74)).cell? ⟨w.heap.size, 27, none⟩ = some (.int .i64 (fa 27 : Nat)) := (kb0.cell 27).trans (by rw [← hV1]; exact av_get fa (by omega))
  have hv1 : (((w.alloc (.cells V1 74)).alloc (.cells V2 74)).alloc (.cells #[.int .i64 0, .int .i64 0, .int .i64 0, .int .i64 0, .int .i64 0, .int .i64 0, .int .i64 0, .int .i64 0, .int .i64 0, .int .i64 0, .int .i64 0, .int .i64 0, .int .i64 0, .int .i64 0, .int .i64 0, .int .i64 0, .int .i64 0, .int .i64 0, .int .i64 0, .int .i64 0, .int .i64 0, .int .i64 0, .int .i64 0, .int .i64 0, .int .i64 0, .int .i64 0, .int .i64 0, .int .i64 0, .int .i64 0] 74)).cell? ⟨w.heap.size, 28, none⟩ = some (.int .i64 (fa 28 : Nat)) := (kb0.cell 28).trans (by rw [← hV1]; exact av_get fa (by omega))
  have hv2 : (((w.alloc (.cells V1 74)).alloc (.cells V2 74)).alloc (.cells #[.int .i64 0, .int .i64 0, .int .i64 0, .int .i64 0, .int .i64 0, .int .i64 0, .int .i64 0, .int .i64 0, .int .i64 0, .int .i64 0, .int .i64 0, .int .i64 0, .int .i64 0, .int .i64 0, .int .i64 0, .int .i64 0, .int .i64 0, .int .i64 0, .int .i64 0, .int .i64 0, .int .i64 0, .int .i64 0, .int .i64 0, .int .i64 0, .int .i64 0, .int .i64 0, .int .i64 0, .int .i64 0, .int .i64 0] 74)).cell? ⟨w.heap.size + 1, 27, none⟩ = some (.int .i64 (fb 27 : Nat)) := (kb1.cell 27).trans (by rw [← hV2]; exact av_get fb (by omega))
  have hv3 : (((w.alloc (.cells V1 74)).alloc (.cells V2 74)).alloc (.cells #[.int .i64 0, .int .i64 0, .int .i64 0, .int .i64 0, .int .i64 0, .int .i64 0, .int .i64 0, .int .i64 0, .int .i64 0, .int .i64 0, .int .i64 0, .int .i64 0, .int .i64 0, .int .i64 0, .int .i64 0, .int .i64 0, .int .i64 0, .int .i64 0, .int .i64 0, .int .i64 0, .int .i64 0, .int .i64 0, .int .i64 0, .int .i64 0, .int .i64 0, .int .i64 0, .int .i64 0, .int .i64 0, .int .i64 0] 74)).cell? ⟨w.heap.size + 1, 28, none⟩ = some (.int .i64 (fb 28 : Nat)) := (kb1.cell 28).trans (by rw [← hV2]; exact av_get fb (by omega))
  have KZ := Lib.hid kz
  have H0 : Hid (S4 w (((((w.alloc (.cells V1 74)).alloc (.cells V2 74)).alloc (.cells #[.int .i64 0, .int .i64 0, .int .i64 0, .int .i64 0, .int .i64 0, .int .i64 0, .int .i64 0, .int .i64 0, .int .i64 0, .int .i64 0, .int .i64 0, .int .i64 0, .int .i64 0, .int .i64 0, .int .i64 0, .int .i64 0, .int .i64 0, .int .i64 0, .int .i64 0, .int .i64 0, .int .i64 0, .int .i64 0, .int .i64 0, .int .i64 0, .int .i64 0, .int .i64 0, .int .i64 0, .int .i64 0, .int .i64 0] 74)).alloc (.cells #[.int .i64 0, .int .i64 0, .int .i64 0, .int .i64 0, .int .i64 0, .int .i64 0, .int .i64 0, .int .i64 0, .int .i64 0, .int .i64 0, .int .i64 0, .int .i64 0, .int .i64 0, .int .i64 0, .int .i64 0, .int .i64 0, .int .i64 0, .int .i64 0, .int .i64 0, .int .i64 0, .int .i64 0, .int .i64 0, .int .i64 0, .int .i64 0, .int .i64 0, .int .i64 0, .int .i64 0, .int .i64 0, .int .i64 0] 74)).setRow (w.heap.size + 3) #[.int .i64 0, .int .i64 0, .int .i64 0, .int .i64 0, .int .i64 0, .int .i64 0, .int .i64 0, .int .i64 0, .int .i64 0, .int .i64 0, .int .i64 0, .int .i64 0, .int .i64 0, .int .i64 0, .int .i64 0, .int .i64 0, .int .i64 0, .int .i64 0, .int .i64 0, .int .i64 0, .int .i64 0, .int .i64 0, .int .i64 0, .int .i64 0, .int .i64 0, .int .i64 0, .int .i64 0, .int .i64 (bits BinOp.or IntKind.i64 (bits BinOp.and IntKind.i64 ((fa 27 : Nat) : Int) (m : Nat)) (bits BinOp.and IntKind.i64 ((fb 27 : Nat) : Int) (n : Nat))), .int .i64 (bits BinOp.or IntKind.i64 (bits BinOp.and IntKind.i64 ((fa 28 : Nat) : Int) (m : Nat)) (bits BinOp.and IntKind.i64 ((fb 28 : Nat) : Int) (n : Nat)))]) [(w.heap.size, V1), (w.heap.size + 1, V2)] (w.heap.size + 2) (w.heap.size + 3) (chN m n (chL m n (fa 27) (fb 27)) (chL m n (fa 28) (fb 28)) fa fb 0)) := by
    refine ⟨fun p hp => ?_, ⟨_, rfl, (kr.alloc _).row_ne (by omega) _⟩, ?_, by omega, by omega, (((((Below.refl w.heap.size w).alloc (by first | exact Nat.le_refl _ | (simp; done) | (simp; omega)) (.cells V1 74)).alloc (by first | exact Nat.le_refl _ | (simp; done) | (simp; omega)) (.cells V2 74)).alloc (by first | exact Nat.le_refl _ | (simp; done) | (simp; omega)) (.cells #[.int .i64 0, .int .i64 0, .int .i64 0, .int .i64 0, .int .i64 0, .int .i64 0, .int .i64 0, .int .i64 0, .int .i64 0, .int .i64 0, .int .i64 0, .int .i64 0, .int .i64 0, .int .i64 0, .int .i64 0, .int .i64 0, .int .i64 0, .int .i64 0, .int .i64 0, .int .i64 0, .int .i64 0, .int .i64 0, .int .i64 0, .int .i64 0, .int .i64 0, .int .i64 0, .int .i64 0, .int .i64 0, .int .i64 0] 74)).alloc (by first | exact Nat.le_refl _ | (simp; done) | (simp; omega)) (.cells #[.int .i64 0, .int .i64 0, .int .i64 0, .int .i64 0, .int .i64 0, .int .i64 0, .int .i64 0, .int .i64 0, .int .i64 0, .int .i64 0, .int .i64 0, .int .i64 0, .int .i64 0, .int .i64 0, .int .i64 0, .int .i64 0, .int .i64 0, .int .i64 0, .int .i64 0, .int .i64 0, .int .i64 0, .int .i64 0, .int .i64 0, .int .i64 0, .int .i64 0, .int .i64 0, .int .i64 0, .int .i64 0, .int .i64 0] 74)).trans (below_row (by omega) _)⟩
    · simp only [List.mem_cons, List.not_mem_nil, or_false] at hp
      rcases hp with rfl | rfl
      · exact ⟨(kb0.alloc _).row_ne (by show _ ≠ _; omega) _, by show _ ≠ _; omega⟩
      · exact ⟨(kb1.alloc _).row_ne (by show _ ≠ _; omega) _, by show _ ≠ _; omega⟩
    · rw [← hlt]; exact kz.row _
  clear kz kr kb0 kb1
  go_enter Tryz.func75, Tryz.ntmps75
  clear hV1 hV2 hlt
  go_wp2_with (refine wpList_store_row rfl 74 (.tmp 9) (.tmp 29) rfl (w.heap.size + 3) #[.int .i64 0, .int .i64 0, .int .i64 0, .int .i64 0, .int .i64 0, .int .i64 0, .int .i64 0, .int .i64 0, .int .i64 0, .int .i64 0, .int .i64 0, .int .i64 0, .int .i64 0, .int .i64 0, .int .i64 0, .int .i64 0, .int .i64 0, .int .i64 0, .int .i64 0, .int .i64 0, .int .i64 0, .int .i64 0, .int .i64 0, .int .i64 0, .int .i64 0, .int .i64 0, .int .i64 0, .int .i64 (bits BinOp.or IntKind.i64 (bits BinOp.and IntKind.i64 ((fa 27 : Nat) : Int) (m : Nat)) (bits BinOp.and IntKind.i64 ((fb 27 : Nat) : Int) (n : Nat))), .int .i64 (bits BinOp.or IntKind.i64 (bits BinOp.and IntKind.i64 ((fa 28 : Nat) : Int) (m : Nat)) (bits BinOp.and IntKind.i64 ((fb 28 : Nat) : Int) (n : Nat)))] rfl rfl 74 #[.int .i64 0, .int .i64 0, .int .i64 0, .int .i64 0, .int .i64 0, .int .i64 0, .int .i64 0, .int .i64 0, .int .i64 0, .int .i64 0, .int .i64 0, .int .i64 0, .int .i64 0, .int .i64 0, .int .i64 0, .int .i64 0, .int .i64 0, .int .i64 0, .int .i64 0, .int .i64 0, .int .i64 0, .int .i64 0, .int .i64 0, .int .i64 0, .int .i64 0, .int .i64 0, .int .i64 0, .int .i64 0, .int .i64 0] KZ.out all_size rfl LO.out ?_)
  clear KZ
  clear hv0 hv1 hv2 hv3 LO
  go_loopg [10] 27 (fun gk sv wr => ∃ a : Nat, a + gk = 27 ∧ sv = .int .i64 a ∧ Hid (S4 w wr [(w.heap.size, V1), (w.heap.size + 1, V2)] (w.heap.size + 2) (w.heap.size + 3) (chN m n (chL m n (fa 27) (fb 27)) (chL m n (fa 28) (fb 28)) fa fb a)))
  case atStart => exact ⟨0, rfl, rfl, H0⟩
  case round =>
    clear H0
    obtain ⟨a, ha, rfl, HH⟩ := hrel
    have H := HH.out
    clear HH
    by_cases hla : a < 27
    · have hM := SM.out a (by omega)
      have I1 := Lib.hid (fun w => IN1.out a hla w)
      have I2 := Lib.hid (fun w => IN2.out a hla w)
      have NX0 : chN m n (chL m n (fa 27) (fb 27)) (chL m n (fa 28) (fb 28)) fa fb (a + 1) = ch1 n fb (ch1 m fa (chN m n (chL m n (fa 27) (fb 27)) (chL m n (fa 28) (fb 28)) fa fb a) a) a := rfl
      obtain ⟨g, hg⟩ : ∃ g, chN m n (chL m n (fa 27) (fb 27)) (chL m n (fa 28) (fb 28)) fa fb a = g := ⟨_, rfl⟩
      rw [hg] at hM NX0 H
      have ca := H.box (b := w.heap.size) (g := fa) (by rw [HV1.out]; simp) (i := a) (by omega)
      have cb := H.box (b := w.heap.size + 1) (g := fb) (by rw [HV2.out]; simp) (i := a) (by omega)
      obtain ⟨hc, hf, hc', hf'⟩ := H.get (i := a) (by omega)
      have hxa : (a : Int) < 27 := by omega
      clear hg
      cases hb1 : bitN m a
      · cases hb2 : bitN n a
        · as_aux_lemma =>
            rw [hb1] at I1
            rw [hb2] at I2
            have hnx : ch1 n fb (ch1 m fa g a) a = g := by
              unfold ch1
              rw [hb1, hb2]
              rfl
            rw [hnx] at NX0
            go_wp2_with fail
            refine (I1.out _).mono ?_
            rintro e w1 ⟨rfl, rfl⟩
            go_wp2_with fail
            have hm1 := hM a (by omega)
            refine (I2.out _).mono ?_
            rintro e w2 ⟨rfl, rfl⟩
            go_wp2_with fail
            have H4 := Lib.hid (H.less (g := chN m n (chL m n (fa 27) (fb 27)) (chL m n (fa 28) (fb 28)) fa fb (a + 1)) (fun i _ => by rw [NX0]))
            clear H
            go_roundg (gk - 1)
            case measure => omega
            case rel =>
              refine ⟨a + 1, by omega, by go_num, ?_⟩
              with_reducible exact H4
        · as_aux_lemma =>
            rw [hb1] at I1
            rw [hb2] at I2
            have hnx : ch1 n fb (ch1 m fa g a) a = Proofs.YtndlhdmpfnadcaaGreatDoor.upd g a (g a ||| fb a) := by
              unfold ch1
              rw [hb1, hb2]
              rfl
            rw [hnx] at NX0
            go_wp2_with fail
            refine (I1.out _).mono ?_
            rintro e w1 ⟨rfl, rfl⟩
            go_wp2_with fail
            have hm1 := hM a (by omega)
            refine (I2.out _).mono ?_
            rintro e w2 ⟨rfl, rfl⟩
            go_wp2_with fail
            have H2 := (H.putI a (or_int (g a) (fb a) hm1 (FB.out a (by omega)))).drew
            go_still_tail 12, (by kernel_rfl)
            all_goals go_wp2_with fail
            clear H
            have H := H2
            clear H2
            have H4 := Lib.hid (H.less (g := chN m n (chL m n (fa 27) (fb 27)) (chL m n (fa 28) (fb 28)) fa fb (a + 1)) (fun i _ => by rw [NX0]))
            clear H
            go_roundg (gk - 1)
            case measure => omega
            case rel =>
              refine ⟨a + 1, by omega, by go_num, ?_⟩
              with_reducible exact H4
      · cases hb2 : bitN n a
        · as_aux_lemma =>
            rw [hb1] at I1
            rw [hb2] at I2
            have hnx : ch1 n fb (ch1 m fa g a) a = (Proofs.YtndlhdmpfnadcaaGreatDoor.upd g a (g a ||| fa a)) := by
              unfold ch1
              rw [hb1, hb2]
              rfl
            rw [hnx] at NX0
            go_wp2_with fail
            refine (I1.out _).mono ?_
            rintro e w1 ⟨rfl, rfl⟩
            go_wp2_with fail
            have H1 := (H.putI a (or_int (g a) (fa a) (hM a (by omega)) (FA.out a (by omega)))).drew
            have hm1 := or_lt (hM a (by omega)) (FA.out a (by omega))
            clear H
            go_still_tail 12, (by kernel_rfl)
            all_goals go_wp2_with fail
            clear hc hf hc' hf' ca cb
            generalize (wr.setCell ⟨w.heap.size + 3, a, none⟩ (.int .i64 (bits BinOp.or IntKind.i64 ((g a : Nat) : Int) ((fa a : Nat) : Int)))).drew = W1 at *
            have H := H1
            clear H1
            have cb := H.box (b := w.heap.size + 1) (g := fb) (by rw [HV2.out]; simp) (i := a) (by omega)
            obtain ⟨hc, hf, hc', hf'⟩ := H.get (i := a) (by omega)
            rw [upd_at] at hc hc'
            refine (I2.out _).mono ?_
            rintro e w2 ⟨rfl, rfl⟩
            go_wp2_with fail
            have H4 := Lib.hid (H.less (g := chN m n (chL m n (fa 27) (fb 27)) (chL m n (fa 28) (fb 28)) fa fb (a + 1)) (fun i _ => by rw [NX0]))
            clear H
            go_roundg (gk - 1)
            case measure => omega
            case rel =>
              refine ⟨a + 1, by omega, by go_num, ?_⟩
              with_reducible exact H4
        · as_aux_lemma =>
            rw [hb1] at I1
            rw [hb2] at I2
            have hnx : ch1 n fb (ch1 m fa g a) a = Proofs.YtndlhdmpfnadcaaGreatDoor.upd (Proofs.YtndlhdmpfnadcaaGreatDoor.upd g a (g a ||| fa a)) a ((g a ||| fa a) ||| fb a) := by
              unfold ch1
              rw [hb1, hb2]
              simp [upd_at]
            rw [hnx] at NX0
            go_wp2_with fail
            refine (I1.out _).mono ?_
            rintro e w1 ⟨rfl, rfl⟩
            go_wp2_with fail
            have H1 := (H.putI a (or_int (g a) (fa a) (hM a (by omega)) (FA.out a (by omega)))).drew
            have hm1 := or_lt (hM a (by omega)) (FA.out a (by omega))
            clear H
            go_still_tail 12, (by kernel_rfl)
            all_goals go_wp2_with fail
            clear hc hf hc' hf' ca cb
            generalize (wr.setCell ⟨w.heap.size + 3, a, none⟩ (.int .i64 (bits BinOp.or IntKind.i64 ((g a : Nat) : Int) ((fa a : Nat) : Int)))).drew = W1 at *
            have H := H1
            clear H1
            have cb := H.box (b := w.heap.size + 1) (g := fb) (by rw [HV2.out]; simp) (i := a) (by omega)
            obtain ⟨hc, hf, hc', hf'⟩ := H.get (i := a) (by omega)
            rw [upd_at] at hc hc'
            refine (I2.out _).mono ?_
            rintro e w2 ⟨rfl, rfl⟩
            go_wp2_with fail
            have H2 := (H.putI a (or_int (g a ||| fa a) (fb a) hm1 (FB.out a (by omega)))).drew
            go_still_tail 12, (by kernel_rfl)
            all_goals go_wp2_with fail
            clear H
            have H := H2
            clear H2
            have H4 := Lib.hid (H.less (g := chN m n (chL m n (fa 27) (fb 27)) (chL m n (fa 28) (fb 28)) fa fb (a + 1)) (fun i _ => by rw [NX0]))
            clear H
            go_roundg (gk - 1)
            case measure => omega
            case rel =>
              refine ⟨a + 1, by omega, by go_num, ?_⟩
              with_reducible exact H4
    · obtain rfl : a = 27 := by omega
      clear hla SM FA FB IN1 IN2
      have k3 := H.loc
      rw [HVE.out] at k3
      have hz : VE.size = 29 := by rw [← HVE.out]; exact av_size _ _
      have h1 : VE.all (·.oneCell') = true := by rw [← HVE.out]; exact av_one _ _
      have hi : (Tryz.prog.info? 74).map (·.size) = some VE.size := by rw [hz]; exact all_size
      obtain ⟨old, hoz, k2⟩ := H.res
      have kE := setRow_heap wr (w.heap.size + 2) _ VE 74 (0, 0) k2
      have BE : Hid (Below w.heap.size w (wr.setRow (w.heap.size + 2) VE)) := H.below.trans (below_row (by first | omega | exact Nat.le_refl _) VE)
      have X := Lib.hid (And.intro k3 (And.intro k2 (And.intro hi (And.intro (hoz.trans hz.symm) (And.intro h1 kE)))))
      clear k3 k2 hoz kE hz h1 hi H HVE
      go_wp2_with (first | (refine wpList_load_row rfl 74 (.tmp 9) rfl (w.heap.size + 3) rfl 74 VE (0, 0) _ X.out.1 Tryz.underlying74 rfl X.out.2.2.1 ?_) | (refine wpList_store_row rfl 74 (.tmp 8) (.tmp 64) rfl (w.heap.size + 2) VE rfl rfl 74 old X.out.2.1 X.out.2.2.1 X.out.2.2.2.1 X.out.2.2.2.2.1 ?_))
      exact bodyPost_ret (v := .agg VE) (results_cell_row rfl _ _ (w.heap.size + 2) 74 VE (0, 0) _ rfl X.out.2.2.2.2.2 Tryz.underlying74 rfl X.out.2.2.1) rfl ⟨rfl, BE.out⟩

end Go.Proofs.YtndlhdmpfnadcaaGreatDoor
