/- A drawn letter; the drawn arguments of EvalExpr, EvalTest, EvalWide, SetVar, FoldExpr. -/
import Derived.Test.YtcdcgllodggebaaDrf
import Derived.Test.YtcdcgllodggebaaCh
import Derived.Deep.RegionHeld3
namespace Go.Proofs.Ytcdcgllodggebaa
open Go.RowKit
open Pl

/-- a row of bytes in a later world -/
theorem Bytes.later {w W : World} {A : Option Addr} {n g : Nat} (h : Bytes w A n g) (hb : Below w.heap.size w W) : Bytes W A n W.heap.size := by
  rcases h with h | ⟨b, off, hA, _, hlt, hc⟩
  · exact .inl h
  · have := hb.size
    refine .inr ⟨b, off, hA, by omega, by omega, fun i hi => ?_⟩
    obtain ⟨v, hv, hcell⟩ := hc i hi
    exact ⟨v, hv, (hb.cell (p := ⟨b, off + i, none⟩) hlt).trans hcell⟩
theorem open_ex (A : Option Addr) (n cap : Nat) (w : World) (hn : n ≤ 4000000000000) (hc : n ≤ cap) (h : Bytes w A n w.heap.size) :
    Calls Try.prog 51 #[.slice A n cap] w fun e w' => ∃ g, w.heap.size ≤ g ∧ e = .returned (.pointer (some ⟨g, 0, none⟩)) ∧ Rnd w' g 0 ∧ Below w.heap.size w w' :=
  (open_any A n cap w hn hc h).mono fun _ _ ⟨h1, h2, h3⟩ => ⟨w.heap.size, Nat.le_refl _, h1, h2, h3⟩
theorem below_src {w w' : World} {g : Nat} (h : w.grownBy w' (some g)) (hg : w.heap.size ≤ g) : Below w.heap.size w w' :=
  below_of_grown h w.heap.size (Nat.le_refl _) (fun x e => by injection e with e; omega)

/-- three writes into another block -/
theorem far3 {W : World} {b r i : Nat} {x y z : Value} (h : b ≠ r) : (((W.setCell ⟨r, 0, none⟩ x).setCell ⟨r, 1, none⟩ y).setCell ⟨r, 2, none⟩ z).cell? ⟨b, i, none⟩ = W.cell? ⟨b, i, none⟩ := by
  refine World.cell?_of_block (a := ⟨b, i, none⟩) ?_
  rw [Below.heap_setCell _ _ _ _ (by exact h), Below.heap_setCell _ _ _ _ (by exact h), Below.heap_setCell _ _ _ _ (by exact h)]
theorem Blk.far3 {w : World} {g r : Nat} {t : TypeId} {cs : Array Value} (h : Blk w g t cs) (hne : g ≠ r) (x y z : Value) : Blk (((w.setCell ⟨r, 0, none⟩ x).setCell ⟨r, 1, none⟩ y).setCell ⟨r, 2, none⟩ z) g t cs :=
  ((h.far (p := ⟨r, 0, none⟩) hne x).far (p := ⟨r, 1, none⟩) hne y).far (p := ⟨r, 2, none⟩) hne z
theorem cellA {W : World} {b i : Nat} {o : Obj} (h : b < W.heap.size) : (W.alloc o).drew.cell? ⟨b, i, none⟩ = W.cell? ⟨b, i, none⟩ := World.cell?_of_block (a := ⟨b, i, none⟩) (Below.heap_alloc W o b h)
/-- three numbers written into a block of three, other blocks as they were -/
theorem put3b {w w1 : World} {g q r : Nat} {t : TypeId} {x y z : Int} (G : w.grownBy w1 (some g)) (R : Rnd w1 g q) (hk : Blk w1 r t #[.int .i64 x, .int .i64 y, .int .i64 z]) (hr : w.heap.size ≤ r) (hne : g ≠ r) (a b c : Int) :
    ∃ w2, ((w1.setCell ⟨r, 0, none⟩ (.int .i64 a)).setCell ⟨r, 1, none⟩ (.int .i64 b)).setCell ⟨r, 2, none⟩ (.int .i64 c) = w2 ∧ w.grownBy w2 (some g) ∧ Rnd w2 g q ∧
      Blk w2 r t #[.int .i64 a, .int .i64 b, .int .i64 c] ∧ (∀ r' t' cs', r' ≠ r → Blk w1 r' t' cs' → Blk w2 r' t' cs') := by
  obtain ⟨w2, h2, g2, r2, _⟩ := put3 G R hk hr hne a b c
  refine ⟨w2, h2, g2, r2, ?_, fun r' t' cs' hne' h => ?_⟩
  · rw [← h2]
    have := ((hk.set_ 0 (.int .i64 a)).set_ 1 (.int .i64 b)).set_ 2 (.int .i64 c)
    simpa using this
  · rw [← h2]; exact h.far3 hne' _ _ _
def whichs : List ByteArray := [⟨#[120]⟩, ⟨#[121]⟩, ⟨#[122]⟩, ⟨#[120]⟩, ⟨#[121]⟩, ⟨#[122]⟩, ⟨#[120]⟩, ⟨#[121]⟩, ⟨#[]⟩, ⟨#[88]⟩, ⟨#[119]⟩, ⟨#[120, 121]⟩]
set_option maxHeartbeats 1000000 in
theorem which_any (g p : Nat) (w : World) (hp : p ≤ 999999000) (hR : Rnd w g p) :
    Calls Try.prog 79 #[.pointer (some ⟨g, 0, none⟩)] w fun e w' => ∃ s, s ∈ whichs ∧ e = .returned (.string s) ∧ Drew w g p 1 w' := by
  have HR := Lib.hid hR
  clear hR
  go_enter Try.func79, Try.ntmps79
  go_wp2_with fail
  refine (of_any g p w.heap.size whichs (w.alloc _) (by omega) (HR.out.alloc _) (by decide) (by decide) (by have := HR.out.lt; omega) (Blk.new w _ _)).mono ?_
  rintro e w1 ⟨s1, hs1, rfl, hg1, q1, qa1, qb1, hr1⟩
  have R1 := Lib.hid hr1
  have G1 := Lib.hid (grown_alloc hg1)
  have S1 := Lib.hid hs1
  clear hr1 hg1 hs1
  go_wp2_with fail
  go_ret
  exact ⟨s1, S1.out, rfl, G1.out, q1, qa1, qb1, R1.out⟩
set_option maxHeartbeats 2000000 in
theorem DrawEvalExpr_any (A : Option Addr) (n cap : Nat) (w : World) (hn : n ≤ 4000000000000) (hc : n ≤ cap) (h : Bytes w A n w.heap.size) :
    Calls Try.prog 32 #[.slice A n cap] w fun e w' => ∃ (s : ByteArray) (x y z : Int), s.size ≤ 257 ∧ e = .returned (.tuple #[.string s, .agg #[.int .i64 x, .int .i64 y, .int .i64 z]]) ∧ Below w.heap.size w w' := by
  have O := Lib.hid (open_ex A n cap (w.alloc (.cells #[.int .i64 0, .int .i64 0, .int .i64 0] 35)) hn hc (h.later (below_n w _)))
  have K_ : Blk (w.alloc (.cells #[.int .i64 0, .int .i64 0, .int .i64 0] 35)) w.heap.size 35 #[.int .i64 0, .int .i64 0, .int .i64 0] := Blk.new w 35 #[.int .i64 0, .int .i64 0, .int .i64 0]
  have K := Lib.hid K_
  clear K_
  clear h
  go_enter Try.func32, Try.ntmps32
  go_wp2_with fail
  refine O.out.mono ?_
  rintro e w0 ⟨g, hg0, rfl, hr0, hb0⟩
  have R0 := Lib.hid hr0
  have G0 : Hid (w.grownBy w0 (some g)) := Lib.hid (grown_of_below (below_a1 (Below.refl _ _) hb0) _)
  have K0 := Lib.hid (K.out.below hb0 (by simp))
  have hneK : g ≠ w.heap.size := by simp at hg0; omega
  have hge : w.heap.size ≤ g := by first | exact hg0 | (simp at hg0; omega)
  clear hr0 hb0 O hg0 K
  go_wp2_with fail
  refine (draw_any ⟨#[120, 121, 122]⟩ (by decide) (by decide) _ 3 0 3 _ rfl (by simp only [cst]; omega) (by omega) R0.out).mono ?_
  rintro e w1 ⟨s1, sa1, sb1, rfl, hg1, q1, qa1, qb1, hr1⟩
  have R1 := Lib.hid hr1
  have G1 := Lib.hid (grown_trans G0.out hg1)
  have K1 := Lib.hid (K0.out.grown hg1 (by intro e; injection e with e; exact hneK e.symm))
  clear hr1 hg1
  simp only [cst] at sb1 qb1
  go_wp2_with fail
  refine (bad_any s1 _ q1 _ sa1 (by omega) (by omega) R1.out).mono ?_
  rintro e w2 ⟨s2, sb2, rfl, hg2, q2, qa2, qb2, hr2⟩
  have R2 := Lib.hid hr2
  have G2 := Lib.hid (grown_trans G1.out hg2)
  have K2 := Lib.hid (K1.out.grown hg2 (by intro e; injection e with e; exact hneK e.symm))
  clear hr2 hg2
  go_wp2_with fail
  refine (spot_any _ q2 _ (by omega) R2.out).mono ?_
  rintro e w3 ⟨x3, y3, z3, rfl, hg3, q3, qa3, qb3, hr3⟩
  have R3 := Lib.hid hr3
  have G3 := Lib.hid (grown_trans G2.out hg3)
  have K3 := Lib.hid (K2.out.grown hg3 (by intro e; injection e with e; exact hneK e.symm))
  clear hr3 hg3
  go_wp2_with fail
  refine (badSpot_any x3 y3 z3 _ q3 _ (by omega) R3.out).mono ?_
  rintro e w4 ⟨x4, y4, z4, rfl, hg4, q4, qa4, qb4, hr4⟩
  have R4 := Lib.hid hr4
  have G4 := Lib.hid (grown_trans G3.out hg4)
  have K4 := Lib.hid (K3.out.grown hg4 (by intro e; injection e with e; exact hneK e.symm))
  clear hr4 hg4
  have k_ := K4.out
  have ac0 := k_.cell 0
  have af0 := k_.frozen 0
  have ac1 := k_.cell 1
  have af1 := k_.frozen 1
  have ac2 := k_.cell 2
  have af2 := k_.frozen 2
  simp at ac0 ac1 ac2
  clear k_
  go_wp2_with fail
  obtain ⟨w', hw', g', r', d0, d1, d2⟩ := put3 G4.out R4.out K4.out (Nat.le_refl _) hneK x4 y4 z4
  rw [hw']
  exact bodyPost_ret (v := .tuple #[.string s2, .agg #[.int .i64 x4, .int .i64 y4, .int .i64 z4]]) (by simp [results, Try.results32, go_sem, d0, d1, d2]) rfl
    ⟨s2, x4, y4, z4, by omega, rfl, below_src g' hge⟩
set_option maxHeartbeats 2000000 in
theorem DrawEvalTest_any (A : Option Addr) (n cap : Nat) (w : World) (hn : n ≤ 4000000000000) (hc : n ≤ cap) (h : Bytes w A n w.heap.size) :
    Calls Try.prog 39 #[.slice A n cap] w fun e w' => ∃ (s : ByteArray) (x y z : Int), s.size ≤ 1025 ∧ e = .returned (.tuple #[.string s, .agg #[.int .i64 x, .int .i64 y, .int .i64 z]]) ∧ Below w.heap.size w w' := by
  have O := Lib.hid (open_ex A n cap (w.alloc (.cells #[.int .i64 0, .int .i64 0, .int .i64 0] 35)) hn hc (h.later (below_n w _)))
  have K_ : Blk (w.alloc (.cells #[.int .i64 0, .int .i64 0, .int .i64 0] 35)) w.heap.size 35 #[.int .i64 0, .int .i64 0, .int .i64 0] := Blk.new w 35 #[.int .i64 0, .int .i64 0, .int .i64 0]
  have K := Lib.hid K_
  clear K_
  clear h
  go_enter Try.func39, Try.ntmps39
  go_wp2_with fail
  refine O.out.mono ?_
  rintro e w0 ⟨g, hg0, rfl, hr0, hb0⟩
  have R0 := Lib.hid hr0
  have G0 : Hid (w.grownBy w0 (some g)) := Lib.hid (grown_of_below (below_a1 (Below.refl _ _) hb0) _)
  have K0 := Lib.hid (K.out.below hb0 (by simp))
  have hneK : g ≠ w.heap.size := by simp at hg0; omega
  have hge : w.heap.size ≤ g := by first | exact hg0 | (simp at hg0; omega)
  clear hr0 hb0 O hg0 K
  go_wp2_with fail
  refine (drawTest_any ⟨#[120, 121, 122]⟩ (by decide) (by decide) _ 2 0 2 _ rfl (by simp only [cstT]; omega) (by omega) R0.out).mono ?_
  rintro e w1 ⟨s1, sa1, sb1, rfl, hg1, q1, qa1, qb1, hr1⟩
  have R1 := Lib.hid hr1
  have G1 := Lib.hid (grown_trans G0.out hg1)
  have K1 := Lib.hid (K0.out.grown hg1 (by intro e; injection e with e; exact hneK e.symm))
  clear hr1 hg1
  simp only [cstT] at sb1 qb1
  go_wp2_with fail
  refine (bad_any s1 _ q1 _ sa1 (by omega) (by omega) R1.out).mono ?_
  rintro e w2 ⟨s2, sb2, rfl, hg2, q2, qa2, qb2, hr2⟩
  have R2 := Lib.hid hr2
  have G2 := Lib.hid (grown_trans G1.out hg2)
  have K2 := Lib.hid (K1.out.grown hg2 (by intro e; injection e with e; exact hneK e.symm))
  clear hr2 hg2
  go_wp2_with fail
  refine (spot_any _ q2 _ (by omega) R2.out).mono ?_
  rintro e w3 ⟨x3, y3, z3, rfl, hg3, q3, qa3, qb3, hr3⟩
  have R3 := Lib.hid hr3
  have G3 := Lib.hid (grown_trans G2.out hg3)
  have K3 := Lib.hid (K2.out.grown hg3 (by intro e; injection e with e; exact hneK e.symm))
  clear hr3 hg3
  go_wp2_with fail
  refine (badSpot_any x3 y3 z3 _ q3 _ (by omega) R3.out).mono ?_
  rintro e w4 ⟨x4, y4, z4, rfl, hg4, q4, qa4, qb4, hr4⟩
  have R4 := Lib.hid hr4
  have G4 := Lib.hid (grown_trans G3.out hg4)
  have K4 := Lib.hid (K3.out.grown hg4 (by intro e; injection e with e; exact hneK e.symm))
  clear hr4 hg4
  have k_ := K4.out
  have ac0 := k_.cell 0
  have af0 := k_.frozen 0
  have ac1 := k_.cell 1
  have af1 := k_.frozen 1
  have ac2 := k_.cell 2
  have af2 := k_.frozen 2
  simp at ac0 ac1 ac2
  clear k_
  go_wp2_with fail
  obtain ⟨w', hw', g', r', d0, d1, d2⟩ := put3 G4.out R4.out K4.out (Nat.le_refl _) hneK x4 y4 z4
  rw [hw']
  exact bodyPost_ret (v := .tuple #[.string s2, .agg #[.int .i64 x4, .int .i64 y4, .int .i64 z4]]) (by simp [results, Try.results39, go_sem, d0, d1, d2]) rfl
    ⟨s2, x4, y4, z4, by omega, rfl, below_src g' hge⟩
set_option maxHeartbeats 2000000 in
theorem DrawFoldExpr_any (A : Option Addr) (n cap : Nat) (w : World) (hn : n ≤ 4000000000000) (hc : n ≤ cap) (h : Bytes w A n w.heap.size) :
    Calls Try.prog 26 #[.slice A n cap] w fun e w' => ∃ (s : ByteArray), s.size ≤ 257 ∧ e = .returned (.string s) ∧ Below w.heap.size w w' := by
  have H0 := Lib.hid h
  have O := Lib.hid (open_ex A n cap w hn hc (h.later (Below.refl _ _)))
  clear h
  go_enter Try.func26, Try.ntmps26
  go_wp2_with fail
  refine O.out.mono ?_
  rintro e w0 ⟨g, hg0, rfl, hr0, hb0⟩
  have R0 := Lib.hid hr0
  have G0 : Hid (w.grownBy w0 (some g)) := Lib.hid (grown_of_below (hb0) _)
  have hge : w.heap.size ≤ g := by first | exact hg0 | (simp at hg0; omega)
  clear hr0 hb0 O hg0
  go_wp2_with fail
  refine (pick_any _ 0 2 _ (by omega) (by omega) R0.out).mono ?_
  rintro e w1 ⟨v1, ⟨va1, vb1, _⟩, rfl, hg1, q1, qa1, qb1, hr1⟩
  have R1 := Lib.hid hr1
  have G1 := Lib.hid (grown_trans G0.out hg1)
  clear hr1 hg1
  have vc1 := vb1 (by omega)
  clear vb1
  have BB := Lib.hid (below_src G1.out hge)
  by_cases hv : v1 = 0
  · subst hv
    go_wp2_with fail
    refine (draw_any ⟨#[120]⟩ (by decide) (by decide) _ 3 q1 3 _ rfl (by simp only [cst]; omega) (by omega) R1.out).mono ?_
    rintro e w2 ⟨s2, sa2, sb2, rfl, hg2, q2, qa2, qb2, hr2⟩
    have R2 := Lib.hid hr2
    have G2 := Lib.hid (grown_trans G1.out hg2)
    clear hr2 hg2
    simp only [cst] at sb2 qb2
    go_wp2_with fail
    go_ret
    exact ⟨s2, by omega, rfl, below_src G2.out hge⟩
  · have hv' : (v1 == 0) = false := by simp; exact hv
    clear hv
    go_wp2_with fail
    refine (DrawExprValid_any A n cap _ hn hc (H0.out.later BB.out)).mono ?_
    rintro e w2 ⟨s, hs, rfl, hb⟩
    have B2 := Lib.hid (below_2 BB.out hb)
    clear hb
    go_wp2_with fail
    go_ret
    exact ⟨s, hs, rfl, B2.out⟩
set_option maxHeartbeats 2000000 in
theorem DrawEvalWide_any (A : Option Addr) (n cap : Nat) (w : World) (hn : n ≤ 4000000000000) (hc : n ≤ cap) (h : Bytes w A n w.heap.size) :
    Calls Try.prog 50 #[.slice A n cap] w fun e w' => ∃ (s : ByteArray) (x y z X Y Z : Int), s.size ≤ 1025 ∧ e = .returned (.tuple #[.string s, .agg #[.int .i64 x, .int .i64 y, .int .i64 z], .agg #[.int .i64 X, .int .i64 Y, .int .i64 Z]]) ∧ Below w.heap.size w w' := by
  have O := Lib.hid (open_ex A n cap ((w.alloc (.cells #[.int .i64 0, .int .i64 0, .int .i64 0] 35)).alloc (.cells #[.int .i64 0, .int .i64 0, .int .i64 0] 35)) hn hc (h.later ((below_n w _).alloc (by simp) _)))
  have K_ : Blk ((w.alloc (.cells #[.int .i64 0, .int .i64 0, .int .i64 0] 35)).alloc (.cells #[.int .i64 0, .int .i64 0, .int .i64 0] 35)) w.heap.size 35 #[.int .i64 0, .int .i64 0, .int .i64 0] := (Blk.new w 35 #[.int .i64 0, .int .i64 0, .int .i64 0]).alloc (.cells #[.int .i64 0, .int .i64 0, .int .i64 0] 35)
  have K := Lib.hid K_
  clear K_
  have J_ : Blk ((w.alloc (.cells #[.int .i64 0, .int .i64 0, .int .i64 0] 35)).alloc (.cells #[.int .i64 0, .int .i64 0, .int .i64 0] 35)) (w.heap.size + 1) 35 #[.int .i64 0, .int .i64 0, .int .i64 0] := by
    have h := Blk.new (w.alloc (.cells #[.int .i64 0, .int .i64 0, .int .i64 0] 35)) 35 #[.int .i64 0, .int .i64 0, .int .i64 0]
    simpa using h
  have J := Lib.hid J_
  clear J_
  clear h
  go_enter Try.func50, Try.ntmps50
  go_wp2_with fail
  refine O.out.mono ?_
  rintro e w0 ⟨g, hg0, rfl, hr0, hb0⟩
  have R0 := Lib.hid hr0
  have G0 : Hid (w.grownBy w0 (some g)) := Lib.hid (grown_of_below (below_a2 (Below.refl _ _) hb0) _)
  have K0 := Lib.hid (K.out.below hb0 (by simp; omega))
  have hneK : g ≠ w.heap.size := by simp at hg0; omega
  have J0 := Lib.hid (J.out.below hb0 (by simp))
  have hneJ : g ≠ w.heap.size + 1 := by simp at hg0; omega
  have hge : w.heap.size ≤ g := by first | exact hg0 | (simp at hg0; omega)
  clear hr0 hb0 O hg0 K J
  go_wp2_with fail
  refine (drawTest_any ⟨#[120, 121, 122, 88, 89, 90]⟩ (by decide) (by decide) _ 2 0 2 _ rfl (by simp only [cstT]; omega) (by omega) R0.out).mono ?_
  rintro e w1 ⟨s1, sa1, sb1, rfl, hg1, q1, qa1, qb1, hr1⟩
  have R1 := Lib.hid hr1
  have G1 := Lib.hid (grown_trans G0.out hg1)
  have K1 := Lib.hid (K0.out.grown hg1 (by intro e; injection e with e; exact hneK e.symm))
  have J1 := Lib.hid (J0.out.grown hg1 (by intro e; injection e with e; exact hneJ e.symm))
  clear hr1 hg1
  simp only [cstT] at sb1 qb1
  go_wp2_with fail
  refine (bad_any s1 _ q1 _ sa1 (by omega) (by omega) R1.out).mono ?_
  rintro e w2 ⟨s2, sb2, rfl, hg2, q2, qa2, qb2, hr2⟩
  have R2 := Lib.hid hr2
  have G2 := Lib.hid (grown_trans G1.out hg2)
  have K2 := Lib.hid (K1.out.grown hg2 (by intro e; injection e with e; exact hneK e.symm))
  have J2 := Lib.hid (J1.out.grown hg2 (by intro e; injection e with e; exact hneJ e.symm))
  clear hr2 hg2
  go_wp2_with fail
  refine (spot_any _ q2 _ (by omega) R2.out).mono ?_
  rintro e w3 ⟨x3, y3, z3, rfl, hg3, q3, qa3, qb3, hr3⟩
  have R3 := Lib.hid hr3
  have G3 := Lib.hid (grown_trans G2.out hg3)
  have K3 := Lib.hid (K2.out.grown hg3 (by intro e; injection e with e; exact hneK e.symm))
  have J3 := Lib.hid (J2.out.grown hg3 (by intro e; injection e with e; exact hneJ e.symm))
  clear hr3 hg3
  go_wp2_with fail
  refine (badSpot_any x3 y3 z3 _ q3 _ (by omega) R3.out).mono ?_
  rintro e w4 ⟨x4, y4, z4, rfl, hg4, q4, qa4, qb4, hr4⟩
  have R4 := Lib.hid hr4
  have G4 := Lib.hid (grown_trans G3.out hg4)
  have K4 := Lib.hid (K3.out.grown hg4 (by intro e; injection e with e; exact hneK e.symm))
  have J4 := Lib.hid (J3.out.grown hg4 (by intro e; injection e with e; exact hneJ e.symm))
  clear hr4 hg4
  have HL : Blk (w4.alloc (.cells #[.int .i64 x4, .int .i64 y4, .int .i64 z4] 35)) w4.heap.size 35 #[.int .i64 x4, .int .i64 y4, .int .i64 z4] := Blk.new w4 _ _
  have hneL : g ≠ w4.heap.size := by have := R4.out.lt; omega
  have L_4 := Lib.hid HL.drew
  have l0 := HL.cell 0
  have l1 := HL.cell 1
  have l2 := HL.cell 2
  simp at l0 l1 l2
  clear HL
  have K_4 := Lib.hid (K4.out.alloc (.cells #[.int .i64 x4, .int .i64 y4, .int .i64 z4] 35)).drew
  have J_4 := Lib.hid (J4.out.alloc (.cells #[.int .i64 x4, .int .i64 y4, .int .i64 z4] 35)).drew
  have G_4 := Lib.hid (grown_trans (grown_trans G4.out (World.grownBy_alloc w4 (.cells #[.int .i64 x4, .int .i64 y4, .int .i64 z4] 35) (some g))) (grownBy_drew _ _))
  have n1 : w4.heap.size ≠ w.heap.size := by have := K4.out.lt; omega
  have n2 : w4.heap.size ≠ w.heap.size + 1 := by have := J4.out.lt; omega
  have SP := Lib.hid (spot_any g q4 (w4.alloc (.cells #[.int .i64 x4, .int .i64 y4, .int .i64 z4] 35)).drew (by omega) ((R4.out.alloc _).drewN 1))
  go_wp2_with fail
  go_region_held3 (fun W => W.cell? ⟨w4.heap.size, 0, none⟩ = some (.int .i64 x4) ∧ W.cell? ⟨w4.heap.size, 1, none⟩ = some (.int .i64 y4) ∧ W.cell? ⟨w4.heap.size, 2, none⟩ = some (.int .i64 z4)) (first | with_reducible exact ⟨l0, l1, l2⟩ | with_reducible exact ⟨(far3 n1).trans l0, (far3 n1).trans l1, (far3 n1).trans l2⟩ | with_reducible exact ⟨(far3 n2).trans ((far3 n1).trans l0), (far3 n2).trans ((far3 n1).trans l1), (far3 n2).trans ((far3 n1).trans l2)⟩ | simp) ((first | (go_at_call 68; refine SP.out.mono ?_; rintro e w5 ⟨x5, y5, z5, rfl, hg5, q5, qa5, qb5, hr5⟩; have R5 := Lib.hid hr5; clear l0 l1 l2; have K5 := Lib.hid (K_4.out.grown hg5 (by intro e; injection e with e; exact hneK e.symm)); have J5 := Lib.hid (J_4.out.grown hg5 (by intro e; injection e with e; exact hneJ e.symm)); have L5 := Lib.hid (L_4.out.grown hg5 (by intro e; injection e with e; exact hneL e.symm)); have G5 := Lib.hid (grown_trans G_4.out hg5); have l5 := L5.out; have l0 := l5.cell 0; have l1 := l5.cell 1; have l2 := l5.cell 2; simp at l0 l1 l2; clear l5 hr5 hg5) | (go_at_call 67; refine (badSpot_any x5 y5 z5 _ q5 _ (by omega) R5.out).mono ?_; rintro e w6 ⟨x6, y6, z6, rfl, hg6, q6, qa6, qb6, hr6⟩; have R6 := Lib.hid hr6; clear l0 l1 l2; have K6 := Lib.hid (K5.out.grown hg6 (by intro e; injection e with e; exact hneK e.symm)); have J6 := Lib.hid (J5.out.grown hg6 (by intro e; injection e with e; exact hneJ e.symm)); have L6 := Lib.hid (L5.out.grown hg6 (by intro e; injection e with e; exact hneL e.symm)); have G6 := Lib.hid (grown_trans G5.out hg6); have l6 := L6.out; have l0 := l6.cell 0; have l1 := l6.cell 1; have l2 := l6.cell 2; simp at l0 l1 l2; have k6 := K6.out; have c0 := k6.cell 0; have c1 := k6.cell 1; have c2 := k6.cell 2; have f0 := k6.frozen 0; have f1 := k6.frozen 1; have f2 := k6.frozen 2; have j6 := J6.out; have u0 := j6.cell 0; have u1 := j6.cell 1; have u2 := j6.cell 2; have v0 := j6.frozen 0; have v1 := j6.frozen 1; have v2 := j6.frozen 2; simp at c0 c1 c2 u0 u1 u2; clear l6 k6 j6 hr6 hg6)))
  go_wp2_with fail
  obtain ⟨wa, hwa, ga, ra, ka, oa⟩ := put3b G6.out R6.out K6.out (Nat.le_refl _) hneK x4 y4 z4
  rw [hwa]
  obtain ⟨wb, hwb, gb, rb, jb, ob⟩ := put3b ga ra (oa _ _ _ (by omega) J6.out) (by omega) hneJ x6 y6 z6
  rw [hwb]
  have kb := ob _ _ _ (by omega) ka
  have d0 := kb.cell 0
  have d1 := kb.cell 1
  have d2 := kb.cell 2
  have e0 := jb.cell 0
  have e1 := jb.cell 1
  have e2 := jb.cell 2
  simp at d0 d1 d2 e0 e1 e2
  exact bodyPost_ret (v := .tuple #[.string s2, .agg #[.int .i64 x4, .int .i64 y4, .int .i64 z4], .agg #[.int .i64 x6, .int .i64 y6, .int .i64 z6]]) (by simp [results, Try.results50, go_sem, d0, d1, d2, e0, e1, e2]) rfl
    ⟨s2, x4, y4, z4, x6, y6, z6, by omega, rfl, below_src gb hge⟩
set_option maxHeartbeats 2000000 in
theorem DrawSetVar_any (A : Option Addr) (n cap : Nat) (w : World) (hn : n ≤ 4000000000000) (hc : n ≤ cap) (h : Bytes w A n w.heap.size) :
    Calls Try.prog 45 #[.slice A n cap] w fun e w' => ∃ (s : ByteArray) (x y z n : Int), s ∈ whichs ∧ e = .returned (.tuple #[.agg #[.int .i64 x, .int .i64 y, .int .i64 z], .string s, .int .i64 n]) ∧ Below w.heap.size w w' := by
  have O := Lib.hid (open_ex A n cap (w.alloc (.cells #[.int .i64 0, .int .i64 0, .int .i64 0] 35)) hn hc (h.later (below_n w _)))
  have K_ : Blk (w.alloc (.cells #[.int .i64 0, .int .i64 0, .int .i64 0] 35)) w.heap.size 35 #[.int .i64 0, .int .i64 0, .int .i64 0] := Blk.new w 35 #[.int .i64 0, .int .i64 0, .int .i64 0]
  have K := Lib.hid K_
  clear K_
  clear h
  go_enter Try.func45, Try.ntmps45
  go_wp2_with fail
  refine O.out.mono ?_
  rintro e w0 ⟨g, hg0, rfl, hr0, hb0⟩
  have R0 := Lib.hid hr0
  have G0 : Hid (w.grownBy w0 (some g)) := Lib.hid (grown_of_below (below_a1 (Below.refl _ _) hb0) _)
  have K0 := Lib.hid (K.out.below hb0 (by simp))
  have hneK : g ≠ w.heap.size := by simp at hg0; omega
  have hge : w.heap.size ≤ g := by first | exact hg0 | (simp at hg0; omega)
  clear hr0 hb0 O hg0 K
  go_wp2_with fail
  refine (spot_any _ 0 _ (by omega) R0.out).mono ?_
  rintro e w1 ⟨x1, y1, z1, rfl, hg1, q1, qa1, qb1, hr1⟩
  have R1 := Lib.hid hr1
  have G1 := Lib.hid (grown_trans G0.out hg1)
  have K1 := Lib.hid (K0.out.grown hg1 (by intro e; injection e with e; exact hneK e.symm))
  clear hr1 hg1
  go_wp2_with fail
  refine (badSpot_any x1 y1 z1 _ q1 _ (by omega) R1.out).mono ?_
  rintro e w2 ⟨x2, y2, z2, rfl, hg2, q2, qa2, qb2, hr2⟩
  have R2 := Lib.hid hr2
  have G2 := Lib.hid (grown_trans G1.out hg2)
  have K2 := Lib.hid (K1.out.grown hg2 (by intro e; injection e with e; exact hneK e.symm))
  clear hr2 hg2
  have hneL : g ≠ w2.heap.size := by have := R2.out.lt; omega
  have nKL : w2.heap.size ≠ w.heap.size := by have := K2.out.lt; omega
  have HL : Blk (w2.alloc (.cells #[.int .i64 x2, .int .i64 y2, .int .i64 z2] 35)) w2.heap.size 35 #[.int .i64 x2, .int .i64 y2, .int .i64 z2] := Blk.new w2 _ _
  have HK : Blk (w2.alloc (.cells #[.int .i64 x2, .int .i64 y2, .int .i64 z2] 35)) w.heap.size 35 #[.int .i64 0, .int .i64 0, .int .i64 0] := K2.out.alloc (.cells #[.int .i64 x2, .int .i64 y2, .int .i64 z2] 35)
  have HG := grown_trans G2.out (World.grownBy_alloc w2 (.cells #[.int .i64 x2, .int .i64 y2, .int .i64 z2] 35) (some g))
  have HR := R2.out.alloc (.cells #[.int .i64 x2, .int .i64 y2, .int .i64 z2] 35)
  have L_ := Lib.hid HL
  have K_ := Lib.hid HK
  have G_ := Lib.hid HG
  have R_ := Lib.hid HR
  clear HL HK HG HR K2 R2 G2
  go_wp2_with fail
  have W_ := Lib.hid (which_any g q2 (w2.alloc (.cells #[.int .i64 x2, .int .i64 y2, .int .i64 z2] 35)) (by omega) R_.out)
  refine W_.out.mono ?_
  rintro e w3 ⟨s, hs, rfl, hg3, q3, qa3, qb3, hr3⟩
  have HS := Lib.hid hs
  have R3 := Lib.hid hr3
  have G3 := Lib.hid (grown_trans G_.out hg3)
  have K3 := Lib.hid (K_.out.grown hg3 (by intro e; injection e with e; exact hneK e.symm))
  have L3 := Lib.hid (L_.out.grown hg3 (by intro e; injection e with e; exact hneL e.symm))
  clear hs hr3 hg3 W_ L_ K_ G_ R_
  go_wp2_with fail
  refine (pick_any _ q3 12 _ (by omega) (by omega) R3.out).mono ?_
  rintro e w4 ⟨v4, ⟨va4, vb4, _⟩, rfl, hg4, q4, qa4, qb4, hr4⟩
  have R4 := Lib.hid hr4
  have G4 := Lib.hid (grown_trans G3.out hg4)
  have K4 := Lib.hid (K3.out.grown hg4 (by intro e; injection e with e; exact hneK e.symm))
  have L4 := Lib.hid (L3.out.grown hg4 (by intro e; injection e with e; exact hneL e.symm))
  clear hr4 hg4
  have vc4 := vb4 (by omega)
  clear vb4
  have l_ := L4.out
  have hl4 := l_.lt
  have l0 := l_.cell 0
  have l1 := l_.cell 1
  have l2 := l_.cell 2
  simp at l0 l1 l2
  clear l_
  by_cases hv : v4 = 0
  · subst hv
    go_wp2_with fail
    go_region_held3 (fun W => W.cell? ⟨w2.heap.size, 0, none⟩ = some (.int .i64 x2) ∧ W.cell? ⟨w2.heap.size, 1, none⟩ = some (.int .i64 y2) ∧ W.cell? ⟨w2.heap.size, 2, none⟩ = some (.int .i64 z2)) (first | with_reducible exact ⟨l0, l1, l2⟩ | with_reducible exact ⟨(far3 nKL).trans l0, (far3 nKL).trans l1, (far3 nKL).trans l2⟩ | with_reducible exact ⟨(cellA hl4).trans l0, (cellA hl4).trans l1, (cellA hl4).trans l2⟩ | simp [l0, l1, l2]) ((go_at_call 80; refine (num_any g q4 w4.heap.size [-1, 3, 9223372036854775807] _ (by omega) ((R4.out.alloc _).drewN 1) (by decide) (by decide) (by have := R4.out.lt; omega) ((Blk.new w4 _ _).drewN 1)).mono ?_; rintro e w5 ⟨n5, _, rfl, hg5, q5, qa5, qb5, hr5⟩; replace hg5 := grown_trans (grownBy_drew _ _) (grown_alloc hg5); have R5 := Lib.hid hr5; have G5 := Lib.hid (grown_trans G4.out hg5); clear l0 l1 l2; have K5 := Lib.hid (K4.out.grown hg5 (by intro e; injection e with e; exact hneK e.symm)); have L5 := Lib.hid (L4.out.grown hg5 (by intro e; injection e with e; exact hneL e.symm)); have l5 := L5.out; have l0 := l5.cell 0; have l1 := l5.cell 1; have l2 := l5.cell 2; simp at l0 l1 l2; have k5 := K5.out; have c0 := k5.cell 0; have c1 := k5.cell 1; have c2 := k5.cell 2; have f0 := k5.frozen 0; have f1 := k5.frozen 1; have f2 := k5.frozen 2; simp at c0 c1 c2; clear l5 k5 hr5 hg5))
    go_wp2_with fail
    obtain ⟨wa, hwa, ga, ra, ka, oa⟩ := put3b G5.out R5.out K5.out (Nat.le_refl _) hneK x2 y2 z2
    rw [hwa]
    have d0 := ka.cell 0
    have d1 := ka.cell 1
    have d2 := ka.cell 2
    simp at d0 d1 d2
    exact bodyPost_ret (v := .tuple #[.agg #[.int .i64 x2, .int .i64 y2, .int .i64 z2], .string s, .int .i64 n5]) (by simp [results, Try.results45, go_sem, d0, d1, d2]) rfl
      ⟨s, x2, y2, z2, n5, HS.out, rfl, below_src ga hge⟩
  · have hv' : (v4 == 0) = false := by simp; exact hv
    clear hv
    go_wp2_with fail
    go_region_held3 (fun W => W.cell? ⟨w2.heap.size, 0, none⟩ = some (.int .i64 x2) ∧ W.cell? ⟨w2.heap.size, 1, none⟩ = some (.int .i64 y2) ∧ W.cell? ⟨w2.heap.size, 2, none⟩ = some (.int .i64 z2)) (first | with_reducible exact ⟨l0, l1, l2⟩ | with_reducible exact ⟨(far3 nKL).trans l0, (far3 nKL).trans l1, (far3 nKL).trans l2⟩ | with_reducible exact ⟨(cellA hl4).trans l0, (cellA hl4).trans l1, (cellA hl4).trans l2⟩ | simp [l0, l1, l2]) ((go_at_call 63; refine (pick_any g q4 3 _ (by omega) (by omega) (R4.out.drewN 1)).mono ?_; rintro e w5 ⟨n5, _, rfl, hg5, q5, qa5, qb5, hr5⟩; replace hg5 := grown_trans (grownBy_drew _ _) hg5; have R5 := Lib.hid hr5; have G5 := Lib.hid (grown_trans G4.out hg5); clear l0 l1 l2; have K5 := Lib.hid (K4.out.grown hg5 (by intro e; injection e with e; exact hneK e.symm)); have L5 := Lib.hid (L4.out.grown hg5 (by intro e; injection e with e; exact hneL e.symm)); have l5 := L5.out; have l0 := l5.cell 0; have l1 := l5.cell 1; have l2 := l5.cell 2; simp at l0 l1 l2; have k5 := K5.out; have c0 := k5.cell 0; have c1 := k5.cell 1; have c2 := k5.cell 2; have f0 := k5.frozen 0; have f1 := k5.frozen 1; have f2 := k5.frozen 2; simp at c0 c1 c2; clear l5 k5 hr5 hg5))
    go_wp2_with fail
    obtain ⟨wa, hwa, ga, ra, ka, oa⟩ := put3b G5.out R5.out K5.out (Nat.le_refl _) hneK x2 y2 z2
    rw [hwa]
    have d0 := ka.cell 0
    have d1 := ka.cell 1
    have d2 := ka.cell 2
    simp at d0 d1 d2
    exact bodyPost_ret (v := .tuple #[.agg #[.int .i64 x2, .int .i64 y2, .int .i64 z2], .string s, .int .i64 n5]) (by simp [results, Try.results45, go_sem, d0, d1, d2]) rfl
      ⟨s, x2, y2, z2, n5, HS.out, rfl, below_src ga hge⟩

end Go.Proofs.Ytcdcgllodggebaa
