/- Lines: the law's own copies and comparisons. -/
import Derived.Test.YtndlhdmpfnadcaaDoorLq
namespace Go.Proofs.YtndlhdmpfnadcaaDoor
open Go.RowKit
open Pl
set_option linter.unusedVariables false

set_option maxRecDepth 100000 in
set_option maxHeartbeats 8000000 in
theorem eqLine_any (R A P Q B : ByteArray) (s t : Option Addr) (n c d : Nat) (z : Nat → Int) (hn : n ≤ 1048576) (hc : n ≤ c) (hd : n ≤ d) (w : World) (hI : IR w s n z) (hJ : IR w t n z) :
    Calls Tryd.prog 17 #[.agg #[.string R, .string A, .string P, .string Q, .string B, .slice s n c], .agg #[.string R, .string A, .string P, .string Q, .string B, .slice t n d]] w fun e w' => e = .returned (.bool true) ∧ Below w.heap.size w w' := by
  have H := ((Sit.refl w).box6 (a := .string R) (b := .string A) (c := .string P) (d := .string Q) (e := .string B) (f := .slice s n c) 36).box6 (a := .string R) (b := .string A) (c := .string P) (d := .string Q) (e := .string B) (f := .slice t n d) 36
  have hpq : (w.alloc (.cells #[.string R, .string A, .string P, .string Q, .string B, .slice s n c] 36)).heap.size = w.heap.size + 1 := by simp
  rw [hpq] at H
  have EI := Lib.hid (fun w => eqIntS_any s t n c d z hn hc hd w)
  have HI := Lib.hid (hI.call H.below)
  have HJ := Lib.hid (hJ.call H.below)
  have d0 := H.get (p := ⟨w.heap.size + 1, 0, none⟩) (v := .string R) (by simp)
  have d1 := H.get (p := ⟨w.heap.size + 1, 1, none⟩) (v := .string A) (by simp)
  have d2 := H.get (p := ⟨w.heap.size + 1, 2, none⟩) (v := .string P) (by simp)
  have d3 := H.get (p := ⟨w.heap.size + 1, 3, none⟩) (v := .string Q) (by simp)
  have d4 := H.get (p := ⟨w.heap.size + 1, 4, none⟩) (v := .string B) (by simp)
  have d5 := H.get (p := ⟨w.heap.size + 1, 5, none⟩) (v := .slice t n d) (by simp)
  have d6 := H.get (p := ⟨w.heap.size, 0, none⟩) (v := .string R) (by simp)
  have d7 := H.get (p := ⟨w.heap.size, 1, none⟩) (v := .string A) (by simp)
  have d8 := H.get (p := ⟨w.heap.size, 2, none⟩) (v := .string P) (by simp)
  have d9 := H.get (p := ⟨w.heap.size, 3, none⟩) (v := .string Q) (by simp)
  have d10 := H.get (p := ⟨w.heap.size, 4, none⟩) (v := .string B) (by simp)
  have d11 := H.get (p := ⟨w.heap.size, 5, none⟩) (v := .slice s n c) (by simp)
  have q0 : (R.toList != R.toList) = false := by simp
  have q1 : (A.toList != A.toList) = false := by simp
  have q2 : (P.toList != P.toList) = false := by simp
  have q3 : (Q.toList != Q.toList) = false := by simp
  have q4 : (B.toList != B.toList) = false := by simp
  have BB := Lib.hid H.below
  clear hI hJ H hpq
  go_enter Tryd.func17, Tryd.ntmps17
  go_wp2_with fail
  refine (EI.out _ HI.out HJ.out).mono ?_
  rintro e w' ⟨rfl, hb⟩
  have B2 := Lib.hid (below_2 BB.out hb)
  clear hb d0 d1 d2 d3 d4 d5 d6 d7 d8 d9 d10 d11
  go_wp2_with fail
  go_ret
  exact ⟨rfl, B2.out⟩
set_option maxRecDepth 100000 in
set_option maxHeartbeats 8000000 in
theorem toLine_new (R A P Q B : ByteArray) (s : Option Addr) (n c : Nat) (z : Nat → Int) (hn : n ≤ 1048576) (hc : n ≤ c) (w : World) (hI : IR w s n z) :
    Calls Tryd.prog 14 #[.agg #[.string R, .string A, .string P, .string Q, .string B, .slice s n c]] w fun e w' => ∃ g, w.heap.size ≤ g ∧ e = .returned (.agg #[.string R, .string A, .string P, .string Q, .string B, .slice (some ⟨g, 0, none⟩) n n]) ∧ IR w' (some ⟨g, 0, none⟩) n z ∧ Below w.heap.size w w' := by
  have H := (Sit.refl w).box6 (a := .string R) (b := .string A) (c := .string P) (d := .string Q) (e := .string B) (f := .slice s n c) 35
  obtain ⟨d0, d1, d2, d3, d4, d5⟩ := H.c6
  have x1 : (w.alloc (.cells #[.string R, .string A, .string P, .string Q, .string B, .slice s n c] 35)).heap.size = w.heap.size + 1 := by simp
  have x2 : ((w.alloc (.cells #[.string R, .string A, .string P, .string Q, .string B, .slice s n c] 35)).alloc (.cells #[.string ⟨#[]⟩, .string ⟨#[]⟩, .string ⟨#[]⟩, .string ⟨#[]⟩, .string ⟨#[]⟩, .slice none 0 0] 36)).heap.size = w.heap.size + 1 + 1 := by simp
  have k3 := Blk.new ((w.alloc (.cells #[.string R, .string A, .string P, .string Q, .string B, .slice s n c] 35)).alloc (.cells #[.string ⟨#[]⟩, .string ⟨#[]⟩, .string ⟨#[]⟩, .string ⟨#[]⟩, .string ⟨#[]⟩, .slice none 0 0] 36)) 36 #[.string R, .string A, .string P, .string Q, .string B, .slice none 0 0]
  have k2 := (Blk.new (w.alloc (.cells #[.string R, .string A, .string P, .string Q, .string B, .slice s n c] 35)) 36 #[.string ⟨#[]⟩, .string ⟨#[]⟩, .string ⟨#[]⟩, .string ⟨#[]⟩, .string ⟨#[]⟩, .slice none 0 0]).alloc (.cells #[.string R, .string A, .string P, .string Q, .string B, .slice none 0 0] 36)
  rw [x2] at k3
  rw [x1] at k2
  have K2 := Lib.hid k2
  have K3 := Lib.hid k3
  have H3 : Sit w (((w.alloc (.cells #[.string R, .string A, .string P, .string Q, .string B, .slice s n c] 35)).alloc (.cells #[.string ⟨#[]⟩, .string ⟨#[]⟩, .string ⟨#[]⟩, .string ⟨#[]⟩, .string ⟨#[]⟩, .slice none 0 0] 36)).alloc (.cells #[.string R, .string A, .string P, .string Q, .string B, .slice none 0 0] 36)) [] := ((((Sit.refl w).alloc _).alloc _).alloc _)
  have HI := Lib.hid (hI.call H3.below)
  have B3 := Lib.hid H3.below
  have x3 : (((w.alloc (.cells #[.string R, .string A, .string P, .string Q, .string B, .slice s n c] 35)).alloc (.cells #[.string ⟨#[]⟩, .string ⟨#[]⟩, .string ⟨#[]⟩, .string ⟨#[]⟩, .string ⟨#[]⟩, .slice none 0 0] 36)).alloc (.cells #[.string R, .string A, .string P, .string Q, .string B, .slice none 0 0] 36)).heap.size = w.heap.size + 1 + 1 + 1 := by simp
  have TI := Lib.hid (toIntS_any s n c z hn hc (((w.alloc (.cells #[.string R, .string A, .string P, .string Q, .string B, .slice s n c] 35)).alloc (.cells #[.string ⟨#[]⟩, .string ⟨#[]⟩, .string ⟨#[]⟩, .string ⟨#[]⟩, .string ⟨#[]⟩, .slice none 0 0] 36)).alloc (.cells #[.string R, .string A, .string P, .string Q, .string B, .slice none 0 0] 36)) HI.out)
  rw [x3] at TI
  have LT2 : Hid (w.heap.size + 1 < (((w.alloc (.cells #[.string R, .string A, .string P, .string Q, .string B, .slice s n c] 35)).alloc (.cells #[.string ⟨#[]⟩, .string ⟨#[]⟩, .string ⟨#[]⟩, .string ⟨#[]⟩, .string ⟨#[]⟩, .slice none 0 0] 36)).alloc (.cells #[.string R, .string A, .string P, .string Q, .string B, .slice none 0 0] 36)).heap.size) := k2.lt
  have LT3 : Hid (w.heap.size + 1 + 1 < (((w.alloc (.cells #[.string R, .string A, .string P, .string Q, .string B, .slice s n c] 35)).alloc (.cells #[.string ⟨#[]⟩, .string ⟨#[]⟩, .string ⟨#[]⟩, .string ⟨#[]⟩, .string ⟨#[]⟩, .slice none 0 0] 36)).alloc (.cells #[.string R, .string A, .string P, .string Q, .string B, .slice none 0 0] 36)).heap.size) := k3.lt
  clear H H3 hI k2 k3 x1 x2 x3
  go_enter Tryd.func14, Tryd.ntmps14
  go_wp2_with fail
  refine TI.out.mono ?_
  rintro e w1 ⟨rfl, hir, hb⟩
  have hb' := Lib.hid (below_2 B3.out (hb.mono (by simp)))
  have j2 := Lib.hid (K2.out.below hb (by simp))
  have j3 := Lib.hid (K3.out.below hb (by simp))
  have IR1 := Lib.hid hir
  clear hb hir TI HI B3 K2 K3 LT2 LT3 d0 d1 d2 d3 d4 d5
  obtain ⟨T, hT⟩ : ∃ T : Value, Value.slice (some ⟨w.heap.size + 1 + 1 + 1, 0, none⟩) n n = T := ⟨_, rfl⟩
  have k5 := j3.out.set_ 5 (.slice (some ⟨w.heap.size + 1 + 1 + 1, 0, none⟩) n n)
  simp at k5
  have k6 := j2.out.far (p := ⟨w.heap.size + 1 + 1, 5, none⟩) (by simp) (.slice (some ⟨w.heap.size + 1 + 1 + 1, 0, none⟩) n n)
  have c5 := j3.out.cell 5
  have f5 := j3.out.frozen 5
  have a0 := k5.cell 0
  have b0 := k6.cell 0
  have e0 := k6.frozen 0
  have a1 := k5.cell 1
  have b1 := k6.cell 1
  have e1 := k6.frozen 1
  have a2 := k5.cell 2
  have b2 := k6.cell 2
  have e2 := k6.frozen 2
  have a3 := k5.cell 3
  have b3 := k6.cell 3
  have e3 := k6.frozen 3
  have a4 := k5.cell 4
  have b4 := k6.cell 4
  have e4 := k6.frozen 4
  have a5 := k5.cell 5
  have b5 := k6.cell 5
  have e5 := k6.frozen 5
  simp at c5 a0 b0 a1 b1 a2 b2 a3 b3 a4 b4 a5 b5
  have J6 := Lib.hid k6
  clear k5 k6 j2 j3 hT
  go_wp2_with fail
  have kF := ((((((J6.out.set_ 0 (.string R)).set_ 1 (.string A)).set_ 2 (.string P)).set_ 3 (.string Q)).set_ 4 (.string B)).set_ 5 (.slice (some ⟨w.heap.size + 1 + 1 + 1, 0, none⟩) n n))
  have irF := (((((((IR1.out.setCell (p := ⟨w.heap.size + 1 + 1, 5, none⟩) (by show _ ≠ _; simp only [ne_eq]; omega) (.slice (some ⟨w.heap.size + 1 + 1 + 1, 0, none⟩) n n)).setCell (p := ⟨w.heap.size + 1, 0, none⟩) (by show _ ≠ _; simp only [ne_eq]; omega) (.string R)).setCell (p := ⟨w.heap.size + 1, 1, none⟩) (by show _ ≠ _; simp only [ne_eq]; omega) (.string A)).setCell (p := ⟨w.heap.size + 1, 2, none⟩) (by show _ ≠ _; simp only [ne_eq]; omega) (.string P)).setCell (p := ⟨w.heap.size + 1, 3, none⟩) (by show _ ≠ _; simp only [ne_eq]; omega) (.string Q)).setCell (p := ⟨w.heap.size + 1, 4, none⟩) (by show _ ≠ _; simp only [ne_eq]; omega) (.string B)).setCell (p := ⟨w.heap.size + 1, 5, none⟩) (by show _ ≠ _; simp only [ne_eq]; omega) (.slice (some ⟨w.heap.size + 1 + 1 + 1, 0, none⟩) n n))
  have BF := (((((((hb'.out.setCell (p := ⟨w.heap.size + 1 + 1, 5, none⟩) (by first | (simp; done) | (simp; omega)) (.slice (some ⟨w.heap.size + 1 + 1 + 1, 0, none⟩) n n)).setCell (p := ⟨w.heap.size + 1, 0, none⟩) (by first | (simp; done) | (simp; omega)) (.string R)).setCell (p := ⟨w.heap.size + 1, 1, none⟩) (by first | (simp; done) | (simp; omega)) (.string A)).setCell (p := ⟨w.heap.size + 1, 2, none⟩) (by first | (simp; done) | (simp; omega)) (.string P)).setCell (p := ⟨w.heap.size + 1, 3, none⟩) (by first | (simp; done) | (simp; omega)) (.string Q)).setCell (p := ⟨w.heap.size + 1, 4, none⟩) (by first | (simp; done) | (simp; omega)) (.string B)).setCell (p := ⟨w.heap.size + 1, 5, none⟩) (by first | (simp; done) | (simp; omega)) (.slice (some ⟨w.heap.size + 1 + 1 + 1, 0, none⟩) n n))
  have g0 := kF.cell 0
  have g1 := kF.cell 1
  have g2 := kF.cell 2
  have g3 := kF.cell 3
  have g4 := kF.cell 4
  have g5 := kF.cell 5
  simp at g0 g1 g2 g3 g4 g5
  exact bodyPost_ret (v := .agg #[.string R, .string A, .string P, .string Q, .string B, .slice (some ⟨w.heap.size + 1 + 1 + 1, 0, none⟩) n n]) (by simp [results, Tryd.results14, go_sem, g0, g1, g2, g3, g4, g5]) rfl ⟨_, by omega, rfl, irF, BF⟩
theorem toLine_any (R A P Q B : ByteArray) (s : Option Addr) (n c : Nat) (z : Nat → Int) (hn : n ≤ 1048576) (hc : n ≤ c) (w : World) (hI : IR w s n z) :
    Calls Tryd.prog 14 #[.agg #[.string R, .string A, .string P, .string Q, .string B, .slice s n c]] w fun e w' => ∃ t, e = .returned (.agg #[.string R, .string A, .string P, .string Q, .string B, .slice t n n]) ∧ IR w' t n z ∧ Below w.heap.size w w' :=
  (toLine_new R A P Q B s n c z hn hc w hI).mono fun _ _ ⟨_, _, h1, h2, h3⟩ => ⟨_, h1, h2, h3⟩
end Go.Proofs.YtndlhdmpfnadcaaDoor
