/- The walk of the law FnLineValid. -/
import Derived.Test.YtndlhdmpfnadcaaGs
namespace Go.Proofs.Ytndlhdmpfnadcaa.fnLineValid
open Go.RowKit
open Pl
set_option linter.unusedVariables false
theorem lnV_none (A P Q B : ByteArray) (n : Nat) : lnV ⟨#[]⟩ A P Q B n = false := by
  unfold lnV
  have h : rfN ⟨#[]⟩ = -1 := by
    have e : (⟨#[]⟩ : ByteArray).toList = [] := by rw [ByteArray.toList_eq]
    unfold rfN
    rw [e]
    rfl
  rw [h]
  have : ((-1 : Int) == (n : Int)) = false := by simp
  rw [this]; rfl
theorem lnV_yes {R A P Q B : ByteArray} {n : Nat} (h : lnV R A P Q B n = true) : bOk 729 A.data.toList = true ∧ bOk 729 B.data.toList = true ∧ (whole false 2 200 P.data.toList).isSome = true ∧ (whole false 2 200 Q.data.toList).isSome = true ∧ lnV R B P Q B n = true := by
  unfold lnV wpB at h
  unfold lnV wpB
  simp only [Bool.and_eq_true] at h ⊢
  obtain ⟨h1, h2, h3, h4, h5⟩ := h
  exact ⟨h2, h3, h4, h5, h1, h3, h3, h4, h5⟩
theorem _root_.Go.Proofs.Ytndlhdmpfnadcaa.Sit.take6 {w W : World} {l : List (Addr × Value)} {g : Nat} {t : TypeId} {a b c d e f : Value} (H : Sit w W l) (N : New w W l g t #[a, b, c, d, e, f]) : Sit w W ((⟨g, 0, none⟩, a) :: (⟨g, 1, none⟩, b) :: (⟨g, 2, none⟩, c) :: (⟨g, 3, none⟩, d) :: (⟨g, 4, none⟩, e) :: (⟨g, 5, none⟩, f) :: l) := by
  have hlt := N.blk.lt
  exact (((((H.more (p := ⟨g, 5, none⟩) hlt (N.blk.cell 5)).more (p := ⟨g, 4, none⟩) hlt (N.blk.cell 4)).more (p := ⟨g, 3, none⟩) hlt (N.blk.cell 3)).more (p := ⟨g, 2, none⟩) hlt (N.blk.cell 2)).more (p := ⟨g, 1, none⟩) hlt (N.blk.cell 1)).more (p := ⟨g, 0, none⟩) hlt (N.blk.cell 0)
/-- a line copied into a new block, and one of its fields written anew -/
theorem _root_.Go.Proofs.Ytndlhdmpfnadcaa.Sit.line {w W : World} {l : List (Addr × Value)} {a b c d e f : Value} (H : Sit w W l) (t : TypeId) (i : Nat) (u : Value) : ∃ W2, W2 = (W.alloc (.cells #[a, b, c, d, e, f] t)).setCell ⟨W.heap.size, i, none⟩ u ∧ Sit w W2 l ∧ New w W2 l W.heap.size t (#[a, b, c, d, e, f].setIfInBounds i u) := by
  have N := H.new #[a, b, c, d, e, f] t
  exact ⟨_, rfl, (H.alloc _).set N.ge N.ne i u, N.blk.set_ i u, N.ge, N.ne⟩
theorem cells18 {w W : World} {b1 b3 b4 : Nat} {R A P Q B : ByteArray} {s : Option Addr} {n c : Nat} (H : Sit w W [(⟨b4, 0, none⟩, .string ⟨#[]⟩), (⟨b4, 1, none⟩, .string A), (⟨b4, 2, none⟩, .string P), (⟨b4, 3, none⟩, .string Q), (⟨b4, 4, none⟩, .string B), (⟨b4, 5, none⟩, .slice s n c), (⟨b3, 0, none⟩, .string R), (⟨b3, 1, none⟩, .string B), (⟨b3, 2, none⟩, .string P), (⟨b3, 3, none⟩, .string Q), (⟨b3, 4, none⟩, .string B), (⟨b3, 5, none⟩, .slice s n c), (⟨b1, 0, none⟩, .string R), (⟨b1, 1, none⟩, .string A), (⟨b1, 2, none⟩, .string P), (⟨b1, 3, none⟩, .string Q), (⟨b1, 4, none⟩, .string B), (⟨b1, 5, none⟩, .slice s n c)]) : W.cell? ⟨b4, 0, none⟩ = some (.string ⟨#[]⟩) ∧ W.cell? ⟨b4, 1, none⟩ = some (.string A) ∧ W.cell? ⟨b4, 2, none⟩ = some (.string P) ∧ W.cell? ⟨b4, 3, none⟩ = some (.string Q) ∧ W.cell? ⟨b4, 4, none⟩ = some (.string B) ∧ W.cell? ⟨b4, 5, none⟩ = some (.slice s n c) ∧ W.cell? ⟨b3, 0, none⟩ = some (.string R) ∧ W.cell? ⟨b3, 1, none⟩ = some (.string B) ∧ W.cell? ⟨b3, 2, none⟩ = some (.string P) ∧ W.cell? ⟨b3, 3, none⟩ = some (.string Q) ∧ W.cell? ⟨b3, 4, none⟩ = some (.string B) ∧ W.cell? ⟨b3, 5, none⟩ = some (.slice s n c) ∧ W.cell? ⟨b1, 0, none⟩ = some (.string R) ∧ W.cell? ⟨b1, 1, none⟩ = some (.string A) ∧ W.cell? ⟨b1, 2, none⟩ = some (.string P) ∧ W.cell? ⟨b1, 3, none⟩ = some (.string Q) ∧ W.cell? ⟨b1, 4, none⟩ = some (.string B) ∧ W.cell? ⟨b1, 5, none⟩ = some (.slice s n c) :=
  ⟨H.get (by simp), H.get (by simp), H.get (by simp), H.get (by simp), H.get (by simp), H.get (by simp), H.get (by simp), H.get (by simp), H.get (by simp), H.get (by simp), H.get (by simp), H.get (by simp), H.get (by simp), H.get (by simp), H.get (by simp), H.get (by simp), H.get (by simp), H.get (by simp)⟩
set_option maxRecDepth 100000 in
set_option maxHeartbeats 16000000 in
theorem walk (a0 : Option Addr) (len0 cap0 : Nat) (w : World) (hb0 : Bytes w a0 len0 w.heap.size) (hl0 : len0 ≤ cap0) (hc0 : cap0 ≤ 9223372036854775807) :
    Calls Try.prog 5 #[.slice a0 len0 cap0] w fun e w' => e = .returned (.bool true) ∧ Below w.heap.size w w' := by
  by_cases hbig : 1048576 < len0
  · clear hb0
    go_enter Try.func5, Try.ntmps5
    go_wp2_with fail
    go_ret
    exact ⟨rfl, by first | exact Below.refl _ _ | exact below_n _ _ | exact (below_n _ _).alloc (by simp) _⟩
  have D := Lib.hid (DrawLineValid_any a0 len0 cap0 w (by omega) hl0 hb0)
  clear hb0
  go_enter Try.func5, Try.ntmps5
  go_wp2_with fail
  refine D.out.mono ?_
  rintro e w1 ⟨R, A, P, Q, B, s, n, c, rfl, ⟨zR, zA, zP, zQ, zB⟩, zn, hnc, hb1⟩
  obtain ⟨b1, hb1e⟩ : ∃ b, w1.heap.size = b := ⟨_, rfl⟩
  have H : Sit w (w1.alloc (.cells #[.string R, .string A, .string P, .string Q, .string B, .slice s n c] 35)) [(⟨b1, 0, none⟩, .string R), (⟨b1, 1, none⟩, .string A), (⟨b1, 2, none⟩, .string P), (⟨b1, 3, none⟩, .string Q), (⟨b1, 4, none⟩, .string B), (⟨b1, 5, none⟩, .slice s n c)] := by rw [← hb1e]; exact ((Sit.refl w).call hb1).box6 _
  have LI := Lib.hid (fun w => LineValid_any R A P Q B s n c (by omega) (by omega) (by omega) (by omega) (by omega) w)
  have LS := Lib.hid (fun w => LineValidS_any R A P Q B s n c (by omega) (by omega) (by omega) (by omega) (by omega) w)
  have LX := Lib.hid (fun w => LineValid_any R B P Q B s n c (by omega) (by omega) (by omega) (by omega) (by omega) w)
  have LY := Lib.hid (fun w => LineValid_any ⟨#[]⟩ A P Q B s n c (by omega) (by omega) (by omega) (by omega) (by omega) w)
  rw [lnV_none] at LY
  have VA := Lib.hid (fun w => (RelValid_any A (by omega) w).mono fun _ _ h => (⟨h.1, purB h.2⟩ : _ ∧ _))
  have VB := Lib.hid (fun w => (RelValid_any B (by omega) w).mono fun _ _ h => (⟨h.1, purB h.2⟩ : _ ∧ _))
  have VP := Lib.hid (fun w => ProgramValid_any P (by omega) w)
  have VQ := Lib.hid (fun w => ProgramValid_any Q (by omega) w)
  clear D hb1
  cases hv : lnV R A P Q B n with
  | false =>
    rw [hv] at LI LS
    clear hv VA VB VP VQ LX
    have c0 := H.get (p := ⟨b1, 0, none⟩) (v := .string R) (by simp)
    have c1 := H.get (p := ⟨b1, 1, none⟩) (v := .string A) (by simp)
    have c2 := H.get (p := ⟨b1, 2, none⟩) (v := .string P) (by simp)
    have c3 := H.get (p := ⟨b1, 3, none⟩) (v := .string Q) (by simp)
    have c4 := H.get (p := ⟨b1, 4, none⟩) (v := .string B) (by simp)
    have c5 := H.get (p := ⟨b1, 5, none⟩) (v := .slice s n c) (by simp)
    go_wp2_with fail
    refine (LI.out _).mono ?_
    rintro e w2 ⟨rfl, hb⟩
    replace H := H.call hb
    clear hb c0 c1 c2 c3 c4 c5
    have c0 := H.get (p := ⟨b1, 0, none⟩) (v := .string R) (by simp)
    have c1 := H.get (p := ⟨b1, 1, none⟩) (v := .string A) (by simp)
    have c2 := H.get (p := ⟨b1, 2, none⟩) (v := .string P) (by simp)
    have c3 := H.get (p := ⟨b1, 3, none⟩) (v := .string Q) (by simp)
    have c4 := H.get (p := ⟨b1, 4, none⟩) (v := .string B) (by simp)
    have c5 := H.get (p := ⟨b1, 5, none⟩) (v := .slice s n c) (by simp)
    go_wp2_with fail
    refine (LS.out _).mono ?_
    rintro e w3 ⟨rfl, hb⟩
    replace H := H.call hb
    clear hb c0 c1 c2 c3 c4 c5
    have c0 := H.get (p := ⟨b1, 0, none⟩) (v := .string R) (by simp)
    have c1 := H.get (p := ⟨b1, 1, none⟩) (v := .string A) (by simp)
    have c2 := H.get (p := ⟨b1, 2, none⟩) (v := .string P) (by simp)
    have c3 := H.get (p := ⟨b1, 3, none⟩) (v := .string Q) (by simp)
    have c4 := H.get (p := ⟨b1, 4, none⟩) (v := .string B) (by simp)
    have c5 := H.get (p := ⟨b1, 5, none⟩) (v := .slice s n c) (by simp)
    obtain ⟨b3, hb3⟩ : ∃ b, w3.heap.size = b := ⟨_, rfl⟩
    obtain ⟨W2, hw2, HS2, N2⟩ := H.line (a := .string R) (b := .string A) (c := .string P) (d := .string Q) (e := .string B) (f := .slice s n c) 35 1 (.string B)
    have HA := H.alloc (.cells #[.string R, .string A, .string P, .string Q, .string B, .slice s n c] 35)
    have NA := H.new #[.string R, .string A, .string P, .string Q, .string B, .slice s n c] 35
    rw [hb3] at hw2 N2 NA
    have e4 := HA.get (p := ⟨b1, 4, none⟩) (v := .string B) (by simp)
    have e1 : (w3.alloc (.cells #[.string R, .string A, .string P, .string Q, .string B, .slice s n c] 35)).cell? ⟨b3, 1, none⟩ = some (.string A) := NA.blk.cell 1
    have f1 := NA.blk.frozen 1
    have H2 : Sit w W2 [(⟨b3, 0, none⟩, .string R), (⟨b3, 1, none⟩, .string B), (⟨b3, 2, none⟩, .string P), (⟨b3, 3, none⟩, .string Q), (⟨b3, 4, none⟩, .string B), (⟨b3, 5, none⟩, .slice s n c), (⟨b1, 0, none⟩, .string R), (⟨b1, 1, none⟩, .string A), (⟨b1, 2, none⟩, .string P), (⟨b1, 3, none⟩, .string Q), (⟨b1, 4, none⟩, .string B), (⟨b1, 5, none⟩, .slice s n c)] := HS2.take6 N2
    obtain ⟨b4, hb4⟩ : ∃ b, W2.heap.size = b := ⟨_, rfl⟩
    obtain ⟨W4, hw4, HS4, N4⟩ := H2.line (a := .string R) (b := .string A) (c := .string P) (d := .string Q) (e := .string B) (f := .slice s n c) 35 0 (.string ⟨#[]⟩)
    have NB := H2.new #[.string R, .string A, .string P, .string Q, .string B, .slice s n c] 35
    rw [hb4] at hw4 N4 NB
    have g0 : (W2.alloc (.cells #[.string R, .string A, .string P, .string Q, .string B, .slice s n c] 35)).cell? ⟨b4, 0, none⟩ = some (.string R) := NB.blk.cell 0
    have k0 := NB.blk.frozen 0
    have H4 : Sit w W4 [(⟨b4, 0, none⟩, .string ⟨#[]⟩), (⟨b4, 1, none⟩, .string A), (⟨b4, 2, none⟩, .string P), (⟨b4, 3, none⟩, .string Q), (⟨b4, 4, none⟩, .string B), (⟨b4, 5, none⟩, .slice s n c), (⟨b3, 0, none⟩, .string R), (⟨b3, 1, none⟩, .string B), (⟨b3, 2, none⟩, .string P), (⟨b3, 3, none⟩, .string Q), (⟨b3, 4, none⟩, .string B), (⟨b3, 5, none⟩, .slice s n c), (⟨b1, 0, none⟩, .string R), (⟨b1, 1, none⟩, .string A), (⟨b1, 2, none⟩, .string P), (⟨b1, 3, none⟩, .string Q), (⟨b1, 4, none⟩, .string B), (⟨b1, 5, none⟩, .slice s n c)] := HS4.take6 N4
    replace hw2 := hw2.symm
    replace hw4 := hw4.symm
    have d0 := H2.get (p := ⟨b1, 0, none⟩) (v := .string R) (by simp)
    have d1 := H2.get (p := ⟨b1, 1, none⟩) (v := .string A) (by simp)
    have d2 := H2.get (p := ⟨b1, 2, none⟩) (v := .string P) (by simp)
    have d3 := H2.get (p := ⟨b1, 3, none⟩) (v := .string Q) (by simp)
    have d4 := H2.get (p := ⟨b1, 4, none⟩) (v := .string B) (by simp)
    have d5 := H2.get (p := ⟨b1, 5, none⟩) (v := .slice s n c) (by simp)
    clear HS2 N2 HA NA HS4 N4 NB H H2
    have H := H4
    clear H4
    obtain ⟨x0, x1, x2, x3, x4, x5, x6, x7, x8, x9, x10, x11, x12, x13, x14, x15, x16, x17⟩ := cells18 H
    go_wp2_with fail
    clear hw2 hw4 e4 e1 f1 g0 k0 hb3 hb4 c0 c1 c2 c3 c4 c5 d0 d1 d2 d3 d4 d5
    refine (LY.out _).mono ?_
    rintro e v0 ⟨rfl, hb⟩
    replace H := H.call hb
    clear hb x0 x1 x2 x3 x4 x5 x6 x7 x8 x9 x10 x11 x12 x13 x14 x15 x16 x17
    obtain ⟨x0, x1, x2, x3, x4, x5, x6, x7, x8, x9, x10, x11, x12, x13, x14, x15, x16, x17⟩ := cells18 H
    go_wp2_with fail
    go_ret
    exact ⟨ret_bool (by first | rfl | simp), H.below⟩
  | true =>
    rw [hv] at LI LS
    obtain ⟨ha, hb, hp, hq, hx⟩ := lnV_yes hv
    rw [ha] at VA
    rw [hb] at VB
    rw [hp] at VP
    rw [hq] at VQ
    rw [hx] at LX
    clear ha hb hp hq hx hv
    have c0 := H.get (p := ⟨b1, 0, none⟩) (v := .string R) (by simp)
    have c1 := H.get (p := ⟨b1, 1, none⟩) (v := .string A) (by simp)
    have c2 := H.get (p := ⟨b1, 2, none⟩) (v := .string P) (by simp)
    have c3 := H.get (p := ⟨b1, 3, none⟩) (v := .string Q) (by simp)
    have c4 := H.get (p := ⟨b1, 4, none⟩) (v := .string B) (by simp)
    have c5 := H.get (p := ⟨b1, 5, none⟩) (v := .slice s n c) (by simp)
    go_wp2_with fail
    refine (LI.out _).mono ?_
    rintro e w2 ⟨rfl, hb⟩
    replace H := H.call hb
    clear hb c0 c1 c2 c3 c4 c5
    have c0 := H.get (p := ⟨b1, 0, none⟩) (v := .string R) (by simp)
    have c1 := H.get (p := ⟨b1, 1, none⟩) (v := .string A) (by simp)
    have c2 := H.get (p := ⟨b1, 2, none⟩) (v := .string P) (by simp)
    have c3 := H.get (p := ⟨b1, 3, none⟩) (v := .string Q) (by simp)
    have c4 := H.get (p := ⟨b1, 4, none⟩) (v := .string B) (by simp)
    have c5 := H.get (p := ⟨b1, 5, none⟩) (v := .slice s n c) (by simp)
    go_wp2_with fail
    refine (LS.out _).mono ?_
    rintro e w3 ⟨rfl, hb⟩
    replace H := H.call hb
    clear hb c0 c1 c2 c3 c4 c5
    have c0 := H.get (p := ⟨b1, 0, none⟩) (v := .string R) (by simp)
    have c1 := H.get (p := ⟨b1, 1, none⟩) (v := .string A) (by simp)
    have c2 := H.get (p := ⟨b1, 2, none⟩) (v := .string P) (by simp)
    have c3 := H.get (p := ⟨b1, 3, none⟩) (v := .string Q) (by simp)
    have c4 := H.get (p := ⟨b1, 4, none⟩) (v := .string B) (by simp)
    have c5 := H.get (p := ⟨b1, 5, none⟩) (v := .slice s n c) (by simp)
    obtain ⟨b3, hb3⟩ : ∃ b, w3.heap.size = b := ⟨_, rfl⟩
    obtain ⟨W2, hw2, HS2, N2⟩ := H.line (a := .string R) (b := .string A) (c := .string P) (d := .string Q) (e := .string B) (f := .slice s n c) 35 1 (.string B)
    have HA := H.alloc (.cells #[.string R, .string A, .string P, .string Q, .string B, .slice s n c] 35)
    have NA := H.new #[.string R, .string A, .string P, .string Q, .string B, .slice s n c] 35
    rw [hb3] at hw2 N2 NA
    have e4 := HA.get (p := ⟨b1, 4, none⟩) (v := .string B) (by simp)
    have e1 : (w3.alloc (.cells #[.string R, .string A, .string P, .string Q, .string B, .slice s n c] 35)).cell? ⟨b3, 1, none⟩ = some (.string A) := NA.blk.cell 1
    have f1 := NA.blk.frozen 1
    have H2 : Sit w W2 [(⟨b3, 0, none⟩, .string R), (⟨b3, 1, none⟩, .string B), (⟨b3, 2, none⟩, .string P), (⟨b3, 3, none⟩, .string Q), (⟨b3, 4, none⟩, .string B), (⟨b3, 5, none⟩, .slice s n c), (⟨b1, 0, none⟩, .string R), (⟨b1, 1, none⟩, .string A), (⟨b1, 2, none⟩, .string P), (⟨b1, 3, none⟩, .string Q), (⟨b1, 4, none⟩, .string B), (⟨b1, 5, none⟩, .slice s n c)] := HS2.take6 N2
    obtain ⟨b4, hb4⟩ : ∃ b, W2.heap.size = b := ⟨_, rfl⟩
    obtain ⟨W4, hw4, HS4, N4⟩ := H2.line (a := .string R) (b := .string A) (c := .string P) (d := .string Q) (e := .string B) (f := .slice s n c) 35 0 (.string ⟨#[]⟩)
    have NB := H2.new #[.string R, .string A, .string P, .string Q, .string B, .slice s n c] 35
    rw [hb4] at hw4 N4 NB
    have g0 : (W2.alloc (.cells #[.string R, .string A, .string P, .string Q, .string B, .slice s n c] 35)).cell? ⟨b4, 0, none⟩ = some (.string R) := NB.blk.cell 0
    have k0 := NB.blk.frozen 0
    have H4 : Sit w W4 [(⟨b4, 0, none⟩, .string ⟨#[]⟩), (⟨b4, 1, none⟩, .string A), (⟨b4, 2, none⟩, .string P), (⟨b4, 3, none⟩, .string Q), (⟨b4, 4, none⟩, .string B), (⟨b4, 5, none⟩, .slice s n c), (⟨b3, 0, none⟩, .string R), (⟨b3, 1, none⟩, .string B), (⟨b3, 2, none⟩, .string P), (⟨b3, 3, none⟩, .string Q), (⟨b3, 4, none⟩, .string B), (⟨b3, 5, none⟩, .slice s n c), (⟨b1, 0, none⟩, .string R), (⟨b1, 1, none⟩, .string A), (⟨b1, 2, none⟩, .string P), (⟨b1, 3, none⟩, .string Q), (⟨b1, 4, none⟩, .string B), (⟨b1, 5, none⟩, .slice s n c)] := HS4.take6 N4
    replace hw2 := hw2.symm
    replace hw4 := hw4.symm
    have d0 := H2.get (p := ⟨b1, 0, none⟩) (v := .string R) (by simp)
    have d1 := H2.get (p := ⟨b1, 1, none⟩) (v := .string A) (by simp)
    have d2 := H2.get (p := ⟨b1, 2, none⟩) (v := .string P) (by simp)
    have d3 := H2.get (p := ⟨b1, 3, none⟩) (v := .string Q) (by simp)
    have d4 := H2.get (p := ⟨b1, 4, none⟩) (v := .string B) (by simp)
    have d5 := H2.get (p := ⟨b1, 5, none⟩) (v := .slice s n c) (by simp)
    clear HS2 N2 HA NA HS4 N4 NB H H2
    have H := H4
    clear H4
    obtain ⟨x0, x1, x2, x3, x4, x5, x6, x7, x8, x9, x10, x11, x12, x13, x14, x15, x16, x17⟩ := cells18 H
    go_wp2_with fail
    clear hw2 hw4 e4 e1 f1 g0 k0 hb3 hb4 c0 c1 c2 c3 c4 c5 d0 d1 d2 d3 d4 d5
    refine (VA.out _).mono ?_
    rintro e v0 ⟨rfl, hb⟩
    replace H := H.call hb
    clear hb x0 x1 x2 x3 x4 x5 x6 x7 x8 x9 x10 x11 x12 x13 x14 x15 x16 x17
    obtain ⟨x0, x1, x2, x3, x4, x5, x6, x7, x8, x9, x10, x11, x12, x13, x14, x15, x16, x17⟩ := cells18 H
    go_wp2_with fail
    refine (VB.out _).mono ?_
    rintro e v1 ⟨rfl, hb⟩
    replace H := H.call hb
    clear hb x0 x1 x2 x3 x4 x5 x6 x7 x8 x9 x10 x11 x12 x13 x14 x15 x16 x17
    obtain ⟨x0, x1, x2, x3, x4, x5, x6, x7, x8, x9, x10, x11, x12, x13, x14, x15, x16, x17⟩ := cells18 H
    go_wp2_with fail
    refine (VP.out _).mono ?_
    rintro e v2 ⟨rfl, hb⟩
    replace H := H.call hb
    clear hb x0 x1 x2 x3 x4 x5 x6 x7 x8 x9 x10 x11 x12 x13 x14 x15 x16 x17
    obtain ⟨x0, x1, x2, x3, x4, x5, x6, x7, x8, x9, x10, x11, x12, x13, x14, x15, x16, x17⟩ := cells18 H
    go_wp2_with fail
    refine (VQ.out _).mono ?_
    rintro e v3 ⟨rfl, hb⟩
    replace H := H.call hb
    clear hb x0 x1 x2 x3 x4 x5 x6 x7 x8 x9 x10 x11 x12 x13 x14 x15 x16 x17
    obtain ⟨x0, x1, x2, x3, x4, x5, x6, x7, x8, x9, x10, x11, x12, x13, x14, x15, x16, x17⟩ := cells18 H
    go_wp2_with fail
    refine (LX.out _).mono ?_
    rintro e v4 ⟨rfl, hb⟩
    replace H := H.call hb
    clear hb x0 x1 x2 x3 x4 x5 x6 x7 x8 x9 x10 x11 x12 x13 x14 x15 x16 x17
    obtain ⟨x0, x1, x2, x3, x4, x5, x6, x7, x8, x9, x10, x11, x12, x13, x14, x15, x16, x17⟩ := cells18 H
    go_wp2_with fail
    refine (LY.out _).mono ?_
    rintro e v5 ⟨rfl, hb⟩
    replace H := H.call hb
    clear hb x0 x1 x2 x3 x4 x5 x6 x7 x8 x9 x10 x11 x12 x13 x14 x15 x16 x17
    obtain ⟨x0, x1, x2, x3, x4, x5, x6, x7, x8, x9, x10, x11, x12, x13, x14, x15, x16, x17⟩ := cells18 H
    go_wp2_with fail
    go_ret
    exact ⟨ret_bool (by first | rfl | simp), H.below⟩

end Go.Proofs.Ytndlhdmpfnadcaa.fnLineValid
