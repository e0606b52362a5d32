/- Lines: LineValid. -/
import Derived.Test.YtndlhdmpfnadcaaLn
import Derived.Test.YtndlhdmpfnadcaaRx
import Derived.Test.YtndlhdmpfnadcaaRz
import Derived.Test.YtndlhdmpfnadcaaHd
import Derived.Test.YtndlhdmpfnadcaaPar
namespace Go.Proofs.Ytndlhdmpfnadcaa
open Go.RowKit
open Pl
set_option linter.unusedVariables false

theorem purB {w w' : World} (h : w = w') : Below w.heap.size w w' := by subst h; exact Below.refl _ _
theorem drwB {w w' : World} (h : ∃ m, w' = w.drewN m) : Below w.heap.size w w' := by obtain ⟨m, rfl⟩ := h; exact below_drewN _ _ _
theorem Sit.box6 {w W : World} {l : List (Addr × Value)} {a b c d e f : Value} (H : Sit w W l) (t : TypeId) : Sit w (W.alloc (.cells #[a, b, c, d, e, f] t)) ((⟨W.heap.size, 0, none⟩, a) :: (⟨W.heap.size, 1, none⟩, b) :: (⟨W.heap.size, 2, none⟩, c) :: (⟨W.heap.size, 3, none⟩, d) :: (⟨W.heap.size, 4, none⟩, e) :: (⟨W.heap.size, 5, none⟩, f) :: l) := by
  have N := H.new #[a, b, c, d, e, f] t
  have hlt := N.blk.lt
  exact ((((((H.alloc _).more (p := ⟨_, 5, none⟩) hlt (N.blk.cell 5)).more (p := ⟨_, 4, none⟩) hlt (N.blk.cell 4)).more (p := ⟨_, 3, none⟩) hlt (N.blk.cell 3)).more (p := ⟨_, 2, none⟩) hlt (N.blk.cell 2)).more (p := ⟨_, 1, none⟩) hlt (N.blk.cell 1)).more (p := ⟨_, 0, none⟩) hlt (N.blk.cell 0)
def wpB (P : ByteArray) : Bool := (whole false 2 200 P.data.toList).isSome
/-- a line's validity -/
def lnV (R A P Q B : ByteArray) (n : Nat) : Bool := rfN R == (n : Int) && (bOk 729 A.data.toList && (bOk 729 B.data.toList && (wpB P && wpB Q)))
set_option maxRecDepth 100000 in
set_option maxHeartbeats 16000000 in
theorem LineValidS_any (R A P Q B : ByteArray) (s : Option Addr) (n c : Nat) (hA : A.size ≤ 1000000000000) (hP : P.size ≤ 1000000000000) (hQ : Q.size ≤ 1000000000000) (hB : B.size ≤ 1000000000000) (hn : n ≤ 1000000000000) (w : World) :
    Calls Try.prog 14 #[.agg #[.string R, .string A, .string P, .string Q, .string B, .slice s n c]] w fun e w' => (e = .returned (.bool (lnV R A P Q B n)) ∧ Below w.heap.size w w') := by
  have RF := Lib.hid (fun w => (l9Refs_any R w).mono fun _ _ h => (⟨h.1, purB h.2⟩ : _ ∧ _))
  have VA := Lib.hid (fun w => (RelValidS_any A hA w).mono fun _ _ h => (⟨h.1, purB h.2⟩ : _ ∧ _))
  have VB := Lib.hid (fun w => (RelValidS_any B hB w).mono fun _ _ h => (⟨h.1, purB h.2⟩ : _ ∧ _))
  have VP := Lib.hid (fun w => (ProgramValidS_any P w hP).mono fun _ _ h => (⟨h.1, drwB h.2⟩ : _ ∧ _))
  have VQ := Lib.hid (fun w => (ProgramValidS_any Q w hQ).mono fun _ _ h => (⟨h.1, drwB h.2⟩ : _ ∧ _))
  have hb := rfN_b R
  unfold lnV
  generalize rfN R = v at *
  change Hid (∀ w, Calls Try.prog _ #[.string P] w fun e w' => e = .returned (.bool (wpB P)) ∧ _) at VP
  change Hid (∀ w, Calls Try.prog _ #[.string Q] w fun e w' => e = .returned (.bool (wpB Q)) ∧ _) at VQ
  generalize wpB P = bP at *
  generalize wpB Q = bQ at *
  generalize bOk 729 A.data.toList = bA at *
  generalize bOk 729 B.data.toList = bB at *
  have H0 := (Sit.refl w).box6 (a := .string R) (b := .string A) (c := .string P) (d := .string Q) (e := .string B) (f := .slice s n c) 35
  have hbig : n ≤ 9223372036854775807 := by omega
  cases hq : (v == (n : Int))
  · simp only [Bool.false_and]
    have H := H0
    clear H0
    obtain ⟨d0, d1, d2, d3, d4, d5⟩ := H.c6
    go_enter Try.func14, Try.ntmps14
    go_wp2_with fail
    refine region_class (fun W => Sit w W [(⟨w.heap.size, 0, none⟩, .string R), (⟨w.heap.size, 1, none⟩, .string A), (⟨w.heap.size, 2, none⟩, .string P), (⟨w.heap.size, 3, none⟩, .string Q), (⟨w.heap.size, 4, none⟩, .string B), (⟨w.heap.size, 5, none⟩, .slice s n c)]) (by kernel_rfl) (by kernel_rfl) H.drew ?_
    clear d0 d1 d2 d3 d4 d5
    repeat (first | go_big_quiet_skip | (go_big_quiet_want; first | (apply quiet_value; (· (intro W hW; obtain ⟨d0, d1, d2, d3, d4, d5⟩ := hW.c6; go_simp; exact rfl)); simp only [Act.put, List.setIfInBounds_toArray, List.set_cons_zero, List.set_cons_succ]; go_big_quiet_on) | (apply quiet_call; (· (intro W hW; go_simp; exact ⟨rfl, rfl⟩)); (· (intro W hW; first | with_reducible exact (RF.out W).mono fun _ _ h => ⟨h.1, hW.call h.2⟩ | with_reducible exact (VA.out W).mono fun _ _ h => ⟨h.1, hW.call h.2⟩ | with_reducible exact (VB.out W).mono fun _ _ h => ⟨h.1, hW.call h.2⟩ | with_reducible exact (VP.out W).mono fun _ _ h => ⟨h.1, hW.call h.2⟩ | with_reducible exact (VQ.out W).mono fun _ _ h => ⟨h.1, hW.call h.2⟩)); simp only [Act.put, List.setIfInBounds_toArray, List.set_cons_zero, List.set_cons_succ]; go_big_quiet_on)))
    refine wpQuiet_nil ?_
    intro wq hq
    clear H
    have H := hq
    clear hq
    go_wp2_with fail
    go_ret
    exact ⟨rfl, H.below⟩
  simp only [Bool.true_and]
  cases bA
  · simp only [Bool.false_and]
    have H := H0
    clear H0
    obtain ⟨d0, d1, d2, d3, d4, d5⟩ := H.c6
    go_enter Try.func14, Try.ntmps14
    go_wp2_with fail
    refine region_class (fun W => Sit w W [(⟨w.heap.size, 0, none⟩, .string R), (⟨w.heap.size, 1, none⟩, .string A), (⟨w.heap.size, 2, none⟩, .string P), (⟨w.heap.size, 3, none⟩, .string Q), (⟨w.heap.size, 4, none⟩, .string B), (⟨w.heap.size, 5, none⟩, .slice s n c)]) (by kernel_rfl) (by kernel_rfl) H.drew ?_
    clear d0 d1 d2 d3 d4 d5
    repeat (first | go_big_quiet_skip | (go_big_quiet_want; first | (apply quiet_value; (· (intro W hW; obtain ⟨d0, d1, d2, d3, d4, d5⟩ := hW.c6; go_simp; exact rfl)); simp only [Act.put, List.setIfInBounds_toArray, List.set_cons_zero, List.set_cons_succ]; go_big_quiet_on) | (apply quiet_call; (· (intro W hW; go_simp; exact ⟨rfl, rfl⟩)); (· (intro W hW; first | with_reducible exact (RF.out W).mono fun _ _ h => ⟨h.1, hW.call h.2⟩ | with_reducible exact (VA.out W).mono fun _ _ h => ⟨h.1, hW.call h.2⟩ | with_reducible exact (VB.out W).mono fun _ _ h => ⟨h.1, hW.call h.2⟩ | with_reducible exact (VP.out W).mono fun _ _ h => ⟨h.1, hW.call h.2⟩ | with_reducible exact (VQ.out W).mono fun _ _ h => ⟨h.1, hW.call h.2⟩)); simp only [Act.put, List.setIfInBounds_toArray, List.set_cons_zero, List.set_cons_succ]; go_big_quiet_on)))
    refine wpQuiet_nil ?_
    intro wq hq
    clear H
    have H := hq
    clear hq
    go_wp2_with fail
    go_ret
    exact ⟨rfl, H.below⟩
  simp only [Bool.true_and]
  cases bB
  · simp only [Bool.false_and]
    have H := H0
    clear H0
    obtain ⟨d0, d1, d2, d3, d4, d5⟩ := H.c6
    go_enter Try.func14, Try.ntmps14
    go_wp2_with fail
    refine region_class (fun W => Sit w W [(⟨w.heap.size, 0, none⟩, .string R), (⟨w.heap.size, 1, none⟩, .string A), (⟨w.heap.size, 2, none⟩, .string P), (⟨w.heap.size, 3, none⟩, .string Q), (⟨w.heap.size, 4, none⟩, .string B), (⟨w.heap.size, 5, none⟩, .slice s n c)]) (by kernel_rfl) (by kernel_rfl) H.drew ?_
    clear d0 d1 d2 d3 d4 d5
    repeat (first | go_big_quiet_skip | (go_big_quiet_want; first | (apply quiet_value; (· (intro W hW; obtain ⟨d0, d1, d2, d3, d4, d5⟩ := hW.c6; go_simp; exact rfl)); simp only [Act.put, List.setIfInBounds_toArray, List.set_cons_zero, List.set_cons_succ]; go_big_quiet_on) | (apply quiet_call; (· (intro W hW; go_simp; exact ⟨rfl, rfl⟩)); (· (intro W hW; first | with_reducible exact (RF.out W).mono fun _ _ h => ⟨h.1, hW.call h.2⟩ | with_reducible exact (VA.out W).mono fun _ _ h => ⟨h.1, hW.call h.2⟩ | with_reducible exact (VB.out W).mono fun _ _ h => ⟨h.1, hW.call h.2⟩ | with_reducible exact (VP.out W).mono fun _ _ h => ⟨h.1, hW.call h.2⟩ | with_reducible exact (VQ.out W).mono fun _ _ h => ⟨h.1, hW.call h.2⟩)); simp only [Act.put, List.setIfInBounds_toArray, List.set_cons_zero, List.set_cons_succ]; go_big_quiet_on)))
    refine wpQuiet_nil ?_
    intro wq hq
    clear H
    have H := hq
    clear hq
    go_wp2_with fail
    go_ret
    exact ⟨rfl, H.below⟩
  simp only [Bool.true_and]
  cases bP
  · simp only [Bool.false_and]
    have H := H0
    clear H0
    obtain ⟨d0, d1, d2, d3, d4, d5⟩ := H.c6
    go_enter Try.func14, Try.ntmps14
    go_wp2_with fail
    refine region_class (fun W => Sit w W [(⟨w.heap.size, 0, none⟩, .string R), (⟨w.heap.size, 1, none⟩, .string A), (⟨w.heap.size, 2, none⟩, .string P), (⟨w.heap.size, 3, none⟩, .string Q), (⟨w.heap.size, 4, none⟩, .string B), (⟨w.heap.size, 5, none⟩, .slice s n c)]) (by kernel_rfl) (by kernel_rfl) H.drew ?_
    clear d0 d1 d2 d3 d4 d5
    repeat (first | go_big_quiet_skip | (go_big_quiet_want; first | (apply quiet_value; (· (intro W hW; obtain ⟨d0, d1, d2, d3, d4, d5⟩ := hW.c6; go_simp; exact rfl)); simp only [Act.put, List.setIfInBounds_toArray, List.set_cons_zero, List.set_cons_succ]; go_big_quiet_on) | (apply quiet_call; (· (intro W hW; go_simp; exact ⟨rfl, rfl⟩)); (· (intro W hW; first | with_reducible exact (RF.out W).mono fun _ _ h => ⟨h.1, hW.call h.2⟩ | with_reducible exact (VA.out W).mono fun _ _ h => ⟨h.1, hW.call h.2⟩ | with_reducible exact (VB.out W).mono fun _ _ h => ⟨h.1, hW.call h.2⟩ | with_reducible exact (VP.out W).mono fun _ _ h => ⟨h.1, hW.call h.2⟩ | with_reducible exact (VQ.out W).mono fun _ _ h => ⟨h.1, hW.call h.2⟩)); simp only [Act.put, List.setIfInBounds_toArray, List.set_cons_zero, List.set_cons_succ]; go_big_quiet_on)))
    refine wpQuiet_nil ?_
    intro wq hq
    clear H
    have H := hq
    clear hq
    go_wp2_with fail
    go_ret
    exact ⟨rfl, H.below⟩
  simp only [Bool.true_and]
  have H := H0
  clear H0
  obtain ⟨d0, d1, d2, d3, d4, d5⟩ := H.c6
  go_enter Try.func14, Try.ntmps14
  go_wp2_with fail
  refine region_class (fun W => Sit w W [(⟨w.heap.size, 0, none⟩, .string R), (⟨w.heap.size, 1, none⟩, .string A), (⟨w.heap.size, 2, none⟩, .string P), (⟨w.heap.size, 3, none⟩, .string Q), (⟨w.heap.size, 4, none⟩, .string B), (⟨w.heap.size, 5, none⟩, .slice s n c)]) (by kernel_rfl) (by kernel_rfl) H.drew ?_
  clear d0 d1 d2 d3 d4 d5
  repeat (first | go_big_quiet_skip | (go_big_quiet_want; first | (apply quiet_value; (· (intro W hW; obtain ⟨d0, d1, d2, d3, d4, d5⟩ := hW.c6; go_simp; exact rfl)); simp only [Act.put, List.setIfInBounds_toArray, List.set_cons_zero, List.set_cons_succ]; go_big_quiet_on) | (apply quiet_call; (· (intro W hW; go_simp; exact ⟨rfl, rfl⟩)); (· (intro W hW; first | with_reducible exact (RF.out W).mono fun _ _ h => ⟨h.1, hW.call h.2⟩ | with_reducible exact (VA.out W).mono fun _ _ h => ⟨h.1, hW.call h.2⟩ | with_reducible exact (VB.out W).mono fun _ _ h => ⟨h.1, hW.call h.2⟩ | with_reducible exact (VP.out W).mono fun _ _ h => ⟨h.1, hW.call h.2⟩ | with_reducible exact (VQ.out W).mono fun _ _ h => ⟨h.1, hW.call h.2⟩)); simp only [Act.put, List.setIfInBounds_toArray, List.set_cons_zero, List.set_cons_succ]; go_big_quiet_on)))
  refine wpQuiet_nil ?_
  intro wq hq
  clear H
  have H := hq
  clear hq
  go_wp2_with fail
  go_ret
  exact ⟨rfl, H.below⟩
set_option maxRecDepth 100000 in
set_option maxHeartbeats 16000000 in
theorem LineValid_any (R A P Q B : ByteArray) (s : Option Addr) (n c : Nat) (hA : A.size ≤ 1000000000000) (hP : P.size ≤ 1000000000000) (hQ : Q.size ≤ 1000000000000) (hB : B.size ≤ 1000000000000) (hn : n ≤ 1000000000000) (w : World) :
    Calls Try.prog 13 #[.agg #[.string R, .string A, .string P, .string Q, .string B, .slice s n c]] w fun e w' => (e = .returned (.bool (lnV R A P Q B n)) ∧ Below w.heap.size w w') := by
  have RF := Lib.hid (fun w => (refsOf_any R w).mono fun _ _ h => (⟨h.1, purB h.2⟩ : _ ∧ _))
  have VA := Lib.hid (fun w => (RelValid_any A hA w).mono fun _ _ h => (⟨h.1, purB h.2⟩ : _ ∧ _))
  have VB := Lib.hid (fun w => (RelValid_any B hB w).mono fun _ _ h => (⟨h.1, purB h.2⟩ : _ ∧ _))
  have VP := Lib.hid (fun w => (ProgramValid_any P hP w).mono fun _ _ h => (⟨h.1, h.2⟩ : _ ∧ _))
  have VQ := Lib.hid (fun w => (ProgramValid_any Q hQ w).mono fun _ _ h => (⟨h.1, h.2⟩ : _ ∧ _))
  have hb := rfN_b R
  unfold lnV
  generalize rfN R = v at *
  change Hid (∀ w, Calls Try.prog _ #[.string P] w fun e w' => e = .returned (.bool (wpB P)) ∧ _) at VP
  change Hid (∀ w, Calls Try.prog _ #[.string Q] w fun e w' => e = .returned (.bool (wpB Q)) ∧ _) at VQ
  generalize wpB P = bP at *
  generalize wpB Q = bQ at *
  generalize bOk 729 A.data.toList = bA at *
  generalize bOk 729 B.data.toList = bB at *
  have H0 := (Sit.refl w).box6 (a := .string R) (b := .string A) (c := .string P) (d := .string Q) (e := .string B) (f := .slice s n c) 35
  by_cases h0 : 0 ≤ v
  · have g0 : decide (0 ≤ v) = true := decide_eq_true h0
    cases hq : (v == (n : Int))
    · have hq2 : ((n : Int) == v) = false := by rw [Bool.beq_comm]; exact hq
      simp only [Bool.false_and]
      have H := Lib.hid H0
      clear H0
      obtain ⟨d0, d1, d2, d3, d4, d5⟩ := H.out.c6
      go_enter Try.func13, Try.ntmps13
      go_wp2_with fail
      refine (RF.out _).mono ?_
      rintro e w1 ⟨rfl, hb⟩
      replace H := Lib.hid (H.out.call hb)
      clear hb d0 d1 d2 d3 d4 d5
      obtain ⟨d0, d1, d2, d3, d4, d5⟩ := H.out.c6
      go_wp2_with fail
      go_ret
      exact ⟨rfl, H.out.below⟩
    have hq2 : ((n : Int) == v) = true := by rw [Bool.beq_comm]; exact hq
    simp only [Bool.true_and]
    cases bA
    · simp only [Bool.false_and]
      have H := Lib.hid H0
      clear H0
      obtain ⟨d0, d1, d2, d3, d4, d5⟩ := H.out.c6
      go_enter Try.func13, Try.ntmps13
      go_wp2_with fail
      refine (RF.out _).mono ?_
      rintro e w1 ⟨rfl, hb⟩
      replace H := Lib.hid (H.out.call hb)
      clear hb d0 d1 d2 d3 d4 d5
      obtain ⟨d0, d1, d2, d3, d4, d5⟩ := H.out.c6
      go_wp2_with fail
      refine (VA.out _).mono ?_
      rintro e w2 ⟨rfl, hb⟩
      replace H := Lib.hid (H.out.call hb)
      clear hb d0 d1 d2 d3 d4 d5
      obtain ⟨d0, d1, d2, d3, d4, d5⟩ := H.out.c6
      go_wp2_with fail
      go_ret
      exact ⟨rfl, H.out.below⟩
    simp only [Bool.true_and]
    cases bB
    · simp only [Bool.false_and]
      have H := Lib.hid H0
      clear H0
      obtain ⟨d0, d1, d2, d3, d4, d5⟩ := H.out.c6
      go_enter Try.func13, Try.ntmps13
      go_wp2_with fail
      refine (RF.out _).mono ?_
      rintro e w1 ⟨rfl, hb⟩
      replace H := Lib.hid (H.out.call hb)
      clear hb d0 d1 d2 d3 d4 d5
      obtain ⟨d0, d1, d2, d3, d4, d5⟩ := H.out.c6
      go_wp2_with fail
      refine (VA.out _).mono ?_
      rintro e w2 ⟨rfl, hb⟩
      replace H := Lib.hid (H.out.call hb)
      clear hb d0 d1 d2 d3 d4 d5
      obtain ⟨d0, d1, d2, d3, d4, d5⟩ := H.out.c6
      go_wp2_with fail
      refine (VB.out _).mono ?_
      rintro e w3 ⟨rfl, hb⟩
      replace H := Lib.hid (H.out.call hb)
      clear hb d0 d1 d2 d3 d4 d5
      obtain ⟨d0, d1, d2, d3, d4, d5⟩ := H.out.c6
      go_wp2_with fail
      go_ret
      exact ⟨rfl, H.out.below⟩
    simp only [Bool.true_and]
    cases bP
    · simp only [Bool.false_and]
      have H := Lib.hid H0
      clear H0
      obtain ⟨d0, d1, d2, d3, d4, d5⟩ := H.out.c6
      go_enter Try.func13, Try.ntmps13
      go_wp2_with fail
      refine (RF.out _).mono ?_
      rintro e w1 ⟨rfl, hb⟩
      replace H := Lib.hid (H.out.call hb)
      clear hb d0 d1 d2 d3 d4 d5
      obtain ⟨d0, d1, d2, d3, d4, d5⟩ := H.out.c6
      go_wp2_with fail
      refine (VA.out _).mono ?_
      rintro e w2 ⟨rfl, hb⟩
      replace H := Lib.hid (H.out.call hb)
      clear hb d0 d1 d2 d3 d4 d5
      obtain ⟨d0, d1, d2, d3, d4, d5⟩ := H.out.c6
      go_wp2_with fail
      refine (VB.out _).mono ?_
      rintro e w3 ⟨rfl, hb⟩
      replace H := Lib.hid (H.out.call hb)
      clear hb d0 d1 d2 d3 d4 d5
      obtain ⟨d0, d1, d2, d3, d4, d5⟩ := H.out.c6
      go_wp2_with fail
      refine (VP.out _).mono ?_
      rintro e w4 ⟨rfl, hb⟩
      replace H := Lib.hid (H.out.call hb)
      clear hb d0 d1 d2 d3 d4 d5
      obtain ⟨d0, d1, d2, d3, d4, d5⟩ := H.out.c6
      go_wp2_with fail
      go_ret
      exact ⟨rfl, H.out.below⟩
    simp only [Bool.true_and]
    have H := Lib.hid H0
    clear H0
    obtain ⟨d0, d1, d2, d3, d4, d5⟩ := H.out.c6
    go_enter Try.func13, Try.ntmps13
    go_wp2_with fail
    refine (RF.out _).mono ?_
    rintro e w1 ⟨rfl, hb⟩
    replace H := Lib.hid (H.out.call hb)
    clear hb d0 d1 d2 d3 d4 d5
    obtain ⟨d0, d1, d2, d3, d4, d5⟩ := H.out.c6
    go_wp2_with fail
    refine (VA.out _).mono ?_
    rintro e w2 ⟨rfl, hb⟩
    replace H := Lib.hid (H.out.call hb)
    clear hb d0 d1 d2 d3 d4 d5
    obtain ⟨d0, d1, d2, d3, d4, d5⟩ := H.out.c6
    go_wp2_with fail
    refine (VB.out _).mono ?_
    rintro e w3 ⟨rfl, hb⟩
    replace H := Lib.hid (H.out.call hb)
    clear hb d0 d1 d2 d3 d4 d5
    obtain ⟨d0, d1, d2, d3, d4, d5⟩ := H.out.c6
    go_wp2_with fail
    refine (VP.out _).mono ?_
    rintro e w4 ⟨rfl, hb⟩
    replace H := Lib.hid (H.out.call hb)
    clear hb d0 d1 d2 d3 d4 d5
    obtain ⟨d0, d1, d2, d3, d4, d5⟩ := H.out.c6
    go_wp2_with fail
    refine (VQ.out _).mono ?_
    rintro e w5 ⟨rfl, hb⟩
    replace H := Lib.hid (H.out.call hb)
    clear hb d0 d1 d2 d3 d4 d5
    obtain ⟨d0, d1, d2, d3, d4, d5⟩ := H.out.c6
    go_wp2_with fail
    go_ret
    exact ⟨rfl, H.out.below⟩
  · have g0 : decide (0 ≤ v) = false := decide_eq_false h0
    have hq : (v == (n : Int)) = false := by simp; omega
    rw [hq]
    simp only [Bool.false_and]
    have H := Lib.hid H0
    clear H0
    obtain ⟨d0, d1, d2, d3, d4, d5⟩ := H.out.c6
    go_enter Try.func13, Try.ntmps13
    go_wp2_with fail
    refine (RF.out _).mono ?_
    rintro e w1 ⟨rfl, hb⟩
    replace H := Lib.hid (H.out.call hb)
    clear hb d0 d1 d2 d3 d4 d5
    obtain ⟨d0, d1, d2, d3, d4, d5⟩ := H.out.c6
    go_wp2_with fail
    go_ret
    exact ⟨rfl, H.out.below⟩
end Go.Proofs.Ytndlhdmpfnadcaa
