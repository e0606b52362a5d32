/- XGm: XLn XLo XLp XLq XLr XLt XLu XLv XLy XLz put together. -/
import Derived.Test.YtndlhdmpfnadcaaGl
import Derived.Test.YtndlhdmpfnadcaaHd
import Derived.Test.YtndlhdmpfnadcaaPar
import Derived.Deep.OwnRows
/- Lines of a derivation: the number of references that a rule takes. -/
namespace Go.Proofs.Ytndlhdmpfnadcaa
open Go.RowKit
open Pl
set_option linter.unusedVariables false

def rfN (S : ByteArray) : Int :=
  if (S.toList == ([115, 101, 116] : List UInt8)) = true then 0 else
  if (S.toList == ([114, 117, 110] : List UInt8)) = true then 0 else
  if (S.toList == ([119, 101, 97, 107] : List UInt8)) = true then 1 else
  if (S.toList == ([119, 104, 105, 108, 101] : List UInt8)) = true then 1 else
  if (S.toList == ([115, 101, 113] : List UInt8)) = true then 2 else
  if (S.toList == ([115, 112, 108, 105, 116] : List UInt8)) = true then 2 else
  if (S.toList == ([108, 101, 102, 116] : List UInt8)) = true then 2 else
  if (S.toList == ([114, 105, 103, 104, 116] : List UInt8)) = true then 2 else
  if (S.toList == ([105, 102] : List UInt8)) = true then 4 else
  -1
theorem rfN_b (S : ByteArray) : -1 ≤ rfN S ∧ rfN S ≤ 4 := by unfold rfN; repeat (split; · omega); omega
set_option maxHeartbeats 4000000 in
theorem refsOf_any (S : ByteArray) (w : World) : Calls Try.prog 26 #[.string S] w fun e w' => e = .returned (.int .i64 (rfN S)) ∧ w = w' := by
  unfold rfN
  by_cases q0 : (S.toList == ([115, 101, 116] : List UInt8)) = true
  · rw [if_pos q0]
    go_enter Try.func26, Try.ntmps26
    go_wp2_with fail
    go_ret
    exact ⟨rfl, rfl⟩
  rw [if_neg q0]
  replace q0 := Bool.eq_false_iff.2 q0
  by_cases q1 : (S.toList == ([114, 117, 110] : List UInt8)) = true
  · rw [if_pos q1]
    go_enter Try.func26, Try.ntmps26
    go_wp2_with fail
    go_ret
    exact ⟨rfl, rfl⟩
  rw [if_neg q1]
  replace q1 := Bool.eq_false_iff.2 q1
  by_cases q2 : (S.toList == ([119, 101, 97, 107] : List UInt8)) = true
  · rw [if_pos q2]
    go_enter Try.func26, Try.ntmps26
    go_wp2_with fail
    go_ret
    exact ⟨rfl, rfl⟩
  rw [if_neg q2]
  replace q2 := Bool.eq_false_iff.2 q2
  by_cases q3 : (S.toList == ([119, 104, 105, 108, 101] : List UInt8)) = true
  · rw [if_pos q3]
    go_enter Try.func26, Try.ntmps26
    go_wp2_with fail
    go_ret
    exact ⟨rfl, rfl⟩
  rw [if_neg q3]
  replace q3 := Bool.eq_false_iff.2 q3
  by_cases q4 : (S.toList == ([115, 101, 113] : List UInt8)) = true
  · rw [if_pos q4]
    go_enter Try.func26, Try.ntmps26
    go_wp2_with fail
    go_ret
    exact ⟨rfl, rfl⟩
  rw [if_neg q4]
  replace q4 := Bool.eq_false_iff.2 q4
  by_cases q5 : (S.toList == ([115, 112, 108, 105, 116] : List UInt8)) = true
  · rw [if_pos q5]
    go_enter Try.func26, Try.ntmps26
    go_wp2_with fail
    go_ret
    exact ⟨rfl, rfl⟩
  rw [if_neg q5]
  replace q5 := Bool.eq_false_iff.2 q5
  by_cases q6 : (S.toList == ([108, 101, 102, 116] : List UInt8)) = true
  · rw [if_pos q6]
    go_enter Try.func26, Try.ntmps26
    go_wp2_with fail
    go_ret
    exact ⟨rfl, rfl⟩
  rw [if_neg q6]
  replace q6 := Bool.eq_false_iff.2 q6
  by_cases q7 : (S.toList == ([114, 105, 103, 104, 116] : List UInt8)) = true
  · rw [if_pos q7]
    go_enter Try.func26, Try.ntmps26
    go_wp2_with fail
    go_ret
    exact ⟨rfl, rfl⟩
  rw [if_neg q7]
  replace q7 := Bool.eq_false_iff.2 q7
  by_cases q8 : (S.toList == ([105, 102] : List UInt8)) = true
  · rw [if_pos q8]
    go_enter Try.func26, Try.ntmps26
    go_wp2_with fail
    go_ret
    exact ⟨rfl, rfl⟩
  rw [if_neg q8]
  replace q8 := Bool.eq_false_iff.2 q8
  go_enter Try.func26, Try.ntmps26
  go_wp2_with fail
  go_ret
  exact ⟨rfl, rfl⟩
set_option maxHeartbeats 4000000 in
theorem l9Refs_any (S : ByteArray) (w : World) : Calls Try.prog 27 #[.string S] w fun e w' => e = .returned (.int .i64 (rfN S)) ∧ w = w' := by
  unfold rfN
  by_cases q0 : (S.toList == ([115, 101, 116] : List UInt8)) = true
  · rw [if_pos q0]
    go_enter Try.func27, Try.ntmps27
    go_wp2_with fail
    go_ret
    exact ⟨rfl, rfl⟩
  rw [if_neg q0]
  replace q0 := Bool.eq_false_iff.2 q0
  by_cases q1 : (S.toList == ([114, 117, 110] : List UInt8)) = true
  · rw [if_pos q1]
    go_enter Try.func27, Try.ntmps27
    go_wp2_with fail
    go_ret
    exact ⟨rfl, rfl⟩
  rw [if_neg q1]
  replace q1 := Bool.eq_false_iff.2 q1
  by_cases q2 : (S.toList == ([119, 101, 97, 107] : List UInt8)) = true
  · rw [if_pos q2]
    go_enter Try.func27, Try.ntmps27
    go_wp2_with fail
    go_ret
    exact ⟨rfl, rfl⟩
  rw [if_neg q2]
  replace q2 := Bool.eq_false_iff.2 q2
  by_cases q3 : (S.toList == ([119, 104, 105, 108, 101] : List UInt8)) = true
  · rw [if_pos q3]
    go_enter Try.func27, Try.ntmps27
    go_wp2_with fail
    go_ret
    exact ⟨rfl, rfl⟩
  rw [if_neg q3]
  replace q3 := Bool.eq_false_iff.2 q3
  by_cases q4 : (S.toList == ([115, 101, 113] : List UInt8)) = true
  · rw [if_pos q4]
    go_enter Try.func27, Try.ntmps27
    go_wp2_with fail
    go_ret
    exact ⟨rfl, rfl⟩
  rw [if_neg q4]
  replace q4 := Bool.eq_false_iff.2 q4
  by_cases q5 : (S.toList == ([115, 112, 108, 105, 116] : List UInt8)) = true
  · rw [if_pos q5]
    go_enter Try.func27, Try.ntmps27
    go_wp2_with fail
    go_ret
    exact ⟨rfl, rfl⟩
  rw [if_neg q5]
  replace q5 := Bool.eq_false_iff.2 q5
  by_cases q6 : (S.toList == ([108, 101, 102, 116] : List UInt8)) = true
  · rw [if_pos q6]
    go_enter Try.func27, Try.ntmps27
    go_wp2_with fail
    go_ret
    exact ⟨rfl, rfl⟩
  rw [if_neg q6]
  replace q6 := Bool.eq_false_iff.2 q6
  by_cases q7 : (S.toList == ([114, 105, 103, 104, 116] : List UInt8)) = true
  · rw [if_pos q7]
    go_enter Try.func27, Try.ntmps27
    go_wp2_with fail
    go_ret
    exact ⟨rfl, rfl⟩
  rw [if_neg q7]
  replace q7 := Bool.eq_false_iff.2 q7
  by_cases q8 : (S.toList == ([105, 102] : List UInt8)) = true
  · rw [if_pos q8]
    go_enter Try.func27, Try.ntmps27
    go_wp2_with fail
    go_ret
    exact ⟨rfl, rfl⟩
  rw [if_neg q8]
  replace q8 := Bool.eq_false_iff.2 q8
  go_enter Try.func27, Try.ntmps27
  go_wp2_with fail
  go_ret
  exact ⟨rfl, rfl⟩
end Go.Proofs.Ytndlhdmpfnadcaa

/- Lines: LineValid. -/
namespace Go.Proofs.Ytndlhdmpfnadcaa
open Go.RowKit
open Pl
set_option linter.unusedVariables false

theorem purB {w w' : World} (h : w = w') : Below w.heap.size w w' := by subst h; exact Below.refl _ _
theorem drwB {w w' : World} (h : ∃ m, w' = w.drewN m) : Below w.heap.size w w' := by obtain ⟨m, rfl⟩ := h; exact below_drewN _ _ _
theorem Sit.box6 {w W : World} {l : List (Addr × Value)} {a b c d e f : Value} (H : Sit w W l) (t : TypeId) : Sit w (W.alloc (.cells #[a, b, c, d, e, f] t)) ((⟨W.heap.size, 0, none⟩, a) :: (⟨W.heap.size, 1, none⟩, b) :: (⟨W.heap.size, 2, none⟩, c) :: (⟨W.heap.size, 3, none⟩, d) :: (⟨W.heap.size, 4, none⟩, e) :: (⟨W.heap.size, 5, none⟩, f) :: l) := by
  have N := H.new #[a, b, c, d, e, f] t
  have hlt := N.blk.lt
  exact ((((((H.alloc _).more (p := ⟨_, 5, none⟩) hlt (N.blk.cell 5)).more (p := ⟨_, 4, none⟩) hlt (N.blk.cell 4)).more (p := ⟨_, 3, none⟩) hlt (N.blk.cell 3)).more (p := ⟨_, 2, none⟩) hlt (N.blk.cell 2)).more (p := ⟨_, 1, none⟩) hlt (N.blk.cell 1)).more (p := ⟨_, 0, none⟩) hlt (N.blk.cell 0)
def wpB (P : ByteArray) : Bool := (whole false 2 200 P.data.toList).isSome
/-- a line's validity -/
def lnV (R A P Q B : ByteArray) (n : Nat) : Bool := rfN R == (n : Int) && (bOk 729 A.data.toList && (bOk 729 B.data.toList && (wpB P && wpB Q)))
set_option maxRecDepth 100000 in
set_option maxHeartbeats 16000000 in
theorem LineValidS_any (R A P Q B : ByteArray) (s : Option Addr) (n c : Nat) (hA : A.size ≤ 1000000000000) (hP : P.size ≤ 1000000000000) (hQ : Q.size ≤ 1000000000000) (hB : B.size ≤ 1000000000000) (hn : n ≤ 1000000000000) (w : World) :
    Calls Try.prog 14 #[.agg #[.string R, .string A, .string P, .string Q, .string B, .slice s n c]] w fun e w' => (e = .returned (.bool (lnV R A P Q B n)) ∧ Below w.heap.size w w') := by
  have RF := Lib.hid (fun w => (l9Refs_any R w).mono fun _ _ h => (⟨h.1, purB h.2⟩ : _ ∧ _))
  have VA := Lib.hid (fun w => (RelValidS_any A hA w).mono fun _ _ h => (⟨h.1, purB h.2⟩ : _ ∧ _))
  have VB := Lib.hid (fun w => (RelValidS_any B hB w).mono fun _ _ h => (⟨h.1, purB h.2⟩ : _ ∧ _))
  have VP := Lib.hid (fun w => (ProgramValidS_any P w hP).mono fun _ _ h => (⟨h.1, drwB h.2⟩ : _ ∧ _))
  have VQ := Lib.hid (fun w => (ProgramValidS_any Q w hQ).mono fun _ _ h => (⟨h.1, drwB h.2⟩ : _ ∧ _))
  have hb := rfN_b R
  unfold lnV
  generalize rfN R = v at *
  change Hid (∀ w, Calls Try.prog _ #[.string P] w fun e w' => e = .returned (.bool (wpB P)) ∧ _) at VP
  change Hid (∀ w, Calls Try.prog _ #[.string Q] w fun e w' => e = .returned (.bool (wpB Q)) ∧ _) at VQ
  generalize wpB P = bP at *
  generalize wpB Q = bQ at *
  generalize bOk 729 A.data.toList = bA at *
  generalize bOk 729 B.data.toList = bB at *
  have H0 := (Sit.refl w).box6 (a := .string R) (b := .string A) (c := .string P) (d := .string Q) (e := .string B) (f := .slice s n c) 35
  have hbig : n ≤ 9223372036854775807 := by omega
  cases hq : (v == (n : Int))
  · simp only [Bool.false_and]
    have H := H0
    clear H0
    obtain ⟨d0, d1, d2, d3, d4, d5⟩ := H.c6
    go_enter Try.func14, Try.ntmps14
    go_wp2_with fail
    refine region_class (fun W => Sit w W [(⟨w.heap.size, 0, none⟩, .string R), (⟨w.heap.size, 1, none⟩, .string A), (⟨w.heap.size, 2, none⟩, .string P), (⟨w.heap.size, 3, none⟩, .string Q), (⟨w.heap.size, 4, none⟩, .string B), (⟨w.heap.size, 5, none⟩, .slice s n c)]) (by kernel_rfl) (by kernel_rfl) H.drew ?_
    clear d0 d1 d2 d3 d4 d5
    repeat (first | go_big_quiet_skip | (go_big_quiet_want; first | (apply quiet_value; (· (intro W hW; obtain ⟨d0, d1, d2, d3, d4, d5⟩ := hW.c6; go_simp; exact rfl)); simp only [Act.put, List.setIfInBounds_toArray, List.set_cons_zero, List.set_cons_succ]; go_big_quiet_on) | (apply quiet_call; (· (intro W hW; go_simp; exact ⟨rfl, rfl⟩)); (· (intro W hW; first | with_reducible exact (RF.out W).mono fun _ _ h => ⟨h.1, hW.call h.2⟩ | with_reducible exact (VA.out W).mono fun _ _ h => ⟨h.1, hW.call h.2⟩ | with_reducible exact (VB.out W).mono fun _ _ h => ⟨h.1, hW.call h.2⟩ | with_reducible exact (VP.out W).mono fun _ _ h => ⟨h.1, hW.call h.2⟩ | with_reducible exact (VQ.out W).mono fun _ _ h => ⟨h.1, hW.call h.2⟩)); simp only [Act.put, List.setIfInBounds_toArray, List.set_cons_zero, List.set_cons_succ]; go_big_quiet_on)))
    refine wpQuiet_nil ?_
    intro wq hq
    clear H
    have H := hq
    clear hq
    go_wp2_with fail
    go_ret
    exact ⟨rfl, H.below⟩
  simp only [Bool.true_and]
  cases bA
  · simp only [Bool.false_and]
    have H := H0
    clear H0
    obtain ⟨d0, d1, d2, d3, d4, d5⟩ := H.c6
    go_enter Try.func14, Try.ntmps14
    go_wp2_with fail
    refine region_class (fun W => Sit w W [(⟨w.heap.size, 0, none⟩, .string R), (⟨w.heap.size, 1, none⟩, .string A), (⟨w.heap.size, 2, none⟩, .string P), (⟨w.heap.size, 3, none⟩, .string Q), (⟨w.heap.size, 4, none⟩, .string B), (⟨w.heap.size, 5, none⟩, .slice s n c)]) (by kernel_rfl) (by kernel_rfl) H.drew ?_
    clear d0 d1 d2 d3 d4 d5
    repeat (first | go_big_quiet_skip | (go_big_quiet_want; first | (apply quiet_value; (· (intro W hW; obtain ⟨d0, d1, d2, d3, d4, d5⟩ := hW.c6; go_simp; exact rfl)); simp only [Act.put, List.setIfInBounds_toArray, List.set_cons_zero, List.set_cons_succ]; go_big_quiet_on) | (apply quiet_call; (· (intro W hW; go_simp; exact ⟨rfl, rfl⟩)); (· (intro W hW; first | with_reducible exact (RF.out W).mono fun _ _ h => ⟨h.1, hW.call h.2⟩ | with_reducible exact (VA.out W).mono fun _ _ h => ⟨h.1, hW.call h.2⟩ | with_reducible exact (VB.out W).mono fun _ _ h => ⟨h.1, hW.call h.2⟩ | with_reducible exact (VP.out W).mono fun _ _ h => ⟨h.1, hW.call h.2⟩ | with_reducible exact (VQ.out W).mono fun _ _ h => ⟨h.1, hW.call h.2⟩)); simp only [Act.put, List.setIfInBounds_toArray, List.set_cons_zero, List.set_cons_succ]; go_big_quiet_on)))
    refine wpQuiet_nil ?_
    intro wq hq
    clear H
    have H := hq
    clear hq
    go_wp2_with fail
    go_ret
    exact ⟨rfl, H.below⟩
  simp only [Bool.true_and]
  cases bB
  · simp only [Bool.false_and]
    have H := H0
    clear H0
    obtain ⟨d0, d1, d2, d3, d4, d5⟩ := H.c6
    go_enter Try.func14, Try.ntmps14
    go_wp2_with fail
    refine region_class (fun W => Sit w W [(⟨w.heap.size, 0, none⟩, .string R), (⟨w.heap.size, 1, none⟩, .string A), (⟨w.heap.size, 2, none⟩, .string P), (⟨w.heap.size, 3, none⟩, .string Q), (⟨w.heap.size, 4, none⟩, .string B), (⟨w.heap.size, 5, none⟩, .slice s n c)]) (by kernel_rfl) (by kernel_rfl) H.drew ?_
    clear d0 d1 d2 d3 d4 d5
    repeat (first | go_big_quiet_skip | (go_big_quiet_want; first | (apply quiet_value; (· (intro W hW; obtain ⟨d0, d1, d2, d3, d4, d5⟩ := hW.c6; go_simp; exact rfl)); simp only [Act.put, List.setIfInBounds_toArray, List.set_cons_zero, List.set_cons_succ]; go_big_quiet_on) | (apply quiet_call; (· (intro W hW; go_simp; exact ⟨rfl, rfl⟩)); (· (intro W hW; first | with_reducible exact (RF.out W).mono fun _ _ h => ⟨h.1, hW.call h.2⟩ | with_reducible exact (VA.out W).mono fun _ _ h => ⟨h.1, hW.call h.2⟩ | with_reducible exact (VB.out W).mono fun _ _ h => ⟨h.1, hW.call h.2⟩ | with_reducible exact (VP.out W).mono fun _ _ h => ⟨h.1, hW.call h.2⟩ | with_reducible exact (VQ.out W).mono fun _ _ h => ⟨h.1, hW.call h.2⟩)); simp only [Act.put, List.setIfInBounds_toArray, List.set_cons_zero, List.set_cons_succ]; go_big_quiet_on)))
    refine wpQuiet_nil ?_
    intro wq hq
    clear H
    have H := hq
    clear hq
    go_wp2_with fail
    go_ret
    exact ⟨rfl, H.below⟩
  simp only [Bool.true_and]
  cases bP
  · simp only [Bool.false_and]
    have H := H0
    clear H0
    obtain ⟨d0, d1, d2, d3, d4, d5⟩ := H.c6
    go_enter Try.func14, Try.ntmps14
    go_wp2_with fail
    refine region_class (fun W => Sit w W [(⟨w.heap.size, 0, none⟩, .string R), (⟨w.heap.size, 1, none⟩, .string A), (⟨w.heap.size, 2, none⟩, .string P), (⟨w.heap.size, 3, none⟩, .string Q), (⟨w.heap.size, 4, none⟩, .string B), (⟨w.heap.size, 5, none⟩, .slice s n c)]) (by kernel_rfl) (by kernel_rfl) H.drew ?_
    clear d0 d1 d2 d3 d4 d5
    repeat (first | go_big_quiet_skip | (go_big_quiet_want; first | (apply quiet_value; (· (intro W hW; obtain ⟨d0, d1, d2, d3, d4, d5⟩ := hW.c6; go_simp; exact rfl)); simp only [Act.put, List.setIfInBounds_toArray, List.set_cons_zero, List.set_cons_succ]; go_big_quiet_on) | (apply quiet_call; (· (intro W hW; go_simp; exact ⟨rfl, rfl⟩)); (· (intro W hW; first | with_reducible exact (RF.out W).mono fun _ _ h => ⟨h.1, hW.call h.2⟩ | with_reducible exact (VA.out W).mono fun _ _ h => ⟨h.1, hW.call h.2⟩ | with_reducible exact (VB.out W).mono fun _ _ h => ⟨h.1, hW.call h.2⟩ | with_reducible exact (VP.out W).mono fun _ _ h => ⟨h.1, hW.call h.2⟩ | with_reducible exact (VQ.out W).mono fun _ _ h => ⟨h.1, hW.call h.2⟩)); simp only [Act.put, List.setIfInBounds_toArray, List.set_cons_zero, List.set_cons_succ]; go_big_quiet_on)))
    refine wpQuiet_nil ?_
    intro wq hq
    clear H
    have H := hq
    clear hq
    go_wp2_with fail
    go_ret
    exact ⟨rfl, H.below⟩
  simp only [Bool.true_and]
  have H := H0
  clear H0
  obtain ⟨d0, d1, d2, d3, d4, d5⟩ := H.c6
  go_enter Try.func14, Try.ntmps14
  go_wp2_with fail
  refine region_class (fun W => Sit w W [(⟨w.heap.size, 0, none⟩, .string R), (⟨w.heap.size, 1, none⟩, .string A), (⟨w.heap.size, 2, none⟩, .string P), (⟨w.heap.size, 3, none⟩, .string Q), (⟨w.heap.size, 4, none⟩, .string B), (⟨w.heap.size, 5, none⟩, .slice s n c)]) (by kernel_rfl) (by kernel_rfl) H.drew ?_
  clear d0 d1 d2 d3 d4 d5
  repeat (first | go_big_quiet_skip | (go_big_quiet_want; first | (apply quiet_value; (· (intro W hW; obtain ⟨d0, d1, d2, d3, d4, d5⟩ := hW.c6; go_simp; exact rfl)); simp only [Act.put, List.setIfInBounds_toArray, List.set_cons_zero, List.set_cons_succ]; go_big_quiet_on) | (apply quiet_call; (· (intro W hW; go_simp; exact ⟨rfl, rfl⟩)); (· (intro W hW; first | with_reducible exact (RF.out W).mono fun _ _ h => ⟨h.1, hW.call h.2⟩ | with_reducible exact (VA.out W).mono fun _ _ h => ⟨h.1, hW.call h.2⟩ | with_reducible exact (VB.out W).mono fun _ _ h => ⟨h.1, hW.call h.2⟩ | with_reducible exact (VP.out W).mono fun _ _ h => ⟨h.1, hW.call h.2⟩ | with_reducible exact (VQ.out W).mono fun _ _ h => ⟨h.1, hW.call h.2⟩)); simp only [Act.put, List.setIfInBounds_toArray, List.set_cons_zero, List.set_cons_succ]; go_big_quiet_on)))
  refine wpQuiet_nil ?_
  intro wq hq
  clear H
  have H := hq
  clear hq
  go_wp2_with fail
  go_ret
  exact ⟨rfl, H.below⟩
set_option maxRecDepth 100000 in
set_option maxHeartbeats 16000000 in
theorem LineValid_any (R A P Q B : ByteArray) (s : Option Addr) (n c : Nat) (hA : A.size ≤ 1000000000000) (hP : P.size ≤ 1000000000000) (hQ : Q.size ≤ 1000000000000) (hB : B.size ≤ 1000000000000) (hn : n ≤ 1000000000000) (w : World) :
    Calls Try.prog 13 #[.agg #[.string R, .string A, .string P, .string Q, .string B, .slice s n c]] w fun e w' => (e = .returned (.bool (lnV R A P Q B n)) ∧ Below w.heap.size w w') := by
  have RF := Lib.hid (fun w => (refsOf_any R w).mono fun _ _ h => (⟨h.1, purB h.2⟩ : _ ∧ _))
  have VA := Lib.hid (fun w => (RelValid_any A hA w).mono fun _ _ h => (⟨h.1, purB h.2⟩ : _ ∧ _))
  have VB := Lib.hid (fun w => (RelValid_any B hB w).mono fun _ _ h => (⟨h.1, purB h.2⟩ : _ ∧ _))
  have VP := Lib.hid (fun w => (ProgramValid_any P hP w).mono fun _ _ h => (⟨h.1, h.2⟩ : _ ∧ _))
  have VQ := Lib.hid (fun w => (ProgramValid_any Q hQ w).mono fun _ _ h => (⟨h.1, h.2⟩ : _ ∧ _))
  have hb := rfN_b R
  unfold lnV
  generalize rfN R = v at *
  change Hid (∀ w, Calls Try.prog _ #[.string P] w fun e w' => e = .returned (.bool (wpB P)) ∧ _) at VP
  change Hid (∀ w, Calls Try.prog _ #[.string Q] w fun e w' => e = .returned (.bool (wpB Q)) ∧ _) at VQ
  generalize wpB P = bP at *
  generalize wpB Q = bQ at *
  generalize bOk 729 A.data.toList = bA at *
  generalize bOk 729 B.data.toList = bB at *
  have H0 := (Sit.refl w).box6 (a := .string R) (b := .string A) (c := .string P) (d := .string Q) (e := .string B) (f := .slice s n c) 35
  by_cases h0 : 0 ≤ v
  · have g0 : decide (0 ≤ v) = true := decide_eq_true h0
    cases hq : (v == (n : Int))
    · have hq2 : ((n : Int) == v) = false := by rw [Bool.beq_comm]; exact hq
      simp only [Bool.false_and]
      have H := Lib.hid H0
      clear H0
      obtain ⟨d0, d1, d2, d3, d4, d5⟩ := H.out.c6
      go_enter Try.func13, Try.ntmps13
      go_wp2_with fail
      refine (RF.out _).mono ?_
      rintro e w1 ⟨rfl, hb⟩
      replace H := Lib.hid (H.out.call hb)
      clear hb d0 d1 d2 d3 d4 d5
      obtain ⟨d0, d1, d2, d3, d4, d5⟩ := H.out.c6
      go_wp2_with fail
      go_ret
      exact ⟨rfl, H.out.below⟩
    have hq2 : ((n : Int) == v) = true := by rw [Bool.beq_comm]; exact hq
    simp only [Bool.true_and]
    cases bA
    · simp only [Bool.false_and]
      have H := Lib.hid H0
      clear H0
      obtain ⟨d0, d1, d2, d3, d4, d5⟩ := H.out.c6
      go_enter Try.func13, Try.ntmps13
      go_wp2_with fail
      refine (RF.out _).mono ?_
      rintro e w1 ⟨rfl, hb⟩
      replace H := Lib.hid (H.out.call hb)
      clear hb d0 d1 d2 d3 d4 d5
      obtain ⟨d0, d1, d2, d3, d4, d5⟩ := H.out.c6
      go_wp2_with fail
      refine (VA.out _).mono ?_
      rintro e w2 ⟨rfl, hb⟩
      replace H := Lib.hid (H.out.call hb)
      clear hb d0 d1 d2 d3 d4 d5
      obtain ⟨d0, d1, d2, d3, d4, d5⟩ := H.out.c6
      go_wp2_with fail
      go_ret
      exact ⟨rfl, H.out.below⟩
    simp only [Bool.true_and]
    cases bB
    · simp only [Bool.false_and]
      have H := Lib.hid H0
      clear H0
      obtain ⟨d0, d1, d2, d3, d4, d5⟩ := H.out.c6
      go_enter Try.func13, Try.ntmps13
      go_wp2_with fail
      refine (RF.out _).mono ?_
      rintro e w1 ⟨rfl, hb⟩
      replace H := Lib.hid (H.out.call hb)
      clear hb d0 d1 d2 d3 d4 d5
      obtain ⟨d0, d1, d2, d3, d4, d5⟩ := H.out.c6
      go_wp2_with fail
      refine (VA.out _).mono ?_
      rintro e w2 ⟨rfl, hb⟩
      replace H := Lib.hid (H.out.call hb)
      clear hb d0 d1 d2 d3 d4 d5
      obtain ⟨d0, d1, d2, d3, d4, d5⟩ := H.out.c6
      go_wp2_with fail
      refine (VB.out _).mono ?_
      rintro e w3 ⟨rfl, hb⟩
      replace H := Lib.hid (H.out.call hb)
      clear hb d0 d1 d2 d3 d4 d5
      obtain ⟨d0, d1, d2, d3, d4, d5⟩ := H.out.c6
      go_wp2_with fail
      go_ret
      exact ⟨rfl, H.out.below⟩
    simp only [Bool.true_and]
    cases bP
    · simp only [Bool.false_and]
      have H := Lib.hid H0
      clear H0
      obtain ⟨d0, d1, d2, d3, d4, d5⟩ := H.out.c6
      go_enter Try.func13, Try.ntmps13
      go_wp2_with fail
      refine (RF.out _).mono ?_
      rintro e w1 ⟨rfl, hb⟩
      replace H := Lib.hid (H.out.call hb)
      clear hb d0 d1 d2 d3 d4 d5
      obtain ⟨d0, d1, d2, d3, d4, d5⟩ := H.out.c6
      go_wp2_with fail
      refine (VA.out _).mono ?_
      rintro e w2 ⟨rfl, hb⟩
      replace H := Lib.hid (H.out.call hb)
      clear hb d0 d1 d2 d3 d4 d5
      obtain ⟨d0, d1, d2, d3, d4, d5⟩ := H.out.c6
      go_wp2_with fail
      refine (VB.out _).mono ?_
      rintro e w3 ⟨rfl, hb⟩
      replace H := Lib.hid (H.out.call hb)
      clear hb d0 d1 d2 d3 d4 d5
      obtain ⟨d0, d1, d2, d3, d4, d5⟩ := H.out.c6
      go_wp2_with fail
      refine (VP.out _).mono ?_
      rintro e w4 ⟨rfl, hb⟩
      replace H := Lib.hid (H.out.call hb)
      clear hb d0 d1 d2 d3 d4 d5
      obtain ⟨d0, d1, d2, d3, d4, d5⟩ := H.out.c6
      go_wp2_with fail
      go_ret
      exact ⟨rfl, H.out.below⟩
    simp only [Bool.true_and]
    have H := Lib.hid H0
    clear H0
    obtain ⟨d0, d1, d2, d3, d4, d5⟩ := H.out.c6
    go_enter Try.func13, Try.ntmps13
    go_wp2_with fail
    refine (RF.out _).mono ?_
    rintro e w1 ⟨rfl, hb⟩
    replace H := Lib.hid (H.out.call hb)
    clear hb d0 d1 d2 d3 d4 d5
    obtain ⟨d0, d1, d2, d3, d4, d5⟩ := H.out.c6
    go_wp2_with fail
    refine (VA.out _).mono ?_
    rintro e w2 ⟨rfl, hb⟩
    replace H := Lib.hid (H.out.call hb)
    clear hb d0 d1 d2 d3 d4 d5
    obtain ⟨d0, d1, d2, d3, d4, d5⟩ := H.out.c6
    go_wp2_with fail
    refine (VB.out _).mono ?_
    rintro e w3 ⟨rfl, hb⟩
    replace H := Lib.hid (H.out.call hb)
    clear hb d0 d1 d2 d3 d4 d5
    obtain ⟨d0, d1, d2, d3, d4, d5⟩ := H.out.c6
    go_wp2_with fail
    refine (VP.out _).mono ?_
    rintro e w4 ⟨rfl, hb⟩
    replace H := Lib.hid (H.out.call hb)
    clear hb d0 d1 d2 d3 d4 d5
    obtain ⟨d0, d1, d2, d3, d4, d5⟩ := H.out.c6
    go_wp2_with fail
    refine (VQ.out _).mono ?_
    rintro e w5 ⟨rfl, hb⟩
    replace H := Lib.hid (H.out.call hb)
    clear hb d0 d1 d2 d3 d4 d5
    obtain ⟨d0, d1, d2, d3, d4, d5⟩ := H.out.c6
    go_wp2_with fail
    go_ret
    exact ⟨rfl, H.out.below⟩
  · have g0 : decide (0 ≤ v) = false := decide_eq_false h0
    have hq : (v == (n : Int)) = false := by simp; omega
    rw [hq]
    simp only [Bool.false_and]
    have H := Lib.hid H0
    clear H0
    obtain ⟨d0, d1, d2, d3, d4, d5⟩ := H.out.c6
    go_enter Try.func13, Try.ntmps13
    go_wp2_with fail
    refine (RF.out _).mono ?_
    rintro e w1 ⟨rfl, hb⟩
    replace H := Lib.hid (H.out.call hb)
    clear hb d0 d1 d2 d3 d4 d5
    obtain ⟨d0, d1, d2, d3, d4, d5⟩ := H.out.c6
    go_wp2_with fail
    go_ret
    exact ⟨rfl, H.out.below⟩
end Go.Proofs.Ytndlhdmpfnadcaa

/- Lines: the law's own helpers: sizes. -/
namespace Go.Proofs.Ytndlhdmpfnadcaa
open Go.RowKit
open Pl
set_option linter.unusedVariables false

/-- what is left behind a line's size -/
def leftV (left sum : Nat) : Int := if sum ≤ left then ((left - sum : Nat) : Int) else -1
theorem leftV_yes {left sum m : Nat} (h : sum + m = left) : leftV left sum = (m : Int) := by unfold leftV; rw [if_pos (by omega), show left - sum = m by omega]
theorem leftV_no {left sum : Nat} (h : left < sum) : leftV left sum = -1 := by unfold leftV; rw [if_neg (by omega)]
set_option maxHeartbeats 4000000 in
theorem szIntS_any (s : Option Addr) (n c l : Nat) (hn : n ≤ 9223372036854775807) (hl : l ≤ 1048576) (w : World) :
    Calls Try.prog 32 #[.slice s n c, .int .i64 (l : Int)] w fun e w' => e = .returned (.int .i64 (leftV l n)) ∧ w = w' := by
  by_cases h : n ≤ l
  · obtain ⟨m, hm⟩ : ∃ m, n + m = l := ⟨l - n, by omega⟩
    rw [leftV_yes hm]
    have g1 : (l : Int) - (n : Int) = (m : Int) := by omega
    have g2 : wrap64 ((l : Int) - (n : Int)) = (m : Int) := by unfold wrap64; omega
    have g3 : decide ((m : Int) < 0) = false := decide_eq_false (by omega)
    clear hm
    go_enter Try.func32, Try.ntmps32
    go_wp2_with fail
    go_ret
    exact ⟨by first | rfl | simp [g1, g2], rfl⟩
  · rw [leftV_no (by omega)]
    obtain ⟨x, hx⟩ : ∃ x, (l : Int) - (n : Int) = x := ⟨_, rfl⟩
    have g0 : x < 0 := by omega
    have g1 : wrap64 x = x := by unfold wrap64; omega
    have g3 : decide (x < 0) = true := by simp; omega
    go_enter Try.func32, Try.ntmps32
    go_wp2_with fail
    go_ret
    exact ⟨rfl, rfl⟩
set_option maxRecDepth 100000 in
set_option maxHeartbeats 16000000 in
theorem szLine_any (R A P Q B : ByteArray) (s : Option Addr) (n c l : Nat) (hs : R.size ≤ 9223372036854775807 ∧ A.size ≤ 9223372036854775807 ∧ P.size ≤ 9223372036854775807 ∧ Q.size ≤ 9223372036854775807 ∧ B.size ≤ 9223372036854775807) (hn : n ≤ 9223372036854775807) (hl : l ≤ 1048576) (w : World) :
    Calls Try.prog 17 #[.agg #[.string R, .string A, .string P, .string Q, .string B, .slice s n c], .int .i64 (l : Int)] w fun e w' => (e = .returned (.int .i64 (leftV l (R.size + A.size + P.size + Q.size + B.size + n))) ∧ Below w.heap.size w w') := by
  have H := (Sit.refl w).box6 (a := .string R) (b := .string A) (c := .string P) (d := .string Q) (e := .string B) (f := .slice s n c) 40
  obtain ⟨hs1, hs2, hs3, hs4, hs5⟩ := hs
  by_cases h0 : l < R.size
  · rw [leftV_no (by omega)]
    have g0 : (((l : Nat) : Int) - (R.size : Int)) < 0 := by omega
    have g1 : wrap64 (((l : Nat) : Int) - (R.size : Int)) = ((l : Nat) : Int) - (R.size : Int) := by unfold wrap64; omega
    have g3 : decide ((((l : Nat) : Int) - (R.size : Int)) < 0) = true := by simp; omega
    obtain ⟨d0, d1, d2, d3, d4, d5⟩ := H.c6
    go_enter Try.func17, Try.ntmps17
    go_wp2_with fail
    go_ret
    exact ⟨rfl, H.below⟩
  obtain ⟨m0, hm0⟩ : ∃ m, R.size + m = l := ⟨l - R.size, by omega⟩
  have e0 : ((l : Nat) : Int) - (R.size : Int) = (m0 : Int) := by omega
  have f0 : decide ((m0 : Int) < 0) = false := decide_eq_false (by omega)
  by_cases h1 : m0 < A.size
  · rw [leftV_no (by omega)]
    have g0 : (((m0 : Nat) : Int) - (A.size : Int)) < 0 := by omega
    have g1 : wrap64 (((m0 : Nat) : Int) - (A.size : Int)) = ((m0 : Nat) : Int) - (A.size : Int) := by unfold wrap64; omega
    have g3 : decide ((((m0 : Nat) : Int) - (A.size : Int)) < 0) = true := by simp; omega
    obtain ⟨d0, d1, d2, d3, d4, d5⟩ := H.c6
    go_enter Try.func17, Try.ntmps17
    go_wp2_with fail
    go_ret
    exact ⟨rfl, H.below⟩
  obtain ⟨m1, hm1⟩ : ∃ m, A.size + m = m0 := ⟨m0 - A.size, by omega⟩
  have e1 : ((m0 : Nat) : Int) - (A.size : Int) = (m1 : Int) := by omega
  have f1 : decide ((m1 : Int) < 0) = false := decide_eq_false (by omega)
  by_cases h2 : m1 < P.size
  · rw [leftV_no (by omega)]
    have g0 : (((m1 : Nat) : Int) - (P.size : Int)) < 0 := by omega
    have g1 : wrap64 (((m1 : Nat) : Int) - (P.size : Int)) = ((m1 : Nat) : Int) - (P.size : Int) := by unfold wrap64; omega
    have g3 : decide ((((m1 : Nat) : Int) - (P.size : Int)) < 0) = true := by simp; omega
    obtain ⟨d0, d1, d2, d3, d4, d5⟩ := H.c6
    go_enter Try.func17, Try.ntmps17
    go_wp2_with fail
    go_ret
    exact ⟨rfl, H.below⟩
  obtain ⟨m2, hm2⟩ : ∃ m, P.size + m = m1 := ⟨m1 - P.size, by omega⟩
  have e2 : ((m1 : Nat) : Int) - (P.size : Int) = (m2 : Int) := by omega
  have f2 : decide ((m2 : Int) < 0) = false := decide_eq_false (by omega)
  by_cases h3 : m2 < Q.size
  · rw [leftV_no (by omega)]
    have g0 : (((m2 : Nat) : Int) - (Q.size : Int)) < 0 := by omega
    have g1 : wrap64 (((m2 : Nat) : Int) - (Q.size : Int)) = ((m2 : Nat) : Int) - (Q.size : Int) := by unfold wrap64; omega
    have g3 : decide ((((m2 : Nat) : Int) - (Q.size : Int)) < 0) = true := by simp; omega
    obtain ⟨d0, d1, d2, d3, d4, d5⟩ := H.c6
    go_enter Try.func17, Try.ntmps17
    go_wp2_with fail
    go_ret
    exact ⟨rfl, H.below⟩
  obtain ⟨m3, hm3⟩ : ∃ m, Q.size + m = m2 := ⟨m2 - Q.size, by omega⟩
  have e3 : ((m2 : Nat) : Int) - (Q.size : Int) = (m3 : Int) := by omega
  have f3 : decide ((m3 : Int) < 0) = false := decide_eq_false (by omega)
  by_cases h4 : m3 < B.size
  · rw [leftV_no (by omega)]
    have g0 : (((m3 : Nat) : Int) - (B.size : Int)) < 0 := by omega
    have g1 : wrap64 (((m3 : Nat) : Int) - (B.size : Int)) = ((m3 : Nat) : Int) - (B.size : Int) := by unfold wrap64; omega
    have g3 : decide ((((m3 : Nat) : Int) - (B.size : Int)) < 0) = true := by simp; omega
    obtain ⟨d0, d1, d2, d3, d4, d5⟩ := H.c6
    go_enter Try.func17, Try.ntmps17
    go_wp2_with fail
    go_ret
    exact ⟨rfl, H.below⟩
  obtain ⟨m4, hm4⟩ : ∃ m, B.size + m = m3 := ⟨m3 - B.size, by omega⟩
  have e4 : ((m3 : Nat) : Int) - (B.size : Int) = (m4 : Int) := by omega
  have f4 : decide ((m4 : Int) < 0) = false := decide_eq_false (by omega)
  have SZ := Lib.hid (fun w => szIntS_any s n c m4 hn (by omega) w)
  have hv : leftV l (R.size + A.size + P.size + Q.size + B.size + n) = leftV m4 n := by
    by_cases h : n ≤ m4
    · rw [leftV_yes (m := m4 - n) (by omega), leftV_yes (m := m4 - n) (by omega)]
    · rw [leftV_no (by omega), leftV_no (by omega)]
  rw [hv]
  by_cases h5 : m4 < n
  · rw [leftV_no h5] at SZ
    rw [leftV_no h5]
    obtain ⟨d0, d1, d2, d3, d4, d5⟩ := H.c6
    clear hv
    go_enter Try.func17, Try.ntmps17
    go_wp2_with fail
    refine (SZ.out _).mono ?_
    rintro e w' ⟨rfl, rfl⟩
    go_wp2_with fail
    go_ret
    exact ⟨rfl, H.below⟩
  · obtain ⟨m5, hm5⟩ : ∃ m, n + m = m4 := ⟨m4 - n, by omega⟩
    rw [leftV_yes hm5] at SZ
    rw [leftV_yes hm5]
    have f5 : decide ((m5 : Int) < 0) = false := decide_eq_false (by omega)
    obtain ⟨d0, d1, d2, d3, d4, d5⟩ := H.c6
    clear hv hm5
    go_enter Try.func17, Try.ntmps17
    go_wp2_with fail
    refine (SZ.out _).mono ?_
    rintro e w' ⟨rfl, rfl⟩
    go_wp2_with fail
    go_ret
    exact ⟨rfl, H.below⟩
end Go.Proofs.Ytndlhdmpfnadcaa

/- Rows of ints: the law's own copies and comparisons. -/
namespace Go.Proofs.Ytndlhdmpfnadcaa
open Go.RowKit
open Pl
set_option linter.unusedVariables false

/-- an array of ints -/
def iv (n : Nat) (f : Nat → Int) : Array Value := ((List.range n).map (fun a => Value.int .i64 (f a))).toArray
theorem iv_size (n : Nat) (f : Nat → Int) : (iv n f).size = n := by simp [iv]
theorem iv_get {n : Nat} (f : Nat → Int) {a : Nat} (ha : a < n) : (iv n f)[a]? = some (.int .i64 (f a)) := by simp [iv, ha]
theorem iv_congr {n : Nat} {f g : Nat → Int} (h : ∀ a, a < n → f a = g a) : iv n f = iv n g := by
  unfold iv
  congr 1
  apply List.map_congr_left
  intro a ha
  rw [h a (by simpa using ha)]
theorem iv_ext {n : Nat} {C : Array Value} (f : Nat → Int) (hz : C.size = n) (h : ∀ i, i < n → C[i]? = some (.int .i64 (f i))) : C = iv n f := by
  apply Array.ext
  · rw [hz, iv_size]
  · intro i h1 h2
    have := h i (by omega)
    have h3 := iv_get f (show i < n by omega)
    rw [Array.getElem?_eq_getElem h1] at this
    rw [Array.getElem?_eq_getElem h2] at h3
    exact Option.some.inj (this.trans h3.symm)
/-- what is copied so far -/
def cpF (z : Nat → Int) (i : Nat) : Nat → Int := fun a => if a < i then z a else 0
theorem cpF_next {n : Nat} (z : Nat → Int) {i : Nat} (hi : i < n) : (iv n (cpF z i)).setIfInBounds i (.int .i64 (z i)) = iv n (cpF z (i + 1)) := by
  apply iv_ext _ (by simp [iv_size])
  intro j hj
  by_cases h : j = i
  · subst h
    rw [Array.getElem?_setIfInBounds_self_of_lt (by rw [iv_size]; exact hj)]
    simp [cpF]
  · rw [Array.getElem?_setIfInBounds_ne (fun e => h e.symm), iv_get _ hj]
    have : (j < i) ↔ (j < i + 1) := by omega
    simp [cpF, this]
theorem cpF_all {n : Nat} (z : Nat → Int) : iv n (cpF z n) = iv n z := iv_congr (fun a ha => if_pos ha)
theorem made_iv (n : Nat) (z : Nat → Int) : madeCells #[.int .i64 0] n = iv n (cpF z 0) := by
  apply iv_ext _ (size_madeCells _ _)
  intro i hi
  simp [madeCells, cpF, hi, Nat.mod_one]
/-- a row of ints that can be read -/
def IR (W : World) (s : Option Addr) (n : Nat) (z : Nat → Int) : Prop :=
  n = 0 ∨ ∃ b off, s = some ⟨b, off, none⟩ ∧ b < W.heap.size ∧ ∀ i, i < n → W.cell? ⟨b, off + i, none⟩ = some (.int .i64 (z i))
theorem IR.call {W W' : World} {s : Option Addr} {n : Nat} {z : Nat → Int} (h : IR W s n z) (hb : Below W.heap.size W W') : IR W' s n z := by
  rcases h with h | ⟨b, off, hs, hlt, hc⟩
  · exact .inl h
  · exact .inr ⟨b, off, hs, Nat.lt_of_lt_of_le hlt hb.size, fun i hi => (hb.cell (p := ⟨b, off + i, none⟩) hlt).trans (hc i hi)⟩
theorem IR.setCell {W : World} {g : Nat} {n : Nat} {z : Nat → Int} (h : IR W (some ⟨g, 0, none⟩) n z) {p : Addr} (hp : g ≠ p.block) (u : Value) : IR (W.setCell p u) (some ⟨g, 0, none⟩) n z := by
  rcases h with h | ⟨b, off, hs, hlt, hc⟩
  · exact .inl h
  · cases hs
    exact .inr ⟨g, 0, rfl, by simpa [World.setCell] using hlt, fun i hi => (World.cell?_of_block (Below.heap_setCell _ _ _ _ (by exact hp))).trans (hc i hi)⟩
theorem IR.of_blk {W : World} {g : Nat} {t : TypeId} {n : Nat} {z : Nat → Int} (h : Blk W g t (iv n z)) : IR W (some ⟨g, 0, none⟩) n z :=
  .inr ⟨g, 0, rfl, h.lt, fun i hi => by rw [Nat.zero_add]; exact (h.cell i).trans (iv_get z hi)⟩
theorem infoI : (Try.prog.info? 3).map (fun i => (i.zero, i.size, i.bytes)) = some (some (.int .i64 0), 1, 8) := by kernel_rfl
set_option maxRecDepth 100000 in
set_option maxHeartbeats 8000000 in
theorem toIntS_any (s : Option Addr) (n c : Nat) (z : Nat → Int) (hn : n ≤ 1048576) (hc : n ≤ c) (w : World) (hI : IR w s n z) :
    Calls Try.prog 33 #[.slice s n c] w fun e w' => e = .returned (.slice (some ⟨w.heap.size, 0, none⟩) n n) ∧ IR w' (some ⟨w.heap.size, 0, none⟩) n z ∧ Below w.heap.size w w' := by
  have hmk := Go.run_make_row' (P := Try.prog) 33 3 (.int .i64 0) 8 Try.underlying33 infoI rfl .i64 .i64 n (by omega) (by omega)
  have K0 := Lib.hid (Blk.new w 3 (madeCells #[.int .i64 0] n))
  rw [made_iv n z] at K0
  rw [made_iv n z] at hmk
  have B0 : Hid (Below w.heap.size w (w.alloc (.cells (iv n (cpF z 0)) 3))) := below_n w _
  have HI := Lib.hid hI
  clear hI
  go_enter Try.func33, Try.ntmps33
  go_wp2_with fail
  go_loopg [4] n (fun gk sv wr => ∃ a : Nat, a + gk = n ∧ sv = .int .i64 a ∧ Hid (Blk wr w.heap.size 3 (iv n (cpF z a))) ∧ Hid (Below w.heap.size w wr))
  case atStart => exact ⟨0, by omega, rfl, K0, B0⟩
  case round =>
    clear K0 B0 hmk
    obtain ⟨a, ha, rfl, K, B⟩ := hrel
    by_cases hla : a < n
    · have hxa : (a : Int) < (n : Int) := by omega
      rcases HI.out with h0 | ⟨b, off, rfl, hlt, hcell⟩
      · omega
      have hd := (B.out.cell (p := ⟨b, off + a, none⟩) hlt).trans (hcell a hla)
      have hcc := (K.out.cell a).trans (iv_get _ hla)
      have hf := K.out.frozen a
      have k5 := K.out.set_ a (.int .i64 (z a))
      rw [cpF_next z hla] at k5
      have K5 := Lib.hid k5
      have B5 := Lib.hid (B.out.setCell (p := ⟨w.heap.size, a, none⟩) (Nat.le_refl _) (.int .i64 (z a)))
      clear k5 K B HI hcell hlt
      go_wp2_with fail
      go_roundg (gk - 1)
      case measure => omega
      case rel => exact ⟨a + 1, by omega, by go_num, K5, B5⟩
    · obtain rfl : a = n := by omega
      rw [cpF_all z] at K
      clear HI hla
      go_wp2_with fail
      go_ret
      exact ⟨rfl, IR.of_blk K.out, B.out⟩
set_option maxRecDepth 100000 in
set_option maxHeartbeats 8000000 in
theorem eqIntS_any (s t : Option Addr) (n c d : Nat) (z : Nat → Int) (hn : n ≤ 1048576) (hc : n ≤ c) (hd : n ≤ d) (w : World) (hI : IR w s n z) (hJ : IR w t n z) :
    Calls Try.prog 34 #[.slice s n c, .slice t n d] w fun e w' => e = .returned (.bool true) ∧ Below w.heap.size w w' := by
  have HI := Lib.hid hI
  have HJ := Lib.hid hJ
  have H0 := Lib.hid (Sit.refl w)
  clear hI hJ
  go_enter Try.func34, Try.ntmps34
  go_wp2_with fail
  go_loopg [5] n (fun gk sv wr => ∃ a : Nat, a + gk = n ∧ sv = .int .i64 a ∧ Hid (Sit w wr []))
  case atStart => exact ⟨0, by omega, rfl, H0⟩
  case round =>
    clear H0
    obtain ⟨a, ha, rfl, HH⟩ := hrel
    by_cases hla : a < n
    · have hxa : (a : Int) < (n : Int) := by omega
      rcases HI.out with h0 | ⟨b, off, rfl, hlt, hcell⟩
      · omega
      rcases HJ.out with h0 | ⟨b', off', rfl, hlt', hcell'⟩
      · omega
      have H := (HH.out.more (p := ⟨b, off + a, none⟩) (Nat.lt_of_lt_of_le hlt HH.out.below.size) ((HH.out.below.cell (p := ⟨b, off + a, none⟩) hlt).trans (hcell a hla))).more (p := ⟨b', off' + a, none⟩) (Nat.lt_of_lt_of_le hlt' HH.out.below.size) ((HH.out.below.cell (p := ⟨b', off' + a, none⟩) hlt').trans (hcell' a hla))
      generalize z a = x at *
      have q1 : (x != x) = false := by simp
      clear HI HJ HH hcell hcell' hlt hlt'
      go_wp2_with fail
      refine region_class (fun W => Sit w W [(⟨b', off' + a, none⟩, .int .i64 x), (⟨b, off + a, none⟩, .int .i64 x)]) (by kernel_rfl) (by kernel_rfl) H.drew ?_
      repeat (first | go_big_quiet_skip | (go_big_quiet_want; first | (apply quiet_value; (· (intro W hW; (have d0 := hW.get (p := ⟨b, off + a, none⟩) (v := .int .i64 x) (by simp); have d1 := hW.get (p := ⟨b', off' + a, none⟩) (v := .int .i64 x) (by simp)); go_simp; exact rfl)); simp only [Act.put, List.setIfInBounds_toArray, List.set_cons_zero, List.set_cons_succ]; go_big_quiet_on) | (apply quiet_call; (· (intro W hW; go_simp; exact ⟨rfl, rfl⟩)); (· (intro W hW; first | with_reducible exact ((hW.out W)).mono fun _ _ h => ⟨h.1, hW.call h.2⟩)); simp only [Act.put, List.setIfInBounds_toArray, List.set_cons_zero, List.set_cons_succ]; go_big_quiet_on)))
      refine wpQuiet_nil ?_
      intro wq hq
      clear H
      have H := hq
      clear hq
      go_wp2_with fail
      go_roundg (gk - 1)
      case measure => omega
      case rel => exact ⟨a + 1, by omega, by go_num, Lib.hid (H.less (by simp))⟩
    · obtain rfl : a = n := by omega
      clear HI HJ hla
      go_wp2_with fail
      go_ret
      exact ⟨rfl, HH.out.below⟩
end Go.Proofs.Ytndlhdmpfnadcaa

/- Lines: the law's own copies and comparisons. -/
namespace Go.Proofs.Ytndlhdmpfnadcaa
open Go.RowKit
open Pl
set_option linter.unusedVariables false

set_option maxRecDepth 100000 in
set_option maxHeartbeats 8000000 in
theorem eqLine_any (R A P Q B : ByteArray) (s t : Option Addr) (n c d : Nat) (z : Nat → Int) (hn : n ≤ 1048576) (hc : n ≤ c) (hd : n ≤ d) (w : World) (hI : IR w s n z) (hJ : IR w t n z) :
    Calls Try.prog 19 #[.agg #[.string R, .string A, .string P, .string Q, .string B, .slice s n c], .agg #[.string R, .string A, .string P, .string Q, .string B, .slice t n d]] w fun e w' => e = .returned (.bool true) ∧ Below w.heap.size w w' := by
  have H := ((Sit.refl w).box6 (a := .string R) (b := .string A) (c := .string P) (d := .string Q) (e := .string B) (f := .slice s n c) 35).box6 (a := .string R) (b := .string A) (c := .string P) (d := .string Q) (e := .string B) (f := .slice t n d) 35
  have hpq : (w.alloc (.cells #[.string R, .string A, .string P, .string Q, .string B, .slice s n c] 35)).heap.size = w.heap.size + 1 := by simp
  rw [hpq] at H
  have EI := Lib.hid (fun w => eqIntS_any s t n c d z hn hc hd w)
  have HI := Lib.hid (hI.call H.below)
  have HJ := Lib.hid (hJ.call H.below)
  have d0 := H.get (p := ⟨w.heap.size + 1, 0, none⟩) (v := .string R) (by simp)
  have d1 := H.get (p := ⟨w.heap.size + 1, 1, none⟩) (v := .string A) (by simp)
  have d2 := H.get (p := ⟨w.heap.size + 1, 2, none⟩) (v := .string P) (by simp)
  have d3 := H.get (p := ⟨w.heap.size + 1, 3, none⟩) (v := .string Q) (by simp)
  have d4 := H.get (p := ⟨w.heap.size + 1, 4, none⟩) (v := .string B) (by simp)
  have d5 := H.get (p := ⟨w.heap.size + 1, 5, none⟩) (v := .slice t n d) (by simp)
  have d6 := H.get (p := ⟨w.heap.size, 0, none⟩) (v := .string R) (by simp)
  have d7 := H.get (p := ⟨w.heap.size, 1, none⟩) (v := .string A) (by simp)
  have d8 := H.get (p := ⟨w.heap.size, 2, none⟩) (v := .string P) (by simp)
  have d9 := H.get (p := ⟨w.heap.size, 3, none⟩) (v := .string Q) (by simp)
  have d10 := H.get (p := ⟨w.heap.size, 4, none⟩) (v := .string B) (by simp)
  have d11 := H.get (p := ⟨w.heap.size, 5, none⟩) (v := .slice s n c) (by simp)
  have q0 : (R.toList != R.toList) = false := by simp
  have q1 : (A.toList != A.toList) = false := by simp
  have q2 : (P.toList != P.toList) = false := by simp
  have q3 : (Q.toList != Q.toList) = false := by simp
  have q4 : (B.toList != B.toList) = false := by simp
  have BB := Lib.hid H.below
  clear hI hJ H hpq
  go_enter Try.func19, Try.ntmps19
  go_wp2_with fail
  refine (EI.out _ HI.out HJ.out).mono ?_
  rintro e w' ⟨rfl, hb⟩
  have B2 := Lib.hid (below_2 BB.out hb)
  clear hb d0 d1 d2 d3 d4 d5 d6 d7 d8 d9 d10 d11
  go_wp2_with fail
  go_ret
  exact ⟨rfl, B2.out⟩
set_option maxRecDepth 100000 in
set_option maxHeartbeats 8000000 in
theorem toLine_new (R A P Q B : ByteArray) (s : Option Addr) (n c : Nat) (z : Nat → Int) (hn : n ≤ 1048576) (hc : n ≤ c) (w : World) (hI : IR w s n z) :
    Calls Try.prog 18 #[.agg #[.string R, .string A, .string P, .string Q, .string B, .slice s n c]] w fun e w' => ∃ g, w.heap.size ≤ g ∧ e = .returned (.agg #[.string R, .string A, .string P, .string Q, .string B, .slice (some ⟨g, 0, none⟩) n n]) ∧ IR w' (some ⟨g, 0, none⟩) n z ∧ Below w.heap.size w w' := by
  have H := (Sit.refl w).box6 (a := .string R) (b := .string A) (c := .string P) (d := .string Q) (e := .string B) (f := .slice s n c) 40
  obtain ⟨d0, d1, d2, d3, d4, d5⟩ := H.c6
  have x1 : (w.alloc (.cells #[.string R, .string A, .string P, .string Q, .string B, .slice s n c] 40)).heap.size = w.heap.size + 1 := by simp
  have x2 : ((w.alloc (.cells #[.string R, .string A, .string P, .string Q, .string B, .slice s n c] 40)).alloc (.cells #[.string ⟨#[]⟩, .string ⟨#[]⟩, .string ⟨#[]⟩, .string ⟨#[]⟩, .string ⟨#[]⟩, .slice none 0 0] 35)).heap.size = w.heap.size + 1 + 1 := by simp
  have k3 := Blk.new ((w.alloc (.cells #[.string R, .string A, .string P, .string Q, .string B, .slice s n c] 40)).alloc (.cells #[.string ⟨#[]⟩, .string ⟨#[]⟩, .string ⟨#[]⟩, .string ⟨#[]⟩, .string ⟨#[]⟩, .slice none 0 0] 35)) 35 #[.string R, .string A, .string P, .string Q, .string B, .slice none 0 0]
  have k2 := (Blk.new (w.alloc (.cells #[.string R, .string A, .string P, .string Q, .string B, .slice s n c] 40)) 35 #[.string ⟨#[]⟩, .string ⟨#[]⟩, .string ⟨#[]⟩, .string ⟨#[]⟩, .string ⟨#[]⟩, .slice none 0 0]).alloc (.cells #[.string R, .string A, .string P, .string Q, .string B, .slice none 0 0] 35)
  rw [x2] at k3
  rw [x1] at k2
  have K2 := Lib.hid k2
  have K3 := Lib.hid k3
  have H3 : Sit w (((w.alloc (.cells #[.string R, .string A, .string P, .string Q, .string B, .slice s n c] 40)).alloc (.cells #[.string ⟨#[]⟩, .string ⟨#[]⟩, .string ⟨#[]⟩, .string ⟨#[]⟩, .string ⟨#[]⟩, .slice none 0 0] 35)).alloc (.cells #[.string R, .string A, .string P, .string Q, .string B, .slice none 0 0] 35)) [] := ((((Sit.refl w).alloc _).alloc _).alloc _)
  have HI := Lib.hid (hI.call H3.below)
  have B3 := Lib.hid H3.below
  have x3 : (((w.alloc (.cells #[.string R, .string A, .string P, .string Q, .string B, .slice s n c] 40)).alloc (.cells #[.string ⟨#[]⟩, .string ⟨#[]⟩, .string ⟨#[]⟩, .string ⟨#[]⟩, .string ⟨#[]⟩, .slice none 0 0] 35)).alloc (.cells #[.string R, .string A, .string P, .string Q, .string B, .slice none 0 0] 35)).heap.size = w.heap.size + 1 + 1 + 1 := by simp
  have TI := Lib.hid (toIntS_any s n c z hn hc (((w.alloc (.cells #[.string R, .string A, .string P, .string Q, .string B, .slice s n c] 40)).alloc (.cells #[.string ⟨#[]⟩, .string ⟨#[]⟩, .string ⟨#[]⟩, .string ⟨#[]⟩, .string ⟨#[]⟩, .slice none 0 0] 35)).alloc (.cells #[.string R, .string A, .string P, .string Q, .string B, .slice none 0 0] 35)) HI.out)
  rw [x3] at TI
  have LT2 : Hid (w.heap.size + 1 < (((w.alloc (.cells #[.string R, .string A, .string P, .string Q, .string B, .slice s n c] 40)).alloc (.cells #[.string ⟨#[]⟩, .string ⟨#[]⟩, .string ⟨#[]⟩, .string ⟨#[]⟩, .string ⟨#[]⟩, .slice none 0 0] 35)).alloc (.cells #[.string R, .string A, .string P, .string Q, .string B, .slice none 0 0] 35)).heap.size) := k2.lt
  have LT3 : Hid (w.heap.size + 1 + 1 < (((w.alloc (.cells #[.string R, .string A, .string P, .string Q, .string B, .slice s n c] 40)).alloc (.cells #[.string ⟨#[]⟩, .string ⟨#[]⟩, .string ⟨#[]⟩, .string ⟨#[]⟩, .string ⟨#[]⟩, .slice none 0 0] 35)).alloc (.cells #[.string R, .string A, .string P, .string Q, .string B, .slice none 0 0] 35)).heap.size) := k3.lt
  clear H H3 hI k2 k3 x1 x2 x3
  go_enter Try.func18, Try.ntmps18
  go_wp2_with fail
  refine TI.out.mono ?_
  rintro e w1 ⟨rfl, hir, hb⟩
  have hb' := Lib.hid (below_2 B3.out (hb.mono (by simp)))
  have j2 := Lib.hid (K2.out.below hb (by simp))
  have j3 := Lib.hid (K3.out.below hb (by simp))
  have IR1 := Lib.hid hir
  clear hb hir TI HI B3 K2 K3 LT2 LT3 d0 d1 d2 d3 d4 d5
  obtain ⟨T, hT⟩ : ∃ T : Value, Value.slice (some ⟨w.heap.size + 1 + 1 + 1, 0, none⟩) n n = T := ⟨_, rfl⟩
  have k5 := j3.out.set_ 5 (.slice (some ⟨w.heap.size + 1 + 1 + 1, 0, none⟩) n n)
  simp at k5
  have k6 := j2.out.far (p := ⟨w.heap.size + 1 + 1, 5, none⟩) (by simp) (.slice (some ⟨w.heap.size + 1 + 1 + 1, 0, none⟩) n n)
  have c5 := j3.out.cell 5
  have f5 := j3.out.frozen 5
  have a0 := k5.cell 0
  have b0 := k6.cell 0
  have e0 := k6.frozen 0
  have a1 := k5.cell 1
  have b1 := k6.cell 1
  have e1 := k6.frozen 1
  have a2 := k5.cell 2
  have b2 := k6.cell 2
  have e2 := k6.frozen 2
  have a3 := k5.cell 3
  have b3 := k6.cell 3
  have e3 := k6.frozen 3
  have a4 := k5.cell 4
  have b4 := k6.cell 4
  have e4 := k6.frozen 4
  have a5 := k5.cell 5
  have b5 := k6.cell 5
  have e5 := k6.frozen 5
  simp at c5 a0 b0 a1 b1 a2 b2 a3 b3 a4 b4 a5 b5
  have J6 := Lib.hid k6
  clear k5 k6 j2 j3 hT
  go_wp2_with fail
  have kF := ((((((J6.out.set_ 0 (.string R)).set_ 1 (.string A)).set_ 2 (.string P)).set_ 3 (.string Q)).set_ 4 (.string B)).set_ 5 (.slice (some ⟨w.heap.size + 1 + 1 + 1, 0, none⟩) n n))
  have irF := (((((((IR1.out.setCell (p := ⟨w.heap.size + 1 + 1, 5, none⟩) (by show _ ≠ _; simp only [ne_eq]; omega) (.slice (some ⟨w.heap.size + 1 + 1 + 1, 0, none⟩) n n)).setCell (p := ⟨w.heap.size + 1, 0, none⟩) (by show _ ≠ _; simp only [ne_eq]; omega) (.string R)).setCell (p := ⟨w.heap.size + 1, 1, none⟩) (by show _ ≠ _; simp only [ne_eq]; omega) (.string A)).setCell (p := ⟨w.heap.size + 1, 2, none⟩) (by show _ ≠ _; simp only [ne_eq]; omega) (.string P)).setCell (p := ⟨w.heap.size + 1, 3, none⟩) (by show _ ≠ _; simp only [ne_eq]; omega) (.string Q)).setCell (p := ⟨w.heap.size + 1, 4, none⟩) (by show _ ≠ _; simp only [ne_eq]; omega) (.string B)).setCell (p := ⟨w.heap.size + 1, 5, none⟩) (by show _ ≠ _; simp only [ne_eq]; omega) (.slice (some ⟨w.heap.size + 1 + 1 + 1, 0, none⟩) n n))
  have BF := (((((((hb'.out.setCell (p := ⟨w.heap.size + 1 + 1, 5, none⟩) (by first | (simp; done) | (simp; omega)) (.slice (some ⟨w.heap.size + 1 + 1 + 1, 0, none⟩) n n)).setCell (p := ⟨w.heap.size + 1, 0, none⟩) (by first | (simp; done) | (simp; omega)) (.string R)).setCell (p := ⟨w.heap.size + 1, 1, none⟩) (by first | (simp; done) | (simp; omega)) (.string A)).setCell (p := ⟨w.heap.size + 1, 2, none⟩) (by first | (simp; done) | (simp; omega)) (.string P)).setCell (p := ⟨w.heap.size + 1, 3, none⟩) (by first | (simp; done) | (simp; omega)) (.string Q)).setCell (p := ⟨w.heap.size + 1, 4, none⟩) (by first | (simp; done) | (simp; omega)) (.string B)).setCell (p := ⟨w.heap.size + 1, 5, none⟩) (by first | (simp; done) | (simp; omega)) (.slice (some ⟨w.heap.size + 1 + 1 + 1, 0, none⟩) n n))
  have g0 := kF.cell 0
  have g1 := kF.cell 1
  have g2 := kF.cell 2
  have g3 := kF.cell 3
  have g4 := kF.cell 4
  have g5 := kF.cell 5
  simp at g0 g1 g2 g3 g4 g5
  exact bodyPost_ret (v := .agg #[.string R, .string A, .string P, .string Q, .string B, .slice (some ⟨w.heap.size + 1 + 1 + 1, 0, none⟩) n n]) (by simp [results, Try.results18, go_sem, g0, g1, g2, g3, g4, g5]) rfl ⟨_, by omega, rfl, irF, BF⟩
theorem toLine_any (R A P Q B : ByteArray) (s : Option Addr) (n c : Nat) (z : Nat → Int) (hn : n ≤ 1048576) (hc : n ≤ c) (w : World) (hI : IR w s n z) :
    Calls Try.prog 18 #[.agg #[.string R, .string A, .string P, .string Q, .string B, .slice s n c]] w fun e w' => ∃ t, e = .returned (.agg #[.string R, .string A, .string P, .string Q, .string B, .slice t n n]) ∧ IR w' t n z ∧ Below w.heap.size w w' :=
  (toLine_new R A P Q B s n c z hn hc w hI).mono fun _ _ ⟨_, _, h1, h2, h3⟩ => ⟨_, h1, h2, h3⟩
end Go.Proofs.Ytndlhdmpfnadcaa

/- Rows of lines: the number of lines with a rule. -/
namespace Go.Proofs.Ytndlhdmpfnadcaa
open Go.RowKit
open Pl
set_option linter.unusedVariables false

/-- the data of a line -/
structure LnD where
  R : ByteArray
  A : ByteArray
  P : ByteArray
  Q : ByteArray
  B : ByteArray
  s : Option Addr
  n : Nat
  c : Nat
  z : Nat → Int
/-- a row of lines that can be read -/
def LR (W : World) (s : Option Addr) (n : Nat) (L : Nat → LnD) : Prop :=
  n = 0 ∨ ∃ b off, s = some ⟨b, off, none⟩ ∧ b < W.heap.size ∧ ∀ i, i < n →
    (W.cell? ⟨b, off + i * 6, none⟩ = some (.string (L i).R) ∧ W.cell? ⟨b, off + i * 6 + 1, none⟩ = some (.string (L i).A) ∧ W.cell? ⟨b, off + i * 6 + 2, none⟩ = some (.string (L i).P) ∧ W.cell? ⟨b, off + i * 6 + 3, none⟩ = some (.string (L i).Q) ∧ W.cell? ⟨b, off + i * 6 + 4, none⟩ = some (.string (L i).B) ∧ W.cell? ⟨b, off + i * 6 + 5, none⟩ = some (.slice (L i).s (L i).n (L i).c)) ∧
    IR W (L i).s (L i).n (L i).z ∧ (L i).n ≤ (L i).c
theorem LR.call {W W' : World} {s : Option Addr} {n : Nat} {L : Nat → LnD} (h : LR W s n L) (hb : Below W.heap.size W W') : LR W' s n L := by
  rcases h with h | ⟨b, off, hs, hlt, hc⟩
  · exact .inl h
  · refine .inr ⟨b, off, hs, Nat.lt_of_lt_of_le hlt hb.size, fun i hi => ?_⟩
    obtain ⟨⟨h0, h1, h2, h3, h4, h5⟩, hI, hn⟩ := hc i hi
    exact ⟨⟨(hb.cell (p := ⟨b, _, none⟩) hlt).trans h0, (hb.cell (p := ⟨b, _, none⟩) hlt).trans h1, (hb.cell (p := ⟨b, _, none⟩) hlt).trans h2, (hb.cell (p := ⟨b, _, none⟩) hlt).trans h3, (hb.cell (p := ⟨b, _, none⟩) hlt).trans h4, (hb.cell (p := ⟨b, _, none⟩) hlt).trans h5⟩, hI.call hb, hn⟩
def isR (L : Nat → LnD) (r : ByteArray) (i : Nat) : Bool := (L i).R.toList == r.toList
set_option maxRecDepth 100000 in
set_option maxHeartbeats 8000000 in
theorem CountRulesS_any (s : Option Addr) (n c : Nat) (L : Nat → LnD) (r : ByteArray) (hn : n ≤ 1048576) (hc : n ≤ c) (w : World) (hI : LR w s n L) :
    Calls Try.prog 7 #[.slice s n c, .string r] w fun e w' => e = .returned (.int .i64 (cnt n (isR L r) : Nat)) ∧ Below w.heap.size w w' := by
  have HI := Lib.hid hI
  have H0 := Lib.hid (Below.refl w.heap.size w)
  clear hI
  obtain ⟨m9, hm9⟩ : ∃ m, cnt n (isR L r) = m := ⟨_, rfl⟩
  have HM9 := Lib.hid hm9
  rw [hm9]
  clear hm9
  go_enter Try.func7, Try.ntmps7
  go_wp2_with fail
  go_loopg [5, 6] n (fun gk cv sv wr => ∃ a m : Nat, a + gk = n ∧ sv = .int .i64 a ∧ cv = .int .i64 m ∧ m ≤ a ∧ Hid (cnt a (isR L r) = m) ∧ Hid (Below w.heap.size w wr))
  case atStart => exact ⟨0, 0, by omega, rfl, rfl, Nat.le_refl _, Lib.hid rfl, H0⟩
  case round =>
    clear H0
    obtain ⟨a, m, ha, rfl, rfl, hm, HM, HB⟩ := hrel
    by_cases hla : a < n
    · have hxa : (a : Int) < (n : Int) := by omega
      rcases HI.out with h0 | ⟨b, off, rfl, hlt, hcell⟩
      · omega
      have hd := (HB.out.cell (p := ⟨b, off + a * 6, none⟩) hlt).trans (hcell a hla).1.1
      have hs := cnt_succ a (isR L r)
      rw [HM.out] at hs
      clear HI hcell hlt
      have hq : isR L r a = ((L a).R.toList == r.toList) := rfl
      cases hb : isR L r a
      · rw [hb] at hs hq
        have HM2 : Hid (cnt (a + 1) (isR L r) = m) := hs
        have q1 : ((L a).R.toList == r.toList) = false := hq.symm
        generalize (L a).R = X at *
        clear hs HM hb hq
        go_wp2_with fail
        go_roundg (gk - 1)
        case measure => omega
        case rel => exact ⟨a + 1, m, by omega, by go_num, by go_num, by omega, HM2, HB⟩
      · rw [hb] at hs hq
        have HM2 : Hid (cnt (a + 1) (isR L r) = m + 1) := hs
        have q1 : ((L a).R.toList == r.toList) = true := hq.symm
        generalize (L a).R = X at *
        clear hs HM hb hq
        go_wp2_with fail
        go_roundg (gk - 1)
        case measure => omega
        case rel => exact ⟨a + 1, m + 1, by omega, by go_num, by go_num, by omega, HM2, HB⟩
    · obtain rfl : a = n := by omega
      obtain rfl : m9 = m := HM9.out.symm.trans HM.out
      clear HI hla
      go_wp2_with fail
      go_ret
      exact ⟨rfl, HB.out⟩
set_option maxRecDepth 100000 in
set_option maxHeartbeats 8000000 in
theorem CountRules_any (s : Option Addr) (n c : Nat) (L : Nat → LnD) (r : ByteArray) (hn : n ≤ 1048576) (hc : n ≤ c) (w : World) (hI : LR w s n L) :
    Calls Try.prog 9 #[.slice s n c, .string r] w fun e w' => e = .returned (.int .i64 (cnt n (isR L r) : Nat)) ∧ Below w.heap.size w w' := by
  have HI := Lib.hid hI
  have H0 := Lib.hid (Below.refl w.heap.size w)
  clear hI
  obtain ⟨m9, hm9⟩ : ∃ m, cnt n (isR L r) = m := ⟨_, rfl⟩
  have HM9 := Lib.hid hm9
  rw [hm9]
  clear hm9
  go_enter Try.func9, Try.ntmps9
  go_wp2_with fail
  go_loopg [5, 10] n (fun gk cv sv wr => ∃ a m : Nat, a + gk = n ∧ sv = .int .i64 a ∧ cv = .int .i64 m ∧ m ≤ a ∧ Hid (cnt a (isR L r) = m) ∧ Hid (Below w.heap.size w wr))
  case atStart => exact ⟨0, 0, by omega, rfl, rfl, Nat.le_refl _, Lib.hid rfl, H0⟩
  case round =>
    clear H0
    obtain ⟨a, m, ha, rfl, rfl, hm, HM, HB⟩ := hrel
    by_cases hla : a < n
    · have hxa : (a : Int) < (n : Int) := by omega
      rcases HI.out with h0 | ⟨b, off, rfl, hlt, hcell⟩
      · omega
      obtain ⟨x0, x1, x2, x3, x4, x5⟩ := (hcell a hla).1
      have d0 := (HB.out.cell (p := ⟨b, off + a * 6, none⟩) hlt).trans x0
      have d1 := (HB.out.cell (p := ⟨b, off + a * 6 + 1, none⟩) hlt).trans x1
      have d2 := (HB.out.cell (p := ⟨b, off + a * 6 + 2, none⟩) hlt).trans x2
      have d3 := (HB.out.cell (p := ⟨b, off + a * 6 + 3, none⟩) hlt).trans x3
      have d4 := (HB.out.cell (p := ⟨b, off + a * 6 + 4, none⟩) hlt).trans x4
      have d5 := (HB.out.cell (p := ⟨b, off + a * 6 + 5, none⟩) hlt).trans x5
      clear x0 x1 x2 x3 x4 x5
      have n0 := (Blk.new wr 35 #[.string (L a).R, .string (L a).A, .string (L a).P, .string (L a).Q, .string (L a).B, .slice (L a).s (L a).n (L a).c]).cell 0
      simp at n0
      have HB2 : Hid (Below w.heap.size w (wr.alloc (.cells #[.string (L a).R, .string (L a).A, .string (L a).P, .string (L a).Q, .string (L a).B, .slice (L a).s (L a).n (L a).c] 35))) := Lib.hid (below_2 HB.out (below_n wr _))
      have hs := cnt_succ a (isR L r)
      rw [HM.out] at hs
      clear HI hcell hlt
      have hq : isR L r a = ((L a).R.toList == r.toList) := rfl
      cases hb : isR L r a
      · rw [hb] at hs hq
        have HM2 : Hid (cnt (a + 1) (isR L r) = m) := hs
        have q1 : ((L a).R.toList == r.toList) = false := hq.symm
        generalize (L a).R = X at *
        clear hs HM hb hq HB
        go_wp2_with fail
        go_roundg (gk - 1)
        case measure => omega
        case rel => exact ⟨a + 1, m, by omega, by go_num, by go_num, by omega, HM2, HB2⟩
      · rw [hb] at hs hq
        have HM2 : Hid (cnt (a + 1) (isR L r) = m + 1) := hs
        have q1 : ((L a).R.toList == r.toList) = true := hq.symm
        generalize (L a).R = X at *
        clear hs HM hb hq HB
        go_wp2_with fail
        go_roundg (gk - 1)
        case measure => omega
        case rel => exact ⟨a + 1, m + 1, by omega, by go_num, by go_num, by omega, HM2, HB2⟩
    · obtain rfl : a = n := by omega
      obtain rfl : m9 = m := HM9.out.symm.trans HM.out
      clear HI hla
      go_wp2_with fail
      go_ret
      exact ⟨rfl, HB.out⟩
end Go.Proofs.Ytndlhdmpfnadcaa

/- Rows of lines: the law's helper on sizes. -/
namespace Go.Proofs.Ytndlhdmpfnadcaa
open Go.RowKit
open Pl
set_option linter.unusedVariables false

/-- a line's size -/
def szD (x : LnD) : Nat := x.R.size + x.A.size + x.P.size + x.Q.size + x.B.size + x.n
def smD (x : LnD) : Prop := (x.R.size ≤ 9223372036854775807 ∧ x.A.size ≤ 9223372036854775807 ∧ x.P.size ≤ 9223372036854775807 ∧ x.Q.size ≤ 9223372036854775807 ∧ x.B.size ≤ 9223372036854775807) ∧ x.n ≤ 9223372036854775807
set_option maxRecDepth 100000 in
set_option maxHeartbeats 8000000 in
theorem szLineS_any (s : Option Addr) (n c l : Nat) (L : Nat → LnD) (hn : n ≤ 9223372036854775807) (hl : l ≤ 1048576) (hs : ∀ i, i < n → smD (L i)) (w : World) (hI : LR w s n L) :
    Calls Try.prog 6 #[.slice s n c, .int .i64 (l : Int)] w fun e w' => ∃ r : Int, e = .returned (.int .i64 r) ∧ Below w.heap.size w w' ∧ (r = -1 ∨ 0 ≤ r ∧ n ≤ l ∧ ∀ i, i < n → szD (L i) ≤ l) := by
  by_cases h : n ≤ l
  · obtain ⟨m, hm⟩ : ∃ m, n + m = l := ⟨l - n, by omega⟩
    have g1 : (l : Int) - (n : Int) = (m : Int) := by omega
    have g2 : wrap64 ((l : Int) - (n : Int)) = (m : Int) := by unfold wrap64; omega
    have g3 : decide ((m : Int) < 0) = false := decide_eq_false (by omega)
    have hml : m ≤ l := by omega
    have HI := Lib.hid hI
    have HS := Lib.hid hs
    have H0 := Lib.hid (Below.refl w.heap.size w)
    clear hI hs hm
    go_enter Try.func6, Try.ntmps6
    go_wp2_with fail
    go_loopg [1, 5] n (fun gk cv sv wr => ∃ a m : Nat, a + gk = n ∧ sv = .int .i64 a ∧ cv = .int .i64 m ∧ m ≤ l ∧ Hid (∀ i, i < a → szD (L i) ≤ l) ∧ Hid (Below w.heap.size w wr))
    case atStart => exact ⟨0, m, by omega, rfl, by first | rfl | rw [g1] | rw [g2], hml, Lib.hid (fun i hi => by omega), H0⟩
    case round =>
      clear H0 g1 g2 g3 hml
      obtain ⟨a, m, ha, rfl, rfl, hm, HZ, HB⟩ := hrel
      by_cases hla : a < n
      · have hxa : (a : Int) < (n : Int) := by omega
        rcases HI.out with h0 | ⟨b, off, rfl, hlt, hcell⟩
        · omega
        obtain ⟨x0, x1, x2, x3, x4, x5⟩ := (hcell a hla).1
        have d0 := (HB.out.cell (p := ⟨b, off + a * 6, none⟩) hlt).trans x0
        have d1 := (HB.out.cell (p := ⟨b, off + a * 6 + 1, none⟩) hlt).trans x1
        have d2 := (HB.out.cell (p := ⟨b, off + a * 6 + 2, none⟩) hlt).trans x2
        have d3 := (HB.out.cell (p := ⟨b, off + a * 6 + 3, none⟩) hlt).trans x3
        have d4 := (HB.out.cell (p := ⟨b, off + a * 6 + 4, none⟩) hlt).trans x4
        have d5 := (HB.out.cell (p := ⟨b, off + a * 6 + 5, none⟩) hlt).trans x5
        obtain ⟨hs5, hsn⟩ := HS.out a hla
        have SZ := Lib.hid (fun w => szLine_any (L a).R (L a).A (L a).P (L a).Q (L a).B (L a).s (L a).n (L a).c m hs5 hsn (by omega) w)
        clear x0 x1 x2 x3 x4 x5 HI HS hcell hlt hs5 hsn
        by_cases hsum : m < (L a).R.size + (L a).A.size + (L a).P.size + (L a).Q.size + (L a).B.size + (L a).n
        · rw [leftV_no hsum] at SZ
          clear hsum HZ
          go_wp2_with fail
          refine (SZ.out _).mono ?_
          rintro e w1 ⟨rfl, hb⟩
          have B1 := Lib.hid (below_2 HB.out hb)
          clear hb
          go_wp2_with fail
          go_ret
          exact ⟨_, rfl, B1.out, .inl rfl⟩
        · obtain ⟨m2, hm2⟩ : ∃ k, (L a).R.size + (L a).A.size + (L a).P.size + (L a).Q.size + (L a).B.size + (L a).n + k = m := ⟨m - ((L a).R.size + (L a).A.size + (L a).P.size + (L a).Q.size + (L a).B.size + (L a).n), by omega⟩
          rw [leftV_yes hm2] at SZ
          have g4 : decide ((m2 : Int) < 0) = false := decide_eq_false (by omega)
          have HZ2 : Hid (∀ i, i < a + 1 → szD (L i) ≤ l) := Lib.hid (fun i hi => by
            by_cases e : i = a
            · subst e; unfold szD; omega
            · exact HZ.out i (by omega))
          have hm2l : m2 ≤ l := by omega
          clear hsum HZ hm2
          go_wp2_with fail
          refine (SZ.out _).mono ?_
          rintro e w1 ⟨rfl, hb⟩
          have B1 := Lib.hid (below_2 HB.out hb)
          clear hb d0 d1 d2 d3 d4 d5 HB
          go_wp2_with fail
          go_roundg (gk - 1)
          case measure => omega
          case rel => exact ⟨a + 1, m2, by omega, by go_num, rfl, hm2l, HZ2, B1⟩
      · obtain rfl : a = n := by omega
        clear HI HS hla
        go_wp2_with fail
        go_ret
        exact ⟨_, rfl, HB.out, .inr ⟨by omega, h, HZ.out⟩⟩
  · have g0 : (l : Int) - (n : Int) < 0 := by omega
    have g1 : wrap64 ((l : Int) - (n : Int)) = (l : Int) - (n : Int) := by unfold wrap64; omega
    have g3 : decide ((l : Int) - (n : Int) < 0) = true := by simp; omega
    clear hI hs
    go_enter Try.func6, Try.ntmps6
    go_wp2_with fail
    go_ret
    exact ⟨_, rfl, Below.refl _ _, .inl rfl⟩
end Go.Proofs.Ytndlhdmpfnadcaa

/- Rows of lines: the law's own comparison. -/
namespace Go.Proofs.Ytndlhdmpfnadcaa
open Go.RowKit
open Pl
set_option linter.unusedVariables false

/-- cells that are told of, and two rows of ints -/
structure EqC (w W : World) (l : List (Addr × Value)) (s t : Option Addr) (n : Nat) (z : Nat → Int) : Prop where
  sit : Sit w W l
  i1 : IR W s n z
  i2 : IR W t n z
theorem EqC.call {w W W' : World} {l : List (Addr × Value)} {s t : Option Addr} {n : Nat} {z : Nat → Int} (h : EqC w W l s t n z) (hb : Below W.heap.size W W') : EqC w W' l s t n z := ⟨h.sit.call hb, h.i1.call hb, h.i2.call hb⟩
theorem EqC.drew {w W : World} {l : List (Addr × Value)} {s t : Option Addr} {n : Nat} {z : Nat → Int} (h : EqC w W l s t n z) : EqC w W.drew l s t n z := h.call (below_drew _ _)
/-- two rows of lines hold the same -/
def SameL (n : Nat) (L1 L2 : Nat → LnD) : Prop := ∀ i, i < n → (L2 i).R = (L1 i).R ∧ (L2 i).A = (L1 i).A ∧ (L2 i).P = (L1 i).P ∧ (L2 i).Q = (L1 i).Q ∧ (L2 i).B = (L1 i).B ∧ (L2 i).n = (L1 i).n ∧ (L2 i).z = (L1 i).z ∧ (L1 i).n ≤ 1048576
set_option maxRecDepth 100000 in
set_option maxHeartbeats 8000000 in
theorem eqLineS_any (s t : Option Addr) (n c d : Nat) (L1 L2 : Nat → LnD) (hn : n ≤ 1048576) (hc : n ≤ c) (hd : n ≤ d) (hE : SameL n L1 L2) (w : World) (hI : LR w s n L1) (hJ : LR w t n L2) :
    Calls Try.prog 10 #[.slice s n c, .slice t n d] w fun e w' => e = .returned (.bool true) ∧ Below w.heap.size w w' := by
  have HI := Lib.hid hI
  have HJ := Lib.hid hJ
  have HE := Lib.hid hE
  have H0 := Lib.hid (Sit.refl w)
  clear hI hJ hE
  go_enter Try.func10, Try.ntmps10
  go_wp2_with fail
  go_loopg [5] n (fun gk sv wr => ∃ a : Nat, a + gk = n ∧ sv = .int .i64 a ∧ Hid (Sit w wr []))
  case atStart => exact ⟨0, by omega, rfl, H0⟩
  case round =>
    clear H0
    obtain ⟨a, ha, rfl, HH⟩ := hrel
    by_cases hla : a < n
    · have hxa : (a : Int) < (n : Int) := by omega
      obtain ⟨e0, e1, e2, e3, e4, e5, e6, hm⟩ := HE.out a hla
      rcases HI.out with h0 | ⟨b, off, rfl, hlt, hcell⟩
      · omega
      rcases HJ.out with h0 | ⟨b', off', rfl, hlt', hcell'⟩
      · omega
      obtain ⟨⟨x0, x1, x2, x3, x4, x5⟩, hi1, hc1⟩ := hcell a hla
      obtain ⟨⟨y0, y1, y2, y3, y4, y5⟩, hi2, hc2⟩ := hcell' a hla
      rw [e0] at y0
      rw [e1] at y1
      rw [e2] at y2
      rw [e3] at y3
      rw [e4] at y4
      rw [e5] at y5 hc2
      rw [e5, e6] at hi2
      have hbw := HH.out.below
      have H : EqC w wr [(⟨b', off' + a * 6, none⟩, .string (L1 a).R), (⟨b', off' + a * 6 + 1, none⟩, .string (L1 a).A), (⟨b', off' + a * 6 + 2, none⟩, .string (L1 a).P), (⟨b', off' + a * 6 + 3, none⟩, .string (L1 a).Q), (⟨b', off' + a * 6 + 4, none⟩, .string (L1 a).B), (⟨b', off' + a * 6 + 5, none⟩, .slice (L2 a).s (L1 a).n (L2 a).c), (⟨b, off + a * 6, none⟩, .string (L1 a).R), (⟨b, off + a * 6 + 1, none⟩, .string (L1 a).A), (⟨b, off + a * 6 + 2, none⟩, .string (L1 a).P), (⟨b, off + a * 6 + 3, none⟩, .string (L1 a).Q), (⟨b, off + a * 6 + 4, none⟩, .string (L1 a).B), (⟨b, off + a * 6 + 5, none⟩, .slice (L1 a).s (L1 a).n (L1 a).c)] (L1 a).s (L2 a).s (L1 a).n (L1 a).z := ⟨((((((((((((HH.out.more (p := ⟨b, off + a * 6 + 5, none⟩) (Nat.lt_of_lt_of_le hlt hbw.size) ((hbw.cell (p := ⟨b, off + a * 6 + 5, none⟩) hlt).trans x5)).more (p := ⟨b, off + a * 6 + 4, none⟩) (Nat.lt_of_lt_of_le hlt hbw.size) ((hbw.cell (p := ⟨b, off + a * 6 + 4, none⟩) hlt).trans x4)).more (p := ⟨b, off + a * 6 + 3, none⟩) (Nat.lt_of_lt_of_le hlt hbw.size) ((hbw.cell (p := ⟨b, off + a * 6 + 3, none⟩) hlt).trans x3)).more (p := ⟨b, off + a * 6 + 2, none⟩) (Nat.lt_of_lt_of_le hlt hbw.size) ((hbw.cell (p := ⟨b, off + a * 6 + 2, none⟩) hlt).trans x2)).more (p := ⟨b, off + a * 6 + 1, none⟩) (Nat.lt_of_lt_of_le hlt hbw.size) ((hbw.cell (p := ⟨b, off + a * 6 + 1, none⟩) hlt).trans x1)).more (p := ⟨b, off + a * 6, none⟩) (Nat.lt_of_lt_of_le hlt hbw.size) ((hbw.cell (p := ⟨b, off + a * 6, none⟩) hlt).trans x0)).more (p := ⟨b', off' + a * 6 + 5, none⟩) (Nat.lt_of_lt_of_le hlt' hbw.size) ((hbw.cell (p := ⟨b', off' + a * 6 + 5, none⟩) hlt').trans y5)).more (p := ⟨b', off' + a * 6 + 4, none⟩) (Nat.lt_of_lt_of_le hlt' hbw.size) ((hbw.cell (p := ⟨b', off' + a * 6 + 4, none⟩) hlt').trans y4)).more (p := ⟨b', off' + a * 6 + 3, none⟩) (Nat.lt_of_lt_of_le hlt' hbw.size) ((hbw.cell (p := ⟨b', off' + a * 6 + 3, none⟩) hlt').trans y3)).more (p := ⟨b', off' + a * 6 + 2, none⟩) (Nat.lt_of_lt_of_le hlt' hbw.size) ((hbw.cell (p := ⟨b', off' + a * 6 + 2, none⟩) hlt').trans y2)).more (p := ⟨b', off' + a * 6 + 1, none⟩) (Nat.lt_of_lt_of_le hlt' hbw.size) ((hbw.cell (p := ⟨b', off' + a * 6 + 1, none⟩) hlt').trans y1)).more (p := ⟨b', off' + a * 6, none⟩) (Nat.lt_of_lt_of_le hlt' hbw.size) ((hbw.cell (p := ⟨b', off' + a * 6, none⟩) hlt').trans y0)), hi1.call hbw, hi2.call hbw⟩
      have EL := Lib.hid (fun W h1 h2 => eqLine_any (L1 a).R (L1 a).A (L1 a).P (L1 a).Q (L1 a).B (L1 a).s (L2 a).s (L1 a).n (L1 a).c (L2 a).c (L1 a).z hm hc1 hc2 W h1 h2)
      clear HI HJ HE HH hcell hcell' hlt hlt' x0 x1 x2 x3 x4 x5 y0 y1 y2 y3 y4 y5 hi1 hi2 hbw e0 e1 e2 e3 e4 e5 e6 hc1 hc2 hm
      generalize (L1 a).s = s2 at *
      generalize (L2 a).s = t2 at *
      generalize (L1 a).n = m at *
      generalize (L1 a).c = c1 at *
      generalize (L2 a).c = c2 at *
      generalize (L1 a).z = z at *
      generalize (L1 a).R = R at *
      generalize (L1 a).A = A at *
      generalize (L1 a).P = P at *
      generalize (L1 a).Q = Q at *
      generalize (L1 a).B = B at *
      go_wp2_with fail
      refine region_class (fun W => EqC w W [(⟨b', off' + a * 6, none⟩, .string R), (⟨b', off' + a * 6 + 1, none⟩, .string A), (⟨b', off' + a * 6 + 2, none⟩, .string P), (⟨b', off' + a * 6 + 3, none⟩, .string Q), (⟨b', off' + a * 6 + 4, none⟩, .string B), (⟨b', off' + a * 6 + 5, none⟩, .slice t2 m c2), (⟨b, off + a * 6, none⟩, .string R), (⟨b, off + a * 6 + 1, none⟩, .string A), (⟨b, off + a * 6 + 2, none⟩, .string P), (⟨b, off + a * 6 + 3, none⟩, .string Q), (⟨b, off + a * 6 + 4, none⟩, .string B), (⟨b, off + a * 6 + 5, none⟩, .slice s2 m c1)] s2 t2 m z) (by kernel_rfl) (by kernel_rfl) H.drew ?_
      repeat (first | go_big_quiet_skip | (go_big_quiet_want; first | (apply quiet_value; (· (intro W hW; (have d0 := hW.sit.get (p := ⟨b', off' + a * 6, none⟩) (v := .string R) (by simp); have d1 := hW.sit.get (p := ⟨b', off' + a * 6 + 1, none⟩) (v := .string A) (by simp); have d2 := hW.sit.get (p := ⟨b', off' + a * 6 + 2, none⟩) (v := .string P) (by simp); have d3 := hW.sit.get (p := ⟨b', off' + a * 6 + 3, none⟩) (v := .string Q) (by simp); have d4 := hW.sit.get (p := ⟨b', off' + a * 6 + 4, none⟩) (v := .string B) (by simp); have d5 := hW.sit.get (p := ⟨b', off' + a * 6 + 5, none⟩) (v := .slice t2 m c2) (by simp); have d6 := hW.sit.get (p := ⟨b, off + a * 6, none⟩) (v := .string R) (by simp); have d7 := hW.sit.get (p := ⟨b, off + a * 6 + 1, none⟩) (v := .string A) (by simp); have d8 := hW.sit.get (p := ⟨b, off + a * 6 + 2, none⟩) (v := .string P) (by simp); have d9 := hW.sit.get (p := ⟨b, off + a * 6 + 3, none⟩) (v := .string Q) (by simp); have d10 := hW.sit.get (p := ⟨b, off + a * 6 + 4, none⟩) (v := .string B) (by simp); have d11 := hW.sit.get (p := ⟨b, off + a * 6 + 5, none⟩) (v := .slice s2 m c1) (by simp)); go_simp; exact rfl)); simp only [Act.put, List.setIfInBounds_toArray, List.set_cons_zero, List.set_cons_succ]; go_big_quiet_on) | (apply quiet_call; (· (intro W hW; go_simp; exact ⟨rfl, rfl⟩)); (· (intro W hW; first | with_reducible exact ((EL.out W hW.i1 hW.i2)).mono fun _ _ h => ⟨h.1, hW.call h.2⟩)); simp only [Act.put, List.setIfInBounds_toArray, List.set_cons_zero, List.set_cons_succ]; go_big_quiet_on)))
      refine wpQuiet_nil ?_
      intro wq hq
      clear H
      have H := hq
      clear hq
      go_wp2_with fail
      go_roundg (gk - 1)
      case measure => omega
      case rel => exact ⟨a + 1, by omega, by go_num, Lib.hid (H.sit.less (by simp))⟩
    · obtain rfl : a = n := by omega
      clear HI HJ HE hla
      go_wp2_with fail
      go_ret
      exact ⟨rfl, HH.out.below⟩
end Go.Proofs.Ytndlhdmpfnadcaa

/- Rows of lines: the array of a row's cells. -/
namespace Go.Proofs.Ytndlhdmpfnadcaa
open Go.RowKit
open Pl
set_option linter.unusedVariables false

def fldV (x : LnD) : Nat → Value
  | 0 => .string x.R
  | 1 => .string x.A
  | 2 => .string x.P
  | 3 => .string x.Q
  | 4 => .string x.B
  | _ => .slice x.s x.n x.c
def zeroD : LnD := ⟨⟨#[]⟩, ⟨#[]⟩, ⟨#[]⟩, ⟨#[]⟩, ⟨#[]⟩, none, 0, 0, fun _ => 0⟩
def lvA (n : Nat) (M : Nat → LnD) : Array Value := ((List.range (n * 6)).map (fun j => fldV (M (j / 6)) (j % 6))).toArray
theorem lvA_size (n : Nat) (M : Nat → LnD) : (lvA n M).size = n * 6 := by simp [lvA]
theorem lvA_get {n : Nat} (M : Nat → LnD) {j : Nat} (hj : j < n * 6) : (lvA n M)[j]? = some (fldV (M (j / 6)) (j % 6)) := by simp [lvA, hj]
theorem lvA_cell {n : Nat} (M : Nat → LnD) {i k : Nat} (hi : i < n) (hk : k < 6) : (lvA n M)[i * 6 + k]? = some (fldV (M i) k) := by
  rw [lvA_get M (by omega), show (i * 6 + k) / 6 = i by omega, show (i * 6 + k) % 6 = k by omega]
theorem lvA_ext {n : Nat} {C : Array Value} (M : Nat → LnD) (hz : C.size = n * 6) (h : ∀ j, j < n * 6 → C[j]? = some (fldV (M (j / 6)) (j % 6))) : C = lvA n M := by
  apply Array.ext
  · rw [hz, lvA_size]
  · intro i h1 h2
    have h3 := h i (by omega)
    have h4 := lvA_get M (show i < n * 6 by omega)
    rw [Array.getElem?_eq_getElem h1] at h3
    rw [Array.getElem?_eq_getElem h2] at h4
    exact Option.some.inj (h3.trans h4.symm)
def updL (M : Nat → LnD) (a : Nat) (x : LnD) : Nat → LnD := fun i => if i = a then x else M i
/-- a line put into its place -/
theorem lvA_put {n : Nat} (M : Nat → LnD) {a : Nat} (ha : a < n) (x : LnD) :
    ((((((lvA n M).setIfInBounds (a * 6) (.string x.R)).setIfInBounds (a * 6 + 1) (.string x.A)).setIfInBounds (a * 6 + 2) (.string x.P)).setIfInBounds (a * 6 + 3) (.string x.Q)).setIfInBounds (a * 6 + 4) (.string x.B)).setIfInBounds (a * 6 + 5) (.slice x.s x.n x.c) = lvA n (updL M a x) := by
  apply lvA_ext _ (by simp [lvA_size])
  intro j hj
  simp only [Array.getElem?_setIfInBounds, Array.size_setIfInBounds, lvA_size, lvA_get M hj]
  by_cases h : j / 6 = a
  · have hk : j % 6 = 0 ∨ j % 6 = 1 ∨ j % 6 = 2 ∨ j % 6 = 3 ∨ j % 6 = 4 ∨ j % 6 = 5 := by omega
    have hu : updL M a x (j / 6) = x := if_pos h
    rw [hu]
    rcases hk with e | e | e | e | e | e
    all_goals (rw [e]; repeat' split)
    all_goals first | rfl | omega
  · have hu : updL M a x (j / 6) = M (j / 6) := if_neg h
    rw [hu]
    repeat' split
    all_goals first | rfl | omega
end Go.Proofs.Ytndlhdmpfnadcaa

/- Rows of lines: the law's own copy. -/
namespace Go.Proofs.Ytndlhdmpfnadcaa
open Go.RowKit
open Pl
set_option linter.unusedVariables false

def zL : Value := .agg #[.string ⟨#[]⟩, .string ⟨#[]⟩, .string ⟨#[]⟩, .string ⟨#[]⟩, .string ⟨#[]⟩, .slice none 0 0]
theorem infoL : (Try.prog.info? 35).map (fun i => (i.zero, i.size, i.bytes)) = some (some zL, 6, 104) := by kernel_rfl
theorem made_lv (n : Nat) : madeCells zL.cells (n * 6) = lvA n (fun _ => zeroD) := by
  apply lvA_ext _ (size_madeCells _ _)
  intro j hj
  have hk : j % 6 = 0 ∨ j % 6 = 1 ∨ j % 6 = 2 ∨ j % 6 = 3 ∨ j % 6 = 4 ∨ j % 6 = 5 := by omega
  have h1 : (madeCells zL.cells (n * 6))[j]? = some (zL.cells[j % 6]!) := by
    simp [madeCells, hj, zL, Value.cells]
  rw [h1]
  rcases hk with e | e | e | e | e | e <;> rw [e] <;> rfl
theorem make_lv (n : Nat) (hn : n ≤ 1048576) (w : World) : (Instr.makeSlice 25 (.int .i64 (n : Int)) (.int .i64 (n : Int))).run Try.prog w = .ok (.slice (some ⟨w.heap.size, 0, none⟩) n n) (w.alloc (.cells (lvA n (fun _ => zeroD)) 35)) := by
  obtain ⟨i, hi, hz⟩ := Option.map_eq_some_iff.1 infoL
  simp only [Prod.mk.injEq] at hz
  obtain ⟨h1, h2, h3⟩ := hz
  have h := run_make (P := Try.prog) w 25 35 i zL Try.underlying25 hi h1 .i64 .i64 (n : Int) (n : Int) (by omega) (Int.le_refl _) (by rw [h3]; omega) (by omega)
  rw [h2] at h
  simp only [Int.toNat_natCast] at h
  rw [made_lv] at h
  exact h
/-- a copied line -/
def cpD (x : LnD) (g : Nat) : LnD := { x with s := some ⟨g, 0, none⟩, c := x.n }
def Cpd (W : World) (g0 : Nat) (L M : Nat → LnD) (a : Nat) : Prop := ∀ i, i < a → ∃ g, g ≠ g0 ∧ M i = cpD (L i) g ∧ IR W (some ⟨g, 0, none⟩) (L i).n (L i).z
theorem Cpd.call {W W' : World} {g0 : Nat} {L M : Nat → LnD} {a : Nat} (h : Cpd W g0 L M a) (hb : Below W.heap.size W W') : Cpd W' g0 L M a := fun i hi => by
  obtain ⟨g, h1, h2, h3⟩ := h i hi
  exact ⟨g, h1, h2, h3.call hb⟩
theorem Cpd.set {W : World} {g0 : Nat} {L M : Nat → LnD} {a : Nat} (h : Cpd W g0 L M a) (k : Nat) (v : Value) : Cpd (W.setCell ⟨g0, k, none⟩ v) g0 L M a := fun i hi => by
  obtain ⟨g, h1, h2, h3⟩ := h i hi
  exact ⟨g, h1, h2, h3.setCell (p := ⟨g0, k, none⟩) h1 v⟩
theorem Cpd.next {W : World} {g0 g : Nat} {L M : Nat → LnD} {a : Nat} (h : Cpd W g0 L M a) (hg : g ≠ g0) (hi : IR W (some ⟨g, 0, none⟩) (L a).n (L a).z) : Cpd W g0 L (updL M a (cpD (L a) g)) (a + 1) := fun i hia => by
  by_cases e : i = a
  · subst e
    exact ⟨g, hg, if_pos rfl, hi⟩
  · obtain ⟨g', h1, h2, h3⟩ := h i (by omega)
    exact ⟨g', h1, (if_neg e).trans h2, h3⟩
set_option maxRecDepth 100000 in
set_option maxHeartbeats 8000000 in
theorem toLineS_any (s : Option Addr) (n c : Nat) (L : Nat → LnD) (hn : n ≤ 1048576) (hc : n ≤ c) (hs : ∀ i, i < n → (L i).n ≤ 1048576) (w : World) (hI : LR w s n L) :
    Calls Try.prog 8 #[.slice s n c] w fun e w' => ∃ M, e = .returned (.slice (some ⟨w.heap.size, 0, none⟩) n n) ∧ Blk w' w.heap.size 35 (lvA n M) ∧ Cpd w' w.heap.size L M n ∧ Below w.heap.size w w' := by
  have hmk := make_lv n hn
  have K0 := Lib.hid (Blk.new w 35 (lvA n (fun _ => zeroD)))
  have B0 : Hid (Below w.heap.size w (w.alloc (.cells (lvA n (fun _ => zeroD)) 35))) := below_n w _
  have HI := Lib.hid hI
  have HS := Lib.hid hs
  clear hI hs
  go_enter Try.func8, Try.ntmps8
  go_wp2_with fail
  go_loopg [4] n (fun gk sv wr => ∃ (a : Nat) (M : Nat → LnD), a + gk = n ∧ sv = .int .i64 a ∧ Hid (Blk wr w.heap.size 35 (lvA n M)) ∧ Hid (Cpd wr w.heap.size L M a) ∧ Hid (Below w.heap.size w wr))
  case atStart => exact ⟨0, _, by omega, rfl, K0, Lib.hid (fun i hi => by omega), B0⟩
  case round =>
    clear K0 B0 hmk
    obtain ⟨a, M, ha, rfl, K, C, B⟩ := hrel
    by_cases hla : a < n
    · have hxa : (a : Int) < (n : Int) := by omega
      rcases HI.out with h0 | ⟨b, off, rfl, hlt, hcell⟩
      · omega
      obtain ⟨⟨x0, x1, x2, x3, x4, x5⟩, hi1, hc1⟩ := hcell a hla
      have d0 := (B.out.cell (p := ⟨b, off + a * 6, none⟩) hlt).trans x0
      have d1 := (B.out.cell (p := ⟨b, off + a * 6 + 1, none⟩) hlt).trans x1
      have d2 := (B.out.cell (p := ⟨b, off + a * 6 + 2, none⟩) hlt).trans x2
      have d3 := (B.out.cell (p := ⟨b, off + a * 6 + 3, none⟩) hlt).trans x3
      have d4 := (B.out.cell (p := ⟨b, off + a * 6 + 4, none⟩) hlt).trans x4
      have d5 := (B.out.cell (p := ⟨b, off + a * 6 + 5, none⟩) hlt).trans x5
      have TL := Lib.hid (toLine_new (L a).R (L a).A (L a).P (L a).Q (L a).B (L a).s (L a).n (L a).c (L a).z (HS.out a hla) hc1 wr (hi1.call B.out))
      clear x0 x1 x2 x3 x4 x5 hi1 hc1 hcell hlt HI HS
      go_wp2_with fail
      refine TL.out.mono ?_
      rintro e w1 ⟨g, hg, rfl, hir, hb⟩
      have k1 := K.out.below hb K.out.lt
      have hgn : g ≠ w.heap.size := by have := K.out.lt; omega
      have cq := (C.out.call hb).next hgn hir
      have bq := Lib.hid (below_2 B.out hb)
      have c0 := (k1.cell (a * 6 + 0)).trans (lvA_cell M hla (by omega))
      have f0 := k1.frozen (a * 6 + 0)
      have c1 := (k1.cell (a * 6 + 1)).trans (lvA_cell M hla (by omega))
      have f1 := k1.frozen (a * 6 + 1)
      have c2 := (k1.cell (a * 6 + 2)).trans (lvA_cell M hla (by omega))
      have f2 := k1.frozen (a * 6 + 2)
      have c3 := (k1.cell (a * 6 + 3)).trans (lvA_cell M hla (by omega))
      have f3 := k1.frozen (a * 6 + 3)
      have c4 := (k1.cell (a * 6 + 4)).trans (lvA_cell M hla (by omega))
      have f4 := k1.frozen (a * 6 + 4)
      have c5 := (k1.cell (a * 6 + 5)).trans (lvA_cell M hla (by omega))
      have f5 := k1.frozen (a * 6 + 5)
      simp only [Nat.add_zero] at c0 f0
      have k5 := ((((((k1.set_ (a * 6) (.string (L a).R)).set_ (a * 6 + 1) (.string (L a).A)).set_ (a * 6 + 2) (.string (L a).P)).set_ (a * 6 + 3) (.string (L a).Q)).set_ (a * 6 + 4) (.string (L a).B)).set_ (a * 6 + 5) (.slice (some ⟨g, 0, none⟩) (L a).n (L a).n))
      have k6 : Blk _ w.heap.size 35 (lvA n (updL M a (cpD (L a) g))) := (lvA_put M hla (cpD (L a) g)) ▸ k5
      have K5 := Lib.hid k6
      have C5 := Lib.hid ((((((cq.set (a * 6) (.string (L a).R)).set (a * 6 + 1) (.string (L a).A)).set (a * 6 + 2) (.string (L a).P)).set (a * 6 + 3) (.string (L a).Q)).set (a * 6 + 4) (.string (L a).B)).set (a * 6 + 5) (.slice (some ⟨g, 0, none⟩) (L a).n (L a).n))
      have B5 := Lib.hid ((((((bq.out.setCell (p := ⟨w.heap.size, a * 6, none⟩) (Nat.le_refl _) (.string (L a).R)).setCell (p := ⟨w.heap.size, a * 6 + 1, none⟩) (Nat.le_refl _) (.string (L a).A)).setCell (p := ⟨w.heap.size, a * 6 + 2, none⟩) (Nat.le_refl _) (.string (L a).P)).setCell (p := ⟨w.heap.size, a * 6 + 3, none⟩) (Nat.le_refl _) (.string (L a).Q)).setCell (p := ⟨w.heap.size, a * 6 + 4, none⟩) (Nat.le_refl _) (.string (L a).B)).setCell (p := ⟨w.heap.size, a * 6 + 5, none⟩) (Nat.le_refl _) (.slice (some ⟨g, 0, none⟩) (L a).n (L a).n))
      clear k5 k6 k1 cq bq hir hb K C B TL d0 d1 d2 d3 d4 d5 hg hgn
      go_wp2_with fail
      go_roundg (gk - 1)
      case measure => omega
      case rel => exact ⟨a + 1, _, by omega, by go_num, K5, C5, B5⟩
    · obtain rfl : a = n := by omega
      clear HI HS hla
      go_wp2_with fail
      go_ret
      exact ⟨M, rfl, K.out, C.out, B.out⟩
end Go.Proofs.Ytndlhdmpfnadcaa
