/- RightOf and SequentialProduct, on both sides. -/
import Derived.Test.YtehpmglbbalelaaNb
import Derived.Test.YtehpmglbbalelaaHd
import Derived.Test.YtehpmglbbalelaaPar
namespace Go.Proofs.Ytehpmglbbalelaa
open Go.RowKit
open Pl
set_option linter.unusedVariables false

theorem drwB {w w' : World} (h : ∃ m, w' = w.drewN m) : Below w.heap.size w w' := by obtain ⟨m, rfl⟩ := h; exact below_drewN _ _ _
/-- a program's text with the letters of the second state, if it is one -/
def rgT (S : ByteArray) : ByteArray := if (whole false 2 200 S.data.toList).isSome = true then bs (S.data.toList.map upc) else ⟨#[]⟩
def sqT (S T : ByteArray) : ByteArray := if ((whole false 2 200 S.data.toList).isSome && (whole false 2 200 T.data.toList).isSome) = true then (⟨#[59]⟩ : ByteArray) ++ S ++ bs (T.data.toList.map upc) else ⟨#[]⟩
theorem l7Wide_any (S : ByteArray) (hS : S.size ≤ 1000) (w : World) : Calls Try.prog 13 #[.string S, .bool true] w fun e w' => (e = .returned (.tuple #[.string S, .bool true]) ∧ Below w.heap.size w w') := by
  have h1 : ¬ ((1000 : Int) < (S.size : Int)) := by omega
  have h2 : decide ((1000 : Int) < (S.size : Int)) = false := decide_eq_false h1
  go_enter Try.func13, Try.ntmps13
  go_wp2_with fail
  go_ret2
  exact ⟨(by first | trivial | rfl), Below.refl _ _⟩
set_option maxRecDepth 100000 in
set_option maxHeartbeats 4000000 in
theorem RightOf_any (S : ByteArray) (hS : S.size ≤ 1000000000000) (w : World) : Calls Try.prog 6 #[.string S] w fun e w' => (e = .returned (.tuple #[.string (rgT S), .bool (whole false 2 200 S.data.toList).isSome]) ∧ Below w.heap.size w w') := by
  have V := Lib.hid (fun w => ProgramValid_any S hS w)
  unfold rgT
  cases ho : whole false 2 200 S.data.toList with
  | none =>
    rw [ho] at V
    simp only [Option.isSome_none] at V ⊢
    rw [if_neg (by simp)]
    clear ho
    go_enter Try.func6, Try.ntmps6
    go_wp2_with fail
    refine (V.out _).mono ?_
    rintro e w1 ⟨rfl, hb⟩
    have B1 := Lib.hid (hb)
    clear hb
    go_wp2_with fail
    go_ret2
    exact ⟨(by first | trivial | rfl), B1.out⟩
  | some k =>
    have hz : S.size ≤ 200 := by have := ((whole_iff (by omega)).1 ho).1; rw [len_S] at this; exact this
    have R := Lib.hid (fun w => right_any S (by omega) w)
    rw [ho] at V
    simp only [Option.isSome_some] at V ⊢
    rw [if_pos trivial]
    generalize bs (S.data.toList.map upc) = T at *
    clear ho
    go_enter Try.func6, Try.ntmps6
    go_wp2_with fail
    refine (V.out _).mono ?_
    rintro e w1 ⟨rfl, hb⟩
    have B1 := Lib.hid (hb)
    clear hb
    go_wp2_with fail
    refine (R.out _).mono ?_
    rintro e w2 ⟨rfl, hb⟩
    have B2 := Lib.hid (below_2 B1.out hb)
    clear hb
    go_wp2_with fail
    go_ret2
    exact ⟨(by first | trivial | rfl), B2.out⟩
set_option maxRecDepth 100000 in
set_option maxHeartbeats 4000000 in
theorem RightOfS_any (S : ByteArray) (hS : S.size ≤ 1000000000000) (w : World) : Calls Try.prog 5 #[.string S] w fun e w' => (e = .returned (.tuple #[.string (rgT S), .bool (whole false 2 200 S.data.toList).isSome]) ∧ Below w.heap.size w w') := by
  have V := Lib.hid (fun w => (ProgramValidS_any S w hS).mono fun _ _ h => (⟨h.1, drwB h.2⟩ : _ ∧ _))
  unfold rgT
  cases ho : whole false 2 200 S.data.toList with
  | none =>
    rw [ho] at V
    simp only [Option.isSome_none] at V ⊢
    rw [if_neg (by simp)]
    clear ho
    go_enter Try.func5, Try.ntmps5
    go_wp2_with fail
    refine (V.out _).mono ?_
    rintro e w1 ⟨rfl, hb⟩
    have B1 := Lib.hid (hb)
    clear hb
    go_wp2_with fail
    go_ret2
    exact ⟨(by first | trivial | rfl), B1.out⟩
  | some k =>
    have hz : S.size ≤ 200 := by have := ((whole_iff (by omega)).1 ho).1; rw [len_S] at this; exact this
    have R := Lib.hid (fun w => l7Case_any S (by omega) w)
    rw [ho] at V
    simp only [Option.isSome_some] at V ⊢
    rw [if_pos trivial]
    generalize bs (S.data.toList.map upc) = T at *
    clear ho
    go_enter Try.func5, Try.ntmps5
    go_wp2_with fail
    refine (V.out _).mono ?_
    rintro e w1 ⟨rfl, hb⟩
    have B1 := Lib.hid (hb)
    clear hb
    go_wp2_with fail
    refine (R.out _).mono ?_
    rintro e w2 ⟨rfl, hb⟩
    have B2 := Lib.hid (below_2 B1.out hb)
    clear hb
    go_wp2_with fail
    go_ret2
    exact ⟨(by first | trivial | rfl), B2.out⟩
set_option maxRecDepth 100000 in
set_option maxHeartbeats 8000000 in
theorem SequentialProduct_any (S T : ByteArray) (hS : S.size ≤ 1000000000000) (hT : T.size ≤ 1000000000000) (w : World) : Calls Try.prog 8 #[.string S, .string T] w fun e w' => (e = .returned (.tuple #[.string (sqT S T), .bool ((whole false 2 200 S.data.toList).isSome && (whole false 2 200 T.data.toList).isSome)]) ∧ Below w.heap.size w w') := by
  have V := Lib.hid (fun w => ProgramValid_any S hS w)
  have U := Lib.hid (fun w => ProgramValid_any T hT w)
  unfold sqT
  cases ho : whole false 2 200 S.data.toList with
  | none =>
    rw [ho] at V
    simp only [Option.isSome_none, Bool.false_and] at V ⊢
    rw [if_neg (by simp)]
    clear ho U
    go_enter Try.func8, Try.ntmps8
    go_wp2_with fail
    refine (V.out _).mono ?_
    rintro e w1 ⟨rfl, hb⟩
    have B1 := Lib.hid (hb)
    clear hb
    go_wp2_with fail
    go_ret2
    exact ⟨(by first | trivial | rfl), B1.out⟩
  | some k =>
    have hz : S.size ≤ 200 := by have := ((whole_iff (by omega)).1 ho).1; rw [len_S] at this; exact this
    rw [ho] at V
    simp only [Option.isSome_some, Bool.true_and] at V ⊢
    clear ho
    cases hp : whole false 2 200 T.data.toList with
    | none =>
      rw [hp] at U
      simp only [Option.isSome_none] at U ⊢
      rw [if_neg (by simp)]
      clear hp
      go_enter Try.func8, Try.ntmps8
      go_wp2_with fail
      refine (V.out _).mono ?_
      rintro e w1 ⟨rfl, hb⟩
      have B1 := Lib.hid (hb)
      clear hb
      go_wp2_with fail
      refine (U.out _).mono ?_
      rintro e w2 ⟨rfl, hb⟩
      have B2 := Lib.hid (below_2 B1.out hb)
      clear hb
      go_wp2_with fail
      go_ret2
      exact ⟨(by first | trivial | rfl), B2.out⟩
    | some j =>
      have hy : T.size ≤ 200 := by have := ((whole_iff (by omega)).1 hp).1; rw [len_S] at this; exact this
      have R := Lib.hid (fun w => right_any T (by omega) w)
      rw [hp] at U
      simp only [Option.isSome_some] at U ⊢
      rw [if_pos trivial]
      have hm : (bs (T.data.toList.map upc)).size = T.size := by rw [bs_size, List.length_map, len_S]
      generalize bs (T.data.toList.map upc) = X at *
      have t1 : 1 + S.size ≤ 9223372036854775807 := by omega
      have t2 : 1 + S.size + X.size ≤ 9223372036854775807 := by omega
      have t3 : 1 + S.size + T.size ≤ 9223372036854775807 := by omega
      have HM := Lib.hid hm
      clear hp hm
      go_enter Try.func8, Try.ntmps8
      go_wp2_with fail
      refine (V.out _).mono ?_
      rintro e w1 ⟨rfl, hb⟩
      have B1 := Lib.hid (hb)
      clear hb
      go_wp2_with fail
      refine (U.out _).mono ?_
      rintro e w2 ⟨rfl, hb⟩
      have B2 := Lib.hid (below_2 B1.out hb)
      clear hb
      go_wp2_with fail
      refine (R.out _).mono ?_
      rintro e w3 ⟨rfl, hb⟩
      have B3 := Lib.hid (below_2 B2.out hb)
      clear hb
      go_wp2_with fail
      go_ret2
      exact ⟨(by first | trivial | rfl), B3.out⟩
set_option maxRecDepth 100000 in
set_option maxHeartbeats 8000000 in
theorem SequentialProductS_any (S T : ByteArray) (hS : S.size ≤ 1000000000000) (hT : T.size ≤ 1000000000000) (w : World) : Calls Try.prog 7 #[.string S, .string T] w fun e w' => (e = .returned (.tuple #[.string (sqT S T), .bool ((whole false 2 200 S.data.toList).isSome && (whole false 2 200 T.data.toList).isSome)]) ∧ Below w.heap.size w w') := by
  have V := Lib.hid (fun w => (ProgramValidS_any S w hS).mono fun _ _ h => (⟨h.1, drwB h.2⟩ : _ ∧ _))
  have U := Lib.hid (fun w => (ProgramValidS_any T w hT).mono fun _ _ h => (⟨h.1, drwB h.2⟩ : _ ∧ _))
  unfold sqT
  cases ho : whole false 2 200 S.data.toList with
  | none =>
    rw [ho] at V
    simp only [Option.isSome_none, Bool.false_and] at V ⊢
    rw [if_neg (by simp)]
    clear ho U
    go_enter Try.func7, Try.ntmps7
    go_wp2_with fail
    refine (V.out _).mono ?_
    rintro e w1 ⟨rfl, hb⟩
    have B1 := Lib.hid (hb)
    clear hb
    go_wp2_with fail
    go_ret2
    exact ⟨(by first | trivial | rfl), B1.out⟩
  | some k =>
    have hz : S.size ≤ 200 := by have := ((whole_iff (by omega)).1 ho).1; rw [len_S] at this; exact this
    rw [ho] at V
    simp only [Option.isSome_some, Bool.true_and] at V ⊢
    clear ho
    cases hp : whole false 2 200 T.data.toList with
    | none =>
      rw [hp] at U
      simp only [Option.isSome_none] at U ⊢
      rw [if_neg (by simp)]
      clear hp
      go_enter Try.func7, Try.ntmps7
      go_wp2_with fail
      refine (V.out _).mono ?_
      rintro e w1 ⟨rfl, hb⟩
      have B1 := Lib.hid (hb)
      clear hb
      go_wp2_with fail
      refine (U.out _).mono ?_
      rintro e w2 ⟨rfl, hb⟩
      have B2 := Lib.hid (below_2 B1.out hb)
      clear hb
      go_wp2_with fail
      go_ret2
      exact ⟨(by first | trivial | rfl), B2.out⟩
    | some j =>
      have hy : T.size ≤ 200 := by have := ((whole_iff (by omega)).1 hp).1; rw [len_S] at this; exact this
      have R := Lib.hid (fun w => l7Case_any T (by omega) w)
      rw [hp] at U
      simp only [Option.isSome_some] at U ⊢
      rw [if_pos trivial]
      have hm : (bs (T.data.toList.map upc)).size = T.size := by rw [bs_size, List.length_map, len_S]
      generalize bs (T.data.toList.map upc) = X at *
      have t1 : 1 + S.size ≤ 9223372036854775807 := by omega
      have t2 : 1 + S.size + X.size ≤ 9223372036854775807 := by omega
      have t3 : 1 + S.size + T.size ≤ 9223372036854775807 := by omega
      have HW := Lib.hid (fun w => l7Wide_any ((⟨#[59]⟩ : ByteArray) ++ S ++ X) (by simp only [size_append, size_one]; omega) w)
      have HM := Lib.hid hm
      clear hp hm
      go_enter Try.func7, Try.ntmps7
      go_wp2_with fail
      refine (V.out _).mono ?_
      rintro e w1 ⟨rfl, hb⟩
      have B1 := Lib.hid (hb)
      clear hb
      go_wp2_with fail
      refine (U.out _).mono ?_
      rintro e w2 ⟨rfl, hb⟩
      have B2 := Lib.hid (below_2 B1.out hb)
      clear hb
      go_wp2_with fail
      refine (R.out _).mono ?_
      rintro e w3 ⟨rfl, hb⟩
      have B3 := Lib.hid (below_2 B2.out hb)
      clear hb
      go_wp2_with fail
      refine (HW.out _).mono ?_
      rintro e w4 ⟨rfl, hb⟩
      have B4 := Lib.hid (below_2 B3.out hb)
      clear hb
      go_wp2_with fail
      go_ret2
      exact ⟨(by first | trivial | rfl), B4.out⟩
end Go.Proofs.Ytehpmglbbalelaa
