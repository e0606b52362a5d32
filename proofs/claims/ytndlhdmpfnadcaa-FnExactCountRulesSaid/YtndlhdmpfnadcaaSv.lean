/- Another value of a variable: the program's SetVar and the reference's. -/
import Derived.Test.YtndlhdmpfnadcaaVr
import Derived.Test.YtndlhdmpfnadcaaGb
import Derived.Test.YtndlhdmpfnadcaaGe
namespace Go.Proofs.Ytndlhdmpfnadcaa
open Go.RowKit
open Pl

/-- the letter of a variable -/
def varOf (l : List UInt8) : Option UInt8 :=
  match l with
  | [c] => if c ∈ nmsN then some c else none
  | _ => none
theorem varOf_some {l : List UInt8} {c : UInt8} (h : varOf l = some c) : l = [c] ∧ c ∈ nmsN := by
  unfold varOf at h
  split at h
  · split at h
    · injection h with h; subst h; exact ⟨rfl, by assumption⟩
    · cases h
  · cases h
theorem varOf_one {c : UInt8} (h : c ∈ nmsN) : varOf [c] = some c := by simp [varOf, h]
theorem varOf_ne {l : List UInt8} (h : varOf l = none) {c : UInt8} (hc : c ∈ nmsN) : l ≠ [c] := by
  rintro rfl
  rw [varOf_one hc] at h; cases h
theorem nms_cases {c : UInt8} (h : c ∈ nmsN) : c = 120 ∨ c = 121 ∨ c = 122 := by simpa [nmsN] using h
theorem bytes_of {V : ByteArray} {l : List UInt8} (h : V.data.toList = l) : V = ⟨l.toArray⟩ := by
  apply ByteArray.ext; apply Array.toList_inj.1; rw [h]
theorem list_beq {V : ByteArray} {l : List UInt8} (h : V.data.toList ≠ l) : (V.toList == l) = false ∧ (l == V.toList) = false := by
  rw [ByteArray.toList_eq]; exact ⟨by simpa using h, by simpa using fun e => h e.symm⟩
/-- a value of the state that SetVar hands back -/
def sv1 (o : Option UInt8) (b : Bool) (a : UInt8) (n x : Int) : Int :=
  match o with
  | some c => if b then put1 c a n x else 0
  | none => 0
def svB (o : Option UInt8) (b : Bool) : Bool := o.isSome && b

/-- three numbers written into a block of three -/
theorem putw {w w1 : World} {r : Nat} {t : TypeId} {x y z : Int} (B : Below w.heap.size w w1) (hk : Blk w1 r t #[.int .i64 x, .int .i64 y, .int .i64 z]) (hr : w.heap.size ≤ r) (a b c : Int) :
    ∃ w2, ((w1.setCell ⟨r, 0, none⟩ (.int .i64 a)).setCell ⟨r, 1, none⟩ (.int .i64 b)).setCell ⟨r, 2, none⟩ (.int .i64 c) = w2 ∧ Below w.heap.size w w2 ∧ Blk w2 r t #[.int .i64 a, .int .i64 b, .int .i64 c] := by
  refine ⟨_, rfl, ((B.setCell hr _).setCell hr _).setCell hr _, ?_⟩
  have := ((hk.set_ 0 (.int .i64 a)).set_ 1 (.int .i64 b)).set_ 2 (.int .i64 c)
  simpa using this

/-- the number of a variable -/
def varNo (o : Option UInt8) : Int :=
  match o with
  | some c => fnd nmsN c
  | none => -1
set_option maxHeartbeats 1000000 in
theorem l1Var_any (V : ByteArray) (hV : V.size ≤ 1000000000000) (w : World) : Calls Try.prog 75 #[.string V] w fun e w' => e = .returned (.int .i64 (varNo (varOf V.data.toList))) ∧ w = w' := by
  by_cases h1 : V.size = 1
  · obtain ⟨c, hc⟩ : ∃ c, V = ⟨#[c]⟩ := by
      refine ⟨V[0], bytes_of (l := [V[0]]) ?_⟩
      have := drop_cons (S := V) (p := 0) (by omega)
      rw [List.drop_zero] at this
      rw [this, List.drop_of_length_le (by rw [len_S]; omega)]
    subst hc
    have hv : varNo (varOf [c]) = fnd nmsN c := by
      unfold varOf varNo
      by_cases h : c ∈ nmsN
      · simp [h]
      · have := fnd_range c nmsN
        have h2 : ¬ 0 ≤ fnd nmsN c := fun h0 => h (fnd_mem.1 h0)
        simp [h]; omega
    have HV := Lib.hid hv
    have FN := Lib.hid (find_any ⟨#[120, 121, 122]⟩ c (by decide) w)
    clear hv h1 hV
    go_enter Try.func75, Try.ntmps75
    go_wp2_with fail
    refine FN.out.mono ?_
    rintro e w' ⟨rfl, rfl⟩
    go_wp2_with fail
    go_ret
    exact ⟨ret_int HV.out.symm, rfl⟩
  · have hn : varOf V.data.toList = none := by
      cases h : varOf V.data.toList with
      | none => rfl
      | some c =>
        have := congrArg List.length (varOf_some h).1
        rw [len_S] at this
        exact absurd (by simpa using this) h1
    have HN := Lib.hid hn
    have h2 : ((V.size : Int) != 1) = true := by simp; omega
    clear hn h1
    go_enter Try.func75, Try.ntmps75
    go_wp2_with fail
    go_ret
    exact ⟨ret_int (by rw [HN.out]; rfl), rfl⟩
set_option maxHeartbeats 1000000 in
theorem l1Set_any (x y z X Y Z n : Int) (c : UInt8) (hc : c ∈ nmsN) (w : World) : Calls Try.prog 103 #[.agg #[.int .i64 x, .int .i64 y, .int .i64 z, .int .i64 X, .int .i64 Y, .int .i64 Z], .int .i64 (fnd nmsN c), .int .i64 n] w fun e w' =>
    (e = .returned (.agg #[.int .i64 (put1 c 120 n x), .int .i64 (put1 c 121 n y), .int .i64 (put1 c 122 n z), .int .i64 X, .int .i64 Y, .int .i64 Z]) ∧ Below w.heap.size w w') := by
  have hb : ∀ o1 o2 a v, w.heap.size ≤ a → Below w.heap.size w (((w.alloc o1).alloc o2).setCell ⟨a, 0, none⟩ v) := fun o1 o2 a v h => ((((Below.refl _ _).alloc (Nat.le_refl _) _).alloc (by simp) _)).setCell h _
  rcases nms_cases hc with rfl | rfl | rfl
  · clear hc hb
    have e1 : fnd nmsN 120 = 0 := by decide
    rw [e1]
    clear e1
    go_enter Try.func103, Try.ntmps103
    go_wp2_with fail
    exact bodyPost_ret (v := .agg #[.int .i64 n, .int .i64 y, .int .i64 z, .int .i64 X, .int .i64 Y, .int .i64 Z]) (by simp [results, Try.results103, go_sem]) rfl
      ⟨by simp [put1], ((Below.refl _ _).alloc (Nat.le_refl _) _).alloc (by simp) _⟩
  · clear hc hb
    have e1 : fnd nmsN 121 = 1 := by decide
    rw [e1]
    clear e1
    go_enter Try.func103, Try.ntmps103
    go_wp2_with fail
    exact bodyPost_ret (v := .agg #[.int .i64 x, .int .i64 n, .int .i64 z, .int .i64 X, .int .i64 Y, .int .i64 Z]) (by simp [results, Try.results103, go_sem]) rfl
      ⟨by simp [put1], ((Below.refl _ _).alloc (Nat.le_refl _) _).alloc (by simp) _⟩
  · clear hc hb
    have e1 : fnd nmsN 122 = 2 := by decide
    rw [e1]
    clear e1
    go_enter Try.func103, Try.ntmps103
    go_wp2_with fail
    exact bodyPost_ret (v := .agg #[.int .i64 x, .int .i64 y, .int .i64 n, .int .i64 X, .int .i64 Y, .int .i64 Z]) (by simp [results, Try.results103, go_sem]) rfl
      ⟨by simp [put1], ((Below.refl _ _).alloc (Nat.le_refl _) _).alloc (by simp) _⟩
set_option maxHeartbeats 1000000 in
theorem l1State_any (x y z X Y Z : Int) (w : World) : Calls Try.prog 102 #[.agg #[.int .i64 x, .int .i64 y, .int .i64 z, .int .i64 X, .int .i64 Y, .int .i64 Z]] w fun e w' =>
    (e = .returned (.agg #[.int .i64 x, .int .i64 y, .int .i64 z]) ∧ Below w.heap.size w w') := by
  go_enter Try.func102, Try.ntmps102
  go_wp2_with fail
  exact bodyPost_ret (v := .agg #[.int .i64 x, .int .i64 y, .int .i64 z]) (by simp [results, Try.results102, go_sem]) rfl
    ⟨rfl, ((Below.refl _ _).alloc (Nat.le_refl _) _).alloc (by simp) _⟩

end Go.Proofs.Ytndlhdmpfnadcaa
