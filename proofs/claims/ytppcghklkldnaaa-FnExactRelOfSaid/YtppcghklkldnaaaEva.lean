/- States: which are valid; their values laid side by side. -/
import Derived.Test.YtppcghklkldnaaaShl
import Derived.Test.YtppcghklkldnaaaSpb
import Derived.Test.YtppcghklkldnaaaPar
import Derived.Test.YtppcghklkldnaaaLwa
namespace Go.Proofs.Ytppcghklkldnaaa
open Go.RowKit
open Pl

/-- a value of a variable -/
def inB (n : Int) : Bool := decide (0 ≤ n) && decide (n ≤ 2)
theorem inB_small {n : Int} : inB n = true ↔ small n := by simp [inB, small]
theorem inB_no {n : Int} (h : inB n = false) : n < 0 ∨ 2 < n := by
  unfold inB at h
  simp at h
  omega
def stB (x y z : Int) : Bool := inB x && (inB y && inB z)

set_option maxHeartbeats 1000000 in
theorem okfn_any (n : Int) (w : World) : Calls Try.prog 133 #[.int .i64 n] w fun e w' => e = .returned (.bool (inB n)) ∧ w = w' := by
  cases h : inB n
  · rcases inB_no h with h1 | h1
    all_goals
      clear h
      go_enter Try.func133, Try.ntmps133
      go_wp2_with fail
      go_ret
      exact ⟨ret_bool (by first | rfl | (simp; omega)), rfl⟩
  · obtain ⟨h1, h2⟩ := inB_small.1 h
    clear h
    go_enter Try.func133, Try.ntmps133
    go_wp2_with fail
    go_ret
    exact ⟨ret_bool (by first | rfl | (simp; omega)), rfl⟩
set_option maxHeartbeats 1000000 in
theorem in_any (n : Int) (w : World) : Calls Try.prog 98 #[.int .i64 n, .int .i64 0, .int .i64 2] w fun e w' => e = .returned (.bool (inB n)) ∧ w = w' := by
  cases h : inB n
  · rcases inB_no h with h1 | h1
    all_goals
      clear h
      go_enter Try.func98, Try.ntmps98
      go_wp2_with fail
      go_ret
      exact ⟨ret_bool (by first | rfl | (simp; omega)), rfl⟩
  · obtain ⟨h1, h2⟩ := inB_small.1 h
    clear h
    go_enter Try.func98, Try.ntmps98
    go_wp2_with fail
    go_ret
    exact ⟨ret_bool (by first | rfl | (simp; omega)), rfl⟩
set_option maxHeartbeats 1000000 in
theorem StateValid_any (x y z : Int) (w : World) : Calls Try.prog 99 #[.agg #[.int .i64 x, .int .i64 y, .int .i64 z]] w fun e w' => (e = .returned (.bool (stB x y z)) ∧ Below w.heap.size w w') := by
  have hb : Below w.heap.size w (w.alloc (.cells #[.int .i64 x, .int .i64 y, .int .i64 z] 40)) := (Below.refl _ _).alloc (Nat.le_refl _) _
  unfold stB
  cases hx : inB x
  · have Hx := Lib.hid hx
    clear hx
    go_enter Try.func99, Try.ntmps99
    go_wp2_with fail
    refine (okfn_any x _).mono ?_
    rw [Hx.out]
    rintro e w' ⟨rfl, rfl⟩
    go_wp2_with fail
    go_ret
    exact ⟨rfl, hb⟩
  cases hy : inB y
  · have Hx := Lib.hid hx
    have Hy := Lib.hid hy
    clear hx hy
    go_enter Try.func99, Try.ntmps99
    go_wp2_with fail
    refine (okfn_any x _).mono ?_
    rw [Hx.out]
    rintro e w' ⟨rfl, rfl⟩
    go_wp2_with fail
    refine (okfn_any y _).mono ?_
    rw [Hy.out]
    rintro e w' ⟨rfl, rfl⟩
    go_wp2_with fail
    go_ret
    exact ⟨rfl, hb⟩
  · have Hx := Lib.hid hx
    have Hy := Lib.hid hy
    obtain ⟨v, hz⟩ : ∃ v, inB z = v := ⟨_, rfl⟩
    rw [hz]
    have Hz := Lib.hid hz
    clear hx hy hz
    go_enter Try.func99, Try.ntmps99
    go_wp2_with fail
    refine (okfn_any x _).mono ?_
    rw [Hx.out]
    rintro e w' ⟨rfl, rfl⟩
    go_wp2_with fail
    refine (okfn_any y _).mono ?_
    rw [Hy.out]
    rintro e w' ⟨rfl, rfl⟩
    go_wp2_with fail
    refine (okfn_any z _).mono ?_
    rw [Hz.out]
    rintro e w' ⟨rfl, rfl⟩
    go_wp2_with fail
    go_ret
    exact ⟨ret_bool (by first | rfl | simp), hb⟩

end Go.Proofs.Ytppcghklkldnaaa
