/- Lines of a derivation: the number of references that a rule takes. -/
import Derived.Test.YtndlhdmpfnadcaaRz
import Derived.Test.YtndlhdmpfnadcaaHd
import Derived.Test.YtndlhdmpfnadcaaPar
namespace Go.Proofs.Ytndlhdmpfnadcaa
open Go.RowKit
open Pl
set_option linter.unusedVariables false

def rfN (S : ByteArray) : Int :=
  if (S.toList == ([115, 101, 116] : List UInt8)) = true then 0 else
  if (S.toList == ([114, 117, 110] : List UInt8)) = true then 0 else
  if (S.toList == ([119, 101, 97, 107] : List UInt8)) = true then 1 else
  if (S.toList == ([119, 104, 105, 108, 101] : List UInt8)) = true then 1 else
  if (S.toList == ([115, 101, 113] : List UInt8)) = true then 2 else
  if (S.toList == ([115, 112, 108, 105, 116] : List UInt8)) = true then 2 else
  if (S.toList == ([108, 101, 102, 116] : List UInt8)) = true then 2 else
  if (S.toList == ([114, 105, 103, 104, 116] : List UInt8)) = true then 2 else
  if (S.toList == ([105, 102] : List UInt8)) = true then 4 else
  -1
theorem rfN_b (S : ByteArray) : -1 ≤ rfN S ∧ rfN S ≤ 4 := by unfold rfN; repeat (split; · omega); omega
set_option maxHeartbeats 4000000 in
theorem refsOf_any (S : ByteArray) (w : World) : Calls Try.prog 26 #[.string S] w fun e w' => e = .returned (.int .i64 (rfN S)) ∧ w = w' := by
  unfold rfN
  by_cases q0 : (S.toList == ([115, 101, 116] : List UInt8)) = true
  · rw [if_pos q0]
    go_enter Try.func26, Try.ntmps26
    go_wp2_with fail
    go_ret
    exact ⟨rfl, rfl⟩
  rw [if_neg q0]
  replace q0 := Bool.eq_false_iff.2 q0
  by_cases q1 : (S.toList == ([114, 117, 110] : List UInt8)) = true
  · rw [if_pos q1]
    go_enter Try.func26, Try.ntmps26
    go_wp2_with fail
    go_ret
    exact ⟨rfl, rfl⟩
  rw [if_neg q1]
  replace q1 := Bool.eq_false_iff.2 q1
  by_cases q2 : (S.toList == ([119, 101, 97, 107] : List UInt8)) = true
  · rw [if_pos q2]
    go_enter Try.func26, Try.ntmps26
    go_wp2_with fail
    go_ret
    exact ⟨rfl, rfl⟩
  rw [if_neg q2]
  replace q2 := Bool.eq_false_iff.2 q2
  by_cases q3 : (S.toList == ([119, 104, 105, 108, 101] : List UInt8)) = true
  · rw [if_pos q3]
    go_enter Try.func26, Try.ntmps26
    go_wp2_with fail
    go_ret
    exact ⟨rfl, rfl⟩
  rw [if_neg q3]
  replace q3 := Bool.eq_false_iff.2 q3
  by_cases q4 : (S.toList == ([115, 101, 113] : List UInt8)) = true
  · rw [if_pos q4]
    go_enter Try.func26, Try.ntmps26
    go_wp2_with fail
    go_ret
    exact ⟨rfl, rfl⟩
  rw [if_neg q4]
  replace q4 := Bool.eq_false_iff.2 q4
  by_cases q5 : (S.toList == ([115, 112, 108, 105, 116] : List UInt8)) = true
  · rw [if_pos q5]
    go_enter Try.func26, Try.ntmps26
    go_wp2_with fail
    go_ret
    exact ⟨rfl, rfl⟩
  rw [if_neg q5]
  replace q5 := Bool.eq_false_iff.2 q5
  by_cases q6 : (S.toList == ([108, 101, 102, 116] : List UInt8)) = true
  · rw [if_pos q6]
    go_enter Try.func26, Try.ntmps26
    go_wp2_with fail
    go_ret
    exact ⟨rfl, rfl⟩
  rw [if_neg q6]
  replace q6 := Bool.eq_false_iff.2 q6
  by_cases q7 : (S.toList == ([114, 105, 103, 104, 116] : List UInt8)) = true
  · rw [if_pos q7]
    go_enter Try.func26, Try.ntmps26
    go_wp2_with fail
    go_ret
    exact ⟨rfl, rfl⟩
  rw [if_neg q7]
  replace q7 := Bool.eq_false_iff.2 q7
  by_cases q8 : (S.toList == ([105, 102] : List UInt8)) = true
  · rw [if_pos q8]
    go_enter Try.func26, Try.ntmps26
    go_wp2_with fail
    go_ret
    exact ⟨rfl, rfl⟩
  rw [if_neg q8]
  replace q8 := Bool.eq_false_iff.2 q8
  go_enter Try.func26, Try.ntmps26
  go_wp2_with fail
  go_ret
  exact ⟨rfl, rfl⟩
set_option maxHeartbeats 4000000 in
theorem l9Refs_any (S : ByteArray) (w : World) : Calls Try.prog 27 #[.string S] w fun e w' => e = .returned (.int .i64 (rfN S)) ∧ w = w' := by
  unfold rfN
  by_cases q0 : (S.toList == ([115, 101, 116] : List UInt8)) = true
  · rw [if_pos q0]
    go_enter Try.func27, Try.ntmps27
    go_wp2_with fail
    go_ret
    exact ⟨rfl, rfl⟩
  rw [if_neg q0]
  replace q0 := Bool.eq_false_iff.2 q0
  by_cases q1 : (S.toList == ([114, 117, 110] : List UInt8)) = true
  · rw [if_pos q1]
    go_enter Try.func27, Try.ntmps27
    go_wp2_with fail
    go_ret
    exact ⟨rfl, rfl⟩
  rw [if_neg q1]
  replace q1 := Bool.eq_false_iff.2 q1
  by_cases q2 : (S.toList == ([119, 101, 97, 107] : List UInt8)) = true
  · rw [if_pos q2]
    go_enter Try.func27, Try.ntmps27
    go_wp2_with fail
    go_ret
    exact ⟨rfl, rfl⟩
  rw [if_neg q2]
  replace q2 := Bool.eq_false_iff.2 q2
  by_cases q3 : (S.toList == ([119, 104, 105, 108, 101] : List UInt8)) = true
  · rw [if_pos q3]
    go_enter Try.func27, Try.ntmps27
    go_wp2_with fail
    go_ret
    exact ⟨rfl, rfl⟩
  rw [if_neg q3]
  replace q3 := Bool.eq_false_iff.2 q3
  by_cases q4 : (S.toList == ([115, 101, 113] : List UInt8)) = true
  · rw [if_pos q4]
    go_enter Try.func27, Try.ntmps27
    go_wp2_with fail
    go_ret
    exact ⟨rfl, rfl⟩
  rw [if_neg q4]
  replace q4 := Bool.eq_false_iff.2 q4
  by_cases q5 : (S.toList == ([115, 112, 108, 105, 116] : List UInt8)) = true
  · rw [if_pos q5]
    go_enter Try.func27, Try.ntmps27
    go_wp2_with fail
    go_ret
    exact ⟨rfl, rfl⟩
  rw [if_neg q5]
  replace q5 := Bool.eq_false_iff.2 q5
  by_cases q6 : (S.toList == ([108, 101, 102, 116] : List UInt8)) = true
  · rw [if_pos q6]
    go_enter Try.func27, Try.ntmps27
    go_wp2_with fail
    go_ret
    exact ⟨rfl, rfl⟩
  rw [if_neg q6]
  replace q6 := Bool.eq_false_iff.2 q6
  by_cases q7 : (S.toList == ([114, 105, 103, 104, 116] : List UInt8)) = true
  · rw [if_pos q7]
    go_enter Try.func27, Try.ntmps27
    go_wp2_with fail
    go_ret
    exact ⟨rfl, rfl⟩
  rw [if_neg q7]
  replace q7 := Bool.eq_false_iff.2 q7
  by_cases q8 : (S.toList == ([105, 102] : List UInt8)) = true
  · rw [if_pos q8]
    go_enter Try.func27, Try.ntmps27
    go_wp2_with fail
    go_ret
    exact ⟨rfl, rfl⟩
  rw [if_neg q8]
  replace q8 := Bool.eq_false_iff.2 q8
  go_enter Try.func27, Try.ntmps27
  go_wp2_with fail
  go_ret
  exact ⟨rfl, rfl⟩
end Go.Proofs.Ytndlhdmpfnadcaa
