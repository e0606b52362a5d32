/- The walk of the law FnExactMergeSets. -/
import Derived.Test.YtndlhdmpfnadcaaDoorRwd
namespace Go.Proofs.YtndlhdmpfnadcaaDoor.fnExactMergeSets
open Go.RowKit
open Pl
set_option linter.unusedVariables false
set_option maxHeartbeats 4000000 in
theorem walk (s0 : ByteArray) (w : World) (hs0 : s0.size ≤ maxLen) (hm : Most w) :
    Calls Tryd.prog 4 #[.string s0] w fun e w' => e = .returned (.bool true) ∧ Below w.heap.size w w' := by
  by_cases hbig : 1048576 < s0.size
  · skip
    go_enter Tryd.func4, Tryd.ntmps4
    go_wp2_with fail
    go_ret
    exact ⟨rfl, by first | exact Below.refl _ _ | exact below_n _ _ | exact (below_n _ _).alloc (by simp) _⟩
  have hs : s0.size ≤ 1000000000000 := by omega
  have B0 := Lib.hid (Below.refl w.heap.size w)
  have M := Lib.hid hm
  have V := Lib.hid (fun w hm => MergeSets_any s0 hs w hm)
  have VS := Lib.hid (fun w => MergeSetsS_any s0 hs w)
  obtain ⟨tv, htv⟩ : ∃ v, bs (optT (rewr setsN s0.data.toList)) = v := ⟨_, rfl⟩
  obtain ⟨ov, hov⟩ : ∃ v, (rewr setsN s0.data.toList).isSome = v := ⟨_, rfl⟩
  rw [htv, hov] at V VS
  clear htv hov hs0 hs hm
  have q1 : (tv.toList == tv.toList) = true := by simp
  have q3 : (tv.toList != tv.toList) = false := by simp
  have q2 : (ov != ov) = false := by simp
  go_enter Tryd.func4, Tryd.ntmps4
  go_wp2_with fail
  refine (VS.out _).mono ?_
  rintro e w1 ⟨rfl, hb1⟩
  have B1 : Hid (Below w.heap.size w w1) := by first | exact Lib.hid (below_2 B0.out hb1) | exact Lib.hid (below_a1 B0.out hb1) | exact Lib.hid (below_a2 B0.out hb1) | exact Lib.hid (below_a3 B0.out hb1)
  clear hb1
  go_wp2_with fail
  refine (V.out _ (M.out.below B1.out)).mono ?_
  rintro e w2 ⟨rfl, hb2⟩
  have B2 : Hid (Below w.heap.size w w2) := by first | exact Lib.hid (below_2 B1.out hb2) | exact Lib.hid (below_a1 B1.out hb2) | exact Lib.hid (below_a2 B1.out hb2) | exact Lib.hid (below_a3 B1.out hb2)
  clear hb2
  go_wp2_with fail
  go_ret
  exact ⟨rfl, B2.out⟩

end Go.Proofs.YtndlhdmpfnadcaaDoor.fnExactMergeSets
