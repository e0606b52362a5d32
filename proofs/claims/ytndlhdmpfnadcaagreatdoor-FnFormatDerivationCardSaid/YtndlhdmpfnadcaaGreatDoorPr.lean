/- Two programs side by side: the pairs from which they end in a relation, as a relation. -/
import Derived.Test.YtndlhdmpfnadcaaGreatDoorGp
import Derived.Test.YtndlhdmpfnadcaaGreatDoorHd
import Derived.StillTailTactics
namespace Go.Proofs.YtndlhdmpfnadcaaGreatDoor
open Go.RowKit
open Pl
set_option linter.unusedVariables false

def M27 (f : Nat → Nat) : Prop := ∀ i, i < 27 → f i < 134217728
theorem M27.upd {f : Nat → Nat} (h : M27 f) (i : Nat) {v : Nat} (hv : v < 134217728) : M27 (upd f i v) := fun a ha => by
  unfold Proofs.YtndlhdmpfnadcaaGreatDoor.upd
  split
  · exact hv
  · exact h a ha
theorem m27_row (rb : Nat → Nat → Bool) : ∃ f, M27 f ∧ rowV rb = av 27 f := ⟨fun i => msk (rb i) 27, fun i _ => msk_lt (rb i) 27, rowV_av rb⟩
theorem rt_bokP (r : Rl) : bOk 729 (bs (rt r)).data.toList = true := by rw [bs_list]; exact rt_ok r
theorem drw2B {w : World} (m1 m2 : Nat) : Below w.heap.size w (w.drewN (m1 + m2)) := below_drewN _ _ _
theorem hv27 (f : Nat → Nat) : (av 27 f).size = 27 := av_size _ _
set_option maxRecDepth 100000 in
set_option maxHeartbeats 32000000 in
theorem l8Free_any (fa fb fp : Nat → Nat) (hA : M29 fa) (hB : M29 fb) (hP : M27 fp) (w : World) : Calls Tryz.prog 64 #[.agg (av 29 fa), .agg (av 29 fb), .agg (av 27 fp)] w fun e w' => ∃ f, M27 f ∧ e = .returned (.agg (av 27 f)) ∧ Below w.heap.size w w' := by
  have FA := Lib.hid hA
  have FB := Lib.hid hB
  have FP := Lib.hid hP
  obtain ⟨V1, hV1⟩ : ∃ V, av 29 fa = V := ⟨_, rfl⟩
  obtain ⟨V2, hV2⟩ : ∃ V, av 29 fb = V := ⟨_, rfl⟩
  obtain ⟨V3, hV3⟩ : ∃ V, av 27 fp = V := ⟨_, rfl⟩
  have GA := Lib.hid (fun i (hi : i < 27) => show V1[i]? = some (.int .i64 (fa i : Nat)) by rw [← hV1]; exact av_get fa (by omega))
  have GB := Lib.hid (fun i (hi : i < 27) => show V2[i]? = some (.int .i64 (fb i : Nat)) by rw [← hV2]; exact av_get fb (by omega))
  have GP := Lib.hid (fun i (hi : i < 27) => show V3[i]? = some (.int .i64 (fp i : Nat)) by rw [← hV3]; exact av_get fp hi)
  rw [hV1, hV2, hV3]
  clear hV1 hV2 hV3 hA hB hP
  have kb0 : Blk (((((w.alloc (.cells V1 74)).alloc (.cells V2 74)).alloc (.cells V3 62)).alloc (.cells #[.int .i64 0, .int .i64 0, .int .i64 0, .int .i64 0, .int .i64 0, .int .i64 0, .int .i64 0, .int .i64 0, .int .i64 0, .int .i64 0, .int .i64 0, .int .i64 0, .int .i64 0, .int .i64 0, .int .i64 0, .int .i64 0, .int .i64 0, .int .i64 0, .int .i64 0, .int .i64 0, .int .i64 0, .int .i64 0, .int .i64 0, .int .i64 0, .int .i64 0, .int .i64 0, .int .i64 0] 62)).alloc (.cells #[.int .i64 0, .int .i64 0, .int .i64 0, .int .i64 0, .int .i64 0, .int .i64 0, .int .i64 0, .int .i64 0, .int .i64 0, .int .i64 0, .int .i64 0, .int .i64 0, .int .i64 0, .int .i64 0, .int .i64 0, .int .i64 0, .int .i64 0, .int .i64 0, .int .i64 0, .int .i64 0, .int .i64 0, .int .i64 0, .int .i64 0, .int .i64 0, .int .i64 0, .int .i64 0, .int .i64 0] 62)) (w.heap.size) 74 V1 := by
    have h0 := Blk.new w 74 V1
    have hz : w.heap.size = w.heap.size := by simp
    rw [hz] at h0
    exact ((((h0.alloc _).alloc _).alloc _).alloc _)
  have kb1 : Blk (((((w.alloc (.cells V1 74)).alloc (.cells V2 74)).alloc (.cells V3 62)).alloc (.cells #[.int .i64 0, .int .i64 0, .int .i64 0, .int .i64 0, .int .i64 0, .int .i64 0, .int .i64 0, .int .i64 0, .int .i64 0, .int .i64 0, .int .i64 0, .int .i64 0, .int .i64 0, .int .i64 0, .int .i64 0, .int .i64 0, .int .i64 0, .int .i64 0, .int .i64 0, .int .i64 0, .int .i64 0, .int .i64 0, .int .i64 0, .int .i64 0, .int .i64 0, .int .i64 0, .int .i64 0] 62)).alloc (.cells #[.int .i64 0, .int .i64 0, .int .i64 0, .int .i64 0, .int .i64 0, .int .i64 0, .int .i64 0, .int .i64 0, .int .i64 0, .int .i64 0, .int .i64 0, .int .i64 0, .int .i64 0, .int .i64 0, .int .i64 0, .int .i64 0, .int .i64 0, .int .i64 0, .int .i64 0, .int .i64 0, .int .i64 0, .int .i64 0, .int .i64 0, .int .i64 0, .int .i64 0, .int .i64 0, .int .i64 0] 62)) (w.heap.size + 1) 74 V2 := by
    have h0 := Blk.new (w.alloc (.cells V1 74)) 74 V2
    have hz : (w.alloc (.cells V1 74)).heap.size = w.heap.size + 1 := by simp
    rw [hz] at h0
    exact (((h0.alloc _).alloc _).alloc _)
  have kb2 : Blk (((((w.alloc (.cells V1 74)).alloc (.cells V2 74)).alloc (.cells V3 62)).alloc (.cells #[.int .i64 0, .int .i64 0, .int .i64 0, .int .i64 0, .int .i64 0, .int .i64 0, .int .i64 0, .int .i64 0, .int .i64 0, .int .i64 0, .int .i64 0, .int .i64 0, .int .i64 0, .int .i64 0, .int .i64 0, .int .i64 0, .int .i64 0, .int .i64 0, .int .i64 0, .int .i64 0, .int .i64 0, .int .i64 0, .int .i64 0, .int .i64 0, .int .i64 0, .int .i64 0, .int .i64 0] 62)).alloc (.cells #[.int .i64 0, .int .i64 0, .int .i64 0, .int .i64 0, .int .i64 0, .int .i64 0, .int .i64 0, .int .i64 0, .int .i64 0, .int .i64 0, .int .i64 0, .int .i64 0, .int .i64 0, .int .i64 0, .int .i64 0, .int .i64 0, .int .i64 0, .int .i64 0, .int .i64 0, .int .i64 0, .int .i64 0, .int .i64 0, .int .i64 0, .int .i64 0, .int .i64 0, .int .i64 0, .int .i64 0] 62)) (w.heap.size + 2) 62 V3 := by
    have h0 := Blk.new ((w.alloc (.cells V1 74)).alloc (.cells V2 74)) 62 V3
    have hz : ((w.alloc (.cells V1 74)).alloc (.cells V2 74)).heap.size = w.heap.size + 2 := by simp
    rw [hz] at h0
    exact ((h0.alloc _).alloc _)
  have kr : Blk (((((w.alloc (.cells V1 74)).alloc (.cells V2 74)).alloc (.cells V3 62)).alloc (.cells #[.int .i64 0, .int .i64 0, .int .i64 0, .int .i64 0, .int .i64 0, .int .i64 0, .int .i64 0, .int .i64 0, .int .i64 0, .int .i64 0, .int .i64 0, .int .i64 0, .int .i64 0, .int .i64 0, .int .i64 0, .int .i64 0, .int .i64 0, .int .i64 0, .int .i64 0, .int .i64 0, .int .i64 0, .int .i64 0, .int .i64 0, .int .i64 0, .int .i64 0, .int .i64 0, .int .i64 0] 62)).alloc (.cells #[.int .i64 0, .int .i64 0, .int .i64 0, .int .i64 0, .int .i64 0, .int .i64 0, .int .i64 0, .int .i64 0, .int .i64 0, .int .i64 0, .int .i64 0, .int .i64 0, .int .i64 0, .int .i64 0, .int .i64 0, .int .i64 0, .int .i64 0, .int .i64 0, .int .i64 0, .int .i64 0, .int .i64 0, .int .i64 0, .int .i64 0, .int .i64 0, .int .i64 0, .int .i64 0, .int .i64 0] 62)) (w.heap.size + 3) 62 #[.int .i64 0, .int .i64 0, .int .i64 0, .int .i64 0, .int .i64 0, .int .i64 0, .int .i64 0, .int .i64 0, .int .i64 0, .int .i64 0, .int .i64 0, .int .i64 0, .int .i64 0, .int .i64 0, .int .i64 0, .int .i64 0, .int .i64 0, .int .i64 0, .int .i64 0, .int .i64 0, .int .i64 0, .int .i64 0, .int .i64 0, .int .i64 0, .int .i64 0, .int .i64 0, .int .i64 0] := by
    have h0 := Blk.new (((w.alloc (.cells V1 74)).alloc (.cells V2 74)).alloc (.cells V3 62)) 62 #[.int .i64 0, .int .i64 0, .int .i64 0, .int .i64 0, .int .i64 0, .int .i64 0, .int .i64 0, .int .i64 0, .int .i64 0, .int .i64 0, .int .i64 0, .int .i64 0, .int .i64 0, .int .i64 0, .int .i64 0, .int .i64 0, .int .i64 0, .int .i64 0, .int .i64 0, .int .i64 0, .int .i64 0, .int .i64 0, .int .i64 0, .int .i64 0, .int .i64 0, .int .i64 0, .int .i64 0]
    have hz : (((w.alloc (.cells V1 74)).alloc (.cells V2 74)).alloc (.cells V3 62)).heap.size = w.heap.size + 3 := by simp
    rw [hz] at h0
    exact h0.alloc _
  have kz : Blk (((((w.alloc (.cells V1 74)).alloc (.cells V2 74)).alloc (.cells V3 62)).alloc (.cells #[.int .i64 0, .int .i64 0, .int .i64 0, .int .i64 0, .int .i64 0, .int .i64 0, .int .i64 0, .int .i64 0, .int .i64 0, .int .i64 0, .int .i64 0, .int .i64 0, .int .i64 0, .int .i64 0, .int .i64 0, .int .i64 0, .int .i64 0, .int .i64 0, .int .i64 0, .int .i64 0, .int .i64 0, .int .i64 0, .int .i64 0, .int .i64 0, .int .i64 0, .int .i64 0, .int .i64 0] 62)).alloc (.cells #[.int .i64 0, .int .i64 0, .int .i64 0, .int .i64 0, .int .i64 0, .int .i64 0, .int .i64 0, .int .i64 0, .int .i64 0, .int .i64 0, .int .i64 0, .int .i64 0, .int .i64 0, .int .i64 0, .int .i64 0, .int .i64 0, .int .i64 0, .int .i64 0, .int .i64 0, .int .i64 0, .int .i64 0, .int .i64 0, .int .i64 0, .int .i64 0, .int .i64 0, .int .i64 0, .int .i64 0] 62)) (w.heap.size + 4) 62 #[.int .i64 0, .int .i64 0, .int .i64 0, .int .i64 0, .int .i64 0, .int .i64 0, .int .i64 0, .int .i64 0, .int .i64 0, .int .i64 0, .int .i64 0, .int .i64 0, .int .i64 0, .int .i64 0, .int .i64 0, .int .i64 0, .int .i64 0, .int .i64 0, .int .i64 0, .int .i64 0, .int .i64 0, .int .i64 0, .int .i64 0, .int .i64 0, .int .i64 0, .int .i64 0, .int .i64 0] := by
    have h0 := Blk.new ((((w.alloc (.cells V1 74)).alloc (.cells V2 74)).alloc (.cells V3 62)).alloc (.cells #[.int .i64 0, .int .i64 0, .int .i64 0, .int .i64 0, .int .i64 0, .int .i64 0, .int .i64 0, .int .i64 0, .int .i64 0, .int .i64 0, .int .i64 0, .int .i64 0, .int .i64 0, .int .i64 0, .int .i64 0, .int .i64 0, .int .i64 0, .int .i64 0, .int .i64 0, .int .i64 0, .int .i64 0, .int .i64 0, .int .i64 0, .int .i64 0, .int .i64 0, .int .i64 0, .int .i64 0] 62)) 62 #[.int .i64 0, .int .i64 0, .int .i64 0, .int .i64 0, .int .i64 0, .int .i64 0, .int .i64 0, .int .i64 0, .int .i64 0, .int .i64 0, .int .i64 0, .int .i64 0, .int .i64 0, .int .i64 0, .int .i64 0, .int .i64 0, .int .i64 0, .int .i64 0, .int .i64 0, .int .i64 0, .int .i64 0, .int .i64 0, .int .i64 0, .int .i64 0, .int .i64 0, .int .i64 0, .int .i64 0]
    have hz : ((((w.alloc (.cells V1 74)).alloc (.cells V2 74)).alloc (.cells V3 62)).alloc (.cells #[.int .i64 0, .int .i64 0, .int .i64 0, .int .i64 0, .int .i64 0, .int .i64 0, .int .i64 0, .int .i64 0, .int .i64 0, .int .i64 0, .int .i64 0, .int .i64 0, .int .i64 0, .int .i64 0, .int .i64 0, .int .i64 0, .int .i64 0, .int .i64 0, .int .i64 0, .int .i64 0, .int .i64 0, .int .i64 0, .int .i64 0, .int .i64 0, .int .i64 0, .int .i64 0, .int .i64 0] 62)).heap.size = w.heap.size + 4 := by simp
    rw [hz] at h0
    exact h0
  have KB0 := Lib.hid kb0
  have KB1 := Lib.hid kb1
  have KB2 := Lib.hid kb2
  have KR : Hid (Held (((((w.alloc (.cells V1 74)).alloc (.cells V2 74)).alloc (.cells V3 62)).alloc (.cells #[.int .i64 0, .int .i64 0, .int .i64 0, .int .i64 0, .int .i64 0, .int .i64 0, .int .i64 0, .int .i64 0, .int .i64 0, .int .i64 0, .int .i64 0, .int .i64 0, .int .i64 0, .int .i64 0, .int .i64 0, .int .i64 0, .int .i64 0, .int .i64 0, .int .i64 0, .int .i64 0, .int .i64 0, .int .i64 0, .int .i64 0, .int .i64 0, .int .i64 0, .int .i64 0, .int .i64 0] 62)).alloc (.cells #[.int .i64 0, .int .i64 0, .int .i64 0, .int .i64 0, .int .i64 0, .int .i64 0, .int .i64 0, .int .i64 0, .int .i64 0, .int .i64 0, .int .i64 0, .int .i64 0, .int .i64 0, .int .i64 0, .int .i64 0, .int .i64 0, .int .i64 0, .int .i64 0, .int .i64 0, .int .i64 0, .int .i64 0, .int .i64 0, .int .i64 0, .int .i64 0, .int .i64 0, .int .i64 0, .int .i64 0] 62)) (w.heap.size + 3)) := ⟨_, rfl, kr⟩
  have KZ := Lib.hid kz
  have KL : Hid (∃ f, M27 f ∧ Blk (((((w.alloc (.cells V1 74)).alloc (.cells V2 74)).alloc (.cells V3 62)).alloc (.cells #[.int .i64 0, .int .i64 0, .int .i64 0, .int .i64 0, .int .i64 0, .int .i64 0, .int .i64 0, .int .i64 0, .int .i64 0, .int .i64 0, .int .i64 0, .int .i64 0, .int .i64 0, .int .i64 0, .int .i64 0, .int .i64 0, .int .i64 0, .int .i64 0, .int .i64 0, .int .i64 0, .int .i64 0, .int .i64 0, .int .i64 0, .int .i64 0, .int .i64 0, .int .i64 0, .int .i64 0] 62)).alloc (.cells #[.int .i64 0, .int .i64 0, .int .i64 0, .int .i64 0, .int .i64 0, .int .i64 0, .int .i64 0, .int .i64 0, .int .i64 0, .int .i64 0, .int .i64 0, .int .i64 0, .int .i64 0, .int .i64 0, .int .i64 0, .int .i64 0, .int .i64 0, .int .i64 0, .int .i64 0, .int .i64 0, .int .i64 0, .int .i64 0, .int .i64 0, .int .i64 0, .int .i64 0, .int .i64 0, .int .i64 0] 62)) (w.heap.size + 4) 62 (av 27 f)) := ⟨fun _ => 0, fun i _ => show 0 < 134217728 by decide, by rw [← av_zero]; exact kz⟩
  have HW := Lib.hid (setRow_self (((((w.alloc (.cells V1 74)).alloc (.cells V2 74)).alloc (.cells V3 62)).alloc (.cells #[.int .i64 0, .int .i64 0, .int .i64 0, .int .i64 0, .int .i64 0, .int .i64 0, .int .i64 0, .int .i64 0, .int .i64 0, .int .i64 0, .int .i64 0, .int .i64 0, .int .i64 0, .int .i64 0, .int .i64 0, .int .i64 0, .int .i64 0, .int .i64 0, .int .i64 0, .int .i64 0, .int .i64 0, .int .i64 0, .int .i64 0, .int .i64 0, .int .i64 0, .int .i64 0, .int .i64 0] 62)).alloc (.cells #[.int .i64 0, .int .i64 0, .int .i64 0, .int .i64 0, .int .i64 0, .int .i64 0, .int .i64 0, .int .i64 0, .int .i64 0, .int .i64 0, .int .i64 0, .int .i64 0, .int .i64 0, .int .i64 0, .int .i64 0, .int .i64 0, .int .i64 0, .int .i64 0, .int .i64 0, .int .i64 0, .int .i64 0, .int .i64 0, .int .i64 0, .int .i64 0, .int .i64 0, .int .i64 0, .int .i64 0] 62)) (w.heap.size + 4) #[.int .i64 0, .int .i64 0, .int .i64 0, .int .i64 0, .int .i64 0, .int .i64 0, .int .i64 0, .int .i64 0, .int .i64 0, .int .i64 0, .int .i64 0, .int .i64 0, .int .i64 0, .int .i64 0, .int .i64 0, .int .i64 0, .int .i64 0, .int .i64 0, .int .i64 0, .int .i64 0, .int .i64 0, .int .i64 0, .int .i64 0, .int .i64 0, .int .i64 0, .int .i64 0, .int .i64 0] 62 (0, 0) kz)
  have B0 : Hid (Below w.heap.size w (((((w.alloc (.cells V1 74)).alloc (.cells V2 74)).alloc (.cells V3 62)).alloc (.cells #[.int .i64 0, .int .i64 0, .int .i64 0, .int .i64 0, .int .i64 0, .int .i64 0, .int .i64 0, .int .i64 0, .int .i64 0, .int .i64 0, .int .i64 0, .int .i64 0, .int .i64 0, .int .i64 0, .int .i64 0, .int .i64 0, .int .i64 0, .int .i64 0, .int .i64 0, .int .i64 0, .int .i64 0, .int .i64 0, .int .i64 0, .int .i64 0, .int .i64 0, .int .i64 0, .int .i64 0] 62)).alloc (.cells #[.int .i64 0, .int .i64 0, .int .i64 0, .int .i64 0, .int .i64 0, .int .i64 0, .int .i64 0, .int .i64 0, .int .i64 0, .int .i64 0, .int .i64 0, .int .i64 0, .int .i64 0, .int .i64 0, .int .i64 0, .int .i64 0, .int .i64 0, .int .i64 0, .int .i64 0, .int .i64 0, .int .i64 0, .int .i64 0, .int .i64 0, .int .i64 0, .int .i64 0, .int .i64 0, .int .i64 0] 62))) := (((((Below.refl w.heap.size w).alloc (by first | exact Nat.le_refl _ | (simp; done) | (simp; omega)) (.cells V1 74)).alloc (by first | exact Nat.le_refl _ | (simp; done) | (simp; omega)) (.cells V2 74)).alloc (by first | exact Nat.le_refl _ | (simp; done) | (simp; omega)) (.cells V3 62)).alloc (by first | exact Nat.le_refl _ | (simp; done) | (simp; omega)) (.cells #[.int .i64 0, .int .i64 0, .int .i64 0, .int .i64 0, .int .i64 0, .int .i64 0, .int .i64 0, .int .i64 0, .int .i64 0, .int .i64 0, .int .i64 0, .int .i64 0, .int .i64 0, .int .i64 0, .int .i64 0, .int .i64 0, .int .i64 0, .int .i64 0, .int .i64 0, .int .i64 0, .int .i64 0, .int .i64 0, .int .i64 0, .int .i64 0, .int .i64 0, .int .i64 0, .int .i64 0] 62)).alloc (by first | exact Nat.le_refl _ | (simp; done) | (simp; omega)) (.cells #[.int .i64 0, .int .i64 0, .int .i64 0, .int .i64 0, .int .i64 0, .int .i64 0, .int .i64 0, .int .i64 0, .int .i64 0, .int .i64 0, .int .i64 0, .int .i64 0, .int .i64 0, .int .i64 0, .int .i64 0, .int .i64 0, .int .i64 0, .int .i64 0, .int .i64 0, .int .i64 0, .int .i64 0, .int .i64 0, .int .i64 0, .int .i64 0, .int .i64 0, .int .i64 0, .int .i64 0] 62)
  clear kz kr kb0 kb1 kb2
  go_enter Tryz.func64, Tryz.ntmps64
  go_wp2_with (refine wpList_store_row rfl 62 (.tmp 7) (.tmp 12) rfl (w.heap.size + 4) #[.int .i64 0, .int .i64 0, .int .i64 0, .int .i64 0, .int .i64 0, .int .i64 0, .int .i64 0, .int .i64 0, .int .i64 0, .int .i64 0, .int .i64 0, .int .i64 0, .int .i64 0, .int .i64 0, .int .i64 0, .int .i64 0, .int .i64 0, .int .i64 0, .int .i64 0, .int .i64 0, .int .i64 0, .int .i64 0, .int .i64 0, .int .i64 0, .int .i64 0, .int .i64 0, .int .i64 0] rfl rfl 62 #[.int .i64 0, .int .i64 0, .int .i64 0, .int .i64 0, .int .i64 0, .int .i64 0, .int .i64 0, .int .i64 0, .int .i64 0, .int .i64 0, .int .i64 0, .int .i64 0, .int .i64 0, .int .i64 0, .int .i64 0, .int .i64 0, .int .i64 0, .int .i64 0, .int .i64 0, .int .i64 0, .int .i64 0, .int .i64 0, .int .i64 0, .int .i64 0, .int .i64 0, .int .i64 0, .int .i64 0] KZ.out rel_size rfl z_one ?_)
  try rw [HW.out]
  clear HW KZ
  go_loopg [8] 27 (fun gk sv wr => ∃ a : Nat, a + gk = 27 ∧ sv = .int .i64 a ∧ Hid (Held wr (w.heap.size + 3)) ∧ Hid (∃ f, M27 f ∧ Blk wr (w.heap.size + 4) 62 (av 27 f)) ∧ Hid (Blk wr (w.heap.size) 74 V1) ∧ Hid (Blk wr (w.heap.size + 1) 74 V2) ∧ Hid (Blk wr (w.heap.size + 2) 62 V3) ∧ Hid (Below w.heap.size w wr))
  case atStart => exact ⟨0, rfl, rfl, KR, KL, KB0, KB1, KB2, B0⟩
  case round =>
    clear KR KL KB0 KB1 KB2 B0
    obtain ⟨a, ha, rfl, KR, KL, KB0, KB1, KB2, B⟩ := hrel
    obtain ⟨go, hgo⟩ : ∃ n, n = gk := ⟨_, rfl⟩
    rw [← hgo] at ha
    by_cases hla : a < 27
    · have hda : decide ((a : Int) < 27) = true := by simp; omega
      go_wp2_with fail
      try rw [hda]
      clear hda
      go_loopg [9, 10] 27 (fun gk s9 s10 wr => ∃ b m : Nat, b + gk = 27 ∧ s9 = .int .i64 m ∧ s10 = .int .i64 b ∧ m < 134217728 ∧ Hid (Held wr (w.heap.size + 3)) ∧ Hid (∃ f, M27 f ∧ Blk wr (w.heap.size + 4) 62 (av 27 f)) ∧ Hid (Blk wr (w.heap.size) 74 V1) ∧ Hid (Blk wr (w.heap.size + 1) 74 V2) ∧ Hid (Blk wr (w.heap.size + 2) 62 V3) ∧ Hid (Below w.heap.size w wr))
      case atStart => exact ⟨0, 134217727, rfl, rfl, rfl, by decide, KR, KL, KB0, KB1, KB2, B⟩
      case round =>
        clear KR KL KB0 KB1 KB2 B
        obtain ⟨b, m, hb, rfl, rfl, hm, KR, KL, KB0, KB1, KB2, B⟩ := hrel
        by_cases hlb : b < 27
        · have hca := (KB0.out.cell a).trans (GA.out a hla)
          have hcp := (KB2.out.cell b).trans (GP.out b hlb)
          have IN := Lib.hid (fun w => inN_any (fa a) b (FA.out a (by omega)) hlb w)
          have hxa : (a : Int) < 27 := by omega
          have hxb : (b : Int) < 27 := by omega
          cases hbit : bitN (fa a) b
          · rw [hbit] at IN
            clear hbit
            go_wp2_with fail
            refine (IN.out _).mono ?_
            rintro e w' ⟨rfl, rfl⟩
            go_wp2_with fail
            go_roundg (gk - 1)
            case measure => omega
            case rel => exact ⟨b + 1, m, by omega, rfl, by go_num, hm, KR, KL, KB0, KB1, KB2, B⟩
          · rw [hbit] at IN
            have hand := and_int m (fp b) hm (FP.out b hlb)
            have hm2 := and_lt (fp b) hm
            have HAND := Lib.hid hand
            clear hbit hand
            go_wp2_with fail
            refine (IN.out _).mono ?_
            rintro e w' ⟨rfl, rfl⟩
            go_wp2_with fail
            go_roundg (gk - 1)
            case measure => omega
            case rel => exact ⟨b + 1, _, by omega, congrArg (Value.int .i64) HAND.out, by go_num, hm2, KR, KL, KB0, KB1, KB2, B⟩
        · obtain rfl : b = 27 := by omega
          clear hlb
          go_wp2_with fail
          go_loopg [11] 27 (fun gk sv wr => ∃ b : Nat, b + gk = 27 ∧ sv = .int .i64 b ∧ Hid (Held wr (w.heap.size + 3)) ∧ Hid (∃ f, M27 f ∧ Blk wr (w.heap.size + 4) 62 (av 27 f)) ∧ Hid (Blk wr (w.heap.size) 74 V1) ∧ Hid (Blk wr (w.heap.size + 1) 74 V2) ∧ Hid (Blk wr (w.heap.size + 2) 62 V3) ∧ Hid (Below w.heap.size w wr))
          case atStart => exact ⟨0, rfl, rfl, KR, KL, KB0, KB1, KB2, B⟩
          case round =>
            clear KR KL KB0 KB1 KB2 B
            obtain ⟨b, hb, rfl, KR, KL, KB0, KB1, KB2, B⟩ := hrel
            by_cases hlb : b < 27
            · have hca := (KB0.out.cell a).trans (GA.out a hla)
              have hcb := (KB1.out.cell b).trans (GB.out b hlb)
              have hxa : (a : Int) < 27 := by omega
              have hxb : (b : Int) < 27 := by omega
              have had := adn_int (fb b) m (FB.out b (by omega)) hm
              by_cases h1 : adn (fb b) m = 0
              · have e1 : (bits BinOp.andNot IntKind.i64 ((fb b : Nat) : Int) (m : Int) == 0) = true := by rw [had, h1]; rfl
                clear had h1
                obtain ⟨f, hf, kl⟩ := KL.out
                have hc := (kl.cell a).trans (av_get f hla)
                have hfz := kl.frozen a
                have hor := or_pow (f a) b (hf a hla) hlb
                have hm2 := or_lt (hf a hla) (p27 hlb)
                have k5 := kl.set_ a (.int .i64 (bits BinOp.or IntKind.i64 ((f a : Nat) : Int) (wrap64 (2 ^ b))))
                rw [hor, av_set, ← hor] at k5
                have K5 : Hid (∃ h, M27 h ∧ Blk (wr.setCell ⟨w.heap.size + 4, a, none⟩ (.int .i64 (bits BinOp.or IntKind.i64 ((f a : Nat) : Int) (wrap64 (2 ^ b))))) (w.heap.size + 4) 62 (av 27 h)) := ⟨_, hf.upd a hm2, k5⟩
                have R5 := Lib.hid (KR.out.far (p := ⟨w.heap.size + 4, a, none⟩) (by simp) (.int .i64 (bits BinOp.or IntKind.i64 ((f a : Nat) : Int) (wrap64 (2 ^ b)))))
                have P0 := Lib.hid (KB0.out.far (p := ⟨w.heap.size + 4, a, none⟩) (by simp) (.int .i64 (bits BinOp.or IntKind.i64 ((f a : Nat) : Int) (wrap64 (2 ^ b)))))
                have P1 := Lib.hid (KB1.out.far (p := ⟨w.heap.size + 4, a, none⟩) (by simp) (.int .i64 (bits BinOp.or IntKind.i64 ((f a : Nat) : Int) (wrap64 (2 ^ b)))))
                have P2 := Lib.hid (KB2.out.far (p := ⟨w.heap.size + 4, a, none⟩) (by simp) (.int .i64 (bits BinOp.or IntKind.i64 ((f a : Nat) : Int) (wrap64 (2 ^ b)))))
                have B5 := Lib.hid (B.out.setCell (p := ⟨w.heap.size + 4, a, none⟩) (by simp) (.int .i64 (bits BinOp.or IntKind.i64 ((f a : Nat) : Int) (wrap64 (2 ^ b)))))
                clear hf kl hor hm2 k5 KR KL KB0 KB1 KB2 B
                go_wp2_with fail
                go_roundg (gk - 1)
                case measure => omega
                case rel => exact ⟨b + 1, by omega, by go_num, R5, K5, P0, P1, P2, B5⟩
              · have e1 : (bits BinOp.andNot IntKind.i64 ((fb b : Nat) : Int) (m : Int) == 0) = false := by rw [had]; simp; omega
                clear had h1
                by_cases h2 : fa a = 0
                · have e2 : (((fa a : Nat) : Int) == 0) = true := by rw [h2]; rfl
                  clear h2
                  obtain ⟨f, hf, kl⟩ := KL.out
                  have hc := (kl.cell a).trans (av_get f hla)
                  have hfz := kl.frozen a
                  have hor := or_pow (f a) b (hf a hla) hlb
                  have hm2 := or_lt (hf a hla) (p27 hlb)
                  have k5 := kl.set_ a (.int .i64 (bits BinOp.or IntKind.i64 ((f a : Nat) : Int) (wrap64 (2 ^ b))))
                  rw [hor, av_set, ← hor] at k5
                  have K5 : Hid (∃ h, M27 h ∧ Blk (wr.setCell ⟨w.heap.size + 4, a, none⟩ (.int .i64 (bits BinOp.or IntKind.i64 ((f a : Nat) : Int) (wrap64 (2 ^ b))))) (w.heap.size + 4) 62 (av 27 h)) := ⟨_, hf.upd a hm2, k5⟩
                  have R5 := Lib.hid (KR.out.far (p := ⟨w.heap.size + 4, a, none⟩) (by simp) (.int .i64 (bits BinOp.or IntKind.i64 ((f a : Nat) : Int) (wrap64 (2 ^ b)))))
                  have P0 := Lib.hid (KB0.out.far (p := ⟨w.heap.size + 4, a, none⟩) (by simp) (.int .i64 (bits BinOp.or IntKind.i64 ((f a : Nat) : Int) (wrap64 (2 ^ b)))))
                  have P1 := Lib.hid (KB1.out.far (p := ⟨w.heap.size + 4, a, none⟩) (by simp) (.int .i64 (bits BinOp.or IntKind.i64 ((f a : Nat) : Int) (wrap64 (2 ^ b)))))
                  have P2 := Lib.hid (KB2.out.far (p := ⟨w.heap.size + 4, a, none⟩) (by simp) (.int .i64 (bits BinOp.or IntKind.i64 ((f a : Nat) : Int) (wrap64 (2 ^ b)))))
                  have B5 := Lib.hid (B.out.setCell (p := ⟨w.heap.size + 4, a, none⟩) (by simp) (.int .i64 (bits BinOp.or IntKind.i64 ((f a : Nat) : Int) (wrap64 (2 ^ b)))))
                  clear hf kl hor hm2 k5 KR KL KB0 KB1 KB2 B
                  go_wp2_with fail
                  go_roundg (gk - 1)
                  case measure => omega
                  case rel => exact ⟨b + 1, by omega, by go_num, R5, K5, P0, P1, P2, B5⟩
                · have e2 : (((fa a : Nat) : Int) == 0) = false := by simp; omega
                  clear h2
                  go_wp2_with fail
                  go_roundg (gk - 1)
                  case measure => omega
                  case rel => exact ⟨b + 1, by omega, by go_num, KR, KL, KB0, KB1, KB2, B⟩
            · obtain rfl : b = 27 := by omega
              clear hlb
              go_wp2_with fail
              go_roundg (go - 1)
              case measure => omega
              case rel => exact ⟨a + 1, by omega, by go_num, KR, KL, KB0, KB1, KB2, B⟩
    · obtain rfl : a = 27 := by omega
      clear hla hgo FA FB FP GA GB GP
      obtain ⟨f, hf, kl⟩ := KL.out
      have HF := Lib.hid hf
      obtain ⟨V, hV⟩ : ∃ V, av 27 f = V := ⟨_, rfl⟩
      have HV := Lib.hid hV
      have k3 := kl
      rw [hV] at k3
      have hz : V.size = 27 := by rw [← hV]; exact av_size _ _
      have h1 : V.all (·.oneCell') = true := by rw [← hV]; exact av_one _ _
      have hi : (Tryz.prog.info? 62).map (·.size) = some V.size := by rw [hz]; exact rel_size
      obtain ⟨old, hoz, k2⟩ := KR.out
      have kE := setRow_heap wr (w.heap.size + 3) _ V 62 (0, 0) k2
      have BE : Hid (Below w.heap.size w (wr.setRow (w.heap.size + 3) V)) := B.out.trans (show Below w.heap.size wr (wr.setRow (w.heap.size + 3) V) from ⟨rfl, rfl, rfl, by simp, fun g hg => setRow_other wr (w.heap.size + 3) g V (by omega)⟩)
      have X := Lib.hid (And.intro k3 (And.intro k2 (And.intro hi (And.intro (hoz.trans hz.symm) (And.intro h1 kE)))))
      clear k3 KL KR k2 hoz kE hz h1 hi KB0 KB1 KB2 kl hf hV
      go_wp2_with (first | (refine wpList_load_row rfl 62 (.tmp 7) rfl (w.heap.size + 4) rfl 62 V (0, 0) _ X.out.1 Tryz.underlying62 rfl X.out.2.2.1 ?_) | (refine wpList_store_row rfl 62 (.tmp 6) (.tmp 59) rfl (w.heap.size + 3) V rfl rfl 62 old X.out.2.1 X.out.2.2.1 X.out.2.2.2.1 X.out.2.2.2.2.1 ?_))
      exact bodyPost_ret (v := .agg V) (results_cell_row rfl _ _ (w.heap.size + 3) 62 V (0, 0) _ rfl X.out.2.2.2.2.2 Tryz.underlying62 rfl X.out.2.2.1) rfl ⟨f, HF.out, by rw [HV.out], BE.out⟩
set_option maxRecDepth 100000 in
set_option maxHeartbeats 8000000 in
theorem l8Rel_any (R : ByteArray) (hr : bOk 729 R.data.toList = true) (w : World) : Calls Tryz.prog 65 #[.string R] w fun e w' => ∃ f, M27 f ∧ e = .returned (.agg (av 27 f)) ∧ Below w.heap.size w w' := by
  have RD := Lib.hid (fun w => l6Read_any R hr w)
  obtain ⟨f, hf, hV⟩ := m27_row (ro R.data.toList)
  rw [hV] at RD
  have HF := Lib.hid hf
  obtain ⟨V, hV⟩ : ∃ V, av 27 f = V := ⟨_, rfl⟩
  rw [hV] at RD
  have HV := Lib.hid hV
  have hz : V.size = 27 := by rw [← hV]; exact av_size _ _
  have h1 : V.all (·.oneCell') = true := by rw [← hV]; exact av_one _ _
  have hi : (Tryz.prog.info? 62).map (·.size) = some V.size := by rw [hz]; exact rel_size
  have X := Lib.hid (And.intro hi (And.intro hz h1))
  have kr := Blk.new w 62 #[.int .i64 0, .int .i64 0, .int .i64 0, .int .i64 0, .int .i64 0, .int .i64 0, .int .i64 0, .int .i64 0, .int .i64 0, .int .i64 0, .int .i64 0, .int .i64 0, .int .i64 0, .int .i64 0, .int .i64 0, .int .i64 0, .int .i64 0, .int .i64 0, .int .i64 0, .int .i64 0, .int .i64 0, .int .i64 0, .int .i64 0, .int .i64 0, .int .i64 0, .int .i64 0, .int .i64 0]
  have KR := Lib.hid kr
  have B0 := Lib.hid ((Below.refl w.heap.size w).alloc (Nat.le_refl _) (.cells #[.int .i64 0, .int .i64 0, .int .i64 0, .int .i64 0, .int .i64 0, .int .i64 0, .int .i64 0, .int .i64 0, .int .i64 0, .int .i64 0, .int .i64 0, .int .i64 0, .int .i64 0, .int .i64 0, .int .i64 0, .int .i64 0, .int .i64 0, .int .i64 0, .int .i64 0, .int .i64 0, .int .i64 0, .int .i64 0, .int .i64 0, .int .i64 0, .int .i64 0, .int .i64 0, .int .i64 0] 62))
  clear hf hV hz h1 hi kr hr
  go_enter Tryz.func65, Tryz.ntmps65
  go_wp2_with fail
  refine (RD.out _).mono ?_
  rintro e w1 ⟨rfl, hb⟩
  have K1 := Lib.hid (KR.out.below hb KR.out.lt)
  have B1 := Lib.hid (below_2 B0.out hb)
  have kE := setRow_heap w1 w.heap.size _ V 62 (0, 0) K1.out
  have KE := Lib.hid kE
  have BE : Hid (Below w.heap.size w (w1.setRow w.heap.size V)) := B1.out.trans (show Below w.heap.size w1 (w1.setRow w.heap.size V) from ⟨rfl, rfl, rfl, by simp, fun g hg => setRow_other w1 w.heap.size g V (by omega)⟩)
  clear hb kE
  go_wp2_with (refine wpList_store_row rfl 62 (.tmp 2) (.tmp 4) rfl w.heap.size V rfl rfl 62 #[.int .i64 0, .int .i64 0, .int .i64 0, .int .i64 0, .int .i64 0, .int .i64 0, .int .i64 0, .int .i64 0, .int .i64 0, .int .i64 0, .int .i64 0, .int .i64 0, .int .i64 0, .int .i64 0, .int .i64 0, .int .i64 0, .int .i64 0, .int .i64 0, .int .i64 0, .int .i64 0, .int .i64 0, .int .i64 0, .int .i64 0, .int .i64 0, .int .i64 0, .int .i64 0, .int .i64 0] K1.out X.out.1 (by rw [X.out.2.1]; rfl) X.out.2.2 ?_)
  exact bodyPost_ret (v := .agg V) (results_cell_row rfl _ _ w.heap.size 62 V (0, 0) _ rfl KE.out Tryz.underlying62 rfl X.out.1) rfl ⟨f, HF.out, by rw [HV.out], BE.out⟩
set_option maxHeartbeats 4000000 in
theorem l8Ready_any (P Q R : ByteArray) (hP : (whole false 2 200 P.data.toList).isSome = true) (hQ : (whole false 2 200 Q.data.toList).isSome = true) (hR : bOk 729 R.data.toList = true) (w : World) : Calls Tryz.prog 63 #[.string P, .string Q, .string R] w fun e w' => e = .returned (.bool true) ∧ Below w.heap.size w w' := by
  have V := Lib.hid (fun w => by have := ProgramValidS_free P w; rw [hP] at this; exact this)
  have U := Lib.hid (fun w => by have := ProgramValidS_free Q w; rw [hQ] at this; exact this)
  have RV := Lib.hid (fun w => by have := RelValidS_any R (by have := okR_size hR; omega) w; rw [hR] at this; exact this)
  clear hP hQ hR
  go_enter Tryz.func63, Tryz.ntmps63
  go_wp2_with fail
  refine (V.out _).mono ?_
  rintro e w1 ⟨rfl, m1, rfl⟩
  go_wp2_with fail
  refine (U.out _).mono ?_
  rintro e w1 ⟨rfl, m2, rfl⟩
  go_wp2_with fail
  refine (RV.out _).mono ?_
  rintro e w1 ⟨rfl, rfl⟩
  go_wp2_with fail
  go_ret
  exact ⟨rfl, drw2B m1 m2⟩
/-- a relation and true -/
def FreePost (w : World) (e : Ending) (w' : World) : Prop := ∃ S : ByteArray, bOk 729 S.data.toList = true ∧ e = .returned (.tuple #[.string S, .bool true]) ∧ Below w.heap.size w w'
set_option maxRecDepth 100000 in
set_option maxHeartbeats 8000000 in
theorem PairFree_any (P Q R : ByteArray) (hP : (whole false 2 200 P.data.toList).isSome = true) (hQ : (whole false 2 200 Q.data.toList).isSome = true) (hR : bOk 729 R.data.toList = true) (w : World) : Calls Tryz.prog 41 #[.string P, .string Q, .string R] w (FreePost w) := by
  have RY := Lib.hid (fun w => l8Ready_any P Q R hP hQ hR w)
  obtain ⟨k, hk⟩ := Option.isSome_iff_exists.1 hP
  obtain ⟨j, hj⟩ := Option.isSome_iff_exists.1 hQ
  obtain ⟨k1, k2, k3⟩ := (whole_iff (by decide)).1 hk
  obtain ⟨j1, j2, j3⟩ := (whole_iff (by decide)).1 hj
  obtain ⟨fa, ma, ca⟩ := l4Run_any _ k P k3 (Nat.le_refl _) (by rw [← len_S]; omega) k2
  obtain ⟨fb, mb, cb⟩ := l4Run_any _ j Q j3 (Nat.le_refl _) (by rw [← len_S]; omega) j2
  have CA := Lib.hid ca
  have CB := Lib.hid cb
  have FR := Lib.hid (fun fp hp w => l8Free_any fa fb fp ma mb hp w)
  have RD := Lib.hid (fun w => l8Rel_any R hR w)
  have B0 := Lib.hid (Below.refl w.heap.size w)
  obtain ⟨V1, hV1⟩ : ∃ V, av 29 fa = V := ⟨_, rfl⟩
  obtain ⟨V2, hV2⟩ : ∃ V, av 29 fb = V := ⟨_, rfl⟩
  rw [hV1] at CA FR
  rw [hV2] at CB FR
  clear hP hQ hR hk hj k1 k2 k3 j1 j2 j3 ma ca mb cb hV1 hV2
  go_enter Tryz.func41, Tryz.ntmps41
  go_wp2_with fail
  refine (RY.out _).mono ?_
  rintro e w0 ⟨rfl, hb0⟩
  have B1 := Lib.hid (below_2 B0.out hb0)
  clear hb0
  go_wp2_with fail
  refine (CA.out _).mono ?_
  rintro e w1 ⟨rfl, hb1⟩
  have B2 := Lib.hid (below_2 B1.out hb1)
  clear hb1
  go_wp2_with fail
  refine (CB.out _).mono ?_
  rintro e w2 ⟨rfl, hb2⟩
  have B3 := Lib.hid (below_2 B2.out hb2)
  clear hb2
  go_wp2_with fail
  refine (RD.out _).mono ?_
  rintro e w3 ⟨fp, mp, rfl, hb3⟩
  have B4 := Lib.hid (below_2 B3.out hb3)
  have F4 := Lib.hid (fun w => FR.out fp mp w)
  obtain ⟨V3, hV3⟩ : ∃ V, av 27 fp = V := ⟨_, rfl⟩
  rw [hV3] at F4
  rw [hV3]
  clear hb3 mp hV3 FR
  go_wp2_with fail
  refine (F4.out _).mono ?_
  rintro e w4 ⟨f, mf, rfl, hb4⟩
  have B5 := Lib.hid (below_2 B4.out hb4)
  have TX := Lib.hid (fun w => l6TextR_any (fun i j => (f i).testBit j) w)
  rw [← av_rowV mf] at TX
  have HK := Lib.hid (rt_bokP (fun i j => (f i).testBit j))
  generalize rt (fun i j => (f i).testBit j) = tx at *
  obtain ⟨V5, hV5⟩ : ∃ V, av 27 f = V := ⟨_, rfl⟩
  rw [hV5] at TX
  rw [hV5]
  clear hb4 mf hV5
  go_wp2_with fail
  refine (TX.out _).mono ?_
  rintro e w5 ⟨rfl, hb5⟩
  have B6 := Lib.hid (below_2 B5.out hb5)
  clear hb5
  go_wp2_with fail
  go_ret2
  exact ⟨bs tx, HK.out, (by first | trivial | rfl), B6.out⟩

end Go.Proofs.YtndlhdmpfnadcaaGreatDoor
