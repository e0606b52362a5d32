/- What one of two programs can do. -/
import Derived.Test.YthdgheglmkhcbaaRc
namespace Go.Proofs.Ythdgheglmkhcbaa
open Go.RowKit
open Pl

def ch1 (m : Nat) (fa g : Nat → Nat) (i : Nat) : Nat → Nat := if bitN m i then upd g i (g i ||| fa i) else g
def chN (m n L B : Nat) (fa fb : Nat → Nat) : Nat → Nat → Nat
  | 0 => ltF L B
  | i + 1 => ch1 n fb (ch1 m fa (chN m n L B fa fb i) i) i
theorem ch1_small {m : Nat} {fa g : Nat → Nat} {i : Nat} (ha : M29 fa) (hg : M29 g) (hi : i < 27) : M29 (ch1 m fa g i) := by
  unfold ch1
  split
  · exact hg.upd i (or_lt (hg i (by omega)) (ha i (by omega)))
  · exact hg
theorem chN_small {m n L B : Nat} {fa fb : Nat → Nat} (ha : M29 fa) (hb : M29 fb) (hL : L < 134217728) (hB : B < 134217728) (i : Nat) : i ≤ 27 → M29 (chN m n L B fa fb i) := by
  induction i with
  | zero => intro _; exact ltF_small hL hB
  | succ i ih => intro h; exact ch1_small hb (ch1_small ha (ih (by omega)) (by omega)) (by omega)
def chL (m n x y : Nat) : Nat := (x &&& m) ||| (y &&& n)
theorem chL_lt {m n x y : Nat} (hx : x < 134217728) (hy : y < 134217728) : chL m n x y < 134217728 := or_lt (and_lt _ hx) (and_lt _ hy)
theorem chL_int {m n x y : Nat} (hm : m < 134217728) (hn : n < 134217728) (hx : x < 134217728) (hy : y < 134217728) : bits BinOp.or IntKind.i64 (bits BinOp.and IntKind.i64 (x : Int) (m : Int)) (bits BinOp.and IntKind.i64 (y : Int) (n : Int)) = ((chL m n x y : Nat) : Int) := by
  rw [and_int x m hx hm, and_int y n hy hn]
  exact or_int _ _ (and_lt _ hx) (and_lt _ hy)
set_option maxRecDepth 100000 in
set_option maxHeartbeats 16000000 in
theorem l4Choose_any (fa fb : Nat → Nat) (ha : M29 fa) (hb : M29 fb) (m n : Nat) (hm : m < 134217728) (hn : n < 134217728) (w : World) : Calls Try.prog 173 #[.agg (av 29 fa), .agg (av 29 fb), .int .i64 (m : Int), .int .i64 (n : Int)] w fun e w' => (e = .returned (.agg (av 29 (chN m n (chL m n (fa 27) (fb 27)) (chL m n (fa 28) (fb 28)) fa fb 27))) ∧ Below w.heap.size w w') := by
  have SM := Lib.hid (fun i (hi : i ≤ 27) => chN_small (m := m) (n := n) ha hb (chL_lt (m := m) (n := n) (ha 27 (by omega)) (hb 27 (by omega))) (chL_lt (m := m) (n := n) (ha 28 (by omega)) (hb 28 (by omega))) i hi)
  have FA := Lib.hid ha
  have FB := Lib.hid hb
  have r1 := chL_int hm hn (ha 27 (by omega)) (hb 27 (by omega))
  have r2 := chL_int hm hn (ha 28 (by omega)) (hb 28 (by omega))
  have hlt : #[.int .i64 0, .int .i64 0, .int .i64 0, .int .i64 0, .int .i64 0, .int .i64 0, .int .i64 0, .int .i64 0, .int .i64 0, .int .i64 0, .int .i64 0, .int .i64 0, .int .i64 0, .int .i64 0, .int .i64 0, .int .i64 0, .int .i64 0, .int .i64 0, .int .i64 0, .int .i64 0, .int .i64 0, .int .i64 0, .int .i64 0, .int .i64 0, .int .i64 0, .int .i64 0, .int .i64 0, .int .i64 (bits BinOp.or IntKind.i64 (bits BinOp.and IntKind.i64 ((fa 27 : Nat) : Int) (m : Nat)) (bits BinOp.and IntKind.i64 ((fb 27 : Nat) : Int) (n : Nat))), .int .i64 (bits BinOp.or IntKind.i64 (bits BinOp.and IntKind.i64 ((fa 28 : Nat) : Int) (m : Nat)) (bits BinOp.and IntKind.i64 ((fb 28 : Nat) : Int) (n : Nat)))] = av 29 (chN m n (chL m n (fa 27) (fb 27)) (chL m n (fa 28) (fb 28)) fa fb 0) := by rw [r1, r2]; exact lt_av _ _
  have LO : Hid ((#[.int .i64 0, .int .i64 0, .int .i64 0, .int .i64 0, .int .i64 0, .int .i64 0, .int .i64 0, .int .i64 0, .int .i64 0, .int .i64 0, .int .i64 0, .int .i64 0, .int .i64 0, .int .i64 0, .int .i64 0, .int .i64 0, .int .i64 0, .int .i64 0, .int .i64 0, .int .i64 0, .int .i64 0, .int .i64 0, .int .i64 0, .int .i64 0, .int .i64 0, .int .i64 0, .int .i64 0, .int .i64 (bits BinOp.or IntKind.i64 (bits BinOp.and IntKind.i64 ((fa 27 : Nat) : Int) (m : Nat)) (bits BinOp.and IntKind.i64 ((fb 27 : Nat) : Int) (n : Nat))), .int .i64 (bits BinOp.or IntKind.i64 (bits BinOp.and IntKind.i64 ((fa 28 : Nat) : Int) (m : Nat)) (bits BinOp.and IntKind.i64 ((fb 28 : Nat) : Int) (n : Nat)))] : Array Value).all (·.oneCell') = true) := by show _ = true; rw [r1, r2]; exact lt_one _ _
  have IN1 := Lib.hid (fun i (hi : i < 27) w => inN_any m i hm hi w)
  have IN2 := Lib.hid (fun i (hi : i < 27) w => inN_any n i hn hi w)
  obtain ⟨V1, hV1⟩ : ∃ V, av 29 fa = V := ⟨_, rfl⟩
  obtain ⟨V2, hV2⟩ : ∃ V, av 29 fb = V := ⟨_, rfl⟩
  rw [hV1, hV2]
  have HV1 := Lib.hid hV1
  have HV2 := Lib.hid hV2
  clear ha hb r1 r2
  obtain ⟨VE, hVE⟩ : ∃ V, av 29 (chN m n (chL m n (fa 27) (fb 27)) (chL m n (fa 28) (fb 28)) fa fb 27) = V := ⟨_, rfl⟩
  rw [hVE]
  have HVE := Lib.hid hVE
  clear hVE
  have kb0 : Blk (((w.alloc (.cells V1 95)).alloc (.cells V2 95)).alloc (.cells #[.int .i64 0, .int .i64 0, .int .i64 0, .int .i64 0, .int .i64 0, .int .i64 0, .int .i64 0, .int .i64 0, .int .i64 0, .int .i64 0, .int .i64 0, .int .i64 0, .int .i64 0, .int .i64 0, .int .i64 0, .int .i64 0, .int .i64 0, .int .i64 0, .int .i64 0, .int .i64 0, .int .i64 0, .int .i64 0, .int .i64 0, .int .i64 0, .int .i64 0, .int .i64 0, .int .i64 0, .int .i64 0, .int .i64 0] 95)) (w.heap.size) 95 V1 := by
    have h0 := Blk.new w 95 V1
    have hz : w.heap.size = w.heap.size := by simp
    rw [hz] at h0
    exact ((h0.alloc _).alloc _)
  have kb1 : Blk (((w.alloc (.cells V1 95)).alloc (.cells V2 95)).alloc (.cells #[.int .i64 0, .int .i64 0, .int .i64 0, .int .i64 0, .int .i64 0, .int .i64 0, .int .i64 0, .int .i64 0, .int .i64 0, .int .i64 0, .int .i64 0, .int .i64 0, .int .i64 0, .int .i64 0, .int .i64 0, .int .i64 0, .int .i64 0, .int .i64 0, .int .i64 0, .int .i64 0, .int .i64 0, .int .i64 0, .int .i64 0, .int .i64 0, .int .i64 0, .int .i64 0, .int .i64 0, .int .i64 0, .int .i64 0] 95)) (w.heap.size + 1) 95 V2 := by
    have h0 := Blk.new (w.alloc (.cells V1 95)) 95 V2
    have hz : (w.alloc (.cells V1 95)).heap.size = w.heap.size + 1 := by simp
    rw [hz] at h0
    exact (h0.alloc _)
  have kr : Blk (((w.alloc (.cells V1 95)).alloc (.cells V2 95)).alloc (.cells #[.int .i64 0, .int .i64 0, .int .i64 0, .int .i64 0, .int .i64 0, .int .i64 0, .int .i64 0, .int .i64 0, .int .i64 0, .int .i64 0, .int .i64 0, .int .i64 0, .int .i64 0, .int .i64 0, .int .i64 0, .int .i64 0, .int .i64 0, .int .i64 0, .int .i64 0, .int .i64 0, .int .i64 0, .int .i64 0, .int .i64 0, .int .i64 0, .int .i64 0, .int .i64 0, .int .i64 0, .int .i64 0, .int .i64 0] 95)) (w.heap.size + 2) 95 #[.int .i64 0, .int .i64 0, .int .i64 0, .int .i64 0, .int .i64 0, .int .i64 0, .int .i64 0, .int .i64 0, .int .i64 0, .int .i64 0, .int .i64 0, .int .i64 0, .int .i64 0, .int .i64 0, .int .i64 0, .int .i64 0, .int .i64 0, .int .i64 0, .int .i64 0, .int .i64 0, .int .i64 0, .int .i64 0, .int .i64 0, .int .i64 0, .int .i64 0, .int .i64 0, .int .i64 0, .int .i64 0, .int .i64 0] := by
    have h0 := Blk.new ((w.alloc (.cells V1 95)).alloc (.cells V2 95)) 95 #[.int .i64 0, .int .i64 0, .int .i64 0, .int .i64 0, .int .i64 0, .int .i64 0, .int .i64 0, .int .i64 0, .int .i64 0, .int .i64 0, .int .i64 0, .int .i64 0, .int .i64 0, .int .i64 0, .int .i64 0, .int .i64 0, .int .i64 0, .int .i64 0, .int .i64 0, .int .i64 0, .int .i64 0, .int .i64 0, .int .i64 0, .int .i64 0, .int .i64 0, .int .i64 0, .int .i64 0, .int .i64 0, .int .i64 0]
    have hz : ((w.alloc (.cells V1 95)).alloc (.cells V2 95)).heap.size = w.heap.size + 2 := by simp
    rw [hz] at h0
    exact h0
  have kz : Blk ((((w.alloc (.cells V1 95)).alloc (.cells V2 95)).alloc (.cells #[.int .i64 0, .int .i64 0, .int .i64 0, .int .i64 0, .int .i64 0, .int .i64 0, .int .i64 0, .int .i64 0, .int .i64 0, .int .i64 0, .int .i64 0, .int .i64 0, .int .i64 0, .int .i64 0, .int .i64 0, .int .i64 0, .int .i64 0, .int .i64 0, .int .i64 0, .int .i64 0, .int .i64 0, .int .i64 0, .int .i64 0, .int .i64 0, .int .i64 0, .int .i64 0, .int .i64 0, .int .i64 0, .int .i64 0] 95)).alloc (.cells #[.int .i64 0, .int .i64 0, .int .i64 0, .int .i64 0, .int .i64 0, .int .i64 0, .int .i64 0, .int .i64 0, .int .i64 0, .int .i64 0, .int .i64 0, .int .i64 0, .int .i64 0, .int .i64 0, .int .i64 0, .int .i64 0, .int .i64 0, .int .i64 0, .int .i64 0, .int .i64 0, .int .i64 0, .int .i64 0, .int .i64 0, .int .i64 0, .int .i64 0, .int .i64 0, .int .i64 0, .int .i64 0, .int .i64 0] 95)) (w.heap.size + 3) 95 #[.int .i64 0, .int .i64 0, .int .i64 0, .int .i64 0, .int .i64 0, .int .i64 0, .int .i64 0, .int .i64 0, .int .i64 0, .int .i64 0, .int .i64 0, .int .i64 0, .int .i64 0, .int .i64 0, .int .i64 0, .int .i64 0, .int .i64 0, .int .i64 0, .int .i64 0, .int .i64 0, .int .i64 0, .int .i64 0, .int .i64 0, .int .i64 0, .int .i64 0, .int .i64 0, .int .i64 0, .int .i64 0, .int .i64 0] := by
    have h0 := Blk.new (((w.alloc (.cells V1 95)).alloc (.cells V2 95)).alloc (.cells #[.int .i64 0, .int .i64 0, .int .i64 0, .int .i64 0, .int .i64 0, .int .i64 0, .int .i64 0, .int .i64 0, .int .i64 0, .int .i64 0, .int .i64 0, .int .i64 0, .int .i64 0, .int .i64 0, .int .i64 0, .int .i64 0, .int .i64 0, .int .i64 0, .int .i64 0, .int .i64 0, .int .i64 0, .int .i64 0, .int .i64 0, .int .i64 0, .int .i64 0, .int .i64 0, .int .i64 0, .int .i64 0, .int .i64 0] 95)) 95 #[.int .i64 0, .int .i64 0, .int .i64 0, .int .i64 0, .int .i64 0, .int .i64 0, .int .i64 0, .int .i64 0, .int .i64 0, .int .i64 0, .int .i64 0, .int .i64 0, .int .i64 0, .int .i64 0, .int .i64 0, .int .i64 0, .int .i64 0, .int .i64 0, .int .i64 0, .int .i64 0, .int .i64 0, .int .i64 0, .int .i64 0, .int .i64 0, .int .i64 0, .int .i64 0, .int .i64 0, .int .i64 0, .int .i64 0]
    have hz : (((w.alloc (.cells V1 95)).alloc (.cells V2 95)).alloc (.cells #[.int .i64 0, .int .i64 0, .int .i64 0, .int .i64 0, .int .i64 0, .int .i64 0, .int .i64 0, .int .i64 0, .int .i64 0, .int .i64 0, .int .i64 0, .int .i64 0, .int .i64 0, .int .i64 0, .int .i64 0, .int .i64 0, .int .i64 0, .int .i64 0, .int .i64 0, .int .i64 0, .int .i64 0, .int .i64 0, .int .i64 0, .int .i64 0, .int .i64 0, .int .i64 0, .int .i64 0, .int .i64 0, .int .i64 0] 95)).heap.size = w.heap.size + 3 := by simp
    rw [hz] at h0
    exact h0
  have hv0 : (((w.alloc (.cells V1 95)).alloc (.cells V2 95)).alloc (.cells #[.int .i64 0, .int .i64 0, .int .i64 0, .int .i64 0, .int .i64 0, .int .i64 0, .int .i64 0, .int .i64 0, .int .i64 0, .int .i64 0, .int .i64 0, .int .i64 0, .int .i64 0, .int .i64 0, .int .i64 0, .int .i64 0, .int .i64 0, .int .i64 0, .int .i64 0, .int .i64 0, .int .i64 0, .int .i64 0, .int .i64 0, .int .i64 0, .int .i64 0, .int .i64 0, .int .i64 0, .int .i64 0, .int .i64 0] 95)).cell? ⟨w.heap.size, 27, none⟩ = some (.int .i64 (fa 27 : Nat)) := (kb0.cell 27).trans (by rw [← hV1]; exact av_get fa (by omega))
  have hv1 : (((w.alloc (.cells V1 95)).alloc (.cells V2 95)).alloc (.cells #[.int .i64 0, .int .i64 0, .int .i64 0, .int .i64 0, .int .i64 0, .int .i64 0, .int .i64 0, .int .i64 0, .int .i64 0, .int .i64 0, .int .i64 0, .int .i64 0, .int .i64 0, .int .i64 0, .int .i64 0, .int .i64 0, .int .i64 0, .int .i64 0, .int .i64 0, .int .i64 0, .int .i64 0, .int .i64 0, .int .i64 0, .int .i64 0, .int .i64 0, .int .i64 0, .int .i64 0, .int .i64 0, .int .i64 0] 95)).cell? ⟨w.heap.size, 28, none⟩ = some (.int .i64 (fa 28 : Nat)) := (kb0.cell 28).trans (by rw [← hV1]; exact av_get fa (by omega))
  have hv2 : (((w.alloc (.cells V1 95)).alloc (.cells V2 95)).alloc (.cells #[.int .i64 0, .int .i64 0, .int .i64 0, .int .i64 0, .int .i64 0, .int .i64 0, .int .i64 0, .int .i64 0, .int .i64 0, .int .i64 0, .int .i64 0, .int .i64 0, .int .i64 0, .int .i64 0, .int .i64 0, .int .i64 0, .int .i64 0, .int .i64 0, .int .i64 0, .int .i64 0, .int .i64 0, .int .i64 0, .int .i64 0, .int .i64 0, .int .i64 0, .int .i64 0, .int .i64 0, .int .i64 0, .int .i64 0] 95)).cell? ⟨w.heap.size + 1, 27, none⟩ = some (.int .i64 (fb 27 : Nat)) := (kb1.cell 27).trans (by rw [← hV2]; exact av_get fb (by omega))
  have hv3 : (((w.alloc (.cells V1 95)).alloc (.cells V2 95)).alloc (.cells #[.int .i64 0, .int .i64 0, .int .i64 0, .int .i64 0, .int .i64 0, .int .i64 0, .int .i64 0, .int .i64 0, .int .i64 0, .int .i64 0, .int .i64 0, .int .i64 0, .int .i64 0, .int .i64 0, .int .i64 0, .int .i64 0, .int .i64 0, .int .i64 0, .int .i64 0, .int .i64 0, .int .i64 0, .int .i64 0, .int .i64 0, .int .i64 0, .int .i64 0, .int .i64 0, .int .i64 0, .int .i64 0, .int .i64 0] 95)).cell? ⟨w.heap.size + 1, 28, none⟩ = some (.int .i64 (fb 28 : Nat)) := (kb1.cell 28).trans (by rw [← hV2]; exact av_get fb (by omega))
  have KZ := Lib.hid kz
  have H0 : Hid (S4 w (((((w.alloc (.cells V1 95)).alloc (.cells V2 95)).alloc (.cells #[.int .i64 0, .int .i64 0, .int .i64 0, .int .i64 0, .int .i64 0, .int .i64 0, .int .i64 0, .int .i64 0, .int .i64 0, .int .i64 0, .int .i64 0, .int .i64 0, .int .i64 0, .int .i64 0, .int .i64 0, .int .i64 0, .int .i64 0, .int .i64 0, .int .i64 0, .int .i64 0, .int .i64 0, .int .i64 0, .int .i64 0, .int .i64 0, .int .i64 0, .int .i64 0, .int .i64 0, .int .i64 0, .int .i64 0] 95)).alloc (.cells #[.int .i64 0, .int .i64 0, .int .i64 0, .int .i64 0, .int .i64 0, .int .i64 0, .int .i64 0, .int .i64 0, .int .i64 0, .int .i64 0, .int .i64 0, .int .i64 0, .int .i64 0, .int .i64 0, .int .i64 0, .int .i64 0, .int .i64 0, .int .i64 0, .int .i64 0, .int .i64 0, .int .i64 0, .int .i64 0, .int .i64 0, .int .i64 0, .int .i64 0, .int .i64 0, .int .i64 0, .int .i64 0, .int .i64 0] 95)).setRow (w.heap.size + 3) #[.int .i64 0, .int .i64 0, .int .i64 0, .int .i64 0, .int .i64 0, .int .i64 0, .int .i64 0, .int .i64 0, .int .i64 0, .int .i64 0, .int .i64 0, .int .i64 0, .int .i64 0, .int .i64 0, .int .i64 0, .int .i64 0, .int .i64 0, .int .i64 0, .int .i64 0, .int .i64 0, .int .i64 0, .int .i64 0, .int .i64 0, .int .i64 0, .int .i64 0, .int .i64 0, .int .i64 0, .int .i64 (bits BinOp.or IntKind.i64 (bits BinOp.and IntKind.i64 ((fa 27 : Nat) : Int) (m : Nat)) (bits BinOp.and IntKind.i64 ((fb 27 : Nat) : Int) (n : Nat))), .int .i64 (bits BinOp.or IntKind.i64 (bits BinOp.and IntKind.i64 ((fa 28 : Nat) : Int) (m : Nat)) (bits BinOp.and IntKind.i64 ((fb 28 : Nat) : Int) (n : Nat)))]) [(w.heap.size, V1), (w.heap.size + 1, V2)] (w.heap.size + 2) (w.heap.size + 3) (chN m n (chL m n (fa 27) (fb 27)) (chL m n (fa 28) (fb 28)) fa fb 0)) := by
    refine ⟨fun p hp => ?_, ⟨_, rfl, (kr.alloc _).row_ne (by omega) _⟩, ?_, by omega, by omega, (((((Below.refl w.heap.size w).alloc (by first | exact Nat.le_refl _ | (simp; done) | (simp; omega)) (.cells V1 95)).alloc (by first | exact Nat.le_refl _ | (simp; done) | (simp; omega)) (.cells V2 95)).alloc (by first | exact Nat.le_refl _ | (simp; done) | (simp; omega)) (.cells #[.int .i64 0, .int .i64 0, .int .i64 0, .int .i64 0, .int .i64 0, .int .i64 0, .int .i64 0, .int .i64 0, .int .i64 0, .int .i64 0, .int .i64 0, .int .i64 0, .int .i64 0, .int .i64 0, .int .i64 0, .int .i64 0, .int .i64 0, .int .i64 0, .int .i64 0, .int .i64 0, .int .i64 0, .int .i64 0, .int .i64 0, .int .i64 0, .int .i64 0, .int .i64 0, .int .i64 0, .int .i64 0, .int .i64 0] 95)).alloc (by first | exact Nat.le_refl _ | (simp; done) | (simp; omega)) (.cells #[.int .i64 0, .int .i64 0, .int .i64 0, .int .i64 0, .int .i64 0, .int .i64 0, .int .i64 0, .int .i64 0, .int .i64 0, .int .i64 0, .int .i64 0, .int .i64 0, .int .i64 0, .int .i64 0, .int .i64 0, .int .i64 0, .int .i64 0, .int .i64 0, .int .i64 0, .int .i64 0, .int .i64 0, .int .i64 0, .int .i64 0, .int .i64 0, .int .i64 0, .int .i64 0, .int .i64 0, .int .i64 0, .int .i64 0] 95)).trans (below_row (by omega) _)⟩
    · simp only [List.mem_cons, List.not_mem_nil, or_false] at hp
      rcases hp with rfl | rfl
      · exact ⟨(kb0.alloc _).row_ne (by show _ ≠ _; omega) _, by show _ ≠ _; omega⟩
      · exact ⟨(kb1.alloc _).row_ne (by show _ ≠ _; omega) _, by show _ ≠ _; omega⟩
    · rw [← hlt]; exact kz.row _
  clear kz kr kb0 kb1
  go_enter Try.func173, Try.ntmps173
  clear hV1 hV2 hlt
  go_wp2_with (refine wpList_store_row rfl 95 (.tmp 9) (.tmp 29) rfl (w.heap.size + 3) #[.int .i64 0, .int .i64 0, .int .i64 0, .int .i64 0, .int .i64 0, .int .i64 0, .int .i64 0, .int .i64 0, .int .i64 0, .int .i64 0, .int .i64 0, .int .i64 0, .int .i64 0, .int .i64 0, .int .i64 0, .int .i64 0, .int .i64 0, .int .i64 0, .int .i64 0, .int .i64 0, .int .i64 0, .int .i64 0, .int .i64 0, .int .i64 0, .int .i64 0, .int .i64 0, .int .i64 0, .int .i64 (bits BinOp.or IntKind.i64 (bits BinOp.and IntKind.i64 ((fa 27 : Nat) : Int) (m : Nat)) (bits BinOp.and IntKind.i64 ((fb 27 : Nat) : Int) (n : Nat))), .int .i64 (bits BinOp.or IntKind.i64 (bits BinOp.and IntKind.i64 ((fa 28 : Nat) : Int) (m : Nat)) (bits BinOp.and IntKind.i64 ((fb 28 : Nat) : Int) (n : Nat)))] rfl rfl 95 #[.int .i64 0, .int .i64 0, .int .i64 0, .int .i64 0, .int .i64 0, .int .i64 0, .int .i64 0, .int .i64 0, .int .i64 0, .int .i64 0, .int .i64 0, .int .i64 0, .int .i64 0, .int .i64 0, .int .i64 0, .int .i64 0, .int .i64 0, .int .i64 0, .int .i64 0, .int .i64 0, .int .i64 0, .int .i64 0, .int .i64 0, .int .i64 0, .int .i64 0, .int .i64 0, .int .i64 0, .int .i64 0, .int .i64 0] KZ.out all_size rfl LO.out ?_)
  clear KZ
  clear hv0 hv1 hv2 hv3 LO
  go_loopg [10] 27 (fun gk sv wr => ∃ a : Nat, a + gk = 27 ∧ sv = .int .i64 a ∧ Hid (S4 w wr [(w.heap.size, V1), (w.heap.size + 1, V2)] (w.heap.size + 2) (w.heap.size + 3) (chN m n (chL m n (fa 27) (fb 27)) (chL m n (fa 28) (fb 28)) fa fb a)))
  case atStart => exact ⟨0, rfl, rfl, H0⟩
  case round =>
    clear H0
    obtain ⟨a, ha, rfl, HH⟩ := hrel
    have H := HH.out
    clear HH
    by_cases hla : a < 27
    · have hM := SM.out a (by omega)
      have I1 := Lib.hid (fun w => IN1.out a hla w)
      have I2 := Lib.hid (fun w => IN2.out a hla w)
      have NX0 : chN m n (chL m n (fa 27) (fb 27)) (chL m n (fa 28) (fb 28)) fa fb (a + 1) = ch1 n fb (ch1 m fa (chN m n (chL m n (fa 27) (fb 27)) (chL m n (fa 28) (fb 28)) fa fb a) a) a := rfl
      obtain ⟨g, hg⟩ : ∃ g, chN m n (chL m n (fa 27) (fb 27)) (chL m n (fa 28) (fb 28)) fa fb a = g := ⟨_, rfl⟩
      rw [hg] at hM NX0 H
      have ca := H.box (b := w.heap.size) (g := fa) (by rw [HV1.out]; simp) (i := a) (by omega)
      have cb := H.box (b := w.heap.size + 1) (g := fb) (by rw [HV2.out]; simp) (i := a) (by omega)
      obtain ⟨hc, hf, hc', hf'⟩ := H.get (i := a) (by omega)
      have hxa : (a : Int) < 27 := by omega
      clear hg
      cases hb1 : bitN m a
      · cases hb2 : bitN n a
        · as_aux_lemma =>
            rw [hb1] at I1
            rw [hb2] at I2
            have hnx : ch1 n fb (ch1 m fa g a) a = g := by
              unfold ch1
              rw [hb1, hb2]
              rfl
            rw [hnx] at NX0
            go_wp2_with fail
            refine (I1.out _).mono ?_
            rintro e w1 ⟨rfl, rfl⟩
            go_wp2_with fail
            have hm1 := hM a (by omega)
            refine (I2.out _).mono ?_
            rintro e w2 ⟨rfl, rfl⟩
            go_wp2_with fail
            have H4 := Lib.hid (H.less (g := chN m n (chL m n (fa 27) (fb 27)) (chL m n (fa 28) (fb 28)) fa fb (a + 1)) (fun i _ => by rw [NX0]))
            clear H
            go_roundg (gk - 1)
            case measure => omega
            case rel =>
              refine ⟨a + 1, by omega, by go_num, ?_⟩
              with_reducible exact H4
        · as_aux_lemma =>
            rw [hb1] at I1
            rw [hb2] at I2
            have hnx : ch1 n fb (ch1 m fa g a) a = Proofs.Ythdgheglmkhcbaa.upd g a (g a ||| fb a) := by
              unfold ch1
              rw [hb1, hb2]
              rfl
            rw [hnx] at NX0
            go_wp2_with fail
            refine (I1.out _).mono ?_
            rintro e w1 ⟨rfl, rfl⟩
            go_wp2_with fail
            have hm1 := hM a (by omega)
            refine (I2.out _).mono ?_
            rintro e w2 ⟨rfl, rfl⟩
            go_wp2_with fail
            have H2 := (H.putI a (or_int (g a) (fb a) hm1 (FB.out a (by omega)))).drew
            go_still_tail 12, (by kernel_rfl)
            all_goals go_wp2_with fail
            clear H
            have H := H2
            clear H2
            have H4 := Lib.hid (H.less (g := chN m n (chL m n (fa 27) (fb 27)) (chL m n (fa 28) (fb 28)) fa fb (a + 1)) (fun i _ => by rw [NX0]))
            clear H
            go_roundg (gk - 1)
            case measure => omega
            case rel =>
              refine ⟨a + 1, by omega, by go_num, ?_⟩
              with_reducible exact H4
      · cases hb2 : bitN n a
        · as_aux_lemma =>
            rw [hb1] at I1
            rw [hb2] at I2
            have hnx : ch1 n fb (ch1 m fa g a) a = (Proofs.Ythdgheglmkhcbaa.upd g a (g a ||| fa a)) := by
              unfold ch1
              rw [hb1, hb2]
              rfl
            rw [hnx] at NX0
            go_wp2_with fail
            refine (I1.out _).mono ?_
            rintro e w1 ⟨rfl, rfl⟩
            go_wp2_with fail
            have H1 := (H.putI a (or_int (g a) (fa a) (hM a (by omega)) (FA.out a (by omega)))).drew
            have hm1 := or_lt (hM a (by omega)) (FA.out a (by omega))
            clear H
            go_still_tail 12, (by kernel_rfl)
            all_goals go_wp2_with fail
            clear hc hf hc' hf' ca cb
            generalize (wr.setCell ⟨w.heap.size + 3, a, none⟩ (.int .i64 (bits BinOp.or IntKind.i64 ((g a : Nat) : Int) ((fa a : Nat) : Int)))).drew = W1 at *
            have H := H1
            clear H1
            have cb := H.box (b := w.heap.size + 1) (g := fb) (by rw [HV2.out]; simp) (i := a) (by omega)
            obtain ⟨hc, hf, hc', hf'⟩ := H.get (i := a) (by omega)
            rw [upd_at] at hc hc'
            refine (I2.out _).mono ?_
            rintro e w2 ⟨rfl, rfl⟩
            go_wp2_with fail
            have H4 := Lib.hid (H.less (g := chN m n (chL m n (fa 27) (fb 27)) (chL m n (fa 28) (fb 28)) fa fb (a + 1)) (fun i _ => by rw [NX0]))
            clear H
            go_roundg (gk - 1)
            case measure => omega
            case rel =>
              refine ⟨a + 1, by omega, by go_num, ?_⟩
              with_reducible exact H4
        · as_aux_lemma =>
            rw [hb1] at I1
            rw [hb2] at I2
            have hnx : ch1 n fb (ch1 m fa g a) a = Proofs.Ythdgheglmkhcbaa.upd (Proofs.Ythdgheglmkhcbaa.upd g a (g a ||| fa a)) a ((g a ||| fa a) ||| fb a) := by
              unfold ch1
              rw [hb1, hb2]
              simp [upd_at]
            rw [hnx] at NX0
            go_wp2_with fail
            refine (I1.out _).mono ?_
            rintro e w1 ⟨rfl, rfl⟩
            go_wp2_with fail
            have H1 := (H.putI a (or_int (g a) (fa a) (hM a (by omega)) (FA.out a (by omega)))).drew
            have hm1 := or_lt (hM a (by omega)) (FA.out a (by omega))
            clear H
            go_still_tail 12, (by kernel_rfl)
            all_goals go_wp2_with fail
            clear hc hf hc' hf' ca cb
            generalize (wr.setCell ⟨w.heap.size + 3, a, none⟩ (.int .i64 (bits BinOp.or IntKind.i64 ((g a : Nat) : Int) ((fa a : Nat) : Int)))).drew = W1 at *
            have H := H1
            clear H1
            have cb := H.box (b := w.heap.size + 1) (g := fb) (by rw [HV2.out]; simp) (i := a) (by omega)
            obtain ⟨hc, hf, hc', hf'⟩ := H.get (i := a) (by omega)
            rw [upd_at] at hc hc'
            refine (I2.out _).mono ?_
            rintro e w2 ⟨rfl, rfl⟩
            go_wp2_with fail
            have H2 := (H.putI a (or_int (g a ||| fa a) (fb a) hm1 (FB.out a (by omega)))).drew
            go_still_tail 12, (by kernel_rfl)
            all_goals go_wp2_with fail
            clear H
            have H := H2
            clear H2
            have H4 := Lib.hid (H.less (g := chN m n (chL m n (fa 27) (fb 27)) (chL m n (fa 28) (fb 28)) fa fb (a + 1)) (fun i _ => by rw [NX0]))
            clear H
            go_roundg (gk - 1)
            case measure => omega
            case rel =>
              refine ⟨a + 1, by omega, by go_num, ?_⟩
              with_reducible exact H4
    · obtain rfl : a = 27 := by omega
      clear hla SM FA FB IN1 IN2
      have k3 := H.loc
      rw [HVE.out] at k3
      have hz : VE.size = 29 := by rw [← HVE.out]; exact av_size _ _
      have h1 : VE.all (·.oneCell') = true := by rw [← HVE.out]; exact av_one _ _
      have hi : (Try.prog.info? 95).map (·.size) = some VE.size := by rw [hz]; exact all_size
      obtain ⟨old, hoz, k2⟩ := H.res
      have kE := setRow_heap wr (w.heap.size + 2) _ VE 95 (0, 0) k2
      have BE : Hid (Below w.heap.size w (wr.setRow (w.heap.size + 2) VE)) := H.below.trans (below_row (by first | omega | exact Nat.le_refl _) VE)
      have X := Lib.hid (And.intro k3 (And.intro k2 (And.intro hi (And.intro (hoz.trans hz.symm) (And.intro h1 kE)))))
      clear k3 k2 hoz kE hz h1 hi H HVE
      go_wp2_with (first | (refine wpList_load_row rfl 95 (.tmp 9) rfl (w.heap.size + 3) rfl 95 VE (0, 0) _ X.out.1 Try.underlying95 rfl X.out.2.2.1 ?_) | (refine wpList_store_row rfl 95 (.tmp 8) (.tmp 64) rfl (w.heap.size + 2) VE rfl rfl 95 old X.out.2.1 X.out.2.2.1 X.out.2.2.2.1 X.out.2.2.2.2.1 ?_))
      exact bodyPost_ret (v := .agg VE) (results_cell_row rfl _ _ (w.heap.size + 2) 95 VE (0, 0) _ rfl X.out.2.2.2.2.2 Try.underlying95 rfl X.out.2.2.1) rfl ⟨rfl, BE.out⟩

end Go.Proofs.Ythdgheglmkhcbaa
