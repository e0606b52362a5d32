/- What two programs in sequence can do, and what one of two can do. -/
import Derived.Test.YthdgheglmkhcbaaRb
namespace Go.Proofs.Ythdgheglmkhcbaa
open Go.RowKit
open Pl

def bitN (m j : Nat) : Bool := m / 2 ^ j % 2 == 1
theorem inN_any (m j : Nat) (hm : m < 134217728) (hj : j < 27) (w : World) : Calls Try.prog 110 #[.int .i64 (m : Int), .int .i64 (j : Int)] w fun e w' => e = .returned (.bool (bitN m j)) ∧ w = w' := l4In_any m j hm hj w
theorem ltF_small {m n : Nat} (hm : m < 134217728) (hn : n < 134217728) : M29 (ltF m n) := fun i _ => by
  unfold ltF
  split
  · exact hm
  · split
    · exact hn
    · decide
/-- one step of the sequence's loops -/
def sq1 (fb g : Nat → Nat) (i j : Nat) : Nat → Nat := upd g i (g i ||| fb j)
def sq2 (fb g : Nat → Nat) (i j : Nat) : Nat → Nat := if bitN (fb 27) j then upd g 27 (g 27 ||| 2 ^ i) else g
def sq3 (fb g : Nat → Nat) (i j : Nat) : Nat → Nat := if bitN (fb 28) j then upd g 28 (g 28 ||| 2 ^ i) else g
def sqS (fa fb g : Nat → Nat) (i j : Nat) : Nat → Nat := if bitN (fa i) j then sq3 fb (sq2 fb (sq1 fb g i j) i j) i j else g
def sqN (fa fb : Nat → Nat) : Nat → Nat → Nat
  | 0 => ltF (fa 27) (fa 28)
  | n + 1 => sqS fa fb (sqN fa fb n) (n / 27) (n % 27)
theorem sq1_small {fb g : Nat → Nat} {i j : Nat} (hb : M29 fb) (hg : M29 g) (hi : i < 27) (hj : j < 27) : M29 (sq1 fb g i j) := hg.upd i (or_lt (hg i (by omega)) (hb j (by omega)))
theorem sq2_small {fb g : Nat → Nat} {i j : Nat} (hg : M29 g) (hi : i < 27) : M29 (sq2 fb g i j) := by
  unfold sq2
  split
  · exact hg.upd 27 (or_lt (hg 27 (by omega)) (p27 hi))
  · exact hg
theorem sq3_small {fb g : Nat → Nat} {i j : Nat} (hg : M29 g) (hi : i < 27) : M29 (sq3 fb g i j) := by
  unfold sq3
  split
  · exact hg.upd 28 (or_lt (hg 28 (by omega)) (p27 hi))
  · exact hg
theorem sqN_small {fa fb : Nat → Nat} (ha : M29 fa) (hb : M29 fb) (n : Nat) : n ≤ 729 → M29 (sqN fa fb n) := by
  induction n with
  | zero => intro _; exact ltF_small (ha 27 (by omega)) (ha 28 (by omega))
  | succ n ih =>
    intro hn
    have h := ih (by omega)
    rw [sqN]
    unfold sqS
    split
    · exact sq3_small (sq2_small (sq1_small hb h (by omega) (by omega)) (by omega)) (by omega)
    · exact h
theorem sqN_next (fa fb : Nat → Nat) {a b : Nat} (hb : b < 27) : sqN fa fb (27 * a + (b + 1)) = sqS fa fb (sqN fa fb (27 * a + b)) a b := by
  rw [show 27 * a + (b + 1) = (27 * a + b) + 1 by omega, sqN, show (27 * a + b) / 27 = a by omega, show (27 * a + b) % 27 = b by omega]
set_option maxRecDepth 100000 in
set_option maxHeartbeats 16000000 in
theorem l4Seq_any (fa fb : Nat → Nat) (ha : M29 fa) (hb : M29 fb) (w : World) : Calls Try.prog 172 #[.agg (av 29 fa), .agg (av 29 fb)] w fun e w' => (e = .returned (.agg (av 29 (sqN fa fb 729))) ∧ Below w.heap.size w w') := by
  have SM := Lib.hid (fun n (hn : n ≤ 729) => sqN_small ha hb n hn)
  have FA := Lib.hid ha
  have FB := Lib.hid hb
  obtain ⟨V1, hV1⟩ : ∃ V, av 29 fa = V := ⟨_, rfl⟩
  obtain ⟨V2, hV2⟩ : ∃ V, av 29 fb = V := ⟨_, rfl⟩
  rw [hV1, hV2]
  have HV1 := Lib.hid hV1
  have HV2 := Lib.hid hV2
  clear ha hb
  obtain ⟨VE, hVE⟩ : ∃ V, av 29 (sqN fa fb 729) = V := ⟨_, rfl⟩
  rw [hVE]
  have HVE := Lib.hid hVE
  clear hVE
  have kb0 : Blk (((w.alloc (.cells V1 95)).alloc (.cells V2 95)).alloc (.cells #[.int .i64 0, .int .i64 0, .int .i64 0, .int .i64 0, .int .i64 0, .int .i64 0, .int .i64 0, .int .i64 0, .int .i64 0, .int .i64 0, .int .i64 0, .int .i64 0, .int .i64 0, .int .i64 0, .int .i64 0, .int .i64 0, .int .i64 0, .int .i64 0, .int .i64 0, .int .i64 0, .int .i64 0, .int .i64 0, .int .i64 0, .int .i64 0, .int .i64 0, .int .i64 0, .int .i64 0, .int .i64 0, .int .i64 0] 95)) (w.heap.size) 95 V1 := by
    have h0 := Blk.new w 95 V1
    have hz : w.heap.size = w.heap.size := by simp
    rw [hz] at h0
    exact ((h0.alloc _).alloc _)
  have kb1 : Blk (((w.alloc (.cells V1 95)).alloc (.cells V2 95)).alloc (.cells #[.int .i64 0, .int .i64 0, .int .i64 0, .int .i64 0, .int .i64 0, .int .i64 0, .int .i64 0, .int .i64 0, .int .i64 0, .int .i64 0, .int .i64 0, .int .i64 0, .int .i64 0, .int .i64 0, .int .i64 0, .int .i64 0, .int .i64 0, .int .i64 0, .int .i64 0, .int .i64 0, .int .i64 0, .int .i64 0, .int .i64 0, .int .i64 0, .int .i64 0, .int .i64 0, .int .i64 0, .int .i64 0, .int .i64 0] 95)) (w.heap.size + 1) 95 V2 := by
    have h0 := Blk.new (w.alloc (.cells V1 95)) 95 V2
    have hz : (w.alloc (.cells V1 95)).heap.size = w.heap.size + 1 := by simp
    rw [hz] at h0
    exact (h0.alloc _)
  have kr : Blk (((w.alloc (.cells V1 95)).alloc (.cells V2 95)).alloc (.cells #[.int .i64 0, .int .i64 0, .int .i64 0, .int .i64 0, .int .i64 0, .int .i64 0, .int .i64 0, .int .i64 0, .int .i64 0, .int .i64 0, .int .i64 0, .int .i64 0, .int .i64 0, .int .i64 0, .int .i64 0, .int .i64 0, .int .i64 0, .int .i64 0, .int .i64 0, .int .i64 0, .int .i64 0, .int .i64 0, .int .i64 0, .int .i64 0, .int .i64 0, .int .i64 0, .int .i64 0, .int .i64 0, .int .i64 0] 95)) (w.heap.size + 2) 95 #[.int .i64 0, .int .i64 0, .int .i64 0, .int .i64 0, .int .i64 0, .int .i64 0, .int .i64 0, .int .i64 0, .int .i64 0, .int .i64 0, .int .i64 0, .int .i64 0, .int .i64 0, .int .i64 0, .int .i64 0, .int .i64 0, .int .i64 0, .int .i64 0, .int .i64 0, .int .i64 0, .int .i64 0, .int .i64 0, .int .i64 0, .int .i64 0, .int .i64 0, .int .i64 0, .int .i64 0, .int .i64 0, .int .i64 0] := by
    have h0 := Blk.new ((w.alloc (.cells V1 95)).alloc (.cells V2 95)) 95 #[.int .i64 0, .int .i64 0, .int .i64 0, .int .i64 0, .int .i64 0, .int .i64 0, .int .i64 0, .int .i64 0, .int .i64 0, .int .i64 0, .int .i64 0, .int .i64 0, .int .i64 0, .int .i64 0, .int .i64 0, .int .i64 0, .int .i64 0, .int .i64 0, .int .i64 0, .int .i64 0, .int .i64 0, .int .i64 0, .int .i64 0, .int .i64 0, .int .i64 0, .int .i64 0, .int .i64 0, .int .i64 0, .int .i64 0]
    have hz : ((w.alloc (.cells V1 95)).alloc (.cells V2 95)).heap.size = w.heap.size + 2 := by simp
    rw [hz] at h0
    exact h0
  have kz : Blk ((((w.alloc (.cells V1 95)).alloc (.cells V2 95)).alloc (.cells #[.int .i64 0, .int .i64 0, .int .i64 0, .int .i64 0, .int .i64 0, .int .i64 0, .int .i64 0, .int .i64 0, .int .i64 0, .int .i64 0, .int .i64 0, .int .i64 0, .int .i64 0, .int .i64 0, .int .i64 0, .int .i64 0, .int .i64 0, .int .i64 0, .int .i64 0, .int .i64 0, .int .i64 0, .int .i64 0, .int .i64 0, .int .i64 0, .int .i64 0, .int .i64 0, .int .i64 0, .int .i64 0, .int .i64 0] 95)).alloc (.cells #[.int .i64 0, .int .i64 0, .int .i64 0, .int .i64 0, .int .i64 0, .int .i64 0, .int .i64 0, .int .i64 0, .int .i64 0, .int .i64 0, .int .i64 0, .int .i64 0, .int .i64 0, .int .i64 0, .int .i64 0, .int .i64 0, .int .i64 0, .int .i64 0, .int .i64 0, .int .i64 0, .int .i64 0, .int .i64 0, .int .i64 0, .int .i64 0, .int .i64 0, .int .i64 0, .int .i64 0, .int .i64 0, .int .i64 0] 95)) (w.heap.size + 3) 95 #[.int .i64 0, .int .i64 0, .int .i64 0, .int .i64 0, .int .i64 0, .int .i64 0, .int .i64 0, .int .i64 0, .int .i64 0, .int .i64 0, .int .i64 0, .int .i64 0, .int .i64 0, .int .i64 0, .int .i64 0, .int .i64 0, .int .i64 0, .int .i64 0, .int .i64 0, .int .i64 0, .int .i64 0, .int .i64 0, .int .i64 0, .int .i64 0, .int .i64 0, .int .i64 0, .int .i64 0, .int .i64 0, .int .i64 0] := by
    have h0 := Blk.new (((w.alloc (.cells V1 95)).alloc (.cells V2 95)).alloc (.cells #[.int .i64 0, .int .i64 0, .int .i64 0, .int .i64 0, .int .i64 0, .int .i64 0, .int .i64 0, .int .i64 0, .int .i64 0, .int .i64 0, .int .i64 0, .int .i64 0, .int .i64 0, .int .i64 0, .int .i64 0, .int .i64 0, .int .i64 0, .int .i64 0, .int .i64 0, .int .i64 0, .int .i64 0, .int .i64 0, .int .i64 0, .int .i64 0, .int .i64 0, .int .i64 0, .int .i64 0, .int .i64 0, .int .i64 0] 95)) 95 #[.int .i64 0, .int .i64 0, .int .i64 0, .int .i64 0, .int .i64 0, .int .i64 0, .int .i64 0, .int .i64 0, .int .i64 0, .int .i64 0, .int .i64 0, .int .i64 0, .int .i64 0, .int .i64 0, .int .i64 0, .int .i64 0, .int .i64 0, .int .i64 0, .int .i64 0, .int .i64 0, .int .i64 0, .int .i64 0, .int .i64 0, .int .i64 0, .int .i64 0, .int .i64 0, .int .i64 0, .int .i64 0, .int .i64 0]
    have hz : (((w.alloc (.cells V1 95)).alloc (.cells V2 95)).alloc (.cells #[.int .i64 0, .int .i64 0, .int .i64 0, .int .i64 0, .int .i64 0, .int .i64 0, .int .i64 0, .int .i64 0, .int .i64 0, .int .i64 0, .int .i64 0, .int .i64 0, .int .i64 0, .int .i64 0, .int .i64 0, .int .i64 0, .int .i64 0, .int .i64 0, .int .i64 0, .int .i64 0, .int .i64 0, .int .i64 0, .int .i64 0, .int .i64 0, .int .i64 0, .int .i64 0, .int .i64 0, .int .i64 0, .int .i64 0] 95)).heap.size = w.heap.size + 3 := by simp
    rw [hz] at h0
    exact h0
  have hv1 : (((w.alloc (.cells V1 95)).alloc (.cells V2 95)).alloc (.cells #[.int .i64 0, .int .i64 0, .int .i64 0, .int .i64 0, .int .i64 0, .int .i64 0, .int .i64 0, .int .i64 0, .int .i64 0, .int .i64 0, .int .i64 0, .int .i64 0, .int .i64 0, .int .i64 0, .int .i64 0, .int .i64 0, .int .i64 0, .int .i64 0, .int .i64 0, .int .i64 0, .int .i64 0, .int .i64 0, .int .i64 0, .int .i64 0, .int .i64 0, .int .i64 0, .int .i64 0, .int .i64 0, .int .i64 0] 95)).cell? ⟨w.heap.size, 27, none⟩ = some (.int .i64 (fa 27 : Nat)) := (kb0.cell 27).trans (by rw [← hV1]; exact av_get fa (by omega))
  have hv2 : (((w.alloc (.cells V1 95)).alloc (.cells V2 95)).alloc (.cells #[.int .i64 0, .int .i64 0, .int .i64 0, .int .i64 0, .int .i64 0, .int .i64 0, .int .i64 0, .int .i64 0, .int .i64 0, .int .i64 0, .int .i64 0, .int .i64 0, .int .i64 0, .int .i64 0, .int .i64 0, .int .i64 0, .int .i64 0, .int .i64 0, .int .i64 0, .int .i64 0, .int .i64 0, .int .i64 0, .int .i64 0, .int .i64 0, .int .i64 0, .int .i64 0, .int .i64 0, .int .i64 0, .int .i64 0] 95)).cell? ⟨w.heap.size, 28, none⟩ = some (.int .i64 (fa 28 : Nat)) := (kb0.cell 28).trans (by rw [← hV1]; exact av_get fa (by omega))
  have KZ := Lib.hid kz
  have H0 : Hid (S4 w (((((w.alloc (.cells V1 95)).alloc (.cells V2 95)).alloc (.cells #[.int .i64 0, .int .i64 0, .int .i64 0, .int .i64 0, .int .i64 0, .int .i64 0, .int .i64 0, .int .i64 0, .int .i64 0, .int .i64 0, .int .i64 0, .int .i64 0, .int .i64 0, .int .i64 0, .int .i64 0, .int .i64 0, .int .i64 0, .int .i64 0, .int .i64 0, .int .i64 0, .int .i64 0, .int .i64 0, .int .i64 0, .int .i64 0, .int .i64 0, .int .i64 0, .int .i64 0, .int .i64 0, .int .i64 0] 95)).alloc (.cells #[.int .i64 0, .int .i64 0, .int .i64 0, .int .i64 0, .int .i64 0, .int .i64 0, .int .i64 0, .int .i64 0, .int .i64 0, .int .i64 0, .int .i64 0, .int .i64 0, .int .i64 0, .int .i64 0, .int .i64 0, .int .i64 0, .int .i64 0, .int .i64 0, .int .i64 0, .int .i64 0, .int .i64 0, .int .i64 0, .int .i64 0, .int .i64 0, .int .i64 0, .int .i64 0, .int .i64 0, .int .i64 0, .int .i64 0] 95)).setRow (w.heap.size + 3) #[.int .i64 0, .int .i64 0, .int .i64 0, .int .i64 0, .int .i64 0, .int .i64 0, .int .i64 0, .int .i64 0, .int .i64 0, .int .i64 0, .int .i64 0, .int .i64 0, .int .i64 0, .int .i64 0, .int .i64 0, .int .i64 0, .int .i64 0, .int .i64 0, .int .i64 0, .int .i64 0, .int .i64 0, .int .i64 0, .int .i64 0, .int .i64 0, .int .i64 0, .int .i64 0, .int .i64 0, .int .i64 ((fa 27 : Nat)), .int .i64 ((fa 28 : Nat))]) [(w.heap.size, V1), (w.heap.size + 1, V2)] (w.heap.size + 2) (w.heap.size + 3) (sqN fa fb (27 * 0))) := by
    refine ⟨fun p hp => ?_, ⟨_, rfl, (kr.alloc _).row_ne (by omega) _⟩, ?_, by omega, by omega, (((((Below.refl w.heap.size w).alloc (by first | exact Nat.le_refl _ | (simp; done) | (simp; omega)) (.cells V1 95)).alloc (by first | exact Nat.le_refl _ | (simp; done) | (simp; omega)) (.cells V2 95)).alloc (by first | exact Nat.le_refl _ | (simp; done) | (simp; omega)) (.cells #[.int .i64 0, .int .i64 0, .int .i64 0, .int .i64 0, .int .i64 0, .int .i64 0, .int .i64 0, .int .i64 0, .int .i64 0, .int .i64 0, .int .i64 0, .int .i64 0, .int .i64 0, .int .i64 0, .int .i64 0, .int .i64 0, .int .i64 0, .int .i64 0, .int .i64 0, .int .i64 0, .int .i64 0, .int .i64 0, .int .i64 0, .int .i64 0, .int .i64 0, .int .i64 0, .int .i64 0, .int .i64 0, .int .i64 0] 95)).alloc (by first | exact Nat.le_refl _ | (simp; done) | (simp; omega)) (.cells #[.int .i64 0, .int .i64 0, .int .i64 0, .int .i64 0, .int .i64 0, .int .i64 0, .int .i64 0, .int .i64 0, .int .i64 0, .int .i64 0, .int .i64 0, .int .i64 0, .int .i64 0, .int .i64 0, .int .i64 0, .int .i64 0, .int .i64 0, .int .i64 0, .int .i64 0, .int .i64 0, .int .i64 0, .int .i64 0, .int .i64 0, .int .i64 0, .int .i64 0, .int .i64 0, .int .i64 0, .int .i64 0, .int .i64 0] 95)).trans (below_row (by omega) _)⟩
    · simp only [List.mem_cons, List.not_mem_nil, or_false] at hp
      rcases hp with rfl | rfl
      · exact ⟨(kb0.alloc _).row_ne (by show _ ≠ _; omega) _, by show _ ≠ _; omega⟩
      · exact ⟨(kb1.alloc _).row_ne (by show _ ≠ _; omega) _, by show _ ≠ _; omega⟩
    · rw [← (show _ = av 29 (sqN fa fb (27 * 0)) from lt_av (fa 27) (fa 28))]; exact kz.row _
  clear kz kr kb0 kb1
  go_enter Try.func172, Try.ntmps172
  clear hV1 hV2
  go_wp2_with (refine wpList_store_row rfl 95 (.tmp 5) (.tmp 12) rfl (w.heap.size + 3) #[.int .i64 0, .int .i64 0, .int .i64 0, .int .i64 0, .int .i64 0, .int .i64 0, .int .i64 0, .int .i64 0, .int .i64 0, .int .i64 0, .int .i64 0, .int .i64 0, .int .i64 0, .int .i64 0, .int .i64 0, .int .i64 0, .int .i64 0, .int .i64 0, .int .i64 0, .int .i64 0, .int .i64 0, .int .i64 0, .int .i64 0, .int .i64 0, .int .i64 0, .int .i64 0, .int .i64 0, .int .i64 ((fa 27 : Nat)), .int .i64 ((fa 28 : Nat))] rfl rfl 95 #[.int .i64 0, .int .i64 0, .int .i64 0, .int .i64 0, .int .i64 0, .int .i64 0, .int .i64 0, .int .i64 0, .int .i64 0, .int .i64 0, .int .i64 0, .int .i64 0, .int .i64 0, .int .i64 0, .int .i64 0, .int .i64 0, .int .i64 0, .int .i64 0, .int .i64 0, .int .i64 0, .int .i64 0, .int .i64 0, .int .i64 0, .int .i64 0, .int .i64 0, .int .i64 0, .int .i64 0, .int .i64 0, .int .i64 0] KZ.out all_size rfl (lt_one _ _) ?_)
  clear KZ
  clear hv1 hv2
  go_loopg [6] 27 (fun gk sv wr => ∃ a : Nat, a + gk = 27 ∧ sv = .int .i64 a ∧ Hid (S4 w wr [(w.heap.size, V1), (w.heap.size + 1, V2)] (w.heap.size + 2) (w.heap.size + 3) (sqN fa fb (27 * a))))
  case atStart => exact ⟨0, rfl, rfl, H0⟩
  case round =>
    clear H0
    obtain ⟨a, ha, rfl, HH⟩ := hrel
    obtain ⟨go, hgo⟩ : ∃ n, n = gk := ⟨_, rfl⟩
    rw [← hgo] at ha
    by_cases hla : a < 27
    · have hda : decide ((a : Int) < 27) = true := by simp; omega
      go_wp2_with fail
      try rw [hda]
      clear hda
      go_loopg [7] 27 (fun gk sv wr => ∃ b : Nat, b + gk = 27 ∧ sv = .int .i64 b ∧ Hid (S4 w wr [(w.heap.size, V1), (w.heap.size + 1, V2)] (w.heap.size + 2) (w.heap.size + 3) (sqN fa fb (27 * a + b))))
      case atStart => exact ⟨0, rfl, rfl, HH⟩
      case round =>
        clear HH
        obtain ⟨b, hb, rfl, HH⟩ := hrel
        have H := HH.out
        clear HH
        by_cases hlb : b < 27
        · skip
          have hM := SM.out (27 * a + b) (by omega)
          have hnx := sqN_next fa fb (a := a) hlb
          obtain ⟨g, hg⟩ : ∃ g, sqN fa fb (27 * a + b) = g := ⟨_, rfl⟩
          rw [hg] at hM hnx H
          have ca := H.box (b := w.heap.size) (g := fa) (by rw [HV1.out]; simp) (i := a) (by omega)
          have I1 := Lib.hid (fun w => inN_any (fa a) b (FA.out a (by omega)) hlb w)
          have I2 := Lib.hid (fun w => inN_any (fb 27) b (FB.out 27 (by omega)) hlb w)
          have I3 := Lib.hid (fun w => inN_any (fb 28) b (FB.out 28 (by omega)) hlb w)
          have hxa : (a : Int) < 27 := by omega
          have hxb : (b : Int) < 27 := by omega
          clear hg
          unfold sqS at hnx
          cases hb1 : bitN (fa a) b
          · as_aux_lemma =>
              rw [hb1] at I1 hnx
              simp only [Bool.false_eq_true, if_false] at hnx
              have NX := Lib.hid hnx
              clear hb1 hnx hM I2 I3
              go_wp2_with fail
              refine (I1.out _).mono ?_
              rintro e w1 ⟨rfl, rfl⟩
              have HH := Lib.hid (H.less (g := sqN fa fb (27 * a + (b + 1))) (fun i _ => by rw [NX.out]))
              clear H NX
              go_wp2_with fail
              go_roundg (gk - 1)
              case measure => omega
              case rel =>
                refine ⟨b + 1, by omega, by go_num, ?_⟩
                with_reducible exact HH
          · rw [hb1] at I1 hnx
            simp only [if_true] at hnx
            have hM1 := sq1_small FB.out hM hla hlb
            obtain ⟨hc, hf, hc', hf'⟩ := H.get (i := a) (by omega)
            have cb := H.box (b := w.heap.size + 1) (g := fb) (by rw [HV2.out]; simp) (i := b) (by omega)
            have cc := H.box (b := w.heap.size + 1) (g := fb) (by rw [HV2.out]; simp) (i := 27) (by omega)
            have cd := H.box (b := w.heap.size + 1) (g := fb) (by rw [HV2.out]; simp) (i := 28) (by omega)
            obtain ⟨jc, jf, _, _⟩ := H.get (i := 27) (by omega)
            obtain ⟨kc, kf, _, _⟩ := H.get (i := 28) (by omega)
            have H1 := H.putI a (or_int (g a) (fb b) (hM a (by omega)) (FB.out b (by omega)))
            rw [show Proofs.Ythdgheglmkhcbaa.upd g a (g a ||| fb b) = sq1 fb g a b from rfl] at H1
            have e27 : sq1 fb g a b 27 = g 27 := upd_ne (by omega)
            have e28 : sq1 fb g a b 28 = g 28 := upd_ne (by omega)
            generalize sq1 fb g a b = g1 at *
            have hM27 := hM 27 (by omega)
            have hM28 := hM 28 (by omega)
            clear hb1 hM H
            unfold sq2 at hnx
            cases hb2 : bitN (fb 27) b
            · rw [hb2] at I2 hnx
              simp only [Bool.false_eq_true, if_false] at hnx
              have H2 := H1
              have hM2 := hM1
              obtain ⟨g2, hg2⟩ : ∃ g2, g1 = g2 := ⟨_, rfl⟩
              rw [hg2] at H2 hM2 hnx e28
              clear hb2 hg2
              unfold sq3 at hnx
              cases hb3 : bitN (fb 28) b
              · as_aux_lemma =>
                    rw [hb3] at I3 hnx
                    simp only [Bool.false_eq_true, if_false] at hnx
                    have H3 := H2
                    have NX := Lib.hid hnx
                    have H4 := Lib.hid H3.drew
                    clear hb3 hnx hM1 hM2 H1 H2 H3 e27 e28 hM27 hM28
                    go_wp2_with fail
                    refine (I1.out _).mono ?_
                    rintro e w1 ⟨rfl, rfl⟩
                    go_wp2_with fail
                    go_still_tail 12, (by kernel_rfl)
                    all_goals go_wp2_with fail
                    refine (I2.out _).mono ?_
                    rintro e w2 ⟨rfl, rfl⟩
                    go_wp2_with fail
                    refine (I3.out _).mono ?_
                    rintro e w3 ⟨rfl, rfl⟩
                    have H5 := H4.out
                    clear H4
                    have HH := Lib.hid (H5.less (g := sqN fa fb (27 * a + (b + 1))) (fun i _ => by rw [NX.out]))
                    clear H5 NX
                    go_wp2_with fail
                    go_roundg (gk - 1)
                    case measure => omega
                    case rel =>
                      refine ⟨b + 1, by omega, by go_num, ?_⟩
                      with_reducible exact HH
              · as_aux_lemma =>
                    rw [hb3] at I3 hnx
                    simp only [if_true] at hnx
                    rw [e28] at hnx
                    have H3 := H2.putI 28 (or_pow (g 28) a hM28 hla)
                    have NX := Lib.hid hnx
                    have H4 := Lib.hid H3.drew
                    clear hb3 hnx hM1 hM2 H1 H2 H3 e27 e28 hM27 hM28
                    go_wp2_with fail
                    refine (I1.out _).mono ?_
                    rintro e w1 ⟨rfl, rfl⟩
                    go_wp2_with fail
                    go_still_tail 12, (by kernel_rfl)
                    all_goals go_wp2_with fail
                    refine (I2.out _).mono ?_
                    rintro e w2 ⟨rfl, rfl⟩
                    go_wp2_with fail
                    refine (I3.out _).mono ?_
                    rintro e w3 ⟨rfl, rfl⟩
                    have H5 := H4.out
                    clear H4
                    have HH := Lib.hid (H5.less (g := sqN fa fb (27 * a + (b + 1))) (fun i _ => by rw [NX.out]))
                    clear H5 NX
                    go_wp2_with fail
                    go_roundg (gk - 1)
                    case measure => omega
                    case rel =>
                      refine ⟨b + 1, by omega, by go_num, ?_⟩
                      with_reducible exact HH
            · rw [hb2] at I2 hnx
              simp only [if_true] at hnx
              have H2 := H1.putI 27 (or_pow (g 27) a hM27 hla)
              have hM2 := hM1.upd 27 (or_lt hM27 (p27 hla))
              rw [e27] at hnx
              have e28b : Proofs.Ythdgheglmkhcbaa.upd g1 27 (g 27 ||| 2 ^ a) 28 = g 28 := (upd_ne (by decide)).trans e28
              obtain ⟨g2, hg2⟩ : ∃ g2, Proofs.Ythdgheglmkhcbaa.upd g1 27 (g 27 ||| 2 ^ a) = g2 := ⟨_, rfl⟩
              rw [hg2] at H2 hM2 hnx e28b
              replace e28 := e28b
              clear e28b
              clear hb2 hg2
              unfold sq3 at hnx
              cases hb3 : bitN (fb 28) b
              · as_aux_lemma =>
                    rw [hb3] at I3 hnx
                    simp only [Bool.false_eq_true, if_false] at hnx
                    have H3 := H2
                    have NX := Lib.hid hnx
                    have H4 := Lib.hid H3.drew
                    clear hb3 hnx hM1 hM2 H1 H2 H3 e27 e28 hM27 hM28
                    go_wp2_with fail
                    refine (I1.out _).mono ?_
                    rintro e w1 ⟨rfl, rfl⟩
                    go_wp2_with fail
                    go_still_tail 12, (by kernel_rfl)
                    all_goals go_wp2_with fail
                    refine (I2.out _).mono ?_
                    rintro e w2 ⟨rfl, rfl⟩
                    go_wp2_with fail
                    refine (I3.out _).mono ?_
                    rintro e w3 ⟨rfl, rfl⟩
                    have H5 := H4.out
                    clear H4
                    have HH := Lib.hid (H5.less (g := sqN fa fb (27 * a + (b + 1))) (fun i _ => by rw [NX.out]))
                    clear H5 NX
                    go_wp2_with fail
                    go_roundg (gk - 1)
                    case measure => omega
                    case rel =>
                      refine ⟨b + 1, by omega, by go_num, ?_⟩
                      with_reducible exact HH
              · as_aux_lemma =>
                    rw [hb3] at I3 hnx
                    simp only [if_true] at hnx
                    rw [e28] at hnx
                    have H3 := H2.putI 28 (or_pow (g 28) a hM28 hla)
                    have NX := Lib.hid hnx
                    have H4 := Lib.hid H3.drew
                    clear hb3 hnx hM1 hM2 H1 H2 H3 e27 e28 hM27 hM28
                    go_wp2_with fail
                    refine (I1.out _).mono ?_
                    rintro e w1 ⟨rfl, rfl⟩
                    go_wp2_with fail
                    go_still_tail 12, (by kernel_rfl)
                    all_goals go_wp2_with fail
                    refine (I2.out _).mono ?_
                    rintro e w2 ⟨rfl, rfl⟩
                    go_wp2_with fail
                    refine (I3.out _).mono ?_
                    rintro e w3 ⟨rfl, rfl⟩
                    have H5 := H4.out
                    clear H4
                    have HH := Lib.hid (H5.less (g := sqN fa fb (27 * a + (b + 1))) (fun i _ => by rw [NX.out]))
                    clear H5 NX
                    go_wp2_with fail
                    go_roundg (gk - 1)
                    case measure => omega
                    case rel =>
                      refine ⟨b + 1, by omega, by go_num, ?_⟩
                      with_reducible exact HH
        · obtain rfl : b = 27 := by omega
          have HH := Lib.hid (H.less (g := sqN fa fb (27 * (a + 1))) (fun i _ => by rw [show 27 * (a + 1) = 27 * a + 27 by omega]))
          clear H
          go_wp2_with fail
          go_roundg (go - 1)
          case measure => omega
          case rel => exact ⟨a + 1, by omega, by go_num, HH⟩
    · obtain rfl : a = 27 := by omega
      have H := HH.out
      clear hla hgo HH SM FA FB
      have k3 := H.loc
      rw [HVE.out] at k3
      have hz : VE.size = 29 := by rw [← HVE.out]; exact av_size _ _
      have h1 : VE.all (·.oneCell') = true := by rw [← HVE.out]; exact av_one _ _
      have hi : (Try.prog.info? 95).map (·.size) = some VE.size := by rw [hz]; exact all_size
      obtain ⟨old, hoz, k2⟩ := H.res
      have kE := setRow_heap wr (w.heap.size + 2) _ VE 95 (0, 0) k2
      have BE : Hid (Below w.heap.size w (wr.setRow (w.heap.size + 2) VE)) := H.below.trans (below_row (by first | omega | exact Nat.le_refl _) VE)
      have X := Lib.hid (And.intro k3 (And.intro k2 (And.intro hi (And.intro (hoz.trans hz.symm) (And.intro h1 kE)))))
      clear k3 k2 hoz kE hz h1 hi H HVE
      go_wp2_with (first | (refine wpList_load_row rfl 95 (.tmp 5) rfl (w.heap.size + 3) rfl 95 VE (0, 0) _ X.out.1 Try.underlying95 rfl X.out.2.2.1 ?_) | (refine wpList_store_row rfl 95 (.tmp 4) (.tmp 62) rfl (w.heap.size + 2) VE rfl rfl 95 old X.out.2.1 X.out.2.2.1 X.out.2.2.2.1 X.out.2.2.2.2.1 ?_))
      exact bodyPost_ret (v := .agg VE) (results_cell_row rfl _ _ (w.heap.size + 2) 95 VE (0, 0) _ rfl X.out.2.2.2.2.2 Try.underlying95 rfl X.out.2.2.1) rfl ⟨rfl, BE.out⟩

end Go.Proofs.Ythdgheglmkhcbaa
