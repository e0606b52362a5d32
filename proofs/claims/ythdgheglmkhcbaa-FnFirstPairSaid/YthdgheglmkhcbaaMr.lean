/- The reference's relations as masks: a set read, a relation read, turned, composed. -/
import Derived.Test.YthdgheglmkhcbaaMk
import Derived.Test.YthdgheglmkhcbaaRz
import Derived.StillTailTactics
namespace Go.Proofs.Ythdgheglmkhcbaa
open Go.RowKit
open Pl

set_option maxRecDepth 100000 in
set_option maxHeartbeats 4000000 in
theorem l4Mask_any (P : ByteArray) (hP : P.size ≤ 27) (w : World) : Calls Try.prog 120 #[.string P] w fun e w' => e = .returned (.int .i64 (msk (bt P.data.toList) P.size : Nat)) ∧ w = w' := by
  obtain ⟨f, hf⟩ : ∃ f, bt P.data.toList = f := ⟨_, rfl⟩
  have HF := Lib.hid (fun i (hi : i < P.size) => show f i = (P[i] == 49) by rw [← hf]; exact bt_at hi)
  rw [hf]
  clear hf
  go_enter Try.func120, Try.ntmps120
  go_wp2_with fail
  go_loopg [3, 4] P.size (fun gk so si wr => ∃ j : Nat, j + gk = P.size ∧ si = .int .i64 j ∧ so = .int .i64 (msk f j : Nat) ∧ wr = w)
  case atStart => exact ⟨0, by omega, rfl, rfl, rfl⟩
  case round =>
    obtain ⟨j, hj, rfl, rfl, rfl⟩ := hrel
    by_cases hlt : j < P.size
    · obtain ⟨c, hc⟩ : ∃ c, P[j] = c := ⟨_, rfl⟩
      have hfj := HF.out j hlt
      rw [hc] at hfj
      have hor := or_wrap (msk f j) j (msk_lt _ _) (by omega)
      have hn : msk f (j + 1) = msk f j + (if f j then 2 ^ j else 0) := rfl
      rw [hfj] at hn
      clear hfj
      by_cases h1 : c = 49
      · subst h1
        have HO : Hid (bits BinOp.or IntKind.i64 ((msk f j : Nat) : Int) (wrap64 (2 ^ j)) = ((msk f (j + 1) : Nat) : Int)) := by show bits BinOp.or IntKind.i64 _ _ = _; rw [hn]; simpa using hor
        clear hor hn HF
        go_wp2_with fail
        go_roundg (gk - 1)
        case measure => omega
        case rel => exact ⟨j + 1, by omega, by go_num, congrArg (Value.int .i64) HO.out, rfl⟩
      · have e1 := u8_ne 49 h1 (by decide)
        simp only [Int.cast_ofNat_Int] at e1
        have f1 : (c == 49) = false := by simpa using h1
        have HO : Hid (msk f j = msk f (j + 1)) := by rw [f1] at hn; exact hn.symm
        clear hor hn h1 HF f1
        go_wp2_with fail
        go_roundg (gk - 1)
        case measure => omega
        case rel => exact ⟨j + 1, by omega, by go_num, by rw [← HO.out], rfl⟩
    · obtain rfl : j = P.size := by omega
      clear HF
      go_wp2_with fail
      go_ret
      exact ⟨rfl, rfl⟩
/-- the masks made so far -/
def rdS (f : Nat → Nat) (i : Nat) : Nat → Nat := fun a => if a < i then f a else 0
theorem rdS_upd (f : Nat → Nat) (i : Nat) : av 27 (upd (rdS f i) i (f i)) = av 27 (rdS f (i + 1)) := by
  apply av_congr
  intro a _
  unfold upd rdS
  by_cases e : a = i
  · subst e; simp
  · rw [if_neg e]
    by_cases h : a < i
    · rw [if_pos h, if_pos (by omega)]
    · rw [if_neg h, if_neg (by omega)]
theorem rdS_all (f : Nat → Nat) : av 27 (rdS f 27) = av 27 f := av_congr (fun _ ha => if_pos ha)
theorem Held.set_ {w : World} {g : Nat} (h : Held w g) {p : Addr} (hp : g ≠ p.block) (u : Value) : Held (w.setCell p u) g := h.far hp u
set_option maxRecDepth 100000 in
set_option maxHeartbeats 8000000 in
theorem l6Read_any (R : ByteArray) (hr : bOk 729 R.data.toList = true) (w : World) : Calls Try.prog 105 #[.string R] w fun e w' => (e = .returned (.agg (rowV (ro R.data.toList))) ∧ Below w.heap.size w w') := by
  have hz := okR_size hr
  have EX := Lib.hid (fun (i : Nat) (hi : i < 27) => ext_row hr hi (p := 27 * i) (n := 27 * i + 27) rfl rfl)
  have LM := Lib.hid (fun (i : Nat) (hi : i < 27) w => by have := l4Mask_any (bs (bitsN 27 (ro R.data.toList i))) (by rw [bs_size, bits_len]; omega) w; rw [bs_size, bits_len, bs_list, msk_congr (g := ro R.data.toList i) (fun j hj => bt_bits hj)] at this; exact this)
  obtain ⟨f, hf⟩ : ∃ f : Nat → Nat, (fun i => msk (ro R.data.toList i) 27) = f := ⟨_, rfl⟩
  have HF := Lib.hid (fun i => congrFun hf i)
  obtain ⟨V, hV⟩ : ∃ V, rowV (ro R.data.toList) = V := ⟨_, rfl⟩
  have HV : Hid (av 27 (rdS f 27) = V) := by show av 27 _ = V; rw [rdS_all, ← hV, rowV_av, hf]
  rw [hV]
  clear hf hV hr
  have kr : Blk ((w.alloc (.cells #[.int .i64 0, .int .i64 0, .int .i64 0, .int .i64 0, .int .i64 0, .int .i64 0, .int .i64 0, .int .i64 0, .int .i64 0, .int .i64 0, .int .i64 0, .int .i64 0, .int .i64 0, .int .i64 0, .int .i64 0, .int .i64 0, .int .i64 0, .int .i64 0, .int .i64 0, .int .i64 0, .int .i64 0, .int .i64 0, .int .i64 0, .int .i64 0, .int .i64 0, .int .i64 0, .int .i64 0] 74)).alloc (.cells #[.int .i64 0, .int .i64 0, .int .i64 0, .int .i64 0, .int .i64 0, .int .i64 0, .int .i64 0, .int .i64 0, .int .i64 0, .int .i64 0, .int .i64 0, .int .i64 0, .int .i64 0, .int .i64 0, .int .i64 0, .int .i64 0, .int .i64 0, .int .i64 0, .int .i64 0, .int .i64 0, .int .i64 0, .int .i64 0, .int .i64 0, .int .i64 0, .int .i64 0, .int .i64 0, .int .i64 0] 74)) (w.heap.size) 74 #[.int .i64 0, .int .i64 0, .int .i64 0, .int .i64 0, .int .i64 0, .int .i64 0, .int .i64 0, .int .i64 0, .int .i64 0, .int .i64 0, .int .i64 0, .int .i64 0, .int .i64 0, .int .i64 0, .int .i64 0, .int .i64 0, .int .i64 0, .int .i64 0, .int .i64 0, .int .i64 0, .int .i64 0, .int .i64 0, .int .i64 0, .int .i64 0, .int .i64 0, .int .i64 0, .int .i64 0] := by
    have h0 := Blk.new w 74 #[.int .i64 0, .int .i64 0, .int .i64 0, .int .i64 0, .int .i64 0, .int .i64 0, .int .i64 0, .int .i64 0, .int .i64 0, .int .i64 0, .int .i64 0, .int .i64 0, .int .i64 0, .int .i64 0, .int .i64 0, .int .i64 0, .int .i64 0, .int .i64 0, .int .i64 0, .int .i64 0, .int .i64 0, .int .i64 0, .int .i64 0, .int .i64 0, .int .i64 0, .int .i64 0, .int .i64 0]
    have hz : w.heap.size = w.heap.size := by simp
    rw [hz] at h0
    exact h0.alloc _
  have kz : Blk ((w.alloc (.cells #[.int .i64 0, .int .i64 0, .int .i64 0, .int .i64 0, .int .i64 0, .int .i64 0, .int .i64 0, .int .i64 0, .int .i64 0, .int .i64 0, .int .i64 0, .int .i64 0, .int .i64 0, .int .i64 0, .int .i64 0, .int .i64 0, .int .i64 0, .int .i64 0, .int .i64 0, .int .i64 0, .int .i64 0, .int .i64 0, .int .i64 0, .int .i64 0, .int .i64 0, .int .i64 0, .int .i64 0] 74)).alloc (.cells #[.int .i64 0, .int .i64 0, .int .i64 0, .int .i64 0, .int .i64 0, .int .i64 0, .int .i64 0, .int .i64 0, .int .i64 0, .int .i64 0, .int .i64 0, .int .i64 0, .int .i64 0, .int .i64 0, .int .i64 0, .int .i64 0, .int .i64 0, .int .i64 0, .int .i64 0, .int .i64 0, .int .i64 0, .int .i64 0, .int .i64 0, .int .i64 0, .int .i64 0, .int .i64 0, .int .i64 0] 74)) (w.heap.size + 1) 74 #[.int .i64 0, .int .i64 0, .int .i64 0, .int .i64 0, .int .i64 0, .int .i64 0, .int .i64 0, .int .i64 0, .int .i64 0, .int .i64 0, .int .i64 0, .int .i64 0, .int .i64 0, .int .i64 0, .int .i64 0, .int .i64 0, .int .i64 0, .int .i64 0, .int .i64 0, .int .i64 0, .int .i64 0, .int .i64 0, .int .i64 0, .int .i64 0, .int .i64 0, .int .i64 0, .int .i64 0] := by
    have h0 := Blk.new (w.alloc (.cells #[.int .i64 0, .int .i64 0, .int .i64 0, .int .i64 0, .int .i64 0, .int .i64 0, .int .i64 0, .int .i64 0, .int .i64 0, .int .i64 0, .int .i64 0, .int .i64 0, .int .i64 0, .int .i64 0, .int .i64 0, .int .i64 0, .int .i64 0, .int .i64 0, .int .i64 0, .int .i64 0, .int .i64 0, .int .i64 0, .int .i64 0, .int .i64 0, .int .i64 0, .int .i64 0, .int .i64 0] 74)) 74 #[.int .i64 0, .int .i64 0, .int .i64 0, .int .i64 0, .int .i64 0, .int .i64 0, .int .i64 0, .int .i64 0, .int .i64 0, .int .i64 0, .int .i64 0, .int .i64 0, .int .i64 0, .int .i64 0, .int .i64 0, .int .i64 0, .int .i64 0, .int .i64 0, .int .i64 0, .int .i64 0, .int .i64 0, .int .i64 0, .int .i64 0, .int .i64 0, .int .i64 0, .int .i64 0, .int .i64 0]
    have hz : (w.alloc (.cells #[.int .i64 0, .int .i64 0, .int .i64 0, .int .i64 0, .int .i64 0, .int .i64 0, .int .i64 0, .int .i64 0, .int .i64 0, .int .i64 0, .int .i64 0, .int .i64 0, .int .i64 0, .int .i64 0, .int .i64 0, .int .i64 0, .int .i64 0, .int .i64 0, .int .i64 0, .int .i64 0, .int .i64 0, .int .i64 0, .int .i64 0, .int .i64 0, .int .i64 0, .int .i64 0, .int .i64 0] 74)).heap.size = w.heap.size + 1 := by simp
    rw [hz] at h0
    exact h0
  have KR : Hid (Held ((w.alloc (.cells #[.int .i64 0, .int .i64 0, .int .i64 0, .int .i64 0, .int .i64 0, .int .i64 0, .int .i64 0, .int .i64 0, .int .i64 0, .int .i64 0, .int .i64 0, .int .i64 0, .int .i64 0, .int .i64 0, .int .i64 0, .int .i64 0, .int .i64 0, .int .i64 0, .int .i64 0, .int .i64 0, .int .i64 0, .int .i64 0, .int .i64 0, .int .i64 0, .int .i64 0, .int .i64 0, .int .i64 0] 74)).alloc (.cells #[.int .i64 0, .int .i64 0, .int .i64 0, .int .i64 0, .int .i64 0, .int .i64 0, .int .i64 0, .int .i64 0, .int .i64 0, .int .i64 0, .int .i64 0, .int .i64 0, .int .i64 0, .int .i64 0, .int .i64 0, .int .i64 0, .int .i64 0, .int .i64 0, .int .i64 0, .int .i64 0, .int .i64 0, .int .i64 0, .int .i64 0, .int .i64 0, .int .i64 0, .int .i64 0, .int .i64 0] 74)) (w.heap.size)) := ⟨_, rfl, kr⟩
  have KZ := Lib.hid kz
  have KL : Hid (Blk ((w.alloc (.cells #[.int .i64 0, .int .i64 0, .int .i64 0, .int .i64 0, .int .i64 0, .int .i64 0, .int .i64 0, .int .i64 0, .int .i64 0, .int .i64 0, .int .i64 0, .int .i64 0, .int .i64 0, .int .i64 0, .int .i64 0, .int .i64 0, .int .i64 0, .int .i64 0, .int .i64 0, .int .i64 0, .int .i64 0, .int .i64 0, .int .i64 0, .int .i64 0, .int .i64 0, .int .i64 0, .int .i64 0] 74)).alloc (.cells #[.int .i64 0, .int .i64 0, .int .i64 0, .int .i64 0, .int .i64 0, .int .i64 0, .int .i64 0, .int .i64 0, .int .i64 0, .int .i64 0, .int .i64 0, .int .i64 0, .int .i64 0, .int .i64 0, .int .i64 0, .int .i64 0, .int .i64 0, .int .i64 0, .int .i64 0, .int .i64 0, .int .i64 0, .int .i64 0, .int .i64 0, .int .i64 0, .int .i64 0, .int .i64 0, .int .i64 0] 74)) (w.heap.size + 1) 74 (av 27 (fun _ => 0))) := by rw [← av_zero]; exact kz
  have HW := Lib.hid (setRow_self ((w.alloc (.cells #[.int .i64 0, .int .i64 0, .int .i64 0, .int .i64 0, .int .i64 0, .int .i64 0, .int .i64 0, .int .i64 0, .int .i64 0, .int .i64 0, .int .i64 0, .int .i64 0, .int .i64 0, .int .i64 0, .int .i64 0, .int .i64 0, .int .i64 0, .int .i64 0, .int .i64 0, .int .i64 0, .int .i64 0, .int .i64 0, .int .i64 0, .int .i64 0, .int .i64 0, .int .i64 0, .int .i64 0] 74)).alloc (.cells #[.int .i64 0, .int .i64 0, .int .i64 0, .int .i64 0, .int .i64 0, .int .i64 0, .int .i64 0, .int .i64 0, .int .i64 0, .int .i64 0, .int .i64 0, .int .i64 0, .int .i64 0, .int .i64 0, .int .i64 0, .int .i64 0, .int .i64 0, .int .i64 0, .int .i64 0, .int .i64 0, .int .i64 0, .int .i64 0, .int .i64 0, .int .i64 0, .int .i64 0, .int .i64 0, .int .i64 0] 74)) (w.heap.size + 1) #[.int .i64 0, .int .i64 0, .int .i64 0, .int .i64 0, .int .i64 0, .int .i64 0, .int .i64 0, .int .i64 0, .int .i64 0, .int .i64 0, .int .i64 0, .int .i64 0, .int .i64 0, .int .i64 0, .int .i64 0, .int .i64 0, .int .i64 0, .int .i64 0, .int .i64 0, .int .i64 0, .int .i64 0, .int .i64 0, .int .i64 0, .int .i64 0, .int .i64 0, .int .i64 0, .int .i64 0] 74 (0, 0) kz)
  have B0 : Hid (Below w.heap.size w ((w.alloc (.cells #[.int .i64 0, .int .i64 0, .int .i64 0, .int .i64 0, .int .i64 0, .int .i64 0, .int .i64 0, .int .i64 0, .int .i64 0, .int .i64 0, .int .i64 0, .int .i64 0, .int .i64 0, .int .i64 0, .int .i64 0, .int .i64 0, .int .i64 0, .int .i64 0, .int .i64 0, .int .i64 0, .int .i64 0, .int .i64 0, .int .i64 0, .int .i64 0, .int .i64 0, .int .i64 0, .int .i64 0] 74)).alloc (.cells #[.int .i64 0, .int .i64 0, .int .i64 0, .int .i64 0, .int .i64 0, .int .i64 0, .int .i64 0, .int .i64 0, .int .i64 0, .int .i64 0, .int .i64 0, .int .i64 0, .int .i64 0, .int .i64 0, .int .i64 0, .int .i64 0, .int .i64 0, .int .i64 0, .int .i64 0, .int .i64 0, .int .i64 0, .int .i64 0, .int .i64 0, .int .i64 0, .int .i64 0, .int .i64 0, .int .i64 0] 74))) := ((Below.refl w.heap.size w).alloc (by first | exact Nat.le_refl _ | (simp; done) | (simp; omega)) (.cells #[.int .i64 0, .int .i64 0, .int .i64 0, .int .i64 0, .int .i64 0, .int .i64 0, .int .i64 0, .int .i64 0, .int .i64 0, .int .i64 0, .int .i64 0, .int .i64 0, .int .i64 0, .int .i64 0, .int .i64 0, .int .i64 0, .int .i64 0, .int .i64 0, .int .i64 0, .int .i64 0, .int .i64 0, .int .i64 0, .int .i64 0, .int .i64 0, .int .i64 0, .int .i64 0, .int .i64 0] 74)).alloc (by first | exact Nat.le_refl _ | (simp; done) | (simp; omega)) (.cells #[.int .i64 0, .int .i64 0, .int .i64 0, .int .i64 0, .int .i64 0, .int .i64 0, .int .i64 0, .int .i64 0, .int .i64 0, .int .i64 0, .int .i64 0, .int .i64 0, .int .i64 0, .int .i64 0, .int .i64 0, .int .i64 0, .int .i64 0, .int .i64 0, .int .i64 0, .int .i64 0, .int .i64 0, .int .i64 0, .int .i64 0, .int .i64 0, .int .i64 0, .int .i64 0, .int .i64 0] 74)
  clear kz kr 
  go_enter Try.func105, Try.ntmps105
  go_wp2_with (refine wpList_store_row rfl 74 (.tmp 3) (.tmp 5) rfl (w.heap.size + 1) #[.int .i64 0, .int .i64 0, .int .i64 0, .int .i64 0, .int .i64 0, .int .i64 0, .int .i64 0, .int .i64 0, .int .i64 0, .int .i64 0, .int .i64 0, .int .i64 0, .int .i64 0, .int .i64 0, .int .i64 0, .int .i64 0, .int .i64 0, .int .i64 0, .int .i64 0, .int .i64 0, .int .i64 0, .int .i64 0, .int .i64 0, .int .i64 0, .int .i64 0, .int .i64 0, .int .i64 0] rfl rfl 74 #[.int .i64 0, .int .i64 0, .int .i64 0, .int .i64 0, .int .i64 0, .int .i64 0, .int .i64 0, .int .i64 0, .int .i64 0, .int .i64 0, .int .i64 0, .int .i64 0, .int .i64 0, .int .i64 0, .int .i64 0, .int .i64 0, .int .i64 0, .int .i64 0, .int .i64 0, .int .i64 0, .int .i64 0, .int .i64 0, .int .i64 0, .int .i64 0, .int .i64 0, .int .i64 0, .int .i64 0] KZ.out rel_size rfl z_one ?_)
  try rw [HW.out]
  clear HW KZ
  go_loopg [4] 27 (fun gk sv wr => ∃ a : Nat, a + gk = 27 ∧ sv = .int .i64 a ∧ Hid (Held wr (w.heap.size)) ∧ Hid (Blk wr (w.heap.size + 1) 74 (av 27 (rdS f a))) ∧ Hid (Below w.heap.size w wr))
  case atStart => exact ⟨0, rfl, rfl, KR, KL, B0⟩
  case round =>
    clear KR KL B0
    obtain ⟨a, ha, rfl, KR, KL, B⟩ := hrel
    by_cases hla : a < 27
    · have hex := EX.out a hla
      have LX := Lib.hid (fun w => LM.out a hla w)
      generalize bs (bitsN 27 (ro R.data.toList a)) = X at *
      have hfa := HF.out a
      rw [hfa] at LX
      clear hfa
      obtain ⟨n, hn⟩ : ∃ n, n = 27 * a := ⟨_, rfl⟩
      obtain ⟨m, hm⟩ : ∃ m, m = 27 * a + 27 := ⟨_, rfl⟩
      rw [← hm, ← hn] at hex
      have e1 : 27 * (a : Int) = (n : Int) := by omega
      have e2 : (n : Int) + 27 = (m : Int) := by omega
      have g1 : n ≤ m := by omega
      have g2 : m ≤ R.size := by omega
      have hc := (KL.out.cell a).trans (av_get _ hla)
      have hf := KL.out.frozen a
      have k5 := KL.out.set_ a (.int .i64 (f a : Nat))
      rw [av_set, rdS_upd] at k5
      have K5 := Lib.hid k5
      have R5 := Lib.hid (KR.out.far (p := ⟨w.heap.size + 1, a, none⟩) (by simp) (.int .i64 (f a : Nat)))
      have B5 := Lib.hid (B.out.setCell (p := ⟨w.heap.size + 1, a, none⟩) (by simp) (.int .i64 (f a : Nat)))
      clear k5 KR KL B hn hm
      go_wp2_with fail
      refine (LX.out _).mono ?_
      rintro e w' ⟨rfl, rfl⟩
      go_wp2_with fail
      go_roundg (gk - 1)
      case measure => omega
      case rel => exact ⟨a + 1, by omega, by go_num, R5, K5, B5⟩
    · obtain rfl : a = 27 := by omega
      clear EX LM HF
      have k3 := KL.out
      rw [HV.out] at k3
      have hz : V.size = 27 := by rw [← HV.out]; exact av_size _ _
      have h1 : V.all (·.oneCell') = true := by rw [← HV.out]; exact av_one _ _
      have hi : (Try.prog.info? 74).map (·.size) = some V.size := by rw [hz]; exact rel_size
      obtain ⟨old, hoz, k2⟩ := KR.out
      have kE := setRow_heap wr (w.heap.size) _ V 74 (0, 0) k2
      have BE : Hid (Below w.heap.size w (wr.setRow (w.heap.size) V)) := B.out.trans (show Below w.heap.size wr (wr.setRow (w.heap.size) V) from ⟨rfl, rfl, rfl, by simp, fun g hg => setRow_other wr (w.heap.size) g V (by omega)⟩)
      have X := Lib.hid (And.intro k3 (And.intro k2 (And.intro hi (And.intro (hoz.trans hz.symm) (And.intro h1 kE)))))
      clear k3 KL KR k2 hoz kE hz h1 hi 
      go_wp2_with (first | (refine wpList_load_row rfl 74 (.tmp 3) rfl (w.heap.size + 1) rfl 74 V (0, 0) _ X.out.1 Try.underlying74 rfl X.out.2.2.1 ?_) | (refine wpList_store_row rfl 74 (.tmp 2) (.tmp 20) rfl (w.heap.size) V rfl rfl 74 old X.out.2.1 X.out.2.2.1 X.out.2.2.2.1 X.out.2.2.2.2.1 ?_))
      exact bodyPost_ret (v := .agg V) (results_cell_row rfl _ _ (w.heap.size) 74 V (0, 0) _ rfl X.out.2.2.2.2.2 Try.underlying74 rfl X.out.2.2.1) rfl ⟨rfl, BE.out⟩
def trS (rb : Rl) (i j : Nat) : Nat → Nat := fun a => msk (trnF rb a) (if a < j then i + 1 else i)
theorem trS_zero (rb : Rl) : av 27 (fun _ => 0) = av 27 (trS rb 0 0) := av_congr (fun a _ => by simp [trS, msk])
theorem trS_no {rb : Rl} {i j : Nat} (h : rb i j = false) : av 27 (trS rb i j) = av 27 (trS rb i (j + 1)) := by
  apply av_congr
  intro a _
  unfold trS
  by_cases e : a = j
  · subst e
    rw [if_neg (Nat.lt_irrefl _), if_pos (Nat.lt_succ_self _), msk, show trnF rb a i = false from h]; simp
  · by_cases h1 : a < j
    · rw [if_pos h1, if_pos (by omega)]
    · rw [if_neg h1, if_neg (by omega)]
theorem trS_yes {rb : Rl} {i j : Nat} (h : rb i j = true) : av 27 (upd (trS rb i j) j (trS rb i j j + 2 ^ i)) = av 27 (trS rb i (j + 1)) := by
  apply av_congr
  intro a _
  unfold upd trS
  by_cases e : a = j
  · subst e
    rw [if_pos rfl, if_neg (Nat.lt_irrefl _), if_pos (Nat.lt_succ_self _), msk, show trnF rb a i = true from h]; simp
  · rw [if_neg e]
    by_cases h1 : a < j
    · rw [if_pos h1, if_pos (by omega)]
    · rw [if_neg h1, if_neg (by omega)]
theorem trS_next (rb : Rl) (i : Nat) : av 27 (trS rb i 27) = av 27 (trS rb (i + 1) 0) := by
  apply av_congr
  intro a ha
  unfold trS
  rw [if_pos ha, if_neg (Nat.not_lt_zero _)]
theorem trS_all (rb : Rl) : av 27 (trS rb 27 0) = rowV (trnF rb) := by
  rw [rowV_av]
  apply av_congr
  intro a _
  unfold trS
  rw [if_neg (Nat.not_lt_zero _)]
theorem trS_at (rb : Rl) (i j : Nat) : trS rb i j j = msk (trnF rb j) i := by unfold trS; rw [if_neg (Nat.lt_irrefl _)]
set_option maxRecDepth 100000 in
set_option maxHeartbeats 16000000 in
theorem l6Turn_any (rb : Rl) (w : World) : Calls Try.prog 111 #[.agg (rowV rb)] w fun e w' => (e = .returned (.agg (rowV (trnF rb))) ∧ Below w.heap.size w w') := by
  have RV := Lib.hid (fun i (hi : i < 27) => rowV_get rb hi)
  have IN := Lib.hid (fun (i j : Nat) (hj : j < 27) w => by have := l4In_any (msk (rb i) 27) j (msk_lt (rb i) 27) hj w; rw [msk_bit (rb i) hj] at this; exact this)
  obtain ⟨V, hV⟩ : ∃ V, rowV rb = V := ⟨_, rfl⟩
  rw [hV] at RV ⊢
  obtain ⟨U, hU⟩ : ∃ V, rowV (trnF rb) = V := ⟨_, rfl⟩
  have HU : Hid (av 27 (trS rb 27 0) = U) := (trS_all rb).trans hU
  rw [hU]
  clear hV hU
  have kb0 : Blk (((w.alloc (.cells V 74)).alloc (.cells #[.int .i64 0, .int .i64 0, .int .i64 0, .int .i64 0, .int .i64 0, .int .i64 0, .int .i64 0, .int .i64 0, .int .i64 0, .int .i64 0, .int .i64 0, .int .i64 0, .int .i64 0, .int .i64 0, .int .i64 0, .int .i64 0, .int .i64 0, .int .i64 0, .int .i64 0, .int .i64 0, .int .i64 0, .int .i64 0, .int .i64 0, .int .i64 0, .int .i64 0, .int .i64 0, .int .i64 0] 74)).alloc (.cells #[.int .i64 0, .int .i64 0, .int .i64 0, .int .i64 0, .int .i64 0, .int .i64 0, .int .i64 0, .int .i64 0, .int .i64 0, .int .i64 0, .int .i64 0, .int .i64 0, .int .i64 0, .int .i64 0, .int .i64 0, .int .i64 0, .int .i64 0, .int .i64 0, .int .i64 0, .int .i64 0, .int .i64 0, .int .i64 0, .int .i64 0, .int .i64 0, .int .i64 0, .int .i64 0, .int .i64 0] 74)) (w.heap.size) 74 V := by
    have h0 := Blk.new w 74 V
    have hz : w.heap.size = w.heap.size := by simp
    rw [hz] at h0
    exact ((h0.alloc _).alloc _)
  have kr : Blk (((w.alloc (.cells V 74)).alloc (.cells #[.int .i64 0, .int .i64 0, .int .i64 0, .int .i64 0, .int .i64 0, .int .i64 0, .int .i64 0, .int .i64 0, .int .i64 0, .int .i64 0, .int .i64 0, .int .i64 0, .int .i64 0, .int .i64 0, .int .i64 0, .int .i64 0, .int .i64 0, .int .i64 0, .int .i64 0, .int .i64 0, .int .i64 0, .int .i64 0, .int .i64 0, .int .i64 0, .int .i64 0, .int .i64 0, .int .i64 0] 74)).alloc (.cells #[.int .i64 0, .int .i64 0, .int .i64 0, .int .i64 0, .int .i64 0, .int .i64 0, .int .i64 0, .int .i64 0, .int .i64 0, .int .i64 0, .int .i64 0, .int .i64 0, .int .i64 0, .int .i64 0, .int .i64 0, .int .i64 0, .int .i64 0, .int .i64 0, .int .i64 0, .int .i64 0, .int .i64 0, .int .i64 0, .int .i64 0, .int .i64 0, .int .i64 0, .int .i64 0, .int .i64 0] 74)) (w.heap.size + 1) 74 #[.int .i64 0, .int .i64 0, .int .i64 0, .int .i64 0, .int .i64 0, .int .i64 0, .int .i64 0, .int .i64 0, .int .i64 0, .int .i64 0, .int .i64 0, .int .i64 0, .int .i64 0, .int .i64 0, .int .i64 0, .int .i64 0, .int .i64 0, .int .i64 0, .int .i64 0, .int .i64 0, .int .i64 0, .int .i64 0, .int .i64 0, .int .i64 0, .int .i64 0, .int .i64 0, .int .i64 0] := by
    have h0 := Blk.new (w.alloc (.cells V 74)) 74 #[.int .i64 0, .int .i64 0, .int .i64 0, .int .i64 0, .int .i64 0, .int .i64 0, .int .i64 0, .int .i64 0, .int .i64 0, .int .i64 0, .int .i64 0, .int .i64 0, .int .i64 0, .int .i64 0, .int .i64 0, .int .i64 0, .int .i64 0, .int .i64 0, .int .i64 0, .int .i64 0, .int .i64 0, .int .i64 0, .int .i64 0, .int .i64 0, .int .i64 0, .int .i64 0, .int .i64 0]
    have hz : (w.alloc (.cells V 74)).heap.size = w.heap.size + 1 := by simp
    rw [hz] at h0
    exact h0.alloc _
  have kz : Blk (((w.alloc (.cells V 74)).alloc (.cells #[.int .i64 0, .int .i64 0, .int .i64 0, .int .i64 0, .int .i64 0, .int .i64 0, .int .i64 0, .int .i64 0, .int .i64 0, .int .i64 0, .int .i64 0, .int .i64 0, .int .i64 0, .int .i64 0, .int .i64 0, .int .i64 0, .int .i64 0, .int .i64 0, .int .i64 0, .int .i64 0, .int .i64 0, .int .i64 0, .int .i64 0, .int .i64 0, .int .i64 0, .int .i64 0, .int .i64 0] 74)).alloc (.cells #[.int .i64 0, .int .i64 0, .int .i64 0, .int .i64 0, .int .i64 0, .int .i64 0, .int .i64 0, .int .i64 0, .int .i64 0, .int .i64 0, .int .i64 0, .int .i64 0, .int .i64 0, .int .i64 0, .int .i64 0, .int .i64 0, .int .i64 0, .int .i64 0, .int .i64 0, .int .i64 0, .int .i64 0, .int .i64 0, .int .i64 0, .int .i64 0, .int .i64 0, .int .i64 0, .int .i64 0] 74)) (w.heap.size + 2) 74 #[.int .i64 0, .int .i64 0, .int .i64 0, .int .i64 0, .int .i64 0, .int .i64 0, .int .i64 0, .int .i64 0, .int .i64 0, .int .i64 0, .int .i64 0, .int .i64 0, .int .i64 0, .int .i64 0, .int .i64 0, .int .i64 0, .int .i64 0, .int .i64 0, .int .i64 0, .int .i64 0, .int .i64 0, .int .i64 0, .int .i64 0, .int .i64 0, .int .i64 0, .int .i64 0, .int .i64 0] := by
    have h0 := Blk.new ((w.alloc (.cells V 74)).alloc (.cells #[.int .i64 0, .int .i64 0, .int .i64 0, .int .i64 0, .int .i64 0, .int .i64 0, .int .i64 0, .int .i64 0, .int .i64 0, .int .i64 0, .int .i64 0, .int .i64 0, .int .i64 0, .int .i64 0, .int .i64 0, .int .i64 0, .int .i64 0, .int .i64 0, .int .i64 0, .int .i64 0, .int .i64 0, .int .i64 0, .int .i64 0, .int .i64 0, .int .i64 0, .int .i64 0, .int .i64 0] 74)) 74 #[.int .i64 0, .int .i64 0, .int .i64 0, .int .i64 0, .int .i64 0, .int .i64 0, .int .i64 0, .int .i64 0, .int .i64 0, .int .i64 0, .int .i64 0, .int .i64 0, .int .i64 0, .int .i64 0, .int .i64 0, .int .i64 0, .int .i64 0, .int .i64 0, .int .i64 0, .int .i64 0, .int .i64 0, .int .i64 0, .int .i64 0, .int .i64 0, .int .i64 0, .int .i64 0, .int .i64 0]
    have hz : ((w.alloc (.cells V 74)).alloc (.cells #[.int .i64 0, .int .i64 0, .int .i64 0, .int .i64 0, .int .i64 0, .int .i64 0, .int .i64 0, .int .i64 0, .int .i64 0, .int .i64 0, .int .i64 0, .int .i64 0, .int .i64 0, .int .i64 0, .int .i64 0, .int .i64 0, .int .i64 0, .int .i64 0, .int .i64 0, .int .i64 0, .int .i64 0, .int .i64 0, .int .i64 0, .int .i64 0, .int .i64 0, .int .i64 0, .int .i64 0] 74)).heap.size = w.heap.size + 2 := by simp
    rw [hz] at h0
    exact h0
  have KB0 := Lib.hid kb0
  have KR : Hid (Held (((w.alloc (.cells V 74)).alloc (.cells #[.int .i64 0, .int .i64 0, .int .i64 0, .int .i64 0, .int .i64 0, .int .i64 0, .int .i64 0, .int .i64 0, .int .i64 0, .int .i64 0, .int .i64 0, .int .i64 0, .int .i64 0, .int .i64 0, .int .i64 0, .int .i64 0, .int .i64 0, .int .i64 0, .int .i64 0, .int .i64 0, .int .i64 0, .int .i64 0, .int .i64 0, .int .i64 0, .int .i64 0, .int .i64 0, .int .i64 0] 74)).alloc (.cells #[.int .i64 0, .int .i64 0, .int .i64 0, .int .i64 0, .int .i64 0, .int .i64 0, .int .i64 0, .int .i64 0, .int .i64 0, .int .i64 0, .int .i64 0, .int .i64 0, .int .i64 0, .int .i64 0, .int .i64 0, .int .i64 0, .int .i64 0, .int .i64 0, .int .i64 0, .int .i64 0, .int .i64 0, .int .i64 0, .int .i64 0, .int .i64 0, .int .i64 0, .int .i64 0, .int .i64 0] 74)) (w.heap.size + 1)) := ⟨_, rfl, kr⟩
  have KZ := Lib.hid kz
  have KL : Hid (Blk (((w.alloc (.cells V 74)).alloc (.cells #[.int .i64 0, .int .i64 0, .int .i64 0, .int .i64 0, .int .i64 0, .int .i64 0, .int .i64 0, .int .i64 0, .int .i64 0, .int .i64 0, .int .i64 0, .int .i64 0, .int .i64 0, .int .i64 0, .int .i64 0, .int .i64 0, .int .i64 0, .int .i64 0, .int .i64 0, .int .i64 0, .int .i64 0, .int .i64 0, .int .i64 0, .int .i64 0, .int .i64 0, .int .i64 0, .int .i64 0] 74)).alloc (.cells #[.int .i64 0, .int .i64 0, .int .i64 0, .int .i64 0, .int .i64 0, .int .i64 0, .int .i64 0, .int .i64 0, .int .i64 0, .int .i64 0, .int .i64 0, .int .i64 0, .int .i64 0, .int .i64 0, .int .i64 0, .int .i64 0, .int .i64 0, .int .i64 0, .int .i64 0, .int .i64 0, .int .i64 0, .int .i64 0, .int .i64 0, .int .i64 0, .int .i64 0, .int .i64 0, .int .i64 0] 74)) (w.heap.size + 2) 74 (av 27 (fun _ => 0))) := by rw [← av_zero]; exact kz
  have HW := Lib.hid (setRow_self (((w.alloc (.cells V 74)).alloc (.cells #[.int .i64 0, .int .i64 0, .int .i64 0, .int .i64 0, .int .i64 0, .int .i64 0, .int .i64 0, .int .i64 0, .int .i64 0, .int .i64 0, .int .i64 0, .int .i64 0, .int .i64 0, .int .i64 0, .int .i64 0, .int .i64 0, .int .i64 0, .int .i64 0, .int .i64 0, .int .i64 0, .int .i64 0, .int .i64 0, .int .i64 0, .int .i64 0, .int .i64 0, .int .i64 0, .int .i64 0] 74)).alloc (.cells #[.int .i64 0, .int .i64 0, .int .i64 0, .int .i64 0, .int .i64 0, .int .i64 0, .int .i64 0, .int .i64 0, .int .i64 0, .int .i64 0, .int .i64 0, .int .i64 0, .int .i64 0, .int .i64 0, .int .i64 0, .int .i64 0, .int .i64 0, .int .i64 0, .int .i64 0, .int .i64 0, .int .i64 0, .int .i64 0, .int .i64 0, .int .i64 0, .int .i64 0, .int .i64 0, .int .i64 0] 74)) (w.heap.size + 2) #[.int .i64 0, .int .i64 0, .int .i64 0, .int .i64 0, .int .i64 0, .int .i64 0, .int .i64 0, .int .i64 0, .int .i64 0, .int .i64 0, .int .i64 0, .int .i64 0, .int .i64 0, .int .i64 0, .int .i64 0, .int .i64 0, .int .i64 0, .int .i64 0, .int .i64 0, .int .i64 0, .int .i64 0, .int .i64 0, .int .i64 0, .int .i64 0, .int .i64 0, .int .i64 0, .int .i64 0] 74 (0, 0) kz)
  have B0 : Hid (Below w.heap.size w (((w.alloc (.cells V 74)).alloc (.cells #[.int .i64 0, .int .i64 0, .int .i64 0, .int .i64 0, .int .i64 0, .int .i64 0, .int .i64 0, .int .i64 0, .int .i64 0, .int .i64 0, .int .i64 0, .int .i64 0, .int .i64 0, .int .i64 0, .int .i64 0, .int .i64 0, .int .i64 0, .int .i64 0, .int .i64 0, .int .i64 0, .int .i64 0, .int .i64 0, .int .i64 0, .int .i64 0, .int .i64 0, .int .i64 0, .int .i64 0] 74)).alloc (.cells #[.int .i64 0, .int .i64 0, .int .i64 0, .int .i64 0, .int .i64 0, .int .i64 0, .int .i64 0, .int .i64 0, .int .i64 0, .int .i64 0, .int .i64 0, .int .i64 0, .int .i64 0, .int .i64 0, .int .i64 0, .int .i64 0, .int .i64 0, .int .i64 0, .int .i64 0, .int .i64 0, .int .i64 0, .int .i64 0, .int .i64 0, .int .i64 0, .int .i64 0, .int .i64 0, .int .i64 0] 74))) := (((Below.refl w.heap.size w).alloc (by first | exact Nat.le_refl _ | (simp; done) | (simp; omega)) (.cells V 74)).alloc (by first | exact Nat.le_refl _ | (simp; done) | (simp; omega)) (.cells #[.int .i64 0, .int .i64 0, .int .i64 0, .int .i64 0, .int .i64 0, .int .i64 0, .int .i64 0, .int .i64 0, .int .i64 0, .int .i64 0, .int .i64 0, .int .i64 0, .int .i64 0, .int .i64 0, .int .i64 0, .int .i64 0, .int .i64 0, .int .i64 0, .int .i64 0, .int .i64 0, .int .i64 0, .int .i64 0, .int .i64 0, .int .i64 0, .int .i64 0, .int .i64 0, .int .i64 0] 74)).alloc (by first | exact Nat.le_refl _ | (simp; done) | (simp; omega)) (.cells #[.int .i64 0, .int .i64 0, .int .i64 0, .int .i64 0, .int .i64 0, .int .i64 0, .int .i64 0, .int .i64 0, .int .i64 0, .int .i64 0, .int .i64 0, .int .i64 0, .int .i64 0, .int .i64 0, .int .i64 0, .int .i64 0, .int .i64 0, .int .i64 0, .int .i64 0, .int .i64 0, .int .i64 0, .int .i64 0, .int .i64 0, .int .i64 0, .int .i64 0, .int .i64 0, .int .i64 0] 74)
  clear kz kr kb0
  go_enter Try.func111, Try.ntmps111
  go_wp2_with (refine wpList_store_row rfl 74 (.tmp 3) (.tmp 6) rfl (w.heap.size + 2) #[.int .i64 0, .int .i64 0, .int .i64 0, .int .i64 0, .int .i64 0, .int .i64 0, .int .i64 0, .int .i64 0, .int .i64 0, .int .i64 0, .int .i64 0, .int .i64 0, .int .i64 0, .int .i64 0, .int .i64 0, .int .i64 0, .int .i64 0, .int .i64 0, .int .i64 0, .int .i64 0, .int .i64 0, .int .i64 0, .int .i64 0, .int .i64 0, .int .i64 0, .int .i64 0, .int .i64 0] rfl rfl 74 #[.int .i64 0, .int .i64 0, .int .i64 0, .int .i64 0, .int .i64 0, .int .i64 0, .int .i64 0, .int .i64 0, .int .i64 0, .int .i64 0, .int .i64 0, .int .i64 0, .int .i64 0, .int .i64 0, .int .i64 0, .int .i64 0, .int .i64 0, .int .i64 0, .int .i64 0, .int .i64 0, .int .i64 0, .int .i64 0, .int .i64 0, .int .i64 0, .int .i64 0, .int .i64 0, .int .i64 0] KZ.out rel_size rfl z_one ?_)
  try rw [HW.out]
  clear HW KZ
  have KL0 : Hid (Blk (((w.alloc (.cells V 74)).alloc (.cells #[.int .i64 0, .int .i64 0, .int .i64 0, .int .i64 0, .int .i64 0, .int .i64 0, .int .i64 0, .int .i64 0, .int .i64 0, .int .i64 0, .int .i64 0, .int .i64 0, .int .i64 0, .int .i64 0, .int .i64 0, .int .i64 0, .int .i64 0, .int .i64 0, .int .i64 0, .int .i64 0, .int .i64 0, .int .i64 0, .int .i64 0, .int .i64 0, .int .i64 0, .int .i64 0, .int .i64 0] 74)).alloc (.cells #[.int .i64 0, .int .i64 0, .int .i64 0, .int .i64 0, .int .i64 0, .int .i64 0, .int .i64 0, .int .i64 0, .int .i64 0, .int .i64 0, .int .i64 0, .int .i64 0, .int .i64 0, .int .i64 0, .int .i64 0, .int .i64 0, .int .i64 0, .int .i64 0, .int .i64 0, .int .i64 0, .int .i64 0, .int .i64 0, .int .i64 0, .int .i64 0, .int .i64 0, .int .i64 0, .int .i64 0] 74)) (w.heap.size + 2) 74 (av 27 (trS rb 0 0))) := by rw [← trS_zero rb]; exact KL
  clear KL
  go_loopg [4] 27 (fun gk sv wr => ∃ a : Nat, a + gk = 27 ∧ sv = .int .i64 a ∧ Hid (Held wr (w.heap.size + 1)) ∧ Hid (Blk wr (w.heap.size + 2) 74 (av 27 (trS rb a 0))) ∧ Hid (Blk wr (w.heap.size) 74 V) ∧ Hid (Below w.heap.size w wr))
  case atStart => exact ⟨0, rfl, rfl, KR, KL0, KB0, B0⟩
  case round =>
    clear KR KL0 KB0 B0
    obtain ⟨a, ha, rfl, KR, KL, KB0, B⟩ := hrel
    obtain ⟨go, hgo⟩ : ∃ n, n = gk := ⟨_, rfl⟩
    rw [← hgo] at ha
    by_cases hla : a < 27
    · have hda : decide ((a : Int) < 27) = true := by simp; omega
      go_wp2_with fail
      try rw [hda]
      clear hda
      go_loopg [5] 27 (fun gk sv wr => ∃ b : Nat, b + gk = 27 ∧ sv = .int .i64 b ∧ Hid (Held wr (w.heap.size + 1)) ∧ Hid (Blk wr (w.heap.size + 2) 74 (av 27 (trS rb a b))) ∧ Hid (Blk wr (w.heap.size) 74 V) ∧ Hid (Below w.heap.size w wr))
      case atStart => exact ⟨0, rfl, rfl, KR, KL, KB0, B⟩
      case round =>
        clear KR KL KB0 B
        obtain ⟨b, hb, rfl, KR, KL, KB0, B⟩ := hrel
        by_cases hlb : b < 27
        · have hcv := (KB0.out.cell a).trans (RV.out a hla)
          have IX := Lib.hid (fun w => IN.out a b hlb w)
          have hxa : (a : Int) < 27 := by omega
          have hxb : (b : Int) < 27 := by omega
          cases hr : rb a b
          · rw [hr] at IX
            have K5 : Hid (Blk wr (w.heap.size + 2) 74 (av 27 (trS rb a (b + 1)))) := by rw [← trS_no hr]; exact KL
            clear KL hr
            go_wp2_with fail
            refine (IX.out _).mono ?_
            rintro e w' ⟨rfl, rfl⟩
            go_wp2_with fail
            go_roundg (gk - 1)
            case measure => omega
            case rel => exact ⟨b + 1, by omega, by go_num, KR, K5, KB0, B⟩
          · rw [hr] at IX
            have hor := or_wrap (msk (trnF rb b) a) a (msk_lt _ _) hla
            have hc := (KL.out.cell b).trans (av_get _ hlb)
            rw [trS_at] at hc
            have hf := KL.out.frozen b
            have k5 := KL.out.set_ b (.int .i64 (bits BinOp.or IntKind.i64 ((msk (trnF rb b) a : Nat) : Int) (wrap64 (2 ^ a))))
            rw [hor, av_set, ← trS_at rb a b, trS_yes hr, trS_at, ← hor] at k5
            have K5 := Lib.hid k5
            have R5 := Lib.hid (KR.out.far (p := ⟨w.heap.size + 2, b, none⟩) (by simp) (.int .i64 (bits BinOp.or IntKind.i64 ((msk (trnF rb b) a : Nat) : Int) (wrap64 (2 ^ a)))))
            have P5 := Lib.hid (KB0.out.far (p := ⟨w.heap.size + 2, b, none⟩) (by simp) (.int .i64 (bits BinOp.or IntKind.i64 ((msk (trnF rb b) a : Nat) : Int) (wrap64 (2 ^ a)))))
            have B5 := Lib.hid (B.out.setCell (p := ⟨w.heap.size + 2, b, none⟩) (by simp) (.int .i64 (bits BinOp.or IntKind.i64 ((msk (trnF rb b) a : Nat) : Int) (wrap64 (2 ^ a)))))
            clear k5 KR KL KB0 B hr hor
            go_wp2_with fail
            refine (IX.out _).mono ?_
            rintro e w' ⟨rfl, rfl⟩
            go_wp2_with fail
            go_roundg (gk - 1)
            case measure => omega
            case rel => exact ⟨b + 1, by omega, by go_num, R5, K5, P5, B5⟩
        · obtain rfl : b = 27 := by omega
          have K5 : Hid (Blk wr (w.heap.size + 2) 74 (av 27 (trS rb (a + 1) 0))) := by rw [← trS_next rb a]; exact KL
          clear KL
          go_wp2_with fail
          go_roundg (go - 1)
          case measure => omega
          case rel => exact ⟨a + 1, by omega, by go_num, KR, K5, KB0, B⟩
    · obtain rfl : a = 27 := by omega
      clear hla hgo IN RV
      have k3 := KL.out
      rw [HU.out] at k3
      have hz : U.size = 27 := by rw [← HU.out]; exact av_size _ _
      have h1 : U.all (·.oneCell') = true := by rw [← HU.out]; exact av_one _ _
      have hi : (Try.prog.info? 74).map (·.size) = some U.size := by rw [hz]; exact rel_size
      obtain ⟨old, hoz, k2⟩ := KR.out
      have kE := setRow_heap wr (w.heap.size + 1) _ U 74 (0, 0) k2
      have BE : Hid (Below w.heap.size w (wr.setRow (w.heap.size + 1) U)) := B.out.trans (show Below w.heap.size wr (wr.setRow (w.heap.size + 1) U) from ⟨rfl, rfl, rfl, by simp, fun g hg => setRow_other wr (w.heap.size + 1) g U (by omega)⟩)
      have X := Lib.hid (And.intro k3 (And.intro k2 (And.intro hi (And.intro (hoz.trans hz.symm) (And.intro h1 kE)))))
      clear k3 KL KR k2 hoz kE hz h1 hi KB0
      go_wp2_with (first | (refine wpList_load_row rfl 74 (.tmp 3) rfl (w.heap.size + 2) rfl 74 U (0, 0) _ X.out.1 Try.underlying74 rfl X.out.2.2.1 ?_) | (refine wpList_store_row rfl 74 (.tmp 2) (.tmp 29) rfl (w.heap.size + 1) U rfl rfl 74 old X.out.2.1 X.out.2.2.1 X.out.2.2.2.1 X.out.2.2.2.2.1 ?_))
      exact bodyPost_ret (v := .agg U) (results_cell_row rfl _ _ (w.heap.size + 1) 74 U (0, 0) _ rfl X.out.2.2.2.2.2 Try.underlying74 rfl X.out.2.2.1) rfl ⟨rfl, BE.out⟩
def cmJ (ra rb : Rl) (i j : Nat) : Nat → Bool := fun k => (List.range j).any (fun u => ra i u && rb u k)
def cpS (ra rb : Rl) (i j : Nat) : Nat → Nat := fun a => if a < i then msk (cmpF ra rb a) 27 else if a = i then msk (cmJ ra rb i j) 27 else 0
theorem cmJ_succ (ra rb : Rl) (i j k : Nat) : cmJ ra rb i (j + 1) k = (cmJ ra rb i j k || (ra i j && rb j k)) := by
  unfold cmJ
  rw [List.range_succ, List.any_append]
  simp
theorem cmJ_zero (ra rb : Rl) (i : Nat) : msk (cmJ ra rb i 0) 27 = 0 := by
  rw [← msk_zero 27]; exact msk_congr (fun _ _ => rfl)
theorem cpS_zero (ra rb : Rl) : av 27 (fun _ => 0) = av 27 (cpS ra rb 0 0) := av_congr (fun a _ => by
  unfold cpS
  rw [if_neg (Nat.not_lt_zero _)]
  by_cases e : a = 0
  · rw [if_pos e, cmJ_zero]
  · rw [if_neg e])
theorem cpS_at (ra rb : Rl) (i j : Nat) : cpS ra rb i j i = msk (cmJ ra rb i j) 27 := by unfold cpS; rw [if_neg (Nat.lt_irrefl _), if_pos rfl]
theorem cpS_no {ra rb : Rl} {i j : Nat} (h : ra i j = false) : av 27 (cpS ra rb i j) = av 27 (cpS ra rb i (j + 1)) := by
  apply av_congr
  intro a _
  unfold cpS
  rw [msk_congr (f := cmJ ra rb i (j + 1)) (g := cmJ ra rb i j) (fun k _ => by rw [cmJ_succ, h, Bool.false_and, Bool.or_false])]
theorem cpS_yes {ra rb : Rl} {i j : Nat} (h : ra i j = true) : av 27 (upd (cpS ra rb i j) i (msk (cmJ ra rb i j) 27 ||| msk (rb j) 27)) = av 27 (cpS ra rb i (j + 1)) := by
  apply av_congr
  intro a _
  by_cases e : a = i
  · subst e
    rw [upd_at, cpS_at, msk_or]
    exact msk_congr (fun k _ => by rw [cmJ_succ, h, Bool.true_and])
  · rw [upd_ne e]
    unfold cpS
    rw [if_neg e, if_neg e]
theorem cpS_next (ra rb : Rl) (i : Nat) : av 27 (cpS ra rb i 27) = av 27 (cpS ra rb (i + 1) 0) := by
  apply av_congr
  intro a _
  unfold cpS
  by_cases h1 : a < i
  · rw [if_pos h1, if_pos (by omega)]
  · by_cases h2 : a = i
    · subst h2; rw [if_neg h1, if_pos rfl, if_pos (Nat.lt_succ_self _)]; rfl
    · rw [if_neg h1, if_neg h2, if_neg (by omega)]
      by_cases h3 : a = i + 1
      · rw [if_pos h3, cmJ_zero]
      · rw [if_neg h3]
theorem cpS_all (ra rb : Rl) : av 27 (cpS ra rb 27 0) = rowV (cmpF ra rb) := by
  rw [rowV_av]
  apply av_congr
  intro a ha
  unfold cpS
  rw [if_pos ha]
set_option maxRecDepth 100000 in
set_option maxHeartbeats 16000000 in
theorem l6Compose_any (ra rb : Rl) (w : World) : Calls Try.prog 104 #[.agg (rowV ra), .agg (rowV rb)] w fun e w' => (e = .returned (.agg (rowV (cmpF ra rb))) ∧ Below w.heap.size w w') := by
  have RA := Lib.hid (fun i (hi : i < 27) => rowV_get ra hi)
  have RB := Lib.hid (fun i (hi : i < 27) => rowV_get rb hi)
  have IN := Lib.hid (fun (i j : Nat) (hj : j < 27) w => by have := l4In_any (msk (ra i) 27) j (msk_lt (ra i) 27) hj w; rw [msk_bit (ra i) hj] at this; exact this)
  obtain ⟨V1, hV1⟩ : ∃ V, rowV ra = V := ⟨_, rfl⟩
  obtain ⟨V2, hV2⟩ : ∃ V, rowV rb = V := ⟨_, rfl⟩
  rw [hV1] at RA ⊢
  rw [hV2] at RB ⊢
  obtain ⟨U, hU⟩ : ∃ V, rowV (cmpF ra rb) = V := ⟨_, rfl⟩
  have HU : Hid (av 27 (cpS ra rb 27 0) = U) := (cpS_all ra rb).trans hU
  rw [hU]
  clear hV1 hV2 hU
  have kb0 : Blk ((((w.alloc (.cells V1 74)).alloc (.cells V2 74)).alloc (.cells #[.int .i64 0, .int .i64 0, .int .i64 0, .int .i64 0, .int .i64 0, .int .i64 0, .int .i64 0, .int .i64 0, .int .i64 0, .int .i64 0, .int .i64 0, .int .i64 0, .int .i64 0, .int .i64 0, .int .i64 0, .int .i64 0, .int .i64 0, .int .i64 0, .int .i64 0, .int .i64 0, .int .i64 0, .int .i64 0, .int .i64 0, .int .i64 0, .int .i64 0, .int .i64 0, .int .i64 0] 74)).alloc (.cells #[.int .i64 0, .int .i64 0, .int .i64 0, .int .i64 0, .int .i64 0, .int .i64 0, .int .i64 0, .int .i64 0, .int .i64 0, .int .i64 0, .int .i64 0, .int .i64 0, .int .i64 0, .int .i64 0, .int .i64 0, .int .i64 0, .int .i64 0, .int .i64 0, .int .i64 0, .int .i64 0, .int .i64 0, .int .i64 0, .int .i64 0, .int .i64 0, .int .i64 0, .int .i64 0, .int .i64 0] 74)) (w.heap.size) 74 V1 := by
    have h0 := Blk.new w 74 V1
    have hz : w.heap.size = w.heap.size := by simp
    rw [hz] at h0
    exact (((h0.alloc _).alloc _).alloc _)
  have kb1 : Blk ((((w.alloc (.cells V1 74)).alloc (.cells V2 74)).alloc (.cells #[.int .i64 0, .int .i64 0, .int .i64 0, .int .i64 0, .int .i64 0, .int .i64 0, .int .i64 0, .int .i64 0, .int .i64 0, .int .i64 0, .int .i64 0, .int .i64 0, .int .i64 0, .int .i64 0, .int .i64 0, .int .i64 0, .int .i64 0, .int .i64 0, .int .i64 0, .int .i64 0, .int .i64 0, .int .i64 0, .int .i64 0, .int .i64 0, .int .i64 0, .int .i64 0, .int .i64 0] 74)).alloc (.cells #[.int .i64 0, .int .i64 0, .int .i64 0, .int .i64 0, .int .i64 0, .int .i64 0, .int .i64 0, .int .i64 0, .int .i64 0, .int .i64 0, .int .i64 0, .int .i64 0, .int .i64 0, .int .i64 0, .int .i64 0, .int .i64 0, .int .i64 0, .int .i64 0, .int .i64 0, .int .i64 0, .int .i64 0, .int .i64 0, .int .i64 0, .int .i64 0, .int .i64 0, .int .i64 0, .int .i64 0] 74)) (w.heap.size + 1) 74 V2 := by
    have h0 := Blk.new (w.alloc (.cells V1 74)) 74 V2
    have hz : (w.alloc (.cells V1 74)).heap.size = w.heap.size + 1 := by simp
    rw [hz] at h0
    exact ((h0.alloc _).alloc _)
  have kr : Blk ((((w.alloc (.cells V1 74)).alloc (.cells V2 74)).alloc (.cells #[.int .i64 0, .int .i64 0, .int .i64 0, .int .i64 0, .int .i64 0, .int .i64 0, .int .i64 0, .int .i64 0, .int .i64 0, .int .i64 0, .int .i64 0, .int .i64 0, .int .i64 0, .int .i64 0, .int .i64 0, .int .i64 0, .int .i64 0, .int .i64 0, .int .i64 0, .int .i64 0, .int .i64 0, .int .i64 0, .int .i64 0, .int .i64 0, .int .i64 0, .int .i64 0, .int .i64 0] 74)).alloc (.cells #[.int .i64 0, .int .i64 0, .int .i64 0, .int .i64 0, .int .i64 0, .int .i64 0, .int .i64 0, .int .i64 0, .int .i64 0, .int .i64 0, .int .i64 0, .int .i64 0, .int .i64 0, .int .i64 0, .int .i64 0, .int .i64 0, .int .i64 0, .int .i64 0, .int .i64 0, .int .i64 0, .int .i64 0, .int .i64 0, .int .i64 0, .int .i64 0, .int .i64 0, .int .i64 0, .int .i64 0] 74)) (w.heap.size + 2) 74 #[.int .i64 0, .int .i64 0, .int .i64 0, .int .i64 0, .int .i64 0, .int .i64 0, .int .i64 0, .int .i64 0, .int .i64 0, .int .i64 0, .int .i64 0, .int .i64 0, .int .i64 0, .int .i64 0, .int .i64 0, .int .i64 0, .int .i64 0, .int .i64 0, .int .i64 0, .int .i64 0, .int .i64 0, .int .i64 0, .int .i64 0, .int .i64 0, .int .i64 0, .int .i64 0, .int .i64 0] := by
    have h0 := Blk.new ((w.alloc (.cells V1 74)).alloc (.cells V2 74)) 74 #[.int .i64 0, .int .i64 0, .int .i64 0, .int .i64 0, .int .i64 0, .int .i64 0, .int .i64 0, .int .i64 0, .int .i64 0, .int .i64 0, .int .i64 0, .int .i64 0, .int .i64 0, .int .i64 0, .int .i64 0, .int .i64 0, .int .i64 0, .int .i64 0, .int .i64 0, .int .i64 0, .int .i64 0, .int .i64 0, .int .i64 0, .int .i64 0, .int .i64 0, .int .i64 0, .int .i64 0]
    have hz : ((w.alloc (.cells V1 74)).alloc (.cells V2 74)).heap.size = w.heap.size + 2 := by simp
    rw [hz] at h0
    exact h0.alloc _
  have kz : Blk ((((w.alloc (.cells V1 74)).alloc (.cells V2 74)).alloc (.cells #[.int .i64 0, .int .i64 0, .int .i64 0, .int .i64 0, .int .i64 0, .int .i64 0, .int .i64 0, .int .i64 0, .int .i64 0, .int .i64 0, .int .i64 0, .int .i64 0, .int .i64 0, .int .i64 0, .int .i64 0, .int .i64 0, .int .i64 0, .int .i64 0, .int .i64 0, .int .i64 0, .int .i64 0, .int .i64 0, .int .i64 0, .int .i64 0, .int .i64 0, .int .i64 0, .int .i64 0] 74)).alloc (.cells #[.int .i64 0, .int .i64 0, .int .i64 0, .int .i64 0, .int .i64 0, .int .i64 0, .int .i64 0, .int .i64 0, .int .i64 0, .int .i64 0, .int .i64 0, .int .i64 0, .int .i64 0, .int .i64 0, .int .i64 0, .int .i64 0, .int .i64 0, .int .i64 0, .int .i64 0, .int .i64 0, .int .i64 0, .int .i64 0, .int .i64 0, .int .i64 0, .int .i64 0, .int .i64 0, .int .i64 0] 74)) (w.heap.size + 3) 74 #[.int .i64 0, .int .i64 0, .int .i64 0, .int .i64 0, .int .i64 0, .int .i64 0, .int .i64 0, .int .i64 0, .int .i64 0, .int .i64 0, .int .i64 0, .int .i64 0, .int .i64 0, .int .i64 0, .int .i64 0, .int .i64 0, .int .i64 0, .int .i64 0, .int .i64 0, .int .i64 0, .int .i64 0, .int .i64 0, .int .i64 0, .int .i64 0, .int .i64 0, .int .i64 0, .int .i64 0] := by
    have h0 := Blk.new (((w.alloc (.cells V1 74)).alloc (.cells V2 74)).alloc (.cells #[.int .i64 0, .int .i64 0, .int .i64 0, .int .i64 0, .int .i64 0, .int .i64 0, .int .i64 0, .int .i64 0, .int .i64 0, .int .i64 0, .int .i64 0, .int .i64 0, .int .i64 0, .int .i64 0, .int .i64 0, .int .i64 0, .int .i64 0, .int .i64 0, .int .i64 0, .int .i64 0, .int .i64 0, .int .i64 0, .int .i64 0, .int .i64 0, .int .i64 0, .int .i64 0, .int .i64 0] 74)) 74 #[.int .i64 0, .int .i64 0, .int .i64 0, .int .i64 0, .int .i64 0, .int .i64 0, .int .i64 0, .int .i64 0, .int .i64 0, .int .i64 0, .int .i64 0, .int .i64 0, .int .i64 0, .int .i64 0, .int .i64 0, .int .i64 0, .int .i64 0, .int .i64 0, .int .i64 0, .int .i64 0, .int .i64 0, .int .i64 0, .int .i64 0, .int .i64 0, .int .i64 0, .int .i64 0, .int .i64 0]
    have hz : (((w.alloc (.cells V1 74)).alloc (.cells V2 74)).alloc (.cells #[.int .i64 0, .int .i64 0, .int .i64 0, .int .i64 0, .int .i64 0, .int .i64 0, .int .i64 0, .int .i64 0, .int .i64 0, .int .i64 0, .int .i64 0, .int .i64 0, .int .i64 0, .int .i64 0, .int .i64 0, .int .i64 0, .int .i64 0, .int .i64 0, .int .i64 0, .int .i64 0, .int .i64 0, .int .i64 0, .int .i64 0, .int .i64 0, .int .i64 0, .int .i64 0, .int .i64 0] 74)).heap.size = w.heap.size + 3 := by simp
    rw [hz] at h0
    exact h0
  have KB0 := Lib.hid kb0
  have KB1 := Lib.hid kb1
  have KR : Hid (Held ((((w.alloc (.cells V1 74)).alloc (.cells V2 74)).alloc (.cells #[.int .i64 0, .int .i64 0, .int .i64 0, .int .i64 0, .int .i64 0, .int .i64 0, .int .i64 0, .int .i64 0, .int .i64 0, .int .i64 0, .int .i64 0, .int .i64 0, .int .i64 0, .int .i64 0, .int .i64 0, .int .i64 0, .int .i64 0, .int .i64 0, .int .i64 0, .int .i64 0, .int .i64 0, .int .i64 0, .int .i64 0, .int .i64 0, .int .i64 0, .int .i64 0, .int .i64 0] 74)).alloc (.cells #[.int .i64 0, .int .i64 0, .int .i64 0, .int .i64 0, .int .i64 0, .int .i64 0, .int .i64 0, .int .i64 0, .int .i64 0, .int .i64 0, .int .i64 0, .int .i64 0, .int .i64 0, .int .i64 0, .int .i64 0, .int .i64 0, .int .i64 0, .int .i64 0, .int .i64 0, .int .i64 0, .int .i64 0, .int .i64 0, .int .i64 0, .int .i64 0, .int .i64 0, .int .i64 0, .int .i64 0] 74)) (w.heap.size + 2)) := ⟨_, rfl, kr⟩
  have KZ := Lib.hid kz
  have KL : Hid (Blk ((((w.alloc (.cells V1 74)).alloc (.cells V2 74)).alloc (.cells #[.int .i64 0, .int .i64 0, .int .i64 0, .int .i64 0, .int .i64 0, .int .i64 0, .int .i64 0, .int .i64 0, .int .i64 0, .int .i64 0, .int .i64 0, .int .i64 0, .int .i64 0, .int .i64 0, .int .i64 0, .int .i64 0, .int .i64 0, .int .i64 0, .int .i64 0, .int .i64 0, .int .i64 0, .int .i64 0, .int .i64 0, .int .i64 0, .int .i64 0, .int .i64 0, .int .i64 0] 74)).alloc (.cells #[.int .i64 0, .int .i64 0, .int .i64 0, .int .i64 0, .int .i64 0, .int .i64 0, .int .i64 0, .int .i64 0, .int .i64 0, .int .i64 0, .int .i64 0, .int .i64 0, .int .i64 0, .int .i64 0, .int .i64 0, .int .i64 0, .int .i64 0, .int .i64 0, .int .i64 0, .int .i64 0, .int .i64 0, .int .i64 0, .int .i64 0, .int .i64 0, .int .i64 0, .int .i64 0, .int .i64 0] 74)) (w.heap.size + 3) 74 (av 27 (fun _ => 0))) := by rw [← av_zero]; exact kz
  have HW := Lib.hid (setRow_self ((((w.alloc (.cells V1 74)).alloc (.cells V2 74)).alloc (.cells #[.int .i64 0, .int .i64 0, .int .i64 0, .int .i64 0, .int .i64 0, .int .i64 0, .int .i64 0, .int .i64 0, .int .i64 0, .int .i64 0, .int .i64 0, .int .i64 0, .int .i64 0, .int .i64 0, .int .i64 0, .int .i64 0, .int .i64 0, .int .i64 0, .int .i64 0, .int .i64 0, .int .i64 0, .int .i64 0, .int .i64 0, .int .i64 0, .int .i64 0, .int .i64 0, .int .i64 0] 74)).alloc (.cells #[.int .i64 0, .int .i64 0, .int .i64 0, .int .i64 0, .int .i64 0, .int .i64 0, .int .i64 0, .int .i64 0, .int .i64 0, .int .i64 0, .int .i64 0, .int .i64 0, .int .i64 0, .int .i64 0, .int .i64 0, .int .i64 0, .int .i64 0, .int .i64 0, .int .i64 0, .int .i64 0, .int .i64 0, .int .i64 0, .int .i64 0, .int .i64 0, .int .i64 0, .int .i64 0, .int .i64 0] 74)) (w.heap.size + 3) #[.int .i64 0, .int .i64 0, .int .i64 0, .int .i64 0, .int .i64 0, .int .i64 0, .int .i64 0, .int .i64 0, .int .i64 0, .int .i64 0, .int .i64 0, .int .i64 0, .int .i64 0, .int .i64 0, .int .i64 0, .int .i64 0, .int .i64 0, .int .i64 0, .int .i64 0, .int .i64 0, .int .i64 0, .int .i64 0, .int .i64 0, .int .i64 0, .int .i64 0, .int .i64 0, .int .i64 0] 74 (0, 0) kz)
  have B0 : Hid (Below w.heap.size w ((((w.alloc (.cells V1 74)).alloc (.cells V2 74)).alloc (.cells #[.int .i64 0, .int .i64 0, .int .i64 0, .int .i64 0, .int .i64 0, .int .i64 0, .int .i64 0, .int .i64 0, .int .i64 0, .int .i64 0, .int .i64 0, .int .i64 0, .int .i64 0, .int .i64 0, .int .i64 0, .int .i64 0, .int .i64 0, .int .i64 0, .int .i64 0, .int .i64 0, .int .i64 0, .int .i64 0, .int .i64 0, .int .i64 0, .int .i64 0, .int .i64 0, .int .i64 0] 74)).alloc (.cells #[.int .i64 0, .int .i64 0, .int .i64 0, .int .i64 0, .int .i64 0, .int .i64 0, .int .i64 0, .int .i64 0, .int .i64 0, .int .i64 0, .int .i64 0, .int .i64 0, .int .i64 0, .int .i64 0, .int .i64 0, .int .i64 0, .int .i64 0, .int .i64 0, .int .i64 0, .int .i64 0, .int .i64 0, .int .i64 0, .int .i64 0, .int .i64 0, .int .i64 0, .int .i64 0, .int .i64 0] 74))) := ((((Below.refl w.heap.size w).alloc (by first | exact Nat.le_refl _ | (simp; done) | (simp; omega)) (.cells V1 74)).alloc (by first | exact Nat.le_refl _ | (simp; done) | (simp; omega)) (.cells V2 74)).alloc (by first | exact Nat.le_refl _ | (simp; done) | (simp; omega)) (.cells #[.int .i64 0, .int .i64 0, .int .i64 0, .int .i64 0, .int .i64 0, .int .i64 0, .int .i64 0, .int .i64 0, .int .i64 0, .int .i64 0, .int .i64 0, .int .i64 0, .int .i64 0, .int .i64 0, .int .i64 0, .int .i64 0, .int .i64 0, .int .i64 0, .int .i64 0, .int .i64 0, .int .i64 0, .int .i64 0, .int .i64 0, .int .i64 0, .int .i64 0, .int .i64 0, .int .i64 0] 74)).alloc (by first | exact Nat.le_refl _ | (simp; done) | (simp; omega)) (.cells #[.int .i64 0, .int .i64 0, .int .i64 0, .int .i64 0, .int .i64 0, .int .i64 0, .int .i64 0, .int .i64 0, .int .i64 0, .int .i64 0, .int .i64 0, .int .i64 0, .int .i64 0, .int .i64 0, .int .i64 0, .int .i64 0, .int .i64 0, .int .i64 0, .int .i64 0, .int .i64 0, .int .i64 0, .int .i64 0, .int .i64 0, .int .i64 0, .int .i64 0, .int .i64 0, .int .i64 0] 74)
  clear kz kr kb0 kb1
  go_enter Try.func104, Try.ntmps104
  go_wp2_with (refine wpList_store_row rfl 74 (.tmp 5) (.tmp 8) rfl (w.heap.size + 3) #[.int .i64 0, .int .i64 0, .int .i64 0, .int .i64 0, .int .i64 0, .int .i64 0, .int .i64 0, .int .i64 0, .int .i64 0, .int .i64 0, .int .i64 0, .int .i64 0, .int .i64 0, .int .i64 0, .int .i64 0, .int .i64 0, .int .i64 0, .int .i64 0, .int .i64 0, .int .i64 0, .int .i64 0, .int .i64 0, .int .i64 0, .int .i64 0, .int .i64 0, .int .i64 0, .int .i64 0] rfl rfl 74 #[.int .i64 0, .int .i64 0, .int .i64 0, .int .i64 0, .int .i64 0, .int .i64 0, .int .i64 0, .int .i64 0, .int .i64 0, .int .i64 0, .int .i64 0, .int .i64 0, .int .i64 0, .int .i64 0, .int .i64 0, .int .i64 0, .int .i64 0, .int .i64 0, .int .i64 0, .int .i64 0, .int .i64 0, .int .i64 0, .int .i64 0, .int .i64 0, .int .i64 0, .int .i64 0, .int .i64 0] KZ.out rel_size rfl z_one ?_)
  try rw [HW.out]
  clear HW KZ
  have KL0 : Hid (Blk ((((w.alloc (.cells V1 74)).alloc (.cells V2 74)).alloc (.cells #[.int .i64 0, .int .i64 0, .int .i64 0, .int .i64 0, .int .i64 0, .int .i64 0, .int .i64 0, .int .i64 0, .int .i64 0, .int .i64 0, .int .i64 0, .int .i64 0, .int .i64 0, .int .i64 0, .int .i64 0, .int .i64 0, .int .i64 0, .int .i64 0, .int .i64 0, .int .i64 0, .int .i64 0, .int .i64 0, .int .i64 0, .int .i64 0, .int .i64 0, .int .i64 0, .int .i64 0] 74)).alloc (.cells #[.int .i64 0, .int .i64 0, .int .i64 0, .int .i64 0, .int .i64 0, .int .i64 0, .int .i64 0, .int .i64 0, .int .i64 0, .int .i64 0, .int .i64 0, .int .i64 0, .int .i64 0, .int .i64 0, .int .i64 0, .int .i64 0, .int .i64 0, .int .i64 0, .int .i64 0, .int .i64 0, .int .i64 0, .int .i64 0, .int .i64 0, .int .i64 0, .int .i64 0, .int .i64 0, .int .i64 0] 74)) (w.heap.size + 3) 74 (av 27 (cpS ra rb 0 0))) := by rw [← cpS_zero ra rb]; exact KL
  clear KL
  go_loopg [6] 27 (fun gk sv wr => ∃ a : Nat, a + gk = 27 ∧ sv = .int .i64 a ∧ Hid (Held wr (w.heap.size + 2)) ∧ Hid (Blk wr (w.heap.size + 3) 74 (av 27 (cpS ra rb a 0))) ∧ Hid (Blk wr (w.heap.size) 74 V1) ∧ Hid (Blk wr (w.heap.size + 1) 74 V2) ∧ Hid (Below w.heap.size w wr))
  case atStart => exact ⟨0, rfl, rfl, KR, KL0, KB0, KB1, B0⟩
  case round =>
    clear KR KL0 KB0 KB1 B0
    obtain ⟨a, ha, rfl, KR, KL, KB0, KB1, B⟩ := hrel
    obtain ⟨go, hgo⟩ : ∃ n, n = gk := ⟨_, rfl⟩
    rw [← hgo] at ha
    by_cases hla : a < 27
    · have hda : decide ((a : Int) < 27) = true := by simp; omega
      go_wp2_with fail
      try rw [hda]
      clear hda
      go_loopg [7] 27 (fun gk sv wr => ∃ b : Nat, b + gk = 27 ∧ sv = .int .i64 b ∧ Hid (Held wr (w.heap.size + 2)) ∧ Hid (Blk wr (w.heap.size + 3) 74 (av 27 (cpS ra rb a b))) ∧ Hid (Blk wr (w.heap.size) 74 V1) ∧ Hid (Blk wr (w.heap.size + 1) 74 V2) ∧ Hid (Below w.heap.size w wr))
      case atStart => exact ⟨0, rfl, rfl, KR, KL, KB0, KB1, B⟩
      case round =>
        clear KR KL KB0 KB1 B
        obtain ⟨b, hb, rfl, KR, KL, KB0, KB1, B⟩ := hrel
        by_cases hlb : b < 27
        · have hcv := (KB0.out.cell a).trans (RA.out a hla)
          have IX := Lib.hid (fun w => IN.out a b hlb w)
          have hxa : (a : Int) < 27 := by omega
          have hxb : (b : Int) < 27 := by omega
          cases hr : ra a b
          · rw [hr] at IX
            have K5 : Hid (Blk wr (w.heap.size + 3) 74 (av 27 (cpS ra rb a (b + 1)))) := by rw [← cpS_no hr]; exact KL
            clear KL hr
            go_wp2_with fail
            refine (IX.out _).mono ?_
            rintro e w' ⟨rfl, rfl⟩
            go_wp2_with fail
            go_roundg (gk - 1)
            case measure => omega
            case rel => exact ⟨b + 1, by omega, by go_num, KR, K5, KB0, KB1, B⟩
          · rw [hr] at IX
            have hor := or_int (msk (cmJ ra rb a b) 27) (msk (rb b) 27) (msk_lt _ _) (msk_lt _ _)
            have hcw := (KB1.out.cell b).trans (RB.out b hlb)
            have hc := (KL.out.cell a).trans (av_get _ hla)
            rw [cpS_at] at hc
            have hf := KL.out.frozen a
            have hc' : wr.drew.cell? ⟨w.heap.size + 3, a, none⟩ = some (.int .i64 ((msk (cmJ ra rb a b) 27 : Nat) : Int)) := hc
            have hf' : wr.drew.frozen? ⟨w.heap.size + 3, a, none⟩ = false := hf
            have k5 := KL.out.drew.set_ a (.int .i64 (bits BinOp.or IntKind.i64 ((msk (cmJ ra rb a b) 27 : Nat) : Int) ((msk (rb b) 27 : Nat) : Int)))
            rw [hor, av_set, cpS_yes hr, ← hor] at k5
            have K5 := Lib.hid k5
            have KRd : Held wr.drew (w.heap.size + 2) := KR.out.below (below_drew _ _) KR.out.lt
            have R5 := Lib.hid (KRd.far (p := ⟨w.heap.size + 3, a, none⟩) (by simp) (.int .i64 (bits BinOp.or IntKind.i64 ((msk (cmJ ra rb a b) 27 : Nat) : Int) ((msk (rb b) 27 : Nat) : Int))))
            have P5 := Lib.hid (KB0.out.drew.far (p := ⟨w.heap.size + 3, a, none⟩) (by simp) (.int .i64 (bits BinOp.or IntKind.i64 ((msk (cmJ ra rb a b) 27 : Nat) : Int) ((msk (rb b) 27 : Nat) : Int))))
            have Q5 := Lib.hid (KB1.out.drew.far (p := ⟨w.heap.size + 3, a, none⟩) (by simp) (.int .i64 (bits BinOp.or IntKind.i64 ((msk (cmJ ra rb a b) 27 : Nat) : Int) ((msk (rb b) 27 : Nat) : Int))))
            have B5 := Lib.hid ((B.out.trans (below_drew _ _)).setCell (p := ⟨w.heap.size + 3, a, none⟩) (by simp) (.int .i64 (bits BinOp.or IntKind.i64 ((msk (cmJ ra rb a b) 27 : Nat) : Int) ((msk (rb b) 27 : Nat) : Int))))
            clear k5 KR KL KB0 KB1 B hr hor KRd
            go_wp2_with fail
            refine (IX.out _).mono ?_
            rintro e w' ⟨rfl, rfl⟩
            go_wp2_with fail
            go_still_tail 9, (by kernel_rfl)
            all_goals go_wp2_with fail
            all_goals go_roundg (gk - 1)
            case measure => omega
            case rel => exact ⟨b + 1, by omega, by go_num, R5, K5, P5, Q5, B5⟩
        · obtain rfl : b = 27 := by omega
          have K5 : Hid (Blk wr (w.heap.size + 3) 74 (av 27 (cpS ra rb (a + 1) 0))) := by rw [← cpS_next ra rb a]; exact KL
          clear KL
          go_wp2_with fail
          go_roundg (go - 1)
          case measure => omega
          case rel => exact ⟨a + 1, by omega, by go_num, KR, K5, KB0, KB1, B⟩
    · obtain rfl : a = 27 := by omega
      clear hla hgo IN RA RB
      have k3 := KL.out
      rw [HU.out] at k3
      have hz : U.size = 27 := by rw [← HU.out]; exact av_size _ _
      have h1 : U.all (·.oneCell') = true := by rw [← HU.out]; exact av_one _ _
      have hi : (Try.prog.info? 74).map (·.size) = some U.size := by rw [hz]; exact rel_size
      obtain ⟨old, hoz, k2⟩ := KR.out
      have kE := setRow_heap wr (w.heap.size + 2) _ U 74 (0, 0) k2
      have BE : Hid (Below w.heap.size w (wr.setRow (w.heap.size + 2) U)) := B.out.trans (show Below w.heap.size wr (wr.setRow (w.heap.size + 2) U) from ⟨rfl, rfl, rfl, by simp, fun g hg => setRow_other wr (w.heap.size + 2) g U (by omega)⟩)
      have X := Lib.hid (And.intro k3 (And.intro k2 (And.intro hi (And.intro (hoz.trans hz.symm) (And.intro h1 kE)))))
      clear k3 KL KR k2 hoz kE hz h1 hi KB0 KB1
      go_wp2_with (first | (refine wpList_load_row rfl 74 (.tmp 5) rfl (w.heap.size + 3) rfl 74 U (0, 0) _ X.out.1 Try.underlying74 rfl X.out.2.2.1 ?_) | (refine wpList_store_row rfl 74 (.tmp 4) (.tmp 31) rfl (w.heap.size + 2) U rfl rfl 74 old X.out.2.1 X.out.2.2.1 X.out.2.2.2.1 X.out.2.2.2.2.1 ?_))
      exact bodyPost_ret (v := .agg U) (results_cell_row rfl _ _ (w.heap.size + 2) 74 U (0, 0) _ rfl X.out.2.2.2.2.2 Try.underlying74 rfl X.out.2.2.1) rfl ⟨rfl, BE.out⟩

end Go.Proofs.Ythdgheglmkhcbaa
