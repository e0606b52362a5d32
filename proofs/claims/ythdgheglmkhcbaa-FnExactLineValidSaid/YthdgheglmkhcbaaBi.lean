/- States with a number; texts of bitsN; the set of a test: the program's and the reference's. -/
import Derived.Test.YthdgheglmkhcbaaGa
import Derived.Test.YthdgheglmkhcbaaGb
import Derived.Test.YthdgheglmkhcbaaGe
import Derived.Deep.OwnRows
namespace Go.Proofs.Ythdgheglmkhcbaa
open Go.RowKit
open Pl

theorem u8_info : (Try.prog.info? 5).map (fun i => (i.zero, i.size, i.bytes)) = some (some (.int .u8 0), 1, 1) := by kernel_rfl
theorem byteRow_made (w : World) (n : Nat) : ByteRow (w.alloc (.cells (madeCells #[.int .u8 0] n) 5)) w.heap.size (List.replicate n 0) := by
  have hB := Blk.new w 5 (madeCells #[.int .u8 0] n)
  refine ⟨hB.lt, fun i hi => ?_, fun i _ => hB.frozen i⟩
  have hi' : i < n := by simpa using hi
  rw [hB.cell i]
  simp [madeCells, hi', Nat.mod_one]
theorem ByteRow.any {w : World} {g i : Nat} {l : List UInt8} (h : ByteRow w g l) (hi : i < l.length) : (∃ c : UInt8, w.cell? ⟨g, i, none⟩ = some (.int .u8 (c.toNat : Int))) ∧ w.frozen? ⟨g, i, none⟩ = false := ⟨⟨_, h.cell i hi⟩, h.free i hi⟩
theorem bit_yes : ((bitC true).toNat : Int) = 49 := rfl
theorem bit_no : ((bitC false).toNat : Int) = 48 := rfl
/-- one round of a row that is filled from the left -/
theorem row_step {w : World} {g k n : Nat} {bt : Nat → Bool} (h : ByteRow w g (fillN (bitsN n bt) k)) (hk : k < n) : ByteRow (w.setCell ⟨g, k, none⟩ (.int .u8 ((bitC (bt k)).toNat : Int))) g (fillN (bitsN n bt) (k + 1)) := by
  have hl : k < (bitsN n bt).length := by rw [bits_len]; exact hk
  have h2 := h.put (i := k) (by rw [part_len _ _ (by omega)]; exact hl) (bitsN n bt)[k]
  rw [part_put hl, bits_get hl] at h2
  exact h2
theorem row_step1 {w : World} {g k n : Nat} {bt : Nat → Bool} (h : ByteRow w g (fillN (bitsN n bt) k)) (hk : k < n) (c : UInt8) : ByteRow (w.setCell ⟨g, k, none⟩ (.int .u8 (c.toNat : Int))) g ((fillN (bitsN n bt) k).set k c) :=
  h.put (i := k) (by rw [part_len _ _ (by rw [bits_len]; omega), bits_len]; exact hk) c
theorem row_step2 {w : World} {g k n : Nat} {bt : Nat → Bool} {c : UInt8} (h : ByteRow w g ((fillN (bitsN n bt) k).set k c)) (hk : k < n) : ByteRow (w.setCell ⟨g, k, none⟩ (.int .u8 ((bitC (bt k)).toNat : Int))) g (fillN (bitsN n bt) (k + 1)) := by
  have hl : k < (bitsN n bt).length := by rw [bits_len]; exact hk
  have h2 := h.put (i := k) (by rw [List.length_set, part_len _ _ (by omega)]; exact hl) (bitsN n bt)[k]
  rw [part_put2 hl, bits_get hl] at h2
  exact h2
theorem row_step0 {w : World} {g k n : Nat} {bt : Nat → Bool} {c : UInt8} (h : ByteRow w g ((fillN (bitsN n bt) k).set k c)) (hk : k < n) (hc : c = bitC (bt k)) : ByteRow w g (fillN (bitsN n bt) (k + 1)) := by
  have hl : k < (bitsN n bt).length := by rw [bits_len]; exact hk
  have e : (fillN (bitsN n bt) k).set k c = fillN (bitsN n bt) (k + 1) := by rw [hc, ← bits_get hl, part_put hl]
  rw [← e]; exact h
set_option maxHeartbeats 1000000 in
theorem stateAt_any (i : Nat) (hi : i < 27) (w : World) : Calls Try.prog 77 #[.int .i64 (i : Int)] w fun e w' => (e = .returned (.agg #[.int .i64 (stX i), .int .i64 (stY i), .int .i64 (stZ i)]) ∧ Below w.heap.size w w') := by
  go_enter Try.func77, Try.ntmps77
  go_wp2_with fail
  exact bodyPost_ret (v := .agg #[.int .i64 (stX i), .int .i64 (stY i), .int .i64 (stZ i)]) (by simp [results, Try.results77, go_sem]; exact ⟨rfl, rfl, rfl⟩) rfl
    ⟨rfl, by first | exact below_n w _ | exact ((below_n w _).setCell (Nat.le_refl _) _) | exact (((below_n w _).setCell (Nat.le_refl _) _).setCell (Nat.le_refl _) _).setCell (Nat.le_refl _) _⟩
set_option maxHeartbeats 1000000 in
theorem l2At_any (i : Nat) (hi : i < 27) (w : World) : Calls Try.prog 95 #[.int .i64 (i : Int)] w fun e w' => (e = .returned (.agg #[.int .i64 (stX i), .int .i64 (stY i), .int .i64 (stZ i)]) ∧ Below w.heap.size w w') := by
  go_enter Try.func95, Try.ntmps95
  go_wp2_with fail
  exact bodyPost_ret (v := .agg #[.int .i64 (stX i), .int .i64 (stY i), .int .i64 (stZ i)]) (by simp [results, Try.results95, go_sem]; exact ⟨rfl, rfl, rfl⟩) rfl
    ⟨rfl, by first | exact below_n w _ | exact ((below_n w _).setCell (Nat.le_refl _) _) | exact (((below_n w _).setCell (Nat.le_refl _) _).setCell (Nat.le_refl _) _).setCell (Nat.le_refl _) _⟩
set_option maxHeartbeats 1000000 in
theorem l2Bit_any (b : Bool) (w : World) : Calls Try.prog 142 #[.bool b] w fun e w' => e = .returned (.int .u8 ((bitC b).toNat : Int)) ∧ w = w' := by
  cases b
  all_goals
    go_enter Try.func142, Try.ntmps142
    go_wp2_with fail
    go_ret
    exact ⟨rfl, rfl⟩
set_option maxRecDepth 100000 in
set_option maxHeartbeats 4000000 in
theorem l2Of_any (S : ByteArray) (hS : S.size ≤ 1000) (k : Nd) (hk : ok false 1 k = true) (ht : S.data.toList = k.text) (w : World) :
    Calls Try.prog 177 #[.string S] w fun e w' => (e = .returned (.string (bs (predOf k))) ∧ Below w.heap.size w w') := by
  have s0 : small 0 := ⟨by omega, by omega⟩
  have HO := Lib.hid (fun i (hi : i < 27) w => holdsS_any S (by omega) (stX i) (stY i) (stZ i) 0 0 0 (stX_small i) (stY_small i) (stZ_small hi) s0 s0 s0 false k 0 [] w hk (by rw [List.drop_zero, List.append_nil]; exact ht))
  have hmk := run_make_row' (P := Try.prog) 22 5 (.int .u8 0) 1 Try.underlying22 u8_info rfl .i64 .i64 27 (by omega) (by omega)
  simp only [Int.cast_ofNat_Int] at hmk
  show Calls Try.prog 177 #[.string S] w fun e w' => (e = .returned (.string (bs (bitsN 27 (fun i => tru (envOf (stX i) (stY i) (stZ i) 0 0 0) k)))) ∧ Below w.heap.size w w')
  obtain ⟨bt, hbt⟩ : ∃ bt : Nat → Bool, (fun i => tru (envOf (stX i) (stY i) (stZ i) 0 0 0) k) = bt := ⟨_, rfl⟩
  rw [hbt]
  have HBT := Lib.hid (fun i => congrFun hbt i)
  have R0 : Hid (ByteRow (w.alloc (.cells (madeCells #[.int .u8 0] 27) 5)) w.heap.size (fillN (bitsN 27 bt) 0)) := by rw [part_zero, bits_len]; exact byteRow_made w 27
  have B0 := Lib.hid (below_n w (.cells (madeCells #[.int .u8 0] 27) 5))
  clear hbt s0 ht hk
  go_enter Try.func177, Try.ntmps177
  go_wp2_with fail
  go_loopg [4] 27 (fun gk i wr => ∃ k : Nat, k + gk = 27 ∧ i = .int .i64 k ∧ Hid (ByteRow wr w.heap.size (fillN (bitsN 27 bt) k)) ∧ Hid (Below w.heap.size w wr))
  case atStart => exact ⟨0, rfl, rfl, R0, B0⟩
  case round =>
    clear R0 B0 hmk
    obtain ⟨j, hj, rfl, R, B⟩ := hrel
    by_cases hlt : j < 27
    · have AT := Lib.hid (fun w => l2At_any j hlt w)
      have ON := Lib.hid (fun w => one_any (stX j) (stY j) (stZ j) w)
      have HX := Lib.hid (fun w => HO.out j hlt w)
      have hbj : tru (envOf (stX j) (stY j) (stZ j) 0 0 0) k = bt j := HBT.out j
      rw [hbj] at HX
      have BI := Lib.hid (fun w => l2Bit_any (bt j) w)
      generalize (k.text.length : Int) = lk at *
      generalize hxx : stX j = x at *
      generalize hyy : stY j = y at *
      generalize hzz : stZ j = z at *
      clear hxx hyy hzz hbj
      go_wp2_with fail
      refine (AT.out _).mono ?_
      rintro e w1 ⟨rfl, hb1⟩
      have R1 := Lib.hid (R.out.call hb1)
      have B1 := Lib.hid (below_2 B.out hb1)
      clear hb1
      go_wp2_with fail
      refine (ON.out _).mono ?_
      rintro e w2 ⟨rfl, hb2⟩
      have R2 := Lib.hid (R1.out.call hb2)
      have B2 := Lib.hid (below_2 B1.out hb2)
      clear hb2
      go_wp2_with fail
      refine (HX.out _).mono ?_
      rintro e w3 ⟨rfl, hb3⟩
      have r3 := R2.out.call hb3
      have B3 := Lib.hid (below_2 B2.out hb3)
      have hkl : j < (fillN (bitsN 27 bt) j).length := by rw [part_len _ _ (by rw [bits_len]; omega), bits_len]; exact hlt
      obtain ⟨⟨cv, hc⟩, hf⟩ := r3.any (i := j) hkl
      have R4 := Lib.hid (row_step r3 hlt)
      have B4 := Lib.hid (B3.out.setCell (p := ⟨w.heap.size, j, none⟩) (Nat.le_refl _) (.int .u8 ((bitC (bt j)).toNat : Int)))
      clear hb3 r3 hkl R R1 R2 B B1 B2 B3
      go_wp2_with fail
      refine (BI.out _).mono ?_
      rintro e w' ⟨rfl, rfl⟩
      go_wp2_with fail
      go_roundg (gk - 1)
      case measure => omega
      case rel => exact ⟨j + 1, by omega, by go_num, R4, B4⟩
    · obtain rfl : j = 27 := by omega
      have r := R.out
      have hpa := part_all (bitsN 27 bt)
      rw [bits_len] at hpa
      rw [hpa] at r
      have hback := bytes_back r (n := 27) (by rw [bits_len]) 27
      clear r R hpa hlt
      go_wp2_with fail
      go_ret
      exact ⟨rfl, B.out⟩

end Go.Proofs.Ythdgheglmkhcbaa
