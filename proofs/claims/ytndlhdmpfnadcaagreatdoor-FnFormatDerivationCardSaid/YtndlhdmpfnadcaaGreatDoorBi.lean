/- States with a number; texts of bitsN; the set of a test: the program's and the reference's. -/
import Derived.Test.YtndlhdmpfnadcaaGreatDoorGa
import Derived.Test.YtndlhdmpfnadcaaGreatDoorGb
import Derived.Test.YtndlhdmpfnadcaaGreatDoorGe
import Derived.Deep.OwnRows
namespace Go.Proofs.YtndlhdmpfnadcaaGreatDoor
open Go.RowKit
open Pl

theorem u8_info : (Tryz.prog.info? 5).map (fun i => (i.zero, i.size, i.bytes)) = some (some (.int .u8 0), 1, 1) := by kernel_rfl
theorem byteRow_made (w : World) (n : Nat) : ByteRow (w.alloc (.cells (madeCells #[.int .u8 0] n) 5)) w.heap.size (List.replicate n 0) := by
  have hB := Blk.new w 5 (madeCells #[.int .u8 0] n)
  refine ⟨hB.lt, fun i hi => ?_, fun i _ => hB.frozen i⟩
  have hi' : i < n := by simpa using hi
  rw [hB.cell i]
  simp [madeCells, hi', Nat.mod_one]
theorem ByteRow.any {w : World} {g i : Nat} {l : List UInt8} (h : ByteRow w g l) (hi : i < l.length) : (∃ c : UInt8, w.cell? ⟨g, i, none⟩ = some (.int .u8 (c.toNat : Int))) ∧ w.frozen? ⟨g, i, none⟩ = false := ⟨⟨_, h.cell i hi⟩, h.free i hi⟩
theorem bit_yes : ((bitC true).toNat : Int) = 49 := rfl
theorem bit_no : ((bitC false).toNat : Int) = 48 := rfl
/-- one round of a row that is filled from the left -/
theorem row_step {w : World} {g k n : Nat} {bt : Nat → Bool} (h : ByteRow w g (fillN (bitsN n bt) k)) (hk : k < n) : ByteRow (w.setCell ⟨g, k, none⟩ (.int .u8 ((bitC (bt k)).toNat : Int))) g (fillN (bitsN n bt) (k + 1)) := by
  have hl : k < (bitsN n bt).length := by rw [bits_len]; exact hk
  have h2 := h.put (i := k) (by rw [part_len _ _ (by omega)]; exact hl) (bitsN n bt)[k]
  rw [part_put hl, bits_get hl] at h2
  exact h2
theorem row_step1 {w : World} {g k n : Nat} {bt : Nat → Bool} (h : ByteRow w g (fillN (bitsN n bt) k)) (hk : k < n) (c : UInt8) : ByteRow (w.setCell ⟨g, k, none⟩ (.int .u8 (c.toNat : Int))) g ((fillN (bitsN n bt) k).set k c) :=
  h.put (i := k) (by rw [part_len _ _ (by rw [bits_len]; omega), bits_len]; exact hk) c
theorem row_step2 {w : World} {g k n : Nat} {bt : Nat → Bool} {c : UInt8} (h : ByteRow w g ((fillN (bitsN n bt) k).set k c)) (hk : k < n) : ByteRow (w.setCell ⟨g, k, none⟩ (.int .u8 ((bitC (bt k)).toNat : Int))) g (fillN (bitsN n bt) (k + 1)) := by
  have hl : k < (bitsN n bt).length := by rw [bits_len]; exact hk
  have h2 := h.put (i := k) (by rw [List.length_set, part_len _ _ (by omega)]; exact hl) (bitsN n bt)[k]
  rw [part_put2 hl, bits_get hl] at h2
  exact h2
theorem row_step0 {w : World} {g k n : Nat} {bt : Nat → Bool} {c : UInt8} (h : ByteRow w g ((fillN (bitsN n bt) k).set k c)) (hk : k < n) (hc : c = bitC (bt k)) : ByteRow w g (fillN (bitsN n bt) (k + 1)) := by
  have hl : k < (bitsN n bt).length := by rw [bits_len]; exact hk
  have e : (fillN (bitsN n bt) k).set k c = fillN (bitsN n bt) (k + 1) := by rw [hc, ← bits_get hl, part_put hl]
  rw [← e]; exact h
set_option maxHeartbeats 1000000 in
theorem l2At_any (i : Nat) (hi : i < 27) (w : World) : Calls Tryz.prog 61 #[.int .i64 (i : Int)] w fun e w' => (e = .returned (.agg #[.int .i64 (stX i), .int .i64 (stY i), .int .i64 (stZ i)]) ∧ Below w.heap.size w w') := by
  go_enter Tryz.func61, Tryz.ntmps61
  go_wp2_with fail
  exact bodyPost_ret (v := .agg #[.int .i64 (stX i), .int .i64 (stY i), .int .i64 (stZ i)]) (by simp [results, Tryz.results61, go_sem]; exact ⟨rfl, rfl, rfl⟩) rfl
    ⟨rfl, by first | exact below_n w _ | exact ((below_n w _).setCell (Nat.le_refl _) _) | exact (((below_n w _).setCell (Nat.le_refl _) _).setCell (Nat.le_refl _) _).setCell (Nat.le_refl _) _⟩
set_option maxHeartbeats 1000000 in
theorem l2Bit_any (b : Bool) (w : World) : Calls Tryz.prog 50 #[.bool b] w fun e w' => e = .returned (.int .u8 ((bitC b).toNat : Int)) ∧ w = w' := by
  cases b
  all_goals
    go_enter Tryz.func50, Tryz.ntmps50
    go_wp2_with fail
    go_ret
    exact ⟨rfl, rfl⟩

end Go.Proofs.YtndlhdmpfnadcaaGreatDoor
