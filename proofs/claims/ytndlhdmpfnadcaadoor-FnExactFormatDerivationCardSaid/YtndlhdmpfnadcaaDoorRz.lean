/- Pairs of a relation, the first one; images, shadows, equivalences of the program. -/
import Derived.Test.YtndlhdmpfnadcaaDoorRy
import Derived.BigQuiet
namespace Go.Proofs.YtndlhdmpfnadcaaDoor
open Go.RowKit
open Pl

theorem row_text {l : List UInt8} (h : bOk 729 l = true) {i : Nat} (hi : i < 27) : l.drop (27 * i) = bitsN 27 (ro l i) ++ l.drop (27 * i + 27) := by
  have hl := bOk_len h
  have h1 : (l.drop (27 * i)).take 27 = bitsN 27 (ro l i) := by
    apply List.ext_getElem
    · rw [List.length_take, List.length_drop, bits_len]; omega
    · intro k h1 h2
      rw [bits_len] at h2
      rw [List.getElem_take, List.getElem_drop, bits_get (by rw [bits_len]; exact h2), bOk_get h (by omega)]
      rfl
  rw [← h1, ← List.drop_drop, List.take_append_drop]
theorem ext_row {R : ByteArray} (h : bOk 729 R.data.toList = true) {i : Nat} (hi : i < 27) {p n : Nat} (hp : p = 27 * i) (hn : n = 27 * i + 27) : R.extract p n = bs (bitsN 27 (ro R.data.toList i)) := by
  subst hp hn
  exact extract_nd (row_text h hi) (by rw [bits_len])
theorem eqT {a b : List UInt8} : ((bs a).toList == (bs b).toList) = (a == b) := by
  rw [ByteArray.toList_eq, ByteArray.toList_eq, bs_list, bs_list]
theorem eqTS {a : List UInt8} {P : ByteArray} : ((bs a).toList == P.toList) = (a == P.data.toList) := by
  rw [ByteArray.toList_eq, ByteArray.toList_eq, bs_list]
theorem eqv_no {a : List UInt8} (h : bOk 729 a = false) : eqvT a = false := by unfold eqvT; rw [h]; rfl
def imgO (R P : ByteArray) : Option (List UInt8) := if bOk 729 R.data.toList && bOk 27 P.data.toList then some (imgT R.data.toList P.data.toList) else none
def shaO (R P : ByteArray) : Option (List UInt8) := if bOk 729 R.data.toList && bOk 27 P.data.toList then some (shaT R.data.toList P.data.toList) else none
theorem imgO_yes {R P : ByteArray} (hr : bOk 729 R.data.toList = true) (hp : bOk 27 P.data.toList = true) : imgO R P = some (imgT R.data.toList P.data.toList) := by unfold imgO; rw [hr, hp]; rfl
theorem imgO_no {R P : ByteArray} (h : (bOk 729 R.data.toList && bOk 27 P.data.toList) = false) : imgO R P = none := by unfold imgO; rw [h]; rfl
theorem shaO_yes {R P : ByteArray} (hr : bOk 729 R.data.toList = true) (hp : bOk 27 P.data.toList = true) : shaO R P = some (shaT R.data.toList P.data.toList) := by unfold shaO; rw [hr, hp]; rfl
theorem shaO_no {R P : ByteArray} (h : (bOk 729 R.data.toList && bOk 27 P.data.toList) = false) : shaO R P = none := by unfold shaO; rw [h]; rfl
/-- the first pair of a relation -/
def fpO (l : List UInt8) : Option Nat := if bOk 729 l then (if fnd l 49 < 0 then none else some (fnd l 49).toNat) else none
theorem fp_no {l : List UInt8} (h : bOk 729 l = false) : fpO l = none := by unfold fpO; rw [h]; rfl
theorem fnd_cntR {l : List UInt8} (h : bOk 729 l = true) : fnd l 49 < 0 ↔ cntR l = 0 := by
  have := fnd_bits (n := 729) (f := bt l)
  rw [bits_of h] at this
  exact this
theorem fp_neg {l : List UInt8} (h : bOk 729 l = true) (h2 : fnd l 49 < 0) : fpO l = none := by unfold fpO; rw [h, if_pos rfl, if_pos h2]
theorem fp_pos {l : List UInt8} (h : bOk 729 l = true) (h2 : ¬ fnd l 49 < 0) : ∃ k : Nat, fnd l 49 = k ∧ fpO l = some k ∧ k < 729 ∧ bt l k = true ∧ ∀ j, j < k → bt l j = false := by
  obtain ⟨k, hk, hkl, h3, h4⟩ := fnd_at (l := l) (c := 49) (by omega)
  have hl := bOk_len h
  refine ⟨k, hk, ?_, by omega, ?_, fun j hj => ?_⟩
  · unfold fpO; rw [h, if_pos rfl, if_neg h2, hk]; rfl
  · unfold bt; rw [List.getD_eq_getElem?_getD, List.getElem?_eq_getElem hkl, Option.getD_some, h3]; rfl
  · have := h4 j hj
    unfold bt
    rw [List.getD_eq_getElem?_getD, List.getElem?_eq_getElem (by omega), Option.getD_some]
    simpa using this
/-- the value of the first pair -/
def fpV (l : List UInt8) : Value := .tuple #[.agg #[.int .i64 (oX ((fpO l).map (· / 27))), .int .i64 (oY ((fpO l).map (· / 27))), .int .i64 (oZ ((fpO l).map (· / 27)))], .agg #[.int .i64 (oX ((fpO l).map (· % 27))), .int .i64 (oY ((fpO l).map (· % 27))), .int .i64 (oZ ((fpO l).map (· % 27)))], .bool (fpO l).isSome]
theorem fpV_none {l : List UInt8} (h : fpO l = none) : fpV l = .tuple #[.agg #[.int .i64 0, .int .i64 0, .int .i64 0], .agg #[.int .i64 0, .int .i64 0, .int .i64 0], .bool false] := by unfold fpV; rw [h]; rfl
theorem fpV_some {l : List UInt8} {k : Nat} (h : fpO l = some k) : fpV l = .tuple #[.agg #[.int .i64 (stX (k / 27)), .int .i64 (stY (k / 27)), .int .i64 (stZ (k / 27))], .agg #[.int .i64 (stX (k % 27)), .int .i64 (stY (k % 27)), .int .i64 (stZ (k % 27))], .bool true] := by unfold fpV; rw [h]; rfl

end Go.Proofs.YtndlhdmpfnadcaaDoor
