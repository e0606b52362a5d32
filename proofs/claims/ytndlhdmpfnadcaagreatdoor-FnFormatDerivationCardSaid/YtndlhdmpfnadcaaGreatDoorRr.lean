/- RelOf of the reference: the masks of a test of two states, row by row. -/
import Derived.Test.YtndlhdmpfnadcaaGreatDoorGl
import Derived.Test.YtndlhdmpfnadcaaGreatDoorGe
import Derived.Deep.WholeRow
namespace Go.Proofs.YtndlhdmpfnadcaaGreatDoor
open Go.RowKit
open Pl

/-- the masks while they are made: the rows before i are whole, of row i the first j bits are there -/
def arr (rb : Nat → Nat → Bool) (i j : Nat) : Array Value := ((List.range 27).map (fun a => Value.int .i64 (if a < i then msk (rb a) 27 else if a = i then msk (rb i) j else 0 : Nat))).toArray
theorem arr_size (rb : Nat → Nat → Bool) (i j : Nat) : (arr rb i j).size = 27 := by simp [arr]
theorem arr_get (rb : Nat → Nat → Bool) (i j : Nat) {a : Nat} (ha : a < 27) : (arr rb i j)[a]? = some (.int .i64 (if a < i then msk (rb a) 27 else if a = i then msk (rb i) j else 0 : Nat)) := by
  simp [arr, ha]
theorem arr_ext {V : Array Value} {rb : Nat → Nat → Bool} {i j : Nat} (hz : V.size = 27) (h : ∀ a, a < 27 → V[a]? = some (.int .i64 (if a < i then msk (rb a) 27 else if a = i then msk (rb i) j else 0 : Nat))) : V = arr rb i j := by
  apply Array.ext_getElem?
  intro a
  by_cases ha : a < 27
  · rw [h a ha, arr_get _ _ _ ha]
  · rw [Array.getElem?_eq_none (by omega), Array.getElem?_eq_none (by rw [arr_size]; omega)]
theorem arr_zero (rb : Nat → Nat → Bool) : #[.int .i64 0, .int .i64 0, .int .i64 0, .int .i64 0, .int .i64 0, .int .i64 0, .int .i64 0, .int .i64 0, .int .i64 0, .int .i64 0, .int .i64 0, .int .i64 0, .int .i64 0, .int .i64 0, .int .i64 0, .int .i64 0, .int .i64 0, .int .i64 0, .int .i64 0, .int .i64 0, .int .i64 0, .int .i64 0, .int .i64 0, .int .i64 0, .int .i64 0, .int .i64 0, .int .i64 0] = arr rb 0 0 := by
  apply arr_ext rfl
  intro a ha
  have h : a = 0 ∨ a = 1 ∨ a = 2 ∨ a = 3 ∨ a = 4 ∨ a = 5 ∨ a = 6 ∨ a = 7 ∨ a = 8 ∨ a = 9 ∨ a = 10 ∨ a = 11 ∨ a = 12 ∨ a = 13 ∨ a = 14 ∨ a = 15 ∨ a = 16 ∨ a = 17 ∨ a = 18 ∨ a = 19 ∨ a = 20 ∨ a = 21 ∨ a = 22 ∨ a = 23 ∨ a = 24 ∨ a = 25 ∨ a = 26 := by omega
  rcases h with rfl | rfl | rfl | rfl | rfl | rfl | rfl | rfl | rfl | rfl | rfl | rfl | rfl | rfl | rfl | rfl | rfl | rfl | rfl | rfl | rfl | rfl | rfl | rfl | rfl | rfl | rfl <;> simp [msk]
theorem arr_no {rb : Nat → Nat → Bool} {i j : Nat} (h : rb i j = false) : arr rb i j = arr rb i (j + 1) := by
  apply arr_ext (arr_size _ _ _)
  intro a ha
  rw [arr_get _ _ _ ha]
  have e : msk (rb i) (j + 1) = msk (rb i) j := by simp [msk, h]
  rw [e]
theorem arr_yes {rb : Nat → Nat → Bool} {i j : Nat} (hi : i < 27) (h : rb i j = true) : (arr rb i j).setIfInBounds i (.int .i64 (msk (rb i) j + 2 ^ j : Nat)) = arr rb i (j + 1) := by
  apply arr_ext (by simp [arr_size])
  intro a ha
  by_cases e : i = a
  · subst e
    rw [Array.getElem?_setIfInBounds_self_of_lt (by rw [arr_size]; exact hi), if_neg (by omega), if_pos rfl]
    simp [msk, h]
  · rw [Array.getElem?_setIfInBounds_ne e, arr_get _ _ _ ha, if_neg (c := a = i) (fun h => e h.symm), if_neg (c := a = i) (fun h => e h.symm)]
theorem arr_next (rb : Nat → Nat → Bool) (i : Nat) : arr rb i 27 = arr rb (i + 1) 0 := by
  apply arr_ext (arr_size _ _ _)
  intro a ha
  rw [arr_get _ _ _ ha]
  congr 3
  by_cases h1 : a < i
  · rw [if_pos h1, if_pos (by omega)]
  · by_cases h2 : a = i
    · subst h2; rw [if_neg h1, if_pos rfl, if_pos (by omega)]
    · rw [if_neg h1, if_neg h2, if_neg (by omega)]
      simp [msk]
theorem arr_end (rb : Nat → Nat → Bool) : arr rb 27 0 = rowV rb := by
  symm
  apply arr_ext (by simp [rowV])
  intro a ha
  rw [rowV_get rb ha, if_pos ha]
theorem ldRow {w : World} {g : Nat} {V : Array Value} (h : Blk w g 62 V) (hn : V.size = 27) : (loadCellsFrom ⟨g, 0, none⟩ 0 27 #[]).run Tryz.prog w = .ok V w := by
  have := run_loadCells_list (P := Tryz.prog) w ⟨g, 0, none⟩ V.toList (fun j v hv => by
    have hadd : (⟨g, 0, none⟩ : Addr).add j = ⟨g, j, none⟩ := by unfold Addr.add; split <;> simp_all
    rw [hadd, h.cell j]
    simpa using hv)
  simpa [loadCells, hn] using this
theorem rel_size : (Tryz.prog.info? 62).map (·.size) = some 27 := by kernel_rfl
theorem stRow {w : World} {g : Nat} {old V : Array Value} (h : Blk w g 62 old) (ho : old.size = 27) (hn : V.size = 27) (h1 : V.all (·.oneCell') = true) : (storeCells ⟨g, 0, none⟩ V.toList 0).run Tryz.prog w = .ok () (w.setRow g V) := by
  have := run_storeVar_row (P := Tryz.prog) w g 62 62 old V h (by rw [hn]; exact rel_size) (by omega) h1
  cases hq : Tryz.prog.info? 62 with
  | none => have hs := rel_size; simp [hq] at hs
  | some i =>
    have hs : V.size = i.size := by have hs := rel_size; simp [hq] at hs; omega
    simpa [storeVar, sizeOf, typeInfo, hq, Value.cells, hs] using this
theorem ldAt {w : World} {g : Nat} {V : Array Value} (h : Blk w g 62 V) (hn : V.size = 27) : (loadVar 62 ⟨g, 0, none⟩).run Tryz.prog w = .ok (.agg V) w :=
  run_loadVar_row (P := Tryz.prog) w g 62 62 V (0, 0) _ h Tryz.underlying62 rfl (by rw [hn]; exact rel_size)
theorem ldIn {w : World} {g : Nat} {V : Array Value} (h : Blk w g 62 V) (hn : V.size = 27) : (Instr.loadAt 62 (.pointer (some ⟨g, 0, none⟩))).run Tryz.prog w = .ok (.agg V) w := by
  simp only [Instr.loadAt, Instr.sureAddr, Sem.run_bind, Sem.run_pure, Result.andThen]
  exact ldAt h hn
theorem stIn {w : World} {g : Nat} {old V : Array Value} (h : Blk w g 62 old) (ho : old.size = 27) (hn : V.size = 27) (h1 : V.all (·.oneCell') = true) : (Instr.storeAt 62 (.pointer (some ⟨g, 0, none⟩)) (.agg V)).run Tryz.prog w = .ok () (w.setRow g V) := by
  simp only [Instr.storeAt, Instr.sureAddr, Sem.run_bind, Sem.run_pure, Result.andThen]
  exact run_storeVar_row (P := Tryz.prog) w g 62 62 old V h (by rw [hn]; exact rel_size) (by omega) h1
theorem z_one : (#[.int .i64 0, .int .i64 0, .int .i64 0, .int .i64 0, .int .i64 0, .int .i64 0, .int .i64 0, .int .i64 0, .int .i64 0, .int .i64 0, .int .i64 0, .int .i64 0, .int .i64 0, .int .i64 0, .int .i64 0, .int .i64 0, .int .i64 0, .int .i64 0, .int .i64 0, .int .i64 0, .int .i64 0, .int .i64 0, .int .i64 0, .int .i64 0, .int .i64 0, .int .i64 0, .int .i64 0] : Array Value).all (·.oneCell') = true := by
  rw [arr_zero (fun _ _ => false), Array.all_eq_true_iff_forall_mem]
  intro v hv
  simp only [arr, List.mem_toArray, List.mem_map] at hv
  obtain ⟨i, _, rfl⟩ := hv
  rfl
theorem or_wrap (m j : Nat) (hm : m < 2 ^ j) (hj : j < 27) : bits BinOp.or IntKind.i64 (m : Int) (wrap64 (2 ^ j)) = ((m + 2 ^ j : Nat) : Int) := by
  have h1 : 2 ^ j < 2 ^ 27 := Nat.pow_lt_pow_right (by decide) hj
  have h2 : ((2 ^ j : Nat) : Int) = (2 : Int) ^ j := by push_cast; rfl
  rw [← IntWalk.i64_left, i64_id (2 ^ j) (by rw [← h2]; omega) (by rw [← h2]; omega)]
  exact or_bit m j hm hj
theorem rowV_one (rb : Nat → Nat → Bool) : (rowV rb).all (·.oneCell') = true := by
  rw [Array.all_eq_true_iff_forall_mem]
  intro v hv
  simp only [rowV, List.mem_toArray, List.mem_map] at hv
  obtain ⟨i, _, rfl⟩ := hv
  rfl
/-- a block of a relation's size -/
def Held (w : World) (g : Nat) : Prop := ∃ V : Array Value, V.size = 27 ∧ Blk w g 62 V
theorem Held.below {w w' : World} {g B : Nat} (h : Held w g) (hb : Below B w w') (hg : g < B) : Held w' g := by obtain ⟨V, hz, hk⟩ := h; exact ⟨V, hz, hk.below hb hg⟩
theorem Held.lt {w : World} {g : Nat} (h : Held w g) : g < w.heap.size := by obtain ⟨V, hz, hk⟩ := h; exact hk.lt
theorem Held.far {w : World} {g : Nat} (h : Held w g) {p : Addr} (hp : g ≠ p.block) (u : Value) : Held (w.setCell p u) g := by obtain ⟨V, hz, hk⟩ := h; exact ⟨V, hz, hk.far hp u⟩
set_option maxRecDepth 100000 in
set_option maxHeartbeats 16000000 in
theorem l6Of_any (S : ByteArray) (hS : S.size ≤ 1000000) (k : Nd) (hk : ok true 1 k = true) (ht : S.data.toList = k.text) (w : World) :
    Calls Tryz.prog 36 #[.string S] w fun e w' => (e = .returned (.agg (rowV (relB k))) ∧ Below w.heap.size w w') := by
  have HH := Lib.hid (fun i j (hi : i < 27) (hj : j < 27) w => holdsS_any S (by omega) (stX i) (stY i) (stZ i) (stX j) (stY j) (stZ j) (stX_small i) (stY_small i) (stZ_small hi) (stX_small j) (stY_small j) (stZ_small hj) true k 0 [] w hk (by rw [List.drop_zero, List.append_nil]; exact ht))
  obtain ⟨rb, hrb⟩ : ∃ r, relB k = r := ⟨_, rfl⟩
  rw [hrb]
  have HRB := Lib.hid (fun i j => show tru (envOf (stX i) (stY i) (stZ i) (stX j) (stY j) (stZ j)) k = rb i j by rw [← hrb]; rfl)
  have K2 : Hid (Held ((w.alloc (.cells #[.int .i64 0, .int .i64 0, .int .i64 0, .int .i64 0, .int .i64 0, .int .i64 0, .int .i64 0, .int .i64 0, .int .i64 0, .int .i64 0, .int .i64 0, .int .i64 0, .int .i64 0, .int .i64 0, .int .i64 0, .int .i64 0, .int .i64 0, .int .i64 0, .int .i64 0, .int .i64 0, .int .i64 0, .int .i64 0, .int .i64 0, .int .i64 0, .int .i64 0, .int .i64 0, .int .i64 0] 62)).alloc (.cells #[.int .i64 0, .int .i64 0, .int .i64 0, .int .i64 0, .int .i64 0, .int .i64 0, .int .i64 0, .int .i64 0, .int .i64 0, .int .i64 0, .int .i64 0, .int .i64 0, .int .i64 0, .int .i64 0, .int .i64 0, .int .i64 0, .int .i64 0, .int .i64 0, .int .i64 0, .int .i64 0, .int .i64 0, .int .i64 0, .int .i64 0, .int .i64 0, .int .i64 0, .int .i64 0, .int .i64 0] 62)) w.heap.size) := ⟨_, rfl, (Blk.new w _ _).alloc _⟩
  have K3 : Hid (Blk ((w.alloc (.cells #[.int .i64 0, .int .i64 0, .int .i64 0, .int .i64 0, .int .i64 0, .int .i64 0, .int .i64 0, .int .i64 0, .int .i64 0, .int .i64 0, .int .i64 0, .int .i64 0, .int .i64 0, .int .i64 0, .int .i64 0, .int .i64 0, .int .i64 0, .int .i64 0, .int .i64 0, .int .i64 0, .int .i64 0, .int .i64 0, .int .i64 0, .int .i64 0, .int .i64 0, .int .i64 0, .int .i64 0] 62)).alloc (.cells #[.int .i64 0, .int .i64 0, .int .i64 0, .int .i64 0, .int .i64 0, .int .i64 0, .int .i64 0, .int .i64 0, .int .i64 0, .int .i64 0, .int .i64 0, .int .i64 0, .int .i64 0, .int .i64 0, .int .i64 0, .int .i64 0, .int .i64 0, .int .i64 0, .int .i64 0, .int .i64 0, .int .i64 0, .int .i64 0, .int .i64 0, .int .i64 0, .int .i64 0, .int .i64 0, .int .i64 0] 62)) (w.heap.size + 1) 62 (arr rb 0 0)) := by
    have := Blk.new (w.alloc (.cells #[.int .i64 0, .int .i64 0, .int .i64 0, .int .i64 0, .int .i64 0, .int .i64 0, .int .i64 0, .int .i64 0, .int .i64 0, .int .i64 0, .int .i64 0, .int .i64 0, .int .i64 0, .int .i64 0, .int .i64 0, .int .i64 0, .int .i64 0, .int .i64 0, .int .i64 0, .int .i64 0, .int .i64 0, .int .i64 0, .int .i64 0, .int .i64 0, .int .i64 0, .int .i64 0, .int .i64 0] 62)) 62 #[.int .i64 0, .int .i64 0, .int .i64 0, .int .i64 0, .int .i64 0, .int .i64 0, .int .i64 0, .int .i64 0, .int .i64 0, .int .i64 0, .int .i64 0, .int .i64 0, .int .i64 0, .int .i64 0, .int .i64 0, .int .i64 0, .int .i64 0, .int .i64 0, .int .i64 0, .int .i64 0, .int .i64 0, .int .i64 0, .int .i64 0, .int .i64 0, .int .i64 0, .int .i64 0, .int .i64 0]
    rw [show (w.alloc (.cells #[.int .i64 0, .int .i64 0, .int .i64 0, .int .i64 0, .int .i64 0, .int .i64 0, .int .i64 0, .int .i64 0, .int .i64 0, .int .i64 0, .int .i64 0, .int .i64 0, .int .i64 0, .int .i64 0, .int .i64 0, .int .i64 0, .int .i64 0, .int .i64 0, .int .i64 0, .int .i64 0, .int .i64 0, .int .i64 0, .int .i64 0, .int .i64 0, .int .i64 0, .int .i64 0, .int .i64 0] 62)).heap.size = w.heap.size + 1 by simp] at this
    rw [← arr_zero rb]
    exact this
  have B0 := Lib.hid ((below_n w (.cells #[.int .i64 0, .int .i64 0, .int .i64 0, .int .i64 0, .int .i64 0, .int .i64 0, .int .i64 0, .int .i64 0, .int .i64 0, .int .i64 0, .int .i64 0, .int .i64 0, .int .i64 0, .int .i64 0, .int .i64 0, .int .i64 0, .int .i64 0, .int .i64 0, .int .i64 0, .int .i64 0, .int .i64 0, .int .i64 0, .int .i64 0, .int .i64 0, .int .i64 0, .int .i64 0, .int .i64 0] 62)).alloc (by simp) (.cells #[.int .i64 0, .int .i64 0, .int .i64 0, .int .i64 0, .int .i64 0, .int .i64 0, .int .i64 0, .int .i64 0, .int .i64 0, .int .i64 0, .int .i64 0, .int .i64 0, .int .i64 0, .int .i64 0, .int .i64 0, .int .i64 0, .int .i64 0, .int .i64 0, .int .i64 0, .int .i64 0, .int .i64 0, .int .i64 0, .int .i64 0, .int .i64 0, .int .i64 0, .int .i64 0, .int .i64 0] 62))
  obtain ⟨V, hV⟩ : ∃ V, rowV rb = V := ⟨_, rfl⟩
  rw [hV]
  have HV := Lib.hid hV
  clear hk ht hrb hV
  go_enter Tryz.func36, Tryz.ntmps36
  have kz : Blk ((w.alloc (.cells #[.int .i64 0, .int .i64 0, .int .i64 0, .int .i64 0, .int .i64 0, .int .i64 0, .int .i64 0, .int .i64 0, .int .i64 0, .int .i64 0, .int .i64 0, .int .i64 0, .int .i64 0, .int .i64 0, .int .i64 0, .int .i64 0, .int .i64 0, .int .i64 0, .int .i64 0, .int .i64 0, .int .i64 0, .int .i64 0, .int .i64 0, .int .i64 0, .int .i64 0, .int .i64 0, .int .i64 0] 62)).alloc (.cells #[.int .i64 0, .int .i64 0, .int .i64 0, .int .i64 0, .int .i64 0, .int .i64 0, .int .i64 0, .int .i64 0, .int .i64 0, .int .i64 0, .int .i64 0, .int .i64 0, .int .i64 0, .int .i64 0, .int .i64 0, .int .i64 0, .int .i64 0, .int .i64 0, .int .i64 0, .int .i64 0, .int .i64 0, .int .i64 0, .int .i64 0, .int .i64 0, .int .i64 0, .int .i64 0, .int .i64 0] 62)) (w.heap.size + 1) 62 #[.int .i64 0, .int .i64 0, .int .i64 0, .int .i64 0, .int .i64 0, .int .i64 0, .int .i64 0, .int .i64 0, .int .i64 0, .int .i64 0, .int .i64 0, .int .i64 0, .int .i64 0, .int .i64 0, .int .i64 0, .int .i64 0, .int .i64 0, .int .i64 0, .int .i64 0, .int .i64 0, .int .i64 0, .int .i64 0, .int .i64 0, .int .i64 0, .int .i64 0, .int .i64 0, .int .i64 0] := by
    have := Blk.new (w.alloc (.cells #[.int .i64 0, .int .i64 0, .int .i64 0, .int .i64 0, .int .i64 0, .int .i64 0, .int .i64 0, .int .i64 0, .int .i64 0, .int .i64 0, .int .i64 0, .int .i64 0, .int .i64 0, .int .i64 0, .int .i64 0, .int .i64 0, .int .i64 0, .int .i64 0, .int .i64 0, .int .i64 0, .int .i64 0, .int .i64 0, .int .i64 0, .int .i64 0, .int .i64 0, .int .i64 0, .int .i64 0] 62)) 62 #[.int .i64 0, .int .i64 0, .int .i64 0, .int .i64 0, .int .i64 0, .int .i64 0, .int .i64 0, .int .i64 0, .int .i64 0, .int .i64 0, .int .i64 0, .int .i64 0, .int .i64 0, .int .i64 0, .int .i64 0, .int .i64 0, .int .i64 0, .int .i64 0, .int .i64 0, .int .i64 0, .int .i64 0, .int .i64 0, .int .i64 0, .int .i64 0, .int .i64 0, .int .i64 0, .int .i64 0]
    rw [show (w.alloc (.cells #[.int .i64 0, .int .i64 0, .int .i64 0, .int .i64 0, .int .i64 0, .int .i64 0, .int .i64 0, .int .i64 0, .int .i64 0, .int .i64 0, .int .i64 0, .int .i64 0, .int .i64 0, .int .i64 0, .int .i64 0, .int .i64 0, .int .i64 0, .int .i64 0, .int .i64 0, .int .i64 0, .int .i64 0, .int .i64 0, .int .i64 0, .int .i64 0, .int .i64 0, .int .i64 0, .int .i64 0] 62)).heap.size = w.heap.size + 1 by simp] at this
    exact this
  have KZ := Lib.hid kz
  have HW := Lib.hid (setRow_self ((w.alloc (.cells #[.int .i64 0, .int .i64 0, .int .i64 0, .int .i64 0, .int .i64 0, .int .i64 0, .int .i64 0, .int .i64 0, .int .i64 0, .int .i64 0, .int .i64 0, .int .i64 0, .int .i64 0, .int .i64 0, .int .i64 0, .int .i64 0, .int .i64 0, .int .i64 0, .int .i64 0, .int .i64 0, .int .i64 0, .int .i64 0, .int .i64 0, .int .i64 0, .int .i64 0, .int .i64 0, .int .i64 0] 62)).alloc (.cells #[.int .i64 0, .int .i64 0, .int .i64 0, .int .i64 0, .int .i64 0, .int .i64 0, .int .i64 0, .int .i64 0, .int .i64 0, .int .i64 0, .int .i64 0, .int .i64 0, .int .i64 0, .int .i64 0, .int .i64 0, .int .i64 0, .int .i64 0, .int .i64 0, .int .i64 0, .int .i64 0, .int .i64 0, .int .i64 0, .int .i64 0, .int .i64 0, .int .i64 0, .int .i64 0, .int .i64 0] 62)) (w.heap.size + 1) #[.int .i64 0, .int .i64 0, .int .i64 0, .int .i64 0, .int .i64 0, .int .i64 0, .int .i64 0, .int .i64 0, .int .i64 0, .int .i64 0, .int .i64 0, .int .i64 0, .int .i64 0, .int .i64 0, .int .i64 0, .int .i64 0, .int .i64 0, .int .i64 0, .int .i64 0, .int .i64 0, .int .i64 0, .int .i64 0, .int .i64 0, .int .i64 0, .int .i64 0, .int .i64 0, .int .i64 0] 62 (0, 0) kz)
  clear kz
  go_wp2_with (refine wpList_store_row rfl 62 (.tmp 3) (.tmp 8) rfl (w.heap.size + 1) #[.int .i64 0, .int .i64 0, .int .i64 0, .int .i64 0, .int .i64 0, .int .i64 0, .int .i64 0, .int .i64 0, .int .i64 0, .int .i64 0, .int .i64 0, .int .i64 0, .int .i64 0, .int .i64 0, .int .i64 0, .int .i64 0, .int .i64 0, .int .i64 0, .int .i64 0, .int .i64 0, .int .i64 0, .int .i64 0, .int .i64 0, .int .i64 0, .int .i64 0, .int .i64 0, .int .i64 0] rfl rfl 62 #[.int .i64 0, .int .i64 0, .int .i64 0, .int .i64 0, .int .i64 0, .int .i64 0, .int .i64 0, .int .i64 0, .int .i64 0, .int .i64 0, .int .i64 0, .int .i64 0, .int .i64 0, .int .i64 0, .int .i64 0, .int .i64 0, .int .i64 0, .int .i64 0, .int .i64 0, .int .i64 0, .int .i64 0, .int .i64 0, .int .i64 0, .int .i64 0, .int .i64 0, .int .i64 0, .int .i64 0] KZ.out rel_size rfl z_one ?_)
  try rw [HW.out]
  clear HW KZ
  go_loopg [4] 27 (fun gk i wr => ∃ a : Nat, a + gk = 27 ∧ i = .int .i64 a ∧ Hid (Held wr w.heap.size) ∧ Hid (Blk wr (w.heap.size + 1) 62 (arr rb a 0)) ∧ Hid (Below w.heap.size w wr))
  case atStart => exact ⟨0, rfl, rfl, K2, K3, B0⟩
  case round =>
    clear K2 K3 B0
    obtain ⟨a, ha, rfl, K2, K3, B⟩ := hrel
    obtain ⟨go, hgo⟩ : ∃ n, n = gk := ⟨_, rfl⟩
    rw [← hgo] at ha
    by_cases hla : a < 27
    · have hda : decide ((a : Int) < 27) = true := by simp; omega
      go_wp2_with fail
      try rw [hda]
      clear hda
      go_loopg [5] 27 (fun gk i wr => ∃ b : Nat, b + gk = 27 ∧ i = .int .i64 b ∧ Hid (Held wr w.heap.size) ∧ Hid (Blk wr (w.heap.size + 1) 62 (arr rb a b)) ∧ Hid (Below w.heap.size w wr))
      case atStart => exact ⟨0, rfl, rfl, K2, K3, B⟩
      case round =>
        clear K2 K3 B
        obtain ⟨b, hb, rfl, K2, K3, B⟩ := hrel
        by_cases hlb : b < 27
        · have A1 := Lib.hid (fun w => l2At_any a hla w)
          have A2 := Lib.hid (fun w => l2At_any b hlb w)
          have E6 := Lib.hid (fun w => env6_any (stX a) (stY a) (stZ a) (stX b) (stY b) (stZ b) w)
          have HX := Lib.hid (fun w => HH.out a b hla hlb w)
          rw [HRB.out a b] at HX
          generalize (k.text.length : Int) = lk at *
          generalize stX a = x at *
          generalize stY a = y at *
          generalize stZ a = z at *
          generalize stX b = x' at *
          generalize stY b = y' at *
          generalize stZ b = z' at *
          have hor := or_wrap (msk (rb a) b) b (msk_lt _ _) hlb
          have HOR := Lib.hid hor
          clear hor
          cases hr : rb a b
          · rw [hr] at HX
            have HN := Lib.hid (arr_no hr)
            clear hr
            go_wp2_with fail
            refine (A1.out _).mono ?_
            rintro e w1 ⟨rfl, hb1⟩
            have P1 := Lib.hid (K2.out.below hb1 K2.out.lt)
            have Q1 := Lib.hid (K3.out.below hb1 K3.out.lt)
            have B1 := Lib.hid (below_2 B.out hb1)
            clear hb1 K2 K3 B
            go_wp2_with fail
            refine (A2.out _).mono ?_
            rintro e w2 ⟨rfl, hb2⟩
            have P2 := Lib.hid (P1.out.below hb2 P1.out.lt)
            have Q2 := Lib.hid (Q1.out.below hb2 Q1.out.lt)
            have B2 := Lib.hid (below_2 B1.out hb2)
            clear hb2 P1 Q1 B1
            go_wp2_with fail
            refine (E6.out _).mono ?_
            rintro e w3 ⟨rfl, hb3⟩
            have P3 := Lib.hid (P2.out.below hb3 P2.out.lt)
            have Q3 := Lib.hid (Q2.out.below hb3 Q2.out.lt)
            have B3 := Lib.hid (below_2 B2.out hb3)
            clear hb3 P2 Q2 B2
            go_wp2_with fail
            refine (HX.out _).mono ?_
            rintro e w4 ⟨rfl, hb4⟩
            have P4 := Lib.hid (P3.out.below hb4 P3.out.lt)
            have Q4 := Lib.hid (Q3.out.below hb4 Q3.out.lt)
            have B4 := Lib.hid (below_2 B3.out hb4)
            clear hb4 P3 Q3 B3
            go_wp2_with fail
            go_roundg (gk - 1)
            case measure => omega
            case rel => exact ⟨b + 1, by omega, by go_num, P4, (by rw [← HN.out]; exact Q4), B4⟩
          · rw [hr] at HX
            have HN := Lib.hid (arr_yes hla hr)
            have hg := arr_get rb a b hla
            rw [if_neg (Nat.lt_irrefl a), if_pos rfl] at hg
            have HG := Lib.hid hg
            clear hr hg
            go_wp2_with fail
            refine (A1.out _).mono ?_
            rintro e w1 ⟨rfl, hb1⟩
            have P1 := Lib.hid (K2.out.below hb1 K2.out.lt)
            have Q1 := Lib.hid (K3.out.below hb1 K3.out.lt)
            have B1 := Lib.hid (below_2 B.out hb1)
            clear hb1 K2 K3 B
            go_wp2_with fail
            refine (A2.out _).mono ?_
            rintro e w2 ⟨rfl, hb2⟩
            have P2 := Lib.hid (P1.out.below hb2 P1.out.lt)
            have Q2 := Lib.hid (Q1.out.below hb2 Q1.out.lt)
            have B2 := Lib.hid (below_2 B1.out hb2)
            clear hb2 P1 Q1 B1
            go_wp2_with fail
            refine (E6.out _).mono ?_
            rintro e w3 ⟨rfl, hb3⟩
            have P3 := Lib.hid (P2.out.below hb3 P2.out.lt)
            have Q3 := Lib.hid (Q2.out.below hb3 Q2.out.lt)
            have B3 := Lib.hid (below_2 B2.out hb3)
            clear hb3 P2 Q2 B2
            go_wp2_with fail
            refine (HX.out _).mono ?_
            rintro e w4 ⟨rfl, hb4⟩
            have P4 := Lib.hid (P3.out.below hb4 P3.out.lt)
            have Q4 := Lib.hid (Q3.out.below hb4 Q3.out.lt)
            have B4 := Lib.hid (below_2 B3.out hb4)
            clear hb4 P3 Q3 B3
            have hc := (Q4.out.cell a).trans HG.out
            have hf := Q4.out.frozen a
            have q5 := Q4.out.set_ a (.int .i64 (bits BinOp.or IntKind.i64 ((msk (rb a) b : Nat) : Int) (wrap64 (2 ^ b))))
            have hq : (arr rb a b).setIfInBounds a (.int .i64 (bits BinOp.or IntKind.i64 ((msk (rb a) b : Nat) : Int) (wrap64 (2 ^ b)))) = arr rb a (b + 1) := by rw [HOR.out]; exact HN.out
            rw [hq] at q5
            have Q5 := Lib.hid q5
            clear q5 hq
            have P5 := Lib.hid (P4.out.far (p := ⟨w.heap.size + 1, a, none⟩) (by simp) (.int .i64 (bits BinOp.or IntKind.i64 ((msk (rb a) b : Nat) : Int) (wrap64 (2 ^ b)))))
            have B5 := Lib.hid (B4.out.setCell (p := ⟨w.heap.size + 1, a, none⟩) (Nat.le_succ _) (.int .i64 (bits BinOp.or IntKind.i64 ((msk (rb a) b : Nat) : Int) (wrap64 (2 ^ b)))))
            go_wp2_with fail
            go_roundg (gk - 1)
            case measure => omega
            case rel => exact ⟨b + 1, by omega, by go_num, P5, Q5, B5⟩
        · obtain rfl : b = 27 := by omega
          have Q5 : Hid (Blk wr (w.heap.size + 1) 62 (arr rb (a + 1) 0)) := by rw [← arr_next]; exact K3
          clear K3
          go_wp2_with fail
          go_roundg (go - 1)
          case measure => omega
          case rel => exact ⟨a + 1, by omega, by go_num, K2, Q5, B⟩
    · obtain rfl : a = 27 := by omega
      have k3 := K3.out
      rw [arr_end, HV.out] at k3
      have hz : V.size = 27 := by rw [← HV.out]; simp [rowV]
      have h1 : V.all (·.oneCell') = true := by rw [← HV.out]; exact rowV_one rb
      have hi : (Tryz.prog.info? 62).map (·.size) = some V.size := by rw [hz]; exact rel_size
      obtain ⟨old, hoz, k2⟩ := K2.out
      have kE := setRow_heap wr w.heap.size _ V 62 (0, 0) k2
      have BE : Hid (Below w.heap.size w (wr.setRow w.heap.size V)) := B.out.trans (show Below w.heap.size wr (wr.setRow w.heap.size V) from ⟨rfl, rfl, rfl, by simp, fun g hg => setRow_other wr w.heap.size g V (by omega)⟩)
      have X := Lib.hid (And.intro k3 (And.intro k2 (And.intro hi (And.intro (hoz.trans hz.symm) (And.intro h1 kE)))))
      clear k3 K3 K2 k2 hoz HH HRB hla kE HV hgo hz h1 hi
      go_wp2_with (first | (refine wpList_load_row rfl 62 (.tmp 3) rfl (w.heap.size + 1) rfl 62 V (0, 0) _ X.out.1 Tryz.underlying62 rfl X.out.2.2.1 ?_) | (refine wpList_store_row rfl 62 (.tmp 2) (.tmp 37) rfl w.heap.size V rfl rfl 62 old X.out.2.1 X.out.2.2.1 X.out.2.2.2.1 X.out.2.2.2.2.1 ?_))
      exact bodyPost_ret (v := .agg V) (results_cell_row rfl _ _ w.heap.size 62 V (0, 0) _ rfl X.out.2.2.2.2.2 Tryz.underlying62 rfl X.out.2.2.1) rfl ⟨rfl, BE.out⟩

end Go.Proofs.YtndlhdmpfnadcaaGreatDoor
