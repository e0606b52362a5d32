/- A state assigned to; what a program can do from all states, as 29 numbers: doing nothing, assigning; the states of a test. -/
import Derived.Test.YtccjmahhebiphaaDoorMk
import Derived.Test.YtccjmahhebiphaaDoorSv
import Derived.Test.YtccjmahhebiphaaDoorTx
import Derived.StillTailTactics
namespace Go.Proofs.YtccjmahhebiphaaDoor
open Go.RowKit
open Pl

/-- a stored block of three as a result -/
theorem res3 {fn : Func} {p : Tmp} {tmps : Array Value} {W : World} {g : Nat} {x y z : Int} (h : fn.results = #[.cell p 42]) (hp : tmps.getD p undef = .pointer (some ⟨g, 0, none⟩)) (hk : Blk W g 42 #[.int .i64 x, .int .i64 y, .int .i64 z]) :
    (results fn tmps).run Tryd.prog W = .ok (.agg #[.int .i64 x, .int .i64 y, .int .i64 z]) W :=
  results_cell_row h tmps W g 42 _ (0, 0) _ hp hk Tryd.underlying42 rfl (by kernel_rfl)
theorem below_le {B C : Nat} {a b : World} (h : Below B a b) (hc : C ≤ B) : Below C a b := ⟨h.os, h.tape, h.output, h.size, fun k hk => h.block k (by omega)⟩
set_option maxHeartbeats 2000000 in
theorem l2Index_any (x y z : Int) (hx : small x) (hy : small y) (hz : small z) (w : World) : Calls Tryd.prog 57 #[.agg #[.int .i64 x, .int .i64 y, .int .i64 z]] w fun e w' => (e = .returned (.int .i64 (x + 3 * y + 9 * z)) ∧ Below w.heap.size w w') := by
  obtain ⟨x1, x2⟩ := hx
  obtain ⟨y1, y2⟩ := hy
  obtain ⟨z1, z2⟩ := hz
  go_enter Tryd.func57, Tryd.ntmps57
  go_wp2_with fail
  go_ret
  exact ⟨rfl, below_n _ _⟩
set_option maxRecDepth 100000 in
set_option maxHeartbeats 4000000 in
theorem l2With_any (x y z n : Int) (c : UInt8) (hc : c ∈ nmsN) (w : World) : Calls Tryd.prog 58 #[.agg #[.int .i64 x, .int .i64 y, .int .i64 z], .int .i64 (fnd nmsN c), .int .i64 n] w fun e w' => (e = .returned (.agg #[.int .i64 (put1 c 120 n x), .int .i64 (put1 c 121 n y), .int .i64 (put1 c 122 n z)]) ∧ Below w.heap.size w w') := by
  have ON := Lib.hid (fun w => one_any x y z w)
  have SE := Lib.hid (fun w => l1Set_any x y z 0 0 0 n c hc w)
  have SA := Lib.hid (fun w => l1State_any (put1 c 120 n x) (put1 c 121 n y) (put1 c 122 n z) 0 0 0 w)
  have ka : Blk ((w.alloc (.cells #[.int .i64 x, .int .i64 y, .int .i64 z] 42)).alloc (.cells #[.int .i64 0, .int .i64 0, .int .i64 0] 42)) w.heap.size 42 #[.int .i64 x, .int .i64 y, .int .i64 z] := (Blk.new w _ _).alloc _
  have kb : Blk ((w.alloc (.cells #[.int .i64 x, .int .i64 y, .int .i64 z] 42)).alloc (.cells #[.int .i64 0, .int .i64 0, .int .i64 0] 42)) (w.heap.size + 1) 42 #[.int .i64 0, .int .i64 0, .int .i64 0] := by
    have := Blk.new (w.alloc (.cells #[.int .i64 x, .int .i64 y, .int .i64 z] 42)) 42 #[.int .i64 0, .int .i64 0, .int .i64 0]
    simp at this
    exact this
  have KA := Lib.hid ka
  have KB := Lib.hid kb
  have B0 := Lib.hid ((below_n w (.cells #[.int .i64 x, .int .i64 y, .int .i64 z] 42)).alloc (by simp) (.cells #[.int .i64 0, .int .i64 0, .int .i64 0] 42))
  have a0 := ka.cell 0
  have a1 := ka.cell 1
  have a2 := ka.cell 2
  simp at a0 a1 a2
  clear ka kb
  generalize put1 c 120 n x = p1 at *
  generalize put1 c 121 n y = p2 at *
  generalize put1 c 122 n z = p3 at *
  generalize fnd nmsN c = vn at *
  clear hc
  go_enter Tryd.func58, Tryd.ntmps58
  go_wp2_with fail
  refine (ON.out _).mono ?_
  rintro e w1 ⟨rfl, hb⟩
  replace KB := Lib.hid (KB.out.below hb KB.out.lt)
  have B1 := Lib.hid (below_2 B0.out hb)
  clear hb
  clear a0 a1 a2 KA
  go_wp2_with fail
  refine (SE.out _).mono ?_
  rintro e w2 ⟨rfl, hb⟩
  replace KB := Lib.hid (KB.out.below hb KB.out.lt)
  have B2 := Lib.hid (below_2 B1.out hb)
  clear hb
  go_wp2_with fail
  refine (SA.out _).mono ?_
  rintro e w3 ⟨rfl, hb⟩
  replace KB := Lib.hid (KB.out.below hb KB.out.lt)
  have B3 := Lib.hid (below_2 B2.out hb)
  clear hb
  have k_ := KB.out
  have c0 := k_.cell 0
  have c1 := k_.cell 1
  have c2 := k_.cell 2
  have cf0 := k_.frozen 0
  have cf1 := k_.frozen 1
  have cf2 := k_.frozen 2
  simp at c0 c1 c2
  clear k_
  go_wp2_with fail
  obtain ⟨w4, hw4, k4, hb4⟩ := put3r KB.out (.int .i64 p1) (.int .i64 p2) (.int .i64 p3)
  rw [hw4]
  exact bodyPost_ret (v := .agg #[.int .i64 p1, .int .i64 p2, .int .i64 p3]) (res3 rfl rfl k4) rfl ⟨rfl, B3.out.trans (below_le hb4 (Nat.le_succ _))⟩
set_option maxRecDepth 100000 in
set_option maxHeartbeats 4000000 in
theorem l2Assign_any (S : ByteArray) (hS : S.size ≤ 1000000) (k : Nd) (hk : ok false 0 k = true) (ht : S.data.toList = k.text) (x y z : Int) (hx : small x) (hy : small y) (hz : small z) (c : UInt8) (hc : c ∈ nmsN) (w : World) : Calls Tryd.prog 79 #[.agg #[.int .i64 x, .int .i64 y, .int .i64 z], .int .i64 (fnd nmsN c), .string S] w fun e w' => (e = .returned (.agg #[.int .i64 (put1 c 120 (val (envOf x y z 0 0 0) k) x), .int .i64 (put1 c 121 (val (envOf x y z 0 0 0) k) y), .int .i64 (put1 c 122 (val (envOf x y z 0 0 0) k) z)]) ∧ Below w.heap.size w w') := by
  have s0 : small 0 := ⟨by omega, by omega⟩
  have ON := Lib.hid (fun w => one_any x y z w)
  have VA := Lib.hid (fun w => valueS_any S hS x y z 0 0 0 hx hy hz s0 s0 s0 false k 0 [] w hk (by rw [List.drop_zero, List.append_nil]; exact ht))
  simp only [Int.cast_ofNat_Int] at VA
  generalize val (envOf x y z 0 0 0) k = n at *
  generalize (k.text.length : Int) = lk at *
  have WI := Lib.hid (fun w => l2With_any x y z n c hc w)
  have ka : Blk ((w.alloc (.cells #[.int .i64 x, .int .i64 y, .int .i64 z] 42)).alloc (.cells #[.int .i64 0, .int .i64 0, .int .i64 0] 42)) w.heap.size 42 #[.int .i64 x, .int .i64 y, .int .i64 z] := (Blk.new w _ _).alloc _
  have kb : Blk ((w.alloc (.cells #[.int .i64 x, .int .i64 y, .int .i64 z] 42)).alloc (.cells #[.int .i64 0, .int .i64 0, .int .i64 0] 42)) (w.heap.size + 1) 42 #[.int .i64 0, .int .i64 0, .int .i64 0] := by
    have := Blk.new (w.alloc (.cells #[.int .i64 x, .int .i64 y, .int .i64 z] 42)) 42 #[.int .i64 0, .int .i64 0, .int .i64 0]
    simp at this
    exact this
  have KA := Lib.hid ka
  have KB := Lib.hid kb
  have B0 := Lib.hid ((below_n w (.cells #[.int .i64 x, .int .i64 y, .int .i64 z] 42)).alloc (by simp) (.cells #[.int .i64 0, .int .i64 0, .int .i64 0] 42))
  have a0 := ka.cell 0
  have a1 := ka.cell 1
  have a2 := ka.cell 2
  simp at a0 a1 a2
  clear ka kb
  generalize put1 c 120 n x = p1 at *
  generalize put1 c 121 n y = p2 at *
  generalize put1 c 122 n z = p3 at *
  generalize fnd nmsN c = vn at *
  clear hc hk ht s0
  go_enter Tryd.func79, Tryd.ntmps79
  go_wp2_with fail
  refine (ON.out _).mono ?_
  rintro e w1 ⟨rfl, hb⟩
  replace KB := Lib.hid (KB.out.below hb KB.out.lt)
  replace KA := Lib.hid (KA.out.below hb KA.out.lt)
  have B1 := Lib.hid (below_2 B0.out hb)
  clear hb
  clear a0 a1 a2
  go_wp2_with fail
  refine (VA.out _).mono ?_
  rintro e w2 ⟨rfl, hb⟩
  replace KB := Lib.hid (KB.out.below hb KB.out.lt)
  replace KA := Lib.hid (KA.out.below hb KA.out.lt)
  have B2 := Lib.hid (below_2 B1.out hb)
  clear hb
  have k_ := KA.out
  have a0 := k_.cell 0
  have a1 := k_.cell 1
  have a2 := k_.cell 2
  have af0 := k_.frozen 0
  have af1 := k_.frozen 1
  have af2 := k_.frozen 2
  simp at a0 a1 a2
  clear k_
  go_wp2_with fail
  refine (WI.out _).mono ?_
  rintro e w3 ⟨rfl, hb⟩
  replace KB := Lib.hid (KB.out.below hb KB.out.lt)
  have B3 := Lib.hid (below_2 B2.out hb)
  clear hb
  have k_ := KB.out
  have c0 := k_.cell 0
  have c1 := k_.cell 1
  have c2 := k_.cell 2
  have cf0 := k_.frozen 0
  have cf1 := k_.frozen 1
  have cf2 := k_.frozen 2
  simp at c0 c1 c2
  clear k_
  clear a0 a1 a2 af0 af1 af2
  go_wp2_with fail
  obtain ⟨w4, hw4, k4, hb4⟩ := put3r KB.out (.int .i64 p1) (.int .i64 p2) (.int .i64 p3)
  rw [hw4]
  exact bodyPost_ret (v := .agg #[.int .i64 p1, .int .i64 p2, .int .i64 p3]) (res3 rfl rfl k4) rfl ⟨rfl, B3.out.trans (below_le hb4 (Nat.le_succ _))⟩

end Go.Proofs.YtccjmahhebiphaaDoor
