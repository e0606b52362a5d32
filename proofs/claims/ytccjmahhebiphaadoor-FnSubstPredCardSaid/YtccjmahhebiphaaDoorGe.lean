/- XGe: XEva XEvb XEvc XEvd put together. -/
import Derived.Test.YtccjmahhebiphaaDoorGc
import Derived.Test.YtccjmahhebiphaaDoorSpb
import Derived.Test.YtccjmahhebiphaaDoorPar
import Derived.Test.YtccjmahhebiphaaDoorLwa
import Derived.Test.YtccjmahhebiphaaDoorGb
/- States: which are valid; their values laid side by side. -/
namespace Go.Proofs.YtccjmahhebiphaaDoor
open Go.RowKit
open Pl

/-- a value of a variable -/
def inB (n : Int) : Bool := decide (0 ≤ n) && decide (n ≤ 2)
theorem inB_small {n : Int} : inB n = true ↔ small n := by simp [inB, small]
theorem inB_no {n : Int} (h : inB n = false) : n < 0 ∨ 2 < n := by
  unfold inB at h
  simp at h
  omega
def stB (x y z : Int) : Bool := inB x && (inB y && inB z)

set_option maxHeartbeats 1000000 in
theorem okfn_any (n : Int) (w : World) : Calls Tryd.prog 131 #[.int .i64 n] w fun e w' => e = .returned (.bool (inB n)) ∧ w = w' := by
  cases h : inB n
  · rcases inB_no h with h1 | h1
    all_goals
      clear h
      go_enter Tryd.func131, Tryd.ntmps131
      go_wp2_with fail
      go_ret
      exact ⟨ret_bool (by first | rfl | (simp; omega)), rfl⟩
  · obtain ⟨h1, h2⟩ := inB_small.1 h
    clear h
    go_enter Tryd.func131, Tryd.ntmps131
    go_wp2_with fail
    go_ret
    exact ⟨ret_bool (by first | rfl | (simp; omega)), rfl⟩
set_option maxHeartbeats 1000000 in
theorem StateValid_any (x y z : Int) (w : World) : Calls Tryd.prog 80 #[.agg #[.int .i64 x, .int .i64 y, .int .i64 z]] w fun e w' => (e = .returned (.bool (stB x y z)) ∧ Below w.heap.size w w') := by
  have hb : Below w.heap.size w (w.alloc (.cells #[.int .i64 x, .int .i64 y, .int .i64 z] 42)) := (Below.refl _ _).alloc (Nat.le_refl _) _
  unfold stB
  cases hx : inB x
  · have Hx := Lib.hid hx
    clear hx
    go_enter Tryd.func80, Tryd.ntmps80
    go_wp2_with fail
    refine (okfn_any x _).mono ?_
    rw [Hx.out]
    rintro e w' ⟨rfl, rfl⟩
    go_wp2_with fail
    go_ret
    exact ⟨rfl, hb⟩
  cases hy : inB y
  · have Hx := Lib.hid hx
    have Hy := Lib.hid hy
    clear hx hy
    go_enter Tryd.func80, Tryd.ntmps80
    go_wp2_with fail
    refine (okfn_any x _).mono ?_
    rw [Hx.out]
    rintro e w' ⟨rfl, rfl⟩
    go_wp2_with fail
    refine (okfn_any y _).mono ?_
    rw [Hy.out]
    rintro e w' ⟨rfl, rfl⟩
    go_wp2_with fail
    go_ret
    exact ⟨rfl, hb⟩
  · have Hx := Lib.hid hx
    have Hy := Lib.hid hy
    obtain ⟨v, hz⟩ : ∃ v, inB z = v := ⟨_, rfl⟩
    rw [hz]
    have Hz := Lib.hid hz
    clear hx hy hz
    go_enter Tryd.func80, Tryd.ntmps80
    go_wp2_with fail
    refine (okfn_any x _).mono ?_
    rw [Hx.out]
    rintro e w' ⟨rfl, rfl⟩
    go_wp2_with fail
    refine (okfn_any y _).mono ?_
    rw [Hy.out]
    rintro e w' ⟨rfl, rfl⟩
    go_wp2_with fail
    refine (okfn_any z _).mono ?_
    rw [Hz.out]
    rintro e w' ⟨rfl, rfl⟩
    go_wp2_with fail
    go_ret
    exact ⟨ret_bool (by first | rfl | simp), hb⟩

end Go.Proofs.YtccjmahhebiphaaDoor

/- Values of states side by side; what an expression, a test, a wide test is in states: the program's and the reference's. -/
namespace Go.Proofs.YtccjmahhebiphaaDoor
open Go.RowKit
open Pl

set_option maxHeartbeats 1000000 in
theorem envOf_any (x y z X Y Z : Int) (w : World) : Calls Tryd.prog 88 #[.agg #[.int .i64 x, .int .i64 y, .int .i64 z], .agg #[.int .i64 X, .int .i64 Y, .int .i64 Z]] w fun e w' =>
    (e = .returned (.agg #[.int .i64 x, .int .i64 y, .int .i64 z, .int .i64 X, .int .i64 Y, .int .i64 Z]) ∧ Below w.heap.size w w') := by
  go_enter Tryd.func88, Tryd.ntmps88
  go_wp2_with fail
  exact bodyPost_ret (v := .agg #[.int .i64 x, .int .i64 y, .int .i64 z, .int .i64 X, .int .i64 Y, .int .i64 Z]) (by simp [results, Tryd.results88, go_sem]) rfl
    ⟨rfl, (((Below.refl _ _).alloc (Nat.le_refl _) _).alloc (by simp) _).alloc (by simp; omega) _⟩
set_option maxHeartbeats 1000000 in
theorem one_any (x y z : Int) (w : World) : Calls Tryd.prog 118 #[.agg #[.int .i64 x, .int .i64 y, .int .i64 z]] w fun e w' =>
    (e = .returned (.agg #[.int .i64 x, .int .i64 y, .int .i64 z, .int .i64 0, .int .i64 0, .int .i64 0]) ∧ Below w.heap.size w w') := by
  go_enter Tryd.func118, Tryd.ntmps118
  go_wp2_with fail
  exact bodyPost_ret (v := .agg #[.int .i64 x, .int .i64 y, .int .i64 z, .int .i64 0, .int .i64 0, .int .i64 0]) (by simp [results, Tryd.results118, go_sem]) rfl
    ⟨rfl, ((Below.refl _ _).alloc (Nat.le_refl _) _).alloc (by simp) _⟩
set_option maxHeartbeats 1000000 in
theorem env6_any (x y z X Y Z : Int) (w : World) : Calls Tryd.prog 149 #[.agg #[.int .i64 x, .int .i64 y, .int .i64 z], .agg #[.int .i64 X, .int .i64 Y, .int .i64 Z]] w fun e w' =>
    (e = .returned (.agg #[.int .i64 x, .int .i64 y, .int .i64 z, .int .i64 X, .int .i64 Y, .int .i64 Z]) ∧ Below w.heap.size w w') := by
  go_enter Tryd.func149, Tryd.ntmps149
  go_wp2_with fail
  exact bodyPost_ret (v := .agg #[.int .i64 x, .int .i64 y, .int .i64 z, .int .i64 X, .int .i64 Y, .int .i64 Z]) (by simp [results, Tryd.results149, go_sem]) rfl
    ⟨rfl, (((Below.refl _ _).alloc (Nat.le_refl _) _).alloc (by simp) _).alloc (by simp; omega) _⟩

end Go.Proofs.YtccjmahhebiphaaDoor

/- EvalExpr, EvalTest, EvalWide of the program. -/
namespace Go.Proofs.YtccjmahhebiphaaDoor
open Go.RowKit
open Pl

def evT (o : Option Nd) (v : Bool) (ρ : UInt8 → Int) : Bool :=
  match o with
  | some k => v && tru ρ k
  | none => false
def evV (o : Option Nd) (v : Bool) (ρ : UInt8 → Int) : Int :=
  match o with
  | some k => if v then val ρ k else 0
  | none => 0
def evO (o : Option Nd) (v : Bool) : Bool := o.isSome && v
theorem stB_small {x y z : Int} (h : stB x y z = true) : small x ∧ small y ∧ small z := by
  simp only [stB, Bool.and_eq_true] at h
  exact ⟨inB_small.1 h.1, inB_small.1 h.2.1, inB_small.1 h.2.2⟩

theorem env_new (w : World) (x y z X Y Z : Int) : Env (w.alloc (.cells #[.int .i64 x, .int .i64 y, .int .i64 z, .int .i64 X, .int .i64 Y, .int .i64 Z] 76)) w.heap.size x y z X Y Z := by
  have h := Blk.new w 76 #[.int .i64 x, .int .i64 y, .int .i64 z, .int .i64 X, .int .i64 Y, .int .i64 Z]
  exact ⟨h.lt, h.cell 0, h.cell 1, h.cell 2, h.cell 3, h.cell 4, h.cell 5⟩

set_option maxHeartbeats 2000000 in
theorem EvalTest_any (S : ByteArray) (hS : S.size ≤ 1000000000000) (x y z : Int) (w : World) : Calls Tryd.prog 93 #[.string S, .agg #[.int .i64 x, .int .i64 y, .int .i64 z]] w fun e w' =>
    (e = .returned (.tuple #[.bool (evT (whole false 1 200 S.data.toList) (stB x y z) (envOf x y z 0 0 0)), .bool (evO (whole false 1 200 S.data.toList) (stB x y z))]) ∧ Below w.heap.size w w') := by
  have R := Lib.hid (fun w => parseTest_any S hS w)
  have hal : Below w.heap.size w (w.alloc (.cells #[.int .i64 x, .int .i64 y, .int .i64 z] 42)) := (Below.refl _ _).alloc (Nat.le_refl _) _
  cases ho : whole false 1 200 S.data.toList with
  | none =>
    rw [ho] at R
    clear ho
    simp only [evT, evO, Option.isSome_none, Bool.false_and]
    go_enter Tryd.func93, Tryd.ntmps93
    go_wp2_with fail
    refine (R.out _).mono ?_
    rintro e w1 ⟨hb1, rfl⟩
    clear R
    have B1 := Lib.hid (below_2 hal hb1)
    clear hb1
    go_wp2_with fail
    go_ret2
    exact ⟨(by first | trivial | rfl), B1.out⟩
  | some k =>
    rw [ho] at R
    obtain ⟨_, hk, _⟩ := (whole_iff (by omega)).1 ho
    simp only [evT, evO, Option.isSome_some, Bool.true_and]
    cases hv : stB x y z
    · have SV := Lib.hid (fun w => StateValid_any x y z w)
      rw [hv] at SV
      clear ho hv hk
      simp only [Bool.false_and]
      go_enter Tryd.func93, Tryd.ntmps93
      go_wp2_with fail
      refine (R.out _).mono ?_
      rintro e w1 ⟨hb1, b, rfl, hin⟩
      clear R hin
      have dk : Blk w1 w.heap.size 42 #[.int .i64 x, .int .i64 y, .int .i64 z] := (Blk.new w _ _).below hb1 (by simp)
      have d0 := dk.cell 0
      have d1 := dk.cell 1
      have d2 := dk.cell 2
      simp at d0 d1 d2
      clear dk
      have B1 := Lib.hid (below_2 hal hb1)
      clear hb1
      go_wp2_with fail
      refine (SV.out _).mono ?_
      rintro e w2 ⟨rfl, hb2⟩
      have B2 := Lib.hid (below_2 B1.out hb2)
      clear hb2 d0 d1 d2
      go_wp2_with fail
      go_ret2
      exact ⟨(by first | trivial | rfl), B2.out⟩
    · have SV := Lib.hid (fun w => StateValid_any x y z w)
      rw [hv] at SV
      obtain ⟨sx, sy, sz⟩ := stB_small hv
      have s0 : small 0 := ⟨by omega, by omega⟩
      simp only [Bool.true_and]
      have TR := Lib.hid (fun eb b w h1 h2 => truth_any x y z 0 0 0 sx sy sz s0 s0 s0 false eb k b w hk h1 h2)
      obtain ⟨tv, htv⟩ : ∃ v, tru (envOf x y z 0 0 0) k = v := ⟨_, rfl⟩
      rw [htv] at TR ⊢
      clear ho hv hk htv sx sy sz s0
      go_enter Tryd.func93, Tryd.ntmps93
      go_wp2_with fail
      refine (R.out _).mono ?_
      rintro e w1 ⟨hb1, b, rfl, hin⟩
      have IN1 := Lib.hid hin
      clear R hin
      have dk : Blk w1 w.heap.size 42 #[.int .i64 x, .int .i64 y, .int .i64 z] := (Blk.new w _ _).below hb1 (by simp)
      have d0 := dk.cell 0
      have d1 := dk.cell 1
      have d2 := dk.cell 2
      simp at d0 d1 d2
      clear dk
      have hz1 : w.heap.size < w1.heap.size := by have := hb1.size; simp at this; omega
      have B1 := Lib.hid (below_2 hal hb1)
      clear hb1
      go_wp2_with fail
      refine (SV.out _).mono ?_
      rintro e w2 ⟨rfl, hb2⟩
      have c0 := (hb2.cell (p := ⟨w.heap.size, 0, none⟩) hz1).trans d0
      have c1 := (hb2.cell (p := ⟨w.heap.size, 1, none⟩) hz1).trans d1
      have c2 := (hb2.cell (p := ⟨w.heap.size, 2, none⟩) hz1).trans d2
      have IN2 := Lib.hid (IN1.out.below hb2 (Nat.le_refl _))
      have B2 := Lib.hid (below_2 B1.out hb2)
      clear hb2 d0 d1 d2 hz1
      go_wp2_with fail
      refine (envOf_any x y z 0 0 0 w2).mono ?_
      rintro e w3 ⟨rfl, hb3⟩
      have IN3 := Lib.hid (IN2.out.below hb3 (Nat.le_refl _))
      have B3 := Lib.hid (below_2 B2.out hb3)
      clear hb3 c0 c1 c2
      go_wp2_with fail
      refine (TR.out w3.heap.size b (w3.alloc (.cells #[.int .i64 x, .int .i64 y, .int .i64 z, .int .i64 0, .int .i64 0, .int .i64 0] 76)) (IN3.out.below ((Below.refl _ _).alloc (Nat.le_refl _) _) (Nat.le_refl _)) (env_new w3 x y z 0 0 0)).mono ?_
      rintro e w4 ⟨rfl, n, rfl⟩
      go_wp2_with fail
      go_ret2
      exact ⟨(by first | trivial | rfl), below_2 B3.out (((Below.refl _ _).alloc (Nat.le_refl _) _).trans (below_drewN _ _ _))⟩
set_option maxHeartbeats 2000000 in
theorem EvalExpr_any (S : ByteArray) (hS : S.size ≤ 1000000000000) (x y z : Int) (w : World) : Calls Tryd.prog 81 #[.string S, .agg #[.int .i64 x, .int .i64 y, .int .i64 z]] w fun e w' =>
    (e = .returned (.tuple #[.int .i64 (evV (whole false 0 200 S.data.toList) (stB x y z) (envOf x y z 0 0 0)), .bool (evO (whole false 0 200 S.data.toList) (stB x y z))]) ∧ Below w.heap.size w w') := by
  have R := Lib.hid (fun w => parseExpr_any S hS w)
  have hal : Below w.heap.size w (w.alloc (.cells #[.int .i64 x, .int .i64 y, .int .i64 z] 42)) := (Below.refl _ _).alloc (Nat.le_refl _) _
  cases ho : whole false 0 200 S.data.toList with
  | none =>
    rw [ho] at R
    clear ho
    simp only [evV, evO, Option.isSome_none, Bool.false_and]
    go_enter Tryd.func81, Tryd.ntmps81
    go_wp2_with fail
    refine (R.out _).mono ?_
    rintro e w1 ⟨hb1, rfl⟩
    clear R
    have B1 := Lib.hid (below_2 hal hb1)
    clear hb1
    go_wp2_with fail
    go_ret2
    exact ⟨(by first | trivial | rfl), B1.out⟩
  | some k =>
    rw [ho] at R
    obtain ⟨_, hk, _⟩ := (whole_iff (by omega)).1 ho
    simp only [evV, evO, Option.isSome_some, Bool.true_and]
    cases hv : stB x y z
    · have SV := Lib.hid (fun w => StateValid_any x y z w)
      rw [hv] at SV
      clear ho hv hk
      simp only [Bool.false_eq_true, if_false]
      go_enter Tryd.func81, Tryd.ntmps81
      go_wp2_with fail
      refine (R.out _).mono ?_
      rintro e w1 ⟨hb1, b, rfl, hin⟩
      clear R hin
      have dk : Blk w1 w.heap.size 42 #[.int .i64 x, .int .i64 y, .int .i64 z] := (Blk.new w _ _).below hb1 (by simp)
      have d0 := dk.cell 0
      have d1 := dk.cell 1
      have d2 := dk.cell 2
      simp at d0 d1 d2
      clear dk
      have B1 := Lib.hid (below_2 hal hb1)
      clear hb1
      go_wp2_with fail
      refine (SV.out _).mono ?_
      rintro e w2 ⟨rfl, hb2⟩
      have B2 := Lib.hid (below_2 B1.out hb2)
      clear hb2 d0 d1 d2
      go_wp2_with fail
      go_ret2
      exact ⟨(by first | trivial | rfl), B2.out⟩
    · have SV := Lib.hid (fun w => StateValid_any x y z w)
      rw [hv] at SV
      obtain ⟨sx, sy, sz⟩ := stB_small hv
      have s0 : small 0 := ⟨by omega, by omega⟩
      simp only [if_true]
      have TR := Lib.hid (fun eb b w h1 h2 => value_any x y z 0 0 0 sx sy sz s0 s0 s0 false eb k b w hk h1 h2)
      obtain ⟨tv, htv⟩ : ∃ v, val (envOf x y z 0 0 0) k = v := ⟨_, rfl⟩
      rw [htv] at TR ⊢
      clear ho hv hk htv sx sy sz s0
      go_enter Tryd.func81, Tryd.ntmps81
      go_wp2_with fail
      refine (R.out _).mono ?_
      rintro e w1 ⟨hb1, b, rfl, hin⟩
      have IN1 := Lib.hid hin
      clear R hin
      have dk : Blk w1 w.heap.size 42 #[.int .i64 x, .int .i64 y, .int .i64 z] := (Blk.new w _ _).below hb1 (by simp)
      have d0 := dk.cell 0
      have d1 := dk.cell 1
      have d2 := dk.cell 2
      simp at d0 d1 d2
      clear dk
      have hz1 : w.heap.size < w1.heap.size := by have := hb1.size; simp at this; omega
      have B1 := Lib.hid (below_2 hal hb1)
      clear hb1
      go_wp2_with fail
      refine (SV.out _).mono ?_
      rintro e w2 ⟨rfl, hb2⟩
      have c0 := (hb2.cell (p := ⟨w.heap.size, 0, none⟩) hz1).trans d0
      have c1 := (hb2.cell (p := ⟨w.heap.size, 1, none⟩) hz1).trans d1
      have c2 := (hb2.cell (p := ⟨w.heap.size, 2, none⟩) hz1).trans d2
      have IN2 := Lib.hid (IN1.out.below hb2 (Nat.le_refl _))
      have B2 := Lib.hid (below_2 B1.out hb2)
      clear hb2 d0 d1 d2 hz1
      go_wp2_with fail
      refine (envOf_any x y z 0 0 0 w2).mono ?_
      rintro e w3 ⟨rfl, hb3⟩
      have IN3 := Lib.hid (IN2.out.below hb3 (Nat.le_refl _))
      have B3 := Lib.hid (below_2 B2.out hb3)
      clear hb3 c0 c1 c2
      go_wp2_with fail
      refine (TR.out w3.heap.size b (w3.alloc (.cells #[.int .i64 x, .int .i64 y, .int .i64 z, .int .i64 0, .int .i64 0, .int .i64 0] 76)) (IN3.out.below ((Below.refl _ _).alloc (Nat.le_refl _) _) (Nat.le_refl _)) (env_new w3 x y z 0 0 0)).mono ?_
      rintro e w4 ⟨rfl, n, rfl⟩
      go_wp2_with fail
      go_ret2
      exact ⟨(by first | trivial | rfl), below_2 B3.out (((Below.refl _ _).alloc (Nat.le_refl _) _).trans (below_drewN _ _ _))⟩

end Go.Proofs.YtccjmahhebiphaaDoor

/- EvalWide of the program; EvalTest, EvalExpr, EvalWide of the reference. -/
namespace Go.Proofs.YtccjmahhebiphaaDoor
open Go.RowKit
open Pl


end Go.Proofs.YtccjmahhebiphaaDoor
