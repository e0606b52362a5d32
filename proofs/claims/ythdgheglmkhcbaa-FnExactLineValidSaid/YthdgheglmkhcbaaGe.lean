/- XGe: XEva XEvb XEvc XEvd put together. -/
import Derived.Test.YthdgheglmkhcbaaGc
import Derived.Test.YthdgheglmkhcbaaSpb
import Derived.Test.YthdgheglmkhcbaaPar
import Derived.Test.YthdgheglmkhcbaaLwa
import Derived.Test.YthdgheglmkhcbaaGb
/- States: which are valid; their values laid side by side. -/
namespace Go.Proofs.Ythdgheglmkhcbaa
open Go.RowKit
open Pl

/-- a value of a variable -/
def inB (n : Int) : Bool := decide (0 ≤ n) && decide (n ≤ 2)
theorem inB_small {n : Int} : inB n = true ↔ small n := by simp [inB, small]
theorem inB_no {n : Int} (h : inB n = false) : n < 0 ∨ 2 < n := by
  unfold inB at h
  simp at h
  omega
def stB (x y z : Int) : Bool := inB x && (inB y && inB z)

set_option maxHeartbeats 1000000 in
theorem okfn_any (n : Int) (w : World) : Calls Try.prog 139 #[.int .i64 n] w fun e w' => e = .returned (.bool (inB n)) ∧ w = w' := by
  cases h : inB n
  · rcases inB_no h with h1 | h1
    all_goals
      clear h
      go_enter Try.func139, Try.ntmps139
      go_wp2_with fail
      go_ret
      exact ⟨ret_bool (by first | rfl | (simp; omega)), rfl⟩
  · obtain ⟨h1, h2⟩ := inB_small.1 h
    clear h
    go_enter Try.func139, Try.ntmps139
    go_wp2_with fail
    go_ret
    exact ⟨ret_bool (by first | rfl | (simp; omega)), rfl⟩
set_option maxHeartbeats 1000000 in
theorem StateValid_any (x y z : Int) (w : World) : Calls Try.prog 82 #[.agg #[.int .i64 x, .int .i64 y, .int .i64 z]] w fun e w' => (e = .returned (.bool (stB x y z)) ∧ Below w.heap.size w w') := by
  have hb : Below w.heap.size w (w.alloc (.cells #[.int .i64 x, .int .i64 y, .int .i64 z] 32)) := (Below.refl _ _).alloc (Nat.le_refl _) _
  unfold stB
  cases hx : inB x
  · have Hx := Lib.hid hx
    clear hx
    go_enter Try.func82, Try.ntmps82
    go_wp2_with fail
    refine (okfn_any x _).mono ?_
    rw [Hx.out]
    rintro e w' ⟨rfl, rfl⟩
    go_wp2_with fail
    go_ret
    exact ⟨rfl, hb⟩
  cases hy : inB y
  · have Hx := Lib.hid hx
    have Hy := Lib.hid hy
    clear hx hy
    go_enter Try.func82, Try.ntmps82
    go_wp2_with fail
    refine (okfn_any x _).mono ?_
    rw [Hx.out]
    rintro e w' ⟨rfl, rfl⟩
    go_wp2_with fail
    refine (okfn_any y _).mono ?_
    rw [Hy.out]
    rintro e w' ⟨rfl, rfl⟩
    go_wp2_with fail
    go_ret
    exact ⟨rfl, hb⟩
  · have Hx := Lib.hid hx
    have Hy := Lib.hid hy
    obtain ⟨v, hz⟩ : ∃ v, inB z = v := ⟨_, rfl⟩
    rw [hz]
    have Hz := Lib.hid hz
    clear hx hy hz
    go_enter Try.func82, Try.ntmps82
    go_wp2_with fail
    refine (okfn_any x _).mono ?_
    rw [Hx.out]
    rintro e w' ⟨rfl, rfl⟩
    go_wp2_with fail
    refine (okfn_any y _).mono ?_
    rw [Hy.out]
    rintro e w' ⟨rfl, rfl⟩
    go_wp2_with fail
    refine (okfn_any z _).mono ?_
    rw [Hz.out]
    rintro e w' ⟨rfl, rfl⟩
    go_wp2_with fail
    go_ret
    exact ⟨ret_bool (by first | rfl | simp), hb⟩

end Go.Proofs.Ythdgheglmkhcbaa

/- Values of states side by side; what an expression, a test, a wide test is in states: the program's and the reference's. -/
namespace Go.Proofs.Ythdgheglmkhcbaa
open Go.RowKit
open Pl

set_option maxHeartbeats 1000000 in
theorem envOf_any (x y z X Y Z : Int) (w : World) : Calls Try.prog 76 #[.agg #[.int .i64 x, .int .i64 y, .int .i64 z], .agg #[.int .i64 X, .int .i64 Y, .int .i64 Z]] w fun e w' =>
    (e = .returned (.agg #[.int .i64 x, .int .i64 y, .int .i64 z, .int .i64 X, .int .i64 Y, .int .i64 Z]) ∧ Below w.heap.size w w') := by
  go_enter Try.func76, Try.ntmps76
  go_wp2_with fail
  exact bodyPost_ret (v := .agg #[.int .i64 x, .int .i64 y, .int .i64 z, .int .i64 X, .int .i64 Y, .int .i64 Z]) (by simp [results, Try.results76, go_sem]) rfl
    ⟨rfl, (((Below.refl _ _).alloc (Nat.le_refl _) _).alloc (by simp) _).alloc (by simp; omega) _⟩
set_option maxHeartbeats 1000000 in
theorem one_any (x y z : Int) (w : World) : Calls Try.prog 186 #[.agg #[.int .i64 x, .int .i64 y, .int .i64 z]] w fun e w' =>
    (e = .returned (.agg #[.int .i64 x, .int .i64 y, .int .i64 z, .int .i64 0, .int .i64 0, .int .i64 0]) ∧ Below w.heap.size w w') := by
  go_enter Try.func186, Try.ntmps186
  go_wp2_with fail
  exact bodyPost_ret (v := .agg #[.int .i64 x, .int .i64 y, .int .i64 z, .int .i64 0, .int .i64 0, .int .i64 0]) (by simp [results, Try.results186, go_sem]) rfl
    ⟨rfl, ((Below.refl _ _).alloc (Nat.le_refl _) _).alloc (by simp) _⟩
set_option maxHeartbeats 1000000 in
theorem env6_any (x y z X Y Z : Int) (w : World) : Calls Try.prog 138 #[.agg #[.int .i64 x, .int .i64 y, .int .i64 z], .agg #[.int .i64 X, .int .i64 Y, .int .i64 Z]] w fun e w' =>
    (e = .returned (.agg #[.int .i64 x, .int .i64 y, .int .i64 z, .int .i64 X, .int .i64 Y, .int .i64 Z]) ∧ Below w.heap.size w w') := by
  go_enter Try.func138, Try.ntmps138
  go_wp2_with fail
  exact bodyPost_ret (v := .agg #[.int .i64 x, .int .i64 y, .int .i64 z, .int .i64 X, .int .i64 Y, .int .i64 Z]) (by simp [results, Try.results138, go_sem]) rfl
    ⟨rfl, (((Below.refl _ _).alloc (Nat.le_refl _) _).alloc (by simp) _).alloc (by simp; omega) _⟩

end Go.Proofs.Ythdgheglmkhcbaa

/- EvalExpr, EvalTest, EvalWide of the program. -/
namespace Go.Proofs.Ythdgheglmkhcbaa
open Go.RowKit
open Pl

def evT (o : Option Nd) (v : Bool) (ρ : UInt8 → Int) : Bool :=
  match o with
  | some k => v && tru ρ k
  | none => false
def evV (o : Option Nd) (v : Bool) (ρ : UInt8 → Int) : Int :=
  match o with
  | some k => if v then val ρ k else 0
  | none => 0
def evO (o : Option Nd) (v : Bool) : Bool := o.isSome && v
theorem stB_small {x y z : Int} (h : stB x y z = true) : small x ∧ small y ∧ small z := by
  simp only [stB, Bool.and_eq_true] at h
  exact ⟨inB_small.1 h.1, inB_small.1 h.2.1, inB_small.1 h.2.2⟩

theorem env_new (w : World) (x y z X Y Z : Int) : Env (w.alloc (.cells #[.int .i64 x, .int .i64 y, .int .i64 z, .int .i64 X, .int .i64 Y, .int .i64 Z] 66)) w.heap.size x y z X Y Z := by
  have h := Blk.new w 66 #[.int .i64 x, .int .i64 y, .int .i64 z, .int .i64 X, .int .i64 Y, .int .i64 Z]
  exact ⟨h.lt, h.cell 0, h.cell 1, h.cell 2, h.cell 3, h.cell 4, h.cell 5⟩


end Go.Proofs.Ythdgheglmkhcbaa

/- EvalWide of the program; EvalTest, EvalExpr, EvalWide of the reference. -/
namespace Go.Proofs.Ythdgheglmkhcbaa
open Go.RowKit
open Pl

set_option maxHeartbeats 2000000 in
theorem EvalWide_any (S : ByteArray) (hS : S.size ≤ 1000000000000) (x y z X Y Z : Int) (w : World) : Calls Try.prog 20 #[.string S, .agg #[.int .i64 x, .int .i64 y, .int .i64 z], .agg #[.int .i64 X, .int .i64 Y, .int .i64 Z]] w fun e w' =>
    (e = .returned (.tuple #[.bool (evT (whole true 1 200 S.data.toList) (stB x y z && stB X Y Z) (envOf x y z X Y Z)), .bool (evO (whole true 1 200 S.data.toList) (stB x y z && stB X Y Z))]) ∧ Below w.heap.size w w') := by
  have R := Lib.hid (fun w => parseWideTest_any S hS w)
  have hal : Below w.heap.size w ((w.alloc (.cells #[.int .i64 x, .int .i64 y, .int .i64 z] 32)).alloc (.cells #[.int .i64 X, .int .i64 Y, .int .i64 Z] 32)) := ((Below.refl _ _).alloc (Nat.le_refl _) _).alloc (by simp) _
  have k1 : Blk ((w.alloc (.cells #[.int .i64 x, .int .i64 y, .int .i64 z] 32)).alloc (.cells #[.int .i64 X, .int .i64 Y, .int .i64 Z] 32)) w.heap.size 32 #[.int .i64 x, .int .i64 y, .int .i64 z] := (Blk.new w 32 _).alloc _
  have k2 : Blk ((w.alloc (.cells #[.int .i64 x, .int .i64 y, .int .i64 z] 32)).alloc (.cells #[.int .i64 X, .int .i64 Y, .int .i64 Z] 32)) (w.heap.size + 1) 32 #[.int .i64 X, .int .i64 Y, .int .i64 Z] := by
    have h := Blk.new (w.alloc (.cells #[.int .i64 x, .int .i64 y, .int .i64 z] 32)) 32 #[.int .i64 X, .int .i64 Y, .int .i64 Z]
    simpa using h
  have K1 := Lib.hid k1
  have K2 := Lib.hid k2
  clear k1 k2
  cases ho : whole true 1 200 S.data.toList with
  | none =>
    rw [ho] at R
    clear ho K1 K2
    simp only [evT, evO, Option.isSome_none, Bool.false_and]
    go_enter Try.func20, Try.ntmps20
    go_wp2_with fail
    refine (R.out _).mono ?_
    rintro e w1 ⟨hb1, rfl⟩
    clear R
    have B1 := Lib.hid (below_2 hal hb1)
    clear hb1
    go_wp2_with fail
    go_ret2
    exact ⟨(by first | trivial | rfl), B1.out⟩
  | some k =>
    rw [ho] at R
    obtain ⟨_, hk, _⟩ := (whole_iff (by omega)).1 ho
    simp only [evT, evO, Option.isSome_some, Bool.true_and]
    cases hv : stB x y z
    · have SV := Lib.hid (fun w => StateValid_any x y z w)
      rw [hv] at SV
      clear ho hv hk K2
      simp only [Bool.false_and]
      go_enter Try.func20, Try.ntmps20
      go_wp2_with fail
      refine (R.out _).mono ?_
      rintro e w1 ⟨hb1, b, rfl, hin⟩
      clear R hin
      have dk := K1.out.below hb1 (by simp; omega)
      have d0 := dk.cell 0
      have d1 := dk.cell 1
      have d2 := dk.cell 2
      simp at d0 d1 d2
      have B1 := Lib.hid (below_2 hal hb1)
      clear hb1 dk K1
      go_wp2_with fail
      refine (SV.out _).mono ?_
      rintro e w2 ⟨rfl, hb2⟩
      have B2 := Lib.hid (below_2 B1.out hb2)
      clear hb2 d0 d1 d2
      go_wp2_with fail
      go_ret2
      exact ⟨(by first | trivial | rfl), B2.out⟩
    have SV := Lib.hid (fun w => StateValid_any x y z w)
    rw [hv] at SV
    have SW := Lib.hid (fun w => StateValid_any X Y Z w)
    obtain ⟨sx, sy, sz⟩ := stB_small hv
    cases hv2 : stB X Y Z
    · rw [hv2] at SW
      clear ho hv hv2 hk sx sy sz
      simp only [Bool.true_and, Bool.false_and]
      go_enter Try.func20, Try.ntmps20
      go_wp2_with fail
      refine (R.out _).mono ?_
      rintro e w1 ⟨hb1, b, rfl, hin⟩
      clear R hin
      have dk := K1.out.below hb1 (by simp; omega)
      have d0 := dk.cell 0
      have d1 := dk.cell 1
      have d2 := dk.cell 2
      have ek := K2.out.below hb1 (by simp)
      have hz1 := ek.lt
      have e0 := ek.cell 0
      have e1 := ek.cell 1
      have e2 := ek.cell 2
      simp at d0 d1 d2 e0 e1 e2
      have B1 := Lib.hid (below_2 hal hb1)
      clear hb1 dk K1 ek K2
      go_wp2_with fail
      refine (SV.out _).mono ?_
      rintro e w2 ⟨rfl, hb2⟩
      have E0 := (hb2.cell (p := ⟨w.heap.size + 1, 0, none⟩) hz1).trans e0
      have E1 := (hb2.cell (p := ⟨w.heap.size + 1, 1, none⟩) hz1).trans e1
      have E2 := (hb2.cell (p := ⟨w.heap.size + 1, 2, none⟩) hz1).trans e2
      have B2 := Lib.hid (below_2 B1.out hb2)
      clear hb2 d0 d1 d2 e0 e1 e2 hz1
      go_wp2_with fail
      refine (SW.out _).mono ?_
      rintro e w3 ⟨rfl, hb3⟩
      have B3 := Lib.hid (below_2 B2.out hb3)
      clear hb3 E0 E1 E2
      go_wp2_with fail
      go_ret2
      exact ⟨(by first | trivial | rfl), B3.out⟩
    · rw [hv2] at SW
      obtain ⟨sX, sY, sZ⟩ := stB_small hv2
      simp only [Bool.true_and]
      have TR := Lib.hid (fun eb b w h1 h2 => truth_any x y z X Y Z sx sy sz sX sY sZ true eb k b w hk h1 h2)
      obtain ⟨tv, htv⟩ : ∃ v, tru (envOf x y z X Y Z) k = v := ⟨_, rfl⟩
      rw [htv] at TR ⊢
      clear ho hv hv2 hk htv sx sy sz sX sY sZ
      go_enter Try.func20, Try.ntmps20
      go_wp2_with fail
      refine (R.out _).mono ?_
      rintro e w1 ⟨hb1, b, rfl, hin⟩
      have IN1 := Lib.hid hin
      clear R hin
      have dk := K1.out.below hb1 (by simp; omega)
      have hy1 := dk.lt
      have d0 := dk.cell 0
      have d1 := dk.cell 1
      have d2 := dk.cell 2
      have ek := K2.out.below hb1 (by simp)
      have hz1 := ek.lt
      have e0 := ek.cell 0
      have e1 := ek.cell 1
      have e2 := ek.cell 2
      simp at d0 d1 d2 e0 e1 e2
      have B1 := Lib.hid (below_2 hal hb1)
      clear hb1 dk K1 ek K2
      go_wp2_with fail
      refine (SV.out _).mono ?_
      rintro e w2 ⟨rfl, hb2⟩
      have D0 := (hb2.cell (p := ⟨w.heap.size, 0, none⟩) hy1).trans d0
      have D1 := (hb2.cell (p := ⟨w.heap.size, 1, none⟩) hy1).trans d1
      have D2 := (hb2.cell (p := ⟨w.heap.size, 2, none⟩) hy1).trans d2
      have E0 := (hb2.cell (p := ⟨w.heap.size + 1, 0, none⟩) hz1).trans e0
      have E1 := (hb2.cell (p := ⟨w.heap.size + 1, 1, none⟩) hz1).trans e1
      have E2 := (hb2.cell (p := ⟨w.heap.size + 1, 2, none⟩) hz1).trans e2
      have hy2 := Nat.lt_of_lt_of_le hy1 hb2.size
      have hz2 := Nat.lt_of_lt_of_le hz1 hb2.size
      have IN2 := Lib.hid (IN1.out.below hb2 (Nat.le_refl _))
      have B2 := Lib.hid (below_2 B1.out hb2)
      clear hb2 d0 d1 d2 e0 e1 e2 hz1 hy1
      go_wp2_with fail
      refine (SW.out _).mono ?_
      rintro e w3 ⟨rfl, hb3⟩
      have d0 := (hb3.cell (p := ⟨w.heap.size, 0, none⟩) hy2).trans D0
      have d1 := (hb3.cell (p := ⟨w.heap.size, 1, none⟩) hy2).trans D1
      have d2 := (hb3.cell (p := ⟨w.heap.size, 2, none⟩) hy2).trans D2
      have e0 := (hb3.cell (p := ⟨w.heap.size + 1, 0, none⟩) hz2).trans E0
      have e1 := (hb3.cell (p := ⟨w.heap.size + 1, 1, none⟩) hz2).trans E1
      have e2 := (hb3.cell (p := ⟨w.heap.size + 1, 2, none⟩) hz2).trans E2
      have IN3 := Lib.hid (IN2.out.below hb3 (Nat.le_refl _))
      have B3 := Lib.hid (below_2 B2.out hb3)
      clear hb3 D0 D1 D2 E0 E1 E2 hz2 hy2
      go_wp2_with fail
      refine (envOf_any x y z X Y Z w3).mono ?_
      rintro e w4 ⟨rfl, hb4⟩
      have IN4 := Lib.hid (IN3.out.below hb4 (Nat.le_refl _))
      have B4 := Lib.hid (below_2 B3.out hb4)
      clear hb4 d0 d1 d2 e0 e1 e2
      go_wp2_with fail
      refine (TR.out w4.heap.size b (w4.alloc (.cells #[.int .i64 x, .int .i64 y, .int .i64 z, .int .i64 X, .int .i64 Y, .int .i64 Z] 66)) (IN4.out.below ((Below.refl _ _).alloc (Nat.le_refl _) _) (Nat.le_refl _)) (env_new w4 x y z X Y Z)).mono ?_
      rintro e w5 ⟨rfl, n, rfl⟩
      go_wp2_with fail
      go_ret2
      exact ⟨(by first | trivial | rfl), below_2 B4.out (((Below.refl _ _).alloc (Nat.le_refl _) _).trans (below_drewN _ _ _))⟩

end Go.Proofs.Ythdgheglmkhcbaa
