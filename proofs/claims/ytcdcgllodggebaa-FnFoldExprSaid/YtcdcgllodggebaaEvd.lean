/- EvalWide of the program; EvalTest, EvalExpr, EvalWide of the reference. -/
import Derived.Test.YtcdcgllodggebaaEvc
namespace Go.Proofs.Ytcdcgllodggebaa
open Go.RowKit
open Pl

set_option maxHeartbeats 2000000 in
theorem EvalWide_any (S : ByteArray) (hS : S.size ≤ 1000000000000) (x y z X Y Z : Int) (w : World) : Calls Try.prog 49 #[.string S, .agg #[.int .i64 x, .int .i64 y, .int .i64 z], .agg #[.int .i64 X, .int .i64 Y, .int .i64 Z]] w fun e w' =>
    (e = .returned (.tuple #[.bool (evT (whole true 1 200 S.data.toList) (stB x y z && stB X Y Z) (envOf x y z X Y Z)), .bool (evO (whole true 1 200 S.data.toList) (stB x y z && stB X Y Z))]) ∧ Below w.heap.size w w') := by
  have R := Lib.hid (fun w => parseWideTest_any S hS w)
  have hal : Below w.heap.size w ((w.alloc (.cells #[.int .i64 x, .int .i64 y, .int .i64 z] 35)).alloc (.cells #[.int .i64 X, .int .i64 Y, .int .i64 Z] 35)) := ((Below.refl _ _).alloc (Nat.le_refl _) _).alloc (by simp) _
  have k1 : Blk ((w.alloc (.cells #[.int .i64 x, .int .i64 y, .int .i64 z] 35)).alloc (.cells #[.int .i64 X, .int .i64 Y, .int .i64 Z] 35)) w.heap.size 35 #[.int .i64 x, .int .i64 y, .int .i64 z] := (Blk.new w 35 _).alloc _
  have k2 : Blk ((w.alloc (.cells #[.int .i64 x, .int .i64 y, .int .i64 z] 35)).alloc (.cells #[.int .i64 X, .int .i64 Y, .int .i64 Z] 35)) (w.heap.size + 1) 35 #[.int .i64 X, .int .i64 Y, .int .i64 Z] := by
    have h := Blk.new (w.alloc (.cells #[.int .i64 x, .int .i64 y, .int .i64 z] 35)) 35 #[.int .i64 X, .int .i64 Y, .int .i64 Z]
    simpa using h
  have K1 := Lib.hid k1
  have K2 := Lib.hid k2
  clear k1 k2
  cases ho : whole true 1 200 S.data.toList with
  | none =>
    rw [ho] at R
    clear ho K1 K2
    simp only [evT, evO, Option.isSome_none, Bool.false_and]
    go_enter Try.func49, Try.ntmps49
    go_wp2_with fail
    refine (R.out _).mono ?_
    rintro e w1 ⟨hb1, rfl⟩
    clear R
    have B1 := Lib.hid (below_2 hal hb1)
    clear hb1
    go_wp2_with fail
    go_ret2
    exact ⟨(by first | trivial | rfl), B1.out⟩
  | some k =>
    rw [ho] at R
    obtain ⟨_, hk, _⟩ := (whole_iff (by omega)).1 ho
    simp only [evT, evO, Option.isSome_some, Bool.true_and]
    cases hv : stB x y z
    · have SV := Lib.hid (fun w => StateValid_any x y z w)
      rw [hv] at SV
      clear ho hv hk K2
      simp only [Bool.false_and]
      go_enter Try.func49, Try.ntmps49
      go_wp2_with fail
      refine (R.out _).mono ?_
      rintro e w1 ⟨hb1, b, rfl, hin⟩
      clear R hin
      have dk := K1.out.below hb1 (by simp; omega)
      have d0 := dk.cell 0
      have d1 := dk.cell 1
      have d2 := dk.cell 2
      simp at d0 d1 d2
      have B1 := Lib.hid (below_2 hal hb1)
      clear hb1 dk K1
      go_wp2_with fail
      refine (SV.out _).mono ?_
      rintro e w2 ⟨rfl, hb2⟩
      have B2 := Lib.hid (below_2 B1.out hb2)
      clear hb2 d0 d1 d2
      go_wp2_with fail
      go_ret2
      exact ⟨(by first | trivial | rfl), B2.out⟩
    have SV := Lib.hid (fun w => StateValid_any x y z w)
    rw [hv] at SV
    have SW := Lib.hid (fun w => StateValid_any X Y Z w)
    obtain ⟨sx, sy, sz⟩ := stB_small hv
    cases hv2 : stB X Y Z
    · rw [hv2] at SW
      clear ho hv hv2 hk sx sy sz
      simp only [Bool.true_and, Bool.false_and]
      go_enter Try.func49, Try.ntmps49
      go_wp2_with fail
      refine (R.out _).mono ?_
      rintro e w1 ⟨hb1, b, rfl, hin⟩
      clear R hin
      have dk := K1.out.below hb1 (by simp; omega)
      have d0 := dk.cell 0
      have d1 := dk.cell 1
      have d2 := dk.cell 2
      have ek := K2.out.below hb1 (by simp)
      have hz1 := ek.lt
      have e0 := ek.cell 0
      have e1 := ek.cell 1
      have e2 := ek.cell 2
      simp at d0 d1 d2 e0 e1 e2
      have B1 := Lib.hid (below_2 hal hb1)
      clear hb1 dk K1 ek K2
      go_wp2_with fail
      refine (SV.out _).mono ?_
      rintro e w2 ⟨rfl, hb2⟩
      have E0 := (hb2.cell (p := ⟨w.heap.size + 1, 0, none⟩) hz1).trans e0
      have E1 := (hb2.cell (p := ⟨w.heap.size + 1, 1, none⟩) hz1).trans e1
      have E2 := (hb2.cell (p := ⟨w.heap.size + 1, 2, none⟩) hz1).trans e2
      have B2 := Lib.hid (below_2 B1.out hb2)
      clear hb2 d0 d1 d2 e0 e1 e2 hz1
      go_wp2_with fail
      refine (SW.out _).mono ?_
      rintro e w3 ⟨rfl, hb3⟩
      have B3 := Lib.hid (below_2 B2.out hb3)
      clear hb3 E0 E1 E2
      go_wp2_with fail
      go_ret2
      exact ⟨(by first | trivial | rfl), B3.out⟩
    · rw [hv2] at SW
      obtain ⟨sX, sY, sZ⟩ := stB_small hv2
      simp only [Bool.true_and]
      have TR := Lib.hid (fun eb b w h1 h2 => truth_any x y z X Y Z sx sy sz sX sY sZ true eb k b w hk h1 h2)
      obtain ⟨tv, htv⟩ : ∃ v, tru (envOf x y z X Y Z) k = v := ⟨_, rfl⟩
      rw [htv] at TR ⊢
      clear ho hv hv2 hk htv sx sy sz sX sY sZ
      go_enter Try.func49, Try.ntmps49
      go_wp2_with fail
      refine (R.out _).mono ?_
      rintro e w1 ⟨hb1, b, rfl, hin⟩
      have IN1 := Lib.hid hin
      clear R hin
      have dk := K1.out.below hb1 (by simp; omega)
      have hy1 := dk.lt
      have d0 := dk.cell 0
      have d1 := dk.cell 1
      have d2 := dk.cell 2
      have ek := K2.out.below hb1 (by simp)
      have hz1 := ek.lt
      have e0 := ek.cell 0
      have e1 := ek.cell 1
      have e2 := ek.cell 2
      simp at d0 d1 d2 e0 e1 e2
      have B1 := Lib.hid (below_2 hal hb1)
      clear hb1 dk K1 ek K2
      go_wp2_with fail
      refine (SV.out _).mono ?_
      rintro e w2 ⟨rfl, hb2⟩
      have D0 := (hb2.cell (p := ⟨w.heap.size, 0, none⟩) hy1).trans d0
      have D1 := (hb2.cell (p := ⟨w.heap.size, 1, none⟩) hy1).trans d1
      have D2 := (hb2.cell (p := ⟨w.heap.size, 2, none⟩) hy1).trans d2
      have E0 := (hb2.cell (p := ⟨w.heap.size + 1, 0, none⟩) hz1).trans e0
      have E1 := (hb2.cell (p := ⟨w.heap.size + 1, 1, none⟩) hz1).trans e1
      have E2 := (hb2.cell (p := ⟨w.heap.size + 1, 2, none⟩) hz1).trans e2
      have hy2 := Nat.lt_of_lt_of_le hy1 hb2.size
      have hz2 := Nat.lt_of_lt_of_le hz1 hb2.size
      have IN2 := Lib.hid (IN1.out.below hb2 (Nat.le_refl _))
      have B2 := Lib.hid (below_2 B1.out hb2)
      clear hb2 d0 d1 d2 e0 e1 e2 hz1 hy1
      go_wp2_with fail
      refine (SW.out _).mono ?_
      rintro e w3 ⟨rfl, hb3⟩
      have d0 := (hb3.cell (p := ⟨w.heap.size, 0, none⟩) hy2).trans D0
      have d1 := (hb3.cell (p := ⟨w.heap.size, 1, none⟩) hy2).trans D1
      have d2 := (hb3.cell (p := ⟨w.heap.size, 2, none⟩) hy2).trans D2
      have e0 := (hb3.cell (p := ⟨w.heap.size + 1, 0, none⟩) hz2).trans E0
      have e1 := (hb3.cell (p := ⟨w.heap.size + 1, 1, none⟩) hz2).trans E1
      have e2 := (hb3.cell (p := ⟨w.heap.size + 1, 2, none⟩) hz2).trans E2
      have IN3 := Lib.hid (IN2.out.below hb3 (Nat.le_refl _))
      have B3 := Lib.hid (below_2 B2.out hb3)
      clear hb3 D0 D1 D2 E0 E1 E2 hz2 hy2
      go_wp2_with fail
      refine (envOf_any x y z X Y Z w3).mono ?_
      rintro e w4 ⟨rfl, hb4⟩
      have IN4 := Lib.hid (IN3.out.below hb4 (Nat.le_refl _))
      have B4 := Lib.hid (below_2 B3.out hb4)
      clear hb4 d0 d1 d2 e0 e1 e2
      go_wp2_with fail
      refine (TR.out w4.heap.size b (w4.alloc (.cells #[.int .i64 x, .int .i64 y, .int .i64 z, .int .i64 X, .int .i64 Y, .int .i64 Z] 70)) (IN4.out.below ((Below.refl _ _).alloc (Nat.le_refl _) _) (Nat.le_refl _)) (env_new w4 x y z X Y Z)).mono ?_
      rintro e w5 ⟨rfl, n, rfl⟩
      go_wp2_with fail
      go_ret2
      exact ⟨(by first | trivial | rfl), below_2 B4.out (((Below.refl _ _).alloc (Nat.le_refl _) _).trans (below_drewN _ _ _))⟩
set_option maxHeartbeats 2000000 in
theorem EvalTestS_any (S : ByteArray) (hS : S.size ≤ 1000000000000) (x y z : Int) (w : World) : Calls Try.prog 41 #[.string S, .agg #[.int .i64 x, .int .i64 y, .int .i64 z]] w fun e w' =>
    (e = .returned (.tuple #[.bool (evT (whole false 1 200 S.data.toList) (stB x y z) (envOf x y z 0 0 0)), .bool (evO (whole false 1 200 S.data.toList) (stB x y z))]) ∧ Below w.heap.size w w') := by
  have R := Lib.hid (fun w => TestValidS_any S w hS)
  have hal : Below w.heap.size w (w.alloc (.cells #[.int .i64 x, .int .i64 y, .int .i64 z] 35)) := (Below.refl _ _).alloc (Nat.le_refl _) _
  have k1 : Blk (w.alloc (.cells #[.int .i64 x, .int .i64 y, .int .i64 z] 35)) w.heap.size 35 #[.int .i64 x, .int .i64 y, .int .i64 z] := Blk.new w _ _
  have K1 := Lib.hid k1
  clear k1
  cases ho : whole false 1 200 S.data.toList with
  | none =>
    rw [ho] at R
    clear ho K1
    simp only [evT, evO, Option.isSome_none, Bool.false_and] at R ⊢
    go_enter Try.func41, Try.ntmps41
    go_wp2_with fail
    refine (R.out _).mono ?_
    rintro e w1 ⟨rfl, n1, rfl⟩
    clear R
    go_wp2_with fail
    go_ret2
    exact ⟨(by first | trivial | rfl), hal.trans (below_drewN _ _ _)⟩
  | some k =>
    rw [ho] at R
    obtain ⟨hle, hk, htx⟩ := (whole_iff (by omega)).1 ho
    have hS' : S.size ≤ 1000000 := by have := len_S S; omega
    have htx' : S.data.toList.drop 0 = k.text ++ [] := by simp [htx]
    simp only [evT, evO, Option.isSome_some, Bool.true_and] at R ⊢
    have SV := Lib.hid (fun w => StateValidS_any x y z w)
    cases hv : stB x y z
    · rw [hv] at SV
      clear ho hv hk hle htx htx'
      simp only [Bool.false_and]
      go_enter Try.func41, Try.ntmps41
      go_wp2_with fail
      refine (R.out _).mono ?_
      rintro e w1 ⟨rfl, n1, hw⟩
      have hb1 : Below (w.alloc (.cells #[.int .i64 x, .int .i64 y, .int .i64 z] 35)).heap.size (w.alloc (.cells #[.int .i64 x, .int .i64 y, .int .i64 z] 35)) w1 := by rw [hw]; exact below_drewN _ _ _
      clear hw
      have dk := K1.out.below hb1 (by simp)
      have d0 := dk.cell 0
      have d1 := dk.cell 1
      have d2 := dk.cell 2
      simp at d0 d1 d2
      have B1 := Lib.hid (below_2 hal hb1)
      clear R hb1 dk K1
      go_wp2_with fail
      refine (SV.out _).mono ?_
      rintro e w2 ⟨rfl, hb2⟩
      have B2 := Lib.hid (below_2 B1.out hb2)
      clear hb2 d0 d1 d2
      go_wp2_with fail
      go_ret2
      exact ⟨(by first | trivial | rfl), B2.out⟩
    rw [hv] at SV
    obtain ⟨sx, sy, sz⟩ := stB_small hv
    · have s0 : small 0 := ⟨by omega, by omega⟩
      simp only [Bool.true_and]
      have TR := Lib.hid (fun w => holdsS_any S hS' x y z 0 0 0 sx sy sz s0 s0 s0 false k 0 [] w hk htx')
      obtain ⟨tv, htv⟩ : ∃ v, tru (envOf x y z 0 0 0) k = v := ⟨_, rfl⟩
      rw [htv] at TR ⊢
      clear ho hv hk htv sx sy sz s0 hle htx htx'
      go_enter Try.func41, Try.ntmps41
      go_wp2_with fail
      refine (R.out _).mono ?_
      rintro e w1 ⟨rfl, n1, hw⟩
      have hb1 : Below (w.alloc (.cells #[.int .i64 x, .int .i64 y, .int .i64 z] 35)).heap.size (w.alloc (.cells #[.int .i64 x, .int .i64 y, .int .i64 z] 35)) w1 := by rw [hw]; exact below_drewN _ _ _
      clear hw
      have dk := K1.out.below hb1 (by simp)
      have hy1 := dk.lt
      have d0 := dk.cell 0
      have d1 := dk.cell 1
      have d2 := dk.cell 2
      simp at d0 d1 d2
      have B1 := Lib.hid (below_2 hal hb1)
      clear R hb1 dk K1
      go_wp2_with fail
      refine (SV.out _).mono ?_
      rintro e w2 ⟨rfl, hb2⟩
      have D0 := (hb2.cell (p := ⟨w.heap.size, 0, none⟩) hy1).trans d0
      have D1 := (hb2.cell (p := ⟨w.heap.size, 1, none⟩) hy1).trans d1
      have D2 := (hb2.cell (p := ⟨w.heap.size, 2, none⟩) hy1).trans d2
      have B2 := Lib.hid (below_2 B1.out hb2)
      clear hb2 d0 d1 d2 hy1
      go_wp2_with fail
      refine (one_any x y z w2).mono ?_
      rintro e w3 ⟨rfl, hb3⟩
      have B3 := Lib.hid (below_2 B2.out hb3)
      clear hb3 D0 D1 D2
      go_wp2_with fail
      refine (TR.out _).mono ?_
      rintro e w4 ⟨rfl, hb4⟩
      have B4 := Lib.hid (below_2 B3.out hb4)
      clear hb4
      go_wp2_with fail
      go_ret2
      exact ⟨(by first | trivial | rfl), B4.out⟩
set_option maxHeartbeats 2000000 in
theorem EvalExprS_any (S : ByteArray) (hS : S.size ≤ 1000000000000) (x y z : Int) (w : World) : Calls Try.prog 34 #[.string S, .agg #[.int .i64 x, .int .i64 y, .int .i64 z]] w fun e w' =>
    (e = .returned (.tuple #[.int .i64 (evV (whole false 0 200 S.data.toList) (stB x y z) (envOf x y z 0 0 0)), .bool (evO (whole false 0 200 S.data.toList) (stB x y z))]) ∧ Below w.heap.size w w') := by
  have R := Lib.hid (fun w => ExprValidS_any S w hS)
  have hal : Below w.heap.size w (w.alloc (.cells #[.int .i64 x, .int .i64 y, .int .i64 z] 35)) := (Below.refl _ _).alloc (Nat.le_refl _) _
  have k1 : Blk (w.alloc (.cells #[.int .i64 x, .int .i64 y, .int .i64 z] 35)) w.heap.size 35 #[.int .i64 x, .int .i64 y, .int .i64 z] := Blk.new w _ _
  have K1 := Lib.hid k1
  clear k1
  cases ho : whole false 0 200 S.data.toList with
  | none =>
    rw [ho] at R
    clear ho K1
    simp only [evV, evO, Option.isSome_none, Bool.false_and] at R ⊢
    go_enter Try.func34, Try.ntmps34
    go_wp2_with fail
    refine (R.out _).mono ?_
    rintro e w1 ⟨rfl, n1, rfl⟩
    clear R
    go_wp2_with fail
    go_ret2
    exact ⟨(by first | trivial | rfl), hal.trans (below_drewN _ _ _)⟩
  | some k =>
    rw [ho] at R
    obtain ⟨hle, hk, htx⟩ := (whole_iff (by omega)).1 ho
    have hS' : S.size ≤ 1000000 := by have := len_S S; omega
    have htx' : S.data.toList.drop 0 = k.text ++ [] := by simp [htx]
    simp only [evV, evO, Option.isSome_some, Bool.true_and] at R ⊢
    have SV := Lib.hid (fun w => StateValidS_any x y z w)
    cases hv : stB x y z
    · rw [hv] at SV
      clear ho hv hk hle htx htx'
      simp only [Bool.false_eq_true, if_false]
      go_enter Try.func34, Try.ntmps34
      go_wp2_with fail
      refine (R.out _).mono ?_
      rintro e w1 ⟨rfl, n1, hw⟩
      have hb1 : Below (w.alloc (.cells #[.int .i64 x, .int .i64 y, .int .i64 z] 35)).heap.size (w.alloc (.cells #[.int .i64 x, .int .i64 y, .int .i64 z] 35)) w1 := by rw [hw]; exact below_drewN _ _ _
      clear hw
      have dk := K1.out.below hb1 (by simp)
      have d0 := dk.cell 0
      have d1 := dk.cell 1
      have d2 := dk.cell 2
      simp at d0 d1 d2
      have B1 := Lib.hid (below_2 hal hb1)
      clear R hb1 dk K1
      go_wp2_with fail
      refine (SV.out _).mono ?_
      rintro e w2 ⟨rfl, hb2⟩
      have B2 := Lib.hid (below_2 B1.out hb2)
      clear hb2 d0 d1 d2
      go_wp2_with fail
      go_ret2
      exact ⟨(by first | trivial | rfl), B2.out⟩
    rw [hv] at SV
    obtain ⟨sx, sy, sz⟩ := stB_small hv
    · have s0 : small 0 := ⟨by omega, by omega⟩
      simp only [if_true]
      have TR := Lib.hid (fun w => valueS_any S hS' x y z 0 0 0 sx sy sz s0 s0 s0 false k 0 [] w hk htx')
      obtain ⟨tv, htv⟩ : ∃ v, val (envOf x y z 0 0 0) k = v := ⟨_, rfl⟩
      rw [htv] at TR ⊢
      clear ho hv hk htv sx sy sz s0 hle htx htx'
      go_enter Try.func34, Try.ntmps34
      go_wp2_with fail
      refine (R.out _).mono ?_
      rintro e w1 ⟨rfl, n1, hw⟩
      have hb1 : Below (w.alloc (.cells #[.int .i64 x, .int .i64 y, .int .i64 z] 35)).heap.size (w.alloc (.cells #[.int .i64 x, .int .i64 y, .int .i64 z] 35)) w1 := by rw [hw]; exact below_drewN _ _ _
      clear hw
      have dk := K1.out.below hb1 (by simp)
      have hy1 := dk.lt
      have d0 := dk.cell 0
      have d1 := dk.cell 1
      have d2 := dk.cell 2
      simp at d0 d1 d2
      have B1 := Lib.hid (below_2 hal hb1)
      clear R hb1 dk K1
      go_wp2_with fail
      refine (SV.out _).mono ?_
      rintro e w2 ⟨rfl, hb2⟩
      have D0 := (hb2.cell (p := ⟨w.heap.size, 0, none⟩) hy1).trans d0
      have D1 := (hb2.cell (p := ⟨w.heap.size, 1, none⟩) hy1).trans d1
      have D2 := (hb2.cell (p := ⟨w.heap.size, 2, none⟩) hy1).trans d2
      have B2 := Lib.hid (below_2 B1.out hb2)
      clear hb2 d0 d1 d2 hy1
      go_wp2_with fail
      refine (one_any x y z w2).mono ?_
      rintro e w3 ⟨rfl, hb3⟩
      have B3 := Lib.hid (below_2 B2.out hb3)
      clear hb3 D0 D1 D2
      go_wp2_with fail
      refine (TR.out _).mono ?_
      rintro e w4 ⟨rfl, hb4⟩
      have B4 := Lib.hid (below_2 B3.out hb4)
      clear hb4
      go_wp2_with fail
      go_ret2
      exact ⟨(by first | trivial | rfl), B4.out⟩
set_option maxHeartbeats 2000000 in
theorem EvalWideS_any (S : ByteArray) (hS : S.size ≤ 1000000000000) (x y z X Y Z : Int) (w : World) : Calls Try.prog 48 #[.string S, .agg #[.int .i64 x, .int .i64 y, .int .i64 z], .agg #[.int .i64 X, .int .i64 Y, .int .i64 Z]] w fun e w' =>
    (e = .returned (.tuple #[.bool (evT (whole true 1 200 S.data.toList) (stB x y z && stB X Y Z) (envOf x y z X Y Z)), .bool (evO (whole true 1 200 S.data.toList) (stB x y z && stB X Y Z))]) ∧ Below w.heap.size w w') := by
  have R := Lib.hid (fun w => WideValidS_any S w hS)
  have hal : Below w.heap.size w ((w.alloc (.cells #[.int .i64 x, .int .i64 y, .int .i64 z] 35)).alloc (.cells #[.int .i64 X, .int .i64 Y, .int .i64 Z] 35)) := ((Below.refl _ _).alloc (Nat.le_refl _) _).alloc (by simp) _
  have k1 : Blk ((w.alloc (.cells #[.int .i64 x, .int .i64 y, .int .i64 z] 35)).alloc (.cells #[.int .i64 X, .int .i64 Y, .int .i64 Z] 35)) w.heap.size 35 #[.int .i64 x, .int .i64 y, .int .i64 z] := (Blk.new w _ _).alloc _
  have K1 := Lib.hid k1
  clear k1
  have k2 : Blk ((w.alloc (.cells #[.int .i64 x, .int .i64 y, .int .i64 z] 35)).alloc (.cells #[.int .i64 X, .int .i64 Y, .int .i64 Z] 35)) (w.heap.size + 1) 35 #[.int .i64 X, .int .i64 Y, .int .i64 Z] := by
    have h := Blk.new (w.alloc (.cells #[.int .i64 x, .int .i64 y, .int .i64 z] 35)) 35 #[.int .i64 X, .int .i64 Y, .int .i64 Z]
    simpa using h
  have K2 := Lib.hid k2
  clear k2
  cases ho : whole true 1 200 S.data.toList with
  | none =>
    rw [ho] at R
    clear ho K1 K2
    simp only [evT, evO, Option.isSome_none, Bool.false_and] at R ⊢
    go_enter Try.func48, Try.ntmps48
    go_wp2_with fail
    refine (R.out _).mono ?_
    rintro e w1 ⟨rfl, n1, rfl⟩
    clear R
    go_wp2_with fail
    go_ret2
    exact ⟨(by first | trivial | rfl), hal.trans (below_drewN _ _ _)⟩
  | some k =>
    rw [ho] at R
    obtain ⟨hle, hk, htx⟩ := (whole_iff (by omega)).1 ho
    have hS' : S.size ≤ 1000000 := by have := len_S S; omega
    have htx' : S.data.toList.drop 0 = k.text ++ [] := by simp [htx]
    simp only [evT, evO, Option.isSome_some, Bool.true_and] at R ⊢
    have SV := Lib.hid (fun w => StateValidS_any x y z w)
    cases hv : stB x y z
    · rw [hv] at SV
      clear ho hv hk hle htx htx' K2
      simp only [Bool.false_and]
      go_enter Try.func48, Try.ntmps48
      go_wp2_with fail
      refine (R.out _).mono ?_
      rintro e w1 ⟨rfl, n1, hw⟩
      have hb1 : Below ((w.alloc (.cells #[.int .i64 x, .int .i64 y, .int .i64 z] 35)).alloc (.cells #[.int .i64 X, .int .i64 Y, .int .i64 Z] 35)).heap.size ((w.alloc (.cells #[.int .i64 x, .int .i64 y, .int .i64 z] 35)).alloc (.cells #[.int .i64 X, .int .i64 Y, .int .i64 Z] 35)) w1 := by rw [hw]; exact below_drewN _ _ _
      clear hw
      have dk := K1.out.below hb1 (by simp; omega)
      have d0 := dk.cell 0
      have d1 := dk.cell 1
      have d2 := dk.cell 2
      simp at d0 d1 d2
      have B1 := Lib.hid (below_2 hal hb1)
      clear R hb1 dk K1
      go_wp2_with fail
      refine (SV.out _).mono ?_
      rintro e w2 ⟨rfl, hb2⟩
      have B2 := Lib.hid (below_2 B1.out hb2)
      clear hb2 d0 d1 d2
      go_wp2_with fail
      go_ret2
      exact ⟨(by first | trivial | rfl), B2.out⟩
    rw [hv] at SV
    obtain ⟨sx, sy, sz⟩ := stB_small hv
    have SW := Lib.hid (fun w => StateValidS_any X Y Z w)
    cases hv2 : stB X Y Z
    · rw [hv2] at SW
      clear ho hv hv2 hk sx sy sz hle htx htx'
      simp only [Bool.true_and, Bool.false_and]
      go_enter Try.func48, Try.ntmps48
      go_wp2_with fail
      refine (R.out _).mono ?_
      rintro e w1 ⟨rfl, n1, hw⟩
      have hb1 : Below ((w.alloc (.cells #[.int .i64 x, .int .i64 y, .int .i64 z] 35)).alloc (.cells #[.int .i64 X, .int .i64 Y, .int .i64 Z] 35)).heap.size ((w.alloc (.cells #[.int .i64 x, .int .i64 y, .int .i64 z] 35)).alloc (.cells #[.int .i64 X, .int .i64 Y, .int .i64 Z] 35)) w1 := by rw [hw]; exact below_drewN _ _ _
      clear hw
      have dk := K1.out.below hb1 (by simp; omega)
      have d0 := dk.cell 0
      have d1 := dk.cell 1
      have d2 := dk.cell 2
      simp at d0 d1 d2
      have ek := K2.out.below hb1 (by simp)
      have hz1 := ek.lt
      have e0 := ek.cell 0
      have e1 := ek.cell 1
      have e2 := ek.cell 2
      simp at e0 e1 e2
      have B1 := Lib.hid (below_2 hal hb1)
      clear R hb1 dk K1 ek K2
      go_wp2_with fail
      refine (SV.out _).mono ?_
      rintro e w2 ⟨rfl, hb2⟩
      have E0 := (hb2.cell (p := ⟨w.heap.size + 1, 0, none⟩) hz1).trans e0
      have E1 := (hb2.cell (p := ⟨w.heap.size + 1, 1, none⟩) hz1).trans e1
      have E2 := (hb2.cell (p := ⟨w.heap.size + 1, 2, none⟩) hz1).trans e2
      have B2 := Lib.hid (below_2 B1.out hb2)
      clear hb2 d0 d1 d2 e0 e1 e2 hz1
      go_wp2_with fail
      refine (SW.out _).mono ?_
      rintro e w3 ⟨rfl, hb3⟩
      have B3 := Lib.hid (below_2 B2.out hb3)
      clear hb3 E0 E1 E2
      go_wp2_with fail
      go_ret2
      exact ⟨(by first | trivial | rfl), B3.out⟩
    · rw [hv2] at SW
      obtain ⟨sX, sY, sZ⟩ := stB_small hv2
      simp only [Bool.true_and]
      have TR := Lib.hid (fun w => holdsS_any S hS' x y z X Y Z sx sy sz sX sY sZ true k 0 [] w hk htx')
      obtain ⟨tv, htv⟩ : ∃ v, tru (envOf x y z X Y Z) k = v := ⟨_, rfl⟩
      rw [htv] at TR ⊢
      clear ho hv hv2 hk htv sx sy sz sX sY sZ hle htx htx'
      go_enter Try.func48, Try.ntmps48
      go_wp2_with fail
      refine (R.out _).mono ?_
      rintro e w1 ⟨rfl, n1, hw⟩
      have hb1 : Below ((w.alloc (.cells #[.int .i64 x, .int .i64 y, .int .i64 z] 35)).alloc (.cells #[.int .i64 X, .int .i64 Y, .int .i64 Z] 35)).heap.size ((w.alloc (.cells #[.int .i64 x, .int .i64 y, .int .i64 z] 35)).alloc (.cells #[.int .i64 X, .int .i64 Y, .int .i64 Z] 35)) w1 := by rw [hw]; exact below_drewN _ _ _
      clear hw
      have dk := K1.out.below hb1 (by simp; omega)
      have hy1 := dk.lt
      have d0 := dk.cell 0
      have d1 := dk.cell 1
      have d2 := dk.cell 2
      simp at d0 d1 d2
      have ek := K2.out.below hb1 (by simp)
      have hz1 := ek.lt
      have e0 := ek.cell 0
      have e1 := ek.cell 1
      have e2 := ek.cell 2
      simp at e0 e1 e2
      have B1 := Lib.hid (below_2 hal hb1)
      clear R hb1 dk K1 ek K2
      go_wp2_with fail
      refine (SV.out _).mono ?_
      rintro e w2 ⟨rfl, hb2⟩
      have D0 := (hb2.cell (p := ⟨w.heap.size, 0, none⟩) hy1).trans d0
      have D1 := (hb2.cell (p := ⟨w.heap.size, 1, none⟩) hy1).trans d1
      have D2 := (hb2.cell (p := ⟨w.heap.size, 2, none⟩) hy1).trans d2
      have E0 := (hb2.cell (p := ⟨w.heap.size + 1, 0, none⟩) hz1).trans e0
      have E1 := (hb2.cell (p := ⟨w.heap.size + 1, 1, none⟩) hz1).trans e1
      have E2 := (hb2.cell (p := ⟨w.heap.size + 1, 2, none⟩) hz1).trans e2
      have hy2 := Nat.lt_of_lt_of_le hy1 hb2.size
      have hz2 := Nat.lt_of_lt_of_le hz1 hb2.size
      have B2 := Lib.hid (below_2 B1.out hb2)
      clear hb2 d0 d1 d2 hy1 e0 e1 e2 hz1
      go_wp2_with fail
      refine (SW.out _).mono ?_
      rintro e w3 ⟨rfl, hb3⟩
      have d0 := (hb3.cell (p := ⟨w.heap.size, 0, none⟩) hy2).trans D0
      have d1 := (hb3.cell (p := ⟨w.heap.size, 1, none⟩) hy2).trans D1
      have d2 := (hb3.cell (p := ⟨w.heap.size, 2, none⟩) hy2).trans D2
      have e0 := (hb3.cell (p := ⟨w.heap.size + 1, 0, none⟩) hz2).trans E0
      have e1 := (hb3.cell (p := ⟨w.heap.size + 1, 1, none⟩) hz2).trans E1
      have e2 := (hb3.cell (p := ⟨w.heap.size + 1, 2, none⟩) hz2).trans E2
      have B3 := Lib.hid (below_2 B2.out hb3)
      clear hb3 D0 D1 D2 E0 E1 E2 hz2 hy2
      go_wp2_with fail
      refine (env6_any x y z X Y Z w3).mono ?_
      rintro e w4 ⟨rfl, hb4⟩
      have B4 := Lib.hid (below_2 B3.out hb4)
      clear hb4 d0 d1 d2 e0 e1 e2
      go_wp2_with fail
      refine (TR.out _).mono ?_
      rintro e w5 ⟨rfl, hb5⟩
      have B5 := Lib.hid (below_2 B4.out hb5)
      clear hb5
      go_wp2_with fail
      go_ret2
      exact ⟨(by first | trivial | rfl), B5.out⟩

end Go.Proofs.Ytcdcgllodggebaa
