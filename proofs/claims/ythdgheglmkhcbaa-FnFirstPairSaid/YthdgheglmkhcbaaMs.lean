/- The reference's relations turned, composed, closed; images, shadows, equivalences. -/
import Derived.Test.YthdgheglmkhcbaaMr
import Derived.ChangeKeysEq
namespace Go.Proofs.Ythdgheglmkhcbaa
open Go.RowKit
open Pl

theorem rt_flat (r : Rl) : rflat r 27 = rt r := (rfl_bits r 27).symm
theorem l6TextR_any (r : Rl) (w : World) : Calls Try.prog 80 #[.agg (rowV r)] w fun e w' => (e = .returned (.string (bs (rt r))) ∧ Below w.heap.size w w') := by
  have := l6Text_any r w
  rwa [rt_flat] at this
/-! ### arrays compared -/
theorem eqItems_av (d : Nat) (f g : Nat → Nat) (w : World) : ∀ is : List Nat, (∀ i ∈ is, i < 27) → (Op.eqItems (d + 1) 3 (Try.prog.cellsOf 3) (av 27 f) (av 27 g) is).run Try.prog w = .ok (is.all (fun i => f i == g i)) w := by
  have hc : Try.prog.cellsOf 3 = 1 := by kernel_rfl
  have hp : Try.prog.plainKey 3 = true := by kernel_rfl
  intro is
  induction is with
  | nil => intro _; simp [Op.eqItems]
  | cons i is ih =>
    intro h
    have hi : i < 27 := h i (by simp)
    have p1 := run_part_plain (P := Try.prog) w hp (xs := av 27 f) (off := i * 1) (v := .int .i64 (f i : Nat)) (by rw [Nat.mul_one]; exact av_get f hi)
    have p2 := run_part_plain (P := Try.prog) w hp (xs := av 27 g) (off := i * 1) (v := .int .i64 (g i : Nat)) (by rw [Nat.mul_one]; exact av_get g hi)
    have p3 := run_equalIn_int (P := Try.prog) w d 3 .i64 .i64 (f i : Nat) (g i : Nat) Try.underlying3
    have ih' := ih (fun j hj => h j (by simp [hj]))
    rw [hc] at ih' ⊢
    simp only [Op.eqItems, Sem.run_bind, p1, p2, p3, Result.andThen_ok]
    by_cases e : f i = g i
    · simp [e, ih']
    · have : ((f i : Int) == (g i : Int)) = false := by simp; omega
      simp [this, e]
theorem int_info : ∃ i, Try.prog.info? 3 = some i := by
  have h : (Try.prog.info? 3).isSome = true := by kernel_rfl
  exact Option.isSome_iff_exists.1 h
theorem eq_rows (r s : Rl) (w : World) : (Op.equalIn 10000 74 (.agg (rowV r)) (.agg (rowV s))).run Try.prog w = .ok (rt r == rt s) w := by
  obtain ⟨i, hi⟩ := int_info
  rw [show (10000 : Nat) = 9999 + 1 from rfl, run_equalIn_array w 9999 (t := 74) (e := 3) (n := 27) (rowV r) (rowV s) Try.underlying74 hi, rowV_av, rowV_av, show (9999 : Nat) = 9998 + 1 from rfl, eqItems_av 9998 _ _ w (List.range 27) (fun i hi => by simpa using hi)]
  refine congrArg (fun b => Result.ok b w) ?_
  apply bool_ext
  rw [List.all_eq_true, beq_iff_eq, rt_inj]
  constructor
  · intro h i j hi hj
    have := h i (by simpa using hi)
    rw [beq_iff_eq] at this
    exact msk_inj this hj
  · intro h i hi
    rw [beq_iff_eq]
    exact msk_congr (fun j hj => h i j (by simpa using hi) hj)
set_option maxRecDepth 100000 in
set_option maxHeartbeats 4000000 in
theorem TurnRelS_any (P : ByteArray) (hP : P.size ≤ 1000000000000) (w : World) : Calls Try.prog 108 #[.string P] w fun e w' => (e = .returned (.tuple #[.string (bs (optB (turnR P))), .bool (turnR P).isSome]) ∧ Below w.heap.size w w') := by
  have V := Lib.hid (fun w => RelValidS_any P hP w)
  cases hp : bOk 729 P.data.toList
  · rw [turnR_no hp]
    rw [hp] at V
    simp only [optB, Option.isSome_none]
    go_enter Try.func108, Try.ntmps108
    go_wp2_with fail
    refine (V.out _).mono ?_
    rintro e w' ⟨rfl, rfl⟩
    go_wp2_with fail
    go_ret2
    exact ⟨(by first | trivial | rfl), Below.refl _ _⟩
  · rw [turnR_yes hp]
    rw [hp] at V
    simp only [optB, Option.isSome_some]
    have RD := Lib.hid (fun w => l6Read_any P hp w)
    have TU := Lib.hid (fun w => l6Turn_any (ro P.data.toList) w)
    have TX := Lib.hid (fun w => l6TextR_any (trnF (ro P.data.toList)) w)
    have he : rt (trnF (ro P.data.toList)) = trnT P.data.toList := rfl
    rw [he] at TX
    have B0 := Lib.hid (Below.refl w.heap.size w)
    generalize trnT P.data.toList = RO at *
    generalize rowV (trnF (ro P.data.toList)) = V2 at *
    generalize rowV (ro P.data.toList) = V1 at *
    clear hp he
    go_enter Try.func108, Try.ntmps108
    go_wp2_with fail
    refine (V.out _).mono ?_
    rintro e w' ⟨rfl, rfl⟩
    go_wp2_with fail
    refine (RD.out _).mono ?_
    rintro e w11 ⟨rfl, hb11⟩
    have B11 : Hid (Below w.heap.size w w11) := by first | exact Lib.hid (below_2 B0.out hb11) | exact Lib.hid (below_a1 B0.out hb11) | exact Lib.hid (below_a2 B0.out hb11) | exact Lib.hid (below_a3 B0.out hb11)
    clear hb11
    go_wp2_with fail
    refine (TU.out _).mono ?_
    rintro e w12 ⟨rfl, hb12⟩
    have B12 : Hid (Below w.heap.size w w12) := by first | exact Lib.hid (below_2 B11.out hb12) | exact Lib.hid (below_a1 B11.out hb12) | exact Lib.hid (below_a2 B11.out hb12) | exact Lib.hid (below_a3 B11.out hb12)
    clear hb12
    go_wp2_with fail
    refine (TX.out _).mono ?_
    rintro e w13 ⟨rfl, hb13⟩
    have B13 : Hid (Below w.heap.size w w13) := by first | exact Lib.hid (below_2 B12.out hb13) | exact Lib.hid (below_a1 B12.out hb13) | exact Lib.hid (below_a2 B12.out hb13) | exact Lib.hid (below_a3 B12.out hb13)
    clear hb13
    go_wp2_with fail
    go_ret2
    exact ⟨(by first | trivial | rfl), B13.out⟩
set_option maxRecDepth 100000 in
set_option maxHeartbeats 4000000 in
theorem ComposeRelS_any (P Q : ByteArray) (hP : P.size ≤ 1000000000000) (hQ : Q.size ≤ 1000000000000) (w : World) : Calls Try.prog 46 #[.string P, .string Q] w fun e w' => (e = .returned (.tuple #[.string (bs (optB (thenR P Q))), .bool (thenR P Q).isSome]) ∧ Below w.heap.size w w') := by
  have V := Lib.hid (fun w => RelValidS_any P hP w)
  have U := Lib.hid (fun w => RelValidS_any Q hQ w)
  cases hp : bOk 729 P.data.toList
  · rw [thenR_no (by rw [hp]; rfl)]
    rw [hp] at V
    simp only [optB, Option.isSome_none]
    go_enter Try.func46, Try.ntmps46
    go_wp2_with fail
    refine (V.out _).mono ?_
    rintro e w' ⟨rfl, rfl⟩
    go_wp2_with fail
    go_ret2
    exact ⟨(by first | trivial | rfl), Below.refl _ _⟩
  · cases hq : bOk 729 Q.data.toList
    · rw [thenR_no (by rw [hp, hq]; rfl)]
      rw [hp] at V
      rw [hq] at U
      simp only [optB, Option.isSome_none]
      go_enter Try.func46, Try.ntmps46
      go_wp2_with fail
      refine (V.out _).mono ?_
      rintro e w' ⟨rfl, rfl⟩
      go_wp2_with fail
      refine (U.out _).mono ?_
      rintro e w' ⟨rfl, rfl⟩
      go_wp2_with fail
      go_ret2
      exact ⟨(by first | trivial | rfl), Below.refl _ _⟩
    · rw [thenR_yes hp hq]
      rw [hp] at V
      rw [hq] at U
      simp only [optB, Option.isSome_some]
      have RD := Lib.hid (fun w => l6Read_any P hp w)
      have RE := Lib.hid (fun w => l6Read_any Q hq w)
      have CO := Lib.hid (fun w => l6Compose_any (ro P.data.toList) (ro Q.data.toList) w)
      have TX := Lib.hid (fun w => l6TextR_any (cmpF (ro P.data.toList) (ro Q.data.toList)) w)
      have he : rt (cmpF (ro P.data.toList) (ro Q.data.toList)) = cmpT P.data.toList Q.data.toList := rfl
      rw [he] at TX
      have B0 := Lib.hid (Below.refl w.heap.size w)
      generalize cmpT P.data.toList Q.data.toList = RO at *
      generalize rowV (cmpF (ro P.data.toList) (ro Q.data.toList)) = V3 at *
      generalize rowV (ro P.data.toList) = V1 at *
      generalize rowV (ro Q.data.toList) = V2 at *
      clear hp hq he
      go_enter Try.func46, Try.ntmps46
      go_wp2_with fail
      refine (V.out _).mono ?_
      rintro e w' ⟨rfl, rfl⟩
      go_wp2_with fail
      refine (U.out _).mono ?_
      rintro e w' ⟨rfl, rfl⟩
      go_wp2_with fail
      refine (RD.out _).mono ?_
      rintro e w11 ⟨rfl, hb11⟩
      have B11 : Hid (Below w.heap.size w w11) := by first | exact Lib.hid (below_2 B0.out hb11) | exact Lib.hid (below_a1 B0.out hb11) | exact Lib.hid (below_a2 B0.out hb11) | exact Lib.hid (below_a3 B0.out hb11)
      clear hb11
      go_wp2_with fail
      refine (RE.out _).mono ?_
      rintro e w12 ⟨rfl, hb12⟩
      have B12 : Hid (Below w.heap.size w w12) := by first | exact Lib.hid (below_2 B11.out hb12) | exact Lib.hid (below_a1 B11.out hb12) | exact Lib.hid (below_a2 B11.out hb12) | exact Lib.hid (below_a3 B11.out hb12)
      clear hb12
      go_wp2_with fail
      refine (CO.out _).mono ?_
      rintro e w13 ⟨rfl, hb13⟩
      have B13 : Hid (Below w.heap.size w w13) := by first | exact Lib.hid (below_2 B12.out hb13) | exact Lib.hid (below_a1 B12.out hb13) | exact Lib.hid (below_a2 B12.out hb13) | exact Lib.hid (below_a3 B12.out hb13)
      clear hb13
      go_wp2_with fail
      refine (TX.out _).mono ?_
      rintro e w14 ⟨rfl, hb14⟩
      have B14 : Hid (Below w.heap.size w w14) := by first | exact Lib.hid (below_2 B13.out hb14) | exact Lib.hid (below_a1 B13.out hb14) | exact Lib.hid (below_a2 B13.out hb14) | exact Lib.hid (below_a3 B13.out hb14)
      clear hb14
      go_wp2_with fail
      go_ret2
      exact ⟨(by first | trivial | rfl), B14.out⟩
theorem eqv_alt2 {a : List UInt8} (ha : bOk 729 a = true) (h : ∀ i, i < 27 → ro a i i = true) : eqvT a = (trnT a == a && cmpT a a == a) := by
  rw [eqv_alt ha]
  have : (List.range 27).all (fun i => ro a i i) = true := List.all_eq_true.2 (fun i hi => h i (by simpa using hi))
  rw [this, Bool.true_and]
theorem eqv_alt3 {a : List UInt8} (ha : bOk 729 a = true) {i : Nat} (hi : i < 27) (h : ro a i i = false) : eqvT a = false := by
  rw [eqv_alt ha]
  have : (List.range 27).all (fun i => ro a i i) = false := by
    cases hb : (List.range 27).all (fun i => ro a i i)
    · rfl
    · have := List.all_eq_true.1 hb i (by simpa using hi)
      rw [h] at this; cases this
  rw [this, Bool.false_and]
theorem Blk.row {W : World} {g : Nat} {t : TypeId} {old : Array Value} (h : Blk W g t old) (V : Array Value) : Blk (W.setRow g V) g t V := setRow_heap W g _ V t (0, 0) h
theorem Blk.row_ne {W : World} {g g' : Nat} {t : TypeId} {cs : Array Value} (h : Blk W g t cs) (hne : g ≠ g') (V : Array Value) : Blk (W.setRow g' V) g t cs := (setRow_other W g' g V hne).trans h
theorem below_row {B : Nat} {W : World} {g : Nat} (hg : B ≤ g) (V : Array Value) : Below B W (W.setRow g V) := ⟨rfl, rfl, rfl, by simp, fun k hk => setRow_other W g k V (by omega)⟩
theorem rowV_size (r : Rl) : (rowV r).size = 27 := by rw [rowV_av]; exact av_size _ _
structure RowIn (w W : World) (g : Nat) (V : Array Value) : Prop where
  blk : Blk W g 74 V
  below : Below w.heap.size w W
theorem RowIn.call {w W W' : World} {g : Nat} {V : Array Value} (H : RowIn w W g V) (hb : Below W.heap.size W W') : RowIn w W' g V := ⟨H.blk.below hb H.blk.lt, below_2 H.below hb⟩
theorem quiet_load_row {o : Oper} {a : Act} {K : Act → Prop} {C : World → Prop} (x : Operand) (ho : o.op = .load 74 x) (g : Nat) (hx : a.eval x = .pointer (some ⟨g, 0, none⟩)) (V : Array Value) (hC : ∀ W, C W → Blk W g 74 V) (hz : V.size = 27) (hk : K (a.put o.dst (.agg V))) : o.quiet Try.prog a C K :=
  ⟨.agg V, fun W hW => by
    unfold Oper.quietAt execOp
    simp only [ho, hx, Instr.loadAt, Instr.sureAddr, Sem.run_bind, Sem.run_pure, Result.andThen_ok, ldAt (hC W hW) hz]
    exact ⟨rfl, rfl⟩, hk⟩
theorem RowIn.drew {w W : World} {g : Nat} {V : Array Value} (H : RowIn w W g V) : RowIn w W.drew g V := H.call (below_drew _ _)
set_option maxRecDepth 100000 in
set_option maxHeartbeats 16000000 in
theorem IsEquivalenceS_any (P : ByteArray) (hP : P.size ≤ 1000000000000) (w : World) : Calls Try.prog 54 #[.string P] w fun e w' => (e = .returned (.bool (eqvT P.data.toList)) ∧ Below w.heap.size w w') := by
  have VV := Lib.hid (fun w => RelValidS_any P hP w)
  cases hp : bOk 729 P.data.toList
  · rw [eqv_no hp]
    rw [hp] at VV
    go_enter Try.func54, Try.ntmps54
    go_wp2_with fail
    refine (VV.out _).mono ?_
    rintro e w' ⟨rfl, rfl⟩
    go_wp2_with fail
    go_ret
    exact ⟨rfl, Below.refl _ _⟩
  · rw [hp] at VV
    have RD := Lib.hid (fun w => l6Read_any P hp w)
    have TU := Lib.hid (fun w => l6Turn_any (ro P.data.toList) w)
    have CO := Lib.hid (fun w => l6Compose_any (ro P.data.toList) (ro P.data.toList) w)
    have E1 : Hid (∀ W, (Op.equalIn 10000 74 (.agg (rowV (trnF (ro P.data.toList)))) (.agg (rowV (ro P.data.toList)))).run Try.prog W = .ok (trnT P.data.toList == P.data.toList) W) := fun W => by have := eq_rows (trnF (ro P.data.toList)) (ro P.data.toList) W; rwa [rt_ro hp] at this
    have E2 : Hid (∀ W, (Op.equalIn 10000 74 (.agg (rowV (cmpF (ro P.data.toList) (ro P.data.toList)))) (.agg (rowV (ro P.data.toList)))).run Try.prog W = .ok (cmpT P.data.toList P.data.toList == P.data.toList) W) := fun W => by have := eq_rows (cmpF (ro P.data.toList) (ro P.data.toList)) (ro P.data.toList) W; rwa [rt_ro hp] at this
    have IN := Lib.hid (fun (i : Nat) (hi : i < 27) w => by have := l4In_any (msk (ro P.data.toList i) 27) i (msk_lt (ro P.data.toList i) 27) hi w; rw [msk_bit (ro P.data.toList i) hi] at this; exact this)
    have RV := Lib.hid (fun i (hi : i < 27) => rowV_get (ro P.data.toList) hi)
    have SZ : Hid ((Try.prog.info? 74).map (·.size) = some (rowV (ro P.data.toList)).size ∧ (#[.int .i64 0, .int .i64 0, .int .i64 0, .int .i64 0, .int .i64 0, .int .i64 0, .int .i64 0, .int .i64 0, .int .i64 0, .int .i64 0, .int .i64 0, .int .i64 0, .int .i64 0, .int .i64 0, .int .i64 0, .int .i64 0, .int .i64 0, .int .i64 0, .int .i64 0, .int .i64 0, .int .i64 0, .int .i64 0, .int .i64 0, .int .i64 0, .int .i64 0, .int .i64 0, .int .i64 0] : Array Value).size = (rowV (ro P.data.toList)).size ∧ (rowV (ro P.data.toList)).all (·.oneCell') = true) := ⟨by rw [rowV_size]; exact rel_size, by rw [rowV_size]; rfl, rowV_one _⟩
    have HP := Lib.hid hp
    obtain ⟨RS, hRS⟩ : ∃ b, eqvT P.data.toList = b := ⟨_, rfl⟩
    rw [hRS]
    have HRS := Lib.hid hRS
    generalize hV2 : rowV (trnF (ro P.data.toList)) = V2 at *
    generalize hV3 : rowV (cmpF (ro P.data.toList) (ro P.data.toList)) = V3 at *
    generalize hV : rowV (ro P.data.toList) = V at *
    clear hV hV2 hV3 hp hRS
    go_enter Try.func54, Try.ntmps54
    go_wp2_with fail
    refine (VV.out _).mono ?_
    rintro e w' ⟨rfl, rfl⟩
    go_wp2_with fail
    refine (RD.out _).mono ?_
    rintro e w1 ⟨rfl, hb1⟩
    have B1 := Lib.hid hb1
    clear hb1 RD
    have kz : Blk (w1.alloc (.cells #[.int .i64 0, .int .i64 0, .int .i64 0, .int .i64 0, .int .i64 0, .int .i64 0, .int .i64 0, .int .i64 0, .int .i64 0, .int .i64 0, .int .i64 0, .int .i64 0, .int .i64 0, .int .i64 0, .int .i64 0, .int .i64 0, .int .i64 0, .int .i64 0, .int .i64 0, .int .i64 0, .int .i64 0, .int .i64 0, .int .i64 0, .int .i64 0, .int .i64 0, .int .i64 0, .int .i64 0] 74)) w1.heap.size 74 #[.int .i64 0, .int .i64 0, .int .i64 0, .int .i64 0, .int .i64 0, .int .i64 0, .int .i64 0, .int .i64 0, .int .i64 0, .int .i64 0, .int .i64 0, .int .i64 0, .int .i64 0, .int .i64 0, .int .i64 0, .int .i64 0, .int .i64 0, .int .i64 0, .int .i64 0, .int .i64 0, .int .i64 0, .int .i64 0, .int .i64 0, .int .i64 0, .int .i64 0, .int .i64 0, .int .i64 0] := Blk.new w1 74 #[.int .i64 0, .int .i64 0, .int .i64 0, .int .i64 0, .int .i64 0, .int .i64 0, .int .i64 0, .int .i64 0, .int .i64 0, .int .i64 0, .int .i64 0, .int .i64 0, .int .i64 0, .int .i64 0, .int .i64 0, .int .i64 0, .int .i64 0, .int .i64 0, .int .i64 0, .int .i64 0, .int .i64 0, .int .i64 0, .int .i64 0, .int .i64 0, .int .i64 0, .int .i64 0, .int .i64 0]
    have KZ := Lib.hid kz
    have K2 : Hid (Blk ((w1.alloc (.cells #[.int .i64 0, .int .i64 0, .int .i64 0, .int .i64 0, .int .i64 0, .int .i64 0, .int .i64 0, .int .i64 0, .int .i64 0, .int .i64 0, .int .i64 0, .int .i64 0, .int .i64 0, .int .i64 0, .int .i64 0, .int .i64 0, .int .i64 0, .int .i64 0, .int .i64 0, .int .i64 0, .int .i64 0, .int .i64 0, .int .i64 0, .int .i64 0, .int .i64 0, .int .i64 0, .int .i64 0] 74)).setRow w1.heap.size V) w1.heap.size 74 V) := kz.row _
    have B2 : Hid (Below w.heap.size w ((w1.alloc (.cells #[.int .i64 0, .int .i64 0, .int .i64 0, .int .i64 0, .int .i64 0, .int .i64 0, .int .i64 0, .int .i64 0, .int .i64 0, .int .i64 0, .int .i64 0, .int .i64 0, .int .i64 0, .int .i64 0, .int .i64 0, .int .i64 0, .int .i64 0, .int .i64 0, .int .i64 0, .int .i64 0, .int .i64 0, .int .i64 0, .int .i64 0, .int .i64 0, .int .i64 0, .int .i64 0, .int .i64 0] 74)).setRow w1.heap.size V)) := (B1.out.alloc B1.out.size (.cells #[.int .i64 0, .int .i64 0, .int .i64 0, .int .i64 0, .int .i64 0, .int .i64 0, .int .i64 0, .int .i64 0, .int .i64 0, .int .i64 0, .int .i64 0, .int .i64 0, .int .i64 0, .int .i64 0, .int .i64 0, .int .i64 0, .int .i64 0, .int .i64 0, .int .i64 0, .int .i64 0, .int .i64 0, .int .i64 0, .int .i64 0, .int .i64 0, .int .i64 0, .int .i64 0, .int .i64 0] 74)).trans (below_row B1.out.size _)
    clear kz
    go_wp2_with (refine wpList_store_row rfl 74 (.tmp 3) (.tmp 9) rfl w1.heap.size V rfl rfl 74 #[.int .i64 0, .int .i64 0, .int .i64 0, .int .i64 0, .int .i64 0, .int .i64 0, .int .i64 0, .int .i64 0, .int .i64 0, .int .i64 0, .int .i64 0, .int .i64 0, .int .i64 0, .int .i64 0, .int .i64 0, .int .i64 0, .int .i64 0, .int .i64 0, .int .i64 0, .int .i64 0, .int .i64 0, .int .i64 0, .int .i64 0, .int .i64 0, .int .i64 0, .int .i64 0, .int .i64 0] KZ.out SZ.out.1 SZ.out.2.1 SZ.out.2.2 ?_)
    clear KZ
    obtain ⟨g, hg⟩ : ∃ g, w1.heap.size = g := ⟨_, rfl⟩
    rw [hg] at K2 B2 ⊢
    go_loopg [4] 27 (fun gk sv wr => ∃ a : Nat, a + gk = 27 ∧ sv = .int .i64 a ∧ Hid (RowIn w wr g V) ∧ Hid (∀ v, v < a → ro P.data.toList v v = true))
    case atStart => exact ⟨0, rfl, rfl, ⟨K2.out, B2.out⟩, Lib.hid (fun v h => absurd h (by omega))⟩
    case round =>
      clear K2 B2
      obtain ⟨a, ha, rfl, HW, HR⟩ := hrel
      by_cases hla : a < 27
      · have IX := Lib.hid (fun w => IN.out a hla w)
        have hcv := (HW.out.blk.cell a).trans (RV.out a hla)
        cases hr : ro P.data.toList a a
        · rw [hr] at IX
          have HF := Lib.hid ((eqv_alt3 HP.out hla hr).symm.trans HRS.out)
          have BE := Lib.hid HW.out.below
          clear hr HR HW
          go_wp2_with fail
          refine (IX.out _).mono ?_
          rintro e w' ⟨rfl, rfl⟩
          go_wp2_with fail
          obtain rfl := HF.out
          go_ret
          exact ⟨rfl, BE.out⟩
        · rw [hr] at IX
          have HR2 : Hid (∀ v, v < a + 1 → ro P.data.toList v v = true) := fun v hv => by
            by_cases e : v = a
            · subst e; exact hr
            · exact HR.out v (by omega)
          clear hr HR
          go_wp2_with fail
          refine (IX.out _).mono ?_
          rintro e w' ⟨rfl, rfl⟩
          go_wp2_with fail
          go_roundg (gk - 1)
          case measure => omega
          case rel => exact ⟨a + 1, by omega, by go_num, HW, HR2⟩
      · obtain rfl : a = 27 := by omega
        have HF := Lib.hid ((eqv_alt2 HP.out HR.out).symm.trans HRS.out)
        have hz : V.size = 27 := SZ.out.2.1.symm
        clear HR IN RV HRS
        have H := HW.out
        clear HW
        generalize (trnT P.data.toList == P.data.toList) = b1 at *
        generalize (cmpT P.data.toList P.data.toList == P.data.toList) = b2 at *
        cases b1 <;> cases b2
        all_goals
          have hf := HF.out
          simp only [Bool.true_and, Bool.false_and] at hf
          subst hf
          clear HF
          go_wp2_with fail
          refine region_class (fun W => RowIn w W g V) (by kernel_rfl) (by kernel_rfl) H.drew ?_
          repeat (first | go_big_quiet_skip | (go_big_quiet_want; first | ((refine quiet_load_row (.tmp 3) rfl g rfl V (fun W hW => hW.blk) hz ?_); simp only [Act.put, List.setIfInBounds_toArray, List.set_cons_zero, List.set_cons_succ]; go_big_quiet_on) | (apply quiet_value; (· (intro W hW; (have q1 := E1.out W; have q2 := E2.out W); go_simp; exact rfl)); simp only [Act.put, List.setIfInBounds_toArray, List.set_cons_zero, List.set_cons_succ]; go_big_quiet_on) | (apply quiet_call; (· (intro W hW; go_simp; exact ⟨rfl, rfl⟩)); (· (intro W hW; first | with_reducible exact ((TU.out W)).mono fun _ _ h => ⟨h.1, hW.call h.2⟩ | with_reducible exact ((CO.out W)).mono fun _ _ h => ⟨h.1, hW.call h.2⟩)); simp only [Act.put, List.setIfInBounds_toArray, List.set_cons_zero, List.set_cons_succ]; go_big_quiet_on)))
          refine wpQuiet_nil ?_
          intro wq hq
          clear H
          have H := hq
          clear hq
          go_wp2_with fail
          go_ret
          exact ⟨rfl, H.below⟩

end Go.Proofs.Ythdgheglmkhcbaa
