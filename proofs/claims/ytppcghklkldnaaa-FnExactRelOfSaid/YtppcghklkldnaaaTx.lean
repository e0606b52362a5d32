/- Texts and numbers of states, on both sides. -/
import Derived.Test.YtppcghklkldnaaaBi
import Derived.Test.YtppcghklkldnaaaPln
import Derived.Test.YtppcghklkldnaaaDrg
import Derived.Test.YtppcghklkldnaaaRs
import Derived.Deep.RegionHeld3
namespace Go.Proofs.Ytppcghklkldnaaa
open Go.RowKit
open Pl

theorem conv_three (a b c : Int) (W : World) : (convert 25 9 (.slice (some ⟨W.heap.size, 0, none⟩) 3 3)).run Try.prog (W.alloc (.cells #[.int .u8 a, .int .u8 b, .int .u8 c] 5)) = .ok (.string ⟨#[UInt8.ofNat a.toNat, UInt8.ofNat b.toNat, UInt8.ofNat c.toNat]⟩) (W.alloc (.cells #[.int .u8 a, .int .u8 b, .int .u8 c] 5)) :=
  run_convert_bytes_arg (P := Try.prog) _ 25 5 Try.underlying25 Try.underlying5 W.heap.size 0 3 3 [a, b, c] rfl (fun i hi => by
    rw [(Blk.new W _ _).cell]
    match i, hi with
    | 0, _ => rfl
    | 1, _ => rfl
    | 2, _ => rfl) 9 Try.underlying9
theorem digOf_48 {n : Int} (h : small n) : UInt8.ofNat (48 + n).toNat = digOf n := by
  unfold digOf
  congr 1
  have := h.1
  omega
/-- the text of a state that is one -/
def fmt1 (x y z : Int) : List UInt8 := if stB x y z then tx3 x y z else []
theorem st_ok {i : Nat} (h : i < 27) : stB (stX i) (stY i) (stZ i) = true := by
  simp only [stB, Bool.and_eq_true]
  exact ⟨inB_small.2 (stX_small i), inB_small.2 (stY_small i), inB_small.2 (stZ_small h)⟩
theorem fmt_st {i : Nat} (h : i < 27) : fmt1 (stX i) (stY i) (stZ i) = stT i := by unfold fmt1; rw [st_ok h]; rfl
set_option maxHeartbeats 2000000 in
theorem FormatState_any (x y z : Int) (w : World) : Calls Try.prog 56 #[.agg #[.int .i64 x, .int .i64 y, .int .i64 z]] w fun e w' => (e = .returned (.string (bs (fmt1 x y z))) ∧ Below w.heap.size w w') := by
  have dk := Blk.new w 40 #[.int .i64 x, .int .i64 y, .int .i64 z]
  have d0 := dk.cell 0
  have d1 := dk.cell 1
  have d2 := dk.cell 2
  simp at d0 d1 d2
  have SV := Lib.hid (fun w => StateValid_any x y z w)
  have hal := Lib.hid (below_n w (.cells #[.int .i64 x, .int .i64 y, .int .i64 z] 40))
  have DK := Lib.hid dk
  clear dk
  unfold fmt1
  cases hv : stB x y z
  · rw [hv] at SV
    clear hv
    simp only [Bool.false_eq_true, if_false]
    go_enter Try.func56, Try.ntmps56
    go_wp2_with fail
    refine (SV.out _).mono ?_
    rintro e w1 ⟨rfl, hb1⟩
    have B1 := Lib.hid (below_2 hal.out hb1)
    clear hb1
    go_wp2_with fail
    go_ret
    exact ⟨rfl, B1.out⟩
  · rw [hv] at SV
    obtain ⟨sx, sy, sz⟩ := stB_small hv
    have hT : (⟨#[UInt8.ofNat (48 + x).toNat, UInt8.ofNat (48 + y).toNat, UInt8.ofNat (48 + z).toNat]⟩ : ByteArray) = bs (tx3 x y z) := by
      rw [digOf_48 sx, digOf_48 sy, digOf_48 sz]; rfl
    obtain ⟨x1, x2⟩ := sx
    obtain ⟨y1, y2⟩ := sy
    obtain ⟨z1, z2⟩ := sz
    simp only [if_true]
    rw [← hT]
    have kc := conv_three (48 + x) (48 + y) (48 + z)
    generalize (⟨#[UInt8.ofNat (48 + x).toNat, UInt8.ofNat (48 + y).toNat, UInt8.ofNat (48 + z).toNat]⟩ : ByteArray) = TX at *
    clear hv hT
    go_enter Try.func56, Try.ntmps56
    go_wp2_with fail
    refine (SV.out _).mono ?_
    rintro e w1 ⟨rfl, hb1⟩
    have k1 := DK.out.below hb1 (by simp)
    have c0 := k1.cell 0
    have c1 := k1.cell 1
    have c2 := k1.cell 2
    simp at c0 c1 c2
    have B1 := Lib.hid (below_2 hal.out hb1)
    clear hb1 k1 d0 d1 d2
    go_wp2_with fail
    go_ret
    exact ⟨rfl, B1.out.alloc B1.out.size _⟩
set_option maxRecDepth 100000 in
set_option maxHeartbeats 4000000 in
theorem l2Show_any (x y z : Int) (sx : small x) (sy : small y) (sz : small z) (w : World) : Calls Try.prog 89 #[.agg #[.int .i64 x, .int .i64 y, .int .i64 z]] w fun e w' => (e = .returned (.string (bs (tx3 x y z))) ∧ Below w.heap.size w w') := by
  have DX := Lib.hid (fun w => dec_small x (digOf x) sx.1 (by have := sx.2; omega) (digOf_48 sx) w)
  have DY := Lib.hid (fun w => dec_small y (digOf y) sy.1 (by have := sy.2; omega) (digOf_48 sy) w)
  have DZ := Lib.hid (fun w => dec_small z (digOf z) sz.1 (by have := sz.2; omega) (digOf_48 sz) w)
  have hT : bs (tx3 x y z) = (⟨#[digOf x]⟩ : ByteArray) ++ ⟨#[digOf y]⟩ ++ ⟨#[digOf z]⟩ := by
    rw [show (⟨#[digOf x]⟩ : ByteArray) = bs [digOf x] from rfl, show (⟨#[digOf y]⟩ : ByteArray) = bs [digOf y] from rfl, show (⟨#[digOf z]⟩ : ByteArray) = bs [digOf z] from rfl, bs_app, bs_app]; rfl
  rw [hT]
  have h1 : (⟨#[digOf x]⟩ : ByteArray).size ≤ 1 := Nat.le_refl _
  have h2 : (⟨#[digOf y]⟩ : ByteArray).size ≤ 1 := Nat.le_refl _
  have h3 : (⟨#[digOf z]⟩ : ByteArray).size ≤ 1 := Nat.le_refl _
  have H : Sit w (w.alloc (.cells #[.int .i64 x, .int .i64 y, .int .i64 z] 40)) [(⟨w.heap.size, 0, none⟩, .int .i64 x), (⟨w.heap.size, 1, none⟩, .int .i64 y), (⟨w.heap.size, 2, none⟩, .int .i64 z)] := (Sit.refl w).box3 40
  clear hT
  generalize (⟨#[digOf x]⟩ : ByteArray) = A at *
  generalize (⟨#[digOf y]⟩ : ByteArray) = B at *
  generalize (⟨#[digOf z]⟩ : ByteArray) = C at *
  clear sx sy sz
  have z1 : ¬ (9223372036854775807 < A.size + B.size) := by omega
  have z2 : ¬ (9223372036854775807 < A.size + B.size + C.size) := by omega
  obtain ⟨d0, d1, d2⟩ := H.c3
  go_enter Try.func89, Try.ntmps89
  go_wp2_with fail
  refine region_class (fun W => Sit w W [(⟨w.heap.size, 0, none⟩, .int .i64 x), (⟨w.heap.size, 1, none⟩, .int .i64 y), (⟨w.heap.size, 2, none⟩, .int .i64 z)]) (by kernel_rfl) (by kernel_rfl) H.drew ?_
  clear d0 d1 d2
  repeat (first | go_big_quiet_skip | (go_big_quiet_want; first | (apply quiet_value; (· (intro W hW; obtain ⟨d0, d1, d2⟩ := hW.c3; go_simp; exact rfl)); simp only [Act.put, List.setIfInBounds_toArray, List.set_cons_zero, List.set_cons_succ]; go_big_quiet_on) | (apply quiet_call; (· (intro W hW; go_simp; exact ⟨rfl, rfl⟩)); (· (intro W hW; first | with_reducible exact (DX.out W).mono fun _ _ h => ⟨h.1, hW.call h.2⟩ | with_reducible exact (DY.out W).mono fun _ _ h => ⟨h.1, hW.call h.2⟩ | with_reducible exact (DZ.out W).mono fun _ _ h => ⟨h.1, hW.call h.2⟩)); simp only [Act.put, List.setIfInBounds_toArray, List.set_cons_zero, List.set_cons_succ]; go_big_quiet_on)))
  refine wpQuiet_nil ?_
  intro wq hq
  clear H
  have H := hq
  clear hq
  go_wp2_with fail
  go_ret
  exact ⟨rfl, H.below⟩
def oX (o : Option Nat) : Int :=
  match o with
  | some i => stX i
  | none => 0
def oY (o : Option Nat) : Int :=
  match o with
  | some i => stY i
  | none => 0
def oZ (o : Option Nat) : Int :=
  match o with
  | some i => stZ i
  | none => 0
/-- a block of three, written anew -/
theorem put3r {W : World} {r : Nat} {t : TypeId} {a b c : Value} (h : Blk W r t #[a, b, c]) (x y z : Value) : ∃ W', ((W.setCell ⟨r, 0, none⟩ x).setCell ⟨r, 1, none⟩ y).setCell ⟨r, 2, none⟩ z = W' ∧ Blk W' r t #[x, y, z] ∧ Below r W W' := by
  refine ⟨_, rfl, ?_, (((Below.refl r W).setCell (p := ⟨r, 0, none⟩) (Nat.le_refl _) x).setCell (p := ⟨r, 1, none⟩) (Nat.le_refl _) y).setCell (p := ⟨r, 2, none⟩) (Nat.le_refl _) z⟩
  have := ((h.set_ 0 x).set_ 1 y).set_ 2 z
  simpa using this
set_option maxRecDepth 100000 in
set_option maxHeartbeats 8000000 in
theorem ParseState_any (S : ByteArray) (w : World) : Calls Try.prog 51 #[.string S] w fun e w' => (e = .returned (.tuple #[.agg #[.int .i64 (oX (psN S.data.toList)), .int .i64 (oY (psN S.data.toList)), .int .i64 (oZ (psN S.data.toList))], .bool (psN S.data.toList).isSome]) ∧ Below w.heap.size w w') := by
  have K0 := Lib.hid (Blk.new w 40 #[.int .i64 0, .int .i64 0, .int .i64 0])
  have B0 := Lib.hid (below_n w (.cells #[.int .i64 0, .int .i64 0, .int .i64 0] 40))
  go_enter Try.func51, Try.ntmps51
  go_wp2_with fail
  go_loopg [4] 27 (fun gk i wr => ∃ j : Nat, j + gk = 27 ∧ i = .int .i64 j ∧ Hid (∀ i, i < j → stT i ≠ S.data.toList) ∧ Hid (Blk wr w.heap.size 40 #[.int .i64 0, .int .i64 0, .int .i64 0]) ∧ Hid (Below w.heap.size w wr))
  case atStart => exact ⟨0, rfl, rfl, Lib.hid (fun i hi => absurd hi (by omega)), K0, B0⟩
  case round =>
    clear K0 B0
    obtain ⟨j, hj, rfl, HN, K, B⟩ := hrel
    by_cases hlt : j < 27
    · have AT := Lib.hid (fun w => stateAt_any j hlt w)
      have FM := Lib.hid (fun w => FormatState_any (stX j) (stY j) (stZ j) w)
      rw [fmt_st hlt] at FM
      have hbq : (((bs (stT j)).toList == S.toList) = true) ↔ stT j = S.data.toList := by rw [ByteArray.toList_eq, ByteArray.toList_eq, bs_list, beq_iff_eq]
      obtain ⟨TX, hTX⟩ : ∃ T, bs (stT j) = T := ⟨_, rfl⟩
      rw [hTX] at FM hbq
      by_cases heq : stT j = S.data.toList
      · have q1 : (TX.toList == S.toList) = true := hbq.2 heq
        have HP := Lib.hid (psN_at hlt heq)
        clear hbq heq hTX HN
        go_wp2_with fail
        refine (AT.out _).mono ?_
        rintro e w1 ⟨rfl, hb1⟩
        have K1 := Lib.hid (K.out.below hb1 K.out.lt)
        have B1 := Lib.hid (below_2 B.out hb1)
        clear hb1 K B
        go_wp2_with fail
        refine (FM.out _).mono ?_
        rintro e w2 ⟨rfl, hb2⟩
        have K2 := Lib.hid (K1.out.below hb2 K1.out.lt)
        have B2 := Lib.hid (below_2 B1.out hb2)
        clear hb2 K1 B1
        go_wp2_with fail
        refine (AT.out _).mono ?_
        rintro e w3 ⟨rfl, hb3⟩
        have k3 := K2.out.below hb3 K2.out.lt
        have c0 := k3.cell 0
        have c1 := k3.cell 1
        have c2 := k3.cell 2
        have f0 := k3.frozen 0
        have f1 := k3.frozen 1
        have f2 := k3.frozen 2
        simp at c0 c1 c2
        have K3 := Lib.hid k3
        have B3 := Lib.hid (below_2 B2.out hb3)
        clear hb3 K2 B2 k3
        obtain ⟨x, hx⟩ : ∃ x, stX j = x := ⟨_, rfl⟩
        obtain ⟨y, hy⟩ : ∃ x, stY j = x := ⟨_, rfl⟩
        obtain ⟨z, hz⟩ : ∃ x, stZ j = x := ⟨_, rfl⟩
        rw [hx, hy, hz]
        have HX := Lib.hid hx
        have HY := Lib.hid hy
        have HZ := Lib.hid hz
        clear hx hy hz
        go_wp2_with fail
        obtain ⟨w4, hw4, k4, hb4⟩ := put3r K3.out (.int .i64 x) (.int .i64 y) (.int .i64 z)
        rw [hw4]
        have d0 := k4.cell 0
        have d1 := k4.cell 1
        have d2 := k4.cell 2
        simp at d0 d1 d2
        exact bodyPost_ret (v := .tuple #[.agg #[.int .i64 x, .int .i64 y, .int .i64 z], .bool true]) (by simp [results, Try.results51, go_sem, d0, d1, d2]) rfl
          ⟨by rw [HP.out]; simp only [oX, oY, oZ, HX.out, HY.out, HZ.out]; rfl, B3.out.trans hb4⟩
      · have q1 : (TX.toList == S.toList) = false := by
          cases hb : (TX.toList == S.toList)
          · rfl
          · exact absurd (hbq.1 hb) heq
        have HN2 : Hid (∀ i, i < j + 1 → stT i ≠ S.data.toList) := fun i hi => by
          by_cases h : i = j
          · rw [h]; exact heq
          · exact HN.out i (by omega)
        clear hbq heq hTX HN
        go_wp2_with fail
        refine (AT.out _).mono ?_
        rintro e w1 ⟨rfl, hb1⟩
        have K1 := Lib.hid (K.out.below hb1 K.out.lt)
        have B1 := Lib.hid (below_2 B.out hb1)
        clear hb1 K B
        go_wp2_with fail
        refine (FM.out _).mono ?_
        rintro e w2 ⟨rfl, hb2⟩
        have K2 := Lib.hid (K1.out.below hb2 K1.out.lt)
        have B2 := Lib.hid (below_2 B1.out hb2)
        clear hb2 K1 B1
        go_wp2_with fail
        go_roundg (gk - 1)
        case measure => omega
        case rel => exact ⟨j + 1, by omega, by go_num, HN2, K2, B2⟩
    · have HP := Lib.hid (psN_no (l := S.data.toList) (fun i hi => HN.out i (by omega)))
      have k3 := K.out
      have c0 := k3.cell 0
      have c1 := k3.cell 1
      have c2 := k3.cell 2
      have f0 := k3.frozen 0
      have f1 := k3.frozen 1
      have f2 := k3.frozen 2
      simp at c0 c1 c2
      clear k3 HN
      go_wp2_with fail
      obtain ⟨w4, hw4, k4, hb4⟩ := put3r K.out (.int .i64 0) (.int .i64 0) (.int .i64 0)
      rw [hw4]
      have d0 := k4.cell 0
      have d1 := k4.cell 1
      have d2 := k4.cell 2
      simp at d0 d1 d2
      exact bodyPost_ret (v := .tuple #[.agg #[.int .i64 0, .int .i64 0, .int .i64 0], .bool false]) (by simp [results, Try.results51, go_sem, d0, d1, d2]) rfl
        ⟨by rw [HP.out]; rfl, B.out.trans hb4⟩
set_option maxRecDepth 100000 in
set_option maxHeartbeats 8000000 in
theorem ParseStateS_any (S : ByteArray) (w : World) : Calls Try.prog 52 #[.string S] w fun e w' => (e = .returned (.tuple #[.agg #[.int .i64 (oX (psN S.data.toList)), .int .i64 (oY (psN S.data.toList)), .int .i64 (oZ (psN S.data.toList))], .bool (psN S.data.toList).isSome]) ∧ Below w.heap.size w w') := by
  have K0 := Lib.hid (Blk.new w 40 #[.int .i64 0, .int .i64 0, .int .i64 0])
  have B0 := Lib.hid (below_n w (.cells #[.int .i64 0, .int .i64 0, .int .i64 0] 40))
  go_enter Try.func52, Try.ntmps52
  go_wp2_with fail
  go_loopg [4] 27 (fun gk i wr => ∃ j : Nat, j + gk = 27 ∧ i = .int .i64 j ∧ Hid (∀ i, i < j → stT i ≠ S.data.toList) ∧ Hid (Blk wr w.heap.size 40 #[.int .i64 0, .int .i64 0, .int .i64 0]) ∧ Hid (Below w.heap.size w wr))
  case atStart => exact ⟨0, rfl, rfl, Lib.hid (fun i hi => absurd hi (by omega)), K0, B0⟩
  case round =>
    clear K0 B0
    obtain ⟨j, hj, rfl, HN, K, B⟩ := hrel
    by_cases hlt : j < 27
    · have AT := Lib.hid (fun w => l2At_any j hlt w)
      have FM := Lib.hid (fun w => l2Show_any (stX j) (stY j) (stZ j) (stX_small j) (stY_small j) (stZ_small hlt) w)
      rw [show tx3 (stX j) (stY j) (stZ j) = stT j from rfl] at FM
      have hbq : (((bs (stT j)).toList == S.toList) = true) ↔ stT j = S.data.toList := by rw [ByteArray.toList_eq, ByteArray.toList_eq, bs_list, beq_iff_eq]
      obtain ⟨TX, hTX⟩ : ∃ T, bs (stT j) = T := ⟨_, rfl⟩
      rw [hTX] at FM hbq
      by_cases heq : stT j = S.data.toList
      · have q1 : (TX.toList == S.toList) = true := hbq.2 heq
        have HP := Lib.hid (psN_at hlt heq)
        clear hbq heq hTX HN
        go_wp2_with fail
        refine (AT.out _).mono ?_
        rintro e w1 ⟨rfl, hb1⟩
        have K1 := Lib.hid (K.out.below hb1 K.out.lt)
        have B1 := Lib.hid (below_2 B.out hb1)
        clear hb1 K B
        go_wp2_with fail
        refine (FM.out _).mono ?_
        rintro e w2 ⟨rfl, hb2⟩
        have K2 := Lib.hid (K1.out.below hb2 K1.out.lt)
        have B2 := Lib.hid (below_2 B1.out hb2)
        clear hb2 K1 B1
        go_wp2_with fail
        refine (AT.out _).mono ?_
        rintro e w3 ⟨rfl, hb3⟩
        have k3 := K2.out.below hb3 K2.out.lt
        have c0 := k3.cell 0
        have c1 := k3.cell 1
        have c2 := k3.cell 2
        have f0 := k3.frozen 0
        have f1 := k3.frozen 1
        have f2 := k3.frozen 2
        simp at c0 c1 c2
        have K3 := Lib.hid k3
        have B3 := Lib.hid (below_2 B2.out hb3)
        clear hb3 K2 B2 k3
        obtain ⟨x, hx⟩ : ∃ x, stX j = x := ⟨_, rfl⟩
        obtain ⟨y, hy⟩ : ∃ x, stY j = x := ⟨_, rfl⟩
        obtain ⟨z, hz⟩ : ∃ x, stZ j = x := ⟨_, rfl⟩
        rw [hx, hy, hz]
        have HX := Lib.hid hx
        have HY := Lib.hid hy
        have HZ := Lib.hid hz
        clear hx hy hz
        go_wp2_with fail
        obtain ⟨w4, hw4, k4, hb4⟩ := put3r K3.out (.int .i64 x) (.int .i64 y) (.int .i64 z)
        rw [hw4]
        have d0 := k4.cell 0
        have d1 := k4.cell 1
        have d2 := k4.cell 2
        simp at d0 d1 d2
        exact bodyPost_ret (v := .tuple #[.agg #[.int .i64 x, .int .i64 y, .int .i64 z], .bool true]) (by simp [results, Try.results52, go_sem, d0, d1, d2]) rfl
          ⟨by rw [HP.out]; simp only [oX, oY, oZ, HX.out, HY.out, HZ.out]; rfl, B3.out.trans hb4⟩
      · have q1 : (TX.toList == S.toList) = false := by
          cases hb : (TX.toList == S.toList)
          · rfl
          · exact absurd (hbq.1 hb) heq
        have HN2 : Hid (∀ i, i < j + 1 → stT i ≠ S.data.toList) := fun i hi => by
          by_cases h : i = j
          · rw [h]; exact heq
          · exact HN.out i (by omega)
        clear hbq heq hTX HN
        go_wp2_with fail
        refine (AT.out _).mono ?_
        rintro e w1 ⟨rfl, hb1⟩
        have K1 := Lib.hid (K.out.below hb1 K.out.lt)
        have B1 := Lib.hid (below_2 B.out hb1)
        clear hb1 K B
        go_wp2_with fail
        refine (FM.out _).mono ?_
        rintro e w2 ⟨rfl, hb2⟩
        have K2 := Lib.hid (K1.out.below hb2 K1.out.lt)
        have B2 := Lib.hid (below_2 B1.out hb2)
        clear hb2 K1 B1
        go_wp2_with fail
        go_roundg (gk - 1)
        case measure => omega
        case rel => exact ⟨j + 1, by omega, by go_num, HN2, K2, B2⟩
    · have HP := Lib.hid (psN_no (l := S.data.toList) (fun i hi => HN.out i (by omega)))
      have k3 := K.out
      have c0 := k3.cell 0
      have c1 := k3.cell 1
      have c2 := k3.cell 2
      have f0 := k3.frozen 0
      have f1 := k3.frozen 1
      have f2 := k3.frozen 2
      simp at c0 c1 c2
      clear k3 HN
      go_wp2_with fail
      obtain ⟨w4, hw4, k4, hb4⟩ := put3r K.out (.int .i64 0) (.int .i64 0) (.int .i64 0)
      rw [hw4]
      have d0 := k4.cell 0
      have d1 := k4.cell 1
      have d2 := k4.cell 2
      simp at d0 d1 d2
      exact bodyPost_ret (v := .tuple #[.agg #[.int .i64 0, .int .i64 0, .int .i64 0], .bool false]) (by simp [results, Try.results52, go_sem, d0, d1, d2]) rfl
        ⟨by rw [HP.out]; rfl, B.out.trans hb4⟩
/-- the number of a state, if it is one -/
def atN (i : Int) : Option Nat := if 0 ≤ i ∧ i < 27 then some i.toNat else none
def numI (x y z : Int) : Int := if stB x y z then x + 3 * y + 9 * z else -1
set_option maxRecDepth 100000 in
set_option maxHeartbeats 4000000 in
theorem StateAt_any (i : Int) (w : World) : Calls Try.prog 54 #[.int .i64 i] w fun e w' => (e = .returned (.tuple #[.agg #[.int .i64 (oX (atN i)), .int .i64 (oY (atN i)), .int .i64 (oZ (atN i))], .bool (atN i).isSome]) ∧ Below w.heap.size w w') := by
  have hk := Blk.new w 40 #[.int .i64 0, .int .i64 0, .int .i64 0]
  have K0 := Lib.hid hk
  have B0 := Lib.hid (below_n w (.cells #[.int .i64 0, .int .i64 0, .int .i64 0] 40))
  have c0 := hk.cell 0
  have c1 := hk.cell 1
  have c2 := hk.cell 2
  have f0 := hk.frozen 0
  have f1 := hk.frozen 1
  have f2 := hk.frozen 2
  simp at c0 c1 c2
  clear hk
  by_cases h : 0 ≤ i ∧ i < 27
  · obtain ⟨j, rfl⟩ := Int.eq_ofNat_of_zero_le h.1
    have hlt : j < 27 := by omega
    have hp : atN (j : Int) = some j := by unfold atN; rw [if_pos h]; rfl
    have HP := Lib.hid hp
    have AT := Lib.hid (fun w => stateAt_any j hlt w)
    clear hp h c0 c1 c2 f0 f1 f2
    obtain ⟨x, hx⟩ : ∃ x, stX j = x := ⟨_, rfl⟩
    obtain ⟨y, hy⟩ : ∃ x, stY j = x := ⟨_, rfl⟩
    obtain ⟨z, hz⟩ : ∃ x, stZ j = x := ⟨_, rfl⟩
    rw [hx, hy, hz] at AT
    have HX := Lib.hid hx
    have HY := Lib.hid hy
    have HZ := Lib.hid hz
    clear hx hy hz
    go_enter Try.func54, Try.ntmps54
    go_wp2_with fail
    refine (AT.out _).mono ?_
    rintro e w1 ⟨rfl, hb1⟩
    have k3 := K0.out.below hb1 (by simp)
    have c0 := k3.cell 0
    have c1 := k3.cell 1
    have c2 := k3.cell 2
    have f0 := k3.frozen 0
    have f1 := k3.frozen 1
    have f2 := k3.frozen 2
    simp at c0 c1 c2
    have K3 := Lib.hid k3
    have B3 := Lib.hid (below_2 B0.out hb1)
    clear hb1 k3
    go_wp2_with fail
    obtain ⟨w4, hw4, k4, hb4⟩ := put3r K3.out (.int .i64 x) (.int .i64 y) (.int .i64 z)
    rw [hw4]
    have d0 := k4.cell 0
    have d1 := k4.cell 1
    have d2 := k4.cell 2
    simp at d0 d1 d2
    exact bodyPost_ret (v := .tuple #[.agg #[.int .i64 x, .int .i64 y, .int .i64 z], .bool true]) (by simp [results, Try.results54, go_sem, d0, d1, d2]) rfl
      ⟨by rw [HP.out]; simp only [oX, oY, oZ, HX.out, HY.out, HZ.out]; rfl, B3.out.trans hb4⟩
  · have hp : atN i = none := by unfold atN; rw [if_neg h]
    have HP := Lib.hid hp
    clear hp
    rcases (show i < 0 ∨ 27 ≤ i by omega) with h1 | h1
    all_goals
      clear h
      go_enter Try.func54, Try.ntmps54
      go_wp2_with fail
      exact bodyPost_ret (v := .tuple #[.agg #[.int .i64 0, .int .i64 0, .int .i64 0], .bool false]) (by simp [results, Try.results54, go_sem]) rfl
        ⟨by rw [HP.out]; rfl, B0.out⟩
set_option maxHeartbeats 1000000 in
theorem l26_in (i : Int) (h1 : 0 ≤ i) (h2 : i ≤ 26) (w : World) : Calls Try.prog 98 #[.int .i64 i, .int .i64 0, .int .i64 26] w fun e w' => e = .returned (.bool true) ∧ w = w' := by
  go_enter Try.func98, Try.ntmps98
  go_wp2_with fail
  go_ret
  exact ⟨rfl, rfl⟩
set_option maxHeartbeats 1000000 in
theorem l26_out (i : Int) (h : ¬ (0 ≤ i ∧ i < 27)) (w : World) : Calls Try.prog 98 #[.int .i64 i, .int .i64 0, .int .i64 26] w fun e w' => e = .returned (.bool false) ∧ w = w' := by
  rcases (show i < 0 ∨ 27 ≤ i by omega) with h1 | h1
  all_goals
    clear h
    go_enter Try.func98, Try.ntmps98
    go_wp2_with fail
    go_ret
    exact ⟨ret_bool (by first | rfl | (simp; omega)), rfl⟩
set_option maxRecDepth 100000 in
set_option maxHeartbeats 4000000 in
theorem StateAtS_any (i : Int) (w : World) : Calls Try.prog 55 #[.int .i64 i] w fun e w' => (e = .returned (.tuple #[.agg #[.int .i64 (oX (atN i)), .int .i64 (oY (atN i)), .int .i64 (oZ (atN i))], .bool (atN i).isSome]) ∧ Below w.heap.size w w') := by
  have hk := Blk.new w 40 #[.int .i64 0, .int .i64 0, .int .i64 0]
  have K0 := Lib.hid hk
  have B0 := Lib.hid (below_n w (.cells #[.int .i64 0, .int .i64 0, .int .i64 0] 40))
  have c0 := hk.cell 0
  have c1 := hk.cell 1
  have c2 := hk.cell 2
  have f0 := hk.frozen 0
  have f1 := hk.frozen 1
  have f2 := hk.frozen 2
  simp at c0 c1 c2
  clear hk
  by_cases h : 0 ≤ i ∧ i < 27
  · obtain ⟨j, rfl⟩ := Int.eq_ofNat_of_zero_le h.1
    have hlt : j < 27 := by omega
    have hp : atN (j : Int) = some j := by unfold atN; rw [if_pos h]; rfl
    have HP := Lib.hid hp
    have AT := Lib.hid (fun w => l2At_any j hlt w)
    have IN := Lib.hid (fun w => l26_in (j : Int) (by omega) (by omega) w)
    clear hp h c0 c1 c2 f0 f1 f2
    obtain ⟨x, hx⟩ : ∃ x, stX j = x := ⟨_, rfl⟩
    obtain ⟨y, hy⟩ : ∃ x, stY j = x := ⟨_, rfl⟩
    obtain ⟨z, hz⟩ : ∃ x, stZ j = x := ⟨_, rfl⟩
    rw [hx, hy, hz] at AT
    have HX := Lib.hid hx
    have HY := Lib.hid hy
    have HZ := Lib.hid hz
    clear hx hy hz
    go_enter Try.func55, Try.ntmps55
    go_wp2_with fail
    refine (IN.out _).mono ?_
    rintro e w' ⟨rfl, rfl⟩
    go_wp2_with fail
    refine (AT.out _).mono ?_
    rintro e w1 ⟨rfl, hb1⟩
    have k3 := K0.out.below hb1 (by simp)
    have c0 := k3.cell 0
    have c1 := k3.cell 1
    have c2 := k3.cell 2
    have f0 := k3.frozen 0
    have f1 := k3.frozen 1
    have f2 := k3.frozen 2
    simp at c0 c1 c2
    have K3 := Lib.hid k3
    have B3 := Lib.hid (below_2 B0.out hb1)
    clear hb1 k3
    go_wp2_with fail
    obtain ⟨w4, hw4, k4, hb4⟩ := put3r K3.out (.int .i64 x) (.int .i64 y) (.int .i64 z)
    rw [hw4]
    have d0 := k4.cell 0
    have d1 := k4.cell 1
    have d2 := k4.cell 2
    simp at d0 d1 d2
    exact bodyPost_ret (v := .tuple #[.agg #[.int .i64 x, .int .i64 y, .int .i64 z], .bool true]) (by simp [results, Try.results55, go_sem, d0, d1, d2]) rfl
      ⟨by rw [HP.out]; simp only [oX, oY, oZ, HX.out, HY.out, HZ.out]; rfl, B3.out.trans hb4⟩
  · have hp : atN i = none := by unfold atN; rw [if_neg h]
    have HP := Lib.hid hp
    have IN := Lib.hid (fun w => l26_out i h w)
    clear hp
    rcases (show i < 0 ∨ 27 ≤ i by omega) with h1 | h1
    all_goals
      clear h
      go_enter Try.func55, Try.ntmps55
      go_wp2_with fail
      refine (IN.out _).mono ?_
      rintro e w' ⟨rfl, rfl⟩
      go_wp2_with fail
      exact bodyPost_ret (v := .tuple #[.agg #[.int .i64 0, .int .i64 0, .int .i64 0], .bool false]) (by simp [results, Try.results55, go_sem]) rfl
        ⟨by rw [HP.out]; rfl, B0.out⟩
set_option maxHeartbeats 2000000 in
theorem StateIndex_any (x y z : Int) (w : World) : Calls Try.prog 57 #[.agg #[.int .i64 x, .int .i64 y, .int .i64 z]] w fun e w' => (e = .returned (.int .i64 (numI x y z)) ∧ Below w.heap.size w w') := by
  have dk := Blk.new w 40 #[.int .i64 x, .int .i64 y, .int .i64 z]
  have d0 := dk.cell 0
  have d1 := dk.cell 1
  have d2 := dk.cell 2
  simp at d0 d1 d2
  have SV := Lib.hid (fun w => StateValid_any x y z w)
  have hal := Lib.hid (below_n w (.cells #[.int .i64 x, .int .i64 y, .int .i64 z] 40))
  have DK := Lib.hid dk
  clear dk
  unfold numI
  cases hv : stB x y z
  · rw [hv] at SV
    clear hv
    simp only [Bool.false_eq_true, if_false]
    go_enter Try.func57, Try.ntmps57
    go_wp2_with fail
    refine (SV.out _).mono ?_
    rintro e w1 ⟨rfl, hb1⟩
    have B1 := Lib.hid (below_2 hal.out hb1)
    clear hb1
    go_wp2_with fail
    go_ret
    exact ⟨rfl, B1.out⟩
  · rw [hv] at SV
    obtain ⟨⟨x1, x2⟩, ⟨y1, y2⟩, z1, z2⟩ := stB_small hv
    simp only [if_true]
    clear hv
    go_enter Try.func57, Try.ntmps57
    go_wp2_with fail
    refine (SV.out _).mono ?_
    rintro e w1 ⟨rfl, hb1⟩
    have k1 := DK.out.below hb1 (by simp)
    have c0 := k1.cell 0
    have c1 := k1.cell 1
    have c2 := k1.cell 2
    simp at c0 c1 c2
    have B1 := Lib.hid (below_2 hal.out hb1)
    clear hb1 k1 d0 d1 d2
    go_wp2_with fail
    go_ret
    exact ⟨rfl, B1.out⟩
set_option maxHeartbeats 1000000 in
theorem spotS_any (g p : Nat) (w : World) (hp : p ≤ 999999000) (hR : Rnd w g p) :
    Calls Try.prog 95 #[.pointer (some ⟨g, 0, none⟩)] w fun e w' => ∃ x y z : Int, Hid (small x ∧ small y ∧ small z) ∧ e = .returned (.agg #[.int .i64 x, .int .i64 y, .int .i64 z]) ∧ Drew w g p 3 w' := by
  have HR := Lib.hid (hR.alloc (.cells #[.int .i64 0, .int .i64 0, .int .i64 0] 40))
  have hne : g ≠ w.heap.size := by have := hR.lt; omega
  have G := Lib.hid (World.grownBy_alloc w (.cells #[.int .i64 0, .int .i64 0, .int .i64 0] 40) (some g))
  have K := Lib.hid (Blk.new w 40 #[.int .i64 0, .int .i64 0, .int .i64 0])
  clear hR
  go_enter Try.func95, Try.ntmps95
  go_wp2_with fail
  refine (pick_any g p 3 _ (by omega) (by omega) HR.out).mono ?_
  rintro e w0 ⟨v0, ⟨va0, vb0, _⟩, rfl, hg0, q0, qa0, qb0, hr0⟩
  have vc0 := vb0 (by omega)
  clear vb0
  have R0 := Lib.hid hr0
  have K0 := Lib.hid (K.out.grown hg0 (by intro e; injection e with e; exact hne e.symm))
  have G0 := Lib.hid (grown_trans G.out hg0)
  clear hr0 hg0 HR K G
  go_wp2_with fail
  refine (pick_any g q0 3 _ (by omega) (by omega) R0.out).mono ?_
  rintro e w1 ⟨v1, ⟨va1, vb1, _⟩, rfl, hg1, q1, qa1, qb1, hr1⟩
  have vc1 := vb1 (by omega)
  clear vb1
  have R1 := Lib.hid hr1
  have K1 := Lib.hid (K0.out.grown hg1 (by intro e; injection e with e; exact hne e.symm))
  have G1 := Lib.hid (grown_trans G0.out hg1)
  clear hr1 hg1 K0 G0 R0
  go_wp2_with fail
  refine (pick_any g q1 3 _ (by omega) (by omega) R1.out).mono ?_
  rintro e w2 ⟨v2, ⟨va2, vb2, _⟩, rfl, hg2, q2, qa2, qb2, hr2⟩
  have vc2 := vb2 (by omega)
  clear vb2
  have R2 := Lib.hid hr2
  have k2 := K1.out.grown hg2 (by intro e; injection e with e; exact hne e.symm)
  have G2 := Lib.hid (grown_trans G1.out hg2)
  have c0 := k2.cell 0
  have c1 := k2.cell 1
  have c2 := k2.cell 2
  have f0 := k2.frozen 0
  have f1 := k2.frozen 1
  have f2 := k2.frozen 2
  simp at c0 c1 c2
  have K2 := Lib.hid k2
  clear hr2 hg2 K1 G1 R1 k2
  go_wp2_with fail
  obtain ⟨w3, hw3, g3, r3, d0, d1, d2⟩ := put3 G2.out R2.out K2.out (Nat.le_refl _) hne v0 v1 v2
  rw [hw3]
  exact bodyPost_ret (v := .agg #[.int .i64 v0, .int .i64 v1, .int .i64 v2]) (by simp [results, Try.results95, go_sem, d0, d1, d2]) rfl
    ⟨v0, v1, v2, ⟨⟨va0, by omega⟩, ⟨va1, by omega⟩, va2, by omega⟩, rfl, g3, q2, by omega, by omega, r3⟩
set_option maxHeartbeats 2000000 in
theorem DrawStateAt_any (A : Option Addr) (n cap : Nat) (w : World) (hn : n ≤ 4000000000000) (hc : n ≤ cap) (h : Bytes w A n w.heap.size) :
    Calls Try.prog 53 #[.slice A n cap] w fun e w' => ∃ i : Int, e = .returned (.int .i64 i) ∧ Below w.heap.size w w' := by
  have O := Lib.hid (open_ex A n cap w hn hc h)
  clear h
  go_enter Try.func53, Try.ntmps53
  go_wp2_with fail
  refine O.out.mono ?_
  rintro e w0 ⟨g, hg0, rfl, hr0, hb0⟩
  have R0 := Lib.hid hr0
  have G0 : Hid (w.grownBy w0 (some g)) := Lib.hid (grown_of_below hb0 _)
  clear hr0 hb0 O
  go_wp2_with fail
  refine (pick_any g 0 8 w0 (by omega) (by omega) R0.out).mono ?_
  rintro e w1 ⟨v1, ⟨va1, vb1, _⟩, rfl, hg1, q1, qa1, qb1, hr1⟩
  have R1 := Lib.hid hr1
  have G1 := Lib.hid (grown_trans G0.out hg1)
  clear vb1 hr1 hg1
  by_cases hv : v1 = 0
  · subst hv
    go_wp2_with fail
    refine (num_any g q1 w1.heap.size [-1, 27, 9223372036854775807] (w1.alloc _) (by omega) (R1.out.alloc _) (by decide) (by decide) (by have := R1.out.lt; omega) (Blk.new w1 _ _)).mono ?_
    rintro e w2 ⟨v2, _, rfl, hg2, q2, qa2, qb2, hr2⟩
    have G2 := Lib.hid (grown_trans G1.out (grown_alloc hg2))
    clear hg2 hr2
    go_wp2_with fail
    go_ret
    exact ⟨v2, rfl, below_src G2.out hg0⟩
  · have hv' : (v1 == 0) = false := by simp; exact hv
    clear hv
    go_wp2_with fail
    refine (pick_any g q1 27 w1 (by omega) (by omega) R1.out).mono ?_
    rintro e w2 ⟨v2, _, rfl, hg2, q2, qa2, qb2, hr2⟩
    have G2 := Lib.hid (grown_trans G1.out hg2)
    clear hg2 hr2
    go_wp2_with fail
    go_ret
    exact ⟨v2, rfl, below_src G2.out hg0⟩
set_option maxHeartbeats 4000000 in
theorem DrawParseState_any (A : Option Addr) (n cap : Nat) (w : World) (hn : n ≤ 4000000000000) (hc : n ≤ cap) (h : Bytes w A n w.heap.size) :
    Calls Try.prog 50 #[.slice A n cap] w fun e w' => ∃ s : ByteArray, s.size ≤ 100 ∧ e = .returned (.string s) ∧ Below w.heap.size w w' := by
  have O := Lib.hid (open_ex A n cap w hn hc h)
  clear h
  go_enter Try.func50, Try.ntmps50
  go_wp2_with fail
  refine O.out.mono ?_
  rintro e w0 ⟨g, hg0, rfl, hr0, hb0⟩
  have R0 := Lib.hid hr0
  have G0 : Hid (w.grownBy w0 (some g)) := Lib.hid (grown_of_below hb0 _)
  clear hr0 hb0 O
  go_wp2_with fail
  refine (spotS_any g 0 w0 (by omega) R0.out).mono ?_
  rintro e w1 ⟨x, y, z, HS, rfl, hg1, q1, qa1, qb1, hr1⟩
  have R1 := Lib.hid hr1
  have G1 := Lib.hid (grown_trans G0.out hg1)
  clear hr1 hg1
  have L2 := Lib.hid (fun w => l2Show_any x y z HS.out.1 HS.out.2.1 HS.out.2.2 w)
  have hts : (bs (tx3 x y z)).size = 3 := rfl
  have t1 : 3 ≤ (bs (tx3 x y z)).size := Nat.le_of_eq hts.symm
  have t2 : (bs (tx3 x y z)).size ≤ 3 := Nat.le_of_eq hts
  clear hts
  generalize bs (tx3 x y z) = TX at *
  go_wp2_with fail
  refine (L2.out _).mono ?_
  rintro e w2 ⟨rfl, hb2⟩
  have R2 := Lib.hid (R1.out.below hb2)
  have G2 := Lib.hid (grown_below G1.out hb2)
  clear hb2 L2
  go_wp2_with fail
  refine (pick_any g q1 3 w2 (by omega) (by omega) R2.out).mono ?_
  rintro e w3 ⟨v3, ⟨va3, vb3, _⟩, rfl, hg3, q3, qa3, qb3, hr3⟩
  have vc3 := vb3 (by omega)
  have R3 := Lib.hid hr3
  have G3 := Lib.hid (grown_trans G2.out hg3)
  clear vb3 hr3 hg3
  obtain ⟨j, rfl⟩ := Int.eq_ofNat_of_zero_le va3
  go_wp2_with fail
  refine (pick_any g q3 4 w3 (by omega) (by omega) R3.out).mono ?_
  rintro e w4 ⟨v4, ⟨va4, vb4, _⟩, rfl, hg4, q4, qa4, qb4, hr4⟩
  have R4 := Lib.hid hr4
  have G4 := Lib.hid (grown_trans G3.out hg4)
  clear vb4 hr4 hg4
  by_cases h0 : v4 = 0
  · subst h0
    have hlr := R4.out.lt
    have OF := Lib.hid (of_any g q4 w4.heap.size [⟨#[]⟩, ⟨#[48]⟩, ⟨#[51]⟩, ⟨#[120]⟩] (w4.alloc (.cells #[.string ⟨#[]⟩, .string ⟨#[48]⟩, .string ⟨#[51]⟩, .string ⟨#[120]⟩] 9)).drew (by omega) ((R4.out.alloc _).drewN 1) (by decide) (by decide) (by omega) ((Blk.new w4 _ _).drewN 1))
    have x1 : IntKind.i64.wrap ((j : Int) + 1) = (j : Int) + 1 := IntWalk.i64_in _ (by omega)
    have x2 : ((j : Int) + 1).toNat = j + 1 := by omega
    have x0 : (0 : Int) ≤ (j : Int) := by omega
    have x4 : (j : Int) ≤ (TX.size : Int) := by omega
    have x5 : (0 : Int) ≤ (j : Int) + 1 := by omega
    have x3 : ((j : Int) + 1) ≤ (TX.size : Int) := by omega
    have eA := size_extract TX 0 j (by omega)
    have eB := size_extract TX (j + 1) TX.size (Nat.le_refl _)
    obtain ⟨A0, hA0⟩ : ∃ A, TX.extract 0 j = A := ⟨_, rfl⟩
    obtain ⟨B0, hB0⟩ : ∃ A, TX.extract (j + 1) TX.size = A := ⟨_, rfl⟩
    rw [hA0] at eA
    rw [hB0] at eB
    have eA' : A0.size ≤ 3 := by omega
    have eB' : B0.size ≤ 3 := by omega
    clear eA eB
    have hB : ∀ s2 : ByteArray, s2 ∈ ([⟨#[]⟩, ⟨#[48]⟩, ⟨#[51]⟩, ⟨#[120]⟩] : List ByteArray) → s2.size ≤ 1 ∧ ¬ (9223372036854775807 < A0.size + s2.size) ∧ ¬ (9223372036854775807 < A0.size + s2.size + B0.size) ∧ (A0 ++ s2 ++ B0).size ≤ 100 := by
      intro s2 h
      have e : s2.size ≤ 1 := by
        simp only [List.mem_cons, List.not_mem_nil, or_false] at h
        rcases h with rfl | rfl | rfl | rfl <;> decide
      refine ⟨by omega, by omega, by omega, by rw [size_append, size_append]; omega⟩
    have HB := Lib.hid hB
    clear hB
    go_wp2_with fail
    go_region_held3 (fun _ => True) (trivial) ((go_at_call 96; refine OF.out.mono ?_; rintro e w5 ⟨s2, hs2, rfl, hg2, q2, qa2, qb2, hr2⟩; obtain ⟨y0, y1, y2, y3⟩ := HB.out s2 hs2; have G5 := Lib.hid (grown_alloc (grown_trans (grownBy_drewN _ 1 (some g)) hg2)); clear hr2 hg2 hs2))
    all_goals go_wp2_with fail
    all_goals go_ret
    all_goals exact ⟨_, y3, rfl, below_src (grown_trans G4.out G5.out) hg0⟩
  have e0 : (v4 == 0) = false := by simp; exact h0
  by_cases h1 : v4 = 1
  · subst h1
    clear h0 e0
    go_wp2_with fail
    refine (of_any g q4 w4.heap.size [⟨#[]⟩, ⟨#[48]⟩] (w4.alloc _) (by omega) (R4.out.alloc _) (by decide) (by decide) (by have := R4.out.lt; omega) (Blk.new w4 _ _)).mono ?_
    rintro e w5 ⟨s5, hs5, rfl, hg5, q5, qa5, qb5, hr5⟩
    have G5 := Lib.hid (grown_trans G4.out (grown_alloc hg5))
    have hz5 : s5.size ≤ 1 := by
      simp only [List.mem_cons, List.not_mem_nil, or_false] at hs5
      rcases hs5 with rfl | rfl <;> decide
    clear hr5 hg5 hs5
    have t3 : TX.size + s5.size ≤ 9223372036854775807 := by omega
    go_wp2_with fail
    go_ret
    exact ⟨_, by rw [size_append]; omega, rfl, below_src G5.out hg0⟩
  have e1 : (v4 == 1) = false := by simp; exact h1
  clear h0 h1
  go_wp2_with fail
  go_ret
  exact ⟨TX, by omega, rfl, below_src G4.out hg0⟩

end Go.Proofs.Ytppcghklkldnaaa
