/- Texts and numbers of states, on both sides. -/
import Derived.Test.YtppcghklkldnaabBi
import Derived.Test.YtppcghklkldnaabPln
import Derived.Test.YtppcghklkldnaabDrg
import Derived.Test.YtppcghklkldnaabRs
import Derived.Deep.RegionHeld3
namespace Go.Proofs.Ytppcghklkldnaab
open Go.RowKit
open Pl

theorem conv_three (a b c : Int) (W : World) : (convert 22 9 (.slice (some ⟨W.heap.size, 0, none⟩) 3 3)).run Try.prog (W.alloc (.cells #[.int .u8 a, .int .u8 b, .int .u8 c] 5)) = .ok (.string ⟨#[UInt8.ofNat a.toNat, UInt8.ofNat b.toNat, UInt8.ofNat c.toNat]⟩) (W.alloc (.cells #[.int .u8 a, .int .u8 b, .int .u8 c] 5)) :=
  run_convert_bytes_arg (P := Try.prog) _ 22 5 Try.underlying22 Try.underlying5 W.heap.size 0 3 3 [a, b, c] rfl (fun i hi => by
    rw [(Blk.new W _ _).cell]
    match i, hi with
    | 0, _ => rfl
    | 1, _ => rfl
    | 2, _ => rfl) 9 Try.underlying9
theorem digOf_48 {n : Int} (h : small n) : UInt8.ofNat (48 + n).toNat = digOf n := by
  unfold digOf
  congr 1
  have := h.1
  omega
/-- the text of a state that is one -/
def fmt1 (x y z : Int) : List UInt8 := if stB x y z then tx3 x y z else []
theorem st_ok {i : Nat} (h : i < 27) : stB (stX i) (stY i) (stZ i) = true := by
  simp only [stB, Bool.and_eq_true]
  exact ⟨inB_small.2 (stX_small i), inB_small.2 (stY_small i), inB_small.2 (stZ_small h)⟩
theorem fmt_st {i : Nat} (h : i < 27) : fmt1 (stX i) (stY i) (stZ i) = stT i := by unfold fmt1; rw [st_ok h]; rfl
set_option maxHeartbeats 2000000 in
theorem FormatState_any (x y z : Int) (w : World) : Calls Try.prog 71 #[.agg #[.int .i64 x, .int .i64 y, .int .i64 z]] w fun e w' => (e = .returned (.string (bs (fmt1 x y z))) ∧ Below w.heap.size w w') := by
  have dk := Blk.new w 25 #[.int .i64 x, .int .i64 y, .int .i64 z]
  have d0 := dk.cell 0
  have d1 := dk.cell 1
  have d2 := dk.cell 2
  simp at d0 d1 d2
  have SV := Lib.hid (fun w => StateValid_any x y z w)
  have hal := Lib.hid (below_n w (.cells #[.int .i64 x, .int .i64 y, .int .i64 z] 25))
  have DK := Lib.hid dk
  clear dk
  unfold fmt1
  cases hv : stB x y z
  · rw [hv] at SV
    clear hv
    simp only [Bool.false_eq_true, if_false]
    go_enter Try.func71, Try.ntmps71
    go_wp2_with fail
    refine (SV.out _).mono ?_
    rintro e w1 ⟨rfl, hb1⟩
    have B1 := Lib.hid (below_2 hal.out hb1)
    clear hb1
    go_wp2_with fail
    go_ret
    exact ⟨rfl, B1.out⟩
  · rw [hv] at SV
    obtain ⟨sx, sy, sz⟩ := stB_small hv
    have hT : (⟨#[UInt8.ofNat (48 + x).toNat, UInt8.ofNat (48 + y).toNat, UInt8.ofNat (48 + z).toNat]⟩ : ByteArray) = bs (tx3 x y z) := by
      rw [digOf_48 sx, digOf_48 sy, digOf_48 sz]; rfl
    obtain ⟨x1, x2⟩ := sx
    obtain ⟨y1, y2⟩ := sy
    obtain ⟨z1, z2⟩ := sz
    simp only [if_true]
    rw [← hT]
    have kc := conv_three (48 + x) (48 + y) (48 + z)
    generalize (⟨#[UInt8.ofNat (48 + x).toNat, UInt8.ofNat (48 + y).toNat, UInt8.ofNat (48 + z).toNat]⟩ : ByteArray) = TX at *
    clear hv hT
    go_enter Try.func71, Try.ntmps71
    go_wp2_with fail
    refine (SV.out _).mono ?_
    rintro e w1 ⟨rfl, hb1⟩
    have k1 := DK.out.below hb1 (by simp)
    have c0 := k1.cell 0
    have c1 := k1.cell 1
    have c2 := k1.cell 2
    simp at c0 c1 c2
    have B1 := Lib.hid (below_2 hal.out hb1)
    clear hb1 k1 d0 d1 d2
    go_wp2_with fail
    go_ret
    exact ⟨rfl, B1.out.alloc B1.out.size _⟩
set_option maxRecDepth 100000 in
set_option maxHeartbeats 4000000 in
theorem l2Show_any (x y z : Int) (sx : small x) (sy : small y) (sz : small z) (w : World) : Calls Try.prog 73 #[.agg #[.int .i64 x, .int .i64 y, .int .i64 z]] w fun e w' => (e = .returned (.string (bs (tx3 x y z))) ∧ Below w.heap.size w w') := by
  have DX := Lib.hid (fun w => dec_small x (digOf x) sx.1 (by have := sx.2; omega) (digOf_48 sx) w)
  have DY := Lib.hid (fun w => dec_small y (digOf y) sy.1 (by have := sy.2; omega) (digOf_48 sy) w)
  have DZ := Lib.hid (fun w => dec_small z (digOf z) sz.1 (by have := sz.2; omega) (digOf_48 sz) w)
  have hT : bs (tx3 x y z) = (⟨#[digOf x]⟩ : ByteArray) ++ ⟨#[digOf y]⟩ ++ ⟨#[digOf z]⟩ := by
    rw [show (⟨#[digOf x]⟩ : ByteArray) = bs [digOf x] from rfl, show (⟨#[digOf y]⟩ : ByteArray) = bs [digOf y] from rfl, show (⟨#[digOf z]⟩ : ByteArray) = bs [digOf z] from rfl, bs_app, bs_app]; rfl
  rw [hT]
  have h1 : (⟨#[digOf x]⟩ : ByteArray).size ≤ 1 := Nat.le_refl _
  have h2 : (⟨#[digOf y]⟩ : ByteArray).size ≤ 1 := Nat.le_refl _
  have h3 : (⟨#[digOf z]⟩ : ByteArray).size ≤ 1 := Nat.le_refl _
  have H : Sit w (w.alloc (.cells #[.int .i64 x, .int .i64 y, .int .i64 z] 25)) [(⟨w.heap.size, 0, none⟩, .int .i64 x), (⟨w.heap.size, 1, none⟩, .int .i64 y), (⟨w.heap.size, 2, none⟩, .int .i64 z)] := (Sit.refl w).box3 25
  clear hT
  generalize (⟨#[digOf x]⟩ : ByteArray) = A at *
  generalize (⟨#[digOf y]⟩ : ByteArray) = B at *
  generalize (⟨#[digOf z]⟩ : ByteArray) = C at *
  clear sx sy sz
  have z1 : ¬ (9223372036854775807 < A.size + B.size) := by omega
  have z2 : ¬ (9223372036854775807 < A.size + B.size + C.size) := by omega
  obtain ⟨d0, d1, d2⟩ := H.c3
  go_enter Try.func73, Try.ntmps73
  go_wp2_with fail
  refine region_class (fun W => Sit w W [(⟨w.heap.size, 0, none⟩, .int .i64 x), (⟨w.heap.size, 1, none⟩, .int .i64 y), (⟨w.heap.size, 2, none⟩, .int .i64 z)]) (by kernel_rfl) (by kernel_rfl) H.drew ?_
  clear d0 d1 d2
  repeat (first | go_big_quiet_skip | (go_big_quiet_want; first | (apply quiet_value; (· (intro W hW; obtain ⟨d0, d1, d2⟩ := hW.c3; go_simp; exact rfl)); simp only [Act.put, List.setIfInBounds_toArray, List.set_cons_zero, List.set_cons_succ]; go_big_quiet_on) | (apply quiet_call; (· (intro W hW; go_simp; exact ⟨rfl, rfl⟩)); (· (intro W hW; first | with_reducible exact (DX.out W).mono fun _ _ h => ⟨h.1, hW.call h.2⟩ | with_reducible exact (DY.out W).mono fun _ _ h => ⟨h.1, hW.call h.2⟩ | with_reducible exact (DZ.out W).mono fun _ _ h => ⟨h.1, hW.call h.2⟩)); simp only [Act.put, List.setIfInBounds_toArray, List.set_cons_zero, List.set_cons_succ]; go_big_quiet_on)))
  refine wpQuiet_nil ?_
  intro wq hq
  clear H
  have H := hq
  clear hq
  go_wp2_with fail
  go_ret
  exact ⟨rfl, H.below⟩
def oX (o : Option Nat) : Int :=
  match o with
  | some i => stX i
  | none => 0
def oY (o : Option Nat) : Int :=
  match o with
  | some i => stY i
  | none => 0
def oZ (o : Option Nat) : Int :=
  match o with
  | some i => stZ i
  | none => 0
/-- a block of three, written anew -/
theorem put3r {W : World} {r : Nat} {t : TypeId} {a b c : Value} (h : Blk W r t #[a, b, c]) (x y z : Value) : ∃ W', ((W.setCell ⟨r, 0, none⟩ x).setCell ⟨r, 1, none⟩ y).setCell ⟨r, 2, none⟩ z = W' ∧ Blk W' r t #[x, y, z] ∧ Below r W W' := by
  refine ⟨_, rfl, ?_, (((Below.refl r W).setCell (p := ⟨r, 0, none⟩) (Nat.le_refl _) x).setCell (p := ⟨r, 1, none⟩) (Nat.le_refl _) y).setCell (p := ⟨r, 2, none⟩) (Nat.le_refl _) z⟩
  have := ((h.set_ 0 x).set_ 1 y).set_ 2 z
  simpa using this
set_option maxRecDepth 100000 in
set_option maxHeartbeats 8000000 in
theorem ParseState_any (S : ByteArray) (w : World) : Calls Try.prog 33 #[.string S] w fun e w' => (e = .returned (.tuple #[.agg #[.int .i64 (oX (psN S.data.toList)), .int .i64 (oY (psN S.data.toList)), .int .i64 (oZ (psN S.data.toList))], .bool (psN S.data.toList).isSome]) ∧ Below w.heap.size w w') := by
  have K0 := Lib.hid (Blk.new w 25 #[.int .i64 0, .int .i64 0, .int .i64 0])
  have B0 := Lib.hid (below_n w (.cells #[.int .i64 0, .int .i64 0, .int .i64 0] 25))
  go_enter Try.func33, Try.ntmps33
  go_wp2_with fail
  go_loopg [4] 27 (fun gk i wr => ∃ j : Nat, j + gk = 27 ∧ i = .int .i64 j ∧ Hid (∀ i, i < j → stT i ≠ S.data.toList) ∧ Hid (Blk wr w.heap.size 25 #[.int .i64 0, .int .i64 0, .int .i64 0]) ∧ Hid (Below w.heap.size w wr))
  case atStart => exact ⟨0, rfl, rfl, Lib.hid (fun i hi => absurd hi (by omega)), K0, B0⟩
  case round =>
    clear K0 B0
    obtain ⟨j, hj, rfl, HN, K, B⟩ := hrel
    by_cases hlt : j < 27
    · have AT := Lib.hid (fun w => stateAt_any j hlt w)
      have FM := Lib.hid (fun w => FormatState_any (stX j) (stY j) (stZ j) w)
      rw [fmt_st hlt] at FM
      have hbq : (((bs (stT j)).toList == S.toList) = true) ↔ stT j = S.data.toList := by rw [ByteArray.toList_eq, ByteArray.toList_eq, bs_list, beq_iff_eq]
      obtain ⟨TX, hTX⟩ : ∃ T, bs (stT j) = T := ⟨_, rfl⟩
      rw [hTX] at FM hbq
      by_cases heq : stT j = S.data.toList
      · have q1 : (TX.toList == S.toList) = true := hbq.2 heq
        have HP := Lib.hid (psN_at hlt heq)
        clear hbq heq hTX HN
        go_wp2_with fail
        refine (AT.out _).mono ?_
        rintro e w1 ⟨rfl, hb1⟩
        have K1 := Lib.hid (K.out.below hb1 K.out.lt)
        have B1 := Lib.hid (below_2 B.out hb1)
        clear hb1 K B
        go_wp2_with fail
        refine (FM.out _).mono ?_
        rintro e w2 ⟨rfl, hb2⟩
        have K2 := Lib.hid (K1.out.below hb2 K1.out.lt)
        have B2 := Lib.hid (below_2 B1.out hb2)
        clear hb2 K1 B1
        go_wp2_with fail
        refine (AT.out _).mono ?_
        rintro e w3 ⟨rfl, hb3⟩
        have k3 := K2.out.below hb3 K2.out.lt
        have c0 := k3.cell 0
        have c1 := k3.cell 1
        have c2 := k3.cell 2
        have f0 := k3.frozen 0
        have f1 := k3.frozen 1
        have f2 := k3.frozen 2
        simp at c0 c1 c2
        have K3 := Lib.hid k3
        have B3 := Lib.hid (below_2 B2.out hb3)
        clear hb3 K2 B2 k3
        obtain ⟨x, hx⟩ : ∃ x, stX j = x := ⟨_, rfl⟩
        obtain ⟨y, hy⟩ : ∃ x, stY j = x := ⟨_, rfl⟩
        obtain ⟨z, hz⟩ : ∃ x, stZ j = x := ⟨_, rfl⟩
        rw [hx, hy, hz]
        have HX := Lib.hid hx
        have HY := Lib.hid hy
        have HZ := Lib.hid hz
        clear hx hy hz
        go_wp2_with fail
        obtain ⟨w4, hw4, k4, hb4⟩ := put3r K3.out (.int .i64 x) (.int .i64 y) (.int .i64 z)
        rw [hw4]
        have d0 := k4.cell 0
        have d1 := k4.cell 1
        have d2 := k4.cell 2
        simp at d0 d1 d2
        exact bodyPost_ret (v := .tuple #[.agg #[.int .i64 x, .int .i64 y, .int .i64 z], .bool true]) (by simp [results, Try.results33, go_sem, d0, d1, d2]) rfl
          ⟨by rw [HP.out]; simp only [oX, oY, oZ, HX.out, HY.out, HZ.out]; rfl, B3.out.trans hb4⟩
      · have q1 : (TX.toList == S.toList) = false := by
          cases hb : (TX.toList == S.toList)
          · rfl
          · exact absurd (hbq.1 hb) heq
        have HN2 : Hid (∀ i, i < j + 1 → stT i ≠ S.data.toList) := fun i hi => by
          by_cases h : i = j
          · rw [h]; exact heq
          · exact HN.out i (by omega)
        clear hbq heq hTX HN
        go_wp2_with fail
        refine (AT.out _).mono ?_
        rintro e w1 ⟨rfl, hb1⟩
        have K1 := Lib.hid (K.out.below hb1 K.out.lt)
        have B1 := Lib.hid (below_2 B.out hb1)
        clear hb1 K B
        go_wp2_with fail
        refine (FM.out _).mono ?_
        rintro e w2 ⟨rfl, hb2⟩
        have K2 := Lib.hid (K1.out.below hb2 K1.out.lt)
        have B2 := Lib.hid (below_2 B1.out hb2)
        clear hb2 K1 B1
        go_wp2_with fail
        go_roundg (gk - 1)
        case measure => omega
        case rel => exact ⟨j + 1, by omega, by go_num, HN2, K2, B2⟩
    · have HP := Lib.hid (psN_no (l := S.data.toList) (fun i hi => HN.out i (by omega)))
      have k3 := K.out
      have c0 := k3.cell 0
      have c1 := k3.cell 1
      have c2 := k3.cell 2
      have f0 := k3.frozen 0
      have f1 := k3.frozen 1
      have f2 := k3.frozen 2
      simp at c0 c1 c2
      clear k3 HN
      go_wp2_with fail
      obtain ⟨w4, hw4, k4, hb4⟩ := put3r K.out (.int .i64 0) (.int .i64 0) (.int .i64 0)
      rw [hw4]
      have d0 := k4.cell 0
      have d1 := k4.cell 1
      have d2 := k4.cell 2
      simp at d0 d1 d2
      exact bodyPost_ret (v := .tuple #[.agg #[.int .i64 0, .int .i64 0, .int .i64 0], .bool false]) (by simp [results, Try.results33, go_sem, d0, d1, d2]) rfl
        ⟨by rw [HP.out]; rfl, B.out.trans hb4⟩
/-- the number of a state, if it is one -/
def atN (i : Int) : Option Nat := if 0 ≤ i ∧ i < 27 then some i.toNat else none
def numI (x y z : Int) : Int := if stB x y z then x + 3 * y + 9 * z else -1
set_option maxHeartbeats 2000000 in
theorem StateIndex_any (x y z : Int) (w : World) : Calls Try.prog 18 #[.agg #[.int .i64 x, .int .i64 y, .int .i64 z]] w fun e w' => (e = .returned (.int .i64 (numI x y z)) ∧ Below w.heap.size w w') := by
  have dk := Blk.new w 25 #[.int .i64 x, .int .i64 y, .int .i64 z]
  have d0 := dk.cell 0
  have d1 := dk.cell 1
  have d2 := dk.cell 2
  simp at d0 d1 d2
  have SV := Lib.hid (fun w => StateValid_any x y z w)
  have hal := Lib.hid (below_n w (.cells #[.int .i64 x, .int .i64 y, .int .i64 z] 25))
  have DK := Lib.hid dk
  clear dk
  unfold numI
  cases hv : stB x y z
  · rw [hv] at SV
    clear hv
    simp only [Bool.false_eq_true, if_false]
    go_enter Try.func18, Try.ntmps18
    go_wp2_with fail
    refine (SV.out _).mono ?_
    rintro e w1 ⟨rfl, hb1⟩
    have B1 := Lib.hid (below_2 hal.out hb1)
    clear hb1
    go_wp2_with fail
    go_ret
    exact ⟨rfl, B1.out⟩
  · rw [hv] at SV
    obtain ⟨⟨x1, x2⟩, ⟨y1, y2⟩, z1, z2⟩ := stB_small hv
    simp only [if_true]
    clear hv
    go_enter Try.func18, Try.ntmps18
    go_wp2_with fail
    refine (SV.out _).mono ?_
    rintro e w1 ⟨rfl, hb1⟩
    have k1 := DK.out.below hb1 (by simp)
    have c0 := k1.cell 0
    have c1 := k1.cell 1
    have c2 := k1.cell 2
    simp at c0 c1 c2
    have B1 := Lib.hid (below_2 hal.out hb1)
    clear hb1 k1 d0 d1 d2
    go_wp2_with fail
    go_ret
    exact ⟨rfl, B1.out⟩

end Go.Proofs.Ytppcghklkldnaab
