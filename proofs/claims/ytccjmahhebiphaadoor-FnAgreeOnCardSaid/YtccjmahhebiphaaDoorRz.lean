/- Pairs of a relation, the first one; images, shadows, equivalences of the program. -/
import Derived.Test.YtccjmahhebiphaaDoorRy
import Derived.BigQuiet
namespace Go.Proofs.YtccjmahhebiphaaDoor
open Go.RowKit
open Pl

theorem row_text {l : List UInt8} (h : bOk 729 l = true) {i : Nat} (hi : i < 27) : l.drop (27 * i) = bitsN 27 (ro l i) ++ l.drop (27 * i + 27) := by
  have hl := bOk_len h
  have h1 : (l.drop (27 * i)).take 27 = bitsN 27 (ro l i) := by
    apply List.ext_getElem
    · rw [List.length_take, List.length_drop, bits_len]; omega
    · intro k h1 h2
      rw [bits_len] at h2
      rw [List.getElem_take, List.getElem_drop, bits_get (by rw [bits_len]; exact h2), bOk_get h (by omega)]
      rfl
  rw [← h1, ← List.drop_drop, List.take_append_drop]
theorem ext_row {R : ByteArray} (h : bOk 729 R.data.toList = true) {i : Nat} (hi : i < 27) {p n : Nat} (hp : p = 27 * i) (hn : n = 27 * i + 27) : R.extract p n = bs (bitsN 27 (ro R.data.toList i)) := by
  subst hp hn
  exact extract_nd (row_text h hi) (by rw [bits_len])
set_option maxRecDepth 100000 in
set_option maxHeartbeats 8000000 in
theorem HasPair_any (P : ByteArray) (hp : bOk 729 P.data.toList = true) (j k : Nat) (hj : j < 27) (hk : k < 27) (w : World) : Calls Tryd.prog 47 #[.string P, .agg #[.int .i64 (stX j), .int .i64 (stY j), .int .i64 (stZ j)], .agg #[.int .i64 (stX k), .int .i64 (stY k), .int .i64 (stZ k)]] w fun e w' => (e = .returned (.bool (ro P.data.toList j k)) ∧ Below w.heap.size w w') := by
  have z1 := okR_size hp
  have V := Lib.hid (fun w => RelValid_any P (by omega) w)
  rw [hp] at V
  have SV := Lib.hid (fun w => StateValid_any (stX j) (stY j) (stZ j) w)
  rw [st_ok hj] at SV
  have TV := Lib.hid (fun w => StateValid_any (stX k) (stY k) (stZ k) w)
  rw [st_ok hk] at TV
  have SI := Lib.hid (fun w => StateIndex_any (stX j) (stY j) (stZ j) w)
  rw [numX hj] at SI
  have TI := Lib.hid (fun w => StateIndex_any (stX k) (stY k) (stZ k) w)
  rw [numX hk] at TI
  have PA := Lib.hid (fun w => pair_any P hp j k hj hk (j : Int) (k : Int) rfl rfl w)
  generalize ro P.data.toList j k = rb at *
  generalize stX j = x at *
  generalize stY j = y at *
  generalize stZ j = z at *
  generalize stX k = x' at *
  generalize stY k = y' at *
  generalize stZ k = z' at *
  clear hp z1
  have H := ((Sit.refl w).box3 (a := .int .i64 x) (b := .int .i64 y) (c := .int .i64 z) 42).box3 (a := .int .i64 x') (b := .int .i64 y') (c := .int .i64 z') 42
  have hs : (w.alloc (.cells #[.int .i64 x, .int .i64 y, .int .i64 z] 42)).heap.size = w.heap.size + 1 := by simp
  rw [hs] at H
  clear hs
  obtain ⟨d3, d4, d5, d0, d1, d2⟩ := H.c6
  go_enter Tryd.func47, Tryd.ntmps47
  go_wp2_with fail
  have V0 : Hid (∀ w, Calls Tryd.prog 104 #[.string P] w fun e w' => e = .returned (.bool true) ∧ Below w.heap.size w w') := fun w => (V.out w).mono fun _ _ h => ⟨h.1, h.2 ▸ Below.refl _ _⟩
  have PA0 : Hid (∀ w, Calls Tryd.prog 105 #[.string P, .int .i64 (j : Int), .int .i64 (k : Int)] w fun e w' => e = .returned (.bool rb) ∧ Below w.heap.size w w') := fun w => (PA.out w).mono fun _ _ h => ⟨h.1, h.2 ▸ Below.refl _ _⟩
  refine region_class (fun W => Sit w W ((⟨w.heap.size + 1, 0, none⟩, .int .i64 x') :: (⟨w.heap.size + 1, 1, none⟩, .int .i64 y') :: (⟨w.heap.size + 1, 2, none⟩, .int .i64 z') :: (⟨w.heap.size, 0, none⟩, .int .i64 x) :: (⟨w.heap.size, 1, none⟩, .int .i64 y) :: (⟨w.heap.size, 2, none⟩, .int .i64 z) :: [])) (by kernel_rfl) (by kernel_rfl) H.drew ?_
  clear d0 d1 d2 d3 d4 d5
  repeat (first | go_big_quiet_skip | (go_big_quiet_want; first | (apply quiet_value; (· (intro W hW; (obtain ⟨d3, d4, d5, d0, d1, d2⟩ := hW.c6); go_simp; exact rfl)); simp only [Act.put, List.setIfInBounds_toArray, List.set_cons_zero, List.set_cons_succ]; go_big_quiet_on) | (apply quiet_call; (· (intro W hW; go_simp; exact ⟨rfl, rfl⟩)); (· (intro W hW; first | with_reducible exact ((V0.out W)).mono fun _ _ h => ⟨h.1, hW.call h.2⟩ | with_reducible exact ((SV.out W)).mono fun _ _ h => ⟨h.1, hW.call h.2⟩ | with_reducible exact ((TV.out W)).mono fun _ _ h => ⟨h.1, hW.call h.2⟩ | with_reducible exact ((SI.out W)).mono fun _ _ h => ⟨h.1, hW.call h.2⟩ | with_reducible exact ((TI.out W)).mono fun _ _ h => ⟨h.1, hW.call h.2⟩ | with_reducible exact ((PA0.out W)).mono fun _ _ h => ⟨h.1, hW.call h.2⟩)); simp only [Act.put, List.setIfInBounds_toArray, List.set_cons_zero, List.set_cons_succ]; go_big_quiet_on)))
  refine wpQuiet_nil ?_
  intro wq hq
  clear H
  have H := hq
  clear hq
  go_wp2_with fail
  go_ret
  exact ⟨rfl, H.below⟩
theorem eqT {a b : List UInt8} : ((bs a).toList == (bs b).toList) = (a == b) := by
  rw [ByteArray.toList_eq, ByteArray.toList_eq, bs_list, bs_list]
theorem eqTS {a : List UInt8} {P : ByteArray} : ((bs a).toList == P.toList) = (a == P.data.toList) := by
  rw [ByteArray.toList_eq, ByteArray.toList_eq, bs_list]
theorem eqv_no {a : List UInt8} (h : bOk 729 a = false) : eqvT a = false := by unfold eqvT; rw [h]; rfl
set_option maxRecDepth 100000 in
set_option maxHeartbeats 2000000 in
theorem IsEquivalence_any (P : ByteArray) (hP : P.size ≤ 1000000000000) (w : World) : Calls Tryd.prog 48 #[.string P] w fun e w' => (e = .returned (.bool (eqvT P.data.toList)) ∧ Below w.heap.size w w') := by
  have TU := Lib.hid (TurnRel_any P hP w)
  have CL := Lib.hid (fun w => CloseRel_any P hP w)
  cases hp : bOk 729 P.data.toList
  · rw [eqv_no hp]
    rw [turnR_no hp] at TU
    rw [closeR_no hp] at CL
    simp only [optB, Option.isSome_none] at TU CL
    generalize bs [] = E0 at *
    clear hp
    go_enter Tryd.func48, Tryd.ntmps48
    go_wp2_with fail
    refine TU.out.mono ?_
    rintro e w1 ⟨rfl, hb1⟩
    have B1 := Lib.hid hb1
    clear hb1
    go_wp2_with fail
    refine (CL.out _).mono ?_
    rintro e w2 ⟨rfl, hb2⟩
    have B2 := Lib.hid (below_2 B1.out hb2)
    clear hb2
    go_wp2_with fail
    go_ret
    exact ⟨rfl, B2.out⟩
  · rw [turnR_yes hp] at TU
    rw [closeR_yes hp] at CL
    simp only [optB, Option.isSome_some] at TU CL
    have e1 := eqTS (a := trnT P.data.toList) (P := P)
    have e2 := eqTS (a := cloT P.data.toList) (P := P)
    have he : eqvT P.data.toList = ((trnT P.data.toList == P.data.toList) && (cloT P.data.toList == P.data.toList)) := by unfold eqvT; rw [hp, Bool.true_and]
    rw [he]
    clear he hp
    generalize (trnT P.data.toList == P.data.toList) = b1 at *
    generalize (cloT P.data.toList == P.data.toList) = b2 at *
    generalize bs (trnT P.data.toList) = T1 at *
    generalize bs (cloT P.data.toList) = T2 at *
    cases b1 <;> cases b2
    all_goals
      go_enter Tryd.func48, Tryd.ntmps48
      go_wp2_with fail
      refine TU.out.mono ?_
      rintro e w1 ⟨rfl, hb1⟩
      have B1 := Lib.hid hb1
      clear hb1
      go_wp2_with fail
      refine (CL.out _).mono ?_
      rintro e w2 ⟨rfl, hb2⟩
      have B2 := Lib.hid (below_2 B1.out hb2)
      clear hb2
      go_wp2_with fail
      go_ret
      exact ⟨rfl, B2.out⟩
def imgO (R P : ByteArray) : Option (List UInt8) := if bOk 729 R.data.toList && bOk 27 P.data.toList then some (imgT R.data.toList P.data.toList) else none
def shaO (R P : ByteArray) : Option (List UInt8) := if bOk 729 R.data.toList && bOk 27 P.data.toList then some (shaT R.data.toList P.data.toList) else none
theorem imgO_yes {R P : ByteArray} (hr : bOk 729 R.data.toList = true) (hp : bOk 27 P.data.toList = true) : imgO R P = some (imgT R.data.toList P.data.toList) := by unfold imgO; rw [hr, hp]; rfl
theorem imgO_no {R P : ByteArray} (h : (bOk 729 R.data.toList && bOk 27 P.data.toList) = false) : imgO R P = none := by unfold imgO; rw [h]; rfl
theorem shaO_yes {R P : ByteArray} (hr : bOk 729 R.data.toList = true) (hp : bOk 27 P.data.toList = true) : shaO R P = some (shaT R.data.toList P.data.toList) := by unfold shaO; rw [hr, hp]; rfl
theorem shaO_no {R P : ByteArray} (h : (bOk 729 R.data.toList && bOk 27 P.data.toList) = false) : shaO R P = none := by unfold shaO; rw [h]; rfl
/-- the first pair of a relation -/
def fpO (l : List UInt8) : Option Nat := if bOk 729 l then (if fnd l 49 < 0 then none else some (fnd l 49).toNat) else none
theorem fp_no {l : List UInt8} (h : bOk 729 l = false) : fpO l = none := by unfold fpO; rw [h]; rfl
theorem fnd_cntR {l : List UInt8} (h : bOk 729 l = true) : fnd l 49 < 0 ↔ cntR l = 0 := by
  have := fnd_bits (n := 729) (f := bt l)
  rw [bits_of h] at this
  exact this
theorem fp_neg {l : List UInt8} (h : bOk 729 l = true) (h2 : fnd l 49 < 0) : fpO l = none := by unfold fpO; rw [h, if_pos rfl, if_pos h2]
theorem fp_pos {l : List UInt8} (h : bOk 729 l = true) (h2 : ¬ fnd l 49 < 0) : ∃ k : Nat, fnd l 49 = k ∧ fpO l = some k ∧ k < 729 ∧ bt l k = true ∧ ∀ j, j < k → bt l j = false := by
  obtain ⟨k, hk, hkl, h3, h4⟩ := fnd_at (l := l) (c := 49) (by omega)
  have hl := bOk_len h
  refine ⟨k, hk, ?_, by omega, ?_, fun j hj => ?_⟩
  · unfold fpO; rw [h, if_pos rfl, if_neg h2, hk]; rfl
  · unfold bt; rw [List.getD_eq_getElem?_getD, List.getElem?_eq_getElem hkl, Option.getD_some, h3]; rfl
  · have := h4 j hj
    unfold bt
    rw [List.getD_eq_getElem?_getD, List.getElem?_eq_getElem (by omega), Option.getD_some]
    simpa using this
/-- the value of the first pair -/
def fpV (l : List UInt8) : Value := .tuple #[.agg #[.int .i64 (oX ((fpO l).map (· / 27))), .int .i64 (oY ((fpO l).map (· / 27))), .int .i64 (oZ ((fpO l).map (· / 27)))], .agg #[.int .i64 (oX ((fpO l).map (· % 27))), .int .i64 (oY ((fpO l).map (· % 27))), .int .i64 (oZ ((fpO l).map (· % 27)))], .bool (fpO l).isSome]
theorem fpV_none {l : List UInt8} (h : fpO l = none) : fpV l = .tuple #[.agg #[.int .i64 0, .int .i64 0, .int .i64 0], .agg #[.int .i64 0, .int .i64 0, .int .i64 0], .bool false] := by unfold fpV; rw [h]; rfl
theorem fpV_some {l : List UInt8} {k : Nat} (h : fpO l = some k) : fpV l = .tuple #[.agg #[.int .i64 (stX (k / 27)), .int .i64 (stY (k / 27)), .int .i64 (stZ (k / 27))], .agg #[.int .i64 (stX (k % 27)), .int .i64 (stY (k % 27)), .int .i64 (stZ (k % 27))], .bool true] := by unfold fpV; rw [h]; rfl

end Go.Proofs.YtccjmahhebiphaaDoor
