/- Pairs of a relation, the first one; images, shadows, equivalences of the program. -/
import Derived.Test.YthdgheglmkhcbaaRy
import Derived.BigQuiet
namespace Go.Proofs.Ythdgheglmkhcbaa
open Go.RowKit
open Pl

theorem row_text {l : List UInt8} (h : bOk 729 l = true) {i : Nat} (hi : i < 27) : l.drop (27 * i) = bitsN 27 (ro l i) ++ l.drop (27 * i + 27) := by
  have hl := bOk_len h
  have h1 : (l.drop (27 * i)).take 27 = bitsN 27 (ro l i) := by
    apply List.ext_getElem
    · rw [List.length_take, List.length_drop, bits_len]; omega
    · intro k h1 h2
      rw [bits_len] at h2
      rw [List.getElem_take, List.getElem_drop, bits_get (by rw [bits_len]; exact h2), bOk_get h (by omega)]
      rfl
  rw [← h1, ← List.drop_drop, List.take_append_drop]
theorem ext_row {R : ByteArray} (h : bOk 729 R.data.toList = true) {i : Nat} (hi : i < 27) {p n : Nat} (hp : p = 27 * i) (hn : n = 27 * i + 27) : R.extract p n = bs (bitsN 27 (ro R.data.toList i)) := by
  subst hp hn
  exact extract_nd (row_text h hi) (by rw [bits_len])
set_option maxRecDepth 100000 in
set_option maxHeartbeats 8000000 in
theorem HasPair_any (P : ByteArray) (hp : bOk 729 P.data.toList = true) (j k : Nat) (hj : j < 27) (hk : k < 27) (w : World) : Calls Try.prog 21 #[.string P, .agg #[.int .i64 (stX j), .int .i64 (stY j), .int .i64 (stZ j)], .agg #[.int .i64 (stX k), .int .i64 (stY k), .int .i64 (stZ k)]] w fun e w' => (e = .returned (.bool (ro P.data.toList j k)) ∧ Below w.heap.size w w') := by
  have z1 := okR_size hp
  have V := Lib.hid (fun w => RelValid_any P (by omega) w)
  rw [hp] at V
  have SV := Lib.hid (fun w => StateValid_any (stX j) (stY j) (stZ j) w)
  rw [st_ok hj] at SV
  have TV := Lib.hid (fun w => StateValid_any (stX k) (stY k) (stZ k) w)
  rw [st_ok hk] at TV
  have SI := Lib.hid (fun w => StateIndex_any (stX j) (stY j) (stZ j) w)
  rw [numX hj] at SI
  have TI := Lib.hid (fun w => StateIndex_any (stX k) (stY k) (stZ k) w)
  rw [numX hk] at TI
  have PA := Lib.hid (fun w => pair_any P hp j k hj hk (j : Int) (k : Int) rfl rfl w)
  generalize ro P.data.toList j k = rb at *
  generalize stX j = x at *
  generalize stY j = y at *
  generalize stZ j = z at *
  generalize stX k = x' at *
  generalize stY k = y' at *
  generalize stZ k = z' at *
  clear hp z1
  have H := ((Sit.refl w).box3 (a := .int .i64 x) (b := .int .i64 y) (c := .int .i64 z) 32).box3 (a := .int .i64 x') (b := .int .i64 y') (c := .int .i64 z') 32
  have hs : (w.alloc (.cells #[.int .i64 x, .int .i64 y, .int .i64 z] 32)).heap.size = w.heap.size + 1 := by simp
  rw [hs] at H
  clear hs
  obtain ⟨d3, d4, d5, d0, d1, d2⟩ := H.c6
  go_enter Try.func21, Try.ntmps21
  go_wp2_with fail
  have V0 : Hid (∀ w, Calls Try.prog 22 #[.string P] w fun e w' => e = .returned (.bool true) ∧ Below w.heap.size w w') := fun w => (V.out w).mono fun _ _ h => ⟨h.1, h.2 ▸ Below.refl _ _⟩
  have PA0 : Hid (∀ w, Calls Try.prog 83 #[.string P, .int .i64 (j : Int), .int .i64 (k : Int)] w fun e w' => e = .returned (.bool rb) ∧ Below w.heap.size w w') := fun w => (PA.out w).mono fun _ _ h => ⟨h.1, h.2 ▸ Below.refl _ _⟩
  refine region_class (fun W => Sit w W ((⟨w.heap.size + 1, 0, none⟩, .int .i64 x') :: (⟨w.heap.size + 1, 1, none⟩, .int .i64 y') :: (⟨w.heap.size + 1, 2, none⟩, .int .i64 z') :: (⟨w.heap.size, 0, none⟩, .int .i64 x) :: (⟨w.heap.size, 1, none⟩, .int .i64 y) :: (⟨w.heap.size, 2, none⟩, .int .i64 z) :: [])) (by kernel_rfl) (by kernel_rfl) H.drew ?_
  clear d0 d1 d2 d3 d4 d5
  repeat (first | go_big_quiet_skip | (go_big_quiet_want; first | (apply quiet_value; (· (intro W hW; (obtain ⟨d3, d4, d5, d0, d1, d2⟩ := hW.c6); go_simp; exact rfl)); simp only [Act.put, List.setIfInBounds_toArray, List.set_cons_zero, List.set_cons_succ]; go_big_quiet_on) | (apply quiet_call; (· (intro W hW; go_simp; exact ⟨rfl, rfl⟩)); (· (intro W hW; first | with_reducible exact ((V0.out W)).mono fun _ _ h => ⟨h.1, hW.call h.2⟩ | with_reducible exact ((SV.out W)).mono fun _ _ h => ⟨h.1, hW.call h.2⟩ | with_reducible exact ((TV.out W)).mono fun _ _ h => ⟨h.1, hW.call h.2⟩ | with_reducible exact ((SI.out W)).mono fun _ _ h => ⟨h.1, hW.call h.2⟩ | with_reducible exact ((TI.out W)).mono fun _ _ h => ⟨h.1, hW.call h.2⟩ | with_reducible exact ((PA0.out W)).mono fun _ _ h => ⟨h.1, hW.call h.2⟩)); simp only [Act.put, List.setIfInBounds_toArray, List.set_cons_zero, List.set_cons_succ]; go_big_quiet_on)))
  refine wpQuiet_nil ?_
  intro wq hq
  clear H
  have H := hq
  clear hq
  go_wp2_with fail
  go_ret
  exact ⟨rfl, H.below⟩
set_option maxHeartbeats 1000000 in
theorem ppTurn_any (P : ByteArray) (hP : P.size ≤ 1000000000000) (w : World) : Calls Try.prog 37 #[.string P] w fun e w' => (e = .returned (.string (bs (optB (turnR P)))) ∧ Below w.heap.size w w') := by
  have X := Lib.hid (TurnRel_any P hP w)
  go_enter Try.func37, Try.ntmps37
  go_wp2_with fail
  refine X.out.mono ?_
  rintro e w1 ⟨rfl, hb1⟩
  have B1 := Lib.hid hb1
  clear hb1 X
  go_wp2_with fail
  go_ret
  exact ⟨rfl, B1.out⟩
set_option maxHeartbeats 1000000 in
theorem ppThen_any (P Q : ByteArray) (hP : P.size ≤ 1000000000000) (hQ : Q.size ≤ 1000000000000) (w : World) : Calls Try.prog 48 #[.string P, .string Q] w fun e w' => (e = .returned (.string (bs (optB (thenR P Q)))) ∧ Below w.heap.size w w') := by
  have X := Lib.hid (ComposeRel_any P Q hP hQ w)
  go_enter Try.func48, Try.ntmps48
  go_wp2_with fail
  refine X.out.mono ?_
  rintro e w1 ⟨rfl, hb1⟩
  have B1 := Lib.hid hb1
  clear hb1 X
  go_wp2_with fail
  go_ret
  exact ⟨rfl, B1.out⟩
set_option maxHeartbeats 1000000 in
theorem ppRel_any (P : ByteArray) (hP : P.size ≤ 1000000000000) (w : World) : Calls Try.prog 47 #[.string P] w fun e w' => (e = .returned (.string (bs (optB ((whole true 1 200 P.data.toList).map relOf)))) ∧ Below w.heap.size w w') := by
  have X := Lib.hid (RelOf_any P hP w)
  go_enter Try.func47, Try.ntmps47
  go_wp2_with fail
  refine X.out.mono ?_
  rintro e w1 ⟨rfl, hb1⟩
  have B1 := Lib.hid hb1
  clear hb1 X
  go_wp2_with fail
  go_ret
  exact ⟨rfl, B1.out⟩
theorem eqT {a b : List UInt8} : ((bs a).toList == (bs b).toList) = (a == b) := by
  rw [ByteArray.toList_eq, ByteArray.toList_eq, bs_list, bs_list]
theorem eqTS {a : List UInt8} {P : ByteArray} : ((bs a).toList == P.toList) = (a == P.data.toList) := by
  rw [ByteArray.toList_eq, ByteArray.toList_eq, bs_list]
theorem eqv_no {a : List UInt8} (h : bOk 729 a = false) : eqvT a = false := by unfold eqvT; rw [h]; rfl
set_option maxRecDepth 100000 in
set_option maxHeartbeats 2000000 in
theorem IsEquivalence_any (P : ByteArray) (hP : P.size ≤ 1000000000000) (w : World) : Calls Try.prog 53 #[.string P] w fun e w' => (e = .returned (.bool (eqvT P.data.toList)) ∧ Below w.heap.size w w') := by
  have TU := Lib.hid (TurnRel_any P hP w)
  have CL := Lib.hid (fun w => CloseRel_any P hP w)
  cases hp : bOk 729 P.data.toList
  · rw [eqv_no hp]
    rw [turnR_no hp] at TU
    rw [closeR_no hp] at CL
    simp only [optB, Option.isSome_none] at TU CL
    generalize bs [] = E0 at *
    clear hp
    go_enter Try.func53, Try.ntmps53
    go_wp2_with fail
    refine TU.out.mono ?_
    rintro e w1 ⟨rfl, hb1⟩
    have B1 := Lib.hid hb1
    clear hb1
    go_wp2_with fail
    refine (CL.out _).mono ?_
    rintro e w2 ⟨rfl, hb2⟩
    have B2 := Lib.hid (below_2 B1.out hb2)
    clear hb2
    go_wp2_with fail
    go_ret
    exact ⟨rfl, B2.out⟩
  · rw [turnR_yes hp] at TU
    rw [closeR_yes hp] at CL
    simp only [optB, Option.isSome_some] at TU CL
    have e1 := eqTS (a := trnT P.data.toList) (P := P)
    have e2 := eqTS (a := cloT P.data.toList) (P := P)
    have he : eqvT P.data.toList = ((trnT P.data.toList == P.data.toList) && (cloT P.data.toList == P.data.toList)) := by unfold eqvT; rw [hp, Bool.true_and]
    rw [he]
    clear he hp
    generalize (trnT P.data.toList == P.data.toList) = b1 at *
    generalize (cloT P.data.toList == P.data.toList) = b2 at *
    generalize bs (trnT P.data.toList) = T1 at *
    generalize bs (cloT P.data.toList) = T2 at *
    cases b1 <;> cases b2
    all_goals
      go_enter Try.func53, Try.ntmps53
      go_wp2_with fail
      refine TU.out.mono ?_
      rintro e w1 ⟨rfl, hb1⟩
      have B1 := Lib.hid hb1
      clear hb1
      go_wp2_with fail
      refine (CL.out _).mono ?_
      rintro e w2 ⟨rfl, hb2⟩
      have B2 := Lib.hid (below_2 B1.out hb2)
      clear hb2
      go_wp2_with fail
      go_ret
      exact ⟨rfl, B2.out⟩
def imgO (R P : ByteArray) : Option (List UInt8) := if bOk 729 R.data.toList && bOk 27 P.data.toList then some (imgT R.data.toList P.data.toList) else none
def shaO (R P : ByteArray) : Option (List UInt8) := if bOk 729 R.data.toList && bOk 27 P.data.toList then some (shaT R.data.toList P.data.toList) else none
theorem imgO_yes {R P : ByteArray} (hr : bOk 729 R.data.toList = true) (hp : bOk 27 P.data.toList = true) : imgO R P = some (imgT R.data.toList P.data.toList) := by unfold imgO; rw [hr, hp]; rfl
theorem imgO_no {R P : ByteArray} (h : (bOk 729 R.data.toList && bOk 27 P.data.toList) = false) : imgO R P = none := by unfold imgO; rw [h]; rfl
theorem shaO_yes {R P : ByteArray} (hr : bOk 729 R.data.toList = true) (hp : bOk 27 P.data.toList = true) : shaO R P = some (shaT R.data.toList P.data.toList) := by unfold shaO; rw [hr, hp]; rfl
theorem shaO_no {R P : ByteArray} (h : (bOk 729 R.data.toList && bOk 27 P.data.toList) = false) : shaO R P = none := by unfold shaO; rw [h]; rfl
theorem win_row {R P : ByteArray} {i : Nat} : win (bs (bitsN 27 (ro R.data.toList i))).data.toList P.data.toList = (List.range 27).all (fun j => !ro R.data.toList i j || bt P.data.toList j) := by
  rw [bs_list]
  unfold win
  apply bool_ext
  rw [List.all_eq_true, List.all_eq_true]
  constructor
  · intro h j hj
    have := h j hj
    rwa [bt_bits (by simpa using hj)] at this
  · intro h j hj
    rw [bt_bits (by simpa using hj)]
    exact h j hj
set_option maxRecDepth 100000 in
set_option maxHeartbeats 4000000 in
theorem shadow1_any (R P : ByteArray) (hr : bOk 729 R.data.toList = true) (hp : bOk 27 P.data.toList = true) (i : Nat) (hi : i < 27) (c d : Nat) (W : World) (h1 : W.cell? ⟨c, 0, none⟩ = some (.string R)) (h2 : W.cell? ⟨d, 0, none⟩ = some (.string P)) :
    Calls Try.prog 121 #[.int .i64 (i : Int), .pointer (some ⟨c, 0, none⟩), .pointer (some ⟨d, 0, none⟩)] W fun e W' => e = .returned (.bool ((List.range 27).all (fun j => !ro R.data.toList i j || bt P.data.toList j))) ∧ Below W.heap.size W W' := by
  have WI := Lib.hid (fun w => bitsWithin_any (bs (bitsN 27 (ro R.data.toList i))) P (bits_ok _ _) hp w)
  rw [win_row] at WI
  have hz := okR_size hr
  obtain ⟨n, hn⟩ : ∃ n, n = 27 * i := ⟨_, rfl⟩
  obtain ⟨m, hm⟩ : ∃ m, m = 27 * i + 27 := ⟨_, rfl⟩
  have hex := ext_row hr hi hn hm
  have e1 : 27 * (i : Int) = (n : Int) := by omega
  have e2 : 27 * ((i : Int) + 1) = (m : Int) := by omega
  have g1 : n ≤ m := by omega
  have g2 : m ≤ R.size := by omega
  have g3 : IntKind.i64.wrap (27 * (i : Int)) = (n : Int) := by rw [e1]; exact IntWalk.i64_in _ (by omega)
  have g4 : IntKind.i64.wrap ((i : Int) + 1) = (i : Int) + 1 := IntWalk.i64_in _ (by omega)
  have g5 : IntKind.i64.wrap (27 * ((i : Int) + 1)) = (m : Int) := by rw [e2]; exact IntWalk.i64_in _ (by omega)
  generalize bs (bitsN 27 (ro R.data.toList i)) = X at *
  generalize (List.range 27).all (fun j => !ro R.data.toList i j || bt P.data.toList j) = rb at *
  clear hr hp hn hm hz
  go_enter Try.func121, Try.ntmps121
  go_wp2_with fail
  go_quiet ((go_at_call 97; exact quiet_off (WI.out _)))
  go_wp2_with fail
  go_ret
  exact ⟨rfl, below_drewN _ _ _⟩
set_option maxRecDepth 100000 in
set_option maxHeartbeats 4000000 in
theorem ImageOf_any (R P : ByteArray) (hR : R.size ≤ 1000000000000) (hP : P.size ≤ 1000000000000) (w : World) : Calls Try.prog 56 #[.string R, .string P] w fun e w' => (e = .returned (.tuple #[.string (bs (optB (imgO R P))), .bool (imgO R P).isSome]) ∧ Below w.heap.size w w') := by
  have V := Lib.hid (fun w => RelValid_any R hR w)
  have U := Lib.hid (fun w => PredValid_any P hP w)
  have B2 := Lib.hid ((below_n w (.cells #[.string R] 9)).alloc (by simp) (.cells #[.string P] 9))
  have k1 : Blk ((w.alloc (.cells #[.string R] 9)).alloc (.cells #[.string P] 9)) w.heap.size 9 #[.string R] := (Blk.new w _ _).alloc _
  have k2 : Blk ((w.alloc (.cells #[.string R] 9)).alloc (.cells #[.string P] 9)) (w.heap.size + 1) 9 #[.string P] := by
    have := Blk.new (w.alloc (.cells #[.string R] 9)) 9 #[.string P]
    simp at this
    exact this
  cases hr : bOk 729 R.data.toList
  · rw [imgO_no (by rw [hr]; rfl)]
    rw [hr] at V
    simp only [optB, Option.isSome_none]
    clear k1 k2
    go_enter Try.func56, Try.ntmps56
    go_wp2_with fail
    refine (V.out _).mono ?_
    rintro e w' ⟨rfl, rfl⟩
    go_wp2_with fail
    go_ret2
    exact ⟨(by first | trivial | rfl), B2.out⟩
  · cases hp : bOk 27 P.data.toList
    · rw [imgO_no (by rw [hr, hp]; rfl)]
      rw [hr] at V
      rw [hp] at U
      simp only [optB, Option.isSome_none]
      clear k1
      go_enter Try.func56, Try.ntmps56
      go_wp2_with fail
      refine (V.out _).mono ?_
      rintro e w' ⟨rfl, rfl⟩
      go_wp2_with fail
      refine (U.out _).mono ?_
      rintro e w' ⟨rfl, rfl⟩
      go_wp2_with fail
      go_ret2
      exact ⟨(by first | trivial | rfl), B2.out⟩
    · rw [imgO_yes hr hp]
      rw [hr] at V
      rw [hp] at U
      simp only [optB, Option.isSome_some]
      have ST := Lib.hid (set_any 115 (enterF Try.func115 (by kernel_rfl) rfl) #[.pointer (some ⟨w.heap.size + 1, 0, none⟩), .pointer (some ⟨w.heap.size, 0, none⟩)] (fun i => (List.range 27).any (fun u => bt P.data.toList u && ro R.data.toList u i)) ((w.alloc (.cells #[.string R] 9)).alloc (.cells #[.string P] 9))
        (fun i hi W hW => image1_any R P hr hp i hi (w.heap.size + 1) (w.heap.size) W ((hW.cell (p := ⟨w.heap.size + 1, 0, none⟩) k2.lt).trans (k2.cell 0)) ((hW.cell (p := ⟨w.heap.size, 0, none⟩) k1.lt).trans (k1.cell 0))))
      have hmf : ∀ (f : Fn) (first cap : Array Value) (w : World), (Instr.makeFunc f first cap).run Try.prog w = .ok (.func f first cap) w := fun _ _ _ _ => rfl
      have he : bitsN 27 (fun i => (List.range 27).any (fun u => bt P.data.toList u && ro R.data.toList u i)) = imgT R.data.toList P.data.toList := rfl
      rw [he] at ST
      obtain ⟨RO, hRO⟩ : ∃ r, imgT R.data.toList P.data.toList = r := ⟨_, rfl⟩
      rw [hRO] at ST ⊢
      clear k1 k2 hp hr he hRO
      go_enter Try.func56, Try.ntmps56
      go_wp2_with fail
      refine (V.out _).mono ?_
      rintro e w' ⟨rfl, rfl⟩
      go_wp2_with fail
      refine (U.out _).mono ?_
      rintro e w' ⟨rfl, rfl⟩
      go_wp2_with fail
      refine ST.out.mono ?_
      rintro e w3 ⟨rfl, hb3⟩
      have B3 := Lib.hid (below_2 B2.out hb3)
      clear hb3
      go_wp2_with fail
      go_ret2
      exact ⟨(by first | trivial | rfl), B3.out⟩
set_option maxRecDepth 100000 in
set_option maxHeartbeats 4000000 in
theorem ShadowOf_any (R P : ByteArray) (hR : R.size ≤ 1000000000000) (hP : P.size ≤ 1000000000000) (w : World) : Calls Try.prog 58 #[.string R, .string P] w fun e w' => (e = .returned (.tuple #[.string (bs (optB (shaO R P))), .bool (shaO R P).isSome]) ∧ Below w.heap.size w w') := by
  have V := Lib.hid (fun w => RelValid_any R hR w)
  have U := Lib.hid (fun w => PredValid_any P hP w)
  have B2 := Lib.hid ((below_n w (.cells #[.string R] 9)).alloc (by simp) (.cells #[.string P] 9))
  have k1 : Blk ((w.alloc (.cells #[.string R] 9)).alloc (.cells #[.string P] 9)) w.heap.size 9 #[.string R] := (Blk.new w _ _).alloc _
  have k2 : Blk ((w.alloc (.cells #[.string R] 9)).alloc (.cells #[.string P] 9)) (w.heap.size + 1) 9 #[.string P] := by
    have := Blk.new (w.alloc (.cells #[.string R] 9)) 9 #[.string P]
    simp at this
    exact this
  cases hr : bOk 729 R.data.toList
  · rw [shaO_no (by rw [hr]; rfl)]
    rw [hr] at V
    simp only [optB, Option.isSome_none]
    clear k1 k2
    go_enter Try.func58, Try.ntmps58
    go_wp2_with fail
    refine (V.out _).mono ?_
    rintro e w' ⟨rfl, rfl⟩
    go_wp2_with fail
    go_ret2
    exact ⟨(by first | trivial | rfl), B2.out⟩
  · cases hp : bOk 27 P.data.toList
    · rw [shaO_no (by rw [hr, hp]; rfl)]
      rw [hr] at V
      rw [hp] at U
      simp only [optB, Option.isSome_none]
      clear k1
      go_enter Try.func58, Try.ntmps58
      go_wp2_with fail
      refine (V.out _).mono ?_
      rintro e w' ⟨rfl, rfl⟩
      go_wp2_with fail
      refine (U.out _).mono ?_
      rintro e w' ⟨rfl, rfl⟩
      go_wp2_with fail
      go_ret2
      exact ⟨(by first | trivial | rfl), B2.out⟩
    · rw [shaO_yes hr hp]
      rw [hr] at V
      rw [hp] at U
      simp only [optB, Option.isSome_some]
      have ST := Lib.hid (set_any 121 (enterF Try.func121 (by kernel_rfl) rfl) #[.pointer (some ⟨w.heap.size, 0, none⟩), .pointer (some ⟨w.heap.size + 1, 0, none⟩)] (fun i => (List.range 27).all (fun j => !ro R.data.toList i j || bt P.data.toList j)) ((w.alloc (.cells #[.string R] 9)).alloc (.cells #[.string P] 9))
        (fun i hi W hW => shadow1_any R P hr hp i hi (w.heap.size) (w.heap.size + 1) W ((hW.cell (p := ⟨w.heap.size, 0, none⟩) k1.lt).trans (k1.cell 0)) ((hW.cell (p := ⟨w.heap.size + 1, 0, none⟩) k2.lt).trans (k2.cell 0))))
      have hmf : ∀ (f : Fn) (first cap : Array Value) (w : World), (Instr.makeFunc f first cap).run Try.prog w = .ok (.func f first cap) w := fun _ _ _ _ => rfl
      have he : bitsN 27 (fun i => (List.range 27).all (fun j => !ro R.data.toList i j || bt P.data.toList j)) = shaT R.data.toList P.data.toList := rfl
      rw [he] at ST
      obtain ⟨RO, hRO⟩ : ∃ r, shaT R.data.toList P.data.toList = r := ⟨_, rfl⟩
      rw [hRO] at ST ⊢
      clear k1 k2 hp hr he hRO
      go_enter Try.func58, Try.ntmps58
      go_wp2_with fail
      refine (V.out _).mono ?_
      rintro e w' ⟨rfl, rfl⟩
      go_wp2_with fail
      refine (U.out _).mono ?_
      rintro e w' ⟨rfl, rfl⟩
      go_wp2_with fail
      refine ST.out.mono ?_
      rintro e w3 ⟨rfl, hb3⟩
      have B3 := Lib.hid (below_2 B2.out hb3)
      clear hb3
      go_wp2_with fail
      go_ret2
      exact ⟨(by first | trivial | rfl), B3.out⟩
/-- the first pair of a relation -/
def fpO (l : List UInt8) : Option Nat := if bOk 729 l then (if fnd l 49 < 0 then none else some (fnd l 49).toNat) else none
theorem fp_no {l : List UInt8} (h : bOk 729 l = false) : fpO l = none := by unfold fpO; rw [h]; rfl
theorem fnd_cntR {l : List UInt8} (h : bOk 729 l = true) : fnd l 49 < 0 ↔ cntR l = 0 := by
  have := fnd_bits (n := 729) (f := bt l)
  rw [bits_of h] at this
  exact this
theorem fp_neg {l : List UInt8} (h : bOk 729 l = true) (h2 : fnd l 49 < 0) : fpO l = none := by unfold fpO; rw [h, if_pos rfl, if_pos h2]
theorem fp_pos {l : List UInt8} (h : bOk 729 l = true) (h2 : ¬ fnd l 49 < 0) : ∃ k : Nat, fnd l 49 = k ∧ fpO l = some k ∧ k < 729 ∧ bt l k = true ∧ ∀ j, j < k → bt l j = false := by
  obtain ⟨k, hk, hkl, h3, h4⟩ := fnd_at (l := l) (c := 49) (by omega)
  have hl := bOk_len h
  refine ⟨k, hk, ?_, by omega, ?_, fun j hj => ?_⟩
  · unfold fpO; rw [h, if_pos rfl, if_neg h2, hk]; rfl
  · unfold bt; rw [List.getD_eq_getElem?_getD, List.getElem?_eq_getElem hkl, Option.getD_some, h3]; rfl
  · have := h4 j hj
    unfold bt
    rw [List.getD_eq_getElem?_getD, List.getElem?_eq_getElem (by omega), Option.getD_some]
    simpa using this
/-- the value of the first pair -/
def fpV (l : List UInt8) : Value := .tuple #[.agg #[.int .i64 (oX ((fpO l).map (· / 27))), .int .i64 (oY ((fpO l).map (· / 27))), .int .i64 (oZ ((fpO l).map (· / 27)))], .agg #[.int .i64 (oX ((fpO l).map (· % 27))), .int .i64 (oY ((fpO l).map (· % 27))), .int .i64 (oZ ((fpO l).map (· % 27)))], .bool (fpO l).isSome]
theorem fpV_none {l : List UInt8} (h : fpO l = none) : fpV l = .tuple #[.agg #[.int .i64 0, .int .i64 0, .int .i64 0], .agg #[.int .i64 0, .int .i64 0, .int .i64 0], .bool false] := by unfold fpV; rw [h]; rfl
theorem fpV_some {l : List UInt8} {k : Nat} (h : fpO l = some k) : fpV l = .tuple #[.agg #[.int .i64 (stX (k / 27)), .int .i64 (stY (k / 27)), .int .i64 (stZ (k / 27))], .agg #[.int .i64 (stX (k % 27)), .int .i64 (stY (k % 27)), .int .i64 (stZ (k % 27))], .bool true] := by unfold fpV; rw [h]; rfl
set_option maxRecDepth 100000 in
set_option maxHeartbeats 8000000 in
theorem FirstPair_any (P : ByteArray) (hP : P.size ≤ 1000) (w : World) : Calls Try.prog 31 #[.string P] w fun e w' => (e = .returned (fpV P.data.toList) ∧ Below w.heap.size w w') := by
  have ka : Blk ((w.alloc (.cells #[.int .i64 0, .int .i64 0, .int .i64 0] 32)).alloc (.cells #[.int .i64 0, .int .i64 0, .int .i64 0] 32)) w.heap.size 32 #[.int .i64 0, .int .i64 0, .int .i64 0] := (Blk.new w _ _).alloc _
  have kb : Blk ((w.alloc (.cells #[.int .i64 0, .int .i64 0, .int .i64 0] 32)).alloc (.cells #[.int .i64 0, .int .i64 0, .int .i64 0] 32)) (w.heap.size + 1) 32 #[.int .i64 0, .int .i64 0, .int .i64 0] := by
    have := Blk.new (w.alloc (.cells #[.int .i64 0, .int .i64 0, .int .i64 0] 32)) 32 #[.int .i64 0, .int .i64 0, .int .i64 0]
    simp at this
    exact this
  have KA := Lib.hid ka
  have KB := Lib.hid kb
  have a0 := ka.cell 0
  have a1 := ka.cell 1
  have a2 := ka.cell 2
  have b0 := kb.cell 0
  have b1 := kb.cell 1
  have b2 := kb.cell 2
  have f0 := ka.frozen 0
  have f1 := ka.frozen 1
  have f2 := ka.frozen 2
  have g0 := kb.frozen 0
  have g1 := kb.frozen 1
  have g2 := kb.frozen 2
  simp at a0 a1 a2 b0 b1 b2
  have V := Lib.hid (fun w => RelValid_any P (by omega) w)
  have hal := Lib.hid ((below_n w (.cells #[.int .i64 0, .int .i64 0, .int .i64 0] 32)).alloc (by simp) (.cells #[.int .i64 0, .int .i64 0, .int .i64 0] 32))
  clear ka kb
  have IX := Lib.hid (fun w => indexByte_49 P w)
  cases hp : bOk 729 P.data.toList
  · rw [fpV_none (fp_no hp)]
    rw [hp] at V
    clear hp
    generalize fnd P.data.toList 49 = n at *
    go_enter Try.func31, Try.ntmps31
    go_wp2_with fail
    refine (IX.out _).mono ?_
    rintro e w' ⟨rfl, rfl⟩
    go_wp2_with fail
    refine (V.out _).mono ?_
    rintro e w' ⟨rfl, rfl⟩
    go_wp2_with fail
    exact bodyPost_ret (v := .tuple #[.agg #[.int .i64 0, .int .i64 0, .int .i64 0], .agg #[.int .i64 0, .int .i64 0, .int .i64 0], .bool false]) (by simp [results, Try.results31, go_sem]) rfl ⟨rfl, hal.out⟩
  · rw [hp] at V
    by_cases hn : fnd P.data.toList 49 < 0
    · rw [fpV_none (fp_neg hp hn)]
      generalize fnd P.data.toList 49 = n at *
      clear hp
      go_enter Try.func31, Try.ntmps31
      go_wp2_with fail
      refine (IX.out _).mono ?_
      rintro e w' ⟨rfl, rfl⟩
      go_wp2_with fail
      refine (V.out _).mono ?_
      rintro e w' ⟨rfl, rfl⟩
      go_wp2_with fail
      exact bodyPost_ret (v := .tuple #[.agg #[.int .i64 0, .int .i64 0, .int .i64 0], .agg #[.int .i64 0, .int .i64 0, .int .i64 0], .bool false]) (by simp [results, Try.results31, go_sem]) rfl ⟨rfl, hal.out⟩
    · obtain ⟨k, hk, ho, h27, _, _⟩ := fp_pos hp hn
      rw [hk] at IX
      rw [fpV_some ho]
      have A1 : Hid (∀ w, Calls Try.prog 77 #[.int .i64 ((k : Int) / 27)] w fun e w' => (e = .returned (.agg #[.int .i64 (stX (k / 27)), .int .i64 (stY (k / 27)), .int .i64 (stZ (k / 27))]) ∧ Below w.heap.size w w')) := fun w => stateAt_any (k / 27) (by omega) w
      have A2 : Hid (∀ w, Calls Try.prog 77 #[.int .i64 ((k : Int) % 27)] w fun e w' => (e = .returned (.agg #[.int .i64 (stX (k % 27)), .int .i64 (stY (k % 27)), .int .i64 (stZ (k % 27))]) ∧ Below w.heap.size w w')) := fun w => stateAt_any (k % 27) (by omega) w
      clear ho hp hn hk
      generalize stX (k / 27) = x at *
      generalize stY (k / 27) = y at *
      generalize stZ (k / 27) = z at *
      generalize stX (k % 27) = x' at *
      generalize stY (k % 27) = y' at *
      generalize stZ (k % 27) = z' at *
      go_enter Try.func31, Try.ntmps31
      go_wp2_with fail
      refine (IX.out _).mono ?_
      rintro e w' ⟨rfl, rfl⟩
      go_wp2_with fail
      refine (V.out _).mono ?_
      rintro e w' ⟨rfl, rfl⟩
      go_wp2_with fail
      refine (A1.out _).mono ?_
      rintro e w1 ⟨rfl, hb1⟩
      have KA1 := Lib.hid (KA.out.below hb1 (by simp; omega))
      have KB1 := Lib.hid (KB.out.below hb1 (by simp))
      have B1 := Lib.hid (below_2 hal.out hb1)
      clear hb1 a0 a1 a2 b0 b1 b2 f0 f1 f2 g0 g1 g2 KA KB
      go_wp2_with fail
      refine (A2.out _).mono ?_
      rintro e w2 ⟨rfl, hb2⟩
      have k1 := KA1.out.below hb2 KA1.out.lt
      have k2 := KB1.out.below hb2 KB1.out.lt
      have B2 := Lib.hid (below_2 B1.out hb2)
      have c0 := k1.cell 0
      have c1 := k1.cell 1
      have c2 := k1.cell 2
      have d0 := k2.cell 0
      have d1 := k2.cell 1
      have d2 := k2.cell 2
      have f0 := k1.frozen 0
      have f1 := k1.frozen 1
      have f2 := k1.frozen 2
      have g0 := k2.frozen 0
      have g1 := k2.frozen 1
      have g2 := k2.frozen 2
      simp at c0 c1 c2 d0 d1 d2
      have L1 := Lib.hid k1
      have L2 := Lib.hid k2
      clear hb2 k1 k2 KA1 KB1 B1
      go_wp2_with fail
      obtain ⟨w4, hw4, k4, hb4⟩ := put3r L1.out (.int .i64 x) (.int .i64 y) (.int .i64 z)
      rw [hw4]
      have l2 : Blk w4 (w.heap.size + 1) 32 #[.int .i64 0, .int .i64 0, .int .i64 0] := by
        rw [← hw4]
        exact L2.out.far3 (by omega) _ _ _
      obtain ⟨w5, hw5, k5, hb5⟩ := put3r l2 (.int .i64 x') (.int .i64 y') (.int .i64 z')
      rw [hw5]
      have l4 : Blk w5 w.heap.size 32 #[.int .i64 x, .int .i64 y, .int .i64 z] := by
        rw [← hw5]
        exact k4.far3 (by omega) _ _ _
      have m0 := l4.cell 0
      have m1 := l4.cell 1
      have m2 := l4.cell 2
      have n0 := k5.cell 0
      have n1 := k5.cell 1
      have n2 := k5.cell 2
      simp at m0 m1 m2 n0 n1 n2
      have hb6 : Below w.heap.size w4 w5 := by
        rw [← hw5]
        exact (((Below.refl _ _).setCell (p := ⟨w.heap.size + 1, 0, none⟩) (Nat.le_succ _) _).setCell (p := ⟨w.heap.size + 1, 1, none⟩) (Nat.le_succ _) _).setCell (p := ⟨w.heap.size + 1, 2, none⟩) (Nat.le_succ _) _
      exact bodyPost_ret (v := .tuple #[.agg #[.int .i64 x, .int .i64 y, .int .i64 z], .agg #[.int .i64 x', .int .i64 y', .int .i64 z'], .bool true]) (by simp [results, Try.results31, go_sem, m0, m1, m2, n0, n1, n2]) rfl
        ⟨rfl, (B2.out.trans hb4).trans hb6⟩
set_option maxRecDepth 100000 in
set_option maxHeartbeats 8000000 in
theorem FirstPairS_any (P : ByteArray) (hP : P.size ≤ 1000) (w : World) : Calls Try.prog 32 #[.string P] w fun e w' => (e = .returned (fpV P.data.toList) ∧ Below w.heap.size w w') := by
  have ka : Blk ((w.alloc (.cells #[.int .i64 0, .int .i64 0, .int .i64 0] 32)).alloc (.cells #[.int .i64 0, .int .i64 0, .int .i64 0] 32)) w.heap.size 32 #[.int .i64 0, .int .i64 0, .int .i64 0] := (Blk.new w _ _).alloc _
  have kb : Blk ((w.alloc (.cells #[.int .i64 0, .int .i64 0, .int .i64 0] 32)).alloc (.cells #[.int .i64 0, .int .i64 0, .int .i64 0] 32)) (w.heap.size + 1) 32 #[.int .i64 0, .int .i64 0, .int .i64 0] := by
    have := Blk.new (w.alloc (.cells #[.int .i64 0, .int .i64 0, .int .i64 0] 32)) 32 #[.int .i64 0, .int .i64 0, .int .i64 0]
    simp at this
    exact this
  have KA := Lib.hid ka
  have KB := Lib.hid kb
  have a0 := ka.cell 0
  have a1 := ka.cell 1
  have a2 := ka.cell 2
  have b0 := kb.cell 0
  have b1 := kb.cell 1
  have b2 := kb.cell 2
  have f0 := ka.frozen 0
  have f1 := ka.frozen 1
  have f2 := ka.frozen 2
  have g0 := kb.frozen 0
  have g1 := kb.frozen 1
  have g2 := kb.frozen 2
  simp at a0 a1 a2 b0 b1 b2
  have V := Lib.hid (fun w => RelValidS_any P (by omega) w)
  have hal := Lib.hid ((below_n w (.cells #[.int .i64 0, .int .i64 0, .int .i64 0] 32)).alloc (by simp) (.cells #[.int .i64 0, .int .i64 0, .int .i64 0] 32))
  clear ka kb
  cases hp : bOk 729 P.data.toList
  · rw [fpV_none (fp_no hp)]
    rw [hp] at V
    clear hp
    go_enter Try.func32, Try.ntmps32
    go_wp2_with fail
    refine (V.out _).mono ?_
    rintro e w' ⟨rfl, rfl⟩
    go_wp2_with fail
    exact bodyPost_ret (v := .tuple #[.agg #[.int .i64 0, .int .i64 0, .int .i64 0], .agg #[.int .i64 0, .int .i64 0, .int .i64 0], .bool false]) (by simp [results, Try.results32, go_sem]) rfl ⟨rfl, hal.out⟩
  · rw [hp] at V
    have CT := Lib.hid (fun w => l2CountR_any P hp w)
    by_cases hn : fnd P.data.toList 49 < 0
    · rw [fpV_none (fp_neg hp hn)]
      rw [(fnd_cntR hp).1 hn] at CT
      simp only [Int.cast_ofNat_Int] at CT
      clear hp hn
      go_enter Try.func32, Try.ntmps32
      go_wp2_with fail
      refine (V.out _).mono ?_
      rintro e w' ⟨rfl, rfl⟩
      go_wp2_with fail
      refine (CT.out _).mono ?_
      rintro e w' ⟨rfl, rfl⟩
      go_wp2_with fail
      exact bodyPost_ret (v := .tuple #[.agg #[.int .i64 0, .int .i64 0, .int .i64 0], .agg #[.int .i64 0, .int .i64 0, .int .i64 0], .bool false]) (by simp [results, Try.results32, go_sem]) rfl ⟨rfl, hal.out⟩
    · obtain ⟨k, hk, ho, h27, _, _⟩ := fp_pos hp hn
      have hc : ((cntR P.data.toList : Int) == 0) = false := by
        have : cntR P.data.toList ≠ 0 := fun e => hn ((fnd_cntR hp).2 e)
        simp; omega
      generalize cntR P.data.toList = m at *
      have IX := Lib.hid (fun w => find_any P 49 (by omega) w)
      simp only [UInt8.reduceToNat, Int.cast_ofNat_Int] at IX
      rw [hk] at IX
      rw [fpV_some ho]
      have A1 : Hid (∀ w, Calls Try.prog 95 #[.int .i64 ((k : Int) / 27)] w fun e w' => (e = .returned (.agg #[.int .i64 (stX (k / 27)), .int .i64 (stY (k / 27)), .int .i64 (stZ (k / 27))]) ∧ Below w.heap.size w w')) := fun w => l2At_any (k / 27) (by omega) w
      have A2 : Hid (∀ w, Calls Try.prog 95 #[.int .i64 ((k : Int) % 27)] w fun e w' => (e = .returned (.agg #[.int .i64 (stX (k % 27)), .int .i64 (stY (k % 27)), .int .i64 (stZ (k % 27))]) ∧ Below w.heap.size w w')) := fun w => l2At_any (k % 27) (by omega) w
      clear ho hp hn hk
      generalize stX (k / 27) = x at *
      generalize stY (k / 27) = y at *
      generalize stZ (k / 27) = z at *
      generalize stX (k % 27) = x' at *
      generalize stY (k % 27) = y' at *
      generalize stZ (k % 27) = z' at *
      go_enter Try.func32, Try.ntmps32
      go_wp2_with fail
      refine (V.out _).mono ?_
      rintro e w' ⟨rfl, rfl⟩
      go_wp2_with fail
      refine (CT.out _).mono ?_
      rintro e w' ⟨rfl, rfl⟩
      go_wp2_with fail
      refine (IX.out _).mono ?_
      rintro e w' ⟨rfl, rfl⟩
      go_wp2_with fail
      refine (A1.out _).mono ?_
      rintro e w1 ⟨rfl, hb1⟩
      have KA1 := Lib.hid (KA.out.below hb1 (by simp; omega))
      have KB1 := Lib.hid (KB.out.below hb1 (by simp))
      have B1 := Lib.hid (below_2 hal.out hb1)
      clear hb1 a0 a1 a2 b0 b1 b2 f0 f1 f2 g0 g1 g2 KA KB
      go_wp2_with fail
      refine (A2.out _).mono ?_
      rintro e w2 ⟨rfl, hb2⟩
      have k1 := KA1.out.below hb2 KA1.out.lt
      have k2 := KB1.out.below hb2 KB1.out.lt
      have B2 := Lib.hid (below_2 B1.out hb2)
      have c0 := k1.cell 0
      have c1 := k1.cell 1
      have c2 := k1.cell 2
      have d0 := k2.cell 0
      have d1 := k2.cell 1
      have d2 := k2.cell 2
      have f0 := k1.frozen 0
      have f1 := k1.frozen 1
      have f2 := k1.frozen 2
      have g0 := k2.frozen 0
      have g1 := k2.frozen 1
      have g2 := k2.frozen 2
      simp at c0 c1 c2 d0 d1 d2
      have L1 := Lib.hid k1
      have L2 := Lib.hid k2
      clear hb2 k1 k2 KA1 KB1 B1
      go_wp2_with fail
      obtain ⟨w4, hw4, k4, hb4⟩ := put3r L1.out (.int .i64 x) (.int .i64 y) (.int .i64 z)
      rw [hw4]
      have l2 : Blk w4 (w.heap.size + 1) 32 #[.int .i64 0, .int .i64 0, .int .i64 0] := by
        rw [← hw4]
        exact L2.out.far3 (by omega) _ _ _
      obtain ⟨w5, hw5, k5, hb5⟩ := put3r l2 (.int .i64 x') (.int .i64 y') (.int .i64 z')
      rw [hw5]
      have l4 : Blk w5 w.heap.size 32 #[.int .i64 x, .int .i64 y, .int .i64 z] := by
        rw [← hw5]
        exact k4.far3 (by omega) _ _ _
      have m0 := l4.cell 0
      have m1 := l4.cell 1
      have m2 := l4.cell 2
      have n0 := k5.cell 0
      have n1 := k5.cell 1
      have n2 := k5.cell 2
      simp at m0 m1 m2 n0 n1 n2
      have hb6 : Below w.heap.size w4 w5 := by
        rw [← hw5]
        exact (((Below.refl _ _).setCell (p := ⟨w.heap.size + 1, 0, none⟩) (Nat.le_succ _) _).setCell (p := ⟨w.heap.size + 1, 1, none⟩) (Nat.le_succ _) _).setCell (p := ⟨w.heap.size + 1, 2, none⟩) (Nat.le_succ _) _
      exact bodyPost_ret (v := .tuple #[.agg #[.int .i64 x, .int .i64 y, .int .i64 z], .agg #[.int .i64 x', .int .i64 y', .int .i64 z'], .bool true]) (by simp [results, Try.results32, go_sem, m0, m1, m2, n0, n1, n2]) rfl
        ⟨rfl, (B2.out.trans hb4).trans hb6⟩

end Go.Proofs.Ythdgheglmkhcbaa
