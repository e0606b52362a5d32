/- The reference's ImageOf and ShadowOf. -/
import Derived.Test.YthdgheglmkhcbaaMs
namespace Go.Proofs.Ythdgheglmkhcbaa
open Go.RowKit
open Pl

theorem all_size : (Try.prog.info? 95).map (·.size) = some 29 := by kernel_rfl
/-- a struct's first field, an array of 27 -/
theorem fold_set : ∀ (xs : List Value) (k : Nat) (C : Array Value) (i : Nat), k + xs.length ≤ C.size →
    ((xs.zipIdx k).foldl (fun (cs : Array Value) x => cs.setIfInBounds x.2 x.1) C)[i]? = if k ≤ i ∧ i < k + xs.length then xs[i - k]? else C[i]?
  | [], k, C, i, _ => by
    rw [if_neg (by simp only [List.length_nil]; omega)]
    rfl
  | x :: xs, k, C, i, h => by
    simp only [List.length_cons] at h
    rw [List.zipIdx_cons, List.foldl_cons, fold_set xs (k + 1) _ i (by simp; omega)]
    simp only [List.length_cons]
    by_cases h1 : k + 1 ≤ i ∧ i < k + 1 + xs.length
    · rw [if_pos h1, if_pos (by omega), show i - k = (i - (k + 1)) + 1 by omega, List.getElem?_cons_succ]
    · rw [if_neg h1]
      by_cases h2 : i = k
      · subst h2
        rw [if_pos (by omega), Array.getElem?_setIfInBounds_self_of_lt (by omega), Nat.sub_self]; rfl
      · rw [if_neg (by omega), Array.getElem?_setIfInBounds_ne (fun e => h2 e.symm)]
theorem build_get {V : Array Value} (hz : V.size = 27) (C : Array Value) (hC : 27 ≤ C.size) {i : Nat} (hi : i < 27) : (Array.foldl (fun (cs : Array Value) x => cs.setIfInBounds x.2 x.1) C V.zipIdx 0 27)[i]? = V[i]? := by
  have hs : V.zipIdx.size = 27 := by rw [Array.size_zipIdx, hz]
  have h1 := Array.foldl_toList (fun (cs : Array Value) (x : Value × Nat) => cs.setIfInBounds x.2 x.1) (init := C) (xs := V.zipIdx)
  rw [hs] at h1
  have hl : V.toList.length = 27 := by rw [Array.length_toList, hz]
  rw [← h1, Array.toList_zipIdx, fold_set V.toList 0 C i (by omega), if_pos (by omega)]
  simp
/-- what the masks in a set have together -/
def poS (p : Nat → Bool) (rb : Rl) (i : Nat) : Nat → Bool := fun j => (List.range i).any (fun u => p u && rb u j)
theorem poS_succ (p : Nat → Bool) (rb : Rl) (i j : Nat) : poS p rb (i + 1) j = (poS p rb i j || (p i && rb i j)) := by
  unfold poS
  rw [List.range_succ, List.any_append]
  simp
theorem poS_zero (p : Nat → Bool) (rb : Rl) : msk (poS p rb 0) 27 = 0 := by rw [← msk_zero 27]; exact msk_congr (fun _ _ => rfl)
theorem poS_no {p : Nat → Bool} {rb : Rl} {i : Nat} (h : p i = false) : msk (poS p rb i) 27 = msk (poS p rb (i + 1)) 27 := msk_congr (fun j _ => by rw [poS_succ, h, Bool.false_and, Bool.or_false])
theorem poS_yes {p : Nat → Bool} {rb : Rl} {i : Nat} (h : p i = true) : msk (poS p rb i) 27 ||| msk (rb i) 27 = msk (poS p rb (i + 1)) 27 := by
  rw [msk_or]
  exact msk_congr (fun j _ => by rw [poS_succ, h, Bool.true_and])
set_option maxRecDepth 100000 in
set_option maxHeartbeats 8000000 in
theorem l4Post_any (rb : Rl) (p : Nat → Bool) (V : Array Value) (hV : ∀ i, i < 27 → V[i]? = some (.int .i64 (msk (rb i) 27 : Nat))) (w : World) : Calls Try.prog 119 #[.agg V, .int .i64 (msk p 27 : Nat)] w fun e w' => (e = .returned (.int .i64 (msk (poS p rb 27) 27 : Nat)) ∧ Below w.heap.size w w') := by
  have K0 := Lib.hid (Blk.new w 95 V)
  have B0 := Lib.hid (below_n w (.cells V 95))
  have HV := Lib.hid hV
  have IN := Lib.hid (fun (j : Nat) (hj : j < 27) w => by have := l4In_any (msk p 27) j (msk_lt p 27) hj w; rw [msk_bit p hj] at this; exact this)
  have hz := poS_zero p rb
  clear hV
  go_enter Try.func119, Try.ntmps119
  go_wp2_with fail
  go_loopg [5, 6] 27 (fun gk so si wr => ∃ a : Nat, a + gk = 27 ∧ si = .int .i64 a ∧ so = .int .i64 (msk (poS p rb a) 27 : Nat) ∧ Hid (Blk wr w.heap.size 95 V) ∧ Hid (Below w.heap.size w wr))
  case atStart => exact ⟨0, rfl, rfl, by rw [hz]; rfl, K0, B0⟩
  case round =>
    clear K0 B0 hz
    obtain ⟨a, ha, rfl, rfl, K, B⟩ := hrel
    by_cases hla : a < 27
    · have IX := Lib.hid (fun w => IN.out a hla w)
      have hc := (K.out.cell a).trans (HV.out a hla)
      have hxa : (a : Int) < 27 := by omega
      have hor := or_int (msk (poS p rb a) 27) (msk (rb a) 27) (msk_lt _ _) (msk_lt _ _)
      cases hr : p a
      · rw [hr] at IX
        have HO := Lib.hid (poS_no (rb := rb) hr)
        clear hr hor
        go_wp2_with fail
        refine (IX.out _).mono ?_
        rintro e w' ⟨rfl, rfl⟩
        go_wp2_with fail
        go_roundg (gk - 1)
        case measure => omega
        case rel => exact ⟨a + 1, by omega, by go_num, by rw [← HO.out], K, B⟩
      · rw [hr] at IX
        rw [poS_yes hr] at hor
        have HO := Lib.hid hor
        clear hr hor
        go_wp2_with fail
        refine (IX.out _).mono ?_
        rintro e w' ⟨rfl, rfl⟩
        go_wp2_with fail
        go_roundg (gk - 1)
        case measure => omega
        case rel => exact ⟨a + 1, by omega, by go_num, congrArg (Value.int .i64) HO.out, K, B⟩
    · obtain rfl : a = 27 := by omega
      clear HV IN
      go_wp2_with fail
      go_ret
      exact ⟨rfl, B.out⟩
set_option maxRecDepth 100000 in
set_option maxHeartbeats 8000000 in
theorem ImageOfS_any (R P : ByteArray) (hR : R.size ≤ 1000000000000) (hP : P.size ≤ 1000000000000) (w : World) : Calls Try.prog 57 #[.string R, .string P] w fun e w' => (e = .returned (.tuple #[.string (bs (optB (imgO R P))), .bool (imgO R P).isSome]) ∧ Below w.heap.size w w') := by
  have VV := Lib.hid (fun w => RelValidS_any R hR w)
  have UU := Lib.hid (fun w => PredValidS_any P hP w)
  cases hr : bOk 729 R.data.toList
  · rw [imgO_no (by rw [hr]; rfl)]
    rw [hr] at VV
    simp only [optB, Option.isSome_none]
    go_enter Try.func57, Try.ntmps57
    go_wp2_with fail
    refine (VV.out _).mono ?_
    rintro e w' ⟨rfl, rfl⟩
    go_wp2_with fail
    go_ret2
    exact ⟨(by first | trivial | rfl), Below.refl _ _⟩
  · cases hp : bOk 27 P.data.toList
    · rw [imgO_no (by rw [hr, hp]; rfl)]
      rw [hr] at VV
      rw [hp] at UU
      simp only [optB, Option.isSome_none]
      go_enter Try.func57, Try.ntmps57
      go_wp2_with fail
      refine (VV.out _).mono ?_
      rintro e w' ⟨rfl, rfl⟩
      go_wp2_with fail
      refine (UU.out _).mono ?_
      rintro e w' ⟨rfl, rfl⟩
      go_wp2_with fail
      go_ret2
      exact ⟨(by first | trivial | rfl), Below.refl _ _⟩
    · rw [imgO_yes hr hp]
      rw [hr] at VV
      rw [hp] at UU
      simp only [optB, Option.isSome_some]
      have RD := Lib.hid (fun w => l6Read_any R hr w)
      have MK := Lib.hid (fun w => by have := l4Mask_any P (by rw [ok_size hp]; omega) w; rw [ok_size hp] at this; exact this)
      have LT := Lib.hid (fun w => l4Text_any (poS (bt P.data.toList) (ro R.data.toList) 27) _ rfl w)
      have he : bitsN 27 (poS (bt P.data.toList) (ro R.data.toList) 27) = imgT R.data.toList P.data.toList := rfl
      rw [he] at LT
      have PO := Lib.hid (fun V hV w => l4Post_any (ro R.data.toList) (bt P.data.toList) V hV w)
      have RV := Lib.hid (fun i (hi : i < 27) => rowV_get (ro R.data.toList) hi)
      have hz := rowV_size (ro R.data.toList)
      generalize imgT R.data.toList P.data.toList = RO at *
      generalize rowV (ro R.data.toList) = V at *
      clear he hr hp
      go_enter Try.func57, Try.ntmps57
      go_wp2_with fail
      refine (VV.out _).mono ?_
      rintro e w' ⟨rfl, rfl⟩
      go_wp2_with fail
      refine (UU.out _).mono ?_
      rintro e w' ⟨rfl, rfl⟩
      go_wp2_with fail
      refine (RD.out _).mono ?_
      rintro e w1 ⟨rfl, hb1⟩
      have B1 := Lib.hid hb1
      clear hb1
      go_wp2_with fail
      refine (MK.out _).mono ?_
      rintro e w' ⟨rfl, rfl⟩
      go_wp2_with fail
      refine (PO.out _ (fun i hi => (build_get hz _ (by decide) hi).trans (RV.out i hi)) _).mono ?_
      rintro e w2 ⟨rfl, hb2⟩
      have B2 := Lib.hid (below_2 B1.out hb2)
      clear hb2
      go_wp2_with fail
      refine (LT.out _).mono ?_
      rintro e w3 ⟨rfl, hb3⟩
      have B3 := Lib.hid (below_2 B2.out hb3)
      clear hb3
      go_wp2_with fail
      go_ret2
      exact ⟨(by first | trivial | rfl), B3.out⟩
def shS (r p : List UInt8) (i : Nat) : Nat → Bool := fun a => decide (a < i) && (List.range 27).all (fun j => !ro r a j || bt p j)
theorem shS_zero (r p : List UInt8) : msk (shS r p 0) 27 = 0 := (msk_congr (g := fun _ => false) (fun _ _ => by simp [shS])).trans (msk_zero 27)
theorem shS_no {r p : List UInt8} {i : Nat} (h : (List.range 27).all (fun j => !ro r i j || bt p j) = false) : msk (shS r p i) 27 = msk (shS r p (i + 1)) 27 := msk_congr (fun a _ => by
  unfold shS
  by_cases e : a = i
  · subst e; rw [h]; simp
  · congr 1
    exact decide_eq_decide.2 (by omega))
theorem shS_yes {r p : List UInt8} {i : Nat} (hi : i < 27) (h : (List.range 27).all (fun j => !ro r i j || bt p j) = true) : msk (shS r p i) 27 ||| 2 ^ i = msk (shS r p (i + 1)) 27 := by
  rw [msk_or1 _ hi]
  refine msk_congr (fun a _ => ?_)
  unfold shS
  by_cases e : a = i
  · subst e; rw [h]; simp
  · rw [show decide (a < i + 1) = decide (a < i) from decide_eq_decide.2 (by omega), show (a == i) = false by simp [e], Bool.or_false]
theorem shS_all (r p : List UInt8) : bitsN 27 (shS r p 27) = shaT r p := by
  unfold shaT
  apply bits_congr
  intro i hi
  simp [shS, hi]
set_option maxRecDepth 100000 in
set_option maxHeartbeats 8000000 in
theorem ShadowOfS_any (R P : ByteArray) (hR : R.size ≤ 1000000000000) (hP : P.size ≤ 1000000000000) (w : World) : Calls Try.prog 59 #[.string R, .string P] w fun e w' => (e = .returned (.tuple #[.string (bs (optB (shaO R P))), .bool (shaO R P).isSome]) ∧ Below w.heap.size w w') := by
  have VV := Lib.hid (fun w => RelValidS_any R hR w)
  have UU := Lib.hid (fun w => PredValidS_any P hP w)
  cases hr : bOk 729 R.data.toList
  · rw [shaO_no (by rw [hr]; rfl)]
    rw [hr] at VV
    simp only [optB, Option.isSome_none]
    go_enter Try.func59, Try.ntmps59
    go_wp2_with fail
    refine (VV.out _).mono ?_
    rintro e w' ⟨rfl, rfl⟩
    go_wp2_with fail
    go_ret2
    exact ⟨(by first | trivial | rfl), Below.refl _ _⟩
  · cases hp : bOk 27 P.data.toList
    · rw [shaO_no (by rw [hr, hp]; rfl)]
      rw [hr] at VV
      rw [hp] at UU
      simp only [optB, Option.isSome_none]
      go_enter Try.func59, Try.ntmps59
      go_wp2_with fail
      refine (VV.out _).mono ?_
      rintro e w' ⟨rfl, rfl⟩
      go_wp2_with fail
      refine (UU.out _).mono ?_
      rintro e w' ⟨rfl, rfl⟩
      go_wp2_with fail
      go_ret2
      exact ⟨(by first | trivial | rfl), Below.refl _ _⟩
    · rw [shaO_yes hr hp]
      rw [hr] at VV
      rw [hp] at UU
      simp only [optB, Option.isSome_some]
      have RD := Lib.hid (fun w => l6Read_any R hr w)
      have MK := Lib.hid (fun w => by have := l4Mask_any P (by rw [ok_size hp]; omega) w; rw [ok_size hp] at this; exact this)
      have LT := Lib.hid (fun w => l4Text_any (shS R.data.toList P.data.toList 27) _ rfl w)
      rw [shS_all] at LT
      have RV := Lib.hid (fun i (hi : i < 27) => rowV_get (ro R.data.toList) hi)
      have AD := Lib.hid (fun (i : Nat) => adn_zero (f := ro R.data.toList i) (g := bt P.data.toList) (n := 27) (Nat.le_refl _))
      have AI := Lib.hid (fun (i : Nat) => adn_int (msk (ro R.data.toList i) 27) (msk (bt P.data.toList) 27) (msk_lt _ _) (msk_lt _ _))
      have hz0 := shS_zero R.data.toList P.data.toList
      have SZ : Hid ((Try.prog.info? 74).map (·.size) = some (rowV (ro R.data.toList)).size ∧ (#[.int .i64 0, .int .i64 0, .int .i64 0, .int .i64 0, .int .i64 0, .int .i64 0, .int .i64 0, .int .i64 0, .int .i64 0, .int .i64 0, .int .i64 0, .int .i64 0, .int .i64 0, .int .i64 0, .int .i64 0, .int .i64 0, .int .i64 0, .int .i64 0, .int .i64 0, .int .i64 0, .int .i64 0, .int .i64 0, .int .i64 0, .int .i64 0, .int .i64 0, .int .i64 0, .int .i64 0] : Array Value).size = (rowV (ro R.data.toList)).size ∧ (rowV (ro R.data.toList)).all (·.oneCell') = true) := ⟨by rw [rowV_size]; exact rel_size, by rw [rowV_size]; rfl, rowV_one _⟩
      generalize shaT R.data.toList P.data.toList = RO at *
      generalize rowV (ro R.data.toList) = V at *
      clear hr hp
      go_enter Try.func59, Try.ntmps59
      go_wp2_with fail
      refine (VV.out _).mono ?_
      rintro e w' ⟨rfl, rfl⟩
      go_wp2_with fail
      refine (UU.out _).mono ?_
      rintro e w' ⟨rfl, rfl⟩
      go_wp2_with fail
      refine (RD.out _).mono ?_
      rintro e w1 ⟨rfl, hb1⟩
      have B1 := Lib.hid hb1
      clear hb1 RD VV UU
      have kz : Blk (w1.alloc (.cells #[.int .i64 0, .int .i64 0, .int .i64 0, .int .i64 0, .int .i64 0, .int .i64 0, .int .i64 0, .int .i64 0, .int .i64 0, .int .i64 0, .int .i64 0, .int .i64 0, .int .i64 0, .int .i64 0, .int .i64 0, .int .i64 0, .int .i64 0, .int .i64 0, .int .i64 0, .int .i64 0, .int .i64 0, .int .i64 0, .int .i64 0, .int .i64 0, .int .i64 0, .int .i64 0, .int .i64 0] 74)) w1.heap.size 74 #[.int .i64 0, .int .i64 0, .int .i64 0, .int .i64 0, .int .i64 0, .int .i64 0, .int .i64 0, .int .i64 0, .int .i64 0, .int .i64 0, .int .i64 0, .int .i64 0, .int .i64 0, .int .i64 0, .int .i64 0, .int .i64 0, .int .i64 0, .int .i64 0, .int .i64 0, .int .i64 0, .int .i64 0, .int .i64 0, .int .i64 0, .int .i64 0, .int .i64 0, .int .i64 0, .int .i64 0] := Blk.new w1 74 #[.int .i64 0, .int .i64 0, .int .i64 0, .int .i64 0, .int .i64 0, .int .i64 0, .int .i64 0, .int .i64 0, .int .i64 0, .int .i64 0, .int .i64 0, .int .i64 0, .int .i64 0, .int .i64 0, .int .i64 0, .int .i64 0, .int .i64 0, .int .i64 0, .int .i64 0, .int .i64 0, .int .i64 0, .int .i64 0, .int .i64 0, .int .i64 0, .int .i64 0, .int .i64 0, .int .i64 0]
      have KZ := Lib.hid kz
      have K2 : Hid (Blk ((w1.alloc (.cells #[.int .i64 0, .int .i64 0, .int .i64 0, .int .i64 0, .int .i64 0, .int .i64 0, .int .i64 0, .int .i64 0, .int .i64 0, .int .i64 0, .int .i64 0, .int .i64 0, .int .i64 0, .int .i64 0, .int .i64 0, .int .i64 0, .int .i64 0, .int .i64 0, .int .i64 0, .int .i64 0, .int .i64 0, .int .i64 0, .int .i64 0, .int .i64 0, .int .i64 0, .int .i64 0, .int .i64 0] 74)).setRow w1.heap.size V) w1.heap.size 74 V) := kz.row _
      have B2 : Hid (Below w.heap.size w ((w1.alloc (.cells #[.int .i64 0, .int .i64 0, .int .i64 0, .int .i64 0, .int .i64 0, .int .i64 0, .int .i64 0, .int .i64 0, .int .i64 0, .int .i64 0, .int .i64 0, .int .i64 0, .int .i64 0, .int .i64 0, .int .i64 0, .int .i64 0, .int .i64 0, .int .i64 0, .int .i64 0, .int .i64 0, .int .i64 0, .int .i64 0, .int .i64 0, .int .i64 0, .int .i64 0, .int .i64 0, .int .i64 0] 74)).setRow w1.heap.size V)) := (B1.out.alloc B1.out.size (.cells #[.int .i64 0, .int .i64 0, .int .i64 0, .int .i64 0, .int .i64 0, .int .i64 0, .int .i64 0, .int .i64 0, .int .i64 0, .int .i64 0, .int .i64 0, .int .i64 0, .int .i64 0, .int .i64 0, .int .i64 0, .int .i64 0, .int .i64 0, .int .i64 0, .int .i64 0, .int .i64 0, .int .i64 0, .int .i64 0, .int .i64 0, .int .i64 0, .int .i64 0, .int .i64 0, .int .i64 0] 74)).trans (below_row B1.out.size _)
      clear kz
      go_wp2_with (refine wpList_store_row rfl 74 (.tmp 7) (.tmp 18) rfl w1.heap.size V rfl rfl 74 #[.int .i64 0, .int .i64 0, .int .i64 0, .int .i64 0, .int .i64 0, .int .i64 0, .int .i64 0, .int .i64 0, .int .i64 0, .int .i64 0, .int .i64 0, .int .i64 0, .int .i64 0, .int .i64 0, .int .i64 0, .int .i64 0, .int .i64 0, .int .i64 0, .int .i64 0, .int .i64 0, .int .i64 0, .int .i64 0, .int .i64 0, .int .i64 0, .int .i64 0, .int .i64 0, .int .i64 0] KZ.out SZ.out.1 SZ.out.2.1 SZ.out.2.2 ?_)
      clear KZ
      obtain ⟨g, hg⟩ : ∃ g, w1.heap.size = g := ⟨_, rfl⟩
      rw [hg] at K2 B2 ⊢
      go_loopg [6, 8] 27 (fun gk so sv wr => ∃ a : Nat, a + gk = 27 ∧ sv = .int .i64 a ∧ so = .int .i64 (msk (shS R.data.toList P.data.toList a) 27 : Nat) ∧ Hid (RowIn w wr g V))
      case atStart => exact ⟨0, rfl, rfl, by rw [hz0]; rfl, ⟨K2.out, B2.out⟩⟩
      case round =>
        clear K2 B2 hz0
        obtain ⟨a, ha, rfl, rfl, HW⟩ := hrel
        have H := HW.out
        clear HW
        by_cases hla : a < 27
        · have hcv := (H.blk.cell a).trans (RV.out a hla)
          have hxa : (a : Int) < 27 := by omega
          have hai := AI.out a
          have had := AD.out a
          have hor := or_pow (msk (shS R.data.toList P.data.toList a) 27) a (msk_lt _ _) hla
          cases hr : (List.range 27).all (fun j => !ro R.data.toList a j || bt P.data.toList j)
          · have HO := Lib.hid (shS_no hr)
            rw [hr] at had
            have hx : ((adn (msk (ro R.data.toList a) 27) (msk (bt P.data.toList) 27) : Int) == 0) = false := by simp at had ⊢; omega
            rw [← hai] at hx
            clear hr hor had hai
            go_wp2_with fail
            go_quiet ((go_at_call 120; exact quiet_off (MK.out _)))
            have H2 : RowIn w (wr.drewN nq) g V := H.call (below_drewN _ _ _)
            clear H
            go_wp2_with fail
            go_roundg (gk - 1)
            case measure => omega
            case rel => exact ⟨a + 1, by omega, by go_num, by rw [← HO.out], H2⟩
          · rw [shS_yes hla hr] at hor
            have HO := Lib.hid hor
            rw [hr] at had
            have hx : ((adn (msk (ro R.data.toList a) 27) (msk (bt P.data.toList) 27) : Int) == 0) = true := by simp at had ⊢; omega
            rw [← hai] at hx
            clear hr hor had hai
            go_wp2_with fail
            go_quiet ((go_at_call 120; exact quiet_off (MK.out _)))
            have H2 : RowIn w (wr.drewN nq) g V := H.call (below_drewN _ _ _)
            clear H
            go_wp2_with fail
            go_roundg (gk - 1)
            case measure => omega
            case rel => exact ⟨a + 1, by omega, by go_num, congrArg (Value.int .i64) HO.out, H2⟩
        · obtain rfl : a = 27 := by omega
          have BE := Lib.hid H.below
          clear H AI AD RV
          go_wp2_with fail
          refine (LT.out _).mono ?_
          rintro e w3 ⟨rfl, hb3⟩
          have B3 := Lib.hid (below_2 BE.out hb3)
          clear hb3
          go_wp2_with fail
          go_ret2
          exact ⟨(by first | trivial | rfl), B3.out⟩

end Go.Proofs.Ythdgheglmkhcbaa
