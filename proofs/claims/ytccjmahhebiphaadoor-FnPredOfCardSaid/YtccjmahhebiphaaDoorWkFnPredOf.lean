/- The walk of the law FnPredOf. -/
import Derived.Test.YtccjmahhebiphaaDoorVc
import Derived.Test.YtccjmahhebiphaaDoorVd
import Derived.Test.YtccjmahhebiphaaDoorVs
import Derived.Test.YtccjmahhebiphaaDoorVn
import Derived.Test.YtccjmahhebiphaaDoorHs
import Derived.Test.YtccjmahhebiphaaDoorPp
namespace Go.Proofs.YtccjmahhebiphaaDoor.fnPredOf
open Go.ChangeShapes Go.WideShapes Go.ChangeAt Go.RowKit
open Pl
set_option linter.unusedVariables false
theorem state_ok {i : Nat} (hi : i < 27) : stB ((i : Int) % 3) ((i : Int) / 3 % 3) ((i : Int) / 9) = true := by
  simp only [stB, Bool.and_eq_true]
  exact ⟨inB_small.2 ⟨by omega, by omega⟩, inB_small.2 ⟨by omega, by omega⟩, inB_small.2 ⟨by omega, by omega⟩⟩
theorem sts_c {w W : World} {g j : Nat} (H : Sit w W (sts g)) (hj : j < 27) : W.cell? ⟨g, j * 3, none⟩ = some (.int .i64 ((j : Int) % 3)) ∧ W.cell? ⟨g, j * 3 + 1, none⟩ = some (.int .i64 ((j : Int) / 3 % 3)) ∧ W.cell? ⟨g, j * 3 + 2, none⟩ = some (.int .i64 ((j : Int) / 9)) :=
  ⟨H.get (mem_sts hj).1, H.get (mem_sts hj).2.1, H.get (mem_sts hj).2.2⟩
theorem DrawPredOf_any (A : Option Addr) (n cap : Nat) (w : World) (hn : n ≤ 4000000000000) (hc : n ≤ cap) (h : Bytes w A n w.heap.size) :
    Calls Tryd.prog 38 #[.slice A n cap] w (TxtAny w 1025) := by
  have O := Lib.hid (DrawTestValid_any A n cap w hn hc h)
  clear h
  go_enter Tryd.func38, Tryd.ntmps38
  go_wp2_with fail
  refine O.out.mono ?_
  rintro e w1 ⟨S, hS, rfl, hb1⟩
  have B1 := Lib.hid hb1
  clear hb1
  go_wp2_with fail
  go_ret
  exact ⟨S, hS, rfl, B1.out⟩
theorem pred_ok (k : Nd) : bOk 27 (predOf k) = true := bits_ok _ _
theorem bt_pred {k : Nd} {j : Nat} (hj : j < 27) : bt (predOf k) j = tru (envOf ((j : Int) % 3) ((j : Int) / 3 % 3) ((j : Int) / 9) 0 0 0) k := bt_bits hj
theorem size_oneX (c : UInt8) : (⟨#[c]⟩ : ByteArray).size = 1 := rfl
set_option maxRecDepth 100000 in
set_option maxHeartbeats 16000000 in
theorem walk (a0 : Option Addr) (len0 cap0 : Nat) (w : World) (hb0 : Bytes w a0 len0 w.heap.size) (hl0 : len0 ≤ cap0) (hc0 : cap0 ≤ 9223372036854775807) (hst : Str w) :
    Calls Tryd.prog 8 #[.slice a0 len0 cap0] w fun e w' => e = .returned (.bool true) ∧ Below w.heap.size w w' := by
  by_cases hbig : 1048576 < len0
  · clear hb0
    go_enter Tryd.func8, Tryd.ntmps8
    go_wp2_with fail
    go_ret
    exact ⟨rfl, by first | exact Below.refl _ _ | exact below_n _ _ | exact (below_n _ _).alloc (by simp) _⟩
  have D := Lib.hid (DrawPredOf_any a0 len0 cap0 w (by omega) hl0 hb0)
  have S0 := Lib.hid hst
  clear hb0 hst
  go_enter Tryd.func8, Tryd.ntmps8
  go_wp2_with fail
  refine D.out.mono ?_
  rintro e w1 ⟨S, hS, rfl, hb1⟩
  have B1 := Lib.hid hb1
  clear D hb1
  have PA := Lib.hid (fun w => PredOf_any S (by omega) w)
  have PS := Lib.hid (fun w => PredOfS_any S (by omega) w)
  cases ho : whole false 1 200 S.data.toList with
  | none =>
    rw [ho] at PA PS
    simp only [Option.map_none, optB, Option.isSome_none] at PA PS
    have q1 : ((bs []).toList != (bs []).toList) = false := by simp
    have q2 : ((bs []).toList == (bs []).toList) = true := by simp
    generalize bs [] = E0 at *
    clear ho
    go_wp2_with fail
    refine (PA.out _).mono ?_
    rintro e w2 ⟨rfl, hb2⟩
    have B2 : Hid (Below w.heap.size w w2) := by first | exact Lib.hid (below_2 B1.out hb2) | exact Lib.hid (below_a1 B1.out hb2) | exact Lib.hid (below_a2 B1.out hb2) | exact Lib.hid (below_a3 B1.out hb2)
    clear hb2
    go_wp2_with fail
    refine (PS.out _).mono ?_
    rintro e w3 ⟨rfl, hb3⟩
    have B3 : Hid (Below w.heap.size w w3) := by first | exact Lib.hid (below_2 B2.out hb3) | exact Lib.hid (below_a1 B2.out hb3) | exact Lib.hid (below_a2 B2.out hb3) | exact Lib.hid (below_a3 B2.out hb3)
    clear hb3
    go_wp2_with fail
    go_ret
    exact ⟨ret_bool (by first | rfl | simp), B3.out⟩
  | some k =>
    rw [ho] at PA PS
    simp only [Option.map_some, optB, Option.isSome_some] at PA PS
    obtain ⟨hle, hk, htx⟩ := (whole_iff (by omega)).1 ho
    have hz : S.size = k.text.length := by rw [← len_S, htx]
    have hpo : bOk 27 (bs (predOf k)).data.toList = true := by rw [bs_list]; exact pred_ok k
    have zp := ok_size hpo
    have HPT : Hid (∀ j : Nat, j < 27 → ∃ v : Bool, (∀ w, Calls Tryd.prog 34 #[.string (bs (predOf k)), .agg #[.int .i64 ((j : Int) % 3), .int .i64 ((j : Int) / 3 % 3), .int .i64 ((j : Int) / 9)]] w fun e w' => (e = .returned (.bool v) ∧ Below w.heap.size w w')) ∧
        (∀ w, Calls Tryd.prog 41 #[.string S, .agg #[.int .i64 ((j : Int) % 3), .int .i64 ((j : Int) / 3 % 3), .int .i64 ((j : Int) / 9)]] w fun e w' => (e = .returned (.bool v) ∧ Below w.heap.size w w'))) := Lib.hid (by
      intro j hj
      have hst := state_ok hj
      have E3 := fun w => HasState_any (bs (predOf k)) hpo j hj w
      have E1 := fun w => ppTrue_any S (by omega) ((j : Int) % 3) ((j : Int) / 3 % 3) ((j : Int) / 9) w
      rw [ho, hst] at E1
      simp only [evT, Bool.true_and] at E1
      rw [bs_list, bt_pred hj] at E3
      exact ⟨_, E3, E1⟩)
    have VP := Lib.hid (fun w hs => PredVars_any (bs (predOf k)) (by omega) w hs)
    rw [bs_list] at VP
    have hvz : (⟨(vsTest S.data.toList).toArray⟩ : ByteArray).size ≤ 1000000 := by
      show (vsTest S.data.toList).toArray.size ≤ _
      rw [List.size_toArray]
      unfold vsTest
      split
      · have h3 := vars_len (ns := nmsN) (l := S.data.toList)
        have h4 : nmsN.length = 3 := rfl
        omega
      · simp
    have HM : Hid (∀ c, c ∈ pvL (predOf k) → c ∈ vsTest S.data.toList) := Lib.hid (by
      intro c hc
      have hcn := pvL_sub hc
      unfold vsTest
      rw [ho]
      simp only [Option.isSome_some, if_true]
      refine mem_vars.2 ⟨hcn, ?_⟩
      rw [htx]
      apply Decidable.byContradiction
      intro hn
      have hd := (mem_pvL (pred_ok k) hcn).1 hc
      rw [show dep (bt (predOf k)) c = dep (fun i => tru (envOf (stX i) (stY i) (stZ i) 0 0 0) k) c from dep_congr (fun i hi => bt_bits hi), dep_pred hcn hn] at hd
      cases hd)
    have TV := Lib.hid (fun w => TestVars_any S (by omega) w)
    have PH := Lib.hid (fun c (hc : c ∈ vsTest S.data.toList) w => (has_one ⟨(vsTest S.data.toList).toArray⟩ c hvz w).mono (fun e w' (h : e = .returned (.bool (hasB (vsTest S.data.toList) c)) ∧ w = w') => (⟨h.1.trans (by simp [hasB, hc]), h.2 ▸ Below.refl _ _⟩ : e = .returned (.bool true) ∧ Below w.heap.size w w')))
    have PV := Lib.hid (fun w => PredValid_any (bs (predOf k)) (by omega) w)
    rw [hpo] at PV
    have NP := Lib.hid (fun w => ppNot_any (bs (predOf k)) (by omega) w)
    have HS : Hid ((∀ w, Calls Tryd.prog 39 #[.string (⟨#[33]⟩ ++ S)] w fun e w' => (e = .returned (.tuple #[.string (bs (optB (notO (bs (predOf k))))), .bool true]) ∧ Below w.heap.size w w')) ∨ (∀ w, Calls Tryd.prog 39 #[.string (⟨#[33]⟩ ++ S)] w fun e w' => (e = .returned (.tuple #[.string (bs []), .bool false]) ∧ Below w.heap.size w w'))) := Lib.hid (by
      have RN := fun w => PredOf_any (⟨#[33]⟩ ++ S) (by rw [ByteArray.size_append, size_oneX]; omega) w
      have hap : ((⟨#[33]⟩ : ByteArray) ++ S).data.toList = (Nd.n1 33 k).text := by
        rw [show (⟨#[33]⟩ : ByteArray) = bs [33] from rfl, ← bs_of S, bs_app, bs_list, htx]
        rfl
      rw [hap] at RN
      have hok : ok false 1 (.n1 33 k) = true := by simp [ok, hk]
      have hlen : (Nd.n1 33 k).text.length = k.text.length + 1 := by simp [Nd.text]
      by_cases h2 : S.size < 200
      · rw [whole_text hok (by rw [hlen]; omega)] at RN
        simp only [Option.map_some, Option.isSome_some] at RN
        have he : bs (optB (some (predOf (.n1 33 k)))) = bs (optB (notO (bs (predOf k)))) := by
          apply eq_of_bt (by rw [bs_list]; exact pred_ok _) (not_ok hpo)
          intro i hi
          rw [bt_notO hpo hi, bs_list, bs_list]
          show bt (predOf (.n1 33 k)) i = _
          rw [bt_pred hi, bt_pred hi]
          simp [tru]
        rw [he] at RN
        exact .inl RN
      · have hw : whole false 1 200 (Nd.n1 33 k).text = none := by
          cases hw : whole false 1 200 (Nd.n1 33 k).text with
          | none => rfl
          | some k2 =>
            have := ((whole_iff (by omega)).1 hw).1
            rw [hlen] at this
            omega
        rw [hw] at RN
        exact .inr RN)
    have q1 : ((bs (predOf k)).toList != (bs (predOf k)).toList) = false := by simp
    have q2 : ((bs (optB (notO (bs (predOf k))))).toList == (bs (optB (notO (bs (predOf k))))).toList) = true := by simp
    have hXz : (bs (pvL (predOf k))).size ≤ 3 := by rw [bs_size]; exact pvL_len _
    have HXL : Hid ((bs (pvL (predOf k))).data.toList = pvL (predOf k)) := Lib.hid (bs_list _)
    generalize bs (optB (notO (bs (predOf k)))) = O at *
    generalize bs (pvL (predOf k)) = X at *
    generalize pvL (predOf k) = LX at *
    generalize bs (predOf k) = P at *
    have t1 : 1 + S.size ≤ 9223372036854775807 := by omega
    simp only [str] at TV
    obtain ⟨VB, hVB⟩ : ∃ B : ByteArray, ⟨(vsTest S.data.toList).toArray⟩ = B := ⟨_, rfl⟩
    rw [hVB] at TV PH
    generalize bs [] = E0 at *
    clear ho hk htx hle hz hpo zp hvz hVB
    go_wp2_with fail
    refine (PA.out _).mono ?_
    rintro e w2 ⟨rfl, hb2⟩
    have B2 : Hid (Below w.heap.size w w2) := by first | exact Lib.hid (below_2 B1.out hb2) | exact Lib.hid (below_a1 B1.out hb2) | exact Lib.hid (below_a2 B1.out hb2) | exact Lib.hid (below_a3 B1.out hb2)
    clear hb2
    go_wp2_with fail
    refine (PS.out _).mono ?_
    rintro e w3 ⟨rfl, hb3⟩
    have B3 : Hid (Below w.heap.size w w3) := by first | exact Lib.hid (below_2 B2.out hb3) | exact Lib.hid (below_a1 B2.out hb3) | exact Lib.hid (below_a2 B2.out hb3) | exact Lib.hid (below_a3 B2.out hb3)
    clear hb3
    clear PA PS
    go_wp2_with fail
    refine (ppStates_any _).mono ?_
    rintro e w9 ⟨g, cap, hcap, rfl, hs⟩
    have HH : Hid (Sit w w9 (sts g)) := Lib.hid ⟨below_2 B3.out hs.below, hs.cells⟩
    clear hs
    go_wp2_with fail
    go_loopg [9] 27 (fun gk i wr => ∃ k : Nat, k + gk = 27 ∧ i = .int .i64 k ∧ Hid (Sit w wr (sts g)))
    case atStart => exact ⟨0, rfl, rfl, HH⟩
    case round =>
      clear HH
      obtain ⟨j, hj, rfl, HH⟩ := hrel
      have H := HH.out
      clear HH
      by_cases hlt : j < 27
      · obtain ⟨v, P1, P2⟩ := HPT.out j hlt
        have A1 := Lib.hid P1
        have A2 := Lib.hid P2
        have q9 : (v != v) = false := by simp
        have hjl : (j : Int) < 27 := by omega
        clear P1 P2
        go_wp2_with fail
        refine region_class (fun W => Sit w W (sts g)) (by kernel_rfl) (by kernel_rfl) H.drew ?_
        repeat (first | go_big_quiet_skip | (go_big_quiet_want; first | (apply quiet_value; (· (intro W hW; (obtain ⟨d0, d1, d2⟩ := sts_c hW hlt); go_simp; exact rfl)); simp only [Act.put, List.setIfInBounds_toArray, List.set_cons_zero, List.set_cons_succ]; go_big_quiet_on) | (apply quiet_call; (· (intro W hW; go_simp; exact ⟨rfl, rfl⟩)); (· (intro W hW; first | with_reducible exact (A1.out W).mono fun _ _ h => ⟨h.1, hW.call h.2⟩ | with_reducible exact (A2.out W).mono fun _ _ h => ⟨h.1, hW.call h.2⟩)); simp only [Act.put, List.setIfInBounds_toArray, List.set_cons_zero, List.set_cons_succ]; go_big_quiet_on)))
        refine wpQuiet_nil ?_
        intro wq hq
        clear H
        have H := hq
        clear hq
        go_wp2_with fail
        go_roundg (gk - 1)
        case measure => omega
        case rel => exact ⟨j + 1, by omega, by go_num, H⟩
      · have HB := Lib.hid H.below
        clear H HPT
        go_wp2_with fail
        refine (VP.out _ (S0.out.below HB.out)).mono ?_
        rintro e w11 ⟨rfl, hb11⟩
        have B11 : Hid (Below w.heap.size w w11) := by first | exact Lib.hid (below_2 HB.out hb11) | exact Lib.hid (below_a1 HB.out hb11) | exact Lib.hid (below_a2 HB.out hb11) | exact Lib.hid (below_a3 HB.out hb11)
        clear hb11
        have H0 : Hid (Sit w w11 []) := Lib.hid ⟨B11.out, fun p hp => by simp at hp⟩
        clear B11 HB VP
        go_wp2_with fail
        go_loopg [11] X.size (fun gk i wr => ∃ k : Nat, k + gk = X.size ∧ i = .int .i64 k ∧ Hid (Sit w wr []))
        case atStart => exact ⟨0, by omega, rfl, H0⟩
        case round =>
          clear H0
          obtain ⟨i, hi, rfl, HH⟩ := hrel
          have H := HH.out
          clear HH
          by_cases hli : i < X.size
          · have hex := extract_one hli
            obtain ⟨ch, hch⟩ : ∃ c, X[i] = c := ⟨_, rfl⟩
            rw [hch] at hex
            have hcm : ch ∈ LX := by
              rw [← HXL.out, ← hch]
              exact List.getElem_mem (by rw [len_S]; exact hli : i < X.data.toList.length)
            have PC := Lib.hid (fun w => PH.out ch (HM.out ch hcm) w)
            have hil : (i : Int) < (X.size : Int) := by omega
            have hil2 : (i : Int) + 1 ≤ (X.size : Int) := by omega
            have hil3 : 0 ≤ (i : Int) + 1 := by omega
            have hil4 : (i : Int) ≤ (i : Int) + 1 := by omega
            have hw1 : IntKind.i64.wrap ((i : Int) + 1) = (i : Int) + 1 := wrap_id (by omega) (by omega)
            clear hch hcm
            go_wp2_with fail
            refine region_class (fun W => Sit w W []) (by kernel_rfl) (by kernel_rfl) H.drew ?_
            repeat (first | go_big_quiet_skip | (go_big_quiet_want; first | (apply quiet_value; (· (intro W hW; skip; go_simp; exact rfl)); simp only [Act.put, List.setIfInBounds_toArray, List.set_cons_zero, List.set_cons_succ]; go_big_quiet_on) | (apply quiet_call; (· (intro W hW; go_simp; exact ⟨rfl, rfl⟩)); (· (intro W hW; first | with_reducible exact (TV.out W).mono fun _ _ h => ⟨h.1, hW.call h.2⟩ | with_reducible exact (PC.out W).mono fun _ _ h => ⟨h.1, hW.call h.2⟩)); simp only [Act.put, List.setIfInBounds_toArray, List.set_cons_zero, List.set_cons_succ]; go_big_quiet_on)))
            refine wpQuiet_nil ?_
            intro wq hq
            clear H
            have H := hq
            clear hq
            go_wp2_with fail
            go_roundg (gk - 1)
            case measure => omega
            case rel => exact ⟨i + 1, by omega, by go_num, H⟩
          · have HC := Lib.hid H.below
            clear H TV PH HM
            rcases HS.out with hN | hN
            · have RN := Lib.hid hN
              clear hN HS
              go_wp2_with fail
              refine (RN.out _).mono ?_
              rintro e w21 ⟨rfl, hb21⟩
              have B21 : Hid (Below w.heap.size w w21) := by first | exact Lib.hid (below_2 HC.out hb21) | exact Lib.hid (below_a1 HC.out hb21) | exact Lib.hid (below_a2 HC.out hb21) | exact Lib.hid (below_a3 HC.out hb21)
              clear hb21
              go_wp2_with fail
              refine (PV.out _).mono ?_
              rintro e w' ⟨rfl, rfl⟩
              go_wp2_with fail
              refine (NP.out _).mono ?_
              rintro e w22 ⟨rfl, hb22⟩
              have B22 : Hid (Below w.heap.size w w22) := by first | exact Lib.hid (below_2 B21.out hb22) | exact Lib.hid (below_a1 B21.out hb22) | exact Lib.hid (below_a2 B21.out hb22) | exact Lib.hid (below_a3 B21.out hb22)
              clear hb22
              go_wp2_with fail
              go_ret
              exact ⟨ret_bool (by first | rfl | simp), B22.out⟩
            · have RN := Lib.hid hN
              clear hN HS
              go_wp2_with fail
              refine (RN.out _).mono ?_
              rintro e w21 ⟨rfl, hb21⟩
              have B21 : Hid (Below w.heap.size w w21) := by first | exact Lib.hid (below_2 HC.out hb21) | exact Lib.hid (below_a1 HC.out hb21) | exact Lib.hid (below_a2 HC.out hb21) | exact Lib.hid (below_a3 HC.out hb21)
              clear hb21
              go_wp2_with fail
              refine (PV.out _).mono ?_
              rintro e w' ⟨rfl, rfl⟩
              go_wp2_with fail
              go_ret
              exact ⟨ret_bool (by first | rfl | simp), B21.out⟩

end Go.Proofs.YtccjmahhebiphaaDoor.fnPredOf
