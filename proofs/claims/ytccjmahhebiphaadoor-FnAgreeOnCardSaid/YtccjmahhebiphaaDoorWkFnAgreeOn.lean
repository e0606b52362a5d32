/- The walk of the law FnAgreeOn. -/
import Derived.Test.YtccjmahhebiphaaDoorVh
import Derived.Test.YtccjmahhebiphaaDoorVs
import Derived.Test.YtccjmahhebiphaaDoorHs
import Derived.Test.YtccjmahhebiphaaDoorLwa
namespace Go.Proofs.YtccjmahhebiphaaDoor.fnAgreeOn
open Go.ChangeShapes Go.WideShapes Go.ChangeAt Go.RowKit
open Pl
set_option linter.unusedVariables false
def agP (l : List UInt8) (i j m : Nat) : Bool := (l.take m).all (fun c => gv c i == gv c j)
theorem agP_zero (l : List UInt8) (i j : Nat) : agP l i j 0 = true := rfl
theorem agP_succ {l : List UInt8} {i j m : Nat} (h : m < l.length) : agP l i j (m + 1) = (agP l i j m && (gv l[m] i == gv l[m] j)) := by
  unfold agP
  rw [List.take_succ_eq_append_getElem h, List.all_append]
  simp
theorem agP_all {l : List UInt8} {i j m : Nat} (h : l.length ≤ m) : agP l i j m = agR l i j := by
  unfold agP agR
  rw [List.take_of_length_le h]
theorem env_gv {c : UInt8} (hc : c ∈ nmsN) {i : Nat} (hi : i < 27) : envOf (stX i) (stY i) (stZ i) 0 0 0 c = gv c i := by
  rcases nmsN_cases hc with rfl | rfl | rfl
  · show (i : Int) % 3 = (i : Int) / 1 % 3
    omega
  · rfl
  · show (i : Int) / 9 = (i : Int) / 9 % 3
    omega
set_option maxRecDepth 100000 in
set_option maxHeartbeats 16000000 in
theorem walk (a0 : Option Addr) (len0 cap0 : Nat) (w : World) (hb0 : Bytes w a0 len0 w.heap.size) (hl0 : len0 ≤ cap0) (hc0 : cap0 ≤ 9223372036854775807) (hst : Str w) :
    Calls Tryd.prog 9 #[.slice a0 len0 cap0] w fun e w' => e = .returned (.bool true) ∧ Below w.heap.size w w' := by
  by_cases hbig : 1048576 < len0
  · clear hb0
    go_enter Tryd.func9, Tryd.ntmps9
    go_wp2_with fail
    go_ret
    exact ⟨rfl, by first | exact Below.refl _ _ | exact below_n _ _ | exact (below_n _ _).alloc (by simp) _⟩
  have D := Lib.hid (DrawAgreeOn_any a0 len0 cap0 w (by omega) hl0 hb0)
  have S0 := Lib.hid hst
  clear hb0 hst
  go_enter Tryd.func9, Tryd.ntmps9
  go_wp2_with fail
  refine D.out.mono ?_
  rintro e w1 ⟨S, hS, rfl, hb1⟩
  have B1 := Lib.hid hb1
  clear D hb1
  obtain ⟨hz, hf⟩ := agd_facts S hS
  have AA := Lib.hid (fun w hs => AgreeOn_any S (by omega) (fun h => by rcases hf with ⟨_, _, h3⟩ | ⟨h1, _⟩; exact h3; rw [h1] at h; cases h) w hs)
  have AS := Lib.hid (fun w => AgreeOnS_any S (by omega) hf w)
  clear hS
  rcases hf with ⟨h1, h2, h3⟩ | ⟨h1, h2⟩
  · have hr : agO S = some (rt (agR S.data.toList)) := by unfold agO; rw [h1]; rfl
    rw [hr] at AA AS
    simp only [optB, Option.isSome_some] at AA AS
    have IE := IsEquivalence_any (bs (rt (agR S.data.toList))) (by rw [bs_size, rt_len]; omega)
    rw [bs_list, agR_eqv] at IE
    have IQ := Lib.hid (fun w => IE w)
    have hro : bOk 729 (bs (rt (agR S.data.toList))).data.toList = true := by rw [bs_list]; exact rt_ok _
    have HP := Lib.hid (fun i j (hi : i < 27) (hj : j < 27) w => (by
      have h := HasPair_any (bs (rt (agR S.data.toList))) hro i j hi hj w
      rw [bs_list, ro_rt hi hj] at h
      exact h : Calls Tryd.prog 47 #[.string (bs (rt (agR S.data.toList))), .agg #[.int .i64 (stX i), .int .i64 (stY i), .int .i64 (stZ i)], .agg #[.int .i64 (stX j), .int .i64 (stY j), .int .i64 (stZ j)]] w fun e w' => (e = .returned (.bool (agR S.data.toList i j)) ∧ Below w.heap.size w w')))
    have PG := Lib.hid (fun c (hc : c ∈ S.data.toList) i (hi : i < 27) w => (by
      have h := ppGet_any c (h3 c hc) (stX i) (stY i) (stZ i) w
      rw [st_ok hi, if_pos rfl, env_gv (h3 c hc) hi] at h
      exact h : Calls Tryd.prog 46 #[.agg #[.int .i64 (stX i), .int .i64 (stY i), .int .i64 (stZ i)], .string ⟨#[c]⟩] w fun e w' => (e = .returned (.int .i64 (gv c i)) ∧ Below w.heap.size w w')))
    have q1 : ((bs (rt (agR S.data.toList))).toList != (bs (rt (agR S.data.toList))).toList) = false := by simp
    generalize bs (rt (agR S.data.toList)) = R at *
    clear h1 h2 h3 hr IE hro
    go_wp2_with fail
    refine (AA.out _ (S0.out.below B1.out)).mono ?_
    rintro e w2 ⟨rfl, hb2⟩
    have B2 : Hid (Below w.heap.size w w2) := by first | exact Lib.hid (below_2 B1.out hb2) | exact Lib.hid (below_a1 B1.out hb2) | exact Lib.hid (below_a2 B1.out hb2) | exact Lib.hid (below_a3 B1.out hb2)
    clear hb2
    go_wp2_with fail
    refine (AS.out _).mono ?_
    rintro e w3 ⟨rfl, hb3⟩
    have B3 : Hid (Below w.heap.size w w3) := by first | exact Lib.hid (below_2 B2.out hb3) | exact Lib.hid (below_a1 B2.out hb3) | exact Lib.hid (below_a2 B2.out hb3) | exact Lib.hid (below_a3 B2.out hb3)
    clear hb3
    clear AA AS
    go_wp2_with fail
    refine (ppStates_any _).mono ?_
    rintro e w9 ⟨g, cap, hcap, rfl, hs⟩
    have HH : Hid (Sit w w9 (sts g)) := Lib.hid ⟨below_2 B3.out hs.below, hs.cells⟩
    clear hs
    go_wp2_with fail
    go_loopg [9] 27 (fun gk i wr => ∃ k : Nat, k + gk = 27 ∧ i = .int .i64 k ∧ Hid (Sit w wr (sts g)))
    case atStart => exact ⟨0, rfl, rfl, HH⟩
    case round =>
      clear HH
      obtain ⟨a, ha, rfl, HH⟩ := hrel
      obtain ⟨ga, hga⟩ : ∃ n, n = gk := ⟨_, rfl⟩
      rw [← hga] at ha
      by_cases hla : a < 27
      · have hda : decide ((a : Int) < 27) = true := by simp; omega
        go_wp2_with fail
        try rw [hda]
        clear hda
        go_loopg [10] 27 (fun gk i wr => ∃ k : Nat, k + gk = 27 ∧ i = .int .i64 k ∧ Hid (Sit w wr (sts g)))
        case atStart => exact ⟨0, rfl, rfl, HH⟩
        case round =>
          clear HH
          obtain ⟨b, hb, rfl, HH⟩ := hrel
          obtain ⟨gb, hgb⟩ : ∃ n, n = gk := ⟨_, rfl⟩
          rw [← hgb] at hb
          by_cases hlb : b < 27
          · have hdb : decide ((b : Int) < 27) = true := by simp; omega
            have HPB := Lib.hid (fun w => HP.out a b hla hlb w)
            have hxa : (a : Int) < 27 := by omega
            have hxb : (b : Int) < 27 := by omega
            go_wp2_with fail
            try rw [hdb]
            clear hdb
            go_loopg [11, 12] S.size (fun gk ag i wr => ∃ m : Nat, m + gk = S.size ∧ i = .int .i64 m ∧ ag = .bool (agP S.data.toList a b m) ∧ Hid (Sit w wr (sts g)))
            case atStart => exact ⟨0, by omega, rfl, rfl, HH⟩
            case round =>
              clear HH
              obtain ⟨m, hm, rfl, rfl, HH⟩ := hrel
              have H := HH.out
              clear HH
              by_cases hlm : m < S.size
              · have hll : m < S.data.toList.length := by rw [len_S]; exact hlm
                have hex := extract_one hlm
                have hsu := agP_succ (i := a) (j := b) hll
                obtain ⟨ch, hch⟩ : ∃ c, S[m] = c := ⟨_, rfl⟩
                have hcl : S.data.toList[m] = ch := hch
                rw [hch] at hex
                rw [hcl] at hsu
                have hcm : ch ∈ S.data.toList := by rw [← hcl]; exact List.getElem_mem hll
                have G1 := Lib.hid (fun w => PG.out ch hcm a hla w)
                have G2 := Lib.hid (fun w => PG.out ch hcm b hlb w)
                have HSU := Lib.hid hsu
                obtain ⟨ee, hee⟩ : ∃ e, (gv ch a == gv ch b) = e := ⟨_, rfl⟩
                rw [hee] at HSU
                generalize gv ch a = ua at *
                generalize gv ch b = ub at *
                generalize agP S.data.toList a b m = f0 at *
                have hil1 : 0 ≤ (m : Int) + 1 := by omega
                have hil2 : (m : Int) ≤ (m : Int) + 1 := by omega
                have hil3 : (m : Int) < (S.size : Int) := by omega
                have hil4 : (m : Int) + 1 ≤ (S.size : Int) := by omega
                have hw1 : IntKind.i64.wrap ((m : Int) + 1) = (m : Int) + 1 := wrap_id (by omega) (by omega)
                clear hsu hch hcl hcm hll
                cases f0
                all_goals
                  go_wp2_with fail
                  refine region_class (fun W => Sit w W (sts g)) (by kernel_rfl) (by kernel_rfl) H.drew ?_
                  repeat (first | go_big_quiet_skip | (go_big_quiet_want; first | (apply quiet_value; (· (intro W hW; (obtain ⟨d0, d1, d2⟩ := sts_x hW hla; obtain ⟨e0, e1, e2⟩ := sts_x hW hlb); go_simp; exact rfl)); simp only [Act.put, List.setIfInBounds_toArray, List.set_cons_zero, List.set_cons_succ]; go_big_quiet_on) | (apply quiet_call; (· (intro W hW; go_simp; exact ⟨rfl, rfl⟩)); (· (intro W hW; first | with_reducible exact (G1.out W).mono fun _ _ h => ⟨h.1, hW.call h.2⟩ | with_reducible exact (G2.out W).mono fun _ _ h => ⟨h.1, hW.call h.2⟩)); simp only [Act.put, List.setIfInBounds_toArray, List.set_cons_zero, List.set_cons_succ]; go_big_quiet_on)))
                  refine wpQuiet_nil ?_
                  intro wq hq
                  clear H
                  have H := hq
                  clear hq
                  go_wp2_with fail
                  go_roundg (gk - 1)
                  case measure => omega
                  case rel => exact ⟨m + 1, by omega, by go_num, by rw [HSU.out]; first | rfl | (cases ee <;> rfl), H⟩
              · have hal : agP S.data.toList a b m = agR S.data.toList a b := agP_all (by rw [len_S]; omega)
                rw [hal]
                generalize agR S.data.toList a b = rb at *
                have q9 : (rb != rb) = false := by simp
                clear hal
                go_wp2_with fail
                refine region_class (fun W => Sit w W (sts g)) (by kernel_rfl) (by kernel_rfl) H.drew ?_
                repeat (first | go_big_quiet_skip | (go_big_quiet_want; first | (apply quiet_value; (· (intro W hW; (obtain ⟨d0, d1, d2⟩ := sts_x hW hla; obtain ⟨e0, e1, e2⟩ := sts_x hW hlb); go_simp; exact rfl)); simp only [Act.put, List.setIfInBounds_toArray, List.set_cons_zero, List.set_cons_succ]; go_big_quiet_on) | (apply quiet_call; (· (intro W hW; go_simp; exact ⟨rfl, rfl⟩)); (· (intro W hW; first | with_reducible exact (HPB.out W).mono fun _ _ h => ⟨h.1, hW.call h.2⟩)); simp only [Act.put, List.setIfInBounds_toArray, List.set_cons_zero, List.set_cons_succ]; go_big_quiet_on)))
                refine wpQuiet_nil ?_
                intro wq hq
                clear H
                have H := hq
                clear hq
                go_wp2_with fail
                go_roundg (gb - 1)
                case measure => omega
                case rel => exact ⟨b + 1, by omega, by go_num, H⟩
          · obtain rfl : b = 27 := by omega
            go_wp2_with fail
            go_roundg (ga - 1)
            case measure => omega
            case rel => exact ⟨a + 1, by omega, by go_num, HH⟩
      · have HB := Lib.hid HH.out.below
        clear HH HP PG
        go_wp2_with fail
        refine (IQ.out _).mono ?_
        rintro e w11 ⟨rfl, hb11⟩
        have B11 : Hid (Below w.heap.size w w11) := by first | exact Lib.hid (below_2 HB.out hb11) | exact Lib.hid (below_a1 HB.out hb11) | exact Lib.hid (below_a2 HB.out hb11) | exact Lib.hid (below_a3 HB.out hb11)
        clear hb11
        go_wp2_with fail
        go_ret
        exact ⟨ret_bool (by first | rfl | simp), B11.out⟩
  · have hr : agO S = none := by unfold agO; rw [h1]; rfl
    rw [hr] at AA AS
    simp only [optB, Option.isSome_none] at AA AS
    have q1 : ((bs []).toList != (bs []).toList) = false := by simp
    have q2 : ((bs []).toList == (bs []).toList) = true := by simp
    generalize bs [] = E0 at *
    clear h1 h2 hr
    go_wp2_with fail
    refine (AA.out _ (S0.out.below B1.out)).mono ?_
    rintro e w2 ⟨rfl, hb2⟩
    have B2 : Hid (Below w.heap.size w w2) := by first | exact Lib.hid (below_2 B1.out hb2) | exact Lib.hid (below_a1 B1.out hb2) | exact Lib.hid (below_a2 B1.out hb2) | exact Lib.hid (below_a3 B1.out hb2)
    clear hb2
    go_wp2_with fail
    refine (AS.out _).mono ?_
    rintro e w3 ⟨rfl, hb3⟩
    have B3 : Hid (Below w.heap.size w w3) := by first | exact Lib.hid (below_2 B2.out hb3) | exact Lib.hid (below_a1 B2.out hb3) | exact Lib.hid (below_a2 B2.out hb3) | exact Lib.hid (below_a3 B2.out hb3)
    clear hb3
    go_wp2_with fail
    go_ret
    exact ⟨ret_bool (by first | rfl | simp), B3.out⟩

end Go.Proofs.YtccjmahhebiphaaDoor.fnAgreeOn
