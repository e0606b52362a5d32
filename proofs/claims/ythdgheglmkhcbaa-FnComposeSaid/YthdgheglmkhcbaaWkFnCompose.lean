/- The walk of the law FnCompose. -/
import Derived.Test.YthdgheglmkhcbaaDs
namespace Go.Proofs.Ythdgheglmkhcbaa.fnCompose
open Go.ChangeShapes Go.WideShapes Go.ChangeAt Go.RowKit
open Pl
set_option linter.unusedVariables false
theorem bytes_later {w w' : World} {A : Option Addr} {n : Nat} (h : Bytes w A n w.heap.size) (hb : Below w.heap.size w w') : Bytes w' A n w'.heap.size := by
  have hz := hb.size
  rcases h with h | ⟨b, off, hA, hne, hlt, hc⟩
  · exact .inl h
  · refine .inr ⟨b, off, hA, by omega, by omega, fun i hi => ?_⟩
    obtain ⟨v, hv, hce⟩ := hc i hi
    exact ⟨v, hv, (hb.cell (p := ⟨b, off + i, none⟩) hlt).trans hce⟩
/-- the pairs so far -/
def soF (a b : Rl) (j m k : Nat) : Bool := (List.range k).any (fun u => a j u && b u m)
theorem soF_succ (a b : Rl) (j m k : Nat) : soF a b j m (k + 1) = (soF a b j m k || (a j k && b k m)) := by
  unfold soF; rw [List.range_succ, List.any_append]; simp
set_option maxRecDepth 100000 in
set_option maxHeartbeats 16000000 in
theorem walk (a0 : Option Addr) (len0 cap0 : Nat) (a1 : Option Addr) (len1 cap1 : Nat) (w : World) (hb0 : Bytes w a0 len0 w.heap.size) (hl0 : len0 ≤ cap0) (hc0 : cap0 ≤ 9223372036854775807) (hb1 : Bytes w a1 len1 w.heap.size) (hl1 : len1 ≤ cap1) (hc1 : cap1 ≤ 9223372036854775807) :
    Calls Try.prog 9 #[.slice a0 len0 cap0, .slice a1 len1 cap1] w fun e w' => e = .returned (.bool true) ∧ Below w.heap.size w w' := by
  by_cases hbig0 : 1048576 < len0
  · clear hb0 hb1
    go_enter Try.func9, Try.ntmps9
    go_wp2_with fail
    go_ret
    exact ⟨rfl, by first | exact Below.refl _ _ | exact below_n _ _⟩
  by_cases hbig1 : 1048576 < len1
  · clear hb0 hb1
    go_enter Try.func9, Try.ntmps9
    go_wp2_with fail
    go_ret
    exact ⟨rfl, by first | exact Below.refl _ _ | exact below_n _ _⟩
  have D := Lib.hid (DrawComposeRel_any a0 len0 cap0 w (by omega) hl0 hb0)
  have HB1 := Lib.hid hb1
  clear hb0 hb1
  go_enter Try.func9, Try.ntmps9
  go_wp2_with fail
  refine D.out.mono ?_
  rintro e w1 ⟨P, Q, hP, hQ, rfl, hb1⟩
  have B1 := Lib.hid hb1
  clear D hb1
  have hP' : P.size ≤ 1000000000000 := by omega
  have hQ' : Q.size ≤ 1000000000000 := by omega
  have A1 := Lib.hid (fun w => ComposeRel_any P Q hP' hQ' w)
  have A2 := Lib.hid (fun w => ComposeRelS_any P Q hP' hQ' w)
  go_wp2_with fail
  refine (A1.out _).mono ?_
  rintro e w2 ⟨rfl, hb2⟩
  have B2 := Lib.hid (below_2 B1.out hb2)
  clear hb2
  go_wp2_with fail
  refine (A2.out _).mono ?_
  rintro e w3 ⟨rfl, hb3⟩
  have B3 := Lib.hid (below_2 B2.out hb3)
  clear hb3 B1 B2 A1 A2
  go_wp2_with fail
  refine (DrawNotRel_any a1 len1 cap1 w3 (by omega) hl1 (bytes_later HB1.out B3.out)).mono ?_
  rintro e w4 ⟨U, hU, rfl, hb4⟩
  have B4 := Lib.hid (below_2 B3.out hb4)
  clear hb4 HB1 B3
  have hU' : U.size ≤ 1000000000000 := by omega
  have V := Lib.hid (fun w => RelValid_any U hU' w)
  cases hpq : bOk 729 P.data.toList && bOk 729 Q.data.toList
  · rw [thenR_no hpq]
    simp only [optB, Option.isSome_none]
    have q1 : ((bs []).toList != (bs []).toList) = false := by simp
    have q2 : ((bs []).toList == (bs []).toList) = true := by simp
    generalize bs [] = E0 at *
    clear hpq
    go_wp2_with fail
    go_ret
    exact ⟨ret_bool (by first | rfl | simp), B4.out⟩
  · obtain ⟨hp, hq⟩ : bOk 729 P.data.toList = true ∧ bOk 729 Q.data.toList = true := by simpa using hpq
    rw [thenR_yes hp hq]
    simp only [optB, Option.isSome_some]
    cases hu : bOk 729 U.data.toList
    · rw [hu] at V
      generalize bs (cmpT P.data.toList Q.data.toList) = X at *
      have q1 : (X.toList != X.toList) = false := by simp
      have q2 : (X.toList == X.toList) = true := by simp
      go_wp2_with fail
      refine (V.out _).mono ?_
      rintro e w' ⟨rfl, rfl⟩
      go_wp2_with fail
      go_ret
      exact ⟨ret_bool (by first | rfl | simp), B4.out⟩
    rw [hu] at V
    have z1 : (bs (cmpT P.data.toList Q.data.toList)).size ≤ 1000000000000 := by rw [bs_size, bOk_len (cmpT_ok)]; omega
    have z2 : (bs (cmpT Q.data.toList U.data.toList)).size ≤ 1000000000000 := by rw [bs_size, bOk_len (cmpT_ok)]; omega
    have z3 : (bs (opT (· || ·) Q.data.toList U.data.toList)).size ≤ 1000000000000 := by rw [bs_size, bOk_len (opT_ok)]; omega
    have z4 : (bs (cmpT P.data.toList U.data.toList)).size ≤ 1000000000000 := by rw [bs_size, bOk_len (cmpT_ok)]; omega
    have k1 : bOk 729 (bs (cmpT P.data.toList Q.data.toList)).data.toList = true := by rw [bs_list]; exact cmpT_ok
    have k2 : bOk 729 (bs (cmpT Q.data.toList U.data.toList)).data.toList = true := by rw [bs_list]; exact cmpT_ok
    have k3 : bOk 729 (bs (opT (· || ·) Q.data.toList U.data.toList)).data.toList = true := by rw [bs_list]; exact opT_ok
    have k4 : bOk 729 (bs (cmpT P.data.toList U.data.toList)).data.toList = true := by rw [bs_list]; exact cmpT_ok
    have TA := Lib.hid (fun w => ppThen_any (bs (cmpT P.data.toList Q.data.toList)) U z1 hU' w)
    rw [thenR_yes k1 hu, bs_list, cmpT_assoc] at TA
    have TB := Lib.hid (fun w => ppThen_any Q U hQ' hU' w)
    rw [thenR_yes hq hu] at TB
    have TC := Lib.hid (fun w => ppThen_any P (bs (cmpT Q.data.toList U.data.toList)) hP' z2 w)
    rw [thenR_yes hp k2, bs_list] at TC
    have OA := Lib.hid (fun w => ppOrRel_any Q U hQ' hU' w)
    rw [bothR_yes _ hq hu] at OA
    have TD := Lib.hid (fun w => ppThen_any P (bs (opT (· || ·) Q.data.toList U.data.toList)) hP' z3 w)
    rw [thenR_yes hp k3, bs_list, cmpT_or] at TD
    have TE := Lib.hid (fun w => ppThen_any P U hP' hU' w)
    rw [thenR_yes hp hu] at TE
    have OB := Lib.hid (fun w => ppOrRel_any (bs (cmpT P.data.toList Q.data.toList)) (bs (cmpT P.data.toList U.data.toList)) z1 z4 w)
    rw [bothR_yes _ k1 k4, bs_list, bs_list] at OB
    have HP : Hid (∀ j k, j < 27 → k < 27 → ∀ w, Calls Try.prog 21 #[.string P, .agg #[.int .i64 (stX j), .int .i64 (stY j), .int .i64 (stZ j)], .agg #[.int .i64 (stX k), .int .i64 (stY k), .int .i64 (stZ k)]] w fun e w' => (e = .returned (.bool (ro P.data.toList j k)) ∧ Below w.heap.size w w')) := Lib.hid (fun j k hj hk w => HasPair_any P hp j k hj hk w)
    have HQ : Hid (∀ j k, j < 27 → k < 27 → ∀ w, Calls Try.prog 21 #[.string Q, .agg #[.int .i64 (stX j), .int .i64 (stY j), .int .i64 (stZ j)], .agg #[.int .i64 (stX k), .int .i64 (stY k), .int .i64 (stZ k)]] w fun e w' => (e = .returned (.bool (ro Q.data.toList j k)) ∧ Below w.heap.size w w')) := Lib.hid (fun j k hj hk w => HasPair_any Q hq j k hj hk w)
    have HX : Hid (∀ j k, j < 27 → k < 27 → ∀ w, Calls Try.prog 21 #[.string (bs (cmpT P.data.toList Q.data.toList)), .agg #[.int .i64 (stX j), .int .i64 (stY j), .int .i64 (stZ j)], .agg #[.int .i64 (stX k), .int .i64 (stY k), .int .i64 (stZ k)]] w fun e w' => (e = .returned (.bool (soF (ro P.data.toList) (ro Q.data.toList) j k 27)) ∧ Below w.heap.size w w')) := Lib.hid (fun j k hj hk w => by
      have h := HasPair_any (bs (cmpT P.data.toList Q.data.toList)) k1 j k hj hk w
      rw [bs_list, ro_cmp hj hk] at h
      exact h)
    simp only [optB] at TA TB TC OA TD TE OB
    clear k1 k2 k3 k4 z1 z2 z3 z4 hp hq hpq hu
    generalize bs (cmpT P.data.toList (cmpT Q.data.toList U.data.toList)) = E at *
    generalize bs (opT (· || ·) (cmpT P.data.toList Q.data.toList) (cmpT P.data.toList U.data.toList)) = F at *
    generalize bs (cmpT P.data.toList U.data.toList) = G at *
    generalize bs (opT (· || ·) Q.data.toList U.data.toList) = O at *
    generalize bs (cmpT Q.data.toList U.data.toList) = R at *
    generalize bs (cmpT P.data.toList Q.data.toList) = X at *
    generalize ro P.data.toList = ra at *
    generalize ro Q.data.toList = rb at *
    have q1 : (X.toList != X.toList) = false := by simp
    have q2 : (X.toList == X.toList) = true := by simp
    have q3 : (E.toList == E.toList) = true := by simp
    have q4 : (F.toList == F.toList) = true := by simp
    go_wp2_with fail
    refine (V.out _).mono ?_
    rintro e w' ⟨rfl, rfl⟩
    go_wp2_with fail
    refine (ppStates_any _).mono ?_
    rintro e w9 ⟨g, cap, hcap, rfl, hs⟩
    have HH : Hid (Sit w w9 (sts g)) := Lib.hid ⟨below_2 B4.out hs.below, hs.cells⟩
    clear hs V B4
    go_wp2_with fail
    go_loopg [13] 27 (fun gk sv wr => ∃ n : Nat, n + gk = 27 ∧ sv = .int .i64 n ∧ Hid (Sit w wr (sts g)))
    case atStart => exact ⟨0, rfl, rfl, HH⟩
    case round =>
      clear HH
      obtain ⟨n, hn, rfl, HH⟩ := hrel
      obtain ⟨go, hgo⟩ : ∃ n, n = gk := ⟨_, rfl⟩
      rw [← hgo] at hn
      by_cases hlt : n < 27
      · obtain ⟨m, hm⟩ : ∃ m, (n * 7 + len1) % 27 = m := ⟨_, rfl⟩
        have hm27 : m < 27 := by omega
        have hxn : (n : Int) < 27 := by omega
        have hxm : (m : Int) < 27 := by omega
        have hxl : (len1 : Int) ≤ 1048576 := by omega
        have g1 : IntKind.i64.wrap ((n : Int) * 7) = (n : Int) * 7 := IntWalk.i64_in _ (by omega)
        have g2 : IntKind.i64.wrap ((n : Int) * 7 + (len1 : Int)) = (n : Int) * 7 + len1 := IntWalk.i64_in _ (by omega)
        have g3 : ((n : Int) * 7 + (len1 : Int)) % 27 = (m : Int) := by omega
        obtain ⟨d0, d1, d2⟩ := sts_x HH.out hlt
        obtain ⟨e0, e1, e2⟩ := sts_x (HH.out.alloc (.cells #[.int .i64 (stX n), .int .i64 (stY n), .int .i64 (stZ n)] 32)) hm27
        have H3 := Lib.hid ((HH.out.box3 (a := .int .i64 (stX n)) (b := .int .i64 (stY n)) (c := .int .i64 (stZ n)) 32).box3 (a := .int .i64 (stX m)) (b := .int .i64 (stY m)) (c := .int .i64 (stZ m)) 32)
        obtain ⟨p, hpb⟩ : ∃ p, wr.heap.size = p := ⟨_, rfl⟩
        have hpq : (wr.alloc (.cells #[.int .i64 (stX n), .int .i64 (stY n), .int .i64 (stZ n)] 32)).heap.size = p + 1 := by simp [hpb]
        rw [hpq, hpb] at H3
        clear hm HH
        go_wp2_with fail
        clear d0 d1 d2 e0 e1 e2 hpq hpb
        go_loopg [16, 17] 27 (fun gk sv iv wr => ∃ k : Nat, k + gk = 27 ∧ iv = .int .i64 k ∧ sv = .bool (soF ra rb n m k) ∧ Hid (Sit w wr ((⟨p + 1, 0, none⟩, .int .i64 (stX m)) :: (⟨p + 1, 1, none⟩, .int .i64 (stY m)) :: (⟨p + 1, 2, none⟩, .int .i64 (stZ m)) :: (⟨p, 0, none⟩, .int .i64 (stX n)) :: (⟨p, 1, none⟩, .int .i64 (stY n)) :: (⟨p, 2, none⟩, .int .i64 (stZ n)) :: sts g)))
        case atStart => exact ⟨0, rfl, rfl, rfl, H3⟩
        case round =>
          clear H3
          obtain ⟨k, hk, rfl, rfl, HH⟩ := hrel
          by_cases hlk : k < 27
          · have CP := Lib.hid (HP.out n k hlt hlk)
            have CQ := Lib.hid (HQ.out k m hlk hm27)
            have hxk : (k : Int) < 27 := by omega
            obtain ⟨r1, h1⟩ : ∃ r, soF ra rb n m k = r := ⟨_, rfl⟩
            obtain ⟨x1, h2⟩ : ∃ r, ra n k = r := ⟨_, rfl⟩
            obtain ⟨x2, h3⟩ : ∃ r, rb k m = r := ⟨_, rfl⟩
            have hs := Lib.hid (soF_succ ra rb n m k)
            rw [h1, h2, h3] at hs
            rw [h2] at CP
            rw [h3] at CQ
            rw [h1]
            have H := HH.out
            clear HH h1 h2 h3
            cases r1
            · cases x1
              · skip
                go_wp2_with fail
                refine region_class (fun W => Sit w W ((⟨p + 1, 0, none⟩, .int .i64 (stX m)) :: (⟨p + 1, 1, none⟩, .int .i64 (stY m)) :: (⟨p + 1, 2, none⟩, .int .i64 (stZ m)) :: (⟨p, 0, none⟩, .int .i64 (stX n)) :: (⟨p, 1, none⟩, .int .i64 (stY n)) :: (⟨p, 2, none⟩, .int .i64 (stZ n)) :: sts g)) (by kernel_rfl) (by kernel_rfl) H.drew ?_
                repeat (first | go_big_quiet_skip | (go_big_quiet_want; first | (apply quiet_value; (· (intro W hW; (have c0 := hW.get (p := ⟨p + 1, 0, none⟩) (v := .int .i64 (stX m)) (by simp); have c1 := hW.get (p := ⟨p + 1, 1, none⟩) (v := .int .i64 (stY m)) (by simp); have c2 := hW.get (p := ⟨p + 1, 2, none⟩) (v := .int .i64 (stZ m)) (by simp); have c3 := hW.get (p := ⟨p, 0, none⟩) (v := .int .i64 (stX n)) (by simp); have c4 := hW.get (p := ⟨p, 1, none⟩) (v := .int .i64 (stY n)) (by simp); have c5 := hW.get (p := ⟨p, 2, none⟩) (v := .int .i64 (stZ n)) (by simp); obtain ⟨d0, d1, d2⟩ := sts_x (hW.less (l' := sts g) (fun p hp => List.mem_cons_of_mem _ (List.mem_cons_of_mem _ (List.mem_cons_of_mem _ (List.mem_cons_of_mem _ (List.mem_cons_of_mem _ (List.mem_cons_of_mem _ hp))))))) hlk); go_simp; exact rfl)); simp only [Act.put, List.setIfInBounds_toArray, List.set_cons_zero, List.set_cons_succ]; go_big_quiet_on) | (apply quiet_call; (· (intro W hW; go_simp; exact ⟨rfl, rfl⟩)); (· (intro W hW; first | with_reducible exact ((CP.out W)).mono fun _ _ h => ⟨h.1, hW.call h.2⟩ | with_reducible exact ((CQ.out W)).mono fun _ _ h => ⟨h.1, hW.call h.2⟩)); simp only [Act.put, List.setIfInBounds_toArray, List.set_cons_zero, List.set_cons_succ]; go_big_quiet_on)))
                refine wpQuiet_nil ?_
                intro wq hq
                clear H
                have H := hq
                clear hq
                go_wp2_with fail
                go_roundg (gk - 1)
                case measure => omega
                case rel => exact ⟨k + 1, by omega, by go_num, by rw [hs.out]; rfl, Lib.hid H⟩
              · cases x2
                · skip
                  go_wp2_with fail
                  refine region_class (fun W => Sit w W ((⟨p + 1, 0, none⟩, .int .i64 (stX m)) :: (⟨p + 1, 1, none⟩, .int .i64 (stY m)) :: (⟨p + 1, 2, none⟩, .int .i64 (stZ m)) :: (⟨p, 0, none⟩, .int .i64 (stX n)) :: (⟨p, 1, none⟩, .int .i64 (stY n)) :: (⟨p, 2, none⟩, .int .i64 (stZ n)) :: sts g)) (by kernel_rfl) (by kernel_rfl) H.drew ?_
                  repeat (first | go_big_quiet_skip | (go_big_quiet_want; first | (apply quiet_value; (· (intro W hW; (have c0 := hW.get (p := ⟨p + 1, 0, none⟩) (v := .int .i64 (stX m)) (by simp); have c1 := hW.get (p := ⟨p + 1, 1, none⟩) (v := .int .i64 (stY m)) (by simp); have c2 := hW.get (p := ⟨p + 1, 2, none⟩) (v := .int .i64 (stZ m)) (by simp); have c3 := hW.get (p := ⟨p, 0, none⟩) (v := .int .i64 (stX n)) (by simp); have c4 := hW.get (p := ⟨p, 1, none⟩) (v := .int .i64 (stY n)) (by simp); have c5 := hW.get (p := ⟨p, 2, none⟩) (v := .int .i64 (stZ n)) (by simp); obtain ⟨d0, d1, d2⟩ := sts_x (hW.less (l' := sts g) (fun p hp => List.mem_cons_of_mem _ (List.mem_cons_of_mem _ (List.mem_cons_of_mem _ (List.mem_cons_of_mem _ (List.mem_cons_of_mem _ (List.mem_cons_of_mem _ hp))))))) hlk); go_simp; exact rfl)); simp only [Act.put, List.setIfInBounds_toArray, List.set_cons_zero, List.set_cons_succ]; go_big_quiet_on) | (apply quiet_call; (· (intro W hW; go_simp; exact ⟨rfl, rfl⟩)); (· (intro W hW; first | with_reducible exact ((CP.out W)).mono fun _ _ h => ⟨h.1, hW.call h.2⟩ | with_reducible exact ((CQ.out W)).mono fun _ _ h => ⟨h.1, hW.call h.2⟩)); simp only [Act.put, List.setIfInBounds_toArray, List.set_cons_zero, List.set_cons_succ]; go_big_quiet_on)))
                  refine wpQuiet_nil ?_
                  intro wq hq
                  clear H
                  have H := hq
                  clear hq
                  go_wp2_with fail
                  go_roundg (gk - 1)
                  case measure => omega
                  case rel => exact ⟨k + 1, by omega, by go_num, by rw [hs.out]; rfl, Lib.hid H⟩
                · skip
                  go_wp2_with fail
                  refine region_class (fun W => Sit w W ((⟨p + 1, 0, none⟩, .int .i64 (stX m)) :: (⟨p + 1, 1, none⟩, .int .i64 (stY m)) :: (⟨p + 1, 2, none⟩, .int .i64 (stZ m)) :: (⟨p, 0, none⟩, .int .i64 (stX n)) :: (⟨p, 1, none⟩, .int .i64 (stY n)) :: (⟨p, 2, none⟩, .int .i64 (stZ n)) :: sts g)) (by kernel_rfl) (by kernel_rfl) H.drew ?_
                  repeat (first | go_big_quiet_skip | (go_big_quiet_want; first | (apply quiet_value; (· (intro W hW; (have c0 := hW.get (p := ⟨p + 1, 0, none⟩) (v := .int .i64 (stX m)) (by simp); have c1 := hW.get (p := ⟨p + 1, 1, none⟩) (v := .int .i64 (stY m)) (by simp); have c2 := hW.get (p := ⟨p + 1, 2, none⟩) (v := .int .i64 (stZ m)) (by simp); have c3 := hW.get (p := ⟨p, 0, none⟩) (v := .int .i64 (stX n)) (by simp); have c4 := hW.get (p := ⟨p, 1, none⟩) (v := .int .i64 (stY n)) (by simp); have c5 := hW.get (p := ⟨p, 2, none⟩) (v := .int .i64 (stZ n)) (by simp); obtain ⟨d0, d1, d2⟩ := sts_x (hW.less (l' := sts g) (fun p hp => List.mem_cons_of_mem _ (List.mem_cons_of_mem _ (List.mem_cons_of_mem _ (List.mem_cons_of_mem _ (List.mem_cons_of_mem _ (List.mem_cons_of_mem _ hp))))))) hlk); go_simp; exact rfl)); simp only [Act.put, List.setIfInBounds_toArray, List.set_cons_zero, List.set_cons_succ]; go_big_quiet_on) | (apply quiet_call; (· (intro W hW; go_simp; exact ⟨rfl, rfl⟩)); (· (intro W hW; first | with_reducible exact ((CP.out W)).mono fun _ _ h => ⟨h.1, hW.call h.2⟩ | with_reducible exact ((CQ.out W)).mono fun _ _ h => ⟨h.1, hW.call h.2⟩)); simp only [Act.put, List.setIfInBounds_toArray, List.set_cons_zero, List.set_cons_succ]; go_big_quiet_on)))
                  refine wpQuiet_nil ?_
                  intro wq hq
                  clear H
                  have H := hq
                  clear hq
                  go_wp2_with fail
                  go_roundg (gk - 1)
                  case measure => omega
                  case rel => exact ⟨k + 1, by omega, by go_num, by rw [hs.out]; rfl, Lib.hid H⟩
            · skip
              go_wp2_with fail
              refine region_class (fun W => Sit w W ((⟨p + 1, 0, none⟩, .int .i64 (stX m)) :: (⟨p + 1, 1, none⟩, .int .i64 (stY m)) :: (⟨p + 1, 2, none⟩, .int .i64 (stZ m)) :: (⟨p, 0, none⟩, .int .i64 (stX n)) :: (⟨p, 1, none⟩, .int .i64 (stY n)) :: (⟨p, 2, none⟩, .int .i64 (stZ n)) :: sts g)) (by kernel_rfl) (by kernel_rfl) H.drew ?_
              repeat (first | go_big_quiet_skip | (go_big_quiet_want; first | (apply quiet_value; (· (intro W hW; (have c0 := hW.get (p := ⟨p + 1, 0, none⟩) (v := .int .i64 (stX m)) (by simp); have c1 := hW.get (p := ⟨p + 1, 1, none⟩) (v := .int .i64 (stY m)) (by simp); have c2 := hW.get (p := ⟨p + 1, 2, none⟩) (v := .int .i64 (stZ m)) (by simp); have c3 := hW.get (p := ⟨p, 0, none⟩) (v := .int .i64 (stX n)) (by simp); have c4 := hW.get (p := ⟨p, 1, none⟩) (v := .int .i64 (stY n)) (by simp); have c5 := hW.get (p := ⟨p, 2, none⟩) (v := .int .i64 (stZ n)) (by simp); obtain ⟨d0, d1, d2⟩ := sts_x (hW.less (l' := sts g) (fun p hp => List.mem_cons_of_mem _ (List.mem_cons_of_mem _ (List.mem_cons_of_mem _ (List.mem_cons_of_mem _ (List.mem_cons_of_mem _ (List.mem_cons_of_mem _ hp))))))) hlk); go_simp; exact rfl)); simp only [Act.put, List.setIfInBounds_toArray, List.set_cons_zero, List.set_cons_succ]; go_big_quiet_on) | (apply quiet_call; (· (intro W hW; go_simp; exact ⟨rfl, rfl⟩)); (· (intro W hW; first | with_reducible exact ((CP.out W)).mono fun _ _ h => ⟨h.1, hW.call h.2⟩ | with_reducible exact ((CQ.out W)).mono fun _ _ h => ⟨h.1, hW.call h.2⟩)); simp only [Act.put, List.setIfInBounds_toArray, List.set_cons_zero, List.set_cons_succ]; go_big_quiet_on)))
              refine wpQuiet_nil ?_
              intro wq hq
              clear H
              have H := hq
              clear hq
              go_wp2_with fail
              go_roundg (gk - 1)
              case measure => omega
              case rel => exact ⟨k + 1, by omega, by go_num, by rw [hs.out]; rfl, Lib.hid H⟩
          · obtain rfl : k = 27 := by omega
            have CX := Lib.hid (HX.out n m hlt hm27)
            generalize soF ra rb n m 27 = rv at *
            have q5 : (rv != rv) = false := by simp
            have H0 := HH.out
            have c0 := H0.get (p := ⟨p + 1, 0, none⟩) (v := .int .i64 (stX m)) (by simp)
            have c1 := H0.get (p := ⟨p + 1, 1, none⟩) (v := .int .i64 (stY m)) (by simp)
            have c2 := H0.get (p := ⟨p + 1, 2, none⟩) (v := .int .i64 (stZ m)) (by simp)
            have c3 := H0.get (p := ⟨p, 0, none⟩) (v := .int .i64 (stX n)) (by simp)
            have c4 := H0.get (p := ⟨p, 1, none⟩) (v := .int .i64 (stY n)) (by simp)
            have c5 := H0.get (p := ⟨p, 2, none⟩) (v := .int .i64 (stZ n)) (by simp)
            clear H0
            go_wp2_with fail
            refine (CX.out _).mono ?_
            rintro e w11 ⟨rfl, hb⟩
            have S1 := Lib.hid ((HH.out.call hb).less (l' := sts g) (fun p hp => List.mem_cons_of_mem _ (List.mem_cons_of_mem _ (List.mem_cons_of_mem _ (List.mem_cons_of_mem _ (List.mem_cons_of_mem _ (List.mem_cons_of_mem _ hp)))))))
            clear hb c0 c1 c2 c3 c4 c5 HH
            go_wp2_with fail
            go_roundg (go - 1)
            case measure => omega
            case rel => exact ⟨n + 1, by omega, by go_num, S1⟩
      · have BE := Lib.hid HH.out.below
        clear HH HP HQ HX
        go_wp2_with fail
        refine (TA.out _).mono ?_
        rintro e w21 ⟨rfl, hb21⟩
        have B21 : Hid (Below w.heap.size w w21) := by first | exact Lib.hid (below_2 BE.out hb21) | exact Lib.hid (below_a1 BE.out hb21) | exact Lib.hid (below_a2 BE.out hb21) | exact Lib.hid (below_a3 BE.out hb21)
        clear hb21
        go_wp2_with fail
        refine (TB.out _).mono ?_
        rintro e w22 ⟨rfl, hb22⟩
        have B22 : Hid (Below w.heap.size w w22) := by first | exact Lib.hid (below_2 B21.out hb22) | exact Lib.hid (below_a1 B21.out hb22) | exact Lib.hid (below_a2 B21.out hb22) | exact Lib.hid (below_a3 B21.out hb22)
        clear hb22
        go_wp2_with fail
        refine (TC.out _).mono ?_
        rintro e w23 ⟨rfl, hb23⟩
        have B23 : Hid (Below w.heap.size w w23) := by first | exact Lib.hid (below_2 B22.out hb23) | exact Lib.hid (below_a1 B22.out hb23) | exact Lib.hid (below_a2 B22.out hb23) | exact Lib.hid (below_a3 B22.out hb23)
        clear hb23
        go_wp2_with fail
        refine (OA.out _).mono ?_
        rintro e w24 ⟨rfl, hb24⟩
        have B24 : Hid (Below w.heap.size w w24) := by first | exact Lib.hid (below_2 B23.out hb24) | exact Lib.hid (below_a1 B23.out hb24) | exact Lib.hid (below_a2 B23.out hb24) | exact Lib.hid (below_a3 B23.out hb24)
        clear hb24
        go_wp2_with fail
        refine (TD.out _).mono ?_
        rintro e w25 ⟨rfl, hb25⟩
        have B25 : Hid (Below w.heap.size w w25) := by first | exact Lib.hid (below_2 B24.out hb25) | exact Lib.hid (below_a1 B24.out hb25) | exact Lib.hid (below_a2 B24.out hb25) | exact Lib.hid (below_a3 B24.out hb25)
        clear hb25
        go_wp2_with fail
        refine (TE.out _).mono ?_
        rintro e w26 ⟨rfl, hb26⟩
        have B26 : Hid (Below w.heap.size w w26) := by first | exact Lib.hid (below_2 B25.out hb26) | exact Lib.hid (below_a1 B25.out hb26) | exact Lib.hid (below_a2 B25.out hb26) | exact Lib.hid (below_a3 B25.out hb26)
        clear hb26
        go_wp2_with fail
        refine (OB.out _).mono ?_
        rintro e w27 ⟨rfl, hb27⟩
        have B27 : Hid (Below w.heap.size w w27) := by first | exact Lib.hid (below_2 B26.out hb27) | exact Lib.hid (below_a1 B26.out hb27) | exact Lib.hid (below_a2 B26.out hb27) | exact Lib.hid (below_a3 B26.out hb27)
        clear hb27
        go_wp2_with fail
        go_ret
        exact ⟨ret_bool (by first | rfl | simp), B27.out⟩

end Go.Proofs.Ythdgheglmkhcbaa.fnCompose
