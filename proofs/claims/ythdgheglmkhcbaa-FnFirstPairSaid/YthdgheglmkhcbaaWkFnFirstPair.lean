/- The walk of the law FnFirstPair. -/
import Derived.Test.YthdgheglmkhcbaaDs
namespace Go.Proofs.Ythdgheglmkhcbaa.fnFirstPair
open Go.ChangeShapes Go.WideShapes Go.ChangeAt Go.RowKit
open Pl
set_option linter.unusedVariables false
theorem Sit.app {w w2 W : World} {l l2 : List (Addr × Value)} (H : Sit w W l) (H2 : Sit w2 W l2) : Sit w W (l ++ l2) :=
  ⟨H.below, fun p hp => (List.mem_append.1 hp).elim (H.cells p) (H2.cells p)⟩
theorem bt_none {l : List UInt8} (h : bOk 729 l = true) (h2 : fpO l = none) : ∀ n, n < 729 → bt l n = false := by
  by_cases hn : fnd l 49 < 0
  · exact cnt_zero.1 ((fnd_cntR h).1 hn)
  · obtain ⟨k, _, h3, _⟩ := fp_pos h hn
    rw [h2] at h3; cases h3
theorem bt_some {l : List UInt8} {k : Nat} (h : bOk 729 l = true) (h2 : fpO l = some k) : k < 729 ∧ bt l k = true ∧ ∀ j, j < k → bt l j = false := by
  by_cases hn : fnd l 49 < 0
  · rw [fp_neg h hn] at h2; cases h2
  · obtain ⟨k', _, h3, h4⟩ := fp_pos h hn
    rw [h3] at h2; cases h2
    exact h4
set_option maxRecDepth 100000 in
set_option maxHeartbeats 16000000 in
theorem walk (a0 : Option Addr) (len0 cap0 : Nat) (w : World) (hb0 : Bytes w a0 len0 w.heap.size) (hl0 : len0 ≤ cap0) (hc0 : cap0 ≤ 9223372036854775807) :
    Calls Try.prog 5 #[.slice a0 len0 cap0] w fun e w' => e = .returned (.bool true) ∧ Below w.heap.size w w' := by
  by_cases hbig : 1048576 < len0
  · clear hb0
    go_enter Try.func5, Try.ntmps5
    go_wp2_with fail
    go_ret
    exact ⟨rfl, by first | exact Below.refl _ _ | exact below_n _ _ | exact (below_n _ _).alloc (by simp) _⟩
  have D := Lib.hid (DrawFirstPair_any a0 len0 cap0 w (by omega) hl0 hb0)
  clear hb0
  go_enter Try.func5, Try.ntmps5
  go_wp2_with fail
  refine D.out.mono ?_
  rintro e w1 ⟨P, hP, rfl, hb1⟩
  have B1 := Lib.hid hb1
  clear D hb1
  have hP' : P.size ≤ 1000000000000 := by omega
  have FX := Lib.hid (fun w => FirstPair_any P (by omega) w)
  have FS := Lib.hid (fun w => FirstPairS_any P (by omega) w)
  have V := Lib.hid (fun w => RelValid_any P hP' w)
  have C1 := Lib.hid (fun w => CountRel_any P hP' w)
  unfold fpV at FX FS
  obtain ⟨a1, ha1⟩ : ∃ x, oX ((fpO P.data.toList).map (· / 27)) = x := ⟨_, rfl⟩
  obtain ⟨a2, ha2⟩ : ∃ x, oY ((fpO P.data.toList).map (· / 27)) = x := ⟨_, rfl⟩
  obtain ⟨a3, ha3⟩ : ∃ x, oZ ((fpO P.data.toList).map (· / 27)) = x := ⟨_, rfl⟩
  obtain ⟨b1, hb1⟩ : ∃ x, oX ((fpO P.data.toList).map (· % 27)) = x := ⟨_, rfl⟩
  obtain ⟨b2, hb2⟩ : ∃ x, oY ((fpO P.data.toList).map (· % 27)) = x := ⟨_, rfl⟩
  obtain ⟨b3, hb3⟩ : ∃ x, oZ ((fpO P.data.toList).map (· % 27)) = x := ⟨_, rfl⟩
  obtain ⟨fo, hfo⟩ : ∃ x, (fpO P.data.toList).isSome = x := ⟨_, rfl⟩
  rw [ha1, ha2, ha3, hb1, hb2, hb3, hfo] at FX FS
  have EQ := Lib.hid (And.intro ha1 (And.intro ha2 (And.intro ha3 (And.intro hb1 (And.intro hb2 (And.intro hb3 hfo))))))
  clear ha1 ha2 ha3 hb1 hb2 hb3 hfo
  have q0 : (fo != fo) = false := by simp
  have q00 : (fo == fo) = true := by simp
  go_wp2_with fail
  refine (FX.out _).mono ?_
  rintro e w2 ⟨rfl, hw2⟩
  have H2 : Hid (Sit w w2 []) := Lib.hid ⟨below_2 B1.out hw2, fun p hp => by simp at hp⟩
  clear hw2 FX B1
  obtain ⟨p, hpb⟩ : ∃ p, w2.heap.size = p := ⟨_, rfl⟩
  have H2 := Lib.hid ((H2.out.box3 (a := .int .i64 a1) (b := .int .i64 a2) (c := .int .i64 a3) 32).box3 (a := .int .i64 b1) (b := .int .i64 b2) (c := .int .i64 b3) 32)
  have hpq : (w2.alloc (.cells #[.int .i64 a1, .int .i64 a2, .int .i64 a3] 32)).heap.size = p + 1 := by simp [hpb]
  rw [hpq, hpb] at H2
  clear hpq
  go_wp2_with fail
  refine (FS.out _).mono ?_
  rintro e w3 ⟨rfl, hw3⟩
  have H3 := Lib.hid (H2.out.call hw3)
  clear hw3 FS H2 hpb
  obtain ⟨r, hrb⟩ : ∃ p, w3.heap.size = p := ⟨_, rfl⟩
  have H9 := Lib.hid ((H3.out.box3 (a := .int .i64 a1) (b := .int .i64 a2) (c := .int .i64 a3) 32).box3 (a := .int .i64 b1) (b := .int .i64 b2) (c := .int .i64 b3) 32)
  have hpq : (w3.alloc (.cells #[.int .i64 a1, .int .i64 a2, .int .i64 a3] 32)).heap.size = r + 1 := by simp [hrb]
  rw [hpq, hrb] at H9
  clear hpq H3
  have c0 := H9.out.get (p := ⟨r + 1, 0, none⟩) (v := .int .i64 b1) (by simp)
  have c1 := H9.out.get (p := ⟨r + 1, 1, none⟩) (v := .int .i64 b2) (by simp)
  have c2 := H9.out.get (p := ⟨r + 1, 2, none⟩) (v := .int .i64 b3) (by simp)
  have c3 := H9.out.get (p := ⟨r, 0, none⟩) (v := .int .i64 a1) (by simp)
  have c4 := H9.out.get (p := ⟨r, 1, none⟩) (v := .int .i64 a2) (by simp)
  have c5 := H9.out.get (p := ⟨r, 2, none⟩) (v := .int .i64 a3) (by simp)
  have c6 := H9.out.get (p := ⟨p + 1, 0, none⟩) (v := .int .i64 b1) (by simp)
  have c7 := H9.out.get (p := ⟨p + 1, 1, none⟩) (v := .int .i64 b2) (by simp)
  have c8 := H9.out.get (p := ⟨p + 1, 2, none⟩) (v := .int .i64 b3) (by simp)
  have c9 := H9.out.get (p := ⟨p, 0, none⟩) (v := .int .i64 a1) (by simp)
  have c10 := H9.out.get (p := ⟨p, 1, none⟩) (v := .int .i64 a2) (by simp)
  have c11 := H9.out.get (p := ⟨p, 2, none⟩) (v := .int .i64 a3) (by simp)
  cases hp : bOk 729 P.data.toList
  · rw [hp] at V
    clear hp
    go_wp2_with fail
    refine (V.out _).mono ?_
    rintro e w' ⟨rfl, rfl⟩
    go_wp2_with fail
    go_ret
    exact ⟨ret_bool (by first | rfl | simp), H9.out.below⟩
  rw [hp] at V
  have HS : Hid (∀ i j, i < 27 → j < 27 → ∀ w, Calls Try.prog 21 #[.string P, .agg #[.int .i64 (stX i), .int .i64 (stY i), .int .i64 (stZ i)], .agg #[.int .i64 (stX j), .int .i64 (stY j), .int .i64 (stZ j)]] w fun e w' => (e = .returned (.bool (bt P.data.toList (27 * i + j))) ∧ Below w.heap.size w w')) := Lib.hid (fun i j hi hj w => HasPair_any P hp i j hi hj w)
  obtain ⟨c, hc⟩ : ∃ c, cnt 729 (bt P.data.toList) = c := ⟨_, rfl⟩
  have hcc : cntRO P.data.toList = (c : Int) := by rw [← hc]; unfold cntRO; rw [hp]; rfl
  rw [hcc] at C1
  have HC := Lib.hid hc
  have q1 : ((c : Int) == (c : Int)) = true := by simp
  have HPP := Lib.hid hp
  clear hp hc hcc
  go_wp2_with fail
  refine (V.out _).mono ?_
  rintro e w' ⟨rfl, rfl⟩
  go_wp2_with fail
  refine (ppStates_any _).mono ?_
  rintro e w9 ⟨g, cap, hcap, rfl, hs⟩
  have HH : Hid (Sit w w9 ((⟨p + 1, 0, none⟩, .int .i64 b1) :: (⟨p + 1, 1, none⟩, .int .i64 b2) :: (⟨p + 1, 2, none⟩, .int .i64 b3) :: (⟨p, 0, none⟩, .int .i64 a1) :: (⟨p, 1, none⟩, .int .i64 a2) :: (⟨p, 2, none⟩, .int .i64 a3) :: sts g)) := Lib.hid (Sit.app ((H9.out.call hs.below).less (l' := (⟨p + 1, 0, none⟩, .int .i64 b1) :: (⟨p + 1, 1, none⟩, .int .i64 b2) :: (⟨p + 1, 2, none⟩, .int .i64 b3) :: (⟨p, 0, none⟩, .int .i64 a1) :: (⟨p, 1, none⟩, .int .i64 a2) :: (⟨p, 2, none⟩, .int .i64 a3) :: []) (fun p hp => List.mem_cons_of_mem _ (List.mem_cons_of_mem _ (List.mem_cons_of_mem _ (List.mem_cons_of_mem _ (List.mem_cons_of_mem _ (List.mem_cons_of_mem _ (hp)))))))) hs)
  clear hs V H9 hrb c0 c1 c2 c3 c4 c5 c6 c7 c8 c9 c10 c11
  cases ho : fpO P.data.toList with
  | none =>
    have HZ := Lib.hid (bt_none HPP.out ho)
    have h0 : c = 0 := by rw [← HC.out]; exact cnt_zero.2 HZ.out
    have hf : fo = false := by have := EQ.out.2.2.2.2.2.2; rw [ho] at this; exact this.symm
    subst h0 hf
    clear ho EQ HC HPP
    go_wp2_with fail
    go_loopg [11, 12] 27 (fun gk n i wr => ∃ a m : Nat, a + gk = 27 ∧ i = .int .i64 a ∧ n = .int .i64 m ∧ m ≤ 27 * a ∧ Hid (cnt (27 * a) (bt P.data.toList) = m) ∧ Hid (Sit w wr ((⟨p + 1, 0, none⟩, .int .i64 b1) :: (⟨p + 1, 1, none⟩, .int .i64 b2) :: (⟨p + 1, 2, none⟩, .int .i64 b3) :: (⟨p, 0, none⟩, .int .i64 a1) :: (⟨p, 1, none⟩, .int .i64 a2) :: (⟨p, 2, none⟩, .int .i64 a3) :: sts g)))
    case atStart => exact ⟨0, 0, rfl, rfl, rfl, Nat.le_refl _, Lib.hid rfl, HH⟩
    case round =>
      clear HH
      obtain ⟨a, m, ha, rfl, rfl, hm, HM, HH⟩ := hrel
      obtain ⟨go, hgo⟩ : ∃ n, n = gk := ⟨_, rfl⟩
      rw [← hgo] at ha
      by_cases hla : a < 27
      · have HM0 : Hid (cnt (27 * a + 0) (bt P.data.toList) = m) := HM
        go_wp2_with fail
        go_loopg [11, 13] 27 (fun gk n i wr => ∃ b m : Nat, b + gk = 27 ∧ i = .int .i64 b ∧ n = .int .i64 m ∧ m ≤ 27 * a + b ∧ Hid (cnt (27 * a + b) (bt P.data.toList) = m) ∧ Hid (Sit w wr ((⟨p + 1, 0, none⟩, .int .i64 b1) :: (⟨p + 1, 1, none⟩, .int .i64 b2) :: (⟨p + 1, 2, none⟩, .int .i64 b3) :: (⟨p, 0, none⟩, .int .i64 a1) :: (⟨p, 1, none⟩, .int .i64 a2) :: (⟨p, 2, none⟩, .int .i64 a3) :: sts g)))
        case atStart => exact ⟨0, m, rfl, rfl, rfl, hm, HM0, HH⟩
        case round =>
          clear HH HM HM0 hm
          obtain ⟨b, m, hb, rfl, rfl, hm, HM, HH⟩ := hrel
          by_cases hlb : b < 27
          · have HV := Lib.hid (HS.out a b hla hlb)
            have hs := cnt_succ (27 * a + b) (bt P.data.toList)
            rw [HM.out] at hs
            have hxa : (a : Int) < 27 := by omega
            have hxb : (b : Int) < 27 := by omega
            have H := HH.out
            clear HH
            have hz := HZ.out (27 * a + b) (by omega)
            rw [hz] at HV hs
            have HM2 : Hid (cnt (27 * a + (b + 1)) (bt P.data.toList) = m) := hs
            clear hz hs HM
            go_wp2_with fail
            refine region_class (fun W => Sit w W ((⟨p + 1, 0, none⟩, .int .i64 b1) :: (⟨p + 1, 1, none⟩, .int .i64 b2) :: (⟨p + 1, 2, none⟩, .int .i64 b3) :: (⟨p, 0, none⟩, .int .i64 a1) :: (⟨p, 1, none⟩, .int .i64 a2) :: (⟨p, 2, none⟩, .int .i64 a3) :: sts g)) (by kernel_rfl) (by kernel_rfl) H.drew ?_
            repeat (first | go_big_quiet_skip | (go_big_quiet_want; first | (apply quiet_value; (· (intro W hW; (obtain ⟨d0, d1, d2⟩ := sts_x (hW.less (l' := sts g) (fun p hp => List.mem_cons_of_mem _ (List.mem_cons_of_mem _ (List.mem_cons_of_mem _ (List.mem_cons_of_mem _ (List.mem_cons_of_mem _ (List.mem_cons_of_mem _ (hp)))))))) hla; obtain ⟨e0, e1, e2⟩ := sts_x (hW.less (l' := sts g) (fun p hp => List.mem_cons_of_mem _ (List.mem_cons_of_mem _ (List.mem_cons_of_mem _ (List.mem_cons_of_mem _ (List.mem_cons_of_mem _ (List.mem_cons_of_mem _ (hp)))))))) hlb); go_simp; exact rfl)); simp only [Act.put, List.setIfInBounds_toArray, List.set_cons_zero, List.set_cons_succ]; go_big_quiet_on) | (apply quiet_call; (· (intro W hW; go_simp; exact ⟨rfl, rfl⟩)); (· (intro W hW; first | with_reducible exact ((HV.out W)).mono fun _ _ h => ⟨h.1, hW.call h.2⟩)); simp only [Act.put, List.setIfInBounds_toArray, List.set_cons_zero, List.set_cons_succ]; go_big_quiet_on)))
            refine wpQuiet_nil ?_
            intro wq hq
            clear H
            have H := hq
            clear hq
            go_wp2_with fail
            go_roundg (gk - 1)
            case measure => omega
            case rel => exact ⟨b + 1, m, by omega, by go_num, by go_num, by omega, HM2, Lib.hid H⟩
          · obtain rfl : b = 27 := by omega
            have HM2 : Hid (cnt (27 * (a + 1)) (bt P.data.toList) = m) := Lib.hid (by rw [show 27 * (a + 1) = 27 * a + 27 by omega]; exact HM.out)
            clear HM
            go_wp2_with fail
            go_roundg (go - 1)
            case measure => omega
            case rel => exact ⟨a + 1, m, by omega, by go_num, by go_num, by omega, HM2, HH⟩
      · obtain rfl : a = 27 := by omega
        obtain rfl : m = 0 := HM.out.symm.trans (cnt_zero.2 HZ.out)
        have BE := Lib.hid HH.out.below
        clear HH HS HM HZ
        go_wp2_with fail
        refine (C1.out _).mono ?_
        rintro e w' ⟨rfl, rfl⟩
        go_wp2_with fail
        go_ret
        exact ⟨ret_bool (by first | rfl | simp), BE.out⟩
  | some k =>
    obtain ⟨h729, hbk, hlow⟩ := bt_some HPP.out ho
    obtain ⟨e1, e2, e3, e4, e5, e6, e7⟩ := EQ.out
    rw [ho] at e1 e2 e3 e4 e5 e6 e7
    have hf : fo = true := e7.symm
    have g1 : stX (k / 27) = a1 := e1
    have g2 : stY (k / 27) = a2 := e2
    have g3 : stZ (k / 27) = a3 := e3
    have g4 : stX (k % 27) = b1 := e4
    have g5 : stY (k % 27) = b2 := e5
    have g6 : stZ (k % 27) = b3 := e6
    subst hf
    clear e1 e2 e3 e4 e5 e6 e7 EQ ho
    obtain ⟨u, hu⟩ : ∃ u, k / 27 = u := ⟨_, rfl⟩
    obtain ⟨v, hv⟩ : ∃ u, k % 27 = u := ⟨_, rfl⟩
    rw [hu] at g1 g2 g3
    rw [hv] at g4 g5 g6
    have hu27 : u < 27 := by omega
    have hv27 : v < 27 := by omega
    have hk : 27 * u + v = k := by omega
    have SI1 := Lib.hid (fun w => StateIndex_any (stX u) (stY u) (stZ u) w)
    rw [numX hu27, g1, g2, g3] at SI1
    have SI2 := Lib.hid (fun w => StateIndex_any (stX v) (stY v) (stZ v) w)
    rw [numX hv27, g4, g5, g6] at SI2
    have HK := Lib.hid (fun w => HS.out u v hu27 hv27 w)
    rw [hk, hbk, g1, g2, g3, g4, g5, g6] at HK
    have hc0 : (0 : Int) < (c : Int) := by
      have : cnt 729 (bt P.data.toList) ≠ 0 := fun e => by have := cnt_zero.1 e k h729; rw [hbk] at this; cases this
      rw [HC.out] at this
      omega
    have HL := Lib.hid hlow
    have hxu : (u : Int) < 27 := by omega
    have hxv : (v : Int) < 27 := by omega
    clear g1 g2 g3 g4 g5 g6 hbk hlow hu hv HPP h729
    go_wp2_with fail
    go_loopg [11, 12] 27 (fun gk n i wr => ∃ a m : Nat, a + gk = 27 ∧ i = .int .i64 a ∧ n = .int .i64 m ∧ m ≤ 27 * a ∧ Hid (cnt (27 * a) (bt P.data.toList) = m) ∧ Hid (Sit w wr ((⟨p + 1, 0, none⟩, .int .i64 b1) :: (⟨p + 1, 1, none⟩, .int .i64 b2) :: (⟨p + 1, 2, none⟩, .int .i64 b3) :: (⟨p, 0, none⟩, .int .i64 a1) :: (⟨p, 1, none⟩, .int .i64 a2) :: (⟨p, 2, none⟩, .int .i64 a3) :: sts g)))
    case atStart => exact ⟨0, 0, rfl, rfl, rfl, Nat.le_refl _, Lib.hid rfl, HH⟩
    case round =>
      clear HH
      obtain ⟨a, m, ha, rfl, rfl, hm, HM, HH⟩ := hrel
      obtain ⟨go, hgo⟩ : ∃ n, n = gk := ⟨_, rfl⟩
      rw [← hgo] at ha
      by_cases hla : a < 27
      · have HM0 : Hid (cnt (27 * a + 0) (bt P.data.toList) = m) := HM
        go_wp2_with fail
        go_loopg [11, 13] 27 (fun gk n i wr => ∃ b m : Nat, b + gk = 27 ∧ i = .int .i64 b ∧ n = .int .i64 m ∧ m ≤ 27 * a + b ∧ Hid (cnt (27 * a + b) (bt P.data.toList) = m) ∧ Hid (Sit w wr ((⟨p + 1, 0, none⟩, .int .i64 b1) :: (⟨p + 1, 1, none⟩, .int .i64 b2) :: (⟨p + 1, 2, none⟩, .int .i64 b3) :: (⟨p, 0, none⟩, .int .i64 a1) :: (⟨p, 1, none⟩, .int .i64 a2) :: (⟨p, 2, none⟩, .int .i64 a3) :: sts g)))
        case atStart => exact ⟨0, m, rfl, rfl, rfl, hm, HM0, HH⟩
        case round =>
          clear HH HM HM0 hm
          obtain ⟨b, m, hb, rfl, rfl, hm, HM, HH⟩ := hrel
          by_cases hlb : b < 27
          · have HV := Lib.hid (HS.out a b hla hlb)
            have hs := cnt_succ (27 * a + b) (bt P.data.toList)
            rw [HM.out] at hs
            have hxa : (a : Int) < 27 := by omega
            have hxb : (b : Int) < 27 := by omega
            have H := HH.out
            clear HH
            cases hbb : bt P.data.toList (27 * a + b)
            · rw [hbb] at HV hs
              have HM2 : Hid (cnt (27 * a + (b + 1)) (bt P.data.toList) = m) := hs
              clear hbb hs HM
              go_wp2_with fail
              refine region_class (fun W => Sit w W ((⟨p + 1, 0, none⟩, .int .i64 b1) :: (⟨p + 1, 1, none⟩, .int .i64 b2) :: (⟨p + 1, 2, none⟩, .int .i64 b3) :: (⟨p, 0, none⟩, .int .i64 a1) :: (⟨p, 1, none⟩, .int .i64 a2) :: (⟨p, 2, none⟩, .int .i64 a3) :: sts g)) (by kernel_rfl) (by kernel_rfl) H.drew ?_
              repeat (first | go_big_quiet_skip | (go_big_quiet_want; first | (apply quiet_value; (· (intro W hW; (obtain ⟨d0, d1, d2⟩ := sts_x (hW.less (l' := sts g) (fun p hp => List.mem_cons_of_mem _ (List.mem_cons_of_mem _ (List.mem_cons_of_mem _ (List.mem_cons_of_mem _ (List.mem_cons_of_mem _ (List.mem_cons_of_mem _ (hp)))))))) hla; obtain ⟨e0, e1, e2⟩ := sts_x (hW.less (l' := sts g) (fun p hp => List.mem_cons_of_mem _ (List.mem_cons_of_mem _ (List.mem_cons_of_mem _ (List.mem_cons_of_mem _ (List.mem_cons_of_mem _ (List.mem_cons_of_mem _ (hp)))))))) hlb); go_simp; exact rfl)); simp only [Act.put, List.setIfInBounds_toArray, List.set_cons_zero, List.set_cons_succ]; go_big_quiet_on) | (apply quiet_call; (· (intro W hW; go_simp; exact ⟨rfl, rfl⟩)); (· (intro W hW; first | with_reducible exact ((HV.out W)).mono fun _ _ h => ⟨h.1, hW.call h.2⟩)); simp only [Act.put, List.setIfInBounds_toArray, List.set_cons_zero, List.set_cons_succ]; go_big_quiet_on)))
              refine wpQuiet_nil ?_
              intro wq hq
              clear H
              have H := hq
              clear hq
              go_wp2_with fail
              go_roundg (gk - 1)
              case measure => omega
              case rel => exact ⟨b + 1, m, by omega, by go_num, by go_num, by omega, HM2, Lib.hid H⟩
            · have hkn : k ≤ 27 * a + b := Nat.le_of_not_lt (fun h => by have := HL.out _ h; rw [hbb] at this; cases this)
              rw [hbb] at HV hs
              have HM2 : Hid (cnt (27 * a + (b + 1)) (bt P.data.toList) = m + 1) := hs
              clear hbb hs HM
              go_wp2_with fail
              refine region_class (fun W => Sit w W ((⟨p + 1, 0, none⟩, .int .i64 b1) :: (⟨p + 1, 1, none⟩, .int .i64 b2) :: (⟨p + 1, 2, none⟩, .int .i64 b3) :: (⟨p, 0, none⟩, .int .i64 a1) :: (⟨p, 1, none⟩, .int .i64 a2) :: (⟨p, 2, none⟩, .int .i64 a3) :: sts g)) (by kernel_rfl) (by kernel_rfl) H.drew ?_
              repeat (first | go_big_quiet_skip | (go_big_quiet_want; first | (apply quiet_value; (· (intro W hW; (obtain ⟨d0, d1, d2⟩ := sts_x (hW.less (l' := sts g) (fun p hp => List.mem_cons_of_mem _ (List.mem_cons_of_mem _ (List.mem_cons_of_mem _ (List.mem_cons_of_mem _ (List.mem_cons_of_mem _ (List.mem_cons_of_mem _ (hp)))))))) hla; obtain ⟨e0, e1, e2⟩ := sts_x (hW.less (l' := sts g) (fun p hp => List.mem_cons_of_mem _ (List.mem_cons_of_mem _ (List.mem_cons_of_mem _ (List.mem_cons_of_mem _ (List.mem_cons_of_mem _ (List.mem_cons_of_mem _ (hp)))))))) hlb); go_simp; exact rfl)); simp only [Act.put, List.setIfInBounds_toArray, List.set_cons_zero, List.set_cons_succ]; go_big_quiet_on) | (apply quiet_call; (· (intro W hW; go_simp; exact ⟨rfl, rfl⟩)); (· (intro W hW; first | with_reducible exact ((HV.out W)).mono fun _ _ h => ⟨h.1, hW.call h.2⟩)); simp only [Act.put, List.setIfInBounds_toArray, List.set_cons_zero, List.set_cons_succ]; go_big_quiet_on)))
              refine wpQuiet_nil ?_
              intro wq hq
              clear H
              have H := hq
              clear hq
              have r1 : IntKind.i64.wrap (27 * (a : Int)) = 27 * (a : Int) := IntWalk.i64_in _ (by omega)
              have r2 : IntKind.i64.wrap (27 * (a : Int) + (b : Int)) = 27 * (a : Int) + b := IntWalk.i64_in _ (by omega)
              have r3 : IntKind.i64.wrap (27 * (u : Int)) = 27 * (u : Int) := IntWalk.i64_in _ (by omega)
              have r4 : IntKind.i64.wrap (27 * (u : Int) + (v : Int)) = 27 * (u : Int) + v := IntWalk.i64_in _ (by omega)
              have r5 : decide (27 * (a : Int) + (b : Int) < 27 * (u : Int) + (v : Int)) = false := by simp; omega
              go_wp2_with fail
              refine region_class (fun W => Sit w W ((⟨p + 1, 0, none⟩, .int .i64 b1) :: (⟨p + 1, 1, none⟩, .int .i64 b2) :: (⟨p + 1, 2, none⟩, .int .i64 b3) :: (⟨p, 0, none⟩, .int .i64 a1) :: (⟨p, 1, none⟩, .int .i64 a2) :: (⟨p, 2, none⟩, .int .i64 a3) :: sts g)) (by kernel_rfl) (by kernel_rfl) H.drew ?_
              repeat (first | go_big_quiet_skip | (go_big_quiet_want; first | (apply quiet_value; (· (intro W hW; (have c0 := hW.get (p := ⟨p + 1, 0, none⟩) (v := .int .i64 b1) (by simp); have c1 := hW.get (p := ⟨p + 1, 1, none⟩) (v := .int .i64 b2) (by simp); have c2 := hW.get (p := ⟨p + 1, 2, none⟩) (v := .int .i64 b3) (by simp); have c3 := hW.get (p := ⟨p, 0, none⟩) (v := .int .i64 a1) (by simp); have c4 := hW.get (p := ⟨p, 1, none⟩) (v := .int .i64 a2) (by simp); have c5 := hW.get (p := ⟨p, 2, none⟩) (v := .int .i64 a3) (by simp)); go_simp; exact rfl)); simp only [Act.put, List.setIfInBounds_toArray, List.set_cons_zero, List.set_cons_succ]; go_big_quiet_on) | (apply quiet_call; (· (intro W hW; go_simp; exact ⟨rfl, rfl⟩)); (· (intro W hW; first | with_reducible exact ((SI1.out W)).mono fun _ _ h => ⟨h.1, hW.call h.2⟩ | with_reducible exact ((SI2.out W)).mono fun _ _ h => ⟨h.1, hW.call h.2⟩)); simp only [Act.put, List.setIfInBounds_toArray, List.set_cons_zero, List.set_cons_succ]; go_big_quiet_on)))
              refine wpQuiet_nil ?_
              intro wq hq
              clear H
              have H := hq
              clear hq
              go_wp2_with fail
              go_roundg (gk - 1)
              case measure => omega
              case rel => exact ⟨b + 1, m + 1, by omega, by go_num, by go_num, by omega, HM2, Lib.hid H⟩
          · obtain rfl : b = 27 := by omega
            have HM2 : Hid (cnt (27 * (a + 1)) (bt P.data.toList) = m) := Lib.hid (by rw [show 27 * (a + 1) = 27 * a + 27 by omega]; exact HM.out)
            clear HM
            go_wp2_with fail
            go_roundg (go - 1)
            case measure => omega
            case rel => exact ⟨a + 1, m, by omega, by go_num, by go_num, by omega, HM2, HH⟩
      · obtain rfl : a = 27 := by omega
        obtain rfl : c = m := HC.out.symm.trans HM.out
        have BE := Lib.hid HH.out.below
        have H0 := HH.out
        have c0 := H0.get (p := ⟨p + 1, 0, none⟩) (v := .int .i64 b1) (by simp)
        have c1 := H0.get (p := ⟨p + 1, 1, none⟩) (v := .int .i64 b2) (by simp)
        have c2 := H0.get (p := ⟨p + 1, 2, none⟩) (v := .int .i64 b3) (by simp)
        have c3 := H0.get (p := ⟨p, 0, none⟩) (v := .int .i64 a1) (by simp)
        have c4 := H0.get (p := ⟨p, 1, none⟩) (v := .int .i64 a2) (by simp)
        have c5 := H0.get (p := ⟨p, 2, none⟩) (v := .int .i64 a3) (by simp)
        clear HH HS HM HL H0 HC SI1 SI2
        go_wp2_with fail
        refine (C1.out _).mono ?_
        rintro e w' ⟨rfl, rfl⟩
        go_wp2_with fail
        refine (HK.out _).mono ?_
        rintro e w12 ⟨rfl, hb⟩
        have B9 := Lib.hid (below_2 BE.out hb)
        clear hb c0 c1 c2 c3 c4 c5
        go_wp2_with fail
        go_ret
        exact ⟨ret_bool (by first | rfl | simp), B9.out⟩

end Go.Proofs.Ythdgheglmkhcbaa.fnFirstPair
