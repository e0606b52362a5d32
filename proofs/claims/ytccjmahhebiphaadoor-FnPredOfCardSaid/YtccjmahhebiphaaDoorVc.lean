/- The variables on which a set depends, on both sides. -/
import Derived.Test.YtccjmahhebiphaaDoorVb
namespace Go.Proofs.YtccjmahhebiphaaDoor
open Go.RowKit
open Pl

theorem bt_ne {P : ByteArray} (hp : bOk 27 P.data.toList = true) {i j : Nat} (hi : i < P.size) (hj : j < P.size) : ((P[i].toNat : Int) != (P[j].toNat : Int)) = (bt P.data.toList i != bt P.data.toList j) := by
  cases h1 : bt P.data.toList i <;> cases h2 : bt P.data.toList j
  · rw [bt_zero hp hi h1, bt_zero hp hj h2]; rfl
  · rw [bt_zero hp hi h1, bt_yes hj h2]; rfl
  · rw [bt_yes hi h1, bt_zero hp hj h2]; rfl
  · rw [bt_yes hi h1, bt_yes hj h2]; rfl
theorem pvL_bad {l : List UInt8} (h : bOk 27 l = false) : pvL l = [] := by unfold pvL; rw [h]; rfl
theorem pvL_good {l : List UInt8} (h : bOk 27 l = true) : pvL l = nmsN.filter (dep (bt l)) := by unfold pvL; rw [h]; rfl
set_option maxRecDepth 100000 in
set_option maxHeartbeats 16000000 in
theorem PredVars_any (P : ByteArray) (hP : P.size ≤ 1000000000000) (w : World) (hs : Str w) : Calls Tryd.prog 12 #[.string P] w fun e w' => (e = .returned (.string (bs (pvL P.data.toList))) ∧ Below w.heap.size w w') := by
  have PV := Lib.hid (fun w => PredValid_any P hP w)
  cases hp : bOk 27 P.data.toList
  · rw [pvL_bad hp]
    rw [hp] at PV
    go_enter Tryd.func12, Tryd.ntmps12
    go_wp2_with fail
    refine (PV.out _).mono ?_
    rintro e w' ⟨rfl, rfl⟩
    go_wp2_with fail
    go_ret
    exact ⟨rfl, Below.refl _ _⟩
  · rw [pvL_good hp]
    rw [hp] at PV
    have z0 := ok_size hp
    have HP := Lib.hid hp
    have WV := Lib.hid (fun c hc i hi n hn w hs => withValue_any c hc i hi n hn w hs)
    have H0 := Lib.hid hs.sit
    obtain ⟨bb, hbb⟩ : ∃ f : Nat → Bool, bt P.data.toList = f := ⟨_, rfl⟩
    have HN : Hid (∀ i j (hi : i < P.size) (hj : j < P.size), ((P[i].toNat : Int) != (P[j].toNat : Int)) = (bb i != bb j)) := Lib.hid (fun i j hi hj => by rw [← hbb]; exact bt_ne HP.out hi hj)
    rw [hbb]
    clear hbb hp HP hs
    go_enter Tryd.func12, Tryd.ntmps12
    go_wp2_with fail
    refine (PV.out _).mono ?_
    rintro e w' ⟨rfl, rfl⟩
    clear PV
    go_wp2_with fail
    go_loopg [3, 4] 3 (fun gk so i wr => ∃ (k : Nat) (T : ByteArray), k + gk = 3 ∧ i = .int .i64 k ∧ so = .string T ∧ T.size ≤ k ∧ Hid (T.data.toList = (nmsN.take k).filter (dep bb)) ∧ Hid (Sit w wr strs))
    case atStart => exact ⟨0, ⟨#[]⟩, rfl, rfl, rfl, by decide, Lib.hid rfl, H0⟩
    case round =>
      clear H0
      obtain ⟨k, T, hk, rfl, rfl, hT, HT, HH⟩ := hrel
      obtain ⟨go, hgo⟩ : ∃ n, n = gk := ⟨_, rfl⟩
      rw [← hgo] at hk
      by_cases hlt : k < 3
      · have hdk : decide ((k : Int) < 3) = true := by simp; omega
        have t1 : T.size + 1 ≤ 9223372036854775807 := by omega
        obtain ⟨c, hc, hck⟩ : ∃ c, ∃ h : k < nmsN.length, nmsN[k] = c := ⟨_, by simpa [nmsN] using hlt, rfl⟩
        have hcm : c ∈ nmsN := hck ▸ List.getElem_mem hc
        have hcf : fnd nmsN c = (k : Int) := by
          have hc3 : k = 0 ∨ k = 1 ∨ k = 2 := by omega
          rcases hc3 with rfl | rfl | rfl
          · rw [show c = 120 from hck.symm]; decide
          · rw [show c = 121 from hck.symm]; decide
          · rw [show c = 122 from hck.symm]; decide
        have hsn := filter_snoc hlt (dep bb)
        rw [hck, ← HT.out] at hsn
        have HSN := Lib.hid hsn
        have WC := Lib.hid (fun i hi n hn w hs => WV.out c hcm i hi n hn w hs)
        rw [hcf] at WC
        have hc0 : (k = 0 ∧ c = 120) ∨ (k = 1 ∧ c = 121) ∨ (k = 2 ∧ c = 122) := by
          have hc3 : k = 0 ∨ k = 1 ∨ k = 2 := by omega
          rcases hc3 with rfl | rfl | rfl
          · exact .inl ⟨rfl, hck.symm⟩
          · exact .inr (.inl ⟨rfl, hck.symm⟩)
          · exact .inr (.inr ⟨rfl, hck.symm⟩)
        have HC0 := Lib.hid hc0
        clear hsn hc hck hcm hcf hc0 HT
        go_wp2_with fail
        try rw [hdk]
        go_loopg [5, 6] 27 (fun gk f i wr => ∃ a : Nat, a + gk = 27 ∧ i = .int .i64 a ∧ f = .bool (fdN bb c (3 * a)) ∧ Hid (Sit w wr strs))
        case atStart => exact ⟨0, rfl, rfl, rfl, HH⟩
        case round =>
          clear HH
          obtain ⟨a, ha, rfl, rfl, HH⟩ := hrel
          obtain ⟨gi, hgi⟩ : ∃ n, n = gk := ⟨_, rfl⟩
          rw [← hgi] at ha
          by_cases hla : a < 27
          · have hda : decide ((a : Int) < 27) = true := by simp; omega
            have ga : a < P.size := by omega
            go_wp2_with fail
            try rw [hda]
            go_loopg [5, 7] 3 (fun gk f n wr => ∃ m : Nat, m + gk = 3 ∧ n = .int .i64 m ∧ f = .bool (fdN bb c (3 * a + m)) ∧ Hid (Sit w wr strs))
            case atStart => exact ⟨0, rfl, rfl, rfl, HH⟩
            case round =>
              clear HH
              obtain ⟨m, hm, rfl, rfl, HH⟩ := hrel
              by_cases hlm : m < 3
              · have hxm : (m : Int) < 3 := by omega
                have hnm : small (m : Int) := ⟨by omega, by omega⟩
                have hl := wv_lt (c := c) hla hnm
                have hfs := fdN_succ (b := bb) (c := c) (m := 3 * a + m)
                rw [show (3 * a + m) / 3 = a by omega, show (3 * a + m) % 3 = m by omega] at hfs
                have WA := Lib.hid (fun w hs => WC.out a hla (m : Int) hnm w hs)
                obtain ⟨xa, hxa⟩ : ∃ x, wv c a (m : Int) = x := ⟨_, rfl⟩
                rw [hxa] at hl hfs WA
                have gx : xa < P.size := by omega
                have hne := HN.out a xa ga gx
                clear hxa
                obtain ⟨ca, hca⟩ : ∃ c, P[a] = c := ⟨_, rfl⟩
                obtain ⟨cx, hcx⟩ : ∃ c, P[xa] = c := ⟨_, rfl⟩
                rw [hca, hcx] at hne
                have HFS := Lib.hid hfs
                generalize fdN bb c (3 * a + m) = f0 at *
                have H := HH.out
                cases f0
                · generalize (bb a != bb xa) = d0 at *
                  clear hfs hl HH z0
                  go_wp2_with fail
                  refine region_class (fun W => Sit w W strs) (by kernel_rfl) (by kernel_rfl) H.drew ?_
                  repeat (first | go_big_quiet_skip | (go_big_quiet_want; first | (apply quiet_value; (· (intro W hW; skip; go_simp; exact rfl)); simp only [Act.put, List.setIfInBounds_toArray, List.set_cons_zero, List.set_cons_succ]; go_big_quiet_on) | (apply quiet_call; (· (intro W hW; go_simp; exact ⟨rfl, rfl⟩)); (· (intro W hW; first | with_reducible exact ((WA.out W (hW.str (fun _ h => h)))).mono fun _ _ h => ⟨h.1, hW.call h.2⟩)); simp only [Act.put, List.setIfInBounds_toArray, List.set_cons_zero, List.set_cons_succ]; go_big_quiet_on)))
                  refine wpQuiet_nil ?_
                  intro wq hq
                  clear H
                  have H := hq
                  clear hq
                  go_wp2_with fail
                  go_roundg (gk - 1)
                  case measure => omega
                  case rel => exact ⟨m + 1, by omega, by go_num, by rw [show 3 * a + (m + 1) = 3 * a + m + 1 from rfl, HFS.out]; cases d0 <;> rfl, H⟩
                · clear hfs hl HH hne z0
                  go_wp2_with fail
                  refine region_class (fun W => Sit w W strs) (by kernel_rfl) (by kernel_rfl) H.drew ?_
                  repeat (first | go_big_quiet_skip | (go_big_quiet_want; first | (apply quiet_value; (· (intro W hW; skip; go_simp; exact rfl)); simp only [Act.put, List.setIfInBounds_toArray, List.set_cons_zero, List.set_cons_succ]; go_big_quiet_on) | (apply quiet_call; (· (intro W hW; go_simp; exact ⟨rfl, rfl⟩)); (· (intro W hW; first | with_reducible exact ((WA.out W (hW.str (fun _ h => h)))).mono fun _ _ h => ⟨h.1, hW.call h.2⟩)); simp only [Act.put, List.setIfInBounds_toArray, List.set_cons_zero, List.set_cons_succ]; go_big_quiet_on)))
                  refine wpQuiet_nil ?_
                  intro wq hq
                  clear H
                  have H := hq
                  clear hq
                  go_wp2_with fail
                  go_roundg (gk - 1)
                  case measure => omega
                  case rel => exact ⟨m + 1, by omega, by go_num, by rw [show 3 * a + (m + 1) = 3 * a + m + 1 from rfl, HFS.out]; simp, H⟩
              · obtain rfl : m = 3 := by omega
                go_wp2_with fail
                go_roundg (gi - 1)
                case measure => omega
                case rel => exact ⟨a + 1, by omega, by go_num, by rw [show 3 * (a + 1) = 3 * a + 3 by omega], HH⟩
          · obtain rfl : a = 27 := by omega
            rw [show 3 * 27 = 81 from rfl, fdN_all]
            rcases HC0.out with ⟨rfl, rfl⟩ | ⟨rfl, rfl⟩ | ⟨rfl, rfl⟩
            · cases hd : dep bb 120
              all_goals
                have HS2 := Lib.hid HSN.out
                rw [hd] at HS2
                clear hd HSN WC
                have hu : Utf8.encode 120 = ⟨#[120]⟩ := by kernel_rfl
                go_wp2_with fail
                go_roundg (go - 1)
                case measure => omega
                case rel => exact ⟨1, _, by omega, by go_num, rfl, by first | omega | (rw [ByteArray.size_append]; show T.size + 1 ≤ _; omega), Lib.hid (by show _ = _; rw [HS2.out]; simp), HH⟩
            · cases hd : dep bb 121
              all_goals
                have HS2 := Lib.hid HSN.out
                rw [hd] at HS2
                clear hd HSN WC
                have hu : Utf8.encode 121 = ⟨#[121]⟩ := by kernel_rfl
                go_wp2_with fail
                go_roundg (go - 1)
                case measure => omega
                case rel => exact ⟨2, _, by omega, by go_num, rfl, by first | omega | (rw [ByteArray.size_append]; show T.size + 1 ≤ _; omega), Lib.hid (by show _ = _; rw [HS2.out]; simp), HH⟩
            · cases hd : dep bb 122
              all_goals
                have HS2 := Lib.hid HSN.out
                rw [hd] at HS2
                clear hd HSN WC
                have hu : Utf8.encode 122 = ⟨#[122]⟩ := by kernel_rfl
                go_wp2_with fail
                go_roundg (go - 1)
                case measure => omega
                case rel => exact ⟨3, _, by omega, by go_num, rfl, by first | omega | (rw [ByteArray.size_append]; show T.size + 1 ≤ _; omega), Lib.hid (by show _ = _; rw [HS2.out]; simp), HH⟩
      · obtain rfl : k = 3 := by omega
        have hE : T = bs (nmsN.filter (dep bb)) := by
          rw [← bs_of T, HT.out]; rfl
        have HE := Lib.hid hE
        clear hE HT
        go_wp2_with fail
        go_ret
        exact ⟨by rw [HE.out]; rfl, HH.out.below⟩
set_option maxRecDepth 100000 in
set_option maxHeartbeats 16000000 in
theorem PredVarsS_any (P : ByteArray) (hP : P.size ≤ 1000000000000) (w : World) : Calls Tryd.prog 13 #[.string P] w fun e w' => (e = .returned (.string (bs (pvL P.data.toList))) ∧ Below w.heap.size w w') := by
  have PV := Lib.hid (fun w => PredValidS_any P hP w)
  cases hp : bOk 27 P.data.toList
  · rw [pvL_bad hp]
    rw [hp] at PV
    go_enter Tryd.func13, Tryd.ntmps13
    go_wp2_with fail
    go_loopg [3, 4] 0 (fun gk so i wr => gk = 0 ∧ so = .string ⟨#[]⟩ ∧ i = .int .i64 0 ∧ wr = w)
    case atStart => exact ⟨rfl, rfl, rfl, rfl⟩
    case round =>
      obtain ⟨rfl, rfl, rfl, rfl⟩ := hrel
      go_wp2_with fail
      refine (PV.out _).mono ?_
      rintro e w' ⟨rfl, rfl⟩
      go_wp2_with fail
      go_ret
      exact ⟨rfl, Below.refl _ _⟩
  · rw [pvL_good hp]
    rw [hp] at PV
    have z0 := ok_size hp
    have HP := Lib.hid hp
    have AT := Lib.hid (fun i (hi : i < 27) w => l2At_any i hi w)
    have WI := Lib.hid (fun c hc i (n : Int) w => l2With_any (stX i) (stY i) (stZ i) n c hc w)
    have IX := Lib.hid (fun c i (hi : i < 27) n (hn : small n) w => idx_wv (c := c) (i := i) (n := n) hi hn w)
    have H0 : Hid (Sit w w []) := Lib.hid (Sit.refl w)
    obtain ⟨bb, hbb⟩ : ∃ f : Nat → Bool, bt P.data.toList = f := ⟨_, rfl⟩
    have HN : Hid (∀ i j (hi : i < P.size) (hj : j < P.size), ((P[i].toNat : Int) != (P[j].toNat : Int)) = (bb i != bb j)) := Lib.hid (fun i j hi hj => by rw [← hbb]; exact bt_ne HP.out hi hj)
    rw [hbb]
    clear hbb hp HP
    go_enter Tryd.func13, Tryd.ntmps13
    go_wp2_with fail
    go_loopg [3, 4] 3 (fun gk so i wr => ∃ (k : Nat) (T : ByteArray), k + gk = 3 ∧ i = .int .i64 k ∧ so = .string T ∧ T.size ≤ k ∧ Hid (T.data.toList = (nmsN.take k).filter (dep bb)) ∧ Hid (Sit w wr []))
    case atStart => exact ⟨0, ⟨#[]⟩, rfl, rfl, rfl, by decide, Lib.hid rfl, H0⟩
    case round =>
      clear H0
      obtain ⟨k, T, hk, rfl, rfl, hT, HT, HH⟩ := hrel
      obtain ⟨go, hgo⟩ : ∃ n, n = gk := ⟨_, rfl⟩
      rw [← hgo] at hk
      by_cases hlt : k < 3
      · have hdk : decide ((k : Int) < 3) = true := by simp; omega
        have t1 : T.size + 1 ≤ 9223372036854775807 := by omega
        obtain ⟨c, hc, hck⟩ : ∃ c, ∃ h : k < nmsN.length, nmsN[k] = c := ⟨_, by simpa [nmsN] using hlt, rfl⟩
        have hcm : c ∈ nmsN := hck ▸ List.getElem_mem hc
        have hcf : fnd nmsN c = (k : Int) := by
          have hc3 : k = 0 ∨ k = 1 ∨ k = 2 := by omega
          rcases hc3 with rfl | rfl | rfl
          · rw [show c = 120 from hck.symm]; decide
          · rw [show c = 121 from hck.symm]; decide
          · rw [show c = 122 from hck.symm]; decide
        have hsn := filter_snoc hlt (dep bb)
        rw [hck, ← HT.out] at hsn
        have HSN := Lib.hid hsn
        have WC := Lib.hid (fun i n w => WI.out c hcm i n w)
        rw [hcf] at WC
        have IC := Lib.hid (fun i hi w => IX.out c i hi 0 sm0 w)
        have hc0 : (k = 0 ∧ c = 120) ∨ (k = 1 ∧ c = 121) ∨ (k = 2 ∧ c = 122) := by
          have hc3 : k = 0 ∨ k = 1 ∨ k = 2 := by omega
          rcases hc3 with rfl | rfl | rfl
          · exact .inl ⟨rfl, hck.symm⟩
          · exact .inr (.inl ⟨rfl, hck.symm⟩)
          · exact .inr (.inr ⟨rfl, hck.symm⟩)
        have HC0 := Lib.hid hc0
        clear hsn hc hck hcm hcf hc0 HT
        go_wp2_with fail
        refine (PV.out _).mono ?_
        rintro e w' ⟨rfl, rfl⟩
        go_wp2_with fail
        try rw [hdk]
        go_loopg [5, 6] 27 (fun gk f i wr => ∃ a : Nat, a + gk = 27 ∧ i = .int .i64 a ∧ f = .bool (rdp bb c a) ∧ Hid (Sit w wr []))
        case atStart => exact ⟨0, rfl, rfl, rfl, HH⟩
        case round =>
          clear HH
          obtain ⟨a, ha, rfl, rfl, HH⟩ := hrel
          by_cases hla : a < 27
          · have hxa : (a : Int) < 27 := by omega
            have ga : a < P.size := by omega
            have hl := wv_lt (c := c) hla sm0
            have hfs := rdp_succ (b := bb) (c := c) (m := a)
            have AA := Lib.hid (fun w => AT.out a hla w)
            have WA := Lib.hid (fun w => WC.out a 0 w)
            have IA := Lib.hid (fun w => IC.out a hla w)
            obtain ⟨xa, hxa⟩ : ∃ x, wv c a 0 = x := ⟨_, rfl⟩
            rw [hxa] at hl hfs IA
            have gx : xa < P.size := by omega
            have hne := HN.out a xa ga gx
            clear hxa
            obtain ⟨ca, hca⟩ : ∃ c, P[a] = c := ⟨_, rfl⟩
            obtain ⟨cx, hcx⟩ : ∃ c, P[xa] = c := ⟨_, rfl⟩
            rw [hca, hcx] at hne
            generalize put1 c 120 0 (stX a) = p1 at *
            generalize put1 c 121 0 (stY a) = p2 at *
            generalize put1 c 122 0 (stZ a) = p3 at *
            generalize stX a = x at *
            generalize stY a = y at *
            generalize stZ a = z at *
            have HFS := Lib.hid hfs
            generalize rdp bb c a = f0 at *
            have H := HH.out
            cases f0
            · generalize (bb a != bb xa) = d0 at *
              clear hfs hl HH z0
              go_wp2_with fail
              refine region_class (fun W => Sit w W []) (by kernel_rfl) (by kernel_rfl) H.drew ?_
              repeat (first | go_big_quiet_skip | (go_big_quiet_want; first | (apply quiet_value; (· (intro W hW; skip; go_simp; exact rfl)); simp only [Act.put, List.setIfInBounds_toArray, List.set_cons_zero, List.set_cons_succ]; go_big_quiet_on) | (apply quiet_call; (· (intro W hW; go_simp; exact ⟨rfl, rfl⟩)); (· (intro W hW; first | with_reducible exact (AA.out W).mono fun _ _ h => ⟨h.1, hW.call h.2⟩ | with_reducible exact (WA.out W).mono fun _ _ h => ⟨h.1, hW.call h.2⟩ | with_reducible exact (IA.out W).mono fun _ _ h => ⟨h.1, hW.call h.2⟩)); simp only [Act.put, List.setIfInBounds_toArray, List.set_cons_zero, List.set_cons_succ]; go_big_quiet_on)))
              refine wpQuiet_nil ?_
              intro wq hq
              clear H
              have H := hq
              clear hq
              go_wp2_with fail
              go_roundg (gk - 1)
              case measure => omega
              case rel => exact ⟨a + 1, by omega, by go_num, by rw [HFS.out]; cases d0 <;> rfl, H⟩
            · clear hfs hl HH hne z0
              go_wp2_with fail
              refine region_class (fun W => Sit w W []) (by kernel_rfl) (by kernel_rfl) H.drew ?_
              repeat (first | go_big_quiet_skip | (go_big_quiet_want; first | (apply quiet_value; (· (intro W hW; skip; go_simp; exact rfl)); simp only [Act.put, List.setIfInBounds_toArray, List.set_cons_zero, List.set_cons_succ]; go_big_quiet_on) | (apply quiet_call; (· (intro W hW; go_simp; exact ⟨rfl, rfl⟩)); (· (intro W hW; first | with_reducible exact (AA.out W).mono fun _ _ h => ⟨h.1, hW.call h.2⟩ | with_reducible exact (WA.out W).mono fun _ _ h => ⟨h.1, hW.call h.2⟩ | with_reducible exact (IA.out W).mono fun _ _ h => ⟨h.1, hW.call h.2⟩)); simp only [Act.put, List.setIfInBounds_toArray, List.set_cons_zero, List.set_cons_succ]; go_big_quiet_on)))
              refine wpQuiet_nil ?_
              intro wq hq
              clear H
              have H := hq
              clear hq
              go_wp2_with fail
              go_roundg (gk - 1)
              case measure => omega
              case rel => exact ⟨a + 1, by omega, by go_num, by rw [HFS.out]; simp, H⟩
          · obtain rfl : a = 27 := by omega
            rw [rdp_all]
            rcases HC0.out with ⟨rfl, rfl⟩ | ⟨rfl, rfl⟩ | ⟨rfl, rfl⟩
            · cases hd : dep bb 120
              all_goals
                have HS2 := Lib.hid HSN.out
                rw [hd] at HS2
                clear hd HSN WC
                have hu : Utf8.encode 120 = ⟨#[120]⟩ := by kernel_rfl
                go_wp2_with fail
                go_roundg (go - 1)
                case measure => omega
                case rel => exact ⟨1, _, by omega, by go_num, rfl, by first | omega | (rw [ByteArray.size_append]; show T.size + 1 ≤ _; omega), Lib.hid (by show _ = _; rw [HS2.out]; simp), HH⟩
            · cases hd : dep bb 121
              all_goals
                have HS2 := Lib.hid HSN.out
                rw [hd] at HS2
                clear hd HSN WC
                have hu : Utf8.encode 121 = ⟨#[121]⟩ := by kernel_rfl
                go_wp2_with fail
                go_roundg (go - 1)
                case measure => omega
                case rel => exact ⟨2, _, by omega, by go_num, rfl, by first | omega | (rw [ByteArray.size_append]; show T.size + 1 ≤ _; omega), Lib.hid (by show _ = _; rw [HS2.out]; simp), HH⟩
            · cases hd : dep bb 122
              all_goals
                have HS2 := Lib.hid HSN.out
                rw [hd] at HS2
                clear hd HSN WC
                have hu : Utf8.encode 122 = ⟨#[122]⟩ := by kernel_rfl
                go_wp2_with fail
                go_roundg (go - 1)
                case measure => omega
                case rel => exact ⟨3, _, by omega, by go_num, rfl, by first | omega | (rw [ByteArray.size_append]; show T.size + 1 ≤ _; omega), Lib.hid (by show _ = _; rw [HS2.out]; simp), HH⟩
      · obtain rfl : k = 3 := by omega
        have hE : T = bs (nmsN.filter (dep bb)) := by
          rw [← bs_of T, HT.out]; rfl
        have HE := Lib.hid hE
        clear hE HT
        go_wp2_with fail
        go_ret
        exact ⟨by rw [HE.out]; rfl, HH.out.below⟩
end Go.Proofs.YtccjmahhebiphaaDoor
