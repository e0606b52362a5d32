/- Sets before and after an assignment, the reference's. -/
import Derived.Test.YtccjmahhebiphaaDoorVf
import Derived.Test.YtccjmahhebiphaaDoorVb
import Derived.Test.YtccjmahhebiphaaDoorMany
namespace Go.Proofs.YtccjmahhebiphaaDoor
open Go.RowKit
open Pl
set_option linter.unusedVariables false

/-- only noughts -/
def Zs (l : List UInt8) : Prop := ∀ c ∈ l, c = 48
theorem Zs.app {A B : ByteArray} (hA : Zs A.data.toList) (hB : Zs B.data.toList) : Zs (A ++ B).data.toList := by
  intro c hc
  rw [ByteArray.data_append, Array.toList_append, List.mem_append] at hc
  rcases hc with h | h
  · exact hA c h
  · exact hB c h
set_option maxHeartbeats 2000000 in
theorem many_zeros (w : World) :
    Calls Tryd.prog 84 #[.string ⟨#[48]⟩, .int .i64 27] w fun e w' => ∃ T : ByteArray, T.data.toList = bitsN 27 (fun _ => false) ∧ e = .returned (.string T) ∧ w = w' := by
  have hfin : ∀ T : ByteArray, T.size = 27 → Zs T.data.toList → T.data.toList = bitsN 27 (fun _ => false) := by
    intro T hz hT
    apply List.ext_getElem
    · rw [len_S, hz, bits_len]
    · intro i h1 h2
      rw [hT _ (List.getElem_mem h1)]
      simp [bitsN, bitC]
  have HFIN := Lib.hid hfin
  clear hfin
  obtain ⟨Z0, hZ0, hZs⟩ : ∃ Z : ByteArray, ⟨#[48]⟩ = Z ∧ (Z.size = 1 ∧ Zs Z.data.toList) := ⟨_, rfl, rfl, by intro c hc; simpa using hc⟩
  rw [hZ0]
  obtain ⟨hz1, hz2⟩ := hZs
  have HZ2 := Lib.hid hz2
  clear hz2 hZ0
  go_enter Tryd.func84, Tryd.ntmps84
  go_wp2_with fail
  go_loop [0, 1, 5] (fun s i o => ∃ (k : Nat) (A T : ByteArray), k ≤ 27 ∧ i = .int .i64 k ∧ s = .string A ∧ o = .string T ∧ Hid (T.size + A.size * k = 27) ∧ Hid (Zs A.data.toList) ∧ Hid (Zs T.data.toList)) (fun _ i _ => (intOf i).toNat)
  case atStart => exact ⟨27, Z0, ⟨#[]⟩, by omega, rfl, rfl, rfl, by show 0 + _ = _; omega, HZ2, Lib.hid (by intro c hc; simp at hc)⟩
  case round =>
    obtain ⟨k, A, T, hkn, rfl, rfl, rfl, HT, ZA, ZT⟩ := hrel
    by_cases hlt : 0 < k
    · have hA : A.size ≤ 27 := by
        have := HT.out
        have h1 : A.size * 1 ≤ A.size * k := Nat.mul_le_mul_left _ hlt
        omega
      have hT : T.size ≤ 27 := by have := HT.out; omega
      have t1 : A.size + A.size ≤ 9223372036854775807 := by omega
      have t2 : T.size + A.size ≤ 9223372036854775807 := by omega
      have HH := Lib.hid (half_int k)
      have ZAA := Lib.hid (ZA.out.app ZA.out)
      by_cases hk : k % 2 = 1
      · have q0 : ((k : Int) % 2 == 1) = true := by simp; omega
        have HR : Hid ((T ++ A).size + (A ++ A).size * (k / 2) = 27) := by
          show _ = _
          rw [ByteArray.size_append, ByteArray.size_append, Nat.add_assoc, many_odd hk]
          exact HT.out
        have ZTA := Lib.hid (ZT.out.app ZA.out)
        clear hk HT ZA ZT
        go_wp2_with fail
        go_round
        case rel => exact ⟨k / 2, A ++ A, T ++ A, by omega, by first | rfl | rw [HH.out], rfl, rfl, HR, ZAA, ZTA⟩
        case measure => simp [intOf]; omega
      · have q0 : ((k : Int) % 2 == 1) = false := by simp; omega
        have HR : Hid (T.size + (A ++ A).size * (k / 2) = 27) := by
          show _ = _
          rw [ByteArray.size_append, many_even (by omega)]
          exact HT.out
        clear hk HT ZA
        go_wp2_with fail
        go_round
        case rel => exact ⟨k / 2, A ++ A, T, by omega, by first | rfl | rw [HH.out], rfl, rfl, HR, ZAA, ZT⟩
        case measure => simp [intOf]; omega
    · obtain rfl : k = 0 := by omega
      have hT : T.size = 27 := by have := HT.out; omega
      have HL := Lib.hid (HFIN.out T hT ZT.out)
      clear HT ZA ZT hT
      go_wp2_with fail
      go_ret
      exact ⟨T, HL.out, rfl, rfl⟩
theorem poN_set {c : UInt8} {k : Nd} {b : Nat → Bool} {m : Nat} (hb : b m = true) (hx : toA c k m < 27) : (bitsN 27 (poN c k b m)).set (toA c k m) 49 = bitsN 27 (poN c k b (m + 1)) := by
  apply List.ext_getElem
  · rw [List.length_set, bits_len, bits_len]
  · intro j h1 h2
    rw [bits_len] at h2
    rw [List.getElem_set]
    have e : ∀ f : Nat → Bool, ∀ h : j < (bitsN 27 f).length, (bitsN 27 f)[j] = bitC (f j) := fun f h => by simp [bitsN]
    rw [e (poN c k b (m + 1)), poN_succ]
    by_cases h : toA c k m = j
    · rw [if_pos h, h]
      simp [hb, bitC]
    · rw [if_neg h, e]
      have : (toA c k m == j) = false := by simpa using h
      rw [this]
      simp
theorem poN_keep {c : UInt8} {k : Nd} {b : Nat → Bool} {m : Nat} (hb : b m = false) : bitsN 27 (poN c k b m) = bitsN 27 (poN c k b (m + 1)) :=
  bits_congr (fun j _ => by rw [poN_succ, hb]; simp)
theorem poN_zero {c : UInt8} {k : Nd} {b : Nat → Bool} : bitsN 27 (fun _ => false) = bitsN 27 (poN c k b 0) := bits_congr (fun j _ => rfl)
set_option maxRecDepth 100000 in
set_option maxHeartbeats 8000000 in
theorem AssignPreS_any (P V E : ByteArray) (hP : P.size ≤ 1000000000000) (hV : V.size ≤ 1000000000000) (hE : E.size ≤ 1000000) (w : World) : Calls Tryd.prog 30 #[.string P, .string V, .string E] w fun e w' => (e = .returned (.tuple #[.string (bs (optB (asO P V E preF))), .bool (asO P V E preF).isSome]) ∧ Below w.heap.size w w') := by
  have PV := Lib.hid (fun w => PredValidS_any P hP w)
  have IV := Lib.hid (fun w => l1Var_any V hV w)
  have EV := Lib.hid (fun w => ExprValidS_any E w (by omega))
  cases hp : bOk 27 P.data.toList
  · rw [asO_bad hp]
    rw [hp] at PV
    simp only [optB, Option.isSome_none]
    go_enter Tryd.func30, Tryd.ntmps30
    go_wp2_with fail
    refine (PV.out _).mono ?_
    rintro e w' ⟨rfl, rfl⟩
    go_wp2_with fail
    go_ret2
    exact ⟨(by first | trivial | rfl), Below.refl _ _⟩
  · rw [hp] at PV
    cases hv : varOf V.data.toList with
    | none =>
      rw [asO_no (.inl hv)]
      rw [hv] at IV
      simp only [optB, Option.isSome_none, varNo] at IV ⊢
      go_enter Tryd.func30, Tryd.ntmps30
      go_wp2_with fail
      refine (PV.out _).mono ?_
      rintro e w' ⟨rfl, rfl⟩
      go_wp2_with fail
      refine (IV.out _).mono ?_
      rintro e w' ⟨rfl, rfl⟩
      go_wp2_with fail
      go_ret2
      exact ⟨(by first | trivial | rfl), Below.refl _ _⟩
    | some c =>
      rw [hv] at IV
      obtain ⟨hvl, hcm⟩ := varOf_some hv
      have h0 : 0 ≤ fnd nmsN c := by rcases nmsN_cases hcm with rfl | rfl | rfl <;> decide
      have h0' : ¬ (fnd nmsN c < 0) := by omega
      simp only [varNo] at IV
      cases ho : whole false 0 200 E.data.toList with
      | none =>
        rw [asO_no (.inr ho)]
        rw [ho] at EV
        simp only [optB, Option.isSome_none] at EV ⊢
        generalize fnd nmsN c = vn at *
        go_enter Tryd.func30, Tryd.ntmps30
        go_wp2_with fail
        refine (PV.out _).mono ?_
        rintro e w' ⟨rfl, rfl⟩
        go_wp2_with fail
        refine (IV.out _).mono ?_
        rintro e w' ⟨rfl, rfl⟩
        go_wp2_with fail
        refine (EV.out _).mono ?_
        rintro e w1 ⟨rfl, m1, rfl⟩
        go_wp2_with fail
        go_ret2
        exact ⟨(by first | trivial | rfl), below_drewN _ _ _⟩
      | some kd =>
        rw [asO_yes hv ho hp]
        rw [ho] at EV
        obtain ⟨_, hk, htx⟩ := (whole_iff (by omega)).1 ho
        have z0 := ok_size hp
        have HP := Lib.hid hp
        have AT := Lib.hid (fun i (hi : i < 27) w => l2At_any i hi w)
        have LA := Lib.hid (fun i (hi : i < 27) w => l2Assign_any E hE kd hk htx (stX i) (stY i) (stZ i) (stX_small i) (stY_small i) (stZ_small hi) c hcm w)
        have IX := Lib.hid (fun i (hi : i < 27) w => idx_wv (c := c) (i := i) (n := val (envOf (stX i) (stY i) (stZ i) 0 0 0) kd) hi (valA_small kd hi) w)
        simp only [optB, Option.isSome_some] at EV ⊢
        have hmk := run_make_row' (P := Tryd.prog) 22 5 (.int .u8 0) 1 Tryd.underlying22 u8_info rfl .i64 .i64 27 (by omega) (by omega)
        simp only [Int.cast_ofNat_Int] at hmk
        obtain ⟨bb, hbb⟩ : ∃ f : Nat → Bool, preF c kd (bt P.data.toList) = f := ⟨_, rfl⟩
        have HBB := Lib.hid (fun i => congrFun hbb i)
        rw [hbb]
        clear hbb
        generalize fnd nmsN c = vn at *
        clear hp hk htx ho hv hvl hcm
        go_enter Tryd.func30, Tryd.ntmps30
        go_wp2_with fail
        refine (PV.out _).mono ?_
        rintro e w' ⟨rfl, rfl⟩
        go_wp2_with fail
        refine (IV.out _).mono ?_
        rintro e w' ⟨rfl, rfl⟩
        go_wp2_with fail
        refine (EV.out _).mono ?_
        rintro e w1 ⟨rfl, m1, rfl⟩
        have B1 := Lib.hid (below_drewN w.heap.size w m1)
        generalize w.drewN m1 = w1 at *
        clear PV EV
        have R0 : Hid (ByteRow (w1.alloc (.cells (madeCells #[.int .u8 0] 27) 5)) w1.heap.size (fillN (bitsN 27 bb) 0)) := by rw [part_zero, bits_len]; exact byteRow_made w1 27
        have B0 := Lib.hid (below_2 B1.out (below_n w1 (.cells (madeCells #[.int .u8 0] 27) 5)))
        have hwl := B1.out.size
        go_wp2_with fail
        go_loopg [9] 27 (fun gk i wr => ∃ k : Nat, k + gk = 27 ∧ i = .int .i64 k ∧ Hid (ByteRow wr w1.heap.size (fillN (bitsN 27 bb) k)) ∧ Hid (Below w.heap.size w wr))
        case atStart => exact ⟨0, by simp, rfl, R0, B0⟩
        case round =>
          clear R0 B0 hmk
          obtain ⟨k, hk, rfl, R, B⟩ := hrel
          by_cases hlt : k < 27
          · have hkl2 : (k : Int) < 27 := by omega
            have hq := HBB.out k
            have hq2 : bt P.data.toList (toA c kd k) = bb k := hq
            clear hq
            have AK := Lib.hid (fun w => AT.out k hlt w)
            have LK := Lib.hid (fun w => LA.out k hlt w)
            have IK := Lib.hid (fun w => IX.out k hlt w)
            have hto : wv c k (val (envOf (stX k) (stY k) (stZ k) 0 0 0) kd) = toA c kd k := rfl
            rw [hto] at IK
            have hx := toA_lt (c := c) (k := kd) hlt
            generalize val (envOf (stX k) (stY k) (stZ k) 0 0 0) kd = vv at *
            generalize put1 c 120 vv (stX k) = p1 at *
            generalize put1 c 121 vv (stY k) = p2 at *
            generalize put1 c 122 vv (stZ k) = p3 at *
            generalize stX k = x at *
            generalize stY k = y at *
            generalize stZ k = z at *
            generalize toA c kd k = xt at *
            have g0 : xt < P.size := by omega
            cases hb : bb k
            all_goals
              rw [hb] at hq2
              first | (have c0 := bt_zero HP.out g0 hq2) | (have c0 := bt_yes g0 hq2)
              have hkl : k < (fillN (bitsN 27 bb) k).length := by rw [part_len _ _ (by rw [bits_len]; omega), bits_len]; exact hlt
              have HST := Lib.hid (fun (W : World) (RW : ByteRow W w1.heap.size (fillN (bitsN 27 bb) k)) => row_step RW hlt)
              rw [hb] at HST
              clear hq2 hb z0 hx
              go_wp2_with fail
              refine (AK.out _).mono ?_
              rintro e w3 ⟨rfl, hb3⟩
              have R3 := Lib.hid (R.out.call hb3)
              have B3 := Lib.hid (below_2 B.out hb3)
              clear hb3
              go_wp2_with fail
              refine (IV.out _).mono ?_
              rintro e w' ⟨rfl, rfl⟩
              go_wp2_with fail
              refine (LK.out _).mono ?_
              rintro e w4 ⟨rfl, hb4⟩
              have R4 := Lib.hid (R3.out.call hb4)
              have B4 := Lib.hid (below_2 B3.out hb4)
              clear hb4
              go_wp2_with fail
              refine (IK.out _).mono ?_
              rintro e w5 ⟨rfl, hb5⟩
              have R5 := Lib.hid (R4.out.call hb5)
              have B5 := Lib.hid (below_2 B4.out hb5)
              clear hb5
              obtain ⟨⟨cv, hcc⟩, hf⟩ := R5.out.any (i := k) hkl
              have R6 := Lib.hid (HST.out _ R5.out)
              have B6 := Lib.hid (fun v => B5.out.setCell (p := ⟨w1.heap.size, k, none⟩) hwl v)
              clear R5 B5 R4 B4 R3 B3 R B HST hkl
              go_wp2_with fail
              go_roundg (gk - 1)
              case measure => omega
              case rel => exact ⟨k + 1, by omega, by go_num, R6, Lib.hid (B6.out _)⟩
          · obtain rfl : k = 27 := by omega
            have r := R.out
            have hpa := part_all (bitsN 27 bb)
            rw [bits_len] at hpa
            rw [hpa] at r
            have hback := bytes_back r (n := 27) (by rw [bits_len]) 27
            clear r R hpa hlt
            go_wp2_with fail
            go_ret2
            exact ⟨(by first | trivial | rfl), B.out⟩
set_option maxRecDepth 100000 in
set_option maxHeartbeats 8000000 in
theorem AssignPostS_any (P V E : ByteArray) (hP : P.size ≤ 1000000000000) (hV : V.size ≤ 1000000000000) (hE : E.size ≤ 1000000) (w : World) : Calls Tryd.prog 37 #[.string P, .string V, .string E] w fun e w' => (e = .returned (.tuple #[.string (bs (optB (asO P V E postF))), .bool (asO P V E postF).isSome]) ∧ Below w.heap.size w w') := by
  have PV := Lib.hid (fun w => PredValidS_any P hP w)
  have IV := Lib.hid (fun w => l1Var_any V hV w)
  have EV := Lib.hid (fun w => ExprValidS_any E w (by omega))
  cases hp : bOk 27 P.data.toList
  · rw [asO_bad hp]
    rw [hp] at PV
    simp only [optB, Option.isSome_none]
    go_enter Tryd.func37, Tryd.ntmps37
    go_wp2_with fail
    refine (PV.out _).mono ?_
    rintro e w' ⟨rfl, rfl⟩
    go_wp2_with fail
    go_ret2
    exact ⟨(by first | trivial | rfl), Below.refl _ _⟩
  · rw [hp] at PV
    cases hv : varOf V.data.toList with
    | none =>
      rw [asO_no (.inl hv)]
      rw [hv] at IV
      simp only [optB, Option.isSome_none, varNo] at IV ⊢
      go_enter Tryd.func37, Tryd.ntmps37
      go_wp2_with fail
      refine (PV.out _).mono ?_
      rintro e w' ⟨rfl, rfl⟩
      go_wp2_with fail
      refine (IV.out _).mono ?_
      rintro e w' ⟨rfl, rfl⟩
      go_wp2_with fail
      go_ret2
      exact ⟨(by first | trivial | rfl), Below.refl _ _⟩
    | some c =>
      rw [hv] at IV
      obtain ⟨hvl, hcm⟩ := varOf_some hv
      have h0 : 0 ≤ fnd nmsN c := by rcases nmsN_cases hcm with rfl | rfl | rfl <;> decide
      have h0' : ¬ (fnd nmsN c < 0) := by omega
      simp only [varNo] at IV
      cases ho : whole false 0 200 E.data.toList with
      | none =>
        rw [asO_no (.inr ho)]
        rw [ho] at EV
        simp only [optB, Option.isSome_none] at EV ⊢
        generalize fnd nmsN c = vn at *
        go_enter Tryd.func37, Tryd.ntmps37
        go_wp2_with fail
        refine (PV.out _).mono ?_
        rintro e w' ⟨rfl, rfl⟩
        go_wp2_with fail
        refine (IV.out _).mono ?_
        rintro e w' ⟨rfl, rfl⟩
        go_wp2_with fail
        refine (EV.out _).mono ?_
        rintro e w1 ⟨rfl, m1, rfl⟩
        go_wp2_with fail
        go_ret2
        exact ⟨(by first | trivial | rfl), below_drewN _ _ _⟩
      | some kd =>
        rw [asO_yes hv ho hp]
        rw [ho] at EV
        obtain ⟨_, hk, htx⟩ := (whole_iff (by omega)).1 ho
        have z0 := ok_size hp
        have HP := Lib.hid hp
        have AT := Lib.hid (fun i (hi : i < 27) w => l2At_any i hi w)
        have LA := Lib.hid (fun i (hi : i < 27) w => l2Assign_any E hE kd hk htx (stX i) (stY i) (stZ i) (stX_small i) (stY_small i) (stZ_small hi) c hcm w)
        have IX := Lib.hid (fun i (hi : i < 27) w => idx_wv (c := c) (i := i) (n := val (envOf (stX i) (stY i) (stZ i) 0 0 0) kd) hi (valA_small kd hi) w)
        simp only [optB, Option.isSome_some] at EV ⊢
        obtain ⟨bb, hbb⟩ : ∃ f : Nat → Bool, bt P.data.toList = f := ⟨_, rfl⟩
        have HBB := Lib.hid (fun i => congrFun hbb i)
        rw [hbb]
        clear hbb
        generalize fnd nmsN c = vn at *
        clear hp hk htx ho hv hvl hcm
        go_enter Tryd.func37, Tryd.ntmps37
        go_wp2_with fail
        refine (PV.out _).mono ?_
        rintro e w' ⟨rfl, rfl⟩
        go_wp2_with fail
        refine (IV.out _).mono ?_
        rintro e w' ⟨rfl, rfl⟩
        go_wp2_with fail
        refine (EV.out _).mono ?_
        rintro e w1 ⟨rfl, m1, rfl⟩
        have B1 := Lib.hid (below_drewN w.heap.size w m1)
        generalize w.drewN m1 = w1 at *
        clear PV EV
        go_wp2_with fail
        refine (many_zeros _).mono ?_
        rintro e w' ⟨T, hT, rfl, rfl⟩
        have hTz : T.size = 27 := by rw [← len_S, hT, bits_len]
        obtain ⟨cap1, w2, hrun1, r1, hb2⟩ := bytes_new w1 T
        rw [hT, poN_zero (c := c) (k := kd) (b := bb)] at r1
        rw [hTz] at hrun1
        have R0 := Lib.hid r1
        have B0 := Lib.hid (below_2 B1.out hb2)
        have hwl := B1.out.size
        clear hT hTz r1 hb2
        go_wp2_with fail
        clear hrun1
        go_loopg [9] 27 (fun gk i wr => ∃ k : Nat, k + gk = 27 ∧ i = .int .i64 k ∧ Hid (ByteRow wr w1.heap.size (bitsN 27 (poN c kd bb k))) ∧ Hid (Below w.heap.size w wr))
        case atStart => exact ⟨0, by simp, rfl, R0, B0⟩
        case round =>
          clear R0 B0
          obtain ⟨k, hk, rfl, R, B⟩ := hrel
          by_cases hlt : k < 27
          · have hkl2 : (k : Int) < 27 := by omega
            have hq2 := HBB.out k
            have g0 : k < P.size := by omega
            cases hb : bb k
            · rw [hb] at hq2
              have c0 := bt_zero HP.out g0 hq2
              have R6 := Lib.hid R.out
              rw [poN_keep hb] at R6
              clear hq2 hb z0 R
              go_wp2_with fail
              go_roundg (gk - 1)
              case measure => omega
              case rel => exact ⟨k + 1, by omega, by go_num, R6, B⟩
            · rw [hb] at hq2
              have c0 := bt_yes g0 hq2
              have AK := Lib.hid (fun w => AT.out k hlt w)
              have LK := Lib.hid (fun w => LA.out k hlt w)
              have IK := Lib.hid (fun w => IX.out k hlt w)
              have hto : wv c k (val (envOf (stX k) (stY k) (stZ k) 0 0 0) kd) = toA c kd k := rfl
              rw [hto] at IK
              have hx := toA_lt (c := c) (k := kd) hlt
              generalize val (envOf (stX k) (stY k) (stZ k) 0 0 0) kd = vv at *
              generalize put1 c 120 vv (stX k) = p1 at *
              generalize put1 c 121 vv (stY k) = p2 at *
              generalize put1 c 122 vv (stZ k) = p3 at *
              generalize stX k = x at *
              generalize stY k = y at *
              generalize stZ k = z at *
              have hset := poN_set (c := c) (k := kd) (b := bb) (m := k) hb hx
              have HSET := Lib.hid hset
              generalize toA c kd k = xt at *
              have hxi : (xt : Int) < 27 := by omega
              clear hq2 hb z0 hset
              go_wp2_with fail
              refine (AK.out _).mono ?_
              rintro e w3 ⟨rfl, hb3⟩
              have R3 := Lib.hid (R.out.call hb3)
              have B3 := Lib.hid (below_2 B.out hb3)
              clear hb3
              go_wp2_with fail
              refine (IV.out _).mono ?_
              rintro e w' ⟨rfl, rfl⟩
              go_wp2_with fail
              refine (LK.out _).mono ?_
              rintro e w4 ⟨rfl, hb4⟩
              have R4 := Lib.hid (R3.out.call hb4)
              have B4 := Lib.hid (below_2 B3.out hb4)
              clear hb4
              go_wp2_with fail
              refine (IK.out _).mono ?_
              rintro e w5 ⟨rfl, hb5⟩
              have R5 := Lib.hid (R4.out.call hb5)
              have B5 := Lib.hid (below_2 B4.out hb5)
              clear hb5
              have hxl : xt < (bitsN 27 (poN c kd bb k)).length := by rw [bits_len]; exact hx
              obtain ⟨⟨cv, hcc⟩, hf⟩ := R5.out.any (i := xt) hxl
              have r6 := R5.out.put hxl 49
              rw [HSET.out] at r6
              have R6 := Lib.hid r6
              have B6 := Lib.hid (B5.out.setCell (p := ⟨w1.heap.size, xt, none⟩) hwl (.int .u8 49))
              clear R5 B5 R4 B4 R3 B3 R B r6 hxl hx
              go_wp2_with fail
              go_roundg (gk - 1)
              case measure => omega
              case rel => exact ⟨k + 1, by omega, by go_num, R6, B6⟩
          · obtain rfl : k = 27 := by omega
            have hback := bytes_back R.out (n := 27) (by rw [bits_len]) cap1
            clear R hlt
            go_wp2_with fail
            go_ret2
            exact ⟨(by first | trivial | rfl), B.out⟩
end Go.Proofs.YtccjmahhebiphaaDoor
