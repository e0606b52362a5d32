/- Sets for some and for all values of a variable, the reference's. -/
import Derived.Test.YtccjmahhebiphaaDoorVa
import Derived.Test.YtccjmahhebiphaaDoorRa
namespace Go.Proofs.YtccjmahhebiphaaDoor
open Go.RowKit
open Pl

def qF (al : Bool) (c : UInt8) (b : Nat → Bool) (i : Nat) : Bool := if al then alF c b i else smF c b i
theorem qF_true : qF true = alF := rfl
theorem qF_false : qF false = smF := rfl
theorem cnt3_all {c : UInt8} {b : Nat → Bool} {i : Nat} : (cnt 3 (fun m => b (wv c i ((m : Nat) : Int))) = 3) ↔ alF c b i = true := by
  rw [cnt_succ, cnt_succ, cnt_succ]
  unfold alF
  rw [show cnt 0 (fun m => b (wv c i ((m : Nat) : Int))) = 0 from rfl]
  have e0 : ((0 : Nat) : Int) = 0 := rfl
  have e1 : ((1 : Nat) : Int) = 1 := rfl
  have e2 : ((2 : Nat) : Int) = 2 := rfl
  rw [e0, e1, e2]
  cases b (wv c i 0) <;> cases b (wv c i 1) <;> cases b (wv c i 2) <;> simp
theorem cnt3_some {c : UInt8} {b : Nat → Bool} {i : Nat} : (0 < cnt 3 (fun m => b (wv c i ((m : Nat) : Int)))) ↔ smF c b i = true := by
  rw [cnt_succ, cnt_succ, cnt_succ]
  unfold smF
  rw [show cnt 0 (fun m => b (wv c i ((m : Nat) : Int))) = 0 from rfl]
  have e0 : ((0 : Nat) : Int) = 0 := rfl
  have e1 : ((1 : Nat) : Int) = 1 := rfl
  have e2 : ((2 : Nat) : Int) = 2 := rfl
  rw [e0, e1, e2]
  cases b (wv c i 0) <;> cases b (wv c i 1) <;> cases b (wv c i 2) <;> simp
/-- the number of a changed state -/
theorem idx_wv {c : UInt8} {i : Nat} {n : Int} (hi : i < 27) (hn : small n) (w : World) : Calls Tryd.prog 57 #[.agg #[.int .i64 (put1 c 120 n (stX i)), .int .i64 (put1 c 121 n (stY i)), .int .i64 (put1 c 122 n (stZ i))]] w fun e w' => (e = .returned (.int .i64 (wv c i n : Int)) ∧ Below w.heap.size w w') := by
  have h := l2Index_any (put1 c 120 n (stX i)) (put1 c 121 n (stY i)) (put1 c 122 n (stZ i)) (put1_small hn (stX_small i)) (put1_small hn (stY_small i)) (put1_small hn (stZ_small hi)) w
  rwa [← wv_int hi hn] at h
set_option maxRecDepth 100000 in
set_option maxHeartbeats 8000000 in
theorem l2Quant_any (P : ByteArray) (hp : bOk 27 P.data.toList = true) (v : UInt8) (hv : v ∈ nmsN) (al : Bool) (w : World) : Calls Tryd.prog 68 #[.string P, .int .i64 (fnd nmsN v), .bool al] w fun e w' => (e = .returned (.string (bs (bitsN 27 (qF al v (bt P.data.toList))))) ∧ Below w.heap.size w w') := by
  have hmk := run_make_row' (P := Tryd.prog) 22 5 (.int .u8 0) 1 Tryd.underlying22 u8_info rfl .i64 .i64 27 (by omega) (by omega)
  simp only [Int.cast_ofNat_Int] at hmk
  have z0 := ok_size hp
  have AT := Lib.hid (fun i (hi : i < 27) w => l2At_any i hi w)
  have WI := Lib.hid (fun i (n : Int) w => l2With_any (stX i) (stY i) (stZ i) n v hv w)
  have IX := Lib.hid (fun i (hi : i < 27) n (hn : small n) w => idx_wv (c := v) (i := i) (n := n) hi hn w)
  have HP := Lib.hid hp
  obtain ⟨bb, hbb⟩ : ∃ f : Nat → Bool, qF al v (bt P.data.toList) = f := ⟨_, rfl⟩
  have HBB := Lib.hid (fun i => congrFun hbb i)
  rw [hbb]
  have R0 : Hid (ByteRow (w.alloc (.cells (madeCells #[.int .u8 0] 27) 5)) w.heap.size (fillN (bitsN 27 bb) 0)) := by rw [part_zero, bits_len]; exact byteRow_made w 27
  have B0 := Lib.hid (below_n w (.cells (madeCells #[.int .u8 0] 27) 5))
  generalize fnd nmsN v = vn at *
  clear hp hv hbb
  go_enter Tryd.func68, Tryd.ntmps68
  go_wp2_with fail
  go_loopg [8] 27 (fun gk i wr => ∃ k : Nat, k + gk = 27 ∧ i = .int .i64 k ∧ Hid (ByteRow wr w.heap.size (fillN (bitsN 27 bb) k)) ∧ Hid (Below w.heap.size w wr))
  case atStart => exact ⟨0, by simp, rfl, R0, B0⟩
  case round =>
    clear R0 B0 hmk
    obtain ⟨k, hk, rfl, R, B⟩ := hrel
    obtain ⟨go, hgo⟩ : ∃ n, n = gk := ⟨_, rfl⟩
    rw [← hgo] at hk
    by_cases hlt : k < 27
    · have hdk : decide ((k : Int) < 27) = true := by simp; omega
      have AK := Lib.hid (fun w => AT.out k hlt w)
      have WK := Lib.hid (fun n w => WI.out k n w)
      have IK := Lib.hid (fun n hn w => IX.out k hlt n hn w)
      generalize stX k = x at *
      generalize stY k = y at *
      generalize stZ k = z at *
      go_wp2_with fail
      try rw [hdk]
      go_loopg [9, 10] 3 (fun gk n m wr => ∃ a : Nat, a + gk = 3 ∧ m = .int .i64 a ∧ n = .int .i64 (cnt a (fun m => bt P.data.toList (wv v k ((m : Nat) : Int))) : Nat) ∧ Hid (ByteRow wr w.heap.size (fillN (bitsN 27 bb) k)) ∧ Hid (Below w.heap.size w wr))
      case atStart => exact ⟨0, rfl, rfl, rfl, R, B⟩
      case round =>
        clear R B
        obtain ⟨a, ha, rfl, rfl, R, B⟩ := hrel
        by_cases hla : a < 3
        · have hna : small (a : Int) := ⟨by omega, by omega⟩
          have WA := Lib.hid (fun w => WK.out (a : Int) w)
          have IA := Lib.hid (fun w => IK.out (a : Int) hna w)
          have hl := wv_lt (c := v) hlt hna
          have hcs := cnt_succ a (fun m => bt P.data.toList (wv v k ((m : Nat) : Int)))
          have hcl := cnt_le a (fun m => bt P.data.toList (wv v k ((m : Nat) : Int)))
          have HCS := Lib.hid hcs
          generalize cnt a (fun m => bt P.data.toList (wv v k ((m : Nat) : Int))) = ca at *
          generalize wv v k (a : Int) = xa at *
          generalize put1 v 120 (a : Int) x = p1 at *
          generalize put1 v 121 (a : Int) y = p2 at *
          generalize put1 v 122 (a : Int) z = p3 at *
          have g0 : xa < P.size := by omega
          have hda : (a : Int) < 3 := by omega
          cases hb : bt P.data.toList xa
          all_goals
            have c1 : P[xa] = 48 ∨ P[xa] = 49 := by first | exact .inl (bt_zero HP.out g0 hb) | exact .inr (bt_yes g0 hb)
            first | (have c1 := bt_zero HP.out g0 hb) | (have c1 := bt_yes g0 hb)
            rw [hb] at HCS
            clear hb hcs hl
            go_wp2_with fail
            refine (AK.out _).mono ?_
            rintro e w1 ⟨rfl, hb1⟩
            have R1 := Lib.hid (R.out.call hb1)
            have B1 := Lib.hid (below_2 B.out hb1)
            clear hb1
            go_wp2_with fail
            refine (WA.out _).mono ?_
            rintro e w2 ⟨rfl, hb2⟩
            have R2 := Lib.hid (R1.out.call hb2)
            have B2 := Lib.hid (below_2 B1.out hb2)
            clear hb2
            go_wp2_with fail
            refine (IA.out _).mono ?_
            rintro e w3 ⟨rfl, hb3⟩
            have R3 := Lib.hid (R2.out.call hb3)
            have B3 := Lib.hid (below_2 B2.out hb3)
            clear hb3
            go_wp2_with fail
            go_roundg (gk - 1)
            case measure => omega
            case rel => exact ⟨a + 1, by omega, by go_num, by (first | rw [HCS.out] | skip); simp; try omega, R3, B3⟩
        · obtain rfl : a = 3 := by omega
          have hq := HBB.out k
          have h3 := cnt3_all (c := v) (b := bt P.data.toList) (i := k)
          have h4 := cnt3_some (c := v) (b := bt P.data.toList) (i := k)
          have hcl := cnt_le 3 (fun m => bt P.data.toList (wv v k ((m : Nat) : Int)))
          generalize cnt 3 (fun m => bt P.data.toList (wv v k ((m : Nat) : Int))) = c3 at *
          have hkl : k < (fillN (bitsN 27 bb) k).length := by rw [part_len _ _ (by rw [bits_len]; omega), bits_len]; exact hlt
          obtain ⟨⟨cv, hcc⟩, hf⟩ := R.out.any (i := k) hkl
          have B4 := Lib.hid (B.out.setCell (p := ⟨w.heap.size, k, none⟩) (Nat.le_refl _) (.int .u8 ((bitC (bb k)).toNat : Int)))
          have R4 := Lib.hid (row_step R.out hlt)
          have BI := Lib.hid (l2Bit_any (bb k))
          have hbk : (decide ((c3 : Int) = 3) || (!al && decide (0 < (c3 : Int)))) = bb k := by
            rw [← hq]
            unfold qF
            cases al
            · rw [if_neg (by simp)]
              rw [Bool.eq_iff_iff, ← h4]
              simp
              omega
            · rw [if_pos rfl]
              rw [Bool.eq_iff_iff, ← h3]
              simp
              omega
          clear hq h3 h4 R B hkl
          generalize bb k = bk at *
          have e3 : c3 = 3 ∨ c3 < 3 := by omega
          rcases e3 with rfl | e3
          · have hb1 : bk = true := by rw [← hbk]; rfl
            subst hb1
            clear hbk
            go_wp2_with fail
            refine (BI.out _).mono ?_
            rintro e w' ⟨rfl, rfl⟩
            go_wp2_with fail
            go_roundg (go - 1)
            case measure => omega
            case rel => exact ⟨k + 1, by omega, by go_num, R4, B4⟩
          · have n3 : ((c3 : Int) == 3) = false := by simp; omega
            have d3 : decide ((c3 : Int) = 3) = false := by simp; omega
            rw [d3, Bool.false_or] at hbk
            cases al
            · rw [Bool.not_false, Bool.true_and] at hbk
              have hbk2 : decide (0 < c3) = bk := by rw [← hbk]; simp
              clear d3
              go_wp2_with fail
              try rw [hbk2]
              refine (BI.out _).mono ?_
              rintro e w' ⟨rfl, rfl⟩
              go_wp2_with fail
              go_roundg (go - 1)
              case measure => omega
              case rel => exact ⟨k + 1, by omega, by go_num, R4, B4⟩
            · have hb1 : bk = false := by rw [← hbk]; rfl
              subst hb1
              clear hbk d3
              go_wp2_with fail
              refine (BI.out _).mono ?_
              rintro e w' ⟨rfl, rfl⟩
              go_wp2_with fail
              go_roundg (go - 1)
              case measure => omega
              case rel => exact ⟨k + 1, by omega, by go_num, R4, B4⟩
    · obtain rfl : k = 27 := by omega
      have r := R.out
      have hpa := part_all (bitsN 27 bb)
      rw [bits_len] at hpa
      rw [hpa] at r
      have hback := bytes_back r (n := 27) (by rw [bits_len]) 27
      clear r R hpa hlt
      go_wp2_with fail
      go_ret
      exact ⟨rfl, B.out⟩
set_option maxHeartbeats 4000000 in
theorem SomeVarS_any (P V : ByteArray) (hP : P.size ≤ 1000000000000) (hV : V.size ≤ 1000000000000) (w : World) : Calls Tryd.prog 19 #[.string P, .string V] w fun e w' => (e = .returned (.tuple #[.string (bs (optB (smO P V smF))), .bool (smO P V smF).isSome]) ∧ Below w.heap.size w w') := by
  have PV := Lib.hid (fun w => PredValidS_any P hP w)
  have IV := Lib.hid (fun w => l1Var_any V hV w)
  cases hp : bOk 27 P.data.toList
  · rw [smO_bad hp]
    rw [hp] at PV
    simp only [optB, Option.isSome_none]
    go_enter Tryd.func19, Tryd.ntmps19
    go_wp2_with fail
    refine (PV.out _).mono ?_
    rintro e w' ⟨rfl, rfl⟩
    go_wp2_with fail
    go_ret2
    exact ⟨(by first | trivial | rfl), Below.refl _ _⟩
  · rw [hp] at PV
    cases hv : varOf V.data.toList with
    | none =>
      rw [smO_no hv]
      rw [hv] at IV
      simp only [optB, Option.isSome_none, varNo] at IV ⊢
      go_enter Tryd.func19, Tryd.ntmps19
      go_wp2_with fail
      refine (PV.out _).mono ?_
      rintro e w' ⟨rfl, rfl⟩
      go_wp2_with fail
      refine (IV.out _).mono ?_
      rintro e w' ⟨rfl, rfl⟩
      go_wp2_with fail
      go_ret2
      exact ⟨(by first | trivial | rfl), Below.refl _ _⟩
    | some c =>
      rw [smO_yes hv hp]
      rw [hv] at IV
      simp only [optB, Option.isSome_some, varNo] at IV ⊢
      obtain ⟨hvl, hcm⟩ := varOf_some hv
      have QA := Lib.hid (fun w => l2Quant_any P hp c hcm false w)
      have h0 : 0 ≤ fnd nmsN c := by rcases nmsN_cases hcm with rfl | rfl | rfl <;> decide
      rw [show qF false = smF from rfl] at QA
      generalize fnd nmsN c = vn at *
      have h0' : ¬ (vn < 0) := by omega
      clear hp hv hvl hcm
      go_enter Tryd.func19, Tryd.ntmps19
      go_wp2_with fail
      refine (PV.out _).mono ?_
      rintro e w' ⟨rfl, rfl⟩
      go_wp2_with fail
      refine (IV.out _).mono ?_
      rintro e w' ⟨rfl, rfl⟩
      go_wp2_with fail
      refine (IV.out _).mono ?_
      rintro e w' ⟨rfl, rfl⟩
      go_wp2_with fail
      refine (QA.out _).mono ?_
      rintro e w1 ⟨rfl, hb1⟩
      have B1 := Lib.hid hb1
      clear hb1
      go_wp2_with fail
      go_ret2
      exact ⟨(by first | trivial | rfl), B1.out⟩
set_option maxHeartbeats 4000000 in
theorem AllVarS_any (P V : ByteArray) (hP : P.size ≤ 1000000000000) (hV : V.size ≤ 1000000000000) (w : World) : Calls Tryd.prog 20 #[.string P, .string V] w fun e w' => (e = .returned (.tuple #[.string (bs (optB (smO P V alF))), .bool (smO P V alF).isSome]) ∧ Below w.heap.size w w') := by
  have PV := Lib.hid (fun w => PredValidS_any P hP w)
  have IV := Lib.hid (fun w => l1Var_any V hV w)
  cases hp : bOk 27 P.data.toList
  · rw [smO_bad hp]
    rw [hp] at PV
    simp only [optB, Option.isSome_none]
    go_enter Tryd.func20, Tryd.ntmps20
    go_wp2_with fail
    refine (PV.out _).mono ?_
    rintro e w' ⟨rfl, rfl⟩
    go_wp2_with fail
    go_ret2
    exact ⟨(by first | trivial | rfl), Below.refl _ _⟩
  · rw [hp] at PV
    cases hv : varOf V.data.toList with
    | none =>
      rw [smO_no hv]
      rw [hv] at IV
      simp only [optB, Option.isSome_none, varNo] at IV ⊢
      go_enter Tryd.func20, Tryd.ntmps20
      go_wp2_with fail
      refine (PV.out _).mono ?_
      rintro e w' ⟨rfl, rfl⟩
      go_wp2_with fail
      refine (IV.out _).mono ?_
      rintro e w' ⟨rfl, rfl⟩
      go_wp2_with fail
      go_ret2
      exact ⟨(by first | trivial | rfl), Below.refl _ _⟩
    | some c =>
      rw [smO_yes hv hp]
      rw [hv] at IV
      simp only [optB, Option.isSome_some, varNo] at IV ⊢
      obtain ⟨hvl, hcm⟩ := varOf_some hv
      have QA := Lib.hid (fun w => l2Quant_any P hp c hcm true w)
      have h0 : 0 ≤ fnd nmsN c := by rcases nmsN_cases hcm with rfl | rfl | rfl <;> decide
      rw [show qF true = alF from rfl] at QA
      generalize fnd nmsN c = vn at *
      have h0' : ¬ (vn < 0) := by omega
      clear hp hv hvl hcm
      go_enter Tryd.func20, Tryd.ntmps20
      go_wp2_with fail
      refine (PV.out _).mono ?_
      rintro e w' ⟨rfl, rfl⟩
      go_wp2_with fail
      refine (IV.out _).mono ?_
      rintro e w' ⟨rfl, rfl⟩
      go_wp2_with fail
      refine (IV.out _).mono ?_
      rintro e w' ⟨rfl, rfl⟩
      go_wp2_with fail
      refine (QA.out _).mono ?_
      rintro e w1 ⟨rfl, hb1⟩
      have B1 := Lib.hid hb1
      clear hb1
      go_wp2_with fail
      go_ret2
      exact ⟨(by first | trivial | rfl), B1.out⟩
end Go.Proofs.YtccjmahhebiphaaDoor
