/- The law FnFirst holds: for every input it returns true, and writes nothing that was there. No condition. -/
import Derived.Test.YtppcghklkldnaabHs
import Derived.Test.YtppcghklkldnaabShl
namespace Go.Proofs.Ytppcghklkldnaab.fnFirst
open Go.ChangeShapes Go.WideShapes Go.ChangeAt Go.RowKit
open Go.ChangeMaps (open_string shut_string)

open Pl
set_option linter.unusedVariables false

theorem own : ownKnob Try.prog.godebug = none := by kernel_rfl
theorem laidOut : laidOutB Try.prog = true := by kernel_rfl

set_option maxRecDepth 100000 in
set_option maxHeartbeats 16000000 in
theorem walk (a0 : Option Addr) (len0 cap0 : Nat) (w : World) (hb0 : Bytes w a0 len0 w.heap.size) (hl0 : len0 ≤ cap0) (hc0 : cap0 ≤ 9223372036854775807) :
    Calls Try.prog 3 #[.slice a0 len0 cap0] w fun e w' => e = .returned (.bool true) ∧ Below w.heap.size w w' := by
  by_cases hbig : 1048576 < len0
  · clear hb0
    go_enter Try.func3, Try.ntmps3
    go_wp2_with fail
    go_ret
    exact ⟨rfl, by first | exact Below.refl _ _ | exact below_n _ _ | exact (below_n _ _).alloc (by simp) _⟩
  have D := Lib.hid (DrawFirstState_any a0 len0 cap0 w (by omega) hl0 hb0)
  clear hb0
  go_enter Try.func3, Try.ntmps3
  go_wp2_with fail
  refine D.out.mono ?_
  rintro e w1 ⟨P, hP, rfl, hb1⟩
  have B1 := Lib.hid hb1
  clear D hb1
  have hP' : P.size ≤ 1000000000000 := by omega
  have FX := Lib.hid (fun w => FirstState_any P (by omega) w)
  have FS := Lib.hid (fun w => FirstStateS_any P (by omega) w)
  have V := Lib.hid (fun w => PredValid_any P hP' w)
  have C1 := Lib.hid (fun w => CountPred_any P hP' w)
  have C2 := Lib.hid (fun w => CountPredS_any P hP' w)
  cases hp : bOk 27 P.data.toList
  · rw [fs_no hp] at FX FS
    rw [hp] at V
    have hc : cntP P.data.toList = -1 := by unfold cntP; rw [hp]; rfl
    rw [hc] at C1 C2
    simp only [oX, oY, oZ, Option.isSome_none] at FX FS
    clear hp hc
    go_wp2_with fail
    refine (FX.out _).mono ?_
    rintro e w2 ⟨rfl, hw2⟩
    have B2 := Lib.hid (below_2 B1.out hw2)
    clear hw2 FX
    go_wp2_with fail
    refine (FS.out _).mono ?_
    rintro e w3 ⟨rfl, hw3⟩
    have K1 := Lib.hid ((Blk.new w2 25 #[.int .i64 0, .int .i64 0, .int .i64 0]).below hw3 (by simp))
    have B3 := Lib.hid (below_a1 B2.out hw3)
    clear hw3 FS B2
    have k7 := K1.out.alloc (.cells #[.int .i64 0, .int .i64 0, .int .i64 0] 25)
    have n7 := Blk.new w3 25 #[.int .i64 0, .int .i64 0, .int .i64 0]
    have K7 := Lib.hid k7
    have B7 := Lib.hid (B3.out.alloc B3.out.size (.cells #[.int .i64 0, .int .i64 0, .int .i64 0] 25))
    have k0 := k7.cell 0
    have k1 := k7.cell 1
    have k2 := k7.cell 2
    have n0 := n7.cell 0
    have n1 := n7.cell 1
    have n2 := n7.cell 2
    simp at k0 k1 k2
    try simp at n0 n1 n2
    clear k7 n7 B3
    go_wp2_with fail
    refine (V.out _).mono ?_
    rintro e w' ⟨rfl, rfl⟩
    go_wp2_with fail
    refine (C1.out _).mono ?_
    rintro e w' ⟨rfl, rfl⟩
    go_wp2_with fail
    refine (C2.out _).mono ?_
    rintro e w' ⟨rfl, rfl⟩
    go_wp2_with fail
    go_ret
    exact ⟨ret_bool (by first | rfl | simp), B7.out⟩
  · rw [hp] at V
    have HS := Lib.hid (fun j (hj : j < 27) w => HasState_any P hp j hj w)
    by_cases hn : fnd P.data.toList 49 < 0
    · rw [fs_neg hp hn] at FX FS
      have h0 := (fnd_cnt hp).1 hn
      have hc : cntP P.data.toList = 0 := by rw [cntP_ok hp, h0]; rfl
      have HZ := Lib.hid (cnt_zero.1 h0)
      rw [hc] at C1 C2
      simp only [oX, oY, oZ, Option.isSome_none] at FX FS
      clear hp hc hn h0
      go_wp2_with fail
      refine (FX.out _).mono ?_
      rintro e w2 ⟨rfl, hw2⟩
      have B2 := Lib.hid (below_2 B1.out hw2)
      clear hw2 FX
      go_wp2_with fail
      refine (FS.out _).mono ?_
      rintro e w3 ⟨rfl, hw3⟩
      have K1 := Lib.hid ((Blk.new w2 25 #[.int .i64 0, .int .i64 0, .int .i64 0]).below hw3 (by simp))
      have B3 := Lib.hid (below_a1 B2.out hw3)
      clear hw3 FS B2
      have k7 := K1.out.alloc (.cells #[.int .i64 0, .int .i64 0, .int .i64 0] 25)
      have n7 := Blk.new w3 25 #[.int .i64 0, .int .i64 0, .int .i64 0]
      have K7 := Lib.hid k7
      have B7 := Lib.hid (B3.out.alloc B3.out.size (.cells #[.int .i64 0, .int .i64 0, .int .i64 0] 25))
      have k0 := k7.cell 0
      have k1 := k7.cell 1
      have k2 := k7.cell 2
      have n0 := n7.cell 0
      have n1 := n7.cell 1
      have n2 := n7.cell 2
      simp at k0 k1 k2
      try simp at n0 n1 n2
      clear k7 n7 B3
      go_wp2_with fail
      refine (V.out _).mono ?_
      rintro e w' ⟨rfl, rfl⟩
      go_wp2_with fail
      refine (C1.out _).mono ?_
      rintro e w' ⟨rfl, rfl⟩
      go_wp2_with fail
      refine (C2.out _).mono ?_
      rintro e w' ⟨rfl, rfl⟩
      clear k0 k1 k2
      go_wp2_with fail
      refine (ppStates_any _).mono ?_
      rintro e w9 ⟨g, cap, hcap, rfl, hs⟩
      have HH : Hid (Sit w w9 (sts g)) := Lib.hid ⟨below_2 B7.out hs.below, hs.cells⟩
      clear hs V C2 K7 K1
      go_wp2_with fail
      go_loopg [8, 10] 27 (fun gk n i wr => ∃ k : Nat, k + gk = 27 ∧ i = .int .i64 k ∧ n = .int .i64 0 ∧ Hid (Sit w wr (sts g)))
      case atStart => exact ⟨0, rfl, rfl, rfl, HH⟩
      case round =>
        clear HH
        obtain ⟨j, hj, rfl, rfl, HH⟩ := hrel
        by_cases hlt : j < 27
        · have KP := Lib.hid (fun w => HS.out j hlt w)
          rw [HZ.out j hlt] at KP
          have H0 := HH.out
          obtain ⟨d0, d1, d2⟩ := sts_x H0 hlt
          clear H0
          go_wp2_with fail
          refine (KP.out _).mono ?_
          rintro e w10 ⟨rfl, hb⟩
          have S0 := Lib.hid (HH.out.call hb)
          clear hb d0 d1 d2
          go_wp2_with fail
          go_roundg (gk - 1)
          case measure => omega
          case rel => exact ⟨j + 1, by omega, by go_num, rfl, S0⟩
        · have BE := Lib.hid HH.out.below
          clear HH HS HZ
          go_wp2_with fail
          refine (C1.out _).mono ?_
          rintro e w' ⟨rfl, rfl⟩
          go_wp2_with fail
          go_ret
          exact ⟨ret_bool (by first | rfl | simp), BE.out⟩
    · obtain ⟨k, hk, ho, h27, hbk, hlow⟩ := fs_pos hp hn
      rw [ho] at FX FS
      obtain ⟨c, hc⟩ : ∃ c, cnt 27 (bt P.data.toList) = c := ⟨_, rfl⟩
      have hcp : cntP P.data.toList = (c : Int) := by rw [cntP_ok hp, hc]
      have hc0 : (0 : Int) < (c : Int) := by
        have : cnt 27 (bt P.data.toList) ≠ 0 := fun e => by have := cnt_zero.1 e k h27; rw [hbk] at this; cases this
        omega
      rw [hcp] at C1 C2
      simp only [oX, oY, oZ, Option.isSome_some] at FX FS
      have HC := Lib.hid hc
      have HL := Lib.hid hlow
      have SI := Lib.hid (fun w => StateIndex_any (stX k) (stY k) (stZ k) w)
      rw [numX h27] at SI
      have HK := Lib.hid (fun w => HS.out k h27 w)
      rw [hbk] at HK
      clear hp hcp hn hc hlow hbk hk ho
      generalize stX k = x at *
      generalize stY k = y at *
      generalize stZ k = z at *
      have q1 : ((c : Int) == (c : Int)) = true := by simp
      go_wp2_with fail
      refine (FX.out _).mono ?_
      rintro e w2 ⟨rfl, hw2⟩
      have B2 := Lib.hid (below_2 B1.out hw2)
      clear hw2 FX
      go_wp2_with fail
      refine (FS.out _).mono ?_
      rintro e w3 ⟨rfl, hw3⟩
      have K1 := Lib.hid ((Blk.new w2 25 #[.int .i64 x, .int .i64 y, .int .i64 z]).below hw3 (by simp))
      have B3 := Lib.hid (below_a1 B2.out hw3)
      clear hw3 FS B2
      have k7 := K1.out.alloc (.cells #[.int .i64 x, .int .i64 y, .int .i64 z] 25)
      have n7 := Blk.new w3 25 #[.int .i64 x, .int .i64 y, .int .i64 z]
      have K7 := Lib.hid k7
      have B7 := Lib.hid (B3.out.alloc B3.out.size (.cells #[.int .i64 x, .int .i64 y, .int .i64 z] 25))
      have k0 := k7.cell 0
      have k1 := k7.cell 1
      have k2 := k7.cell 2
      have n0 := n7.cell 0
      have n1 := n7.cell 1
      have n2 := n7.cell 2
      simp at k0 k1 k2
      try simp at n0 n1 n2
      clear k7 n7 B3
      go_wp2_with fail
      refine (V.out _).mono ?_
      rintro e w' ⟨rfl, rfl⟩
      go_wp2_with fail
      refine (C1.out _).mono ?_
      rintro e w' ⟨rfl, rfl⟩
      go_wp2_with fail
      refine (C2.out _).mono ?_
      rintro e w' ⟨rfl, rfl⟩
      clear k0 k1 k2
      go_wp2_with fail
      refine (ppStates_any _).mono ?_
      rintro e w9 ⟨g, cap, hcap, rfl, hs⟩
      have hk9 := K7.out.below hs.below K7.out.lt
      have c0 := hk9.cell 0
      have c1 := hk9.cell 1
      have c2 := hk9.cell 2
      simp at c0 c1 c2
      have hlt9 := hk9.lt
      have HH : Hid (Sit w w9 ((⟨w2.heap.size, 0, none⟩, .int .i64 x) :: (⟨w2.heap.size, 1, none⟩, .int .i64 y) :: (⟨w2.heap.size, 2, none⟩, .int .i64 z) :: sts g)) :=
        Lib.hid (((Sit.more (p := ⟨w2.heap.size, 2, none⟩) ⟨below_2 B7.out hs.below, hs.cells⟩ hlt9 c2).more (p := ⟨w2.heap.size, 1, none⟩) hlt9 c1).more (p := ⟨w2.heap.size, 0, none⟩) hlt9 c0)
      clear hs V C2 K7 K1 hk9 c0 c1 c2 hlt9
      go_wp2_with fail
      go_loopg [8, 10] 27 (fun gk n i wr => ∃ k m : Nat, k + gk = 27 ∧ i = .int .i64 k ∧ n = .int .i64 m ∧ m ≤ k ∧ Hid (cnt k (bt P.data.toList) = m) ∧ Hid (Sit w wr ((⟨w2.heap.size, 0, none⟩, .int .i64 x) :: (⟨w2.heap.size, 1, none⟩, .int .i64 y) :: (⟨w2.heap.size, 2, none⟩, .int .i64 z) :: sts g)))
      case atStart => exact ⟨0, 0, rfl, rfl, rfl, Nat.le_refl _, Lib.hid rfl, HH⟩
      case round =>
        clear HH
        obtain ⟨j, m, hj, rfl, rfl, hm, HM, HH⟩ := hrel
        have H0 := HH.out
        have s0 := H0.get (p := ⟨w2.heap.size, 0, none⟩) (v := .int .i64 x) (by simp)
        have s1 := H0.get (p := ⟨w2.heap.size, 1, none⟩) (v := .int .i64 y) (by simp)
        have s2 := H0.get (p := ⟨w2.heap.size, 2, none⟩) (v := .int .i64 z) (by simp)
        by_cases hlt : j < 27
        · have KP := Lib.hid (fun w => HS.out j hlt w)
          obtain ⟨d0, d1, d2⟩ := sts_x (H0.less (l' := sts g) (fun p hp => List.mem_cons_of_mem _ (List.mem_cons_of_mem _ (List.mem_cons_of_mem _ hp)))) hlt
          have hs := cnt_succ j (bt P.data.toList)
          rw [HM.out] at hs
          clear H0 s0 s1 s2
          cases hb : bt P.data.toList j
          · rw [hb] at KP hs
            have HM2 : Hid (cnt (j + 1) (bt P.data.toList) = m) := hs
            clear hb hs HM
            go_wp2_with fail
            refine (KP.out _).mono ?_
            rintro e w10 ⟨rfl, hb⟩
            have S0 := Lib.hid (HH.out.call hb)
            clear hb d0 d1 d2
            go_wp2_with fail
            go_roundg (gk - 1)
            case measure => omega
            case rel => exact ⟨j + 1, m, by omega, by go_num, by go_num, by omega, HM2, S0⟩
          · have hkj : k ≤ j := Nat.le_of_not_lt (fun h => by have := HL.out j h; rw [hb] at this; cases this)
            rw [hb] at KP hs
            have HM2 : Hid (cnt (j + 1) (bt P.data.toList) = m + 1) := hs
            clear hb hs HM
            go_wp2_with fail
            refine (KP.out _).mono ?_
            rintro e w10 ⟨rfl, hb⟩
            have S0 := Lib.hid (HH.out.call hb)
            have t0 := S0.out.get (p := ⟨w2.heap.size, 0, none⟩) (v := .int .i64 x) (by simp)
            have t1 := S0.out.get (p := ⟨w2.heap.size, 1, none⟩) (v := .int .i64 y) (by simp)
            have t2 := S0.out.get (p := ⟨w2.heap.size, 2, none⟩) (v := .int .i64 z) (by simp)
            clear hb d0 d1 d2
            go_wp2_with fail
            refine (SI.out _).mono ?_
            rintro e w11 ⟨rfl, hb⟩
            have S1 := Lib.hid (S0.out.call hb)
            clear hb t0 t1 t2 S0
            go_wp2_with fail
            go_roundg (gk - 1)
            case measure => omega
            case rel => exact ⟨j + 1, m + 1, by omega, by go_num, by go_num, by omega, HM2, S1⟩
        · obtain rfl : j = 27 := by omega
          obtain rfl : c = m := HC.out.symm.trans HM.out
          have BE := Lib.hid HH.out.below
          clear HH HS HM HC HL hlt H0
          go_wp2_with fail
          refine (C1.out _).mono ?_
          rintro e w' ⟨rfl, rfl⟩
          go_wp2_with fail
          refine (HK.out _).mono ?_
          rintro e w12 ⟨rfl, hb⟩
          have B9 := Lib.hid (below_2 BE.out hb)
          clear hb s0 s1 s2
          go_wp2_with fail
          go_ret
          exact ⟨ret_bool (by first | rfl | simp), B9.out⟩

set_option maxRecDepth 100000 in
theorem lifted (os : Os) (started : os.Started) (H : Type) (enc : TypeId × Value → H) :
    ReturnsInHanded {} Try.checked os 3 .any (Rows.fnFirstSpec.pre6 enc Try.prog Try.f3 Rows.fnFirstRow.domain false) (Rows.fnFirstSpec.post enc Try.prog Try.f3 false true false false) := by
  refine returnsInHanded_of_change (C := Try.checked) own started (by kernel_rfl) Try.func3
    (ChangeSpec.witness6 (enc := enc) (C := Try.checked) false ⟨#[], #[.slice none 0 0], []⟩ 8 (by kernel_rfl) (by kernel_rfl) (by kernel_rfl) (by kernel_rfl)) ?_
  intro W base args ds gs before hval0 hW hcnd _
  have hval : ∀ (j : Nat) t v, Try.f3.params[j]? = some t → args[j]? = some v → Value.okWide Try.prog W .any base t v := hval0
  have hW' := hW
  obtain ⟨p, q, hA0, hV, rfl, hfz, hnd⟩ := hW
  have hA : DataW.TrodAll enc Try.prog W 0 (fun _ => true) true Try.f3.params.toList args.toList ds p := hA0
  rw [Try.params3] at hA hval
  obtain ⟨v0, vs0, d0, ds0, p0, q0, hargs, rfl, rfl, h0, r0⟩ := trodAll_cons hA
  obtain ⟨rfl, rfl, rfl⟩ := trodAll_nil r0
  obtain rfl : args = #[v0] := by cases args; simp_all
  obtain ⟨rfl, rfl⟩ := trodVars_none hV
  have k0 := h0
  have lt0 : ∀ x ∈ p0, x.block < W.heap.size := by obtain ⟨m, hm⟩ := k0; exact DataW.trod_lt m _ _ _ hm
  obtain ⟨a0, len0, cap0, rfl⟩ := okWide_slice Try.underlying22 (hval 0 22 v0 rfl rfl)
  obtain ⟨z0, w0⟩ : ∃ zs, IsRow .u8 W a0 len0 cap0 zs := by
    obtain ⟨fuel, hf⟩ := h0
    rcases open_ints Try.underlying22 Try.underlying5 (by kernel_rfl) hf with ⟨hcs, _⟩ | ⟨x, l, c, zs, hcs, _, hl, hm, hz, _, hcell, hwz⟩
    · simp [Value.cells] at hcs
      obtain ⟨rfl, rfl, rfl⟩ := hcs
      exact ⟨[], .inl ⟨rfl, rfl, rfl, rfl⟩⟩
    · simp [Value.cells] at hcs
      obtain ⟨rfl, rfl, rfl⟩ := hcs
      exact ⟨zs, .inr ⟨_, rfl, hl, hm, by simpa using hz, hcell, hwz⟩⟩
  obtain ⟨by0, lc0, cm0⟩ := bytes_of_row w0
  clear hA0 hval0
  refine (walk a0 len0 cap0 W by0 lc0 cm0).mono fun e W' ⟨he, bel⟩ => ?_
  subst he
  exact ⟨_, rfl, _, _, _, [], _, [], hW', trodAll_mk1 (shut_bool Try.underlying4 _), (trodAll_cons_mk (Below.trod laidOut (by kernel_rfl) (of_decide_eq_true (by kernel_rfl)) k0 bel lt0) trodAll_mk0), rfl, bel.frame _, fun h => by cases h⟩

theorem over : Rows.fnFirstRow.holds Try.pinned (OpenSpec.ofChange Rows.fnFirstSpec) :=
  OpenClaim.holds_of_wide 3 Try.f3 rfl rfl rfl rfl rfl rfl rfl ⟨rfl, rfl, rfl, rfl, rfl⟩ rfl rfl rfl rfl rfl (by kernel_rfl) Try.func3 (by kernel_rfl)
    (of_decide_eq_true (by kernel_rfl)) (by unfold Func.isWrapper; first | (rw [if_pos (by decide +kernel)]; kernel_rfl) | (rw [if_neg (by decide +kernel)]; exact ⟨rfl, rfl⟩))
    (fun os started H enc _ => lifted os started H enc)

/-- the statement -/
theorem proved : Rows.FnFirstSaid := over
#print axioms proved
end Go.Proofs.Ytppcghklkldnaab.fnFirst
