/- The law FnCloseRel holds: for every input it returns true, and writes nothing that was there. No condition. -/
import Derived.Test.YthdgheglmkhcbaaDs
import Derived.Test.YthdgheglmkhcbaaMu
import Derived.Test.YthdgheglmkhcbaaGc
namespace Go.Proofs.Ythdgheglmkhcbaa.fnCloseRel
open Go.ChangeShapes Go.WideShapes Go.ChangeAt Go.RowKit
open Go.ChangeMaps (open_string shut_string)

open Pl
set_option linter.unusedVariables false

theorem own : ownKnob Try.prog.godebug = none := by kernel_rfl
theorem laidOut : laidOutB Try.prog = true := by kernel_rfl

def sameN : Nd := .n2 38 (.n2 61 (.n0 120) (.n0 88)) (.n2 38 (.n2 61 (.n0 121) (.n0 89)) (.n2 61 (.n0 122) (.n0 90)))
theorem whole_same : whole true 1 200 (⟨#[38, 61, 120, 88, 38, 61, 121, 89, 61, 122, 90]⟩ : ByteArray).data.toList = some sameN :=
  whole_text (k := sameN) (by decide +kernel) (by decide +kernel)
theorem same_rel : relOf sameN = sameT := by
  unfold relOf sameT rt
  apply bits_congr
  intro n hn
  have h : ∀ i, i < 27 → ∀ j, j < 27 → relB sameN i j = (i == j) := by decide +kernel
  exact h _ (by omega) _ (by omega)
theorem same_any (w : World) : Calls Try.prog 47 #[.string ⟨#[38, 61, 120, 88, 38, 61, 121, 89, 61, 122, 90]⟩] w fun e w' => (e = .returned (.string (bs sameT)) ∧ Below w.heap.size w w') := by
  have h := ppRel_any ⟨#[38, 61, 120, 88, 38, 61, 121, 89, 61, 122, 90]⟩ (by decide) w
  rw [whole_same] at h
  simp only [Option.map_some, optB, same_rel] at h
  exact h
theorem win_clo (p : List UInt8) : winR p (cloT p) = true := winR_ro.2 (fun i j hi hj h => cloT_sub hi hj h)
theorem win_same (p : List UInt8) : winR sameT (cloT p) = true := winR_ro.2 (fun i j hi hj h => by
  rw [ro_same hi hj, beq_iff_eq] at h
  subst h
  exact cloT_rf p i hi)
set_option maxRecDepth 100000 in
set_option maxHeartbeats 16000000 in
theorem walk (a0 : Option Addr) (len0 cap0 : Nat) (w : World) (hb0 : Bytes w a0 len0 w.heap.size) (hl0 : len0 ≤ cap0) (hc0 : cap0 ≤ 9223372036854775807) :
    Calls Try.prog 10 #[.slice a0 len0 cap0] w fun e w' => e = .returned (.bool true) ∧ Below w.heap.size w w' := by
  by_cases hbig : 1048576 < len0
  · clear hb0
    go_enter Try.func10, Try.ntmps10
    go_wp2_with fail
    go_ret
    exact ⟨rfl, by first | exact Below.refl _ _ | exact below_n _ _ | exact (below_n _ _).alloc (by simp) _⟩
  have D := Lib.hid (DrawCloseRel_any a0 len0 cap0 w (by omega) hl0 hb0)
  clear hb0
  go_enter Try.func10, Try.ntmps10
  go_wp2_with fail
  refine D.out.mono ?_
  rintro e w1 ⟨P, hP, rfl, hb1⟩
  have B1 := Lib.hid hb1
  clear D hb1
  have hP' : P.size ≤ 1000000000000 := by omega
  have A1 := Lib.hid (fun w => CloseRel_any P hP' w)
  have A2 := Lib.hid (fun w => CloseRelS_any P hP' w)
  have V := Lib.hid (fun w => RelValid_any P hP' w)
  cases hp : bOk 729 P.data.toList
  · rw [closeR_no hp] at A1 A2
    rw [hp] at V
    simp only [optB, Option.isSome_none] at A1 A2
    have q1 : ((bs []).toList != (bs []).toList) = false := by simp
    have q2 : ((bs []).toList == (bs []).toList) = true := by simp
    generalize bs [] = E0 at *
    clear hp
    go_wp2_with fail
    refine (A1.out _).mono ?_
    rintro e w2 ⟨rfl, hb2⟩
    have B2 : Hid (Below w.heap.size w w2) := by first | exact Lib.hid (below_2 B1.out hb2) | exact Lib.hid (below_a1 B1.out hb2) | exact Lib.hid (below_a2 B1.out hb2) | exact Lib.hid (below_a3 B1.out hb2)
    clear hb2
    go_wp2_with fail
    refine (A2.out _).mono ?_
    rintro e w3 ⟨rfl, hb3⟩
    have B3 : Hid (Below w.heap.size w w3) := by first | exact Lib.hid (below_2 B2.out hb3) | exact Lib.hid (below_a1 B2.out hb3) | exact Lib.hid (below_a2 B2.out hb3) | exact Lib.hid (below_a3 B2.out hb3)
    clear hb3
    go_wp2_with fail
    refine (V.out _).mono ?_
    rintro e w' ⟨rfl, rfl⟩
    go_wp2_with fail
    refine (V.out _).mono ?_
    rintro e w' ⟨rfl, rfl⟩
    go_wp2_with fail
    go_ret
    exact ⟨ret_bool (by first | rfl | simp), B3.out⟩
  · have hlp : Hid (bOk 729 P.data.toList = true) := Lib.hid hp
    have z1 : (bs (cloT P.data.toList)).size ≤ 1000000000000 := by rw [bs_size, bOk_len (cloT_ok _)]; omega
    have z4 : (bs (sameT)).size ≤ 1000000000000 := by rw [bs_size, bOk_len (sameT_ok)]; omega
    have k1 : bOk 729 (bs (cloT P.data.toList)).data.toList = true := by rw [bs_list]; exact cloT_ok _
    have k4 : bOk 729 (bs (sameT)).data.toList = true := by rw [bs_list]; exact sameT_ok
    have SM0 := Lib.hid (fun w => same_any  w)
    have AG := Lib.hid (fun w => CloseRel_any (bs (cloT P.data.toList)) z1 w)
    rw [closeR_yes k1, bs_list, cloT_clo] at AG
    have W1 := Lib.hid (fun w => RelWithin_any P (bs (cloT P.data.toList)) hP' z1 w)
    have f1 : winRO P.data.toList (bs (cloT P.data.toList)).data.toList = true := by unfold winRO; rw [bs_list, hp, cloT_ok, win_clo]; rfl
    rw [f1] at W1
    have W2 := Lib.hid (fun w => RelWithin_any (bs sameT) (bs (cloT P.data.toList)) z4 z1 w)
    have f2 : winRO (bs sameT).data.toList (bs (cloT P.data.toList)).data.toList = true := by unfold winRO; rw [bs_list, bs_list, sameT_ok, cloT_ok, win_same]; rfl
    rw [f2] at W2
    have XX := Lib.hid (fun w => ppThen_any (bs (cloT P.data.toList)) (bs (cloT P.data.toList)) z1 z1 w)
    rw [thenR_yes k1 k1, bs_list, cloT_cmp] at XX
    have ST : Hid (∀ n, ∃ Y, (∀ w, Calls Try.prog 48 #[.string (bs (stp P.data.toList n)), .string P] w fun e w' => (e = .returned (.string Y) ∧ Below w.heap.size w w')) ∧ (∀ w, Calls Try.prog 38 #[.string (bs sameT), .string Y] w fun e w' => (e = .returned (.string (bs (stp P.data.toList (n + 1)))) ∧ Below w.heap.size w w'))) := fun n => by
      have hk : bOk 729 (bs (stp P.data.toList n)).data.toList = true := by rw [bs_list]; exact stp_ok _ n
      have hz : (bs (stp P.data.toList n)).size ≤ 1000000000000 := by rw [bs_size, bOk_len (stp_ok _ n)]; omega
      have hk2 : bOk 729 (bs (cmpT (stp P.data.toList n) P.data.toList)).data.toList = true := by rw [bs_list]; exact cmpT_ok
      have hz2 : (bs (cmpT (stp P.data.toList n) P.data.toList)).size ≤ 1000000000000 := by rw [bs_size, bOk_len cmpT_ok]; omega
      refine ⟨bs (cmpT (stp P.data.toList n) P.data.toList), fun w => ?_, fun w => ?_⟩
      · have h := ppThen_any (bs (stp P.data.toList n)) P hz hP' w
        rw [thenR_yes hk hp, bs_list] at h
        exact h
      · have h := ppOrRel_any (bs sameT) (bs (cmpT (stp P.data.toList n) P.data.toList)) z4 hz2 w
        rw [bothR_yes _ k4 hk2, bs_list, bs_list] at h
        exact h
    have h27 : Hid (bs (stp P.data.toList 27) = bs (cloT P.data.toList)) := Lib.hid (by rw [stp_clo])
    have h0 : bs (stp P.data.toList 0) = bs sameT := rfl
    rw [closeR_yes hp] at A1 A2
    rw [hp] at V
    simp only [optB, Option.isSome_some] at A1 A2 AG XX
    obtain ⟨F, hF⟩ : ∃ F : Nat → ByteArray, F = fun n => bs (stp P.data.toList n) := ⟨_, rfl⟩
    have hFn : ∀ n, bs (stp P.data.toList n) = F n := fun n => by rw [hF]
    simp only [hFn] at ST h27 h0
    clear hF hFn f1 f2 k1 k4 z1 z4 hp hlp
    generalize bs (cloT P.data.toList) = X at *
    generalize bs sameT = S at *
    have SM := SM0
    clear SM0
    have HF0 := Lib.hid h0
    clear h0
    have q1 : (X.toList != X.toList) = false := by simp
    have q2 : (X.toList == X.toList) = true := by simp
    go_wp2_with fail
    refine (A1.out _).mono ?_
    rintro e w2 ⟨rfl, hb2⟩
    have B2 : Hid (Below w.heap.size w w2) := by first | exact Lib.hid (below_2 B1.out hb2) | exact Lib.hid (below_a1 B1.out hb2) | exact Lib.hid (below_a2 B1.out hb2) | exact Lib.hid (below_a3 B1.out hb2)
    clear hb2
    go_wp2_with fail
    refine (A2.out _).mono ?_
    rintro e w3 ⟨rfl, hb3⟩
    have B3 : Hid (Below w.heap.size w w3) := by first | exact Lib.hid (below_2 B2.out hb3) | exact Lib.hid (below_a1 B2.out hb3) | exact Lib.hid (below_a2 B2.out hb3) | exact Lib.hid (below_a3 B2.out hb3)
    clear hb3
    go_wp2_with fail
    refine (V.out _).mono ?_
    rintro e w' ⟨rfl, rfl⟩
    go_wp2_with fail
    refine (SM.out _).mono ?_
    rintro e w4 ⟨rfl, hb4⟩
    have B4 : Hid (Below w.heap.size w w4) := by first | exact Lib.hid (below_2 B3.out hb4) | exact Lib.hid (below_a1 B3.out hb4) | exact Lib.hid (below_a2 B3.out hb4) | exact Lib.hid (below_a3 B3.out hb4)
    clear hb4
    clear A1 A2 V SM
    have HB := B4
    clear B1 B2 B3 B4
    go_wp2_with fail
    go_loopg [9, 10] 27 (fun gk s i wr => ∃ n : Nat, n + gk = 27 ∧ i = .int .i64 n ∧ s = .string (F n) ∧ Hid (Below w.heap.size w wr))
    case atStart => exact ⟨0, rfl, rfl, by rw [HF0.out], HB⟩
    case round =>
      clear HB
      obtain ⟨n, hn, rfl, rfl, HB⟩ := hrel
      by_cases hlt : n < 27
      · obtain ⟨Y, hy1, hy2⟩ := ST.out n
        have Y1 := Lib.hid hy1
        have Y2 := Lib.hid hy2
        clear hy1 hy2
        go_wp2_with fail
        refine (Y1.out _).mono ?_
        rintro e w21 ⟨rfl, hb21⟩
        have B21 : Hid (Below w.heap.size w w21) := by first | exact Lib.hid (below_2 HB.out hb21) | exact Lib.hid (below_a1 HB.out hb21) | exact Lib.hid (below_a2 HB.out hb21) | exact Lib.hid (below_a3 HB.out hb21)
        clear hb21
        go_wp2_with fail
        refine (Y2.out _).mono ?_
        rintro e w22 ⟨rfl, hb22⟩
        have B22 : Hid (Below w.heap.size w w22) := by first | exact Lib.hid (below_2 B21.out hb22) | exact Lib.hid (below_a1 B21.out hb22) | exact Lib.hid (below_a2 B21.out hb22) | exact Lib.hid (below_a3 B21.out hb22)
        clear hb22
        go_wp2_with fail
        go_roundg (gk - 1)
        case measure => omega
        case rel => exact ⟨n + 1, by omega, by go_num, rfl, B22⟩
      · obtain rfl : n = 27 := by omega
        have q3 : ((F 27).toList == X.toList) = true := by rw [h27.out]; simp
        clear ST h27 HF0
        go_wp2_with fail
        refine (AG.out _).mono ?_
        rintro e w21 ⟨rfl, hb21⟩
        have B21 : Hid (Below w.heap.size w w21) := by first | exact Lib.hid (below_2 HB.out hb21) | exact Lib.hid (below_a1 HB.out hb21) | exact Lib.hid (below_a2 HB.out hb21) | exact Lib.hid (below_a3 HB.out hb21)
        clear hb21
        go_wp2_with fail
        refine (W1.out _).mono ?_
        rintro e w22 ⟨rfl, hb22⟩
        have B22 : Hid (Below w.heap.size w w22) := by first | exact Lib.hid (below_2 B21.out hb22) | exact Lib.hid (below_a1 B21.out hb22) | exact Lib.hid (below_a2 B21.out hb22) | exact Lib.hid (below_a3 B21.out hb22)
        clear hb22
        go_wp2_with fail
        refine (W2.out _).mono ?_
        rintro e w23 ⟨rfl, hb23⟩
        have B23 : Hid (Below w.heap.size w w23) := by first | exact Lib.hid (below_2 B22.out hb23) | exact Lib.hid (below_a1 B22.out hb23) | exact Lib.hid (below_a2 B22.out hb23) | exact Lib.hid (below_a3 B22.out hb23)
        clear hb23
        go_wp2_with fail
        refine (XX.out _).mono ?_
        rintro e w24 ⟨rfl, hb24⟩
        have B24 : Hid (Below w.heap.size w w24) := by first | exact Lib.hid (below_2 B23.out hb24) | exact Lib.hid (below_a1 B23.out hb24) | exact Lib.hid (below_a2 B23.out hb24) | exact Lib.hid (below_a3 B23.out hb24)
        clear hb24
        go_wp2_with fail
        go_ret
        exact ⟨ret_bool (by first | rfl | simp), B24.out⟩

set_option maxRecDepth 100000 in
theorem lifted (os : Os) (started : os.Started) (H : Type) (enc : TypeId × Value → H) :
    ReturnsInHanded {} Try.checked os 10 .any (Rows.fnCloseRelSpec.pre6 enc Try.prog Try.f10 Rows.fnCloseRelRow.domain false) (Rows.fnCloseRelSpec.post enc Try.prog Try.f10 false true false false) := by
  refine returnsInHanded_of_change (C := Try.checked) own started (by kernel_rfl) Try.func10
    (ChangeSpec.witness6 (enc := enc) (C := Try.checked) false ⟨#[], #[.slice none 0 0], []⟩ 8 (by kernel_rfl) (by kernel_rfl) (by kernel_rfl) (by kernel_rfl)) ?_
  intro W base args ds gs before hval0 hW hcnd _
  have hval : ∀ (j : Nat) t v, Try.f10.params[j]? = some t → args[j]? = some v → Value.okWide Try.prog W .any base t v := hval0
  have hW' := hW
  obtain ⟨p, q, hA0, hV, rfl, hfz, hnd⟩ := hW
  have hA : DataW.TrodAll enc Try.prog W 0 (fun _ => true) true Try.f10.params.toList args.toList ds p := hA0
  rw [Try.params10] at hA hval
  obtain ⟨v0, vs0, d0, ds0, p0, q0, hargs, rfl, rfl, h0, r0⟩ := trodAll_cons hA
  obtain ⟨rfl, rfl, rfl⟩ := trodAll_nil r0
  obtain rfl : args = #[v0] := by cases args; simp_all
  obtain ⟨rfl, rfl⟩ := trodVars_none hV
  have k0 := h0
  have lt0 : ∀ x ∈ p0, x.block < W.heap.size := by obtain ⟨m, hm⟩ := k0; exact DataW.trod_lt m _ _ _ hm
  obtain ⟨a0, len0, cap0, rfl⟩ := okWide_slice Try.underlying22 (hval 0 22 v0 rfl rfl)
  obtain ⟨z0, w0⟩ : ∃ zs, IsRow .u8 W a0 len0 cap0 zs := by
    obtain ⟨fuel, hf⟩ := h0
    rcases open_ints Try.underlying22 Try.underlying5 (by kernel_rfl) hf with ⟨hcs, _⟩ | ⟨x, l, c, zs, hcs, _, hl, hm, hz, _, hcell, hwz⟩
    · simp [Value.cells] at hcs
      obtain ⟨rfl, rfl, rfl⟩ := hcs
      exact ⟨[], .inl ⟨rfl, rfl, rfl, rfl⟩⟩
    · simp [Value.cells] at hcs
      obtain ⟨rfl, rfl, rfl⟩ := hcs
      exact ⟨zs, .inr ⟨_, rfl, hl, hm, by simpa using hz, hcell, hwz⟩⟩
  obtain ⟨by0, lc0, cm0⟩ := bytes_of_row w0
  clear hA0 hval0
  refine (walk a0 len0 cap0 W by0 lc0 cm0).mono fun e W' ⟨he, bel⟩ => ?_
  subst he
  exact ⟨_, rfl, _, _, _, [], _, [], hW', trodAll_mk1 (shut_bool Try.underlying4 _), (trodAll_cons_mk (Below.trod laidOut (by kernel_rfl) (of_decide_eq_true (by kernel_rfl)) k0 bel lt0) trodAll_mk0), rfl, bel.frame _, fun h => by cases h⟩

theorem over : Rows.fnCloseRelRow.holds Try.pinned (OpenSpec.ofChange Rows.fnCloseRelSpec) :=
  OpenClaim.holds_of_wide 10 Try.f10 rfl rfl rfl rfl rfl rfl rfl ⟨rfl, rfl, rfl, rfl, rfl⟩ rfl rfl rfl rfl rfl (by kernel_rfl) Try.func10 (by kernel_rfl)
    (of_decide_eq_true (by kernel_rfl)) (by unfold Func.isWrapper; first | (rw [if_pos (by decide +kernel)]; kernel_rfl) | (rw [if_neg (by decide +kernel)]; exact ⟨rfl, rfl⟩))
    (fun os started H enc _ => lifted os started H enc)

/-- the statement -/
theorem proved : Rows.FnCloseRelSaid := over
#print axioms proved
end Go.Proofs.Ythdgheglmkhcbaa.fnCloseRel
