/- The law FnNotRel holds: for every input it returns true, and writes nothing that was there. No condition. -/
import Derived.Test.YthdgheglmkhcbaaDs
import Derived.Test.YthdgheglmkhcbaaMu
import Derived.Test.YthdgheglmkhcbaaGc
namespace Go.Proofs.Ythdgheglmkhcbaa.fnNotRel
open Go.ChangeShapes Go.WideShapes Go.ChangeAt Go.RowKit
open Go.ChangeMaps (open_string shut_string)

open Pl
set_option linter.unusedVariables false

theorem own : ownKnob Try.prog.godebug = none := by kernel_rfl
theorem laidOut : laidOutB Try.prog = true := by kernel_rfl

set_option maxRecDepth 100000 in
set_option maxHeartbeats 16000000 in
theorem walk (a0 : Option Addr) (len0 cap0 : Nat) (w : World) (hb0 : Bytes w a0 len0 w.heap.size) (hl0 : len0 ≤ cap0) (hc0 : cap0 ≤ 9223372036854775807) :
    Calls Try.prog 4 #[.slice a0 len0 cap0] w fun e w' => e = .returned (.bool true) ∧ Below w.heap.size w w' := by
  by_cases hbig : 1048576 < len0
  · clear hb0
    go_enter Try.func4, Try.ntmps4
    go_wp2_with fail
    go_ret
    exact ⟨rfl, by first | exact Below.refl _ _ | exact below_n _ _ | exact (below_n _ _).alloc (by simp) _⟩
  have D := Lib.hid (DrawNotRel_any a0 len0 cap0 w (by omega) hl0 hb0)
  clear hb0
  go_enter Try.func4, Try.ntmps4
  go_wp2_with fail
  refine D.out.mono ?_
  rintro e w1 ⟨P, hP, rfl, hb1⟩
  have B1 := Lib.hid hb1
  clear D hb1
  have hP' : P.size ≤ 1000000000000 := by omega
  have N1 := Lib.hid (fun w => NotRel_any P hP' w)
  have N2 := Lib.hid (fun w => NotRelS_any P hP' w)
  have V := Lib.hid (fun w => RelValid_any P hP' w)
  cases hp : bOk 729 P.data.toList
  · rw [notR_no hp] at N1 N2
    rw [hp] at V
    simp only [optB, Option.isSome_none] at N1 N2
    have q1 : ((bs []).toList != (bs []).toList) = false := by simp
    have q2 : ((bs []).toList == (bs []).toList) = true := by simp
    generalize bs [] = E0 at *
    clear hp
    go_wp2_with fail
    refine (N1.out _).mono ?_
    rintro e w2 ⟨rfl, hb2⟩
    have B2 : Hid (Below w.heap.size w w2) := by first | exact Lib.hid (below_2 B1.out hb2) | exact Lib.hid (below_a1 B1.out hb2) | exact Lib.hid (below_a2 B1.out hb2) | exact Lib.hid (below_a3 B1.out hb2)
    clear hb2
    go_wp2_with fail
    refine (N2.out _).mono ?_
    rintro e w3 ⟨rfl, hb3⟩
    have B3 : Hid (Below w.heap.size w w3) := by first | exact Lib.hid (below_2 B2.out hb3) | exact Lib.hid (below_a1 B2.out hb3) | exact Lib.hid (below_a2 B2.out hb3) | exact Lib.hid (below_a3 B2.out hb3)
    clear hb3
    go_wp2_with fail
    refine (V.out _).mono ?_
    rintro e w' ⟨rfl, rfl⟩
    go_wp2_with fail
    refine (V.out _).mono ?_
    rintro e w' ⟨rfl, rfl⟩
    go_wp2_with fail
    go_ret
    exact ⟨ret_bool (by first | rfl | simp), B3.out⟩
  · have hnz : (bs (ngT P.data.toList)).size ≤ 1000000000000 := by rw [bs_size]; unfold ngT; rw [bits_len]; omega
    have hq : bOk 729 (bs (ngT P.data.toList)).data.toList = true := by rw [bs_list]; exact ngT_ok
    have NN := Lib.hid (fun w => ppNotRel_any (bs (ngT P.data.toList)) hnz w)
    rw [notR_yes hq, bs_list, ] at NN
    simp only [optB] at NN
    rw [ngT_ng hp, bs_of] at NN
    have CP := Lib.hid (fun w => CountRel_any P hP' w)
    have CS := Lib.hid (fun w => CountRelS_any P hP' w)
    have CQ := Lib.hid (fun w => CountRel_any (bs (ngT P.data.toList)) hnz w)
    have hc1 : cntRO P.data.toList = (cntR P.data.toList : Int) := by unfold cntRO; rw [hp]; rfl
    have hc2 : cntRO (bs (ngT P.data.toList)).data.toList = (cntR (ngT P.data.toList) : Int) := by unfold cntRO; rw [hq, bs_list]; rfl
    rw [hc1] at CP CS
    rw [hc2] at CQ
    have PA := Lib.hid (fun w => ppAndRel_any P (bs (ngT P.data.toList)) hP' hnz w)
    rw [bothR_yes _ hp hq, bs_list] at PA
    simp only [optB] at PA
    have haz : (bs (opT (· && ·) P.data.toList (ngT P.data.toList))).size ≤ 1000000000000 := by rw [bs_size]; unfold opT; rw [bits_len]; omega
    have CA := Lib.hid (fun w => CountRel_any (bs (opT (· && ·) P.data.toList (ngT P.data.toList))) haz w)
    have hc3 : cntRO (bs (opT (· && ·) P.data.toList (ngT P.data.toList))).data.toList = 0 := by
      unfold cntRO
      rw [bs_list, opT_ok, if_pos rfl]
      have := winR_diff (p := P.data.toList) (q := P.data.toList)
      have hw : winR P.data.toList P.data.toList = true := winR_iff.2 (fun _ _ h => h)
      rw [hw, beq_iff_eq] at this
      rw [this]; rfl
    rw [hc3] at CA
    have hsum := cntR_ng P.data.toList
    rw [notR_yes hp] at N1 N2
    rw [hp] at V
    simp only [optB, Option.isSome_some] at N1 N2
    generalize bs (opT (· && ·) P.data.toList (ngT P.data.toList)) = A at *
    generalize bs (ngT P.data.toList) = X at *
    generalize cntR (ngT P.data.toList) = n at *
    generalize cntR P.data.toList = m at *
    have q1 : (X.toList != X.toList) = false := by simp
    have q2 : (P.toList == P.toList) = true := by simp
    have q3 : wrap64 ((m : Int) + (n : Int)) = 729 := by unfold wrap64; omega
    have q4 : ((m : Int) == (m : Int)) = true := by simp
    clear hp hq hc1 hc2 hc3 hsum hnz haz
    go_wp2_with fail
    refine (N1.out _).mono ?_
    rintro e w2 ⟨rfl, hb2⟩
    have B2 : Hid (Below w.heap.size w w2) := by first | exact Lib.hid (below_2 B1.out hb2) | exact Lib.hid (below_a1 B1.out hb2) | exact Lib.hid (below_a2 B1.out hb2) | exact Lib.hid (below_a3 B1.out hb2)
    clear hb2
    go_wp2_with fail
    refine (N2.out _).mono ?_
    rintro e w3 ⟨rfl, hb3⟩
    have B3 : Hid (Below w.heap.size w w3) := by first | exact Lib.hid (below_2 B2.out hb3) | exact Lib.hid (below_a1 B2.out hb3) | exact Lib.hid (below_a2 B2.out hb3) | exact Lib.hid (below_a3 B2.out hb3)
    clear hb3
    go_wp2_with fail
    refine (V.out _).mono ?_
    rintro e w' ⟨rfl, rfl⟩
    go_wp2_with fail
    refine (NN.out _).mono ?_
    rintro e w4 ⟨rfl, hb4⟩
    have B4 : Hid (Below w.heap.size w w4) := by first | exact Lib.hid (below_2 B3.out hb4) | exact Lib.hid (below_a1 B3.out hb4) | exact Lib.hid (below_a2 B3.out hb4) | exact Lib.hid (below_a3 B3.out hb4)
    clear hb4
    go_wp2_with fail
    refine (CP.out _).mono ?_
    rintro e w' ⟨rfl, rfl⟩
    go_wp2_with fail
    refine (CQ.out _).mono ?_
    rintro e w' ⟨rfl, rfl⟩
    go_wp2_with fail
    refine (CP.out _).mono ?_
    rintro e w' ⟨rfl, rfl⟩
    go_wp2_with fail
    refine (CS.out _).mono ?_
    rintro e w' ⟨rfl, rfl⟩
    go_wp2_with fail
    refine (PA.out _).mono ?_
    rintro e w5 ⟨rfl, hb5⟩
    have B5 : Hid (Below w.heap.size w w5) := by first | exact Lib.hid (below_2 B4.out hb5) | exact Lib.hid (below_a1 B4.out hb5) | exact Lib.hid (below_a2 B4.out hb5) | exact Lib.hid (below_a3 B4.out hb5)
    clear hb5
    go_wp2_with fail
    refine (CA.out _).mono ?_
    rintro e w' ⟨rfl, rfl⟩
    go_wp2_with fail
    go_ret
    exact ⟨ret_bool (by first | rfl | simp), B5.out⟩

set_option maxRecDepth 100000 in
theorem lifted (os : Os) (started : os.Started) (H : Type) (enc : TypeId × Value → H) :
    ReturnsInHanded {} Try.checked os 4 .any (Rows.fnNotRelSpec.pre6 enc Try.prog Try.f4 Rows.fnNotRelRow.domain false) (Rows.fnNotRelSpec.post enc Try.prog Try.f4 false true false false) := by
  refine returnsInHanded_of_change (C := Try.checked) own started (by kernel_rfl) Try.func4
    (ChangeSpec.witness6 (enc := enc) (C := Try.checked) false ⟨#[], #[.slice none 0 0], []⟩ 8 (by kernel_rfl) (by kernel_rfl) (by kernel_rfl) (by kernel_rfl)) ?_
  intro W base args ds gs before hval0 hW hcnd _
  have hval : ∀ (j : Nat) t v, Try.f4.params[j]? = some t → args[j]? = some v → Value.okWide Try.prog W .any base t v := hval0
  have hW' := hW
  obtain ⟨p, q, hA0, hV, rfl, hfz, hnd⟩ := hW
  have hA : DataW.TrodAll enc Try.prog W 0 (fun _ => true) true Try.f4.params.toList args.toList ds p := hA0
  rw [Try.params4] at hA hval
  obtain ⟨v0, vs0, d0, ds0, p0, q0, hargs, rfl, rfl, h0, r0⟩ := trodAll_cons hA
  obtain ⟨rfl, rfl, rfl⟩ := trodAll_nil r0
  obtain rfl : args = #[v0] := by cases args; simp_all
  obtain ⟨rfl, rfl⟩ := trodVars_none hV
  have k0 := h0
  have lt0 : ∀ x ∈ p0, x.block < W.heap.size := by obtain ⟨m, hm⟩ := k0; exact DataW.trod_lt m _ _ _ hm
  obtain ⟨a0, len0, cap0, rfl⟩ := okWide_slice Try.underlying22 (hval 0 22 v0 rfl rfl)
  obtain ⟨z0, w0⟩ : ∃ zs, IsRow .u8 W a0 len0 cap0 zs := by
    obtain ⟨fuel, hf⟩ := h0
    rcases open_ints Try.underlying22 Try.underlying5 (by kernel_rfl) hf with ⟨hcs, _⟩ | ⟨x, l, c, zs, hcs, _, hl, hm, hz, _, hcell, hwz⟩
    · simp [Value.cells] at hcs
      obtain ⟨rfl, rfl, rfl⟩ := hcs
      exact ⟨[], .inl ⟨rfl, rfl, rfl, rfl⟩⟩
    · simp [Value.cells] at hcs
      obtain ⟨rfl, rfl, rfl⟩ := hcs
      exact ⟨zs, .inr ⟨_, rfl, hl, hm, by simpa using hz, hcell, hwz⟩⟩
  obtain ⟨by0, lc0, cm0⟩ := bytes_of_row w0
  clear hA0 hval0
  refine (walk a0 len0 cap0 W by0 lc0 cm0).mono fun e W' ⟨he, bel⟩ => ?_
  subst he
  exact ⟨_, rfl, _, _, _, [], _, [], hW', trodAll_mk1 (shut_bool Try.underlying4 _), (trodAll_cons_mk (Below.trod laidOut (by kernel_rfl) (of_decide_eq_true (by kernel_rfl)) k0 bel lt0) trodAll_mk0), rfl, bel.frame _, fun h => by cases h⟩

theorem over : Rows.fnNotRelRow.holds Try.pinned (OpenSpec.ofChange Rows.fnNotRelSpec) :=
  OpenClaim.holds_of_wide 4 Try.f4 rfl rfl rfl rfl rfl rfl rfl ⟨rfl, rfl, rfl, rfl, rfl⟩ rfl rfl rfl rfl rfl (by kernel_rfl) Try.func4 (by kernel_rfl)
    (of_decide_eq_true (by kernel_rfl)) (by unfold Func.isWrapper; first | (rw [if_pos (by decide +kernel)]; kernel_rfl) | (rw [if_neg (by decide +kernel)]; exact ⟨rfl, rfl⟩))
    (fun os started H enc _ => lifted os started H enc)

/-- the statement -/
theorem proved : Rows.FnNotRelSaid := over
#print axioms proved
end Go.Proofs.Ythdgheglmkhcbaa.fnNotRel
