/- The law FnFoldExpr holds: for every input it returns true, and writes nothing that was there. No condition. -/
import Derived.Test.YtcdcgllodggebaaDrg
import Derived.Test.YtcdcgllodggebaaSs
import Derived.Test.YtcdcgllodggebaaShl
import Derived.Deep.RegionHeld3
import Derived.Deep.LoopGhost
import Derived.Deep.DeepCutAuto
import Derived.Deep.CutBlock
namespace Go.Proofs.Ytcdcgllodggebaa.fnFoldExpr
open Go.ChangeShapes Go.WideShapes Go.ChangeAt Go.RowKit
open Go.ChangeMaps (open_string shut_string)

open Pl
set_option linter.unusedVariables false

theorem own : ownKnob Try.prog.godebug = none := by kernel_rfl
theorem laidOut : laidOutB Try.prog = true := by kernel_rfl

theorem state_ok {i : Nat} (hi : i < 27) : stB ((i : Int) % 3) ((i : Int) / 3 % 3) ((i : Int) / 9) = true := by
  simp only [stB, Bool.and_eq_true]
  exact ⟨inB_small.2 ⟨by omega, by omega⟩, inB_small.2 ⟨by omega, by omega⟩, inB_small.2 ⟨by omega, by omega⟩⟩

set_option maxRecDepth 100000 in
set_option maxHeartbeats 8000000 in
theorem walk (a0 : Option Addr) (len0 cap0 : Nat) (w : World) (hb0 : Bytes w a0 len0 w.heap.size) (hl0 : len0 ≤ cap0) (hc0 : cap0 ≤ 9223372036854775807) :
    Calls Try.prog 6 #[.slice a0 len0 cap0] w fun e w' => e = .returned (.bool true) ∧ Below w.heap.size w w' := by
  by_cases hbig : 1048576 < len0
  · clear hb0
    go_enter Try.func6, Try.ntmps6
    go_wp2_with fail
    go_ret
    exact ⟨rfl, by first | exact Below.refl _ _ | exact below_n _ _ | exact (below_n _ _).alloc (by simp) _⟩
  have D := Lib.hid (DrawFoldExpr_any a0 len0 cap0 w (by omega) hl0 hb0)
  clear hb0
  go_enter Try.func6, Try.ntmps6
  go_wp2_with fail
  refine D.out.mono ?_
  rintro e w1 ⟨S, hS, rfl, hb1⟩
  clear D
  have B1 := Lib.hid hb1
  clear hb1
  have V := Lib.hid (fun w => FoldExpr_any S (by omega) w)
  have VS := Lib.hid (fun w => FoldExprS_any S (by omega) w)
  have EV := Lib.hid (fun w => ExprValid_any S (by omega) w)
  have EX := Lib.hid (fun w => ExprVars_any S (by omega) w)
  have PV := Lib.hid (fun x y z w => ppValue_any S (by omega) x y z w)
  obtain ⟨o, ho⟩ : ∃ o, whole false 0 200 S.data.toList = o := ⟨_, rfl⟩
  simp only [ho] at V VS EV PV
  cases o with
  | none =>
    simp only [foO, Option.isSome_none] at V VS EV
    clear ho EX PV hS
    have q0 : ((bs []).toList != (bs []).toList) = false := by simp
    have q1 : ((bs []).toList == (bs []).toList) = true := by simp
    generalize bs [] = X at *
    go_wp2_with fail
    refine (V.out _).mono ?_
    rintro e w2 ⟨rfl, hb⟩
    have B2 := Lib.hid (below_2 B1.out hb)
    clear hb
    go_wp2_with fail
    refine (VS.out _).mono ?_
    rintro e w3 ⟨rfl, hb⟩
    have B3 := Lib.hid (below_2 B2.out hb)
    clear hb
    go_wp2_with fail
    refine (EV.out _).mono ?_
    rintro e w4 ⟨rfl, hb⟩
    have B4 := Lib.hid (below_2 B3.out hb)
    clear hb
    go_wp2_with fail
    refine (EV.out _).mono ?_
    rintro e w5 ⟨rfl, hb⟩
    have B5 := Lib.hid (below_2 B4.out hb)
    clear hb
    go_wp2_with fail
    go_ret
    exact ⟨rfl, B5.out⟩
  | some k =>
    obtain ⟨hle, hk, htx⟩ := (whole_iff (by omega)).1 ho
    rw [htx] at hle
    have hfo := fold_ok hk
    have hfl := fold_len k
    have hw2 : whole false 0 200 (fold k).text = some (fold k) := whole_text hfo (by omega)
    simp only [foO, evV, Option.isSome_some] at V VS EV PV
    have hvars : vsExpr (fold k).text = vsExpr S.data.toList := by
      unfold vsExpr
      rw [hw2, ho]
      simp only [Option.isSome_some, if_true, vars, htx]
      apply List.filter_congr
      intro c hc
      have hv : isV false c = true := mem_nms.1 (show c ∈ nms false from hc)
      obtain ⟨h1, h2, _⟩ := isV_not hv
      simp only [decide_eq_decide]
      exact fold_mem h2 h1 hk
    have hone : vsExpr S.data.toList = [] → (fold k).text.length = 1 := by
      intro h
      have hdg : isDg (fold k) = true := fold_none hk (fun c hc hm => by
        have : c ∈ vsExpr S.data.toList := by
          unfold vsExpr
          rw [ho]
          simp only [Option.isSome_some, if_true, htx]
          exact mem_vars.2 ⟨hc, hm⟩
        rw [h] at this; cases this)
      obtain ⟨c, e, _⟩ := (isDg_text hfo).1 hdg
      rw [e]; rfl
    have hxz : (bs (fold k).text).size ≤ S.size := by rw [bs_size, ← len_S S, htx]; exact hfl
    rw [← bs_size] at hone
    have FX := Lib.hid (fun w => FoldExpr_any (bs (fold k).text) (by omega) w)
    rw [bs_list, hw2] at FX
    simp only [foO, fold_fold, Option.isSome_some] at FX
    have EXX := Lib.hid (fun w => ExprVars_any (bs (fold k).text) (by omega) w)
    rw [bs_list, hvars] at EXX
    have hpv : ∀ i : Nat, i < 27 → ∃ v : Int, (∀ w, Calls Try.prog 30 #[.string S, .agg #[.int .i64 ((i : Int) % 3), .int .i64 ((i : Int) / 3 % 3), .int .i64 ((i : Int) / 9)]] w fun e w' => (e = .returned (.int .i64 v) ∧ Below w.heap.size w w')) ∧
        (∀ w, Calls Try.prog 30 #[.string (bs (fold k).text), .agg #[.int .i64 ((i : Int) % 3), .int .i64 ((i : Int) / 3 % 3), .int .i64 ((i : Int) / 9)]] w fun e w' => (e = .returned (.int .i64 v) ∧ Below w.heap.size w w')) := by
      intro i hi
      refine ⟨val (envOf ((i : Int) % 3) ((i : Int) / 3 % 3) ((i : Int) / 9) 0 0 0) k, fun w => ?_, fun w => ?_⟩
      · have := PV.out ((i : Int) % 3) ((i : Int) / 3 % 3) ((i : Int) / 9) w
        rw [state_ok hi, if_pos rfl] at this
        exact this
      · have := ppValue_any (bs (fold k).text) (by omega) ((i : Int) % 3) ((i : Int) / 3 % 3) ((i : Int) / 9) w
        rw [bs_list, hw2] at this
        simp only [evV] at this
        rw [state_ok hi, if_pos rfl, fold_val] at this
        exact this
    have HPV := Lib.hid hpv
    obtain ⟨VB, hVB⟩ : ∃ B : ByteArray, ⟨(vsExpr S.data.toList).toArray⟩ = B := ⟨_, rfl⟩
    have hem : VB.toList.isEmpty = (vsExpr S.data.toList).isEmpty := by rw [ByteArray.toList_eq, ← hVB]
    simp only [str, hVB] at EX EXX
    have hem1 : VB.toList.isEmpty = true → (bs (fold k).text).size = 1 := by
      intro h
      rw [hem] at h
      exact hone (by simpa using h)
    have HEM := Lib.hid hem1
    clear hem hem1 hVB hone hvars hw2 hfl hfo htx hk hle ho hpv PV
    generalize bs (fold k).text = X at *
    have q0 : (X.toList != X.toList) = false := by simp
    have q1 : (X.toList == X.toList) = true := by simp
    have q2 : (VB.toList == VB.toList) = true := by simp
    go_wp2_with fail
    refine (V.out _).mono ?_
    rintro e w2 ⟨rfl, hb⟩
    have B2 := Lib.hid (below_2 B1.out hb)
    clear hb
    go_wp2_with fail
    refine (VS.out _).mono ?_
    rintro e w3 ⟨rfl, hb⟩
    have B3 := Lib.hid (below_2 B2.out hb)
    clear hb
    go_wp2_with fail
    refine (EV.out _).mono ?_
    rintro e w4 ⟨rfl, hb⟩
    have B4 := Lib.hid (below_2 B3.out hb)
    clear hb
    go_wp2_with fail
    refine (ppStates_any _).mono ?_
    rintro e w5 ⟨g, cap, hcap, rfl, hs⟩
    have HH : Hid (Sit w w5 (sts g)) := Lib.hid ⟨below_2 B4.out hs.below, hs.cells⟩
    clear hs V VS EV
    go_wp2_with fail
    go_loopg [9] 27 (fun gk i wr => ∃ k : Nat, k + gk = 27 ∧ i = .int .i64 k ∧ Hid (Sit w wr (sts g)))
    case atStart => exact ⟨0, rfl, rfl, HH⟩
    case round =>
      clear HH
      obtain ⟨j, hj, rfl, HH⟩ := hrel
      have H := HH.out
      clear HH
      by_cases hlt : j < 27
      · obtain ⟨v, P1, P2⟩ := HPV.out j hlt
        have PA := Lib.hid P1
        have PB := Lib.hid P2
        have q3 : (v != v) = false := by simp
        clear P1 P2
        go_wp2_with fail
        refine region_class (fun W => Sit w W (sts g)) (by kernel_rfl) (by kernel_rfl) H.drew ?_
        repeat (first | go_big_quiet_skip | (go_big_quiet_want; first | (apply quiet_value; (· (intro W hW; (have d0 := hW.get (mem_sts hlt).1; have d1 := hW.get (mem_sts hlt).2.1; have d2 := hW.get (mem_sts hlt).2.2); go_simp; exact rfl)); simp only [Act.put, List.setIfInBounds_toArray, List.set_cons_zero, List.set_cons_succ]; go_big_quiet_on) | (apply quiet_call; (· (intro W hW; go_simp; exact ⟨rfl, rfl⟩)); (· (intro W hW; first | with_reducible exact (PA.out W).mono fun _ _ h => ⟨h.1, hW.call h.2⟩ | with_reducible exact (PB.out W).mono fun _ _ h => ⟨h.1, hW.call h.2⟩)); simp only [Act.put, List.setIfInBounds_toArray, List.set_cons_zero, List.set_cons_succ]; go_big_quiet_on)))
        refine wpQuiet_nil ?_
        intro wq hq
        clear H
        have H := hq
        clear hq
        go_wp2_with fail
        go_roundg (gk - 1)
        case measure => omega
        case rel => exact ⟨j + 1, by omega, by go_num, H⟩
      · have HB := Lib.hid H.below
        clear H
        go_wp2_with fail
        refine (FX.out _).mono ?_
        rintro e w6 ⟨rfl, hb⟩
        have B6 := Lib.hid (below_2 HB.out hb)
        clear hb
        go_wp2_with fail
        refine (EXX.out _).mono ?_
        rintro e w7 ⟨rfl, hb⟩
        have B7 := Lib.hid (below_2 B6.out hb)
        clear hb
        go_wp2_with fail
        refine (EX.out _).mono ?_
        rintro e w8 ⟨rfl, hb⟩
        have B8 := Lib.hid (below_2 B7.out hb)
        clear hb
        go_wp2_with fail
        refine (EX.out _).mono ?_
        rintro e w9 ⟨rfl, hb⟩
        have B9 := Lib.hid (below_2 B8.out hb)
        clear hb
        cases hv : VB.toList.isEmpty
        · go_wp2_with fail
          go_ret
          exact ⟨ret_bool (by first | rfl | simp), B9.out⟩
        · have h1 := HEM.out hv
          have h2 : 1 ≤ X.size := by omega
          have h3 : X.size ≤ 1 := by omega
          clear h1
          go_wp2_with fail
          go_ret
          exact ⟨ret_bool (by simp; omega), B9.out⟩

set_option maxRecDepth 100000 in
theorem lifted (os : Os) (started : os.Started) (H : Type) (enc : TypeId × Value → H) :
    ReturnsInHanded {} Try.checked os 6 .any (Rows.fnFoldExprSpec.pre6 enc Try.prog Try.f6 Rows.fnFoldExprRow.domain false) (Rows.fnFoldExprSpec.post enc Try.prog Try.f6 false true false false) := by
  refine returnsInHanded_of_change (C := Try.checked) own started (by kernel_rfl) Try.func6
    (ChangeSpec.witness6 (enc := enc) (C := Try.checked) false ⟨#[], #[.slice none 0 0], []⟩ 8 (by kernel_rfl) (by kernel_rfl) (by kernel_rfl) (by kernel_rfl)) ?_
  intro W base args ds gs before hval0 hW hcnd _
  have hval : ∀ (j : Nat) t v, Try.f6.params[j]? = some t → args[j]? = some v → Value.okWide Try.prog W .any base t v := hval0
  have hW' := hW
  obtain ⟨p, q, hA0, hV, rfl, hfz, hnd⟩ := hW
  have hA : DataW.TrodAll enc Try.prog W 0 (fun _ => true) true Try.f6.params.toList args.toList ds p := hA0
  rw [Try.params6] at hA hval
  obtain ⟨v0, vs0, d0, ds0, p0, q0, hargs, rfl, rfl, h0, r0⟩ := trodAll_cons hA
  obtain ⟨rfl, rfl, rfl⟩ := trodAll_nil r0
  obtain rfl : args = #[v0] := by cases args; simp_all
  obtain ⟨rfl, rfl⟩ := trodVars_none hV
  have k0 := h0
  have lt0 : ∀ x ∈ p0, x.block < W.heap.size := by obtain ⟨m, hm⟩ := k0; exact DataW.trod_lt m _ _ _ hm
  obtain ⟨a0, len0, cap0, rfl⟩ := okWide_slice Try.underlying22 (hval 0 22 v0 rfl rfl)
  obtain ⟨z0, w0⟩ : ∃ zs, IsRow .u8 W a0 len0 cap0 zs := by
    obtain ⟨fuel, hf⟩ := h0
    rcases open_ints Try.underlying22 Try.underlying5 (by kernel_rfl) hf with ⟨hcs, _⟩ | ⟨x, l, c, zs, hcs, _, hl, hm, hz, _, hcell, hwz⟩
    · simp [Value.cells] at hcs
      obtain ⟨rfl, rfl, rfl⟩ := hcs
      exact ⟨[], .inl ⟨rfl, rfl, rfl, rfl⟩⟩
    · simp [Value.cells] at hcs
      obtain ⟨rfl, rfl, rfl⟩ := hcs
      exact ⟨zs, .inr ⟨_, rfl, hl, hm, by simpa using hz, hcell, hwz⟩⟩
  obtain ⟨by0, lc0, cm0⟩ := bytes_of_row w0
  clear hA0 hval0
  refine (walk a0 len0 cap0 W by0 lc0 cm0).mono fun e W' ⟨he, bel⟩ => ?_
  subst he
  exact ⟨_, rfl, _, _, _, [], _, [], hW', trodAll_mk1 (shut_bool Try.underlying4 _), (trodAll_cons_mk (Below.trod laidOut (by kernel_rfl) (of_decide_eq_true (by kernel_rfl)) k0 bel lt0) trodAll_mk0), rfl, bel.frame _, fun h => by cases h⟩

theorem over : Rows.fnFoldExprRow.holds Try.pinned (OpenSpec.ofChange Rows.fnFoldExprSpec) :=
  OpenClaim.holds_of_wide 6 Try.f6 rfl rfl rfl rfl rfl rfl rfl ⟨rfl, rfl, rfl, rfl, rfl⟩ rfl rfl rfl rfl rfl (by kernel_rfl) Try.func6 (by kernel_rfl)
    (of_decide_eq_true (by kernel_rfl)) (by unfold Func.isWrapper; first | (rw [if_pos (by decide +kernel)]; kernel_rfl) | (rw [if_neg (by decide +kernel)]; exact ⟨rfl, rfl⟩))
    (fun os started H enc _ => lifted os started H enc)

/-- the statement -/
theorem proved : Rows.FnFoldExprSaid := over
#print axioms proved
end Go.Proofs.Ytcdcgllodggebaa.fnFoldExpr
