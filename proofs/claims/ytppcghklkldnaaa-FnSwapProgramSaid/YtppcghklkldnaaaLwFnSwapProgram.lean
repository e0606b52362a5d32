/- The law FnSwapProgram holds: for every input it returns true, and writes nothing that was there. No condition. -/
import Derived.Test.YtppcghklkldnaaaJs
import Derived.Test.YtppcghklkldnaaaShl
namespace Go.Proofs.Ytppcghklkldnaaa.fnSwapProgram
open Go.ChangeShapes Go.WideShapes Go.ChangeAt Go.RowKit
open Go.ChangeMaps (open_string shut_string)

open Pl
set_option linter.unusedVariables false

theorem own : ownKnob Try.prog.godebug = none := by kernel_rfl
theorem laidOut : laidOutB Try.prog = true := by kernel_rfl

theorem has_vars {c : UInt8} (hc : c ∈ nmsN) (l : List UInt8) : hasB (vars nmsN l) c = hasB l c := by
  unfold hasB
  rw [Bool.eq_iff_iff]
  simp [mem_vars, hc]
theorem has_xch (v u : UInt8) (l : List UInt8) : hasB (l.map (xch v u)) v = hasB l u := by
  unfold hasB
  rw [Bool.eq_iff_iff, decide_eq_true_eq, decide_eq_true_eq]
  exact mem_xch
theorem xch_fun (v u : UInt8) : xch u v = xch v u := by funext c; exact xch_sym u v c
theorem which_small {s : ByteArray} (h : s ∈ whichs) : s.size ≤ 1000000000000 := by
  have key : ∀ s ∈ whichs, s.size ≤ 2 := by
    intro s hs
    simp only [whichs, List.mem_cons, List.not_mem_nil, or_false] at hs
    rcases hs with rfl | rfl | rfl | rfl | rfl | rfl | rfl | rfl | rfl | rfl | rfl | rfl <;> decide
  have := key s h
  omega
theorem vars_str (l : List UInt8) : (vars nmsN l).length ≤ 3 := vars_len
set_option maxRecDepth 100000 in
set_option maxHeartbeats 16000000 in
theorem walk (a0 : Option Addr) (len0 cap0 : Nat) (w : World) (hb0 : Bytes w a0 len0 w.heap.size) (hl0 : len0 ≤ cap0) (hc0 : cap0 ≤ 9223372036854775807) :
    Calls Try.prog 10 #[.slice a0 len0 cap0] w fun e w' => e = .returned (.bool true) ∧ Below w.heap.size w w' := by
  by_cases hbig : 1048576 < len0
  · clear hb0
    go_enter Try.func10, Try.ntmps10
    go_wp2_with fail
    go_ret
    exact ⟨rfl, by first | exact Below.refl _ _ | exact below_n _ _ | exact (below_n _ _).alloc (by simp) _⟩
  have D := Lib.hid (DrawSwapProgram_any a0 len0 cap0 w (by omega) hl0 hb0)
  clear hb0
  go_enter Try.func10, Try.ntmps10
  go_wp2_with fail
  refine D.out.mono ?_
  rintro e w1 ⟨S, V, U, hS, hV, hU, rfl, hb1⟩
  have B1 := Lib.hid hb1
  have hv := which_small hV
  have hu := which_small hU
  clear D hb1 hV hU
  have hs : S.size ≤ 1000000000000 := by omega
  have J := Lib.hid (fun w => SwapProgram_any S V U hs w)
  have JS := Lib.hid (fun w => SwapProgramS_any S V U hs hv hu w)
  cases ho : swapO S V U with
  | none =>
    rw [ho] at J JS
    simp only [optT, Option.isSome_none] at J JS
    have q3 : ((bs []).toList != (bs []).toList) = false := by simp
    have q4 : ((bs []).toList == (bs []).toList) = true := by simp
    clear ho
    generalize bs [] = E0 at *
    go_wp2_with fail
    refine (J.out _).mono ?_
    rintro e w2 ⟨rfl, hb2⟩
    have B2 : Hid (Below w.heap.size w w2) := by first | exact Lib.hid (below_2 B1.out hb2) | exact Lib.hid (below_a1 B1.out hb2) | exact Lib.hid (below_a2 B1.out hb2) | exact Lib.hid (below_a3 B1.out hb2)
    clear hb2
    go_wp2_with fail
    refine (JS.out _).mono ?_
    rintro e w3 ⟨rfl, hb3⟩
    have B3 : Hid (Below w.heap.size w w3) := by first | exact Lib.hid (below_2 B2.out hb3) | exact Lib.hid (below_a1 B2.out hb3) | exact Lib.hid (below_a2 B2.out hb3) | exact Lib.hid (below_a3 B2.out hb3)
    clear hb3
    go_wp2_with fail
    go_ret
    exact ⟨rfl, B3.out⟩
  | some K =>
    have hx : ∃ k v u, whole false 2 200 S.data.toList = some k ∧ varOf V.data.toList = some v ∧ varOf U.data.toList = some u ∧ K = mapN (xch v u) k := by
      unfold swapO at ho
      split at ho
      · injection ho with ho
        exact ⟨_, _, _, by assumption, by assumption, by assumption, ho.symm⟩
      · cases ho
    obtain ⟨k, v, u, hk, hv1, hu1, rfl⟩ := hx
    obtain ⟨hl, hok, ht⟩ := (whole_iff (by omega)).1 hk
    obtain ⟨v1, v2⟩ := varOf_some hv1
    obtain ⟨u1, u2⟩ := varOf_some hu1
    have hkp := xch_kp ((mem_nms (wd := false)).1 v2) ((mem_nms (wd := false)).1 u2)
    have hok2 := kp_ok hkp (by omega) hok
    have hl2 : k.text.length ≤ 200 := by rw [← ht]; exact hl
    have htx := mapN_text (xch v u) k
    have hlx : (mapN (xch v u) k).text.length ≤ 200 := by rw [htx, List.length_map]; exact hl2
    have hwX := whole_text hok2 hlx
    have hXz : (bs (mapN (xch v u) k).text).size ≤ 1000000000000 := by rw [bs_size]; omega
    have hback : bs (optT (swapO (bs (mapN (xch v u) k).text) V U)) = S ∧ (swapO (bs (mapN (xch v u) k).text) V U).isSome = true := by
      have e : swapO (bs (mapN (xch v u) k).text) V U = some (mapN (xch v u) (mapN (xch v u) k)) := by unfold swapO; rw [bs_list, hwX, hv1, hu1]
      rw [e]
      refine ⟨?_, rfl⟩
      show bs (mapN (xch v u) (mapN (xch v u) k)).text = S
      rw [mapN_text, htx, xch_map, ← nd_lt ht]
    have hother : bs (optT (swapO S U V)) = bs (mapN (xch v u) k).text ∧ (swapO S U V).isSome = true := by
      have e : swapO S U V = some (mapN (xch u v) k) := by unfold swapO; rw [hk, hv1, hu1]
      rw [e, xch_fun v u]
      exact ⟨rfl, rfl⟩
    rw [ho] at J JS
    simp only [optT, Option.isSome_some] at J JS
    have JB := Lib.hid (fun w => SwapProgram_any (bs (mapN (xch v u) k).text) V U hXz w)
    have JO := Lib.hid (fun w => SwapProgram_any S U V hs w)
    rw [hback.1, hback.2] at JB
    rw [hother.1, hother.2] at JO
    have VX := Lib.hid (fun w => ProgramValid_any (bs (mapN (xch v u) k).text) hXz w)
    have WX := Lib.hid (fun w => WritesOf_any (bs (mapN (xch v u) k).text) hXz w)
    have WS := Lib.hid (fun w => WritesOf_any S hs w)
    have RX := Lib.hid (fun w => ReadsOf_any (bs (mapN (xch v u) k).text) hXz w)
    have RS := Lib.hid (fun w => ReadsOf_any S hs w)
    have ZX := Lib.hid (fun w => SizeOf_any (bs (mapN (xch v u) k).text) hXz w)
    have ZS := Lib.hid (fun w => SizeOf_any S hs w)
    rw [bs_list, hwX] at VX WX RX ZX
    rw [hk] at WS RS ZS
    simp only [oI, oL, Option.isSome_some] at VX WX RX ZX WS RS ZS
    rw [kp_stm hkp hok, List.length_map] at ZX
    have eV : V = ⟨#[v]⟩ := bytes_of v1
    have eU : U = ⟨#[u]⟩ := bytes_of u1
    have l1 := vars_str (catN wrsN (stm (mapN (xch v u) k)))
    have l2 := vars_str (catN wrsN (stm k))
    have l3 := vars_str (catN rdsN (stm (mapN (xch v u) k)))
    have l4 := vars_str (catN rdsN (stm k))
    have H1 := Lib.hid (fun w => has_one (bs (vars nmsN (catN wrsN (stm (mapN (xch v u) k))))) v (by rw [bs_size]; omega) w)
    have H2 := Lib.hid (fun w => has_one (bs (vars nmsN (catN wrsN (stm k)))) u (by rw [bs_size]; omega) w)
    have H3 := Lib.hid (fun w => has_one (bs (vars nmsN (catN rdsN (stm (mapN (xch v u) k))))) u (by rw [bs_size]; omega) w)
    have H4 := Lib.hid (fun w => has_one (bs (vars nmsN (catN rdsN (stm k)))) v (by rw [bs_size]; omega) w)
    have y1 : hasB (vars nmsN (catN wrsN (stm (mapN (xch v u) k)))) v = hasB (vars nmsN (catN wrsN (stm k))) u := by
      rw [has_vars v2, has_vars u2, kp_cat hkp (fun x hx => kp_wrs hkp hx) hok]
      exact has_xch v u _
    have y2 : hasB (vars nmsN (catN rdsN (stm (mapN (xch v u) k)))) u = hasB (vars nmsN (catN rdsN (stm k))) v := by
      rw [has_vars u2, has_vars v2, kp_cat hkp (fun x hx => kp_rds hkp hx) hok, ← xch_fun v u]
      exact has_xch u v _
    rw [bs_list] at H1 H2 H3 H4
    rw [y1] at H1
    rw [y2] at H3
    rw [← eV] at H1 H4
    rw [← eU] at H2 H3
    generalize hasB (vars nmsN (catN wrsN (stm k))) u = b1 at *
    generalize hasB (vars nmsN (catN rdsN (stm k))) v = b2 at *
    generalize bs (vars nmsN (catN wrsN (stm (mapN (xch v u) k)))) = T1 at *
    generalize bs (vars nmsN (catN wrsN (stm k))) = T2 at *
    generalize bs (vars nmsN (catN rdsN (stm (mapN (xch v u) k)))) = T3 at *
    generalize bs (vars nmsN (catN rdsN (stm k))) = T4 at *
    generalize (stm k).length = nk at *
    generalize bs (mapN (xch v u) k).text = X at *
    clear ho hk hv1 hu1 hl hok ht v1 v2 u1 u2 hkp hok2 hl2 htx hlx hwX hXz hback hother eV eU l1 l2 l3 l4 y1 y2 hv hu
    have q1 : (X.toList != X.toList) = false := by simp
    have q2 : (X.toList == X.toList) = true := by simp
    have q3 : (S.toList == S.toList) = true := by simp
    go_wp2_with fail
    refine (J.out _).mono ?_
    rintro e w2 ⟨rfl, hb2⟩
    have B2 : Hid (Below w.heap.size w w2) := by first | exact Lib.hid (below_2 B1.out hb2) | exact Lib.hid (below_a1 B1.out hb2) | exact Lib.hid (below_a2 B1.out hb2) | exact Lib.hid (below_a3 B1.out hb2)
    clear hb2
    go_wp2_with fail
    refine (JS.out _).mono ?_
    rintro e w3 ⟨rfl, hb3⟩
    have B3 : Hid (Below w.heap.size w w3) := by first | exact Lib.hid (below_2 B2.out hb3) | exact Lib.hid (below_a1 B2.out hb3) | exact Lib.hid (below_a2 B2.out hb3) | exact Lib.hid (below_a3 B2.out hb3)
    clear hb3
    go_wp2_with fail
    refine (JB.out _).mono ?_
    rintro e w4 ⟨rfl, hb4⟩
    have B4 : Hid (Below w.heap.size w w4) := by first | exact Lib.hid (below_2 B3.out hb4) | exact Lib.hid (below_a1 B3.out hb4) | exact Lib.hid (below_a2 B3.out hb4) | exact Lib.hid (below_a3 B3.out hb4)
    clear hb4
    go_wp2_with fail
    refine (JO.out _).mono ?_
    rintro e w5 ⟨rfl, hb5⟩
    have B5 : Hid (Below w.heap.size w w5) := by first | exact Lib.hid (below_2 B4.out hb5) | exact Lib.hid (below_a1 B4.out hb5) | exact Lib.hid (below_a2 B4.out hb5) | exact Lib.hid (below_a3 B4.out hb5)
    clear hb5
    go_wp2_with fail
    refine (VX.out _).mono ?_
    rintro e w6 ⟨rfl, hb6⟩
    have B6 : Hid (Below w.heap.size w w6) := by first | exact Lib.hid (below_2 B5.out hb6) | exact Lib.hid (below_a1 B5.out hb6) | exact Lib.hid (below_a2 B5.out hb6) | exact Lib.hid (below_a3 B5.out hb6)
    clear hb6
    go_wp2_with fail
    refine (WX.out _).mono ?_
    rintro e w7 ⟨rfl, hb7⟩
    have B7 : Hid (Below w.heap.size w w7) := by first | exact Lib.hid (below_2 B6.out hb7) | exact Lib.hid (below_a1 B6.out hb7) | exact Lib.hid (below_a2 B6.out hb7) | exact Lib.hid (below_a3 B6.out hb7)
    clear hb7
    go_wp2_with fail
    refine (H1.out _).mono ?_
    rintro e w' ⟨rfl, rfl⟩
    go_wp2_with fail
    refine (WS.out _).mono ?_
    rintro e w8 ⟨rfl, hb8⟩
    have B8 : Hid (Below w.heap.size w w8) := by first | exact Lib.hid (below_2 B7.out hb8) | exact Lib.hid (below_a1 B7.out hb8) | exact Lib.hid (below_a2 B7.out hb8) | exact Lib.hid (below_a3 B7.out hb8)
    clear hb8
    go_wp2_with fail
    refine (H2.out _).mono ?_
    rintro e w' ⟨rfl, rfl⟩
    go_wp2_with fail
    refine (RX.out _).mono ?_
    rintro e w9 ⟨rfl, hb9⟩
    have B9 : Hid (Below w.heap.size w w9) := by first | exact Lib.hid (below_2 B8.out hb9) | exact Lib.hid (below_a1 B8.out hb9) | exact Lib.hid (below_a2 B8.out hb9) | exact Lib.hid (below_a3 B8.out hb9)
    clear hb9
    go_wp2_with fail
    refine (H3.out _).mono ?_
    rintro e w' ⟨rfl, rfl⟩
    go_wp2_with fail
    refine (RS.out _).mono ?_
    rintro e w10 ⟨rfl, hb10⟩
    have B10 : Hid (Below w.heap.size w w10) := by first | exact Lib.hid (below_2 B9.out hb10) | exact Lib.hid (below_a1 B9.out hb10) | exact Lib.hid (below_a2 B9.out hb10) | exact Lib.hid (below_a3 B9.out hb10)
    clear hb10
    go_wp2_with fail
    refine (H4.out _).mono ?_
    rintro e w' ⟨rfl, rfl⟩
    go_wp2_with fail
    refine (ZX.out _).mono ?_
    rintro e w11 ⟨rfl, hb11⟩
    have B11 : Hid (Below w.heap.size w w11) := by first | exact Lib.hid (below_2 B10.out hb11) | exact Lib.hid (below_a1 B10.out hb11) | exact Lib.hid (below_a2 B10.out hb11) | exact Lib.hid (below_a3 B10.out hb11)
    clear hb11
    go_wp2_with fail
    refine (ZS.out _).mono ?_
    rintro e w12 ⟨rfl, hb12⟩
    have B12 : Hid (Below w.heap.size w w12) := by first | exact Lib.hid (below_2 B11.out hb12) | exact Lib.hid (below_a1 B11.out hb12) | exact Lib.hid (below_a2 B11.out hb12) | exact Lib.hid (below_a3 B11.out hb12)
    clear hb12
    go_wp2_with fail
    go_ret
    exact ⟨ret_bool (by first | rfl | simp), B12.out⟩

set_option maxRecDepth 100000 in
theorem lifted (os : Os) (started : os.Started) (H : Type) (enc : TypeId × Value → H) :
    ReturnsInHanded {} Try.checked os 10 .any (Rows.fnSwapProgramSpec.pre6 enc Try.prog Try.f10 Rows.fnSwapProgramRow.domain false) (Rows.fnSwapProgramSpec.post enc Try.prog Try.f10 false true false false) := by
  refine returnsInHanded_of_change (C := Try.checked) own started (by kernel_rfl) Try.func10
    (ChangeSpec.witness6 (enc := enc) (C := Try.checked) false ⟨#[], #[.slice none 0 0], []⟩ 8 (by kernel_rfl) (by kernel_rfl) (by kernel_rfl) (by kernel_rfl)) ?_
  intro W base args ds gs before hval0 hW hcnd _
  have hval : ∀ (j : Nat) t v, Try.f10.params[j]? = some t → args[j]? = some v → Value.okWide Try.prog W .any base t v := hval0
  have hW' := hW
  obtain ⟨p, q, hA0, hV, rfl, hfz, hnd⟩ := hW
  have hA : DataW.TrodAll enc Try.prog W 0 (fun _ => true) true Try.f10.params.toList args.toList ds p := hA0
  rw [Try.params10] at hA hval
  obtain ⟨v0, vs0, d0, ds0, p0, q0, hargs, rfl, rfl, h0, r0⟩ := trodAll_cons hA
  obtain ⟨rfl, rfl, rfl⟩ := trodAll_nil r0
  obtain rfl : args = #[v0] := by cases args; simp_all
  obtain ⟨rfl, rfl⟩ := trodVars_none hV
  have k0 := h0
  have lt0 : ∀ x ∈ p0, x.block < W.heap.size := by obtain ⟨m, hm⟩ := k0; exact DataW.trod_lt m _ _ _ hm
  obtain ⟨a0, len0, cap0, rfl⟩ := okWide_slice Try.underlying25 (hval 0 25 v0 rfl rfl)
  obtain ⟨z0, w0⟩ : ∃ zs, IsRow .u8 W a0 len0 cap0 zs := by
    obtain ⟨fuel, hf⟩ := h0
    rcases open_ints Try.underlying25 Try.underlying5 (by kernel_rfl) hf with ⟨hcs, _⟩ | ⟨x, l, c, zs, hcs, _, hl, hm, hz, _, hcell, hwz⟩
    · simp [Value.cells] at hcs
      obtain ⟨rfl, rfl, rfl⟩ := hcs
      exact ⟨[], .inl ⟨rfl, rfl, rfl, rfl⟩⟩
    · simp [Value.cells] at hcs
      obtain ⟨rfl, rfl, rfl⟩ := hcs
      exact ⟨zs, .inr ⟨_, rfl, hl, hm, by simpa using hz, hcell, hwz⟩⟩
  obtain ⟨by0, lc0, cm0⟩ := bytes_of_row w0
  clear hA0 hval0
  refine (walk a0 len0 cap0 W by0 lc0 cm0).mono fun e W' ⟨he, bel⟩ => ?_
  subst he
  exact ⟨_, rfl, _, _, _, [], _, [], hW', trodAll_mk1 (shut_bool Try.underlying4 _), (trodAll_cons_mk (Below.trod laidOut (by kernel_rfl) (of_decide_eq_true (by kernel_rfl)) k0 bel lt0) trodAll_mk0), rfl, bel.frame _, fun h => by cases h⟩

theorem over : Rows.fnSwapProgramRow.holds Try.pinned (OpenSpec.ofChange Rows.fnSwapProgramSpec) :=
  OpenClaim.holds_of_wide 10 Try.f10 rfl rfl rfl rfl rfl rfl rfl ⟨rfl, rfl, rfl, rfl, rfl⟩ rfl rfl rfl rfl rfl (by kernel_rfl) Try.func10 (by kernel_rfl)
    (of_decide_eq_true (by kernel_rfl)) (by unfold Func.isWrapper; first | (rw [if_pos (by decide +kernel)]; kernel_rfl) | (rw [if_neg (by decide +kernel)]; exact ⟨rfl, rfl⟩))
    (fun os started H enc _ => lifted os started H enc)

/-- the statement -/
theorem proved : Rows.FnSwapProgramSaid := over
#print axioms proved
end Go.Proofs.Ytppcghklkldnaaa.fnSwapProgram
