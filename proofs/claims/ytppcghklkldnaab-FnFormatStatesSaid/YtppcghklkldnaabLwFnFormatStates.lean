/- The law FnFormatStates holds: for every input it returns true, and writes nothing that was there. No condition. -/
import Derived.Test.YtppcghklkldnaabHs
import Derived.Test.YtppcghklkldnaabFs
import Derived.Test.YtppcghklkldnaabShl
namespace Go.Proofs.Ytppcghklkldnaab.fnFormatStates
open Go.ChangeShapes Go.WideShapes Go.ChangeAt Go.RowKit
open Go.ChangeMaps (open_string shut_string)

open Pl
set_option linter.unusedVariables false

theorem own : ownKnob Try.prog.godebug = none := by kernel_rfl
theorem laidOut : laidOutB Try.prog = true := by kernel_rfl


set_option maxHeartbeats 4000000 in
theorem DrawPredValid_any (A : Option Addr) (n cap : Nat) (w : World) (hn : n ≤ 4000000000000) (hc : n ≤ cap) (h : Bytes w A n w.heap.size) :
    Calls Try.prog 69 #[.slice A n cap] w fun e w' => (∃ P : ByteArray, P.size ≤ 28 ∧ e = .returned (.string P) ∧ Below w.heap.size w w') := by
  have O := Lib.hid (open_ex A n cap w hn hc h)
  clear h
  go_enter Try.func69, Try.ntmps69
  go_wp2_with fail
  refine O.out.mono ?_
  rintro e w0 ⟨g, hg0, rfl, hr0, hb0⟩
  have R0 := Lib.hid hr0
  have G0 : Hid (w.grownBy w0 (some g)) := Lib.hid (grown_of_below hb0 _)
  clear hr0 hb0 O
  go_wp2_with fail
  refine (l2Open_any g 0 w0 (by omega) R0.out).mono ?_
  rintro e w1 ⟨P, hP, rfl, hg1, _⟩
  have G1 := Lib.hid (grown_trans G0.out hg1)
  clear hg1
  go_wp2_with fail
  go_ret
  exact ⟨P, hP, rfl, below_src G1.out hg0⟩
set_option maxHeartbeats 1000000 in
theorem DrawFormatStates_any (A : Option Addr) (n cap : Nat) (w : World) (hn : n ≤ 4000000000000) (hc : n ≤ cap) (h : Bytes w A n w.heap.size) :
    Calls Try.prog 30 #[.slice A n cap] w fun e w' => (∃ P : ByteArray, P.size ≤ 28 ∧ e = .returned (.string P) ∧ Below w.heap.size w w') := by
  have O := Lib.hid (DrawPredValid_any A n cap w hn hc h)
  clear h
  go_enter Try.func30, Try.ntmps30
  go_wp2_with fail
  refine O.out.mono ?_
  rintro e w1 ⟨P, hP, rfl, hb1⟩
  have B1 := Lib.hid hb1
  clear hb1 O
  go_wp2_with fail
  go_ret
  exact ⟨P, hP, rfl, B1.out⟩
theorem at_jn {js : List Nat} (hl : ∀ j ∈ js, j < 27) {k : Nat} (hk : k < js.length) : psN ((bs (jn js)).extract (4 * k) (4 * k + 3)).data.toList = some js[k] := by
  apply psN_at (hl _ (List.getElem_mem hk))
  rw [← jn_at hk]
  simp only [bs, ByteArray.data_extract, Array.toList_extract, List.extract_eq_take_drop]
  rw [show 4 * k + 3 - 4 * k = 3 by omega]
theorem ones_at {l : List UInt8} {k : Nat} (hk : k < (ones l 27).length) : (ones l 27)[k] < 27 ∧ bt l (ones l 27)[k] = true := mem_ones.1 (List.getElem_mem hk)
theorem ones_lt {l : List UInt8} {i k : Nat} (hi : i < (ones l 27).length) (hk : k < i) : (ones l 27)[k]'(by omega) < (ones l 27)[i] :=
  List.pairwise_iff_getElem.1 (ones_sorted l 27) k i (by omega) hi hk

set_option maxRecDepth 100000 in
set_option maxHeartbeats 16000000 in
theorem walk (a0 : Option Addr) (len0 cap0 : Nat) (w : World) (hb0 : Bytes w a0 len0 w.heap.size) (hl0 : len0 ≤ cap0) (hc0 : cap0 ≤ 9223372036854775807) :
    Calls Try.prog 6 #[.slice a0 len0 cap0] w fun e w' => e = .returned (.bool true) ∧ Below w.heap.size w w' := by
  by_cases hbig : 1048576 < len0
  · clear hb0
    go_enter Try.func6, Try.ntmps6
    go_wp2_with fail
    go_ret
    exact ⟨rfl, by first | exact Below.refl _ _ | exact below_n _ _ | exact (below_n _ _).alloc (by simp) _⟩
  have D := Lib.hid (DrawFormatStates_any a0 len0 cap0 w (by omega) hl0 hb0)
  clear hb0
  go_enter Try.func6, Try.ntmps6
  go_wp2_with fail
  refine D.out.mono ?_
  rintro e w1 ⟨P, hP, rfl, hb1⟩
  have B1 := Lib.hid hb1
  clear D hb1
  have hP' : P.size ≤ 1000000000000 := by omega
  have A1 := Lib.hid (fun w => FormatStates_any P hP' w)
  have A2 := Lib.hid (fun w => FormatStatesS_any P hP' w)
  have V := Lib.hid (fun w => PredValid_any P hP' w)
  have C1 := Lib.hid (fun w => CountPred_any P hP' w)
  cases hp : bOk 27 P.data.toList
  · rw [fmt_no hp] at A1 A2
    rw [hp] at V
    have e0 : bs [] = (⟨#[]⟩ : ByteArray) := rfl
    rw [e0] at A1 A2
    clear hp e0
    go_wp2_with fail
    refine (A1.out _).mono ?_
    rintro e w2 ⟨rfl, hb2⟩
    have B2 : Hid (Below w.heap.size w w2) := by first | exact Lib.hid (below_2 B1.out hb2) | exact Lib.hid (below_a1 B1.out hb2) | exact Lib.hid (below_a2 B1.out hb2) | exact Lib.hid (below_a3 B1.out hb2)
    clear hb2
    go_wp2_with fail
    refine (A2.out _).mono ?_
    rintro e w3 ⟨rfl, hb3⟩
    have B3 : Hid (Below w.heap.size w w3) := by first | exact Lib.hid (below_2 B2.out hb3) | exact Lib.hid (below_a1 B2.out hb3) | exact Lib.hid (below_a2 B2.out hb3) | exact Lib.hid (below_a3 B2.out hb3)
    clear hb3
    go_wp2_with fail
    refine (V.out _).mono ?_
    rintro e w' ⟨rfl, rfl⟩
    go_wp2_with fail
    refine (A2.out _).mono ?_
    rintro e w4 ⟨rfl, hb4⟩
    have B4 : Hid (Below w.heap.size w w4) := by first | exact Lib.hid (below_2 B3.out hb4) | exact Lib.hid (below_a1 B3.out hb4) | exact Lib.hid (below_a2 B3.out hb4) | exact Lib.hid (below_a3 B3.out hb4)
    clear hb4
    go_wp2_with fail
    refine (V.out _).mono ?_
    rintro e w' ⟨rfl, rfl⟩
    go_wp2_with fail
    go_ret
    exact ⟨ret_bool (by first | rfl | simp), B4.out⟩
  · rw [hp] at V
    rw [fmt_yes hp] at A1 A2
    have HS := Lib.hid (fun j (hj : j < 27) w => HasState_any P hp j hj w)
    have hcn : cntP P.data.toList = ((ones P.data.toList 27).length : Int) := by rw [cntP_ok hp, ones_len]
    rw [hcn] at C1
    clear hcn hp
    by_cases h0 : ones P.data.toList 27 = []
    · rw [if_pos h0] at A1 A2
      rw [h0] at C1
      simp only [List.length_nil, Int.cast_ofNat_Int] at C1
      have f1 : (bs [45]).toList.isEmpty = false := by rw [ByteArray.toList_eq, bs_list]; rfl
      have f2 : ¬ (bs [45]).toList = [] := by rw [ByteArray.toList_eq, bs_list]; simp
      have f3 : (bs [45]).toList = [45] := by rw [ByteArray.toList_eq, bs_list]
      have q1 : ((bs [45]).toList != (bs [45]).toList) = false := by simp
      generalize bs [45] = S at *
      clear h0 HS
      go_wp2_with fail
      refine (A1.out _).mono ?_
      rintro e w2 ⟨rfl, hb2⟩
      have B2 : Hid (Below w.heap.size w w2) := by first | exact Lib.hid (below_2 B1.out hb2) | exact Lib.hid (below_a1 B1.out hb2) | exact Lib.hid (below_a2 B1.out hb2) | exact Lib.hid (below_a3 B1.out hb2)
      clear hb2
      go_wp2_with fail
      refine (A2.out _).mono ?_
      rintro e w3 ⟨rfl, hb3⟩
      have B3 : Hid (Below w.heap.size w w3) := by first | exact Lib.hid (below_2 B2.out hb3) | exact Lib.hid (below_a1 B2.out hb3) | exact Lib.hid (below_a2 B2.out hb3) | exact Lib.hid (below_a3 B2.out hb3)
      clear hb3
      go_wp2_with fail
      refine (V.out _).mono ?_
      rintro e w' ⟨rfl, rfl⟩
      go_wp2_with fail
      refine (C1.out _).mono ?_
      rintro e w' ⟨rfl, rfl⟩
      go_wp2_with fail
      go_ret
      exact ⟨ret_bool (by first | rfl | simp), B3.out⟩
    · rw [if_neg h0] at A1 A2
      obtain ⟨js, hjs, hmem, hon, hsor⟩ : ∃ js : List Nat, ones P.data.toList 27 = js ∧ (∀ j ∈ js, j < 27) ∧ (∀ k (hk : k < js.length), js[k] < 27 ∧ bt P.data.toList js[k] = true) ∧ (∀ i k (hi : i < js.length) (hk : k < i), js[k]'(by omega) < js[i]) :=
        ⟨_, rfl, fun j hj => (mem_ones.1 hj).1, fun k hk => ones_at hk, fun i k hi hk => ones_lt hi hk⟩
      have hle : js.length ≤ 27 := by rw [← hjs]; exact ones_le _ _
      rw [hjs] at A1 A2 C1 h0
      have hpos : 0 < js.length := List.length_pos_iff.2 h0
      have hlen := jn_len h0
      rw [← bs_size] at hlen
      have f1 : (bs (jn js)).toList.isEmpty = false := by
        rw [List.isEmpty_eq_false_iff]
        exact fun e => jn_ne h0 (bs_nil.1 e)
      have f2 : ¬ (bs (jn js)).toList = [] := fun e => jn_ne h0 (bs_nil.1 e)
      have PT := Lib.hid (fun k (_ : k < js.length) w => ParseState_any ((bs (jn js)).extract (4 * k) (4 * k + 3)) w)
      have HAT := Lib.hid (fun k (hk : k < js.length) => at_jn hmem hk)
      have HON := Lib.hid hon
      have HLT := Lib.hid hsor
      obtain ⟨S, hS⟩ : ∃ S, bs (jn js) = S := ⟨_, rfl⟩
      rw [hS] at A1 A2 hlen f1 f2 PT HAT
      clear hS h0 hmem hon hsor hjs
      have hc0 : ((js.length : Int) == 0) = false := by simp; intro e; rw [e] at hpos; simp at hpos
      have q1 : (S.toList != S.toList) = false := by simp
      obtain ⟨n, hn⟩ : ∃ n, js.length = n := ⟨_, rfl⟩
      have HN := Lib.hid hn
      rw [hn] at C1 hlen hpos hle hc0
      have y1 : IntKind.i64.wrap (4 * (n : Int)) = 4 * (n : Int) := IntWalk.i64_in _ (by omega)
      have y2 : IntKind.i64.wrap (4 * (n : Int) - 1) = 4 * (n : Int) - 1 := IntWalk.i64_in _ (by omega)
      have y3 : (((S.size : Int)) == 4 * (n : Int) - 1) = true := by simp; omega
      clear hn
      go_wp2_with fail
      refine (A1.out _).mono ?_
      rintro e w2 ⟨rfl, hb2⟩
      have B2 : Hid (Below w.heap.size w w2) := by first | exact Lib.hid (below_2 B1.out hb2) | exact Lib.hid (below_a1 B1.out hb2) | exact Lib.hid (below_a2 B1.out hb2) | exact Lib.hid (below_a3 B1.out hb2)
      clear hb2
      go_wp2_with fail
      refine (A2.out _).mono ?_
      rintro e w3 ⟨rfl, hb3⟩
      have B3 : Hid (Below w.heap.size w w3) := by first | exact Lib.hid (below_2 B2.out hb3) | exact Lib.hid (below_a1 B2.out hb3) | exact Lib.hid (below_a2 B2.out hb3) | exact Lib.hid (below_a3 B2.out hb3)
      clear hb3
      go_wp2_with fail
      refine (V.out _).mono ?_
      rintro e w' ⟨rfl, rfl⟩
      go_wp2_with fail
      refine (C1.out _).mono ?_
      rintro e w' ⟨rfl, rfl⟩
      clear A1 A2 V C1
      have HL0 : Hid (∀ i (hi : i < js.length), 0 ≤ i → (-1 : Int) < (js[i] : Int)) := fun i hi _ => by omega
      go_wp2_with fail
      go_loopg [6, 7] n (fun gk la i wr => ∃ k : Nat, ∃ lz : Int, k + gk = n ∧ i = .int .i64 k ∧ la = .int .i64 lz ∧ Hid (∀ i (hi : i < js.length), k ≤ i → lz < (js[i] : Int)) ∧ Hid (Below w.heap.size w wr))
      case atStart => exact ⟨0, -1, by omega, rfl, rfl, HL0, B3⟩
      case round =>
        clear HL0 B3
        obtain ⟨k, lz, hk, rfl, rfl, HL, HB⟩ := hrel
        by_cases hlt : k < n
        · have hkl : k < js.length := by rw [HN.out]; exact hlt
          have PA := Lib.hid (fun w => PT.out k hkl w)
          rw [HAT.out k hkl] at PA
          obtain ⟨j27, hbj⟩ := HON.out k hkl
          have hlj := HL.out k hkl (Nat.le_refl _)
          have HL2 : Hid (∀ i (hi : i < js.length), k + 1 ≤ i → (js[k] : Int) < (js[i] : Int)) := fun i hi h => by have := HLT.out i k hi (by omega); omega
          obtain ⟨j, hj⟩ : ∃ j, js[k] = j := ⟨_, rfl⟩
          rw [hj] at PA j27 hbj hlj HL2
          have HK := Lib.hid (fun w => HS.out j j27 w)
          rw [hbj] at HK
          have SI := Lib.hid (fun w => StateIndex_any (stX j) (stY j) (stZ j) w)
          rw [numX j27] at SI
          simp only [oX, oY, oZ, Option.isSome_some] at PA
          clear hj hbj
          generalize stX j = x at *
          generalize stY j = y at *
          generalize stZ j = z at *
          have x1 : IntKind.i64.wrap (4 * (k : Int)) = 4 * (k : Int) := IntWalk.i64_in _ (by omega)
          have x2 : IntKind.i64.wrap (4 * (k : Int) + 3) = 4 * (k : Int) + 3 := IntWalk.i64_in _ (by omega)
          have x3 : (0 : Int) ≤ 4 * (k : Int) := by omega
          have x4 : 4 * (k : Int) ≤ (S.size : Int) := by omega
          have x5 : (0 : Int) ≤ 4 * (k : Int) + 3 := by omega
          have x6 : 4 * (k : Int) + 3 ≤ (S.size : Int) := by omega
          have x7 : (4 * (k : Int)).toNat = 4 * k := by omega
          have x8 : (4 * (k : Int) + 3).toNat = 4 * k + 3 := by omega
          have x9 : 4 * (k : Int) ≤ 4 * (k : Int) + 3 := by omega
          generalize hT : S.extract (4 * k) (4 * k + 3) = T at *
          clear HL
          go_wp2_with fail
          refine (PA.out _).mono ?_
          rintro e w5 ⟨rfl, hb5⟩
          have B5 := Lib.hid (below_2 HB.out hb5)
          have K5 := Lib.hid (Blk.new w5 25 #[.int .i64 x, .int .i64 y, .int .i64 z])
          have A5 := Lib.hid (B5.out.alloc B5.out.size (.cells #[.int .i64 x, .int .i64 y, .int .i64 z] 25))
          clear hb5 HB PA x1 x2 x3 x4 x5 x6 x7 x8 x9 hT
          go_wp2_with fail
          refine (HK.out _).mono ?_
          rintro e w6 ⟨rfl, hb6⟩
          have k6 := K5.out.below hb6 K5.out.lt
          have d0 := k6.cell 0
          have d1 := k6.cell 1
          have d2 := k6.cell 2
          simp at d0 d1 d2
          have K6 := Lib.hid k6
          have B6 := Lib.hid (below_2 A5.out hb6)
          clear hb6 k6 HK
          go_wp2_with fail
          refine (SI.out _).mono ?_
          rintro e w7 ⟨rfl, hb7⟩
          have k7 := K6.out.below hb7 K6.out.lt
          have e0 := k7.cell 0
          have e1 := k7.cell 1
          have e2 := k7.cell 2
          simp at e0 e1 e2
          have B7 := Lib.hid (below_2 B6.out hb7)
          clear hb7 k7 d0 d1 d2
          have hle2 : ¬ ((j : Int) ≤ lz) := by omega
          go_wp2_with fail
          refine (SI.out _).mono ?_
          rintro e w8 ⟨rfl, hb8⟩
          have B8 := Lib.hid (below_2 B7.out hb8)
          clear hb8 e0 e1 e2
          go_wp2_with fail
          go_roundg (gk - 1)
          case measure => omega
          case rel => exact ⟨k + 1, j, by omega, by go_num, rfl, HL2, B8⟩
        · have BE := HB
          clear HB HL HLT HON HAT PT
          go_wp2_with fail
          go_ret
          exact ⟨ret_bool (by first | rfl | simp | exact y3), BE.out⟩

set_option maxRecDepth 100000 in
theorem lifted (os : Os) (started : os.Started) (H : Type) (enc : TypeId × Value → H) :
    ReturnsInHanded {} Try.checked os 6 .any (Rows.fnFormatStatesSpec.pre6 enc Try.prog Try.f6 Rows.fnFormatStatesRow.domain false) (Rows.fnFormatStatesSpec.post enc Try.prog Try.f6 false true false false) := by
  refine returnsInHanded_of_change (C := Try.checked) own started (by kernel_rfl) Try.func6
    (ChangeSpec.witness6 (enc := enc) (C := Try.checked) false ⟨#[], #[.slice none 0 0], []⟩ 8 (by kernel_rfl) (by kernel_rfl) (by kernel_rfl) (by kernel_rfl)) ?_
  intro W base args ds gs before hval0 hW hcnd _
  have hval : ∀ (j : Nat) t v, Try.f6.params[j]? = some t → args[j]? = some v → Value.okWide Try.prog W .any base t v := hval0
  have hW' := hW
  obtain ⟨p, q, hA0, hV, rfl, hfz, hnd⟩ := hW
  have hA : DataW.TrodAll enc Try.prog W 0 (fun _ => true) true Try.f6.params.toList args.toList ds p := hA0
  rw [Try.params6] at hA hval
  obtain ⟨v0, vs0, d0, ds0, p0, q0, hargs, rfl, rfl, h0, r0⟩ := trodAll_cons hA
  obtain ⟨rfl, rfl, rfl⟩ := trodAll_nil r0
  obtain rfl : args = #[v0] := by cases args; simp_all
  obtain ⟨rfl, rfl⟩ := trodVars_none hV
  have k0 := h0
  have lt0 : ∀ x ∈ p0, x.block < W.heap.size := by obtain ⟨m, hm⟩ := k0; exact DataW.trod_lt m _ _ _ hm
  obtain ⟨a0, len0, cap0, rfl⟩ := okWide_slice Try.underlying22 (hval 0 22 v0 rfl rfl)
  obtain ⟨z0, w0⟩ : ∃ zs, IsRow .u8 W a0 len0 cap0 zs := by
    obtain ⟨fuel, hf⟩ := h0
    rcases open_ints Try.underlying22 Try.underlying5 (by kernel_rfl) hf with ⟨hcs, _⟩ | ⟨x, l, c, zs, hcs, _, hl, hm, hz, _, hcell, hwz⟩
    · simp [Value.cells] at hcs
      obtain ⟨rfl, rfl, rfl⟩ := hcs
      exact ⟨[], .inl ⟨rfl, rfl, rfl, rfl⟩⟩
    · simp [Value.cells] at hcs
      obtain ⟨rfl, rfl, rfl⟩ := hcs
      exact ⟨zs, .inr ⟨_, rfl, hl, hm, by simpa using hz, hcell, hwz⟩⟩
  obtain ⟨by0, lc0, cm0⟩ := bytes_of_row w0
  clear hA0 hval0
  refine (walk a0 len0 cap0 W by0 lc0 cm0).mono fun e W' ⟨he, bel⟩ => ?_
  subst he
  exact ⟨_, rfl, _, _, _, [], _, [], hW', trodAll_mk1 (shut_bool Try.underlying4 _), (trodAll_cons_mk (Below.trod laidOut (by kernel_rfl) (of_decide_eq_true (by kernel_rfl)) k0 bel lt0) trodAll_mk0), rfl, bel.frame _, fun h => by cases h⟩

theorem over : Rows.fnFormatStatesRow.holds Try.pinned (OpenSpec.ofChange Rows.fnFormatStatesSpec) :=
  OpenClaim.holds_of_wide 6 Try.f6 rfl rfl rfl rfl rfl rfl rfl ⟨rfl, rfl, rfl, rfl, rfl⟩ rfl rfl rfl rfl rfl (by kernel_rfl) Try.func6 (by kernel_rfl)
    (of_decide_eq_true (by kernel_rfl)) (by unfold Func.isWrapper; first | (rw [if_pos (by decide +kernel)]; kernel_rfl) | (rw [if_neg (by decide +kernel)]; exact ⟨rfl, rfl⟩))
    (fun os started H enc _ => lifted os started H enc)

/-- the statement -/
theorem proved : Rows.FnFormatStatesSaid := over
#print axioms proved
end Go.Proofs.Ytppcghklkldnaab.fnFormatStates
