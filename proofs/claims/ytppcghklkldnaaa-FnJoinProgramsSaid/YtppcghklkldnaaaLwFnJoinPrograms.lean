/- The law FnJoinPrograms holds: for every input it returns true, and writes nothing that was there. No condition. -/
import Derived.Test.YtppcghklkldnaaaSh
import Derived.Test.YtppcghklkldnaaaJs
import Derived.Test.YtppcghklkldnaaaShl
namespace Go.Proofs.Ytppcghklkldnaaa.fnJoinPrograms
open Go.ChangeShapes Go.WideShapes Go.ChangeAt Go.RowKit
open Go.ChangeMaps (open_string shut_string)

open Pl
set_option linter.unusedVariables false

theorem own : ownKnob Try.prog.godebug = none := by kernel_rfl
theorem laidOut : laidOutB Try.prog = true := by kernel_rfl

set_option maxRecDepth 100000 in
set_option maxHeartbeats 16000000 in
theorem walk (a0 : Option Addr) (len0 cap0 : Nat) (w : World) (hb0 : Bytes w a0 len0 w.heap.size) (hl0 : len0 ≤ cap0) (hc0 : cap0 ≤ 9223372036854775807) :
    Calls Try.prog 6 #[.slice a0 len0 cap0] w fun e w' => e = .returned (.bool true) ∧ Below w.heap.size w w' := by
  by_cases hbig : 1048576 < len0
  · clear hb0
    go_enter Try.func6, Try.ntmps6
    go_wp2_with fail
    go_ret
    exact ⟨rfl, by first | exact Below.refl _ _ | exact below_n _ _ | exact (below_n _ _).alloc (by simp) _⟩
  have D := Lib.hid (DrawJoinPrograms_any a0 len0 cap0 w (by omega) hl0 hb0)
  clear hb0
  go_enter Try.func6, Try.ntmps6
  go_wp2_with fail
  refine D.out.mono ?_
  rintro e w1 ⟨P, Q, hP, hQ, rfl, hb1⟩
  have B1 := Lib.hid hb1
  clear D hb1
  have hp : P.size ≤ 1000000000000 := by omega
  have hq : Q.size ≤ 1000000000000 := by omega
  have J := Lib.hid (fun w => JoinPrograms_any P Q hp hq w)
  have JS := Lib.hid (fun w => JoinProgramsS_any P Q hp hq w)
  cases ho : joinO P Q with
  | none =>
    rw [ho] at J JS
    simp only [optT, Option.isSome_none] at J JS
    have q3 : ((bs []).toList != (bs []).toList) = false := by simp
    have q4 : ((bs []).toList == (bs []).toList) = true := by simp
    clear ho
    generalize bs [] = E0 at *
    go_wp2_with fail
    refine (J.out _).mono ?_
    rintro e w2 ⟨rfl, hb2⟩
    have B2 : Hid (Below w.heap.size w w2) := by first | exact Lib.hid (below_2 B1.out hb2) | exact Lib.hid (below_a1 B1.out hb2) | exact Lib.hid (below_a2 B1.out hb2) | exact Lib.hid (below_a3 B1.out hb2)
    clear hb2
    go_wp2_with fail
    refine (JS.out _).mono ?_
    rintro e w3 ⟨rfl, hb3⟩
    have B3 : Hid (Below w.heap.size w w3) := by first | exact Lib.hid (below_2 B2.out hb3) | exact Lib.hid (below_a1 B2.out hb3) | exact Lib.hid (below_a2 B2.out hb3) | exact Lib.hid (below_a3 B2.out hb3)
    clear hb3
    go_wp2_with fail
    go_ret
    exact ⟨rfl, B3.out⟩
  | some K =>
    have hx : ∃ a b, whole false 2 200 P.data.toList = some a ∧ whole false 2 200 Q.data.toList = some b ∧ P.size + Q.size + 1 ≤ 200 ∧ K = .n2 59 a b := by
      unfold joinO at ho
      split at ho
      · split at ho
        · injection ho with ho
          exact ⟨_, _, by assumption, by assumption, by assumption, ho.symm⟩
        · cases ho
      · cases ho
    obtain ⟨a, b, ha, hb, hsz, rfl⟩ := hx
    obtain ⟨_, oka, ta⟩ := (whole_iff (by omega)).1 ha
    obtain ⟨_, okb, tb⟩ := (whole_iff (by omega)).1 hb
    have lP := len_S P
    have lQ := len_S Q
    rw [ta] at lP
    rw [tb] at lQ
    have okK : ok false 2 (.n2 59 a b) = true := by simp [ok, oka, okb]
    have hlK : (Nd.n2 59 a b).text.length ≤ 200 := by simp only [Nd.text, List.length_cons, List.length_append]; omega
    have hwK := whole_text okK hlK
    have hXz : (bs (Nd.n2 59 a b).text).size ≤ 1000000000000 := by rw [bs_size]; omega
    rw [ho] at J JS
    simp only [optT, Option.isSome_some] at J JS
    have PX := Lib.hid (fun w => PartsOf_any (bs (Nd.n2 59 a b).text) hXz w)
    have VX := Lib.hid (fun w => ProgramValid_any (bs (Nd.n2 59 a b).text) hXz w)
    have ZX := Lib.hid (fun w => SizeOf_any (bs (Nd.n2 59 a b).text) hXz w)
    have ZP := Lib.hid (fun w => SizeOf_any P hp w)
    have ZQ := Lib.hid (fun w => SizeOf_any Q hq w)
    have SX := Lib.hid (fun w => ShowProgram_any (bs (Nd.n2 59 a b).text) hXz w)
    have SP := Lib.hid (fun w => ShowProgram_any P hp w)
    have SQ := Lib.hid (fun w => ShowProgram_any Q hq w)
    unfold PartsPost at PX
    rw [bs_list, hwK] at PX VX ZX SX
    rw [ha] at ZP SP
    rw [hb] at ZQ SQ
    have hst : (stm (.n2 59 a b)).length = (stm a).length + (stm b).length + 1 := by simp [stm]
    have s1 := stm_len a
    have s2 := stm_len b
    simp only [oP, oI, oL, Option.isSome_some] at PX VX ZX SX ZP SP ZQ SQ
    rw [hst] at ZX
    rw [shP_59] at SX
    have e1 : prt (.n2 59 a b) = [a, b] := rfl
    rw [e1] at PX
    have eP : bs a.text = P := (nd_lt ta).symm
    have eQ : bs b.text = Q := (nd_lt tb).symm
    have g1 := shP_len a
    have g2 := shP_len b
    have z1 : (bs (shP a)).size ≤ 4000 := by rw [bs_size]; omega
    have z2 : (bs (shP b)).size ≤ 4000 := by rw [bs_size]; omega
    obtain ⟨na, hna⟩ : ∃ v, (stm a).length = v := ⟨_, rfl⟩
    obtain ⟨nb, hnb⟩ : ∃ v, (stm b).length = v := ⟨_, rfl⟩
    rw [hna] at ZP ZX s1
    rw [hnb] at ZQ ZX s2
    have nz1 : na ≤ 200 := by omega
    have nz2 : nb ≤ 200 := by omega
    have HEP := Lib.hid eP
    have HEQ := Lib.hid eQ
    clear ho ha hb oka okb ta tb lP lQ okK hlK hwK hXz hst e1 g1 g2 s1 s2 hna hnb eP eQ
    generalize bs (Nd.n2 59 a b).text = X at *
    generalize bs (shP a) = A at *
    generalize bs (shP b) = C at *
    have q1 : (X.toList != X.toList) = false := by simp
    have q2 : (P.toList == P.toList) = true := by simp
    have q3 : (Q.toList == Q.toList) = true := by simp
    have q4 : ((A ++ ⟨#[59, 32]⟩ ++ C).toList == (A ++ ⟨#[59, 32]⟩ ++ C).toList) = true := by simp
    have y1 : A.size + 2 ≤ 9223372036854775807 := by omega
    have y2 : A.size + 2 + C.size ≤ 9223372036854775807 := by omega
    go_wp2_with fail
    refine (J.out _).mono ?_
    rintro e w2 ⟨rfl, hb2⟩
    have B2 : Hid (Below w.heap.size w w2) := by first | exact Lib.hid (below_2 B1.out hb2) | exact Lib.hid (below_a1 B1.out hb2) | exact Lib.hid (below_a2 B1.out hb2) | exact Lib.hid (below_a3 B1.out hb2)
    clear hb2
    go_wp2_with fail
    refine (JS.out _).mono ?_
    rintro e w3 ⟨rfl, hb3⟩
    have B3 : Hid (Below w.heap.size w w3) := by first | exact Lib.hid (below_2 B2.out hb3) | exact Lib.hid (below_a1 B2.out hb3) | exact Lib.hid (below_a2 B2.out hb3) | exact Lib.hid (below_a3 B2.out hb3)
    clear hb3
    go_wp2_with fail
    refine (PX.out _).mono ?_
    rintro e w4 ⟨v, rfl, hown, hb4⟩
    obtain ⟨aa, cap, rfl, hcap, hsh⟩ := row_shape hown
    obtain ⟨g, rfl, _, hg⟩ := hsh (by simp)
    simp only [List.length_nil, List.length_cons, Nat.reduceAdd, Nat.zero_add] at hcap hown ⊢
    have r0 := row_at (j := 0) hown rfl (by simp)
    have r1 := row_at (j := 1) hown rfl (by simp)
    simp only [List.getElem_cons_zero, List.getElem_cons_succ, sv, HEP.out, HEQ.out] at r0 r1
    have B4 := Lib.hid (below_2 B3.out hb4)
    clear hown hb4 hsh PX B3 HEP HEQ J JS
    go_wp2_with fail
    refine (VX.out _).mono ?_
    rintro e w5 ⟨rfl, hb5⟩
    replace r0 := (hb5.cell (p := ⟨g, 0, none⟩) hg).trans r0
    replace r1 := (hb5.cell (p := ⟨g, 1, none⟩) hg).trans r1
    have B5 := Lib.hid (below_2 B4.out hb5)
    clear hb5 B4
    go_wp2_with fail
    refine (ZX.out _).mono ?_
    rintro e w6 ⟨rfl, hb6⟩
    have B6 : Hid (Below w.heap.size w w6) := by first | exact Lib.hid (below_2 B5.out hb6) | exact Lib.hid (below_a1 B5.out hb6) | exact Lib.hid (below_a2 B5.out hb6) | exact Lib.hid (below_a3 B5.out hb6)
    clear hb6
    go_wp2_with fail
    refine (ZP.out _).mono ?_
    rintro e w7 ⟨rfl, hb7⟩
    have B7 : Hid (Below w.heap.size w w7) := by first | exact Lib.hid (below_2 B6.out hb7) | exact Lib.hid (below_a1 B6.out hb7) | exact Lib.hid (below_a2 B6.out hb7) | exact Lib.hid (below_a3 B6.out hb7)
    clear hb7
    go_wp2_with fail
    refine (ZQ.out _).mono ?_
    rintro e w8 ⟨rfl, hb8⟩
    have B8 : Hid (Below w.heap.size w w8) := by first | exact Lib.hid (below_2 B7.out hb8) | exact Lib.hid (below_a1 B7.out hb8) | exact Lib.hid (below_a2 B7.out hb8) | exact Lib.hid (below_a3 B7.out hb8)
    clear hb8
    go_wp2_with fail
    refine (SX.out _).mono ?_
    rintro e w9 ⟨rfl, hb9⟩
    have B9 : Hid (Below w.heap.size w w9) := by first | exact Lib.hid (below_2 B8.out hb9) | exact Lib.hid (below_a1 B8.out hb9) | exact Lib.hid (below_a2 B8.out hb9) | exact Lib.hid (below_a3 B8.out hb9)
    clear hb9
    go_wp2_with fail
    refine (SP.out _).mono ?_
    rintro e w10 ⟨rfl, hb10⟩
    have B10 : Hid (Below w.heap.size w w10) := by first | exact Lib.hid (below_2 B9.out hb10) | exact Lib.hid (below_a1 B9.out hb10) | exact Lib.hid (below_a2 B9.out hb10) | exact Lib.hid (below_a3 B9.out hb10)
    clear hb10
    go_wp2_with fail
    refine (SQ.out _).mono ?_
    rintro e w11 ⟨rfl, hb11⟩
    have B11 : Hid (Below w.heap.size w w11) := by first | exact Lib.hid (below_2 B10.out hb11) | exact Lib.hid (below_a1 B10.out hb11) | exact Lib.hid (below_a2 B10.out hb11) | exact Lib.hid (below_a3 B10.out hb11)
    clear hb11
    go_wp2_with fail
    go_ret
    exact ⟨ret_bool (by first | rfl | simp), B11.out⟩

set_option maxRecDepth 100000 in
theorem lifted (os : Os) (started : os.Started) (H : Type) (enc : TypeId × Value → H) :
    ReturnsInHanded {} Try.checked os 6 .any (Rows.fnJoinProgramsSpec.pre6 enc Try.prog Try.f6 Rows.fnJoinProgramsRow.domain false) (Rows.fnJoinProgramsSpec.post enc Try.prog Try.f6 false true false false) := by
  refine returnsInHanded_of_change (C := Try.checked) own started (by kernel_rfl) Try.func6
    (ChangeSpec.witness6 (enc := enc) (C := Try.checked) false ⟨#[], #[.slice none 0 0], []⟩ 8 (by kernel_rfl) (by kernel_rfl) (by kernel_rfl) (by kernel_rfl)) ?_
  intro W base args ds gs before hval0 hW hcnd _
  have hval : ∀ (j : Nat) t v, Try.f6.params[j]? = some t → args[j]? = some v → Value.okWide Try.prog W .any base t v := hval0
  have hW' := hW
  obtain ⟨p, q, hA0, hV, rfl, hfz, hnd⟩ := hW
  have hA : DataW.TrodAll enc Try.prog W 0 (fun _ => true) true Try.f6.params.toList args.toList ds p := hA0
  rw [Try.params6] at hA hval
  obtain ⟨v0, vs0, d0, ds0, p0, q0, hargs, rfl, rfl, h0, r0⟩ := trodAll_cons hA
  obtain ⟨rfl, rfl, rfl⟩ := trodAll_nil r0
  obtain rfl : args = #[v0] := by cases args; simp_all
  obtain ⟨rfl, rfl⟩ := trodVars_none hV
  have k0 := h0
  have lt0 : ∀ x ∈ p0, x.block < W.heap.size := by obtain ⟨m, hm⟩ := k0; exact DataW.trod_lt m _ _ _ hm
  obtain ⟨a0, len0, cap0, rfl⟩ := okWide_slice Try.underlying25 (hval 0 25 v0 rfl rfl)
  obtain ⟨z0, w0⟩ : ∃ zs, IsRow .u8 W a0 len0 cap0 zs := by
    obtain ⟨fuel, hf⟩ := h0
    rcases open_ints Try.underlying25 Try.underlying5 (by kernel_rfl) hf with ⟨hcs, _⟩ | ⟨x, l, c, zs, hcs, _, hl, hm, hz, _, hcell, hwz⟩
    · simp [Value.cells] at hcs
      obtain ⟨rfl, rfl, rfl⟩ := hcs
      exact ⟨[], .inl ⟨rfl, rfl, rfl, rfl⟩⟩
    · simp [Value.cells] at hcs
      obtain ⟨rfl, rfl, rfl⟩ := hcs
      exact ⟨zs, .inr ⟨_, rfl, hl, hm, by simpa using hz, hcell, hwz⟩⟩
  obtain ⟨by0, lc0, cm0⟩ := bytes_of_row w0
  clear hA0 hval0
  refine (walk a0 len0 cap0 W by0 lc0 cm0).mono fun e W' ⟨he, bel⟩ => ?_
  subst he
  exact ⟨_, rfl, _, _, _, [], _, [], hW', trodAll_mk1 (shut_bool Try.underlying4 _), (trodAll_cons_mk (Below.trod laidOut (by kernel_rfl) (of_decide_eq_true (by kernel_rfl)) k0 bel lt0) trodAll_mk0), rfl, bel.frame _, fun h => by cases h⟩

theorem over : Rows.fnJoinProgramsRow.holds Try.pinned (OpenSpec.ofChange Rows.fnJoinProgramsSpec) :=
  OpenClaim.holds_of_wide 6 Try.f6 rfl rfl rfl rfl rfl rfl rfl ⟨rfl, rfl, rfl, rfl, rfl⟩ rfl rfl rfl rfl rfl (by kernel_rfl) Try.func6 (by kernel_rfl)
    (of_decide_eq_true (by kernel_rfl)) (by unfold Func.isWrapper; first | (rw [if_pos (by decide +kernel)]; kernel_rfl) | (rw [if_neg (by decide +kernel)]; exact ⟨rfl, rfl⟩))
    (fun os started H enc _ => lifted os started H enc)

/-- the statement -/
theorem proved : Rows.FnJoinProgramsSaid := over
#print axioms proved
end Go.Proofs.Ytppcghklkldnaaa.fnJoinPrograms
