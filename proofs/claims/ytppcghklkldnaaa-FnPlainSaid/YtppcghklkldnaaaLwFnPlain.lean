/- The law FnPlain holds: for every input it returns true, and writes nothing that was there. No condition. -/
import Derived.Test.YtppcghklkldnaaaSy
import Derived.Test.YtppcghklkldnaaaDri
import Derived.Test.YtppcghklkldnaaaShl
namespace Go.Proofs.Ytppcghklkldnaaa.fnPlain
open Go.ChangeShapes Go.WideShapes Go.ChangeAt Go.RowKit
open Go.ChangeMaps (open_string shut_string)

open Pl
set_option linter.unusedVariables false

theorem own : ownKnob Try.prog.godebug = none := by kernel_rfl
theorem laidOut : laidOutB Try.prog = true := by kernel_rfl

def pl (k : Nd) : Bool := decide (cntN (inO ⟨#[47, 126]⟩) (stm k) = 0)
theorem pl_eq (k : Nd) : pl k = ((!(k.op == 47) && !(k.op == 126)) && decide (cntN (inO ⟨#[47, 126]⟩) (stmL (prt k)) = 0)) := by
  have h1 : inO ⟨#[47, 126]⟩ k.op = (k.op == 47 || k.op == 126) := by
    rw [Bool.eq_iff_iff]
    have := mem_in (O := [47, 126]) (c := k.op)
    simp only [List.mem_cons, List.not_mem_nil, or_false] at this
    simp only [Bool.or_eq_true, beq_iff_eq]
    exact this
  unfold pl
  rw [stm_eq, cntN, h1]
  cases k.op == 47 <;> cases k.op == 126 <;> simp
theorem cnt_take {f : UInt8 → Bool} {ps : List Nd} {j : Nat} (h : j < ps.length) : cntN f (stmL (ps.take (j + 1))) = cntN f (stmL (ps.take j)) + cntN f (stm ps[j]) := by
  rw [stmL_take h, cntN_append]
set_option maxRecDepth 100000 in
set_option maxHeartbeats 8000000 in
theorem walk (a0 : Option Addr) (len0 cap0 : Nat) (w : World) (hb0 : Bytes w a0 len0 w.heap.size) (hl0 : len0 ≤ cap0) (hc0 : cap0 ≤ 9223372036854775807) :
    Calls Try.prog 5 #[.slice a0 len0 cap0] w fun e w' => e = .returned (.bool true) ∧ Below w.heap.size w w' := by
  by_cases hbig : 1048576 < len0
  · clear hb0
    go_enter Try.func5, Try.ntmps5
    go_wp2_with fail
    go_ret
    exact ⟨rfl, by first | exact Below.refl _ _ | exact below_n _ _ | exact (below_n _ _).alloc (by simp) _⟩
  have D := Lib.hid (DrawIsPlain_any a0 len0 cap0 w (by omega) hl0 hb0)
  clear hb0
  go_enter Try.func5, Try.ntmps5
  go_wp2_with fail
  refine D.out.mono ?_
  rintro e w1 ⟨S, hS, rfl, hb1⟩
  have B1 := Lib.hid hb1
  clear D hb1
  have hs : S.size ≤ 1000000000000 := by omega
  have V := Lib.hid (fun w => IsPlain_any S hs w)
  have VS := Lib.hid (fun w => IsPlainS_any S hs w)
  have PV := Lib.hid (fun w => ProgramValid_any S hs w)
  have PP := Lib.hid (fun w => PartsOf_any S hs w)
  cases ho : whole false 2 200 S.data.toList with
  | none =>
    rw [ho] at V VS PV
    simp only [oB, Option.isSome_none] at V VS PV
    clear PP ho
    go_wp2_with fail
    refine (V.out _).mono ?_
    rintro e w2 ⟨rfl, hb2⟩
    have B2 : Hid (Below w.heap.size w w2) := by first | exact Lib.hid (below_2 B1.out hb2) | exact Lib.hid (below_a1 B1.out hb2) | exact Lib.hid (below_a2 B1.out hb2) | exact Lib.hid (below_a3 B1.out hb2)
    clear hb2
    go_wp2_with fail
    refine (VS.out _).mono ?_
    rintro e w3 ⟨rfl, hb3⟩
    have B3 : Hid (Below w.heap.size w w3) := by first | exact Lib.hid (below_2 B2.out hb3) | exact Lib.hid (below_a1 B2.out hb3) | exact Lib.hid (below_a2 B2.out hb3) | exact Lib.hid (below_a3 B2.out hb3)
    clear hb3
    go_wp2_with fail
    refine (PV.out _).mono ?_
    rintro e w4 ⟨rfl, hb4⟩
    have B4 : Hid (Below w.heap.size w w4) := by first | exact Lib.hid (below_2 B3.out hb4) | exact Lib.hid (below_a1 B3.out hb4) | exact Lib.hid (below_a2 B3.out hb4) | exact Lib.hid (below_a3 B3.out hb4)
    clear hb4
    go_wp2_with fail
    refine (VS.out _).mono ?_
    rintro e w5 ⟨rfl, hb5⟩
    have B5 : Hid (Below w.heap.size w w5) := by first | exact Lib.hid (below_2 B4.out hb5) | exact Lib.hid (below_a1 B4.out hb5) | exact Lib.hid (below_a2 B4.out hb5) | exact Lib.hid (below_a3 B4.out hb5)
    clear hb5
    go_wp2_with fail
    refine (PV.out _).mono ?_
    rintro e w6 ⟨rfl, hb6⟩
    have B6 : Hid (Below w.heap.size w w6) := by first | exact Lib.hid (below_2 B5.out hb6) | exact Lib.hid (below_a1 B5.out hb6) | exact Lib.hid (below_a2 B5.out hb6) | exact Lib.hid (below_a3 B5.out hb6)
    clear hb6
    go_wp2_with fail
    go_ret
    exact ⟨rfl, B6.out⟩
  | some k =>
    obtain ⟨hl, hk, ht⟩ := (whole_iff (by omega)).1 ho
    have hl2 : k.text.length ≤ 200 := by rw [← ht]; exact hl
    obtain ⟨hp0, hop⟩ := op_at ht
    rw [ho] at V VS PV PP
    simp only [oB, oP, Option.isSome_some] at V VS PV PP
    have hps : ∀ x ∈ prt k, ok false 2 x = true ∧ x.text.length ≤ 200 := fun x hx => ⟨prt_ok hk x hx, by have := prt_short hx; omega⟩
    have IX := Lib.hid (fun x (hx : x ∈ prt k) w => IsPlain_any (bs x.text) (by rw [bs_size]; have := (hps x hx).2; omega) w)
    have HW := Lib.hid (fun x (hx : x ∈ prt k) => whole_text (hps x hx).1 (hps x hx).2)
    have hpe := pl_eq k
    have hpk : decide (cntN (inO ⟨#[47, 126]⟩) (stm k) = 0) = pl k := rfl
    have hz : (prt k).length ≤ 2 := prt_len
    rw [hpk] at V VS
    obtain ⟨pk, hpk2⟩ : ∃ v, pl k = v := ⟨_, rfl⟩
    rw [hpk2] at V VS hpe
    have q2 : (pk != pk) = false := by simp
    generalize prt k = ps at *
    obtain ⟨N, hN⟩ : ∃ N, ps.length = N := ⟨_, rfl⟩
    rw [hN] at hz
    have HN := Lib.hid hN
    have HPE := Lib.hid hpe
    clear hpe hpk hpk2 hN hps ho hl hk ht hl2
    go_wp2_with fail
    refine (V.out _).mono ?_
    rintro e w2 ⟨rfl, hb2⟩
    have B2 : Hid (Below w.heap.size w w2) := by first | exact Lib.hid (below_2 B1.out hb2) | exact Lib.hid (below_a1 B1.out hb2) | exact Lib.hid (below_a2 B1.out hb2) | exact Lib.hid (below_a3 B1.out hb2)
    clear hb2
    go_wp2_with fail
    refine (VS.out _).mono ?_
    rintro e w3 ⟨rfl, hb3⟩
    have B3 : Hid (Below w.heap.size w w3) := by first | exact Lib.hid (below_2 B2.out hb3) | exact Lib.hid (below_a1 B2.out hb3) | exact Lib.hid (below_a2 B2.out hb3) | exact Lib.hid (below_a3 B2.out hb3)
    clear hb3
    go_wp2_with fail
    refine (PV.out _).mono ?_
    rintro e w4 ⟨rfl, hb4⟩
    have B4 : Hid (Below w.heap.size w w4) := by first | exact Lib.hid (below_2 B3.out hb4) | exact Lib.hid (below_a1 B3.out hb4) | exact Lib.hid (below_a2 B3.out hb4) | exact Lib.hid (below_a3 B3.out hb4)
    clear hb4
    clear V VS PV
    have hw : ∃ A0 : Bool, ((A0 = false ∧ (k.op = 47 ∨ k.op = 126)) ∨ (A0 = true ∧ k.op ≠ 47 ∧ k.op ≠ 126)) ∧ (!(k.op == 47) && !(k.op == 126)) = A0 := by
      by_cases h1 : k.op = 47
      · exact ⟨false, .inl ⟨rfl, .inl h1⟩, by simp [h1]⟩
      · by_cases h2 : k.op = 126
        · exact ⟨false, .inl ⟨rfl, .inr h2⟩, by simp [h2]⟩
        · exact ⟨true, .inr ⟨rfl, h1, h2⟩, by simp [h1, h2]⟩
    obtain ⟨A0, hA0, hA1⟩ := hw
    rw [hA1] at HPE
    clear hA1
    have HS0 : ∀ x : Bool, x = A0 → Hid (x = (A0 && decide (cntN (inO ⟨#[47, 126]⟩) (stmL (ps.take 0)) = 0))) := fun x hx => by
      show x = _
      rw [hx]; simp [stmL, cntN]
    rcases hA0 with ⟨hA0, h47 | h126⟩ | ⟨hA0, h47, h126⟩
    case' inl.inl => rw [h47] at hop; clear h47
    case' inl.inr =>
      rw [h126] at hop
      clear h126
    case' inr =>
      have e1 := u8_ne 47 h47 (by decide)
      have e2 := u8_ne 126 h126 (by decide)
      simp only [Int.cast_ofNat_Int] at e1 e2
      have e3 : ((k.op.toNat : Int) != 47) = true := by simpa using e1
      have e4 : ((k.op.toNat : Int) != 126) = true := by simpa using e2
      clear h47 h126
      generalize k.op = o at *
    all_goals
      have HA := HS0 _ hA0.symm
      have HA0 := Lib.hid hA0
      clear HS0 hA0
      go_wp2_with fail
      refine (PP.out _).mono ?_
      rintro e w5 ⟨v, rfl, hown, hb5⟩
      rw [HN.out] at hown
      obtain ⟨a, cap, rfl, hcap, hsh⟩ := row_shape hown
      have R0 : Hid (w5.ownsRow w4.heap.size 9 1 (.slice a N cap) N (ps.map sv)) := hown
      have B5 := Lib.hid (below_2 B4.out hb5)
      have HSH := Lib.hid hsh
      clear hown hb5 hsh PP
      go_wp2_with fail
      go_loopg [5, 7] N (fun gk q i wr => ∃ (j : Nat) (A : Bool), j + gk = N ∧ i = .int .i64 j ∧ q = .bool A ∧ Hid (A = (A0 && decide (cntN (inO ⟨#[47, 126]⟩) (stmL (ps.take j)) = 0))) ∧ Hid (wr.ownsRow w4.heap.size 9 1 (.slice a N cap) N (ps.map sv)) ∧ Hid (Below w.heap.size w wr))
      case atStart => exact ⟨0, _, by omega, rfl, rfl, HA, R0, B5⟩
      case round =>
        clear R0 B5 HA
        obtain ⟨j, A, hj, rfl, rfl, HA, R, B⟩ := hrel
        by_cases hlt : j < N
        · obtain ⟨g, rfl, _, _⟩ := HSH.out (by omega)
          have hjp : j < ps.length := by rw [HN.out]; exact hlt
          have hc : wr.cell? ⟨g, j, none⟩ = some (.string (bs ps[j].text)) := row_at R.out HN.out hjp
          have hct := cnt_take (f := inO ⟨#[47, 126]⟩) hjp
          cases A
          · have HA2 : Hid (false = (A0 && decide (cntN (inO ⟨#[47, 126]⟩) (stmL (ps.take (j + 1))) = 0))) := by
              have h := HA.out
              show false = _
              rw [hct]
              cases A0
              · rfl
              · simp at h ⊢; omega
            generalize bs ps[j].text = T at *
            clear hct HA
            go_wp2_with fail
            go_roundg (gk - 1)
            case measure => omega
            case rel => exact ⟨j + 1, false, by omega, by go_num, rfl, HA2, R, B⟩
          · have FX := Lib.hid (fun w => IX.out ps[j] (List.getElem_mem _) w)
            have hw := HW.out ps[j] (List.getElem_mem _)
            simp only [bs_list, hw, oB] at FX
            have HA2 : Hid (decide (cntN (inO ⟨#[47, 126]⟩) (stm ps[j]) = 0) = (A0 && decide (cntN (inO ⟨#[47, 126]⟩) (stmL (ps.take (j + 1))) = 0))) := by
              have h := HA.out
              show decide (cntN (inO ⟨#[47, 126]⟩) (stm ps[j]) = 0) = _
              rw [hct]
              cases A0
              · simp at h
              · simp at h; rw [h]; simp
            generalize decide (cntN (inO ⟨#[47, 126]⟩) (stm ps[j]) = 0) = A2 at *
            generalize bs ps[j].text = T at *
            clear hct HA hw
            go_wp2_with fail
            refine (FX.out _).mono ?_
            rintro e w6 ⟨rfl, hb6⟩
            have R6 := Lib.hid (row_call R.out hb6)
            have B6 := Lib.hid (below_2 B.out hb6)
            clear hb6 R B hc FX
            go_wp2_with fail
            go_roundg (gk - 1)
            case measure => omega
            case rel => exact ⟨j + 1, A2, by omega, by go_num, rfl, HA2, R6, B6⟩
        · have e : ps.take j = ps := List.take_of_length_le (by rw [HN.out]; omega)
          rw [e] at HA
          have hAp : pk = A := by rw [HPE.out, HA.out]
          have HAP : Hid ((pk == A) = true) := by show (pk == A) = true; simp [hAp]
          clear e HA hAp
          go_wp2_with fail
          go_ret
          exact ⟨ret_bool HAP.out, B.out⟩

set_option maxRecDepth 100000 in
theorem lifted (os : Os) (started : os.Started) (H : Type) (enc : TypeId × Value → H) :
    ReturnsInHanded {} Try.checked os 5 .any (Rows.fnPlainSpec.pre6 enc Try.prog Try.f5 Rows.fnPlainRow.domain false) (Rows.fnPlainSpec.post enc Try.prog Try.f5 false true false false) := by
  refine returnsInHanded_of_change (C := Try.checked) own started (by kernel_rfl) Try.func5
    (ChangeSpec.witness6 (enc := enc) (C := Try.checked) false ⟨#[], #[.slice none 0 0], []⟩ 8 (by kernel_rfl) (by kernel_rfl) (by kernel_rfl) (by kernel_rfl)) ?_
  intro W base args ds gs before hval0 hW hcnd _
  have hval : ∀ (j : Nat) t v, Try.f5.params[j]? = some t → args[j]? = some v → Value.okWide Try.prog W .any base t v := hval0
  have hW' := hW
  obtain ⟨p, q, hA0, hV, rfl, hfz, hnd⟩ := hW
  have hA : DataW.TrodAll enc Try.prog W 0 (fun _ => true) true Try.f5.params.toList args.toList ds p := hA0
  rw [Try.params5] at hA hval
  obtain ⟨v0, vs0, d0, ds0, p0, q0, hargs, rfl, rfl, h0, r0⟩ := trodAll_cons hA
  obtain ⟨rfl, rfl, rfl⟩ := trodAll_nil r0
  obtain rfl : args = #[v0] := by cases args; simp_all
  obtain ⟨rfl, rfl⟩ := trodVars_none hV
  have k0 := h0
  have lt0 : ∀ x ∈ p0, x.block < W.heap.size := by obtain ⟨m, hm⟩ := k0; exact DataW.trod_lt m _ _ _ hm
  obtain ⟨a0, len0, cap0, rfl⟩ := okWide_slice Try.underlying25 (hval 0 25 v0 rfl rfl)
  obtain ⟨z0, w0⟩ : ∃ zs, IsRow .u8 W a0 len0 cap0 zs := by
    obtain ⟨fuel, hf⟩ := h0
    rcases open_ints Try.underlying25 Try.underlying5 (by kernel_rfl) hf with ⟨hcs, _⟩ | ⟨x, l, c, zs, hcs, _, hl, hm, hz, _, hcell, hwz⟩
    · simp [Value.cells] at hcs
      obtain ⟨rfl, rfl, rfl⟩ := hcs
      exact ⟨[], .inl ⟨rfl, rfl, rfl, rfl⟩⟩
    · simp [Value.cells] at hcs
      obtain ⟨rfl, rfl, rfl⟩ := hcs
      exact ⟨zs, .inr ⟨_, rfl, hl, hm, by simpa using hz, hcell, hwz⟩⟩
  obtain ⟨by0, lc0, cm0⟩ := bytes_of_row w0
  clear hA0 hval0
  refine (walk a0 len0 cap0 W by0 lc0 cm0).mono fun e W' ⟨he, bel⟩ => ?_
  subst he
  exact ⟨_, rfl, _, _, _, [], _, [], hW', trodAll_mk1 (shut_bool Try.underlying4 _), (trodAll_cons_mk (Below.trod laidOut (by kernel_rfl) (of_decide_eq_true (by kernel_rfl)) k0 bel lt0) trodAll_mk0), rfl, bel.frame _, fun h => by cases h⟩

theorem over : Rows.fnPlainRow.holds Try.pinned (OpenSpec.ofChange Rows.fnPlainSpec) :=
  OpenClaim.holds_of_wide 5 Try.f5 rfl rfl rfl rfl rfl rfl rfl ⟨rfl, rfl, rfl, rfl, rfl⟩ rfl rfl rfl rfl rfl (by kernel_rfl) Try.func5 (by kernel_rfl)
    (of_decide_eq_true (by kernel_rfl)) (by unfold Func.isWrapper; first | (rw [if_pos (by decide +kernel)]; kernel_rfl) | (rw [if_neg (by decide +kernel)]; exact ⟨rfl, rfl⟩))
    (fun os started H enc _ => lifted os started H enc)

/-- the statement -/
theorem proved : Rows.FnPlainSaid := over
#print axioms proved
end Go.Proofs.Ytppcghklkldnaaa.fnPlain
