/- The law FnSizes holds: for every input it returns true, and writes nothing that was there. No condition. -/
import Derived.Test.YtppcghklkldnaaaSy
import Derived.Test.YtppcghklkldnaaaDri
import Derived.Test.YtppcghklkldnaaaShl
namespace Go.Proofs.Ytppcghklkldnaaa.fnSizes
open Go.ChangeShapes Go.WideShapes Go.ChangeAt Go.RowKit
open Go.ChangeMaps (open_string shut_string)

open Pl
set_option linter.unusedVariables false

theorem own : ownKnob Try.prog.godebug = none := by kernel_rfl
theorem laidOut : laidOutB Try.prog = true := by kernel_rfl

theorem cnt_take {f : UInt8 → Bool} {ps : List Nd} {j : Nat} (h : j < ps.length) : cntN f (stmL (ps.take (j + 1))) = cntN f (stmL (ps.take j)) + cntN f (stm ps[j]) := by
  rw [stmL_take h, cntN_append]
theorem cnt_one (k : Nd) : cntN (inO ⟨#[64]⟩) (stm k) = (if k.op = 64 then 1 else 0) + cntN (inO ⟨#[64]⟩) (stmL (prt k)) := by
  have h1 : (inO ⟨#[64]⟩ k.op = true) ↔ k.op = 64 := by
    have := mem_in (O := [64]) (c := k.op)
    simp only [List.mem_singleton] at this
    exact this
  rw [stm_eq, cntN]
  congr 1
  by_cases h : k.op = 64
  · rw [if_pos h, if_pos (h1.2 h)]
  · rw [if_neg h, if_neg (fun e => h (h1.1 e))]
set_option maxRecDepth 100000 in
set_option maxHeartbeats 8000000 in
theorem walk (a0 : Option Addr) (len0 cap0 : Nat) (w : World) (hb0 : Bytes w a0 len0 w.heap.size) (hl0 : len0 ≤ cap0) (hc0 : cap0 ≤ 9223372036854775807) :
    Calls Try.prog 8 #[.slice a0 len0 cap0] w fun e w' => e = .returned (.bool true) ∧ Below w.heap.size w w' := by
  by_cases hbig : 1048576 < len0
  · clear hb0
    go_enter Try.func8, Try.ntmps8
    go_wp2_with fail
    go_ret
    exact ⟨rfl, by first | exact Below.refl _ _ | exact below_n _ _ | exact (below_n _ _).alloc (by simp) _⟩
  have D := Lib.hid (DrawSizeOf_any a0 len0 cap0 w (by omega) hl0 hb0)
  clear hb0
  go_enter Try.func8, Try.ntmps8
  go_wp2_with fail
  refine D.out.mono ?_
  rintro e w1 ⟨S, hS, rfl, hb1⟩
  have B1 := Lib.hid hb1
  clear D hb1
  have hs : S.size ≤ 1000000000000 := by omega
  have P := Lib.hid (fun w => PartsOf_any S hs w)
  have Z := Lib.hid (fun w => SizeOf_any S hs w)
  have ZS := Lib.hid (fun w => SizeOfS_any S hs w)
  have E := Lib.hid (fun w => DepthOf_any S hs w)
  have ES := Lib.hid (fun w => DepthOfS_any S hs w)
  have C := Lib.hid (fun w => LoopCount_any S hs w)
  have CS := Lib.hid (fun w => LoopCountS_any S hs w)
  have V := Lib.hid (fun w => ProgramValid_any S hs w)
  cases ho : whole false 2 200 S.data.toList with
  | none =>
    rw [ho] at P Z ZS E ES C CS V
    simp only [oI, oP, Option.isSome_none] at P Z ZS E ES C CS V
    clear ho P
    go_wp2_with fail
    refine (Z.out _).mono ?_
    rintro e w2 ⟨rfl, hb2⟩
    have B2 : Hid (Below w.heap.size w w2) := by first | exact Lib.hid (below_2 B1.out hb2) | exact Lib.hid (below_a1 B1.out hb2) | exact Lib.hid (below_a2 B1.out hb2) | exact Lib.hid (below_a3 B1.out hb2)
    clear hb2
    go_wp2_with fail
    refine (E.out _).mono ?_
    rintro e w3 ⟨rfl, hb3⟩
    have B3 : Hid (Below w.heap.size w w3) := by first | exact Lib.hid (below_2 B2.out hb3) | exact Lib.hid (below_a1 B2.out hb3) | exact Lib.hid (below_a2 B2.out hb3) | exact Lib.hid (below_a3 B2.out hb3)
    clear hb3
    go_wp2_with fail
    refine (C.out _).mono ?_
    rintro e w4 ⟨rfl, hb4⟩
    have B4 : Hid (Below w.heap.size w w4) := by first | exact Lib.hid (below_2 B3.out hb4) | exact Lib.hid (below_a1 B3.out hb4) | exact Lib.hid (below_a2 B3.out hb4) | exact Lib.hid (below_a3 B3.out hb4)
    clear hb4
    go_wp2_with fail
    refine (ZS.out _).mono ?_
    rintro e w5 ⟨rfl, hb5⟩
    have B5 : Hid (Below w.heap.size w w5) := by first | exact Lib.hid (below_2 B4.out hb5) | exact Lib.hid (below_a1 B4.out hb5) | exact Lib.hid (below_a2 B4.out hb5) | exact Lib.hid (below_a3 B4.out hb5)
    clear hb5
    go_wp2_with fail
    refine (ES.out _).mono ?_
    rintro e w6 ⟨rfl, hb6⟩
    have B6 : Hid (Below w.heap.size w w6) := by first | exact Lib.hid (below_2 B5.out hb6) | exact Lib.hid (below_a1 B5.out hb6) | exact Lib.hid (below_a2 B5.out hb6) | exact Lib.hid (below_a3 B5.out hb6)
    clear hb6
    go_wp2_with fail
    refine (CS.out _).mono ?_
    rintro e w7 ⟨rfl, hb7⟩
    have B7 : Hid (Below w.heap.size w w7) := by first | exact Lib.hid (below_2 B6.out hb7) | exact Lib.hid (below_a1 B6.out hb7) | exact Lib.hid (below_a2 B6.out hb7) | exact Lib.hid (below_a3 B6.out hb7)
    clear hb7
    go_wp2_with fail
    refine (ZS.out _).mono ?_
    rintro e w8 ⟨rfl, hb8⟩
    have B8 : Hid (Below w.heap.size w w8) := by first | exact Lib.hid (below_2 B7.out hb8) | exact Lib.hid (below_a1 B7.out hb8) | exact Lib.hid (below_a2 B7.out hb8) | exact Lib.hid (below_a3 B7.out hb8)
    clear hb8
    go_wp2_with fail
    refine (ES.out _).mono ?_
    rintro e w9 ⟨rfl, hb9⟩
    have B9 : Hid (Below w.heap.size w w9) := by first | exact Lib.hid (below_2 B8.out hb9) | exact Lib.hid (below_a1 B8.out hb9) | exact Lib.hid (below_a2 B8.out hb9) | exact Lib.hid (below_a3 B8.out hb9)
    clear hb9
    go_wp2_with fail
    refine (CS.out _).mono ?_
    rintro e w10 ⟨rfl, hb10⟩
    have B10 : Hid (Below w.heap.size w w10) := by first | exact Lib.hid (below_2 B9.out hb10) | exact Lib.hid (below_a1 B9.out hb10) | exact Lib.hid (below_a2 B9.out hb10) | exact Lib.hid (below_a3 B9.out hb10)
    clear hb10
    go_wp2_with fail
    refine (V.out _).mono ?_
    rintro e w11 ⟨rfl, hb11⟩
    have B11 : Hid (Below w.heap.size w w11) := by first | exact Lib.hid (below_2 B10.out hb11) | exact Lib.hid (below_a1 B10.out hb11) | exact Lib.hid (below_a2 B10.out hb11) | exact Lib.hid (below_a3 B10.out hb11)
    clear hb11
    go_wp2_with fail
    go_ret
    exact ⟨rfl, B11.out⟩
  | some k =>
    obtain ⟨hl, hk, ht⟩ := (whole_iff (by omega)).1 ho
    have hl2 : k.text.length ≤ 200 := by rw [← ht]; exact hl
    obtain ⟨hp0, hop⟩ := op_at ht
    rw [ho] at P Z ZS E ES C CS V
    simp only [oI, oP, Option.isSome_some] at P Z ZS E ES C CS V
    have hps : ∀ x ∈ prt k, ok false 2 x = true ∧ x.text.length ≤ 200 := fun x hx => ⟨prt_ok hk x hx, by have := prt_short hx; omega⟩
    have hxs : ∀ x ∈ prt k, (bs x.text).size ≤ 1000000000000 := fun x hx => by rw [bs_size]; have := (hps x hx).2; omega
    have IZ := Lib.hid (fun x (hx : x ∈ prt k) w => SizeOf_any (bs x.text) (hxs x hx) w)
    have IE := Lib.hid (fun x (hx : x ∈ prt k) w => DepthOf_any (bs x.text) (hxs x hx) w)
    have IC := Lib.hid (fun x (hx : x ∈ prt k) w => LoopCount_any (bs x.text) (hxs x hx) w)
    have HW := Lib.hid (fun x (hx : x ∈ prt k) => whole_text (hps x hx).1 (hps x hx).2)
    have hz : (prt k).length ≤ 2 := prt_len
    have e1 : (stm k).length = 1 + (stmL (prt k)).length := by rw [stm_eq]; simp; omega
    have e2 := dep_eq k
    have e3 := cnt_one k
    have e4 := dep_le k
    have b1 : (stm k).length ≤ 200 := by have := stm_len k; omega
    have b3 := cntN_le (inO ⟨#[64]⟩) (stm k)
    generalize cntN (inO ⟨#[64]⟩) (stm k) = c0 at *
    generalize (stm k).length = s0 at *
    generalize depN k = d0 at *
    have q1 : ((s0 : Int) != (s0 : Int)) = false := by simp
    have q2 : ((d0 : Int) != (d0 : Int)) = false := by simp
    have q3 : ((c0 : Int) != (c0 : Int)) = false := by simp
    generalize prt k = ps at *
    obtain ⟨N, hN⟩ : ∃ N, ps.length = N := ⟨_, rfl⟩
    rw [hN] at hz
    have HN := Lib.hid hN
    have HE1 := Lib.hid e1
    have HE2 := Lib.hid e2
    have HE3 := Lib.hid e3
    clear hps hxs ho hl hk ht hl2 hN e1 e2 e3
    go_wp2_with fail
    refine (Z.out _).mono ?_
    rintro e w2 ⟨rfl, hb2⟩
    have B2 : Hid (Below w.heap.size w w2) := by first | exact Lib.hid (below_2 B1.out hb2) | exact Lib.hid (below_a1 B1.out hb2) | exact Lib.hid (below_a2 B1.out hb2) | exact Lib.hid (below_a3 B1.out hb2)
    clear hb2
    go_wp2_with fail
    refine (E.out _).mono ?_
    rintro e w3 ⟨rfl, hb3⟩
    have B3 : Hid (Below w.heap.size w w3) := by first | exact Lib.hid (below_2 B2.out hb3) | exact Lib.hid (below_a1 B2.out hb3) | exact Lib.hid (below_a2 B2.out hb3) | exact Lib.hid (below_a3 B2.out hb3)
    clear hb3
    go_wp2_with fail
    refine (C.out _).mono ?_
    rintro e w4 ⟨rfl, hb4⟩
    have B4 : Hid (Below w.heap.size w w4) := by first | exact Lib.hid (below_2 B3.out hb4) | exact Lib.hid (below_a1 B3.out hb4) | exact Lib.hid (below_a2 B3.out hb4) | exact Lib.hid (below_a3 B3.out hb4)
    clear hb4
    go_wp2_with fail
    refine (ZS.out _).mono ?_
    rintro e w5 ⟨rfl, hb5⟩
    have B5 : Hid (Below w.heap.size w w5) := by first | exact Lib.hid (below_2 B4.out hb5) | exact Lib.hid (below_a1 B4.out hb5) | exact Lib.hid (below_a2 B4.out hb5) | exact Lib.hid (below_a3 B4.out hb5)
    clear hb5
    go_wp2_with fail
    refine (ES.out _).mono ?_
    rintro e w6 ⟨rfl, hb6⟩
    have B6 : Hid (Below w.heap.size w w6) := by first | exact Lib.hid (below_2 B5.out hb6) | exact Lib.hid (below_a1 B5.out hb6) | exact Lib.hid (below_a2 B5.out hb6) | exact Lib.hid (below_a3 B5.out hb6)
    clear hb6
    go_wp2_with fail
    refine (CS.out _).mono ?_
    rintro e w7 ⟨rfl, hb7⟩
    have B7 : Hid (Below w.heap.size w w7) := by first | exact Lib.hid (below_2 B6.out hb7) | exact Lib.hid (below_a1 B6.out hb7) | exact Lib.hid (below_a2 B6.out hb7) | exact Lib.hid (below_a3 B6.out hb7)
    clear hb7
    clear Z E C ZS ES CS V
    go_wp2_with fail
    refine (P.out _).mono ?_
    rintro e w8 ⟨v, rfl, hown, hb8⟩
    rw [HN.out] at hown
    obtain ⟨a, cap, rfl, hcap, hsh⟩ := row_shape hown
    have R0 : Hid (w8.ownsRow w7.heap.size 9 1 (.slice a N cap) N (ps.map sv)) := hown
    have B8 := Lib.hid (below_2 B7.out hb8)
    have HSH := Lib.hid hsh
    clear hown hb8 hsh P B7
    have hz0 : (stmL (ps.take 0)).length = 0 := rfl
    have hd0 : depL (ps.take 0) = 0 := rfl
    have hc0 : cntN (inO ⟨#[64]⟩) (stmL (ps.take 0)) = 0 := rfl
    have HZ0 := Lib.hid hz0
    have HD0 := Lib.hid hd0
    have HC0 := Lib.hid hc0
    clear hz0 hd0 hc0
    by_cases h64 : k.op = 64
    case' pos =>
      rw [h64] at hop
      rw [if_pos h64] at HE3
      clear h64
      obtain ⟨A0, hA0⟩ : ∃ A0 : Nat, 1 = A0 := ⟨_, rfl⟩
      rw [hA0] at HE3
      have hA1 : A0 ≤ 1 := by omega
      have HA0 : Hid ((1 : Int) = (A0 : Int)) := by show (1 : Int) = _; omega
    case' neg =>
      have e1 := u8_ne 64 h64 (by decide)
      simp only [Int.cast_ofNat_Int] at e1
      rw [if_neg h64] at HE3
      clear h64
      generalize k.op = o at *
      obtain ⟨A0, hA0⟩ : ∃ A0 : Nat, 0 = A0 := ⟨_, rfl⟩
      rw [hA0] at HE3
      have hA1 : A0 ≤ 1 := by omega
      have HA0 : Hid ((0 : Int) = (A0 : Int)) := by show (0 : Int) = _; omega
    all_goals
      clear hA0
      go_wp2_with fail
      go_loopg [8, 9, 10, 11] N (fun gk z d c i wr => ∃ (j Z D C : Nat), j + gk = N ∧ i = .int .i64 j ∧ z = .int .i64 Z ∧ d = .int .i64 D ∧ c = .int .i64 C ∧ Z ≤ 200 * j + 1 ∧ D ≤ 200 ∧ C ≤ 200 * j + 1 ∧ Hid (Z = 1 + (stmL (ps.take j)).length) ∧ Hid (D = depL (ps.take j)) ∧ Hid (C = A0 + cntN (inO ⟨#[64]⟩) (stmL (ps.take j))) ∧ Hid (wr.ownsRow w7.heap.size 9 1 (.slice a N cap) N (ps.map sv)) ∧ Hid (Below w.heap.size w wr))
      case atStart => exact ⟨0, 1, 0, A0, by omega, rfl, rfl, rfl, by rw [← HA0.out], by omega, by omega, by omega, Lib.hid rfl, Lib.hid rfl, Lib.hid rfl, R0, B8⟩
      case round =>
        clear R0 B8
        obtain ⟨j, Z, D, C, hj, rfl, rfl, rfl, rfl, hZ, hD, hC, HZ, HD, HC, R, B⟩ := hrel
        by_cases hlt : j < N
        · obtain ⟨g, rfl, _, _⟩ := HSH.out (by omega)
          have hjp : j < ps.length := by rw [HN.out]; exact hlt
          have hc : wr.cell? ⟨g, j, none⟩ = some (.string (bs ps[j].text)) := row_at R.out HN.out hjp
          have hg : g < wr.heap.size := (R.out.lt g rfl).2
          have FZ := Lib.hid (fun w => IZ.out ps[j] (List.getElem_mem _) w)
          have FE := Lib.hid (fun w => IE.out ps[j] (List.getElem_mem _) w)
          have FC := Lib.hid (fun w => IC.out ps[j] (List.getElem_mem _) w)
          have hw := HW.out ps[j] (List.getElem_mem _)
          simp only [bs_list, hw, oI] at FZ FE FC
          have hl1 : ps[j].text.length ≤ 200 := ((whole_iff (by omega)).1 hw).1
          have u1 := stm_len ps[j]
          have u2 := dep_le ps[j]
          have u3' := cntN_le (inO ⟨#[64]⟩) (stm ps[j])
          have HZ2 : Hid (Z + (stm ps[j]).length = 1 + (stmL (ps.take (j + 1))).length) := by
            have h := HZ.out
            show Z + (stm ps[j]).length = _
            rw [stmL_take hjp, List.length_append]
            omega
          have HD2 : Hid (max D (depN ps[j]) = depL (ps.take (j + 1))) := by
            have h1 := depL_take hjp
            have h2 := HD.out
            show max D (depN ps[j]) = _
            rw [h1, h2]
          have HC2 : Hid (C + cntN (inO ⟨#[64]⟩) (stm ps[j]) = A0 + cntN (inO ⟨#[64]⟩) (stmL (ps.take (j + 1)))) := by
            have h := HC.out
            show C + cntN (inO ⟨#[64]⟩) (stm ps[j]) = _
            rw [cnt_take hjp]
            omega
          generalize cntN (inO ⟨#[64]⟩) (stm ps[j]) = c1 at *
          generalize (stm ps[j]).length = s1 at *
          generalize depN ps[j] = d1 at *
          have v1 : s1 ≤ 200 := by omega
          have v2 : d1 ≤ 200 := by omega
          have v3 : c1 ≤ 200 := by omega
          generalize bs ps[j].text = T at *
          clear u1 u2 u3' HZ HD HC hw hl1 IZ IE IC HW
          go_wp2_with fail
          refine (FZ.out _).mono ?_
          rintro e wa ⟨rfl, hba⟩
          replace hc := (hba.cell (p := ⟨g, j, none⟩) hg).trans hc
          replace hg := Nat.lt_of_lt_of_le hg hba.size
          have Ra := Lib.hid (row_call R.out hba)
          have Ba := Lib.hid (below_2 B.out hba)
          clear hba R B FZ
          go_wp2_with fail
          refine (FE.out _).mono ?_
          rintro e wb ⟨rfl, hbb⟩
          replace hc := (hbb.cell (p := ⟨g, j, none⟩) hg).trans hc
          replace hg := Nat.lt_of_lt_of_le hg hbb.size
          have Rb := Lib.hid (row_call Ra.out hbb)
          have Bb := Lib.hid (below_2 Ba.out hbb)
          clear hbb Ra Ba FE
          go_wp2_with fail
          refine (FC.out _).mono ?_
          rintro e wc ⟨rfl, hbc⟩
          have Rc := Lib.hid (row_call Rb.out hbc)
          have Bc := Lib.hid (below_2 Bb.out hbc)
          clear hbc Rb Bb FC hc
          go_wp2_with fail
          go_roundg (gk - 1)
          case measure => omega
          case rel => exact ⟨j + 1, Z + s1, max D d1, C + c1, by omega, by go_num, by go_num, by rw [max_cast], by go_num, by omega, by omega, by omega, HZ2, HD2, HC2, Rc, Bc⟩
        · have e : ps.take j = ps := List.take_of_length_le (by rw [HN.out]; omega)
          rw [e] at HZ HD HC
          have t1 := HZ.out
          have t2 := HD.out
          have t3 := HC.out
          have t4 := HE1.out
          have t5 := HE2.out
          have t6 := HE3.out
          have y1 : Z = s0 := by omega
          have y2 : D + 1 = d0 := by omega
          have y3 : C = c0 := by omega
          have y4 : (D : Int) + 1 = (d0 : Int) := by omega
          have y5 : (d0 : Int) ≤ (s0 : Int) := by omega
          clear t1 t2 t3 t4 t5 t6 HZ HD HC HE1 HE2 HE3 e
          subst y1 y3
          clear y2 q1 q2 q3
          obtain ⟨d2, hd2⟩ : ∃ d2, (d0 : Int) = d2 := ⟨_, rfl⟩
          go_wp2_with fail
          go_ret
          exact ⟨ret_bool (by simp; omega), B.out⟩

set_option maxRecDepth 100000 in
theorem lifted (os : Os) (started : os.Started) (H : Type) (enc : TypeId × Value → H) :
    ReturnsInHanded {} Try.checked os 8 .any (Rows.fnSizesSpec.pre6 enc Try.prog Try.f8 Rows.fnSizesRow.domain false) (Rows.fnSizesSpec.post enc Try.prog Try.f8 false true false false) := by
  refine returnsInHanded_of_change (C := Try.checked) own started (by kernel_rfl) Try.func8
    (ChangeSpec.witness6 (enc := enc) (C := Try.checked) false ⟨#[], #[.slice none 0 0], []⟩ 8 (by kernel_rfl) (by kernel_rfl) (by kernel_rfl) (by kernel_rfl)) ?_
  intro W base args ds gs before hval0 hW hcnd _
  have hval : ∀ (j : Nat) t v, Try.f8.params[j]? = some t → args[j]? = some v → Value.okWide Try.prog W .any base t v := hval0
  have hW' := hW
  obtain ⟨p, q, hA0, hV, rfl, hfz, hnd⟩ := hW
  have hA : DataW.TrodAll enc Try.prog W 0 (fun _ => true) true Try.f8.params.toList args.toList ds p := hA0
  rw [Try.params8] at hA hval
  obtain ⟨v0, vs0, d0, ds0, p0, q0, hargs, rfl, rfl, h0, r0⟩ := trodAll_cons hA
  obtain ⟨rfl, rfl, rfl⟩ := trodAll_nil r0
  obtain rfl : args = #[v0] := by cases args; simp_all
  obtain ⟨rfl, rfl⟩ := trodVars_none hV
  have k0 := h0
  have lt0 : ∀ x ∈ p0, x.block < W.heap.size := by obtain ⟨m, hm⟩ := k0; exact DataW.trod_lt m _ _ _ hm
  obtain ⟨a0, len0, cap0, rfl⟩ := okWide_slice Try.underlying25 (hval 0 25 v0 rfl rfl)
  obtain ⟨z0, w0⟩ : ∃ zs, IsRow .u8 W a0 len0 cap0 zs := by
    obtain ⟨fuel, hf⟩ := h0
    rcases open_ints Try.underlying25 Try.underlying5 (by kernel_rfl) hf with ⟨hcs, _⟩ | ⟨x, l, c, zs, hcs, _, hl, hm, hz, _, hcell, hwz⟩
    · simp [Value.cells] at hcs
      obtain ⟨rfl, rfl, rfl⟩ := hcs
      exact ⟨[], .inl ⟨rfl, rfl, rfl, rfl⟩⟩
    · simp [Value.cells] at hcs
      obtain ⟨rfl, rfl, rfl⟩ := hcs
      exact ⟨zs, .inr ⟨_, rfl, hl, hm, by simpa using hz, hcell, hwz⟩⟩
  obtain ⟨by0, lc0, cm0⟩ := bytes_of_row w0
  clear hA0 hval0
  refine (walk a0 len0 cap0 W by0 lc0 cm0).mono fun e W' ⟨he, bel⟩ => ?_
  subst he
  exact ⟨_, rfl, _, _, _, [], _, [], hW', trodAll_mk1 (shut_bool Try.underlying4 _), (trodAll_cons_mk (Below.trod laidOut (by kernel_rfl) (of_decide_eq_true (by kernel_rfl)) k0 bel lt0) trodAll_mk0), rfl, bel.frame _, fun h => by cases h⟩

theorem over : Rows.fnSizesRow.holds Try.pinned (OpenSpec.ofChange Rows.fnSizesSpec) :=
  OpenClaim.holds_of_wide 8 Try.f8 rfl rfl rfl rfl rfl rfl rfl ⟨rfl, rfl, rfl, rfl, rfl⟩ rfl rfl rfl rfl rfl (by kernel_rfl) Try.func8 (by kernel_rfl)
    (of_decide_eq_true (by kernel_rfl)) (by unfold Func.isWrapper; first | (rw [if_pos (by decide +kernel)]; kernel_rfl) | (rw [if_neg (by decide +kernel)]; exact ⟨rfl, rfl⟩))
    (fun os started H enc _ => lifted os started H enc)

/-- the statement -/
theorem proved : Rows.FnSizesSaid := over
#print axioms proved
end Go.Proofs.Ytppcghklkldnaaa.fnSizes
