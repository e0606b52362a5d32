/- The law FnReadsWrites holds: for every input it returns true, and writes nothing that was there. No condition. -/
import Derived.Test.YtppcghklkldnaaaSy
import Derived.Test.YtppcghklkldnaaaDri
import Derived.Test.YtppcghklkldnaaaShl
namespace Go.Proofs.Ytppcghklkldnaaa.fnReadsWrites
open Go.ChangeShapes Go.WideShapes Go.ChangeAt Go.RowKit
open Go.ChangeMaps (open_string shut_string)

open Pl
set_option linter.unusedVariables false

theorem own : ownKnob Try.prog.godebug = none := by kernel_rfl
theorem laidOut : laidOutB Try.prog = true := by kernel_rfl

theorem has_vars {c : UInt8} (hc : c ∈ nmsN) (l : List UInt8) : hasB (vars nmsN l) c = hasB l c := by
  unfold hasB
  rw [Bool.eq_iff_iff]
  simp [mem_vars, hc]
/-- what is so of one part of the first ones -/
def anyB (f : Nd → List UInt8) (c : UInt8) (ps : List Nd) : Bool := decide (∃ x ∈ ps, c ∈ catN f (stm x))
theorem any_take {f : Nd → List UInt8} {c : UInt8} {ps : List Nd} {j : Nat} (h : j < ps.length) : anyB f c (ps.take (j + 1)) = (anyB f c (ps.take j) || hasB (catN f (stm ps[j])) c) := by
  unfold anyB hasB
  rw [Bool.eq_iff_iff, List.take_succ_eq_append_getElem h]
  simp only [Bool.or_eq_true, decide_eq_true_eq, List.mem_append, List.mem_singleton]
  constructor
  · rintro ⟨x, hx | rfl, hc⟩
    · exact .inl ⟨x, hx, hc⟩
    · exact .inr hc
  · rintro (⟨x, hx, hc⟩ | hc)
    · exact ⟨x, .inl hx, hc⟩
    · exact ⟨_, .inr rfl, hc⟩
theorem any_all {f : Nd → List UInt8} {c : UInt8} {k : Nd} : hasB (catN f (stm k)) c = (hasB (f k) c || anyB f c (prt k)) := by
  unfold anyB hasB
  rw [Bool.eq_iff_iff]
  simp only [Bool.or_eq_true, decide_eq_true_eq]
  exact mem_vars_cat
theorem any_zero {f : Nd → List UInt8} {c : UInt8} {ps : List Nd} : anyB f c (ps.take 0) = false := by simp [anyB]
theorem vars_str (l : List UInt8) : (vars nmsN l).length ≤ 3 := vars_len
theorem one_eq (d c : UInt8) : (d == c) = hasB [d] c := by
  unfold hasB
  rw [Bool.eq_iff_iff, beq_iff_eq, decide_eq_true_eq, List.mem_singleton]
  exact eq_comm
set_option maxRecDepth 100000 in
set_option maxHeartbeats 16000000 in
theorem walk (a0 : Option Addr) (len0 cap0 : Nat) (w : World) (hb0 : Bytes w a0 len0 w.heap.size) (hl0 : len0 ≤ cap0) (hc0 : cap0 ≤ 9223372036854775807) :
    Calls Try.prog 9 #[.slice a0 len0 cap0] w fun e w' => e = .returned (.bool true) ∧ Below w.heap.size w w' := by
  by_cases hbig : 1048576 < len0
  · clear hb0
    go_enter Try.func9, Try.ntmps9
    go_wp2_with fail
    go_ret
    exact ⟨rfl, by first | exact Below.refl _ _ | exact below_n _ _ | exact (below_n _ _).alloc (by simp) _⟩
  have D := Lib.hid (DrawReadsOf_any a0 len0 cap0 w (by omega) hl0 hb0)
  clear hb0
  go_enter Try.func9, Try.ntmps9
  go_wp2_with fail
  refine D.out.mono ?_
  rintro e w1 ⟨S, hS, rfl, hb1⟩
  have B1 := Lib.hid hb1
  clear D hb1
  have hs : S.size ≤ 1000000000000 := by omega
  have P := Lib.hid (fun w => PartsOf_any S hs w)
  have H := Lib.hid (fun w => HeadOf_any S hs w)
  have V := Lib.hid (fun w => ProgramValid_any S hs w)
  have RD := Lib.hid (fun w => ReadsOf_any S hs w)
  have RS := Lib.hid (fun w => ReadsOfS_any S hs w)
  have WR := Lib.hid (fun w => WritesOf_any S hs w)
  have WS := Lib.hid (fun w => WritesOfS_any S hs w)
  cases ho : whole false 2 200 S.data.toList with
  | none =>
    rw [ho] at V RD RS WR WS
    simp only [oL, Option.isSome_none] at V RD RS WR WS
    have q3 : ((bs []).toList != (bs []).toList) = false := by simp
    have q4 : ((bs []).toList == (bs []).toList) = true := by simp
    clear ho P H
    generalize bs [] = E0 at *
    go_wp2_with fail
    refine (RD.out _).mono ?_
    rintro e w2 ⟨rfl, hb2⟩
    have B2 : Hid (Below w.heap.size w w2) := by first | exact Lib.hid (below_2 B1.out hb2) | exact Lib.hid (below_a1 B1.out hb2) | exact Lib.hid (below_a2 B1.out hb2) | exact Lib.hid (below_a3 B1.out hb2)
    clear hb2
    go_wp2_with fail
    refine (WR.out _).mono ?_
    rintro e w3 ⟨rfl, hb3⟩
    have B3 : Hid (Below w.heap.size w w3) := by first | exact Lib.hid (below_2 B2.out hb3) | exact Lib.hid (below_a1 B2.out hb3) | exact Lib.hid (below_a2 B2.out hb3) | exact Lib.hid (below_a3 B2.out hb3)
    clear hb3
    go_wp2_with fail
    refine (RS.out _).mono ?_
    rintro e w4 ⟨rfl, hb4⟩
    have B4 : Hid (Below w.heap.size w w4) := by first | exact Lib.hid (below_2 B3.out hb4) | exact Lib.hid (below_a1 B3.out hb4) | exact Lib.hid (below_a2 B3.out hb4) | exact Lib.hid (below_a3 B3.out hb4)
    clear hb4
    go_wp2_with fail
    refine (WS.out _).mono ?_
    rintro e w5 ⟨rfl, hb5⟩
    have B5 : Hid (Below w.heap.size w w5) := by first | exact Lib.hid (below_2 B4.out hb5) | exact Lib.hid (below_a1 B4.out hb5) | exact Lib.hid (below_a2 B4.out hb5) | exact Lib.hid (below_a3 B4.out hb5)
    clear hb5
    go_wp2_with fail
    refine (V.out _).mono ?_
    rintro e w6 ⟨rfl, hb6⟩
    have B6 : Hid (Below w.heap.size w w6) := by first | exact Lib.hid (below_2 B5.out hb6) | exact Lib.hid (below_a1 B5.out hb6) | exact Lib.hid (below_a2 B5.out hb6) | exact Lib.hid (below_a3 B5.out hb6)
    clear hb6
    go_wp2_with fail
    refine (RS.out _).mono ?_
    rintro e w7 ⟨rfl, hb7⟩
    have B7 : Hid (Below w.heap.size w w7) := by first | exact Lib.hid (below_2 B6.out hb7) | exact Lib.hid (below_a1 B6.out hb7) | exact Lib.hid (below_a2 B6.out hb7) | exact Lib.hid (below_a3 B6.out hb7)
    clear hb7
    go_wp2_with fail
    refine (WS.out _).mono ?_
    rintro e w8 ⟨rfl, hb8⟩
    have B8 : Hid (Below w.heap.size w w8) := by first | exact Lib.hid (below_2 B7.out hb8) | exact Lib.hid (below_a1 B7.out hb8) | exact Lib.hid (below_a2 B7.out hb8) | exact Lib.hid (below_a3 B7.out hb8)
    clear hb8
    go_wp2_with fail
    go_ret
    exact ⟨rfl, B8.out⟩
  | some k =>
    obtain ⟨hl, hk, ht⟩ := (whole_iff (by omega)).1 ho
    have hl2 : k.text.length ≤ 200 := by rw [← ht]; exact hl
    obtain ⟨hp0, hop⟩ := op_at ht
    rw [ho] at P H V RD RS WR WS
    simp only [oP, oL, Option.isSome_some] at P H V RD RS WR WS
    have hps : ∀ x ∈ prt k, ok false 2 x = true ∧ x.text.length ≤ 200 := fun x hx => ⟨prt_ok hk x hx, by have := prt_short hx; omega⟩
    have hxs : ∀ x ∈ prt k, (bs x.text).size ≤ 1000000000000 := fun x hx => by rw [bs_size]; have := (hps x hx).2; omega
    have IR := Lib.hid (fun x (hx : x ∈ prt k) w => ReadsOf_any (bs x.text) (hxs x hx) w)
    have IW := Lib.hid (fun x (hx : x ∈ prt k) w => WritesOf_any (bs x.text) (hxs x hx) w)
    have HW := Lib.hid (fun x (hx : x ∈ prt k) => whole_text (hps x hx).1 (hps x hx).2)
    have hz : (prt k).length ≤ 2 := prt_len
    have hhl := headN_le k
    have hhp : k.op = 97 → 1 ≤ (headN k).length := head_pos hk
    have HAR := Lib.hid (fun c : UInt8 => any_all (f := rdsN) (c := c) (k := k))
    have HAW := Lib.hid (fun c : UInt8 => any_all (f := wrsN) (c := c) (k := k))
    have hr1 : rdsN k = if k.op = 97 then (headN k).drop 1 else headN k := rfl
    have hw1 : wrsN k = if k.op = 97 then (headN k).take 1 else [] := rfl
    have hvr := vars_str (catN rdsN (stm k))
    have hvw := vars_str (catN wrsN (stm k))
    have HVR := Lib.hid (fun (c : UInt8) (hc : c ∈ nmsN) => has_vars hc (catN rdsN (stm k)))
    have HVW := Lib.hid (fun (c : UInt8) (hc : c ∈ nmsN) => has_vars hc (catN wrsN (stm k)))
    obtain ⟨lr, hlr⟩ : ∃ l, vars nmsN (catN rdsN (stm k)) = l := ⟨_, rfl⟩
    obtain ⟨lw, hlw⟩ : ∃ l, vars nmsN (catN wrsN (stm k)) = l := ⟨_, rfl⟩
    rw [hlr] at RD RS HVR hvr
    rw [hlw] at WR WS HVW hvw
    obtain ⟨cr, hcr⟩ : ∃ l, catN rdsN (stm k) = l := ⟨_, rfl⟩
    obtain ⟨cw, hcw⟩ : ∃ l, catN wrsN (stm k) = l := ⟨_, rfl⟩
    rw [hcr] at HVR HAR
    rw [hcw] at HVW HAW
    have hrs : (bs lr).size ≤ 1000000 := by rw [bs_size]; omega
    have hws : (bs lw).size ≤ 1000000 := by rw [bs_size]; omega
    have HBR := Lib.hid (fun c w => has_one (bs lr) c hrs w)
    have HBW := Lib.hid (fun c w => has_one (bs lw) c hws w)
    simp only [bs_list] at HBR HBW
    have q1 : ((bs lr).toList != (bs lr).toList) = false := by simp
    have q2 : ((bs lw).toList != (bs lw).toList) = false := by simp
    clear hlr hlw hcr hcw hvr hvw hrs hws
    generalize bs lr = LR at *
    generalize bs lw = LW at *
    generalize prt k = ps at *
    obtain ⟨N, hN⟩ : ∃ N, ps.length = N := ⟨_, rfl⟩
    rw [hN] at hz
    have HN := Lib.hid hN
    have hhz : (bs (headN k)).size ≤ 200 := by rw [bs_size]; omega
    have hhd : k.op = 97 → 1 ≤ (bs (headN k)).size ∧ (bs (headN k)).extract 1 (bs (headN k)).size = bs (rdsN k) ∧ ∃ d : UInt8, (bs (headN k)).extract 0 1 = ⟨#[d]⟩ ∧ wrsN k = [d] := by
      intro h
      have h1 := hhp h
      refine ⟨by rw [bs_size]; exact h1, by rw [ext_from h1, hr1, if_pos h], ?_⟩
      rw [hw1, if_pos h, ext_to h1]
      cases hd : headN k with
      | nil => rw [hd] at h1; simp at h1
      | cons d r => exact ⟨d, rfl, rfl⟩
    have hhn : k.op ≠ 97 → bs (headN k) = bs (rdsN k) ∧ wrsN k = [] := fun h => ⟨by rw [hr1, if_neg h], by rw [hw1, if_neg h]⟩
    have hrz : (bs (rdsN k)).size ≤ 1000000 := by rw [bs_size]; have := rds_le k; omega
    have HBK := Lib.hid (fun c w => has_one (bs (rdsN k)) c hrz w)
    simp only [bs_list] at HBK
    have HHD := Lib.hid hhd
    have HHN := Lib.hid hhn
    obtain ⟨wk, hwk⟩ : ∃ l, wrsN k = l := ⟨_, rfl⟩
    obtain ⟨rk, hrk⟩ : ∃ l, rdsN k = l := ⟨_, rfl⟩
    rw [hwk] at HAW HHD HHN
    rw [hrk] at HAR HHD HHN HBK
    clear hps hxs ho hl hk ht hl2 hN hhl hhp hr1 hw1 hhd hhn hrz hwk hrk
    generalize bs (headN k) = Hd at *
    generalize bs rk = RK at *
    go_wp2_with fail
    refine (RD.out _).mono ?_
    rintro e w2 ⟨rfl, hb2⟩
    have B2 : Hid (Below w.heap.size w w2) := by first | exact Lib.hid (below_2 B1.out hb2) | exact Lib.hid (below_a1 B1.out hb2) | exact Lib.hid (below_a2 B1.out hb2) | exact Lib.hid (below_a3 B1.out hb2)
    clear hb2
    go_wp2_with fail
    refine (WR.out _).mono ?_
    rintro e w3 ⟨rfl, hb3⟩
    have B3 : Hid (Below w.heap.size w w3) := by first | exact Lib.hid (below_2 B2.out hb3) | exact Lib.hid (below_a1 B2.out hb3) | exact Lib.hid (below_a2 B2.out hb3) | exact Lib.hid (below_a3 B2.out hb3)
    clear hb3
    go_wp2_with fail
    refine (RS.out _).mono ?_
    rintro e w4 ⟨rfl, hb4⟩
    have B4 : Hid (Below w.heap.size w w4) := by first | exact Lib.hid (below_2 B3.out hb4) | exact Lib.hid (below_a1 B3.out hb4) | exact Lib.hid (below_a2 B3.out hb4) | exact Lib.hid (below_a3 B3.out hb4)
    clear hb4
    go_wp2_with fail
    refine (WS.out _).mono ?_
    rintro e w5 ⟨rfl, hb5⟩
    have B5 : Hid (Below w.heap.size w w5) := by first | exact Lib.hid (below_2 B4.out hb5) | exact Lib.hid (below_a1 B4.out hb5) | exact Lib.hid (below_a2 B4.out hb5) | exact Lib.hid (below_a3 B4.out hb5)
    clear hb5
    go_wp2_with fail
    refine (V.out _).mono ?_
    rintro e w6 ⟨rfl, hb6⟩
    have B6 : Hid (Below w.heap.size w w6) := by first | exact Lib.hid (below_2 B5.out hb6) | exact Lib.hid (below_a1 B5.out hb6) | exact Lib.hid (below_a2 B5.out hb6) | exact Lib.hid (below_a3 B5.out hb6)
    clear hb6
    clear RD WR RS WS V
    go_wp2_with fail
    refine (P.out _).mono ?_
    rintro e w7 ⟨v, rfl, hown, hb7⟩
    rw [HN.out] at hown
    obtain ⟨a, cap, rfl, hcap, hsh⟩ := row_shape hown
    have R7 : Hid (w7.ownsRow w6.heap.size 9 1 (.slice a N cap) N (ps.map sv)) := hown
    have B7 := Lib.hid (below_2 B6.out hb7)
    have HSH := Lib.hid hsh
    clear hown hb7 hsh P B6
    go_wp2_with fail
    refine (H.out _).mono ?_
    rintro e w8 ⟨rfl, hb8⟩
    have R0 := Lib.hid (row_call R7.out hb8)
    have B0 := Lib.hid (below_2 B7.out hb8)
    clear hb8 R7 B7 H
    go_wp2_with fail
    go_loopg [8] 3 (fun gk i wr => ∃ t : Nat, t + gk = 3 ∧ i = .int .i64 t ∧ Hid (wr.ownsRow w6.heap.size 9 1 (.slice a N cap) N (ps.map sv)) ∧ Hid (Below w.heap.size w wr))
    case atStart => exact ⟨0, rfl, rfl, R0, B0⟩
    case round =>
      clear R0 B0
      obtain ⟨t, hj, rfl, R, B⟩ := hrel
      obtain ⟨GK, hGK⟩ : ∃ GK, GK = gk := ⟨_, rfl⟩
      subst hGK
      by_cases hlt : t < 3
      · have hex := extract_one (S := ⟨#[120, 121, 122]⟩) (k := t) hlt
        obtain ⟨c, hc⟩ : ∃ c, (⟨#[120, 121, 122]⟩ : ByteArray)[t]'hlt = c := ⟨_, rfl⟩
        have hcm : c ∈ nmsN := by rw [← hc]; exact List.getElem_mem (l := nmsN) (by exact hlt)
        rw [hc] at hex
        clear hc
        have HC := Lib.hid hcm
        have BR := Lib.hid (fun w => HBR.out c w)
        have BW := Lib.hid (fun w => HBW.out c w)
        have BK := Lib.hid (fun w => HBK.out c w)
        rw [HVR.out c hcm, HAR.out c] at BR
        rw [HVW.out c hcm, HAW.out c] at BW
        obtain ⟨rb, hrb⟩ : ∃ v, hasB rk c = v := ⟨_, rfl⟩
        rw [hrb] at BK BR
        clear hcm hrb
        by_cases h97 : k.op = 97
        case' pos =>
          obtain ⟨g1, g2, d, g3, g4⟩ := HHD.out h97
          rw [h97] at hop
          have g5 := one_eq d c
          rw [g4] at BW
          obtain ⟨wb, hwb⟩ : ∃ v, hasB [d] c = v := ⟨_, rfl⟩
          rw [hwb] at BW g5
          have HWB := Lib.hid g5
          clear g4 h97 hwb g5
          go_wp2_with fail
          refine (BK.out _).mono ?_
          rintro e w' ⟨rfl, rfl⟩
        case' neg =>
          obtain ⟨g1, g4⟩ := HHN.out h97
          have e1 := u8_ne 97 h97 (by decide)
          simp only [Int.cast_ofNat_Int] at e1
          rw [g4] at BW
          have g5 : hasB [] c = false := by simp [hasB]
          rw [g5] at BW
          obtain ⟨wb, hwb⟩ : ∃ v : Bool, false = v := ⟨_, rfl⟩
          rw [hwb] at BW
          have HWB : Hid (false = wb) := hwb
          rw [g1] at hhz
          obtain rfl := g1
          clear g4 h97 g5 hwb
          generalize k.op = o at *
          go_wp2_with fail
          refine (BK.out _).mono ?_
          rintro e w' ⟨rfl, rfl⟩
        all_goals
          clear BK
          have HZR := Lib.hid (any_zero (f := rdsN) (c := c) (ps := ps))
          have HZW := Lib.hid (any_zero (f := wrsN) (c := c) (ps := ps))
          go_wp2_with fail
          go_loopg [10, 11, 12] N (fun gk r q i wr => ∃ (j : Nat) (ra wa : Bool), j + gk = N ∧ i = .int .i64 j ∧ r = .bool ra ∧ q = .bool wa ∧ Hid (ra = (rb || anyB rdsN c (ps.take j))) ∧ Hid (wa = (wb || anyB wrsN c (ps.take j))) ∧ Hid (wr.ownsRow w6.heap.size 9 1 (.slice a N cap) N (ps.map sv)) ∧ Hid (Below w.heap.size w wr))
          case atStart => exact ⟨0, _, _, by omega, rfl, rfl, rfl, Lib.hid (by rw [HZR.out]; simp), Lib.hid (by first | (rw [HZW.out]; simp; done) | (rw [HZW.out, ← HWB.out]; simp; done)), R, B⟩
          case round =>
            clear R B HZR HZW
            obtain ⟨j, ra, wa, hj2, rfl, rfl, rfl, HR, HWW, R, B⟩ := hrel
            by_cases hlt2 : j < N
            · obtain ⟨g, rfl, _, _⟩ := HSH.out (by omega)
              have hjp : j < ps.length := by rw [HN.out]; exact hlt2
              have hcc : ∀ W : World, Hid (W.ownsRow w6.heap.size 9 1 (.slice (some ⟨g, 0, none⟩) N cap) N (ps.map sv)) → W.cell? ⟨g, j, none⟩ = some (.string (bs ps[j].text)) := fun W RR => row_at RR.out HN.out hjp
              have FR := Lib.hid (fun w => IR.out ps[j] (List.getElem_mem _) w)
              have FW := Lib.hid (fun w => IW.out ps[j] (List.getElem_mem _) w)
              have hw := HW.out ps[j] (List.getElem_mem _)
              simp only [bs_list, hw, oL] at FR FW
              have u1 := vars_str (catN rdsN (stm ps[j]))
              have u2 := vars_str (catN wrsN (stm ps[j]))
              have JR := Lib.hid (fun w => has_one (bs (vars nmsN (catN rdsN (stm ps[j])))) c (by rw [bs_size]; omega) w)
              have JW := Lib.hid (fun w => has_one (bs (vars nmsN (catN wrsN (stm ps[j])))) c (by rw [bs_size]; omega) w)
              simp only [bs_list] at JR JW
              rw [has_vars HC.out] at JR JW
              have t1 := any_take (f := rdsN) (c := c) hjp
              have t2 := any_take (f := wrsN) (c := c) hjp
              generalize hasB (catN rdsN (stm ps[j])) c = r2 at *
              generalize hasB (catN wrsN (stm ps[j])) c = w2b at *
              generalize bs (vars nmsN (catN rdsN (stm ps[j]))) = V1 at *
              generalize bs (vars nmsN (catN wrsN (stm ps[j]))) = V2 at *
              have HR2 : Hid ((ra || r2) = (rb || anyB rdsN c (ps.take (j + 1)))) := by
                have h := HR.out
                show (ra || r2) = _
                rw [t1, h, Bool.or_assoc]
              have HW2 : Hid ((wa || w2b) = (wb || anyB wrsN c (ps.take (j + 1)))) := by
                have h := HWW.out
                show (wa || w2b) = _
                rw [t2, h, Bool.or_assoc]
              have hc1 := hcc wr R
              have HCC := Lib.hid hcc
              generalize bs ps[j].text = T at *
              clear hcc t1 t2 u1 u2 hw HR HWW
              have A1 : ∃ wx, Hid (wx.ownsRow w6.heap.size 9 1 (.slice (some ⟨g, 0, none⟩) N cap) N (ps.map sv)) ∧ Hid (Below w.heap.size w wx) := ⟨wr, R, B⟩
              clear A1
              cases ra
              case' false =>
                go_wp2_with fail
                refine (FR.out _).mono ?_
                rintro e wx ⟨rfl, hbx⟩
                have Rx := Lib.hid (row_call R.out hbx)
                have Bx := Lib.hid (below_2 B.out hbx)
                have hc2 := HCC.out wx Rx
                clear hbx R B hc1 FR
                go_wp2_with fail
                refine (JR.out _).mono ?_
                rintro e w' ⟨rfl, rfl⟩
              case' true =>
                obtain ⟨wx, hwx⟩ : ∃ wx, wr = wx := ⟨_, rfl⟩
                subst hwx
                have Rx := R
                have Bx := B
                have hc2 := hc1
                clear R B hc1 FR
              all_goals
                cases wa
                case' false =>
                  go_wp2_with fail
                  refine (FW.out _).mono ?_
                  rintro e wy ⟨rfl, hby⟩
                  have Ry := Lib.hid (row_call Rx.out hby)
                  have By := Lib.hid (below_2 Bx.out hby)
                  clear hby Rx Bx hc2 FW
                  go_wp2_with fail
                  refine (JW.out _).mono ?_
                  rintro e w' ⟨rfl, rfl⟩
                  go_wp2_with fail
                case' true =>
                  have Ry := Rx
                  have By := Bx
                  go_wp2_with fail
                all_goals
                  go_roundg (gk - 1)
                  case measure => omega
                  case rel => exact ⟨j + 1, _, _, by omega, by go_num, rfl, rfl, by simpa using HR2, by simpa using HW2, Ry, By⟩
            · have e : ps.take j = ps := List.take_of_length_le (by rw [HN.out]; omega)
              rw [e] at HR HWW
              rw [← HR.out] at BR
              rw [← HWW.out] at BW
              have q5 : (ra != ra) = false := by simp
              have q6 : (wa != wa) = false := by simp
              clear e HR HWW
              go_wp2_with fail
              refine (BR.out _).mono ?_
              rintro e w' ⟨rfl, rfl⟩
              go_wp2_with fail
              refine (BW.out _).mono ?_
              rintro e w' ⟨rfl, rfl⟩
              go_wp2_with fail
              go_roundg (GK - 1)
              case measure => omega
              case rel => exact ⟨t + 1, by omega, by go_num, R, B⟩
      · go_wp2_with fail
        go_ret
        exact ⟨rfl, B.out⟩

set_option maxRecDepth 100000 in
theorem lifted (os : Os) (started : os.Started) (H : Type) (enc : TypeId × Value → H) :
    ReturnsInHanded {} Try.checked os 9 .any (Rows.fnReadsWritesSpec.pre6 enc Try.prog Try.f9 Rows.fnReadsWritesRow.domain false) (Rows.fnReadsWritesSpec.post enc Try.prog Try.f9 false true false false) := by
  refine returnsInHanded_of_change (C := Try.checked) own started (by kernel_rfl) Try.func9
    (ChangeSpec.witness6 (enc := enc) (C := Try.checked) false ⟨#[], #[.slice none 0 0], []⟩ 8 (by kernel_rfl) (by kernel_rfl) (by kernel_rfl) (by kernel_rfl)) ?_
  intro W base args ds gs before hval0 hW hcnd _
  have hval : ∀ (j : Nat) t v, Try.f9.params[j]? = some t → args[j]? = some v → Value.okWide Try.prog W .any base t v := hval0
  have hW' := hW
  obtain ⟨p, q, hA0, hV, rfl, hfz, hnd⟩ := hW
  have hA : DataW.TrodAll enc Try.prog W 0 (fun _ => true) true Try.f9.params.toList args.toList ds p := hA0
  rw [Try.params9] at hA hval
  obtain ⟨v0, vs0, d0, ds0, p0, q0, hargs, rfl, rfl, h0, r0⟩ := trodAll_cons hA
  obtain ⟨rfl, rfl, rfl⟩ := trodAll_nil r0
  obtain rfl : args = #[v0] := by cases args; simp_all
  obtain ⟨rfl, rfl⟩ := trodVars_none hV
  have k0 := h0
  have lt0 : ∀ x ∈ p0, x.block < W.heap.size := by obtain ⟨m, hm⟩ := k0; exact DataW.trod_lt m _ _ _ hm
  obtain ⟨a0, len0, cap0, rfl⟩ := okWide_slice Try.underlying25 (hval 0 25 v0 rfl rfl)
  obtain ⟨z0, w0⟩ : ∃ zs, IsRow .u8 W a0 len0 cap0 zs := by
    obtain ⟨fuel, hf⟩ := h0
    rcases open_ints Try.underlying25 Try.underlying5 (by kernel_rfl) hf with ⟨hcs, _⟩ | ⟨x, l, c, zs, hcs, _, hl, hm, hz, _, hcell, hwz⟩
    · simp [Value.cells] at hcs
      obtain ⟨rfl, rfl, rfl⟩ := hcs
      exact ⟨[], .inl ⟨rfl, rfl, rfl, rfl⟩⟩
    · simp [Value.cells] at hcs
      obtain ⟨rfl, rfl, rfl⟩ := hcs
      exact ⟨zs, .inr ⟨_, rfl, hl, hm, by simpa using hz, hcell, hwz⟩⟩
  obtain ⟨by0, lc0, cm0⟩ := bytes_of_row w0
  clear hA0 hval0
  refine (walk a0 len0 cap0 W by0 lc0 cm0).mono fun e W' ⟨he, bel⟩ => ?_
  subst he
  exact ⟨_, rfl, _, _, _, [], _, [], hW', trodAll_mk1 (shut_bool Try.underlying4 _), (trodAll_cons_mk (Below.trod laidOut (by kernel_rfl) (of_decide_eq_true (by kernel_rfl)) k0 bel lt0) trodAll_mk0), rfl, bel.frame _, fun h => by cases h⟩

theorem over : Rows.fnReadsWritesRow.holds Try.pinned (OpenSpec.ofChange Rows.fnReadsWritesSpec) :=
  OpenClaim.holds_of_wide 9 Try.f9 rfl rfl rfl rfl rfl rfl rfl ⟨rfl, rfl, rfl, rfl, rfl⟩ rfl rfl rfl rfl rfl (by kernel_rfl) Try.func9 (by kernel_rfl)
    (of_decide_eq_true (by kernel_rfl)) (by unfold Func.isWrapper; first | (rw [if_pos (by decide +kernel)]; kernel_rfl) | (rw [if_neg (by decide +kernel)]; exact ⟨rfl, rfl⟩))
    (fun os started H enc _ => lifted os started H enc)

/-- the statement -/
theorem proved : Rows.FnReadsWritesSaid := over
#print axioms proved
end Go.Proofs.Ytppcghklkldnaaa.fnReadsWrites
