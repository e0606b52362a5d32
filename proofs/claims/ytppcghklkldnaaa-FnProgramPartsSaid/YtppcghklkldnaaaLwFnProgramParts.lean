/- The law FnProgramParts holds: for every input it returns true, and writes nothing that was there. No condition. -/
import Derived.Test.YtppcghklkldnaaaSy
import Derived.Test.YtppcghklkldnaaaDri
import Derived.Test.YtppcghklkldnaaaShl
namespace Go.Proofs.Ytppcghklkldnaaa.fnProgramParts
open Go.ChangeShapes Go.WideShapes Go.ChangeAt Go.RowKit
open Go.ChangeMaps (open_string shut_string)

open Pl
set_option linter.unusedVariables false

theorem own : ownKnob Try.prog.godebug = none := by kernel_rfl
theorem laidOut : laidOutB Try.prog = true := by kernel_rfl

theorem flat_take {ps : List Nd} {j : Nat} (h : j < ps.length) : flatN (ps.take (j + 1)) = flatN (ps.take j) ++ ps[j].text := by
  have key : ∀ (a : List Nd) (x : Nd), flatN (a ++ [x]) = flatN a ++ x.text := by
    intro a x
    induction a with
    | nil => simp [flatN]
    | cons y a ih => simp [flatN, ih]
  rw [List.take_succ_eq_append_getElem h, key]
theorem flat_take_le {ps : List Nd} {j : Nat} : (flatN (ps.take j)).length ≤ (flatN ps).length := by
  have key : ∀ a b : List Nd, flatN (a ++ b) = flatN a ++ flatN b := by
    intro a b
    induction a with
    | nil => rfl
    | cons y a ih => simp [flatN, ih]
  have : flatN ps = flatN (ps.take j) ++ flatN (ps.drop j) := by rw [← key, List.take_append_drop]
  rw [this, List.length_append]
  omega
set_option maxRecDepth 100000 in
set_option maxHeartbeats 8000000 in
theorem walk (a0 : Option Addr) (len0 cap0 : Nat) (w : World) (hb0 : Bytes w a0 len0 w.heap.size) (hl0 : len0 ≤ cap0) (hc0 : cap0 ≤ 9223372036854775807) :
    Calls Try.prog 4 #[.slice a0 len0 cap0] w fun e w' => e = .returned (.bool true) ∧ Below w.heap.size w w' := by
  by_cases hbig : 1048576 < len0
  · clear hb0
    go_enter Try.func4, Try.ntmps4
    go_wp2_with fail
    go_ret
    exact ⟨rfl, by first | exact Below.refl _ _ | exact below_n _ _ | exact (below_n _ _).alloc (by simp) _⟩
  have D := Lib.hid (DrawPartsOf_any a0 len0 cap0 w (by omega) hl0 hb0)
  clear hb0
  go_enter Try.func4, Try.ntmps4
  go_wp2_with fail
  refine D.out.mono ?_
  rintro e w1 ⟨S, hS, rfl, hb1⟩
  have B1 := Lib.hid hb1
  clear D hb1
  have hs : S.size ≤ 1000000000000 := by omega
  have P := Lib.hid (fun w => PartsOf_any S hs w)
  have PS := Lib.hid (fun w => PartsOfS_any S hs w)
  have H := Lib.hid (fun w => HeadOf_any S hs w)
  have HS := Lib.hid (fun w => HeadOfS_any S hs w)
  have V := Lib.hid (fun w => ProgramValid_any S hs w)
  have VS := Lib.hid (fun w => (ProgramValidS_any S w hs).mono fun _ _ h => (⟨h.1, drew_below h.2⟩ : _ ∧ _))
  cases ho : whole false 2 200 S.data.toList with
  | none =>
    rw [ho] at P PS H HS V VS
    simp only [oP, oL, Option.isSome_none] at P PS H HS V VS
    have q3 : ((bs []).toList != (bs []).toList) = false := by simp
    have q4 : ((bs []).toList == (bs []).toList) = true := by simp
    clear ho
    generalize bs [] = E0 at *
    go_wp2_with fail
    refine (P.out _).mono ?_
    rintro e w2 ⟨v, rfl, hown, hb2⟩
    obtain ⟨a, cap, rfl, _, _⟩ := row_shape hown
    have B2 := Lib.hid (below_2 B1.out hb2)
    clear hown hb2
    simp only [List.length_nil]
    go_wp2_with fail
    refine (PS.out _).mono ?_
    rintro e w3 ⟨v, rfl, hown, hb3⟩
    obtain ⟨a2, cap2, rfl, _, _⟩ := row_shape hown
    have B3 := Lib.hid (below_2 B2.out hb3)
    clear hown hb3
    simp only [List.length_nil]
    go_wp2_with fail
    refine (H.out _).mono ?_
    rintro e w4 ⟨rfl, hb4⟩
    have B4 : Hid (Below w.heap.size w w4) := by first | exact Lib.hid (below_2 B3.out hb4) | exact Lib.hid (below_a1 B3.out hb4) | exact Lib.hid (below_a2 B3.out hb4) | exact Lib.hid (below_a3 B3.out hb4)
    clear hb4
    go_wp2_with fail
    refine (HS.out _).mono ?_
    rintro e w5 ⟨rfl, hb5⟩
    have B5 : Hid (Below w.heap.size w w5) := by first | exact Lib.hid (below_2 B4.out hb5) | exact Lib.hid (below_a1 B4.out hb5) | exact Lib.hid (below_a2 B4.out hb5) | exact Lib.hid (below_a3 B4.out hb5)
    clear hb5
    go_wp2_with fail
    refine (V.out _).mono ?_
    rintro e w6 ⟨rfl, hb6⟩
    have B6 : Hid (Below w.heap.size w w6) := by first | exact Lib.hid (below_2 B5.out hb6) | exact Lib.hid (below_a1 B5.out hb6) | exact Lib.hid (below_a2 B5.out hb6) | exact Lib.hid (below_a3 B5.out hb6)
    clear hb6
    go_wp2_with fail
    refine (VS.out _).mono ?_
    rintro e w7 ⟨rfl, hb7⟩
    have B7 : Hid (Below w.heap.size w w7) := by first | exact Lib.hid (below_2 B6.out hb7) | exact Lib.hid (below_a1 B6.out hb7) | exact Lib.hid (below_a2 B6.out hb7) | exact Lib.hid (below_a3 B6.out hb7)
    clear hb7
    go_wp2_with fail
    refine (V.out _).mono ?_
    rintro e w8 ⟨rfl, hb8⟩
    have B8 : Hid (Below w.heap.size w w8) := by first | exact Lib.hid (below_2 B7.out hb8) | exact Lib.hid (below_a1 B7.out hb8) | exact Lib.hid (below_a2 B7.out hb8) | exact Lib.hid (below_a3 B7.out hb8)
    clear hb8
    go_wp2_with fail
    refine (HS.out _).mono ?_
    rintro e w9 ⟨rfl, hb9⟩
    have B9 : Hid (Below w.heap.size w w9) := by first | exact Lib.hid (below_2 B8.out hb9) | exact Lib.hid (below_a1 B8.out hb9) | exact Lib.hid (below_a2 B8.out hb9) | exact Lib.hid (below_a3 B8.out hb9)
    clear hb9
    go_wp2_with fail
    refine (V.out _).mono ?_
    rintro e w10 ⟨rfl, hb10⟩
    have B10 : Hid (Below w.heap.size w w10) := by first | exact Lib.hid (below_2 B9.out hb10) | exact Lib.hid (below_a1 B9.out hb10) | exact Lib.hid (below_a2 B9.out hb10) | exact Lib.hid (below_a3 B9.out hb10)
    clear hb10
    go_wp2_with fail
    refine (VS.out _).mono ?_
    rintro e w11 ⟨rfl, hb11⟩
    have B11 : Hid (Below w.heap.size w w11) := by first | exact Lib.hid (below_2 B10.out hb11) | exact Lib.hid (below_a1 B10.out hb11) | exact Lib.hid (below_a2 B10.out hb11) | exact Lib.hid (below_a3 B10.out hb11)
    clear hb11
    go_wp2_with fail
    go_ret
    exact ⟨rfl, B11.out⟩
  | some k =>
    obtain ⟨hl, hk, ht⟩ := (whole_iff (by omega)).1 ho
    have hl2 : k.text.length ≤ 200 := by rw [← ht]; exact hl
    obtain ⟨hp0, hop⟩ := op_at ht
    rw [ho] at P PS H HS V VS
    simp only [oP, oL, Option.isSome_some] at P PS H HS V VS
    have hps : ∀ x ∈ prt k, ok false 2 x = true ∧ x.text.length ≤ 200 := fun x hx => ⟨prt_ok hk x hx, by have := prt_short hx; omega⟩
    have IX := Lib.hid (fun x (hx : x ∈ prt k) w => ProgramValid_any (bs x.text) (by rw [bs_size]; have := (hps x hx).2; omega) w)
    have HW := Lib.hid (fun x (hx : x ∈ prt k) => whole_text (hps x hx).1 (hps x hx).2)
    have hx1 : S.extract 0 1 = bs [k.op] := by
      have h1 : S.data.toList.drop 0 = [k.op] ++ (headN k ++ flatN (prt k)) := by rw [List.drop_zero, ht, head_text]; rfl
      exact extract_nd h1 rfl
    have HT : Hid (S = bs (k.op :: (headN k ++ flatN (prt k)))) := by
      have h1 := nd_lt ht
      rw [head_text] at h1
      exact h1
    have hlen : (k.op :: (headN k ++ flatN (prt k))).length ≤ 200 := by rw [← head_text]; exact hl2
    have HLEN := Lib.hid hlen
    have hz : (prt k).length ≤ 2 := prt_len
    generalize prt k = ps at *
    obtain ⟨N, hN⟩ : ∃ N, ps.length = N := ⟨_, rfl⟩
    rw [hN] at hz
    have HN := Lib.hid hN
    have HQ0 : Hid (bs [k.op] ++ bs (headN k) = bs (k.op :: (headN k ++ flatN (ps.take 0)))) := by
      have : bs [k.op] ++ bs (headN k) = bs (k.op :: (headN k ++ flatN (ps.take 0))) := by rw [bs_app]; simp [flatN]
      exact this
    have hh1 : (headN k).length ≤ 200 := by have := hlen; simp only [List.length_cons, List.length_append] at this; omega
    have hhs : (bs (headN k)).size ≤ 200 := by rw [bs_size]; exact hh1
    have hks : (bs [k.op]).size = 1 := by rw [bs_size]; rfl
    obtain ⟨Hd, hHd⟩ : ∃ v, bs (headN k) = v := ⟨_, rfl⟩
    obtain ⟨K0, hK0⟩ : ∃ v, bs [k.op] = v := ⟨_, rfl⟩
    rw [hHd] at H HS HQ0 hhs
    rw [hK0] at hx1 HQ0 hks
    have q3 : (Hd.toList != Hd.toList) = false := by simp
    have q5 : ((N : Int) != (N : Int)) = false := by simp
    have z0 : K0.size + Hd.size ≤ 9223372036854775807 := by omega
    have z0s : (K0 ++ Hd).size ≤ 1000 := by rw [ByteArray.size_append]; omega
    clear hN hps ho hl hk ht hl2 hop hlen hHd hK0 hh1 hhs hks
    go_wp2_with fail
    refine (P.out _).mono ?_
    rintro e w2 ⟨v, rfl, hown, hb2⟩
    rw [HN.out] at hown
    obtain ⟨a, cap, rfl, hcap, hsh⟩ := row_shape hown
    have R0 : Hid (w2.ownsRow w1.heap.size 9 1 (.slice a N cap) N (ps.map sv)) := hown
    have B2 := Lib.hid (below_2 B1.out hb2)
    have HSH := Lib.hid hsh
    clear hown hb2 hsh P
    go_wp2_with fail
    refine (PS.out _).mono ?_
    rintro e w3 ⟨v, rfl, hown, hb3⟩
    rw [HN.out] at hown
    obtain ⟨a2, cap2, rfl, hcap2, hsh⟩ := row_shape hown
    have R1 := Lib.hid (row_call R0.out hb3)
    have S1 : Hid (w3.ownsRow w2.heap.size 9 1 (.slice a2 N cap2) N (ps.map sv)) := hown
    have B3 := Lib.hid (below_2 B2.out hb3)
    have HSH2 := Lib.hid hsh
    clear hown hb3 hsh PS R0
    go_wp2_with fail
    refine (H.out _).mono ?_
    rintro e w4 ⟨rfl, hb4⟩
    have R4 := Lib.hid (row_call R1.out hb4)
    have S4 := Lib.hid (row_call S1.out hb4)
    clear R1 S1
    have B4 : Hid (Below w.heap.size w w4) := by first | exact Lib.hid (below_2 B3.out hb4) | exact Lib.hid (below_a1 B3.out hb4) | exact Lib.hid (below_a2 B3.out hb4) | exact Lib.hid (below_a3 B3.out hb4)
    clear hb4
    go_wp2_with fail
    refine (HS.out _).mono ?_
    rintro e w5 ⟨rfl, hb5⟩
    have R5 := Lib.hid (row_call R4.out hb5)
    have S5 := Lib.hid (row_call S4.out hb5)
    clear R4 S4
    have B5 : Hid (Below w.heap.size w w5) := by first | exact Lib.hid (below_2 B4.out hb5) | exact Lib.hid (below_a1 B4.out hb5) | exact Lib.hid (below_a2 B4.out hb5) | exact Lib.hid (below_a3 B4.out hb5)
    clear hb5
    go_wp2_with fail
    refine (V.out _).mono ?_
    rintro e w6 ⟨rfl, hb6⟩
    have R6 := Lib.hid (row_call R5.out hb6)
    have S6 := Lib.hid (row_call S5.out hb6)
    clear R5 S5
    have B6 : Hid (Below w.heap.size w w6) := by first | exact Lib.hid (below_2 B5.out hb6) | exact Lib.hid (below_a1 B5.out hb6) | exact Lib.hid (below_a2 B5.out hb6) | exact Lib.hid (below_a3 B5.out hb6)
    clear hb6
    go_wp2_with fail
    refine (VS.out _).mono ?_
    rintro e w7 ⟨rfl, hb7⟩
    have R7 := Lib.hid (row_call R6.out hb7)
    have S7 := Lib.hid (row_call S6.out hb7)
    clear R6 S6
    have B7 : Hid (Below w.heap.size w w7) := by first | exact Lib.hid (below_2 B6.out hb7) | exact Lib.hid (below_a1 B6.out hb7) | exact Lib.hid (below_a2 B6.out hb7) | exact Lib.hid (below_a3 B6.out hb7)
    clear hb7
    go_wp2_with fail
    refine (V.out _).mono ?_
    rintro e w8 ⟨rfl, hb8⟩
    have R8 := Lib.hid (row_call R7.out hb8)
    have S8 := Lib.hid (row_call S7.out hb8)
    clear R7 S7
    have B8 : Hid (Below w.heap.size w w8) := by first | exact Lib.hid (below_2 B7.out hb8) | exact Lib.hid (below_a1 B7.out hb8) | exact Lib.hid (below_a2 B7.out hb8) | exact Lib.hid (below_a3 B7.out hb8)
    clear hb8
    clear H HS V VS
    go_wp2_with fail
    go_loopg [7, 8] N (fun gk q i wr => ∃ (j : Nat) (Q : ByteArray), j + gk = N ∧ i = .int .i64 j ∧ q = .string Q ∧ Q.size ≤ 1000 ∧ Hid (Q = bs (k.op :: (headN k ++ flatN (ps.take j)))) ∧ Hid (wr.ownsRow w1.heap.size 9 1 (.slice a N cap) N (ps.map sv)) ∧ Hid (wr.ownsRow w2.heap.size 9 1 (.slice a2 N cap2) N (ps.map sv)) ∧ Hid (Below w.heap.size w wr))
    case atStart => exact ⟨0, _, by omega, rfl, rfl, z0s, HQ0, R8, S8, B8⟩
    case round =>
      clear R8 S8 B8 HQ0
      obtain ⟨j, Q, hj, rfl, rfl, hQ, HQ, R, R2, B⟩ := hrel
      by_cases hlt : j < N
      · obtain ⟨g, rfl, _, _⟩ := HSH.out (by omega)
        obtain ⟨g2, rfl, _, _⟩ := HSH2.out (by omega)
        have hjp : j < ps.length := by rw [HN.out]; exact hlt
        have hc : wr.cell? ⟨g, j, none⟩ = some (.string (bs ps[j].text)) := row_at R.out HN.out hjp
        have hc2 : wr.cell? ⟨g2, j, none⟩ = some (.string (bs ps[j].text)) := row_at R2.out HN.out hjp
        have hg : g < wr.heap.size := (R.out.lt g rfl).2
        have hg2 : g2 < wr.heap.size := (R2.out.lt g2 rfl).2
        have FX := Lib.hid (fun w => IX.out ps[j] (List.getElem_mem _) w)
        have hw := HW.out ps[j] (List.getElem_mem _)
        simp only [bs_list, hw, Option.isSome_some] at FX
        have hft := flat_take hjp
        have hfl := flat_take_le (ps := ps) (j := j + 1)
        have HQ2 : Hid (Q ++ bs ps[j].text = bs (k.op :: (headN k ++ flatN (ps.take (j + 1))))) := by
          have : Q ++ bs ps[j].text = bs (k.op :: (headN k ++ flatN (ps.take (j + 1)))) := by rw [HQ.out, hft, bs_app]; simp
          exact this
        have hqs : (bs (k.op :: (headN k ++ flatN (ps.take (j + 1))))).size ≤ 200 := by
          have := HLEN.out
          rw [bs_size]
          simp only [List.length_cons, List.length_append] at this ⊢
          omega
        rw [← HQ2.out] at hqs
        have hq2 : (Q ++ bs ps[j].text).size ≤ 1000 := by omega
        have hts : (bs ps[j].text).size ≤ 1000 := by rw [ByteArray.size_append] at hqs; omega
        generalize bs ps[j].text = T at *
        have q7 : (T.toList != T.toList) = false := by simp
        have z1 : Q.size + T.size ≤ 9223372036854775807 := by omega
        have H : Sit wr wr [(⟨g, j, none⟩, .string T), (⟨g2, j, none⟩, .string T), (⟨g, j, none⟩, .string T)] := (((Sit.refl wr).more (p := ⟨g, j, none⟩) hg hc).more (p := ⟨g2, j, none⟩) hg2 hc2).more (p := ⟨g, j, none⟩) hg hc
        clear hft hfl hqs hw HQ hc hc2
        obtain ⟨l0, l1, l2⟩ := H.c3
        go_wp2_with fail
        refine region_class (fun W => Sit wr W [(⟨g, j, none⟩, .string T), (⟨g2, j, none⟩, .string T), (⟨g, j, none⟩, .string T)]) (by kernel_rfl) (by kernel_rfl) H.drew ?_
        clear l0 l1 l2
        repeat (first | go_big_quiet_skip | (go_big_quiet_want; first | (apply quiet_value; (· (intro W hW; obtain ⟨l0, l1, l2⟩ := hW.c3; go_simp; exact rfl)); simp only [Act.put, List.setIfInBounds_toArray, List.set_cons_zero, List.set_cons_succ]; go_big_quiet_on) | (apply quiet_call; (· (intro W hW; go_simp; exact ⟨rfl, rfl⟩)); (· (intro W hW; first | with_reducible exact (FX.out W).mono fun _ _ h => ⟨h.1, hW.call h.2⟩)); simp only [Act.put, List.setIfInBounds_toArray, List.set_cons_zero, List.set_cons_succ]; go_big_quiet_on)))
        refine wpQuiet_nil ?_
        intro wq hq
        clear H
        have H := hq
        clear hq
        have R3 := Lib.hid (row_call R.out H.below)
        have R4 := Lib.hid (row_call R2.out H.below)
        have B3 := Lib.hid (below_2 B.out H.below)
        obtain ⟨l0, l1, l2⟩ := H.c3
        clear R R2 B FX H
        go_wp2_with fail
        go_roundg (gk - 1)
        case measure => omega
        case rel => exact ⟨j + 1, Q ++ T, by omega, by go_num, rfl, hq2, HQ2, R3, R4, B3⟩
      · have e : ps.take j = ps := List.take_of_length_le (by rw [HN.out]; omega)
        rw [e] at HQ
        have hQS : Q = S := by rw [HQ.out, HT.out]
        have hqq : (S.toList == S.toList) = true := by simp
        clear e HQ HT HLEN
        subst hQS
        go_wp2_with fail
        go_ret
        exact ⟨rfl, B.out⟩

set_option maxRecDepth 100000 in
theorem lifted (os : Os) (started : os.Started) (H : Type) (enc : TypeId × Value → H) :
    ReturnsInHanded {} Try.checked os 4 .any (Rows.fnProgramPartsSpec.pre6 enc Try.prog Try.f4 Rows.fnProgramPartsRow.domain false) (Rows.fnProgramPartsSpec.post enc Try.prog Try.f4 false true false false) := by
  refine returnsInHanded_of_change (C := Try.checked) own started (by kernel_rfl) Try.func4
    (ChangeSpec.witness6 (enc := enc) (C := Try.checked) false ⟨#[], #[.slice none 0 0], []⟩ 8 (by kernel_rfl) (by kernel_rfl) (by kernel_rfl) (by kernel_rfl)) ?_
  intro W base args ds gs before hval0 hW hcnd _
  have hval : ∀ (j : Nat) t v, Try.f4.params[j]? = some t → args[j]? = some v → Value.okWide Try.prog W .any base t v := hval0
  have hW' := hW
  obtain ⟨p, q, hA0, hV, rfl, hfz, hnd⟩ := hW
  have hA : DataW.TrodAll enc Try.prog W 0 (fun _ => true) true Try.f4.params.toList args.toList ds p := hA0
  rw [Try.params4] at hA hval
  obtain ⟨v0, vs0, d0, ds0, p0, q0, hargs, rfl, rfl, h0, r0⟩ := trodAll_cons hA
  obtain ⟨rfl, rfl, rfl⟩ := trodAll_nil r0
  obtain rfl : args = #[v0] := by cases args; simp_all
  obtain ⟨rfl, rfl⟩ := trodVars_none hV
  have k0 := h0
  have lt0 : ∀ x ∈ p0, x.block < W.heap.size := by obtain ⟨m, hm⟩ := k0; exact DataW.trod_lt m _ _ _ hm
  obtain ⟨a0, len0, cap0, rfl⟩ := okWide_slice Try.underlying25 (hval 0 25 v0 rfl rfl)
  obtain ⟨z0, w0⟩ : ∃ zs, IsRow .u8 W a0 len0 cap0 zs := by
    obtain ⟨fuel, hf⟩ := h0
    rcases open_ints Try.underlying25 Try.underlying5 (by kernel_rfl) hf with ⟨hcs, _⟩ | ⟨x, l, c, zs, hcs, _, hl, hm, hz, _, hcell, hwz⟩
    · simp [Value.cells] at hcs
      obtain ⟨rfl, rfl, rfl⟩ := hcs
      exact ⟨[], .inl ⟨rfl, rfl, rfl, rfl⟩⟩
    · simp [Value.cells] at hcs
      obtain ⟨rfl, rfl, rfl⟩ := hcs
      exact ⟨zs, .inr ⟨_, rfl, hl, hm, by simpa using hz, hcell, hwz⟩⟩
  obtain ⟨by0, lc0, cm0⟩ := bytes_of_row w0
  clear hA0 hval0
  refine (walk a0 len0 cap0 W by0 lc0 cm0).mono fun e W' ⟨he, bel⟩ => ?_
  subst he
  exact ⟨_, rfl, _, _, _, [], _, [], hW', trodAll_mk1 (shut_bool Try.underlying4 _), (trodAll_cons_mk (Below.trod laidOut (by kernel_rfl) (of_decide_eq_true (by kernel_rfl)) k0 bel lt0) trodAll_mk0), rfl, bel.frame _, fun h => by cases h⟩

theorem over : Rows.fnProgramPartsRow.holds Try.pinned (OpenSpec.ofChange Rows.fnProgramPartsSpec) :=
  OpenClaim.holds_of_wide 4 Try.f4 rfl rfl rfl rfl rfl rfl rfl ⟨rfl, rfl, rfl, rfl, rfl⟩ rfl rfl rfl rfl rfl (by kernel_rfl) Try.func4 (by kernel_rfl)
    (of_decide_eq_true (by kernel_rfl)) (by unfold Func.isWrapper; first | (rw [if_pos (by decide +kernel)]; kernel_rfl) | (rw [if_neg (by decide +kernel)]; exact ⟨rfl, rfl⟩))
    (fun os started H enc _ => lifted os started H enc)

/-- the statement -/
theorem proved : Rows.FnProgramPartsSaid := over
#print axioms proved
end Go.Proofs.Ytppcghklkldnaaa.fnProgramParts
