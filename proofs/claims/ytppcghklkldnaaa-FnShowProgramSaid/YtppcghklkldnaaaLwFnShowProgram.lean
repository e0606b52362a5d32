/- The law FnShowProgram holds: for every input it returns true, and writes nothing that was there. No condition. -/
import Derived.Test.YtppcghklkldnaaaSh
import Derived.Test.YtppcghklkldnaaaDri
import Derived.Test.YtppcghklkldnaaaShl
namespace Go.Proofs.Ytppcghklkldnaaa.fnShowProgram
open Go.ChangeShapes Go.WideShapes Go.ChangeAt Go.RowKit
open Go.ChangeMaps (open_string shut_string)

open Pl
set_option linter.unusedVariables false

theorem own : ownKnob Try.prog.godebug = none := by kernel_rfl
theorem laidOut : laidOutB Try.prog = true := by kernel_rfl

theorem count_take {l : List UInt8} {j : Nat} (h : j < l.length) (c : UInt8) : (l.take (j + 1)).count c = (l.take j).count c + (if l[j] = c then 1 else 0) := by
  rw [List.take_succ_eq_append_getElem h, List.count_append, List.count_singleton]
  simp
theorem br_take {l : List UInt8} {j : Nat} (h : j < l.length) : brN (l.take (j + 1)) = brN (l.take j) + (if l[j] = 64 then 1 else 0) + 2 * ((if l[j] = 63 then 1 else 0) + (if l[j] = 47 then 1 else 0)) := by
  unfold brN
  rw [count_take h, count_take h, count_take h]
  omega
theorem bal_get {l : List UInt8} {n : Nat} (h : Bal l n) (i : Nat) : (l.take i).count 125 ≤ (l.take i).count 123 := h.2.2 i
set_option maxRecDepth 100000 in
set_option maxHeartbeats 16000000 in
theorem walk (a0 : Option Addr) (len0 cap0 : Nat) (w : World) (hb0 : Bytes w a0 len0 w.heap.size) (hl0 : len0 ≤ cap0) (hc0 : cap0 ≤ 9223372036854775807) :
    Calls Try.prog 7 #[.slice a0 len0 cap0] w fun e w' => e = .returned (.bool true) ∧ Below w.heap.size w w' := by
  by_cases hbig : 1048576 < len0
  · clear hb0
    go_enter Try.func7, Try.ntmps7
    go_wp2_with fail
    go_ret
    exact ⟨rfl, by first | exact Below.refl _ _ | exact below_n _ _ | exact (below_n _ _).alloc (by simp) _⟩
  have D := Lib.hid (DrawShowProgram_any a0 len0 cap0 w (by omega) hl0 hb0)
  clear hb0
  go_enter Try.func7, Try.ntmps7
  go_wp2_with fail
  refine D.out.mono ?_
  rintro e w1 ⟨S, hS, rfl, hb1⟩
  have B1 := Lib.hid hb1
  clear D hb1
  have hs : S.size ≤ 1000000000000 := by omega
  have H := Lib.hid (fun w => ShowProgram_any S hs w)
  have HS := Lib.hid (fun w => ShowProgramS_any S hs w)
  have V := Lib.hid (fun w => ProgramValid_any S hs w)
  cases ho : whole false 2 200 S.data.toList with
  | none =>
    rw [ho] at H HS V
    simp only [oL, Option.isSome_none] at H HS V
    have hE : bs [] = (⟨#[]⟩ : ByteArray) := rfl
    rw [hE] at H HS
    clear ho hE
    go_wp2_with fail
    refine (H.out _).mono ?_
    rintro e w2 ⟨rfl, hb2⟩
    have B2 : Hid (Below w.heap.size w w2) := by first | exact Lib.hid (below_2 B1.out hb2) | exact Lib.hid (below_a1 B1.out hb2) | exact Lib.hid (below_a2 B1.out hb2) | exact Lib.hid (below_a3 B1.out hb2)
    clear hb2
    go_wp2_with fail
    refine (HS.out _).mono ?_
    rintro e w3 ⟨rfl, hb3⟩
    have B3 : Hid (Below w.heap.size w w3) := by first | exact Lib.hid (below_2 B2.out hb3) | exact Lib.hid (below_a1 B2.out hb3) | exact Lib.hid (below_a2 B2.out hb3) | exact Lib.hid (below_a3 B2.out hb3)
    clear hb3
    go_wp2_with fail
    refine (V.out _).mono ?_
    rintro e w4 ⟨rfl, hb4⟩
    have B4 : Hid (Below w.heap.size w w4) := by first | exact Lib.hid (below_2 B3.out hb4) | exact Lib.hid (below_a1 B3.out hb4) | exact Lib.hid (below_a2 B3.out hb4) | exact Lib.hid (below_a3 B3.out hb4)
    clear hb4
    go_wp2_with fail
    refine (HS.out _).mono ?_
    rintro e w5 ⟨rfl, hb5⟩
    have B5 : Hid (Below w.heap.size w w5) := by first | exact Lib.hid (below_2 B4.out hb5) | exact Lib.hid (below_a1 B4.out hb5) | exact Lib.hid (below_a2 B4.out hb5) | exact Lib.hid (below_a3 B4.out hb5)
    clear hb5
    go_wp2_with fail
    refine (V.out _).mono ?_
    rintro e w6 ⟨rfl, hb6⟩
    have B6 : Hid (Below w.heap.size w w6) := by first | exact Lib.hid (below_2 B5.out hb6) | exact Lib.hid (below_a1 B5.out hb6) | exact Lib.hid (below_a2 B5.out hb6) | exact Lib.hid (below_a3 B5.out hb6)
    clear hb6
    go_wp2_with fail
    go_ret
    exact ⟨rfl, B6.out⟩
  | some k =>
    obtain ⟨hl, hk, ht⟩ := (whole_iff (by omega)).1 ho
    have hl2 : k.text.length ≤ 200 := by rw [← ht]; exact hl
    rw [ho] at H HS V
    simp only [oL, Option.isSome_some] at H HS V
    have hbal := shP_bal hk
    have hlen := shP_len k
    have hne := shP_ne k
    rw [← ht] at hbal
    have hz : (shP k).length ≤ 4000 := by omega
    obtain ⟨l, hll⟩ : ∃ l, shP k = l := ⟨_, rfl⟩
    rw [hll] at H HS hbal hz hne
    obtain ⟨T, hT⟩ : ∃ T, bs l = T := ⟨_, rfl⟩
    rw [hT] at H HS
    have hTl : T.data.toList = l := by rw [← hT, bs_list]
    have hTz : T.size = l.length := by rw [← hT, bs_size]
    have q1 : (T.toList != T.toList) = false := by simp
    have q2 : T.toList.isEmpty = false := by
      rw [ByteArray.toList_eq, hTl]
      cases l with
      | nil => exact absurd rfl hne
      | cons a r => rfl
    have q3 : (!T.toList.isEmpty) = true := by rw [q2]; rfl
    have HTL := Lib.hid hTl
    have HTZ := Lib.hid hTz
    have HBAL := Lib.hid hbal
    have hTb : T.size ≤ 4000 := by omega
    have hSb : S.size ≤ 200 := by have := len_S S; rw [ht] at this; omega
    clear ho hl hk ht hl2 hlen hne hz hll hT hTl hTz hbal
    go_wp2_with fail
    refine (H.out _).mono ?_
    rintro e w2 ⟨rfl, hb2⟩
    have B2 : Hid (Below w.heap.size w w2) := by first | exact Lib.hid (below_2 B1.out hb2) | exact Lib.hid (below_a1 B1.out hb2) | exact Lib.hid (below_a2 B1.out hb2) | exact Lib.hid (below_a3 B1.out hb2)
    clear hb2
    go_wp2_with fail
    refine (HS.out _).mono ?_
    rintro e w3 ⟨rfl, hb3⟩
    have B3 : Hid (Below w.heap.size w w3) := by first | exact Lib.hid (below_2 B2.out hb3) | exact Lib.hid (below_a1 B2.out hb3) | exact Lib.hid (below_a2 B2.out hb3) | exact Lib.hid (below_a3 B2.out hb3)
    clear hb3
    go_wp2_with fail
    refine (V.out _).mono ?_
    rintro e w4 ⟨rfl, hb4⟩
    have B4 : Hid (Below w.heap.size w w4) := by first | exact Lib.hid (below_2 B3.out hb4) | exact Lib.hid (below_a1 B3.out hb4) | exact Lib.hid (below_a2 B3.out hb4) | exact Lib.hid (below_a3 B3.out hb4)
    clear hb4
    clear H HS V
    go_wp2_with fail
    go_loopg [5, 6, 7] T.size (fun gk a b i wr => ∃ (j A C : Nat), j + gk = T.size ∧ i = .int .i64 j ∧ a = .int .i64 A ∧ b = .int .i64 C ∧ A ≤ j ∧ C ≤ A ∧ Hid (A = (l.take j).count 123) ∧ Hid (C = (l.take j).count 125) ∧ wr = w4)
    case atStart => exact ⟨0, 0, 0, by omega, rfl, rfl, rfl, by omega, by omega, Lib.hid rfl, Lib.hid rfl, rfl⟩
    case round =>
      obtain ⟨j, A, C, hj, rfl, rfl, rfl, hA, hC, HA, HC, rfl⟩ := hrel
      by_cases hlt : j < T.size
      · have hjl : j < l.length := by rw [← HTZ.out]; exact hlt
        have hc : T[j] = l[j] := by
          have := HTL.out
          subst this
          rfl
        have t1 := count_take hjl 123
        have t2 := count_take hjl 125
        have t3 := bal_get HBAL.out (j + 1)
        rw [t1, t2, ← HA.out, ← HC.out] at t3
        rw [← HA.out] at t1
        rw [← HC.out] at t2
        by_cases h1 : l[j] = 123
        · rw [h1] at hc t1 t2 t3
          simp only [if_true, show ¬ ((123 : UInt8) = 125) by decide, if_false, Nat.add_zero] at t1 t2 t3
          have T1 := Lib.hid t1.symm
          have T2 := Lib.hid t2.symm
          clear t1 t2 h1 HA HC
          go_wp2_with fail
          go_roundg (gk - 1)
          case measure => omega
          case rel => exact ⟨j + 1, A + 1, C, by omega, by go_num, by go_num, rfl, by omega, by omega, T1, T2, rfl⟩
        · by_cases h2 : l[j] = 125
          · rw [h2] at hc t1 t2 t3
            simp only [if_true, show ¬ ((125 : UInt8) = 123) by decide, if_false, Nat.add_zero] at t1 t2 t3
            have T1 := Lib.hid t1.symm
            have T2 := Lib.hid t2.symm
            clear t1 t2 h1 h2 HA HC
            go_wp2_with fail
            go_roundg (gk - 1)
            case measure => omega
            case rel => exact ⟨j + 1, A, C + 1, by omega, by go_num, rfl, by go_num, by omega, by omega, T1, T2, rfl⟩
          · rw [if_neg h1] at t1
            rw [if_neg h2] at t2
            have e1 := u8_ne 123 h1 (by decide)
            have e2 := u8_ne 125 h2 (by decide)
            simp only [Int.cast_ofNat_Int] at e1 e2
            have T1 := Lib.hid t1.symm
            have T2 := Lib.hid t2.symm
            clear t1 t2 t3 h1 h2 HA HC
            generalize l[j] = o at *
            go_wp2_with fail
            go_roundg (gk - 1)
            case measure => omega
            case rel => exact ⟨j + 1, A, C, by omega, by go_num, rfl, rfl, by omega, by omega, T1, T2, rfl⟩
      · have e : l.take j = l := List.take_of_length_le (by rw [← HTZ.out]; omega)
        rw [e] at HA HC
        have HA2 : Hid (A = brN S.data.toList) := HA.out.trans HBAL.out.1
        have HC2 : Hid (C = brN S.data.toList) := HC.out.trans HBAL.out.2.1
        clear e HA HC HTL HTZ HBAL
        go_wp2_with fail
        go_loopg [8, 9] S.size (fun gk q i wx => ∃ (t R : Nat), t + gk = S.size ∧ i = .int .i64 t ∧ q = .int .i64 R ∧ R ≤ 5 * t ∧ Hid (R = brN (S.data.toList.take t)) ∧ wx = wr)
        case atStart => exact ⟨0, 0, by omega, rfl, rfl, by omega, Lib.hid rfl, rfl⟩
        case round =>
          obtain ⟨t, R, hj2, rfl, rfl, hR, HR, rfl⟩ := hrel
          by_cases hlt2 : t < S.size
          · have hjl : t < S.data.toList.length := by rw [len_S]; exact hlt2
            have hc : S[t] = S.data.toList[t] := rfl
            have t1 := br_take hjl
            rw [← HR.out] at t1
            generalize S.data.toList[t] = o at *
            by_cases h1 : o = 64
            · subst h1
              simp only [if_true, show ¬ ((64 : UInt8) = 63) by decide, show ¬ ((64 : UInt8) = 47) by decide, if_false, Nat.add_zero, Nat.mul_zero] at t1
              have T1 := Lib.hid t1.symm
              clear t1 HR
              go_wp2_with fail
              go_roundg (gk - 1)
              case measure => omega
              case rel => exact ⟨t + 1, R + 1, by omega, by go_num, by go_num, by omega, T1, rfl⟩
            · by_cases h2 : o = 63
              · subst h2
                simp only [if_true, show ¬ ((63 : UInt8) = 64) by decide, show ¬ ((63 : UInt8) = 47) by decide, if_false, Nat.add_zero, Nat.mul_one] at t1
                have T1 := Lib.hid t1.symm
                clear t1 h1 HR
                go_wp2_with fail
                go_roundg (gk - 1)
                case measure => omega
                case rel => exact ⟨t + 1, R + 2, by omega, by go_num, by go_num, by omega, T1, rfl⟩
              · by_cases h3 : o = 47
                · subst h3
                  simp only [if_true, show ¬ ((47 : UInt8) = 64) by decide, show ¬ ((47 : UInt8) = 63) by decide, if_false, Nat.add_zero, Nat.zero_add, Nat.mul_one] at t1
                  have T1 := Lib.hid t1.symm
                  clear t1 h1 h2 HR
                  go_wp2_with fail
                  go_roundg (gk - 1)
                  case measure => omega
                  case rel => exact ⟨t + 1, R + 2, by omega, by go_num, by go_num, by omega, T1, rfl⟩
                · simp only [if_neg h1, if_neg h2, if_neg h3, Nat.add_zero, Nat.mul_zero] at t1
                  have e1 := u8_ne 64 h1 (by decide)
                  have e2 := u8_ne 63 h2 (by decide)
                  have e3 := u8_ne 47 h3 (by decide)
                  simp only [Int.cast_ofNat_Int] at e1 e2 e3
                  have T1 := Lib.hid t1.symm
                  clear t1 h1 h2 h3 HR
                  go_wp2_with fail
                  go_roundg (gk - 1)
                  case measure => omega
                  case rel => exact ⟨t + 1, R, by omega, by go_num, rfl, by omega, T1, rfl⟩
          · have e : S.data.toList.take t = S.data.toList := List.take_of_length_le (by rw [len_S]; omega)
            rw [e] at HR
            have y1 : A = R := HA2.out.trans HR.out.symm
            have y2 : C = R := HC2.out.trans HR.out.symm
            subst y1 y2
            clear e HR HA2 HC2
            go_wp2_with fail
            go_ret
            exact ⟨rfl, B4.out⟩

set_option maxRecDepth 100000 in
theorem lifted (os : Os) (started : os.Started) (H : Type) (enc : TypeId × Value → H) :
    ReturnsInHanded {} Try.checked os 7 .any (Rows.fnShowProgramSpec.pre6 enc Try.prog Try.f7 Rows.fnShowProgramRow.domain false) (Rows.fnShowProgramSpec.post enc Try.prog Try.f7 false true false false) := by
  refine returnsInHanded_of_change (C := Try.checked) own started (by kernel_rfl) Try.func7
    (ChangeSpec.witness6 (enc := enc) (C := Try.checked) false ⟨#[], #[.slice none 0 0], []⟩ 8 (by kernel_rfl) (by kernel_rfl) (by kernel_rfl) (by kernel_rfl)) ?_
  intro W base args ds gs before hval0 hW hcnd _
  have hval : ∀ (j : Nat) t v, Try.f7.params[j]? = some t → args[j]? = some v → Value.okWide Try.prog W .any base t v := hval0
  have hW' := hW
  obtain ⟨p, q, hA0, hV, rfl, hfz, hnd⟩ := hW
  have hA : DataW.TrodAll enc Try.prog W 0 (fun _ => true) true Try.f7.params.toList args.toList ds p := hA0
  rw [Try.params7] at hA hval
  obtain ⟨v0, vs0, d0, ds0, p0, q0, hargs, rfl, rfl, h0, r0⟩ := trodAll_cons hA
  obtain ⟨rfl, rfl, rfl⟩ := trodAll_nil r0
  obtain rfl : args = #[v0] := by cases args; simp_all
  obtain ⟨rfl, rfl⟩ := trodVars_none hV
  have k0 := h0
  have lt0 : ∀ x ∈ p0, x.block < W.heap.size := by obtain ⟨m, hm⟩ := k0; exact DataW.trod_lt m _ _ _ hm
  obtain ⟨a0, len0, cap0, rfl⟩ := okWide_slice Try.underlying25 (hval 0 25 v0 rfl rfl)
  obtain ⟨z0, w0⟩ : ∃ zs, IsRow .u8 W a0 len0 cap0 zs := by
    obtain ⟨fuel, hf⟩ := h0
    rcases open_ints Try.underlying25 Try.underlying5 (by kernel_rfl) hf with ⟨hcs, _⟩ | ⟨x, l, c, zs, hcs, _, hl, hm, hz, _, hcell, hwz⟩
    · simp [Value.cells] at hcs
      obtain ⟨rfl, rfl, rfl⟩ := hcs
      exact ⟨[], .inl ⟨rfl, rfl, rfl, rfl⟩⟩
    · simp [Value.cells] at hcs
      obtain ⟨rfl, rfl, rfl⟩ := hcs
      exact ⟨zs, .inr ⟨_, rfl, hl, hm, by simpa using hz, hcell, hwz⟩⟩
  obtain ⟨by0, lc0, cm0⟩ := bytes_of_row w0
  clear hA0 hval0
  refine (walk a0 len0 cap0 W by0 lc0 cm0).mono fun e W' ⟨he, bel⟩ => ?_
  subst he
  exact ⟨_, rfl, _, _, _, [], _, [], hW', trodAll_mk1 (shut_bool Try.underlying4 _), (trodAll_cons_mk (Below.trod laidOut (by kernel_rfl) (of_decide_eq_true (by kernel_rfl)) k0 bel lt0) trodAll_mk0), rfl, bel.frame _, fun h => by cases h⟩

theorem over : Rows.fnShowProgramRow.holds Try.pinned (OpenSpec.ofChange Rows.fnShowProgramSpec) :=
  OpenClaim.holds_of_wide 7 Try.f7 rfl rfl rfl rfl rfl rfl rfl ⟨rfl, rfl, rfl, rfl, rfl⟩ rfl rfl rfl rfl rfl (by kernel_rfl) Try.func7 (by kernel_rfl)
    (of_decide_eq_true (by kernel_rfl)) (by unfold Func.isWrapper; first | (rw [if_pos (by decide +kernel)]; kernel_rfl) | (rw [if_neg (by decide +kernel)]; exact ⟨rfl, rfl⟩))
    (fun os started H enc _ => lifted os started H enc)

/-- the statement -/
theorem proved : Rows.FnShowProgramSaid := over
#print axioms proved
end Go.Proofs.Ytppcghklkldnaaa.fnShowProgram
