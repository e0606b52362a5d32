/- The law FnRelOf holds: for every input it returns true, and writes nothing that was there. No condition. -/
import Derived.Test.YthdgheglmkhcbaaRz
import Derived.Test.YthdgheglmkhcbaaRt
import Derived.Test.YthdgheglmkhcbaaGc
namespace Go.Proofs.Ythdgheglmkhcbaa.fnRelOf
open Go.ChangeShapes Go.WideShapes Go.ChangeAt Go.RowKit
open Go.ChangeMaps (open_string shut_string)

open Pl
set_option linter.unusedVariables false

theorem own : ownKnob Try.prog.godebug = none := by kernel_rfl
theorem laidOut : laidOutB Try.prog = true := by kernel_rfl

theorem rel_not {k : Nd} : relOf (.n1 33 k) = ngT (relOf k) := by
  unfold ngT relOf
  apply bits_congr
  intro n hn
  rw [bt_bits hn]
  rfl
theorem rel_ro {k : Nd} {i j : Nat} (hi : i < 27) (hj : j < 27) : ro (relOf k) i j = relB k i j := ro_rt (r := relB k) hi hj
theorem relOf_ok (k : Nd) : bOk 729 (relOf k) = true := bits_ok _ _
set_option maxRecDepth 100000 in
set_option maxHeartbeats 16000000 in
theorem walk (a0 : Option Addr) (len0 cap0 : Nat) (w : World) (hb0 : Bytes w a0 len0 w.heap.size) (hl0 : len0 ≤ cap0) (hc0 : cap0 ≤ 9223372036854775807) :
    Calls Try.prog 3 #[.slice a0 len0 cap0] w fun e w' => e = .returned (.bool true) ∧ Below w.heap.size w w' := by
  by_cases hbig : 1048576 < len0
  · clear hb0
    go_enter Try.func3, Try.ntmps3
    go_wp2_with fail
    go_ret
    exact ⟨rfl, by first | exact Below.refl _ _ | exact below_n _ _ | exact (below_n _ _).alloc (by simp) _⟩
  have D := Lib.hid (DrawRelOf_any a0 len0 cap0 w (by omega) hl0 hb0)
  clear hb0
  go_enter Try.func3, Try.ntmps3
  go_wp2_with fail
  refine D.out.mono ?_
  rintro e w1 ⟨S, hS, rfl, hb1⟩
  have B1 := Lib.hid hb1
  clear D hb1
  have R1 := Lib.hid (fun w => RelOf_any S (by omega) w)
  have R2 := Lib.hid (fun w => RelOfS_any S (by omega) w)
  have WV := Lib.hid (fun w => WideValid_any S (by omega) w)
  cases ho : whole true 1 200 S.data.toList with
  | none =>
    rw [ho] at R1 R2 WV
    simp only [Option.map_none, optB, Option.isSome_none] at R1 R2 WV
    have q1 : ((bs []).toList != (bs []).toList) = false := by simp
    have q2 : ((bs []).toList == (bs []).toList) = true := by simp
    generalize bs [] = E0 at *
    clear ho
    go_wp2_with fail
    refine (R1.out _).mono ?_
    rintro e w2 ⟨rfl, hb2⟩
    have B2 : Hid (Below w.heap.size w w2) := by first | exact Lib.hid (below_2 B1.out hb2) | exact Lib.hid (below_a1 B1.out hb2) | exact Lib.hid (below_a2 B1.out hb2) | exact Lib.hid (below_a3 B1.out hb2)
    clear hb2
    go_wp2_with fail
    refine (R2.out _).mono ?_
    rintro e w3 ⟨rfl, hb3⟩
    have B3 : Hid (Below w.heap.size w w3) := by first | exact Lib.hid (below_2 B2.out hb3) | exact Lib.hid (below_a1 B2.out hb3) | exact Lib.hid (below_a2 B2.out hb3) | exact Lib.hid (below_a3 B2.out hb3)
    clear hb3
    go_wp2_with fail
    refine (WV.out _).mono ?_
    rintro e w4 ⟨rfl, hb4⟩
    have B4 : Hid (Below w.heap.size w w4) := by first | exact Lib.hid (below_2 B3.out hb4) | exact Lib.hid (below_a1 B3.out hb4) | exact Lib.hid (below_a2 B3.out hb4) | exact Lib.hid (below_a3 B3.out hb4)
    clear hb4
    go_wp2_with fail
    refine (WV.out _).mono ?_
    rintro e w5 ⟨rfl, hb5⟩
    have B5 : Hid (Below w.heap.size w w5) := by first | exact Lib.hid (below_2 B4.out hb5) | exact Lib.hid (below_a1 B4.out hb5) | exact Lib.hid (below_a2 B4.out hb5) | exact Lib.hid (below_a3 B4.out hb5)
    clear hb5
    go_wp2_with fail
    go_ret
    exact ⟨ret_bool (by first | rfl | simp), B5.out⟩
  | some k =>
    obtain ⟨hle, hk, htx⟩ := (whole_iff (by omega)).1 ho
    have hz : S.size = k.text.length := by rw [← len_S, htx]
    have RN := Lib.hid (fun w => RelOf_any (⟨#[33]⟩ ++ S) (by rw [size_append, size_one]; omega) w)
    have hnot : whole true 1 200 ((⟨#[33]⟩ : ByteArray) ++ S).data.toList = if S.size < 200 then some (.n1 33 k) else none := by
      have hap : ((⟨#[33]⟩ : ByteArray) ++ S).data.toList = (Nd.n1 33 k).text := by
        rw [show (⟨#[33]⟩ : ByteArray) = bs [33] from rfl, ← bs_of S, bs_app, bs_list, htx]
        rfl
      rw [hap]
      have hok : ok true 1 (.n1 33 k) = true := by simp [ok, hk]
      have hlen : (Nd.n1 33 k).text.length = k.text.length + 1 := by simp [Nd.text]
      split
      · exact whole_text hok (by rw [hlen]; omega)
      · cases hw : whole true 1 200 (Nd.n1 33 k).text with
        | none => rfl
        | some k2 =>
          have := ((whole_iff (by omega)).1 hw).1
          rw [hlen] at this
          omega
    rw [hnot] at RN
    have hRV := RelValid_any (bs (relOf k)) (by rw [bs_size, relOf, bits_len]; omega)
    rw [bs_list, relOf_ok k] at hRV
    have RV := Lib.hid (fun w => hRV w)
    have NR := Lib.hid (fun w => ppNotRel_any (bs (relOf k)) (by rw [bs_size, relOf, bits_len]; omega) w)
    rw [notR_yes (by rw [bs_list]; exact relOf_ok k), bs_list] at NR
    have HP : Hid (∀ i j, i < 27 → j < 27 → ∀ w, Calls Try.prog 21 #[.string (bs (relOf k)), .agg #[.int .i64 (stX i), .int .i64 (stY i), .int .i64 (stZ i)], .agg #[.int .i64 (stX j), .int .i64 (stY j), .int .i64 (stZ j)]] w fun e w' => (e = .returned (.bool (relB k i j)) ∧ Below w.heap.size w w')) := fun i j hi hj w => by
      have := HasPair_any (bs (relOf k)) (by rw [bs_list]; exact relOf_ok k) i j hi hj w
      rw [bs_list, rel_ro hi hj] at this
      exact this
    have EW : Hid (∀ i j, i < 27 → j < 27 → ∀ w, Calls Try.prog 20 #[.string S, .agg #[.int .i64 (stX i), .int .i64 (stY i), .int .i64 (stZ i)], .agg #[.int .i64 (stX j), .int .i64 (stY j), .int .i64 (stZ j)]] w fun e w' => (e = .returned (.tuple #[.bool (relB k i j), .bool true]) ∧ Below w.heap.size w w')) := fun i j hi hj w => by
      have := EvalWide_any S (by omega) (stX i) (stY i) (stZ i) (stX j) (stY j) (stZ j) w
      simp only [ho, st_ok hi, st_ok hj, Bool.and_true, evT, evO, Option.isSome_some, Bool.true_and] at this
      exact this
    clear hRV hnot
    rw [ho] at R1 R2 WV
    simp only [Option.map_some, optB, Option.isSome_some] at R1 R2 WV NR
    rw [← rel_not] at NR
    have q1 : ((bs (relOf k)).toList != (bs (relOf k)).toList) = false := by simp
    obtain ⟨X, hX⟩ : ∃ X, bs (relOf k) = X := ⟨_, rfl⟩
    obtain ⟨Y, hY⟩ : ∃ X, bs (relOf (.n1 33 k)) = X := ⟨_, rfl⟩
    rw [hX] at R1 R2 RV NR HP q1
    rw [hY] at NR
    have q2 : (Y.toList == Y.toList) = true := by simp
    have HS : Hid (∃ Z : ByteArray, (∀ w, Calls Try.prog 16 #[.string (⟨#[33]⟩ ++ S)] w fun e w' => (e = .returned (.tuple #[.string Y, .bool true]) ∧ Below w.heap.size w w')) ∨ (∀ w, Calls Try.prog 16 #[.string (⟨#[33]⟩ ++ S)] w fun e w' => (e = .returned (.tuple #[.string Z, .bool false]) ∧ Below w.heap.size w w'))) := by
      by_cases hs : S.size < 200
      · rw [if_pos hs] at RN
        simp only [Option.map_some, optB, Option.isSome_some] at RN
        rw [hY] at RN
        exact ⟨Y, .inl RN.out⟩
      · rw [if_neg hs] at RN
        simp only [Option.map_none, optB, Option.isSome_none] at RN
        exact ⟨_, .inr RN.out⟩
    clear RN hX hY ho hk htx hz
    go_wp2_with fail
    refine (R1.out _).mono ?_
    rintro e w2 ⟨rfl, hb2⟩
    have B2 : Hid (Below w.heap.size w w2) := by first | exact Lib.hid (below_2 B1.out hb2) | exact Lib.hid (below_a1 B1.out hb2) | exact Lib.hid (below_a2 B1.out hb2) | exact Lib.hid (below_a3 B1.out hb2)
    clear hb2
    go_wp2_with fail
    refine (R2.out _).mono ?_
    rintro e w3 ⟨rfl, hb3⟩
    have B3 : Hid (Below w.heap.size w w3) := by first | exact Lib.hid (below_2 B2.out hb3) | exact Lib.hid (below_a1 B2.out hb3) | exact Lib.hid (below_a2 B2.out hb3) | exact Lib.hid (below_a3 B2.out hb3)
    clear hb3
    go_wp2_with fail
    refine (WV.out _).mono ?_
    rintro e w4 ⟨rfl, hb4⟩
    have B4 : Hid (Below w.heap.size w w4) := by first | exact Lib.hid (below_2 B3.out hb4) | exact Lib.hid (below_a1 B3.out hb4) | exact Lib.hid (below_a2 B3.out hb4) | exact Lib.hid (below_a3 B3.out hb4)
    clear hb4
    clear R1 R2 WV
    go_wp2_with fail
    refine (ppStates_any _).mono ?_
    rintro e w9 ⟨g, cap, hcap, rfl, hs⟩
    have HH : Hid (Sit w w9 (sts g)) := Lib.hid ⟨below_2 B4.out hs.below, hs.cells⟩
    clear hs
    go_wp2_with fail
    go_loopg [9] 27 (fun gk sv wr => ∃ a : Nat, a + gk = 27 ∧ sv = .int .i64 a ∧ Hid (Sit w wr (sts g)))
    case atStart => exact ⟨0, rfl, rfl, HH⟩
    case round =>
      clear HH
      obtain ⟨a, ha, rfl, HH⟩ := hrel
      obtain ⟨go, hgo⟩ : ∃ n, n = gk := ⟨_, rfl⟩
      rw [← hgo] at ha
      by_cases hla : a < 27
      · have hda : decide ((a : Int) < 27) = true := by simp; omega
        go_wp2_with fail
        try rw [hda]
        clear hda
        go_loopg [10] 27 (fun gk sv wr => ∃ b : Nat, b + gk = 27 ∧ sv = .int .i64 b ∧ Hid (Sit w wr (sts g)))
        case atStart => exact ⟨0, rfl, rfl, HH⟩
        case round =>
          clear HH
          obtain ⟨b, hb, rfl, HH⟩ := hrel
          by_cases hlb : b < 27
          · have EV := Lib.hid (EW.out a b hla hlb)
            have HV := Lib.hid (HP.out a b hla hlb)
            generalize relB k a b = rb at *
            have H := HH.out
            clear HH
            have hxa : (a : Int) < 27 := by omega
            have hxb : (b : Int) < 27 := by omega
            go_wp2_with fail
            refine region_class (fun W => Sit w W (sts g)) (by kernel_rfl) (by kernel_rfl) H.drew ?_
            repeat (first | go_big_quiet_skip | (go_big_quiet_want; first | (apply quiet_value; (· (intro W hW; (obtain ⟨d0, d1, d2⟩ := sts_x hW hla; obtain ⟨e0, e1, e2⟩ := sts_x hW hlb); go_simp; exact rfl)); simp only [Act.put, List.setIfInBounds_toArray, List.set_cons_zero, List.set_cons_succ]; go_big_quiet_on) | (apply quiet_call; (· (intro W hW; go_simp; exact ⟨rfl, rfl⟩)); (· (intro W hW; first | with_reducible exact ((EV.out W)).mono fun _ _ h => ⟨h.1, hW.call h.2⟩)); simp only [Act.put, List.setIfInBounds_toArray, List.set_cons_zero, List.set_cons_succ]; go_big_quiet_on)))
            refine wpQuiet_nil ?_
            intro wq hq
            clear H
            have H := hq
            clear hq
            go_wp2_with fail
            refine region_class (fun W => Sit w W (sts g)) (by kernel_rfl) (by kernel_rfl) H.drew ?_
            repeat (first | go_big_quiet_skip | (go_big_quiet_want; first | (apply quiet_value; (· (intro W hW; (obtain ⟨d0, d1, d2⟩ := sts_x hW hla; obtain ⟨e0, e1, e2⟩ := sts_x hW hlb); go_simp; exact rfl)); simp only [Act.put, List.setIfInBounds_toArray, List.set_cons_zero, List.set_cons_succ]; go_big_quiet_on) | (apply quiet_call; (· (intro W hW; go_simp; exact ⟨rfl, rfl⟩)); (· (intro W hW; first | with_reducible exact ((HV.out W)).mono fun _ _ h => ⟨h.1, hW.call h.2⟩)); simp only [Act.put, List.setIfInBounds_toArray, List.set_cons_zero, List.set_cons_succ]; go_big_quiet_on)))
            refine wpQuiet_nil ?_
            intro wq hq
            clear H
            have H := hq
            clear hq
            go_wp2_with fail
            go_roundg (gk - 1)
            case measure => omega
            case rel => exact ⟨b + 1, by omega, by go_num, H⟩
          · obtain rfl : b = 27 := by omega
            go_wp2_with fail
            go_roundg (go - 1)
            case measure => omega
            case rel => exact ⟨a + 1, by omega, by go_num, HH⟩
      · have BE := Lib.hid HH.out.below
        clear HH EW HP
        have t1 : 1 + S.size ≤ 9223372036854775807 := by omega
        obtain ⟨Z, hor⟩ := HS.out
        rcases hor with hz | hz
        · have RZ := Lib.hid hz
          clear hz HS
          go_wp2_with fail
          refine (RZ.out _).mono ?_
          rintro e w31 ⟨rfl, hb31⟩
          have B31 : Hid (Below w.heap.size w w31) := by first | exact Lib.hid (below_2 BE.out hb31) | exact Lib.hid (below_a1 BE.out hb31) | exact Lib.hid (below_a2 BE.out hb31) | exact Lib.hid (below_a3 BE.out hb31)
          clear hb31
          go_wp2_with fail
          refine (RV.out _).mono ?_
          rintro e w' ⟨rfl, rfl⟩
          go_wp2_with fail
          refine (NR.out _).mono ?_
          rintro e w32 ⟨rfl, hb32⟩
          have B32 : Hid (Below w.heap.size w w32) := by first | exact Lib.hid (below_2 B31.out hb32) | exact Lib.hid (below_a1 B31.out hb32) | exact Lib.hid (below_a2 B31.out hb32) | exact Lib.hid (below_a3 B31.out hb32)
          clear hb32
          go_wp2_with fail
          go_ret
          exact ⟨ret_bool (by first | rfl | simp), B32.out⟩
        · have RZ := Lib.hid hz
          clear hz HS
          go_wp2_with fail
          refine (RZ.out _).mono ?_
          rintro e w31 ⟨rfl, hb31⟩
          have B31 : Hid (Below w.heap.size w w31) := by first | exact Lib.hid (below_2 BE.out hb31) | exact Lib.hid (below_a1 BE.out hb31) | exact Lib.hid (below_a2 BE.out hb31) | exact Lib.hid (below_a3 BE.out hb31)
          clear hb31
          go_wp2_with fail
          refine (RV.out _).mono ?_
          rintro e w' ⟨rfl, rfl⟩
          go_wp2_with fail
          go_ret
          exact ⟨ret_bool (by first | rfl | simp), B31.out⟩

set_option maxRecDepth 100000 in
theorem lifted (os : Os) (started : os.Started) (H : Type) (enc : TypeId × Value → H) :
    ReturnsInHanded {} Try.checked os 3 .any (Rows.fnRelOfSpec.pre6 enc Try.prog Try.f3 Rows.fnRelOfRow.domain false) (Rows.fnRelOfSpec.post enc Try.prog Try.f3 false true false false) := by
  refine returnsInHanded_of_change (C := Try.checked) own started (by kernel_rfl) Try.func3
    (ChangeSpec.witness6 (enc := enc) (C := Try.checked) false ⟨#[], #[.slice none 0 0], []⟩ 8 (by kernel_rfl) (by kernel_rfl) (by kernel_rfl) (by kernel_rfl)) ?_
  intro W base args ds gs before hval0 hW hcnd _
  have hval : ∀ (j : Nat) t v, Try.f3.params[j]? = some t → args[j]? = some v → Value.okWide Try.prog W .any base t v := hval0
  have hW' := hW
  obtain ⟨p, q, hA0, hV, rfl, hfz, hnd⟩ := hW
  have hA : DataW.TrodAll enc Try.prog W 0 (fun _ => true) true Try.f3.params.toList args.toList ds p := hA0
  rw [Try.params3] at hA hval
  obtain ⟨v0, vs0, d0, ds0, p0, q0, hargs, rfl, rfl, h0, r0⟩ := trodAll_cons hA
  obtain ⟨rfl, rfl, rfl⟩ := trodAll_nil r0
  obtain rfl : args = #[v0] := by cases args; simp_all
  obtain ⟨rfl, rfl⟩ := trodVars_none hV
  have k0 := h0
  have lt0 : ∀ x ∈ p0, x.block < W.heap.size := by obtain ⟨m, hm⟩ := k0; exact DataW.trod_lt m _ _ _ hm
  obtain ⟨a0, len0, cap0, rfl⟩ := okWide_slice Try.underlying22 (hval 0 22 v0 rfl rfl)
  obtain ⟨z0, w0⟩ : ∃ zs, IsRow .u8 W a0 len0 cap0 zs := by
    obtain ⟨fuel, hf⟩ := h0
    rcases open_ints Try.underlying22 Try.underlying5 (by kernel_rfl) hf with ⟨hcs, _⟩ | ⟨x, l, c, zs, hcs, _, hl, hm, hz, _, hcell, hwz⟩
    · simp [Value.cells] at hcs
      obtain ⟨rfl, rfl, rfl⟩ := hcs
      exact ⟨[], .inl ⟨rfl, rfl, rfl, rfl⟩⟩
    · simp [Value.cells] at hcs
      obtain ⟨rfl, rfl, rfl⟩ := hcs
      exact ⟨zs, .inr ⟨_, rfl, hl, hm, by simpa using hz, hcell, hwz⟩⟩
  obtain ⟨by0, lc0, cm0⟩ := bytes_of_row w0
  clear hA0 hval0
  refine (walk a0 len0 cap0 W by0 lc0 cm0).mono fun e W' ⟨he, bel⟩ => ?_
  subst he
  exact ⟨_, rfl, _, _, _, [], _, [], hW', trodAll_mk1 (shut_bool Try.underlying4 _), (trodAll_cons_mk (Below.trod laidOut (by kernel_rfl) (of_decide_eq_true (by kernel_rfl)) k0 bel lt0) trodAll_mk0), rfl, bel.frame _, fun h => by cases h⟩

theorem over : Rows.fnRelOfRow.holds Try.pinned (OpenSpec.ofChange Rows.fnRelOfSpec) :=
  OpenClaim.holds_of_wide 3 Try.f3 rfl rfl rfl rfl rfl rfl rfl ⟨rfl, rfl, rfl, rfl, rfl⟩ rfl rfl rfl rfl rfl (by kernel_rfl) Try.func3 (by kernel_rfl)
    (of_decide_eq_true (by kernel_rfl)) (by unfold Func.isWrapper; first | (rw [if_pos (by decide +kernel)]; kernel_rfl) | (rw [if_neg (by decide +kernel)]; exact ⟨rfl, rfl⟩))
    (fun os started H enc _ => lifted os started H enc)

/-- the statement -/
theorem proved : Rows.FnRelOfSaid := over
#print axioms proved
end Go.Proofs.Ythdgheglmkhcbaa.fnRelOf
