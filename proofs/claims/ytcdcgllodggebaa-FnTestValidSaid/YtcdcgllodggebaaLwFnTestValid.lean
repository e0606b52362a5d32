/- The law FnTestValid holds: for every input it returns true, and writes nothing that was there. No condition. -/
import Derived.Test.YtcdcgllodggebaaShx
import Derived.Test.YtcdcgllodggebaaPld
import Derived.Test.YtcdcgllodggebaaDre
import Derived.Test.YtcdcgllodggebaaShl
namespace Go.Proofs.Ytcdcgllodggebaa.fnTestValid
open Go.ChangeShapes Go.WideShapes Go.ChangeAt Go.RowKit
open Go.ChangeMaps (open_string shut_string)
open Pl
set_option linter.unusedVariables false

theorem own : ownKnob Try.prog.godebug = none := by kernel_rfl
theorem laidOut : laidOutB Try.prog = true := by kernel_rfl

theorem below2 {a b c : World} (h1 : Below a.heap.size a b) (h2 : Below b.heap.size b c) : Below a.heap.size a c := h1.trans (h2.mono h1.size)
theorem below5 {a b c d e f g : World} (h1 : Below a.heap.size a b) (h2 : Below b.heap.size b c) (h3 : Below c.heap.size c d) (h4 : Below d.heap.size d e) (h5 : Below e.heap.size e f) (h6 : Below f.heap.size f g) : Below a.heap.size a g :=
  below2 (below2 (below2 (below2 (below2 h1 h2) h3) h4) h5) h6

theorem shT_ne {k : Nd} (h : ok false 1 k = true) : shT k ≠ [] := by
  rcases ok1_head h with ⟨c, rfl, rfl | rfl⟩ | ⟨a, rfl, _⟩ | ⟨o, a, b, rfl, rfl | rfl, _⟩ | ⟨o, a, b, rfl, rfl | rfl, _⟩ <;> simp [shT]

set_option maxHeartbeats 4000000 in
theorem walk (a0 : Option Addr) (len0 cap0 : Nat) (w : World) (hb0 : Bytes w a0 len0 w.heap.size) (hl0 : len0 ≤ cap0) (hc0 : cap0 ≤ 9223372036854775807) :
    Calls Try.prog 4 #[.slice a0 len0 cap0] w fun e w' => e = .returned (.bool true) ∧ Below w.heap.size w w' := by
  by_cases hbig : 1048576 < len0
  · clear hb0
    go_enter Try.func4, Try.ntmps4
    go_wp2_with fail
    go_ret
    exact ⟨rfl, Below.refl _ _⟩
  have D := Lib.hid (DrawTestValid_any a0 len0 cap0 w (by omega) hl0 hb0)
  clear hb0
  go_enter Try.func4, Try.ntmps4
  go_wp2_with fail
  refine D.out.mono ?_
  rintro e w1 ⟨S, hS, rfl, hb1⟩
  have B1 := Lib.hid hb1
  clear D hb1
  have T1 := Lib.hid (fun w => TestValid_any S (by omega) w)
  have T2 := Lib.hid (fun w => TestValidS_any S w (by omega))
  have T3 := Lib.hid (fun w => ExprValid_any S (by omega) w)
  have T4 := Lib.hid (fun w => ShowTest_any S (by omega) w)
  by_cases hlong : S.size ≤ 90
  · have hl := len_S S
    have e1 : (whole false 1 200 ((⟨#[33]⟩ : ByteArray) ++ S).data.toList).isSome = (whole false 1 200 S.data.toList).isSome := by
      have h1 := whole_not (l := S.data.toList) (by omega)
      have h2 : ((⟨#[33]⟩ : ByteArray) ++ S).data.toList = 33 :: S.data.toList := by rw [ByteArray.data_append]; simp
      rw [h2]; exact h1
    have e2 : (whole false 1 200 ((⟨#[38, 116]⟩ : ByteArray) ++ S).data.toList).isSome = (whole false 1 200 S.data.toList).isSome := by
      have h1 := whole_con (o := 38) (c := 116) (.inl rfl) (.inl rfl) (l := S.data.toList) (by omega)
      have h2 : ((⟨#[38, 116]⟩ : ByteArray) ++ S).data.toList = 38 :: 116 :: S.data.toList := by rw [ByteArray.data_append]; simp
      rw [h2]; exact h1
    have e3 : (whole false 1 200 ((⟨#[124, 102]⟩ : ByteArray) ++ S).data.toList).isSome = (whole false 1 200 S.data.toList).isSome := by
      have h1 := whole_con (o := 124) (c := 102) (.inr rfl) (.inr rfl) (l := S.data.toList) (by omega)
      have h2 : ((⟨#[124, 102]⟩ : ByteArray) ++ S).data.toList = 124 :: 102 :: S.data.toList := by rw [ByteArray.data_append]; simp
      rw [h2]; exact h1
    have U1 := Lib.hid (fun w => TestValid_any ((⟨#[33]⟩ : ByteArray) ++ S) (by rw [ByteArray.size_append, show (⟨#[33]⟩ : ByteArray).size = 1 from rfl]; omega) w)
    have U2 := Lib.hid (fun w => TestValid_any ((⟨#[38, 116]⟩ : ByteArray) ++ S) (by rw [ByteArray.size_append, show (⟨#[38, 116]⟩ : ByteArray).size = 2 from rfl]; omega) w)
    have U3 := Lib.hid (fun w => TestValid_any ((⟨#[124, 102]⟩ : ByteArray) ++ S) (by rw [ByteArray.size_append, show (⟨#[124, 102]⟩ : ByteArray).size = 2 from rfl]; omega) w)
    rw [e1] at U1
    rw [e2] at U2
    rw [e3] at U3
    have hx := test_no_expr (l := S.data.toList)
    cases ho : whole false 1 200 S.data.toList with
    | none =>
      rw [ho] at T1 T2 U1 U2 U3
      simp only [Option.isSome_none] at T1 T2 U1 U2 U3
      clear T3 T4 e1 e2 e3 hx hl ho
      go_wp2_with fail
      refine (T1.out _).mono ?_
      rintro e w2 ⟨rfl, hb2⟩
      have B2 := Lib.hid hb2
      clear hb2
      go_wp2_with fail
      refine (T2.out _).mono ?_
      rintro e w3 ⟨rfl, m, rfl⟩
      go_wp2_with fail
      refine (U1.out _).mono ?_
      rintro e w3 ⟨rfl, hb3⟩
      have B3 := Lib.hid hb3
      clear hb3
      go_wp2_with fail
      refine (U2.out _).mono ?_
      rintro e w4 ⟨rfl, hb4⟩
      have B4 := Lib.hid hb4
      clear hb4
      go_wp2_with fail
      refine (U3.out _).mono ?_
      rintro e w5 ⟨rfl, hb5⟩
      have B5 := Lib.hid hb5
      clear hb5
      go_wp2_with fail
      go_ret
      exact ⟨rfl, below5 B1.out B2.out (below_drewN _ _ _) B3.out B4.out B5.out⟩
    | some k =>
      rw [ho] at T1 T2 U1 U2 U3 T4 hx
      have hxx := hx rfl
      rw [hxx] at T3
      obtain ⟨_, hk, _⟩ := (whole_iff (by omega)).1 ho
      obtain ⟨c, t, hct⟩ : ∃ c t, shT k = c :: t := by
        cases h : shT k with
        | nil => exact absurd h (shT_ne hk)
        | cons c t => exact ⟨c, t, rfl⟩
      simp only [Option.isSome_some, shTO, hct] at T1 T2 U1 U2 U3 T4
      clear e1 e2 e3 hx hl ho hxx hk hct
      go_wp2_with fail
      refine (T1.out _).mono ?_
      rintro e w2 ⟨rfl, hb2⟩
      have B2 := Lib.hid hb2
      clear hb2
      go_wp2_with fail
      refine (T2.out _).mono ?_
      rintro e w3 ⟨rfl, m, rfl⟩
      go_wp2_with fail
      refine (U1.out _).mono ?_
      rintro e w3 ⟨rfl, hb3⟩
      have B3 := Lib.hid hb3
      clear hb3
      go_wp2_with fail
      refine (U2.out _).mono ?_
      rintro e w4 ⟨rfl, hb4⟩
      have B4 := Lib.hid hb4
      clear hb4
      go_wp2_with fail
      refine (U3.out _).mono ?_
      rintro e w5 ⟨rfl, hb5⟩
      have B5 := Lib.hid hb5
      clear hb5
      go_wp2_with fail
      refine (T3.out _).mono ?_
      rintro e w6 ⟨rfl, hb6⟩
      have B6 := Lib.hid hb6
      clear hb6
      go_wp2_with fail
      refine (T4.out _).mono ?_
      rintro e w7 ⟨rfl, hb7⟩
      have B7 := Lib.hid hb7
      clear hb7
      go_wp2_with fail
      go_ret
      have B8 := below5 B1.out B2.out (below_drewN _ _ _) B3.out B4.out B5.out
      exact ⟨ret_bool (by simp [bs]), B8.trans ((B6.out.mono B8.size).trans (B7.out.mono (Nat.le_trans B8.size B6.out.size)))⟩
  · generalize (whole false 1 200 S.data.toList).isSome = o at *
    clear T3 T4
    go_wp2_with fail
    refine (T1.out _).mono ?_
    rintro e w2 ⟨rfl, hb2⟩
    have B2 := Lib.hid hb2
    clear hb2
    cases o
    all_goals
      go_wp2_with fail
      refine (T2.out _).mono ?_
      rintro e w3 ⟨rfl, m, rfl⟩
      go_wp2_with fail
      refine (T2.out _).mono ?_
      rintro e w3 ⟨rfl, m2, rfl⟩
      go_wp2_with fail
      go_ret
      exact ⟨rfl, (B1.out.trans (B2.out.mono B1.out.size)).trans (below_drewN _ _ _)⟩

set_option maxRecDepth 100000 in
theorem lifted (os : Os) (started : os.Started) (H : Type) (enc : TypeId × Value → H) :
    ReturnsInHanded {} Try.checked os 4 .any (Rows.fnTestValidSpec.pre6 enc Try.prog Try.f4 Rows.fnTestValidRow.domain false) (Rows.fnTestValidSpec.post enc Try.prog Try.f4 false true false false) := by
  refine returnsInHanded_of_change (C := Try.checked) own started (by kernel_rfl) Try.func4
    (ChangeSpec.witness6 (enc := enc) (C := Try.checked) false ⟨#[], #[.slice none 0 0], []⟩ 8 (by kernel_rfl) (by kernel_rfl) (by kernel_rfl) (by kernel_rfl)) ?_
  intro W base args ds gs before hval0 hW hcnd _
  have hval : ∀ (j : Nat) t v, Try.f4.params[j]? = some t → args[j]? = some v → Value.okWide Try.prog W .any base t v := hval0
  have hW' := hW
  obtain ⟨p, q, hA0, hV, rfl, hfz, hnd⟩ := hW
  have hA : DataW.TrodAll enc Try.prog W 0 (fun _ => true) true Try.f4.params.toList args.toList ds p := hA0
  rw [Try.params4] at hA hval
  obtain ⟨v0, vs0, d0, ds0, p0, q0, hargs, rfl, rfl, h0, r0⟩ := trodAll_cons hA
  obtain ⟨rfl, rfl, rfl⟩ := trodAll_nil r0
  obtain rfl : args = #[v0] := by cases args; simp_all
  obtain ⟨rfl, rfl⟩ := trodVars_none hV
  obtain ⟨a0, len0, cap0, rfl⟩ := okWide_slice Try.underlying22 (hval 0 22 v0 rfl rfl)
  have k0 := h0
  have lt0 : ∀ x ∈ p0, x.block < W.heap.size := by obtain ⟨m, hm⟩ := k0; exact DataW.trod_lt m _ _ _ hm
  obtain ⟨z0, w0⟩ : ∃ zs, IsRow .u8 W a0 len0 cap0 zs := by
    obtain ⟨fuel, hf⟩ := h0
    rcases open_ints Try.underlying22 Try.underlying5 (by kernel_rfl) hf with ⟨hcs, _⟩ | ⟨x, l, c, zs, hcs, _, hl, hm, hz, _, hcell, hwz⟩
    · simp [Value.cells] at hcs
      obtain ⟨rfl, rfl, rfl⟩ := hcs
      exact ⟨[], .inl ⟨rfl, rfl, rfl, rfl⟩⟩
    · simp [Value.cells] at hcs
      obtain ⟨rfl, rfl, rfl⟩ := hcs
      exact ⟨zs, .inr ⟨_, rfl, hl, hm, by simpa using hz, hcell, hwz⟩⟩
  obtain ⟨by0, lc0, cm0⟩ := bytes_of_row w0
  clear hA0 hval0
  refine (walk a0 len0 cap0 W by0 lc0 cm0).mono fun e W' ⟨he, bel⟩ => ?_
  subst he
  exact ⟨_, rfl, _, _, _, [], _, [], hW', trodAll_mk1 (shut_bool Try.underlying4 _), (trodAll_cons_mk (Below.trod laidOut (by kernel_rfl) (of_decide_eq_true (by kernel_rfl)) k0 bel lt0) trodAll_mk0), rfl, bel.frame _, fun h => by cases h⟩

theorem over : Rows.fnTestValidRow.holds Try.pinned (OpenSpec.ofChange Rows.fnTestValidSpec) :=
  OpenClaim.holds_of_wide 4 Try.f4 rfl rfl rfl rfl rfl rfl rfl ⟨rfl, rfl, rfl, rfl, rfl⟩ rfl rfl rfl rfl rfl (by kernel_rfl) Try.func4 (by kernel_rfl)
    (of_decide_eq_true (by kernel_rfl)) (by unfold Func.isWrapper; first | (rw [if_pos (by decide +kernel)]; kernel_rfl) | (rw [if_neg (by decide +kernel)]; exact ⟨rfl, rfl⟩))
    (fun os started H enc _ => lifted os started H enc)

/-- the statement -/
theorem proved : Rows.FnTestValidSaid := over
#print axioms proved
end Go.Proofs.Ytcdcgllodggebaa.fnTestValid
