/- The law FnStateText holds: for every input it returns true, and writes nothing that was there. No condition. -/
import Derived.Test.YtppcghklkldnaaaTx
import Derived.Test.YtppcghklkldnaaaShl
namespace Go.Proofs.Ytppcghklkldnaaa.fnStateText
open Go.ChangeShapes Go.WideShapes Go.ChangeAt Go.RowKit
open Go.ChangeMaps (open_string shut_string)

open Pl
set_option linter.unusedVariables false

theorem own : ownKnob Try.prog.godebug = none := by kernel_rfl
theorem laidOut : laidOutB Try.prog = true := by kernel_rfl

theorem num_st {i : Nat} (h : i < 27) : numI (stX i) (stY i) (stZ i) = i := by
  unfold numI
  rw [st_ok h, if_pos rfl]
  exact st_num i
theorem atN_some {i : Int} {n : Nat} (h : atN i = some n) : n < 27 ∧ i = n := by
  unfold atN at h
  split at h
  · injection h with h; subst h; omega
  · cases h
set_option maxRecDepth 100000 in
set_option maxHeartbeats 16000000 in
theorem walk (a0 : Option Addr) (len0 cap0 : Nat) (a1 : Option Addr) (len1 cap1 : Nat) (w : World) (hb0 : Bytes w a0 len0 w.heap.size) (hl0 : len0 ≤ cap0) (hc0 : cap0 ≤ 9223372036854775807) (hb1 : Bytes w a1 len1 w.heap.size) (hl1 : len1 ≤ cap1) (hc1 : cap1 ≤ 9223372036854775807) :
    Calls Try.prog 12 #[.slice a0 len0 cap0, .slice a1 len1 cap1] w fun e w' => e = .returned (.bool true) ∧ Below w.heap.size w w' := by
  by_cases hbig : 1048576 < len0
  · clear hb0 hb1
    go_enter Try.func12, Try.ntmps12
    go_wp2_with fail
    go_ret
    exact ⟨rfl, by first | exact Below.refl _ _ | exact below_n _ _ | exact (below_n _ _).alloc (by simp) _⟩
  by_cases hbig1 : 1048576 < len1
  · clear hb0 hb1
    go_enter Try.func12, Try.ntmps12
    go_wp2_with fail
    go_ret
    exact ⟨rfl, by first | exact Below.refl _ _ | exact below_n _ _ | exact (below_n _ _).alloc (by simp) _⟩
  have D := Lib.hid (DrawParseState_any a0 len0 cap0 w (by omega) hl0 hb0)
  have HB1 := Lib.hid hb1
  clear hb0 hb1
  go_enter Try.func12, Try.ntmps12
  go_wp2_with fail
  refine D.out.mono ?_
  rintro e w1 ⟨S, hS, rfl, hw1⟩
  have B1 := Lib.hid hw1
  clear D hw1
  have P := Lib.hid (fun w => ParseState_any S w)
  have PS := Lib.hid (fun w => ParseStateS_any S w)
  go_wp2_with fail
  refine (P.out _).mono ?_
  rintro e w2 ⟨rfl, hw2⟩
  have B2 := Lib.hid (below_2 B1.out hw2)
  clear hw2 P
  obtain ⟨o, ho⟩ : ∃ o, psN S.data.toList = o := ⟨_, rfl⟩
  rw [ho] at PS ⊢
  obtain ⟨x, hx⟩ : ∃ v, oX o = v := ⟨_, rfl⟩
  obtain ⟨y, hy⟩ : ∃ v, oY o = v := ⟨_, rfl⟩
  obtain ⟨z, hz⟩ : ∃ v, oZ o = v := ⟨_, rfl⟩
  obtain ⟨b, hb⟩ : ∃ v, o.isSome = v := ⟨_, rfl⟩
  rw [hx, hy, hz, hb] at PS ⊢
  have HO := Lib.hid ho
  have HX := Lib.hid hx
  have HY := Lib.hid hy
  have HZ := Lib.hid hz
  have HBB := Lib.hid hb
  clear ho hx hy hz hb
  go_wp2_with fail
  refine (PS.out _).mono ?_
  rintro e w3 ⟨rfl, hw3⟩
  have K1 := Lib.hid ((Blk.new w2 40 #[.int .i64 x, .int .i64 y, .int .i64 z]).below hw3 (by simp))
  have r1 : w2.heap.size < w3.heap.size := by have := hw3.size; simp at this; omega
  have B3 := Lib.hid (below_a1 B2.out hw3)
  clear hw3 PS B2
  have DS := Lib.hid (DrawStateAt_any a1 len1 cap1 (w3.alloc (.cells #[.int .i64 x, .int .i64 y, .int .i64 z] 40)) (by omega) hl1 (HB1.out.later (B3.out.alloc B3.out.size _)))
  go_wp2_with fail
  refine DS.out.mono ?_
  rintro e w4 ⟨i, rfl, hw4⟩
  have J4 := Lib.hid ((Blk.new w3 40 #[.int .i64 x, .int .i64 y, .int .i64 z]).below hw4 (by simp))
  have K4 := Lib.hid ((K1.out.alloc (.cells #[.int .i64 x, .int .i64 y, .int .i64 z] 40)).below hw4 (by simp; omega))
  have r4 : w3.heap.size < w4.heap.size := by have := hw4.size; simp at this; omega
  have B4 := Lib.hid (below_a1 B3.out hw4)
  clear hw4 DS HB1 K1 B3
  have A := Lib.hid (fun w => StateAt_any i w)
  have AS := Lib.hid (fun w => StateAtS_any i w)
  obtain ⟨p, hp⟩ : ∃ o, atN i = o := ⟨_, rfl⟩
  rw [hp] at A AS
  obtain ⟨X, hX⟩ : ∃ v, oX p = v := ⟨_, rfl⟩
  obtain ⟨Y, hY⟩ : ∃ v, oY p = v := ⟨_, rfl⟩
  obtain ⟨Z, hZ⟩ : ∃ v, oZ p = v := ⟨_, rfl⟩
  obtain ⟨c, hc⟩ : ∃ v, p.isSome = v := ⟨_, rfl⟩
  rw [hX, hY, hZ, hc] at A AS
  have HP := Lib.hid hp
  have HXX := Lib.hid hX
  have HYY := Lib.hid hY
  have HZZ := Lib.hid hZ
  have HCC := Lib.hid hc
  clear hp hX hY hZ hc
  go_wp2_with fail
  refine (A.out _).mono ?_
  rintro e w5 ⟨rfl, hw5⟩
  have J5 := Lib.hid (J4.out.below hw5 J4.out.lt)
  have K5 := Lib.hid (K4.out.below hw5 K4.out.lt)
  have B5 := Lib.hid (below_2 B4.out hw5)
  clear hw5 A J4 K4 B4
  go_wp2_with fail
  refine (AS.out _).mono ?_
  rintro e w6 ⟨rfl, hw6⟩
  have M6 := Lib.hid ((Blk.new w5 40 #[.int .i64 X, .int .i64 Y, .int .i64 Z]).below hw6 (by simp))
  have J6 := Lib.hid ((J5.out.alloc (.cells #[.int .i64 X, .int .i64 Y, .int .i64 Z] 40)).below hw6 (by have := J5.out.lt; simp; omega))
  have K6 := Lib.hid ((K5.out.alloc (.cells #[.int .i64 X, .int .i64 Y, .int .i64 Z] 40)).below hw6 (by have := K5.out.lt; simp; omega))
  have B6 := Lib.hid (below_a1 B5.out hw6)
  clear hw6 AS J5 K5 B5
  have m7 := M6.out.alloc (.cells #[.int .i64 X, .int .i64 Y, .int .i64 Z] 40)
  have j7 := J6.out.alloc (.cells #[.int .i64 X, .int .i64 Y, .int .i64 Z] 40)
  have k7 := K6.out.alloc (.cells #[.int .i64 X, .int .i64 Y, .int .i64 Z] 40)
  have n7 := Blk.new w6 40 #[.int .i64 X, .int .i64 Y, .int .i64 Z]
  have B7 := Lib.hid (B6.out.alloc B6.out.size (.cells #[.int .i64 X, .int .i64 Y, .int .i64 Z] 40))
  have FS := Lib.hid (fun w => FormatState_any x y z w)
  have SI := Lib.hid (fun w => StateIndex_any X Y Z w)
  have hfs : b = true → bs (fmt1 x y z) = S := by
    intro hb
    have h1 := HBB.out
    rw [hb] at h1
    obtain ⟨j, hj⟩ := Option.isSome_iff_exists.1 h1
    have ho := HO.out
    rw [hj] at ho
    obtain ⟨hlt, e⟩ := psN_some ho
    rw [← HX.out, ← HY.out, ← HZ.out, hj]
    show bs (fmt1 (stX j) (stY j) (stZ j)) = S
    rw [fmt_st hlt, e, bs_of]
  have hsi : c = true → numI X Y Z = i := by
    intro hc
    have h1 := HCC.out
    rw [hc] at h1
    obtain ⟨j, hj⟩ := Option.isSome_iff_exists.1 h1
    have ho := HP.out
    rw [hj] at ho
    obtain ⟨hlt, e⟩ := atN_some ho
    rw [← HXX.out, ← HYY.out, ← HZZ.out, hj, e]
    exact num_st hlt
  have q1 : (S.toList == S.toList) = true := by simp
  have q2 : (i == i) = true := by simp
  have HW : Hid (∃ W, W = w6) := ⟨_, rfl⟩
  clear HW
  have m0 := m7.cell 0
  have m1 := m7.cell 1
  have m2 := m7.cell 2
  have j0 := j7.cell 0
  have j1 := j7.cell 1
  have j2 := j7.cell 2
  have k0 := k7.cell 0
  have k1 := k7.cell 1
  have k2 := k7.cell 2
  have n0 := n7.cell 0
  have n1 := n7.cell 1
  have n2 := n7.cell 2
  simp only [List.getElem?_toArray, List.getElem?_cons_zero, List.getElem?_cons_succ] at m0 m1 m2 j0 j1 j2 k0 k1 k2 n0 n1 n2
  have M7 := Lib.hid m7
  have N7 := Lib.hid n7
  clear m7 j7 k7 n7
  cases b
  · clear hfs FS
    cases c
    · clear hsi SI
      go_wp2_with fail
      go_ret
      exact ⟨rfl, B7.out⟩
    · rw [hsi rfl] at SI
      clear hsi
      go_wp2_with fail
      refine (SI.out _).mono ?_
      rintro e w8 ⟨rfl, hw8⟩
      have B8 := Lib.hid (below_2 B7.out hw8)
      clear hw8
      go_wp2_with fail
      go_ret
      exact ⟨rfl, B8.out⟩
  · have hf := hfs rfl
    rw [hf] at FS
    clear hfs hf
    cases c
    · clear hsi SI
      go_wp2_with fail
      refine (FS.out _).mono ?_
      rintro e w8 ⟨rfl, hw8⟩
      have m8 := M7.out.below hw8 M7.out.lt
      have n8 := N7.out.below hw8 N7.out.lt
      have mm0 := m8.cell 0
      have mm1 := m8.cell 1
      have mm2 := m8.cell 2
      have nn0 := n8.cell 0
      have nn1 := n8.cell 1
      have nn2 := n8.cell 2
      simp only [List.getElem?_toArray, List.getElem?_cons_zero, List.getElem?_cons_succ] at mm0 mm1 mm2 nn0 nn1 nn2
      have B8 := Lib.hid (below_2 B7.out hw8)
      clear hw8 m8 n8 m0 m1 m2 n0 n1 n2 j0 j1 j2 k0 k1 k2
      go_wp2_with fail
      go_ret
      exact ⟨rfl, B8.out⟩
    · rw [hsi rfl] at SI
      clear hsi
      go_wp2_with fail
      refine (FS.out _).mono ?_
      rintro e w8 ⟨rfl, hw8⟩
      have m8 := M7.out.below hw8 M7.out.lt
      have n8 := N7.out.below hw8 N7.out.lt
      have mm0 := m8.cell 0
      have mm1 := m8.cell 1
      have mm2 := m8.cell 2
      have nn0 := n8.cell 0
      have nn1 := n8.cell 1
      have nn2 := n8.cell 2
      simp only [List.getElem?_toArray, List.getElem?_cons_zero, List.getElem?_cons_succ] at mm0 mm1 mm2 nn0 nn1 nn2
      have B8 := Lib.hid (below_2 B7.out hw8)
      clear hw8 m8 n8 m0 m1 m2 n0 n1 n2 j0 j1 j2 k0 k1 k2
      go_wp2_with fail
      refine (SI.out _).mono ?_
      rintro e w9 ⟨rfl, hw9⟩
      have B9 := Lib.hid (below_2 B8.out hw9)
      clear hw9
      go_wp2_with fail
      go_ret
      exact ⟨rfl, B9.out⟩

set_option maxRecDepth 100000 in
theorem lifted (os : Os) (started : os.Started) (H : Type) (enc : TypeId × Value → H) :
    ReturnsInHanded {} Try.checked os 12 .any (Rows.fnStateTextSpec.pre6 enc Try.prog Try.f12 Rows.fnStateTextRow.domain false) (Rows.fnStateTextSpec.post enc Try.prog Try.f12 false true false false) := by
  refine returnsInHanded_of_change (C := Try.checked) own started (by kernel_rfl) Try.func12
    (ChangeSpec.witness6 (enc := enc) (C := Try.checked) false ⟨#[], #[.slice none 0 0, .slice none 0 0], []⟩ 8 (by kernel_rfl) (by kernel_rfl) (by kernel_rfl) (by kernel_rfl)) ?_
  intro W base args ds gs before hval0 hW hcnd _
  have hval : ∀ (j : Nat) t v, Try.f12.params[j]? = some t → args[j]? = some v → Value.okWide Try.prog W .any base t v := hval0
  have hW' := hW
  obtain ⟨p, q, hA0, hV, rfl, hfz, hnd⟩ := hW
  have hA : DataW.TrodAll enc Try.prog W 0 (fun _ => true) true Try.f12.params.toList args.toList ds p := hA0
  rw [Try.params12] at hA hval
  obtain ⟨v0, vs0, d0, ds0, p0, q0, hargs, rfl, rfl, h0, r0⟩ := trodAll_cons hA
  obtain ⟨v1, vs1, d1, ds1, p1, q1, rfl, rfl, rfl, h1, r1⟩ := trodAll_cons r0
  obtain ⟨rfl, rfl, rfl⟩ := trodAll_nil r1
  obtain rfl : args = #[v0, v1] := by cases args; simp_all
  obtain ⟨rfl, rfl⟩ := trodVars_none hV
  have k0 := h0
  have lt0 : ∀ x ∈ p0, x.block < W.heap.size := by obtain ⟨m, hm⟩ := k0; exact DataW.trod_lt m _ _ _ hm
  obtain ⟨a0, len0, cap0, rfl⟩ := okWide_slice Try.underlying25 (hval 0 25 v0 rfl rfl)
  obtain ⟨z0, w0⟩ : ∃ zs, IsRow .u8 W a0 len0 cap0 zs := by
    obtain ⟨fuel, hf⟩ := h0
    rcases open_ints Try.underlying25 Try.underlying5 (by kernel_rfl) hf with ⟨hcs, _⟩ | ⟨x, l, c, zs, hcs, _, hl, hm, hz, _, hcell, hwz⟩
    · simp [Value.cells] at hcs
      obtain ⟨rfl, rfl, rfl⟩ := hcs
      exact ⟨[], .inl ⟨rfl, rfl, rfl, rfl⟩⟩
    · simp [Value.cells] at hcs
      obtain ⟨rfl, rfl, rfl⟩ := hcs
      exact ⟨zs, .inr ⟨_, rfl, hl, hm, by simpa using hz, hcell, hwz⟩⟩
  obtain ⟨by0, lc0, cm0⟩ := bytes_of_row w0
  have k1 := h1
  have lt1 : ∀ x ∈ p1, x.block < W.heap.size := by obtain ⟨m, hm⟩ := k1; exact DataW.trod_lt m _ _ _ hm
  obtain ⟨a1, len1, cap1, rfl⟩ := okWide_slice Try.underlying25 (hval 1 25 v1 rfl rfl)
  obtain ⟨z1, w1⟩ : ∃ zs, IsRow .u8 W a1 len1 cap1 zs := by
    obtain ⟨fuel, hf⟩ := h1
    rcases open_ints Try.underlying25 Try.underlying5 (by kernel_rfl) hf with ⟨hcs, _⟩ | ⟨x, l, c, zs, hcs, _, hl, hm, hz, _, hcell, hwz⟩
    · simp [Value.cells] at hcs
      obtain ⟨rfl, rfl, rfl⟩ := hcs
      exact ⟨[], .inl ⟨rfl, rfl, rfl, rfl⟩⟩
    · simp [Value.cells] at hcs
      obtain ⟨rfl, rfl, rfl⟩ := hcs
      exact ⟨zs, .inr ⟨_, rfl, hl, hm, by simpa using hz, hcell, hwz⟩⟩
  obtain ⟨by1, lc1, cm1⟩ := bytes_of_row w1
  clear hA0 hval0
  refine (walk a0 len0 cap0 a1 len1 cap1 W by0 lc0 cm0 by1 lc1 cm1).mono fun e W' ⟨he, bel⟩ => ?_
  subst he
  exact ⟨_, rfl, _, _, _, [], _, [], hW', trodAll_mk1 (shut_bool Try.underlying4 _), (trodAll_cons_mk (Below.trod laidOut (by kernel_rfl) (of_decide_eq_true (by kernel_rfl)) k0 bel lt0) (trodAll_cons_mk (Below.trod laidOut (by kernel_rfl) (of_decide_eq_true (by kernel_rfl)) k1 bel lt1) trodAll_mk0)), rfl, bel.frame _, fun h => by cases h⟩

theorem over : Rows.fnStateTextRow.holds Try.pinned (OpenSpec.ofChange Rows.fnStateTextSpec) :=
  OpenClaim.holds_of_wide 12 Try.f12 rfl rfl rfl rfl rfl rfl rfl ⟨rfl, rfl, rfl, rfl, rfl⟩ rfl rfl rfl rfl rfl (by kernel_rfl) Try.func12 (by kernel_rfl)
    (of_decide_eq_true (by kernel_rfl)) (by unfold Func.isWrapper; first | (rw [if_pos (by decide +kernel)]; kernel_rfl) | (rw [if_neg (by decide +kernel)]; exact ⟨rfl, rfl⟩))
    (fun os started H enc _ => lifted os started H enc)

/-- the statement -/
theorem proved : Rows.FnStateTextSaid := over
#print axioms proved
end Go.Proofs.Ytppcghklkldnaaa.fnStateText
