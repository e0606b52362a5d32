/- The law FnEvalWide holds: for every input it returns true, and writes nothing that was there. No condition. -/
import Derived.Test.YtcdcgllodggebaaDrg
import Derived.Test.YtcdcgllodggebaaPp
import Derived.Test.YtcdcgllodggebaaBy
import Derived.Test.YtcdcgllodggebaaPlg
import Derived.Test.YtcdcgllodggebaaShl
import Derived.Deep.RegionHeld3
import Derived.Deep.LoopGhost
import Derived.Deep.DeepCutAuto
import Derived.Deep.CutBlock
namespace Go.Proofs.Ytcdcgllodggebaa.fnEvalWide
open Go.ChangeShapes Go.WideShapes Go.ChangeAt Go.RowKit
open Go.ChangeMaps (open_string shut_string)

open Pl
set_option linter.unusedVariables false

theorem own : ownKnob Try.prog.godebug = none := by kernel_rfl
theorem laidOut : laidOutB Try.prog = true := by kernel_rfl

set_option maxRecDepth 100000 in
set_option maxHeartbeats 8000000 in
theorem walk (a0 : Option Addr) (len0 cap0 : Nat) (w : World) (hb0 : Bytes w a0 len0 w.heap.size) (hl0 : len0 ≤ cap0) (hc0 : cap0 ≤ 9223372036854775807) :
    Calls Try.prog 12 #[.slice a0 len0 cap0] w fun e w' => e = .returned (.bool true) ∧ Below w.heap.size w w' := by
  by_cases hbig : 1048576 < len0
  · clear hb0
    go_enter Try.func12, Try.ntmps12
    go_wp2_with fail
    go_ret
    exact ⟨rfl, by first | exact Below.refl _ _ | exact below_n _ _ | exact (below_n _ _).alloc (by simp) _⟩
  have D := Lib.hid (DrawEvalWide_any a0 len0 cap0 w (by omega) hl0 hb0)
  clear hb0
  go_enter Try.func12, Try.ntmps12
  go_wp2_with fail
  refine D.out.mono ?_
  rintro e w1 ⟨S, x, y, z, X, Y, Z, hS, rfl, hb1⟩
  clear D
  have H : Sit w ((w1.alloc (.cells #[.int .i64 x, .int .i64 y, .int .i64 z] 35)).alloc (.cells #[.int .i64 X, .int .i64 Y, .int .i64 Z] 35)) [(⟨w1.heap.size, 0, none⟩, .int .i64 x), (⟨w1.heap.size, 1, none⟩, .int .i64 y), (⟨w1.heap.size, 2, none⟩, .int .i64 z), (⟨w1.heap.size + 1, 0, none⟩, .int .i64 X), (⟨w1.heap.size + 1, 1, none⟩, .int .i64 Y), (⟨w1.heap.size + 1, 2, none⟩, .int .i64 Z)] := by
    have h := ((((Sit.refl w).call hb1).box3 (a := .int .i64 x) (b := .int .i64 y) (c := .int .i64 z) 35).box3 (a := .int .i64 X) (b := .int .i64 Y) (c := .int .i64 Z) 35).less (l' := [(⟨w1.heap.size, 0, none⟩, .int .i64 x), (⟨w1.heap.size, 1, none⟩, .int .i64 y), (⟨w1.heap.size, 2, none⟩, .int .i64 z), (⟨w1.heap.size + 1, 0, none⟩, .int .i64 X), (⟨w1.heap.size + 1, 1, none⟩, .int .i64 Y), (⟨w1.heap.size + 1, 2, none⟩, .int .i64 Z)]) (by simp)
    exact h
  obtain ⟨d0, d1, d2, e0, e1, e2⟩ := H.c6
  clear hb1
  have V := Lib.hid (fun w => EvalWide_any S (by omega) x y z X Y Z w)
  have VS := Lib.hid (fun w => EvalWideS_any S (by omega) x y z X Y Z w)
  have VA := Lib.hid (fun w => EvalWide_any S (by omega) x y z x y z w)
  have hS2 : S.size ≤ 2000 := by omega
  obtain ⟨o, ho⟩ : ∃ o, whole true 1 200 S.data.toList = o := ⟨_, rfl⟩
  simp only [ho] at V VS VA
  by_cases hok : evO o (stB x y z && stB X Y Z) = true
  · obtain ⟨k, rfl⟩ : ∃ k, o = some k := by cases o; simp [evO] at hok; exact ⟨_, rfl⟩
    simp only [evO, Option.isSome_some, Bool.true_and, Bool.and_eq_true] at hok
    obtain ⟨st1, st2⟩ := hok
    obtain ⟨hle, hk, htx⟩ := (whole_iff (by omega)).1 ho
    simp only [evT, evO, st1, st2, Option.isSome_some, Bool.true_and] at V VS VA
    have hone : evT (whole false 1 200 (S.data.toList.map low)) (stB x y z) (envOf x y z 0 0 0) = tru (envOf x y z x y z) k ∧ evO (whole false 1 200 (S.data.toList.map low)) (stB x y z) = true := by
      have h1 := mapN_ok low_keeps (by omega) hk
      have h2 : whole false 1 200 (S.data.toList.map low) = some (mapN low k) := by
        rw [htx, ← mapN_text]
        exact whole_text h1 (by rw [mapN_text, List.length_map, ← htx]; exact hle)
      rw [h2, st1]
      exact ⟨by simp only [evT, Bool.true_and]; exact mapN_tru low_keeps low_env hk, rfl⟩
    have htwo : evT (whole true 1 200 (S.data.toList.map swp)) (stB X Y Z && stB x y z) (envOf X Y Z x y z) = tru (envOf x y z X Y Z) k ∧ evO (whole true 1 200 (S.data.toList.map swp)) (stB X Y Z && stB x y z) = true := by
      have h1 := mapN_ok swp_keeps (by omega) hk
      have h2 : whole true 1 200 (S.data.toList.map swp) = some (mapN swp k) := by
        rw [htx, ← mapN_text]
        exact whole_text h1 (by rw [mapN_text, List.length_map, ← htx]; exact hle)
      rw [h2, st1, st2]
      exact ⟨by simp only [evT, Bool.true_and]; exact mapN_tru swp_keeps swp_env hk, rfl⟩
    have V1 := Lib.hid (fun w => EvalTest_any ⟨(S.data.toList.map low).toArray⟩ (by show (S.data.toList.map low).toArray.size ≤ _; simp; omega) x y z w)
    have V2 := Lib.hid (fun w => EvalWide_any ⟨(S.data.toList.map swp).toArray⟩ (by show (S.data.toList.map swp).toArray.size ≤ _; simp; omega) X Y Z x y z w)
    simp only [hone.1, hone.2, htwo.1, htwo.2] at V1 V2
    obtain ⟨tv, htv⟩ : ∃ v, tru (envOf x y z X Y Z) k = v := ⟨_, rfl⟩
    obtain ⟨uv, huv⟩ : ∃ v, tru (envOf x y z x y z) k = v := ⟨_, rfl⟩
    simp only [htv, huv] at V VS VA V1 V2
    obtain ⟨T1, hT1⟩ : ∃ T : ByteArray, ⟨(S.data.toList.map low).toArray⟩ = T := ⟨_, rfl⟩
    obtain ⟨T2, hT2⟩ : ∃ T : ByteArray, ⟨(S.data.toList.map swp).toArray⟩ = T := ⟨_, rfl⟩
    rw [hT1] at V1
    rw [hT2] at V2
    have HT1 := Lib.hid hT1
    have HT2 := Lib.hid hT2
    have q1 : (tv != tv) = false := by simp
    have q2 : (uv == uv) = true := by simp
    have q3 : (tv == tv) = true := by simp
    clear hT1 hT2 htv huv hone htwo ho hk htx hle st1 st2 hS
    go_wp2_with fail
    refine (V.out _).mono ?_
    rintro e w2 ⟨rfl, hb⟩
    replace H := H.call hb
    clear hb
    clear d0 d1 d2 e0 e1 e2
    obtain ⟨d0, d1, d2, e0, e1, e2⟩ := H.c6
    go_wp2_with fail
    refine (VS.out _).mono ?_
    rintro e w3 ⟨rfl, hb⟩
    replace H := H.call hb
    clear hb
    clear d0 d1 d2 e0 e1 e2
    obtain ⟨d0, d1, d2, e0, e1, e2⟩ := H.c6
    obtain ⟨cap1, w4, hrun1, r1, hb4⟩ := bytes_new w3 S
    obtain ⟨cap2, w5, hrun2, r2, hb5⟩ := bytes_new w4 S
    have hne12 : w3.heap.size ≠ w4.heap.size := by have := r1.lt; omega
    replace r1 := r1.call hb5
    obtain ⟨ge1, ne1⟩ := H.fresh
    replace H := H.call hb4
    obtain ⟨ge2, ne2⟩ := H.fresh
    replace H := H.call hb5
    have ST1 := Lib.hid (fun j W v (h : Sit w W [(⟨w1.heap.size, 0, none⟩, .int .i64 x), (⟨w1.heap.size, 1, none⟩, .int .i64 y), (⟨w1.heap.size, 2, none⟩, .int .i64 z), (⟨w1.heap.size + 1, 0, none⟩, .int .i64 X), (⟨w1.heap.size + 1, 1, none⟩, .int .i64 Y), (⟨w1.heap.size + 1, 2, none⟩, .int .i64 Z)]) => h.set ge1 ne1 j v)
    have ST2 := Lib.hid (fun j W v (h : Sit w W [(⟨w1.heap.size, 0, none⟩, .int .i64 x), (⟨w1.heap.size, 1, none⟩, .int .i64 y), (⟨w1.heap.size, 2, none⟩, .int .i64 z), (⟨w1.heap.size + 1, 0, none⟩, .int .i64 X), (⟨w1.heap.size + 1, 1, none⟩, .int .i64 Y), (⟨w1.heap.size + 1, 2, none⟩, .int .i64 Z)]) => h.set ge2 ne2 j v)
    have R1 : Hid (ByteRow w5 w3.heap.size (prog low 0 S.data.toList)) := by rw [prog_zero]; exact r1
    have R2 : Hid (ByteRow w5 w4.heap.size (prog swp 0 S.data.toList)) := by rw [prog_zero]; exact r2
    have HH := Lib.hid H
    go_wp2_with fail
    clear V VS hb4 hb5 r1 r2 hrun1 hrun2 ge1 ne1 ge2 ne2 H d0 d1 d2 e0 e1 e2
    go_loopg [12] S.size (fun gk i wr => ∃ k : Nat, k + gk = S.size ∧ i = .int .i64 k ∧ Hid (Sit w wr [(⟨w1.heap.size, 0, none⟩, .int .i64 x), (⟨w1.heap.size, 1, none⟩, .int .i64 y), (⟨w1.heap.size, 2, none⟩, .int .i64 z), (⟨w1.heap.size + 1, 0, none⟩, .int .i64 X), (⟨w1.heap.size + 1, 1, none⟩, .int .i64 Y), (⟨w1.heap.size + 1, 2, none⟩, .int .i64 Z)]) ∧ Hid (ByteRow wr w3.heap.size (prog low k S.data.toList)) ∧ Hid (ByteRow wr w4.heap.size (prog swp k S.data.toList)))
    case atStart => exact ⟨0, by omega, rfl, HH, R1, R2⟩
    case round =>
      clear HH R1 R2
      obtain ⟨j, hj, rfl, HH, R1, R2⟩ := hrel
      by_cases hlt : j < S.size
      · have hll : j < S.data.toList.length := by rw [len_S]; exact hlt
        obtain ⟨ch, hc⟩ : ∃ ch, S[j] = ch := ⟨_, rfl⟩
        have hcl : S.data.toList[j] = ch := hc
        have c1 := R1.out.at_ (c := ch) (by rw [prog_len]; exact hll) (by rw [prog_get low hll]; exact hcl)
        have f1 := R1.out.free j (by rw [prog_len]; exact hll)
        have c2 := R2.out.at_ (c := ch) (by rw [prog_len]; exact hll) (by rw [prog_get swp hll]; exact hcl)
        have f2 := R2.out.free j (by rw [prog_len]; exact hll)
        have HCL := Lib.hid hcl
        clear hcl
        by_cases hA : 88 ≤ ch.toNat ∧ ch.toNat ≤ 90
        · obtain ⟨a1, a2⟩ := hA
          have hl : low ch = ch + 32 := by unfold low; rw [if_pos ⟨by rw [UInt8.le_iff_toNat_le]; exact a1, by rw [UInt8.le_iff_toNat_le]; exact a2⟩]
          have hs : swp ch = ch + 32 := by unfold swp; rw [if_pos ⟨by rw [UInt8.le_iff_toNat_le]; exact a1, by rw [UInt8.le_iff_toNat_le]; exact a2⟩]
          have hv : ((ch + 32).toNat : Int) = (ch.toNat : Int) + 32 := by rw [UInt8.toNat_add]; simp; omega
          have R1' : ByteRow (wr.setCell ⟨w3.heap.size, j, none⟩ (.int .u8 ((ch.toNat : Int) + 32))) w3.heap.size (prog low (j + 1) S.data.toList) := by
            have := R1.out.put (i := j) (by rw [prog_len]; exact hll) (low S.data.toList[j])
            rw [prog_put low hll, HCL.out, hl, hv] at this
            exact this
          have R2' : ByteRow ((wr.setCell ⟨w3.heap.size, j, none⟩ (.int .u8 ((ch.toNat : Int) + 32))).setCell ⟨w4.heap.size, j, none⟩ (.int .u8 ((ch.toNat : Int) + 32))) w4.heap.size (prog swp (j + 1) S.data.toList) := by
            have h0 := R2.out.far (p := ⟨w3.heap.size, j, none⟩) (fun e => hne12 e.symm) (.int .u8 ((ch.toNat : Int) + 32))
            have := h0.put (i := j) (by rw [prog_len]; exact hll) (swp S.data.toList[j])
            rw [prog_put swp hll, HCL.out, hs, hv] at this
            exact this
          have E1 := Lib.hid (R1'.far (p := ⟨w4.heap.size, j, none⟩) hne12 (.int .u8 ((ch.toNat : Int) + 32)))
          have E2 := Lib.hid R2'
          have E3 := Lib.hid (ST2.out j _ (.int .u8 ((ch.toNat : Int) + 32)) (ST1.out j _ (.int .u8 ((ch.toNat : Int) + 32)) HH.out))
          clear R1' R2' hl hs hv
          go_wp2_with fail
          go_roundg (gk - 1)
          case measure => omega
          case rel => exact ⟨j + 1, by omega, by go_num, E3, E1, E2⟩
        by_cases hB : 120 ≤ ch.toNat ∧ ch.toNat ≤ 122
        · obtain ⟨a1, a2⟩ := hB
          clear hA
          have hl : low ch = ch := by unfold low; rw [if_neg (by rw [UInt8.le_iff_toNat_le, UInt8.le_iff_toNat_le]; simp; omega)]
          have hs : swp ch = ch - 32 := by unfold swp; rw [if_neg (by rw [UInt8.le_iff_toNat_le, UInt8.le_iff_toNat_le]; simp; omega), if_pos ⟨by rw [UInt8.le_iff_toNat_le]; exact a1, by rw [UInt8.le_iff_toNat_le]; exact a2⟩]
          have hv : ((ch - 32).toNat : Int) = (ch.toNat : Int) - 32 := by rw [UInt8.toNat_sub_of_le _ _ (by rw [UInt8.le_iff_toNat_le]; simp; omega)]; simp; omega
          have R2' : ByteRow (wr.setCell ⟨w4.heap.size, j, none⟩ (.int .u8 ((ch.toNat : Int) - 32))) w4.heap.size (prog swp (j + 1) S.data.toList) := by
            have := R2.out.put (i := j) (by rw [prog_len]; exact hll) (swp S.data.toList[j])
            rw [prog_put swp hll, HCL.out, hs, hv] at this
            exact this
          have R1' := R1.out.far (p := ⟨w4.heap.size, j, none⟩) hne12 (.int .u8 ((ch.toNat : Int) - 32))
          rw [← prog_skip low hll (by rw [HCL.out]; exact hl)] at R1'
          have E1 := Lib.hid R1'
          have E2 := Lib.hid R2'
          have E3 := Lib.hid (ST2.out j _ (.int .u8 ((ch.toNat : Int) - 32)) HH.out)
          clear R1' R2' hl hs hv
          go_wp2_with fail
          go_roundg (gk - 1)
          case measure => omega
          case rel => exact ⟨j + 1, by omega, by go_num, E3, E1, E2⟩
        · have hl : low ch = ch := by unfold low; rw [if_neg (by rw [UInt8.le_iff_toNat_le, UInt8.le_iff_toNat_le]; simp; omega)]
          have hs : swp ch = ch := by unfold swp; rw [if_neg (by rw [UInt8.le_iff_toNat_le, UInt8.le_iff_toNat_le]; simp; omega), if_neg (by rw [UInt8.le_iff_toNat_le, UInt8.le_iff_toNat_le]; simp; omega)]
          have R1' := R1.out
          rw [← prog_skip low hll (by rw [HCL.out]; exact hl)] at R1'
          have R2' := R2.out
          rw [← prog_skip swp hll (by rw [HCL.out]; exact hs)] at R2'
          have E1 := Lib.hid R1'
          have E2 := Lib.hid R2'
          clear R1' R2' hl hs
          have hcs : ch.toNat < 88 ∨ (90 < ch.toNat ∧ ch.toNat < 120) ∨ 122 < ch.toNat := by omega
          clear hA hB
          rcases hcs with a1 | ⟨a1, a2⟩ | a1
          all_goals
            go_wp2_with fail
            go_roundg (gk - 1)
            case measure => omega
            case rel => exact ⟨j + 1, by omega, by go_num, HH, E1, E2⟩
      · have hjl : S.data.toList.length ≤ j := by rw [len_S]; omega
        have H := HH.out
        have r1 := R1.out
        have r2 := R2.out
        rw [prog_all _ hjl] at r1 r2
        have hr1 : ∀ W, Below wr.heap.size wr W → (convert 22 9 (.slice (some ⟨w3.heap.size, 0, none⟩) S.size cap1)).run Try.prog W = .ok (.string T1) W := fun W hb => by
          rw [← HT1.out]; exact bytes_back (r1.call hb) (by rw [List.length_map, len_S]) cap1
        have hr2 : ∀ W, Below wr.heap.size wr W → (convert 22 9 (.slice (some ⟨w4.heap.size, 0, none⟩) S.size cap2)).run Try.prog W = .ok (.string T2) W := fun W hb => by
          rw [← HT2.out]; exact bytes_back (r2.call hb) (by rw [List.length_map, len_S]) cap2
        have HR1 := Lib.hid hr1
        have HR2 := Lib.hid hr2
        clear HH R1 R2 r1 r2 hr1 hr2 hjl
        obtain ⟨d0, d1, d2, e0, e1, e2⟩ := H.c6
        go_wp2_with fail
        refine (VA.out _).mono ?_
        rintro e w6 ⟨rfl, hb⟩
        have c6 := HR1.out w6 hb
        have HB6 := Lib.hid hb
        replace H := H.call hb
        clear d0 d1 d2 e0 e1 e2
        obtain ⟨d0, d1, d2, e0, e1, e2⟩ := H.c6
        clear hb
        go_wp2_with fail
        refine (V1.out _).mono ?_
        rintro e w7 ⟨rfl, hb⟩
        have c7 := HR2.out w7 (below_2 HB6.out hb)
        replace H := H.call hb
        clear d0 d1 d2 e0 e1 e2
        obtain ⟨d0, d1, d2, e0, e1, e2⟩ := H.c6
        clear hb c6
        go_wp2_with fail
        refine (V2.out _).mono ?_
        rintro e w8 ⟨rfl, hb⟩
        replace H := H.call hb
        clear hb c7
        clear d0 d1 d2 e0 e1 e2
        go_wp2_with fail
        go_ret
        exact ⟨rfl, H.below⟩
  · have hokf : evO o (stB x y z && stB X Y Z) = false := by simpa using hok
    obtain ⟨tv, htv⟩ : ∃ v, evT o (stB x y z && stB X Y Z) (envOf x y z X Y Z) = v := ⟨_, rfl⟩
    simp only [hokf, htv] at V VS
    have q1 : (tv != tv) = false := by simp
    have q3 : (tv == tv) = true := by simp
    clear hokf hok htv ho VA
    go_wp2_with fail
    refine (V.out _).mono ?_
    rintro e w2 ⟨rfl, hb⟩
    replace H := H.call hb
    clear hb
    clear d0 d1 d2 e0 e1 e2
    obtain ⟨d0, d1, d2, e0, e1, e2⟩ := H.c6
    go_wp2_with fail
    refine (VS.out _).mono ?_
    rintro e w3 ⟨rfl, hb⟩
    replace H := H.call hb
    clear hb
    clear d0 d1 d2 e0 e1 e2
    obtain ⟨d0, d1, d2, e0, e1, e2⟩ := H.c6
    go_wp2_with fail
    go_ret
    exact ⟨rfl, H.below⟩

set_option maxRecDepth 100000 in
theorem lifted (os : Os) (started : os.Started) (H : Type) (enc : TypeId × Value → H) :
    ReturnsInHanded {} Try.checked os 12 .any (Rows.fnEvalWideSpec.pre6 enc Try.prog Try.f12 Rows.fnEvalWideRow.domain false) (Rows.fnEvalWideSpec.post enc Try.prog Try.f12 false true false false) := by
  refine returnsInHanded_of_change (C := Try.checked) own started (by kernel_rfl) Try.func12
    (ChangeSpec.witness6 (enc := enc) (C := Try.checked) false ⟨#[], #[.slice none 0 0], []⟩ 8 (by kernel_rfl) (by kernel_rfl) (by kernel_rfl) (by kernel_rfl)) ?_
  intro W base args ds gs before hval0 hW hcnd _
  have hval : ∀ (j : Nat) t v, Try.f12.params[j]? = some t → args[j]? = some v → Value.okWide Try.prog W .any base t v := hval0
  have hW' := hW
  obtain ⟨p, q, hA0, hV, rfl, hfz, hnd⟩ := hW
  have hA : DataW.TrodAll enc Try.prog W 0 (fun _ => true) true Try.f12.params.toList args.toList ds p := hA0
  rw [Try.params12] at hA hval
  obtain ⟨v0, vs0, d0, ds0, p0, q0, hargs, rfl, rfl, h0, r0⟩ := trodAll_cons hA
  obtain ⟨rfl, rfl, rfl⟩ := trodAll_nil r0
  obtain rfl : args = #[v0] := by cases args; simp_all
  obtain ⟨rfl, rfl⟩ := trodVars_none hV
  have k0 := h0
  have lt0 : ∀ x ∈ p0, x.block < W.heap.size := by obtain ⟨m, hm⟩ := k0; exact DataW.trod_lt m _ _ _ hm
  obtain ⟨a0, len0, cap0, rfl⟩ := okWide_slice Try.underlying22 (hval 0 22 v0 rfl rfl)
  obtain ⟨z0, w0⟩ : ∃ zs, IsRow .u8 W a0 len0 cap0 zs := by
    obtain ⟨fuel, hf⟩ := h0
    rcases open_ints Try.underlying22 Try.underlying5 (by kernel_rfl) hf with ⟨hcs, _⟩ | ⟨x, l, c, zs, hcs, _, hl, hm, hz, _, hcell, hwz⟩
    · simp [Value.cells] at hcs
      obtain ⟨rfl, rfl, rfl⟩ := hcs
      exact ⟨[], .inl ⟨rfl, rfl, rfl, rfl⟩⟩
    · simp [Value.cells] at hcs
      obtain ⟨rfl, rfl, rfl⟩ := hcs
      exact ⟨zs, .inr ⟨_, rfl, hl, hm, by simpa using hz, hcell, hwz⟩⟩
  obtain ⟨by0, lc0, cm0⟩ := bytes_of_row w0
  clear hA0 hval0
  refine (walk a0 len0 cap0 W by0 lc0 cm0).mono fun e W' ⟨he, bel⟩ => ?_
  subst he
  exact ⟨_, rfl, _, _, _, [], _, [], hW', trodAll_mk1 (shut_bool Try.underlying4 _), (trodAll_cons_mk (Below.trod laidOut (by kernel_rfl) (of_decide_eq_true (by kernel_rfl)) k0 bel lt0) trodAll_mk0), rfl, bel.frame _, fun h => by cases h⟩

theorem over : Rows.fnEvalWideRow.holds Try.pinned (OpenSpec.ofChange Rows.fnEvalWideSpec) :=
  OpenClaim.holds_of_wide 12 Try.f12 rfl rfl rfl rfl rfl rfl rfl ⟨rfl, rfl, rfl, rfl, rfl⟩ rfl rfl rfl rfl rfl (by kernel_rfl) Try.func12 (by kernel_rfl)
    (of_decide_eq_true (by kernel_rfl)) (by unfold Func.isWrapper; first | (rw [if_pos (by decide +kernel)]; kernel_rfl) | (rw [if_neg (by decide +kernel)]; exact ⟨rfl, rfl⟩))
    (fun os started H enc _ => lifted os started H enc)

/-- the statement -/
theorem proved : Rows.FnEvalWideSaid := over
#print axioms proved
end Go.Proofs.Ytcdcgllodggebaa.fnEvalWide
