/- The law FnEvalTest holds: for every input it returns true, and writes nothing that was there. No condition. -/
import Derived.Test.YtcdcgllodggebaaDrg
import Derived.Test.YtcdcgllodggebaaPp
import Derived.Test.YtcdcgllodggebaaShl
import Derived.Deep.RegionHeld3
import Derived.Deep.LoopGhost
import Derived.Deep.DeepCutAuto
import Derived.Deep.CutBlock
namespace Go.Proofs.Ytcdcgllodggebaa.fnEvalTest
open Go.ChangeShapes Go.WideShapes Go.ChangeAt Go.RowKit
open Go.ChangeMaps (open_string shut_string)

open Pl
set_option linter.unusedVariables false

theorem own : ownKnob Try.prog.godebug = none := by kernel_rfl
theorem laidOut : laidOutB Try.prog = true := by kernel_rfl

theorem whole_if {wd : Bool} {so most : Nat} {K : Nd} (h : ok wd so K = true) : whole wd so most K.text = if K.text.length ≤ most then some K else none := by
  by_cases hl : K.text.length ≤ most
  · rw [if_pos hl, whole_text h hl]
  · rw [if_neg hl, whole, if_neg hl]
theorem evO_if {c : Prop} [Decidable c] {K : Nd} : evO (if c then some K else none) true = decide c := by by_cases h : c <;> simp [evO, h]
theorem evT_if {c : Prop} [Decidable c] {K : Nd} {ρ : UInt8 → Int} : evT (if c then some K else none) true ρ = (decide c && tru ρ K) := by by_cases h : c <;> simp [evT, h]
theorem text_not {S : ByteArray} {k : Nd} (h : S.data.toList = k.text) : ((⟨#[33]⟩ : ByteArray) ++ S).data.toList = (Nd.n1 33 k).text := by simp [ByteArray.data_append, h, Nd.text]
theorem text_two {S : ByteArray} {k : Nd} (c : UInt8) (h : S.data.toList = k.text) : ((⟨#[c]⟩ : ByteArray) ++ S ++ ⟨#[33]⟩ ++ S).data.toList = (Nd.n2 c k (.n1 33 k)).text := by simp [ByteArray.data_append, h, Nd.text]

set_option maxRecDepth 100000 in
set_option maxHeartbeats 8000000 in
theorem walk (a0 : Option Addr) (len0 cap0 : Nat) (w : World) (hb0 : Bytes w a0 len0 w.heap.size) (hl0 : len0 ≤ cap0) (hc0 : cap0 ≤ 9223372036854775807) :
    Calls Try.prog 8 #[.slice a0 len0 cap0] w fun e w' => e = .returned (.bool true) ∧ Below w.heap.size w w' := by
  by_cases hbig : 1048576 < len0
  · clear hb0
    go_enter Try.func8, Try.ntmps8
    go_wp2_with fail
    go_ret
    exact ⟨rfl, by first | exact Below.refl _ _ | exact below_n _ _ | exact (below_n _ _).alloc (by simp) _⟩
  have D := Lib.hid (DrawEvalTest_any a0 len0 cap0 w (by omega) hl0 hb0)
  clear hb0
  go_enter Try.func8, Try.ntmps8
  go_wp2_with fail
  refine D.out.mono ?_
  rintro e w1 ⟨S, x, y, z, hS, rfl, hb1⟩
  clear D
  have H : Sit w (w1.alloc (.cells #[.int .i64 x, .int .i64 y, .int .i64 z] 35)) [(⟨w1.heap.size, 0, none⟩, .int .i64 x), (⟨w1.heap.size, 1, none⟩, .int .i64 y), (⟨w1.heap.size, 2, none⟩, .int .i64 z)] := ((Sit.refl w).call hb1).box3 _
  obtain ⟨d0, d1, d2⟩ := H.c3
  clear hb1
  have V := Lib.hid (fun w => EvalTest_any S (by omega) x y z w)
  have VS := Lib.hid (fun w => EvalTestS_any S (by omega) x y z w)
  have EX := Lib.hid (fun w => TestVars_any S (by omega) w)
  have EXS := Lib.hid (fun w => TestVarsS_any S (by omega) w)
  have PV := Lib.hid (fun x y z w => ppTrue_any S (by omega) x y z w)
  have N1 := Lib.hid (fun w => EvalTest_any ((⟨#[33]⟩ : ByteArray) ++ S) (by rw [ByteArray.size_append, size_one]; omega) x y z w)
  have N2 := Lib.hid (fun w => EvalTest_any ((⟨#[38]⟩ : ByteArray) ++ S ++ ⟨#[33]⟩ ++ S) (by simp only [ByteArray.size_append, size_one]; omega) x y z w)
  have N3 := Lib.hid (fun w => EvalTest_any ((⟨#[124]⟩ : ByteArray) ++ S ++ ⟨#[33]⟩ ++ S) (by simp only [ByteArray.size_append, size_one]; omega) x y z w)
  have t1 : 1 + S.size ≤ 9223372036854775807 := by omega
  have t4 : 1 + S.size + 1 ≤ 9223372036854775807 := by omega
  have t5 : 1 + S.size + 1 + S.size ≤ 9223372036854775807 := by omega
  clear hS
  obtain ⟨o, ho⟩ : ∃ o, whole false 1 200 S.data.toList = o := ⟨_, rfl⟩
  obtain ⟨vs, hvs⟩ : ∃ o, vsTest S.data.toList = o := ⟨_, rfl⟩
  simp only [ho, hvs] at V VS EX EXS PV
  cases o with
  | none =>
    simp only [evT, evO, Option.isSome_none, Bool.false_and] at V VS
    clear ho hvs EX EXS PV N1 N2 N3
    go_wp2_with fail
    refine (V.out _).mono ?_
    rintro e w2 ⟨rfl, hb⟩
    replace H := H.call hb
    clear hb
    clear d0 d1 d2
    obtain ⟨d0, d1, d2⟩ := H.c3
    go_wp2_with fail
    refine (VS.out _).mono ?_
    rintro e w3 ⟨rfl, hb⟩
    replace H := H.call hb
    clear hb
    clear d0 d1 d2
    obtain ⟨d0, d1, d2⟩ := H.c3
    go_wp2_with fail
    go_ret
    exact ⟨rfl, H.below⟩
  | some k =>
    simp only [evT, evO, Option.isSome_some, Bool.true_and] at V VS PV
    cases hv : stB x y z
    · simp only [hv, Bool.false_and] at V VS
      clear ho hvs EX EXS PV hv N1 N2 N3
      go_wp2_with fail
      refine (V.out _).mono ?_
      rintro e w2 ⟨rfl, hb⟩
      replace H := H.call hb
      clear hb
      clear d0 d1 d2
      obtain ⟨d0, d1, d2⟩ := H.c3
      go_wp2_with fail
      refine (VS.out _).mono ?_
      rintro e w3 ⟨rfl, hb⟩
      replace H := H.call hb
      clear hb
      clear d0 d1 d2
      obtain ⟨d0, d1, d2⟩ := H.c3
      go_wp2_with fail
      go_ret
      exact ⟨rfl, H.below⟩
    · simp only [hv, Bool.true_and] at V VS
      obtain ⟨sx, sy, sz⟩ := stB_small hv
      have s0 : small 0 := ⟨by omega, by omega⟩
      have hsm := envOf_small sx sy sz s0 s0 s0
      obtain ⟨_, hk, htx⟩ := (whole_iff (by omega)).1 ho
      obtain ⟨n, hn⟩ : ∃ n, tru (envOf x y z 0 0 0) k = n := ⟨_, rfl⟩
      rw [hn] at V VS
      have hk1 : ok false 1 (.n1 33 k) = true := by simp [ok, hk]
      have hk2 : ok false 1 (.n2 38 k (.n1 33 k)) = true := by simp [ok, hk]
      have hk3 : ok false 1 (.n2 124 k (.n1 33 k)) = true := by simp [ok, hk]
      rw [text_not htx, whole_if hk1, hv, evO_if, evT_if, show tru (envOf x y z 0 0 0) (.n1 33 k) = !n by simp [tru, hn]] at N1
      rw [text_two 38 htx, whole_if hk2, hv, evO_if, evT_if, show tru (envOf x y z 0 0 0) (.n2 38 k (.n1 33 k)) = false by simp [tru, hn]] at N2
      rw [text_two 124 htx, whole_if hk3, hv, evO_if, evT_if, show tru (envOf x y z 0 0 0) (.n2 124 k (.n1 33 k)) = true by simp [tru, hn]] at N3
      obtain ⟨b1, hb1⟩ : ∃ b, decide ((Nd.n1 33 k).text.length ≤ 200) = b := ⟨_, rfl⟩
      obtain ⟨b2, hb2⟩ : ∃ b, decide ((Nd.n2 38 k (.n1 33 k)).text.length ≤ 200) = b := ⟨_, rfl⟩
      obtain ⟨b3, hb3⟩ : ∃ b, decide ((Nd.n2 124 k (.n1 33 k)).text.length ≤ 200) = b := ⟨_, rfl⟩
      simp only [hb1, hb2, hb3, Bool.and_false, Bool.and_true] at N1 N2 N3
      clear hb1 hb2 hb3 hk hk1 hk2 hk3
      -- the letters
      have hvk : vs = vars nmsN k.text := by rw [← hvs, vsTest, ho]; simp [htx]
      have hvl : vs.length ≤ 3 := by rw [hvk]; exact vars_len
      have HVK := Lib.hid hvk
      have HN := Lib.hid hn
      have HSM := Lib.hid hsm
      have HV := Lib.hid hv
      have HX := Lib.hid sx
      have HY := Lib.hid sy
      have HZ := Lib.hid sz
      obtain ⟨VB, hVB⟩ : ∃ B : ByteArray, ⟨vs.toArray⟩ = B := ⟨_, rfl⟩
      have hVL : VB.data.toList = vs := by rw [← hVB]
      have hVZ : VB.size ≤ 3 := by rw [← hVB]; exact hvl
      have HVL := Lib.hid hVL
      simp only [str, hVB] at EX EXS
      clear ho hvs htx hvk hn hsm hv sx sy sz hvl hVB hVL
      have q1 : (n != n) = false := by simp
      have q2 : (VB.toList == VB.toList) = true := by simp
      go_wp2_with fail
      refine (V.out _).mono ?_
      rintro e w2 ⟨rfl, hb⟩
      replace H := H.call hb
      clear hb
      clear d0 d1 d2
      obtain ⟨d0, d1, d2⟩ := H.c3
      go_wp2_with fail
      refine (VS.out _).mono ?_
      rintro e w3 ⟨rfl, hb⟩
      replace H := H.call hb
      clear hb
      clear d0 d1 d2
      obtain ⟨d0, d1, d2⟩ := H.c3
      go_wp2_with fail
      refine (N1.out _).mono ?_
      rintro e w4 ⟨rfl, hb⟩
      replace H := H.call hb
      clear hb
      clear d0 d1 d2
      obtain ⟨d0, d1, d2⟩ := H.c3
      go_wp2_with fail
      refine (N2.out _).mono ?_
      rintro e w5 ⟨rfl, hb⟩
      replace H := H.call hb
      clear hb
      clear d0 d1 d2
      obtain ⟨d0, d1, d2⟩ := H.c3
      go_wp2_with fail
      refine (N3.out _).mono ?_
      rintro e w6 ⟨rfl, hb⟩
      replace H := H.call hb
      clear hb
      clear d0 d1 d2
      obtain ⟨d0, d1, d2⟩ := H.c3
      go_wp2_with fail
      refine (EX.out _).mono ?_
      rintro e w7 ⟨rfl, hb⟩
      replace H := H.call hb
      clear hb
      clear d0 d1 d2
      obtain ⟨d0, d1, d2⟩ := H.c3
      have HH := Lib.hid H
      clear d0 d1 d2 V VS EX H N1 N2 N3 t1 t4 t5
      go_wp2_with fail
      go_loopg [16] 3 (fun gk i wr => ∃ k : Nat, k + gk = 3 ∧ i = .int .i64 k ∧ Hid (Sit w wr [(⟨w1.heap.size, 0, none⟩, .int .i64 x), (⟨w1.heap.size, 1, none⟩, .int .i64 y), (⟨w1.heap.size, 2, none⟩, .int .i64 z)]))
      case atStart => exact ⟨0, rfl, rfl, HH⟩
      case round =>
        clear HH
        obtain ⟨j, hj, rfl, HH⟩ := hrel
        have H := HH.out
        clear HH
        by_cases hlt : j < 3
        · have hex := extract_one (S := ⟨#[120, 121, 122]⟩) (k := j) hlt
          obtain ⟨c, hc⟩ : ∃ c, (⟨#[120, 121, 122]⟩ : ByteArray)[j]'hlt = c := ⟨_, rfl⟩
          have hcm : c ∈ nmsN := by rw [← hc]; exact List.getElem_mem (l := nmsN) (by exact hlt)
          rw [hc] at hex
          clear hc
          have PG := Lib.hid (fun w => ppGet_any c hcm x y z w)
          rw [HV.out, if_pos rfl] at PG
          have hgs := HSM.out c
          obtain ⟨g, hg⟩ : ∃ g, envOf x y z 0 0 0 c = g := ⟨_, rfl⟩
          rw [hg] at PG hgs
          obtain ⟨g1, g2⟩ := hgs
          have sm : small ((g + 1) % 3) := by unfold small; omega
          have hw1 : IntKind.i64.wrap (g + 1) = g + 1 := IntWalk.i64_in _ (by omega)
          have hw2 : (g + 1).tmod 3 = (g + 1) % 3 := Int.tmod_eq_emod_of_nonneg (by omega)
          have hw3 : IntKind.i64.wrap ((g + 1) % 3) = (g + 1) % 3 := IntWalk.i64_in _ (by omega)
          obtain ⟨r, hr⟩ : ∃ r, (g + 1) % 3 = r := ⟨_, rfl⟩
          rw [hr] at sm hw2 hw3
          have hib := inB_small.2 sm
          have SW := Lib.hid (fun w => SetVar_any x y z r ⟨#[c]⟩ w)
          rw [show (⟨#[c]⟩ : ByteArray).data.toList = [c] from rfl, varOf_one hcm, HV.out, hib] at SW
          simp only [sv1, svB, Bool.and_true, if_true, Option.isSome_some] at SW
          have hst : stB (put1 c 120 r x) (put1 c 121 r y) (put1 c 122 r z) = true := by
            simp only [stB, Bool.and_eq_true]
            exact ⟨inB_small.2 (put1_small sm HX.out), inB_small.2 (put1_small sm HY.out), inB_small.2 (put1_small sm HZ.out)⟩
          have hval : c ∉ VB.data.toList → tru (envOf (put1 c 120 r x) (put1 c 121 r y) (put1 c 122 r z) 0 0 0) k = n := by
            intro hno
            rw [tru_put hcm, HN.out]
            intro hk
            rw [HVL.out, HVK.out] at hno
            exact hno (mem_vars.2 ⟨hcm, hk⟩)
          obtain ⟨pa, ha⟩ : ∃ v, put1 c 120 r x = v := ⟨_, rfl⟩
          obtain ⟨pb, hb⟩ : ∃ v, put1 c 121 r y = v := ⟨_, rfl⟩
          obtain ⟨pc, hc⟩ : ∃ v, put1 c 122 r z = v := ⟨_, rfl⟩
          rw [ha, hb, hc] at SW hst hval
          have HSA := Lib.hid (fun w => has_one VB c (by omega) w)
          have PW := Lib.hid (fun w => PV.out pa pb pc w)
          rw [hst, Bool.true_and] at PW
          have HVAL := Lib.hid hval
          clear ha hb hc hst hval hib sm hg hcm hr
          obtain ⟨d0, d1, d2⟩ := H.c3
          go_upto_region 16 with fail
          go_cut [18] (fun s12 wx => ∃ g : Nat, s12 = .pointer (some ⟨g, 0, none⟩) ∧ Hid (Sit w wx [(⟨w1.heap.size, 0, none⟩, .int .i64 x), (⟨w1.heap.size, 1, none⟩, .int .i64 y), (⟨w1.heap.size, 2, none⟩, .int .i64 z)]) ∧ Hid (New w wx [(⟨w1.heap.size, 0, none⟩, .int .i64 x), (⟨w1.heap.size, 1, none⟩, .int .i64 y), (⟨w1.heap.size, 2, none⟩, .int .i64 z)] g 35 #[.int .i64 pa, .int .i64 pb, .int .i64 pc]))
          case first =>
            go_region_held3 (fun W => W.cell? ⟨w1.heap.size, 0, none⟩ = some (.int .i64 x) ∧ W.cell? ⟨w1.heap.size, 1, none⟩ = some (.int .i64 y) ∧ W.cell? ⟨w1.heap.size, 2, none⟩ = some (.int .i64 z)) (first | with_reducible exact H.c3 | with_reducible exact (H.alloc _).c3 | with_reducible exact (H.put3 N _ _ _).c3 | with_reducible exact H.drew.c3 | with_reducible exact (H.alloc _).drew.c3) ((first | (go_at_call 37; refine (PG.out _).mono ?_; rintro e wn ⟨rfl, hb⟩; first | (with_reducible have N' := N.call hb; have H' := H.call hb; clear N H hb g0 g1 g2 h0 h1 h2; have N := N'; have H := H'; clear N' H'; have g0 := N.blk.cell 0; have g1 := N.blk.cell 1; have g2 := N.blk.cell 2; have h0 := N.blk.frozen 0; have h1 := N.blk.frozen 1; have h2 := N.blk.frozen 2; simp at g0 g1 g2) | (with_reducible have H' := H.call hb; clear H hb; have H := H'; clear H') | (with_reducible have N := H.newa hb; have H' := H.calla hb; clear H hb; have H := H'; clear H'; have g0 := N.blk.cell 0; have g1 := N.blk.cell 1; have g2 := N.blk.cell 2; have h0 := N.blk.frozen 0; have h1 := N.blk.frozen 1; have h2 := N.blk.frozen 2; simp at g0 g1 g2) | (with_reducible have H' := H.calld hb; clear H hb; have H := H'; clear H') | (with_reducible have N := H.newad hb; have H' := H.callad hb; clear H hb; have H := H'; clear H'; have g0 := N.blk.cell 0; have g1 := N.blk.cell 1; have g2 := N.blk.cell 2; have h0 := N.blk.frozen 0; have h1 := N.blk.frozen 1; have h2 := N.blk.frozen 2; simp at g0 g1 g2)) | (go_at_call 36; refine (SW.out _).mono ?_; rintro e wn ⟨rfl, hb⟩; first | (with_reducible have N' := N.call hb; have H' := H.call hb; clear N H hb g0 g1 g2 h0 h1 h2; have N := N'; have H := H'; clear N' H'; have g0 := N.blk.cell 0; have g1 := N.blk.cell 1; have g2 := N.blk.cell 2; have h0 := N.blk.frozen 0; have h1 := N.blk.frozen 1; have h2 := N.blk.frozen 2; simp at g0 g1 g2) | (with_reducible have H' := H.call hb; clear H hb; have H := H'; clear H') | (with_reducible have N := H.newa hb; have H' := H.calla hb; clear H hb; have H := H'; clear H'; have g0 := N.blk.cell 0; have g1 := N.blk.cell 1; have g2 := N.blk.cell 2; have h0 := N.blk.frozen 0; have h1 := N.blk.frozen 1; have h2 := N.blk.frozen 2; simp at g0 g1 g2) | (with_reducible have H' := H.calld hb; clear H hb; have H := H'; clear H') | (with_reducible have N := H.newad hb; have H' := H.callad hb; clear H hb; have H := H'; clear H'; have g0 := N.blk.cell 0; have g1 := N.blk.cell 1; have g2 := N.blk.cell 2; have h0 := N.blk.frozen 0; have h1 := N.blk.frozen 1; have h2 := N.blk.frozen 2; simp at g0 g1 g2))))
            all_goals go_wp2_with fail
            all_goals go_meet
            all_goals first | exact ⟨_, rfl, H.alloc _, H.new _ _⟩ | exact ⟨_, rfl, H.put3 N _ _ _, N.put3 _ _ _⟩
          case rest =>
            obtain ⟨gb, rfl, HH, NN⟩ := hcut
            have H := HH.out.take3 NN.out
            clear HH NN d0 d1 d2
            obtain ⟨e0, e1, e2, _, _, _⟩ := H.c6
            cases hh : hasB VB.data.toList c
            · rw [hh] at HSA
              have HVV := Lib.hid (HVAL.out (of_decide_eq_false hh))
              rw [HVV.out] at PW
              clear hh HVAL HVV
              go_wp2_with fail
              refine (HSA.out _).mono ?_
              rintro e w' ⟨rfl, rfl⟩
              go_wp2_with fail
              refine (PW.out _).mono ?_
              rintro e w8 ⟨rfl, hb⟩
              replace H := H.call hb
              clear hb e0 e1 e2
              go_wp2_with fail
              go_roundg (gk - 1)
              case measure => omega
              case rel => exact ⟨j + 1, by omega, by go_num, H.less (by simp)⟩
            · rw [hh] at HSA
              clear hh HVAL PW
              go_wp2_with fail
              refine (HSA.out _).mono ?_
              rintro e w' ⟨rfl, rfl⟩
              go_wp2_with fail
              go_roundg (gk - 1)
              case measure => omega
              case rel => exact ⟨j + 1, by omega, by go_num, H.less (by simp)⟩
        · go_wp2_with fail
          refine (EXS.out _).mono ?_
          rintro e w8 ⟨rfl, hb⟩
          replace H := H.call hb
          clear hb
          cases b1 <;> cases b2 <;> cases b3 <;> cases n
          all_goals
            go_wp2_with fail
            go_ret
            exact ⟨rfl, H.below⟩

set_option maxRecDepth 100000 in
theorem lifted (os : Os) (started : os.Started) (H : Type) (enc : TypeId × Value → H) :
    ReturnsInHanded {} Try.checked os 8 .any (Rows.fnEvalTestSpec.pre6 enc Try.prog Try.f8 Rows.fnEvalTestRow.domain false) (Rows.fnEvalTestSpec.post enc Try.prog Try.f8 false true false false) := by
  refine returnsInHanded_of_change (C := Try.checked) own started (by kernel_rfl) Try.func8
    (ChangeSpec.witness6 (enc := enc) (C := Try.checked) false ⟨#[], #[.slice none 0 0], []⟩ 8 (by kernel_rfl) (by kernel_rfl) (by kernel_rfl) (by kernel_rfl)) ?_
  intro W base args ds gs before hval0 hW hcnd _
  have hval : ∀ (j : Nat) t v, Try.f8.params[j]? = some t → args[j]? = some v → Value.okWide Try.prog W .any base t v := hval0
  have hW' := hW
  obtain ⟨p, q, hA0, hV, rfl, hfz, hnd⟩ := hW
  have hA : DataW.TrodAll enc Try.prog W 0 (fun _ => true) true Try.f8.params.toList args.toList ds p := hA0
  rw [Try.params8] at hA hval
  obtain ⟨v0, vs0, d0, ds0, p0, q0, hargs, rfl, rfl, h0, r0⟩ := trodAll_cons hA
  obtain ⟨rfl, rfl, rfl⟩ := trodAll_nil r0
  obtain rfl : args = #[v0] := by cases args; simp_all
  obtain ⟨rfl, rfl⟩ := trodVars_none hV
  have k0 := h0
  have lt0 : ∀ x ∈ p0, x.block < W.heap.size := by obtain ⟨m, hm⟩ := k0; exact DataW.trod_lt m _ _ _ hm
  obtain ⟨a0, len0, cap0, rfl⟩ := okWide_slice Try.underlying22 (hval 0 22 v0 rfl rfl)
  obtain ⟨z0, w0⟩ : ∃ zs, IsRow .u8 W a0 len0 cap0 zs := by
    obtain ⟨fuel, hf⟩ := h0
    rcases open_ints Try.underlying22 Try.underlying5 (by kernel_rfl) hf with ⟨hcs, _⟩ | ⟨x, l, c, zs, hcs, _, hl, hm, hz, _, hcell, hwz⟩
    · simp [Value.cells] at hcs
      obtain ⟨rfl, rfl, rfl⟩ := hcs
      exact ⟨[], .inl ⟨rfl, rfl, rfl, rfl⟩⟩
    · simp [Value.cells] at hcs
      obtain ⟨rfl, rfl, rfl⟩ := hcs
      exact ⟨zs, .inr ⟨_, rfl, hl, hm, by simpa using hz, hcell, hwz⟩⟩
  obtain ⟨by0, lc0, cm0⟩ := bytes_of_row w0
  clear hA0 hval0
  refine (walk a0 len0 cap0 W by0 lc0 cm0).mono fun e W' ⟨he, bel⟩ => ?_
  subst he
  exact ⟨_, rfl, _, _, _, [], _, [], hW', trodAll_mk1 (shut_bool Try.underlying4 _), (trodAll_cons_mk (Below.trod laidOut (by kernel_rfl) (of_decide_eq_true (by kernel_rfl)) k0 bel lt0) trodAll_mk0), rfl, bel.frame _, fun h => by cases h⟩

theorem over : Rows.fnEvalTestRow.holds Try.pinned (OpenSpec.ofChange Rows.fnEvalTestSpec) :=
  OpenClaim.holds_of_wide 8 Try.f8 rfl rfl rfl rfl rfl rfl rfl ⟨rfl, rfl, rfl, rfl, rfl⟩ rfl rfl rfl rfl rfl (by kernel_rfl) Try.func8 (by kernel_rfl)
    (of_decide_eq_true (by kernel_rfl)) (by unfold Func.isWrapper; first | (rw [if_pos (by decide +kernel)]; kernel_rfl) | (rw [if_neg (by decide +kernel)]; exact ⟨rfl, rfl⟩))
    (fun os started H enc _ => lifted os started H enc)

/-- the statement -/
theorem proved : Rows.FnEvalTestSaid := over
#print axioms proved
end Go.Proofs.Ytcdcgllodggebaa.fnEvalTest
