/- The walk of the law FnAssign. -/
import Derived.Test.YtccjmahhebiphaaDoorVg
import Derived.Test.YtccjmahhebiphaaDoorVd
import Derived.Test.YtccjmahhebiphaaDoorVs
import Derived.Test.YtccjmahhebiphaaDoorVn
import Derived.Test.YtccjmahhebiphaaDoorHs
namespace Go.Proofs.YtccjmahhebiphaaDoor.fnAssign
open Go.ChangeShapes Go.WideShapes Go.ChangeAt Go.RowKit
open Pl
set_option linter.unusedVariables false
theorem state_ok {i : Nat} (hi : i < 27) : stB ((i : Int) % 3) ((i : Int) / 3 % 3) ((i : Int) / 9) = true := by
  simp only [stB, Bool.and_eq_true]
  exact ⟨inB_small.2 ⟨by omega, by omega⟩, inB_small.2 ⟨by omega, by omega⟩, inB_small.2 ⟨by omega, by omega⟩⟩
theorem sts_c {w W : World} {g j : Nat} (H : Sit w W (sts g)) (hj : j < 27) : W.cell? ⟨g, j * 3, none⟩ = some (.int .i64 ((j : Int) % 3)) ∧ W.cell? ⟨g, j * 3 + 1, none⟩ = some (.int .i64 ((j : Int) / 3 % 3)) ∧ W.cell? ⟨g, j * 3 + 2, none⟩ = some (.int .i64 ((j : Int) / 9)) :=
  ⟨H.get (mem_sts hj).1, H.get (mem_sts hj).2.1, H.get (mem_sts hj).2.2⟩
set_option maxRecDepth 100000 in
set_option maxHeartbeats 16000000 in
theorem walk (a0 : Option Addr) (len0 cap0 : Nat) (w : World) (hb0 : Bytes w a0 len0 w.heap.size) (hl0 : len0 ≤ cap0) (hc0 : cap0 ≤ 9223372036854775807) (hst : Str w) :
    Calls Tryd.prog 6 #[.slice a0 len0 cap0] w fun e w' => e = .returned (.bool true) ∧ Below w.heap.size w w' := by
  by_cases hbig : 1048576 < len0
  · clear hb0
    go_enter Tryd.func6, Tryd.ntmps6
    go_wp2_with fail
    go_ret
    exact ⟨rfl, by first | exact Below.refl _ _ | exact below_n _ _ | exact (below_n _ _).alloc (by simp) _⟩
  have D := Lib.hid (DrawAssignPre_any a0 len0 cap0 w (by omega) hl0 hb0)
  have S0 := Lib.hid hst
  clear hb0 hst
  go_enter Tryd.func6, Tryd.ntmps6
  go_wp2_with fail
  refine D.out.mono ?_
  rintro e w1 ⟨P, V, E, hP, hV, hE, rfl, hb1⟩
  have B1 := Lib.hid hb1
  have hV2 := which_small hV
  clear D hb1 hV
  have hP' : P.size ≤ 1000000000000 := by omega
  have hV' : V.size ≤ 1000000000000 := by omega
  have AA := Lib.hid (fun w hs => AssignPre_any P V E hP' (by omega) w hs)
  have AS := Lib.hid (fun w => AssignPreS_any P V E hP' hV' (by omega) w)
  have bad : (bOk 27 P.data.toList = false ∨ (varOf V.data.toList = none ∨ whole false 0 200 E.data.toList = none)) ∨ (∃ c kd, varOf V.data.toList = some c ∧ whole false 0 200 E.data.toList = some kd ∧ bOk 27 P.data.toList = true) := by
    cases hp : bOk 27 P.data.toList
    · exact .inl (.inl rfl)
    · cases hv : varOf V.data.toList with
      | none => exact .inl (.inr (.inl rfl))
      | some c =>
        cases ho : whole false 0 200 E.data.toList with
        | none => exact .inl (.inr (.inr rfl))
        | some kd => exact .inr ⟨c, kd, rfl, rfl, rfl⟩
  rcases bad with bad | ⟨c, kd, hv, ho, hp⟩
  · have h1 : asO P V E preF = none := by rcases bad with h | h; exact asO_bad h; exact asO_no h
    rw [h1] at AA AS
    simp only [optB, Option.isSome_none] at AA AS
    have q1 : ((bs []).toList != (bs []).toList) = false := by simp
    have q2 : ((bs []).toList == (bs []).toList) = true := by simp
    generalize bs [] = E0 at *
    clear bad h1
    go_wp2_with fail
    refine (AA.out _ (S0.out.below B1.out)).mono ?_
    rintro e w2 ⟨rfl, hb2⟩
    have B2 : Hid (Below w.heap.size w w2) := by first | exact Lib.hid (below_2 B1.out hb2) | exact Lib.hid (below_a1 B1.out hb2) | exact Lib.hid (below_a2 B1.out hb2) | exact Lib.hid (below_a3 B1.out hb2)
    clear hb2
    go_wp2_with fail
    refine (AS.out _).mono ?_
    rintro e w3 ⟨rfl, hb3⟩
    have B3 : Hid (Below w.heap.size w w3) := by first | exact Lib.hid (below_2 B2.out hb3) | exact Lib.hid (below_a1 B2.out hb3) | exact Lib.hid (below_a2 B2.out hb3) | exact Lib.hid (below_a3 B2.out hb3)
    clear hb3
    go_wp2_with fail
    go_ret
    exact ⟨ret_bool (by first | rfl | simp), B3.out⟩
  · rw [asO_yes hv ho hp] at AA AS
    simp only [optB, Option.isSome_some] at AA AS
    obtain ⟨hvl, hcm⟩ := varOf_some hv
    obtain rfl := bytes_of hvl
    have hxo : bOk 27 (bs (bitsN 27 (preF c kd (bt P.data.toList)))).data.toList = true := by rw [bs_list]; exact bits_ok _ _
    have hbx : ∀ i, i < 27 → bt (bs (bitsN 27 (preF c kd (bt P.data.toList)))).data.toList i = preF c kd (bt P.data.toList) i := fun i hi => by rw [bs_list, bt_bits hi]
    generalize bs (bitsN 27 (preF c kd (bt P.data.toList))) = X at *
    have zx := ok_size hxo
    have HPV : Hid (∀ j : Nat, j < 27 → ∃ (u pa pb pc : Int) (va vb : Bool),
        (∀ w, Calls Tryd.prog 33 #[.string E, .agg #[.int .i64 ((j : Int) % 3), .int .i64 ((j : Int) / 3 % 3), .int .i64 ((j : Int) / 9)]] w fun e w' => (e = .returned (.int .i64 u) ∧ Below w.heap.size w w')) ∧
        (∀ w, Calls Tryd.prog 32 #[.agg #[.int .i64 ((j : Int) % 3), .int .i64 ((j : Int) / 3 % 3), .int .i64 ((j : Int) / 9)], .string ⟨#[c]⟩, .int .i64 u] w fun e w' => (e = .returned (.tuple #[.agg #[.int .i64 pa, .int .i64 pb, .int .i64 pc], .bool true]) ∧ Below w.heap.size w w')) ∧
        (∀ w, Calls Tryd.prog 34 #[.string X, .agg #[.int .i64 ((j : Int) % 3), .int .i64 ((j : Int) / 3 % 3), .int .i64 ((j : Int) / 9)]] w fun e w' => (e = .returned (.bool va) ∧ Below w.heap.size w w')) ∧
        (∀ w, Calls Tryd.prog 34 #[.string P, .agg #[.int .i64 pa, .int .i64 pb, .int .i64 pc]] w fun e w' => (e = .returned (.bool vb) ∧ Below w.heap.size w w')) ∧ va = vb) := Lib.hid (by
      intro j hj
      have hst := state_ok hj
      have hu := valA_small kd hj
      have hu2 : small (val (envOf ((j : Int) % 3) ((j : Int) / 3 % 3) ((j : Int) / 9) 0 0 0) kd) := hu
      have E1 := fun w => ppValue_any E (by omega) ((j : Int) % 3) ((j : Int) / 3 % 3) ((j : Int) / 9) w
      rw [ho, hst] at E1
      simp only [evV, if_true] at E1
      have E2 := fun w => SetVar_any ((j : Int) % 3) ((j : Int) / 3 % 3) ((j : Int) / 9) (val (envOf ((j : Int) % 3) ((j : Int) / 3 % 3) ((j : Int) / 9) 0 0 0) kd) ⟨#[c]⟩ w
      rw [show (⟨#[c]⟩ : ByteArray).data.toList = [c] from rfl, varOf_one hcm, hst, inB_small.2 hu2] at E2
      simp only [sv1, svB, if_true, Option.isSome_some, Bool.and_true] at E2
      have E3 := fun w => HasState_any X hxo j hj w
      have E4 := fun w => HasState_any P hp (toA c kd j) (toA_lt hj) w
      obtain ⟨s1, s2, s3⟩ := st_wv (c := c) hj hu
      have hto : toA c kd j = wv c j (val (envOf (stX j) (stY j) (stZ j) 0 0 0) kd) := rfl
      rw [hto, s1, s2, s3, ← hto] at E4
      refine ⟨_, _, _, _, _, _, E1, E2, E3, E4, ?_⟩
      rw [hbx j hj]
      rfl)
    have NP := Lib.hid (fun w => ppNot_any P hP' w)
    have NX := Lib.hid (fun w => ppNot_any X (by omega) w)
    have hno := not_ok hp
    have zn := ok_size hno
    have hbn : ∀ i, i < 27 → bt (bs (optB (notO P))).data.toList i = !bt P.data.toList i := fun i hi => bt_notO hp hi
    generalize bs (optB (notO P)) = N at *
    have AN := Lib.hid (fun w hs => AssignPre_any N ⟨[c].toArray⟩ E (by omega) (by omega) w hs)
    rw [asO_yes hv ho hno] at AN
    simp only [optB, Option.isSome_some] at AN
    have hoe : bs (bitsN 27 (preF c kd (bt N.data.toList))) = bs (optB (notO X)) := by
      apply eq_of_bt (by rw [bs_list]; exact bits_ok _ _) (not_ok hxo)
      intro i hi
      rw [bs_list, bt_bits hi, bt_notO hxo hi, hbx i hi]
      exact hbn _ (toA_lt hi)
    rw [hoe] at AN
    have q1 : (X.toList != X.toList) = false := by simp
    have q3 : ((bs (optB (notO X))).toList == (bs (optB (notO X))).toList) = true := by simp
    generalize bs (optB (notO X)) = O at *
    clear hoe hbn hbx hno hvl hcm hp hv ho hxo
    go_wp2_with fail
    refine (AA.out _ (S0.out.below B1.out)).mono ?_
    rintro e w2 ⟨rfl, hb2⟩
    have B2 : Hid (Below w.heap.size w w2) := by first | exact Lib.hid (below_2 B1.out hb2) | exact Lib.hid (below_a1 B1.out hb2) | exact Lib.hid (below_a2 B1.out hb2) | exact Lib.hid (below_a3 B1.out hb2)
    clear hb2
    go_wp2_with fail
    refine (AS.out _).mono ?_
    rintro e w3 ⟨rfl, hb3⟩
    have B3 : Hid (Below w.heap.size w w3) := by first | exact Lib.hid (below_2 B2.out hb3) | exact Lib.hid (below_a1 B2.out hb3) | exact Lib.hid (below_a2 B2.out hb3) | exact Lib.hid (below_a3 B2.out hb3)
    clear hb3
    clear AA AS
    go_wp2_with fail
    refine (ppStates_any _).mono ?_
    rintro e w9 ⟨g, cap, hcap, rfl, hs⟩
    have HH : Hid (Sit w w9 (sts g)) := Lib.hid ⟨below_2 B3.out hs.below, hs.cells⟩
    clear hs
    go_wp2_with fail
    go_loopg [11] 27 (fun gk i wr => ∃ k : Nat, k + gk = 27 ∧ i = .int .i64 k ∧ Hid (Sit w wr (sts g)))
    case atStart => exact ⟨0, rfl, rfl, HH⟩
    case round =>
      clear HH
      obtain ⟨j, hj, rfl, HH⟩ := hrel
      have H := HH.out
      clear HH
      by_cases hlt : j < 27
      · obtain ⟨u, pa, pb, pc, va, vb, P1, P2, P3, P4, hvv⟩ := HPV.out j hlt
        have PA := Lib.hid P1
        have PB := Lib.hid P2
        have PC := Lib.hid P3
        have PD := Lib.hid P4
        clear P1 P2 P3 P4
        obtain ⟨d0, d1, d2⟩ := sts_c H hlt
        go_upto_region 12 with fail
        go_cut [12, 13] (fun sp sb wx => ∃ g' : Nat, sp = .pointer (some ⟨g', 0, none⟩) ∧ sb = .bool true ∧ Hid (Sit w wx (sts g)) ∧ Hid (New w wx (sts g) g' 42 #[.int .i64 pa, .int .i64 pb, .int .i64 pc]))
        case first =>
          go_region_held3 (fun W => W.cell? ⟨g, j * 3, none⟩ = some (.int .i64 ((j : Int) % 3)) ∧ W.cell? ⟨g, j * 3 + 1, none⟩ = some (.int .i64 ((j : Int) / 3 % 3)) ∧ W.cell? ⟨g, j * 3 + 2, none⟩ = some (.int .i64 ((j : Int) / 9))) (first | with_reducible exact sts_c H hlt | with_reducible exact sts_c (H.alloc _) hlt | with_reducible exact sts_c (H.put3 N _ _ _) hlt | with_reducible exact sts_c H.drew hlt | with_reducible exact sts_c (H.alloc _).drew hlt) ((first | (go_at_call 33; refine (PA.out _).mono ?_; rintro e wn ⟨rfl, hb⟩; first | (with_reducible have N' := N.call hb; have H' := H.call hb; clear N H hb g0 g1 g2 h0 h1 h2; have N := N'; have H := H'; clear N' H'; have g0 := N.blk.cell 0; have g1 := N.blk.cell 1; have g2 := N.blk.cell 2; have h0 := N.blk.frozen 0; have h1 := N.blk.frozen 1; have h2 := N.blk.frozen 2; simp at g0 g1 g2) | (with_reducible have H' := H.call hb; clear H hb; have H := H'; clear H') | (with_reducible have N := H.newa hb; have H' := H.calla hb; clear H hb; have H := H'; clear H'; have g0 := N.blk.cell 0; have g1 := N.blk.cell 1; have g2 := N.blk.cell 2; have h0 := N.blk.frozen 0; have h1 := N.blk.frozen 1; have h2 := N.blk.frozen 2; simp at g0 g1 g2) | (with_reducible have H' := H.calld hb; clear H hb; have H := H'; clear H') | (with_reducible have N := H.newad hb; have H' := H.callad hb; clear H hb; have H := H'; clear H'; have g0 := N.blk.cell 0; have g1 := N.blk.cell 1; have g2 := N.blk.cell 2; have h0 := N.blk.frozen 0; have h1 := N.blk.frozen 1; have h2 := N.blk.frozen 2; simp at g0 g1 g2)) | (go_at_call 32; refine (PB.out _).mono ?_; rintro e wn ⟨rfl, hb⟩; first | (with_reducible have N' := N.call hb; have H' := H.call hb; clear N H hb g0 g1 g2 h0 h1 h2; have N := N'; have H := H'; clear N' H'; have g0 := N.blk.cell 0; have g1 := N.blk.cell 1; have g2 := N.blk.cell 2; have h0 := N.blk.frozen 0; have h1 := N.blk.frozen 1; have h2 := N.blk.frozen 2; simp at g0 g1 g2) | (with_reducible have H' := H.call hb; clear H hb; have H := H'; clear H') | (with_reducible have N := H.newa hb; have H' := H.calla hb; clear H hb; have H := H'; clear H'; have g0 := N.blk.cell 0; have g1 := N.blk.cell 1; have g2 := N.blk.cell 2; have h0 := N.blk.frozen 0; have h1 := N.blk.frozen 1; have h2 := N.blk.frozen 2; simp at g0 g1 g2) | (with_reducible have H' := H.calld hb; clear H hb; have H := H'; clear H') | (with_reducible have N := H.newad hb; have H' := H.callad hb; clear H hb; have H := H'; clear H'; have g0 := N.blk.cell 0; have g1 := N.blk.cell 1; have g2 := N.blk.cell 2; have h0 := N.blk.frozen 0; have h1 := N.blk.frozen 1; have h2 := N.blk.frozen 2; simp at g0 g1 g2))))
          all_goals go_wp2_with fail
          all_goals go_meet
          all_goals first | exact ⟨_, rfl, rfl, H.alloc _, H.new _ _⟩ | exact ⟨_, rfl, rfl, H.put3 N _ _ _, N.put3 _ _ _⟩
        case rest =>
          obtain ⟨gb, rfl, rfl, HH, NN⟩ := hcut
          clear H d0 d1 d2
          have H := HH.out.take3 NN.out
          clear HH NN
          subst hvv
          have q9 : (va != va) = false := by simp
          go_wp2_with fail
          refine region_class (fun W => Sit w W ((⟨gb, 0, none⟩, .int .i64 pa) :: (⟨gb, 1, none⟩, .int .i64 pb) :: (⟨gb, 2, none⟩, .int .i64 pc) :: sts g)) (by kernel_rfl) (by kernel_rfl) H.drew ?_
          repeat (first | go_big_quiet_skip | (go_big_quiet_want; first | (apply quiet_value; (· (intro W hW; (have d0 := hW.get (.tail _ (.tail _ (.tail _ (mem_sts hlt).1))); have d1 := hW.get (.tail _ (.tail _ (.tail _ (mem_sts hlt).2.1))); have d2 := hW.get (.tail _ (.tail _ (.tail _ (mem_sts hlt).2.2))); have e0 := hW.get (.head _); have e1 := hW.get (.tail _ (.head _)); have e2 := hW.get (.tail _ (.tail _ (.head _)))); go_simp; exact rfl)); simp only [Act.put, List.setIfInBounds_toArray, List.set_cons_zero, List.set_cons_succ]; go_big_quiet_on) | (apply quiet_call; (· (intro W hW; go_simp; exact ⟨rfl, rfl⟩)); (· (intro W hW; first | with_reducible exact (PC.out W).mono fun _ _ h => ⟨h.1, hW.call h.2⟩ | with_reducible exact (PD.out W).mono fun _ _ h => ⟨h.1, hW.call h.2⟩)); simp only [Act.put, List.setIfInBounds_toArray, List.set_cons_zero, List.set_cons_succ]; go_big_quiet_on)))
          refine wpQuiet_nil ?_
          intro wq hq
          clear H
          have H := hq
          clear hq
          replace H : Sit w _ (sts g) := H.less (fun p hp => .tail _ (.tail _ (.tail _ hp)))
          go_wp2_with fail
          go_roundg (gk - 1)
          case measure => omega
          case rel => exact ⟨j + 1, by omega, by go_num, H⟩
      · have HB := Lib.hid H.below
        clear H
        go_wp2_with fail
        refine (NP.out _).mono ?_
        rintro e w11 ⟨rfl, hb11⟩
        have B11 : Hid (Below w.heap.size w w11) := by first | exact Lib.hid (below_2 HB.out hb11) | exact Lib.hid (below_a1 HB.out hb11) | exact Lib.hid (below_a2 HB.out hb11) | exact Lib.hid (below_a3 HB.out hb11)
        clear hb11
        go_wp2_with fail
        refine (AN.out _ (S0.out.below B11.out)).mono ?_
        rintro e w12 ⟨rfl, hb12⟩
        have B12 : Hid (Below w.heap.size w w12) := by first | exact Lib.hid (below_2 B11.out hb12) | exact Lib.hid (below_a1 B11.out hb12) | exact Lib.hid (below_a2 B11.out hb12) | exact Lib.hid (below_a3 B11.out hb12)
        clear hb12
        go_wp2_with fail
        refine (NX.out _).mono ?_
        rintro e w13 ⟨rfl, hb13⟩
        have B13 : Hid (Below w.heap.size w w13) := by first | exact Lib.hid (below_2 B12.out hb13) | exact Lib.hid (below_a1 B12.out hb13) | exact Lib.hid (below_a2 B12.out hb13) | exact Lib.hid (below_a3 B12.out hb13)
        clear hb13
        go_wp2_with fail
        go_ret
        exact ⟨ret_bool (by first | rfl | simp), B13.out⟩

end Go.Proofs.YtccjmahhebiphaaDoor.fnAssign
