/- The walk of the law FnAssignPost. -/
import Derived.Test.YtccjmahhebiphaaDoorVg
import Derived.Test.YtccjmahhebiphaaDoorVd
import Derived.Test.YtccjmahhebiphaaDoorVs
import Derived.Test.YtccjmahhebiphaaDoorVn
import Derived.Test.YtccjmahhebiphaaDoorHs
namespace Go.Proofs.YtccjmahhebiphaaDoor.fnAssignPost
open Go.ChangeShapes Go.WideShapes Go.ChangeAt Go.RowKit
open Pl
set_option linter.unusedVariables false
theorem state_ok {i : Nat} (hi : i < 27) : stB ((i : Int) % 3) ((i : Int) / 3 % 3) ((i : Int) / 9) = true := by
  simp only [stB, Bool.and_eq_true]
  exact ⟨inB_small.2 ⟨by omega, by omega⟩, inB_small.2 ⟨by omega, by omega⟩, inB_small.2 ⟨by omega, by omega⟩⟩
theorem sts_c {w W : World} {g j : Nat} (H : Sit w W (sts g)) (hj : j < 27) : W.cell? ⟨g, j * 3, none⟩ = some (.int .i64 ((j : Int) % 3)) ∧ W.cell? ⟨g, j * 3 + 1, none⟩ = some (.int .i64 ((j : Int) / 3 % 3)) ∧ W.cell? ⟨g, j * 3 + 2, none⟩ = some (.int .i64 ((j : Int) / 9)) :=
  ⟨H.get (mem_sts hj).1, H.get (mem_sts hj).2.1, H.get (mem_sts hj).2.2⟩
set_option maxRecDepth 100000 in
set_option maxHeartbeats 16000000 in
theorem walk (a0 : Option Addr) (len0 cap0 : Nat) (a1 : Option Addr) (len1 cap1 : Nat) (w : World) (hb0 : Bytes w a0 len0 w.heap.size) (hl0 : len0 ≤ cap0) (hc0 : cap0 ≤ 9223372036854775807) (hb1 : Bytes w a1 len1 w.heap.size) (hl1 : len1 ≤ cap1) (hc1 : cap1 ≤ 9223372036854775807) (hst : Str w) :
    Calls Tryd.prog 7 #[.slice a0 len0 cap0, .slice a1 len1 cap1] w fun e w' => e = .returned (.bool true) ∧ Below w.heap.size w w' := by
  by_cases hbig0 : 1048576 < len0
  · clear hb0 hb1
    go_enter Tryd.func7, Tryd.ntmps7
    go_wp2_with fail
    go_ret
    exact ⟨rfl, by first | exact Below.refl _ _ | exact below_n _ _⟩
  by_cases hbig1 : 1048576 < len1
  · clear hb0 hb1
    go_enter Tryd.func7, Tryd.ntmps7
    go_wp2_with fail
    go_ret
    exact ⟨rfl, by first | exact Below.refl _ _ | exact below_n _ _⟩
  have D := Lib.hid (DrawAssignPost_any a0 len0 cap0 w (by omega) hl0 hb0)
  have S0 := Lib.hid hst
  have HB1 := Lib.hid hb1
  clear hb0 hb1 hst
  go_enter Tryd.func7, Tryd.ntmps7
  go_wp2_with fail
  refine D.out.mono ?_
  rintro e w1 ⟨P, V, E, hP, hV, hE, rfl, hb1⟩
  have B1 := Lib.hid hb1
  have hV2 := which_small hV
  clear D hb1 hV
  have hP' : P.size ≤ 1000000000000 := by omega
  have hV' : V.size ≤ 1000000000000 := by omega
  have AA := Lib.hid (fun w hs => AssignPost_any P V E hP' (by omega) w hs)
  have AS := Lib.hid (fun w => AssignPostS_any P V E hP' hV' (by omega) w)
  have bad : (bOk 27 P.data.toList = false ∨ (varOf V.data.toList = none ∨ whole false 0 200 E.data.toList = none)) ∨ (∃ c kd, varOf V.data.toList = some c ∧ whole false 0 200 E.data.toList = some kd ∧ bOk 27 P.data.toList = true) := by
    cases hp : bOk 27 P.data.toList
    · exact .inl (.inl rfl)
    · cases hv : varOf V.data.toList with
      | none => exact .inl (.inr (.inl rfl))
      | some c =>
        cases ho : whole false 0 200 E.data.toList with
        | none => exact .inl (.inr (.inr rfl))
        | some kd => exact .inr ⟨c, kd, rfl, rfl, rfl⟩
  rcases bad with bad | ⟨c, kd, hv, ho, hp⟩
  · have h1 : asO P V E postF = none := by rcases bad with h | h; exact asO_bad h; exact asO_no h
    rw [h1] at AA AS
    simp only [optB, Option.isSome_none] at AA AS
    have q1 : ((bs []).toList != (bs []).toList) = false := by simp
    have q2 : ((bs []).toList == (bs []).toList) = true := by simp
    generalize bs [] = E0 at *
    clear bad h1
    go_wp2_with fail
    refine (AA.out _ (S0.out.below B1.out)).mono ?_
    rintro e w2 ⟨rfl, hb2⟩
    have B2 : Hid (Below w.heap.size w w2) := by first | exact Lib.hid (below_2 B1.out hb2) | exact Lib.hid (below_a1 B1.out hb2) | exact Lib.hid (below_a2 B1.out hb2) | exact Lib.hid (below_a3 B1.out hb2)
    clear hb2
    go_wp2_with fail
    refine (AS.out _).mono ?_
    rintro e w3 ⟨rfl, hb3⟩
    have B3 : Hid (Below w.heap.size w w3) := by first | exact Lib.hid (below_2 B2.out hb3) | exact Lib.hid (below_a1 B2.out hb3) | exact Lib.hid (below_a2 B2.out hb3) | exact Lib.hid (below_a3 B2.out hb3)
    clear hb3
    go_wp2_with fail
    go_ret
    exact ⟨ret_bool (by first | rfl | simp), B3.out⟩
  · rw [asO_yes hv ho hp] at AA AS
    simp only [optB, Option.isSome_some] at AA AS
    obtain ⟨hvl, hcm⟩ := varOf_some hv
    obtain rfl := bytes_of hvl
    have hxo : bOk 27 (bs (bitsN 27 (postF c kd (bt P.data.toList)))).data.toList = true := by rw [bs_list]; exact bits_ok _ _
    have hbp : ∀ i, i < 27 → bt (bs (bitsN 27 (postF c kd (bt P.data.toList)))).data.toList i = postF c kd (bt P.data.toList) i := fun i hi => by rw [bs_list, bt_bits hi]
    generalize bs (bitsN 27 (postF c kd (bt P.data.toList))) = X at *
    have zx := ok_size hxo
    have hbx : ∀ j, j < 27 → bt P.data.toList j = true → bt X.data.toList (toA c kd j) = true := fun j hj hb => by
      rw [hbp _ (toA_lt hj)]
      exact postF_iff.2 ⟨j, hj, rfl, hb⟩
    have HPV : Hid (∀ j : Nat, j < 27 → ∃ (u pa pb pc : Int) (va vb : Bool),
        (∀ w, Calls Tryd.prog 33 #[.string E, .agg #[.int .i64 ((j : Int) % 3), .int .i64 ((j : Int) / 3 % 3), .int .i64 ((j : Int) / 9)]] w fun e w' => (e = .returned (.int .i64 u) ∧ Below w.heap.size w w')) ∧
        (∀ w, Calls Tryd.prog 32 #[.agg #[.int .i64 ((j : Int) % 3), .int .i64 ((j : Int) / 3 % 3), .int .i64 ((j : Int) / 9)], .string ⟨#[c]⟩, .int .i64 u] w fun e w' => (e = .returned (.tuple #[.agg #[.int .i64 pa, .int .i64 pb, .int .i64 pc], .bool true]) ∧ Below w.heap.size w w')) ∧
        (∀ w, Calls Tryd.prog 34 #[.string P, .agg #[.int .i64 ((j : Int) % 3), .int .i64 ((j : Int) / 3 % 3), .int .i64 ((j : Int) / 9)]] w fun e w' => (e = .returned (.bool va) ∧ Below w.heap.size w w')) ∧
        (∀ w, Calls Tryd.prog 34 #[.string X, .agg #[.int .i64 pa, .int .i64 pb, .int .i64 pc]] w fun e w' => (e = .returned (.bool vb) ∧ Below w.heap.size w w')) ∧ (va = true → vb = true)) := Lib.hid (by
      intro j hj
      have hst := state_ok hj
      have hu := valA_small kd hj
      have hu2 : small (val (envOf ((j : Int) % 3) ((j : Int) / 3 % 3) ((j : Int) / 9) 0 0 0) kd) := hu
      have E1 := fun w => ppValue_any E (by omega) ((j : Int) % 3) ((j : Int) / 3 % 3) ((j : Int) / 9) w
      rw [ho, hst] at E1
      simp only [evV, if_true] at E1
      have E2 := fun w => SetVar_any ((j : Int) % 3) ((j : Int) / 3 % 3) ((j : Int) / 9) (val (envOf ((j : Int) % 3) ((j : Int) / 3 % 3) ((j : Int) / 9) 0 0 0) kd) ⟨#[c]⟩ w
      rw [show (⟨#[c]⟩ : ByteArray).data.toList = [c] from rfl, varOf_one hcm, hst, inB_small.2 hu2] at E2
      simp only [sv1, svB, if_true, Option.isSome_some, Bool.and_true] at E2
      have E3 := fun w => HasState_any P hp j hj w
      have E4 := fun w => HasState_any X hxo (toA c kd j) (toA_lt hj) w
      obtain ⟨s1, s2, s3⟩ := st_wv (c := c) hj hu
      have hto : toA c kd j = wv c j (val (envOf (stX j) (stY j) (stZ j) 0 0 0) kd) := rfl
      rw [hto, s1, s2, s3, ← hto] at E4
      refine ⟨_, _, _, _, _, _, E1, E2, E3, E4, ?_⟩
      intro hb
      exact hbx j hj hb)
    have CX := Lib.hid (fun w => CountPred_any X (by omega) w)
    have CP := Lib.hid (fun w => CountPred_any P hP' w)
    obtain ⟨a, b, ha, hb, hab⟩ : ∃ a b : Nat, cntP X.data.toList = (a : Int) ∧ cntP P.data.toList = (b : Int) ∧ a ≤ b :=
      ⟨_, _, cntP_ok hxo, cntP_ok hp, by rw [cnt_congr hbp]; exact post_cnt⟩
    rw [ha] at CX
    rw [hb] at CP
    have hle : (a : Int) ≤ (b : Int) := by omega
    have q1 : (X.toList != X.toList) = false := by simp
    have KEY : Hid (∀ Q : ByteArray, bOk 27 Q.data.toList = true → ∀ Z : ByteArray, Z = bs (bitsN 27 (preF c kd (bt Q.data.toList))) → winO X.data.toList Q.data.toList = winO P.data.toList Z.data.toList) := Lib.hid (by
      intro Q hq Z hZ
      have hzo : bOk 27 Z.data.toList = true := by rw [hZ, bs_list]; exact bits_ok _ _
      have hz : ∀ i, i < 27 → bt Z.data.toList i = preF c kd (bt Q.data.toList) i := fun i hi => by rw [hZ, bs_list, bt_bits hi]
      rw [Bool.eq_iff_iff, winO_ok hxo hq, winO_ok hp hzo]
      have h1 : (∀ i, i < 27 → bt X.data.toList i = true → bt Q.data.toList i = true) ↔ (∀ i, i < 27 → postF c kd (bt P.data.toList) i = true → bt Q.data.toList i = true) := by
        constructor <;> intro h i hi hb <;> exact h i hi (by first | (rw [hbp i hi]; exact hb) | (rw [← hbp i hi]; exact hb))
      have h2 : (∀ i, i < 27 → bt P.data.toList i = true → bt Z.data.toList i = true) ↔ (∀ i, i < 27 → bt P.data.toList i = true → preF c kd (bt Q.data.toList) i = true) := by
        constructor <;> intro h i hi hb
        · rw [← hz i hi]; exact h i hi hb
        · rw [hz i hi]; exact h i hi hb
      rw [h1, h2]
      exact post_pre)
    have HV := Lib.hid hv
    have HO := Lib.hid ho
    clear hbx hbp hvl hcm hp hv ho ha hb hab
    go_wp2_with fail
    refine (AA.out _ (S0.out.below B1.out)).mono ?_
    rintro e w2 ⟨rfl, hb2⟩
    have B2 : Hid (Below w.heap.size w w2) := by first | exact Lib.hid (below_2 B1.out hb2) | exact Lib.hid (below_a1 B1.out hb2) | exact Lib.hid (below_a2 B1.out hb2) | exact Lib.hid (below_a3 B1.out hb2)
    clear hb2
    go_wp2_with fail
    refine (AS.out _).mono ?_
    rintro e w3 ⟨rfl, hb3⟩
    have B3 : Hid (Below w.heap.size w w3) := by first | exact Lib.hid (below_2 B2.out hb3) | exact Lib.hid (below_a1 B2.out hb3) | exact Lib.hid (below_a2 B2.out hb3) | exact Lib.hid (below_a3 B2.out hb3)
    clear hb3
    clear AA AS
    have D2 := Lib.hid (DrawAssignPre_any a1 len1 cap1 w3 (by omega) hl1 (HB1.out.later B3.out))
    go_wp2_with fail
    refine D2.out.mono ?_
    rintro e w6 ⟨Q, V2, E2, hQ, hV3, hE2, rfl, hb6⟩
    have B6 := Lib.hid (below_2 B3.out hb6)
    clear D2 hb6 hV3
    have hQ' : Q.size ≤ 1000000000000 := by omega
    have AQ := Lib.hid (fun w hs => AssignPre_any Q ⟨[c].toArray⟩ E hQ' (by omega) w hs)
    cases hq : bOk 27 Q.data.toList
    · rw [asO_bad hq] at AQ
      simp only [optB, Option.isSome_none] at AQ
      generalize bs [] = E0 at *
      clear hq KEY
      go_wp2_with fail
      refine (AQ.out _ (S0.out.below B6.out)).mono ?_
      rintro e w7 ⟨rfl, hb7⟩
      have B7 : Hid (Below w.heap.size w w7) := by first | exact Lib.hid (below_2 B6.out hb7) | exact Lib.hid (below_a1 B6.out hb7) | exact Lib.hid (below_a2 B6.out hb7) | exact Lib.hid (below_a3 B6.out hb7)
      clear hb7
      go_wp2_with fail
      refine (ppStates_any _).mono ?_
      rintro e w9 ⟨g, cap, hcap, rfl, hs⟩
      have HH : Hid (Sit w w9 (sts g)) := Lib.hid ⟨below_2 B7.out hs.below, hs.cells⟩
      clear hs
      go_wp2_with fail
      go_loopg [18] 27 (fun gk i wr => ∃ k : Nat, k + gk = 27 ∧ i = .int .i64 k ∧ Hid (Sit w wr (sts g)))
      case atStart => exact ⟨0, rfl, rfl, HH⟩
      case round =>
        clear HH
        obtain ⟨j, hj, rfl, HH⟩ := hrel
        have H := HH.out
        clear HH
        by_cases hlt : j < 27
        · obtain ⟨u, pa, pb, pc, va, vb, P1, P2, P3, P4, hvv⟩ := HPV.out j hlt
          have PA := Lib.hid P1
          have PB := Lib.hid P2
          have PC := Lib.hid P3
          have PD := Lib.hid P4
          clear P1 P2 P3 P4
          obtain ⟨d0, d1, d2⟩ := sts_c H hlt
          go_upto_region 16 with fail
          go_cut [19, 20] (fun sp sb wx => ∃ g' : Nat, sp = .pointer (some ⟨g', 0, none⟩) ∧ sb = .bool true ∧ Hid (Sit w wx (sts g)) ∧ Hid (New w wx (sts g) g' 42 #[.int .i64 pa, .int .i64 pb, .int .i64 pc]))
          case first =>
            go_region_held3 (fun W => W.cell? ⟨g, j * 3, none⟩ = some (.int .i64 ((j : Int) % 3)) ∧ W.cell? ⟨g, j * 3 + 1, none⟩ = some (.int .i64 ((j : Int) / 3 % 3)) ∧ W.cell? ⟨g, j * 3 + 2, none⟩ = some (.int .i64 ((j : Int) / 9))) (first | with_reducible exact sts_c H hlt | with_reducible exact sts_c (H.alloc _) hlt | with_reducible exact sts_c (H.put3 N _ _ _) hlt | with_reducible exact sts_c H.drew hlt | with_reducible exact sts_c (H.alloc _).drew hlt) ((first | (go_at_call 33; refine (PA.out _).mono ?_; rintro e wn ⟨rfl, hb⟩; first | (with_reducible have N' := N.call hb; have H' := H.call hb; clear N H hb g0 g1 g2 h0 h1 h2; have N := N'; have H := H'; clear N' H'; have g0 := N.blk.cell 0; have g1 := N.blk.cell 1; have g2 := N.blk.cell 2; have h0 := N.blk.frozen 0; have h1 := N.blk.frozen 1; have h2 := N.blk.frozen 2; simp at g0 g1 g2) | (with_reducible have H' := H.call hb; clear H hb; have H := H'; clear H') | (with_reducible have N := H.newa hb; have H' := H.calla hb; clear H hb; have H := H'; clear H'; have g0 := N.blk.cell 0; have g1 := N.blk.cell 1; have g2 := N.blk.cell 2; have h0 := N.blk.frozen 0; have h1 := N.blk.frozen 1; have h2 := N.blk.frozen 2; simp at g0 g1 g2) | (with_reducible have H' := H.calld hb; clear H hb; have H := H'; clear H') | (with_reducible have N := H.newad hb; have H' := H.callad hb; clear H hb; have H := H'; clear H'; have g0 := N.blk.cell 0; have g1 := N.blk.cell 1; have g2 := N.blk.cell 2; have h0 := N.blk.frozen 0; have h1 := N.blk.frozen 1; have h2 := N.blk.frozen 2; simp at g0 g1 g2)) | (go_at_call 32; refine (PB.out _).mono ?_; rintro e wn ⟨rfl, hb⟩; first | (with_reducible have N' := N.call hb; have H' := H.call hb; clear N H hb g0 g1 g2 h0 h1 h2; have N := N'; have H := H'; clear N' H'; have g0 := N.blk.cell 0; have g1 := N.blk.cell 1; have g2 := N.blk.cell 2; have h0 := N.blk.frozen 0; have h1 := N.blk.frozen 1; have h2 := N.blk.frozen 2; simp at g0 g1 g2) | (with_reducible have H' := H.call hb; clear H hb; have H := H'; clear H') | (with_reducible have N := H.newa hb; have H' := H.calla hb; clear H hb; have H := H'; clear H'; have g0 := N.blk.cell 0; have g1 := N.blk.cell 1; have g2 := N.blk.cell 2; have h0 := N.blk.frozen 0; have h1 := N.blk.frozen 1; have h2 := N.blk.frozen 2; simp at g0 g1 g2) | (with_reducible have H' := H.calld hb; clear H hb; have H := H'; clear H') | (with_reducible have N := H.newad hb; have H' := H.callad hb; clear H hb; have H := H'; clear H'; have g0 := N.blk.cell 0; have g1 := N.blk.cell 1; have g2 := N.blk.cell 2; have h0 := N.blk.frozen 0; have h1 := N.blk.frozen 1; have h2 := N.blk.frozen 2; simp at g0 g1 g2))))
            all_goals go_wp2_with fail
            all_goals go_meet
            all_goals first | exact ⟨_, rfl, rfl, H.alloc _, H.new _ _⟩ | exact ⟨_, rfl, rfl, H.put3 N _ _ _, N.put3 _ _ _⟩
          case rest =>
            obtain ⟨gb, rfl, rfl, HH, NN⟩ := hcut
            clear H d0 d1 d2
            have H := HH.out.take3 NN.out
            clear HH NN
            cases va
            · have d0 := H.get (.tail _ (.tail _ (.tail _ (mem_sts hlt).1)))
              have d1 := H.get (.tail _ (.tail _ (.tail _ (mem_sts hlt).2.1)))
              have d2 := H.get (.tail _ (.tail _ (.tail _ (mem_sts hlt).2.2)))
              go_wp2_with fail
              refine (PC.out _).mono ?_
              rintro e wn ⟨rfl, hb⟩
              clear d0 d1 d2
              replace H := H.call hb
              clear hb
              replace H : Sit w _ (sts g) := H.less (fun p hp => .tail _ (.tail _ (.tail _ hp)))
              go_wp2_with fail
              go_roundg (gk - 1)
              case measure => omega
              case rel => exact ⟨j + 1, by omega, by go_num, H⟩
            · have hvb : vb = true := hvv rfl
              subst hvb
              have d0 := H.get (.tail _ (.tail _ (.tail _ (mem_sts hlt).1)))
              have d1 := H.get (.tail _ (.tail _ (.tail _ (mem_sts hlt).2.1)))
              have d2 := H.get (.tail _ (.tail _ (.tail _ (mem_sts hlt).2.2)))
              go_wp2_with fail
              refine (PC.out _).mono ?_
              rintro e wn ⟨rfl, hb⟩
              clear d0 d1 d2
              replace H := H.call hb
              clear hb
              have e0 := H.get (.head _)
              have e1 := H.get (.tail _ (.head _))
              have e2 := H.get (.tail _ (.tail _ (.head _)))
              go_wp2_with fail
              refine (PD.out _).mono ?_
              rintro e wm ⟨rfl, hb⟩
              clear e0 e1 e2
              replace H := H.call hb
              clear hb
              replace H : Sit w _ (sts g) := H.less (fun p hp => .tail _ (.tail _ (.tail _ hp)))
              go_wp2_with fail
              go_roundg (gk - 1)
              case measure => omega
              case rel => exact ⟨j + 1, by omega, by go_num, H⟩
        · have HB := Lib.hid H.below
          clear H
          go_wp2_with fail
          refine (CX.out _).mono ?_
          rintro e w' ⟨rfl, rfl⟩
          go_wp2_with fail
          refine (CP.out _).mono ?_
          rintro e w' ⟨rfl, rfl⟩
          go_wp2_with fail
          go_ret
          exact ⟨ret_bool (by first | rfl | simp | (simp; omega)), HB.out⟩
    · rw [asO_yes HV.out HO.out hq] at AQ
      simp only [optB, Option.isSome_some] at AQ
      have hkey := KEY.out Q hq _ rfl
      have zz : (bs (bitsN 27 (preF c kd (bt Q.data.toList)))).size ≤ 1000000000000 := by rw [bs_size, bits_len]; omega
      generalize bs (bitsN 27 (preF c kd (bt Q.data.toList))) = Z at *
      have W1 := Lib.hid (fun w => PredWithin_any X Q (by omega) hQ' w)
      have W2 := Lib.hid (fun w => PredWithin_any P Z hP' zz w)
      rw [hkey] at W1
      generalize winO P.data.toList Z.data.toList = wb at *
      have q4 : (wb != wb) = false := by simp
      clear hq KEY hkey zz
      go_wp2_with fail
      refine (AQ.out _ (S0.out.below B6.out)).mono ?_
      rintro e w7 ⟨rfl, hb7⟩
      have B7 : Hid (Below w.heap.size w w7) := by first | exact Lib.hid (below_2 B6.out hb7) | exact Lib.hid (below_a1 B6.out hb7) | exact Lib.hid (below_a2 B6.out hb7) | exact Lib.hid (below_a3 B6.out hb7)
      clear hb7
      go_wp2_with fail
      refine (W1.out _).mono ?_
      rintro e w8 ⟨rfl, hb8⟩
      have B8 : Hid (Below w.heap.size w w8) := by first | exact Lib.hid (below_2 B7.out hb8) | exact Lib.hid (below_a1 B7.out hb8) | exact Lib.hid (below_a2 B7.out hb8) | exact Lib.hid (below_a3 B7.out hb8)
      clear hb8
      go_wp2_with fail
      refine (W2.out _).mono ?_
      rintro e w9 ⟨rfl, hb9⟩
      have B9 : Hid (Below w.heap.size w w9) := by first | exact Lib.hid (below_2 B8.out hb9) | exact Lib.hid (below_a1 B8.out hb9) | exact Lib.hid (below_a2 B8.out hb9) | exact Lib.hid (below_a3 B8.out hb9)
      clear hb9
      go_wp2_with fail
      refine (ppStates_any _).mono ?_
      rintro e w9 ⟨g, cap, hcap, rfl, hs⟩
      have HH : Hid (Sit w w9 (sts g)) := Lib.hid ⟨below_2 B9.out hs.below, hs.cells⟩
      clear hs
      go_wp2_with fail
      go_loopg [18] 27 (fun gk i wr => ∃ k : Nat, k + gk = 27 ∧ i = .int .i64 k ∧ Hid (Sit w wr (sts g)))
      case atStart => exact ⟨0, rfl, rfl, HH⟩
      case round =>
        clear HH
        obtain ⟨j, hj, rfl, HH⟩ := hrel
        have H := HH.out
        clear HH
        by_cases hlt : j < 27
        · obtain ⟨u, pa, pb, pc, va, vb, P1, P2, P3, P4, hvv⟩ := HPV.out j hlt
          have PA := Lib.hid P1
          have PB := Lib.hid P2
          have PC := Lib.hid P3
          have PD := Lib.hid P4
          clear P1 P2 P3 P4
          obtain ⟨d0, d1, d2⟩ := sts_c H hlt
          go_upto_region 16 with fail
          go_cut [19, 20] (fun sp sb wx => ∃ g' : Nat, sp = .pointer (some ⟨g', 0, none⟩) ∧ sb = .bool true ∧ Hid (Sit w wx (sts g)) ∧ Hid (New w wx (sts g) g' 42 #[.int .i64 pa, .int .i64 pb, .int .i64 pc]))
          case first =>
            go_region_held3 (fun W => W.cell? ⟨g, j * 3, none⟩ = some (.int .i64 ((j : Int) % 3)) ∧ W.cell? ⟨g, j * 3 + 1, none⟩ = some (.int .i64 ((j : Int) / 3 % 3)) ∧ W.cell? ⟨g, j * 3 + 2, none⟩ = some (.int .i64 ((j : Int) / 9))) (first | with_reducible exact sts_c H hlt | with_reducible exact sts_c (H.alloc _) hlt | with_reducible exact sts_c (H.put3 N _ _ _) hlt | with_reducible exact sts_c H.drew hlt | with_reducible exact sts_c (H.alloc _).drew hlt) ((first | (go_at_call 33; refine (PA.out _).mono ?_; rintro e wn ⟨rfl, hb⟩; first | (with_reducible have N' := N.call hb; have H' := H.call hb; clear N H hb g0 g1 g2 h0 h1 h2; have N := N'; have H := H'; clear N' H'; have g0 := N.blk.cell 0; have g1 := N.blk.cell 1; have g2 := N.blk.cell 2; have h0 := N.blk.frozen 0; have h1 := N.blk.frozen 1; have h2 := N.blk.frozen 2; simp at g0 g1 g2) | (with_reducible have H' := H.call hb; clear H hb; have H := H'; clear H') | (with_reducible have N := H.newa hb; have H' := H.calla hb; clear H hb; have H := H'; clear H'; have g0 := N.blk.cell 0; have g1 := N.blk.cell 1; have g2 := N.blk.cell 2; have h0 := N.blk.frozen 0; have h1 := N.blk.frozen 1; have h2 := N.blk.frozen 2; simp at g0 g1 g2) | (with_reducible have H' := H.calld hb; clear H hb; have H := H'; clear H') | (with_reducible have N := H.newad hb; have H' := H.callad hb; clear H hb; have H := H'; clear H'; have g0 := N.blk.cell 0; have g1 := N.blk.cell 1; have g2 := N.blk.cell 2; have h0 := N.blk.frozen 0; have h1 := N.blk.frozen 1; have h2 := N.blk.frozen 2; simp at g0 g1 g2)) | (go_at_call 32; refine (PB.out _).mono ?_; rintro e wn ⟨rfl, hb⟩; first | (with_reducible have N' := N.call hb; have H' := H.call hb; clear N H hb g0 g1 g2 h0 h1 h2; have N := N'; have H := H'; clear N' H'; have g0 := N.blk.cell 0; have g1 := N.blk.cell 1; have g2 := N.blk.cell 2; have h0 := N.blk.frozen 0; have h1 := N.blk.frozen 1; have h2 := N.blk.frozen 2; simp at g0 g1 g2) | (with_reducible have H' := H.call hb; clear H hb; have H := H'; clear H') | (with_reducible have N := H.newa hb; have H' := H.calla hb; clear H hb; have H := H'; clear H'; have g0 := N.blk.cell 0; have g1 := N.blk.cell 1; have g2 := N.blk.cell 2; have h0 := N.blk.frozen 0; have h1 := N.blk.frozen 1; have h2 := N.blk.frozen 2; simp at g0 g1 g2) | (with_reducible have H' := H.calld hb; clear H hb; have H := H'; clear H') | (with_reducible have N := H.newad hb; have H' := H.callad hb; clear H hb; have H := H'; clear H'; have g0 := N.blk.cell 0; have g1 := N.blk.cell 1; have g2 := N.blk.cell 2; have h0 := N.blk.frozen 0; have h1 := N.blk.frozen 1; have h2 := N.blk.frozen 2; simp at g0 g1 g2))))
            all_goals go_wp2_with fail
            all_goals go_meet
            all_goals first | exact ⟨_, rfl, rfl, H.alloc _, H.new _ _⟩ | exact ⟨_, rfl, rfl, H.put3 N _ _ _, N.put3 _ _ _⟩
          case rest =>
            obtain ⟨gb, rfl, rfl, HH, NN⟩ := hcut
            clear H d0 d1 d2
            have H := HH.out.take3 NN.out
            clear HH NN
            cases va
            · have d0 := H.get (.tail _ (.tail _ (.tail _ (mem_sts hlt).1)))
              have d1 := H.get (.tail _ (.tail _ (.tail _ (mem_sts hlt).2.1)))
              have d2 := H.get (.tail _ (.tail _ (.tail _ (mem_sts hlt).2.2)))
              go_wp2_with fail
              refine (PC.out _).mono ?_
              rintro e wn ⟨rfl, hb⟩
              clear d0 d1 d2
              replace H := H.call hb
              clear hb
              replace H : Sit w _ (sts g) := H.less (fun p hp => .tail _ (.tail _ (.tail _ hp)))
              go_wp2_with fail
              go_roundg (gk - 1)
              case measure => omega
              case rel => exact ⟨j + 1, by omega, by go_num, H⟩
            · have hvb : vb = true := hvv rfl
              subst hvb
              have d0 := H.get (.tail _ (.tail _ (.tail _ (mem_sts hlt).1)))
              have d1 := H.get (.tail _ (.tail _ (.tail _ (mem_sts hlt).2.1)))
              have d2 := H.get (.tail _ (.tail _ (.tail _ (mem_sts hlt).2.2)))
              go_wp2_with fail
              refine (PC.out _).mono ?_
              rintro e wn ⟨rfl, hb⟩
              clear d0 d1 d2
              replace H := H.call hb
              clear hb
              have e0 := H.get (.head _)
              have e1 := H.get (.tail _ (.head _))
              have e2 := H.get (.tail _ (.tail _ (.head _)))
              go_wp2_with fail
              refine (PD.out _).mono ?_
              rintro e wm ⟨rfl, hb⟩
              clear e0 e1 e2
              replace H := H.call hb
              clear hb
              replace H : Sit w _ (sts g) := H.less (fun p hp => .tail _ (.tail _ (.tail _ hp)))
              go_wp2_with fail
              go_roundg (gk - 1)
              case measure => omega
              case rel => exact ⟨j + 1, by omega, by go_num, H⟩
        · have HB := Lib.hid H.below
          clear H
          go_wp2_with fail
          refine (CX.out _).mono ?_
          rintro e w' ⟨rfl, rfl⟩
          go_wp2_with fail
          refine (CP.out _).mono ?_
          rintro e w' ⟨rfl, rfl⟩
          go_wp2_with fail
          go_ret
          exact ⟨ret_bool (by first | rfl | simp | (simp; omega)), HB.out⟩

end Go.Proofs.YtccjmahhebiphaaDoor.fnAssignPost
