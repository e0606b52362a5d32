/- The program's reader of texts: the contract of read: what is read is the node of the text, laid in new memory. -/
import Derived.Test.YtehpmglbbalelaaRows
import Derived.Test.YtehpmglbbalelaaGb
import Derived.Maps.AppendAt
namespace Go.Proofs.Ytehpmglbbalelaa
open Go.RowKit
open Pl

theorem tree_info : (Try.prog.info? 32).map (fun i => (i.zero, i.size, i.bytes)) = some (some (.pointer none), 1, 8) := by kernel_rfl

set_option maxRecDepth 100000 in
set_option maxHeartbeats 4000000 in
theorem read_any (S : ByteArray) (hS : S.size ≤ 1000000) (wd : Bool) (rb : Nat) : ∀ (n so p : Nat) (z : Int) (w : World), z = so → so ≤ 2 → p ≤ S.size → S.size - p ≤ n → Blk w rb 59 #[.string S, .int .i64 (p : Int), .bool wd] →
    Calls Try.prog 25 #[.pointer (some ⟨rb, 0, none⟩), .int .i64 z] w (ReadPost 59 w rb S wd (rd wd n so (S.data.toList.drop p))) := by
  intro n
  induction n with
  | zero =>
    intro so p z w hz hso hp hn hr
    have hpe : p = S.size := by omega
    subst hpe
    have c0 := hr.cell 0
    have c1 := hr.cell 1
    simp at c0 c1
    clear hr
    go_enter Try.func25, Try.ntmps25
    go_wp2_with fail
    go_quiet (fail)
    go_wp2_with fail
    go_ret
    exact readPost_none rd_end rfl (grownBy_drewN _ _ _)
  | succ n ih =>
    intro so p z w hz hso hp hn hr
    by_cases hpe : p = S.size
    · subst hpe
      have c0 := hr.cell 0
      have c1 := hr.cell 1
      simp at c0 c1
      clear hr ih hn hp
      go_enter Try.func25, Try.ntmps25
      go_wp2_with fail
      go_quiet (fail)
      go_wp2_with fail
      go_ret
      exact readPost_none rd_end rfl (grownBy_drewN _ _ _)
    have hlt : p < S.size := by omega
    have hL := drop_cons hlt
    obtain ⟨c, hch⟩ : ∃ c, S[p] = c := ⟨_, rfl⟩
    rw [hch] at hL
    obtain ⟨o, ho⟩ : ∃ o, rd wd (n + 1) so (S.data.toList.drop p) = o := ⟨_, rfl⟩
    rw [ho]
    have HO := Lib.hid ho
    have HL := Lib.hid hL
    have IH := Lib.hid ih
    have HZ := Lib.hid hz
    have HR := Lib.hid hr
    have c0 := hr.cell 0
    have c1 := hr.cell 1
    have c2 := hr.cell 2
    have f1 := hr.frozen 1
    simp at c0 c1 c2
    clear hr ih hz ho hL hpe
    go_enter Try.func25, Try.ntmps25
    go_wp2_with fail
    go_quiet (fail)
    revert nq
    intro m1
    go_upto_block 0 with fail
    go_quiet (fail)
    revert nq
    intro m2
    go_upto_block 0 with fail
    -- the world that the node's letter and its new block have made
    have hW : St 59 66 32 3 w rb S wd c [] none [] (p + 1) (.slice none 0 0) [] (((w.drewN (m1 + m2)).setCell { block := rb, off := 1 } (.int .i64 (↑p + 1))).alloc (.cells #[.int .u8 c.toNat, .slice none 0 0, .string ⟨#[]⟩] 66)) := St.start hlt HR.out (m1 + m2) _ (by simp)
    generalize (((w.drewN _).setCell { block := rb, off := 1 } (.int .i64 (↑p + 1))).alloc (.cells #[.int .u8 c.toNat, .slice none 0 0, .string ⟨#[]⟩] 66)) = W1 at *
    go_cut [8] (fun v wx => ∃ ws A done q kv ps, v = .slice A (List.length ws) (List.length ws) ∧ St 59 66 32 3 w rb S wd c ws A done q kv ps wx ∧ (∀ s ∈ ws, s ≤ 2) ∧ done.length + ws.length ≤ 3 ∧ p + 1 ≤ q ∧ o = fin (rd wd n) c ws done (S.data.toList.drop q))
    case first => as_aux_lemma =>
      have hRES : o = (if 2 ≤ so ∧ c = 97 then
          match S.data.toList.drop (p + 1) with
          | [] => none
          | v :: r1 => if isV wd v then (match rd wd n 0 r1 with
            | none => none
            | some (e, r2) => some (.n2 97 (.n0 v) e, r2)) else none
        else match want wd so c with
          | none => none
          | some ws => fin (rd wd n) c ws [] (S.data.toList.drop (p + 1))) := by
        rw [← HO.out, HL.out]; rfl
      have HRES := Lib.hid hRES
      have HW := Lib.hid hW
      have w2 := hW.rdr.cell 2
      simp at w2
      clear hRES hW c0 c1 c2 f1
      have hc256 := c.toNat_lt
      have z2 : so = 0 ∨ so = 1 ∨ so = 2 := by omega
      have hN : ¬ (2 ≤ so ∧ c = 97) → o = (match want wd so c with
          | none => none
          | some ws => fin (rd wd n) c ws [] (S.data.toList.drop (p + 1))) := fun h => by rw [HRES.out, if_neg h]
      rcases z2 with rfl | rfl | rfl
      · as_aux_lemma =>
        obtain rfl : z = 0 := HZ.out
        by_cases hv : isV wd c = true
        · have hwt : want wd 0 c = some [] := by simp [want, hv]
          have HWT := Lib.hid hwt
          have HN := Lib.hid hN
          have HV := Lib.hid hv
          clear hv hwt hN
          go_wp2_with (go_at_call 29; refine (variable_yes c wd rb W1 w2 HV.out).mono ?_; rintro e w' ⟨rfl, rfl⟩)
          go_meet
          case rel => exact ⟨[], none, [], p + 1, _, [], rfl, HW.out, by simp, by simp, Nat.le_refl _, (HN.out (by simp)).trans (by rw [HWT.out])⟩
        have hv' : isV wd c = false := by simpa using hv
        have HV := Lib.hid hv'
        clear hv hv'
        by_cases hd : isD c = true
        · have hr := isD_range hd
          obtain ⟨hr1, hr2⟩ := hr
          have hwt : want wd 0 c = some [] := by simp [want, hd]
          have HWT := Lib.hid hwt
          have HN := Lib.hid hN
          clear hwt hN hd
          go_wp2_with (go_at_call 29; refine (variable_no c wd rb W1 w2 HV.out).mono ?_; rintro e w' ⟨rfl, rfl⟩)
          go_meet
          case rel => exact ⟨[], none, [], p + 1, _, [], rfl, HW.out, by simp, by simp, Nat.le_refl _, (HN.out (by simp)).trans (by rw [HWT.out])⟩
        by_cases ho : isO c = true
        · have HD := Lib.hid hd
          clear hd
          rcases isO_cases ho with rfl | rfl | rfl
          · clear ho
            have hwt : want wd 0 43 = some [0, 0] := by cases wd <;> rfl
            have HWT := Lib.hid hwt
            have HN := Lib.hid hN
            clear hwt hN 
            go_wp2_with (go_at_call 29; refine (variable_no 43 wd rb W1 w2 HV.out).mono ?_; rintro e w' ⟨rfl, rfl⟩)
            go_meet
            case rel => exact ⟨[0, 0], some ⟨W1.heap.size, 0, none⟩, [], p + 1, _, [], rfl, HW.out.want_ [0, 0] _ rfl, by simp, by simp, Nat.le_refl _, (HN.out (by simp)).trans (by rw [HWT.out])⟩
          · clear ho
            have hwt : want wd 0 45 = some [0, 0] := by cases wd <;> rfl
            have HWT := Lib.hid hwt
            have HN := Lib.hid hN
            clear hwt hN 
            go_wp2_with (go_at_call 29; refine (variable_no 45 wd rb W1 w2 HV.out).mono ?_; rintro e w' ⟨rfl, rfl⟩)
            go_meet
            case rel => exact ⟨[0, 0], some ⟨W1.heap.size, 0, none⟩, [], p + 1, _, [], rfl, HW.out.want_ [0, 0] _ rfl, by simp, by simp, Nat.le_refl _, (HN.out (by simp)).trans (by rw [HWT.out])⟩
          · clear ho
            have hwt : want wd 0 42 = some [0, 0] := by cases wd <;> rfl
            have HWT := Lib.hid hwt
            have HN := Lib.hid hN
            clear hwt hN 
            go_wp2_with (go_at_call 29; refine (variable_no 42 wd rb W1 w2 HV.out).mono ?_; rintro e w' ⟨rfl, rfl⟩)
            go_meet
            case rel => exact ⟨[0, 0], some ⟨W1.heap.size, 0, none⟩, [], p + 1, _, [], rfl, HW.out.want_ [0, 0] _ rfl, by simp, by simp, Nat.le_refl _, (HN.out (by simp)).trans (by rw [HWT.out])⟩
        have e1 := u8_ne 43 (fun e : c = _ => ho (by rw [e]; rfl)) (by decide)
        have e2 := u8_ne 45 (fun e : c = _ => ho (by rw [e]; rfl)) (by decide)
        have e3 := u8_ne 42 (fun e : c = _ => ho (by rw [e]; rfl)) (by decide)
        simp only [Int.cast_ofNat_Int] at e1 e2 e3
        have hr : c.toNat < 48 ∨ 50 < c.toNat := by
          by_cases h1 : 48 ≤ c.toNat
          · by_cases h2 : c.toNat ≤ 50
            · exact absurd (by simp [isD, UInt8.le_iff_toNat_le, h1, h2]) hd
            · exact .inr (by omega)
          · exact .inl (by omega)
        rcases hr with hr | hr
        · have hwt : want wd 0 c = none := by simp [want, HV.out, hd, ho]
          have HWT := Lib.hid hwt
          have HN := Lib.hid hN
          clear hwt hN hd ho
          go_wp2_with (go_at_call 29; refine (variable_no c wd rb W1 w2 HV.out).mono ?_; rintro e w' ⟨rfl, rfl⟩)
          go_ret
          exact readPost_none ((HN.out (by simp)).trans (by rw [HWT.out])) rfl HW.out.grown
        · have hwt : want wd 0 c = none := by simp [want, HV.out, hd, ho]
          have HWT := Lib.hid hwt
          have HN := Lib.hid hN
          clear hwt hN hd ho
          go_wp2_with (go_at_call 29; refine (variable_no c wd rb W1 w2 HV.out).mono ?_; rintro e w' ⟨rfl, rfl⟩)
          go_ret
          exact readPost_none ((HN.out (by simp)).trans (by rw [HWT.out])) rfl HW.out.grown
      · as_aux_lemma =>
        obtain rfl : z = 1 := HZ.out
        by_cases h116 : c = 116
        · subst h116
          have hwt : want wd 1 116 = some [] := by rfl
          have HWT := Lib.hid hwt
          have HN := Lib.hid hN
          clear hwt hN 
          go_wp2_with fail
          go_meet
          case rel => exact ⟨[], none, [], p + 1, _, [], rfl, HW.out, by simp, by simp, Nat.le_refl _, (HN.out (by simp)).trans (by rw [HWT.out])⟩
        by_cases h102 : c = 102
        · subst h102
          have hwt : want wd 1 102 = some [] := by rfl
          have HWT := Lib.hid hwt
          have HN := Lib.hid hN
          clear hwt hN h116
          go_wp2_with fail
          go_meet
          case rel => exact ⟨[], none, [], p + 1, _, [], rfl, HW.out, by simp, by simp, Nat.le_refl _, (HN.out (by simp)).trans (by rw [HWT.out])⟩
        by_cases h61 : c = 61
        · subst h61
          have hwt : want wd 1 61 = some [0, 0] := by rfl
          have HWT := Lib.hid hwt
          have HN := Lib.hid hN
          clear hwt hN h116 h102
          go_wp2_with fail
          go_meet
          case rel => exact ⟨[0, 0], some ⟨W1.heap.size, 0, none⟩, [], p + 1, _, [], rfl, HW.out.want_ [0, 0] _ rfl, by simp, by simp, Nat.le_refl _, (HN.out (by simp)).trans (by rw [HWT.out])⟩
        by_cases h60 : c = 60
        · subst h60
          have hwt : want wd 1 60 = some [0, 0] := by rfl
          have HWT := Lib.hid hwt
          have HN := Lib.hid hN
          clear hwt hN h116 h102 h61
          go_wp2_with fail
          go_meet
          case rel => exact ⟨[0, 0], some ⟨W1.heap.size, 0, none⟩, [], p + 1, _, [], rfl, HW.out.want_ [0, 0] _ rfl, by simp, by simp, Nat.le_refl _, (HN.out (by simp)).trans (by rw [HWT.out])⟩
        by_cases h33 : c = 33
        · subst h33
          have hwt : want wd 1 33 = some [1] := by rfl
          have HWT := Lib.hid hwt
          have HN := Lib.hid hN
          clear hwt hN h116 h102 h61 h60
          go_wp2_with fail
          go_meet
          case rel => exact ⟨[1], some ⟨W1.heap.size, 0, none⟩, [], p + 1, _, [], rfl, HW.out.want_ [1] _ rfl, by simp, by simp, Nat.le_refl _, (HN.out (by simp)).trans (by rw [HWT.out])⟩
        by_cases h38 : c = 38
        · subst h38
          have hwt : want wd 1 38 = some [1, 1] := by rfl
          have HWT := Lib.hid hwt
          have HN := Lib.hid hN
          clear hwt hN h116 h102 h61 h60 h33
          go_wp2_with fail
          go_meet
          case rel => exact ⟨[1, 1], some ⟨W1.heap.size, 0, none⟩, [], p + 1, _, [], rfl, HW.out.want_ [1, 1] _ rfl, by simp, by simp, Nat.le_refl _, (HN.out (by simp)).trans (by rw [HWT.out])⟩
        by_cases h124 : c = 124
        · subst h124
          have hwt : want wd 1 124 = some [1, 1] := by rfl
          have HWT := Lib.hid hwt
          have HN := Lib.hid hN
          clear hwt hN h116 h102 h61 h60 h33 h38
          go_wp2_with fail
          go_meet
          case rel => exact ⟨[1, 1], some ⟨W1.heap.size, 0, none⟩, [], p + 1, _, [], rfl, HW.out.want_ [1, 1] _ rfl, by simp, by simp, Nat.le_refl _, (HN.out (by simp)).trans (by rw [HWT.out])⟩
        have e116 := u8_ne 116 h116 (by decide)
        have e102 := u8_ne 102 h102 (by decide)
        have e61 := u8_ne 61 h61 (by decide)
        have e60 := u8_ne 60 h60 (by decide)
        have e33 := u8_ne 33 h33 (by decide)
        have e38 := u8_ne 38 h38 (by decide)
        have e124 := u8_ne 124 h124 (by decide)
        simp only [Int.cast_ofNat_Int] at e116 e102 e61 e60 e33 e38 e124
        have hwt : want wd 1 c = none := by simp [want, h116, h102, h61, h60, h33, h38, h124]
        have HWT := Lib.hid hwt
        have HN := Lib.hid hN
        clear hwt hN h116 h102 h61 h60 h33 h38 h124
        go_wp2_with fail
        go_ret
        exact readPost_none ((HN.out (by simp)).trans (by rw [HWT.out])) rfl HW.out.grown
      · as_aux_lemma =>
        obtain rfl : z = 2 := HZ.out
        by_cases h115 : c = 115
        · subst h115
          have hwt : want wd 2 115 = some [] := by rfl
          have HWT := Lib.hid hwt
          have HN := Lib.hid hN
          clear hwt hN 
          go_wp2_with fail
          go_meet
          case rel => exact ⟨[], none, [], p + 1, _, [], rfl, HW.out, by simp, by simp, Nat.le_refl _, (HN.out (by simp)).trans (by rw [HWT.out])⟩
        by_cases h97 : c = 97
        · as_aux_lemma =>
          subst h97
          have hR := HRES.out
          rw [if_pos ⟨by omega, rfl⟩] at hR
          have d0 := HW.out.rdr.cell 0
          have d1 := HW.out.rdr.cell 1
          have df := HW.out.rdr.frozen 1
          simp at d0 d1
          by_cases hend : p + 1 = S.size
          · have ho : o = none := by
              rw [hR, hend, List.drop_of_length_le (by rw [Array.length_toList]; exact Nat.le_refl _)]
            have HO2 := Lib.hid ho
            have g1 : decide ((S.size : Int) ≤ (p : Int) + 1) = true := by simp; omega
            have g2 : decide (S.size ≤ p + 1) = true := by simp; omega
            clear hN hR ho hend
            go_wp2_with fail
            go_quiet (fail)
            go_wp2_with fail
            go_ret
            exact readPost_none HO2.out rfl (grown_step HW.out.grown (grownBy_drewN _ _ none) (fun g e => by cases e))
          have hlt2 : p + 1 < S.size := by omega
          have g1 : decide ((S.size : Int) ≤ (p : Int) + 1) = false := by simp; omega
          have g2 : decide (S.size ≤ p + 1) = false := by simp; omega
          rw [drop_cons hlt2] at hR
          obtain ⟨v, hvv⟩ : ∃ v, S[p + 1] = v := ⟨_, rfl⟩
          rw [hvv] at hR
          simp only at hR
          cases hv : isV wd v
          · have ho : o = none := by rw [hR, hv]; rfl
            have HO2 := Lib.hid ho
            have HV := Lib.hid hv
            clear hN hR ho hend hv
            go_wp2_with fail
            go_quiet ((go_at_call 29; exact quiet_off (variable_no v wd rb _ w2 HV.out)))
            go_wp2_with fail
            go_ret
            exact readPost_none HO2.out rfl (grown_step HW.out.grown (grownBy_drewN _ _ none) (fun g e => by cases e))
          · rw [hv, if_pos rfl] at hR
            have HR2 := Lib.hid hR
            have HV := Lib.hid hv
            clear hN hR hend hv
            go_wp2_with fail
            go_quiet ((go_at_call 29; exact quiet_off (variable_yes v wd rb _ w2 HV.out)))
            go_wp2_with fail
            have hex : S.extract (p + 1) (p + 1 + 1) = ⟨#[v]⟩ := by
              have h1 := drop_cons hlt2
              rw [hvv] at h1
              exact (extract_text (t := [v]) (q := p + 1 + 1) (by omega) h1 (by omega)).2
            have l1 := HW.out.rdr.lt
            have l2 := HW.out.node.lt
            have l3 : ∀ (n : Nat) (o : Obj), ((W1.drewN n).alloc o).cell? ⟨rb, 1, none⟩ = some (.int .i64 ((p : Int) + 1)) := fun n o => (World.cell?_of_block (a := ⟨rb, 1, none⟩) (Below.heap_alloc (W1.drewN n) o rb l1)).trans d1
            have l4 : ∀ (n : Nat) (o : Obj), ((W1.drewN n).alloc o).frozen? ⟨rb, 1, none⟩ = false := fun n o => (World.frozen?_of_block (a := ⟨rb, 1, none⟩) (Below.heap_alloc (W1.drewN n) o rb l1)).trans df
            go_region
            go_wp2_with fail
            as_aux_lemma =>
            generalize hW3 : (((W1.drewN (nq + 1)).alloc (.cells #[.int .u8 v.toNat, .slice none 0 0, .string ⟨#[v]⟩] 66)).setCell { block := rb, off := 1 } (.int .i64 (↑p + 1 + 1))) = W3
            obtain ⟨k1, k2, k3, k4, k5, k6⟩ := HW.out.letter (by decide) v (p + 2) (nq + 1) W3 (by rw [← hW3]; rfl)
            clear hW3 hex g1 g2 d0 d1 df w2 l3 l4
            obtain ⟨o1, ho1⟩ : ∃ o1, rd wd n 0 (S.data.toList.drop (p + 2)) = o1 := ⟨_, rfl⟩
            refine (IH.out 0 (p + 2) 0 W3 rfl (by omega) (by omega) (by omega) k1).mono ?_
            rw [ho1]
            have HO1 := Lib.hid ho1
            clear ho1
            rintro e w' ⟨hg, hpost⟩
            have hrl : rb < w.heap.size := HR.out.lt
            cases o1 with
            | none =>
              obtain rfl := hpost
              go_wp2_with fail
              go_ret
              exact readPost_none (by rw [HR2.out, HO1.out]) rfl (grown_step k4 hg (fun g e => .inl e))
            | some kr =>
              obtain ⟨k, r⟩ := kr
              obtain ⟨b, q2, rfl, hin, hq2, hr2, hrd⟩ := hpost
              have HST := Lib.hid (St.two (S := S) (wd := wd) (c := 97) (TI := 3) (PT := 32) hrl k2 k3 k5 k4 hg hin hq2 hrd)
              have hgz := hg.size
              have t4 : Blk w' w.heap.size 66 #[.int .u8 97, .slice none 0 0, .string ⟨#[]⟩] := k2.grown hg (by intro e; injection e with e; omega)
              have d3 := t4.cell 1
              have d4 := t4.frozen 1
              have d5 := t4.lt
              simp at d3
              have HR3 := Lib.hid hr2
              clear t4 hr2 hrd hin hg k1 k2 k3 k4
              go_wp2_with fail
              go_meet
              case rel =>
                have hq3 : p + 1 ≤ q2 := by
                  obtain ⟨e1, _⟩ := rd_sound wd n 0 _ _ _ (by omega) HO1.out
                  have hl := congrArg List.length e1
                  rw [← HR3.out] at hl
                  simp only [List.length_drop, List.length_append, Array.length_toList] at hl
                  have hs : S.data.size = S.size := rfl
                  omega
                have HST2 := HST.out
                rw [World.setCell_alloc_past _ _ _ _ d5] at HST2
                exact ⟨[], none, [.n0 v, k], q2, _, [W1.heap.size, b], rfl, HST2, by simp, by simp, hq3, by rw [HR2.out, HO1.out, fin_nil, HR3.out]; rfl⟩
        by_cases h59 : c = 59
        · subst h59
          have hwt : want wd 2 59 = some [2, 2] := by rfl
          have HWT := Lib.hid hwt
          have HN := Lib.hid hN
          clear hwt hN h115 h97
          go_wp2_with fail
          go_meet
          case rel => exact ⟨[2, 2], some ⟨W1.heap.size, 0, none⟩, [], p + 1, _, [], rfl, HW.out.want_ [2, 2] _ rfl, by simp, by simp, Nat.le_refl _, (HN.out (by simp)).trans (by rw [HWT.out])⟩
        by_cases h47 : c = 47
        · subst h47
          have hwt : want wd 2 47 = some [2, 2] := by rfl
          have HWT := Lib.hid hwt
          have HN := Lib.hid hN
          clear hwt hN h115 h97 h59
          go_wp2_with fail
          go_meet
          case rel => exact ⟨[2, 2], some ⟨W1.heap.size, 0, none⟩, [], p + 1, _, [], rfl, HW.out.want_ [2, 2] _ rfl, by simp, by simp, Nat.le_refl _, (HN.out (by simp)).trans (by rw [HWT.out])⟩
        by_cases h63 : c = 63
        · subst h63
          have hwt : want wd 2 63 = some [1, 2, 2] := by rfl
          have HWT := Lib.hid hwt
          have HN := Lib.hid hN
          clear hwt hN h115 h97 h59 h47
          go_wp2_with fail
          go_meet
          case rel => exact ⟨[1, 2, 2], some ⟨W1.heap.size, 0, none⟩, [], p + 1, _, [], rfl, HW.out.want_ [1, 2, 2] _ rfl, by simp, by simp, Nat.le_refl _, (HN.out (by simp)).trans (by rw [HWT.out])⟩
        by_cases h64 : c = 64
        · subst h64
          have hwt : want wd 2 64 = some [1, 2] := by rfl
          have HWT := Lib.hid hwt
          have HN := Lib.hid hN
          clear hwt hN h115 h97 h59 h47 h63
          go_wp2_with fail
          go_meet
          case rel => exact ⟨[1, 2], some ⟨W1.heap.size, 0, none⟩, [], p + 1, _, [], rfl, HW.out.want_ [1, 2] _ rfl, by simp, by simp, Nat.le_refl _, (HN.out (by simp)).trans (by rw [HWT.out])⟩
        by_cases h126 : c = 126
        · subst h126
          have hwt : want wd 2 126 = some [1] := by rfl
          have HWT := Lib.hid hwt
          have HN := Lib.hid hN
          clear hwt hN h115 h97 h59 h47 h63 h64
          go_wp2_with fail
          go_meet
          case rel => exact ⟨[1], some ⟨W1.heap.size, 0, none⟩, [], p + 1, _, [], rfl, HW.out.want_ [1] _ rfl, by simp, by simp, Nat.le_refl _, (HN.out (by simp)).trans (by rw [HWT.out])⟩
        have e115 := u8_ne 115 h115 (by decide)
        have e97 := u8_ne 97 h97 (by decide)
        have e59 := u8_ne 59 h59 (by decide)
        have e47 := u8_ne 47 h47 (by decide)
        have e63 := u8_ne 63 h63 (by decide)
        have e64 := u8_ne 64 h64 (by decide)
        have e126 := u8_ne 126 h126 (by decide)
        simp only [Int.cast_ofNat_Int] at e115 e97 e59 e47 e63 e64 e126
        have hwt : want wd 2 c = none := by simp [want, h115, h59, h47, h63, h64, h126]
        have HWT := Lib.hid hwt
        have HN := Lib.hid hN
        clear hwt hN h115 h59 h47 h63 h64 h126
        go_wp2_with fail
        go_ret
        exact readPost_none ((HN.out (by simp [h97])).trans (by rw [HWT.out])) rfl HW.out.grown
    case rest => as_aux_lemma =>
      obtain ⟨ws, A, done, q, kv, ps, rfl, hst, hws, hlen, hpq, hfin⟩ := hcut
      have HF := Lib.hid hfin
      have HT := Lib.hid hst
      have HS := Lib.hid hws
      clear hfin hst hws
      go_wp2_with fail
      go_loopg [177] (List.length ws) (fun k v wr => ∃ i done q kv ps, k + i = List.length ws ∧ v = .int .i64 (i : Nat) ∧ Hid (St 59 66 32 3 w rb S wd c ws A done q kv ps wr) ∧ List.length done + k ≤ 3 ∧ p + 1 ≤ q ∧ Hid (o = fin (rd wd n) c (List.drop i ws) done (S.data.toList.drop q)))
      case atStart => exact ⟨0, done, q, kv, ps, by omega, rfl, HT, hlen, hpq, HF⟩
      case round =>
        obtain ⟨i, done', q', kv', ps', hk, rfl, HT', hlen', hpq', HF'⟩ := hrel
        clear HT HF hpq
        have hw3 : List.length ws ≤ 3 := by omega
        by_cases hi : i < List.length ws
        · obtain ⟨g, hA, hg⟩ : ∃ g, A = some ⟨g, 0, none⟩ ∧ Blk wr g 3 ((ws.map fun s : Nat => Value.int .i64 (s : Int)).toArray) := by
            rcases HT'.out.wants with ⟨h1, _⟩ | h1
            · subst h1; simp at hi
            · exact h1
          subst hA
          have hcw : wr.cell? ⟨g, i, none⟩ = some (.int .i64 (ws[i] : Int)) := by rw [hg.cell]; simp [hi]
          clear hg
          have hrl : rb < w.heap.size := HR.out.lt
          obtain ⟨x, hx⟩ : ∃ x, ws[i] = x := ⟨_, rfl⟩
          have hxs : x ≤ 2 := hx ▸ HS.out _ (List.getElem_mem hi)
          have hdr : List.drop i ws = x :: List.drop (i + 1) ws := by rw [List.drop_eq_getElem_cons hi, hx]
          rw [hx] at hcw
          have HX := Lib.hid hdr
          have hq := HT'.out.q_le
          obtain ⟨o1, ho1⟩ : ∃ o1, rd wd n x (S.data.toList.drop q') = o1 := ⟨_, rfl⟩
          have HO1 := Lib.hid ho1
          have hfuel : S.size - q' ≤ n := by omega
          clear hx hdr ho1
          go_wp2_with fail
          refine (IH.out x q' _ wr rfl hxs hq hfuel HT'.out.rdr).mono ?_
          rw [HO1.out]
          rintro e w' ⟨hg, hpost⟩
          cases o1 with
          | none =>
            obtain rfl := hpost
            go_wp2_with fail
            go_ret
            exact readPost_none (by rw [HF'.out, HX.out]; exact fin_none HO1.out) rfl (grown_step HT'.out.grown hg (fun g e => .inl e))
          | some kr =>
            obtain ⟨k, r⟩ := kr
            obtain ⟨b, q2, rfl, hin, hq2, hr2, hrd⟩ := hpost
            obtain ⟨i0, hi0, hz0, hz1, hz2⟩ := info_parts tree_info
            obtain ⟨m1, m2, m3, m4⟩ := HT'.out.mid (by decide) (by decide) (by decide) hg
            have d1 := m1.cell 1
            simp at d1
            have M1 := Lib.hid m1
            have M2 := Lib.hid m2
            have M3 := Lib.hid m3
            have HI := Lib.hid hi0
            have HZ0 := Lib.hid hz0
            have HZ1 := Lib.hid hz1
            have HZ2 := Lib.hid hz2
            have HR2 := Lib.hid hr2
            clear hr2 hi0 hz0 hz1 hz2 m1 m2 m3
            go_wp2_with (at_builtin; refine wpList_append_own_at _ rfl (.tmp 190) (.tmp 192) 64 rfl (w.heap.size + 1) 32 i0 _ 1 8 Try.underlying64 HI.out HZ0.out HZ1.out HZ2.out rfl (by decide) kv' (List.length done') (ps'.map pv) rfl (M2.out.alloc _) ⟨w'.heap.size, 0, none⟩ 1 1 [pv b] rfl rfl ?c1 ?c2 ?c3 ?c4 ?c5 ?_)
            case c1 => exact cell_one_new _ _ _
            case c2 => simp [pv, Value.oneCell']
            case c3 => simp only [maxLen]; omega
            case c4 => omega
            case c5 => simp; omega
            intro v' w2 hown hgr _ hat
            have hst2 := HT'.out.snoc (by decide) (by decide) (by decide) (by decide) (by decide) (by decide) hrl hg hin hq2 hrd hown hgr (by simpa using hat)
            have hb2 : Blk w2 w.heap.size 66 #[.int .u8 c.toNat, kv', .string ⟨#[]⟩] := (M1.out.alloc _).grown hgr (fun e => M3.out e.symm)
            have d2 := hb2.cell 1
            have d3 := hb2.frozen 1
            simp at d2
            obtain ⟨g2, cap2, hv2, _⟩ := hown.form (by omega)
            have HST2 := Lib.hid hst2
            clear hst2 hb2 hown hgr hat d1 hin hrd hcw hg
            subst hv2
            go_wp2_with fail
            go_roundg (gk - 1)
            case measure => omega
            case rel =>
              have hq3 : p + 1 ≤ q2 := by
                obtain ⟨e1, _⟩ := rd_sound wd n x _ _ _ hxs HO1.out
                have hl := congrArg List.length e1
                rw [← HR2.out] at hl
                simp only [List.length_drop, List.length_append, Array.length_toList] at hl
                have hs : S.data.size = S.size := rfl
                omega
              exact ⟨i + 1, done' ++ [k], q2, _, ps' ++ [b], by omega, by go_num, HST2.out, (by simp; omega), hq3, by show o = _; rw [HF'.out, HX.out, fin_some HO1.out, HR2.out]⟩
        · have hie : i = List.length ws := by omega
          have hrl : rb < w.heap.size := HR.out.lt
          have hq := HT'.out.q_le
          have d0 := HT'.out.rdr.cell 0
          have d1 := HT'.out.rdr.cell 1
          have d2 := HT'.out.node.cell 2
          have d3 := HT'.out.node.frozen 2
          simp at d0 d1 d2
          have hE : o = some (Pl.mk c done', S.data.toList.drop q') := by rw [HF'.out, hie, List.drop_of_length_le (Nat.le_refl _), fin_nil]
          have HE := Lib.hid hE
          clear hE hie
          go_wp2_with fail
          go_region
          go_wp2_with fail
          go_ret
          exact HT'.out.end_ hrl (by omega) hp hso HO.out HE.out 1

end Go.Proofs.Ytehpmglbbalelaa
