/- What a program can do, from all states. -/
import Derived.Test.YthdgheglmkhcbaaRi
import Derived.Test.YthdgheglmkhcbaaQt
import Derived.Test.YthdgheglmkhcbaaGy
namespace Go.Proofs.Ythdgheglmkhcbaa
open Go.RowKit
open Pl
set_option linter.unusedSimpArgs false

/-- cells told of, and the result's block -/
structure R4 (w W : World) (l : List (Addr × Value)) (r : Nat) : Prop where
  sit : Sit w W l
  res : Held2 W r
theorem R4.call {w W W' : World} {l : List (Addr × Value)} {r : Nat} (H : R4 w W l r) (hb : Below W.heap.size W W') : R4 w W' l r := ⟨H.sit.call hb, H.res.below hb H.res.lt⟩
theorem R4.drew {w W : World} {l : List (Addr × Value)} {r : Nat} (H : R4 w W l r) : R4 w W.drew l r := H.call (below_drew _ _)
theorem R4.get {w W : World} {l : List (Addr × Value)} {r : Nat} (H : R4 w W l r) {p : Addr} {v : Value} (h : (p, v) ∈ l) : W.cell? p = some v := H.sit.get h
theorem ext_from2 {l : List UInt8} (h : 1 ≤ l.length) : (bs l).extract 1 (bs l).size = bs (l.drop 1) :=
  extract_nd (l := l.drop 1) (r := []) (by rw [bs_list, List.append_nil]) (by rw [bs_size, List.length_drop]; omega)
theorem ext_to2 {l : List UInt8} (h : 1 ≤ l.length) : (bs l).extract 0 1 = bs (l.take 1) :=
  extract_nd (l := l.take 1) (r := l.drop 1) (by rw [bs_list, List.drop_zero, List.take_append_drop]) (by rw [List.length_take]; omega)
theorem full_lt : 134217727 < 134217728 := by decide
set_option maxRecDepth 100000 in
set_option maxHeartbeats 16000000 in
theorem run_s (S : ByteArray) (hS : S.size ≤ 1000000)  (hok : ok false 2 (Nd.n0 115) = true) (ht : S.data.toList = (Nd.n0 115).text) (w : World) : Calls Try.prog 151 #[.string S] w fun e w' => (e = .returned (.agg (av 29 (skF 27))) ∧ Below w.heap.size w w') := by
  have SK := Lib.hid (fun w => l4Skip_any w)
  have hz : S.size = (Nd.n0 115).text.length := by rw [← ht, len_S]
  have HD := Lib.hid (fun w => headS_any S hS false (Nd.n0 115) hok ht w)
  have PT := Lib.hid (fun w => partsS_any S hS false (Nd.n0 115) hok ht w)
  obtain ⟨hp0, hc0⟩ := op_at ht
  have hex : S.extract 1 (hd (Nd.n0 115)) = bs (headN (Nd.n0 115)) := by
    have h1 : S.data.toList.drop 1 = headN (Nd.n0 115) ++ flatN (prt (Nd.n0 115)) := by rw [ht, head_text]; rfl
    exact extract_nd h1 (by have := hd_head (Nd.n0 115); omega)
  have hd1 := hd_pos (Nd.n0 115)
  have hd2 : hd (Nd.n0 115) ≤ S.size := by rw [hz]; exact hd_le (Nd.n0 115)
  obtain ⟨h0, hh0⟩ : ∃ l, hd (Nd.n0 115) = l := ⟨_, rfl⟩
  rw [hh0] at HD hd1 hd2 hex
  have hhn : headN (Nd.n0 115) = [] := by first | rfl | simp [headN]
  rw [hhn] at hex
  have hpp : prt (Nd.n0 115) = [] := by first | rfl | simp [prt]
  rw [hpp] at PT
  have hc1 : S[0] = 115 := hc0
  clear hc0 hh0 hhn hpp hz hok ht
  have K0 := Lib.hid (Blk.new w 95 #[.int .i64 0, .int .i64 0, .int .i64 0, .int .i64 0, .int .i64 0, .int .i64 0, .int .i64 0, .int .i64 0, .int .i64 0, .int .i64 0, .int .i64 0, .int .i64 0, .int .i64 0, .int .i64 0, .int .i64 0, .int .i64 0, .int .i64 0, .int .i64 0, .int .i64 0, .int .i64 0, .int .i64 0, .int .i64 0, .int .i64 0, .int .i64 0, .int .i64 0, .int .i64 0, .int .i64 0, .int .i64 0, .int .i64 0])
  have B0 := Lib.hid (below_n w (.cells #[.int .i64 0, .int .i64 0, .int .i64 0, .int .i64 0, .int .i64 0, .int .i64 0, .int .i64 0, .int .i64 0, .int .i64 0, .int .i64 0, .int .i64 0, .int .i64 0, .int .i64 0, .int .i64 0, .int .i64 0, .int .i64 0, .int .i64 0, .int .i64 0, .int .i64 0, .int .i64 0, .int .i64 0, .int .i64 0, .int .i64 0, .int .i64 0, .int .i64 0, .int .i64 0, .int .i64 0, .int .i64 0, .int .i64 0] 95))
  obtain ⟨VF, hVF⟩ : ∃ V, av 29 (skF 27) = V := ⟨_, rfl⟩
  have SZF : Hid ((Try.prog.info? 95).map (·.size) = some VF.size ∧ 29 = VF.size ∧ VF.all (·.oneCell') = true) := ⟨by rw [← hVF, av_size]; exact all_size, by rw [← hVF, av_size], by rw [← hVF]; exact av_one _ _⟩
  rw [hVF] at SK ⊢
  clear hVF
  go_enter Try.func151, Try.ntmps151
  go_wp2_with fail
  refine (HD.out _).mono ?_
  rintro e w1 ⟨rfl, m, rfl⟩
  go_wp2_with fail
  refine (PT.out _).mono ?_
  rintro e w2 ⟨v, rfl, hown, hb2⟩
  obtain ⟨aa, cap, rfl, hcap, hsh⟩ := row_shape hown
  have H : R4 w w2 [] w.heap.size := ⟨⟨((B0.out.trans (below_drewN _ _ m)).trans (below_le hb2 (B0.out.trans (below_drewN w.heap.size _ m)).size)), fun p hp => absurd hp (by simp)⟩, (⟨_, rfl, ((K0.out.drewN m).below hb2 (K0.out.drewN m).lt)⟩ : Held2 w2 w.heap.size)⟩
  clear hown hb2 hsh HD PT K0 B0
  go_wp2_with fail
  refine (SK.out _).mono ?_
  rintro e w3 ⟨rfl, hb3⟩
  replace H := H.call hb3
  clear hb3 hc1
  obtain ⟨old, ho, k2⟩ := H.res
  have kE := k2.row VF
  have BE : Hid (Below w.heap.size w (w3.setRow w.heap.size VF)) := H.sit.below.trans (below_row (Nat.le_refl _) VF)
  have X := Lib.hid (And.intro k2 (And.intro (ho.trans SZF.out.2.1) kE))
  clear k2 ho kE H
  go_wp2_with (refine wpList_store_row rfl 95 (.tmp 2) (.tmp 16) rfl w.heap.size VF rfl rfl 95 old X.out.1 SZF.out.1 X.out.2.1 SZF.out.2.2 ?_)
  exact bodyPost_ret (v := .agg VF) (results_cell_row rfl _ _ w.heap.size 95 VF (0, 0) _ rfl X.out.2.2 Try.underlying95 rfl SZF.out.1) rfl ⟨rfl, BE.out⟩
set_option maxRecDepth 100000 in
set_option maxHeartbeats 16000000 in
theorem run_a (S : ByteArray) (hS : S.size ≤ 1000000) (v : UInt8) (ee : Nd) (hv : v ∈ nmsN) (he : ok false 0 ee = true) (hok : ok false 2 (Nd.n2 97 (.n0 v) ee) = true) (ht : S.data.toList = (Nd.n2 97 (.n0 v) ee).text) (w : World) : Calls Try.prog 151 #[.string S] w fun e w' => (e = .returned (.agg (av 29 (seF v ee 27))) ∧ Below w.heap.size w w') := by
  have hle : ee.text.length ≤ S.size := by rw [← len_S, ht]; simp [Nd.text]; omega
  have ST := Lib.hid (fun w => l4Set_any (bs ee.text) (by rw [bs_size]; omega) ee he (bs_list _) v hv w)
  have VN := Lib.hid (fun w => l1Var_any (bs [v]) (by rw [bs_size]; simp) w)
  have hvo : varNo (varOf (bs [v]).data.toList) = fnd nmsN v := by rw [bs_list, varOf_one hv]; rfl
  rw [hvo] at VN
  have VN0 : Hid (∀ w, Calls Try.prog 171 #[.string (bs [v])] w fun e w' => e = .returned (.int .i64 (fnd nmsN v)) ∧ Below w.heap.size w w') := fun w => (VN.out w).mono fun _ _ h => ⟨h.1, h.2 ▸ Below.refl _ _⟩
  have x1 : (bs (v :: ee.text)).extract 0 1 = bs [v] := ext_to2 (l := v :: ee.text) (by simp)
  have x2 : (bs (v :: ee.text)).extract 1 (bs (v :: ee.text)).size = bs ee.text := ext_from2 (l := v :: ee.text) (by simp)
  have hz1 : 1 ≤ (bs (v :: ee.text)).size := by rw [bs_size]; simp
  have hz2 : (1 : Int) ≤ ((bs (v :: ee.text)).size : Int) := by omega
  clear hvo VN hv he hle
  have hz : S.size = (Nd.n2 97 (.n0 v) ee).text.length := by rw [← ht, len_S]
  have HD := Lib.hid (fun w => headS_any S hS false (Nd.n2 97 (.n0 v) ee) hok ht w)
  have PT := Lib.hid (fun w => partsS_any S hS false (Nd.n2 97 (.n0 v) ee) hok ht w)
  obtain ⟨hp0, hc0⟩ := op_at ht
  have hex : S.extract 1 (hd (Nd.n2 97 (.n0 v) ee)) = bs (headN (Nd.n2 97 (.n0 v) ee)) := by
    have h1 : S.data.toList.drop 1 = headN (Nd.n2 97 (.n0 v) ee) ++ flatN (prt (Nd.n2 97 (.n0 v) ee)) := by rw [ht, head_text]; rfl
    exact extract_nd h1 (by have := hd_head (Nd.n2 97 (.n0 v) ee); omega)
  have hd1 := hd_pos (Nd.n2 97 (.n0 v) ee)
  have hd2 : hd (Nd.n2 97 (.n0 v) ee) ≤ S.size := by rw [hz]; exact hd_le (Nd.n2 97 (.n0 v) ee)
  obtain ⟨h0, hh0⟩ : ∃ l, hd (Nd.n2 97 (.n0 v) ee) = l := ⟨_, rfl⟩
  rw [hh0] at HD hd1 hd2 hex
  have hhn : headN (Nd.n2 97 (.n0 v) ee) = (v :: ee.text) := by first | rfl | simp [headN]
  rw [hhn] at hex
  have hpp : prt (Nd.n2 97 (.n0 v) ee) = [] := by first | rfl | simp [prt]
  rw [hpp] at PT
  have hc1 : S[0] = 97 := hc0
  clear hc0 hh0 hhn hpp hz hok ht
  generalize bs (v :: ee.text) = TT at *
  have K0 := Lib.hid (Blk.new w 95 #[.int .i64 0, .int .i64 0, .int .i64 0, .int .i64 0, .int .i64 0, .int .i64 0, .int .i64 0, .int .i64 0, .int .i64 0, .int .i64 0, .int .i64 0, .int .i64 0, .int .i64 0, .int .i64 0, .int .i64 0, .int .i64 0, .int .i64 0, .int .i64 0, .int .i64 0, .int .i64 0, .int .i64 0, .int .i64 0, .int .i64 0, .int .i64 0, .int .i64 0, .int .i64 0, .int .i64 0, .int .i64 0, .int .i64 0])
  have B0 := Lib.hid (below_n w (.cells #[.int .i64 0, .int .i64 0, .int .i64 0, .int .i64 0, .int .i64 0, .int .i64 0, .int .i64 0, .int .i64 0, .int .i64 0, .int .i64 0, .int .i64 0, .int .i64 0, .int .i64 0, .int .i64 0, .int .i64 0, .int .i64 0, .int .i64 0, .int .i64 0, .int .i64 0, .int .i64 0, .int .i64 0, .int .i64 0, .int .i64 0, .int .i64 0, .int .i64 0, .int .i64 0, .int .i64 0, .int .i64 0, .int .i64 0] 95))
  obtain ⟨VF, hVF⟩ : ∃ V, av 29 (seF v ee 27) = V := ⟨_, rfl⟩
  have SZF : Hid ((Try.prog.info? 95).map (·.size) = some VF.size ∧ 29 = VF.size ∧ VF.all (·.oneCell') = true) := ⟨by rw [← hVF, av_size]; exact all_size, by rw [← hVF, av_size], by rw [← hVF]; exact av_one _ _⟩
  rw [hVF] at ST ⊢
  clear hVF
  go_enter Try.func151, Try.ntmps151
  go_wp2_with fail
  refine (HD.out _).mono ?_
  rintro e w1 ⟨rfl, m, rfl⟩
  go_wp2_with fail
  refine (PT.out _).mono ?_
  rintro e w2 ⟨v, rfl, hown, hb2⟩
  obtain ⟨aa, cap, rfl, hcap, hsh⟩ := row_shape hown
  have H : R4 w w2 [] w.heap.size := ⟨⟨((B0.out.trans (below_drewN _ _ m)).trans (below_le hb2 (B0.out.trans (below_drewN w.heap.size _ m)).size)), fun p hp => absurd hp (by simp)⟩, (⟨_, rfl, ((K0.out.drewN m).below hb2 (K0.out.drewN m).lt)⟩ : Held2 w2 w.heap.size)⟩
  clear hown hb2 hsh HD PT K0 B0
  go_wp2_with fail
  clear hc1
  refine region_tail 6 (fun W => R4 w W [] w.heap.size) (by kernel_rfl) (by kernel_rfl) H.drew ?_
  simp only [List.take_succ_cons, List.take_zero, List.drop_succ_cons, List.drop_zero]
  repeat (first | go_big_quiet_skip | (go_big_quiet_want; first | (apply quiet_value; (· (intro W hW; skip; go_simp; exact rfl)); simp only [Act.put, List.setIfInBounds_toArray, List.set_cons_zero, List.set_cons_succ]; go_big_quiet_on) | (apply quiet_call; (· (intro W hW; go_simp; exact ⟨rfl, rfl⟩)); (· (intro W hW; first | with_reducible exact ((VN0.out W)).mono fun _ _ h => ⟨h.1, hW.call h.2⟩ | with_reducible exact ((ST.out W)).mono fun _ _ h => ⟨h.1, hW.call h.2⟩)); simp only [Act.put, List.setIfInBounds_toArray, List.set_cons_zero, List.set_cons_succ]; go_big_quiet_on)))
  refine wpQuiet_nil ?_
  intro wq hq
  clear H
  have H := hq
  clear hq
  obtain ⟨old, ho, k2⟩ := H.res
  have kE := k2.row VF
  have BE : Hid (Below w.heap.size w (wq.setRow w.heap.size VF)) := H.sit.below.trans (below_row (Nat.le_refl _) VF)
  have X := Lib.hid (And.intro k2 (And.intro (ho.trans SZF.out.2.1) kE))
  clear k2 ho kE H
  go_wp2_with (refine wpList_store_row rfl 95 (.tmp 2) (.tmp 24) rfl w.heap.size VF rfl rfl 95 old X.out.1 SZF.out.1 X.out.2.1 SZF.out.2.2 ?_)
  exact bodyPost_ret (v := .agg VF) (results_cell_row rfl _ _ w.heap.size 95 VF (0, 0) _ rfl X.out.2.2 Try.underlying95 rfl SZF.out.1) rfl ⟨rfl, BE.out⟩
set_option maxRecDepth 100000 in
set_option maxHeartbeats 16000000 in
theorem run_59 (S : ByteArray) (hS : S.size ≤ 1000000) (x y : Nd) (fx fy : Nat → Nat) (hx : M29 fx) (CX : ∀ w, Calls Try.prog 151 #[.string (bs x.text)] w fun e w' => (e = .returned (.agg (av 29 fx)) ∧ Below w.heap.size w w')) (hy : M29 fy) (CY : ∀ w, Calls Try.prog 151 #[.string (bs y.text)] w fun e w' => (e = .returned (.agg (av 29 fy)) ∧ Below w.heap.size w w')) (hok : ok false 2 (Nd.n2 59 x y) = true) (ht : S.data.toList = (Nd.n2 59 x y).text) (w : World) : Calls Try.prog 151 #[.string S] w fun e w' => (e = .returned (.agg (av 29 (sqN fx fy 729))) ∧ Below w.heap.size w w') := by
  have C1 := Lib.hid CX
  have C2 := Lib.hid CY
  have C3 := Lib.hid (fun w => l4Seq_any fx fy hx hy w)
  clear CX CY
  have hz : S.size = (Nd.n2 59 x y).text.length := by rw [← ht, len_S]
  have HD := Lib.hid (fun w => headS_any S hS false (Nd.n2 59 x y) hok ht w)
  have PT := Lib.hid (fun w => partsS_any S hS false (Nd.n2 59 x y) hok ht w)
  obtain ⟨hp0, hc0⟩ := op_at ht
  have hex : S.extract 1 (hd (Nd.n2 59 x y)) = bs (headN (Nd.n2 59 x y)) := by
    have h1 : S.data.toList.drop 1 = headN (Nd.n2 59 x y) ++ flatN (prt (Nd.n2 59 x y)) := by rw [ht, head_text]; rfl
    exact extract_nd h1 (by have := hd_head (Nd.n2 59 x y); omega)
  have hd1 := hd_pos (Nd.n2 59 x y)
  have hd2 : hd (Nd.n2 59 x y) ≤ S.size := by rw [hz]; exact hd_le (Nd.n2 59 x y)
  obtain ⟨h0, hh0⟩ : ∃ l, hd (Nd.n2 59 x y) = l := ⟨_, rfl⟩
  rw [hh0] at HD hd1 hd2 hex
  have hhn : headN (Nd.n2 59 x y) = [] := by first | rfl | simp [headN]
  rw [hhn] at hex
  have hpp : prt (Nd.n2 59 x y) = [x, y] := by first | rfl | simp [prt]
  rw [hpp] at PT
  have hc1 : S[0] = 59 := hc0
  clear hc0 hh0 hhn hpp hz hok ht
  have K0 := Lib.hid (Blk.new w 95 #[.int .i64 0, .int .i64 0, .int .i64 0, .int .i64 0, .int .i64 0, .int .i64 0, .int .i64 0, .int .i64 0, .int .i64 0, .int .i64 0, .int .i64 0, .int .i64 0, .int .i64 0, .int .i64 0, .int .i64 0, .int .i64 0, .int .i64 0, .int .i64 0, .int .i64 0, .int .i64 0, .int .i64 0, .int .i64 0, .int .i64 0, .int .i64 0, .int .i64 0, .int .i64 0, .int .i64 0, .int .i64 0, .int .i64 0])
  have B0 := Lib.hid (below_n w (.cells #[.int .i64 0, .int .i64 0, .int .i64 0, .int .i64 0, .int .i64 0, .int .i64 0, .int .i64 0, .int .i64 0, .int .i64 0, .int .i64 0, .int .i64 0, .int .i64 0, .int .i64 0, .int .i64 0, .int .i64 0, .int .i64 0, .int .i64 0, .int .i64 0, .int .i64 0, .int .i64 0, .int .i64 0, .int .i64 0, .int .i64 0, .int .i64 0, .int .i64 0, .int .i64 0, .int .i64 0, .int .i64 0, .int .i64 0] 95))
  obtain ⟨VF, hVF⟩ : ∃ V, av 29 (sqN fx fy 729) = V := ⟨_, rfl⟩
  have SZF : Hid ((Try.prog.info? 95).map (·.size) = some VF.size ∧ 29 = VF.size ∧ VF.all (·.oneCell') = true) := ⟨by rw [← hVF, av_size]; exact all_size, by rw [← hVF, av_size], by rw [← hVF]; exact av_one _ _⟩
  rw [hVF] at C3 ⊢
  clear hVF
  go_enter Try.func151, Try.ntmps151
  go_wp2_with fail
  refine (HD.out _).mono ?_
  rintro e w1 ⟨rfl, m, rfl⟩
  go_wp2_with fail
  refine (PT.out _).mono ?_
  rintro e w2 ⟨v, rfl, hown, hb2⟩
  obtain ⟨aa, cap, rfl, hcap, hsh⟩ := row_shape hown
  obtain ⟨g, rfl, hge, hgl⟩ := hsh (by simp)
  have H : R4 w w2 [(⟨g, 0, none⟩, .string (bs x.text)), (⟨g, 1, none⟩, .string (bs y.text))] w.heap.size := ⟨⟨((B0.out.trans (below_drewN _ _ m)).trans (below_le hb2 (B0.out.trans (below_drewN w.heap.size _ m)).size)), fun p hp => by
    simp only [List.mem_cons, List.not_mem_nil, or_false] at hp
    rcases hp with rfl | rfl
    · exact ⟨hgl, hown.cellAt 0 (by simp)⟩
    · exact ⟨hgl, hown.cellAt 1 (by simp)⟩⟩, (⟨_, rfl, ((K0.out.drewN m).below hb2 (K0.out.drewN m).lt)⟩ : Held2 w2 w.heap.size)⟩
  clear hown hb2 hsh HD PT K0 B0
  go_wp2_with fail
  clear hc1
  refine region_tail 9 (fun W => R4 w W [(⟨g, 0, none⟩, .string (bs x.text)), (⟨g, 1, none⟩, .string (bs y.text))] w.heap.size) (by kernel_rfl) (by kernel_rfl) H.drew ?_
  simp only [List.take_succ_cons, List.take_zero, List.drop_succ_cons, List.drop_zero]
  repeat (first | go_big_quiet_skip | (go_big_quiet_want; first | (apply quiet_value; (· (intro W hW; (have r0 := hW.get (.head _); have r1 := hW.get (.tail _ (.head _))); go_simp; exact rfl)); simp only [Act.put, List.setIfInBounds_toArray, List.set_cons_zero, List.set_cons_succ]; go_big_quiet_on) | (apply quiet_call; (· (intro W hW; go_simp; exact ⟨rfl, rfl⟩)); (· (intro W hW; first | with_reducible exact ((C1.out W)).mono fun _ _ h => ⟨h.1, hW.call h.2⟩ | with_reducible exact ((C2.out W)).mono fun _ _ h => ⟨h.1, hW.call h.2⟩ | with_reducible exact ((C3.out W)).mono fun _ _ h => ⟨h.1, hW.call h.2⟩)); simp only [Act.put, List.setIfInBounds_toArray, List.set_cons_zero, List.set_cons_succ]; go_big_quiet_on)))
  refine wpQuiet_nil ?_
  intro wq hq
  clear H
  have H := hq
  clear hq
  obtain ⟨old, ho, k2⟩ := H.res
  have kE := k2.row VF
  have BE : Hid (Below w.heap.size w (wq.setRow w.heap.size VF)) := H.sit.below.trans (below_row (Nat.le_refl _) VF)
  have X := Lib.hid (And.intro k2 (And.intro (ho.trans SZF.out.2.1) kE))
  clear k2 ho kE H
  go_wp2_with (refine wpList_store_row rfl 95 (.tmp 2) (.tmp 35) rfl w.heap.size VF rfl rfl 95 old X.out.1 SZF.out.1 X.out.2.1 SZF.out.2.2 ?_)
  exact bodyPost_ret (v := .agg VF) (results_cell_row rfl _ _ w.heap.size 95 VF (0, 0) _ rfl X.out.2.2 Try.underlying95 rfl SZF.out.1) rfl ⟨rfl, BE.out⟩
set_option maxRecDepth 100000 in
set_option maxHeartbeats 16000000 in
theorem run_47 (S : ByteArray) (hS : S.size ≤ 1000000) (x y : Nd) (fx fy : Nat → Nat) (hx : M29 fx) (CX : ∀ w, Calls Try.prog 151 #[.string (bs x.text)] w fun e w' => (e = .returned (.agg (av 29 fx)) ∧ Below w.heap.size w w')) (hy : M29 fy) (CY : ∀ w, Calls Try.prog 151 #[.string (bs y.text)] w fun e w' => (e = .returned (.agg (av 29 fy)) ∧ Below w.heap.size w w')) (hok : ok false 2 (Nd.n2 47 x y) = true) (ht : S.data.toList = (Nd.n2 47 x y).text) (w : World) : Calls Try.prog 151 #[.string S] w fun e w' => (e = .returned (.agg (av 29 (chN 134217727 134217727 (chL 134217727 134217727 (fx 27) (fy 27)) (chL 134217727 134217727 (fx 28) (fy 28)) fx fy 27))) ∧ Below w.heap.size w w') := by
  have C1 := Lib.hid CX
  have C2 := Lib.hid CY
  have C3 : Hid (∀ w, Calls Try.prog 173 #[.agg (av 29 fx), .agg (av 29 fy), .int .i64 134217727, .int .i64 134217727] w fun e w' => (e = .returned (.agg (av 29 (chN 134217727 134217727 (chL 134217727 134217727 (fx 27) (fy 27)) (chL 134217727 134217727 (fx 28) (fy 28)) fx fy 27))) ∧ Below w.heap.size w w')) := fun w => l4Choose_any fx fy hx hy 134217727 134217727 full_lt full_lt w
  clear CX CY
  have hz : S.size = (Nd.n2 47 x y).text.length := by rw [← ht, len_S]
  have HD := Lib.hid (fun w => headS_any S hS false (Nd.n2 47 x y) hok ht w)
  have PT := Lib.hid (fun w => partsS_any S hS false (Nd.n2 47 x y) hok ht w)
  obtain ⟨hp0, hc0⟩ := op_at ht
  have hex : S.extract 1 (hd (Nd.n2 47 x y)) = bs (headN (Nd.n2 47 x y)) := by
    have h1 : S.data.toList.drop 1 = headN (Nd.n2 47 x y) ++ flatN (prt (Nd.n2 47 x y)) := by rw [ht, head_text]; rfl
    exact extract_nd h1 (by have := hd_head (Nd.n2 47 x y); omega)
  have hd1 := hd_pos (Nd.n2 47 x y)
  have hd2 : hd (Nd.n2 47 x y) ≤ S.size := by rw [hz]; exact hd_le (Nd.n2 47 x y)
  obtain ⟨h0, hh0⟩ : ∃ l, hd (Nd.n2 47 x y) = l := ⟨_, rfl⟩
  rw [hh0] at HD hd1 hd2 hex
  have hhn : headN (Nd.n2 47 x y) = [] := by first | rfl | simp [headN]
  rw [hhn] at hex
  have hpp : prt (Nd.n2 47 x y) = [x, y] := by first | rfl | simp [prt]
  rw [hpp] at PT
  have hc1 : S[0] = 47 := hc0
  clear hc0 hh0 hhn hpp hz hok ht
  have K0 := Lib.hid (Blk.new w 95 #[.int .i64 0, .int .i64 0, .int .i64 0, .int .i64 0, .int .i64 0, .int .i64 0, .int .i64 0, .int .i64 0, .int .i64 0, .int .i64 0, .int .i64 0, .int .i64 0, .int .i64 0, .int .i64 0, .int .i64 0, .int .i64 0, .int .i64 0, .int .i64 0, .int .i64 0, .int .i64 0, .int .i64 0, .int .i64 0, .int .i64 0, .int .i64 0, .int .i64 0, .int .i64 0, .int .i64 0, .int .i64 0, .int .i64 0])
  have B0 := Lib.hid (below_n w (.cells #[.int .i64 0, .int .i64 0, .int .i64 0, .int .i64 0, .int .i64 0, .int .i64 0, .int .i64 0, .int .i64 0, .int .i64 0, .int .i64 0, .int .i64 0, .int .i64 0, .int .i64 0, .int .i64 0, .int .i64 0, .int .i64 0, .int .i64 0, .int .i64 0, .int .i64 0, .int .i64 0, .int .i64 0, .int .i64 0, .int .i64 0, .int .i64 0, .int .i64 0, .int .i64 0, .int .i64 0, .int .i64 0, .int .i64 0] 95))
  obtain ⟨VF, hVF⟩ : ∃ V, av 29 (chN 134217727 134217727 (chL 134217727 134217727 (fx 27) (fy 27)) (chL 134217727 134217727 (fx 28) (fy 28)) fx fy 27) = V := ⟨_, rfl⟩
  have SZF : Hid ((Try.prog.info? 95).map (·.size) = some VF.size ∧ 29 = VF.size ∧ VF.all (·.oneCell') = true) := ⟨by rw [← hVF, av_size]; exact all_size, by rw [← hVF, av_size], by rw [← hVF]; exact av_one _ _⟩
  rw [hVF] at C3 ⊢
  clear hVF
  go_enter Try.func151, Try.ntmps151
  go_wp2_with fail
  refine (HD.out _).mono ?_
  rintro e w1 ⟨rfl, m, rfl⟩
  go_wp2_with fail
  refine (PT.out _).mono ?_
  rintro e w2 ⟨v, rfl, hown, hb2⟩
  obtain ⟨aa, cap, rfl, hcap, hsh⟩ := row_shape hown
  obtain ⟨g, rfl, hge, hgl⟩ := hsh (by simp)
  have H : R4 w w2 [(⟨g, 0, none⟩, .string (bs x.text)), (⟨g, 1, none⟩, .string (bs y.text))] w.heap.size := ⟨⟨((B0.out.trans (below_drewN _ _ m)).trans (below_le hb2 (B0.out.trans (below_drewN w.heap.size _ m)).size)), fun p hp => by
    simp only [List.mem_cons, List.not_mem_nil, or_false] at hp
    rcases hp with rfl | rfl
    · exact ⟨hgl, hown.cellAt 0 (by simp)⟩
    · exact ⟨hgl, hown.cellAt 1 (by simp)⟩⟩, (⟨_, rfl, ((K0.out.drewN m).below hb2 (K0.out.drewN m).lt)⟩ : Held2 w2 w.heap.size)⟩
  clear hown hb2 hsh HD PT K0 B0
  go_wp2_with fail
  clear hc1
  refine region_tail 9 (fun W => R4 w W [(⟨g, 0, none⟩, .string (bs x.text)), (⟨g, 1, none⟩, .string (bs y.text))] w.heap.size) (by kernel_rfl) (by kernel_rfl) H.drew ?_
  simp only [List.take_succ_cons, List.take_zero, List.drop_succ_cons, List.drop_zero]
  repeat (first | go_big_quiet_skip | (go_big_quiet_want; first | (apply quiet_value; (· (intro W hW; (have r0 := hW.get (.head _); have r1 := hW.get (.tail _ (.head _))); go_simp; exact rfl)); simp only [Act.put, List.setIfInBounds_toArray, List.set_cons_zero, List.set_cons_succ]; go_big_quiet_on) | (apply quiet_call; (· (intro W hW; go_simp; exact ⟨rfl, rfl⟩)); (· (intro W hW; first | with_reducible exact ((C1.out W)).mono fun _ _ h => ⟨h.1, hW.call h.2⟩ | with_reducible exact ((C2.out W)).mono fun _ _ h => ⟨h.1, hW.call h.2⟩ | with_reducible exact ((C3.out W)).mono fun _ _ h => ⟨h.1, hW.call h.2⟩)); simp only [Act.put, List.setIfInBounds_toArray, List.set_cons_zero, List.set_cons_succ]; go_big_quiet_on)))
  refine wpQuiet_nil ?_
  intro wq hq
  clear H
  have H := hq
  clear hq
  obtain ⟨old, ho, k2⟩ := H.res
  have kE := k2.row VF
  have BE : Hid (Below w.heap.size w (wq.setRow w.heap.size VF)) := H.sit.below.trans (below_row (Nat.le_refl _) VF)
  have X := Lib.hid (And.intro k2 (And.intro (ho.trans SZF.out.2.1) kE))
  clear k2 ho kE H
  go_wp2_with (refine wpList_store_row rfl 95 (.tmp 2) (.tmp 46) rfl w.heap.size VF rfl rfl 95 old X.out.1 SZF.out.1 X.out.2.1 SZF.out.2.2 ?_)
  exact bodyPost_ret (v := .agg VF) (results_cell_row rfl _ _ w.heap.size 95 VF (0, 0) _ rfl X.out.2.2 Try.underlying95 rfl SZF.out.1) rfl ⟨rfl, BE.out⟩
set_option maxRecDepth 100000 in
set_option maxHeartbeats 16000000 in
theorem run_63 (S : ByteArray) (hS : S.size ≤ 1000000) (t x y : Nd) (htt : ok false 1 t = true) (fx fy : Nat → Nat) (hx : M29 fx) (CX : ∀ w, Calls Try.prog 151 #[.string (bs x.text)] w fun e w' => (e = .returned (.agg (av 29 fx)) ∧ Below w.heap.size w w')) (hy : M29 fy) (CY : ∀ w, Calls Try.prog 151 #[.string (bs y.text)] w fun e w' => (e = .returned (.agg (av 29 fy)) ∧ Below w.heap.size w w')) (hok : ok false 2 (Nd.n3 63 t x y) = true) (ht : S.data.toList = (Nd.n3 63 t x y).text) (w : World) : Calls Try.prog 151 #[.string S] w fun e w' => (e = .returned (.agg (av 29 (chN (msk (teB t) 27) (adn 134217727 (msk (teB t) 27)) (chL (msk (teB t) 27) (adn 134217727 (msk (teB t) 27)) (fx 27) (fy 27)) (chL (msk (teB t) 27) (adn 134217727 (msk (teB t) 27)) (fx 28) (fy 28)) fx fy 27))) ∧ Below w.heap.size w w') := by
  have hlt : t.text.length ≤ S.size := by rw [← len_S, ht]; simp only [Nd.text, List.length_cons, List.length_append]; omega
  have TE := Lib.hid (fun w => l4Test_any (bs t.text) (by rw [bs_size]; omega) t htt (bs_list _) w)
  have hml : msk (teB t) 27 < 134217728 := msk_lt _ _
  have had : bits BinOp.andNot IntKind.i64 134217727 ((msk (teB t) 27 : Nat) : Int) = (((adn 134217727 (msk (teB t) 27)) : Nat) : Int) := adn_int 134217727 _ full_lt hml
  clear hlt htt
  have C1 := Lib.hid CX
  have C2 := Lib.hid CY
  have C3 : Hid (∀ w, Calls Try.prog 173 #[.agg (av 29 fx), .agg (av 29 fy), .int .i64 ((msk (teB t) 27 : Nat) : Int), .int .i64 (bits BinOp.andNot IntKind.i64 134217727 ((msk (teB t) 27 : Nat) : Int))] w fun e w' => (e = .returned (.agg (av 29 (chN (msk (teB t) 27) (adn 134217727 (msk (teB t) 27)) (chL (msk (teB t) 27) (adn 134217727 (msk (teB t) 27)) (fx 27) (fy 27)) (chL (msk (teB t) 27) (adn 134217727 (msk (teB t) 27)) (fx 28) (fy 28)) fx fy 27))) ∧ Below w.heap.size w w')) := fun w => by
    rw [had]
    exact l4Choose_any fx fy hx hy _ _ hml (adn_lt _ full_lt) w
  clear CX CY had
  have hz : S.size = (Nd.n3 63 t x y).text.length := by rw [← ht, len_S]
  have HD := Lib.hid (fun w => headS_any S hS false (Nd.n3 63 t x y) hok ht w)
  have PT := Lib.hid (fun w => partsS_any S hS false (Nd.n3 63 t x y) hok ht w)
  obtain ⟨hp0, hc0⟩ := op_at ht
  have hex : S.extract 1 (hd (Nd.n3 63 t x y)) = bs (headN (Nd.n3 63 t x y)) := by
    have h1 : S.data.toList.drop 1 = headN (Nd.n3 63 t x y) ++ flatN (prt (Nd.n3 63 t x y)) := by rw [ht, head_text]; rfl
    exact extract_nd h1 (by have := hd_head (Nd.n3 63 t x y); omega)
  have hd1 := hd_pos (Nd.n3 63 t x y)
  have hd2 : hd (Nd.n3 63 t x y) ≤ S.size := by rw [hz]; exact hd_le (Nd.n3 63 t x y)
  obtain ⟨h0, hh0⟩ : ∃ l, hd (Nd.n3 63 t x y) = l := ⟨_, rfl⟩
  rw [hh0] at HD hd1 hd2 hex
  have hhn : headN (Nd.n3 63 t x y) = t.text := by first | rfl | simp [headN]
  rw [hhn] at hex
  have hpp : prt (Nd.n3 63 t x y) = [x, y] := by first | rfl | simp [prt]
  rw [hpp] at PT
  have hc1 : S[0] = 63 := hc0
  clear hc0 hh0 hhn hpp hz hok ht
  have K0 := Lib.hid (Blk.new w 95 #[.int .i64 0, .int .i64 0, .int .i64 0, .int .i64 0, .int .i64 0, .int .i64 0, .int .i64 0, .int .i64 0, .int .i64 0, .int .i64 0, .int .i64 0, .int .i64 0, .int .i64 0, .int .i64 0, .int .i64 0, .int .i64 0, .int .i64 0, .int .i64 0, .int .i64 0, .int .i64 0, .int .i64 0, .int .i64 0, .int .i64 0, .int .i64 0, .int .i64 0, .int .i64 0, .int .i64 0, .int .i64 0, .int .i64 0])
  have B0 := Lib.hid (below_n w (.cells #[.int .i64 0, .int .i64 0, .int .i64 0, .int .i64 0, .int .i64 0, .int .i64 0, .int .i64 0, .int .i64 0, .int .i64 0, .int .i64 0, .int .i64 0, .int .i64 0, .int .i64 0, .int .i64 0, .int .i64 0, .int .i64 0, .int .i64 0, .int .i64 0, .int .i64 0, .int .i64 0, .int .i64 0, .int .i64 0, .int .i64 0, .int .i64 0, .int .i64 0, .int .i64 0, .int .i64 0, .int .i64 0, .int .i64 0] 95))
  obtain ⟨VF, hVF⟩ : ∃ V, av 29 (chN (msk (teB t) 27) (adn 134217727 (msk (teB t) 27)) (chL (msk (teB t) 27) (adn 134217727 (msk (teB t) 27)) (fx 27) (fy 27)) (chL (msk (teB t) 27) (adn 134217727 (msk (teB t) 27)) (fx 28) (fy 28)) fx fy 27) = V := ⟨_, rfl⟩
  have SZF : Hid ((Try.prog.info? 95).map (·.size) = some VF.size ∧ 29 = VF.size ∧ VF.all (·.oneCell') = true) := ⟨by rw [← hVF, av_size]; exact all_size, by rw [← hVF, av_size], by rw [← hVF]; exact av_one _ _⟩
  rw [hVF] at C3 ⊢
  clear hVF
  go_enter Try.func151, Try.ntmps151
  go_wp2_with fail
  refine (HD.out _).mono ?_
  rintro e w1 ⟨rfl, m, rfl⟩
  go_wp2_with fail
  refine (PT.out _).mono ?_
  rintro e w2 ⟨v, rfl, hown, hb2⟩
  obtain ⟨aa, cap, rfl, hcap, hsh⟩ := row_shape hown
  obtain ⟨g, rfl, hge, hgl⟩ := hsh (by simp)
  have H : R4 w w2 [(⟨g, 0, none⟩, .string (bs x.text)), (⟨g, 1, none⟩, .string (bs y.text))] w.heap.size := ⟨⟨((B0.out.trans (below_drewN _ _ m)).trans (below_le hb2 (B0.out.trans (below_drewN w.heap.size _ m)).size)), fun p hp => by
    simp only [List.mem_cons, List.not_mem_nil, or_false] at hp
    rcases hp with rfl | rfl
    · exact ⟨hgl, hown.cellAt 0 (by simp)⟩
    · exact ⟨hgl, hown.cellAt 1 (by simp)⟩⟩, (⟨_, rfl, ((K0.out.drewN m).below hb2 (K0.out.drewN m).lt)⟩ : Held2 w2 w.heap.size)⟩
  clear hown hb2 hsh HD PT K0 B0
  go_wp2_with fail
  refine (TE.out _).mono ?_
  rintro e w3 ⟨rfl, hb3⟩
  replace H := H.call hb3
  clear hb3 TE
  go_wp2_with fail
  clear hc1
  refine region_tail 12 (fun W => R4 w W [(⟨g, 0, none⟩, .string (bs x.text)), (⟨g, 1, none⟩, .string (bs y.text))] w.heap.size) (by kernel_rfl) (by kernel_rfl) H.drew ?_
  simp only [List.take_succ_cons, List.take_zero, List.drop_succ_cons, List.drop_zero]
  repeat (first | go_big_quiet_skip | (go_big_quiet_want; first | (apply quiet_value; (· (intro W hW; (have r0 := hW.get (.head _); have r1 := hW.get (.tail _ (.head _))); go_simp; exact rfl)); simp only [Act.put, List.setIfInBounds_toArray, List.set_cons_zero, List.set_cons_succ]; go_big_quiet_on) | (apply quiet_call; (· (intro W hW; go_simp; exact ⟨rfl, rfl⟩)); (· (intro W hW; first | with_reducible exact ((C1.out W)).mono fun _ _ h => ⟨h.1, hW.call h.2⟩ | with_reducible exact ((C2.out W)).mono fun _ _ h => ⟨h.1, hW.call h.2⟩ | with_reducible exact ((C3.out W)).mono fun _ _ h => ⟨h.1, hW.call h.2⟩)); simp only [Act.put, List.setIfInBounds_toArray, List.set_cons_zero, List.set_cons_succ]; go_big_quiet_on)))
  refine wpQuiet_nil ?_
  intro wq hq
  clear H
  have H := hq
  clear hq
  obtain ⟨old, ho, k2⟩ := H.res
  have kE := k2.row VF
  have BE : Hid (Below w.heap.size w (wq.setRow w.heap.size VF)) := H.sit.below.trans (below_row (Nat.le_refl _) VF)
  have X := Lib.hid (And.intro k2 (And.intro (ho.trans SZF.out.2.1) kE))
  clear k2 ho kE H
  go_wp2_with (refine wpList_store_row rfl 95 (.tmp 2) (.tmp 64) rfl w.heap.size VF rfl rfl 95 old X.out.1 SZF.out.1 X.out.2.1 SZF.out.2.2 ?_)
  exact bodyPost_ret (v := .agg VF) (results_cell_row rfl _ _ w.heap.size 95 VF (0, 0) _ rfl X.out.2.2 Try.underlying95 rfl SZF.out.1) rfl ⟨rfl, BE.out⟩
set_option maxRecDepth 100000 in
set_option maxHeartbeats 16000000 in
theorem run_64 (S : ByteArray) (hS : S.size ≤ 1000000) (t x : Nd) (htt : ok false 1 t = true) (fx fw : Nat → Nat) (CX : ∀ w, Calls Try.prog 151 #[.string (bs x.text)] w fun e w' => (e = .returned (.agg (av 29 fx)) ∧ Below w.heap.size w w')) (CW : ∀ w, Calls Try.prog 175 #[.int .i64 ((msk (teB t) 27 : Nat) : Int), .agg (av 29 fx)] w fun e w' => (e = .returned (.agg (av 29 fw)) ∧ Below w.heap.size w w')) (hok : ok false 2 (Nd.n2 64 t x) = true) (ht : S.data.toList = (Nd.n2 64 t x).text) (w : World) : Calls Try.prog 151 #[.string S] w fun e w' => (e = .returned (.agg (av 29 fw)) ∧ Below w.heap.size w w') := by
  have hlt : t.text.length ≤ S.size := by rw [← len_S, ht]; simp only [Nd.text, List.length_cons, List.length_append]; omega
  have TE := Lib.hid (fun w => l4Test_any (bs t.text) (by rw [bs_size]; omega) t htt (bs_list _) w)
  have hml : msk (teB t) 27 < 134217728 := msk_lt _ _
  have had : bits BinOp.andNot IntKind.i64 134217727 ((msk (teB t) 27 : Nat) : Int) = (((adn 134217727 (msk (teB t) 27)) : Nat) : Int) := adn_int 134217727 _ full_lt hml
  clear hlt htt
  have C1 := Lib.hid CX
  have C2 := Lib.hid CW
  clear CX CW had
  have hz : S.size = (Nd.n2 64 t x).text.length := by rw [← ht, len_S]
  have HD := Lib.hid (fun w => headS_any S hS false (Nd.n2 64 t x) hok ht w)
  have PT := Lib.hid (fun w => partsS_any S hS false (Nd.n2 64 t x) hok ht w)
  obtain ⟨hp0, hc0⟩ := op_at ht
  have hex : S.extract 1 (hd (Nd.n2 64 t x)) = bs (headN (Nd.n2 64 t x)) := by
    have h1 : S.data.toList.drop 1 = headN (Nd.n2 64 t x) ++ flatN (prt (Nd.n2 64 t x)) := by rw [ht, head_text]; rfl
    exact extract_nd h1 (by have := hd_head (Nd.n2 64 t x); omega)
  have hd1 := hd_pos (Nd.n2 64 t x)
  have hd2 : hd (Nd.n2 64 t x) ≤ S.size := by rw [hz]; exact hd_le (Nd.n2 64 t x)
  obtain ⟨h0, hh0⟩ : ∃ l, hd (Nd.n2 64 t x) = l := ⟨_, rfl⟩
  rw [hh0] at HD hd1 hd2 hex
  have hhn : headN (Nd.n2 64 t x) = t.text := by first | rfl | simp [headN]
  rw [hhn] at hex
  have hpp : prt (Nd.n2 64 t x) = [x] := by first | rfl | simp [prt]
  rw [hpp] at PT
  have hc1 : S[0] = 64 := hc0
  clear hc0 hh0 hhn hpp hz hok ht
  have K0 := Lib.hid (Blk.new w 95 #[.int .i64 0, .int .i64 0, .int .i64 0, .int .i64 0, .int .i64 0, .int .i64 0, .int .i64 0, .int .i64 0, .int .i64 0, .int .i64 0, .int .i64 0, .int .i64 0, .int .i64 0, .int .i64 0, .int .i64 0, .int .i64 0, .int .i64 0, .int .i64 0, .int .i64 0, .int .i64 0, .int .i64 0, .int .i64 0, .int .i64 0, .int .i64 0, .int .i64 0, .int .i64 0, .int .i64 0, .int .i64 0, .int .i64 0])
  have B0 := Lib.hid (below_n w (.cells #[.int .i64 0, .int .i64 0, .int .i64 0, .int .i64 0, .int .i64 0, .int .i64 0, .int .i64 0, .int .i64 0, .int .i64 0, .int .i64 0, .int .i64 0, .int .i64 0, .int .i64 0, .int .i64 0, .int .i64 0, .int .i64 0, .int .i64 0, .int .i64 0, .int .i64 0, .int .i64 0, .int .i64 0, .int .i64 0, .int .i64 0, .int .i64 0, .int .i64 0, .int .i64 0, .int .i64 0, .int .i64 0, .int .i64 0] 95))
  obtain ⟨VF, hVF⟩ : ∃ V, av 29 fw = V := ⟨_, rfl⟩
  have SZF : Hid ((Try.prog.info? 95).map (·.size) = some VF.size ∧ 29 = VF.size ∧ VF.all (·.oneCell') = true) := ⟨by rw [← hVF, av_size]; exact all_size, by rw [← hVF, av_size], by rw [← hVF]; exact av_one _ _⟩
  rw [hVF] at C2 ⊢
  clear hVF
  go_enter Try.func151, Try.ntmps151
  go_wp2_with fail
  refine (HD.out _).mono ?_
  rintro e w1 ⟨rfl, m, rfl⟩
  go_wp2_with fail
  refine (PT.out _).mono ?_
  rintro e w2 ⟨v, rfl, hown, hb2⟩
  obtain ⟨aa, cap, rfl, hcap, hsh⟩ := row_shape hown
  obtain ⟨g, rfl, hge, hgl⟩ := hsh (by simp)
  have H : R4 w w2 [(⟨g, 0, none⟩, .string (bs x.text))] w.heap.size := ⟨⟨((B0.out.trans (below_drewN _ _ m)).trans (below_le hb2 (B0.out.trans (below_drewN w.heap.size _ m)).size)), fun p hp => by
    simp only [List.mem_cons, List.not_mem_nil, or_false] at hp
    obtain rfl := hp
    · exact ⟨hgl, hown.cellAt 0 (by simp)⟩⟩, (⟨_, rfl, ((K0.out.drewN m).below hb2 (K0.out.drewN m).lt)⟩ : Held2 w2 w.heap.size)⟩
  clear hown hb2 hsh HD PT K0 B0
  go_wp2_with fail
  refine (TE.out _).mono ?_
  rintro e w3 ⟨rfl, hb3⟩
  replace H := H.call hb3
  clear hb3 TE
  have r0 := H.get (.head _)
  go_wp2_with fail
  clear hc1
  refine (C1.out _).mono ?_
  rintro e w4 ⟨rfl, hb4⟩
  replace H := H.call hb4
  clear hb4 r0
  go_wp2_with fail
  refine (C2.out _).mono ?_
  rintro e w5 ⟨rfl, hb5⟩
  replace H := H.call hb5
  clear hb5
  obtain ⟨old, ho, k2⟩ := H.res
  have kE := k2.row VF
  have BE : Hid (Below w.heap.size w (w5.setRow w.heap.size VF)) := H.sit.below.trans (below_row (Nat.le_refl _) VF)
  have X := Lib.hid (And.intro k2 (And.intro (ho.trans SZF.out.2.1) kE))
  clear k2 ho kE H
  go_wp2_with (refine wpList_store_row rfl 95 (.tmp 2) (.tmp 72) rfl w.heap.size VF rfl rfl 95 old X.out.1 SZF.out.1 X.out.2.1 SZF.out.2.2 ?_)
  exact bodyPost_ret (v := .agg VF) (results_cell_row rfl _ _ w.heap.size 95 VF (0, 0) _ rfl X.out.2.2 Try.underlying95 rfl SZF.out.1) rfl ⟨rfl, BE.out⟩
set_option maxRecDepth 100000 in
set_option maxHeartbeats 16000000 in
theorem run_126 (S : ByteArray) (hS : S.size ≤ 1000000) (t : Nd) (htt : ok false 1 t = true) (hok : ok false 2 (Nd.n1 126 t) = true) (ht : S.data.toList = (Nd.n1 126 t).text) (w : World) : Calls Try.prog 151 #[.string S] w fun e w' => (e = .returned (.agg (av 29 (chN (msk (teB t) 27) (adn 134217727 (msk (teB t) 27)) (chL (msk (teB t) 27) (adn 134217727 (msk (teB t) 27)) ((skF 27) 27) ((ltF 0 134217727) 27)) (chL (msk (teB t) 27) (adn 134217727 (msk (teB t) 27)) ((skF 27) 28) ((ltF 0 134217727) 28)) (skF 27) (ltF 0 134217727) 27))) ∧ Below w.heap.size w w') := by
  have hlt : t.text.length ≤ S.size := by rw [← len_S, ht]; simp only [Nd.text, List.length_cons, List.length_append]; omega
  have TE := Lib.hid (fun w => l4Test_any (bs t.text) (by rw [bs_size]; omega) t htt (bs_list _) w)
  have hml : msk (teB t) 27 < 134217728 := msk_lt _ _
  have had : bits BinOp.andNot IntKind.i64 134217727 ((msk (teB t) 27 : Nat) : Int) = (((adn 134217727 (msk (teB t) 27)) : Nat) : Int) := adn_int 134217727 _ full_lt hml
  clear hlt htt
  have SK := Lib.hid (fun w => l4Skip_any w)
  have hlav : #[.int .i64 0, .int .i64 0, .int .i64 0, .int .i64 0, .int .i64 0, .int .i64 0, .int .i64 0, .int .i64 0, .int .i64 0, .int .i64 0, .int .i64 0, .int .i64 0, .int .i64 0, .int .i64 0, .int .i64 0, .int .i64 0, .int .i64 0, .int .i64 0, .int .i64 0, .int .i64 0, .int .i64 0, .int .i64 0, .int .i64 0, .int .i64 0, .int .i64 0, .int .i64 0, .int .i64 0, .int .i64 (0), .int .i64 (134217727)] = av 29 (ltF 0 134217727) := lt_av 0 134217727
  have C3 : Hid (∀ w, Calls Try.prog 173 #[.agg (av 29 (skF 27)), .agg #[.int .i64 0, .int .i64 0, .int .i64 0, .int .i64 0, .int .i64 0, .int .i64 0, .int .i64 0, .int .i64 0, .int .i64 0, .int .i64 0, .int .i64 0, .int .i64 0, .int .i64 0, .int .i64 0, .int .i64 0, .int .i64 0, .int .i64 0, .int .i64 0, .int .i64 0, .int .i64 0, .int .i64 0, .int .i64 0, .int .i64 0, .int .i64 0, .int .i64 0, .int .i64 0, .int .i64 0, .int .i64 (0), .int .i64 (134217727)], .int .i64 ((msk (teB t) 27 : Nat) : Int), .int .i64 (bits BinOp.andNot IntKind.i64 134217727 ((msk (teB t) 27 : Nat) : Int))] w fun e w' => (e = .returned (.agg (av 29 (chN (msk (teB t) 27) (adn 134217727 (msk (teB t) 27)) (chL (msk (teB t) 27) (adn 134217727 (msk (teB t) 27)) ((skF 27) 27) ((ltF 0 134217727) 27)) (chL (msk (teB t) 27) (adn 134217727 (msk (teB t) 27)) ((skF 27) 28) ((ltF 0 134217727) 28)) (skF 27) (ltF 0 134217727) 27))) ∧ Below w.heap.size w w')) := fun w => by
    rw [had, hlav]
    exact l4Choose_any (skF 27) (ltF 0 134217727) skF_small (ltF_small (by decide) full_lt) _ _ hml (adn_lt _ full_lt) w
  clear had hlav
  have hz : S.size = (Nd.n1 126 t).text.length := by rw [← ht, len_S]
  have HD := Lib.hid (fun w => headS_any S hS false (Nd.n1 126 t) hok ht w)
  have PT := Lib.hid (fun w => partsS_any S hS false (Nd.n1 126 t) hok ht w)
  obtain ⟨hp0, hc0⟩ := op_at ht
  have hex : S.extract 1 (hd (Nd.n1 126 t)) = bs (headN (Nd.n1 126 t)) := by
    have h1 : S.data.toList.drop 1 = headN (Nd.n1 126 t) ++ flatN (prt (Nd.n1 126 t)) := by rw [ht, head_text]; rfl
    exact extract_nd h1 (by have := hd_head (Nd.n1 126 t); omega)
  have hd1 := hd_pos (Nd.n1 126 t)
  have hd2 : hd (Nd.n1 126 t) ≤ S.size := by rw [hz]; exact hd_le (Nd.n1 126 t)
  obtain ⟨h0, hh0⟩ : ∃ l, hd (Nd.n1 126 t) = l := ⟨_, rfl⟩
  rw [hh0] at HD hd1 hd2 hex
  have hhn : headN (Nd.n1 126 t) = t.text := by first | rfl | simp [headN]
  rw [hhn] at hex
  have hpp : prt (Nd.n1 126 t) = [] := by first | rfl | simp [prt]
  rw [hpp] at PT
  have hc1 : S[0] = 126 := hc0
  clear hc0 hh0 hhn hpp hz hok ht
  have K0 := Lib.hid (Blk.new w 95 #[.int .i64 0, .int .i64 0, .int .i64 0, .int .i64 0, .int .i64 0, .int .i64 0, .int .i64 0, .int .i64 0, .int .i64 0, .int .i64 0, .int .i64 0, .int .i64 0, .int .i64 0, .int .i64 0, .int .i64 0, .int .i64 0, .int .i64 0, .int .i64 0, .int .i64 0, .int .i64 0, .int .i64 0, .int .i64 0, .int .i64 0, .int .i64 0, .int .i64 0, .int .i64 0, .int .i64 0, .int .i64 0, .int .i64 0])
  have B0 := Lib.hid (below_n w (.cells #[.int .i64 0, .int .i64 0, .int .i64 0, .int .i64 0, .int .i64 0, .int .i64 0, .int .i64 0, .int .i64 0, .int .i64 0, .int .i64 0, .int .i64 0, .int .i64 0, .int .i64 0, .int .i64 0, .int .i64 0, .int .i64 0, .int .i64 0, .int .i64 0, .int .i64 0, .int .i64 0, .int .i64 0, .int .i64 0, .int .i64 0, .int .i64 0, .int .i64 0, .int .i64 0, .int .i64 0, .int .i64 0, .int .i64 0] 95))
  obtain ⟨VF, hVF⟩ : ∃ V, av 29 (chN (msk (teB t) 27) (adn 134217727 (msk (teB t) 27)) (chL (msk (teB t) 27) (adn 134217727 (msk (teB t) 27)) ((skF 27) 27) ((ltF 0 134217727) 27)) (chL (msk (teB t) 27) (adn 134217727 (msk (teB t) 27)) ((skF 27) 28) ((ltF 0 134217727) 28)) (skF 27) (ltF 0 134217727) 27) = V := ⟨_, rfl⟩
  have SZF : Hid ((Try.prog.info? 95).map (·.size) = some VF.size ∧ 29 = VF.size ∧ VF.all (·.oneCell') = true) := ⟨by rw [← hVF, av_size]; exact all_size, by rw [← hVF, av_size], by rw [← hVF]; exact av_one _ _⟩
  rw [hVF] at C3 ⊢
  clear hVF
  go_enter Try.func151, Try.ntmps151
  go_wp2_with fail
  refine (HD.out _).mono ?_
  rintro e w1 ⟨rfl, m, rfl⟩
  go_wp2_with fail
  refine (PT.out _).mono ?_
  rintro e w2 ⟨v, rfl, hown, hb2⟩
  obtain ⟨aa, cap, rfl, hcap, hsh⟩ := row_shape hown
  have H : R4 w w2 [] w.heap.size := ⟨⟨((B0.out.trans (below_drewN _ _ m)).trans (below_le hb2 (B0.out.trans (below_drewN w.heap.size _ m)).size)), fun p hp => absurd hp (by simp)⟩, (⟨_, rfl, ((K0.out.drewN m).below hb2 (K0.out.drewN m).lt)⟩ : Held2 w2 w.heap.size)⟩
  clear hown hb2 hsh HD PT K0 B0
  go_wp2_with fail
  refine (TE.out _).mono ?_
  rintro e w3 ⟨rfl, hb3⟩
  replace H := H.call hb3
  clear hb3 TE
  go_wp2_with fail
  clear hc1
  refine (SK.out _).mono ?_
  rintro e w4 ⟨rfl, hb4⟩
  replace H := H.call hb4
  clear hb4
  go_wp2_with fail
  refine (C3.out _).mono ?_
  rintro e w5 ⟨rfl, hb5⟩
  replace H := H.call hb5
  clear hb5
  obtain ⟨old, ho, k2⟩ := H.res
  have kE := k2.row VF
  have BE : Hid (Below w.heap.size w (w5.setRow w.heap.size VF)) := H.sit.below.trans (below_row (Nat.le_refl _) VF)
  have X := Lib.hid (And.intro k2 (And.intro (ho.trans SZF.out.2.1) kE))
  clear k2 ho kE H
  go_wp2_with (refine wpList_store_row rfl 95 (.tmp 2) (.tmp 78) rfl w.heap.size VF rfl rfl 95 old X.out.1 SZF.out.1 X.out.2.1 SZF.out.2.2 ?_)
  exact bodyPost_ret (v := .agg VF) (results_cell_row rfl _ _ w.heap.size 95 VF (0, 0) _ rfl X.out.2.2 Try.underlying95 rfl SZF.out.1) rfl ⟨rfl, BE.out⟩
theorem l4Run_any : ∀ (n : Nat) (k : Nd) (S : ByteArray), S.data.toList = k.text → k.text.length ≤ n → S.size ≤ 1000000 → ok false 2 k = true →
    ∃ f, M29 f ∧ ∀ w, Calls Try.prog 151 #[.string S] w fun e w' => (e = .returned (.agg (av 29 f)) ∧ Below w.heap.size w w') := by
  intro n
  induction n with
  | zero => intro k S _ h; have := text_pos k; omega
  | succ n ih =>
    intro k S ht hl hS hok
    have hz : S.size = k.text.length := by rw [← ht, len_S]
    have hrec : ∀ x ∈ prt k, ∃ f, M29 f ∧ ∀ w, Calls Try.prog 151 #[.string (bs x.text)] w fun e w' => (e = .returned (.agg (av 29 f)) ∧ Below w.heap.size w w') := fun x hx => by
      have := prt_short hx
      exact ih x (bs x.text) (bs_list _) (by omega) (by rw [bs_size]; omega) (prt_ok hok x hx)
    rcases ok2_head hok with rfl | ⟨v, e, rfl, hv, he⟩ | ⟨o, x, y, rfl, ho, hx, hy⟩ | ⟨t, x, y, rfl, htt, hx, hy⟩ | ⟨t, x, rfl, htt, hx⟩ | ⟨t, rfl, htt⟩
    · exact ⟨_, skF_small, fun w => run_s S hS hok ht w⟩
    · exact ⟨_, seF_small v e, fun w => run_a S hS v e (mem_nms.2 hv) he hok ht w⟩
    · rcases ho with rfl | rfl
      · obtain ⟨fx, mx, CX⟩ := hrec x (by simp [prt])
        obtain ⟨fy, my, CY⟩ := hrec y (by simp [prt])
        exact ⟨_, sqN_small mx my 729 (Nat.le_refl _), fun w => run_59 S hS x y fx fy mx CX my CY hok ht w⟩
      · obtain ⟨fx, mx, CX⟩ := hrec x (by simp [prt])
        obtain ⟨fy, my, CY⟩ := hrec y (by simp [prt])
        exact ⟨_, chN_small mx my (chL_lt (mx 27 (by omega)) (my 27 (by omega))) (chL_lt (mx 28 (by omega)) (my 28 (by omega))) 27 (Nat.le_refl _), fun w => run_47 S hS x y fx fy mx CX my CY hok ht w⟩
    · obtain ⟨fx, mx, CX⟩ := hrec x (by simp [prt])
      obtain ⟨fy, my, CY⟩ := hrec y (by simp [prt])
      exact ⟨_, chN_small mx my (chL_lt (mx 27 (by omega)) (my 27 (by omega))) (chL_lt (mx 28 (by omega)) (my 28 (by omega))) 27 (Nat.le_refl _), fun w => run_63 S hS t x y htt fx fy mx CX my CY hok ht w⟩
    · obtain ⟨fx, mx, CX⟩ := hrec x (by simp [prt])
      obtain ⟨fw, mw, CW⟩ := l4While_any fx mx (msk (teB t) 27) (msk_lt _ _)
      exact ⟨fw, mw, fun w => run_64 S hS t x htt fx fw CX CW hok ht w⟩
    · exact ⟨_, chN_small skF_small (ltF_small (by decide) full_lt) (chL_lt (skF_small 27 (by omega)) (ltF_small (by decide) full_lt 27 (by omega))) (chL_lt (skF_small 28 (by omega)) (ltF_small (by decide) full_lt 28 (by omega))) 27 (Nat.le_refl _), fun w => run_126 S hS t htt hok ht w⟩

end Go.Proofs.Ythdgheglmkhcbaa
