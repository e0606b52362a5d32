/- The rewriting of two assignments to one, the program's and the reference's. -/
import Derived.Test.YtndlhdmpfnadcaaDoorGw
import Derived.Test.YtndlhdmpfnadcaaDoorSub
import Derived.Test.YtndlhdmpfnadcaaDoorGb
import Derived.BigQuiet
namespace Go.Proofs.YtndlhdmpfnadcaaDoor
open Go.RowKit
open Pl
set_option linter.unusedVariables false
set_option linter.unusedSimpArgs false

theorem setsN_nx {x y : Nd} (h : x.op ≠ 97) : setsN (.n2 59 x y) = none := by
  cases x with
  | n2 p a e =>
    cases a with
    | n0 v =>
      cases y with
      | n2 q b f =>
        cases b with
        | n0 u =>
          have h1 : p ≠ 97 := h
          simp [setsN, h1]
        | n1 | n2 | n3 => rfl
      | n0 | n1 | n3 => rfl
    | n1 | n2 | n3 => rfl
  | n0 | n1 | n3 => rfl
theorem setsN_ny {x y : Nd} (h : y.op ≠ 97) : setsN (.n2 59 x y) = none := by
  cases x with
  | n2 p a e =>
    cases a with
    | n0 v =>
      cases y with
      | n2 q b f =>
        cases b with
        | n0 u =>
          have h1 : q ≠ 97 := h
          simp [setsN, h1]
        | n1 | n2 | n3 => rfl
      | n0 | n1 | n3 => rfl
    | n1 | n2 | n3 => rfl
  | n0 | n1 | n3 => rfl
theorem setsN_47 (x y : Nd) : setsN (.n2 47 x y) = none := by
  cases x with
  | n2 p a e =>
    cases a with
    | n0 v =>
      cases y with
      | n2 q b f =>
        cases b with
        | n0 u => simp [setsN]
        | n1 | n2 | n3 => rfl
      | n0 | n1 | n3 => rfl
    | n1 | n2 | n3 => rfl
  | n0 | n1 | n3 => rfl
theorem setsN_97 (v : Nd) (e : Nd) : setsN (.n2 97 v e) = none := by
  cases v with
  | n2 p a e2 =>
    cases a with
    | n0 v =>
      cases e with
      | n2 q b f =>
        cases b with
        | n0 u => simp [setsN]
        | n1 | n2 | n3 => rfl
      | n0 | n1 | n3 => rfl
    | n1 | n2 | n3 => rfl
  | n0 | n1 | n3 => rfl
theorem setsN_64 (v : Nd) (e : Nd) : setsN (.n2 64 v e) = none := by
  cases v with
  | n2 p a e2 =>
    cases a with
    | n0 v =>
      cases e with
      | n2 q b f =>
        cases b with
        | n0 u => simp [setsN]
        | n1 | n2 | n3 => rfl
      | n0 | n1 | n3 => rfl
    | n1 | n2 | n3 => rfl
  | n0 | n1 | n3 => rfl
theorem setsN_yes (v : UInt8) (e f : Nd) : setsN (.n2 59 (.n2 97 (.n0 v) e) (.n2 97 (.n0 v) f)) = some (.n2 97 (.n0 v) (subN v e f)) := by simp [setsN]
theorem setsN_no {v u : UInt8} (h : v ≠ u) (e f : Nd) : setsN (.n2 59 (.n2 97 (.n0 v) e) (.n2 97 (.n0 u) f)) = none := by simp [setsN, h]
theorem sets_text {v : UInt8} {e f : Nd} (hv : isV false v = true) (he : ok false 0 e = true) (hf : ok false 0 f = true) : bs (Nd.n2 97 (.n0 v) (subN v e f)).text = (⟨#[97]⟩ : ByteArray) ++ bs (Nd.n0 v).text ++ bs (sub v e.text f.text) := by
  have h := (sub_ok hv he (k := f) (s := 0) (by omega) hf).2
  rw [← h, show (⟨#[97]⟩ : ByteArray) = bs [97] from rfl, bs_app, bs_app]
  rfl
theorem op_97 {k : Nd} (hk : ok false 2 k = true) : (∃ v e, k = .n2 97 (.n0 v) e ∧ isV false v = true ∧ ok false 0 e = true) ∨ k.op ≠ 97 := by
  rcases ok2_head hk with rfl | ⟨v, e, rfl, hv, he⟩ | ⟨o, a, b, rfl, ho, ha, hb⟩ | ⟨t, a, b, rfl, h1, h2, h3⟩ | ⟨t, a, rfl, h1, h2⟩ | ⟨t, rfl, h1⟩
  · exact .inr (by decide)
  · exact .inl ⟨v, e, rfl, hv, he⟩
  · exact .inr (by rcases ho with rfl | rfl <;> simp [Nd.op])
  · exact .inr (by simp [Nd.op])
  · exact .inr (by simp [Nd.op])
  · exact .inr (by simp [Nd.op])
theorem set_facts (v : UInt8) (e : Nd) : ∃ X : ByteArray, bs (Nd.n2 97 (.n0 v) e).text = X ∧ X.size = 2 + e.text.length ∧ (∃ h : 0 < X.size, X[0] = 97) ∧ (∃ h : 1 < X.size, X[1] = v) ∧ X.extract 1 2 = bs (Nd.n0 v).text ∧ X.extract 2 X.size = bs e.text := by
  have hl : (Nd.n2 97 (.n0 v) e).text = 97 :: v :: e.text := rfl
  have hz : (bs (Nd.n2 97 (.n0 v) e).text).size = 2 + e.text.length := by rw [bs_size, hl]; simp; omega
  refine ⟨_, rfl, hz, ⟨by omega, rfl⟩, ⟨by omega, rfl⟩, ?_, ?_⟩
  · exact (extract_text (S := bs (Nd.n2 97 (.n0 v) e).text) (p := 1) (q := 2) (t := [v]) (by omega) (by rw [bs_list, hl]; rfl) (by omega)).2
  · have := (extract_text (S := bs (Nd.n2 97 (.n0 v) e).text) (p := 2) (q := (bs (Nd.n2 97 (.n0 v) e).text).size) (t := e.text) (by omega) (by rw [bs_list, hz, hl]; simp; omega) (by omega)).2
    exact this
set_option maxRecDepth 100000 in
set_option maxHeartbeats 8000000 in
theorem sets_any (k : Nd) (b : Nat) (w : World) (hok : ok false 2 k = true) (hl : k.text.length ≤ 1000) (hin : In w k b) (hm : Most w) :
    Calls Tryd.prog 20 #[.pointer (some ⟨b, 0, none⟩)] w fun e w' => (e = .returned (.tuple #[.string (bs (optT (setsN k))), .bool (setsN k).isSome]) ∧ Below w.heap.size w w') := by
  rcases ok2_head hok with rfl | ⟨v, e, rfl, hv, he⟩ | ⟨o, x, y, rfl, ho, ha, hb⟩ | ⟨t, x, y, rfl, h1, h2, h3⟩ | ⟨t, x, rfl, h1, h2⟩ | ⟨t, rfl, h1⟩
  · skip
    obtain ⟨_, h1, _⟩ := hin.op
    clear hin hok hl hm
    simp only [Nd.op, UInt8.reduceToNat] at h1
    first | simp only [optT, setsN, Option.isSome_none] | skip
    go_enter Tryd.func20, Tryd.ntmps20
    go_wp2_with fail
    go_ret2
    exact ⟨(by first | trivial | rfl), Below.refl _ _⟩
  · skip
    rw [setsN_97]
    obtain ⟨_, h1, _⟩ := hin.op
    clear hin hok hl hm
    simp only [Nd.op, UInt8.reduceToNat] at h1
    first | simp only [optT, setsN, Option.isSome_none] | skip
    go_enter Tryd.func20, Tryd.ntmps20
    go_wp2_with fail
    go_ret2
    exact ⟨(by first | trivial | rfl), Below.refl _ _⟩
  · rcases ho with rfl | rfl
    · obtain ⟨g, c, pb, qb, ⟨_, h1, h2, _⟩, _, hc, h5, h6, ip, iq⟩ := hin
      simp only [UInt8.reduceToNat] at h1
      simp only [Nd.text, List.length_cons, List.length_append] at hl
      rcases op_97 ha with ⟨v, e, rfl, hv, he⟩ | hx
      · rcases op_97 hb with ⟨u, f, rfl, hu, hf⟩ | hy
        · obtain ⟨g2, c2, p1, p2, ⟨_, k1, k2, _⟩, _, hc2, k5, k6, i1, i2⟩ := ip
          obtain ⟨g3, c3, r1, r2, ⟨_, l1, l2, _⟩, _, hc3, l5, l6, j1, j2⟩ := iq
          simp only [UInt8.reduceToNat] at k1 l1
          have t1 := i1.op.2.2
          have t2 := i2.op.2.2
          have t3 := j1.op.2.2
          have t4 := j2.op.2.2
          simp only [Nd.text, List.length_cons, List.length_append] at hl
          by_cases hvu : v = u
          · subst hvu
            have hr := sets_text hv he hf
            rw [setsN_yes]
            simp only [optT, Option.isSome_some]
            rw [hr]
            have RP := Lib.hid (fun w hm => replace_one (bs f.text) (bs e.text) v (by rw [bs_size]; omega) (by rw [bs_size]; omega) w hm)
            rw [bs_list, bs_list] at RP
            rw [show (⟨#[v]⟩ : ByteArray) = bs (Nd.n0 v).text from rfl] at RP
            have hsl : (bs (sub v e.text f.text)).size ≤ 2000000 := by
              rw [bs_size]
              have h1 := sub_len v e.text f.text
              have h2 : f.text.length * (e.text.length + 1) ≤ 1000 * 1001 := Nat.mul_le_mul (by omega) (by omega)
              omega
            have hvz : (bs (Nd.n0 v).text).size = 1 := rfl
            have M := Lib.hid hm
            have HA : ∀ n, Sit w (w.drewN n) [(⟨qb, 1, none⟩, .slice (some ⟨g3, 0, none⟩) 2 c3), (⟨g3, 1, none⟩, .pointer (some ⟨r2, 0, none⟩)), (⟨r2, 2, none⟩, .string (bs f.text)), (⟨pb, 1, none⟩, .slice (some ⟨g2, 0, none⟩) 2 c2), (⟨g2, 1, none⟩, .pointer (some ⟨p2, 0, none⟩)), (⟨p2, 2, none⟩, .string (bs e.text))] := fun n =>
              ((((((((Sit.refl w).more (p := ⟨p2, 2, none⟩) (World.block_lt_of_cell? _ _ t2) t2).more (p := ⟨g2, 1, none⟩) (World.block_lt_of_cell? _ _ k6) k6).more (p := ⟨pb, 1, none⟩) (World.block_lt_of_cell? _ _ k2) k2).more (p := ⟨r2, 2, none⟩) (World.block_lt_of_cell? _ _ t4) t4).more (p := ⟨g3, 1, none⟩) (World.block_lt_of_cell? _ _ l6) l6).more (p := ⟨qb, 1, none⟩) (World.block_lt_of_cell? _ _ l2) l2)).drewN n
            have HAH := Lib.hid HA
            clear hr hl hok ha hb hm i1 i2 j1 j2 hv he hf HA hu
            generalize bs (sub v e.text f.text) = R at *
            generalize bs (Nd.n0 v).text = V at *
            generalize bs f.text = FT at *
            generalize bs e.text = ET at *
            have z0 : ¬ (9223372036854775807 < 1 + V.size) := by omega
            have z1 : ¬ (9223372036854775807 < 1 + V.size + R.size) := by omega
            have q1 : (V.toList != V.toList) = false := by simp
            clear hvz hsl
            go_enter Tryd.func20, Tryd.ntmps20
            go_wp2_with fail
            go_quiet (fail)
            go_wp2_with fail
            refine region_class (fun W => Sit w W [(⟨qb, 1, none⟩, .slice (some ⟨g3, 0, none⟩) 2 c3), (⟨g3, 1, none⟩, .pointer (some ⟨r2, 0, none⟩)), (⟨r2, 2, none⟩, .string FT), (⟨pb, 1, none⟩, .slice (some ⟨g2, 0, none⟩) 2 c2), (⟨g2, 1, none⟩, .pointer (some ⟨p2, 0, none⟩)), (⟨p2, 2, none⟩, .string ET)]) (by kernel_rfl) (by kernel_rfl) (HAH.out _).drew ?_
            repeat (first | go_big_quiet_skip | (go_big_quiet_want; first | (apply quiet_value; (· (intro W hW; (obtain ⟨a0, a1, a2, a3, a4, a5⟩ := hW.c6); go_simp; exact rfl)); simp only [Act.put, List.setIfInBounds_toArray, List.set_cons_zero, List.set_cons_succ]; go_big_quiet_on) | (apply quiet_call; (· (intro W hW; go_simp; exact ⟨rfl, rfl⟩)); (· (intro W hW; first | with_reducible exact ((RP.out W (M.out.below hW.below))).mono fun _ _ h => ⟨h.1, hW.call h.2⟩)); simp only [Act.put, List.setIfInBounds_toArray, List.set_cons_zero, List.set_cons_succ]; go_big_quiet_on)))
            refine wpQuiet_nil ?_
            intro wq hq
            have HQ := hq
            clear hq
            go_wp2_with fail
            go_ret2
            exact ⟨(by first | trivial | rfl), HQ.below⟩
          · rw [setsN_no hvu]
            simp only [optT, Option.isSome_none]
            have q1 : ((bs (Nd.n0 v).text).toList != (bs (Nd.n0 u).text).toList) = true := by
              rw [bne_iff_ne, ByteArray.toList_eq, ByteArray.toList_eq, bs_list, bs_list]
              simp [Nd.text, hvu]
            have q2 : ((bs (Nd.n0 v).text).toList == (bs (Nd.n0 u).text).toList) = false := by simpa using q1
            clear hl hok ha hb hm i1 i2 j1 j2 hv he hf hu hvu t2 t4
            generalize bs (Nd.n0 v).text = V at *
            generalize bs (Nd.n0 u).text = U at *
            go_enter Tryd.func20, Tryd.ntmps20
            go_wp2_with fail
            go_quiet (fail)
            go_wp2_with fail
            go_ret2
            exact ⟨(by first | trivial | rfl), below_drewN _ _ _⟩
        · rw [setsN_ny hy]
          simp only [optT, Option.isSome_none]
          have k1 := ip.op.2.1
          have l1 := iq.op.2.1
          simp only [Nd.op, UInt8.reduceToNat] at k1
          have e1 := u8_ne 97 hy (by decide)
          simp only [Int.cast_ofNat_Int] at e1
          have e2 : ((y.op.toNat : Int) != 97) = true := by simpa using e1
          generalize y.op = yo at *
          clear hl hok ha hb hm ip iq hv he hy
          go_enter Tryd.func20, Tryd.ntmps20
          go_wp2_with fail
          go_ret2
          exact ⟨(by first | trivial | rfl), Below.refl _ _⟩
      · rw [setsN_nx hx]
        simp only [optT, Option.isSome_none]
        have k1 := ip.op.2.1
        have e1 := u8_ne 97 hx (by decide)
        simp only [Int.cast_ofNat_Int] at e1
        have e2 : ((x.op.toNat : Int) != 97) = true := by simpa using e1
        generalize x.op = xo at *
        clear hl hok ha hb hm ip iq hx
        go_enter Tryd.func20, Tryd.ntmps20
        go_wp2_with fail
        go_ret2
        exact ⟨(by first | trivial | rfl), Below.refl _ _⟩
    · skip
      rw [setsN_47]
      obtain ⟨_, h1, _⟩ := hin.op
      clear hin hok hl hm
      simp only [Nd.op, UInt8.reduceToNat] at h1
      first | simp only [optT, setsN, Option.isSome_none] | skip
      go_enter Tryd.func20, Tryd.ntmps20
      go_wp2_with fail
      go_ret2
      exact ⟨(by first | trivial | rfl), Below.refl _ _⟩
  · skip
    obtain ⟨_, h1, _⟩ := hin.op
    clear hin hok hl hm
    simp only [Nd.op, UInt8.reduceToNat] at h1
    first | simp only [optT, setsN, Option.isSome_none] | skip
    go_enter Tryd.func20, Tryd.ntmps20
    go_wp2_with fail
    go_ret2
    exact ⟨(by first | trivial | rfl), Below.refl _ _⟩
  · skip
    rw [setsN_64]
    obtain ⟨_, h1, _⟩ := hin.op
    clear hin hok hl hm
    simp only [Nd.op, UInt8.reduceToNat] at h1
    first | simp only [optT, setsN, Option.isSome_none] | skip
    go_enter Tryd.func20, Tryd.ntmps20
    go_wp2_with fail
    go_ret2
    exact ⟨(by first | trivial | rfl), Below.refl _ _⟩
  · skip
    obtain ⟨_, h1, _⟩ := hin.op
    clear hin hok hl hm
    simp only [Nd.op, UInt8.reduceToNat] at h1
    first | simp only [optT, setsN, Option.isSome_none] | skip
    go_enter Tryd.func20, Tryd.ntmps20
    go_wp2_with fail
    go_ret2
    exact ⟨(by first | trivial | rfl), Below.refl _ _⟩
set_option maxHeartbeats 2000000 in
theorem MergeSets_any (S : ByteArray) (hS : S.size ≤ 1000000000000) (w : World) (hm : Most w) : Calls Tryd.prog 11 #[.string S] w fun e w' => (e = .returned (.tuple #[.string (bs (optT (rewr setsN S.data.toList))), .bool (rewr setsN S.data.toList).isSome]) ∧ Below w.heap.size w w') := by
  have M0 := Lib.hid hm
  clear hm
  have AL : Calls Tryd.prog 19 #[.string S, .func (.func 20) #[] #[]] w fun e w' => (e = .returned (.tuple #[.string (bs (optT (rewr setsN S.data.toList))), .bool (rewr setsN S.data.toList).isSome]) ∧ Below w.heap.size w w') := by
    have R := Lib.hid (parseProg_any S hS w)
    cases ho : whole false 2 200 S.data.toList with
    | none =>
      have hr : rewr setsN S.data.toList = none := by simp [rewr, ho]
      rw [hr]
      rw [ho] at R
      clear ho hr
      simp only [optT, Option.isSome_none]
      go_enter Tryd.func19, Tryd.ntmps19
      go_wp2_with fail
      refine R.out.mono ?_
      rintro e w1 ⟨hb1, rfl⟩
      have B1 := Lib.hid hb1
      clear R hb1
      go_wp2_with fail
      go_ret2
      exact ⟨(by first | trivial | rfl), B1.out⟩
    | some k =>
      have hr : rewr setsN S.data.toList = keepS (setsN k) := by simp [rewr, ho]
      rw [hr]
      rw [ho] at R
      obtain ⟨hl, hk, ht⟩ := (whole_iff (by omega)).1 ho
      rw [ht] at hl
      have FX := Lib.hid (fun b w h hm => sets_any k b w hk (by omega) h hm)
      clear ho hr hl hk ht
      cases hN : setsN k with
      | none =>
        rw [hN] at FX
        clear hN
        simp only [optT, keepS, Option.isSome_none] at FX ⊢
        go_enter Tryd.func19, Tryd.ntmps19
        go_wp2_with fail
        refine R.out.mono ?_
        rintro e w1 ⟨hb1, b, rfl, hin⟩
        have B1 := Lib.hid hb1
        have I1 := Lib.hid hin
        clear R hb1 hin
        go_wp2_with fail
        refine (FX.out _ _ I1.out (M0.out.below B1.out)).mono ?_
        rintro e w2 ⟨rfl, hb2⟩
        have B2 := Lib.hid (below_2 B1.out hb2)
        clear hb2
        go_wp2_with fail
        go_ret2
        exact ⟨(by first | trivial | rfl), B2.out⟩
      | some k' =>
        rw [hN] at FX
        clear hN
        simp only [optT, keepS, Option.isSome_some] at FX ⊢
        have hz := bs_size k'.text
        by_cases h2 : k'.text.length ≤ 200
        · rw [if_pos h2]
          simp only [Option.isSome_some]
          have h3 : (bs k'.text).size ≤ 200 := by omega
          clear h2 hz
          generalize bs k'.text = K at *
          go_enter Tryd.func19, Tryd.ntmps19
          go_wp2_with fail
          refine R.out.mono ?_
          rintro e w1 ⟨hb1, b, rfl, hin⟩
          have B1 := Lib.hid hb1
          have I1 := Lib.hid hin
          clear R hb1 hin
          go_wp2_with fail
          refine (FX.out _ _ I1.out (M0.out.below B1.out)).mono ?_
          rintro e w2 ⟨rfl, hb2⟩
          have B2 := Lib.hid (below_2 B1.out hb2)
          clear hb2
          go_wp2_with fail
          go_ret2
          exact ⟨(by first | trivial | rfl), B2.out⟩
        · rw [if_neg h2]
          simp only [Option.isSome_none]
          have h3 : 200 < (bs k'.text).size := by omega
          clear h2 hz
          generalize bs k'.text = K at *
          go_enter Tryd.func19, Tryd.ntmps19
          go_wp2_with fail
          refine R.out.mono ?_
          rintro e w1 ⟨hb1, b, rfl, hin⟩
          have B1 := Lib.hid hb1
          have I1 := Lib.hid hin
          clear R hb1 hin
          go_wp2_with fail
          refine (FX.out _ _ I1.out (M0.out.below B1.out)).mono ?_
          rintro e w2 ⟨rfl, hb2⟩
          have B2 := Lib.hid (below_2 B1.out hb2)
          clear hb2
          go_wp2_with fail
          go_ret2
          exact ⟨(by first | trivial | rfl), B2.out⟩
  have AH := Lib.hid AL
  clear AL
  generalize (rewr setsN S.data.toList) = o at *
  go_enter Tryd.func11, Tryd.ntmps11
  go_wp2_with fail
  refine AH.out.mono ?_
  rintro e w1 ⟨rfl, hb1⟩
  have B1 := Lib.hid hb1
  clear hb1
  go_wp2_with fail
  go_ret2
  exact ⟨(by first | trivial | rfl), B1.out⟩
set_option maxRecDepth 100000 in
set_option maxHeartbeats 8000000 in
theorem l11Sets_any (S : ByteArray) (hS : S.size ≤ 1000) (k : Nd) (hk : ok false 2 k = true) (ht : S.data.toList = k.text) (w : World) :
    Calls Tryd.prog 41 #[.string S] w fun e w' => (e = .returned (.tuple #[.string (bs (optT (setsN k))), .bool (setsN k).isSome]) ∧ Below w.heap.size w w') := by
  have PT := Lib.hid (fun w => partsS_any S (by omega) false k hk ht w)
  obtain ⟨hp0, hc0⟩ := op_at ht
  have hlen : k.text.length ≤ 1000 := by rw [← ht, len_S]; exact hS
  have hSp : 0 < S.size := hp0
  rcases ok2_head hk with rfl | ⟨v, e, rfl, hv, he⟩ | ⟨o, a, b, rfl, ho, ha, hb⟩ | ⟨t, a, b, rfl, h1, h2, h3⟩ | ⟨t, a, rfl, h1, h2⟩ | ⟨t, rfl, h1⟩
  · skip
    simp only [Nd.op] at hc0
    clear ht hk
    try simp only [optT, setsN]
    try simp only [Option.isSome_none]
    go_enter Tryd.func41, Tryd.ntmps41
    go_wp2_with fail
    refine (PT.out _).mono ?_
    rintro e w1 ⟨v9, rfl, hown, hb9⟩
    have B1 := Lib.hid hb9
    clear hown hb9
    go_wp2_with fail
    go_quiet (fail)
    go_wp2_with fail
    go_ret2
    exact ⟨(by first | trivial | rfl), B1.out.trans (below_drewN _ _ _)⟩
  · skip
    rw [setsN_97]
    simp only [Nd.op] at hc0
    clear ht hk
    try simp only [optT, setsN]
    try simp only [Option.isSome_none]
    go_enter Tryd.func41, Tryd.ntmps41
    go_wp2_with fail
    refine (PT.out _).mono ?_
    rintro e w1 ⟨v9, rfl, hown, hb9⟩
    have B1 := Lib.hid hb9
    clear hown hb9
    go_wp2_with fail
    go_quiet (fail)
    go_wp2_with fail
    go_ret2
    exact ⟨(by first | trivial | rfl), B1.out.trans (below_drewN _ _ _)⟩
  · rcases ho with rfl | rfl
    · simp only [Nd.op] at hc0
      simp only [show prt (.n2 59 a b) = [a, b] from rfl] at PT
      simp only [Nd.text, List.length_cons, List.length_append] at hlen
      obtain ⟨hx0, hxc⟩ := op_at (S := bs a.text) (k := a) rfl
      obtain ⟨hy0, hyc⟩ := op_at (S := bs b.text) (k := b) rfl
      rcases op_97 ha with ⟨v, e, rfl, hv, he⟩ | hx
      · rcases op_97 hb with ⟨u, f, rfl, hu, hf⟩ | hy
        · obtain ⟨X, hX, xz, ⟨xh0, xc0⟩, ⟨xh1, xc1⟩, xe1, xe2⟩ := set_facts v e
          obtain ⟨Y, hY, yz, ⟨yh0, yc0⟩, ⟨yh1, yc1⟩, ye1, ye2⟩ := set_facts u f
          have GX := Lib.hid hX
          have GY := Lib.hid hY
          by_cases hvu : v = u
          · subst hvu
            have hr := sets_text hv he hf
            rw [setsN_yes]
            simp only [optT, Option.isSome_some]
            rw [hr]
            have SB := Lib.hid (fun w => l1Subst_any (bs f.text) (bs e.text) v (by rw [bs_size]; simp only [Nd.text, List.length_cons, List.length_append] at hlen; omega) (by rw [bs_size]; simp only [Nd.text, List.length_cons, List.length_append] at hlen; omega) w)
            rw [bs_list, bs_list] at SB
            have hsl : (bs (sub v e.text f.text)).size ≤ 2000000 := by
              simp only [Nd.text, List.length_cons, List.length_append] at hlen
              rw [bs_size]
              have h1 := sub_len v e.text f.text
              have h2 : f.text.length * (e.text.length + 1) ≤ 1000 * 1001 := Nat.mul_le_mul (by omega) (by omega)
              omega
            have hvz : (bs (Nd.n0 v).text).size = 1 := rfl
            have n2x : (2 : Int) ≤ (X.size : Int) := by omega
            have n1x : (1 : Int) < (X.size : Int) := by omega
            have n2y : (2 : Int) ≤ (Y.size : Int) := by omega
            have q1 : ((v.toNat : Int) != (v.toNat : Int)) = false := by simp
            clear hr hlen hk ht ha hb hX hY hx0 hxc hy0 hyc hv he hf hu ye1 xz yz
            generalize bs (sub v e.text f.text) = R at *
            generalize bs (Nd.n0 v).text = V at *
            generalize bs f.text = FT at *
            generalize bs e.text = ET at *
            have z0 : ¬ (9223372036854775807 < 1 + V.size) := by omega
            have z1 : ¬ (9223372036854775807 < 1 + V.size + R.size) := by omega
            clear hvz hsl
            go_enter Tryd.func41, Tryd.ntmps41
            go_wp2_with fail
            refine (PT.out _).mono ?_
            rintro e w1 ⟨v9, rfl, hown, hb9⟩
            obtain ⟨g, cap, rfl, hcap, hg, hg2⟩ := row_form hown (by simp)
            have c1 : w1.cell? ⟨g, 0, none⟩ = some (.string X) := by rw [← GX.out]; exact hown.cellAt 0 (by simp)
            have c2 : w1.cell? ⟨g, 1, none⟩ = some (.string Y) := by rw [← GY.out]; exact hown.cellAt 1 (by simp)
            simp only [List.length_cons, List.length_nil, Nat.zero_add] at hcap
            have B1 := Lib.hid hb9
            clear hown hb9 PT
            go_wp2_with fail
            go_quiet (fail)
            have HAH : Hid (∀ n, Sit w (w1.drewN n) [(⟨g, 0, none⟩, .string X), (⟨g, 1, none⟩, .string Y)]) := Lib.hid (fun n => (((⟨B1.out, fun p hp => by simp at hp⟩ : Sit w w1 []).more (p := ⟨g, 1, none⟩) hg c2).more (p := ⟨g, 0, none⟩) hg c1).drewN n)
            have SC := Lib.hid (fun W => (SB.out W).mono (fun e w' (h : e = .returned (.string R) ∧ W = w') => (⟨h.1, h.2 ▸ Below.refl _ _⟩ : e = .returned (.string R) ∧ Below W.heap.size W w')))
            clear SB
            go_wp2_with fail
            refine region_class (fun W => Sit w W [(⟨g, 0, none⟩, .string X), (⟨g, 1, none⟩, .string Y)]) (by kernel_rfl) (by kernel_rfl) (HAH.out _).drew ?_
            repeat (first | go_big_quiet_skip | (go_big_quiet_want; first | (apply quiet_value; (· (intro W hW; (have c1 := hW.get (.head _); have c2 := hW.get (.tail _ (.head _))); go_simp; exact rfl)); simp only [Act.put, List.setIfInBounds_toArray, List.set_cons_zero, List.set_cons_succ]; go_big_quiet_on) | (apply quiet_call; (· (intro W hW; go_simp; exact ⟨rfl, rfl⟩)); (· (intro W hW; first | with_reducible exact (SC.out W).mono fun _ _ h => ⟨h.1, hW.call h.2⟩)); simp only [Act.put, List.setIfInBounds_toArray, List.set_cons_zero, List.set_cons_succ]; go_big_quiet_on)))
            refine wpQuiet_nil ?_
            intro wq hq
            have HQ := hq
            clear hq
            go_wp2_with fail
            go_ret2
            exact ⟨(by first | trivial | rfl), HQ.below⟩
          · rw [setsN_no hvu]
            simp only [optT, Option.isSome_none]
            have hne : (u.toNat) ≠ (v.toNat) := fun h => hvu (UInt8.toNat_inj.1 h).symm
            have q1 : ((v.toNat : Int) != (u.toNat : Int)) = true := by
              rw [bne_iff_ne]
              intro h
              exact hne (by omega)
            have q2 : ((v.toNat : Int) == (u.toNat : Int)) = false := by
              rw [beq_eq_false_iff_ne]
              intro h
              exact hne (by omega)
            clear hlen hk ht ha hb hX hY hx0 hxc hy0 hyc hv he hf hu ye1 ye2 xe1 xe2 hvu hne
            go_enter Tryd.func41, Tryd.ntmps41
            go_wp2_with fail
            refine (PT.out _).mono ?_
            rintro e w1 ⟨v9, rfl, hown, hb9⟩
            obtain ⟨g, cap, rfl, hcap, hg, hg2⟩ := row_form hown (by simp)
            have c1 : w1.cell? ⟨g, 0, none⟩ = some (.string X) := by rw [← GX.out]; exact hown.cellAt 0 (by simp)
            have c2 : w1.cell? ⟨g, 1, none⟩ = some (.string Y) := by rw [← GY.out]; exact hown.cellAt 1 (by simp)
            simp only [List.length_cons, List.length_nil, Nat.zero_add] at hcap
            have B1 := Lib.hid hb9
            clear hown hb9 PT
            go_wp2_with fail
            go_quiet (fail)
            go_wp2_with fail
            go_ret2
            exact ⟨(by first | trivial | rfl), B1.out.trans (below_drewN _ _ _)⟩
        · rw [setsN_ny hy]
          simp only [optT, Option.isSome_none]
          simp only [Nd.op] at hxc
          have e1 := u8_ne 97 hy (by decide)
          simp only [Int.cast_ofNat_Int] at e1
          have e2 : ((b.op.toNat : Int) != 97) = true := by simpa using e1
          generalize b.op = yo at *
          clear hlen hk ht ha hb hv he hy
          generalize hX : bs (Nd.n2 97 (.n0 v) e).text = X at *
          have GX := Lib.hid hX
          clear hX
          generalize hY : bs b.text = Y at *
          have GY := Lib.hid hY
          clear hY
          go_enter Tryd.func41, Tryd.ntmps41
          go_wp2_with fail
          refine (PT.out _).mono ?_
          rintro e w1 ⟨v9, rfl, hown, hb9⟩
          obtain ⟨g, cap, rfl, hcap, hg, hg2⟩ := row_form hown (by simp)
          have c1 : w1.cell? ⟨g, 0, none⟩ = some (.string X) := by rw [← GX.out]; exact hown.cellAt 0 (by simp)
          have c2 : w1.cell? ⟨g, 1, none⟩ = some (.string Y) := by rw [← GY.out]; exact hown.cellAt 1 (by simp)
          simp only [List.length_cons, List.length_nil, Nat.zero_add] at hcap
          have B1 := Lib.hid hb9
          clear hown hb9 PT
          go_wp2_with fail
          go_quiet (fail)
          go_wp2_with fail
          go_ret2
          exact ⟨(by first | trivial | rfl), B1.out.trans (below_drewN _ _ _)⟩
      · rw [setsN_nx hx]
        simp only [optT, Option.isSome_none]
        have e1 := u8_ne 97 hx (by decide)
        simp only [Int.cast_ofNat_Int] at e1
        have e2 : ((a.op.toNat : Int) != 97) = true := by simpa using e1
        generalize a.op = xo at *
        clear hlen hk ht ha hb hx
        generalize hX : bs a.text = X at *
        have GX := Lib.hid hX
        clear hX
        generalize hY : bs b.text = Y at *
        have GY := Lib.hid hY
        clear hY
        go_enter Tryd.func41, Tryd.ntmps41
        go_wp2_with fail
        refine (PT.out _).mono ?_
        rintro e w1 ⟨v9, rfl, hown, hb9⟩
        obtain ⟨g, cap, rfl, hcap, hg, hg2⟩ := row_form hown (by simp)
        have c1 : w1.cell? ⟨g, 0, none⟩ = some (.string X) := by rw [← GX.out]; exact hown.cellAt 0 (by simp)
        have c2 : w1.cell? ⟨g, 1, none⟩ = some (.string Y) := by rw [← GY.out]; exact hown.cellAt 1 (by simp)
        simp only [List.length_cons, List.length_nil, Nat.zero_add] at hcap
        have B1 := Lib.hid hb9
        clear hown hb9 PT
        go_wp2_with fail
        go_quiet (fail)
        go_wp2_with fail
        go_ret2
        exact ⟨(by first | trivial | rfl), B1.out.trans (below_drewN _ _ _)⟩
    · skip
      rw [setsN_47]
      simp only [Nd.op] at hc0
      clear ht hk
      try simp only [optT, setsN]
      try simp only [Option.isSome_none]
      go_enter Tryd.func41, Tryd.ntmps41
      go_wp2_with fail
      refine (PT.out _).mono ?_
      rintro e w1 ⟨v9, rfl, hown, hb9⟩
      have B1 := Lib.hid hb9
      clear hown hb9
      go_wp2_with fail
      go_quiet (fail)
      go_wp2_with fail
      go_ret2
      exact ⟨(by first | trivial | rfl), B1.out.trans (below_drewN _ _ _)⟩
  · skip
    simp only [Nd.op] at hc0
    clear ht hk
    try simp only [optT, setsN]
    try simp only [Option.isSome_none]
    go_enter Tryd.func41, Tryd.ntmps41
    go_wp2_with fail
    refine (PT.out _).mono ?_
    rintro e w1 ⟨v9, rfl, hown, hb9⟩
    have B1 := Lib.hid hb9
    clear hown hb9
    go_wp2_with fail
    go_quiet (fail)
    go_wp2_with fail
    go_ret2
    exact ⟨(by first | trivial | rfl), B1.out.trans (below_drewN _ _ _)⟩
  · skip
    rw [setsN_64]
    simp only [Nd.op] at hc0
    clear ht hk
    try simp only [optT, setsN]
    try simp only [Option.isSome_none]
    go_enter Tryd.func41, Tryd.ntmps41
    go_wp2_with fail
    refine (PT.out _).mono ?_
    rintro e w1 ⟨v9, rfl, hown, hb9⟩
    have B1 := Lib.hid hb9
    clear hown hb9
    go_wp2_with fail
    go_quiet (fail)
    go_wp2_with fail
    go_ret2
    exact ⟨(by first | trivial | rfl), B1.out.trans (below_drewN _ _ _)⟩
  · skip
    simp only [Nd.op] at hc0
    clear ht hk
    try simp only [optT, setsN]
    try simp only [Option.isSome_none]
    go_enter Tryd.func41, Tryd.ntmps41
    go_wp2_with fail
    refine (PT.out _).mono ?_
    rintro e w1 ⟨v9, rfl, hown, hb9⟩
    have B1 := Lib.hid hb9
    clear hown hb9
    go_wp2_with fail
    go_quiet (fail)
    go_wp2_with fail
    go_ret2
    exact ⟨(by first | trivial | rfl), B1.out.trans (below_drewN _ _ _)⟩
set_option maxRecDepth 100000 in
set_option maxHeartbeats 4000000 in
theorem oneS_sets (S : ByteArray) (hS : S.size ≤ 1000) (k : Nd) (hk : ok false 2 k = true) (ht : S.data.toList = k.text) (w : World) :
    Calls Tryd.prog 30 #[.string S, .string ⟨#[115, 101, 116, 115]⟩] w fun e w' => (e = .returned (.tuple #[.string (bs (optT (setsN k))), .bool (setsN k).isSome]) ∧ Below w.heap.size w w') := by
  have PT := Lib.hid (fun w => partsS_any S (by omega) false k hk ht w)
  have SE := Lib.hid (fun w => l11Sets_any S hS k hk ht w)
  generalize setsN k = sk at *
  clear hk ht
  go_enter Tryd.func30, Tryd.ntmps30
  go_wp2_with fail
  refine (PT.out _).mono ?_
  rintro e w1 ⟨v9, rfl, hown, hb9⟩
  have B1 := Lib.hid hb9
  clear hown hb9
  go_wp2_with fail
  refine (SE.out _).mono ?_
  rintro e w2 ⟨rfl, hb2⟩
  have B2 := Lib.hid (below_2 B1.out hb2)
  clear hb2
  go_wp2_with fail
  go_ret2
  exact ⟨(by first | trivial | rfl), B2.out⟩
set_option maxHeartbeats 2000000 in
theorem MergeSetsS_any (S : ByteArray) (hS : S.size ≤ 1000000000000) (w : World) : Calls Tryd.prog 10 #[.string S] w fun e w' => (e = .returned (.tuple #[.string (bs (optT (rewr setsN S.data.toList))), .bool (rewr setsN S.data.toList).isSome]) ∧ Below w.heap.size w w') := by
  have AL : Calls Tryd.prog 18 #[.string S, .string ⟨#[115, 101, 116, 115]⟩] w fun e w' => (e = .returned (.tuple #[.string (bs (optT (rewr setsN S.data.toList))), .bool (rewr setsN S.data.toList).isSome]) ∧ Below w.heap.size w w') := by
    have R := Lib.hid (ProgramValidS_any S w hS)
    cases ho : whole false 2 200 S.data.toList with
    | none =>
      have hr : rewr setsN S.data.toList = none := by simp [rewr, ho]
      rw [hr]
      rw [ho] at R
      clear ho hr
      simp only [optT, Option.isSome_none] at R ⊢
      go_enter Tryd.func18, Tryd.ntmps18
      go_wp2_with fail
      refine R.out.mono ?_
      rintro e w1 ⟨rfl, hb1⟩
      have B1 := Lib.hid (drew_below hb1)
      clear R hb1
      go_wp2_with fail
      go_ret2
      exact ⟨(by first | trivial | rfl), B1.out⟩
    | some k =>
      have hr : rewr setsN S.data.toList = keepS (setsN k) := by simp [rewr, ho]
      rw [hr]
      rw [ho] at R
      simp only [Option.isSome_some] at R
      obtain ⟨hl, hk, ht⟩ := (whole_iff (by omega)).1 ho
      have hz : S.size ≤ 1000 := by have := len_S S; omega
      have FX := Lib.hid (fun w => oneS_sets S hz k hk ht w)
      have RS := Lib.hid (fun w => resultS_any (setsN k) (fun k' h => setsN_ok hk h) w)
      clear ho hr hl hk ht hz
      generalize setsN k = o at *
      generalize keepS o = q at *
      go_enter Tryd.func18, Tryd.ntmps18
      go_wp2_with fail
      refine R.out.mono ?_
      rintro e w1 ⟨rfl, hb1⟩
      have B1 := Lib.hid (drew_below hb1)
      clear R hb1
      go_wp2_with fail
      refine (FX.out _).mono ?_
      rintro e w2 ⟨rfl, hb2⟩
      have B2 := Lib.hid (below_2 B1.out hb2)
      clear hb2
      go_wp2_with fail
      refine (RS.out _).mono ?_
      rintro e w3 ⟨rfl, hb3⟩
      have B3 := Lib.hid (below_2 B2.out hb3)
      clear hb3
      go_wp2_with fail
      go_ret2
      exact ⟨(by first | trivial | rfl), B3.out⟩
  have AH := Lib.hid AL
  clear AL
  generalize (rewr setsN S.data.toList) = o at *
  go_enter Tryd.func10, Tryd.ntmps10
  go_wp2_with fail
  refine AH.out.mono ?_
  rintro e w1 ⟨rfl, hb1⟩
  have B1 := Lib.hid hb1
  clear hb1
  go_wp2_with fail
  go_ret2
  exact ⟨(by first | trivial | rfl), B1.out⟩
end Go.Proofs.YtndlhdmpfnadcaaDoor
