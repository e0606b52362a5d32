/- Folded tests: the program's and the reference's. -/
import Derived.Test.YtppcghklkldnaabFo
import Derived.Test.YtppcghklkldnaabPlh
namespace Go.Proofs.Ytppcghklkldnaab
open Go.RowKit
open Pl

theorem isC_beq (c : UInt8) (k : Nd) : ((bs k.text).toList == [c]) = isC c k ∧ ([c] == (bs k.text).toList) = isC c k := by
  have h : (k.text = [c]) ↔ isC c k = true := isC_text
  rw [ByteArray.toList_eq, bs_list]
  cases hc : isC c k
  · rw [hc] at h
    have h2 : k.text ≠ [c] := fun e => by have := h.1 e; cases this
    exact ⟨by simpa using h2, by simpa using fun e => h2 e.symm⟩
  · have h2 := h.2 hc
    rw [h2]; simp
theorem below_of_drewN {w w' : World} (h : ∃ m, w' = w.drewN m) : Below w.heap.size w w' := by obtain ⟨m, rfl⟩ := h; exact below_drewN _ _ _
theorem isC_bs {c : UInt8} {k : Nd} (h : isC c k = true) : bs k.text = ⟨#[c]⟩ := by rw [isC_eq h]; rfl
theorem vars_out {ns l : List UInt8} {o : UInt8} (h : o ∉ ns) : vars ns (o :: l) = vars ns l := by
  unfold vars
  apply List.filter_congr
  intro c hc
  have : c ≠ o := by rintro rfl; exact h hc
  simp [this]
theorem dg3_iff {o : UInt8} {x y : Nd} (ho : o = 61 ∨ o = 60) (hx : ok false 0 x = true) (hy : ok false 0 y = true) : (isDg x && isDg y) = true ↔ (x.text.length = 1 ∧ y.text.length = 1) ∧ vars nmsW (Nd.n2 o x y).text = [] := by
  rw [dg_iff hx hy]
  have h : o ∉ nmsW := by rcases ho with rfl | rfl <;> decide
  simp only [Nd.text, vars_out h]
  exact ⟨fun ⟨a, b, c⟩ => ⟨⟨a, b⟩, c⟩, fun ⟨⟨a, b⟩, c⟩ => ⟨a, b, c⟩⟩
theorem bs_one (o : UInt8) (a : Nd) : bs (Nd.n1 o a).text = (⟨#[o]⟩ : ByteArray) ++ bs a.text := by
  rw [show (⟨#[o]⟩ : ByteArray) = bs [o] from rfl, bs_app]; rfl
set_option maxHeartbeats 1000000 in
theorem l11Int_any (b : Bool) (w : World) : Calls Try.prog 117 #[.bool b] w fun e w' => e = .returned (.int .i64 (if b then 1 else 0)) ∧ w = w' := by
  cases b
  all_goals
    go_enter Try.func117, Try.ntmps117
    go_wp2_with fail
    go_ret
    exact ⟨rfl, rfl⟩
set_option maxRecDepth 100000 in
set_option maxHeartbeats 8000000 in
theorem foldTest_any : ∀ (k : Nd) (b : Nat) (w : World), ok false 1 k = true → k.text.length ≤ 1000 → In w k b →
    Calls Try.prog 78 #[.pointer (some ⟨b, 0, none⟩)] w fun e w' => (e = .returned (.string (bs (foldT k).text)) ∧ Below w.heap.size w w') := by
  intro k
  induction k with
  | n0 c =>
    intro b w hok hl hin
    simp only [ok, Bool.or_eq_true, beq_iff_eq] at hok
    obtain ⟨_, h1, _, h2⟩ := hin
    clear hl
    rcases hok with rfl | rfl
    all_goals
      simp only [UInt8.reduceToNat] at h1
      go_enter Try.func78, Try.ntmps78
      go_wp2_with fail
      go_ret
      exact ⟨rfl, Below.refl _ _⟩
  | n3 => intro b w hok; simp [ok] at hok
  | n1 o p ihp =>
    intro b w hok hl hin
    simp only [ok, Bool.and_eq_true, beq_iff_eq] at hok
    obtain ⟨rfl, hp⟩ := hok
    obtain ⟨g, c, pb, ⟨_, h1, h2, _⟩, _, hc, h5, ip⟩ := hin
    simp only [Nd.text, List.length_cons] at hl
    simp only [UInt8.reduceToNat] at h1
    have P1 := Lib.hid (ihp pb w hp (by omega) ip)
    have la := foldT_len p
    have hA : (bs (foldT p).text).size ≤ 1000 := by rw [bs_size]; omega
    clear ihp ip hl la hp
    have hft : foldT (.n1 33 p) = neg 33 (foldT p) := rfl
    rw [hft]
    clear hft
    generalize foldT p = x at *
    obtain ⟨a1, b1⟩ := isC_beq 116 x
    obtain ⟨a2, b2⟩ := isC_beq 102 x
    cases c1 : isC 116 x
    · rw [c1] at a1 b1
      cases c2 : isC 102 x
      · rw [c2] at a2 b2
        have hf : bs (neg 33 x).text = (⟨#[33]⟩ : ByteArray) ++ bs x.text := by simp only [neg, c1, c2, Bool.false_eq_true, if_false]; exact bs_one 33 x
        rw [hf]
        clear c1 c2 hf
        generalize bs x.text = A at *
        have z1 : 1 + A.size ≤ 9223372036854775807 := by omega
        go_enter Try.func78, Try.ntmps78
        go_wp2_with fail
        refine P1.out.mono ?_
        rintro e w1 ⟨rfl, hb⟩
        have B1 := Lib.hid hb
        clear h1 h2 h5 hb
        go_wp2_with fail
        go_ret
        exact ⟨rfl, B1.out⟩
      · have hf : bs (neg 33 x).text = (⟨#[116]⟩ : ByteArray) := by simp only [neg, c1, c2, Bool.false_eq_true, if_false, if_true]; rfl
        rw [hf]
        rw [isC_bs c2] at P1
        clear c1 c2 a1 b1 a2 b2 hf hA
        go_enter Try.func78, Try.ntmps78
        go_wp2_with fail
        refine P1.out.mono ?_
        rintro e w1 ⟨rfl, hb⟩
        have B1 := Lib.hid hb
        clear h1 h2 h5 hb
        go_wp2_with fail
        go_ret
        exact ⟨rfl, B1.out⟩
    · have hf : bs (neg 33 x).text = (⟨#[102]⟩ : ByteArray) := by simp only [neg, c1, if_true]; rfl
      rw [hf]
      rw [isC_bs c1] at P1
      clear c1 a1 b1 a2 b2 hf hA
      go_enter Try.func78, Try.ntmps78
      go_wp2_with fail
      refine P1.out.mono ?_
      rintro e w1 ⟨rfl, hb⟩
      have B1 := Lib.hid hb
      clear h1 h2 h5 hb
      go_wp2_with fail
      go_ret
      exact ⟨rfl, B1.out⟩
  | n2 o p q ihp ihq =>
    intro b w hok hl hin
    simp only [ok, Bool.and_eq_true, Bool.or_eq_true, beq_iff_eq] at hok
    obtain ⟨g, c, pb, qb, ⟨hb0, h1, h2, _⟩, hg0, hc, h5, h6, ip, iq⟩ := hin
    simp only [Nd.text, List.length_cons, List.length_append] at hl
    have IP := Lib.hid ip
    have IQ := Lib.hid iq
    have H : Sit w w [(⟨b, 0, none⟩, .int .u8 o.toNat), (⟨b, 1, none⟩, .slice (some ⟨g, 0, none⟩) 2 c), (⟨g, 0, none⟩, .pointer (some ⟨pb, 0, none⟩)), (⟨g, 1, none⟩, .pointer (some ⟨qb, 0, none⟩))] :=
      ((((Sit.refl w).more (p := ⟨g, 1, none⟩) hg0 h6).more (p := ⟨g, 0, none⟩) hg0 h5).more (p := ⟨b, 1, none⟩) hb0 h2).more (p := ⟨b, 0, none⟩) hb0 h1
    clear ip iq hb0 hg0
    rcases hok with ⟨ho, hp, hq⟩ | ⟨ho, hp, hq⟩
    · have P1 := Lib.hid (fun w h => foldExpr_any p pb w hp (by omega) h)
      have Q1 := Lib.hid (fun w h => foldExpr_any q qb w hq (by omega) h)
      have fa := fold_ok hp
      have fb := fold_ok hq
      have la := fold_len p
      have lb := fold_len q
      have DA := Lib.hid (fun w => isDigit_any (fold p) fa w)
      have DB := Lib.hid (fun w => isDigit_any (fold q) fb w)
      have two := bs_two o (fold p) (fold q)
      have hk2 : ok false 1 (.n2 o (fold p) (fold q)) = true := by simp [ok, ho, fa, fb]
      have hA : (bs (fold p).text).size ≤ 1000 := by rw [bs_size]; omega
      have hB : (bs (fold q).text).size ≤ 1000 := by rw [bs_size]; omega
      have z1 : 1 + (bs (fold p).text).size ≤ 9223372036854775807 := by omega
      have z2 : 1 + (bs (fold p).text).size + (bs (fold q).text).size ≤ 9223372036854775807 := by omega
      have hft : foldT (.n2 o p q) = cmp o (fold p) (fold q) := by show (if o = 61 ∨ o = 60 then _ else _) = _; rw [if_pos ho]
      rw [hft]
      have en1 : Utf8.encode 61 = ⟨#[61]⟩ := by kernel_rfl
      have en2 : Utf8.encode 60 = ⟨#[60]⟩ := by kernel_rfl
      clear ihp ihq hft la lb hl
      cases hda : isDg (fold p)
      · have hf : bs (cmp o (fold p) (fold q)).text = (⟨#[o]⟩ : ByteArray) ++ bs (fold p).text ++ bs (fold q).text := by simp only [cmp, hda, Bool.false_and, Bool.false_eq_true, if_false, two]
        rw [hf]
        rw [hda] at DA
        clear hda hf two hk2 fa fb DB
        generalize bs (fold p).text = A at *
        generalize bs (fold q).text = B at *
        rcases ho with rfl | rfl
        · skip
          simp only [UInt8.reduceToNat] at h1 H
          go_enter Try.func78, Try.ntmps78
          go_wp2_with fail
          refine region_class (fun W => Sit w W [(⟨b, 0, none⟩, .int .u8 61), (⟨b, 1, none⟩, .slice (some ⟨g, 0, none⟩) 2 c), (⟨g, 0, none⟩, .pointer (some ⟨pb, 0, none⟩)), (⟨g, 1, none⟩, .pointer (some ⟨qb, 0, none⟩))]) (by kernel_rfl) (by kernel_rfl) H.drew ?_
          clear h1 h2 h5 h6
          repeat (first | go_big_quiet_skip | (go_big_quiet_want; first | (apply quiet_value; (· (intro W hW; obtain ⟨h1, h2, h5, h6⟩ := hW.c4; go_simp; exact rfl)); simp only [Act.put, List.setIfInBounds_toArray, List.set_cons_zero, List.set_cons_succ]; go_big_quiet_on) | (apply quiet_call; (· (intro W hW; go_simp; exact ⟨rfl, rfl⟩)); (· (intro W hW; first | with_reducible exact (P1.out W (IP.out.below hW.below (Nat.le_refl _))).mono fun _ _ h => ⟨h.1, hW.call h.2⟩ | with_reducible exact (Q1.out W (IQ.out.below hW.below (Nat.le_refl _))).mono fun _ _ h => ⟨h.1, hW.call h.2⟩)); simp only [Act.put, List.setIfInBounds_toArray, List.set_cons_zero, List.set_cons_succ]; go_big_quiet_on)))
          refine wpQuiet_nil ?_
          intro wq hq
          clear H
          have H := hq
          clear hq
          obtain ⟨h1, h2, h5, h6⟩ := H.c4
          go_wp2_with fail
          refine (DA.out _).mono ?_
          rintro e w' ⟨rfl, rfl⟩
          go_wp2_with fail
          go_ret
          exact ⟨rfl, H.below⟩
        · skip
          simp only [UInt8.reduceToNat] at h1 H
          go_enter Try.func78, Try.ntmps78
          go_wp2_with fail
          refine region_class (fun W => Sit w W [(⟨b, 0, none⟩, .int .u8 60), (⟨b, 1, none⟩, .slice (some ⟨g, 0, none⟩) 2 c), (⟨g, 0, none⟩, .pointer (some ⟨pb, 0, none⟩)), (⟨g, 1, none⟩, .pointer (some ⟨qb, 0, none⟩))]) (by kernel_rfl) (by kernel_rfl) H.drew ?_
          clear h1 h2 h5 h6
          repeat (first | go_big_quiet_skip | (go_big_quiet_want; first | (apply quiet_value; (· (intro W hW; obtain ⟨h1, h2, h5, h6⟩ := hW.c4; go_simp; exact rfl)); simp only [Act.put, List.setIfInBounds_toArray, List.set_cons_zero, List.set_cons_succ]; go_big_quiet_on) | (apply quiet_call; (· (intro W hW; go_simp; exact ⟨rfl, rfl⟩)); (· (intro W hW; first | with_reducible exact (P1.out W (IP.out.below hW.below (Nat.le_refl _))).mono fun _ _ h => ⟨h.1, hW.call h.2⟩ | with_reducible exact (Q1.out W (IQ.out.below hW.below (Nat.le_refl _))).mono fun _ _ h => ⟨h.1, hW.call h.2⟩)); simp only [Act.put, List.setIfInBounds_toArray, List.set_cons_zero, List.set_cons_succ]; go_big_quiet_on)))
          refine wpQuiet_nil ?_
          intro wq hq
          clear H
          have H := hq
          clear hq
          obtain ⟨h1, h2, h5, h6⟩ := H.c4
          go_wp2_with fail
          refine (DA.out _).mono ?_
          rintro e w' ⟨rfl, rfl⟩
          go_wp2_with fail
          go_ret
          exact ⟨rfl, H.below⟩
      · cases hdb : isDg (fold q)
        · have hf : bs (cmp o (fold p) (fold q)).text = (⟨#[o]⟩ : ByteArray) ++ bs (fold p).text ++ bs (fold q).text := by simp only [cmp, hdb, Bool.and_false, Bool.false_eq_true, if_false, two]
          rw [hf]
          rw [hda] at DA
          rw [hdb] at DB
          clear hda hdb hf two hk2 fa fb
          generalize bs (fold p).text = A at *
          generalize bs (fold q).text = B at *
          rcases ho with rfl | rfl
          · skip
            simp only [UInt8.reduceToNat] at h1 H
            go_enter Try.func78, Try.ntmps78
            go_wp2_with fail
            refine region_class (fun W => Sit w W [(⟨b, 0, none⟩, .int .u8 61), (⟨b, 1, none⟩, .slice (some ⟨g, 0, none⟩) 2 c), (⟨g, 0, none⟩, .pointer (some ⟨pb, 0, none⟩)), (⟨g, 1, none⟩, .pointer (some ⟨qb, 0, none⟩))]) (by kernel_rfl) (by kernel_rfl) H.drew ?_
            clear h1 h2 h5 h6
            repeat (first | go_big_quiet_skip | (go_big_quiet_want; first | (apply quiet_value; (· (intro W hW; obtain ⟨h1, h2, h5, h6⟩ := hW.c4; go_simp; exact rfl)); simp only [Act.put, List.setIfInBounds_toArray, List.set_cons_zero, List.set_cons_succ]; go_big_quiet_on) | (apply quiet_call; (· (intro W hW; go_simp; exact ⟨rfl, rfl⟩)); (· (intro W hW; first | with_reducible exact (P1.out W (IP.out.below hW.below (Nat.le_refl _))).mono fun _ _ h => ⟨h.1, hW.call h.2⟩ | with_reducible exact (Q1.out W (IQ.out.below hW.below (Nat.le_refl _))).mono fun _ _ h => ⟨h.1, hW.call h.2⟩)); simp only [Act.put, List.setIfInBounds_toArray, List.set_cons_zero, List.set_cons_succ]; go_big_quiet_on)))
            refine wpQuiet_nil ?_
            intro wq hq
            clear H
            have H := hq
            clear hq
            obtain ⟨h1, h2, h5, h6⟩ := H.c4
            go_wp2_with fail
            refine (DA.out _).mono ?_
            rintro e w' ⟨rfl, rfl⟩
            go_wp2_with fail
            refine (DB.out _).mono ?_
            rintro e w' ⟨rfl, rfl⟩
            go_wp2_with fail
            go_ret
            exact ⟨rfl, H.below⟩
          · skip
            simp only [UInt8.reduceToNat] at h1 H
            go_enter Try.func78, Try.ntmps78
            go_wp2_with fail
            refine region_class (fun W => Sit w W [(⟨b, 0, none⟩, .int .u8 60), (⟨b, 1, none⟩, .slice (some ⟨g, 0, none⟩) 2 c), (⟨g, 0, none⟩, .pointer (some ⟨pb, 0, none⟩)), (⟨g, 1, none⟩, .pointer (some ⟨qb, 0, none⟩))]) (by kernel_rfl) (by kernel_rfl) H.drew ?_
            clear h1 h2 h5 h6
            repeat (first | go_big_quiet_skip | (go_big_quiet_want; first | (apply quiet_value; (· (intro W hW; obtain ⟨h1, h2, h5, h6⟩ := hW.c4; go_simp; exact rfl)); simp only [Act.put, List.setIfInBounds_toArray, List.set_cons_zero, List.set_cons_succ]; go_big_quiet_on) | (apply quiet_call; (· (intro W hW; go_simp; exact ⟨rfl, rfl⟩)); (· (intro W hW; first | with_reducible exact (P1.out W (IP.out.below hW.below (Nat.le_refl _))).mono fun _ _ h => ⟨h.1, hW.call h.2⟩ | with_reducible exact (Q1.out W (IQ.out.below hW.below (Nat.le_refl _))).mono fun _ _ h => ⟨h.1, hW.call h.2⟩)); simp only [Act.put, List.setIfInBounds_toArray, List.set_cons_zero, List.set_cons_succ]; go_big_quiet_on)))
            refine wpQuiet_nil ?_
            intro wq hq
            clear H
            have H := hq
            clear hq
            obtain ⟨h1, h2, h5, h6⟩ := H.c4
            go_wp2_with fail
            refine (DA.out _).mono ?_
            rintro e w' ⟨rfl, rfl⟩
            go_wp2_with fail
            refine (DB.out _).mono ?_
            rintro e w' ⟨rfl, rfl⟩
            go_wp2_with fail
            go_ret
            exact ⟨rfl, H.below⟩
        · have hlen : (Nd.n2 o (fold p) (fold q)).text.length ≤ 200 := by
            obtain ⟨c1, e1, _⟩ := (isDg_text fa).1 hda
            obtain ⟨c2, e2, _⟩ := (isDg_text fb).1 hdb
            simp [Nd.text, e1, e2]
          have hf : cmp o (fold p) (fold q) = tf (tru (fun _ => 0) (.n2 o (fold p) (fold q))) := by simp only [cmp, hda, hdb, Bool.and_self, if_true]
          have EV := Lib.hid (fun w => EvalTest_any (bs (Nd.n2 o (fold p) (fold q)).text) (by rw [bs_size]; omega) 0 0 0 w)
          rw [bs_list, whole_text hk2 hlen, show stB 0 0 0 = true from rfl, env_zero, two] at EV
          simp only [evT, evO, Option.isSome_some, Bool.and_self, Bool.true_and] at EV
          obtain ⟨n, hn⟩ : ∃ n, tru (fun _ => 0) (.n2 o (fold p) (fold q)) = n := ⟨_, rfl⟩
          rw [hn] at EV hf
          rw [hf]
          rw [hda] at DA
          rw [hdb] at DB
          clear hda hdb hf two hn hlen hk2 fa fb
          generalize bs (fold p).text = A at *
          generalize bs (fold q).text = B at *
          cases n
          · skip
            rcases ho with rfl | rfl
            · skip
              simp only [UInt8.reduceToNat] at h1 H
              go_enter Try.func78, Try.ntmps78
              go_wp2_with fail
              refine region_class (fun W => Sit w W [(⟨b, 0, none⟩, .int .u8 61), (⟨b, 1, none⟩, .slice (some ⟨g, 0, none⟩) 2 c), (⟨g, 0, none⟩, .pointer (some ⟨pb, 0, none⟩)), (⟨g, 1, none⟩, .pointer (some ⟨qb, 0, none⟩))]) (by kernel_rfl) (by kernel_rfl) H.drew ?_
              clear h1 h2 h5 h6
              repeat (first | go_big_quiet_skip | (go_big_quiet_want; first | (apply quiet_value; (· (intro W hW; obtain ⟨h1, h2, h5, h6⟩ := hW.c4; go_simp; exact rfl)); simp only [Act.put, List.setIfInBounds_toArray, List.set_cons_zero, List.set_cons_succ]; go_big_quiet_on) | (apply quiet_call; (· (intro W hW; go_simp; exact ⟨rfl, rfl⟩)); (· (intro W hW; first | with_reducible exact (P1.out W (IP.out.below hW.below (Nat.le_refl _))).mono fun _ _ h => ⟨h.1, hW.call h.2⟩ | with_reducible exact (Q1.out W (IQ.out.below hW.below (Nat.le_refl _))).mono fun _ _ h => ⟨h.1, hW.call h.2⟩)); simp only [Act.put, List.setIfInBounds_toArray, List.set_cons_zero, List.set_cons_succ]; go_big_quiet_on)))
              refine wpQuiet_nil ?_
              intro wq hq
              clear H
              have H := hq
              clear hq
              obtain ⟨h1, h2, h5, h6⟩ := H.c4
              go_wp2_with fail
              refine (DA.out _).mono ?_
              rintro e w' ⟨rfl, rfl⟩
              go_wp2_with fail
              refine (DB.out _).mono ?_
              rintro e w' ⟨rfl, rfl⟩
              go_wp2_with fail
              refine (EV.out _).mono ?_
              rintro e w3 ⟨rfl, hb⟩
              replace H := H.call hb
              clear hb h1 h2 h5 h6
              go_wp2_with fail
              go_ret
              exact ⟨rfl, H.below⟩
            · skip
              simp only [UInt8.reduceToNat] at h1 H
              go_enter Try.func78, Try.ntmps78
              go_wp2_with fail
              refine region_class (fun W => Sit w W [(⟨b, 0, none⟩, .int .u8 60), (⟨b, 1, none⟩, .slice (some ⟨g, 0, none⟩) 2 c), (⟨g, 0, none⟩, .pointer (some ⟨pb, 0, none⟩)), (⟨g, 1, none⟩, .pointer (some ⟨qb, 0, none⟩))]) (by kernel_rfl) (by kernel_rfl) H.drew ?_
              clear h1 h2 h5 h6
              repeat (first | go_big_quiet_skip | (go_big_quiet_want; first | (apply quiet_value; (· (intro W hW; obtain ⟨h1, h2, h5, h6⟩ := hW.c4; go_simp; exact rfl)); simp only [Act.put, List.setIfInBounds_toArray, List.set_cons_zero, List.set_cons_succ]; go_big_quiet_on) | (apply quiet_call; (· (intro W hW; go_simp; exact ⟨rfl, rfl⟩)); (· (intro W hW; first | with_reducible exact (P1.out W (IP.out.below hW.below (Nat.le_refl _))).mono fun _ _ h => ⟨h.1, hW.call h.2⟩ | with_reducible exact (Q1.out W (IQ.out.below hW.below (Nat.le_refl _))).mono fun _ _ h => ⟨h.1, hW.call h.2⟩)); simp only [Act.put, List.setIfInBounds_toArray, List.set_cons_zero, List.set_cons_succ]; go_big_quiet_on)))
              refine wpQuiet_nil ?_
              intro wq hq
              clear H
              have H := hq
              clear hq
              obtain ⟨h1, h2, h5, h6⟩ := H.c4
              go_wp2_with fail
              refine (DA.out _).mono ?_
              rintro e w' ⟨rfl, rfl⟩
              go_wp2_with fail
              refine (DB.out _).mono ?_
              rintro e w' ⟨rfl, rfl⟩
              go_wp2_with fail
              refine (EV.out _).mono ?_
              rintro e w3 ⟨rfl, hb⟩
              replace H := H.call hb
              clear hb h1 h2 h5 h6
              go_wp2_with fail
              go_ret
              exact ⟨rfl, H.below⟩
          · skip
            rcases ho with rfl | rfl
            · skip
              simp only [UInt8.reduceToNat] at h1 H
              go_enter Try.func78, Try.ntmps78
              go_wp2_with fail
              refine region_class (fun W => Sit w W [(⟨b, 0, none⟩, .int .u8 61), (⟨b, 1, none⟩, .slice (some ⟨g, 0, none⟩) 2 c), (⟨g, 0, none⟩, .pointer (some ⟨pb, 0, none⟩)), (⟨g, 1, none⟩, .pointer (some ⟨qb, 0, none⟩))]) (by kernel_rfl) (by kernel_rfl) H.drew ?_
              clear h1 h2 h5 h6
              repeat (first | go_big_quiet_skip | (go_big_quiet_want; first | (apply quiet_value; (· (intro W hW; obtain ⟨h1, h2, h5, h6⟩ := hW.c4; go_simp; exact rfl)); simp only [Act.put, List.setIfInBounds_toArray, List.set_cons_zero, List.set_cons_succ]; go_big_quiet_on) | (apply quiet_call; (· (intro W hW; go_simp; exact ⟨rfl, rfl⟩)); (· (intro W hW; first | with_reducible exact (P1.out W (IP.out.below hW.below (Nat.le_refl _))).mono fun _ _ h => ⟨h.1, hW.call h.2⟩ | with_reducible exact (Q1.out W (IQ.out.below hW.below (Nat.le_refl _))).mono fun _ _ h => ⟨h.1, hW.call h.2⟩)); simp only [Act.put, List.setIfInBounds_toArray, List.set_cons_zero, List.set_cons_succ]; go_big_quiet_on)))
              refine wpQuiet_nil ?_
              intro wq hq
              clear H
              have H := hq
              clear hq
              obtain ⟨h1, h2, h5, h6⟩ := H.c4
              go_wp2_with fail
              refine (DA.out _).mono ?_
              rintro e w' ⟨rfl, rfl⟩
              go_wp2_with fail
              refine (DB.out _).mono ?_
              rintro e w' ⟨rfl, rfl⟩
              go_wp2_with fail
              refine (EV.out _).mono ?_
              rintro e w3 ⟨rfl, hb⟩
              replace H := H.call hb
              clear hb h1 h2 h5 h6
              go_wp2_with fail
              go_ret
              exact ⟨rfl, H.below⟩
            · skip
              simp only [UInt8.reduceToNat] at h1 H
              go_enter Try.func78, Try.ntmps78
              go_wp2_with fail
              refine region_class (fun W => Sit w W [(⟨b, 0, none⟩, .int .u8 60), (⟨b, 1, none⟩, .slice (some ⟨g, 0, none⟩) 2 c), (⟨g, 0, none⟩, .pointer (some ⟨pb, 0, none⟩)), (⟨g, 1, none⟩, .pointer (some ⟨qb, 0, none⟩))]) (by kernel_rfl) (by kernel_rfl) H.drew ?_
              clear h1 h2 h5 h6
              repeat (first | go_big_quiet_skip | (go_big_quiet_want; first | (apply quiet_value; (· (intro W hW; obtain ⟨h1, h2, h5, h6⟩ := hW.c4; go_simp; exact rfl)); simp only [Act.put, List.setIfInBounds_toArray, List.set_cons_zero, List.set_cons_succ]; go_big_quiet_on) | (apply quiet_call; (· (intro W hW; go_simp; exact ⟨rfl, rfl⟩)); (· (intro W hW; first | with_reducible exact (P1.out W (IP.out.below hW.below (Nat.le_refl _))).mono fun _ _ h => ⟨h.1, hW.call h.2⟩ | with_reducible exact (Q1.out W (IQ.out.below hW.below (Nat.le_refl _))).mono fun _ _ h => ⟨h.1, hW.call h.2⟩)); simp only [Act.put, List.setIfInBounds_toArray, List.set_cons_zero, List.set_cons_succ]; go_big_quiet_on)))
              refine wpQuiet_nil ?_
              intro wq hq
              clear H
              have H := hq
              clear hq
              obtain ⟨h1, h2, h5, h6⟩ := H.c4
              go_wp2_with fail
              refine (DA.out _).mono ?_
              rintro e w' ⟨rfl, rfl⟩
              go_wp2_with fail
              refine (DB.out _).mono ?_
              rintro e w' ⟨rfl, rfl⟩
              go_wp2_with fail
              refine (EV.out _).mono ?_
              rintro e w3 ⟨rfl, hb⟩
              replace H := H.call hb
              clear hb h1 h2 h5 h6
              go_wp2_with fail
              go_ret
              exact ⟨rfl, H.below⟩
    · have P1 := Lib.hid (fun w h => ihp pb w hp (by omega) h)
      have Q1 := Lib.hid (fun w h => ihq qb w hq (by omega) h)
      have la := foldT_len p
      have lb := foldT_len q
      have hA : (bs (foldT p).text).size ≤ 1000 := by rw [bs_size]; omega
      have hB : (bs (foldT q).text).size ≤ 1000 := by rw [bs_size]; omega
      have z1 : 1 + (bs (foldT p).text).size ≤ 9223372036854775807 := by omega
      have z2 : 1 + (bs (foldT p).text).size + (bs (foldT q).text).size ≤ 9223372036854775807 := by omega
      have hft : foldT (.n2 o p q) = con o (foldT p) (foldT q) := by
        have hn : ¬ (o = 61 ∨ o = 60) := by rcases ho with rfl | rfl <;> decide
        show (if o = 61 ∨ o = 60 then _ else _) = _
        rw [if_neg hn]
      rw [hft]
      have en1 : Utf8.encode 38 = ⟨#[38]⟩ := by kernel_rfl
      have en2 : Utf8.encode 124 = ⟨#[124]⟩ := by kernel_rfl
      clear ihp ihq hft la lb hl hp hq
      generalize foldT p = x at *
      generalize foldT q = y at *
      obtain ⟨a1, b1⟩ := isC_beq (zer o) x
      obtain ⟨a2, b2⟩ := isC_beq (zer o) y
      obtain ⟨a3, b3⟩ := isC_beq (uni o) x
      obtain ⟨a4, b4⟩ := isC_beq (uni o) y
      have two := bs_two o x y
      cases c1 : isC (zer o) x
      · rw [c1] at a1 b1
        cases c2 : isC (zer o) y
        · rw [c2] at a2 b2
          cases c3 : isC (uni o) x
          · rw [c3] at a3 b3
            cases c4 : isC (uni o) y
            · rw [c4] at a4 b4
              have hf : bs (con o x y).text = (⟨#[o]⟩ : ByteArray) ++ bs x.text ++ bs y.text := by simp only [con, c1, c2, c3, c4, Bool.or_self, Bool.false_eq_true, if_false, two]
              rw [hf]
              clear c1 c2 c3 c4 hf two
              generalize bs x.text = A at *
              generalize bs y.text = B at *
              rcases ho with rfl | rfl
              · simp only [UInt8.reduceToNat] at h1 H
                try simp only [show zer 38 = 102 from rfl] at *
                try simp only [show uni 38 = 116 from rfl] at *
                go_enter Try.func78, Try.ntmps78
                go_wp2_with fail
                refine region_class (fun W => Sit w W [(⟨b, 0, none⟩, .int .u8 38), (⟨b, 1, none⟩, .slice (some ⟨g, 0, none⟩) 2 c), (⟨g, 0, none⟩, .pointer (some ⟨pb, 0, none⟩)), (⟨g, 1, none⟩, .pointer (some ⟨qb, 0, none⟩))]) (by kernel_rfl) (by kernel_rfl) H.drew ?_
                clear h1 h2 h5 h6
                repeat (first | go_big_quiet_skip | (go_big_quiet_want; first | (apply quiet_value; (· (intro W hW; obtain ⟨h1, h2, h5, h6⟩ := hW.c4; go_simp; exact rfl)); simp only [Act.put, List.setIfInBounds_toArray, List.set_cons_zero, List.set_cons_succ]; go_big_quiet_on) | (apply quiet_call; (· (intro W hW; go_simp; exact ⟨rfl, rfl⟩)); (· (intro W hW; first | with_reducible exact (P1.out W (IP.out.below hW.below (Nat.le_refl _))).mono fun _ _ h => ⟨h.1, hW.call h.2⟩ | with_reducible exact (Q1.out W (IQ.out.below hW.below (Nat.le_refl _))).mono fun _ _ h => ⟨h.1, hW.call h.2⟩)); simp only [Act.put, List.setIfInBounds_toArray, List.set_cons_zero, List.set_cons_succ]; go_big_quiet_on)))
                refine wpQuiet_nil ?_
                intro wq hq
                clear H
                have H := hq
                clear hq
                obtain ⟨h1, h2, h5, h6⟩ := H.c4
                go_wp2_with fail
                go_ret
                exact ⟨rfl, H.below⟩
              · simp only [UInt8.reduceToNat] at h1 H
                try simp only [show zer 124 = 116 from rfl] at *
                try simp only [show uni 124 = 102 from rfl] at *
                go_enter Try.func78, Try.ntmps78
                go_wp2_with fail
                refine region_class (fun W => Sit w W [(⟨b, 0, none⟩, .int .u8 124), (⟨b, 1, none⟩, .slice (some ⟨g, 0, none⟩) 2 c), (⟨g, 0, none⟩, .pointer (some ⟨pb, 0, none⟩)), (⟨g, 1, none⟩, .pointer (some ⟨qb, 0, none⟩))]) (by kernel_rfl) (by kernel_rfl) H.drew ?_
                clear h1 h2 h5 h6
                repeat (first | go_big_quiet_skip | (go_big_quiet_want; first | (apply quiet_value; (· (intro W hW; obtain ⟨h1, h2, h5, h6⟩ := hW.c4; go_simp; exact rfl)); simp only [Act.put, List.setIfInBounds_toArray, List.set_cons_zero, List.set_cons_succ]; go_big_quiet_on) | (apply quiet_call; (· (intro W hW; go_simp; exact ⟨rfl, rfl⟩)); (· (intro W hW; first | with_reducible exact (P1.out W (IP.out.below hW.below (Nat.le_refl _))).mono fun _ _ h => ⟨h.1, hW.call h.2⟩ | with_reducible exact (Q1.out W (IQ.out.below hW.below (Nat.le_refl _))).mono fun _ _ h => ⟨h.1, hW.call h.2⟩)); simp only [Act.put, List.setIfInBounds_toArray, List.set_cons_zero, List.set_cons_succ]; go_big_quiet_on)))
                refine wpQuiet_nil ?_
                intro wq hq
                clear H
                have H := hq
                clear hq
                obtain ⟨h1, h2, h5, h6⟩ := H.c4
                go_wp2_with fail
                go_ret
                exact ⟨rfl, H.below⟩
            · have hf : bs (con o x y).text = bs x.text := by simp only [con, c1, c2, c3, c4, Bool.or_self, Bool.false_eq_true, if_false, if_true]
              rw [hf]
              rw [isC_bs c4] at Q1 z2
              clear c1 c2 c3 c4 hf two a2 b2 a4 b4 hB
              generalize bs x.text = A at *
              rcases ho with rfl | rfl
              · simp only [UInt8.reduceToNat] at h1 H
                try simp only [show zer 38 = 102 from rfl] at *
                try simp only [show uni 38 = 116 from rfl] at *
                go_enter Try.func78, Try.ntmps78
                go_wp2_with fail
                refine region_class (fun W => Sit w W [(⟨b, 0, none⟩, .int .u8 38), (⟨b, 1, none⟩, .slice (some ⟨g, 0, none⟩) 2 c), (⟨g, 0, none⟩, .pointer (some ⟨pb, 0, none⟩)), (⟨g, 1, none⟩, .pointer (some ⟨qb, 0, none⟩))]) (by kernel_rfl) (by kernel_rfl) H.drew ?_
                clear h1 h2 h5 h6
                repeat (first | go_big_quiet_skip | (go_big_quiet_want; first | (apply quiet_value; (· (intro W hW; obtain ⟨h1, h2, h5, h6⟩ := hW.c4; go_simp; exact rfl)); simp only [Act.put, List.setIfInBounds_toArray, List.set_cons_zero, List.set_cons_succ]; go_big_quiet_on) | (apply quiet_call; (· (intro W hW; go_simp; exact ⟨rfl, rfl⟩)); (· (intro W hW; first | with_reducible exact (P1.out W (IP.out.below hW.below (Nat.le_refl _))).mono fun _ _ h => ⟨h.1, hW.call h.2⟩ | with_reducible exact (Q1.out W (IQ.out.below hW.below (Nat.le_refl _))).mono fun _ _ h => ⟨h.1, hW.call h.2⟩)); simp only [Act.put, List.setIfInBounds_toArray, List.set_cons_zero, List.set_cons_succ]; go_big_quiet_on)))
                refine wpQuiet_nil ?_
                intro wq hq
                clear H
                have H := hq
                clear hq
                obtain ⟨h1, h2, h5, h6⟩ := H.c4
                go_wp2_with fail
                go_ret
                exact ⟨rfl, H.below⟩
              · simp only [UInt8.reduceToNat] at h1 H
                try simp only [show zer 124 = 116 from rfl] at *
                try simp only [show uni 124 = 102 from rfl] at *
                go_enter Try.func78, Try.ntmps78
                go_wp2_with fail
                refine region_class (fun W => Sit w W [(⟨b, 0, none⟩, .int .u8 124), (⟨b, 1, none⟩, .slice (some ⟨g, 0, none⟩) 2 c), (⟨g, 0, none⟩, .pointer (some ⟨pb, 0, none⟩)), (⟨g, 1, none⟩, .pointer (some ⟨qb, 0, none⟩))]) (by kernel_rfl) (by kernel_rfl) H.drew ?_
                clear h1 h2 h5 h6
                repeat (first | go_big_quiet_skip | (go_big_quiet_want; first | (apply quiet_value; (· (intro W hW; obtain ⟨h1, h2, h5, h6⟩ := hW.c4; go_simp; exact rfl)); simp only [Act.put, List.setIfInBounds_toArray, List.set_cons_zero, List.set_cons_succ]; go_big_quiet_on) | (apply quiet_call; (· (intro W hW; go_simp; exact ⟨rfl, rfl⟩)); (· (intro W hW; first | with_reducible exact (P1.out W (IP.out.below hW.below (Nat.le_refl _))).mono fun _ _ h => ⟨h.1, hW.call h.2⟩ | with_reducible exact (Q1.out W (IQ.out.below hW.below (Nat.le_refl _))).mono fun _ _ h => ⟨h.1, hW.call h.2⟩)); simp only [Act.put, List.setIfInBounds_toArray, List.set_cons_zero, List.set_cons_succ]; go_big_quiet_on)))
                refine wpQuiet_nil ?_
                intro wq hq
                clear H
                have H := hq
                clear hq
                obtain ⟨h1, h2, h5, h6⟩ := H.c4
                go_wp2_with fail
                go_ret
                exact ⟨rfl, H.below⟩
          · have hf : bs (con o x y).text = bs y.text := by simp only [con, c1, c2, c3, Bool.or_self, Bool.false_eq_true, if_false, if_true]
            rw [hf]
            rw [isC_bs c3] at P1 z1 z2
            clear c1 c2 c3 hf two a1 b1 a3 b3 a4 b4 hA
            generalize bs y.text = B at *
            rcases ho with rfl | rfl
            · simp only [UInt8.reduceToNat] at h1 H
              try simp only [show zer 38 = 102 from rfl] at *
              try simp only [show uni 38 = 116 from rfl] at *
              go_enter Try.func78, Try.ntmps78
              go_wp2_with fail
              refine region_class (fun W => Sit w W [(⟨b, 0, none⟩, .int .u8 38), (⟨b, 1, none⟩, .slice (some ⟨g, 0, none⟩) 2 c), (⟨g, 0, none⟩, .pointer (some ⟨pb, 0, none⟩)), (⟨g, 1, none⟩, .pointer (some ⟨qb, 0, none⟩))]) (by kernel_rfl) (by kernel_rfl) H.drew ?_
              clear h1 h2 h5 h6
              repeat (first | go_big_quiet_skip | (go_big_quiet_want; first | (apply quiet_value; (· (intro W hW; obtain ⟨h1, h2, h5, h6⟩ := hW.c4; go_simp; exact rfl)); simp only [Act.put, List.setIfInBounds_toArray, List.set_cons_zero, List.set_cons_succ]; go_big_quiet_on) | (apply quiet_call; (· (intro W hW; go_simp; exact ⟨rfl, rfl⟩)); (· (intro W hW; first | with_reducible exact (P1.out W (IP.out.below hW.below (Nat.le_refl _))).mono fun _ _ h => ⟨h.1, hW.call h.2⟩ | with_reducible exact (Q1.out W (IQ.out.below hW.below (Nat.le_refl _))).mono fun _ _ h => ⟨h.1, hW.call h.2⟩)); simp only [Act.put, List.setIfInBounds_toArray, List.set_cons_zero, List.set_cons_succ]; go_big_quiet_on)))
              refine wpQuiet_nil ?_
              intro wq hq
              clear H
              have H := hq
              clear hq
              obtain ⟨h1, h2, h5, h6⟩ := H.c4
              go_wp2_with fail
              go_ret
              exact ⟨rfl, H.below⟩
            · simp only [UInt8.reduceToNat] at h1 H
              try simp only [show zer 124 = 116 from rfl] at *
              try simp only [show uni 124 = 102 from rfl] at *
              go_enter Try.func78, Try.ntmps78
              go_wp2_with fail
              refine region_class (fun W => Sit w W [(⟨b, 0, none⟩, .int .u8 124), (⟨b, 1, none⟩, .slice (some ⟨g, 0, none⟩) 2 c), (⟨g, 0, none⟩, .pointer (some ⟨pb, 0, none⟩)), (⟨g, 1, none⟩, .pointer (some ⟨qb, 0, none⟩))]) (by kernel_rfl) (by kernel_rfl) H.drew ?_
              clear h1 h2 h5 h6
              repeat (first | go_big_quiet_skip | (go_big_quiet_want; first | (apply quiet_value; (· (intro W hW; obtain ⟨h1, h2, h5, h6⟩ := hW.c4; go_simp; exact rfl)); simp only [Act.put, List.setIfInBounds_toArray, List.set_cons_zero, List.set_cons_succ]; go_big_quiet_on) | (apply quiet_call; (· (intro W hW; go_simp; exact ⟨rfl, rfl⟩)); (· (intro W hW; first | with_reducible exact (P1.out W (IP.out.below hW.below (Nat.le_refl _))).mono fun _ _ h => ⟨h.1, hW.call h.2⟩ | with_reducible exact (Q1.out W (IQ.out.below hW.below (Nat.le_refl _))).mono fun _ _ h => ⟨h.1, hW.call h.2⟩)); simp only [Act.put, List.setIfInBounds_toArray, List.set_cons_zero, List.set_cons_succ]; go_big_quiet_on)))
              refine wpQuiet_nil ?_
              intro wq hq
              clear H
              have H := hq
              clear hq
              obtain ⟨h1, h2, h5, h6⟩ := H.c4
              go_wp2_with fail
              go_ret
              exact ⟨rfl, H.below⟩
        · have hf : bs (con o x y).text = ⟨#[zer o]⟩ := by simp only [con, c1, c2, Bool.or_true, if_true]; rfl
          rw [hf]
          rw [isC_bs c2] at Q1 z2
          clear c1 c2 hf two a2 b2 a3 b3 a4 b4 hB
          generalize bs x.text = A at *
          rcases ho with rfl | rfl
          · simp only [UInt8.reduceToNat] at h1 H
            try simp only [show zer 38 = 102 from rfl] at *
            try simp only [show uni 38 = 116 from rfl] at *
            go_enter Try.func78, Try.ntmps78
            go_wp2_with fail
            refine region_class (fun W => Sit w W [(⟨b, 0, none⟩, .int .u8 38), (⟨b, 1, none⟩, .slice (some ⟨g, 0, none⟩) 2 c), (⟨g, 0, none⟩, .pointer (some ⟨pb, 0, none⟩)), (⟨g, 1, none⟩, .pointer (some ⟨qb, 0, none⟩))]) (by kernel_rfl) (by kernel_rfl) H.drew ?_
            clear h1 h2 h5 h6
            repeat (first | go_big_quiet_skip | (go_big_quiet_want; first | (apply quiet_value; (· (intro W hW; obtain ⟨h1, h2, h5, h6⟩ := hW.c4; go_simp; exact rfl)); simp only [Act.put, List.setIfInBounds_toArray, List.set_cons_zero, List.set_cons_succ]; go_big_quiet_on) | (apply quiet_call; (· (intro W hW; go_simp; exact ⟨rfl, rfl⟩)); (· (intro W hW; first | with_reducible exact (P1.out W (IP.out.below hW.below (Nat.le_refl _))).mono fun _ _ h => ⟨h.1, hW.call h.2⟩ | with_reducible exact (Q1.out W (IQ.out.below hW.below (Nat.le_refl _))).mono fun _ _ h => ⟨h.1, hW.call h.2⟩)); simp only [Act.put, List.setIfInBounds_toArray, List.set_cons_zero, List.set_cons_succ]; go_big_quiet_on)))
            refine wpQuiet_nil ?_
            intro wq hq
            clear H
            have H := hq
            clear hq
            obtain ⟨h1, h2, h5, h6⟩ := H.c4
            go_wp2_with fail
            go_ret
            exact ⟨rfl, H.below⟩
          · simp only [UInt8.reduceToNat] at h1 H
            try simp only [show zer 124 = 116 from rfl] at *
            try simp only [show uni 124 = 102 from rfl] at *
            go_enter Try.func78, Try.ntmps78
            go_wp2_with fail
            refine region_class (fun W => Sit w W [(⟨b, 0, none⟩, .int .u8 124), (⟨b, 1, none⟩, .slice (some ⟨g, 0, none⟩) 2 c), (⟨g, 0, none⟩, .pointer (some ⟨pb, 0, none⟩)), (⟨g, 1, none⟩, .pointer (some ⟨qb, 0, none⟩))]) (by kernel_rfl) (by kernel_rfl) H.drew ?_
            clear h1 h2 h5 h6
            repeat (first | go_big_quiet_skip | (go_big_quiet_want; first | (apply quiet_value; (· (intro W hW; obtain ⟨h1, h2, h5, h6⟩ := hW.c4; go_simp; exact rfl)); simp only [Act.put, List.setIfInBounds_toArray, List.set_cons_zero, List.set_cons_succ]; go_big_quiet_on) | (apply quiet_call; (· (intro W hW; go_simp; exact ⟨rfl, rfl⟩)); (· (intro W hW; first | with_reducible exact (P1.out W (IP.out.below hW.below (Nat.le_refl _))).mono fun _ _ h => ⟨h.1, hW.call h.2⟩ | with_reducible exact (Q1.out W (IQ.out.below hW.below (Nat.le_refl _))).mono fun _ _ h => ⟨h.1, hW.call h.2⟩)); simp only [Act.put, List.setIfInBounds_toArray, List.set_cons_zero, List.set_cons_succ]; go_big_quiet_on)))
            refine wpQuiet_nil ?_
            intro wq hq
            clear H
            have H := hq
            clear hq
            obtain ⟨h1, h2, h5, h6⟩ := H.c4
            go_wp2_with fail
            go_ret
            exact ⟨rfl, H.below⟩
      · have hf : bs (con o x y).text = ⟨#[zer o]⟩ := by simp only [con, c1, Bool.true_or, if_true]; rfl
        rw [hf]
        rw [isC_bs c1] at P1 z1 z2
        clear c1 hf two a1 b1 a2 b2 a3 b3 a4 b4 hA
        generalize bs y.text = B at *
        rcases ho with rfl | rfl
        · simp only [UInt8.reduceToNat] at h1 H
          try simp only [show zer 38 = 102 from rfl] at *
          try simp only [show uni 38 = 116 from rfl] at *
          go_enter Try.func78, Try.ntmps78
          go_wp2_with fail
          refine region_class (fun W => Sit w W [(⟨b, 0, none⟩, .int .u8 38), (⟨b, 1, none⟩, .slice (some ⟨g, 0, none⟩) 2 c), (⟨g, 0, none⟩, .pointer (some ⟨pb, 0, none⟩)), (⟨g, 1, none⟩, .pointer (some ⟨qb, 0, none⟩))]) (by kernel_rfl) (by kernel_rfl) H.drew ?_
          clear h1 h2 h5 h6
          repeat (first | go_big_quiet_skip | (go_big_quiet_want; first | (apply quiet_value; (· (intro W hW; obtain ⟨h1, h2, h5, h6⟩ := hW.c4; go_simp; exact rfl)); simp only [Act.put, List.setIfInBounds_toArray, List.set_cons_zero, List.set_cons_succ]; go_big_quiet_on) | (apply quiet_call; (· (intro W hW; go_simp; exact ⟨rfl, rfl⟩)); (· (intro W hW; first | with_reducible exact (P1.out W (IP.out.below hW.below (Nat.le_refl _))).mono fun _ _ h => ⟨h.1, hW.call h.2⟩ | with_reducible exact (Q1.out W (IQ.out.below hW.below (Nat.le_refl _))).mono fun _ _ h => ⟨h.1, hW.call h.2⟩)); simp only [Act.put, List.setIfInBounds_toArray, List.set_cons_zero, List.set_cons_succ]; go_big_quiet_on)))
          refine wpQuiet_nil ?_
          intro wq hq
          clear H
          have H := hq
          clear hq
          obtain ⟨h1, h2, h5, h6⟩ := H.c4
          go_wp2_with fail
          go_ret
          exact ⟨rfl, H.below⟩
        · simp only [UInt8.reduceToNat] at h1 H
          try simp only [show zer 124 = 116 from rfl] at *
          try simp only [show uni 124 = 102 from rfl] at *
          go_enter Try.func78, Try.ntmps78
          go_wp2_with fail
          refine region_class (fun W => Sit w W [(⟨b, 0, none⟩, .int .u8 124), (⟨b, 1, none⟩, .slice (some ⟨g, 0, none⟩) 2 c), (⟨g, 0, none⟩, .pointer (some ⟨pb, 0, none⟩)), (⟨g, 1, none⟩, .pointer (some ⟨qb, 0, none⟩))]) (by kernel_rfl) (by kernel_rfl) H.drew ?_
          clear h1 h2 h5 h6
          repeat (first | go_big_quiet_skip | (go_big_quiet_want; first | (apply quiet_value; (· (intro W hW; obtain ⟨h1, h2, h5, h6⟩ := hW.c4; go_simp; exact rfl)); simp only [Act.put, List.setIfInBounds_toArray, List.set_cons_zero, List.set_cons_succ]; go_big_quiet_on) | (apply quiet_call; (· (intro W hW; go_simp; exact ⟨rfl, rfl⟩)); (· (intro W hW; first | with_reducible exact (P1.out W (IP.out.below hW.below (Nat.le_refl _))).mono fun _ _ h => ⟨h.1, hW.call h.2⟩ | with_reducible exact (Q1.out W (IQ.out.below hW.below (Nat.le_refl _))).mono fun _ _ h => ⟨h.1, hW.call h.2⟩)); simp only [Act.put, List.setIfInBounds_toArray, List.set_cons_zero, List.set_cons_succ]; go_big_quiet_on)))
          refine wpQuiet_nil ?_
          intro wq hq
          clear H
          have H := hq
          clear hq
          obtain ⟨h1, h2, h5, h6⟩ := H.c4
          go_wp2_with fail
          go_ret
          exact ⟨rfl, H.below⟩
set_option maxRecDepth 100000 in
set_option maxHeartbeats 8000000 in
theorem foldTestS_any (S : ByteArray) (hS : S.size ≤ 1000) : ∀ (k : Nd) (p : Nat) (r : List UInt8) (w : World), ok false 1 k = true → S.data.toList.drop p = k.text ++ r →
    Calls Try.prog 80 #[.string S, .int .i64 (p : Int)] w fun e w' => (e = .returned (.tuple #[.string (bs (foldT k).text), .int .i64 ((p : Int) + k.text.length)]) ∧ Below w.heap.size w w') := by
  intro k
  induction k with
  | n0 c =>
    intro p r w hok hd
    obtain ⟨hp, hc⟩ := parts_nil hd
    have hex := extract_one hp
    rw [hc] at hex
    have hf : bs (foldT (.n0 c)).text = ⟨#[c]⟩ := rfl
    rw [hf]
    have hf2 : (p : Int) + (Nd.n0 c).text.length = (p : Int) + 1 := by simp [Nd.text]
    rw [hf2]
    simp only [ok, Bool.or_eq_true, beq_iff_eq] at hok
    clear hd hf hf2
    rcases hok with rfl | rfl
    all_goals
      go_enter Try.func80, Try.ntmps80
      go_wp2_with fail
      go_ret2
      exact ⟨(by first | trivial | rfl), Below.refl _ _⟩
  | n3 => intro p r w hok; simp [ok] at hok
  | n1 o a iha =>
    intro p r w hok hd
    simp only [ok, Bool.and_eq_true, beq_iff_eq] at hok
    obtain ⟨rfl, ha⟩ := hok
    obtain ⟨hp, hc, hd1, ql, qf⟩ := parts_one hd
    rw [qf]
    have A1 := Lib.hid (fun w => iha (p + 1) r w ha hd1)
    have la := foldT_len a
    have hA : (bs (foldT a).text).size ≤ 1000 := by rw [bs_size]; omega
    clear iha hd hd1 la qf
    generalize a.text.length = la at *
    have hft : foldT (.n1 33 a) = neg 33 (foldT a) := rfl
    rw [hft]
    clear hft
    generalize foldT a = x at *
    obtain ⟨a1, b1⟩ := isC_beq 116 x
    obtain ⟨a2, b2⟩ := isC_beq 102 x
    cases c1 : isC 116 x
    · rw [c1] at a1 b1
      cases c2 : isC 102 x
      · rw [c2] at a2 b2
        have hf : bs (neg 33 x).text = (⟨#[33]⟩ : ByteArray) ++ bs x.text := by simp only [neg, c1, c2, Bool.false_eq_true, if_false]; exact bs_one 33 x
        rw [hf]
        clear c1 c2 hf
        generalize bs x.text = A at *
        have z1 : 1 + A.size ≤ 9223372036854775807 := by omega
        go_enter Try.func80, Try.ntmps80
        go_wp2_with fail
        refine (A1.out _).mono ?_
        rintro e w1 ⟨rfl, hb1⟩
        have BB := Lib.hid hb1
        clear hb1
        go_wp2_with fail
        go_ret2
        exact ⟨(by first | trivial | rfl), BB.out⟩
      · have hf : bs (neg 33 x).text = (⟨#[116]⟩ : ByteArray) := by simp only [neg, c1, c2, Bool.false_eq_true, if_false, if_true]; rfl
        rw [hf]
        rw [isC_bs c2] at A1
        clear c1 c2 a1 b1 a2 b2 hf hA
        go_enter Try.func80, Try.ntmps80
        go_wp2_with fail
        refine (A1.out _).mono ?_
        rintro e w1 ⟨rfl, hb1⟩
        have BB := Lib.hid hb1
        clear hb1
        go_wp2_with fail
        go_ret2
        exact ⟨(by first | trivial | rfl), BB.out⟩
    · have hf : bs (neg 33 x).text = (⟨#[102]⟩ : ByteArray) := by simp only [neg, c1, if_true]; rfl
      rw [hf]
      rw [isC_bs c1] at A1
      clear c1 a1 b1 a2 b2 hf hA
      go_enter Try.func80, Try.ntmps80
      go_wp2_with fail
      refine (A1.out _).mono ?_
      rintro e w1 ⟨rfl, hb1⟩
      have BB := Lib.hid hb1
      clear hb1
      go_wp2_with fail
      go_ret2
      exact ⟨(by first | trivial | rfl), BB.out⟩
  | n2 o a b iha ihb =>
    intro p r w hok hd
    simp only [ok, Bool.and_eq_true, Bool.or_eq_true, beq_iff_eq] at hok
    obtain ⟨hp, hc, hd1, hd2, ql, qf⟩ := parts_two hd
    rw [qf]
    have hex := extract_one hp
    rw [hc] at hex
    rcases hok with ⟨ho, ha, hb⟩ | ⟨ho, ha, hb⟩
    · have fa := fold_ok ha
      have fb := fold_ok hb
      have la := fold_len a
      have lb := fold_len b
      have two := bs_two o (fold a) (fold b)
      have hk2 : ok false 1 (.n2 o (fold a) (fold b)) = true := by simp [ok, ho, fa, fb]
      have hdg := dg3_iff ho fa fb
      have hA : (bs (fold a).text).size ≤ 1000 := by rw [bs_size]; omega
      have hB : (bs (fold b).text).size ≤ 1000 := by rw [bs_size]; omega
      have hA0 : 1 ≤ (bs (fold a).text).size := by rw [bs_size]; exact text_pos _
      have hB0 : 1 ≤ (bs (fold b).text).size := by rw [bs_size]; exact text_pos _
      rw [← bs_size (fold a).text, ← bs_size (fold b).text] at hdg
      have A1 := Lib.hid (fun w => foldS_any S hS a (p + 1) (b.text ++ r) w ha hd1)
      have B1 := Lib.hid (fun w => foldS_any S hS b (p + 1 + a.text.length) r w hb hd2)
      have VV := Lib.hid (fun w => l1Vars_any ((⟨#[o]⟩ : ByteArray) ++ bs (fold a).text ++ bs (fold b).text) (by simp only [ByteArray.size_append, size_one]; omega) true w)
      rw [show ((⟨#[o]⟩ : ByteArray) ++ bs (fold a).text ++ bs (fold b).text).data.toList = (Nd.n2 o (fold a) (fold b)).text by rw [← two, bs_list], show nms true = nmsW from rfl] at VV
      have hft : foldT (.n2 o a b) = cmp o (fold a) (fold b) := by show (if o = 61 ∨ o = 60 then _ else _) = _; rw [if_pos ho]
      rw [hft]
      clear hd hd1 hd2 iha ihb qf hft
      have z1 : 1 + (bs (fold a).text).size ≤ 9223372036854775807 := by omega
      have z2 : 1 + (bs (fold a).text).size + (bs (fold b).text).size ≤ 9223372036854775807 := by omega
      cases hd : isDg (fold a) && isDg (fold b)
      · have hf : bs (cmp o (fold a) (fold b)).text = (⟨#[o]⟩ : ByteArray) ++ bs (fold a).text ++ bs (fold b).text := by simp only [cmp, hd, Bool.false_eq_true, if_false, two]
        rw [hf]
        rw [hd] at hdg
        simp only [Bool.false_eq_true, false_iff] at hdg
        by_cases hAB : (bs (fold a).text).size = 1 ∧ (bs (fold b).text).size = 1
        · have hL : vars nmsW (Nd.n2 o (fold a) (fold b)).text ≠ [] := fun h => hdg ⟨hAB, h⟩
          obtain ⟨VB, hVB⟩ : ∃ B : ByteArray, ⟨(vars nmsW (Nd.n2 o (fold a) (fold b)).text).toArray⟩ = B := ⟨_, rfl⟩
          have hE : VB.toList.isEmpty = false := by
            rw [ByteArray.toList_eq, ← hVB]
            simpa using hL
          have hE2 : VB.toList ≠ [] := by simpa using hE
          simp only [str, hVB] at VV
          obtain ⟨hA1, hB1⟩ := hAB
          have a3 : (bs (fold a).text).size ≤ 1 := by omega
          have b3 : (bs (fold b).text).size ≤ 1 := by omega
          clear hL hVB hdg hd hf two hA1 hB1 fa fb hk2 la lb
          generalize a.text.length = la at *
          generalize b.text.length = lb at *
          generalize bs (fold a).text = A at *
          generalize bs (fold b).text = B at *
          rcases ho with rfl | rfl
          all_goals
            go_enter Try.func80, Try.ntmps80
            go_wp2_with fail
            refine (A1.out _).mono ?_
            rintro e w1 ⟨rfl, hb1⟩
            have BB := Lib.hid hb1
            clear hb1
            go_wp2_with fail
            refine (B1.out _).mono ?_
            rintro e w2 ⟨rfl, hb2⟩
            replace BB := Lib.hid (below_2 BB.out hb2)
            clear hb2
            go_wp2_with fail
            refine (VV.out _).mono ?_
            rintro e w' ⟨rfl, rfl⟩
            go_wp2_with fail
            go_ret2
            exact ⟨(by first | trivial | rfl), BB.out⟩
        · have hAB2 : ¬ (bs (fold a).text).size + (bs (fold b).text).size = 2 := by omega
          clear hAB hdg hd hf two fa fb hk2 la lb VV
          generalize a.text.length = la at *
          generalize b.text.length = lb at *
          generalize bs (fold a).text = A at *
          generalize bs (fold b).text = B at *
          have hne : ((1 + (A.size : Int) + (B.size : Int)) == 3) = false := by simp; omega
          clear hAB2
          rcases ho with rfl | rfl
          all_goals
            go_enter Try.func80, Try.ntmps80
            go_wp2_with fail
            refine (A1.out _).mono ?_
            rintro e w1 ⟨rfl, hb1⟩
            have BB := Lib.hid hb1
            clear hb1
            go_wp2_with fail
            refine (B1.out _).mono ?_
            rintro e w2 ⟨rfl, hb2⟩
            replace BB := Lib.hid (below_2 BB.out hb2)
            clear hb2
            go_wp2_with fail
            go_ret2
            exact ⟨(by first | trivial | rfl), BB.out⟩
      · rw [hd] at hdg
        obtain ⟨⟨hA1, hB1⟩, hL⟩ := hdg.1 rfl
        have hf : cmp o (fold a) (fold b) = tf (tru (fun _ => 0) (.n2 o (fold a) (fold b))) := by simp only [cmp, hd, if_true]
        rw [hL, show str [] = .string ⟨#[]⟩ from rfl] at VV
        have EV := Lib.hid (fun w => holdsS_any ((⟨#[o]⟩ : ByteArray) ++ bs (fold a).text ++ bs (fold b).text) (by simp only [ByteArray.size_append, size_one]; omega) 0 0 0 0 0 0 ⟨by omega, by omega⟩ ⟨by omega, by omega⟩ ⟨by omega, by omega⟩ ⟨by omega, by omega⟩ ⟨by omega, by omega⟩ ⟨by omega, by omega⟩ false (.n2 o (fold a) (fold b)) 0 [] w hk2 (by rw [← two, bs_list]; simp))
        rw [env_zero] at EV
        obtain ⟨n, hn⟩ : ∃ n, tru (fun _ => 0) (.n2 o (fold a) (fold b)) = n := ⟨_, rfl⟩
        rw [hn] at EV hf
        rw [hf]
        have a3 : (bs (fold a).text).size ≤ 1 := by omega
        have b3 : (bs (fold b).text).size ≤ 1 := by omega
        have LI := Lib.hid (fun w => l11Int_any n w)
        generalize (Nd.n2 o (fold a) (fold b)).text.length = lab at *
        clear hdg hd hf two hA1 hB1 hL hn fa fb hk2 la lb
        generalize a.text.length = la at *
        generalize b.text.length = lb at *
        generalize bs (fold a).text = A at *
        generalize bs (fold b).text = B at *
        have x1 : (⟨#[102, 116]⟩ : ByteArray).extract 0 1 = ⟨#[102]⟩ := by rfl
        have x2 : (⟨#[102, 116]⟩ : ByteArray).extract 1 2 = ⟨#[116]⟩ := by rfl
        cases n
        all_goals
          simp only [Bool.false_eq_true, if_false, if_true] at LI
          rcases ho with rfl | rfl
          all_goals
            go_enter Try.func80, Try.ntmps80
            go_wp2_with fail
            refine (A1.out _).mono ?_
            rintro e w1 ⟨rfl, hb1⟩
            have BB := Lib.hid hb1
            clear hb1
            go_wp2_with fail
            refine (B1.out _).mono ?_
            rintro e w2 ⟨rfl, hb2⟩
            replace BB := Lib.hid (below_2 BB.out hb2)
            clear hb2
            go_wp2_with fail
            refine (VV.out _).mono ?_
            rintro e w' ⟨rfl, rfl⟩
            go_wp2_with fail
            refine (EV.out _).mono ?_
            rintro e w3 ⟨rfl, hb⟩
            replace BB := Lib.hid (below_2 BB.out hb)
            clear hb
            go_wp2_with fail
            refine (LI.out _).mono ?_
            rintro e w' ⟨rfl, rfl⟩
            go_wp2_with fail
            refine (LI.out _).mono ?_
            rintro e w' ⟨rfl, rfl⟩
            go_wp2_with fail
            go_ret2
            exact ⟨(by first | trivial | rfl), BB.out⟩
    · have A1 := Lib.hid (fun w => iha (p + 1) (b.text ++ r) w ha hd1)
      have B1 := Lib.hid (fun w => ihb (p + 1 + a.text.length) r w hb hd2)
      have la := foldT_len a
      have lb := foldT_len b
      have hA : (bs (foldT a).text).size ≤ 1000 := by rw [bs_size]; omega
      have hB : (bs (foldT b).text).size ≤ 1000 := by rw [bs_size]; omega
      have z1 : 1 + (bs (foldT a).text).size ≤ 9223372036854775807 := by omega
      have z2 : 1 + (bs (foldT a).text).size + (bs (foldT b).text).size ≤ 9223372036854775807 := by omega
      have hft : foldT (.n2 o a b) = con o (foldT a) (foldT b) := by
        have hn : ¬ (o = 61 ∨ o = 60) := by rcases ho with rfl | rfl <;> decide
        show (if o = 61 ∨ o = 60 then _ else _) = _
        rw [if_neg hn]
      rw [hft]
      clear iha ihb hft la lb ha hb hd hd1 hd2 qf
      generalize a.text.length = la at *
      generalize b.text.length = lb at *
      generalize foldT a = x at *
      generalize foldT b = y at *
      obtain ⟨a1, b1⟩ := isC_beq (zer o) x
      obtain ⟨a2, b2⟩ := isC_beq (zer o) y
      obtain ⟨a3, b3⟩ := isC_beq (uni o) x
      obtain ⟨a4, b4⟩ := isC_beq (uni o) y
      have two := bs_two o x y
      cases c1 : isC (zer o) x
      · rw [c1] at a1 b1
        cases c2 : isC (zer o) y
        · rw [c2] at a2 b2
          cases c3 : isC (uni o) x
          · rw [c3] at a3 b3
            cases c4 : isC (uni o) y
            · rw [c4] at a4 b4
              have hf : bs (con o x y).text = (⟨#[o]⟩ : ByteArray) ++ bs x.text ++ bs y.text := by simp only [con, c1, c2, c3, c4, Bool.or_self, Bool.false_eq_true, if_false, two]
              rw [hf]
              clear c1 c2 c3 c4 hf two
              generalize bs x.text = A at *
              generalize bs y.text = B at *
              rcases ho with rfl | rfl
              · skip
                try simp only [show zer 38 = 102 from rfl] at *
                try simp only [show uni 38 = 116 from rfl] at *
                go_enter Try.func80, Try.ntmps80
                go_wp2_with fail
                refine (A1.out _).mono ?_
                rintro e w1 ⟨rfl, hb1⟩
                have BB := Lib.hid hb1
                clear hb1
                go_wp2_with fail
                refine (B1.out _).mono ?_
                rintro e w2 ⟨rfl, hb2⟩
                replace BB := Lib.hid (below_2 BB.out hb2)
                clear hb2
                go_wp2_with fail
                go_ret2
                exact ⟨(by first | trivial | rfl), BB.out⟩
              · skip
                try simp only [show zer 124 = 116 from rfl] at *
                try simp only [show uni 124 = 102 from rfl] at *
                go_enter Try.func80, Try.ntmps80
                go_wp2_with fail
                refine (A1.out _).mono ?_
                rintro e w1 ⟨rfl, hb1⟩
                have BB := Lib.hid hb1
                clear hb1
                go_wp2_with fail
                refine (B1.out _).mono ?_
                rintro e w2 ⟨rfl, hb2⟩
                replace BB := Lib.hid (below_2 BB.out hb2)
                clear hb2
                go_wp2_with fail
                go_ret2
                exact ⟨(by first | trivial | rfl), BB.out⟩
            · have hf : bs (con o x y).text = bs x.text := by simp only [con, c1, c2, c3, c4, Bool.or_self, Bool.false_eq_true, if_false, if_true]
              rw [hf]
              rw [isC_bs c4] at B1 z2
              clear c1 c2 c3 c4 hf two a2 b2 a4 b4 hB
              generalize bs x.text = A at *
              rcases ho with rfl | rfl
              · skip
                try simp only [show zer 38 = 102 from rfl] at *
                try simp only [show uni 38 = 116 from rfl] at *
                go_enter Try.func80, Try.ntmps80
                go_wp2_with fail
                refine (A1.out _).mono ?_
                rintro e w1 ⟨rfl, hb1⟩
                have BB := Lib.hid hb1
                clear hb1
                go_wp2_with fail
                refine (B1.out _).mono ?_
                rintro e w2 ⟨rfl, hb2⟩
                replace BB := Lib.hid (below_2 BB.out hb2)
                clear hb2
                go_wp2_with fail
                go_ret2
                exact ⟨(by first | trivial | rfl), BB.out⟩
              · skip
                try simp only [show zer 124 = 116 from rfl] at *
                try simp only [show uni 124 = 102 from rfl] at *
                go_enter Try.func80, Try.ntmps80
                go_wp2_with fail
                refine (A1.out _).mono ?_
                rintro e w1 ⟨rfl, hb1⟩
                have BB := Lib.hid hb1
                clear hb1
                go_wp2_with fail
                refine (B1.out _).mono ?_
                rintro e w2 ⟨rfl, hb2⟩
                replace BB := Lib.hid (below_2 BB.out hb2)
                clear hb2
                go_wp2_with fail
                go_ret2
                exact ⟨(by first | trivial | rfl), BB.out⟩
          · have hf : bs (con o x y).text = bs y.text := by simp only [con, c1, c2, c3, Bool.or_self, Bool.false_eq_true, if_false, if_true]
            rw [hf]
            rw [isC_bs c3] at A1 z1 z2
            clear c1 c2 c3 hf two a1 b1 a3 b3 a4 b4 hA
            generalize bs y.text = B at *
            rcases ho with rfl | rfl
            · skip
              try simp only [show zer 38 = 102 from rfl] at *
              try simp only [show uni 38 = 116 from rfl] at *
              go_enter Try.func80, Try.ntmps80
              go_wp2_with fail
              refine (A1.out _).mono ?_
              rintro e w1 ⟨rfl, hb1⟩
              have BB := Lib.hid hb1
              clear hb1
              go_wp2_with fail
              refine (B1.out _).mono ?_
              rintro e w2 ⟨rfl, hb2⟩
              replace BB := Lib.hid (below_2 BB.out hb2)
              clear hb2
              go_wp2_with fail
              go_ret2
              exact ⟨(by first | trivial | rfl), BB.out⟩
            · skip
              try simp only [show zer 124 = 116 from rfl] at *
              try simp only [show uni 124 = 102 from rfl] at *
              go_enter Try.func80, Try.ntmps80
              go_wp2_with fail
              refine (A1.out _).mono ?_
              rintro e w1 ⟨rfl, hb1⟩
              have BB := Lib.hid hb1
              clear hb1
              go_wp2_with fail
              refine (B1.out _).mono ?_
              rintro e w2 ⟨rfl, hb2⟩
              replace BB := Lib.hid (below_2 BB.out hb2)
              clear hb2
              go_wp2_with fail
              go_ret2
              exact ⟨(by first | trivial | rfl), BB.out⟩
        · have hf : bs (con o x y).text = ⟨#[zer o]⟩ := by simp only [con, c1, c2, Bool.or_true, if_true]; rfl
          rw [hf]
          rw [isC_bs c2] at B1 z2
          clear c1 c2 hf two a2 b2 a3 b3 a4 b4 hB
          generalize bs x.text = A at *
          rcases ho with rfl | rfl
          · skip
            try simp only [show zer 38 = 102 from rfl] at *
            try simp only [show uni 38 = 116 from rfl] at *
            go_enter Try.func80, Try.ntmps80
            go_wp2_with fail
            refine (A1.out _).mono ?_
            rintro e w1 ⟨rfl, hb1⟩
            have BB := Lib.hid hb1
            clear hb1
            go_wp2_with fail
            refine (B1.out _).mono ?_
            rintro e w2 ⟨rfl, hb2⟩
            replace BB := Lib.hid (below_2 BB.out hb2)
            clear hb2
            go_wp2_with fail
            go_ret2
            exact ⟨(by first | trivial | rfl), BB.out⟩
          · skip
            try simp only [show zer 124 = 116 from rfl] at *
            try simp only [show uni 124 = 102 from rfl] at *
            go_enter Try.func80, Try.ntmps80
            go_wp2_with fail
            refine (A1.out _).mono ?_
            rintro e w1 ⟨rfl, hb1⟩
            have BB := Lib.hid hb1
            clear hb1
            go_wp2_with fail
            refine (B1.out _).mono ?_
            rintro e w2 ⟨rfl, hb2⟩
            replace BB := Lib.hid (below_2 BB.out hb2)
            clear hb2
            go_wp2_with fail
            go_ret2
            exact ⟨(by first | trivial | rfl), BB.out⟩
      · have hf : bs (con o x y).text = ⟨#[zer o]⟩ := by simp only [con, c1, Bool.true_or, if_true]; rfl
        rw [hf]
        rw [isC_bs c1] at A1 z1 z2
        clear c1 hf two a1 b1 a2 b2 a3 b3 a4 b4 hA
        generalize bs y.text = B at *
        rcases ho with rfl | rfl
        · skip
          try simp only [show zer 38 = 102 from rfl] at *
          try simp only [show uni 38 = 116 from rfl] at *
          go_enter Try.func80, Try.ntmps80
          go_wp2_with fail
          refine (A1.out _).mono ?_
          rintro e w1 ⟨rfl, hb1⟩
          have BB := Lib.hid hb1
          clear hb1
          go_wp2_with fail
          refine (B1.out _).mono ?_
          rintro e w2 ⟨rfl, hb2⟩
          replace BB := Lib.hid (below_2 BB.out hb2)
          clear hb2
          go_wp2_with fail
          go_ret2
          exact ⟨(by first | trivial | rfl), BB.out⟩
        · skip
          try simp only [show zer 124 = 116 from rfl] at *
          try simp only [show uni 124 = 102 from rfl] at *
          go_enter Try.func80, Try.ntmps80
          go_wp2_with fail
          refine (A1.out _).mono ?_
          rintro e w1 ⟨rfl, hb1⟩
          have BB := Lib.hid hb1
          clear hb1
          go_wp2_with fail
          refine (B1.out _).mono ?_
          rintro e w2 ⟨rfl, hb2⟩
          replace BB := Lib.hid (below_2 BB.out hb2)
          clear hb2
          go_wp2_with fail
          go_ret2
          exact ⟨(by first | trivial | rfl), BB.out⟩
set_option maxHeartbeats 1000000 in
theorem FoldTest_any (S : ByteArray) (hS : S.size ≤ 1000000000000) (w : World) : Calls Try.prog 35 #[.string S] w fun e w' => (e = .returned (.tuple #[.string (bs (optT ((whole false 1 200 S.data.toList).map foldT))), .bool ((whole false 1 200 S.data.toList).map foldT).isSome]) ∧ Below w.heap.size w w') := by
  have R := Lib.hid (parseTest_any S hS w)
  cases ho : whole false 1 200 S.data.toList with
  | none =>
    rw [ho] at R
    clear ho
    simp only [Option.map_none, optT, Option.isSome_none] at R ⊢
    go_enter Try.func35, Try.ntmps35
    go_wp2_with fail
    refine R.out.mono ?_
    rintro e w1 ⟨hb1, rfl⟩
    have B1 := Lib.hid hb1
    clear R hb1
    go_wp2_with fail
    go_ret2
    exact ⟨(by first | trivial | rfl), B1.out⟩
  | some k =>
    rw [ho] at R
    obtain ⟨hl, hk, ht⟩ := (whole_iff (by omega)).1 ho
    rw [ht] at hl
    have FX := Lib.hid (fun b w h => foldTest_any k b w hk (by omega) h)
    simp only [Option.map_some, optT, Option.isSome_some] at R ⊢
    clear ho hl hk ht
    go_enter Try.func35, Try.ntmps35
    go_wp2_with fail
    refine R.out.mono ?_
    rintro e w1 ⟨hb1, b, rfl, hin⟩
    have B1 := Lib.hid hb1
    have I1 := Lib.hid hin
    clear R hb1 hin
    go_wp2_with fail
    refine (FX.out _ _ I1.out).mono ?_
    rintro e w2 ⟨rfl, hb2⟩
    have B2 := Lib.hid (below_2 B1.out hb2)
    clear hb2
    go_wp2_with fail
    go_ret2
    exact ⟨(by first | trivial | rfl), B2.out⟩
set_option maxHeartbeats 1000000 in
theorem FoldTestS_any (S : ByteArray) (hS : S.size ≤ 1000000000000) (w : World) : Calls Try.prog 36 #[.string S] w fun e w' => (e = .returned (.tuple #[.string (bs (optT ((whole false 1 200 S.data.toList).map foldT))), .bool ((whole false 1 200 S.data.toList).map foldT).isSome]) ∧ Below w.heap.size w w') := by
  have R := Lib.hid (TestValidS_any S w hS)
  cases ho : whole false 1 200 S.data.toList with
  | none =>
    rw [ho] at R
    clear ho
    simp only [Option.map_none, optT, Option.isSome_none] at R ⊢
    go_enter Try.func36, Try.ntmps36
    go_wp2_with fail
    refine R.out.mono ?_
    rintro e w1 ⟨rfl, hb1⟩
    have B1 := Lib.hid (below_of_drewN hb1)
    clear R hb1
    go_wp2_with fail
    go_ret2
    exact ⟨(by first | trivial | rfl), B1.out⟩
  | some k =>
    rw [ho] at R
    obtain ⟨hl, hk, ht⟩ := (whole_iff (by omega)).1 ho
    have hz : S.size ≤ 1000 := by have := len_S S; omega
    have FX := Lib.hid (fun w => foldTestS_any S hz k 0 [] w hk (by rw [List.drop_zero, List.append_nil]; exact ht))
    simp only [Option.map_some, optT, Option.isSome_some] at R ⊢
    clear ho hl hk ht
    go_enter Try.func36, Try.ntmps36
    go_wp2_with fail
    refine R.out.mono ?_
    rintro e w1 ⟨rfl, hb1⟩
    have B1 := Lib.hid (below_of_drewN hb1)
    clear R hb1
    go_wp2_with fail
    refine (FX.out _).mono ?_
    rintro e w2 ⟨rfl, hb2⟩
    have B2 := Lib.hid (below_2 B1.out hb2)
    clear hb2
    go_wp2_with fail
    go_ret2
    exact ⟨(by first | trivial | rfl), B2.out⟩

end Go.Proofs.Ytppcghklkldnaab
