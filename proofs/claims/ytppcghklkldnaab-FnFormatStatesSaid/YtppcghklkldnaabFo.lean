/- Folded expressions: the program's and the reference's. -/
import Derived.Test.YtppcghklkldnaabBs
import Derived.Test.YtppcghklkldnaabPlf
import Derived.Test.YtppcghklkldnaabVr
import Derived.Test.YtppcghklkldnaabCh
import Derived.Test.YtppcghklkldnaabEvd
import Derived.Test.YtppcghklkldnaabDrb
namespace Go.Proofs.Ytppcghklkldnaab
open Go.RowKit
open Pl

theorem enc_op {o : UInt8} (h : isO o = true) : Utf8.encode (IntKind.i32.wrap (o.toNat : Int)) = ⟨#[o]⟩ ∧ Utf8.encode (wrap32 (o.toNat : Int)) = ⟨#[o]⟩ := by
  rcases isO_cases h with rfl | rfl | rfl
  · exact ⟨by kernel_rfl, by kernel_rfl⟩
  · exact ⟨by kernel_rfl, by kernel_rfl⟩
  · exact ⟨by kernel_rfl, by kernel_rfl⟩
theorem isV_of_D' {c : UInt8} (h : isD c = true) : isV true c = false := by
  have h1 := isD_range h
  cases hv : isV true c with
  | false => rfl
  | true =>
    have hm := (mem_nms (wd := true)).2 hv
    simp only [nms, if_true, nmsW, List.mem_cons, List.not_mem_nil, or_false] at hm
    rcases hm with rfl | rfl | rfl | rfl | rfl | rfl <;> simp at h1
theorem dg_iff {x y : Nd} (hx : ok false 0 x = true) (hy : ok false 0 y = true) : (isDg x && isDg y) = true ↔ x.text.length = 1 ∧ y.text.length = 1 ∧ vars nmsW (x.text ++ y.text) = [] := by
  have big : ∀ {o : UInt8} {a b : Nd}, (Nd.n2 o a b).text.length ≠ 1 := by
    intro o a b h
    have := text_pos a
    have := text_pos b
    simp only [Nd.text, List.length_cons, List.length_append] at h
    omega
  cases x with
  | n1 o a => simp [ok] at hx
  | n3 o a b c => simp [ok] at hx
  | n2 o a b => simp only [isDg, Bool.false_and, Bool.false_eq_true, false_iff]; exact fun h => big h.1
  | n0 c =>
    cases y with
    | n1 o a => simp [ok] at hy
    | n3 o a b c => simp [ok] at hy
    | n2 o a b => simp only [isDg, Bool.and_false, Bool.false_eq_true, false_iff]; exact fun h => big h.2.1
    | n0 d =>
      simp only [ok, Bool.or_eq_true] at hx hy
      simp only [isDg, Nd.text, List.length_singleton, true_and, Bool.and_eq_true]
      constructor
      · rintro ⟨h1, h2⟩
        rw [List.eq_nil_iff_forall_not_mem]
        intro v hv
        obtain ⟨hv1, hv2⟩ := mem_vars.1 hv
        have hvv : isV true v = true := mem_nms.1 (show v ∈ nms true from hv1)
        simp only [List.cons_append, List.nil_append, List.mem_cons, List.not_mem_nil, or_false] at hv2
        rcases hv2 with rfl | rfl
        · rw [isV_of_D' h1] at hvv; cases hvv
        · rw [isV_of_D' h2] at hvv; cases hvv
      · intro h
        have hno : ∀ e, e = c ∨ e = d → isV false e = true → False := fun e he hv => by
          have : e ∈ vars nmsW ([c] ++ [d]) := mem_vars.2 ⟨show e ∈ nms true from mem_nms.2 (isV_wide hv true), by simp; exact he⟩
          rw [h] at this; cases this
        exact ⟨hx.resolve_left (fun h1 => hno c (.inl rfl) h1), hy.resolve_left (fun h1 => hno d (.inr rfl) h1)⟩
theorem env_zero : envOf 0 0 0 0 0 0 = fun _ => 0 := by
  funext c; unfold envOf; repeat' split
  all_goals rfl
theorem fold_two_yes {o : UInt8} {a b : Nd} (h : (isDg (fold a) && isDg (fold b)) = true) : fold (.n2 o a b) = .n0 (digOf (val (fun _ => 0) (.n2 o (fold a) (fold b)))) := by
  show (if (isDg (fold a) && isDg (fold b)) = true then _ else _) = _
  rw [if_pos h]
theorem fold_two_no {o : UInt8} {a b : Nd} (h : (isDg (fold a) && isDg (fold b)) = false) : fold (.n2 o a b) = .n2 o (fold a) (fold b) := by
  show (if (isDg (fold a) && isDg (fold b)) = true then _ else _) = _
  rw [if_neg (by rw [h]; decide)]

set_option maxHeartbeats 1000000 in
theorem isDigit_any (k : Nd) (hk : ok false 0 k = true) (w : World) : Calls Try.prog 111 #[.string (bs k.text)] w fun e w' => e = .returned (.bool (isDg k)) ∧ w = w' := by
  cases k with
  | n1 o a => simp [ok] at hk
  | n3 o a b c => simp [ok] at hk
  | n2 o a b =>
    have hz : ((bs (Nd.n2 o a b).text).size : Int) ≠ 1 := by
      rw [bs_size]
      have := text_pos a
      have := text_pos b
      simp only [Nd.text, List.length_cons, List.length_append]
      omega
    have hz' : (((bs (Nd.n2 o a b).text).size : Int) == 1) = false := by simpa using hz
    generalize bs (Nd.n2 o a b).text = S at *
    simp only [isDg]
    clear hz hk
    go_enter Try.func111, Try.ntmps111
    go_wp2_with fail
    go_ret
    exact ⟨rfl, rfl⟩
  | n0 c =>
    show Calls Try.prog 111 #[.string ⟨#[c]⟩] w fun e w' => e = .returned (.bool (isD c)) ∧ w = w'
    clear hk
    obtain ⟨S, h0, e, hz, hc⟩ : ∃ (S : ByteArray) (h : 0 < S.size), (⟨#[c]⟩ : ByteArray) = S ∧ S.size ≤ 1 ∧ S[0] = c := ⟨⟨#[c]⟩, Nat.zero_lt_one, rfl, Nat.le_refl _, rfl⟩
    rw [e]
    clear e
    by_cases h1 : 48 ≤ c.toNat
    · by_cases h2 : c.toNat ≤ 50
      · have hd : isD c = true := by simp only [isD, Bool.and_eq_true, decide_eq_true_eq, UInt8.le_iff_toNat_le]; exact ⟨h1, h2⟩
        rw [hd]
        clear hd
        go_enter Try.func111, Try.ntmps111
        go_wp2_with fail
        go_ret
        exact ⟨ret_bool (by simp; omega), rfl⟩
      · have hd : isD c = false := by
          cases h : isD c with
          | false => rfl
          | true => have := isD_range h; omega
        rw [hd]
        clear hd
        go_enter Try.func111, Try.ntmps111
        go_wp2_with fail
        go_ret
        exact ⟨ret_bool (by simp; omega), rfl⟩
    · have hd : isD c = false := by
        cases h : isD c with
        | false => rfl
        | true => have := isD_range h; omega
      rw [hd]
      clear hd
      go_enter Try.func111, Try.ntmps111
      go_wp2_with fail
      go_ret
      exact ⟨ret_bool (by simp <;> omega), rfl⟩
set_option maxHeartbeats 4000000 in
theorem foldExpr_any : ∀ (k : Nd) (b : Nat) (w : World), ok false 0 k = true → k.text.length ≤ 1000 → In w k b →
    Calls Try.prog 110 #[.pointer (some ⟨b, 0, none⟩)] w fun e w' => (e = .returned (.string (bs (fold k).text)) ∧ Below w.heap.size w w') := by
  intro k
  induction k with
  | n0 c =>
    intro b w hok hl hin
    obtain ⟨_, _, h1, h2⟩ := hin
    have hf : bs (fold (.n0 c)).text = ⟨#[c]⟩ := rfl
    rw [hf]
    clear hl hok
    go_enter Try.func110, Try.ntmps110
    go_wp2_with fail
    go_ret
    exact ⟨rfl, Below.refl _ _⟩
  | n1 | n3 => intro b w hok; simp [ok] at hok
  | n2 o p q ihp ihq =>
    intro b w hok hl hin
    simp only [ok, Bool.and_eq_true] at hok
    obtain ⟨ho, hp, hq⟩ := hok
    obtain ⟨g, c, pb, qb, ⟨hb0, h1, h2, _⟩, hg0, hc, h5, h6, ip, iq⟩ := hin
    simp only [Nd.text, List.length_cons, List.length_append] at hl
    have H : Sit w w [(⟨b, 0, none⟩, .int .u8 o.toNat), (⟨b, 1, none⟩, .slice (some ⟨g, 0, none⟩) 2 c), (⟨g, 1, none⟩, .pointer (some ⟨qb, 0, none⟩))] :=
      (((Sit.refl w).more (p := ⟨g, 1, none⟩) hg0 h6).more (p := ⟨b, 1, none⟩) hb0 h2).more (p := ⟨b, 0, none⟩) hb0 h1
    have P1 := Lib.hid (ihp pb w hp (by omega) ip)
    have IQ := Lib.hid iq
    have Q1 := Lib.hid (fun w h => ihq qb w hq (by omega) h)
    have fa := fold_ok hp
    have fb := fold_ok hq
    have la := fold_len p
    have lb := fold_len q
    have DA := Lib.hid (fun w => isDigit_any (fold p) fa w)
    have DB := Lib.hid (fun w => isDigit_any (fold q) fb w)
    obtain ⟨en, en'⟩ := enc_op ho
    have two := bs_two o (fold p) (fold q)
    have hk2 : ok false 0 (.n2 o (fold p) (fold q)) = true := by simp [ok, ho, fa, fb]
    have hA : (bs (fold p).text).size ≤ 1000 := by rw [bs_size]; omega
    have hB : (bs (fold q).text).size ≤ 1000 := by rw [bs_size]; omega
    have z1 : 1 + (bs (fold p).text).size ≤ 9223372036854775807 := by omega
    have z2 : 1 + (bs (fold p).text).size + (bs (fold q).text).size ≤ 9223372036854775807 := by omega
    clear ihp ihq ip iq hb0 hg0
    -- the two ways
    cases hd : isDg (fold p) && isDg (fold q)
    · have hf : bs (fold (.n2 o p q)).text = (⟨#[o]⟩ : ByteArray) ++ bs (fold p).text ++ bs (fold q).text := by rw [fold_two_no hd, two]
      rw [hf]
      cases hda : isDg (fold p)
      · rw [hda] at DA
        clear hd hda hf two
        generalize bs (fold p).text = A at *
        generalize bs (fold q).text = B at *
        go_enter Try.func110, Try.ntmps110
        go_wp2_with fail
        refine P1.out.mono ?_
        rintro e w1 ⟨rfl, hb⟩
        have I1 := Lib.hid (IQ.out.below hb (Nat.le_refl _))
        replace H := H.call hb
        clear h1 h2 h5 h6 hb
        obtain ⟨h1, h2, h6⟩ := H.c3
        go_wp2_with fail
        refine (Q1.out _ I1.out).mono ?_
        rintro e w2 ⟨rfl, hb⟩
        replace H := H.call hb
        clear h1 h2 h6 hb
        obtain ⟨h1, h2, h6⟩ := H.c3
        go_wp2_with fail
        refine (DA.out _).mono ?_
        rintro e w' ⟨rfl, rfl⟩
        go_wp2_with fail
        go_ret
        exact ⟨rfl, H.below⟩
      · have hdb : isDg (fold q) = false := by rw [hda] at hd; simpa using hd
        rw [hda] at DA
        rw [hdb] at DB
        clear hd hda hdb hf two
        generalize bs (fold p).text = A at *
        generalize bs (fold q).text = B at *
        go_enter Try.func110, Try.ntmps110
        go_wp2_with fail
        refine P1.out.mono ?_
        rintro e w1 ⟨rfl, hb⟩
        have I1 := Lib.hid (IQ.out.below hb (Nat.le_refl _))
        replace H := H.call hb
        clear h1 h2 h5 h6 hb
        obtain ⟨h1, h2, h6⟩ := H.c3
        go_wp2_with fail
        refine (Q1.out _ I1.out).mono ?_
        rintro e w2 ⟨rfl, hb⟩
        replace H := H.call hb
        clear h1 h2 h6 hb
        obtain ⟨h1, h2, h6⟩ := H.c3
        go_wp2_with fail
        refine (DA.out _).mono ?_
        rintro e w' ⟨rfl, rfl⟩
        go_wp2_with fail
        refine (DB.out _).mono ?_
        rintro e w' ⟨rfl, rfl⟩
        go_wp2_with fail
        go_ret
        exact ⟨rfl, H.below⟩
    · simp only [Bool.and_eq_true] at hd
      obtain ⟨hda, hdb⟩ := hd
      have hlen : (Nd.n2 o (fold p) (fold q)).text.length ≤ 200 := by
        obtain ⟨c1, e1, _⟩ := (isDg_text fa).1 hda
        obtain ⟨c2, e2, _⟩ := (isDg_text fb).1 hdb
        simp [Nd.text, e1, e2]
      have hf := fold_two_yes (o := o) (a := p) (b := q) (by rw [hda, hdb]; rfl)
      have hsm := val_small small0 (.n2 o (fold p) (fold q))
      have EV := Lib.hid (fun w => EvalExpr_any (bs (Nd.n2 o (fold p) (fold q)).text) (by rw [bs_size]; omega) 0 0 0 w)
      rw [bs_list, whole_text hk2 hlen, show stB 0 0 0 = true from rfl, env_zero, two] at EV
      simp only [evV, evO, Option.isSome_some, Bool.and_self, if_true] at EV
      obtain ⟨n, hn⟩ : ∃ n, val (fun _ => 0) (.n2 o (fold p) (fold q)) = n := ⟨_, rfl⟩
      rw [hn] at EV hf hsm
      rw [hf]
      rw [hda] at DA
      rw [hdb] at DB
      clear hda hdb hf two hn hlen hk2
      have en1 : Utf8.encode (IntKind.i32.wrap 48) = ⟨#[48]⟩ := by kernel_rfl
      have en2 : Utf8.encode (IntKind.i32.wrap 49) = ⟨#[49]⟩ := by kernel_rfl
      have en3 : Utf8.encode (IntKind.i32.wrap 50) = ⟨#[50]⟩ := by kernel_rfl
      generalize bs (fold p).text = A at *
      generalize bs (fold q).text = B at *
      have hn3 : n = 0 ∨ n = 1 ∨ n = 2 := by unfold small at hsm; omega
      clear hsm
      rcases hn3 with rfl | rfl | rfl
      all_goals
        go_enter Try.func110, Try.ntmps110
        go_wp2_with fail
        refine P1.out.mono ?_
        rintro e w1 ⟨rfl, hb⟩
        have I1 := Lib.hid (IQ.out.below hb (Nat.le_refl _))
        have H1 := H.call hb
        clear h1 h2 h5 h6 hb
        obtain ⟨h1, h2, h6⟩ := H1.c3
        go_wp2_with fail
        refine (Q1.out _ I1.out).mono ?_
        rintro e w2 ⟨rfl, hb⟩
        have H2 := H1.call hb
        clear h1 h2 h6 hb
        obtain ⟨h1, h2, h6⟩ := H2.c3
        go_wp2_with fail
        refine (DA.out _).mono ?_
        rintro e w' ⟨rfl, rfl⟩
        go_wp2_with fail
        refine (DB.out _).mono ?_
        rintro e w' ⟨rfl, rfl⟩
        go_wp2_with fail
        refine (EV.out _).mono ?_
        rintro e w3 ⟨rfl, hb⟩
        have H3 := H2.call hb
        clear hb
        go_wp2_with fail
        go_ret
        exact ⟨rfl, H3.below⟩
set_option maxHeartbeats 4000000 in
theorem foldS_any (S : ByteArray) (hS : S.size ≤ 1000) : ∀ (k : Nd) (p : Nat) (r : List UInt8) (w : World), ok false 0 k = true → S.data.toList.drop p = k.text ++ r →
    Calls Try.prog 114 #[.string S, .int .i64 (p : Int)] w fun e w' => (e = .returned (.tuple #[.string (bs (fold k).text), .int .i64 ((p : Int) + k.text.length)]) ∧ Below w.heap.size w w') := by
  intro k
  induction k with
  | n0 c =>
    intro p r w hok hd
    obtain ⟨hp, hc⟩ := parts_nil hd
    have hO : isO c = false := by
      cases h : isO c
      · rfl
      · rcases isO_cases h with rfl | rfl | rfl <;> exact absurd hok (by decide)
    have NV := Lib.hid (find_no (l := [43, 45, 42]) (c := c) (by decide) (fun h => by rw [mem_ops.1 h] at hO; cases hO))
    have hex := extract_one hp
    rw [hc] at hex
    have hf : bs (fold (.n0 c)).text = ⟨#[c]⟩ := rfl
    rw [hf]
    have hf2 : (p : Int) + (Nd.n0 c).text.length = (p : Int) + 1 := by simp [Nd.text]
    rw [hf2]
    clear hd hok hO hf hf2
    go_enter Try.func114, Try.ntmps114
    go_wp2_with fail
    refine (NV.out _).mono ?_
    rintro e w' ⟨rfl, rfl⟩
    go_wp2_with fail
    go_ret2
    exact ⟨(by first | trivial | rfl), Below.refl _ _⟩
  | n1 | n3 => intro p r w hok; simp [ok] at hok
  | n2 o a b iha ihb =>
    intro p r w hok hd
    simp only [ok, Bool.and_eq_true] at hok
    obtain ⟨ho, ha, hb⟩ := hok
    obtain ⟨hp, hc, hd1, hd2, ql, qf⟩ := parts_two hd
    rw [qf]
    obtain ⟨v, v0, v1, V⟩ := find_yes (l := [43, 45, 42]) (c := o) (by decide) (mem_ops.2 ho)
    have HV := Lib.hid V
    have fa := fold_ok ha
    have fb := fold_ok hb
    have la := fold_len a
    have lb := fold_len b
    have two := bs_two o (fold a) (fold b)
    have hk2 : ok false 0 (.n2 o (fold a) (fold b)) = true := by simp [ok, ho, fa, fb]
    have hdg := dg_iff fa fb
    have hA : (bs (fold a).text).size ≤ 1000 := by rw [bs_size]; omega
    have hB : (bs (fold b).text).size ≤ 1000 := by rw [bs_size]; omega
    rw [← bs_size (fold a).text, ← bs_size (fold b).text] at hdg
    have A1 := Lib.hid (fun w => iha (p + 1) (b.text ++ r) w ha hd1)
    have B1 := Lib.hid (fun w => ihb (p + 1 + a.text.length) r w hb hd2)
    have VV := Lib.hid (fun w => l1Vars_any (bs (fold a).text ++ bs (fold b).text) (by rw [ByteArray.size_append]; omega) true w)
    rw [bs_app, bs_list, show nms true = nmsW from rfl, ← bs_app] at VV
    have hex := extract_one hp
    rw [hc] at hex
    clear hd hd1 hd2 iha ihb qf V
    have z1 : 1 + (bs (fold a).text).size ≤ 9223372036854775807 := by omega
    have z2 : 1 + (bs (fold a).text).size + (bs (fold b).text).size ≤ 9223372036854775807 := by omega
    have z3 : (bs (fold a).text).size + (bs (fold b).text).size ≤ 9223372036854775807 := by omega
    cases hd : isDg (fold a) && isDg (fold b)
    · have hf : bs (fold (.n2 o a b)).text = (⟨#[o]⟩ : ByteArray) ++ bs (fold a).text ++ bs (fold b).text := by rw [fold_two_no hd, two]
      rw [hf]
      rw [hd] at hdg
      simp only [Bool.false_eq_true, false_iff] at hdg
      by_cases hA1 : (bs (fold a).text).size = 1
      · by_cases hB1 : (bs (fold b).text).size = 1
        · have hL : vars nmsW ((fold a).text ++ (fold b).text) ≠ [] := fun h => hdg ⟨hA1, hB1, h⟩
          obtain ⟨VB, hVB⟩ : ∃ B : ByteArray, ⟨(vars nmsW ((fold a).text ++ (fold b).text)).toArray⟩ = B := ⟨_, rfl⟩
          have hE : VB.toList.isEmpty = false := by
            rw [ByteArray.toList_eq, ← hVB]
            simpa using hL
          have hE2 : VB.toList ≠ [] := by simpa using hE
          simp only [str, hVB] at VV
          have a1 : ((bs (fold a).text).size : Int) = 1 := by omega
          have b1 : ((bs (fold b).text).size : Int) = 1 := by omega
          have HA1 : ((bs (fold a).text).size == 1) = true := by simp [hA1]
          clear hL hVB hdg hd hf two hA1 hB1
          generalize a.text.length = la at *
          generalize b.text.length = lb at *
          generalize bs (fold a).text = A at *
          generalize bs (fold b).text = B at *
          have a2 : 1 ≤ A.size := by omega
          have a3 : A.size ≤ 1 := by omega
          have b2 : 1 ≤ B.size := by omega
          have b3 : B.size ≤ 1 := by omega
          clear a1 b1 HA1
          go_enter Try.func114, Try.ntmps114
          go_wp2_with fail
          refine (HV.out _).mono ?_
          rintro e w' ⟨rfl, rfl⟩
          go_wp2_with fail
          refine (A1.out _).mono ?_
          rintro e w1 ⟨rfl, hb1⟩
          have BB1 := Lib.hid hb1
          clear hb1
          go_wp2_with fail
          refine (B1.out _).mono ?_
          rintro e w2 ⟨rfl, hb2⟩
          have BB2 := Lib.hid (below_2 BB1.out hb2)
          clear hb2
          go_wp2_with fail
          refine (VV.out _).mono ?_
          rintro e w' ⟨rfl, rfl⟩
          go_wp2_with fail
          go_ret2
          exact ⟨(by first | trivial | rfl), BB2.out⟩
        · have b1 : (((bs (fold b).text).size : Int) == 1) = false := by simp; omega
          have a2 : 1 ≤ (bs (fold a).text).size := by omega
          have a3 : (bs (fold a).text).size ≤ 1 := by omega
          clear hdg hd hf two hA1 hB1 VV
          generalize a.text.length = la at *
          generalize b.text.length = lb at *
          generalize bs (fold a).text = A at *
          generalize bs (fold b).text = B at *
          go_enter Try.func114, Try.ntmps114
          go_wp2_with fail
          refine (HV.out _).mono ?_
          rintro e w' ⟨rfl, rfl⟩
          go_wp2_with fail
          refine (A1.out _).mono ?_
          rintro e w1 ⟨rfl, hb1⟩
          have BB1 := Lib.hid hb1
          clear hb1
          go_wp2_with fail
          refine (B1.out _).mono ?_
          rintro e w2 ⟨rfl, hb2⟩
          have BB2 := Lib.hid (below_2 BB1.out hb2)
          clear hb2
          go_wp2_with fail
          go_ret2
          exact ⟨(by first | trivial | rfl), BB2.out⟩
      · have a1 : (((bs (fold a).text).size : Int) == 1) = false := by simp; omega
        clear hdg hd hf two hA1 VV
        generalize a.text.length = la at *
        generalize b.text.length = lb at *
        generalize bs (fold a).text = A at *
        generalize bs (fold b).text = B at *
        go_enter Try.func114, Try.ntmps114
        go_wp2_with fail
        refine (HV.out _).mono ?_
        rintro e w' ⟨rfl, rfl⟩
        go_wp2_with fail
        refine (A1.out _).mono ?_
        rintro e w1 ⟨rfl, hb1⟩
        have BB1 := Lib.hid hb1
        clear hb1
        go_wp2_with fail
        refine (B1.out _).mono ?_
        rintro e w2 ⟨rfl, hb2⟩
        have BB2 := Lib.hid (below_2 BB1.out hb2)
        clear hb2
        go_wp2_with fail
        go_ret2
        exact ⟨(by first | trivial | rfl), BB2.out⟩
    · rw [hd] at hdg
      obtain ⟨hA1, hB1, hL⟩ := hdg.1 rfl
      have hf := fold_two_yes (o := o) (a := a) (b := b) hd
      have hsm := val_small small0 (.n2 o (fold a) (fold b))
      rw [hL, show str [] = .string ⟨#[]⟩ from rfl] at VV
      have EV := Lib.hid (fun w => valueS_any ((⟨#[o]⟩ : ByteArray) ++ bs (fold a).text ++ bs (fold b).text) (by simp only [ByteArray.size_append, size_one]; omega) 0 0 0 0 0 0 ⟨by omega, by omega⟩ ⟨by omega, by omega⟩ ⟨by omega, by omega⟩ ⟨by omega, by omega⟩ ⟨by omega, by omega⟩ ⟨by omega, by omega⟩ false (.n2 o (fold a) (fold b)) 0 [] w hk2 (by rw [← two, bs_list]; simp))
      rw [env_zero] at EV
      obtain ⟨n, hn⟩ : ∃ n, val (fun _ => 0) (.n2 o (fold a) (fold b)) = n := ⟨_, rfl⟩
      rw [hn] at EV hf hsm
      rw [hf]
      obtain ⟨n1, n2⟩ := hsm
      have DC := Lib.hid (fun w => dec_small n (digOf n) n1 (by omega) (by unfold digOf; congr 1; omega) w)
      have hft : bs (Nd.n0 (digOf n)).text = ⟨#[digOf n]⟩ := rfl
      rw [hft]
      have a2 : 1 ≤ (bs (fold a).text).size := by omega
      have a3 : (bs (fold a).text).size ≤ 1 := by omega
      have b2 : 1 ≤ (bs (fold b).text).size := by omega
      have b3 : (bs (fold b).text).size ≤ 1 := by omega
      generalize (Nd.n2 o (fold a) (fold b)).text.length = lab at *
      generalize digOf n = dn at *
      clear hdg hd hf two hA1 hB1 hL hn hft fa fb hk2 la lb
      generalize a.text.length = la at *
      generalize b.text.length = lb at *
      generalize bs (fold a).text = A at *
      generalize bs (fold b).text = B at *
      go_enter Try.func114, Try.ntmps114
      go_wp2_with fail
      refine (HV.out _).mono ?_
      rintro e w' ⟨rfl, rfl⟩
      go_wp2_with fail
      refine (A1.out _).mono ?_
      rintro e w1 ⟨rfl, hb1⟩
      have BB1 := Lib.hid hb1
      clear hb1
      go_wp2_with fail
      refine (B1.out _).mono ?_
      rintro e w2 ⟨rfl, hb2⟩
      have BB2 := Lib.hid (below_2 BB1.out hb2)
      clear hb2
      go_wp2_with fail
      refine (VV.out _).mono ?_
      rintro e w' ⟨rfl, rfl⟩
      go_wp2_with fail
      refine (EV.out _).mono ?_
      rintro e w3 ⟨rfl, hb3⟩
      have BB3 := Lib.hid (below_2 BB2.out hb3)
      clear hb3
      go_wp2_with fail
      refine (DC.out _).mono ?_
      rintro e w4 ⟨rfl, hb4⟩
      have BB4 := Lib.hid (below_2 BB3.out hb4)
      clear hb4
      go_wp2_with fail
      go_ret2
      exact ⟨(by first | trivial | rfl), BB4.out⟩

end Go.Proofs.Ytppcghklkldnaab
