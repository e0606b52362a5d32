/- Rewritings of a statement: the program's and the reference's. -/
import Derived.Test.YtelnigihmdlfiaaHd
import Derived.Test.YtelnigihmdlfiaaPar
namespace Go.Proofs.Ytelnigihmdlfiaa
open Go.RowKit
open Pl

theorem bs_cat (a b : List UInt8) : bs (a ++ b) = bs a ++ bs b := (bs_app a b).symm
theorem bs_lit (a : UInt8) (b : List UInt8) : bs (a :: b) = (⟨#[a]⟩ : ByteArray) ++ bs b := bs_cons a b
theorem swap_text (t a b : Nd) : bs (Nd.n3 63 (.n1 33 t) b a).text = (⟨#[63, 33]⟩ : ByteArray) ++ bs t.text ++ bs b.text ++ bs a.text := by
  rw [show (⟨#[63, 33]⟩ : ByteArray) = bs [63, 33] from rfl, bs_app, bs_app, bs_app]
  congr 1
  simp [Nd.text]
theorem unroll_text (t p : Nd) : bs (Nd.n3 63 t (.n2 59 p (.n2 64 t p)) (.n0 115)).text = (⟨#[63]⟩ : ByteArray) ++ bs t.text ++ ⟨#[59]⟩ ++ bs p.text ++ bs (Nd.n2 64 t p).text ++ ⟨#[115]⟩ := by
  rw [show (⟨#[63]⟩ : ByteArray) = bs [63] from rfl, show (⟨#[59]⟩ : ByteArray) = bs [59] from rfl, show (⟨#[115]⟩ : ByteArray) = bs [115] from rfl, bs_app, bs_app, bs_app, bs_app, bs_app]
  congr 1
  simp [Nd.text]
theorem push_text (t a b c : Nd) : bs (Nd.n3 63 t (.n2 59 a c) (.n2 59 b c)).text = (⟨#[63]⟩ : ByteArray) ++ bs t.text ++ ⟨#[59]⟩ ++ bs a.text ++ bs c.text ++ ⟨#[59]⟩ ++ bs b.text ++ bs c.text := by
  rw [show (⟨#[63]⟩ : ByteArray) = bs [63] from rfl, show (⟨#[59]⟩ : ByteArray) = bs [59] from rfl, bs_app, bs_app, bs_app, bs_app, bs_app, bs_app, bs_app]
  congr 1
  simp [Nd.text]
theorem op_ne63 {k : Nd} (hk : ok false 2 k = true) (h : ∀ t a b, k ≠ .n3 63 t a b) : k.op ≠ 63 := by
  rcases ok2_head hk with rfl | ⟨v, e, rfl, hv, he⟩ | ⟨o, a, b, rfl, ho, ha, hb⟩ | ⟨t, a, b, rfl, h1, h2, h3⟩ | ⟨t, a, rfl, h1, h2⟩ | ⟨t, rfl, h1⟩
  · decide
  · simp [Nd.op]
  · rcases ho with rfl | rfl <;> simp [Nd.op]
  · exact absurd rfl (h t a b)
  · simp [Nd.op]
  · simp [Nd.op]
theorem whole_keep {k : Nd} (h : ok false 2 k = true) : whole false 2 200 k.text = if k.text.length ≤ 200 then some k else none := by
  by_cases hl : k.text.length ≤ 200
  · rw [if_pos hl, whole_text h hl]
  · rw [if_neg hl, whole, if_neg hl]

set_option maxRecDepth 100000 in
set_option maxHeartbeats 4000000 in
theorem swap_any (k : Nd) (b : Nat) (w : World) (hok : ok false 2 k = true) (hl : k.text.length ≤ 1000) (hin : In w k b) :
    Calls Try.prog 38 #[.pointer (some ⟨b, 0, none⟩)] w fun e w' => (e = .returned (.tuple #[.string (bs (optT (swapN k))), .bool (swapN k).isSome]) ∧ ∃ n, w' = w.drewN n) := by
  rcases ok2_head hok with rfl | ⟨v, e, rfl, hv, he⟩ | ⟨o, x, y, rfl, ho, ha, hb⟩ | ⟨t, x, y, rfl, h1, h2, h3⟩ | ⟨t, x, rfl, h1, h2⟩ | ⟨t, rfl, h1⟩
  · skip
    obtain ⟨_, h1, _⟩ := hin.op
    clear hin hok hl
    simp only [Nd.op, UInt8.reduceToNat] at h1
    go_enter Try.func38, Try.ntmps38
    go_wp2_with fail
    go_ret2
    exact ⟨(by first | trivial | rfl), 0, by first | rfl | exact World.drewN_drewN _ _ _⟩
  · skip
    obtain ⟨_, h1, _⟩ := hin.op
    clear hin hok hl
    simp only [Nd.op, UInt8.reduceToNat] at h1
    go_enter Try.func38, Try.ntmps38
    go_wp2_with fail
    go_ret2
    exact ⟨(by first | trivial | rfl), 0, by first | rfl | exact World.drewN_drewN _ _ _⟩
  · skip
    obtain ⟨_, h1, _⟩ := hin.op
    clear hin hok hl ha hb
    rcases ho with rfl | rfl
    all_goals
      simp only [Nd.op, UInt8.reduceToNat] at h1
      go_enter Try.func38, Try.ntmps38
      go_wp2_with fail
      go_ret2
      exact ⟨(by first | trivial | rfl), 0, by first | rfl | exact World.drewN_drewN _ _ _⟩
  · obtain ⟨g, c, p1, p2, p3, ⟨_, k1, k2, _⟩, _, hc2, k5, k6, k7, i1, i2, i3⟩ := hin
    simp only [UInt8.reduceToNat] at k1
    have t1 := i1.op.2.2
    have t2 := i2.op.2.2
    have t3 := i3.op.2.2
    simp only [Nd.text, List.length_cons, List.length_append] at hl
    have hr : bs (optT (swapN (.n3 63 t x y))) = (⟨#[63, 33]⟩ : ByteArray) ++ bs t.text ++ bs y.text ++ bs x.text := swap_text t x y
    have hs : (swapN (.n3 63 t x y)).isSome = true := rfl
    rw [hr, hs]
    have s1 : (bs t.text).size ≤ 1000 := by rw [bs_size]; omega
    have s2 : (bs x.text).size ≤ 1000 := by rw [bs_size]; omega
    have s3 : (bs y.text).size ≤ 1000 := by rw [bs_size]; omega
    clear hr hs hl i1 i2 i3 hok h1 h2 h3
    generalize bs t.text = T at *
    generalize bs x.text = A at *
    generalize bs y.text = B at *
    have z0 : ¬ (9223372036854775807 < 2 + T.size) := by omega
    have z1 : ¬ (9223372036854775807 < 2 + T.size + B.size) := by omega
    have z2 : ¬ (9223372036854775807 < 2 + T.size + B.size + A.size) := by omega
    go_enter Try.func38, Try.ntmps38
    go_wp2_with fail
    go_quiet (fail)
    go_wp2_with fail
    go_ret2
    exact ⟨(by first | trivial | rfl), _, by first | rfl | exact World.drewN_drewN _ _ _⟩
  · skip
    obtain ⟨_, h1, _⟩ := hin.op
    clear hin hok hl
    simp only [Nd.op, UInt8.reduceToNat] at h1
    go_enter Try.func38, Try.ntmps38
    go_wp2_with fail
    go_ret2
    exact ⟨(by first | trivial | rfl), 0, by first | rfl | exact World.drewN_drewN _ _ _⟩
  · skip
    obtain ⟨_, h1, _⟩ := hin.op
    clear hin hok hl
    simp only [Nd.op, UInt8.reduceToNat] at h1
    go_enter Try.func38, Try.ntmps38
    go_wp2_with fail
    go_ret2
    exact ⟨(by first | trivial | rfl), 0, by first | rfl | exact World.drewN_drewN _ _ _⟩
set_option maxRecDepth 100000 in
set_option maxHeartbeats 4000000 in
theorem unroll_any (k : Nd) (b : Nat) (w : World) (hok : ok false 2 k = true) (hl : k.text.length ≤ 1000) (hin : In w k b) :
    Calls Try.prog 39 #[.pointer (some ⟨b, 0, none⟩)] w fun e w' => (e = .returned (.tuple #[.string (bs (optT (unrollN k))), .bool (unrollN k).isSome]) ∧ ∃ n, w' = w.drewN n) := by
  rcases ok2_head hok with rfl | ⟨v, e, rfl, hv, he⟩ | ⟨o, x, y, rfl, ho, ha, hb⟩ | ⟨t, x, y, rfl, h1, h2, h3⟩ | ⟨t, x, rfl, h1, h2⟩ | ⟨t, rfl, h1⟩
  · skip
    obtain ⟨_, h1, _⟩ := hin.op
    clear hin hok hl
    simp only [Nd.op, UInt8.reduceToNat] at h1
    go_enter Try.func39, Try.ntmps39
    go_wp2_with fail
    go_ret2
    exact ⟨(by first | trivial | rfl), 0, by first | rfl | exact World.drewN_drewN _ _ _⟩
  · skip
    obtain ⟨_, h1, _⟩ := hin.op
    clear hin hok hl
    simp only [Nd.op, UInt8.reduceToNat] at h1
    go_enter Try.func39, Try.ntmps39
    go_wp2_with fail
    go_ret2
    exact ⟨(by first | trivial | rfl), 0, by first | rfl | exact World.drewN_drewN _ _ _⟩
  · skip
    obtain ⟨_, h1, _⟩ := hin.op
    clear hin hok hl ha hb
    rcases ho with rfl | rfl
    all_goals
      simp only [Nd.op, UInt8.reduceToNat] at h1
      go_enter Try.func39, Try.ntmps39
      go_wp2_with fail
      go_ret2
      exact ⟨(by first | trivial | rfl), 0, by first | rfl | exact World.drewN_drewN _ _ _⟩
  · skip
    obtain ⟨_, h1, _⟩ := hin.op
    clear hin hok hl
    simp only [Nd.op, UInt8.reduceToNat] at h1
    go_enter Try.func39, Try.ntmps39
    go_wp2_with fail
    go_ret2
    exact ⟨(by first | trivial | rfl), 0, by first | rfl | exact World.drewN_drewN _ _ _⟩
  · obtain ⟨g, c, p1, p2, ⟨_, k1, k2, k3⟩, _, hc2, k5, k6, i1, i2⟩ := hin
    simp only [UInt8.reduceToNat] at k1
    have t1 := i1.op.2.2
    have t2 := i2.op.2.2
    replace k3 : w.cell? ⟨b, 2, none⟩ = some (.string (bs (Nd.n2 64 t x).text)) := k3
    have s3 : (bs (Nd.n2 64 t x).text).size ≤ 1000 := by rw [bs_size]; exact hl
    simp only [Nd.text, List.length_cons, List.length_append] at hl
    have hr : bs (optT (unrollN (.n2 64 t x))) = (⟨#[63]⟩ : ByteArray) ++ bs t.text ++ ⟨#[59]⟩ ++ bs x.text ++ bs (Nd.n2 64 t x).text ++ ⟨#[115]⟩ := unroll_text t x
    have hs : (unrollN (.n2 64 t x)).isSome = true := rfl
    rw [hr, hs]
    have s1 : (bs t.text).size ≤ 1000 := by rw [bs_size]; omega
    have s2 : (bs x.text).size ≤ 1000 := by rw [bs_size]; omega
    clear hr hs hl i1 i2 hok h1 h2
    generalize bs (Nd.n2 64 t x).text = X at *
    generalize bs t.text = T at *
    generalize bs x.text = A at *
    have z0 : ¬ (9223372036854775807 < 1 + T.size) := by omega
    have z1 : ¬ (9223372036854775807 < 1 + T.size + 1) := by omega
    have z2 : ¬ (9223372036854775807 < 1 + T.size + 1 + A.size) := by omega
    have z3 : ¬ (9223372036854775807 < 1 + T.size + 1 + A.size + X.size) := by omega
    have z4 : ¬ (9223372036854775807 < 1 + T.size + 1 + A.size + X.size + 1) := by omega
    go_enter Try.func39, Try.ntmps39
    go_wp2_with fail
    go_quiet (fail)
    go_wp2_with fail
    go_ret2
    exact ⟨(by first | trivial | rfl), _, by first | rfl | exact World.drewN_drewN _ _ _⟩
  · skip
    obtain ⟨_, h1, _⟩ := hin.op
    clear hin hok hl
    simp only [Nd.op, UInt8.reduceToNat] at h1
    go_enter Try.func39, Try.ntmps39
    go_wp2_with fail
    go_ret2
    exact ⟨(by first | trivial | rfl), 0, by first | rfl | exact World.drewN_drewN _ _ _⟩
set_option maxRecDepth 100000 in
set_option maxHeartbeats 4000000 in
theorem push_any (k : Nd) (b : Nat) (w : World) (hok : ok false 2 k = true) (hl : k.text.length ≤ 1000) (hin : In w k b) :
    Calls Try.prog 40 #[.pointer (some ⟨b, 0, none⟩)] w fun e w' => (e = .returned (.tuple #[.string (bs (optT (pushN k))), .bool (pushN k).isSome]) ∧ ∃ n, w' = w.drewN n) := by
  rcases ok2_head hok with rfl | ⟨v, e, rfl, hv, he⟩ | ⟨o, x, y, rfl, ho, ha, hb⟩ | ⟨t, x, y, rfl, h1, h2, h3⟩ | ⟨t, x, rfl, h1, h2⟩ | ⟨t, rfl, h1⟩
  · skip
    obtain ⟨_, h1, _⟩ := hin.op
    clear hin hok hl
    simp only [Nd.op, UInt8.reduceToNat] at h1
    go_enter Try.func40, Try.ntmps40
    go_wp2_with fail
    go_ret2
    exact ⟨(by first | trivial | rfl), 0, by first | rfl | exact World.drewN_drewN _ _ _⟩
  · skip
    obtain ⟨_, h1, _⟩ := hin.op
    clear hin hok hl
    simp only [Nd.op, UInt8.reduceToNat] at h1
    go_enter Try.func40, Try.ntmps40
    go_wp2_with fail
    go_ret2
    exact ⟨(by first | trivial | rfl), 0, by first | rfl | exact World.drewN_drewN _ _ _⟩
  · rcases ho with rfl | rfl
    · obtain ⟨g, c, pb, qb, ⟨_, h1, h2, _⟩, _, hc, h5, h6, ip, iq⟩ := hin
      simp only [UInt8.reduceToNat] at h1
      simp only [Nd.text, List.length_cons, List.length_append] at hl
      have ty := iq.op.2.2
      by_cases hx : ∃ t a b, x = .n3 63 t a b
      · obtain ⟨t, a, b', rfl⟩ := hx
        obtain ⟨g2, c2, p1, p2, p3, ⟨_, k1, k2, _⟩, _, hc2, k5, k6, k7, i1, i2, i3⟩ := ip
        simp only [UInt8.reduceToNat] at k1
        have t1 := i1.op.2.2
        have t2 := i2.op.2.2
        have t3 := i3.op.2.2
        simp only [Nd.text, List.length_cons, List.length_append] at hl
        have hr : bs (optT (pushN (.n2 59 (.n3 63 t a b') y))) = (⟨#[63]⟩ : ByteArray) ++ bs t.text ++ ⟨#[59]⟩ ++ bs a.text ++ bs y.text ++ ⟨#[59]⟩ ++ bs b'.text ++ bs y.text := push_text t a b' y
        have hs : (pushN (.n2 59 (.n3 63 t a b') y)).isSome = true := rfl
        rw [hr, hs]
        have s1 : (bs t.text).size ≤ 1000 := by rw [bs_size]; omega
        have s2 : (bs a.text).size ≤ 1000 := by rw [bs_size]; omega
        have s3 : (bs b'.text).size ≤ 1000 := by rw [bs_size]; omega
        have s4 : (bs y.text).size ≤ 1000 := by rw [bs_size]; omega
        clear hr hs hl iq i1 i2 i3 hok ha hb
        generalize bs t.text = T at *
        generalize bs a.text = A at *
        generalize bs b'.text = B at *
        generalize bs y.text = C at *
        have z0 : ¬ (9223372036854775807 < 1 + T.size) := by omega
        have z1 : ¬ (9223372036854775807 < 1 + T.size + 1) := by omega
        have z2 : ¬ (9223372036854775807 < 1 + T.size + 1 + A.size) := by omega
        have z3 : ¬ (9223372036854775807 < 1 + T.size + 1 + A.size + C.size) := by omega
        have z4 : ¬ (9223372036854775807 < 1 + T.size + 1 + A.size + C.size + 1) := by omega
        have z5 : ¬ (9223372036854775807 < 1 + T.size + 1 + A.size + C.size + 1 + B.size) := by omega
        have z6 : ¬ (9223372036854775807 < 1 + T.size + 1 + A.size + C.size + 1 + B.size + C.size) := by omega
        go_enter Try.func40, Try.ntmps40
        go_wp2_with fail
        go_quiet (fail)
        go_wp2_with fail
        go_quiet (fail)
        go_wp2_with fail
        go_ret2
        exact ⟨(by first | trivial | rfl), _, by first | rfl | exact World.drewN_drewN _ _ _⟩
      · have hop := op_ne63 ha (fun t a b h => hx ⟨t, a, b, h⟩)
        have hr : pushN (.n2 59 x y) = none := by
          cases x with
          | n3 o t a b =>
            simp only [ok, Bool.and_eq_true, beq_iff_eq] at ha
            obtain ⟨rfl, _⟩ := ha
            exact absurd ⟨t, a, b, rfl⟩ hx
          | n0 | n1 | n2 => rfl
        rw [hr]
        have k1 := ip.op.2.1
        have e1 := u8_ne 63 hop (by decide)
        simp only [Int.cast_ofNat_Int] at e1
        have e2 : ((x.op.toNat : Int) != 63) = true := by simpa using e1
        generalize x.op = xo at *
        clear hr hx ha hb hok hl ip iq ty hop
        simp only [optT, Option.isSome_none]
        go_enter Try.func40, Try.ntmps40
        go_wp2_with fail
        go_ret2
        exact ⟨(by first | trivial | rfl), 0, by first | rfl | exact World.drewN_drewN _ _ _⟩
    · obtain ⟨_, h1, _⟩ := hin.op
      have hr : pushN (.n2 47 x y) = none := by cases x <;> rfl
      rw [hr]
      clear hin hok hl ha hb hr
      simp only [Nd.op, UInt8.reduceToNat] at h1
      simp only [optT, Option.isSome_none]
      go_enter Try.func40, Try.ntmps40
      go_wp2_with fail
      go_ret2
      exact ⟨(by first | trivial | rfl), 0, by first | rfl | exact World.drewN_drewN _ _ _⟩
  · skip
    obtain ⟨_, h1, _⟩ := hin.op
    clear hin hok hl
    simp only [Nd.op, UInt8.reduceToNat] at h1
    go_enter Try.func40, Try.ntmps40
    go_wp2_with fail
    go_ret2
    exact ⟨(by first | trivial | rfl), 0, by first | rfl | exact World.drewN_drewN _ _ _⟩
  · skip
    have hr : pushN (.n2 64 t x) = none := by cases t <;> rfl
    rw [hr]
    clear hr
    simp only [optT, Option.isSome_none]
    obtain ⟨_, h1, _⟩ := hin.op
    clear hin hok hl
    simp only [Nd.op, UInt8.reduceToNat] at h1
    go_enter Try.func40, Try.ntmps40
    go_wp2_with fail
    go_ret2
    exact ⟨(by first | trivial | rfl), 0, by first | rfl | exact World.drewN_drewN _ _ _⟩
  · skip
    obtain ⟨_, h1, _⟩ := hin.op
    clear hin hok hl
    simp only [Nd.op, UInt8.reduceToNat] at h1
    go_enter Try.func40, Try.ntmps40
    go_wp2_with fail
    go_ret2
    exact ⟨(by first | trivial | rfl), 0, by first | rfl | exact World.drewN_drewN _ _ _⟩
set_option maxHeartbeats 2000000 in
theorem SwapBranches_any (S : ByteArray) (hS : S.size ≤ 1000000000000) (w : World) : Calls Try.prog 13 #[.string S] w fun e w' => (e = .returned (.tuple #[.string (bs (optT (rewr swapN S.data.toList))), .bool (rewr swapN S.data.toList).isSome]) ∧ Below w.heap.size w w') := by
  have AL : Calls Try.prog 37 #[.string S, .func (.func 38) #[] #[]] w fun e w' => (e = .returned (.tuple #[.string (bs (optT (rewr swapN S.data.toList))), .bool (rewr swapN S.data.toList).isSome]) ∧ Below w.heap.size w w') := by
    have R := Lib.hid (parseProg_any S hS w)
    cases ho : whole false 2 200 S.data.toList with
    | none =>
      have hr : rewr swapN S.data.toList = none := by simp [rewr, ho]
      rw [hr]
      rw [ho] at R
      clear ho hr
      simp only [optT, Option.isSome_none]
      go_enter Try.func37, Try.ntmps37
      go_wp2_with fail
      refine R.out.mono ?_
      rintro e w1 ⟨hb1, rfl⟩
      have B1 := Lib.hid hb1
      clear R hb1
      go_wp2_with fail
      go_ret2
      exact ⟨(by first | trivial | rfl), B1.out⟩
    | some k =>
      have hr : rewr swapN S.data.toList = keepS (swapN k) := by simp [rewr, ho]
      rw [hr]
      rw [ho] at R
      obtain ⟨hl, hk, ht⟩ := (whole_iff (by omega)).1 ho
      rw [ht] at hl
      have FX := Lib.hid (fun b w h => swap_any k b w hk (by omega) h)
      clear ho hr hl hk ht
      cases hN : swapN k with
      | none =>
        rw [hN] at FX
        clear hN
        simp only [optT, keepS, Option.isSome_none] at FX ⊢
        go_enter Try.func37, Try.ntmps37
        go_wp2_with fail
        refine R.out.mono ?_
        rintro e w1 ⟨hb1, b, rfl, hin⟩
        have B1 := Lib.hid hb1
        have I1 := Lib.hid hin
        clear R hb1 hin
        go_wp2_with fail
        refine (FX.out _ _ I1.out).mono ?_
        rintro e w2 ⟨rfl, n, rfl⟩
        go_wp2_with fail
        go_ret2
        exact ⟨(by first | trivial | rfl), B1.out.trans (below_drewN _ _ _)⟩
      | some k' =>
        rw [hN] at FX
        clear hN
        simp only [optT, keepS, Option.isSome_some] at FX ⊢
        have hz := bs_size k'.text
        by_cases h2 : k'.text.length ≤ 200
        · rw [if_pos h2]
          simp only [Option.isSome_some]
          have h3 : (bs k'.text).size ≤ 200 := by omega
          clear h2 hz
          generalize bs k'.text = K at *
          go_enter Try.func37, Try.ntmps37
          go_wp2_with fail
          refine R.out.mono ?_
          rintro e w1 ⟨hb1, b, rfl, hin⟩
          have B1 := Lib.hid hb1
          have I1 := Lib.hid hin
          clear R hb1 hin
          go_wp2_with fail
          refine (FX.out _ _ I1.out).mono ?_
          rintro e w2 ⟨rfl, n, rfl⟩
          go_wp2_with fail
          go_ret2
          exact ⟨(by first | trivial | rfl), B1.out.trans (below_drewN _ _ _)⟩
        · rw [if_neg h2]
          simp only [Option.isSome_none]
          have h3 : 200 < (bs k'.text).size := by omega
          clear h2 hz
          generalize bs k'.text = K at *
          go_enter Try.func37, Try.ntmps37
          go_wp2_with fail
          refine R.out.mono ?_
          rintro e w1 ⟨hb1, b, rfl, hin⟩
          have B1 := Lib.hid hb1
          have I1 := Lib.hid hin
          clear R hb1 hin
          go_wp2_with fail
          refine (FX.out _ _ I1.out).mono ?_
          rintro e w2 ⟨rfl, n, rfl⟩
          go_wp2_with fail
          go_ret2
          exact ⟨(by first | trivial | rfl), B1.out.trans (below_drewN _ _ _)⟩
  have AH := Lib.hid AL
  clear AL
  generalize (rewr swapN S.data.toList) = o at *
  go_enter Try.func13, Try.ntmps13
  go_wp2_with fail
  refine AH.out.mono ?_
  rintro e w1 ⟨rfl, hb1⟩
  have B1 := Lib.hid hb1
  clear hb1
  go_wp2_with fail
  go_ret2
  exact ⟨(by first | trivial | rfl), B1.out⟩
set_option maxHeartbeats 2000000 in
theorem UnrollLoop_any (S : ByteArray) (hS : S.size ≤ 1000000000000) (w : World) : Calls Try.prog 15 #[.string S] w fun e w' => (e = .returned (.tuple #[.string (bs (optT (rewr unrollN S.data.toList))), .bool (rewr unrollN S.data.toList).isSome]) ∧ Below w.heap.size w w') := by
  have AL : Calls Try.prog 37 #[.string S, .func (.func 39) #[] #[]] w fun e w' => (e = .returned (.tuple #[.string (bs (optT (rewr unrollN S.data.toList))), .bool (rewr unrollN S.data.toList).isSome]) ∧ Below w.heap.size w w') := by
    have R := Lib.hid (parseProg_any S hS w)
    cases ho : whole false 2 200 S.data.toList with
    | none =>
      have hr : rewr unrollN S.data.toList = none := by simp [rewr, ho]
      rw [hr]
      rw [ho] at R
      clear ho hr
      simp only [optT, Option.isSome_none]
      go_enter Try.func37, Try.ntmps37
      go_wp2_with fail
      refine R.out.mono ?_
      rintro e w1 ⟨hb1, rfl⟩
      have B1 := Lib.hid hb1
      clear R hb1
      go_wp2_with fail
      go_ret2
      exact ⟨(by first | trivial | rfl), B1.out⟩
    | some k =>
      have hr : rewr unrollN S.data.toList = keepS (unrollN k) := by simp [rewr, ho]
      rw [hr]
      rw [ho] at R
      obtain ⟨hl, hk, ht⟩ := (whole_iff (by omega)).1 ho
      rw [ht] at hl
      have FX := Lib.hid (fun b w h => unroll_any k b w hk (by omega) h)
      clear ho hr hl hk ht
      cases hN : unrollN k with
      | none =>
        rw [hN] at FX
        clear hN
        simp only [optT, keepS, Option.isSome_none] at FX ⊢
        go_enter Try.func37, Try.ntmps37
        go_wp2_with fail
        refine R.out.mono ?_
        rintro e w1 ⟨hb1, b, rfl, hin⟩
        have B1 := Lib.hid hb1
        have I1 := Lib.hid hin
        clear R hb1 hin
        go_wp2_with fail
        refine (FX.out _ _ I1.out).mono ?_
        rintro e w2 ⟨rfl, n, rfl⟩
        go_wp2_with fail
        go_ret2
        exact ⟨(by first | trivial | rfl), B1.out.trans (below_drewN _ _ _)⟩
      | some k' =>
        rw [hN] at FX
        clear hN
        simp only [optT, keepS, Option.isSome_some] at FX ⊢
        have hz := bs_size k'.text
        by_cases h2 : k'.text.length ≤ 200
        · rw [if_pos h2]
          simp only [Option.isSome_some]
          have h3 : (bs k'.text).size ≤ 200 := by omega
          clear h2 hz
          generalize bs k'.text = K at *
          go_enter Try.func37, Try.ntmps37
          go_wp2_with fail
          refine R.out.mono ?_
          rintro e w1 ⟨hb1, b, rfl, hin⟩
          have B1 := Lib.hid hb1
          have I1 := Lib.hid hin
          clear R hb1 hin
          go_wp2_with fail
          refine (FX.out _ _ I1.out).mono ?_
          rintro e w2 ⟨rfl, n, rfl⟩
          go_wp2_with fail
          go_ret2
          exact ⟨(by first | trivial | rfl), B1.out.trans (below_drewN _ _ _)⟩
        · rw [if_neg h2]
          simp only [Option.isSome_none]
          have h3 : 200 < (bs k'.text).size := by omega
          clear h2 hz
          generalize bs k'.text = K at *
          go_enter Try.func37, Try.ntmps37
          go_wp2_with fail
          refine R.out.mono ?_
          rintro e w1 ⟨hb1, b, rfl, hin⟩
          have B1 := Lib.hid hb1
          have I1 := Lib.hid hin
          clear R hb1 hin
          go_wp2_with fail
          refine (FX.out _ _ I1.out).mono ?_
          rintro e w2 ⟨rfl, n, rfl⟩
          go_wp2_with fail
          go_ret2
          exact ⟨(by first | trivial | rfl), B1.out.trans (below_drewN _ _ _)⟩
  have AH := Lib.hid AL
  clear AL
  generalize (rewr unrollN S.data.toList) = o at *
  go_enter Try.func15, Try.ntmps15
  go_wp2_with fail
  refine AH.out.mono ?_
  rintro e w1 ⟨rfl, hb1⟩
  have B1 := Lib.hid hb1
  clear hb1
  go_wp2_with fail
  go_ret2
  exact ⟨(by first | trivial | rfl), B1.out⟩
set_option maxHeartbeats 2000000 in
theorem PushAfter_any (S : ByteArray) (hS : S.size ≤ 1000000000000) (w : World) : Calls Try.prog 17 #[.string S] w fun e w' => (e = .returned (.tuple #[.string (bs (optT (rewr pushN S.data.toList))), .bool (rewr pushN S.data.toList).isSome]) ∧ Below w.heap.size w w') := by
  have AL : Calls Try.prog 37 #[.string S, .func (.func 40) #[] #[]] w fun e w' => (e = .returned (.tuple #[.string (bs (optT (rewr pushN S.data.toList))), .bool (rewr pushN S.data.toList).isSome]) ∧ Below w.heap.size w w') := by
    have R := Lib.hid (parseProg_any S hS w)
    cases ho : whole false 2 200 S.data.toList with
    | none =>
      have hr : rewr pushN S.data.toList = none := by simp [rewr, ho]
      rw [hr]
      rw [ho] at R
      clear ho hr
      simp only [optT, Option.isSome_none]
      go_enter Try.func37, Try.ntmps37
      go_wp2_with fail
      refine R.out.mono ?_
      rintro e w1 ⟨hb1, rfl⟩
      have B1 := Lib.hid hb1
      clear R hb1
      go_wp2_with fail
      go_ret2
      exact ⟨(by first | trivial | rfl), B1.out⟩
    | some k =>
      have hr : rewr pushN S.data.toList = keepS (pushN k) := by simp [rewr, ho]
      rw [hr]
      rw [ho] at R
      obtain ⟨hl, hk, ht⟩ := (whole_iff (by omega)).1 ho
      rw [ht] at hl
      have FX := Lib.hid (fun b w h => push_any k b w hk (by omega) h)
      clear ho hr hl hk ht
      cases hN : pushN k with
      | none =>
        rw [hN] at FX
        clear hN
        simp only [optT, keepS, Option.isSome_none] at FX ⊢
        go_enter Try.func37, Try.ntmps37
        go_wp2_with fail
        refine R.out.mono ?_
        rintro e w1 ⟨hb1, b, rfl, hin⟩
        have B1 := Lib.hid hb1
        have I1 := Lib.hid hin
        clear R hb1 hin
        go_wp2_with fail
        refine (FX.out _ _ I1.out).mono ?_
        rintro e w2 ⟨rfl, n, rfl⟩
        go_wp2_with fail
        go_ret2
        exact ⟨(by first | trivial | rfl), B1.out.trans (below_drewN _ _ _)⟩
      | some k' =>
        rw [hN] at FX
        clear hN
        simp only [optT, keepS, Option.isSome_some] at FX ⊢
        have hz := bs_size k'.text
        by_cases h2 : k'.text.length ≤ 200
        · rw [if_pos h2]
          simp only [Option.isSome_some]
          have h3 : (bs k'.text).size ≤ 200 := by omega
          clear h2 hz
          generalize bs k'.text = K at *
          go_enter Try.func37, Try.ntmps37
          go_wp2_with fail
          refine R.out.mono ?_
          rintro e w1 ⟨hb1, b, rfl, hin⟩
          have B1 := Lib.hid hb1
          have I1 := Lib.hid hin
          clear R hb1 hin
          go_wp2_with fail
          refine (FX.out _ _ I1.out).mono ?_
          rintro e w2 ⟨rfl, n, rfl⟩
          go_wp2_with fail
          go_ret2
          exact ⟨(by first | trivial | rfl), B1.out.trans (below_drewN _ _ _)⟩
        · rw [if_neg h2]
          simp only [Option.isSome_none]
          have h3 : 200 < (bs k'.text).size := by omega
          clear h2 hz
          generalize bs k'.text = K at *
          go_enter Try.func37, Try.ntmps37
          go_wp2_with fail
          refine R.out.mono ?_
          rintro e w1 ⟨hb1, b, rfl, hin⟩
          have B1 := Lib.hid hb1
          have I1 := Lib.hid hin
          clear R hb1 hin
          go_wp2_with fail
          refine (FX.out _ _ I1.out).mono ?_
          rintro e w2 ⟨rfl, n, rfl⟩
          go_wp2_with fail
          go_ret2
          exact ⟨(by first | trivial | rfl), B1.out.trans (below_drewN _ _ _)⟩
  have AH := Lib.hid AL
  clear AL
  generalize (rewr pushN S.data.toList) = o at *
  go_enter Try.func17, Try.ntmps17
  go_wp2_with fail
  refine AH.out.mono ?_
  rintro e w1 ⟨rfl, hb1⟩
  have B1 := Lib.hid hb1
  clear hb1
  go_wp2_with fail
  go_ret2
  exact ⟨(by first | trivial | rfl), B1.out⟩

end Go.Proofs.Ytelnigihmdlfiaa
