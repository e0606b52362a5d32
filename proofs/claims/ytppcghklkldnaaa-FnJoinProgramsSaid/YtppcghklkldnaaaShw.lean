/- Expressions and tests in the usual form: what the program and the reference show. -/
import Derived.Test.YtppcghklkldnaaaSpb
import Derived.Test.YtppcghklkldnaaaLwa
import Derived.Test.YtppcghklkldnaaaBs
namespace Go.Proofs.Ytppcghklkldnaaa
open Go.RowKit
open Pl

namespace Pl
def shE : Nd → List UInt8
  | .n0 c => [c]
  | .n2 o a b => 40 :: (shE a ++ (o :: (shE b ++ [41])))
  | _ => []
def shT : Nd → List UInt8
  | .n0 c => if c == 116 then [116, 114, 117, 101] else [102, 97, 108, 115, 101]
  | .n1 _ a => 33 :: 40 :: (shT a ++ [41])
  | .n2 o a b => if o == 61 || o == 60 then shE a ++ (o :: shE b) else 40 :: (shT a ++ (o :: (shT b ++ [41])))
  | _ => []
theorem shE_len : ∀ k, (shE k).length ≤ 3 * k.text.length := by
  intro k
  induction k with
  | n0 c => simp [shE, Nd.text]
  | n2 o a b ha hb => simp [shE, Nd.text]; omega
  | n1 | n3 => simp [shE]
theorem shT_len : ∀ k, (shT k).length ≤ 5 * k.text.length := by
  intro k
  induction k with
  | n0 c => simp only [shT, Nd.text]; split <;> simp
  | n1 o a ha => simp [shT, Nd.text]; have := text_pos a; omega
  | n2 o a b ha hb =>
    have h1 := shE_len a
    have h2 := shE_len b
    simp only [shT, Nd.text]
    split <;> simp <;> omega
  | n3 => simp [shT]
end Pl
/-- a list of bytes as a string's bytes -/
theorem shE_two (o : UInt8) (a b : Nd) : bs (shE (.n2 o a b)) = (⟨#[40]⟩ : ByteArray) ++ bs (shE a) ++ ⟨#[o]⟩ ++ bs (shE b) ++ ⟨#[41]⟩ := by
  rw [show (⟨#[40]⟩ : ByteArray) = bs [40] from rfl, show (⟨#[o]⟩ : ByteArray) = bs [o] from rfl, show (⟨#[41]⟩ : ByteArray) = bs [41] from rfl, bs_app, bs_app, bs_app, bs_app]
  congr 1
  simp [shE]
theorem shT_con (o : UInt8) (h : (o == 61 || o == 60) = false) (a b : Nd) : bs (shT (.n2 o a b)) = (⟨#[40]⟩ : ByteArray) ++ bs (shT a) ++ ⟨#[o]⟩ ++ bs (shT b) ++ ⟨#[41]⟩ := by
  rw [show (⟨#[40]⟩ : ByteArray) = bs [40] from rfl, show (⟨#[o]⟩ : ByteArray) = bs [o] from rfl, show (⟨#[41]⟩ : ByteArray) = bs [41] from rfl, bs_app, bs_app, bs_app, bs_app]
  congr 1
  simp [shT, h]
theorem shT_cmp (o : UInt8) (h : (o == 61 || o == 60) = true) (a b : Nd) : bs (shT (.n2 o a b)) = bs (shE a) ++ ⟨#[o]⟩ ++ bs (shE b) := by
  rw [show (⟨#[o]⟩ : ByteArray) = bs [o] from rfl, bs_app, bs_app]
  congr 1
  simp [shT, h]
theorem shT_not (o : UInt8) (a : Nd) : bs (shT (.n1 o a)) = (⟨#[33, 40]⟩ : ByteArray) ++ bs (shT a) ++ ⟨#[41]⟩ := by
  rw [show (⟨#[33, 40]⟩ : ByteArray) = bs [33, 40] from rfl, show (⟨#[41]⟩ : ByteArray) = bs [41] from rfl, bs_app, bs_app]
  congr 1

set_option maxHeartbeats 4000000 in
theorem showExpr_any (wd : Bool) : ∀ (k : Nd) (b : Nat) (w : World), ok wd 0 k = true → k.text.length ≤ 1000 → In w k b →
    Calls Try.prog 121 #[.pointer (some ⟨b, 0, none⟩)] w fun e w' => (e = .returned (.string (bs (shE k))) ∧ ∃ n, w' = w.drewN n) := by
  intro k
  induction k with
  | n0 c =>
    intro b w hok hl hin
    obtain ⟨_, _, h1, h2⟩ := hin
    go_enter Try.func121, Try.ntmps121
    go_wp2_with fail
    go_ret
    exact ⟨rfl, 0, rfl⟩
  | n1 | n3 => intro b w hok; simp [ok] at hok
  | n2 o p q ihp ihq =>
    intro b w hok hl hin
    simp only [ok, Bool.and_eq_true] at hok
    obtain ⟨ho, hp, hq⟩ := hok
    obtain ⟨g, c, pb, qb, ⟨_, h1, h2, _⟩, _, hc, h5, h6, ip, iq⟩ := hin
    simp only [Nd.text, List.length_cons, List.length_append] at hl
    have lp : p.text.length ≤ 1000 := by omega
    have lq : q.text.length ≤ 1000 := by omega
    rw [shE_two]
    have s1 := shE_len p
    have s2 := shE_len q
    have hA : (bs (shE p)).size ≤ 3000 := by rw [bs_size]; omega
    have hB : (bs (shE q)).size ≤ 3000 := by rw [bs_size]; omega
    clear s1 s2 hl
    generalize bs (shE p) = A at *
    generalize bs (shE q) = B at *
    have IHP := Lib.hid ihp
    have IHQ := Lib.hid ihq
    have IP := Lib.hid ip
    have IQ := Lib.hid iq
    clear ihp ihq ip iq
    have z1 : ¬ (9223372036854775807 < 1 + A.size) := by omega
    have z2 : ¬ (9223372036854775807 < 1 + A.size + 1) := by omega
    have z3 : ¬ (9223372036854775807 < 1 + A.size + 1 + B.size) := by omega
    have z4 : ¬ (9223372036854775807 < 1 + A.size + 1 + B.size + 1) := by omega
    have en1 : Utf8.encode (IntKind.i32.wrap 43) = ⟨#[43]⟩ := by kernel_rfl
    have en2 : Utf8.encode (IntKind.i32.wrap 45) = ⟨#[45]⟩ := by kernel_rfl
    have en3 : Utf8.encode (IntKind.i32.wrap 42) = ⟨#[42]⟩ := by kernel_rfl
    rcases isO_cases ho with rfl | rfl | rfl
    all_goals
      simp only [UInt8.reduceToNat] at h1
      go_enter Try.func121, Try.ntmps121
      go_wp2_with fail
      go_quiet (first
        | (go_at_call_of 121 ((⟨pb, 0, none⟩ : Addr)); refine Calls.quiet_of (IHP.out _ _ hp lp (In.drewN IP.out _)))
        | (go_at_call_of 121 ((⟨qb, 0, none⟩ : Addr)); refine Calls.quiet_of (IHQ.out _ _ hq lq (In.drewN IQ.out _))))
      go_wp2_with fail
      go_ret
      exact ⟨rfl, _, rfl⟩


set_option maxHeartbeats 4000000 in
theorem showTest_any (wd : Bool) : ∀ (k : Nd) (b : Nat) (w : World), ok wd 1 k = true → k.text.length ≤ 1000 → In w k b →
    Calls Try.prog 122 #[.pointer (some ⟨b, 0, none⟩)] w fun e w' => (e = .returned (.string (bs (shT k))) ∧ ∃ n, w' = w.drewN n) := by
  intro k
  induction k with
  | n0 c =>
    intro b w hok hl hin
    simp only [ok, Bool.or_eq_true, beq_iff_eq] at hok
    obtain ⟨_, h1, _⟩ := hin
    clear hl
    rcases hok with rfl | rfl
    all_goals
      simp only [UInt8.reduceToNat] at h1
      go_enter Try.func122, Try.ntmps122
      go_wp2_with fail
      go_ret
      exact ⟨rfl, 0, rfl⟩
  | n1 o p ihp =>
    intro b w hok hl hin
    simp only [ok, Bool.and_eq_true, beq_iff_eq] at hok
    obtain ⟨rfl, hp⟩ := hok
    obtain ⟨g, c, pb, ⟨_, h1, h2, _⟩, _, hc, h5, ip⟩ := hin
    simp only [UInt8.reduceToNat] at h1
    simp only [Nd.text, List.length_cons] at hl
    rw [shT_not]
    have s1 := shT_len p
    have hA : (bs (shT p)).size ≤ 5000 := by rw [bs_size]; omega
    have IHP := Lib.hid (ihp pb w hp (by omega) ip)
    clear s1 hl ihp ip
    generalize bs (shT p) = A at *
    have z1 : 2 + A.size ≤ 9223372036854775807 := by omega
    have z2 : 2 + A.size + 1 ≤ 9223372036854775807 := by omega
    go_enter Try.func122, Try.ntmps122
    go_wp2_with fail
    refine IHP.out.mono ?_
    rintro e w' ⟨rfl, n, rfl⟩
    go_wp2_with fail
    go_ret
    exact ⟨rfl, _, rfl⟩
  | n3 => intro b w hok; simp [ok] at hok
  | n2 o p q ihp ihq =>
    intro b w hok hl hin
    simp only [ok, Bool.and_eq_true, Bool.or_eq_true, beq_iff_eq] at hok
    obtain ⟨g, c, pb, qb, ⟨_, h1, h2, _⟩, _, hc, h5, h6, ip, iq⟩ := hin
    simp only [Nd.text, List.length_cons, List.length_append] at hl
    have lp : p.text.length ≤ 1000 := by omega
    have lq : q.text.length ≤ 1000 := by omega
    have IP := Lib.hid ip
    have IQ := Lib.hid iq
    clear ip iq
    rcases hok with ⟨ho, hp, hq⟩ | ⟨ho, hp, hq⟩
    · rw [shT_cmp o (by rcases ho with rfl | rfl <;> rfl)]
      have s1 := shE_len p
      have s2 := shE_len q
      have hA : (bs (shE p)).size ≤ 3000 := by rw [bs_size]; omega
      have hB : (bs (shE q)).size ≤ 3000 := by rw [bs_size]; omega
      have IHP := Lib.hid (showExpr_any wd p)
      have IHQ := Lib.hid (showExpr_any wd q)
      clear s1 s2 hl ihp ihq
      generalize bs (shE p) = A at *
      generalize bs (shE q) = B at *
      have z1 : ¬ (9223372036854775807 < A.size + 1) := by omega
      have z2 : ¬ (9223372036854775807 < A.size + 1 + B.size) := by omega
      have en1 : Utf8.encode (IntKind.i32.wrap 61) = ⟨#[61]⟩ := by kernel_rfl
      have en2 : Utf8.encode (IntKind.i32.wrap 60) = ⟨#[60]⟩ := by kernel_rfl
      rcases ho with rfl | rfl
      all_goals
        simp only [UInt8.reduceToNat] at h1
        go_enter Try.func122, Try.ntmps122
        go_wp2_with fail
        go_quiet (first
          | (go_at_call_of 121 ((⟨pb, 0, none⟩ : Addr)); refine Calls.quiet_of (IHP.out _ _ hp lp (In.drewN IP.out _)))
          | (go_at_call_of 121 ((⟨qb, 0, none⟩ : Addr)); refine Calls.quiet_of (IHQ.out _ _ hq lq (In.drewN IQ.out _))))
        go_wp2_with fail
        go_ret
        exact ⟨rfl, _, rfl⟩
    · rw [shT_con o (by rcases ho with rfl | rfl <;> rfl)]
      have s1 := shT_len p
      have s2 := shT_len q
      have hA : (bs (shT p)).size ≤ 5000 := by rw [bs_size]; omega
      have hB : (bs (shT q)).size ≤ 5000 := by rw [bs_size]; omega
      have IHP := Lib.hid ihp
      have IHQ := Lib.hid ihq
      clear s1 s2 hl ihp ihq
      generalize bs (shT p) = A at *
      generalize bs (shT q) = B at *
      have z1 : ¬ (9223372036854775807 < 1 + A.size) := by omega
      have z2 : ¬ (9223372036854775807 < 1 + A.size + 1) := by omega
      have z3 : ¬ (9223372036854775807 < 1 + A.size + 1 + B.size) := by omega
      have z4 : ¬ (9223372036854775807 < 1 + A.size + 1 + B.size + 1) := by omega
      have en1 : Utf8.encode (IntKind.i32.wrap 38) = ⟨#[38]⟩ := by kernel_rfl
      have en2 : Utf8.encode (IntKind.i32.wrap 124) = ⟨#[124]⟩ := by kernel_rfl
      rcases ho with rfl | rfl
      all_goals
        simp only [UInt8.reduceToNat] at h1
        go_enter Try.func122, Try.ntmps122
        go_wp2_with fail
        go_quiet (first
          | (go_at_call_of 122 ((⟨pb, 0, none⟩ : Addr)); refine Calls.quiet_of (IHP.out _ _ hp lp (In.drewN IP.out _)))
          | (go_at_call_of 122 ((⟨qb, 0, none⟩ : Addr)); refine Calls.quiet_of (IHQ.out _ _ hq lq (In.drewN IQ.out _))))
        go_wp2_with fail
        go_ret
        exact ⟨rfl, _, rfl⟩

set_option maxHeartbeats 4000000 in
theorem showS_any (S : ByteArray) (hS : S.size ≤ 1000) (wd : Bool) : ∀ (k : Nd) (p : Nat) (r : List UInt8) (w : World), ok wd 0 k = true → S.data.toList.drop p = k.text ++ r →
    Calls Try.prog 123 #[.string S, .int .i64 (p : Int)] w fun e w' => (e = .returned (.tuple #[.string (bs (shE k)), .int .i64 ((p : Int) + k.text.length)]) ∧ ∃ n, w' = w.drewN n) := by
  intro k
  induction k with
  | n0 c =>
    intro p r w hok hd
    obtain ⟨hp, hc⟩ := parts_nil hd
    have hO : isO c = false := by
      cases h : isO c
      · rfl
      · rcases isO_cases h with rfl | rfl | rfl <;> cases wd <;> exact absurd hok (by decide)
    have NV := Lib.hid (find_no (l := [43, 45, 42]) (c := c) (by decide) (fun h => by rw [mem_ops.1 h] at hO; cases hO))
    have hex := extract_one hp
    rw [hc] at hex
    have hf : bs (shE (.n0 c)) = ⟨#[c]⟩ := rfl
    rw [hf]
    have hf2 : (p : Int) + (Nd.n0 c).text.length = (p : Int) + 1 := by simp [Nd.text]
    rw [hf2]
    clear hd hok hO hf hf2
    go_enter Try.func123, Try.ntmps123
    go_wp2_with fail
    refine (NV.out _).mono ?_
    rintro e w' ⟨rfl, rfl⟩
    go_wp2_with fail
    go_ret2
    exact ⟨(by first | trivial | rfl), 0, rfl⟩
  | n1 | n3 => intro p r w hok; simp [ok] at hok
  | n2 o a b iha ihb =>
    intro p r w hok hd
    simp only [ok, Bool.and_eq_true] at hok
    obtain ⟨ho, ha, hb⟩ := hok
    obtain ⟨hp, hc, hd1, hd2, ql, qf⟩ := parts_two hd
    rw [qf, shE_two]
    obtain ⟨v, v0, v1, V⟩ := find_yes (l := [43, 45, 42]) (c := o) (by decide) (mem_ops.2 ho)
    have HV := Lib.hid V
    have s1 := shE_len a
    have s2 := shE_len b
    have hA : (bs (shE a)).size ≤ 3000 := by rw [bs_size]; omega
    have hB : (bs (shE b)).size ≤ 3000 := by rw [bs_size]; omega
    have A1 := Lib.hid (fun w => iha (p + 1) (b.text ++ r) w ha hd1)
    have B1 := Lib.hid (fun w => ihb (p + 1 + a.text.length) r w hb hd2)
    have hex := extract_one hp
    rw [hc] at hex
    clear hd hd1 hd2 iha ihb qf s1 s2 V
    generalize a.text.length = la at *
    generalize b.text.length = lb at *
    generalize bs (shE a) = A at *
    generalize bs (shE b) = B at *
    have z1 : 1 + A.size ≤ 9223372036854775807 := by omega
    have z2 : 1 + A.size + 1 ≤ 9223372036854775807 := by omega
    have z3 : 1 + A.size + 1 + B.size ≤ 9223372036854775807 := by omega
    have z4 : 1 + A.size + 1 + B.size + 1 ≤ 9223372036854775807 := by omega
    go_enter Try.func123, Try.ntmps123
    go_wp2_with fail
    refine (HV.out _).mono ?_
    rintro e w' ⟨rfl, rfl⟩
    go_wp2_with fail
    refine (A1.out _).mono ?_
    rintro e w1 ⟨rfl, n1, rfl⟩
    go_wp2_with fail
    refine (B1.out _).mono ?_
    rintro e w2 ⟨rfl, n2, rfl⟩
    go_wp2_with fail
    go_ret2
    exact ⟨(by first | trivial | rfl), _, rfl⟩
set_option maxHeartbeats 4000000 in
theorem showTestS_any (S : ByteArray) (hS : S.size ≤ 1000) (wd : Bool) : ∀ (k : Nd) (p : Nat) (r : List UInt8) (w : World), ok wd 1 k = true → S.data.toList.drop p = k.text ++ r →
    Calls Try.prog 124 #[.string S, .int .i64 (p : Int)] w fun e w' => (e = .returned (.tuple #[.string (bs (shT k)), .int .i64 ((p : Int) + k.text.length)]) ∧ ∃ n, w' = w.drewN n) := by
  intro k
  induction k with
  | n0 c =>
    intro p r w hok hd
    obtain ⟨hp, hc⟩ := parts_nil hd
    have hf2 : (p : Int) + (Nd.n0 c).text.length = (p : Int) + 1 := by simp [Nd.text]
    rw [hf2]
    simp only [ok, Bool.or_eq_true, beq_iff_eq] at hok
    clear hd hf2
    rcases hok with rfl | rfl
    all_goals
      go_enter Try.func124, Try.ntmps124
      go_wp2_with fail
      go_ret2
      exact ⟨(by first | trivial | rfl), 0, rfl⟩
  | n1 o a iha =>
    intro p r w hok hd
    simp only [ok, Bool.and_eq_true, beq_iff_eq] at hok
    obtain ⟨rfl, ha⟩ := hok
    obtain ⟨hp, hc, hd1, ql, qf⟩ := parts_one hd
    rw [qf, shT_not]
    have s1 := shT_len a
    have hA : (bs (shT a)).size ≤ 5000 := by rw [bs_size]; omega
    have A1 := Lib.hid (fun w => iha (p + 1) r w ha hd1)
    clear hd hd1 iha qf s1
    generalize a.text.length = la at *
    generalize bs (shT a) = A at *
    have z1 : 2 + A.size ≤ 9223372036854775807 := by omega
    have z2 : 2 + A.size + 1 ≤ 9223372036854775807 := by omega
    go_enter Try.func124, Try.ntmps124
    go_wp2_with fail
    refine (A1.out _).mono ?_
    rintro e w1 ⟨rfl, n1, rfl⟩
    go_wp2_with fail
    go_ret2
    exact ⟨(by first | trivial | rfl), _, rfl⟩
  | n3 => intro p r w hok; simp [ok] at hok
  | n2 o a b iha ihb =>
    intro p r w hok hd
    simp only [ok, Bool.and_eq_true, Bool.or_eq_true, beq_iff_eq] at hok
    obtain ⟨hp, hc, hd1, hd2, ql, qf⟩ := parts_two hd
    have hex := extract_one hp
    rw [hc] at hex
    rw [qf]
    rcases hok with ⟨ho, ha, hb⟩ | ⟨ho, ha, hb⟩
    · rw [shT_cmp o (by rcases ho with rfl | rfl <;> rfl)]
      have s1 := shE_len a
      have s2 := shE_len b
      have hA : (bs (shE a)).size ≤ 3000 := by rw [bs_size]; omega
      have hB : (bs (shE b)).size ≤ 3000 := by rw [bs_size]; omega
      have A1 := Lib.hid (fun w => showS_any S hS wd a (p + 1) (b.text ++ r) w ha hd1)
      have B1 := Lib.hid (fun w => showS_any S hS wd b (p + 1 + a.text.length) r w hb hd2)
      clear hd hd1 hd2 iha ihb qf s1 s2
      generalize a.text.length = la at *
      generalize b.text.length = lb at *
      generalize bs (shE a) = A at *
      generalize bs (shE b) = B at *
      have z1 : A.size + 1 ≤ 9223372036854775807 := by omega
      have z2 : A.size + 1 + B.size ≤ 9223372036854775807 := by omega
      rcases ho with rfl | rfl
      all_goals
        go_enter Try.func124, Try.ntmps124
        go_wp2_with fail
        refine (A1.out _).mono ?_
        rintro e w1 ⟨rfl, n1, rfl⟩
        go_wp2_with fail
        refine (B1.out _).mono ?_
        rintro e w2 ⟨rfl, n2, rfl⟩
        go_wp2_with fail
        go_ret2
        exact ⟨(by first | trivial | rfl), _, rfl⟩
    · rw [shT_con o (by rcases ho with rfl | rfl <;> rfl)]
      have s1 := shT_len a
      have s2 := shT_len b
      have hA : (bs (shT a)).size ≤ 5000 := by rw [bs_size]; omega
      have hB : (bs (shT b)).size ≤ 5000 := by rw [bs_size]; omega
      have A1 := Lib.hid (fun w => iha (p + 1) (b.text ++ r) w ha hd1)
      have B1 := Lib.hid (fun w => ihb (p + 1 + a.text.length) r w hb hd2)
      clear hd hd1 hd2 iha ihb qf s1 s2
      generalize a.text.length = la at *
      generalize b.text.length = lb at *
      generalize bs (shT a) = A at *
      generalize bs (shT b) = B at *
      have z1 : 1 + A.size ≤ 9223372036854775807 := by omega
      have z2 : 1 + A.size + 1 ≤ 9223372036854775807 := by omega
      have z3 : 1 + A.size + 1 + B.size ≤ 9223372036854775807 := by omega
      have z4 : 1 + A.size + 1 + B.size + 1 ≤ 9223372036854775807 := by omega
      rcases ho with rfl | rfl
      all_goals
        go_enter Try.func124, Try.ntmps124
        go_wp2_with fail
        refine (A1.out _).mono ?_
        rintro e w1 ⟨rfl, n1, rfl⟩
        go_wp2_with fail
        refine (B1.out _).mono ?_
        rintro e w2 ⟨rfl, n2, rfl⟩
        go_wp2_with fail
        go_ret2
        exact ⟨(by first | trivial | rfl), _, rfl⟩

end Go.Proofs.Ytppcghklkldnaaa
