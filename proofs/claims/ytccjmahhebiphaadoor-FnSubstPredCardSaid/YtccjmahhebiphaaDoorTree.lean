/- What values and truths the program reads off its nodes in memory: the contracts of slot, value and truth. -/
import Derived.Test.YtccjmahhebiphaaDoorRows
import Derived.Test.YtccjmahhebiphaaDoorGb
import Derived.WalkLawsBesides
import Derived.Deep.QuietTactic
import Derived.BigQuiet
import Derived.Deep.RegionWith
namespace Go.Proofs.YtccjmahhebiphaaDoor
open Go.RowKit
open Pl

set_option maxHeartbeats 400000 in
theorem slot_lo (c : Int) (h : 120 ≤ c) (h2 : c ≤ 122) (w : World) : Calls Tryd.prog 62 #[.int .u8 c] w fun e w' => (e = .returned (.int .i64 (c - 120)) ∧ w = w') := by
  go_enter Tryd.func62, Tryd.ntmps62
  go_wp2
  go_ret
  exact ⟨rfl, rfl⟩
set_option maxHeartbeats 400000 in
theorem slot_hi (c : Int) (h : 88 ≤ c) (h2 : c ≤ 90) (w : World) : Calls Tryd.prog 62 #[.int .u8 c] w fun e w' => (e = .returned (.int .i64 (c - 88 + 3)) ∧ w = w') := by
  go_enter Tryd.func62, Tryd.ntmps62
  go_wp2
  go_ret
  exact ⟨rfl, rfl⟩

theorem isV_cases {wd : Bool} {c : UInt8} (h : isV wd c = true) : (120 ≤ c.toNat ∧ c.toNat ≤ 122) ∨ (88 ≤ c.toNat ∧ c.toNat ≤ 90) := by
  simp only [isV, Bool.or_eq_true, Bool.and_eq_true, decide_eq_true_eq, UInt8.le_iff_toNat_le] at h
  rcases h with h | ⟨_, h⟩
  · exact .inl h
  · exact .inr h
theorem isD_V {wd : Bool} {c : UInt8} (h : isV wd c = true) : isD c = false := by
  have h' := isV_cases h
  cases hd : isD c
  · rfl
  · have := isD_range hd; omega
theorem u8_of {c : UInt8} {n : Nat} (hn : n < 256) (h : c.toNat = n) : c = UInt8.ofNat n := by
  apply UInt8.toNat_inj.1
  rw [h, UInt8.toNat_ofNat']
  exact (Nat.mod_eq_of_lt hn).symm

/-- which cell of the block of values a letter names -/
theorem env_lo {w : World} {eb : Nat} {x y z X Y Z : Int} (h : Env w eb x y z X Y Z) {c : UInt8} (h1 : 120 ≤ c.toNat) (h2 : c.toNat ≤ 122) :
    w.cell? ⟨eb, ((c.toNat : Int) - 120).toNat, none⟩ = some (.int .i64 (envOf x y z X Y Z c)) := by
  obtain ⟨_, h3, h4, h5, _⟩ := h
  have : c.toNat = 120 ∨ c.toNat = 121 ∨ c.toNat = 122 := by omega
  rcases this with e | e | e <;> obtain rfl := u8_of (by omega) e
  · exact h3
  · exact h4
  · exact h5
theorem env_hi {w : World} {eb : Nat} {x y z X Y Z : Int} (h : Env w eb x y z X Y Z) {c : UInt8} (h1 : 88 ≤ c.toNat) (h2 : c.toNat ≤ 90) :
    w.cell? ⟨eb, ((c.toNat : Int) - 88 + 3).toNat, none⟩ = some (.int .i64 (envOf x y z X Y Z c)) := by
  obtain ⟨_, _, _, _, h3, h4, h5⟩ := h
  have : c.toNat = 88 ∨ c.toNat = 89 ∨ c.toNat = 90 := by omega
  rcases this with e | e | e <;> obtain rfl := u8_of (by omega) e
  · exact h3
  · exact h4
  · exact h5

abbrev VALUE : Nat := 128
set_option maxHeartbeats 1000000 in
theorem value_dig (c : Int) (eb b : Nat) (w : World) (c1 : 48 ≤ c) (c2 : c ≤ 50) (h1 : w.cell? ⟨b, 0, none⟩ = some (.int .u8 c)) :
    Calls Tryd.prog 128 #[.pointer (some ⟨b, 0, none⟩), .pointer (some ⟨eb, 0, none⟩)] w fun e w' => (e = .returned (.int .i64 (c - 48)) ∧ ∃ n, w' = w.drewN n) := by
  go_enter Tryd.func128, Tryd.ntmps128
  go_wp2
  go_ret
  exact ⟨rfl, 0, rfl⟩
set_option maxHeartbeats 1000000 in
theorem value_lo (c v : Int) (eb b : Nat) (w : World) (c1 : 120 ≤ c) (c2 : c ≤ 122) (h1 : w.cell? ⟨b, 0, none⟩ = some (.int .u8 c)) (h2 : w.cell? ⟨eb, (c - 120).toNat, none⟩ = some (.int .i64 v)) :
    Calls Tryd.prog 128 #[.pointer (some ⟨b, 0, none⟩), .pointer (some ⟨eb, 0, none⟩)] w fun e w' => (e = .returned (.int .i64 v) ∧ ∃ n, w' = w.drewN n) := by
  have i1 : 0 ≤ c - 120 := by omega
  have i2 : c - 120 < 6 := by omega
  go_enter Tryd.func128, Tryd.ntmps128
  go_wp2
  go_quiet ((go_at_call 62; exact quiet_off (slot_lo c c1 c2 _)))
  go_wp2
  go_ret
  exact ⟨rfl, _, rfl⟩
set_option maxHeartbeats 1000000 in
theorem value_hi (c v : Int) (eb b : Nat) (w : World) (c1 : 88 ≤ c) (c2 : c ≤ 90) (h1 : w.cell? ⟨b, 0, none⟩ = some (.int .u8 c)) (h2 : w.cell? ⟨eb, (c - 88 + 3).toNat, none⟩ = some (.int .i64 v)) :
    Calls Tryd.prog 128 #[.pointer (some ⟨b, 0, none⟩), .pointer (some ⟨eb, 0, none⟩)] w fun e w' => (e = .returned (.int .i64 v) ∧ ∃ n, w' = w.drewN n) := by
  have i1 : 0 ≤ c - 88 + 3 := by omega
  have i2 : c - 88 + 3 < 6 := by omega
  go_enter Tryd.func128, Tryd.ntmps128
  go_wp2
  go_quiet ((go_at_call 62; exact quiet_off (slot_hi c c1 c2 _)))
  go_wp2
  go_ret
  exact ⟨rfl, _, rfl⟩

theorem val_v {wd : Bool} {ρ : UInt8 → Int} {c : UInt8} (h : isV wd c = true) : val ρ (.n0 c) = ρ c := by simp [val, isD_V h]

set_option maxHeartbeats 2000000 in
theorem value_any (x y z X Y Z : Int) (hx : small x) (hy : small y) (hz : small z) (hX : small X) (hY : small Y) (hZ : small Z) (wd : Bool) (eb : Nat) : ∀ (k : Nd) (b : Nat) (w : World), ok wd 0 k = true → In w k b → Env w eb x y z X Y Z →
    Calls Tryd.prog 128 #[.pointer (some ⟨b, 0, none⟩), .pointer (some ⟨eb, 0, none⟩)] w fun e w' => (e = .returned (.int .i64 (val (envOf x y z X Y Z) k)) ∧ ∃ n, w' = w.drewN n) := by
  intro k
  induction k with
  | n0 c =>
    intro b w hok hin henv
    simp only [ok, Bool.or_eq_true] at hok
    obtain ⟨_, h1, _⟩ := hin
    by_cases hd : isD c = true
    · have hr := isD_range hd
      have e : val (envOf x y z X Y Z) (.n0 c) = (c.toNat : Int) - 48 := by simp [val, hd]
      rw [e]
      exact value_dig c.toNat eb b w (by omega) (by omega) h1
    · have hv : isV wd c = true := hok.resolve_right hd
      rw [val_v hv]
      rcases isV_cases hv with ⟨a1, a2⟩ | ⟨a1, a2⟩
      · exact value_lo c.toNat _ eb b w (by omega) (by omega) h1 (env_lo henv a1 a2)
      · exact value_hi c.toNat _ eb b w (by omega) (by omega) h1 (env_hi henv a1 a2)
  | n1 | n3 => intro b w hok; simp [ok] at hok
  | n2 o p q ihp ihq =>
    intro b w hok hin henv
    simp only [ok, Bool.and_eq_true] at hok
    obtain ⟨ho, hp, hq⟩ := hok
    obtain ⟨g, c, pb, qb, ⟨_, h1, h2, _⟩, _, hc, h5, h6, ip, iq⟩ := hin
    obtain ⟨sp1, sp2⟩ := val_small (envOf_small hx hy hz hX hY hZ) p
    obtain ⟨sq1, sq2⟩ := val_small (envOf_small hx hy hz hX hY hZ) q
    rcases isO_cases ho with rfl | rfl | rfl
    · simp only [UInt8.reduceToNat] at h1
      simp only [val]
      generalize hvp : val (envOf x y z X Y Z) p = vp at *
      generalize hvq : val (envOf x y z X Y Z) q = vq at *
      have IHP := Lib.hid ihp
      have IHQ := Lib.hid ihq
      have IP := Lib.hid ip
      have IQ := Lib.hid iq
      have HE := Lib.hid henv
      clear ihp ihq ip iq henv hvp hvq
      go_enter Tryd.func128, Tryd.ntmps128
      go_wp2
      go_quiet (first
        | (go_at_call_of 128 ((⟨pb, 0, none⟩ : Addr)); refine Calls.quiet_of (IHP.out _ _ hp (In.drewN IP.out _) (Env.drewN HE.out _)))
        | (go_at_call_of 128 ((⟨qb, 0, none⟩ : Addr)); refine Calls.quiet_of (IHQ.out _ _ hq (In.drewN IQ.out _) (Env.drewN HE.out _))))
      go_wp2
      go_ret
      exact ⟨rfl, _, rfl⟩
    · simp only [UInt8.reduceToNat] at h1
      simp only [val]
      generalize hvp : val (envOf x y z X Y Z) p = vp at *
      generalize hvq : val (envOf x y z X Y Z) q = vq at *
      have IHP := Lib.hid ihp
      have IHQ := Lib.hid ihq
      have IP := Lib.hid ip
      have IQ := Lib.hid iq
      have HE := Lib.hid henv
      clear ihp ihq ip iq henv hvp hvq
      go_enter Tryd.func128, Tryd.ntmps128
      go_wp2
      go_quiet (first
        | (go_at_call_of 128 ((⟨pb, 0, none⟩ : Addr)); refine Calls.quiet_of (IHP.out _ _ hp (In.drewN IP.out _) (Env.drewN HE.out _)))
        | (go_at_call_of 128 ((⟨qb, 0, none⟩ : Addr)); refine Calls.quiet_of (IHQ.out _ _ hq (In.drewN IQ.out _) (Env.drewN HE.out _))))
      go_wp2
      go_ret
      exact ⟨rfl, _, rfl⟩
    · simp only [UInt8.reduceToNat] at h1
      simp only [val]
      generalize hvp : val (envOf x y z X Y Z) p = vp at *
      generalize hvq : val (envOf x y z X Y Z) q = vq at *
      have m1 : 0 ≤ vp * vq := Int.mul_nonneg sp1 sq1
      have m2 : vp * vq ≤ 4 := by
        have := Int.mul_le_mul sp2 sq2 sq1 (by omega : (0 : Int) ≤ 2)
        omega
      have IHP := Lib.hid ihp
      have IHQ := Lib.hid ihq
      have IP := Lib.hid ip
      have IQ := Lib.hid iq
      have HE := Lib.hid henv
      clear ihp ihq ip iq henv hvp hvq
      go_enter Tryd.func128, Tryd.ntmps128
      go_wp2
      go_quiet (first
        | (go_at_call_of 128 ((⟨pb, 0, none⟩ : Addr)); refine Calls.quiet_of (IHP.out _ _ hp (In.drewN IP.out _) (Env.drewN HE.out _)))
        | (go_at_call_of 128 ((⟨qb, 0, none⟩ : Addr)); refine Calls.quiet_of (IHQ.out _ _ hq (In.drewN IQ.out _) (Env.drewN HE.out _))))
      go_wp2
      go_ret
      exact ⟨rfl, _, rfl⟩

theorem UInt8.toNat_ne {c : UInt8} {n : Nat} (h : ¬ c = UInt8.ofNat n) (hn : n < 256) : ¬ c.toNat = n := fun e => h (u8_of hn e)

set_option maxHeartbeats 2000000 in
theorem truth_any (x y z X Y Z : Int) (hx : small x) (hy : small y) (hz : small z) (hX : small X) (hY : small Y) (hZ : small Z) (wd : Bool) (eb : Nat) : ∀ (k : Nd) (b : Nat) (w : World), ok wd 1 k = true → In w k b → Env w eb x y z X Y Z →
    Calls Tryd.prog 90 #[.pointer (some ⟨b, 0, none⟩), .pointer (some ⟨eb, 0, none⟩)] w fun e w' => (e = .returned (.bool (tru (envOf x y z X Y Z) k)) ∧ ∃ n, w' = w.drewN n) := by
  intro k
  induction k with
  | n0 c =>
    intro b w hok hin henv
    simp only [ok, Bool.or_eq_true, beq_iff_eq] at hok
    obtain ⟨_, h1, _⟩ := hin
    clear henv
    rcases hok with rfl | rfl
    all_goals
      simp only [UInt8.reduceToNat] at h1
      go_enter Tryd.func90, Tryd.ntmps90
      go_wp2
      go_ret
      exact ⟨rfl, 0, rfl⟩
  | n1 o p ihp =>
    intro b w hok hin henv
    simp only [ok, Bool.and_eq_true, beq_iff_eq] at hok
    obtain ⟨rfl, hp⟩ := hok
    obtain ⟨g, c, pb, ⟨_, h1, h2, _⟩, _, hc, h5, ip⟩ := hin
    simp only [UInt8.reduceToNat] at h1
    have IHP := Lib.hid ihp
    have IP := Lib.hid ip
    have HE := Lib.hid henv
    clear ihp ip henv
    go_enter Tryd.func90, Tryd.ntmps90
    go_wp2_with (go_at_call 90; refine (IHP.out _ _ hp IP.out HE.out).mono ?_; rintro e w' ⟨rfl, n, rfl⟩)
    go_ret
    exact ⟨rfl, _, rfl⟩
  | n3 => intro b w hok; simp [ok] at hok
  | n2 o p q ihp ihq =>
    intro b w hok hin henv
    simp only [ok, Bool.and_eq_true, Bool.or_eq_true, beq_iff_eq] at hok
    obtain ⟨g, c, pb, qb, ⟨_, h1, h2, _⟩, _, hc, h5, h6, ip, iq⟩ := hin
    have IHP := Lib.hid ihp
    have IHQ := Lib.hid ihq
    have IP := Lib.hid ip
    have IQ := Lib.hid iq
    have HE := Lib.hid henv
    clear ihp ihq ip iq henv
    rcases hok with ⟨ho, hp, hq⟩ | ⟨ho, hp, hq⟩
    · have VP := Lib.hid (value_any x y z X Y Z hx hy hz hX hY hZ wd eb p)
      have VQ := Lib.hid (value_any x y z X Y Z hx hy hz hX hY hZ wd eb q)
      rcases ho with rfl | rfl
      all_goals
        simp only [UInt8.reduceToNat] at h1
        go_enter Tryd.func90, Tryd.ntmps90
        go_wp2
        go_quiet (first
          | (go_at_call_of 128 ((⟨pb, 0, none⟩ : Addr)); refine Calls.quiet_of (VP.out _ _ hp (In.drewN IP.out _) (Env.drewN HE.out _)))
          | (go_at_call_of 128 ((⟨qb, 0, none⟩ : Addr)); refine Calls.quiet_of (VQ.out _ _ hq (In.drewN IQ.out _) (Env.drewN HE.out _))))
        go_wp2
        go_ret
        exact ⟨rfl, _, rfl⟩
    · rcases ho with rfl | rfl
      all_goals
        simp only [UInt8.reduceToNat] at h1
        cases htp : tru (envOf x y z X Y Z) p
        all_goals
          have HTP := Lib.hid htp
          clear htp
          go_enter Tryd.func90, Tryd.ntmps90
          go_wp2_with fail
          refine (IHP.out _ _ hp IP.out HE.out).mono ?_
          rw [HTP.out]
          rintro e w' ⟨rfl, n, rfl⟩
          go_wp2_with (go_at_call_of 90 ((⟨qb, 0, none⟩ : Addr)); refine (IHQ.out _ _ hq (In.drewN IQ.out _) (Env.drewN HE.out _)).mono ?_; rintro e w' ⟨rfl, n, rfl⟩)
          go_ret
          exact ⟨ret_bool (by simp [tru, HTP.out]), _, by first | rfl | exact World.drewN_drewN _ _ _⟩

end Go.Proofs.YtccjmahhebiphaaDoor
