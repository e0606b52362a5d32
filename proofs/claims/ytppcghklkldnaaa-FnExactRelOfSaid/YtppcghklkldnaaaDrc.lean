/- Drawn tests. -/
import Derived.Test.YtppcghklkldnaaaDrb
namespace Go.Proofs.Ytppcghklkldnaaa
open Go.RowKit
open Pl

def cstT : Nat → Nat
  | 0 => 64
  | d + 1 => 4 * cstT d
theorem cstT_pos : ∀ d, 64 ≤ cstT d
  | 0 => Nat.le_refl _
  | d + 1 => by have := cstT_pos d; simp only [cstT]; omega

set_option maxHeartbeats 4000000 in
theorem drawTest_any (names : ByteArray) (hn1 : 1 ≤ names.size) (hn2 : names.size ≤ 6) (g : Nat) : ∀ (d p : Nat) (z : Int) (w : World), z = d → p + cstT d ≤ 1000000000 → d ≤ 100 → Rnd w g p →
    Calls Try.prog 158 #[.pointer (some ⟨g, 0, none⟩), .int .i64 z, .string names] w (StrPost w g p (cstT d) (cstT d)) := by
  intro d
  induction d with
  | zero =>
    intro p z w hz hp hd hR
    obtain rfl : z = 0 := hz
    simp only [cstT] at hp ⊢
    have HR := Lib.hid hR
    clear hR
    go_enter Try.func158, Try.ntmps158
    go_wp2_with fail
    refine (pick_any g p 8 w (by omega) (by omega) HR.out).mono ?_
    rintro e w0 ⟨v0, ⟨va0, vb0, _⟩, rfl, hg0, q0, qa0, qb0, hr0⟩
    have vc0 := vb0 (by omega)
    have R0 := Lib.hid hr0
    have G0 := Lib.hid hg0
    clear vb0 hr0 hg0
    go_wp2_with fail
    refine (pick_any g q0 10 w0 (by omega) (by omega) R0.out).mono ?_
    rintro e w1 ⟨v1, ⟨va1, vb1, _⟩, rfl, hg1, q1, qa1, qb1, hr1⟩
    have vc1 := vb1 (by omega)
    have R1 := Lib.hid hr1
    have G1 := Lib.hid hg1
    clear vb1 hr1 hg1
    by_cases hv : v1 = 0
    · subst hv
      go_wp2_with fail
      refine (of_any g q1 w1.heap.size [⟨#[116]⟩, ⟨#[102]⟩] (w1.alloc _) (by omega) (R1.out.alloc _) (by decide) (by decide) (by have := R1.out.lt; omega) (Blk.new w1 _ _)).mono ?_
      rintro e w2 ⟨s2, hs2, rfl, hg2, q2, qa2, qb2, hr2⟩
      have R2 := Lib.hid hr2
      have G2 := Lib.hid (grown_alloc hg2)
      have hz2 : 1 ≤ s2.size ∧ s2.size ≤ 1 := by
        simp only [List.mem_cons, List.not_mem_nil, or_false] at hs2
        rcases hs2 with rfl | rfl <;> decide
      obtain ⟨hz2a, hz2b⟩ := hz2
      clear hr2 hg2 hs2
      go_wp2_with fail
      go_ret
      exact strPost_mk rfl (by omega) (by omega) (grown_trans (grown_trans G0.out G1.out) G2.out) R2.out (by omega) (by omega)
    · have hv' : (v1 == 0) = false := by simp; exact hv
      clear hv
      go_wp2_with fail
      refine (of_any g q1 w1.heap.size [⟨#[61]⟩, ⟨#[60]⟩] (w1.alloc _) (by omega) (R1.out.alloc _) (by decide) (by decide) (by have := R1.out.lt; omega) (Blk.new w1 _ _)).mono ?_
      rintro e w2 ⟨s2, hs2, rfl, hg2, q2, qa2, qb2, hr2⟩
      have R2 := Lib.hid hr2
      have G2 := Lib.hid (grown_alloc hg2)
      have hz2 : 1 ≤ s2.size ∧ s2.size ≤ 1 := by
        simp only [List.mem_cons, List.not_mem_nil, or_false] at hs2
        rcases hs2 with rfl | rfl <;> decide
      obtain ⟨hz2a, hz2b⟩ := hz2
      clear hr2 hg2 hs2
      go_wp2_with fail
      refine (draw_any names hn1 hn2 g 1 q2 1 w2 rfl (by simp only [cst]; omega) (by omega) R2.out).mono ?_
      rintro e w3 ⟨s3, sa3, sb3, rfl, hg3, q3, qa3, qb3, hr3⟩
      have R3 := Lib.hid hr3
      have G3 := Lib.hid hg3
      clear hr3 hg3
      simp only [cst] at sb3 qb3
      have t3 : s2.size + s3.size ≤ 9223372036854775807 := by omega
      go_wp2_with fail
      refine (draw_any names hn1 hn2 g 1 q3 1 w3 rfl (by simp only [cst]; omega) (by omega) R3.out).mono ?_
      rintro e w4 ⟨s4, sa4, sb4, rfl, hg4, q4, qa4, qb4, hr4⟩
      have R4 := Lib.hid hr4
      have G4 := Lib.hid hg4
      clear hr4 hg4
      simp only [cst] at sb4 qb4
      have t4 : (s2 ++ s3).size + s4.size ≤ 9223372036854775807 := by rw [size_append]; omega
      go_wp2_with fail
      go_ret
      exact strPost_mk rfl (by rw [size_append, size_append]; omega) (by rw [size_append, size_append]; omega) (grown_trans (grown_trans (grown_trans (grown_trans G0.out G1.out) G2.out) G3.out) G4.out) R4.out (by omega) (by omega)
  | succ d ih =>
    intro p z w hz hp hd hR
    have hcp := cstT_pos d
    simp only [cstT] at hp ⊢
    have HR := Lib.hid hR
    have IH := Lib.hid ih
    have hz0 : ¬ z ≤ 0 := by omega
    have hz1 : z ≤ 200 := by omega
    have HZ : Hid (z - 1 = (d : Int)) := by show z - 1 = _; omega
    clear hR ih hz
    generalize cstT d = cd at *
    go_enter Try.func158, Try.ntmps158
    go_wp2_with fail
    refine (pick_any g p 8 w (by omega) (by omega) HR.out).mono ?_
    rintro e w0 ⟨v0, ⟨va0, vb0, _⟩, rfl, hg0, q0, qa0, qb0, hr0⟩
    have vc0 := vb0 (by omega)
    have R0 := Lib.hid hr0
    have G0 := Lib.hid hg0
    clear vb0 hr0 hg0
    by_cases hk4 : v0 < 4
    · go_wp2_with fail
      refine (pick_any g q0 10 w0 (by omega) (by omega) R0.out).mono ?_
      rintro e w1 ⟨v1, ⟨va1, vb1, _⟩, rfl, hg1, q1, qa1, qb1, hr1⟩
      have vc1 := vb1 (by omega)
      have R1 := Lib.hid hr1
      have G1 := Lib.hid hg1
      clear vb1 hr1 hg1
      by_cases hv : v1 = 0
      · subst hv
        go_wp2_with fail
        refine (of_any g q1 w1.heap.size [⟨#[116]⟩, ⟨#[102]⟩] (w1.alloc _) (by omega) (R1.out.alloc _) (by decide) (by decide) (by have := R1.out.lt; omega) (Blk.new w1 _ _)).mono ?_
        rintro e w2 ⟨s2, hs2, rfl, hg2, q2, qa2, qb2, hr2⟩
        have R2 := Lib.hid hr2
        have G2 := Lib.hid (grown_alloc hg2)
        have hz2 : 1 ≤ s2.size ∧ s2.size ≤ 1 := by
          simp only [List.mem_cons, List.not_mem_nil, or_false] at hs2
          rcases hs2 with rfl | rfl <;> decide
        obtain ⟨hz2a, hz2b⟩ := hz2
        clear hr2 hg2 hs2
        go_wp2_with fail
        go_ret
        exact strPost_mk rfl (by omega) (by omega) (grown_trans (grown_trans G0.out G1.out) G2.out) R2.out (by omega) (by omega)
      · have hv' : (v1 == 0) = false := by simp; exact hv
        clear hv
        go_wp2_with fail
        refine (of_any g q1 w1.heap.size [⟨#[61]⟩, ⟨#[60]⟩] (w1.alloc _) (by omega) (R1.out.alloc _) (by decide) (by decide) (by have := R1.out.lt; omega) (Blk.new w1 _ _)).mono ?_
        rintro e w2 ⟨s2, hs2, rfl, hg2, q2, qa2, qb2, hr2⟩
        have R2 := Lib.hid hr2
        have G2 := Lib.hid (grown_alloc hg2)
        have hz2 : 1 ≤ s2.size ∧ s2.size ≤ 1 := by
          simp only [List.mem_cons, List.not_mem_nil, or_false] at hs2
          rcases hs2 with rfl | rfl <;> decide
        obtain ⟨hz2a, hz2b⟩ := hz2
        clear hr2 hg2 hs2
        go_wp2_with fail
        refine (draw_any names hn1 hn2 g 1 q2 1 w2 rfl (by simp only [cst]; omega) (by omega) R2.out).mono ?_
        rintro e w3 ⟨s3, sa3, sb3, rfl, hg3, q3, qa3, qb3, hr3⟩
        have R3 := Lib.hid hr3
        have G3 := Lib.hid hg3
        clear hr3 hg3
        simp only [cst] at sb3 qb3
        have t3 : s2.size + s3.size ≤ 9223372036854775807 := by omega
        go_wp2_with fail
        refine (draw_any names hn1 hn2 g 1 q3 1 w3 rfl (by simp only [cst]; omega) (by omega) R3.out).mono ?_
        rintro e w4 ⟨s4, sa4, sb4, rfl, hg4, q4, qa4, qb4, hr4⟩
        have R4 := Lib.hid hr4
        have G4 := Lib.hid hg4
        clear hr4 hg4
        simp only [cst] at sb4 qb4
        have t4 : (s2 ++ s3).size + s4.size ≤ 9223372036854775807 := by rw [size_append]; omega
        go_wp2_with fail
        go_ret
        exact strPost_mk rfl (by rw [size_append, size_append]; omega) (by rw [size_append, size_append]; omega) (grown_trans (grown_trans (grown_trans (grown_trans G0.out G1.out) G2.out) G3.out) G4.out) R4.out (by omega) (by omega)
    by_cases hk5 : v0 < 5
    · go_wp2_with fail
      refine (IH.out q0 _ w0 HZ.out (by omega) (by omega) R0.out).mono ?_
      rintro e w1 ⟨s1, sa1, sb1, rfl, hg1, q1, qa1, qb1, hr1⟩
      have R1 := Lib.hid hr1
      have G1 := Lib.hid hg1
      clear hr1 hg1
      have t1 : 1 + s1.size ≤ 9223372036854775807 := by omega
      go_wp2_with fail
      go_ret
      exact strPost_mk rfl (by rw [size_append]; omega) (by rw [size_append, size_one]; omega) (grown_trans G0.out G1.out) R1.out (by omega) (by omega)
    · go_wp2_with fail
      refine (of_any g q0 w0.heap.size [⟨#[38]⟩, ⟨#[124]⟩] (w0.alloc _) (by omega) (R0.out.alloc _) (by decide) (by decide) (by have := R0.out.lt; omega) (Blk.new w0 _ _)).mono ?_
      rintro e w1 ⟨s1, hs1, rfl, hg1, q1, qa1, qb1, hr1⟩
      have R1 := Lib.hid hr1
      have G1 := Lib.hid (grown_alloc hg1)
      have hz1 : 1 ≤ s1.size ∧ s1.size ≤ 1 := by
        simp only [List.mem_cons, List.not_mem_nil, or_false] at hs1
        rcases hs1 with rfl | rfl <;> decide
      obtain ⟨hz1a, hz1b⟩ := hz1
      clear hr1 hg1 hs1
      go_wp2_with fail
      refine (IH.out q1 _ w1 HZ.out (by omega) (by omega) R1.out).mono ?_
      rintro e w2 ⟨s2, sa2, sb2, rfl, hg2, q2, qa2, qb2, hr2⟩
      have R2 := Lib.hid hr2
      have G2 := Lib.hid hg2
      clear hr2 hg2
      have t2 : s1.size + s2.size ≤ 9223372036854775807 := by omega
      go_wp2_with fail
      refine (IH.out q2 _ w2 HZ.out (by omega) (by omega) R2.out).mono ?_
      rintro e w3 ⟨s3, sa3, sb3, rfl, hg3, q3, qa3, qb3, hr3⟩
      have R3 := Lib.hid hr3
      have G3 := Lib.hid hg3
      clear hr3 hg3
      have t3 : (s1 ++ s2).size + s3.size ≤ 9223372036854775807 := by rw [size_append]; omega
      go_wp2_with fail
      go_ret
      exact strPost_mk rfl (by rw [size_append, size_append]; omega) (by rw [size_append, size_append]; omega) (grown_trans (grown_trans (grown_trans G0.out G1.out) G2.out) G3.out) R3.out (by omega) (by omega)

end Go.Proofs.Ytppcghklkldnaaa
