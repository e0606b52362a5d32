/- Drawn programs: strings of a bounded length; nothing that was there turns but the source. -/
import Derived.Test.YtppcghklkldnaaaDrc
namespace Go.Proofs.Ytppcghklkldnaaa
open Go.RowKit
open Pl

def cstP : Nat → Nat
  | 0 => 400
  | d + 1 => 4 * cstP d
theorem cstP_pos : ∀ d, 400 ≤ cstP d
  | 0 => Nat.le_refl _
  | d + 1 => by have := cstP_pos d; simp only [cstP]; omega
set_option maxHeartbeats 4000000 in
theorem setDraw_any (names : ByteArray) (hn1 : 1 ≤ names.size) (hn2 : names.size ≤ 6) (g p : Nat) (w : World) (hp : p ≤ 999990000) (hR : Rnd w g p) :
    Calls Try.prog 157 #[.pointer (some ⟨g, 0, none⟩), .string names] w (StrPost w g p 20 20) := by
  have HR := Lib.hid hR
  clear hR
  go_enter Try.func157, Try.ntmps157
  go_wp2_with fail
  refine (pick_any g p (names.size : Int) w (by omega) (by omega) HR.out).mono ?_
  rintro e w0 ⟨v0, ⟨va0, vb0, _⟩, rfl, hg0, q0, qa0, qb0, hr0⟩
  have vc0 := vb0 (by omega)
  have R0 := Lib.hid hr0
  have G0 := Lib.hid hg0
  clear vb0 hr0 hg0
  obtain ⟨j, rfl⟩ := Int.eq_ofNat_of_zero_le va0
  have hj : j < names.size := by omega
  obtain ⟨V, hV⟩ : ∃ V, names.extract j (j + 1) = V := ⟨_, rfl⟩
  have hV1 : V.size = 1 := by rw [← hV, size_extract _ _ _ (by omega)]; omega
  have HV := Lib.hid hV
  have v1a : 1 ≤ V.size := by omega
  have v1b : V.size ≤ 1 := by omega
  clear hV hV1
  go_wp2_with fail
  try rw [HV.out]
  refine (pick_any g q0 4 w0 (by omega) (by omega) R0.out).mono ?_
  rintro e w1 ⟨v1, ⟨va1, vb1, _⟩, rfl, hg1, q1, qa1, qb1, hr1⟩
  have vc1 := vb1 (by omega)
  have R1 := Lib.hid hr1
  have G1 := Lib.hid (grown_trans G0.out hg1)
  clear vb1 hr1 hg1
  by_cases h0 : v1 = 0
  · subst h0
    have t0 : 1 + V.size ≤ 9223372036854775807 := by omega
    go_wp2_with fail
    refine (of_any g q1 w1.heap.size [⟨#[43]⟩, ⟨#[45]⟩] (w1.alloc _) (by omega) (R1.out.alloc _) (by decide) (by decide) (by have := R1.out.lt; omega) (Blk.new w1 _ _)).mono ?_
    rintro e w2 ⟨s2, hs2, rfl, hg2, q2, qa2, qb2, hr2⟩
    have R2 := Lib.hid hr2
    have G2 := Lib.hid (grown_trans G1.out (grown_alloc hg2))
    clear hr2 hg2
    have hz2 : 1 ≤ s2.size ∧ s2.size ≤ 1 := by
      simp only [List.mem_cons, List.not_mem_nil, or_false] at hs2
      rcases hs2 with rfl | rfl <;> decide
    obtain ⟨hza2, hzb2⟩ := hz2
    clear hs2
    have t1 : 1 + V.size + s2.size ≤ 9223372036854775807 := by omega
    have t2 : 1 + V.size + s2.size + V.size ≤ 9223372036854775807 := by omega
    have t3 : 1 + V.size + s2.size + V.size + 1 ≤ 9223372036854775807 := by omega
    go_wp2_with fail
    refine (pick_any g q2 2 w2 (by omega) (by omega) R2.out).mono ?_
    rintro e w3 ⟨v3, ⟨va3, vb3, _⟩, rfl, hg3, q3, qa3, qb3, hr3⟩
    have vc3 := vb3 (by omega)
    have R3 := Lib.hid hr3
    have G3 := Lib.hid (grown_trans G2.out hg3)
    clear vb3 hr3 hg3
    go_wp2_with fail
    refine (dec_small (1 + v3) _ (by omega) (by omega) rfl _).mono ?_
    rintro e w4 ⟨rfl, hb4⟩
    have B4 := Lib.hid hb4
    clear hb4
    go_wp2_with fail
    go_ret
    exact strPost_mk rfl (by simp only [size_append, size_one]; omega) (by simp only [size_append, size_one]; omega) (grown_below G3.out B4.out) (R3.out.below B4.out) (by omega) (by omega)
  have e0 : (v1 == 0) = false := by simp; exact h0
  by_cases h1 : v1 = 1
  · subst h1
    clear h0 e0
    have t0 : 1 + V.size ≤ 9223372036854775807 := by omega
    have t1 : 1 + V.size + 1 ≤ 9223372036854775807 := by omega
    go_wp2_with fail
    refine (pick_any g q1 3 w1 (by omega) (by omega) R1.out).mono ?_
    rintro e w3 ⟨v3, ⟨va3, vb3, _⟩, rfl, hg3, q3, qa3, qb3, hr3⟩
    have vc3 := vb3 (by omega)
    have R3 := Lib.hid hr3
    have G3 := Lib.hid (grown_trans G1.out hg3)
    clear vb3 hr3 hg3
    go_wp2_with fail
    refine (dec_small v3 _ (by omega) (by omega) rfl _).mono ?_
    rintro e w4 ⟨rfl, hb4⟩
    have B4 := Lib.hid hb4
    clear hb4
    go_wp2_with fail
    go_ret
    exact strPost_mk rfl (by simp only [size_append, size_one]; omega) (by simp only [size_append, size_one]; omega) (grown_below G3.out B4.out) (R3.out.below B4.out) (by omega) (by omega)
  have e1 : (v1 == 1) = false := by simp; exact h1
  clear h0 h1
  have t0 : 1 + V.size ≤ 9223372036854775807 := by omega
  go_wp2_with fail
  refine (draw_any names hn1 hn2 g 1 q1 1 w1 rfl (by simp only [cst]; omega) (by omega) R1.out).mono ?_
  rintro e w3 ⟨s3, sa3, sb3, rfl, hg3, q3, qa3, qb3, hr3⟩
  have R3 := Lib.hid hr3
  have G3 := Lib.hid (grown_trans G1.out hg3)
  clear hr3 hg3
  simp only [cst] at sb3 qb3
  have t1 : 1 + V.size + s3.size ≤ 9223372036854775807 := by omega
  go_wp2_with fail
  go_ret
  exact strPost_mk rfl (by simp only [size_append, size_one]; omega) (by simp only [size_append, size_one]; omega) G3.out R3.out (by omega) (by omega)
set_option maxHeartbeats 8000000 in
theorem progDraw_any (names : ByteArray) (hn1 : 1 ≤ names.size) (hn2 : names.size ≤ 6) (plain : Bool) (g : Nat) : ∀ (d p : Nat) (z : Int) (w : World), z = d → p + cstP d ≤ 900000000 → d ≤ 20 → cstP d ≤ 100000000 → Rnd w g p →
    Calls Try.prog 146 #[.pointer (some ⟨g, 0, none⟩), .int .i64 z, .bool plain, .string names] w (StrPost w g p (cstP d) (cstP d)) := by
  intro d
  induction d with
  | zero =>
    intro p z w hz hp hd hcd hR
    obtain rfl : z = 0 := hz
    simp only [cstP] at hp hcd ⊢
    have HR := Lib.hid hR
    clear hR
    go_enter Try.func146, Try.ntmps146
    go_wp2_with fail
    refine (pick_any g p 12 w (by omega) (by omega) HR.out).mono ?_
    rintro e w0 ⟨v0, ⟨va0, vb0, _⟩, rfl, hg0, q0, qa0, qb0, hr0⟩
    have vc0 := vb0 (by omega)
    have R0 := Lib.hid hr0
    have G0 := Lib.hid hg0
    clear vb0 hr0 hg0
    go_wp2_with fail
    refine (pick_any g q0 8 w0 (by omega) (by omega) R0.out).mono ?_
    rintro e w1 ⟨v1, ⟨va1, vb1, _⟩, rfl, hg1, q1, qa1, qb1, hr1⟩
    have vc1 := vb1 (by omega)
    have R1 := Lib.hid hr1
    have G1 := Lib.hid (grown_trans G0.out hg1)
    clear vb1 hr1 hg1
    by_cases hv : v1 = 0
    · subst hv
      go_wp2_with fail
      go_ret
      exact strPost_mk rfl (by decide) (by rw [size_one]; omega) G1.out R1.out (by omega) (by omega)
    · have hv' : (v1 == 0) = false := by simp; exact hv
      clear hv
      go_wp2_with fail
      refine (setDraw_any names hn1 hn2 g q1 w1 (by omega) R1.out).mono ?_
      rintro e w2 ⟨s2, sa2, sb2, rfl, hg2, q2, qa2, qb2, hr2⟩
      have R2 := Lib.hid hr2
      have G2 := Lib.hid (grown_trans G1.out hg2)
      clear hr2 hg2
      go_wp2_with fail
      go_ret
      exact strPost_mk rfl (by omega) (by omega) G2.out R2.out (by omega) (by omega)
  | succ d ih =>
    intro p z w hz hp hd hcd hR
    have hcp := cstP_pos d
    simp only [cstP] at hp hcd ⊢
    have HR := Lib.hid hR
    have IH := Lib.hid ih
    have hz0 : ¬ z ≤ 0 := by omega
    have hz1 : z ≤ 200 := by omega
    have HZ : Hid (z - 1 = (d : Int)) := by show z - 1 = _; omega
    clear hR ih hz
    generalize cstP d = cd at *
    go_enter Try.func146, Try.ntmps146
    go_wp2_with fail
    refine (pick_any g p 12 w (by omega) (by omega) HR.out).mono ?_
    rintro e w0 ⟨v0, ⟨va0, vb0, _⟩, rfl, hg0, q0, qa0, qb0, hr0⟩
    have vc0 := vb0 (by omega)
    have R0 := Lib.hid hr0
    have G0 := Lib.hid hg0
    clear vb0 hr0 hg0
    by_cases k2 : v0 < 2
    · skip
      go_wp2_with fail
      refine (pick_any g q0 8 w0 (by omega) (by omega) R0.out).mono ?_
      rintro e w1 ⟨v1, ⟨va1, vb1, _⟩, rfl, hg1, q1, qa1, qb1, hr1⟩
      have vc1 := vb1 (by omega)
      have R1 := Lib.hid hr1
      have G1 := Lib.hid (grown_trans G0.out hg1)
      clear vb1 hr1 hg1
      by_cases hv : v1 = 0
      · subst hv
        go_wp2_with fail
        go_ret
        exact strPost_mk rfl (by decide) (by rw [size_one]; omega) G1.out R1.out (by omega) (by omega)
      · have hv' : (v1 == 0) = false := by simp; exact hv
        clear hv
        go_wp2_with fail
        refine (setDraw_any names hn1 hn2 g q1 w1 (by omega) R1.out).mono ?_
        rintro e w2 ⟨s2, sa2, sb2, rfl, hg2, q2, qa2, qb2, hr2⟩
        have R2 := Lib.hid hr2
        have G2 := Lib.hid (grown_trans G1.out hg2)
        clear hr2 hg2
        go_wp2_with fail
        go_ret
        exact strPost_mk rfl (by omega) (by omega) G2.out R2.out (by omega) (by omega)
    by_cases k6 : v0 < 6
    · skip
      go_wp2_with fail
      refine (IH.out q0 _ w0 HZ.out (by omega) (by omega) (by omega) R0.out).mono ?_
      rintro e w1 ⟨s1, sa1, sb1, rfl, hg1, q1, qa1, qb1, hr1⟩
      have R1 := Lib.hid hr1
      have G1 := Lib.hid (grown_trans G0.out hg1)
      clear hr1 hg1
      have t1 : 1 + s1.size ≤ 9223372036854775807 := by omega
      go_wp2_with fail
      refine (IH.out q1 _ w1 HZ.out (by omega) (by omega) (by omega) R1.out).mono ?_
      rintro e w2 ⟨s2, sa2, sb2, rfl, hg2, q2, qa2, qb2, hr2⟩
      have R2 := Lib.hid hr2
      have G2 := Lib.hid (grown_trans G1.out hg2)
      clear hr2 hg2
      have t2 : 1 + s1.size + s2.size ≤ 9223372036854775807 := by omega
      go_wp2_with fail
      go_ret
      exact strPost_mk rfl (by simp only [size_append, size_one]; omega) (by simp only [size_append, size_one]; omega) G2.out R2.out (by omega) (by omega)
    by_cases k8 : v0 < 8
    · skip
      go_wp2_with fail
      refine (drawTest_any names hn1 hn2 g 1 q0 1 w0 rfl (by simp only [cstT]; omega) (by omega) R0.out).mono ?_
      rintro e w1 ⟨s1, sa1, sb1, rfl, hg1, q1, qa1, qb1, hr1⟩
      have R1 := Lib.hid hr1
      have G1 := Lib.hid (grown_trans G0.out hg1)
      clear hr1 hg1
      simp only [cstT] at sb1 qb1
      go_wp2_with fail
      refine (IH.out q1 _ w1 HZ.out (by omega) (by omega) (by omega) R1.out).mono ?_
      rintro e w2 ⟨s2, sa2, sb2, rfl, hg2, q2, qa2, qb2, hr2⟩
      have R2 := Lib.hid hr2
      have G2 := Lib.hid (grown_trans G1.out hg2)
      clear hr2 hg2
      have t1 : 1 + s1.size ≤ 9223372036854775807 := by omega
      have t2 : 1 + s1.size + s2.size ≤ 9223372036854775807 := by omega
      go_wp2_with fail
      refine (IH.out q2 _ w2 HZ.out (by omega) (by omega) (by omega) R2.out).mono ?_
      rintro e w3 ⟨s3, sa3, sb3, rfl, hg3, q3, qa3, qb3, hr3⟩
      have R3 := Lib.hid hr3
      have G3 := Lib.hid (grown_trans G2.out hg3)
      clear hr3 hg3
      have t3 : 1 + s1.size + s2.size + s3.size ≤ 9223372036854775807 := by omega
      go_wp2_with fail
      go_ret
      exact strPost_mk rfl (by simp only [size_append, size_one]; omega) (by simp only [size_append, size_one]; omega) G3.out R3.out (by omega) (by omega)
    by_cases k10 : v0 < 10
    · skip
      go_wp2_with fail
      refine (drawTest_any names hn1 hn2 g 1 q0 1 w0 rfl (by simp only [cstT]; omega) (by omega) R0.out).mono ?_
      rintro e w1 ⟨s1, sa1, sb1, rfl, hg1, q1, qa1, qb1, hr1⟩
      have R1 := Lib.hid hr1
      have G1 := Lib.hid (grown_trans G0.out hg1)
      clear hr1 hg1
      simp only [cstT] at sb1 qb1
      have t1 : 1 + s1.size ≤ 9223372036854775807 := by omega
      go_wp2_with fail
      refine (IH.out q1 _ w1 HZ.out (by omega) (by omega) (by omega) R1.out).mono ?_
      rintro e w2 ⟨s2, sa2, sb2, rfl, hg2, q2, qa2, qb2, hr2⟩
      have R2 := Lib.hid hr2
      have G2 := Lib.hid (grown_trans G1.out hg2)
      clear hr2 hg2
      have t2 : 1 + s1.size + s2.size ≤ 9223372036854775807 := by omega
      go_wp2_with fail
      go_ret
      exact strPost_mk rfl (by simp only [size_append, size_one]; omega) (by simp only [size_append, size_one]; omega) G2.out R2.out (by omega) (by omega)
    cases plain
    · by_cases k11 : v0 < 11
      · skip
        go_wp2_with fail
        refine (IH.out q0 _ w0 HZ.out (by omega) (by omega) (by omega) R0.out).mono ?_
        rintro e w1 ⟨s1, sa1, sb1, rfl, hg1, q1, qa1, qb1, hr1⟩
        have R1 := Lib.hid hr1
        have G1 := Lib.hid (grown_trans G0.out hg1)
        clear hr1 hg1
        have t1 : 1 + s1.size ≤ 9223372036854775807 := by omega
        go_wp2_with fail
        refine (IH.out q1 _ w1 HZ.out (by omega) (by omega) (by omega) R1.out).mono ?_
        rintro e w2 ⟨s2, sa2, sb2, rfl, hg2, q2, qa2, qb2, hr2⟩
        have R2 := Lib.hid hr2
        have G2 := Lib.hid (grown_trans G1.out hg2)
        clear hr2 hg2
        have t2 : 1 + s1.size + s2.size ≤ 9223372036854775807 := by omega
        go_wp2_with fail
        go_ret
        exact strPost_mk rfl (by simp only [size_append, size_one]; omega) (by simp only [size_append, size_one]; omega) G2.out R2.out (by omega) (by omega)
      · skip
        go_wp2_with fail
        refine (drawTest_any names hn1 hn2 g 1 q0 1 w0 rfl (by simp only [cstT]; omega) (by omega) R0.out).mono ?_
        rintro e w1 ⟨s1, sa1, sb1, rfl, hg1, q1, qa1, qb1, hr1⟩
        have R1 := Lib.hid hr1
        have G1 := Lib.hid (grown_trans G0.out hg1)
        clear hr1 hg1
        simp only [cstT] at sb1 qb1
        have t1 : 1 + s1.size ≤ 9223372036854775807 := by omega
        go_wp2_with fail
        go_ret
        exact strPost_mk rfl (by simp only [size_append, size_one]; omega) (by simp only [size_append, size_one]; omega) G1.out R1.out (by omega) (by omega)
    · skip
      go_wp2_with fail
      refine (drawTest_any names hn1 hn2 g 1 q0 1 w0 rfl (by simp only [cstT]; omega) (by omega) R0.out).mono ?_
      rintro e w1 ⟨s1, sa1, sb1, rfl, hg1, q1, qa1, qb1, hr1⟩
      have R1 := Lib.hid hr1
      have G1 := Lib.hid (grown_trans G0.out hg1)
      clear hr1 hg1
      simp only [cstT] at sb1 qb1
      have t1 : 1 + s1.size ≤ 9223372036854775807 := by omega
      go_wp2_with fail
      refine (IH.out q1 _ w1 HZ.out (by omega) (by omega) (by omega) R1.out).mono ?_
      rintro e w2 ⟨s2, sa2, sb2, rfl, hg2, q2, qa2, qb2, hr2⟩
      have R2 := Lib.hid hr2
      have G2 := Lib.hid (grown_trans G1.out hg2)
      clear hr2 hg2
      have t2 : 1 + s1.size + s2.size ≤ 9223372036854775807 := by omega
      go_wp2_with fail
      go_ret
      exact strPost_mk rfl (by simp only [size_append, size_one]; omega) (by simp only [size_append, size_one]; omega) G2.out R2.out (by omega) (by omega)

end Go.Proofs.Ytppcghklkldnaaa
