/- Drawn texts with sharp bounds of their lengths. -/
import Derived.Test.YtndlhdmpfnadcaaGreatDoorDrq
namespace Go.Proofs.YtndlhdmpfnadcaaGreatDoor
open Go.RowKit
open Pl
set_option linter.unusedVariables false
def lnE : Nat → Nat
  | 0 => 1
  | d + 1 => 2 * lnE d + 1
theorem lnE_pos : ∀ d, 1 ≤ lnE d
  | 0 => Nat.le_refl _
  | d + 1 => by simp [lnE]
theorem lnE_le : ∀ d, lnE d ≤ cst d
  | 0 => by decide
  | d + 1 => by have := lnE_le d; have := cst_pos d; simp only [lnE, cst]; omega
def lnT : Nat → Nat
  | 0 => 7
  | d + 1 => 2 * lnT d + 1
theorem lnT_pos : ∀ d, 7 ≤ lnT d
  | 0 => Nat.le_refl _
  | d + 1 => by have := lnT_pos d; simp only [lnT]; omega
theorem lnT_le : ∀ d, lnT d ≤ cstT d
  | 0 => by decide
  | d + 1 => by have := lnT_le d; have := cstT_pos d; simp only [lnT, cstT]; omega
def lnP : Nat → Nat
  | 0 => 5
  | d + 1 => 2 * lnP d + 16
theorem lnP_pos : ∀ d, 5 ≤ lnP d
  | 0 => Nat.le_refl _
  | d + 1 => by have := lnP_pos d; simp only [lnP]; omega
theorem lnP_le : ∀ d, lnP d ≤ cstP d
  | 0 => by decide
  | d + 1 => by have := lnP_le d; have := cstP_pos d; simp only [lnP, cstP]; omega
set_option maxHeartbeats 4000000 in
theorem drawL_any (wd : Bool) (names : ByteArray) (hnm : ∀ c ∈ names.data.toList, isV wd c = true) (hn2 : names.size ≤ 6) (g : Nat) : ∀ (d p : Nat) (z : Int) (w : World), z = d → p + cst d ≤ 1000000000 → d ≤ 100 → Rnd w g p →
    Calls Tryz.prog 57 #[.pointer (some ⟨g, 0, none⟩), .int .i64 z, .string names] w (NPost wd 0 w g p (lnE d) (cst d)) := by
  intro d
  induction d with
  | zero =>
    intro p z w hz hp hd hR
    obtain rfl : z = 0 := hz
    simp only [cst, lnE] at hp ⊢
    have HR := Lib.hid hR
    clear hR
    go_enter Tryz.func57, Tryz.ntmps57
    go_wp2_with fail
    refine (pick_any g p ((names.size : Int) + 2) w (by omega) (by omega) HR.out).mono ?_
    rintro e wa ⟨va, ⟨vaa, vba, _⟩, rfl, hga, qa, qaa, qba, hra⟩
    have vca := vba (by omega)
    have Ra := Lib.hid hra
    have Ga := Lib.hid hga
    clear vba hra hga
    obtain ⟨j, rfl⟩ := Int.eq_ofNat_of_zero_le vaa
    by_cases hj : j < names.size
    · go_wp2_with fail
      go_ret
      exact nPost_mk (ext_leaf hnm hj) rfl (by rw [size_extract _ _ _ (by omega)]; omega) (by rw [size_extract _ _ _ (by omega)]; omega) Ga.out Ra.out (by omega) (by omega)
    · go_wp2_with fail
      refine (pick_any g qa 3 wa (by omega) (by omega) Ra.out).mono ?_
      rintro e wb ⟨vb, ⟨vab, vbb, _⟩, rfl, hgb, qb, qab, qbb, hrb⟩
      have vcb := vbb (by omega)
      have Rb := Lib.hid hrb
      have Gb := Lib.hid hgb
      clear vbb hrb hgb
      go_wp2_with fail
      refine (dec_small vb _ (by omega) (by omega) rfl _).mono ?_
      rintro e wc ⟨rfl, hbc⟩
      have BC := Lib.hid hbc
      clear hbc
      go_wp2_with fail
      go_ret
      exact nPost_mk (dig_leaf (by omega) (by omega)) rfl (Nat.le_refl _) (by rw [size_one]; omega) (grown_below (grown_trans Ga.out Gb.out) BC.out) (Rb.out.below BC.out) (by omega) (by omega)
  | succ d ih =>
    intro p z w hz hp hd hR
    have hcp := cst_pos d
    simp only [cst, lnE] at hp ⊢
    have HR := Lib.hid hR
    have IH := Lib.hid ih
    have hz0 : ¬ z ≤ 0 := by omega
    have hz1 : z ≤ 200 := by omega
    have HZ : Hid (z - 1 = (d : Int)) := by show z - 1 = _; omega
    clear hR ih hz
    have hl1 := lnE_pos d
    have hl2 := lnE_le d
    generalize cst d = cd at *
    generalize lnE d = ld at *
    go_enter Tryz.func57, Tryz.ntmps57
    go_wp2_with fail
    refine (pick_any g p 3 w (by omega) (by omega) HR.out).mono ?_
    rintro e w0 ⟨v0, ⟨va0, vb0, _⟩, rfl, hg0, q0, qa0, qb0, hr0⟩
    have vc0 := vb0 (by omega)
    have R0 := Lib.hid hr0
    have G0 := Lib.hid hg0
    clear vb0 hr0 hg0
    by_cases hv : v0 = 0
    · subst hv
      go_wp2_with fail
      refine (pick_any g q0 ((names.size : Int) + 2) w0 (by omega) (by omega) R0.out).mono ?_
      rintro e wa ⟨va, ⟨vaa, vba, _⟩, rfl, hga, qa, qaa, qba, hra⟩
      have vca := vba (by omega)
      have Ra := Lib.hid hra
      have Ga := Lib.hid hga
      clear vba hra hga
      obtain ⟨j, rfl⟩ := Int.eq_ofNat_of_zero_le vaa
      by_cases hj : j < names.size
      · go_wp2_with fail
        go_ret
        exact nPost_mk (ext_leaf hnm hj) rfl (by rw [size_extract _ _ _ (by omega)]; omega) (by rw [size_extract _ _ _ (by omega)]; omega) (grown_trans G0.out Ga.out) Ra.out (by omega) (by omega)
      · go_wp2_with fail
        refine (pick_any g qa 3 wa (by omega) (by omega) Ra.out).mono ?_
        rintro e wb ⟨vb, ⟨vab, vbb, _⟩, rfl, hgb, qb, qab, qbb, hrb⟩
        have vcb := vbb (by omega)
        have Rb := Lib.hid hrb
        have Gb := Lib.hid hgb
        clear vbb hrb hgb
        go_wp2_with fail
        refine (dec_small vb _ (by omega) (by omega) rfl _).mono ?_
        rintro e wc ⟨rfl, hbc⟩
        have BC := Lib.hid hbc
        clear hbc
        go_wp2_with fail
        go_ret
        exact nPost_mk (dig_leaf (by omega) (by omega)) rfl (Nat.le_refl _) (by rw [size_one]; omega) (grown_below (grown_trans (grown_trans G0.out Ga.out) Gb.out) BC.out) (Rb.out.below BC.out) (by omega) (by omega)
    · have hv' : (v0 == 0) = false := by simp; exact hv
      clear hv
      go_wp2_with fail
      refine (of_any g q0 w0.heap.size [⟨#[43]⟩, ⟨#[45]⟩, ⟨#[42]⟩, ⟨#[43]⟩] (w0.alloc _) (by omega) (R0.out.alloc _) (by decide) (by decide) (by have := R0.out.lt; omega) (Blk.new w0 _ _)).mono ?_
      rintro e w1 ⟨s1, hs1, rfl, hg1, q1, qa1, qb1, hr1⟩
      have R1 := Lib.hid hr1
      have G1 := Lib.hid (grown_alloc hg1)
      have S1 := Lib.hid hs1
      have O1 : Hid (One [43, 45, 42] s1) := one_of (by have := S1.out; simp at this ⊢; rcases this with h | h | h | h <;> simp [h, bs])
      clear hr1 hg1 hs1
      have hs1 : s1.size = 1 := by
        have := S1.out
        simp at this
        rcases this with rfl | rfl | rfl | rfl <;> rfl
      have t1 : s1.size ≤ 1 := by omega
      have t0 : 1 ≤ s1.size := by omega
      clear hs1
      go_wp2_with fail
      refine (IH.out q1 _ w1 HZ.out (by omega) (by omega) R1.out).mono ?_
      rintro e w2 ⟨s2, H2, sa2, sb2, rfl, hg2, q2, qa2, qb2, hr2⟩
      have R2 := Lib.hid hr2
      have G2 := Lib.hid hg2
      clear hr2 hg2
      have t2 : s1.size + s2.size ≤ 9223372036854775807 := by omega
      go_wp2_with fail
      refine (IH.out q2 _ w2 HZ.out (by omega) (by omega) R2.out).mono ?_
      rintro e w3 ⟨s3, H3, sa3, sb3, rfl, hg3, q3, qa3, qb3, hr3⟩
      have R3 := Lib.hid hr3
      have G3 := Lib.hid hg3
      clear hr3 hg3
      have t3 : (s1 ++ s2).size + s3.size ≤ 9223372036854775807 := by rw [size_append]; omega
      go_wp2_with fail
      go_ret
      exact nPost_mk (two_of op_two O1.out H2.out H3.out) rfl (by rw [size_append, size_append]; omega) (by rw [size_append, size_append]; omega) (grown_trans (grown_trans (grown_trans G0.out G1.out) G2.out) G3.out) R3.out (by omega) (by omega)

set_option maxHeartbeats 4000000 in
theorem drawTestL_any (wd : Bool) (names : ByteArray) (hnm : ∀ c ∈ names.data.toList, isV wd c = true) (hn2 : names.size ≤ 6) (g : Nat) : ∀ (d p : Nat) (z : Int) (w : World), z = d → p + cstT d ≤ 1000000000 → d ≤ 100 → Rnd w g p →
    Calls Tryz.prog 34 #[.pointer (some ⟨g, 0, none⟩), .int .i64 z, .string names] w (NPost wd 1 w g p (lnT d) (cstT d)) := by
  intro d
  induction d with
  | zero =>
    intro p z w hz hp hd hR
    obtain rfl : z = 0 := hz
    simp only [cstT, lnT] at hp ⊢
    have HR := Lib.hid hR
    clear hR
    go_enter Tryz.func34, Tryz.ntmps34
    go_wp2_with fail
    refine (pick_any g p 8 w (by omega) (by omega) HR.out).mono ?_
    rintro e w0 ⟨v0, ⟨va0, vb0, _⟩, rfl, hg0, q0, qa0, qb0, hr0⟩
    have vc0 := vb0 (by omega)
    have R0 := Lib.hid hr0
    have G0 := Lib.hid hg0
    clear vb0 hr0 hg0
    go_wp2_with fail
    refine (pick_any g q0 10 w0 (by omega) (by omega) R0.out).mono ?_
    rintro e w1 ⟨v1, ⟨va1, vb1, _⟩, rfl, hg1, q1, qa1, qb1, hr1⟩
    have vc1 := vb1 (by omega)
    have R1 := Lib.hid hr1
    have G1 := Lib.hid hg1
    clear vb1 hr1 hg1
    by_cases hv : v1 = 0
    · subst hv
      go_wp2_with fail
      refine (of_any g q1 w1.heap.size [⟨#[116]⟩, ⟨#[102]⟩] (w1.alloc _) (by omega) (R1.out.alloc _) (by decide) (by decide) (by have := R1.out.lt; omega) (Blk.new w1 _ _)).mono ?_
      rintro e w2 ⟨s2, hs2, rfl, hg2, q2, qa2, qb2, hr2⟩
      have R2 := Lib.hid hr2
      have G2 := Lib.hid (grown_alloc hg2)
      have O2 : Hid (One [116, 102] s2) := one_of (by simpa [bs] using hs2)
      have hz2 : 1 ≤ s2.size ∧ s2.size ≤ 1 := by
        simp only [List.mem_cons, List.not_mem_nil, or_false] at hs2
        rcases hs2 with rfl | rfl <;> decide
      obtain ⟨hz2a, hz2b⟩ := hz2
      clear hr2 hg2 hs2
      go_wp2_with fail
      go_ret
      exact nPost_mk (leaf_of O2.out) rfl (by omega) (by omega) (grown_trans (grown_trans G0.out G1.out) G2.out) R2.out (by omega) (by omega)
    · have hv' : (v1 == 0) = false := by simp; exact hv
      clear hv
      go_wp2_with fail
      refine (of_any g q1 w1.heap.size [⟨#[61]⟩, ⟨#[60]⟩] (w1.alloc _) (by omega) (R1.out.alloc _) (by decide) (by decide) (by have := R1.out.lt; omega) (Blk.new w1 _ _)).mono ?_
      rintro e w2 ⟨s2, hs2, rfl, hg2, q2, qa2, qb2, hr2⟩
      have R2 := Lib.hid hr2
      have G2 := Lib.hid (grown_alloc hg2)
      have O2 : Hid (One [61, 60] s2) := one_of (by simpa [bs] using hs2)
      have hz2 : 1 ≤ s2.size ∧ s2.size ≤ 1 := by
        simp only [List.mem_cons, List.not_mem_nil, or_false] at hs2
        rcases hs2 with rfl | rfl <;> decide
      obtain ⟨hz2a, hz2b⟩ := hz2
      clear hr2 hg2 hs2
      go_wp2_with fail
      refine (drawL_any wd names hnm hn2 g 1 q2 1 w2 rfl (by simp only [cst]; omega) (by omega) R2.out).mono ?_
      rintro e w3 ⟨s3, H3, sa3, sb3, rfl, hg3, q3, qa3, qb3, hr3⟩
      have R3 := Lib.hid hr3
      have G3 := Lib.hid hg3
      clear hr3 hg3
      simp only [cst, lnE] at sb3 qb3
      have t3 : s2.size + s3.size ≤ 9223372036854775807 := by omega
      go_wp2_with fail
      refine (drawL_any wd names hnm hn2 g 1 q3 1 w3 rfl (by simp only [cst]; omega) (by omega) R3.out).mono ?_
      rintro e w4 ⟨s4, H4, sa4, sb4, rfl, hg4, q4, qa4, qb4, hr4⟩
      have R4 := Lib.hid hr4
      have G4 := Lib.hid hg4
      clear hr4 hg4
      simp only [cst, lnE] at sb4 qb4
      have t4 : (s2 ++ s3).size + s4.size ≤ 9223372036854775807 := by rw [size_append]; omega
      go_wp2_with fail
      go_ret
      exact nPost_mk (two_of cmp_two O2.out H3.out H4.out) rfl (by rw [size_append, size_append]; omega) (by rw [size_append, size_append]; omega) (grown_trans (grown_trans (grown_trans (grown_trans G0.out G1.out) G2.out) G3.out) G4.out) R4.out (by omega) (by omega)
  | succ d ih =>
    intro p z w hz hp hd hR
    have hcp := cstT_pos d
    simp only [cstT, lnT] at hp ⊢
    have HR := Lib.hid hR
    have IH := Lib.hid ih
    have hz0 : ¬ z ≤ 0 := by omega
    have hz1 : z ≤ 200 := by omega
    have HZ : Hid (z - 1 = (d : Int)) := by show z - 1 = _; omega
    clear hR ih hz
    have hl1 := lnT_pos d
    have hl2 := lnT_le d
    generalize cstT d = cd at *
    generalize lnT d = ld at *
    go_enter Tryz.func34, Tryz.ntmps34
    go_wp2_with fail
    refine (pick_any g p 8 w (by omega) (by omega) HR.out).mono ?_
    rintro e w0 ⟨v0, ⟨va0, vb0, _⟩, rfl, hg0, q0, qa0, qb0, hr0⟩
    have vc0 := vb0 (by omega)
    have R0 := Lib.hid hr0
    have G0 := Lib.hid hg0
    clear vb0 hr0 hg0
    by_cases hk4 : v0 < 4
    · go_wp2_with fail
      refine (pick_any g q0 10 w0 (by omega) (by omega) R0.out).mono ?_
      rintro e w1 ⟨v1, ⟨va1, vb1, _⟩, rfl, hg1, q1, qa1, qb1, hr1⟩
      have vc1 := vb1 (by omega)
      have R1 := Lib.hid hr1
      have G1 := Lib.hid hg1
      clear vb1 hr1 hg1
      by_cases hv : v1 = 0
      · subst hv
        go_wp2_with fail
        refine (of_any g q1 w1.heap.size [⟨#[116]⟩, ⟨#[102]⟩] (w1.alloc _) (by omega) (R1.out.alloc _) (by decide) (by decide) (by have := R1.out.lt; omega) (Blk.new w1 _ _)).mono ?_
        rintro e w2 ⟨s2, hs2, rfl, hg2, q2, qa2, qb2, hr2⟩
        have R2 := Lib.hid hr2
        have G2 := Lib.hid (grown_alloc hg2)
        have O2 : Hid (One [116, 102] s2) := one_of (by simpa [bs] using hs2)
        have hz2 : 1 ≤ s2.size ∧ s2.size ≤ 1 := by
          simp only [List.mem_cons, List.not_mem_nil, or_false] at hs2
          rcases hs2 with rfl | rfl <;> decide
        obtain ⟨hz2a, hz2b⟩ := hz2
        clear hr2 hg2 hs2
        go_wp2_with fail
        go_ret
        exact nPost_mk (leaf_of O2.out) rfl (by omega) (by omega) (grown_trans (grown_trans G0.out G1.out) G2.out) R2.out (by omega) (by omega)
      · have hv' : (v1 == 0) = false := by simp; exact hv
        clear hv
        go_wp2_with fail
        refine (of_any g q1 w1.heap.size [⟨#[61]⟩, ⟨#[60]⟩] (w1.alloc _) (by omega) (R1.out.alloc _) (by decide) (by decide) (by have := R1.out.lt; omega) (Blk.new w1 _ _)).mono ?_
        rintro e w2 ⟨s2, hs2, rfl, hg2, q2, qa2, qb2, hr2⟩
        have R2 := Lib.hid hr2
        have G2 := Lib.hid (grown_alloc hg2)
        have O2 : Hid (One [61, 60] s2) := one_of (by simpa [bs] using hs2)
        have hz2 : 1 ≤ s2.size ∧ s2.size ≤ 1 := by
          simp only [List.mem_cons, List.not_mem_nil, or_false] at hs2
          rcases hs2 with rfl | rfl <;> decide
        obtain ⟨hz2a, hz2b⟩ := hz2
        clear hr2 hg2 hs2
        go_wp2_with fail
        refine (drawL_any wd names hnm hn2 g 1 q2 1 w2 rfl (by simp only [cst]; omega) (by omega) R2.out).mono ?_
        rintro e w3 ⟨s3, H3, sa3, sb3, rfl, hg3, q3, qa3, qb3, hr3⟩
        have R3 := Lib.hid hr3
        have G3 := Lib.hid hg3
        clear hr3 hg3
        simp only [cst, lnE] at sb3 qb3
        have t3 : s2.size + s3.size ≤ 9223372036854775807 := by omega
        go_wp2_with fail
        refine (drawL_any wd names hnm hn2 g 1 q3 1 w3 rfl (by simp only [cst]; omega) (by omega) R3.out).mono ?_
        rintro e w4 ⟨s4, H4, sa4, sb4, rfl, hg4, q4, qa4, qb4, hr4⟩
        have R4 := Lib.hid hr4
        have G4 := Lib.hid hg4
        clear hr4 hg4
        simp only [cst, lnE] at sb4 qb4
        have t4 : (s2 ++ s3).size + s4.size ≤ 9223372036854775807 := by rw [size_append]; omega
        go_wp2_with fail
        go_ret
        exact nPost_mk (two_of cmp_two O2.out H3.out H4.out) rfl (by rw [size_append, size_append]; omega) (by rw [size_append, size_append]; omega) (grown_trans (grown_trans (grown_trans (grown_trans G0.out G1.out) G2.out) G3.out) G4.out) R4.out (by omega) (by omega)
    by_cases hk5 : v0 < 5
    · go_wp2_with fail
      refine (IH.out q0 _ w0 HZ.out (by omega) (by omega) R0.out).mono ?_
      rintro e w1 ⟨s1, H1, sa1, sb1, rfl, hg1, q1, qa1, qb1, hr1⟩
      have R1 := Lib.hid hr1
      have G1 := Lib.hid hg1
      clear hr1 hg1
      have t1 : 1 + s1.size ≤ 9223372036854775807 := by omega
      go_wp2_with fail
      go_ret
      exact nPost_mk (not_of H1.out) rfl (by rw [size_append]; omega) (by rw [size_append, size_one]; omega) (grown_trans G0.out G1.out) R1.out (by omega) (by omega)
    · go_wp2_with fail
      refine (of_any g q0 w0.heap.size [⟨#[38]⟩, ⟨#[124]⟩] (w0.alloc _) (by omega) (R0.out.alloc _) (by decide) (by decide) (by have := R0.out.lt; omega) (Blk.new w0 _ _)).mono ?_
      rintro e w1 ⟨s1, hs1, rfl, hg1, q1, qa1, qb1, hr1⟩
      have R1 := Lib.hid hr1
      have G1 := Lib.hid (grown_alloc hg1)
      have O1 : Hid (One [38, 124] s1) := one_of (by simpa [bs] using hs1)
      have hz1 : 1 ≤ s1.size ∧ s1.size ≤ 1 := by
        simp only [List.mem_cons, List.not_mem_nil, or_false] at hs1
        rcases hs1 with rfl | rfl <;> decide
      obtain ⟨hz1a, hz1b⟩ := hz1
      clear hr1 hg1 hs1
      go_wp2_with fail
      refine (IH.out q1 _ w1 HZ.out (by omega) (by omega) R1.out).mono ?_
      rintro e w2 ⟨s2, H2, sa2, sb2, rfl, hg2, q2, qa2, qb2, hr2⟩
      have R2 := Lib.hid hr2
      have G2 := Lib.hid hg2
      clear hr2 hg2
      have t2 : s1.size + s2.size ≤ 9223372036854775807 := by omega
      go_wp2_with fail
      refine (IH.out q2 _ w2 HZ.out (by omega) (by omega) R2.out).mono ?_
      rintro e w3 ⟨s3, H3, sa3, sb3, rfl, hg3, q3, qa3, qb3, hr3⟩
      have R3 := Lib.hid hr3
      have G3 := Lib.hid hg3
      clear hr3 hg3
      have t3 : (s1 ++ s2).size + s3.size ≤ 9223372036854775807 := by rw [size_append]; omega
      go_wp2_with fail
      go_ret
      exact nPost_mk (two_of con_two O1.out H2.out H3.out) rfl (by rw [size_append, size_append]; omega) (by rw [size_append, size_append]; omega) (grown_trans (grown_trans (grown_trans G0.out G1.out) G2.out) G3.out) R3.out (by omega) (by omega)

set_option maxHeartbeats 4000000 in
theorem setDrawL_any (names : ByteArray) (hnm : ∀ c ∈ names.data.toList, isV false c = true) (hn1 : 1 ≤ names.size) (hn2 : names.size ≤ 6) (g p : Nat) (w : World) (hp : p ≤ 999990000) (hR : Rnd w g p) :
    Calls Tryz.prog 33 #[.pointer (some ⟨g, 0, none⟩), .string names] w (NPost false 2 w g p 5 20) := by
  have HR := Lib.hid hR
  clear hR
  go_enter Tryz.func33, Tryz.ntmps33
  go_wp2_with fail
  refine (pick_any g p (names.size : Int) w (by omega) (by omega) HR.out).mono ?_
  rintro e w0 ⟨v0, ⟨va0, vb0, _⟩, rfl, hg0, q0, qa0, qb0, hr0⟩
  have vc0 := vb0 (by omega)
  have R0 := Lib.hid hr0
  have G0 := Lib.hid hg0
  clear vb0 hr0 hg0
  obtain ⟨j, rfl⟩ := Int.eq_ofNat_of_zero_le va0
  have hj : j < names.size := by omega
  obtain ⟨V, hV⟩ : ∃ V, names.extract j (j + 1) = V := ⟨_, rfl⟩
  have hV1 : V.size = 1 := by rw [← hV, size_extract _ _ _ (by omega)]; omega
  have HV := Lib.hid hV
  have NV : Hid (∃ v : UInt8, isV false v = true ∧ V = bs [v]) := by rw [← hV]; exact ext_v hnm hj
  have NM := Lib.hid hnm
  have v1a : 1 ≤ V.size := by omega
  have v1b : V.size ≤ 1 := by omega
  clear hV hV1 hnm
  go_wp2_with fail
  try rw [HV.out]
  refine (pick_any g q0 4 w0 (by omega) (by omega) R0.out).mono ?_
  rintro e w1 ⟨v1, ⟨va1, vb1, _⟩, rfl, hg1, q1, qa1, qb1, hr1⟩
  have vc1 := vb1 (by omega)
  have R1 := Lib.hid hr1
  have G1 := Lib.hid (grown_trans G0.out hg1)
  clear vb1 hr1 hg1
  by_cases h0 : v1 = 0
  · subst h0
    have t0 : 1 + V.size ≤ 9223372036854775807 := by omega
    go_wp2_with fail
    refine (of_any g q1 w1.heap.size [⟨#[43]⟩, ⟨#[45]⟩] (w1.alloc _) (by omega) (R1.out.alloc _) (by decide) (by decide) (by have := R1.out.lt; omega) (Blk.new w1 _ _)).mono ?_
    rintro e w2 ⟨s2, hs2, rfl, hg2, q2, qa2, qb2, hr2⟩
    have R2 := Lib.hid hr2
    have G2 := Lib.hid (grown_trans G1.out (grown_alloc hg2))
    clear hr2 hg2
    have hz2 : 1 ≤ s2.size ∧ s2.size ≤ 1 := by
      simp only [List.mem_cons, List.not_mem_nil, or_false] at hs2
      rcases hs2 with rfl | rfl <;> decide
    obtain ⟨hza2, hzb2⟩ := hz2
    have S2 := Lib.hid hs2
    clear hs2
    have t1 : 1 + V.size + s2.size ≤ 9223372036854775807 := by omega
    have t2 : 1 + V.size + s2.size + V.size ≤ 9223372036854775807 := by omega
    have t3 : 1 + V.size + s2.size + V.size + 1 ≤ 9223372036854775807 := by omega
    go_wp2_with fail
    refine (pick_any g q2 2 w2 (by omega) (by omega) R2.out).mono ?_
    rintro e w3 ⟨v3, ⟨va3, vb3, _⟩, rfl, hg3, q3, qa3, qb3, hr3⟩
    have vc3 := vb3 (by omega)
    have R3 := Lib.hid hr3
    have G3 := Lib.hid (grown_trans G2.out hg3)
    clear vb3 hr3 hg3
    go_wp2_with fail
    refine (dec_small (1 + v3) _ (by omega) (by omega) rfl _).mono ?_
    rintro e w4 ⟨rfl, hb4⟩
    have B4 := Lib.hid hb4
    clear hb4
    go_wp2_with fail
    go_ret
    exact nPost_mk (asg4_of NV.out S2.out (dig_leaf (by omega) (by omega))) rfl (by simp only [size_append, size_one]; omega) (by simp only [size_append, size_one]; omega) (grown_below G3.out B4.out) (R3.out.below B4.out) (by omega) (by omega)
  have e0 : (v1 == 0) = false := by simp; exact h0
  by_cases h1 : v1 = 1
  · subst h1
    clear h0 e0
    have t0 : 1 + V.size ≤ 9223372036854775807 := by omega
    have t1 : 1 + V.size + 1 ≤ 9223372036854775807 := by omega
    go_wp2_with fail
    refine (pick_any g q1 3 w1 (by omega) (by omega) R1.out).mono ?_
    rintro e w3 ⟨v3, ⟨va3, vb3, _⟩, rfl, hg3, q3, qa3, qb3, hr3⟩
    have vc3 := vb3 (by omega)
    have R3 := Lib.hid hr3
    have G3 := Lib.hid (grown_trans G1.out hg3)
    clear vb3 hr3 hg3
    go_wp2_with fail
    refine (dec_small v3 _ (by omega) (by omega) rfl _).mono ?_
    rintro e w4 ⟨rfl, hb4⟩
    have B4 := Lib.hid hb4
    clear hb4
    go_wp2_with fail
    go_ret
    exact nPost_mk (asg_of NV.out (dig_leaf (by omega) (by omega))) rfl (by simp only [size_append, size_one]; omega) (by simp only [size_append, size_one]; omega) (grown_below G3.out B4.out) (R3.out.below B4.out) (by omega) (by omega)
  have e1 : (v1 == 1) = false := by simp; exact h1
  clear h0 h1
  have t0 : 1 + V.size ≤ 9223372036854775807 := by omega
  go_wp2_with fail
  refine (drawL_any false names NM.out hn2 g 1 q1 1 w1 rfl (by simp only [cst]; omega) (by omega) R1.out).mono ?_
  rintro e w3 ⟨s3, N3, sa3, sb3, rfl, hg3, q3, qa3, qb3, hr3⟩
  have R3 := Lib.hid hr3
  have G3 := Lib.hid (grown_trans G1.out hg3)
  clear hr3 hg3
  simp only [cst, lnE] at sb3 qb3
  have t1 : 1 + V.size + s3.size ≤ 9223372036854775807 := by omega
  go_wp2_with fail
  go_ret
  exact nPost_mk (asg_of NV.out N3.out) rfl (by simp only [size_append, size_one]; omega) (by simp only [size_append, size_one]; omega) G3.out R3.out (by omega) (by omega)
set_option maxHeartbeats 8000000 in
theorem progDrawL_any (names : ByteArray) (hnm : ∀ c ∈ names.data.toList, isV false c = true) (hn1 : 1 ≤ names.size) (hn2 : names.size ≤ 6) (plain : Bool) (g : Nat) : ∀ (d p : Nat) (z : Int) (w : World), z = d → p + cstP d ≤ 900000000 → d ≤ 20 → cstP d ≤ 100000000 → Rnd w g p →
    Calls Tryz.prog 42 #[.pointer (some ⟨g, 0, none⟩), .int .i64 z, .bool plain, .string names] w (NPost false 2 w g p (lnP d) (cstP d)) := by
  intro d
  induction d with
  | zero =>
    intro p z w hz hp hd hcd hR
    obtain rfl : z = 0 := hz
    simp only [cstP, lnP] at hp hcd ⊢
    have HR := Lib.hid hR
    clear hR
    go_enter Tryz.func42, Tryz.ntmps42
    go_wp2_with fail
    refine (pick_any g p 12 w (by omega) (by omega) HR.out).mono ?_
    rintro e w0 ⟨v0, ⟨va0, vb0, _⟩, rfl, hg0, q0, qa0, qb0, hr0⟩
    have vc0 := vb0 (by omega)
    have R0 := Lib.hid hr0
    have G0 := Lib.hid hg0
    clear vb0 hr0 hg0
    go_wp2_with fail
    refine (pick_any g q0 8 w0 (by omega) (by omega) R0.out).mono ?_
    rintro e w1 ⟨v1, ⟨va1, vb1, _⟩, rfl, hg1, q1, qa1, qb1, hr1⟩
    have vc1 := vb1 (by omega)
    have R1 := Lib.hid hr1
    have G1 := Lib.hid (grown_trans G0.out hg1)
    clear vb1 hr1 hg1
    by_cases hv : v1 = 0
    · subst hv
      go_wp2_with fail
      go_ret
      exact nPost_mk (show Pr ⟨#[115]⟩ from ⟨.n0 115, rfl, rfl⟩) rfl (by decide) (by rw [size_one]; omega) G1.out R1.out (by omega) (by omega)
    · have hv' : (v1 == 0) = false := by simp; exact hv
      clear hv
      go_wp2_with fail
      refine (setDrawL_any names hnm hn1 hn2 g q1 w1 (by omega) R1.out).mono ?_
      rintro e w2 ⟨s2, N2, sa2, sb2, rfl, hg2, q2, qa2, qb2, hr2⟩
      have R2 := Lib.hid hr2
      have G2 := Lib.hid (grown_trans G1.out hg2)
      clear hr2 hg2
      go_wp2_with fail
      go_ret
      exact nPost_mk (N2.out) rfl (by omega) (by omega) G2.out R2.out (by omega) (by omega)
  | succ d ih =>
    intro p z w hz hp hd hcd hR
    have hcp := cstP_pos d
    simp only [cstP, lnP] at hp hcd ⊢
    have HR := Lib.hid hR
    have IH := Lib.hid ih
    have hz0 : ¬ z ≤ 0 := by omega
    have hz1 : z ≤ 200 := by omega
    have HZ : Hid (z - 1 = (d : Int)) := by show z - 1 = _; omega
    clear hR ih hz
    have hl1 := lnP_pos d
    have hl2 := lnP_le d
    generalize cstP d = cd at *
    generalize lnP d = ld at *
    go_enter Tryz.func42, Tryz.ntmps42
    go_wp2_with fail
    refine (pick_any g p 12 w (by omega) (by omega) HR.out).mono ?_
    rintro e w0 ⟨v0, ⟨va0, vb0, _⟩, rfl, hg0, q0, qa0, qb0, hr0⟩
    have vc0 := vb0 (by omega)
    have R0 := Lib.hid hr0
    have G0 := Lib.hid hg0
    clear vb0 hr0 hg0
    by_cases k2 : v0 < 2
    · skip
      go_wp2_with fail
      refine (pick_any g q0 8 w0 (by omega) (by omega) R0.out).mono ?_
      rintro e w1 ⟨v1, ⟨va1, vb1, _⟩, rfl, hg1, q1, qa1, qb1, hr1⟩
      have vc1 := vb1 (by omega)
      have R1 := Lib.hid hr1
      have G1 := Lib.hid (grown_trans G0.out hg1)
      clear vb1 hr1 hg1
      by_cases hv : v1 = 0
      · subst hv
        go_wp2_with fail
        go_ret
        exact nPost_mk (show Pr ⟨#[115]⟩ from ⟨.n0 115, rfl, rfl⟩) rfl (by decide) (by rw [size_one]; omega) G1.out R1.out (by omega) (by omega)
      · have hv' : (v1 == 0) = false := by simp; exact hv
        clear hv
        go_wp2_with fail
        refine (setDrawL_any names hnm hn1 hn2 g q1 w1 (by omega) R1.out).mono ?_
        rintro e w2 ⟨s2, N2, sa2, sb2, rfl, hg2, q2, qa2, qb2, hr2⟩
        have R2 := Lib.hid hr2
        have G2 := Lib.hid (grown_trans G1.out hg2)
        clear hr2 hg2
        go_wp2_with fail
        go_ret
        exact nPost_mk (N2.out) rfl (by omega) (by omega) G2.out R2.out (by omega) (by omega)
    by_cases k6 : v0 < 6
    · skip
      go_wp2_with fail
      refine (IH.out q0 _ w0 HZ.out (by omega) (by omega) (by omega) R0.out).mono ?_
      rintro e w1 ⟨s1, N1, sa1, sb1, rfl, hg1, q1, qa1, qb1, hr1⟩
      have R1 := Lib.hid hr1
      have G1 := Lib.hid (grown_trans G0.out hg1)
      clear hr1 hg1
      have t1 : 1 + s1.size ≤ 9223372036854775807 := by omega
      go_wp2_with fail
      refine (IH.out q1 _ w1 HZ.out (by omega) (by omega) (by omega) R1.out).mono ?_
      rintro e w2 ⟨s2, N2, sa2, sb2, rfl, hg2, q2, qa2, qb2, hr2⟩
      have R2 := Lib.hid hr2
      have G2 := Lib.hid (grown_trans G1.out hg2)
      clear hr2 hg2
      have t2 : 1 + s1.size + s2.size ≤ 9223372036854775807 := by omega
      go_wp2_with fail
      go_ret
      exact nPost_mk (two_prog (.inl rfl) N1.out N2.out) rfl (by simp only [size_append, size_one]; omega) (by simp only [size_append, size_one]; omega) G2.out R2.out (by omega) (by omega)
    by_cases k8 : v0 < 8
    · skip
      go_wp2_with fail
      refine (drawTestL_any false names hnm hn2 g 1 q0 1 w0 rfl (by simp only [cstT]; omega) (by omega) R0.out).mono ?_
      rintro e w1 ⟨s1, N1, sa1, sb1, rfl, hg1, q1, qa1, qb1, hr1⟩
      have R1 := Lib.hid hr1
      have G1 := Lib.hid (grown_trans G0.out hg1)
      clear hr1 hg1
      simp only [cstT, lnT] at sb1 qb1
      go_wp2_with fail
      refine (IH.out q1 _ w1 HZ.out (by omega) (by omega) (by omega) R1.out).mono ?_
      rintro e w2 ⟨s2, N2, sa2, sb2, rfl, hg2, q2, qa2, qb2, hr2⟩
      have R2 := Lib.hid hr2
      have G2 := Lib.hid (grown_trans G1.out hg2)
      clear hr2 hg2
      have t1 : 1 + s1.size ≤ 9223372036854775807 := by omega
      have t2 : 1 + s1.size + s2.size ≤ 9223372036854775807 := by omega
      go_wp2_with fail
      refine (IH.out q2 _ w2 HZ.out (by omega) (by omega) (by omega) R2.out).mono ?_
      rintro e w3 ⟨s3, N3, sa3, sb3, rfl, hg3, q3, qa3, qb3, hr3⟩
      have R3 := Lib.hid hr3
      have G3 := Lib.hid (grown_trans G2.out hg3)
      clear hr3 hg3
      have t3 : 1 + s1.size + s2.size + s3.size ≤ 9223372036854775807 := by omega
      go_wp2_with fail
      go_ret
      exact nPost_mk (cond_of N1.out N2.out N3.out) rfl (by simp only [size_append, size_one]; omega) (by simp only [size_append, size_one]; omega) G3.out R3.out (by omega) (by omega)
    by_cases k10 : v0 < 10
    · skip
      go_wp2_with fail
      refine (drawTestL_any false names hnm hn2 g 1 q0 1 w0 rfl (by simp only [cstT]; omega) (by omega) R0.out).mono ?_
      rintro e w1 ⟨s1, N1, sa1, sb1, rfl, hg1, q1, qa1, qb1, hr1⟩
      have R1 := Lib.hid hr1
      have G1 := Lib.hid (grown_trans G0.out hg1)
      clear hr1 hg1
      simp only [cstT, lnT] at sb1 qb1
      have t1 : 1 + s1.size ≤ 9223372036854775807 := by omega
      go_wp2_with fail
      refine (IH.out q1 _ w1 HZ.out (by omega) (by omega) (by omega) R1.out).mono ?_
      rintro e w2 ⟨s2, N2, sa2, sb2, rfl, hg2, q2, qa2, qb2, hr2⟩
      have R2 := Lib.hid hr2
      have G2 := Lib.hid (grown_trans G1.out hg2)
      clear hr2 hg2
      have t2 : 1 + s1.size + s2.size ≤ 9223372036854775807 := by omega
      go_wp2_with fail
      go_ret
      exact nPost_mk (loop_of N1.out N2.out) rfl (by simp only [size_append, size_one]; omega) (by simp only [size_append, size_one]; omega) G2.out R2.out (by omega) (by omega)
    cases plain
    · by_cases k11 : v0 < 11
      · skip
        go_wp2_with fail
        refine (IH.out q0 _ w0 HZ.out (by omega) (by omega) (by omega) R0.out).mono ?_
        rintro e w1 ⟨s1, N1, sa1, sb1, rfl, hg1, q1, qa1, qb1, hr1⟩
        have R1 := Lib.hid hr1
        have G1 := Lib.hid (grown_trans G0.out hg1)
        clear hr1 hg1
        have t1 : 1 + s1.size ≤ 9223372036854775807 := by omega
        go_wp2_with fail
        refine (IH.out q1 _ w1 HZ.out (by omega) (by omega) (by omega) R1.out).mono ?_
        rintro e w2 ⟨s2, N2, sa2, sb2, rfl, hg2, q2, qa2, qb2, hr2⟩
        have R2 := Lib.hid hr2
        have G2 := Lib.hid (grown_trans G1.out hg2)
        clear hr2 hg2
        have t2 : 1 + s1.size + s2.size ≤ 9223372036854775807 := by omega
        go_wp2_with fail
        go_ret
        exact nPost_mk (two_prog (.inr rfl) N1.out N2.out) rfl (by simp only [size_append, size_one]; omega) (by simp only [size_append, size_one]; omega) G2.out R2.out (by omega) (by omega)
      · skip
        go_wp2_with fail
        refine (drawTestL_any false names hnm hn2 g 1 q0 1 w0 rfl (by simp only [cstT]; omega) (by omega) R0.out).mono ?_
        rintro e w1 ⟨s1, N1, sa1, sb1, rfl, hg1, q1, qa1, qb1, hr1⟩
        have R1 := Lib.hid hr1
        have G1 := Lib.hid (grown_trans G0.out hg1)
        clear hr1 hg1
        simp only [cstT, lnT] at sb1 qb1
        have t1 : 1 + s1.size ≤ 9223372036854775807 := by omega
        go_wp2_with fail
        go_ret
        exact nPost_mk (assume_of N1.out) rfl (by simp only [size_append, size_one]; omega) (by simp only [size_append, size_one]; omega) G1.out R1.out (by omega) (by omega)
    · skip
      go_wp2_with fail
      refine (drawTestL_any false names hnm hn2 g 1 q0 1 w0 rfl (by simp only [cstT]; omega) (by omega) R0.out).mono ?_
      rintro e w1 ⟨s1, N1, sa1, sb1, rfl, hg1, q1, qa1, qb1, hr1⟩
      have R1 := Lib.hid hr1
      have G1 := Lib.hid (grown_trans G0.out hg1)
      clear hr1 hg1
      simp only [cstT, lnT] at sb1 qb1
      have t1 : 1 + s1.size ≤ 9223372036854775807 := by omega
      go_wp2_with fail
      refine (IH.out q1 _ w1 HZ.out (by omega) (by omega) (by omega) R1.out).mono ?_
      rintro e w2 ⟨s2, N2, sa2, sb2, rfl, hg2, q2, qa2, qb2, hr2⟩
      have R2 := Lib.hid hr2
      have G2 := Lib.hid (grown_trans G1.out hg2)
      clear hr2 hg2
      have t2 : 1 + s1.size + s2.size ≤ 9223372036854775807 := by omega
      go_wp2_with fail
      go_ret
      exact nPost_mk (loop_of N1.out N2.out) rfl (by simp only [size_append, size_one]; omega) (by simp only [size_append, size_one]; omega) G2.out R2.out (by omega) (by omega)

end Go.Proofs.YtndlhdmpfnadcaaGreatDoor
