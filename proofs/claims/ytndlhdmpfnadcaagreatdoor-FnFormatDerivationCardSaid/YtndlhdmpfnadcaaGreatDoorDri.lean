/- Drawn programs, sometimes spoilt; the drawn arguments of the laws on programs. -/
import Derived.Test.YtndlhdmpfnadcaaGreatDoorGc
import Derived.Test.YtndlhdmpfnadcaaGreatDoorGf
import Derived.Deep.RegionHeld3
namespace Go.Proofs.YtndlhdmpfnadcaaGreatDoor
open Go.RowKit
open Pl

set_option maxHeartbeats 4000000 in
theorem badP_any (S : ByteArray) (g p : Nat) (w : World) (h1 : 1 ≤ S.size) (h2 : S.size ≤ 100000) (hp : p ≤ 999999000) (hR : Rnd w g p) :
    Calls Tryz.prog 28 #[.pointer (some ⟨g, 0, none⟩), .string S] w (TxtPost w g p (S.size + 1) 3) := by
  have HR := Lib.hid hR
  clear hR
  go_enter Tryz.func28, Tryz.ntmps28
  go_wp2_with fail
  refine (pick_any g p 40 w (by omega) (by omega) HR.out).mono ?_
  rintro e w0 ⟨v0, ⟨va0, vb0, _⟩, rfl, hg0, q0, qa0, qb0, hr0⟩
  have vc0 := vb0 (by omega)
  have R0 := Lib.hid hr0
  have G0 := Lib.hid hg0
  clear vb0 hr0 hg0
  by_cases h0 : v0 = 0
  · subst h0
    go_wp2_with fail
    refine (of_any g q0 w0.heap.size [⟨#[115]⟩, ⟨#[120]⟩, ⟨#[32]⟩] (w0.alloc _) (by omega) (R0.out.alloc _) (by decide) (by decide) (by have := R0.out.lt; omega) (Blk.new w0 _ _)).mono ?_
    rintro e w1 ⟨s1, hs1, rfl, hg1, q1, qa1, qb1, hr1⟩
    have R1 := Lib.hid hr1
    have G1 := Lib.hid (grown_alloc hg1)
    have hz1 : 1 ≤ s1.size ∧ s1.size ≤ 1 := by
      simp only [List.mem_cons, List.not_mem_nil, or_false] at hs1
      rcases hs1 with rfl | rfl | rfl <;> decide
    obtain ⟨hz1a, hz1b⟩ := hz1
    clear hr1 hg1 hs1
    have t1 : S.size + s1.size ≤ 9223372036854775807 := by omega
    go_wp2_with fail
    go_ret
    exact txtPost_mk rfl (by rw [size_append]; omega) (grown_trans G0.out G1.out) R1.out (by omega) (by omega)
  have e0 : (v0 == 0) = false := by simp; exact h0
  by_cases h1' : v0 = 1
  · subst h1'
    clear h0 e0
    go_wp2_with fail
    go_ret
    exact txtPost_mk rfl (by rw [size_extract _ _ _ (by omega)]; omega) G0.out R0.out (by omega) (by omega)
  have e1 : (v0 == 1) = false := by simp; exact h1'
  by_cases h2' : v0 = 2
  · subst h2'
    clear h0 e0 h1' e1
    go_wp2_with fail
    refine (pick_any g q0 (S.size : Int) w0 (by omega) (by omega) R0.out).mono ?_
    rintro e w1 ⟨v1, ⟨va1, vb1, _⟩, rfl, hg1, q1, qa1, qb1, hr1⟩
    have vc1 := vb1 (by omega)
    have R1 := Lib.hid hr1
    have G1 := Lib.hid hg1
    clear vb1 hr1 hg1
    obtain ⟨j, rfl⟩ := Int.eq_ofNat_of_zero_le va1
    have hlr := R1.out.lt
    have OF := Lib.hid (of_any g q1 w1.heap.size [⟨#[88]⟩, ⟨#[119]⟩, ⟨#[59]⟩, ⟨#[64]⟩] (w1.alloc (.cells #[.string ⟨#[88]⟩, .string ⟨#[119]⟩, .string ⟨#[59]⟩, .string ⟨#[64]⟩] 9)).drew (by omega) ((R1.out.alloc _).drewN 1) (by decide) (by decide) (by omega) ((Blk.new w1 _ _).drewN 1))
    have x1 : IntKind.i64.wrap ((j : Int) + 1) = (j : Int) + 1 := IntWalk.i64_in _ (by omega)
    have x2 : ((j : Int) + 1).toNat = j + 1 := by omega
    have x0 : (0 : Int) ≤ (j : Int) := by omega
    have x4 : (j : Int) ≤ (S.size : Int) := by omega
    have x5 : (0 : Int) ≤ (j : Int) + 1 := by omega
    have x3 : ((j : Int) + 1) ≤ (S.size : Int) := by omega
    have eA := size_extract S 0 j (by omega)
    have eB := size_extract S (j + 1) S.size (Nat.le_refl _)
    obtain ⟨A0, hA0⟩ : ∃ A, S.extract 0 j = A := ⟨_, rfl⟩
    obtain ⟨B0, hB0⟩ : ∃ A, S.extract (j + 1) S.size = A := ⟨_, rfl⟩
    rw [hA0] at eA
    rw [hB0] at eB
    have eA' : A0.size ≤ j := by omega
    have eB' : B0.size + j + 1 ≤ S.size := by omega
    clear eA eB
    have hB : ∀ s2 : ByteArray, s2 ∈ ([⟨#[88]⟩, ⟨#[119]⟩, ⟨#[59]⟩, ⟨#[64]⟩] : List ByteArray) → s2.size ≤ 1 ∧ ¬ (9223372036854775807 < A0.size + s2.size) ∧ ¬ (9223372036854775807 < A0.size + s2.size + B0.size) ∧ (A0 ++ s2 ++ B0).size ≤ S.size + 1 := by
      intro s2 h
      have e : s2.size = 1 := by
        simp only [List.mem_cons, List.not_mem_nil, or_false] at h
        rcases h with rfl | rfl | rfl | rfl <;> decide
      refine ⟨by omega, by omega, by omega, by rw [size_append, size_append]; omega⟩
    have HB := Lib.hid hB
    clear hB
    go_wp2_with fail
    go_region_held3 (fun _ => True) (trivial) ((go_at_call 25; refine OF.out.mono ?_; rintro e w2 ⟨s2, hs2, rfl, hg2, q2, qa2, qb2, hr2⟩; obtain ⟨y0, y1, y2, y3⟩ := HB.out s2 hs2; have R2 := Lib.hid hr2; have G2 := Lib.hid (grown_alloc (grown_trans (grownBy_drewN _ 1 (some g)) hg2)); clear hr2 hg2 hs2))
    all_goals go_wp2_with fail
    all_goals go_ret
    all_goals exact txtPost_mk rfl y3 (grown_trans (grown_trans G0.out G1.out) G2.out) R2.out (by omega) (by omega)
  have e2 : (v0 == 2) = false := by simp; exact h2'
  clear h0 h1' h2'
  go_wp2_with fail
  go_ret
  exact txtPost_mk rfl (by omega) G0.out R0.out (by omega) (by omega)



end Go.Proofs.YtndlhdmpfnadcaaGreatDoor
