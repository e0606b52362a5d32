/- The drawn arguments of SubstExpr and SubstTest. -/
import Derived.Test.YtccjmahhebiphaaDoorGf
import Derived.Test.YtccjmahhebiphaaDoorMany
namespace Go.Proofs.YtccjmahhebiphaaDoor
open Go.RowKit
open Pl

theorem which_size {s : ByteArray} (h : s ∈ whichs) : s.size ≤ 2 := by
  have : ∀ s ∈ whichs, s.size ≤ 2 := by decide
  exact this s h
set_option maxHeartbeats 2000000 in
theorem DrawSubstTest_any (A : Option Addr) (n cap : Nat) (w : World) (hn : n ≤ 4000000000000) (hc : n ≤ cap) (h : Bytes w A n w.heap.size) :
    Calls Tryd.prog 49 #[.slice A n cap] w fun e w' => ∃ (s v b : ByteArray), s.size ≤ 1025 ∧ v ∈ whichs ∧ b.size ≤ 257 ∧ e = .returned (.tuple #[.string s, .string v, .string b]) ∧ Below w.heap.size w w' := by
  have O := Lib.hid (open_ex A n cap w hn hc (h.later (Below.refl _ _)))
  clear h
  go_enter Tryd.func49, Tryd.ntmps49
  go_wp2_with fail
  refine O.out.mono ?_
  rintro e w0 ⟨g, hg0, rfl, hr0, hb0⟩
  have R0 := Lib.hid hr0
  have G0 : Hid (w.grownBy w0 (some g)) := Lib.hid (grown_of_below (hb0) _)
  have hge : w.heap.size ≤ g := by first | exact hg0 | (simp at hg0; omega)
  clear hr0 hb0 O hg0
  go_wp2_with fail
  refine (drawTest_any ⟨#[120, 121, 122]⟩ (by decide) (by decide) _ 2 0 2 _ rfl (by simp only [cstT]; omega) (by omega) R0.out).mono ?_
  rintro e w1 ⟨s1, sa1, sb1, rfl, hg1, q1, qa1, qb1, hr1⟩
  have R1 := Lib.hid hr1
  have G1 := Lib.hid (grown_trans G0.out hg1)
  clear hr1 hg1
  simp only [cstT] at sb1 qb1
  go_wp2_with fail
  refine (bad_any s1 _ q1 _ sa1 (by omega) (by omega) R1.out).mono ?_
  rintro e w2 ⟨s2, sb2, rfl, hg2, q2, qa2, qb2, hr2⟩
  have R2 := Lib.hid hr2
  have G2 := Lib.hid (grown_trans G1.out hg2)
  clear hr2 hg2
  go_wp2_with fail
  refine (which_any _ q2 _ (by omega) R2.out).mono ?_
  rintro e w3 ⟨s3, hs3, rfl, hg3, q3, qa3, qb3, hr3⟩
  have R3 := Lib.hid hr3
  have G3 := Lib.hid (grown_trans G2.out hg3)
  clear hr3 hg3
  have HW3 := Lib.hid hs3
  clear hs3
  go_wp2_with fail
  refine (draw_any ⟨#[120, 121, 122]⟩ (by decide) (by decide) _ 2 q3 2 _ rfl (by simp only [cst]; omega) (by omega) R3.out).mono ?_
  rintro e w4 ⟨s4, sa4, sb4, rfl, hg4, q4, qa4, qb4, hr4⟩
  have R4 := Lib.hid hr4
  have G4 := Lib.hid (grown_trans G3.out hg4)
  clear hr4 hg4
  simp only [cst] at sb4 qb4
  go_wp2_with fail
  refine (bad_any s4 _ q4 _ sa4 (by omega) (by omega) R4.out).mono ?_
  rintro e w5 ⟨s5, sb5, rfl, hg5, q5, qa5, qb5, hr5⟩
  have R5 := Lib.hid hr5
  have G5 := Lib.hid (grown_trans G4.out hg5)
  clear hr5 hg5
  go_wp2_with fail
  refine (pick_any _ q5 30 _ (by omega) (by omega) R5.out).mono ?_
  rintro e w6 ⟨v6, ⟨va6, vb6, _⟩, rfl, hg6, q6, qa6, qb6, hr6⟩
  have R6 := Lib.hid hr6
  have G6 := Lib.hid (grown_trans G5.out hg6)
  clear hr6 hg6
  have vc6 := vb6 (by omega)
  clear vb6
  have BB := Lib.hid (below_src G6.out hge)
  by_cases hv : v6 = 0
  · subst hv
    go_wp2_with fail
    refine (many_any ⟨#[43, 120]⟩ 60 60 (by decide) (by decide) (by decide) _).mono ?_
    rintro e w9 ⟨T, hT, rfl, rfl⟩
    have hT2 : T.size = 120 := hT
    clear hT
    have hT3 : T.size + 1 ≤ 9223372036854775807 := by omega
    go_wp2_with fail
    have hT4 : (T ++ ⟨#[120]⟩).size ≤ 257 := by rw [ByteArray.size_append]; show T.size + 1 ≤ _; omega
    exact bodyPost_ret (v := .tuple #[.string s2, .string s3, .string (T ++ ⟨#[120]⟩)]) (by simp [results, Tryd.results49, go_sem]) rfl
      ⟨s2, s3, _, by omega, HW3.out, hT4, rfl, BB.out⟩
  · have hv' : (v6 == 0) = false := by simp; exact hv
    clear hv
    go_wp2_with fail
    exact bodyPost_ret (v := .tuple #[.string s2, .string s3, .string s5]) (by simp [results, Tryd.results49, go_sem]) rfl
      ⟨s2, s3, s5, by omega, HW3.out, by omega, rfl, BB.out⟩

end Go.Proofs.YtccjmahhebiphaaDoor
