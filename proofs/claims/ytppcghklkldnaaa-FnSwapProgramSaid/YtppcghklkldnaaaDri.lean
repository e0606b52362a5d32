/- Drawn programs, sometimes spoilt; the drawn arguments of the laws on programs. -/
import Derived.Test.YtppcghklkldnaaaDrp
import Derived.Test.YtppcghklkldnaaaDrd
import Derived.Test.YtppcghklkldnaaaDrg
import Derived.Deep.RegionHeld3
namespace Go.Proofs.Ytppcghklkldnaaa
open Go.RowKit
open Pl

set_option maxHeartbeats 4000000 in
theorem badP_any (S : ByteArray) (g p : Nat) (w : World) (h1 : 1 ≤ S.size) (h2 : S.size ≤ 100000) (hp : p ≤ 999999000) (hR : Rnd w g p) :
    Calls Try.prog 113 #[.pointer (some ⟨g, 0, none⟩), .string S] w (TxtPost w g p (S.size + 1) 3) := by
  have HR := Lib.hid hR
  clear hR
  go_enter Try.func113, Try.ntmps113
  go_wp2_with fail
  refine (pick_any g p 40 w (by omega) (by omega) HR.out).mono ?_
  rintro e w0 ⟨v0, ⟨va0, vb0, _⟩, rfl, hg0, q0, qa0, qb0, hr0⟩
  have vc0 := vb0 (by omega)
  have R0 := Lib.hid hr0
  have G0 := Lib.hid hg0
  clear vb0 hr0 hg0
  by_cases h0 : v0 = 0
  · subst h0
    go_wp2_with fail
    refine (of_any g q0 w0.heap.size [⟨#[115]⟩, ⟨#[120]⟩, ⟨#[32]⟩] (w0.alloc _) (by omega) (R0.out.alloc _) (by decide) (by decide) (by have := R0.out.lt; omega) (Blk.new w0 _ _)).mono ?_
    rintro e w1 ⟨s1, hs1, rfl, hg1, q1, qa1, qb1, hr1⟩
    have R1 := Lib.hid hr1
    have G1 := Lib.hid (grown_alloc hg1)
    have hz1 : 1 ≤ s1.size ∧ s1.size ≤ 1 := by
      simp only [List.mem_cons, List.not_mem_nil, or_false] at hs1
      rcases hs1 with rfl | rfl | rfl <;> decide
    obtain ⟨hz1a, hz1b⟩ := hz1
    clear hr1 hg1 hs1
    have t1 : S.size + s1.size ≤ 9223372036854775807 := by omega
    go_wp2_with fail
    go_ret
    exact txtPost_mk rfl (by rw [size_append]; omega) (grown_trans G0.out G1.out) R1.out (by omega) (by omega)
  have e0 : (v0 == 0) = false := by simp; exact h0
  by_cases h1' : v0 = 1
  · subst h1'
    clear h0 e0
    go_wp2_with fail
    go_ret
    exact txtPost_mk rfl (by rw [size_extract _ _ _ (by omega)]; omega) G0.out R0.out (by omega) (by omega)
  have e1 : (v0 == 1) = false := by simp; exact h1'
  by_cases h2' : v0 = 2
  · subst h2'
    clear h0 e0 h1' e1
    go_wp2_with fail
    refine (pick_any g q0 (S.size : Int) w0 (by omega) (by omega) R0.out).mono ?_
    rintro e w1 ⟨v1, ⟨va1, vb1, _⟩, rfl, hg1, q1, qa1, qb1, hr1⟩
    have vc1 := vb1 (by omega)
    have R1 := Lib.hid hr1
    have G1 := Lib.hid hg1
    clear vb1 hr1 hg1
    obtain ⟨j, rfl⟩ := Int.eq_ofNat_of_zero_le va1
    have hlr := R1.out.lt
    have OF := Lib.hid (of_any g q1 w1.heap.size [⟨#[88]⟩, ⟨#[119]⟩, ⟨#[59]⟩, ⟨#[64]⟩] (w1.alloc (.cells #[.string ⟨#[88]⟩, .string ⟨#[119]⟩, .string ⟨#[59]⟩, .string ⟨#[64]⟩] 9)).drew (by omega) ((R1.out.alloc _).drewN 1) (by decide) (by decide) (by omega) ((Blk.new w1 _ _).drewN 1))
    have x1 : IntKind.i64.wrap ((j : Int) + 1) = (j : Int) + 1 := IntWalk.i64_in _ (by omega)
    have x2 : ((j : Int) + 1).toNat = j + 1 := by omega
    have x0 : (0 : Int) ≤ (j : Int) := by omega
    have x4 : (j : Int) ≤ (S.size : Int) := by omega
    have x5 : (0 : Int) ≤ (j : Int) + 1 := by omega
    have x3 : ((j : Int) + 1) ≤ (S.size : Int) := by omega
    have eA := size_extract S 0 j (by omega)
    have eB := size_extract S (j + 1) S.size (Nat.le_refl _)
    obtain ⟨A0, hA0⟩ : ∃ A, S.extract 0 j = A := ⟨_, rfl⟩
    obtain ⟨B0, hB0⟩ : ∃ A, S.extract (j + 1) S.size = A := ⟨_, rfl⟩
    rw [hA0] at eA
    rw [hB0] at eB
    have eA' : A0.size ≤ j := by omega
    have eB' : B0.size + j + 1 ≤ S.size := by omega
    clear eA eB
    have hB : ∀ s2 : ByteArray, s2 ∈ ([⟨#[88]⟩, ⟨#[119]⟩, ⟨#[59]⟩, ⟨#[64]⟩] : List ByteArray) → s2.size ≤ 1 ∧ ¬ (9223372036854775807 < A0.size + s2.size) ∧ ¬ (9223372036854775807 < A0.size + s2.size + B0.size) ∧ (A0 ++ s2 ++ B0).size ≤ S.size + 1 := by
      intro s2 h
      have e : s2.size = 1 := by
        simp only [List.mem_cons, List.not_mem_nil, or_false] at h
        rcases h with rfl | rfl | rfl | rfl <;> decide
      refine ⟨by omega, by omega, by omega, by rw [size_append, size_append]; omega⟩
    have HB := Lib.hid hB
    clear hB
    go_wp2_with fail
    go_region_held3 (fun _ => True) (trivial) ((go_at_call 96; refine OF.out.mono ?_; rintro e w2 ⟨s2, hs2, rfl, hg2, q2, qa2, qb2, hr2⟩; obtain ⟨y0, y1, y2, y3⟩ := HB.out s2 hs2; have R2 := Lib.hid hr2; have G2 := Lib.hid (grown_alloc (grown_trans (grownBy_drewN _ 1 (some g)) hg2)); clear hr2 hg2 hs2))
    all_goals go_wp2_with fail
    all_goals go_ret
    all_goals exact txtPost_mk rfl y3 (grown_trans (grown_trans G0.out G1.out) G2.out) R2.out (by omega) (by omega)
  have e2 : (v0 == 2) = false := by simp; exact h2'
  clear h0 h1' h2'
  go_wp2_with fail
  go_ret
  exact txtPost_mk rfl (by omega) G0.out R0.out (by omega) (by omega)


set_option maxHeartbeats 4000000 in
theorem someP_any (g p : Nat) (w : World) (hp : p ≤ 800000000) (hR : Rnd w g p) :
    Calls Try.prog 114 #[.pointer (some ⟨g, 0, none⟩)] w (StrPost w g p 30000 30000) := by
  have HR := Lib.hid hR
  clear hR
  go_enter Try.func114, Try.ntmps114
  go_wp2_with fail
  refine (pick_any g p 3 w (by omega) (by omega) HR.out).mono ?_
  rintro e w0 ⟨v0, ⟨va0, vb0, _⟩, rfl, hg0, q0, qa0, qb0, hr0⟩
  have vc0 := vb0 (by omega)
  have R0 := Lib.hid hr0
  have G0 := Lib.hid hg0
  clear vb0 hr0 hg0
  go_wp2_with fail
  refine (pick_any g q0 2 w0 (by omega) (by omega) R0.out).mono ?_
  rintro e w1 ⟨v1, ⟨va1, vb1, _⟩, rfl, hg1, q1, qa1, qb1, hr1⟩
  have vc1 := vb1 (by omega)
  have R1 := Lib.hid hr1
  have G1 := Lib.hid (grown_trans G0.out hg1)
  clear vb1 hr1 hg1
  obtain ⟨d, hd, hdl⟩ : ∃ d : Nat, 1 + v0 = d ∧ d ≤ 3 := ⟨(1 + v0).toNat, by omega, by omega⟩
  have hcd : cstP d ≤ 25600 := by
    rcases (show d = 0 ∨ d = 1 ∨ d = 2 ∨ d = 3 by omega) with rfl | rfl | rfl | rfl <;> decide
  have HD := Lib.hid hd
  clear hd
  go_wp2_with fail
  refine (progDraw_any ⟨#[120, 121, 122]⟩ (by decide) (by decide) _ g d q1 _ w1 HD.out (by omega) (by omega) (by omega) R1.out).mono ?_
  rintro e w2 ⟨s2, sa2, sb2, rfl, hg2, q2, qa2, qb2, hr2⟩
  have R2 := Lib.hid hr2
  have G2 := Lib.hid (grown_trans G1.out hg2)
  clear hr2 hg2
  go_wp2_with fail
  go_ret
  exact strPost_mk rfl (by omega) (by omega) G2.out R2.out (by omega) (by omega)
set_option maxHeartbeats 2000000 in
theorem openP_any (g p : Nat) (w : World) (hp : p ≤ 700000000) (hR : Rnd w g p) :
    Calls Try.prog 63 #[.pointer (some ⟨g, 0, none⟩)] w (TxtPost w g p 30001 30003) := by
  have HR := Lib.hid hR
  clear hR
  go_enter Try.func63, Try.ntmps63
  go_wp2_with fail
  refine (someP_any g p w (by omega) HR.out).mono ?_
  rintro e w1 ⟨s1, sa1, sb1, rfl, hg1, q1, qa1, qb1, hr1⟩
  have R1 := Lib.hid hr1
  have G1 := Lib.hid hg1
  clear hr1 hg1
  go_wp2_with fail
  refine (badP_any s1 g q1 w1 sa1 (by omega) (by omega) R1.out).mono ?_
  rintro e w2 ⟨s2, sb2, rfl, hg2, q2, qa2, qb2, hr2⟩
  have R2 := Lib.hid hr2
  have G2 := Lib.hid (grown_trans G1.out hg2)
  clear hr2 hg2
  go_wp2_with fail
  go_ret
  exact txtPost_mk rfl (by omega) G2.out R2.out (by omega) (by omega)
set_option maxHeartbeats 2000000 in
theorem DrawPartsOf_any (A : Option Addr) (n cap : Nat) (w : World) (hn : n ≤ 4000000000000) (hc : n ≤ cap) (h : Bytes w A n w.heap.size) :
    Calls Try.prog 16 #[.slice A n cap] w fun e w' => ∃ s : ByteArray, s.size ≤ 30001 ∧ e = .returned (.string s) ∧ Below w.heap.size w w' := by
  have O := Lib.hid (open_ex A n cap w hn hc h)
  clear h
  go_enter Try.func16, Try.ntmps16
  go_wp2_with fail
  refine O.out.mono ?_
  rintro e w0 ⟨g, hg0, rfl, hr0, hb0⟩
  have R0 := Lib.hid hr0
  have G0 : Hid (w.grownBy w0 (some g)) := Lib.hid (grown_of_below hb0 _)
  clear hr0 hb0 O
  go_wp2_with fail
  refine (openP_any g 0 w0 (by omega) R0.out).mono ?_
  rintro e w1 ⟨s1, sb1, rfl, hg1, q1, qa1, qb1, hr1⟩
  have R1 := Lib.hid hr1
  have G1 := Lib.hid (grown_trans G0.out hg1)
  clear hr1 hg1
  go_wp2_with fail
  go_ret
  exact ⟨s1, sb1, rfl, below_src G1.out hg0⟩
set_option maxHeartbeats 2000000 in
theorem DrawIsPlain_any (A : Option Addr) (n cap : Nat) (w : World) (hn : n ≤ 4000000000000) (hc : n ≤ cap) (h : Bytes w A n w.heap.size) :
    Calls Try.prog 23 #[.slice A n cap] w fun e w' => ∃ s : ByteArray, s.size ≤ 30001 ∧ e = .returned (.string s) ∧ Below w.heap.size w w' := by
  have O := Lib.hid (open_ex A n cap w hn hc h)
  clear h
  go_enter Try.func23, Try.ntmps23
  go_wp2_with fail
  refine O.out.mono ?_
  rintro e w0 ⟨g, hg0, rfl, hr0, hb0⟩
  have R0 := Lib.hid hr0
  have G0 : Hid (w.grownBy w0 (some g)) := Lib.hid (grown_of_below hb0 _)
  clear hr0 hb0 O
  go_wp2_with fail
  refine (openP_any g 0 w0 (by omega) R0.out).mono ?_
  rintro e w1 ⟨s1, sb1, rfl, hg1, q1, qa1, qb1, hr1⟩
  have R1 := Lib.hid hr1
  have G1 := Lib.hid (grown_trans G0.out hg1)
  clear hr1 hg1
  go_wp2_with fail
  go_ret
  exact ⟨s1, sb1, rfl, below_src G1.out hg0⟩
set_option maxHeartbeats 2000000 in
theorem DrawShowProgram_any (A : Option Addr) (n cap : Nat) (w : World) (hn : n ≤ 4000000000000) (hc : n ≤ cap) (h : Bytes w A n w.heap.size) :
    Calls Try.prog 31 #[.slice A n cap] w fun e w' => ∃ s : ByteArray, s.size ≤ 30001 ∧ e = .returned (.string s) ∧ Below w.heap.size w w' := by
  have O := Lib.hid (open_ex A n cap w hn hc h)
  clear h
  go_enter Try.func31, Try.ntmps31
  go_wp2_with fail
  refine O.out.mono ?_
  rintro e w0 ⟨g, hg0, rfl, hr0, hb0⟩
  have R0 := Lib.hid hr0
  have G0 : Hid (w.grownBy w0 (some g)) := Lib.hid (grown_of_below hb0 _)
  clear hr0 hb0 O
  go_wp2_with fail
  refine (openP_any g 0 w0 (by omega) R0.out).mono ?_
  rintro e w1 ⟨s1, sb1, rfl, hg1, q1, qa1, qb1, hr1⟩
  have R1 := Lib.hid hr1
  have G1 := Lib.hid (grown_trans G0.out hg1)
  clear hr1 hg1
  go_wp2_with fail
  go_ret
  exact ⟨s1, sb1, rfl, below_src G1.out hg0⟩
set_option maxHeartbeats 2000000 in
theorem DrawSizeOf_any (A : Option Addr) (n cap : Nat) (w : World) (hn : n ≤ 4000000000000) (hc : n ≤ cap) (h : Bytes w A n w.heap.size) :
    Calls Try.prog 33 #[.slice A n cap] w fun e w' => ∃ s : ByteArray, s.size ≤ 30001 ∧ e = .returned (.string s) ∧ Below w.heap.size w w' := by
  have O := Lib.hid (open_ex A n cap w hn hc h)
  clear h
  go_enter Try.func33, Try.ntmps33
  go_wp2_with fail
  refine O.out.mono ?_
  rintro e w0 ⟨g, hg0, rfl, hr0, hb0⟩
  have R0 := Lib.hid hr0
  have G0 : Hid (w.grownBy w0 (some g)) := Lib.hid (grown_of_below hb0 _)
  clear hr0 hb0 O
  go_wp2_with fail
  refine (openP_any g 0 w0 (by omega) R0.out).mono ?_
  rintro e w1 ⟨s1, sb1, rfl, hg1, q1, qa1, qb1, hr1⟩
  have R1 := Lib.hid hr1
  have G1 := Lib.hid (grown_trans G0.out hg1)
  clear hr1 hg1
  go_wp2_with fail
  go_ret
  exact ⟨s1, sb1, rfl, below_src G1.out hg0⟩
set_option maxHeartbeats 2000000 in
theorem DrawReadsOf_any (A : Option Addr) (n cap : Nat) (w : World) (hn : n ≤ 4000000000000) (hc : n ≤ cap) (h : Bytes w A n w.heap.size) :
    Calls Try.prog 39 #[.slice A n cap] w fun e w' => ∃ s : ByteArray, s.size ≤ 30001 ∧ e = .returned (.string s) ∧ Below w.heap.size w w' := by
  have O := Lib.hid (open_ex A n cap w hn hc h)
  clear h
  go_enter Try.func39, Try.ntmps39
  go_wp2_with fail
  refine O.out.mono ?_
  rintro e w0 ⟨g, hg0, rfl, hr0, hb0⟩
  have R0 := Lib.hid hr0
  have G0 : Hid (w.grownBy w0 (some g)) := Lib.hid (grown_of_below hb0 _)
  clear hr0 hb0 O
  go_wp2_with fail
  refine (openP_any g 0 w0 (by omega) R0.out).mono ?_
  rintro e w1 ⟨s1, sb1, rfl, hg1, q1, qa1, qb1, hr1⟩
  have R1 := Lib.hid hr1
  have G1 := Lib.hid (grown_trans G0.out hg1)
  clear hr1 hg1
  go_wp2_with fail
  go_ret
  exact ⟨s1, sb1, rfl, below_src G1.out hg0⟩
set_option maxHeartbeats 2000000 in
theorem DrawSwapProgram_any (A : Option Addr) (n cap : Nat) (w : World) (hn : n ≤ 4000000000000) (hc : n ≤ cap) (h : Bytes w A n w.heap.size) :
    Calls Try.prog 45 #[.slice A n cap] w fun e w' => ∃ s v u : ByteArray, s.size ≤ 30001 ∧ v ∈ whichs ∧ u ∈ whichs ∧ e = .returned (.tuple #[.string s, .string v, .string u]) ∧ Below w.heap.size w w' := by
  have O := Lib.hid (open_ex A n cap w hn hc h)
  clear h
  go_enter Try.func45, Try.ntmps45
  go_wp2_with fail
  refine O.out.mono ?_
  rintro e w0 ⟨g, hg0, rfl, hr0, hb0⟩
  have R0 := Lib.hid hr0
  have G0 : Hid (w.grownBy w0 (some g)) := Lib.hid (grown_of_below hb0 _)
  clear hr0 hb0 O
  go_wp2_with fail
  refine (openP_any g 0 w0 (by omega) R0.out).mono ?_
  rintro e w1 ⟨s1, sb1, rfl, hg1, q1, qa1, qb1, hr1⟩
  have R1 := Lib.hid hr1
  have G1 := Lib.hid (grown_trans G0.out hg1)
  clear hr1 hg1
  go_wp2_with fail
  refine (which_any g q1 w1 (by omega) R1.out).mono ?_
  rintro e w2 ⟨s2, hs2, rfl, hg2, q2, qa2, qb2, hr2⟩
  have R2 := Lib.hid hr2
  have G2 := Lib.hid (grown_trans G1.out hg2)
  clear hr2 hg2
  have S2 := Lib.hid hs2
  clear hs2
  go_wp2_with fail
  refine (which_any g q2 w2 (by omega) R2.out).mono ?_
  rintro e w3 ⟨s3, hs3, rfl, hg3, q3, qa3, qb3, hr3⟩
  have R3 := Lib.hid hr3
  have G3 := Lib.hid (grown_trans G2.out hg3)
  clear hr3 hg3
  have S3 := Lib.hid hs3
  clear hs3
  go_wp2_with fail
  exact bodyPost_ret (v := .tuple #[.string s1, .string s2, .string s3]) (by simp [results, Try.results45, go_sem]) rfl
    ⟨s1, s2, s3, sb1, S2.out, S3.out, rfl, below_src G3.out hg0⟩

end Go.Proofs.Ytppcghklkldnaaa
