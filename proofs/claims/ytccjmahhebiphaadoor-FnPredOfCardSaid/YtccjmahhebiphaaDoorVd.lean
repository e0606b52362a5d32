/- The drawn arguments of the laws on sets and variables. -/
import Derived.Test.YtccjmahhebiphaaDoorGx
import Derived.Test.YtccjmahhebiphaaDoorGf
namespace Go.Proofs.YtccjmahhebiphaaDoor
open Go.RowKit
open Pl

theorem which_small {s : ByteArray} (h : s ∈ whichs) : s.size ≤ 2 := by
  have : ∀ s ∈ whichs, s.size ≤ 2 := by decide
  exact this s h
set_option maxHeartbeats 4000000 in
theorem DrawPredVars_any (A : Option Addr) (n cap : Nat) (w : World) (hn : n ≤ 4000000000000) (hc : n ≤ cap) (h : Bytes w A n w.heap.size) :
    Calls Tryd.prog 11 #[.slice A n cap] w fun e w' => (∃ P : ByteArray, P.size ≤ 28 ∧ e = .returned (.string P) ∧ Below w.heap.size w w') := by
  have O := Lib.hid (open_ex A n cap w hn hc h)
  clear h
  go_enter Tryd.func11, Tryd.ntmps11
  go_wp2_with fail
  refine O.out.mono ?_
  rintro e w0 ⟨g, hg0, rfl, hr0, hb0⟩
  have R0 := Lib.hid hr0
  have G0 : Hid (w.grownBy w0 (some g)) := Lib.hid (grown_of_below hb0 _)
  clear hr0 hb0 O
  go_wp2_with fail
  refine (l2Open_any g 0 w0 (by omega) R0.out).mono ?_
  rintro e w1 ⟨P, hP, rfl, hg1, q1, qa1, qb1, hr1⟩
  have R1 := Lib.hid hr1
  have G1 := Lib.hid (grown_trans G0.out hg1)
  clear hg1 hr1
  go_wp2_with fail
  go_ret
  exact ⟨P, hP, rfl, below_src G1.out hg0⟩
set_option maxHeartbeats 4000000 in
theorem DrawNotPred_any (A : Option Addr) (n cap : Nat) (w : World) (hn : n ≤ 4000000000000) (hc : n ≤ cap) (h : Bytes w A n w.heap.size) :
    Calls Tryd.prog 23 #[.slice A n cap] w fun e w' => (∃ P : ByteArray, P.size ≤ 28 ∧ e = .returned (.string P) ∧ Below w.heap.size w w') := by
  have O := Lib.hid (open_ex A n cap w hn hc h)
  clear h
  go_enter Tryd.func23, Tryd.ntmps23
  go_wp2_with fail
  refine O.out.mono ?_
  rintro e w0 ⟨g, hg0, rfl, hr0, hb0⟩
  have R0 := Lib.hid hr0
  have G0 : Hid (w.grownBy w0 (some g)) := Lib.hid (grown_of_below hb0 _)
  clear hr0 hb0 O
  go_wp2_with fail
  refine (l2Open_any g 0 w0 (by omega) R0.out).mono ?_
  rintro e w1 ⟨P, hP, rfl, hg1, q1, qa1, qb1, hr1⟩
  have R1 := Lib.hid hr1
  have G1 := Lib.hid (grown_trans G0.out hg1)
  clear hg1 hr1
  go_wp2_with fail
  go_ret
  exact ⟨P, hP, rfl, below_src G1.out hg0⟩
set_option maxHeartbeats 4000000 in
theorem DrawSomeVar_any (A : Option Addr) (n cap : Nat) (w : World) (hn : n ≤ 4000000000000) (hc : n ≤ cap) (h : Bytes w A n w.heap.size) :
    Calls Tryd.prog 18 #[.slice A n cap] w fun e w' => (∃ P V : ByteArray, P.size ≤ 28 ∧ V ∈ whichs ∧ e = .returned (.tuple #[.string P, .string V]) ∧ Below w.heap.size w w') := by
  have O := Lib.hid (open_ex A n cap w hn hc h)
  clear h
  go_enter Tryd.func18, Tryd.ntmps18
  go_wp2_with fail
  refine O.out.mono ?_
  rintro e w0 ⟨g, hg0, rfl, hr0, hb0⟩
  have R0 := Lib.hid hr0
  have G0 : Hid (w.grownBy w0 (some g)) := Lib.hid (grown_of_below hb0 _)
  clear hr0 hb0 O
  go_wp2_with fail
  refine (l2Open_any g 0 w0 (by omega) R0.out).mono ?_
  rintro e w1 ⟨P, hP, rfl, hg1, q1, qa1, qb1, hr1⟩
  have R1 := Lib.hid hr1
  have G1 := Lib.hid (grown_trans G0.out hg1)
  clear hg1 hr1
  go_wp2_with fail
  refine (which_any _ q1 _ (by omega) R1.out).mono ?_
  rintro e w2 ⟨V, hV, rfl, hg2, q2, qa2, qb2, hr2⟩
  have HV := Lib.hid hV
  have R2 := Lib.hid hr2
  have G2 := Lib.hid (grown_trans G1.out hg2)
  clear hg2 hr2 hV
  go_wp2_with fail
  go_ret2
  exact ⟨P, V, hP, HV.out, (by first | trivial | rfl), below_src G2.out hg0⟩
set_option maxHeartbeats 4000000 in
theorem DrawAssignPre_any (A : Option Addr) (n cap : Nat) (w : World) (hn : n ≤ 4000000000000) (hc : n ≤ cap) (h : Bytes w A n w.heap.size) :
    Calls Tryd.prog 28 #[.slice A n cap] w fun e w' => (∃ P V E : ByteArray, P.size ≤ 28 ∧ V ∈ whichs ∧ E.size ≤ 257 ∧ e = .returned (.tuple #[.string P, .string V, .string E]) ∧ Below w.heap.size w w') := by
  have O := Lib.hid (open_ex A n cap w hn hc h)
  clear h
  go_enter Tryd.func28, Tryd.ntmps28
  go_wp2_with fail
  refine O.out.mono ?_
  rintro e w0 ⟨g, hg0, rfl, hr0, hb0⟩
  have R0 := Lib.hid hr0
  have G0 : Hid (w.grownBy w0 (some g)) := Lib.hid (grown_of_below hb0 _)
  clear hr0 hb0 O
  go_wp2_with fail
  refine (l2Open_any g 0 w0 (by omega) R0.out).mono ?_
  rintro e w1 ⟨P, hP, rfl, hg1, q1, qa1, qb1, hr1⟩
  have R1 := Lib.hid hr1
  have G1 := Lib.hid (grown_trans G0.out hg1)
  clear hg1 hr1
  go_wp2_with fail
  refine (which_any _ q1 _ (by omega) R1.out).mono ?_
  rintro e w2 ⟨V, hV, rfl, hg2, q2, qa2, qb2, hr2⟩
  have HV := Lib.hid hV
  have R2 := Lib.hid hr2
  have G2 := Lib.hid (grown_trans G1.out hg2)
  clear hg2 hr2 hV
  go_wp2_with fail
  refine (draw_any ⟨#[120, 121, 122]⟩ (by decide) (by decide) _ 2 q2 2 _ rfl (by simp only [cst]; omega) (by omega) R2.out).mono ?_
  rintro e w3 ⟨s3, sa3, sb3, rfl, hg3, q3, qa3, qb3, hr3⟩
  have R3 := Lib.hid hr3
  have G3 := Lib.hid (grown_trans G2.out hg3)
  clear hr3 hg3
  simp only [cst] at sb3 qb3
  go_wp2_with fail
  refine (bad_any s3 _ q3 _ sa3 (by omega) (by omega) R3.out).mono ?_
  rintro e w4 ⟨s4, sb4, rfl, hg4, q4, qa4, qb4, hr4⟩
  have G4 := Lib.hid (grown_trans G3.out hg4)
  clear hr4 hg4
  go_wp2_with fail
  exact bodyPost_ret (v := .tuple #[.string P, .string V, .string s4]) (by simp [results, Tryd.results28, go_sem]) rfl ⟨P, V, s4, hP, HV.out, by omega, rfl, below_src G4.out hg0⟩
set_option maxHeartbeats 4000000 in
theorem DrawAssignPost_any (A : Option Addr) (n cap : Nat) (w : World) (hn : n ≤ 4000000000000) (hc : n ≤ cap) (h : Bytes w A n w.heap.size) :
    Calls Tryd.prog 35 #[.slice A n cap] w fun e w' => (∃ P V E : ByteArray, P.size ≤ 28 ∧ V ∈ whichs ∧ E.size ≤ 257 ∧ e = .returned (.tuple #[.string P, .string V, .string E]) ∧ Below w.heap.size w w') := by
  have O := Lib.hid (DrawAssignPre_any A n cap w hn hc h)
  clear h
  go_enter Tryd.func35, Tryd.ntmps35
  go_wp2_with fail
  refine O.out.mono ?_
  rintro e w1 ⟨P, V, E, hP, hV, hE, rfl, hb1⟩
  have B1 := Lib.hid hb1
  have HV := Lib.hid hV
  clear hb1 hV
  go_wp2_with fail
  exact bodyPost_ret (v := .tuple #[.string P, .string V, .string E]) (by simp [results, Tryd.results35, go_sem]) rfl ⟨P, V, E, hP, HV.out, hE, rfl, B1.out⟩
end Go.Proofs.YtccjmahhebiphaaDoor
