/- Drawn arguments: a string of a bounded length, in a world in which nothing that was there has turned. -/
import Derived.Test.YtcdcgllodggebaaDrc
import Derived.Test.YtcdcgllodggebaaDrd
namespace Go.Proofs.Ytcdcgllodggebaa
open Go.RowKit
open Pl

def TxtAny (w : World) (n : Nat) (e : Ending) (w' : World) : Prop := ∃ S : ByteArray, S.size ≤ n ∧ e = .returned (.string S) ∧ Below w.heap.size w w'
/-- what begins with a new source and draws from it turns nothing that was there -/
theorem below_drawn {w w1 w2 : World} (hb : Below w.heap.size w w1) (hg : w1.grownBy w2 (some w.heap.size)) : Below w.heap.size w w2 :=
  hb.trans (below_of_grown hg w.heap.size hb.size (fun g e => by injection e with e; omega))

set_option maxHeartbeats 1000000 in
theorem DrawExprValid_any (A : Option Addr) (n cap : Nat) (w : World) (hn : n ≤ 4000000000000) (hc : n ≤ cap) (h : Bytes w A n w.heap.size) :
    Calls Try.prog 13 #[.slice A n cap] w (TxtAny w 257) := by
  have O := Lib.hid (open_any A n cap w hn hc h)
  clear h
  go_enter Try.func13, Try.ntmps13
  go_wp2_with fail
  refine O.out.mono ?_
  rintro e w1 ⟨rfl, hr1, hb1⟩
  have R1 := Lib.hid hr1
  have B1 := Lib.hid hb1
  clear hr1 hb1
  go_wp2_with fail
  refine (draw_any ⟨#[120, 121, 122]⟩ (by decide) (by decide) w.heap.size 3 0 3 w1 rfl (by decide) (by omega) R1.out).mono ?_
  rintro e w2 ⟨s2, sa2, sb2, rfl, hg2, q2, qa2, qb2, hr2⟩
  have R2 := Lib.hid hr2
  have G2 := Lib.hid hg2
  clear hr2 hg2
  simp only [cst] at sb2 qb2
  go_wp2_with fail
  refine (bad_any s2 w.heap.size q2 w2 sa2 (by omega) (by omega) R2.out).mono ?_
  rintro e w3 ⟨s3, sb3, rfl, hg3, q3, qa3, qb3, hr3⟩
  have G3 := Lib.hid hg3
  clear hr3 hg3
  go_wp2_with fail
  go_ret
  exact ⟨s3, by omega, rfl, below_drawn B1.out (grown_trans G2.out G3.out)⟩
set_option maxHeartbeats 1000000 in
theorem DrawTestValid_any (A : Option Addr) (n cap : Nat) (w : World) (hn : n ≤ 4000000000000) (hc : n ≤ cap) (h : Bytes w A n w.heap.size) :
    Calls Try.prog 17 #[.slice A n cap] w (TxtAny w 1025) := by
  have O := Lib.hid (open_any A n cap w hn hc h)
  clear h
  go_enter Try.func17, Try.ntmps17
  go_wp2_with fail
  refine O.out.mono ?_
  rintro e w1 ⟨rfl, hr1, hb1⟩
  have R1 := Lib.hid hr1
  have B1 := Lib.hid hb1
  clear hr1 hb1
  go_wp2_with fail
  refine (drawTest_any ⟨#[120, 121, 122]⟩ (by decide) (by decide) w.heap.size 2 0 2 w1 rfl (by decide) (by omega) R1.out).mono ?_
  rintro e w2 ⟨s2, sa2, sb2, rfl, hg2, q2, qa2, qb2, hr2⟩
  have R2 := Lib.hid hr2
  have G2 := Lib.hid hg2
  clear hr2 hg2
  simp only [cstT] at sb2 qb2
  go_wp2_with fail
  refine (bad_any s2 w.heap.size q2 w2 sa2 (by omega) (by omega) R2.out).mono ?_
  rintro e w3 ⟨s3, sb3, rfl, hg3, q3, qa3, qb3, hr3⟩
  have G3 := Lib.hid hg3
  clear hr3 hg3
  go_wp2_with fail
  go_ret
  exact ⟨s3, by omega, rfl, below_drawn B1.out (grown_trans G2.out G3.out)⟩
set_option maxHeartbeats 1000000 in
theorem DrawShowExpr_any (A : Option Addr) (n cap : Nat) (w : World) (hn : n ≤ 4000000000000) (hc : n ≤ cap) (h : Bytes w A n w.heap.size) :
    Calls Try.prog 21 #[.slice A n cap] w (TxtAny w 257) := by
  have O := Lib.hid (DrawExprValid_any A n cap w hn hc h)
  clear h
  go_enter Try.func21, Try.ntmps21
  go_wp2_with fail
  refine O.out.mono ?_
  rintro e w1 ⟨s1, sb1, rfl, hb1⟩
  have B1 := Lib.hid hb1
  clear hb1
  go_wp2_with fail
  go_ret
  exact ⟨s1, sb1, rfl, B1.out⟩
set_option maxHeartbeats 1000000 in
theorem DrawShowTest_any (A : Option Addr) (n cap : Nat) (w : World) (hn : n ≤ 4000000000000) (hc : n ≤ cap) (h : Bytes w A n w.heap.size) :
    Calls Try.prog 23 #[.slice A n cap] w (TxtAny w 1025) := by
  have O := Lib.hid (DrawTestValid_any A n cap w hn hc h)
  clear h
  go_enter Try.func23, Try.ntmps23
  go_wp2_with fail
  refine O.out.mono ?_
  rintro e w1 ⟨s1, sb1, rfl, hb1⟩
  have B1 := Lib.hid hb1
  clear hb1
  go_wp2_with fail
  go_ret
  exact ⟨s1, sb1, rfl, B1.out⟩

end Go.Proofs.Ytcdcgllodggebaa
