/- The walk of the law FnExactLineValid. -/
import Derived.Test.YthdgheglmkhcbaaLr
import Derived.Deep.RegionHeld3
namespace Go.Proofs.Ythdgheglmkhcbaa.fnExactLineValid
open Go.RowKit
open Pl
set_option linter.unusedVariables false
theorem cells12 {w W : World} {p : Nat} {R A P Q B : ByteArray} {s t2 : Option Addr} {n c : Nat} (H : Sit w W [(⟨p, 0, none⟩, .string R), (⟨p, 1, none⟩, .string A), (⟨p, 2, none⟩, .string P), (⟨p, 3, none⟩, .string Q), (⟨p, 4, none⟩, .string B), (⟨p, 5, none⟩, .slice t2 n n), (⟨w.heap.size, 0, none⟩, .string R), (⟨w.heap.size, 1, none⟩, .string A), (⟨w.heap.size, 2, none⟩, .string P), (⟨w.heap.size, 3, none⟩, .string Q), (⟨w.heap.size, 4, none⟩, .string B), (⟨w.heap.size, 5, none⟩, .slice s n c)]) : W.cell? ⟨p, 0, none⟩ = some (.string R) ∧ W.cell? ⟨p, 1, none⟩ = some (.string A) ∧ W.cell? ⟨p, 2, none⟩ = some (.string P) ∧ W.cell? ⟨p, 3, none⟩ = some (.string Q) ∧ W.cell? ⟨p, 4, none⟩ = some (.string B) ∧ W.cell? ⟨p, 5, none⟩ = some (.slice t2 n n) ∧ W.cell? ⟨w.heap.size, 0, none⟩ = some (.string R) ∧ W.cell? ⟨w.heap.size, 1, none⟩ = some (.string A) ∧ W.cell? ⟨w.heap.size, 2, none⟩ = some (.string P) ∧ W.cell? ⟨w.heap.size, 3, none⟩ = some (.string Q) ∧ W.cell? ⟨w.heap.size, 4, none⟩ = some (.string B) ∧ W.cell? ⟨w.heap.size, 5, none⟩ = some (.slice s n c) :=
  ⟨H.get (by simp), H.get (by simp), H.get (by simp), H.get (by simp), H.get (by simp), H.get (by simp), H.get (by simp), H.get (by simp), H.get (by simp), H.get (by simp), H.get (by simp), H.get (by simp)⟩
set_option maxRecDepth 100000 in
set_option maxHeartbeats 16000000 in
theorem walk (R A P Q B : ByteArray) (s : Option Addr) (n c : Nat) (z : Nat → Int) (w : World) (hs : R.size ≤ 9223372036854775807 ∧ A.size ≤ 9223372036854775807 ∧ P.size ≤ 9223372036854775807 ∧ Q.size ≤ 9223372036854775807 ∧ B.size ≤ 9223372036854775807) (hc : n ≤ c) (hc2 : c ≤ 9223372036854775807) (hI : IR w s n z) :
    Calls Try.prog 14 #[.agg #[.string R, .string A, .string P, .string Q, .string B, .slice s n c]] w fun e w' => e = .returned (.bool true) ∧ Below w.heap.size w w' := by
  have SZ := Lib.hid (fun w => szLine_any R A P Q B s n c 1048576 hs (by omega) (Nat.le_refl _) w)
  have H := Lib.hid ((Sit.refl w).box6 (a := .string R) (b := .string A) (c := .string P) (d := .string Q) (e := .string B) (f := .slice s n c) 55)
  by_cases hsum : 1048576 < R.size + A.size + P.size + Q.size + B.size + n
  · rw [leftV_no hsum] at SZ
    clear hI
    obtain ⟨d0, d1, d2, d3, d4, d5⟩ := H.out.c6
    go_enter Try.func14, Try.ntmps14
    go_wp2_with fail
    refine (SZ.out _).mono ?_
    rintro e w1 ⟨rfl, hb⟩
    have B1 := Lib.hid (below_2 H.out.below hb)
    clear hb
    go_wp2_with fail
    go_ret
    exact ⟨rfl, B1.out⟩
  obtain ⟨m, hm⟩ : ∃ m, R.size + A.size + P.size + Q.size + B.size + n + m = 1048576 := ⟨1048576 - (R.size + A.size + P.size + Q.size + B.size + n), by omega⟩
  rw [leftV_yes hm] at SZ
  have hm0 : decide ((m : Int) < 0) = false := decide_eq_false (by omega)
  have hn : n ≤ 1048576 := by omega
  have TL := Lib.hid (fun w hI => toLine_any R A P Q B s n c z hn hc w hI)
  have LS := Lib.hid (fun t w => LineValidS_any R A P Q B t n n (by omega) (by omega) (by omega) (by omega) (by omega) w)
  have LI := Lib.hid (fun t w => LineValid_any R A P Q B t n n (by omega) (by omega) (by omega) (by omega) (by omega) w)
  have EL := Lib.hid (fun t u w hI hJ => eqLine_any R A P Q B t u n n n z hn (Nat.le_refl _) (Nat.le_refl _) w hI hJ)
  generalize lnV R A P Q B n = v at *
  have q0 : (v != v) = false := by simp
  have HI := Lib.hid (hI.call H.out.below)
  clear hI hsum hm hs
  obtain ⟨d0, d1, d2, d3, d4, d5⟩ := H.out.c6
  go_enter Try.func14, Try.ntmps14
  go_wp2_with fail
  refine (SZ.out _).mono ?_
  rintro e w1 ⟨rfl, hb⟩
  have H1 := Lib.hid (H.out.call hb)
  have I1 := Lib.hid (HI.out.call hb)
  clear hb SZ d0 d1 d2 d3 d4 d5 HI H
  obtain ⟨d0, d1, d2, d3, d4, d5⟩ := H1.out.c6
  go_wp2_with fail
  refine (TL.out _ I1.out).mono ?_
  rintro e w2 ⟨t1, rfl, _, hb⟩
  have H2 := Lib.hid (H1.out.call hb)
  have I2 := Lib.hid (I1.out.call hb)
  clear hb d0 d1 d2 d3 d4 d5 H1 I1
  go_wp2_with fail
  refine (LS.out t1 _).mono ?_
  rintro e w3 ⟨rfl, hb⟩
  have H3 := Lib.hid (H2.out.call hb)
  have I3 := Lib.hid (I2.out.call hb)
  clear hb H2 I2 LS
  obtain ⟨d0, d1, d2, d3, d4, d5⟩ := H3.out.c6
  go_wp2_with fail
  refine (TL.out _ I3.out).mono ?_
  rintro e w4 ⟨t2, rfl, hj, hb⟩
  have H4 := Lib.hid (H3.out.call hb)
  have I4 := Lib.hid (I3.out.call hb)
  have J4 := Lib.hid hj
  clear hb hj d0 d1 d2 d3 d4 d5 H3 I3
  obtain ⟨p, hpb⟩ : ∃ p, w4.heap.size = p := ⟨_, rfl⟩
  have h5 := H4.out.box6 (a := .string R) (b := .string A) (c := .string P) (d := .string Q) (e := .string B) (f := .slice t2 n n) 58
  have I5 := Lib.hid (I4.out.call (below_n w4 (.cells #[.string R, .string A, .string P, .string Q, .string B, .slice t2 n n] 58)))
  have J5 := Lib.hid (J4.out.call (below_n w4 (.cells #[.string R, .string A, .string P, .string Q, .string B, .slice t2 n n] 58)))
  rw [hpb] at h5
  have H5 := Lib.hid h5
  clear h5 H4 I4 J4
  have c0 := H5.out.get (p := ⟨p, 0, none⟩) (v := .string R) (by simp)
  have c1 := H5.out.get (p := ⟨p, 1, none⟩) (v := .string A) (by simp)
  have c2 := H5.out.get (p := ⟨p, 2, none⟩) (v := .string P) (by simp)
  have c3 := H5.out.get (p := ⟨p, 3, none⟩) (v := .string Q) (by simp)
  have c4 := H5.out.get (p := ⟨p, 4, none⟩) (v := .string B) (by simp)
  have c5 := H5.out.get (p := ⟨p, 5, none⟩) (v := .slice t2 n n) (by simp)
  have c6 := H5.out.get (p := ⟨w.heap.size, 0, none⟩) (v := .string R) (by simp)
  have c7 := H5.out.get (p := ⟨w.heap.size, 1, none⟩) (v := .string A) (by simp)
  have c8 := H5.out.get (p := ⟨w.heap.size, 2, none⟩) (v := .string P) (by simp)
  have c9 := H5.out.get (p := ⟨w.heap.size, 3, none⟩) (v := .string Q) (by simp)
  have c10 := H5.out.get (p := ⟨w.heap.size, 4, none⟩) (v := .string B) (by simp)
  have c11 := H5.out.get (p := ⟨w.heap.size, 5, none⟩) (v := .slice s n c) (by simp)
  go_wp2_with fail
  refine (LI.out t2 _).mono ?_
  rintro e w5 ⟨rfl, hb⟩
  have H6 := Lib.hid (H5.out.call hb)
  have I6 := Lib.hid (I5.out.call hb)
  have J6 := Lib.hid (J5.out.call hb)
  clear hb H5 I5 J5 LI hpb c0 c1 c2 c3 c4 c5 c6 c7 c8 c9 c10 c11
  have H := H6.out.drew
  have I := I6.out.call (below_drew _ _)
  have J := J6.out.call (below_drew _ _)
  have c0 := H.get (p := ⟨p, 0, none⟩) (v := .string R) (by simp)
  have c1 := H.get (p := ⟨p, 1, none⟩) (v := .string A) (by simp)
  have c2 := H.get (p := ⟨p, 2, none⟩) (v := .string P) (by simp)
  have c3 := H.get (p := ⟨p, 3, none⟩) (v := .string Q) (by simp)
  have c4 := H.get (p := ⟨p, 4, none⟩) (v := .string B) (by simp)
  have c5 := H.get (p := ⟨p, 5, none⟩) (v := .slice t2 n n) (by simp)
  have c6 := H.get (p := ⟨w.heap.size, 0, none⟩) (v := .string R) (by simp)
  have c7 := H.get (p := ⟨w.heap.size, 1, none⟩) (v := .string A) (by simp)
  have c8 := H.get (p := ⟨w.heap.size, 2, none⟩) (v := .string P) (by simp)
  have c9 := H.get (p := ⟨w.heap.size, 3, none⟩) (v := .string Q) (by simp)
  have c10 := H.get (p := ⟨w.heap.size, 4, none⟩) (v := .string B) (by simp)
  have c11 := H.get (p := ⟨w.heap.size, 5, none⟩) (v := .slice s n c) (by simp)
  clear H6 I6 J6
  go_wp2_with fail
  go_region_held3 (fun W => W.cell? ⟨p, 0, none⟩ = some (.string R) ∧ W.cell? ⟨p, 1, none⟩ = some (.string A) ∧ W.cell? ⟨p, 2, none⟩ = some (.string P) ∧ W.cell? ⟨p, 3, none⟩ = some (.string Q) ∧ W.cell? ⟨p, 4, none⟩ = some (.string B) ∧ W.cell? ⟨p, 5, none⟩ = some (.slice t2 n n) ∧ W.cell? ⟨w.heap.size, 0, none⟩ = some (.string R) ∧ W.cell? ⟨w.heap.size, 1, none⟩ = some (.string A) ∧ W.cell? ⟨w.heap.size, 2, none⟩ = some (.string P) ∧ W.cell? ⟨w.heap.size, 3, none⟩ = some (.string Q) ∧ W.cell? ⟨w.heap.size, 4, none⟩ = some (.string B) ∧ W.cell? ⟨w.heap.size, 5, none⟩ = some (.slice s n c)) (with_reducible exact cells12 H) ((first | (go_at_call 69; refine (TL.out _ (by first | exact I | exact I.call (below_drew _ _))).mono ?_; rintro e wn ⟨t3, rfl, K, hb⟩; have H := H.call hb; have J := J.call hb; clear hb) | (go_at_call 71; refine (EL.out t2 t3 _ (by first | exact J | exact J.call (below_drew _ _)) (by first | exact K | exact K.call (below_drew _ _))).mono ?_; rintro e wm ⟨rfl, hb⟩; have H := H.call hb; clear hb)))
  all_goals go_wp2_with fail
  all_goals go_ret
  all_goals exact ⟨rfl, H.below⟩

end Go.Proofs.Ythdgheglmkhcbaa.fnExactLineValid
