/- Rows of lines: the law's helper on sizes. -/
import Derived.Test.YtndlhdmpfnadcaaDoorLt
namespace Go.Proofs.YtndlhdmpfnadcaaDoor
open Go.RowKit
open Pl
set_option linter.unusedVariables false

/-- a line's size -/
def szD (x : LnD) : Nat := x.R.size + x.A.size + x.P.size + x.Q.size + x.B.size + x.n
def smD (x : LnD) : Prop := (x.R.size ≤ 9223372036854775807 ∧ x.A.size ≤ 9223372036854775807 ∧ x.P.size ≤ 9223372036854775807 ∧ x.Q.size ≤ 9223372036854775807 ∧ x.B.size ≤ 9223372036854775807) ∧ x.n ≤ 9223372036854775807
set_option maxRecDepth 100000 in
set_option maxHeartbeats 8000000 in
theorem szLineS_any (s : Option Addr) (n c l : Nat) (L : Nat → LnD) (hn : n ≤ 9223372036854775807) (hl : l ≤ 1048576) (hs : ∀ i, i < n → smD (L i)) (w : World) (hI : LR w s n L) :
    Calls Tryd.prog 5 #[.slice s n c, .int .i64 (l : Int)] w fun e w' => ∃ r : Int, e = .returned (.int .i64 r) ∧ Below w.heap.size w w' ∧ (r = -1 ∨ 0 ≤ r ∧ n ≤ l ∧ ∀ i, i < n → szD (L i) ≤ l) := by
  by_cases h : n ≤ l
  · obtain ⟨m, hm⟩ : ∃ m, n + m = l := ⟨l - n, by omega⟩
    have g1 : (l : Int) - (n : Int) = (m : Int) := by omega
    have g2 : wrap64 ((l : Int) - (n : Int)) = (m : Int) := by unfold wrap64; omega
    have g3 : decide ((m : Int) < 0) = false := decide_eq_false (by omega)
    have hml : m ≤ l := by omega
    have HI := Lib.hid hI
    have HS := Lib.hid hs
    have H0 := Lib.hid (Below.refl w.heap.size w)
    clear hI hs hm
    go_enter Tryd.func5, Tryd.ntmps5
    go_wp2_with fail
    go_loopg [1, 5] n (fun gk cv sv wr => ∃ a m : Nat, a + gk = n ∧ sv = .int .i64 a ∧ cv = .int .i64 m ∧ m ≤ l ∧ Hid (∀ i, i < a → szD (L i) ≤ l) ∧ Hid (Below w.heap.size w wr))
    case atStart => exact ⟨0, m, by omega, rfl, by first | rfl | rw [g1] | rw [g2], hml, Lib.hid (fun i hi => by omega), H0⟩
    case round =>
      clear H0 g1 g2 g3 hml
      obtain ⟨a, m, ha, rfl, rfl, hm, HZ, HB⟩ := hrel
      by_cases hla : a < n
      · have hxa : (a : Int) < (n : Int) := by omega
        rcases HI.out with h0 | ⟨b, off, rfl, hlt, hcell⟩
        · omega
        obtain ⟨x0, x1, x2, x3, x4, x5⟩ := (hcell a hla).1
        have d0 := (HB.out.cell (p := ⟨b, off + a * 6, none⟩) hlt).trans x0
        have d1 := (HB.out.cell (p := ⟨b, off + a * 6 + 1, none⟩) hlt).trans x1
        have d2 := (HB.out.cell (p := ⟨b, off + a * 6 + 2, none⟩) hlt).trans x2
        have d3 := (HB.out.cell (p := ⟨b, off + a * 6 + 3, none⟩) hlt).trans x3
        have d4 := (HB.out.cell (p := ⟨b, off + a * 6 + 4, none⟩) hlt).trans x4
        have d5 := (HB.out.cell (p := ⟨b, off + a * 6 + 5, none⟩) hlt).trans x5
        obtain ⟨hs5, hsn⟩ := HS.out a hla
        have SZ := Lib.hid (fun w => szLine_any (L a).R (L a).A (L a).P (L a).Q (L a).B (L a).s (L a).n (L a).c m hs5 hsn (by omega) w)
        clear x0 x1 x2 x3 x4 x5 HI HS hcell hlt hs5 hsn
        by_cases hsum : m < (L a).R.size + (L a).A.size + (L a).P.size + (L a).Q.size + (L a).B.size + (L a).n
        · rw [leftV_no hsum] at SZ
          clear hsum HZ
          go_wp2_with fail
          refine (SZ.out _).mono ?_
          rintro e w1 ⟨rfl, hb⟩
          have B1 := Lib.hid (below_2 HB.out hb)
          clear hb
          go_wp2_with fail
          go_ret
          exact ⟨_, rfl, B1.out, .inl rfl⟩
        · obtain ⟨m2, hm2⟩ : ∃ k, (L a).R.size + (L a).A.size + (L a).P.size + (L a).Q.size + (L a).B.size + (L a).n + k = m := ⟨m - ((L a).R.size + (L a).A.size + (L a).P.size + (L a).Q.size + (L a).B.size + (L a).n), by omega⟩
          rw [leftV_yes hm2] at SZ
          have g4 : decide ((m2 : Int) < 0) = false := decide_eq_false (by omega)
          have HZ2 : Hid (∀ i, i < a + 1 → szD (L i) ≤ l) := Lib.hid (fun i hi => by
            by_cases e : i = a
            · subst e; unfold szD; omega
            · exact HZ.out i (by omega))
          have hm2l : m2 ≤ l := by omega
          clear hsum HZ hm2
          go_wp2_with fail
          refine (SZ.out _).mono ?_
          rintro e w1 ⟨rfl, hb⟩
          have B1 := Lib.hid (below_2 HB.out hb)
          clear hb d0 d1 d2 d3 d4 d5 HB
          go_wp2_with fail
          go_roundg (gk - 1)
          case measure => omega
          case rel => exact ⟨a + 1, m2, by omega, by go_num, rfl, hm2l, HZ2, B1⟩
      · obtain rfl : a = n := by omega
        clear HI HS hla
        go_wp2_with fail
        go_ret
        exact ⟨_, rfl, HB.out, .inr ⟨by omega, h, HZ.out⟩⟩
  · have g0 : (l : Int) - (n : Int) < 0 := by omega
    have g1 : wrap64 ((l : Int) - (n : Int)) = (l : Int) - (n : Int) := by unfold wrap64; omega
    have g3 : decide ((l : Int) - (n : Int) < 0) = true := by simp; omega
    clear hI hs
    go_enter Tryd.func5, Tryd.ntmps5
    go_wp2_with fail
    go_ret
    exact ⟨_, rfl, Below.refl _ _, .inl rfl⟩
end Go.Proofs.YtndlhdmpfnadcaaDoor
