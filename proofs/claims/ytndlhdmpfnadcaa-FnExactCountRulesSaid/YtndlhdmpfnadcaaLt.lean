/- Rows of lines: the number of lines with a rule. -/
import Derived.Test.YtndlhdmpfnadcaaLr
namespace Go.Proofs.Ytndlhdmpfnadcaa
open Go.RowKit
open Pl
set_option linter.unusedVariables false

/-- the data of a line -/
structure LnD where
  R : ByteArray
  A : ByteArray
  P : ByteArray
  Q : ByteArray
  B : ByteArray
  s : Option Addr
  n : Nat
  c : Nat
  z : Nat → Int
/-- a row of lines that can be read -/
def LR (W : World) (s : Option Addr) (n : Nat) (L : Nat → LnD) : Prop :=
  n = 0 ∨ ∃ b off, s = some ⟨b, off, none⟩ ∧ b < W.heap.size ∧ ∀ i, i < n →
    (W.cell? ⟨b, off + i * 6, none⟩ = some (.string (L i).R) ∧ W.cell? ⟨b, off + i * 6 + 1, none⟩ = some (.string (L i).A) ∧ W.cell? ⟨b, off + i * 6 + 2, none⟩ = some (.string (L i).P) ∧ W.cell? ⟨b, off + i * 6 + 3, none⟩ = some (.string (L i).Q) ∧ W.cell? ⟨b, off + i * 6 + 4, none⟩ = some (.string (L i).B) ∧ W.cell? ⟨b, off + i * 6 + 5, none⟩ = some (.slice (L i).s (L i).n (L i).c)) ∧
    IR W (L i).s (L i).n (L i).z ∧ (L i).n ≤ (L i).c
theorem LR.call {W W' : World} {s : Option Addr} {n : Nat} {L : Nat → LnD} (h : LR W s n L) (hb : Below W.heap.size W W') : LR W' s n L := by
  rcases h with h | ⟨b, off, hs, hlt, hc⟩
  · exact .inl h
  · refine .inr ⟨b, off, hs, Nat.lt_of_lt_of_le hlt hb.size, fun i hi => ?_⟩
    obtain ⟨⟨h0, h1, h2, h3, h4, h5⟩, hI, hn⟩ := hc i hi
    exact ⟨⟨(hb.cell (p := ⟨b, _, none⟩) hlt).trans h0, (hb.cell (p := ⟨b, _, none⟩) hlt).trans h1, (hb.cell (p := ⟨b, _, none⟩) hlt).trans h2, (hb.cell (p := ⟨b, _, none⟩) hlt).trans h3, (hb.cell (p := ⟨b, _, none⟩) hlt).trans h4, (hb.cell (p := ⟨b, _, none⟩) hlt).trans h5⟩, hI.call hb, hn⟩
def isR (L : Nat → LnD) (r : ByteArray) (i : Nat) : Bool := (L i).R.toList == r.toList
set_option maxRecDepth 100000 in
set_option maxHeartbeats 8000000 in
theorem CountRulesS_any (s : Option Addr) (n c : Nat) (L : Nat → LnD) (r : ByteArray) (hn : n ≤ 1048576) (hc : n ≤ c) (w : World) (hI : LR w s n L) :
    Calls Try.prog 7 #[.slice s n c, .string r] w fun e w' => e = .returned (.int .i64 (cnt n (isR L r) : Nat)) ∧ Below w.heap.size w w' := by
  have HI := Lib.hid hI
  have H0 := Lib.hid (Below.refl w.heap.size w)
  clear hI
  obtain ⟨m9, hm9⟩ : ∃ m, cnt n (isR L r) = m := ⟨_, rfl⟩
  have HM9 := Lib.hid hm9
  rw [hm9]
  clear hm9
  go_enter Try.func7, Try.ntmps7
  go_wp2_with fail
  go_loopg [5, 6] n (fun gk cv sv wr => ∃ a m : Nat, a + gk = n ∧ sv = .int .i64 a ∧ cv = .int .i64 m ∧ m ≤ a ∧ Hid (cnt a (isR L r) = m) ∧ Hid (Below w.heap.size w wr))
  case atStart => exact ⟨0, 0, by omega, rfl, rfl, Nat.le_refl _, Lib.hid rfl, H0⟩
  case round =>
    clear H0
    obtain ⟨a, m, ha, rfl, rfl, hm, HM, HB⟩ := hrel
    by_cases hla : a < n
    · have hxa : (a : Int) < (n : Int) := by omega
      rcases HI.out with h0 | ⟨b, off, rfl, hlt, hcell⟩
      · omega
      have hd := (HB.out.cell (p := ⟨b, off + a * 6, none⟩) hlt).trans (hcell a hla).1.1
      have hs := cnt_succ a (isR L r)
      rw [HM.out] at hs
      clear HI hcell hlt
      have hq : isR L r a = ((L a).R.toList == r.toList) := rfl
      cases hb : isR L r a
      · rw [hb] at hs hq
        have HM2 : Hid (cnt (a + 1) (isR L r) = m) := hs
        have q1 : ((L a).R.toList == r.toList) = false := hq.symm
        generalize (L a).R = X at *
        clear hs HM hb hq
        go_wp2_with fail
        go_roundg (gk - 1)
        case measure => omega
        case rel => exact ⟨a + 1, m, by omega, by go_num, by go_num, by omega, HM2, HB⟩
      · rw [hb] at hs hq
        have HM2 : Hid (cnt (a + 1) (isR L r) = m + 1) := hs
        have q1 : ((L a).R.toList == r.toList) = true := hq.symm
        generalize (L a).R = X at *
        clear hs HM hb hq
        go_wp2_with fail
        go_roundg (gk - 1)
        case measure => omega
        case rel => exact ⟨a + 1, m + 1, by omega, by go_num, by go_num, by omega, HM2, HB⟩
    · obtain rfl : a = n := by omega
      obtain rfl : m9 = m := HM9.out.symm.trans HM.out
      clear HI hla
      go_wp2_with fail
      go_ret
      exact ⟨rfl, HB.out⟩
set_option maxRecDepth 100000 in
set_option maxHeartbeats 8000000 in
theorem CountRules_any (s : Option Addr) (n c : Nat) (L : Nat → LnD) (r : ByteArray) (hn : n ≤ 1048576) (hc : n ≤ c) (w : World) (hI : LR w s n L) :
    Calls Try.prog 9 #[.slice s n c, .string r] w fun e w' => e = .returned (.int .i64 (cnt n (isR L r) : Nat)) ∧ Below w.heap.size w w' := by
  have HI := Lib.hid hI
  have H0 := Lib.hid (Below.refl w.heap.size w)
  clear hI
  obtain ⟨m9, hm9⟩ : ∃ m, cnt n (isR L r) = m := ⟨_, rfl⟩
  have HM9 := Lib.hid hm9
  rw [hm9]
  clear hm9
  go_enter Try.func9, Try.ntmps9
  go_wp2_with fail
  go_loopg [5, 10] n (fun gk cv sv wr => ∃ a m : Nat, a + gk = n ∧ sv = .int .i64 a ∧ cv = .int .i64 m ∧ m ≤ a ∧ Hid (cnt a (isR L r) = m) ∧ Hid (Below w.heap.size w wr))
  case atStart => exact ⟨0, 0, by omega, rfl, rfl, Nat.le_refl _, Lib.hid rfl, H0⟩
  case round =>
    clear H0
    obtain ⟨a, m, ha, rfl, rfl, hm, HM, HB⟩ := hrel
    by_cases hla : a < n
    · have hxa : (a : Int) < (n : Int) := by omega
      rcases HI.out with h0 | ⟨b, off, rfl, hlt, hcell⟩
      · omega
      obtain ⟨x0, x1, x2, x3, x4, x5⟩ := (hcell a hla).1
      have d0 := (HB.out.cell (p := ⟨b, off + a * 6, none⟩) hlt).trans x0
      have d1 := (HB.out.cell (p := ⟨b, off + a * 6 + 1, none⟩) hlt).trans x1
      have d2 := (HB.out.cell (p := ⟨b, off + a * 6 + 2, none⟩) hlt).trans x2
      have d3 := (HB.out.cell (p := ⟨b, off + a * 6 + 3, none⟩) hlt).trans x3
      have d4 := (HB.out.cell (p := ⟨b, off + a * 6 + 4, none⟩) hlt).trans x4
      have d5 := (HB.out.cell (p := ⟨b, off + a * 6 + 5, none⟩) hlt).trans x5
      clear x0 x1 x2 x3 x4 x5
      have n0 := (Blk.new wr 35 #[.string (L a).R, .string (L a).A, .string (L a).P, .string (L a).Q, .string (L a).B, .slice (L a).s (L a).n (L a).c]).cell 0
      simp at n0
      have HB2 : Hid (Below w.heap.size w (wr.alloc (.cells #[.string (L a).R, .string (L a).A, .string (L a).P, .string (L a).Q, .string (L a).B, .slice (L a).s (L a).n (L a).c] 35))) := Lib.hid (below_2 HB.out (below_n wr _))
      have hs := cnt_succ a (isR L r)
      rw [HM.out] at hs
      clear HI hcell hlt
      have hq : isR L r a = ((L a).R.toList == r.toList) := rfl
      cases hb : isR L r a
      · rw [hb] at hs hq
        have HM2 : Hid (cnt (a + 1) (isR L r) = m) := hs
        have q1 : ((L a).R.toList == r.toList) = false := hq.symm
        generalize (L a).R = X at *
        clear hs HM hb hq HB
        go_wp2_with fail
        go_roundg (gk - 1)
        case measure => omega
        case rel => exact ⟨a + 1, m, by omega, by go_num, by go_num, by omega, HM2, HB2⟩
      · rw [hb] at hs hq
        have HM2 : Hid (cnt (a + 1) (isR L r) = m + 1) := hs
        have q1 : ((L a).R.toList == r.toList) = true := hq.symm
        generalize (L a).R = X at *
        clear hs HM hb hq HB
        go_wp2_with fail
        go_roundg (gk - 1)
        case measure => omega
        case rel => exact ⟨a + 1, m + 1, by omega, by go_num, by go_num, by omega, HM2, HB2⟩
    · obtain rfl : a = n := by omega
      obtain rfl : m9 = m := HM9.out.symm.trans HM.out
      clear HI hla
      go_wp2_with fail
      go_ret
      exact ⟨rfl, HB.out⟩
end Go.Proofs.Ytndlhdmpfnadcaa
