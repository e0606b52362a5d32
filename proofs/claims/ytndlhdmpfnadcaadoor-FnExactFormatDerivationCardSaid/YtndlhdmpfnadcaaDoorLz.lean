/- Rows of lines: the law's own copy. -/
import Derived.Test.YtndlhdmpfnadcaaDoorLy
namespace Go.Proofs.YtndlhdmpfnadcaaDoor
open Go.RowKit
open Pl
set_option linter.unusedVariables false

def zL : Value := .agg #[.string ⟨#[]⟩, .string ⟨#[]⟩, .string ⟨#[]⟩, .string ⟨#[]⟩, .string ⟨#[]⟩, .slice none 0 0]
theorem infoL : (Tryd.prog.info? 36).map (fun i => (i.zero, i.size, i.bytes)) = some (some zL, 6, 104) := by kernel_rfl
theorem made_lv (n : Nat) : madeCells zL.cells (n * 6) = lvA n (fun _ => zeroD) := by
  apply lvA_ext _ (size_madeCells _ _)
  intro j hj
  have hk : j % 6 = 0 ∨ j % 6 = 1 ∨ j % 6 = 2 ∨ j % 6 = 3 ∨ j % 6 = 4 ∨ j % 6 = 5 := by omega
  have h1 : (madeCells zL.cells (n * 6))[j]? = some (zL.cells[j % 6]!) := by
    simp [madeCells, hj, zL, Value.cells]
  rw [h1]
  rcases hk with e | e | e | e | e | e <;> rw [e] <;> rfl
theorem make_lv (n : Nat) (hn : n ≤ 1048576) (w : World) : (Instr.makeSlice 25 (.int .i64 (n : Int)) (.int .i64 (n : Int))).run Tryd.prog w = .ok (.slice (some ⟨w.heap.size, 0, none⟩) n n) (w.alloc (.cells (lvA n (fun _ => zeroD)) 36)) := by
  obtain ⟨i, hi, hz⟩ := Option.map_eq_some_iff.1 infoL
  simp only [Prod.mk.injEq] at hz
  obtain ⟨h1, h2, h3⟩ := hz
  have h := run_make (P := Tryd.prog) w 25 36 i zL Tryd.underlying25 hi h1 .i64 .i64 (n : Int) (n : Int) (by omega) (Int.le_refl _) (by rw [h3]; omega) (by omega)
  rw [h2] at h
  simp only [Int.toNat_natCast] at h
  rw [made_lv] at h
  exact h
/-- a copied line -/
def cpD (x : LnD) (g : Nat) : LnD := { x with s := some ⟨g, 0, none⟩, c := x.n }
def Cpd (W : World) (g0 : Nat) (L M : Nat → LnD) (a : Nat) : Prop := ∀ i, i < a → ∃ g, g ≠ g0 ∧ M i = cpD (L i) g ∧ IR W (some ⟨g, 0, none⟩) (L i).n (L i).z
theorem Cpd.call {W W' : World} {g0 : Nat} {L M : Nat → LnD} {a : Nat} (h : Cpd W g0 L M a) (hb : Below W.heap.size W W') : Cpd W' g0 L M a := fun i hi => by
  obtain ⟨g, h1, h2, h3⟩ := h i hi
  exact ⟨g, h1, h2, h3.call hb⟩
theorem Cpd.set {W : World} {g0 : Nat} {L M : Nat → LnD} {a : Nat} (h : Cpd W g0 L M a) (k : Nat) (v : Value) : Cpd (W.setCell ⟨g0, k, none⟩ v) g0 L M a := fun i hi => by
  obtain ⟨g, h1, h2, h3⟩ := h i hi
  exact ⟨g, h1, h2, h3.setCell (p := ⟨g0, k, none⟩) h1 v⟩
theorem Cpd.next {W : World} {g0 g : Nat} {L M : Nat → LnD} {a : Nat} (h : Cpd W g0 L M a) (hg : g ≠ g0) (hi : IR W (some ⟨g, 0, none⟩) (L a).n (L a).z) : Cpd W g0 L (updL M a (cpD (L a) g)) (a + 1) := fun i hia => by
  by_cases e : i = a
  · subst e
    exact ⟨g, hg, if_pos rfl, hi⟩
  · obtain ⟨g', h1, h2, h3⟩ := h i (by omega)
    exact ⟨g', h1, (if_neg e).trans h2, h3⟩
set_option maxRecDepth 100000 in
set_option maxHeartbeats 8000000 in
theorem toLineS_any (s : Option Addr) (n c : Nat) (L : Nat → LnD) (hn : n ≤ 1048576) (hc : n ≤ c) (hs : ∀ i, i < n → (L i).n ≤ 1048576) (w : World) (hI : LR w s n L) :
    Calls Tryd.prog 7 #[.slice s n c] w fun e w' => ∃ M, e = .returned (.slice (some ⟨w.heap.size, 0, none⟩) n n) ∧ Blk w' w.heap.size 36 (lvA n M) ∧ Cpd w' w.heap.size L M n ∧ Below w.heap.size w w' := by
  have hmk := make_lv n hn
  have K0 := Lib.hid (Blk.new w 36 (lvA n (fun _ => zeroD)))
  have B0 : Hid (Below w.heap.size w (w.alloc (.cells (lvA n (fun _ => zeroD)) 36))) := below_n w _
  have HI := Lib.hid hI
  have HS := Lib.hid hs
  clear hI hs
  go_enter Tryd.func7, Tryd.ntmps7
  go_wp2_with fail
  go_loopg [4] n (fun gk sv wr => ∃ (a : Nat) (M : Nat → LnD), a + gk = n ∧ sv = .int .i64 a ∧ Hid (Blk wr w.heap.size 36 (lvA n M)) ∧ Hid (Cpd wr w.heap.size L M a) ∧ Hid (Below w.heap.size w wr))
  case atStart => exact ⟨0, _, by omega, rfl, K0, Lib.hid (fun i hi => by omega), B0⟩
  case round =>
    clear K0 B0 hmk
    obtain ⟨a, M, ha, rfl, K, C, B⟩ := hrel
    by_cases hla : a < n
    · have hxa : (a : Int) < (n : Int) := by omega
      rcases HI.out with h0 | ⟨b, off, rfl, hlt, hcell⟩
      · omega
      obtain ⟨⟨x0, x1, x2, x3, x4, x5⟩, hi1, hc1⟩ := hcell a hla
      have d0 := (B.out.cell (p := ⟨b, off + a * 6, none⟩) hlt).trans x0
      have d1 := (B.out.cell (p := ⟨b, off + a * 6 + 1, none⟩) hlt).trans x1
      have d2 := (B.out.cell (p := ⟨b, off + a * 6 + 2, none⟩) hlt).trans x2
      have d3 := (B.out.cell (p := ⟨b, off + a * 6 + 3, none⟩) hlt).trans x3
      have d4 := (B.out.cell (p := ⟨b, off + a * 6 + 4, none⟩) hlt).trans x4
      have d5 := (B.out.cell (p := ⟨b, off + a * 6 + 5, none⟩) hlt).trans x5
      have TL := Lib.hid (toLine_new (L a).R (L a).A (L a).P (L a).Q (L a).B (L a).s (L a).n (L a).c (L a).z (HS.out a hla) hc1 wr (hi1.call B.out))
      clear x0 x1 x2 x3 x4 x5 hi1 hc1 hcell hlt HI HS
      go_wp2_with fail
      refine TL.out.mono ?_
      rintro e w1 ⟨g, hg, rfl, hir, hb⟩
      have k1 := K.out.below hb K.out.lt
      have hgn : g ≠ w.heap.size := by have := K.out.lt; omega
      have cq := (C.out.call hb).next hgn hir
      have bq := Lib.hid (below_2 B.out hb)
      have c0 := (k1.cell (a * 6 + 0)).trans (lvA_cell M hla (by omega))
      have f0 := k1.frozen (a * 6 + 0)
      have c1 := (k1.cell (a * 6 + 1)).trans (lvA_cell M hla (by omega))
      have f1 := k1.frozen (a * 6 + 1)
      have c2 := (k1.cell (a * 6 + 2)).trans (lvA_cell M hla (by omega))
      have f2 := k1.frozen (a * 6 + 2)
      have c3 := (k1.cell (a * 6 + 3)).trans (lvA_cell M hla (by omega))
      have f3 := k1.frozen (a * 6 + 3)
      have c4 := (k1.cell (a * 6 + 4)).trans (lvA_cell M hla (by omega))
      have f4 := k1.frozen (a * 6 + 4)
      have c5 := (k1.cell (a * 6 + 5)).trans (lvA_cell M hla (by omega))
      have f5 := k1.frozen (a * 6 + 5)
      simp only [Nat.add_zero] at c0 f0
      have k5 := ((((((k1.set_ (a * 6) (.string (L a).R)).set_ (a * 6 + 1) (.string (L a).A)).set_ (a * 6 + 2) (.string (L a).P)).set_ (a * 6 + 3) (.string (L a).Q)).set_ (a * 6 + 4) (.string (L a).B)).set_ (a * 6 + 5) (.slice (some ⟨g, 0, none⟩) (L a).n (L a).n))
      have k6 : Blk _ w.heap.size 36 (lvA n (updL M a (cpD (L a) g))) := (lvA_put M hla (cpD (L a) g)) ▸ k5
      have K5 := Lib.hid k6
      have C5 := Lib.hid ((((((cq.set (a * 6) (.string (L a).R)).set (a * 6 + 1) (.string (L a).A)).set (a * 6 + 2) (.string (L a).P)).set (a * 6 + 3) (.string (L a).Q)).set (a * 6 + 4) (.string (L a).B)).set (a * 6 + 5) (.slice (some ⟨g, 0, none⟩) (L a).n (L a).n))
      have B5 := Lib.hid ((((((bq.out.setCell (p := ⟨w.heap.size, a * 6, none⟩) (Nat.le_refl _) (.string (L a).R)).setCell (p := ⟨w.heap.size, a * 6 + 1, none⟩) (Nat.le_refl _) (.string (L a).A)).setCell (p := ⟨w.heap.size, a * 6 + 2, none⟩) (Nat.le_refl _) (.string (L a).P)).setCell (p := ⟨w.heap.size, a * 6 + 3, none⟩) (Nat.le_refl _) (.string (L a).Q)).setCell (p := ⟨w.heap.size, a * 6 + 4, none⟩) (Nat.le_refl _) (.string (L a).B)).setCell (p := ⟨w.heap.size, a * 6 + 5, none⟩) (Nat.le_refl _) (.slice (some ⟨g, 0, none⟩) (L a).n (L a).n))
      clear k5 k6 k1 cq bq hir hb K C B TL d0 d1 d2 d3 d4 d5 hg hgn
      go_wp2_with fail
      go_roundg (gk - 1)
      case measure => omega
      case rel => exact ⟨a + 1, _, by omega, by go_num, K5, C5, B5⟩
    · obtain rfl : a = n := by omega
      clear HI HS hla
      go_wp2_with fail
      go_ret
      exact ⟨M, rfl, K.out, C.out, B.out⟩
end Go.Proofs.YtndlhdmpfnadcaaDoor
