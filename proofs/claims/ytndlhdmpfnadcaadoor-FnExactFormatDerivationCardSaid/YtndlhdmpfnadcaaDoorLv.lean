/- Rows of lines: the law's own comparison. -/
import Derived.Test.YtndlhdmpfnadcaaDoorLu
namespace Go.Proofs.YtndlhdmpfnadcaaDoor
open Go.RowKit
open Pl
set_option linter.unusedVariables false

/-- cells that are told of, and two rows of ints -/
structure EqC (w W : World) (l : List (Addr × Value)) (s t : Option Addr) (n : Nat) (z : Nat → Int) : Prop where
  sit : Sit w W l
  i1 : IR W s n z
  i2 : IR W t n z
theorem EqC.call {w W W' : World} {l : List (Addr × Value)} {s t : Option Addr} {n : Nat} {z : Nat → Int} (h : EqC w W l s t n z) (hb : Below W.heap.size W W') : EqC w W' l s t n z := ⟨h.sit.call hb, h.i1.call hb, h.i2.call hb⟩
theorem EqC.drew {w W : World} {l : List (Addr × Value)} {s t : Option Addr} {n : Nat} {z : Nat → Int} (h : EqC w W l s t n z) : EqC w W.drew l s t n z := h.call (below_drew _ _)
/-- two rows of lines hold the same -/
def SameL (n : Nat) (L1 L2 : Nat → LnD) : Prop := ∀ i, i < n → (L2 i).R = (L1 i).R ∧ (L2 i).A = (L1 i).A ∧ (L2 i).P = (L1 i).P ∧ (L2 i).Q = (L1 i).Q ∧ (L2 i).B = (L1 i).B ∧ (L2 i).n = (L1 i).n ∧ (L2 i).z = (L1 i).z ∧ (L1 i).n ≤ 1048576
set_option maxRecDepth 100000 in
set_option maxHeartbeats 8000000 in
theorem eqLineS_any (s t : Option Addr) (n c d : Nat) (L1 L2 : Nat → LnD) (hn : n ≤ 1048576) (hc : n ≤ c) (hd : n ≤ d) (hE : SameL n L1 L2) (w : World) (hI : LR w s n L1) (hJ : LR w t n L2) :
    Calls Tryd.prog 9 #[.slice s n c, .slice t n d] w fun e w' => e = .returned (.bool true) ∧ Below w.heap.size w w' := by
  have HI := Lib.hid hI
  have HJ := Lib.hid hJ
  have HE := Lib.hid hE
  have H0 := Lib.hid (Sit.refl w)
  clear hI hJ hE
  go_enter Tryd.func9, Tryd.ntmps9
  go_wp2_with fail
  go_loopg [5] n (fun gk sv wr => ∃ a : Nat, a + gk = n ∧ sv = .int .i64 a ∧ Hid (Sit w wr []))
  case atStart => exact ⟨0, by omega, rfl, H0⟩
  case round =>
    clear H0
    obtain ⟨a, ha, rfl, HH⟩ := hrel
    by_cases hla : a < n
    · have hxa : (a : Int) < (n : Int) := by omega
      obtain ⟨e0, e1, e2, e3, e4, e5, e6, hm⟩ := HE.out a hla
      rcases HI.out with h0 | ⟨b, off, rfl, hlt, hcell⟩
      · omega
      rcases HJ.out with h0 | ⟨b', off', rfl, hlt', hcell'⟩
      · omega
      obtain ⟨⟨x0, x1, x2, x3, x4, x5⟩, hi1, hc1⟩ := hcell a hla
      obtain ⟨⟨y0, y1, y2, y3, y4, y5⟩, hi2, hc2⟩ := hcell' a hla
      rw [e0] at y0
      rw [e1] at y1
      rw [e2] at y2
      rw [e3] at y3
      rw [e4] at y4
      rw [e5] at y5 hc2
      rw [e5, e6] at hi2
      have hbw := HH.out.below
      have H : EqC w wr [(⟨b', off' + a * 6, none⟩, .string (L1 a).R), (⟨b', off' + a * 6 + 1, none⟩, .string (L1 a).A), (⟨b', off' + a * 6 + 2, none⟩, .string (L1 a).P), (⟨b', off' + a * 6 + 3, none⟩, .string (L1 a).Q), (⟨b', off' + a * 6 + 4, none⟩, .string (L1 a).B), (⟨b', off' + a * 6 + 5, none⟩, .slice (L2 a).s (L1 a).n (L2 a).c), (⟨b, off + a * 6, none⟩, .string (L1 a).R), (⟨b, off + a * 6 + 1, none⟩, .string (L1 a).A), (⟨b, off + a * 6 + 2, none⟩, .string (L1 a).P), (⟨b, off + a * 6 + 3, none⟩, .string (L1 a).Q), (⟨b, off + a * 6 + 4, none⟩, .string (L1 a).B), (⟨b, off + a * 6 + 5, none⟩, .slice (L1 a).s (L1 a).n (L1 a).c)] (L1 a).s (L2 a).s (L1 a).n (L1 a).z := ⟨((((((((((((HH.out.more (p := ⟨b, off + a * 6 + 5, none⟩) (Nat.lt_of_lt_of_le hlt hbw.size) ((hbw.cell (p := ⟨b, off + a * 6 + 5, none⟩) hlt).trans x5)).more (p := ⟨b, off + a * 6 + 4, none⟩) (Nat.lt_of_lt_of_le hlt hbw.size) ((hbw.cell (p := ⟨b, off + a * 6 + 4, none⟩) hlt).trans x4)).more (p := ⟨b, off + a * 6 + 3, none⟩) (Nat.lt_of_lt_of_le hlt hbw.size) ((hbw.cell (p := ⟨b, off + a * 6 + 3, none⟩) hlt).trans x3)).more (p := ⟨b, off + a * 6 + 2, none⟩) (Nat.lt_of_lt_of_le hlt hbw.size) ((hbw.cell (p := ⟨b, off + a * 6 + 2, none⟩) hlt).trans x2)).more (p := ⟨b, off + a * 6 + 1, none⟩) (Nat.lt_of_lt_of_le hlt hbw.size) ((hbw.cell (p := ⟨b, off + a * 6 + 1, none⟩) hlt).trans x1)).more (p := ⟨b, off + a * 6, none⟩) (Nat.lt_of_lt_of_le hlt hbw.size) ((hbw.cell (p := ⟨b, off + a * 6, none⟩) hlt).trans x0)).more (p := ⟨b', off' + a * 6 + 5, none⟩) (Nat.lt_of_lt_of_le hlt' hbw.size) ((hbw.cell (p := ⟨b', off' + a * 6 + 5, none⟩) hlt').trans y5)).more (p := ⟨b', off' + a * 6 + 4, none⟩) (Nat.lt_of_lt_of_le hlt' hbw.size) ((hbw.cell (p := ⟨b', off' + a * 6 + 4, none⟩) hlt').trans y4)).more (p := ⟨b', off' + a * 6 + 3, none⟩) (Nat.lt_of_lt_of_le hlt' hbw.size) ((hbw.cell (p := ⟨b', off' + a * 6 + 3, none⟩) hlt').trans y3)).more (p := ⟨b', off' + a * 6 + 2, none⟩) (Nat.lt_of_lt_of_le hlt' hbw.size) ((hbw.cell (p := ⟨b', off' + a * 6 + 2, none⟩) hlt').trans y2)).more (p := ⟨b', off' + a * 6 + 1, none⟩) (Nat.lt_of_lt_of_le hlt' hbw.size) ((hbw.cell (p := ⟨b', off' + a * 6 + 1, none⟩) hlt').trans y1)).more (p := ⟨b', off' + a * 6, none⟩) (Nat.lt_of_lt_of_le hlt' hbw.size) ((hbw.cell (p := ⟨b', off' + a * 6, none⟩) hlt').trans y0)), hi1.call hbw, hi2.call hbw⟩
      have EL := Lib.hid (fun W h1 h2 => eqLine_any (L1 a).R (L1 a).A (L1 a).P (L1 a).Q (L1 a).B (L1 a).s (L2 a).s (L1 a).n (L1 a).c (L2 a).c (L1 a).z hm hc1 hc2 W h1 h2)
      clear HI HJ HE HH hcell hcell' hlt hlt' x0 x1 x2 x3 x4 x5 y0 y1 y2 y3 y4 y5 hi1 hi2 hbw e0 e1 e2 e3 e4 e5 e6 hc1 hc2 hm
      generalize (L1 a).s = s2 at *
      generalize (L2 a).s = t2 at *
      generalize (L1 a).n = m at *
      generalize (L1 a).c = c1 at *
      generalize (L2 a).c = c2 at *
      generalize (L1 a).z = z at *
      generalize (L1 a).R = R at *
      generalize (L1 a).A = A at *
      generalize (L1 a).P = P at *
      generalize (L1 a).Q = Q at *
      generalize (L1 a).B = B at *
      go_wp2_with fail
      refine region_class (fun W => EqC w W [(⟨b', off' + a * 6, none⟩, .string R), (⟨b', off' + a * 6 + 1, none⟩, .string A), (⟨b', off' + a * 6 + 2, none⟩, .string P), (⟨b', off' + a * 6 + 3, none⟩, .string Q), (⟨b', off' + a * 6 + 4, none⟩, .string B), (⟨b', off' + a * 6 + 5, none⟩, .slice t2 m c2), (⟨b, off + a * 6, none⟩, .string R), (⟨b, off + a * 6 + 1, none⟩, .string A), (⟨b, off + a * 6 + 2, none⟩, .string P), (⟨b, off + a * 6 + 3, none⟩, .string Q), (⟨b, off + a * 6 + 4, none⟩, .string B), (⟨b, off + a * 6 + 5, none⟩, .slice s2 m c1)] s2 t2 m z) (by kernel_rfl) (by kernel_rfl) H.drew ?_
      repeat (first | go_big_quiet_skip | (go_big_quiet_want; first | (apply quiet_value; (· (intro W hW; (have d0 := hW.sit.get (p := ⟨b', off' + a * 6, none⟩) (v := .string R) (by simp); have d1 := hW.sit.get (p := ⟨b', off' + a * 6 + 1, none⟩) (v := .string A) (by simp); have d2 := hW.sit.get (p := ⟨b', off' + a * 6 + 2, none⟩) (v := .string P) (by simp); have d3 := hW.sit.get (p := ⟨b', off' + a * 6 + 3, none⟩) (v := .string Q) (by simp); have d4 := hW.sit.get (p := ⟨b', off' + a * 6 + 4, none⟩) (v := .string B) (by simp); have d5 := hW.sit.get (p := ⟨b', off' + a * 6 + 5, none⟩) (v := .slice t2 m c2) (by simp); have d6 := hW.sit.get (p := ⟨b, off + a * 6, none⟩) (v := .string R) (by simp); have d7 := hW.sit.get (p := ⟨b, off + a * 6 + 1, none⟩) (v := .string A) (by simp); have d8 := hW.sit.get (p := ⟨b, off + a * 6 + 2, none⟩) (v := .string P) (by simp); have d9 := hW.sit.get (p := ⟨b, off + a * 6 + 3, none⟩) (v := .string Q) (by simp); have d10 := hW.sit.get (p := ⟨b, off + a * 6 + 4, none⟩) (v := .string B) (by simp); have d11 := hW.sit.get (p := ⟨b, off + a * 6 + 5, none⟩) (v := .slice s2 m c1) (by simp)); go_simp; exact rfl)); simp only [Act.put, List.setIfInBounds_toArray, List.set_cons_zero, List.set_cons_succ]; go_big_quiet_on) | (apply quiet_call; (· (intro W hW; go_simp; exact ⟨rfl, rfl⟩)); (· (intro W hW; first | with_reducible exact ((EL.out W hW.i1 hW.i2)).mono fun _ _ h => ⟨h.1, hW.call h.2⟩)); simp only [Act.put, List.setIfInBounds_toArray, List.set_cons_zero, List.set_cons_succ]; go_big_quiet_on)))
      refine wpQuiet_nil ?_
      intro wq hq
      clear H
      have H := hq
      clear hq
      go_wp2_with fail
      go_roundg (gk - 1)
      case measure => omega
      case rel => exact ⟨a + 1, by omega, by go_num, Lib.hid (H.sit.less (by simp))⟩
    · obtain rfl : a = n := by omega
      clear HI HJ HE hla
      go_wp2_with fail
      go_ret
      exact ⟨rfl, HH.out.below⟩
end Go.Proofs.YtndlhdmpfnadcaaDoor
