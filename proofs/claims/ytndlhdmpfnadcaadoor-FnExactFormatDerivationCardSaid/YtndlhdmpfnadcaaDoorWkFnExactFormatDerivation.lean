/- The walk of the law FnExactFormatDerivation. -/
import Derived.Test.YtndlhdmpfnadcaaDoorLzb
import Derived.Test.YtndlhdmpfnadcaaDoorLsb
import Derived.Test.YtndlhdmpfnadcaaDoorLxc
namespace Go.Proofs.YtndlhdmpfnadcaaDoor.fnExactFormatDerivation
open Go.RowKit
open Pl
set_option linter.unusedVariables false
theorem okD_copy {W : World} {g n : Nat} {L M : Nat → LnD} (h : Cpd W g L M n) (ho : ∀ i, i < n → okD (L i)) : ∀ i, i < n → okD (M i) := fun i hi => by
  obtain ⟨a, _, ha, _⟩ := h i hi
  rw [ha]
  exact ho i hi
theorem lnT_copy {W : World} {g n : Nat} {L M : Nat → LnD} (h : Cpd W g L M n) : ∀ i, i < n → lnT (M i) = lnT (L i) := fun i hi => by
  obtain ⟨a, _, ha, _⟩ := h i hi
  rw [ha]
  rfl
set_option maxRecDepth 100000 in
set_option maxHeartbeats 16000000 in
theorem walk (s : Option Addr) (n c : Nat) (L : Nat → LnD) (w : World) (hs : ∀ i, i < n → smD (L i)) (hc : n ≤ c) (hc2 : c ≤ 9223372036854775807) (hI : LR w s n L) (hy : ∀ i, i < n → smZ (L i)) (htab : Tab w) :
    Calls Tryd.prog 3 #[.slice s n c] w fun e w' => e = .returned (.bool true) ∧ Below w.heap.size w w' := by
  have SZ := Lib.hid (szLineS_any s n c 1048576 L (by omega) (Nat.le_refl _) hs w hI)
  have I0 := Lib.hid hI
  have T0 := Lib.hid htab
  have HC := Lib.hid hc
  have HY := Lib.hid hy
  clear hI hs hy htab
  go_enter Tryd.func3, Tryd.ntmps3
  go_wp2_with fail
  refine SZ.out.mono ?_
  rintro e w1 ⟨q, rfl, hb, hq⟩
  have I1 := Lib.hid (I0.out.call hb)
  have B1 := Lib.hid hb
  clear SZ hb I0
  rcases hq with rfl | ⟨hq, hn, hz⟩
  · go_wp2_with fail
    go_ret
    exact ⟨rfl, B1.out⟩
  have hq0 : decide (q < 0) = false := decide_eq_false (by omega)
  have hnn : ∀ i, i < n → (L i).n ≤ 1048576 := fun i hi => by have := hz i hi; unfold szD at this; omega
  have HO : Hid (∀ i, i < n → okD (L i)) := Lib.hid (fun i hi => ⟨by have := hz i hi; unfold szD at this; omega, hnn i hi, HY.out i hi⟩)
  have HN := Lib.hid hnn
  have TL := Lib.hid (fun w hI => toLineS_any s n c L hn hc hnn w hI)
  clear hz hnn HY
  go_wp2_with fail
  refine (TL.out _ I1.out).mono ?_
  rintro e w2 ⟨M2, rfl, hk, hcp, hb⟩
  have I2 := Lib.hid (I1.out.call hb)
  have B2 := Lib.hid (below_2 B1.out hb)
  have J2 := Lib.hid (LR.of_copy hk hcp)
  have C2 := Lib.hid hcp
  clear hk hcp
  have CS := Lib.hid (FormatDerivationS_any (some ⟨w1.heap.size, 0, none⟩) n n M2 hn (Nat.le_refl _) (okD_copy C2.out HO.out) w2 J2.out)
  rw [fdT_congr (lnT_copy C2.out)] at CS
  clear hb
  go_wp2_with fail
  refine CS.out.mono ?_
  rintro e w3 ⟨rfl, hb⟩
  have I3 := Lib.hid (I2.out.call hb)
  have B3 := Lib.hid (below_2 B2.out hb)
  clear hb
  go_wp2_with fail
  refine (TL.out _ I3.out).mono ?_
  rintro e w4 ⟨M4, rfl, hk, hcp, hb⟩
  have I4 := Lib.hid (I3.out.call hb)
  have B4 := Lib.hid (below_2 B3.out hb)
  have J4 := Lib.hid (LR.of_copy hk hcp)
  have C4 := Lib.hid hcp
  clear hk hcp
  have CI := Lib.hid (FormatDerivation_any (some ⟨w3.heap.size, 0, none⟩) n n M4 hn (Nat.le_refl _) (okD_copy C4.out HO.out) w4 J4.out (T0.out.below B4.out))
  rw [fdT_congr (lnT_copy C4.out)] at CI
  clear hb
  generalize bs (fdT L n) = v at *
  have q1 : (v.toList != v.toList) = false := by simp
  go_wp2_with fail
  refine CI.out.mono ?_
  rintro e w5 ⟨rfl, hb⟩
  have I5 := Lib.hid (I4.out.call hb)
  have B5 := Lib.hid (below_2 B4.out hb)
  have J5 := Lib.hid (J4.out.call hb)
  clear hb
  go_wp2_with fail
  refine (TL.out _ I5.out).mono ?_
  rintro e w6 ⟨M6, rfl, hk, hcp, hb⟩
  have I6 := Lib.hid (I5.out.call hb)
  have B6 := Lib.hid (below_2 B5.out hb)
  have J6 := Lib.hid (LR.of_copy hk hcp)
  have C6 := Lib.hid hcp
  clear hk hcp
  have J7 := Lib.hid (J5.out.call hb)
  have EQ := Lib.hid (eqLineS_any (some ⟨w3.heap.size, 0, none⟩) (some ⟨w5.heap.size, 0, none⟩) n n n M4 M6 hn (Nat.le_refl _) (Nat.le_refl _) (SameL.copies C4.out C6.out HN.out) w6 J7.out J6.out)
  clear hb
  go_wp2_with fail
  refine EQ.out.mono ?_
  rintro e w7 ⟨rfl, hb⟩
  have B7 := Lib.hid (below_2 B6.out hb)
  clear hb
  go_wp2_with fail
  go_ret
  exact ⟨rfl, B7.out⟩

end Go.Proofs.YtndlhdmpfnadcaaDoor.fnExactFormatDerivation
