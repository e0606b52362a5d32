/- Relations turned, composed and closed; images and shadows; equivalences: the program. -/
import Derived.Test.YtndlhdmpfnadcaaDoorRx
namespace Go.Proofs.YtndlhdmpfnadcaaDoor
open Go.RowKit
open Pl

theorem close_step {a : List UInt8} {k : Nat} (ha : bOk 729 a = true) (h : Rf a) (hk : 729 ≤ cntR a + k) (hne : cmpT a a ≠ a) : ∃ k', k = k' + 1 ∧ 729 ≤ cntR (cmpT a a) + k' := by
  rcases cnt_up ha h with e | e
  · exact absurd e hne
  · have := cntR_le (cmpT a a)
    exact ⟨k - 1, by omega, by omega⟩
/-- the closing loop: what is closed so far -/
def Clo (R : List UInt8) (k : Nat) (N : ByteArray) : Prop := bOk 729 N.data.toList = true ∧ Rf N.data.toList ∧ 729 ≤ cntR N.data.toList + k ∧ itT k N.data.toList = R
theorem Clo.start (a : List UInt8) : Clo (cloT a) 729 (bs (rfxT a)) := by
  unfold Clo
  rw [bs_list]
  exact ⟨rfxT_ok, rf_rfx a, Nat.le_add_left _ _, by rw [cloT]⟩
theorem bs_inj {l : List UInt8} {N : ByteArray} (e : bs l = N) : l = N.data.toList := by rw [← e, bs_list]
theorem Clo.done {R : List UInt8} {k : Nat} {N : ByteArray} (h : Clo R k N) (e : bs (cmpT N.data.toList N.data.toList) = N) : N = bs R := by
  have e2 := bs_inj e
  have := itT_fix e2 k
  rw [h.2.2.2] at this
  rw [this, bs_of]
theorem Clo.next {R : List UInt8} {k : Nat} {N : ByteArray} (h : Clo R k N) (e : ¬ bs (cmpT N.data.toList N.data.toList) = N) : ∃ k', k = k' + 1 ∧ Clo R k' (bs (cmpT N.data.toList N.data.toList)) := by
  have e2 : cmpT N.data.toList N.data.toList ≠ N.data.toList := fun h2 => e (by rw [h2, bs_of])
  obtain ⟨k', rfl, hk⟩ := close_step h.1 h.2.1 h.2.2.1 e2
  refine ⟨k', rfl, ?_⟩
  have h4 := h.2.2.2
  rw [itT] at h4
  unfold Clo
  rw [bs_list]
  exact ⟨cmpT_ok, rf_cmp h.2.1, hk, h4⟩

end Go.Proofs.YtndlhdmpfnadcaaDoor
