/- The reference's CloseRel. -/
import Derived.Test.YtndlhdmpfnadcaaGreatDoorGn
namespace Go.Proofs.YtndlhdmpfnadcaaGreatDoor
open Go.RowKit
open Pl

def rfS (rb : Rl) (i : Nat) : Nat → Nat := fun a => if a < i then msk (rfxF rb a) 27 else msk (rb a) 27
theorem rfS_zero (rb : Rl) : rowV rb = av 27 (rfS rb 0) := by
  rw [rowV_av]
  exact av_congr (fun a _ => by unfold rfS; rw [if_neg (Nat.not_lt_zero _)])
theorem rfS_at (rb : Rl) (i : Nat) : rfS rb i i = msk (rb i) 27 := by unfold rfS; rw [if_neg (Nat.lt_irrefl _)]
theorem rfS_next {rb : Rl} {i : Nat} (hi : i < 27) : av 27 (upd (rfS rb i) i (msk (rb i) 27 ||| 2 ^ i)) = av 27 (rfS rb (i + 1)) := by
  apply av_congr
  intro a _
  by_cases e : a = i
  · subst e
    rw [upd_at, msk_or1 _ hi]
    unfold rfS
    rw [if_pos (Nat.lt_succ_self _)]
    refine msk_congr (fun j _ => ?_)
    unfold rfxF
    rw [Bool.or_comm]
    congr 1
    exact bool_ext (by rw [beq_iff_eq, beq_iff_eq]; exact eq_comm)
  · rw [upd_ne e]
    unfold rfS
    by_cases h : a < i
    · rw [if_pos h, if_pos (by omega)]
    · rw [if_neg h, if_neg (by omega)]
theorem rfS_all (l : List UInt8) : av 27 (rfS (ro l) 27) = rowV (ro (rfxT l)) := by
  have h1 : rowV (ro (rfxT l)) = rowV (rfxF (ro l)) := rowV_congr (fun i j hi hj => ro_rt hi hj)
  rw [h1, rowV_av]
  exact av_congr (fun a ha => if_pos ha)
/-- the closing loop of the reference: what was there before (Mb), what is there now (N) -/
def Cl2 (R : List UInt8) (gk : Nat) (Mb : Rl) (N : ByteArray) : Prop :=
  ∃ k, gk = 2 * k + (if rt Mb = N.data.toList then 0 else 1) ∧ Clo R k N ∧ ((∀ i j, Mb i j = false) ∨ ∃ M : List UInt8, bOk 729 M = true ∧ Mb = ro M ∧ N.data.toList = cmpT M M)
theorem Cl2.start (a : List UInt8) : Cl2 (cloT a) 1459 (fun _ _ => false) (bs (rfxT a)) := by
  refine ⟨729, ?_, Clo.start a, .inl (fun _ _ => rfl)⟩
  rw [if_neg]
  intro h
  rw [bs_list] at h
  have h1 := ro_rt (r := fun _ _ => false) (i := 0) (j := 0) (by omega) (by omega)
  rw [h] at h1
  have h2 := rf_rfx a 0 (by omega)
  rw [h1] at h2
  cases h2
theorem Cl2.done {R : List UInt8} {gk : Nat} {Mb : Rl} {N : ByteArray} (h : Cl2 R gk Mb N) (e : rt Mb = N.data.toList) : N = bs R := by
  obtain ⟨k, _, hc, hj⟩ := h
  rcases hj with hj | ⟨M, hM, hm, hn⟩
  · exfalso
    have h1 := ro_rt (r := Mb) (i := 0) (j := 0) (by omega) (by omega)
    rw [e, hj 0 0] at h1
    have h2 := hc.2.1 0 (by omega)
    rw [h1] at h2
    cases h2
  · subst hm
    rw [rt_ro hM] at e
    rw [e] at hn
    exact hc.done (by rw [← hn, bs_of])
theorem Cl2.next {R : List UInt8} {gk : Nat} {Mb : Rl} {N : ByteArray} (h : Cl2 R gk Mb N) (e : ¬ rt Mb = N.data.toList) : ∃ gk', gk' < gk ∧ Cl2 R gk' (ro N.data.toList) (bs (cmpT N.data.toList N.data.toList)) := by
  obtain ⟨k, hgk, hc, _⟩ := h
  rw [if_neg e] at hgk
  by_cases hn : bs (cmpT N.data.toList N.data.toList) = N
  · refine ⟨2 * k, by omega, k, ?_, by rw [hn]; exact hc, .inr ⟨N.data.toList, hc.1, rfl, by rw [bs_list]⟩⟩
    rw [if_pos (by rw [rt_ro hc.1, bs_list]; exact (bs_inj hn).symm)]
    exact (Nat.add_zero _).symm
  · obtain ⟨k', hk, hc'⟩ := hc.next hn
    refine ⟨2 * k' + (if rt (ro N.data.toList) = (bs (cmpT N.data.toList N.data.toList)).data.toList then 0 else 1), ?_, k', rfl, hc', .inr ⟨N.data.toList, hc.1, rfl, by rw [bs_list]⟩⟩
    split <;> omega
theorem zero_row : rowV (fun _ _ => false) = #[.int .i64 0, .int .i64 0, .int .i64 0, .int .i64 0, .int .i64 0, .int .i64 0, .int .i64 0, .int .i64 0, .int .i64 0, .int .i64 0, .int .i64 0, .int .i64 0, .int .i64 0, .int .i64 0, .int .i64 0, .int .i64 0, .int .i64 0, .int .i64 0, .int .i64 0, .int .i64 0, .int .i64 0, .int .i64 0, .int .i64 0, .int .i64 0, .int .i64 0, .int .i64 0, .int .i64 0] := by rw [av_zero, rowV_av]; exact av_congr (fun _ _ => msk_zero 27)

end Go.Proofs.YtndlhdmpfnadcaaGreatDoor
