/- The reference's CloseRel. -/
import Derived.Test.YthdgheglmkhcbaaMs
namespace Go.Proofs.Ythdgheglmkhcbaa
open Go.RowKit
open Pl

def rfS (rb : Rl) (i : Nat) : Nat → Nat := fun a => if a < i then msk (rfxF rb a) 27 else msk (rb a) 27
theorem rfS_zero (rb : Rl) : rowV rb = av 27 (rfS rb 0) := by
  rw [rowV_av]
  exact av_congr (fun a _ => by unfold rfS; rw [if_neg (Nat.not_lt_zero _)])
theorem rfS_at (rb : Rl) (i : Nat) : rfS rb i i = msk (rb i) 27 := by unfold rfS; rw [if_neg (Nat.lt_irrefl _)]
theorem rfS_next {rb : Rl} {i : Nat} (hi : i < 27) : av 27 (upd (rfS rb i) i (msk (rb i) 27 ||| 2 ^ i)) = av 27 (rfS rb (i + 1)) := by
  apply av_congr
  intro a _
  by_cases e : a = i
  · subst e
    rw [upd_at, msk_or1 _ hi]
    unfold rfS
    rw [if_pos (Nat.lt_succ_self _)]
    refine msk_congr (fun j _ => ?_)
    unfold rfxF
    rw [Bool.or_comm]
    congr 1
    exact bool_ext (by rw [beq_iff_eq, beq_iff_eq]; exact eq_comm)
  · rw [upd_ne e]
    unfold rfS
    by_cases h : a < i
    · rw [if_pos h, if_pos (by omega)]
    · rw [if_neg h, if_neg (by omega)]
theorem rfS_all (l : List UInt8) : av 27 (rfS (ro l) 27) = rowV (ro (rfxT l)) := by
  have h1 : rowV (ro (rfxT l)) = rowV (rfxF (ro l)) := rowV_congr (fun i j hi hj => ro_rt hi hj)
  rw [h1, rowV_av]
  exact av_congr (fun a ha => if_pos ha)
/-- the closing loop of the reference: what was there before (Mb), what is there now (N) -/
def Cl2 (R : List UInt8) (gk : Nat) (Mb : Rl) (N : ByteArray) : Prop :=
  ∃ k, gk = 2 * k + (if rt Mb = N.data.toList then 0 else 1) ∧ Clo R k N ∧ ((∀ i j, Mb i j = false) ∨ ∃ M : List UInt8, bOk 729 M = true ∧ Mb = ro M ∧ N.data.toList = cmpT M M)
theorem Cl2.start (a : List UInt8) : Cl2 (cloT a) 1459 (fun _ _ => false) (bs (rfxT a)) := by
  refine ⟨729, ?_, Clo.start a, .inl (fun _ _ => rfl)⟩
  rw [if_neg]
  intro h
  rw [bs_list] at h
  have h1 := ro_rt (r := fun _ _ => false) (i := 0) (j := 0) (by omega) (by omega)
  rw [h] at h1
  have h2 := rf_rfx a 0 (by omega)
  rw [h1] at h2
  cases h2
theorem Cl2.done {R : List UInt8} {gk : Nat} {Mb : Rl} {N : ByteArray} (h : Cl2 R gk Mb N) (e : rt Mb = N.data.toList) : N = bs R := by
  obtain ⟨k, _, hc, hj⟩ := h
  rcases hj with hj | ⟨M, hM, hm, hn⟩
  · exfalso
    have h1 := ro_rt (r := Mb) (i := 0) (j := 0) (by omega) (by omega)
    rw [e, hj 0 0] at h1
    have h2 := hc.2.1 0 (by omega)
    rw [h1] at h2
    cases h2
  · subst hm
    rw [rt_ro hM] at e
    rw [e] at hn
    exact hc.done (by rw [← hn, bs_of])
theorem Cl2.next {R : List UInt8} {gk : Nat} {Mb : Rl} {N : ByteArray} (h : Cl2 R gk Mb N) (e : ¬ rt Mb = N.data.toList) : ∃ gk', gk' < gk ∧ Cl2 R gk' (ro N.data.toList) (bs (cmpT N.data.toList N.data.toList)) := by
  obtain ⟨k, hgk, hc, _⟩ := h
  rw [if_neg e] at hgk
  by_cases hn : bs (cmpT N.data.toList N.data.toList) = N
  · refine ⟨2 * k, by omega, k, ?_, by rw [hn]; exact hc, .inr ⟨N.data.toList, hc.1, rfl, by rw [bs_list]⟩⟩
    rw [if_pos (by rw [rt_ro hc.1, bs_list]; exact (bs_inj hn).symm)]
    exact (Nat.add_zero _).symm
  · obtain ⟨k', hk, hc'⟩ := hc.next hn
    refine ⟨2 * k' + (if rt (ro N.data.toList) = (bs (cmpT N.data.toList N.data.toList)).data.toList then 0 else 1), ?_, k', rfl, hc', .inr ⟨N.data.toList, hc.1, rfl, by rw [bs_list]⟩⟩
    split <;> omega
theorem zero_row : rowV (fun _ _ => false) = #[.int .i64 0, .int .i64 0, .int .i64 0, .int .i64 0, .int .i64 0, .int .i64 0, .int .i64 0, .int .i64 0, .int .i64 0, .int .i64 0, .int .i64 0, .int .i64 0, .int .i64 0, .int .i64 0, .int .i64 0, .int .i64 0, .int .i64 0, .int .i64 0, .int .i64 0, .int .i64 0, .int .i64 0, .int .i64 0, .int .i64 0, .int .i64 0, .int .i64 0, .int .i64 0, .int .i64 0] := by rw [av_zero, rowV_av]; exact av_congr (fun _ _ => msk_zero 27)
set_option maxRecDepth 100000 in
set_option maxHeartbeats 16000000 in
theorem CloseRelS_any (P : ByteArray) (hP : P.size ≤ 1000000000000) (w : World) : Calls Try.prog 51 #[.string P] w fun e w' => (e = .returned (.tuple #[.string (bs (optB (closeR P))), .bool (closeR P).isSome]) ∧ Below w.heap.size w w') := by
  have VV := Lib.hid (fun w => RelValidS_any P hP w)
  cases hp : bOk 729 P.data.toList
  · rw [closeR_no hp]
    rw [hp] at VV
    simp only [optB, Option.isSome_none]
    go_enter Try.func51, Try.ntmps51
    go_wp2_with fail
    refine (VV.out _).mono ?_
    rintro e w' ⟨rfl, rfl⟩
    go_wp2_with fail
    go_ret2
    exact ⟨(by first | trivial | rfl), Below.refl _ _⟩
  · rw [closeR_yes hp]
    rw [hp] at VV
    simp only [optB, Option.isSome_some]
    have CS := Lib.hid (Cl2.start P.data.toList)
    have RD := Lib.hid (fun w => l6Read_any P hp w)
    have HA : Hid (∀ gk Mb N, Cl2 (cloT P.data.toList) gk Mb N → N = bs (cloT P.data.toList) → rowV (ro N.data.toList) = rowV (ro (cloT P.data.toList))) := fun _ _ N _ h => by rw [h, bs_list]
    have TX := Lib.hid (fun w => l6TextR_any (ro (cloT P.data.toList)) w)
    rw [rt_ro (cloT_ok _)] at TX
    have ZR := Lib.hid (rfS_zero (ro P.data.toList))
    have ZA := Lib.hid (rfS_all P.data.toList)
    have SZ : Hid ((Try.prog.info? 74).map (·.size) = some (rowV (ro P.data.toList)).size ∧ (#[.int .i64 0, .int .i64 0, .int .i64 0, .int .i64 0, .int .i64 0, .int .i64 0, .int .i64 0, .int .i64 0, .int .i64 0, .int .i64 0, .int .i64 0, .int .i64 0, .int .i64 0, .int .i64 0, .int .i64 0, .int .i64 0, .int .i64 0, .int .i64 0, .int .i64 0, .int .i64 0, .int .i64 0, .int .i64 0, .int .i64 0, .int .i64 0, .int .i64 0, .int .i64 0, .int .i64 0] : Array Value).size = (rowV (ro P.data.toList)).size ∧ (rowV (ro P.data.toList)).all (·.oneCell') = true) := ⟨by rw [rowV_size]; exact rel_size, by rw [rowV_size]; rfl, rowV_one _⟩
    generalize cloT P.data.toList = RS at *
    generalize rfxT P.data.toList = RX at *
    generalize ro P.data.toList = rb at *
    obtain ⟨V, hV⟩ : ∃ V, rowV rb = V := ⟨_, rfl⟩
    rw [hV] at RD ZR SZ
    clear hp hV
    go_enter Try.func51, Try.ntmps51
    go_wp2_with fail
    refine (VV.out _).mono ?_
    rintro e w' ⟨rfl, rfl⟩
    go_wp2_with fail
    refine (RD.out _).mono ?_
    rintro e w1 ⟨rfl, hb1⟩
    have B1 := Lib.hid hb1
    clear hb1 RD VV
    have kz : Blk (w1.alloc (.cells #[.int .i64 0, .int .i64 0, .int .i64 0, .int .i64 0, .int .i64 0, .int .i64 0, .int .i64 0, .int .i64 0, .int .i64 0, .int .i64 0, .int .i64 0, .int .i64 0, .int .i64 0, .int .i64 0, .int .i64 0, .int .i64 0, .int .i64 0, .int .i64 0, .int .i64 0, .int .i64 0, .int .i64 0, .int .i64 0, .int .i64 0, .int .i64 0, .int .i64 0, .int .i64 0, .int .i64 0] 74)) w1.heap.size 74 #[.int .i64 0, .int .i64 0, .int .i64 0, .int .i64 0, .int .i64 0, .int .i64 0, .int .i64 0, .int .i64 0, .int .i64 0, .int .i64 0, .int .i64 0, .int .i64 0, .int .i64 0, .int .i64 0, .int .i64 0, .int .i64 0, .int .i64 0, .int .i64 0, .int .i64 0, .int .i64 0, .int .i64 0, .int .i64 0, .int .i64 0, .int .i64 0, .int .i64 0, .int .i64 0, .int .i64 0] := Blk.new w1 74 #[.int .i64 0, .int .i64 0, .int .i64 0, .int .i64 0, .int .i64 0, .int .i64 0, .int .i64 0, .int .i64 0, .int .i64 0, .int .i64 0, .int .i64 0, .int .i64 0, .int .i64 0, .int .i64 0, .int .i64 0, .int .i64 0, .int .i64 0, .int .i64 0, .int .i64 0, .int .i64 0, .int .i64 0, .int .i64 0, .int .i64 0, .int .i64 0, .int .i64 0, .int .i64 0, .int .i64 0]
    have KZ := Lib.hid kz
    have K2 : Hid (Blk ((w1.alloc (.cells #[.int .i64 0, .int .i64 0, .int .i64 0, .int .i64 0, .int .i64 0, .int .i64 0, .int .i64 0, .int .i64 0, .int .i64 0, .int .i64 0, .int .i64 0, .int .i64 0, .int .i64 0, .int .i64 0, .int .i64 0, .int .i64 0, .int .i64 0, .int .i64 0, .int .i64 0, .int .i64 0, .int .i64 0, .int .i64 0, .int .i64 0, .int .i64 0, .int .i64 0, .int .i64 0, .int .i64 0] 74)).setRow w1.heap.size V) w1.heap.size 74 V) := kz.row _
    have B2 : Hid (Below w.heap.size w ((w1.alloc (.cells #[.int .i64 0, .int .i64 0, .int .i64 0, .int .i64 0, .int .i64 0, .int .i64 0, .int .i64 0, .int .i64 0, .int .i64 0, .int .i64 0, .int .i64 0, .int .i64 0, .int .i64 0, .int .i64 0, .int .i64 0, .int .i64 0, .int .i64 0, .int .i64 0, .int .i64 0, .int .i64 0, .int .i64 0, .int .i64 0, .int .i64 0, .int .i64 0, .int .i64 0, .int .i64 0, .int .i64 0] 74)).setRow w1.heap.size V)) := (B1.out.alloc B1.out.size (.cells #[.int .i64 0, .int .i64 0, .int .i64 0, .int .i64 0, .int .i64 0, .int .i64 0, .int .i64 0, .int .i64 0, .int .i64 0, .int .i64 0, .int .i64 0, .int .i64 0, .int .i64 0, .int .i64 0, .int .i64 0, .int .i64 0, .int .i64 0, .int .i64 0, .int .i64 0, .int .i64 0, .int .i64 0, .int .i64 0, .int .i64 0, .int .i64 0, .int .i64 0, .int .i64 0, .int .i64 0] 74)).trans (below_row B1.out.size _)
    clear kz
    go_wp2_with (refine wpList_store_row rfl 74 (.tmp 4) (.tmp 11) rfl w1.heap.size V rfl rfl 74 #[.int .i64 0, .int .i64 0, .int .i64 0, .int .i64 0, .int .i64 0, .int .i64 0, .int .i64 0, .int .i64 0, .int .i64 0, .int .i64 0, .int .i64 0, .int .i64 0, .int .i64 0, .int .i64 0, .int .i64 0, .int .i64 0, .int .i64 0, .int .i64 0, .int .i64 0, .int .i64 0, .int .i64 0, .int .i64 0, .int .i64 0, .int .i64 0, .int .i64 0, .int .i64 0, .int .i64 0] KZ.out SZ.out.1 SZ.out.2.1 SZ.out.2.2 ?_)
    clear KZ
    obtain ⟨g, hg⟩ : ∃ g, w1.heap.size = g := ⟨_, rfl⟩
    have hgw : w.heap.size ≤ g := by have := B1.out.size; omega
    rw [hg] at K2 B2 ⊢
    have K3 : Hid (Blk ((w1.alloc (.cells #[.int .i64 0, .int .i64 0, .int .i64 0, .int .i64 0, .int .i64 0, .int .i64 0, .int .i64 0, .int .i64 0, .int .i64 0, .int .i64 0, .int .i64 0, .int .i64 0, .int .i64 0, .int .i64 0, .int .i64 0, .int .i64 0, .int .i64 0, .int .i64 0, .int .i64 0, .int .i64 0, .int .i64 0, .int .i64 0, .int .i64 0, .int .i64 0, .int .i64 0, .int .i64 0, .int .i64 0] 74)).setRow g V) g 74 (av 27 (rfS rb 0))) := by rw [← ZR.out]; exact K2
    clear K2 hg B1
    go_loopg [5] 27 (fun gk sv wr => ∃ a : Nat, a + gk = 27 ∧ sv = .int .i64 a ∧ Hid (Blk wr g 74 (av 27 (rfS rb a))) ∧ Hid (Below w.heap.size w wr))
    case atStart => exact ⟨0, rfl, rfl, K3, B2⟩
    case round =>
      clear K3 B2
      obtain ⟨a, ha, rfl, KL, B⟩ := hrel
      by_cases hla : a < 27
      · have hor := or_pow (msk (rb a) 27) a (msk_lt _ _) hla
        have hc := (KL.out.cell a).trans (av_get _ hla)
        rw [rfS_at] at hc
        have hf := KL.out.frozen a
        have k5 := KL.out.set_ a (.int .i64 (bits BinOp.or IntKind.i64 ((msk (rb a) 27 : Nat) : Int) (wrap64 (2 ^ a))))
        rw [hor, av_set, rfS_next hla, ← hor] at k5
        have K5 := Lib.hid k5
        have B5 := Lib.hid (B.out.setCell (p := ⟨g, a, none⟩) hgw (.int .i64 (bits BinOp.or IntKind.i64 ((msk (rb a) 27 : Nat) : Int) (wrap64 (2 ^ a)))))
        clear k5 KL B hor
        go_wp2_with fail
        go_roundg (gk - 1)
        case measure => omega
        case rel => exact ⟨a + 1, by omega, by go_num, K5, B5⟩
      · obtain rfl : a = 27 := by omega
        have K6 : Hid (Blk (wr.alloc (.cells #[.int .i64 0, .int .i64 0, .int .i64 0, .int .i64 0, .int .i64 0, .int .i64 0, .int .i64 0, .int .i64 0, .int .i64 0, .int .i64 0, .int .i64 0, .int .i64 0, .int .i64 0, .int .i64 0, .int .i64 0, .int .i64 0, .int .i64 0, .int .i64 0, .int .i64 0, .int .i64 0, .int .i64 0, .int .i64 0, .int .i64 0, .int .i64 0, .int .i64 0, .int .i64 0, .int .i64 0] 74)) g 74 (rowV (ro (bs RX).data.toList))) := by
          have k := KL.out
          rw [ZA.out] at k
          exact k.alloc _
        have kz : Blk (wr.alloc (.cells #[.int .i64 0, .int .i64 0, .int .i64 0, .int .i64 0, .int .i64 0, .int .i64 0, .int .i64 0, .int .i64 0, .int .i64 0, .int .i64 0, .int .i64 0, .int .i64 0, .int .i64 0, .int .i64 0, .int .i64 0, .int .i64 0, .int .i64 0, .int .i64 0, .int .i64 0, .int .i64 0, .int .i64 0, .int .i64 0, .int .i64 0, .int .i64 0, .int .i64 0, .int .i64 0, .int .i64 0] 74)) wr.heap.size 74 #[.int .i64 0, .int .i64 0, .int .i64 0, .int .i64 0, .int .i64 0, .int .i64 0, .int .i64 0, .int .i64 0, .int .i64 0, .int .i64 0, .int .i64 0, .int .i64 0, .int .i64 0, .int .i64 0, .int .i64 0, .int .i64 0, .int .i64 0, .int .i64 0, .int .i64 0, .int .i64 0, .int .i64 0, .int .i64 0, .int .i64 0, .int .i64 0, .int .i64 0, .int .i64 0, .int .i64 0] := Blk.new wr 74 #[.int .i64 0, .int .i64 0, .int .i64 0, .int .i64 0, .int .i64 0, .int .i64 0, .int .i64 0, .int .i64 0, .int .i64 0, .int .i64 0, .int .i64 0, .int .i64 0, .int .i64 0, .int .i64 0, .int .i64 0, .int .i64 0, .int .i64 0, .int .i64 0, .int .i64 0, .int .i64 0, .int .i64 0, .int .i64 0, .int .i64 0, .int .i64 0, .int .i64 0, .int .i64 0, .int .i64 0]
        have KZ := Lib.hid kz
        have K7 : Hid (Blk (wr.alloc (.cells #[.int .i64 0, .int .i64 0, .int .i64 0, .int .i64 0, .int .i64 0, .int .i64 0, .int .i64 0, .int .i64 0, .int .i64 0, .int .i64 0, .int .i64 0, .int .i64 0, .int .i64 0, .int .i64 0, .int .i64 0, .int .i64 0, .int .i64 0, .int .i64 0, .int .i64 0, .int .i64 0, .int .i64 0, .int .i64 0, .int .i64 0, .int .i64 0, .int .i64 0, .int .i64 0, .int .i64 0] 74)) wr.heap.size 74 (rowV (fun _ _ => false))) := by rw [zero_row]; exact kz
        have B6 := Lib.hid (B.out.alloc B.out.size (.cells #[.int .i64 0, .int .i64 0, .int .i64 0, .int .i64 0, .int .i64 0, .int .i64 0, .int .i64 0, .int .i64 0, .int .i64 0, .int .i64 0, .int .i64 0, .int .i64 0, .int .i64 0, .int .i64 0, .int .i64 0, .int .i64 0, .int .i64 0, .int .i64 0, .int .i64 0, .int .i64 0, .int .i64 0, .int .i64 0, .int .i64 0, .int .i64 0, .int .i64 0, .int .i64 0, .int .i64 0] 74))
        have HW := Lib.hid (setRow_self (wr.alloc (.cells #[.int .i64 0, .int .i64 0, .int .i64 0, .int .i64 0, .int .i64 0, .int .i64 0, .int .i64 0, .int .i64 0, .int .i64 0, .int .i64 0, .int .i64 0, .int .i64 0, .int .i64 0, .int .i64 0, .int .i64 0, .int .i64 0, .int .i64 0, .int .i64 0, .int .i64 0, .int .i64 0, .int .i64 0, .int .i64 0, .int .i64 0, .int .i64 0, .int .i64 0, .int .i64 0, .int .i64 0] 74)) wr.heap.size #[.int .i64 0, .int .i64 0, .int .i64 0, .int .i64 0, .int .i64 0, .int .i64 0, .int .i64 0, .int .i64 0, .int .i64 0, .int .i64 0, .int .i64 0, .int .i64 0, .int .i64 0, .int .i64 0, .int .i64 0, .int .i64 0, .int .i64 0, .int .i64 0, .int .i64 0, .int .i64 0, .int .i64 0, .int .i64 0, .int .i64 0, .int .i64 0, .int .i64 0, .int .i64 0, .int .i64 0] 74 (0, 0) kz)
        have hgb : g ≠ wr.heap.size := Nat.ne_of_lt KL.out.lt
        have hwb : w.heap.size ≤ wr.heap.size := B.out.size
        clear kz KL B ZA ZR hla
        go_wp2_with (refine wpList_store_row rfl 74 (.tmp 6) (.tmp 25) rfl wr.heap.size #[.int .i64 0, .int .i64 0, .int .i64 0, .int .i64 0, .int .i64 0, .int .i64 0, .int .i64 0, .int .i64 0, .int .i64 0, .int .i64 0, .int .i64 0, .int .i64 0, .int .i64 0, .int .i64 0, .int .i64 0, .int .i64 0, .int .i64 0, .int .i64 0, .int .i64 0, .int .i64 0, .int .i64 0, .int .i64 0, .int .i64 0, .int .i64 0, .int .i64 0, .int .i64 0, .int .i64 0] rfl rfl 74 #[.int .i64 0, .int .i64 0, .int .i64 0, .int .i64 0, .int .i64 0, .int .i64 0, .int .i64 0, .int .i64 0, .int .i64 0, .int .i64 0, .int .i64 0, .int .i64 0, .int .i64 0, .int .i64 0, .int .i64 0, .int .i64 0, .int .i64 0, .int .i64 0, .int .i64 0, .int .i64 0, .int .i64 0, .int .i64 0, .int .i64 0, .int .i64 0, .int .i64 0, .int .i64 0, .int .i64 0] KZ.out rel_size rfl z_one ?_)
        try rw [HW.out]
        clear HW KZ
        obtain ⟨g6, hg6⟩ : ∃ g, wr.heap.size = g := ⟨_, rfl⟩
        rw [hg6] at K7 hgb hwb ⊢
        clear hg6
        simp only [Act.put]
        go_loopg [6] 1459 (fun gk s6 wr => ∃ (gb : Nat) (Mb : Rl) (N : ByteArray), s6 = .pointer (some ⟨gb, 0, none⟩) ∧ g ≠ gb ∧ w.heap.size ≤ gb ∧ Hid (Cl2 RS gk Mb N) ∧ Hid (Blk wr gb 74 (rowV Mb)) ∧ Hid (Blk wr g 74 (rowV (ro N.data.toList))) ∧ Hid (Below w.heap.size w wr))
        case atStart => exact ⟨g6, _, _, rfl, hgb, hwb, CS, K7, K6, B6⟩
        case round =>
          clear K6 K7 B6 hgb hwb CS
          obtain ⟨gb, Mb, N, rfl, hgb, hwb, HC, K6, K4, B⟩ := hrel
          have HE : Hid (∀ W, (Op.equalIn 10000 74 (.agg (rowV Mb)) (.agg (rowV (ro N.data.toList)))).run Try.prog W = .ok (rt Mb == N.data.toList) W) := fun W => by
            have := eq_rows Mb (ro N.data.toList) W
            obtain ⟨k, _, hc, _⟩ := HC.out
            rwa [rt_ro hc.1] at this
          by_cases hd : rt Mb = N.data.toList
          · have hN := HC.out.done hd
            have e1 : (rt Mb == N.data.toList) = true := by simp [hd]
            have HE2 := Lib.hid (fun W => by have := HE.out W; rw [e1] at this; exact this)
            have TX2 : Hid (∀ w, Calls Try.prog 80 #[.agg (rowV (ro N.data.toList))] w fun e w' => (e = .returned (.string (bs RS)) ∧ Below w.heap.size w w')) := by rw [hN, bs_list]; exact TX
            obtain ⟨V4, hV4⟩ : ∃ V, rowV (ro N.data.toList) = V := ⟨_, rfl⟩
            obtain ⟨V6, hV6⟩ : ∃ V, rowV Mb = V := ⟨_, rfl⟩
            have Z4 : Hid ((Try.prog.info? 74).map (·.size) = some V4.size) := by rw [← hV4, rowV_size]; exact rel_size
            have Z6 : Hid ((Try.prog.info? 74).map (·.size) = some V6.size) := by rw [← hV6, rowV_size]; exact rel_size
            rw [hV4] at K4 HE2 TX2
            rw [hV6] at K6 HE2
            clear hV4 hV6 hN hd HE HC TX HA e1
            have q1 := HE2.out
            go_wp2_with (first | (refine wpList_load_row rfl 74 (.tmp 6) rfl gb rfl 74 V6 (0, 0) _ K6.out Try.underlying74 rfl Z6.out ?_) | (refine wpList_load_row rfl 74 (.tmp 4) rfl g rfl 74 V4 (0, 0) _ K4.out Try.underlying74 rfl Z4.out ?_))
            refine (TX2.out _).mono ?_
            rintro e w4 ⟨rfl, hb4⟩
            have B4 := Lib.hid (below_2 B.out hb4)
            clear hb4
            go_wp2_with fail
            go_ret2
            exact ⟨(by first | trivial | rfl), B4.out⟩
          · obtain ⟨gk', hlt, hc'⟩ := HC.out.next hd
            have HC2 := Lib.hid hc'
            have HLT := Lib.hid hlt
            have e1 : (rt Mb == N.data.toList) = false := by simp [hd]
            have HE2 := Lib.hid (fun W => by have := HE.out W; rw [e1] at this; exact this)
            have CO := Lib.hid (fun w => l6Compose_any (ro N.data.toList) (ro N.data.toList) w)
            have hco : rowV (cmpF (ro N.data.toList) (ro N.data.toList)) = rowV (ro (bs (cmpT N.data.toList N.data.toList)).data.toList) := by
              rw [bs_list]
              exact rowV_congr (fun i j hi hj => (ro_cmp hi hj).symm)
            rw [hco] at CO
            generalize bs (cmpT N.data.toList N.data.toList) = N2 at *
            obtain ⟨V4, hV4⟩ : ∃ V, rowV (ro N.data.toList) = V := ⟨_, rfl⟩
            obtain ⟨V6, hV6⟩ : ∃ V, rowV Mb = V := ⟨_, rfl⟩
            obtain ⟨V5, hV5⟩ : ∃ V, rowV (ro N2.data.toList) = V := ⟨_, rfl⟩
            have HV4 := Lib.hid hV4
            have HV5 := Lib.hid hV5
            have O4 : Hid ((Try.prog.info? 74).map (·.size) = some V4.size ∧ V6.size = V4.size ∧ V4.all (·.oneCell') = true ∧ (#[.int .i64 0, .int .i64 0, .int .i64 0, .int .i64 0, .int .i64 0, .int .i64 0, .int .i64 0, .int .i64 0, .int .i64 0, .int .i64 0, .int .i64 0, .int .i64 0, .int .i64 0, .int .i64 0, .int .i64 0, .int .i64 0, .int .i64 0, .int .i64 0, .int .i64 0, .int .i64 0, .int .i64 0, .int .i64 0, .int .i64 0, .int .i64 0, .int .i64 0, .int .i64 0, .int .i64 0] : Array Value).size = V4.size) := ⟨by rw [← hV4, rowV_size]; exact rel_size, by rw [← hV4, ← hV6, rowV_size, rowV_size], by rw [← hV4]; exact rowV_one _, by rw [← hV4, rowV_size]; rfl⟩
            have O5 : Hid ((Try.prog.info? 74).map (·.size) = some V5.size ∧ V4.size = V5.size ∧ V5.all (·.oneCell') = true) := ⟨by rw [← hV5, rowV_size]; exact rel_size, by rw [← hV4, ← hV5, rowV_size, rowV_size], by rw [← hV5]; exact rowV_one _⟩
            have Z6 : Hid ((Try.prog.info? 74).map (·.size) = some V6.size) := by rw [← hV6, rowV_size]; exact rel_size
            rw [hV4, hV5] at CO
            rw [hV4] at K4 HE2
            rw [hV6] at K6 HE2
            clear hV4 hV5 hV6 hd HE HC TX HA e1 hc' hlt hco
            have K4a := Lib.hid (K4.out.row_ne hgb V4)
            have K6a := Lib.hid (K6.out.row V4)
            have Ba := Lib.hid (B.out.trans (below_row hwb V4))
            have q1 := HE2.out
            go_wp2_with (first | (refine wpList_load_row rfl 74 (.tmp 6) rfl gb rfl 74 V6 (0, 0) _ K6.out Try.underlying74 rfl Z6.out ?_) | (refine wpList_load_row rfl 74 (.tmp 4) rfl g rfl 74 V4 (0, 0) _ K4.out Try.underlying74 rfl O4.out.1 ?_) | (refine wpList_load_row rfl 74 (.tmp 4) rfl g rfl 74 V4 (0, 0) _ K4a.out Try.underlying74 rfl O4.out.1 ?_) | (refine wpList_store_row rfl 74 (.tmp 6) (.tmp 29) rfl gb V4 rfl rfl 74 V6 K6.out O4.out.1 O4.out.2.1 O4.out.2.2.1 ?_))
            refine (CO.out _).mono ?_
            rintro e wb ⟨rfl, hb⟩
            have K4b := Lib.hid (K4a.out.below hb K4a.out.lt)
            have K6b := Lib.hid (K6a.out.below hb K6a.out.lt)
            have Bb := Lib.hid (below_2 Ba.out hb)
            clear hb K4a K6a Ba K4 K6 B q1
            have K4c := Lib.hid (K4b.out.row V5)
            have K6c := Lib.hid (K6b.out.row_ne hgb.symm V5)
            have Bc := Lib.hid (Bb.out.trans (below_row hgw V5))
            obtain ⟨wc, hwc⟩ : ∃ wc, wb.setRow g V5 = wc := ⟨_, rfl⟩
            have HWC := Lib.hid hwc
            rw [hwc] at K4c K6c Bc
            have kz : Blk (wc.alloc (.cells #[.int .i64 0, .int .i64 0, .int .i64 0, .int .i64 0, .int .i64 0, .int .i64 0, .int .i64 0, .int .i64 0, .int .i64 0, .int .i64 0, .int .i64 0, .int .i64 0, .int .i64 0, .int .i64 0, .int .i64 0, .int .i64 0, .int .i64 0, .int .i64 0, .int .i64 0, .int .i64 0, .int .i64 0, .int .i64 0, .int .i64 0, .int .i64 0, .int .i64 0, .int .i64 0, .int .i64 0] 74)) wc.heap.size 74 #[.int .i64 0, .int .i64 0, .int .i64 0, .int .i64 0, .int .i64 0, .int .i64 0, .int .i64 0, .int .i64 0, .int .i64 0, .int .i64 0, .int .i64 0, .int .i64 0, .int .i64 0, .int .i64 0, .int .i64 0, .int .i64 0, .int .i64 0, .int .i64 0, .int .i64 0, .int .i64 0, .int .i64 0, .int .i64 0, .int .i64 0, .int .i64 0, .int .i64 0, .int .i64 0, .int .i64 0] := Blk.new wc 74 #[.int .i64 0, .int .i64 0, .int .i64 0, .int .i64 0, .int .i64 0, .int .i64 0, .int .i64 0, .int .i64 0, .int .i64 0, .int .i64 0, .int .i64 0, .int .i64 0, .int .i64 0, .int .i64 0, .int .i64 0, .int .i64 0, .int .i64 0, .int .i64 0, .int .i64 0, .int .i64 0, .int .i64 0, .int .i64 0, .int .i64 0, .int .i64 0, .int .i64 0, .int .i64 0, .int .i64 0]
            have hsz : wc.heap.size = wb.heap.size := by rw [← hwc]; simp
            have KZ : Hid (Blk ((wb.setRow g V5).alloc (.cells #[.int .i64 0, .int .i64 0, .int .i64 0, .int .i64 0, .int .i64 0, .int .i64 0, .int .i64 0, .int .i64 0, .int .i64 0, .int .i64 0, .int .i64 0, .int .i64 0, .int .i64 0, .int .i64 0, .int .i64 0, .int .i64 0, .int .i64 0, .int .i64 0, .int .i64 0, .int .i64 0, .int .i64 0, .int .i64 0, .int .i64 0, .int .i64 0, .int .i64 0, .int .i64 0, .int .i64 0] 74)) wb.heap.size 74 #[.int .i64 0, .int .i64 0, .int .i64 0, .int .i64 0, .int .i64 0, .int .i64 0, .int .i64 0, .int .i64 0, .int .i64 0, .int .i64 0, .int .i64 0, .int .i64 0, .int .i64 0, .int .i64 0, .int .i64 0, .int .i64 0, .int .i64 0, .int .i64 0, .int .i64 0, .int .i64 0, .int .i64 0, .int .i64 0, .int .i64 0, .int .i64 0, .int .i64 0, .int .i64 0, .int .i64 0]) := by
              rw [hwc, ← hsz]; exact Blk.new _ 74 #[.int .i64 0, .int .i64 0, .int .i64 0, .int .i64 0, .int .i64 0, .int .i64 0, .int .i64 0, .int .i64 0, .int .i64 0, .int .i64 0, .int .i64 0, .int .i64 0, .int .i64 0, .int .i64 0, .int .i64 0, .int .i64 0, .int .i64 0, .int .i64 0, .int .i64 0, .int .i64 0, .int .i64 0, .int .i64 0, .int .i64 0, .int .i64 0, .int .i64 0, .int .i64 0, .int .i64 0]
            have K6d : Hid (Blk ((wc.alloc (.cells #[.int .i64 0, .int .i64 0, .int .i64 0, .int .i64 0, .int .i64 0, .int .i64 0, .int .i64 0, .int .i64 0, .int .i64 0, .int .i64 0, .int .i64 0, .int .i64 0, .int .i64 0, .int .i64 0, .int .i64 0, .int .i64 0, .int .i64 0, .int .i64 0, .int .i64 0, .int .i64 0, .int .i64 0, .int .i64 0, .int .i64 0, .int .i64 0, .int .i64 0, .int .i64 0, .int .i64 0] 74)).setRow wc.heap.size V4) wc.heap.size 74 V4) := kz.row V4
            have K4d : Hid (Blk ((wc.alloc (.cells #[.int .i64 0, .int .i64 0, .int .i64 0, .int .i64 0, .int .i64 0, .int .i64 0, .int .i64 0, .int .i64 0, .int .i64 0, .int .i64 0, .int .i64 0, .int .i64 0, .int .i64 0, .int .i64 0, .int .i64 0, .int .i64 0, .int .i64 0, .int .i64 0, .int .i64 0, .int .i64 0, .int .i64 0, .int .i64 0, .int .i64 0, .int .i64 0, .int .i64 0, .int .i64 0, .int .i64 0] 74)).setRow wc.heap.size V4) g 74 V5) := (K4c.out.alloc _).row_ne (Nat.ne_of_lt K4c.out.lt) V4
            have Bd : Hid (Below w.heap.size w ((wc.alloc (.cells #[.int .i64 0, .int .i64 0, .int .i64 0, .int .i64 0, .int .i64 0, .int .i64 0, .int .i64 0, .int .i64 0, .int .i64 0, .int .i64 0, .int .i64 0, .int .i64 0, .int .i64 0, .int .i64 0, .int .i64 0, .int .i64 0, .int .i64 0, .int .i64 0, .int .i64 0, .int .i64 0, .int .i64 0, .int .i64 0, .int .i64 0, .int .i64 0, .int .i64 0, .int .i64 0, .int .i64 0] 74)).setRow wc.heap.size V4)) := (Bc.out.alloc Bc.out.size (.cells #[.int .i64 0, .int .i64 0, .int .i64 0, .int .i64 0, .int .i64 0, .int .i64 0, .int .i64 0, .int .i64 0, .int .i64 0, .int .i64 0, .int .i64 0, .int .i64 0, .int .i64 0, .int .i64 0, .int .i64 0, .int .i64 0, .int .i64 0, .int .i64 0, .int .i64 0, .int .i64 0, .int .i64 0, .int .i64 0, .int .i64 0, .int .i64 0, .int .i64 0, .int .i64 0, .int .i64 0] 74)).trans (below_row Bc.out.size V4)
            have hnd : g ≠ wc.heap.size := Nat.ne_of_lt K4c.out.lt
            have hwd : w.heap.size ≤ wc.heap.size := Bc.out.size
            have K6c' : Hid (Blk (wb.setRow g V5) gb 74 V4) := by show Blk _ _ _ _; rw [hwc]; exact K6c.out
            rw [hsz] at K6d K4d Bd hnd hwd
            clear kz hwc hsz
            go_wp2_with (first | (refine wpList_store_row rfl 74 (.tmp 4) (.tmp 32) rfl g V5 rfl rfl 74 V4 K4b.out O5.out.1 O5.out.2.1 O5.out.2.2 ?_) | (refine wpList_load_row rfl 74 (.tmp 6) rfl gb rfl 74 V4 (0, 0) _ K6c'.out Try.underlying74 rfl O4.out.1 ?_) | (refine wpList_store_row rfl 74 (.tmp 6) (.tmp 33) rfl wb.heap.size V4 rfl rfl 74 #[.int .i64 0, .int .i64 0, .int .i64 0, .int .i64 0, .int .i64 0, .int .i64 0, .int .i64 0, .int .i64 0, .int .i64 0, .int .i64 0, .int .i64 0, .int .i64 0, .int .i64 0, .int .i64 0, .int .i64 0, .int .i64 0, .int .i64 0, .int .i64 0, .int .i64 0, .int .i64 0, .int .i64 0, .int .i64 0, .int .i64 0, .int .i64 0, .int .i64 0, .int .i64 0, .int .i64 0] KZ.out O4.out.1 O4.out.2.2.2 O4.out.2.2.1 ?_))
            try rw [HWC.out]
            go_roundg gk'
            case measure => exact HLT.out
            case rel =>
              try rw [HWC.out]
              exact ⟨_, ro N.data.toList, N2, rfl, hnd, hwd, HC2, (by rw [HV4.out]; exact K6d), (by rw [HV5.out]; exact K4d), Bd⟩

end Go.Proofs.Ythdgheglmkhcbaa
