/- RelOf of the reference. -/
import Derived.Test.YtccjmahhebiphaaDoorRr
import Derived.Test.YtccjmahhebiphaaDoorRo
namespace Go.Proofs.YtccjmahhebiphaaDoor
open Go.RowKit
open Pl

set_option maxRecDepth 100000 in
set_option maxHeartbeats 4000000 in
theorem RelOfS_any (S : ByteArray) (hS : S.size ≤ 1000000000000) (w : World) : Calls Tryd.prog 102 #[.string S] w fun e w' => (e = .returned (.tuple #[.string (bs (optB ((whole true 1 200 S.data.toList).map relOf))), .bool ((whole true 1 200 S.data.toList).map relOf).isSome]) ∧ Below w.heap.size w w') := by
  have R := Lib.hid (WideValidS_any S w hS)
  cases ho : whole true 1 200 S.data.toList with
  | none =>
    rw [ho] at R
    clear ho
    simp only [Option.map_none, optB, Option.isSome_none] at R ⊢
    go_enter Tryd.func102, Tryd.ntmps102
    go_wp2_with fail
    refine R.out.mono ?_
    rintro e w1 ⟨rfl, m, rfl⟩
    go_wp2_with fail
    go_ret2
    exact ⟨(by first | trivial | rfl), below_drewN _ _ m⟩
  | some k =>
    rw [ho] at R
    obtain ⟨hl, hk, ht⟩ := (whole_iff (by omega)).1 ho
    simp only [Option.map_some, optB, Option.isSome_some] at R ⊢
    have hz : S.size ≤ 1000 := by rw [← len_S]; omega
    have LO := Lib.hid (fun w => l6Of_any S (by omega) k hk ht w)
    have LT := Lib.hid (fun w => l6Text_any (relB k) w)
    rw [← relOf_flat] at LT
    obtain ⟨RO, hRO⟩ : ∃ r, relOf k = r := ⟨_, rfl⟩
    rw [hRO] at LT
    rw [hRO]
    obtain ⟨V, hV⟩ : ∃ r, rowV (relB k) = r := ⟨_, rfl⟩
    rw [hV] at LO LT
    clear ho hk ht hl hz hRO hV
    go_enter Tryd.func102, Tryd.ntmps102
    go_wp2_with fail
    refine R.out.mono ?_
    rintro e w1 ⟨rfl, m, rfl⟩
    go_wp2_with fail
    refine (LO.out _).mono ?_
    rintro e w2 ⟨rfl, hb2⟩
    have B2 := Lib.hid ((below_drewN w.heap.size w m).trans hb2)
    clear hb2
    go_wp2_with fail
    refine (LT.out _).mono ?_
    rintro e w3 ⟨rfl, hb3⟩
    have B3 := Lib.hid (below_2 B2.out hb3)
    clear hb3
    go_wp2_with fail
    go_ret2
    exact ⟨(by first | trivial | rfl), B3.out⟩

end Go.Proofs.YtccjmahhebiphaaDoor
