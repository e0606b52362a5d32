/- Drawn arguments of FoldTest; ppSet. -/
import Derived.Test.YtppcghklkldnaabDrv
import Derived.Test.YtppcghklkldnaabDrd
import Derived.Test.YtppcghklkldnaabDrg
import Derived.Test.YtppcghklkldnaabFt
import Derived.Test.YtppcghklkldnaabBi
import Derived.Test.YtppcghklkldnaabPp
import Derived.Test.YtppcghklkldnaabPlp
import Derived.Test.YtppcghklkldnaabRs
namespace Go.Proofs.Ytppcghklkldnaab
open Go.RowKit
open Pl

theorem x_v : ∀ c ∈ (⟨#[120]⟩ : ByteArray).data.toList, isV false c = true := by
  intro c hc
  simp only [List.mem_cons, List.not_mem_nil, or_false] at hc
  subst hc; rfl
theorem e_v : ∀ c ∈ (⟨#[]⟩ : ByteArray).data.toList, isV false c = true := by
  intro c hc
  exact absurd hc (by simp)
set_option maxHeartbeats 4000000 in
theorem DrawFoldTest_any (A : Option Addr) (n cap : Nat) (w : World) (hn : n ≤ 4000000000000) (hc : n ≤ cap) (h : Bytes w A n w.heap.size) :
    Calls Try.prog 34 #[.slice A n cap] w fun e w' => ∃ S : ByteArray, S.size ≤ 5000 ∧ e = .returned (.string S) ∧ Below w.heap.size w w' := by
  have O := Lib.hid (open_ex A n cap w hn hc h)
  clear h
  go_enter Try.func34, Try.ntmps34
  go_wp2_with fail
  refine O.out.mono ?_
  rintro e w0 ⟨g, hg0, rfl, hr0, hb0⟩
  have R0 := Lib.hid hr0
  have G0 : Hid (w.grownBy w0 (some g)) := Lib.hid (grown_of_below hb0 _)
  clear hr0 hb0 O
  go_wp2_with fail
  refine (pick_any g 0 2 w0 (by omega) (by omega) R0.out).mono ?_
  rintro e w1 ⟨v1, ⟨va1, vb1, _⟩, rfl, hg1, q1, qa1, qb1, hr1⟩
  have R1 := Lib.hid hr1
  have G1 := Lib.hid (grown_trans G0.out hg1)
  clear vb1 hr1 hg1
  have c3 : cstT 3 = 4096 := rfl
  have c2 : cstT 2 = 1024 := rfl
  by_cases hv : v1 = 0
  · subst hv
    have DT := Lib.hid (drawTestN_any false ⟨#[120]⟩ x_v (by decide) g 3 q1 3 w1 rfl (by omega) (by omega) R1.out)
    go_wp2_with fail
    refine DT.out.mono ?_
    rintro e w2 ⟨S, _, s1, s2, rfl, hg2, _⟩
    have G2 := Lib.hid (grown_trans G1.out hg2)
    clear hg2 DT
    go_wp2_with fail
    go_ret
    exact ⟨S, by omega, rfl, below_src G2.out hg0⟩
  · have hv' : (v1 == 0) = false := by simp; exact hv
    have DT := Lib.hid (drawTestN_any false ⟨#[]⟩ e_v (by decide) g 2 q1 2 w1 rfl (by omega) (by omega) R1.out)
    clear hv
    go_wp2_with fail
    refine DT.out.mono ?_
    rintro e w2 ⟨S, _, s1, s2, rfl, hg2, q2, qa2, qb2, hr2⟩
    have R2 := Lib.hid hr2
    have G2 := Lib.hid (grown_trans G1.out hg2)
    clear hg2 hr2 DT
    have X := Lib.hid (bad_any S g q2 w2 s1 (by omega) (by omega) R2.out)
    go_wp2_with fail
    refine X.out.mono ?_
    rintro e w3 ⟨S3, z3, rfl, hg3, _⟩
    have G3 := Lib.hid (grown_trans G2.out hg3)
    clear hg3
    go_wp2_with fail
    go_ret
    exact ⟨S3, by omega, rfl, below_src G3.out hg0⟩
set_option maxHeartbeats 1000000 in
theorem ppSet_any (S : ByteArray) (hS : S.size ≤ 1000000000000) (w : World) : Calls Try.prog 38 #[.string S] w fun e w' => (e = .returned (.string (bs (optB ((whole false 1 200 S.data.toList).map predOf)))) ∧ Below w.heap.size w w') := by
  have X := Lib.hid (PredOf_any S hS w)
  go_enter Try.func38, Try.ntmps38
  go_wp2_with fail
  refine X.out.mono ?_
  rintro e w1 ⟨rfl, hb1⟩
  have B1 := Lib.hid hb1
  clear hb1 X
  go_wp2_with fail
  go_ret
  exact ⟨rfl, B1.out⟩

end Go.Proofs.Ytppcghklkldnaab
