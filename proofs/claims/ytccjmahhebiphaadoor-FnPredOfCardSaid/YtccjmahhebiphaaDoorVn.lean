/- NotPred of the reference. -/
import Derived.Test.YtccjmahhebiphaaDoorRx
import Derived.Test.YtccjmahhebiphaaDoorGx
namespace Go.Proofs.YtccjmahhebiphaaDoor
open Go.RowKit
open Pl

theorem cnt_compl (n : Nat) (f : Nat → Bool) : cnt n f + cnt n (fun i => !f i) = n := by
  induction n with
  | zero => rfl
  | succ n ih =>
    rw [cnt_succ, cnt_succ]
    cases f n <;> simp <;> omega
theorem not_not {P : ByteArray} (hp : bOk 27 P.data.toList = true) : bs (optB (notO (bs (optB (notO P))))) = P := by
  apply eq_of_bt (not_ok (not_ok hp)) hp
  intro i hi
  rw [bt_notO (not_ok hp) hi, bt_notO hp hi, Bool.not_not]
theorem winO_ok {P Q : ByteArray} (hp : bOk 27 P.data.toList = true) (hq : bOk 27 Q.data.toList = true) : winO P.data.toList Q.data.toList = true ↔ ∀ i, i < 27 → bt P.data.toList i = true → bt Q.data.toList i = true := by
  unfold winO
  rw [hp, hq, Bool.true_and, Bool.true_and, win_iff]
set_option maxHeartbeats 4000000 in
theorem NotPredS_any (P : ByteArray) (hP : P.size ≤ 1000000000000) (w : World) : Calls Tryd.prog 25 #[.string P] w fun e w' => (e = .returned (.tuple #[.string (bs (optB (notO P))), .bool (notO P).isSome]) ∧ Below w.heap.size w w') := by
  have PV := Lib.hid (fun w => PredValidS_any P hP w)
  cases hp : bOk 27 P.data.toList
  · have hr : notO P = none := by unfold notO; rw [hp]; rfl
    rw [hr]
    rw [hp] at PV
    simp only [optB, Option.isSome_none]
    go_enter Tryd.func25, Tryd.ntmps25
    go_wp2_with fail
    refine (PV.out _).mono ?_
    rintro e w' ⟨rfl, rfl⟩
    go_wp2_with fail
    go_ret2
    exact ⟨(by first | trivial | rfl), Below.refl _ _⟩
  · have hr : notO P = some (bitsN 27 (fun i => !bt P.data.toList i)) := by unfold notO; rw [hp]; rfl
    have hz := ok_size hp
    rw [hr]
    rw [hp] at PV
    have LN := Lib.hid (fun w => l2Not_any P hp (by omega) w)
    rw [hz] at LN
    simp only [optB, Option.isSome_some]
    clear hr hp
    go_enter Tryd.func25, Tryd.ntmps25
    go_wp2_with fail
    refine (PV.out _).mono ?_
    rintro e w' ⟨rfl, rfl⟩
    go_wp2_with fail
    refine (LN.out _).mono ?_
    rintro e w1 ⟨rfl, hb1⟩
    have B1 := Lib.hid hb1
    clear hb1
    go_wp2_with fail
    go_ret2
    exact ⟨(by first | trivial | rfl), B1.out⟩
end Go.Proofs.YtccjmahhebiphaaDoor
