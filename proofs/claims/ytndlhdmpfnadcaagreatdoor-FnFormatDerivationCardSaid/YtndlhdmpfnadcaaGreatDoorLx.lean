/- The decimal numeral of any machine number, the reference's. -/
import Derived.Test.YtndlhdmpfnadcaaGreatDoorGc
import Derived.Test.YtndlhdmpfnadcaaGreatDoorGb
import Derived.Lib.ItoaNum
namespace Go.Proofs.YtndlhdmpfnadcaaGreatDoor
open Go.RowKit
open Pl
set_option linter.unusedVariables false

theorem dec_lo {u : Nat} (h : u < 10) : Lib.decDigits u = [UInt8.ofNat (48 + u)] := by rw [Lib.decDigits, dif_pos h]
theorem dec_hi {u : Nat} (h : ¬ u < 10) : Lib.decDigits u = Lib.decDigits (u / 10) ++ [UInt8.ofNat (48 + u % 10)] := by rw [Lib.decDigits, dif_neg h]
theorem dec_len : ∀ (k u : Nat), u < 10 ^ (k + 1) → (Lib.decDigits u).length ≤ k + 1
  | 0, u, h => by rw [dec_lo (by simpa using h)]; simp
  | k + 1, u, h => by
    by_cases h1 : u < 10
    · rw [dec_lo h1]; simp
    · rw [dec_hi h1, List.length_append]
      have := dec_len k (u / 10) (by rw [Nat.pow_succ] at h; omega)
      simp
      omega
theorem dec_len19 {u : Nat} (h : u ≤ 9223372036854775808) : (Lib.decDigits u).length ≤ 19 := dec_len 18 u (by simp; omega)
theorem itoa_nat (m : Nat) : Lib.itoa (m : Int) = Lib.decDigits m := by
  unfold Lib.itoa
  rw [if_neg (by omega)]
  rfl
theorem itoa_neg {m : Nat} (h : 0 < m) : Lib.itoa (-(m : Int)) = 45 :: Lib.decDigits m := by
  unfold Lib.itoa
  rw [if_pos (by omega)]
  congr 2
  omega
theorem itoa_len {n : Int} (h0 : -9223372036854775808 ≤ n) (h1 : n ≤ 9223372036854775807) : (Lib.itoa n).length ≤ 20 := by
  unfold Lib.itoa
  split
  · have := dec_len19 (u := n.natAbs) (by omega)
    simp
    omega
  · have := dec_len19 (u := n.toNat) (by omega)
    omega
theorem itoa_min : bs (Lib.itoa (-9223372036854775808)) = ⟨#[45, 57, 50, 50, 51, 51, 55, 50, 48, 51, 54, 56, 53, 52, 55, 55, 53, 56, 48, 56]⟩ := by
  have h : Lib.itoa (-9223372036854775808) = [45, 57, 50, 50, 51, 51, 55, 50, 48, 51, 54, 56, 53, 52, 55, 55, 53, 56, 48, 56] := by
    have e := itoa_neg (m := 9223372036854775808) (by omega)
    rw [show (-9223372036854775808 : Int) = -((9223372036854775808 : Nat) : Int) from rfl, e]
    simp [Lib.decDigits]
    try decide
  rw [h]
  rfl
set_option maxRecDepth 100000 in
set_option maxHeartbeats 4000000 in
theorem dec_nat (m : Nat) (hm : m ≤ 9223372036854775807) (w : World) :
    Calls Tryz.prog 10 #[.int .i64 (m : Int)] w fun e w' => (e = .returned (.string (bs (Lib.decDigits m))) ∧ Below w.heap.size w w') := by
  have HL := Lib.hid (dec_len19 (u := m) (by omega))
  obtain ⟨DD, hDD⟩ : ∃ d, Lib.decDigits m = d := ⟨_, rfl⟩
  rw [hDD] at HL
  rw [hDD]
  have HDD := Lib.hid hDD
  obtain ⟨RS, hRS⟩ : ∃ r, bs DD = r := ⟨_, rfl⟩
  rw [hRS]
  have HRS := Lib.hid hRS
  clear hRS
  have B0 := Lib.hid (Below.refl w.heap.size w)
  clear hDD
  have g1 : decide ((m : Int) < -9223372036854775807) = false := decide_eq_false (by omega)
  have g2 : decide ((m : Int) < 0) = false := decide_eq_false (by omega)
  go_enter Tryz.func10, Tryz.ntmps10
  go_wp2_with fail
  clear g1 g2
  go_loopg [0, 3] m (fun gk n o wr => ∃ (T : ByteArray), gk ≤ 9223372036854775807 ∧ n = .int .i64 (gk : Int) ∧ o = .string T ∧ Hid (DD = Lib.decDigits gk ++ T.data.toList) ∧ Hid (Below w.heap.size w wr))
  case atStart => exact ⟨⟨#[]⟩, hm, rfl, rfl, Lib.hid (by rw [HDD.out]; simp), B0⟩
  case round =>
    clear B0 hm HDD
    obtain ⟨T, hk, rfl, rfl, HT, B⟩ := hrel
    have hTz : T.size ≤ 19 := by
      have := HL.out
      rw [HT.out, List.length_append, len_S] at this
      omega
    have t1 : 1 + T.size ≤ 9223372036854775807 := by omega
    by_cases hlt : gk < 10
    · have g3 : decide (9 < (gk : Int)) = false := decide_eq_false (by omega)
      have g4 : (gk : Int) ≤ 9 := by omega
      have g5 : 0 ≤ (gk : Int) := by omega
      have hr : RS = (⟨#[UInt8.ofNat (48 + gk)]⟩ : ByteArray) ++ T := by
        rw [← HRS.out, HT.out, dec_lo hlt, ← bs_app, bs_of]
        rfl
      have kc := conv_one (48 + (gk : Int)) wr
      rw [show UInt8.ofNat (48 + (gk : Int)).toNat = UInt8.ofNat (48 + gk) by congr 1] at kc
      clear HT HL HRS
      generalize hD : (⟨#[UInt8.ofNat (48 + gk)]⟩ : ByteArray) = D at *
      have hDz : D.size = 1 := by rw [← hD]; rfl
      have t2 : D.size + T.size ≤ 9223372036854775807 := by omega
      clear hD
      have HR := Lib.hid hr
      clear hr
      go_wp2_with fail
      go_ret
      exact ⟨by rw [HR.out]; rfl, B.out.alloc B.out.size _⟩
    · have g3 : decide (9 < (gk : Int)) = true := decide_eq_true (by omega)
      have HN : Hid (DD = Lib.decDigits (gk / 10) ++ ((⟨#[UInt8.ofNat (48 + gk % 10)]⟩ : ByteArray) ++ T).data.toList) := by
        show _ = _
        rw [HT.out, dec_hi hlt, ByteArray.data_append]
        simp
      have kc := conv_one (48 + ((gk : Int) % 10)) wr
      rw [show UInt8.ofNat (48 + ((gk : Int) % 10)).toNat = UInt8.ofNat (48 + gk % 10) by congr 1] at kc
      have HDIV := Lib.hid (show ((gk : Int) / 10) = ((gk / 10 : Nat) : Int) by omega)
      clear HT HL
      generalize hD : (⟨#[UInt8.ofNat (48 + gk % 10)]⟩ : ByteArray) = D at *
      have hDz : D.size = 1 := by rw [← hD]; rfl
      have t2 : D.size + T.size ≤ 9223372036854775807 := by omega
      clear hD
      go_wp2_with fail
      go_roundg (gk / 10)
      case measure => omega
      case rel => exact ⟨D ++ T, by omega, by first | rfl | rw [HDIV.out], rfl, HN, Lib.hid (B.out.alloc B.out.size _)⟩
theorem dec_any (n : Int) (h0 : -9223372036854775808 ≤ n) (h1 : n ≤ 9223372036854775807) (w : World) :
    Calls Tryz.prog 10 #[.int .i64 n] w fun e w' => (e = .returned (.string (bs (Lib.itoa n))) ∧ Below w.heap.size w w') := by
  by_cases hn : 0 ≤ n
  · obtain ⟨m, rfl⟩ : ∃ m : Nat, n = m := ⟨n.toNat, by omega⟩
    rw [itoa_nat]
    exact dec_nat m (by omega) w
  · by_cases hm : n = -9223372036854775808
    · subst hm
      rw [itoa_min]
      go_enter Tryz.func10, Tryz.ntmps10
      go_wp2_with fail
      go_ret
      exact ⟨rfl, Below.refl _ _⟩
    · obtain ⟨m, rfl⟩ : ∃ m : Nat, n = -(m : Int) := ⟨(-n).toNat, by omega⟩
      have DN := Lib.hid (fun w => dec_nat m (by omega) w)
      have hr : bs (Lib.itoa (-(m : Int))) = (⟨#[45]⟩ : ByteArray) ++ bs (Lib.decDigits m) := by
        rw [itoa_neg (by omega), show (⟨#[45]⟩ : ByteArray) = bs [45] from rfl, bs_app]
        rfl
      have hz : (bs (Lib.decDigits m)).size ≤ 19 := by rw [bs_size]; exact dec_len19 (by omega)
      rw [hr]
      have g1 : decide (-(m : Int) < -9223372036854775807) = false := decide_eq_false (by omega)
      have g2 : decide (-(m : Int) < 0) = true := decide_eq_true (by omega)
      generalize bs (Lib.decDigits m) = D at *
      have t1 : 1 + D.size ≤ 9223372036854775807 := by omega
      clear hr
      go_enter Tryz.func10, Tryz.ntmps10
      go_wp2_with fail
      refine (DN.out _).mono ?_
      rintro e w1 ⟨rfl, hb1⟩
      have B1 := Lib.hid hb1
      clear hb1
      go_wp2_with fail
      go_ret
      exact ⟨rfl, B1.out⟩
end Go.Proofs.YtndlhdmpfnadcaaGreatDoor
