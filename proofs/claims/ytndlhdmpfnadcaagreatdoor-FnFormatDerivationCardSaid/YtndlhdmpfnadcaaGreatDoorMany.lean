/- A text, many times: how long it is. -/
import Derived.Test.YtndlhdmpfnadcaaGreatDoorVr
namespace Go.Proofs.YtndlhdmpfnadcaaGreatDoor
open Go.RowKit
open Pl

theorem many_odd {s n : Nat} (h : n % 2 = 1) : s + (s + s) * (n / 2) = s * n := by
  have e : n = 2 * (n / 2) + 1 := by omega
  generalize n / 2 = m at e
  subst e
  rw [Nat.mul_add, Nat.mul_one, ← Nat.two_mul, Nat.mul_assoc, Nat.mul_left_comm, Nat.add_comm]
theorem many_even {s n : Nat} (h : n % 2 = 0) : (s + s) * (n / 2) = s * n := by
  have e : n = 2 * (n / 2) := by omega
  generalize n / 2 = m at e
  subst e
  rw [← Nat.two_mul, Nat.mul_assoc, Nat.mul_left_comm]
theorem half_int (k : Nat) : ((k : Int) / 2) = ((k / 2 : Nat) : Int) := by omega
set_option maxHeartbeats 2000000 in
theorem many_any (S : ByteArray) (n : Nat) (z : Int) (hz : z = n) (hn : n ≤ 1000000000) (h : S.size * n ≤ 1000000000) (w : World) :
    Calls Tryz.prog 71 #[.string S, .int .i64 z] w fun e w' => ∃ T : ByteArray, T.size = S.size * n ∧ e = .returned (.string T) ∧ w = w' := by
  subst hz
  generalize hM : S.size * n = M at *
  go_enter Tryz.func71, Tryz.ntmps71
  go_wp2_with fail
  go_loop [0, 1, 5] (fun s i o => ∃ (k : Nat) (A T : ByteArray), k ≤ 1000000000 ∧ i = .int .i64 k ∧ s = .string A ∧ o = .string T ∧ Hid (T.size + A.size * k = M)) (fun _ i _ => (intOf i).toNat)
  case atStart => exact ⟨n, S, ⟨#[]⟩, hn, rfl, rfl, rfl, by show 0 + _ = _; omega⟩
  case round =>
    obtain ⟨k, A, T, hkn, rfl, rfl, rfl, HT⟩ := hrel
    by_cases hlt : 0 < k
    · have hA : A.size ≤ M := by
        have := HT.out
        have h1 : A.size * 1 ≤ A.size * k := Nat.mul_le_mul_left _ hlt
        omega
      have hT : T.size ≤ M := by have := HT.out; omega
      have t1 : A.size + A.size ≤ 9223372036854775807 := by omega
      have t2 : T.size + A.size ≤ 9223372036854775807 := by omega
      have HH := Lib.hid (half_int k)
      by_cases hk : k % 2 = 1
      · have q0 : ((k : Int) % 2 == 1) = true := by simp; omega
        have HR : Hid ((T ++ A).size + (A ++ A).size * (k / 2) = M) := by
          show _ = _
          rw [ByteArray.size_append, ByteArray.size_append, Nat.add_assoc, many_odd hk]
          exact HT.out
        clear hk HT
        go_wp2_with fail
        go_round
        case rel => exact ⟨k / 2, A ++ A, T ++ A, by omega, by first | rfl | rw [HH.out], rfl, rfl, HR⟩
        case measure => simp [intOf]; omega
      · have q0 : ((k : Int) % 2 == 1) = false := by simp; omega
        have HR : Hid (T.size + (A ++ A).size * (k / 2) = M) := by
          show _ = _
          rw [ByteArray.size_append, many_even (by omega)]
          exact HT.out
        clear hk HT
        go_wp2_with fail
        go_round
        case rel => exact ⟨k / 2, A ++ A, T, by omega, by first | rfl | rw [HH.out], rfl, rfl, HR⟩
        case measure => simp [intOf]; omega
    · obtain rfl : k = 0 := by omega
      have HE : Hid (T.size = M) := by have := HT.out; show _ = _; omega
      clear HT hlt
      go_wp2_with fail
      go_ret
      exact ⟨T, HE.out, rfl, rfl⟩

end Go.Proofs.YtndlhdmpfnadcaaGreatDoor
