/- The test that two states agree on variables, as the reference writes it. -/
import Derived.Test.YtccjmahhebiphaaDoorDrv
import Derived.Test.YtccjmahhebiphaaDoorSv
import Derived.Test.YtccjmahhebiphaaDoorGy
import Derived.Test.YtccjmahhebiphaaDoorGb
namespace Go.Proofs.YtccjmahhebiphaaDoor
open Go.RowKit
open Pl
set_option linter.unusedVariables false

/-! ### the test that two states agree on variables -/
def agN : List UInt8 → Nd
  | [] => .n0 116
  | c :: l => .n2 38 (.n2 61 (.n0 c) (.n0 (c - 32))) (agN l)
theorem agN_ok : ∀ {l : List UInt8}, (∀ c ∈ l, c ∈ nmsN) → ok true 1 (agN l) = true
  | [], _ => rfl
  | c :: l, h => by
    have h1 := agN_ok (l := l) (fun d hd => h d (by simp [hd]))
    have h2 : ok true 0 (.n0 c) = true ∧ ok true 0 (.n0 (c - 32)) = true := by rcases nms_cases (h c (by simp)) with rfl | rfl | rfl <;> exact ⟨rfl, rfl⟩
    exact con_two 38 (by simp) _ _ (cmp_two 61 (by simp) _ _ h2.1 h2.2) h1
theorem agN_text (c : UInt8) (l : List UInt8) : (agN (c :: l)).text = [38, 61] ++ [c] ++ [c - 32] ++ (agN l).text := by simp [agN, Nd.text]
theorem agN_len : ∀ l : List UInt8, (agN l).text.length = 4 * l.length + 1
  | [] => rfl
  | c :: l => by rw [agN_text]; simp [agN_len l]; omega
set_option maxRecDepth 100000 in
set_option maxHeartbeats 8000000 in
theorem l6Agree_any (S : ByteArray) (hS : S.size ≤ 1000) (hl : ∀ c ∈ S.data.toList, c ∈ nmsN) (w : World) : Calls Tryd.prog 103 #[.string S] w fun e w' => (e = .returned (.string (bs (agN S.data.toList).text)) ∧ Below w.heap.size w w') := by
  have HL := Lib.hid hl
  have B0 := Lib.hid (Below.refl w.heap.size w)
  have hsz := len_S S
  obtain ⟨RS, hRS⟩ : ∃ R, bs (agN S.data.toList).text = R := ⟨_, rfl⟩
  rw [hRS]
  have HRS := Lib.hid hRS
  clear hl hRS
  go_enter Tryd.func103, Tryd.ntmps103
  go_wp2_with fail
  go_loopg [3, 4] S.size (fun gk s3 s4 wr => ∃ (z : Int) (A : ByteArray), z + 1 = gk ∧ gk ≤ S.size ∧ s4 = .int .i64 z ∧ s3 = .string A ∧ Hid (A = bs (agN (S.data.toList.drop gk)).text) ∧ Hid (Below w.heap.size w wr))
  case atStart => exact ⟨_, _, by omega, Nat.le_refl _, rfl, rfl, (by show _ = _; rw [← hsz, List.drop_length]; rfl), B0⟩
  case round =>
    clear B0
    obtain ⟨z, A, hz, hle, rfl, rfl, HA, B⟩ := hrel
    by_cases h0 : gk = 0
    · subst h0
      have hzz : ¬ (0 ≤ z) := by omega
      have hf : A = RS := by rw [HA.out, List.drop_zero]; exact HRS.out
      subst hf
      clear HA HRS HL
      go_wp2_with fail
      go_ret
      exact ⟨rfl, B.out⟩
    · obtain ⟨j, rfl⟩ : ∃ j, gk = j + 1 := ⟨gk - 1, by omega⟩
      obtain rfl : z = (j : Int) := by omega
      have hlt : j < S.size := by omega
      have hjl : j < S.data.toList.length := by omega
      obtain ⟨c, hc⟩ : ∃ c, S.data.toList[j] = c := ⟨_, rfl⟩
      have hcm := HL.out c (by rw [← hc]; exact List.getElem_mem _)
      have hex : S.extract j (j + 1) = bs [c] := by
        refine extract_nd (l := [c]) (r := S.data.toList.drop (j + 1)) ?_ rfl
        rw [List.drop_eq_getElem_cons hjl, hc]; rfl
      have VN := Lib.hid (fun w => l1Var_any (bs [c]) (by rw [bs_size]; simp) w)
      have hvo : varNo (varOf (bs [c]).data.toList) = fnd nmsN c := by rw [bs_list, varOf_one hcm]; rfl
      rw [hvo] at VN
      have hdr : S.data.toList.drop j = c :: S.data.toList.drop (j + 1) := by rw [List.drop_eq_getElem_cons hjl, hc]
      have hnew : (⟨#[38, 61]⟩ : ByteArray) ++ bs [c] ++ bs [c - 32] ++ A = bs (agN (S.data.toList.drop j)).text := by
        rw [hdr, agN_text, HA.out, show (⟨#[38, 61]⟩ : ByteArray) = bs [38, 61] from rfl, bs_app, bs_app, bs_app]
      have HN := Lib.hid hnew
      have hAz : A.size ≤ 4000 := by rw [HA.out, bs_size, agN_len, List.length_drop]; omega
      have x1 : (⟨#[88, 89, 90]⟩ : ByteArray).extract 0 1 = bs [88] := by decide
      have x2 : (⟨#[88, 89, 90]⟩ : ByteArray).extract 1 2 = bs [89] := by decide
      have x3 : (⟨#[88, 89, 90]⟩ : ByteArray).extract 2 3 = bs [90] := by decide
      have xs : (⟨#[88, 89, 90]⟩ : ByteArray).size = 3 := rfl
      clear hvo hnew hdr hc HA hsz hjl hle hz
      rcases nms_cases hcm with rfl | rfl | rfl
      all_goals
        have e1 : fnd nmsN 120 = 0 := by decide
        have e2 : fnd nmsN 121 = 1 := by decide
        have e3 : fnd nmsN 122 = 2 := by decide
        first | rw [e1] at VN | rw [e2] at VN | rw [e3] at VN
        clear e1 e2 e3 hcm
        obtain ⟨T1, hT1⟩ : ∃ T, S.extract j (j + 1) = T := ⟨_, rfl⟩
        rw [hT1] at hex
        have s1 : T1.size = 1 := by rw [hex]; rfl
        rw [← hex] at VN HN
        clear hex
        have HN2 : Hid (∃ T2 : ByteArray, T2.size = 1 ∧ ((⟨#[88, 89, 90]⟩ : ByteArray).extract 0 1 = T2 ∨ (⟨#[88, 89, 90]⟩ : ByteArray).extract 1 2 = T2 ∨ (⟨#[88, 89, 90]⟩ : ByteArray).extract 2 3 = T2)) := ⟨bs [88], rfl, .inl x1⟩
        clear HN2
        have u1 : (bs [88]).size = 1 := rfl
        have u2 : (bs [89]).size = 1 := rfl
        have u3 : (bs [90]).size = 1 := rfl
        simp only [show (120 : UInt8) - 32 = 88 from rfl, show (121 : UInt8) - 32 = 89 from rfl, show (122 : UInt8) - 32 = 90 from rfl] at HN
        generalize bs [88] = U1 at *
        generalize bs [89] = U2 at *
        generalize bs [90] = U3 at *
        have z1 : ¬ (9223372036854775807 < 2 + T1.size) := by omega
        have z2 : ¬ (9223372036854775807 < 2 + T1.size + U1.size) := by omega
        have z3 : ¬ (9223372036854775807 < 2 + T1.size + U1.size + A.size) := by omega
        have z4 : ¬ (9223372036854775807 < 2 + T1.size + U2.size) := by omega
        have z5 : ¬ (9223372036854775807 < 2 + T1.size + U2.size + A.size) := by omega
        have z6 : ¬ (9223372036854775807 < 2 + T1.size + U3.size) := by omega
        have z7 : ¬ (9223372036854775807 < 2 + T1.size + U3.size + A.size) := by omega
        have j1 : (j : Int) + 1 ≤ (S.size : Int) := by omega
        have HB := Lib.hid B.out
        clear HRS HL
        go_wp2_with fail
        refine (VN.out _).mono ?_
        rintro e w1 ⟨rfl, rfl⟩
        go_wp2_with fail
        go_quiet (fail)
        go_wp2_with fail
        go_roundg j
        case measure => omega
        case rel => exact ⟨_, _, by omega, by omega, rfl, rfl, HN, Lib.hid (HB.out.trans (below_drewN _ _ _))⟩
end Go.Proofs.YtccjmahhebiphaaDoor
