/- The relation of a test of one of two states; whether a program is a single step. -/
import Derived.Test.YtndlhdmpfnadcaaGreatDoorPr
import Derived.Test.YtndlhdmpfnadcaaGreatDoorJs
import Derived.Test.YtndlhdmpfnadcaaGreatDoorMany
namespace Go.Proofs.YtndlhdmpfnadcaaGreatDoor
open Go.RowKit
open Pl
set_option linter.unusedVariables false

/-- a letter of the first state is one of the second -/
def upc (c : UInt8) : UInt8 := if 120 ≤ c ∧ c ≤ 122 then c - 32 else c
theorem upc_keeps : Keeps upc true true := by
  refine ⟨fun c h => ?_, fun c h => ?_⟩
  · rcases Pl.isV_cases h with rfl | rfl | rfl | rfl | rfl | rfl <;> decide
  · unfold upc
    rw [if_neg]
    intro hc
    have : isV true c = true := by simp [isV, hc.1, hc.2]
    rw [this] at h; cases h
theorem upc_test {k : Nd} (h : ok false 1 k = true) : ok true 1 (mapN upc k) = true := mapN_ok upc_keeps (by decide) (ok_wide h)
theorem upc_yes {c : UInt8} (h1 : 120 ≤ c.toNat) (h2 : c.toNat ≤ 122) : upc c = c - 32 ∧ (c - 32).toNat = c.toNat - 32 := by
  refine ⟨if_pos ⟨UInt8.le_iff_toNat_le.2 h1, UInt8.le_iff_toNat_le.2 h2⟩, ?_⟩
  rw [UInt8.toNat_sub_of_le _ _ (UInt8.le_iff_toNat_le.2 (by show 32 ≤ c.toNat; omega))]
  rfl
theorem upc_no {c : UInt8} (h : ¬ (120 ≤ c.toNat ∧ c.toNat ≤ 122)) : upc c = c := if_neg (fun hc => h ⟨by have := UInt8.le_iff_toNat_le.1 hc.1; simpa using this, by have := UInt8.le_iff_toNat_le.1 hc.2; simpa using this⟩)
set_option maxRecDepth 100000 in
set_option maxHeartbeats 8000000 in
theorem l7Case_any (S : ByteArray) (hS : S.size ≤ 1000000) (w : World) : Calls Tryz.prog 62 #[.string S, .bool false] w fun e w' => (e = .returned (.string (bs (S.data.toList.map upc))) ∧ Below w.heap.size w w') := by
  obtain ⟨cap1, w4, hrun1, r1, hb4⟩ := bytes_new w S
  have B4 := Lib.hid hb4
  have R1 : Hid (ByteRow w4 w.heap.size (prog upc 0 S.data.toList)) := by rw [prog_zero]; exact r1
  clear r1 hb4
  go_enter Tryz.func62, Tryz.ntmps62
  go_wp2_with fail
  go_loopg [6] S.size (fun gk i wr => ∃ j : Nat, j + gk = S.size ∧ i = .int .i64 j ∧ Hid (ByteRow wr w.heap.size (prog upc j S.data.toList)) ∧ Hid (Below w.heap.size w wr))
  case atStart => exact ⟨0, by omega, rfl, R1, B4⟩
  case round =>
    clear R1 B4
    obtain ⟨j, hj, rfl, R, B⟩ := hrel
    by_cases hlt : j < S.size
    · have hll : j < S.data.toList.length := by rw [len_S]; exact hlt
      obtain ⟨ch, hch⟩ : ∃ c, S.data.toList[j] = c := ⟨_, rfl⟩
      have hcs : S[j] = ch := hch
      have hlj : (j : Int) < (S.size : Int) := by omega
      by_cases h1 : 120 ≤ ch.toNat ∧ ch.toNat ≤ 122
      · obtain ⟨h1a, h1b⟩ := h1
        obtain ⟨hu, hv⟩ := upc_yes h1a h1b
        have hwr : ((ch.toNat : Int) - 32) = ((ch - 32).toNat : Int) := by omega
        have c1 := R.out.at_ (c := ch) (by rw [prog_len]; exact hll) (by rw [prog_get _ hll]; exact hch)
        have f1 := R.out.free j (by rw [prog_len]; exact hll)
        have hput := R.out.put (i := j) (by rw [prog_len]; exact hll) (upc S.data.toList[j])
        rw [prog_put _ hll, hch, hu] at hput
        have R2 := Lib.hid hput
        have B2 := Lib.hid (B.out.setCell (p := ⟨w.heap.size, j, none⟩) (Nat.le_refl _) (.int .u8 ((ch - 32).toNat : Int)))
        have g1 : (120 : Int) ≤ (ch.toNat : Int) := by omega
        have g2 : (ch.toNat : Int) ≤ 122 := by omega
        clear hput hch hu hv R B
        go_wp2_with fail
        all_goals go_roundg (gk - 1)
        all_goals first | (case measure => omega) | (case rel => exact ⟨j + 1, by omega, by go_num, R2, B2⟩)
      · have R2 : Hid (ByteRow wr w.heap.size (prog upc (j + 1) S.data.toList)) := by
          rw [prog_skip _ hll (by rw [hch]; exact upc_no h1)]; exact R.out
        clear R hch
        go_wp2_with fail
        all_goals first | omega | skip
        all_goals go_roundg (gk - 1)
        all_goals first | (exact ⟨j + 1, by omega, by go_num, R2, B⟩) | omega
    · obtain rfl : j = S.size := by omega
      have r2 := R.out
      rw [Pl.prog_all _ (by rw [len_S]; exact Nat.le_refl _)] at r2
      have hback := bytes_back r2 (n := S.size) (by rw [List.length_map, len_S]) cap1
      clear R r2
      go_wp2_with fail
      go_ret
      exact ⟨rfl, B.out⟩
/-- only noughts -/
def Nz (l : List UInt8) : Prop := ∀ c ∈ l, c = 48
theorem Nz.app {A B : ByteArray} (hA : Nz A.data.toList) (hB : Nz B.data.toList) : Nz (A ++ B).data.toList := by
  intro c hc
  rw [ByteArray.data_append, Array.toList_append, List.mem_append] at hc
  rcases hc with h | h
  · exact hA c h
  · exact hB c h
set_option maxHeartbeats 2000000 in
theorem many_noughts (w : World) :
    Calls Tryz.prog 71 #[.string ⟨#[48]⟩, .int .i64 729] w fun e w' => ∃ T : ByteArray, bOk 729 T.data.toList = true ∧ e = .returned (.string T) ∧ w = w' := by
  have hfin : ∀ T : ByteArray, T.size = 729 → Nz T.data.toList → bOk 729 T.data.toList = true := by
    intro T hz hT
    simp only [bOk, Bool.and_eq_true, beq_iff_eq, List.all_eq_true]
    refine ⟨by rw [len_S, hz], fun c hc => ?_⟩
    rw [hT c hc]; rfl
  have HFIN := Lib.hid hfin
  clear hfin
  obtain ⟨Z0, hZ0, hNz⟩ : ∃ Z : ByteArray, ⟨#[48]⟩ = Z ∧ (Z.size = 1 ∧ Nz Z.data.toList) := ⟨_, rfl, rfl, by intro c hc; simpa using hc⟩
  rw [hZ0]
  obtain ⟨hz1, hz2⟩ := hNz
  have HZ2 := Lib.hid hz2
  clear hz2 hZ0
  go_enter Tryz.func71, Tryz.ntmps71
  go_wp2_with fail
  go_loop [0, 1, 5] (fun s i o => ∃ (k : Nat) (A T : ByteArray), k ≤ 729 ∧ i = .int .i64 k ∧ s = .string A ∧ o = .string T ∧ Hid (T.size + A.size * k = 729) ∧ Hid (Nz A.data.toList) ∧ Hid (Nz T.data.toList)) (fun _ i _ => (intOf i).toNat)
  case atStart => exact ⟨729, Z0, ⟨#[]⟩, by omega, rfl, rfl, rfl, by show 0 + _ = _; omega, HZ2, Lib.hid (by intro c hc; simp at hc)⟩
  case round =>
    obtain ⟨k, A, T, hkn, rfl, rfl, rfl, HT, ZA, ZT⟩ := hrel
    by_cases hlt : 0 < k
    · have hA : A.size ≤ 729 := by
        have := HT.out
        have h1 : A.size * 1 ≤ A.size * k := Nat.mul_le_mul_left _ hlt
        omega
      have hT : T.size ≤ 729 := by have := HT.out; omega
      have t1 : A.size + A.size ≤ 9223372036854775807 := by omega
      have t2 : T.size + A.size ≤ 9223372036854775807 := by omega
      have HH := Lib.hid (half_int k)
      have ZAA := Lib.hid (ZA.out.app ZA.out)
      by_cases hk : k % 2 = 1
      · have q0 : ((k : Int) % 2 == 1) = true := by simp; omega
        have HR : Hid ((T ++ A).size + (A ++ A).size * (k / 2) = 729) := by
          show _ = _
          rw [ByteArray.size_append, ByteArray.size_append, Nat.add_assoc, many_odd hk]
          exact HT.out
        have ZTA := Lib.hid (ZT.out.app ZA.out)
        clear hk HT ZA ZT
        go_wp2_with fail
        go_round
        case rel => exact ⟨k / 2, A ++ A, T ++ A, by omega, by first | rfl | rw [HH.out], rfl, rfl, HR, ZAA, ZTA⟩
        case measure => simp [intOf]; omega
      · have q0 : ((k : Int) % 2 == 1) = false := by simp; omega
        have HR : Hid (T.size + (A ++ A).size * (k / 2) = 729) := by
          show _ = _
          rw [ByteArray.size_append, many_even (by omega)]
          exact HT.out
        clear hk HT ZA
        go_wp2_with fail
        go_round
        case rel => exact ⟨k / 2, A ++ A, T, by omega, by first | rfl | rw [HH.out], rfl, rfl, HR, ZAA, ZT⟩
        case measure => simp [intOf]; omega
    · obtain rfl : k = 0 := by omega
      have hT : T.size = 729 := by have := HT.out; omega
      have HL := Lib.hid (HFIN.out T hT ZT.out)
      clear HT ZA ZT hT
      go_wp2_with fail
      go_ret
      exact ⟨T, HL.out, rfl, rfl⟩
set_option maxHeartbeats 4000000 in
theorem l9Test_any (S : ByteArray) (hS : S.size ≤ 1000000) (k : Nd) (hk : ok false 1 k = true) (ht : S.data.toList = k.text) (r : Bool) (w : World) : Calls Tryz.prog 38 #[.string S, .bool r] w fun e w' => ∃ T : ByteArray, bOk 729 T.data.toList = true ∧ e = .returned (.string T) ∧ Below w.heap.size w w' := by
  have B0 := Lib.hid (Below.refl w.heap.size w)
  cases r
  · have OF := Lib.hid (fun w => l6Of_any S hS k (ok_wide hk) ht w)
    have TX := Lib.hid (fun w => l6TextR_any (relB k) w)
    have HK := Lib.hid (rt_bokP (relB k))
    generalize rt (relB k) = tx at *
    generalize rowV (relB k) = V at *
    clear hk ht
    go_enter Tryz.func38, Tryz.ntmps38
    go_wp2_with fail
    refine (OF.out _).mono ?_
    rintro e w1 ⟨rfl, hb1⟩
    have B1 := Lib.hid (below_2 B0.out hb1)
    clear hb1
    go_wp2_with fail
    refine (TX.out _).mono ?_
    rintro e w2 ⟨rfl, hb2⟩
    have B2 := Lib.hid (below_2 B1.out hb2)
    clear hb2
    go_wp2_with fail
    go_ret
    exact ⟨_, HK.out, rfl, B2.out⟩
  · have CS := Lib.hid (fun w => l7Case_any S hS w)
    have ht2 : (bs (S.data.toList.map upc)).data.toList = (mapN upc k).text := by rw [bs_list, ht, mapN_text]
    have hz2 : (bs (S.data.toList.map upc)).size ≤ 1000000 := by rw [bs_size, List.length_map, len_S]; exact hS
    have OF := Lib.hid (fun w => l6Of_any (bs (S.data.toList.map upc)) hz2 (mapN upc k) (upc_test hk) ht2 w)
    have TX := Lib.hid (fun w => l6TextR_any (relB (mapN upc k)) w)
    have HK := Lib.hid (rt_bokP (relB (mapN upc k)))
    generalize rt (relB (mapN upc k)) = tx at *
    generalize rowV (relB (mapN upc k)) = V at *
    generalize bs (S.data.toList.map upc) = U at *
    clear hk ht ht2 hz2
    go_enter Tryz.func38, Tryz.ntmps38
    go_wp2_with fail
    refine (CS.out _).mono ?_
    rintro e w0 ⟨rfl, hb0⟩
    have B1 := Lib.hid (below_2 B0.out hb0)
    clear hb0
    go_wp2_with fail
    refine (OF.out _).mono ?_
    rintro e w1 ⟨rfl, hb1⟩
    have B2 := Lib.hid (below_2 B1.out hb1)
    clear hb1
    go_wp2_with fail
    refine (TX.out _).mono ?_
    rintro e w2 ⟨rfl, hb2⟩
    have B3 := Lib.hid (below_2 B2.out hb2)
    clear hb2
    go_wp2_with fail
    go_ret
    exact ⟨_, HK.out, rfl, B3.out⟩
theorem l9Small_any (S : ByteArray) (hS : 1 ≤ S.size) (w : World) : Calls Tryz.prog 45 #[.string S] w fun e w' => e = .returned (.bool (S[0] == 115 || S[0] == 97)) ∧ w = w' := by
  obtain ⟨c, hc⟩ : ∃ c, S[0] = c := ⟨_, rfl⟩
  rw [hc]
  by_cases h1 : c = 115
  · subst h1
    go_enter Tryz.func45, Tryz.ntmps45
    go_wp2_with fail
    go_ret
    exact ⟨rfl, rfl⟩
  · have e1 := u8_ne 115 h1 (by decide)
    simp only [Int.cast_ofNat_Int] at e1
    have f1 : (c == 115) = false := by simpa using h1
    rw [f1]
    by_cases h2 : c = 97
    · subst h2
      go_enter Tryz.func45, Tryz.ntmps45
      go_wp2_with fail
      go_ret
      exact ⟨rfl, rfl⟩
    · have e2 := u8_ne 97 h2 (by decide)
      simp only [Int.cast_ofNat_Int] at e2
      have f2 : (c == 97) = false := by simpa using h2
      rw [f2]
      clear h1 h2 f1 f2
      go_enter Tryz.func45, Tryz.ntmps45
      go_wp2_with fail
      go_ret
      exact ⟨rfl, rfl⟩
end Go.Proofs.YtndlhdmpfnadcaaGreatDoor
