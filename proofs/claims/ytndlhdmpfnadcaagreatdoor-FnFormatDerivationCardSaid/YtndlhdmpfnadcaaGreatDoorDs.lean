/- Drawn relations. -/
import Derived.Test.YtndlhdmpfnadcaaGreatDoorGp
import Derived.Test.YtndlhdmpfnadcaaGreatDoorDrq
import Derived.Test.YtndlhdmpfnadcaaGreatDoorRt
import Derived.Test.YtndlhdmpfnadcaaGreatDoorMt
import Derived.Test.YtndlhdmpfnadcaaGreatDoorGx
namespace Go.Proofs.YtndlhdmpfnadcaaGreatDoor
open Go.RowKit
open Pl
set_option linter.unusedVariables false

/-! ### the test that two states agree on variables -/
def agN : List UInt8 → Nd
  | [] => .n0 116
  | c :: l => .n2 38 (.n2 61 (.n0 c) (.n0 (c - 32))) (agN l)
theorem agN_ok : ∀ {l : List UInt8}, (∀ c ∈ l, c ∈ nmsN) → ok true 1 (agN l) = true
  | [], _ => rfl
  | c :: l, h => by
    have h1 := agN_ok (l := l) (fun d hd => h d (by simp [hd]))
    have h2 : ok true 0 (.n0 c) = true ∧ ok true 0 (.n0 (c - 32)) = true := by rcases nms_cases (h c (by simp)) with rfl | rfl | rfl <;> exact ⟨rfl, rfl⟩
    exact con_two 38 (by simp) _ _ (cmp_two 61 (by simp) _ _ h2.1 h2.2) h1
theorem agN_text (c : UInt8) (l : List UInt8) : (agN (c :: l)).text = [38, 61] ++ [c] ++ [c - 32] ++ (agN l).text := by simp [agN, Nd.text]
theorem agN_len : ∀ l : List UInt8, (agN l).text.length = 4 * l.length + 1
  | [] => rfl
  | c :: l => by rw [agN_text]; simp [agN_len l]; omega
set_option maxRecDepth 100000 in
set_option maxHeartbeats 8000000 in
theorem l6Agree_any (S : ByteArray) (hS : S.size ≤ 1000) (hl : ∀ c ∈ S.data.toList, c ∈ nmsN) (w : World) : Calls Tryz.prog 49 #[.string S] w fun e w' => (e = .returned (.string (bs (agN S.data.toList).text)) ∧ Below w.heap.size w w') := by
  have HL := Lib.hid hl
  have B0 := Lib.hid (Below.refl w.heap.size w)
  have hsz := len_S S
  obtain ⟨RS, hRS⟩ : ∃ R, bs (agN S.data.toList).text = R := ⟨_, rfl⟩
  rw [hRS]
  have HRS := Lib.hid hRS
  clear hl hRS
  go_enter Tryz.func49, Tryz.ntmps49
  go_wp2_with fail
  go_loopg [3, 4] S.size (fun gk s3 s4 wr => ∃ (z : Int) (A : ByteArray), z + 1 = gk ∧ gk ≤ S.size ∧ s4 = .int .i64 z ∧ s3 = .string A ∧ Hid (A = bs (agN (S.data.toList.drop gk)).text) ∧ Hid (Below w.heap.size w wr))
  case atStart => exact ⟨_, _, by omega, Nat.le_refl _, rfl, rfl, (by show _ = _; rw [← hsz, List.drop_length]; rfl), B0⟩
  case round =>
    clear B0
    obtain ⟨z, A, hz, hle, rfl, rfl, HA, B⟩ := hrel
    by_cases h0 : gk = 0
    · subst h0
      have hzz : ¬ (0 ≤ z) := by omega
      have hf : A = RS := by rw [HA.out, List.drop_zero]; exact HRS.out
      subst hf
      clear HA HRS HL
      go_wp2_with fail
      go_ret
      exact ⟨rfl, B.out⟩
    · obtain ⟨j, rfl⟩ : ∃ j, gk = j + 1 := ⟨gk - 1, by omega⟩
      obtain rfl : z = (j : Int) := by omega
      have hlt : j < S.size := by omega
      have hjl : j < S.data.toList.length := by omega
      obtain ⟨c, hc⟩ : ∃ c, S.data.toList[j] = c := ⟨_, rfl⟩
      have hcm := HL.out c (by rw [← hc]; exact List.getElem_mem _)
      have hex : S.extract j (j + 1) = bs [c] := by
        refine extract_nd (l := [c]) (r := S.data.toList.drop (j + 1)) ?_ rfl
        rw [List.drop_eq_getElem_cons hjl, hc]; rfl
      have VN := Lib.hid (fun w => l1Var_any (bs [c]) (by rw [bs_size]; simp) w)
      have hvo : varNo (varOf (bs [c]).data.toList) = fnd nmsN c := by rw [bs_list, varOf_one hcm]; rfl
      rw [hvo] at VN
      have hdr : S.data.toList.drop j = c :: S.data.toList.drop (j + 1) := by rw [List.drop_eq_getElem_cons hjl, hc]
      have hnew : (⟨#[38, 61]⟩ : ByteArray) ++ bs [c] ++ bs [c - 32] ++ A = bs (agN (S.data.toList.drop j)).text := by
        rw [hdr, agN_text, HA.out, show (⟨#[38, 61]⟩ : ByteArray) = bs [38, 61] from rfl, bs_app, bs_app, bs_app]
      have HN := Lib.hid hnew
      have hAz : A.size ≤ 4000 := by rw [HA.out, bs_size, agN_len, List.length_drop]; omega
      have x1 : (⟨#[88, 89, 90]⟩ : ByteArray).extract 0 1 = bs [88] := by decide
      have x2 : (⟨#[88, 89, 90]⟩ : ByteArray).extract 1 2 = bs [89] := by decide
      have x3 : (⟨#[88, 89, 90]⟩ : ByteArray).extract 2 3 = bs [90] := by decide
      have xs : (⟨#[88, 89, 90]⟩ : ByteArray).size = 3 := rfl
      clear hvo hnew hdr hc HA hsz hjl hle hz
      rcases nms_cases hcm with rfl | rfl | rfl
      all_goals
        have e1 : fnd nmsN 120 = 0 := by decide
        have e2 : fnd nmsN 121 = 1 := by decide
        have e3 : fnd nmsN 122 = 2 := by decide
        first | rw [e1] at VN | rw [e2] at VN | rw [e3] at VN
        clear e1 e2 e3 hcm
        obtain ⟨T1, hT1⟩ : ∃ T, S.extract j (j + 1) = T := ⟨_, rfl⟩
        rw [hT1] at hex
        have s1 : T1.size = 1 := by rw [hex]; rfl
        rw [← hex] at VN HN
        clear hex
        have HN2 : Hid (∃ T2 : ByteArray, T2.size = 1 ∧ ((⟨#[88, 89, 90]⟩ : ByteArray).extract 0 1 = T2 ∨ (⟨#[88, 89, 90]⟩ : ByteArray).extract 1 2 = T2 ∨ (⟨#[88, 89, 90]⟩ : ByteArray).extract 2 3 = T2)) := ⟨bs [88], rfl, .inl x1⟩
        clear HN2
        have u1 : (bs [88]).size = 1 := rfl
        have u2 : (bs [89]).size = 1 := rfl
        have u3 : (bs [90]).size = 1 := rfl
        simp only [show (120 : UInt8) - 32 = 88 from rfl, show (121 : UInt8) - 32 = 89 from rfl, show (122 : UInt8) - 32 = 90 from rfl] at HN
        generalize bs [88] = U1 at *
        generalize bs [89] = U2 at *
        generalize bs [90] = U3 at *
        have z1 : ¬ (9223372036854775807 < 2 + T1.size) := by omega
        have z2 : ¬ (9223372036854775807 < 2 + T1.size + U1.size) := by omega
        have z3 : ¬ (9223372036854775807 < 2 + T1.size + U1.size + A.size) := by omega
        have z4 : ¬ (9223372036854775807 < 2 + T1.size + U2.size) := by omega
        have z5 : ¬ (9223372036854775807 < 2 + T1.size + U2.size + A.size) := by omega
        have z6 : ¬ (9223372036854775807 < 2 + T1.size + U3.size) := by omega
        have z7 : ¬ (9223372036854775807 < 2 + T1.size + U3.size + A.size) := by omega
        have j1 : (j : Int) + 1 ≤ (S.size : Int) := by omega
        have HB := Lib.hid B.out
        clear HRS HL
        go_wp2_with fail
        refine (VN.out _).mono ?_
        rintro e w1 ⟨rfl, rfl⟩
        go_wp2_with fail
        go_quiet (fail)
        go_wp2_with fail
        go_roundg j
        case measure => omega
        case rel => exact ⟨_, _, by omega, by omega, rfl, rfl, HN, Lib.hid (HB.out.trans (below_drewN _ _ _))⟩

/-! ### drawn relations -/
def Set729 (w : World) (g p k : Nat) (e : Ending) (w' : World) : Prop :=
  ∃ S : ByteArray, bOk 729 S.data.toList = true ∧ e = .returned (.string S) ∧ Drew w g p k w'
def Set730 (w : World) (g p k : Nat) (e : Ending) (w' : World) : Prop :=
  ∃ S : ByteArray, S.size ≤ 730 ∧ e = .returned (.string S) ∧ Drew w g p k w'
theorem rt_bok (r : Rl) : bOk 729 (bs (rt r)).data.toList = true := by rw [bs_list]; exact rt_ok r
theorem six_v : ∀ c ∈ (⟨#[120, 121, 122, 88, 89, 90]⟩ : ByteArray).data.toList, isV true c = true := by
  intro c hc
  simp only [List.mem_cons, List.not_mem_nil, or_false] at hc
  rcases hc with rfl | rfl | rfl | rfl | rfl | rfl <;> rfl
theorem ext27 (f : Nat → Nat) : (av 29 f).extract 0 27 = av 27 f := by
  apply Array.ext_getElem?
  intro i
  by_cases h : i < 27
  · rw [av_get f h, Array.getElem?_extract, if_pos (by rw [av_size]; omega), Nat.zero_add, av_get f (by omega)]
  · rw [Array.getElem?_eq_none (by rw [Array.size_extract, av_size]; omega), Array.getElem?_eq_none (by rw [av_size]; omega)]
theorem field_to (V : Array Value) (W : World) : (Instr.field 74 (.agg V) 0).run Tryz.prog W = .ok (.agg (V.extract 0 27)) W := by kernel_rfl
theorem ints_av (n : Nat) (f : Nat → Nat) : Ints (av n f) := by
  intro i v h
  by_cases hi : i < n
  · rw [av_get f hi] at h
    exact ⟨_, by simpa using h.symm⟩
  · rw [Array.getElem?_eq_none (by rw [av_size]; omega)] at h
    cases h
def agl : List ByteArray := [⟨#[120]⟩, ⟨#[120, 121]⟩, ⟨#[122]⟩, ⟨#[]⟩, ⟨#[120, 121, 122]⟩, ⟨#[121, 122]⟩]
theorem agl_ok : ∀ s ∈ agl, s.size ≤ 3 ∧ ∀ c ∈ s.data.toList, c ∈ nmsN := by
  intro s hs
  simp only [agl, List.mem_cons, List.not_mem_nil, or_false] at hs
  rcases hs with rfl | rfl | rfl | rfl | rfl | rfl <;> exact ⟨by decide, by decide⟩
set_option maxRecDepth 100000 in
set_option maxHeartbeats 16000000 in
theorem l6Some_any (g p : Nat) (w : World) (hp : p ≤ 800000000) (hR : Rnd w g p) : Calls Tryz.prog 24 #[.pointer (some ⟨g, 0, none⟩)] w (Set729 w g p 10000) := by
  have HR := Lib.hid hR
  have TX := Lib.hid (fun r w => l6TextR_any r w)
  clear hR
  go_enter Tryz.func24, Tryz.ntmps24
  go_wp2_with fail
  refine (pick_any g p 6 w (by omega) (by omega) HR.out).mono ?_
  rintro e w0 ⟨v0, ⟨va0, vb0, _⟩, rfl, hg0, q0, qa0, qb0, hr0⟩
  have vc0 := vb0 (by omega)
  have R0 := Lib.hid hr0
  have G0 := Lib.hid hg0
  clear vb0 hr0 hg0
  have c2 : cstP 2 = 6400 := rfl
  have c3 : cstT 2 = 1024 := rfl
  by_cases h0 : v0 = 0
  · subst h0
    have DP := Lib.hid (progDrawN_any ⟨#[120, 121, 122]⟩ xyz_v (by decide) (by decide) false g 2 q0 2 w0 rfl (by omega) (by omega) (by omega) R0.out)
    go_wp2_with fail
    refine DP.out.mono ?_
    rintro e w1 ⟨S, N1, s1, s2, rfl, hg1, q1, qa1, qb1, hr1⟩
    have R1 := Lib.hid hr1
    have G1 := Lib.hid (grown_trans G0.out hg1)
    clear hg1 hr1 DP
    obtain ⟨N, hN, hSN⟩ := N1.out
    obtain ⟨f, mf, RF⟩ := l4Run_any N.text.length N S (by rw [hSN, bs_list]) (Nat.le_refl _) (by omega) hN
    have RF := Lib.hid RF
    have hfd : ∀ W, (Instr.field 74 (.agg (av 29 f)) 0).run Tryz.prog W = .ok (.agg (rowV (fun i j => (f i).testBit j))) W := fun W => by
      rw [field_to, ext27, av_rowV (fun i hi => mf i (by omega))]
    clear hN hSN mf
    go_wp2_with fail
    refine (RF.out _).mono ?_
    rintro e w2 ⟨rfl, hb2⟩
    have R2 := Lib.hid (R1.out.below hb2)
    have G2 := Lib.hid (grown_below G1.out hb2)
    clear hb2 RF
    go_wp2_with fail
    refine (TX.out _ _).mono ?_
    rintro e w3 ⟨rfl, hb3⟩
    have R3 := Lib.hid (R2.out.below hb3)
    have G3 := Lib.hid (grown_below G2.out hb3)
    clear hb3
    go_wp2_with fail
    go_ret
    exact ⟨_, rt_bok _, rfl, G3.out, q1, by omega, by omega, R3.out⟩
  have e0 : (v0 == 0) = false := by simp; exact h0
  by_cases h1 : v0 = 1
  · subst h1
    clear h0 e0
    go_wp2_with fail
    refine (of_any g q0 w0.heap.size agl (w0.alloc _) (by omega) (R0.out.alloc _) (by decide) (by decide) (by have := R0.out.lt; omega) (Blk.new w0 _ _)).mono ?_
    rintro e w1 ⟨s1, hs1, rfl, hg1, q1, qa1, qb1, hr1⟩
    have R1 := Lib.hid hr1
    have G1 := Lib.hid (grown_trans G0.out (grown_alloc hg1))
    clear hr1 hg1
    obtain ⟨hz1, hl1⟩ := agl_ok s1 hs1
    have AG := Lib.hid (fun w => l6Agree_any s1 (by omega) hl1 w)
    have hal : (bs (agN s1.data.toList).text).size ≤ 100 := by rw [bs_size, agN_len, len_S]; omega
    have LO := Lib.hid (fun w => l6Of_any (bs (agN s1.data.toList).text) (by omega) (agN s1.data.toList) (agN_ok hl1) (bs_list _) w)
    clear hs1 hz1 hl1 hal
    generalize bs (agN s1.data.toList).text = AT at *
    generalize agN s1.data.toList = AK at *
    go_wp2_with fail
    refine (AG.out _).mono ?_
    rintro e w2 ⟨rfl, hb2⟩
    have R2 := Lib.hid (R1.out.below hb2)
    have G2 := Lib.hid (grown_below G1.out hb2)
    clear hb2 AG
    go_wp2_with fail
    refine (LO.out _).mono ?_
    rintro e w3 ⟨rfl, hb3⟩
    have R3 := Lib.hid (R2.out.below hb3)
    have G3 := Lib.hid (grown_below G2.out hb3)
    clear hb3 LO
    go_wp2_with fail
    refine (TX.out _ _).mono ?_
    rintro e w4 ⟨rfl, hb4⟩
    have R4 := Lib.hid (R3.out.below hb4)
    have G4 := Lib.hid (grown_below G3.out hb4)
    clear hb4
    go_wp2_with fail
    go_ret
    exact ⟨_, rt_bok _, rfl, G4.out, q1, by omega, by omega, R4.out⟩
  have e1 : (v0 == 1) = false := by simp; exact h1
  by_cases h2 : v0 = 2
  · subst h2
    clear h0 e0 h1 e1
    have kz : Blk (w0.alloc (.cells #[.int .i64 0, .int .i64 0, .int .i64 0, .int .i64 0, .int .i64 0, .int .i64 0, .int .i64 0, .int .i64 0, .int .i64 0, .int .i64 0, .int .i64 0, .int .i64 0, .int .i64 0, .int .i64 0, .int .i64 0, .int .i64 0, .int .i64 0, .int .i64 0, .int .i64 0, .int .i64 0, .int .i64 0, .int .i64 0, .int .i64 0, .int .i64 0, .int .i64 0, .int .i64 0, .int .i64 0] 62)) w0.heap.size 62 #[.int .i64 0, .int .i64 0, .int .i64 0, .int .i64 0, .int .i64 0, .int .i64 0, .int .i64 0, .int .i64 0, .int .i64 0, .int .i64 0, .int .i64 0, .int .i64 0, .int .i64 0, .int .i64 0, .int .i64 0, .int .i64 0, .int .i64 0, .int .i64 0, .int .i64 0, .int .i64 0, .int .i64 0, .int .i64 0, .int .i64 0, .int .i64 0, .int .i64 0, .int .i64 0, .int .i64 0] := Blk.new w0 62 #[.int .i64 0, .int .i64 0, .int .i64 0, .int .i64 0, .int .i64 0, .int .i64 0, .int .i64 0, .int .i64 0, .int .i64 0, .int .i64 0, .int .i64 0, .int .i64 0, .int .i64 0, .int .i64 0, .int .i64 0, .int .i64 0, .int .i64 0, .int .i64 0, .int .i64 0, .int .i64 0, .int .i64 0, .int .i64 0, .int .i64 0, .int .i64 0, .int .i64 0, .int .i64 0, .int .i64 0]
    have KZ := Lib.hid kz
    have HW := Lib.hid (setRow_self (w0.alloc (.cells #[.int .i64 0, .int .i64 0, .int .i64 0, .int .i64 0, .int .i64 0, .int .i64 0, .int .i64 0, .int .i64 0, .int .i64 0, .int .i64 0, .int .i64 0, .int .i64 0, .int .i64 0, .int .i64 0, .int .i64 0, .int .i64 0, .int .i64 0, .int .i64 0, .int .i64 0, .int .i64 0, .int .i64 0, .int .i64 0, .int .i64 0, .int .i64 0, .int .i64 0, .int .i64 0, .int .i64 0] 62)) w0.heap.size #[.int .i64 0, .int .i64 0, .int .i64 0, .int .i64 0, .int .i64 0, .int .i64 0, .int .i64 0, .int .i64 0, .int .i64 0, .int .i64 0, .int .i64 0, .int .i64 0, .int .i64 0, .int .i64 0, .int .i64 0, .int .i64 0, .int .i64 0, .int .i64 0, .int .i64 0, .int .i64 0, .int .i64 0, .int .i64 0, .int .i64 0, .int .i64 0, .int .i64 0, .int .i64 0, .int .i64 0] 62 (0, 0) kz)
    have K1 : Hid (Blk (w0.alloc (.cells #[.int .i64 0, .int .i64 0, .int .i64 0, .int .i64 0, .int .i64 0, .int .i64 0, .int .i64 0, .int .i64 0, .int .i64 0, .int .i64 0, .int .i64 0, .int .i64 0, .int .i64 0, .int .i64 0, .int .i64 0, .int .i64 0, .int .i64 0, .int .i64 0, .int .i64 0, .int .i64 0, .int .i64 0, .int .i64 0, .int .i64 0, .int .i64 0, .int .i64 0, .int .i64 0, .int .i64 0] 62)) w0.heap.size 62 (av 27 (fun _ => 0))) := by rw [← av_zero]; exact kz
    have R1 : Hid (Rnd (w0.alloc (.cells #[.int .i64 0, .int .i64 0, .int .i64 0, .int .i64 0, .int .i64 0, .int .i64 0, .int .i64 0, .int .i64 0, .int .i64 0, .int .i64 0, .int .i64 0, .int .i64 0, .int .i64 0, .int .i64 0, .int .i64 0, .int .i64 0, .int .i64 0, .int .i64 0, .int .i64 0, .int .i64 0, .int .i64 0, .int .i64 0, .int .i64 0, .int .i64 0, .int .i64 0, .int .i64 0, .int .i64 0] 62)) g q0) := R0.out.alloc _
    have G1 : Hid (w.grownBy (w0.alloc (.cells #[.int .i64 0, .int .i64 0, .int .i64 0, .int .i64 0, .int .i64 0, .int .i64 0, .int .i64 0, .int .i64 0, .int .i64 0, .int .i64 0, .int .i64 0, .int .i64 0, .int .i64 0, .int .i64 0, .int .i64 0, .int .i64 0, .int .i64 0, .int .i64 0, .int .i64 0, .int .i64 0, .int .i64 0, .int .i64 0, .int .i64 0, .int .i64 0, .int .i64 0, .int .i64 0, .int .i64 0] 62)) (some g)) := grown_below G0.out (below_n w0 _)
    have hgr : g ≠ w0.heap.size := Nat.ne_of_lt R0.out.lt
    have hwr : w.heap.size ≤ w0.heap.size := G0.out.size
    have M0 : Hid (∀ i, i < 27 → (fun _ : Nat => 0) i < 134217728) := fun _ _ => (by decide : 0 < 134217728)
    clear kz R0 G0
    go_wp2_with (refine wpList_store_row rfl 62 (.tmp 3) (.tmp 24) rfl w0.heap.size #[.int .i64 0, .int .i64 0, .int .i64 0, .int .i64 0, .int .i64 0, .int .i64 0, .int .i64 0, .int .i64 0, .int .i64 0, .int .i64 0, .int .i64 0, .int .i64 0, .int .i64 0, .int .i64 0, .int .i64 0, .int .i64 0, .int .i64 0, .int .i64 0, .int .i64 0, .int .i64 0, .int .i64 0, .int .i64 0, .int .i64 0, .int .i64 0, .int .i64 0, .int .i64 0, .int .i64 0] rfl rfl 62 #[.int .i64 0, .int .i64 0, .int .i64 0, .int .i64 0, .int .i64 0, .int .i64 0, .int .i64 0, .int .i64 0, .int .i64 0, .int .i64 0, .int .i64 0, .int .i64 0, .int .i64 0, .int .i64 0, .int .i64 0, .int .i64 0, .int .i64 0, .int .i64 0, .int .i64 0, .int .i64 0, .int .i64 0, .int .i64 0, .int .i64 0, .int .i64 0, .int .i64 0, .int .i64 0, .int .i64 0] KZ.out rel_size rfl z_one ?_)
    try rw [HW.out]
    clear HW KZ
    obtain ⟨r, hr⟩ : ∃ r, w0.heap.size = r := ⟨_, rfl⟩
    rw [hr] at K1 hgr hwr ⊢
    clear hr
    go_loopg [4] 27 (fun gk sv wr => ∃ (a q : Nat) (f : Nat → Nat), a + gk = 27 ∧ sv = .int .i64 a ∧ p ≤ q ∧ q ≤ p + 1 + a ∧ Hid (Blk wr r 62 (av 27 f)) ∧ Hid (Rnd wr g q) ∧ Hid (w.grownBy wr (some g)) ∧ Hid (∀ i, i < 27 → f i < 134217728))
    case atStart => exact ⟨0, q0, _, rfl, rfl, by omega, by omega, K1, R1, G1, M0⟩
    case round =>
      clear K1 R1 G1 M0
      obtain ⟨a, q, f, ha, rfl, hq1, hq2, K, R, G, M⟩ := hrel
      by_cases hla : a < 27
      · have hxa : (a : Int) < 27 := by omega
        go_wp2_with fail
        refine (pick_any g q 27 wr (by omega) (by omega) R.out).mono ?_
        rintro e w1 ⟨v1, ⟨va1, vb1, _⟩, rfl, hg1, q1, qa1, qb1, hr1⟩
        have vc1 := vb1 (by omega)
        have K1 := K.out.grown hg1 (by intro h; injection h with h; exact hgr h.symm)
        have G1 := grown_trans G.out hg1
        obtain ⟨j, rfl⟩ := Int.eq_ofNat_of_zero_le va1
        have hj : j < 27 := by omega
        have hc := (K1.cell a).trans (av_get f hla)
        have hf := K1.frozen a
        have k5 := K1.set_ a (.int .i64 (wrap64 (2 ^ j)))
        rw [wrap_pow hj, av_set, ← wrap_pow hj] at k5
        have K5 := Lib.hid k5
        have R5 := Lib.hid (hr1.put K1 (ints_av 27 f) hgr a (.int .i64 (wrap64 (2 ^ j))))
        have G5 := Lib.hid (grown_put G1 hwr a (.int .i64 (wrap64 (2 ^ j))))
        have M5 : Hid (∀ i, i < 27 → Proofs.YtndlhdmpfnadcaaGreatDoor.upd f a (2 ^ j) i < 134217728) := fun i hi => by
          unfold Proofs.YtndlhdmpfnadcaaGreatDoor.upd
          split
          · exact p27 hj
          · exact M.out i hi
        clear vb1 hg1 hr1 K1 G1 k5 K R G M
        go_wp2_with fail
        go_roundg (gk - 1)
        case measure => omega
        case rel => exact ⟨a + 1, q1, _, by omega, by go_num, by omega, by omega, K5, R5, G5, M5⟩
      · obtain rfl : a = 27 := by omega
        have hv := av_rowV M.out
        have SZ : Hid ((Tryz.prog.info? 62).map (·.size) = some (av 27 f).size) := by rw [av_size]; exact rel_size
        have HV := Lib.hid hv
        clear M hv hla
        go_wp2_with (refine wpList_load_row rfl 62 (.tmp 3) rfl r rfl 62 (av 27 f) (0, 0) _ K.out Tryz.underlying62 rfl SZ.out ?_)
        try rw [HV.out]
        refine (TX.out _ _).mono ?_
        rintro e w4 ⟨rfl, hb4⟩
        have R4 := Lib.hid (R.out.below hb4)
        have G4 := Lib.hid (grown_below G.out hb4)
        clear hb4
        go_wp2_with fail
        go_ret
        exact ⟨_, rt_bok _, rfl, G4.out, q, by omega, by omega, R4.out⟩
  have e2 : (v0 == 2) = false := by simp; exact h2
  clear h0 h1 h2
  have DT := Lib.hid (drawTestN_any true ⟨#[120, 121, 122, 88, 89, 90]⟩ six_v (by decide) g 2 q0 2 w0 rfl (by omega) (by omega) R0.out)
  go_wp2_with fail
  refine DT.out.mono ?_
  rintro e w1 ⟨S, N1, s1, s2, rfl, hg1, q1, qa1, qb1, hr1⟩
  have R1 := Lib.hid hr1
  have G1 := Lib.hid (grown_trans G0.out hg1)
  clear hg1 hr1 DT
  obtain ⟨N, hN, hSN⟩ := N1.out
  have LO := Lib.hid (fun w => l6Of_any S (by omega) N hN (by rw [hSN, bs_list]) w)
  clear hN hSN N1
  go_wp2_with fail
  refine (LO.out _).mono ?_
  rintro e w2 ⟨rfl, hb2⟩
  have R2 := Lib.hid (R1.out.below hb2)
  have G2 := Lib.hid (grown_below G1.out hb2)
  clear hb2 LO
  go_wp2_with fail
  refine (TX.out _ _).mono ?_
  rintro e w3 ⟨rfl, hb3⟩
  have R3 := Lib.hid (R2.out.below hb3)
  have G3 := Lib.hid (grown_below G2.out hb3)
  clear hb3
  go_wp2_with fail
  go_ret
  exact ⟨_, rt_bok _, rfl, G3.out, q1, by omega, by omega, R3.out⟩
set_option maxHeartbeats 4000000 in
theorem l6Bad_any (S : ByteArray) (g p : Nat) (w : World) (hz : S.size = 729) (hp : p ≤ 999999000) (hR : Rnd w g p) :
    Calls Tryz.prog 26 #[.pointer (some ⟨g, 0, none⟩), .string S] w (Set730 w g p 3) := by
  have HR := Lib.hid hR
  clear hR
  go_enter Tryz.func26, Tryz.ntmps26
  go_wp2_with fail
  refine (pick_any g p 40 w (by omega) (by omega) HR.out).mono ?_
  rintro e w0 ⟨v0, ⟨va0, vb0, _⟩, rfl, hg0, q0, qa0, qb0, hr0⟩
  have vc0 := vb0 (by omega)
  have R0 := Lib.hid hr0
  have G0 := Lib.hid hg0
  clear vb0 hr0 hg0
  by_cases h0 : v0 = 0
  · subst h0
    go_wp2_with fail
    go_ret
    exact ⟨_, by rw [size_append, size_one]; omega, rfl, G0.out, q0, by omega, by omega, R0.out⟩
  have e0 : (v0 == 0) = false := by simp; exact h0
  by_cases h1 : v0 = 1
  · subst h1
    clear h0 e0
    have eA := size_extract S 0 728 (by omega)
    go_wp2_with fail
    go_ret
    exact ⟨_, by rw [size_append, size_one, eA]; omega, rfl, G0.out, q0, by omega, by omega, R0.out⟩
  have e1 : (v0 == 1) = false := by simp; exact h1
  clear h0 h1
  go_wp2_with fail
  go_ret
  exact ⟨S, by omega, rfl, G0.out, q0, by omega, by omega, R0.out⟩

end Go.Proofs.YtndlhdmpfnadcaaGreatDoor
