/- States that agree on variables: as a relation, on both sides. -/
import Derived.Test.YtccjmahhebiphaaDoorAg
import Derived.Test.YtccjmahhebiphaaDoorVa
import Derived.Test.YtccjmahhebiphaaDoorRt
import Derived.Test.YtccjmahhebiphaaDoorRz
import Derived.Test.YtccjmahhebiphaaDoorGf
namespace Go.Proofs.YtccjmahhebiphaaDoor
open Go.RowKit
open Pl
set_option linter.unusedVariables false

/-! ### plain -/
def agR (l : List UInt8) : Rl := fun i j => l.all (fun c => gv c i == gv c j)
theorem gv_env {c : UInt8} (hc : c ∈ nmsN) {i j : Nat} (hi : i < 27) (hj : j < 27) : envOf (stX i) (stY i) (stZ i) (stX j) (stY j) (stZ j) c = gv c i ∧ envOf (stX i) (stY i) (stZ i) (stX j) (stY j) (stZ j) (c - 32) = gv c j := by
  rcases nmsN_cases hc with rfl | rfl | rfl
  · refine ⟨?_, ?_⟩
    · show (i : Int) % 3 = (i : Int) / 1 % 3
      omega
    · show (j : Int) % 3 = (j : Int) / 1 % 3
      omega
  · exact ⟨rfl, rfl⟩
  · refine ⟨?_, ?_⟩
    · show (i : Int) / 9 = (i : Int) / 9 % 3
      omega
    · show (j : Int) / 9 = (j : Int) / 9 % 3
      omega
theorem relB_agN {i j : Nat} (hi : i < 27) (hj : j < 27) : ∀ {l : List UInt8}, (∀ c ∈ l, c ∈ nmsN) → relB (agN l) i j = agR l i j
  | [], _ => rfl
  | c :: l, h => by
    have ih := relB_agN hi hj (l := l) (fun d hd => h d (by simp [hd]))
    obtain ⟨e1, e2⟩ := gv_env (h c (by simp)) hi hj
    have e : relB (agN (c :: l)) i j = ((envOf (stX i) (stY i) (stZ i) (stX j) (stY j) (stZ j) c == envOf (stX i) (stY i) (stZ i) (stX j) (stY j) (stZ j) (c - 32)) && relB (agN l) i j) := by
      rcases nmsN_cases (h c (by simp)) with rfl | rfl | rfl <;> rfl
    rw [e, ih, e1, e2]
    rfl
theorem relOf_agN {l : List UInt8} (h : ∀ c ∈ l, c ∈ nmsN) : relOf (agN l) = rt (agR l) := by
  unfold relOf rt
  exact bits_congr (fun n hn => relB_agN (by omega) (by omega) h)
theorem agR_iff {l : List UInt8} {i j : Nat} : agR l i j = true ↔ ∀ c ∈ l, gv c i = gv c j := by simp [agR]
theorem agR_eqv (l : List UInt8) : eqvT (rt (agR l)) = true := by
  unfold eqvT
  rw [rt_ok, Bool.true_and, Bool.and_eq_true, beq_iff_eq, beq_iff_eq, cloT_self (rt_ok _)]
  refine ⟨?_, ?_, ?_⟩
  · refine ro_eq trnT_ok (rt_ok _) (fun i j hi hj => bool_ext ?_)
    rw [ro_trn hi hj, ro_rt hj hi, ro_rt hi hj, agR_iff, agR_iff]
    exact ⟨fun h c hc => (h c hc).symm, fun h c hc => (h c hc).symm⟩
  · intro i hi
    rw [ro_rt hi hi, agR_iff]
    exact fun _ _ => rfl
  · refine ro_eq cmpT_ok (rt_ok _) (fun i j hi hj => bool_ext ?_)
    rw [cmpT_iff hi hj, ro_rt hi hj, agR_iff]
    constructor
    · rintro ⟨u, hu, h1, h2⟩ c hc
      rw [ro_rt hi hu, agR_iff] at h1
      rw [ro_rt hu hj, agR_iff] at h2
      exact (h1 c hc).trans (h2 c hc)
    · intro h
      exact ⟨i, hi, by rw [ro_rt hi hi, agR_iff]; exact fun _ _ => rfl, by rw [ro_rt hi hj, agR_iff]; exact h⟩
/-- letters in order -/
def lokN : UInt8 → List UInt8 → Bool
  | _, [] => true
  | a, c :: l => !(c ≤ a) && !(122 < c) && lokN c l
theorem lok_step {a : UInt8} {S : ByteArray} {k : Nat} (h : k < S.size) : lokN a (S.data.toList.drop k) = (!(S[k] ≤ a) && !(122 < S[k]) && lokN S[k] (S.data.toList.drop (k + 1))) := by
  rw [drop_cons h]
  rfl
/-- the drawn texts: those that are letters in order, each once -/
def agd : List ByteArray := [⟨#[120]⟩, ⟨#[120, 121]⟩, ⟨#[122]⟩, ⟨#[]⟩, ⟨#[120, 121, 122]⟩, ⟨#[121, 122]⟩, ⟨#[120, 122]⟩, ⟨#[121]⟩, ⟨#[121, 120]⟩, ⟨#[120, 120]⟩, ⟨#[88]⟩, ⟨#[119]⟩]
theorem agd_facts : ∀ s ∈ agd, s.size ≤ 3 ∧ ((lokN 119 s.data.toList = true ∧ vars nmsN s.data.toList = s.data.toList ∧ ∀ c ∈ s.data.toList, c ∈ nmsN) ∨ (lokN 119 s.data.toList = false ∧ vars nmsN s.data.toList ≠ s.data.toList)) := by decide

set_option maxRecDepth 100000 in
set_option maxHeartbeats 4000000 in
theorem lettersOk_any (S : ByteArray) (hS : S.size ≤ 1000000) (w : World) : Calls Tryd.prog 97 #[.string S] w fun e w' => e = .returned (.bool (lokN 119 S.data.toList)) ∧ w = w' := by
  go_enter Tryd.func97, Tryd.ntmps97
  go_wp2_with fail
  go_loopg [3, 7] S.size (fun gk a i wr => ∃ (k : Nat) (b : UInt8), k + gk = S.size ∧ i = .int .i64 k ∧ a = .int .u8 (b.toNat : Int) ∧ Hid (lokN b (S.data.toList.drop k) = lokN 119 S.data.toList) ∧ wr = w)
  case atStart => exact ⟨0, 119, by omega, rfl, rfl, Lib.hid rfl, rfl⟩
  case round =>
    obtain ⟨k, b, hk, rfl, rfl, HL, rfl⟩ := hrel
    by_cases hlt : k < S.size
    · have hs := lok_step (a := b) hlt
      obtain ⟨c, hc⟩ : ∃ c, S[k] = c := ⟨_, rfl⟩
      rw [hc] at hs
      by_cases h1 : c ≤ b
      · have e1 : ((c.toNat : Int) ≤ (b.toNat : Int)) := by have := UInt8.le_iff_toNat_le.1 h1; omega
        have e2 : decide ((c.toNat : Int) ≤ (b.toNat : Int)) = true := decide_eq_true e1
        have HF : Hid (lokN 119 S.data.toList = false) := by
          show _ = _
          rw [← HL.out, hs]
          simp [h1]
        clear hs h1 HL
        go_wp2_with fail
        go_ret
        exact ⟨ret_bool HF.out.symm, rfl⟩
      · have e1 : ¬ ((c.toNat : Int) ≤ (b.toNat : Int)) := by
          intro h
          exact h1 (UInt8.le_iff_toNat_le.2 (by omega))
        have e2 : decide ((c.toNat : Int) ≤ (b.toNat : Int)) = false := decide_eq_false e1
        by_cases h2 : 122 < c
        · have f1 : (122 : Int) < (c.toNat : Int) := by have := UInt8.lt_iff_toNat_lt.1 h2; simp at this; omega
          have f2 : decide ((122 : Int) < (c.toNat : Int)) = true := decide_eq_true f1
          have HF : Hid (lokN 119 S.data.toList = false) := by
            show _ = _
            rw [← HL.out, hs]
            simp [h2]
          clear hs h1 h2 HL
          go_wp2_with fail
          go_ret
          exact ⟨ret_bool HF.out.symm, rfl⟩
        · have f1 : ¬ ((122 : Int) < (c.toNat : Int)) := by
            intro h
            exact h2 (UInt8.lt_iff_toNat_lt.2 (by simp; omega))
          have f2 : decide ((122 : Int) < (c.toNat : Int)) = false := decide_eq_false f1
          have HF : Hid (lokN c (S.data.toList.drop (k + 1)) = lokN 119 S.data.toList) := by
            show _ = _
            rw [← HL.out, hs]
            simp [h1, h2]
          clear hs h1 h2 HL
          go_wp2_with fail
          go_roundg (gk - 1)
          case measure => omega
          case rel => exact ⟨k + 1, c, by omega, by go_num, rfl, HF, rfl⟩
    · have HF : Hid (lokN 119 S.data.toList = true) := by
        show _ = _
        rw [← HL.out, List.drop_of_length_le (by rw [len_S]; omega)]
        rfl
      clear HL
      go_wp2_with fail
      go_ret
      exact ⟨ret_bool HF.out.symm, rfl⟩
set_option maxRecDepth 100000 in
set_option maxHeartbeats 8000000 in
theorem agree_any (S : ByteArray) (hS : S.size ≤ 1000000) (hl : ∀ c ∈ S.data.toList, c ∈ nmsN) (i j : Nat) (hi : i < 27) (hj : j < 27) (w : World) (hs : Str w) : Calls Tryd.prog 100 #[.string S, .int .i64 (i : Int), .int .i64 (j : Int)] w fun e w' => (e = .returned (.bool (agR S.data.toList i j)) ∧ Below w.heap.size w w') := by
  have HL := Lib.hid hl
  have HS := Lib.hid hs
  have B0 := Lib.hid (Below.refl w.heap.size w)
  clear hl hs
  go_enter Tryd.func100, Tryd.ntmps100
  go_wp2_with fail
  go_loopg [11] S.size (fun gk i_ wr => ∃ k : Nat, k + gk = S.size ∧ i_ = .int .i64 k ∧ Hid (∀ c ∈ S.data.toList.take k, gv c i = gv c j) ∧ Hid (Below w.heap.size w wr))
  case atStart => exact ⟨0, by omega, rfl, Lib.hid (by simp), B0⟩
  case round =>
    clear B0
    obtain ⟨k, hk, rfl, HT, B⟩ := hrel
    by_cases hlt : k < S.size
    · have hll : k < S.data.toList.length := by rw [len_S]; exact hlt
      obtain ⟨c, hc⟩ : ∃ c, S[k] = c := ⟨_, rfl⟩
      have hcl : S.data.toList[k] = c := hc
      have hcm : c ∈ S.data.toList := by rw [← hcl]; exact List.getElem_mem hll
      have hcn := HL.out c hcm
      obtain ⟨q1, q2, q3⟩ : 120 ≤ (c.toNat : Int) ∧ (c.toNat : Int) ≤ 122 ∧ (((c.toNat : Int) - 120 = 0 ∧ c = 120) ∨ ((c.toNat : Int) - 120 = 1 ∧ c = 121) ∨ ((c.toNat : Int) - 120 = 2 ∧ c = 122)) := by rcases nmsN_cases hcn with rfl | rfl | rfl <;> decide
      have SL := Lib.hid (fun w => slot_lo (c.toNat : Int) q1 q2 w)
      obtain ⟨s0, s1, s2⟩ := HS.out.below B.out
      by_cases hg : gv c i = gv c j
      · have HT2 : Hid (∀ d ∈ S.data.toList.take (k + 1), gv d i = gv d j) := by
          intro d hd
          rw [List.take_succ_eq_append_getElem hll, List.mem_append] at hd
          rcases hd with hd | hd
          · exact HT.out d hd
          · rw [hcl] at hd
            rw [List.mem_singleton.1 hd]
            exact hg
        clear HT hcl hcm hcn HL
        rcases q3 with ⟨q3, rfl⟩ | ⟨q3, rfl⟩ | ⟨q3, rfl⟩
        · rw [q3] at SL
          have hg0 : (i : Int) / 1 % 3 = (j : Int) / 1 % 3 := hg
          have hg1 : ((i : Int) % 3 != (j : Int) % 3) = false := by simp; omega
          have hg2 : ((i : Int) % 3 == (j : Int) % 3) = true := by simp; omega
          clear q1 q2 q3 hg hg0
          go_wp2_with fail
          refine (SL.out _).mono ?_
          rintro e w' ⟨rfl, rfl⟩
          clear SL
          go_wp2_with fail
          go_quiet (fail)
          go_wp2_with fail
          go_roundg (gk - 1)
          case measure => omega
          case rel => exact ⟨k + 1, by omega, by go_num, HT2, Lib.hid (B.out.trans (below_drewN _ _ _))⟩
        · rw [q3] at SL
          have hg0 : (i : Int) / 3 % 3 = (j : Int) / 3 % 3 := hg
          have hg1 : ((i : Int) / 3 % 3 != (j : Int) / 3 % 3) = false := by simp; omega
          have hg2 : ((i : Int) / 3 % 3 == (j : Int) / 3 % 3) = true := by simp; omega
          clear q1 q2 q3 hg hg0
          go_wp2_with fail
          refine (SL.out _).mono ?_
          rintro e w' ⟨rfl, rfl⟩
          clear SL
          go_wp2_with fail
          go_quiet (fail)
          go_wp2_with fail
          go_roundg (gk - 1)
          case measure => omega
          case rel => exact ⟨k + 1, by omega, by go_num, HT2, Lib.hid (B.out.trans (below_drewN _ _ _))⟩
        · rw [q3] at SL
          have hg0 : (i : Int) / 9 % 3 = (j : Int) / 9 % 3 := hg
          have hg1 : ((i : Int) / 9 % 3 != (j : Int) / 9 % 3) = false := by simp; omega
          have hg2 : ((i : Int) / 9 % 3 == (j : Int) / 9 % 3) = true := by simp; omega
          clear q1 q2 q3 hg hg0
          go_wp2_with fail
          refine (SL.out _).mono ?_
          rintro e w' ⟨rfl, rfl⟩
          clear SL
          go_wp2_with fail
          go_quiet (fail)
          go_wp2_with fail
          go_roundg (gk - 1)
          case measure => omega
          case rel => exact ⟨k + 1, by omega, by go_num, HT2, Lib.hid (B.out.trans (below_drewN _ _ _))⟩
      · have HF : Hid (agR S.data.toList i j = false) := by
          show _ = _
          cases h : agR S.data.toList i j
          · rfl
          · exact absurd (agR_iff.1 h c hcm) hg
        clear HT hcl hcm hcn HL
        rcases q3 with ⟨q3, rfl⟩ | ⟨q3, rfl⟩ | ⟨q3, rfl⟩
        · rw [q3] at SL
          have hg0 : (i : Int) / 1 % 3 ≠ (j : Int) / 1 % 3 := hg
          have hg1 : ((i : Int) % 3 != (j : Int) % 3) = true := by simp; omega
          have hg2 : ((i : Int) % 3 == (j : Int) % 3) = false := by simp; omega
          clear q1 q2 q3 hg hg0
          go_wp2_with fail
          refine (SL.out _).mono ?_
          rintro e w' ⟨rfl, rfl⟩
          clear SL
          go_wp2_with fail
          go_quiet (fail)
          go_wp2_with fail
          go_ret
          exact ⟨ret_bool HF.out.symm, B.out.trans (below_drewN _ _ _)⟩
        · rw [q3] at SL
          have hg0 : (i : Int) / 3 % 3 ≠ (j : Int) / 3 % 3 := hg
          have hg1 : ((i : Int) / 3 % 3 != (j : Int) / 3 % 3) = true := by simp; omega
          have hg2 : ((i : Int) / 3 % 3 == (j : Int) / 3 % 3) = false := by simp; omega
          clear q1 q2 q3 hg hg0
          go_wp2_with fail
          refine (SL.out _).mono ?_
          rintro e w' ⟨rfl, rfl⟩
          clear SL
          go_wp2_with fail
          go_quiet (fail)
          go_wp2_with fail
          go_ret
          exact ⟨ret_bool HF.out.symm, B.out.trans (below_drewN _ _ _)⟩
        · rw [q3] at SL
          have hg0 : (i : Int) / 9 % 3 ≠ (j : Int) / 9 % 3 := hg
          have hg1 : ((i : Int) / 9 % 3 != (j : Int) / 9 % 3) = true := by simp; omega
          have hg2 : ((i : Int) / 9 % 3 == (j : Int) / 9 % 3) = false := by simp; omega
          clear q1 q2 q3 hg hg0
          go_wp2_with fail
          refine (SL.out _).mono ?_
          rintro e w' ⟨rfl, rfl⟩
          clear SL
          go_wp2_with fail
          go_quiet (fail)
          go_wp2_with fail
          go_ret
          exact ⟨ret_bool HF.out.symm, B.out.trans (below_drewN _ _ _)⟩
    · have HF : Hid (agR S.data.toList i j = true) := by
        show _ = _
        rw [agR_iff]
        have := HT.out
        rwa [List.take_of_length_le (by rw [len_S]; omega)] at this
      clear HT HL
      go_wp2_with fail
      go_ret
      exact ⟨ret_bool HF.out.symm, B.out⟩
/-- agreement, as an option -/
def agO (S : ByteArray) : Option (List UInt8) := if lokN 119 S.data.toList then some (rt (agR S.data.toList)) else none
set_option maxRecDepth 100000 in
set_option maxHeartbeats 8000000 in
theorem AgreeOn_any (S : ByteArray) (hS : S.size ≤ 1000000) (hl : lokN 119 S.data.toList = true → ∀ c ∈ S.data.toList, c ∈ nmsN) (w : World) (hs : Str w) : Calls Tryd.prog 44 #[.string S] w fun e w' => (e = .returned (.tuple #[.string (bs (optB (agO S))), .bool (agO S).isSome]) ∧ Below w.heap.size w w') := by
  have LO := Lib.hid (fun w => lettersOk_any S hS w)
  have B1 := Lib.hid (below_n w (.cells #[.string S] 9))
  have k1 := Blk.new w 9 #[.string S]
  have hmf : ∀ (f : Fn) (first cap : Array Value) (w : World), (Instr.makeFunc f first cap).run Tryd.prog w = .ok (.func f first cap) w := fun _ _ _ _ => rfl
  cases ho : lokN 119 S.data.toList
  · have hr : agO S = none := by unfold agO; rw [ho]; rfl
    rw [hr]
    rw [ho] at LO
    simp only [optB, Option.isSome_none]
    clear hs k1 hr
    go_enter Tryd.func44, Tryd.ntmps44
    go_wp2_with fail
    refine (LO.out _).mono ?_
    rintro e w' ⟨rfl, rfl⟩
    go_wp2_with fail
    go_ret2
    exact ⟨(by first | trivial | rfl), B1.out⟩
  · have hr : agO S = some (rt (agR S.data.toList)) := by unfold agO; rw [ho]; rfl
    rw [hr]
    rw [ho] at LO
    simp only [optB, Option.isSome_some]
    have HL := Lib.hid (hl ho)
    have C1 : ∀ (i j : Nat), i < 27 → j < 27 → ∀ I J : Int, I = (i : Int) → J = (j : Int) → ∀ W, Below (w.alloc (.cells #[.string S] 9)).heap.size (w.alloc (.cells #[.string S] 9)) W → Calls Tryd.prog 99 (#[.int .i64 I, .int .i64 J] ++ #[.pointer (some ⟨w.heap.size, 0, none⟩)]) W fun e W' => e = .returned (.bool (agR S.data.toList i j)) ∧ Below W.heap.size W W' := by
      intro i j hi hj I J hI hJ W hW
      subst hI hJ
      have c0 := (hW.cell (p := ⟨w.heap.size, 0, none⟩) k1.lt).trans (k1.cell 0)
      simp at c0
      have AG := Lib.hid (agree_any S hS HL.out i j hi hj W (hs.below (below_2 B1.out hW)))
      generalize agR S.data.toList i j = r at *
      show Calls Tryd.prog 99 #[.int .i64 (i : Int), .int .i64 (j : Int), .pointer (some ⟨w.heap.size, 0, none⟩)] W _
      clear hW hs k1 hr LO hmf hl
      go_enter Tryd.func99, Tryd.ntmps99
      go_wp2_with fail
      refine AG.out.mono ?_
      rintro e w2 ⟨rfl, hb2⟩
      have B2 := Lib.hid hb2
      clear hb2
      go_wp2_with fail
      go_ret
      exact ⟨rfl, B2.out⟩
    have MR := Lib.hid (makeRel_any 99 (enterF Tryd.func99 (by kernel_rfl) rfl) #[.pointer (some ⟨w.heap.size, 0, none⟩)] (agR S.data.toList) (w.alloc (.cells #[.string S] 9)) C1)
    clear hs k1 hr hl C1
    go_enter Tryd.func44, Tryd.ntmps44
    go_wp2_with fail
    refine (LO.out _).mono ?_
    rintro e w' ⟨rfl, rfl⟩
    go_wp2_with fail
    refine MR.out.mono ?_
    rintro e w2 ⟨rfl, hb2⟩
    have B2 := Lib.hid (below_2 B1.out hb2)
    clear hb2
    go_wp2_with fail
    go_ret2
    exact ⟨(by first | trivial | rfl), B2.out⟩
set_option maxHeartbeats 4000000 in
theorem l6VarsValid_any (S : ByteArray) (hS : S.size ≤ 1000000) (b : Bool) (h : (vars nmsN S.data.toList = S.data.toList) ↔ b = true) (w : World) : Calls Tryd.prog 101 #[.string S] w fun e w' => e = .returned (.bool b) ∧ w = w' := by
  have VN := Lib.hid (fun w => l1Vars_any S hS false w)
  have hq : ((⟨(vars (nms false) S.data.toList).toArray⟩ : ByteArray).toList == S.toList) = b := by
    apply str_beq
    rw [← h]
    constructor
    · intro e
      have := congrArg (fun B : ByteArray => B.data.toList) e
      exact this
    · intro e
      show bs (vars nmsN S.data.toList) = S
      rw [e, bs_of]
  simp only [str] at VN
  generalize (⟨(vars (nms false) S.data.toList).toArray⟩ : ByteArray) = Q at *
  clear h
  go_enter Tryd.func101, Tryd.ntmps101
  go_wp2_with fail
  refine (VN.out _).mono ?_
  rintro e w' ⟨rfl, rfl⟩
  go_wp2_with fail
  go_ret
  exact ⟨ret_bool (by first | rfl | simp), rfl⟩
set_option maxHeartbeats 4000000 in
theorem AgreeOnS_any (S : ByteArray) (hS : S.size ≤ 49) (hf : (lokN 119 S.data.toList = true ∧ vars nmsN S.data.toList = S.data.toList ∧ ∀ c ∈ S.data.toList, c ∈ nmsN) ∨ (lokN 119 S.data.toList = false ∧ vars nmsN S.data.toList ≠ S.data.toList)) (w : World) : Calls Tryd.prog 45 #[.string S] w fun e w' => (e = .returned (.tuple #[.string (bs (optB (agO S))), .bool (agO S).isSome]) ∧ Below w.heap.size w w') := by
  rcases hf with ⟨h1, h2, h3⟩ | ⟨h1, h2⟩
  · have hr : agO S = some (rt (agR S.data.toList)) := by unfold agO; rw [h1]; rfl
    rw [hr]
    simp only [optB, Option.isSome_some]
    have VV := Lib.hid (fun w => l6VarsValid_any S (by omega) true (by simp [h2]) w)
    have LA := Lib.hid (fun w => l6Agree_any S (by omega) h3 w)
    have hlen := agN_len S.data.toList
    rw [len_S] at hlen
    have RO := Lib.hid (fun w => RelOfS_any (bs (agN S.data.toList).text) (by rw [bs_size]; omega) w)
    rw [bs_list, whole_text (agN_ok h3) (by omega)] at RO
    simp only [Option.map_some, optB, Option.isSome_some, relOf_agN h3] at RO
    generalize bs (agN S.data.toList).text = T at *
    clear h1 h2 h3 hr hlen
    go_enter Tryd.func45, Tryd.ntmps45
    go_wp2_with fail
    refine (VV.out _).mono ?_
    rintro e w' ⟨rfl, rfl⟩
    go_wp2_with fail
    refine (LA.out _).mono ?_
    rintro e w1 ⟨rfl, hb1⟩
    have B1 := Lib.hid hb1
    clear hb1
    go_wp2_with fail
    refine (RO.out _).mono ?_
    rintro e w2 ⟨rfl, hb2⟩
    have B2 := Lib.hid (below_2 B1.out hb2)
    clear hb2
    go_wp2_with fail
    go_ret2
    exact ⟨(by first | trivial | rfl), B2.out⟩
  · have hr : agO S = none := by unfold agO; rw [h1]; rfl
    rw [hr]
    simp only [optB, Option.isSome_none]
    have VV := Lib.hid (fun w => l6VarsValid_any S (by omega) false (by simp [h2]) w)
    clear h1 h2 hr
    go_enter Tryd.func45, Tryd.ntmps45
    go_wp2_with fail
    refine (VV.out _).mono ?_
    rintro e w' ⟨rfl, rfl⟩
    go_wp2_with fail
    go_ret2
    exact ⟨(by first | trivial | rfl), Below.refl _ _⟩
set_option maxHeartbeats 4000000 in
theorem DrawAgreeOn_any (A : Option Addr) (n cap : Nat) (w : World) (hn : n ≤ 4000000000000) (hc : n ≤ cap) (h : Bytes w A n w.heap.size) :
    Calls Tryd.prog 43 #[.slice A n cap] w fun e w' => (∃ S : ByteArray, S ∈ agd ∧ e = .returned (.string S) ∧ Below w.heap.size w w') := by
  have O := Lib.hid (open_ex A n cap w hn hc h)
  clear h
  go_enter Tryd.func43, Tryd.ntmps43
  go_wp2_with fail
  refine O.out.mono ?_
  rintro e w0 ⟨g, hg0, rfl, hr0, hb0⟩
  have R0 := Lib.hid hr0
  have G0 : Hid (w.grownBy w0 (some g)) := Lib.hid (grown_of_below hb0 _)
  clear hr0 hb0 O
  go_wp2_with fail
  refine (of_any g 0 w0.heap.size agd (w0.alloc _) (by omega) (R0.out.alloc _) (by decide) (by decide) (by have := R0.out.lt; omega) (Blk.new w0 _ _)).mono ?_
  rintro e w1 ⟨S, hS, rfl, hg1, _⟩
  have HS := Lib.hid hS
  have G1 := Lib.hid (grown_trans G0.out (grown_alloc hg1))
  clear hg1 hS
  go_wp2_with fail
  go_ret
  exact ⟨S, HS.out, rfl, below_src G1.out hg0⟩
end Go.Proofs.YtccjmahhebiphaaDoor
