/- FormatStates, on both sides. -/
import Derived.Test.YtppcghklkldnaabPd
import Derived.Test.YtppcghklkldnaabJl
import Derived.Test.YtppcghklkldnaabEa
import Derived.Test.YtppcghklkldnaabRs
import Derived.Test.YtppcghklkldnaabHd
import Derived.Test.YtppcghklkldnaabTx
import Derived.Maps.AppendAt
import Derived.Laws.OwnMore
namespace Go.Proofs.Ytppcghklkldnaab
open Go.RowKit
open Pl

theorem fmt_no {l : List UInt8} (h : bOk 27 l = false) : fmtS l = [] := by unfold fmtS; rw [h]; rfl
theorem fmt_yes {l : List UInt8} (h : bOk 27 l = true) : fmtS l = if ones l 27 = [] then [45] else jn (ones l 27) := by unfold fmtS; rw [h]; rfl
theorem ones_le (l : List UInt8) (n : Nat) : (ones l n).length ≤ n := by rw [ones_len]; exact cnt_le _ _
theorem ones_no {l : List UInt8} {n : Nat} (h : bt l n = false) : ones l (n + 1) = ones l n := by rw [ones_succ, h]; simp
theorem ones_yes {l : List UInt8} {n : Nat} (h : bt l n = true) : ones l (n + 1) = ones l n ++ [n] := by rw [ones_succ, h]; simp
set_option maxHeartbeats 1000000 in
theorem has27_any (P : ByteArray) (hp : bOk 27 P.data.toList = true) (j : Nat) (hj : j < 27) (w : World) : Calls Try.prog 70 #[.string P, .int .i64 (j : Int)] w fun e w' => e = .returned (.bool (bt P.data.toList j)) ∧ w = w' := by
  have hpz : j < P.size := by rw [← len_S, bOk_len hp]; exact hj
  cases hb : bt P.data.toList j
  · have c1 := bt_zero hp hpz hb
    clear hb hp
    go_enter Try.func70, Try.ntmps70
    go_wp2_with fail
    go_ret
    exact ⟨rfl, rfl⟩
  · have c1 := bt_yes hpz hb
    clear hb hp
    go_enter Try.func70, Try.ntmps70
    go_wp2_with fail
    go_ret
    exact ⟨rfl, rfl⟩
set_option maxRecDepth 100000 in
set_option maxHeartbeats 8000000 in
theorem FormatStates_any (P : ByteArray) (hP : P.size ≤ 1000000000000) (w : World) : Calls Try.prog 31 #[.string P] w fun e w' => (e = .returned (.string (bs (fmtS P.data.toList))) ∧ Below w.heap.size w w') := by
  have V := Lib.hid (fun w => PredValid_any P hP w)
  cases hp : bOk 27 P.data.toList
  · rw [fmt_no hp]
    rw [hp] at V
    clear hp
    go_enter Try.func31, Try.ntmps31
    go_wp2_with fail
    refine (V.out _).mono ?_
    rintro e w' ⟨rfl, rfl⟩
    go_wp2_with fail
    go_ret
    exact ⟨rfl, Below.refl _ _⟩
  · rw [hp] at V
    have HS := Lib.hid (fun j (hj : j < 27) w => has27_any P hp j hj w)
    obtain ⟨RS, hrs⟩ : ∃ r, bs (fmtS P.data.toList) = r := ⟨_, rfl⟩
    rw [hrs]
    rw [fmt_yes hp] at hrs
    have HRS := Lib.hid hrs
    clear hp hrs
    go_enter Try.func31, Try.ntmps31
    go_wp2_with fail
    refine (V.out _).mono ?_
    rintro e w' ⟨rfl, rfl⟩
    have H0 : Hid ((w.alloc (.cells #[] 9)).ownsRow w.heap.size 9 1 (.slice (some ⟨w.heap.size, 0, none⟩) 0 0) (ones P.data.toList 0).length (rowT (ones P.data.toList 0))) :=
      ⟨rfl, .inr ⟨w.heap.size, 0, #[], rfl, Nat.le_refl _, Blk.new w 9 #[], Nat.le_refl _, by simp [maxLen], rfl, rfl⟩⟩
    have B0 := Lib.hid (below_n w (.cells #[] 9))
    go_wp2_with fail
    go_loopg [3, 9] 27 (fun gk v i wr => ∃ j : Nat, j + gk = 27 ∧ i = .int .i64 j ∧ Hid (wr.ownsRow w.heap.size 9 1 v (ones P.data.toList j).length (rowT (ones P.data.toList j))) ∧ Hid (Below w.heap.size w wr))
    case atStart => exact ⟨0, rfl, rfl, H0, B0⟩
    case round =>
      clear H0 B0 V
      obtain ⟨j, hj, rfl, hown, HB⟩ := hrel
      by_cases hlt : j < 27
      · have HJ := Lib.hid (fun w => HS.out j hlt w)
        cases hb : bt P.data.toList j
        · rw [hb] at HJ
          have HO : Hid (wr.ownsRow w.heap.size 9 1 u3 (ones P.data.toList (j + 1)).length (rowT (ones P.data.toList (j + 1)))) := by rw [ones_no hb]; exact hown
          clear hb hown
          go_wp2_with fail
          refine (HJ.out _).mono ?_
          rintro e w' ⟨rfl, rfl⟩
          go_wp2_with fail
          go_roundg (gk - 1)
          case measure => omega
          case rel => exact ⟨j + 1, by omega, by go_num, HO, HB⟩
        · rw [hb] at HJ
          have HY := Lib.hid (ones_yes hb)
          have hlen := ones_le P.data.toList j
          obtain ⟨i0, hi0, hz0, hz1, hz2⟩ := info_parts str_info
          have HI := Lib.hid hi0
          have HZ0 := Lib.hid hz0
          have HZ1 := Lib.hid hz1
          have HZ2 := Lib.hid hz2
          have hz := HB.out.size
          have hrow : ∀ g, u3.ownBlock = some g → w.heap.size ≤ g := fun g e => (hown.out.lt g e).1
          have AT := Lib.hid (fun w => stateAt_any j hlt w)
          have FM := Lib.hid (fun w => FormatState_any (stX j) (stY j) (stZ j) w)
          rw [fmt_st hlt] at FM
          obtain ⟨TX, hTX⟩ : ∃ T, bs (stT j) = T := ⟨_, rfl⟩
          rw [hTX] at FM
          have HTX := Lib.hid hTX
          clear hb hi0 hz0 hz1 hz2 hTX
          go_wp2_with fail
          refine (HJ.out _).mono ?_
          rintro e w' ⟨rfl, rfl⟩
          go_wp2_with fail
          refine (AT.out _).mono ?_
          rintro e w2 ⟨rfl, hb2⟩
          have HB2 := Lib.hid (below_2 HB.out hb2)
          have hown2 := Lib.hid (row_call hown.out hb2)
          clear hb2 hown HB AT
          go_wp2_with fail
          refine (FM.out _).mono ?_
          rintro e w3 ⟨rfl, hb3⟩
          have HB3 := Lib.hid (below_2 HB2.out hb3)
          have hz3 := HB3.out.size
          have hown3 := Lib.hid (row_call hown2.out hb3)
          clear hb3 hown2 HB2 FM
          go_wp2_with (at_builtin; refine wpList_append_own _ rfl (.tmp 15) (.tmp 19) 70 rfl w.heap.size 9 i0 _ 1 16 Try.underlying70 HI.out HZ0.out HZ1.out HZ2.out rfl (by decide) u3 (ones P.data.toList j).length (rowT (ones P.data.toList j)) rfl (hown3.out.alloc _) ⟨w3.heap.size, 0, none⟩ 1 1 [.string TX] rfl rfl ?c1 ?c2 ?c3 ?c4 ?c5 ?_)
          case c1 => exact one_new w3 (.string TX) 9
          case c2 => simp [Value.oneCell']
          case c3 => simp only [maxLen]; omega
          case c4 => omega
          case c5 => first | (simp; done) | (simp; omega)
          intro v' w4 hown' hgr _
          have HO : Hid (w4.ownsRow w.heap.size 9 1 v' (ones P.data.toList (j + 1)).length (rowT (ones P.data.toList (j + 1)))) := by
            rw [HY.out, rowT_snoc, List.length_append, List.length_singleton, HTX.out]; exact hown'
          have HB4 := Lib.hid ((HB3.out.alloc hz3 (.cells #[.string TX] 9)).trans (below_of_grown hgr w.heap.size (by simp; omega) hrow))
          clear hown' hgr hrow hown3 HB3
          go_wp2_with fail
          go_roundg (gk - 1)
          case measure => omega
          case rel => exact ⟨j + 1, by omega, by go_num, HO, HB4⟩
      · obtain rfl : j = 27 := by omega
        have hr := HRS.out
        have hle := ones_le P.data.toList 27
        obtain ⟨a, cap, hv, hcap, _⟩ := row_shape hown.out
        by_cases h0 : ones P.data.toList 27 = []
        · rw [if_pos h0] at hr
          rw [h0] at hv
          subst hv
          subst hr
          clear hown hle hlt HS HRS h0
          go_wp2_with fail
          go_ret
          exact ⟨rfl, HB.out⟩
        · rw [if_neg h0] at hr
          have hpos : 0 < (ones P.data.toList 27).length := List.length_pos_iff.2 h0
          have JR := Lib.hid (join_row _ hle hown.out hpos)
          have hn : (((ones P.data.toList 27).length : Int) == 0) = false := by simp; exact h0
          rw [hr] at JR
          subst hv
          generalize (ones P.data.toList 27).length = m at *
          clear hown hle hlt HS HRS h0 hr
          go_wp2_with fail
          refine JR.out.mono ?_
          rintro e w5 ⟨rfl, hb5⟩
          have B5 := Lib.hid (below_2 HB.out hb5)
          clear hb5
          go_wp2_with fail
          go_ret
          exact ⟨rfl, B5.out⟩
theorem jn_snoc' {l : List UInt8} {j : Nat} (h : bt l j = true) : jn (ones l (j + 1)) = if ones l j = [] then stT j else jn (ones l j) ++ 32 :: stT j := by
  rw [ones_yes h]
  split
  · next e => rw [e]; rfl
  · next e => exact jn_snoc e j
theorem bs_nil {l : List UInt8} : (bs l).toList = [] ↔ l = [] := by rw [ByteArray.toList_eq, bs_list]
theorem jn_size {js : List Nat} (h : js.length ≤ 27) : (bs (jn js)).size ≤ 200 := by
  rw [bs_size]
  by_cases e : js = []
  · subst e; simp [jn]
  · have := jn_len e; omega
set_option maxRecDepth 100000 in
set_option maxHeartbeats 8000000 in
theorem FormatStatesS_any (P : ByteArray) (hP : P.size ≤ 1000000000000) (w : World) : Calls Try.prog 32 #[.string P] w fun e w' => (e = .returned (.string (bs (fmtS P.data.toList))) ∧ Below w.heap.size w w') := by
  have V := Lib.hid (fun w => PredValidS_any P hP w)
  cases hp : bOk 27 P.data.toList
  · rw [fmt_no hp]
    rw [hp] at V
    clear hp
    go_enter Try.func32, Try.ntmps32
    go_wp2_with fail
    go_loopg [3, 4] 0 (fun gk s i wr => gk = 0 ∧ i = .int .i64 0 ∧ s = .string ⟨#[]⟩ ∧ wr = w)
    case atStart => exact ⟨rfl, rfl, rfl, rfl⟩
    case round =>
      obtain ⟨rfl, rfl, rfl, rfl⟩ := hrel
      go_wp2_with fail
      refine (V.out _).mono ?_
      rintro e w' ⟨rfl, rfl⟩
      go_wp2_with fail
      refine (V.out _).mono ?_
      rintro e w' ⟨rfl, rfl⟩
      go_wp2_with fail
      go_ret
      exact ⟨rfl, Below.refl _ _⟩
  · rw [hp] at V
    have HP := Lib.hid hp
    have hz : P.size = 27 := by rw [← len_S, bOk_len hp]
    obtain ⟨RS, hrs⟩ : ∃ r, bs (fmtS P.data.toList) = r := ⟨_, rfl⟩
    rw [hrs]
    rw [fmt_yes hp] at hrs
    have HRS := Lib.hid hrs
    have HZ := Lib.hid hz
    clear hp hrs hz
    go_enter Try.func32, Try.ntmps32
    go_wp2_with fail
    go_loopg [3, 4] 27 (fun gk s i wr => ∃ (j : Nat) (A : ByteArray), j + gk = 27 ∧ i = .int .i64 j ∧ s = .string A ∧ Hid (A = bs (jn (ones P.data.toList j))) ∧ Hid (Below w.heap.size w wr))
    case atStart => exact ⟨0, _, rfl, rfl, rfl, Lib.hid rfl, Lib.hid (Below.refl _ _)⟩
    case round =>
      obtain ⟨j, A, hj, rfl, rfl, HA, HB⟩ := hrel
      by_cases hlt : j < 27
      · have hpz : j < P.size := by rw [HZ.out]; exact hlt
        have hle := ones_le P.data.toList j
        have hsz : A.size ≤ 200 := by rw [HA.out]; exact jn_size (by omega)
        cases hb : bt P.data.toList j
        · have c1 := bt_zero HP.out hpz hb
          have HA2 : Hid (A = bs (jn (ones P.data.toList (j + 1)))) := by rw [ones_no hb]; exact HA
          clear hb HA hle
          go_wp2_with fail
          refine (V.out _).mono ?_
          rintro e w' ⟨rfl, rfl⟩
          go_wp2_with fail
          go_roundg (gk - 1)
          case measure => omega
          case rel => exact ⟨j + 1, A, by omega, by go_num, rfl, HA2, HB⟩
        · have c1 := bt_yes hpz hb
          have hjs := jn_snoc' hb
          have AT := Lib.hid (fun w => l2At_any j hlt w)
          have SH := Lib.hid (fun w => l2Show_any (stX j) (stY j) (stZ j) (stX_small j) (stY_small j) (stZ_small hlt) w)
          rw [show bs (tx3 (stX j) (stY j) (stZ j)) = bs (stT j) from rfl] at SH
          obtain ⟨TX, hTX⟩ : ∃ T, bs (stT j) = T := ⟨_, rfl⟩
          have hTz : TX.size ≤ 3 := by rw [← hTX, bs_size, stT_len]; exact Nat.le_refl _
          rw [hTX] at SH
          by_cases h0 : ones P.data.toList j = []
          · rw [if_pos h0] at hjs
            have hA0 : A = ⟨#[]⟩ := by rw [HA.out, h0]; rfl
            subst hA0
            have HA2 : Hid ((⟨#[]⟩ : ByteArray) ++ TX = bs (jn (ones P.data.toList (j + 1)))) := by rw [hjs, hTX]; apply ByteArray.ext; simp
            clear hb hTX hjs h0 hle HA
            go_wp2_with fail
            refine (V.out _).mono ?_
            rintro e w' ⟨rfl, rfl⟩
            go_wp2_with fail
            refine (AT.out _).mono ?_
            rintro e w2 ⟨rfl, hb2⟩
            have HB2 := Lib.hid (below_2 HB.out hb2)
            clear hb2 HB
            go_wp2_with fail
            refine (SH.out _).mono ?_
            rintro e w3 ⟨rfl, hb3⟩
            have HB3 := Lib.hid (below_2 HB2.out hb3)
            clear hb3 HB2
            go_wp2_with fail
            go_roundg (gk - 1)
            case measure => omega
            case rel => exact ⟨j + 1, _, by omega, by go_num, rfl, HA2, HB3⟩
          · rw [if_neg h0] at hjs
            have hne : A.toList.isEmpty = false := by
              rw [HA.out, List.isEmpty_eq_false_iff]
              exact fun e => jn_ne h0 (bs_nil.1 e)
            have HA2 : Hid (A ++ (⟨#[32]⟩ : ByteArray) ++ TX = bs (jn (ones P.data.toList (j + 1)))) := by
              rw [hjs, ← hTX, HA.out, show (⟨#[32]⟩ : ByteArray) = bs [32] from rfl, bs_app, bs_app]
              congr 1
              simp
            have z1 : ¬ (9223372036854775807 < A.size + 1) := by omega
            have z2 : ¬ (9223372036854775807 < A.size + 1 + TX.size) := by omega
            clear hb hTX hjs h0 hle HA
            go_wp2_with fail
            refine (V.out _).mono ?_
            rintro e w' ⟨rfl, rfl⟩
            go_wp2_with fail
            refine (AT.out _).mono ?_
            rintro e w2 ⟨rfl, hb2⟩
            have HB2 := Lib.hid (below_2 HB.out hb2)
            clear hb2 HB
            go_wp2_with fail
            refine (SH.out _).mono ?_
            rintro e w3 ⟨rfl, hb3⟩
            have HB3 := Lib.hid (below_2 HB2.out hb3)
            clear hb3 HB2
            go_wp2_with fail
            go_roundg (gk - 1)
            case measure => omega
            case rel => exact ⟨j + 1, _, by omega, by go_num, rfl, HA2, HB3⟩
      · obtain rfl : j = 27 := by omega
        have hr := HRS.out
        by_cases h0 : ones P.data.toList 27 = []
        · rw [if_pos h0] at hr
          have hA0 : A = ⟨#[]⟩ := by rw [HA.out, h0]; rfl
          subst hA0
          subst hr
          clear HA HRS h0 hlt
          go_wp2_with fail
          refine (V.out _).mono ?_
          rintro e w' ⟨rfl, rfl⟩
          go_wp2_with fail
          go_ret
          exact ⟨rfl, HB.out⟩
        · rw [if_neg h0] at hr
          have hne : A.toList.isEmpty = false := by
            rw [HA.out, List.isEmpty_eq_false_iff]
            exact fun e => jn_ne h0 (bs_nil.1 e)
          obtain rfl : A = RS := HA.out.trans hr
          clear HA HRS h0 hlt hr
          go_wp2_with fail
          go_ret
          exact ⟨rfl, HB.out⟩

end Go.Proofs.Ytppcghklkldnaab
