/- The reference's readers of texts: the contracts of l14Find, l1Names, l1Expr, l1Test. -/
import Derived.Test.YtehpmglbbalelaaRows
import Derived.Test.YtehpmglbbalelaaGb
import Derived.Test.YtehpmglbbalelaaGa
import Derived.WalkLawsBesides
import Derived.Deep.QuietTactic
import Derived.BigQuiet
import Derived.Deep.RegionWith
namespace Go.Proofs.Ytehpmglbbalelaa
open Go.RowKit
open Pl

set_option maxHeartbeats 1000000 in
theorem find_any (S : ByteArray) (c : UInt8) (hS : S.size ≤ 1000000) (w : World) :
    Calls Try.prog 18 #[.string S, .int .u8 c.toNat] w fun e w' => e = .returned (.int .i64 (fnd S.data.toList c)) ∧ w = w' := by
  go_enter Try.func18, Try.ntmps18
  go_wp2
  go_loop [5] (fun i => ∃ k : Nat, k ≤ S.size ∧ i = .int .i64 k ∧ Hid (∀ j (hj : j < k) (h2 : j < S.size), S[j] ≠ c)) (fun i => S.size - (intOf i).toNat)
  case atStart => exact ⟨0, Nat.zero_le _, rfl, fun j hj => absurd hj (by omega)⟩
  case round =>
    obtain ⟨k, hk, rfl, hno⟩ := hrel
    by_cases hlt : k < S.size
    · by_cases he : S[k] = c
      · have hf := fnd_found (l := S.data.toList) (k := k) (c := c) (by simpa using hlt) he (fun j hj => hno.out j hj (by omega))
        have HF := Lib.hid hf
        clear hf
        subst he
        go_wp2
        go_ret
        exact ⟨ret_int HF.out.symm, rfl⟩
      · have hb : ((S[k].toNat : Int) == (c.toNat : Int)) = false := by
          simp; intro e; exact he (UInt8.toNat_inj.1 (by omega))
        have HN : Hid (∀ j (hj : j < k + 1) (h2 : j < S.size), S[j] ≠ c) := by
          intro j hj h2
          by_cases hjk : j = k
          · subst hjk; exact he
          · exact hno.out j (by omega) h2
        clear he hno
        go_wp2
        go_round
        case rel => exact ⟨k + 1, by omega, by go_num, HN⟩
        case measure => simp [intOf]; omega
    · have hl := len_S S
      have hf := fnd_none (l := S.data.toList) (c := c) (fun j hj => hno.out j (by omega) (by omega))
      clear hl
      have HF := Lib.hid hf
      clear hf hno
      go_wp2
      go_ret
      exact ⟨ret_int HF.out.symm, rfl⟩

set_option maxHeartbeats 1000000 in
theorem names_any (wd : Bool) (w : World) : Calls Try.prog 19 #[.bool wd] w fun e w' => e = .returned (.string ⟨(nms wd).toArray⟩) ∧ w = w' := by
  cases wd
  all_goals
    go_enter Try.func19, Try.ntmps19
    go_wp2
    go_ret
    exact ⟨rfl, rfl⟩

/-- what the search for a letter among others gives, as the walk wants it -/
theorem find_yes {l : List UInt8} {c : UInt8} (hl : l.length ≤ 1000) (h : c ∈ l) : ∃ v : Int, 0 ≤ v ∧ v < l.length ∧ ∀ W, Calls Try.prog 18 #[.string ⟨l.toArray⟩, .int .u8 c.toNat] W fun e w' => e = .returned (.int .i64 v) ∧ W = w' :=
  ⟨fnd l c, fnd_mem.2 h, (fnd_range c l).2.1, fun W => find_any ⟨l.toArray⟩ c (by show l.toArray.size ≤ _; simp; omega) W⟩
theorem find_no {l : List UInt8} {c : UInt8} (hl : l.length ≤ 1000) (h : ¬ c ∈ l) : ∀ W, Calls Try.prog 18 #[.string ⟨l.toArray⟩, .int .u8 c.toNat] W fun e w' => e = .returned (.int .i64 (-1)) ∧ W = w' := by
  intro W
  have e : fnd l c = -1 := by
    have h1 : ¬ 0 ≤ fnd l c := fun h0 => h (fnd_mem.1 h0)
    have := fnd_range c l
    omega
  have := find_any ⟨l.toArray⟩ c (by show l.toArray.size ≤ _; simp; omega) W
  rw [show (⟨l.toArray⟩ : ByteArray).data.toList = l from rfl, e] at this
  exact this

set_option maxHeartbeats 1000000 in
theorem expr_neg (S : ByteArray) (wd : Bool) (w : World) : Calls Try.prog 20 #[.string S, .int .i64 (-1), .bool wd] w fun e w' => (e = .returned (.int .i64 (-1)) ∧ ∃ m, w' = w.drewN m) := by
  go_enter Try.func20, Try.ntmps20
  go_wp2
  go_ret
  exact ⟨rfl, 0, rfl⟩

set_option maxHeartbeats 4000000 in
theorem expr_any (S : ByteArray) (hS : S.size ≤ 1000000) (wd : Bool) : ∀ (n : Nat) (z : Int) (w : World), -1 ≤ z → z ≤ S.size → (S.size : Int) - z ≤ n →
    Calls Try.prog 20 #[.string S, .int .i64 z, .bool wd] w fun e w' => (e = .returned (.int .i64 (endOf wd 0 S.data.toList z)) ∧ ∃ m, w' = w.drewN m) := by
  have hlen := len_S S
  intro n
  induction n with
  | zero =>
    intro z w h1 h2 h3
    have hz : z = S.size := by omega
    have hE := endOf_out (wd := wd) (so := 0) (l := S.data.toList) (z := z) (by omega)
    rw [hE]
    subst hz
    clear h3 hE hlen
    go_enter Try.func20, Try.ntmps20
    go_wp2
    go_ret
    exact ⟨rfl, 0, rfl⟩
  | succ n ih =>
    intro z w h1 h2 h3
    by_cases hneg : z < 0
    · have hE := endOf_neg (wd := wd) (so := 0) (l := S.data.toList) hneg
      rw [hE]
      obtain rfl : z = -1 := by omega
      exact expr_neg S wd w
    obtain ⟨p, rfl⟩ := Int.eq_ofNat_of_zero_le (by omega : 0 ≤ z)
    by_cases hend : p = S.size
    · have hE := endOf_out (wd := wd) (so := 0) (l := S.data.toList) (z := p) (by omega)
      rw [hE]
      subst hend
      clear ih hE hlen h3
      go_enter Try.func20, Try.ntmps20
      go_wp2
      go_ret
      exact ⟨rfl, 0, rfl⟩
    have hlt : p < S.size := by omega
    have hE := endOf_step (wd := wd) (so := 0) (l := S.data.toList) (p := p) (by omega) (by omega) (by simp)
    obtain ⟨c, hch⟩ : ∃ c, S[p] = c := ⟨_, rfl⟩
    have hch' : S.data.toList[p]'(by omega) = c := hch
    rw [hch'] at hE
    rw [hE]
    have hr1 := endOf_range (wd := wd) (so := 0) (l := S.data.toList) (z := (p : Int) + 1) (by omega)
    have H1 := Lib.hid (ih ((p : Int) + 1))
    have h2c : ∀ w : World, Calls Try.prog 20 #[.string S, .int .i64 (endOf wd 0 S.data.toList ((p : Int) + 1)), .bool wd] w fun e w' => (e = .returned (.int .i64 (endOf wd 0 S.data.toList (endOf wd 0 S.data.toList ((p : Int) + 1)))) ∧ ∃ m, w' = w.drewN m) := by
      intro w
      rcases hr1 with h | h
      · rw [h, endOf_neg (by omega)]
        exact expr_neg S wd w
      · exact ih _ w (by omega) (by omega) (by omega)
    have H2 := Lib.hid h2c
    clear h2c
    clear ih hend hch' hE hneg
    have hc256 := c.toNat_lt
    by_cases hv : isV wd c = true
    · have hw : want wd 0 c = some [] := by simp [want, hv]
      rw [hw]
      obtain ⟨v, v0, v1, V⟩ := find_yes (l := nms wd) (c := c) (by cases wd <;> decide) (mem_nms.2 hv)
      have HV := Lib.hid V
      clear V hv hw H1 H2 hlen
      go_enter Try.func20, Try.ntmps20
      go_wp2_with fail
      go_quiet (first
        | (go_at_call 19; exact quiet_off (names_any wd _))
        | (go_at_call 18; with_reducible exact quiet_off (HV.out _)))
      go_wp2_with fail
      go_ret
      exact ⟨rfl, _, rfl⟩
    · have NV := Lib.hid (find_no (l := nms wd) (c := c) (by cases wd <;> decide) (fun h => hv (mem_nms.1 h)))
      by_cases hd : isD c = true
      · have hw : want wd 0 c = some [] := by simp [want, hd]
        rw [hw]
        obtain ⟨v, v0, v1, V⟩ := find_yes (l := [48, 49, 50]) (c := c) (by decide) (mem_digs.2 hd)
        have HV := Lib.hid V
        clear V hv hd hw H1 H2 hlen
        go_enter Try.func20, Try.ntmps20
        go_wp2_with fail
        go_quiet (first
          | (go_at_call 19; exact quiet_off (names_any wd _))
          | (go_at_call 18; with_reducible exact quiet_off (NV.out _))
          | (go_at_call 18; with_reducible exact quiet_off (HV.out _)))
        go_wp2_with fail
        go_ret
        exact ⟨rfl, _, rfl⟩
      · have ND := Lib.hid (find_no (l := [48, 49, 50]) (c := c) (by decide) (fun h => hd (mem_digs.1 h)))
        by_cases ho : isO c = true
        · have hw : want wd 0 c = some [0, 0] := by simp [want, hv, hd, ho]
          rw [hw]
          simp only [ends]
          obtain ⟨v, v0, v1, V⟩ := find_yes (l := [43, 45, 42]) (c := c) (by decide) (mem_ops.2 ho)
          have HV := Lib.hid V
          clear V hv hd ho hw
          generalize hz1 : endOf wd 0 S.data.toList ((p : Int) + 1) = z1 at *
          generalize hz2 : endOf wd 0 S.data.toList z1 = z2 at *
          clear hz1 hz2 hr1 hlen
          go_enter Try.func20, Try.ntmps20
          go_wp2_with fail
          go_quiet (first
            | (go_at_call 19; exact quiet_off (names_any wd _))
            | (go_at_call 18; with_reducible exact quiet_off (NV.out _))
            | (go_at_call 18; with_reducible exact quiet_off (ND.out _)))
          go_wp2_with fail
          refine (HV.out _).mono ?_
          rintro e w' ⟨rfl, rfl⟩
          go_wp2_with fail
          refine (H1.out _ (by omega) (by omega) (by omega)).mono ?_
          rintro e w' ⟨rfl, m1, rfl⟩
          go_wp2_with fail
          refine (H2.out _).mono ?_
          rintro e w' ⟨rfl, m2, rfl⟩
          go_wp2_with fail
          go_ret
          exact ⟨rfl, _, rfl⟩
        · have hw : want wd 0 c = none := by simp [want, hv, hd, ho]
          rw [hw]
          have NO := Lib.hid (find_no (l := [43, 45, 42]) (c := c) (by decide) (fun h => ho (mem_ops.1 h)))
          clear hv hd ho hw H1 H2 hlen
          go_enter Try.func20, Try.ntmps20
          go_wp2_with fail
          go_quiet (first
            | (go_at_call 19; exact quiet_off (names_any wd _))
            | (go_at_call 18; with_reducible exact quiet_off (NV.out _))
            | (go_at_call 18; with_reducible exact quiet_off (ND.out _)))
          go_wp2_with fail
          refine (NO.out _).mono ?_
          rintro e w' ⟨rfl, rfl⟩
          go_wp2_with fail
          go_ret
          exact ⟨rfl, _, rfl⟩

theorem expr_all (S : ByteArray) (hS : S.size ≤ 1000000) (wd : Bool) (z : Int) (w : World) (h1 : -1 ≤ z) (h2 : z ≤ S.size) :
    Calls Try.prog 20 #[.string S, .int .i64 z, .bool wd] w fun e w' => (e = .returned (.int .i64 (endOf wd 0 S.data.toList z)) ∧ ∃ m, w' = w.drewN m) :=
  expr_any S hS wd ((S.size : Int) - z).toNat z w h1 h2 (by omega)
theorem endOf_bounds {wd : Bool} {so : Nat} {S : ByteArray} {z : Int} (hs : so ≤ 2) : -1 ≤ endOf wd so S.data.toList z ∧ endOf wd so S.data.toList z ≤ S.size := by
  have hl := len_S S
  rcases endOf_range (wd := wd) (so := so) (l := S.data.toList) (z := z) hs with h | h <;> omega

set_option maxHeartbeats 1000000 in
theorem test_neg (S : ByteArray) (wd : Bool) (w : World) : Calls Try.prog 21 #[.string S, .int .i64 (-1), .bool wd] w fun e w' => (e = .returned (.int .i64 (-1)) ∧ ∃ m, w' = w.drewN m) := by
  go_enter Try.func21, Try.ntmps21
  go_wp2
  go_ret
  exact ⟨rfl, 0, rfl⟩

set_option maxHeartbeats 4000000 in
theorem test_any (S : ByteArray) (hS : S.size ≤ 1000000) (wd : Bool) : ∀ (n : Nat) (z : Int) (w : World), -1 ≤ z → z ≤ S.size → (S.size : Int) - z ≤ n →
    Calls Try.prog 21 #[.string S, .int .i64 z, .bool wd] w fun e w' => (e = .returned (.int .i64 (endOf wd 1 S.data.toList z)) ∧ ∃ m, w' = w.drewN m) := by
  have hlen := len_S S
  intro n
  induction n with
  | zero =>
    intro z w h1 h2 h3
    have hz : z = S.size := by omega
    have hE := endOf_out (wd := wd) (so := 1) (l := S.data.toList) (z := z) (by omega)
    rw [hE]
    subst hz
    clear h3 hE hlen
    go_enter Try.func21, Try.ntmps21
    go_wp2
    go_ret
    exact ⟨rfl, 0, rfl⟩
  | succ n ih =>
    intro z w h1 h2 h3
    by_cases hneg : z < 0
    · have hE := endOf_neg (wd := wd) (so := 1) (l := S.data.toList) hneg
      rw [hE]
      obtain rfl : z = -1 := by omega
      exact test_neg S wd w
    obtain ⟨p, rfl⟩ := Int.eq_ofNat_of_zero_le (by omega : 0 ≤ z)
    by_cases hend : p = S.size
    · have hE := endOf_out (wd := wd) (so := 1) (l := S.data.toList) (z := p) (by omega)
      rw [hE]
      subst hend
      clear ih hE hlen h3
      go_enter Try.func21, Try.ntmps21
      go_wp2
      go_ret
      exact ⟨rfl, 0, rfl⟩
    have hlt : p < S.size := by omega
    have hE := endOf_step (wd := wd) (so := 1) (l := S.data.toList) (p := p) (by omega) (by omega) (by simp)
    obtain ⟨c, hch⟩ : ∃ c, S[p] = c := ⟨_, rfl⟩
    have hch' : S.data.toList[p]'(by omega) = c := hch
    rw [hch'] at hE
    rw [hE]
    have b1 := endOf_bounds (wd := wd) (so := 0) (S := S) (z := (p : Int) + 1) (by omega)
    have hr1 := endOf_range (wd := wd) (so := 1) (l := S.data.toList) (z := (p : Int) + 1) (by omega)
    have H1 := Lib.hid (ih ((p : Int) + 1))
    have h2c : ∀ w : World, Calls Try.prog 21 #[.string S, .int .i64 (endOf wd 1 S.data.toList ((p : Int) + 1)), .bool wd] w fun e w' => (e = .returned (.int .i64 (endOf wd 1 S.data.toList (endOf wd 1 S.data.toList ((p : Int) + 1)))) ∧ ∃ m, w' = w.drewN m) := by
      intro w
      rcases hr1 with h | h
      · rw [h, endOf_neg (by omega)]
        exact test_neg S wd w
      · exact ih _ w (by omega) (by omega) (by omega)
    have H2 := Lib.hid h2c
    have E1 := Lib.hid (fun w => expr_all S hS wd ((p : Int) + 1) w (by omega) (by omega))
    have E2 := Lib.hid (fun w => expr_all S hS wd (endOf wd 0 S.data.toList ((p : Int) + 1)) w b1.1 b1.2)
    clear h2c ih hend hch' hE hneg hr1 b1 hlen
    by_cases h116 : c = 116
    · subst h116
      have hw : want wd 1 116 = some [] := rfl
      rw [hw]
      clear hw
      simp only [ends]
      go_enter Try.func21, Try.ntmps21
      go_wp2_with fail
      go_ret
      exact ⟨rfl, 0, rfl⟩
    by_cases h102 : c = 102
    · subst h102
      have hw : want wd 1 102 = some [] := rfl
      rw [hw]
      clear hw
      simp only [ends]
      go_enter Try.func21, Try.ntmps21
      go_wp2_with fail
      go_ret
      exact ⟨rfl, 0, rfl⟩
    by_cases h61 : c = 61
    · subst h61
      have hw : want wd 1 61 = some [0, 0] := rfl
      rw [hw]
      clear hw
      simp only [ends]
      go_enter Try.func21, Try.ntmps21
      go_wp2_with fail
      refine (E1.out _).mono ?_
      rintro e w' ⟨rfl, m1, rfl⟩
      go_wp2_with fail
      refine (E2.out _).mono ?_
      rintro e w' ⟨rfl, m2, rfl⟩
      go_wp2_with fail
      go_ret
      exact ⟨rfl, _, rfl⟩
    by_cases h60 : c = 60
    · subst h60
      have hw : want wd 1 60 = some [0, 0] := rfl
      rw [hw]
      clear hw
      simp only [ends]
      go_enter Try.func21, Try.ntmps21
      go_wp2_with fail
      refine (E1.out _).mono ?_
      rintro e w' ⟨rfl, m1, rfl⟩
      go_wp2_with fail
      refine (E2.out _).mono ?_
      rintro e w' ⟨rfl, m2, rfl⟩
      go_wp2_with fail
      go_ret
      exact ⟨rfl, _, rfl⟩
    by_cases h33 : c = 33
    · subst h33
      have hw : want wd 1 33 = some [1] := rfl
      rw [hw]
      clear hw
      simp only [ends]
      go_enter Try.func21, Try.ntmps21
      go_wp2_with fail
      refine (H1.out _ (by omega) (by omega) (by omega)).mono ?_
      rintro e w' ⟨rfl, m1, rfl⟩
      go_wp2_with fail
      go_ret
      exact ⟨rfl, _, rfl⟩
    by_cases h38 : c = 38
    · subst h38
      have hw : want wd 1 38 = some [1, 1] := rfl
      rw [hw]
      clear hw
      simp only [ends]
      go_enter Try.func21, Try.ntmps21
      go_wp2_with fail
      refine (H1.out _ (by omega) (by omega) (by omega)).mono ?_
      rintro e w' ⟨rfl, m1, rfl⟩
      go_wp2_with fail
      refine (H2.out _).mono ?_
      rintro e w' ⟨rfl, m2, rfl⟩
      go_wp2_with fail
      go_ret
      exact ⟨rfl, _, rfl⟩
    by_cases h124 : c = 124
    · subst h124
      have hw : want wd 1 124 = some [1, 1] := rfl
      rw [hw]
      clear hw
      simp only [ends]
      go_enter Try.func21, Try.ntmps21
      go_wp2_with fail
      refine (H1.out _ (by omega) (by omega) (by omega)).mono ?_
      rintro e w' ⟨rfl, m1, rfl⟩
      go_wp2_with fail
      refine (H2.out _).mono ?_
      rintro e w' ⟨rfl, m2, rfl⟩
      go_wp2_with fail
      go_ret
      exact ⟨rfl, _, rfl⟩
    have e116 := u8_ne 116 h116 (by decide)
    have e102 := u8_ne 102 h102 (by decide)
    have e61 := u8_ne 61 h61 (by decide)
    have e60 := u8_ne 60 h60 (by decide)
    have e33 := u8_ne 33 h33 (by decide)
    have e38 := u8_ne 38 h38 (by decide)
    have e124 := u8_ne 124 h124 (by decide)
    simp only [Int.cast_ofNat_Int] at e116 e102 e61 e60 e33 e38 e124
    have hw : want wd 1 c = none := by simp [want, h116, h102, h61, h60, h33, h38, h124]
    rw [hw]
    clear hw h116 h102 h61 h60 h33 h38 h124 H1 H2 E1 E2
    go_enter Try.func21, Try.ntmps21
    go_wp2_with fail
    go_ret
    exact ⟨rfl, 0, rfl⟩
theorem test_all (S : ByteArray) (hS : S.size ≤ 1000000) (wd : Bool) (z : Int) (w : World) (h1 : -1 ≤ z) (h2 : z ≤ S.size) :
    Calls Try.prog 21 #[.string S, .int .i64 z, .bool wd] w fun e w' => (e = .returned (.int .i64 (endOf wd 1 S.data.toList z)) ∧ ∃ m, w' = w.drewN m) :=
  test_any S hS wd ((S.size : Int) - z).toNat z w h1 h2 (by omega)

end Go.Proofs.Ytehpmglbbalelaa
