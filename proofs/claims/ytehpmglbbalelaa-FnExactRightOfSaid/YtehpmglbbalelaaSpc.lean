/- The reference's reader of programs: l3End. -/
import Derived.Test.YtehpmglbbalelaaSpa
namespace Go.Proofs.Ytehpmglbbalelaa
open Go.RowKit
open Pl

set_option maxHeartbeats 1000000 in
theorem prog_neg (S : ByteArray) (wd : Bool) (w : World) : Calls Try.prog 14 #[.string S, .int .i64 (-1), .bool wd] w fun e w' => (e = .returned (.int .i64 (-1)) ∧ ∃ m, w' = w.drewN m) := by
  go_enter Try.func14, Try.ntmps14
  go_wp2
  go_ret
  exact ⟨rfl, 0, rfl⟩

set_option maxHeartbeats 8000000 in
theorem prog_any (S : ByteArray) (hS : S.size ≤ 1000000) (wd : Bool) : ∀ (n : Nat) (z : Int) (w : World), -1 ≤ z → z ≤ S.size → (S.size : Int) - z ≤ n →
    Calls Try.prog 14 #[.string S, .int .i64 z, .bool wd] w fun e w' => (e = .returned (.int .i64 (endOf wd 2 S.data.toList z)) ∧ ∃ m, w' = w.drewN m) := by
  have hlen := len_S S
  intro n
  induction n with
  | zero =>
    intro z w h1 h2 h3
    have hz : z = S.size := by omega
    have hE := endOf_out (wd := wd) (so := 2) (l := S.data.toList) (z := z) (by omega)
    rw [hE]
    subst hz
    clear h3 hE hlen
    go_enter Try.func14, Try.ntmps14
    go_wp2
    go_ret
    exact ⟨rfl, 0, rfl⟩
  | succ n ih =>
    intro z w h1 h2 h3
    by_cases hneg : z < 0
    · have hE := endOf_neg (wd := wd) (so := 2) (l := S.data.toList) hneg
      rw [hE]
      obtain rfl : z = -1 := by omega
      exact prog_neg S wd w
    obtain ⟨p, rfl⟩ := Int.eq_ofNat_of_zero_le (by omega : 0 ≤ z)
    by_cases hend : p = S.size
    · have hE := endOf_out (wd := wd) (so := 2) (l := S.data.toList) (z := p) (by omega)
      rw [hE]
      subst hend
      clear ih hE hlen h3
      go_enter Try.func14, Try.ntmps14
      go_wp2
      go_ret
      exact ⟨rfl, 0, rfl⟩
    have hlt : p < S.size := by omega
    have hIH : ∀ (z : Int) (w : World), (z = -1 ∨ ((p : Int) < z ∧ z ≤ S.size)) → Calls Try.prog 14 #[.string S, .int .i64 z, .bool wd] w fun e w' => (e = .returned (.int .i64 (endOf wd 2 S.data.toList z)) ∧ ∃ m, w' = w.drewN m) := by
      intro z w h
      rcases h with rfl | h
      · rw [endOf_neg (by omega)]; exact prog_neg S wd w
      · exact ih z w (by omega) (by omega) (by omega)
    have hrg : ∀ (so : Nat) (z : Int), so ≤ 2 → (z = -1 ∨ ((p : Int) < z ∧ z ≤ S.size)) → (endOf wd so S.data.toList z = -1 ∨ ((p : Int) < endOf wd so S.data.toList z ∧ endOf wd so S.data.toList z ≤ S.size)) := by
      intro so z hs h
      rcases h with rfl | h
      · exact .inl (endOf_neg (by omega))
      · rcases endOf_range (wd := wd) (so := so) (l := S.data.toList) (z := z) hs with h4 | h4
        · exact .inl h4
        · exact .inr ⟨by omega, by omega⟩
    obtain ⟨c, hch⟩ : ∃ c, S[p] = c := ⟨_, rfl⟩
    have hch' : S.data.toList[p]'(by omega) = c := hch
    have r0 : (p : Int) + 1 = -1 ∨ ((p : Int) < (p : Int) + 1 ∧ (p : Int) + 1 ≤ S.size) := .inr ⟨by omega, by omega⟩
    have r2 := hrg 2 _ (by omega) r0
    have r1 := hrg 1 _ (by omega) r0
    have r12 := hrg 2 _ (by omega) r1
    have P1 := Lib.hid (fun w => hIH _ w r0)
    have P2 := Lib.hid (fun w => hIH _ w r2)
    have Q1 := Lib.hid (fun w => hIH _ w r1)
    have Q2 := Lib.hid (fun w => hIH _ w r12)
    have T1 := Lib.hid (fun w => test_all S hS wd ((p : Int) + 1) w (by omega) (by omega))
    clear hIH r0 r1 r2 r12 hrg ih hend hneg
    by_cases h97 : c = 97
    · subst h97
      rw [endOf_set (wd := wd) (l := S.data.toList) (p := p) (by omega) hch']
      clear P1 P2 Q1 Q2 T1 hch'
      by_cases hl1 : p + 1 < S.size
      · rw [dif_pos (by omega)]
        obtain ⟨d, hd⟩ : ∃ d, S[p + 1] = d := ⟨_, rfl⟩
        have hd' : S.data.toList[p + 1]'(by omega) = d := hd
        rw [hd']
        have g1 : decide ((S.size : Int) ≤ (p : Int) + 1) = false := by simp; omega
        have g2 : ¬ ((S.size : Int) ≤ (p : Int) + 1) := by omega
        clear hd' hlen
        by_cases hv : isV wd d = true
        · rw [if_pos hv]
          obtain ⟨v, v0, v1, V⟩ := find_yes (l := nms wd) (c := d) (by cases wd <;> decide) (mem_nms.2 hv)
          have HV := Lib.hid V
          have EX := Lib.hid (fun w => expr_all S hS wd ((p : Int) + 2) w (by omega) (by omega))
          clear V hv
          go_enter Try.func14, Try.ntmps14
          go_wp2_with fail
          go_quiet (first
            | (go_at_call 19; exact quiet_off (names_any wd _))
            | (go_at_call 18; with_reducible exact quiet_off (HV.out _)))
          go_wp2_with fail
          refine (EX.out _).mono ?_
          rintro e w' ⟨rfl, m1, rfl⟩
          go_wp2_with fail
          go_ret
          exact ⟨rfl, _, rfl⟩
        · rw [if_neg hv]
          have NV := Lib.hid (find_no (l := nms wd) (c := d) (by cases wd <;> decide) (fun h => hv (mem_nms.1 h)))
          clear hv
          go_enter Try.func14, Try.ntmps14
          go_wp2_with fail
          go_quiet (first
            | (go_at_call 19; exact quiet_off (names_any wd _))
            | (go_at_call 18; with_reducible exact quiet_off (NV.out _)))
          go_wp2_with fail
          go_ret
          exact ⟨rfl, _, rfl⟩
      · rw [dif_neg (by omega)]
        have g1 : decide ((S.size : Int) ≤ (p : Int) + 1) = true := by simp; omega
        have g2 : ((S.size : Int) ≤ (p : Int) + 1) := by omega
        clear hl1 hlen
        go_enter Try.func14, Try.ntmps14
        go_wp2_with fail
        go_quiet (fail)
        go_wp2_with fail
        go_ret
        exact ⟨rfl, _, rfl⟩
    have hE := endOf_step (wd := wd) (so := 2) (l := S.data.toList) (p := p) (by omega) (by omega) (by rw [hch']; exact fun h => h97 h.2)
    rw [hch'] at hE
    rw [hE]
    clear hE hch' hlen
    by_cases h115 : c = 115
    · subst h115
      have hw : want wd 2 115 = some [] := rfl
      rw [hw]
      clear hw
      simp only [ends]
      go_enter Try.func14, Try.ntmps14
      go_wp2_with fail
      go_ret
      exact ⟨rfl, 0, rfl⟩
    by_cases h59 : c = 59
    · subst h59
      have hw : want wd 2 59 = some [2, 2] := rfl
      rw [hw]
      clear hw
      simp only [ends]
      go_enter Try.func14, Try.ntmps14
      go_wp2_with fail
      refine (P1.out _).mono ?_
      rintro e w' ⟨rfl, m0, rfl⟩
      go_wp2_with fail
      refine (P2.out _).mono ?_
      rintro e w' ⟨rfl, m1, rfl⟩
      go_wp2_with fail
      go_ret
      exact ⟨rfl, _, rfl⟩
    by_cases h47 : c = 47
    · subst h47
      have hw : want wd 2 47 = some [2, 2] := rfl
      rw [hw]
      clear hw
      simp only [ends]
      go_enter Try.func14, Try.ntmps14
      go_wp2_with fail
      refine (P1.out _).mono ?_
      rintro e w' ⟨rfl, m0, rfl⟩
      go_wp2_with fail
      refine (P2.out _).mono ?_
      rintro e w' ⟨rfl, m1, rfl⟩
      go_wp2_with fail
      go_ret
      exact ⟨rfl, _, rfl⟩
    by_cases h63 : c = 63
    · subst h63
      have hw : want wd 2 63 = some [1, 2, 2] := rfl
      rw [hw]
      clear hw
      simp only [ends]
      go_enter Try.func14, Try.ntmps14
      go_wp2_with fail
      refine (T1.out _).mono ?_
      rintro e w' ⟨rfl, m0, rfl⟩
      go_wp2_with fail
      refine (Q1.out _).mono ?_
      rintro e w' ⟨rfl, m1, rfl⟩
      go_wp2_with fail
      refine (Q2.out _).mono ?_
      rintro e w' ⟨rfl, m2, rfl⟩
      go_wp2_with fail
      go_ret
      exact ⟨rfl, _, rfl⟩
    by_cases h64 : c = 64
    · subst h64
      have hw : want wd 2 64 = some [1, 2] := rfl
      rw [hw]
      clear hw
      simp only [ends]
      go_enter Try.func14, Try.ntmps14
      go_wp2_with fail
      refine (T1.out _).mono ?_
      rintro e w' ⟨rfl, m0, rfl⟩
      go_wp2_with fail
      refine (Q1.out _).mono ?_
      rintro e w' ⟨rfl, m1, rfl⟩
      go_wp2_with fail
      go_ret
      exact ⟨rfl, _, rfl⟩
    by_cases h126 : c = 126
    · subst h126
      have hw : want wd 2 126 = some [1] := rfl
      rw [hw]
      clear hw
      simp only [ends]
      go_enter Try.func14, Try.ntmps14
      go_wp2_with fail
      refine (T1.out _).mono ?_
      rintro e w' ⟨rfl, m0, rfl⟩
      go_wp2_with fail
      go_ret
      exact ⟨rfl, _, rfl⟩
    have e97 := u8_ne 97 h97 (by decide)
    have e115 := u8_ne 115 h115 (by decide)
    have e59 := u8_ne 59 h59 (by decide)
    have e47 := u8_ne 47 h47 (by decide)
    have e63 := u8_ne 63 h63 (by decide)
    have e64 := u8_ne 64 h64 (by decide)
    have e126 := u8_ne 126 h126 (by decide)
    simp only [Int.cast_ofNat_Int] at e97 e115 e59 e47 e63 e64 e126
    have hw : want wd 2 c = none := by simp [want, h115, h59, h47, h63, h64, h126]
    rw [hw]
    clear hw h97 h115 h59 h47 h63 h64 h126 P1 P2 Q1 Q2 T1
    go_enter Try.func14, Try.ntmps14
    go_wp2_with fail
    go_ret
    exact ⟨rfl, 0, rfl⟩
theorem prog_all (S : ByteArray) (hS : S.size ≤ 1000000) (wd : Bool) (z : Int) (w : World) (h1 : -1 ≤ z) (h2 : z ≤ S.size) :
    Calls Try.prog 14 #[.string S, .int .i64 z, .bool wd] w fun e w' => (e = .returned (.int .i64 (endOf wd 2 S.data.toList z)) ∧ ∃ m, w' = w.drewN m) :=
  prog_any S hS wd ((S.size : Int) - z).toNat z w h1 h2 (by omega)

end Go.Proofs.Ytehpmglbbalelaa
