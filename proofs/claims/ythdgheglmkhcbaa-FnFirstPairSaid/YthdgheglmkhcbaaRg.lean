/- What a loop can do. -/
import Derived.Test.YthdgheglmkhcbaaRe
namespace Go.Proofs.Ythdgheglmkhcbaa
open Go.RowKit
open Pl

/-- rounds until nothing turns -/
def itN (rd : Nat → Nat) : Nat → Nat → Nat
  | 0, h => h
  | k + 1, h => itN rd k (rd h)
def Lp (rd : Nat → Nat) (h r : Nat) : Prop := ∃ k, r = itN rd k h ∧ rd r = r
theorem itN_fix {rd : Nat → Nat} {h : Nat} (e : rd h = h) : ∀ k, itN rd k h = h
  | 0 => rfl
  | k + 1 => by rw [itN, e]; exact itN_fix e k
theorem Lp.done {rd : Nat → Nat} {h r : Nat} (H : Lp rd h r) (e : rd h = h) : r = h := by
  obtain ⟨k, hk, _⟩ := H
  rw [hk]; exact itN_fix e k
theorem Lp.next {rd : Nat → Nat} {h r : Nat} (H : Lp rd h r) : Lp rd (rd h) r := by
  obtain ⟨k, hk, hr⟩ := H
  cases k with
  | zero =>
    have e : r = h := hk
    subst e
    exact ⟨0, by show r = rd r; exact hr.symm, hr⟩
  | succ k => exact ⟨k, hk, hr⟩
theorem Lp.up {rd : Nat → Nat} (B : Nat) (hb : ∀ h, h < B → rd h < B) (hm : ∀ h, h ≤ rd h) : ∀ (d h : Nat), B - h = d → h < B → ∃ r, r < B ∧ Lp rd h r := by
  intro d
  induction d using Nat.strongRecOn with
  | _ d ih =>
    intro h hd hlt
    by_cases e : rd h = h
    · exact ⟨h, hlt, 0, rfl, e⟩
    · have := hm h
      have h2 := hb h hlt
      obtain ⟨r, hr, k, hk, hf⟩ := ih (B - rd h) (by omega) (rd h) rfl h2
      exact ⟨r, hr, k + 1, hk, hf⟩
theorem Lp.down {rd : Nat → Nat} (hm : ∀ h, rd h ≤ h) : ∀ (h : Nat), ∃ r, r ≤ h ∧ Lp rd h r := by
  intro h
  induction h using Nat.strongRecOn with
  | _ h ih =>
    by_cases e : rd h = h
    · exact ⟨h, Nat.le_refl _, 0, rfl, e⟩
    · have := hm h
      obtain ⟨r, hr, k, hk, hf⟩ := ih (rd h) (by omega)
      exact ⟨r, by omega, k + 1, hk, hf⟩
/-- a round of the heads -/
def hdR (m : Nat) (fb : Nat → Nat) (d h : Nat) : Nat → Nat
  | 0 => h
  | j + 1 => if bitN (d &&& m) j then hdR m fb d h j ||| fb j else hdR m fb d h j
theorem hdR_le (m : Nat) (fb : Nat → Nat) (d h : Nat) : ∀ j, h ≤ hdR m fb d h j
  | 0 => Nat.le_refl _
  | j + 1 => by
    have := hdR_le m fb d h j
    rw [hdR]
    split
    · exact Nat.le_trans this Nat.left_le_or
    · exact this
theorem hdR_lt {m : Nat} {fb : Nat → Nat} {d h : Nat} (hb : M29 fb) (hh : h < 134217728) (j : Nat) : j ≤ 27 → hdR m fb d h j < 134217728 := by
  induction j with
  | zero => intro _; exact hh
  | succ j ih =>
    intro hj
    rw [hdR]
    split
    · exact or_lt (ih (by omega)) (hb j (by omega))
    · exact ih (by omega)
/-- a round of what goes on for ever -/
def enR (fb : Nat → Nat) (b o : Nat) : Nat → Nat
  | 0 => o
  | j + 1 => if (fb j &&& b) == 0 then adn (enR fb b o j) (2 ^ j) else enR fb b o j
theorem enR_le (fb : Nat → Nat) (b o : Nat) : ∀ j, enR fb b o j ≤ o
  | 0 => Nat.le_refl _
  | j + 1 => by
    have := enR_le fb b o j
    rw [enR]
    split
    · exact Nat.le_trans (adn_le _ _) this
    · exact this
set_option maxRecDepth 100000 in
set_option maxHeartbeats 16000000 in
theorem l4Heads_walk (fb : Nat → Nat) (hb : M29 fb) (m : Nat) (hm : m < 134217728) (i : Nat) (hi : i < 27) (r : Nat) (hr : Lp (fun h => hdR m fb h h 27) (2 ^ i) r) (w : World) : Calls Try.prog 188 #[.int .i64 (m : Int), .agg (av 29 fb), .int .i64 (i : Int)] w fun e w' => (e = .returned (.int .i64 (r : Nat)) ∧ Below w.heap.size w w') := by
  have FB := Lib.hid hb
  obtain ⟨V, hV⟩ : ∃ V, av 29 fb = V := ⟨_, rfl⟩
  rw [hV]
  have K0 := Lib.hid (Blk.new w 95 V)
  have B0 := Lib.hid (below_n w (.cells V 95))
  have HV := Lib.hid hV
  have h0 := wrap_pow hi
  have HL := Lib.hid hr
  have hpos : 0 ≠ 2 ^ i := (Nat.ne_of_gt (Nat.two_pow_pos i)).symm
  have HJ : Hid (0 = 2 ^ i → hdR m fb (2 ^ i) (2 ^ i) 27 = 2 ^ i) := fun e => absurd e hpos
  have hlt := p27 hi
  clear hb hV hr
  go_enter Try.func188, Try.ntmps188
  go_wp2_with fail
  try rw [h0]
  obtain ⟨hs, hhs⟩ : ∃ n, 2 ^ i = n := ⟨_, rfl⟩
  rw [hhs] at HL HJ hlt
  try rw [hhs]
  clear h0 hpos hhs
  go_loopg [7, 8] 268435457 (fun gk s7 s8 wr => ∃ h d : Nat, s7 = .int .i64 h ∧ s8 = .int .i64 d ∧ h < 134217728 ∧ 2 * (134217728 - h) + (if d = h then 0 else 1) ≤ gk ∧ Hid (Lp (fun h => hdR m fb h h 27) h r) ∧ Hid (d = h → hdR m fb h h 27 = h) ∧ Hid (Blk wr w.heap.size 95 V) ∧ Hid (Below w.heap.size w wr))
  case atStart => exact ⟨hs, 0, rfl, rfl, hlt, by split <;> omega, HL, HJ, K0, B0⟩
  case round =>
    clear HL HJ K0 B0 hlt
    obtain ⟨h, d, rfl, rfl, hh, hgk, HL, HJ, K, B⟩ := hrel
    obtain ⟨go, hgo⟩ : ∃ n, n = gk := ⟨_, rfl⟩
    rw [← hgo] at hgk
    by_cases hd : d = h
    · have hr := HL.out.done (HJ.out hd)
      have e1 : ((d : Int) != (h : Int)) = false := by simp [hd]
      subst hr
      clear HL HJ hgk hd
      go_wp2_with fail
      go_ret
      exact ⟨rfl, B.out⟩
    · have e1 : ((d : Int) != (h : Int)) = true := by simp; omega
      rw [if_neg hd] at hgk
      have HL2 := Lib.hid HL.out.next
      have HG := Lib.hid hgk
      clear HJ HL hgk hd
      go_wp2_with fail
      go_loopg [7, 9] 27 (fun gk s7 s9 wr => ∃ a : Nat, a + gk = 27 ∧ s9 = .int .i64 a ∧ s7 = .int .i64 (hdR m fb h h a : Nat) ∧ Hid (Blk wr w.heap.size 95 V) ∧ Hid (Below w.heap.size w wr))
      case atStart => exact ⟨0, rfl, rfl, rfl, K, B⟩
      case round =>
        clear K B
        obtain ⟨a, ha, rfl, rfl, K, B⟩ := hrel
        by_cases hla : a < 27
        · have I1 : Hid (∀ w, Calls Try.prog 110 #[.int .i64 (bits BinOp.and IntKind.i64 ((h : Nat) : Int) (m : Int)), .int .i64 (a : Int)] w fun e w' => e = .returned (.bool (bitN (h &&& m) a)) ∧ w = w') := fun w => by
            rw [and_int h m hh hm]
            exact inN_any (h &&& m) a (and_lt _ hh) hla w
          have hc : wr.cell? ⟨w.heap.size, a, none⟩ = some (.int .i64 (fb a : Nat)) := (K.out.cell a).trans (by rw [← HV.out]; exact av_get fb (by omega))
          have hor := or_int (hdR m fb h h a) (fb a) (hdR_lt FB.out hh a (by omega)) (FB.out a (by omega))
          have hn : hdR m fb h h (a + 1) = if bitN (h &&& m) a then hdR m fb h h a ||| fb a else hdR m fb h h a := rfl
          have hxa : (a : Int) < 27 := by omega
          cases hb1 : bitN (h &&& m) a
          · rw [hb1] at I1 hn
            simp only [Bool.false_eq_true, if_false] at hn
            have HN := Lib.hid hn
            clear hb1 hn hor
            go_wp2_with fail
            refine (I1.out _).mono ?_
            rintro e w1 ⟨rfl, rfl⟩
            go_wp2_with fail
            go_roundg (gk - 1)
            case measure => omega
            case rel => exact ⟨a + 1, by omega, by go_num, by rw [HN.out], K, B⟩
          · rw [hb1] at I1 hn
            simp only [if_true] at hn
            rw [← hn] at hor
            have HN := Lib.hid hor
            clear hb1 hn hor
            go_wp2_with fail
            refine (I1.out _).mono ?_
            rintro e w1 ⟨rfl, rfl⟩
            go_wp2_with fail
            go_roundg (gk - 1)
            case measure => omega
            case rel => exact ⟨a + 1, by omega, by go_num, congrArg (Value.int .i64) HN.out, K, B⟩
        · obtain rfl : a = 27 := by omega
          have h2 := hdR_lt (m := m) (d := h) FB.out hh 27 (by omega)
          have h3 := hdR_le m fb h h 27
          have HJ2 : Hid (h = hdR m fb h h 27 → hdR m fb (hdR m fb h h 27) (hdR m fb h h 27) 27 = hdR m fb h h 27) := fun e => by rw [← e]; exact e.symm
          obtain ⟨h', hh'⟩ : ∃ h', hdR m fb h h 27 = h' := ⟨_, rfl⟩
          have HL3 : Hid (Lp (fun h => hdR m fb h h 27) (hdR m fb h h 27) r) := HL2
          clear HL2
          rw [hh'] at h2 h3 HJ2 HL3
          try rw [hh']
          clear hh' hla
          go_wp2_with fail
          go_roundg (2 * (134217728 - h') + (if h = h' then 0 else 1))
          case measure =>
            have := HG.out
            split <;> omega
          case rel => exact ⟨h', h, rfl, rfl, h2, Nat.le_refl _, HL3, HJ2, K, B⟩
theorem l4Heads_any (fb : Nat → Nat) (hb : M29 fb) (m : Nat) (hm : m < 134217728) (i : Nat) (hi : i < 27) : ∃ r, r < 134217728 ∧ ∀ w, Calls Try.prog 188 #[.int .i64 (m : Int), .agg (av 29 fb), .int .i64 (i : Int)] w fun e w' => (e = .returned (.int .i64 (r : Nat)) ∧ Below w.heap.size w w') := by
  obtain ⟨r, hr, hl⟩ := Lp.up (rd := fun h => hdR m fb h h 27) 134217728 (fun h hh => hdR_lt hb hh 27 (by omega)) (fun h => hdR_le m fb h h 27) _ (2 ^ i) rfl (p27 hi)
  exact ⟨r, hr, fun w => l4Heads_walk fb hb m hm i hi r hl w⟩
set_option maxRecDepth 100000 in
set_option maxHeartbeats 16000000 in
theorem l4Endless_walk (fb : Nat → Nat) (hb : M29 fb) (m : Nat) (hm : m < 134217728) (r : Nat) (hr : Lp (fun h => enR fb h h 27) m r) (w : World) : Calls Try.prog 187 #[.int .i64 (m : Int), .agg (av 29 fb)] w fun e w' => (e = .returned (.int .i64 (r : Nat)) ∧ Below w.heap.size w w') := by
  have FB := Lib.hid hb
  obtain ⟨V, hV⟩ : ∃ V, av 29 fb = V := ⟨_, rfl⟩
  rw [hV]
  have K0 := Lib.hid (Blk.new w 95 V)
  have B0 := Lib.hid (below_n w (.cells V 95))
  have HV := Lib.hid hV
  have HL := Lib.hid hr
  have HJ : Hid (0 = m → enR fb m m 27 = m) := fun e => by
    have := enR_le fb m m 27
    omega
  clear hb hV hr
  go_enter Try.func187, Try.ntmps187
  go_wp2_with fail
  go_loopg [5, 6] 268435457 (fun gk s7 s8 wr => ∃ h d : Nat, s7 = .int .i64 h ∧ s8 = .int .i64 d ∧ h < 134217728 ∧ 2 * h + (if d = h then 0 else 1) ≤ gk ∧ Hid (Lp (fun h => enR fb h h 27) h r) ∧ Hid (d = h → enR fb h h 27 = h) ∧ Hid (Blk wr w.heap.size 95 V) ∧ Hid (Below w.heap.size w wr))
  case atStart => exact ⟨m, 0, rfl, rfl, hm, by split <;> omega, HL, HJ, K0, B0⟩
  case round =>
    clear HL HJ K0 B0
    obtain ⟨h, d, rfl, rfl, hh, hgk, HL, HJ, K, B⟩ := hrel
    obtain ⟨go, hgo⟩ : ∃ n, n = gk := ⟨_, rfl⟩
    rw [← hgo] at hgk
    by_cases hd : d = h
    · have hr := HL.out.done (HJ.out hd)
      have e1 : ((d : Int) != (h : Int)) = false := by simp [hd]
      subst hr
      clear HL HJ hgk hd
      go_wp2_with fail
      go_ret
      exact ⟨rfl, B.out⟩
    · have e1 : ((d : Int) != (h : Int)) = true := by simp; omega
      rw [if_neg hd] at hgk
      have HL2 := Lib.hid HL.out.next
      have HG := Lib.hid hgk
      clear HJ HL hgk hd
      go_wp2_with fail
      go_loopg [5, 7] 27 (fun gk s7 s9 wr => ∃ a : Nat, a + gk = 27 ∧ s9 = .int .i64 a ∧ s7 = .int .i64 (enR fb h h a : Nat) ∧ Hid (Blk wr w.heap.size 95 V) ∧ Hid (Below w.heap.size w wr))
      case atStart => exact ⟨0, rfl, rfl, rfl, K, B⟩
      case round =>
        clear K B
        obtain ⟨a, ha, rfl, rfl, K, B⟩ := hrel
        by_cases hla : a < 27
        · have hc : wr.cell? ⟨w.heap.size, a, none⟩ = some (.int .i64 (fb a : Nat)) := (K.out.cell a).trans (by rw [← HV.out]; exact av_get fb (by omega))
          have hle := enR_le fb h h a
          have had := adn_int (enR fb h h a) (2 ^ a) (by omega) (p27 hla)
          rw [← wrap_pow hla] at had
          have hai := and_int (fb a) h (FB.out a (by omega)) hh
          have hn : enR fb h h (a + 1) = if (fb a &&& h) == 0 then adn (enR fb h h a) (2 ^ a) else enR fb h h a := rfl
          have hxa : (a : Int) < 27 := by omega
          cases hb1 : (fb a &&& h) == 0
          · rw [hb1] at hn
            simp only [Bool.false_eq_true, if_false] at hn
            have hx : (((fb a &&& h : Nat) : Int) == 0) = false := by simp at hb1 ⊢; omega
            rw [← hai] at hx
            have HN := Lib.hid hn
            clear hb1 hn had hai
            go_wp2_with fail
            go_roundg (gk - 1)
            case measure => omega
            case rel => exact ⟨a + 1, by omega, by go_num, by rw [HN.out], K, B⟩
          · rw [hb1] at hn
            simp only [if_true] at hn
            have hx : (((fb a &&& h : Nat) : Int) == 0) = true := by simp at hb1 ⊢; omega
            rw [← hai] at hx
            rw [← hn] at had
            have HN := Lib.hid had
            clear hb1 hn had hai
            go_wp2_with fail
            go_roundg (gk - 1)
            case measure => omega
            case rel => exact ⟨a + 1, by omega, by go_num, congrArg (Value.int .i64) HN.out, K, B⟩
        · obtain rfl : a = 27 := by omega
          have h3 := enR_le fb h h 27
          have HJ2 : Hid (h = enR fb h h 27 → enR fb (enR fb h h 27) (enR fb h h 27) 27 = enR fb h h 27) := fun e => by rw [← e]; exact e.symm
          obtain ⟨h', hh'⟩ : ∃ h', enR fb h h 27 = h' := ⟨_, rfl⟩
          have HL3 : Hid (Lp (fun h => enR fb h h 27) (enR fb h h 27) r) := HL2
          clear HL2
          rw [hh'] at h3 HJ2 HL3
          try rw [hh']
          clear hh' hla
          go_wp2_with fail
          go_roundg (2 * h' + (if h = h' then 0 else 1))
          case measure =>
            have := HG.out
            split <;> omega
          case rel => exact ⟨h', h, rfl, rfl, by omega, Nat.le_refl _, HL3, HJ2, K, B⟩
theorem l4Endless_any (fb : Nat → Nat) (hb : M29 fb) (m : Nat) (hm : m < 134217728) : ∃ r, r < 134217728 ∧ ∀ w, Calls Try.prog 187 #[.int .i64 (m : Int), .agg (av 29 fb)] w fun e w' => (e = .returned (.int .i64 (r : Nat)) ∧ Below w.heap.size w w') := by
  obtain ⟨r, hr, hl⟩ := Lp.down (rd := fun h => enR fb h h 27) (fun h => enR_le fb h h 27) m
  exact ⟨r, by omega, fun w => l4Endless_walk fb hb m hm r hl w⟩

end Go.Proofs.Ythdgheglmkhcbaa
