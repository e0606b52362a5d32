/- XGp: XRg XRi XQt XRj put together. -/
import Derived.Test.YtndlhdmpfnadcaaGreatDoorGo
import Derived.StillTailTactics
import Derived.BigQuiet
import Derived.Test.YtndlhdmpfnadcaaGreatDoorGb
import Derived.Test.YtndlhdmpfnadcaaGreatDoorGy
/- What a loop can do. -/
namespace Go.Proofs.YtndlhdmpfnadcaaGreatDoor
open Go.RowKit
open Pl

/-- rounds until nothing turns -/
def itN (rd : Nat → Nat) : Nat → Nat → Nat
  | 0, h => h
  | k + 1, h => itN rd k (rd h)
def Lp (rd : Nat → Nat) (h r : Nat) : Prop := ∃ k, r = itN rd k h ∧ rd r = r
theorem itN_fix {rd : Nat → Nat} {h : Nat} (e : rd h = h) : ∀ k, itN rd k h = h
  | 0 => rfl
  | k + 1 => by rw [itN, e]; exact itN_fix e k
theorem Lp.done {rd : Nat → Nat} {h r : Nat} (H : Lp rd h r) (e : rd h = h) : r = h := by
  obtain ⟨k, hk, _⟩ := H
  rw [hk]; exact itN_fix e k
theorem Lp.next {rd : Nat → Nat} {h r : Nat} (H : Lp rd h r) : Lp rd (rd h) r := by
  obtain ⟨k, hk, hr⟩ := H
  cases k with
  | zero =>
    have e : r = h := hk
    subst e
    exact ⟨0, by show r = rd r; exact hr.symm, hr⟩
  | succ k => exact ⟨k, hk, hr⟩
theorem Lp.up {rd : Nat → Nat} (B : Nat) (hb : ∀ h, h < B → rd h < B) (hm : ∀ h, h ≤ rd h) : ∀ (d h : Nat), B - h = d → h < B → ∃ r, r < B ∧ Lp rd h r := by
  intro d
  induction d using Nat.strongRecOn with
  | _ d ih =>
    intro h hd hlt
    by_cases e : rd h = h
    · exact ⟨h, hlt, 0, rfl, e⟩
    · have := hm h
      have h2 := hb h hlt
      obtain ⟨r, hr, k, hk, hf⟩ := ih (B - rd h) (by omega) (rd h) rfl h2
      exact ⟨r, hr, k + 1, hk, hf⟩
theorem Lp.down {rd : Nat → Nat} (hm : ∀ h, rd h ≤ h) : ∀ (h : Nat), ∃ r, r ≤ h ∧ Lp rd h r := by
  intro h
  induction h using Nat.strongRecOn with
  | _ h ih =>
    by_cases e : rd h = h
    · exact ⟨h, Nat.le_refl _, 0, rfl, e⟩
    · have := hm h
      obtain ⟨r, hr, k, hk, hf⟩ := ih (rd h) (by omega)
      exact ⟨r, by omega, k + 1, hk, hf⟩
/-- a round of the heads -/
def hdR (m : Nat) (fb : Nat → Nat) (d h : Nat) : Nat → Nat
  | 0 => h
  | j + 1 => if bitN (d &&& m) j then hdR m fb d h j ||| fb j else hdR m fb d h j
theorem hdR_le (m : Nat) (fb : Nat → Nat) (d h : Nat) : ∀ j, h ≤ hdR m fb d h j
  | 0 => Nat.le_refl _
  | j + 1 => by
    have := hdR_le m fb d h j
    rw [hdR]
    split
    · exact Nat.le_trans this Nat.left_le_or
    · exact this
theorem hdR_lt {m : Nat} {fb : Nat → Nat} {d h : Nat} (hb : M29 fb) (hh : h < 134217728) (j : Nat) : j ≤ 27 → hdR m fb d h j < 134217728 := by
  induction j with
  | zero => intro _; exact hh
  | succ j ih =>
    intro hj
    rw [hdR]
    split
    · exact or_lt (ih (by omega)) (hb j (by omega))
    · exact ih (by omega)
/-- a round of what goes on for ever -/
def enR (fb : Nat → Nat) (b o : Nat) : Nat → Nat
  | 0 => o
  | j + 1 => if (fb j &&& b) == 0 then adn (enR fb b o j) (2 ^ j) else enR fb b o j
theorem enR_le (fb : Nat → Nat) (b o : Nat) : ∀ j, enR fb b o j ≤ o
  | 0 => Nat.le_refl _
  | j + 1 => by
    have := enR_le fb b o j
    rw [enR]
    split
    · exact Nat.le_trans (adn_le _ _) this
    · exact this
set_option maxRecDepth 100000 in
set_option maxHeartbeats 16000000 in
theorem l4Heads_walk (fb : Nat → Nat) (hb : M29 fb) (m : Nat) (hm : m < 134217728) (i : Nat) (hi : i < 27) (r : Nat) (hr : Lp (fun h => hdR m fb h h 27) (2 ^ i) r) (w : World) : Calls Tryz.prog 95 #[.int .i64 (m : Int), .agg (av 29 fb), .int .i64 (i : Int)] w fun e w' => (e = .returned (.int .i64 (r : Nat)) ∧ Below w.heap.size w w') := by
  have FB := Lib.hid hb
  obtain ⟨V, hV⟩ : ∃ V, av 29 fb = V := ⟨_, rfl⟩
  rw [hV]
  have K0 := Lib.hid (Blk.new w 74 V)
  have B0 := Lib.hid (below_n w (.cells V 74))
  have HV := Lib.hid hV
  have h0 := wrap_pow hi
  have HL := Lib.hid hr
  have hpos : 0 ≠ 2 ^ i := (Nat.ne_of_gt (Nat.two_pow_pos i)).symm
  have HJ : Hid (0 = 2 ^ i → hdR m fb (2 ^ i) (2 ^ i) 27 = 2 ^ i) := fun e => absurd e hpos
  have hlt := p27 hi
  clear hb hV hr
  go_enter Tryz.func95, Tryz.ntmps95
  go_wp2_with fail
  try rw [h0]
  obtain ⟨hs, hhs⟩ : ∃ n, 2 ^ i = n := ⟨_, rfl⟩
  rw [hhs] at HL HJ hlt
  try rw [hhs]
  clear h0 hpos hhs
  go_loopg [7, 8] 268435457 (fun gk s7 s8 wr => ∃ h d : Nat, s7 = .int .i64 h ∧ s8 = .int .i64 d ∧ h < 134217728 ∧ 2 * (134217728 - h) + (if d = h then 0 else 1) ≤ gk ∧ Hid (Lp (fun h => hdR m fb h h 27) h r) ∧ Hid (d = h → hdR m fb h h 27 = h) ∧ Hid (Blk wr w.heap.size 74 V) ∧ Hid (Below w.heap.size w wr))
  case atStart => exact ⟨hs, 0, rfl, rfl, hlt, by split <;> omega, HL, HJ, K0, B0⟩
  case round =>
    clear HL HJ K0 B0 hlt
    obtain ⟨h, d, rfl, rfl, hh, hgk, HL, HJ, K, B⟩ := hrel
    obtain ⟨go, hgo⟩ : ∃ n, n = gk := ⟨_, rfl⟩
    rw [← hgo] at hgk
    by_cases hd : d = h
    · have hr := HL.out.done (HJ.out hd)
      have e1 : ((d : Int) != (h : Int)) = false := by simp [hd]
      subst hr
      clear HL HJ hgk hd
      go_wp2_with fail
      go_ret
      exact ⟨rfl, B.out⟩
    · have e1 : ((d : Int) != (h : Int)) = true := by simp; omega
      rw [if_neg hd] at hgk
      have HL2 := Lib.hid HL.out.next
      have HG := Lib.hid hgk
      clear HJ HL hgk hd
      go_wp2_with fail
      go_loopg [7, 9] 27 (fun gk s7 s9 wr => ∃ a : Nat, a + gk = 27 ∧ s9 = .int .i64 a ∧ s7 = .int .i64 (hdR m fb h h a : Nat) ∧ Hid (Blk wr w.heap.size 74 V) ∧ Hid (Below w.heap.size w wr))
      case atStart => exact ⟨0, rfl, rfl, rfl, K, B⟩
      case round =>
        clear K B
        obtain ⟨a, ha, rfl, rfl, K, B⟩ := hrel
        by_cases hla : a < 27
        · have I1 : Hid (∀ w, Calls Tryz.prog 83 #[.int .i64 (bits BinOp.and IntKind.i64 ((h : Nat) : Int) (m : Int)), .int .i64 (a : Int)] w fun e w' => e = .returned (.bool (bitN (h &&& m) a)) ∧ w = w') := fun w => by
            rw [and_int h m hh hm]
            exact inN_any (h &&& m) a (and_lt _ hh) hla w
          have hc : wr.cell? ⟨w.heap.size, a, none⟩ = some (.int .i64 (fb a : Nat)) := (K.out.cell a).trans (by rw [← HV.out]; exact av_get fb (by omega))
          have hor := or_int (hdR m fb h h a) (fb a) (hdR_lt FB.out hh a (by omega)) (FB.out a (by omega))
          have hn : hdR m fb h h (a + 1) = if bitN (h &&& m) a then hdR m fb h h a ||| fb a else hdR m fb h h a := rfl
          have hxa : (a : Int) < 27 := by omega
          cases hb1 : bitN (h &&& m) a
          · rw [hb1] at I1 hn
            simp only [Bool.false_eq_true, if_false] at hn
            have HN := Lib.hid hn
            clear hb1 hn hor
            go_wp2_with fail
            refine (I1.out _).mono ?_
            rintro e w1 ⟨rfl, rfl⟩
            go_wp2_with fail
            go_roundg (gk - 1)
            case measure => omega
            case rel => exact ⟨a + 1, by omega, by go_num, by rw [HN.out], K, B⟩
          · rw [hb1] at I1 hn
            simp only [if_true] at hn
            rw [← hn] at hor
            have HN := Lib.hid hor
            clear hb1 hn hor
            go_wp2_with fail
            refine (I1.out _).mono ?_
            rintro e w1 ⟨rfl, rfl⟩
            go_wp2_with fail
            go_roundg (gk - 1)
            case measure => omega
            case rel => exact ⟨a + 1, by omega, by go_num, congrArg (Value.int .i64) HN.out, K, B⟩
        · obtain rfl : a = 27 := by omega
          have h2 := hdR_lt (m := m) (d := h) FB.out hh 27 (by omega)
          have h3 := hdR_le m fb h h 27
          have HJ2 : Hid (h = hdR m fb h h 27 → hdR m fb (hdR m fb h h 27) (hdR m fb h h 27) 27 = hdR m fb h h 27) := fun e => by rw [← e]; exact e.symm
          obtain ⟨h', hh'⟩ : ∃ h', hdR m fb h h 27 = h' := ⟨_, rfl⟩
          have HL3 : Hid (Lp (fun h => hdR m fb h h 27) (hdR m fb h h 27) r) := HL2
          clear HL2
          rw [hh'] at h2 h3 HJ2 HL3
          try rw [hh']
          clear hh' hla
          go_wp2_with fail
          go_roundg (2 * (134217728 - h') + (if h = h' then 0 else 1))
          case measure =>
            have := HG.out
            split <;> omega
          case rel => exact ⟨h', h, rfl, rfl, h2, Nat.le_refl _, HL3, HJ2, K, B⟩
theorem l4Heads_any (fb : Nat → Nat) (hb : M29 fb) (m : Nat) (hm : m < 134217728) (i : Nat) (hi : i < 27) : ∃ r, r < 134217728 ∧ ∀ w, Calls Tryz.prog 95 #[.int .i64 (m : Int), .agg (av 29 fb), .int .i64 (i : Int)] w fun e w' => (e = .returned (.int .i64 (r : Nat)) ∧ Below w.heap.size w w') := by
  obtain ⟨r, hr, hl⟩ := Lp.up (rd := fun h => hdR m fb h h 27) 134217728 (fun h hh => hdR_lt hb hh 27 (by omega)) (fun h => hdR_le m fb h h 27) _ (2 ^ i) rfl (p27 hi)
  exact ⟨r, hr, fun w => l4Heads_walk fb hb m hm i hi r hl w⟩
set_option maxRecDepth 100000 in
set_option maxHeartbeats 16000000 in
theorem l4Endless_walk (fb : Nat → Nat) (hb : M29 fb) (m : Nat) (hm : m < 134217728) (r : Nat) (hr : Lp (fun h => enR fb h h 27) m r) (w : World) : Calls Tryz.prog 94 #[.int .i64 (m : Int), .agg (av 29 fb)] w fun e w' => (e = .returned (.int .i64 (r : Nat)) ∧ Below w.heap.size w w') := by
  have FB := Lib.hid hb
  obtain ⟨V, hV⟩ : ∃ V, av 29 fb = V := ⟨_, rfl⟩
  rw [hV]
  have K0 := Lib.hid (Blk.new w 74 V)
  have B0 := Lib.hid (below_n w (.cells V 74))
  have HV := Lib.hid hV
  have HL := Lib.hid hr
  have HJ : Hid (0 = m → enR fb m m 27 = m) := fun e => by
    have := enR_le fb m m 27
    omega
  clear hb hV hr
  go_enter Tryz.func94, Tryz.ntmps94
  go_wp2_with fail
  go_loopg [5, 6] 268435457 (fun gk s7 s8 wr => ∃ h d : Nat, s7 = .int .i64 h ∧ s8 = .int .i64 d ∧ h < 134217728 ∧ 2 * h + (if d = h then 0 else 1) ≤ gk ∧ Hid (Lp (fun h => enR fb h h 27) h r) ∧ Hid (d = h → enR fb h h 27 = h) ∧ Hid (Blk wr w.heap.size 74 V) ∧ Hid (Below w.heap.size w wr))
  case atStart => exact ⟨m, 0, rfl, rfl, hm, by split <;> omega, HL, HJ, K0, B0⟩
  case round =>
    clear HL HJ K0 B0
    obtain ⟨h, d, rfl, rfl, hh, hgk, HL, HJ, K, B⟩ := hrel
    obtain ⟨go, hgo⟩ : ∃ n, n = gk := ⟨_, rfl⟩
    rw [← hgo] at hgk
    by_cases hd : d = h
    · have hr := HL.out.done (HJ.out hd)
      have e1 : ((d : Int) != (h : Int)) = false := by simp [hd]
      subst hr
      clear HL HJ hgk hd
      go_wp2_with fail
      go_ret
      exact ⟨rfl, B.out⟩
    · have e1 : ((d : Int) != (h : Int)) = true := by simp; omega
      rw [if_neg hd] at hgk
      have HL2 := Lib.hid HL.out.next
      have HG := Lib.hid hgk
      clear HJ HL hgk hd
      go_wp2_with fail
      go_loopg [5, 7] 27 (fun gk s7 s9 wr => ∃ a : Nat, a + gk = 27 ∧ s9 = .int .i64 a ∧ s7 = .int .i64 (enR fb h h a : Nat) ∧ Hid (Blk wr w.heap.size 74 V) ∧ Hid (Below w.heap.size w wr))
      case atStart => exact ⟨0, rfl, rfl, rfl, K, B⟩
      case round =>
        clear K B
        obtain ⟨a, ha, rfl, rfl, K, B⟩ := hrel
        by_cases hla : a < 27
        · have hc : wr.cell? ⟨w.heap.size, a, none⟩ = some (.int .i64 (fb a : Nat)) := (K.out.cell a).trans (by rw [← HV.out]; exact av_get fb (by omega))
          have hle := enR_le fb h h a
          have had := adn_int (enR fb h h a) (2 ^ a) (by omega) (p27 hla)
          rw [← wrap_pow hla] at had
          have hai := and_int (fb a) h (FB.out a (by omega)) hh
          have hn : enR fb h h (a + 1) = if (fb a &&& h) == 0 then adn (enR fb h h a) (2 ^ a) else enR fb h h a := rfl
          have hxa : (a : Int) < 27 := by omega
          cases hb1 : (fb a &&& h) == 0
          · rw [hb1] at hn
            simp only [Bool.false_eq_true, if_false] at hn
            have hx : (((fb a &&& h : Nat) : Int) == 0) = false := by simp at hb1 ⊢; omega
            rw [← hai] at hx
            have HN := Lib.hid hn
            clear hb1 hn had hai
            go_wp2_with fail
            go_roundg (gk - 1)
            case measure => omega
            case rel => exact ⟨a + 1, by omega, by go_num, by rw [HN.out], K, B⟩
          · rw [hb1] at hn
            simp only [if_true] at hn
            have hx : (((fb a &&& h : Nat) : Int) == 0) = true := by simp at hb1 ⊢; omega
            rw [← hai] at hx
            rw [← hn] at had
            have HN := Lib.hid had
            clear hb1 hn had hai
            go_wp2_with fail
            go_roundg (gk - 1)
            case measure => omega
            case rel => exact ⟨a + 1, by omega, by go_num, congrArg (Value.int .i64) HN.out, K, B⟩
        · obtain rfl : a = 27 := by omega
          have h3 := enR_le fb h h 27
          have HJ2 : Hid (h = enR fb h h 27 → enR fb (enR fb h h 27) (enR fb h h 27) 27 = enR fb h h 27) := fun e => by rw [← e]; exact e.symm
          obtain ⟨h', hh'⟩ : ∃ h', enR fb h h 27 = h' := ⟨_, rfl⟩
          have HL3 : Hid (Lp (fun h => enR fb h h 27) (enR fb h h 27) r) := HL2
          clear HL2
          rw [hh'] at h3 HJ2 HL3
          try rw [hh']
          clear hh' hla
          go_wp2_with fail
          go_roundg (2 * h' + (if h = h' then 0 else 1))
          case measure =>
            have := HG.out
            split <;> omega
          case rel => exact ⟨h', h, rfl, rfl, by omega, Nat.le_refl _, HL3, HJ2, K, B⟩
theorem l4Endless_any (fb : Nat → Nat) (hb : M29 fb) (m : Nat) (hm : m < 134217728) : ∃ r, r < 134217728 ∧ ∀ w, Calls Tryz.prog 94 #[.int .i64 (m : Int), .agg (av 29 fb)] w fun e w' => (e = .returned (.int .i64 (r : Nat)) ∧ Below w.heap.size w w') := by
  obtain ⟨r, hr, hl⟩ := Lp.down (rd := fun h => enR fb h h 27) (fun h => enR_le fb h h 27) m
  exact ⟨r, by omega, fun w => l4Endless_walk fb hb m hm r hl w⟩

end Go.Proofs.YtndlhdmpfnadcaaGreatDoor

/- What a loop can do, from all states. -/
namespace Go.Proofs.YtndlhdmpfnadcaaGreatDoor
open Go.RowKit
open Pl

def wh2 (m en : Nat) (fb hf g : Nat → Nat) (i : Nat) : Nat → Nat := if ((hf i &&& m) &&& (fb 27 ||| en)) == 0 then g else upd g 27 (g 27 ||| 2 ^ i)
def wh3 (m : Nat) (fb hf g : Nat → Nat) (i : Nat) : Nat → Nat := if ((hf i &&& m) &&& fb 28) == 0 then g else upd g 28 (g 28 ||| 2 ^ i)
def whN (m en : Nat) (fb hf : Nat → Nat) : Nat → Nat → Nat
  | 0 => fun _ => 0
  | i + 1 => wh3 m fb hf (wh2 m en fb hf (upd (whN m en fb hf i) i (adn (hf i) m)) i) i
theorem whN_small {m en : Nat} {fb hf : Nat → Nat} (hh : ∀ i, i < 27 → hf i < 134217728) (i : Nat) : i ≤ 27 → M29 (whN m en fb hf i) := by
  induction i with
  | zero => intro _ a _; show 0 < _; decide
  | succ i ih =>
    intro hi
    have h1 := (ih (by omega)).upd i (adn_lt m (hh i (by omega)))
    have h2 : M29 (wh2 m en fb hf (upd (whN m en fb hf i) i (adn (hf i) m)) i) := by
      unfold wh2
      split
      · exact h1
      · exact h1.upd 27 (or_lt (h1 27 (by omega)) (p27 (by omega)))
    rw [whN]
    unfold wh3
    split
    · exact h2
    · exact h2.upd 28 (or_lt (h2 28 (by omega)) (p27 (by omega)))
set_option maxRecDepth 100000 in
set_option maxHeartbeats 16000000 in
theorem l4While_walk (fb : Nat → Nat) (hb : M29 fb) (m en : Nat) (hm : m < 134217728) (hen : en < 134217728) (hf : Nat → Nat) (hhf : ∀ i : Nat, i < 27 → hf i < 134217728)
    (EN : ∀ w, Calls Tryz.prog 94 #[.int .i64 (m : Int), .agg (av 29 fb)] w fun e w' => (e = .returned (.int .i64 (en : Nat)) ∧ Below w.heap.size w w'))
    (HD : ∀ i : Nat, i < 27 → ∀ w, Calls Tryz.prog 95 #[.int .i64 (m : Int), .agg (av 29 fb), .int .i64 (i : Int)] w fun e w' => (e = .returned (.int .i64 (hf i : Nat)) ∧ Below w.heap.size w w')) (w : World) :
    Calls Tryz.prog 77 #[.int .i64 (m : Int), .agg (av 29 fb)] w fun e w' => (e = .returned (.agg (av 29 (whN m en fb hf 27))) ∧ Below w.heap.size w w') := by
  have SM := Lib.hid (fun i (hi : i ≤ 27) => whN_small (m := m) (en := en) (fb := fb) (hf := hf) hhf i hi)
  have FB := Lib.hid hb
  have HF := Lib.hid hhf
  have EN := Lib.hid EN
  have HD := Lib.hid HD
  obtain ⟨V, hV⟩ : ∃ V, av 29 fb = V := ⟨_, rfl⟩
  rw [hV] at EN HD ⊢
  have HV := Lib.hid hV
  have SZV : Hid ((Tryz.prog.info? 74).map (·.size) = some V.size) := by rw [← hV, av_size]; exact all_size
  clear hb hhf hV
  obtain ⟨VE, hVE⟩ : ∃ V, av 29 (whN m en fb hf 27) = V := ⟨_, rfl⟩
  rw [hVE]
  have HVE := Lib.hid hVE
  clear hVE
  have kb0 : Blk ((w.alloc (.cells V 74)).alloc (.cells #[.int .i64 0, .int .i64 0, .int .i64 0, .int .i64 0, .int .i64 0, .int .i64 0, .int .i64 0, .int .i64 0, .int .i64 0, .int .i64 0, .int .i64 0, .int .i64 0, .int .i64 0, .int .i64 0, .int .i64 0, .int .i64 0, .int .i64 0, .int .i64 0, .int .i64 0, .int .i64 0, .int .i64 0, .int .i64 0, .int .i64 0, .int .i64 0, .int .i64 0, .int .i64 0, .int .i64 0, .int .i64 0, .int .i64 0] 74)) (w.heap.size) 74 V := by
    have h0 := Blk.new w 74 V
    have hz : w.heap.size = w.heap.size := by simp
    rw [hz] at h0
    exact (h0.alloc _)
  have kr : Blk ((w.alloc (.cells V 74)).alloc (.cells #[.int .i64 0, .int .i64 0, .int .i64 0, .int .i64 0, .int .i64 0, .int .i64 0, .int .i64 0, .int .i64 0, .int .i64 0, .int .i64 0, .int .i64 0, .int .i64 0, .int .i64 0, .int .i64 0, .int .i64 0, .int .i64 0, .int .i64 0, .int .i64 0, .int .i64 0, .int .i64 0, .int .i64 0, .int .i64 0, .int .i64 0, .int .i64 0, .int .i64 0, .int .i64 0, .int .i64 0, .int .i64 0, .int .i64 0] 74)) (w.heap.size + 1) 74 #[.int .i64 0, .int .i64 0, .int .i64 0, .int .i64 0, .int .i64 0, .int .i64 0, .int .i64 0, .int .i64 0, .int .i64 0, .int .i64 0, .int .i64 0, .int .i64 0, .int .i64 0, .int .i64 0, .int .i64 0, .int .i64 0, .int .i64 0, .int .i64 0, .int .i64 0, .int .i64 0, .int .i64 0, .int .i64 0, .int .i64 0, .int .i64 0, .int .i64 0, .int .i64 0, .int .i64 0, .int .i64 0, .int .i64 0] := by
    have h0 := Blk.new (w.alloc (.cells V 74)) 74 #[.int .i64 0, .int .i64 0, .int .i64 0, .int .i64 0, .int .i64 0, .int .i64 0, .int .i64 0, .int .i64 0, .int .i64 0, .int .i64 0, .int .i64 0, .int .i64 0, .int .i64 0, .int .i64 0, .int .i64 0, .int .i64 0, .int .i64 0, .int .i64 0, .int .i64 0, .int .i64 0, .int .i64 0, .int .i64 0, .int .i64 0, .int .i64 0, .int .i64 0, .int .i64 0, .int .i64 0, .int .i64 0, .int .i64 0]
    have hz : (w.alloc (.cells V 74)).heap.size = w.heap.size + 1 := by simp
    rw [hz] at h0
    exact h0
  have kz : Blk (((w.alloc (.cells V 74)).alloc (.cells #[.int .i64 0, .int .i64 0, .int .i64 0, .int .i64 0, .int .i64 0, .int .i64 0, .int .i64 0, .int .i64 0, .int .i64 0, .int .i64 0, .int .i64 0, .int .i64 0, .int .i64 0, .int .i64 0, .int .i64 0, .int .i64 0, .int .i64 0, .int .i64 0, .int .i64 0, .int .i64 0, .int .i64 0, .int .i64 0, .int .i64 0, .int .i64 0, .int .i64 0, .int .i64 0, .int .i64 0, .int .i64 0, .int .i64 0] 74)).alloc (.cells #[.int .i64 0, .int .i64 0, .int .i64 0, .int .i64 0, .int .i64 0, .int .i64 0, .int .i64 0, .int .i64 0, .int .i64 0, .int .i64 0, .int .i64 0, .int .i64 0, .int .i64 0, .int .i64 0, .int .i64 0, .int .i64 0, .int .i64 0, .int .i64 0, .int .i64 0, .int .i64 0, .int .i64 0, .int .i64 0, .int .i64 0, .int .i64 0, .int .i64 0, .int .i64 0, .int .i64 0, .int .i64 0, .int .i64 0] 74)) (w.heap.size + 2) 74 #[.int .i64 0, .int .i64 0, .int .i64 0, .int .i64 0, .int .i64 0, .int .i64 0, .int .i64 0, .int .i64 0, .int .i64 0, .int .i64 0, .int .i64 0, .int .i64 0, .int .i64 0, .int .i64 0, .int .i64 0, .int .i64 0, .int .i64 0, .int .i64 0, .int .i64 0, .int .i64 0, .int .i64 0, .int .i64 0, .int .i64 0, .int .i64 0, .int .i64 0, .int .i64 0, .int .i64 0, .int .i64 0, .int .i64 0] := by
    have h0 := Blk.new ((w.alloc (.cells V 74)).alloc (.cells #[.int .i64 0, .int .i64 0, .int .i64 0, .int .i64 0, .int .i64 0, .int .i64 0, .int .i64 0, .int .i64 0, .int .i64 0, .int .i64 0, .int .i64 0, .int .i64 0, .int .i64 0, .int .i64 0, .int .i64 0, .int .i64 0, .int .i64 0, .int .i64 0, .int .i64 0, .int .i64 0, .int .i64 0, .int .i64 0, .int .i64 0, .int .i64 0, .int .i64 0, .int .i64 0, .int .i64 0, .int .i64 0, .int .i64 0] 74)) 74 #[.int .i64 0, .int .i64 0, .int .i64 0, .int .i64 0, .int .i64 0, .int .i64 0, .int .i64 0, .int .i64 0, .int .i64 0, .int .i64 0, .int .i64 0, .int .i64 0, .int .i64 0, .int .i64 0, .int .i64 0, .int .i64 0, .int .i64 0, .int .i64 0, .int .i64 0, .int .i64 0, .int .i64 0, .int .i64 0, .int .i64 0, .int .i64 0, .int .i64 0, .int .i64 0, .int .i64 0, .int .i64 0, .int .i64 0]
    have hz : ((w.alloc (.cells V 74)).alloc (.cells #[.int .i64 0, .int .i64 0, .int .i64 0, .int .i64 0, .int .i64 0, .int .i64 0, .int .i64 0, .int .i64 0, .int .i64 0, .int .i64 0, .int .i64 0, .int .i64 0, .int .i64 0, .int .i64 0, .int .i64 0, .int .i64 0, .int .i64 0, .int .i64 0, .int .i64 0, .int .i64 0, .int .i64 0, .int .i64 0, .int .i64 0, .int .i64 0, .int .i64 0, .int .i64 0, .int .i64 0, .int .i64 0, .int .i64 0] 74)).heap.size = w.heap.size + 2 := by simp
    rw [hz] at h0
    exact h0
  have KZ := Lib.hid kz
  have H0 : Hid (S4 w ((((w.alloc (.cells V 74)).alloc (.cells #[.int .i64 0, .int .i64 0, .int .i64 0, .int .i64 0, .int .i64 0, .int .i64 0, .int .i64 0, .int .i64 0, .int .i64 0, .int .i64 0, .int .i64 0, .int .i64 0, .int .i64 0, .int .i64 0, .int .i64 0, .int .i64 0, .int .i64 0, .int .i64 0, .int .i64 0, .int .i64 0, .int .i64 0, .int .i64 0, .int .i64 0, .int .i64 0, .int .i64 0, .int .i64 0, .int .i64 0, .int .i64 0, .int .i64 0] 74)).alloc (.cells #[.int .i64 0, .int .i64 0, .int .i64 0, .int .i64 0, .int .i64 0, .int .i64 0, .int .i64 0, .int .i64 0, .int .i64 0, .int .i64 0, .int .i64 0, .int .i64 0, .int .i64 0, .int .i64 0, .int .i64 0, .int .i64 0, .int .i64 0, .int .i64 0, .int .i64 0, .int .i64 0, .int .i64 0, .int .i64 0, .int .i64 0, .int .i64 0, .int .i64 0, .int .i64 0, .int .i64 0, .int .i64 0, .int .i64 0] 74)).setRow (w.heap.size + 2) #[.int .i64 0, .int .i64 0, .int .i64 0, .int .i64 0, .int .i64 0, .int .i64 0, .int .i64 0, .int .i64 0, .int .i64 0, .int .i64 0, .int .i64 0, .int .i64 0, .int .i64 0, .int .i64 0, .int .i64 0, .int .i64 0, .int .i64 0, .int .i64 0, .int .i64 0, .int .i64 0, .int .i64 0, .int .i64 0, .int .i64 0, .int .i64 0, .int .i64 0, .int .i64 0, .int .i64 0, .int .i64 0, .int .i64 0]) [(w.heap.size, V)] (w.heap.size + 1) (w.heap.size + 2) (whN m en fb hf 0)) := by
    refine ⟨fun p hp => ?_, ⟨_, rfl, (kr.alloc _).row_ne (by omega) _⟩, ?_, by omega, by omega, ((((Below.refl w.heap.size w).alloc (by first | exact Nat.le_refl _ | (simp; done) | (simp; omega)) (.cells V 74)).alloc (by first | exact Nat.le_refl _ | (simp; done) | (simp; omega)) (.cells #[.int .i64 0, .int .i64 0, .int .i64 0, .int .i64 0, .int .i64 0, .int .i64 0, .int .i64 0, .int .i64 0, .int .i64 0, .int .i64 0, .int .i64 0, .int .i64 0, .int .i64 0, .int .i64 0, .int .i64 0, .int .i64 0, .int .i64 0, .int .i64 0, .int .i64 0, .int .i64 0, .int .i64 0, .int .i64 0, .int .i64 0, .int .i64 0, .int .i64 0, .int .i64 0, .int .i64 0, .int .i64 0, .int .i64 0] 74)).alloc (by first | exact Nat.le_refl _ | (simp; done) | (simp; omega)) (.cells #[.int .i64 0, .int .i64 0, .int .i64 0, .int .i64 0, .int .i64 0, .int .i64 0, .int .i64 0, .int .i64 0, .int .i64 0, .int .i64 0, .int .i64 0, .int .i64 0, .int .i64 0, .int .i64 0, .int .i64 0, .int .i64 0, .int .i64 0, .int .i64 0, .int .i64 0, .int .i64 0, .int .i64 0, .int .i64 0, .int .i64 0, .int .i64 0, .int .i64 0, .int .i64 0, .int .i64 0, .int .i64 0, .int .i64 0] 74)).trans (below_row (by omega) _)⟩
    · simp only [List.mem_cons, List.not_mem_nil, or_false] at hp
      obtain rfl := hp
      · exact ⟨(kb0.alloc _).row_ne (by show _ ≠ _; omega) _, by show _ ≠ _; omega⟩
    · rw [← (show #[.int .i64 0, .int .i64 0, .int .i64 0, .int .i64 0, .int .i64 0, .int .i64 0, .int .i64 0, .int .i64 0, .int .i64 0, .int .i64 0, .int .i64 0, .int .i64 0, .int .i64 0, .int .i64 0, .int .i64 0, .int .i64 0, .int .i64 0, .int .i64 0, .int .i64 0, .int .i64 0, .int .i64 0, .int .i64 0, .int .i64 0, .int .i64 0, .int .i64 0, .int .i64 0, .int .i64 0, .int .i64 0, .int .i64 0] = av 29 (whN m en fb hf 0) from av2_zero)]; exact kz.row _
  clear kz kr kb0
  have KX : Hid (Blk ((((w.alloc (.cells V 74)).alloc (.cells #[.int .i64 0, .int .i64 0, .int .i64 0, .int .i64 0, .int .i64 0, .int .i64 0, .int .i64 0, .int .i64 0, .int .i64 0, .int .i64 0, .int .i64 0, .int .i64 0, .int .i64 0, .int .i64 0, .int .i64 0, .int .i64 0, .int .i64 0, .int .i64 0, .int .i64 0, .int .i64 0, .int .i64 0, .int .i64 0, .int .i64 0, .int .i64 0, .int .i64 0, .int .i64 0, .int .i64 0, .int .i64 0, .int .i64 0] 74)).alloc (.cells #[.int .i64 0, .int .i64 0, .int .i64 0, .int .i64 0, .int .i64 0, .int .i64 0, .int .i64 0, .int .i64 0, .int .i64 0, .int .i64 0, .int .i64 0, .int .i64 0, .int .i64 0, .int .i64 0, .int .i64 0, .int .i64 0, .int .i64 0, .int .i64 0, .int .i64 0, .int .i64 0, .int .i64 0, .int .i64 0, .int .i64 0, .int .i64 0, .int .i64 0, .int .i64 0, .int .i64 0, .int .i64 0, .int .i64 0] 74)).setRow (w.heap.size + 2) #[.int .i64 0, .int .i64 0, .int .i64 0, .int .i64 0, .int .i64 0, .int .i64 0, .int .i64 0, .int .i64 0, .int .i64 0, .int .i64 0, .int .i64 0, .int .i64 0, .int .i64 0, .int .i64 0, .int .i64 0, .int .i64 0, .int .i64 0, .int .i64 0, .int .i64 0, .int .i64 0, .int .i64 0, .int .i64 0, .int .i64 0, .int .i64 0, .int .i64 0, .int .i64 0, .int .i64 0, .int .i64 0, .int .i64 0]) w.heap.size 74 V) := (H0.out.boxes (w.heap.size, V) (by simp)).1
  go_enter Tryz.func77, Tryz.ntmps77
  go_wp2_with (first | (refine wpList_store_row rfl 74 (.tmp 5) (.tmp 9) rfl (w.heap.size + 2) #[.int .i64 0, .int .i64 0, .int .i64 0, .int .i64 0, .int .i64 0, .int .i64 0, .int .i64 0, .int .i64 0, .int .i64 0, .int .i64 0, .int .i64 0, .int .i64 0, .int .i64 0, .int .i64 0, .int .i64 0, .int .i64 0, .int .i64 0, .int .i64 0, .int .i64 0, .int .i64 0, .int .i64 0, .int .i64 0, .int .i64 0, .int .i64 0, .int .i64 0, .int .i64 0, .int .i64 0, .int .i64 0, .int .i64 0] rfl rfl 74 #[.int .i64 0, .int .i64 0, .int .i64 0, .int .i64 0, .int .i64 0, .int .i64 0, .int .i64 0, .int .i64 0, .int .i64 0, .int .i64 0, .int .i64 0, .int .i64 0, .int .i64 0, .int .i64 0, .int .i64 0, .int .i64 0, .int .i64 0, .int .i64 0, .int .i64 0, .int .i64 0, .int .i64 0, .int .i64 0, .int .i64 0, .int .i64 0, .int .i64 0, .int .i64 0, .int .i64 0, .int .i64 0, .int .i64 0] KZ.out all_size rfl z2_one ?_) | (refine wpList_load_row rfl 74 (.tmp 3) rfl w.heap.size rfl 74 V (0, 0) _ KX.out Tryz.underlying74 rfl SZV.out ?_))
  clear KZ
  clear KX
  have H := H0.out
  clear H0
  refine (EN.out _).mono ?_
  rintro e w2 ⟨rfl, hb⟩
  have H0 := Lib.hid (H.call hb)
  clear hb H EN
  go_wp2_with fail
  go_loopg [7] 27 (fun gk sv wr => ∃ a : Nat, a + gk = 27 ∧ sv = .int .i64 a ∧ Hid (S4 w wr [(w.heap.size, V)] (w.heap.size + 1) (w.heap.size + 2) (whN m en fb hf a)))
  case atStart => exact ⟨0, rfl, rfl, H0⟩
  case round =>
    clear H0
    obtain ⟨a, ha, rfl, HH⟩ := hrel
    have H := HH.out
    clear HH
    by_cases hla : a < 27
    · have hM := SM.out a (by omega)
      have I1 := Lib.hid (fun w => HD.out a hla w)
      have NX0 : whN m en fb hf (a + 1) = wh3 m fb hf (wh2 m en fb hf (Proofs.YtndlhdmpfnadcaaGreatDoor.upd (whN m en fb hf a) a (adn (hf a) m)) a) a := rfl
      obtain ⟨g, hg⟩ : ∃ g, whN m en fb hf a = g := ⟨_, rfl⟩
      rw [hg] at hM NX0 H
      have KX := Lib.hid (H.boxes (w.heap.size, V) (by simp)).1
      have hxa : (a : Int) < 27 := by omega
      have hha := HF.out a hla
      have had := adn_int (hf a) m hha hm
      have hx2 : ((bits BinOp.and IntKind.i64 (bits BinOp.and IntKind.i64 ((hf a : Nat) : Int) (m : Nat)) (bits BinOp.or IntKind.i64 ((fb 27 : Nat) : Int) (en : Nat))) == 0) = (((hf a &&& m) &&& (fb 27 ||| en)) == 0) := by
        rw [and_int _ m hha hm, or_int _ en (FB.out 27 (by omega)) hen, and_int _ _ (and_lt _ hha) (or_lt (FB.out 27 (by omega)) hen)]
        apply bool_ext; rw [beq_iff_eq, beq_iff_eq]; omega
      have hx3 : ((bits BinOp.and IntKind.i64 (bits BinOp.and IntKind.i64 ((hf a : Nat) : Int) (m : Nat)) ((fb 28 : Nat) : Int)) == 0) = (((hf a &&& m) &&& fb 28) == 0) := by
        rw [and_int _ m hha hm, and_int _ _ (and_lt _ hha) (FB.out 28 (by omega))]
        apply bool_ext; rw [beq_iff_eq, beq_iff_eq]; omega
      clear hg hha
      go_wp2_with (refine wpList_load_row rfl 74 (.tmp 3) rfl w.heap.size rfl 74 V (0, 0) _ KX.out Tryz.underlying74 rfl SZV.out ?_)
      refine (I1.out _).mono ?_
      rintro e w1 ⟨rfl, hbb⟩
      replace H := H.call hbb
      clear hbb KX
      have cb := H.box (b := w.heap.size) (g := fb) (by rw [HV.out]; simp) (i := 27) (by omega)
      have cd := H.box (b := w.heap.size) (g := fb) (by rw [HV.out]; simp) (i := 28) (by omega)
      obtain ⟨hc, hfz, _, _⟩ := H.get (i := a) (by omega)
      obtain ⟨jc, jf, _, _⟩ := H.get (i := 27) (by omega)
      obtain ⟨kc, kf, _, _⟩ := H.get (i := 28) (by omega)
      cases hb2 : ((hf a &&& m) &&& (fb 27 ||| en)) == 0
      · cases hb3 : ((hf a &&& m) &&& fb 28) == 0
        · as_aux_lemma =>
            have g27 : Proofs.YtndlhdmpfnadcaaGreatDoor.upd g a (adn (hf a) m) 27 = g 27 := upd_ne (by omega)
            have g28 : Proofs.YtndlhdmpfnadcaaGreatDoor.upd g a (adn (hf a) m) 28 = g 28 := upd_ne (by omega)
            have H1 := H.putI a had
            generalize Proofs.YtndlhdmpfnadcaaGreatDoor.upd g a (adn (hf a) m) = g1 at *
            have H2 := H1.putI 27 (or_pow (g 27) a (hM 27 (by omega)) hla)
            have e28 : Proofs.YtndlhdmpfnadcaaGreatDoor.upd g1 27 (g 27 ||| 2 ^ a) 28 = g 28 := (upd_ne (by decide)).trans g28
            have hnx : wh2 m en fb hf g1 a = Proofs.YtndlhdmpfnadcaaGreatDoor.upd g1 27 (g 27 ||| 2 ^ a) := by unfold wh2; rw [hb2, g27]; rfl
            rw [hnx] at NX0
            generalize Proofs.YtndlhdmpfnadcaaGreatDoor.upd g1 27 (g 27 ||| 2 ^ a) = g2 at *
            have H3 := H2.putI 28 (or_pow (g 28) a (hM 28 (by omega)) hla)
            have hny : wh3 m fb hf g2 a = Proofs.YtndlhdmpfnadcaaGreatDoor.upd g2 28 (g 28 ||| 2 ^ a) := by unfold wh3; rw [hb3, e28]; rfl
            rw [hny] at NX0
            have H4 := Lib.hid (H3.less (g := whN m en fb hf (a + 1)) (fun i _ => by rw [NX0]))
            simp only [hb2] at hx2
            simp only [hb3] at hx3
            clear hb2 hb3 hny NX0 hM H1 H2 H3 H had e28 g27 g28
            try clear hnx
            try clear hg2
            go_wp2_with fail
            go_roundg (gk - 1)
            case measure => omega
            case rel =>
              refine ⟨a + 1, by omega, by go_num, ?_⟩
              with_reducible exact H4
        · as_aux_lemma =>
            have g27 : Proofs.YtndlhdmpfnadcaaGreatDoor.upd g a (adn (hf a) m) 27 = g 27 := upd_ne (by omega)
            have g28 : Proofs.YtndlhdmpfnadcaaGreatDoor.upd g a (adn (hf a) m) 28 = g 28 := upd_ne (by omega)
            have H1 := H.putI a had
            generalize Proofs.YtndlhdmpfnadcaaGreatDoor.upd g a (adn (hf a) m) = g1 at *
            have H2 := H1.putI 27 (or_pow (g 27) a (hM 27 (by omega)) hla)
            have e28 : Proofs.YtndlhdmpfnadcaaGreatDoor.upd g1 27 (g 27 ||| 2 ^ a) 28 = g 28 := (upd_ne (by decide)).trans g28
            have hnx : wh2 m en fb hf g1 a = Proofs.YtndlhdmpfnadcaaGreatDoor.upd g1 27 (g 27 ||| 2 ^ a) := by unfold wh2; rw [hb2, g27]; rfl
            rw [hnx] at NX0
            generalize Proofs.YtndlhdmpfnadcaaGreatDoor.upd g1 27 (g 27 ||| 2 ^ a) = g2 at *
            have H3 := H2
            have hny : wh3 m fb hf g2 a = g2 := by unfold wh3; rw [hb3]; rfl
            rw [hny] at NX0
            have H4 := Lib.hid (H3.less (g := whN m en fb hf (a + 1)) (fun i _ => by rw [NX0]))
            simp only [hb2] at hx2
            simp only [hb3] at hx3
            clear hb2 hb3 hny NX0 hM H1 H2 H3 H had e28 g27 g28
            try clear hnx
            try clear hg2
            go_wp2_with fail
            go_roundg (gk - 1)
            case measure => omega
            case rel =>
              refine ⟨a + 1, by omega, by go_num, ?_⟩
              with_reducible exact H4
      · cases hb3 : ((hf a &&& m) &&& fb 28) == 0
        · as_aux_lemma =>
            have g27 : Proofs.YtndlhdmpfnadcaaGreatDoor.upd g a (adn (hf a) m) 27 = g 27 := upd_ne (by omega)
            have g28 : Proofs.YtndlhdmpfnadcaaGreatDoor.upd g a (adn (hf a) m) 28 = g 28 := upd_ne (by omega)
            have H1 := H.putI a had
            generalize Proofs.YtndlhdmpfnadcaaGreatDoor.upd g a (adn (hf a) m) = g1 at *
            have hnx : wh2 m en fb hf g1 a = g1 := by unfold wh2; rw [hb2]; rfl
            rw [hnx] at NX0
            have H2 := H1
            have e28 := g28
            obtain ⟨g2, hg2⟩ : ∃ g2, g1 = g2 := ⟨_, rfl⟩
            rw [hg2] at H2 NX0 e28
            have H3 := H2.putI 28 (or_pow (g 28) a (hM 28 (by omega)) hla)
            have hny : wh3 m fb hf g2 a = Proofs.YtndlhdmpfnadcaaGreatDoor.upd g2 28 (g 28 ||| 2 ^ a) := by unfold wh3; rw [hb3, e28]; rfl
            rw [hny] at NX0
            have H4 := Lib.hid (H3.less (g := whN m en fb hf (a + 1)) (fun i _ => by rw [NX0]))
            simp only [hb2] at hx2
            simp only [hb3] at hx3
            clear hb2 hb3 hny NX0 hM H1 H2 H3 H had e28 g27 g28
            try clear hnx
            try clear hg2
            go_wp2_with fail
            go_roundg (gk - 1)
            case measure => omega
            case rel =>
              refine ⟨a + 1, by omega, by go_num, ?_⟩
              with_reducible exact H4
        · as_aux_lemma =>
            have g27 : Proofs.YtndlhdmpfnadcaaGreatDoor.upd g a (adn (hf a) m) 27 = g 27 := upd_ne (by omega)
            have g28 : Proofs.YtndlhdmpfnadcaaGreatDoor.upd g a (adn (hf a) m) 28 = g 28 := upd_ne (by omega)
            have H1 := H.putI a had
            generalize Proofs.YtndlhdmpfnadcaaGreatDoor.upd g a (adn (hf a) m) = g1 at *
            have hnx : wh2 m en fb hf g1 a = g1 := by unfold wh2; rw [hb2]; rfl
            rw [hnx] at NX0
            have H2 := H1
            have e28 := g28
            obtain ⟨g2, hg2⟩ : ∃ g2, g1 = g2 := ⟨_, rfl⟩
            rw [hg2] at H2 NX0 e28
            have H3 := H2
            have hny : wh3 m fb hf g2 a = g2 := by unfold wh3; rw [hb3]; rfl
            rw [hny] at NX0
            have H4 := Lib.hid (H3.less (g := whN m en fb hf (a + 1)) (fun i _ => by rw [NX0]))
            simp only [hb2] at hx2
            simp only [hb3] at hx3
            clear hb2 hb3 hny NX0 hM H1 H2 H3 H had e28 g27 g28
            try clear hnx
            try clear hg2
            go_wp2_with fail
            go_roundg (gk - 1)
            case measure => omega
            case rel =>
              refine ⟨a + 1, by omega, by go_num, ?_⟩
              with_reducible exact H4
    · obtain rfl : a = 27 := by omega
      clear hla SM FB HF HD
      have k3 := H.loc
      rw [HVE.out] at k3
      have hz : VE.size = 29 := by rw [← HVE.out]; exact av_size _ _
      have h1 : VE.all (·.oneCell') = true := by rw [← HVE.out]; exact av_one _ _
      have hi : (Tryz.prog.info? 74).map (·.size) = some VE.size := by rw [hz]; exact all_size
      obtain ⟨old, hoz, k2⟩ := H.res
      have kE := setRow_heap wr (w.heap.size + 1) _ VE 74 (0, 0) k2
      have BE : Hid (Below w.heap.size w (wr.setRow (w.heap.size + 1) VE)) := H.below.trans (below_row (by first | omega | exact Nat.le_refl _) VE)
      have X := Lib.hid (And.intro k3 (And.intro k2 (And.intro hi (And.intro (hoz.trans hz.symm) (And.intro h1 kE)))))
      clear k3 k2 hoz kE hz h1 hi H HVE
      go_wp2_with (first | (refine wpList_load_row rfl 74 (.tmp 5) rfl (w.heap.size + 2) rfl 74 VE (0, 0) _ X.out.1 Tryz.underlying74 rfl X.out.2.2.1 ?_) | (refine wpList_store_row rfl 74 (.tmp 4) (.tmp 57) rfl (w.heap.size + 1) VE rfl rfl 74 old X.out.2.1 X.out.2.2.1 X.out.2.2.2.1 X.out.2.2.2.2.1 ?_))
      exact bodyPost_ret (v := .agg VE) (results_cell_row rfl _ _ (w.heap.size + 1) 74 VE (0, 0) _ rfl X.out.2.2.2.2.2 Tryz.underlying74 rfl X.out.2.2.1) rfl ⟨rfl, BE.out⟩
theorem l4While_any (fb : Nat → Nat) (hb : M29 fb) (m : Nat) (hm : m < 134217728) : ∃ f, M29 f ∧ ∀ w, Calls Tryz.prog 77 #[.int .i64 (m : Int), .agg (av 29 fb)] w fun e w' => (e = .returned (.agg (av 29 f)) ∧ Below w.heap.size w w') := by
  obtain ⟨en, hen, EN⟩ := l4Endless_any fb hb m hm
  have HD := fun (i : Nat) (hi : i < 27) => l4Heads_any fb hb m hm i hi
  obtain ⟨hf, hhf⟩ : ∃ hf : Nat → Nat, ∀ i : Nat, i < 27 → hf i < 134217728 ∧ ∀ w, Calls Tryz.prog 95 #[.int .i64 (m : Int), .agg (av 29 fb), .int .i64 (i : Int)] w fun e w' => (e = .returned (.int .i64 (hf i : Nat)) ∧ Below w.heap.size w w') :=
    ⟨fun i => if h : i < 27 then (HD i h).choose else 0, fun i hi => by have h := (HD i hi).choose_spec; simpa only [hi, dite_true] using h⟩
  exact ⟨whN m en fb hf 27, whN_small (fun i hi => (hhf i hi).1) 27 (Nat.le_refl _), fun w => l4While_walk fb hb m en hm hen hf (fun i hi => (hhf i hi).1) EN (fun i hi => (hhf i hi).2) w⟩

end Go.Proofs.YtndlhdmpfnadcaaGreatDoor

/- A region that draws its order, whose operations but the last ones are quiet in a class of worlds: one walk of the lexical order, then the last ones one after the other. -/
namespace Go.Proofs.YtndlhdmpfnadcaaGreatDoor
open Go.RowKit

section
variable {P : Program} {ops : Array Oper} {md : Region.Mode} {C : World → Prop}
/-- every operation before the n-th is quiet; behind them stands L -/
def headQ (P : Program) (md : Region.Mode) (ops : Array Oper) (C : World → Prop) (n : Nat) (L : Array Bool → Act → Prop) : Nat → Array Bool → Act → Prop
  | 0, ls, a => L ls a
  | f + 1, ls, a => Region.ready md ops ls ≠ [] ∧ ∀ i ∈ Region.ready md ops ls, i < n ∧ qOp P ops C i (headQ P md ops C n L f (ls.setIfInBounds i true)) a
theorem any_of_headQ {n g : Nat} {L : Array Bool → Act → Prop} {Q' : Exit → Act → World → Prop} (hL : ∀ ls a w, C w → L ls a → wpAny P md ops Q' g ls a w) (f : Nat) :
    ∀ (ls : Array Bool) (a : Act) (w : World), C w → headQ P md ops C n L f ls a → wpAny P md ops Q' (f + g) ls a w := by
  induction f with
  | zero => intro ls a w hw h; rw [Nat.zero_add]; exact hL _ _ _ hw h
  | succ f ih =>
    intro ls a w hw h
    rw [Nat.succ_add]
    exact ⟨fun h0 => absurd h0 h.1, fun i hi => wpOp_of_qOp hw (fun a' w' hw' h' => ih _ a' w' hw' h') (h.2 i hi).2⟩
/-- what may come up now may be taken first -/
theorem headQ_first {n i : Nat} {o : Oper} {v : Value} {L : Array Bool → Act → Prop} (hi : ops[i]? = some o) (hsel : Region.noSelect ops = true)
    (hs : Region.sinkB md ops n = true) (hc : Region.chainB md ops n = true) (hn : n < ops.size) (hin : i < n) (hL : ∀ ls a, L ls a → ∀ j ∈ Region.ready md ops ls, n ≤ j) (f : Nat) :
    ∀ (ls : Array Bool) (a : Act), HeadInv md ops n ls →
      (∀ j oj, ops[j]? = some oj → j ≠ i → ls.getD j true = false → (∀ e ∈ oj.after, Region.binds md e = true → e.on ≠ i) → o.apart ops oj = true) →
      i ∈ Region.ready md ops ls → YieldsIn P ops C o v a → headQ P md ops C n L f (ls.setIfInBounds i true) (a.put o.dst v) → headQ P md ops C n L (f + 1) ls a := by
  have low : ∀ {ls : Array Bool} {j : Nat}, HeadInv md ops n ls → i ∈ Region.ready md ops ls → j ∈ Region.ready md ops ls → j < n := fun {ls j} inv hr hj => by
    rcases Nat.lt_or_ge j n with h | h
    · exact h
    · exact absurd hj (tail_waits hs hc hn inv _ i rfl hin (mem_ready.1 hr).1 j h)
  induction f with
  | zero =>
    intro ls a inv _ hr hy H
    refine ⟨fun h => (by rw [h] at hr; cases hr), fun j hj => ⟨low inv hr hj, ?_⟩⟩
    by_cases e : j = i
    · subst e; exact hy.qOp hi H
    · have h1 := hL _ _ H j (ready_mono hj e)
      have h2 := low inv hr hj
      omega
  | succ f ih =>
    intro ls a inv hfree hr hy H
    refine ⟨fun h => (by rw [h] at hr; cases hr), fun j hj => ⟨low inv hr hj, ?_⟩⟩
    by_cases e : j = i
    · subst e; exact hy.qOp hi H
    · obtain ⟨hju, oj, hoj, hall⟩ := mem_ready.1 hj
      have hiu := (mem_ready.1 hr).1
      have hno : ∀ x ∈ oj.after, Region.binds md x = true → x.on ≠ i := fun x hx hb hxi => by
        have := hall x hx hb
        rw [hxi, getD_both hiu] at this
        cases this
      have h2 := qOp_put hoj (hfree j oj hoj e hju hno) (fun cs b => Region.noSelect_spec hsel i o cs b hi) (fun cs b => Region.noSelect_spec hsel j oj cs b hoj) hy (H.2 j (ready_mono hj e)).2
      refine qOp_mono (fun a' h3 => ih _ a' (inv.set hj (low inv hr hj)) (fun k ok hk hki hku hkn => hfree k ok hk hki ?_ hkn) (ready_mono hr (Ne.symm e)) h3.1 ?_) h2
      · by_cases hjk : j = k
        · subst hjk; exact hju
        · rwa [getD_set_ne true hjk] at hku
      · rw [Array.setIfInBounds_comm _ _ e]
        exact h3.2
theorem headQ_lex {n g : Nat} {Lq : Act → Prop} (hsel : Region.noSelect ops = true) (hs : Region.sinkB md ops n = true) (hc : Region.chainB md ops n = true) (hn : n < ops.size) (l : List Oper) :
    ∀ (k : Nat) (ls : Array Bool) (a : Act), (∀ j, j < l.length → l[j]? = ops[k + j]?) → k + l.length = n → HeadInv md ops n ls →
    Region.lexHead md ops g l.length k ls = true → wpQuiet P ops C Lq l a → headQ P md ops C n (fun ls' a' => Region.seqB md ops g n ls' = true ∧ Lq a') l.length ls a := by
  induction l with
  | nil =>
    intro k ls a _ hk _ hB h
    obtain rfl : k = n := by simpa using hk
    exact ⟨by simpa [Region.lexHead] using hB, h⟩
  | cons o l ih =>
    intro k ls a hl hk inv hB h
    simp only [List.length_cons] at hk hl
    simp only [List.length_cons, Region.lexHead, Bool.and_eq_true] at hB
    have h0 : ops[k]? = some o := by simpa using (hl 0 (by omega)).symm
    have hr : k ∈ Region.ready md ops ls := by simpa using hB.1.1
    have hq : qOp P ops C k (wpQuiet P ops C Lq l) a := by unfold qOp; simp only [h0]; exact h
    obtain ⟨v, hy, hK⟩ := yieldsIn_of_qOp h0 hq
    exact headQ_first h0 hsel hs hc hn (by omega) (fun _ _ hL => seqB_ready hL.1) l.length ls a inv (Region.free_spec h0 hB.1.2) hr hy
      (ih (k + 1) _ _ (fun j hj => by have := hl (j + 1) (by omega); simpa [Nat.add_assoc, Nat.add_comm 1 j] using this) (by omega) (inv.set hr (by omega)) hB.2 hK)
/-- the region: n operations quiet in the class, then the rest in order -/
theorem region_tail {id : Nat} {Q : Exit → Act → World → Prop} {a : Act} {w : World} {l : List Oper} (n : Nat) (C : World → Prop) (hm : P.follows .mixedOrders = true) (hB : Region.lexTailB .any l.toArray n = true) (hC : C w.drew)
    (h : wpQuiet P l.toArray C (fun a' => ∀ w', C w' → wpList P l.toArray Q (l.drop n) a' w') (l.take n) a) : (Code.region id l.toArray true).wp P Q a w := by
  simp only [Region.lexTailB, Bool.and_eq_true, decide_eq_true_eq] at hB
  obtain ⟨⟨⟨⟨hsel, hn⟩, hs⟩, hc⟩, hlex⟩ := hB
  have hn' : n < l.length := by simpa using hn
  have htl : (l.take n).length = n := by simp; omega
  have hdl : (l.drop n).length = l.toArray.size - n := by simp
  have inv0 : HeadInv .any l.toArray n (Array.replicate l.toArray.size false) :=
    ⟨by simp, fun j oj _ hl => (by rw [getD_replicate_false] at hl; cases hl), fun t _ ht => getD_in (by simpa using ht) (getD_replicate_false _ _)⟩
  have H := headQ_lex (md := .any) (g := l.toArray.size - n) hsel hs hc hn (l.take n) 0 _ a (fun j hj => by
    have hj' : j < n := by rw [htl] at hj; exact hj
    simp [hj']) (by simpa using htl) inv0 (by rw [htl]; exact hlex) h
  refine wp_region_any hm ?_
  have H2 := any_of_headQ (Q' := Q) (g := l.toArray.size - n) (fun ls a' w' hw' hL => by
    have := wpAny_of_seq (md := .any) (Q' := Q) (l.drop n) n ls a' w' (fun j => by simp [List.getElem?_drop]) (by rw [hdl]; exact hL.1) (hL.2 w' hw')
    rwa [hdl] at this) _ _ _ _ hC H
  rw [htl, show n + (l.toArray.size - n) = l.toArray.size by omega] at H2
  exact H2
end

end Go.Proofs.YtndlhdmpfnadcaaGreatDoor

/- What a program can do, from all states. -/
namespace Go.Proofs.YtndlhdmpfnadcaaGreatDoor
open Go.RowKit
open Pl
set_option linter.unusedSimpArgs false

/-- cells told of, and the result's block -/
structure R4 (w W : World) (l : List (Addr × Value)) (r : Nat) : Prop where
  sit : Sit w W l
  res : Held2 W r
theorem R4.call {w W W' : World} {l : List (Addr × Value)} {r : Nat} (H : R4 w W l r) (hb : Below W.heap.size W W') : R4 w W' l r := ⟨H.sit.call hb, H.res.below hb H.res.lt⟩
theorem R4.drew {w W : World} {l : List (Addr × Value)} {r : Nat} (H : R4 w W l r) : R4 w W.drew l r := H.call (below_drew _ _)
theorem R4.get {w W : World} {l : List (Addr × Value)} {r : Nat} (H : R4 w W l r) {p : Addr} {v : Value} (h : (p, v) ∈ l) : W.cell? p = some v := H.sit.get h
theorem ext_from2 {l : List UInt8} (h : 1 ≤ l.length) : (bs l).extract 1 (bs l).size = bs (l.drop 1) :=
  extract_nd (l := l.drop 1) (r := []) (by rw [bs_list, List.append_nil]) (by rw [bs_size, List.length_drop]; omega)
theorem ext_to2 {l : List UInt8} (h : 1 ≤ l.length) : (bs l).extract 0 1 = bs (l.take 1) :=
  extract_nd (l := l.take 1) (r := l.drop 1) (by rw [bs_list, List.drop_zero, List.take_append_drop]) (by rw [List.length_take]; omega)
theorem full_lt : 134217727 < 134217728 := by decide
set_option maxRecDepth 100000 in
set_option maxHeartbeats 16000000 in
theorem run_s (S : ByteArray) (hS : S.size ≤ 1000000)  (hok : ok false 2 (Nd.n0 115) = true) (ht : S.data.toList = (Nd.n0 115).text) (w : World) : Calls Tryz.prog 48 #[.string S] w fun e w' => (e = .returned (.agg (av 29 (skF 27))) ∧ Below w.heap.size w w') := by
  have SK := Lib.hid (fun w => l4Skip_any w)
  have hz : S.size = (Nd.n0 115).text.length := by rw [← ht, len_S]
  have HD := Lib.hid (fun w => headS_any S hS false (Nd.n0 115) hok ht w)
  have PT := Lib.hid (fun w => partsS_any S hS false (Nd.n0 115) hok ht w)
  obtain ⟨hp0, hc0⟩ := op_at ht
  have hex : S.extract 1 (hd (Nd.n0 115)) = bs (headN (Nd.n0 115)) := by
    have h1 : S.data.toList.drop 1 = headN (Nd.n0 115) ++ flatN (prt (Nd.n0 115)) := by rw [ht, head_text]; rfl
    exact extract_nd h1 (by have := hd_head (Nd.n0 115); omega)
  have hd1 := hd_pos (Nd.n0 115)
  have hd2 : hd (Nd.n0 115) ≤ S.size := by rw [hz]; exact hd_le (Nd.n0 115)
  obtain ⟨h0, hh0⟩ : ∃ l, hd (Nd.n0 115) = l := ⟨_, rfl⟩
  rw [hh0] at HD hd1 hd2 hex
  have hhn : headN (Nd.n0 115) = [] := by first | rfl | simp [headN]
  rw [hhn] at hex
  have hpp : prt (Nd.n0 115) = [] := by first | rfl | simp [prt]
  rw [hpp] at PT
  have hc1 : S[0] = 115 := hc0
  clear hc0 hh0 hhn hpp hz hok ht
  have K0 := Lib.hid (Blk.new w 74 #[.int .i64 0, .int .i64 0, .int .i64 0, .int .i64 0, .int .i64 0, .int .i64 0, .int .i64 0, .int .i64 0, .int .i64 0, .int .i64 0, .int .i64 0, .int .i64 0, .int .i64 0, .int .i64 0, .int .i64 0, .int .i64 0, .int .i64 0, .int .i64 0, .int .i64 0, .int .i64 0, .int .i64 0, .int .i64 0, .int .i64 0, .int .i64 0, .int .i64 0, .int .i64 0, .int .i64 0, .int .i64 0, .int .i64 0])
  have B0 := Lib.hid (below_n w (.cells #[.int .i64 0, .int .i64 0, .int .i64 0, .int .i64 0, .int .i64 0, .int .i64 0, .int .i64 0, .int .i64 0, .int .i64 0, .int .i64 0, .int .i64 0, .int .i64 0, .int .i64 0, .int .i64 0, .int .i64 0, .int .i64 0, .int .i64 0, .int .i64 0, .int .i64 0, .int .i64 0, .int .i64 0, .int .i64 0, .int .i64 0, .int .i64 0, .int .i64 0, .int .i64 0, .int .i64 0, .int .i64 0, .int .i64 0] 74))
  obtain ⟨VF, hVF⟩ : ∃ V, av 29 (skF 27) = V := ⟨_, rfl⟩
  have SZF : Hid ((Tryz.prog.info? 74).map (·.size) = some VF.size ∧ 29 = VF.size ∧ VF.all (·.oneCell') = true) := ⟨by rw [← hVF, av_size]; exact all_size, by rw [← hVF, av_size], by rw [← hVF]; exact av_one _ _⟩
  rw [hVF] at SK ⊢
  clear hVF
  go_enter Tryz.func48, Tryz.ntmps48
  go_wp2_with fail
  refine (HD.out _).mono ?_
  rintro e w1 ⟨rfl, m, rfl⟩
  go_wp2_with fail
  refine (PT.out _).mono ?_
  rintro e w2 ⟨v, rfl, hown, hb2⟩
  obtain ⟨aa, cap, rfl, hcap, hsh⟩ := row_shape hown
  have H : R4 w w2 [] w.heap.size := ⟨⟨((B0.out.trans (below_drewN _ _ m)).trans (below_le hb2 (B0.out.trans (below_drewN w.heap.size _ m)).size)), fun p hp => absurd hp (by simp)⟩, (⟨_, rfl, ((K0.out.drewN m).below hb2 (K0.out.drewN m).lt)⟩ : Held2 w2 w.heap.size)⟩
  clear hown hb2 hsh HD PT K0 B0
  go_wp2_with fail
  refine (SK.out _).mono ?_
  rintro e w3 ⟨rfl, hb3⟩
  replace H := H.call hb3
  clear hb3 hc1
  obtain ⟨old, ho, k2⟩ := H.res
  have kE := k2.row VF
  have BE : Hid (Below w.heap.size w (w3.setRow w.heap.size VF)) := H.sit.below.trans (below_row (Nat.le_refl _) VF)
  have X := Lib.hid (And.intro k2 (And.intro (ho.trans SZF.out.2.1) kE))
  clear k2 ho kE H
  go_wp2_with (refine wpList_store_row rfl 74 (.tmp 2) (.tmp 16) rfl w.heap.size VF rfl rfl 74 old X.out.1 SZF.out.1 X.out.2.1 SZF.out.2.2 ?_)
  exact bodyPost_ret (v := .agg VF) (results_cell_row rfl _ _ w.heap.size 74 VF (0, 0) _ rfl X.out.2.2 Tryz.underlying74 rfl SZF.out.1) rfl ⟨rfl, BE.out⟩
set_option maxRecDepth 100000 in
set_option maxHeartbeats 16000000 in
theorem run_a (S : ByteArray) (hS : S.size ≤ 1000000) (v : UInt8) (ee : Nd) (hv : v ∈ nmsN) (he : ok false 0 ee = true) (hok : ok false 2 (Nd.n2 97 (.n0 v) ee) = true) (ht : S.data.toList = (Nd.n2 97 (.n0 v) ee).text) (w : World) : Calls Tryz.prog 48 #[.string S] w fun e w' => (e = .returned (.agg (av 29 (seF v ee 27))) ∧ Below w.heap.size w w') := by
  have hle : ee.text.length ≤ S.size := by rw [← len_S, ht]; simp [Nd.text]; omega
  have ST := Lib.hid (fun w => l4Set_any (bs ee.text) (by rw [bs_size]; omega) ee he (bs_list _) v hv w)
  have VN := Lib.hid (fun w => l1Var_any (bs [v]) (by rw [bs_size]; simp) w)
  have hvo : varNo (varOf (bs [v]).data.toList) = fnd nmsN v := by rw [bs_list, varOf_one hv]; rfl
  rw [hvo] at VN
  have VN0 : Hid (∀ w, Calls Tryz.prog 67 #[.string (bs [v])] w fun e w' => e = .returned (.int .i64 (fnd nmsN v)) ∧ Below w.heap.size w w') := fun w => (VN.out w).mono fun _ _ h => ⟨h.1, h.2 ▸ Below.refl _ _⟩
  have x1 : (bs (v :: ee.text)).extract 0 1 = bs [v] := ext_to2 (l := v :: ee.text) (by simp)
  have x2 : (bs (v :: ee.text)).extract 1 (bs (v :: ee.text)).size = bs ee.text := ext_from2 (l := v :: ee.text) (by simp)
  have hz1 : 1 ≤ (bs (v :: ee.text)).size := by rw [bs_size]; simp
  have hz2 : (1 : Int) ≤ ((bs (v :: ee.text)).size : Int) := by omega
  clear hvo VN hv he hle
  have hz : S.size = (Nd.n2 97 (.n0 v) ee).text.length := by rw [← ht, len_S]
  have HD := Lib.hid (fun w => headS_any S hS false (Nd.n2 97 (.n0 v) ee) hok ht w)
  have PT := Lib.hid (fun w => partsS_any S hS false (Nd.n2 97 (.n0 v) ee) hok ht w)
  obtain ⟨hp0, hc0⟩ := op_at ht
  have hex : S.extract 1 (hd (Nd.n2 97 (.n0 v) ee)) = bs (headN (Nd.n2 97 (.n0 v) ee)) := by
    have h1 : S.data.toList.drop 1 = headN (Nd.n2 97 (.n0 v) ee) ++ flatN (prt (Nd.n2 97 (.n0 v) ee)) := by rw [ht, head_text]; rfl
    exact extract_nd h1 (by have := hd_head (Nd.n2 97 (.n0 v) ee); omega)
  have hd1 := hd_pos (Nd.n2 97 (.n0 v) ee)
  have hd2 : hd (Nd.n2 97 (.n0 v) ee) ≤ S.size := by rw [hz]; exact hd_le (Nd.n2 97 (.n0 v) ee)
  obtain ⟨h0, hh0⟩ : ∃ l, hd (Nd.n2 97 (.n0 v) ee) = l := ⟨_, rfl⟩
  rw [hh0] at HD hd1 hd2 hex
  have hhn : headN (Nd.n2 97 (.n0 v) ee) = (v :: ee.text) := by first | rfl | simp [headN]
  rw [hhn] at hex
  have hpp : prt (Nd.n2 97 (.n0 v) ee) = [] := by first | rfl | simp [prt]
  rw [hpp] at PT
  have hc1 : S[0] = 97 := hc0
  clear hc0 hh0 hhn hpp hz hok ht
  generalize bs (v :: ee.text) = TT at *
  have K0 := Lib.hid (Blk.new w 74 #[.int .i64 0, .int .i64 0, .int .i64 0, .int .i64 0, .int .i64 0, .int .i64 0, .int .i64 0, .int .i64 0, .int .i64 0, .int .i64 0, .int .i64 0, .int .i64 0, .int .i64 0, .int .i64 0, .int .i64 0, .int .i64 0, .int .i64 0, .int .i64 0, .int .i64 0, .int .i64 0, .int .i64 0, .int .i64 0, .int .i64 0, .int .i64 0, .int .i64 0, .int .i64 0, .int .i64 0, .int .i64 0, .int .i64 0])
  have B0 := Lib.hid (below_n w (.cells #[.int .i64 0, .int .i64 0, .int .i64 0, .int .i64 0, .int .i64 0, .int .i64 0, .int .i64 0, .int .i64 0, .int .i64 0, .int .i64 0, .int .i64 0, .int .i64 0, .int .i64 0, .int .i64 0, .int .i64 0, .int .i64 0, .int .i64 0, .int .i64 0, .int .i64 0, .int .i64 0, .int .i64 0, .int .i64 0, .int .i64 0, .int .i64 0, .int .i64 0, .int .i64 0, .int .i64 0, .int .i64 0, .int .i64 0] 74))
  obtain ⟨VF, hVF⟩ : ∃ V, av 29 (seF v ee 27) = V := ⟨_, rfl⟩
  have SZF : Hid ((Tryz.prog.info? 74).map (·.size) = some VF.size ∧ 29 = VF.size ∧ VF.all (·.oneCell') = true) := ⟨by rw [← hVF, av_size]; exact all_size, by rw [← hVF, av_size], by rw [← hVF]; exact av_one _ _⟩
  rw [hVF] at ST ⊢
  clear hVF
  go_enter Tryz.func48, Tryz.ntmps48
  go_wp2_with fail
  refine (HD.out _).mono ?_
  rintro e w1 ⟨rfl, m, rfl⟩
  go_wp2_with fail
  refine (PT.out _).mono ?_
  rintro e w2 ⟨v, rfl, hown, hb2⟩
  obtain ⟨aa, cap, rfl, hcap, hsh⟩ := row_shape hown
  have H : R4 w w2 [] w.heap.size := ⟨⟨((B0.out.trans (below_drewN _ _ m)).trans (below_le hb2 (B0.out.trans (below_drewN w.heap.size _ m)).size)), fun p hp => absurd hp (by simp)⟩, (⟨_, rfl, ((K0.out.drewN m).below hb2 (K0.out.drewN m).lt)⟩ : Held2 w2 w.heap.size)⟩
  clear hown hb2 hsh HD PT K0 B0
  go_wp2_with fail
  clear hc1
  refine region_tail 6 (fun W => R4 w W [] w.heap.size) (by kernel_rfl) (by kernel_rfl) H.drew ?_
  simp only [List.take_succ_cons, List.take_zero, List.drop_succ_cons, List.drop_zero]
  repeat (first | go_big_quiet_skip | (go_big_quiet_want; first | (apply quiet_value; (· (intro W hW; skip; go_simp; exact rfl)); simp only [Act.put, List.setIfInBounds_toArray, List.set_cons_zero, List.set_cons_succ]; go_big_quiet_on) | (apply quiet_call; (· (intro W hW; go_simp; exact ⟨rfl, rfl⟩)); (· (intro W hW; first | with_reducible exact ((VN0.out W)).mono fun _ _ h => ⟨h.1, hW.call h.2⟩ | with_reducible exact ((ST.out W)).mono fun _ _ h => ⟨h.1, hW.call h.2⟩)); simp only [Act.put, List.setIfInBounds_toArray, List.set_cons_zero, List.set_cons_succ]; go_big_quiet_on)))
  refine wpQuiet_nil ?_
  intro wq hq
  clear H
  have H := hq
  clear hq
  obtain ⟨old, ho, k2⟩ := H.res
  have kE := k2.row VF
  have BE : Hid (Below w.heap.size w (wq.setRow w.heap.size VF)) := H.sit.below.trans (below_row (Nat.le_refl _) VF)
  have X := Lib.hid (And.intro k2 (And.intro (ho.trans SZF.out.2.1) kE))
  clear k2 ho kE H
  go_wp2_with (refine wpList_store_row rfl 74 (.tmp 2) (.tmp 24) rfl w.heap.size VF rfl rfl 74 old X.out.1 SZF.out.1 X.out.2.1 SZF.out.2.2 ?_)
  exact bodyPost_ret (v := .agg VF) (results_cell_row rfl _ _ w.heap.size 74 VF (0, 0) _ rfl X.out.2.2 Tryz.underlying74 rfl SZF.out.1) rfl ⟨rfl, BE.out⟩
set_option maxRecDepth 100000 in
set_option maxHeartbeats 16000000 in
theorem run_59 (S : ByteArray) (hS : S.size ≤ 1000000) (x y : Nd) (fx fy : Nat → Nat) (hx : M29 fx) (CX : ∀ w, Calls Tryz.prog 48 #[.string (bs x.text)] w fun e w' => (e = .returned (.agg (av 29 fx)) ∧ Below w.heap.size w w')) (hy : M29 fy) (CY : ∀ w, Calls Tryz.prog 48 #[.string (bs y.text)] w fun e w' => (e = .returned (.agg (av 29 fy)) ∧ Below w.heap.size w w')) (hok : ok false 2 (Nd.n2 59 x y) = true) (ht : S.data.toList = (Nd.n2 59 x y).text) (w : World) : Calls Tryz.prog 48 #[.string S] w fun e w' => (e = .returned (.agg (av 29 (sqN fx fy 729))) ∧ Below w.heap.size w w') := by
  have C1 := Lib.hid CX
  have C2 := Lib.hid CY
  have C3 := Lib.hid (fun w => l4Seq_any fx fy hx hy w)
  clear CX CY
  have hz : S.size = (Nd.n2 59 x y).text.length := by rw [← ht, len_S]
  have HD := Lib.hid (fun w => headS_any S hS false (Nd.n2 59 x y) hok ht w)
  have PT := Lib.hid (fun w => partsS_any S hS false (Nd.n2 59 x y) hok ht w)
  obtain ⟨hp0, hc0⟩ := op_at ht
  have hex : S.extract 1 (hd (Nd.n2 59 x y)) = bs (headN (Nd.n2 59 x y)) := by
    have h1 : S.data.toList.drop 1 = headN (Nd.n2 59 x y) ++ flatN (prt (Nd.n2 59 x y)) := by rw [ht, head_text]; rfl
    exact extract_nd h1 (by have := hd_head (Nd.n2 59 x y); omega)
  have hd1 := hd_pos (Nd.n2 59 x y)
  have hd2 : hd (Nd.n2 59 x y) ≤ S.size := by rw [hz]; exact hd_le (Nd.n2 59 x y)
  obtain ⟨h0, hh0⟩ : ∃ l, hd (Nd.n2 59 x y) = l := ⟨_, rfl⟩
  rw [hh0] at HD hd1 hd2 hex
  have hhn : headN (Nd.n2 59 x y) = [] := by first | rfl | simp [headN]
  rw [hhn] at hex
  have hpp : prt (Nd.n2 59 x y) = [x, y] := by first | rfl | simp [prt]
  rw [hpp] at PT
  have hc1 : S[0] = 59 := hc0
  clear hc0 hh0 hhn hpp hz hok ht
  have K0 := Lib.hid (Blk.new w 74 #[.int .i64 0, .int .i64 0, .int .i64 0, .int .i64 0, .int .i64 0, .int .i64 0, .int .i64 0, .int .i64 0, .int .i64 0, .int .i64 0, .int .i64 0, .int .i64 0, .int .i64 0, .int .i64 0, .int .i64 0, .int .i64 0, .int .i64 0, .int .i64 0, .int .i64 0, .int .i64 0, .int .i64 0, .int .i64 0, .int .i64 0, .int .i64 0, .int .i64 0, .int .i64 0, .int .i64 0, .int .i64 0, .int .i64 0])
  have B0 := Lib.hid (below_n w (.cells #[.int .i64 0, .int .i64 0, .int .i64 0, .int .i64 0, .int .i64 0, .int .i64 0, .int .i64 0, .int .i64 0, .int .i64 0, .int .i64 0, .int .i64 0, .int .i64 0, .int .i64 0, .int .i64 0, .int .i64 0, .int .i64 0, .int .i64 0, .int .i64 0, .int .i64 0, .int .i64 0, .int .i64 0, .int .i64 0, .int .i64 0, .int .i64 0, .int .i64 0, .int .i64 0, .int .i64 0, .int .i64 0, .int .i64 0] 74))
  obtain ⟨VF, hVF⟩ : ∃ V, av 29 (sqN fx fy 729) = V := ⟨_, rfl⟩
  have SZF : Hid ((Tryz.prog.info? 74).map (·.size) = some VF.size ∧ 29 = VF.size ∧ VF.all (·.oneCell') = true) := ⟨by rw [← hVF, av_size]; exact all_size, by rw [← hVF, av_size], by rw [← hVF]; exact av_one _ _⟩
  rw [hVF] at C3 ⊢
  clear hVF
  go_enter Tryz.func48, Tryz.ntmps48
  go_wp2_with fail
  refine (HD.out _).mono ?_
  rintro e w1 ⟨rfl, m, rfl⟩
  go_wp2_with fail
  refine (PT.out _).mono ?_
  rintro e w2 ⟨v, rfl, hown, hb2⟩
  obtain ⟨aa, cap, rfl, hcap, hsh⟩ := row_shape hown
  obtain ⟨g, rfl, hge, hgl⟩ := hsh (by simp)
  have H : R4 w w2 [(⟨g, 0, none⟩, .string (bs x.text)), (⟨g, 1, none⟩, .string (bs y.text))] w.heap.size := ⟨⟨((B0.out.trans (below_drewN _ _ m)).trans (below_le hb2 (B0.out.trans (below_drewN w.heap.size _ m)).size)), fun p hp => by
    simp only [List.mem_cons, List.not_mem_nil, or_false] at hp
    rcases hp with rfl | rfl
    · exact ⟨hgl, hown.cellAt 0 (by simp)⟩
    · exact ⟨hgl, hown.cellAt 1 (by simp)⟩⟩, (⟨_, rfl, ((K0.out.drewN m).below hb2 (K0.out.drewN m).lt)⟩ : Held2 w2 w.heap.size)⟩
  clear hown hb2 hsh HD PT K0 B0
  go_wp2_with fail
  clear hc1
  refine region_tail 9 (fun W => R4 w W [(⟨g, 0, none⟩, .string (bs x.text)), (⟨g, 1, none⟩, .string (bs y.text))] w.heap.size) (by kernel_rfl) (by kernel_rfl) H.drew ?_
  simp only [List.take_succ_cons, List.take_zero, List.drop_succ_cons, List.drop_zero]
  repeat (first | go_big_quiet_skip | (go_big_quiet_want; first | (apply quiet_value; (· (intro W hW; (have r0 := hW.get (.head _); have r1 := hW.get (.tail _ (.head _))); go_simp; exact rfl)); simp only [Act.put, List.setIfInBounds_toArray, List.set_cons_zero, List.set_cons_succ]; go_big_quiet_on) | (apply quiet_call; (· (intro W hW; go_simp; exact ⟨rfl, rfl⟩)); (· (intro W hW; first | with_reducible exact ((C1.out W)).mono fun _ _ h => ⟨h.1, hW.call h.2⟩ | with_reducible exact ((C2.out W)).mono fun _ _ h => ⟨h.1, hW.call h.2⟩ | with_reducible exact ((C3.out W)).mono fun _ _ h => ⟨h.1, hW.call h.2⟩)); simp only [Act.put, List.setIfInBounds_toArray, List.set_cons_zero, List.set_cons_succ]; go_big_quiet_on)))
  refine wpQuiet_nil ?_
  intro wq hq
  clear H
  have H := hq
  clear hq
  obtain ⟨old, ho, k2⟩ := H.res
  have kE := k2.row VF
  have BE : Hid (Below w.heap.size w (wq.setRow w.heap.size VF)) := H.sit.below.trans (below_row (Nat.le_refl _) VF)
  have X := Lib.hid (And.intro k2 (And.intro (ho.trans SZF.out.2.1) kE))
  clear k2 ho kE H
  go_wp2_with (refine wpList_store_row rfl 74 (.tmp 2) (.tmp 35) rfl w.heap.size VF rfl rfl 74 old X.out.1 SZF.out.1 X.out.2.1 SZF.out.2.2 ?_)
  exact bodyPost_ret (v := .agg VF) (results_cell_row rfl _ _ w.heap.size 74 VF (0, 0) _ rfl X.out.2.2 Tryz.underlying74 rfl SZF.out.1) rfl ⟨rfl, BE.out⟩
set_option maxRecDepth 100000 in
set_option maxHeartbeats 16000000 in
theorem run_47 (S : ByteArray) (hS : S.size ≤ 1000000) (x y : Nd) (fx fy : Nat → Nat) (hx : M29 fx) (CX : ∀ w, Calls Tryz.prog 48 #[.string (bs x.text)] w fun e w' => (e = .returned (.agg (av 29 fx)) ∧ Below w.heap.size w w')) (hy : M29 fy) (CY : ∀ w, Calls Tryz.prog 48 #[.string (bs y.text)] w fun e w' => (e = .returned (.agg (av 29 fy)) ∧ Below w.heap.size w w')) (hok : ok false 2 (Nd.n2 47 x y) = true) (ht : S.data.toList = (Nd.n2 47 x y).text) (w : World) : Calls Tryz.prog 48 #[.string S] w fun e w' => (e = .returned (.agg (av 29 (chN 134217727 134217727 (chL 134217727 134217727 (fx 27) (fy 27)) (chL 134217727 134217727 (fx 28) (fy 28)) fx fy 27))) ∧ Below w.heap.size w w') := by
  have C1 := Lib.hid CX
  have C2 := Lib.hid CY
  have C3 : Hid (∀ w, Calls Tryz.prog 75 #[.agg (av 29 fx), .agg (av 29 fy), .int .i64 134217727, .int .i64 134217727] w fun e w' => (e = .returned (.agg (av 29 (chN 134217727 134217727 (chL 134217727 134217727 (fx 27) (fy 27)) (chL 134217727 134217727 (fx 28) (fy 28)) fx fy 27))) ∧ Below w.heap.size w w')) := fun w => l4Choose_any fx fy hx hy 134217727 134217727 full_lt full_lt w
  clear CX CY
  have hz : S.size = (Nd.n2 47 x y).text.length := by rw [← ht, len_S]
  have HD := Lib.hid (fun w => headS_any S hS false (Nd.n2 47 x y) hok ht w)
  have PT := Lib.hid (fun w => partsS_any S hS false (Nd.n2 47 x y) hok ht w)
  obtain ⟨hp0, hc0⟩ := op_at ht
  have hex : S.extract 1 (hd (Nd.n2 47 x y)) = bs (headN (Nd.n2 47 x y)) := by
    have h1 : S.data.toList.drop 1 = headN (Nd.n2 47 x y) ++ flatN (prt (Nd.n2 47 x y)) := by rw [ht, head_text]; rfl
    exact extract_nd h1 (by have := hd_head (Nd.n2 47 x y); omega)
  have hd1 := hd_pos (Nd.n2 47 x y)
  have hd2 : hd (Nd.n2 47 x y) ≤ S.size := by rw [hz]; exact hd_le (Nd.n2 47 x y)
  obtain ⟨h0, hh0⟩ : ∃ l, hd (Nd.n2 47 x y) = l := ⟨_, rfl⟩
  rw [hh0] at HD hd1 hd2 hex
  have hhn : headN (Nd.n2 47 x y) = [] := by first | rfl | simp [headN]
  rw [hhn] at hex
  have hpp : prt (Nd.n2 47 x y) = [x, y] := by first | rfl | simp [prt]
  rw [hpp] at PT
  have hc1 : S[0] = 47 := hc0
  clear hc0 hh0 hhn hpp hz hok ht
  have K0 := Lib.hid (Blk.new w 74 #[.int .i64 0, .int .i64 0, .int .i64 0, .int .i64 0, .int .i64 0, .int .i64 0, .int .i64 0, .int .i64 0, .int .i64 0, .int .i64 0, .int .i64 0, .int .i64 0, .int .i64 0, .int .i64 0, .int .i64 0, .int .i64 0, .int .i64 0, .int .i64 0, .int .i64 0, .int .i64 0, .int .i64 0, .int .i64 0, .int .i64 0, .int .i64 0, .int .i64 0, .int .i64 0, .int .i64 0, .int .i64 0, .int .i64 0])
  have B0 := Lib.hid (below_n w (.cells #[.int .i64 0, .int .i64 0, .int .i64 0, .int .i64 0, .int .i64 0, .int .i64 0, .int .i64 0, .int .i64 0, .int .i64 0, .int .i64 0, .int .i64 0, .int .i64 0, .int .i64 0, .int .i64 0, .int .i64 0, .int .i64 0, .int .i64 0, .int .i64 0, .int .i64 0, .int .i64 0, .int .i64 0, .int .i64 0, .int .i64 0, .int .i64 0, .int .i64 0, .int .i64 0, .int .i64 0, .int .i64 0, .int .i64 0] 74))
  obtain ⟨VF, hVF⟩ : ∃ V, av 29 (chN 134217727 134217727 (chL 134217727 134217727 (fx 27) (fy 27)) (chL 134217727 134217727 (fx 28) (fy 28)) fx fy 27) = V := ⟨_, rfl⟩
  have SZF : Hid ((Tryz.prog.info? 74).map (·.size) = some VF.size ∧ 29 = VF.size ∧ VF.all (·.oneCell') = true) := ⟨by rw [← hVF, av_size]; exact all_size, by rw [← hVF, av_size], by rw [← hVF]; exact av_one _ _⟩
  rw [hVF] at C3 ⊢
  clear hVF
  go_enter Tryz.func48, Tryz.ntmps48
  go_wp2_with fail
  refine (HD.out _).mono ?_
  rintro e w1 ⟨rfl, m, rfl⟩
  go_wp2_with fail
  refine (PT.out _).mono ?_
  rintro e w2 ⟨v, rfl, hown, hb2⟩
  obtain ⟨aa, cap, rfl, hcap, hsh⟩ := row_shape hown
  obtain ⟨g, rfl, hge, hgl⟩ := hsh (by simp)
  have H : R4 w w2 [(⟨g, 0, none⟩, .string (bs x.text)), (⟨g, 1, none⟩, .string (bs y.text))] w.heap.size := ⟨⟨((B0.out.trans (below_drewN _ _ m)).trans (below_le hb2 (B0.out.trans (below_drewN w.heap.size _ m)).size)), fun p hp => by
    simp only [List.mem_cons, List.not_mem_nil, or_false] at hp
    rcases hp with rfl | rfl
    · exact ⟨hgl, hown.cellAt 0 (by simp)⟩
    · exact ⟨hgl, hown.cellAt 1 (by simp)⟩⟩, (⟨_, rfl, ((K0.out.drewN m).below hb2 (K0.out.drewN m).lt)⟩ : Held2 w2 w.heap.size)⟩
  clear hown hb2 hsh HD PT K0 B0
  go_wp2_with fail
  clear hc1
  refine region_tail 9 (fun W => R4 w W [(⟨g, 0, none⟩, .string (bs x.text)), (⟨g, 1, none⟩, .string (bs y.text))] w.heap.size) (by kernel_rfl) (by kernel_rfl) H.drew ?_
  simp only [List.take_succ_cons, List.take_zero, List.drop_succ_cons, List.drop_zero]
  repeat (first | go_big_quiet_skip | (go_big_quiet_want; first | (apply quiet_value; (· (intro W hW; (have r0 := hW.get (.head _); have r1 := hW.get (.tail _ (.head _))); go_simp; exact rfl)); simp only [Act.put, List.setIfInBounds_toArray, List.set_cons_zero, List.set_cons_succ]; go_big_quiet_on) | (apply quiet_call; (· (intro W hW; go_simp; exact ⟨rfl, rfl⟩)); (· (intro W hW; first | with_reducible exact ((C1.out W)).mono fun _ _ h => ⟨h.1, hW.call h.2⟩ | with_reducible exact ((C2.out W)).mono fun _ _ h => ⟨h.1, hW.call h.2⟩ | with_reducible exact ((C3.out W)).mono fun _ _ h => ⟨h.1, hW.call h.2⟩)); simp only [Act.put, List.setIfInBounds_toArray, List.set_cons_zero, List.set_cons_succ]; go_big_quiet_on)))
  refine wpQuiet_nil ?_
  intro wq hq
  clear H
  have H := hq
  clear hq
  obtain ⟨old, ho, k2⟩ := H.res
  have kE := k2.row VF
  have BE : Hid (Below w.heap.size w (wq.setRow w.heap.size VF)) := H.sit.below.trans (below_row (Nat.le_refl _) VF)
  have X := Lib.hid (And.intro k2 (And.intro (ho.trans SZF.out.2.1) kE))
  clear k2 ho kE H
  go_wp2_with (refine wpList_store_row rfl 74 (.tmp 2) (.tmp 46) rfl w.heap.size VF rfl rfl 74 old X.out.1 SZF.out.1 X.out.2.1 SZF.out.2.2 ?_)
  exact bodyPost_ret (v := .agg VF) (results_cell_row rfl _ _ w.heap.size 74 VF (0, 0) _ rfl X.out.2.2 Tryz.underlying74 rfl SZF.out.1) rfl ⟨rfl, BE.out⟩
set_option maxRecDepth 100000 in
set_option maxHeartbeats 16000000 in
theorem run_63 (S : ByteArray) (hS : S.size ≤ 1000000) (t x y : Nd) (htt : ok false 1 t = true) (fx fy : Nat → Nat) (hx : M29 fx) (CX : ∀ w, Calls Tryz.prog 48 #[.string (bs x.text)] w fun e w' => (e = .returned (.agg (av 29 fx)) ∧ Below w.heap.size w w')) (hy : M29 fy) (CY : ∀ w, Calls Tryz.prog 48 #[.string (bs y.text)] w fun e w' => (e = .returned (.agg (av 29 fy)) ∧ Below w.heap.size w w')) (hok : ok false 2 (Nd.n3 63 t x y) = true) (ht : S.data.toList = (Nd.n3 63 t x y).text) (w : World) : Calls Tryz.prog 48 #[.string S] w fun e w' => (e = .returned (.agg (av 29 (chN (msk (teB t) 27) (adn 134217727 (msk (teB t) 27)) (chL (msk (teB t) 27) (adn 134217727 (msk (teB t) 27)) (fx 27) (fy 27)) (chL (msk (teB t) 27) (adn 134217727 (msk (teB t) 27)) (fx 28) (fy 28)) fx fy 27))) ∧ Below w.heap.size w w') := by
  have hlt : t.text.length ≤ S.size := by rw [← len_S, ht]; simp only [Nd.text, List.length_cons, List.length_append]; omega
  have TE := Lib.hid (fun w => l4Test_any (bs t.text) (by rw [bs_size]; omega) t htt (bs_list _) w)
  have hml : msk (teB t) 27 < 134217728 := msk_lt _ _
  have had : bits BinOp.andNot IntKind.i64 134217727 ((msk (teB t) 27 : Nat) : Int) = (((adn 134217727 (msk (teB t) 27)) : Nat) : Int) := adn_int 134217727 _ full_lt hml
  clear hlt htt
  have C1 := Lib.hid CX
  have C2 := Lib.hid CY
  have C3 : Hid (∀ w, Calls Tryz.prog 75 #[.agg (av 29 fx), .agg (av 29 fy), .int .i64 ((msk (teB t) 27 : Nat) : Int), .int .i64 (bits BinOp.andNot IntKind.i64 134217727 ((msk (teB t) 27 : Nat) : Int))] w fun e w' => (e = .returned (.agg (av 29 (chN (msk (teB t) 27) (adn 134217727 (msk (teB t) 27)) (chL (msk (teB t) 27) (adn 134217727 (msk (teB t) 27)) (fx 27) (fy 27)) (chL (msk (teB t) 27) (adn 134217727 (msk (teB t) 27)) (fx 28) (fy 28)) fx fy 27))) ∧ Below w.heap.size w w')) := fun w => by
    rw [had]
    exact l4Choose_any fx fy hx hy _ _ hml (adn_lt _ full_lt) w
  clear CX CY had
  have hz : S.size = (Nd.n3 63 t x y).text.length := by rw [← ht, len_S]
  have HD := Lib.hid (fun w => headS_any S hS false (Nd.n3 63 t x y) hok ht w)
  have PT := Lib.hid (fun w => partsS_any S hS false (Nd.n3 63 t x y) hok ht w)
  obtain ⟨hp0, hc0⟩ := op_at ht
  have hex : S.extract 1 (hd (Nd.n3 63 t x y)) = bs (headN (Nd.n3 63 t x y)) := by
    have h1 : S.data.toList.drop 1 = headN (Nd.n3 63 t x y) ++ flatN (prt (Nd.n3 63 t x y)) := by rw [ht, head_text]; rfl
    exact extract_nd h1 (by have := hd_head (Nd.n3 63 t x y); omega)
  have hd1 := hd_pos (Nd.n3 63 t x y)
  have hd2 : hd (Nd.n3 63 t x y) ≤ S.size := by rw [hz]; exact hd_le (Nd.n3 63 t x y)
  obtain ⟨h0, hh0⟩ : ∃ l, hd (Nd.n3 63 t x y) = l := ⟨_, rfl⟩
  rw [hh0] at HD hd1 hd2 hex
  have hhn : headN (Nd.n3 63 t x y) = t.text := by first | rfl | simp [headN]
  rw [hhn] at hex
  have hpp : prt (Nd.n3 63 t x y) = [x, y] := by first | rfl | simp [prt]
  rw [hpp] at PT
  have hc1 : S[0] = 63 := hc0
  clear hc0 hh0 hhn hpp hz hok ht
  have K0 := Lib.hid (Blk.new w 74 #[.int .i64 0, .int .i64 0, .int .i64 0, .int .i64 0, .int .i64 0, .int .i64 0, .int .i64 0, .int .i64 0, .int .i64 0, .int .i64 0, .int .i64 0, .int .i64 0, .int .i64 0, .int .i64 0, .int .i64 0, .int .i64 0, .int .i64 0, .int .i64 0, .int .i64 0, .int .i64 0, .int .i64 0, .int .i64 0, .int .i64 0, .int .i64 0, .int .i64 0, .int .i64 0, .int .i64 0, .int .i64 0, .int .i64 0])
  have B0 := Lib.hid (below_n w (.cells #[.int .i64 0, .int .i64 0, .int .i64 0, .int .i64 0, .int .i64 0, .int .i64 0, .int .i64 0, .int .i64 0, .int .i64 0, .int .i64 0, .int .i64 0, .int .i64 0, .int .i64 0, .int .i64 0, .int .i64 0, .int .i64 0, .int .i64 0, .int .i64 0, .int .i64 0, .int .i64 0, .int .i64 0, .int .i64 0, .int .i64 0, .int .i64 0, .int .i64 0, .int .i64 0, .int .i64 0, .int .i64 0, .int .i64 0] 74))
  obtain ⟨VF, hVF⟩ : ∃ V, av 29 (chN (msk (teB t) 27) (adn 134217727 (msk (teB t) 27)) (chL (msk (teB t) 27) (adn 134217727 (msk (teB t) 27)) (fx 27) (fy 27)) (chL (msk (teB t) 27) (adn 134217727 (msk (teB t) 27)) (fx 28) (fy 28)) fx fy 27) = V := ⟨_, rfl⟩
  have SZF : Hid ((Tryz.prog.info? 74).map (·.size) = some VF.size ∧ 29 = VF.size ∧ VF.all (·.oneCell') = true) := ⟨by rw [← hVF, av_size]; exact all_size, by rw [← hVF, av_size], by rw [← hVF]; exact av_one _ _⟩
  rw [hVF] at C3 ⊢
  clear hVF
  go_enter Tryz.func48, Tryz.ntmps48
  go_wp2_with fail
  refine (HD.out _).mono ?_
  rintro e w1 ⟨rfl, m, rfl⟩
  go_wp2_with fail
  refine (PT.out _).mono ?_
  rintro e w2 ⟨v, rfl, hown, hb2⟩
  obtain ⟨aa, cap, rfl, hcap, hsh⟩ := row_shape hown
  obtain ⟨g, rfl, hge, hgl⟩ := hsh (by simp)
  have H : R4 w w2 [(⟨g, 0, none⟩, .string (bs x.text)), (⟨g, 1, none⟩, .string (bs y.text))] w.heap.size := ⟨⟨((B0.out.trans (below_drewN _ _ m)).trans (below_le hb2 (B0.out.trans (below_drewN w.heap.size _ m)).size)), fun p hp => by
    simp only [List.mem_cons, List.not_mem_nil, or_false] at hp
    rcases hp with rfl | rfl
    · exact ⟨hgl, hown.cellAt 0 (by simp)⟩
    · exact ⟨hgl, hown.cellAt 1 (by simp)⟩⟩, (⟨_, rfl, ((K0.out.drewN m).below hb2 (K0.out.drewN m).lt)⟩ : Held2 w2 w.heap.size)⟩
  clear hown hb2 hsh HD PT K0 B0
  go_wp2_with fail
  refine (TE.out _).mono ?_
  rintro e w3 ⟨rfl, hb3⟩
  replace H := H.call hb3
  clear hb3 TE
  go_wp2_with fail
  clear hc1
  refine region_tail 12 (fun W => R4 w W [(⟨g, 0, none⟩, .string (bs x.text)), (⟨g, 1, none⟩, .string (bs y.text))] w.heap.size) (by kernel_rfl) (by kernel_rfl) H.drew ?_
  simp only [List.take_succ_cons, List.take_zero, List.drop_succ_cons, List.drop_zero]
  repeat (first | go_big_quiet_skip | (go_big_quiet_want; first | (apply quiet_value; (· (intro W hW; (have r0 := hW.get (.head _); have r1 := hW.get (.tail _ (.head _))); go_simp; exact rfl)); simp only [Act.put, List.setIfInBounds_toArray, List.set_cons_zero, List.set_cons_succ]; go_big_quiet_on) | (apply quiet_call; (· (intro W hW; go_simp; exact ⟨rfl, rfl⟩)); (· (intro W hW; first | with_reducible exact ((C1.out W)).mono fun _ _ h => ⟨h.1, hW.call h.2⟩ | with_reducible exact ((C2.out W)).mono fun _ _ h => ⟨h.1, hW.call h.2⟩ | with_reducible exact ((C3.out W)).mono fun _ _ h => ⟨h.1, hW.call h.2⟩)); simp only [Act.put, List.setIfInBounds_toArray, List.set_cons_zero, List.set_cons_succ]; go_big_quiet_on)))
  refine wpQuiet_nil ?_
  intro wq hq
  clear H
  have H := hq
  clear hq
  obtain ⟨old, ho, k2⟩ := H.res
  have kE := k2.row VF
  have BE : Hid (Below w.heap.size w (wq.setRow w.heap.size VF)) := H.sit.below.trans (below_row (Nat.le_refl _) VF)
  have X := Lib.hid (And.intro k2 (And.intro (ho.trans SZF.out.2.1) kE))
  clear k2 ho kE H
  go_wp2_with (refine wpList_store_row rfl 74 (.tmp 2) (.tmp 64) rfl w.heap.size VF rfl rfl 74 old X.out.1 SZF.out.1 X.out.2.1 SZF.out.2.2 ?_)
  exact bodyPost_ret (v := .agg VF) (results_cell_row rfl _ _ w.heap.size 74 VF (0, 0) _ rfl X.out.2.2 Tryz.underlying74 rfl SZF.out.1) rfl ⟨rfl, BE.out⟩
set_option maxRecDepth 100000 in
set_option maxHeartbeats 16000000 in
theorem run_64 (S : ByteArray) (hS : S.size ≤ 1000000) (t x : Nd) (htt : ok false 1 t = true) (fx fw : Nat → Nat) (CX : ∀ w, Calls Tryz.prog 48 #[.string (bs x.text)] w fun e w' => (e = .returned (.agg (av 29 fx)) ∧ Below w.heap.size w w')) (CW : ∀ w, Calls Tryz.prog 77 #[.int .i64 ((msk (teB t) 27 : Nat) : Int), .agg (av 29 fx)] w fun e w' => (e = .returned (.agg (av 29 fw)) ∧ Below w.heap.size w w')) (hok : ok false 2 (Nd.n2 64 t x) = true) (ht : S.data.toList = (Nd.n2 64 t x).text) (w : World) : Calls Tryz.prog 48 #[.string S] w fun e w' => (e = .returned (.agg (av 29 fw)) ∧ Below w.heap.size w w') := by
  have hlt : t.text.length ≤ S.size := by rw [← len_S, ht]; simp only [Nd.text, List.length_cons, List.length_append]; omega
  have TE := Lib.hid (fun w => l4Test_any (bs t.text) (by rw [bs_size]; omega) t htt (bs_list _) w)
  have hml : msk (teB t) 27 < 134217728 := msk_lt _ _
  have had : bits BinOp.andNot IntKind.i64 134217727 ((msk (teB t) 27 : Nat) : Int) = (((adn 134217727 (msk (teB t) 27)) : Nat) : Int) := adn_int 134217727 _ full_lt hml
  clear hlt htt
  have C1 := Lib.hid CX
  have C2 := Lib.hid CW
  clear CX CW had
  have hz : S.size = (Nd.n2 64 t x).text.length := by rw [← ht, len_S]
  have HD := Lib.hid (fun w => headS_any S hS false (Nd.n2 64 t x) hok ht w)
  have PT := Lib.hid (fun w => partsS_any S hS false (Nd.n2 64 t x) hok ht w)
  obtain ⟨hp0, hc0⟩ := op_at ht
  have hex : S.extract 1 (hd (Nd.n2 64 t x)) = bs (headN (Nd.n2 64 t x)) := by
    have h1 : S.data.toList.drop 1 = headN (Nd.n2 64 t x) ++ flatN (prt (Nd.n2 64 t x)) := by rw [ht, head_text]; rfl
    exact extract_nd h1 (by have := hd_head (Nd.n2 64 t x); omega)
  have hd1 := hd_pos (Nd.n2 64 t x)
  have hd2 : hd (Nd.n2 64 t x) ≤ S.size := by rw [hz]; exact hd_le (Nd.n2 64 t x)
  obtain ⟨h0, hh0⟩ : ∃ l, hd (Nd.n2 64 t x) = l := ⟨_, rfl⟩
  rw [hh0] at HD hd1 hd2 hex
  have hhn : headN (Nd.n2 64 t x) = t.text := by first | rfl | simp [headN]
  rw [hhn] at hex
  have hpp : prt (Nd.n2 64 t x) = [x] := by first | rfl | simp [prt]
  rw [hpp] at PT
  have hc1 : S[0] = 64 := hc0
  clear hc0 hh0 hhn hpp hz hok ht
  have K0 := Lib.hid (Blk.new w 74 #[.int .i64 0, .int .i64 0, .int .i64 0, .int .i64 0, .int .i64 0, .int .i64 0, .int .i64 0, .int .i64 0, .int .i64 0, .int .i64 0, .int .i64 0, .int .i64 0, .int .i64 0, .int .i64 0, .int .i64 0, .int .i64 0, .int .i64 0, .int .i64 0, .int .i64 0, .int .i64 0, .int .i64 0, .int .i64 0, .int .i64 0, .int .i64 0, .int .i64 0, .int .i64 0, .int .i64 0, .int .i64 0, .int .i64 0])
  have B0 := Lib.hid (below_n w (.cells #[.int .i64 0, .int .i64 0, .int .i64 0, .int .i64 0, .int .i64 0, .int .i64 0, .int .i64 0, .int .i64 0, .int .i64 0, .int .i64 0, .int .i64 0, .int .i64 0, .int .i64 0, .int .i64 0, .int .i64 0, .int .i64 0, .int .i64 0, .int .i64 0, .int .i64 0, .int .i64 0, .int .i64 0, .int .i64 0, .int .i64 0, .int .i64 0, .int .i64 0, .int .i64 0, .int .i64 0, .int .i64 0, .int .i64 0] 74))
  obtain ⟨VF, hVF⟩ : ∃ V, av 29 fw = V := ⟨_, rfl⟩
  have SZF : Hid ((Tryz.prog.info? 74).map (·.size) = some VF.size ∧ 29 = VF.size ∧ VF.all (·.oneCell') = true) := ⟨by rw [← hVF, av_size]; exact all_size, by rw [← hVF, av_size], by rw [← hVF]; exact av_one _ _⟩
  rw [hVF] at C2 ⊢
  clear hVF
  go_enter Tryz.func48, Tryz.ntmps48
  go_wp2_with fail
  refine (HD.out _).mono ?_
  rintro e w1 ⟨rfl, m, rfl⟩
  go_wp2_with fail
  refine (PT.out _).mono ?_
  rintro e w2 ⟨v, rfl, hown, hb2⟩
  obtain ⟨aa, cap, rfl, hcap, hsh⟩ := row_shape hown
  obtain ⟨g, rfl, hge, hgl⟩ := hsh (by simp)
  have H : R4 w w2 [(⟨g, 0, none⟩, .string (bs x.text))] w.heap.size := ⟨⟨((B0.out.trans (below_drewN _ _ m)).trans (below_le hb2 (B0.out.trans (below_drewN w.heap.size _ m)).size)), fun p hp => by
    simp only [List.mem_cons, List.not_mem_nil, or_false] at hp
    obtain rfl := hp
    · exact ⟨hgl, hown.cellAt 0 (by simp)⟩⟩, (⟨_, rfl, ((K0.out.drewN m).below hb2 (K0.out.drewN m).lt)⟩ : Held2 w2 w.heap.size)⟩
  clear hown hb2 hsh HD PT K0 B0
  go_wp2_with fail
  refine (TE.out _).mono ?_
  rintro e w3 ⟨rfl, hb3⟩
  replace H := H.call hb3
  clear hb3 TE
  have r0 := H.get (.head _)
  go_wp2_with fail
  clear hc1
  refine (C1.out _).mono ?_
  rintro e w4 ⟨rfl, hb4⟩
  replace H := H.call hb4
  clear hb4 r0
  go_wp2_with fail
  refine (C2.out _).mono ?_
  rintro e w5 ⟨rfl, hb5⟩
  replace H := H.call hb5
  clear hb5
  obtain ⟨old, ho, k2⟩ := H.res
  have kE := k2.row VF
  have BE : Hid (Below w.heap.size w (w5.setRow w.heap.size VF)) := H.sit.below.trans (below_row (Nat.le_refl _) VF)
  have X := Lib.hid (And.intro k2 (And.intro (ho.trans SZF.out.2.1) kE))
  clear k2 ho kE H
  go_wp2_with (refine wpList_store_row rfl 74 (.tmp 2) (.tmp 72) rfl w.heap.size VF rfl rfl 74 old X.out.1 SZF.out.1 X.out.2.1 SZF.out.2.2 ?_)
  exact bodyPost_ret (v := .agg VF) (results_cell_row rfl _ _ w.heap.size 74 VF (0, 0) _ rfl X.out.2.2 Tryz.underlying74 rfl SZF.out.1) rfl ⟨rfl, BE.out⟩
set_option maxRecDepth 100000 in
set_option maxHeartbeats 16000000 in
theorem run_126 (S : ByteArray) (hS : S.size ≤ 1000000) (t : Nd) (htt : ok false 1 t = true) (hok : ok false 2 (Nd.n1 126 t) = true) (ht : S.data.toList = (Nd.n1 126 t).text) (w : World) : Calls Tryz.prog 48 #[.string S] w fun e w' => (e = .returned (.agg (av 29 (chN (msk (teB t) 27) (adn 134217727 (msk (teB t) 27)) (chL (msk (teB t) 27) (adn 134217727 (msk (teB t) 27)) ((skF 27) 27) ((ltF 0 134217727) 27)) (chL (msk (teB t) 27) (adn 134217727 (msk (teB t) 27)) ((skF 27) 28) ((ltF 0 134217727) 28)) (skF 27) (ltF 0 134217727) 27))) ∧ Below w.heap.size w w') := by
  have hlt : t.text.length ≤ S.size := by rw [← len_S, ht]; simp only [Nd.text, List.length_cons, List.length_append]; omega
  have TE := Lib.hid (fun w => l4Test_any (bs t.text) (by rw [bs_size]; omega) t htt (bs_list _) w)
  have hml : msk (teB t) 27 < 134217728 := msk_lt _ _
  have had : bits BinOp.andNot IntKind.i64 134217727 ((msk (teB t) 27 : Nat) : Int) = (((adn 134217727 (msk (teB t) 27)) : Nat) : Int) := adn_int 134217727 _ full_lt hml
  clear hlt htt
  have SK := Lib.hid (fun w => l4Skip_any w)
  have hlav : #[.int .i64 0, .int .i64 0, .int .i64 0, .int .i64 0, .int .i64 0, .int .i64 0, .int .i64 0, .int .i64 0, .int .i64 0, .int .i64 0, .int .i64 0, .int .i64 0, .int .i64 0, .int .i64 0, .int .i64 0, .int .i64 0, .int .i64 0, .int .i64 0, .int .i64 0, .int .i64 0, .int .i64 0, .int .i64 0, .int .i64 0, .int .i64 0, .int .i64 0, .int .i64 0, .int .i64 0, .int .i64 (0), .int .i64 (134217727)] = av 29 (ltF 0 134217727) := lt_av 0 134217727
  have C3 : Hid (∀ w, Calls Tryz.prog 75 #[.agg (av 29 (skF 27)), .agg #[.int .i64 0, .int .i64 0, .int .i64 0, .int .i64 0, .int .i64 0, .int .i64 0, .int .i64 0, .int .i64 0, .int .i64 0, .int .i64 0, .int .i64 0, .int .i64 0, .int .i64 0, .int .i64 0, .int .i64 0, .int .i64 0, .int .i64 0, .int .i64 0, .int .i64 0, .int .i64 0, .int .i64 0, .int .i64 0, .int .i64 0, .int .i64 0, .int .i64 0, .int .i64 0, .int .i64 0, .int .i64 (0), .int .i64 (134217727)], .int .i64 ((msk (teB t) 27 : Nat) : Int), .int .i64 (bits BinOp.andNot IntKind.i64 134217727 ((msk (teB t) 27 : Nat) : Int))] w fun e w' => (e = .returned (.agg (av 29 (chN (msk (teB t) 27) (adn 134217727 (msk (teB t) 27)) (chL (msk (teB t) 27) (adn 134217727 (msk (teB t) 27)) ((skF 27) 27) ((ltF 0 134217727) 27)) (chL (msk (teB t) 27) (adn 134217727 (msk (teB t) 27)) ((skF 27) 28) ((ltF 0 134217727) 28)) (skF 27) (ltF 0 134217727) 27))) ∧ Below w.heap.size w w')) := fun w => by
    rw [had, hlav]
    exact l4Choose_any (skF 27) (ltF 0 134217727) skF_small (ltF_small (by decide) full_lt) _ _ hml (adn_lt _ full_lt) w
  clear had hlav
  have hz : S.size = (Nd.n1 126 t).text.length := by rw [← ht, len_S]
  have HD := Lib.hid (fun w => headS_any S hS false (Nd.n1 126 t) hok ht w)
  have PT := Lib.hid (fun w => partsS_any S hS false (Nd.n1 126 t) hok ht w)
  obtain ⟨hp0, hc0⟩ := op_at ht
  have hex : S.extract 1 (hd (Nd.n1 126 t)) = bs (headN (Nd.n1 126 t)) := by
    have h1 : S.data.toList.drop 1 = headN (Nd.n1 126 t) ++ flatN (prt (Nd.n1 126 t)) := by rw [ht, head_text]; rfl
    exact extract_nd h1 (by have := hd_head (Nd.n1 126 t); omega)
  have hd1 := hd_pos (Nd.n1 126 t)
  have hd2 : hd (Nd.n1 126 t) ≤ S.size := by rw [hz]; exact hd_le (Nd.n1 126 t)
  obtain ⟨h0, hh0⟩ : ∃ l, hd (Nd.n1 126 t) = l := ⟨_, rfl⟩
  rw [hh0] at HD hd1 hd2 hex
  have hhn : headN (Nd.n1 126 t) = t.text := by first | rfl | simp [headN]
  rw [hhn] at hex
  have hpp : prt (Nd.n1 126 t) = [] := by first | rfl | simp [prt]
  rw [hpp] at PT
  have hc1 : S[0] = 126 := hc0
  clear hc0 hh0 hhn hpp hz hok ht
  have K0 := Lib.hid (Blk.new w 74 #[.int .i64 0, .int .i64 0, .int .i64 0, .int .i64 0, .int .i64 0, .int .i64 0, .int .i64 0, .int .i64 0, .int .i64 0, .int .i64 0, .int .i64 0, .int .i64 0, .int .i64 0, .int .i64 0, .int .i64 0, .int .i64 0, .int .i64 0, .int .i64 0, .int .i64 0, .int .i64 0, .int .i64 0, .int .i64 0, .int .i64 0, .int .i64 0, .int .i64 0, .int .i64 0, .int .i64 0, .int .i64 0, .int .i64 0])
  have B0 := Lib.hid (below_n w (.cells #[.int .i64 0, .int .i64 0, .int .i64 0, .int .i64 0, .int .i64 0, .int .i64 0, .int .i64 0, .int .i64 0, .int .i64 0, .int .i64 0, .int .i64 0, .int .i64 0, .int .i64 0, .int .i64 0, .int .i64 0, .int .i64 0, .int .i64 0, .int .i64 0, .int .i64 0, .int .i64 0, .int .i64 0, .int .i64 0, .int .i64 0, .int .i64 0, .int .i64 0, .int .i64 0, .int .i64 0, .int .i64 0, .int .i64 0] 74))
  obtain ⟨VF, hVF⟩ : ∃ V, av 29 (chN (msk (teB t) 27) (adn 134217727 (msk (teB t) 27)) (chL (msk (teB t) 27) (adn 134217727 (msk (teB t) 27)) ((skF 27) 27) ((ltF 0 134217727) 27)) (chL (msk (teB t) 27) (adn 134217727 (msk (teB t) 27)) ((skF 27) 28) ((ltF 0 134217727) 28)) (skF 27) (ltF 0 134217727) 27) = V := ⟨_, rfl⟩
  have SZF : Hid ((Tryz.prog.info? 74).map (·.size) = some VF.size ∧ 29 = VF.size ∧ VF.all (·.oneCell') = true) := ⟨by rw [← hVF, av_size]; exact all_size, by rw [← hVF, av_size], by rw [← hVF]; exact av_one _ _⟩
  rw [hVF] at C3 ⊢
  clear hVF
  go_enter Tryz.func48, Tryz.ntmps48
  go_wp2_with fail
  refine (HD.out _).mono ?_
  rintro e w1 ⟨rfl, m, rfl⟩
  go_wp2_with fail
  refine (PT.out _).mono ?_
  rintro e w2 ⟨v, rfl, hown, hb2⟩
  obtain ⟨aa, cap, rfl, hcap, hsh⟩ := row_shape hown
  have H : R4 w w2 [] w.heap.size := ⟨⟨((B0.out.trans (below_drewN _ _ m)).trans (below_le hb2 (B0.out.trans (below_drewN w.heap.size _ m)).size)), fun p hp => absurd hp (by simp)⟩, (⟨_, rfl, ((K0.out.drewN m).below hb2 (K0.out.drewN m).lt)⟩ : Held2 w2 w.heap.size)⟩
  clear hown hb2 hsh HD PT K0 B0
  go_wp2_with fail
  refine (TE.out _).mono ?_
  rintro e w3 ⟨rfl, hb3⟩
  replace H := H.call hb3
  clear hb3 TE
  go_wp2_with fail
  clear hc1
  refine (SK.out _).mono ?_
  rintro e w4 ⟨rfl, hb4⟩
  replace H := H.call hb4
  clear hb4
  go_wp2_with fail
  refine (C3.out _).mono ?_
  rintro e w5 ⟨rfl, hb5⟩
  replace H := H.call hb5
  clear hb5
  obtain ⟨old, ho, k2⟩ := H.res
  have kE := k2.row VF
  have BE : Hid (Below w.heap.size w (w5.setRow w.heap.size VF)) := H.sit.below.trans (below_row (Nat.le_refl _) VF)
  have X := Lib.hid (And.intro k2 (And.intro (ho.trans SZF.out.2.1) kE))
  clear k2 ho kE H
  go_wp2_with (refine wpList_store_row rfl 74 (.tmp 2) (.tmp 78) rfl w.heap.size VF rfl rfl 74 old X.out.1 SZF.out.1 X.out.2.1 SZF.out.2.2 ?_)
  exact bodyPost_ret (v := .agg VF) (results_cell_row rfl _ _ w.heap.size 74 VF (0, 0) _ rfl X.out.2.2 Tryz.underlying74 rfl SZF.out.1) rfl ⟨rfl, BE.out⟩
theorem l4Run_any : ∀ (n : Nat) (k : Nd) (S : ByteArray), S.data.toList = k.text → k.text.length ≤ n → S.size ≤ 1000000 → ok false 2 k = true →
    ∃ f, M29 f ∧ ∀ w, Calls Tryz.prog 48 #[.string S] w fun e w' => (e = .returned (.agg (av 29 f)) ∧ Below w.heap.size w w') := by
  intro n
  induction n with
  | zero => intro k S _ h; have := text_pos k; omega
  | succ n ih =>
    intro k S ht hl hS hok
    have hz : S.size = k.text.length := by rw [← ht, len_S]
    have hrec : ∀ x ∈ prt k, ∃ f, M29 f ∧ ∀ w, Calls Tryz.prog 48 #[.string (bs x.text)] w fun e w' => (e = .returned (.agg (av 29 f)) ∧ Below w.heap.size w w') := fun x hx => by
      have := prt_short hx
      exact ih x (bs x.text) (bs_list _) (by omega) (by rw [bs_size]; omega) (prt_ok hok x hx)
    rcases ok2_head hok with rfl | ⟨v, e, rfl, hv, he⟩ | ⟨o, x, y, rfl, ho, hx, hy⟩ | ⟨t, x, y, rfl, htt, hx, hy⟩ | ⟨t, x, rfl, htt, hx⟩ | ⟨t, rfl, htt⟩
    · exact ⟨_, skF_small, fun w => run_s S hS hok ht w⟩
    · exact ⟨_, seF_small v e, fun w => run_a S hS v e (mem_nms.2 hv) he hok ht w⟩
    · rcases ho with rfl | rfl
      · obtain ⟨fx, mx, CX⟩ := hrec x (by simp [prt])
        obtain ⟨fy, my, CY⟩ := hrec y (by simp [prt])
        exact ⟨_, sqN_small mx my 729 (Nat.le_refl _), fun w => run_59 S hS x y fx fy mx CX my CY hok ht w⟩
      · obtain ⟨fx, mx, CX⟩ := hrec x (by simp [prt])
        obtain ⟨fy, my, CY⟩ := hrec y (by simp [prt])
        exact ⟨_, chN_small mx my (chL_lt (mx 27 (by omega)) (my 27 (by omega))) (chL_lt (mx 28 (by omega)) (my 28 (by omega))) 27 (Nat.le_refl _), fun w => run_47 S hS x y fx fy mx CX my CY hok ht w⟩
    · obtain ⟨fx, mx, CX⟩ := hrec x (by simp [prt])
      obtain ⟨fy, my, CY⟩ := hrec y (by simp [prt])
      exact ⟨_, chN_small mx my (chL_lt (mx 27 (by omega)) (my 27 (by omega))) (chL_lt (mx 28 (by omega)) (my 28 (by omega))) 27 (Nat.le_refl _), fun w => run_63 S hS t x y htt fx fy mx CX my CY hok ht w⟩
    · obtain ⟨fx, mx, CX⟩ := hrec x (by simp [prt])
      obtain ⟨fw, mw, CW⟩ := l4While_any fx mx (msk (teB t) 27) (msk_lt _ _)
      exact ⟨fw, mw, fun w => run_64 S hS t x htt fx fw CX CW hok ht w⟩
    · exact ⟨_, chN_small skF_small (ltF_small (by decide) full_lt) (chL_lt (skF_small 27 (by omega)) (ltF_small (by decide) full_lt 27 (by omega))) (chL_lt (skF_small 28 (by omega)) (ltF_small (by decide) full_lt 28 (by omega))) 27 (Nat.le_refl _), fun w => run_126 S hS t htt hok ht w⟩

end Go.Proofs.YtndlhdmpfnadcaaGreatDoor
