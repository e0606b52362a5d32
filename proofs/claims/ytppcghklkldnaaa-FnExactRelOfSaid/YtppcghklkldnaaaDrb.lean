/- Drawn expressions and tests: strings of a bounded length, not empty; nothing that was there turns but the source. -/
import Derived.Test.YtppcghklkldnaaaDra
import Derived.Deep.RegionWith
namespace Go.Proofs.Ytppcghklkldnaaa
open Go.RowKit
open Pl

def cst : Nat → Nat
  | 0 => 4
  | d + 1 => 4 * cst d
theorem cst_pos : ∀ d, 4 ≤ cst d
  | 0 => Nat.le_refl _
  | d + 1 => by have := cst_pos d; simp only [cst]; omega

theorem Rnd.lt {w : World} {g p : Nat} (h : Rnd w g p) : g < w.heap.size := by obtain ⟨A, n, cap, hb, _⟩ := h; exact hb.lt
theorem Rnd.keep {w w' : World} {g p : Nat} (h : Rnd w g p) (hg : w.grownBy w' none) : Rnd w' g p := by
  obtain ⟨A, n, cap, hb, hn, hy⟩ := h
  exact ⟨A, n, cap, hb.grown hg (by simp), hn, hy.keep ⟨hg.os, hg.tape, hg.output, hg.size, fun k hk _ => hg.block k hk (by simp)⟩⟩
theorem Rnd.alloc {w : World} {g p : Nat} (h : Rnd w g p) (o : Obj) : Rnd (w.alloc o) g p := h.keep (World.grownBy_alloc w o none)
theorem Rnd.drewN {w : World} {g p : Nat} (h : Rnd w g p) (n : Nat) : Rnd (w.drewN n) g p := h.keep (grownBy_drewN w n none)
theorem Rnd.below {w w' : World} {g p : Nat} (h : Rnd w g p) (hb : Below w.heap.size w w') : Rnd w' g p := h.keep (grown_of_below hb none)
theorem grown_trans {a b c : World} {g : Nat} (h : a.grownBy b (some g)) (k : b.grownBy c (some g)) : a.grownBy c (some g) := grown_step h k (fun _ e => .inl e)
theorem grown_below {a b c : World} {g : Nat} (h : a.grownBy b (some g)) (k : Below b.heap.size b c) : a.grownBy c (some g) := grown_step h (grown_of_below k none) (fun _ e => by cases e)
theorem grown_alloc {a c : World} {g : Nat} {o : Obj} (k : (a.alloc o).grownBy c (some g)) : a.grownBy c (some g) := grown_trans (World.grownBy_alloc a o (some g)) k

/-- a drawn string -/
def StrPost (w : World) (g p n k : Nat) (e : Ending) (w' : World) : Prop :=
  ∃ S : ByteArray, 1 ≤ S.size ∧ S.size ≤ n ∧ e = .returned (.string S) ∧ Drew w g p k w'
theorem strPost_mk {w w' : World} {g p n k q : Nat} {S : ByteArray} {e : Ending} (he : e = .returned (.string S)) (h1 : 1 ≤ S.size) (h2 : S.size ≤ n) (hg : w.grownBy w' (some g)) (hr : Rnd w' g q) (hp : p ≤ q) (hq : q ≤ p + k) : StrPost w g p n k e w' :=
  ⟨S, h1, h2, he, hg, q, hp, hq, hr⟩
theorem size_one (c : UInt8) : (⟨#[c]⟩ : ByteArray).size = 1 := rfl
theorem size_extract (S : ByteArray) (a b : Nat) (h : b ≤ S.size) : (S.extract a b).size = b - a := by rw [ByteArray.size_extract]; omega
theorem size_append (A B : ByteArray) : (A ++ B).size = A.size + B.size := ByteArray.size_append

set_option maxHeartbeats 4000000 in
theorem draw_any (names : ByteArray) (hn1 : 1 ≤ names.size) (hn2 : names.size ≤ 6) (g : Nat) : ∀ (d p : Nat) (z : Int) (w : World), z = d → p + cst d ≤ 1000000000 → d ≤ 100 → Rnd w g p →
    Calls Try.prog 163 #[.pointer (some ⟨g, 0, none⟩), .int .i64 z, .string names] w (StrPost w g p (cst d) (cst d)) := by
  intro d
  induction d with
  | zero =>
    intro p z w hz hp hd hR
    obtain rfl : z = 0 := hz
    simp only [cst] at hp ⊢
    have HR := Lib.hid hR
    clear hR
    go_enter Try.func163, Try.ntmps163
    go_wp2_with fail
    refine (pick_any g p ((names.size : Int) + 2) w (by omega) (by omega) HR.out).mono ?_
    rintro e wa ⟨va, ⟨vaa, vba, _⟩, rfl, hga, qa, qaa, qba, hra⟩
    have vca := vba (by omega)
    have Ra := Lib.hid hra
    have Ga := Lib.hid hga
    clear vba hra hga
    obtain ⟨j, rfl⟩ := Int.eq_ofNat_of_zero_le vaa
    by_cases hj : j < names.size
    · go_wp2_with fail
      go_ret
      exact strPost_mk rfl (by rw [size_extract _ _ _ (by omega)]; omega) (by rw [size_extract _ _ _ (by omega)]; omega) Ga.out Ra.out (by omega) (by omega)
    · go_wp2_with fail
      refine (pick_any g qa 3 wa (by omega) (by omega) Ra.out).mono ?_
      rintro e wb ⟨vb, ⟨vab, vbb, _⟩, rfl, hgb, qb, qab, qbb, hrb⟩
      have vcb := vbb (by omega)
      have Rb := Lib.hid hrb
      have Gb := Lib.hid hgb
      clear vbb hrb hgb
      go_wp2_with fail
      refine (dec_small vb _ (by omega) (by omega) rfl _).mono ?_
      rintro e wc ⟨rfl, hbc⟩
      have BC := Lib.hid hbc
      clear hbc
      go_wp2_with fail
      go_ret
      exact strPost_mk rfl (Nat.le_refl _) (by rw [size_one]; omega) (grown_below (grown_trans Ga.out Gb.out) BC.out) (Rb.out.below BC.out) (by omega) (by omega)
  | succ d ih =>
    intro p z w hz hp hd hR
    have hcp := cst_pos d
    simp only [cst] at hp ⊢
    have HR := Lib.hid hR
    have IH := Lib.hid ih
    have hz0 : ¬ z ≤ 0 := by omega
    have hz1 : z ≤ 200 := by omega
    have HZ : Hid (z - 1 = (d : Int)) := by show z - 1 = _; omega
    clear hR ih hz
    generalize cst d = cd at *
    go_enter Try.func163, Try.ntmps163
    go_wp2_with fail
    refine (pick_any g p 3 w (by omega) (by omega) HR.out).mono ?_
    rintro e w0 ⟨v0, ⟨va0, vb0, _⟩, rfl, hg0, q0, qa0, qb0, hr0⟩
    have vc0 := vb0 (by omega)
    have R0 := Lib.hid hr0
    have G0 := Lib.hid hg0
    clear vb0 hr0 hg0
    by_cases hv : v0 = 0
    · subst hv
      go_wp2_with fail
      refine (pick_any g q0 ((names.size : Int) + 2) w0 (by omega) (by omega) R0.out).mono ?_
      rintro e wa ⟨va, ⟨vaa, vba, _⟩, rfl, hga, qa, qaa, qba, hra⟩
      have vca := vba (by omega)
      have Ra := Lib.hid hra
      have Ga := Lib.hid hga
      clear vba hra hga
      obtain ⟨j, rfl⟩ := Int.eq_ofNat_of_zero_le vaa
      by_cases hj : j < names.size
      · go_wp2_with fail
        go_ret
        exact strPost_mk rfl (by rw [size_extract _ _ _ (by omega)]; omega) (by rw [size_extract _ _ _ (by omega)]; omega) (grown_trans G0.out Ga.out) Ra.out (by omega) (by omega)
      · go_wp2_with fail
        refine (pick_any g qa 3 wa (by omega) (by omega) Ra.out).mono ?_
        rintro e wb ⟨vb, ⟨vab, vbb, _⟩, rfl, hgb, qb, qab, qbb, hrb⟩
        have vcb := vbb (by omega)
        have Rb := Lib.hid hrb
        have Gb := Lib.hid hgb
        clear vbb hrb hgb
        go_wp2_with fail
        refine (dec_small vb _ (by omega) (by omega) rfl _).mono ?_
        rintro e wc ⟨rfl, hbc⟩
        have BC := Lib.hid hbc
        clear hbc
        go_wp2_with fail
        go_ret
        exact strPost_mk rfl (Nat.le_refl _) (by rw [size_one]; omega) (grown_below (grown_trans (grown_trans G0.out Ga.out) Gb.out) BC.out) (Rb.out.below BC.out) (by omega) (by omega)
    · have hv' : (v0 == 0) = false := by simp; exact hv
      clear hv
      go_wp2_with fail
      refine (of_any g q0 w0.heap.size [⟨#[43]⟩, ⟨#[45]⟩, ⟨#[42]⟩, ⟨#[43]⟩] (w0.alloc _) (by omega) (R0.out.alloc _) (by decide) (by decide) (by have := R0.out.lt; omega) (Blk.new w0 _ _)).mono ?_
      rintro e w1 ⟨s1, hs1, rfl, hg1, q1, qa1, qb1, hr1⟩
      have R1 := Lib.hid hr1
      have G1 := Lib.hid (grown_alloc hg1)
      have S1 := Lib.hid hs1
      clear hr1 hg1 hs1
      have hs1 : s1.size = 1 := by
        have := S1.out
        simp at this
        rcases this with rfl | rfl | rfl | rfl <;> rfl
      have t1 : s1.size ≤ 1 := by omega
      have t0 : 1 ≤ s1.size := by omega
      clear hs1
      go_wp2_with fail
      refine (IH.out q1 _ w1 HZ.out (by omega) (by omega) R1.out).mono ?_
      rintro e w2 ⟨s2, sa2, sb2, rfl, hg2, q2, qa2, qb2, hr2⟩
      have R2 := Lib.hid hr2
      have G2 := Lib.hid hg2
      clear hr2 hg2
      have t2 : s1.size + s2.size ≤ 9223372036854775807 := by omega
      go_wp2_with fail
      refine (IH.out q2 _ w2 HZ.out (by omega) (by omega) R2.out).mono ?_
      rintro e w3 ⟨s3, sa3, sb3, rfl, hg3, q3, qa3, qb3, hr3⟩
      have R3 := Lib.hid hr3
      have G3 := Lib.hid hg3
      clear hr3 hg3
      have t3 : (s1 ++ s2).size + s3.size ≤ 9223372036854775807 := by rw [size_append]; omega
      go_wp2_with fail
      go_ret
      exact strPost_mk rfl (by rw [size_append, size_append]; omega) (by rw [size_append, size_append]; omega) (grown_trans (grown_trans (grown_trans G0.out G1.out) G2.out) G3.out) R3.out (by omega) (by omega)

end Go.Proofs.Ytppcghklkldnaaa
