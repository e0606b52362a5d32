/- Drawn expressions and tests are expressions and tests. -/
import Derived.Test.YtndlhdmpfnadcaaGreatDoorGc
import Derived.Test.YtndlhdmpfnadcaaGreatDoorGb
import Derived.Test.YtndlhdmpfnadcaaGreatDoorLwa
namespace Go.Proofs.YtndlhdmpfnadcaaGreatDoor
open Go.RowKit
open Pl

/-- a drawn text of a sort -/
def NPost (wd : Bool) (so : Nat) (w : World) (g p n k : Nat) (e : Ending) (w' : World) : Prop :=
  ∃ S : ByteArray, Hid (∃ N : Nd, ok wd so N = true ∧ S = bs N.text) ∧ 1 ≤ S.size ∧ S.size ≤ n ∧ e = .returned (.string S) ∧ Drew w g p k w'
theorem nPost_mk {wd : Bool} {so : Nat} {w w' : World} {g p n k q : Nat} {S : ByteArray} {e : Ending} (h : ∃ N : Nd, ok wd so N = true ∧ S = bs N.text) (he : e = .returned (.string S)) (h1 : 1 ≤ S.size) (h2 : S.size ≤ n) (hg : w.grownBy w' (some g)) (hr : Rnd w' g q) (hp : p ≤ q) (hq : q ≤ p + k) : NPost wd so w g p n k e w' :=
  ⟨S, h, h1, h2, he, hg, q, hp, hq, hr⟩
theorem ext_leaf {wd : Bool} {names : ByteArray} (hnm : ∀ c ∈ names.data.toList, isV wd c = true) {j : Nat} (hj : j < names.size) : ∃ N : Nd, ok wd 0 N = true ∧ names.extract j (j + 1) = bs N.text := by
  have hl : j < names.data.toList.length := by rw [len_S]; exact hj
  refine ⟨.n0 names.data.toList[j], by simp only [ok, Bool.or_eq_true]; exact .inl (hnm _ (List.getElem_mem hl)), ?_⟩
  apply ByteArray.ext
  apply Array.toList_inj.1
  simp only [bs, ByteArray.data_extract, Array.toList_extract, List.extract_eq_take_drop, Nd.text]
  rw [show j + 1 - j = 1 by omega, List.drop_eq_getElem_cons hl]
  rfl
theorem dig_leaf {wd : Bool} {v : Int} (h0 : 0 ≤ v) (h1 : v ≤ 2) : ∃ N : Nd, ok wd 0 N = true ∧ (⟨#[UInt8.ofNat (48 + v).toNat]⟩ : ByteArray) = bs N.text := by
  refine ⟨.n0 (UInt8.ofNat (48 + v).toNat), ?_, rfl⟩
  rcases (show v = 0 ∨ v = 1 ∨ v = 2 by omega) with rfl | rfl | rfl <;> simp [ok, isD]
/-- one letter of some -/
def One (cs : List UInt8) (S : ByteArray) : Prop := ∃ o, o ∈ cs ∧ S = bs [o]
theorem one_of {cs : List UInt8} {S : ByteArray} (h : S ∈ cs.map (fun c => bs [c])) : One cs S := by
  obtain ⟨o, ho, rfl⟩ := List.mem_map.1 h
  exact ⟨o, ho, rfl⟩
theorem leaf_of {wd : Bool} {S : ByteArray} (h : One [116, 102] S) : ∃ N : Nd, ok wd 1 N = true ∧ S = bs N.text := by
  obtain ⟨o, ho, rfl⟩ := h
  simp only [List.mem_cons, List.not_mem_nil, or_false] at ho
  exact ⟨.n0 o, by rcases ho with rfl | rfl <;> rfl, rfl⟩
theorem two_of {wd : Bool} {so sk : Nat} {cs : List UInt8} (hs : ∀ o ∈ cs, ∀ a b, ok wd sk a = true → ok wd sk b = true → ok wd so (.n2 o a b) = true) {A B C : ByteArray} (h : One cs A) (hb : ∃ N : Nd, ok wd sk N = true ∧ B = bs N.text) (hc : ∃ N : Nd, ok wd sk N = true ∧ C = bs N.text) : ∃ N : Nd, ok wd so N = true ∧ A ++ B ++ C = bs N.text := by
  obtain ⟨o, ho, rfl⟩ := h
  obtain ⟨x, hx, rfl⟩ := hb
  obtain ⟨y, hy, rfl⟩ := hc
  exact ⟨.n2 o x y, hs o ho x y hx hy, by rw [bs_app, bs_app]; congr 1⟩
theorem not_of {wd : Bool} {B : ByteArray} (hb : ∃ N : Nd, ok wd 1 N = true ∧ B = bs N.text) : ∃ N : Nd, ok wd 1 N = true ∧ (⟨#[33]⟩ : ByteArray) ++ B = bs N.text := by
  obtain ⟨x, hx, rfl⟩ := hb
  exact ⟨.n1 33 x, by simp [ok, hx], by rw [show (⟨#[33]⟩ : ByteArray) = bs [33] from rfl, bs_app]; congr 1⟩
theorem op_two {wd : Bool} : ∀ o ∈ ([43, 45, 42] : List UInt8), ∀ a b, ok wd 0 a = true → ok wd 0 b = true → ok wd 0 (.n2 o a b) = true := by
  intro o ho a b ha hb
  simp [ok, mem_ops.1 ho, ha, hb]
theorem cmp_two {wd : Bool} : ∀ o ∈ ([61, 60] : List UInt8), ∀ a b, ok wd 0 a = true → ok wd 0 b = true → ok wd 1 (.n2 o a b) = true := by
  intro o ho a b ha hb
  simp at ho
  simp [ok, ho, ha, hb]
theorem con_two {wd : Bool} : ∀ o ∈ ([38, 124] : List UInt8), ∀ a b, ok wd 1 a = true → ok wd 1 b = true → ok wd 1 (.n2 o a b) = true := by
  intro o ho a b ha hb
  simp at ho
  simp [ok, ho, ha, hb]

set_option maxHeartbeats 4000000 in
theorem drawN_any (wd : Bool) (names : ByteArray) (hnm : ∀ c ∈ names.data.toList, isV wd c = true) (hn2 : names.size ≤ 6) (g : Nat) : ∀ (d p : Nat) (z : Int) (w : World), z = d → p + cst d ≤ 1000000000 → d ≤ 100 → Rnd w g p →
    Calls Tryz.prog 57 #[.pointer (some ⟨g, 0, none⟩), .int .i64 z, .string names] w (NPost wd 0 w g p (cst d) (cst d)) := by
  intro d
  induction d with
  | zero =>
    intro p z w hz hp hd hR
    obtain rfl : z = 0 := hz
    simp only [cst] at hp ⊢
    have HR := Lib.hid hR
    clear hR
    go_enter Tryz.func57, Tryz.ntmps57
    go_wp2_with fail
    refine (pick_any g p ((names.size : Int) + 2) w (by omega) (by omega) HR.out).mono ?_
    rintro e wa ⟨va, ⟨vaa, vba, _⟩, rfl, hga, qa, qaa, qba, hra⟩
    have vca := vba (by omega)
    have Ra := Lib.hid hra
    have Ga := Lib.hid hga
    clear vba hra hga
    obtain ⟨j, rfl⟩ := Int.eq_ofNat_of_zero_le vaa
    by_cases hj : j < names.size
    · go_wp2_with fail
      go_ret
      exact nPost_mk (ext_leaf hnm hj) rfl (by rw [size_extract _ _ _ (by omega)]; omega) (by rw [size_extract _ _ _ (by omega)]; omega) Ga.out Ra.out (by omega) (by omega)
    · go_wp2_with fail
      refine (pick_any g qa 3 wa (by omega) (by omega) Ra.out).mono ?_
      rintro e wb ⟨vb, ⟨vab, vbb, _⟩, rfl, hgb, qb, qab, qbb, hrb⟩
      have vcb := vbb (by omega)
      have Rb := Lib.hid hrb
      have Gb := Lib.hid hgb
      clear vbb hrb hgb
      go_wp2_with fail
      refine (dec_small vb _ (by omega) (by omega) rfl _).mono ?_
      rintro e wc ⟨rfl, hbc⟩
      have BC := Lib.hid hbc
      clear hbc
      go_wp2_with fail
      go_ret
      exact nPost_mk (dig_leaf (by omega) (by omega)) rfl (Nat.le_refl _) (by rw [size_one]; omega) (grown_below (grown_trans Ga.out Gb.out) BC.out) (Rb.out.below BC.out) (by omega) (by omega)
  | succ d ih =>
    intro p z w hz hp hd hR
    have hcp := cst_pos d
    simp only [cst] at hp ⊢
    have HR := Lib.hid hR
    have IH := Lib.hid ih
    have hz0 : ¬ z ≤ 0 := by omega
    have hz1 : z ≤ 200 := by omega
    have HZ : Hid (z - 1 = (d : Int)) := by show z - 1 = _; omega
    clear hR ih hz
    generalize cst d = cd at *
    go_enter Tryz.func57, Tryz.ntmps57
    go_wp2_with fail
    refine (pick_any g p 3 w (by omega) (by omega) HR.out).mono ?_
    rintro e w0 ⟨v0, ⟨va0, vb0, _⟩, rfl, hg0, q0, qa0, qb0, hr0⟩
    have vc0 := vb0 (by omega)
    have R0 := Lib.hid hr0
    have G0 := Lib.hid hg0
    clear vb0 hr0 hg0
    by_cases hv : v0 = 0
    · subst hv
      go_wp2_with fail
      refine (pick_any g q0 ((names.size : Int) + 2) w0 (by omega) (by omega) R0.out).mono ?_
      rintro e wa ⟨va, ⟨vaa, vba, _⟩, rfl, hga, qa, qaa, qba, hra⟩
      have vca := vba (by omega)
      have Ra := Lib.hid hra
      have Ga := Lib.hid hga
      clear vba hra hga
      obtain ⟨j, rfl⟩ := Int.eq_ofNat_of_zero_le vaa
      by_cases hj : j < names.size
      · go_wp2_with fail
        go_ret
        exact nPost_mk (ext_leaf hnm hj) rfl (by rw [size_extract _ _ _ (by omega)]; omega) (by rw [size_extract _ _ _ (by omega)]; omega) (grown_trans G0.out Ga.out) Ra.out (by omega) (by omega)
      · go_wp2_with fail
        refine (pick_any g qa 3 wa (by omega) (by omega) Ra.out).mono ?_
        rintro e wb ⟨vb, ⟨vab, vbb, _⟩, rfl, hgb, qb, qab, qbb, hrb⟩
        have vcb := vbb (by omega)
        have Rb := Lib.hid hrb
        have Gb := Lib.hid hgb
        clear vbb hrb hgb
        go_wp2_with fail
        refine (dec_small vb _ (by omega) (by omega) rfl _).mono ?_
        rintro e wc ⟨rfl, hbc⟩
        have BC := Lib.hid hbc
        clear hbc
        go_wp2_with fail
        go_ret
        exact nPost_mk (dig_leaf (by omega) (by omega)) rfl (Nat.le_refl _) (by rw [size_one]; omega) (grown_below (grown_trans (grown_trans G0.out Ga.out) Gb.out) BC.out) (Rb.out.below BC.out) (by omega) (by omega)
    · have hv' : (v0 == 0) = false := by simp; exact hv
      clear hv
      go_wp2_with fail
      refine (of_any g q0 w0.heap.size [⟨#[43]⟩, ⟨#[45]⟩, ⟨#[42]⟩, ⟨#[43]⟩] (w0.alloc _) (by omega) (R0.out.alloc _) (by decide) (by decide) (by have := R0.out.lt; omega) (Blk.new w0 _ _)).mono ?_
      rintro e w1 ⟨s1, hs1, rfl, hg1, q1, qa1, qb1, hr1⟩
      have R1 := Lib.hid hr1
      have G1 := Lib.hid (grown_alloc hg1)
      have S1 := Lib.hid hs1
      have O1 : Hid (One [43, 45, 42] s1) := one_of (by have := S1.out; simp at this ⊢; rcases this with h | h | h | h <;> simp [h, bs])
      clear hr1 hg1 hs1
      have hs1 : s1.size = 1 := by
        have := S1.out
        simp at this
        rcases this with rfl | rfl | rfl | rfl <;> rfl
      have t1 : s1.size ≤ 1 := by omega
      have t0 : 1 ≤ s1.size := by omega
      clear hs1
      go_wp2_with fail
      refine (IH.out q1 _ w1 HZ.out (by omega) (by omega) R1.out).mono ?_
      rintro e w2 ⟨s2, H2, sa2, sb2, rfl, hg2, q2, qa2, qb2, hr2⟩
      have R2 := Lib.hid hr2
      have G2 := Lib.hid hg2
      clear hr2 hg2
      have t2 : s1.size + s2.size ≤ 9223372036854775807 := by omega
      go_wp2_with fail
      refine (IH.out q2 _ w2 HZ.out (by omega) (by omega) R2.out).mono ?_
      rintro e w3 ⟨s3, H3, sa3, sb3, rfl, hg3, q3, qa3, qb3, hr3⟩
      have R3 := Lib.hid hr3
      have G3 := Lib.hid hg3
      clear hr3 hg3
      have t3 : (s1 ++ s2).size + s3.size ≤ 9223372036854775807 := by rw [size_append]; omega
      go_wp2_with fail
      go_ret
      exact nPost_mk (two_of op_two O1.out H2.out H3.out) rfl (by rw [size_append, size_append]; omega) (by rw [size_append, size_append]; omega) (grown_trans (grown_trans (grown_trans G0.out G1.out) G2.out) G3.out) R3.out (by omega) (by omega)

set_option maxHeartbeats 4000000 in
theorem drawTestN_any (wd : Bool) (names : ByteArray) (hnm : ∀ c ∈ names.data.toList, isV wd c = true) (hn2 : names.size ≤ 6) (g : Nat) : ∀ (d p : Nat) (z : Int) (w : World), z = d → p + cstT d ≤ 1000000000 → d ≤ 100 → Rnd w g p →
    Calls Tryz.prog 34 #[.pointer (some ⟨g, 0, none⟩), .int .i64 z, .string names] w (NPost wd 1 w g p (cstT d) (cstT d)) := by
  intro d
  induction d with
  | zero =>
    intro p z w hz hp hd hR
    obtain rfl : z = 0 := hz
    simp only [cstT] at hp ⊢
    have HR := Lib.hid hR
    clear hR
    go_enter Tryz.func34, Tryz.ntmps34
    go_wp2_with fail
    refine (pick_any g p 8 w (by omega) (by omega) HR.out).mono ?_
    rintro e w0 ⟨v0, ⟨va0, vb0, _⟩, rfl, hg0, q0, qa0, qb0, hr0⟩
    have vc0 := vb0 (by omega)
    have R0 := Lib.hid hr0
    have G0 := Lib.hid hg0
    clear vb0 hr0 hg0
    go_wp2_with fail
    refine (pick_any g q0 10 w0 (by omega) (by omega) R0.out).mono ?_
    rintro e w1 ⟨v1, ⟨va1, vb1, _⟩, rfl, hg1, q1, qa1, qb1, hr1⟩
    have vc1 := vb1 (by omega)
    have R1 := Lib.hid hr1
    have G1 := Lib.hid hg1
    clear vb1 hr1 hg1
    by_cases hv : v1 = 0
    · subst hv
      go_wp2_with fail
      refine (of_any g q1 w1.heap.size [⟨#[116]⟩, ⟨#[102]⟩] (w1.alloc _) (by omega) (R1.out.alloc _) (by decide) (by decide) (by have := R1.out.lt; omega) (Blk.new w1 _ _)).mono ?_
      rintro e w2 ⟨s2, hs2, rfl, hg2, q2, qa2, qb2, hr2⟩
      have R2 := Lib.hid hr2
      have G2 := Lib.hid (grown_alloc hg2)
      have O2 : Hid (One [116, 102] s2) := one_of (by simpa [bs] using hs2)
      have hz2 : 1 ≤ s2.size ∧ s2.size ≤ 1 := by
        simp only [List.mem_cons, List.not_mem_nil, or_false] at hs2
        rcases hs2 with rfl | rfl <;> decide
      obtain ⟨hz2a, hz2b⟩ := hz2
      clear hr2 hg2 hs2
      go_wp2_with fail
      go_ret
      exact nPost_mk (leaf_of O2.out) rfl (by omega) (by omega) (grown_trans (grown_trans G0.out G1.out) G2.out) R2.out (by omega) (by omega)
    · have hv' : (v1 == 0) = false := by simp; exact hv
      clear hv
      go_wp2_with fail
      refine (of_any g q1 w1.heap.size [⟨#[61]⟩, ⟨#[60]⟩] (w1.alloc _) (by omega) (R1.out.alloc _) (by decide) (by decide) (by have := R1.out.lt; omega) (Blk.new w1 _ _)).mono ?_
      rintro e w2 ⟨s2, hs2, rfl, hg2, q2, qa2, qb2, hr2⟩
      have R2 := Lib.hid hr2
      have G2 := Lib.hid (grown_alloc hg2)
      have O2 : Hid (One [61, 60] s2) := one_of (by simpa [bs] using hs2)
      have hz2 : 1 ≤ s2.size ∧ s2.size ≤ 1 := by
        simp only [List.mem_cons, List.not_mem_nil, or_false] at hs2
        rcases hs2 with rfl | rfl <;> decide
      obtain ⟨hz2a, hz2b⟩ := hz2
      clear hr2 hg2 hs2
      go_wp2_with fail
      refine (drawN_any wd names hnm hn2 g 1 q2 1 w2 rfl (by simp only [cst]; omega) (by omega) R2.out).mono ?_
      rintro e w3 ⟨s3, H3, sa3, sb3, rfl, hg3, q3, qa3, qb3, hr3⟩
      have R3 := Lib.hid hr3
      have G3 := Lib.hid hg3
      clear hr3 hg3
      simp only [cst] at sb3 qb3
      have t3 : s2.size + s3.size ≤ 9223372036854775807 := by omega
      go_wp2_with fail
      refine (drawN_any wd names hnm hn2 g 1 q3 1 w3 rfl (by simp only [cst]; omega) (by omega) R3.out).mono ?_
      rintro e w4 ⟨s4, H4, sa4, sb4, rfl, hg4, q4, qa4, qb4, hr4⟩
      have R4 := Lib.hid hr4
      have G4 := Lib.hid hg4
      clear hr4 hg4
      simp only [cst] at sb4 qb4
      have t4 : (s2 ++ s3).size + s4.size ≤ 9223372036854775807 := by rw [size_append]; omega
      go_wp2_with fail
      go_ret
      exact nPost_mk (two_of cmp_two O2.out H3.out H4.out) rfl (by rw [size_append, size_append]; omega) (by rw [size_append, size_append]; omega) (grown_trans (grown_trans (grown_trans (grown_trans G0.out G1.out) G2.out) G3.out) G4.out) R4.out (by omega) (by omega)
  | succ d ih =>
    intro p z w hz hp hd hR
    have hcp := cstT_pos d
    simp only [cstT] at hp ⊢
    have HR := Lib.hid hR
    have IH := Lib.hid ih
    have hz0 : ¬ z ≤ 0 := by omega
    have hz1 : z ≤ 200 := by omega
    have HZ : Hid (z - 1 = (d : Int)) := by show z - 1 = _; omega
    clear hR ih hz
    generalize cstT d = cd at *
    go_enter Tryz.func34, Tryz.ntmps34
    go_wp2_with fail
    refine (pick_any g p 8 w (by omega) (by omega) HR.out).mono ?_
    rintro e w0 ⟨v0, ⟨va0, vb0, _⟩, rfl, hg0, q0, qa0, qb0, hr0⟩
    have vc0 := vb0 (by omega)
    have R0 := Lib.hid hr0
    have G0 := Lib.hid hg0
    clear vb0 hr0 hg0
    by_cases hk4 : v0 < 4
    · go_wp2_with fail
      refine (pick_any g q0 10 w0 (by omega) (by omega) R0.out).mono ?_
      rintro e w1 ⟨v1, ⟨va1, vb1, _⟩, rfl, hg1, q1, qa1, qb1, hr1⟩
      have vc1 := vb1 (by omega)
      have R1 := Lib.hid hr1
      have G1 := Lib.hid hg1
      clear vb1 hr1 hg1
      by_cases hv : v1 = 0
      · subst hv
        go_wp2_with fail
        refine (of_any g q1 w1.heap.size [⟨#[116]⟩, ⟨#[102]⟩] (w1.alloc _) (by omega) (R1.out.alloc _) (by decide) (by decide) (by have := R1.out.lt; omega) (Blk.new w1 _ _)).mono ?_
        rintro e w2 ⟨s2, hs2, rfl, hg2, q2, qa2, qb2, hr2⟩
        have R2 := Lib.hid hr2
        have G2 := Lib.hid (grown_alloc hg2)
        have O2 : Hid (One [116, 102] s2) := one_of (by simpa [bs] using hs2)
        have hz2 : 1 ≤ s2.size ∧ s2.size ≤ 1 := by
          simp only [List.mem_cons, List.not_mem_nil, or_false] at hs2
          rcases hs2 with rfl | rfl <;> decide
        obtain ⟨hz2a, hz2b⟩ := hz2
        clear hr2 hg2 hs2
        go_wp2_with fail
        go_ret
        exact nPost_mk (leaf_of O2.out) rfl (by omega) (by omega) (grown_trans (grown_trans G0.out G1.out) G2.out) R2.out (by omega) (by omega)
      · have hv' : (v1 == 0) = false := by simp; exact hv
        clear hv
        go_wp2_with fail
        refine (of_any g q1 w1.heap.size [⟨#[61]⟩, ⟨#[60]⟩] (w1.alloc _) (by omega) (R1.out.alloc _) (by decide) (by decide) (by have := R1.out.lt; omega) (Blk.new w1 _ _)).mono ?_
        rintro e w2 ⟨s2, hs2, rfl, hg2, q2, qa2, qb2, hr2⟩
        have R2 := Lib.hid hr2
        have G2 := Lib.hid (grown_alloc hg2)
        have O2 : Hid (One [61, 60] s2) := one_of (by simpa [bs] using hs2)
        have hz2 : 1 ≤ s2.size ∧ s2.size ≤ 1 := by
          simp only [List.mem_cons, List.not_mem_nil, or_false] at hs2
          rcases hs2 with rfl | rfl <;> decide
        obtain ⟨hz2a, hz2b⟩ := hz2
        clear hr2 hg2 hs2
        go_wp2_with fail
        refine (drawN_any wd names hnm hn2 g 1 q2 1 w2 rfl (by simp only [cst]; omega) (by omega) R2.out).mono ?_
        rintro e w3 ⟨s3, H3, sa3, sb3, rfl, hg3, q3, qa3, qb3, hr3⟩
        have R3 := Lib.hid hr3
        have G3 := Lib.hid hg3
        clear hr3 hg3
        simp only [cst] at sb3 qb3
        have t3 : s2.size + s3.size ≤ 9223372036854775807 := by omega
        go_wp2_with fail
        refine (drawN_any wd names hnm hn2 g 1 q3 1 w3 rfl (by simp only [cst]; omega) (by omega) R3.out).mono ?_
        rintro e w4 ⟨s4, H4, sa4, sb4, rfl, hg4, q4, qa4, qb4, hr4⟩
        have R4 := Lib.hid hr4
        have G4 := Lib.hid hg4
        clear hr4 hg4
        simp only [cst] at sb4 qb4
        have t4 : (s2 ++ s3).size + s4.size ≤ 9223372036854775807 := by rw [size_append]; omega
        go_wp2_with fail
        go_ret
        exact nPost_mk (two_of cmp_two O2.out H3.out H4.out) rfl (by rw [size_append, size_append]; omega) (by rw [size_append, size_append]; omega) (grown_trans (grown_trans (grown_trans (grown_trans G0.out G1.out) G2.out) G3.out) G4.out) R4.out (by omega) (by omega)
    by_cases hk5 : v0 < 5
    · go_wp2_with fail
      refine (IH.out q0 _ w0 HZ.out (by omega) (by omega) R0.out).mono ?_
      rintro e w1 ⟨s1, H1, sa1, sb1, rfl, hg1, q1, qa1, qb1, hr1⟩
      have R1 := Lib.hid hr1
      have G1 := Lib.hid hg1
      clear hr1 hg1
      have t1 : 1 + s1.size ≤ 9223372036854775807 := by omega
      go_wp2_with fail
      go_ret
      exact nPost_mk (not_of H1.out) rfl (by rw [size_append]; omega) (by rw [size_append, size_one]; omega) (grown_trans G0.out G1.out) R1.out (by omega) (by omega)
    · go_wp2_with fail
      refine (of_any g q0 w0.heap.size [⟨#[38]⟩, ⟨#[124]⟩] (w0.alloc _) (by omega) (R0.out.alloc _) (by decide) (by decide) (by have := R0.out.lt; omega) (Blk.new w0 _ _)).mono ?_
      rintro e w1 ⟨s1, hs1, rfl, hg1, q1, qa1, qb1, hr1⟩
      have R1 := Lib.hid hr1
      have G1 := Lib.hid (grown_alloc hg1)
      have O1 : Hid (One [38, 124] s1) := one_of (by simpa [bs] using hs1)
      have hz1 : 1 ≤ s1.size ∧ s1.size ≤ 1 := by
        simp only [List.mem_cons, List.not_mem_nil, or_false] at hs1
        rcases hs1 with rfl | rfl <;> decide
      obtain ⟨hz1a, hz1b⟩ := hz1
      clear hr1 hg1 hs1
      go_wp2_with fail
      refine (IH.out q1 _ w1 HZ.out (by omega) (by omega) R1.out).mono ?_
      rintro e w2 ⟨s2, H2, sa2, sb2, rfl, hg2, q2, qa2, qb2, hr2⟩
      have R2 := Lib.hid hr2
      have G2 := Lib.hid hg2
      clear hr2 hg2
      have t2 : s1.size + s2.size ≤ 9223372036854775807 := by omega
      go_wp2_with fail
      refine (IH.out q2 _ w2 HZ.out (by omega) (by omega) R2.out).mono ?_
      rintro e w3 ⟨s3, H3, sa3, sb3, rfl, hg3, q3, qa3, qb3, hr3⟩
      have R3 := Lib.hid hr3
      have G3 := Lib.hid hg3
      clear hr3 hg3
      have t3 : (s1 ++ s2).size + s3.size ≤ 9223372036854775807 := by rw [size_append]; omega
      go_wp2_with fail
      go_ret
      exact nPost_mk (two_of con_two O1.out H2.out H3.out) rfl (by rw [size_append, size_append]; omega) (by rw [size_append, size_append]; omega) (grown_trans (grown_trans (grown_trans G0.out G1.out) G2.out) G3.out) R3.out (by omega) (by omega)


end Go.Proofs.YtndlhdmpfnadcaaGreatDoor
