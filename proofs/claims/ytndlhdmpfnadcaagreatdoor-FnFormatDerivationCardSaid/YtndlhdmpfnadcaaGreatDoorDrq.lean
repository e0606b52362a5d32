/- Drawn programs are programs. -/
import Derived.Test.YtndlhdmpfnadcaaGreatDoorGc
import Derived.Test.YtndlhdmpfnadcaaGreatDoorDrv
namespace Go.Proofs.YtndlhdmpfnadcaaGreatDoor
open Go.RowKit
open Pl

theorem ext_v {names : ByteArray} (hnm : ∀ c ∈ names.data.toList, isV false c = true) {j : Nat} (hj : j < names.size) : ∃ v : UInt8, isV false v = true ∧ names.extract j (j + 1) = bs [v] := by
  have hl : j < names.data.toList.length := by rw [len_S]; exact hj
  refine ⟨names.data.toList[j], hnm _ (List.getElem_mem hl), ?_⟩
  apply ByteArray.ext
  apply Array.toList_inj.1
  simp only [bs, ByteArray.data_extract, Array.toList_extract, List.extract_eq_take_drop]
  rw [show j + 1 - j = 1 by omega, List.drop_eq_getElem_cons hl]
  rfl
def Pr (S : ByteArray) : Prop := ∃ N : Nd, ok false 2 N = true ∧ S = bs N.text
theorem asg_of {V E : ByteArray} (hV : ∃ v : UInt8, isV false v = true ∧ V = bs [v]) (hE : ∃ N : Nd, ok false 0 N = true ∧ E = bs N.text) : Pr ((⟨#[97]⟩ : ByteArray) ++ V ++ E) := by
  obtain ⟨v, hv, rfl⟩ := hV
  obtain ⟨x, hx, rfl⟩ := hE
  exact ⟨.n2 97 (.n0 v) x, by simp [ok, leaf, hv, hx], by rw [show (⟨#[97]⟩ : ByteArray) = bs [97] from rfl, bs_app, bs_app]; congr 1⟩
theorem asg4_of {V A E : ByteArray} (hV : ∃ v : UInt8, isV false v = true ∧ V = bs [v]) (hA : A ∈ [(⟨#[43]⟩ : ByteArray), ⟨#[45]⟩]) (hE : ∃ N : Nd, ok false 0 N = true ∧ E = bs N.text) : Pr ((⟨#[97]⟩ : ByteArray) ++ V ++ A ++ V ++ E) := by
  obtain ⟨v, hv, rfl⟩ := hV
  obtain ⟨x, hx, rfl⟩ := hE
  have key : ∀ o : UInt8, isO o = true → Pr ((⟨#[97]⟩ : ByteArray) ++ bs [v] ++ bs [o] ++ bs [v] ++ bs x.text) := fun o ho =>
    ⟨.n2 97 (.n0 v) (.n2 o (.n0 v) x), by simp [ok, leaf, hv, hx, ho], by rw [show (⟨#[97]⟩ : ByteArray) = bs [97] from rfl, bs_app, bs_app, bs_app, bs_app]; congr 1⟩
  simp only [List.mem_cons, List.not_mem_nil, or_false] at hA
  rcases hA with rfl | rfl
  · exact key 43 rfl
  · exact key 45 rfl
theorem two_prog {o : UInt8} (ho : o = 59 ∨ o = 47) {A B : ByteArray} (ha : Pr A) (hb : Pr B) : Pr ((⟨#[o]⟩ : ByteArray) ++ A ++ B) := by
  obtain ⟨x, hx, rfl⟩ := ha
  obtain ⟨y, hy, rfl⟩ := hb
  exact ⟨.n2 o x y, by rcases ho with rfl | rfl <;> simp [ok, hx, hy], by rw [show (⟨#[o]⟩ : ByteArray) = bs [o] from rfl, bs_app, bs_app]; congr 1⟩
theorem cond_of {A B D : ByteArray} (ht : ∃ N : Nd, ok false 1 N = true ∧ A = bs N.text) (ha : Pr B) (hb : Pr D) : Pr ((⟨#[63]⟩ : ByteArray) ++ A ++ B ++ D) := by
  obtain ⟨t, ht, rfl⟩ := ht
  obtain ⟨x, hx, rfl⟩ := ha
  obtain ⟨y, hy, rfl⟩ := hb
  exact ⟨.n3 63 t x y, by simp [ok, ht, hx, hy], by rw [show (⟨#[63]⟩ : ByteArray) = bs [63] from rfl, bs_app, bs_app, bs_app]; congr 1; simp [Nd.text]⟩
theorem loop_of {A B : ByteArray} (ht : ∃ N : Nd, ok false 1 N = true ∧ A = bs N.text) (ha : Pr B) : Pr ((⟨#[64]⟩ : ByteArray) ++ A ++ B) := by
  obtain ⟨t, ht, rfl⟩ := ht
  obtain ⟨x, hx, rfl⟩ := ha
  exact ⟨.n2 64 t x, by simp [ok, ht, hx], by rw [show (⟨#[64]⟩ : ByteArray) = bs [64] from rfl, bs_app, bs_app]; congr 1⟩
theorem assume_of {A : ByteArray} (ht : ∃ N : Nd, ok false 1 N = true ∧ A = bs N.text) : Pr ((⟨#[126]⟩ : ByteArray) ++ A) := by
  obtain ⟨t, ht, rfl⟩ := ht
  exact ⟨.n1 126 t, by simp [ok, ht], by rw [show (⟨#[126]⟩ : ByteArray) = bs [126] from rfl, bs_app]; congr 1⟩
set_option maxHeartbeats 4000000 in
theorem setDrawN_any (names : ByteArray) (hnm : ∀ c ∈ names.data.toList, isV false c = true) (hn1 : 1 ≤ names.size) (hn2 : names.size ≤ 6) (g p : Nat) (w : World) (hp : p ≤ 999990000) (hR : Rnd w g p) :
    Calls Tryz.prog 33 #[.pointer (some ⟨g, 0, none⟩), .string names] w (NPost false 2 w g p 20 20) := by
  have HR := Lib.hid hR
  clear hR
  go_enter Tryz.func33, Tryz.ntmps33
  go_wp2_with fail
  refine (pick_any g p (names.size : Int) w (by omega) (by omega) HR.out).mono ?_
  rintro e w0 ⟨v0, ⟨va0, vb0, _⟩, rfl, hg0, q0, qa0, qb0, hr0⟩
  have vc0 := vb0 (by omega)
  have R0 := Lib.hid hr0
  have G0 := Lib.hid hg0
  clear vb0 hr0 hg0
  obtain ⟨j, rfl⟩ := Int.eq_ofNat_of_zero_le va0
  have hj : j < names.size := by omega
  obtain ⟨V, hV⟩ : ∃ V, names.extract j (j + 1) = V := ⟨_, rfl⟩
  have hV1 : V.size = 1 := by rw [← hV, size_extract _ _ _ (by omega)]; omega
  have HV := Lib.hid hV
  have NV : Hid (∃ v : UInt8, isV false v = true ∧ V = bs [v]) := by rw [← hV]; exact ext_v hnm hj
  have NM := Lib.hid hnm
  have v1a : 1 ≤ V.size := by omega
  have v1b : V.size ≤ 1 := by omega
  clear hV hV1 hnm
  go_wp2_with fail
  try rw [HV.out]
  refine (pick_any g q0 4 w0 (by omega) (by omega) R0.out).mono ?_
  rintro e w1 ⟨v1, ⟨va1, vb1, _⟩, rfl, hg1, q1, qa1, qb1, hr1⟩
  have vc1 := vb1 (by omega)
  have R1 := Lib.hid hr1
  have G1 := Lib.hid (grown_trans G0.out hg1)
  clear vb1 hr1 hg1
  by_cases h0 : v1 = 0
  · subst h0
    have t0 : 1 + V.size ≤ 9223372036854775807 := by omega
    go_wp2_with fail
    refine (of_any g q1 w1.heap.size [⟨#[43]⟩, ⟨#[45]⟩] (w1.alloc _) (by omega) (R1.out.alloc _) (by decide) (by decide) (by have := R1.out.lt; omega) (Blk.new w1 _ _)).mono ?_
    rintro e w2 ⟨s2, hs2, rfl, hg2, q2, qa2, qb2, hr2⟩
    have R2 := Lib.hid hr2
    have G2 := Lib.hid (grown_trans G1.out (grown_alloc hg2))
    clear hr2 hg2
    have hz2 : 1 ≤ s2.size ∧ s2.size ≤ 1 := by
      simp only [List.mem_cons, List.not_mem_nil, or_false] at hs2
      rcases hs2 with rfl | rfl <;> decide
    obtain ⟨hza2, hzb2⟩ := hz2
    have S2 := Lib.hid hs2
    clear hs2
    have t1 : 1 + V.size + s2.size ≤ 9223372036854775807 := by omega
    have t2 : 1 + V.size + s2.size + V.size ≤ 9223372036854775807 := by omega
    have t3 : 1 + V.size + s2.size + V.size + 1 ≤ 9223372036854775807 := by omega
    go_wp2_with fail
    refine (pick_any g q2 2 w2 (by omega) (by omega) R2.out).mono ?_
    rintro e w3 ⟨v3, ⟨va3, vb3, _⟩, rfl, hg3, q3, qa3, qb3, hr3⟩
    have vc3 := vb3 (by omega)
    have R3 := Lib.hid hr3
    have G3 := Lib.hid (grown_trans G2.out hg3)
    clear vb3 hr3 hg3
    go_wp2_with fail
    refine (dec_small (1 + v3) _ (by omega) (by omega) rfl _).mono ?_
    rintro e w4 ⟨rfl, hb4⟩
    have B4 := Lib.hid hb4
    clear hb4
    go_wp2_with fail
    go_ret
    exact nPost_mk (asg4_of NV.out S2.out (dig_leaf (by omega) (by omega))) rfl (by simp only [size_append, size_one]; omega) (by simp only [size_append, size_one]; omega) (grown_below G3.out B4.out) (R3.out.below B4.out) (by omega) (by omega)
  have e0 : (v1 == 0) = false := by simp; exact h0
  by_cases h1 : v1 = 1
  · subst h1
    clear h0 e0
    have t0 : 1 + V.size ≤ 9223372036854775807 := by omega
    have t1 : 1 + V.size + 1 ≤ 9223372036854775807 := by omega
    go_wp2_with fail
    refine (pick_any g q1 3 w1 (by omega) (by omega) R1.out).mono ?_
    rintro e w3 ⟨v3, ⟨va3, vb3, _⟩, rfl, hg3, q3, qa3, qb3, hr3⟩
    have vc3 := vb3 (by omega)
    have R3 := Lib.hid hr3
    have G3 := Lib.hid (grown_trans G1.out hg3)
    clear vb3 hr3 hg3
    go_wp2_with fail
    refine (dec_small v3 _ (by omega) (by omega) rfl _).mono ?_
    rintro e w4 ⟨rfl, hb4⟩
    have B4 := Lib.hid hb4
    clear hb4
    go_wp2_with fail
    go_ret
    exact nPost_mk (asg_of NV.out (dig_leaf (by omega) (by omega))) rfl (by simp only [size_append, size_one]; omega) (by simp only [size_append, size_one]; omega) (grown_below G3.out B4.out) (R3.out.below B4.out) (by omega) (by omega)
  have e1 : (v1 == 1) = false := by simp; exact h1
  clear h0 h1
  have t0 : 1 + V.size ≤ 9223372036854775807 := by omega
  go_wp2_with fail
  refine (drawN_any false names NM.out hn2 g 1 q1 1 w1 rfl (by simp only [cst]; omega) (by omega) R1.out).mono ?_
  rintro e w3 ⟨s3, N3, sa3, sb3, rfl, hg3, q3, qa3, qb3, hr3⟩
  have R3 := Lib.hid hr3
  have G3 := Lib.hid (grown_trans G1.out hg3)
  clear hr3 hg3
  simp only [cst] at sb3 qb3
  have t1 : 1 + V.size + s3.size ≤ 9223372036854775807 := by omega
  go_wp2_with fail
  go_ret
  exact nPost_mk (asg_of NV.out N3.out) rfl (by simp only [size_append, size_one]; omega) (by simp only [size_append, size_one]; omega) G3.out R3.out (by omega) (by omega)
set_option maxHeartbeats 8000000 in
theorem progDrawN_any (names : ByteArray) (hnm : ∀ c ∈ names.data.toList, isV false c = true) (hn1 : 1 ≤ names.size) (hn2 : names.size ≤ 6) (plain : Bool) (g : Nat) : ∀ (d p : Nat) (z : Int) (w : World), z = d → p + cstP d ≤ 900000000 → d ≤ 20 → cstP d ≤ 100000000 → Rnd w g p →
    Calls Tryz.prog 42 #[.pointer (some ⟨g, 0, none⟩), .int .i64 z, .bool plain, .string names] w (NPost false 2 w g p (cstP d) (cstP d)) := by
  intro d
  induction d with
  | zero =>
    intro p z w hz hp hd hcd hR
    obtain rfl : z = 0 := hz
    simp only [cstP] at hp hcd ⊢
    have HR := Lib.hid hR
    clear hR
    go_enter Tryz.func42, Tryz.ntmps42
    go_wp2_with fail
    refine (pick_any g p 12 w (by omega) (by omega) HR.out).mono ?_
    rintro e w0 ⟨v0, ⟨va0, vb0, _⟩, rfl, hg0, q0, qa0, qb0, hr0⟩
    have vc0 := vb0 (by omega)
    have R0 := Lib.hid hr0
    have G0 := Lib.hid hg0
    clear vb0 hr0 hg0
    go_wp2_with fail
    refine (pick_any g q0 8 w0 (by omega) (by omega) R0.out).mono ?_
    rintro e w1 ⟨v1, ⟨va1, vb1, _⟩, rfl, hg1, q1, qa1, qb1, hr1⟩
    have vc1 := vb1 (by omega)
    have R1 := Lib.hid hr1
    have G1 := Lib.hid (grown_trans G0.out hg1)
    clear vb1 hr1 hg1
    by_cases hv : v1 = 0
    · subst hv
      go_wp2_with fail
      go_ret
      exact nPost_mk (show Pr ⟨#[115]⟩ from ⟨.n0 115, rfl, rfl⟩) rfl (by decide) (by rw [size_one]; omega) G1.out R1.out (by omega) (by omega)
    · have hv' : (v1 == 0) = false := by simp; exact hv
      clear hv
      go_wp2_with fail
      refine (setDrawN_any names hnm hn1 hn2 g q1 w1 (by omega) R1.out).mono ?_
      rintro e w2 ⟨s2, N2, sa2, sb2, rfl, hg2, q2, qa2, qb2, hr2⟩
      have R2 := Lib.hid hr2
      have G2 := Lib.hid (grown_trans G1.out hg2)
      clear hr2 hg2
      go_wp2_with fail
      go_ret
      exact nPost_mk (N2.out) rfl (by omega) (by omega) G2.out R2.out (by omega) (by omega)
  | succ d ih =>
    intro p z w hz hp hd hcd hR
    have hcp := cstP_pos d
    simp only [cstP] at hp hcd ⊢
    have HR := Lib.hid hR
    have IH := Lib.hid ih
    have hz0 : ¬ z ≤ 0 := by omega
    have hz1 : z ≤ 200 := by omega
    have HZ : Hid (z - 1 = (d : Int)) := by show z - 1 = _; omega
    clear hR ih hz
    generalize cstP d = cd at *
    go_enter Tryz.func42, Tryz.ntmps42
    go_wp2_with fail
    refine (pick_any g p 12 w (by omega) (by omega) HR.out).mono ?_
    rintro e w0 ⟨v0, ⟨va0, vb0, _⟩, rfl, hg0, q0, qa0, qb0, hr0⟩
    have vc0 := vb0 (by omega)
    have R0 := Lib.hid hr0
    have G0 := Lib.hid hg0
    clear vb0 hr0 hg0
    by_cases k2 : v0 < 2
    · skip
      go_wp2_with fail
      refine (pick_any g q0 8 w0 (by omega) (by omega) R0.out).mono ?_
      rintro e w1 ⟨v1, ⟨va1, vb1, _⟩, rfl, hg1, q1, qa1, qb1, hr1⟩
      have vc1 := vb1 (by omega)
      have R1 := Lib.hid hr1
      have G1 := Lib.hid (grown_trans G0.out hg1)
      clear vb1 hr1 hg1
      by_cases hv : v1 = 0
      · subst hv
        go_wp2_with fail
        go_ret
        exact nPost_mk (show Pr ⟨#[115]⟩ from ⟨.n0 115, rfl, rfl⟩) rfl (by decide) (by rw [size_one]; omega) G1.out R1.out (by omega) (by omega)
      · have hv' : (v1 == 0) = false := by simp; exact hv
        clear hv
        go_wp2_with fail
        refine (setDrawN_any names hnm hn1 hn2 g q1 w1 (by omega) R1.out).mono ?_
        rintro e w2 ⟨s2, N2, sa2, sb2, rfl, hg2, q2, qa2, qb2, hr2⟩
        have R2 := Lib.hid hr2
        have G2 := Lib.hid (grown_trans G1.out hg2)
        clear hr2 hg2
        go_wp2_with fail
        go_ret
        exact nPost_mk (N2.out) rfl (by omega) (by omega) G2.out R2.out (by omega) (by omega)
    by_cases k6 : v0 < 6
    · skip
      go_wp2_with fail
      refine (IH.out q0 _ w0 HZ.out (by omega) (by omega) (by omega) R0.out).mono ?_
      rintro e w1 ⟨s1, N1, sa1, sb1, rfl, hg1, q1, qa1, qb1, hr1⟩
      have R1 := Lib.hid hr1
      have G1 := Lib.hid (grown_trans G0.out hg1)
      clear hr1 hg1
      have t1 : 1 + s1.size ≤ 9223372036854775807 := by omega
      go_wp2_with fail
      refine (IH.out q1 _ w1 HZ.out (by omega) (by omega) (by omega) R1.out).mono ?_
      rintro e w2 ⟨s2, N2, sa2, sb2, rfl, hg2, q2, qa2, qb2, hr2⟩
      have R2 := Lib.hid hr2
      have G2 := Lib.hid (grown_trans G1.out hg2)
      clear hr2 hg2
      have t2 : 1 + s1.size + s2.size ≤ 9223372036854775807 := by omega
      go_wp2_with fail
      go_ret
      exact nPost_mk (two_prog (.inl rfl) N1.out N2.out) rfl (by simp only [size_append, size_one]; omega) (by simp only [size_append, size_one]; omega) G2.out R2.out (by omega) (by omega)
    by_cases k8 : v0 < 8
    · skip
      go_wp2_with fail
      refine (drawTestN_any false names hnm hn2 g 1 q0 1 w0 rfl (by simp only [cstT]; omega) (by omega) R0.out).mono ?_
      rintro e w1 ⟨s1, N1, sa1, sb1, rfl, hg1, q1, qa1, qb1, hr1⟩
      have R1 := Lib.hid hr1
      have G1 := Lib.hid (grown_trans G0.out hg1)
      clear hr1 hg1
      simp only [cstT] at sb1 qb1
      go_wp2_with fail
      refine (IH.out q1 _ w1 HZ.out (by omega) (by omega) (by omega) R1.out).mono ?_
      rintro e w2 ⟨s2, N2, sa2, sb2, rfl, hg2, q2, qa2, qb2, hr2⟩
      have R2 := Lib.hid hr2
      have G2 := Lib.hid (grown_trans G1.out hg2)
      clear hr2 hg2
      have t1 : 1 + s1.size ≤ 9223372036854775807 := by omega
      have t2 : 1 + s1.size + s2.size ≤ 9223372036854775807 := by omega
      go_wp2_with fail
      refine (IH.out q2 _ w2 HZ.out (by omega) (by omega) (by omega) R2.out).mono ?_
      rintro e w3 ⟨s3, N3, sa3, sb3, rfl, hg3, q3, qa3, qb3, hr3⟩
      have R3 := Lib.hid hr3
      have G3 := Lib.hid (grown_trans G2.out hg3)
      clear hr3 hg3
      have t3 : 1 + s1.size + s2.size + s3.size ≤ 9223372036854775807 := by omega
      go_wp2_with fail
      go_ret
      exact nPost_mk (cond_of N1.out N2.out N3.out) rfl (by simp only [size_append, size_one]; omega) (by simp only [size_append, size_one]; omega) G3.out R3.out (by omega) (by omega)
    by_cases k10 : v0 < 10
    · skip
      go_wp2_with fail
      refine (drawTestN_any false names hnm hn2 g 1 q0 1 w0 rfl (by simp only [cstT]; omega) (by omega) R0.out).mono ?_
      rintro e w1 ⟨s1, N1, sa1, sb1, rfl, hg1, q1, qa1, qb1, hr1⟩
      have R1 := Lib.hid hr1
      have G1 := Lib.hid (grown_trans G0.out hg1)
      clear hr1 hg1
      simp only [cstT] at sb1 qb1
      have t1 : 1 + s1.size ≤ 9223372036854775807 := by omega
      go_wp2_with fail
      refine (IH.out q1 _ w1 HZ.out (by omega) (by omega) (by omega) R1.out).mono ?_
      rintro e w2 ⟨s2, N2, sa2, sb2, rfl, hg2, q2, qa2, qb2, hr2⟩
      have R2 := Lib.hid hr2
      have G2 := Lib.hid (grown_trans G1.out hg2)
      clear hr2 hg2
      have t2 : 1 + s1.size + s2.size ≤ 9223372036854775807 := by omega
      go_wp2_with fail
      go_ret
      exact nPost_mk (loop_of N1.out N2.out) rfl (by simp only [size_append, size_one]; omega) (by simp only [size_append, size_one]; omega) G2.out R2.out (by omega) (by omega)
    cases plain
    · by_cases k11 : v0 < 11
      · skip
        go_wp2_with fail
        refine (IH.out q0 _ w0 HZ.out (by omega) (by omega) (by omega) R0.out).mono ?_
        rintro e w1 ⟨s1, N1, sa1, sb1, rfl, hg1, q1, qa1, qb1, hr1⟩
        have R1 := Lib.hid hr1
        have G1 := Lib.hid (grown_trans G0.out hg1)
        clear hr1 hg1
        have t1 : 1 + s1.size ≤ 9223372036854775807 := by omega
        go_wp2_with fail
        refine (IH.out q1 _ w1 HZ.out (by omega) (by omega) (by omega) R1.out).mono ?_
        rintro e w2 ⟨s2, N2, sa2, sb2, rfl, hg2, q2, qa2, qb2, hr2⟩
        have R2 := Lib.hid hr2
        have G2 := Lib.hid (grown_trans G1.out hg2)
        clear hr2 hg2
        have t2 : 1 + s1.size + s2.size ≤ 9223372036854775807 := by omega
        go_wp2_with fail
        go_ret
        exact nPost_mk (two_prog (.inr rfl) N1.out N2.out) rfl (by simp only [size_append, size_one]; omega) (by simp only [size_append, size_one]; omega) G2.out R2.out (by omega) (by omega)
      · skip
        go_wp2_with fail
        refine (drawTestN_any false names hnm hn2 g 1 q0 1 w0 rfl (by simp only [cstT]; omega) (by omega) R0.out).mono ?_
        rintro e w1 ⟨s1, N1, sa1, sb1, rfl, hg1, q1, qa1, qb1, hr1⟩
        have R1 := Lib.hid hr1
        have G1 := Lib.hid (grown_trans G0.out hg1)
        clear hr1 hg1
        simp only [cstT] at sb1 qb1
        have t1 : 1 + s1.size ≤ 9223372036854775807 := by omega
        go_wp2_with fail
        go_ret
        exact nPost_mk (assume_of N1.out) rfl (by simp only [size_append, size_one]; omega) (by simp only [size_append, size_one]; omega) G1.out R1.out (by omega) (by omega)
    · skip
      go_wp2_with fail
      refine (drawTestN_any false names hnm hn2 g 1 q0 1 w0 rfl (by simp only [cstT]; omega) (by omega) R0.out).mono ?_
      rintro e w1 ⟨s1, N1, sa1, sb1, rfl, hg1, q1, qa1, qb1, hr1⟩
      have R1 := Lib.hid hr1
      have G1 := Lib.hid (grown_trans G0.out hg1)
      clear hr1 hg1
      simp only [cstT] at sb1 qb1
      have t1 : 1 + s1.size ≤ 9223372036854775807 := by omega
      go_wp2_with fail
      refine (IH.out q1 _ w1 HZ.out (by omega) (by omega) (by omega) R1.out).mono ?_
      rintro e w2 ⟨s2, N2, sa2, sb2, rfl, hg2, q2, qa2, qb2, hr2⟩
      have R2 := Lib.hid hr2
      have G2 := Lib.hid (grown_trans G1.out hg2)
      clear hr2 hg2
      have t2 : 1 + s1.size + s2.size ≤ 9223372036854775807 := by omega
      go_wp2_with fail
      go_ret
      exact nPost_mk (loop_of N1.out N2.out) rfl (by simp only [size_append, size_one]; omega) (by simp only [size_append, size_one]; omega) G2.out R2.out (by omega) (by omega)

end Go.Proofs.YtndlhdmpfnadcaaGreatDoor
