/- XGr: XBg XBh XBk put together. -/
import Derived.Test.YtndlhdmpfnadcaaGreatDoorGq
import Derived.Test.YtndlhdmpfnadcaaGreatDoorDw
import Derived.Test.YtndlhdmpfnadcaaGreatDoorDs
/- Two drawn programs. -/
namespace Go.Proofs.YtndlhdmpfnadcaaGreatDoor
open Go.RowKit
namespace Pl
/-- a map of digits -/
structure Dg (f : UInt8 → UInt8) : Prop where
  d : ∀ c, isD c = true → isD (f c) = true
  o : ∀ c, isD c = false → f c = c
section
variable {f : UInt8 → UInt8} (hf : Dg f)
include hf
theorem dg_c {c : UInt8} (h : isD c = false := by decide) : f c = c := hf.o c h
theorem dg_ok : ∀ {k : Nd} {s : Nat}, s ≤ 2 → ok false s k = true → ok false s (mapN f k) = true := by
  intro k
  induction k with
  | n0 c =>
    intro s hs h
    match s, hs with
    | 0, _ =>
      simp only [ok, mapN, Bool.or_eq_true] at h ⊢
      by_cases hv : isD c = true
      · exact .inr (hf.d c hv)
      · rw [hf.o c (by simpa using hv)]; exact h
    | 1, _ =>
      simp only [ok, mapN, Bool.or_eq_true, beq_iff_eq] at h ⊢
      rcases h with rfl | rfl
      · exact .inl (dg_c hf)
      · exact .inr (dg_c hf)
    | 2, _ =>
      simp only [ok, mapN, beq_iff_eq] at h ⊢
      subst h; exact dg_c hf
  | n1 o a ha =>
    intro s hs h
    match s, hs with
    | 0, _ => simp [ok] at h
    | 1, _ =>
      simp only [ok, mapN, Bool.and_eq_true, beq_iff_eq] at h ⊢
      obtain ⟨rfl, h⟩ := h
      exact ⟨dg_c hf, ha (by omega) h⟩
    | 2, _ =>
      simp only [ok, mapN, Bool.and_eq_true, beq_iff_eq] at h ⊢
      obtain ⟨rfl, h⟩ := h
      exact ⟨dg_c hf, ha (by omega) h⟩
  | n2 o a b ha hb =>
    intro s hs h
    match s, hs with
    | 0, _ =>
      simp only [ok, mapN, Bool.and_eq_true] at h ⊢
      obtain ⟨h1, h2, h3⟩ := h
      have : f o = o := by rcases isO_cases h1 with rfl | rfl | rfl <;> exact dg_c hf
      rw [this]
      exact ⟨h1, ha (by omega) h2, hb (by omega) h3⟩
    | 1, _ =>
      simp only [ok, mapN, Bool.and_eq_true, Bool.or_eq_true, beq_iff_eq] at h ⊢
      rcases h with ⟨h1, h2, h3⟩ | ⟨h1, h2, h3⟩
      · have : f o = o := by rcases h1 with rfl | rfl <;> exact dg_c hf
        rw [this]
        exact .inl ⟨h1, ha (by omega) h2, hb (by omega) h3⟩
      · have : f o = o := by rcases h1 with rfl | rfl <;> exact dg_c hf
        rw [this]
        exact .inr ⟨h1, ha (by omega) h2, hb (by omega) h3⟩
    | 2, _ =>
      simp only [ok, mapN, Bool.and_eq_true, Bool.or_eq_true, beq_iff_eq] at h ⊢
      rcases h with (⟨h1, h2, h3⟩ | ⟨h1, h2, h3⟩) | ⟨h1, h2, h3⟩
      · subst h1
        refine .inl (.inl ⟨dg_c hf, ?_, hb (by omega) h3⟩)
        cases a <;> simp [leaf, mapN] at h2 ⊢
        rw [hf.o _ (isV_not h2).2.1]; exact h2
      · have : f o = o := by rcases h1 with rfl | rfl <;> exact dg_c hf
        rw [this]
        exact .inl (.inr ⟨h1, ha (by omega) h2, hb (by omega) h3⟩)
      · subst h1
        exact .inr ⟨dg_c hf, ha (by omega) h2, hb (by omega) h3⟩
  | n3 o a b c ha hb hc =>
    intro s hs h
    match s, hs with
    | 0, _ => simp [ok] at h
    | 1, _ => simp [ok] at h
    | 2, _ =>
      simp only [ok, mapN, Bool.and_eq_true, beq_iff_eq] at h ⊢
      obtain ⟨rfl, h1, h2, h3⟩ := h
      exact ⟨dg_c hf, ha (by omega) h1, hb (by omega) h2, hc (by omega) h3⟩
end
def onetwo (c : UInt8) : UInt8 := if c = 49 then 50 else c
theorem onetwo_dg : Dg onetwo := by
  refine ⟨fun c h => ?_, fun c h => ?_⟩
  · unfold onetwo
    split
    · decide
    · exact h
  · unfold onetwo
    rw [if_neg (by rintro rfl; revert h; decide)]
theorem sub_onetwo (l : List UInt8) : sub 49 [50] l = l.map onetwo := by
  unfold sub onetwo
  induction l with
  | nil => rfl
  | cons c l ih =>
    rw [List.flatMap_cons, List.map_cons, ih]
    by_cases h : c = 49 <;> simp [h]
end Pl
open Pl
set_option linter.unusedVariables false

theorem nPost_le {wd : Bool} {so : Nat} {w w' : World} {g p n k n' k' : Nat} {e : Ending} (hn : n ≤ n') (hk : k ≤ k') (h : NPost wd so w g p n k e w') : NPost wd so w g p n' k' e w' := by
  obtain ⟨S, hS, h1, h2, he, hg, q, hq, hq2, hr⟩ := h
  exact ⟨S, hS, h1, by omega, he, hg, q, hq, by omega, hr⟩
theorem sub_lenB (v : UInt8) (b : List UInt8) : ∀ l : List UInt8, (sub v b l).length ≤ l.length * (b.length + 1)
  | [] => by simp [sub]
  | c :: l => by
    have ih := sub_lenB v b l
    rw [sub_cons, List.length_append, List.length_cons, Nat.add_mul]
    split
    · omega
    · simp only [List.length_singleton]; omega
theorem take_snocB {S : ByteArray} {k : Nat} (h : k < S.size) {c : UInt8} (hc : S[k] = c) : S.data.toList.take (k + 1) = S.data.toList.take k ++ [c] := by
  have hl : k < S.data.toList.length := by have := len_S S; omega
  rw [List.take_add_one, List.getElem?_eq_getElem hl]
  subst hc
  rfl
theorem sub_sizeB {S B T : ByteArray} {c : UInt8} {k : Nat} (hS : S.size ≤ 2000) (hB : B.size ≤ 2000) (h : T.data.toList = sub c B.data.toList (S.data.toList.take k)) : T.size ≤ 4002000 := by
  have h1 := sub_lenB c B.data.toList (S.data.toList.take k)
  rw [← h, len_S, len_S] at h1
  have h2 : (S.data.toList.take k).length ≤ 2000 := by rw [List.length_take, len_S]; omega
  have h3 : (S.data.toList.take k).length * (B.size + 1) ≤ 2000 * 2001 := Nat.mul_le_mul h2 (by omega)
  omega
set_option maxHeartbeats 2000000 in
theorem l1SubstB_any (S B : ByteArray) (c : UInt8) (hS : S.size ≤ 2000) (hB : B.size ≤ 2000) (w : World) :
    Calls Tryz.prog 44 #[.string S, .int .u8 c.toNat, .string B] w fun e w' => e = .returned (.string (bs (sub c B.data.toList S.data.toList))) ∧ w = w' := by
  go_enter Tryz.func44, Tryz.ntmps44
  go_wp2_with fail
  go_loop [7, 8] (fun o i => ∃ (k : Nat) (T : ByteArray), k ≤ S.size ∧ i = .int .i64 k ∧ o = .string T ∧ Hid (T.data.toList = sub c B.data.toList (S.data.toList.take k))) (fun _ i => S.size - (intOf i).toNat)
  case atStart => exact ⟨0, ⟨#[]⟩, by omega, rfl, rfl, by simp [Hid, sub]⟩
  case round =>
    obtain ⟨k, T, hk, rfl, rfl, HT⟩ := hrel
    by_cases hlt : k < S.size
    · have hex := extract_one hlt
      have t0 := sub_sizeB hS hB HT.out
      have t1 : T.size + 1 ≤ 9223372036854775807 := by omega
      have t2 : T.size + B.size ≤ 9223372036854775807 := by omega
      obtain ⟨d, hd⟩ : ∃ d, S[k] = d := ⟨_, rfl⟩
      rw [hd] at hex
      have HN := Lib.hid (take_snocB hlt hd)
      by_cases hcd : d = c
      · have q0 : ((d.toNat : Int) == (c.toNat : Int)) = true := by rw [hcd]; simp
        have HR : Hid ((T ++ B).data.toList = sub c B.data.toList (S.data.toList.take (k + 1))) := by
          show _ = _
          rw [HN.out, sub_append, sub_cons, if_pos hcd, sub_nil, ← HT.out]
          simp
        clear hcd HN HT
        go_wp2_with fail
        go_round
        case rel => exact ⟨k + 1, T ++ B, by omega, by go_num, rfl, HR⟩
        case measure => simp [intOf]; omega
      · have q0 : ((d.toNat : Int) == (c.toNat : Int)) = false := by
          simp only [beq_eq_false_iff_ne]; intro e; exact hcd (UInt8.toNat_inj.1 (by omega))
        have HR : Hid ((T ++ ⟨#[d]⟩).data.toList = sub c B.data.toList (S.data.toList.take (k + 1))) := by
          show _ = _
          rw [HN.out, sub_append, sub_cons, if_neg hcd, sub_nil, ← HT.out]
          simp
        clear hcd HN HT
        go_wp2_with fail
        go_round
        case rel => exact ⟨k + 1, T ++ ⟨#[d]⟩, by omega, by go_num, rfl, HR⟩
        case measure => simp [intOf]; omega
    · have HE : Hid (T = bs (sub c B.data.toList S.data.toList)) := by
        show _ = _
        have := HT.out
        rw [List.take_of_length_le (by rw [len_S]; omega)] at this
        rw [← this, bs_of]
      clear HT
      obtain rfl : k = S.size := by omega
      clear hlt hk
      go_wp2_with fail
      go_ret
      exact ⟨by rw [HE.out]; rfl, rfl⟩
theorem prog12 (plain : Bool) (g p : Nat) (z : Int) (hz : z = 1 ∨ z = 2) (w : World) (hp : p ≤ 800000000) (hR : Rnd w g p) :
    Calls Tryz.prog 42 #[.pointer (some ⟨g, 0, none⟩), .int .i64 z, .bool plain, .string ⟨#[120, 121, 122]⟩] w (NPost false 2 w g p 70 6400) := by
  have c1 : cstP 1 = 1600 := rfl
  have c2 : cstP 2 = 6400 := rfl
  rcases hz with rfl | rfl
  · exact (progDrawL_any ⟨#[120, 121, 122]⟩ xyz_v (by decide) (by decide) plain g 1 p 1 w rfl (by omega) (by omega) (by omega) hR).mono fun _ _ h => nPost_le (by decide) (by omega) h
  · exact (progDrawL_any ⟨#[120, 121, 122]⟩ xyz_v (by decide) (by decide) plain g 2 p 2 w rfl (by omega) (by omega) (by omega) hR).mono fun _ _ h => nPost_le (by decide) (by omega) h
/-- two programs of at most 100 letters -/
def PairP (w : World) (g p : Nat) (e : Ending) (w' : World) : Prop :=
  ∃ P Q : ByteArray, Hid (Pr P) ∧ Hid (Pr Q) ∧ P.size ≤ 100 ∧ Q.size ≤ 100 ∧ e = .returned (.tuple #[.string P, .string Q]) ∧ Drew w g p 20000 w'
theorem sub_prog {P : ByteArray} (h : Pr P) : Pr (bs (sub 49 [50] P.data.toList)) ∧ (bs (sub 49 [50] P.data.toList)).size = P.size := by
  obtain ⟨N, hN, rfl⟩ := h
  rw [bs_list, sub_onetwo]
  exact ⟨⟨mapN onetwo N, dg_ok onetwo_dg (by decide) hN, by rw [mapN_text]⟩, by rw [bs_size, bs_size, List.length_map]⟩
theorem swap_prog {P : ByteArray} (h : Pr P) (hz : P.size ≤ 100) : ∃ k, swapO P ⟨#[120]⟩ ⟨#[121]⟩ = some k ∧ Pr (bs (optT (some k))) ∧ (bs (optT (some k))).size = P.size := by
  obtain ⟨N, hN, rfl⟩ := h
  have hw : whole false 2 200 (bs N.text).data.toList = some N := by rw [bs_list]; exact whole_text hN (by rw [bs_size] at hz; omega)
  refine ⟨mapN (xch 120 121) N, ?_, ⟨mapN (xch 120 121) N, kp_ok (xch_kp (by decide) (by decide)) (by decide) hN, rfl⟩, ?_⟩
  · unfold swapO
    rw [hw]
    rfl
  · show (bs (mapN (xch 120 121) N).text).size = _
    rw [bs_size, bs_size, mapN_text, List.length_map]
set_option maxRecDepth 100000 in
set_option maxHeartbeats 8000000 in
theorem l7Pair_any (plain : Bool) (g p : Nat) (w : World) (hp : p ≤ 700000000) (hR : Rnd w g p) :
    Calls Tryz.prog 22 #[.pointer (some ⟨g, 0, none⟩), .bool plain] w (PairP w g p) := by
  have HR := Lib.hid hR
  clear hR
  go_enter Tryz.func22, Tryz.ntmps22
  go_wp2_with fail
  refine (pick_any g p 2 w (by omega) (by omega) HR.out).mono ?_
  rintro e w0 ⟨v0, ⟨va0, vb0, _⟩, rfl, hg0, q0, qa0, qb0, hr0⟩
  have vc0 := vb0 (by omega)
  have R0 := Lib.hid hr0
  have G0 := Lib.hid hg0
  clear vb0 hr0 hg0
  go_wp2_with fail
  refine (prog12 plain g q0 (1 + v0) (by omega) w0 (by omega) R0.out).mono ?_
  rintro e w1 ⟨P, N1, s1, s2, rfl, hg1, q1, qa1, qb1, hr1⟩
  have R1 := Lib.hid hr1
  have G1 := Lib.hid (grown_trans G0.out hg1)
  have PP : Hid (Pr P) := N1
  clear hr1 hg1 N1
  go_wp2_with fail
  refine (pick_any g q1 4 w1 (by omega) (by omega) R1.out).mono ?_
  rintro e w2 ⟨v2, ⟨va2, vb2, _⟩, rfl, hg2, q2, qa2, qb2, hr2⟩
  have vc2 := vb2 (by omega)
  have R2 := Lib.hid hr2
  have G2 := Lib.hid (grown_trans G1.out hg2)
  clear vb2 hr2 hg2
  by_cases h0 : v2 = 0
  · subst h0
    go_wp2_with fail
    go_ret2
    exact ⟨P, P, PP, PP, by omega, by omega, (by first | trivial | rfl), G2.out, q2, by omega, by omega, R2.out⟩
  have e0 : (v2 == 0) = false := by simp; exact h0
  by_cases h1 : v2 = 1
  · subst h1
    clear h0 e0
    obtain ⟨k, hk, pk, zk⟩ := swap_prog PP.out (by omega)
    have SW := Lib.hid (fun w => by have := SwapProgramS_any P ⟨#[120]⟩ ⟨#[121]⟩ (by omega) (by decide) (by decide) w; rw [hk] at this; exact this)
    have PK := Lib.hid pk
    clear hk pk
    generalize bs (optT (some k)) = Q at *
    go_wp2_with fail
    refine (SW.out _).mono ?_
    rintro e w3 ⟨rfl, hb3⟩
    have B3 := Lib.hid hb3
    clear hb3
    go_wp2_with fail
    go_ret2
    exact ⟨P, Q, PP, PK, by omega, by omega, (by first | trivial | rfl), grown_below G2.out B3.out, q2, by omega, by omega, R2.out.below B3.out⟩
  have e1 : (v2 == 1) = false := by simp; exact h1
  by_cases h2 : v2 = 2
  · subst h2
    clear h0 h1 e0 e1
    obtain ⟨pk, zk⟩ := sub_prog PP.out
    have SB := Lib.hid (fun w => l1SubstB_any P ⟨#[50]⟩ 49 (by omega) (by decide) w)
    rw [show (⟨#[50]⟩ : ByteArray).data.toList = [50] from rfl] at SB
    have PK := Lib.hid pk
    clear pk
    generalize bs (sub 49 [50] P.data.toList) = Q at *
    go_wp2_with fail
    refine (SB.out _).mono ?_
    rintro e w3 ⟨rfl, rfl⟩
    go_wp2_with fail
    go_ret2
    exact ⟨P, Q, PP, PK, by omega, by omega, (by first | trivial | rfl), G2.out, q2, by omega, by omega, R2.out⟩
  have e2 : (v2 == 2) = false := by simp; exact h2
  clear h0 h1 h2
  go_wp2_with fail
  refine (pick_any g q2 2 w2 (by omega) (by omega) R2.out).mono ?_
  rintro e w3 ⟨v3, ⟨va3, vb3, _⟩, rfl, hg3, q3, qa3, qb3, hr3⟩
  have vc3 := vb3 (by omega)
  have R3 := Lib.hid hr3
  have G3 := Lib.hid (grown_trans G2.out hg3)
  clear vb3 hr3 hg3
  go_wp2_with fail
  refine (prog12 plain g q3 (1 + v3) (by omega) w3 (by omega) R3.out).mono ?_
  rintro e w4 ⟨Q, N4, s3, s4, rfl, hg4, q4, qa4, qb4, hr4⟩
  have R4 := Lib.hid hr4
  have G4 := Lib.hid (grown_trans G3.out hg4)
  have PQ : Hid (Pr Q) := N4
  clear hr4 hg4 N4
  go_wp2_with fail
  go_ret2
  exact ⟨P, Q, PP, PQ, by omega, by omega, (by first | trivial | rfl), G4.out, q4, by omega, by omega, R4.out⟩
end Go.Proofs.YtndlhdmpfnadcaaGreatDoor

/- Drawn derivations. -/
namespace Go.Proofs.YtndlhdmpfnadcaaGreatDoor
open Go.RowKit
open Pl
set_option linter.unusedVariables false

/-- the lines' numbers lie in blocks from B on -/
def AvB (B n : Nat) (L : Nat → LnD) : Prop := ∀ i, i < n → ∀ a, (L i).s = some a → B ≤ a.block
theorem avb {B n : Nat} {v : Value} {L : Nat → LnD} (h : ∀ b, b < B → AvL v n L b) : AvB B n L := fun i hi a e => Nat.le_of_not_lt (fun hl => (h _ hl).2 i hi a e rfl)
theorem av_of {B n g : Nat} {W : World} {v : Value} {L : Nat → LnD} (h : OL B W v n L) (ha : AvB B n L) (hg : g < B) : AvL v n L g := ⟨fun e => by have := h.ge g e; omega, fun i hi a e e2 => by have := ha i hi a e; omega⟩
/-- a drawn list of lines -/
def LsPost (w : World) (g p k : Nat) (e : Ending) (w' : World) : Prop :=
  ∃ v n L, e = .returned v ∧ OB w.heap.size w' v n L ∧ 1 ≤ n ∧ n ≤ 1100 ∧ AvB w.heap.size n L ∧ Drew w g p k w'
theorem obnil (ws : World) (B : Nat) (L : Nat → LnD) (hB : B ≤ ws.heap.size) : OB B (ws.alloc (.cells #[] 28)) (.slice (some ⟨ws.heap.size, 0, none⟩) 0 0) 0 L :=
  ⟨OL.made B ws L hB, fun i hi => absurd hi (by omega), fun i hi => absurd hi (by omega)⟩
theorem ls_mk {w ws w' : World} {g p q k m n : Nat} {v : Value} {L L' : Nat → LnD} {e : Ending} (hg : w.grownBy ws (some g)) (hr : Rnd ws g q) (h : BdR w.heap.size (ws.alloc (.cells #[] 28)) (.slice (some ⟨ws.heap.size, 0, none⟩) 0 0) 0 L m w' v n L') (h1 : 1 ≤ n) (h2 : n ≤ 1100) (hp : p ≤ q) (hq : q ≤ p + k) (he : e = .returned v) : LsPost w g p k e w' := by
  have hb : Below ws.heap.size ws w' := ((Below.refl _ ws).alloc (Nat.le_refl _) _).trans (h.gl.below (by simp) (fun g e => by cases e; exact Nat.le_refl _))
  exact ⟨v, n, L', he, h.ob, h1, h2, avb (fun b hb2 => h.av b (by have := hg.size; simp; omega) ⟨fun e => by have e3 : ws.heap.size = b := Option.some.inj e; have := hg.size; omega, fun i hi => absurd hi (by omega)⟩), grown_below hg hb, q, hp, hq, hr.below hb⟩
theorem some_pr {P : ByteArray} (h : Pr P) (hP : P.size ≤ 200) : (whole false 2 200 P.data.toList).isSome = true := by
  obtain ⟨N, hN, rfl⟩ := h
  exact isSome_of hN (bs_list _) hP
theorem pr_pos {P : ByteArray} (h : Pr P) : 1 ≤ P.size := by
  obtain ⟨N, hN, rfl⟩ := h
  rw [bs_size]; exact text_pos N
theorem some_s : (whole false 2 200 (⟨#[115]⟩ : ByteArray).data.toList).isSome = true := isSome_of (k := .n0 115) rfl rfl (by decide)
theorem free_bit {P Q R : ByteArray} (hP : (whole false 2 200 P.data.toList).isSome = true) (hQ : (whole false 2 200 Q.data.toList).isSome = true) (hR : bOk 729 R.data.toList = true) (w : World) : Calls Tryz.prog 41 #[.string P, .string Q, .string R] w (FreePost w) := PairFree_any P Q R hP hQ hR w
theorem test_bitp {S : ByteArray} (h : ∃ N : Nd, ok false 1 N = true ∧ S = bs N.text) (hS : S.size ≤ 1000000) (r : Bool) (w : World) : Calls Tryz.prog 38 #[.string S, .bool r] w (BitP w) := by
  obtain ⟨N, hN, rfl⟩ := h
  exact l9Test_any _ hS N hN (bs_list _) r w
theorem ir_zo (W : World) : IR (W.alloc (.cells #[.int .i64 0, .int .i64 1] 3)) (some ⟨W.heap.size, 0, none⟩) 2 (fun k => if k = 0 then 0 else 1) := ir_two W 0 1
set_option maxRecDepth 100000 in
set_option maxHeartbeats 16000000 in
theorem l9Splits_any (g p : Nat) (w : World) (hp : p ≤ 600000000) (hR : Rnd w g p) : Calls Tryz.prog 20 #[.pointer (some ⟨g, 0, none⟩)] w (LsPost w g p 60000) := by
  have HR := Lib.hid hR
  clear hR
  go_enter Tryz.func20, Tryz.ntmps20
  go_wp2_with fail
  refine (l7Pair_any true g p _ (by omega) HR.out).mono ?_
  rintro e w1 ⟨P, Q, PP, PQ, zp, zq, rfl, hg1, q1, qa1, qb1, hr1⟩
  have R1 := Lib.hid hr1
  have G1 := Lib.hid (hg1)
  clear hr1 hg1 HR
  have z0 := pr_pos PP.out
  have z1 := pr_pos PQ.out
  go_wp2_with fail
  refine (l6Some_any g q1 _ (by omega) R1.out).mono ?_
  rintro e w2 ⟨S, hS, rfl, hg2, q2, qa2, qb2, hr2⟩
  have Sb := Lib.hid hS
  clear hS
  have R2 := Lib.hid hr2
  have G2 := Lib.hid (grown_trans G1.out hg2)
  clear hr2 hg2 R1 G1
  go_wp2_with fail
  refine (free_bit some_s (some_pr PQ.out (by omega)) Sb.out _).mono ?_
  rintro e w3 ⟨A, hA, rfl, hb3⟩
  have Ab := Lib.hid hA
  have R3 := Lib.hid (R2.out.below hb3)
  have G3 := Lib.hid (grown_below G2.out hb3)
  clear hA hb3 R2 G2
  go_wp2_with fail
  refine (free_bit (some_pr PP.out (by omega)) some_s Ab.out _).mono ?_
  rintro e w4 ⟨B, hB, rfl, hb4⟩
  have Bb := Lib.hid hB
  have R4 := Lib.hid (R3.out.below hb4)
  have G4 := Lib.hid (grown_below G3.out hb4)
  clear hB hb4 R3 G3
  have zs := bit_size Sb.out
  have za := bit_size Ab.out
  have D0 := Lib.hid (BdR.refl (m := 2000) (obnil w4 w.heap.size (fun _ => zeroD) G4.out.size))
  have hB := G4.out.size
  have PU := Lib.hid (put_nil (L := (fun _ => zeroD)) ⟨#[114, 117, 110]⟩ B P ⟨#[115]⟩ A (w4.alloc (.cells #[] 28)) D0.out.ob (Nat.le_trans hB (Nat.le_trans (by simp) D0.out.gl.grown.size)) (by omega) (by decide) Bb.out (by omega) (by decide) za)
  go_wp2_with fail
  refine PU.out.mono ?_
  rintro e w5 ⟨v1, L1, rfl, h1⟩
  have D1 := Lib.hid (BdR.trans (m := 2000) D0.out h1 (.inr (by omega)))
  clear PU h1 D0
  have PU := Lib.hid (put_nil (L := L1) ⟨#[114, 117, 110]⟩ A ⟨#[115]⟩ Q S w5 D1.out.ob (Nat.le_trans hB (Nat.le_trans (by simp) D1.out.gl.grown.size)) (by omega) (by decide) Ab.out (by decide) (by omega) zs)
  go_wp2_with fail
  refine PU.out.mono ?_
  rintro e w6 ⟨v2, L2, rfl, h2⟩
  have D2 := Lib.hid (BdR.trans (m := 2000) D1.out h2 (.inr (by omega)))
  clear PU h2 D1
  have E3 := Lib.hid (D2.out.call ((Below.refl _ w6).alloc (Nat.le_refl _) (.cells #[.int .i64 0, .int .i64 1] 3)))
  have PU := Lib.hid (put_refs (L := L2) ⟨#[115, 112, 108, 105, 116]⟩ B P Q S ⟨w6.heap.size, 0, none⟩ 2 2 _ _ E3.out.ob (Nat.le_trans (Nat.le_trans hB (Nat.le_trans (by simp) D2.out.gl.grown.size)) (by simp)) (by omega) (by decide) Bb.out (by omega) (by omega) zs (by omega) (fun k hk => by split <;> omega) (ir_zo w6))
  go_wp2_with fail
  refine PU.out.mono ?_
  rintro e w7 ⟨v3, L3, rfl, h3⟩
  have D3 := Lib.hid (BdR.trans (m := 2000) E3.out h3 (.inr (by omega)))
  clear PU h3 E3 D2
  go_wp2_with fail
  go_ret
  exact ls_mk G4.out R4.out D3.out (by omega) (by omega) (by omega) (by omega) rfl
set_option maxRecDepth 100000 in
set_option maxHeartbeats 32000000 in
theorem l9Sides_any (g p : Nat) (w : World) (hp : p ≤ 600000000) (hR : Rnd w g p) : Calls Tryz.prog 21 #[.pointer (some ⟨g, 0, none⟩)] w (LsPost w g p 60000) := by
  have HR := Lib.hid hR
  clear hR
  go_enter Tryz.func21, Tryz.ntmps21
  go_wp2_with fail
  refine (drawTestL_any false ⟨#[120, 121, 122]⟩ xyz_v (by decide) g 1 p 1 _ rfl (by simp only [cstT]; omega) (by omega) HR.out).mono ?_
  rintro e w1 ⟨t, Nt, s1a, s1b, rfl, hg1, q1, qa1, qb1, hr1⟩
  have R1 := Lib.hid hr1
  have G1 := Lib.hid (hg1)
  clear hr1 hg1 HR
  simp only [lnT, cstT] at s1b qb1
  go_wp2_with fail
  refine (setDrawL_any ⟨#[120, 121, 122]⟩ xyz_v (by decide) (by decide) g q1 _ (by omega) R1.out).mono ?_
  rintro e w2 ⟨a, Na, s2a, s2b, rfl, hg2, q2, qa2, qb2, hr2⟩
  have R2 := Lib.hid hr2
  have G2 := Lib.hid (grown_trans G1.out hg2)
  clear hr2 hg2 R1 G1
  go_wp2_with fail
  refine (setDrawL_any ⟨#[120, 121, 122]⟩ xyz_v (by decide) (by decide) g q2 _ (by omega) R2.out).mono ?_
  rintro e w3 ⟨b, Nb, s3a, s3b, rfl, hg3, q3, qa3, qb3, hr3⟩
  have R3 := Lib.hid hr3
  have G3 := Lib.hid (grown_trans G2.out hg3)
  clear hr3 hg3 R2 G2
  go_wp2_with fail
  refine (setDrawL_any ⟨#[120, 121, 122]⟩ xyz_v (by decide) (by decide) g q3 _ (by omega) R3.out).mono ?_
  rintro e w4 ⟨q0_, Nq0_, s4a, s4b, rfl, hg4, q4, qa4, qb4, hr4⟩
  have R4 := Lib.hid hr4
  have G4 := Lib.hid (grown_trans G3.out hg4)
  clear hr4 hg4 R3 G3
  go_wp2_with fail
  refine (l6Some_any g q4 _ (by omega) R4.out).mono ?_
  rintro e w5 ⟨S, hS, rfl, hg5, q5, qa5, qb5, hr5⟩
  have Sb := Lib.hid hS
  clear hS
  have R5 := Lib.hid hr5
  have G5 := Lib.hid (grown_trans G4.out hg5)
  clear hr5 hg5 R4 G4
  go_wp2_with fail
  refine (free_bit (some_pr Na.out (by omega)) (some_pr Nq0_.out (by omega)) Sb.out _).mono ?_
  rintro e w6 ⟨A, hA, rfl, hb6⟩
  have Ab := Lib.hid hA
  have R6 := Lib.hid (R5.out.below hb6)
  have G6 := Lib.hid (grown_below G5.out hb6)
  clear hA hb6 R5 G5
  go_wp2_with fail
  refine (free_bit (some_pr Nb.out (by omega)) (some_pr Nq0_.out (by omega)) Sb.out _).mono ?_
  rintro e w7 ⟨B, hB, rfl, hb7⟩
  have Bb := Lib.hid hB
  have R7 := Lib.hid (R6.out.below hb7)
  have G7 := Lib.hid (grown_below G6.out hb7)
  clear hB hb7 R6 G6
  go_wp2_with fail
  refine (pick_any g q5 2 _ (by omega) (by omega) R7.out).mono ?_
  rintro e w8 ⟨x, ⟨va8, vb8, _⟩, rfl, hg8, q8, qa8, qb8, hr8⟩
  have vc8 := vb8 (by omega)
  clear vb8
  have R8 := Lib.hid hr8
  have G8 := Lib.hid (grown_trans G7.out hg8)
  clear hr8 hg8 R7 G7
  have zs := bit_size Sb.out
  by_cases h0 : x = 0
  · subst h0
    go_wp2_with fail
    refine (free_bit (some_pr Nq0_.out (by omega)) (some_pr Na.out (by omega)) Sb.out _).mono ?_
    rintro e w9 ⟨A2, hA2, rfl, hb9⟩
    have A2b := Lib.hid hA2
    have R9 := Lib.hid (R8.out.below hb9)
    have G9 := Lib.hid (grown_below G8.out hb9)
    clear hA2 hb9 R8 G8
    go_wp2_with fail
    refine (free_bit (some_pr Nq0_.out (by omega)) (some_pr Nb.out (by omega)) Sb.out _).mono ?_
    rintro e w10 ⟨B2, hB2, rfl, hb10⟩
    have B2b := Lib.hid hB2
    have R10 := Lib.hid (R9.out.below hb10)
    have G10 := Lib.hid (grown_below G9.out hb10)
    clear hB2 hb10 R9 G9
    go_wp2_with fail
    refine (test_bitp Nt.out (by omega) true _).mono ?_
    rintro e w11 ⟨T1, hT1, rfl, hb11⟩
    have T1b := Lib.hid hT1
    have R11 := Lib.hid (R10.out.below hb11)
    have G11 := Lib.hid (grown_below G10.out hb11)
    clear hT1 hb11 R10 G10
    go_wp2_with fail
    refine (and_bitp A2b.out T1b.out _).mono ?_
    rintro e w12 ⟨C1, hC1, rfl, hb12⟩
    have C1b := Lib.hid hC1
    have R12 := Lib.hid (R11.out.below hb12)
    have G12 := Lib.hid (grown_below G11.out hb12)
    clear hC1 hb12 R11 G11
    go_wp2_with fail
    refine (test_bitp Nt.out (by omega) true _).mono ?_
    rintro e w13 ⟨T2, hT2, rfl, hb13⟩
    have T2b := Lib.hid hT2
    have R13 := Lib.hid (R12.out.below hb13)
    have G13 := Lib.hid (grown_below G12.out hb13)
    clear hT2 hb13 R12 G12
    go_wp2_with fail
    refine (not_bit T2b.out _).mono ?_
    rintro e w14 ⟨T3, hT3, rfl, hb14⟩
    have T3b := Lib.hid hT3
    have R14 := Lib.hid (R13.out.below hb14)
    have G14 := Lib.hid (grown_below G13.out hb14)
    clear hT3 hb14 R13 G13
    go_wp2_with fail
    refine (and_bitp B2b.out T3b.out _).mono ?_
    rintro e w15 ⟨C2, hC2, rfl, hb15⟩
    have C2b := Lib.hid hC2
    have R15 := Lib.hid (R14.out.below hb15)
    have G15 := Lib.hid (grown_below G14.out hb15)
    clear hC2 hb15 R14 G14
    have D0 := Lib.hid (BdR.refl (m := 2000) (obnil w15 w.heap.size (fun _ => zeroD) G15.out.size))
    have hB := G15.out.size
    have PU := Lib.hid (put_nil (L := (fun _ => zeroD)) ⟨#[114, 117, 110]⟩ C1 q0_ a S (w15.alloc (.cells #[] 28)) D0.out.ob (Nat.le_trans hB (Nat.le_trans (by simp) D0.out.gl.grown.size)) (by omega) (by decide) C1b.out (by omega) (by omega) zs)
    go_wp2_with fail
    refine PU.out.mono ?_
    rintro e w16 ⟨v1, L1, rfl, h1⟩
    have D1 := Lib.hid (BdR.trans (m := 2000) D0.out h1 (.inr (by omega)))
    clear PU h1 D0
    have PU := Lib.hid (put_nil (L := L1) ⟨#[114, 117, 110]⟩ C2 q0_ b S w16 D1.out.ob (Nat.le_trans hB (Nat.le_trans (by simp) D1.out.gl.grown.size)) (by omega) (by decide) C2b.out (by omega) (by omega) zs)
    go_wp2_with fail
    refine PU.out.mono ?_
    rintro e w17 ⟨v2, L2, rfl, h2⟩
    have D2 := Lib.hid (BdR.trans (m := 2000) D1.out h2 (.inr (by omega)))
    clear PU h2 D1
    go_wp2_with fail
    refine (or_bitp C1b.out C2b.out _).mono ?_
    rintro e w18 ⟨O, hO, rfl, hb18⟩
    have Ob := Lib.hid hO
    have D9 := Lib.hid (D2.out.call hb18)
    clear hO hb18 D2
    have t1 : 1 + t.size ≤ 9223372036854775807 := by omega
    have t2 : 1 + t.size + a.size ≤ 9223372036854775807 := by omega
    have t3 : 1 + t.size + a.size + b.size ≤ 9223372036854775807 := by omega
    have hX : 1 ≤ ((⟨#[63]⟩ : ByteArray) ++ t ++ a ++ b).size ∧ ((⟨#[63]⟩ : ByteArray) ++ t ++ a ++ b).size ≤ 900 := by simp only [size_append, size_one]; omega
    have HX := Lib.hid hX
    clear hX
    have E3 := Lib.hid (D9.out.call ((Below.refl _ w18).alloc (Nat.le_refl _) (.cells #[.int .i64 0, .int .i64 1] 3)))
    have PU := Lib.hid (put_refs (L := L2) ⟨#[114, 105, 103, 104, 116]⟩ O q0_ ((⟨#[63]⟩ : ByteArray) ++ t ++ a ++ b) S ⟨w18.heap.size, 0, none⟩ 2 2 _ _ E3.out.ob (Nat.le_trans (Nat.le_trans hB (Nat.le_trans (by simp) D9.out.gl.grown.size)) (by simp)) (by omega) (by decide) Ob.out (by omega) (Nat.le_trans HX.out.2 (by decide)) zs (by omega) (fun k hk => by split <;> omega) (ir_zo w18))
    go_wp2_with fail
    refine PU.out.mono ?_
    rintro e w19 ⟨v3, L3, rfl, h3⟩
    have D3 := Lib.hid (BdR.trans (m := 2000) E3.out h3 (.inr (by omega)))
    clear PU h3 E3 D9
    go_wp2_with fail
    go_ret
    exact ls_mk G15.out R15.out D3.out (by omega) (by omega) (by omega) (by omega) rfl
  have e0 : (x == 0) = false := by simp; exact h0
  clear h0
  go_wp2_with fail
  refine (test_bitp Nt.out (by omega) false _).mono ?_
  rintro e w9 ⟨T1, hT1, rfl, hb9⟩
  have T1b := Lib.hid hT1
  have R9 := Lib.hid (R8.out.below hb9)
  have G9 := Lib.hid (grown_below G8.out hb9)
  clear hT1 hb9 R8 G8
  go_wp2_with fail
  refine (and_bitp Ab.out T1b.out _).mono ?_
  rintro e w10 ⟨C1, hC1, rfl, hb10⟩
  have C1b := Lib.hid hC1
  have R10 := Lib.hid (R9.out.below hb10)
  have G10 := Lib.hid (grown_below G9.out hb10)
  clear hC1 hb10 R9 G9
  go_wp2_with fail
  refine (test_bitp Nt.out (by omega) false _).mono ?_
  rintro e w11 ⟨T2, hT2, rfl, hb11⟩
  have T2b := Lib.hid hT2
  have R11 := Lib.hid (R10.out.below hb11)
  have G11 := Lib.hid (grown_below G10.out hb11)
  clear hT2 hb11 R10 G10
  go_wp2_with fail
  refine (not_bit T2b.out _).mono ?_
  rintro e w12 ⟨T3, hT3, rfl, hb12⟩
  have T3b := Lib.hid hT3
  have R12 := Lib.hid (R11.out.below hb12)
  have G12 := Lib.hid (grown_below G11.out hb12)
  clear hT3 hb12 R11 G11
  go_wp2_with fail
  refine (and_bitp Bb.out T3b.out _).mono ?_
  rintro e w13 ⟨C2, hC2, rfl, hb13⟩
  have C2b := Lib.hid hC2
  have R13 := Lib.hid (R12.out.below hb13)
  have G13 := Lib.hid (grown_below G12.out hb13)
  clear hC2 hb13 R12 G12
  have D0 := Lib.hid (BdR.refl (m := 2000) (obnil w13 w.heap.size (fun _ => zeroD) G13.out.size))
  have hB := G13.out.size
  have PU := Lib.hid (put_nil (L := (fun _ => zeroD)) ⟨#[114, 117, 110]⟩ C1 a q0_ S (w13.alloc (.cells #[] 28)) D0.out.ob (Nat.le_trans hB (Nat.le_trans (by simp) D0.out.gl.grown.size)) (by omega) (by decide) C1b.out (by omega) (by omega) zs)
  go_wp2_with fail
  refine PU.out.mono ?_
  rintro e w14 ⟨v1, L1, rfl, h1⟩
  have D1 := Lib.hid (BdR.trans (m := 2000) D0.out h1 (.inr (by omega)))
  clear PU h1 D0
  have PU := Lib.hid (put_nil (L := L1) ⟨#[114, 117, 110]⟩ C2 b q0_ S w14 D1.out.ob (Nat.le_trans hB (Nat.le_trans (by simp) D1.out.gl.grown.size)) (by omega) (by decide) C2b.out (by omega) (by omega) zs)
  go_wp2_with fail
  refine PU.out.mono ?_
  rintro e w15 ⟨v2, L2, rfl, h2⟩
  have D2 := Lib.hid (BdR.trans (m := 2000) D1.out h2 (.inr (by omega)))
  clear PU h2 D1
  go_wp2_with fail
  refine (or_bitp C1b.out C2b.out _).mono ?_
  rintro e w16 ⟨O, hO, rfl, hb16⟩
  have Ob := Lib.hid hO
  have D9 := Lib.hid (D2.out.call hb16)
  clear hO hb16 D2
  have t1 : 1 + t.size ≤ 9223372036854775807 := by omega
  have t2 : 1 + t.size + a.size ≤ 9223372036854775807 := by omega
  have t3 : 1 + t.size + a.size + b.size ≤ 9223372036854775807 := by omega
  have hX : 1 ≤ ((⟨#[63]⟩ : ByteArray) ++ t ++ a ++ b).size ∧ ((⟨#[63]⟩ : ByteArray) ++ t ++ a ++ b).size ≤ 900 := by simp only [size_append, size_one]; omega
  have HX := Lib.hid hX
  clear hX
  have E3 := Lib.hid (D9.out.call ((Below.refl _ w16).alloc (Nat.le_refl _) (.cells #[.int .i64 0, .int .i64 1] 3)))
  have PU := Lib.hid (put_refs (L := L2) ⟨#[108, 101, 102, 116]⟩ O ((⟨#[63]⟩ : ByteArray) ++ t ++ a ++ b) q0_ S ⟨w16.heap.size, 0, none⟩ 2 2 _ _ E3.out.ob (Nat.le_trans (Nat.le_trans hB (Nat.le_trans (by simp) D9.out.gl.grown.size)) (by simp)) (by omega) (by decide) Ob.out HX.out (by omega) zs (by omega) (fun k hk => by split <;> omega) (ir_zo w16))
  go_wp2_with fail
  refine PU.out.mono ?_
  rintro e w17 ⟨v3, L3, rfl, h3⟩
  have D3 := Lib.hid (BdR.trans (m := 2000) E3.out h3 (.inr (by omega)))
  clear PU h3 E3 D9
  go_wp2_with fail
  go_ret
  exact ls_mk G13.out R13.out D3.out (by omega) (by omega) (by omega) (by omega) rfl
end Go.Proofs.YtndlhdmpfnadcaaGreatDoor

/- Drawn derivations: of two loops; any. -/
namespace Go.Proofs.YtndlhdmpfnadcaaGreatDoor
open Go.RowKit
open Pl
set_option linter.unusedVariables false

def agK : Nd := .n2 38 (.n2 61 (.n0 120) (.n0 88)) (.n2 38 (.n2 61 (.n0 121) (.n0 89)) (.n2 61 (.n0 122) (.n0 90)))
theorem ir_succ (W : World) (a : Nat) : IR (W.alloc (.cells #[.int .i64 ((a : Int) + 1)] 3)) (some ⟨W.heap.size, 0, none⟩) 1 (fun _ => (a : Int) + 1) := by
  have := ir_one W (a + 1)
  rw [show ((a + 1 : Nat) : Int) = (a : Int) + 1 by omega] at this
  exact this
theorem Rnd.row {w w' : World} {g p r : Nat} {t : TypeId} (h : Rnd w g p) (hg : w.grownBy w' (some r)) (hne : g ≠ r) (hk : Blk w r t #[]) : Rnd w' g p := by
  obtain ⟨A, n, cap, hb, hn, hy⟩ := h
  refine ⟨A, n, cap, hb.grown hg (by intro e; cases e; exact hne rfl), hn, ?_⟩
  rcases hy with hy | ⟨b, off, hA, hbg, hlt, hc⟩
  · exact .inl hy
  · by_cases hn0 : n = 0
    · exact .inl hn0
    · have hbr : b ≠ r := by
        rintro rfl
        obtain ⟨v, _, hcell⟩ := hc 0 (by omega)
        rw [hk.cell] at hcell
        simp at hcell
      exact .inr ⟨b, off, hA, hbg, Nat.lt_of_lt_of_le hlt hg.size, fun i hi => by
        obtain ⟨v, hv, hcell⟩ := hc i hi
        exact ⟨v, hv, hg.cell hcell (by intro e; cases e; exact hbr rfl)⟩⟩
theorem obase {B B' : Nat} {W : World} {v : Value} {n : Nat} {L : Nat → LnD} (h : OB B W v n L) (hb : B' ≤ B) : OB B' W v n L := ⟨⟨base_le h.ol.own hb, h.ol.ln⟩, h.bit, h.pp⟩
theorem _root_.Go.World.grownBy.trans_row {a b c : World} {g r : Nat} (h : a.grownBy b (some g)) (k : b.grownBy c (some r)) (hr : a.heap.size ≤ r) : a.grownBy c (some g) :=
  ⟨k.os.trans h.os, k.tape.trans h.tape, k.output.trans h.output, Nat.le_trans h.size k.size, fun i hi hne => (k.block i (Nat.lt_of_lt_of_le hi h.size) (fun e => by cases e; omega)).trans (h.block i hi hne)⟩
theorem build_pr {B : Nat} {v : Value} {n : Nat} {L : Nat → LnD} {P Q T : ByteArray} (w : World) (hP : Pr P) (zP : P.size ≤ 200) (hQ : Pr Q) (zQ : Q.size ≤ 200) (hT : bOk 729 T.data.toList = true) (hn : n ≤ 2000) (hO : OB B w v n L) (hB : B ≤ w.heap.size) :
    Calls Tryz.prog 23 #[v, .string P, .string Q, .string T] w (BdPost B w v n L (60 + 5 * P.size)) := by
  obtain ⟨N, hN, rfl⟩ := hP
  obtain ⟨M, hM, rfl⟩ := hQ
  exact l9Build_all _ N M _ _ T B v n L w (Nat.le_refl _) hN (bs_list _) zP hM (bs_list _) zQ hT hn hO hB
theorem agree_of (w : World) : Calls Tryz.prog 36 #[.string ⟨#[38, 61, 120, 88, 38, 61, 121, 89, 61, 122, 90]⟩] w fun e w' => (e = .returned (.agg (rowV (relB agK))) ∧ Below w.heap.size w w') :=
  l6Of_any ⟨#[38, 61, 120, 88, 38, 61, 121, 89, 61, 122, 90]⟩ (by decide) agK (by decide) rfl w
set_option maxRecDepth 100000 in
set_option maxHeartbeats 32000000 in
theorem l9Loops_any (g p : Nat) (w : World) (hp : p ≤ 600000000) (hR : Rnd w g p) : Calls Tryz.prog 19 #[.pointer (some ⟨g, 0, none⟩)] w (LsPost w g p 60000) := by
  have HR := Lib.hid hR
  clear hR
  have AO := Lib.hid (fun w => agree_of w)
  have TX := Lib.hid (fun w => l6TextR_any (relB agK) w)
  have HK := Lib.hid (rt_bokP (relB agK))
  generalize rt (relB agK) = tx at *
  generalize rowV (relB agK) = V at *
  obtain ⟨A, hA⟩ : ∃ A, bs tx = A := ⟨_, rfl⟩
  rw [hA] at TX HK
  have Ab : Hid (bOk 729 A.data.toList = true) := HK
  clear hA HK
  go_enter Tryz.func19, Tryz.ntmps19
  go_wp2_with fail
  refine (setDrawL_any ⟨#[120, 121, 122]⟩ xyz_v (by decide) (by decide) g p _ (by omega) HR.out).mono ?_
  rintro e w1 ⟨a, Na, s1a, s1b, rfl, hg1, q1, qa1, qb1, hr1⟩
  have R1 := Lib.hid hr1
  have G1 := Lib.hid (hg1)
  clear hr1 hg1 HR
  go_wp2_with fail
  refine (pick_any g q1 4 _ (by omega) (by omega) R1.out).mono ?_
  rintro e w2 ⟨x, ⟨va2, vb2, _⟩, rfl, hg2, q2, qa2, qb2, hr2⟩
  have vc2 := vb2 (by omega)
  clear vb2
  have R2 := Lib.hid hr2
  have G2 := Lib.hid (grown_trans G1.out hg2)
  clear hr2 hg2 R1 G1
  by_cases h0 : x = 0
  · subst h0
    go_wp2_with fail
    refine (setDrawL_any ⟨#[120, 121, 122]⟩ xyz_v (by decide) (by decide) g q2 _ (by omega) R2.out).mono ?_
    rintro e w3 ⟨b, Nb, s3a, s3b, rfl, hg3, q3, qa3, qb3, hr3⟩
    have R3 := Lib.hid hr3
    have G3 := Lib.hid (grown_trans G2.out hg3)
    clear hr3 hg3 R2 G2
    go_wp2_with fail
    refine (drawTestL_any false ⟨#[120, 121, 122]⟩ xyz_v (by decide) g 0 q3 0 _ rfl (by simp only [cstT]; omega) (by omega) R3.out).mono ?_
    rintro e w4 ⟨t, Nt, s4a, s4b, rfl, hg4, q4, qa4, qb4, hr4⟩
    have R4 := Lib.hid hr4
    have G4 := Lib.hid (grown_trans G3.out hg4)
    clear hr4 hg4 R3 G3
    simp only [lnT, cstT] at s4b qb4
    go_wp2_with fail
    refine (AO.out _).mono ?_
    rintro e w5 ⟨rfl, hb5⟩
    have R5 := Lib.hid (R4.out.below hb5)
    have G5 := Lib.hid (grown_below G4.out hb5)
    clear hb5 R4 G4
    go_wp2_with fail
    refine (TX.out _).mono ?_
    rintro e w6 ⟨rfl, hb6⟩
    have R6 := Lib.hid (R5.out.below hb6)
    have G6 := Lib.hid (grown_below G5.out hb6)
    clear hb6 R5 G5
    have zA := bit_size Ab.out
    go_wp2_with fail
    refine (test_bitp Nt.out (by omega) false _).mono ?_
    rintro e w7 ⟨T1, hT1, rfl, hb7⟩
    have T1b := Lib.hid hT1
    have R7 := Lib.hid (R6.out.below hb7)
    have G7 := Lib.hid (grown_below G6.out hb7)
    clear hT1 hb7 R6 G6
    go_wp2_with fail
    refine (test_bitp Nt.out (by omega) true _).mono ?_
    rintro e w8 ⟨T2, hT2, rfl, hb8⟩
    have T2b := Lib.hid hT2
    have R8 := Lib.hid (R7.out.below hb8)
    have G8 := Lib.hid (grown_below G7.out hb8)
    clear hT2 hb8 R7 G7
    go_wp2_with fail
    refine (and_bitp T1b.out T2b.out _).mono ?_
    rintro e w9 ⟨C1, hC1, rfl, hb9⟩
    have C1b := Lib.hid hC1
    have R9 := Lib.hid (R8.out.below hb9)
    have G9 := Lib.hid (grown_below G8.out hb9)
    clear hC1 hb9 R8 G8
    go_wp2_with fail
    refine (and_bitp Ab.out C1b.out _).mono ?_
    rintro e w10 ⟨Bo, hBo, rfl, hb10⟩
    have Bob := Lib.hid hBo
    have R10 := Lib.hid (R9.out.below hb10)
    have G10 := Lib.hid (grown_below G9.out hb10)
    clear hBo hb10 R9 G9
    go_wp2_with fail
    refine (test_bitp Nt.out (by omega) false _).mono ?_
    rintro e w11 ⟨T3, hT3, rfl, hb11⟩
    have T3b := Lib.hid hT3
    have R11 := Lib.hid (R10.out.below hb11)
    have G11 := Lib.hid (grown_below G10.out hb11)
    clear hT3 hb11 R10 G10
    go_wp2_with fail
    refine (not_bit T3b.out _).mono ?_
    rintro e w12 ⟨T4, hT4, rfl, hb12⟩
    have T4b := Lib.hid hT4
    have R12 := Lib.hid (R11.out.below hb12)
    have G12 := Lib.hid (grown_below G11.out hb12)
    clear hT4 hb12 R11 G11
    go_wp2_with fail
    refine (test_bitp Nt.out (by omega) true _).mono ?_
    rintro e w13 ⟨T5, hT5, rfl, hb13⟩
    have T5b := Lib.hid hT5
    have R13 := Lib.hid (R12.out.below hb13)
    have G13 := Lib.hid (grown_below G12.out hb13)
    clear hT5 hb13 R12 G12
    go_wp2_with fail
    refine (not_bit T5b.out _).mono ?_
    rintro e w14 ⟨T6, hT6, rfl, hb14⟩
    have T6b := Lib.hid hT6
    have R14 := Lib.hid (R13.out.below hb14)
    have G14 := Lib.hid (grown_below G13.out hb14)
    clear hT6 hb14 R13 G13
    go_wp2_with fail
    refine (and_bitp T4b.out T6b.out _).mono ?_
    rintro e w15 ⟨C2, hC2, rfl, hb15⟩
    have C2b := Lib.hid hC2
    have R15 := Lib.hid (R14.out.below hb15)
    have G15 := Lib.hid (grown_below G14.out hb15)
    clear hC2 hb15 R14 G14
    go_wp2_with fail
    refine (and_bitp Ab.out C2b.out _).mono ?_
    rintro e w16 ⟨No, hNo, rfl, hb16⟩
    have Nob := Lib.hid hNo
    have R16 := Lib.hid (R15.out.below hb16)
    have G16 := Lib.hid (grown_below G15.out hb16)
    clear hNo hb16 R15 G15
    have D0 := Lib.hid (BdR.refl (m := 2000) (obnil w16 w.heap.size (fun _ => zeroD) G16.out.size))
    have hB := G16.out.size
    have PU := Lib.hid (build_pr (L := (fun _ => zeroD)) (w16.alloc (.cells #[] 28)) Na.out (by omega) Nb.out (by omega) Ab.out (by omega) D0.out.ob (Nat.le_trans hB (Nat.le_trans (by simp) D0.out.gl.grown.size)))
    go_wp2_with fail
    refine PU.out.mono ?_
    rintro e w17 ⟨v1, n1, L1, rfl, hp1, h1⟩
    have ht1 : n1 ≤ 90 := by have := h1.top; omega
    obtain ⟨m1, rfl⟩ : ∃ m, n1 = m + 1 := ⟨n1 - 1, by omega⟩
    obtain ⟨g1, c1, rfl, hd1, hd2, hg1, _, _, _⟩ := h1.ob.last
    have D1 := Lib.hid (BdR.trans (m := 2000) D0.out h1 (.inr (by omega)))
    have j0 : (0 : Int) ≤ (m1 : Int) := by omega
    clear PU h1 D0 hp1
    have E2 := Lib.hid (D1.out.call ((Below.refl _ w17).alloc (Nat.le_refl _) (.cells #[.int .i64 (m1 : Int)] 3)))
    have PU := Lib.hid (put_refs (L := L1) ⟨#[119, 101, 97, 107]⟩ Bo a b A ⟨w17.heap.size, 0, none⟩ 1 1 _ _ E2.out.ob (Nat.le_trans (Nat.le_trans hB (Nat.le_trans (by simp) D1.out.gl.grown.size)) (by simp)) (by omega) (by decide) Bob.out (by omega) (by omega) zA (by omega) (fun k hk => by omega) (ir_one w17 m1))
    go_wp2_with fail
    refine PU.out.mono ?_
    rintro e w18 ⟨v2, L2, rfl, h2⟩
    have D2 := Lib.hid (BdR.trans (m := 2000) E2.out h2 (.inr (by omega)))
    clear PU h2 E2 D1
    obtain ⟨g2, c2, rfl, hd3, hd4, hg2, _, _, _⟩ := D2.out.ob.last
    have t1 : 1 + t.size ≤ 9223372036854775807 := by omega
    have t2 : 1 + t.size + a.size ≤ 9223372036854775807 := by omega
    have t3 : 1 + t.size + b.size ≤ 9223372036854775807 := by omega
    have HX : Hid (1 ≤ ((⟨#[64]⟩ : ByteArray) ++ t ++ a).size ∧ ((⟨#[64]⟩ : ByteArray) ++ t ++ a).size ≤ 900) := by show _ ∧ _; simp only [size_append, size_one]; omega
    have HY : Hid (((⟨#[64]⟩ : ByteArray) ++ t ++ b).size ≤ 1000) := by show _ ≤ _; simp only [size_append, size_one]; omega
    have zN := bit_size Nob.out
    have E3 := Lib.hid (D2.out.call ((Below.refl _ w18).alloc (Nat.le_refl _) (.cells #[.int .i64 ((m1 : Int) + 1)] 3)))
    have PU := Lib.hid (put_refs (L := L2) ⟨#[119, 104, 105, 108, 101]⟩ A ((⟨#[64]⟩ : ByteArray) ++ t ++ a) ((⟨#[64]⟩ : ByteArray) ++ t ++ b) No ⟨w18.heap.size, 0, none⟩ 1 1 _ _ E3.out.ob (Nat.le_trans (Nat.le_trans hB (Nat.le_trans (by simp) D2.out.gl.grown.size)) (by simp)) (by omega) (by decide) Ab.out HX.out HY.out zN (by omega) (fun k hk => by omega) (ir_succ w18 m1))
    go_wp2_with fail
    refine PU.out.mono ?_
    rintro e w19 ⟨v3, L3, rfl, h3⟩
    have D3 := Lib.hid (BdR.trans (m := 2000) E3.out h3 (.inr (by omega)))
    clear PU h3 E3 D2
    go_wp2_with fail
    go_ret
    exact ls_mk G16.out R16.out D3.out (by omega) (by omega) (by omega) (by omega) rfl
  have e0 : (x == 0) = false := by simp; exact h0
  clear h0
  go_wp2_with fail
  refine (drawTestL_any false ⟨#[120, 121, 122]⟩ xyz_v (by decide) g 0 q2 0 _ rfl (by simp only [cstT]; omega) (by omega) R2.out).mono ?_
  rintro e w3 ⟨t, Nt, s3a, s3b, rfl, hg3, q3, qa3, qb3, hr3⟩
  have R3 := Lib.hid hr3
  have G3 := Lib.hid (grown_trans G2.out hg3)
  clear hr3 hg3 R2 G2
  simp only [lnT, cstT] at s3b qb3
  go_wp2_with fail
  refine (AO.out _).mono ?_
  rintro e w4 ⟨rfl, hb4⟩
  have R4 := Lib.hid (R3.out.below hb4)
  have G4 := Lib.hid (grown_below G3.out hb4)
  clear hb4 R3 G3
  go_wp2_with fail
  refine (TX.out _).mono ?_
  rintro e w5 ⟨rfl, hb5⟩
  have R5 := Lib.hid (R4.out.below hb5)
  have G5 := Lib.hid (grown_below G4.out hb5)
  clear hb5 R4 G4
  have zA := bit_size Ab.out
  go_wp2_with fail
  refine (test_bitp Nt.out (by omega) false _).mono ?_
  rintro e w6 ⟨T1, hT1, rfl, hb6⟩
  have T1b := Lib.hid hT1
  have R6 := Lib.hid (R5.out.below hb6)
  have G6 := Lib.hid (grown_below G5.out hb6)
  clear hT1 hb6 R5 G5
  go_wp2_with fail
  refine (test_bitp Nt.out (by omega) true _).mono ?_
  rintro e w7 ⟨T2, hT2, rfl, hb7⟩
  have T2b := Lib.hid hT2
  have R7 := Lib.hid (R6.out.below hb7)
  have G7 := Lib.hid (grown_below G6.out hb7)
  clear hT2 hb7 R6 G6
  go_wp2_with fail
  refine (and_bitp T1b.out T2b.out _).mono ?_
  rintro e w8 ⟨C1, hC1, rfl, hb8⟩
  have C1b := Lib.hid hC1
  have R8 := Lib.hid (R7.out.below hb8)
  have G8 := Lib.hid (grown_below G7.out hb8)
  clear hC1 hb8 R7 G7
  go_wp2_with fail
  refine (and_bitp Ab.out C1b.out _).mono ?_
  rintro e w9 ⟨Bo, hBo, rfl, hb9⟩
  have Bob := Lib.hid hBo
  have R9 := Lib.hid (R8.out.below hb9)
  have G9 := Lib.hid (grown_below G8.out hb9)
  clear hBo hb9 R8 G8
  go_wp2_with fail
  refine (test_bitp Nt.out (by omega) false _).mono ?_
  rintro e w10 ⟨T3, hT3, rfl, hb10⟩
  have T3b := Lib.hid hT3
  have R10 := Lib.hid (R9.out.below hb10)
  have G10 := Lib.hid (grown_below G9.out hb10)
  clear hT3 hb10 R9 G9
  go_wp2_with fail
  refine (not_bit T3b.out _).mono ?_
  rintro e w11 ⟨T4, hT4, rfl, hb11⟩
  have T4b := Lib.hid hT4
  have R11 := Lib.hid (R10.out.below hb11)
  have G11 := Lib.hid (grown_below G10.out hb11)
  clear hT4 hb11 R10 G10
  go_wp2_with fail
  refine (test_bitp Nt.out (by omega) true _).mono ?_
  rintro e w12 ⟨T5, hT5, rfl, hb12⟩
  have T5b := Lib.hid hT5
  have R12 := Lib.hid (R11.out.below hb12)
  have G12 := Lib.hid (grown_below G11.out hb12)
  clear hT5 hb12 R11 G11
  go_wp2_with fail
  refine (not_bit T5b.out _).mono ?_
  rintro e w13 ⟨T6, hT6, rfl, hb13⟩
  have T6b := Lib.hid hT6
  have R13 := Lib.hid (R12.out.below hb13)
  have G13 := Lib.hid (grown_below G12.out hb13)
  clear hT6 hb13 R12 G12
  go_wp2_with fail
  refine (and_bitp T4b.out T6b.out _).mono ?_
  rintro e w14 ⟨C2, hC2, rfl, hb14⟩
  have C2b := Lib.hid hC2
  have R14 := Lib.hid (R13.out.below hb14)
  have G14 := Lib.hid (grown_below G13.out hb14)
  clear hC2 hb14 R13 G13
  go_wp2_with fail
  refine (and_bitp Ab.out C2b.out _).mono ?_
  rintro e w15 ⟨No, hNo, rfl, hb15⟩
  have Nob := Lib.hid hNo
  have R15 := Lib.hid (R14.out.below hb15)
  have G15 := Lib.hid (grown_below G14.out hb15)
  clear hNo hb15 R14 G14
  have D0 := Lib.hid (BdR.refl (m := 2000) (obnil w15 w.heap.size (fun _ => zeroD) G15.out.size))
  have hB := G15.out.size
  have PU := Lib.hid (build_pr (L := (fun _ => zeroD)) (w15.alloc (.cells #[] 28)) Na.out (by omega) Na.out (by omega) Ab.out (by omega) D0.out.ob (Nat.le_trans hB (Nat.le_trans (by simp) D0.out.gl.grown.size)))
  go_wp2_with fail
  refine PU.out.mono ?_
  rintro e w16 ⟨v1, n1, L1, rfl, hp1, h1⟩
  have ht1 : n1 ≤ 90 := by have := h1.top; omega
  obtain ⟨m1, rfl⟩ : ∃ m, n1 = m + 1 := ⟨n1 - 1, by omega⟩
  obtain ⟨g1, c1, rfl, hd1, hd2, hg1, _, _, _⟩ := h1.ob.last
  have D1 := Lib.hid (BdR.trans (m := 2000) D0.out h1 (.inr (by omega)))
  have j0 : (0 : Int) ≤ (m1 : Int) := by omega
  clear PU h1 D0 hp1
  have E2 := Lib.hid (D1.out.call ((Below.refl _ w16).alloc (Nat.le_refl _) (.cells #[.int .i64 (m1 : Int)] 3)))
  have PU := Lib.hid (put_refs (L := L1) ⟨#[119, 101, 97, 107]⟩ Bo a a A ⟨w16.heap.size, 0, none⟩ 1 1 _ _ E2.out.ob (Nat.le_trans (Nat.le_trans hB (Nat.le_trans (by simp) D1.out.gl.grown.size)) (by simp)) (by omega) (by decide) Bob.out (by omega) (by omega) zA (by omega) (fun k hk => by omega) (ir_one w16 m1))
  go_wp2_with fail
  refine PU.out.mono ?_
  rintro e w17 ⟨v2, L2, rfl, h2⟩
  have D2 := Lib.hid (BdR.trans (m := 2000) E2.out h2 (.inr (by omega)))
  clear PU h2 E2 D1
  obtain ⟨g2, c2, rfl, hd3, hd4, hg2, _, _, _⟩ := D2.out.ob.last
  have t1 : 1 + t.size ≤ 9223372036854775807 := by omega
  have t2 : 1 + t.size + a.size ≤ 9223372036854775807 := by omega
  have t3 : 1 + t.size + a.size ≤ 9223372036854775807 := by omega
  have HX : Hid (1 ≤ ((⟨#[64]⟩ : ByteArray) ++ t ++ a).size ∧ ((⟨#[64]⟩ : ByteArray) ++ t ++ a).size ≤ 900) := by show _ ∧ _; simp only [size_append, size_one]; omega
  have HY : Hid (((⟨#[64]⟩ : ByteArray) ++ t ++ a).size ≤ 1000) := by show _ ≤ _; simp only [size_append, size_one]; omega
  have zN := bit_size Nob.out
  have E3 := Lib.hid (D2.out.call ((Below.refl _ w17).alloc (Nat.le_refl _) (.cells #[.int .i64 ((m1 : Int) + 1)] 3)))
  have PU := Lib.hid (put_refs (L := L2) ⟨#[119, 104, 105, 108, 101]⟩ A ((⟨#[64]⟩ : ByteArray) ++ t ++ a) ((⟨#[64]⟩ : ByteArray) ++ t ++ a) No ⟨w17.heap.size, 0, none⟩ 1 1 _ _ E3.out.ob (Nat.le_trans (Nat.le_trans hB (Nat.le_trans (by simp) D2.out.gl.grown.size)) (by simp)) (by omega) (by decide) Ab.out HX.out HY.out zN (by omega) (fun k hk => by omega) (ir_succ w17 m1))
  go_wp2_with fail
  refine PU.out.mono ?_
  rintro e w18 ⟨v3, L3, rfl, h3⟩
  have D3 := Lib.hid (BdR.trans (m := 2000) E3.out h3 (.inr (by omega)))
  clear PU h3 E3 D2
  go_wp2_with fail
  go_ret
  exact ls_mk G15.out R15.out D3.out (by omega) (by omega) (by omega) (by omega) rfl
set_option maxRecDepth 100000 in
set_option maxHeartbeats 16000000 in
theorem l9Some_any (g p : Nat) (w : World) (hp : p ≤ 500000000) (hR : Rnd w g p) : Calls Tryz.prog 12 #[.pointer (some ⟨g, 0, none⟩)] w (LsPost w g p 100000) := by
  have HR := Lib.hid hR
  clear hR
  go_enter Tryz.func12, Tryz.ntmps12
  go_wp2_with fail
  refine (pick_any g p 6 _ (by omega) (by omega) HR.out).mono ?_
  rintro e w1 ⟨x, ⟨va1, vb1, _⟩, rfl, hg1, q1, qa1, qb1, hr1⟩
  have vc1 := vb1 (by omega)
  clear vb1
  have R1 := Lib.hid hr1
  have G1 := Lib.hid (hg1)
  clear hr1 hg1 HR
  by_cases h0 : x = 0
  · subst h0
    go_wp2_with fail
    refine (l9Loops_any g q1 _ (by omega) R1.out).mono ?_
    rintro e w2 ⟨v, n, L, rfl, hob, n1, n2, hav, hg2, q2, qa2, qb2, hr2⟩
    have OBB := Lib.hid (obase hob G1.out.size)
    have R2 := Lib.hid hr2
    have G2 := Lib.hid (grown_trans G1.out hg2)
    have AV := Lib.hid hav
    clear hob hg2 hr2 hav
    go_wp2_with fail
    go_ret
    exact ⟨v, n, L, rfl, OBB.out, n1, n2, (fun i hi a e => Nat.le_trans G1.out.size (AV.out i hi a e)), G2.out, q2, by omega, by omega, R2.out⟩
  have e0 : (x == 0) = false := by simp; exact h0
  clear h0
  by_cases h1 : x = 1
  · subst h1
    go_wp2_with fail
    refine (l9Splits_any g q1 _ (by omega) R1.out).mono ?_
    rintro e w2 ⟨v, n, L, rfl, hob, n1, n2, hav, hg2, q2, qa2, qb2, hr2⟩
    have OBB := Lib.hid (obase hob G1.out.size)
    have R2 := Lib.hid hr2
    have G2 := Lib.hid (grown_trans G1.out hg2)
    have AV := Lib.hid hav
    clear hob hg2 hr2 hav
    go_wp2_with fail
    go_ret
    exact ⟨v, n, L, rfl, OBB.out, n1, n2, (fun i hi a e => Nat.le_trans G1.out.size (AV.out i hi a e)), G2.out, q2, by omega, by omega, R2.out⟩
  have e1 : (x == 1) = false := by simp; exact h1
  clear h1
  by_cases h2 : x = 2
  · subst h2
    go_wp2_with fail
    refine (l9Sides_any g q1 _ (by omega) R1.out).mono ?_
    rintro e w2 ⟨v, n, L, rfl, hob, n1, n2, hav, hg2, q2, qa2, qb2, hr2⟩
    have OBB := Lib.hid (obase hob G1.out.size)
    have R2 := Lib.hid hr2
    have G2 := Lib.hid (grown_trans G1.out hg2)
    have AV := Lib.hid hav
    clear hob hg2 hr2 hav
    go_wp2_with fail
    go_ret
    exact ⟨v, n, L, rfl, OBB.out, n1, n2, (fun i hi a e => Nat.le_trans G1.out.size (AV.out i hi a e)), G2.out, q2, by omega, by omega, R2.out⟩
  have e2 : (x == 2) = false := by simp; exact h2
  clear h2
  go_wp2_with fail
  refine (pick_any g q1 2 _ (by omega) (by omega) R1.out).mono ?_
  rintro e w2 ⟨y, ⟨va2, vb2, _⟩, rfl, hg2, q2, qa2, qb2, hr2⟩
  have vc2 := vb2 (by omega)
  clear vb2
  have R2 := Lib.hid hr2
  have G2 := Lib.hid (grown_trans G1.out hg2)
  clear hr2 hg2 R1 G1
  go_wp2_with fail
  refine (l7Pair_any _ g q2 _ (by omega) R2.out).mono ?_
  rintro e w3 ⟨P, Q, PP, PQ, zp, zq, rfl, hg3, q3, qa3, qb3, hr3⟩
  have R3 := Lib.hid hr3
  have G3 := Lib.hid (grown_trans G2.out hg3)
  clear hr3 hg3 R2 G2
  have RA := Lib.hid (R3.out.alloc (.cells #[] 28))
  have KN := Lib.hid (Blk.new w3 28 #[])
  have ON := Lib.hid (obnil w3 w.heap.size (fun _ => zeroD) G3.out.size)
  have hgl := R3.out.lt
  go_wp2_with fail
  refine (l6Some_any g q3 _ (by omega) RA.out).mono ?_
  rintro e w9 ⟨S, hS, rfl, hg9, q9, qa9, qb9, hr9⟩
  have O9 := Lib.hid (ON.out.other hg9 (fun g' e => by cases e; exact ⟨fun e2 => by have e3 : w3.heap.size = g := Option.some.inj e2; omega, fun i hi => absurd hi (by omega)⟩))
  have K9 := Lib.hid (KN.out.grown hg9 (by intro e; cases e; omega))
  have G9 := Lib.hid (grown_trans G3.out (grown_alloc hg9))
  have R9 := Lib.hid hr9
  have hsz : w3.heap.size ≤ w9.heap.size := Nat.le_trans (by simp) hg9.size
  have hsw := G3.out.size
  have PU := Lib.hid (build_pr (L := (fun _ => zeroD)) w9 PP.out (by omega) PQ.out (by omega) hS (by omega) O9.out (Nat.le_trans G3.out.size hsz))
  clear RA KN ON hg9 hr9 hS R3 G3
  go_wp2_with fail
  refine PU.out.mono ?_
  rintro e w10 ⟨v1, n1, L1, rfl, hp1, h1⟩
  have H1 := Lib.hid h1
  have ht : n1 ≤ 1060 := by have := h1.top; omega
  have hgr : w9.grownBy w10 (some w3.heap.size) := h1.gl.grown
  have R10 := Lib.hid (R9.out.row hgr (by omega) K9.out)
  have G10 : Hid (w.grownBy w10 (some g)) := G9.out.trans_row hgr hsw
  clear h1 hgr PU
  go_wp2_with fail
  go_ret
  exact ⟨_, _, _, rfl, H1.out.ob, by omega, by omega, avb (fun b hb2 => H1.out.av b (by omega) ⟨fun e2 => by have e3 : w3.heap.size = b := Option.some.inj e2; omega, fun i hi => absurd hi (by omega)⟩), G10.out, q9, by omega, by omega, R10.out⟩
end Go.Proofs.YtndlhdmpfnadcaaGreatDoor
