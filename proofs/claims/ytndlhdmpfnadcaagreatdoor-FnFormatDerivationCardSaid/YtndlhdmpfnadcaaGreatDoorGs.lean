/- XGs: XBn XDx XBo XDy put together. -/
import Derived.Test.YtndlhdmpfnadcaaGreatDoorGr
import Derived.Test.YtndlhdmpfnadcaaGreatDoorDri
import Derived.Deep.AppendLies
import Derived.Deep.RegionLaw
/- Derivations changed at times: what is kept. -/
namespace Go.Proofs.YtndlhdmpfnadcaaGreatDoor
open Go.RowKit
open Pl
set_option linter.unusedVariables false

theorem row_put {w : World} {B g n c j : Nat} {e : TypeId} {xs : List Value} (h : w.ownsRow B e 6 (.slice (some ⟨g, 0, none⟩) n c) n xs) (hj : j < n * 6) (u : Value) : (w.setCell ⟨g, j, none⟩ u).ownsRow B e 6 (.slice (some ⟨g, 0, none⟩) n c) n (xs.set j u) := by
  refine ⟨by rw [List.length_set]; exact h.1, ?_⟩
  rcases h.2 with ⟨h2, _⟩ | ⟨g', cap, cur, h1, hb, hg, hc, hm, hs, ht⟩
  · cases h2
  · cases h1
    refine .inr ⟨g, c, cur.setIfInBounds j u, rfl, hb, Blk.set_ hg j u, hc, hm, by rw [Array.size_setIfInBounds]; exact hs, ?_⟩
    rw [Array.toList_setIfInBounds, List.take_set, ht]
theorem lvL_set {n i k : Nat} (L : Nat → LnD) (hi : i < n) (hk : k < 6) {x : LnD} (h : ∀ k', k' < 6 → k' ≠ k → fldV x k' = fldV (L i) k') : (lvL n L).set (i * 6 + k) (fldV x k) = lvL n (updL L i x) := by
  apply List.ext_getElem?
  intro j
  by_cases hj : j < n * 6
  · have e1 : j = (j / 6) * 6 + j % 6 := by omega
    have e2 : j % 6 < 6 := by omega
    have e3 : j / 6 < n := by omega
    have hr : (lvL n (updL L i x))[j]? = some (fldV (updL L i x (j / 6)) (j % 6)) := by
      conv => lhs; rw [e1]
      exact lvL_get _ e3 e2
    have hl : (lvL n L)[j]? = some (fldV (L (j / 6)) (j % 6)) := by
      conv => lhs; rw [e1]
      exact lvL_get _ e3 e2
    rw [hr, List.getElem?_set]
    by_cases e : i * 6 + k = j
    · rw [if_pos e, if_pos (by rw [lvL_len]; omega)]
      have : j / 6 = i ∧ j % 6 = k := by omega
      rw [this.1, this.2, show updL L i x i = x from if_pos rfl]
    · rw [if_neg e, hl]
      by_cases e4 : j / 6 = i
      · rw [e4, show updL L i x i = x from if_pos rfl, h (j % 6) e2 (by omega)]
      · rw [show updL L i x (j / 6) = L (j / 6) from if_neg e4]
  · rw [List.getElem?_eq_none (by rw [List.length_set, lvL_len]; omega), List.getElem?_eq_none (by rw [lvL_len]; omega)]
theorem Rnd.setc {w : World} {g p r j : Nat} {u0 : Value} (h : Rnd w g p) (hne : g ≠ r) (hc : w.cell? ⟨r, j, none⟩ = some u0) (hu : ∀ x, u0 ≠ .int .u8 x) (u : Value) : Rnd (w.setCell ⟨r, j, none⟩ u) g p := by
  obtain ⟨A, n, cap, hb, hn, hy⟩ := h
  refine ⟨A, n, cap, hb.far (p := ⟨r, j, none⟩) hne u, hn, ?_⟩
  rcases hy with hy | ⟨b, off, hA, hbg, hlt, hcl⟩
  · exact .inl hy
  · refine .inr ⟨b, off, hA, hbg, by simpa [World.setCell] using hlt, fun i hi => ?_⟩
    obtain ⟨v, hv, hcell⟩ := hcl i hi
    refine ⟨v, hv, ?_⟩
    rw [World.cell?_setCell_other]
    · exact hcell
    · intro e
      rw [e] at hc
      rw [hcell] at hc
      exact hu _ (Option.some.inj hc).symm
/-- what is kept while a list is changed -/
structure BS (B g : Nat) (w W : World) (r n c : Nat) (L : Nat → LnD) (q : Nat) : Prop where
  ol : OL B W (.slice (some ⟨r, 0, none⟩) n c) n L
  gl : g < B
  ot : AvB B n L
  rnd : Rnd W g q
  fr : ∀ w0 : World, w0.heap.size ≤ B → w0.grownBy w (some g) → w0.grownBy W (some g)
theorem OL.other {B : Nat} {W W' : World} {v : Value} {n : Nat} {L : Nat → LnD} {r : Option Nat} (h : OL B W v n L) (hg : W.grownBy W' r) (ha : ∀ g, r = some g → AvL v n L g) : OL B W' v n L := by
  refine ⟨h.own.kept hg ?_, fun i hi => ?_⟩
  · cases hv : v.ownBlock with
    | none => simp
    | some k => exact .inr (fun e => (ha _ e.symm).1 hv)
  · have x := h.ln i hi
    exact ⟨x.szR, x.szA, x.szP, x.szQ, x.szB, x.szn, x.cap, x.nil, x.z, x.ir.grown hg (fun a ea e => (ha _ e).2 i hi a ea rfl), fun a ea => ⟨Nat.lt_of_lt_of_le (x.far a ea).1 hg.size, (x.far a ea).2⟩⟩
section
variable {B g r n c q q' : Nat} {w W W' : World} {L : Nat → LnD}
theorem BS.av (h : BS B g w W r n c L q) : AvL (.slice (some ⟨r, 0, none⟩) n c) n L g := av_of h.ol h.ot h.gl
theorem BS.draw (h : BS B g w W r n c L q) (hg : W.grownBy W' (some g)) (hr : Rnd W' g q') : BS B g w W' r n c L q' :=
  ⟨h.ol.other hg (fun g' e => by cases e; exact h.av), h.gl, h.ot, hr, fun w0 h1 h2 => grown_trans (h.fr w0 h1 h2) hg⟩
theorem BS.call (h : BS B g w W r n c L q) (hb : Below W.heap.size W W') : BS B g w W' r n c L q :=
  ⟨h.ol.call hb, h.gl, h.ot, h.rnd.below hb, fun w0 h1 h2 => grown_below (h.fr w0 h1 h2) hb⟩
theorem BS.ne (h : BS B g w W r n c L q) : g ≠ r := fun e => h.av.1 (by rw [e]; rfl)
theorem BS.cell (h : BS B g w W r n c L q) {i k : Nat} (hi : i < n) (hk : k < 6) : W.cell? ⟨r, i * 6 + k, none⟩ = some (fldV (L i) k) := by
  obtain ⟨s', c', e, _, _, hx⟩ := h.ol.form
  obtain ⟨g', rfl, _, _, hcell⟩ := hx (by omega)
  cases e
  exact hcell i k hi hk
theorem BS.put (h : BS B g w W r n c L q) {i k : Nat} (hi : i < n) (hk : k < 6) {x : LnD} (hf : ∀ k', k' < 6 → k' ≠ k → fldV x k' = fldV (L i) k') (hx : GdL W (some r) x) (ha : ∀ a, x.s = some a → B ≤ a.block) : BS B g w (W.setCell ⟨r, i * 6 + k, none⟩ (fldV x k)) r n c (updL L i x) q := by
  have hg : W.grownBy (W.setCell ⟨r, i * 6 + k, none⟩ (fldV x k)) (some r) := grownBy_setCell W ⟨r, i * 6 + k, none⟩ _
  have gl : GL W (.slice (some ⟨r, 0, none⟩) n c) (W.setCell ⟨r, i * 6 + k, none⟩ (fldV x k)) (.slice (some ⟨r, 0, none⟩) n c) := ⟨hg, .inl rfl⟩
  have hge := h.ol.ge r rfl
  refine ⟨⟨?_, fun j hj => ?_⟩, h.gl, (fun j hj a e => ?_), h.rnd.setc h.ne (h.cell hi hk) ?_ _, fun w0 h1 h2 => (h.fr w0 h1 h2).trans_row hg (Nat.le_trans h1 hge)⟩
  · rw [← lvL_set L hi hk hf]
    exact row_put h.ol.own (by omega) _
  · by_cases e : j = i
    · subst e; rw [show updL L j x j = x from if_pos rfl]; exact hx.grown gl
    · rw [show updL L i x j = L j from if_neg e]; exact (h.ol.ln j hj).grown gl
  · by_cases e2 : j = i
    · subst e2; rw [show updL L j x j = x from if_pos rfl] at e; exact ha a e
    · rw [show updL L i x j = L j from if_neg e2] at e; exact h.ot j hj a e
  · intro y e
    match k, hk with
    | 0, _ => cases e
    | 1, _ => cases e
    | 2, _ => cases e
    | 3, _ => cases e
    | 4, _ => cases e
    | 5, _ => cases e
end
def BadPost (B g : Nat) (w : World) (r n c p : Nat) (e : Ending) (w' : World) : Prop :=
  ∃ L' q, e = .returned (.slice (some ⟨r, 0, none⟩) n c) ∧ BS B g w w' r n c L' q ∧ p ≤ q ∧ q ≤ p + 20000
end Go.Proofs.YtndlhdmpfnadcaaGreatDoor

/- Numbers drawn, with the world that is left. -/
namespace Go.Proofs.YtndlhdmpfnadcaaGreatDoor
open Go.RowKit
open Pl
set_option linter.unusedVariables false

set_option maxHeartbeats 2000000 in
theorem pickX_any (g p : Nat) (k : Int) (w : World) (hp : p ≤ 1000000000) (hk : k ≤ 1000000) (h : Rnd w g p) :
    Calls Tryz.prog 13 #[.pointer (some ⟨g, 0, none⟩), .int .i64 k] w fun e w' => ∃ v, InRange k v ∧ e = .returned (.int .i64 v) ∧ ∃ m, w' = (w.drewN m).setCell ⟨g, 1, none⟩ (.int .i64 ((p : Int) + 1)) := by
  obtain ⟨A, n, cap, hb, hn, hby⟩ := h
  have c0 := hb.cell 0
  have c1 := hb.cell 1
  have f1 := hb.frozen 1
  simp at c0 c1
  clear hb
  by_cases hk1 : k < 1
  · clear hby
    go_enter Tryz.func13, Tryz.ntmps13
    go_wp2_with fail
    go_ret
    exact ⟨0, ⟨by omega, by omega, fun _ => rfl⟩, rfl, 0, rfl⟩
  by_cases hn0 : n = 0
  · subst hn0
    clear hby
    go_enter Tryz.func13, Tryz.ntmps13
    go_wp2_with fail
    go_ret
    exact ⟨0, ⟨by omega, by omega, fun _ => rfl⟩, rfl, 0, rfl⟩
  obtain ⟨b, off, rfl, hne, hlt, hcell⟩ := hby.resolve_left hn0
  have hnz : ((n : Int) == 0) = false := by simp; omega
  by_cases hpn : p < n
  · obtain ⟨v, hv, hc⟩ := hcell p hpn
    have ll : 0 ≤ (v : Int) % k := Int.emod_nonneg _ (by omega)
    have lu : (v : Int) % k < k := Int.emod_lt_of_pos _ (by omega)
    clear hcell hn0
    go_enter Tryz.func13, Tryz.ntmps13
    go_wp2_with fail
    go_ret
    exact ⟨(v : Int) % k, ⟨ll, fun _ => lu, fun h => by omega⟩, rfl, 0, rfl⟩
  · obtain ⟨j1, hj1⟩ : ∃ j, j = p % n := ⟨_, rfl⟩
    obtain ⟨j2, hj2⟩ : ∃ j, j = (p * 7 + 3) % n := ⟨_, rfl⟩
    have l1 : j1 < n := by rw [hj1]; exact Nat.mod_lt _ (by omega)
    have l2 : j2 < n := by rw [hj2]; exact Nat.mod_lt _ (by omega)
    obtain ⟨v1, hv1, hc1⟩ := hcell j1 l1
    obtain ⟨v2, hv2, hc2⟩ := hcell j2 l2
    have s1 : (p : Int) % (n : Int) = (j1 : Int) := by rw [hj1]; rfl
    have s2 : ((p : Int) * 7 + 3) % (n : Int) = (j2 : Int) := by rw [hj2]; rfl
    have t1 : (off : Nat) + j1 = off + j1 := rfl
    obtain ⟨d, hd⟩ : ∃ d, d = p / n := ⟨_, rfl⟩
    have s3 : (p : Int) / (n : Int) = (d : Int) := by rw [hd]; rfl
    have hdl : d ≤ p := by rw [hd]; exact Nat.div_le_self _ _
    clear hcell hn0 hj1 hj2 hd t1
    go_enter Tryz.func13, Tryz.ntmps13
    go_wp2_with fail
    go_quiet (fail)
    go_wp2_with fail
    go_ret
    obtain ⟨N, hN⟩ := xor_nat (v1 * 131 + v2 * 1117 + p * 29 + d * 53) (by omega)
    have hX : ((v1 * 131 + v2 * 1117 + p * 29 + d * 53 : Nat) : Int) = (v1 : Int) * 131 + v2 * 1117 + p * 29 + d * 53 := by omega
    rw [hX] at hN
    refine ⟨(N : Int).tmod k, ⟨Int.tmod_nonneg _ (by omega), fun _ => Int.tmod_lt_of_pos _ (by omega), fun h => by omega⟩, ?_, nq, rfl⟩
    exact ret_int (by rw [hN])

set_option maxHeartbeats 1000000 in
theorem numX_any (g p lb : Nat) (ss : List Int) (w : World) (hp : p ≤ 1000000000) (h : Rnd w g p) (hl : 1 ≤ ss.length) (hl2 : ss.length ≤ 1000) (hne : lb ≠ g)
    (hb : Blk w lb 3 ((ss.map (Value.int .i64)).toArray)) :
    Calls Tryz.prog 29 #[.pointer (some ⟨g, 0, none⟩), .slice (some ⟨lb, 0, none⟩) ss.length ss.length] w fun e w' => ∃ s, s ∈ ss ∧ e = .returned (.int .i64 s) ∧ ∃ m, w' = (w.drewN m).setCell ⟨g, 1, none⟩ (.int .i64 ((p : Int) + 1)) := by
  have R := Lib.hid (pickX_any g p (ss.length : Int) w hp (by omega) h)
  clear h
  go_enter Tryz.func29, Tryz.ntmps29
  go_wp2_with fail
  refine R.out.mono ?_
  rintro e w' ⟨v, ⟨hv0, hv1, _⟩, rfl, m, hd⟩
  have hv1' := hv1 (by omega)
  obtain ⟨j, rfl⟩ := Int.eq_ofNat_of_zero_le hv0
  have hj : j < ss.length := by omega
  have hb' : Blk w' lb 3 ((ss.map (Value.int .i64)).toArray) := by rw [hd]; exact (hb.drewN m).far (p := ⟨g, 1, none⟩) hne _
  have hc : w'.cell? ⟨lb, j, none⟩ = some (.int .i64 ss[j]) := by rw [hb'.cell]; simp [hj]
  have HD := Lib.hid hd
  clear hv1 hb hb' hd R
  go_wp2_with fail
  go_ret
  exact ⟨ss[j], List.getElem_mem hj, rfl, m, HD.out⟩


/-- the source, when rows made since have been written -/
theorem rnd_far {w W w5 : World} {g q m : Nat} {r : Option Nat} (h : Rnd w g q) (hb : Below w.heap.size w W) (hg : ((W.drewN m).setCell ⟨g, 1, none⟩ (.int .i64 ((q : Int) + 1))).grownBy w5 r) (hr : r ≠ some g) (hall : w.grownBy w5 (some g)) : Rnd w5 g (q + 1) := by
  obtain ⟨A, n, cap, hk, hn, hy⟩ := h
  refine ⟨A, n, cap, ?_, hn, hy.keep hall⟩
  have h1 := (((hk.below hb hk.lt).drewN m).set_ 1 (.int .i64 ((q : Int) + 1))).grown hg (fun e => hr e.symm)
  simpa using h1

end Go.Proofs.YtndlhdmpfnadcaaGreatDoor

/- A line of a drawn derivation, changed at times. -/
namespace Go.Proofs.YtndlhdmpfnadcaaGreatDoor
open Go.RowKit
open Pl
set_option linter.unusedVariables false

theorem BS.froz {B g r n c q : Nat} {w W : World} {L : Nat → LnD} (h : BS B g w W r n c L q) (hn : 1 ≤ n) (j : Nat) : W.frozen? ⟨r, j, none⟩ = false := by
  rcases h.ol.own.2 with ⟨h1, _⟩ | ⟨g', cap, cur, h1, _, hg, _⟩
  · cases h1
  · cases h1; exact Blk.frozen hg j
theorem rule_small {s : ByteArray} (h : s ∈ ([⟨#[114, 117, 110]⟩, ⟨#[115, 101, 116]⟩, ⟨#[119, 101, 97, 107]⟩, ⟨#[115, 101, 113]⟩, ⟨#[105, 102]⟩, ⟨#[119, 104, 105, 108, 101]⟩, ⟨#[108, 101, 102, 116]⟩, ⟨#[115, 112, 108, 105, 116]⟩, ⟨#[]⟩, ⟨#[120]⟩] : List ByteArray)) : s.size ≤ 1000 ∧ s.data.toList.all (fun c => c != 32 && c != 44) = true := by
  simp only [List.mem_cons, List.not_mem_nil, or_false] at h
  rcases h with rfl | rfl | rfl | rfl | rfl | rfl | rfl | rfl | rfl | rfl <;> decide
/-- a line with another field -/
theorem BS.setR {B g w W r n c L q} (h : BS B g w W r n c L q) {i : Nat} (hi : i < n) {s : ByteArray} (hs : s.size ≤ 1000 ∧ s.data.toList.all (fun c => c != 32 && c != 44) = true) : ∃ L', BS B g w (W.setCell ⟨r, i * 6, none⟩ (.string s)) r n c L' q :=
  ⟨_, h.put (k := 0) hi (by decide) (x := { L i with R := s }) (fun k' h1 h2 => by match k', h1 with | 1, _ => rfl | 2, _ => rfl | 3, _ => rfl | 4, _ => rfl | 5, _ => rfl) (by have x := h.ol.ln i hi; exact ⟨hs, x.szA, x.szP, x.szQ, x.szB, x.szn, x.cap, x.nil, x.z, x.ir, x.far⟩) (fun a e => h.ot i hi a e)⟩
theorem BS.setA {B g w W r n c L q} (h : BS B g w W r n c L q) {i : Nat} (hi : i < n) {s : ByteArray} (hs : s.size ≤ 1000) : ∃ L', BS B g w (W.setCell ⟨r, i * 6 + 1, none⟩ (.string s)) r n c L' q :=
  ⟨_, h.put (k := 1) hi (by decide) (x := { L i with A := s }) (fun k' h1 h2 => by match k', h1 with | 0, _ => rfl | 2, _ => rfl | 3, _ => rfl | 4, _ => rfl | 5, _ => rfl) (by have x := h.ol.ln i hi; exact ⟨x.szR, hs, x.szP, x.szQ, x.szB, x.szn, x.cap, x.nil, x.z, x.ir, x.far⟩) (fun a e => h.ot i hi a e)⟩
theorem BS.setP {B g w W r n c L q} (h : BS B g w W r n c L q) {i : Nat} (hi : i < n) {s : ByteArray} (hs : s.size ≤ 1000) : ∃ L', BS B g w (W.setCell ⟨r, i * 6 + 2, none⟩ (.string s)) r n c L' q :=
  ⟨_, h.put (k := 2) hi (by decide) (x := { L i with P := s }) (fun k' h1 h2 => by match k', h1 with | 0, _ => rfl | 1, _ => rfl | 3, _ => rfl | 4, _ => rfl | 5, _ => rfl) (by have x := h.ol.ln i hi; exact ⟨x.szR, x.szA, hs, x.szQ, x.szB, x.szn, x.cap, x.nil, x.z, x.ir, x.far⟩) (fun a e => h.ot i hi a e)⟩
theorem BS.setB {B g w W r n c L q} (h : BS B g w W r n c L q) {i : Nat} (hi : i < n) {s : ByteArray} (hs : s.size ≤ 1000) : ∃ L', BS B g w (W.setCell ⟨r, i * 6 + 4, none⟩ (.string s)) r n c L' q :=
  ⟨_, h.put (k := 4) hi (by decide) (x := { L i with B := s }) (fun k' h1 h2 => by match k', h1 with | 0, _ => rfl | 1, _ => rfl | 2, _ => rfl | 3, _ => rfl | 5, _ => rfl) (by have x := h.ol.ln i hi; exact ⟨x.szR, x.szA, x.szP, x.szQ, hs, x.szn, x.cap, x.nil, x.z, x.ir, x.far⟩) (fun a e => h.ot i hi a e)⟩
theorem BS.setS {B g w W r n c L q} (h : BS B g w W r n c L q) {i : Nat} (hi : i < n) {s : Option Addr} {m c' : Nat} {z : Nat → Int} (hm : m ≤ 1000) (hc : m ≤ c') (hnl : s = none → c' = 0) (hz : ∀ k, k < m → -9223372036854775808 ≤ z k ∧ z k ≤ 9223372036854775807) (hir : IR W s m z) (hf : ∀ a, s = some a → a.block < W.heap.size ∧ a.block ≠ r ∧ B ≤ a.block) : ∃ L', BS B g w (W.setCell ⟨r, i * 6 + 5, none⟩ (.slice s m c')) r n c L' q :=
  ⟨_, h.put (k := 5) hi (by decide) (x := { L i with s := s, n := m, c := c', z := z }) (fun k' h1 h2 => by match k', h1 with | 0, _ => rfl | 1, _ => rfl | 2, _ => rfl | 3, _ => rfl | 4, _ => rfl | 5, _ => first | exact absurd rfl h2 | omega) (by have x := h.ol.ln i hi; exact ⟨x.szR, x.szA, x.szP, x.szQ, x.szB, hm, hc, hnl, hz, hir, fun a e => ⟨(hf a e).1, fun e2 => (hf a e).2.1 (Option.some.inj e2).symm⟩⟩) (fun a e => (hf a e).2.2)⟩
theorem ir_put {W : World} {b n : Nat} {t : TypeId} {cur : Array Value} {z : Nat → Int} (hk : Blk W b t cur) (h : IR W (some ⟨b, 0, none⟩) n z) (v : Int) : IR (W.setCell ⟨b, 0, none⟩ (.int .i64 v)) (some ⟨b, 0, none⟩) n (fun k => if k = 0 then v else z k) := by
  rcases h with h | ⟨b', off, e, hlt, hc⟩
  · exact .inl h
  · cases e
    refine .inr ⟨b, 0, rfl, by simpa [World.setCell] using hlt, fun j hj => ?_⟩
    have hk5 := hk.set_ 0 (.int .i64 v)
    have hcj := hc j hj
    rw [hk.cell, Nat.zero_add] at hcj
    rw [hk5.cell, Nat.zero_add, Array.getElem?_setIfInBounds]
    by_cases e : j = 0
    · subst e
      have hlt2 : 0 < cur.size := by
        rcases Nat.eq_zero_or_pos cur.size with h0 | h0
        · rw [Array.getElem?_eq_none (by omega)] at hcj; cases hcj
        · exact h0
      simp [hlt2]
    · rw [if_neg (by omega)]; show _ = some (Value.int IntKind.i64 (if j = 0 then v else z j)); rw [if_neg e]; exact hcj
theorem own_far {w w' : World} {B g : Nat} {e : TypeId} {size : Nat} {v : Value} {n : Nat} {xs : List Value} (h : w.ownsRow B e size v n xs) (hg : w.grownBy w' (some g)) (hB : g < B) : w'.ownsRow B e size v n xs :=
  h.kept hg (by
    cases hv : v.ownBlock with
    | none => exact .inl rfl
    | some k => exact .inr (fun e => by cases e; have := (h.lt _ hv).1; omega))
theorem grown_num {w W : World} {g : Nat} (hb : Below w.heap.size w W) (m : Nat) (u : Value) : w.grownBy ((W.drewN m).setCell ⟨g, 1, none⟩ u) (some g) :=
  grown_trans (grown_trans (grown_of_below hb _) (grownBy_drewN W m _)) (grownBy_setCell _ ⟨g, 1, none⟩ u)
/-- the source once a number was drawn -/
theorem rnd_num {w W : World} {g q : Nat} (h : Rnd w g q) (hb : Below w.heap.size w W) (m : Nat) : Rnd ((W.drewN m).setCell ⟨g, 1, none⟩ (.int .i64 ((q : Int) + 1))) g (q + 1) :=
  rnd_far (m := m) (r := none) h hb (World.grownBy.refl _ _) (by simp) (grown_num hb m _)
set_option maxRecDepth 100000 in
set_option maxHeartbeats 16000000 in
theorem l9Bad_any (B g r n c p : Nat) (L : Nat → LnD) (w : World) (hn1 : 1 ≤ n) (hn2 : n ≤ 1100) (hO : OB B w (.slice (some ⟨r, 0, none⟩) n c) n L) (hc : n ≤ c) (hA : AvB B n L) (hgB : g < B) (hp : p ≤ 700000000) (hR : Rnd w g p) :
    Calls Tryz.prog 14 #[.pointer (some ⟨g, 0, none⟩), .slice (some ⟨r, 0, none⟩) n c] w (BadPost B g w r n c p) := by
  have S0 : Hid (BS B g w w r n c L p) := ⟨hO.ol, hgB, hA, hR, fun _ _ h => h⟩
  have HO := Lib.hid hO
  clear hO hA hR
  go_enter Tryz.func14, Tryz.ntmps14
  go_wp2_with fail
  refine (pick_any g p (n : Int) w (by omega) (by omega) S0.out.rnd).mono ?_
  rintro e w1 ⟨v1, ⟨va1, vb1, _⟩, rfl, hg1, q1, qa1, qb1, hr1⟩
  have vc1 := vb1 (by omega)
  obtain ⟨i, rfl⟩ := Int.eq_ofNat_of_zero_le va1
  have hi : i < n := by omega
  have S1 := Lib.hid (S0.out.draw hg1 hr1)
  clear vb1 hg1 hr1 S0
  go_wp2_with fail
  refine (pick_any g q1 10 w1 (by omega) (by omega) S1.out.rnd).mono ?_
  rintro e w2 ⟨x, ⟨va2, vb2, _⟩, rfl, hg2, q2, qa2, qb2, hr2⟩
  have vc2 := vb2 (by omega)
  have S2 := Lib.hid (S1.out.draw hg2 hr2)
  have hgl := S2.out.rnd.lt
  have i0 : (0 : Int) ≤ (i : Int) := by omega
  have i1 : (i : Int) < (n : Int) := by omega
  have hcz : n ≤ 9223372036854775807 := by omega
  clear vb2 hg2 hr2 S1
  by_cases h0 : x = 0
  · subst h0
    go_wp2_with fail
    refine (of_any g q2 w2.heap.size [⟨#[114, 117, 110]⟩, ⟨#[115, 101, 116]⟩, ⟨#[119, 101, 97, 107]⟩, ⟨#[115, 101, 113]⟩, ⟨#[105, 102]⟩, ⟨#[119, 104, 105, 108, 101]⟩, ⟨#[108, 101, 102, 116]⟩, ⟨#[115, 112, 108, 105, 116]⟩, ⟨#[]⟩, ⟨#[120]⟩] (w2.alloc _) (by omega) (S2.out.rnd.alloc _) (by decide) (by decide) (by omega) (Blk.new w2 _ _)).mono ?_
    rintro e w3 ⟨s, hs, rfl, hg3, q3, qa3, qb3, hr3⟩
    have S3 := Lib.hid ((S2.out.call ((Below.refl _ w2).alloc (Nat.le_refl _) _)).draw hg3 hr3)
    have hss := rule_small hs
    have hcl : w3.cell? ⟨r, i * 6, none⟩ = some (.string (L i).R) := S3.out.cell (k := 0) hi (by decide)
    have hfz := S3.out.froz hn1 (i * 6)
    obtain ⟨L', h4⟩ := S3.out.setR hi (s := s) hss
    have S4 := Lib.hid h4
    clear h4 hs hg3 hr3 S3 S2
    go_wp2_with fail
    go_ret
    exact ⟨_, _, rfl, S4.out, by omega, by omega⟩
  have e0 : (x == 0) = false := by simp; exact h0
  clear h0
  by_cases h1 : x = 1
  · subst h1
    go_wp2_with fail
    have hcl : w2.cell? ⟨r, i * 6 + 1, none⟩ = some (.string (L i).A) := S2.out.cell (k := 1) hi (by decide)
    have S2d := Lib.hid (S2.out.call (below_drew _ _))
    have hcd : w2.drew.cell? ⟨r, i * 6 + 1, none⟩ = some (.string (L i).A) := hcl
    have HA := Lib.hid (HO.out.bit i hi)
    obtain ⟨A1, hA1⟩ : ∃ A, (L i).A = A := ⟨_, rfl⟩
    rw [hA1] at hcl hcd HA
    have LS := Lib.hid (l6Some_any g q2 w2.drew (by omega) S2d.out.rnd)
    clear hA1
    go_wp2_with fail
    go_region_law ((first | (go_simp; go_at_call 24; refine LS.out.mono ?_; rintro e w3 ⟨s, hs, rfl, hg3, q3, qa3, qb3, hr3⟩; have S3 := Lib.hid (S2d.out.draw hg3 hr3); have hcl3 : w3.cell? ⟨r, i * 6 + 1, none⟩ = some (.string A1) := (hg3.cell hcd (by intro e; cases e; exact S2.out.ne rfl)); have HS := Lib.hid hs; clear hg3 hr3 hs hcl hcd) | (go_simp; go_at_call 27; refine (or_bitp HA.out HS.out _).mono ?_; rintro e w4 ⟨O, hO, rfl, hb4⟩; have S4 := Lib.hid (S3.out.call hb4); have hcl4 : w4.cell? ⟨r, i * 6 + 1, none⟩ = some (.string A1) := (hb4.cell (p := ⟨r, i * 6 + 1, none⟩) (World.block_lt_of_cell? w3 _ hcl3)).trans hcl3; have HQ := Lib.hid hO; clear hb4 hO hcl3) | (go_simp; go_at_call 26; refine (l6Bad_any O g q3 _ (okR_size HQ.out) (by omega) S4.out.rnd).mono ?_; rintro e w5 ⟨s5, hz5, rfl, hg5, q5, qa5, qb5, hr5⟩; have S5 := Lib.hid (S4.out.draw hg5 hr5); have hcl5 : w5.cell? ⟨r, i * 6 + 1, none⟩ = some (.string A1) := (hg5.cell hcl4 (by intro e; cases e; exact S4.out.ne rfl)); have hfz := S5.out.froz hn1 (i * 6 + 1); clear hg5 hr5 hcl4)))
    all_goals obtain ⟨L', h6⟩ := S5.out.setA hi (s := s5) (by omega)
    all_goals have S6 := Lib.hid h6
    all_goals clear h6
    all_goals go_wp2_with fail
    all_goals go_ret
    all_goals exact ⟨_, _, rfl, S6.out, by omega, by omega⟩
  have e1 : (x == 1) = false := by simp; exact h1
  clear h1
  by_cases h2 : x = 2
  · subst h2
    go_wp2_with fail
    refine (l6Some_any g q2 w2 (by omega) S2.out.rnd).mono ?_
    rintro e w3 ⟨s, hs, rfl, hg3, q3, qa3, qb3, hr3⟩
    have S3 := Lib.hid (S2.out.draw hg3 hr3)
    have hss := bit_size hs
    have hcl : w3.cell? ⟨r, i * 6 + 4, none⟩ = some (.string (L i).B) := S3.out.cell (k := 4) hi (by decide)
    have hfz := S3.out.froz hn1 (i * 6 + 4)
    obtain ⟨L', h4⟩ := S3.out.setB hi (s := s) (by omega)
    have S4 := Lib.hid h4
    clear h4 hs hg3 hr3 S3 S2
    go_wp2_with fail
    go_ret
    exact ⟨_, _, rfl, S4.out, by omega, by omega⟩
  have e2 : (x == 2) = false := by simp; exact h2
  clear h2
  by_cases h3 : x = 3
  · subst h3
    have hld := S2.out.cell (k := 2) hi (by decide)
    simp only [fldV] at hld
    go_wp2_with fail
    refine (badP_any _ g q2 w2 (HO.out.pp i hi).1 (by have := (S2.out.ol.ln i hi).szP; omega) (by omega) S2.out.rnd).mono ?_
    rintro e w3 ⟨s, hs2, rfl, hg3, q3, qa3, qb3, hr3⟩
    have S3 := Lib.hid (S2.out.draw hg3 hr3)
    have hcl : w3.cell? ⟨r, i * 6 + 2, none⟩ = some (.string (L i).P) := S3.out.cell (k := 2) hi (by decide)
    have hfz := S3.out.froz hn1 (i * 6 + 2)
    obtain ⟨L', h4⟩ := S3.out.setP hi (s := s) (by have := (HO.out.pp i hi).2.1; omega)
    have S4 := Lib.hid h4
    clear h4 hg3 hr3 S3 S2
    go_wp2_with fail
    go_ret
    exact ⟨_, _, rfl, S4.out, by omega, by omega⟩
  have e3 : (x == 3) = false := by simp; exact h3
  clear h3
  by_cases h4 : x = 4
  · subst h4
    have hld := S2.out.cell (k := 5) hi (by decide)
    simp only [fldV] at hld
    have X := S2.out.ol.ln i hi
    have hns := (HO.out.pp i hi).2.2
    have hrl := S2.out.ol.lt r rfl
    have hBr := S2.out.ol.ge r rfl
    obtain ⟨rs, hrs⟩ : ∃ x, (L i).s = x := ⟨_, rfl⟩
    obtain ⟨rn, hrn⟩ : ∃ x, (L i).n = x := ⟨_, rfl⟩
    obtain ⟨rc, hrc⟩ : ∃ x, (L i).c = x := ⟨_, rfl⟩
    obtain ⟨rz, hrz⟩ : ∃ x, (L i).z = x := ⟨_, rfl⟩
    have HI : Hid (IR w2 rs rn rz) := by rw [← hrs, ← hrn, ← hrz]; exact X.ir
    have HZ : Hid (∀ k, k < rn → -9223372036854775808 ≤ rz k ∧ rz k ≤ 9223372036854775807) := by rw [← hrn, ← hrz]; exact X.z
    have hnl : rs = none → rc = 0 := by rw [← hrs, ← hrc]; exact X.nil
    have hcp : rn ≤ rc := by rw [← hrn, ← hrc]; exact X.cap
    rw [hrs, hrn, hrc] at hld
    rw [hrn] at hns
    obtain ⟨i0_, hi0, hz0, hz1, hz2⟩ := info_parts infoI
    have J0 := Lib.hid hi0
    have J1 := Lib.hid hz0
    have J2 := Lib.hid hz1
    have J3 := Lib.hid hz2
    have M0 : (w2.alloc (.cells #[] 3)).ownsRow w2.heap.size 3 1 (.slice (some ⟨w2.heap.size, 0, none⟩) 0 0) 0 [] := World.ownsRow_made w2 #[] 0 (Nat.le_refl _) (by simp [maxLen]) rfl
    have HM := Lib.hid M0
    clear X hrs hrn hrc hrz hi0 hz0 hz1 hz2 M0
    cases rs with
    | none =>
      obtain rfl : rc = 0 := hnl rfl
      obtain rfl : rn = 0 := by omega
      have HW3 : Hid ((w2.alloc (.cells #[] 3)).ownsRow w2.heap.size 3 1 (.slice (some ⟨w2.heap.size, 0, none⟩) 0 0) 0 (zsL 0 rz)) := HM.out
      have HB3 := Lib.hid ((Below.refl _ w2).alloc (Nat.le_refl _) (.cells #[] 3))
      go_wp2_with (at_builtin; refine wpList_append_own_none rfl (.tmp 63) (.tmp 68) 26 rfl w2.heap.size 3 i0_ 1 Tryz.underlying26 J0.out _ 0 [] rfl HM.out rfl ?_)
      have hz3 := HB3.out.size
      have R3 := Lib.hid ((S2.out.rnd.below HB3.out).alloc (.cells #[.int .i64 0, .int .i64 (-1), .int .i64 60] 3))
      have KB : Blk ((w2.alloc (.cells #[] 3)).alloc (.cells #[.int .i64 0, .int .i64 (-1), .int .i64 60] 3)) (w2.heap.size + 1) 3 (([0, -1, 60].map (Value.int .i64)).toArray) := by have := Blk.new (w2.alloc (.cells #[] 3)) 3 #[.int .i64 0, .int .i64 (-1), .int .i64 60]; simpa using this
      have KH := Lib.hid KB
      clear KB
      refine (numX_any g q2 (w2.heap.size + 1) [0, -1, 60] ((w2.alloc (.cells #[] 3)).alloc (.cells #[.int .i64 0, .int .i64 (-1), .int .i64 60] 3)) (by omega) R3.out (by decide) (by decide) (by omega) KH.out).mono ?_
      rintro e w4 ⟨z, hz, rfl, m, hw4⟩
      have hzb : z = 0 ∨ z = -1 ∨ z = 60 := by simpa using hz
      have HB4 : Hid (Below w2.heap.size w2 ((w2.alloc (.cells #[] 3)).alloc (.cells #[.int .i64 0, .int .i64 (-1), .int .i64 60] 3))) := HB3.out.alloc hz3 _
      have G4 : Hid (w2.grownBy w4 (some g)) := by rw [hw4]; exact grown_num HB4.out m _
      have HW4 : Hid (w4.ownsRow w2.heap.size 3 1 (.slice (some ⟨w2.heap.size, 0, none⟩) 0 0) 0 (zsL 0 rz)) := by rw [hw4]; exact own_far HW3.out (grown_num ((Below.refl _ (w2.alloc (.cells #[] 3))).alloc (Nat.le_refl _) _) m _) hgl
      have HQ4 := Lib.hid hw4
      clear hz hw4 R3
      go_wp2_with (at_builtin
                   refine wpList_append_own_at _ rfl (.tmp 69) (.tmp 73) 26 rfl w2.heap.size 3 i0_ _ 1 8 Tryz.underlying26 J0.out J1.out J2.out J3.out rfl (by decide) _ 0 (zsL 0 rz) rfl (row_call HW4.out ((Below.refl _ w4).alloc (Nat.le_refl _) _)) ⟨w4.heap.size, 0, none⟩ 1 1 [.int .i64 z] rfl rfl (int_new w4 _ _) (by intro u hu; simp at hu; subst hu; rfl) (by simp only [maxLen]; omega) (by omega) (Nat.le_trans G4.out.size (by simp)) ?_
                   intro v5 w5 hown5 hgr5 _ _
                   rw [zs_snoc] at hown5
                   obtain ⟨s5, c5, rfl, hc5, hc6, hir5, hf5, hnl5⟩ := own_ir hown5
                   have hlo : ∀ x, Value.ownBlock (.slice (some ⟨w2.heap.size, 0, none⟩) 0 0) = some x → w2.heap.size ≤ x := fun x e => (HW4.out.lt x e).1
                   have G5 : w2.grownBy w5 (some g) := grown_step (grown_trans G4.out (World.grownBy_alloc w4 _ _)) hgr5 (fun x e => .inr (hlo x e))
                   have h45 := grown_step (World.grownBy_alloc w4 (.cells #[.int .i64 z] 3) (Value.ownBlock (.slice (some ⟨w2.heap.size, 0, none⟩) 0 0))) hgr5 (fun x e => .inl e)
                   rw [HQ4.out] at h45
                   have R5 : Rnd w5 g (q2 + 1) := rnd_far S2.out.rnd HB4.out h45 (fun e => by have := hlo g e; omega) G5
                   clear h45
                   have S5 := Lib.hid (S2.out.draw G5 R5)
                   have hcl : w5.cell? ⟨r, i * 6 + 5, none⟩ = some (fldV (L i) 5) := S5.out.cell (k := 5) hi (by decide)
                   have hfz := S5.out.froz hn1 (i * 6 + 5)
                   obtain ⟨L', h6⟩ := S5.out.setS hi (m := 0 + 1) (c' := c5) (by omega) hc5 hnl5 (fun k hk => by by_cases e : k = 0; (simp only [e, if_true]; omega); (rw [if_neg e]; exact HZ.out k (by omega))) hir5 (fun a e => ⟨(hf5 a e).2, by have := (hf5 a e).1; omega, by have := (hf5 a e).1; omega⟩)
                   have S6 := Lib.hid h6
                   clear h6 hir5 hf5 hown5 hgr5 hlo G5 R5 S5)
      go_wp2_with fail
      go_ret
      exact ⟨_, _, rfl, S6.out, by omega, by omega⟩
    | some ad =>
      have HN := Lib.hid (ir_news (HI.out.call ((Below.refl _ w2).alloc (Nat.le_refl _) (.cells #[] 3))))
      go_wp2_with (at_builtin
                   refine wpList_append_own_at _ rfl (.tmp 63) (.tmp 68) 26 rfl w2.heap.size 3 i0_ _ 1 8 Tryz.underlying26 J0.out J1.out J2.out J3.out rfl (by decide) _ 0 [] rfl HM.out ad rn rc (zsL rn rz) rfl (by rw [zsL_len, Nat.mul_one]) HN.out (zsL_one _ _) (by simp only [maxLen]; omega) (by omega) (by simp) ?_
                   intro v3 w3 hown3 hgr3 _ _
                   rw [Nat.zero_add, List.nil_append] at hown3
                   have HB3 := Lib.hid (below_app hgr3)
                   have HW3 := Lib.hid hown3
                   clear hown3 hgr3)
      have hz3 := HB3.out.size
      have R3 := Lib.hid ((S2.out.rnd.below HB3.out).alloc (.cells #[.int .i64 0, .int .i64 (-1), .int .i64 60] 3))
      have KB : Blk (w3.alloc (.cells #[.int .i64 0, .int .i64 (-1), .int .i64 60] 3)) (w3.heap.size) 3 (([0, -1, 60].map (Value.int .i64)).toArray) := by have := Blk.new w3 3 #[.int .i64 0, .int .i64 (-1), .int .i64 60]; simpa using this
      have KH := Lib.hid KB
      clear KB
      refine (numX_any g q2 (w3.heap.size) [0, -1, 60] (w3.alloc (.cells #[.int .i64 0, .int .i64 (-1), .int .i64 60] 3)) (by omega) R3.out (by decide) (by decide) (by omega) KH.out).mono ?_
      rintro e w4 ⟨z, hz, rfl, m, hw4⟩
      have hzb : z = 0 ∨ z = -1 ∨ z = 60 := by simpa using hz
      have HB4 : Hid (Below w2.heap.size w2 (w3.alloc (.cells #[.int .i64 0, .int .i64 (-1), .int .i64 60] 3))) := HB3.out.alloc hz3 _
      have G4 : Hid (w2.grownBy w4 (some g)) := by rw [hw4]; exact grown_num HB4.out m _
      have HW4 : Hid (w4.ownsRow w2.heap.size 3 1 v3 rn (zsL rn rz)) := by rw [hw4]; exact own_far HW3.out (grown_num ((Below.refl _ w3).alloc (Nat.le_refl _) _) m _) hgl
      have HQ4 := Lib.hid hw4
      clear hz hw4 R3
      go_wp2_with (at_builtin
                   refine wpList_append_own_at _ rfl (.tmp 69) (.tmp 73) 26 rfl w2.heap.size 3 i0_ _ 1 8 Tryz.underlying26 J0.out J1.out J2.out J3.out rfl (by decide) _ rn (zsL rn rz) rfl (row_call HW4.out ((Below.refl _ w4).alloc (Nat.le_refl _) _)) ⟨w4.heap.size, 0, none⟩ 1 1 [.int .i64 z] rfl rfl (int_new w4 _ _) (by intro u hu; simp at hu; subst hu; rfl) (by simp only [maxLen]; omega) (by omega) (Nat.le_trans G4.out.size (by simp)) ?_
                   intro v5 w5 hown5 hgr5 _ _
                   rw [zs_snoc] at hown5
                   obtain ⟨s5, c5, rfl, hc5, hc6, hir5, hf5, hnl5⟩ := own_ir hown5
                   have hlo : ∀ x, Value.ownBlock v3 = some x → w2.heap.size ≤ x := fun x e => (HW4.out.lt x e).1
                   have G5 : w2.grownBy w5 (some g) := grown_step (grown_trans G4.out (World.grownBy_alloc w4 _ _)) hgr5 (fun x e => .inr (hlo x e))
                   have h45 := grown_step (World.grownBy_alloc w4 (.cells #[.int .i64 z] 3) (Value.ownBlock v3)) hgr5 (fun x e => .inl e)
                   rw [HQ4.out] at h45
                   have R5 : Rnd w5 g (q2 + 1) := rnd_far S2.out.rnd HB4.out h45 (fun e => by have := hlo g e; omega) G5
                   clear h45
                   have S5 := Lib.hid (S2.out.draw G5 R5)
                   have hcl : w5.cell? ⟨r, i * 6 + 5, none⟩ = some (fldV (L i) 5) := S5.out.cell (k := 5) hi (by decide)
                   have hfz := S5.out.froz hn1 (i * 6 + 5)
                   obtain ⟨L', h6⟩ := S5.out.setS hi (m := rn + 1) (c' := c5) (by omega) hc5 hnl5 (fun k hk => by by_cases e : k = rn; (simp only [e, if_true]; omega); (rw [if_neg e]; exact HZ.out k (by omega))) hir5 (fun a e => ⟨(hf5 a e).2, by have := (hf5 a e).1; omega, by have := (hf5 a e).1; omega⟩)
                   have S6 := Lib.hid h6
                   clear h6 hir5 hf5 hown5 hgr5 hlo G5 R5 S5)
      go_wp2_with fail
      go_ret
      exact ⟨_, _, rfl, S6.out, by omega, by omega⟩
  have e4 : (x == 4) = false := by simp; exact h4
  clear h4
  by_cases h5 : x = 5
  · subst h5
    have hld := S2.out.cell (k := 5) hi (by decide)
    simp only [fldV] at hld
    have X := S2.out.ol.ln i hi
    have hns := (HO.out.pp i hi).2.2
    have hrl := S2.out.ol.lt r rfl
    have hBr := S2.out.ol.ge r rfl
    obtain ⟨rs, hrs⟩ : ∃ x, (L i).s = x := ⟨_, rfl⟩
    obtain ⟨rn, hrn⟩ : ∃ x, (L i).n = x := ⟨_, rfl⟩
    obtain ⟨rc, hrc⟩ : ∃ x, (L i).c = x := ⟨_, rfl⟩
    obtain ⟨rz, hrz⟩ : ∃ x, (L i).z = x := ⟨_, rfl⟩
    have HI : Hid (IR w2 rs rn rz) := by rw [← hrs, ← hrn, ← hrz]; exact X.ir
    have HZ : Hid (∀ k, k < rn → -9223372036854775808 ≤ rz k ∧ rz k ≤ 9223372036854775807) := by rw [← hrn, ← hrz]; exact X.z
    have hnl : rs = none → rc = 0 := by rw [← hrs, ← hrc]; exact X.nil
    have hcp : rn ≤ rc := by rw [← hrn, ← hrc]; exact X.cap
    rw [hrs, hrn, hrc] at hld
    rw [hrn] at hns
    obtain ⟨i0_, hi0, hz0, hz1, hz2⟩ := info_parts infoI
    have J0 := Lib.hid hi0
    have J1 := Lib.hid hz0
    have J2 := Lib.hid hz1
    have J3 := Lib.hid hz2
    have M0 : (w2.alloc (.cells #[] 3)).ownsRow w2.heap.size 3 1 (.slice (some ⟨w2.heap.size, 0, none⟩) 0 0) 0 [] := World.ownsRow_made w2 #[] 0 (Nat.le_refl _) (by simp [maxLen]) rfl
    have HM := Lib.hid M0
    clear X hrs hrn hrc hrz hi0 hz0 hz1 hz2 M0
    by_cases hr0 : rn = 0
    · have hd0 : decide ((0 : Int) < (rn : Int)) = false := decide_eq_false (by omega)
      have hd1 : ¬ ((0 : Int) < (rn : Int)) := by omega
      go_wp2_with fail
      go_ret
      exact ⟨_, _, rfl, S2.out, by omega, by omega⟩
    · have hpos : (0 : Int) < (rn : Int) := by omega
      have hd0 : decide ((0 : Int) < (rn : Int)) = true := decide_eq_true hpos
      obtain ⟨ad, rfl⟩ : ∃ ad, rs = some ad := by
        rcases HI.out with h | ⟨b, off, h, _⟩
        · omega
        · exact ⟨_, h⟩
      have HN := Lib.hid (ir_news (HI.out.call ((Below.refl _ w2).alloc (Nat.le_refl _) (.cells #[] 3))))
      go_wp2_with (at_builtin
                   refine wpList_append_own_at _ rfl (.tmp 86) (.tmp 91) 26 rfl w2.heap.size 3 i0_ _ 1 8 Tryz.underlying26 J0.out J1.out J2.out J3.out rfl (by decide) _ 0 [] rfl HM.out ad rn rc (zsL rn rz) rfl (by rw [zsL_len, Nat.mul_one]) HN.out (zsL_one _ _) (by simp only [maxLen]; omega) (by omega) (by simp) ?_
                   intro v3 w3 hown3 hgr3 _ _
                   rw [Nat.zero_add, List.nil_append] at hown3
                   have HB3 := Lib.hid (below_app hgr3)
                   have HW3 := Lib.hid hown3
                   obtain ⟨b3, c3, cur, rfl, hb3, hg3, hc3, hm3, hs3, ht3⟩ := hown3.2.resolve_left (fun h => by have := h.2; omega)
                   have HG3 := Lib.hid hg3
                   clear hown3 hgr3 hg3 hs3 ht3)
      have hz3 := HB3.out.size
      have HK3 : Hid (Blk w3 b3 3 cur) := HG3
      have hb3l : b3 < w3.heap.size := Blk.lt HK3.out
      have R3 := Lib.hid ((S2.out.rnd.below HB3.out).alloc (.cells #[.int .i64 (-1), .int .i64 0, .int .i64 (i : Int), .int .i64 ((i : Int) + 1), .int .i64 9223372036854775807] 3))
      have KB : Blk (w3.alloc (.cells #[.int .i64 (-1), .int .i64 0, .int .i64 (i : Int), .int .i64 ((i : Int) + 1), .int .i64 9223372036854775807] 3)) w3.heap.size 3 (([-1, 0, (i : Int), (i : Int) + 1, 9223372036854775807].map (Value.int .i64)).toArray) := by have := Blk.new w3 3 #[.int .i64 (-1), .int .i64 0, .int .i64 (i : Int), .int .i64 ((i : Int) + 1), .int .i64 9223372036854775807]; simpa using this
      have KH := Lib.hid KB
      clear KB
      go_wp2_with fail
      refine (numX_any g q2 w3.heap.size [-1, 0, (i : Int), (i : Int) + 1, 9223372036854775807] (w3.alloc (.cells #[.int .i64 (-1), .int .i64 0, .int .i64 (i : Int), .int .i64 ((i : Int) + 1), .int .i64 9223372036854775807] 3)) (by omega) R3.out (by simp) (by simp) (by omega) KH.out).mono ?_
      rintro e w4 ⟨z, hz, rfl, m, hw4⟩
      have hzb : -9223372036854775808 ≤ z ∧ z ≤ 9223372036854775807 := by
        simp only [List.mem_cons, List.not_mem_nil, or_false] at hz
        rcases hz with rfl | rfl | rfl | rfl | rfl <;> omega
      have HB4 : Hid (Below w2.heap.size w2 (w3.alloc (.cells #[.int .i64 (-1), .int .i64 0, .int .i64 (i : Int), .int .i64 ((i : Int) + 1), .int .i64 9223372036854775807] 3))) := HB3.out.alloc hz3 _
      have G4 : Hid (w2.grownBy w4 (some g)) := by rw [hw4]; exact grown_num HB4.out m _
      have HW4 : Hid (w4.ownsRow w2.heap.size 3 1 (.slice (some ⟨b3, 0, none⟩) rn c3) rn (zsL rn rz)) := by rw [hw4]; exact own_far HW3.out (grown_num ((Below.refl _ w3).alloc (Nat.le_refl _) _) m _) hgl
      have HG4 : Hid (Blk w4 b3 3 cur) := by rw [hw4]; exact ((Blk.below HK3.out ((Below.refl _ w3).alloc (Nat.le_refl _) _) hb3l).drewN m).far (p := ⟨g, 1, none⟩) (by show b3 ≠ g; omega) _
      obtain ⟨s9, c9, e9, hc9, hcm9, hir9, _, _⟩ := own_ir HW4.out
      cases e9
      have hx0 : w4.cell? ⟨b3, 0, none⟩ = some (.int .i64 (rz 0)) := by
        rcases hir9 with h | ⟨b', off', e', _, hc'⟩
        · omega
        · cases e'; simpa using hc' 0 (by omega)
      have hxf : w4.frozen? ⟨b3, 0, none⟩ = false := Blk.frozen HG4.out 0
      have h45 := grownBy_setCell w4 ⟨b3, 0, none⟩ (.int .i64 z)
      have G5 : w2.grownBy (w4.setCell ⟨b3, 0, none⟩ (.int .i64 z)) (some g) := grown_step G4.out h45 (fun x e => .inr (by cases e; exact hb3))
      have hir5 := ir_put HG4.out hir9 z
      have R5 : Rnd (w4.setCell ⟨b3, 0, none⟩ (.int .i64 z)) g (q2 + 1) := by
        have h := h45
        refine rnd_far (m := m) (r := some b3) S2.out.rnd HB4.out ?_ (fun e => by cases e; omega) G5
        rw [← hw4]; exact h
      have S4 := Lib.hid (S2.out.draw G4.out (by rw [hw4]; exact rnd_num S2.out.rnd HB4.out m))
      have S5 := Lib.hid (S2.out.draw G5 R5)
      have hne1 : b3 ≠ r := by omega
      have hne2 : r ≠ b3 := by omega
      have hcl4 : w4.cell? ⟨r, i * 6 + 5, none⟩ = some (fldV (L i) 5) := S4.out.cell (k := 5) hi (by decide)
      have hfz4 := S4.out.froz hn1 (i * 6 + 5)
      have hcl : (w4.setCell ⟨b3, 0, none⟩ (.int .i64 z)).cell? ⟨r, i * 6 + 5, none⟩ = some (fldV (L i) 5) := S5.out.cell (k := 5) hi (by decide)
      have hfz := S5.out.froz hn1 (i * 6 + 5)
      obtain ⟨L', h6⟩ := S5.out.setS hi (s := some ⟨b3, 0, none⟩) (m := rn) (c' := c3) (by omega) hc3 (fun h => by cases h) (fun k hk => by by_cases e : k = 0; (simp only [e, if_true]; exact hzb); (rw [if_neg e]; exact HZ.out k hk)) hir5 (fun a e => by cases e; exact ⟨by have := Blk.lt HG4.out; simp [World.setCell]; exact this, hne1, by show B ≤ b3; omega⟩)
      have S6 := Lib.hid h6
      clear hw4 HG3 HK3 h6 hir5 hir9 G5 R5 h45 hz S5 S4 KH R3
      go_wp2_with fail
      go_ret
      exact ⟨_, _, rfl, S6.out, by omega, by omega⟩
  have e5 : (x == 5) = false := by simp; exact h5
  clear h5
  go_wp2_with fail
  go_ret
  exact ⟨_, _, rfl, S2.out, by omega, by omega⟩
end Go.Proofs.YtndlhdmpfnadcaaGreatDoor

/- Drawn derivations and lines, as the laws draw them. -/
namespace Go.Proofs.YtndlhdmpfnadcaaGreatDoor
open Go.RowKit
open Pl
set_option linter.unusedVariables false

/-- any list drawn -/
def DrvPost (w : World) (lo : Nat) (e : Ending) (w' : World) : Prop :=
  ∃ s n c L, e = .returned (.slice s n c) ∧ OL w.heap.size w' (.slice s n c) n L ∧ AvB w.heap.size n L ∧ lo ≤ n ∧ n ≤ 1100 ∧ Below w.heap.size w w'
theorem obase' {B B' : Nat} {W : World} {v : Value} {n : Nat} {L : Nat → LnD} (h : OL B W v n L) (hb : B' ≤ B) : OL B' W v n L := ⟨base_le h.own hb, h.ln⟩
theorem AvB.base {B B' n : Nat} {L : Nat → LnD} (h : AvB B n L) (hb : B' ≤ B) : AvB B' n L := fun i hi a e => Nat.le_trans hb (h i hi a e)
theorem AvB.snoc {B n : Nat} {L : Nat → LnD} (h : AvB B n L) (h1 : 0 < n) : AvB B (n + 1) (updL L n (L 0)) := fun i hi a e => by
  by_cases hin : i = n
  · subst hin; rw [show updL L i (L 0) i = L 0 from if_pos rfl] at e; exact h 0 h1 a e
  · rw [show updL L n (L 0) i = L i from if_neg hin] at e; exact h i (by omega) a e
/-- the first line once more -/
theorem OL.again {B : Nat} {w w3 : World} {v v' : Value} {n : Nat} {L : Nat → LnD} (hO : OL B w v n L) (h1 : 0 < n) (o : Obj)
    (hown : w3.ownsRow B 28 6 v' (n + 1) (lvL n L ++ newL (L 0))) (hg : (w.alloc o).grownBy w3 v.ownBlock) (hat : v'.ownBlock = v.ownBlock ∨ v'.ownBlock = some (w.alloc o).heap.size) : OL B w3 v' (n + 1) (updL L n (L 0)) ∧ GL w v w3 v' :=
  put_mk hO ((Below.refl _ w).alloc (Nat.le_refl _) o) ((hO.call ((Below.refl _ w).alloc (Nat.le_refl _) o)).ln 0 h1) hown hg hat
theorem OL.cell0 {B : Nat} {w : World} {r n c : Nat} {L : Nat → LnD} (h : OL B w (.slice (some ⟨r, 0, none⟩) n c) n L) {k : Nat} (hn : 0 < n) (hk : k < 6) : w.cell? ⟨r, k, none⟩ = some (fldV (L 0) k) := by
  obtain ⟨s, c', e, _, _, hx⟩ := h.form
  obtain ⟨g, rfl, _, _, hc⟩ := hx hn
  cases e
  simpa using hc 0 k hn hk
theorem seven_small {s : ByteArray} (h : s ∈ ([⟨#[114, 117, 110]⟩, ⟨#[115, 101, 116]⟩, ⟨#[119, 101, 97, 107]⟩, ⟨#[115, 101, 113]⟩, ⟨#[105, 102]⟩, ⟨#[119, 104, 105, 108, 101]⟩, ⟨#[]⟩] : List ByteArray)) : s.size ≤ 5 := by
  simp only [List.mem_cons, List.not_mem_nil, or_false] at h
  rcases h with rfl | rfl | rfl | rfl | rfl | rfl | rfl <;> decide
set_option maxRecDepth 100000 in
set_option maxHeartbeats 16000000 in
theorem DrawDerivationHolds_any (A : Option Addr) (n cap : Nat) (w : World) (hn : n ≤ 4000000000000) (hc : n ≤ cap) (h : Bytes w A n w.heap.size) :
    Calls Tryz.prog 7 #[.slice A n cap] w (DrvPost w 1) := by
  have O := Lib.hid (open_ex A n cap w hn hc h)
  clear h
  go_enter Tryz.func7, Tryz.ntmps7
  go_wp2_with fail
  refine O.out.mono ?_
  rintro e w0 ⟨g, hg0, rfl, hr0, hb0⟩
  have hglt := hr0.lt
  have R0 := Lib.hid hr0
  have G0 : Hid (w.grownBy w0 (some g)) := Lib.hid (grown_of_below hb0 _)
  have hsz : w.heap.size ≤ w0.heap.size := hb0.size
  clear hr0 hb0 O
  go_wp2_with fail
  refine (l9Some_any g 0 w0 (by omega) R0.out).mono ?_
  rintro e w1 ⟨v, m, L, rfl, hob, m1, m2, hav, hg1, q1, qa1, qb1, hr1⟩
  obtain ⟨s, c, rfl, hmc, hcm, hx⟩ := hob.ol.form
  obtain ⟨r, rfl, hrb, hrl, _⟩ := hx (by omega)
  have OB1 := Lib.hid hob
  have R1 := Lib.hid hr1
  have G1 := Lib.hid (grown_trans G0.out hg1)
  have AV := Lib.hid hav
  clear hob hr1 hg1 hav hx
  go_wp2_with fail
  refine (pick_any g q1 2 w1 (by omega) (by omega) R1.out).mono ?_
  rintro e w2 ⟨x, ⟨va2, vb2, _⟩, rfl, hg2, q2, qa2, qb2, hr2⟩
  have vc2 := vb2 (by omega)
  have OB2 := Lib.hid (OB1.out.other hg2 (fun g' e => by cases e; exact av_of OB1.out.ol AV.out hglt))
  have R2 := Lib.hid hr2
  have G2 := Lib.hid (grown_trans G1.out hg2)
  clear hr2 hg2 vb2 OB1 R1 G1
  by_cases h0 : x = 0
  · subst h0
    go_wp2_with fail
    refine (l9Bad_any w0.heap.size g r m c q2 L w2 m1 m2 OB2.out hmc AV.out hglt (by omega) R2.out).mono ?_
    rintro e w3 ⟨L', q3, rfl, hB, qa3, qb3⟩
    have HB := Lib.hid hB
    clear hB
    go_wp2_with fail
    go_ret
    exact ⟨_, _, _, _, rfl, obase' HB.out.ol hsz, HB.out.ot.base hsz, m1, m2, below_src (HB.out.fr w hsz G2.out) hg0⟩
  have e0 : (x == 0) = false := by simp; exact h0
  clear h0
  go_wp2_with fail
  refine (pick_any g q2 40 w2 (by omega) (by omega) R2.out).mono ?_
  rintro e w3 ⟨y, ⟨va3, vb3, _⟩, rfl, hg3, q3, qa3, qb3, hr3⟩
  have vc3 := vb3 (by omega)
  have OB3 := Lib.hid (OB2.out.other hg3 (fun g' e => by cases e; exact av_of OB2.out.ol AV.out hglt))
  have R3 := Lib.hid hr3
  have G3 := Lib.hid (grown_trans G2.out hg3)
  clear hr3 hg3 vb3 OB2 R2 G2
  have BB := Lib.hid (below_src G3.out hg0)
  have O3 := Lib.hid (obase' OB3.out.ol hsz)
  have A3 := Lib.hid (AV.out.base hsz)
  clear OB3 AV R3 G3
  by_cases h0 : y = 0
  · subst h0
    obtain ⟨i1, hi1, hy0, hy1, hy2⟩ := info_parts infoL
    have K0 := Lib.hid hi1
    have K1 := Lib.hid hy0
    have K2 := Lib.hid hy1
    have K3 := Lib.hid hy2
    clear hi1 hy0 hy1 hy2
    go_wp2_with fail
    go_loopg [4] (2000 - m) (fun gk sv wr => ∃ (r m c : Nat) (L : Nat → LnD), m + gk = 2000 ∧ 1 ≤ m ∧ m ≤ 1100 ∧ sv = .slice (some ⟨r, 0, none⟩) m c ∧ m ≤ c ∧ c ≤ 9223372036854775807 ∧ Hid (OL w.heap.size wr (.slice (some ⟨r, 0, none⟩) m c) m L) ∧ Hid (AvB w.heap.size m L) ∧ Hid (Below w.heap.size w wr))
    case atStart => exact ⟨r, m, c, L, by omega, m1, m2, rfl, hmc, hcm, O3, A3, BB⟩
    case round =>
      clear O3 A3 BB
      obtain ⟨r2, m', c', L', ha, ha1, ha2, rfl, hmc2, hcm2, OA, AA, BA⟩ := hrel
      by_cases hlt : m' < 61
      · have hxa : (m' : Int) < 61 := by omega
        have hda : decide ((m' : Int) < 61) = true := decide_eq_true hxa
        have x0 := OA.out.cell0 (k := 0) ha1 (by decide)
        have x1 := OA.out.cell0 (k := 1) ha1 (by decide)
        have x2 := OA.out.cell0 (k := 2) ha1 (by decide)
        have x3 := OA.out.cell0 (k := 3) ha1 (by decide)
        have x4 := OA.out.cell0 (k := 4) ha1 (by decide)
        have x5 := OA.out.cell0 (k := 5) ha1 (by decide)
        simp only [fldV] at x0 x1 x2 x3 x4 x5
        have l0 : (0 : Int) < (m' : Int) := by omega
        have hsw := BA.out.size
        go_wp2_with (at_builtin
                     refine wpList_append_own_at _ rfl (.tmp 21) (.tmp 25) 23 rfl w.heap.size 28 i1 _ 6 104 Tryz.underlying23 K0.out K1.out K2.out K3.out rfl (by decide) (.slice (some ⟨r2, 0, none⟩) m' c') m' (lvL m' L') rfl (OA.out.own1 _) ⟨wr.heap.size, 0, none⟩ 1 1 (newL (L' 0)) rfl rfl (news_l wr (L' 0) _) (newL_one _) (by simp only [maxLen]; omega) (by omega) (Nat.le_trans hsw (by simp)) ?_
                     intro v' w9 hown' hgr' _ hat'
                     obtain ⟨hol, hgl⟩ := OA.out.again ha1 _ hown' hgr' hat'
                     obtain ⟨s', c9, rfl, hmc9, hcm9, hx9⟩ := hol.form
                     obtain ⟨r9, rfl, _, _, _⟩ := hx9 (by omega)
                     have O9 := Lib.hid hol
                     have A9 := Lib.hid (AA.out.snoc ha1)
                     have B9 := Lib.hid (BA.out.trans (hgl.below hsw OA.out.ge))
                     clear hol hgl hown' hgr' hat' hx9 OA BA AA x0 x1 x2 x3 x4 x5)
        go_roundg (gk - 1)
        case measure => omega
        case rel => exact ⟨r9, m' + 1, c9, _, by omega, by omega, by omega, by go_num, hmc9, hcm9, O9, A9, B9⟩
      · have hxa : ¬ ((m' : Int) < 61) := by omega
        have hda : decide ((m' : Int) < 61) = false := decide_eq_false hxa
        go_wp2_with fail
        go_ret
        exact ⟨_, _, _, _, rfl, OA.out, AA.out, ha1, ha2, BA.out⟩
  have e1 : (y == 0) = false := by simp; exact h0
  clear h0
  go_wp2_with fail
  go_ret
  exact ⟨_, _, _, _, rfl, O3.out, A3.out, m1, m2, BB.out⟩
set_option maxRecDepth 100000 in
set_option maxHeartbeats 8000000 in
theorem DrawFormatDerivation_any (A : Option Addr) (n cap : Nat) (w : World) (hn : n ≤ 4000000000000) (hc : n ≤ cap) (h : Bytes w A n w.heap.size) :
    Calls Tryz.prog 4 #[.slice A n cap] w (DrvPost w 0) := by
  have DD := Lib.hid (DrawDerivationHolds_any A n cap w hn hc h)
  clear h
  by_cases h0 : n % 16 = 0
  · have e0 : (((n : Int) % 16) == 0) = true := by simp; omega
    have e1 : (((n : Int).tmod 16) == 0) = true := by rw [Int.tmod_eq_emod_of_nonneg (by omega)]; exact e0
    clear h0
    go_enter Tryz.func4, Tryz.ntmps4
    go_wp2_with fail
    go_ret
    exact ⟨_, _, _, (fun _ => zeroD), rfl, OL.made _ w _ (Nat.le_refl _), fun i hi => absurd hi (by omega), Nat.le_refl _, by omega, (Below.refl _ w).alloc (Nat.le_refl _) _⟩
  · have e0 : (((n : Int) % 16) == 0) = false := by simp; omega
    have e1 : (((n : Int).tmod 16) == 0) = false := by rw [Int.tmod_eq_emod_of_nonneg (by omega)]; exact e0
    clear h0
    go_enter Tryz.func4, Tryz.ntmps4
    go_wp2_with fail
    refine DD.out.mono ?_
    rintro e w1 ⟨s, m, c, L, rfl, hol, hav, m1, m2, hb1⟩
    have O1 := Lib.hid hol
    have A1 := Lib.hid hav
    have B1 := Lib.hid hb1
    clear hol hav hb1
    go_wp2_with fail
    go_ret
    exact ⟨_, _, _, _, rfl, O1.out, A1.out, by omega, m2, B1.out⟩
end Go.Proofs.YtndlhdmpfnadcaaGreatDoor
