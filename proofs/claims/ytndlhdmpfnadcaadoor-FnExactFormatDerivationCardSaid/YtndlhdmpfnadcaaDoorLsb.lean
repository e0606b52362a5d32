/- Rows of lines as arguments: one element. -/
import Derived.Test.YtndlhdmpfnadcaaDoorLs
import Derived.Test.YtndlhdmpfnadcaaDoorLu
namespace Go.Proofs.YtndlhdmpfnadcaaDoor
open Go.ChangeShapes Go.WideShapes Go.ChangeAt Go.RowKit Go.Deep
open Pl
set_option linter.unusedVariables false

/-- a line's numbers are machine numbers -/
def smZ (x : LnD) : Prop := ∀ k, k < x.n → -9223372036854775808 ≤ x.z k ∧ x.z k ≤ 9223372036854775807
theorem row_smZ {W : World} {s : Option Addr} {n c : Nat} {zs : List Int} (h : IsRow .i64 W s n c zs) : ∀ k, k < n → -9223372036854775808 ≤ zs.getD k 0 ∧ zs.getD k 0 ≤ 9223372036854775807 := by
  intro k hk
  rcases h with ⟨_, rfl, _, _⟩ | ⟨x, _, hl, _, hz, _, hwz⟩
  · omega
  · have hm := hwz (zs.getD k 0) (by rw [List.getD_eq_getElem?_getD, List.getElem?_eq_getElem (by omega), Option.getD_some]; exact List.getElem_mem _)
    exact bounds_i64 hm
theorem list_fields {H : Type} {enc : TypeId × Value → H} {P : Program} {w : World} {base : Nat} {spare : Nat → Bool} {held : Bool} {t : TypeId} {fs : Array Field} {l : List Value} {fuel : Nat} {x : DataW H × List MemPlace}
    (hs : P.underlying t = some (.struct fs)) (hone : oneCellFields P fs = true) (hll : l.length = fs.size) (hf : DataW.trod enc P w base spare held fuel t l = some x) :
    ∃ n : Nat, ∀ (j : Nat) (f : Field), fs[j]? = some f → ∃ c y, l[j]? = some c ∧ DataW.trod enc P w base spare held n f.type [c] = some y := by
  obtain ⟨xs, n, _, _, _, hlen, hg⟩ := DataW.trod_struct hs hf
  refine ⟨n, fun j f hj => ?_⟩
  obtain ⟨ho, hk⟩ := hone_of hone j f hj
  have hjl : j < fs.size := (Array.getElem?_eq_some_iff.1 hj).1
  have h1 := hg j f hj
  rw [ho, hk] at h1
  have h2 : (l.drop j).take 1 = [l[j]'(by omega)] := by
    rw [List.drop_eq_getElem_cons (by omega)]
    rfl
  rw [h2] at h1
  exact ⟨l[j]'(by omega), xs[j]'(by omega), List.getElem?_eq_getElem (by omega), h1.trans (List.getElem?_eq_getElem (by omega))⟩
set_option maxRecDepth 100000 in
theorem elem_open {H : Type} {enc : TypeId × Value → H} {W : World} {l : List Value} {fuel : Nat} {x : DataW H × List MemPlace} (hl : l.length = 6) (h : DataW.trod enc Tryd.prog W 0 (fun _ => true) true fuel 35 l = some x) :
    ∃ x : LnD, (smD x ∧ smZ x) ∧ l[0]? = some (.string x.R) ∧ l[1]? = some (.string x.A) ∧ l[2]? = some (.string x.P) ∧ l[3]? = some (.string x.Q) ∧ l[4]? = some (.string x.B) ∧ l[5]? = some (.slice x.s x.n x.c) ∧ IR W x.s x.n x.z ∧ x.n ≤ x.c := by
  obtain ⟨m, hf⟩ := list_fields Tryd.underlying35 (by kernel_rfl) hl h
  obtain ⟨c0, y0, e0, t0⟩ := hf 0 _ rfl
  obtain ⟨c1, y1, e1, t1⟩ := hf 1 _ rfl
  obtain ⟨c2, y2, e2, t2⟩ := hf 2 _ rfl
  obtain ⟨c3, y3, e3, t3⟩ := hf 3 _ rfl
  obtain ⟨c4, y4, e4, t4⟩ := hf 4 _ rfl
  obtain ⟨c5, y5, e5, t5⟩ := hf 5 _ rfl
  obtain ⟨R, hR, _, zR⟩ := DataW.trod_string Tryd.underlying9 t0
  obtain ⟨A, hA, _, zA⟩ := DataW.trod_string Tryd.underlying9 t1
  obtain ⟨P, hP, _, zP⟩ := DataW.trod_string Tryd.underlying9 t2
  obtain ⟨Q, hQ, _, zQ⟩ := DataW.trod_string Tryd.underlying9 t3
  obtain ⟨B, hB, _, zB⟩ := DataW.trod_string Tryd.underlying9 t4
  unfold maxLen at zR zA zP zQ zB
  obtain ⟨s, n, c, zs, h5, hrow⟩ : ∃ (s : Option Addr) (n c : Nat) (zs : List Int), c5 = .slice s n c ∧ IsRow .i64 W s n c zs := by
    rcases open_ints Tryd.underlying33 Tryd.underlying3 (by kernel_rfl) t5 with ⟨hcs, _⟩ | ⟨x, k, c, zs, hcs, _, hl, hm, hz, _, hcell, hwz⟩
    · exact ⟨none, 0, 0, [], (List.cons.inj hcs).1, .inl ⟨rfl, rfl, rfl, rfl⟩⟩
    · exact ⟨some x, k, c, zs, (List.cons.inj hcs).1, .inr ⟨x, rfl, hl, hm, by simpa using hz, hcell, hwz⟩⟩
  obtain ⟨g1, g2, g3⟩ := row_ir hrow
  refine ⟨⟨R, A, P, Q, B, s, n, c, fun i => zs.getD i 0⟩, ⟨⟨⟨zR, zA, zP, zQ, zB⟩, by show n ≤ _; omega⟩, fun k hk => row_smZ hrow k hk⟩, ?_, ?_, ?_, ?_, ?_, ?_, g3, g1⟩
  · rw [e0, (List.cons.inj hR).1]
  · rw [e1, (List.cons.inj hA).1]
  · rw [e2, (List.cons.inj hP).1]
  · rw [e3, (List.cons.inj hQ).1]
  · rw [e4, (List.cons.inj hB).1]
  · rw [e5, h5]
set_option maxRecDepth 100000 in
theorem lines_open {H : Type} {enc : TypeId × Value → H} {W : World} {b0 : Nat} {r : Reach} {v : Value} {d : DataW H} {p : List MemPlace} (hv : Value.okWide Tryd.prog W r b0 22 v) (h : DataW.Trod enc Tryd.prog W 0 (fun _ => true) true 22 v d p) :
    ∃ (s : Option Addr) (n c : Nat) (L : Nat → LnD), v = .slice s n c ∧ (∀ i, i < n → smD (L i)) ∧ n ≤ c ∧ c ≤ 9223372036854775807 ∧ LR W s n L ∧ ∀ i, i < n → smZ (L i) := by
  obtain ⟨a0, n0, cap0, rfl⟩ := okWide_slice Tryd.underlying22 hv
  obtain ⟨fuel, hf⟩ := h
  rcases open_slice Tryd.underlying22 hf with ⟨hcs, _⟩ | ⟨x, k, c, m, q, D, Pl, hcs, _, hl, hm, hmm, _, hel⟩
  · simp [Value.cells] at hcs
    obtain ⟨rfl, rfl, rfl⟩ := hcs
    exact ⟨none, 0, 0, fun _ => ⟨⟨#[]⟩, ⟨#[]⟩, ⟨#[]⟩, ⟨#[]⟩, ⟨#[]⟩, none, 0, 0, fun _ => 0⟩, rfl, fun i hi => by omega, Nat.le_refl _, by omega, .inl rfl, fun i hi => by omega⟩
  · simp [Value.cells] at hcs
    obtain ⟨rfl, rfl, rfl⟩ := hcs
    unfold maxLen at hm
    have hc6 : Tryd.prog.cellsOf 35 = 6 := by kernel_rfl
    simp only [if_true] at hmm
    have E : ∀ i, i < n0 → ∃ y : LnD, (smD y ∧ smZ y) ∧ (∀ k, k < 6 → ∃ u, W.cell? ((x.add (i * 6)).add k) = some u ∧ ((k = 0 → u = .string y.R) ∧ (k = 1 → u = .string y.A) ∧ (k = 2 → u = .string y.P) ∧ (k = 3 → u = .string y.Q) ∧ (k = 4 → u = .string y.B) ∧ (k = 5 → u = .slice y.s y.n y.c))) ∧ IR W y.s y.n y.z ∧ y.n ≤ y.c := by
      intro i hi
      obtain ⟨cs', hc, ht⟩ := hel i (by omega)
      rw [hc6] at hc
      obtain ⟨_, hcl, hat⟩ := World.cells?_some hc
      obtain ⟨y, h0, h1, h2, h3, h4, h5, h6, h7, h8⟩ := elem_open hcl ht
      refine ⟨y, h0, fun k hk => ?_, h7, h8⟩
      have hk6 : k = 0 ∨ k = 1 ∨ k = 2 ∨ k = 3 ∨ k = 4 ∨ k = 5 := by omega
      rcases hk6 with rfl | rfl | rfl | rfl | rfl | rfl
      · exact ⟨_, (hat 0 hk).trans h1, by simp⟩
      · exact ⟨_, (hat 1 hk).trans h2, by simp⟩
      · exact ⟨_, (hat 2 hk).trans h3, by simp⟩
      · exact ⟨_, (hat 3 hk).trans h4, by simp⟩
      · exact ⟨_, (hat 4 hk).trans h5, by simp⟩
      · exact ⟨_, (hat 5 hk).trans h6, by simp⟩
    by_cases hz : n0 = 0
    · subst hz
      exact ⟨_, 0, cap0, fun _ => ⟨⟨#[]⟩, ⟨#[]⟩, ⟨#[]⟩, ⟨#[]⟩, ⟨#[]⟩, none, 0, 0, fun _ => 0⟩, rfl, fun i hi => by omega, hl, by omega, .inl rfl, fun i hi => by omega⟩
    obtain ⟨b, off, spot⟩ := x
    obtain ⟨y0, _, hy0, _⟩ := E 0 (by omega)
    obtain ⟨u0, hu0, _⟩ := hy0 0 (by omega)
    have hspot : spot = none := by simpa [Addr.add] using World.cell?_spot hu0
    subst hspot
    have hadd : ∀ o i, (⟨b, o, none⟩ : Addr).add i = ⟨b, o + i, none⟩ := by intro o i; unfold Addr.add; split <;> simp_all
    have hlt := World.block_lt_of_cell? W _ hu0
    rw [hadd, hadd] at hlt
    refine ⟨_, n0, cap0, fun i => if h : i < n0 then Classical.choose (E i h) else y0, rfl, fun i hi => ?_, hl, by omega, .inr ⟨b, off, rfl, hlt, fun i hi => ?_⟩, fun i hi => ?_⟩
    · simp only [dif_pos hi]
      exact (Classical.choose_spec (E i hi)).1.1
    · simp only [dif_pos hi]
      obtain ⟨_, hce, g1, g2⟩ := Classical.choose_spec (E i hi)
      refine ⟨⟨?_, ?_, ?_, ?_, ?_, ?_⟩, g1, g2⟩
      · obtain ⟨u, hu, p0, _⟩ := hce 0 (by omega)
        rw [hadd, hadd, p0 rfl] at hu
        exact hu
      · obtain ⟨u, hu, _, p0, _⟩ := hce 1 (by omega)
        rw [hadd, hadd, p0 rfl] at hu
        exact hu
      · obtain ⟨u, hu, _, _, p0, _⟩ := hce 2 (by omega)
        rw [hadd, hadd, p0 rfl] at hu
        exact hu
      · obtain ⟨u, hu, _, _, _, p0, _⟩ := hce 3 (by omega)
        rw [hadd, hadd, p0 rfl] at hu
        exact hu
      · obtain ⟨u, hu, _, _, _, _, p0, _⟩ := hce 4 (by omega)
        rw [hadd, hadd, p0 rfl] at hu
        exact hu
      · obtain ⟨u, hu, _, _, _, _, _, p0⟩ := hce 5 (by omega)
        rw [hadd, hadd, p0 rfl] at hu
        exact hu
    · simp only [dif_pos hi]
      exact (Classical.choose_spec (E i hi)).1.2
end Go.Proofs.YtndlhdmpfnadcaaDoor
