/- Lines as arguments: what an argument of the law's type Line holds. -/
import Derived.Test.YtndlhdmpfnadcaaDoorLr
import Derived.Test.YtndlhdmpfnadcaaDoorGc
import Derived.Deep.Fields
import Derived.Deep.Slices
import Derived.ChangeSame
namespace Go.Proofs.YtndlhdmpfnadcaaDoor
open Go.ChangeShapes Go.WideShapes Go.ChangeAt Go.RowKit Go.Deep
open Pl
set_option linter.unusedVariables false

/-- a struct by value: each field by itself -/
theorem struct_fields {H : Type} {enc : TypeId × Value → H} {P : Program} {w : World} {base b0 : Nat} {spare : Nat → Bool} {held : Bool} {r : Reach} {t : TypeId} {fs : Array Field} {v : Value} {d : DataW H} {p : List MemPlace}
    (hs : P.underlying t = some (.struct fs)) (hone : oneCellFields P fs = true) (hC : P.cellsOf t = fs.size) (hv : Value.okWide P w r b0 t v) (h : DataW.Trod enc P w base spare held t v d p) :
    ∃ (l : List Value) (n : Nat), v = .agg l.toArray ∧ l.length = fs.size ∧ ∀ (j : Nat) (f : Field), fs[j]? = some f → ∃ c y, l[j]? = some c ∧ DataW.trod enc P w base spare held n f.type [c] = some y := by
  obtain ⟨cs, rfl, hsz⟩ := okWide_struct hs hv
  obtain ⟨l⟩ := cs
  obtain ⟨fuel, hf⟩ := h
  obtain ⟨xs, n, _, _, _, hlen, hg⟩ := DataW.trod_struct hs hf
  have hll : l.length = fs.size := hsz.trans hC
  refine ⟨l, n, rfl, hll, fun j f hj => ?_⟩
  obtain ⟨ho, hk⟩ := hone_of hone j f hj
  have hjl : j < fs.size := (Array.getElem?_eq_some_iff.1 hj).1
  have h1 := hg j f hj
  rw [ho, hk] at h1
  have h2 : ((Value.agg ⟨l⟩).cells.toList.drop j).take 1 = [l[j]'(by omega)] := by
    show (l.drop j).take 1 = _
    rw [List.drop_eq_getElem_cons (by omega)]
    rfl
  rw [h2] at h1
  exact ⟨l[j]'(by omega), xs[j]'(by omega), List.getElem?_eq_getElem (by omega), h1.trans (List.getElem?_eq_getElem (by omega))⟩
theorem row_ir {w : World} {a : Option Addr} {len cap : Nat} {zs : List Int} (h : IsRow .i64 w a len cap zs) : len ≤ cap ∧ cap ≤ 9223372036854775807 ∧ IR w a len (fun i => zs.getD i 0) := by
  rcases h with ⟨rfl, rfl, rfl, rfl⟩ | ⟨x, rfl, hl, hm, hz, hcell, hwz⟩
  · exact ⟨Nat.le_refl _, by omega, .inl rfl⟩
  · unfold maxLen at hm
    refine ⟨hl, by omega, ?_⟩
    by_cases h0 : len = 0
    · exact .inl h0
    · obtain ⟨b, off, spot⟩ := x
      have hc := hcell 0 (by omega)
      have hspot : spot = none := by simpa [Addr.add] using World.cell?_spot hc
      subst hspot
      have hadd : ∀ i, (⟨b, off, none⟩ : Addr).add i = ⟨b, off + i, none⟩ := by intro i; unfold Addr.add; split <;> simp_all
      have hlt := World.block_lt_of_cell? w _ hc
      rw [hadd] at hlt
      refine .inr ⟨b, off, rfl, hlt, fun i hi => ?_⟩
      have hci := hcell i (by omega)
      rw [hadd] at hci
      exact hci
set_option maxRecDepth 100000 in
theorem line_open {H : Type} {enc : TypeId × Value → H} {W : World} {b0 : Nat} {r : Reach} {v : Value} {d : DataW H} {p : List MemPlace} (hv : Value.okWide Tryd.prog W r b0 35 v) (h : DataW.Trod enc Tryd.prog W 0 (fun _ => true) true 35 v d p) :
    ∃ (R A P Q B : ByteArray) (s : Option Addr) (n c : Nat) (zs : List Int), v = .agg #[.string R, .string A, .string P, .string Q, .string B, .slice s n c] ∧
      (R.size ≤ 9223372036854775807 ∧ A.size ≤ 9223372036854775807 ∧ P.size ≤ 9223372036854775807 ∧ Q.size ≤ 9223372036854775807 ∧ B.size ≤ 9223372036854775807) ∧ n ≤ c ∧ c ≤ 9223372036854775807 ∧ IR W s n (fun i => zs.getD i 0) := by
  obtain ⟨l, m, rfl, hl, hf⟩ := struct_fields Tryd.underlying35 (by kernel_rfl) (by kernel_rfl) hv h
  obtain ⟨c0, y0, e0, t0⟩ := hf 0 _ rfl
  obtain ⟨c1, y1, e1, t1⟩ := hf 1 _ rfl
  obtain ⟨c2, y2, e2, t2⟩ := hf 2 _ rfl
  obtain ⟨c3, y3, e3, t3⟩ := hf 3 _ rfl
  obtain ⟨c4, y4, e4, t4⟩ := hf 4 _ rfl
  obtain ⟨c5, y5, e5, t5⟩ := hf 5 _ rfl
  obtain ⟨R, hR, _, zR⟩ := DataW.trod_string Tryd.underlying9 t0
  obtain ⟨A, hA, _, zA⟩ := DataW.trod_string Tryd.underlying9 t1
  obtain ⟨P, hP, _, zP⟩ := DataW.trod_string Tryd.underlying9 t2
  obtain ⟨Q, hQ, _, zQ⟩ := DataW.trod_string Tryd.underlying9 t3
  obtain ⟨B, hB, _, zB⟩ := DataW.trod_string Tryd.underlying9 t4
  unfold maxLen at zR zA zP zQ zB
  obtain ⟨s, n, c, zs, h5, hrow⟩ : ∃ (s : Option Addr) (n c : Nat) (zs : List Int), c5 = .slice s n c ∧ IsRow .i64 W s n c zs := by
    rcases open_ints Tryd.underlying33 Tryd.underlying3 (by kernel_rfl) t5 with ⟨hcs, _⟩ | ⟨x, k, c, zs, hcs, _, hl, hm, hz, _, hcell, hwz⟩
    · exact ⟨none, 0, 0, [], (List.cons.inj hcs).1, .inl ⟨rfl, rfl, rfl, rfl⟩⟩
    · exact ⟨some x, k, c, zs, (List.cons.inj hcs).1, .inr ⟨x, rfl, hl, hm, by simpa using hz, hcell, hwz⟩⟩
  obtain ⟨g1, g2, g3⟩ := row_ir hrow
  refine ⟨R, A, P, Q, B, s, n, c, zs, ?_, ⟨zR, zA, zP, zQ, zB⟩, g1, g2, g3⟩
  have hl6 : l.length = 6 := hl
  match l, hl6 with
  | [a0, a1, a2, a3, a4, a5], _ =>
    simp only [List.getElem?_cons_zero, List.getElem?_cons_succ, Option.some.injEq] at e0 e1 e2 e3 e4 e5
    rw [e0, e1, e2, e3, e4, e5, (List.cons.inj hR).1, (List.cons.inj hA).1, (List.cons.inj hP).1, (List.cons.inj hQ).1, (List.cons.inj hB).1, h5]
end Go.Proofs.YtndlhdmpfnadcaaDoor
