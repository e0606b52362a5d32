/- What the doors of the laws on variables share: what the program's own variable holds when the call begins, and that it reads the same behind it. -/
import Derived.Test.YtccjmahhebiphaaDoorVa
import Derived.Test.YtccjmahhebiphaaDoorTie
import Derived.Test.YtccjmahhebiphaaDoorGc
import Derived.ChangeVars
import Derived.MakeChecks
namespace Go.Proofs.YtccjmahhebiphaaDoor
open Go.ChangeShapes Go.WideShapes Go.ChangeAt Go.RowKit
open Pl
set_option linter.unusedVariables false

theorem three_of {α : Type} {l : List α} (h : l.length = 3) : ∃ a b c, l = [a, b, c] := by
  match l, h with
  | [a, b, c], _ => exact ⟨a, b, c, rfl⟩
theorem stride_laid {H : Type} {enc : TypeId × Value → H} {W : World} {n : String} {g : Nat} {t : TypeId} {cs : Array Value} {fuel base : Nat} {sp : Nat → Bool} {held : Bool} {p : List MemPlace} (hn : Tryd.prog.globalNamed n = some g) (hg : g = 0) (ht : t = 91) (hvar : W.var? Tryd.prog n = some cs)
    (hd : DataW.trod enc Tryd.prog W base sp held fuel t cs.toList = some (.agg [.lit (.int .i64 1), .lit (.int .i64 3), .lit (.int .i64 9)], p)) : Str W := by
  subst hg ht
  obtain ⟨xs, m, _, hx, hl, hxl, he⟩ := DataW.trod_array (n := 3) (e := 3) Tryd.underlying91 hd
  have h3 : cs.toList.length = 3 := hl.trans (by kernel_rfl)
  obtain ⟨c0, c1, c2, hc⟩ := three_of h3
  obtain ⟨x0, x1, x2, rfl⟩ := three_of hxl
  have hs : Tryd.prog.cellsOf 3 = 1 := by kernel_rfl
  rw [hs, hc] at he
  have h0 := he 0 (by omega)
  have h1 := he 1 (by omega)
  have h2 := he 2 (by omega)
  simp at h0 h1 h2
  obtain ⟨n0, e0, f0, _⟩ := DataW.trod_int Tryd.underlying3 h0
  obtain ⟨n1, e1, f1, _⟩ := DataW.trod_int Tryd.underlying3 h1
  obtain ⟨n2, e2, f2, _⟩ := DataW.trod_int Tryd.underlying3 h2
  subst f0 f1 f2
  simp at hx e0 e1 e2
  obtain ⟨⟨rfl, rfl, rfl⟩, _⟩ := hx
  subst e0 e1 e2
  have hcs : cs = #[.int .i64 1, .int .i64 3, .int .i64 9] := Array.toList_inj.1 hc
  subst hcs
  exact ⟨by simpa using World.var?_cell hn hvar 0, by simpa using World.var?_cell hn hvar 1, by simpa using World.var?_cell hn hvar 2⟩
theorem vars_after {H : Type} {enc : TypeId × Value → H} {W : World} {n : String} {gs : List (DataW H)} {q : List MemPlace} (hl : laidOutB Tryd.prog = true) (h : DataW.TrodVars enc Tryd.prog W (fun _ => true) [n] gs q) (hn : Tryd.prog.globalNamed n = some 0) :
    ∃ d, gs = [d] ∧ ∀ W', Below W.heap.size W W' → DataW.TrodVars enc Tryd.prog W' (fun b => decide (b < W.heap.size)) [n] [d] q := by
  obtain ⟨g, t, cs, fuel, d, p, rfl, h1, h2, h3, h4, rfl⟩ := trodVars_one h
  obtain rfl := Option.some.inj (hn.symm.trans h1)
  have ht : t = 91 := Option.some.inj (h2.symm.trans (by kernel_rfl))
  subst ht
  refine ⟨d, rfl, fun W' bel => ?_⟩
  have hT : DataW.Trod enc Tryd.prog W 0 (fun _ => true) true 91 (.agg cs) d p := ⟨fuel, h4⟩
  obtain ⟨f', h4'⟩ := Below.trod hl (by kernel_rfl) (of_decide_eq_true (by kernel_rfl)) hT bel (fun x hx => DataW.trod_lt fuel _ _ _ h4 x hx)
  refine trodVars_mk1 h1 h2 ?_ h4'
  simp only [World.var?, h1, Option.bind_some] at h3 ⊢
  have hlt : 0 < W.heap.size := by
    apply Decidable.byContradiction
    intro hge
    rw [Array.getElem?_eq_none (by omega)] at h3
    cases h3
  rw [bel.block _ hlt]
  exact h3
end Go.Proofs.YtccjmahhebiphaaDoor
