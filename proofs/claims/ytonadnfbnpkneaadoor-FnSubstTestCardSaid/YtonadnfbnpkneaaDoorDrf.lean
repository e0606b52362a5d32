/- Drawn states and letters. -/
import Derived.Test.YtonadnfbnpkneaaDoorDre
import Derived.Test.YtonadnfbnpkneaaDoorEvd
namespace Go.Proofs.YtonadnfbnpkneaaDoor
open Go.RowKit
open Pl

theorem grown_put {a b : World} {g r : Nat} (h : a.grownBy b (some g)) (hr : a.heap.size ≤ r) (i : Nat) (v : Value) : a.grownBy (b.setCell ⟨r, i, none⟩ v) (some g) :=
  grown_step h (grownBy_setCell b ⟨r, i, none⟩ v) (fun x e => .inr (by injection e with e; subst e; exact hr))
def Ints (cs : Array Value) : Prop := ∀ (i : Nat) (v : Value), cs[i]? = some v → ∃ n, v = .int .i64 n
theorem ints3 (a b c : Int) : Ints #[.int .i64 a, .int .i64 b, .int .i64 c] := by
  intro i v h
  rcases i with _ | _ | _ | i
  · exact ⟨a, by simpa using h.symm⟩
  · exact ⟨b, by simpa using h.symm⟩
  · exact ⟨c, by simpa using h.symm⟩
  · simp at h
/-- a write to a block of numbers does not touch the source -/
theorem Rnd.put {w : World} {g p r : Nat} {t : TypeId} {cs : Array Value} (h : Rnd w g p) (hk : Blk w r t cs) (hi : Ints cs) (hne : g ≠ r) (i : Nat) (v : Value) : Rnd (w.setCell ⟨r, i, none⟩ v) g p := by
  obtain ⟨A, n, cap, hb, hn, hy⟩ := h
  refine ⟨A, n, cap, hb.far (p := ⟨r, i, none⟩) hne v, hn, ?_⟩
  by_cases hn0 : n = 0
  · exact .inl hn0
  rcases hy with hy | ⟨b, off, hA, hbg, hlt, hc⟩
  · exact .inl hy
  · have hbr : b ≠ r := by
      rintro rfl
      obtain ⟨u, _, hu⟩ := hc 0 (by omega)
      rw [hk.cell] at hu
      obtain ⟨m, hm⟩ := hi _ _ hu
      cases hm
    refine .inr ⟨b, off, hA, hbg, ?_, fun j hj => ?_⟩
    · have := (grownBy_setCell w ⟨r, i, none⟩ v).size
      omega
    · obtain ⟨u, hu, hcu⟩ := hc j hj
      exact ⟨u, hu, (World.cell?_of_block (a := ⟨b, off + j, none⟩) (Below.heap_setCell w ⟨r, i, none⟩ v b hbr)).trans hcu⟩

/-- three numbers written into a block of three -/
theorem put3 {w w1 : World} {g q r : Nat} {t : TypeId} {x y z : Int} (G : w.grownBy w1 (some g)) (R : Rnd w1 g q) (hk : Blk w1 r t #[.int .i64 x, .int .i64 y, .int .i64 z]) (hr : w.heap.size ≤ r) (hne : g ≠ r) (a b c : Int) :
    ∃ w2, ((w1.setCell ⟨r, 0, none⟩ (.int .i64 a)).setCell ⟨r, 1, none⟩ (.int .i64 b)).setCell ⟨r, 2, none⟩ (.int .i64 c) = w2 ∧ w.grownBy w2 (some g) ∧ Rnd w2 g q ∧
      w2.cell? ⟨r, 0, none⟩ = some (.int .i64 a) ∧ w2.cell? ⟨r, 1, none⟩ = some (.int .i64 b) ∧ w2.cell? ⟨r, 2, none⟩ = some (.int .i64 c) := by
  have ka := hk.set_ 0 (.int .i64 a)
  have kb := ka.set_ 1 (.int .i64 b)
  have kc := kb.set_ 2 (.int .i64 c)
  have ra := R.put hk (ints3 _ _ _) hne 0 (.int .i64 a)
  have rb := ra.put ka (by simpa using ints3 _ _ _) hne 1 (.int .i64 b)
  have rc := rb.put kb (by simpa using ints3 _ _ _) hne 2 (.int .i64 c)
  refine ⟨_, rfl, grown_put (grown_put (grown_put G hr 0 (.int .i64 a)) hr 1 (.int .i64 b)) hr 2 (.int .i64 c), rc, ?_, ?_, ?_⟩
  · rw [kc.cell]; simp
  · rw [kc.cell]; simp
  · rw [kc.cell]; simp

/-- a drawn state -/
def SpotPost (w : World) (g p k : Nat) (e : Ending) (w' : World) : Prop :=
  ∃ x y z : Int, e = .returned (.agg #[.int .i64 x, .int .i64 y, .int .i64 z]) ∧ Drew w g p k w'


end Go.Proofs.YtonadnfbnpkneaaDoor
