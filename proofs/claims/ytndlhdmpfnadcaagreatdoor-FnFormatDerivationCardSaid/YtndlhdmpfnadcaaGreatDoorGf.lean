/- XGf: XDrf XDrg put together. -/
import Derived.Test.YtndlhdmpfnadcaaGreatDoorGc
import Derived.Test.YtndlhdmpfnadcaaGreatDoorGe
import Derived.Test.YtndlhdmpfnadcaaGreatDoorGb
import Derived.Deep.RegionHeld3
/- Drawn states and letters. -/
namespace Go.Proofs.YtndlhdmpfnadcaaGreatDoor
open Go.RowKit
open Pl

theorem grown_put {a b : World} {g r : Nat} (h : a.grownBy b (some g)) (hr : a.heap.size ≤ r) (i : Nat) (v : Value) : a.grownBy (b.setCell ⟨r, i, none⟩ v) (some g) :=
  grown_step h (grownBy_setCell b ⟨r, i, none⟩ v) (fun x e => .inr (by injection e with e; subst e; exact hr))
def Ints (cs : Array Value) : Prop := ∀ (i : Nat) (v : Value), cs[i]? = some v → ∃ n, v = .int .i64 n
theorem ints3 (a b c : Int) : Ints #[.int .i64 a, .int .i64 b, .int .i64 c] := by
  intro i v h
  rcases i with _ | _ | _ | i
  · exact ⟨a, by simpa using h.symm⟩
  · exact ⟨b, by simpa using h.symm⟩
  · exact ⟨c, by simpa using h.symm⟩
  · simp at h
/-- a write to a block of numbers does not touch the source -/
theorem Rnd.put {w : World} {g p r : Nat} {t : TypeId} {cs : Array Value} (h : Rnd w g p) (hk : Blk w r t cs) (hi : Ints cs) (hne : g ≠ r) (i : Nat) (v : Value) : Rnd (w.setCell ⟨r, i, none⟩ v) g p := by
  obtain ⟨A, n, cap, hb, hn, hy⟩ := h
  refine ⟨A, n, cap, hb.far (p := ⟨r, i, none⟩) hne v, hn, ?_⟩
  by_cases hn0 : n = 0
  · exact .inl hn0
  rcases hy with hy | ⟨b, off, hA, hbg, hlt, hc⟩
  · exact .inl hy
  · have hbr : b ≠ r := by
      rintro rfl
      obtain ⟨u, _, hu⟩ := hc 0 (by omega)
      rw [hk.cell] at hu
      obtain ⟨m, hm⟩ := hi _ _ hu
      cases hm
    refine .inr ⟨b, off, hA, hbg, ?_, fun j hj => ?_⟩
    · have := (grownBy_setCell w ⟨r, i, none⟩ v).size
      omega
    · obtain ⟨u, hu, hcu⟩ := hc j hj
      exact ⟨u, hu, (World.cell?_of_block (a := ⟨b, off + j, none⟩) (Below.heap_setCell w ⟨r, i, none⟩ v b hbr)).trans hcu⟩

/-- three numbers written into a block of three -/
theorem put3 {w w1 : World} {g q r : Nat} {t : TypeId} {x y z : Int} (G : w.grownBy w1 (some g)) (R : Rnd w1 g q) (hk : Blk w1 r t #[.int .i64 x, .int .i64 y, .int .i64 z]) (hr : w.heap.size ≤ r) (hne : g ≠ r) (a b c : Int) :
    ∃ w2, ((w1.setCell ⟨r, 0, none⟩ (.int .i64 a)).setCell ⟨r, 1, none⟩ (.int .i64 b)).setCell ⟨r, 2, none⟩ (.int .i64 c) = w2 ∧ w.grownBy w2 (some g) ∧ Rnd w2 g q ∧
      w2.cell? ⟨r, 0, none⟩ = some (.int .i64 a) ∧ w2.cell? ⟨r, 1, none⟩ = some (.int .i64 b) ∧ w2.cell? ⟨r, 2, none⟩ = some (.int .i64 c) := by
  have ka := hk.set_ 0 (.int .i64 a)
  have kb := ka.set_ 1 (.int .i64 b)
  have kc := kb.set_ 2 (.int .i64 c)
  have ra := R.put hk (ints3 _ _ _) hne 0 (.int .i64 a)
  have rb := ra.put ka (by simpa using ints3 _ _ _) hne 1 (.int .i64 b)
  have rc := rb.put kb (by simpa using ints3 _ _ _) hne 2 (.int .i64 c)
  refine ⟨_, rfl, grown_put (grown_put (grown_put G hr 0 (.int .i64 a)) hr 1 (.int .i64 b)) hr 2 (.int .i64 c), rc, ?_, ?_, ?_⟩
  · rw [kc.cell]; simp
  · rw [kc.cell]; simp
  · rw [kc.cell]; simp

/-- a drawn state -/
def SpotPost (w : World) (g p k : Nat) (e : Ending) (w' : World) : Prop :=
  ∃ x y z : Int, e = .returned (.agg #[.int .i64 x, .int .i64 y, .int .i64 z]) ∧ Drew w g p k w'


end Go.Proofs.YtndlhdmpfnadcaaGreatDoor

/- A drawn letter; the drawn arguments of EvalExpr, EvalTest, EvalWide, SetVar, FoldExpr. -/
namespace Go.Proofs.YtndlhdmpfnadcaaGreatDoor
open Go.RowKit
open Pl

/-- a row of bytes in a later world -/
theorem Bytes.later {w W : World} {A : Option Addr} {n g : Nat} (h : Bytes w A n g) (hb : Below w.heap.size w W) : Bytes W A n W.heap.size := by
  rcases h with h | ⟨b, off, hA, _, hlt, hc⟩
  · exact .inl h
  · have := hb.size
    refine .inr ⟨b, off, hA, by omega, by omega, fun i hi => ?_⟩
    obtain ⟨v, hv, hcell⟩ := hc i hi
    exact ⟨v, hv, (hb.cell (p := ⟨b, off + i, none⟩) hlt).trans hcell⟩
theorem open_ex (A : Option Addr) (n cap : Nat) (w : World) (hn : n ≤ 4000000000000) (hc : n ≤ cap) (h : Bytes w A n w.heap.size) :
    Calls Tryz.prog 11 #[.slice A n cap] w fun e w' => ∃ g, w.heap.size ≤ g ∧ e = .returned (.pointer (some ⟨g, 0, none⟩)) ∧ Rnd w' g 0 ∧ Below w.heap.size w w' :=
  (open_any A n cap w hn hc h).mono fun _ _ ⟨h1, h2, h3⟩ => ⟨w.heap.size, Nat.le_refl _, h1, h2, h3⟩
theorem below_src {w w' : World} {g : Nat} (h : w.grownBy w' (some g)) (hg : w.heap.size ≤ g) : Below w.heap.size w w' :=
  below_of_grown h w.heap.size (Nat.le_refl _) (fun x e => by injection e with e; omega)

/-- three writes into another block -/
theorem far3 {W : World} {b r i : Nat} {x y z : Value} (h : b ≠ r) : (((W.setCell ⟨r, 0, none⟩ x).setCell ⟨r, 1, none⟩ y).setCell ⟨r, 2, none⟩ z).cell? ⟨b, i, none⟩ = W.cell? ⟨b, i, none⟩ := by
  refine World.cell?_of_block (a := ⟨b, i, none⟩) ?_
  rw [Below.heap_setCell _ _ _ _ (by exact h), Below.heap_setCell _ _ _ _ (by exact h), Below.heap_setCell _ _ _ _ (by exact h)]
theorem Blk.far3 {w : World} {g r : Nat} {t : TypeId} {cs : Array Value} (h : Blk w g t cs) (hne : g ≠ r) (x y z : Value) : Blk (((w.setCell ⟨r, 0, none⟩ x).setCell ⟨r, 1, none⟩ y).setCell ⟨r, 2, none⟩ z) g t cs :=
  ((h.far (p := ⟨r, 0, none⟩) hne x).far (p := ⟨r, 1, none⟩) hne y).far (p := ⟨r, 2, none⟩) hne z
theorem cellA {W : World} {b i : Nat} {o : Obj} (h : b < W.heap.size) : (W.alloc o).drew.cell? ⟨b, i, none⟩ = W.cell? ⟨b, i, none⟩ := World.cell?_of_block (a := ⟨b, i, none⟩) (Below.heap_alloc W o b h)
/-- three numbers written into a block of three, other blocks as they were -/
theorem put3b {w w1 : World} {g q r : Nat} {t : TypeId} {x y z : Int} (G : w.grownBy w1 (some g)) (R : Rnd w1 g q) (hk : Blk w1 r t #[.int .i64 x, .int .i64 y, .int .i64 z]) (hr : w.heap.size ≤ r) (hne : g ≠ r) (a b c : Int) :
    ∃ w2, ((w1.setCell ⟨r, 0, none⟩ (.int .i64 a)).setCell ⟨r, 1, none⟩ (.int .i64 b)).setCell ⟨r, 2, none⟩ (.int .i64 c) = w2 ∧ w.grownBy w2 (some g) ∧ Rnd w2 g q ∧
      Blk w2 r t #[.int .i64 a, .int .i64 b, .int .i64 c] ∧ (∀ r' t' cs', r' ≠ r → Blk w1 r' t' cs' → Blk w2 r' t' cs') := by
  obtain ⟨w2, h2, g2, r2, _⟩ := put3 G R hk hr hne a b c
  refine ⟨w2, h2, g2, r2, ?_, fun r' t' cs' hne' h => ?_⟩
  · rw [← h2]
    have := ((hk.set_ 0 (.int .i64 a)).set_ 1 (.int .i64 b)).set_ 2 (.int .i64 c)
    simpa using this
  · rw [← h2]; exact h.far3 hne' _ _ _
def whichs : List ByteArray := [⟨#[120]⟩, ⟨#[121]⟩, ⟨#[122]⟩, ⟨#[120]⟩, ⟨#[121]⟩, ⟨#[122]⟩, ⟨#[120]⟩, ⟨#[121]⟩, ⟨#[]⟩, ⟨#[88]⟩, ⟨#[119]⟩, ⟨#[120, 121]⟩]

end Go.Proofs.YtndlhdmpfnadcaaGreatDoor
