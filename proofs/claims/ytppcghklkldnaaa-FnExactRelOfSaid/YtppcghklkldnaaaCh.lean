/- Steps of a chain of calls, blocks laid between them. -/
import Derived.Test.YtppcghklkldnaaaBl
import Derived.Deep.QuietTactic
import Derived.BigQuiet
namespace Go.Proofs.Ytppcghklkldnaaa
open Go.RowKit
open Pl

theorem below_a1 {w a c : World} {o : Obj} (h1 : Below w.heap.size w a) (h2 : Below (a.alloc o).heap.size (a.alloc o) c) : Below w.heap.size w c :=
  below_2 (h1.alloc h1.size o) h2
theorem below_a2 {w a c : World} {o o' : Obj} (h1 : Below w.heap.size w a) (h2 : Below ((a.alloc o).alloc o').heap.size ((a.alloc o).alloc o') c) : Below w.heap.size w c :=
  below_a1 (h1.alloc h1.size o) h2
theorem below_a3 {w a c : World} {o o' o'' : Obj} (h1 : Below w.heap.size w a) (h2 : Below (((a.alloc o).alloc o').alloc o'').heap.size (((a.alloc o).alloc o').alloc o'') c) : Below w.heap.size w c :=
  below_a2 (h1.alloc h1.size o) h2
theorem below_q {w a : World} (h1 : Below w.heap.size w a) (n : Nat) : Below w.heap.size w (a.drewN n) := h1.trans (below_drewN _ _ _)
theorem below_drew (B : Nat) (w : World) : Below B w w.drew := ⟨rfl, rfl, rfl, Nat.le_refl _, fun _ _ => rfl⟩
theorem drew_cell (w : World) (a : Addr) : w.drew.cell? a = w.cell? a := rfl
theorem cellB {W : World} {b i : Nat} {o : Obj} (h : b < W.heap.size) : (W.alloc o).cell? ⟨b, i, none⟩ = W.cell? ⟨b, i, none⟩ := World.cell?_of_block (a := ⟨b, i, none⟩) (Below.heap_alloc W o b h)
/-- three cells of a block, carried over a call -/
theorem carry3 {w W W' : World} {b : Nat} {v0 v1 v2 : Value} (B : Hid (Below w.heap.size w W)) (hb : Below W.heap.size W W') (hy : b < W.heap.size)
    (h0 : W.cell? ⟨b, 0, none⟩ = some v0) (h1 : W.cell? ⟨b, 1, none⟩ = some v1) (h2 : W.cell? ⟨b, 2, none⟩ = some v2) :
    W'.cell? ⟨b, 0, none⟩ = some v0 ∧ W'.cell? ⟨b, 1, none⟩ = some v1 ∧ W'.cell? ⟨b, 2, none⟩ = some v2 ∧ b < W'.heap.size ∧ Hid (Below w.heap.size w W') :=
  ⟨(hb.cell (p := ⟨b, 0, none⟩) hy).trans h0, (hb.cell (p := ⟨b, 1, none⟩) hy).trans h1, (hb.cell (p := ⟨b, 2, none⟩) hy).trans h2, Nat.lt_of_lt_of_le hy hb.size, below_2 B.out hb⟩
theorem carry6 {w W W' : World} {b c : Nat} {v0 v1 v2 u0 u1 u2 : Value} (B : Hid (Below w.heap.size w W)) (hb : Below W.heap.size W W') (hy : b < W.heap.size) (hz : c < W.heap.size)
    (h0 : W.cell? ⟨b, 0, none⟩ = some v0) (h1 : W.cell? ⟨b, 1, none⟩ = some v1) (h2 : W.cell? ⟨b, 2, none⟩ = some v2)
    (g0 : W.cell? ⟨c, 0, none⟩ = some u0) (g1 : W.cell? ⟨c, 1, none⟩ = some u1) (g2 : W.cell? ⟨c, 2, none⟩ = some u2) :
    W'.cell? ⟨b, 0, none⟩ = some v0 ∧ W'.cell? ⟨b, 1, none⟩ = some v1 ∧ W'.cell? ⟨b, 2, none⟩ = some v2 ∧ W'.cell? ⟨c, 0, none⟩ = some u0 ∧ W'.cell? ⟨c, 1, none⟩ = some u1 ∧ W'.cell? ⟨c, 2, none⟩ = some u2 ∧ b < W'.heap.size ∧ c < W'.heap.size ∧ Hid (Below w.heap.size w W') := by
  obtain ⟨a0, a1, a2, a3, a4⟩ := carry3 B hb hy h0 h1 h2
  obtain ⟨c0, c1, c2, c3, _⟩ := carry3 B hb hz g0 g1 g2
  exact ⟨a0, a1, a2, c0, c1, c2, a3, c3, a4⟩
theorem below_n (w : World) (o : Obj) : Below w.heap.size w (w.alloc o) := (Below.refl _ _).alloc (Nat.le_refl _) o

/-- a world that is only told of what lay in w, and of some cells -/
structure Sit (w W : World) (l : List (Addr × Value)) : Prop where
  below : Below w.heap.size w W
  cells : ∀ p ∈ l, p.1.block < W.heap.size ∧ W.cell? p.1 = some p.2
/-- a new block, none of those cells' -/
structure New (w W : World) (l : List (Addr × Value)) (g : Nat) (t : TypeId) (cs : Array Value) : Prop where
  blk : Blk W g t cs
  ge : w.heap.size ≤ g
  ne : ∀ p ∈ l, p.1.block ≠ g
section
variable {w W W' : World} {l : List (Addr × Value)} {g : Nat} {t : TypeId} {cs : Array Value} {o : Obj}
theorem Sit.call (H : Sit w W l) (hb : Below W.heap.size W W') : Sit w W' l :=
  ⟨below_2 H.below hb, fun p hp => ⟨Nat.lt_of_lt_of_le (H.cells p hp).1 hb.size, (hb.cell (p := p.1) (H.cells p hp).1).trans (H.cells p hp).2⟩⟩
theorem Sit.alloc (H : Sit w W l) (o : Obj) : Sit w (W.alloc o) l := H.call (below_n W o)
theorem Sit.drew (H : Sit w W l) : Sit w W.drew l := H.call (below_drew _ _)
theorem Sit.drewN (H : Sit w W l) (n : Nat) : Sit w (W.drewN n) l := H.call (below_drewN _ _ _)
theorem Sit.calla (H : Sit w W l) (hb : Below (W.alloc o).heap.size (W.alloc o) W') : Sit w W' l := (H.alloc o).call hb
theorem Sit.less {l' : List (Addr × Value)} (H : Sit w W l) (h : ∀ p ∈ l', p ∈ l) : Sit w W l' := ⟨H.below, fun p hp => H.cells p (h p hp)⟩
theorem Sit.more {p : Addr} {v : Value} (H : Sit w W l) (hlt : p.block < W.heap.size) (h : W.cell? p = some v) : Sit w W ((p, v) :: l) :=
  ⟨H.below, fun q hq => by rcases List.mem_cons.1 hq with rfl | hq; exact ⟨hlt, h⟩; exact H.cells q hq⟩
theorem Sit.get {p : Addr} {v : Value} (H : Sit w W l) (h : (p, v) ∈ l) : W.cell? p = some v := (H.cells _ h).2
theorem Sit.c3 {a0 a1 a2 : Addr} {v0 v1 v2 : Value} (H : Sit w W [(a0, v0), (a1, v1), (a2, v2)]) : W.cell? a0 = some v0 ∧ W.cell? a1 = some v1 ∧ W.cell? a2 = some v2 :=
  ⟨H.get (by simp), H.get (by simp), H.get (by simp)⟩
theorem Sit.c4 {a0 a1 a2 a3 : Addr} {v0 v1 v2 v3 : Value} (H : Sit w W [(a0, v0), (a1, v1), (a2, v2), (a3, v3)]) : W.cell? a0 = some v0 ∧ W.cell? a1 = some v1 ∧ W.cell? a2 = some v2 ∧ W.cell? a3 = some v3 :=
  ⟨H.get (by simp), H.get (by simp), H.get (by simp), H.get (by simp)⟩
theorem Sit.c6 {a0 a1 a2 a3 a4 a5 : Addr} {v0 v1 v2 v3 v4 v5 : Value} (H : Sit w W [(a0, v0), (a1, v1), (a2, v2), (a3, v3), (a4, v4), (a5, v5)]) :
    W.cell? a0 = some v0 ∧ W.cell? a1 = some v1 ∧ W.cell? a2 = some v2 ∧ W.cell? a3 = some v3 ∧ W.cell? a4 = some v4 ∧ W.cell? a5 = some v5 :=
  ⟨H.get (by simp), H.get (by simp), H.get (by simp), H.get (by simp), H.get (by simp), H.get (by simp)⟩
theorem Sit.new (H : Sit w W l) (cs : Array Value) (t : TypeId) : New w (W.alloc (.cells cs t)) l W.heap.size t cs :=
  ⟨Blk.new W t cs, H.below.size, fun p hp e => by have := (H.cells p hp).1; omega⟩
theorem New.call (N : New w W l g t cs) (hb : Below W.heap.size W W') : New w W' l g t cs := ⟨N.blk.below hb N.blk.lt, N.ge, N.ne⟩
theorem Sit.newa (H : Sit w W l) (hb : Below (W.alloc (.cells cs t)).heap.size (W.alloc (.cells cs t)) W') : New w W' l W.heap.size t cs := (H.new cs t).call hb
theorem New.drew (N : New w W l g t cs) : New w W.drew l g t cs := ⟨N.blk, N.ge, N.ne⟩
theorem Sit.calld (H : Sit w W l) (hb : Below W.drew.heap.size W.drew W') : Sit w W' l := H.drew.call hb
theorem Sit.callad (H : Sit w W l) (hb : Below (W.alloc o).drew.heap.size (W.alloc o).drew W') : Sit w W' l := (H.alloc o).drew.call hb
theorem Sit.newad (H : Sit w W l) (hb : Below (W.alloc (.cells cs t)).drew.heap.size (W.alloc (.cells cs t)).drew W') : New w W' l W.heap.size t cs := (H.new cs t).drew.call hb
theorem Sit.put3 (H : Sit w W l) (N : New w W l g t cs) (x y z : Value) : Sit w (((W.setCell ⟨g, 0, none⟩ x).setCell ⟨g, 1, none⟩ y).setCell ⟨g, 2, none⟩ z) l := by
  refine ⟨((H.below.setCell N.ge _).setCell N.ge _).setCell N.ge _, fun p hp => ?_⟩
  obtain ⟨h1, h2⟩ := H.cells p hp
  have hne := N.ne p hp
  refine ⟨by simpa [World.setCell] using h1, (World.cell?_of_block ?_).trans h2⟩
  rw [Below.heap_setCell _ _ _ _ (by exact hne), Below.heap_setCell _ _ _ _ (by exact hne), Below.heap_setCell _ _ _ _ (by exact hne)]
theorem Sit.fresh (H : Sit w W l) : w.heap.size ≤ W.heap.size ∧ ∀ p ∈ l, p.1.block ≠ W.heap.size :=
  ⟨H.below.size, fun p hp e => by have := (H.cells p hp).1; omega⟩
theorem Sit.set (H : Sit w W l) (hg : w.heap.size ≤ g) (hn : ∀ p ∈ l, p.1.block ≠ g) (i : Nat) (v : Value) : Sit w (W.setCell ⟨g, i, none⟩ v) l := by
  refine ⟨H.below.setCell hg _, fun p hp => ?_⟩
  obtain ⟨h1, h2⟩ := H.cells p hp
  have hne := hn p hp
  refine ⟨by simpa [World.setCell] using h1, (World.cell?_of_block ?_).trans h2⟩
  rw [Below.heap_setCell _ _ _ _ (by exact hne)]
theorem New.put3 {a b c : Value} (N : New w W l g t #[a, b, c]) (x y z : Value) : New w (((W.setCell ⟨g, 0, none⟩ x).setCell ⟨g, 1, none⟩ y).setCell ⟨g, 2, none⟩ z) l g t #[x, y, z] := by
  refine ⟨?_, N.ge, N.ne⟩
  have := ((N.blk.set_ 0 x).set_ 1 y).set_ 2 z
  simpa using this
/-- a new block of three among the cells that are told of -/
theorem Sit.take3 {a b c : Value} (H : Sit w W l) (N : New w W l g t #[a, b, c]) : Sit w W ((⟨g, 0, none⟩, a) :: (⟨g, 1, none⟩, b) :: (⟨g, 2, none⟩, c) :: l) := by
  have hlt := N.blk.lt
  exact ((H.more (p := ⟨g, 2, none⟩) hlt (N.blk.cell 2)).more (p := ⟨g, 1, none⟩) hlt (N.blk.cell 1)).more (p := ⟨g, 0, none⟩) hlt (N.blk.cell 0)
theorem Sit.box3 {a b c : Value} (H : Sit w W l) (t : TypeId) : Sit w (W.alloc (.cells #[a, b, c] t)) ((⟨W.heap.size, 0, none⟩, a) :: (⟨W.heap.size, 1, none⟩, b) :: (⟨W.heap.size, 2, none⟩, c) :: l) :=
  (H.alloc _).take3 (H.new _ _)
theorem Sit.refl (w : World) : Sit w w [] := ⟨Below.refl _ _, fun p hp => by simp at hp⟩
end

/-! ### a region that draws its order, whose operations read told cells and whose callees make memory: one walk serves every order -/
section
variable {P : Program} {C : World → Prop}
theorem region_class {id : Nat} {Q : Exit → Act → World → Prop} {a : Act} {W : World} {l : List Oper} (C : World → Prop) (hm : P.follows .mixedOrders = true) (hB : Region.lexB .any l.toArray = true) (hC : C W.drew)
    (h : wpQuiet P l.toArray C (fun a' => ∀ w', C w' → Q .normal a' w') l a) : (Code.region id l.toArray true).wp P Q a W :=
  wp_region_quiet (C := C) hm hB hC (by simpa using h)
theorem quiet_value {o : Oper} {a : Act} {K : Act → Prop} {u : Value} (h : ∀ W, C W → (execOp a.eval o).run P W = .ok (.value u) W) (hk : K (a.put o.dst u)) : o.quiet P a C K :=
  ⟨u, fun w hw => by unfold Oper.quietAt; rw [h w hw]; exact ⟨rfl, rfl⟩, hk⟩
theorem quiet_call {o : Oper} {a : Act} {K : Act → Prop} {u : Value} {f : FuncId} {args : Array Value} (h : ∀ W, C W → (execOp a.eval o).run P W = .ok (.enter f args) W)
    (hc : ∀ W, C W → Calls P f args W fun e w'' => e = .returned u ∧ C w'') (hk : K (a.put o.dst u)) : o.quiet P a C K :=
  ⟨u, fun w hw => by unfold Oper.quietAt; rw [h w hw]; exact ⟨rfl, hc w hw⟩, hk⟩
end


end Go.Proofs.Ytppcghklkldnaaa
