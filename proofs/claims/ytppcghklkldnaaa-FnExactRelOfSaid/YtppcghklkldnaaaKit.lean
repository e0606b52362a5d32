/- Words on memory: a node of a text in memory, the block of six values. No function of the program in sight. -/
import Derived.Test.YtppcghklkldnaaaPl
import Derived.Below
import Derived.Deep.Draws
import Derived.WalkKit
import Derived.WalkSpells
import Derived.Lib.Hide
namespace Go.Proofs.Ytppcghklkldnaaa
open Go.RowKit
open Pl

/-- the value of a text -/
def str (l : List UInt8) : Value := .string ⟨l.toArray⟩
/-- an address of a block's cell -/
abbrev at_ (b o : Nat) : Addr := ⟨b, o, none⟩
def ptr (b : Nat) : Value := .pointer (some ⟨b, 0, none⟩)

/-- a node in memory: its three cells -/
def Hd (w : World) (b : Nat) (o : UInt8) (sl : Value) (t : List UInt8) : Prop :=
  b < w.heap.size ∧ w.cell? ⟨b, 0, none⟩ = some (.int .u8 o.toNat) ∧ w.cell? ⟨b, 1, none⟩ = some sl ∧ w.cell? ⟨b, 2, none⟩ = some (.string ⟨t.toArray⟩)

def In (w : World) : Nd → Nat → Prop
  | .n0 o, b => Hd w b o (.slice none 0 0) [o]
  | .n1 o x, b => ∃ g c p, Hd w b o (.slice (some ⟨g, 0, none⟩) 1 c) (Nd.n1 o x).text ∧ g < w.heap.size ∧ 1 ≤ c ∧ w.cell? ⟨g, 0, none⟩ = some (.pointer (some ⟨p, 0, none⟩)) ∧ In w x p
  | .n2 o x y, b => ∃ g c p q, Hd w b o (.slice (some ⟨g, 0, none⟩) 2 c) (Nd.n2 o x y).text ∧ g < w.heap.size ∧ 2 ≤ c ∧ w.cell? ⟨g, 0, none⟩ = some (.pointer (some ⟨p, 0, none⟩)) ∧ w.cell? ⟨g, 1, none⟩ = some (.pointer (some ⟨q, 0, none⟩)) ∧ In w x p ∧ In w y q
  | .n3 o x y z, b => ∃ g c p q r, Hd w b o (.slice (some ⟨g, 0, none⟩) 3 c) (Nd.n3 o x y z).text ∧ g < w.heap.size ∧ 3 ≤ c ∧ w.cell? ⟨g, 0, none⟩ = some (.pointer (some ⟨p, 0, none⟩)) ∧ w.cell? ⟨g, 1, none⟩ = some (.pointer (some ⟨q, 0, none⟩)) ∧ w.cell? ⟨g, 2, none⟩ = some (.pointer (some ⟨r, 0, none⟩)) ∧ In w x p ∧ In w y q ∧ In w z r

theorem Hd.below {w w' : World} {b : Nat} {o : UInt8} {sl : Value} {t : List UInt8} (h : Hd w b o sl t) {B : Nat} (hb : Below B w w') (hB : w.heap.size ≤ B) : Hd w' b o sl t := by
  obtain ⟨h0, h1, h2, h3⟩ := h
  have := hb.size
  exact ⟨by omega, (hb.cell (p := ⟨b, 0, none⟩) (by show b < B; omega)).trans h1, (hb.cell (p := ⟨b, 1, none⟩) (by show b < B; omega)).trans h2, (hb.cell (p := ⟨b, 2, none⟩) (by show b < B; omega)).trans h3⟩
theorem In.below {w w' : World} {B : Nat} (hb : Below B w w') (hB : w.heap.size ≤ B) : ∀ {k : Nd} {b : Nat}, In w k b → In w' k b := by
  intro k
  have hz := hb.size
  induction k with
  | n0 o => intro b h; exact Hd.below h hb hB
  | n1 o x ih =>
    rintro b ⟨g, c, p, h, hg, hc, h1, h2⟩
    exact ⟨g, c, p, h.below hb hB, by omega, hc, (hb.cell (p := ⟨g, 0, none⟩) (by show g < B; omega)).trans h1, ih h2⟩
  | n2 o x y ih ih2 =>
    rintro b ⟨g, c, p, q, h, hg, hc, h1, h2, h3, h4⟩
    exact ⟨g, c, p, q, h.below hb hB, by omega, hc, (hb.cell (p := ⟨g, 0, none⟩) (by show g < B; omega)).trans h1, (hb.cell (p := ⟨g, 1, none⟩) (by show g < B; omega)).trans h2, ih h3, ih2 h4⟩
  | n3 o x y z ih ih2 ih3 =>
    rintro b ⟨g, c, p, q, r, h, hg, hc, h1, h2, h3, h4, h5, h6⟩
    exact ⟨g, c, p, q, r, h.below hb hB, by omega, hc, (hb.cell (p := ⟨g, 0, none⟩) (by show g < B; omega)).trans h1, (hb.cell (p := ⟨g, 1, none⟩) (by show g < B; omega)).trans h2, (hb.cell (p := ⟨g, 2, none⟩) (by show g < B; omega)).trans h3, ih h4, ih2 h5, ih3 h6⟩
theorem below_drewN (B : Nat) (w : World) (n : Nat) : Below B w (w.drewN n) := ⟨rfl, rfl, rfl, Nat.le_refl _, fun _ _ => rfl⟩
theorem In.drewN {w : World} {k : Nd} {b : Nat} (h : In w k b) (n : Nat) : In (w.drewN n) k b := h.below (below_drewN w.heap.size w n) (Nat.le_refl _)
theorem In.lt {w : World} {k : Nd} {b : Nat} (h : In w k b) : b < w.heap.size := by
  cases k with
  | n0 o => exact h.1
  | n1 o x => obtain ⟨g, c, p, h, _⟩ := h; exact h.1
  | n2 o x y => obtain ⟨g, c, p, q, h, _⟩ := h; exact h.1
  | n3 o x y z => obtain ⟨g, c, p, q, r, h, _⟩ := h; exact h.1

/-- the six values in memory -/
def Env (w : World) (b : Nat) (x y z X Y Z : Int) : Prop :=
  b < w.heap.size ∧ w.cell? ⟨b, 0, none⟩ = some (.int .i64 x) ∧ w.cell? ⟨b, 1, none⟩ = some (.int .i64 y) ∧ w.cell? ⟨b, 2, none⟩ = some (.int .i64 z) ∧
  w.cell? ⟨b, 3, none⟩ = some (.int .i64 X) ∧ w.cell? ⟨b, 4, none⟩ = some (.int .i64 Y) ∧ w.cell? ⟨b, 5, none⟩ = some (.int .i64 Z)
theorem Env.below {w w' : World} {b : Nat} {x y z X Y Z : Int} (h : Env w b x y z X Y Z) {B : Nat} (hb : Below B w w') (hB : w.heap.size ≤ B) : Env w' b x y z X Y Z := by
  obtain ⟨h0, h1, h2, h3, h4, h5, h6⟩ := h
  have := hb.size
  refine ⟨by omega, ?_, ?_, ?_, ?_, ?_, ?_⟩
  · exact (hb.cell (p := ⟨b, 0, none⟩) (by show b < B; omega)).trans h1
  · exact (hb.cell (p := ⟨b, 1, none⟩) (by show b < B; omega)).trans h2
  · exact (hb.cell (p := ⟨b, 2, none⟩) (by show b < B; omega)).trans h3
  · exact (hb.cell (p := ⟨b, 3, none⟩) (by show b < B; omega)).trans h4
  · exact (hb.cell (p := ⟨b, 4, none⟩) (by show b < B; omega)).trans h5
  · exact (hb.cell (p := ⟨b, 5, none⟩) (by show b < B; omega)).trans h6
theorem Env.drewN {w : World} {b : Nat} {x y z X Y Z : Int} (h : Env w b x y z X Y Z) (n : Nat) : Env (w.drewN n) b x y z X Y Z := h

/-! ### blocks known whole -/
theorem block_of_add (a : Addr) (n : Nat) : (a.add n).block = a.block := by unfold Addr.add; split <;> rfl
def Blk (w : World) (g : Nat) (t : TypeId) (cs : Array Value) : Prop := w.heap[g]? = some (.cells cs t (0, 0))
section
variable {w w' : World} {g : Nat} {t : TypeId} {cs : Array Value}
theorem Blk.lt (h : Blk w g t cs) : g < w.heap.size := by
  rcases Nat.lt_or_ge g w.heap.size with hlt | hge
  · exact hlt
  · unfold Blk at h; rw [Array.getElem?_eq_none hge] at h; cases h
theorem Blk.cell (h : Blk w g t cs) (i : Nat) : w.cell? ⟨g, i, none⟩ = cs[i]? := cell_of_row w g i cs t (0, 0) h
theorem Blk.frozen (h : Blk w g t cs) (i : Nat) : w.frozen? ⟨g, i, none⟩ = false := by
  unfold Blk at h
  simp [World.frozen?, h]
theorem Blk.new (w : World) (t : TypeId) (cs : Array Value) : Blk (w.alloc (.cells cs t)) w.heap.size t cs := heap_alloc_new w _
theorem Blk.drew (h : Blk w g t cs) : Blk w.drew g t cs := h
theorem Blk.drewN (h : Blk w g t cs) (n : Nat) : Blk (w.drewN n) g t cs := h
theorem Blk.alloc (h : Blk w g t cs) (o : Obj) : Blk (w.alloc o) g t cs := (Below.heap_alloc w o g h.lt).trans h
theorem Blk.set_ (h : Blk w g t cs) (i : Nat) (u : Value) : Blk (w.setCell ⟨g, i, none⟩ u) g t (cs.setIfInBounds i u) := by
  unfold Blk at h ⊢
  simp [World.setCell, Array.getElem?_modify, h]
theorem Blk.far (h : Blk w g t cs) {p : Addr} (hp : g ≠ p.block) (u : Value) : Blk (w.setCell p u) g t cs := (Below.heap_setCell w p u g hp).trans h
theorem Blk.below {B : Nat} (h : Blk w g t cs) (hb : Below B w w') (hg : g < B) : Blk w' g t cs := (hb.block g hg).trans h
theorem Blk.grown {row : Option Nat} (h : Blk w g t cs) (hb : w.grownBy w' row) (hg : some g ≠ row) : Blk w' g t cs := (hb.block g h.lt hg).trans h
end
theorem grownBy_drewN (w : World) (n : Nat) (row : Option Nat) : w.grownBy (w.drewN n) row := ⟨rfl, rfl, rfl, Nat.le_refl _, fun _ _ _ => rfl⟩
theorem grownBy_drew (w : World) (row : Option Nat) : w.grownBy w.drew row := ⟨rfl, rfl, rfl, Nat.le_refl _, fun _ _ _ => rfl⟩
theorem grownBy_setCell (w : World) (p : Addr) (u : Value) : w.grownBy (w.setCell p u) (some p.block) :=
  ⟨rfl, rfl, rfl, by simp [World.setCell], fun k _ hne => Below.heap_setCell _ _ _ _ (fun e => hne (by rw [e]))⟩
/-- two steps: the second one may write its own row if this one is the first's row, or new -/
theorem grown_step {a b c : World} {row row' : Option Nat} (h : a.grownBy b row) (k : b.grownBy c row') (hr : ∀ g, row' = some g → row = some g ∨ a.heap.size ≤ g) : a.grownBy c row :=
  ⟨k.os.trans h.os, k.tape.trans h.tape, k.output.trans h.output, Nat.le_trans h.size k.size, fun i hi hne =>
    (k.block i (Nat.lt_of_lt_of_le hi h.size) (fun e => by rcases hr i e.symm with h1 | h1; exact hne h1.symm; omega)).trans (h.block i hi hne)⟩
theorem below_of_grown {a b : World} {row : Option Nat} (h : a.grownBy b row) (B : Nat) (hB : B ≤ a.heap.size) (hr : ∀ g, row = some g → B ≤ g) : Below B a b :=
  ⟨h.os, h.tape, h.output, h.size, fun k hk => h.block k (by omega) (fun e => by have := hr k e.symm; omega)⟩
theorem grown_of_below {a b : World} (h : Below a.heap.size a b) (row : Option Nat) : a.grownBy b row := ⟨h.os, h.tape, h.output, h.size, fun k hk _ => h.block k hk⟩

/-! ### a node in memory whose blocks all lie in S -/
def InX (w : World) (S : Nat → Prop) : Nd → Nat → Prop
  | .n0 o, b => S b ∧ Hd w b o (.slice none 0 0) [o]
  | .n1 o x, b => ∃ g c p, S b ∧ S g ∧ Hd w b o (.slice (some ⟨g, 0, none⟩) 1 c) (Nd.n1 o x).text ∧ g < w.heap.size ∧ 1 ≤ c ∧ w.cell? ⟨g, 0, none⟩ = some (.pointer (some ⟨p, 0, none⟩)) ∧ InX w S x p
  | .n2 o x y, b => ∃ g c p q, S b ∧ S g ∧ Hd w b o (.slice (some ⟨g, 0, none⟩) 2 c) (Nd.n2 o x y).text ∧ g < w.heap.size ∧ 2 ≤ c ∧ w.cell? ⟨g, 0, none⟩ = some (.pointer (some ⟨p, 0, none⟩)) ∧ w.cell? ⟨g, 1, none⟩ = some (.pointer (some ⟨q, 0, none⟩)) ∧ InX w S x p ∧ InX w S y q
  | .n3 o x y z, b => ∃ g c p q r, S b ∧ S g ∧ Hd w b o (.slice (some ⟨g, 0, none⟩) 3 c) (Nd.n3 o x y z).text ∧ g < w.heap.size ∧ 3 ≤ c ∧ w.cell? ⟨g, 0, none⟩ = some (.pointer (some ⟨p, 0, none⟩)) ∧ w.cell? ⟨g, 1, none⟩ = some (.pointer (some ⟨q, 0, none⟩)) ∧ w.cell? ⟨g, 2, none⟩ = some (.pointer (some ⟨r, 0, none⟩)) ∧ InX w S x p ∧ InX w S y q ∧ InX w S z r

theorem InX.in_ {w : World} {S : Nat → Prop} : ∀ {k : Nd} {b : Nat}, InX w S k b → In w k b := by
  intro k
  induction k with
  | n0 o => intro b h; exact h.2
  | n1 o x ih => rintro b ⟨g, c, p, _, _, h, hg, hc, h1, h2⟩; exact ⟨g, c, p, h, hg, hc, h1, ih h2⟩
  | n2 o x y ih ih2 => rintro b ⟨g, c, p, q, _, _, h, hg, hc, h1, h2, h3, h4⟩; exact ⟨g, c, p, q, h, hg, hc, h1, h2, ih h3, ih2 h4⟩
  | n3 o x y z ih ih2 ih3 => rintro b ⟨g, c, p, q, r, _, _, h, hg, hc, h1, h2, h3, h4, h5, h6⟩; exact ⟨g, c, p, q, r, h, hg, hc, h1, h2, h3, ih h4, ih2 h5, ih3 h6⟩
theorem Hd.keep {w w' : World} {b : Nat} {o : UInt8} {sl : Value} {t : List UInt8} (h : Hd w b o sl t) (hz : w.heap.size ≤ w'.heap.size) (hb : w'.heap[b]? = w.heap[b]?) : Hd w' b o sl t := by
  obtain ⟨h0, h1, h2, h3⟩ := h
  exact ⟨by omega, (World.cell?_of_block (a := ⟨b, 0, none⟩) hb).trans h1, (World.cell?_of_block (a := ⟨b, 1, none⟩) hb).trans h2, (World.cell?_of_block (a := ⟨b, 2, none⟩) hb).trans h3⟩
theorem InX.keep {w w' : World} {S S' : Nat → Prop} (hz : w.heap.size ≤ w'.heap.size) (hS : ∀ x, S x → x < w.heap.size → S' x ∧ w'.heap[x]? = w.heap[x]?) : ∀ {k : Nd} {b : Nat}, InX w S k b → InX w' S' k b := by
  intro k
  have hd : ∀ {b : Nat} {o : UInt8} {sl : Value} {t : List UInt8}, S b → Hd w b o sl t → Hd w' b o sl t := fun hb h => h.keep hz (hS _ hb h.1).2
  have hc : ∀ {g i : Nat} {v : Value}, S g → g < w.heap.size → w.cell? ⟨g, i, none⟩ = some v → w'.cell? ⟨g, i, none⟩ = some v := fun {g i _} hg hl h => (World.cell?_of_block (a := ⟨g, i, none⟩) (hS g hg hl).2).trans h
  induction k with
  | n0 o => intro b h; exact ⟨(hS _ h.1 h.2.1).1, hd h.1 h.2⟩
  | n1 o x ih =>
    rintro b ⟨g, c, p, s1, s2, h, hg, hl, h1, h2⟩
    exact ⟨g, c, p, (hS _ s1 h.1).1, (hS _ s2 hg).1, hd s1 h, by omega, hl, hc s2 hg h1, ih h2⟩
  | n2 o x y ih ih2 =>
    rintro b ⟨g, c, p, q, s1, s2, h, hg, hl, h1, h2, h3, h4⟩
    exact ⟨g, c, p, q, (hS _ s1 h.1).1, (hS _ s2 hg).1, hd s1 h, by omega, hl, hc s2 hg h1, hc s2 hg h2, ih h3, ih2 h4⟩
  | n3 o x y z ih ih2 ih3 =>
    rintro b ⟨g, c, p, q, r, s1, s2, h, hg, hl, h1, h2, h3, h4, h5, h6⟩
    exact ⟨g, c, p, q, r, (hS _ s1 h.1).1, (hS _ s2 hg).1, hd s1 h, by omega, hl, hc s2 hg h1, hc s2 hg h2, hc s2 hg h3, ih h4, ih2 h5, ih3 h6⟩

theorem quiet_off {P : Program} {f : FuncId} {args : Array Value} {w : World} {n : Nat} {v : Value}
    (h : Calls P f args (w.drewN n) fun e w' => e = .returned v ∧ w.drewN n = w') : Calls P f args (w.drewN n) fun e w'' => e = .returned v ∧ ∃ m, w'' = w.drewN m :=
  h.mono fun _ _ ⟨he, hm⟩ => ⟨he, n, hm.symm⟩
theorem len_S (S : ByteArray) : S.data.toList.length = S.size := by rw [Array.length_toList]; rfl
theorem u8_ne {c : UInt8} (n : Nat) (h : ¬ c = UInt8.ofNat n) (hn : n < 256) : ((c.toNat : Int) == (n : Int)) = false := by
  have : ¬ c.toNat = n := fun e => h (by apply UInt8.toNat_inj.1; rw [e, UInt8.toNat_ofNat']; exact (Nat.mod_eq_of_lt hn).symm)
  simp; omega
theorem ret_int {k : IntKind} {a b : Int} (h : a = b) : Ending.returned (.int k a) = .returned (.int k b) := by rw [h]
theorem ret_bool {a b : Bool} (h : a = b) : Ending.returned (.bool a) = .returned (.bool b) := by rw [h]

end Go.Proofs.Ytppcghklkldnaaa
