/- XGb: XKit XSt XBs XBy XBl XCh XVar put together. -/
import Derived.Test.YtehpmglbbalelaaGa
import Derived.Below
import Derived.Deep.Draws
import Derived.WalkKit
import Derived.WalkSpells
import Derived.Lib.Hide
import Derived.Maps.AppendAt
import Derived.Deep.AppendLies
import Derived.Test.YtehpmglbbalelaaRows
import Derived.Laws.IdiomStrings
import Derived.Deep.QuietTactic
import Derived.BigQuiet
import Derived.WalkLawsBesides
import Derived.Deep.RegionWith
import Derived.Deep.DeepCutAuto
import Derived.Deep.CutBlock
import Derived.Deep.LoopGhost
import Derived.StillTailTactics
/- Words on memory: a node of a text in memory, the block of six values. No function of the program in sight. -/
namespace Go.Proofs.Ytehpmglbbalelaa
open Go.RowKit
open Pl

/-- the value of a text -/
def str (l : List UInt8) : Value := .string ⟨l.toArray⟩
/-- an address of a block's cell -/
abbrev at_ (b o : Nat) : Addr := ⟨b, o, none⟩
def ptr (b : Nat) : Value := .pointer (some ⟨b, 0, none⟩)

/-- a node in memory: its three cells -/
def Hd (w : World) (b : Nat) (o : UInt8) (sl : Value) (t : List UInt8) : Prop :=
  b < w.heap.size ∧ w.cell? ⟨b, 0, none⟩ = some (.int .u8 o.toNat) ∧ w.cell? ⟨b, 1, none⟩ = some sl ∧ w.cell? ⟨b, 2, none⟩ = some (.string ⟨t.toArray⟩)

def In (w : World) : Nd → Nat → Prop
  | .n0 o, b => Hd w b o (.slice none 0 0) [o]
  | .n1 o x, b => ∃ g c p, Hd w b o (.slice (some ⟨g, 0, none⟩) 1 c) (Nd.n1 o x).text ∧ g < w.heap.size ∧ 1 ≤ c ∧ w.cell? ⟨g, 0, none⟩ = some (.pointer (some ⟨p, 0, none⟩)) ∧ In w x p
  | .n2 o x y, b => ∃ g c p q, Hd w b o (.slice (some ⟨g, 0, none⟩) 2 c) (Nd.n2 o x y).text ∧ g < w.heap.size ∧ 2 ≤ c ∧ w.cell? ⟨g, 0, none⟩ = some (.pointer (some ⟨p, 0, none⟩)) ∧ w.cell? ⟨g, 1, none⟩ = some (.pointer (some ⟨q, 0, none⟩)) ∧ In w x p ∧ In w y q
  | .n3 o x y z, b => ∃ g c p q r, Hd w b o (.slice (some ⟨g, 0, none⟩) 3 c) (Nd.n3 o x y z).text ∧ g < w.heap.size ∧ 3 ≤ c ∧ w.cell? ⟨g, 0, none⟩ = some (.pointer (some ⟨p, 0, none⟩)) ∧ w.cell? ⟨g, 1, none⟩ = some (.pointer (some ⟨q, 0, none⟩)) ∧ w.cell? ⟨g, 2, none⟩ = some (.pointer (some ⟨r, 0, none⟩)) ∧ In w x p ∧ In w y q ∧ In w z r

theorem Hd.below {w w' : World} {b : Nat} {o : UInt8} {sl : Value} {t : List UInt8} (h : Hd w b o sl t) {B : Nat} (hb : Below B w w') (hB : w.heap.size ≤ B) : Hd w' b o sl t := by
  obtain ⟨h0, h1, h2, h3⟩ := h
  have := hb.size
  exact ⟨by omega, (hb.cell (p := ⟨b, 0, none⟩) (by show b < B; omega)).trans h1, (hb.cell (p := ⟨b, 1, none⟩) (by show b < B; omega)).trans h2, (hb.cell (p := ⟨b, 2, none⟩) (by show b < B; omega)).trans h3⟩
theorem In.below {w w' : World} {B : Nat} (hb : Below B w w') (hB : w.heap.size ≤ B) : ∀ {k : Nd} {b : Nat}, In w k b → In w' k b := by
  intro k
  have hz := hb.size
  induction k with
  | n0 o => intro b h; exact Hd.below h hb hB
  | n1 o x ih =>
    rintro b ⟨g, c, p, h, hg, hc, h1, h2⟩
    exact ⟨g, c, p, h.below hb hB, by omega, hc, (hb.cell (p := ⟨g, 0, none⟩) (by show g < B; omega)).trans h1, ih h2⟩
  | n2 o x y ih ih2 =>
    rintro b ⟨g, c, p, q, h, hg, hc, h1, h2, h3, h4⟩
    exact ⟨g, c, p, q, h.below hb hB, by omega, hc, (hb.cell (p := ⟨g, 0, none⟩) (by show g < B; omega)).trans h1, (hb.cell (p := ⟨g, 1, none⟩) (by show g < B; omega)).trans h2, ih h3, ih2 h4⟩
  | n3 o x y z ih ih2 ih3 =>
    rintro b ⟨g, c, p, q, r, h, hg, hc, h1, h2, h3, h4, h5, h6⟩
    exact ⟨g, c, p, q, r, h.below hb hB, by omega, hc, (hb.cell (p := ⟨g, 0, none⟩) (by show g < B; omega)).trans h1, (hb.cell (p := ⟨g, 1, none⟩) (by show g < B; omega)).trans h2, (hb.cell (p := ⟨g, 2, none⟩) (by show g < B; omega)).trans h3, ih h4, ih2 h5, ih3 h6⟩
theorem below_drewN (B : Nat) (w : World) (n : Nat) : Below B w (w.drewN n) := ⟨rfl, rfl, rfl, Nat.le_refl _, fun _ _ => rfl⟩
theorem In.drewN {w : World} {k : Nd} {b : Nat} (h : In w k b) (n : Nat) : In (w.drewN n) k b := h.below (below_drewN w.heap.size w n) (Nat.le_refl _)
theorem In.lt {w : World} {k : Nd} {b : Nat} (h : In w k b) : b < w.heap.size := by
  cases k with
  | n0 o => exact h.1
  | n1 o x => obtain ⟨g, c, p, h, _⟩ := h; exact h.1
  | n2 o x y => obtain ⟨g, c, p, q, h, _⟩ := h; exact h.1
  | n3 o x y z => obtain ⟨g, c, p, q, r, h, _⟩ := h; exact h.1

/-- the six values in memory -/
def Env (w : World) (b : Nat) (x y z X Y Z : Int) : Prop :=
  b < w.heap.size ∧ w.cell? ⟨b, 0, none⟩ = some (.int .i64 x) ∧ w.cell? ⟨b, 1, none⟩ = some (.int .i64 y) ∧ w.cell? ⟨b, 2, none⟩ = some (.int .i64 z) ∧
  w.cell? ⟨b, 3, none⟩ = some (.int .i64 X) ∧ w.cell? ⟨b, 4, none⟩ = some (.int .i64 Y) ∧ w.cell? ⟨b, 5, none⟩ = some (.int .i64 Z)
theorem Env.below {w w' : World} {b : Nat} {x y z X Y Z : Int} (h : Env w b x y z X Y Z) {B : Nat} (hb : Below B w w') (hB : w.heap.size ≤ B) : Env w' b x y z X Y Z := by
  obtain ⟨h0, h1, h2, h3, h4, h5, h6⟩ := h
  have := hb.size
  refine ⟨by omega, ?_, ?_, ?_, ?_, ?_, ?_⟩
  · exact (hb.cell (p := ⟨b, 0, none⟩) (by show b < B; omega)).trans h1
  · exact (hb.cell (p := ⟨b, 1, none⟩) (by show b < B; omega)).trans h2
  · exact (hb.cell (p := ⟨b, 2, none⟩) (by show b < B; omega)).trans h3
  · exact (hb.cell (p := ⟨b, 3, none⟩) (by show b < B; omega)).trans h4
  · exact (hb.cell (p := ⟨b, 4, none⟩) (by show b < B; omega)).trans h5
  · exact (hb.cell (p := ⟨b, 5, none⟩) (by show b < B; omega)).trans h6
theorem Env.drewN {w : World} {b : Nat} {x y z X Y Z : Int} (h : Env w b x y z X Y Z) (n : Nat) : Env (w.drewN n) b x y z X Y Z := h

/-! ### blocks known whole -/
theorem block_of_add (a : Addr) (n : Nat) : (a.add n).block = a.block := by unfold Addr.add; split <;> rfl
def Blk (w : World) (g : Nat) (t : TypeId) (cs : Array Value) : Prop := w.heap[g]? = some (.cells cs t (0, 0))
section
variable {w w' : World} {g : Nat} {t : TypeId} {cs : Array Value}
theorem Blk.lt (h : Blk w g t cs) : g < w.heap.size := by
  rcases Nat.lt_or_ge g w.heap.size with hlt | hge
  · exact hlt
  · unfold Blk at h; rw [Array.getElem?_eq_none hge] at h; cases h
theorem Blk.cell (h : Blk w g t cs) (i : Nat) : w.cell? ⟨g, i, none⟩ = cs[i]? := cell_of_row w g i cs t (0, 0) h
theorem Blk.frozen (h : Blk w g t cs) (i : Nat) : w.frozen? ⟨g, i, none⟩ = false := by
  unfold Blk at h
  simp [World.frozen?, h]
theorem Blk.new (w : World) (t : TypeId) (cs : Array Value) : Blk (w.alloc (.cells cs t)) w.heap.size t cs := heap_alloc_new w _
theorem Blk.drew (h : Blk w g t cs) : Blk w.drew g t cs := h
theorem Blk.drewN (h : Blk w g t cs) (n : Nat) : Blk (w.drewN n) g t cs := h
theorem Blk.alloc (h : Blk w g t cs) (o : Obj) : Blk (w.alloc o) g t cs := (Below.heap_alloc w o g h.lt).trans h
theorem Blk.set_ (h : Blk w g t cs) (i : Nat) (u : Value) : Blk (w.setCell ⟨g, i, none⟩ u) g t (cs.setIfInBounds i u) := by
  unfold Blk at h ⊢
  simp [World.setCell, Array.getElem?_modify, h]
theorem Blk.far (h : Blk w g t cs) {p : Addr} (hp : g ≠ p.block) (u : Value) : Blk (w.setCell p u) g t cs := (Below.heap_setCell w p u g hp).trans h
theorem Blk.below {B : Nat} (h : Blk w g t cs) (hb : Below B w w') (hg : g < B) : Blk w' g t cs := (hb.block g hg).trans h
theorem Blk.grown {row : Option Nat} (h : Blk w g t cs) (hb : w.grownBy w' row) (hg : some g ≠ row) : Blk w' g t cs := (hb.block g h.lt hg).trans h
end
theorem grownBy_drewN (w : World) (n : Nat) (row : Option Nat) : w.grownBy (w.drewN n) row := ⟨rfl, rfl, rfl, Nat.le_refl _, fun _ _ _ => rfl⟩
theorem grownBy_drew (w : World) (row : Option Nat) : w.grownBy w.drew row := ⟨rfl, rfl, rfl, Nat.le_refl _, fun _ _ _ => rfl⟩
theorem grownBy_setCell (w : World) (p : Addr) (u : Value) : w.grownBy (w.setCell p u) (some p.block) :=
  ⟨rfl, rfl, rfl, by simp [World.setCell], fun k _ hne => Below.heap_setCell _ _ _ _ (fun e => hne (by rw [e]))⟩
/-- two steps: the second one may write its own row if this one is the first's row, or new -/
theorem grown_step {a b c : World} {row row' : Option Nat} (h : a.grownBy b row) (k : b.grownBy c row') (hr : ∀ g, row' = some g → row = some g ∨ a.heap.size ≤ g) : a.grownBy c row :=
  ⟨k.os.trans h.os, k.tape.trans h.tape, k.output.trans h.output, Nat.le_trans h.size k.size, fun i hi hne =>
    (k.block i (Nat.lt_of_lt_of_le hi h.size) (fun e => by rcases hr i e.symm with h1 | h1; exact hne h1.symm; omega)).trans (h.block i hi hne)⟩
theorem below_of_grown {a b : World} {row : Option Nat} (h : a.grownBy b row) (B : Nat) (hB : B ≤ a.heap.size) (hr : ∀ g, row = some g → B ≤ g) : Below B a b :=
  ⟨h.os, h.tape, h.output, h.size, fun k hk => h.block k (by omega) (fun e => by have := hr k e.symm; omega)⟩
theorem grown_of_below {a b : World} (h : Below a.heap.size a b) (row : Option Nat) : a.grownBy b row := ⟨h.os, h.tape, h.output, h.size, fun k hk _ => h.block k hk⟩

/-! ### a node in memory whose blocks all lie in S -/
def InX (w : World) (S : Nat → Prop) : Nd → Nat → Prop
  | .n0 o, b => S b ∧ Hd w b o (.slice none 0 0) [o]
  | .n1 o x, b => ∃ g c p, S b ∧ S g ∧ Hd w b o (.slice (some ⟨g, 0, none⟩) 1 c) (Nd.n1 o x).text ∧ g < w.heap.size ∧ 1 ≤ c ∧ w.cell? ⟨g, 0, none⟩ = some (.pointer (some ⟨p, 0, none⟩)) ∧ InX w S x p
  | .n2 o x y, b => ∃ g c p q, S b ∧ S g ∧ Hd w b o (.slice (some ⟨g, 0, none⟩) 2 c) (Nd.n2 o x y).text ∧ g < w.heap.size ∧ 2 ≤ c ∧ w.cell? ⟨g, 0, none⟩ = some (.pointer (some ⟨p, 0, none⟩)) ∧ w.cell? ⟨g, 1, none⟩ = some (.pointer (some ⟨q, 0, none⟩)) ∧ InX w S x p ∧ InX w S y q
  | .n3 o x y z, b => ∃ g c p q r, S b ∧ S g ∧ Hd w b o (.slice (some ⟨g, 0, none⟩) 3 c) (Nd.n3 o x y z).text ∧ g < w.heap.size ∧ 3 ≤ c ∧ w.cell? ⟨g, 0, none⟩ = some (.pointer (some ⟨p, 0, none⟩)) ∧ w.cell? ⟨g, 1, none⟩ = some (.pointer (some ⟨q, 0, none⟩)) ∧ w.cell? ⟨g, 2, none⟩ = some (.pointer (some ⟨r, 0, none⟩)) ∧ InX w S x p ∧ InX w S y q ∧ InX w S z r

theorem InX.in_ {w : World} {S : Nat → Prop} : ∀ {k : Nd} {b : Nat}, InX w S k b → In w k b := by
  intro k
  induction k with
  | n0 o => intro b h; exact h.2
  | n1 o x ih => rintro b ⟨g, c, p, _, _, h, hg, hc, h1, h2⟩; exact ⟨g, c, p, h, hg, hc, h1, ih h2⟩
  | n2 o x y ih ih2 => rintro b ⟨g, c, p, q, _, _, h, hg, hc, h1, h2, h3, h4⟩; exact ⟨g, c, p, q, h, hg, hc, h1, h2, ih h3, ih2 h4⟩
  | n3 o x y z ih ih2 ih3 => rintro b ⟨g, c, p, q, r, _, _, h, hg, hc, h1, h2, h3, h4, h5, h6⟩; exact ⟨g, c, p, q, r, h, hg, hc, h1, h2, h3, ih h4, ih2 h5, ih3 h6⟩
theorem Hd.keep {w w' : World} {b : Nat} {o : UInt8} {sl : Value} {t : List UInt8} (h : Hd w b o sl t) (hz : w.heap.size ≤ w'.heap.size) (hb : w'.heap[b]? = w.heap[b]?) : Hd w' b o sl t := by
  obtain ⟨h0, h1, h2, h3⟩ := h
  exact ⟨by omega, (World.cell?_of_block (a := ⟨b, 0, none⟩) hb).trans h1, (World.cell?_of_block (a := ⟨b, 1, none⟩) hb).trans h2, (World.cell?_of_block (a := ⟨b, 2, none⟩) hb).trans h3⟩
theorem InX.keep {w w' : World} {S S' : Nat → Prop} (hz : w.heap.size ≤ w'.heap.size) (hS : ∀ x, S x → x < w.heap.size → S' x ∧ w'.heap[x]? = w.heap[x]?) : ∀ {k : Nd} {b : Nat}, InX w S k b → InX w' S' k b := by
  intro k
  have hd : ∀ {b : Nat} {o : UInt8} {sl : Value} {t : List UInt8}, S b → Hd w b o sl t → Hd w' b o sl t := fun hb h => h.keep hz (hS _ hb h.1).2
  have hc : ∀ {g i : Nat} {v : Value}, S g → g < w.heap.size → w.cell? ⟨g, i, none⟩ = some v → w'.cell? ⟨g, i, none⟩ = some v := fun {g i _} hg hl h => (World.cell?_of_block (a := ⟨g, i, none⟩) (hS g hg hl).2).trans h
  induction k with
  | n0 o => intro b h; exact ⟨(hS _ h.1 h.2.1).1, hd h.1 h.2⟩
  | n1 o x ih =>
    rintro b ⟨g, c, p, s1, s2, h, hg, hl, h1, h2⟩
    exact ⟨g, c, p, (hS _ s1 h.1).1, (hS _ s2 hg).1, hd s1 h, by omega, hl, hc s2 hg h1, ih h2⟩
  | n2 o x y ih ih2 =>
    rintro b ⟨g, c, p, q, s1, s2, h, hg, hl, h1, h2, h3, h4⟩
    exact ⟨g, c, p, q, (hS _ s1 h.1).1, (hS _ s2 hg).1, hd s1 h, by omega, hl, hc s2 hg h1, hc s2 hg h2, ih h3, ih2 h4⟩
  | n3 o x y z ih ih2 ih3 =>
    rintro b ⟨g, c, p, q, r, s1, s2, h, hg, hl, h1, h2, h3, h4, h5, h6⟩
    exact ⟨g, c, p, q, r, (hS _ s1 h.1).1, (hS _ s2 hg).1, hd s1 h, by omega, hl, hc s2 hg h1, hc s2 hg h2, hc s2 hg h3, ih h4, ih2 h5, ih3 h6⟩

theorem quiet_off {P : Program} {f : FuncId} {args : Array Value} {w : World} {n : Nat} {v : Value}
    (h : Calls P f args (w.drewN n) fun e w' => e = .returned v ∧ w.drewN n = w') : Calls P f args (w.drewN n) fun e w'' => e = .returned v ∧ ∃ m, w'' = w.drewN m :=
  h.mono fun _ _ ⟨he, hm⟩ => ⟨he, n, hm.symm⟩
theorem len_S (S : ByteArray) : S.data.toList.length = S.size := by rw [Array.length_toList]; rfl
theorem u8_ne {c : UInt8} (n : Nat) (h : ¬ c = UInt8.ofNat n) (hn : n < 256) : ((c.toNat : Int) == (n : Int)) = false := by
  have : ¬ c.toNat = n := fun e => h (by apply UInt8.toNat_inj.1; rw [e, UInt8.toNat_ofNat']; exact (Nat.mod_eq_of_lt hn).symm)
  simp; omega
theorem ret_int {k : IntKind} {a b : Int} (h : a = b) : Ending.returned (.int k a) = .returned (.int k b) := by rw [h]
theorem ret_bool {a b : Bool} (h : a = b) : Ending.returned (.bool a) = .returned (.bool b) := by rw [h]

end Go.Proofs.Ytehpmglbbalelaa

/- The state between the statements of read: what is known of memory there, and what is still to be read. -/
namespace Go.Proofs.Ytehpmglbbalelaa
open Go.RowKit
open Pl

/-! ### the state between the statements of read -/
def pv (p : Nat) : Value := .pointer (some ⟨p, 0, none⟩)
def Kids (w : World) (S : Nat → Prop) : List Nd → List Nat → Prop
  | [], [] => True
  | k :: ks, p :: ps => InX w S k p ∧ Kids w S ks ps
  | _, _ => False
theorem Kids.keep {w w' : World} {S S' : Nat → Prop} (hz : w.heap.size ≤ w'.heap.size) (hS : ∀ x, S x → x < w.heap.size → S' x ∧ w'.heap[x]? = w.heap[x]?) : ∀ {ks : List Nd} {ps : List Nat}, Kids w S ks ps → Kids w' S' ks ps
  | [], [], _ => trivial
  | _ :: _, _ :: _, h => ⟨h.1.keep hz hS, Kids.keep hz hS h.2⟩
theorem Kids.snoc {w : World} {S : Nat → Prop} {k : Nd} {p : Nat} (hk : InX w S k p) : ∀ {ks : List Nd} {ps : List Nat}, Kids w S ks ps → Kids w S (ks ++ [k]) (ps ++ [p])
  | [], [], _ => ⟨hk, trivial⟩
  | _ :: _, _ :: _, h => ⟨h.1, Kids.snoc hk h.2⟩
theorem Kids.len {w : World} {S : Nat → Prop} : ∀ {ks : List Nd} {ps : List Nat}, Kids w S ks ps → ks.length = ps.length
  | [], [], _ => rfl
  | _ :: _, _ :: _, h => by simp [Kids.len h.2]

def Wants (TI : TypeId) (w : World) (A : Option Addr) (ws : List Nat) : Prop :=
  (ws = [] ∧ A = none) ∨ ∃ g, A = some ⟨g, 0, none⟩ ∧ Blk w g TI ((ws.map fun s : Nat => Value.int .i64 (s : Int)).toArray)

structure St (TR TT PT TI : TypeId) (w : World) (rb : Nat) (S : ByteArray) (wd : Bool) (c : UInt8) (ws : List Nat) (A : Option Addr) (done : List Nd) (q : Nat) (kv : Value) (ps : List Nat) (wx : World) : Prop where
  wants : Wants TI wx A ws
  q_le : q ≤ S.size
  rdr : Blk wx rb TR #[.string S, .int .i64 (q : Int), .bool wd]
  node : Blk wx w.heap.size TT #[.int .u8 c.toNat, kv, .string ⟨#[]⟩]
  row : wx.ownsRow (w.heap.size + 1) PT 1 kv done.length (ps.map pv)
  nil_ : done = [] → kv = .slice none 0 0
  kids : Kids wx (fun x => w.heap.size < x ∧ kv.ownBlock ≠ some x) done ps
  grown : w.grownBy wx (some rb)

def fin (F : Nat → List UInt8 → Option (Nd × List UInt8)) (c : UInt8) (ws : List Nat) (done : List Nd) (l : List UInt8) : Option (Nd × List UInt8) :=
  match rdL F ws l with
  | none => none
  | some (ks, r) => some (mk c (done ++ ks), r)
theorem fin_nil (F : Nat → List UInt8 → Option (Nd × List UInt8)) (c : UInt8) (done : List Nd) (l : List UInt8) : fin F c [] done l = some (mk c done, l) := by simp [fin, rdL]
theorem fin_none {F : Nat → List UInt8 → Option (Nd × List UInt8)} {c : UInt8} {s : Nat} {ws : List Nat} {done : List Nd} {l : List UInt8} (h : F s l = none) : fin F c (s :: ws) done l = none := by simp [fin, rdL, h]
theorem fin_some {F : Nat → List UInt8 → Option (Nd × List UInt8)} {c : UInt8} {s : Nat} {ws : List Nat} {done : List Nd} {l r : List UInt8} {k : Nd} (h : F s l = some (k, r)) : fin F c (s :: ws) done l = fin F c ws (done ++ [k]) r := by
  simp only [fin, rdL, h]
  cases rdL F ws r with
  | none => rfl
  | some p => simp

def ReadPost (TR : TypeId) (w : World) (rb : Nat) (S : ByteArray) (wd : Bool) (o : Option (Nd × List UInt8)) (e : Ending) (w' : World) : Prop :=
  w.grownBy w' (some rb) ∧ match o with
  | none => e = .returned (.pointer none)
  | some (k, r) => ∃ b q, e = .returned (.pointer (some ⟨b, 0, none⟩)) ∧ InX w' (fun x => w.heap.size ≤ x) k b ∧ q ≤ S.size ∧ S.data.toList.drop q = r ∧ Blk w' rb TR #[.string S, .int .i64 (q : Int), .bool wd]

theorem readPost_none {TR : TypeId} {w : World} {rb : Nat} {S : ByteArray} {wd : Bool} {o : Option (Nd × List UInt8)} {e : Ending} {w' : World} (ho : o = none) (he : e = .returned (.pointer none)) (hg : w.grownBy w' (some rb)) : ReadPost TR w rb S wd o e w' := by
  subst ho; exact ⟨hg, he⟩

theorem drop_cons {S : ByteArray} {p : Nat} (h : p < S.size) : S.data.toList.drop p = S[p] :: S.data.toList.drop (p + 1) := by
  have : p < S.data.toList.length := by simpa using h
  rw [List.drop_eq_getElem_cons this]; rfl
theorem extract_text {S : ByteArray} {p q : Nat} {t : List UInt8} (hq : q ≤ S.size) (h : S.data.toList.drop p = t ++ S.data.toList.drop q) (hp : p ≤ S.size) : p + t.length = q ∧ S.extract p q = ⟨t.toArray⟩ := by
  have hl := congrArg List.length h
  simp only [List.length_drop, List.length_append, Array.length_toList] at hl
  have hs : S.data.size = S.size := rfl
  have e : p + t.length = q := by omega
  refine ⟨e, ?_⟩
  apply ByteArray.ext
  apply Array.toList_inj.1
  rw [ByteArray.data_extract, Array.toList_extract, List.extract_eq_take_drop, h]
  have : q - p = t.length := by omega
  rw [this]
  simp

theorem rd_end {wd : Bool} {n so : Nat} {S : ByteArray} : rd wd n so (S.data.toList.drop S.size) = none := by
  rw [List.drop_of_length_le (by rw [Array.length_toList]; exact Nat.le_refl _)]
  cases n <;> rfl

theorem Blk.ne_ {w : World} {g g' : Nat} {t t' : TypeId} {cs cs' : Array Value} (h : Blk w g t cs) (h' : Blk w g' t' cs') (hne : t ≠ t') : g ≠ g' := by
  rintro rfl
  unfold Blk at h h'
  rw [h] at h'
  injection h' with h'
  injection h' with _ ht
  exact hne ht
theorem own_blk_ne {w : World} {g : Nat} {t : TypeId} {cs : Array Value} {base : Nat} {e : TypeId} {size n : Nat} {v : Value} {xs : List Value} (h : w.ownsRow base e size v n xs) (hg : Blk w g t cs) (hne : e ≠ t) : v.ownBlock ≠ some g := by
  rcases h.2 with ⟨rfl, _⟩ | ⟨g', cap, cur, rfl, _, hh, _⟩
  · simp [Value.ownBlock]
  · intro he
    have : g' = g := by simpa [Value.ownBlock] using he
    subst this
    exact Blk.ne_ (t := e) hh hg hne rfl
theorem heap_setCell {w : World} {p : Addr} {u : Value} {k : Nat} (h : k ≠ p.block) : (w.setCell p u).heap[k]? = w.heap[k]? := Below.heap_setCell _ _ _ _ h

section
variable {TR TT PT TI : TypeId} {w : World} {rb : Nat} {S : ByteArray} {wd : Bool} {c : UInt8} {ws : List Nat} {A : Option Addr} {done : List Nd} {q : Nat} {kv : Value} {ps : List Nat} {wr w' w2 : World}

theorem St.mid (h : St TR TT PT TI w rb S wd c ws A done q kv ps wr) (n1 : TT ≠ TR) (n2 : PT ≠ TT) (n3 : PT ≠ TR) (hg : wr.grownBy w' (some rb)) :
    Blk w' w.heap.size TT #[.int .u8 c.toNat, kv, .string ⟨#[]⟩] ∧ w'.ownsRow (w.heap.size + 1) PT 1 kv done.length (ps.map pv) ∧ kv.ownBlock ≠ some w.heap.size ∧ w.heap.size < w'.heap.size := by
  have hn := h.node
  have b1 : Blk w' w.heap.size TT #[.int .u8 c.toNat, kv, .string ⟨#[]⟩] := hn.grown hg (fun e => hn.ne_ h.rdr n1 (by injection e))
  exact ⟨b1, h.row.kept hg (.inr (own_blk_ne h.row h.rdr n3)), own_blk_ne h.row hn n2, b1.lt⟩

theorem St.snoc (h : St TR TT PT TI w rb S wd c ws A done q kv ps wr) (n1 : TT ≠ TR) (n2 : PT ≠ TT) (n3 : PT ≠ TR) (n4 : PT ≠ TI) (n5 : TI ≠ TR) (n6 : TI ≠ TT) (hrb : rb < w.heap.size)
    (hg : wr.grownBy w' (some rb)) {k : Nd} {b q2 : Nat} (hin : InX w' (fun x => wr.heap.size ≤ x) k b) (hq : q2 ≤ S.size) (hr : Blk w' rb TR #[.string S, .int .i64 (q2 : Int), .bool wd])
    {o : Obj} {v' : Value} (hown : w2.ownsRow (w.heap.size + 1) PT 1 v' (done.length + 1) (ps.map pv ++ [pv b])) (hgr : (w'.alloc o).grownBy w2 kv.ownBlock)
    (hat : v'.ownBlock = kv.ownBlock ∨ v'.ownBlock = some (w'.alloc o).heap.size) :
    St TR TT PT TI w rb S wd c ws A (done ++ [k]) q2 v' (ps ++ [b]) (w2.setCell ⟨w.heap.size, 1, none⟩ v') := by
  obtain ⟨m1, m2, m3, m4⟩ := h.mid n1 n2 n3 hg
  have z1 := hg.size
  have z2 := hgr.size
  have z0 : (w'.alloc o).heap.size = w'.heap.size + 1 := by simp
  have hlt1 : ∀ g, kv.ownBlock = some g → g < wr.heap.size := fun g e => (h.row.lt g e).2
  have z3 : (w2.setCell ⟨w.heap.size, 1, none⟩ v').heap.size = w2.heap.size := by simp [World.setCell]
  have hstep : ∀ x, x < w'.heap.size → kv.ownBlock ≠ some x → x ≠ w.heap.size → (w2.setCell ⟨w.heap.size, 1, none⟩ v').heap[x]? = w'.heap[x]? := by
    intro x hx hk hne
    rw [heap_setCell (by exact hne), hgr.block x (by omega) (fun e => hk e.symm), Below.heap_alloc _ _ _ hx]
  have hnew : ∀ x, x < w'.heap.size → kv.ownBlock ≠ some x → v'.ownBlock ≠ some x := by
    intro x hx hk
    rcases hat with e | e <;> rw [e]
    · exact hk
    · intro e2; injection e2 with e2; omega
  refine ⟨?_, hq, ?_, ?_, ?_, ?_, ?_, ?_⟩
  · rcases h.wants with h1 | ⟨g, hA, hb⟩
    · exact .inl h1
    · refine .inr ⟨g, hA, ?_⟩
      have hb1 : Blk w' g TI _ := hb.grown hg (fun e => hb.ne_ h.rdr n5 (by injection e))
      exact (hstep g hb1.lt (own_blk_ne m2 hb1 n4) (hb1.ne_ m1 n6)).trans hb1
  · exact (hstep rb hr.lt (own_blk_ne m2 hr n3) (by omega)).trans hr
  · have hb2 : Blk w2 w.heap.size TT #[.int .u8 c.toNat, kv, .string ⟨#[]⟩] := (m1.alloc o).grown hgr (fun e => m3 e.symm)
    exact hb2.set_ 1 v'
  · have := ownsRow_setCell_below (a := ⟨w.heap.size, 1, none⟩) hown (by show w.heap.size < w.heap.size + 1; omega) v'
    simpa using this
  · intro e; simp at e
  · refine Kids.snoc (hin.keep (by omega) fun x hx hlt => ?_) (h.kids.keep (by omega) fun x hx hlt => ?_)
    · have hk : kv.ownBlock ≠ some x := fun e => by have := hlt1 x e; omega
      have hn := h.node.lt
      exact ⟨⟨by omega, hnew x hlt hk⟩, hstep x hlt hk (by omega)⟩
    · refine ⟨⟨hx.1, hnew x (by omega) hx.2⟩, ?_⟩
      rw [hstep x (by omega) hx.2 (by have := hx.1; omega)]
      exact hg.block x hlt (fun e => by injection e with e; have := hx.1; omega)
  · have g1 := grown_step h.grown hg (fun g e => .inl e)
    have g2 := grown_step g1 (World.grownBy_alloc w' o none) (fun g e => by cases e)
    have g3 := grown_step g2 hgr (fun g e => .inr (by have := (h.row.lt g e).1; omega))
    exact grown_step g3 (grownBy_setCell w2 ⟨w.heap.size, 1, none⟩ v') (fun g e => .inr (by injection e with e; subst e; exact Nat.le_refl _))

/-- the node's own new block -/
theorem St.start {p : Nat} (hp : p + 1 ≤ S.size) (hr : Blk w rb TR #[.string S, .int .i64 (p : Int), .bool wd]) (m : Nat) (z : Int) (hz : z = ((p + 1 : Nat) : Int)) :
    St TR TT PT TI w rb S wd c [] none [] (p + 1) (.slice none 0 0) [] (((w.drewN m).setCell ⟨rb, 1, none⟩ (.int .i64 z)).alloc (.cells #[.int .u8 c.toNat, .slice none 0 0, .string ⟨#[]⟩] TT)) := by
  subst hz
  have h1 := (hr.drewN m).set_ 1 (.int .i64 ((p + 1 : Nat) : Int))
  have hz : ((w.drewN m).setCell ⟨rb, 1, none⟩ (.int .i64 ((p + 1 : Nat) : Int))).heap.size = w.heap.size := by simp [World.setCell]
  have hl := hr.lt
  have hnew := Blk.new ((w.drewN m).setCell ⟨rb, 1, none⟩ (.int .i64 ((p + 1 : Nat) : Int))) TT #[.int .u8 c.toNat, .slice none 0 0, .string ⟨#[]⟩]
  rw [hz] at hnew
  refine ⟨.inl ⟨rfl, rfl⟩, hp, ?_, hnew, World.ownsRow_nil _ _ _ _, fun _ => rfl, trivial, ?_⟩
  · have := h1.alloc (.cells #[.int .u8 c.toNat, .slice none 0 0, .string ⟨#[]⟩] TT)
    simpa using this
  · have g1 := grown_step (row := some rb) (grownBy_drewN w m (some rb)) (grownBy_setCell (w.drewN m) ⟨rb, 1, none⟩ (.int .i64 ((p + 1 : Nat) : Int))) (fun g e => .inl e)
    exact grown_step g1 (World.grownBy_alloc _ _ none) (fun g e => by cases e)

/-- a new block of what is wanted -/
theorem St.want_ (h : St TR TT PT TI w rb S wd c [] none [] q kv [] wr) (ws : List Nat) (cs : Array Value) (hcs : cs = (ws.map fun s : Nat => Value.int .i64 (s : Int)).toArray) :
    St TR TT PT TI w rb S wd c ws (some ⟨wr.heap.size, 0, none⟩) [] q kv [] (wr.alloc (.cells cs TI)) := by
  subst hcs
  exact ⟨.inr ⟨_, rfl, Blk.new _ _ _⟩, h.q_le, h.rdr.alloc _, h.node.alloc _, h.row.alloc _, h.nil_, trivial, grown_step h.grown (World.grownBy_alloc wr _ none) (fun g e => by cases e)⟩

/-- the letter of an assignment's variable: its node, and the reader one letter on -/
theorem St.letter (h : St TR TT PT TI w rb S wd c [] none [] q (.slice none 0 0) [] wr) (n1 : TT ≠ TR) (v : UInt8) (q2 : Nat) (m : Nat) (w3 : World)
    (hw3 : w3 = ((wr.drewN m).alloc (.cells #[.int .u8 v.toNat, .slice none 0 0, .string ⟨#[v]⟩] TT)).setCell ⟨rb, 1, none⟩ (.int .i64 (q2 : Int))) :
    Blk w3 rb TR #[.string S, .int .i64 (q2 : Int), .bool wd] ∧ Blk w3 w.heap.size TT #[.int .u8 c.toNat, .slice none 0 0, .string ⟨#[]⟩] ∧ Blk w3 wr.heap.size TT #[.int .u8 v.toNat, .slice none 0 0, .string ⟨#[v]⟩] ∧ w.grownBy w3 (some rb) ∧ w.heap.size < wr.heap.size ∧ w3.heap.size = wr.heap.size + 1 := by
  subst hw3
  have r1 := h.rdr.lt
  have t1 := h.node.lt
  have e1 := h.node.ne_ h.rdr n1
  refine ⟨?_, ?_, ?_, ?_, t1, ?_⟩
  · have := ((h.rdr.drewN m).alloc (.cells #[.int .u8 v.toNat, .slice none 0 0, .string ⟨#[v]⟩] TT)).set_ 1 (.int .i64 (q2 : Int))
    simpa using this
  · exact ((h.node.drewN m).alloc _).far (by exact e1) _
  · exact (Blk.new (wr.drewN m) TT _).far (by show wr.heap.size ≠ rb; omega) _
  · have g1 := grown_step h.grown (grownBy_drewN wr m none) (fun g e => by cases e)
    have g2 := grown_step g1 (World.grownBy_alloc (wr.drewN m) (.cells #[.int .u8 v.toNat, .slice none 0 0, .string ⟨#[v]⟩] TT) none) (fun g e => by cases e)
    exact grown_step g2 (grownBy_setCell _ ⟨rb, 1, none⟩ (.int .i64 (q2 : Int))) (fun g e => .inl e)
  · simp [World.setCell]

/-- an assignment's two parts are laid -/
theorem St.two {w3 : World} {v : UInt8} {vb b q2 : Nat} {k : Nd} (hrb : rb < w.heap.size)
    (t3 : Blk w3 w.heap.size TT #[.int .u8 c.toNat, .slice none 0 0, .string ⟨#[]⟩]) (v3 : Blk w3 vb TT #[.int .u8 v.toNat, .slice none 0 0, .string ⟨#[v]⟩]) (hvb : w.heap.size < vb)
    (g3 : w.grownBy w3 (some rb)) (hg : w3.grownBy w' (some rb)) (hin : InX w' (fun x => w3.heap.size ≤ x) k b) (hq : q2 ≤ S.size) (hr : Blk w' rb TR #[.string S, .int .i64 (q2 : Int), .bool wd]) :
    St TR TT PT TI w rb S wd c [] none [.n0 v, k] q2 (.slice (some ⟨w'.heap.size, 0, none⟩) 2 2) [vb, b] ((w'.alloc (.cells #[pv vb, pv b] PT)).setCell ⟨w.heap.size, 1, none⟩ (.slice (some ⟨w'.heap.size, 0, none⟩) 2 2)) := by
  have lt3 := t3.lt
  have ltv := v3.lt
  have z := hg.size
  have ltr := hr.lt
  have t4 : Blk w' w.heap.size TT #[.int .u8 c.toNat, .slice none 0 0, .string ⟨#[]⟩] := t3.grown hg (by intro e; injection e with e; omega)
  have v4 : Blk w' vb TT #[.int .u8 v.toNat, .slice none 0 0, .string ⟨#[v]⟩] := v3.grown hg (by intro e; injection e with e; omega)
  have hstep : ∀ x, x < w'.heap.size → x ≠ w.heap.size → ((w'.alloc (.cells #[pv vb, pv b] PT)).setCell ⟨w.heap.size, 1, none⟩ (.slice (some ⟨w'.heap.size, 0, none⟩) 2 2)).heap[x]? = w'.heap[x]? := fun x hx hne => by
    rw [heap_setCell (by exact hne), Below.heap_alloc _ _ _ hx]
  have hz : ((w'.alloc (.cells #[pv vb, pv b] PT)).setCell ⟨w.heap.size, 1, none⟩ (.slice (some ⟨w'.heap.size, 0, none⟩) 2 2)).heap.size = w'.heap.size + 1 := by simp [World.setCell]
  refine ⟨.inl ⟨rfl, rfl⟩, hq, (hstep rb ltr (by omega)).trans hr, ?_, ?_, (fun e => by cases e), ⟨?_, ?_, trivial⟩, ?_⟩
  · have := (t4.alloc (.cells #[pv vb, pv b] PT)).set_ 1 (.slice (some ⟨w'.heap.size, 0, none⟩) 2 2)
    simpa using this
  · have hnew := (Blk.new w' PT #[pv vb, pv b]).far (p := ⟨w.heap.size, 1, none⟩) (by show w'.heap.size ≠ w.heap.size; omega) (.slice (some ⟨w'.heap.size, 0, none⟩) 2 2)
    exact ⟨rfl, .inr ⟨w'.heap.size, 2, #[pv vb, pv b], rfl, by omega, hnew, Nat.le_refl _, by simp [maxLen], rfl, rfl⟩⟩
  · have hv : Blk _ vb TT #[.int .u8 v.toNat, .slice none 0 0, .string ⟨#[v]⟩] := (hstep vb v4.lt (by omega)).trans v4
    exact ⟨⟨hvb, by simp [Value.ownBlock]; have := v4.lt; omega⟩, hv.lt, by rw [hv.cell]; rfl, by rw [hv.cell]; rfl, by rw [hv.cell]; rfl⟩
  · exact hin.keep (by omega) fun x hx hlt => ⟨⟨by omega, by simp [Value.ownBlock]; omega⟩, hstep x hlt (by omega)⟩
  · have g1 := grown_step g3 hg (fun g e => .inl e)
    have g2 := grown_step g1 (World.grownBy_alloc w' (.cells #[pv vb, pv b] PT) none) (fun g e => by cases e)
    exact grown_step g2 (grownBy_setCell _ ⟨w.heap.size, 1, none⟩ (.slice (some ⟨w'.heap.size, 0, none⟩) 2 2)) (fun g e => .inr (by injection e with e; subst e; exact Nat.le_refl _))

/-- the node is whole: its text is laid -/
theorem St.end_ (h : St TR TT PT TI w rb S wd c ws A done q kv ps wr) (hrb : rb < w.heap.size) (hd : done.length ≤ 3) {p n so : Nat} (hp : p ≤ S.size) (hso : so ≤ 2)
    {o : Option (Nd × List UInt8)} (ho : rd wd n so (S.data.toList.drop p) = o) (hf : o = some (Pl.mk c done, S.data.toList.drop q)) (m : Nat) :
    ReadPost TR w rb S wd o (.returned (.pointer (some ⟨w.heap.size, 0, none⟩))) ((wr.drewN m).setCell ⟨w.heap.size, 2, none⟩ (.string (S.extract p q))) := by
  subst hf
  obtain ⟨e1, _⟩ := rd_sound wd n so _ _ _ hso ho
  obtain ⟨e2, e3⟩ := extract_text h.q_le e1 hp
  rw [e3]
  generalize hW : (wr.drewN m).setCell ⟨w.heap.size, 2, none⟩ (.string ⟨(Pl.mk c done).text.toArray⟩) = W3
  have hblk : ∀ x, x ≠ w.heap.size → W3.heap[x]? = wr.heap[x]? := fun x hx => by rw [← hW, heap_setCell (by exact hx)]; rfl
  have hz : W3.heap.size = wr.heap.size := by rw [← hW]; simp [World.setCell]
  have hn : Blk W3 w.heap.size TT #[.int .u8 c.toNat, kv, .string ⟨(Pl.mk c done).text.toArray⟩] := by rw [← hW]; exact (h.node.drewN m).set_ 2 _
  have hhd : Hd W3 w.heap.size c kv (Pl.mk c done).text := ⟨hn.lt, by rw [hn.cell]; rfl, by rw [hn.cell]; rfl, by rw [hn.cell]; rfl⟩
  have hg : w.grownBy W3 (some rb) := by
    have g1 := grown_step h.grown (grownBy_drewN wr m none) (fun g e => by cases e)
    have g2 := grown_step g1 (grownBy_setCell (wr.drewN m) ⟨w.heap.size, 2, none⟩ (.string ⟨(Pl.mk c done).text.toArray⟩)) (fun g e => .inr (by injection e with e; subst e; exact Nat.le_refl _))
    rw [← hW]; exact g2
  refine ⟨hg, w.heap.size, q, rfl, ?_, h.q_le, rfl, (hblk rb (by omega)).trans h.rdr⟩
  have hkids : Kids W3 (fun x => w.heap.size ≤ x) done ps := h.kids.keep (by omega) fun x hx _ => ⟨by have := hx.1; omega, hblk x (by have := hx.1; omega)⟩
  have hrow : ∀ j u, (ps.map pv)[j]? = some u → ∀ g, kv.ownBlock = some g → W3.cell? ⟨g, j, none⟩ = some u := by
    intro j u hu g hk
    have h1 := h.row.cells hk j u hu
    have hadd : (⟨g, 0, none⟩ : Addr).add j = ⟨g, j, none⟩ := by unfold Addr.add; split <;> simp_all
    rw [hadd] at h1
    exact (World.cell?_of_block (a := ⟨g, j, none⟩) (hblk g (by have := (h.row.lt g hk).1; omega))).trans h1
  have hform : 0 < done.length → ∃ g cap, kv = .slice (some ⟨g, 0, none⟩) done.length cap ∧ w.heap.size + 1 ≤ g ∧ g < wr.heap.size ∧ done.length ≤ cap := by
    intro hpos
    rcases h.row.2 with ⟨_, h0⟩ | ⟨g, cap, cur, hv, hb, hh, hc, _⟩
    · omega
    · exact ⟨g, cap, hv, hb, (Array.getElem?_eq_some_iff.1 hh).1, hc⟩
  match done, ps, hkids, hd, hhd, hform, hrow with
  | [], _, _, _, hhd, _, _ =>
    rw [h.nil_ rfl] at hhd
    exact ⟨Nat.le_refl _, hhd⟩
  | [x], [p1], hk, _, hhd, hform, hrow =>
    obtain ⟨g, cap, rfl, hb, hl, hc⟩ := hform (by simp)
    exact ⟨g, cap, p1, Nat.le_refl _, by show w.heap.size ≤ g; omega, hhd, by omega, hc, hrow 0 _ rfl g rfl, hk.1⟩
  | [x, y], [p1, p2], hk, _, hhd, hform, hrow =>
    obtain ⟨g, cap, rfl, hb, hl, hc⟩ := hform (by simp)
    exact ⟨g, cap, p1, p2, Nat.le_refl _, by show w.heap.size ≤ g; omega, hhd, by omega, hc, hrow 0 _ rfl g rfl, hrow 1 _ rfl g rfl, hk.1, hk.2.1⟩
  | [x, y, z], [p1, p2, p3], hk, _, hhd, hform, hrow =>
    obtain ⟨g, cap, rfl, hb, hl, hc⟩ := hform (by simp)
    exact ⟨g, cap, p1, p2, p3, Nat.le_refl _, by show w.heap.size ≤ g; omega, hhd, by omega, hc, hrow 0 _ rfl g rfl, hrow 1 _ rfl g rfl, hrow 2 _ rfl g rfl, hk.1, hk.2.1, hk.2.2.1⟩
  | _ :: _ :: _ :: _ :: _, _, _, hd, _, _, _ => simp at hd
end

end Go.Proofs.Ytehpmglbbalelaa

/- A list of bytes as a string; where a node's parts lie in a text. -/
namespace Go.Proofs.Ytehpmglbbalelaa
open Go.RowKit
open Pl

def bs (l : List UInt8) : ByteArray := ⟨l.toArray⟩
theorem bs_size (l : List UInt8) : (bs l).size = l.length := by show l.toArray.size = _; simp
theorem bs_app (a b : List UInt8) : bs a ++ bs b = bs (a ++ b) := by unfold bs; rw [ByteArray.mk_append_mk]
theorem bs_list (l : List UInt8) : (bs l).data.toList = l := rfl
theorem bs_of (S : ByteArray) : bs S.data.toList = S := by unfold bs; rfl

/-- where a node's parts lie in a text -/
theorem parts_two {S : ByteArray} {p : Nat} {o : UInt8} {a b : Nd} {r : List UInt8} (hd : S.data.toList.drop p = (Nd.n2 o a b).text ++ r) :
    ∃ hp : p < S.size, S[p] = o ∧ S.data.toList.drop (p + 1) = a.text ++ (b.text ++ r) ∧ S.data.toList.drop (p + 1 + a.text.length) = b.text ++ r ∧ p + 1 + a.text.length + b.text.length ≤ S.size ∧ (p : Int) + (Nd.n2 o a b).text.length = (p : Int) + 1 + a.text.length + b.text.length := by
  have hlen := len_S S
  simp only [Nd.text, List.cons_append, List.append_assoc] at hd
  have hll := congrArg List.length hd
  simp only [List.length_drop, List.length_cons, List.length_append] at hll
  have hp : p < S.size := by omega
  have h1 := drop_cons hp
  rw [hd] at h1
  simp only [List.cons.injEq] at h1
  have hd1 := h1.2.symm
  refine ⟨hp, h1.1.symm, hd1, by rw [← List.drop_drop, hd1]; simp, by omega, by simp [Nd.text]; omega⟩
theorem parts_one {S : ByteArray} {p : Nat} {o : UInt8} {a : Nd} {r : List UInt8} (hd : S.data.toList.drop p = (Nd.n1 o a).text ++ r) :
    ∃ hp : p < S.size, S[p] = o ∧ S.data.toList.drop (p + 1) = a.text ++ r ∧ p + 1 + a.text.length ≤ S.size ∧ (p : Int) + (Nd.n1 o a).text.length = (p : Int) + 1 + a.text.length := by
  have hlen := len_S S
  simp only [Nd.text, List.cons_append] at hd
  have hll := congrArg List.length hd
  simp only [List.length_drop, List.length_cons, List.length_append] at hll
  have hp : p < S.size := by omega
  have h1 := drop_cons hp
  rw [hd] at h1
  simp only [List.cons.injEq] at h1
  exact ⟨hp, h1.1.symm, h1.2.symm, by omega, by simp [Nd.text]; omega⟩
theorem parts_nil {S : ByteArray} {p : Nat} {c : UInt8} {r : List UInt8} (hd : S.data.toList.drop p = (Nd.n0 c).text ++ r) : ∃ hp : p < S.size, S[p] = c := by
  have hlen := len_S S
  have hll := congrArg List.length hd
  simp [Nd.text] at hll
  have hp : p < S.size := by omega
  have h1 := drop_cons hp
  rw [hd] at h1
  simp [Nd.text] at h1
  exact ⟨hp, h1.1.symm⟩

theorem bs_cons (o : UInt8) (a : List UInt8) : bs (o :: a) = (⟨#[o]⟩ : ByteArray) ++ bs a := by
  rw [show (⟨#[o]⟩ : ByteArray) = bs [o] from rfl, bs_app]; rfl
theorem bs_two (o : UInt8) (a b : Nd) : bs (Nd.n2 o a b).text = (⟨#[o]⟩ : ByteArray) ++ bs a.text ++ bs b.text := by
  rw [show (⟨#[o]⟩ : ByteArray) = bs [o] from rfl, bs_app, bs_app]; rfl

end Go.Proofs.Ytehpmglbbalelaa

/- Rows of bytes that a call has made: []byte(s), a store, string(b). -/
namespace Go.Proofs.Ytehpmglbbalelaa
open Go.RowKit
open Pl

/-- block g begins with these bytes, which may be written -/
structure ByteRow (w : World) (g : Nat) (l : List UInt8) : Prop where
  lt : g < w.heap.size
  cell : ∀ i (h : i < l.length), w.cell? ⟨g, i, none⟩ = some (.int .u8 (l[i].toNat : Int))
  free : ∀ i, i < l.length → w.frozen? ⟨g, i, none⟩ = false
section
variable {w w' : World} {g : Nat} {l : List UInt8}
theorem ByteRow.at_ (h : ByteRow w g l) {i : Nat} {c : UInt8} (hi : i < l.length) (hc : l[i] = c) : w.cell? ⟨g, i, none⟩ = some (.int .u8 (c.toNat : Int)) := by rw [h.cell i hi, hc]
theorem ByteRow.keep (h : ByteRow w g l) (hz : w.heap.size ≤ w'.heap.size) (hb : w'.heap[g]? = w.heap[g]?) : ByteRow w' g l :=
  ⟨Nat.lt_of_lt_of_le h.lt hz, fun i hi => (World.cell?_of_block (a := ⟨g, i, none⟩) hb).trans (h.cell i hi), fun i hi => (World.frozen?_of_block (a := ⟨g, i, none⟩) hb).trans (h.free i hi)⟩
theorem ByteRow.below {B : Nat} (h : ByteRow w g l) (hb : Below B w w') (hg : g < B) : ByteRow w' g l := h.keep hb.size (hb.block g hg)
theorem ByteRow.call (h : ByteRow w g l) (hb : Below w.heap.size w w') : ByteRow w' g l := h.below hb h.lt
theorem ByteRow.far (h : ByteRow w g l) {p : Addr} (hp : g ≠ p.block) (u : Value) : ByteRow (w.setCell p u) g l :=
  h.keep (by simp [World.setCell]) (Below.heap_setCell w p u g hp)
theorem ByteRow.drewN (h : ByteRow w g l) (n : Nat) : ByteRow (w.drewN n) g l := h.keep (Nat.le_refl _) rfl
theorem ByteRow.drew (h : ByteRow w g l) : ByteRow w.drew g l := h.keep (Nat.le_refl _) rfl
theorem ByteRow.alloc (h : ByteRow w g l) (o : Obj) : ByteRow (w.alloc o) g l := h.keep (by simp) (Below.heap_alloc w o g h.lt)
theorem ByteRow.put (h : ByteRow w g l) {i : Nat} (hi : i < l.length) (c : UInt8) : ByteRow (w.setCell ⟨g, i, none⟩ (.int .u8 (c.toNat : Int))) g (l.set i c) := by
  refine ⟨by simpa [World.setCell] using h.lt, fun j hj => ?_, fun j hj => ?_⟩
  · have hj' : j < l.length := by simpa using hj
    by_cases hij : i = j
    · subst hij
      rw [List.getElem_set_self]
      exact World.cell?_setCell_same w _ _ (h.cell i hi)
    · rw [List.getElem_set_ne (by omega)]
      exact (World.cell?_setCell_other w _ _ _ (by intro e; injection e; omega)).trans (h.cell j hj')
  · rw [World.frozen?_setCell]
    exact h.free j (by simpa using hj)
end

theorem bytes_new (w : World) (s : ByteArray) : ∃ (cap : Nat) (w' : World), (convert 9 31 (.string s)).run Try.prog w = .ok (.slice (some ⟨w.heap.size, 0, none⟩) s.size cap) w' ∧ ByteRow w' w.heap.size s.data.toList ∧ Below w.heap.size w w' := by
  refine ⟨_, _, run_bytes_of_string w 9 31 5 s Try.underlying9 Try.underlying31 Try.underlying5, ?_, ?_⟩
  · generalize grownCap w s.size 0 5 = cap
    have hb : (w.drew.alloc (.cells (bytesRow s cap) 5 ((bytesRow s cap).size, (bytesRow s cap).size + 1))).heap[w.heap.size]? = some (.cells (bytesRow s cap) 5 ((bytesRow s cap).size, (bytesRow s cap).size + 1)) := by
      show (w.heap.push _)[w.heap.size]? = _
      simp
    have hz : s.size ≤ (bytesRow s cap).size := by
      have : s.data.size = s.size := rfl
      simp [bytesRow]
    refine ⟨by show w.heap.size < (w.heap.push _).size; simp, fun i hi => ?_, fun i hi => ?_⟩
    · have hi' : i < s.size := by simpa using hi
      have hd : i < s.data.size := hi'
      rw [cell_of_row _ _ i _ _ _ hb]
      simp [bytesRow, Array.getElem?_append, hi']
    · have hi' : i < s.size := by simpa using hi
      unfold World.frozen?
      rw [hb]
      simp
      omega
  · exact ((Below.refl _ _ : Below w.heap.size w w).trans (⟨rfl, rfl, rfl, Nat.le_refl _, fun _ _ => rfl⟩ : Below w.heap.size w w.drew)).alloc (Nat.le_refl _) _

theorem bytes_back {w : World} {g : Nat} {l : List UInt8} (h : ByteRow w g l) {n : Nat} (hn : n = l.length) (cap : Nat) :
    (convert 31 9 (.slice (some ⟨g, 0, none⟩) n cap)).run Try.prog w = .ok (.string ⟨l.toArray⟩) w := by
  subst hn
  exact run_convert_bytes_back w 31 9 5 ⟨g, 0, none⟩ cap l Try.underlying31 Try.underlying5 Try.underlying9 (fun j hj => by
    have : (⟨g, 0, none⟩ : Addr).add j = ⟨g, j, none⟩ := by unfold Addr.add; split <;> simp_all
    rw [this]; exact h.cell j hj)

end Go.Proofs.Ytehpmglbbalelaa

/- Words on memory: one call behind another. -/
namespace Go.Proofs.Ytehpmglbbalelaa
open Go.RowKit
theorem below_2 {a b c : World} (h1 : Below a.heap.size a b) (h2 : Below b.heap.size b c) : Below a.heap.size a c := h1.trans (h2.mono h1.size)
end Go.Proofs.Ytehpmglbbalelaa

/- Steps of a chain of calls, blocks laid between them. -/
namespace Go.Proofs.Ytehpmglbbalelaa
open Go.RowKit
open Pl

theorem below_a1 {w a c : World} {o : Obj} (h1 : Below w.heap.size w a) (h2 : Below (a.alloc o).heap.size (a.alloc o) c) : Below w.heap.size w c :=
  below_2 (h1.alloc h1.size o) h2
theorem below_a2 {w a c : World} {o o' : Obj} (h1 : Below w.heap.size w a) (h2 : Below ((a.alloc o).alloc o').heap.size ((a.alloc o).alloc o') c) : Below w.heap.size w c :=
  below_a1 (h1.alloc h1.size o) h2
theorem below_a3 {w a c : World} {o o' o'' : Obj} (h1 : Below w.heap.size w a) (h2 : Below (((a.alloc o).alloc o').alloc o'').heap.size (((a.alloc o).alloc o').alloc o'') c) : Below w.heap.size w c :=
  below_a2 (h1.alloc h1.size o) h2
theorem below_q {w a : World} (h1 : Below w.heap.size w a) (n : Nat) : Below w.heap.size w (a.drewN n) := h1.trans (below_drewN _ _ _)
theorem below_drew (B : Nat) (w : World) : Below B w w.drew := ⟨rfl, rfl, rfl, Nat.le_refl _, fun _ _ => rfl⟩
theorem drew_cell (w : World) (a : Addr) : w.drew.cell? a = w.cell? a := rfl
theorem cellB {W : World} {b i : Nat} {o : Obj} (h : b < W.heap.size) : (W.alloc o).cell? ⟨b, i, none⟩ = W.cell? ⟨b, i, none⟩ := World.cell?_of_block (a := ⟨b, i, none⟩) (Below.heap_alloc W o b h)
/-- three cells of a block, carried over a call -/
theorem carry3 {w W W' : World} {b : Nat} {v0 v1 v2 : Value} (B : Hid (Below w.heap.size w W)) (hb : Below W.heap.size W W') (hy : b < W.heap.size)
    (h0 : W.cell? ⟨b, 0, none⟩ = some v0) (h1 : W.cell? ⟨b, 1, none⟩ = some v1) (h2 : W.cell? ⟨b, 2, none⟩ = some v2) :
    W'.cell? ⟨b, 0, none⟩ = some v0 ∧ W'.cell? ⟨b, 1, none⟩ = some v1 ∧ W'.cell? ⟨b, 2, none⟩ = some v2 ∧ b < W'.heap.size ∧ Hid (Below w.heap.size w W') :=
  ⟨(hb.cell (p := ⟨b, 0, none⟩) hy).trans h0, (hb.cell (p := ⟨b, 1, none⟩) hy).trans h1, (hb.cell (p := ⟨b, 2, none⟩) hy).trans h2, Nat.lt_of_lt_of_le hy hb.size, below_2 B.out hb⟩
theorem carry6 {w W W' : World} {b c : Nat} {v0 v1 v2 u0 u1 u2 : Value} (B : Hid (Below w.heap.size w W)) (hb : Below W.heap.size W W') (hy : b < W.heap.size) (hz : c < W.heap.size)
    (h0 : W.cell? ⟨b, 0, none⟩ = some v0) (h1 : W.cell? ⟨b, 1, none⟩ = some v1) (h2 : W.cell? ⟨b, 2, none⟩ = some v2)
    (g0 : W.cell? ⟨c, 0, none⟩ = some u0) (g1 : W.cell? ⟨c, 1, none⟩ = some u1) (g2 : W.cell? ⟨c, 2, none⟩ = some u2) :
    W'.cell? ⟨b, 0, none⟩ = some v0 ∧ W'.cell? ⟨b, 1, none⟩ = some v1 ∧ W'.cell? ⟨b, 2, none⟩ = some v2 ∧ W'.cell? ⟨c, 0, none⟩ = some u0 ∧ W'.cell? ⟨c, 1, none⟩ = some u1 ∧ W'.cell? ⟨c, 2, none⟩ = some u2 ∧ b < W'.heap.size ∧ c < W'.heap.size ∧ Hid (Below w.heap.size w W') := by
  obtain ⟨a0, a1, a2, a3, a4⟩ := carry3 B hb hy h0 h1 h2
  obtain ⟨c0, c1, c2, c3, _⟩ := carry3 B hb hz g0 g1 g2
  exact ⟨a0, a1, a2, c0, c1, c2, a3, c3, a4⟩
theorem below_n (w : World) (o : Obj) : Below w.heap.size w (w.alloc o) := (Below.refl _ _).alloc (Nat.le_refl _) o

/-- a world that is only told of what lay in w, and of some cells -/
structure Sit (w W : World) (l : List (Addr × Value)) : Prop where
  below : Below w.heap.size w W
  cells : ∀ p ∈ l, p.1.block < W.heap.size ∧ W.cell? p.1 = some p.2
/-- a new block, none of those cells' -/
structure New (w W : World) (l : List (Addr × Value)) (g : Nat) (t : TypeId) (cs : Array Value) : Prop where
  blk : Blk W g t cs
  ge : w.heap.size ≤ g
  ne : ∀ p ∈ l, p.1.block ≠ g
section
variable {w W W' : World} {l : List (Addr × Value)} {g : Nat} {t : TypeId} {cs : Array Value} {o : Obj}
theorem Sit.call (H : Sit w W l) (hb : Below W.heap.size W W') : Sit w W' l :=
  ⟨below_2 H.below hb, fun p hp => ⟨Nat.lt_of_lt_of_le (H.cells p hp).1 hb.size, (hb.cell (p := p.1) (H.cells p hp).1).trans (H.cells p hp).2⟩⟩
theorem Sit.alloc (H : Sit w W l) (o : Obj) : Sit w (W.alloc o) l := H.call (below_n W o)
theorem Sit.drew (H : Sit w W l) : Sit w W.drew l := H.call (below_drew _ _)
theorem Sit.drewN (H : Sit w W l) (n : Nat) : Sit w (W.drewN n) l := H.call (below_drewN _ _ _)
theorem Sit.calla (H : Sit w W l) (hb : Below (W.alloc o).heap.size (W.alloc o) W') : Sit w W' l := (H.alloc o).call hb
theorem Sit.less {l' : List (Addr × Value)} (H : Sit w W l) (h : ∀ p ∈ l', p ∈ l) : Sit w W l' := ⟨H.below, fun p hp => H.cells p (h p hp)⟩
theorem Sit.more {p : Addr} {v : Value} (H : Sit w W l) (hlt : p.block < W.heap.size) (h : W.cell? p = some v) : Sit w W ((p, v) :: l) :=
  ⟨H.below, fun q hq => by rcases List.mem_cons.1 hq with rfl | hq; exact ⟨hlt, h⟩; exact H.cells q hq⟩
theorem Sit.get {p : Addr} {v : Value} (H : Sit w W l) (h : (p, v) ∈ l) : W.cell? p = some v := (H.cells _ h).2
theorem Sit.c3 {a0 a1 a2 : Addr} {v0 v1 v2 : Value} (H : Sit w W [(a0, v0), (a1, v1), (a2, v2)]) : W.cell? a0 = some v0 ∧ W.cell? a1 = some v1 ∧ W.cell? a2 = some v2 :=
  ⟨H.get (by simp), H.get (by simp), H.get (by simp)⟩
theorem Sit.c4 {a0 a1 a2 a3 : Addr} {v0 v1 v2 v3 : Value} (H : Sit w W [(a0, v0), (a1, v1), (a2, v2), (a3, v3)]) : W.cell? a0 = some v0 ∧ W.cell? a1 = some v1 ∧ W.cell? a2 = some v2 ∧ W.cell? a3 = some v3 :=
  ⟨H.get (by simp), H.get (by simp), H.get (by simp), H.get (by simp)⟩
theorem Sit.c6 {a0 a1 a2 a3 a4 a5 : Addr} {v0 v1 v2 v3 v4 v5 : Value} (H : Sit w W [(a0, v0), (a1, v1), (a2, v2), (a3, v3), (a4, v4), (a5, v5)]) :
    W.cell? a0 = some v0 ∧ W.cell? a1 = some v1 ∧ W.cell? a2 = some v2 ∧ W.cell? a3 = some v3 ∧ W.cell? a4 = some v4 ∧ W.cell? a5 = some v5 :=
  ⟨H.get (by simp), H.get (by simp), H.get (by simp), H.get (by simp), H.get (by simp), H.get (by simp)⟩
theorem Sit.new (H : Sit w W l) (cs : Array Value) (t : TypeId) : New w (W.alloc (.cells cs t)) l W.heap.size t cs :=
  ⟨Blk.new W t cs, H.below.size, fun p hp e => by have := (H.cells p hp).1; omega⟩
theorem New.call (N : New w W l g t cs) (hb : Below W.heap.size W W') : New w W' l g t cs := ⟨N.blk.below hb N.blk.lt, N.ge, N.ne⟩
theorem Sit.newa (H : Sit w W l) (hb : Below (W.alloc (.cells cs t)).heap.size (W.alloc (.cells cs t)) W') : New w W' l W.heap.size t cs := (H.new cs t).call hb
theorem New.drew (N : New w W l g t cs) : New w W.drew l g t cs := ⟨N.blk, N.ge, N.ne⟩
theorem Sit.calld (H : Sit w W l) (hb : Below W.drew.heap.size W.drew W') : Sit w W' l := H.drew.call hb
theorem Sit.callad (H : Sit w W l) (hb : Below (W.alloc o).drew.heap.size (W.alloc o).drew W') : Sit w W' l := (H.alloc o).drew.call hb
theorem Sit.newad (H : Sit w W l) (hb : Below (W.alloc (.cells cs t)).drew.heap.size (W.alloc (.cells cs t)).drew W') : New w W' l W.heap.size t cs := (H.new cs t).drew.call hb
theorem Sit.put3 (H : Sit w W l) (N : New w W l g t cs) (x y z : Value) : Sit w (((W.setCell ⟨g, 0, none⟩ x).setCell ⟨g, 1, none⟩ y).setCell ⟨g, 2, none⟩ z) l := by
  refine ⟨((H.below.setCell N.ge _).setCell N.ge _).setCell N.ge _, fun p hp => ?_⟩
  obtain ⟨h1, h2⟩ := H.cells p hp
  have hne := N.ne p hp
  refine ⟨by simpa [World.setCell] using h1, (World.cell?_of_block ?_).trans h2⟩
  rw [Below.heap_setCell _ _ _ _ (by exact hne), Below.heap_setCell _ _ _ _ (by exact hne), Below.heap_setCell _ _ _ _ (by exact hne)]
theorem Sit.fresh (H : Sit w W l) : w.heap.size ≤ W.heap.size ∧ ∀ p ∈ l, p.1.block ≠ W.heap.size :=
  ⟨H.below.size, fun p hp e => by have := (H.cells p hp).1; omega⟩
theorem Sit.set (H : Sit w W l) (hg : w.heap.size ≤ g) (hn : ∀ p ∈ l, p.1.block ≠ g) (i : Nat) (v : Value) : Sit w (W.setCell ⟨g, i, none⟩ v) l := by
  refine ⟨H.below.setCell hg _, fun p hp => ?_⟩
  obtain ⟨h1, h2⟩ := H.cells p hp
  have hne := hn p hp
  refine ⟨by simpa [World.setCell] using h1, (World.cell?_of_block ?_).trans h2⟩
  rw [Below.heap_setCell _ _ _ _ (by exact hne)]
theorem New.put3 {a b c : Value} (N : New w W l g t #[a, b, c]) (x y z : Value) : New w (((W.setCell ⟨g, 0, none⟩ x).setCell ⟨g, 1, none⟩ y).setCell ⟨g, 2, none⟩ z) l g t #[x, y, z] := by
  refine ⟨?_, N.ge, N.ne⟩
  have := ((N.blk.set_ 0 x).set_ 1 y).set_ 2 z
  simpa using this
/-- a new block of three among the cells that are told of -/
theorem Sit.take3 {a b c : Value} (H : Sit w W l) (N : New w W l g t #[a, b, c]) : Sit w W ((⟨g, 0, none⟩, a) :: (⟨g, 1, none⟩, b) :: (⟨g, 2, none⟩, c) :: l) := by
  have hlt := N.blk.lt
  exact ((H.more (p := ⟨g, 2, none⟩) hlt (N.blk.cell 2)).more (p := ⟨g, 1, none⟩) hlt (N.blk.cell 1)).more (p := ⟨g, 0, none⟩) hlt (N.blk.cell 0)
theorem Sit.box3 {a b c : Value} (H : Sit w W l) (t : TypeId) : Sit w (W.alloc (.cells #[a, b, c] t)) ((⟨W.heap.size, 0, none⟩, a) :: (⟨W.heap.size, 1, none⟩, b) :: (⟨W.heap.size, 2, none⟩, c) :: l) :=
  (H.alloc _).take3 (H.new _ _)
theorem Sit.refl (w : World) : Sit w w [] := ⟨Below.refl _ _, fun p hp => by simp at hp⟩
end

/-! ### a region that draws its order, whose operations read told cells and whose callees make memory: one walk serves every order -/
section
variable {P : Program} {C : World → Prop}
theorem region_class {id : Nat} {Q : Exit → Act → World → Prop} {a : Act} {W : World} {l : List Oper} (C : World → Prop) (hm : P.follows .mixedOrders = true) (hB : Region.lexB .any l.toArray = true) (hC : C W.drew)
    (h : wpQuiet P l.toArray C (fun a' => ∀ w', C w' → Q .normal a' w') l a) : (Code.region id l.toArray true).wp P Q a W :=
  wp_region_quiet (C := C) hm hB hC (by simpa using h)
theorem quiet_value {o : Oper} {a : Act} {K : Act → Prop} {u : Value} (h : ∀ W, C W → (execOp a.eval o).run P W = .ok (.value u) W) (hk : K (a.put o.dst u)) : o.quiet P a C K :=
  ⟨u, fun w hw => by unfold Oper.quietAt; rw [h w hw]; exact ⟨rfl, rfl⟩, hk⟩
theorem quiet_call {o : Oper} {a : Act} {K : Act → Prop} {u : Value} {f : FuncId} {args : Array Value} (h : ∀ W, C W → (execOp a.eval o).run P W = .ok (.enter f args) W)
    (hc : ∀ W, C W → Calls P f args W fun e w'' => e = .returned u ∧ C w'') (hk : K (a.put o.dst u)) : o.quiet P a C K :=
  ⟨u, fun w hw => by unfold Oper.quietAt; rw [h w hw]; exact ⟨rfl, hc w hw⟩, hk⟩
end


end Go.Proofs.Ytehpmglbbalelaa

/- The contract of variable: a letter is that of a variable. -/
namespace Go.Proofs.Ytehpmglbbalelaa
open Go.RowKit
open Pl

set_option maxHeartbeats 1000000 in
theorem variable_yes (c : UInt8) (wd : Bool) (rb : Nat) (w : World) (c2 : w.cell? ⟨rb, 2, none⟩ = some (.bool wd)) (h : isV wd c = true) :
    Calls Try.prog 29 #[.pointer (some ⟨rb, 0, none⟩), .int .u8 c.toNat] w fun e w' => e = .returned (.bool true) ∧ w = w' := by
  simp only [isV, Bool.or_eq_true, Bool.and_eq_true, decide_eq_true_eq, UInt8.le_iff_toNat_le] at h
  simp only [UInt8.reduceToNat] at h
  generalize c.toNat = n at *
  by_cases h1 : 120 ≤ n
  · by_cases h2 : n ≤ 122
    · clear h c2
      go_enter Try.func29, Try.ntmps29
      go_wp2
      go_ret
      exact ⟨rfl, rfl⟩
    · exfalso; omega
  · have h3 : 88 ≤ n := by omega
    have h4 : n ≤ 90 := by omega
    obtain rfl : wd = true := by rcases h with h | h; omega; exact h.1
    clear h
    go_enter Try.func29, Try.ntmps29
    go_wp2
    go_ret
    exact ⟨ret_bool (by simp; omega), rfl⟩

set_option maxHeartbeats 1000000 in
theorem variable_no (c : UInt8) (wd : Bool) (rb : Nat) (w : World) (c2 : w.cell? ⟨rb, 2, none⟩ = some (.bool wd)) (h : isV wd c = false) :
    Calls Try.prog 29 #[.pointer (some ⟨rb, 0, none⟩), .int .u8 c.toNat] w fun e w' => e = .returned (.bool false) ∧ w = w' := by
  have h' : ¬ ((120 ≤ c.toNat ∧ c.toNat ≤ 122) ∨ (wd = true ∧ (88 ≤ c.toNat ∧ c.toNat ≤ 90))) := by
    intro hh
    have : isV wd c = true := by
      simp only [isV, Bool.or_eq_true, Bool.and_eq_true, decide_eq_true_eq, UInt8.le_iff_toNat_le]
      exact hh
    rw [this] at h; cases h
  clear h
  have hc := c.toNat_lt
  generalize c.toNat = n at *
  have f : wd = false ∨ n < 88 ∨ 90 < n := by
    cases wd
    · exact .inl rfl
    · by_cases h1 : 88 ≤ n
      · by_cases h2 : n ≤ 90
        · exact absurd (.inr ⟨rfl, h1, h2⟩) h'
        · exact .inr (.inr (by omega))
      · exact .inr (.inl (by omega))
  have g : n < 120 ∨ 122 < n := by
    by_cases h1 : 120 ≤ n
    · by_cases h2 : n ≤ 122
      · exact absurd (.inl ⟨h1, h2⟩) h'
      · exact .inr (by omega)
    · exact .inl (by omega)
  clear h'
  rcases f with rfl | f | f
  · rcases g with g | g
    all_goals
      go_enter Try.func29, Try.ntmps29
      go_wp2
      go_ret
      exact ⟨ret_bool (by simp <;> omega), rfl⟩
  · have g' : n < 120 := by omega
    clear g
    cases wd
    all_goals
      go_enter Try.func29, Try.ntmps29
      go_wp2
      go_ret
      exact ⟨ret_bool (by simp <;> omega), rfl⟩
  · rcases g with g | g <;> cases wd
    all_goals
      go_enter Try.func29, Try.ntmps29
      go_wp2
      go_ret
      exact ⟨ret_bool (by simp <;> omega), rfl⟩

end Go.Proofs.Ytehpmglbbalelaa
