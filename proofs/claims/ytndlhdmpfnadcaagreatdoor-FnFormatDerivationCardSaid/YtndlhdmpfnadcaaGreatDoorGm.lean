/- XGm: XLn XLo XLp XLq XLr XLt XLu XLv XLy XLz put together. -/
import Derived.Test.YtndlhdmpfnadcaaGreatDoorGl
import Derived.Test.YtndlhdmpfnadcaaGreatDoorHd
import Derived.Test.YtndlhdmpfnadcaaGreatDoorPar
import Derived.Deep.OwnRows
/- Lines of a derivation: the number of references that a rule takes. -/
namespace Go.Proofs.YtndlhdmpfnadcaaGreatDoor
open Go.RowKit
open Pl
set_option linter.unusedVariables false

def rfN (S : ByteArray) : Int :=
  if (S.toList == ([115, 101, 116] : List UInt8)) = true then 0 else
  if (S.toList == ([114, 117, 110] : List UInt8)) = true then 0 else
  if (S.toList == ([119, 101, 97, 107] : List UInt8)) = true then 1 else
  if (S.toList == ([119, 104, 105, 108, 101] : List UInt8)) = true then 1 else
  if (S.toList == ([115, 101, 113] : List UInt8)) = true then 2 else
  if (S.toList == ([115, 112, 108, 105, 116] : List UInt8)) = true then 2 else
  if (S.toList == ([108, 101, 102, 116] : List UInt8)) = true then 2 else
  if (S.toList == ([114, 105, 103, 104, 116] : List UInt8)) = true then 2 else
  if (S.toList == ([105, 102] : List UInt8)) = true then 4 else
  -1
theorem rfN_b (S : ByteArray) : -1 ≤ rfN S ∧ rfN S ≤ 4 := by unfold rfN; repeat (split; · omega); omega
end Go.Proofs.YtndlhdmpfnadcaaGreatDoor

/- Lines: LineValid. -/
namespace Go.Proofs.YtndlhdmpfnadcaaGreatDoor
open Go.RowKit
open Pl
set_option linter.unusedVariables false

theorem purB {w w' : World} (h : w = w') : Below w.heap.size w w' := by subst h; exact Below.refl _ _
theorem drwB {w w' : World} (h : ∃ m, w' = w.drewN m) : Below w.heap.size w w' := by obtain ⟨m, rfl⟩ := h; exact below_drewN _ _ _
theorem Sit.box6 {w W : World} {l : List (Addr × Value)} {a b c d e f : Value} (H : Sit w W l) (t : TypeId) : Sit w (W.alloc (.cells #[a, b, c, d, e, f] t)) ((⟨W.heap.size, 0, none⟩, a) :: (⟨W.heap.size, 1, none⟩, b) :: (⟨W.heap.size, 2, none⟩, c) :: (⟨W.heap.size, 3, none⟩, d) :: (⟨W.heap.size, 4, none⟩, e) :: (⟨W.heap.size, 5, none⟩, f) :: l) := by
  have N := H.new #[a, b, c, d, e, f] t
  have hlt := N.blk.lt
  exact ((((((H.alloc _).more (p := ⟨_, 5, none⟩) hlt (N.blk.cell 5)).more (p := ⟨_, 4, none⟩) hlt (N.blk.cell 4)).more (p := ⟨_, 3, none⟩) hlt (N.blk.cell 3)).more (p := ⟨_, 2, none⟩) hlt (N.blk.cell 2)).more (p := ⟨_, 1, none⟩) hlt (N.blk.cell 1)).more (p := ⟨_, 0, none⟩) hlt (N.blk.cell 0)
def wpB (P : ByteArray) : Bool := (whole false 2 200 P.data.toList).isSome
/-- a line's validity -/
def lnV (R A P Q B : ByteArray) (n : Nat) : Bool := rfN R == (n : Int) && (bOk 729 A.data.toList && (bOk 729 B.data.toList && (wpB P && wpB Q)))
end Go.Proofs.YtndlhdmpfnadcaaGreatDoor

/- Lines: the law's own helpers: sizes. -/
namespace Go.Proofs.YtndlhdmpfnadcaaGreatDoor
open Go.RowKit
open Pl
set_option linter.unusedVariables false

/-- what is left behind a line's size -/
def leftV (left sum : Nat) : Int := if sum ≤ left then ((left - sum : Nat) : Int) else -1
theorem leftV_yes {left sum m : Nat} (h : sum + m = left) : leftV left sum = (m : Int) := by unfold leftV; rw [if_pos (by omega), show left - sum = m by omega]
theorem leftV_no {left sum : Nat} (h : left < sum) : leftV left sum = -1 := by unfold leftV; rw [if_neg (by omega)]
end Go.Proofs.YtndlhdmpfnadcaaGreatDoor

/- Rows of ints: the law's own copies and comparisons. -/
namespace Go.Proofs.YtndlhdmpfnadcaaGreatDoor
open Go.RowKit
open Pl
set_option linter.unusedVariables false

/-- an array of ints -/
def iv (n : Nat) (f : Nat → Int) : Array Value := ((List.range n).map (fun a => Value.int .i64 (f a))).toArray
theorem iv_size (n : Nat) (f : Nat → Int) : (iv n f).size = n := by simp [iv]
theorem iv_get {n : Nat} (f : Nat → Int) {a : Nat} (ha : a < n) : (iv n f)[a]? = some (.int .i64 (f a)) := by simp [iv, ha]
theorem iv_congr {n : Nat} {f g : Nat → Int} (h : ∀ a, a < n → f a = g a) : iv n f = iv n g := by
  unfold iv
  congr 1
  apply List.map_congr_left
  intro a ha
  rw [h a (by simpa using ha)]
theorem iv_ext {n : Nat} {C : Array Value} (f : Nat → Int) (hz : C.size = n) (h : ∀ i, i < n → C[i]? = some (.int .i64 (f i))) : C = iv n f := by
  apply Array.ext
  · rw [hz, iv_size]
  · intro i h1 h2
    have := h i (by omega)
    have h3 := iv_get f (show i < n by omega)
    rw [Array.getElem?_eq_getElem h1] at this
    rw [Array.getElem?_eq_getElem h2] at h3
    exact Option.some.inj (this.trans h3.symm)
/-- what is copied so far -/
def cpF (z : Nat → Int) (i : Nat) : Nat → Int := fun a => if a < i then z a else 0
theorem cpF_next {n : Nat} (z : Nat → Int) {i : Nat} (hi : i < n) : (iv n (cpF z i)).setIfInBounds i (.int .i64 (z i)) = iv n (cpF z (i + 1)) := by
  apply iv_ext _ (by simp [iv_size])
  intro j hj
  by_cases h : j = i
  · subst h
    rw [Array.getElem?_setIfInBounds_self_of_lt (by rw [iv_size]; exact hj)]
    simp [cpF]
  · rw [Array.getElem?_setIfInBounds_ne (fun e => h e.symm), iv_get _ hj]
    have : (j < i) ↔ (j < i + 1) := by omega
    simp [cpF, this]
theorem cpF_all {n : Nat} (z : Nat → Int) : iv n (cpF z n) = iv n z := iv_congr (fun a ha => if_pos ha)
theorem made_iv (n : Nat) (z : Nat → Int) : madeCells #[.int .i64 0] n = iv n (cpF z 0) := by
  apply iv_ext _ (size_madeCells _ _)
  intro i hi
  simp [madeCells, cpF, hi, Nat.mod_one]
/-- a row of ints that can be read -/
def IR (W : World) (s : Option Addr) (n : Nat) (z : Nat → Int) : Prop :=
  n = 0 ∨ ∃ b off, s = some ⟨b, off, none⟩ ∧ b < W.heap.size ∧ ∀ i, i < n → W.cell? ⟨b, off + i, none⟩ = some (.int .i64 (z i))
theorem IR.call {W W' : World} {s : Option Addr} {n : Nat} {z : Nat → Int} (h : IR W s n z) (hb : Below W.heap.size W W') : IR W' s n z := by
  rcases h with h | ⟨b, off, hs, hlt, hc⟩
  · exact .inl h
  · exact .inr ⟨b, off, hs, Nat.lt_of_lt_of_le hlt hb.size, fun i hi => (hb.cell (p := ⟨b, off + i, none⟩) hlt).trans (hc i hi)⟩
theorem IR.setCell {W : World} {g : Nat} {n : Nat} {z : Nat → Int} (h : IR W (some ⟨g, 0, none⟩) n z) {p : Addr} (hp : g ≠ p.block) (u : Value) : IR (W.setCell p u) (some ⟨g, 0, none⟩) n z := by
  rcases h with h | ⟨b, off, hs, hlt, hc⟩
  · exact .inl h
  · cases hs
    exact .inr ⟨g, 0, rfl, by simpa [World.setCell] using hlt, fun i hi => (World.cell?_of_block (Below.heap_setCell _ _ _ _ (by exact hp))).trans (hc i hi)⟩
theorem IR.of_blk {W : World} {g : Nat} {t : TypeId} {n : Nat} {z : Nat → Int} (h : Blk W g t (iv n z)) : IR W (some ⟨g, 0, none⟩) n z :=
  .inr ⟨g, 0, rfl, h.lt, fun i hi => by rw [Nat.zero_add]; exact (h.cell i).trans (iv_get z hi)⟩
theorem infoI : (Tryz.prog.info? 3).map (fun i => (i.zero, i.size, i.bytes)) = some (some (.int .i64 0), 1, 8) := by kernel_rfl
end Go.Proofs.YtndlhdmpfnadcaaGreatDoor

/- Lines: the law's own copies and comparisons. -/
namespace Go.Proofs.YtndlhdmpfnadcaaGreatDoor
open Go.RowKit
open Pl
set_option linter.unusedVariables false

end Go.Proofs.YtndlhdmpfnadcaaGreatDoor

/- Rows of lines: the number of lines with a rule. -/
namespace Go.Proofs.YtndlhdmpfnadcaaGreatDoor
open Go.RowKit
open Pl
set_option linter.unusedVariables false

/-- the data of a line -/
structure LnD where
  R : ByteArray
  A : ByteArray
  P : ByteArray
  Q : ByteArray
  B : ByteArray
  s : Option Addr
  n : Nat
  c : Nat
  z : Nat → Int
/-- a row of lines that can be read -/
def LR (W : World) (s : Option Addr) (n : Nat) (L : Nat → LnD) : Prop :=
  n = 0 ∨ ∃ b off, s = some ⟨b, off, none⟩ ∧ b < W.heap.size ∧ ∀ i, i < n →
    (W.cell? ⟨b, off + i * 6, none⟩ = some (.string (L i).R) ∧ W.cell? ⟨b, off + i * 6 + 1, none⟩ = some (.string (L i).A) ∧ W.cell? ⟨b, off + i * 6 + 2, none⟩ = some (.string (L i).P) ∧ W.cell? ⟨b, off + i * 6 + 3, none⟩ = some (.string (L i).Q) ∧ W.cell? ⟨b, off + i * 6 + 4, none⟩ = some (.string (L i).B) ∧ W.cell? ⟨b, off + i * 6 + 5, none⟩ = some (.slice (L i).s (L i).n (L i).c)) ∧
    IR W (L i).s (L i).n (L i).z ∧ (L i).n ≤ (L i).c
theorem LR.call {W W' : World} {s : Option Addr} {n : Nat} {L : Nat → LnD} (h : LR W s n L) (hb : Below W.heap.size W W') : LR W' s n L := by
  rcases h with h | ⟨b, off, hs, hlt, hc⟩
  · exact .inl h
  · refine .inr ⟨b, off, hs, Nat.lt_of_lt_of_le hlt hb.size, fun i hi => ?_⟩
    obtain ⟨⟨h0, h1, h2, h3, h4, h5⟩, hI, hn⟩ := hc i hi
    exact ⟨⟨(hb.cell (p := ⟨b, _, none⟩) hlt).trans h0, (hb.cell (p := ⟨b, _, none⟩) hlt).trans h1, (hb.cell (p := ⟨b, _, none⟩) hlt).trans h2, (hb.cell (p := ⟨b, _, none⟩) hlt).trans h3, (hb.cell (p := ⟨b, _, none⟩) hlt).trans h4, (hb.cell (p := ⟨b, _, none⟩) hlt).trans h5⟩, hI.call hb, hn⟩
def isR (L : Nat → LnD) (r : ByteArray) (i : Nat) : Bool := (L i).R.toList == r.toList
end Go.Proofs.YtndlhdmpfnadcaaGreatDoor

/- Rows of lines: the law's helper on sizes. -/
namespace Go.Proofs.YtndlhdmpfnadcaaGreatDoor
open Go.RowKit
open Pl
set_option linter.unusedVariables false

/-- a line's size -/
def szD (x : LnD) : Nat := x.R.size + x.A.size + x.P.size + x.Q.size + x.B.size + x.n
def smD (x : LnD) : Prop := (x.R.size ≤ 9223372036854775807 ∧ x.A.size ≤ 9223372036854775807 ∧ x.P.size ≤ 9223372036854775807 ∧ x.Q.size ≤ 9223372036854775807 ∧ x.B.size ≤ 9223372036854775807) ∧ x.n ≤ 9223372036854775807
end Go.Proofs.YtndlhdmpfnadcaaGreatDoor

/- Rows of lines: the law's own comparison. -/
namespace Go.Proofs.YtndlhdmpfnadcaaGreatDoor
open Go.RowKit
open Pl
set_option linter.unusedVariables false

/-- cells that are told of, and two rows of ints -/
structure EqC (w W : World) (l : List (Addr × Value)) (s t : Option Addr) (n : Nat) (z : Nat → Int) : Prop where
  sit : Sit w W l
  i1 : IR W s n z
  i2 : IR W t n z
theorem EqC.call {w W W' : World} {l : List (Addr × Value)} {s t : Option Addr} {n : Nat} {z : Nat → Int} (h : EqC w W l s t n z) (hb : Below W.heap.size W W') : EqC w W' l s t n z := ⟨h.sit.call hb, h.i1.call hb, h.i2.call hb⟩
theorem EqC.drew {w W : World} {l : List (Addr × Value)} {s t : Option Addr} {n : Nat} {z : Nat → Int} (h : EqC w W l s t n z) : EqC w W.drew l s t n z := h.call (below_drew _ _)
/-- two rows of lines hold the same -/
def SameL (n : Nat) (L1 L2 : Nat → LnD) : Prop := ∀ i, i < n → (L2 i).R = (L1 i).R ∧ (L2 i).A = (L1 i).A ∧ (L2 i).P = (L1 i).P ∧ (L2 i).Q = (L1 i).Q ∧ (L2 i).B = (L1 i).B ∧ (L2 i).n = (L1 i).n ∧ (L2 i).z = (L1 i).z ∧ (L1 i).n ≤ 1048576
end Go.Proofs.YtndlhdmpfnadcaaGreatDoor

/- Rows of lines: the array of a row's cells. -/
namespace Go.Proofs.YtndlhdmpfnadcaaGreatDoor
open Go.RowKit
open Pl
set_option linter.unusedVariables false

def fldV (x : LnD) : Nat → Value
  | 0 => .string x.R
  | 1 => .string x.A
  | 2 => .string x.P
  | 3 => .string x.Q
  | 4 => .string x.B
  | _ => .slice x.s x.n x.c
def zeroD : LnD := ⟨⟨#[]⟩, ⟨#[]⟩, ⟨#[]⟩, ⟨#[]⟩, ⟨#[]⟩, none, 0, 0, fun _ => 0⟩
def lvA (n : Nat) (M : Nat → LnD) : Array Value := ((List.range (n * 6)).map (fun j => fldV (M (j / 6)) (j % 6))).toArray
theorem lvA_size (n : Nat) (M : Nat → LnD) : (lvA n M).size = n * 6 := by simp [lvA]
theorem lvA_get {n : Nat} (M : Nat → LnD) {j : Nat} (hj : j < n * 6) : (lvA n M)[j]? = some (fldV (M (j / 6)) (j % 6)) := by simp [lvA, hj]
theorem lvA_cell {n : Nat} (M : Nat → LnD) {i k : Nat} (hi : i < n) (hk : k < 6) : (lvA n M)[i * 6 + k]? = some (fldV (M i) k) := by
  rw [lvA_get M (by omega), show (i * 6 + k) / 6 = i by omega, show (i * 6 + k) % 6 = k by omega]
theorem lvA_ext {n : Nat} {C : Array Value} (M : Nat → LnD) (hz : C.size = n * 6) (h : ∀ j, j < n * 6 → C[j]? = some (fldV (M (j / 6)) (j % 6))) : C = lvA n M := by
  apply Array.ext
  · rw [hz, lvA_size]
  · intro i h1 h2
    have h3 := h i (by omega)
    have h4 := lvA_get M (show i < n * 6 by omega)
    rw [Array.getElem?_eq_getElem h1] at h3
    rw [Array.getElem?_eq_getElem h2] at h4
    exact Option.some.inj (h3.trans h4.symm)
def updL (M : Nat → LnD) (a : Nat) (x : LnD) : Nat → LnD := fun i => if i = a then x else M i
/-- a line put into its place -/
theorem lvA_put {n : Nat} (M : Nat → LnD) {a : Nat} (ha : a < n) (x : LnD) :
    ((((((lvA n M).setIfInBounds (a * 6) (.string x.R)).setIfInBounds (a * 6 + 1) (.string x.A)).setIfInBounds (a * 6 + 2) (.string x.P)).setIfInBounds (a * 6 + 3) (.string x.Q)).setIfInBounds (a * 6 + 4) (.string x.B)).setIfInBounds (a * 6 + 5) (.slice x.s x.n x.c) = lvA n (updL M a x) := by
  apply lvA_ext _ (by simp [lvA_size])
  intro j hj
  simp only [Array.getElem?_setIfInBounds, Array.size_setIfInBounds, lvA_size, lvA_get M hj]
  by_cases h : j / 6 = a
  · have hk : j % 6 = 0 ∨ j % 6 = 1 ∨ j % 6 = 2 ∨ j % 6 = 3 ∨ j % 6 = 4 ∨ j % 6 = 5 := by omega
    have hu : updL M a x (j / 6) = x := if_pos h
    rw [hu]
    rcases hk with e | e | e | e | e | e
    all_goals (rw [e]; repeat' split)
    all_goals first | rfl | omega
  · have hu : updL M a x (j / 6) = M (j / 6) := if_neg h
    rw [hu]
    repeat' split
    all_goals first | rfl | omega
end Go.Proofs.YtndlhdmpfnadcaaGreatDoor

/- Rows of lines: the law's own copy. -/
namespace Go.Proofs.YtndlhdmpfnadcaaGreatDoor
open Go.RowKit
open Pl
set_option linter.unusedVariables false

def zL : Value := .agg #[.string ⟨#[]⟩, .string ⟨#[]⟩, .string ⟨#[]⟩, .string ⟨#[]⟩, .string ⟨#[]⟩, .slice none 0 0]
theorem infoL : (Tryz.prog.info? 28).map (fun i => (i.zero, i.size, i.bytes)) = some (some zL, 6, 104) := by kernel_rfl
theorem made_lv (n : Nat) : madeCells zL.cells (n * 6) = lvA n (fun _ => zeroD) := by
  apply lvA_ext _ (size_madeCells _ _)
  intro j hj
  have hk : j % 6 = 0 ∨ j % 6 = 1 ∨ j % 6 = 2 ∨ j % 6 = 3 ∨ j % 6 = 4 ∨ j % 6 = 5 := by omega
  have h1 : (madeCells zL.cells (n * 6))[j]? = some (zL.cells[j % 6]!) := by
    simp [madeCells, hj, zL, Value.cells]
  rw [h1]
  rcases hk with e | e | e | e | e | e <;> rw [e] <;> rfl
theorem make_lv (n : Nat) (hn : n ≤ 1048576) (w : World) : (Instr.makeSlice 23 (.int .i64 (n : Int)) (.int .i64 (n : Int))).run Tryz.prog w = .ok (.slice (some ⟨w.heap.size, 0, none⟩) n n) (w.alloc (.cells (lvA n (fun _ => zeroD)) 28)) := by
  obtain ⟨i, hi, hz⟩ := Option.map_eq_some_iff.1 infoL
  simp only [Prod.mk.injEq] at hz
  obtain ⟨h1, h2, h3⟩ := hz
  have h := run_make (P := Tryz.prog) w 23 28 i zL Tryz.underlying23 hi h1 .i64 .i64 (n : Int) (n : Int) (by omega) (Int.le_refl _) (by rw [h3]; omega) (by omega)
  rw [h2] at h
  simp only [Int.toNat_natCast] at h
  rw [made_lv] at h
  exact h
/-- a copied line -/
def cpD (x : LnD) (g : Nat) : LnD := { x with s := some ⟨g, 0, none⟩, c := x.n }
def Cpd (W : World) (g0 : Nat) (L M : Nat → LnD) (a : Nat) : Prop := ∀ i, i < a → ∃ g, g ≠ g0 ∧ M i = cpD (L i) g ∧ IR W (some ⟨g, 0, none⟩) (L i).n (L i).z
theorem Cpd.call {W W' : World} {g0 : Nat} {L M : Nat → LnD} {a : Nat} (h : Cpd W g0 L M a) (hb : Below W.heap.size W W') : Cpd W' g0 L M a := fun i hi => by
  obtain ⟨g, h1, h2, h3⟩ := h i hi
  exact ⟨g, h1, h2, h3.call hb⟩
theorem Cpd.set {W : World} {g0 : Nat} {L M : Nat → LnD} {a : Nat} (h : Cpd W g0 L M a) (k : Nat) (v : Value) : Cpd (W.setCell ⟨g0, k, none⟩ v) g0 L M a := fun i hi => by
  obtain ⟨g, h1, h2, h3⟩ := h i hi
  exact ⟨g, h1, h2, h3.setCell (p := ⟨g0, k, none⟩) h1 v⟩
theorem Cpd.next {W : World} {g0 g : Nat} {L M : Nat → LnD} {a : Nat} (h : Cpd W g0 L M a) (hg : g ≠ g0) (hi : IR W (some ⟨g, 0, none⟩) (L a).n (L a).z) : Cpd W g0 L (updL M a (cpD (L a) g)) (a + 1) := fun i hia => by
  by_cases e : i = a
  · subst e
    exact ⟨g, hg, if_pos rfl, hi⟩
  · obtain ⟨g', h1, h2, h3⟩ := h i (by omega)
    exact ⟨g', h1, (if_neg e).trans h2, h3⟩
end Go.Proofs.YtndlhdmpfnadcaaGreatDoor
