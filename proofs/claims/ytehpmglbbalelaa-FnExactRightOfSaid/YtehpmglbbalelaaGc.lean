/- XGc: XDra XDrb XDrc XDrd XShl XDre XDrp put together. -/
import Derived.Test.YtehpmglbbalelaaRows
import Derived.Test.YtehpmglbbalelaaGb
import Derived.WalkLawsBesides
import Derived.Deep.QuietTactic
import Derived.BigQuiet
import Derived.Deep.RegionWith
import Derived.Deep.RegionHeld3
import Derived.ProofKit
import Derived.OpenShut
import Derived.ShutString
import Derived.ChangeOld
/- The source of drawn data: the contracts of l14Open, pick, of, num. -/
namespace Go.Proofs.Ytehpmglbbalelaa
open Go.RowKit
open Pl

/-- a row of n bytes of memory, none of them in block g -/
def Bytes (w : World) (A : Option Addr) (n : Nat) (g : Nat) : Prop :=
  n = 0 ∨ ∃ b off, A = some ⟨b, off, none⟩ ∧ b ≠ g ∧ b < w.heap.size ∧ ∀ i, i < n → ∃ v : Nat, v ≤ 255 ∧ w.cell? ⟨b, off + i, none⟩ = some (.int .u8 (v : Int))

theorem Bytes.keep {w w' : World} {A : Option Addr} {n g : Nat} (h : Bytes w A n g) (hg : w.grownBy w' (some g)) : Bytes w' A n g := by
  rcases h with h | ⟨b, off, hA, hne, hlt, hc⟩
  · exact .inl h
  · exact .inr ⟨b, off, hA, hne, Nat.lt_of_lt_of_le hlt hg.size, fun i hi => by
      obtain ⟨v, hv, hcell⟩ := hc i hi
      exact ⟨v, hv, hg.cell hcell (by intro e; injection e with e; exact hne e)⟩⟩


def InRange (k v : Int) : Prop := 0 ≤ v ∧ (1 ≤ k → v < k) ∧ (k < 1 → v = 0)

theorem ofInt_i64 (a : Nat) (ha : a < 9223372036854775808) : (BitVec.ofInt 64 (a : Int)).toNat = a := by
  rw [BitVec.ofInt_natCast, BitVec.toNat_ofNat]; exact Nat.mod_eq_of_lt (by omega)
theorem xor_nat (a : Nat) (ha : a < 1000000000000) : ∃ N : Nat, bits .xor .i64 (a : Int) ((a : Int) / 64) = (N : Int) := by
  have hb : a / 64 ≤ a := Nat.div_le_self _ _
  have hx : a ^^^ (a / 64) < 2 ^ 63 := Nat.xor_lt_two_pow (by omega) (by omega)
  refine ⟨a ^^^ (a / 64), ?_⟩
  have h64 : (a : Int) / 64 = ((a / 64 : Nat) : Int) := rfl
  rw [h64]
  show IntKind.i64.wrap ((BitVec.ofInt 64 (a : Int) ^^^ BitVec.ofInt 64 ((a / 64 : Nat) : Int)).toNat : Int) = _
  rw [BitVec.toNat_xor, ofInt_i64 a (by omega), ofInt_i64 (a / 64) (by omega), IntKind.wrap_i64]
  omega



theorem conv_one (n : Int) (W : World) : (convert 31 9 (.slice (some ⟨W.heap.size, 0, none⟩) 1 1)).run Try.prog (W.alloc (.cells #[.int .u8 n] 5)) = .ok (.string ⟨#[UInt8.ofNat n.toNat]⟩) (W.alloc (.cells #[.int .u8 n] 5)) :=
  run_convert_bytes_arg (P := Try.prog) _ 31 5 Try.underlying31 Try.underlying5 W.heap.size 0 1 1 [n] rfl (fun i hi => by
    obtain rfl : i = 0 := by omega
    rw [(Blk.new W _ _).cell]
    rfl) 9 Try.underlying9


end Go.Proofs.Ytehpmglbbalelaa

/- Drawn expressions and tests: strings of a bounded length, not empty; nothing that was there turns but the source. -/
namespace Go.Proofs.Ytehpmglbbalelaa
open Go.RowKit
open Pl

def cst : Nat → Nat
  | 0 => 4
  | d + 1 => 4 * cst d
theorem cst_pos : ∀ d, 4 ≤ cst d
  | 0 => Nat.le_refl _
  | d + 1 => by have := cst_pos d; simp only [cst]; omega

theorem grown_trans {a b c : World} {g : Nat} (h : a.grownBy b (some g)) (k : b.grownBy c (some g)) : a.grownBy c (some g) := grown_step h k (fun _ e => .inl e)
theorem grown_below {a b c : World} {g : Nat} (h : a.grownBy b (some g)) (k : Below b.heap.size b c) : a.grownBy c (some g) := grown_step h (grown_of_below k none) (fun _ e => by cases e)
theorem grown_alloc {a c : World} {g : Nat} {o : Obj} (k : (a.alloc o).grownBy c (some g)) : a.grownBy c (some g) := grown_trans (World.grownBy_alloc a o (some g)) k

theorem size_one (c : UInt8) : (⟨#[c]⟩ : ByteArray).size = 1 := rfl
theorem size_extract (S : ByteArray) (a b : Nat) (h : b ≤ S.size) : (S.extract a b).size = b - a := by rw [ByteArray.size_extract]; omega
theorem size_append (A B : ByteArray) : (A ++ B).size = A.size + B.size := ByteArray.size_append

end Go.Proofs.Ytehpmglbbalelaa

/- Drawn tests. -/
namespace Go.Proofs.Ytehpmglbbalelaa
open Go.RowKit
open Pl

def cstT : Nat → Nat
  | 0 => 64
  | d + 1 => 4 * cstT d
theorem cstT_pos : ∀ d, 64 ≤ cstT d
  | 0 => Nat.le_refl _
  | d + 1 => by have := cstT_pos d; simp only [cstT]; omega

end Go.Proofs.Ytehpmglbbalelaa

/- A drawn text that is sometimes spoilt; drawn states and letters. -/
namespace Go.Proofs.Ytehpmglbbalelaa
open Go.RowKit
open Pl


end Go.Proofs.Ytehpmglbbalelaa

/- What a law's walk is told of a slice of bytes that came in, and what drawing asks of it. -/
namespace Go.Proofs.Ytehpmglbbalelaa
open Go.ChangeShapes Go.WideShapes Go.ChangeAt Go.RowKit

/-- it is nil; or it leads to a row of 'cap' cells, the numbers 'zs' (the first 'len' are its elements), each fitting its kind -/
def IsRow (k : IntKind) (w : World) (a : Option Addr) (len cap : Nat) (zs : List Int) : Prop :=
  (a = none ∧ len = 0 ∧ cap = 0 ∧ zs = []) ∨
  ∃ x, a = some x ∧ len ≤ cap ∧ cap ≤ maxLen ∧ zs.length = cap ∧ (∀ i, i < zs.length → w.cell? (x.add i) = some (.int k (zs.getD i 0))) ∧ ∀ n ∈ zs, (Lit.int k n).wf = true

theorem bytes_of_row {w : World} {a : Option Addr} {len cap : Nat} {zs : List Int} (h : IsRow .u8 w a len cap zs) : Bytes w a len w.heap.size ∧ len ≤ cap ∧ cap ≤ 9223372036854775807 := by
  rcases h with ⟨rfl, rfl, rfl, rfl⟩ | ⟨x, rfl, hl, hm, hz, hcell, hwz⟩
  · exact ⟨.inl rfl, Nat.le_refl _, by omega⟩
  · unfold maxLen at hm
    refine ⟨?_, hl, by omega⟩
    by_cases h0 : len = 0
    · exact .inl h0
    · obtain ⟨b, off, spot⟩ := x
      have hc := hcell 0 (by omega)
      have hspot : spot = none := by simpa [Addr.add] using World.cell?_spot hc
      subst hspot
      have hadd : ∀ i, (⟨b, off, none⟩ : Addr).add i = ⟨b, off + i, none⟩ := by intro i; unfold Addr.add; split <;> simp_all
      have hlt := World.block_lt_of_cell? w _ hc
      rw [hadd] at hlt
      refine .inr ⟨b, off, rfl, by show b ≠ _; have : b < w.heap.size := hlt; omega, hlt, fun i hi => ?_⟩
      have hci := hcell i (by omega)
      rw [hadd] at hci
      have hwf := hwz (zs.getD i 0) (by rw [List.getD_eq_getElem?_getD, List.getElem?_eq_getElem (by omega), Option.getD_some]; exact List.getElem_mem _)
      have hb := bounds_u8 hwf
      refine ⟨(zs.getD i 0).toNat, by omega, ?_⟩
      rw [hci, Int.toNat_of_nonneg (by omega)]

end Go.Proofs.Ytehpmglbbalelaa

/- Drawn arguments: a string of a bounded length, in a world in which nothing that was there has turned. -/
namespace Go.Proofs.Ytehpmglbbalelaa
open Go.RowKit
open Pl

def TxtAny (w : World) (n : Nat) (e : Ending) (w' : World) : Prop := ∃ S : ByteArray, S.size ≤ n ∧ e = .returned (.string S) ∧ Below w.heap.size w w'
/-- what begins with a new source and draws from it turns nothing that was there -/
theorem below_drawn {w w1 w2 : World} (hb : Below w.heap.size w w1) (hg : w1.grownBy w2 (some w.heap.size)) : Below w.heap.size w w2 :=
  hb.trans (below_of_grown hg w.heap.size hb.size (fun g e => by injection e with e; omega))


end Go.Proofs.Ytehpmglbbalelaa

/- Drawn programs: strings of a bounded length; nothing that was there turns but the source. -/
namespace Go.Proofs.Ytehpmglbbalelaa
open Go.RowKit
open Pl

def cstP : Nat → Nat
  | 0 => 400
  | d + 1 => 4 * cstP d
theorem cstP_pos : ∀ d, 400 ≤ cstP d
  | 0 => Nat.le_refl _
  | d + 1 => by have := cstP_pos d; simp only [cstP]; omega

end Go.Proofs.Ytehpmglbbalelaa
