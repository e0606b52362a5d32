/- Drawn expressions and tests: strings of a bounded length, not empty; nothing that was there turns but the source. -/
import Derived.Test.YtelnigihmdlfiaaDra
import Derived.Deep.RegionWith
namespace Go.Proofs.Ytelnigihmdlfiaa
open Go.RowKit
open Pl

def cst : Nat → Nat
  | 0 => 4
  | d + 1 => 4 * cst d
theorem cst_pos : ∀ d, 4 ≤ cst d
  | 0 => Nat.le_refl _
  | d + 1 => by have := cst_pos d; simp only [cst]; omega

theorem Rnd.lt {w : World} {g p : Nat} (h : Rnd w g p) : g < w.heap.size := by obtain ⟨A, n, cap, hb, _⟩ := h; exact hb.lt
theorem Rnd.keep {w w' : World} {g p : Nat} (h : Rnd w g p) (hg : w.grownBy w' none) : Rnd w' g p := by
  obtain ⟨A, n, cap, hb, hn, hy⟩ := h
  exact ⟨A, n, cap, hb.grown hg (by simp), hn, hy.keep ⟨hg.os, hg.tape, hg.output, hg.size, fun k hk _ => hg.block k hk (by simp)⟩⟩
theorem Rnd.alloc {w : World} {g p : Nat} (h : Rnd w g p) (o : Obj) : Rnd (w.alloc o) g p := h.keep (World.grownBy_alloc w o none)
theorem Rnd.drewN {w : World} {g p : Nat} (h : Rnd w g p) (n : Nat) : Rnd (w.drewN n) g p := h.keep (grownBy_drewN w n none)
theorem Rnd.below {w w' : World} {g p : Nat} (h : Rnd w g p) (hb : Below w.heap.size w w') : Rnd w' g p := h.keep (grown_of_below hb none)
theorem grown_trans {a b c : World} {g : Nat} (h : a.grownBy b (some g)) (k : b.grownBy c (some g)) : a.grownBy c (some g) := grown_step h k (fun _ e => .inl e)
theorem grown_below {a b c : World} {g : Nat} (h : a.grownBy b (some g)) (k : Below b.heap.size b c) : a.grownBy c (some g) := grown_step h (grown_of_below k none) (fun _ e => by cases e)
theorem grown_alloc {a c : World} {g : Nat} {o : Obj} (k : (a.alloc o).grownBy c (some g)) : a.grownBy c (some g) := grown_trans (World.grownBy_alloc a o (some g)) k

/-- a drawn string -/
def StrPost (w : World) (g p n k : Nat) (e : Ending) (w' : World) : Prop :=
  ∃ S : ByteArray, 1 ≤ S.size ∧ S.size ≤ n ∧ e = .returned (.string S) ∧ Drew w g p k w'
theorem strPost_mk {w w' : World} {g p n k q : Nat} {S : ByteArray} {e : Ending} (he : e = .returned (.string S)) (h1 : 1 ≤ S.size) (h2 : S.size ≤ n) (hg : w.grownBy w' (some g)) (hr : Rnd w' g q) (hp : p ≤ q) (hq : q ≤ p + k) : StrPost w g p n k e w' :=
  ⟨S, h1, h2, he, hg, q, hp, hq, hr⟩
theorem size_one (c : UInt8) : (⟨#[c]⟩ : ByteArray).size = 1 := rfl
theorem size_extract (S : ByteArray) (a b : Nat) (h : b ≤ S.size) : (S.extract a b).size = b - a := by rw [ByteArray.size_extract]; omega
theorem size_append (A B : ByteArray) : (A ++ B).size = A.size + B.size := ByteArray.size_append

end Go.Proofs.Ytelnigihmdlfiaa
