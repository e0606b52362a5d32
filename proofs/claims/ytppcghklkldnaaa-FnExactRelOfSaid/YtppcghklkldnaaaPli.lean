/- Plain: texts of bitsN, filled from the left; the states with a number; the set of a test, the relation of a test. -/
import Derived.Test.YtppcghklkldnaaaPlf
namespace Go.Proofs.Ytppcghklkldnaaa
namespace Pl

def bitC (b : Bool) : UInt8 := if b then 49 else 48
def bitsN (n : Nat) (b : Nat → Bool) : List UInt8 := (List.range n).map (fun i => bitC (b i))
theorem bits_len (n : Nat) (b : Nat → Bool) : (bitsN n b).length = n := by simp [bitsN]
theorem bits_get {n : Nat} {b : Nat → Bool} {i : Nat} (h : i < (bitsN n b).length) : (bitsN n b)[i] = bitC (b i) := by simp [bitsN]
theorem bits_congr {n : Nat} {b c : Nat → Bool} (h : ∀ i, i < n → b i = c i) : bitsN n b = bitsN n c := by
  apply List.ext_getElem (by simp [bitsN])
  intro i h1 h2
  rw [bits_get, bits_get, h i (by simpa [bitsN] using h1)]
/-- a row filled up to a place, zero from there on -/
def fillN (l : List UInt8) (k : Nat) : List UInt8 := l.take k ++ List.replicate (l.length - k) 0
theorem part_zero (l : List UInt8) : fillN l 0 = List.replicate l.length 0 := by simp [fillN]
theorem part_all (l : List UInt8) : fillN l l.length = l := by simp [fillN]
theorem part_len (l : List UInt8) (k : Nat) (h : k ≤ l.length) : (fillN l k).length = l.length := by simp [fillN]; omega
theorem part_put {l : List UInt8} {k : Nat} (h : k < l.length) : (fillN l k).set k l[k] = fillN l (k + 1) := by
  simp only [fillN]
  rw [List.set_append, if_neg (by simp; omega)]
  have e : k - (List.take k l).length = 0 := by simp; omega
  have e2 : l.length - k = (l.length - (k + 1)) + 1 := by omega
  rw [e, e2, List.replicate_succ, List.set_cons_zero, List.take_succ_eq_append_getElem h, List.append_assoc]
  rfl
theorem part_put2 {l : List UInt8} {k : Nat} (h : k < l.length) (c : UInt8) : ((fillN l k).set k c).set k l[k] = fillN l (k + 1) := by
  rw [List.set_set, part_put h]

/-- the letters' values in the state with a number -/
def stX (i : Nat) : Int := (i : Int) % 3
def stY (i : Nat) : Int := (i : Int) / 3 % 3
def stZ (i : Nat) : Int := (i : Int) / 9
theorem stX_small (i : Nat) : small (stX i) := by unfold stX small; omega
theorem stY_small (i : Nat) : small (stY i) := by unfold stY small; omega
theorem stZ_small {i : Nat} (h : i < 27) : small (stZ i) := by unfold stZ small; omega
def predOf (k : Nd) : List UInt8 := bitsN 27 (fun i => tru (envOf (stX i) (stY i) (stZ i) 0 0 0) k)
def relB (k : Nd) (i j : Nat) : Bool := tru (envOf (stX i) (stY i) (stZ i) (stX j) (stY j) (stZ j)) k
def relOf (k : Nd) : List UInt8 := bitsN 729 (fun n => relB k (n / 27) (n % 27))
def optB (o : Option (List UInt8)) : List UInt8 :=
  match o with
  | some l => l
  | none => []

end Pl
end Go.Proofs.Ytppcghklkldnaaa
