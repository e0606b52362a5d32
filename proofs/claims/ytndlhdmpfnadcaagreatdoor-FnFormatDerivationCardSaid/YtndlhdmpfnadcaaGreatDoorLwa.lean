/- Small words of the laws and the reference's tests of whole texts: ppHas, ExprValid, TestValid. -/
import Derived.Test.YtndlhdmpfnadcaaGreatDoorSpa
import Derived.Test.YtndlhdmpfnadcaaGreatDoorGb
namespace Go.Proofs.YtndlhdmpfnadcaaGreatDoor
open Go.RowKit
open Pl

theorem extract_one {S : ByteArray} {k : Nat} (h : k < S.size) : S.extract k (k + 1) = ⟨#[S[k]]⟩ := by
  have h1 := drop_cons h
  exact (extract_text (S := S) (p := k) (q := k + 1) (t := [S[k]]) (by omega) (by simpa using h1) (by omega)).2

/-- a string has a letter -/
def hasB (l : List UInt8) (c : UInt8) : Bool := decide (c ∈ l)
end Go.Proofs.YtndlhdmpfnadcaaGreatDoor
