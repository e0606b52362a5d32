/- A drawn text that is sometimes spoilt; drawn states and letters. -/
import Derived.Test.YtppcghklkldnaaaDrb
import Derived.Deep.RegionHeld3
namespace Go.Proofs.Ytppcghklkldnaaa
open Go.RowKit
open Pl

/-- a drawn string that may be empty -/
def TxtPost (w : World) (g p n k : Nat) (e : Ending) (w' : World) : Prop :=
  ∃ S : ByteArray, S.size ≤ n ∧ e = .returned (.string S) ∧ Drew w g p k w'
theorem txtPost_mk {w w' : World} {g p n k q : Nat} {S : ByteArray} {e : Ending} (he : e = .returned (.string S)) (h2 : S.size ≤ n) (hg : w.grownBy w' (some g)) (hr : Rnd w' g q) (hp : p ≤ q) (hq : q ≤ p + k) : TxtPost w g p n k e w' :=
  ⟨S, h2, he, hg, q, hp, hq, hr⟩

end Go.Proofs.Ytppcghklkldnaaa
