/- Drawn arguments: a string of a bounded length, in a world in which nothing that was there has turned. -/
import Derived.Test.YtppcghklkldnaaaDrc
import Derived.Test.YtppcghklkldnaaaDrd
namespace Go.Proofs.Ytppcghklkldnaaa
open Go.RowKit
open Pl

def TxtAny (w : World) (n : Nat) (e : Ending) (w' : World) : Prop := ∃ S : ByteArray, S.size ≤ n ∧ e = .returned (.string S) ∧ Below w.heap.size w w'
/-- what begins with a new source and draws from it turns nothing that was there -/
theorem below_drawn {w w1 w2 : World} (hb : Below w.heap.size w w1) (hg : w1.grownBy w2 (some w.heap.size)) : Below w.heap.size w w2 :=
  hb.trans (below_of_grown hg w.heap.size hb.size (fun g e => by injection e with e; omega))


end Go.Proofs.Ytppcghklkldnaaa
