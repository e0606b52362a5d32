/- Drawn arguments of FoldTest; ppSet. -/
import Derived.Test.YtccjmahhebiphaaDoorDrv
import Derived.Test.YtccjmahhebiphaaDoorGc
import Derived.Test.YtccjmahhebiphaaDoorGf
import Derived.Test.YtccjmahhebiphaaDoorFt
import Derived.Test.YtccjmahhebiphaaDoorBi
import Derived.Test.YtccjmahhebiphaaDoorPp
import Derived.Test.YtccjmahhebiphaaDoorGa
import Derived.Test.YtccjmahhebiphaaDoorGy
namespace Go.Proofs.YtccjmahhebiphaaDoor
open Go.RowKit
open Pl

set_option maxHeartbeats 1000000 in
theorem ppSet_any (S : ByteArray) (hS : S.size ≤ 1000000000000) (w : World) : Calls Tryd.prog 52 #[.string S] w fun e w' => (e = .returned (.string (bs (optB ((whole false 1 200 S.data.toList).map predOf)))) ∧ Below w.heap.size w w') := by
  have X := Lib.hid (PredOf_any S hS w)
  go_enter Tryd.func52, Tryd.ntmps52
  go_wp2_with fail
  refine X.out.mono ?_
  rintro e w1 ⟨rfl, hb1⟩
  have B1 := Lib.hid hb1
  clear hb1 X
  go_wp2_with fail
  go_ret
  exact ⟨rfl, B1.out⟩

end Go.Proofs.YtccjmahhebiphaaDoor
