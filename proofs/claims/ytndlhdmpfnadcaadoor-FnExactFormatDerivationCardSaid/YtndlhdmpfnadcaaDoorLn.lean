/- Lines of a derivation: the number of references that a rule takes. -/
import Derived.Test.YtndlhdmpfnadcaaDoorRz
import Derived.Test.YtndlhdmpfnadcaaDoorHd
import Derived.Test.YtndlhdmpfnadcaaDoorPar
namespace Go.Proofs.YtndlhdmpfnadcaaDoor
open Go.RowKit
open Pl
set_option linter.unusedVariables false

def rfN (S : ByteArray) : Int :=
  if (S.toList == ([115, 101, 116] : List UInt8)) = true then 0 else
  if (S.toList == ([114, 117, 110] : List UInt8)) = true then 0 else
  if (S.toList == ([119, 101, 97, 107] : List UInt8)) = true then 1 else
  if (S.toList == ([119, 104, 105, 108, 101] : List UInt8)) = true then 1 else
  if (S.toList == ([115, 101, 113] : List UInt8)) = true then 2 else
  if (S.toList == ([115, 112, 108, 105, 116] : List UInt8)) = true then 2 else
  if (S.toList == ([108, 101, 102, 116] : List UInt8)) = true then 2 else
  if (S.toList == ([114, 105, 103, 104, 116] : List UInt8)) = true then 2 else
  if (S.toList == ([105, 102] : List UInt8)) = true then 4 else
  -1
theorem rfN_b (S : ByteArray) : -1 ≤ rfN S ∧ rfN S ≤ 4 := by unfold rfN; repeat (split; · omega); omega
end Go.Proofs.YtndlhdmpfnadcaaDoor
