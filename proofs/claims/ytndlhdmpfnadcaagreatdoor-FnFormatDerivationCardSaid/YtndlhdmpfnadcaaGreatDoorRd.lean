/- The program's reader of texts: the contract of read: what is read is the node of the text, laid in new memory. -/
import Derived.Test.YtndlhdmpfnadcaaGreatDoorRows
import Derived.Test.YtndlhdmpfnadcaaGreatDoorGb
import Derived.Maps.AppendAt
namespace Go.Proofs.YtndlhdmpfnadcaaGreatDoor
open Go.RowKit
open Pl

theorem tree_info : (Tryz.prog.info? 144).map (fun i => (i.zero, i.size, i.bytes)) = some (some (.pointer none), 1, 8) := by kernel_rfl


end Go.Proofs.YtndlhdmpfnadcaaGreatDoor
