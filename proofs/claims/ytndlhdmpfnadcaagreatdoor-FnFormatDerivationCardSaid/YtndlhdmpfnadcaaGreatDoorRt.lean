/- RelOf of the reference. -/
import Derived.Test.YtndlhdmpfnadcaaGreatDoorRr
import Derived.Test.YtndlhdmpfnadcaaGreatDoorGl
namespace Go.Proofs.YtndlhdmpfnadcaaGreatDoor
open Go.RowKit
open Pl


end Go.Proofs.YtndlhdmpfnadcaaGreatDoor
