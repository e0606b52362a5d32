/- RelOf of the program. -/
import Derived.Test.YtndlhdmpfnadcaaDoorPd
import Derived.Test.YtndlhdmpfnadcaaDoorGy
namespace Go.Proofs.YtndlhdmpfnadcaaDoor
open Go.RowKit
open Pl


end Go.Proofs.YtndlhdmpfnadcaaDoor
