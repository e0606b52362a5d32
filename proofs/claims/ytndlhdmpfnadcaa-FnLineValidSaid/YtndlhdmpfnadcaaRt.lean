/- RelOf of the reference. -/
import Derived.Test.YtndlhdmpfnadcaaRr
import Derived.Test.YtndlhdmpfnadcaaGl
namespace Go.Proofs.Ytndlhdmpfnadcaa
open Go.RowKit
open Pl


end Go.Proofs.Ytndlhdmpfnadcaa
