/- RelOf of the program. -/
import Derived.Test.YtndlhdmpfnadcaaPd
import Derived.Test.YtndlhdmpfnadcaaGy
namespace Go.Proofs.Ytndlhdmpfnadcaa
open Go.RowKit
open Pl


end Go.Proofs.Ytndlhdmpfnadcaa
