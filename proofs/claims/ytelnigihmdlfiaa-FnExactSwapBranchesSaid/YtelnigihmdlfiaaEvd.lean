/- EvalWide of the program; EvalTest, EvalExpr, EvalWide of the reference. -/
import Derived.Test.YtelnigihmdlfiaaEvc
namespace Go.Proofs.Ytelnigihmdlfiaa
open Go.RowKit
open Pl


end Go.Proofs.Ytelnigihmdlfiaa
