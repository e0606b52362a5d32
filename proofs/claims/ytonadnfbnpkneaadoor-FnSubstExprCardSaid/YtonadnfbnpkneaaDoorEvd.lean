/- EvalWide of the program; EvalTest, EvalExpr, EvalWide of the reference. -/
import Derived.Test.YtonadnfbnpkneaaDoorEvc
namespace Go.Proofs.YtonadnfbnpkneaaDoor
open Go.RowKit
open Pl


end Go.Proofs.YtonadnfbnpkneaaDoor
