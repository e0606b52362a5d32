/- EvalWide of the program; EvalTest, EvalExpr, EvalWide of the reference. -/
import Derived.Test.YtppcghklkldnaabEvc
namespace Go.Proofs.Ytppcghklkldnaab
open Go.RowKit
open Pl


end Go.Proofs.Ytppcghklkldnaab
