/- EvalWide of the program; EvalTest, EvalExpr, EvalWide of the reference. -/
import Derived.Test.YtppcghklkldnaaaEvc
namespace Go.Proofs.Ytppcghklkldnaaa
open Go.RowKit
open Pl


end Go.Proofs.Ytppcghklkldnaaa
