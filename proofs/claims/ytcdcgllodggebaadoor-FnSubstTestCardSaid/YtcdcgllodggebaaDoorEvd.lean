/- EvalWide of the program; EvalTest, EvalExpr, EvalWide of the reference. -/
import Derived.Test.YtcdcgllodggebaaDoorEvc
namespace Go.Proofs.YtcdcgllodggebaaDoor
open Go.RowKit
open Pl


end Go.Proofs.YtcdcgllodggebaaDoor
