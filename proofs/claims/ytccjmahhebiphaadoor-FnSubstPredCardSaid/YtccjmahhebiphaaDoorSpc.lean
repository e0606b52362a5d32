/- The reference's reader of programs: l3End. -/
import Derived.Test.YtccjmahhebiphaaDoorSpa
namespace Go.Proofs.YtccjmahhebiphaaDoor
open Go.RowKit
open Pl


end Go.Proofs.YtccjmahhebiphaaDoor
