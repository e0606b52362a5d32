/- Words on memory: one call behind another. -/
import Derived.Test.YtppcghklkldnaaaKit
namespace Go.Proofs.Ytppcghklkldnaaa
open Go.RowKit
theorem below_2 {a b c : World} (h1 : Below a.heap.size a b) (h2 : Below b.heap.size b c) : Below a.heap.size a c := h1.trans (h2.mono h1.size)
end Go.Proofs.Ytppcghklkldnaaa
