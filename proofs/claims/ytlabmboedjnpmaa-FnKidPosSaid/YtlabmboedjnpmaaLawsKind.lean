/- The walk of the law on KindCount. -/
import Derived.Test.YtlabmboedjnpmaaKindCount
namespace Go.Proofs.Ytlabmboedjnpmaa
open Go.RowKit
set_option linter.unusedVariables false
theorem Below.ge {B : Nat} {w w' : World} (h : Below w.heap.size w w') (hB : B ≤ w.heap.size) : Below B w w' := h.mono hB
end Go.Proofs.Ytlabmboedjnpmaa
