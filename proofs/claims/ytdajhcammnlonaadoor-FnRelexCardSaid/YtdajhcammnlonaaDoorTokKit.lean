/- The functions of the laws over tokens (contracts). -/
import Derived.Test.YtdajhcammnlonaaDoorNodeEq
import Derived.Test.YtdajhcammnlonaaDoorTokOne
import Derived.Test.YtdajhcammnlonaaDoorTokRow
namespace Go.Proofs.YtdajhcammnlonaaDoor
open Go.RowKit
set_option linter.unusedVariables false

def RetToks (w : World) (l : List PTok) (e : Ending) (w' : World) : Prop := ∃ v, e = .returned v ∧ ToksIn w' w'.heap.size v l ∧ FromOn w.heap.size v ∧ Below w.heap.size w w'
end Go.Proofs.YtdajhcammnlonaaDoor
