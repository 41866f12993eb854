/- Equality of copies (contracts): copies of the same list are equal. -/
import Derived.Test.YtlabmboedjnpmaaNodeKit2
import Derived.StillTailTactics
namespace Go.Proofs.Ytlabmboedjnpmaa
open Go.RowKit
set_option linter.unusedVariables false

theorem IntsIn.drewN {w : World} {B : Nat} {v : Value} {l : List Int} (h : IntsIn w B v l) (n : Nat) : IntsIn (w.drewN n) B v l := h
def RetTrue (w : World) (e : Ending) (w' : World) : Prop := e = .returned (.bool true) ∧ Below w.heap.size w w'
end Go.Proofs.Ytlabmboedjnpmaa
