/- The functions of the laws over nodes (contracts): how large they are, copies of them, equality. -/
import Derived.Test.YtlabmboedjnpmaaChars
import Derived.Test.YtlabmboedjnpmaaData
import Derived.Deep.QuietTactic
import Derived.BigQuiet
namespace Go.Proofs.Ytlabmboedjnpmaa
open Go.RowKit
set_option linter.unusedVariables false

theorem subB_lt {left : Int} {b : Nat} (h : left < b) : subB left b = -1 := by rw [subB, if_pos h]
theorem subB_ge {left : Int} {b : Nat} (h : ¬ left < b) : subB left b = left - b := by rw [subB, if_neg h]
end Go.Proofs.Ytlabmboedjnpmaa
