/- The walk of the law on LevelOf. -/
import Derived.Test.YtlabmboedjnpmaaLevelOf
import Derived.Test.YtlabmboedjnpmaaFive
import Derived.Deep.RegionHeld3
namespace Go.Proofs.Ytlabmboedjnpmaa
open Go.RowKit
set_option linter.unusedVariables false

end Go.Proofs.Ytlabmboedjnpmaa
