/- The functions of the laws over one token (contracts). -/
import Derived.Test.YtdajhcammnlonaaDoorChars
import Derived.Test.YtdajhcammnlonaaDoorMem
import Derived.Test.YtdajhcammnlonaaDoorData
namespace Go.Proofs.YtdajhcammnlonaaDoor
open Go.RowKit
set_option linter.unusedVariables false

end Go.Proofs.YtdajhcammnlonaaDoor
