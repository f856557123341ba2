/- Texts of the claim. -/
import Derived.Test.YtfcblmbieiibmaaDoorKZ01
import Derived.Test.YtfcblmbieiibmaaDoorKPieces
import Derived.Test.YtfcblmbieiibmaaDoorKZ02
namespace Go.Proofs.YtfcblmbieiibmaaDoor
open Go.RowKit
set_option linter.unusedSimpArgs false
set_option linter.unusedVariables false
set_option maxRecDepth 100000
set_option maxHeartbeats 8000000
end Go.Proofs.YtfcblmbieiibmaaDoor
