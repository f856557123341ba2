/- Texts of the claim. -/
import Derived.Test.YtofbfafnpdaejaaGreatDoorMZ03
namespace Go.Proofs.YtofbfafnpdaejaaGreatDoor
open Go.RowKit
set_option linter.unusedSimpArgs false
set_option linter.unusedVariables false
set_option maxRecDepth 100000
set_option maxHeartbeats 8000000
end Go.Proofs.YtofbfafnpdaejaaGreatDoor
