/- Texts of the claim. -/
import Derived.Test.YtofbfafnpdaejaaGreatDoorMSimI
set_option linter.all false
set_option maxRecDepth 100000
set_option maxHeartbeats 8000000
namespace Go.Proofs.YtofbfafnpdaejaaGreatDoor
open Go.RowKit
end Go.Proofs.YtofbfafnpdaejaaGreatDoor
