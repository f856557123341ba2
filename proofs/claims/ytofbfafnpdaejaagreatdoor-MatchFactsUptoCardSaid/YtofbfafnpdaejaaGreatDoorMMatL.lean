/- Texts of the claim. -/
import Derived.Test.YtofbfafnpdaejaaGreatDoorMZ05
import Derived.Test.YtofbfafnpdaejaaGreatDoorMZ04
namespace Go.Proofs.YtofbfafnpdaejaaGreatDoor
set_option linter.unusedSimpArgs false
set_option linter.unusedVariables false
set_option maxRecDepth 100000
set_option maxHeartbeats 8000000
end Go.Proofs.YtofbfafnpdaejaaGreatDoor
