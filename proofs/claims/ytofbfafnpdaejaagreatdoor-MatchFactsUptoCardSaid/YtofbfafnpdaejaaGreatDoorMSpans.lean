/- Texts of the claim. -/
import Derived.RangeFuncBox
import Derived.Maps.AppendAt
import Derived.Maps.OwnIn
import Derived.Lib.Hide
import Derived.Test.YtofbfafnpdaejaaGreatDoorMZ01
namespace Go.Proofs.YtofbfafnpdaejaaGreatDoor
open Go.RowKit Go.Shelf
set_option linter.unusedSimpArgs false
set_option linter.unusedVariables false
set_option maxRecDepth 100000
set_option maxHeartbeats 8000000
attribute [local go_sem] Oper.semAt_some
end Go.Proofs.YtofbfafnpdaejaaGreatDoor
