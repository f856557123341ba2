/- Texts of the claim. -/
import Derived.StillTailTactics
import Derived.Test.YtofbfafnpdaejaaGreatDoorLZ02
namespace Go.Proofs.YtofbfafnpdaejaaGreatDoor
open Go.RowKit
set_option linter.unusedSimpArgs false
set_option linter.unusedVariables false
set_option maxRecDepth 100000
set_option maxHeartbeats 8000000
section
variable {w wr w2 w3 : World} {X : Nat} {z z' : Nd} {B B' : Option Addr} {cap cap' : Nat}
end
end Go.Proofs.YtofbfafnpdaejaaGreatDoor
