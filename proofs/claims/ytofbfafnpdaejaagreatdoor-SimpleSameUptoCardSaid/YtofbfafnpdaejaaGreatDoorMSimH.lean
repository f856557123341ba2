/- Texts of the claim. -/
import Derived.Test.YtofbfafnpdaejaaGreatDoorMZ06
set_option linter.all false
set_option maxRecDepth 100000
set_option maxHeartbeats 8000000
namespace Go.Proofs.YtofbfafnpdaejaaGreatDoor
open Go.RowKit
section
variable {P0 : Nat → Prop} {n0 : Nat} {w wr w2 w' : World} {acc : List Nd} {u : Value}
end
end Go.Proofs.YtofbfafnpdaejaaGreatDoor
