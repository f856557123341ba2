/- Texts of the claim. -/
import Derived.Deep.RegionHeld3
import Derived.Deep.RegionWith
import Derived.StillTailTactics
import Derived.Test.YtofbfafnpdaejaaGreatDoorMZ01
set_option linter.all false
set_option maxHeartbeats 8000000
namespace Go.Proofs.YtofbfafnpdaejaaGreatDoor
open Go.RowKit
def two (what : Int) (p q : Nat → Bool) (k : Nat) : Bool := if what = 0 then p k || q k else if what = 1 then p k && q k else if what = 2 then p k && !q k else false
end Go.Proofs.YtofbfafnpdaejaaGreatDoor
