/-
  The walk of the reference's Spans.
-/
import Derived.Test.YtffkppoidollnaaGreatDoorQZ03
import Derived.Test.YtffkppoidollnaaGreatDoorQZ01
namespace Go.Proofs.YtffkppoidollnaaGreatDoor
open Go.RowKit
set_option linter.unusedSimpArgs false
set_option linter.unusedVariables false
set_option maxRecDepth 100000

end Go.Proofs.YtffkppoidollnaaGreatDoor
