/-
  The contract of the reference's Same at two trees that are the same.
-/
import Derived.StillTailTactics
import Derived.Test.YtffkppoidollnaaGreatDoorQZ02
namespace Go.Proofs.YtffkppoidollnaaGreatDoor
open Go.RowKit
set_option linter.unusedSimpArgs false
set_option linter.unusedVariables false
set_option maxRecDepth 100000

end Go.Proofs.YtffkppoidollnaaGreatDoor
