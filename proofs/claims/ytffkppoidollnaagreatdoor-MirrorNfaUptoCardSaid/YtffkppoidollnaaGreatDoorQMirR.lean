/-
  The contract of the reference's Tree of chapter 18.
-/
import Derived.Test.YtffkppoidollnaaGreatDoorQMirS
import Derived.Test.YtffkppoidollnaaGreatDoorQZ02
namespace Go.Proofs.YtffkppoidollnaaGreatDoor
open Go.RowKit
set_option linter.unusedSimpArgs false
set_option linter.unusedVariables false
set_option maxRecDepth 100000

end Go.Proofs.YtffkppoidollnaaGreatDoor
