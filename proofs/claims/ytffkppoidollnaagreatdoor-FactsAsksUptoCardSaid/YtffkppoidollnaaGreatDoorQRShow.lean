/-
  The contract of the reference's Show: the text of a set's class.
-/
import Derived.Test.YtffkppoidollnaaGreatDoorQZ01
import Derived.Test.YtffkppoidollnaaGreatDoorQPieces
import Derived.Test.YtffkppoidollnaaGreatDoorQZ04
namespace Go.Proofs.YtffkppoidollnaaGreatDoor
open Go.RowKit
set_option linter.unusedSimpArgs false
set_option linter.unusedVariables false
set_option maxRecDepth 100000

end Go.Proofs.YtffkppoidollnaaGreatDoor
