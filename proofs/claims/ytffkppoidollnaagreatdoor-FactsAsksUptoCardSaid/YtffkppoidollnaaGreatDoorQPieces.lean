/-
  The contract of the reference's pieces: the text of the pieces of a set.
-/
import Derived.Deep.QuietTactic
import Derived.BigQuiet
import Derived.Test.YtffkppoidollnaaGreatDoorQZ01
import Derived.Test.YtffkppoidollnaaGreatDoorQRSpansGo
import Derived.Test.YtffkppoidollnaaGreatDoorQZ02
namespace Go.Proofs.YtffkppoidollnaaGreatDoor
open Go.RowKit
set_option linter.unusedSimpArgs false
set_option linter.unusedVariables false
set_option maxRecDepth 100000

end Go.Proofs.YtffkppoidollnaaGreatDoor
