/-
  FactsAsks: the walk.
-/
import Derived.Test.YtfekpkelmliejaaGreatDoorQZ06
import Derived.Test.YtfekpkelmliejaaGreatDoorQFactL
import Derived.Test.YtfekpkelmliejaaGreatDoorQRRightX
namespace Go.Proofs.YtfekpkelmliejaaGreatDoor
open Go.RowKit
set_option linter.unusedSimpArgs false
set_option linter.unusedVariables false
set_option maxRecDepth 100000

end Go.Proofs.YtfekpkelmliejaaGreatDoor
