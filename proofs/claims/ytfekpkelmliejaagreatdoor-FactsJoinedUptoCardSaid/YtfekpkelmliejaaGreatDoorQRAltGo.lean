/-
  The contracts of the reference's part and alternative: the walks.
-/
import Derived.Test.YtfekpkelmliejaaGreatDoorQRAlt
namespace Go.Proofs.YtfekpkelmliejaaGreatDoor
open Go.RowKit
set_option linter.unusedSimpArgs false
set_option linter.unusedVariables false
set_option maxRecDepth 100000

end Go.Proofs.YtfekpkelmliejaaGreatDoor
