/-
  The contract of class.Show: the text of a set's class.
-/
import Derived.Deep.RegionHeld3
import Derived.Test.YtfekpkelmliejaaGreatDoorQRShow
import Derived.Test.YtfekpkelmliejaaGreatDoorQZ03
namespace Go.Proofs.YtfekpkelmliejaaGreatDoor
open Go.RowKit Go.Shelf
set_option linter.unusedSimpArgs false
set_option linter.unusedVariables false
set_option maxRecDepth 100000

end Go.Proofs.YtfekpkelmliejaaGreatDoor
