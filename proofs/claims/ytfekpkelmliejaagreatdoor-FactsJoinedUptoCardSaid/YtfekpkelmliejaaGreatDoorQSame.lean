/-
  The contract of the reference's Same, at two rows of the same lexemes.
-/
import Derived.Deep.QuietTactic
import Derived.BigQuiet
import Derived.Test.YtfekpkelmliejaaGreatDoorQZ03
namespace Go.Proofs.YtfekpkelmliejaaGreatDoor
open Go.RowKit
set_option linter.unusedSimpArgs false
set_option linter.unusedVariables false
set_option maxRecDepth 100000

end Go.Proofs.YtfekpkelmliejaaGreatDoor
