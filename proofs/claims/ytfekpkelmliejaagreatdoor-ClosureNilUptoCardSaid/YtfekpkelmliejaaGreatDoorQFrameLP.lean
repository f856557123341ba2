/- Texts of the claim. -/
import Derived.Test.YtfekpkelmliejaaGreatDoorQFrameP
import Derived.Test.YtfekpkelmliejaaGreatDoorQZ01
namespace Go.Proofs.YtfekpkelmliejaaGreatDoor
open Go.ChangeShapes Go.WideShapes Go.ChangeAt Go.RowKit
set_option linter.unusedSimpArgs false
set_option linter.unusedVariables false
set_option maxRecDepth 100000
set_option maxHeartbeats 8000000
theorem cellsInt : Tryz.prog.cellsOf 3 = 1 := by kernel_rfl
section
variable {H : Type} {enc : TypeId × Value → H} {W : World} {fuel : Nat} {cs : List Value} {y : DataW H × List MemPlace}
end
end Go.Proofs.YtfekpkelmliejaaGreatDoor
