/- Texts of the claim. -/
import Derived.Test.YtfekpkelmliejaaGreatDoorQZ04
import Derived.Test.YtfekpkelmliejaaGreatDoorQZ03
import Derived.Test.YtfekpkelmliejaaGreatDoorQZ05
import Derived.Test.YtfekpkelmliejaaGreatDoorQZ06
namespace Go.Proofs.YtfekpkelmliejaaGreatDoor
open Go.RowKit
set_option linter.unusedSimpArgs false
set_option linter.unusedVariables false
set_option maxRecDepth 100000
set_option maxHeartbeats 8000000
@[go_sem] theorem sum_field1 (a b c d e f g h i j k : Value) (w : World) : (Instr.field 85 (.agg #[a, b, c, d, e, f, g, h, i, j, k]) 1).run Tryz.prog w = .ok b w := by kernel_rfl
end Go.Proofs.YtfekpkelmliejaaGreatDoor
