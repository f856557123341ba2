/-
  Words turned round: mirror.Word and the reference's Word.
-/
import Derived.Test.YtffkppoidollnaaGreatDoorQZ04
import Derived.Test.YtffkppoidollnaaGreatDoorQZ05
import Derived.Test.YtffkppoidollnaaGreatDoorQZ01
namespace Go.Proofs.YtffkppoidollnaaGreatDoor
open Go.RowKit
set_option linter.unusedSimpArgs false
set_option linter.unusedVariables false
set_option maxRecDepth 100000

end Go.Proofs.YtffkppoidollnaaGreatDoor
