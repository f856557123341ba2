/-
  What is wrong with a text is never the kind nought; its place lies within the text. No program in sight.
-/
import Derived.Test.YtffkppoidollnaaGreatDoorQZ01
import Derived.Test.YtffkppoidollnaaGreatDoorQZ06
namespace Go.Proofs.YtffkppoidollnaaGreatDoor
set_option linter.unusedSimpArgs false
set_option linter.unusedVariables false
set_option maxRecDepth 100000

end Go.Proofs.YtffkppoidollnaaGreatDoor
