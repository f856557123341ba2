/-
  Rows of lexemes appended to a row of one's own; the reference's lex and kid of chapter 08.
-/
import Derived.Deep.Onto
import Derived.Test.YtffkppoidollnaaGreatDoorQZ05
import Derived.Test.YtffkppoidollnaaGreatDoorQZ01
namespace Go.Proofs.YtffkppoidollnaaGreatDoor
open Go.RowKit
set_option linter.unusedSimpArgs false
set_option linter.unusedVariables false
set_option maxRecDepth 100000

end Go.Proofs.YtffkppoidollnaaGreatDoor
