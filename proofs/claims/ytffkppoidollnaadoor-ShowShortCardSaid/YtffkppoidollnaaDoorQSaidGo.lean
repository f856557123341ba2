/-
  The contract of the reference's Said of chapter 08.
-/
import Derived.Test.YtffkppoidollnaaDoorQZ03
import Derived.Test.YtffkppoidollnaaDoorQShowP
namespace Go.Proofs.YtffkppoidollnaaDoor
open Go.RowKit
set_option linter.unusedSimpArgs false
set_option linter.unusedVariables false
set_option maxRecDepth 100000

end Go.Proofs.YtffkppoidollnaaDoor
