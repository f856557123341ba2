/-
  The walk of the reference's Spans.
-/
import Derived.Test.YtffkppoidollnaaDoorQZ03
import Derived.Test.YtffkppoidollnaaDoorQZ02
namespace Go.Proofs.YtffkppoidollnaaDoor
open Go.RowKit
set_option linter.unusedSimpArgs false
set_option linter.unusedVariables false
set_option maxRecDepth 100000

end Go.Proofs.YtffkppoidollnaaDoor
