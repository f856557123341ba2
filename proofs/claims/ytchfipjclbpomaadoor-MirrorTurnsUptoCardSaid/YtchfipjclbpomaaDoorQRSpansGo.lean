/-
  The walk of the reference's Spans.
-/
import Derived.Test.YtchfipjclbpomaaDoorQZ03
import Derived.Test.YtchfipjclbpomaaDoorQZ02
namespace Go.Proofs.YtchfipjclbpomaaDoor
open Go.RowKit
set_option linter.unusedSimpArgs false
set_option linter.unusedVariables false
set_option maxRecDepth 100000

end Go.Proofs.YtchfipjclbpomaaDoor
