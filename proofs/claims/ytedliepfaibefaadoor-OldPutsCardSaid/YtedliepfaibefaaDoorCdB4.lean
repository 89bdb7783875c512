/-
  The reference's Check of an event.
-/
import Derived.Test.YtedliepfaibefaaDoorEvK
namespace Go.Proofs.YtedliepfaibefaaDoor
open Go.RowKit Go.Nst
set_option maxRecDepth 100000
set_option linter.unusedVariables false
set_option linter.unusedSimpArgs false

end Go.Proofs.YtedliepfaibefaaDoor
