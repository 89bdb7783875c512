/-
  The reference's Second (printed by gen_olds.py).
-/
import Derived.Test.YtedliepfaibefaaDoorOlT
import Derived.Test.YtedliepfaibefaaDoorOlB3
namespace Go.Proofs.YtedliepfaibefaaDoor
open Go.RowKit Go.Nst
set_option maxRecDepth 100000
set_option linter.unusedVariables false
set_option linter.unusedSimpArgs false

end Go.Proofs.YtedliepfaibefaaDoor
