/-
  The reference's Check of any event.
-/
import Derived.Test.YtedliepfaibefaaDoorCdB1
import Derived.Test.YtedliepfaibefaaDoorCdB2
import Derived.Test.YtedliepfaibefaaDoorCdB3
import Derived.Test.YtedliepfaibefaaDoorCdB4
import Derived.Test.YtedliepfaibefaaDoorCdB5
namespace Go.Proofs.YtedliepfaibefaaDoor
open Go.RowKit Go.Nst
set_option maxRecDepth 100000
set_option linter.unusedVariables false
set_option linter.unusedSimpArgs false

end Go.Proofs.YtedliepfaibefaaDoor
