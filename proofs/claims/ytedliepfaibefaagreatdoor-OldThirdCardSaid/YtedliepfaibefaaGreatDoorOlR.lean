/-
  The reference's Put of what older formats tell.
-/
import Derived.Test.YtedliepfaibefaaGreatDoorOlC
namespace Go.Proofs.YtedliepfaibefaaGreatDoor
open Go.RowKit Go.Nst
set_option maxRecDepth 100000
set_option linter.unusedVariables false
set_option linter.unusedSimpArgs false

end Go.Proofs.YtedliepfaibefaaGreatDoor
