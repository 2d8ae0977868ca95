/-
  DECIMAL TEXTS: the law on one number. Own work; no condition beyond what each theorem names.
-/
import Derived.Test.YtgfnchggflecgaaGreatDoorTa
import Derived.OpenShut
namespace Go.Proofs.YtgfnchggflecgaaGreatDoor
open Go.RowKit
set_option linter.unusedVariables false

end Go.Proofs.YtgfnchggflecgaaGreatDoor
