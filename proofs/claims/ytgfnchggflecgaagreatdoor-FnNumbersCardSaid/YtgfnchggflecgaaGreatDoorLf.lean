/-
  ANGLES: the reference's walk. Printed by wip/tools/gen_angle.py. Own work.
-/
import Derived.Test.YtgfnchggflecgaaGreatDoorLea
namespace Go.Proofs.YtgfnchggflecgaaGreatDoor
open Go.RowKit
set_option exponentiation.threshold 2000

end Go.Proofs.YtgfnchggflecgaaGreatDoor
