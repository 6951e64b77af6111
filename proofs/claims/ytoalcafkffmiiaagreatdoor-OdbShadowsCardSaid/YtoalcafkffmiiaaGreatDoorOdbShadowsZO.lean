/- The proof, part 41 of 43. -/
import Derived.Test.YtoalcafkffmiiaaGreatDoorOdbShadowsJ
import Derived.Test.YtoalcafkffmiiaaGreatDoorOdbShadowsQ
import Derived.RangeFuncNested
import Derived.RangeFuncBound
import Derived.RangeFuncCalls
import Derived.RangeFuncLeaves
import Derived.Shelf.Abstract
import Derived.Shelf.RegionOpen
import Derived.WalkKit
import Derived.OwnWalkIn
import Derived.TacticsInMore
import Derived.LoopNIn
import Derived.LoopIn
set_option linter.all false
namespace Go.Proofs.YtoalcafkffmiiaaGreatDoor.Ls
open Eng Go.RowKit Go.Shelf
attribute [local go_sem] Oper.semAt_some
end Go.Proofs.YtoalcafkffmiiaaGreatDoor.Ls
