/- The proof, part 39 of 43. -/
import Derived.Test.YtoalcafkffmiiaaGreatDoorOdbShadowsZK
import Derived.Test.YtoalcafkffmiiaaGreatDoorOdbShadowsZL
set_option linter.all false
namespace Go.Proofs.YtoalcafkffmiiaaGreatDoor.Ls
open Eng Pk
set_option maxRecDepth 10000
def findA:Option Rw->AV
 | none=>.ai [.agg [.str [],.int .i64 0,.int .u32 0],.int .i64 7]
 | some r=>.ai [.agg [.str r.1,.int .i64 (r.2.1:Nat),.int .u32 (r.2.2:Nat)],.int .i64 0]
end Go.Proofs.YtoalcafkffmiiaaGreatDoor.Ls
