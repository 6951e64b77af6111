/- The proof, part 40 of 43. -/
import Derived.Test.YtoalcafkffmiiaaGreatDoorOdbShadowsO
import Derived.Test.YtoalcafkffmiiaaGreatDoorProg
import Derived.KernelRfl
import Derived.Tactics
set_option linter.all false
namespace Go.Proofs.YtoalcafkffmiiaaGreatDoor.Dl
open Eng Eng.Kz
set_option maxRecDepth 100000
theorem aw6 {vs:Array Value} (h:vs.size=2):∃v0 v1,vs=#[v0,v1]:=by
 obtain⟨l⟩:=vs
 match l,h with
 | [a,b],_=>exact⟨a,b,rfl⟩
open Eng
set_option maxRecDepth 10000
abbrev Bs:=List UInt8
end Go.Proofs.YtoalcafkffmiiaaGreatDoor.Dl
