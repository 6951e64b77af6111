/- The proof, part 38 of 51. -/
import Derived.Test.YtgghhaahnpbnmaaGreatDoorCartularyWalksZJ
import Derived.Test.YtgghhaahnpbnmaaGreatDoorCartularyWalksZK
import Derived.Shelf.Strings.Repeat
set_option linter.all false
namespace Go.Proofs.YtgghhaahnpbnmaaGreatDoor.Ls
open Eng
set_option maxRecDepth 10000
def rY (ps:List bN):Prop:=∀p∈ps,p.2.2.1.length<=1000/\zQ (p.2.2.1.map (·.1))/\∀r∈p.2.2.1,cd r.1=true
theorem rH (l:List Bs):aB (aR l) 0 l.length=aR l:=by
 unfold aB;rw[adp,acF (by rw[bJ];omega)]
open Eng
set_option maxRecDepth 10000
theorem Cr (L:List Fi):aB (bK L) 0 L.length=bK L:=by
 unfold aB;rw[adp,acF (by rw[cF];omega)]
end Go.Proofs.YtgghhaahnpbnmaaGreatDoor.Ls
namespace Go.Proofs.YtgghhaahnpbnmaaGreatDoor.Ls
open Eng
set_option maxRecDepth 10000
section
variable {l:List Bs} (hl:∀x∈l,cd x=true) (hs:zQ l)
include hl
include hs
end
end Go.Proofs.YtgghhaahnpbnmaaGreatDoor.Ls
