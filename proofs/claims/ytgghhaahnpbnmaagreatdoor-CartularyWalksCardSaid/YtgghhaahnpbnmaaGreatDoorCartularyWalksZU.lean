/- The proof, part 47 of 51. -/
import Derived.Test.YtgghhaahnpbnmaaGreatDoorCartularyWalksZH
import Derived.Test.YtgghhaahnpbnmaaGreatDoorCartularyWalksZT
set_option linter.all false
namespace Go.Proofs.YtgghhaahnpbnmaaGreatDoor.Ls
open Eng Pk Ob
set_option maxRecDepth 10000
theorem aaZ {k:Int} {d t:Bs} (hc:aY k d=0) (hl:(aU k d).length<=2000) (ht:mq (aU k d) t):ko (jN t (aU k d))=(k,d,0):=by
 have h:=aco (most:=65536) ht acB acB [];rw[adx]at h;unfold ko;rw[h];simp only;rw[if_neg (by simp),if_neg (by simp)];exact MD (Lc hc) (wG hc)
end Go.Proofs.YtgghhaahnpbnmaaGreatDoor.Ls
