/- The proof, part 41 of 43. -/
import Derived.Test.YtoalcafkffmiiaaGreatDoorOdbGetsJ
import Derived.Test.YtoalcafkffmiiaaGreatDoorOdbGetsR
import Derived.RangeFuncNested
import Derived.RangeFuncBound
import Derived.RangeFuncCalls
import Derived.RangeFuncLeaves
import Derived.Shelf.Abstract
import Derived.Shelf.RegionOpen
import Derived.WalkKit
import Derived.OwnWalkIn
import Derived.TacticsInMore
import Derived.LoopNIn
import Derived.LoopIn
set_option linter.all false
namespace Go.Proofs.YtoalcafkffmiiaaGreatDoor.Ls
open Eng Go.RowKit Go.Shelf
attribute [local go_sem] Oper.semAt_some
def stepsAt:Value->Nat
 | .int _ z=>(z+1).toNat
 | _=>0
set_option maxRecDepth 100000 in
set_option maxHeartbeats 1000000 in
theorem Jg (b1:Nat) (sv:Value):zN Tryz.prog 139 b1 sv:=by
 intro l xs J Jx W hlen hE hY h0;refine(callsIn_wide (n:=1)).1 (callsIn_of_wp Tryz.func139 rfl trivial ?_ rfl);simp only[Tryz.ntmps139,Ptr,adL,adb,adn,Nat.reduceAdd,Nat.reduceSub,aev,aew,aeR,aeD,ady,ads];obtain⟨c1,A,c,rfl,hc,hel⟩:=hE 0 W h0;have e1:=c1.cell
 gi_wp2
 gi_loopw [3] (λvi wr=>∃k:Nat,k<=xs.length/\vi=.int .i64 ((xs.length:Int)-1-(k:Int))/\J k wr)
  (λvi _=>stepsAt vi)
 case atStart=>
  exact⟨0,ac9 _,by simp,h0⟩
 case round=>
  obtain⟨k,hk,rfl,hJ⟩:=hrel;obtain⟨d1,A',c',hs,hc',hel'⟩:=hE k _ hJ
  obtain⟨rfl,rfl⟩:A=A'/\c=c':=by
   injection hs with a b c
   exact⟨a,c⟩
  have f1:=d1.cell;by_cases hkl:k<xs.length
  ·obtain⟨m,hm1,hm2⟩:∃m,xs.length<=m+k+1/\m+k+1<=xs.length:=⟨xs.length-1-k,acN,acN⟩;have hmz:((xs.length:Int)-1-(k:Int))=((m:Nat):Int):=acN;obtain⟨ad,rfl,hsp,hcell⟩:=hel' m acN;rw[add_eq _ _ hsp]at hcell;obtain⟨bb,oo,sp⟩:=ad;obtain rfl:sp=none:=hsp;have hml:m<xs.length:=acN;have hyk:=hY k _ hJ hkl;rw[show xs.length-1-k=m by omega]at hyk;rw[hmz];generalize xs.getD m []=x at hcell hyk;obtain⟨fn,tmps,assign,body,hy,hR⟩:=hyk
   gi_wp2
   refine hR.mono ?_;rintro e W' (⟨rfl,hJ'⟩ | ⟨rfl,hJx⟩)
   ·gi_wp2
    refine⟨⟨k+1,acN,?_,hJ'⟩,?_⟩
    ·congr 1;omega
    ·simp[stepsAt]
   ·gi_wp2
    all_goals (refine bodyPost_ret (results_none rfl _ _ _) rfl ?_)
    all_goals exact⟨⟨_,rfl⟩,.inr hJx⟩
  ·gi_wp2
   go_end0
   obtain rfl:k=xs.length:=acN;exact⟨⟨_,rfl⟩,.inl hJ⟩
set_option maxRecDepth 100000 in
set_option maxHeartbeats 1000000 in
theorem Jf:vc Tryz.prog 86:=by
 intro A n c w;refine(callsIn_wide (n:=1)).1 (callsIn_of_wp Tryz.func86 rfl trivial ?_ rfl);simp only[Tryz.ntmps86,Ptr,adL,adb,adn,Nat.reduceAdd,Nat.reduceSub,aev,aew,aeR,aeD,ady,ads]
 gi_wp2
 go_ret
 refine⟨139,w.heap.size,rfl,aN.alloc _ _,acT _,⟨32,?_⟩,enters_of Tryz.func139 (by kernel_rfl) rfl,Jg _ _⟩;exact Boxed.new w 32 _
end Go.Proofs.YtoalcafkffmiiaaGreatDoor.Ls
