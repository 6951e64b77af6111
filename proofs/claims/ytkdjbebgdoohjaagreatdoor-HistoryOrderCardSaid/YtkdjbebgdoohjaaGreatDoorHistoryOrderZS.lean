/- The proof, part 45 of 50. -/
import Derived.Test.YtkdjbebgdoohjaaGreatDoorHistoryOrderJ
import Derived.Test.YtkdjbebgdoohjaaGreatDoorHistoryOrderQ
import Derived.RangeFuncNested
import Derived.RangeFuncBound
import Derived.RangeFuncCalls
import Derived.RangeFuncLeaves
import Derived.Shelf.Abstract
import Derived.Shelf.RegionOpen
import Derived.WalkKit
import Derived.OwnWalkIn
import Derived.TacticsInMore
import Derived.LoopNIn
import Derived.LoopIn
set_option linter.all false
namespace Go.Proofs.YtkdjbebgdoohjaaGreatDoor.Ls
open Eng Go.RowKit Go.Shelf
attribute [local go_sem] Oper.semAt_some
def stepsAt:Value->Nat
 | .int _ z=>(z+1).toNat
 | _=>0
set_option maxRecDepth 100000 in
set_option maxHeartbeats 1000000 in
theorem Hf (b1:Nat) (sv:Value):yq Tryz.prog 138 b1 sv:=by
 intro l xs J Jx W hlen hE hY h0;refine(callsIn_wide (n:=1)).1 (callsIn_of_wp Tryz.func138 rfl trivial ?_ rfl);simp only[Tryz.ntmps138,Ptr,aal,Z0,aai,Nat.reduceAdd,Nat.reduceSub,aa5,aa6,abo,abb,aac,Z8];obtain⟨c1,A,c,rfl,hc,hel⟩:=hE 0 W h0;have e1:=c1.cell
 gi_wp2
 gi_loopw [3] (λvi wr=>∃k:Nat,k<=xs.length/\vi=.int .i64 ((xs.length:Int)-1-(k:Int))/\J k wr)
  (λvi _=>stepsAt vi)
 case atStart=>
  exact⟨0,Z7 _,by simp,h0⟩
 case round=>
  obtain⟨k,hk,rfl,hJ⟩:=hrel;obtain⟨d1,A',c',hs,hc',hel'⟩:=hE k _ hJ
  obtain⟨rfl,rfl⟩:A=A'/\c=c':=by
   injection hs with a b c
   exact⟨a,c⟩
  have f1:=d1.cell;by_cases hkl:k<xs.length
  ·obtain⟨m,hm1,hm2⟩:∃m,xs.length<=m+k+1/\m+k+1<=xs.length:=⟨xs.length-1-k,ZG,ZG⟩;have hmz:((xs.length:Int)-1-(k:Int))=((m:Nat):Int):=ZG;obtain⟨ad,rfl,hsp,hcell⟩:=hel' m ZG;rw[add_eq _ _ hsp]at hcell;obtain⟨bb,oo,sp⟩:=ad;obtain rfl:sp=none:=hsp;have hml:m<xs.length:=ZG;have hyk:=hY k _ hJ hkl;rw[show xs.length-1-k=m by omega]at hyk;rw[hmz];generalize xs.getD m []=x at hcell hyk;obtain⟨fn,tmps,assign,body,hy,hR⟩:=hyk
   gi_wp2
   refine hR.mono ?_;rintro e W' (⟨rfl,hJ'⟩ | ⟨rfl,hJx⟩)
   ·gi_wp2
    refine⟨⟨k+1,ZG,?_,hJ'⟩,?_⟩
    ·congr 1;omega
    ·simp[stepsAt]
   ·gi_wp2
    all_goals (refine bodyPost_ret (results_none rfl _ _ _) rfl ?_)
    all_goals exact⟨⟨_,rfl⟩,.inr hJx⟩
  ·gi_wp2
   go_end0
   obtain rfl:k=xs.length:=ZG;exact⟨⟨_,rfl⟩,.inl hJ⟩
set_option maxRecDepth 100000 in
set_option maxHeartbeats 1000000 in
theorem He:tZ Tryz.prog 106:=by
 intro A n c w;refine(callsIn_wide (n:=1)).1 (callsIn_of_wp Tryz.func106 rfl trivial ?_ rfl);simp only[Tryz.ntmps106,Ptr,aal,Z0,aai,Nat.reduceAdd,Nat.reduceSub,aa5,aa6,abo,abb,aac,Z8]
 gi_wp2
 go_ret
 refine⟨138,w.heap.size,rfl,aA.alloc _ _,ZM _,⟨31,?_⟩,enters_of Tryz.func138 (by kernel_rfl) rfl,Hf _ _⟩;exact Boxed.new w 31 _
end Go.Proofs.YtkdjbebgdoohjaaGreatDoor.Ls
