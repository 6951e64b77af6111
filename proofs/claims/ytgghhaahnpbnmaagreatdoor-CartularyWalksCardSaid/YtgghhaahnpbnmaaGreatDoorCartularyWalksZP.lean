/- The proof, part 42 of 51. -/
import Derived.Test.YtgghhaahnpbnmaaGreatDoorCartularyWalksJ
import Derived.Test.YtgghhaahnpbnmaaGreatDoorCartularyWalksQ
import Derived.RangeFuncNested
import Derived.RangeFuncBound
import Derived.RangeFuncCalls
import Derived.RangeFuncLeaves
import Derived.Shelf.Abstract
import Derived.Shelf.RegionOpen
import Derived.WalkKit
import Derived.OwnWalkIn
import Derived.TacticsInMore
import Derived.LoopNIn
import Derived.LoopIn
set_option linter.all false
namespace Go.Proofs.YtgghhaahnpbnmaaGreatDoor.Ls
open Eng Go.RowKit Go.Shelf
attribute [local go_sem] Oper.semAt_some
def stepsAt:Value->Nat
 | .int _ z=>(z+1).toNat
 | _=>0
set_option maxRecDepth 100000 in
set_option maxHeartbeats 1000000 in
theorem Jz (b1:Nat) (sv:Value):zL Tryz.prog 183 b1 sv:=by
 intro l xs J Jx W hlen hE hY h0;refine(callsIn_wide (n:=1)).1 (callsIn_of_wp Tryz.func183 rfl trivial ?_ rfl);simp only[Tryz.ntmps183,Ptr,adm,acH,ac9,Nat.reduceAdd,Nat.reduceSub,aec,aed,aev,aej,adf,acZ];obtain⟨c1,A,c,rfl,hc,hel⟩:=hE 0 W h0;have e1:=c1.cell
 gi_wp2
 gi_loopw [3] (λvi wr=>∃k:Nat,k<=xs.length/\vi=.int .i64 ((xs.length:Int)-1-(k:Int))/\J k wr)
  (λvi _=>stepsAt vi)
 case atStart=>
  exact⟨0,ac5 _,by simp,h0⟩
 case round=>
  obtain⟨k,hk,rfl,hJ⟩:=hrel;obtain⟨d1,A',c',hs,hc',hel'⟩:=hE k _ hJ
  obtain⟨rfl,rfl⟩:A=A'/\c=c':=by
   injection hs with a b c
   exact⟨a,c⟩
  have f1:=d1.cell;by_cases hkl:k<xs.length
  ·obtain⟨m,hm1,hm2⟩:∃m,xs.length<=m+k+1/\m+k+1<=xs.length:=⟨xs.length-1-k,acB,acB⟩;have hmz:((xs.length:Int)-1-(k:Int))=((m:Nat):Int):=acB;obtain⟨ad,rfl,hsp,hcell⟩:=hel' m acB;rw[add_eq _ _ hsp]at hcell;obtain⟨bb,oo,sp⟩:=ad;obtain rfl:sp=none:=hsp;have hml:m<xs.length:=acB;have hyk:=hY k _ hJ hkl;rw[show xs.length-1-k=m by omega]at hyk;rw[hmz];generalize xs.getD m []=x at hcell hyk;obtain⟨fn,tmps,assign,body,hy,hR⟩:=hyk
   gi_wp2
   refine hR.mono ?_;rintro e W' (⟨rfl,hJ'⟩ | ⟨rfl,hJx⟩)
   ·gi_wp2
    refine⟨⟨k+1,acB,?_,hJ'⟩,?_⟩
    ·congr 1;omega
    ·simp[stepsAt]
   ·gi_wp2
    all_goals (refine bodyPost_ret (results_none rfl _ _ _) rfl ?_)
    all_goals exact⟨⟨_,rfl⟩,.inr hJx⟩
  ·gi_wp2
   go_end0
   obtain rfl:k=xs.length:=acB;exact⟨⟨_,rfl⟩,.inl hJ⟩
set_option maxRecDepth 100000 in
set_option maxHeartbeats 1000000 in
theorem Jy:vK Tryz.prog 164:=by
 intro A n c w;refine(callsIn_wide (n:=1)).1 (callsIn_of_wp Tryz.func164 rfl trivial ?_ rfl);simp only[Tryz.ntmps164,Ptr,adm,acH,ac9,Nat.reduceAdd,Nat.reduceSub,aec,aed,aev,aej,adf,acZ]
 gi_wp2
 go_ret
 refine⟨183,w.heap.size,rfl,az.alloc _ _,acG _,⟨23,?_⟩,enters_of Tryz.func183 (by kernel_rfl) rfl,Jz _ _⟩;exact Boxed.new w 23 _
end Go.Proofs.YtgghhaahnpbnmaaGreatDoor.Ls
