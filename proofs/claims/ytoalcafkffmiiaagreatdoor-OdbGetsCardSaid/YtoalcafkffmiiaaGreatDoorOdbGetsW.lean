/- The proof, part 23 of 43. -/
import Derived.Test.YtoalcafkffmiiaaGreatDoorOdbGetsJ
import Derived.Test.YtoalcafkffmiiaaGreatDoorOdbGetsR
import Derived.RangeFuncNested
import Derived.RangeFuncBound
import Derived.RangeFuncCalls
import Derived.RangeFuncLeaves
import Derived.Shelf.Abstract
import Derived.Shelf.RegionOpen
import Derived.WalkKit
import Derived.OwnWalkIn
import Derived.TacticsInMore
import Derived.LoopNIn
import Derived.LoopIn
set_option linter.all false
namespace Go.Proofs.YtoalcafkffmiiaaGreatDoor.Sv
open Eng Go.RowKit Go.Shelf
attribute [local go_sem] Oper.semAt_some
theorem acM (c:UInt8):∀l,splitB c l≠[]
 | []=>by simp[splitB]
 | x::r=>by
  unfold splitB;split
  ·simp
  ·split<;>simp
theorem C6 (c:UInt8):∀r:List UInt8,(Lib.indexByte r c = -1/\splitB c r=[r])\/∃j:Nat,j<r.length/\Lib.indexByte r c=(j:Int)/\splitB c r=r.take j::splitB c (r.drop (j+1))
 | []=>.inl ⟨rfl,rfl⟩
 | x::r=>by
  by_cases hx:x=c
  ·subst hx;exact .inr ⟨0,by simp,by simp[Lib.indexByte],by simp[splitB]⟩
  ·have hb:(x==c)=false:=by simp[hx]
   rcases C6 c r with⟨h1,h2⟩ | ⟨j,h1,h2,h3⟩
   ·refine .inl ⟨by simp[Lib.indexByte,hb,h1],by simp[splitB,hx,h2]⟩
   ·refine .inr ⟨j+1,by simp;omega,?_,by simp[splitB,hx,h3]⟩;have hne:(Lib.indexByte r c == -1)=false:=by rw[h2];simp
    simp[Lib.indexByte,hb,hne,h2]
theorem BK {α:Type} {l:List (List α)} {k:Nat} {p:List α} {ps:List (List α)} (h:l.drop k=p::ps):k<l.length/\l.getD k []=p:=by
 have hlt:k<l.length:=by
  have:=congrArg List.length h;simp at this;omega
 refine⟨hlt,?_⟩;have:=congrArg List.head? h;rw[List.head?_drop]at this;rw[acO,this];rfl
theorem Mi {α:Type} {l:List (List α)} {k:Nat} {p:List α} (h:l.drop k=[p]):l.length=k+1:=by
 have:=congrArg List.length h;simp at this;omega
set_option maxRecDepth 100000 in
set_option maxHeartbeats 1000000 in
theorem Qo (b1 b2 b3:Nat) (c:UInt8) (ia:b1≠b2) (h32:b3≠b2):zP Tryz.prog 165 b1 b2 b3 c:=by
 intro l s J Jx W hlen c1 c2 c3 hab hY h0;refine(callsIn_wide (n:=1)).1 (callsIn_of_wp Tryz.func165 rfl trivial ?_ rfl);simp only[Tryz.ntmps165,Ptr,adL,adb,adn,Nat.reduceAdd,Nat.reduceSub,aev,aew,aeR,aeD,ady,ads];have e1:=c1.cell;have e2:=c2.cell;have e3:=c3.cell
 gi_wp2
 gi_loopw [7] (λ_ wr=>∃(k:Nat) (r:List UInt8),(splitB c s).drop k=splitB c r/\r.length<=s.length/\J k wr/\Eng.OneCell wr b1 (.string ⟨#[c]⟩)/\Eng.OneCell wr b2 (.string ⟨r.toArray⟩)/\Eng.OneCell wr b3 (.int .i64 0))
  (λ_ wr=>Dy wr b2)
 case atStart=>
  exact⟨0,s,by simp,acT _,h0,c1,c2,c3⟩
 case round=>
  obtain⟨k,r,hr,hrl,hJ,d1,d2,d3⟩:=hrel;have f1:=d1.cell;have f2:=d2.cell;have f3:=d3.cell
  gi_wp2
  refine⟨trivial,(callsIn_wide.2 (Tryz.strings_Index_one ⟨r.toArray⟩ c wr)).mono ?_⟩;rintro e w' ⟨rfl,rfl⟩;rw[show(⟨r.toArray⟩:ByteArray).data.toList=r from by simp];rcases C6 c r with⟨hi,hsp⟩ | ⟨j,hj,hi,hsp⟩
  ·rw[hi];rw[hsp]at hr;obtain⟨hlt,hpk⟩:=BK hr;have hend:(splitB c s).length=k+1:=Mi hr;obtain⟨fn,tmps,assign,body,hy,hR⟩:=hY k w' hJ hlt;rw[hpk]at hy
   gi_wp2
   refine hR.mono ?_;rintro e W' (⟨rfl,hJ',hk⟩ | ⟨rfl,hJx⟩)
   ·gi_wp2
    go_end0
    exact⟨⟨_,rfl⟩,.inl (by rw[hend];exact hJ')⟩
   ·gi_wp2
    go_end0
    exact⟨⟨_,rfl⟩,.inr hJx⟩
  ·rw[hi];rw[hsp]at hr;obtain⟨hlt,hpk⟩:=BK hr;obtain⟨fn,tmps,assign,body,hy,hR⟩:=hY k w' hJ hlt;rw[hpk,show(⟨(r.take j).toArray⟩:ByteArray)=(⟨r.toArray⟩:ByteArray).extract 0 j from by rw[r7];simp]at hy
   gi_wp2
   refine hR.mono ?_;rintro e W' (⟨rfl,hJ',hk⟩ | ⟨rfl,hJx⟩)
   ·have d1':=hk b1 _ (.inl rfl) d1;have d2':=hk b2 _ (.inr (.inl rfl)) d2;have d3':=hk b3 _ (.inr (.inr rfl)) d3;have g1:=d1'.cell;have g2:=d2'.cell;have g3:=d3'.cell;have g4:=d2'.frozen
    gi_wp2
    have hval:(⟨r.toArray⟩:ByteArray).extract (j+1) r.length=⟨(r.drop (j+1)).toArray⟩:=by
     rw[r7,acP (by simp)]
    have bD:=d2'.set (.string ⟨(r.drop (j+1)).toArray⟩);rw[hval];refine⟨⟨k+1,r.drop (j+1),?_,by simp;omega,hab _ _ _ hJ' (OH _ d2'),d1'.other ia _,bD,d3'.other h32 _⟩,?_⟩
    ·rw[<-ad6,hr];rfl
    ·unfold Dy;rw[bD.cell,d2.cell];simp[ByteArray.size];omega
   ·gi_wp2
    all_goals (refine bodyPost_ret (results_none rfl _ _ _) rfl ?_)
    all_goals exact⟨⟨_,rfl⟩,.inr hJx⟩
set_option maxRecDepth 100000 in
set_option maxHeartbeats 1000000 in
theorem aab (s c:ByteArray) (w:World):CallsIn Fence.wide 0 Tryz.prog 114 #[.string s,.string c,.int .i64 0] w λe w'=>
    e=.returned (.func (.func 165) #[] #[Ptr (w.heap.size+1),Ptr w.heap.size,Ptr (w.heap.size+2)]) /\
     w'=((w.alloc (.cells #[.string s] 9)).alloc (.cells #[.string c] 9)).alloc (.cells #[.int .i64 0] 3):=by
 refine callsIn_of_wp Tryz.func114 rfl trivial ?_ rfl;simp only[Tryz.ntmps114,Ptr,adL,adb,adn,Nat.reduceAdd,Nat.reduceSub,aev,aew,aeR,aeD,ady,ads]
 gi_wp2
 go_ret
 exact⟨rfl,rfl⟩
set_option maxRecDepth 100000 in
set_option maxHeartbeats 1000000 in
theorem aac:vl Tryz.prog 67:=by
 intro s c w hlen;refine(callsIn_wide (n:=1)).1 (callsIn_of_wp Tryz.func67 rfl trivial ?_ rfl);simp only[Tryz.ntmps67,Ptr,adL,adb,adn,Nat.reduceAdd,Nat.reduceSub,aev,aew,aeR,aeD,ady,ads]
 gi_wp2
 refine⟨trivial,(aab _ _ _).mono ?_⟩;rintro e w' ⟨rfl,rfl⟩
 gi_wp2
 go_ret
 have z1:∀o:Obj,(w.alloc o).heap.size=w.heap.size+1:=λo=>World.size_alloc w o;refine⟨165,w.heap.size+1,w.heap.size,w.heap.size+2,rfl,(aN.alloc _ _).trans ((aN.alloc _ _).trans (aN.alloc _ _)),⟨acN,acN,acN⟩,⟨9,?_⟩,⟨9,?_⟩,⟨3,?_⟩,enters_of Tryz.func165 (by kernel_rfl) rfl,Qo _ _ _ c acN acN⟩
 ·have:=(Boxed.new (w.alloc (.cells #[.string ⟨s.toArray⟩] 9)) 9 (.string ⟨#[c]⟩)).alloc (.cells #[.int .i64 0] 3);rw[z1]at this;exact this
 exact((Boxed.new w 9 (.string ⟨s.toArray⟩)).alloc _).alloc _
 ·have:=Boxed.new ((w.alloc (.cells #[.string ⟨s.toArray⟩] 9)).alloc (.cells #[.string ⟨#[c]⟩] 9)) 3 (.int .i64 0);rw[World.size_alloc,z1]at this;exact this
end Go.Proofs.YtoalcafkffmiiaaGreatDoor.Sv
