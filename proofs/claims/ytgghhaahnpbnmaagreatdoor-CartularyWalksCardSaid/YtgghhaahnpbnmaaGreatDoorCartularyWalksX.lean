/- The proof, part 24 of 51. -/
import Derived.Test.YtgghhaahnpbnmaaGreatDoorCartularyWalksN
import Derived.Test.YtgghhaahnpbnmaaGreatDoorCartularyWalksT
import Derived.RangeFuncNested
import Derived.RangeFuncBound
import Derived.RangeFuncCalls
import Derived.RangeFuncLeaves
import Derived.Shelf.Abstract
import Derived.Shelf.RegionOpen
import Derived.WalkKit
import Derived.OwnWalkIn
import Derived.TacticsInMore
import Derived.LoopNIn
import Derived.LoopIn
set_option linter.all false
namespace Go.Proofs.YtgghhaahnpbnmaaGreatDoor.Ls
open Eng
set_option maxRecDepth 10000
theorem Bp (a b:Bs):aw Tryz.prog 63 [.str a,.str b] (.int .i64 (Lib.compareBytes a b)):=
 lj rfl rfl (λw=>Tryz.strings_Compare ⟨a.toArray⟩ ⟨b.toArray⟩ w)
theorem A5 (x y:Fi):aw Tryz.prog 29 [eF x,eF y] (.int .i64 (b5 x y)):=by
 refine Cod.Kr (λE R hN hR=>?_);simp(disch:=omega)only[go_sem,simprocAttr,eF];refine aj (Bp x.1 y.1) rfl rfl ?_;refine wW ?_;exact hR.ro ⟨rfl,rfl⟩
abbrev Bj:Value:=.func (.func 29) #[] #[]
abbrev js (t:Bs) (L:List Fi):AV:=.ab [.int .i64 (posF t L:Nat),.bool (decide (posF t L<L.length/\(L.getD (posF t L) bc).1=t))]
theorem A3 (L:List Fi) (t:Bs) (hs:eB L) (hl:L.length<=100000):aw Tryz.prog 67 [.ro 2 (bK L),.agg [.str t,.str []],.lit Bj] (js t L):=by
 refine Cod.Km (λE R hN hR=>?_);have hp:=uI t L;refine ah @cF ?_;refine aJ hN (λp:Nat×Nat=>⟨[(0,.ro 2 (bK L)),(2,.lit Bj),(4,.aa 201004 0),(8,.int .i64 L.length),(9,.int .i64 p.1),(10,.int .i64 p.2)],[(201004,.var [.str t,.str []])]⟩) (λp=>p.1<=posF t L/\posF t L<=p.2/\p.2<=L.length) (λp=>p.2-p.1) (0,L.length) (.le vV) ⟨ac5 _,hp,acG _⟩ ?_;rintro⟨i,j⟩ R1 ⟨h1,h2,h3⟩ hR1;simp only at h1 h2 h3;by_cases hlt:i<j
 ·have hm:IntKind.i64.wrap (((i:Int)+(j:Int)).fdiv (2^min 1 64))=(((i+j)/2:Nat):Int):=by
   rw[show(2:Int)^min 1 64=2 from rfl,ac6 _ (by decide)];rw[gq ⟨acB,acB⟩];omega
  have hk:(i+j)/2<L.length:=acB;have hpi:=yC t hs hk;obtain⟨k,hk0⟩:∃k,k=(i+j)/2:=⟨_,rfl⟩;rw[<-hk0]at hm hk hpi;have hik:i<=k:=acB;have hkj:k<j:=acB;clear hk0;refine cI @cF hm @iX ?_;refine s8 (by kernel_rfl) ?_;refine aj (A5 (L.getD k bc) (t,[])) rfl rfl ?_;unfold b5;generalize Lib.compareBytes (L.getD k bc).1 t=c at *
  by_cases hc:c<0
  ·refine ah hc ?_;exact hR1 (k+1,j) _ (by simp only;omega) ⟨by simp only;omega,by simp only;omega,h3⟩ (.le vV)
  ·refine ah hc ?_;exact hR1 (i,k) _ (by simp only;omega) ⟨h1,by simp only;omega,by simp only;omega⟩ (.le vV)
 ·obtain rfl:i=j:=acB;obtain rfl:i=posF t L:=acB;by_cases hlt:posF t L<L.length
  ·have hi:((posF t L:Nat):Int)<(L.length:Int):=acB;have hz:∀a:Bs,(Lib.compareBytes a t=0)↔a=t:=λa=>⟨mH,λe=>by rw[e];exact p4 t⟩;have hz:=hz (L.getD (posF t L) bc).1;refine cI @cF hi @iX ?_;refine lP @cF hi @iX ?_;refine CN (by kernel_rfl) ?_;refine iv (by simp(disch:=omega)only[go_sem,simprocAttr,eF]) (A5 (L.getD (posF t L) bc) (t,[])) vV rfl rfl ?_;unfold b5;generalize Lib.compareBytes (L.getD (posF t L) bc).1 t=c at *
   by_cases hc:c=0
   ·refine ah hc ?_;refine cB hc ?_;exact hR.ro ⟨rfl,by unfold js;rw[decide_eq_true (⟨hlt,hz.1 hc⟩:_/\_)]⟩
   ·refine ah hc ?_;refine cB hc ?_;exact hR.ro ⟨rfl,by unfold js;rw[decide_eq_false (λh:_/\_=>hc (hz.2 h.2))]⟩
  ·refine aV @cF hlt ?_;refine gX @cF hlt ?_;refine CM ?_;refine ah hlt ?_;refine cB hlt ?_;exact hR.ro ⟨rfl,by unfold js;rw[decide_eq_false (λh:_/\_=>hlt h.1)]⟩
open Eng
set_option maxRecDepth 10000
theorem TZ (s t:Bs) (hs:s.length<=9223372036854775807) (ht:t.length<=9223372036854775807):aw Tryz.prog 76 [.str s,.str t] (.bool (gV t s)):=by
 refine Cod.T0 (λE R hN hR=>?_);by_cases h:t.length<=s.length
 ·have hi:(t.length:Int)<=(s.length:Int):=acB;refine ah hi ?_;refine cB hi ?_;refine hR.ro ⟨rfl,?_⟩;simp[gV,h]
 ·have hi:¬(t.length:Int)<=(s.length:Int):=acB;refine ah hi ?_;refine cB hi ?_;exact hR.ro ⟨rfl,by simp[gV,h]⟩
theorem YY (s t:Bs) (hs:s.length<=9223372036854775807) (ht:t.length<=9223372036854775807):aw Tryz.prog 43 [.str s,.str t] (.bool (gV t s)):=by
 refine Cod.YZ (λE R hN hR=>?_);refine wW ?_;refine aj (TZ s t hs ht) rfl rfl ?_;refine wW ?_;exact hR.ro ⟨rfl,rfl⟩
theorem GL {α:Type} (d:α) {p:α->Bool}:∀{l:List α} {k:Nat},(l.take k).all p=true->(l.length<=k\/p (l.getD k d)=false)->l.takeWhile p=l.take k
 | [],k,_,_=>by simp
 | x::r,0,_,h=>by
  rcases h with h | h
  ·simp at h
  ·rw[aeB]at h
   simp[ae0,h]
 | x::r,k+1,h1,h2=>by
  rw[adF,aeh,acN]at h1;rw[ae0,if_pos h1.1,adF,GL d h1.2 (h2.imp (λh=>by simpa using h) (λh=>by simpa using h))]
theorem dS {α:Type} (d:α):∀(l:List α) {k:Nat},k<l.length->l.take (k+1)=l.take k++[l.getD k d]
 | [],k,h=>by simp at h
 | x::r,0,h=>by simp
 | x::r,k+1,h=>by
  rw[adF,dS d r (by simpa using h)];simp
theorem MU {α:Type} (d:α) (l:List α) (o k:Nat):(l.drop o).getD k d=l.getD (o+k) d:=by
 rw[acC,List.getElem?_drop,<-acC]
abbrev fL (L:List Fi) (n:Nat):AV:=.ao (.agg [.ro 2 (bK L),.int .i64 n])
theorem dL {α:Type} {l:List α} {k:Nat} (d:α) (h:k<l.length):l.getD k d∈l:=by
 rw[acC,List.getElem?_eq_getElem h];exact adK h
set_option maxHeartbeats 1000000 in
theorem GS (L:List Fi) (n:Nat) (t:Bs) (hs:eB L) (hl:L.length<=100000) (ht:t.length<=9223372036854775807) (hp:∀f∈L,f.1.length<=9223372036854775807) :
    aw Tryz.prog 31 [fL L n,.str t] (.ro 1 (aR (fA t L))):=by
 refine Cod.aaW (λE R hN hR=>?_);refine wW ?_;refine aj (A3 L t hs hl) rfl rfl ?_;have aL:=uI t L;obtain⟨o,ho⟩:∃o,o=posF t L:=⟨_,rfl⟩;unfold fA at hR;rw[<-ho]at aL hR;simp(disch:=omega)only[go_sem,simprocAttr,<-ho];obtain⟨D,hD⟩:∃D,D=L.drop o:=⟨_,rfl⟩;have hDl:D.length=L.length-o:=by rw[hD,acK]
 rw[<-hD]at hR
 refine aJ hN (λk:Nat=>⟨[(0,fL L n),(1,.str t),(5,.sl 204049 0 (D.take k).length),(6,.int .i64 ((o+k:Nat):Int))],[(204049,.arr 1 (aR ((D.take k).map (·.1))))]⟩)
  (λk=>k<=D.length/\(D.take k).all (λf=>gV t f.1)=true) (λk=>D.length-k) 0 (.nil 5 204049 1 rfl (.le (by simp(disch:=omega)only[go_sem,simprocAttr,zh,ad3,aef,ac9,adA]))) ⟨ac5 _,by simp⟩ ?_
 rintro k R1 ⟨hk,hall⟩ hR1;have htl:(D.take k).length=k:=by rw[acJ];omega
 have hsub:aB (aR ((D.take k).map (·.1))) 0 k=aR ((D.take k).map (·.1)):=by
  unfold aB;rw[adp,acF (by rw[bJ,acY,htl];omega)]
 have fin:(D.length<=k\/gV t (D.getD k bc).1=false)->D.takeWhile (λf=>gV t f.1)=D.take k:=λh=>GL bc hall h;by_cases hlt:k<D.length
 ·have hsn:=dS bc D hlt;have hgd:L.getD (o+k) bc=D.getD k bc:=by rw[hD,MU]
  have hmem:(L.getD (o+k) bc).1.length<=9223372036854775807:=hp _ (dL bc acB);rw[hgd]at hmem;have hi:((o+k:Nat):Int)<(L.length:Int):=acB;rw[htl];refine cW @cF hi @iX hgd ?_;refine tt @cF hi @iX hgd ?_;refine jt (iv vV (YY _ t hmem ht) vV rfl rfl ?_);generalize hx:D.getD k bc=x at *
  by_cases hb:gV t x.1=true
  ·simp(disch:=omega)only[go_sem,simprocAttr,hb,cF,iX,hgd,bJ,acY,htl];rw[hsub,vf];refine⟨⟨kl,acB⟩,hR1 (k+1) _ acB ⟨acB,by rw[hsn,aet,hall];simp[hb]⟩ (.le ?_)⟩;rw[hsn,acD,htl,ady];simp(disch:=omega)only[go_sem,simprocAttr,adk,aef,acX]
  ·have hb:gV t x.1=false:=by simpa using hb
   rw[fin (.inr hb)]at hR;refine ah hb ?_;exact hR.wk (h':=[]) (r':=.ro 1 (aR ((D.take k).map (·.1)))) (ar':=[.undef,.undef]) rfl (.bn 204049 (.le (by simp(disch:=omega)only[go_sem,simprocAttr,bJ,acY,htl,kl,hsub]))) ⟨rfl,rfl⟩
 ·have hi:¬((o+k:Nat):Int)<(L.length:Int):=acB;rw[fin (.inl acB)]at hR;have hDk:D.take k=D:=acF acB;rw[hDk]at hsub hR htl;rw[hDk,htl];refine aV @cF hi ?_;refine gX @cF hi ?_;exact hR.wk (h':=[]) (r':=.ro 1 (aR (D.map (·.1)))) (ar':=[.undef,.undef]) rfl (.bn 204049 (.le (by simp(disch:=omega)only[go_sem,simprocAttr,bJ,acY,htl,kl,hsub]))) ⟨rfl,rfl⟩
theorem y5 (L:List Fi) (n:Nat) (p:Bs) (hs:eB L) (hl:L.length<=100000):aw Tryz.prog 34 [fL L n,.str p] (match getF p L with
    | some d=>.ab [.str d,.int .i64 0]
    | none=>.ab [.str [],.int .i64 7]):=by
 refine Cod.Zk (λE R hN hR=>?_);rw[CR]at hR;refine wW ?_;refine aj (A3 L p hs hl) rfl rfl ?_;by_cases h:posF p L<L.length/\(L.getD (posF p L) bc).1=p
 ·rw[if_pos h]at hR;have h1:=h.1;unfold js;rw[decide_eq_true h];refine aV @cF @iX ?_;exact hR.ro ⟨rfl,rfl⟩
 ·rw[if_neg h]at hR;unfold js;rw[decide_eq_false h];refine wW ?_;exact hR.ro ⟨rfl,rfl⟩
end Go.Proofs.YtgghhaahnpbnmaaGreatDoor.Ls
namespace Go.Proofs.YtgghhaahnpbnmaaGreatDoor.Sv
open Eng Go.RowKit Go.Shelf
attribute [local go_sem] Oper.semAt_some
theorem acA (c:UInt8):∀l,splitB c l≠[]
 | []=>by simp[splitB]
 | x::r=>by
  unfold splitB;split
  ·simp
  ·split<;>simp
theorem Dj (c:UInt8):∀r:List UInt8,(Lib.indexByte r c = -1/\splitB c r=[r])\/∃j:Nat,j<r.length/\Lib.indexByte r c=(j:Int)/\splitB c r=r.take j::splitB c (r.drop (j+1))
 | []=>.inl ⟨rfl,rfl⟩
 | x::r=>by
  by_cases hx:x=c
  ·subst hx;exact .inr ⟨0,by simp,by simp[Lib.indexByte],by simp[splitB]⟩
  ·have hb:(x==c)=false:=by simp[hx]
   rcases Dj c r with⟨h1,h2⟩ | ⟨j,h1,h2,h3⟩
   ·refine .inl ⟨by simp[Lib.indexByte,hb,h1],by simp[splitB,hx,h2]⟩
   ·refine .inr ⟨j+1,by simp;omega,?_,by simp[splitB,hx,h3]⟩;have hne:(Lib.indexByte r c == -1)=false:=by rw[h2];simp
    simp[Lib.indexByte,hb,hne,h2]
theorem BT {α:Type} {l:List (List α)} {k:Nat} {p:List α} {ps:List (List α)} (h:l.drop k=p::ps):k<l.length/\l.getD k []=p:=by
 have hlt:k<l.length:=by
  have:=congrArg List.length h;simp at this;omega
 refine⟨hlt,?_⟩;have:=congrArg List.head? h;rw[List.head?_drop]at this;rw[acC,this];rfl
theorem MV {α:Type} {l:List (List α)} {k:Nat} {p:List α} (h:l.drop k=[p]):l.length=k+1:=by
 have:=congrArg List.length h;simp at this;omega
set_option maxRecDepth 100000 in
set_option maxHeartbeats 1000000 in
theorem Rz (b1 b2 b3:Nat) (c:UInt8) (gY:b1≠b2) (h32:b3≠b2):zO Tryz.prog 136 b1 b2 b3 c:=by
 intro l s J Jx W hlen c1 c2 c3 hab hY h0;refine(callsIn_wide (n:=1)).1 (callsIn_of_wp Tryz.func136 rfl trivial ?_ rfl);simp only[Tryz.ntmps136,Ptr,adm,acH,ac9,Nat.reduceAdd,Nat.reduceSub,aec,aed,aev,aej,adf,acZ];have e1:=c1.cell;have e2:=c2.cell;have e3:=c3.cell
 gi_wp2
 gi_loopw [7] (λ_ wr=>∃(k:Nat) (r:List UInt8),(splitB c s).drop k=splitB c r/\r.length<=s.length/\J k wr/\Eng.OneCell wr b1 (.string ⟨#[c]⟩)/\Eng.OneCell wr b2 (.string ⟨r.toArray⟩)/\Eng.OneCell wr b3 (.int .i64 0))
  (λ_ wr=>DN wr b2)
 case atStart=>
  exact⟨0,s,by simp,acG _,h0,c1,c2,c3⟩
 case round=>
  obtain⟨k,r,hr,hrl,hJ,d1,d2,d3⟩:=hrel;have f1:=d1.cell;have f2:=d2.cell;have f3:=d3.cell
  gi_wp2
  refine⟨trivial,(callsIn_wide.2 (Tryz.strings_Index_one ⟨r.toArray⟩ c wr)).mono ?_⟩;rintro e w' ⟨rfl,rfl⟩;rw[show(⟨r.toArray⟩:ByteArray).data.toList=r from by simp];rcases Dj c r with⟨hi,hsp⟩ | ⟨j,hj,hi,hsp⟩
  ·rw[hi];rw[hsp]at hr;obtain⟨hlt,gy⟩:=BT hr;have hend:(splitB c s).length=k+1:=MV hr;obtain⟨fn,tmps,assign,body,hy,hR⟩:=hY k w' hJ hlt;rw[gy]at hy
   gi_wp2
   refine hR.mono ?_;rintro e W' (⟨rfl,hJ',hk⟩ | ⟨rfl,hJx⟩)
   ·gi_wp2
    go_end0
    exact⟨⟨_,rfl⟩,.inl (by rw[hend];exact hJ')⟩
   ·gi_wp2
    go_end0
    exact⟨⟨_,rfl⟩,.inr hJx⟩
  ·rw[hi];rw[hsp]at hr;obtain⟨hlt,gy⟩:=BT hr;obtain⟨fn,tmps,assign,body,hy,hR⟩:=hY k w' hJ hlt;rw[gy,show(⟨(r.take j).toArray⟩:ByteArray)=(⟨r.toArray⟩:ByteArray).extract 0 j from by rw[sr];simp]at hy
   gi_wp2
   refine hR.mono ?_;rintro e W' (⟨rfl,hJ',hk⟩ | ⟨rfl,hJx⟩)
   ·have d1':=hk b1 _ (.inl rfl) d1;have d2':=hk b2 _ (.inr (.inl rfl)) d2;have d3':=hk b3 _ (.inr (.inr rfl)) d3;have g1:=d1'.cell;have g2:=d2'.cell;have g3:=d3'.cell;have g4:=d2'.frozen
    gi_wp2
    have hval:(⟨r.toArray⟩:ByteArray).extract (j+1) r.length=⟨(r.drop (j+1)).toArray⟩:=by
     rw[sr,acF (by simp)]
    have bo:=d2'.set (.string ⟨(r.drop (j+1)).toArray⟩);rw[hval];refine⟨⟨k+1,r.drop (j+1),?_,by simp;omega,hab _ _ _ hJ' (Px _ d2'),d1'.other gY _,bo,d3'.other h32 _⟩,?_⟩
    ·rw[<-ad4,hr];rfl
    ·unfold DN;rw[bo.cell,d2.cell];simp[ByteArray.size];omega
   ·gi_wp2
    all_goals (refine bodyPost_ret (results_none rfl _ _ _) rfl ?_)
    all_goals exact⟨⟨_,rfl⟩,.inr hJx⟩
set_option maxRecDepth 100000 in
set_option maxHeartbeats 1000000 in
theorem ZC (s c:ByteArray) (w:World):CallsIn Fence.wide 0 Tryz.prog 110 #[.string s,.string c,.int .i64 0] w λe w'=>
    e=.returned (.func (.func 136) #[] #[Ptr (w.heap.size+1),Ptr w.heap.size,Ptr (w.heap.size+2)]) /\
     w'=((w.alloc (.cells #[.string s] 9)).alloc (.cells #[.string c] 9)).alloc (.cells #[.int .i64 0] 3):=by
 refine callsIn_of_wp Tryz.func110 rfl trivial ?_ rfl;simp only[Tryz.ntmps110,Ptr,adm,acH,ac9,Nat.reduceAdd,Nat.reduceSub,aec,aed,aev,aej,adf,acZ]
 gi_wp2
 go_ret
 exact⟨rfl,rfl⟩
set_option maxRecDepth 100000 in
set_option maxHeartbeats 1000000 in
theorem ZD:vR Tryz.prog 64:=by
 intro s c w hlen;refine(callsIn_wide (n:=1)).1 (callsIn_of_wp Tryz.func64 rfl trivial ?_ rfl);simp only[Tryz.ntmps64,Ptr,adm,acH,ac9,Nat.reduceAdd,Nat.reduceSub,aec,aed,aev,aej,adf,acZ]
 gi_wp2
 refine⟨trivial,(ZC _ _ _).mono ?_⟩;rintro e w' ⟨rfl,rfl⟩
 gi_wp2
 go_ret
 have z1:∀o:Obj,(w.alloc o).heap.size=w.heap.size+1:=λo=>World.size_alloc w o;refine⟨136,w.heap.size+1,w.heap.size,w.heap.size+2,rfl,(az.alloc _ _).trans ((az.alloc _ _).trans (az.alloc _ _)),⟨acB,acB,acB⟩,⟨9,?_⟩,⟨9,?_⟩,⟨3,?_⟩,enters_of Tryz.func136 (by kernel_rfl) rfl,Rz _ _ _ c acB acB⟩
 ·have:=(Boxed.new (w.alloc (.cells #[.string ⟨s.toArray⟩] 9)) 9 (.string ⟨#[c]⟩)).alloc (.cells #[.int .i64 0] 3);rw[z1]at this;exact this
 exact((Boxed.new w 9 (.string ⟨s.toArray⟩)).alloc _).alloc _
 ·have:=Boxed.new ((w.alloc (.cells #[.string ⟨s.toArray⟩] 9)).alloc (.cells #[.string ⟨#[c]⟩] 9)) 3 (.int .i64 0);rw[World.size_alloc,z1]at this;exact this
end Go.Proofs.YtgghhaahnpbnmaaGreatDoor.Sv
