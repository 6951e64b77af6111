/- The proof, part 19 of 43. -/
import Derived.Test.YtoalcafkffmiiaaGreatDoorOdbGetsN
import Derived.Test.YtoalcafkffmiiaaGreatDoorOdbGetsQ
import Derived.Test.YtoalcafkffmiiaaGreatDoorOdbGetsR
set_option linter.all false
namespace Go.Proofs.YtoalcafkffmiiaaGreatDoor.Ls
open Eng
set_option maxRecDepth 10000
theorem v8 (a b:Bs):ao Tryz.prog 66 [.str a,.str b] (.int .i64 (Lib.compareBytes a b)):=
 zc rfl rfl (λw=>Tryz.strings_Compare ⟨a.toArray⟩ ⟨b.toArray⟩ w)
theorem A0 (x y:Fi):ao Tryz.prog 26 [eS x,eS y] (.int .i64 (cv x y)):=by
 refine Cod.Ka (λE R hN hR=>?_);simp(disch:=omega)only[go_sem,simprocAttr,eS];refine ah (v8 x.1 y.1) rfl rfl ?_;refine wW ?_;exact hR.ro ⟨rfl,rfl⟩
abbrev Bc:Value:=.func (.func 26) #[] #[]
abbrev kc (t:Bs) (L:List Fi):AV:=.af [.int .i64 (posF t L:Nat),.bool (decide (posF t L<L.length/\(L.getD (posF t L) aP).1=t))]
theorem AY (L:List Fi) (t:Bs) (hs:eO L) (hl:L.length<=100000):ao Tryz.prog 70 [.ro 2 (a8 L),.agg [.str t,.str []],.lit Bc] (kc t L):=by
 refine Cod.J5 (λE R hN hR=>?_);have hp:=qM t L;refine ab @bX ?_;refine aD hN (λp:Nat×Nat=>⟨[(0,.ro 2 (a8 L)),(2,.lit Bc),(4,.aa 201004 0),(8,.int .i64 L.length),(9,.int .i64 p.1),(10,.int .i64 p.2)],[(201004,.var [.str t,.str []])]⟩) (λp=>p.1<=posF t L/\posF t L<=p.2/\p.2<=L.length) (λp=>p.2-p.1) (0,L.length) (.le vV) ⟨ac9 _,hp,acT _⟩ ?_;rintro⟨i,j⟩ R1 ⟨h1,h2,h3⟩ hR1;simp only at h1 h2 h3;by_cases hlt:i<j
 ·have hm:IntKind.i64.wrap (((i:Int)+(j:Int)).fdiv (2^min 1 64))=(((i+j)/2:Nat):Int):=by
   rw[show(2:Int)^min 1 64=2 from rfl,adv _ (by decide)];rw[eE ⟨acN,acN⟩];omega
  have hk:(i+j)/2<L.length:=acN;have hpi:=yl t hs hk;obtain⟨k,hk0⟩:∃k,k=(i+j)/2:=⟨_,rfl⟩;rw[<-hk0]at hm hk hpi;have hik:i<=k:=acN;have hkj:k<j:=acN;clear hk0;refine bp @bX hm @iq ?_;refine wA (by kernel_rfl) ?_;refine ah (A0 (L.getD k aP) (t,[])) rfl rfl ?_;unfold cv;generalize Lib.compareBytes (L.getD k aP).1 t=c at *
  by_cases hc:c<0
  ·refine ab hc ?_;exact hR1 (k+1,j) _ (by simp only;omega) ⟨by simp only;omega,by simp only;omega,h3⟩ (.le vV)
  ·refine ab hc ?_;exact hR1 (i,k) _ (by simp only;omega) ⟨h1,by simp only;omega,by simp only;omega⟩ (.le vV)
 ·obtain rfl:i=j:=acN;obtain rfl:i=posF t L:=acN;by_cases hlt:posF t L<L.length
  ·have hi:((posF t L:Nat):Int)<(L.length:Int):=acN;have hz:∀a:Bs,(Lib.compareBytes a t=0)↔a=t:=λa=>⟨lp,λe=>by rw[e];exact l7 t⟩;have hz:=hz (L.getD (posF t L) aP).1;refine bp @bX hi @iq ?_;refine gy @bX hi @iq ?_;refine CB (by kernel_rfl) ?_;refine gq (by simp(disch:=omega)only[go_sem,simprocAttr,eS]) (A0 (L.getD (posF t L) aP) (t,[])) vV rfl rfl ?_;unfold cv;generalize Lib.compareBytes (L.getD (posF t L) aP).1 t=c at *
   by_cases hc:c=0
   ·refine ab hc ?_;refine aV hc ?_;exact hR.ro ⟨rfl,by unfold kc;rw[decide_eq_true (⟨hlt,hz.1 hc⟩:_/\_)]⟩
   ·refine ab hc ?_;refine aV hc ?_;exact hR.ro ⟨rfl,by unfold kc;rw[decide_eq_false (λh:_/\_=>hc (hz.2 h.2))]⟩
  ·refine aE @bX hlt ?_;refine cO @bX hlt ?_;refine CA ?_;refine ab hlt ?_;refine aV hlt ?_;exact hR.ro ⟨rfl,by unfold kc;rw[decide_eq_false (λh:_/\_=>hlt h.1)]⟩
open Eng
set_option maxRecDepth 10000
theorem SC (s t:Bs) (hs:s.length<=9223372036854775807) (ht:t.length<=9223372036854775807):ao Tryz.prog 77 [.str s,.str t] (.bool (aJ t s)):=by
 refine Cod.SD (λE R hN hR=>?_);by_cases h:t.length<=s.length
 ·have hi:(t.length:Int)<=(s.length:Int):=acN;refine ab hi ?_;refine aV hi ?_;refine hR.ro ⟨rfl,?_⟩;simp[aJ,h]
 ·have hi:¬(t.length:Int)<=(s.length:Int):=acN;refine ab hi ?_;refine aV hi ?_;exact hR.ro ⟨rfl,by simp[aJ,h]⟩
theorem yV (s t:Bs) (hs:s.length<=9223372036854775807) (ht:t.length<=9223372036854775807):ao Tryz.prog 40 [.str s,.str t] (.bool (aJ t s)):=by
 refine Cod.Zz (λE R hN hR=>?_);refine wW ?_;refine ah (SC s t hs ht) rfl rfl ?_;refine wW ?_;exact hR.ro ⟨rfl,rfl⟩
theorem zo {α:Type} (d:α) {p:α->Bool}:∀{l:List α} {k:Nat},(l.take k).all p=true->(l.length<=k\/p (l.getD k d)=false)->l.takeWhile p=l.take k
 | [],k,_,_=>by simp
 | x::r,0,_,h=>by
  rcases h with h | h
  ·simp at h
  ·rw[aei]at h
   simp[aeC,h]
 | x::r,k+1,h1,h2=>by
  rw[adO,adY,acX]at h1;rw[aeC,if_pos h1.1,adO,zo d h1.2 (h2.imp (λh=>by simpa using h) (λh=>by simpa using h))]
theorem dj {α:Type} (d:α):∀(l:List α) {k:Nat},k<l.length->l.take (k+1)=l.take k++[l.getD k d]
 | [],k,h=>by simp at h
 | x::r,0,h=>by simp
 | x::r,k+1,h=>by
  rw[adO,dj d r (by simpa using h)];simp
theorem BJ {α:Type} (d:α) (l:List α) (o k:Nat):(l.drop o).getD k d=l.getD (o+k) d:=by
 rw[acO,List.getElem?_drop,<-acO]
abbrev fD (L:List Fi) (n:Nat):AV:=.aq (.agg [.ro 2 (a8 L),.int .i64 n])
theorem dT {α:Type} {l:List α} {k:Nat} (d:α) (h:k<l.length):l.getD k d∈l:=by
 rw[acO,List.getElem?_eq_getElem h];exact adB h
set_option maxHeartbeats 1000000 in
theorem zq (L:List Fi) (n:Nat) (t:Bs) (hs:eO L) (hl:L.length<=100000) (ht:t.length<=9223372036854775807) (hp:∀f∈L,f.1.length<=9223372036854775807) :
    ao Tryz.prog 28 [fD L n,.str t] (.ro 1 (au (bU t L))):=by
 refine Cod.abu (λE R hN hR=>?_);refine wW ?_;refine ah (AY L t hs hl) rfl rfl ?_;have hpl:=qM t L;obtain⟨o,ho⟩:∃o,o=posF t L:=⟨_,rfl⟩;unfold bU at hR;rw[<-ho]at hpl hR;simp(disch:=omega)only[go_sem,simprocAttr,<-ho];obtain⟨D,hD⟩:∃D,D=L.drop o:=⟨_,rfl⟩;have hDl:D.length=L.length-o:=by rw[hD,acU]
 rw[<-hD]at hR
 refine aD hN (λk:Nat=>⟨[(0,fD L n),(1,.str t),(5,.sl 204049 0 (D.take k).length),(6,.int .i64 ((o+k:Nat):Int))],[(204049,.arr 1 (au ((D.take k).map (·.1))))]⟩)
  (λk=>k<=D.length/\(D.take k).all (λf=>aJ t f.1)=true) (λk=>D.length-k) 0 (.nil 5 204049 1 rfl (.le (by simp(disch:=omega)only[go_sem,simprocAttr,lT,adI,ad8,adn,adE]))) ⟨ac9 _,by simp⟩ ?_
 rintro k R1 ⟨hk,hall⟩ hR1;have htl:(D.take k).length=k:=by rw[acS];omega
 have hsub:aB (au ((D.take k).map (·.1))) 0 k=au ((D.take k).map (·.1)):=by
  unfold aB;rw[ado,acP (by rw[aZ,ac7,htl];omega)]
 have fin:(D.length<=k\/aJ t (D.getD k aP).1=false)->D.takeWhile (λf=>aJ t f.1)=D.take k:=λh=>zo aP hall h;by_cases hlt:k<D.length
 ·have hsn:=dj aP D hlt;have hgd:L.getD (o+k) aP=D.getD k aP:=by rw[hD,BJ]
  have hmem:(L.getD (o+k) aP).1.length<=9223372036854775807:=hp _ (dT aP acN);rw[hgd]at hmem;have hi:((o+k:Nat):Int)<(L.length:Int):=acN;rw[htl];refine bV @bX hi @iq hgd ?_;refine kJ @bX hi @iq hgd ?_;refine eI (gq vV (yV _ t hmem ht) vV rfl rfl ?_);generalize hx:D.getD k aP=x at *
  by_cases hb:aJ t x.1=true
  ·simp(disch:=omega)only[go_sem,simprocAttr,hb,bX,iq,hgd,aZ,ac7,htl];rw[hsub,ji];refine⟨⟨dM,acN⟩,hR1 (k+1) _ acN ⟨acN,by rw[hsn,adU,hall];simp[hb]⟩ (.le ?_)⟩;rw[hsn,acQ,htl,adr];simp(disch:=omega)only[go_sem,simprocAttr,adi,ad8,acW]
  ·have hb:aJ t x.1=false:=by simpa using hb
   rw[fin (.inr hb)]at hR;refine ab hb ?_;exact hR.wk (h':=[]) (r':=.ro 1 (au ((D.take k).map (·.1)))) (ar':=[.undef,.undef]) rfl (.bj 204049 (.le (by simp(disch:=omega)only[go_sem,simprocAttr,aZ,ac7,htl,dM,hsub]))) ⟨rfl,rfl⟩
 ·have hi:¬((o+k:Nat):Int)<(L.length:Int):=acN;rw[fin (.inl acN)]at hR;have hDk:D.take k=D:=acP acN;rw[hDk]at hsub hR htl;rw[hDk,htl];refine aE @bX hi ?_;refine cO @bX hi ?_;exact hR.wk (h':=[]) (r':=.ro 1 (au (D.map (·.1)))) (ar':=[.undef,.undef]) rfl (.bj 204049 (.le (by simp(disch:=omega)only[go_sem,simprocAttr,aZ,ac7,htl,dM,hsub]))) ⟨rfl,rfl⟩
theorem uL (L:List Fi) (n:Nat) (p:Bs) (hs:eO L) (hl:L.length<=100000):ao Tryz.prog 33 [fD L n,.str p] (match getF p L with
    | some d=>.af [.str d,.int .i64 0]
    | none=>.af [.str [],.int .i64 7]):=by
 refine Cod.ZV (λE R hN hR=>?_);rw[CE]at hR;refine wW ?_;refine ah (AY L p hs hl) rfl rfl ?_;by_cases h:posF p L<L.length/\(L.getD (posF p L) aP).1=p
 ·rw[if_pos h]at hR;have h1:=h.1;unfold kc;rw[decide_eq_true h];refine aE @bX @iq ?_;exact hR.ro ⟨rfl,rfl⟩
 ·rw[if_neg h]at hR;unfold kc;rw[decide_eq_false h];refine wW ?_;exact hR.ro ⟨rfl,rfl⟩
end Go.Proofs.YtoalcafkffmiiaaGreatDoor.Ls
