/- The proof, part 18 of 43. -/
import Derived.Test.YtoalcafkffmiiaaGreatDoorOdbShadowsM
import Derived.Test.YtoalcafkffmiiaaGreatDoorOdbShadowsP
import Derived.Test.YtoalcafkffmiiaaGreatDoorOdbShadowsQ
set_option linter.all false
namespace Go.Proofs.YtoalcafkffmiiaaGreatDoor.Ls
open Eng
set_option maxRecDepth 10000
theorem xi (a b:Bs):aJ Tryz.prog 66 [.str a,.str b] (.int .i64 (Lib.compareBytes a b)):=
 uS rfl rfl (λw=>Tryz.strings_Compare ⟨a.toArray⟩ ⟨b.toArray⟩ w)
theorem wS (x y:Fi):aJ Tryz.prog 26 [dw x,dw y] (.int .i64 (cg x y)):=by
 refine Cod.I9 (λE R hN hR=>?_);simp(disch:=omega)only[go_sem,simprocAttr,dw];refine aw (xi x.1 y.1) rfl rfl ?_;refine wW ?_;exact hR.ro ⟨rfl,rfl⟩
abbrev w8:Value:=.func (.func 26) #[] #[]
abbrev jm (t:Bs) (L:List Fi):AV:=.ai [.int .i64 (posF t L:Nat),.bool (decide (posF t L<L.length/\(L.getD (posF t L) aX).1=t))]
theorem wP (L:List Fi) (t:Bs) (hs:eQ L) (hl:L.length<=100000):aJ Tryz.prog 70 [.ro 2 (bm L),.agg [.str t,.str []],.lit w8] (jm t L):=by
 refine Cod.I1 (λE R hN hR=>?_);have hp:=nL t L;refine au @bR ?_;refine aZ hN (λp:Nat×Nat=>⟨[(0,.ro 2 (bm L)),(2,.lit w8),(4,.ab 201004 0),(8,.int .i64 L.length),(9,.int .i64 p.1),(10,.int .i64 p.2)],[(201004,.var [.str t,.str []])]⟩) (λp=>p.1<=posF t L/\posF t L<=p.2/\p.2<=L.length) (λp=>p.2-p.1) (0,L.length) (.le vV) ⟨aBB _,hp,aA9 _⟩ ?_;rintro⟨i,j⟩ R1 ⟨h1,h2,h3⟩ hR1;simp only at h1 h2 h3;by_cases hlt:i<j
 ·have hm:IntKind.i64.wrap (((i:Int)+(j:Int)).fdiv (2^min 1 64))=(((i+j)/2:Nat):Int):=by
   rw[show(2:Int)^min 1 64=2 from rfl,aBI _ (by decide)];rw[jx ⟨aA4,aA4⟩];omega
  have hk:(i+j)/2<L.length:=aA4;have hpi:=tY t hs hk;obtain⟨k,hk0⟩:∃k,k=(i+j)/2:=⟨_,rfl⟩;rw[<-hk0]at hm hk hpi;have hik:i<=k:=aA4;have hkj:k<j:=aA4;clear hk0;refine ct @bR hm @fS ?_;refine sC (by kernel_rfl) ?_;refine aw (wS (L.getD k aX) (t,[])) rfl rfl ?_;unfold cg;generalize Lib.compareBytes (L.getD k aX).1 t=c at *
  by_cases hc:c<0
  ·refine au hc ?_;exact hR1 (k+1,j) _ (by simp only;omega) ⟨by simp only;omega,by simp only;omega,h3⟩ (.le vV)
  ·refine au hc ?_;exact hR1 (i,k) _ (by simp only;omega) ⟨h1,by simp only;omega,by simp only;omega⟩ (.le vV)
 ·obtain rfl:i=j:=aA4;obtain rfl:i=posF t L:=aA4;by_cases hlt:posF t L<L.length
  ·have hi:((posF t L:Nat):Int)<(L.length:Int):=aA4;have hz:∀a:Bs,(Lib.compareBytes a t=0)↔a=t:=λa=>⟨j9,λe=>by rw[e];exact k8 t⟩;have hz:=hz (L.getD (posF t L) aX).1;refine ct @bR hi @fS ?_;refine fx @bR hi @fS ?_;refine yE (by kernel_rfl) ?_;refine iM (by simp(disch:=omega)only[go_sem,simprocAttr,dw]) (wS (L.getD (posF t L) aX) (t,[])) vV rfl rfl ?_;unfold cg;generalize Lib.compareBytes (L.getD (posF t L) aX).1 t=c at *
   by_cases hc:c=0
   ·refine au hc ?_;refine bq hc ?_;exact hR.ro ⟨rfl,by unfold jm;rw[decide_eq_true (⟨hlt,hz.1 hc⟩:_/\_)]⟩
   ·refine au hc ?_;refine bq hc ?_;exact hR.ro ⟨rfl,by unfold jm;rw[decide_eq_false (λh:_/\_=>hc (hz.2 h.2))]⟩
  ·refine bl @bR hlt ?_;refine dI @bR hlt ?_;refine yD ?_;refine au hlt ?_;refine bq hlt ?_;exact hR.ro ⟨rfl,by unfold jm;rw[decide_eq_false (λh:_/\_=>hlt h.1)]⟩
open Eng
set_option maxRecDepth 10000
theorem Zn (s t:Bs) (hs:s.length<=9223372036854775807) (ht:t.length<=9223372036854775807):aJ Tryz.prog 77 [.str s,.str t] (.bool (a7 t s)):=by
 refine Cod.Zo (λE R hN hR=>?_);by_cases h:t.length<=s.length
 ·have hi:(t.length:Int)<=(s.length:Int):=aA4;refine au hi ?_;refine bq hi ?_;refine hR.ro ⟨rfl,?_⟩;simp[a7,h]
 ·have hi:¬(t.length:Int)<=(s.length:Int):=aA4;refine au hi ?_;refine bq hi ?_;exact hR.ro ⟨rfl,by simp[a7,h]⟩
theorem uL (s t:Bs) (hs:s.length<=9223372036854775807) (ht:t.length<=9223372036854775807):aJ Tryz.prog 40 [.str s,.str t] (.bool (a7 t s)):=by
 refine Cod.at2 (λE R hN hR=>?_);refine wW ?_;refine aw (Zn s t hs ht) rfl rfl ?_;refine wW ?_;exact hR.ro ⟨rfl,rfl⟩
theorem u6 {α:Type} (d:α) {p:α->Bool}:∀{l:List α} {k:Nat},(l.take k).all p=true->(l.length<=k\/p (l.getD k d)=false)->l.takeWhile p=l.take k
 | [],k,_,_=>by simp
 | x::r,0,_,h=>by
  rcases h with h | h
  ·simp at h
  ·rw[aCq]at h
   simp[aCA,h]
 | x::r,k+1,h1,h2=>by
  rw[aBR,aCb,aBd]at h1;rw[aCA,if_pos h1.1,aBR,u6 d h1.2 (h2.imp (λh=>by simpa using h) (λh=>by simpa using h))]
theorem dE {α:Type} (d:α):∀(l:List α) {k:Nat},k<l.length->l.take (k+1)=l.take k++[l.getD k d]
 | [],k,h=>by simp at h
 | x::r,0,h=>by simp
 | x::r,k+1,h=>by
  rw[aBR,dE d r (by simpa using h)];simp
theorem xD {α:Type} (d:α) (l:List α) (o k:Nat):(l.drop o).getD k d=l.getD (o+k) d:=by
 rw[aA5,List.getElem?_drop,<-aA5]
abbrev eu (L:List Fi) (n:Nat):AV:=.az (.agg [.ro 2 (bm L),.int .i64 n])
theorem fy {α:Type} {l:List α} {k:Nat} (d:α) (h:k<l.length):l.getD k d∈l:=by
 rw[aA5,List.getElem?_eq_getElem h];exact aBJ h
set_option maxHeartbeats 1000000 in
theorem va (L:List Fi) (n:Nat) (t:Bs) (hs:eQ L) (hl:L.length<=100000) (ht:t.length<=9223372036854775807) (hp:∀f∈L,f.1.length<=9223372036854775807) :
    aJ Tryz.prog 28 [eu L n,.str t] (.ro 1 (aV (bL t L))):=by
 refine Cod.axw (λE R hN hR=>?_);refine wW ?_;refine aw (wP L t hs hl) rfl rfl ?_;have hpl:=nL t L;obtain⟨o,ho⟩:∃o,o=posF t L:=⟨_,rfl⟩;unfold bL at hR;rw[<-ho]at hpl hR;simp(disch:=omega)only[go_sem,simprocAttr,<-ho];obtain⟨D,hD⟩:∃D,D=L.drop o:=⟨_,rfl⟩;have hDl:D.length=L.length-o:=by rw[hD,aBb]
 rw[<-hD]at hR
 refine aZ hN (λk:Nat=>⟨[(0,eu L n),(1,.str t),(5,.sl 204049 0 (D.take k).length),(6,.int .i64 ((o+k:Nat):Int))],[(204049,.arr 1 (aV ((D.take k).map (·.1))))]⟩)
  (λk=>k<=D.length/\(D.take k).all (λf=>a7 t f.1)=true) (λk=>D.length-k) 0 (.nil 5 204049 1 rfl (.le (by simp(disch:=omega)only[go_sem,simprocAttr,rf,aB1,aCm,aBK,aBO]))) ⟨aBB _,by simp⟩ ?_
 rintro k R1 ⟨hk,hall⟩ hR1;have htl:(D.take k).length=k:=by rw[aBa];omega
 have hsub:aI (aV ((D.take k).map (·.1))) 0 k=aV ((D.take k).map (·.1)):=by
  unfold aI;rw[aBF,aA7 (by rw[b5,aBp,htl];omega)]
 have fin:(D.length<=k\/a7 t (D.getD k aX).1=false)->D.takeWhile (λf=>a7 t f.1)=D.take k:=λh=>u6 aX hall h;by_cases hlt:k<D.length
 ·have hsn:=dE aX D hlt;have hgd:L.getD (o+k) aX=D.getD k aX:=by rw[hD,xD]
  have hmem:(L.getD (o+k) aX).1.length<=9223372036854775807:=hp _ (fy aX aA4);rw[hgd]at hmem;have hi:((o+k:Nat):Int)<(L.length:Int):=aA4;rw[htl];refine dq @bR hi @fS hgd ?_;refine lj @bR hi @fS hgd ?_;refine fN (iM vV (uL _ t hmem ht) vV rfl rfl ?_);generalize hx:D.getD k aX=x at *
  by_cases hb:a7 t x.1=true
  ·simp(disch:=omega)only[go_sem,simprocAttr,hb,bR,fS,hgd,b5,aBp,htl];rw[hsub,rb];refine⟨⟨iB,aA4⟩,hR1 (k+1) _ aA4 ⟨aA4,by rw[hsn,aCe,hall];simp[hb]⟩ (.le ?_)⟩;rw[hsn,aA8,htl,aBG];simp(disch:=omega)only[go_sem,simprocAttr,aBE,aCm,aBk]
  ·have hb:a7 t x.1=false:=by simpa using hb
   rw[fin (.inr hb)]at hR;refine au hb ?_;exact hR.wk (h':=[]) (r':=.ro 1 (aV ((D.take k).map (·.1)))) (ar':=[.undef,.undef]) rfl (.bu 204049 (.le (by simp(disch:=omega)only[go_sem,simprocAttr,b5,aBp,htl,iB,hsub]))) ⟨rfl,rfl⟩
 ·have hi:¬((o+k:Nat):Int)<(L.length:Int):=aA4;rw[fin (.inl aA4)]at hR;have hDk:D.take k=D:=aA7 aA4;rw[hDk]at hsub hR htl;rw[hDk,htl];refine bl @bR hi ?_;refine dI @bR hi ?_;exact hR.wk (h':=[]) (r':=.ro 1 (aV (D.map (·.1)))) (ar':=[.undef,.undef]) rfl (.bu 204049 (.le (by simp(disch:=omega)only[go_sem,simprocAttr,b5,aBp,htl,iB,hsub]))) ⟨rfl,rfl⟩
theorem qX (L:List Fi) (n:Nat) (p:Bs) (hs:eQ L) (hl:L.length<=100000):aJ Tryz.prog 33 [eu L n,.str p] (match getF p L with
    | some d=>.ai [.str d,.int .i64 0]
    | none=>.ai [.str [],.int .i64 7]):=by
 refine Cod.avC (λE R hN hR=>?_);rw[yJ]at hR;refine wW ?_;refine aw (wP L p hs hl) rfl rfl ?_;by_cases h:posF p L<L.length/\(L.getD (posF p L) aX).1=p
 ·rw[if_pos h]at hR;have h1:=h.1;unfold jm;rw[decide_eq_true h];refine bl @bR @fS ?_;exact hR.ro ⟨rfl,rfl⟩
 ·rw[if_neg h]at hR;unfold jm;rw[decide_eq_false h];refine wW ?_;exact hR.ro ⟨rfl,rfl⟩
end Go.Proofs.YtoalcafkffmiiaaGreatDoor.Ls
