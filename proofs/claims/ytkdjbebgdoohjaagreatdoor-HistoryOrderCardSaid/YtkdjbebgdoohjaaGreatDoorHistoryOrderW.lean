/- The proof, part 23 of 50. -/
import Derived.Test.YtkdjbebgdoohjaaGreatDoorHistoryOrderN
import Derived.Test.YtkdjbebgdoohjaaGreatDoorHistoryOrderP
import Derived.Test.YtkdjbebgdoohjaaGreatDoorHistoryOrderQ
set_option linter.all false
namespace Go.Proofs.YtkdjbebgdoohjaaGreatDoor.Ls
open Eng
set_option maxRecDepth 10000
theorem zK (a b:Bs):aw Tryz.prog 48 [.str a,.str b] (.int .i64 (Lib.compareBytes a b)):=
 lC rfl rfl (λw=>Tryz.strings_Compare ⟨a.toArray⟩ ⟨b.toArray⟩ w)
theorem zy (x y:Fi):aw Tryz.prog 22 [dH x,dH y] (.int .i64 (bM x y)):=by
 refine Cod.Ie (λE R hN hR=>?_);simp(disch:=omega)only[go_sem,simprocAttr,dH];refine an (zK x.1 y.1) rfl rfl ?_;refine wW ?_;exact hR.ro ⟨rfl,rfl⟩
abbrev zH:Value:=.func (.func 22) #[] #[]
abbrev iX (t:Bs) (L:List Fi):AV:=.ab [.int .i64 (posF t L:Nat),.bool (decide (posF t L<L.length/\(L.getD (posF t L) aJ).1=t))]
theorem zw (L:List Fi) (t:Bs) (hs:dE L) (hl:L.length<=100000):aw Tryz.prog 51 [.ro 2 (aQ L),.agg [.str t,.str []],.lit zH] (iX t L):=by
 refine Cod.H8 (λE R hN hR=>?_);have hp:=sP t L;refine ah @bD ?_;refine aP hN (λp:Nat×Nat=>⟨[(0,.ro 2 (aQ L)),(2,.lit zH),(4,.aa 201004 0),(8,.int .i64 L.length),(9,.int .i64 p.1),(10,.int .i64 p.2)],[(201004,.var [.str t,.str []])]⟩) (λp=>p.1<=posF t L/\posF t L<=p.2/\p.2<=L.length) (λp=>p.2-p.1) (0,L.length) (.le vV) ⟨Z7 _,hp,ZM _⟩ ?_;rintro⟨i,j⟩ R1 ⟨h1,h2,h3⟩ hR1;simp only at h1 h2 h3;by_cases hlt:i<j
 ·have hm:IntKind.i64.wrap (((i:Int)+(j:Int)).fdiv (2^min 1 64))=(((i+j)/2:Nat):Int):=by
   rw[show(2:Int)^min 1 64=2 from rfl,aaf _ (by decide)];rw[eF ⟨ZG,ZG⟩];omega
  have hk:(i+j)/2<L.length:=ZG;have hpi:=xg t hs hk;obtain⟨k,hk0⟩:∃k,k=(i+j)/2:=⟨_,rfl⟩;rw[<-hk0]at hm hk hpi;have hik:i<=k:=ZG;have hkj:k<j:=ZG;clear hk0;refine bU @bD hm @fN ?_;refine vc (by kernel_rfl) ?_;refine an (zy (L.getD k aJ) (t,[])) rfl rfl ?_;unfold bM;generalize Lib.compareBytes (L.getD k aJ).1 t=c at *
  by_cases hc:c<0
  ·refine ah hc ?_;exact hR1 (k+1,j) _ (by simp only;omega) ⟨by simp only;omega,by simp only;omega,h3⟩ (.le vV)
  ·refine ah hc ?_;exact hR1 (i,k) _ (by simp only;omega) ⟨h1,by simp only;omega,by simp only;omega⟩ (.le vV)
 ·obtain rfl:i=j:=ZG;obtain rfl:i=posF t L:=ZG;by_cases hlt:posF t L<L.length
  ·have hi:((posF t L:Nat):Int)<(L.length:Int):=ZG;have hz:∀a:Bs,(Lib.compareBytes a t=0)↔a=t:=λa=>⟨jA,λe=>by rw[e];exact j9 t⟩;have hz:=hz (L.getD (posF t L) aJ).1;refine bU @bD hi @fN ?_;refine iY @bD hi @fN ?_;refine A6 (by kernel_rfl) ?_;refine eS (by simp(disch:=omega)only[go_sem,simprocAttr,dH]) (zy (L.getD (posF t L) aJ) (t,[])) vV rfl rfl ?_;unfold bM;generalize Lib.compareBytes (L.getD (posF t L) aJ).1 t=c at *
   by_cases hc:c=0
   ·refine ah hc ?_;refine bI hc ?_;exact hR.ro ⟨rfl,by unfold iX;rw[decide_eq_true (⟨hlt,hz.1 hc⟩:_/\_)]⟩
   ·refine ah hc ?_;refine bI hc ?_;exact hR.ro ⟨rfl,by unfold iX;rw[decide_eq_false (λh:_/\_=>hc (hz.2 h.2))]⟩
  ·refine aE @bD hlt ?_;refine ee @bD hlt ?_;refine A5 ?_;refine ah hlt ?_;refine bI hlt ?_;exact hR.ro ⟨rfl,by unfold iX;rw[decide_eq_false (λh:_/\_=>hlt h.1)]⟩
open Eng
set_option maxRecDepth 10000
theorem QG (s t:Bs) (hs:s.length<=9223372036854775807) (ht:t.length<=9223372036854775807):aw Tryz.prog 84 [.str s,.str t] (.bool (bu t s)):=by
 refine Cod.QH (λE R hN hR=>?_);by_cases h:t.length<=s.length
 ·have hi:(t.length:Int)<=(s.length:Int):=ZG;refine ah hi ?_;refine bI hi ?_;refine hR.ro ⟨rfl,?_⟩;simp[bu,h]
 ·have hi:¬(t.length:Int)<=(s.length:Int):=ZG;refine ah hi ?_;refine bI hi ?_;exact hR.ro ⟨rfl,by simp[bu,h]⟩
theorem V9 (s t:Bs) (hs:s.length<=9223372036854775807) (ht:t.length<=9223372036854775807):aw Tryz.prog 52 [.str s,.str t] (.bool (bu t s)):=by
 refine Cod.Wa (λE R hN hR=>?_);refine wW ?_;refine an (QG s t hs ht) rfl rfl ?_;refine wW ?_;exact hR.ro ⟨rfl,rfl⟩
theorem EE {α:Type} (d:α) {p:α->Bool}:∀{l:List α} {k:Nat},(l.take k).all p=true->(l.length<=k\/p (l.getD k d)=false)->l.takeWhile p=l.take k
 | [],k,_,_=>by simp
 | x::r,0,_,h=>by
  rcases h with h | h
  ·simp at h
  ·rw[abw]at h
   simp[abz,h]
 | x::r,k+1,h1,h2=>by
  rw[aaA,aa9,ZS]at h1;rw[abz,if_pos h1.1,aaA,EE d h1.2 (h2.imp (λh=>by simpa using h) (λh=>by simpa using h))]
theorem fb {α:Type} (d:α):∀(l:List α) {k:Nat},k<l.length->l.take (k+1)=l.take k++[l.getD k d]
 | [],k,h=>by simp at h
 | x::r,0,h=>by simp
 | x::r,k+1,h=>by
  rw[aaA,fb d r (by simpa using h)];simp
theorem Kl {α:Type} (d:α) (l:List α) (o k:Nat):(l.drop o).getD k d=l.getD (o+k) d:=by
 rw[ZH,List.getElem?_drop,<-ZH]
abbrev fx (L:List Fi) (n:Nat):AV:=.ao (.agg [.ro 2 (aQ L),.int .i64 n])
theorem eK {α:Type} {l:List α} {k:Nat} (d:α) (h:k<l.length):l.getD k d∈l:=by
 rw[ZH,List.getElem?_eq_getElem h];exact aaP h
set_option maxHeartbeats 1000000 in
theorem EJ (L:List Fi) (n:Nat) (t:Bs) (hs:dE L) (hl:L.length<=100000) (ht:t.length<=9223372036854775807) (hp:∀f∈L,f.1.length<=9223372036854775807) :
    aw Tryz.prog 24 [fx L n,.str t] (.ro 1 (aL (cY t L))):=by
 refine Cod.Yh (λE R hN hR=>?_);refine wW ?_;refine an (zw L t hs hl) rfl rfl ?_;have aY:=sP t L;obtain⟨o,ho⟩:∃o,o=posF t L:=⟨_,rfl⟩;unfold cY at hR;rw[<-ho]at aY hR;simp(disch:=omega)only[go_sem,simprocAttr,<-ho];obtain⟨D,hD⟩:∃D,D=L.drop o:=⟨_,rfl⟩;have hDl:D.length=L.length-o:=by rw[hD,ZN]
 rw[<-hD]at hR
 refine aP hN (λk:Nat=>⟨[(0,fx L n),(1,.str t),(5,.sl 204049 0 (D.take k).length),(6,.int .i64 ((o+k:Nat):Int))],[(204049,.arr 1 (aL ((D.take k).map (·.1))))]⟩)
  (λk=>k<=D.length/\(D.take k).all (λf=>bu t f.1)=true) (λk=>D.length-k) 0 (.nil 5 204049 1 rfl (.le (by simp(disch:=omega)only[go_sem,simprocAttr,tC,aaU,abk,aai,aaz]))) ⟨Z7 _,by simp⟩ ?_
 rintro k R1 ⟨hk,hall⟩ hR1;have htl:(D.take k).length=k:=by rw[ZL];omega
 have hsub:az (aL ((D.take k).map (·.1))) 0 k=aL ((D.take k).map (·.1)):=by
  unfold az;rw[aae,ZK (by rw[bz,Z3,htl];omega)]
 have fin:(D.length<=k\/bu t (D.getD k aJ).1=false)->D.takeWhile (λf=>bu t f.1)=D.take k:=λh=>EE aJ hall h;by_cases hlt:k<D.length
 ·have hsn:=fb aJ D hlt;have hgd:L.getD (o+k) aJ=D.getD k aJ:=by rw[hD,Kl]
  have hmem:(L.getD (o+k) aJ).1.length<=9223372036854775807:=hp _ (eK aJ ZG);rw[hgd]at hmem;have hi:((o+k:Nat):Int)<(L.length:Int):=ZG;rw[htl];refine cq @bD hi @fN hgd ?_;refine kX @bD hi @fN hgd ?_;refine fH (eS vV (V9 _ t hmem ht) vV rfl rfl ?_);generalize hx:D.getD k aJ=x at *
  by_cases hb:bu t x.1=true
  ·simp(disch:=omega)only[go_sem,simprocAttr,hb,bD,fN,hgd,bz,Z3,htl];rw[hsub,jT];refine⟨⟨gL,ZG⟩,hR1 (k+1) _ ZG ⟨ZG,by rw[hsn,aa8,hall];simp[hb]⟩ (.le ?_)⟩;rw[hsn,ZJ,htl,aaq];simp(disch:=omega)only[go_sem,simprocAttr,aaj,abk,ZQ]
  ·have hb:bu t x.1=false:=by simpa using hb
   rw[fin (.inr hb)]at hR;refine ah hb ?_;exact hR.wk (h':=[]) (r':=.ro 1 (aL ((D.take k).map (·.1)))) (ar':=[.undef,.undef]) rfl (.bo 204049 (.le (by simp(disch:=omega)only[go_sem,simprocAttr,bz,Z3,htl,gL,hsub]))) ⟨rfl,rfl⟩
 ·have hi:¬((o+k:Nat):Int)<(L.length:Int):=ZG;rw[fin (.inl ZG)]at hR;have hDk:D.take k=D:=ZK ZG;rw[hDk]at hsub hR htl;rw[hDk,htl];refine aE @bD hi ?_;refine ee @bD hi ?_;exact hR.wk (h':=[]) (r':=.ro 1 (aL (D.map (·.1)))) (ar':=[.undef,.undef]) rfl (.bo 204049 (.le (by simp(disch:=omega)only[go_sem,simprocAttr,bz,Z3,htl,gL,hsub]))) ⟨rfl,rfl⟩
theorem xP (L:List Fi) (n:Nat) (p:Bs) (hs:dE L) (hl:L.length<=100000):aw Tryz.prog 33 [fx L n,.str p] (match getF p L with
    | some d=>.ab [.str d,.int .i64 0]
    | none=>.ab [.str [],.int .i64 7]):=by
 refine Cod.Wv (λE R hN hR=>?_);rw[Bc]at hR;refine wW ?_;refine an (zw L p hs hl) rfl rfl ?_;by_cases h:posF p L<L.length/\(L.getD (posF p L) aJ).1=p
 ·rw[if_pos h]at hR;have h1:=h.1;unfold iX;rw[decide_eq_true h];refine aE @bD @fN ?_;exact hR.ro ⟨rfl,rfl⟩
 ·rw[if_neg h]at hR;unfold iX;rw[decide_eq_false h];refine wW ?_;exact hR.ro ⟨rfl,rfl⟩
end Go.Proofs.YtkdjbebgdoohjaaGreatDoor.Ls
