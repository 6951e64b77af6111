/- The proof, part 26 of 51. -/
import Derived.Test.YtgghhaahnpbnmaaGreatDoorCartularyWalksY
set_option linter.all false
namespace Go.Proofs.YtgghhaahnpbnmaaGreatDoor.Ls
open Eng
set_option maxRecDepth 10000
def pE (L:List Fi):Prop:=(∀f∈L,gW f.1=true)/\iq L/\∀f∈L,fA (f.1++[47]) L=[]
def mb (fs:List Fi) (k:Nat):Nat:=((fs.take k).map (λf=>f.2.length)).sum
theorem Ga (fs:List Fi) {k:Nat} (h:k<fs.length):mb fs (k+1)=mb fs k+(fs.getD k bc).2.length:=by
 unfold mb;rw[dS bc fs h,ady,List.sum_append];simp
theorem size_le {fs:List Fi} {B:Nat} (hb:∀f∈fs,f.2.length<=B):∀k,k<=fs.length->mb fs k<=k*B
 | 0,_=>by simp[mb]
 | k+1,h=>by
  have:=size_le hb k acB;have:=hb _ (dL bc (by omega:k<fs.length));rw[Ga fs acB,adS];omega
theorem Gp:∀{L:List Fi},eB L->(∀i,i+1<L.length->(L.getD i bc).1≠(L.getD (i+1) bc).1)->iq L
 | [],_,_=>.nil
 | [x],_,_=>List.pairwise_singleton _ _
 | x::y::r,hs,ha=>by
  have hs':=aen.1 hs;have ih:=Gp hs'.2 (λi hi=>by simpa using ha (i+1) (by simpa using hi));have h1:b5 x y<=0:=hs'.1 y (acU ..)
  have h2:b5 x y<0:=by
   have hne:x.1≠y.1:=by simpa using ha 0 (by simp)
   by_cases h0:b5 x y=0;exact absurd (mH h0) hne;omega
  refine aen.2 ⟨λz hz=>?_,ih⟩;rcases acW.1 hz with rfl | hz;exact h2;exact KF h2 ((aen.1 hs'.2).1 z hz)
theorem Z4 {L:List Fi} (h:iq L) {i:Nat} (hi:i+1<L.length):(L.getD i bc).1≠(L.getD (i+1) bc).1:=by
 have:=ae6.1 h i (i+1) acB hi acB;rw[acC,acC,List.getElem?_eq_getElem hi,List.getElem?_eq_getElem (by omega:i<L.length)];exact Bd this
theorem z7 {α:Type} (d:α) {l:List α} {p:α->Prop} (h:∀j,j<l.length->p (l.getD j d)):∀x∈l,p x:=by
 intro x hx;obtain⟨j,hj,rfl⟩:=aez.1 hx;have:=h j hj
 rwa[acC,List.getElem?_eq_getElem hj]at this
def U2 (fs:List Fi):HP->AV->List AV->Prop:=λh r _=>h=[]/\∃L:List Fi,L.Perm fs/\eB L/\((pE L/\∃n,r=.ab [fL L n,.int .i64 0])\/(¬pE L/\r=.ab [.lit (.pointer none),.int .i64 4]))
set_option maxHeartbeats 2000000 in
theorem Zi (fs:List Fi) (hl:fs.length<=200) (hp:∀f∈fs,f.1.length<=140737488351232) (hd:∀f∈fs,f.2.length<=10000):Eng.Spec Tryz.prog 10 [] [.ro 2 (bK fs)] (U2 fs):=by
 refine Cod.Zj (λE R hN hR=>?_);refine wW ?_;refine aN [] (Lt fs acB) trivial (λ_=>rfl) ?_;rintro h' v ar ⟨rfl,rfl,rfl⟩;refine cI @td @cF @N4 ?_
 refine aJ hN (λk:Nat=>⟨[(0,.ro 2 (bK fs)),(4,.aa 203014 0),(15,.ro 2 (bK fs)),(16,.int .i64 fs.length),(17,.int .i64 k)],[(203014,.var [.sl 200005 0 fs.length,.int .i64 (mb fs k:Nat)]),(200005,.arr 2 (bK fs))]⟩)
  (λk=>k<=fs.length) (λk=>fs.length-k) 0 (.le (by simp(disch:=omega)only[go_sem,simprocAttr,mb,ad3,aef,List.sum_nil])) (ac5 _) ?_
 rintro k R1 hk hR1;by_cases hlt:k<fs.length
 ·have hst:=Ga fs hlt;have hsb:=size_le hd k hk;have hxb:=hd _ (dL bc hlt);refine aV @cF @iX ?_;exact hR1 (k+1) _ acB acB (.le (by rw[hst];exact vV))
 ·obtain rfl:k=fs.length:=acB;have hsb:=size_le hd fs.length (acG _);obtain⟨z,hz⟩:∃z,z=mb fs fs.length:=⟨_,rfl⟩;rw[<-hz]at hsb;have g1:¬(2000:Int)<(fs.length:Int):=acB;have g2:¬(4194304:Int)<(z:Int):=acB;simp(disch:=omega)only[go_sem,simprocAttr,cF,<-hz,g1,g2]
  (repeat(first | refine eJ ?_ | refine eH ?_ | refine eI ?_)<;>simp(disch:=omega)only[go_sem,simprocAttr,cF,<-hz,g1,g2])
  refine A8 (n:=2) [4] vV vV rfl (Zp 203014 200005 z fs (by decide) acB) ?_;rintro h' v ar ⟨L,hL,hs,rfl,rfl,rfl⟩;have hll:=hL.length_eq;unfold fM;refine ah @cF ?_;have hpL:∀f∈L,f.1.length<=140737488351232:=λf hf=>hp f (hL.mem_iff.1 hf)
  have hsub:aB (bK L) 0 L.length=bK L:=by
   unfold aB;rw[adp,acF (by rw[cF];omega)]
  have bad:∀{h},¬pE L->R h (.ab [.lit (.pointer none),.int .i64 4]) [.undef]:=λh=>hR.ro ⟨rfl,L,hL,hs,.inr ⟨h,rfl⟩⟩
  refine aJ hN (λk:Nat=>⟨[(4,fL L z),(50,.ro 2 (bK L)),(51,.int .i64 L.length),(52,.int .i64 k)],[]⟩)
   (λk=>k<=L.length/\(∀j,j<k->gW (L.getD j bc).1=true)/\∀j,j+1<k->(L.getD j bc).1≠(L.getD (j+1) bc).1) (λk=>L.length-k) 0
   (.bn 200005 (.frzS 4 203014 [.ro 2 (aB (bK L) 0 L.length),.int .i64 z] rfl rfl rfl (.le (eY hsub)))) ⟨ac5 _,λj h=>by omega,λj h=>by omega⟩ ?_
  rintro k R2 ⟨hk,hc,ha⟩ hR2;by_cases hlt:k<L.length
  ·have hm:=dL bc hlt;have gy:=hpL _ hm;have notc:gW (L.getD k bc).1=false->¬pE L:=λh1 h2=>by rw[h2.1 _ hm]at h1;cases h1
   have next:gW (L.getD k bc).1=true->(∀j,j+1=k->(L.getD j bc).1≠(L.getD k bc).1)->∀st',Wk st' ⟨[(4,fL L z),(50,.ro 2 (bK L)),(51,.int .i64 L.length),(52,.int .i64 ((k+1:Nat):Int))],[]⟩->R2.ap st':=by
    intro h1 h2 st' hw;refine hR2 (k+1) _ acB ⟨acB,λj hj=>?_,λj hj=>?_⟩ hw
    ·rcases aeE.1 hj with h | rfl;exact hc j h;exact h1
    ·rcases afp (j+1) k with h | h;exact ha j h
     ·obtain rfl:j+1=k:=acB;exact h2 j rfl
   refine aV @cF @iX ?_;refine aj (Lm _ acB) rfl rfl ?_
   cases hcl:gW (L.getD k bc).1 with
   | false=>
    refine ah hcl ?_;refine cB hcl ?_
    exact bad (notc hcl)
   | true=>
    by_cases hk0:k=0
    ·subst hk0;refine ah hcl ?_;refine cB hcl ?_;exact next hcl (λj hj=>by omega) _ (.le vV)
    ·have hi:(0:Int)<(k:Int):=acB;refine cW hcl hi @cF @iX ?_;refine tt hcl hi @cF @iX ?_;refine kK (λhe=>?_) (λhe=>?_)
     ·refine wW ?_;refine bad (λhn=>Z4 hn.2.1 (i:=k-1) acB ?_);rw[show k-1+1=k by omega];exact he
     ·refine wW ?_;exact next hcl (λj hj=>by rw[show j=k-1 by omega];exact he) _ (.le vV)
  ·obtain rfl:k=L.length:=acB;have hcl:∀f∈L,gW f.1=true:=z7 bc (p:=λf:Fi=>gW f.1=true) hc;have hst:iq L:=Gp hs ha;refine ah @cF ?_
   refine aJ hN (λk:Nat=>⟨[(4,fL L z),(83,.ro 2 (bK L)),(84,.int .i64 L.length),(85,.int .i64 k)],[]⟩)
    (λk=>k<=L.length/\∀j,j<k->fA ((L.getD j bc).1++[47]) L=[]) (λk=>L.length-k) 0 (.le vV) ⟨ac5 _,λj h=>by omega⟩ ?_
   rintro k R3 ⟨hk,hu⟩ hR3;by_cases hlt:k<L.length
   ·have hm:=dL bc hlt;have gy:=hpL _ hm;have hul:=GR ((L.getD k bc).1++[47]) L;refine aV @cF @iX ?_;refine aj (GS L z ((L.getD k bc).1++[47]) hs acB (by rw[acD,acX];omega) (λf hf=>by have:=hpL f hf;omega)) rfl rfl ?_;by_cases h0:fA ((L.getD k bc).1++[47]) L=[]
    ·have h0l:¬(0:Int)<((fA ((L.getD k bc).1++[47]) L).length:Int):=by rw[h0];simp
     refine aV @bJ @h0l ?_;refine hR3 (k+1) _ acB ⟨acB,λj hj=>?_⟩ (.le vV);rcases aeE.1 hj with h | rfl;exact hu j h;exact h0
    ·have h0l:(0:Int)<((fA ((L.getD k bc).1++[47]) L).length:Int):=by
      have:=aeD.2 h0;omega
     refine aV @bJ @h0l ?_;exact bad (λhn=>h0 (hn.2.2 _ hm))
   ·obtain rfl:k=L.length:=acB;refine ah @cF ?_;exact hR.ro ⟨rfl,L,hL,hs,.inl ⟨⟨hcl,hst,z7 bc (p:=λf:Fi=>fA (f.1++[47]) L=[]) hu⟩,z,rfl⟩⟩
open Eng
set_option maxRecDepth 10000
def kG (c:UInt8):Int:=if 48<=c.toNat/\c.toNat<=57 then(c.toNat:Int)-48 else if 97<=c.toNat/\c.toNat<=102 then(c.toNat:Int)-97+10 else -1
theorem GQ (c:UInt8):aw Tryz.prog 113 [.int .u8 (c.toNat:Int)] (.int .i64 (kG c)):=by
 refine Cod.aaT (λE R hN hR=>?_);have hc:=c.toNat_lt;unfold kG at hR;by_cases h1:48<=c.toNat
 ·by_cases h2:c.toNat<=57
  ·rw[if_pos ⟨h1,h2⟩]at hR;refine wW ?_;refine gG ?_;exact hR.ro ⟨rfl,rfl⟩
  ·rw[if_neg acB]at hR;by_cases h3:97<=c.toNat
   ·by_cases h4:c.toNat<=102
    ·rw[if_pos ⟨h3,h4⟩]at hR;refine wW ?_;refine gG ?_;exact hR.ro ⟨rfl,rfl⟩
    ·rw[if_neg acB]at hR;refine wW ?_;refine gG ?_;exact hR.ro ⟨rfl,rfl⟩
   ·rw[if_neg acB]at hR;refine wW ?_;refine gG ?_;exact hR.ro ⟨rfl,rfl⟩
 ·rw[if_neg acB,if_neg acB]at hR;refine wW ?_;refine gG ?_;exact hR.ro ⟨rfl,rfl⟩
def jZ (c:UInt8):Bool:=decide (0<=kG c)
theorem BO {c:UInt8} (h:jZ c=true):∃k:Nat,k<16/\kG c=(k:Int):=by
 have h:=of_decide_eq_true h;refine⟨(kG c).toNat,?_,acB⟩;unfold kG at h |-;split;omega
 ·split;omega
  ·rename_i h1 h2;rw[if_neg h1,if_neg h2]at h;omega
theorem P9:∀a:Nat,a<16->∀b:Nat,b<16->bits .or .i64 (IntKind.i64.wrap ((a:Int)*2^min 4 64)) (b:Int)=((16*a+b:Nat):Int):=by decide +kernel
def lR (s:Bs):Bool:=s.all jZ&&decide (s.length%2=0)
theorem aaX (s:Bs) (hs:s.length<=140737488351232):Eng.Spec Tryz.prog 69 [] [.str s] (λh r _=>h=[]/\∃o:Bs,r=.ab [.str o,.bool (lR s)]):=by
 refine Cod.aaY (λE R hN hR=>?_);refine wW ?_
 refine aJ hN (λo:Bs=>⟨[(0,.str s),(4,.sl 206037 0 o.length),(5,.int .i64 ((2*o.length:Nat):Int))],[(206037,.arr 1 (o.map ub))]⟩) (λo=>2*o.length<=s.length/\(s.take (2*o.length)).all jZ=true) (λo=>s.length-2*o.length) []
  (.nil 4 206037 1 rfl (.le (by simp(disch:=omega)only[go_sem,simprocAttr,aef,ac9]))) ⟨by simp,by simp⟩ ?_
 rintro o R1 ⟨ho,hall⟩ hR1;obtain⟨k,hk⟩:∃k,k=o.length:=⟨_,rfl⟩;rw[<-hk]at ho hall;have bad:∀{h} {j:Nat},j<s.length->jZ (s.getD j 0)=false->R h (.ab [.str [],.bool false]) [.undef]:=λh1 h2=>hR.ro ⟨rfl,[],by rw[lR,Em (dL 0 h1) h2];rfl⟩;by_cases hlt:2*k+1<s.length
 ·have t1:=dS 0 s (by omega:2*k<s.length);have t2:=dS 0 s hlt;have ei1:(2*(k:Int)).toNat=2*k:=acB;have ei2:(2*(k:Int)+1).toNat=2*k+1:=acB;have hi:2*(k:Int)+1<(s.length:Int):=acB;have d1:=GQ (s.getD (2*k) 0);have d2:=GQ (s.getD (2*k+1) 0);have bad1:=λh=>bad (h:=h) (by omega:2*k<s.length);have bad2:=λh=>bad (h:=h) hlt;rw[<-hk];have hkl:(o.map ub).length=k:=by rw[acY,hk]
  have hsub:aB (o.map ub) 0 k=o.map ub:=by
   unfold aB;rw[adp,acF acB]
  refine cI hi ei1 ei2 ?_;refine aj d1 rfl rfl ?_;refine wW ?_;refine aj d2 rfl rfl ?_;generalize s.getD (2*k) 0=a at *
  generalize s.getD (2*k+1) 0=b at *
  cases ha:jZ a with
  | false=>
   have h0:kG a<0:=by have:=of_decide_eq_false ha;omega
   refine ah h0 ?_;refine cB h0 ?_
   exact bad1 _ ha
  | true=>
   obtain⟨x,hx,ex⟩:=BO ha
   cases hb:jZ b with
   | false=>
    have h0:kG b<0:=by have:=of_decide_eq_false hb;omega
    have h1:¬(x:Int)<0:=acB;rw[ex];refine aV h0 h1 ?_;refine gX h0 h1 ?_
    exact bad2 _ hb
   | true=>
    obtain⟨y,hy,ey⟩:=BO hb;have h1:¬(x:Int)<0:=acB;have h2:¬(y:Int)<0:=acB;have h3:=P9 x hx y hy;rw[ex,ey];refine cI h1 h2 h3 ?_;refine lP h1 h2 h3 ?_;have hl1:(o++[UInt8.ofNat (16*x+y)]).length=k+1:=by rw[acD,<-hk];rfl
    refine hR1 (o++[UInt8.ofNat (16*x+y)]) _ acB ⟨acB,?_⟩ (.le (by rw[hl1,show 2*(k+1)=2*k+2 by omega];exact vV));rw[hl1,show 2*(k+1)=2*k+1+1 by omega,t2,t1,aet,aet,hall];simp[ha,hb]
 ·have hi:¬2*(k:Int)+1<(s.length:Int):=acB;rw[<-hk];by_cases he:s.length=2*k
  ·have e1:s.take (2*k)=s:=acF acB;rw[e1]at hall;have hm:(s.length:Int)=2*(k:Int):=acB;refine ah hi ?_;exact hR.ro ⟨rfl,o,by rw[lR,hall,decide_eq_true acB];rfl⟩
  ·refine ah hi ?_;exact hR.ro ⟨rfl,[],by rw[lR,decide_eq_false acB];simp⟩
def cd (s:Bs):Bool:=lR s&&decide (s.length=40)
theorem o8 (s:Bs) (hs:s.length<=140737488351232):aw Tryz.prog 33 [.str s] (.bool (cd s)):=by
 refine Cod.Y2 (λE R hN hR=>?_);refine wW ?_;refine dJ (aaX s hs) rfl ?_;rintro h' v ar ⟨rfl,o,rfl⟩;refine⟨rfl,rfl,?_⟩;unfold cd at hR
 cases hx:lR s with
 | false=>
  rw[hx]at hR;refine wW ?_;refine gG ?_
  exact hR.ro ⟨rfl,rfl⟩
 | true=>
  rw[hx]at hR;by_cases h40:s.length=40
  ·have hi:(s.length:Int)=40:=acB;rw[decide_eq_true h40]at hR;refine ah hi ?_;refine cB hi ?_;exact hR.ro ⟨rfl,rfl⟩
  ·have hi:¬(s.length:Int)=40:=acB;rw[decide_eq_false h40]at hR;refine ah hi ?_;refine cB hi ?_;exact hR.ro ⟨rfl,rfl⟩
def uw:Bs:=[111,98,106,101,99,116,115,47]
def fv (s:Bs):Bs:=uw++s.take 2++[47]++s.drop 2
theorem l4 {s:Bs} (h:cd s=true):s.length=40/\(fv s).length=49:=by
 have h40:s.length=40:=by
  unfold cd at h;rw[acN]at h;exact of_decide_eq_true h.2
 refine⟨h40,?_⟩;unfold fv uw;simp[h40]
theorem DQ (s:Bs) (hs:s.length<=140737488351232):aw Tryz.prog 25 [.str s] (if cd s=true then .ab [.str (fv s),.int .i64 0]else .ab [.str [],.int .i64 4]):=by
 refine Cod.T9 (λE R hN hR=>?_);refine wW ?_;refine aj (o8 s hs) rfl rfl ?_
 cases hx:cd s with
 | false=>
  rw[hx]at hR;refine wW ?_
  exact hR.ro ⟨rfl,rfl⟩
 | true=>
  rw[hx]at hR;have h40:=(l4 hx).1;refine ah h40 ?_;exact hR.ro ⟨rfl,by rw[if_pos rfl,fv,uw];simp⟩
def bE (p:Bs):Bs:=Lib.replace (p.drop 8) [47] [] 1
end Go.Proofs.YtgghhaahnpbnmaaGreatDoor.Ls
