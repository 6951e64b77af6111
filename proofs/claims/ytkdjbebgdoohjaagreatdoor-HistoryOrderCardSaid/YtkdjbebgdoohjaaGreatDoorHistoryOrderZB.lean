/- The proof, part 28 of 50. -/
import Derived.Test.YtkdjbebgdoohjaaGreatDoorHistoryOrderY
import Derived.Test.YtkdjbebgdoohjaaGreatDoorHistoryOrderZ
import Derived.Test.YtkdjbebgdoohjaaGreatDoorHistoryOrderZA
set_option linter.all false
namespace Go.Proofs.YtkdjbebgdoohjaaGreatDoor.Ls
open Eng
set_option maxRecDepth 10000
def jY (L:List Fi):Prop:=(∀f∈L,gQ f.1=true)/\dX L/\∀f∈L,cY (f.1++[47]) L=[]
def lB (fs:List Fi) (k:Nat):Nat:=((fs.take k).map (λf=>f.2.length)).sum
theorem D6 (fs:List Fi) {k:Nat} (h:k<fs.length):lB fs (k+1)=lB fs k+(fs.getD k aJ).2.length:=by
 unfold lB;rw[fb aJ fs h,aaq,List.sum_append];simp
theorem size_le {fs:List Fi} {B:Nat} (hb:∀f∈fs,f.2.length<=B):∀k,k<=fs.length->lB fs k<=k*B
 | 0,_=>by simp[lB]
 | k+1,h=>by
  have:=size_le hb k ZG;have:=hb _ (eK aJ (by omega:k<fs.length));rw[D6 fs ZG,aaJ];omega
theorem Ek:∀{L:List Fi},dE L->(∀i,i+1<L.length->(L.getD i aJ).1≠(L.getD (i+1) aJ).1)->dX L
 | [],_,_=>.nil
 | [x],_,_=>abE _ _
 | x::y::r,hs,ha=>by
  have hs':=Z2.1 hs;have ih:=Ek hs'.2 (λi hi=>by simpa using ha (i+1) (by simpa using hi));have h1:bM x y<=0:=hs'.1 y (Z1 ..)
  have h2:bM x y<0:=by
   have hne:x.1≠y.1:=by simpa using ha 0 (by simp)
   by_cases h0:bM x y=0;exact absurd (jA h0) hne;omega
  refine Z2.2 ⟨λz hz=>?_,ih⟩;rcases ZW.1 hz with rfl | hz;exact h2;exact uO h2 ((Z2.1 hs'.2).1 z hz)
theorem Xj {L:List Fi} (h:dX L) {i:Nat} (hi:i+1<L.length):(L.getD i aJ).1≠(L.getD (i+1) aJ).1:=by
 have:=abT.1 h i (i+1) ZG hi ZG;rw[ZH,ZH,List.getElem?_eq_getElem hi,List.getElem?_eq_getElem (by omega:i<L.length)];exact zD this
theorem yD {α:Type} (d:α) {l:List α} {p:α->Prop} (h:∀j,j<l.length->p (l.getD j d)):∀x∈l,p x:=by
 intro x hx;obtain⟨j,hj,rfl⟩:=aa7.1 hx;have:=h j hj
 rwa[ZH,List.getElem?_eq_getElem hj]at this
def CC (fs:List Fi):HP->AV->List AV->Prop:=λh r _=>h=[]/\∃L:List Fi,L.Perm fs/\dE L/\((jY L/\∃n,r=.ab [fx L n,.int .i64 0])\/(¬jY L/\r=.ab [.lit (.pointer none),.int .i64 4]))
set_option maxHeartbeats 2000000 in
theorem xO (fs:List Fi) (hl:fs.length<=200) (hp:∀f∈fs,f.1.length<=140737488351232) (hd:∀f∈fs,f.2.length<=10000):Eng.Spec Tryz.prog 11 [] [.ro 2 (aQ fs)] (CC fs):=by
 refine Cod.Wu (λE R hN hR=>?_);refine wW ?_;refine aW [] (I6 fs ZG) trivial (λ_=>rfl) ?_;rintro h' v ar ⟨rfl,rfl,rfl⟩;refine bU @lW @bD @rv ?_
 refine aP hN (λk:Nat=>⟨[(0,.ro 2 (aQ fs)),(4,.aa 203014 0),(15,.ro 2 (aQ fs)),(16,.int .i64 fs.length),(17,.int .i64 k)],[(203014,.var [.sl 200005 0 fs.length,.int .i64 (lB fs k:Nat)]),(200005,.arr 2 (aQ fs))]⟩)
  (λk=>k<=fs.length) (λk=>fs.length-k) 0 (.le (by simp(disch:=omega)only[go_sem,simprocAttr,lB,aaU,abk,List.sum_nil])) (Z7 _) ?_
 rintro k R1 hk hR1;by_cases hlt:k<fs.length
 ·have hst:=D6 fs hlt;have hsb:=size_le hd k hk;have hxb:=hd _ (eK aJ hlt);refine aE @bD @fN ?_;exact hR1 (k+1) _ ZG ZG (.le (by rw[hst];exact vV))
 ·obtain rfl:k=fs.length:=ZG;have hsb:=size_le hd fs.length (ZM _);obtain⟨z,hz⟩:∃z,z=lB fs fs.length:=⟨_,rfl⟩;rw[<-hz]at hsb;have g1:¬(2000:Int)<(fs.length:Int):=ZG;have g2:¬(4194304:Int)<(z:Int):=ZG;simp(disch:=omega)only[go_sem,simprocAttr,bD,<-hz,g1,g2]
  (repeat(first | refine cJ ?_ | refine cH ?_ | refine cI ?_)<;>simp(disch:=omega)only[go_sem,simprocAttr,bD,<-hz,g1,g2])
  refine zC (n:=2) [4] vV vV rfl (WA 203014 200005 z fs (by decide) ZG) ?_;rintro h' v ar ⟨L,hL,hs,rfl,rfl,rfl⟩;have hll:=hL.length_eq;unfold fy;refine ah @bD ?_;have hpL:∀f∈L,f.1.length<=140737488351232:=λf hf=>hp f (hL.mem_iff.1 hf)
  have hsub:az (aQ L) 0 L.length=aQ L:=by
   unfold az;rw[aae,ZK (by rw[bD];omega)]
  have bad:∀{h},¬jY L->R h (.ab [.lit (.pointer none),.int .i64 4]) [.undef]:=λh=>hR.ro ⟨rfl,L,hL,hs,.inr ⟨h,rfl⟩⟩
  refine aP hN (λk:Nat=>⟨[(4,fx L z),(50,.ro 2 (aQ L)),(51,.int .i64 L.length),(52,.int .i64 k)],[]⟩)
   (λk=>k<=L.length/\(∀j,j<k->gQ (L.getD j aJ).1=true)/\∀j,j+1<k->(L.getD j aJ).1≠(L.getD (j+1) aJ).1) (λk=>L.length-k) 0
   (.bo 200005 (.frzS 4 203014 [.ro 2 (az (aQ L) 0 L.length),.int .i64 z] rfl rfl rfl (.le (cU hsub)))) ⟨Z7 _,λj h=>by omega,λj h=>by omega⟩ ?_
  rintro k R2 ⟨hk,hc,ha⟩ hR2;by_cases hlt:k<L.length
  ·have hm:=eK aJ hlt;have ja:=hpL _ hm;have notc:gQ (L.getD k aJ).1=false->¬jY L:=λh1 h2=>by rw[h2.1 _ hm]at h1;cases h1
   have next:gQ (L.getD k aJ).1=true->(∀j,j+1=k->(L.getD j aJ).1≠(L.getD k aJ).1)->∀st',Wk st' ⟨[(4,fx L z),(50,.ro 2 (aQ L)),(51,.int .i64 L.length),(52,.int .i64 ((k+1:Nat):Int))],[]⟩->R2.ap st':=by
    intro h1 h2 st' hw;refine hR2 (k+1) _ ZG ⟨ZG,λj hj=>?_,λj hj=>?_⟩ hw
    ·rcases aaO.1 hj with h | rfl;exact hc j h;exact h1
    ·rcases acq (j+1) k with h | h;exact ha j h
     ·obtain rfl:j+1=k:=ZG;exact h2 j rfl
   refine aE @bD @fN ?_;refine an (I0 _ ZG) rfl rfl ?_
   cases hcl:gQ (L.getD k aJ).1 with
   | false=>
    refine ah hcl ?_;refine bI hcl ?_
    exact bad (notc hcl)
   | true=>
    by_cases hk0:k=0
    ·subst hk0;refine ah hcl ?_;refine bI hcl ?_;exact next hcl (λj hj=>by omega) _ (.le vV)
    ·have hi:(0:Int)<(k:Int):=ZG;refine cq hcl hi @bD @fN ?_;refine kX hcl hi @bD @fN ?_;refine rU (λhe=>?_) (λhe=>?_)
     ·refine wW ?_;refine bad (λhn=>Xj hn.2.1 (i:=k-1) ZG ?_);rw[show k-1+1=k by omega];exact he
     ·refine wW ?_;exact next hcl (λj hj=>by rw[show j=k-1 by omega];exact he) _ (.le vV)
  ·obtain rfl:k=L.length:=ZG;have hcl:∀f∈L,gQ f.1=true:=yD aJ (p:=λf:Fi=>gQ f.1=true) hc;have hst:dX L:=Ek hs ha;refine ah @bD ?_
   refine aP hN (λk:Nat=>⟨[(4,fx L z),(83,.ro 2 (aQ L)),(84,.int .i64 L.length),(85,.int .i64 k)],[]⟩)
    (λk=>k<=L.length/\∀j,j<k->cY ((L.getD j aJ).1++[47]) L=[]) (λk=>L.length-k) 0 (.le vV) ⟨Z7 _,λj h=>by omega⟩ ?_
   rintro k R3 ⟨hk,hu⟩ hR3;by_cases hlt:k<L.length
   ·have hm:=eK aJ hlt;have ja:=hpL _ hm;have hul:=qn ((L.getD k aJ).1++[47]) L;refine aE @bD @fN ?_;refine an (EJ L z ((L.getD k aJ).1++[47]) hs ZG (by rw[ZJ,ZQ];omega) (λf hf=>by have:=hpL f hf;omega)) rfl rfl ?_;by_cases h0:cY ((L.getD k aJ).1++[47]) L=[]
    ·have h0l:¬(0:Int)<((cY ((L.getD k aJ).1++[47]) L).length:Int):=by rw[h0];simp
     refine aE @bz @h0l ?_;refine hR3 (k+1) _ ZG ⟨ZG,λj hj=>?_⟩ (.le vV);rcases aaO.1 hj with h | rfl;exact hu j h;exact h0
    ·have h0l:(0:Int)<((cY ((L.getD k aJ).1++[47]) L).length:Int):=by
      have:=aby.2 h0;omega
     refine aE @bz @h0l ?_;exact bad (λhn=>h0 (hn.2.2 _ hm))
   ·obtain rfl:k=L.length:=ZG;refine ah @bD ?_;exact hR.ro ⟨rfl,L,hL,hs,.inl ⟨⟨hcl,hst,yD aJ (p:=λf:Fi=>cY (f.1++[47]) L=[]) hu⟩,z,rfl⟩⟩
open Eng
set_option maxRecDepth 10000
def kb (c:UInt8):Int:=if 48<=c.toNat/\c.toNat<=57 then(c.toNat:Int)-48 else if 97<=c.toNat/\c.toNat<=102 then(c.toNat:Int)-97+10 else -1
theorem EI (c:UInt8):aw Tryz.prog 90 [.int .u8 (c.toNat:Int)] (.int .i64 (kb c)):=by
 refine Cod.Ya (λE R hN hR=>?_);have hc:=c.toNat_lt;unfold kb at hR;by_cases h1:48<=c.toNat
 ·by_cases h2:c.toNat<=57
  ·rw[if_pos ⟨h1,h2⟩]at hR;refine wW ?_;refine gG ?_;exact hR.ro ⟨rfl,rfl⟩
  ·rw[if_neg ZG]at hR;by_cases h3:97<=c.toNat
   ·by_cases h4:c.toNat<=102
    ·rw[if_pos ⟨h3,h4⟩]at hR;refine wW ?_;refine gG ?_;exact hR.ro ⟨rfl,rfl⟩
    ·rw[if_neg ZG]at hR;refine wW ?_;refine gG ?_;exact hR.ro ⟨rfl,rfl⟩
   ·rw[if_neg ZG]at hR;refine wW ?_;refine gG ?_;exact hR.ro ⟨rfl,rfl⟩
 ·rw[if_neg ZG,if_neg ZG]at hR;refine wW ?_;refine gG ?_;exact hR.ro ⟨rfl,rfl⟩
def fK (c:UInt8):Bool:=decide (0<=kb c)
theorem Ab {c:UInt8} (h:fK c=true):∃k:Nat,k<16/\kb c=(k:Int):=by
 have h:=of_decide_eq_true h;refine⟨(kb c).toNat,?_,ZG⟩;unfold kb at h |-;split;omega
 ·split;omega
  ·rename_i h1 h2;rw[if_neg h1,if_neg h2]at h;omega
theorem M6:∀a:Nat,a<16->∀b:Nat,b<16->bits .or .i64 (IntKind.i64.wrap ((a:Int)*2^min 4 64)) (b:Int)=((16*a+b:Nat):Int):=by decide +kernel
def iw (s:Bs):Bool:=s.all fK&&decide (s.length%2=0)
theorem Yi (s:Bs) (hs:s.length<=140737488351232):Eng.Spec Tryz.prog 59 [] [.str s] (λh r _=>h=[]/\∃o:Bs,r=.ab [.str o,.bool (iw s)]):=by
 refine Cod.Yj (λE R hN hR=>?_);refine wW ?_
 refine aP hN (λo:Bs=>⟨[(0,.str s),(4,.sl 206037 0 o.length),(5,.int .i64 ((2*o.length:Nat):Int))],[(206037,.arr 1 (o.map ub))]⟩) (λo=>2*o.length<=s.length/\(s.take (2*o.length)).all fK=true) (λo=>s.length-2*o.length) []
  (.nil 4 206037 1 rfl (.le (by simp(disch:=omega)only[go_sem,simprocAttr,abk,aai]))) ⟨by simp,by simp⟩ ?_
 rintro o R1 ⟨ho,hall⟩ hR1;obtain⟨k,hk⟩:∃k,k=o.length:=⟨_,rfl⟩;rw[<-hk]at ho hall;have bad:∀{h} {j:Nat},j<s.length->fK (s.getD j 0)=false->R h (.ab [.str [],.bool false]) [.undef]:=λh1 h2=>hR.ro ⟨rfl,[],by rw[iw,wO (eK 0 h1) h2];rfl⟩;by_cases hlt:2*k+1<s.length
 ·have t1:=fb 0 s (by omega:2*k<s.length);have t2:=fb 0 s hlt;have ei1:(2*(k:Int)).toNat=2*k:=ZG;have ei2:(2*(k:Int)+1).toNat=2*k+1:=ZG;have hi:2*(k:Int)+1<(s.length:Int):=ZG;have d1:=EI (s.getD (2*k) 0);have d2:=EI (s.getD (2*k+1) 0);have bad1:=λh=>bad (h:=h) (by omega:2*k<s.length);have bad2:=λh=>bad (h:=h) hlt;rw[<-hk];have hkl:(o.map ub).length=k:=by rw[Z3,hk]
  have hsub:az (o.map ub) 0 k=o.map ub:=by
   unfold az;rw[aae,ZK ZG]
  refine bU hi ei1 ei2 ?_;refine an d1 rfl rfl ?_;refine wW ?_;refine an d2 rfl rfl ?_;generalize s.getD (2*k) 0=a at *
  generalize s.getD (2*k+1) 0=b at *
  cases ha:fK a with
  | false=>
   have h0:kb a<0:=by have:=of_decide_eq_false ha;omega
   refine ah h0 ?_;refine bI h0 ?_
   exact bad1 _ ha
  | true=>
   obtain⟨x,hx,ex⟩:=Ab ha
   cases hb:fK b with
   | false=>
    have h0:kb b<0:=by have:=of_decide_eq_false hb;omega
    have h1:¬(x:Int)<0:=ZG;rw[ex];refine aE h0 h1 ?_;refine ee h0 h1 ?_
    exact bad2 _ hb
   | true=>
    obtain⟨y,hy,ey⟩:=Ab hb;have h1:¬(x:Int)<0:=ZG;have h2:¬(y:Int)<0:=ZG;have h3:=M6 x hx y hy;rw[ex,ey];refine bU h1 h2 h3 ?_;refine iY h1 h2 h3 ?_;have hl1:(o++[UInt8.ofNat (16*x+y)]).length=k+1:=by rw[ZJ,<-hk];rfl
    refine hR1 (o++[UInt8.ofNat (16*x+y)]) _ ZG ⟨ZG,?_⟩ (.le (by rw[hl1,show 2*(k+1)=2*k+2 by omega];exact vV));rw[hl1,show 2*(k+1)=2*k+1+1 by omega,t2,t1,aa8,aa8,hall];simp[ha,hb]
 ·have hi:¬2*(k:Int)+1<(s.length:Int):=ZG;rw[<-hk];by_cases he:s.length=2*k
  ·have e1:s.take (2*k)=s:=ZK ZG;rw[e1]at hall;have hm:(s.length:Int)=2*(k:Int):=ZG;refine ah hi ?_;exact hR.ro ⟨rfl,o,by rw[iw,hall,decide_eq_true ZG];rfl⟩
  ·refine ah hi ?_;exact hR.ro ⟨rfl,[],by rw[iw,decide_eq_false ZG];simp⟩
def cf (s:Bs):Bool:=iw s&&decide (s.length=40)
theorem nU (s:Bs) (hs:s.length<=140737488351232):aw Tryz.prog 32 [.str s] (.bool (cf s)):=by
 refine Cod.Wf (λE R hN hR=>?_);refine wW ?_;refine dR (Yi s hs) rfl ?_;rintro h' v ar ⟨rfl,o,rfl⟩;refine⟨rfl,rfl,?_⟩;unfold cf at hR
 cases hx:iw s with
 | false=>
  rw[hx]at hR;refine wW ?_;refine gG ?_
  exact hR.ro ⟨rfl,rfl⟩
 | true=>
  rw[hx]at hR;by_cases h40:s.length=40
  ·have hi:(s.length:Int)=40:=ZG;rw[decide_eq_true h40]at hR;refine ah hi ?_;refine bI hi ?_;exact hR.ro ⟨rfl,rfl⟩
  ·have hi:¬(s.length:Int)=40:=ZG;rw[decide_eq_false h40]at hR;refine ah hi ?_;refine bI hi ?_;exact hR.ro ⟨rfl,rfl⟩
def wQ:Bs:=[111,98,106,101,99,116,115,47]
def ln (s:Bs):Bs:=wQ++s.take 2++[47]++s.drop 2
theorem xf {s:Bs} (h:cf s=true):s.length=40/\(ln s).length=49:=by
 have h40:s.length=40:=by
  unfold cf at h;rw[ZS]at h;exact of_decide_eq_true h.2
 refine⟨h40,?_⟩;unfold ln wQ;simp[h40]
theorem QK (s:Bs) (hs:s.length<=140737488351232):aw Tryz.prog 99 [.str s] (if cf s=true then .ab [.str (ln s),.int .i64 0]else .ab [.str [],.int .i64 4]):=by
 refine Cod.QL (λE R hN hR=>?_);refine wW ?_;refine an (nU s hs) rfl rfl ?_
 cases hx:cf s with
 | false=>
  rw[hx]at hR;refine wW ?_
  exact hR.ro ⟨rfl,rfl⟩
 | true=>
  rw[hx]at hR;have h40:=(xf hx).1;refine ah h40 ?_;exact hR.ro ⟨rfl,by rw[if_pos rfl,ln,wQ];simp⟩
def bS (p:Bs):Bs:=Lib.replace (p.drop 8) [47] [] 1
end Go.Proofs.YtkdjbebgdoohjaaGreatDoor.Ls
