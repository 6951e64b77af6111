/- The proof, part 27 of 43. -/
import Derived.Test.YtoalcafkffmiiaaGreatDoorOdbGetsX
import Derived.Test.YtoalcafkffmiiaaGreatDoorOdbGetsY
import Derived.Test.YtoalcafkffmiiaaGreatDoorOdbGetsZ
set_option linter.all false
namespace Go.Proofs.YtoalcafkffmiiaaGreatDoor.Ls
open Eng
set_option maxRecDepth 10000
def ob (L:List Fi):Prop:=(∀f∈L,js f.1=true)/\fi L/\∀f∈L,bU (f.1++[47]) L=[]
def mB (fs:List Fi) (k:Nat):Nat:=((fs.take k).map (λf=>f.2.length)).sum
theorem F9 (fs:List Fi) {k:Nat} (h:k<fs.length):mB fs (k+1)=mB fs k+(fs.getD k aP).2.length:=by
 unfold mB;rw[dj aP fs h,adr,List.sum_append];simp
theorem size_le {fs:List Fi} {B:Nat} (hb:∀f∈fs,f.2.length<=B):∀k,k<=fs.length->mB fs k<=k*B
 | 0,_=>by simp[mB]
 | k+1,h=>by
  have:=size_le hb k acN;have:=hb _ (dT aP (by omega:k<fs.length));rw[F9 fs acN,ad7];omega
theorem Gn:∀{L:List Fi},eO L->(∀i,i+1<L.length->(L.getD i aP).1≠(L.getD (i+1) aP).1)->fi L
 | [],_,_=>.nil
 | [x],_,_=>aee _ _
 | x::y::r,hs,ha=>by
  have hs':=adp.1 hs;have ih:=Gn hs'.2 (λi hi=>by simpa using ha (i+1) (by simpa using hi));have h1:cv x y<=0:=hs'.1 y (ac6 ..)
  have h2:cv x y<0:=by
   have hne:x.1≠y.1:=by simpa using ha 0 (by simp)
   by_cases h0:cv x y=0;exact absurd (lp h0) hne;omega
  refine adp.2 ⟨λz hz=>?_,ih⟩;rcases adg.1 hz with rfl | hz;exact h2;exact A4 h2 ((adp.1 hs'.2).1 z hz)
theorem aaB {L:List Fi} (h:fi L) {i:Nat} (hi:i+1<L.length):(L.getD i aP).1≠(L.getD (i+1) aP).1:=by
 have:=aeX.1 h i (i+1) acN hi acN;rw[acO,acO,List.getElem?_eq_getElem hi,List.getElem?_eq_getElem (by omega:i<L.length)];exact A5 this
theorem zZ {α:Type} (d:α) {l:List α} {p:α->Prop} (h:∀j,j<l.length->p (l.getD j d)):∀x∈l,p x:=by
 intro x hx;obtain⟨j,hj,rfl⟩:=afg.1 hx;have:=h j hj
 rwa[acO,List.getElem?_eq_getElem hj]at this
def Eb (fs:List Fi):HP->AV->List AV->Prop:=λh r _=>h=[]/\∃L:List Fi,L.Perm fs/\eO L/\((ob L/\∃n,r=.af [fD L n,.int .i64 0])\/(¬ob L/\r=.af [.lit (.pointer none),.int .i64 4]))
set_option maxHeartbeats 2000000 in
theorem yZ (fs:List Fi) (hl:fs.length<=200) (hp:∀f∈fs,f.1.length<=140737488351232) (hd:∀f∈fs,f.2.length<=10000):Eng.Spec Tryz.prog 7 [] [.ro 2 (a8 fs)] (Eb fs):=by
 refine Cod.ZU (λE R hN hR=>?_);refine wW ?_;refine aI [] (KW fs acN) trivial (λ_=>rfl) ?_;rintro h' v ar ⟨rfl,rfl,rfl⟩;refine bp @oJ @bX @wJ ?_
 refine aD hN (λk:Nat=>⟨[(0,.ro 2 (a8 fs)),(4,.aa 203014 0),(15,.ro 2 (a8 fs)),(16,.int .i64 fs.length),(17,.int .i64 k)],[(203014,.var [.sl 200005 0 fs.length,.int .i64 (mB fs k:Nat)]),(200005,.arr 2 (a8 fs))]⟩)
  (λk=>k<=fs.length) (λk=>fs.length-k) 0 (.le (by simp(disch:=omega)only[go_sem,simprocAttr,mB,adI,ad8,List.sum_nil])) (ac9 _) ?_
 rintro k R1 hk hR1;by_cases hlt:k<fs.length
 ·have hst:=F9 fs hlt;have hsb:=size_le hd k hk;have hxb:=hd _ (dT aP hlt);refine aE @bX @iq ?_;exact hR1 (k+1) _ acN acN (.le (by rw[hst];exact vV))
 ·obtain rfl:k=fs.length:=acN;have hsb:=size_le hd fs.length (acT _);obtain⟨z,hz⟩:∃z,z=mB fs fs.length:=⟨_,rfl⟩;rw[<-hz]at hsb;have g1:¬(2000:Int)<(fs.length:Int):=acN;have g2:¬(4194304:Int)<(z:Int):=acN;simp(disch:=omega)only[go_sem,simprocAttr,bX,<-hz,g1,g2]
  (repeat(first | refine cC ?_ | refine cz ?_ | refine cB ?_)<;>simp(disch:=omega)only[go_sem,simprocAttr,bX,<-hz,g1,g2])
  refine sk (n:=2) [4] vV vV rfl (Z0 203014 200005 z fs (by decide) acN) ?_;rintro h' v ar ⟨L,hL,hs,rfl,rfl,rfl⟩;have hll:=hL.length_eq;unfold gL;refine ab @bX ?_;have hpL:∀f∈L,f.1.length<=140737488351232:=λf hf=>hp f (hL.mem_iff.1 hf)
  have hsub:aB (a8 L) 0 L.length=a8 L:=by
   unfold aB;rw[ado,acP (by rw[bX];omega)]
  have bad:∀{h},¬ob L->R h (.af [.lit (.pointer none),.int .i64 4]) [.undef]:=λh=>hR.ro ⟨rfl,L,hL,hs,.inr ⟨h,rfl⟩⟩
  refine aD hN (λk:Nat=>⟨[(4,fD L z),(50,.ro 2 (a8 L)),(51,.int .i64 L.length),(52,.int .i64 k)],[]⟩)
   (λk=>k<=L.length/\(∀j,j<k->js (L.getD j aP).1=true)/\∀j,j+1<k->(L.getD j aP).1≠(L.getD (j+1) aP).1) (λk=>L.length-k) 0
   (.bj 200005 (.frzS 4 203014 [.ro 2 (aB (a8 L) 0 L.length),.int .i64 z] rfl rfl rfl (.le (cn hsub)))) ⟨ac9 _,λj h=>by omega,λj h=>by omega⟩ ?_
  rintro k R2 ⟨hk,hc,ha⟩ hR2;by_cases hlt:k<L.length
  ·have hm:=dT aP hlt;have hpk:=hpL _ hm;have notc:js (L.getD k aP).1=false->¬ob L:=λh1 h2=>by rw[h2.1 _ hm]at h1;cases h1
   have next:js (L.getD k aP).1=true->(∀j,j+1=k->(L.getD j aP).1≠(L.getD k aP).1)->∀st',Wk st' ⟨[(4,fD L z),(50,.ro 2 (a8 L)),(51,.int .i64 L.length),(52,.int .i64 ((k+1:Nat):Int))],[]⟩->R2.ap st':=by
    intro h1 h2 st' hw;refine hR2 (k+1) _ acN ⟨acN,λj hj=>?_,λj hj=>?_⟩ hw
    ·rcases aec.1 hj with h | rfl;exact hc j h;exact h1
    ·rcases afM (j+1) k with h | h;exact ha j h
     ·obtain rfl:j+1=k:=acN;exact h2 j rfl
   refine aE @bX @iq ?_;refine ah (KR _ acN) rfl rfl ?_
   cases hcl:js (L.getD k aP).1 with
   | false=>
    refine ab hcl ?_;refine aV hcl ?_
    exact bad (notc hcl)
   | true=>
    by_cases hk0:k=0
    ·subst hk0;refine ab hcl ?_;refine aV hcl ?_;exact next hcl (λj hj=>by omega) _ (.le vV)
    ·have hi:(0:Int)<(k:Int):=acN;refine bV hcl hi @bX @iq ?_;refine kJ hcl hi @bX @iq ?_;refine oU (λhe=>?_) (λhe=>?_)
     ·refine wW ?_;refine bad (λhn=>aaB hn.2.1 (i:=k-1) acN ?_);rw[show k-1+1=k by omega];exact he
     ·refine wW ?_;exact next hcl (λj hj=>by rw[show j=k-1 by omega];exact he) _ (.le vV)
  ·obtain rfl:k=L.length:=acN;have hcl:∀f∈L,js f.1=true:=zZ aP (p:=λf:Fi=>js f.1=true) hc;have hst:fi L:=Gn hs ha;refine ab @bX ?_
   refine aD hN (λk:Nat=>⟨[(4,fD L z),(83,.ro 2 (a8 L)),(84,.int .i64 L.length),(85,.int .i64 k)],[]⟩)
    (λk=>k<=L.length/\∀j,j<k->bU ((L.getD j aP).1++[47]) L=[]) (λk=>L.length-k) 0 (.le vV) ⟨ac9 _,λj h=>by omega⟩ ?_
   rintro k R3 ⟨hk,hu⟩ hR3;by_cases hlt:k<L.length
   ·have hm:=dT aP hlt;have hpk:=hpL _ hm;have hul:=mF ((L.getD k aP).1++[47]) L;refine aE @bX @iq ?_;refine ah (zq L z ((L.getD k aP).1++[47]) hs acN (by rw[acQ,acW];omega) (λf hf=>by have:=hpL f hf;omega)) rfl rfl ?_;by_cases h0:bU ((L.getD k aP).1++[47]) L=[]
    ·have h0l:¬(0:Int)<((bU ((L.getD k aP).1++[47]) L).length:Int):=by rw[h0];simp
     refine aE @aZ @h0l ?_;refine hR3 (k+1) _ acN ⟨acN,λj hj=>?_⟩ (.le vV);rcases aec.1 hj with h | rfl;exact hu j h;exact h0
    ·have h0l:(0:Int)<((bU ((L.getD k aP).1++[47]) L).length:Int):=by
      have:=ad4.2 h0;omega
     refine aE @aZ @h0l ?_;exact bad (λhn=>h0 (hn.2.2 _ hm))
   ·obtain rfl:k=L.length:=acN;refine ab @bX ?_;exact hR.ro ⟨rfl,L,hL,hs,.inl ⟨⟨hcl,hst,zZ aP (p:=λf:Fi=>bU (f.1++[47]) L=[]) hu⟩,z,rfl⟩⟩
open Eng
set_option maxRecDepth 10000
def lu (c:UInt8):Int:=if 48<=c.toNat/\c.toNat<=57 then(c.toNat:Int)-48 else if 97<=c.toNat/\c.toNat<=102 then(c.toNat:Int)-97+10 else -1
theorem GP (c:UInt8):ao Tryz.prog 117 [.int .u8 (c.toNat:Int)] (.int .i64 (lu c)):=by
 refine Cod.abn (λE R hN hR=>?_);have hc:=c.toNat_lt;unfold lu at hR;by_cases h1:48<=c.toNat
 ·by_cases h2:c.toNat<=57
  ·rw[if_pos ⟨h1,h2⟩]at hR;refine wW ?_;refine gG ?_;exact hR.ro ⟨rfl,rfl⟩
  ·rw[if_neg acN]at hR;by_cases h3:97<=c.toNat
   ·by_cases h4:c.toNat<=102
    ·rw[if_pos ⟨h3,h4⟩]at hR;refine wW ?_;refine gG ?_;exact hR.ro ⟨rfl,rfl⟩
    ·rw[if_neg acN]at hR;refine wW ?_;refine gG ?_;exact hR.ro ⟨rfl,rfl⟩
   ·rw[if_neg acN]at hR;refine wW ?_;refine gG ?_;exact hR.ro ⟨rfl,rfl⟩
 ·rw[if_neg acN,if_neg acN]at hR;refine wW ?_;refine gG ?_;exact hR.ro ⟨rfl,rfl⟩
def fv (c:UInt8):Bool:=decide (0<=lu c)
theorem BF {c:UInt8} (h:fv c=true):∃k:Nat,k<16/\lu c=(k:Int):=by
 have h:=of_decide_eq_true h;refine⟨(lu c).toNat,?_,acN⟩;unfold lu at h |-;split;omega
 ·split;omega
  ·rename_i h1 h2;rw[if_neg h1,if_neg h2]at h;omega
theorem O4:∀a:Nat,a<16->∀b:Nat,b<16->bits .or .i64 (IntKind.i64.wrap ((a:Int)*2^min 4 64)) (b:Int)=((16*a+b:Nat):Int):=by decide +kernel
def gz (s:Bs):Bool:=s.all fv&&decide (s.length%2=0)
theorem abv (s:Bs) (hs:s.length<=140737488351232):Eng.Spec Tryz.prog 72 [] [.str s] (λh r _=>h=[]/\∃o:Bs,r=.af [.str o,.bool (gz s)]):=by
 refine Cod.abw (λE R hN hR=>?_);refine wW ?_
 refine aD hN (λo:Bs=>⟨[(0,.str s),(4,.sl 206037 0 o.length),(5,.int .i64 ((2*o.length:Nat):Int))],[(206037,.arr 1 (o.map ub))]⟩) (λo=>2*o.length<=s.length/\(s.take (2*o.length)).all fv=true) (λo=>s.length-2*o.length) []
  (.nil 4 206037 1 rfl (.le (by simp(disch:=omega)only[go_sem,simprocAttr,ad8,adn]))) ⟨by simp,by simp⟩ ?_
 rintro o R1 ⟨ho,hall⟩ hR1;obtain⟨k,hk⟩:∃k,k=o.length:=⟨_,rfl⟩;rw[<-hk]at ho hall;have bad:∀{h} {j:Nat},j<s.length->fv (s.getD j 0)=false->R h (.af [.str [],.bool false]) [.undef]:=λh1 h2=>hR.ro ⟨rfl,[],by rw[gz,xW (dT 0 h1) h2];rfl⟩;by_cases hlt:2*k+1<s.length
 ·have t1:=dj 0 s (by omega:2*k<s.length);have t2:=dj 0 s hlt;have ei1:(2*(k:Int)).toNat=2*k:=acN;have ei2:(2*(k:Int)+1).toNat=2*k+1:=acN;have hi:2*(k:Int)+1<(s.length:Int):=acN;have d1:=GP (s.getD (2*k) 0);have d2:=GP (s.getD (2*k+1) 0);have bad1:=λh=>bad (h:=h) (by omega:2*k<s.length);have bad2:=λh=>bad (h:=h) hlt;rw[<-hk];have hkl:(o.map ub).length=k:=by rw[ac7,hk]
  have hsub:aB (o.map ub) 0 k=o.map ub:=by
   unfold aB;rw[ado,acP acN]
  refine bp hi ei1 ei2 ?_;refine ah d1 rfl rfl ?_;refine wW ?_;refine ah d2 rfl rfl ?_;generalize s.getD (2*k) 0=a at *
  generalize s.getD (2*k+1) 0=b at *
  cases ha:fv a with
  | false=>
   have h0:lu a<0:=by have:=of_decide_eq_false ha;omega
   refine ab h0 ?_;refine aV h0 ?_
   exact bad1 _ ha
  | true=>
   obtain⟨x,hx,ex⟩:=BF ha
   cases hb:fv b with
   | false=>
    have h0:lu b<0:=by have:=of_decide_eq_false hb;omega
    have h1:¬(x:Int)<0:=acN;rw[ex];refine aE h0 h1 ?_;refine cO h0 h1 ?_
    exact bad2 _ hb
   | true=>
    obtain⟨y,hy,ey⟩:=BF hb;have h1:¬(x:Int)<0:=acN;have h2:¬(y:Int)<0:=acN;have h3:=O4 x hx y hy;rw[ex,ey];refine bp h1 h2 h3 ?_;refine gy h1 h2 h3 ?_;have hl1:(o++[UInt8.ofNat (16*x+y)]).length=k+1:=by rw[acQ,<-hk];rfl
    refine hR1 (o++[UInt8.ofNat (16*x+y)]) _ acN ⟨acN,?_⟩ (.le (by rw[hl1,show 2*(k+1)=2*k+2 by omega];exact vV));rw[hl1,show 2*(k+1)=2*k+1+1 by omega,t2,t1,adU,adU,hall];simp[ha,hb]
 ·have hi:¬2*(k:Int)+1<(s.length:Int):=acN;rw[<-hk];by_cases he:s.length=2*k
  ·have e1:s.take (2*k)=s:=acP acN;rw[e1]at hall;have hm:(s.length:Int)=2*(k:Int):=acN;refine ab hi ?_;exact hR.ro ⟨rfl,o,by rw[gz,hall,decide_eq_true acN];rfl⟩
  ·refine ab hi ?_;exact hR.ro ⟨rfl,[],by rw[gz,decide_eq_false acN];simp⟩
def bJ (s:Bs):Bool:=gz s&&decide (s.length=40)
theorem yW (s:Bs) (hs:s.length<=140737488351232):ao Tryz.prog 32 [.str s] (.bool (bJ s)):=by
 refine Cod.ZF (λE R hN hR=>?_);refine wW ?_;refine jX (abv s hs) rfl ?_;rintro h' v ar ⟨rfl,o,rfl⟩;refine⟨rfl,rfl,?_⟩;unfold bJ at hR
 cases hx:gz s with
 | false=>
  rw[hx]at hR;refine wW ?_;refine gG ?_
  exact hR.ro ⟨rfl,rfl⟩
 | true=>
  rw[hx]at hR;by_cases h40:s.length=40
  ·have hi:(s.length:Int)=40:=acN;rw[decide_eq_true h40]at hR;refine ab hi ?_;refine aV hi ?_;exact hR.ro ⟨rfl,rfl⟩
  ·have hi:¬(s.length:Int)=40:=acN;rw[decide_eq_false h40]at hR;refine ab hi ?_;refine aV hi ?_;exact hR.ro ⟨rfl,rfl⟩
def bH:Bs:=[111,98,106,101,99,116,115,47]
def eX (s:Bs):Bs:=bH++s.take 2++[47]++s.drop 2
theorem pb {s:Bs} (h:bJ s=true):s.length=40/\(eX s).length=49:=by
 have h40:s.length=40:=by
  unfold bJ at h;rw[acX]at h;exact of_decide_eq_true h.2
 refine⟨h40,?_⟩;unfold eX bH;simp[h40]
theorem xO (s:Bs) (hs:s.length<=140737488351232):ao Tryz.prog 76 [.str s] (if bJ s=true then .af [.str (eX s),.int .i64 0]else .af [.str [],.int .i64 4]):=by
 refine Cod.SO (λE R hN hR=>?_);refine wW ?_;refine ah (yW s hs) rfl rfl ?_
 cases hx:bJ s with
 | false=>
  rw[hx]at hR;refine wW ?_
  exact hR.ro ⟨rfl,rfl⟩
 | true=>
  rw[hx]at hR;have h40:=(pb hx).1;refine ab h40 ?_;exact hR.ro ⟨rfl,by rw[if_pos rfl,eX,bH];simp⟩
theorem Fv (old:Bs):∀(k:Nat) (s:Bs),(Lib.replaceK old [] k s).length<=s.length
 | 0,s=>acT _
 | k+1,s=>by
  have ih:=Fv old k (s.drop ((Lib.index s old).toNat+old.length));rw[acU]at ih;unfold Lib.replaceK;split;exact acT _
  ·rw[acQ,acQ,acS,adn];omega
def bu (p:Bs):Bs:=Lib.replace (p.drop 8) [47] [] 1
theorem qF (p:Bs):(bu p).length<=p.length:=by
 have h:(bu p).length<=(p.drop 8).length:=by
  unfold bu Lib.replace;rw[if_neg (by decide)];exact Fv _ _ _
 rw[acU]at h;omega
theorem Kk {w:World} {g:Nat} {v:Value} {cs:Array Value} {t:TypeId} {fz:Nat×Nat} (hw:w.heap[g]?=some (.cells cs t fz)) (h:cs[0]?=some v):w.cell? ⟨g,0,none⟩=some v:=by
 simp[World.cell?,hw,h]
theorem X3 (s:Bs) (hs:s.length<=1000):ao Tryz.prog 75 [.str s,.str [47],.str [],.int .i64 1] (.str (Lib.replace s [47] [] 1)):=by
 refine y9 rfl rfl (λw hA=>?_);obtain⟨cs,t,fz,g1,m,g2⟩:=hA (0,_) (by unfold nh;simp only[ady,ads,adg];exact .inr (.inr (.inr (.inl rfl))));have hz:(⟨s.toArray⟩:ByteArray).size=s.length:=by simp[ByteArray.size]
 exact Tryz.strings_Replace ⟨s.toArray⟩ ⟨#[47]⟩ ⟨#[]⟩ 1 m w (by rw[hz];omega) (Kk g1 g2) (by decide) (by rw[hz];show s.length+_*0<=_;omega)
def iZ (p:Bs):Bool:=bJ (bu p)&&decide (eX (bu p)=p)
def dH (ps:List Bs):List Bs:=(ps.filter iZ).map bu
theorem SI (ps:List Bs) {p:Bs} (h:iZ p=true):dH (ps++[p])=dH ps++[bu p]:=by
 unfold dH;rw[adG,adw h,adQ,adr];rfl
theorem SH (ps:List Bs) {p:Bs} (h:iZ p=false):dH (ps++[p])=dH ps:=by
 unfold dH;rw[adG,adj (by rw[h];simp),adQ,adz]
theorem xN (ps:List Bs):(dH ps).length<=ps.length:=by
 unfold dH;rw[ac7];exact adH ..
theorem DE {ps:List Bs} {x:Bs} (h:x∈dH ps):x.length=40:=by
 obtain⟨p,hp,rfl⟩:=adN.1 h;have:=(aeM.1 hp).2;unfold iZ at this;rw[acX]at this;exact(pb this.1).1
set_option maxHeartbeats 1000000 in
theorem SM (L:List Fi) (n:Nat) (hs:eO L) (hl:L.length<=100000) (hc:∀f∈L,f.1.length<=200) :
    Eng.Spec Tryz.prog 39 [] [fD L n] (λh r ar=>h=[(213034,.arr 1 (au (dH (bU bH L))))]/\r=.sl 213034 0 (dH (bU bH L)).length/\ar=[.undef]):=by
 refine Cod.SN (λE R hN hR=>?_);refine wW ?_;refine ah (zq L n bH hs hl (by decide) (λf hf=>by have:=hc f hf;omega)) rfl rfl ?_;have hul:=mF bH L
 have hum:∀p∈bU bH L,p.length<=200/\8<=p.length:=λp hp=>by
  obtain⟨h1,f,hf,h2⟩:=pA hp;exact⟨by rw[<-h2];exact hc f hf,r9 h1⟩
 generalize bU bH L=U at *
 refine ab @aZ ?_
 refine aD hN (λk:Nat=>⟨[(3,.sl 213034 0 (dH (U.take k)).length),(10,.ro 1 (au U)),(11,.int .i64 U.length),(12,.int .i64 k)],[(213034,.arr 1 (au (dH (U.take k))))]⟩) (λk=>k<=U.length) (λk=>U.length-k) 0
  (.nil 3 213034 1 rfl (.le (by simp(disch:=first | omega | (simp only[Lx];omega))only[go_sem,simprocAttr,adI,lT,show dH []=[]from rfl,adn]))) (ac9 _) ?_
 rintro k R1 hk hR1;by_cases hlt:k<U.length
 ·obtain⟨h1,h2⟩:=hum _ (dT [] hlt);have hsn:=dj [] U hlt;have hsl:=xN (U.take k);rw[acS]at hsl;have hpl:=qF (U.getD k []);have hr:=X3 ((U.getD k []).drop 8) (by rw[acU];omega);have hpa:=xO (bu (U.getD k [])) acN;have hi:(8:Int)<=((U.getD k []).length:Int):=acN
  have nx:iZ (U.getD k [])=false->∀st',Wk st' ⟨[(3,.sl 213034 0 (dH (U.take k)).length),(10,.ro 1 (au U)),(11,.int .i64 U.length),(12,.int .i64 ((k+1:Nat):Int))],[(213034,.arr 1 (au (dH (U.take k))))]⟩->R1.ap st':=λhno st' hw=>
   hR1 (k+1) _ acN acN (by rw[hsn,SH _ hno];exact hw)
  obtain⟨O,hO⟩:∃O,O=dH (U.take k):=⟨_,rfl⟩;rw[<-hO]at hsl nx
  have ny:iZ (U.getD k [])=true->∀st',Wk st' ⟨[(3,.sl 213034 0 (O++[bu (U.getD k [])]).length),(10,.ro 1 (au U)),(11,.int .i64 U.length),(12,.int .i64 ((k+1:Nat):Int))],[(213034,.arr 1 (au (O++[bu (U.getD k [])])))]⟩->R1.ap st':=λhy st' hw=>
   hR1 (k+1) _ acN acN (by rw[hsn,SI _ hy,<-hO];exact hw)
  unfold bu at hpa ny;unfold iZ bu at nx ny;rw[<-hO]
  have hsub:aB (au O) 0 O.length=au O:=by
   unfold aB;rw[ado,acP (by rw[aZ];omega)]
  refine bp @aZ @fA hi ?_;refine ah hr rfl rfl ?_;obtain⟨m,hm⟩:∃m,m=Lib.replace ((U.getD k []).drop 8) [47] [] 1:=⟨_,rfl⟩;rw[<-hm]at nx ny hpa;rw[<-hm];clear hm hr;refine wW ?_
  cases hid:bJ m with
  | false=>
   rw[hid]at hpa;refine ah hpa rfl rfl ?_;refine wW ?_;refine gG ?_
   exact nx (by rw[hid];rfl) _ (.le vV)
  | true=>
   rw[hid]at hpa;refine ah hpa rfl rfl ?_;by_cases he:eX m=U.getD k []
   ·refine ab he ?_;refine aV he ?_;rw[hsub,ji];exact⟨⟨dM,acN⟩,ny (by rw[hid,decide_eq_true he];rfl) _ (.le (by rw[acQ,acW];exact vV))⟩
   ·refine ab he ?_;refine aV he ?_;exact nx (by rw[hid,decide_eq_false he];rfl) _ (.le vV)
 ·obtain rfl:k=U.length:=acN;refine ab @aZ ?_;exact hR.wk (h':=[(213034,.arr 1 (au (dH U)))]) (r':=.sl 213034 0 (dH U).length) (ar':=[.undef]) rfl (.le vV) ⟨rfl,rfl,rfl⟩
end Go.Proofs.YtoalcafkffmiiaaGreatDoor.Ls
