/- The proof, part 26 of 43. -/
import Derived.Test.YtoalcafkffmiiaaGreatDoorOdbShadowsW
import Derived.Test.YtoalcafkffmiiaaGreatDoorOdbShadowsX
import Derived.Test.YtoalcafkffmiiaaGreatDoorOdbShadowsY
set_option linter.all false
namespace Go.Proofs.YtoalcafkffmiiaaGreatDoor.Ls
open Eng
set_option maxRecDepth 10000
def lS (L:List Fi):Prop:=(∀f∈L,gr f.1=true)/\dG L/\∀f∈L,bL (f.1++[47]) L=[]
def kF (fs:List Fi) (k:Nat):Nat:=((fs.take k).map (λf=>f.2.length)).sum
theorem Dr (fs:List Fi) {k:Nat} (h:k<fs.length):kF fs (k+1)=kF fs k+(fs.getD k aX).2.length:=by
 unfold kF;rw[dE aX fs h,aBG,List.sum_append];simp
theorem size_le {fs:List Fi} {B:Nat} (hb:∀f∈fs,f.2.length<=B):∀k,k<=fs.length->kF fs k<=k*B
 | 0,_=>by simp[kF]
 | k+1,h=>by
  have:=size_le hb k aA4;have:=hb _ (fy aX (by omega:k<fs.length));rw[Dr fs aA4,aCd];omega
theorem DL:∀{L:List Fi},eQ L->(∀i,i+1<L.length->(L.getD i aX).1≠(L.getD (i+1) aX).1)->dG L
 | [],_,_=>.nil
 | [x],_,_=>aCl _ _
 | x::y::r,hs,ha=>by
  have hs':=aBw.1 hs;have ih:=DL hs'.2 (λi hi=>by simpa using ha (i+1) (by simpa using hi));have h1:cg x y<=0:=hs'.1 y (aBn ..)
  have h2:cg x y<0:=by
   have hne:x.1≠y.1:=by simpa using ha 0 (by simp)
   by_cases h0:cg x y=0
   ·exact absurd (j9 h0) hne
   ·omega
  refine aBw.2 ⟨λz hz=>?_,ih⟩;rcases aBo.1 hz with rfl | hz
  ·exact h2
  ·exact wX h2 ((aBw.1 hs'.2).1 z hz)
theorem awj {L:List Fi} (h:dG L) {i:Nat} (hi:i+1<L.length):(L.getD i aX).1≠(L.getD (i+1) aX).1:=by
 have:=aCT.1 h i (i+1) aA4 hi aA4;rw[aA5,aA5,List.getElem?_eq_getElem hi,List.getElem?_eq_getElem (by omega:i<L.length)];exact wY this
theorem vN {α:Type} (d:α) {l:List α} {p:α->Prop} (h:∀j,j<l.length->p (l.getD j d)):∀x∈l,p x:=by
 intro x hx;obtain⟨j,hj,rfl⟩:=List.mem_iff_getElem.1 hx;have:=h j hj
 rwa[aA5,List.getElem?_eq_getElem hj]at this
def AH (fs:List Fi):HP->AV->List AV->Prop:=λh r _=>h=[]/\∃L:List Fi,L.Perm fs/\eQ L/\((lS L/\∃n,r=.ai [eu L n,.int .i64 0])\/(¬lS L/\r=.ai [.lit (.pointer none),.int .i64 4]))
set_option maxHeartbeats 2000000 in
theorem qW (fs:List Fi) (hl:fs.length<=200) (hp:∀f∈fs,f.1.length<=140737488351232) (hd:∀f∈fs,f.2.length<=10000):Eng.Spec Tryz.prog 7 [] [.ro 2 (bm fs)] (AH fs):=by
 refine Cod.avu (λE R hN hR=>?_);refine wW ?_;refine aR [] (Kc fs aA4) trivial (λ_=>rfl) ?_;rintro h' v ar ⟨rfl,rfl,rfl⟩;refine ct @kg @bR @pF ?_
 refine aZ hN (λk:Nat=>⟨[(0,.ro 2 (bm fs)),(4,.ab 203014 0),(15,.ro 2 (bm fs)),(16,.int .i64 fs.length),(17,.int .i64 k)],[(203014,.var [.sl 200005 0 fs.length,.int .i64 (kF fs k:Nat)]),(200005,.arr 2 (bm fs))]⟩)
  (λk=>k<=fs.length) (λk=>fs.length-k) 0 (.le (by simp(disch:=omega)only[go_sem,simprocAttr,kF,aB1,aCm,List.sum_nil])) (aBB _) ?_
 rintro k R1 hk hR1;by_cases hlt:k<fs.length
 ·have hst:=Dr fs hlt;have hsb:=size_le hd k hk;have hxb:=hd _ (fy aX hlt);refine bl @bR @fS ?_;exact hR1 (k+1) _ aA4 aA4 (.le (by rw[hst];exact vV))
 ·obtain rfl:k=fs.length:=aA4;have hsb:=size_le hd fs.length (aA9 _);obtain⟨z,hz⟩:∃z,z=kF fs fs.length:=⟨_,rfl⟩;rw[<-hz]at hsb;have g1:¬(2000:Int)<(fs.length:Int):=aA4;have g2:¬(4194304:Int)<(z:Int):=aA4;simp(disch:=omega)only[go_sem,simprocAttr,bR,<-hz,g1,g2]
  (repeat(first | refine fb ?_ | refine eZ ?_ | refine fa ?_)<;>simp(disch:=omega)only[go_sem,simprocAttr,bR,<-hz,g1,g2])
  refine oY (n:=2) [4] vV vV rfl (avH 203014 200005 z fs (by decide) aA4) ?_;rintro h' v ar ⟨L,hL,hs,rfl,rfl,rfl⟩;have hll:=hL.length_eq;unfold fG;refine au @bR ?_;have hpL:∀f∈L,f.1.length<=140737488351232:=λf hf=>hp f (hL.mem_iff.1 hf)
  have hsub:aI (bm L) 0 L.length=bm L:=by
   unfold aI;rw[aBF,aA7 (by rw[bR];omega)]
  have bad:∀{h},¬lS L->R h (.ai [.lit (.pointer none),.int .i64 4]) [.undef]:=λh=>hR.ro ⟨rfl,L,hL,hs,.inr ⟨h,rfl⟩⟩
  refine aZ hN (λk:Nat=>⟨[(4,eu L z),(50,.ro 2 (bm L)),(51,.int .i64 L.length),(52,.int .i64 k)],[]⟩)
   (λk=>k<=L.length/\(∀j,j<k->gr (L.getD j aX).1=true)/\∀j,j+1<k->(L.getD j aX).1≠(L.getD (j+1) aX).1) (λk=>L.length-k) 0
   (.bu 200005 (.frzS 4 203014 [.ro 2 (aI (bm L) 0 L.length),.int .i64 z] rfl rfl rfl (.le (eM hsub)))) ⟨aBB _,λj h=>by omega,λj h=>by omega⟩ ?_
  rintro k R2 ⟨hk,hc,ha⟩ hR2;by_cases hlt:k<L.length
  ·have hm:=fy aX hlt;have hpk:=hpL _ hm;have notc:gr (L.getD k aX).1=false->¬lS L:=λh1 h2=>by rw[h2.1 _ hm]at h1;cases h1
   have next:gr (L.getD k aX).1=true->(∀j,j+1=k->(L.getD j aX).1≠(L.getD k aX).1)->∀st',Wk st' ⟨[(4,eu L z),(50,.ro 2 (bm L)),(51,.int .i64 L.length),(52,.int .i64 ((k+1:Nat):Int))],[]⟩->R2.ap st':=by
    intro h1 h2 st' hw;refine hR2 (k+1) _ aA4 ⟨aA4,λj hj=>?_,λj hj=>?_⟩ hw
    ·rcases aCx.1 hj with h | rfl
     ·exact hc j h
     ·exact h1
    ·rcases aDI (j+1) k with h | h
     ·exact ha j h
     ·obtain rfl:j+1=k:=aA4;exact h2 j rfl
   refine bl @bR @fS ?_;refine aw (J2 _ aA4) rfl rfl ?_
   cases hcl:gr (L.getD k aX).1 with
   | false=>
    refine au hcl ?_;refine bq hcl ?_
    exact bad (notc hcl)
   | true=>
    by_cases hk0:k=0
    ·subst hk0;refine au hcl ?_;refine bq hcl ?_;exact next hcl (λj hj=>by omega) _ (.le vV)
    ·have hi:(0:Int)<(k:Int):=aA4;refine dq hcl hi @bR @fS ?_;refine lj hcl hi @bR @fS ?_;refine nu (λhe=>?_) (λhe=>?_)
     ·refine wW ?_;refine bad (λhn=>awj hn.2.1 (i:=k-1) aA4 ?_);rw[show k-1+1=k by omega];exact he
     ·refine wW ?_;exact next hcl (λj hj=>by rw[show j=k-1 by omega];exact he) _ (.le vV)
  ·obtain rfl:k=L.length:=aA4;have hcl:∀f∈L,gr f.1=true:=vN aX (p:=λf:Fi=>gr f.1=true) hc;have hst:dG L:=DL hs ha;refine au @bR ?_
   refine aZ hN (λk:Nat=>⟨[(4,eu L z),(83,.ro 2 (bm L)),(84,.int .i64 L.length),(85,.int .i64 k)],[]⟩)
    (λk=>k<=L.length/\∀j,j<k->bL ((L.getD j aX).1++[47]) L=[]) (λk=>L.length-k) 0 (.le vV) ⟨aBB _,λj h=>by omega⟩ ?_
   rintro k R3 ⟨hk,hu⟩ hR3;by_cases hlt:k<L.length
   ·have hm:=fy aX hlt;have hpk:=hpL _ hm;have hul:=lM ((L.getD k aX).1++[47]) L;refine bl @bR @fS ?_;refine aw (va L z ((L.getD k aX).1++[47]) hs aA4 (by rw[aA8,aBk];omega) (λf hf=>by have:=hpL f hf;omega)) rfl rfl ?_;by_cases h0:bL ((L.getD k aX).1++[47]) L=[]
    ·have h0l:¬(0:Int)<((bL ((L.getD k aX).1++[47]) L).length:Int):=by rw[h0];simp
     refine bl @b5 @h0l ?_;refine hR3 (k+1) _ aA4 ⟨aA4,λj hj=>?_⟩ (.le vV);rcases aCx.1 hj with h | rfl
     ·exact hu j h
     ·exact h0
    ·have h0l:(0:Int)<((bL ((L.getD k aX).1++[47]) L).length:Int):=by
      have:=aB9.2 h0;omega
     refine bl @b5 @h0l ?_;exact bad (λhn=>h0 (hn.2.2 _ hm))
   ·obtain rfl:k=L.length:=aA4;refine au @bR ?_;exact hR.ro ⟨rfl,L,hL,hs,.inl ⟨⟨hcl,hst,vN aX (p:=λf:Fi=>bL (f.1++[47]) L=[]) hu⟩,z,rfl⟩⟩
open Eng
set_option maxRecDepth 10000
def jD (c:UInt8):Int:=if 48<=c.toNat/\c.toNat<=57 then(c.toNat:Int)-48 else if 97<=c.toNat/\c.toNat<=102 then(c.toNat:Int)-97+10 else -1
theorem Eb (c:UInt8):aJ Tryz.prog 117 [.int .u8 (c.toNat:Int)] (.int .i64 (jD c)):=by
 refine Cod.axg (λE R hN hR=>?_);have hc:=c.toNat_lt;unfold jD at hR;by_cases h1:48<=c.toNat
 ·by_cases h2:c.toNat<=57
  ·rw[if_pos ⟨h1,h2⟩]at hR;refine wW ?_;refine gG ?_;exact hR.ro ⟨rfl,rfl⟩
  ·rw[if_neg aA4]at hR;by_cases h3:97<=c.toNat
   ·by_cases h4:c.toNat<=102
    ·rw[if_pos ⟨h3,h4⟩]at hR;refine wW ?_;refine gG ?_;exact hR.ro ⟨rfl,rfl⟩
    ·rw[if_neg aA4]at hR;refine wW ?_;refine gG ?_;exact hR.ro ⟨rfl,rfl⟩
   ·rw[if_neg aA4]at hR;refine wW ?_;refine gG ?_;exact hR.ro ⟨rfl,rfl⟩
 ·rw[if_neg aA4,if_neg aA4]at hR;refine wW ?_;refine gG ?_;exact hR.ro ⟨rfl,rfl⟩
def eF (c:UInt8):Bool:=decide (0<=jD c)
theorem xy {c:UInt8} (h:eF c=true):∃k:Nat,k<16/\jD c=(k:Int):=by
 have h:=of_decide_eq_true h;refine⟨(jD c).toNat,?_,aA4⟩;unfold jD at h |-;split
 ·omega
 ·split
  ·omega
  ·rename_i h1 h2;rw[if_neg h1,if_neg h2]at h;omega
theorem PM:∀a:Nat,a<16->∀b:Nat,b<16->bits .or .i64 (IntKind.i64.wrap ((a:Int)*2^min 4 64)) (b:Int)=((16*a+b:Nat):Int):=by decide +kernel
def gV (s:Bs):Bool:=s.all eF&&decide (s.length%2=0)
theorem axQ (s:Bs) (hs:s.length<=140737488351232):Eng.Spec Tryz.prog 72 [] [.str s] (λh r _=>h=[]/\∃o:Bs,r=.ai [.str o,.bool (gV s)]):=by
 refine Cod.axR (λE R hN hR=>?_);refine wW ?_
 refine aZ hN (λo:Bs=>⟨[(0,.str s),(4,.sl 206037 0 o.length),(5,.int .i64 ((2*o.length:Nat):Int))],[(206037,.arr 1 (o.map ub))]⟩) (λo=>2*o.length<=s.length/\(s.take (2*o.length)).all eF=true) (λo=>s.length-2*o.length) []
  (.nil 4 206037 1 rfl (.le (by simp(disch:=omega)only[go_sem,simprocAttr,aCm,aBK]))) ⟨by simp,by simp⟩ ?_
 rintro o R1 ⟨ho,hall⟩ hR1;obtain⟨k,hk⟩:∃k,k=o.length:=⟨_,rfl⟩;rw[<-hk]at ho hall;have bad:∀{h} {j:Nat},j<s.length->eF (s.getD j 0)=false->R h (.ai [.str [],.bool false]) [.undef]:=λh1 h2=>hR.ro ⟨rfl,[],by rw[gV,tQ (fy 0 h1) h2];rfl⟩;by_cases hlt:2*k+1<s.length
 ·have t1:=dE 0 s (by omega:2*k<s.length);have t2:=dE 0 s hlt;have ei1:(2*(k:Int)).toNat=2*k:=aA4;have ei2:(2*(k:Int)+1).toNat=2*k+1:=aA4;have hi:2*(k:Int)+1<(s.length:Int):=aA4;have d1:=Eb (s.getD (2*k) 0);have d2:=Eb (s.getD (2*k+1) 0);have bad1:=λh=>bad (h:=h) (by omega:2*k<s.length);have bad2:=λh=>bad (h:=h) hlt;rw[<-hk];have hkl:(o.map ub).length=k:=by rw[aBp,hk]
  have hsub:aI (o.map ub) 0 k=o.map ub:=by
   unfold aI;rw[aBF,aA7 aA4]
  refine ct hi ei1 ei2 ?_;refine aw d1 rfl rfl ?_;refine wW ?_;refine aw d2 rfl rfl ?_;generalize s.getD (2*k) 0=a at *
  generalize s.getD (2*k+1) 0=b at *
  cases ha:eF a with
  | false=>
   have h0:jD a<0:=by have:=of_decide_eq_false ha;omega
   refine au h0 ?_;refine bq h0 ?_
   exact bad1 _ ha
  | true=>
   obtain⟨x,hx,ex⟩:=xy ha
   cases hb:eF b with
   | false=>
    have h0:jD b<0:=by have:=of_decide_eq_false hb;omega
    have h1:¬(x:Int)<0:=aA4;rw[ex];refine bl h0 h1 ?_;refine dI h0 h1 ?_
    exact bad2 _ hb
   | true=>
    obtain⟨y,hy,ey⟩:=xy hb;have h1:¬(x:Int)<0:=aA4;have h2:¬(y:Int)<0:=aA4;have h3:=PM x hx y hy;rw[ex,ey];refine ct h1 h2 h3 ?_;refine fx h1 h2 h3 ?_;have hl1:(o++[UInt8.ofNat (16*x+y)]).length=k+1:=by rw[aA8,<-hk];rfl
    refine hR1 (o++[UInt8.ofNat (16*x+y)]) _ aA4 ⟨aA4,?_⟩ (.le (by rw[hl1,show 2*(k+1)=2*k+2 by omega];exact vV));rw[hl1,show 2*(k+1)=2*k+1+1 by omega,t2,t1,aCe,aCe,hall];simp[ha,hb]
 ·have hi:¬2*(k:Int)+1<(s.length:Int):=aA4;rw[<-hk];by_cases he:s.length=2*k
  ·have e1:s.take (2*k)=s:=aA7 aA4;rw[e1]at hall;have hm:(s.length:Int)=2*(k:Int):=aA4;refine au hi ?_;exact hR.ro ⟨rfl,o,by rw[gV,hall,decide_eq_true aA4];rfl⟩
  ·refine au hi ?_;exact hR.ro ⟨rfl,[],by rw[gV,decide_eq_false aA4];simp⟩
def cm (s:Bs):Bool:=gV s&&decide (s.length=40)
theorem Dq (s:Bs) (hs:s.length<=140737488351232):aJ Tryz.prog 32 [.str s] (.bool (cm s)):=by
 refine Cod.auq (λE R hN hR=>?_);refine wW ?_;refine ic (axQ s hs) rfl ?_;rintro h' v ar ⟨rfl,o,rfl⟩;refine⟨rfl,rfl,?_⟩;unfold cm at hR
 cases hx:gV s with
 | false=>
  rw[hx]at hR;refine wW ?_;refine gG ?_
  exact hR.ro ⟨rfl,rfl⟩
 | true=>
  rw[hx]at hR;by_cases h40:s.length=40
  ·have hi:(s.length:Int)=40:=aA4;rw[decide_eq_true h40]at hR;refine au hi ?_;refine bq hi ?_;exact hR.ro ⟨rfl,rfl⟩
  ·have hi:¬(s.length:Int)=40:=aA4;rw[decide_eq_false h40]at hR;refine au hi ?_;refine bq hi ?_;exact hR.ro ⟨rfl,rfl⟩
def dW:Bs:=[111,98,106,101,99,116,115,47]
def bK (s:Bs):Bs:=dW++s.take 2++[47]++s.drop 2
theorem nK {s:Bs} (h:cm s=true):s.length=40/\(bK s).length=49:=by
 have h40:s.length=40:=by
  unfold cm at h;rw[aBd]at h;exact of_decide_eq_true h.2
 refine⟨h40,?_⟩;unfold bK dW;simp[h40]
theorem tI (s:Bs) (hs:s.length<=140737488351232):aJ Tryz.prog 76 [.str s] (if cm s=true then .ai [.str (bK s),.int .i64 0]else .ai [.str [],.int .i64 4]):=by
 refine Cod.ZW (λE R hN hR=>?_);refine wW ?_;refine aw (Dq s hs) rfl rfl ?_
 cases hx:cm s with
 | false=>
  rw[hx]at hR;refine wW ?_
  exact hR.ro ⟨rfl,rfl⟩
 | true=>
  rw[hx]at hR;have h40:=(nK hx).1;refine au h40 ?_;exact hR.ro ⟨rfl,by rw[if_pos rfl,bK,dW];simp⟩
theorem CA (old:Bs):∀(k:Nat) (s:Bs),(Lib.replaceK old [] k s).length<=s.length
 | 0,s=>aA9 _
 | k+1,s=>by
  have ih:=CA old k (s.drop ((Lib.index s old).toNat+old.length));rw[aBb]at ih;unfold Lib.replaceK;split
  ·exact aA9 _
  ·rw[aA8,aA8,aBa,aBK];omega
def bD (p:Bs):Bs:=Lib.replace (p.drop 8) [47] [] 1
theorem nF (p:Bs):(bD p).length<=p.length:=by
 have h:(bD p).length<=(p.drop 8).length:=by
  unfold bD Lib.replace;rw[if_neg (by decide)];exact CA _ _ _
 rw[aBb]at h;omega
theorem Jh {w:World} {g:Nat} {v:Value} {cs:Array Value} {t:TypeId} {fz:Nat×Nat} (hw:w.heap[g]?=some (.cells cs t fz)) (h:cs[0]?=some v):w.cell? ⟨g,0,none⟩=some v:=by
 simp[World.cell?,hw,h]
theorem apW (s:Bs) (hs:s.length<=1000):aJ Tryz.prog 75 [.str s,.str [47],.str [],.int .i64 1] (.str (Lib.replace s [47] [] 1)):=by
 refine uR rfl rfl (λw hA=>?_);obtain⟨cs,t,fz,g1,m,g2⟩:=hA (0,_) (by unfold ln;simp only[aBQ,aBA,aBo];exact .inr (.inr (.inr (.inl rfl))));have hz:(⟨s.toArray⟩:ByteArray).size=s.length:=by simp[ByteArray.size]
 exact Tryz.strings_Replace ⟨s.toArray⟩ ⟨#[47]⟩ ⟨#[]⟩ 1 m w (by rw[hz];omega) (Jh g1 g2) (by decide) (by rw[hz];show s.length+_*0<=_;omega)
def iV (p:Bs):Bool:=cm (bD p)&&decide (bK (bD p)=p)
def cT (ps:List Bs):List Bs:=(ps.filter iV).map bD
theorem Zt (ps:List Bs) {p:Bs} (h:iV p=true):cT (ps++[p])=cT ps++[bD p]:=by
 unfold cT;rw[aB7,aBT h,aCg,aBG];rfl
theorem Zs (ps:List Bs) {p:Bs} (h:iV p=false):cT (ps++[p])=cT ps:=by
 unfold cT;rw[aB7,aBx (by rw[h];simp),aCg,aBV]
theorem tH (ps:List Bs):(cT ps).length<=ps.length:=by
 unfold cT;rw[aBp];exact aCs ..
theorem Zr {ps:List Bs} {x:Bs} (h:x∈cT ps):x.length=40:=by
 obtain⟨p,hp,rfl⟩:=aBH.1 h;have:=(aBM.1 hp).2;unfold iV at this;rw[aBd]at this;exact(nK this.1).1
set_option maxHeartbeats 1000000 in
theorem ZN (L:List Fi) (n:Nat) (hs:eQ L) (hl:L.length<=100000) (hc:∀f∈L,f.1.length<=200) :
    Eng.Spec Tryz.prog 39 [] [eu L n] (λh r ar=>h=[(213034,.arr 1 (aV (cT (bL dW L))))]/\r=.sl 213034 0 (cT (bL dW L)).length/\ar=[.undef]):=by
 refine Cod.ZO (λE R hN hR=>?_);refine wW ?_;refine aw (va L n dW hs hl (by decide) (λf hf=>by have:=hc f hf;omega)) rfl rfl ?_;have hul:=lM dW L
 have hum:∀p∈bL dW L,p.length<=200/\8<=p.length:=λp hp=>by
  obtain⟨h1,f,hf,h2⟩:=rp hp;exact⟨by rw[<-h2];exact hc f hf,r4 h1⟩
 generalize bL dW L=U at *
 refine au @b5 ?_
 refine aZ hN (λk:Nat=>⟨[(3,.sl 213034 0 (cT (U.take k)).length),(10,.ro 1 (aV U)),(11,.int .i64 U.length),(12,.int .i64 k)],[(213034,.arr 1 (aV (cT (U.take k))))]⟩) (λk=>k<=U.length) (λk=>U.length-k) 0
  (.nil 3 213034 1 rfl (.le (by simp(disch:=first | omega | (simp only[Lx];omega))only[go_sem,simprocAttr,aB1,rf,show cT []=[]from rfl,aBK]))) (aBB _) ?_
 rintro k R1 hk hR1;by_cases hlt:k<U.length
 ·obtain⟨h1,h2⟩:=hum _ (fy [] hlt);have hsn:=dE [] U hlt;have hsl:=tH (U.take k);rw[aBa]at hsl;have hpl:=nF (U.getD k []);have hr:=apW ((U.getD k []).drop 8) (by rw[aBb];omega);have hpa:=tI (bD (U.getD k [])) aA4;have hi:(8:Int)<=((U.getD k []).length:Int):=aA4
  have nx:iV (U.getD k [])=false->∀st',Wk st' ⟨[(3,.sl 213034 0 (cT (U.take k)).length),(10,.ro 1 (aV U)),(11,.int .i64 U.length),(12,.int .i64 ((k+1:Nat):Int))],[(213034,.arr 1 (aV (cT (U.take k))))]⟩->R1.ap st':=λhno st' hw=>
   hR1 (k+1) _ aA4 aA4 (by rw[hsn,Zs _ hno];exact hw)
  obtain⟨O,hO⟩:∃O,O=cT (U.take k):=⟨_,rfl⟩;rw[<-hO]at hsl nx
  have ny:iV (U.getD k [])=true->∀st',Wk st' ⟨[(3,.sl 213034 0 (O++[bD (U.getD k [])]).length),(10,.ro 1 (aV U)),(11,.int .i64 U.length),(12,.int .i64 ((k+1:Nat):Int))],[(213034,.arr 1 (aV (O++[bD (U.getD k [])])))]⟩->R1.ap st':=λhy st' hw=>
   hR1 (k+1) _ aA4 aA4 (by rw[hsn,Zt _ hy,<-hO];exact hw)
  unfold bD at hpa ny;unfold iV bD at nx ny;rw[<-hO]
  have hsub:aI (aV O) 0 O.length=aV O:=by
   unfold aI;rw[aBF,aA7 (by rw[b5];omega)]
  refine ct @b5 @qt hi ?_;refine aw hr rfl rfl ?_;obtain⟨m,hm⟩:∃m,m=Lib.replace ((U.getD k []).drop 8) [47] [] 1:=⟨_,rfl⟩;rw[<-hm]at nx ny hpa;rw[<-hm];clear hm hr;refine wW ?_
  cases hid:cm m with
  | false=>
   rw[hid]at hpa;refine aw hpa rfl rfl ?_;refine wW ?_;refine gG ?_
   exact nx (by rw[hid];rfl) _ (.le vV)
  | true=>
   rw[hid]at hpa;refine aw hpa rfl rfl ?_;by_cases he:bK m=U.getD k []
   ·refine au he ?_;refine bq he ?_;rw[hsub,rb];exact⟨⟨iB,aA4⟩,ny (by rw[hid,decide_eq_true he];rfl) _ (.le (by rw[aA8,aBk];exact vV))⟩
   ·refine au he ?_;refine bq he ?_;exact nx (by rw[hid,decide_eq_false he];rfl) _ (.le vV)
 ·obtain rfl:k=U.length:=aA4;refine au @b5 ?_;exact hR.wk (h':=[(213034,.arr 1 (aV (cT U)))]) (r':=.sl 213034 0 (cT U).length) (ar':=[.undef]) rfl (.le vV) ⟨rfl,rfl,rfl⟩
end Go.Proofs.YtoalcafkffmiiaaGreatDoor.Ls
