/- The proof, part 42 of 43. -/
import Derived.Test.YtoalcafkffmiiaaGreatDoorOdbShadowsZM
import Derived.Test.YtoalcafkffmiiaaGreatDoorOdbShadowsZN
import Derived.Test.YtoalcafkffmiiaaGreatDoorOdbShadowsZO
set_option linter.all false
namespace Go.Proofs.YtoalcafkffmiiaaGreatDoor.Ls
open Eng Pk Ob
set_option maxRecDepth 10000
open Eng Pk Ob
set_option maxRecDepth 10000
open Eng Ob
set_option maxRecDepth 10000
end Go.Proofs.YtoalcafkffmiiaaGreatDoor.Ls
namespace Go.Proofs.YtoalcafkffmiiaaGreatDoor.Ls
open Eng Ob Pk
set_option maxRecDepth 10000
theorem zf {id:Bs} (h:cm id=true):∃a b m,id=a::b::m/\eF a=true/\eF b=true:=by
 have hl:=(nK h).1;unfold cm gV at h
 match id,hl with
 | a::b::m,_=>
  simp only[aCb,aBd]at h;exact⟨a,b,m,rfl,h.1.1.1,h.1.1.2.1⟩
theorem aa4 {id:Bs} (h:cm id=true):bD (bK id)=id/\iV (bK id)=true:=by
 have hn:bD (bK id)=id:=by
  obtain⟨a,b,m,rfl,ha,hb⟩:=zf h;exact apV (yW ha) (yW hb)
 refine⟨hn,?_⟩;unfold iV;rw[hn,h];simp
theorem afe (id:Bs):a7 dW (bK id)=true:=by
 unfold a7 bK;simp
theorem aff {id:Bs} (h:cm id=true):a7 cU (bK id)=false:=by
 cases hb:a7 cU (bK id)with
 | false=>rfl
 | true=>
  exfalso
  obtain⟨a,b,m,rfl,ha,_⟩:=zf h;have h1:=(of_decide_eq_true hb).2;have h2:=congrArg (λl=>l.getD 8 0) h1;have h3:a=112:=h2;subst h3;exact absurd ha (by decide)
section
variable {L L' G:List Fi} {p0 data:Bs} (hs:dG L) (hp:L.Perm G) (hs':dG L') (hp':L'.Perm ((p0,data)::G.filter (λf=>decide (f.1≠p0))))
include hs hp hs' hp'
theorem ae1 {t:Bs} (ht:a7 t p0=false):bL t L'=bL t L:=by
 rw[<-Ed hs' hp',<-Ed hs hp];unfold u7;rw[aBx (by simp[ht]),List.filter_filter]
 congr 2
 refine List.filter_congr (λf _=>?_);by_cases hf:f.1=p0
 ·rw[hf,ht];rfl
 ·simp[hf]
theorem Bf {q:Bs} (hq:q≠p0):getF q L'=getF q L:=by
 rw[<-pI hs' hp',<-pI hs hp];unfold cE;rw[aBx (by simpa using λh=>hq h.symm),List.filter_filter]
 congr 2
 refine List.filter_congr (λf _=>?_);by_cases hf:f.1=p0
 ·have:¬p0=q:=λh=>hq h.symm;simp[hf,this]
 ·simp[hf]
omit hs hp in
theorem aeZ:getF p0 L'=some data:=by
 rw[<-pI hs' hp'];unfold cE;rw[aBT (by simp)];rfl
theorem ae0 {p:Bs} (hb:a7 cU p=true) (h0:a7 cU p0=false):stepP L' p=stepP L p:=by
 have h1:p≠p0:=λe=>by rw[e,h0]at hb;cases hb
 have h2:cU++gB p++kK≠p0:=λe=>by
  have:a7 cU (cU++gB p++kK)=true:=by
   unfold a7;rw[aB5,List.take_left];simp
  rw[e,h0]at this;cases this
 unfold stepP;rw[Bf hs hp hs' hp' h1,Bf hs hp hs' hp' h2]
theorem aeX (h0:a7 cU p0=false):gF L'=gF L:=by
 have hu:=ae1 hs hp hs' hp' h0;unfold gF;rw[hu];have hb:∀p∈bL cU L,a7 cU p=true:=λp hp=>(rp hp).1;generalize bL cU L=U at *
 have key:∀k,k<=U.length->packsP L' U k=packsP L U k:=by
  intro k
  induction k with
  | zero=>intro _;rfl
  | succ k ih=>
   intro hk;unfold packsP;rw[ih aA4,ae0 hs hp hs' hp' (hb _ (fy [] aA4)) h0]
 exact key _ (aA9 _)
omit hp hs' hp' in
theorem mA {t p:Bs}:p∈bL t L↔a7 t p=true/\∃f∈L,f.1=p:=by
 rw[u9 t hs];constructor
 ·intro h;obtain⟨f,hf,rfl⟩:=aBH.1 h;obtain⟨h1,h2⟩:=aBM.1 hf;exact⟨h2,f,h1,rfl⟩
 ·rintro⟨h1,f,h2,rfl⟩;exact aBH.2 ⟨f,aBM.2 ⟨h2,h1⟩,rfl⟩
omit hs hp hs' hp' in
theorem Am {x:Bs} {ps:List Bs}:x∈cT ps↔∃p∈ps,iV p=true/\bD p=x:=by
 unfold cT;constructor
 ·intro h;obtain⟨p,hp,rfl⟩:=aBH.1 h;obtain⟨h1,h2⟩:=aBM.1 hp;exact⟨p,h1,h2,rfl⟩
 ·rintro⟨p,h1,h2,rfl⟩;exact aBH.2 ⟨p,aBM.2 ⟨h1,h2⟩,rfl⟩
end
theorem aeW {L L' G:List Fi} {id data:Bs} (hid:cm id=true) (hs:dG L) (hp:L.Perm G) (hs':dG L') (hp':L'.Perm ((bK id,data)::G.filter (λf=>decide (f.1≠bK id)))) {ps:List cI} (hin:id∈fQ [] L ps):fQ [] L' ps=fQ [] L ps:=by
 obtain⟨hn,hi⟩:=aa4 hid
 have hm:∀f,f∈L'↔f=(bK id,data)\/(f∈L/\f.1≠bK id):=λf=>by
  rw[hp'.mem_iff,aBo,aBM,hp.mem_iff];simp
 have ho:∀x,x∈cT (bL dW L')↔x=id\/x∈cT (bL dW L):=λx=>by
  rw[Am,Am];constructor
  ·rintro⟨p,h1,h2,h3⟩;obtain⟨h4,f,h5,rfl⟩:=(mA hs').1 h1;rcases(hm f).1 h5 with rfl | ⟨h6,_⟩
   ·exact .inl (by rw[<-h3];exact hn)
   ·exact .inr ⟨f.1,(mA hs).2 ⟨h4,f,h6,rfl⟩,h2,h3⟩
  ·rintro(rfl | ⟨p,h1,h2,h3⟩)
   ·exact⟨bK x,(mA hs').2 ⟨afe x,_,(hm _).2 (.inl rfl),rfl⟩,hi,hn⟩
   ·obtain⟨h4,f,h5,rfl⟩:=(mA hs).1 h1;by_cases h6:f.1=bK id
    ·exact⟨f.1,(mA hs').2 ⟨h4,_,(hm _).2 (.inl rfl),h6.symm⟩,h2,h3⟩
    ·exact⟨f.1,(mA hs').2 ⟨h4,f,(hm _).2 (.inr ⟨h5,h6⟩),rfl⟩,h2,h3⟩
 refine uW (A1 _) (A1 _) (λx=>?_);have hin:=(qz _ _).1 hin
 show x∈iw (gI [] L'++cZ [] ps)↔x∈iw (gI [] L++cZ [] ps)
 unfold gI at hin |-;rw[qz,qz,aBz,aBz,aBM,aBM,ho];rw[aBz,aBM]at hin;constructor
 ·rintro(⟨h1 | h1,h2⟩ | h1)
  ·rw[h1];exact hin
  ·exact .inl ⟨h1,h2⟩
  ·exact .inr h1
 ·rintro(⟨h1,h2⟩ | h1)
  ·exact .inl ⟨.inr h1,h2⟩
  ·exact .inr h1
theorem K9 (s:Bs):(eW s).2.2≠7:=by
 unfold eW
 (repeat' split)<;>simp
theorem axS (s:Bs):(cQ s).2.2≠7:=by
 have h:=L4 s 65536;unfold cQ;split
 ·simp only;omega
 ·split
  ·simp
  ·exact K9 _
theorem ZP {L:List Fi} {id data:Bs} (hid:cm id=true) (hg:getF (bK id) L=some data):(iX id L).2.2≠7:=by
 unfold iX;rw[if_pos hid,hg];have h:=axS data
 show(lz id (cQ data)).2.2≠7
 unfold lz;split
 ·exact h
 ·split<;>simp
open Eng Ob
set_option maxRecDepth 10000
def gh (p0 data:Bs) (G:List Fi):List Fi:=(p0,data)::G.filter (λf=>decide (f.1≠p0))
theorem adi (L:List Fi) (n:Nat) (ps:List cI) (id:Bs) (hs:eQ L) (hl:L.length<=100000) (hd:∀f∈L,f.2.length<=1000000) (hi:id.length<=140737488351232) (h7:(iX id L).2.2≠7) :
    aJ Tryz.prog 12 [jr L n ps,.str id] (fW (iX id L)):=by
 refine Cod.AU (λE R hN hR=>?_);have hlr:=aah L n id hs hl hd hi;generalize iX id L=X at *
 obtain⟨xk,xd,xe⟩:=X;unfold fW eI at hlr hR;simp only at hlr hR h7;simp(disch:=omega)only[go_sem,simprocAttr,jr];refine aw hlr rfl rfl ?_;refine au h7 ?_;exact hR.ro ⟨rfl,rfl⟩
set_option maxHeartbeats 4000000 in
theorem acH (fs:List Fi) (data:Bs) (at_:Int) (hb:Ez fs) (hdt:data.length<=140737488351232) (h1:-9223372036854775808<=at_) (h2:at_<=9223372036854775807):aJ Tryz.prog 4 [.ro 2 (bm fs),.str data,.int .i64 at_] (.bool true):=by
 refine Cod.acI (λE R hN hR=>?_);have hsh:=aui fs 30 (by have:=hb.1;omega) (by decide) (λf hf=>(hb.2 f hf).2);rw[show((30:Nat):Int)=30 from rfl]at hsh;have hG1:=auk fs 30
 have hG2:∀f∈kE fs 30,f.1.length<=140737488351232/\f.2.length<=3000:=λf hf=>by
  obtain⟨h1,g,hg,h2⟩:=aul hf;exact⟨by rw[h2];exact(hb.2 g hg).1,h1⟩
 generalize kE fs 30=G at *
 have fin:∀{h ar},ar=[AV.undef,AV.undef,AV.undef]->R h (.bool true) ar:=λha=>by subst ha;exact hR.ro ⟨rfl,rfl⟩
 refine wW ?_;refine aR [] hsh trivial (λ_=>rfl) ?_;rintro h' v ar ⟨rfl,rfl,rfl⟩;refine ct @kg @bR @pF ?_;refine j7 ⟨[(27,.ro 2 (bm G)),(0,.ro 2 (bm G)),(1,.str data),(2,.int .i64 at_)],[]⟩ (.bu 216012 (.le (eM @sO))) rfl ?_;refine ic (qW G aA4 (λf hf=>(hG2 f hf).1) (λf hf=>aBN (hG2 f hf).2 (by decide))) rfl ?_;rintro h' v ar ⟨rfl,L,hL,hs,hcase⟩;have hLl:=hL.length_eq;rcases hcase with⟨hok,n,rfl⟩ | ⟨hno,rfl⟩;rotate_left
 ·refine⟨rfl,rfl,?_⟩;refine wW ?_;refine gG ?_;refine aw kW rfl rfl ?_;refine wW ?_;refine gG ?_;exact fin rfl
 refine⟨rfl,rfl,?_⟩
 have hLc:∀f∈L,f.1.length<=200:=λf hf=>by
  have:=hok.1 f hf;unfold gr at this;simp only[aBd,decide_eq_true_eq]at this;exact this.1.1
 have hLd:∀f∈L,f.2.length<=100000:=λf hf=>by have:=(hG2 f (hL.mem_iff.1 hf)).2;omega
 have ho:=qA L n hs aA4 hLc hLd;refine wW ?_;refine gG ?_
 cases hop:gF L with
 | error e=>
  have he:=abU hop;rw[hop]at ho;refine aw ho rfl rfl ?_;simp(disch:=omega)only[go_sem,simprocAttr,jP,he]
  (repeat(first | refine fb ?_ | refine eZ ?_ | refine fa ?_)<;>simp(disch:=omega)only[go_sem,simprocAttr,jP,he])
  refine aw kW rfl rfl ?_;refine au he ?_;refine bq he ?_
  exact fin rfl
 | ok ps=>
  obtain⟨hpk,hpl⟩:=abV hop;rw[hop]at ho;refine aw ho rfl rfl ?_;have hns:=AZ L n ps [] hs aA4 hLc hpk aA4 (by decide);have hnl:=aa7 [] (L:=L) aA4 hpk aA4;have hid:∀x∈fQ [] L ps,cm x=true:=λx hx=>aa6 hpk hx;obtain⟨U,hU⟩:∃U,U=fQ [] L ps:=⟨_,rfl⟩;rw[<-hU]at hns hnl hid;simp(disch:=omega)only[go_sem,simprocAttr,jP];refine gG ?_;refine aw hns rfl rfl ?_;by_cases ha0:at_<0
  ·refine bl @b5 ha0 ?_;refine dI @b5 ha0 ?_;refine aw kW rfl rfl ?_;refine wW ?_;exact fin rfl
  obtain⟨j,rfl⟩:∃j:Nat,at_=(j:Int):=⟨at_.toNat,aA4⟩;by_cases hjl:U.length<=j
  ·have ha1:(U.length:Int)<=(j:Int):=aA4;refine ct @b5 ha0 ha1 ?_;refine fx @b5 ha0 ha1 ?_;refine aw kW rfl rfl ?_;refine wW ?_;exact fin rfl
  have ha1:¬(U.length:Int)<=(j:Int):=aA4;have hlt:j<U.length:=aA4;have hxm:=fy [] hlt;have hxi:=hid _ hxm;obtain⟨x,hx⟩:∃x,x=U.getD j []:=⟨_,rfl⟩;rw[<-hx]at hxi hxm;have hx40:=nK hxi;have hpx:=Cn x aA4 aA4;refine ct @b5 ha0 ha1 ?_;refine fx @b5 ha0 ha1 ?_;simp(disch:=omega)only[go_sem,simprocAttr,b5,qt,<-hx];refine aw hpx rfl rfl ?_;refine wW ?_
  have hol:∀k,(gh (bK x) data (G.take k)).length<=31:=λk=>by
   have:=aCs (λf:Fi=>decide (f.1≠bK x)) (G.take k);rw[aBa]at this;unfold gh;rw[aBr];omega
  refine aZ hN (λk:Nat=>⟨[(1,.str data),(11,.ro 1 (aV U)),(12,.str x),(13,.sl 267077 0 (gh (bK x) data (G.take k)).length),(78,.ro 2 (bm G)),(79,.int .i64 G.length),(80,.int .i64 k)],[(267077,.arr 2 (bm (gh (bK x) data (G.take k))))]⟩)
   (λk=>k<=G.length) (λk=>G.length-k) 0 (.le (by rw[aB1];simp(disch:=omega)only[go_sem,simprocAttr,bR,gh,aCg,aBk,aBr,aBK,bm,dw,aBE,aCm])) (aBB _) ?_
  rintro k R1 hk hR1;by_cases hkl:k<G.length
  ·have hsn:=dE aX G hkl;have hfm:=fy aX hkl;obtain⟨f,hf⟩:∃f,f=G.getD k aX:=⟨_,rfl⟩;rw[<-hf]at hsn hfm;have hok:=hol k;have hfl:=(hG2 f hfm).1
   have hos:gh (bK x) data (G.take (k+1))=if f.1=bK x then gh (bK x) data (G.take k)else gh (bK x) data (G.take k)++[f]:=by
    unfold gh;rw[hsn,aB7];by_cases hfx:f.1=bK x
    ·rw[if_pos hfx,aBx (by simp[hfx]),aCg,aBV]
    ·rw[if_neg hfx,aBT (by simp[hfx]),aCg];rfl
   obtain⟨O,hO⟩:∃O,O=gh (bK x) data (G.take k):=⟨_,rfl⟩;rw[<-hO]at hos hok;rw[<-hO];simp(disch:=omega)only[go_sem,simprocAttr,bR,fS,<-hf];refine aw hpx rfl rfl ?_;have hso:aI (bm O) 0 O.length=bm O:=sO O;by_cases hfx:f.1=bK x
   ·rw[if_pos hfx]at hos;refine au hfx ?_;exact hR1 (k+1) _ aA4 aA4 (.le (by rw[hos];exact vV))
   ·rw[if_neg hfx]at hos;refine ct hfx @bR hso ?_;rw[M5];exact⟨⟨kg,aA4⟩,hR1 (k+1) _ aA4 aA4 (.le (by rw[hos,aA8,aBk];exact vV))⟩
  ·obtain rfl:k=G.length:=aA4;rw[aA7 (aA9 _)];have hol2:=hol G.length;rw[aA7 (aA9 _)]at hol2
   have hO1:∀f∈gh (bK x) data G,f.1.length<=140737488351232/\(f.2=data\/f.2.length<=3000):=λf hf=>by
    rcases aBo.1 hf with rfl | hf
    ·exact⟨by rw[hx40.2];decide,.inl rfl⟩
    ·have:=hG2 f (aBM.1 hf).1;exact⟨this.1,.inr this.2⟩
   by_cases hd3:3000<data.length
   ·have hi3:(3000:Int)<(data.length:Int):=aA4;refine bl @bR hi3 ?_;refine aw kW rfl rfl ?_;refine wW ?_;exact fin rfl
   have hi3:¬(3000:Int)<(data.length:Int):=aA4
   have hO2:∀f∈gh (bK x) data G,f.2.length<=3000:=λf hf=>by
    rcases(hO1 f hf).2 with h | h
    ·rw[h];omega
    ·exact h
   have key:∀L',dG L'->L'.Perm (gh (bK x) data G)->gF L'=.ok ps/\fQ [] L' ps=U/\(iX x L').2.2≠7:=λL' hs' hp'=>by
    refine⟨by rw[aeX hok.2.1 hL hs' hp' (aff hxi)];exact hop,by rw[aeW hxi hok.2.1 hL hs' hp' (by rw[<-hU];exact hxm)];exact hU.symm,ZP hxi (aeZ hs' hp')⟩
   have hse:=λL' (hs':dG L') hp'=>look_eq (fs:=gh (bK x) data G) hs' hp' x;generalize gh (bK x) data G=O at *
   refine bl @bR hi3 ?_;refine j7 ⟨[(99,.ro 2 (bm O)),(11,.ro 1 (aV U)),(12,.str x),(13,.ro 2 (bm O))],[]⟩ (.bu 267077 (.le (vc @sO @bR @kg @pF))) rfl ?_;refine ic (qW O aA4 (λf hf=>(hO1 f hf).1) (λf hf=>aBN (hO2 f hf) (by decide))) rfl ?_;rintro h' v ar ⟨rfl,L',hL',hs',hcase⟩;have hLl':=hL'.length_eq;rcases hcase with⟨hok',n',rfl⟩ | ⟨hno',rfl⟩;rotate_left
   ·refine⟨rfl,rfl,?_⟩;refine wW ?_;refine aw kW rfl rfl ?_;refine wW ?_;exact fin rfl
   refine⟨rfl,rfl,?_⟩
   have hLc':∀f∈L',f.1.length<=200:=λf hf=>by
    have:=hok'.1 f hf;unfold gr at this;simp only[aBd,decide_eq_true_eq]at this;exact this.1.1
   have hLd':∀f∈L',f.2.length<=100000:=λf hf=>by have:=hO2 f (hL'.mem_iff.1 hf);omega
   obtain⟨e1,e2,e3⟩:=key L' hok'.2.1 hL';have ho':=qA L' n' hs' aA4 hLc' hLd';rw[e1]at ho';have hgt:=adi L' n' ps x hs' aA4 (λf hf=>by have:=hLd' f hf;omega) aA4 e3;have hrd:=aom O x aA4 (λf hf=>by have:=hO2 f hf;omega) aA4;rw[hse L' hok'.2.1 hL']at hrd;have hns':=AZ L' n' ps [] hs' aA4 hLc' hpk aA4 (by decide);rw[e2]at hns';generalize iX x L'=y at *
   obtain⟨yk,yd,ye⟩:=y;unfold fW eI at hgt hrd;simp only at hgt hrd;refine wW ?_;refine gG ?_;refine aw ho' rfl rfl ?_;simp(disch:=omega)only[go_sem,simprocAttr,jP]
   (repeat(first | refine fb ?_ | refine eZ ?_ | refine fa ?_)<;>simp(disch:=omega)only[go_sem,simprocAttr,jP])
   refine aw hgt rfl rfl ?_;refine wW ?_;refine aw hrd rfl rfl ?_;refine wW ?_;refine aw kW rfl rfl ?_;refine wW ?_;refine gG ?_;refine fN (iM vV hns' vV rfl rfl ?_);refine au @b5 ?_;refine bq @b5 ?_;exact fin rfl
end Go.Proofs.YtoalcafkffmiiaaGreatDoor.Ls
