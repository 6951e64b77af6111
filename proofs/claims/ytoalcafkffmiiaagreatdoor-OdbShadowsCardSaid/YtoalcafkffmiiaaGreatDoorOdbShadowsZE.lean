/- The proof, part 31 of 43. -/
import Derived.Test.YtoalcafkffmiiaaGreatDoorOdbShadowsZD
import Derived.Test.YtoalcafkffmiiaaGreatDoorProg
import Derived.KernelRfl
set_option linter.all false
namespace Go.Proofs.YtoalcafkffmiiaaGreatDoor.Pk
open Eng
set_option maxRecDepth 10000
set_option maxHeartbeats 1000000 in
theorem VU (s:Bs) (o most a hv N:Nat) (out:Bs) (l fl:List Nat) (nl nd p nb least what:Nat) (D:(List Nat×List Nat)×SS) {E:Env} {R1 RX:KS} {R:HP->AV->List AV->Prop} (hN:E.N<=1000000) (hs:s.length<=1000000000) (ho:o<=s.length)
    (hR:cR (mS s o most out D) R) (hr:bN s a hv (8*o+p)) (hbits:nb<=7) (hleast:least<=11) (hNN:nl+nd=N) (hN1:N<=400) (hll:l.length<=N)
    (hbad:(cc N l (least+(aH (s.drop o) nb ⟨p,out,0⟩).1,what,(aH (s.drop o) nb ⟨p,out,0⟩).2)).err≠0->D.2.err=(cc N l (least+(aH (s.drop o) nb ⟨p,out,0⟩).1,what,(aH (s.drop o) nb ⟨p,out,0⟩).2)).err)
    (hR1:∀n a' hv' st',n=numAt (s.drop o) p nb->p+nb<=8*(s.drop o).length->l.length+(least+n)<=N->bN s a' hv' (8*o+(p+nb)) ->
     Wk st' ⟨[(0,.ab 65032 0),(7,.int .i64 nl),(8,.int .i64 nd),(14,bt fl),(16,.sl 62110 0 (l++List.replicate (least+n) what).length),(2000000,.ab 65032 0)],aW s o most a' hv' out++[(62110,.arr 1 (an (l++List.replicate (least+n) what)))]⟩->R1.ap st') :
    vcW Tryz.prog E Cod.tm (EC R1 RX R) ⟨[(0,.ab 65032 0),(7,.int .i64 nl),(8,.int .i64 nd),(14,bt fl),(16,.sl 62110 0 l.length),(19,.int .i64 nb),(20,.int .i64 least),(21,.int .i64 what),(2000000,.ab 65032 0)],aW s o most a hv out++[(62110,.arr 1 (an l))]⟩:=by
 have htl:(s.drop o).length=s.length-o:=aBb;have hnl:=bX l;have hb:=qI s o p a hv nb hs hr aA4;refine je ?_;refine aR [(RD,.var (aY s a hv o))] hb vV nofun ?_;rintro h' v ar ⟨a1,hv1,hr1,rfl,rfl,rfl⟩;by_cases hf:nb<=8*(s.drop o).length-p
 ·rw[if_pos hf]at hr1;rw[if_pos hf,decide_eq_true hf];have hpl:p+nb<=8*(s.drop o).length:=by have:=hr.h2;have:=hr.h3;omega
  rw[gg rfl hpl]at hbad;simp only at hbad;have hlt:=gb (s.drop o) p nb;have hp7:2^nb<=2^7:=aBg (by decide) hbits;have hR1:=λst'=>hR1 _ a1 hv1 st' rfl hpl;generalize numAt (s.drop o) p nb=n at *
  refine⟨cv,rfl,?_⟩;by_cases hov:N<l.length+(least+n)
  ·have ho2:((nl:Int)+(nd:Int))<(l.length:Int)+(least:Int)+(n:Int):=aA4;have hbad:=hbad (by unfold cc;rw[if_pos hov,eX rfl];simp);unfold cc at hbad;rw[if_pos hov,eX rfl]at hbad;refine bl hnl ho2 ?_;exact jS hR 3 hbad (by decide) a1 hv1 bE
  ·have ho2:¬((nl:Int)+(nd:Int))<(l.length:Int)+(least:Int)+(n:Int):=aA4;have eln:(least:Int)+(n:Int)=((least+n:Nat):Int):=aA4;clear hbad;refine bl hnl ho2 ?_;generalize hk:least+n=k at *
   rw[eln]
   refine aZ hN (λj:Nat=>⟨[(0,.ab 65032 0),(7,.int .i64 nl),(8,.int .i64 nd),(14,bt fl),(16,.sl 62110 0 (l.length+j:Nat)),(21,.int .i64 what),(150,.int .i64 k),(151,.int .i64 j),(2000000,.ab 65032 0)],aW s o most a1 hv1 out++[(62110,.arr 1 (an (l++List.replicate j what)))]⟩) (λj=>j<=k) (λj=>k-j) 0
    (.le (by simp(disch:=omega)only[go_sem,simprocAttr,aW,aY,bt];simp)) aA4 ?_
   rintro j R2 hj hR2;have hnl:=bX (l++List.replicate j what);have hlr:(l++List.replicate j what).length=l.length+j:=by simp
   have hnr:=AG l j what;have hsb:aI (an (l++List.replicate j what)) 0 (l.length+j)=an (l++List.replicate j what):=by rw[<-hlr];exact fR
   by_cases hjk:j<k
   ·refine vr hsb @fC ?_;exact hR2 (j+1) _ aA4 aA4 (.le (ru hnr))
   ·obtain rfl:j=k:=aA4;refine je ?_;exact hR1 _ aA4 hr1 (.le (ru hlr))
 ·rw[if_neg hf]at hr1;rw[if_neg hf,decide_eq_false hf];rw[kp rfl (by simp only;omega)]at hbad
  have hover:∀k,(cc N l (k,what,{p:=p,out:=out,err:=6})).err=6:=by
   intro k;unfold cc;split
   ·rfl
   ·rfl
  simp only at hbad;rw[hover]at hbad;refine⟨cv,rfl,?_⟩;refine wW ?_;exact jS hR 6 (hbad (by decide)) (by decide) a1 hv1 bE
set_option maxHeartbeats 2000000 in
theorem VT (s:Bs) (o most a hv:Nat) (out:Bs) (fl:List Nat) (nl nd p:Nat) (D:(List Nat×List Nat)×SS) {E:Env} {R:HP->AV->List AV->Prop} (hN:E.N<=1000000) (hs:s.length<=1000000000) (ho:o<=s.length)
    (hR:cR (mS s o most out D) R) (hr:bN s a hv (8*o+p)) (hfl:∀n∈fl,n<=15) (hfn:fl.length=19) (hfc:bz fl=true) (h1:257<=nl) (h2:nl<=286) (h3:1<=nd) (h4:nd<=30)
    (hD:D=lu (s.drop o) nl nd (cO (s.drop o) fl (nl+nd) (nl+nd) [] ⟨p,out,0⟩)) :
    vcW Tryz.prog E Cod.zH (QT R) ⟨[(0,.ab 65032 0),(7,.int .i64 nl),(8,.int .i64 nd),(14,bt fl),(16,.al),(2000000,.ab 65032 0)],aW s o most a hv out⟩:=by
 generalize hG:cO (s.drop o) fl (nl+nd) (nl+nd) [] ⟨p,out,0⟩=G at hD;have hN1:nl+nd<=400:=aA4;generalize hNN:nl+nd=N at *
 have hbadG:G.2.err≠0->D.2.err=G.2.err:=by
  intro h;rw[hD];unfold lu;rw[if_pos h]
 refine dM (y:=Cod.tk) hN (λz:Nat×Nat=>⟨[(0,.ab 65032 0),(7,.int .i64 nl),(16,.ro 1 (an G.1)),(2000000,.ab 65032 0)],aW s o most z.1 z.2 out⟩)
  (λz=>bN s z.1 z.2 (8*o+G.2.p)/\G.2=⟨G.2.p,out,0⟩/\(∀n∈G.1,n<=15)/\G.1.length=N) (λRX hRX=>?_) (λz hz=>?_)
 ·refine wW ?_
  refine aZ hN (λq:List Nat×Nat×Nat×Nat=>⟨[(0,.ab 65032 0),(7,.int .i64 nl),(8,.int .i64 nd),(14,bt fl),(16,.sl 62110 0 q.1.length),(2000000,.ab 65032 0)],aW s o most q.2.1 q.2.2.1 out++[(62110,.arr 1 (an q.1))]⟩)
   (λq=>(∀n∈q.1,n<=15)/\q.1.length<=N/\bN s q.2.1 q.2.2.1 (8*o+q.2.2.2)/\∃k,N-q.1.length<=k/\cO (s.drop o) fl N k q.1 ⟨q.2.2.2,out,0⟩=G) (λq=>N-q.1.length) ([],a,hv,p)
   (.nil 16 62110 1 rfl (.le (ru @iY))) ⟨by simp,by simp,hr,N,by simp,hG⟩ ?_
  clear hr hG;rintro⟨l,a,hv,p⟩ R1 ⟨hl,hll,hr,k,hk,hg⟩ hR1;simp only at hl hll hr hk hg;have hnl:=bX l;have htl:(s.drop o).length=s.length-o:=aBb;by_cases hlt:l.length<N
  ·have hlt2:(l.length:Int)<(nl:Int)+(nd:Int):=aA4;obtain⟨k,rfl⟩:∃k',k=k'+1:=⟨k-1,aA4⟩;rw[mz,if_neg (by simp only;omega)]at hg;have dy:=s9 fl hfl aA4 hfc s a hv o (8*o+p) aA4 hr;rw[<-ux]at dy;simp only[bt]at dy;generalize hre:readL (aP fl) (bw (s.drop o) p)=re at *
   simp(disch:=omega)only[go_sem,simprocAttr,aW,bt,hnl,hlt2];refine aR [(RD,.var (aY s a hv o))] dy vV nofun ?_;rintro h' v ar ⟨a2,hv2,p2,sy,hr2,rfl,rfl,hk2,rfl⟩;refine⟨cv,rfl,?_⟩;by_cases hre2:re.2.2=0
   ·obtain⟨rfl,rfl⟩:=hk2 hre2
    have hsym:aQ (s.drop o) fl ⟨p,out,0⟩=(re.1,⟨p+re.2.1,out,0⟩):=by
     have:=oh (t:=s.drop o) (l:=fl) (S:=⟨p,out,0⟩) rfl (by simp only;rw[hre];exact hre2);simp only[hre]at this;exact this
    rw[hsym]at hg;simp only at hg
    have hslt:re.1<19:=by
     have:=mL (aP fl) (bw (s.drop o) p) (by rw[hre];exact hre2);rw[hre]at this;have hcl:(aP fl).length=fl.length:=by simp[aP]
     omega
    rw[show 8*o+p+re.2.1=8*o+(p+re.2.1)by omega]at hr2;generalize p+re.2.1=p2 at *
    generalize re.1=sy at *
    by_cases h16:sy<16
    ·have ht:bM (s.drop o) l sy ⟨p2,out,0⟩=(1,sy,⟨p2,out,0⟩):=by unfold bM;rw[if_neg aA4,if_neg aA4,if_neg aA4]
     have hov:cc N l (1,sy,⟨p2,out,0⟩)=⟨p2,out,0⟩:=by unfold cc;rw[if_neg (by simp only;omega)]
     rw[ht,hov,if_neg (by simp)]at hg;simp only at hg;have hsb:aI (an l) 0 l.length=an l:=fR;refine dq hre2 hnl hsb @fC ?_;refine hR1 (l++[sy],a2,hv2,p2) _ (by simp only[aA8,aBk];omega) ⟨?_,?_,hr2,k,?_,hg⟩ (.le (by rw[fB];simp(disch:=omega)only[go_sem,simprocAttr,aW,aY,bt,aA8,aBk]))
     ·intro n hn;rcases aBz.1 hn with hn | hn
      ·exact hl n hn
      ·rw[aBs.1 hn];omega
     ·simp only[aA8,aBk];omega
     ·simp only[aA8,aBk];omega
    ·refine au hre2 ?_
     refine dM (y:=Cod.tm) hN (λz:Nat×Nat×Nat=>⟨[(0,.ab 65032 0),(7,.int .i64 nl),(8,.int .i64 nd),(14,bt fl),(16,.sl 62110 0 l.length),(19,.int .i64 z.1),(20,.int .i64 z.2.1),(21,.int .i64 z.2.2),(2000000,.ab 65032 0)],aW s o most a2 hv2 out++[(62110,.arr 1 (an l))]⟩)
      (λz=>z.1<=7/\1<=z.2.1/\z.2.1<=11/\z.2.2<=15/\bM (s.drop o) l sy ⟨p2,out,0⟩=(z.2.1+(aH (s.drop o) z.1 ⟨p2,out,0⟩).1,z.2.2,(aH (s.drop o) z.1 ⟨p2,out,0⟩).2)) (λR2 hR2=>?_) (λz hz=>?_)
     ·by_cases e16:sy=16
      ·subst e16;by_cases hle:l=[]
       ·subst hle;have ht:bM (s.drop o) [] 16 ⟨p2,out,0⟩=(0,0,⟨p2,out,3⟩):=by unfold bM;rw[if_pos rfl,if_pos rfl,eX rfl]
        have hov:cc N [] (0,0,⟨p2,out,3⟩)=⟨p2,out,3⟩:=if_neg (by simp);rw[ht,hov,if_pos (by simp)]at hg;refine au @iY ?_;exact jS hR 3 (by rw[hbadG (by rw[<-hg];simp),<-hg]) (by decide) a2 hv2 bE
       ·have hl0:0<l.length:=by cases l with | nil=>exact absurd rfl hle | cons=>simp
        have el:(l.length:Int)-1=((l.length-1:Nat):Int):=aA4;have hz:¬((l.length:Int)=0):=aA4;have hx:nth (an l) (l.length-1)=.int .i64 (l.getD (l.length-1) 0:Nat):=dV aA4;have hx15:l.getD (l.length-1) 0<=15:=kj hl _;have ht:bM (s.drop o) l 16 ⟨p2,out,0⟩=(3+(aH (s.drop o) 2 ⟨p2,out,0⟩).1,l.getD (l.length-1) 0,(aH (s.drop o) 2 ⟨p2,out,0⟩).2):=by unfold bM;rw[if_pos rfl,if_neg hle]
        generalize l.getD (l.length-1) 0=x at *
        refine dq hnl hz el hx ?_;exact hR2 (2,3,x) _ ⟨by simp,by simp,by simp,hx15,ht⟩ (.le oo)
      ·by_cases e17:sy=17
       ·subst e17;refine wW ?_;exact hR2 (3,3,0) _ ⟨by decide,by decide,by decide,by decide,rfl⟩ (.le oo)
       ·obtain rfl:sy=18:=aA4;refine wW ?_;exact hR2 (7,11,0) _ ⟨by decide,by decide,by decide,by decide,rfl⟩ (.le oo)
     ·obtain⟨nb,least,what⟩:=z;simp only at hz |-;obtain⟨g1,g0,g2,g3,g4⟩:=hz;rw[g4]at hg;refine VU s o most a2 hv2 N out l fl nl nd p2 nb least what D hN hs ho hR hr2 g1 g2 hNN hN1 hll (λh=>?_) (λn a' hv' st' hn hpl hlo hr3 hw=>?_)
      ·rw[if_pos h]at hg;rw[hbadG (by rw[<-hg];exact h),<-hg]
      ·rw[gg rfl hpl]at hg;simp only at hg;rw[<-hn]at hg;have hov:cc N l (least+n,what,⟨p2+nb,out,0⟩)=⟨p2+nb,out,0⟩:=by unfold cc;rw[if_neg (by simp only;omega)]
       rw[hov,if_neg (by simp)]at hg;refine hR1 (l++List.replicate (least+n) what,a',hv',p2+nb) _ (by simp only[aA8,aBt];omega) ⟨?_,?_,hr3,k,?_,hg⟩ hw
       ·intro n hn;rcases aBz.1 hn with hn | hn
        ·exact hl n hn
        ·rw[(aC0.1 hn).2];exact g3
       ·simp only[aA8,aBt];omega
       ·simp only[aA8,aBt];omega
   ·have hsym:aQ (s.drop o) fl ⟨p,out,0⟩=(0,⟨p,out,re.2.2⟩):=by
     have:=og (t:=s.drop o) (l:=fl) (S:=⟨p,out,0⟩) rfl (by simp only;rw[hre];exact hre2);simp only[hre]at this;exact this
    rw[hsym]at hg;simp only at hg;have ht:bM (s.drop o) l 0 ⟨p,out,re.2.2⟩=(1,0,⟨p,out,re.2.2⟩):=by unfold bM;rw[if_neg aA4,if_neg aA4,if_neg aA4]
    have hov:cc N l (1,0,⟨p,out,re.2.2⟩)=⟨p,out,re.2.2⟩:=by unfold cc;rw[if_neg (by simp only;omega)]
    rw[ht,hov,if_pos (by simpa using hre2)]at hg;have hi:¬((re.2.2:Nat):Int)=0:=aA4;refine au hi ?_;exact jS hR re.2.2 (by rw[hbadG (by rw[<-hg];exact hre2),<-hg]) hre2 a2 hv2 bE
  ·have hlt2:¬(l.length:Int)<(nl:Int)+(nd:Int):=aA4
   have hGe:(l,(⟨p,out,0⟩:SS))=G:=by
    rw[<-hg]
    cases k with
    | zero=>rfl
    | succ k=>rw[mz,if_pos (.inl aA4)]
   subst hGe;have hsb:aI (an l) 0 l.length=an l:=fR;refine vr hnl hlt2 ?_;exact hRX (a,hv) _ ⟨hr,rfl,hl,by simp only;omega⟩ (.bu 62110 (.le (ru hsb)))
 ·obtain⟨a',hv'⟩:=z;obtain⟨g1,g2,g3,g4⟩:=hz;refine VV s o most a' hv' out G.1 nl G.2.p D hN hR g3 h1 h2 aA4 aA4 g1 ?_;rw[hD];unfold lu;rw[if_neg (by rw[g2];simp)];obtain⟨G1,G2⟩:=G;simp only at g2;rw[g2]
open Eng
set_option maxRecDepth 10000
set_option maxHeartbeats 2000000 in
theorem VW (s:Bs) (o most a hv:Nat) (out:Bs) (nl nd nc p:Nat) (D:(List Nat×List Nat)×SS) {E:Env} {R:HP->AV->List AV->Prop} (hN:E.N<=1000000) (hs:s.length<=1000000000) (ho:o<=s.length)
    (hR:cR (mS s o most out D) R) (hr:bN s a hv (8*o+p)) (h1:257<=nl) (h2:nl<=286) (h3:1<=nd) (h4:nd<=30) (hc:nc<=19)
    (hD:D=cE (s.drop o) nl nd (firstS (s.drop o) nc nc (List.replicate 19 0) ⟨p,out,0⟩)) :
    vcW Tryz.prog E Cod.zI (QT R) ⟨[(0,.ab 65032 0),(7,.int .i64 nl),(8,.int .i64 nd),(9,.int .i64 nc),(10,.sl 62057 0 19),(2000000,.ab 65032 0)],[(62057,.arr 1 (an (List.replicate 19 0))),(40014,.var (aY s a hv o)),(65032,.var [.ab 40014 0,.sl 60022 0 out.length,.int .i64 most]),(60022,.arr 1 (out.map ub))]⟩:=by
 generalize hG:firstS (s.drop o) nc nc (List.replicate 19 0) ⟨p,out,0⟩=G at hD;have htl:(s.drop o).length=s.length-o:=aBb
 have hbadG:G.2.err≠0->D.2.err=G.2.err:=by
  intro h;rw[hD];unfold cE;rw[if_pos h]
 refine dM (y:=Cod.zJ) hN (λz:Nat×Nat=>⟨[(0,.ab 65032 0),(7,.int .i64 nl),(8,.int .i64 nd),(10,.ro 1 (an G.1)),(2000000,.ab 65032 0)],aW s o most z.1 z.2 out⟩)
  (λz=>bN s z.1 z.2 (8*o+G.2.p)/\G.2=⟨G.2.p,out,0⟩/\(∀n∈G.1,n<=15)/\G.1.length=19) (λRX hRX=>?_) (λz hz=>?_)
 ·refine je ?_
  refine aZ hN (λq:Nat×List Nat×Nat×Nat×Nat=>⟨[(0,.ab 65032 0),(7,.int .i64 nl),(8,.int .i64 nd),(10,.sl 62057 0 19),(58,.int .i64 nc),(59,.int .i64 q.1),(2000000,.ab 65032 0)],aW s o most q.2.2.1 q.2.2.2.1 out++[(62057,.arr 1 (an q.2.1))]⟩)
   (λq=>q.1<=nc/\(∀n∈q.2.1,n<=15)/\q.2.1.length=19/\bN s q.2.2.1 q.2.2.2.1 (8*o+q.2.2.2.2)/\firstS (s.drop o) nc (nc-q.1) q.2.1 ⟨q.2.2.2.2,out,0⟩=G) (λq=>nc-q.1) (0,List.replicate 19 0,a,hv,p)
   (.le vVJ) ⟨by simp,by simp,by simp,hr,hG⟩ ?_
  clear hr hG;rintro⟨j,l,a,hv,p⟩ R1 ⟨hj,hl,hll,hr,hg⟩ hR1;simp only at hj hl hll hr hg;have hnl:=bX l;by_cases hlt:j<nc
  ·obtain⟨m,hm⟩:∃m,nc-j=m+1:=⟨nc-j-1,aA4⟩;rw[hm,nr,if_neg (by simp),show nc-(m+1)=j by omega]at hg;have hpl:=Bp j aA4;have hx:nth (an eJ) j=.int .i64 (eJ.getD j 0:Nat):=dV (by have:eJ.length=19:=rfl;omega);have hpn:(an eJ).length=19:=rfl
   have hx2:(an eJ).getD j .undef=.int .i64 (eJ.getD j 0:Nat):=by
    have hl:j<eJ.length:=by have:eJ.length=19:=rfl;omega
    simp[an,aA5,hl]
   have hord:=TU;unfold A6 at hord;generalize eJ.getD j 0=pj at *
   have hb:=qI s o p a hv 3 hs hr aA4;have hxl:nth (an l) pj=.int .i64 (l.getD pj 0:Nat):=dV aA4;refine je ?_;refine aR [(RD,.var (aY s a hv o))] hb vV nofun ?_;rintro h' v ar ⟨a1,hv1,hr1,rfl,rfl,rfl⟩;by_cases hf:3<=8*(s.drop o).length-p
   ·rw[if_pos hf]at hr1;rw[if_pos hf,decide_eq_true hf];rw[gg rfl (by simp only;omega)]at hg;simp only at hg;have hlt3:=gb (s.drop o) p 3;generalize numAt (s.drop o) p 3=x at *
    refine⟨cv,rfl,?_⟩;refine wW ?_;refine aw hord rfl rfl ?_;refine ou hx2 hpn hnl hll hxl @tP ?_;refine hR1 (j+1,l.set pj x,a1,hv1,p+3) _ (by simp only;omega) ⟨hlt,?_,by simp[hll],hr1,by simp only;rw[show nc-(j+1)=m by omega];exact hg⟩ (.le bE);intro n hn;rcases aCc hn with hn | hn
    ·exact hl n hn
    ·omega
   ·rw[if_neg hf]at hr1;rw[if_neg hf,decide_eq_false hf];rw[kp rfl (by simp only;omega)]at hg;simp only at hg;rw[pH _ _ _ _ _ (by simp)]at hg;refine⟨cv,rfl,?_⟩;refine wW ?_;exact jS hR 6 (by rw[hbadG (by rw[<-hg];simp),<-hg]) (by decide) a1 hv1 bE
  ·obtain rfl:j=nc:=aA4;rw[aC9]at hg;have hGe:(l,(⟨p,out,0⟩:SS))=G:=hg;subst hGe;have hsub:aI (an l) 0 19=an l:=by rw[<-hll];exact fR
   refine je ?_;exact hRX (a,hv) _ ⟨hr,rfl,hl,hll⟩ (.bu 62057 (.le (Ej hsub)))
 ·obtain⟨a',hv'⟩:=z;obtain⟨g1,g2,g3,g4⟩:=hz;simp only at g1 g2 g3 g4 |-;have n1:=p8 G.1 g3 aA4;unfold cE at hD;rw[if_neg (by rw[g2];simp)]at hD
  cases hck:bz G.1 with
  | false=>
   rw[hck,if_neg (by decide)]at n1;rw[if_pos hck]at hD;refine je ?_;refine ic n1 rfl ?_;rintro h' v as' ⟨rfl,rfl⟩;refine⟨rfl,rfl,?_⟩;refine wW ?_
   exact jS hR 3 (by rw[hD]) (by decide) a' hv' bE
  | true=>
   rw[hck,if_pos rfl]at n1;rw[if_neg (by rw[hck];decide),g2]at hD;have hb:=VT s o most a' hv' out G.1 nl nd G.2.p D (E:=E) (R:=R) hN hs ho hR g1 g3 g4 hck h1 h2 h3 h4 hD;refine je ?_;refine ic n1 rfl ?_;rintro h' v as' ⟨rfl,rfl⟩;refine⟨rfl,rfl,?_⟩;simp only[aW,bt]at hb;simp(disch:=omega)only[go_sem,simprocAttr,bt];exact hb
theorem oE {n:Nat} (h:n<65536):bits .and .u32 (n:Int) 31=((n%32:Nat):Int):=by
 show IntKind.u32.wrap ((BitVec.ofInt 32 (n:Int) &&& BitVec.ofInt 32 ((31:Nat):Int)).toNat:Int)=_
 rw[aBl,aBl,aCC,aBm,aBm,aBh aA4,aBh (by decide),show(31:Nat)=2^5-1 from rfl,aBY];exact wrap_u32 aA4
theorem fdiv_pow (x k:Nat) (h:k<=32):(x:Int).fdiv (2^min k 32)=((x/2^k:Nat):Int):=by
 rw[aBC h,aBI _ (by exact_mod_cast aBB (2^k))]
 norm_cast
set_option maxHeartbeats 1000000 in
theorem W9 (s:Bs) (o most a hv:Nat) (S:SS) (hs:s.length<=1000000000) (ho:o<=s.length) (hm:most<=1000000) (hr:bN s a hv (8*o+S.p)) (hol:S.out.length<=most) (he:S.err=0) :
    Eng.Spec Tryz.prog 233 (aW s o most a hv S.out) [.ab fH 0] (λh' v ar=>PT s o most S.out (b9 (s.drop o) S) h' v/\ar=[.ab fH 0]):=by
 refine Cod.Xa (λE R hN hR=>?_);have htl:(s.drop o).length=s.length-o:=aBb;have hb:=qI s o S.p a hv 14 hs hr aA4;rw[pD]at hR;obtain⟨p,out,err⟩:=S;simp only at he hr hol hb hR |-;subst he;refine je ?_;refine aR [(RD,.var (aY s a hv o))] hb vV nofun ?_;rintro h' v ar ⟨a1,hv1,hr1,rfl,rfl,rfl⟩;by_cases h14:14<=8*(s.drop o).length-p
 ·rw[if_pos h14]at hr1;rw[if_pos h14,decide_eq_true h14];rw[if_neg aA4]at hR;refine⟨cv,rfl,?_⟩;have hlt:=gb (s.drop o) p 14;have m5:=qy (s.drop o) p (m:=5) (n:=14) (by decide);have d5:=nG (s.drop o) p (m:=5) (n:=14) (by decide);have d10:=nG (s.drop o) p (m:=10) (n:=14) (by decide);have m55:=qy (s.drop o) (p+5) (m:=5) (n:=9) (by decide);generalize numAt (s.drop o) p 14=x at *
  have f5:=fdiv_pow x 5 (by decide);have f10:=fdiv_pow x 10 (by decide);have c1:=oE (n:=x) aA4;have c2:=oE (n:=x/2^5) aA4;have w1:x%32=numAt (s.drop o) p 5:=m5;have w2:x/2^5%32=numAt (s.drop o) (p+5) 5:=by rw[d5];exact m55
  have w3:x/2^10=numAt (s.drop o) (p+10) 4:=d10;rw[<-w1,<-w2,<-w3]at hR;have b1:x%32<32:=aCD _ (by decide);have b2:x/2^5%32<32:=aCD _ (by decide);have b3:x/2^10<16:=aA4;generalize x%32=y1 at *
  generalize x/2^5%32=y2 at *
  generalize x/2^10=y3 at *
  have bad:(286<y1+257\/30<y2+1)->R [(40014,aK.var (aY s a1 hv1 o)),(65032,aK.var [AV.ab 40014 0,AV.sl 60022 0 (List.length out),AV.int IntKind.i64 ↑most]),(60022,aK.arr 1 (List.map ub out))] (.ai [.lit (.pointer none),.lit (.pointer none),.int .i64 3]) [.ab 65032 0]:=by
   intro hx;rw[if_pos hx]at hR;exact jS hR 3 rfl (by decide) a1 hv1 bE
  by_cases hx1:286<y1+257
  ·have bad:=bad (.inl hx1);refine dq f5 f10 c1 c2 ?_;refine gG ?_;exact bad
  ·by_cases hx2:30<y2+1
   ·have bad:=bad (.inr hx2);refine dq f5 f10 c1 c2 ?_;refine gG ?_;exact bad
   ·rw[if_neg aA4]at hR;clear bad;have hf:=VW s o most a1 hv1 out (y1+257) (y2+1) (y3+4) (p+14) _ (E:=E) (R:=R) hN hs ho hR hr1 aA4 aA4 aA4 aA4 aA4 rfl;clear hR;refine dq f5 f10 c1 c2 ?_;refine gG ?_;simp only[aY]at hf;refine jf ?_;exact hf
 ·rw[if_neg h14]at hr1;rw[if_neg h14,decide_eq_false h14];rw[if_pos aA4]at hR;refine⟨cv,rfl,?_⟩;refine wW ?_;exact jS hR 6 rfl (by decide) a1 hv1 bE
theorem and1 {n:Nat} (h:n<65536):bits .and .u32 (n:Int) 1=((n%2:Nat):Int):=by
 show IntKind.u32.wrap ((BitVec.ofInt 32 (n:Int) &&& BitVec.ofInt 32 ((1:Nat):Int)).toNat:Int)=_
 rw[aBl,aBl,aCC,aBm,aBm,aBh aA4,aBh (by decide),show(1:Nat)=2^1-1 from rfl,aBY];exact wrap_u32 aA4
abbrev QR (R:HP->AV->List AV->Prop):KQ:=KQ.post [.tmp 2] 1 R
abbrev rF (s:Bs) (o most:Nat) (G:SS):HP->AV->List AV->Prop:=λh' v ar=>PI s o most G h' v/\ar=[.ab fH 0]
theorem mK {s:Bs} {o most:Nat} {G:SS} {R:HP->AV->List AV->Prop} (hR:cR (rF s o most G) R) (e:Nat) (he:G.err=e) (hne:e≠0) (a' hv':Nat) (out:Bs) {h:HP} (hh:fe h (aW s o most a' hv' out)) :
    R h (.int .i64 (e:Nat)) [.ab 65032 0]:=
 hR.le (h':=aW s o most a' hv' out) hh ⟨⟨a',hv',out,rfl,by rw[he],λh=>absurd h (by rw[he];exact hne)⟩,rfl⟩
def py (t:Bs) (most h:Nat) (S G:SS):Prop:=if h%2=1 then S=G else fT t most S=G
def iO (t:Bs) (most h:Nat) (S G:SS):Prop:=if S.err≠0 then G.err=S.err else py t most h S G
structure kR where
 h:Nat
 l:List Nat
 d:List Nat
 a:Nat
 hv:Nat
 S:SS
def ir (s:Bs) (o most:Nat) (l:Nat) (z:kR):St:=
 if l=0 then⟨[(0,.ab 65032 0),(2000000,.ab 65032 0)],aW s o most z.a z.hv z.S.out⟩
 else if l=1 then⟨[(0,.ab 65032 0),(3,.int .u32 z.h),(2000000,.ab 65032 0)],aW s o most z.a z.hv z.S.out⟩
 else⟨[(0,.ab 65032 0),(3,.int .u32 z.h),(7,bt z.l),(8,bt z.d),(2000000,.ab 65032 0)],aW s o most z.a z.hv z.S.out⟩
structure RB (s:Bs) (o most:Nat) (z:kR):Prop where
 r:bN s z.a z.hv (8*o+z.S.p)
 e:z.S.err=0
 ol:z.S.out.length<=most
 hl:z.h<8
structure TB (l d:List Nat):Prop where
 YM:∀n∈l,n<=15
 d15:∀n∈d,n<=15
 ll:l.length<=320
 dl:d.length<=320
 lc:bz l=true
 dc:bz d=true
def th (s:Bs) (o most:Nat) (G:SS) (l:Nat) (z:kR):Prop:=
 RB s o most z/\(if l=0 then fT (s.drop o) most z.S=G else if l=1 then py (s.drop o) most z.h z.S G else if l=2 then TB z.l z.d/\iO (s.drop o) most z.h (dp (s.drop o) most z.l z.d z.S) G else False)
def iU (s:Bs) (o l:Nat) (z:kR):Nat:=4*(8*(s.drop o).length+1-z.S.p)+min l 2
theorem RB.pl {s:Bs} {o most:Nat} {z:kR} (h:RB s o most z):z.S.p<=8*(s.drop o).length:=by
 have:=h.r.h2;have:=h.r.h3;rw[aBb];omega
set_option maxHeartbeats 2000000 in
theorem zy (s:Bs) (o most:Nat) (G:SS) (z:kR) {E:Env} {R:Nat->KS} {R0:HP->AV->List AV->Prop} (hN:E.N<=1000000) (hs:s.length<=1000000000) (ho:o<=s.length) (hm:most<=1000000) (hR:cR (rF s o most G) R0) (hz:RB s o most z) (hg:fT (s.drop o) most z.S=G)
    (hJ:∀l' z' st',iU s o l' z'<iU s o 0 z->th s o most G l' z'->Wk st' (ir s o most l' z')->(R l').ap st') :
    vcW Tryz.prog E Cod.qa (KQ.jJ R (QR R0)) ⟨[(0,.ab 65032 0),(2000000,.ab 65032 0)],aW s o most z.a z.hv z.S.out⟩:=by
 have hpl:=hz.pl;obtain⟨h,l,d,a,hv,S⟩:=z;obtain⟨hr,he,hol,hh⟩:=hz;simp only at hr he hol hh hg hpl |-;rw[run_eq hpl]at hg;have htl:(s.drop o).length=s.length-o:=aBb;have hb:=qI s o S.p a hv 3 hs hr aA4;refine je ?_;refine aR [(RD,.var (aY s a hv o))] hb vV nofun ?_;rintro h' v ar ⟨a1,hv1,hr1,rfl,rfl,rfl⟩;by_cases h3:3<=8*(s.drop o).length-S.p
 ·rw[if_pos h3]at hr1;rw[if_pos h3,decide_eq_true h3];have hbk:dH (s.drop o) most S=_:=if_neg (show ¬8*(s.drop o).length<S.p+3 by omega);rw[hbk]at hg;clear hbk;have m1:=qy (s.drop o) S.p (m:=1) (n:=3) (by decide);have d1:=nG (s.drop o) S.p (m:=1) (n:=3) (by decide);have hlt:=gb (s.drop o) S.p 3;simp only at hg;rw[<-m1,show(2:Nat)=3-1 from rfl,<-d1]at hg;generalize numAt (s.drop o) S.p 3=x at *
  have f1:=fdiv_pow x 1 (by decide);refine⟨cv,rfl,?_⟩;have hx1:x%2^1=x%2:=rfl;have hx2:x/2^1=x/2:=rfl;rw[hx1,hx2]at hg;rw[hx2]at f1;have hxl:x/2<4:=aA4
  -- the end of a block
  have hdone:∀S':SS,(if x/2=0 then dY (s.drop o) most {S with p:=S.p+3} else if x/2=1 then dp (s.drop o) most ee ed {S with p:=S.p+3}
      else if x/2=2 then(if(b9 (s.drop o) {S with p:=S.p+3}).2.err≠0 then(b9 (s.drop o) {S with p:=S.p+3}).2 else dp (s.drop o) most (b9 (s.drop o) {S with p:=S.p+3}).1.1 (b9 (s.drop o) {S with p:=S.p+3}).1.2 (b9 (s.drop o) {S with p:=S.p+3}).2)else {S with p:=S.p+3,err:=3})=S' ->
      iO (s.drop o) most x S' G:=by
   intro S' hS';rw[hS']at hg;unfold iO;by_cases hSe:S'.err=0
   ·rw[if_neg (by simpa using hSe)];unfold py;by_cases hx:x%2=1
    ·rw[if_pos (.inr (by simpa using hx))]at hg;rw[if_pos hx];exact hg
    ·rw[if_neg (λh=>h.elim (λh=>h hSe) (λh=>hx (by simpa using h)))]at hg;rw[if_neg hx];exact hg
   ·rw[if_pos (.inl hSe)]at hg;rw[if_pos hSe,hg]
  clear hg;have hr1':bN s a1 hv1 (8*o+(S.p+3)):=hr1;refine au f1 ?_;obtain hk | hk | hk | hk:x/2=0\/x/2=1\/x/2=2\/x/2=3:=aA4
  ·rw[hk];have hst:=VR s o most a1 hv1 {S with p:=S.p+3} hs ho hm hr1' hol he;have hc:=hdone _ (if_pos hk);have hmv:Mv (s.drop o) most {S with p:=S.p+3} (dY (s.drop o) most {S with p:=S.p+3}):=AB;generalize dY (s.drop o) most {S with p:=S.p+3}=F at *
   refine wW ?_;refine aR (aW s o most a1 hv1 S.out) hst bE nofun ?_;rintro h' v ar ⟨⟨a2,hv2,out2,rfl,rfl,hF⟩,rfl⟩;refine⟨bE,rfl,?_⟩;unfold iO at hc;by_cases hFe:F.err=0
   ·obtain⟨rfl,hr2⟩:=hF hFe;rw[if_neg (by simpa using hFe)]at hc;refine au hFe ?_;have h1:=hmv.p;simp only at h1;exact hJ 1 ⟨x,[],[],a2,hv2,F⟩ _ (by simp only[iU];omega) ⟨⟨hr2,hFe,hmv.o hol,by simp only;omega⟩,by rw[if_neg (by decide),if_pos rfl];exact hc⟩ (.le (by simp(disch:=omega)only[go_sem,simprocAttr,ir,aW,aY]))
   ·rw[if_pos hFe]at hc;have hi:¬((F.err:Nat):Int)=0:=aA4;refine au hi ?_;exact mK hR F.err hc hFe a2 hv2 out2 bE
  ·rw[hk];have hc:=hdone _ ((if_neg aA4).trans (if_pos hk));refine wW ?_;refine aw S5 rfl rfl ?_;simp(disch:=omega)only[go_sem,simprocAttr,bt];refine hJ 2 ⟨x,ee,ed,a1,hv1,{S with p:=S.p+3}⟩ _ (by simp only[iU];omega) ⟨⟨hr1',he,hol,by simp only;omega⟩,?_⟩ (.le ?_)
   ·rw[if_neg (by decide),if_neg (by decide),if_pos rfl];exact⟨⟨jl.1,jk.1,by simp only;rw[jl.2.1];decide,by simp only;rw[jk.2.1];decide,jl.2.2,jk.2.2⟩,hc⟩
   ·simp(disch:=omega)only[go_sem,simprocAttr,ir,aW,aY,bt]
  ·rw[hk];have hit:=W9 s o most a1 hv1 {S with p:=S.p+3} hs ho hm hr1' hol he;have hc:=hdone _ ((if_neg aA4).trans ((if_neg aA4).trans (if_pos hk)));have hmv:Mv (s.drop o) most {S with p:=S.p+3} (b9 (s.drop o) {S with p:=S.p+3}).2:=qo;have hdo:=LQ (s.drop o) {S with p:=S.p+3};generalize b9 (s.drop o) {S with p:=S.p+3}=D at *
   refine wW ?_;refine aR (aW s o most a1 hv1 S.out) hit bE nofun ?_;rintro h' v ar ⟨⟨a2,hv2,rfl,hbad,hgood⟩,rfl⟩;by_cases hDe:D.2.err=0
   ·obtain⟨rfl,hr2,hc1,hc2,hl1,hl2,hn1,hn2⟩:=hgood hDe;rw[if_neg (by simpa using hDe)]at hc;refine⟨bE,rfl,?_⟩;refine vo ?_;have h1:=hmv.p;simp only at h1 hdo;refine hJ 2 ⟨x,D.1.1,D.1.2,a2,hv2,D.2⟩ _ (by simp only[iU];omega) ⟨⟨hr2,hDe,by simp only;rw[hdo];exact hol,by simp only;omega⟩,?_⟩ (.le ?_)
    ·rw[if_neg (by decide),if_neg (by decide),if_pos rfl];exact⟨⟨hl1,hl2,by simp only;omega,hn2,hc1,hc2⟩,hc⟩
    ·simp(disch:=omega)only[go_sem,simprocAttr,ir,aW,aY,bt,hdo]
   ·obtain rfl:=hbad hDe;rw[if_pos hDe]at hc;unfold iO at hc;rw[if_pos hDe]at hc;refine⟨bE,rfl,?_⟩;have hi:¬((D.2.err:Nat):Int)=0:=aA4;simp(disch:=omega)only[go_sem,simprocAttr,hi,u3];exact mK hR D.2.err hc hDe a2 hv2 S.out bE
  ·rw[hk];have hc:=hdone _ ((if_neg aA4).trans ((if_neg aA4).trans (if_neg aA4)));unfold iO at hc;rw[if_pos (by simp)]at hc;refine wW ?_;exact mK hR 3 hc (by decide) a1 hv1 S.out bE
 ·rw[if_neg h3]at hr1;rw[if_neg h3,decide_eq_false h3];have hbk:dH (s.drop o) most S=(true,{S with err:=6}):=if_pos (show 8*(s.drop o).length<S.p+3 by omega);rw[hbk,if_pos (.inl (by simp))]at hg;refine⟨cv,rfl,?_⟩;refine wW ?_;exact mK hR 6 (by rw[<-hg]) (by decide) a1 hv1 S.out bE
set_option maxHeartbeats 2000000 in
theorem Vs (s:Bs) (o most:Nat) (G:SS) (z:kR) {E:Env} {R:Nat->KS} {R0:HP->AV->List AV->Prop} (hN:E.N<=1000000) (hs:s.length<=1000000000) (ho:o<=s.length) (hm:most<=1000000) (hR:cR (rF s o most G) R0) (hz:RB s o most z) (ht:TB z.l z.d) (hg:iO (s.drop o) most z.h (dp (s.drop o) most z.l z.d z.S) G)
    (hJ:∀l' z' st',iU s o l' z'<iU s o 2 z->th s o most G l' z'->Wk st' (ir s o most l' z')->(R l').ap st') :
    vcW Tryz.prog E (.seq .skip Cod.ti) (KQ.jJ R (QR R0)) ⟨[(0,.ab 65032 0),(3,.int .u32 z.h),(7,bt z.l),(8,bt z.d),(2000000,.ab 65032 0)],aW s o most z.a z.hv z.S.out⟩:=by
 have hpl:=hz.pl;obtain⟨h,l,d,a,hv,S⟩:=z;obtain⟨hr,he,hol,hh⟩:=hz;simp only at hr he hol hh hg hpl ht |-;rw[Bi hpl,if_neg (by simpa using he)]at hg;have htl:(s.drop o).length=s.length-o:=aBb;have dy:=s9 l ht.YM ht.ll ht.lc s a hv o (8*o+S.p) aA4 hr;rw[<-ux]at dy;simp only[bt]at dy;generalize hre:readL (aP l) (bw (s.drop o) S.p)=re at *
 simp(disch:=omega)only[go_sem,simprocAttr,aW,bt];refine aR [(RD,.var (aY s a hv o))] dy vV nofun ?_;rintro h' v ar ⟨a2,hv2,p2,sy,hr2,rfl,rfl,hk2,rfl⟩;refine⟨cv,rfl,?_⟩;by_cases hre2:re.2.2=0
 ·obtain⟨rfl,rfl⟩:=hk2 hre2
  have hsym:aQ (s.drop o) l S=(re.1,{S with p:=S.p+re.2.1}):=by
   have:=oh (t:=s.drop o) (l:=l) (S:=S) he (by rw[hre];exact hre2);simp only[hre]at this;exact this
  have hrb:=mL (aP l) (bw (s.drop o) S.p) (by rw[hre];exact hre2);rw[hre,jT]at hrb;have hcl:(aP l).length=l.length:=by simp[aP]
  have hll:=ht.ll;rw[show 8*o+S.p+re.2.1=8*o+(S.p+re.2.1)by omega]at hr2
  have hst:dS (s.drop o) most l d S=(if re.1=256 then(true,{S with p:=S.p+re.2.1})else if re.1<256 then(false,dh most (UInt8.ofNat re.1) {S with p:=S.p+re.2.1})else(false,c7 (s.drop o) most d re.1 {S with p:=S.p+re.2.1})):=by
   unfold dS;rw[hsym];exact if_neg (by simpa using he)
  rw[hst]at hg;have hp2:S.p<S.p+re.2.1/\S.p+re.2.1<=8*(s.drop o).length:=aA4;generalize S.p+re.2.1=p2 at *
  have hsy:re.1<=320:=aA4;generalize re.1=sy at *
  by_cases h256:sy=256
  ·rw[if_pos h256,if_pos rfl]at hg;unfold iO at hg;rw[if_neg (by simpa using he)]at hg;refine bl hre2 h256 ?_;refine hJ 1 ⟨h,[],[],a2,hv2,{S with p:=p2}⟩ _ (by simp only[iU];omega) ⟨⟨hr2,he,hol,hh⟩,?_⟩ (.le ?_)
   ·rw[if_neg (by decide),if_pos rfl];exact hg
   ·simp(disch:=omega)only[go_sem,simprocAttr,ir,aW,aY]
  ·rw[if_neg h256]at hg;have hi:¬((sy:Nat):Int)=256:=aA4;refine bl hre2 hi ?_
   -- behind the symbol
   refine dM (y:=Cod.zw) hN (λy:Nat×Nat×Bs×SS=>⟨[(0,.ab 65032 0),(3,.int .u32 h),(5,.int .i64 y.2.2.2.err),(7,bt l),(8,bt d),(2000000,.ab 65032 0)],aW s o most y.1 y.2.1 y.2.2.1⟩)
    (λy=>Mv (s.drop o) most {S with p:=p2} y.2.2.2/\iO (s.drop o) most h (dp (s.drop o) most l d y.2.2.2) G/\(y.2.2.2.err=0->y.2.2.1=y.2.2.2.out/\bN s y.1 y.2.1 (8*o+y.2.2.2.p))) (λR2 hR2=>?_) (λy hy=>?_)
   ·by_cases hlt:sy<256
    ·rw[if_pos hlt,if_neg (by simp)]at hg;simp only at hg;have hput:=zr s o most a2 hv2 S.out hm hol (UInt8.ofNat sy);have hmv:Mv (s.drop o) most {S with p:=p2} (dh most (UInt8.ofNat sy) {S with p:=p2}):=km
     have hF:dh most (UInt8.ofNat sy) {S with p:=p2}=⟨p2,if S.out.length=most then S.out else S.out++[UInt8.ofNat sy],if S.out.length=most then 2 else 0⟩:=by
      unfold dh;rw[if_neg (by simpa using he)];simp only;by_cases hf:S.out.length=most
      ·rw[if_pos aA4,if_pos hf,if_pos hf]
      ·rw[if_neg aA4,if_neg hf,if_neg hf,he]
     have hb:((UInt8.ofNat sy).toNat:Int)=(sy:Int):=by rw[aCi];omega
     rw[hb]at hput;generalize dh most (UInt8.ofNat sy) {S with p:=p2}=F at *
     have hF1:F.out=(if S.out.length=most then S.out else S.out++[UInt8.ofNat sy]):=by rw[hF]
     have hF2:F.err=(if S.out.length=most then 2 else 0):=by rw[hF]
     have hF3:F.p=p2:=by rw[hF]
     rw[<-hF1,<-hF2]at hput;clear hF hF1;have hlt2:((sy:Nat):Int)<256:=aA4;refine au hlt2 ?_;refine aR (aW s o most a2 hv2 S.out) hput bE nofun ?_;rintro h' v ar ⟨rfl,rfl,rfl⟩;refine⟨bE,rfl,?_⟩;refine vo ?_;exact hR2 (a2,hv2,F.out,F) _ ⟨hmv,hg,λ_=>⟨rfl,by rw[hF3];exact hr2⟩⟩ (.le oo)
    ·rw[if_neg hlt,if_neg (by simp)]at hg;simp only at hg;have hrp:=UG s o most a2 hv2 {S with p:=p2} d sy hs ho hm hr2 hol he ht.d15 ht.dl ht.dc aA4 aA4;have hmv:Mv (s.drop o) most {S with p:=p2} (c7 (s.drop o) most d sy {S with p:=p2}):=tM;generalize c7 (s.drop o) most d sy {S with p:=p2}=F at *
     have hlt2:¬((sy:Nat):Int)<256:=aA4;simp only[bt]at hrp;simp(disch:=omega)only[go_sem,simprocAttr,hlt2,bt];refine aR (aW s o most a2 hv2 S.out) hrp bE nofun ?_;rintro h' v ar ⟨⟨a3,hv3,out3,rfl,rfl,hF⟩,rfl⟩;refine⟨bE,rfl,?_⟩;refine vo ?_;exact hR2 (a3,hv3,out3,F) _ ⟨hmv,hg,hF⟩ (.le oo)
   ·obtain⟨a3,hv3,out3,F⟩:=y;obtain⟨g1,g2,g3⟩:=hy;simp only at g1 g2 g3 |-;by_cases hFe:F.err=0
    ·obtain⟨rfl,hr3⟩:=g3 hFe;simp(disch:=omega)only[go_sem,simprocAttr,hFe,bt];have h1:=g1.p;have h2:=g1.q hp2.2;simp only at h1;refine hJ 2 ⟨h,l,d,a3,hv3,F⟩ _ (by simp only[iU];omega) ⟨⟨hr3,hFe,g1.o hol,hh⟩,?_⟩ (.le ?_)
     ·rw[if_neg (by decide),if_neg (by decide),if_pos rfl];exact⟨ht,g2⟩
     ·simp(disch:=omega)only[go_sem,simprocAttr,ir,aW,aY,bt]
    ·rw[show dp (s.drop o) most l d F=F from qF _ hFe]at g2;unfold iO at g2;rw[if_pos hFe]at g2;have hi:¬((F.err:Nat):Int)=0:=aA4;simp(disch:=omega)only[go_sem,simprocAttr,hi,bt];exact mK hR F.err g2 hFe a3 hv3 out3 bE
 ·have hsym:aQ (s.drop o) l S=(0,{S with err:=re.2.2}):=by
   have:=og (t:=s.drop o) (l:=l) (S:=S) he (by rw[hre];exact hre2);simp only[hre]at this;exact this
  have hst:dS (s.drop o) most l d S=(true,{S with err:=re.2.2}):=by
   unfold dS;rw[hsym];exact if_pos hre2
  rw[hst,if_pos rfl]at hg;unfold iO at hg;rw[if_pos hre2]at hg;have hi:¬((re.2.2:Nat):Int)=0:=aA4;refine au hi ?_;exact mK hR re.2.2 hg hre2 a2 hv2 S.out bE
set_option maxHeartbeats 1000000 in
theorem Vr (s:Bs) (o most a hv:Nat) (S:SS) (hs:s.length<=1000000000) (ho:o<=s.length) (hm:most<=1000000) (hr:bN s a hv (8*o+S.p)) (hol:S.out.length<=most) (he:S.err=0) :
    Eng.Spec Tryz.prog 215 (aW s o most a hv S.out) [.ab fH 0] (λh' v ar=>PI s o most (fT (s.drop o) most S) h' v/\ar=[.ab fH 0]):=by
 refine Cod.Vt (λE R hN hR=>?_);generalize hG:fT (s.drop o) most S=G at *
 refine je ?_;refine ayd hN (ir s o most) (th s o most G) (iU s o) (λR1 hR1=>?_) (λl z hz=>?_)
 ·refine wW ?_;refine dM (y:=Cod.qa) hN (λ_:Unit=>⟨[(0,.ab 65032 0),(2000000,.ab 65032 0)],aW s o most a hv S.out⟩) (λ_=>True) (λR2 hR2=>?_) (λ_ _=>?_)
  ·refine wW ?_;exact hR2 () _ trivial (.le bE)
  ·exact zy s o most G ⟨0,[],[],a,hv,S⟩ hN hs ho hm hR ⟨hr,he,hol,by simp⟩ hG (λl' z' st' _ h1 h2=>hR1 l' z' st' h1 h2)
 ·obtain⟨h1,h2⟩:=hz;by_cases l0:l=0
  ·subst l0;rw[if_pos rfl]at h2;refine⟨.seq .skip (.a8 Cod.qa),rfl,λR1 hR1=>?_⟩;simp(disch:=omega)only[go_sem,simprocAttr,ir];refine eB hN ?_;exact zy s o most G z hN hs ho hm hR h1 h2 hR1
  ·rw[if_neg l0]at h2;by_cases l1:l=1
   ·subst l1;rw[if_pos rfl]at h2;refine⟨.seq .skip Cod.zx,rfl,λR1 hR1=>?_⟩;have ha:=and1 (n:=z.h) (by have:=h1.hl;omega);unfold py at h2;by_cases hx:z.h%2=1
    ·rw[if_pos hx]at h2;have hi:¬((z.h%2:Nat):Int)=0:=aA4;simp(disch:=omega)only[go_sem,simprocAttr,ir,ha,hi,aW];refine hR.le (h':=aW s o most z.a z.hv z.S.out) bE ⟨⟨z.a,z.hv,z.S.out,rfl,?_,λ_=>by rw[<-h2];exact⟨rfl,h1.r⟩⟩,rfl⟩;rw[<-h2,h1.e];rfl
    ·rw[if_neg hx]at h2;have hi:((z.h%2:Nat):Int)=0:=aA4;simp(disch:=omega)only[go_sem,simprocAttr,ir,ha,hi,aW];refine hR1 0 z _ (by simp only[iU];omega) ⟨h1,by rw[if_pos rfl];exact h2⟩ (.le ?_);simp(disch:=omega)only[go_sem,simprocAttr,ir,aW,aY]
   ·rw[if_neg l1]at h2;by_cases l2:l=2
    ·subst l2;rw[if_pos rfl]at h2;exact⟨.seq .skip Cod.ti,rfl,λR1 hR1=>Vs s o most G z hN hs ho hm hR h1 h2.1 h2.2 hR1⟩
    ·rw[if_neg l2]at h2;exact h2.elim
theorem It (s:Bs) (a:Nat) (hs:s.length<=1000000000000) (ha:a<=s.length):Eng.Spec Tryz.prog 214 [] [.str s,.int .i64 a] (λh r ar=>h=[(RD,.var (aY s a 0 a))]/\r=.ab RD 0/\ar=[.undef,.undef]):=by
 refine Cod.Iu (λE R hN hR=>?_);have e:max (0:Int) (min (a:Int) (s.length:Int))=a:=aA4;refine au e ?_;exact hR.le (by simp(disch:=omega)only[go_sem,simprocAttr,aY,numAt]) ⟨rfl,rfl,rfl⟩
set_option maxHeartbeats 1000000 in
theorem TG (s:Bs) (o most:Nat) (hs:s.length<=1000000000) (ho:o<=s.length) (hm:most<=65536) :
    aJ Tryz.prog 180 [.str s,.int .i64 o,.int .i64 most] (.ai [.str (dN (s.drop o) most).1,.int .i64 ((dN (s.drop o) most).2.1:Nat),.int .i64 ((dN (s.drop o) most).2.2:Nat)]):=by
 refine Cod.TH (λE R hN hR=>?_);have htl:(s.drop o).length=s.length-o:=aBb;have p7:=It s o aA4 ho;have hr0:bN s o 0 (8*o+0):=⟨aA4,ho,aA4⟩;have hrun:=Vr s o most o 0 ⟨0,[],0⟩ hs ho aA4 hr0 (by simp) rfl;unfold dN at hR;simp only at hR;generalize hF:fT (s.drop o) most ⟨0,[],0⟩=F at *
 refine wW ?_;refine gG ?_;refine aR [] p7 trivial (λ_=>rfl) ?_;rintro h' v as' ⟨rfl,rfl,rfl⟩;refine⟨cv,rfl,?_⟩;refine wW ?_;refine j7 ⟨[(33,.ab 65032 0),(9,.ab 65032 0)],aW s o most o 0 []⟩ (.kn 65032 1 60022 1 [.ab 40014 0,.al,.int .i64 most] rfl rfl rfl (.le ?_)) rfl ?_
 ·exact bE
 refine aR (aW s o most o 0 []) hrun bE nofun ?_;rintro h' v ar ⟨⟨a3,hv3,out3,rfl,rfl,hPI⟩,rfl⟩;refine⟨bE,rfl,?_⟩;by_cases he:F.err=0
 ·obtain⟨rfl,hr3⟩:=hPI he;rw[if_neg (by simpa using he)]at hR;have hu:=ath s a3 hv3 o (8*o+F.p) aA4 hr3 aA4;have e1:(8*o+F.p+7)/8-o=(F.p+7)/8:=aA4;rw[e1]at hu;simp only[aY]at hu;simp(disch:=omega)only[go_sem,simprocAttr,he,aW,aY];refine nf [] vV hu trivial (λ_=>rfl) ?_;rintro h' v ar ⟨rfl,rfl,rfl⟩;refine⟨rfl,rfl,?_⟩;refine wW ?_;exact hR.wk (h':=[]) (r':=.ai [.str F.out,.int .i64 ((F.p+7)/8:Nat),.int .i64 (0:Nat)]) (ar':=[.undef,.undef,.undef]) rfl (.le vV) ⟨rfl,rfl⟩
 ·rw[if_pos he]at hR;have hi:¬((F.err:Nat):Int)=0:=aA4;refine au hi ?_;exact hR.wk (h':=[]) (r':=.ai [.str [],.int .i64 (0:Nat),.int .i64 (F.err:Nat)]) (ar':=[.undef,.undef,.undef]) rfl (.le vV) ⟨rfl,rfl⟩
open Eng Sh
set_option maxRecDepth 10000
theorem AA {t:Bs} {most:Nat}:∀(k:Nat) (S:SS),Mv t most S (kz t most k S)
 | 0,_=>.refl
 | k+1,S=>by
  unfold kz;split
  ·exact lx.1
  ·exact lx.1.trans (AA k _)
theorem tg (t:Bs) (most:Nat):(dN t most).1.length<=most/\(dN t most).2.1<=t.length:=by
 unfold dN;simp only;have h:=AA (t:=t) (most:=most) (8*t.length+1-0) ⟨0,[],0⟩;have h1:(fT t most ⟨0,[],0⟩).p<=8*t.length:=h.q (by simp);have h2:(fT t most ⟨0,[],0⟩).out.length<=most:=h.o (by simp);split
 ·exact⟨by simp,by simp⟩
 ·exact⟨h2,by simp only;omega⟩
def dF (t:Bs) (most:Nat):Bs×Nat×Nat:=
 if t.length<2 then([],0,6)else if jF (t.getD 0 0).toNat (t.getD 1 0).toNat=false then([],0,3)else
 if(dN (t.drop 2) most).2.2≠0 then([],0,(dN (t.drop 2) most).2.2)else
 if t.length-(2+(dN (t.drop 2) most).2.1)<4 then([],0,6)else
 if fJ ((t.drop (2+(dN (t.drop 2) most).2.1)).take 4)≠gR (dN (t.drop 2) most).1 then([],0,5)else((dN (t.drop 2) most).1,(dN (t.drop 2) most).2.1+6,0)
theorem vA (t:Bs) (most:Nat):(dF t most).1.length<=most/\(dF t most).2.1<=t.length:=by
 have h:=tg (t.drop 2) most;rw[aBb]at h;unfold dF;split
 ·exact⟨by simp,by simp⟩
 ·split
  ·exact⟨by simp,by simp⟩
  ·split
   ·exact⟨by simp,by simp⟩
   ·split
    ·exact⟨by simp,by simp⟩
    ·split
     ·exact⟨by simp,by simp⟩
     ·exact⟨h.1,by simp only;omega⟩
abbrev zV (Z:Bs×Nat×Nat):AV:=.ai [.str Z.1,.int .i64 (Z.2.1:Nat),.int .i64 (Z.2.2:Nat)]
set_option maxHeartbeats 1000000 in
theorem aA0 (s:Bs) (o most:Nat) (hs:s.length<=1000000) (ho:o<=s.length) (hm:most<=65536):aJ Tryz.prog 132 [.str s,.int .i64 o,.int .i64 most] (zV (dF (s.drop o) most)):=by
 refine Cod.aA1 (λE R hN hR=>?_);unfold dF at hR;have hdl:(s.drop o).length=s.length-o:=aBb;rw[hdl]at hR;by_cases h2:s.length-o<2
 ·rw[if_pos h2]at hR;have hi:(s.length:Int)-(o:Int)<2:=aA4;refine au hi ?_;refine bq hi ?_;exact hR.ro ⟨rfl,rfl⟩
 ·rw[if_neg h2]at hR;have hi:¬(s.length:Int)-(o:Int)<2:=aA4;have gd:∀i,(s.drop o).getD i 0=s.getD (o+i) 0:=λi=>by rw[aA5,List.getElem?_drop,<-aA5]
  rw[gd,gd,aBO]at hR;have hh:=aAx (s.getD o 0) (s.getD (o+1) 0);by_cases hb:jF (s.getD o 0).toNat (s.getD (o+1) 0).toNat=false
  ·rw[if_pos hb]at hR;rw[hb]at hh;refine au hi ?_;refine bq hi ?_;refine aw hh rfl rfl ?_;refine wW ?_;exact hR.ro ⟨rfl,rfl⟩
  ·rw[if_neg hb]at hR;rw[show jF (s.getD o 0).toNat (s.getD (o+1) 0).toNat=true by simpa using hb]at hh;have hinf:=TG s (o+2) most aA4 aA4 hm;have hil:=tg (s.drop (o+2)) most;rw[aCn]at hR;generalize dN (s.drop (o+2)) most=I at *
   rw[aBb]at hil;refine au hi ?_;refine bq hi ?_;refine aw hh rfl rfl ?_;refine wW ?_;refine aw hinf rfl rfl ?_;by_cases he:I.2.2=0
   ·rw[if_neg (by simpa using he)]at hR;by_cases h4:s.length-o-(2+I.2.1)<4
    ·rw[if_pos h4]at hR;have hj:(s.length:Int)-((o:Int)+2+(I.2.1:Int))<4:=aA4;refine bl he hj ?_;exact hR.ro ⟨rfl,rfl⟩
    ·rw[if_neg h4]at hR;have hj:¬(s.length:Int)-((o:Int)+2+(I.2.1:Int))<4:=aA4;rw[aCn]at hR;have e1:o+(2+I.2.1)=o+2+I.2.1:=aA4;rw[e1]at hR;generalize hu:(s.drop (o+2+I.2.1)).take 4=u at *
     have hul:u.length=4:=by rw[<-hu,aBa,aBb];omega
     have hfb:=Om u aA4;have had:=EV I.1 aA4;have hal:=vG I.1
     have hbl:fJ u<4294967296:=by
      have:=r7 u 4 aA4;rw[aA7 aA4]at this;exact this
     have et:((o:Int)+2+(I.2.1:Int)).toNat=o+2+I.2.1:=aA4;have et4:((o:Int)+2+(I.2.1:Int)+4).toNat-(o+2+I.2.1)=4:=aA4;refine cW he hj et et4 hu ?_;refine aw hfb rfl rfl ?_;refine wW ?_;refine aw had rfl rfl ?_;generalize fJ u=x at *
     generalize gR I.1=y at *
     by_cases hxy:x=y
     ·rw[if_neg (by simpa using hxy)]at hR;have hi:((x:Nat):Int)=(y:Int):=aA4;refine au hi ?_;exact hR.ro ⟨rfl,rfl⟩
     ·rw[if_pos hxy]at hR;have hi:¬((x:Nat):Int)=(y:Int):=aA4;refine au hi ?_;exact hR.ro ⟨rfl,rfl⟩
   ·rw[if_pos he]at hR;have hj:¬((I.2.2:Nat):Int)=0:=aA4;refine au hj ?_;exact hR.ro ⟨rfl,rfl⟩
set_option maxHeartbeats 1000000 in
theorem ani (s:Bs) (o most:Nat) (hs:s.length<=1000000) (ho:o<=s.length) (hm:most<=65536):aJ Tryz.prog 93 [.str s,.int .i64 o,.int .i64 most] (zV (dF (s.drop o) most)):=by
 refine Cod.anj (λE R hN hR=>?_);unfold dF at hR;have hdl:(s.drop o).length=s.length-o:=aBb;rw[hdl]at hR;by_cases h2:s.length-o<2
 ·rw[if_pos h2]at hR;have hi:(s.length:Int)-(o:Int)<2:=aA4;refine au hi ?_;refine bq hi ?_;exact hR.ro ⟨rfl,rfl⟩
 ·rw[if_neg h2]at hR;have hi:¬(s.length:Int)-(o:Int)<2:=aA4;have gd:∀i,(s.drop o).getD i 0=s.getD (o+i) 0:=λi=>by rw[aA5,List.getElem?_drop,<-aA5]
  rw[gd,gd,aBO]at hR;have hx1:=(s.getD o 0).toNat_lt;have hx2:=(s.getD (o+1) 0).toNat_lt;have hh:=amS (s.getD o 0).toNat (s.getD (o+1) 0).toNat (s.getD o 0).toNat_lt (s.getD (o+1) 0).toNat_lt;by_cases hb:jF (s.getD o 0).toNat (s.getD (o+1) 0).toNat=false
  ·rw[if_pos hb]at hR;rw[hb]at hh;refine au hi ?_;refine bq hi ?_;refine aw hh rfl rfl ?_;refine wW ?_;exact hR.ro ⟨rfl,rfl⟩
  ·rw[if_neg hb]at hR;rw[show jF (s.getD o 0).toNat (s.getD (o+1) 0).toNat=true by simpa using hb]at hh;have hinf:=akW s (o+2) most aA4 (by rw[aBb];omega) aA4 hm;have hil:=tg (s.drop (o+2)) most;rw[aCn]at hR;generalize dN (s.drop (o+2)) most=I at *
   rw[aBb]at hil;refine au hi ?_;refine bq hi ?_;refine aw hh rfl rfl ?_;refine wW ?_;refine aw hinf rfl rfl ?_;by_cases he:I.2.2=0
   ·rw[if_neg (by simpa using he)]at hR;have hdr:(s.drop (o+2+I.2.1)).length=s.length-(o+2+I.2.1):=aBb;have et:((o:Int)+2+(I.2.1:Int)).toNat=o+2+I.2.1:=aA4;rw[aCn]at hR;have e1:o+(2+I.2.1)=o+2+I.2.1:=aA4;rw[e1]at hR;generalize hrr:s.drop (o+2+I.2.1)=rr at *
    by_cases h4:s.length-o-(2+I.2.1)<4
    ·rw[if_pos h4]at hR;refine ct he et hrr ?_;exact hR.ro ⟨rfl,rfl⟩
    ·rw[if_neg h4]at hR;generalize hu:rr.take 4=u at *
     have hul:u.length=4:=by rw[<-hu,aBa];omega
     have had:=aoN I.1 aA4;have hal:=vG I.1;have hbg:=aoY (gR I.1) 4 aA4 aA4;have hbf:=Hu u hul (gR I.1) hal;refine ct he et hrr ?_;refine aw had rfl rfl ?_;refine wW ?_;refine aw hbg rfl rfl ?_;generalize fJ u=x at *
     by_cases hxy:x=gR I.1
     ·rw[if_neg (by simpa using hxy)]at hR;have hi:=hbf.1 hxy;refine bl hu hi ?_;exact hR.ro ⟨rfl,rfl⟩
     ·rw[if_pos hxy]at hR;have hi:¬u=(ga (gR I.1) 4).reverse:=λh=>hxy (hbf.2 h);refine bl hu hi ?_;exact hR.ro ⟨rfl,rfl⟩
   ·rw[if_pos he]at hR;have hj:¬((I.2.2:Nat):Int)=0:=aA4;refine au hj ?_;exact hR.ro ⟨rfl,rfl⟩
end Go.Proofs.YtoalcafkffmiiaaGreatDoor.Pk
namespace Go.Proofs.YtoalcafkffmiiaaGreatDoor.Cod
open Eng Eng.Kz
set_option maxRecDepth 100000
end Go.Proofs.YtoalcafkffmiiaaGreatDoor.Cod
namespace Go.Proofs.YtoalcafkffmiiaaGreatDoor.Pk
open Eng
set_option maxRecDepth 10000
theorem l7 {e:Nat} (he:e<=6) {S:SS} (h:S.err<=6):(b6 e S).err<=6:=by
 unfold b6;split
 ·exact he
 ·exact h
theorem jE {t:Bs} {n:Nat} {S:SS} (h:S.err<=6):(aH t n S).2.err<=6:=by
 unfold aH;split
 ·exact h
 ·split
  ·exact aA9 6
  ·exact h
theorem LX (cs:List (List Bool)) (b:List Bool):(readL cs b).2.2<=6:=by
 unfold readL;split
 ·exact aBB _
 ·(repeat' split)<;>simp
theorem sG {t:Bs} {l:List Nat} {S:SS} (h:S.err<=6):(aQ t l S).2.err<=6:=by
 unfold aQ;split
 ·exact h
 ·split
  ·exact LX _ _
  ·exact h
theorem sF {most:Nat} {c:UInt8} {S:SS} (h:S.err<=6):(dh most c S).err<=6:=by
 unfold dh;split
 ·exact h
 ·split
  ·show 2<=6;decide
  ·exact h
theorem xL {t:Bs} {most:Nat}:∀{n:Nat} {S:SS},S.err<=6->(rawS t most n S).err<=6
 | 0,_,h=>h
 | n+1,S,h=>by
  unfold rawS;split
  ·exact h
  ·exact xL (sF (jE h))
theorem LZ {t:Bs} {most:Nat} {S:SS} (h:S.err<=6):(dY t most S).err<=6:=by
 have h1:(aH t 16 (aH t 16 (hI S)).2).2.err<=6:=jE (jE h);unfold dY;refine xL ?_;split
 ·exact l7 (by decide) h1
 ·exact h1
theorem sD {t:Bs} {nc:Nat}:∀{k:Nat} {l:List Nat} {S:SS},S.err<=6->(firstS t nc k l S).2.err<=6
 | 0,_,_,h=>h
 | k+1,l,S,h=>by
  unfold firstS;split
  ·exact h
  ·exact sD (jE h)
theorem L3 {t:Bs} {l:List Nat} {s:Nat} {S:SS} (h:S.err<=6):(bM t l s S).2.2.err<=6:=by
 unfold bM;split
 ·split
  ·exact l7 (by decide) h
  ·exact jE h
 ·split
  ·exact jE h
  ·split
   ·exact jE h
   ·exact h
theorem LV {N:Nat} {l:List Nat} {b:Nat×Nat×SS} (h:b.2.2.err<=6):(cc N l b).err<=6:=by
 unfold cc;split
 ·exact l7 (by decide) h
 ·exact h
theorem xK {t:Bs} {fl:List Nat} {N:Nat}:∀{k:Nat} {l:List Nat} {S:SS},S.err<=6->(cO t fl N k l S).2.err<=6
 | 0,_,_,h=>h
 | k+1,l,S,h=>by
  have h1:=LV (N:=N) (l:=l) (L3 (t:=t) (l:=l) (s:=(aQ t fl S).1) (sG (t:=t) (l:=fl) h));unfold cO;split
  ·exact h
  ·simp only;split
   ·exact h1
   ·exact xK h1
theorem xJ {t:Bs} {S:SS} (h:S.err<=6):(b9 t S).2.err<=6:=by
 unfold b9;simp only
 (repeat' split)<;>first
  | (show 6<=6;decide)
  | (show 3<=6;decide)
  | exact sD h
  | exact xK (sD h)
theorem xH {most back:Nat}:∀{n:Nat} {S:SS},S.err<=6->(backS most back n S).err<=6
 | 0,_,h=>h
 | n+1,S,h=>by
  unfold backS;split
  ·exact h
  ·exact xH (sF h)
theorem LY {t:Bs} {most:Nat} {d:List Nat} {s:Nat} {S:SS} (h:S.err<=6):(c7 t most d s S).err<=6:=by
 have h1:(aQ t d (aH t (bh (s-257)).2 S).2).2.err<=6:=sG (jE h);have h2:∀n,(aH t n (aQ t d (aH t (bh (s-257)).2 S).2).2).2.err<=6:=λn=>jE h1;unfold c7;simp only;split
 ·exact l7 (by decide) h
 ·split
  ·exact h1
  ·split
   ·exact l7 (by decide) h1
   ·split
    ·exact h2 _
    ·split
     ·exact l7 (by decide) (h2 _)
     ·exact xH (h2 _)
theorem xN {t:Bs} {most:Nat} {l d:List Nat} {S:SS} (h:S.err<=6):(dS t most l d S).2.err<=6:=by
 have h1:(aQ t l S).2.err<=6:=sG h;unfold dS;simp only;split
 ·exact h1
 ·split
  ·exact h1
  ·split
   ·exact sF h1
   ·exact LY h1
theorem sE {t:Bs} {most:Nat} {l d:List Nat}:∀{k:Nat} {S:SS},S.err<=6->(jQ t most l d k S).err<=6
 | 0,_,h=>h
 | k+1,S,h=>by
  unfold jQ;split
  ·exact h
  ·split
   ·exact xN h
   ·exact sE (xN h)
theorem xI {t:Bs} {most:Nat} {S:SS} (h:S.err<=6):(dH t most S).2.err<=6:=by
 unfold dH;split
 ·exact aA9 6
 ·simp only;split
  ·exact LZ h
  ·split
   ·exact sE h
   ·split
    ·split
     ·exact xJ h
     ·exact sE (xJ h)
    ·show 3<=6;decide
theorem xM {t:Bs} {most:Nat}:∀{k:Nat} {S:SS},S.err<=6->(kz t most k S).err<=6
 | 0,_,h=>h
 | k+1,S,h=>by
  unfold kz;split
  ·exact xI h
  ·exact xM (xI h)
theorem LU (t:Bs) (most:Nat):(dN t most).2.2<=6:=by
 have h:(fT t most ⟨0,[],0⟩).err<=6:=xM (aBB _);unfold dN;simp only;split
 ·exact h
 ·exact aBB _
theorem L4 (t:Bs) (most:Nat):(dF t most).2.2<=6:=by
 have h:=LU (t.drop 2) most;unfold dF
 (repeat' split)<;>first | exact h | simp
end Go.Proofs.YtoalcafkffmiiaaGreatDoor.Pk
