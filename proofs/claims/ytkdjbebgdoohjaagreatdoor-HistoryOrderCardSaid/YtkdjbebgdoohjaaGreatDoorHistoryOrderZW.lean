/- The proof, part 49 of 50. -/
import Derived.Test.YtkdjbebgdoohjaaGreatDoorHistoryOrderZU
import Derived.Test.YtkdjbebgdoohjaaGreatDoorHistoryOrderZV
set_option linter.all false
namespace Go.Proofs.YtkdjbebgdoohjaaGreatDoor.Ls
open Eng Ob
set_option maxRecDepth 10000
def retM (x:AV) (o:Option AV) (y:AV) (R:HP->AV->List AV->Prop) (h:HP) (vs:List AV):Prop:=
 match o with
 | some c=>R h (.ab [x,c,y]) vs
 | none=>False
theorem lv {x c y:AV} {R:HP->AV->List AV->Prop} {h:HP} {vs:List AV}:retM x (some c) y R h vs=R h (.ab [x,c,y]) vs:=(rfl)
theorem lf {m n t u v:Nat} {ag:Bool} {R:HP->AV->List AV->Prop} {st:St} (ht:t<2000000) (hv:v<2000000):(KQ.post [.tmp t,.cell u ag n,.tmp v] m R).ap .ret st=retM (ev st (.t t)) (resC st ag n (sget st.s u)) (ev st (.t v)) R st.h (argsAgain st 0 m):=by
 simp only[KQ.post,postQ,resOf,resAV];cases resC st ag n (sget st.s u)<;>simp[consO,retM,trE,ht,hv]
theorem C9:∀{L L':List Fi},L'.Perm L->dE L->dE L'->dX L->L'=L
 | [],L',h,_,_,_=>h.eq_nil
 | x::r,[],h,_,_,_=>absurd h.length_eq (by simp)
 | x::r,y::t,h,h1,h2,h3=>by
  have e1:=Z2.1 h1;have e2:=Z2.1 h2;have e3:=Z2.1 h3
  have hxy:y=x:=by
   rcases ZW.1 (h.mem_iff.1 (Z1 ..):y∈x::r)with e | hy;exact e
   ·rcases ZW.1 (h.mem_iff.2 (Z1 ..):x∈y::t)with e | hx;exact e.symm
    ·have a1:=e3.1 y hy;have a2:=e2.1 x hx;unfold bM at a1 a2;have:=fi x.1 y.1;omega
  subst hxy;rw[C9 ((List.perm_cons y).1 h) e1.2 e2.2 e3.2]
theorem CE {G L L':List Fi} (hL':L'.Perm G) (hok':jY L') (hL:L.Perm G) (hs:dE L):L'=L:=
 (C9 (hL.trans hL'.symm) (hok'.2.1.imp (λh=>by omega)) hs hok'.2.1).symm
structure ud (G:List Fi):Prop where
 n:G.length<=40
 ok:∀f∈G,f.1.length<=140737488351232/\f.2.length<=3000
def ua (G:List Fi):Prop:=∀L:List Fi,L.Perm G->jY L->∃e,gj L=.error e
theorem AH {fs:List Fi} (hb:qy fs):ud (iE fs 40):=⟨Wc fs 40,λf hf=>by
 obtain⟨h1,g,hg,h2⟩:=Wd hf
 exact⟨by rw[h2];exact(hb.2 g hg).1,h1⟩⟩
theorem CD {G L:List Fi} (hG:ud G) (hL:L.Perm G) (hok:jY L):(∀f∈L,f.1.length<=200)/\(∀f∈L,f.2.length<=100000)/\L.length<=40:=by
 refine⟨λf hf=>?_,λf hf=>?_,by rw[hL.length_eq];exact hG.n⟩
 ·have:=hok.1 f hf;unfold gQ at this;simp only[ZS,decide_eq_true_eq]at this;exact this.1.1
 ·have:=(hG.ok f (hL.mem_iff.1 hf)).2;omega
theorem Sk {G L:List Fi} {ps:List ba} (hG:ud G) (hL:L.Perm G) (hs:dE L) (hok:jY L) (h:gj L=.ok ps):oe L ps:=by
 obtain⟨h1,h2,h3⟩:=CD hG hL hok;obtain⟨ja,aY⟩:=CO h;exact⟨hs,ZG,λf hf=>by have:=h2 f hf;omega,Sl h2 h,ZG,ja⟩
theorem H6 (fs:List Fi) (hb:qy fs):Eng.Spec Tryz.prog 4 [] [.ro 2 (aQ fs)] (λh r _=>h=[] /\
    ((∃L n ps W,oe L ps/\r=.ab [eW L n ps,.agg [.ro 2 (aQ (iE fs 40)),.ro 2 (eY W)],.bool true])\/(ua (iE fs 40)/\r=.ab [.lit (.pointer none),.agg [.aj,.aj],.bool false]))):=by
 refine Cod.H4 (λE R hN hR=>?_);have hsh:=D4 fs 40 (by have:=hb.1;omega) (by decide) (λf hf=>(hb.2 f hf).2);rw[show((40:Nat):Int)=40 from rfl]at hsh;have hG:=AH hb;generalize iE fs 40=G at *
 have hG1:=hG.n;have hr:=Uc G ZG (λf hf=>(hG.ok f hf).1) (λf hf=>by have:=(hG.ok f hf).2;omega);refine wW ?_;refine aW [] hsh trivial (λ_=>rfl) ?_;rintro h' v ar ⟨rfl,rfl,rfl⟩;refine bU @lW @bD @rv ?_;refine lS ⟨[(0,.ro 2 (aQ G)),(3,.aa 297003 0),(14,.ro 2 (aQ G))],[(297003,.var [.aj,.aj])]⟩ (.bo 216012 (.le (cU @AG))) rfl ?_;refine dR (xO G ZG (λf hf=>(hG.ok f hf).1) (λf hf=>aar (hG.ok f hf).2 (by decide))) rfl ?_;rintro h' v ar ⟨rfl,L,hL,hs,hcase⟩;rcases hcase with⟨hok,n,rfl⟩ | ⟨hno,rfl⟩;rotate_left
 ·refine⟨rfl,rfl,?_⟩;have bad:ua G:=λL' hL' hok'=>absurd hok' (by rw[CE hL' hok' hL hs];exact hno)
  obtain⟨w,hw⟩:∃w:AV×Int,openA (gj (gi G))=.ab [w.1,.int .i64 w.2]/\(w.1=.aj\/∃ps,w.1=.ro 2 (eY ps)):=by
   cases gj (gi G)with
   | error e=>exact⟨(.aj,e),rfl,.inl rfl⟩
   | ok ps=>exact⟨(.ro 2 (eY ps),0),rfl,.inr ⟨ps,rfl⟩⟩
  obtain⟨a,e⟩:=w;rw[hw.1]at hr;simp only at hr hw;rcases hw.2 with rfl | ⟨ps,rfl⟩
  ·refine wW ?_;refine an hr rfl rfl ?_;refine aE @lf @lv ?_;refine ee @lf @lv ?_;exact hR.wk (h':=[]) (r':=.ab [.lit (.pointer none),.agg [.aj,.aj],.bool false]) (ar':=[.undef]) rfl (.le vV) ⟨rfl,.inr ⟨bad,rfl⟩⟩
  ·refine wW ?_;refine an hr rfl rfl ?_;refine aE @lf @lv ?_;refine ee @lf @lv ?_;exact hR.wk (h':=[]) (r':=.ab [.lit (.pointer none),.agg [.aj,.aj],.bool false]) (ar':=[.undef]) rfl (.le vV) ⟨rfl,.inr ⟨bad,rfl⟩⟩
 refine⟨rfl,rfl,?_⟩;obtain⟨b1,b2,b3⟩:=CD hG hL hok;have hr:=Dj hok.2.1 hL ZG (λf hf=>(hG.ok f hf).1) (λf hf=>by have:=(hG.ok f hf).2;omega);have ho:=CQ L n hs ZG b1 b2
 cases hop:gj L with
 | error e=>
  have he:=CN hop;rw[hop]at hr;refine wW ?_;refine an hr rfl rfl ?_;simp(disch:=omega)only[go_sem,simprocAttr,openA,he,lf,lv];refine iY he @lf @lv ?_
  exact hR.wk (h':=[]) (r':=.ab [.lit (.pointer none),.agg [.aj,.aj],.bool false]) (ar':=[.undef]) rfl (.le vV) ⟨rfl,.inr ⟨λL' hL' hok'=>⟨e,by rw[CE hL' hok' hL hs];exact hop⟩,rfl⟩⟩
 | ok ps=>
  rw[hop]at hr ho;refine wW ?_;refine an hr rfl rfl ?_;simp(disch:=omega)only[go_sem,simprocAttr,openA];refine gG ?_;refine an ho rfl rfl ?_;simp(disch:=omega)only[go_sem,simprocAttr,sD,lf,lv];refine ee @lf @lv ?_;exact hR.wk (h':=[]) (r':=.ab [eW L n ps,.agg [.ro 2 (aQ G),.ro 2 (eY ps)],.bool true]) (ar':=[.undef]) rfl (.le vV) ⟨rfl,.inl ⟨L,n,ps,ps,Sk hG hL hs hok hop,rfl⟩⟩
theorem Y7 (fs:List Fi) (hb:qy fs) (hbad:ua (iE fs 40)):aw Tryz.prog 6 [.ro 2 (aQ fs)] (.bool true):=by
 refine Cod.Y6 (λE R hN hR=>?_);have hsh:=D4 fs 40 (by have:=hb.1;omega) (by decide) (λf hf=>(hb.2 f hf).2);rw[show((40:Nat):Int)=40 from rfl]at hsh;have hG:=AH hb;generalize iE fs 40=G at *
 have hG1:=hG.n;have fin:∀{h},R h (.bool true) [.undef]:=hR.ro ⟨rfl,rfl⟩;refine wW ?_;refine aW [] hsh trivial (λ_=>rfl) ?_;rintro h' v ar ⟨rfl,rfl,rfl⟩;refine bU @lW @bD @rv ?_;refine lS ⟨[(0,.ro 2 (aQ G)),(10,.ro 2 (aQ G))],[]⟩ (.bo 216012 (.le (cU @AG))) rfl ?_;refine dR (xO G ZG (λf hf=>(hG.ok f hf).1) (λf hf=>aar (hG.ok f hf).2 (by decide))) rfl ?_;rintro h' v ar ⟨rfl,L,hL,hs,hcase⟩;rcases hcase with⟨hok,n,rfl⟩ | ⟨hno,rfl⟩;rotate_left
 ·refine⟨rfl,rfl,?_⟩;refine wW ?_;refine gG ?_;exact fin
 refine⟨rfl,rfl,?_⟩;have hr:=Dj hok.2.1 hL ZG (λf hf=>(hG.ok f hf).1) (λf hf=>by have:=(hG.ok f hf).2;omega);obtain⟨e,hop⟩:=hbad L hL hok;have he:=CN hop;rw[hop]at hr;refine wW ?_;refine gG ?_;refine an hr rfl rfl ?_;simp(disch:=omega)only[go_sem,simprocAttr,openA,he];exact fin
theorem MR (L:List Fi) (n:Nat) (ps:List ba) (id:Bs):aw Tryz.prog 14 [eW L n ps,.str id,.str []] (.ab [.agg [.int .i64 16384,.str [],.str id],.int .i64 0]):=by
 refine Cod.MS (λE R hN hrd hR=>?_);refine wW ?_;exact hR.wk (h':=[]) (r':=.ab [.agg [.int .i64 16384,.str [],.str id],.int .i64 0]) (ar':=[.undef,.undef,.undef]) rfl (.le vV) ⟨rfl,rfl⟩
def jw:Bs:=[52,98,56,50,53,100,99,54,52,50,99,98,54,101,98,57,97,48,54,48,101,53,52,98,102,56,100,54,57,50,56,56,102,98,101,101,52,57,48,52]
theorem FY:ancP (fk [] []) 9 (9+1) 0 [jw]=.error 7:=by
 have hid:cf jw=true:=by decide +kernel
 have hg:fI [] [] jw=(0,[],7):=by
  have hl:kl jw []=(0,[],7):=by unfold kl;rw[if_pos hid];rfl
  unfold fI;rw[hl];rfl
 have hc:fk [] [] jw=(7,[]):=by unfold fk iy;rw[hg];rfl
 unfold ancP
 show(if 0<1 then if(9:Int)<=0 then _ else if(fk [] [] jw).1≠0 then Except.error (fk [] [] jw).1 else _ else _)=_
 rw[hc];rfl
theorem uA:aw Tryz.prog 5 [] (.bool true):=by
 refine Cod.GO (λE R hN hR=>?_);have hn2:Eng.Spec Tryz.prog 11 [] [.aj] (CC []):=Ec (.cons (.one (.nil 2)) .nil) (xO [] (by decide) (λf hf=>by simp at hf) (λf hf=>by simp at hf));refine wW ?_;refine dR hn2 rfl ?_;rintro h' v ar ⟨rfl,L,hL,hs2,hcase⟩;obtain rfl:L=[]:=hL.eq_nil;rcases hcase with⟨_,m,rfl⟩ | ⟨hno,_⟩;rotate_left;exact absurd RF hno;refine⟨rfl,rfl,?_⟩;have ho2:=CQ [] m hs2 (by decide) (λf hf=>by simp at hf) (λf hf=>by simp at hf);rw[SE]at ho2;have hat:=MR [] m [] jw;have hn:=vN [] m [] jw 9 ⟨hs2,by decide,λf hf=>by simp at hf,λk hk=>by simp at hk,by decide,λk hk=>by simp at hk⟩ (by decide) (by decide);rw[show((9:Nat):Int)=9 from rfl,FY]at hn;unfold jw at hat hn;refine wW ?_;refine gG ?_;refine an ho2 rfl rfl ?_;simp(disch:=omega)only[go_sem,simprocAttr,sD];refine gG ?_;refine an hat rfl rfl ?_;refine wW ?_;refine an hn rfl rfl ?_;simp(disch:=omega)only[go_sem,simprocAttr,ancA];refine gG ?_;exact hR.wk (h':=[]) (r':=.bool true) (ar':=[]) rfl (.le vV) ⟨rfl,rfl⟩
open Eng Ob
set_option maxRecDepth 10000
theorem RY {l:List Bs} (h:l.Nodup) {k i:Nat} (hk:k<i) (hi:i<l.length):¬l.getD i []=(l.take i).getD k []:=by
 rw[ZH,List.getElem?_eq_getElem hi,ZH,List.getElem?_take_of_lt hk,List.getElem?_eq_getElem ZG];exact λe=>absurd ((List.getElem_inj h).1 e) ZG
set_option maxHeartbeats 4000000 in
theorem Ni (fs:List Fi) (id:Bs) (hb:qy fs) (hi:id.length<=140737488351232):aw Tryz.prog 3 [.ro 2 (aQ fs),.str id] (.bool true):=by
 refine Cod.Nl (λE R hN hR=>?_);have fin:∀{h},R h (.bool true) [.undef,.undef]:=hR.ro ⟨rfl,rfl⟩;refine wW ?_;refine dR (H6 fs hb) rfl ?_;rintro h' v ar ⟨rfl,hcase⟩;rcases hcase with⟨L,n,ps,W,hod,rfl⟩ | ⟨hbad,rfl⟩;rotate_left
 ·refine⟨rfl,rfl,?_⟩;have hw:=Y7 fs hb hbad;refine wW ?_;refine an uA rfl rfl ?_;refine wW ?_;refine gG ?_;refine fH (eS vV hw vV rfl rfl ?_);refine wW ?_;exact fin
 refine⟨rfl,rfl,?_⟩;have ha:=vN L n ps id 60 hod hi (by decide);have hbf:=λold=>MT L n ps old id 60 hod hi (by decide);rw[show((60:Nat):Int)=60 from rfl]at ha hbf;have h1:=λr h=>yH (cm:=fk L ps) (most:=60) (id:=id) (r:=r) h;rw[show((60:Nat):Int)=60 from rfl]at h1;generalize hA:ancP (fk L ps) 60 (60+1) 0 [id]=a at *
 cases a with
 | error e=>
  have he:e≠0:=yG hA;unfold ancA at ha;refine wW ?_;refine an ha rfl rfl ?_;refine ah he ?_;refine an uA rfl rfl ?_;refine wW ?_;refine gG ?_
  exact fin
 | ok l=>
  obtain⟨⟨t,hlt⟩,hnd,hll,hpar⟩:=h1 l rfl;have hl0:l.getD 0 []=id:=by rw[hlt];rfl
  have hl1:0<l.length:=by rw[hlt];simp
  have hl1':¬(l.length:Int)=0:=ZG;have hxl:∀x∈l,x.length<=140737488351232:=yE (λx p hp=>by have:=I8 hp;omega) hA (λx hx=>by rw[Z9.1 hx];exact hi);unfold ancA at ha;refine wW ?_;refine an ha rfl rfl ?_;refine cq @bz hl1' @fv hl0 ?_;refine iY @bz @fv hl0 ?_;refine aP hN (λi:Nat=>⟨[(1,.str id),(5,eW L n ps),(8,.ro 1 (aL l)),(57,.ro 1 (aL l)),(58,.int .i64 l.length),(59,.int .i64 i)],[]⟩) (λi=>i<=l.length) (λi=>l.length-i) 0 (.le vV) (Z7 _) ?_;rintro i R1 hi1 hR1;by_cases hlt2:i<l.length;rotate_left
  ·obtain rfl:i=l.length:=ZG;refine ah @bz ?_;refine an uA rfl rfl ?_;refine wW ?_;exact fin
  have htk:(l.take i).length=i:=by rw[ZL];omega
  have hsub:az (aL l) 0 i=aL (l.take i):=by unfold az aL;rw[aae,List.map_take]
  refine aE @bz @fv ?_;refine aP hN (λk:Nat=>⟨[(1,.str id),(5,eW L n ps),(8,.ro 1 (aL l)),(11,.str (l.getD i [])),(57,.ro 1 (aL l)),(58,.int .i64 l.length),(59,.int .i64 i),(66,.ro 1 (aL (l.take i))),(67,.int .i64 i),(68,.int .i64 k)],[]⟩) (λk=>k<=i) (λk=>i-k) 0 (.le (tR hsub @bz htk)) (Z7 _) ?_;rintro k R2 hk hR2;by_cases hki:k<i
  ·have hne:¬l.getD i []=(l.take i).getD k []:=RY hnd hki hlt2;refine cq @bz htk @fv hne ?_;exact hR2 (k+1) _ ZG ZG (.le vV)
  obtain rfl:k=i:=ZG;have hx:=eK (l:=l) (k:=k) [] hlt2;have hc:=Bl L n ps (l.getD k []) hod (hxl _ hx);obtain⟨hp0,hpm⟩:=hpar k hlt2;generalize fk L ps (l.getD k [])=c at *
  obtain⟨ce,cp⟩:=c;simp only at hp0 hpm;subst hp0;refine ah htk ?_;refine dR hc rfl ?_;rintro h' v as' ⟨rfl,hv⟩;unfold uS at hv;rcases hv with⟨_,g1,g2,c,g3,rfl⟩ | ⟨g0,_⟩;rotate_left;exact absurd rfl g0;simp only at g1 g2 g3;refine⟨rfl,rfl,?_⟩;have hcp:c.parents.map AV.str=aL cp:=by rw[g3];rfl
  simp(disch:=omega)only[go_sem,simprocAttr,Cm.fj,hcp,bz];refine aP hN (λq:Nat=>⟨[(1,.str id),(5,eW L n ps),(8,.ro 1 (aL l)),(57,.ro 1 (aL l)),(58,.int .i64 l.length),(59,.int .i64 k),(85,.ro 1 (aL cp)),(86,.int .i64 cp.length),(87,.int .i64 q)],[]⟩) (λq=>q<=cp.length) (λq=>cp.length-q) 0 (.le vV) (Z7 _) ?_;rintro q R3 hq hR3;by_cases hqc:q<cp.length
  ·have hin:=hpm _ (eK [] hqc);have hb2:=hbf (cp.getD q [])
   rw[show yZ (cp.getD q []) (.ok l)=.ab [.bool true,.int .i64 0]by
    show AV.ab [.bool (decide (cp.getD q []∈l)),.int .i64 0]=_
    rw[decide_eq_true hin]]at hb2
   refine aE @bz @fv ?_;refine an hb2 rfl rfl ?_;refine wW ?_;refine gG ?_;exact hR3 (q+1) _ ZG ZG (.le vV)
  ·obtain rfl:q=cp.length:=ZG;refine wW ?_;exact hR1 (k+1) _ ZG ZG (.le vV)
end Go.Proofs.YtkdjbebgdoohjaaGreatDoor.Ls
