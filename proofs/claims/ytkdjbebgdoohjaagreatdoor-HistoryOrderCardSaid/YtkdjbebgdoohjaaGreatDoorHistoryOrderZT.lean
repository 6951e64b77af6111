/- The proof, part 46 of 50. -/
import Derived.Test.YtkdjbebgdoohjaaGreatDoorHistoryOrderZQ
import Derived.Test.YtkdjbebgdoohjaaGreatDoorHistoryOrderZR
import Derived.Test.YtkdjbebgdoohjaaGreatDoorHistoryOrderZS
set_option linter.all false
namespace Go.Proofs.YtkdjbebgdoohjaaGreatDoor.Ls
open Eng Pk Ob
set_option maxRecDepth 10000
def gh (k:ba) (x:En):En×Nat:=if x.kind=6 then Pk.readP k.1 (x.base:Nat)else ik k x.id
def chainR (k:ba):Nat->En×Nat->List Bs->(En×Nat)×List Bs
 | 0,x,l=>if x.2=0/\6<=x.1.kind then((dp,9),l)else(x,l)
 | m+1,x,l=>if x.2=0/\6<=x.1.kind then chainR k m (gh k x.1) (l++[x.1.data])else(x,l)
def foldA:Bs->List Bs->Bs×Nat
 | b,[]=>(b,0)
 | b,d::r=>if(Dl.j7 b d 65000).2≠0 then([],(Dl.j7 b d 65000).2)else foldA (Dl.j7 b d 65000).1 r
def pP (id:Bs) (C:(En×Nat)×List Bs):Int×Bs×Int:=
 if C.1.2≠0 then(0,[],(C.1.2:Nat))
 else kr id ((C.1.1.kind:Nat),(foldA C.1.1.data C.2.reverse).1,((foldA C.1.1.data C.2.reverse).2:Nat))
def nJ (k:ba) (id:Bs):Int×Bs×Int:=pP id (chainR k 12 (ik k id) [])
theorem RH (k:ba) (x:En) (hk:jZ k) (hx:x.base<=1099511627776):(gh k x).1.data.length<=65000/\(gh k x).1.base<=1099511627776:=by
 unfold gh;split
 ·have:=Dr k.1 (x.base:Nat);exact⟨Dt _ _,ZG⟩
 exact Av k _ hk
theorem Sr (k:Int) (t:Bs) (ht:t.length<=100000):aw Tryz.prog 101 [.agg [.int .i64 k,.str t]] (.ab [.str (kY k t),.int .i64 (b7 k t)]):=by
 have h4:=BC k t ZG;unfold kY;unfold rT at h4;by_cases hc:b7 k t=0
 ·rw[if_pos hc]at h4 |-;rw[hc];exact h4
 ·rw[if_neg hc]at h4 |-;exact h4
theorem UQ {l:List Bs} {k:Nat} (hk:k<l.length):l.reverse.drop k=l.getD (l.length-1-k) []::l.reverse.drop (k+1):=by
 rw[aak (by rw[abx];exact hk),List.getElem_reverse,ZH,List.getElem?_eq_getElem ZG];rfl
theorem yM (b d:Bs) (size:Nat):∀(m p:Nat) (out:Bs),out.length<=size->(Dl.applyR b d size m p out).1.length<=size
 | 0,_,_,_=>Z7 _
 | m+1,p,out,h=>by
  unfold Dl.applyR;split
  ·split;exact Z7 _;exact h
  ·split;exact Z7 _
   ·split;exact Z7 _;exact yM b d size m _ _ (by rw[ZJ];omega)
theorem Gr (b d:Bs):(Dl.j7 b d 65000).1.length<=65000:=by
 unfold Dl.j7;split;exact Z7 _
 ·split;exact Z7 _
  ·split;exact Z7 _
   ·have:=yM b d (Dl.fa d).2.1 (d.length+1) (Dl.fa d).2.2.1 [] (Z7 _);omega
set_option maxHeartbeats 4000000 in
theorem SB (k:ba) (id:Bs) (hk:jZ k):aw Tryz.prog 66 [.agg [.str k.1,ek k.2.1 k.2.2],.str id] (ij (nJ k id)):=by
 refine Cod.SC (λE R hN hrd hR=>?_);have he0:=CP k id hk;have hg0:=Av k id hk;unfold nJ at hR;obtain⟨RES,hRES⟩:∃X,X=chainR k 12 (ik k id) []:=⟨_,rfl⟩;rw[<-hRES]at hR;generalize ik k id=x0 at *
 obtain⟨x0,e0⟩:=x0;simp only[np]at he0;simp only at hg0;have hR:cF (λh r _=>h=[]/\r=ij (pP id RES)) R:=hR;refine wW ?_;refine an he0 rfl rfl ?_;refine wW ?_
 refine aP hN (λq:Nat×(En×Nat)×List Bs=>⟨[(1,.str id),(2,.aa 263002 0),(4,.aa 263004 0),(5,.aa 263005 0),(6,.aa 263006 0),(7,.aa 263007 0),(8,.sl 263035 0 q.2.2.length)],
     [(263002,.var [.str k.1,ek k.2.1 k.2.2]),(263004,.var [.int .i64 0,.str []]),(263005,.var [.int .i64 0]),(263006,.var [.int .i64 q.2.1.1.at_,.int .i64 q.2.1.1.next,.int .i64 q.2.1.1.kind,.str q.2.1.1.data,.int .i64 q.2.1.1.base,.str q.2.1.1.id,.int .u32 q.2.1.1.mV.toNat]),(263007,.var [.int .i64 (q.2.1.2:Nat)]),(263035,.arr 1 (aL q.2.2))]⟩)
  (λq=>chainR k q.1 q.2.1 q.2.2=RES/\q.2.2.length+q.1=12/\(q.2.1.1.data.length<=65000/\q.2.1.1.base<=1099511627776)/\∀d∈q.2.2,d.length<=65000) (λq=>q.1) (12,(x0,e0),[]) (.nil 8 263035 1 rfl (.le (cU @tC))) ⟨hRES.symm,rfl,hg0,λd hd=>by cases hd⟩ ?_
 clear hRES he0 hg0;rintro⟨m,⟨x,e⟩,l⟩ R1 ⟨hch,hlm,hxg,hlg⟩ hR1;simp only at hch hlm hxg hlg;by_cases hc:e=0/\6<=x.kind
 ·obtain⟨rfl,hkd⟩:=hc;have i1:(6:Int)<=(x.kind:Int):=ZG
  cases m with
  | zero=>
   unfold chainR at hch;rw[if_pos ⟨rfl,hkd⟩]at hch;subst hch;have hl:l.length=12:=ZG;refine ah hl ?_;refine ee i1 hl ?_
   exact hR.ro ⟨rfl,rfl⟩
  | succ m=>
   unfold chainR at hch;rw[if_pos ⟨rfl,hkd⟩]at hch;have hl:¬(l.length:Int)=12:=ZG;have hng:=RH k x hk hxg.2
   have hs1:az (aL l) 0 l.length=aL l:=by
    unfold az;rw[aae,ZK (by rw[bz];omega)]
   have next:∀st',Wk st' ⟨[(1,.str id),(2,.aa 263002 0),(4,.aa 263004 0),(5,.aa 263005 0),(6,.aa 263006 0),(7,.aa 263007 0),(8,.sl 263035 0 (l.length+1))],
       [(263002,.var [.str k.1,ek k.2.1 k.2.2]),(263004,.var [.int .i64 0,.str []]),(263005,.var [.int .i64 0]),(263006,.var [.int .i64 (gh k x).1.at_,.int .i64 (gh k x).1.next,.int .i64 (gh k x).1.kind,.str (gh k x).1.data,.int .i64 (gh k x).1.base,.str (gh k x).1.id,.int .u32 (gh k x).1.mV.toNat]),(263007,.var [.int .i64 ((gh k x).2:Nat)]),(263035,.arr 1 (aL (l++[x.data])))]⟩->R1.ap st':=λst' hw=>
    hR1 (m,gh k x,l++[x.data]) _ (by simp only;omega) ⟨hch,by rw[ZJ,ZQ];omega,hng,λd hd=>by
     rcases aax.1 hd with h | h;exact hlg d h
     ·rw[Z9]at h;rw[h];exact hxg.1⟩ (by rw[ZJ,ZQ];exact hw)
   refine bU hl @bz hs1 ?_;refine kX i1 hl @bz hs1 ?_;refine⟨⟨gL,ZG⟩,?_⟩;rw[jT];have hdl:=hk.dl;by_cases h6:x.kind=6
   ·have hne:gh k x=Pk.readP k.1 (x.base:Nat):=if_pos h6;have hrd:=Df k.1 (x.base:Nat) ZG ⟨ZG,ZG⟩;rw[hne]at next
    generalize Pk.readP k.1 (x.base:Nat)=y at *
    simp only[np]at hrd;have j6:(x.kind:Int)=6:=ZG;refine ah j6 ?_;refine an hrd rfl rfl ?_;refine wW ?_;exact next _ (.le vV)
   ·have hne:gh k x=ik k x.id:=if_neg h6;have hen:=CP k x.id hk;rw[hne]at next
    generalize ik k x.id=y at *
    simp only[np]at hen;have j6:¬(x.kind:Int)=6:=ZG;refine ah j6 ?_;refine an hen rfl rfl ?_;refine wW ?_;exact next _ (.le vV)
 ·by_cases he:e=0;rotate_left
  ·have i1:¬(e:Int)=0:=ZG
   have hch':chainR k m (x,e) l=((x,e),l):=by
    cases m<;>exact if_neg (λh=>he h.1)
   rw[hch']at hch;subst hch;have hres:pP id ((x,e),l)=(0,[],((e:Nat):Int)):=if_pos he;rw[hres]at hR;refine ah i1 ?_;refine bI i1 ?_;refine⟨?_,?_⟩<;>exact hR.ro ⟨rfl,rfl⟩
  ·subst he;have hkd:¬6<=x.kind:=λh=>hc ⟨rfl,h⟩;have i1:¬(6:Int)<=(x.kind:Int):=ZG
   have hch':chainR k m (x,0) l=((x,0),l):=by
    cases m<;>exact if_neg hc
   rw[hch']at hch;subst hch;have hlr:l.length<=12:=ZG
   have hls:az (aL l) 0 l.length=aL l:=by
    unfold az;rw[aae,ZK (by rw[bz];omega)]
   have hres:pP id ((x,0),l)=kr id ((x.kind:Nat),(foldA x.data l.reverse).1,((foldA x.data l.reverse).2:Nat)):=if_neg (by simp);rw[hres]at hR;generalize hF:foldA x.data l.reverse=F at *
   refine ah i1 ?_;refine bI i1 ?_
   refine Hk hN hrd He (by decide) (xs:=l) ZG [(1,.str id),(4,.aa 263004 0),(5,.aa 263005 0),(7,.aa 263007 0),(9,.aa 263009 0),(63,.ro 1 (aL l))]
    (λy:Bs=>[(263004,.var [.int .i64 0,.str []]),(263005,.var [.int .i64 0]),(263007,.var [.int .i64 0]),(263009,.var [.int .i64 x.kind,.str y])])
    (λj y=>y.length<=65000/\foldA y (l.reverse.drop j)=F) x.data (.bo 263035 (.le (tR @bz hls @gL))) ⟨hxg.1,hF⟩ rfl rfl rfl (by decide) (by decide) rfl ?_ ?_
   ·rintro E2 j y R2 hN2 ⟨hyl,hinv⟩ hj hn hr hx;rw[UQ hj]at hinv;have hdl:=hlg _ (eK [] (show l.length-1-j<l.length by omega));generalize l.getD (l.length-1-j) []=d at *
    have hap:=Dl.JM y d 65000 ZG ZG (by decide);have hal:=Gr y d;unfold foldA at hinv;generalize Dl.j7 y d 65000=A at *
    refine wW ?_;refine an hap rfl rfl ?_;by_cases hA:A.2=0
    ·rw[if_neg (λh=>h hA)]at hinv;have j0:(A.2:Int)=0:=ZG;refine ah j0 ?_;exact hn A.1 _ ⟨hal,hinv⟩ (.le vV)
    ·rw[if_pos hA]at hinv;subst hinv;have j0:¬(A.2:Int)=0:=ZG;unfold kr at hR;rw[if_pos (by simp only;omega)]at hR;refine ah j0 ?_;refine⟨?_,?_⟩
     all_goals (refine hr _ [(263004,.var [.int .i64 0,.str []]),(263005,.var [.int .i64 (A.2:Nat)])] (.le vV) ?_)
     all_goals simp(disch:=omega)only[go_sem,simprocAttr]
     all_goals exact hR.ro ⟨rfl,rfl⟩
   ·rintro y ⟨hyl,hinv⟩;rw[acb (by rw[abx];omega)]at hinv;unfold foldA at hinv;subst hinv;have hid:=Sr (x.kind:Nat) y ZG;unfold kr at hR;rw[if_neg (by simp)]at hR;simp only at hR;generalize kY (x.kind:Nat) y=is at *
    refine wW ?_;refine an hid rfl rfl ?_;by_cases hx:is=id
    ·rw[if_pos hx]at hR;refine ah hx ?_;exact hR.ro ⟨rfl,rfl⟩
    ·rw[if_neg hx]at hR;refine ah hx ?_;exact hR.ro ⟨rfl,rfl⟩
open Eng Pk Ob
set_option maxRecDepth 10000
theorem Te {s:Bs} {x:List Rw×Bs} (h:cL s=.ok x):∀r∈x.1,r.2.1<=1099511627776:=by
 unfold cL at h;simp only at h;split at h
 ·cases h
 split at h
 ·cases h
 split at h
 ·cases h
 split at h
 ·cases h
 split at h
 ·cases h
 split at h
 ·cases h
 split at h
 ·cases h
 rename_i l hl;split at h
 ·cases h
 cases h;have hll:=nQ hl;intro r hr;obtain⟨j,hj,rfl⟩:=aa7.1 hr;obtain⟨_,_,e1⟩:=ta (pZ hl j (by simp only at hj;omega));simp only at hj e1;rw[ZH,List.getElem?_eq_getElem hj]at e1;exact e1
theorem C1 {L:List Fi} {U:List Bs} (hd:∀f∈L,f.2.length<=100000):∀{k:Nat} {ps:List ba},packsP L U k=.ok ps->∀p∈ps,p.1.length<=100000/\∀r∈p.2.2.1,r.2.1<=1099511627776
 | 0,ps,h=>by
  unfold packsP at h;cases h
  intro p hp;simp at hp
 | k+1,ps,h=>by
  unfold packsP at h
  cases h1:packsP L U k with
  | error e=>rw[h1]at h;cases h
  | ok l'=>
   have ih:=C1 hd h1;rw[h1]at h
   cases h2:stepP L (U.getD k [])with
   | error e=>rw[h2]at h;cases h
   | ok r=>
    rw[h2]at h
    cases r with
    | none=>cases h;exact ih
    | some r=>
     cases h;intro p hp;rcases aax.1 hp with hp | hp;exact ih p hp
     ·rw[Z9]at hp;subst hp;unfold stepP at h2;split at h2
      ·cases h2
      ·split at h2
       ·cases h2
       ·rename_i x hx;split at h2
        ·cases h2
        ·rename_i d hg;split at h2
         ·cases h2
         ·split at h2
          ·cases h2
          ·split at h2
           ·cases h2
           ·cases h2;exact⟨pd hd hg,Te hx⟩
theorem Sl {L:List Fi} {ps:List ba} (hd:∀f∈L,f.2.length<=100000) (h:gj L=.ok ps):∀k∈ps,jZ k:=λk hk=>by
 obtain⟨h1,h2⟩:=C1 hd h k hk;obtain⟨h3,h4,_⟩:=(CO h).1 k hk;exact⟨h1,(O4 h4).tr,h3,h2⟩
def packGet (id:Bs):List ba->Int×Bs×Int
 | []=>(0,[],7)
 | k::r=>if(jB id k.2.2.1).isSome=true then nJ k id else packGet id r
def fI (L:List Fi) (ps:List ba) (id:Bs):Int×Bs×Int:=if(kl id L).2.2≠7 then kl id L else packGet id ps
set_option maxHeartbeats 2000000 in
theorem Sp (L:List Fi) (n:Nat) (ps:List ba) (id:Bs) (hs:dE L) (hl:L.length<=100000) (hd:∀f∈L,f.2.length<=1000000) (hp:∀k∈ps,jZ k) (aY:ps.length<=100000) (hi:id.length<=140737488351232) :
    aw Tryz.prog 42 [eW L n ps,.str id] (ij (fI L ps id)):=by
 refine Cod.Sq (λE R hN hR=>?_);have hlr:=QM L n id hs hl hd hi;unfold fI at hR;generalize kl id L=X at *
 obtain⟨xk,xd,xe⟩:=X;unfold ij gV at hlr hR;simp only at hlr hR;simp(disch:=omega)only[go_sem,simprocAttr,eW];refine an hlr rfl rfl ?_;by_cases he:xe=7;rotate_left
 ·rw[if_pos he]at hR;refine ah he ?_;exact hR.ro ⟨rfl,rfl⟩
 rw[if_neg (λh=>h he)]at hR;subst he;refine ah @pS ?_;obtain⟨RES,hRES⟩:∃X,X=packGet id ps:=⟨_,rfl⟩;rw[<-hRES]at hR
 refine aP hN (λi:Nat=>⟨[(1,.str id),(4,.aa 249004 0),(28,.ro 2 (eX ps)),(29,.int .i64 ps.length),(30,.int .i64 i)],[(249004,.var [.int .i64 0,.str []])]⟩)
  (λi=>i<=ps.length/\packGet id (ps.drop i)=RES) (λi=>ps.length-i) 0 (.le vV) ⟨Z7 _,hRES.symm⟩ ?_
 clear hRES;rintro i R1 ⟨hil,hres⟩ hR1;by_cases hlt:i<ps.length
 ·have hgi:jZ (ps.getD i mh):=hp _ (eK mh hlt);rw[aak hlt]at hres;have hge:ps[i]=ps.getD i mh:=by rw[ZH,List.getElem?_eq_getElem hlt];rfl
  rw[hge]at hres;unfold packGet at hres;obtain⟨k,hk⟩:∃k,k=ps.getD i mh:=⟨_,rfl⟩;rw[<-hk]at hgi hres;have hf:=EY k.2.1 k.2.2 id hgi.tr (by have:=hgi.len;omega);have hob:=SB k id hgi;have hnx:nth (eX ps) i=.agg [.str k.1,ek k.2.1 k.2.2]:=by rw[R8 hlt,hk]
  refine aE @pS hnx ?_
  cases hfp:jB id k.2.2.1 with
  | none=>
   rw[hfp]at hf hres;refine an hf rfl rfl ?_;simp(disch:=omega)only[go_sem,simprocAttr,findA]
   exact hR1 (i+1) _ ZG ⟨ZG,hres⟩ (.le vV)
  | some r=>
   rw[hfp]at hf hres;simp only[aaa,if_true]at hres;subst hres;generalize nJ k id=Y at *
   obtain⟨yk,yd,ye⟩:=Y;unfold ij gV at hob;simp only at hob hR;refine an hf rfl rfl ?_;simp(disch:=omega)only[go_sem,simprocAttr,findA];refine an hob rfl rfl ?_;refine wW ?_;exact hR.ro ⟨rfl,rfl⟩
 ·obtain rfl:i=ps.length:=ZG;rw[List.drop_length]at hres;unfold packGet at hres;subst hres;refine wW ?_;exact hR.ro ⟨rfl,rfl⟩
open Eng Ob
set_option maxRecDepth 10000
structure lI (id:Bs) (x:Int×Bs×Int):Prop where
 ok:x.2.2=0->b7 x.1 x.2.1=0/\Sh.bw (Sh.cS (gM x.1 x.2.1))=id
 no:x.2.2≠0->x.1=0/\x.2.1=[]
theorem nB {id:Bs} {e:Int} (h:e≠0):lI id (0,[],e):=⟨λh'=>absurd h' h,λ_=>⟨rfl,rfl⟩⟩
theorem Bf {id:Bs} (hid:cf id=true) (x:Int×Bs×Int):lI id (kr id x):=by
 unfold kr;split
 ·rename_i h;exact nB h
 ·split
  ·rename_i hx;refine⟨λ_=>?_,λh=>absurd rfl h⟩;unfold kY at hx;by_cases hc:b7 x.1 x.2.1=0
   ·rw[if_pos hc]at hx;exact⟨hc,hx⟩
   ·rw[if_neg hc]at hx;have:=(xf hid).1;rw[<-hx]at this;simp at this
  exact nB (by decide)
theorem Mu (id:Bs) (L:List Fi):lI id (kl id L):=by
 unfold kl;by_cases hid:cf id=true
 ·rw[if_pos hid]
  cases getF (ln id) L with
  | none=>exact nB (by decide)
  | some d=>exact Bf hid _
 ·rw[if_neg hid];exact nB (by decide)
theorem Mw {id:Bs} (hid:cf id=true) (k:ba):lI id (nJ k id):=by
 unfold nJ pP;split
 ·rename_i h;exact nB ZG
 exact Bf hid _
theorem Bg (id:Bs):∀{ps:List ba},mL ps->lI id (packGet id ps)
 | [],_=>nB (by decide)
 | k::r,h=>by
  unfold packGet;split
  ·rename_i hf
   cases hfp:jB id k.2.2.1 with
   | none=>rw[hfp]at hf;cases hf
   | some x=>
    obtain⟨h1,h2⟩:=vq hfp;have:=(h k (Z1 ..)).2.2 x h1;rw[h2]at this;exact Mw this k
  exact Bg id (λp hp=>h p (Z4 _ hp))
theorem Mt (L:List Fi) {ps:List ba} (id:Bs) (h:mL ps):lI id (fI L ps id):=by
 unfold fI;split;exact Mu id L;exact Bg id h
theorem Rx {k:Int} (h:Ob.bS k≠[]):1<=k/\k<=4:=by
 unfold Ob.bS at h
 (repeat' split at h)<;>first | omega | exact absurd rfl h
theorem IW {k:Int} {d:Bs} (h:b7 k d=0):Ob.bS k≠[]/\d.length<=65000:=by
 refine⟨λhn=>?_,zG h⟩;unfold b7 at h;rw[if_pos hn]at h;cases h
theorem Mx {id:Bs} {x:Int×Bs×Int} (h:lI id x):0<=x.1/\x.1<=4/\x.2.1.length<=65000:=by
 by_cases h0:x.2.2=0
 ·obtain⟨h1,h2⟩:=IW (h.ok h0).1;have:=Rx h1;exact⟨ZG,ZG,h2⟩
 ·obtain⟨h1,h2⟩:=h.no h0;rw[h1,h2];simp
def iy (k:Int) (x:Int×Bs×Int):Bs×Int:=if x.2.2≠0 then([],x.2.2)else if x.1≠k then([],10)else(x.2.1,0)
theorem Sx (L:List Fi) (n:Nat) (ps:List ba) (id:Bs) (k:Int) (hs:dE L) (hl:L.length<=100000) (hd:∀f∈L,f.2.length<=1000000) (hp:∀k∈ps,jZ k) (aY:ps.length<=100000) (hi:id.length<=140737488351232) :
    aw Tryz.prog 15 [eW L n ps,.str id,.int .i64 k] (.ab [.str (iy k (fI L ps id)).1,.int .i64 (iy k (fI L ps id)).2]):=by
 refine Cod.Sy (λE R hN hR=>?_);have hg:=Sp L n ps id hs hl hd hp aY hi;unfold iy at hR;generalize fI L ps id=x at *
 obtain⟨xk,xd,xe⟩:=x;unfold ij gV at hg;simp only at hg hR;refine wW ?_;refine an hg rfl rfl ?_;refine wW ?_;refine fU (y:=Cod.Sw) hN (λ_:Unit=>⟨[(8,.aa 264008 0),(9,.int .i64 (if xe≠0 then xe else if xk≠k then 10 else 0))],[(264008,.var [.int .i64 xk,.str xd])]⟩) (λ_=>True) (λR2 hR2=>?_) (λ_ _=>?_)
 ·by_cases he:xe=0
  ·rw[if_neg (λh=>h he)]at hR2;by_cases hk:xk=k
   ·rw[if_neg (λh=>h hk)]at hR2;refine aE he hk ?_;refine ee he hk ?_;exact hR2 () _ trivial (.le vV)
   ·rw[if_pos hk]at hR2;refine aE he hk ?_;refine ee he hk ?_;exact hR2 () _ trivial (.le vV)
  ·rw[if_pos he]at hR2;refine ah he ?_;refine bI he ?_;exact hR2 () _ trivial (.le vV)
 ·by_cases he:xe=0
  ·rw[if_neg (λh=>h he)]at hR |-;by_cases hk:xk=k
   ·rw[if_neg (λh=>h hk)]at hR |-;refine wW ?_;exact hR.ro ⟨rfl,rfl⟩
   ·rw[if_pos hk]at hR |-;refine wW ?_;exact hR.ro ⟨rfl,rfl⟩
  ·rw[if_pos he]at hR |-;refine ah he ?_;exact hR.ro ⟨rfl,rfl⟩
open Eng Ob Pk
set_option maxRecDepth 10000
def nF (r:Bs):Prop:=r.length=44/\r.drop 40=fB/\cf (r.take 40)=true
theorem vU (p:Bs):nF (p.drop 18)↔¬(Lib.hasSuffix (p.drop 18) fB=false\/cf (fu p)=false):=by
 unfold fu nF;generalize p.drop 18=r;have hsl:fB.length=4:=rfl;constructor
 ·rintro⟨h1,h2,h3⟩;have hs:Lib.hasSuffix r fB=true:=abq.2 (h2▸List.drop_suffix 40 r)
  have ht:Lib.trimSuffix r fB=r.take 40:=by
   unfold Lib.trimSuffix;rw[if_pos hs,hsl,h1]
  rw[hs,ht,h3];simp
 ·intro h
  have hs:Lib.hasSuffix r fB=true:=by
   cases hh:Lib.hasSuffix r fB with
   | true=>rfl
   | false=>exact absurd (.inl hh) h
  have ht:Lib.trimSuffix r fB=r.take (r.length-4):=by
   unfold Lib.trimSuffix;rw[if_pos hs,hsl]
  have h3:cf (r.take (r.length-4))=true:=by
   cases hh:cf (r.take (r.length-4))with
   | true=>rfl
   | false=>exact absurd (.inr (by rw[ht];exact hh)) h
  have hl:=(xf h3).1;have hle:=(abq.1 hs).length_le;rw[ZL]at hl;have h44:r.length=44:=ZG;rw[h44]at h3;have:=List.suffix_iff_eq_drop.1 (abq.1 hs);rw[hsl,h44]at this;exact⟨h44,this.symm,h3⟩
def wY (k:ba):AV:=.agg [.str k.1,.ro 3 (cR k.2.2.1)]
def eY (ps:List ba):List AV:=ps.map wY
theorem w6 (ps:List ba):(eY ps).length=ps.length:=by simp[eY]
theorem Ja (s:Bs):dm s=((((countP s).1:Nat):Int),(((countP s).2:Nat):Int)):=by
 unfold dm countP;by_cases h32:s.length<32
 ·rw[if_pos h32,if_pos h32];rfl
 rw[if_neg h32,if_neg h32];have hh:=Bp s ZG
 show(if s.take 4≠[80,65,67,75]then((0:Int),(3:Int))else if ct ((s.drop 4).take 4)≠2 then(0,3)else if 1000<ct ((s.drop 8).take 4)then(0,2)else if Sh.cS (s.take (s.length-20))≠s.drop (s.length-20)then(0,5)else((ct ((s.drop 8).take 4):Nat),0))=_
 by_cases h8:s.take 8=ml
 ·obtain⟨h1,h2⟩:=hh.1 h8;rw[if_neg (λh=>h h1),if_neg (λh=>h h2),if_neg (show ¬s.take 8≠ml from λh=>h h8)];by_cases a:1000<ct ((s.drop 8).take 4)
  ·rw[if_pos a,if_pos a];rfl
  rw[if_neg a,if_neg a];by_cases c:Sh.cS (s.take (s.length-20))=s.drop (s.length-20)
  ·rw[if_neg (λh=>h c),if_neg (show ¬Sh.cS (s.take (s.length-20))≠s.drop (s.length-20)from λh=>h c)];rfl
  ·rw[if_pos c,if_pos (show Sh.cS (s.take (s.length-20))≠s.drop (s.length-20)from c)];rfl
 ·rw[if_pos h8];by_cases h1:s.take 4=[80,65,67,75]
  ·rw[if_neg (λh=>h h1),if_pos (λh2=>h8 (hh.2 ⟨h1,h2⟩))];rfl
  ·rw[if_pos h1];rfl
theorem CZ {ps:List ba}:(eY ps).all aD=true:=by simp[eY,wY,aD,cellsOf,isCell]
theorem SZ {ps:List ba} {d t:Bs} {x:List Rw×Bs}:eY ps++[.agg [.str d,.ro 3 (cR x.1)]]=eY (ps++[(d,t,x)]):=by simp[eY,wY]
theorem S4:eY []=[]:=(rfl)
theorem C0 (ps:List ba):az (eY ps) 0 ps.length=eY ps:=by
 unfold az;rw[aae,ZK (by rw[w6];omega)]
def openA:Except Int (List ba)->AV
 | .error e=>.ab [.aj,.int .i64 e]
 | .ok ps=>.ab [.ro 2 (eY ps),.int .i64 0]
set_option maxHeartbeats 4000000 in
theorem r13open_gen {L fs:List Fi} {U:List Bs} (hun:aw Tryz.prog 25 [.ro 2 (aQ fs),.str dy] (.ro 1 (aL U))) (hum:∀p∈U,p.length<=140737488351232/\18<=p.length) (hul:U.length<=10000)
    (hgl:∀q d,getF q L=some d->d.length<=100000) (hrg:∀q,aw Tryz.prog 27 [.ro 2 (aQ fs),.str q] (sE (getF q L))) :
    aw Tryz.prog 12 [.ro 2 (aQ fs)] (openA (packsP L U U.length)):=by
 refine Cod.Ud (λE R hN hR=>?_);have bad:∀{h} (e:Int),packsP L U U.length=.error e->R h (.ab [.aj,.int .i64 e]) [.undef]:=λe he=>hR.ro ⟨rfl,by rw[he];rfl⟩;refine wW ?_;refine an hun rfl rfl ?_;refine ah @bz ?_
 refine aP hN (λp:Nat×List ba=>⟨[(0,.ro 2 (aQ fs)),(4,.sl 274017 0 p.2.length),(19,.ro 1 (aL U)),(20,.int .i64 U.length),(21,.int .i64 p.1)],[(274017,.arr 2 (eY p.2))]⟩)
  (λp=>p.1<=U.length/\packsP L U p.1=.ok p.2) (λp=>U.length-p.1) (0,[]) (.le (cU @S4)) ⟨ZG,rfl⟩ ?_
 rintro⟨k,ps⟩ R1 ⟨hk,hps⟩ hR1;simp only at hk hps;have aY:=sK hps;by_cases hlt:k<U.length
 ·obtain⟨h1,h2⟩:=hum _ (eK [] hlt)
  have hst:∀r,stepP L (U.getD k [])=r->packsP L U (k+1)=match r with
   | .error e=>.error e
   | .ok none=>.ok ps
   | .ok (some p)=>.ok (ps++[p]):=λr hr=>by rw[packsP,hps];simp only[hr];rfl
  obtain⟨p,hpe⟩:∃p,p=U.getD k []:=⟨_,rfl⟩;rw[<-hpe]at h1 h2 hst;have hi:(18:Int)<=(p.length:Int):=ZG;have badk:∀{h} (e:Int),stepP L p=.error e->R h (.ab [.aj,.int .i64 e]) [.undef]:=λe he=>bad e (w7 (by omega:k+1<=U.length) (hst (.error e) he))
  have skip:¬nF (p.drop 18)->∀st',Wk st' ⟨[(0,.ro 2 (aQ fs)),(4,.sl 274017 0 ps.length),(19,.ro 1 (aL U)),(20,.int .i64 U.length),(21,.int .i64 ((k+1:Nat):Int))],[(274017,.arr 2 (eY ps))]⟩->R1.ap st':=λhno st' hw=>
   hR1 (k+1,ps) _ (by simp only;omega) ⟨by simp only;omega,hst (.ok none) (by
    unfold stepP
    rw[if_pos (by
     by_cases hq:Lib.hasSuffix (p.drop 18) fB=false\/cf (fu p)=false;exact hq
     ·exact absurd ((vU p).2 hq) hno)])⟩ hw
  have hrl:(p.drop 18).length=p.length-18:=ZN
  have hnm:nF (p.drop 18)->fu p=(p.drop 18).take 40:=λh=>by
   have hs1:=(vU p).1 h
   have hsf:Lib.hasSuffix (p.drop 18) fB=true:=by
    cases hh:Lib.hasSuffix (p.drop 18) fB with
    | true=>rfl
    | false=>exact absurd (.inl hh) hs1
   unfold fu Lib.trimSuffix;rw[if_pos hsf,h.1];rfl
  have hsp:nF (p.drop 18)->stepP L p=(match cL ((getF p L).getD [])with
      | .error e=>.error e
      | .ok x=>match getF (dy++(p.drop 18).take 40++lD) L with
       | none=>.error 7
       | some d=>
        if(dm d).2≠0 then .error (dm d).2
        else if(dm d).1≠(x.1.length:Int)then .error 4
        else if Sh.bw (d.drop (d.length-20))≠x.2 then .error 5
        else .ok (some (d,(getF p L).getD [],x))):=λh=>by
   rw[<-hnm h];unfold stepP;rw[if_neg ((vU p).1 h)];rfl
  have hri:=Un ((p.drop 18).take 40) (by rw[ZL];omega);have hidx:nF (p.drop 18)↔(p.drop 18).length=44/\(p.drop 18).drop 40=fB/\cf ((p.drop 18).take 40)=true:=Iff.rfl;generalize hr:p.drop 18=r at *
  simp(disch:=first | omega | (simp only[Lx];omega))only[go_sem,simprocAttr,bz,fv,<-hpe,hi,hr];by_cases c1:r.length=44;rotate_left
  ·have i1:¬(r.length:Int)=44:=ZG;refine ah i1 ?_;refine bI i1 ?_;exact skip (λh=>c1 (hidx.1 h).1) _ (.le vV)
  have i1:(r.length:Int)=44:=ZG;by_cases c2:r.drop 40=[46,105,100,120];rotate_left
  ·refine aE i1 c2 ?_;refine ee i1 c2 ?_;exact skip (λh=>c2 (hidx.1 h).2.1) _ (.le vV)
  refine aE i1 c2 ?_;refine ee i1 c2 ?_;refine fH (eS vV hri vV rfl rfl ?_)
  cases c3:cf (r.take 40)with
  | false=>
   refine wW ?_;refine gG ?_
   exact skip (λh=>by rw[c3]at hidx;exact absurd (hidx.1 h).2.2 (by simp)) _ (.le vV)
  | true=>
   have hsp:=hsp (hidx.2 ⟨c1,c2,c3⟩)
   have htl:((getF p L).getD []).length<=100000:=by
    cases hg:getF p L with
    | none=>simp
    | some d=>exact hgl _ _ hg
   have hg1:=hrg p;unfold sE at hg1;obtain⟨t,ht⟩:∃t,t=(getF p L).getD []:=⟨_,rfl⟩;rw[<-ht]at htl hsp hg1;have hpa:=Ua t htl;refine wW ?_;refine gG ?_;refine an hg1 rfl rfl ?_;refine wW ?_
   cases hpp:cL t with
   | error e=>
    rw[hpp]at hpa hsp;have he:¬e=0:=w9 hpp;refine an hpa rfl rfl ?_;simp(disch:=first | omega | (simp only[Lx];omega))only[go_sem,simprocAttr,parseD,he]
    exact badk e hsp
   | ok x=>
    rw[hpp]at hpa hsp;simp only at hsp;refine an hpa rfl rfl ?_;obtain⟨q,hq⟩:∃q,q=dy++r.take 40++lD:=⟨_,rfl⟩;have hg3:=hrg q;unfold sE at hg3;have hq2:111::98::106::101::99::116::115::47::112::97::99::107::47::112::97::99::107::45::(r.take 40++[46,112,97,99,107])=q:=by rw[hq];rfl
    rw[<-hq]at hsp;simp(disch:=first | omega | (simp only[Lx];omega))only[go_sem,simprocAttr,parseD,hq2]
    cases hgd:getF q L with
    | none=>
     rw[hgd]at hg3 hsp;refine an hg3 rfl rfl ?_;simp(disch:=first | omega | (simp only[Lx];omega))only[go_sem,simprocAttr,Option.isSome_none]
     exact badk 7 hsp
    | some d=>
     rw[hgd]at hg3 hsp;simp only at hsp;have hdl:=hgl _ _ hgd;have hcn:=Ut d hdl;have h32:=@zI d;rw[Ja]at hsp h32;simp only at hsp h32;generalize countP d=m at *
     obtain⟨m,f⟩:=m;simp only at hsp h32 hcn;refine an hg3 rfl rfl ?_;simp(disch:=first | omega | (simp only[Lx];omega))only[go_sem,simprocAttr,Option.isSome_some,Option.getD_some];refine an hcn rfl rfl ?_;by_cases h0:f=0;rotate_left
     ·have i0:¬(f:Int)=0:=ZG;rw[if_pos i0]at hsp;refine ah i0 ?_;exact badk f hsp
     subst h0;rw[if_neg (by simp)]at hsp;have h32:=h32 rfl;by_cases h3:(m:Int)=(x.1.length:Int);rotate_left
     ·rw[if_pos h3]at hsp;refine aE h3 @fS ?_;exact badk 4 hsp
     rw[if_neg (λh=>h h3)]at hsp;have e20:((d.length:Int)-20).toNat=d.length-20:=ZG;have hhx:=Sh.xz (d.drop (d.length-20)) (by rw[ZN];omega);refine bU h3 @fS e20 ?_;refine an hhx rfl rfl ?_;by_cases h4:Sh.bw (d.drop (d.length-20))=x.2;rotate_left
     ·rw[if_pos h4]at hsp;refine ah h4 ?_;exact badk 5 hsp
     rw[if_neg (λh=>h h4)]at hsp;have hps:=C0 ps;refine bU h4 @w6 hps ?_;rw[SZ (t:=t)];refine⟨⟨CZ,ZG⟩,hR1 (k+1,ps++[(d,t,x)]) _ (by simp only;omega) ⟨by simp only;omega,hst (.ok (some (d,t,x))) hsp⟩ (.le (by rw[ZJ,ZQ];exact vV))⟩
 ·obtain rfl:k=U.length:=ZG;rw[hps]at hR;refine wW ?_;exact hR.wk (h':=[]) (r':=.ab [.ro 2 (eY ps),.int .i64 0]) (ar':=[.undef]) rfl (.bo 274017 (.le (tR @C0 @w6 @CZ))) ⟨rfl,rfl⟩
theorem Dj {L fs:List Fi} (hs:dX L) (hp:L.Perm fs) (hl:fs.length<=10000) (hc:∀f∈fs,f.1.length<=140737488351232) (hd:∀f∈fs,f.2.length<=100000) :
    aw Tryz.prog 12 [.ro 2 (aQ fs)] (openA (gj L)):=by
 have hun:=Dm fs dy hl (by decide) (λf hf=>by have:=hc f hf;omega);rw[Yg hs hp]at hun;have hll:=hp.length_eq;have hul:=qn dy L;refine r13open_gen hun (λp hq=>?_) ZG (λq d h=>pd (λf hf=>hd f (hp.mem_iff.1 hf)) h) (λq=>?_)
 ·obtain⟨h1,f,hf,h2⟩:=x9 hq;exact⟨by rw[<-h2];exact hc f (hp.mem_iff.1 hf),uE h1⟩
 ·have:=Dk fs q ZG;rw[Lo hs hp]at this;exact this
end Go.Proofs.YtkdjbebgdoohjaaGreatDoor.Ls
