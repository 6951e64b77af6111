/- The proof, part 42 of 43. -/
import Derived.Test.YtoalcafkffmiiaaGreatDoorOdbGetsZM
import Derived.Test.YtoalcafkffmiiaaGreatDoorOdbGetsZN
import Derived.Test.YtoalcafkffmiiaaGreatDoorOdbGetsZO
set_option linter.all false
namespace Go.Proofs.YtoalcafkffmiiaaGreatDoor.Ls
open Eng Pk Ob
set_option maxRecDepth 10000
def b6 (k:aO) (x:En):En×Nat:=if x.kind=6 then Pk.readP k.1 (x.base:Nat)else dy k x.id
def chainR (k:aO):Nat->En×Nat->List Bs->(En×Nat)×List Bs
 | 0,x,l=>if x.2=0/\6<=x.1.kind then((dR,9),l)else(x,l)
 | m+1,x,l=>if x.2=0/\6<=x.1.kind then chainR k m (b6 k x.1) (l++[x.1.data])else(x,l)
def foldA:Bs->List Bs->Bs×Nat
 | b,[]=>(b,0)
 | b,d::r=>if(Dl.fj b d 65000).2≠0 then([],(Dl.fj b d 65000).2)else foldA (Dl.fj b d 65000).1 r
def nC (id:Bs) (C:(En×Nat)×List Bs):Int×Bs×Int:=
 if C.1.2≠0 then(0,[],(C.1.2:Nat))
 else jM id ((C.1.1.kind:Nat),(foldA C.1.1.data C.2.reverse).1,((foldA C.1.1.data C.2.reverse).2:Nat))
def mq (k:aO) (id:Bs):Int×Bs×Int:=nC id (chainR k 12 (dy k id) [])
theorem xV (k:aO) (x:En) (hk:gS k) (hx:x.base<=1099511627776):(b6 k x).1.data.length<=65000/\(b6 k x).1.base<=1099511627776:=by
 unfold b6;split
 ·have:=Fo k.1 (x.base:Nat);exact⟨Fp _ _,acN⟩
 exact sS k _ hk
theorem Uv (k:Int) (t:Bs) (ht:t.length<=100000):ao Tryz.prog 82 [.agg [.int .i64 k,.str t]] (.af [.str (kQ k t),.int .i64 (ee k t)]):=by
 have h4:=C1 k t acN;unfold kQ;unfold tq at h4;by_cases hc:ee k t=0
 ·rw[if_pos hc]at h4 |-;rw[hc];exact h4
 ·rw[if_neg hc]at h4 |-;exact h4
theorem Yf {l:List Bs} {k:Nat} (hk:k<l.length):l.reverse.drop k=l.getD (l.length-1-k) []::l.reverse.drop (k+1):=by
 rw[adt (by rw[aek];exact hk),List.getElem_reverse,acO,List.getElem?_eq_getElem acN];rfl
theorem Ac (b d:Bs) (size:Nat):∀(m p:Nat) (out:Bs),out.length<=size->(Dl.applyR b d size m p out).1.length<=size
 | 0,_,_,_=>ac9 _
 | m+1,p,out,h=>by
  unfold Dl.applyR;split
  ·split;exact ac9 _;exact h
  ·split;exact ac9 _
   ·split;exact ac9 _;exact Ac b d size m _ _ (by rw[acQ];omega)
theorem vD (b d:Bs):(Dl.fj b d 65000).1.length<=65000:=by
 unfold Dl.fj;split;exact ac9 _
 ·split;exact ac9 _
  ·split;exact ac9 _
   ·have:=Ac b d (Dl.eD d).2.1 (d.length+1) (Dl.eD d).2.2.1 [] (ac9 _);omega
set_option maxHeartbeats 4000000 in
theorem UH (k:aO) (id:Bs) (hk:gS k):ao Tryz.prog 46 [.agg [.str k.1,eT k.2.1 k.2.2],.str id] (eh (mq k id)):=by
 refine Cod.UI (λE R hN hrd hR=>?_);have he0:=Ej k id hk;have hg0:=sS k id hk;unfold mq at hR;obtain⟨RES,hRES⟩:∃X,X=chainR k 12 (dy k id) []:=⟨_,rfl⟩;rw[<-hRES]at hR;generalize dy k id=x0 at *
 obtain⟨x0,e0⟩:=x0;simp only[gw]at he0;simp only at hg0;have hR:c7 (λh r _=>h=[]/\r=eh (nC id RES)) R:=hR;refine wW ?_;refine ah he0 rfl rfl ?_;refine wW ?_
 refine aD hN (λq:Nat×(En×Nat)×List Bs=>⟨[(1,.str id),(2,.aa 263002 0),(4,.aa 263004 0),(5,.aa 263005 0),(6,.aa 263006 0),(7,.aa 263007 0),(8,.sl 263035 0 q.2.2.length)],
     [(263002,.var [.str k.1,eT k.2.1 k.2.2]),(263004,.var [.int .i64 0,.str []]),(263005,.var [.int .i64 0]),(263006,.var [.int .i64 q.2.1.1.at_,.int .i64 q.2.1.1.next,.int .i64 q.2.1.1.kind,.str q.2.1.1.data,.int .i64 q.2.1.1.base,.str q.2.1.1.id,.int .u32 q.2.1.1.jZ.toNat]),(263007,.var [.int .i64 (q.2.1.2:Nat)]),(263035,.arr 1 (au q.2.2))]⟩)
  (λq=>chainR k q.1 q.2.1 q.2.2=RES/\q.2.2.length+q.1=12/\(q.2.1.1.data.length<=65000/\q.2.1.1.base<=1099511627776)/\∀d∈q.2.2,d.length<=65000) (λq=>q.1) (12,(x0,e0),[]) (.nil 8 263035 1 rfl (.le (cn @lT))) ⟨hRES.symm,rfl,hg0,λd hd=>by cases hd⟩ ?_
 clear hRES he0 hg0;rintro⟨m,⟨x,e⟩,l⟩ R1 ⟨hch,hlm,hxg,hlg⟩ hR1;simp only at hch hlm hxg hlg;by_cases hc:e=0/\6<=x.kind
 ·obtain⟨rfl,hkd⟩:=hc;have i1:(6:Int)<=(x.kind:Int):=acN
  cases m with
  | zero=>
   unfold chainR at hch;rw[if_pos ⟨rfl,hkd⟩]at hch;subst hch;have hl:l.length=12:=acN;refine ab hl ?_;refine cO i1 hl ?_
   exact hR.ro ⟨rfl,rfl⟩
  | succ m=>
   unfold chainR at hch;rw[if_pos ⟨rfl,hkd⟩]at hch;have hl:¬(l.length:Int)=12:=acN;have hng:=xV k x hk hxg.2
   have hs1:aB (au l) 0 l.length=au l:=by
    unfold aB;rw[ado,acP (by rw[aZ];omega)]
   have next:∀st',Wk st' ⟨[(1,.str id),(2,.aa 263002 0),(4,.aa 263004 0),(5,.aa 263005 0),(6,.aa 263006 0),(7,.aa 263007 0),(8,.sl 263035 0 (l.length+1))],
       [(263002,.var [.str k.1,eT k.2.1 k.2.2]),(263004,.var [.int .i64 0,.str []]),(263005,.var [.int .i64 0]),(263006,.var [.int .i64 (b6 k x).1.at_,.int .i64 (b6 k x).1.next,.int .i64 (b6 k x).1.kind,.str (b6 k x).1.data,.int .i64 (b6 k x).1.base,.str (b6 k x).1.id,.int .u32 (b6 k x).1.jZ.toNat]),(263007,.var [.int .i64 ((b6 k x).2:Nat)]),(263035,.arr 1 (au (l++[x.data])))]⟩->R1.ap st':=λst' hw=>
    hR1 (m,b6 k x,l++[x.data]) _ (by simp only;omega) ⟨hch,by rw[acQ,acW];omega,hng,λd hd=>by
     rcases adq.1 hd with h | h;exact hlg d h
     ·rw[ac8]at h;rw[h];exact hxg.1⟩ (by rw[acQ,acW];exact hw)
   refine bp hl @aZ hs1 ?_;refine kJ i1 hl @aZ hs1 ?_;refine⟨⟨dM,acN⟩,?_⟩;rw[ji];have hdl:=hk.dl;by_cases h6:x.kind=6
   ·have hne:b6 k x=Pk.readP k.1 (x.base:Nat):=if_pos h6;have hrd:=ER k.1 (x.base:Nat) acN ⟨acN,acN⟩;rw[hne]at next
    generalize Pk.readP k.1 (x.base:Nat)=y at *
    simp only[gw]at hrd;have j6:(x.kind:Int)=6:=acN;refine ab j6 ?_;refine ah hrd rfl rfl ?_;refine wW ?_;exact next _ (.le vV)
   ·have hne:b6 k x=dy k x.id:=if_neg h6;have hen:=Ej k x.id hk;rw[hne]at next
    generalize dy k x.id=y at *
    simp only[gw]at hen;have j6:¬(x.kind:Int)=6:=acN;refine ab j6 ?_;refine ah hen rfl rfl ?_;refine wW ?_;exact next _ (.le vV)
 ·by_cases he:e=0;rotate_left
  ·have i1:¬(e:Int)=0:=acN
   have hch':chainR k m (x,e) l=((x,e),l):=by
    cases m<;>exact if_neg (λh=>he h.1)
   rw[hch']at hch;subst hch;have hres:nC id ((x,e),l)=(0,[],((e:Nat):Int)):=if_pos he;rw[hres]at hR;refine ab i1 ?_;refine aV i1 ?_;refine⟨?_,?_⟩<;>exact hR.ro ⟨rfl,rfl⟩
  ·subst he;have hkd:¬6<=x.kind:=λh=>hc ⟨rfl,h⟩;have i1:¬(6:Int)<=(x.kind:Int):=acN
   have hch':chainR k m (x,0) l=((x,0),l):=by
    cases m<;>exact if_neg hc
   rw[hch']at hch;subst hch;have hlr:l.length<=12:=acN
   have hls:aB (au l) 0 l.length=au l:=by
    unfold aB;rw[ado,acP (by rw[aZ];omega)]
   have hres:nC id ((x,0),l)=jM id ((x.kind:Nat),(foldA x.data l.reverse).1,((foldA x.data l.reverse).2:Nat)):=if_neg (by simp);rw[hres]at hR;generalize hF:foldA x.data l.reverse=F at *
   refine ab i1 ?_;refine aV i1 ?_
   refine Jl hN hrd Jf (by decide) (xs:=l) acN [(1,.str id),(4,.aa 263004 0),(5,.aa 263005 0),(7,.aa 263007 0),(9,.aa 263009 0),(63,.ro 1 (au l))]
    (λy:Bs=>[(263004,.var [.int .i64 0,.str []]),(263005,.var [.int .i64 0]),(263007,.var [.int .i64 0]),(263009,.var [.int .i64 x.kind,.str y])])
    (λj y=>y.length<=65000/\foldA y (l.reverse.drop j)=F) x.data (.bj 263035 (.le (mH @aZ hls @dM))) ⟨hxg.1,hF⟩ rfl rfl rfl (by decide) (by decide) rfl ?_ ?_
   ·rintro E2 j y R2 hN2 ⟨hyl,hinv⟩ hj hn hr hx;rw[Yf hj]at hinv;have hdl:=hlg _ (dT [] (show l.length-1-j<l.length by omega));generalize l.getD (l.length-1-j) []=d at *
    have hap:=Dl.LA y d 65000 acN acN (by decide);have hal:=vD y d;unfold foldA at hinv;generalize Dl.fj y d 65000=A at *
    refine wW ?_;refine ah hap rfl rfl ?_;by_cases hA:A.2=0
    ·rw[if_neg (λh=>h hA)]at hinv;have j0:(A.2:Int)=0:=acN;refine ab j0 ?_;exact hn A.1 _ ⟨hal,hinv⟩ (.le vV)
    ·rw[if_pos hA]at hinv;subst hinv;have j0:¬(A.2:Int)=0:=acN;unfold jM at hR;rw[if_pos (by simp only;omega)]at hR;refine ab j0 ?_;refine⟨?_,?_⟩
     all_goals (refine hr _ [(263004,.var [.int .i64 0,.str []]),(263005,.var [.int .i64 (A.2:Nat)])] (.le vV) ?_)
     all_goals simp(disch:=omega)only[go_sem,simprocAttr]
     all_goals exact hR.ro ⟨rfl,rfl⟩
   ·rintro y ⟨hyl,hinv⟩;rw[List.drop_of_length_le (by rw[aek];omega)]at hinv;unfold foldA at hinv;subst hinv;have hid:=Uv (x.kind:Nat) y acN;unfold jM at hR;rw[if_neg (by simp)]at hR;simp only at hR;generalize kQ (x.kind:Nat) y=is at *
    refine wW ?_;refine ah hid rfl rfl ?_;by_cases hx:is=id
    ·rw[if_pos hx]at hR;refine ab hx ?_;exact hR.ro ⟨rfl,rfl⟩
    ·rw[if_neg hx]at hR;refine ab hx ?_;exact hR.ro ⟨rfl,rfl⟩
open Eng Pk Ob
set_option maxRecDepth 10000
theorem Vg {s:Bs} {x:List Rw×Bs} (h:dr s=.ok x):∀r∈x.1,r.2.1<=1099511627776:=by
 unfold dr at h;simp only at h;split at h
 ·cases h
 split at h
 ·cases h
 split at h
 ·cases h
 split at h
 ·cases h
 split at h
 ·cases h
 split at h
 ·cases h
 split at h
 ·cases h
 rename_i l hl;split at h
 ·cases h
 cases h;have hll:=pn hl;intro r hr;obtain⟨j,hj,rfl⟩:=afg.1 hr;obtain⟨_,_,e1⟩:=uB (qT hl j (by simp only at hj;omega));simp only at hj e1;rw[acO,List.getElem?_eq_getElem hj]at e1;exact e1
theorem EG {L:List Fi} {U:List Bs} (hd:∀f∈L,f.2.length<=100000):∀{k:Nat} {ps:List aO},packsP L U k=.ok ps->∀p∈ps,p.1.length<=100000/\∀r∈p.2.2.1,r.2.1<=1099511627776
 | 0,ps,h=>by
  unfold packsP at h;cases h
  intro p hp;simp at hp
 | k+1,ps,h=>by
  unfold packsP at h
  cases h1:packsP L U k with
  | error e=>rw[h1]at h;cases h
  | ok l'=>
   have ih:=EG hd h1;rw[h1]at h
   cases h2:stepP L (U.getD k [])with
   | error e=>rw[h2]at h;cases h
   | ok r=>
    rw[h2]at h
    cases r with
    | none=>cases h;exact ih
    | some r=>
     cases h;intro p hp;rcases adq.1 hp with hp | hp;exact ih p hp
     ·rw[ac8]at hp;subst hp;unfold stepP at h2;split at h2
      ·cases h2
      ·split at h2
       ·cases h2
       ·rename_i x hx;split at h2
        ·cases h2
        ·rename_i d hg;split at h2
         ·cases h2
         ·split at h2
          ·cases h2
          ·split at h2
           ·cases h2
           ·cases h2;exact⟨tb hd hg,Vg hx⟩
theorem Um {L:List Fi} {ps:List aO} (hd:∀f∈L,f.2.length<=100000) (h:jL L=.ok ps):∀k∈ps,gS k:=λk hk=>by
 obtain⟨h1,h2⟩:=EG hd h k hk;obtain⟨h3,h4,_⟩:=(Eh h).1 k hk;exact⟨h1,(xz h4).rk,h3,h2⟩
def packGet (id:Bs):List aO->Int×Bs×Int
 | []=>(0,[],7)
 | k::r=>if(gZ id k.2.2.1).isSome=true then mq k id else packGet id r
def kK (L:List Fi) (ps:List aO) (id:Bs):Int×Bs×Int:=if(lF id L).2.2≠7 then lF id L else packGet id ps
set_option maxHeartbeats 2000000 in
theorem El (L:List Fi) (n:Nat) (ps:List aO) (id:Bs) (hs:eO L) (hl:L.length<=100000) (hd:∀f∈L,f.2.length<=1000000) (hp:∀k∈ps,gS k) (hpl:ps.length<=100000) (hi:id.length<=140737488351232) :
    ao Tryz.prog 12 [jd L n ps,.str id] (eh (kK L ps id)):=by
 refine Cod.Em (λE R hN hR=>?_);have hlr:=SQ L n id hs hl hd hi;unfold kK at hR;generalize lF id L=X at *
 obtain⟨xk,xd,xe⟩:=X;unfold eh dV at hlr hR;simp only at hlr hR;simp(disch:=omega)only[go_sem,simprocAttr,jd];refine ah hlr rfl rfl ?_;by_cases he:xe=7;rotate_left
 ·rw[if_pos he]at hR;refine ab he ?_;exact hR.ro ⟨rfl,rfl⟩
 rw[if_neg (λh=>h he)]at hR;subst he;refine ab @lL ?_;obtain⟨RES,hRES⟩:∃X,X=packGet id ps:=⟨_,rfl⟩;rw[<-hRES]at hR
 refine aD hN (λi:Nat=>⟨[(1,.str id),(4,.aa 249004 0),(28,.ro 2 (fC ps)),(29,.int .i64 ps.length),(30,.int .i64 i)],[(249004,.var [.int .i64 0,.str []])]⟩)
  (λi=>i<=ps.length/\packGet id (ps.drop i)=RES) (λi=>ps.length-i) 0 (.le vV) ⟨ac9 _,hRES.symm⟩ ?_
 clear hRES;rintro i R1 ⟨hil,hres⟩ hR1;by_cases hlt:i<ps.length
 ·have hgi:gS (ps.getD i fy):=hp _ (dT fy hlt);rw[adt hlt]at hres;have hge:ps[i]=ps.getD i fy:=by rw[acO,List.getElem?_eq_getElem hlt];rfl
  rw[hge]at hres;unfold packGet at hres;obtain⟨k,hk⟩:∃k,k=ps.getD i fy:=⟨_,rfl⟩;rw[<-hk]at hgi hres;have hf:=Ha k.2.1 k.2.2 id hgi.rk (by have:=hgi.len;omega);have hob:=UH k id hgi;have hnx:nth (fC ps) i=.agg [.str k.1,eT k.2.1 k.2.2]:=by rw[Ee hlt,hk]
  refine aE @lL hnx ?_
  cases hfp:gZ id k.2.2.1 with
  | none=>
   rw[hfp]at hf hres;refine ah hf rfl rfl ?_;simp(disch:=omega)only[go_sem,simprocAttr,findA]
   exact hR1 (i+1) _ acN ⟨acN,hres⟩ (.le vV)
  | some r=>
   rw[hfp]at hf hres;simp only[adl,if_true]at hres;subst hres;generalize mq k id=Y at *
   obtain⟨yk,yd,ye⟩:=Y;unfold eh dV at hob;simp only at hob hR;refine ah hf rfl rfl ?_;simp(disch:=omega)only[go_sem,simprocAttr,findA];refine ah hob rfl rfl ?_;refine wW ?_;exact hR.ro ⟨rfl,rfl⟩
 ·obtain rfl:i=ps.length:=acN;rw[afa]at hres;unfold packGet at hres;subst hres;refine wW ?_;exact hR.ro ⟨rfl,rfl⟩
open Eng Ob
set_option maxRecDepth 10000
structure nZ (id:Bs) (x:Int×Bs×Int):Prop where
 ok:x.2.2=0->ee x.1 x.2.1=0/\Sh.bC (Sh.cY (gN x.1 x.2.1))=id
 no:x.2.2≠0->x.1=0/\x.2.1=[]
theorem oS {id:Bs} {e:Int} (h:e≠0):nZ id (0,[],e):=⟨λh'=>absurd h' h,λ_=>⟨rfl,rfl⟩⟩
theorem CI {id:Bs} (hid:bJ id=true) (x:Int×Bs×Int):nZ id (jM id x):=by
 unfold jM;split
 ·rename_i h;exact oS h
 ·split
  ·rename_i hx;refine⟨λ_=>?_,λh=>absurd rfl h⟩;unfold kQ at hx;by_cases hc:ee x.1 x.2.1=0
   ·rw[if_pos hc]at hx;exact⟨hc,hx⟩
   ·rw[if_neg hc]at hx;have:=(pb hid).1;rw[<-hx]at this;simp at this
  exact oS (by decide)
theorem OD (id:Bs) (L:List Fi):nZ id (lF id L):=by
 unfold lF;by_cases hid:bJ id=true
 ·rw[if_pos hid]
  cases getF (eX id) L with
  | none=>exact oS (by decide)
  | some d=>exact CI hid _
 ·rw[if_neg hid];exact oS (by decide)
theorem OE {id:Bs} (hid:bJ id=true) (k:aO):nZ id (mq k id):=by
 unfold mq nC;split
 ·rename_i h;exact oS acN
 exact CI hid _
theorem CJ (id:Bs):∀{ps:List aO},eZ ps->nZ id (packGet id ps)
 | [],_=>oS (by decide)
 | k::r,h=>by
  unfold packGet;split
  ·rename_i hf
   cases hfp:gZ id k.2.2.1 with
   | none=>rw[hfp]at hf;cases hf
   | some x=>
    obtain⟨h1,h2⟩:=wN hfp;have:=(h k (ac6 ..)).2.2 x h1;rw[h2]at this;exact OE this k
  exact CJ id (λp hp=>h p (ada _ hp))
theorem OC (L:List Fi) {ps:List aO} (id:Bs) (h:eZ ps):nZ id (kK L ps id):=by
 unfold kK;split;exact OD id L;exact CJ id h
open Eng Ob Pk
set_option maxRecDepth 10000
def rowD (id:Bs):List Rw->Option Rw
 | []=>none
 | r::t=>if r.1=id then some r else rowD id t
theorem yN (id:Bs):∀{L:List Rw},eP (L.map (·.1))->rowD id L=gZ id L
 | [],_=>rfl
 | r::t,h=>by
  have h:=adp.1 h;have ih:=yN id (L:=t) h.2;unfold rowD;unfold gZ
  show _=if posF id ((r.1,[])::kf t)<(r::t).length/\_ then _ else _
  by_cases hr:r.1=id
  ·have hp:posF id ((r.1,[])::kf t)=0:=by
    unfold posF;rw[if_neg (by simp only[hr,l7];omega)]
   rw[if_pos hr];simp only[kf,adi]at hp |-;rw[hp,if_pos ⟨by simp,by simpa using hr⟩];rfl
  ·rw[if_neg hr,ih];by_cases hlt:Lib.compareBytes r.1 id<0
   ·have hp:posF id ((r.1,[])::kf t)=posF id (kf t)+1:=by
     conv=>lhs;unfold posF
     rw[if_pos hlt]
    simp only[kf,adi]at hp |-;rw[hp];unfold gZ;simp only[adb,aej,Nat.add_lt_add_iff_right]
   ·have hp:posF id ((r.1,[])::kf t)=0:=by
     unfold posF;rw[if_neg hlt]
    simp only[kf,adi]at hp |-;rw[hp,if_neg (λhh=>hr (by simpa using hh.2))];unfold gZ;refine if_neg (λhh=>?_);have hm:=h.1 (t.getD (posF id (kf t)) dx).1 (adN.2 ⟨_,dT dx hh.1,rfl⟩);rw[hh.2]at hm;exact hlt hm
def wholeD (k:aO):Nat->En->Int×Bs×Int
 | 0,x=>if x.kind<5 then((x.kind:Nat),x.data,0)else(0,[],9)
 | m+1,x=>if x.kind<5 then((x.kind:Nat),x.data,0)else
  if(b6 k x).2≠0 then(0,[],((b6 k x).2:Nat))else
  if(wholeD k m (b6 k x).1).2.2≠0 then(0,[],(wholeD k m (b6 k x).1).2.2)else
  if(Dl.fj (wholeD k m (b6 k x).1).2.1 x.data 65000).2≠0 then(0,[],((Dl.fj (wholeD k m (b6 k x).1).2.1 x.data 65000).2:Nat))else
  ((wholeD k m (b6 k x).1).1,(Dl.fj (wholeD k m (b6 k x).1).2.1 x.data 65000).1,0)
theorem Cp (d:Bs):∀(l:List Bs) (b:Bs),foldA b (l++[d])=if(foldA b l).2≠0 then([],(foldA b l).2)else if(Dl.fj (foldA b l).1 d 65000).2≠0 then([],(Dl.fj (foldA b l).1 d 65000).2)else((Dl.fj (foldA b l).1 d 65000).1,0)
 | [],b=>rfl
 | c::l,b=>by
  simp only[ads,foldA];split;rfl
  exact Cp d l _
theorem Dw (s:Bs) (a:Int) (h:(Pk.readP s a).2=0):(Pk.readP s a).1.kind≠5/\(Pk.readP s a).1.kind≠0:=by
 unfold Pk.readP at h |-;split at h
 ·cases h
 ·rename_i h0;rw[if_neg h0];unfold pf at h |-;split at h
  ·rename_i h1;exact(h1 h).elim
  ·rename_i h1;rw[if_neg h1];generalize cd (s.take (s.length-20)) a.toNat=H at *
   by_cases hk:H.1=0\/H.1=5
   ·exfalso
    have hm:(fX (s.take (s.length-20)) a.toNat H.1 H.2.2.1).2.2.2=10:=by
     unfold fX;rw[if_neg acN,if_neg acN,if_neg acN]
    unfold j7 at h;rw[if_pos (by rw[hm];decide),hm]at h;cases h
   ·generalize fX (s.take (s.length-20)) a.toNat H.1 H.2.2.1=M at *
    unfold j7 at h |-;split at h
    ·rename_i h2;exact(h2 h).elim
    ·rename_i h2;rw[if_neg h2];split at h
     ·cases h
     ·rename_i h3;rw[if_neg h3];split at h
      ·cases h
      ·rename_i h4;rw[if_neg h4];split at h
       ·rename_i h5;exact(h5 h).elim
       ·rename_i h5;rw[if_neg h5];simp only;omega
theorem Dr (k:aO) (t:Bs) (h:(dy k t).2=0):(dy k t).1.kind≠5/\(dy k t).1.kind≠0:=by
 unfold dy at h |-
 cases hfp:gZ t k.2.2.1 with
 | none=>rw[hfp]at h;cases h
 | some r=>
  rw[hfp]at h;simp only at h |-;split at h
  ·cases h
  ·rename_i h1;rw[if_neg h1];exact Dw _ _ h
theorem Dt (k:aO) (x:En) (h:(b6 k x).2=0):(b6 k x).1.kind≠5/\(b6 k x).1.kind≠0:=by
 unfold b6 at h |-;split at h
 ·rename_i h1;rw[if_pos h1];exact Dw _ _ h
 ·rename_i h1;rw[if_neg h1];exact Dr _ _ h
theorem A7 (k:aO) {x:En} {e:Nat} (he:e≠0) (l:List Bs):∀m,chainR k m (x,e) l=((x,e),l)
 | 0=>if_neg (λh=>he h.1)
 | m+1=>if_neg (λh=>he h.1)
def lx (x:En) (F:Bs×Nat):Int×Bs×Int:=if F.2≠0 then(0,[],(F.2:Nat))else((x.kind:Nat),F.1,0)
theorem G4 (k:aO):∀(m:Nat) (x:En) (l:List Bs),x.kind≠5->((chainR k m (x,0) l).1.2≠0->wholeD k m x=(0,[],(((chainR k m (x,0) l).1.2:Nat):Int))) /\
    ((chainR k m (x,0) l).1.2=0->∃ds,(chainR k m (x,0) l).2=l++ds/\wholeD k m x=lx (chainR k m (x,0) l).1.1 (foldA (chainR k m (x,0) l).1.1.data ds.reverse))
 | 0,x,l,h5=>by
  unfold chainR wholeD;by_cases hk:x.kind<5
  ·rw[if_pos hk,if_neg (λh=>by have:=h.2;simp only at this;omega)];exact⟨λh=>absurd rfl h,λ_=>⟨[],by simp,by simp[foldA,lx]⟩⟩
  ·rw[if_neg hk,if_pos ⟨rfl,by simp only;omega⟩]
   exact⟨λ_=>rfl,λh=>by cases h⟩
 | m+1,x,l,h5=>by
  unfold chainR wholeD;by_cases hk:x.kind<5
  ·rw[if_pos hk,if_neg (λh=>by have:=h.2;simp only at this;omega)];exact⟨λh=>absurd rfl h,λ_=>⟨[],by simp,by simp[foldA,lx]⟩⟩
  ·rw[if_neg hk,if_pos ⟨rfl,by simp only;omega⟩];have hkn:=Dt k x;simp only;generalize b6 k x=y at *
   obtain⟨y,e⟩:=y;simp only at hkn |-;by_cases he:e=0
   ·subst he;obtain⟨i1,i2⟩:=G4 k m y (l++[x.data]) (hkn rfl).1;generalize chainR k m (y,0) (l++[x.data])=C at *
    rw[if_neg (by simp)];refine⟨λh=>?_,λh=>?_⟩
    ·rw[i1 h,if_pos (by simp only;omega)]
    ·obtain⟨ds,h1,h2⟩:=i2 h;refine⟨x.data::ds,by rw[h1];simp,?_⟩;rw[h2,List.reverse_cons,Cp];generalize foldA C.1.1.data ds.reverse=F;by_cases hF:F.2=0
     ·have e:lx C.1.1 F=(((C.1.1.kind:Nat):Int),F.1,0):=if_neg (λh=>h hF);rw[e];simp only;generalize Dl.fj F.1 x.data 65000=A;by_cases hA:A.2=0<;>simp[lx,hF,hA]
     ·have e:lx C.1.1 F=(0,[],((F.2:Nat):Int)):=if_pos hF;rw[e];simp[lx,hF]
   ·rw[A7 k he,if_pos he];exact⟨λ_=>rfl,λh=>absurd h he⟩
def entD (k:aO) (t:Bs):En×Nat:=
 match rowD t k.2.2.1 with
 | none=>(dR,7)
 | some r=>if(Pk.readP k.1 (r.2.1:Nat)).2=0/\(Pk.readP k.1 (r.2.1:Nat)).1.jZ.toNat≠r.2.2 then((Pk.readP k.1 (r.2.1:Nat)).1,5)else Pk.readP k.1 (r.2.1:Nat)
theorem wF {k:aO} (h:eP (k.2.2.1.map (·.1))) (t:Bs):(entD k t).2=(dy k t).2/\((dy k t).2=0->entD k t=dy k t):=by
 unfold entD dy;rw[yN t h]
 cases gZ t k.2.2.1 with
 | none=>exact⟨rfl,λ_=>rfl⟩
 | some r=>
  simp only;split;exact⟨rfl,λh=>by cases h⟩;exact⟨rfl,λ_=>rfl⟩
def tZ (k:aO) (id:Bs):Int×Bs×Int:=if(entD k id).2≠0 then(0,[],((entD k id).2:Nat))else lJ id (wholeD k 12 (entD k id).1)
theorem KK {k:Nat} {d:Bs} (h1:k<5) (h0:k≠0) (hd:d.length<=65000):ee (k:Int) d=0:=by
 have:Ob.bu (k:Int)≠[]:=by
  obtain rfl | rfl | rfl | rfl:k=1\/k=2\/k=3\/k=4:=acN
  all_goals (intro h;cases h)
 unfold ee;rw[if_neg this,if_neg acN]
theorem A8 (k:aO) (hk:gS k):∀(m:Nat) (x:En×Nat) (l:List Bs),(x.2=0->x.1.kind≠5/\x.1.kind≠0)->x.1.data.length<=65000/\x.1.base<=1099511627776->(chainR k m x l).1.2=0->(chainR k m x l).1.1.kind<5/\(chainR k m x l).1.1.kind≠0/\(chainR k m x l).1.1.data.length<=65000
 | 0,x,l,hx,hg=>by
  unfold chainR;split
  ·intro h;cases h
  ·rename_i h1;intro h;have hh:=hx h;have h6:¬6<=x.1.kind:=λh6=>h1 ⟨h,h6⟩;have h5:x.1.kind<5:=acN
   exact⟨h5,hh.2,hg.1⟩
 | m+1,x,l,hx,hg=>by
  unfold chainR;split;exact A8 k hk m _ _ (Dt k x.1) (xV k x.1 hk hg.2)
  ·rename_i h1;intro h;have hh:=hx h;have h6:¬6<=x.1.kind:=λh6=>h1 ⟨h,h6⟩;have h5:x.1.kind<5:=acN;exact⟨h5,hh.2,hg.1⟩
theorem Cn:∀(l:List Bs) (b:Bs),b.length<=65000->(foldA b l).1.length<=65000
 | [],_,h=>h
 | d::r,b,_=>by
  unfold foldA;split;exact ac9 _;exact Cn r _ (vD b d)
theorem Ud {k:aO} (hk:gS k) (h:eP (k.2.2.1.map (·.1))) (id:Bs):tZ k id=mq k id:=by
 obtain⟨e1,e2⟩:=wF h id;unfold tZ mq;rw[e1];have hE:=Dr k id;have hG:=sS k id hk;by_cases he:(dy k id).2=0
 ·rw[if_neg (λh=>h he),e2 he];generalize dy k id=x at *
  obtain⟨x,e⟩:=x;simp only at he hE hG;subst he;have hw:=G4 k 12 x [] (hE rfl).1;have hc:=A8 k hk 12 (x,0) [] (λ_=>hE rfl) hG;generalize chainR k 12 (x,0) []=C at *
  unfold nC;by_cases hC:C.1.2=0
  ·obtain⟨ds,h1,h2⟩:=hw.2 hC;obtain⟨c1,c2,c3⟩:=hc hC;rw[if_neg (λh=>h hC)];simp only[ady]at h1;rw[h1];simp only;rw[h2];have hl:=Cn ds.reverse C.1.1.data c3;generalize foldA C.1.1.data ds.reverse=F at *
   unfold lJ jM;by_cases hF:F.2=0
   ·have e:lx C.1.1 F=(((C.1.1.kind:Nat):Int),F.1,0):=if_neg (λh=>h hF);rw[e,hF];simp only;unfold kQ;rw[if_pos (KK c1 c2 hl)];rfl
   ·have e:lx C.1.1 F=(0,[],((F.2:Nat):Int)):=if_pos hF;rw[e,if_pos (by simp only;omega),if_pos (by simp only;omega)]
  ·rw[if_pos hC];simp only;rw[hw.1 hC];unfold lJ;rw[if_pos (by simp only;omega)]
 ·rw[if_pos he];unfold nC;generalize dy k id=x at *
  obtain⟨x,e⟩:=x;rw[A7 k he,if_pos he]
def packGetD (id:Bs):List aO->Int×Bs×Int
 | []=>(0,[],7)
 | k::r=>if(rowD id k.2.2.1).isSome=true then tZ k id else packGetD id r
theorem EA (id:Bs):∀{ps:List aO},(∀k∈ps,gS k)->eZ ps->packGetD id ps=packGet id ps
 | [],_,_=>rfl
 | k::r,hg,hp=>by
  have h1:=(hp k (ac6 ..)).2.1;unfold packGetD packGet;rw[yN id h1,Ud (hg k (ac6 ..)) h1 id,EA id (λp hp=>hg p (ada _ hp)) (λp hp'=>hp p (ada _ hp'))]
def da (l acc:List Bs):List Bs:=l.foldl (λo p=>putP p o) acc
def gK (t:Bs) (ps:List aO):List Bs:=ps.flatMap λk=>(k.2.2.1.map (·.1)).filter (aJ t)
def iD (t:Bs) (fs:List Fi) (ps:List aO):List Bs:=da (gK t ps) (da ((dG (cQ bH fs)).filter (aJ t)) [])
theorem uD (t:Bs):∀{ps:List aO},eZ ps->gK t ps=dw t ps
 | [],_=>rfl
 | k::r,h=>by
  unfold gK dw;rw[aey,aey,DM t (h k (ac6 ..)).2.1];have:=uD t (ps:=r) (λp hp=>h p (ada _ hp));unfold gK dw at this;rw[this]
theorem TD {L fs:List Fi} (hs:fi L) (hp:L.Perm fs) {ps:List aO} (h:eZ ps) (t:Bs):iD t fs ps=fw t L ps:=by
 have ho:dG (cQ bH fs)=dH (bU bH L):=by
  rw[zp hs hp,xM (λp hp=>(pA hp).1)]
 unfold iD fw da;rw[ho,uD t h];refine zg (s6 _ (s6 _ .nil)) (UE _) (λx=>?_);rw[s5,s5,Ep,adq];unfold jN;simp
def qQ (t:Bs) (l:List Bs):Bs×Int:=
 if t.length<4\/40<t.length\/gz (t++t)=false then([],4)
 else if l.length=0 then([],7)else if 1<l.length then([],8)else(l.getD 0 [],0)
theorem Ya (t:Bs) (l:List Bs):qQ t l=nJ t l:=by
 have h48:fv 48=true:=by decide
 have hr:∀n,(List.replicate n (48:UInt8)).all fv=true:=λn=>by
  rw[acZ];intro x hx;rw[(aeH.1 hx).2];exact h48
 have hc:(t.length<4\/40<t.length\/gz (t++t)=false)↔(t.length<4\/bJ (t++List.replicate (40-t.length) 48)=false):=by
  unfold bJ gz;rw[adU,adU,hr,acQ,acQ,adh];by_cases h4:t.length<4
  ·simp[h4]
  ·by_cases h40:40<t.length
   ·have:¬t.length+(40-t.length)=40:=acN;simp[h40,this]
   ·have e1:t.length+(40-t.length)=40:=acN;have e2:(t.length+t.length)%2=0:=acN;simp[h4,h40,e1,e2]
 unfold qQ nJ;by_cases h:t.length<4\/bJ (t++List.replicate (40-t.length) 48)=false
 ·rw[if_pos (hc.2 h),if_pos h]
 ·rw[if_neg (λh'=>h (hc.1 h')),if_neg h]
  match l with
  | []=>rfl
  | [x]=>rfl
  | x::y::r=>simp
def oX (r:Bs):Prop:=r.length=44/\r.drop 40=gM/\bJ (r.take 40)=true
theorem xn (p:Bs):oX (p.drop 18)↔¬(Lib.hasSuffix (p.drop 18) gM=false\/bJ (gE p)=false):=by
 unfold gE oX;generalize p.drop 18=r;have hsl:gM.length=4:=rfl;constructor
 ·rintro⟨h1,h2,h3⟩;have hs:Lib.hasSuffix r gM=true:=aeU.2 (h2▸List.drop_suffix 40 r)
  have ht:Lib.trimSuffix r gM=r.take 40:=by
   unfold Lib.trimSuffix;rw[if_pos hs,hsl,h1]
  rw[hs,ht,h3];simp
 ·intro h
  have hs:Lib.hasSuffix r gM=true:=by
   cases hh:Lib.hasSuffix r gM with
   | true=>rfl
   | false=>exact absurd (.inl hh) h
  have ht:Lib.trimSuffix r gM=r.take (r.length-4):=by
   unfold Lib.trimSuffix;rw[if_pos hs,hsl]
  have h3:bJ (r.take (r.length-4))=true:=by
   cases hh:bJ (r.take (r.length-4))with
   | true=>rfl
   | false=>exact absurd (.inr (by rw[ht];exact hh)) h
  have hl:=(pb h3).1;have hle:=(aeU.1 hs).length_le;rw[acS]at hl;have h44:r.length=44:=acN;rw[h44]at h3;have:=List.suffix_iff_eq_drop.1 (aeU.1 hs);rw[hsl,h44]at this;exact⟨h44,this.symm,h3⟩
def ug (k:aO):AV:=.agg [.str k.1,.ro 3 (cE k.2.2.1)]
def di (ps:List aO):List AV:=ps.map ug
theorem nG (ps:List aO):(di ps).length=ps.length:=by simp[di]
theorem Ef {ps:List aO} {i:Nat} (h:i<ps.length):nth (di ps) i=.agg [.str (ps.getD i fy).1,.ro 3 (cE (ps.getD i fy).2.2.1)]:=by
 simp[nth,di,ug,acO,h]
def rowDA:Option Rw->AV
 | none=>.af [.agg [.str [],.int .i64 0,.int .u32 0],.bool false]
 | some r=>.af [.agg [.str r.1,.int .i64 (r.2.1:Nat),.int .u32 (r.2.2:Nat)],.bool true]
theorem E6 (b:Bs) (L:List Rw) (t:Bs) (hl:L.length<=100000):ao Tryz.prog 61 [.agg [.str b,.ro 3 (cE L)],.str t] (rowDA (rowD t L)):=by
 refine Cod.Wp (λE R hN hR=>?_);obtain⟨RES,hRES⟩:∃X,X=rowD t L:=⟨_,rfl⟩;rw[<-hRES]at hR;refine ab @dL ?_;refine aD hN (λi:Nat=>⟨[(1,.str t),(4,.aa 275004 0),(9,.ro 3 (cE L)),(10,.int .i64 L.length),(11,.int .i64 i)],[(275004,.var [.str [],.int .i64 0,.int .u32 0])]⟩) (λi=>i<=L.length/\rowD t (L.drop i)=RES) (λi=>L.length-i) 0 (.le vV) ⟨ac9 _,hRES.symm⟩ ?_;clear hRES;rintro i R1 ⟨hi,hres⟩ hR1;by_cases hlt:i<L.length
 ·have hge:L[i]=L.getD i dx:=by rw[acO,List.getElem?_eq_getElem hlt];rfl
  rw[adt hlt,hge]at hres;unfold rowD at hres;have hnt:=kT hlt;generalize L.getD i dx=r at *
  by_cases hr:r.1=t
  ·rw[if_pos hr]at hres;subst hres;refine bp @dL hnt hr ?_;exact hR.ro ⟨rfl,by simp only[rowDA,hr]⟩
  ·rw[if_neg hr]at hres;refine bp @dL hnt hr ?_;exact hR1 (i+1) _ acN ⟨acN,hres⟩ (.le vV)
 ·obtain rfl:i=L.length:=acN;rw[afa]at hres;unfold rowD at hres;subst hres;refine wW ?_;exact hR.ro ⟨rfl,rfl⟩
theorem FD {t:Bs}:∀{L:List Rw} {r:Rw},rowD t L=some r->r∈L
 | [],_,h=>by cases h
 | x::l,r,h=>by
  unfold rowD at h;split at h
  ·cases h;exact ac6 ..
  exact ada _ (FD h)
theorem EX (k:aO) (t:Bs) (hk:gS k):ao Tryz.prog 62 [.agg [.str k.1,.ro 3 (cE k.2.2.1)],.str t] (.af [.agg (gw (entD k t).1),.int .i64 ((entD k t).2:Nat)]):=by
 refine Cod.Wg (λE R hN hR=>?_);have hf:=E6 k.1 k.2.2.1 t (by have:=hk.len;omega);have hat:=hk.at_;have hdl:=hk.dl;obtain⟨b,s,p⟩:=k;simp only at hf hat hdl hR |-;unfold entD at hR;simp only at hR;refine wW ?_
 cases hfp:rowD t p.1 with
 | none=>
  rw[hfp]at hf hR;refine ah hf rfl rfl ?_;simp(disch:=omega)only[go_sem,simprocAttr,rowDA];refine gG ?_
  exact hR.ro ⟨rfl,rfl⟩
 | some r=>
  have h1:=hat r (FD hfp);have hrd:=FJ b (r.2.1:Nat) acN ⟨acN,acN⟩;rw[hfp]at hf hR;simp only at hR;refine ah hf rfl rfl ?_;generalize Pk.readP b (r.2.1:Nat)=x at *
  obtain⟨x,e⟩:=x;simp only[gw]at hrd hR;simp(disch:=omega)only[go_sem,simprocAttr,rowDA];refine gG ?_;refine ah hrd rfl rfl ?_;by_cases he:e=0
  ·subst he;by_cases hc:x.jZ.toNat=r.2.2
   ·rw[if_neg (λh=>h.2 hc)]at hR;refine ab hc ?_;refine aV hc ?_;exact hR.ro ⟨rfl,by simp only[hc];rfl⟩
   ·rw[if_pos ⟨rfl,hc⟩]at hR;have hi:¬(x.jZ.toNat:Int)=(r.2.2:Int):=acN;refine ab hi ?_;refine aV hi ?_;exact hR.ro ⟨rfl,rfl⟩
  ·rw[if_neg (λh=>he h.1)]at hR;have hi:¬(e:Int)=0:=acN;refine ab hi ?_;refine aV hi ?_;exact hR.ro ⟨rfl,rfl⟩
def jw (k:aO) (x:En):En×Nat:=if x.kind=6 then Pk.readP k.1 (x.base:Nat)else entD k x.id
theorem TL {k:aO} (h:eP (k.2.2.1.map (·.1))) (x:En):(jw k x).2=(b6 k x).2/\((b6 k x).2=0->jw k x=b6 k x):=by
 unfold jw b6;split;exact⟨rfl,λ_=>rfl⟩;exact wF h x.id
theorem zI (k:aO):∀(m:Nat) (x:En),0<=(wholeD k m x).1/\(wholeD k m x).1<=4
 | 0,x=>by
  unfold wholeD;split;exact⟨by simp only;omega,by simp only;omega⟩
  ·simp
 | m+1,x=>by
  unfold wholeD;split;exact⟨by simp only;omega,by simp only;omega⟩
  ·split
   ·simp
   ·split
    ·simp
    ·split
     ·simp
     exact zI k m _
theorem G5 (k:aO) (m:Nat) (x:En) (h:x.data.length<=65000):(wholeD k m x).2.1.length<=65000:=by
 cases m with
 | zero=>
  unfold wholeD;split;exact h
  ·simp
 | succ m=>
  unfold wholeD;split;exact h
  ·split
   ·simp
   ·split
    ·simp
    ·split
     ·simp
     exact vD _ _
set_option maxHeartbeats 2000000 in
theorem Ws (k:aO) (hk:gS k) (hst:eP (k.2.2.1.map (·.1))):∀(m:Nat) (x:En) (a:Nat),m+a=12->x.data.length<=65000->x.base<=1099511627776 ->
    ao Tryz.prog 63 [.agg [.str k.1,.ro 3 (cE k.2.2.1)],.agg (gw x),.int .i64 a] (eh (wholeD k m x)):=by
 intro m
 induction m with
 | zero=>
  intro x a ha hxd hxb;refine Cod.E7 (λE R hN hR=>?_);simp only[gw];unfold wholeD at hR;obtain rfl:a=12:=acN;by_cases hk5:x.kind<5
  ·rw[if_pos hk5]at hR;have i1:(x.kind:Int)<5:=acN;refine ab i1 ?_;exact hR.ro ⟨rfl,rfl⟩
  ·rw[if_neg hk5]at hR;have i1:¬(x.kind:Int)<5:=acN;refine ab i1 ?_
   exact hR.ro ⟨rfl,rfl⟩
 | succ m ih=>
  intro x a ha hxd hxb;refine Cod.E7 (λE R hN hR=>?_);simp only[gw];unfold wholeD at hR;by_cases hk5:x.kind<5
  ·rw[if_pos hk5]at hR;have i1:(x.kind:Int)<5:=acN;refine ab i1 ?_;exact hR.ro ⟨rfl,rfl⟩
  rw[if_neg hk5]at hR;have i1:¬(x.kind:Int)<5:=acN;have i2:¬(a:Int)=12:=acN;obtain⟨n1,n2⟩:=TL hst x;have hng:=xV k x hk hxb;refine aE i1 i2 ?_
  refine cf (y:=Cod.Wr) hN (λ_:Unit=>⟨[(2,.int .i64 a),(3,.aa 277003 0),(4,.aa 277004 0),(6,.aa 277006 0),(8,.aa 277008 0),(9,.int .i64 ((jw k x).2:Nat))],
   [(277003,.var [.str k.1,.ro 3 (cE k.2.2.1)]),(277004,.var [.int .i64 x.at_,.int .i64 x.next,.int .i64 x.kind,.str x.data,.int .i64 x.base,.str x.id,.int .u32 x.jZ.toNat]),(277006,.var [.int .i64 0,.str []]),(277008,.var [.int .i64 (jw k x).1.at_,.int .i64 (jw k x).1.next,.int .i64 (jw k x).1.kind,.str (jw k x).1.data,.int .i64 (jw k x).1.base,.str (jw k x).1.id,.int .u32 (jw k x).1.jZ.toNat])]⟩) (λ_=>True) (λR2 hR2=>?_) (λ_ _=>?_)
  ·have hdl:=hk.dl;by_cases h6:x.kind=6
   ·have hne:jw k x=Pk.readP k.1 (x.base:Nat):=if_pos h6;have hrd:=FJ k.1 (x.base:Nat) acN ⟨acN,acN⟩;rw[hne]at hR2;generalize Pk.readP k.1 (x.base:Nat)=y at *
    simp only[gw]at hrd;have j6:(x.kind:Int)=6:=acN;refine ab j6 ?_;refine ah hrd rfl rfl ?_;refine wW ?_;exact hR2 () _ trivial (.le vV)
   ·have hne:jw k x=entD k x.id:=if_neg h6;have hen:=EX k x.id hk;rw[hne]at hR2;generalize entD k x.id=y at *
    simp only[gw]at hen;have j6:¬(x.kind:Int)=6:=acN;refine ab j6 ?_;refine ah hen rfl rfl ?_;refine wW ?_;exact hR2 () _ trivial (.le vV)
  ·rw[n1];by_cases he:(b6 k x).2=0;rotate_left
   ·rw[if_pos he]at hR;generalize (b6 k x).2=e at *
    have i3:¬(e:Int)=0:=acN;refine ab i3 ?_;exact hR.ro ⟨rfl,rfl⟩
   rw[if_neg (λh=>h he)]at hR;rw[n2 he,he];have hw:=ih (b6 k x).1 (a+1) acN hng.1 hng.2;have hwl:=G5 k m (b6 k x).1 hng.1;have hwk:=zI k m (b6 k x).1;simp only[gw]at hw;generalize wholeD k m (b6 k x).1=W at *
   obtain⟨wk,wd,we⟩:=W;unfold eh dV at hw;simp only at hw hwl hR;generalize (b6 k x).1=y at *
   refine wW ?_;refine ah hw rfl rfl ?_;by_cases hwe:we=0;rotate_left
   ·rw[if_pos hwe]at hR;refine ab hwe ?_;exact hR.ro ⟨rfl,rfl⟩
   rw[if_neg (λh=>h hwe)]at hR;have hap:=Dl.V6 wd x.data 65000 acN acN (by decide);generalize Dl.fj wd x.data 65000=A at *
   refine ab hwe ?_;refine ah hap rfl rfl ?_;by_cases hA:A.2=0
   ·rw[if_neg (λh=>h hA)]at hR;have j0:(A.2:Int)=0:=acN;refine ab j0 ?_;exact hR.ro ⟨rfl,rfl⟩
   ·rw[if_pos hA]at hR;have j0:¬(A.2:Int)=0:=acN;refine ab j0 ?_;exact hR.ro ⟨rfl,rfl⟩
def qo (fs:List Fi) (ps:List aO) (id:Bs):Int×Bs×Int:=if(ns id fs).2.2≠7 then ns id fs else packGetD id ps
theorem get_eq {L fs:List Fi} (hs:fi L) (hp:L.Perm fs) {ps:List aO} (hg:∀k∈ps,gS k) (hk:eZ ps) (id:Bs):qo fs ps id=kK L ps id:=by
 unfold qo kK;rw[look_eq hs hp,EA id hg hk]
set_option maxHeartbeats 2000000 in
theorem Wh (fs:List Fi) (ps:List aO) (id:Bs) (hl:fs.length<=100000) (hd:∀f∈fs,f.2.length<=1000000) (hg:∀k∈ps,gS k) (hk:eZ ps) (hpl:ps.length<=100000) (hi:id.length<=140737488351232) :
    ao Tryz.prog 23 [.ro 2 (a8 fs),.ro 2 (di ps),.str id] (eh (qo fs ps id)):=by
 refine Cod.Wi (λE R hN hR=>?_);have hlr:=Xr fs id hl hd hi;unfold qo at hR;generalize ns id fs=X at *
 obtain⟨xk,xd,xe⟩:=X;unfold eh dV at hlr hR;simp only at hlr hR;refine wW ?_;refine ah hlr rfl rfl ?_;by_cases he:xe=7;rotate_left
 ·rw[if_pos he]at hR;refine ab he ?_;exact hR.ro ⟨rfl,rfl⟩
 rw[if_neg (λh=>h he)]at hR;subst he;refine ab @nG ?_;obtain⟨RES,hRES⟩:∃X,X=packGetD id ps:=⟨_,rfl⟩;rw[<-hRES]at hR
 refine aD hN (λi:Nat=>⟨[(2,.str id),(6,.aa 278006 0),(28,.ro 2 (di ps)),(29,.int .i64 ps.length),(30,.int .i64 i)],[(278006,.var [.int .i64 0,.str []])]⟩)
  (λi=>i<=ps.length/\packGetD id (ps.drop i)=RES) (λi=>ps.length-i) 0 (.le vV) ⟨ac9 _,hRES.symm⟩ ?_
 clear hRES;rintro i R1 ⟨hil,hres⟩ hR1;by_cases hlt:i<ps.length
 ·have hgm:=dT fy hlt;have hgi:gS (ps.getD i fy):=hg _ hgm;have hst:=(hk _ hgm).2.1;rw[adt hlt]at hres;have hge:ps[i]=ps.getD i fy:=by rw[acO,List.getElem?_eq_getElem hlt];rfl
  rw[hge]at hres;unfold packGetD at hres;obtain⟨k,hk⟩:∃k,k=ps.getD i fy:=⟨_,rfl⟩;rw[<-hk]at hgi hres hst;have hf:=E6 k.1 k.2.2.1 id (by have:=hgi.len;omega);have hen:=EX k id hgi;obtain⟨ee1,ee2⟩:=wF hst id;have heg:=sS k id hgi;have hnx:nth (di ps) i=.agg [.str k.1,.ro 3 (cE k.2.2.1)]:=by rw[Ef hlt,hk]
  refine aE @nG hnx ?_
  cases hfp:rowD id k.2.2.1 with
  | none=>
   rw[hfp]at hf hres;refine ah hf rfl rfl ?_;simp(disch:=omega)only[go_sem,simprocAttr,rowDA]
   exact hR1 (i+1) _ acN ⟨acN,hres⟩ (.le vV)
  | some r=>
   rw[hfp]at hf hres;simp only[adl,if_true]at hres;unfold tZ at hres;refine ah hf rfl rfl ?_;by_cases he:(entD k id).2=0;rotate_left
   ·rw[if_pos he]at hres;subst hres;generalize entD k id=x at *
    simp only[gw]at hen;have i1:¬(x.2:Int)=0:=acN;simp(disch:=omega)only[go_sem,simprocAttr,rowDA];refine ah hen rfl rfl ?_;refine ab i1 ?_;exact hR.ro ⟨rfl,rfl⟩
   rw[if_neg (λh=>h he)]at hres;have hed:=ee2 (by rw[<-ee1];exact he);rw[hed]at hres hen he;have hw:=Ws k hgi hst 12 (dy k id).1 0 rfl heg.1 heg.2;have hwl:=G5 k 12 (dy k id).1 heg.1;have hwk:=zI k 12 (dy k id).1;generalize dy k id=x at *
   simp only[gw]at hen hw;have i1:(x.2:Int)=0:=acN;generalize wholeD k 12 x.1=W at *
   obtain⟨wk,wd,we⟩:=W;unfold eh dV at hw;simp only at hw hwl hwk;rw[show((0:Nat):Int)=0 from rfl]at hw;unfold lJ at hres;simp only at hres;simp(disch:=omega)only[go_sem,simprocAttr,rowDA];refine ah hen rfl rfl ?_;refine ab i1 ?_;refine ah hw rfl rfl ?_;by_cases hwe:we=0;rotate_left
   ·rw[if_pos hwe]at hres;subst hres;refine ab hwe ?_;exact hR.ro ⟨rfl,rfl⟩
   rw[if_neg (λh=>h hwe)]at hres;have hri:=Fx wk wd acN acN hwl;unfold dV at hri;generalize Sh.bC (Sh.cY (gN wk wd))=is at *
   refine ab hwe ?_;refine ah hri rfl rfl ?_;by_cases hx:is=id
   ·rw[if_pos hx]at hres;subst hres;refine ab hx ?_;exact hR.ro ⟨rfl,rfl⟩
   ·rw[if_neg hx]at hres;subst hres;refine ab hx ?_;exact hR.ro ⟨rfl,rfl⟩
 ·obtain rfl:i=ps.length:=acN;rw[afa]at hres;unfold packGetD at hres;subst hres;refine wW ?_;exact hR.ro ⟨rfl,rfl⟩
theorem s4 (acc:List Bs):da [] acc=acc:=rfl
theorem Co (x:Bs) (l acc:List Bs):da (l++[x]) acc=putP x (da l acc):=by unfold da;rw[afu];rfl
theorem N0 (l m acc:List Bs):da (l++m) acc=da m (da l acc):=by unfold da;rw[afu]
theorem na:∀(l acc:List Bs),(da l acc).length<=acc.length+l.length
 | [],acc=>by rw[s4];simp
 | x::l,acc=>by
  have h1:=na l (putP x acc);have h2:=yp x acc
  show(da l (putP x acc)).length<=_
  rw[adb];omega
theorem B9 {α:Type} (d:α) (f:α->Bs) (p:Bs->Bool) {l:List α} {i:Nat} (h:i<l.length):((l.take (i+1)).map f).filter p=if p (f (l.getD i d))=true then((l.take i).map f).filter p++[f (l.getD i d)]else((l.take i).map f).filter p:=by
 rw[dj d l h,adr,adG];split
 ·rename_i hp;rw[adi,adw hp];rfl
 ·rename_i hp;rw[adi,adj hp];simp
theorem YG (t:Bs) {ps:List aO} {j:Nat} (h:j<ps.length):gK t (ps.take (j+1))=gK t (ps.take j)++((ps.getD j fy).2.2.1.map (·.1)).filter (aJ t):=by
 unfold gK;rw[dj fy ps h,afl];simp
set_option maxHeartbeats 2000000 in
theorem EY (fs:List Fi) (ps:List aO) (t:Bs) (hl:fs.length<=100) (hp:∀f∈fs,f.1.length<=9223372036854775807) (hk:eZ ps) (hpl:ps.length<=80) (ht:t.length<=140737488351232) (hu:∀x∈dG (cQ bH fs),x.length<=1000) :
    Eng.Spec Tryz.prog 19 [] [.ro 2 (a8 fs),.ro 2 (di ps),.str t] (λh r ar=>h=[(228009,.arr 1 (au (iD t fs ps)))]/\r=.sl 228009 0 (iD t fs ps).length/\ar=[.undef,.undef,.undef]):=by
 refine Cod.Wj (λE R hN hR=>?_);have hli:=Xn fs acN hp;have hul:=xL (cQ bH fs);have hul2:=uX bH fs;unfold iD at hR;generalize dG (cQ bH fs)=U at *
 refine wW ?_;refine ah hli rfl rfl ?_;refine ab @aZ ?_
 refine aD hN (λi:Nat=>⟨[(1,.ro 2 (di ps)),(2,.str t),(7,.sl 228009 0 (da (((U.take i).map id).filter (aJ t)) []).length),(16,.ro 1 (au U)),(17,.int .i64 U.length),(18,.int .i64 i)],[(228009,.arr 1 (au (da (((U.take i).map id).filter (aJ t)) [])))]⟩) (λi=>i<=U.length) (λi=>U.length-i) 0
  (.jx 279014 228009 rfl rfl (.le (by simp(disch:=omega)only[go_sem,simprocAttr,adI,ad8,adQ,s4,lT,adn]))) (ac9 _) ?_
 rintro i R1 hi hR1;by_cases hlt:i<U.length
 ·have hx:=B9 [] id (aJ t) hlt;have hfl:=na (((U.take i).map id).filter (aJ t)) []
  have hfl2:(((U.take i).map id).filter (aJ t)).length<=i:=by
   have:=adH (aJ t) ((U.take i).map id);rw[ac7,acS]at this;omega
  have hxm:=hu _ (dT [] hlt);simp only[id]at hx;generalize hO:((U.take i).map id).filter (aJ t)=O at *
  obtain⟨x,hxe⟩:∃x,x=U.getD i []:=⟨_,rfl⟩;rw[<-hxe]at hx hxm;have hb:=yx x t acN acN;have hput:=yy (da O []) x (by simp at hfl;omega);simp(disch:=omega)only[go_sem,simprocAttr,aZ,fA,<-hxe];refine ah hb rfl rfl ?_
  cases hbb:aJ t x with
  | false=>
   rw[hbb,if_neg (by simp)]at hx;refine wW ?_
   exact hR1 (i+1) _ acN acN (.le (by rw[hx];exact vV))
  | true=>
   rw[hbb,if_pos rfl]at hx;refine wW ?_;refine ln ⟨[(26,.str x),(25,.ro 1 (au (da O []))),(1,.ro 2 (di ps)),(2,.str t),(16,.ro 1 (au U)),(17,.int .i64 U.length),(18,.int .i64 i)],[]⟩ (.bj 228009 (.le (mH @nP @aZ @dM))) rfl ?_;refine aI [] hput trivial (λ_=>rfl) ?_;rintro h' v ar ⟨rfl,rfl,rfl⟩;refine wW ?_;exact hR1 (i+1) _ acN acN (.le (by rw[hx,Co];exact vV))
 ·obtain rfl:i=U.length:=acN;rw[acP (acT _),List.map_id];obtain⟨A,hA⟩:∃A,A=da (U.filter (aJ t)) []:=⟨_,rfl⟩
  have hAl:A.length<=U.length:=by
   have h1:=na (U.filter (aJ t)) [];have h2:=adH (aJ t) U;rw[hA];simp at h1;omega
  rw[<-hA]at hR;rw[<-hA]
  have hrl:∀j,(gK t (ps.take j)).length<=1000*80:=λj=>by
   rw[uD t (yj hk j)];have h1:=qv t (yj hk j);rw[acS]at h1;have:1000*min j ps.length<=1000*80:=aem _ acN;omega
  refine ab @nG ?_;refine aD hN (λj:Nat=>⟨[(2,.str t),(7,.sl 228009 0 (da (gK t (ps.take j)) A).length),(29,.ro 2 (di ps)),(30,.int .i64 ps.length),(31,.int .i64 j)],[(228009,.arr 1 (au (da (gK t (ps.take j)) A)))]⟩) (λj=>j<=ps.length) (λj=>ps.length-j) 0 (.le (by simp(disch:=omega)only[go_sem,simprocAttr,adI,show gK t []=[]from rfl,s4])) (ac9 _) ?_;rintro j R2 hj hR2;by_cases hjl:j<ps.length
  ·have hsn:=YG t hjl;have hkm:=hk _ (dT fy hjl);have hfj:=na (gK t (ps.take j)) A;have hrj:=hrl j;obtain⟨k,hke⟩:∃k,k=ps.getD j fy:=⟨_,rfl⟩;rw[<-hke]at hsn hkm;obtain⟨g1,g2,g3⟩:=hkm;have hnx:nth (di ps) j=.agg [.str k.1,.ro 3 (cE k.2.2.1)]:=by rw[Ef hjl,hke]
   obtain⟨B,hB⟩:∃B,B=da (gK t (ps.take j)) A:=⟨_,rfl⟩;rw[<-hB]at hfj;rw[<-hB];have hBn:da (gK t (ps.take (j+1))) A=da ((k.2.2.1.map (·.1)).filter (aJ t)) B:=by rw[hsn,N0,hB]
   obtain⟨L,hL⟩:∃L,L=k.2.2.1:=⟨_,rfl⟩;rw[<-hL]at g1 g2 g3 hnx hBn;refine bp @nG hnx @dL ?_
   refine aD hN (λi:Nat=>⟨[(2,.str t),(7,.sl 228009 0 (da (((L.take i).map (·.1)).filter (aJ t)) B).length),(29,.ro 2 (di ps)),(30,.int .i64 ps.length),(31,.int .i64 j),(36,.ro 3 (cE L)),(37,.int .i64 L.length),(38,.int .i64 i)],[(228009,.arr 1 (au (da (((L.take i).map (·.1)).filter (aJ t)) B)))]⟩) (λi=>i<=L.length) (λi=>L.length-i) 0
    (.le (by simp(disch:=omega)only[go_sem,simprocAttr,adI,ad8,adQ,s4])) (ac9 _) ?_
   rintro i R3 hi hR3;by_cases hil:i<L.length
   ·have hx:=B9 dx (·.1) (aJ t) hil;have hfl:=na (((L.take i).map (·.1)).filter (aJ t)) B
    have hfl2:(((L.take i).map (·.1)).filter (aJ t)).length<=i:=by
     have:=adH (aJ t) ((L.take i).map (·.1));rw[ac7,acS]at this;omega
    have hnr:=kT hil;have hxm:=(xm (g3 _ (dT dx hil))).1;obtain⟨r,hre⟩:∃r,r=L.getD i dx:=⟨_,rfl⟩;rw[<-hre]at hx hnr hxm;generalize hO:((L.take i).map (·.1)).filter (aJ t)=O at *
    have hb:=yx r.1 t acN acN;have hput:=yy (da O B) r.1 acN;refine aE @dL hnr ?_;refine ah hb rfl rfl ?_
    cases hbb:aJ t r.1 with
    | false=>
     rw[hbb,if_neg (by simp)]at hx;refine wW ?_
     exact hR3 (i+1) _ acN acN (.le (by rw[hx];exact vV))
    | true=>
     rw[hbb,if_pos rfl]at hx;refine wW ?_;refine ln ⟨[(48,.str r.1),(46,.ro 1 (au (da O B))),(2,.str t),(29,.ro 2 (di ps)),(30,.int .i64 ps.length),(31,.int .i64 j),(36,.ro 3 (cE L)),(37,.int .i64 L.length),(38,.int .i64 i)],[]⟩ (.bj 228009 (.le (mH @nP @aZ @dM))) rfl ?_;refine aI [] hput trivial (λ_=>rfl) ?_;rintro h' v ar ⟨rfl,rfl,rfl⟩;refine wW ?_;exact hR3 (i+1) _ acN acN (.le (by rw[hx,Co];exact vV))
   ·obtain rfl:i=L.length:=acN;rw[acP (acT _),<-hBn];refine wW ?_;exact hR2 (j+1) _ acN acN (.le vV)
  ·obtain rfl:j=ps.length:=acN;rw[acP (acT _)];refine wW ?_;exact hR.wk (h':=[(228009,.arr 1 (au (da (gK t ps) A)))]) (r':=.sl 228009 0 (da (gK t ps) A).length) (ar':=[.undef,.undef,.undef]) rfl (.le vV) ⟨rfl,rfl,rfl⟩
theorem EZ (fs:List Fi) (ps:List aO) (t:Bs) (hl:fs.length<=100) (hp:∀f∈fs,f.1.length<=9223372036854775807) (hk:eZ ps) (hpl:ps.length<=80) (ht:t.length<=140737488351232) (hu:∀x∈dG (cQ bH fs),x.length<=1000) :
    ao Tryz.prog 19 [.ro 2 (a8 fs),.ro 2 (di ps),.str t] (.ro 1 (au (iD t fs ps))):=by
 refine ri ?_
 have hm:∀{h:HP} {r:AV} {ar:List AV},(h=[(228009,.arr 1 (au (iD t fs ps)))]/\r=.sl 228009 0 (iD t fs ps).length/\ar=[.undef,.undef,.undef])->∃h2 r2 as2,as2.length=ar.length/\Wk ⟨(0,r)::numbered 1 ar,h⟩ ⟨(0,r2)::numbered 1 as2,h2⟩/\(h2=[]/\r2=.ro 1 (au (iD t fs ps))):=by
  rintro h r ar ⟨rfl,rfl,rfl⟩;exact⟨[],.ro 1 (au (iD t fs ps)),[.undef,.undef,.undef],rfl,.bj 228009 (.le (cn @nP)),rfl,rfl⟩
 intro X0 ρ w vs h1 hA h2 h3 h4;refine(EY fs ps t hl hp hk hpl ht hu X0 ρ w vs h1 hA h2 h3 h4).mono ?_;rintro e w' ⟨v,h',r,ρ',ar,q1,q2,q3⟩;exact⟨v,h',r,ρ',ar,q1,hm q2,q3⟩
theorem TA {fs:List Fi} {ps:List aO} (t:Bs) (hl:fs.length<=100) (hk:eZ ps) (hpl:ps.length<=80):(iD t fs ps).length<=100000:=by
 unfold iD;have h1:=na (gK t ps) (da ((dG (cQ bH fs)).filter (aJ t)) []);have h2:=na ((dG (cQ bH fs)).filter (aJ t)) [];have h3:=adH (aJ t) (dG (cQ bH fs));have h4:=xL (cQ bH fs);have h5:=uX bH fs;have h6:=qv t hk;rw[<-uD t hk]at h6;have h7:1000*ps.length<=1000*80:=aem _ hpl;simp at h2;omega
theorem Wn (fs:List Fi) (ps:List aO) (t:Bs) (hl:fs.length<=100) (hp:∀f∈fs,f.1.length<=9223372036854775807) (hk:eZ ps) (hpl:ps.length<=80) (ht:t.length<=140737488351232) (hu:∀x∈dG (cQ bH fs),x.length<=1000) :
    ao Tryz.prog 22 [.ro 2 (a8 fs),.ro 2 (di ps),.str t] (.af [.str (qQ t (iD t fs ps)).1,.int .i64 (qQ t (iD t fs ps)).2]):=by
 refine Cod.Wo (λE R hN hR=>?_);have hns:=EZ fs ps t hl hp hk hpl ht hu;have hnl:=TA (fs:=fs) t hl hk hpl;have hhx:=E8 (t++t) (by rw[acQ];omega);unfold qQ at hR;generalize iD t fs ps=l at *
 by_cases h4:t.length<4
 ·rw[if_pos (.inl h4)]at hR;have i1:(t.length:Int)<4:=acN;refine ab i1 ?_;refine aV i1 ?_;exact hR.ro ⟨rfl,rfl⟩
 have i1:¬(t.length:Int)<4:=acN;by_cases h40:40<t.length
 ·rw[if_pos (.inr (.inl h40))]at hR;have i2:(40:Int)<(t.length:Int):=acN;refine aE i1 i2 ?_;refine cO i1 i2 ?_;exact hR.ro ⟨rfl,rfl⟩
 have i2:¬(40:Int)<(t.length:Int):=acN;refine aE i1 i2 ?_;refine cO i1 i2 ?_;refine eI (gq vV hhx vV rfl rfl ?_)
 cases hxx:gz (t++t)with
 | false=>
  rw[if_pos (.inr (.inr hxx))]at hR;refine wW ?_;refine gG ?_
  exact hR.ro ⟨rfl,rfl⟩
 | true=>
  rw[if_neg (by rw[hxx];simp;omega)]at hR;refine wW ?_;refine gG ?_;refine ah hns rfl rfl ?_;by_cases h0:l.length=0
  ·rw[if_pos h0]at hR;have j0:(l.length:Int)=0:=acN;refine aE @aZ j0 ?_;exact hR.ro ⟨rfl,rfl⟩
  rw[if_neg h0]at hR;have j0:¬(l.length:Int)=0:=acN;by_cases h1:1<l.length
  ·rw[if_pos h1]at hR;have j1:(1:Int)<(l.length:Int):=acN;refine bp @aZ j0 j1 ?_;exact hR.ro ⟨rfl,rfl⟩
  ·rw[if_neg h1]at hR;have j1:¬(1:Int)<(l.length:Int):=acN;refine bV @aZ j0 j1 @fA ?_;exact hR.ro ⟨rfl,rfl⟩
theorem KZ (s:Bs):eH s=((((countP s).1:Nat):Int),(((countP s).2:Nat):Int)):=by
 unfold eH countP;by_cases h32:s.length<32
 ·rw[if_pos h32,if_pos h32];rfl
 rw[if_neg h32,if_neg h32];have hh:=CQ s acN
 show(if s.take 4≠[80,65,67,75]then((0:Int),(3:Int))else if cU ((s.drop 4).take 4)≠2 then(0,3)else if 1000<cU ((s.drop 8).take 4)then(0,2)else if Sh.cY (s.take (s.length-20))≠s.drop (s.length-20)then(0,5)else((cU ((s.drop 8).take 4):Nat),0))=_
 by_cases h8:s.take 8=nF
 ·obtain⟨h1,h2⟩:=hh.1 h8;rw[if_neg (λh=>h h1),if_neg (λh=>h h2),if_neg (show ¬s.take 8≠nF from λh=>h h8)];by_cases a:1000<cU ((s.drop 8).take 4)
  ·rw[if_pos a,if_pos a];rfl
  rw[if_neg a,if_neg a];by_cases c:Sh.cY (s.take (s.length-20))=s.drop (s.length-20)
  ·rw[if_neg (λh=>h c),if_neg (show ¬Sh.cY (s.take (s.length-20))≠s.drop (s.length-20)from λh=>h c)];rfl
  ·rw[if_pos c,if_pos (show Sh.cY (s.take (s.length-20))≠s.drop (s.length-20)from c)];rfl
 ·rw[if_pos h8];by_cases h1:s.take 4=[80,65,67,75]
  ·rw[if_neg (λh=>h h1),if_pos (λh2=>h8 (hh.2 ⟨h1,h2⟩))];rfl
  ·rw[if_pos h1];rfl
theorem EE {ps:List aO}:(di ps).all aL=true:=by simp[di,ug,aL,cellsOf,isCell]
theorem Vb {ps:List aO} {d t:Bs} {x:List Rw×Bs}:di ps++[.agg [.str d,.ro 3 (cE x.1)]]=di (ps++[(d,t,x)]):=by simp[di,ug]
theorem Vc:di []=[]:=(rfl)
theorem EF (ps:List aO):aB (di ps) 0 ps.length=di ps:=by
 unfold aB;rw[ado,acP (by rw[nG];omega)]
def openA:Except Int (List aO)->AV
 | .error e=>.af [.al,.int .i64 e]
 | .ok ps=>.af [.ro 2 (di ps),.int .i64 0]
set_option maxHeartbeats 4000000 in
theorem r13open_gen {L fs:List Fi} {U:List Bs} (hun:ao Tryz.prog 53 [.ro 2 (a8 fs),.str eW] (.ro 1 (au U))) (hum:∀p∈U,p.length<=140737488351232/\18<=p.length) (hul:U.length<=10000)
    (hgl:∀q d,getF q L=some d->d.length<=100000) (hrg:∀q,ao Tryz.prog 51 [.ro 2 (a8 fs),.str q] (ua (getF q L))) :
    ao Tryz.prog 18 [.ro 2 (a8 fs)] (openA (packsP L U U.length)):=by
 refine Cod.Wm (λE R hN hR=>?_);have bad:∀{h} (e:Int),packsP L U U.length=.error e->R h (.af [.al,.int .i64 e]) [.undef]:=λe he=>hR.ro ⟨rfl,by rw[he];rfl⟩;refine wW ?_;refine ah hun rfl rfl ?_;refine ab @aZ ?_
 refine aD hN (λp:Nat×List aO=>⟨[(0,.ro 2 (a8 fs)),(4,.sl 274017 0 p.2.length),(19,.ro 1 (au U)),(20,.int .i64 U.length),(21,.int .i64 p.1)],[(274017,.arr 2 (di p.2))]⟩)
  (λp=>p.1<=U.length/\packsP L U p.1=.ok p.2) (λp=>U.length-p.1) (0,[]) (.le (cn @Vc)) ⟨acN,rfl⟩ ?_
 rintro⟨k,ps⟩ R1 ⟨hk,hps⟩ hR1;simp only at hk hps;have hpl:=uj hps;by_cases hlt:k<U.length
 ·obtain⟨h1,h2⟩:=hum _ (dT [] hlt)
  have hst:∀r,stepP L (U.getD k [])=r->packsP L U (k+1)=match r with
   | .error e=>.error e
   | .ok none=>.ok ps
   | .ok (some p)=>.ok (ps++[p]):=λr hr=>by rw[packsP,hps];simp only[hr];rfl
  obtain⟨p,hpe⟩:∃p,p=U.getD k []:=⟨_,rfl⟩;rw[<-hpe]at h1 h2 hst;have hi:(18:Int)<=(p.length:Int):=acN;have badk:∀{h} (e:Int),stepP L p=.error e->R h (.af [.al,.int .i64 e]) [.undef]:=λe he=>bad e (yh (by omega:k+1<=U.length) (hst (.error e) he))
  have skip:¬oX (p.drop 18)->∀st',Wk st' ⟨[(0,.ro 2 (a8 fs)),(4,.sl 274017 0 ps.length),(19,.ro 1 (au U)),(20,.int .i64 U.length),(21,.int .i64 ((k+1:Nat):Int))],[(274017,.arr 2 (di ps))]⟩->R1.ap st':=λhno st' hw=>
   hR1 (k+1,ps) _ (by simp only;omega) ⟨by simp only;omega,hst (.ok none) (by
    unfold stepP
    rw[if_pos (by
     by_cases hq:Lib.hasSuffix (p.drop 18) gM=false\/bJ (gE p)=false;exact hq
     ·exact absurd ((xn p).2 hq) hno)])⟩ hw
  have hrl:(p.drop 18).length=p.length-18:=acU
  have hnm:oX (p.drop 18)->gE p=(p.drop 18).take 40:=λh=>by
   have hs1:=(xn p).1 h
   have hsf:Lib.hasSuffix (p.drop 18) gM=true:=by
    cases hh:Lib.hasSuffix (p.drop 18) gM with
    | true=>rfl
    | false=>exact absurd (.inl hh) hs1
   unfold gE Lib.trimSuffix;rw[if_pos hsf,h.1];rfl
  have hsp:oX (p.drop 18)->stepP L p=(match dr ((getF p L).getD [])with
      | .error e=>.error e
      | .ok x=>match getF (eW++(p.drop 18).take 40++mD) L with
       | none=>.error 7
       | some d=>
        if(eH d).2≠0 then .error (eH d).2
        else if(eH d).1≠(x.1.length:Int)then .error 4
        else if Sh.bC (d.drop (d.length-20))≠x.2 then .error 5
        else .ok (some (d,(getF p L).getD [],x))):=λh=>by
   rw[<-hnm h];unfold stepP;rw[if_neg ((xn p).1 h)];rfl
  have hri:=yz ((p.drop 18).take 40) (by rw[acS];omega);have hidx:oX (p.drop 18)↔(p.drop 18).length=44/\(p.drop 18).drop 40=gM/\bJ ((p.drop 18).take 40)=true:=Iff.rfl;generalize hr:p.drop 18=r at *
  simp(disch:=first | omega | (simp only[Lx];omega))only[go_sem,simprocAttr,aZ,fA,<-hpe,hi,hr];by_cases c1:r.length=44;rotate_left
  ·have i1:¬(r.length:Int)=44:=acN;refine ab i1 ?_;refine aV i1 ?_;exact skip (λh=>c1 (hidx.1 h).1) _ (.le vV)
  have i1:(r.length:Int)=44:=acN;by_cases c2:r.drop 40=[46,105,100,120];rotate_left
  ·refine aE i1 c2 ?_;refine cO i1 c2 ?_;exact skip (λh=>c2 (hidx.1 h).2.1) _ (.le vV)
  refine aE i1 c2 ?_;refine cO i1 c2 ?_;refine eI (gq vV hri vV rfl rfl ?_)
  cases c3:bJ (r.take 40)with
  | false=>
   refine wW ?_;refine gG ?_
   exact skip (λh=>by rw[c3]at hidx;exact absurd (hidx.1 h).2.2 (by simp)) _ (.le vV)
  | true=>
   have hsp:=hsp (hidx.2 ⟨c1,c2,c3⟩)
   have htl:((getF p L).getD []).length<=100000:=by
    cases hg:getF p L with
    | none=>simp
    | some d=>exact hgl _ _ hg
   have hg1:=hrg p;unfold ua at hg1;obtain⟨t,ht⟩:∃t,t=(getF p L).getD []:=⟨_,rfl⟩;rw[<-ht]at htl hsp hg1;have hpa:=We t htl;refine wW ?_;refine gG ?_;refine ah hg1 rfl rfl ?_;refine wW ?_
   cases hpp:dr t with
   | error e=>
    rw[hpp]at hpa hsp;have he:¬e=0:=yi hpp;refine ah hpa rfl rfl ?_;simp(disch:=first | omega | (simp only[Lx];omega))only[go_sem,simprocAttr,parseD,he]
    exact badk e hsp
   | ok x=>
    rw[hpp]at hpa hsp;simp only at hsp;refine ah hpa rfl rfl ?_;obtain⟨q,hq⟩:∃q,q=eW++r.take 40++mD:=⟨_,rfl⟩;have hg3:=hrg q;unfold ua at hg3;have hq2:111::98::106::101::99::116::115::47::112::97::99::107::47::112::97::99::107::45::(r.take 40++[46,112,97,99,107])=q:=by rw[hq];rfl
    rw[<-hq]at hsp;simp(disch:=first | omega | (simp only[Lx];omega))only[go_sem,simprocAttr,parseD,hq2]
    cases hgd:getF q L with
    | none=>
     rw[hgd]at hg3 hsp;refine ah hg3 rfl rfl ?_;simp(disch:=first | omega | (simp only[Lx];omega))only[go_sem,simprocAttr,Option.isSome_none]
     exact badk 7 hsp
    | some d=>
     rw[hgd]at hg3 hsp;simp only at hsp;have hdl:=hgl _ _ hgd;have hcn:=XH d hdl;have h32:=@Bd d;rw[KZ]at hsp h32;simp only at hsp h32;generalize countP d=m at *
     obtain⟨m,f⟩:=m;simp only at hsp h32 hcn;refine ah hg3 rfl rfl ?_;simp(disch:=first | omega | (simp only[Lx];omega))only[go_sem,simprocAttr,Option.isSome_some,Option.getD_some];refine ah hcn rfl rfl ?_;by_cases h0:f=0;rotate_left
     ·have i0:¬(f:Int)=0:=acN;rw[if_pos i0]at hsp;refine ab i0 ?_;exact badk f hsp
     subst h0;rw[if_neg (by simp)]at hsp;have h32:=h32 rfl;by_cases h3:(m:Int)=(x.1.length:Int);rotate_left
     ·rw[if_pos h3]at hsp;refine aE h3 @dL ?_;exact badk 4 hsp
     rw[if_neg (λh=>h h3)]at hsp;have e20:((d.length:Int)-20).toNat=d.length-20:=acN;have hhx:=Sh.qS (d.drop (d.length-20)) (by rw[acU];omega);refine bp h3 @dL e20 ?_;refine ah hhx rfl rfl ?_;by_cases h4:Sh.bC (d.drop (d.length-20))=x.2;rotate_left
     ·rw[if_pos h4]at hsp;refine ab h4 ?_;exact badk 5 hsp
     rw[if_neg (λh=>h h4)]at hsp;have hps:=EF ps;refine bp h4 @nG hps ?_;rw[Vb (t:=t)];refine⟨⟨EE,acN⟩,hR1 (k+1,ps++[(d,t,x)]) _ (by simp only;omega) ⟨by simp only;omega,hst (.ok (some (d,t,x))) hsp⟩ (.le (by rw[acQ,acW];exact vV))⟩
 ·obtain rfl:k=U.length:=acN;rw[hps]at hR;refine wW ?_;exact hR.wk (h':=[]) (r':=.af [.ro 2 (di ps),.int .i64 0]) (ar':=[.undef]) rfl (.bj 274017 (.le (mH @EF @nG @EE))) ⟨rfl,rfl⟩
theorem Wl {L fs:List Fi} (hs:fi L) (hp:L.Perm fs) (hl:fs.length<=10000) (hc:∀f∈fs,f.1.length<=140737488351232) (hd:∀f∈fs,f.2.length<=100000) :
    ao Tryz.prog 18 [.ro 2 (a8 fs)] (openA (jL L)):=by
 have hun:=Fk fs eW hl (by decide) (λf hf=>by have:=hc f hf;omega);rw[zp hs hp]at hun;have hll:=hp.length_eq;have hul:=mF eW L;refine r13open_gen hun (λp hq=>?_) acN (λq d h=>tb (λf hf=>hd f (hp.mem_iff.1 hf)) h) (λq=>?_)
 ·obtain⟨h1,f,hf,h2⟩:=pA hq;exact⟨by rw[<-h2];exact hc f (hp.mem_iff.1 hf),r9 h1⟩
 ·have:=Fh fs q acN;rw[Cc hs hp]at this;exact this
def tC (k:Int) (x:Int×Bs×Int):Bs×Int:=if x.2.2≠0 then([],x.2.2)else if x.1≠k then([],10)else(x.2.1,0)
theorem Uz (L:List Fi) (n:Nat) (ps:List aO) (id:Bs) (k:Int) (hs:eO L) (hl:L.length<=100000) (hd:∀f∈L,f.2.length<=1000000) (hp:∀k∈ps,gS k) (hpl:ps.length<=100000) (hi:id.length<=140737488351232) :
    ao Tryz.prog 16 [jd L n ps,.str id,.int .i64 k] (.af [.str (tC k (kK L ps id)).1,.int .i64 (tC k (kK L ps id)).2]):=by
 refine Cod.UA (λE R hN hR=>?_);have hg:=El L n ps id hs hl hd hp hpl hi;unfold tC at hR;generalize kK L ps id=x at *
 obtain⟨xk,xd,xe⟩:=x;unfold eh dV at hg;simp only at hg hR;refine wW ?_;refine ah hg rfl rfl ?_;refine wW ?_;refine cf (y:=Cod.Uy) hN (λ_:Unit=>⟨[(8,.aa 264008 0),(9,.int .i64 (if xe≠0 then xe else if xk≠k then 10 else 0))],[(264008,.var [.int .i64 xk,.str xd])]⟩) (λ_=>True) (λR2 hR2=>?_) (λ_ _=>?_)
 ·by_cases he:xe=0
  ·rw[if_neg (λh=>h he)]at hR2;by_cases hk:xk=k
   ·rw[if_neg (λh=>h hk)]at hR2;refine aE he hk ?_;refine cO he hk ?_;exact hR2 () _ trivial (.le vV)
   ·rw[if_pos hk]at hR2;refine aE he hk ?_;refine cO he hk ?_;exact hR2 () _ trivial (.le vV)
  ·rw[if_pos he]at hR2;refine ab he ?_;refine aV he ?_;exact hR2 () _ trivial (.le vV)
 ·by_cases he:xe=0
  ·rw[if_neg (λh=>h he)]at hR |-;by_cases hk:xk=k
   ·rw[if_neg (λh=>h hk)]at hR |-;refine wW ?_;exact hR.ro ⟨rfl,rfl⟩
   ·rw[if_pos hk]at hR |-;refine wW ?_;exact hR.ro ⟨rfl,rfl⟩
  ·rw[if_pos he]at hR |-;refine ab he ?_;exact hR.ro ⟨rfl,rfl⟩
set_option maxHeartbeats 4000000 in
theorem Uo (fs:List Fi) (id front:Bs) (hb:He fs) (hi:id.length<=140737488351232) (hf:front.length<=140737488351232):ao Tryz.prog 6 [.ro 2 (a8 fs),.str id,.str front] (.bool true):=by
 refine Cod.Up (λE R hN hR=>?_);have hsh:=ZA fs 30 (by have:=hb.1;omega) (by decide) (λf hf=>(hb.2 f hf).2);rw[show((30:Nat):Int)=30 from rfl]at hsh;have hG1:=ZC fs 30
 have hG2:∀f∈mA fs 30,f.1.length<=140737488351232/\f.2.length<=3000:=λf hf=>by
  obtain⟨h1,g,hg,h2⟩:=ZD hf;exact⟨by rw[h2];exact(hb.2 g hg).1,h1⟩
 generalize mA fs 30=G at *
 have fin:∀{h ar},ar=[AV.undef,AV.undef,AV.undef]->R h (.bool true) ar:=λha=>by subst ha;exact hR.ro ⟨rfl,rfl⟩
 refine wW ?_;refine aI [] hsh trivial (λ_=>rfl) ?_;rintro h' v ar ⟨rfl,rfl,rfl⟩;refine bp @oJ @bX @wJ ?_;refine ln ⟨[(30,.ro 2 (a8 G)),(0,.ro 2 (a8 G)),(1,.str id),(2,.str front)],[]⟩ (.bj 216012 (.le (cn @Np))) rfl ?_;refine jX (yZ G acN (λf hf=>(hG2 f hf).1) (λf hf=>adM (hG2 f hf).2 (by decide))) rfl ?_;rintro h' v ar ⟨rfl,L,hL,hs,hcase⟩;have hLl:=hL.length_eq;rcases hcase with⟨hok,n,rfl⟩ | ⟨hno,rfl⟩;rotate_left
 ·refine⟨rfl,rfl,?_⟩;refine wW ?_;refine gG ?_;refine ah vF rfl rfl ?_;refine wW ?_;refine gG ?_;exact fin rfl
 refine⟨rfl,rfl,?_⟩
 have hLc:∀f∈L,f.1.length<=200:=λf hf=>by
  have:=hok.1 f hf;unfold js at this;simp only[acX,decide_eq_true_eq]at this;exact this.1.1
 have hLd:∀f∈L,f.2.length<=100000:=λf hf=>by have:=(hG2 f (hL.mem_iff.1 hf)).2;omega
 have ho:=ya L n hs acN hLc hLd;have hro:=Wl hok.2.1 hL acN (λf hf=>(hG2 f hf).1) (λf hf=>by have:=(hG2 f hf).2;omega);refine wW ?_;refine gG ?_
 cases hop:jL L with
 | error e=>
  have he:=Un hop;rw[hop]at ho hro;refine ah ho rfl rfl ?_;simp(disch:=omega)only[go_sem,simprocAttr,o7];refine ah hro rfl rfl ?_;simp(disch:=omega)only[go_sem,simprocAttr,openA];refine ah vF rfl rfl ?_;refine ab he ?_;refine aV he ?_
  exact fin rfl
 | ok ps=>
  obtain⟨hpk,hpl⟩:=Eh hop;have hpg:=Um hLd hop;rw[hop]at ho hro;refine ah ho rfl rfl ?_;simp(disch:=omega)only[go_sem,simprocAttr,o7];refine ah hro rfl rfl ?_;simp(disch:=omega)only[go_sem,simprocAttr,openA];refine ah vF rfl rfl ?_;refine wW ?_;refine gG ?_;have hnf:=x7 L n ps front hs acN hLc hpk acN hf;have hn0:=x7 L n ps [] hs acN hLc hpk acN (by decide)
  have hu:∀x∈dG (cQ bH G),x.length<=1000:=λx hx=>by
   rw[zp hok.2.1 hL,xM (λp hp=>(pA hp).1)]at hx;rw[DE hx];decide
  have hGp:∀f∈G,f.1.length<=9223372036854775807:=λf hf=>by have:=(hG2 f hf).1;omega
  have hrw:=EY G ps [] acN hGp hpk acN (by decide) hu;have hrf:=EZ G ps front acN hGp hpk acN hf hu;have hrs:=Wn G ps front acN hGp hpk acN hf hu;have hos:=UX L n ps front hs acN hLc hpk acN hf;rw[TD hok.2.1 hL hpk]at hrw hrf hrs;rw[Ya]at hrs;have hl0:=xU [] (L:=L) acN hpk acN;have hlf:=xU front (L:=L) acN hpk acN;have hid:∀x∈fw [] L ps,x.length=40:=λx hx=>(xm (TE hpk hx)).1;have hgot:=λx=>OC L x hpk;have hgk:=λx hx=>El L n ps x hs acN (λf hf=>by have:=hLd f hf;omega) hpg acN hx;have hkk:=λx hx k=>Uz L n ps x k hs acN (λf hf=>by have:=hLd f hf;omega) hpg acN hx;have hrg:=λx hx=>Wh G ps x acN (λf hf=>by have:=(hG2 f hf).2;omega) hpg hpk acN hx;have hge:=λx=>get_eq hok.2.1 hL hpg hpk x;generalize kK L ps=gp at *
  generalize qo G ps=gd at *
  have hgd:gd=gp:=funext hge;subst hgd;generalize nJ front (fw front L ps)=RF at *
  obtain⟨rf,re⟩:=RF;simp only at hrs hos;generalize hUF:fw front L ps=UF at *
  generalize hU:fw [] L ps=U at *
  have hs1:=Fj UF UF hlf hlf;have hs2:=Fj U U hl0 hl0;rw[decide_eq_true rfl]at hs1 hs2;refine ah hnf rfl rfl ?_;refine wW ?_;refine aI [] hrw trivial (λ_=>rfl) ?_;rintro h' v ar ⟨rfl,rfl,rfl⟩;refine bp @aZ @dM @Gp ?_;have hsU:=nP U;refine ah hrf rfl rfl ?_;refine wW ?_;refine ah hs1 rfl rfl ?_;refine wW ?_;refine gG ?_;refine eI (gq vV hn0 vV rfl rfl ?_);refine wW ?_;refine gG ?_;refine eI (l6 (cn hsU) hs2 vV rfl ?_);refine wW ?_;refine gG ?_;refine ah hos rfl rfl ?_;refine wW ?_;refine ah hrs rfl rfl ?_;refine wW ?_;refine gG ?_;rw[hsU,ji];refine⟨⟨dM,acN⟩,?_⟩;have hUl:(U++[id]).length=U.length+1:=by rw[acQ,acW]
  have hUm:∀x∈U++[id],x.length<=140737488351232:=λx hx=>by
   rcases adq.1 hx with h | h
   ·rw[hid x h];decide
   ·rw[ac8]at h;rw[h];exact hi
  refine aD hN (λk:Nat=>⟨[(0,.ro 2 (a8 G)),(9,jd L n ps),(11,.ro 2 (di ps)),(112,.sl 228009 0 (U.length+1)),(113,.int .i64 ((U.length:Int)+1)),(114,.int .i64 k)],[(228009,.arr 1 (au (U++[id])))]⟩) (λk=>k<=U.length+1) (λk=>U.length+1-k) 0 (.le vV) (ac9 _) ?_;rintro k R1 hk hR1;by_cases hlt:k<U.length+1;rotate_left
  ·obtain rfl:k=U.length+1:=acN;refine wW ?_;exact fin rfl
  have hxm:=hUm _ (dT [] (by omega:k<(U++[id]).length));obtain⟨x,hx⟩:∃x,x=(U++[id]).getD k []:=⟨_,rfl⟩;rw[<-hx]at hxm;by_cases h40:40<k
  ·have hi40:(40:Int)<(k:Int):=acN;simp(disch:=omega)only[go_sem,simprocAttr,aZ,hUl,fA,<-hx,hi40];exact fin rfl
  have hi40:¬(40:Int)<(k:Int):=acN;have next:∀st',Wk st' ⟨[(0,.ro 2 (a8 G)),(9,jd L n ps),(11,.ro 2 (di ps)),(112,.sl 228009 0 (U.length+1)),(113,.int .i64 ((U.length:Int)+1)),(114,.int .i64 ((k+1:Nat):Int))],[(228009,.arr 1 (au (U++[id])))]⟩->R1.ap st':=λst' hw=>hR1 (k+1) _ acN acN hw
  have hr:=hgk x hxm;have hr2:=hrg x hxm;have hkd:=hkk x hxm (1+(k:Int)%4);have hgo:=hgot x;obtain⟨y,hy⟩:∃y,y=gd x:=⟨_,rfl⟩;rw[<-hy]at hr hr2 hkd hgo;clear hy;obtain⟨yk,yd,ye⟩:=y;unfold eh dV at hr hr2;unfold tC at hkd;simp only at hr hr2 hkd;simp(disch:=omega)only[go_sem,simprocAttr,aZ,hUl,fA,<-hx,hi40];refine ah hr rfl rfl ?_;refine wW ?_;refine ah hr2 rfl rfl ?_;refine wW ?_;refine gG ?_;by_cases he:ye=0;rotate_left
  ·rw[if_pos he]at hkd;refine ah hkd rfl rfl ?_;refine ab he ?_;refine aV he ?_;exact next _ (.le vV)
  rw[if_neg (λh=>h he)]at hkd;subst he;by_cases hk1:yk=1+(k:Int)%4;rotate_left
  ·rw[if_pos hk1]at hkd;refine ah hkd rfl rfl ?_;refine ab hk1 ?_;refine aV hk1 ?_;exact next _ (.le vV)
  rw[if_neg (λh=>h hk1)]at hkd;refine ah hkd rfl rfl ?_;refine ab hk1 ?_;refine aV hk1 ?_;exact next _ (.le vV)
end Go.Proofs.YtoalcafkffmiiaaGreatDoor.Ls
