/- The proof, part 43 of 51. -/
import Derived.Test.YtgghhaahnpbnmaaGreatDoorCartularyWalksZN
import Derived.Test.YtgghhaahnpbnmaaGreatDoorCartularyWalksZO
import Derived.Test.YtgghhaahnpbnmaaGreatDoorCartularyWalksZP
set_option linter.all false
namespace Go.Proofs.YtgghhaahnpbnmaaGreatDoor.Ls
open Eng Pk Ob
set_option maxRecDepth 10000
def gB (k:bN) (x:En):En×Nat:=if x.kind=6 then Pk.readP k.1 (x.base:Nat)else iM k x.id
def chainR (k:bN):Nat->En×Nat->List Bs->(En×Nat)×List Bs
 | 0,x,l=>if x.2=0/\6<=x.1.kind then((dr,9),l)else(x,l)
 | m+1,x,l=>if x.2=0/\6<=x.1.kind then chainR k m (gB k x.1) (l++[x.1.data])else(x,l)
def foldA:Bs->List Bs->Bs×Nat
 | b,[]=>(b,0)
 | b,d::r=>if(Dl.kz b d 65000).2≠0 then([],(Dl.kz b d 65000).2)else foldA (Dl.kz b d 65000).1 r
def qX (id:Bs) (C:(En×Nat)×List Bs):Int×Bs×Int:=
 if C.1.2≠0 then(0,[],(C.1.2:Nat))
 else jE id ((C.1.1.kind:Nat),(foldA C.1.1.data C.2.reverse).1,((foldA C.1.1.data C.2.reverse).2:Nat))
def oP (k:bN) (id:Bs):Int×Bs×Int:=qX id (chainR k 12 (iM k id) [])
theorem U5 (k:bN) (x:En) (hk:lA k) (hx:x.base<=1099511627776):(gB k x).1.data.length<=65000/\(gB k x).1.base<=1099511627776:=by
 unfold gB;split
 ·have:=Fp k.1 (x.base:Nat);exact⟨Fq _ _,acB⟩
 exact B9 k _ hk
theorem VC (k:Int) (t:Bs) (ht:t.length<=100000):aw Tryz.prog 8 [.agg [.int .i64 k,.str t]] (.ab [.str (kL k t),.int .i64 (aY k t)]):=by
 have h4:=tR k t acB;unfold kL;unfold oG at h4;by_cases hc:aY k t=0
 ·rw[if_pos hc]at h4 |-;rw[hc];exact h4
 ·rw[if_neg hc]at h4 |-;exact h4
theorem XR {l:List Bs} {k:Nat} (hk:k<l.length):l.reverse.drop k=l.getD (l.length-1-k) []::l.reverse.drop (k+1):=by
 rw[adl (by rw[adn];exact hk),List.getElem_reverse,acC,List.getElem?_eq_getElem acB];rfl
theorem Ag (b d:Bs) (size:Nat):∀(m p:Nat) (out:Bs),out.length<=size->(Dl.applyR b d size m p out).1.length<=size
 | 0,_,_,_=>ac5 _
 | m+1,p,out,h=>by
  unfold Dl.applyR;split
  ·split;exact ac5 _;exact h
  ·split;exact ac5 _
   ·split;exact ac5 _;exact Ag b d size m _ _ (by rw[acD];omega)
theorem IJ (b d:Bs):(Dl.kz b d 65000).1.length<=65000:=by
 unfold Dl.kz;split;exact ac5 _
 ·split;exact ac5 _
  ·split;exact ac5 _
   ·have:=Ag b d (Dl.fy d).2.1 (d.length+1) (Dl.fy d).2.2.1 [] (ac5 _);omega
set_option maxHeartbeats 4000000 in
theorem VK (k:bN) (id:Bs) (hk:lA k):aw Tryz.prog 141 [.agg [.str k.1,eL k.2.1 k.2.2],.str id] (iL (oP k id)):=by
 refine Cod.VL (λE R hN hrd hR=>?_);have he0:=Ex k id hk;have hg0:=B9 k id hk;unfold oP at hR;obtain⟨RES,hRES⟩:∃X,X=chainR k 12 (iM k id) []:=⟨_,rfl⟩;rw[<-hRES]at hR;generalize iM k id=x0 at *
 obtain⟨x0,e0⟩:=x0;simp only[om]at he0;simp only at hg0;have hR:cM (λh r _=>h=[]/\r=iL (qX id RES)) R:=hR;refine wW ?_;refine aj he0 rfl rfl ?_;refine wW ?_
 refine aJ hN (λq:Nat×(En×Nat)×List Bs=>⟨[(1,.str id),(2,.aa 263002 0),(4,.aa 263004 0),(5,.aa 263005 0),(6,.aa 263006 0),(7,.aa 263007 0),(8,.sl 263035 0 q.2.2.length)],
     [(263002,.var [.str k.1,eL k.2.1 k.2.2]),(263004,.var [.int .i64 0,.str []]),(263005,.var [.int .i64 0]),(263006,.var [.int .i64 q.2.1.1.at_,.int .i64 q.2.1.1.next,.int .i64 q.2.1.1.kind,.str q.2.1.1.data,.int .i64 q.2.1.1.base,.str q.2.1.1.id,.int .u32 q.2.1.1.nX.toNat]),(263007,.var [.int .i64 (q.2.1.2:Nat)]),(263035,.arr 1 (aR q.2.2))]⟩)
  (λq=>chainR k q.1 q.2.1 q.2.2=RES/\q.2.2.length+q.1=12/\(q.2.1.1.data.length<=65000/\q.2.1.1.base<=1099511627776)/\∀d∈q.2.2,d.length<=65000) (λq=>q.1) (12,(x0,e0),[]) (.nil 8 263035 1 rfl (.le (eY @zh))) ⟨hRES.symm,rfl,hg0,λd hd=>by cases hd⟩ ?_
 clear hRES he0 hg0;rintro⟨m,⟨x,e⟩,l⟩ R1 ⟨hch,hlm,hxg,hlg⟩ hR1;simp only at hch hlm hxg hlg;by_cases hc:e=0/\6<=x.kind
 ·obtain⟨rfl,hkd⟩:=hc;have i1:(6:Int)<=(x.kind:Int):=acB
  cases m with
  | zero=>
   unfold chainR at hch;rw[if_pos ⟨rfl,hkd⟩]at hch;subst hch;have hl:l.length=12:=acB;refine ah hl ?_;refine gX i1 hl ?_
   exact hR.ro ⟨rfl,rfl⟩
  | succ m=>
   unfold chainR at hch;rw[if_pos ⟨rfl,hkd⟩]at hch;have hl:¬(l.length:Int)=12:=acB;have hng:=U5 k x hk hxg.2
   have hs1:aB (aR l) 0 l.length=aR l:=by
    unfold aB;rw[adp,acF (by rw[bJ];omega)]
   have next:∀st',Wk st' ⟨[(1,.str id),(2,.aa 263002 0),(4,.aa 263004 0),(5,.aa 263005 0),(6,.aa 263006 0),(7,.aa 263007 0),(8,.sl 263035 0 (l.length+1))],
       [(263002,.var [.str k.1,eL k.2.1 k.2.2]),(263004,.var [.int .i64 0,.str []]),(263005,.var [.int .i64 0]),(263006,.var [.int .i64 (gB k x).1.at_,.int .i64 (gB k x).1.next,.int .i64 (gB k x).1.kind,.str (gB k x).1.data,.int .i64 (gB k x).1.base,.str (gB k x).1.id,.int .u32 (gB k x).1.nX.toNat]),(263007,.var [.int .i64 ((gB k x).2:Nat)]),(263035,.arr 1 (aR (l++[x.data])))]⟩->R1.ap st':=λst' hw=>
    hR1 (m,gB k x,l++[x.data]) _ (by simp only;omega) ⟨hch,by rw[acD,acX];omega,hng,λd hd=>by
     rcases adh.1 hd with h | h;exact hlg d h
     ·rw[ac0]at h;rw[h];exact hxg.1⟩ (by rw[acD,acX];exact hw)
   refine cI hl @bJ hs1 ?_;refine tt i1 hl @bJ hs1 ?_;refine⟨⟨kl,acB⟩,?_⟩;rw[vf];have hdl:=hk.dl;by_cases h6:x.kind=6
   ·have hne:gB k x=Pk.readP k.1 (x.base:Nat):=if_pos h6;have hrd:=Ff k.1 (x.base:Nat) acB ⟨acB,acB⟩;rw[hne]at next
    generalize Pk.readP k.1 (x.base:Nat)=y at *
    simp only[om]at hrd;have j6:(x.kind:Int)=6:=acB;refine ah j6 ?_;refine aj hrd rfl rfl ?_;refine wW ?_;exact next _ (.le vV)
   ·have hne:gB k x=iM k x.id:=if_neg h6;have hen:=Ex k x.id hk;rw[hne]at next
    generalize iM k x.id=y at *
    simp only[om]at hen;have j6:¬(x.kind:Int)=6:=acB;refine ah j6 ?_;refine aj hen rfl rfl ?_;refine wW ?_;exact next _ (.le vV)
 ·by_cases he:e=0;rotate_left
  ·have i1:¬(e:Int)=0:=acB
   have hch':chainR k m (x,e) l=((x,e),l):=by
    cases m<;>exact if_neg (λh=>he h.1)
   rw[hch']at hch;subst hch;have hres:qX id ((x,e),l)=(0,[],((e:Nat):Int)):=if_pos he;rw[hres]at hR;refine ah i1 ?_;refine cB i1 ?_;refine⟨?_,?_⟩<;>exact hR.ro ⟨rfl,rfl⟩
  ·subst he;have hkd:¬6<=x.kind:=λh=>hc ⟨rfl,h⟩;have i1:¬(6:Int)<=(x.kind:Int):=acB
   have hch':chainR k m (x,0) l=((x,0),l):=by
    cases m<;>exact if_neg hc
   rw[hch']at hch;subst hch;have hlr:l.length<=12:=acB
   have hls:aB (aR l) 0 l.length=aR l:=by
    unfold aB;rw[adp,acF (by rw[bJ];omega)]
   have hres:qX id ((x,0),l)=jE id ((x.kind:Nat),(foldA x.data l.reverse).1,((foldA x.data l.reverse).2:Nat)):=if_neg (by simp);rw[hres]at hR;generalize hF:foldA x.data l.reverse=F at *
   refine ah i1 ?_;refine cB i1 ?_
   refine JE hN hrd Jy (by decide) (xs:=l) acB [(1,.str id),(4,.aa 263004 0),(5,.aa 263005 0),(7,.aa 263007 0),(9,.aa 263009 0),(63,.ro 1 (aR l))]
    (λy:Bs=>[(263004,.var [.int .i64 0,.str []]),(263005,.var [.int .i64 0]),(263007,.var [.int .i64 0]),(263009,.var [.int .i64 x.kind,.str y])])
    (λj y=>y.length<=65000/\foldA y (l.reverse.drop j)=F) x.data (.bn 263035 (.le (GZ @bJ hls @kl))) ⟨hxg.1,hF⟩ rfl rfl rfl (by decide) (by decide) rfl ?_ ?_
   ·rintro E2 j y R2 hN2 ⟨hyl,hinv⟩ hj hn hr hx;rw[XR hj]at hinv;have hdl:=hlg _ (dL [] (show l.length-1-j<l.length by omega));generalize l.getD (l.length-1-j) []=d at *
    have hap:=Dl.Mh y d 65000 acB acB (by decide);have hal:=IJ y d;unfold foldA at hinv;generalize Dl.kz y d 65000=A at *
    refine wW ?_;refine aj hap rfl rfl ?_;by_cases hA:A.2=0
    ·rw[if_neg (λh=>h hA)]at hinv;have j0:(A.2:Int)=0:=acB;refine ah j0 ?_;exact hn A.1 _ ⟨hal,hinv⟩ (.le vV)
    ·rw[if_pos hA]at hinv;subst hinv;have j0:¬(A.2:Int)=0:=acB;unfold jE at hR;rw[if_pos (by simp only;omega)]at hR;refine ah j0 ?_;refine⟨?_,?_⟩
     all_goals (refine hr _ [(263004,.var [.int .i64 0,.str []]),(263005,.var [.int .i64 (A.2:Nat)])] (.le vV) ?_)
     all_goals simp(disch:=omega)only[go_sem,simprocAttr]
     all_goals exact hR.ro ⟨rfl,rfl⟩
   ·rintro y ⟨hyl,hinv⟩;rw[adG (by rw[adn];omega)]at hinv;unfold foldA at hinv;subst hinv;have hid:=VC (x.kind:Nat) y acB;unfold jE at hR;rw[if_neg (by simp)]at hR;simp only at hR;generalize kL (x.kind:Nat) y=is at *
    refine wW ?_;refine aj hid rfl rfl ?_;by_cases hx:is=id
    ·rw[if_pos hx]at hR;refine ah hx ?_;exact hR.ro ⟨rfl,rfl⟩
    ·rw[if_neg hx]at hR;refine ah hx ?_;exact hR.ro ⟨rfl,rfl⟩
open Eng Pk Ob
set_option maxRecDepth 10000
def packGet (id:Bs):List bN->Int×Bs×Int
 | []=>(0,[],7)
 | k::r=>if(jT id k.2.2.1).isSome=true then oP k id else packGet id r
def fV (L:List Fi) (ps:List bN) (id:Bs):Int×Bs×Int:=if(kR id L).2.2≠7 then kR id L else packGet id ps
set_option maxHeartbeats 2000000 in
theorem VA (L:List Fi) (n:Nat) (ps:List bN) (id:Bs) (hs:eB L) (hl:L.length<=100000) (hd:∀f∈L,f.2.length<=1000000) (hp:∀k∈ps,lA k) (aL:ps.length<=100000) (hi:id.length<=140737488351232) :
    aw Tryz.prog 114 [gb L n ps,.str id] (iL (fV L ps id)):=by
 refine Cod.VB (λE R hN hR=>?_);have hlr:=Ua L n id hs hl hd hi;unfold fV at hR;generalize kR id L=X at *
 obtain⟨xk,xd,xe⟩:=X;unfold iL ft at hlr hR;simp only at hlr hR;simp(disch:=omega)only[go_sem,simprocAttr,gb];refine aj hlr rfl rfl ?_;by_cases he:xe=7;rotate_left
 ·rw[if_pos he]at hR;refine ah he ?_;exact hR.ro ⟨rfl,rfl⟩
 rw[if_neg (λh=>h he)]at hR;subst he;refine ah @q7 ?_;obtain⟨RES,hRES⟩:∃X,X=packGet id ps:=⟨_,rfl⟩;rw[<-hRES]at hR
 refine aJ hN (λi:Nat=>⟨[(1,.str id),(4,.aa 249004 0),(28,.ro 2 (fu ps)),(29,.int .i64 ps.length),(30,.int .i64 i)],[(249004,.var [.int .i64 0,.str []])]⟩)
  (λi=>i<=ps.length/\packGet id (ps.drop i)=RES) (λi=>ps.length-i) 0 (.le vV) ⟨ac5 _,hRES.symm⟩ ?_
 clear hRES;rintro i R1 ⟨hil,hres⟩ hR1;by_cases hlt:i<ps.length
 ·have hgi:lA (ps.getD i nn):=hp _ (dL nn hlt);rw[adl hlt]at hres;have hge:ps[i]=ps.getD i nn:=by rw[acC,List.getElem?_eq_getElem hlt];rfl
  rw[hge]at hres;unfold packGet at hres;obtain⟨k,hk⟩:∃k,k=ps.getD i nn:=⟨_,rfl⟩;rw[<-hk]at hgi hres;have hf:=Hg k.2.1 k.2.2 id hgi.zc (by have:=hgi.len;omega);have hob:=VK k id hgi;have hnx:nth (fu ps) i=.agg [.str k.1,eL k.2.1 k.2.2]:=by rw[Vh hlt,hk]
  refine aV @q7 hnx ?_
  cases hfp:jT id k.2.2.1 with
  | none=>
   rw[hfp]at hf hres;refine aj hf rfl rfl ?_;simp(disch:=omega)only[go_sem,simprocAttr,findA]
   exact hR1 (i+1) _ acB ⟨acB,hres⟩ (.le vV)
  | some r=>
   rw[hfp]at hf hres;simp only[adi,if_true]at hres;subst hres;generalize oP k id=Y at *
   obtain⟨yk,yd,ye⟩:=Y;unfold iL ft at hob;simp only at hob hR;refine aj hf rfl rfl ?_;simp(disch:=omega)only[go_sem,simprocAttr,findA];refine aj hob rfl rfl ?_;refine wW ?_;exact hR.ro ⟨rfl,rfl⟩
 ·obtain rfl:i=ps.length:=acB;rw[adL]at hres;unfold packGet at hres;subst hres;refine wW ?_;exact hR.ro ⟨rfl,rfl⟩
open Eng Ob
set_option maxRecDepth 10000
structure mr (id:Bs) (x:Int×Bs×Int):Prop where
 ok:x.2.2=0->aY x.1 x.2.1=0/\Sh.b7 (Sh.dR (aU x.1 x.2.1))=id
 no:x.2.2≠0->x.1=0/\x.2.1=[]
theorem oD {id:Bs} {e:Int} (h:e≠0):mr id (0,[],e):=⟨λh'=>absurd h' h,λ_=>⟨rfl,rfl⟩⟩
theorem CU {id:Bs} (hid:cd id=true) (x:Int×Bs×Int):mr id (jE id x):=by
 unfold jE;split
 ·rename_i h;exact oD h
 ·split
  ·rename_i hx;refine⟨λ_=>?_,λh=>absurd rfl h⟩;unfold kL at hx;by_cases hc:aY x.1 x.2.1=0
   ·rw[if_pos hc]at hx;exact⟨hc,hx⟩
   ·rw[if_neg hc]at hx;have:=(l4 hid).1;rw[<-hx]at this;simp at this
  exact oD (by decide)
theorem Pp (id:Bs) (L:List Fi):mr id (kR id L):=by
 unfold kR;by_cases hid:cd id=true
 ·rw[if_pos hid]
  cases getF (fv id) L with
  | none=>exact oD (by decide)
  | some d=>exact CU hid _
 ·rw[if_neg hid];exact oD (by decide)
theorem Pq {id:Bs} (hid:cd id=true) (k:bN):mr id (oP k id):=by
 unfold oP qX;split
 ·rename_i h;exact oD acB
 exact CU hid _
theorem CV (id:Bs):∀{ps:List bN},rY ps->mr id (packGet id ps)
 | [],_=>oD (by decide)
 | k::r,h=>by
  unfold packGet;split
  ·rename_i hf
   cases hfp:jT id k.2.2.1 with
   | none=>rw[hfp]at hf;cases hf
   | some x=>
    obtain⟨h1,h2⟩:=xl hfp;have:=(h k (acU ..)).2.2 x h1;rw[h2]at this;exact Pq this k
  exact CV id (λp hp=>h p (acV _ hp))
theorem Po (L:List Fi) {ps:List bN} (id:Bs) (h:rY ps):mr id (fV L ps id):=by
 unfold fV;split;exact Pp id L;exact CV id h
theorem UW {k:Int} (h:Ob.bE k≠[]):1<=k/\k<=4:=by
 unfold Ob.bE at h
 (repeat' split at h)<;>first | omega | exact absurd rfl h
theorem La {k:Int} {d:Bs} (h:aY k d=0):Ob.bE k≠[]/\d.length<=65000:=by
 refine⟨λhn=>?_,wG h⟩;unfold aY at h;rw[if_pos hn]at h;cases h
theorem Pr {id:Bs} {x:Int×Bs×Int} (h:mr id x):0<=x.1/\x.1<=4/\x.2.1.length<=65000:=by
 by_cases h0:x.2.2=0
 ·obtain⟨h1,h2⟩:=La (h.ok h0).1;have:=UW h1;exact⟨acB,acB,h2⟩
 ·obtain⟨h1,h2⟩:=h.no h0;rw[h1,h2];simp
def iT (k:Int) (x:Int×Bs×Int):Bs×Int:=if x.2.2≠0 then([],x.2.2)else if x.1≠k then([],10)else(x.2.1,0)
theorem VG (L:List Fi) (n:Nat) (ps:List bN) (id:Bs) (k:Int) (hs:eB L) (hl:L.length<=100000) (hd:∀f∈L,f.2.length<=1000000) (hp:∀k∈ps,lA k) (aL:ps.length<=100000) (hi:id.length<=140737488351232) :
    aw Tryz.prog 71 [gb L n ps,.str id,.int .i64 k] (.ab [.str (iT k (fV L ps id)).1,.int .i64 (iT k (fV L ps id)).2]):=by
 refine Cod.VH (λE R hN hR=>?_);have hg:=VA L n ps id hs hl hd hp aL hi;unfold iT at hR;generalize fV L ps id=x at *
 obtain⟨xk,xd,xe⟩:=x;unfold iL ft at hg;simp only at hg hR;refine wW ?_;refine aj hg rfl rfl ?_;refine wW ?_;refine gn (y:=Cod.VF) hN (λ_:Unit=>⟨[(8,.aa 264008 0),(9,.int .i64 (if xe≠0 then xe else if xk≠k then 10 else 0))],[(264008,.var [.int .i64 xk,.str xd])]⟩) (λ_=>True) (λR2 hR2=>?_) (λ_ _=>?_)
 ·by_cases he:xe=0
  ·rw[if_neg (λh=>h he)]at hR2;by_cases hk:xk=k
   ·rw[if_neg (λh=>h hk)]at hR2;refine aV he hk ?_;refine gX he hk ?_;exact hR2 () _ trivial (.le vV)
   ·rw[if_pos hk]at hR2;refine aV he hk ?_;refine gX he hk ?_;exact hR2 () _ trivial (.le vV)
  ·rw[if_pos he]at hR2;refine ah he ?_;refine cB he ?_;exact hR2 () _ trivial (.le vV)
 ·by_cases he:xe=0
  ·rw[if_neg (λh=>h he)]at hR |-;by_cases hk:xk=k
   ·rw[if_neg (λh=>h hk)]at hR |-;refine wW ?_;exact hR.ro ⟨rfl,rfl⟩
   ·rw[if_pos hk]at hR |-;refine wW ?_;exact hR.ro ⟨rfl,rfl⟩
  ·rw[if_pos he]at hR |-;refine ah he ?_;exact hR.ro ⟨rfl,rfl⟩
end Go.Proofs.YtgghhaahnpbnmaaGreatDoor.Ls
