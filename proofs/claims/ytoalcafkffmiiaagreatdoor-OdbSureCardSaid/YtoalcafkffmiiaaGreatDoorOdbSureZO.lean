/- The proof, part 41 of 42. -/
import Derived.Test.YtoalcafkffmiiaaGreatDoorOdbSureZL
import Derived.Test.YtoalcafkffmiiaaGreatDoorOdbSureZM
import Derived.Test.YtoalcafkffmiiaaGreatDoorOdbSureZN
set_option linter.all false
namespace Go.Proofs.YtoalcafkffmiiaaGreatDoor.Ls
open Eng Pk Ob
set_option maxRecDepth 10000
def fk (k:bD) (x:En):En×Nat:=if x.kind=6 then Pk.readP k.1 (x.base:Nat)else gr k x.id
def chainR (k:bD):Nat→En×Nat→List Bs→(En×Nat)×List Bs
 | 0,x,l=>if x.2=0∧6≤x.1.kind then((da,9),l)else(x,l)
 | m+1,x,l=>if x.2=0∧6≤x.1.kind then chainR k m (fk k x.1) (l++[x.1.data])else(x,l)
def foldA:Bs→List Bs→Bs×Nat
 | b,[]=>(b,0)
 | b,d::r=>if(Dl.jo b d 65000).2≠0 then([],(Dl.jo b d 65000).2)else foldA (Dl.jo b d 65000).1 r
def nV (id:Bs) (C:(En×Nat)×List Bs):Int×Bs×Int:=
 if C.1.2≠0 then(0,[],(C.1.2:Nat))
 else jD id ((C.1.1.kind:Nat),(foldA C.1.1.data C.2.reverse).1,((foldA C.1.1.data C.2.reverse).2:Nat))
def mD (k:bD) (id:Bs):Int×Bs×Int:=nV id (chainR k 12 (gr k id) [])
theorem ab8 (k:bD) (x:En) (hk:kD k) (hx:x.base≤1099511627776):(fk k x).1.data.length≤65000∧(fk k x).1.base≤1099511627776:=by
 unfold fk
 split
 ·have:=BQ k.1 (x.base:Nat)
  exact⟨BS _ _,by omega⟩
 ·exact ym k _ hk
theorem ad1 (k:Int) (t:Bs) (ht:t.length≤100000):aN Tryz.prog 82 [.agg [.int .i64 k,.str t]] (.ai [.str (j5 k t),.int .i64 (dK k t)]):=by
 have h4:=zw k t (by omega)
 unfold j5
 unfold qk at h4
 by_cases hc:dK k t=0
 ·rw[if_pos hc]at h4 ⊢;rw[hc];exact h4
 ·rw[if_neg hc]at h4 ⊢;exact h4
theorem aiS {l:List Bs} {k:Nat} (hk:k<l.length):l.reverse.drop k=l.getD (l.length-1-k) []::l.reverse.drop (k+1):=by
 rw[List.drop_eq_getElem_cons (by rw[List.length_reverse];exact hk),List.getElem_reverse,List.getD_eq_getElem?_getD,List.getElem?_eq_getElem (by omega)]
 rfl
theorem v7 (b d:Bs) (size:Nat):∀(m p:Nat) (out:Bs),out.length≤size→(Dl.applyR b d size m p out).1.length≤size
 | 0,_,_,_=>Nat.zero_le _
 | m+1,p,out,h=>by
  unfold Dl.applyR
  split
  ·split
   ·exact Nat.zero_le _
   ·exact h
  ·split
   ·exact Nat.zero_le _
   ·split
    ·exact Nat.zero_le _
    ·exact v7 b d size m _ _ (by rw[List.length_append];omega)
theorem FC (b d:Bs):(Dl.jo b d 65000).1.length≤65000:=by
 unfold Dl.jo
 split
 ·exact Nat.zero_le _
 ·split
  ·exact Nat.zero_le _
  ·split
   ·exact Nat.zero_le _
   ·have:=v7 b d (Dl.eH d).2.1 (d.length+1) (Dl.eH d).2.2.1 [] (Nat.zero_le _)
    omega
set_option maxHeartbeats 4000000 in
theorem aff (k:bD) (id:Bs) (hk:kD k):aN Tryz.prog 46 [.agg [.str k.1,aM k.2.1 k.2.2],.str id] (gq (mD k id)):=by
 refine Cod.afg (fun E R hN hrd hR=>?_)
 have he0:=A1 k id hk
 have hg0:=ym k id hk
 unfold mD at hR
 obtain⟨RES,hRES⟩:∃X,X=chainR k 12 (gr k id) []:=⟨_,rfl⟩
 rw[←hRES]at hR
 generalize gr k id=x0 at *
 obtain⟨x0,e0⟩:=x0
 simp only[l8]at he0
 simp only at hg0
 have hR:cP (fun h r _=>h=[]∧r=gq (nV id RES)) R:=hR
 refine wW ?_
 refine aC he0 rfl rfl ?_
 refine wW ?_
 refine ba hN (fun q:Nat×(En×Nat)×List Bs=>⟨[(1,.str id),(2,.ab 263002 0),(4,.ab 263004 0),(5,.ab 263005 0),(6,.ab 263006 0),(7,.ab 263007 0),(8,.sl 263035 0 q.2.2.length)],
     [(263002,.var [.str k.1,aM k.2.1 k.2.2]),(263004,.var [.int .i64 0,.str []]),(263005,.var [.int .i64 0]),(263006,.var [.int .i64 q.2.1.1.at_,.int .i64 q.2.1.1.next,.int .i64 q.2.1.1.kind,.str q.2.1.1.data,.int .i64 q.2.1.1.base,.str q.2.1.1.id,.int .u32 q.2.1.1.lW.toNat]),(263007,.var [.int .i64 (q.2.1.2:Nat)]),(263035,.arr 1 (aO q.2.2))]⟩)
  (fun q=>chainR k q.1 q.2.1 q.2.2=RES∧q.2.2.length+q.1=12∧(q.2.1.1.data.length≤65000∧q.2.1.1.base≤1099511627776)∧∀d∈q.2.2,d.length≤65000) (fun q=>q.1) (12,(x0,e0),[]) (.nil 8 263035 1 rfl (.le (eV @oB))) ⟨hRES.symm,rfl,hg0,fun d hd=>by cases hd⟩ ?_
 clear hRES he0 hg0
 rintro⟨m,⟨x,e⟩,l⟩ R1 ⟨hch,hlm,hxg,hlg⟩ hR1
 simp only at hch hlm hxg hlg
 by_cases hc:e=0∧6≤x.kind
 ·obtain⟨rfl,hkd⟩:=hc
  have i1:(6:Int)≤(x.kind:Int):=by omega
  cases m with
  | zero=>
   unfold chainR at hch
   rw[if_pos ⟨rfl,hkd⟩]at hch
   subst hch
   have hl:l.length=12:=by omega
   refine az hl ?_
   refine gB i1 hl ?_
   exact hR.ro ⟨rfl,rfl⟩
  | succ m=>
   unfold chainR at hch
   rw[if_pos ⟨rfl,hkd⟩]at hch
   have hl:¬(l.length:Int)=12:=by omega
   have hng:=ab8 k x hk hxg.2
   have hs1:aI (aO l) 0 l.length=aO l:=by
    unfold aI
    rw[List.drop_zero,List.take_of_length_le (by rw[bQ];omega)]
   have next:∀st',Wk st' ⟨[(1,.str id),(2,.ab 263002 0),(4,.ab 263004 0),(5,.ab 263005 0),(6,.ab 263006 0),(7,.ab 263007 0),(8,.sl 263035 0 (l.length+1))],
       [(263002,.var [.str k.1,aM k.2.1 k.2.2]),(263004,.var [.int .i64 0,.str []]),(263005,.var [.int .i64 0]),(263006,.var [.int .i64 (fk k x).1.at_,.int .i64 (fk k x).1.next,.int .i64 (fk k x).1.kind,.str (fk k x).1.data,.int .i64 (fk k x).1.base,.str (fk k x).1.id,.int .u32 (fk k x).1.lW.toNat]),(263007,.var [.int .i64 ((fk k x).2:Nat)]),(263035,.arr 1 (aO (l++[x.data])))]⟩→R1.ap st':=fun st' hw=>
    hR1 (m,fk k x,l++[x.data]) _ (by simp only;omega) ⟨hch,by rw[List.length_append,List.length_singleton];omega,hng,fun d hd=>by
     rcases List.mem_append.1 hd with h | h
     ·exact hlg d h
     ·rw[List.mem_singleton]at h;rw[h];exact hxg.1⟩ (by rw[List.length_append,List.length_singleton];exact hw)
   refine dy hl @bQ hs1 ?_
   refine pZ i1 hl @bQ hs1 ?_
   refine⟨⟨fN,by omega⟩,?_⟩
   rw[mO]
   have hdl:=hk.dl
   by_cases h6:x.kind=6
   ·have hne:fk k x=Pk.readP k.1 (x.base:Nat):=if_pos h6
    have hrd:=BI k.1 (x.base:Nat) (by omega) ⟨by omega,by omega⟩
    rw[hne]at next
    generalize Pk.readP k.1 (x.base:Nat)=y at *
    simp only[l8]at hrd
    have j6:(x.kind:Int)=6:=by omega
    refine az j6 ?_
    refine aC hrd rfl rfl ?_
    refine wW ?_
    exact next _ (.le vV)
   ·have hne:fk k x=gr k x.id:=if_neg h6
    have hen:=A1 k x.id hk
    rw[hne]at next
    generalize gr k x.id=y at *
    simp only[l8]at hen
    have j6:¬(x.kind:Int)=6:=by omega
    refine az j6 ?_
    refine aC hen rfl rfl ?_
    refine wW ?_
    exact next _ (.le vV)
 ·by_cases he:e=0
  rotate_left
  ·have i1:¬(e:Int)=0:=by omega
   have hch':chainR k m (x,e) l=((x,e),l):=by
    cases m<;>exact if_neg (fun h=>he h.1)
   rw[hch']at hch
   subst hch
   have hres:nV id ((x,e),l)=(0,[],((e:Nat):Int)):=if_pos he
   rw[hres]at hR
   refine az i1 ?_
   refine cm i1 ?_
   refine⟨?_,?_⟩<;>exact hR.ro ⟨rfl,rfl⟩
  ·subst he
   have hkd:¬6≤x.kind:=fun h=>hc ⟨rfl,h⟩
   have i1:¬(6:Int)≤(x.kind:Int):=by omega
   have hch':chainR k m (x,0) l=((x,0),l):=by
    cases m<;>exact if_neg hc
   rw[hch']at hch
   subst hch
   have hlr:l.length≤12:=by omega
   have hls:aI (aO l) 0 l.length=aO l:=by
    unfold aI
    rw[List.drop_zero,List.take_of_length_le (by rw[bQ];omega)]
   have hres:nV id ((x,0),l)=jD id ((x.kind:Nat),(foldA x.data l.reverse).1,((foldA x.data l.reverse).2:Nat)):=if_neg (by simp)
   rw[hres]at hR
   generalize hF:foldA x.data l.reverse=F at *
   refine az i1 ?_
   refine cm i1 ?_
   refine GP hN hrd GJ (by decide) (xs:=l) (by omega) [(1,.str id),(4,.ab 263004 0),(5,.ab 263005 0),(7,.ab 263007 0),(9,.ab 263009 0),(63,.ro 1 (aO l))]
    (fun y:Bs=>[(263004,.var [.int .i64 0,.str []]),(263005,.var [.int .i64 0]),(263007,.var [.int .i64 0]),(263009,.var [.int .i64 x.kind,.str y])])
    (fun j y=>y.length≤65000∧foldA y (l.reverse.drop j)=F) x.data (.bH 263035 (.le (aqe @bQ hls @fN))) ⟨hxg.1,hF⟩ rfl rfl rfl (by decide) (by decide) rfl ?_ ?_
   ·rintro E2 j y R2 hN2 ⟨hyl,hinv⟩ hj hn hr hx
    rw[aiS hj]at hinv
    have hdl:=hlg _ (eP [] (show l.length-1-j<l.length by omega))
    generalize l.getD (l.length-1-j) []=d at *
    have hap:=Dl.Lf y d 65000 (by omega) (by omega) (by decide)
    have hal:=FC y d
    unfold foldA at hinv
    generalize Dl.jo y d 65000=A at *
    refine wW ?_
    refine aC hap rfl rfl ?_
    by_cases hA:A.2=0
    ·rw[if_neg (fun h=>h hA)]at hinv
     have j0:(A.2:Int)=0:=by omega
     refine az j0 ?_
     exact hn A.1 _ ⟨hal,hinv⟩ (.le vV)
    ·rw[if_pos hA]at hinv
     subst hinv
     have j0:¬(A.2:Int)=0:=by omega
     unfold jD at hR
     rw[if_pos (by simp only;omega)]at hR
     refine az j0 ?_
     refine⟨?_,?_⟩
     all_goals (refine hr _ [(263004,.var [.int .i64 0,.str []]),(263005,.var [.int .i64 (A.2:Nat)])] (.le vV) ?_)
     all_goals simp(disch:=omega)only[go_sem,simprocAttr]
     all_goals exact hR.ro ⟨rfl,rfl⟩
   ·rintro y ⟨hyl,hinv⟩
    rw[List.drop_of_length_le (by rw[List.length_reverse];omega)]at hinv
    unfold foldA at hinv
    subst hinv
    have hid:=ad1 (x.kind:Nat) y (by omega)
    unfold jD at hR
    rw[if_neg (by simp)]at hR
    simp only at hR
    generalize j5 (x.kind:Nat) y=is at *
    refine wW ?_
    refine aC hid rfl rfl ?_
    by_cases hx:is=id
    ·rw[if_pos hx]at hR
     refine az hx ?_
     exact hR.ro ⟨rfl,rfl⟩
    ·rw[if_neg hx]at hR
     refine az hx ?_
     exact hR.ro ⟨rfl,rfl⟩
open Eng Pk Ob
set_option maxRecDepth 10000
theorem af9 {s:Bs} {x:List Rw×Bs} (h:ed s=.ok x):∀r∈x.1,r.2.1≤1099511627776:=by
 unfold ed at h
 simp only at h
 split at h
 ·cases h
 split at h
 ·cases h
 split at h
 ·cases h
 split at h
 ·cases h
 split at h
 ·cases h
 split at h
 ·cases h
 split at h
 ·cases h
 rename_i l hl
 split at h
 ·cases h
 cases h
 have hll:=oe hl
 intro r hr
 obtain⟨j,hj,rfl⟩:=List.mem_iff_getElem.1 hr
 obtain⟨_,_,e1⟩:=q7 (od hl j (by simp only at hj;omega))
 simp only at hj e1
 rw[List.getD_eq_getElem?_getD,List.getElem?_eq_getElem hj]at e1
 exact e1
theorem Bn {L:List Fi} {U:List Bs} (hd:∀f∈L,f.2.length≤100000):∀{k:Nat} {ps:List bD},packsP L U k=.ok ps→∀p∈ps,p.1.length≤100000∧∀r∈p.2.2.1,r.2.1≤1099511627776
 | 0,ps,h=>by
  unfold packsP at h
  cases h
  intro p hp;simp at hp
 | k+1,ps,h=>by
  unfold packsP at h
  cases h1:packsP L U k with
  | error e=>rw[h1]at h;cases h
  | ok l'=>
   have ih:=Bn hd h1
   rw[h1]at h
   cases h2:stepP L (U.getD k [])with
   | error e=>rw[h2]at h;cases h
   | ok r=>
    rw[h2]at h
    cases r with
    | none=>cases h;exact ih
    | some r=>
     cases h
     intro p hp
     rcases List.mem_append.1 hp with hp | hp
     ·exact ih p hp
     ·rw[List.mem_singleton]at hp
      subst hp
      unfold stepP at h2
      split at h2
      ·cases h2
      ·split at h2
       ·cases h2
       ·rename_i x hx
        split at h2
        ·cases h2
        ·rename_i d hg
         split at h2
         ·cases h2
         ·split at h2
          ·cases h2
          ·split at h2
           ·cases h2
           ·cases h2
            exact⟨ti hd hg,af9 hx⟩
theorem acG {L:List Fi} {ps:List bD} (hd:∀f∈L,f.2.length≤100000) (h:iq L=.ok ps):∀k∈ps,kD k:=fun k hk=>by
 obtain⟨h1,h2⟩:=Bn hd h k hk
 obtain⟨h3,h4,_⟩:=(AY h).1 k hk
 exact⟨h1,(tL h4).ow,h3,h2⟩
def packGet (id:Bs):List bD→Int×Bs×Int
 | []=>(0,[],7)
 | k::r=>if(iP id k.2.2.1).isSome=true then mD k id else packGet id r
def nD (L:List Fi) (ps:List bD) (id:Bs):Int×Bs×Int:=if(la id L).2.2≠7 then la id L else packGet id ps
set_option maxHeartbeats 2000000 in
theorem adT (L:List Fi) (n:Nat) (ps:List bD) (id:Bs) (hs:dY L) (hl:L.length≤100000) (hd:∀f∈L,f.2.length≤1000000) (hp:∀k∈ps,kD k) (hpl:ps.length≤100000) (hi:id.length≤140737488351232) :
    aN Tryz.prog 12 [il L n ps,.str id] (gq (nD L ps id)):=by
 refine Cod.A5 (fun E R hN hR=>?_)
 have hlr:=aa8 L n id hs hl hd hi
 unfold nD at hR
 generalize la id L=X at *
 obtain⟨xk,xd,xe⟩:=X
 unfold gq eF at hlr hR
 simp only at hlr hR
 simp(disch:=omega)only[go_sem,simprocAttr,il]
 refine aC hlr rfl rfl ?_
 by_cases he:xe=7
 rotate_left
 ·rw[if_pos he]at hR
  refine az he ?_
  exact hR.ro ⟨rfl,rfl⟩
 rw[if_neg (fun h=>h he)]at hR
 subst he
 refine az @jF ?_
 obtain⟨RES,hRES⟩:∃X,X=packGet id ps:=⟨_,rfl⟩
 rw[←hRES]at hR
 refine ba hN (fun i:Nat=>⟨[(1,.str id),(4,.ab 249004 0),(28,.ro 2 (dP ps)),(29,.int .i64 ps.length),(30,.int .i64 i)],[(249004,.var [.int .i64 0,.str []])]⟩)
  (fun i=>i≤ps.length∧packGet id (ps.drop i)=RES) (fun i=>ps.length-i) 0 (.le vV) ⟨Nat.zero_le _,hRES.symm⟩ ?_
 clear hRES
 rintro i R1 ⟨hil,hres⟩ hR1
 by_cases hlt:i<ps.length
 ·have hgi:kD (ps.getD i iZ):=hp _ (eP iZ hlt)
  rw[List.drop_eq_getElem_cons hlt]at hres
  have hge:ps[i]=ps.getD i iZ:=by rw[List.getD_eq_getElem?_getD,List.getElem?_eq_getElem hlt];rfl
  rw[hge]at hres
  unfold packGet at hres
  obtain⟨k,hk⟩:∃k,k=ps.getD i iZ:=⟨_,rfl⟩
  rw[←hk]at hgi hres
  have hf:=DQ k.2.1 k.2.2 id hgi.ow (by have:=hgi.len;omega)
  have hob:=aff k id hgi
  have hnx:nth (dP ps) i=.agg [.str k.1,aM k.2.1 k.2.2]:=by rw[AX hlt,hk]
  refine bc @jF hnx ?_
  cases hfp:iP id k.2.2.1 with
  | none=>
   rw[hfp]at hf hres
   refine aC hf rfl rfl ?_
   simp(disch:=omega)only[go_sem,simprocAttr,findA]
   exact hR1 (i+1) _ (by omega) ⟨by omega,hres⟩ (.le vV)
  | some r=>
   rw[hfp]at hf hres
   simp only[Option.isSome_some,if_true]at hres
   subst hres
   generalize mD k id=Y at *
   obtain⟨yk,yd,ye⟩:=Y
   unfold gq eF at hob
   simp only at hob hR
   refine aC hf rfl rfl ?_
   simp(disch:=omega)only[go_sem,simprocAttr,findA]
   refine aC hob rfl rfl ?_
   refine wW ?_
   exact hR.ro ⟨rfl,rfl⟩
 ·obtain rfl:i=ps.length:=by omega
  rw[List.drop_length]at hres
  unfold packGet at hres
  subst hres
  refine wW ?_
  exact hR.ro ⟨rfl,rfl⟩
open Eng Ob
set_option maxRecDepth 10000
structure kz (id:Bs) (x:Int×Bs×Int):Prop where
 ok:x.2.2=0→dK x.1 x.2.1=0∧Sh.bP (Sh.eh (fO x.1 x.2.1))=id
 no:x.2.2≠0→x.1=0∧x.2.1=[]
theorem ml {id:Bs} {e:Int} (h:e≠0):kz id (0,[],e):=⟨fun h'=>absurd h' h,fun _=>⟨rfl,rfl⟩⟩
theorem yW {id:Bs} (hid:cL id=true) (x:Int×Bs×Int):kz id (jD id x):=by
 unfold jD
 split
 ·rename_i h;exact ml h
 ·split
  ·rename_i hx
   refine⟨fun _=>?_,fun h=>absurd rfl h⟩
   unfold j5 at hx
   by_cases hc:dK x.1 x.2.1=0
   ·rw[if_pos hc]at hx
    exact⟨hc,hx⟩
   ·rw[if_neg hc]at hx
    have:=(uw hid).1
    rw[←hx]at this
    simp at this
  ·exact ml (by decide)
theorem P6 (id:Bs) (L:List Fi):kz id (la id L):=by
 unfold la
 by_cases hid:cL id=true
 ·rw[if_pos hid]
  cases getF (gF id) L with
  | none=>exact ml (by decide)
  | some d=>exact yW hid _
 ·rw[if_neg hid];exact ml (by decide)
theorem P7 {id:Bs} (hid:cL id=true) (k:bD):kz id (mD k id):=by
 unfold mD nV
 split
 ·rename_i h;exact ml (by omega)
 ·exact yW hid _
theorem yX (id:Bs):∀{ps:List bD},iG ps→kz id (packGet id ps)
 | [],_=>ml (by decide)
 | k::r,h=>by
  unfold packGet
  split
  ·rename_i hf
   cases hfp:iP id k.2.2.1 with
   | none=>rw[hfp]at hf;cases hf
   | some x=>
    obtain⟨h1,h2⟩:=s3 hfp
    have:=(h k (List.mem_cons_self ..)).2.2 x h1
    rw[h2]at this
    exact P7 this k
  ·exact yX id (fun p hp=>h p (List.mem_cons_of_mem _ hp))
theorem P5 (L:List Fi) {ps:List bD} (id:Bs) (h:iG ps):kz id (nD L ps id):=by
 unfold nD
 split
 ·exact P6 id L
 ·exact yX id h
theorem abY {k:Int} (h:Ob.bu k≠[]):1≤k∧k≤4:=by
 unfold Ob.bu at h
 (repeat' split at h)<;>first | omega | exact absurd rfl h
theorem Jd {k:Int} {d:Bs} (h:dK k d=0):Ob.bu k≠[]∧d.length≤65000:=by
 refine⟨fun hn=>?_,xh h⟩
 unfold dK at h
 rw[if_pos hn]at h
 cases h
theorem P8 {id:Bs} {x:Int×Bs×Int} (h:kz id x):0≤x.1∧x.1≤4∧x.2.1.length≤65000:=by
 by_cases h0:x.2.2=0
 ·obtain⟨h1,h2⟩:=Jd (h.ok h0).1
  have:=abY h1
  exact⟨by omega,by omega,h2⟩
 ·obtain⟨h1,h2⟩:=h.no h0
  rw[h1,h2]
  simp
set_option maxHeartbeats 4000000 in
theorem ac6 (fs:List Fi) (id:Bs) (hb:D2 fs) (hi:id.length≤140737488351232):aN Tryz.prog 3 [.ro 2 (bo fs),.str id] (.bool true):=by
 refine Cod.ac7 (fun E R hN hR=>?_)
 have hsh:=amw fs 30 (by have:=hb.1;omega) (by decide) (fun f hf=>(hb.2 f hf).2)
 rw[show((30:Nat):Int)=30 from rfl]at hsh
 have hG1:=amy fs 30
 have hG2:∀f∈kn fs 30,f.1.length≤140737488351232∧f.2.length≤3000:=fun f hf=>by
  obtain⟨h1,g,hg,h2⟩:=amz hf
  exact⟨by rw[h2];exact(hb.2 g hg).1,h1⟩
 generalize kn fs 30=G at *
 have fin:∀{h ar},ar=[AV.undef,AV.undef]→R h (.bool true) ar:=fun ha=>by subst ha;exact hR.ro ⟨rfl,rfl⟩
 refine wW ?_
 refine bj [] hsh trivial (fun _=>rfl) ?_
 rintro h' v ar ⟨rfl,rfl,rfl⟩
 refine dy @mb @bV @sW ?_
 refine kM ⟨[(1,.str id),(15,.ro 2 (bo G))],[]⟩ (.bH 216012 (.le (eV @Oq))) rfl ?_
 refine gS (uX G (by omega) (fun f hf=>(hG2 f hf).1) (fun f hf=>Nat.le_trans (hG2 f hf).2 (by decide))) rfl ?_
 rintro h' v ar ⟨rfl,L,hL,hs,hcase⟩
 have hLl:=hL.length_eq
 rcases hcase with⟨hok,n,rfl⟩ | ⟨hno,rfl⟩
 rotate_left
 ·refine⟨rfl,rfl,?_⟩
  refine wW ?_
  refine gG ?_
  refine aC o7 rfl rfl ?_
  refine wW ?_
  refine gG ?_
  exact fin rfl
 refine⟨rfl,rfl,?_⟩
 have hLc:∀f∈L,f.1.length≤200:=fun f hf=>by
  have:=hok.1 f hf
  unfold fU at this
  simp only[Bool.and_eq_true,decide_eq_true_eq]at this
  exact this.1.1
 have hLd:∀f∈L,f.2.length≤100000:=fun f hf=>by have:=(hG2 f (hL.mem_iff.1 hf)).2;omega
 have ho:=uk L n hs (by omega) hLc hLd
 refine wW ?_
 refine gG ?_
 cases hop:iq L with
 | error e=>
  have he:=acH hop
  rw[hop]at ho
  refine aC ho rfl rfl ?_
  simp(disch:=omega)only[go_sem,simprocAttr,lp,he]
  (repeat(first | refine du ?_ | refine dq ?_ | refine dr ?_)<;>simp(disch:=omega)only[go_sem,simprocAttr,lp,he])
  refine aC o7 rfl rfl ?_
  refine az he ?_
  refine cm he ?_
  exact fin rfl
 | ok ps=>
  obtain⟨hpk,hpl⟩:=AY hop
  have hpg:=acG hLd hop
  rw[hop]at ho
  refine aC ho rfl rfl ?_
  have hns:=aeh L n ps [] hs (by omega) hLc hpk (by omega) (by decide)
  have hnl:=ab1 [] (L:=L) (by omega) hpk (by omega)
  have hid:∀x∈ka [] L ps,x.length=40:=fun x hx=>(zu (ab0 hpk hx)).1
  have hps1:=af8 (jb [] L++cY [] ps)
  have hps2:=af7 (jb [] L++cY [] ps)
  unfold ka at hns hnl hid
  generalize jC (jb [] L++cY [] ps)=U at *
  generalize gb (sortL (jb [] L++cY [] ps))=A at *
  have hgot:=fun x=>P5 L x hpk
  have hgk:=fun x hx=>adT L n ps x hs (by omega) (fun f hf=>by have:=hLd f hf;omega) hpg (by omega) hx
  generalize nD L ps=gp at *
  simp(disch:=omega)only[go_sem,simprocAttr,lp]
  refine gG ?_
  refine bj [] hns trivial (fun _=>rfl) ?_
  rintro h' v ar ⟨rfl,rfl,rfl⟩
  refine dz @bQ @fN @C6 hps1 hps2 ?_
  rw[mO]
  have hUl:(U++[id]).length=U.length+1:=by rw[List.length_append,List.length_singleton]
  have hUm:∀x∈U++[id],x.length≤140737488351232:=fun x hx=>by
   rcases List.mem_append.1 hx with h | h
   ·rw[hid x h];decide
   ·rw[List.mem_singleton]at h;rw[h];exact hi
  refine ba hN (fun k:Nat=>⟨[(7,il L n ps),(50,.sl 247042 0 (U.length+1)),(51,.int .i64 ((U.length:Int)+1)),(52,.int .i64 k)],[(247042,.arr 1 (aO (U++[id])))]⟩) (fun k=>k≤U.length+1) (fun k=>U.length+1-k) 0 (.le vV) (Nat.zero_le _) ?_
  rintro k R1 hk hR1
  by_cases hlt:k<U.length+1
  ·have hxm:=hUm _ (eP [] (by omega:k<(U++[id]).length))
   obtain⟨x,hx⟩:∃x,x=(U++[id]).getD k []:=⟨_,rfl⟩
   rw[←hx]at hxm
   have next:∀st',Wk st' ⟨[(7,il L n ps),(50,.sl 247042 0 (U.length+1)),(51,.int .i64 ((U.length:Int)+1)),(52,.int .i64 ((k+1:Nat):Int))],[(247042,.arr 1 (aO (U++[id])))]⟩→R1.ap st':=fun st' hw=>hR1 (k+1) _ (by omega) (by omega) hw
   by_cases h40:40<k
   ·have hi40:(40:Int)<(k:Int):=by omega
    simp(disch:=omega)only[go_sem,simprocAttr,bQ,hUl,nT,←hx,hi40]
    refine aC o7 rfl rfl ?_
    refine wW ?_
    exact fin rfl
   have hi40:¬(40:Int)<(k:Int):=by omega
   have hr:=hgk x hxm
   have hgo:=hgot x
   have hrng:=P8 hgo
   obtain⟨y,hy⟩:∃y,y=gp x:=⟨_,rfl⟩
   rw[←hy]at hr hgo hrng
   clear hy
   obtain⟨yk,yd,ye⟩:=y
   obtain⟨hk1,hk3⟩:=hgo
   simp only at hk1 hk3 hrng
   unfold gq eF at hr
   simp only at hr
   simp(disch:=omega)only[go_sem,simprocAttr,bQ,hUl,nT,←hx,hi40]
   refine aC hr rfl rfl ?_
   by_cases he0:ye=0
   ·subst he0
    have hx1:=(hk1 rfl).2
    have hrid:=ajb yk yd (by omega) (by omega) hrng.2.2
    rw[hx1]at hrid
    refine wW ?_
    refine gG ?_
    refine mi (jU (by simp(disch:=omega)only[go_sem,simprocAttr,eF]) hrid vV rfl rfl ?_)
    refine wW ?_
    refine gG ?_
    exact next _ (.le vV)
   ·obtain⟨hk0,hd0⟩:=hk3 he0
    subst hk0 hd0
    refine az he0 ?_
    refine cm he0 ?_
    exact next _ (.le vV)
  ·obtain rfl:k=U.length+1:=by omega
   refine wW ?_
   refine aC o7 rfl rfl ?_
   refine wW ?_
   exact fin rfl
end Go.Proofs.YtoalcafkffmiiaaGreatDoor.Ls
