/- The proof, part 41 of 42. -/
import Derived.Test.YtoalcafkffmiiaaGreatDoorOdbKindsZL
import Derived.Test.YtoalcafkffmiiaaGreatDoorOdbKindsZM
import Derived.Test.YtoalcafkffmiiaaGreatDoorOdbKindsZN
set_option linter.all false
namespace Go.Proofs.YtoalcafkffmiiaaGreatDoor.Ls
open Eng Pk Ob
set_option maxRecDepth 10000
def eX (k:bx) (x:En):En×Nat:=if x.kind=6 then Pk.readP k.1 (x.base:Nat)else gb k x.id
def chainR (k:bx):Nat→En×Nat→List Bs→(En×Nat)×List Bs
 | 0,x,l=>if x.2=0∧6≤x.1.kind then((cZ,9),l)else(x,l)
 | m+1,x,l=>if x.2=0∧6≤x.1.kind then chainR k m (eX k x.1) (l++[x.1.data])else(x,l)
def foldA:Bs→List Bs→Bs×Nat
 | b,[]=>(b,0)
 | b,d::r=>if(Dl.ja b d 65000).2≠0 then([],(Dl.ja b d 65000).2)else foldA (Dl.ja b d 65000).1 r
def nE (id:Bs) (C:(En×Nat)×List Bs):Int×Bs×Int:=
 if C.1.2≠0 then(0,[],(C.1.2:Nat))
 else jq id ((C.1.1.kind:Nat),(foldA C.1.1.data C.2.reverse).1,((foldA C.1.1.data C.2.reverse).2:Nat))
def mf (k:bx) (id:Bs):Int×Bs×Int:=nE id (chainR k 12 (gb k id) [])
theorem abt (k:bx) (x:En) (hk:jG k) (hx:x.base≤1099511627776):(eX k x).1.data.length≤65000∧(eX k x).1.base≤1099511627776:=by
 unfold eX
 split
 ·have:=BA k.1 (x.base:Nat)
  exact⟨BB _ _,by omega⟩
 ·exact xT k _ hk
theorem adB (k:Int) (t:Bs) (ht:t.length≤100000):aO Tryz.prog 82 [.agg [.int .i64 k,.str t]] (.ai [.str (jR k t),.int .i64 (dD k t)]):=by
 have h4:=y9 k t (by omega)
 unfold jR
 unfold p4 at h4
 by_cases hc:dD k t=0
 ·rw[if_pos hc]at h4 ⊢;rw[hc];exact h4
 ·rw[if_neg hc]at h4 ⊢;exact h4
theorem aiB {l:List Bs} {k:Nat} (hk:k<l.length):l.reverse.drop k=l.getD (l.length-1-k) []::l.reverse.drop (k+1):=by
 rw[List.drop_eq_getElem_cons (by rw[List.length_reverse];exact hk),List.getElem_reverse,List.getD_eq_getElem?_getD,List.getElem?_eq_getElem (by omega)]
 rfl
theorem vJ (b d:Bs) (size:Nat):∀(m p:Nat) (out:Bs),out.length≤size→(Dl.applyR b d size m p out).1.length≤size
 | 0,_,_,_=>Nat.zero_le _
 | m+1,p,out,h=>by
  unfold Dl.applyR
  split
  ·split
   ·exact Nat.zero_le _
   ·exact h
  ·split
   ·exact Nat.zero_le _
   ·split
    ·exact Nat.zero_le _
    ·exact vJ b d size m _ _ (by rw[List.length_append];omega)
theorem EP (b d:Bs):(Dl.ja b d 65000).1.length≤65000:=by
 unfold Dl.ja
 split
 ·exact Nat.zero_le _
 ·split
  ·exact Nat.zero_le _
  ·split
   ·exact Nat.zero_le _
   ·have:=vJ b d (Dl.ez d).2.1 (d.length+1) (Dl.ez d).2.2.1 [] (Nat.zero_le _)
    omega
set_option maxHeartbeats 4000000 in
theorem ae1 (k:bx) (id:Bs) (hk:jG k):aO Tryz.prog 46 [.agg [.str k.1,aX k.2.1 k.2.2],.str id] (fO (mf k id)):=by
 refine Cod.ae2 (fun E R hN hrd hR=>?_)
 have he0:=Az k id hk
 have hg0:=xT k id hk
 unfold mf at hR
 obtain⟨RES,hRES⟩:∃X,X=chainR k 12 (gb k id) []:=⟨_,rfl⟩
 rw[←hRES]at hR
 generalize gb k id=x0 at *
 obtain⟨x0,e0⟩:=x0
 simp only[lR]at he0
 simp only at hg0
 have hR:cN (fun h r _=>h=[]∧r=fO (nE id RES)) R:=hR
 refine wW ?_
 refine aC he0 rfl rfl ?_
 refine wW ?_
 refine bm hN (fun q:Nat×(En×Nat)×List Bs=>⟨[(1,.str id),(2,.ab 263002 0),(4,.ab 263004 0),(5,.ab 263005 0),(6,.ab 263006 0),(7,.ab 263007 0),(8,.sl 263035 0 q.2.2.length)],
     [(263002,.var [.str k.1,aX k.2.1 k.2.2]),(263004,.var [.int .i64 0,.str []]),(263005,.var [.int .i64 0]),(263006,.var [.int .i64 q.2.1.1.at_,.int .i64 q.2.1.1.next,.int .i64 q.2.1.1.kind,.str q.2.1.1.data,.int .i64 q.2.1.1.base,.str q.2.1.1.id,.int .u32 q.2.1.1.lJ.toNat]),(263007,.var [.int .i64 (q.2.1.2:Nat)]),(263035,.arr 1 (aL q.2.2))]⟩)
  (fun q=>chainR k q.1 q.2.1 q.2.2=RES∧q.2.2.length+q.1=12∧(q.2.1.1.data.length≤65000∧q.2.1.1.base≤1099511627776)∧∀d∈q.2.2,d.length≤65000) (fun q=>q.1) (12,(x0,e0),[]) (.nil 8 263035 1 rfl (.le (fL @ob))) ⟨hRES.symm,rfl,hg0,fun d hd=>by cases hd⟩ ?_
 clear hRES he0 hg0
 rintro⟨m,⟨x,e⟩,l⟩ R1 ⟨hch,hlm,hxg,hlg⟩ hR1
 simp only at hch hlm hxg hlg
 by_cases hc:e=0∧6≤x.kind
 ·obtain⟨rfl,hkd⟩:=hc
  have i1:(6:Int)≤(x.kind:Int):=by omega
  cases m with
  | zero=>
   unfold chainR at hch
   rw[if_pos ⟨rfl,hkd⟩]at hch
   subst hch
   have hl:l.length=12:=by omega
   refine aw hl ?_
   refine ft i1 hl ?_
   exact hR.ro ⟨rfl,rfl⟩
  | succ m=>
   unfold chainR at hch
   rw[if_pos ⟨rfl,hkd⟩]at hch
   have hl:¬(l.length:Int)=12:=by omega
   have hng:=abt k x hk hxg.2
   have hs1:aG (aL l) 0 l.length=aL l:=by
    unfold aG
    rw[List.drop_zero,List.take_of_length_le (by rw[bO];omega)]
   have next:∀st',Wk st' ⟨[(1,.str id),(2,.ab 263002 0),(4,.ab 263004 0),(5,.ab 263005 0),(6,.ab 263006 0),(7,.ab 263007 0),(8,.sl 263035 0 (l.length+1))],
       [(263002,.var [.str k.1,aX k.2.1 k.2.2]),(263004,.var [.int .i64 0,.str []]),(263005,.var [.int .i64 0]),(263006,.var [.int .i64 (eX k x).1.at_,.int .i64 (eX k x).1.next,.int .i64 (eX k x).1.kind,.str (eX k x).1.data,.int .i64 (eX k x).1.base,.str (eX k x).1.id,.int .u32 (eX k x).1.lJ.toNat]),(263007,.var [.int .i64 ((eX k x).2:Nat)]),(263035,.arr 1 (aL (l++[x.data])))]⟩→R1.ap st':=fun st' hw=>
    hR1 (m,eX k x,l++[x.data]) _ (by simp only;omega) ⟨hch,by rw[List.length_append,List.length_singleton];omega,hng,fun d hd=>by
     rcases List.mem_append.1 hd with h | h
     ·exact hlg d h
     ·rw[List.mem_singleton]at h;rw[h];exact hxg.1⟩ (by rw[List.length_append,List.length_singleton];exact hw)
   refine dz hl @bO hs1 ?_
   refine pJ i1 hl @bO hs1 ?_
   refine⟨⟨fI,by omega⟩,?_⟩
   rw[oa]
   have hdl:=hk.dl
   by_cases h6:x.kind=6
   ·have hne:eX k x=Pk.readP k.1 (x.base:Nat):=if_pos h6
    have hrd:=Bq k.1 (x.base:Nat) (by omega) ⟨by omega,by omega⟩
    rw[hne]at next
    generalize Pk.readP k.1 (x.base:Nat)=y at *
    simp only[lR]at hrd
    have j6:(x.kind:Int)=6:=by omega
    refine aw j6 ?_
    refine aC hrd rfl rfl ?_
    refine wW ?_
    exact next _ (.le vV)
   ·have hne:eX k x=gb k x.id:=if_neg h6
    have hen:=Az k x.id hk
    rw[hne]at next
    generalize gb k x.id=y at *
    simp only[lR]at hen
    have j6:¬(x.kind:Int)=6:=by omega
    refine aw j6 ?_
    refine aC hen rfl rfl ?_
    refine wW ?_
    exact next _ (.le vV)
 ·by_cases he:e=0
  rotate_left
  ·have i1:¬(e:Int)=0:=by omega
   have hch':chainR k m (x,e) l=((x,e),l):=by
    cases m<;>exact if_neg (fun h=>he h.1)
   rw[hch']at hch
   subst hch
   have hres:nE id ((x,e),l)=(0,[],((e:Nat):Int)):=if_pos he
   rw[hres]at hR
   refine aw i1 ?_
   refine bW i1 ?_
   refine⟨?_,?_⟩<;>exact hR.ro ⟨rfl,rfl⟩
  ·subst he
   have hkd:¬6≤x.kind:=fun h=>hc ⟨rfl,h⟩
   have i1:¬(6:Int)≤(x.kind:Int):=by omega
   have hch':chainR k m (x,0) l=((x,0),l):=by
    cases m<;>exact if_neg hc
   rw[hch']at hch
   subst hch
   have hlr:l.length≤12:=by omega
   have hls:aG (aL l) 0 l.length=aL l:=by
    unfold aG
    rw[List.drop_zero,List.take_of_length_le (by rw[bO];omega)]
   have hres:nE id ((x,0),l)=jq id ((x.kind:Nat),(foldA x.data l.reverse).1,((foldA x.data l.reverse).2:Nat)):=if_neg (by simp)
   rw[hres]at hR
   generalize hF:foldA x.data l.reverse=F at *
   refine aw i1 ?_
   refine bW i1 ?_
   refine Gb hN hrd F5 (by decide) (xs:=l) (by omega) [(1,.str id),(4,.ab 263004 0),(5,.ab 263005 0),(7,.ab 263007 0),(9,.ab 263009 0),(63,.ro 1 (aL l))]
    (fun y:Bs=>[(263004,.var [.int .i64 0,.str []]),(263005,.var [.int .i64 0]),(263007,.var [.int .i64 0]),(263009,.var [.int .i64 x.kind,.str y])])
    (fun j y=>y.length≤65000∧foldA y (l.reverse.drop j)=F) x.data (.bG 263035 (.le (an6 @bO hls @fI))) ⟨hxg.1,hF⟩ rfl rfl rfl (by decide) (by decide) rfl ?_ ?_
   ·rintro E2 j y R2 hN2 ⟨hyl,hinv⟩ hj hn hr hx
    rw[aiB hj]at hinv
    have hdl:=hlg _ (eE [] (show l.length-1-j<l.length by omega))
    generalize l.getD (l.length-1-j) []=d at *
    have hap:=Dl.Ky y d 65000 (by omega) (by omega) (by decide)
    have hal:=EP y d
    unfold foldA at hinv
    generalize Dl.ja y d 65000=A at *
    refine wW ?_
    refine aC hap rfl rfl ?_
    by_cases hA:A.2=0
    ·rw[if_neg (fun h=>h hA)]at hinv
     have j0:(A.2:Int)=0:=by omega
     refine aw j0 ?_
     exact hn A.1 _ ⟨hal,hinv⟩ (.le vV)
    ·rw[if_pos hA]at hinv
     subst hinv
     have j0:¬(A.2:Int)=0:=by omega
     unfold jq at hR
     rw[if_pos (by simp only;omega)]at hR
     refine aw j0 ?_
     refine⟨?_,?_⟩
     all_goals (refine hr _ [(263004,.var [.int .i64 0,.str []]),(263005,.var [.int .i64 (A.2:Nat)])] (.le vV) ?_)
     all_goals simp(disch:=omega)only[go_sem,simprocAttr]
     all_goals exact hR.ro ⟨rfl,rfl⟩
   ·rintro y ⟨hyl,hinv⟩
    rw[List.drop_of_length_le (by rw[List.length_reverse];omega)]at hinv
    unfold foldA at hinv
    subst hinv
    have hid:=adB (x.kind:Nat) y (by omega)
    unfold jq at hR
    rw[if_neg (by simp)]at hR
    simp only at hR
    generalize jR (x.kind:Nat) y=is at *
    refine wW ?_
    refine aC hid rfl rfl ?_
    by_cases hx:is=id
    ·rw[if_pos hx]at hR
     refine aw hx ?_
     exact hR.ro ⟨rfl,rfl⟩
    ·rw[if_neg hx]at hR
     refine aw hx ?_
     exact hR.ro ⟨rfl,rfl⟩
open Eng Pk Ob
set_option maxRecDepth 10000
theorem afU {s:Bs} {x:List Rw×Bs} (h:dT s=.ok x):∀r∈x.1,r.2.1≤1099511627776:=by
 unfold dT at h
 simp only at h
 split at h
 ·cases h
 split at h
 ·cases h
 split at h
 ·cases h
 split at h
 ·cases h
 split at h
 ·cases h
 split at h
 ·cases h
 split at h
 ·cases h
 rename_i l hl
 split at h
 ·cases h
 cases h
 have hll:=nP hl
 intro r hr
 obtain⟨j,hj,rfl⟩:=List.mem_iff_getElem.1 hr
 obtain⟨_,_,e1⟩:=qN (nN hl j (by simp only at hj;omega))
 simp only at hj e1
 rw[List.getD_eq_getElem?_getD,List.getElem?_eq_getElem hj]at e1
 exact e1
theorem A5 {L:List Fi} {U:List Bs} (hd:∀f∈L,f.2.length≤100000):∀{k:Nat} {ps:List bx},packsP L U k=.ok ps→∀p∈ps,p.1.length≤100000∧∀r∈p.2.2.1,r.2.1≤1099511627776
 | 0,ps,h=>by
  unfold packsP at h
  cases h
  intro p hp;simp at hp
 | k+1,ps,h=>by
  unfold packsP at h
  cases h1:packsP L U k with
  | error e=>rw[h1]at h;cases h
  | ok l'=>
   have ih:=A5 hd h1
   rw[h1]at h
   cases h2:stepP L (U.getD k [])with
   | error e=>rw[h2]at h;cases h
   | ok r=>
    rw[h2]at h
    cases r with
    | none=>cases h;exact ih
    | some r=>
     cases h
     intro p hp
     rcases List.mem_append.1 hp with hp | hp
     ·exact ih p hp
     ·rw[List.mem_singleton]at hp
      subst hp
      unfold stepP at h2
      split at h2
      ·cases h2
      ·split at h2
       ·cases h2
       ·rename_i x hx
        split at h2
        ·cases h2
        ·rename_i d hg
         split at h2
         ·cases h2
         ·split at h2
          ·cases h2
          ·split at h2
           ·cases h2
           ·cases h2
            exact⟨s7 hd hg,afU hx⟩
theorem abZ {L:List Fi} {ps:List bx} (hd:∀f∈L,f.2.length≤100000) (h:gW L=.ok ps):∀k∈ps,jG k:=fun k hk=>by
 obtain⟨h1,h2⟩:=A5 hd h k hk
 obtain⟨h3,h4,_⟩:=(Aw h).1 k hk
 exact⟨h1,(tB h4).nW,h3,h2⟩
def packGet (id:Bs):List bx→Int×Bs×Int
 | []=>(0,[],7)
 | k::r=>if(iA id k.2.2.1).isSome=true then mf k id else packGet id r
def jO (L:List Fi) (ps:List bx) (id:Bs):Int×Bs×Int:=if(kT id L).2.2≠7 then kT id L else packGet id ps
set_option maxHeartbeats 2000000 in
theorem AD (L:List Fi) (n:Nat) (ps:List bx) (id:Bs) (hs:du L) (hl:L.length≤100000) (hd:∀f∈L,f.2.length≤1000000) (hp:∀k∈ps,jG k) (hpl:ps.length≤100000) (hi:id.length≤140737488351232) :
    aO Tryz.prog 12 [eY L n ps,.str id] (fO (jO L ps id)):=by
 refine Cod.AF (fun E R hN hR=>?_)
 have hlr:=aau L n id hs hl hd hi
 unfold jO at hR
 generalize kT id L=X at *
 obtain⟨xk,xd,xe⟩:=X
 unfold fO fB at hlr hR
 simp only at hlr hR
 simp(disch:=omega)only[go_sem,simprocAttr,eY]
 refine aC hlr rfl rfl ?_
 by_cases he:xe=7
 rotate_left
 ·rw[if_pos he]at hR
  refine aw he ?_
  exact hR.ro ⟨rfl,rfl⟩
 rw[if_neg (fun h=>h he)]at hR
 subst he
 refine aw @js ?_
 obtain⟨RES,hRES⟩:∃X,X=packGet id ps:=⟨_,rfl⟩
 rw[←hRES]at hR
 refine bm hN (fun i:Nat=>⟨[(1,.str id),(4,.ab 249004 0),(28,.ro 2 (dI ps)),(29,.int .i64 ps.length),(30,.int .i64 i)],[(249004,.var [.int .i64 0,.str []])]⟩)
  (fun i=>i≤ps.length∧packGet id (ps.drop i)=RES) (fun i=>ps.length-i) 0 (.le vV) ⟨Nat.zero_le _,hRES.symm⟩ ?_
 clear hRES
 rintro i R1 ⟨hil,hres⟩ hR1
 by_cases hlt:i<ps.length
 ·have hgi:jG (ps.getD i iK):=hp _ (eE iK hlt)
  rw[List.drop_eq_getElem_cons hlt]at hres
  have hge:ps[i]=ps.getD i iK:=by rw[List.getD_eq_getElem?_getD,List.getElem?_eq_getElem hlt];rfl
  rw[hge]at hres
  unfold packGet at hres
  obtain⟨k,hk⟩:∃k,k=ps.getD i iK:=⟨_,rfl⟩
  rw[←hk]at hgi hres
  have hf:=Da k.2.1 k.2.2 id hgi.nW (by have:=hgi.len;omega)
  have hob:=ae1 k id hgi
  have hnx:nth (dI ps) i=.agg [.str k.1,aX k.2.1 k.2.2]:=by rw[Av hlt,hk]
  refine bc @js hnx ?_
  cases hfp:iA id k.2.2.1 with
  | none=>
   rw[hfp]at hf hres
   refine aC hf rfl rfl ?_
   simp(disch:=omega)only[go_sem,simprocAttr,findA]
   exact hR1 (i+1) _ (by omega) ⟨by omega,hres⟩ (.le vV)
  | some r=>
   rw[hfp]at hf hres
   simp only[Option.isSome_some,if_true]at hres
   subst hres
   generalize mf k id=Y at *
   obtain⟨yk,yd,ye⟩:=Y
   unfold fO fB at hob
   simp only at hob hR
   refine aC hf rfl rfl ?_
   simp(disch:=omega)only[go_sem,simprocAttr,findA]
   refine aC hob rfl rfl ?_
   refine wW ?_
   exact hR.ro ⟨rfl,rfl⟩
 ·obtain rfl:i=ps.length:=by omega
  rw[List.drop_length]at hres
  unfold packGet at hres
  subst hres
  refine wW ?_
  exact hR.ro ⟨rfl,rfl⟩
open Eng Ob
set_option maxRecDepth 10000
structure kj (id:Bs) (x:Int×Bs×Int):Prop where
 ok:x.2.2=0→dD x.1 x.2.1=0∧Sh.bZ (Sh.fg (jA x.1 x.2.1))=id
 no:x.2.2≠0→x.1=0∧x.2.1=[]
theorem l5 {id:Bs} {e:Int} (h:e≠0):kj id (0,[],e):=⟨fun h'=>absurd h' h,fun _=>⟨rfl,rfl⟩⟩
theorem yC {id:Bs} (hid:cH id=true) (x:Int×Bs×Int):kj id (jq id x):=by
 unfold jq
 split
 ·rename_i h;exact l5 h
 ·split
  ·rename_i hx
   refine⟨fun _=>?_,fun h=>absurd rfl h⟩
   unfold jR at hx
   by_cases hc:dD x.1 x.2.1=0
   ·rw[if_pos hc]at hx
    exact⟨hc,hx⟩
   ·rw[if_neg hc]at hx
    have:=(ug hid).1
    rw[←hx]at this
    simp at this
  ·exact l5 (by decide)
theorem Pp (id:Bs) (L:List Fi):kj id (kT id L):=by
 unfold kT
 by_cases hid:cH id=true
 ·rw[if_pos hid]
  cases getF (gr id) L with
  | none=>exact l5 (by decide)
  | some d=>exact yC hid _
 ·rw[if_neg hid];exact l5 (by decide)
theorem Pq {id:Bs} (hid:cH id=true) (k:bx):kj id (mf k id):=by
 unfold mf nE
 split
 ·rename_i h;exact l5 (by omega)
 ·exact yC hid _
theorem yD (id:Bs):∀{ps:List bx},gz ps→kj id (packGet id ps)
 | [],_=>l5 (by decide)
 | k::r,h=>by
  unfold packGet
  split
  ·rename_i hf
   cases hfp:iA id k.2.2.1 with
   | none=>rw[hfp]at hf;cases hf
   | some x=>
    obtain⟨h1,h2⟩:=sQ hfp
    have:=(h k (List.mem_cons_self ..)).2.2 x h1
    rw[h2]at this
    exact Pq this k
  ·exact yD id (fun p hp=>h p (List.mem_cons_of_mem _ hp))
theorem Po (L:List Fi) {ps:List bx} (id:Bs) (h:gz ps):kj id (jO L ps id):=by
 unfold jO
 split
 ·exact Pp id L
 ·exact yD id h
theorem Ao {k:Int} (h:Ob.bu k≠[]):1≤k∧k≤4:=by
 unfold Ob.bu at h
 (repeat' split at h)<;>first | omega | exact absurd rfl h
theorem wM {k:Int} {d:Bs} (h:dD k d=0):Ob.bu k≠[]∧d.length≤65000:=by
 refine⟨fun hn=>?_,wL h⟩
 unfold dD at h
 rw[if_pos hn]at h
 cases h
theorem Pr {id:Bs} {x:Int×Bs×Int} (h:kj id x):0≤x.1∧x.1≤4∧x.2.1.length≤65000:=by
 by_cases h0:x.2.2=0
 ·obtain⟨h1,h2⟩:=wM (h.ok h0).1
  have:=Ao h1
  exact⟨by omega,by omega,h2⟩
 ·obtain⟨h1,h2⟩:=h.no h0
  rw[h1,h2]
  simp
def qa (k:Int) (x:Int×Bs×Int):Bs×Int:=if x.2.2≠0 then([],x.2.2)else if x.1≠k then([],10)else(x.2.1,0)
theorem adM (L:List Fi) (n:Nat) (ps:List bx) (id:Bs) (k:Int) (hs:du L) (hl:L.length≤100000) (hd:∀f∈L,f.2.length≤1000000) (hp:∀k∈ps,jG k) (hpl:ps.length≤100000) (hi:id.length≤140737488351232) :
    aO Tryz.prog 16 [eY L n ps,.str id,.int .i64 k] (.ai [.str (qa k (jO L ps id)).1,.int .i64 (qa k (jO L ps id)).2]):=by
 refine Cod.adN (fun E R hN hR=>?_)
 have hg:=AD L n ps id hs hl hd hp hpl hi
 unfold qa at hR
 generalize jO L ps id=x at *
 obtain⟨xk,xd,xe⟩:=x
 unfold fO fB at hg
 simp only at hg hR
 refine wW ?_
 refine aC hg rfl rfl ?_
 refine wW ?_
 refine fV (y:=Cod.AJ) hN (fun _:Unit=>⟨[(8,.ab 264008 0),(9,.int .i64 (if xe≠0 then xe else if xk≠k then 10 else 0))],[(264008,.var [.int .i64 xk,.str xd])]⟩) (fun _=>True) (fun R2 hR2=>?_) (fun _ _=>?_)
 ·by_cases he:xe=0
  ·rw[if_neg (fun h=>h he)]at hR2
   by_cases hk:xk=k
   ·rw[if_neg (fun h=>h hk)]at hR2
    refine bc he hk ?_
    refine ft he hk ?_
    exact hR2 () _ trivial (.le vV)
   ·rw[if_pos hk]at hR2
    refine bc he hk ?_
    refine ft he hk ?_
    exact hR2 () _ trivial (.le vV)
  ·rw[if_pos he]at hR2
   refine aw he ?_
   refine bW he ?_
   exact hR2 () _ trivial (.le vV)
 ·by_cases he:xe=0
  ·rw[if_neg (fun h=>h he)]at hR ⊢
   by_cases hk:xk=k
   ·rw[if_neg (fun h=>h hk)]at hR ⊢
    refine wW ?_
    exact hR.ro ⟨rfl,rfl⟩
   ·rw[if_pos hk]at hR ⊢
    refine wW ?_
    exact hR.ro ⟨rfl,rfl⟩
  ·rw[if_pos he]at hR ⊢
   refine aw he ?_
   exact hR.ro ⟨rfl,rfl⟩
set_option maxHeartbeats 4000000 in
theorem acH (fs:List Fi) (hb:Dm fs):aO Tryz.prog 5 [.ro 2 (bn fs)] (.bool true):=by
 refine Cod.acI (fun E R hN hR=>?_)
 have hsh:=aki fs 30 (by have:=hb.1;omega) (by decide) (fun f hf=>(hb.2 f hf).2)
 rw[show((30:Nat):Int)=30 from rfl]at hsh
 have hG1:=akk fs 30
 have hG2:∀f∈j8 fs 30,f.1.length≤140737488351232∧f.2.length≤3000:=fun f hf=>by
  obtain⟨h1,g,hg,h2⟩:=akl hf
  exact⟨by rw[h2];exact(hb.2 g hg).1,h1⟩
 generalize j8 fs 30=G at *
 have fin:∀{h ar},ar=[AV.undef]→R h (.bool true) ar:=fun ha=>by subst ha;exact hR.ro ⟨rfl,rfl⟩
 refine wW ?_
 refine bf [] hsh trivial (fun _=>rfl) ?_
 rintro h' v ar ⟨rfl,rfl,rfl⟩
 refine dz @lU @bT @sM ?_
 refine ky ⟨[(17,.ro 2 (bn G))],[]⟩ (.bG 216012 (.le (fL @NH))) rfl ?_
 refine gF (uH G (by omega) (fun f hf=>(hG2 f hf).1) (fun f hf=>Nat.le_trans (hG2 f hf).2 (by decide))) rfl ?_
 rintro h' v ar ⟨rfl,L,hL,hs,hcase⟩
 have hLl:=hL.length_eq
 rcases hcase with⟨hok,n,rfl⟩ | ⟨hno,rfl⟩
 rotate_left
 ·refine⟨rfl,rfl,?_⟩
  refine wW ?_
  refine gG ?_
  refine aC oK rfl rfl ?_
  refine wW ?_
  refine gG ?_
  exact fin rfl
 refine⟨rfl,rfl,?_⟩
 have hLc:∀f∈L,f.1.length≤200:=fun f hf=>by
  have:=hok.1 f hf
  unfold fN at this
  simp only[Bool.and_eq_true,decide_eq_true_eq]at this
  exact this.1.1
 have hLd:∀f∈L,f.2.length≤100000:=fun f hf=>by have:=(hG2 f (hL.mem_iff.1 hf)).2;omega
 have ho:=tZ L n hs (by omega) hLc hLd
 refine wW ?_
 refine gG ?_
 cases hop:gW L with
 | error e=>
  have he:=ab0 hop
  rw[hop]at ho
  refine aC ho rfl rfl ?_
  simp(disch:=omega)only[go_sem,simprocAttr,k8,he]
  (repeat(first | refine dk ?_ | refine di ?_ | refine dj ?_)<;>simp(disch:=omega)only[go_sem,simprocAttr,k8,he])
  refine aC oK rfl rfl ?_
  refine aw he ?_
  refine bW he ?_
  exact fin rfl
 | ok ps=>
  obtain⟨hpk,hpl⟩:=Aw hop
  have hpg:=abZ hLd hop
  rw[hop]at ho
  refine aC ho rfl rfl ?_
  have hns:=aes L n ps [] hs (by omega) hLc hpk (by omega) (by decide)
  have hnl:=abl [] (L:=L) (by omega) hpk (by omega)
  have hid:∀x∈gq [] L ps,x.length=40:=fun x hx=>(y8 (abk hpk hx)).1
  generalize gq [] L ps=U at *
  have hgot:=fun x=>Po L x hpk
  have hgk:=fun x hx=>AD L n ps x hs (by omega) (fun f hf=>by have:=hLd f hf;omega) hpg (by omega) hx
  have hkk:=fun x hx k=>adM L n ps x k hs (by omega) (fun f hf=>by have:=hLd f hf;omega) hpg (by omega) hx
  generalize jO L ps=gp at *
  simp(disch:=omega)only[go_sem,simprocAttr,k8]
  refine gG ?_
  refine aC hns rfl rfl ?_
  refine aw @bO ?_
  refine bm hN (fun i:Nat=>⟨[(5,eY L n ps),(49,.ro 1 (aL U)),(50,.int .i64 U.length),(51,.int .i64 i)],[]⟩) (fun i=>i≤U.length) (fun i=>U.length-i) 0 (.le vV) (Nat.zero_le _) ?_
  rintro i R1 hi hR1
  by_cases hlt:i<U.length
  rotate_left
  ·obtain rfl:i=U.length:=by omega
   refine aw @bO ?_
   refine aC oK rfl rfl ?_
   refine wW ?_
   exact fin rfl
  have hxl:=hid _ (eE [] hlt)
  obtain⟨x,hx⟩:∃x,x=U.getD i []:=⟨_,rfl⟩
  rw[←hx]at hxl
  by_cases h40:40<i
  ·have hi40:(40:Int)<(i:Int):=by omega
   simp(disch:=omega)only[go_sem,simprocAttr,bO,nC,←hx,hi40]
   refine aC oK rfl rfl ?_
   refine wW ?_
   exact fin rfl
  have hi40:¬(40:Int)<(i:Int):=by omega
  have next:∀st',Wk st' ⟨[(5,eY L n ps),(49,.ro 1 (aL U)),(50,.int .i64 U.length),(51,.int .i64 ((i+1:Nat):Int))],[]⟩→R1.ap st':=fun st' hw=>hR1 (i+1) _ (by omega) (by omega) hw
  have hr:=hgk x (by omega)
  have hkx:=hkk x (by omega)
  have hgo:=hgot x
  have hrng:=Pr hgo
  obtain⟨y,hy⟩:∃y,y=gp x:=⟨_,rfl⟩
  rw[←hy]at hr hgo hrng hkx
  clear hy
  obtain⟨yk,yd,ye⟩:=y
  obtain⟨hk1,hk3⟩:=hgo
  simp only at hk1 hk3 hrng
  unfold fO fB at hr
  unfold qa at hkx
  simp only at hr hkx
  simp(disch:=omega)only[go_sem,simprocAttr,bO,nC,←hx,hi40]
  refine aC hr rfl rfl ?_
  refine wW ?_
  by_cases he0:ye=0
  ·subst he0
   obtain⟨hnm,hdl⟩:=wM (hk1 rfl).1
   have hyr:=Ao hnm
   let c:Nat→Int:=fun k=>if yk<(k:Int)then 1 else 0
   refine bm hN (fun k:Nat=>⟨[(5,eY L n ps),(8,.str x),(9,.ab 266009 0),(10,.int .i64 0),(11,.int .i64 (c k)),(12,.int .i64 k),(49,.ro 1 (aL U)),(50,.int .i64 U.length),(51,.int .i64 i)],[(266009,.var [.int .i64 yk,.str yd])]⟩) (fun k=>k≤6) (fun k=>6-k) 0
    (.le (by have h0:c 0=0:=if_neg (by omega)
             simp(disch:=omega)only[go_sem,simprocAttr,h0])) (Nat.zero_le _) ?_
   rintro k R2 hk hR2
   by_cases hk6:k<6
   ·have hi5:(k:Int)≤5:=by omega
    have hkd:=hkx (k:Int)
    rw[if_neg (by simp)]at hkd
    by_cases hyk:yk=(k:Int)
    ·rw[if_neg (fun h=>h hyk)]at hkd
     have hc0:c k=0:=if_neg (by omega)
     have hc1:c (k+1)=1:=if_pos (by push_cast;omega)
     have hrn:=aiS (k:Int) (by omega) (by omega)
     subst hyk
     rw[hc0]
     refine aw hi5 ?_
     refine aC hkd rfl rfl ?_
     refine wW ?_
     refine gG ?_
     refine l3 (jJ vV hrn vV rfl rfl ?_)
     refine aw hnm ?_
     refine bW hnm ?_
     exact hR2 (k+1) _ (by omega) (by omega) (.le (fL hc1))
    ·rw[if_pos hyk]at hkd
     have hc1:c (k+1)=c k:=by
      simp only[c]
      by_cases h:yk<(k:Int)
      ·rw[if_pos h,if_pos (by push_cast;omega)]
      ·rw[if_neg h,if_neg (by push_cast;omega)]
     refine aw hi5 ?_
     refine aC hkd rfl rfl ?_
     refine wW ?_
     refine gG ?_
     exact hR2 (k+1) _ (by omega) (by omega) (.le (fL hc1))
   ·obtain rfl:k=6:=by omega
    have hc1:c 6=1:=if_pos (by omega)
    rw[hc1]
    refine wW ?_
    exact next _ (.le vV)
  ·have hkd:=fun k=>hkx k
   simp only[he0,ne_eq,not_false_eq_true,if_true]at hkd
   refine bm hN (fun k:Nat=>⟨[(5,eY L n ps),(8,.str x),(9,.ab 266009 0),(10,.int .i64 ye),(11,.int .i64 0),(12,.int .i64 k),(49,.ro 1 (aL U)),(50,.int .i64 U.length),(51,.int .i64 i)],[(266009,.var [.int .i64 yk,.str yd])]⟩) (fun k=>k≤6) (fun k=>6-k) 0 (.le vV) (Nat.zero_le _) ?_
   rintro k R2 hk hR2
   by_cases hk6:k<6
   ·have hi5:(k:Int)≤5:=by omega
    refine aw hi5 ?_
    refine aC (hkd (k:Int)) rfl rfl ?_
    refine aw he0 ?_
    refine bW he0 ?_
    exact hR2 (k+1) _ (by omega) (by omega) (.le vV)
   ·obtain rfl:k=6:=by omega
    refine aw he0 ?_
    exact next _ (.le vV)
end Go.Proofs.YtoalcafkffmiiaaGreatDoor.Ls
