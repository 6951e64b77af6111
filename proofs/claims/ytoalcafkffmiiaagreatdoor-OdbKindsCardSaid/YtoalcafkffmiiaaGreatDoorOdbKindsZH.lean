/- The proof, part 34 of 42. -/
import Derived.Test.YtoalcafkffmiiaaGreatDoorOdbKindsZG
import Derived.Shelf.Strings.Prefix
set_option linter.all false
namespace Go.Proofs.YtoalcafkffmiiaaGreatDoor.Ls
open Eng
set_option maxRecDepth 10000
abbrev bx:=Bs×Bs×(List Rw×Bs)
abbrev iK:bx:=([],[],[],[])
def qx (p:bx):AV:=.agg [.str p.1,aX p.2.1 p.2.2]
def dI (ps:List bx):List AV:=ps.map qx
theorem js (ps:List bx):(dI ps).length=ps.length:=by simp[dI]
theorem Av {ps:List bx} {i:Nat} (h:i<ps.length):nth (dI ps) i=.agg [.str (ps.getD i iK).1,aX (ps.getD i iK).2.1 (ps.getD i iK).2.2]:=by
 simp[nth,dI,qx,List.getD_eq_getElem?_getD,h]
theorem afQ {ps:List bx}:(dI ps).all aQ=true:=by simp[dI,qx,aQ,cellsOf,isCell]
theorem afP {ps:List bx} {d t:Bs} {x:List Rw×Bs}:dI ps++[.agg [.str d,aX t x]]=dI (ps++[(d,t,x)]):=by simp[dI,qx]
theorem afR:dI []=[]:=(rfl)
theorem A3 (ps:List bx):aG (dI ps) 0 ps.length=dI ps:=by
 unfold aG
 rw[List.drop_zero,List.take_of_length_le (by rw[js];omega)]
def eH:Bs:=[111,98,106,101,99,116,115,47,112,97,99,107,47,112,97,99,107,45]
def od:Bs:=[46,105,100,120]
def my:Bs:=[46,112,97,99,107]
def gn (p:Bs):Bs:=Lib.trimSuffix (p.drop 18) od
noncomputable def stepP (L:List Fi) (p:Bs):Except Int (Option bx):=
 if Lib.hasSuffix (p.drop 18) od=false∨cH (gn p)=false then .ok none
 else match dT ((getF p L).getD [])with
  | .error e=>.error e
  | .ok x=>match getF (eH++gn p++my) L with
   | none=>.error 7
   | some d=>
    if(eh d).2≠0 then .error (eh d).2
    else if(eh d).1≠(x.1.length:Int)then .error 4
    else if Sh.bZ (d.drop (d.length-20))≠x.2 then .error 5
    else .ok (some (d,(getF p L).getD [],x))
theorem BL {s:Bs} {n:Nat} {e:Int}:∀{k:Nat},rowsP s n k=.error e→e≠0
 | 0,h=>by unfold rowsP at h;cases h
 | k+1,h=>by
  unfold rowsP at h
  cases h1:rowsP s n k with
  | error e'=>
   rw[h1]at h
   cases h
   exact BL h1
  | ok l'=>
   rw[h1]at h
   cases h2:gu s n k with
   | error e'=>
    rw[h2]at h
    cases h
    unfold gu at h2
    split at h2
    ·cases h2;decide
    ·split at h2
     ·cases h2;decide
     ·split at h2
      ·cases h2;decide
      ·cases h2
   | ok r=>rw[h2]at h;cases h
theorem A8 {s:Bs} {e:Int} (h:dT s=.error e):e≠0:=by
 unfold dT at h
 simp only at h
 split at h
 ·cases h;decide
 ·split at h
  ·cases h;decide
  ·split at h
   ·cases h;decide
   ·split at h
    ·cases h;decide
    ·split at h
     ·cases h;decide
     ·split at h
      ·cases h;decide
      ·split at h
       ·rename_i e' h1
        cases h
        exact BL h1
       ·split at h
        ·cases h;decide
        ·cases h
noncomputable def packsP (L:List Fi) (U:List Bs):Nat→Except Int (List bx)
 | 0=>.ok []
 | k+1=>match packsP L U k with
  | .error e=>.error e
  | .ok ps=>match stepP L (U.getD k [])with
   | .error e=>.error e
   | .ok none=>.ok ps
   | .ok (some p)=>.ok (ps++[p])
theorem A4 {L:List Fi} {U:List Bs} {e:Int}:∀{m k:Nat},k≤m→packsP L U k=.error e→packsP L U m=.error e
 | 0,k,h,h1=>by
  obtain rfl:k=0:=by omega
  exact h1
 | m+1,k,h,h1=>by
  by_cases hk:k=m+1
  ·subst hk;exact h1
  ·unfold packsP
   rw[A4 (by omega:k≤m) h1]
theorem uf {L:List Fi} {U:List Bs}:∀{k:Nat} {l:List bx},packsP L U k=.ok l→l.length≤k
 | 0,l,h=>by
  unfold packsP at h
  cases h;exact Nat.le_refl _
 | k+1,l,h=>by
  unfold packsP at h
  cases h1:packsP L U k with
  | error e=>rw[h1]at h;cases h
  | ok l'=>
   have:=uf h1
   rw[h1]at h
   cases h2:stepP L (U.getD k [])with
   | error e=>rw[h2]at h;cases h
   | ok r=>
    rw[h2]at h
    cases r with
    | none=>cases h;omega
    | some r=>
     cases h
     rw[List.length_append,List.length_singleton];omega
noncomputable def gW (L:List Fi):Except Int (List bx):=packsP L (bS eH L) (bS eH L).length
abbrev eY (L:List Fi) (n:Nat) (ps:List bx):AV:=.aA (.agg [dK L n,.ro 2 (dI ps)])
def k8 (L:List Fi) (n:Nat):Except Int (List bx)→AV
 | .error e=>.ai [.lit (.pointer none),.int .i64 e]
 | .ok ps=>.ai [eY L n ps,.int .i64 0]
theorem JP (s p:Bs) (hs:s.length≤1000000):aO Tryz.prog 31 [.str s,.str p] (.ai [.str (Lib.trimSuffix s p),.bool (Lib.hasSuffix s p)]):=
 uN rfl rfl (fun w=>Tryz.strings_CutSuffix ⟨s.toArray⟩ ⟨p.toArray⟩ w (by show s.toArray.size≤_;simp;omega))
theorem s7 {p d:Bs} {L:List Fi} {B:Nat} (h:∀f∈L,f.2.length≤B) (hg:getF p L=some d):d.length≤B:=h _ (get_mem hg)
set_option maxHeartbeats 4000000 in
theorem tZ (L:List Fi) (n:Nat) (hs:du L) (hl:L.length≤100000) (hc:∀f∈L,f.1.length≤200) (hd:∀f∈L,f.2.length≤100000) :
    aO Tryz.prog 10 [dK L n] (k8 L n (gW L)):=by
 refine Cod.afA (fun E R hN hR=>?_)
 refine wW ?_
 refine aC (u3 L n eH hs hl (by decide) (fun f hf=>by have:=hc f hf;omega)) rfl rfl ?_
 have hul:=lp eH L
 have hum:∀p∈bS eH L,p.length≤200∧18≤p.length:=fun p hp=>by
  obtain⟨h1,f,hf,h2⟩:=u0 hp
  exact⟨by rw[←h2];exact hc f hf,rU h1⟩
 unfold gW at hR
 generalize bS eH L=U at *
 have bad:∀{h} (e:Int),packsP L U U.length=.error e→R h (.ai [.lit (.pointer none),.int .i64 e]) [.undef]:=fun e he=>hR.ro ⟨rfl,by rw[he];rfl⟩
 refine aw @bO ?_
 refine bm hN (fun p:Nat×List bx=>⟨[(0,dK L n),(4,.ab 246017 0),(19,.ro 1 (aL U)),(20,.int .i64 U.length),(21,.int .i64 p.1)],[(246017,.var [dK L n,.sl 246096 0 p.2.length]),(246096,.arr 2 (dI p.2))]⟩)
  (fun p=>p.1≤U.length∧packsP L U p.1=.ok p.2) (fun p=>U.length-p.1) (0,[]) (.kY 246017 1 246096 2 [dK L n,.aq] rfl rfl rfl (.le (fL @afR))) ⟨by omega,rfl⟩ ?_
 rintro⟨k,ps⟩ R1 ⟨hk,hps⟩ hR1
 simp only at hk hps
 have hpl:=uf hps
 by_cases hlt:k<U.length
 ·obtain⟨h1,h2⟩:=hum _ (eE [] hlt)
  have hst:∀r,stepP L (U.getD k [])=r→packsP L U (k+1)=match r with
   | .error e=>.error e
   | .ok none=>.ok ps
   | .ok (some p)=>.ok (ps++[p]):=fun r hr=>by rw[packsP,hps];simp only[hr]
  obtain⟨p,hp⟩:∃p,p=U.getD k []:=⟨_,rfl⟩
  rw[←hp]at h1 h2 hst
  have hi:(18:Int)≤(p.length:Int):=by omega
  have badk:∀{h} (e:Int),stepP L p=.error e→R h (.ai [.lit (.pointer none),.int .i64 e]) [.undef]:=fun e he=>bad e (A4 (by omega:k+1≤U.length) (hst _ he))
  have skip:stepP L p=.ok none→∀st',Wk st' ⟨[(0,dK L n),(4,.ab 246017 0),(19,.ro 1 (aL U)),(20,.int .i64 U.length),(21,.int .i64 ((k+1:Nat):Int))],[(246017,.var [dK L n,.sl 246096 0 ps.length]),(246096,.arr 2 (dI ps))]⟩→R1.ap st':=fun hno st' hw=>
   hR1 (k+1,ps) _ (by simp only;omega) ⟨by simp only;omega,hst _ hno⟩ hw
  have hcs:=JP (p.drop 18) od (by rw[List.length_drop];omega)
  have hnl:(gn p).length≤200:=by
   unfold gn Lib.trimSuffix
   split
   ·rw[List.length_take,List.length_drop];omega
   ·rw[List.length_drop];omega
  have hsid:=Cb (gn p) (by omega)
  simp(disch:=first | omega | (simp only[Lx];omega))only[go_sem,simprocAttr,bO,nC,←hp,hi]
  refine aC hcs rfl rfl ?_
  rw[show Lib.trimSuffix (p.drop 18) od=gn p from rfl]
  cases hsf:Lib.hasSuffix (p.drop 18) od with
  | false=>
   refine wW ?_
   refine gG ?_
   exact skip (by unfold stepP;rw[if_pos (.inl hsf)]) _ (.le vV)
  | true=>
   refine wW ?_
   refine gG ?_
   refine l3 (jJ vV hsid vV rfl rfl ?_)
   cases hid:cH (gn p)with
   | false=>
    refine wW ?_
    refine gG ?_
    exact skip (by unfold stepP;rw[if_pos (.inr hid)]) _ (.le vV)
   | true=>
    refine wW ?_
    refine gG ?_
    have hg1:=qX L n p hs hl
    have hg2:aO Tryz.prog 33 [dK L n,.str p] (.ai [.str ((getF p L).getD []),.int .i64 (if(getF p L).isSome then 0 else 7)]):=by
     cases hg:getF p L<;>(rw[hg]at hg1;exact hg1)
    have htl:((getF p L).getD []).length≤100000:=by
     cases hg:getF p L with
     | none=>simp
     | some d=>exact s7 hd hg
    have hsp:stepP L p=(match dT ((getF p L).getD [])with
        | .error e=>.error e
        | .ok x=>match getF (eH++gn p++my) L with
         | none=>.error 7
         | some d=>
          if(eh d).2≠0 then .error (eh d).2
          else if(eh d).1≠(x.1.length:Int)then .error 4
          else if Sh.bZ (d.drop (d.length-20))≠x.2 then .error 5
          else .ok (some (d,(getF p L).getD [],x))):=by
     unfold stepP
     rw[if_neg (by rw[hsf,hid];simp)]
    refine aC hg2 rfl rfl ?_
    obtain⟨t,ht⟩:∃t,t=(getF p L).getD []:=⟨_,rfl⟩
    rw[←ht]at htl hsp
    rw[←ht]
    have hpa:=aqH t htl
    refine wW ?_
    cases hpp:dT t with
    | error e=>
     rw[hpp]at hpa hsp
     refine aC hpa rfl rfl ?_
     have he:¬e=0:=A8 hpp
     simp(disch:=first | omega | (simp only[Lx];omega))only[go_sem,simprocAttr,parseA,he]
     exact badk e hsp
    | ok x=>
     rw[hpp]at hpa hsp
     simp only at hsp
     refine aC hpa rfl rfl ?_
     have hg3:=qX L n (eH++gn p++my) hs hl
     have hbl:(eH++gn p++my).length≤1000:=by rw[List.length_append,List.length_append];have:eH.length=18:=rfl;have:my.length=5:=rfl;omega
     obtain⟨q,hq⟩:∃q,q=eH++gn p++my:=⟨_,rfl⟩
     have hq2:111::98::106::101::99::116::115::47::112::97::99::107::47::112::97::99::107::45::(gn p++[46,112,97,99,107])=q:=by rw[hq];rfl
     rw[←hq]at hg3 hsp hbl
     simp(disch:=first | omega | (simp only[Lx];omega))only[go_sem,simprocAttr,parseA,hq2]
     cases hgd:getF q L with
     | none=>
      rw[hgd]at hg3 hsp
      refine aC hg3 rfl rfl ?_
      refine wW ?_
      exact badk 7 hsp
     | some d=>
      rw[hgd]at hg3 hsp
      simp only at hsp
      have hdl:=s7 hd hgd
      have hcn:=apa d hdl
      have h32:=@I2 d
      have hln:=apt t x
      have hsm:=aqM t x
      refine aC hg3 rfl rfl ?_
      refine wW ?_
      refine aC hcn rfl rfl ?_
      obtain⟨m,hm⟩:∃m,m=(eh d).1:=⟨_,rfl⟩
      obtain⟨f,hf⟩:∃f,f=(eh d).2:=⟨_,rfl⟩
      rw[←hf,←hm]at hsp
      rw[←hf]at h32
      rw[←hf,←hm]
      refine wW ?_
      by_cases h0:f=0
      rotate_left
      ·rw[if_pos h0]at hsp
       refine aw h0 ?_
       exact badk f hsp
      ·rw[if_neg (fun h=>h h0)]at hsp
       have h32:=h32 h0
       subst h0
       refine wW ?_
       refine aC hln rfl rfl ?_
       by_cases h3:m=(x.1.length:Int)
       rotate_left
       ·rw[if_pos h3]at hsp
        refine aw h3 ?_
        exact badk 4 hsp
       ·rw[if_neg (fun h=>h h3)]at hsp
        have e20:((d.length:Int)-20).toNat=d.length-20:=by omega
        have hhx:=Sh.nn (d.drop (d.length-20)) (by rw[List.length_drop];omega)
        refine bc h3 e20 ?_
        refine aC hhx rfl rfl ?_
        refine wW ?_
        refine aC hsm rfl rfl ?_
        by_cases h4:Sh.bZ (d.drop (d.length-20))=x.2
        rotate_left
        ·rw[if_pos h4]at hsp
         refine aw h4 ?_
         exact badk 5 hsp
        ·rw[if_neg (fun h=>h h4)]at hsp
         refine bc h4 @js ?_
         rw[A3,afP]
         refine⟨⟨afQ,by omega⟩,hR1 (k+1,ps++[(d,t,x)]) _ (by simp only;omega) ⟨by simp only;omega,hst _ hsp⟩ (.le (by rw[List.length_append,List.length_singleton];exact vV))⟩
 ·obtain rfl:k=U.length:=by omega
  have hop:k8 L n (packsP L U U.length)=.ai [eY L n ps,.int .i64 0]:=by rw[hps];rfl
  refine aw @bO ?_
  refine hR.wk (h':=[]) (r':=.ai [eY L n ps,.int .i64 0]) (ar':=[.undef]) rfl (.bG 246096 (.lZ 0 0 246017 [.ab 246017 0,.int .i64 0] [dK L n,.ro 2 (dI ps)] vV (by rfl) ?_ ?_ (.le ?_))) ⟨rfl,hop.symm⟩
  ·exact om @A3 @js
  ·rfl
  ·simp(disch:=first | omega | (simp only[Lx];omega))only[go_sem,simprocAttr,eY]
end Go.Proofs.YtoalcafkffmiiaaGreatDoor.Ls
