/- The proof, part 34 of 42. -/
import Derived.Test.YtoalcafkffmiiaaGreatDoorOdbSureZG
import Derived.Shelf.Strings.Prefix
set_option linter.all false
namespace Go.Proofs.YtoalcafkffmiiaaGreatDoor.Ls
open Eng
set_option maxRecDepth 10000
abbrev bD:=Bs×Bs×(List Rw×Bs)
abbrev iZ:bD:=([],[],[],[])
def qK (p:bD):AV:=.agg [.str p.1,aM p.2.1 p.2.2]
def dP (ps:List bD):List AV:=ps.map qK
theorem jF (ps:List bD):(dP ps).length=ps.length:=by simp[dP]
theorem AX {ps:List bD} {i:Nat} (h:i<ps.length):nth (dP ps) i=.agg [.str (ps.getD i iZ).1,aM (ps.getD i iZ).2.1 (ps.getD i iZ).2.2]:=by
 simp[nth,dP,qK,List.getD_eq_getElem?_getD,h]
theorem af4 {ps:List bD}:(dP ps).all aP=true:=by simp[dP,qK,aP,cellsOf,isCell]
theorem af3 {ps:List bD} {d t:Bs} {x:List Rw×Bs}:dP ps++[.agg [.str d,aM t x]]=dP (ps++[(d,t,x)]):=by simp[dP,qK]
theorem af5:dP []=[]:=(rfl)
theorem Bl (ps:List bD):aI (dP ps) 0 ps.length=dP ps:=by
 unfold aI
 rw[List.drop_zero,List.take_of_length_le (by rw[jF];omega)]
def eS:Bs:=[111,98,106,101,99,116,115,47,112,97,99,107,47,112,97,99,107,45]
def oD:Bs:=[46,105,100,120]
def mP:Bs:=[46,112,97,99,107]
def gE (p:Bs):Bs:=Lib.trimSuffix (p.drop 18) oD
noncomputable def stepP (L:List Fi) (p:Bs):Except Int (Option bD):=
 if Lib.hasSuffix (p.drop 18) oD=false∨cL (gE p)=false then .ok none
 else match ed ((getF p L).getD [])with
  | .error e=>.error e
  | .ok x=>match getF (eS++gE p++mP) L with
   | none=>.error 7
   | some d=>
    if(eB d).2≠0 then .error (eB d).2
    else if(eB d).1≠(x.1.length:Int)then .error 4
    else if Sh.bP (d.drop (d.length-20))≠x.2 then .error 5
    else .ok (some (d,(getF p L).getD [],x))
theorem B8 {s:Bs} {n:Nat} {e:Int}:∀{k:Nat},rowsP s n k=.error e→e≠0
 | 0,h=>by unfold rowsP at h;cases h
 | k+1,h=>by
  unfold rowsP at h
  cases h1:rowsP s n k with
  | error e'=>
   rw[h1]at h
   cases h
   exact B8 h1
  | ok l'=>
   rw[h1]at h
   cases h2:gI s n k with
   | error e'=>
    rw[h2]at h
    cases h
    unfold gI at h2
    split at h2
    ·cases h2;decide
    ·split at h2
     ·cases h2;decide
     ·split at h2
      ·cases h2;decide
      ·cases h2
   | ok r=>rw[h2]at h;cases h
theorem Bq {s:Bs} {e:Int} (h:ed s=.error e):e≠0:=by
 unfold ed at h
 simp only at h
 split at h
 ·cases h;decide
 ·split at h
  ·cases h;decide
  ·split at h
   ·cases h;decide
   ·split at h
    ·cases h;decide
    ·split at h
     ·cases h;decide
     ·split at h
      ·cases h;decide
      ·split at h
       ·rename_i e' h1
        cases h
        exact B8 h1
       ·split at h
        ·cases h;decide
        ·cases h
noncomputable def packsP (L:List Fi) (U:List Bs):Nat→Except Int (List bD)
 | 0=>.ok []
 | k+1=>match packsP L U k with
  | .error e=>.error e
  | .ok ps=>match stepP L (U.getD k [])with
   | .error e=>.error e
   | .ok none=>.ok ps
   | .ok (some p)=>.ok (ps++[p])
theorem Bm {L:List Fi} {U:List Bs} {e:Int}:∀{m k:Nat},k≤m→packsP L U k=.error e→packsP L U m=.error e
 | 0,k,h,h1=>by
  obtain rfl:k=0:=by omega
  exact h1
 | m+1,k,h,h1=>by
  by_cases hk:k=m+1
  ·subst hk;exact h1
  ·unfold packsP
   rw[Bm (by omega:k≤m) h1]
theorem uv {L:List Fi} {U:List Bs}:∀{k:Nat} {l:List bD},packsP L U k=.ok l→l.length≤k
 | 0,l,h=>by
  unfold packsP at h
  cases h;exact Nat.le_refl _
 | k+1,l,h=>by
  unfold packsP at h
  cases h1:packsP L U k with
  | error e=>rw[h1]at h;cases h
  | ok l'=>
   have:=uv h1
   rw[h1]at h
   cases h2:stepP L (U.getD k [])with
   | error e=>rw[h2]at h;cases h
   | ok r=>
    rw[h2]at h
    cases r with
    | none=>cases h;omega
    | some r=>
     cases h
     rw[List.length_append,List.length_singleton];omega
noncomputable def iq (L:List Fi):Except Int (List bD):=packsP L (bU eS L) (bU eS L).length
abbrev il (L:List Fi) (n:Nat) (ps:List bD):AV:=.aA (.agg [dR L n,.ro 2 (dP ps)])
def lp (L:List Fi) (n:Nat):Except Int (List bD)→AV
 | .error e=>.ai [.lit (.pointer none),.int .i64 e]
 | .ok ps=>.ai [il L n ps,.int .i64 0]
theorem Kr (s p:Bs) (hs:s.length≤1000000):aN Tryz.prog 31 [.str s,.str p] (.ai [.str (Lib.trimSuffix s p),.bool (Lib.hasSuffix s p)]):=
 u5 rfl rfl (fun w=>Tryz.strings_CutSuffix ⟨s.toArray⟩ ⟨p.toArray⟩ w (by show s.toArray.size≤_;simp;omega))
theorem ti {p d:Bs} {L:List Fi} {B:Nat} (h:∀f∈L,f.2.length≤B) (hg:getF p L=some d):d.length≤B:=h _ (get_mem hg)
set_option maxHeartbeats 4000000 in
theorem uk (L:List Fi) (n:Nat) (hs:dY L) (hl:L.length≤100000) (hc:∀f∈L,f.1.length≤200) (hd:∀f∈L,f.2.length≤100000) :
    aN Tryz.prog 10 [dR L n] (lp L n (iq L)):=by
 refine Cod.afO (fun E R hN hR=>?_)
 refine wW ?_
 refine aC (vm L n eS hs hl (by decide) (fun f hf=>by have:=hc f hf;omega)) rfl rfl ?_
 have hul:=lD eS L
 have hum:∀p∈bU eS L,p.length≤200∧18≤p.length:=fun p hp=>by
  obtain⟨h1,f,hf,h2⟩:=vl hp
  exact⟨by rw[←h2];exact hc f hf,r9 h1⟩
 unfold iq at hR
 generalize bU eS L=U at *
 have bad:∀{h} (e:Int),packsP L U U.length=.error e→R h (.ai [.lit (.pointer none),.int .i64 e]) [.undef]:=fun e he=>hR.ro ⟨rfl,by rw[he];rfl⟩
 refine az @bQ ?_
 refine ba hN (fun p:Nat×List bD=>⟨[(0,dR L n),(4,.ab 246017 0),(19,.ro 1 (aO U)),(20,.int .i64 U.length),(21,.int .i64 p.1)],[(246017,.var [dR L n,.sl 246096 0 p.2.length]),(246096,.arr 2 (dP p.2))]⟩)
  (fun p=>p.1≤U.length∧packsP L U p.1=.ok p.2) (fun p=>U.length-p.1) (0,[]) (.lk 246017 1 246096 2 [dR L n,.aq] rfl rfl rfl (.le (eV @af5))) ⟨by omega,rfl⟩ ?_
 rintro⟨k,ps⟩ R1 ⟨hk,hps⟩ hR1
 simp only at hk hps
 have hpl:=uv hps
 by_cases hlt:k<U.length
 ·obtain⟨h1,h2⟩:=hum _ (eP [] hlt)
  have hst:∀r,stepP L (U.getD k [])=r→packsP L U (k+1)=match r with
   | .error e=>.error e
   | .ok none=>.ok ps
   | .ok (some p)=>.ok (ps++[p]):=fun r hr=>by rw[packsP,hps];simp only[hr]
  obtain⟨p,hp⟩:∃p,p=U.getD k []:=⟨_,rfl⟩
  rw[←hp]at h1 h2 hst
  have hi:(18:Int)≤(p.length:Int):=by omega
  have badk:∀{h} (e:Int),stepP L p=.error e→R h (.ai [.lit (.pointer none),.int .i64 e]) [.undef]:=fun e he=>bad e (Bm (by omega:k+1≤U.length) (hst _ he))
  have skip:stepP L p=.ok none→∀st',Wk st' ⟨[(0,dR L n),(4,.ab 246017 0),(19,.ro 1 (aO U)),(20,.int .i64 U.length),(21,.int .i64 ((k+1:Nat):Int))],[(246017,.var [dR L n,.sl 246096 0 ps.length]),(246096,.arr 2 (dP ps))]⟩→R1.ap st':=fun hno st' hw=>
   hR1 (k+1,ps) _ (by simp only;omega) ⟨by simp only;omega,hst _ hno⟩ hw
  have hcs:=Kr (p.drop 18) oD (by rw[List.length_drop];omega)
  have hnl:(gE p).length≤200:=by
   unfold gE Lib.trimSuffix
   split
   ·rw[List.length_take,List.length_drop];omega
   ·rw[List.length_drop];omega
  have hsid:=CL (gE p) (by omega)
  simp(disch:=first | omega | (simp only[Lx];omega))only[go_sem,simprocAttr,bQ,nT,←hp,hi]
  refine aC hcs rfl rfl ?_
  rw[show Lib.trimSuffix (p.drop 18) oD=gE p from rfl]
  cases hsf:Lib.hasSuffix (p.drop 18) oD with
  | false=>
   refine wW ?_
   refine gG ?_
   exact skip (by unfold stepP;rw[if_pos (.inl hsf)]) _ (.le vV)
  | true=>
   refine wW ?_
   refine gG ?_
   refine mi (jU vV hsid vV rfl rfl ?_)
   cases hid:cL (gE p)with
   | false=>
    refine wW ?_
    refine gG ?_
    exact skip (by unfold stepP;rw[if_pos (.inr hid)]) _ (.le vV)
   | true=>
    refine wW ?_
    refine gG ?_
    have hg1:=rk L n p hs hl
    have hg2:aN Tryz.prog 33 [dR L n,.str p] (.ai [.str ((getF p L).getD []),.int .i64 (if(getF p L).isSome then 0 else 7)]):=by
     cases hg:getF p L<;>(rw[hg]at hg1;exact hg1)
    have htl:((getF p L).getD []).length≤100000:=by
     cases hg:getF p L with
     | none=>simp
     | some d=>exact ti hd hg
    have hsp:stepP L p=(match ed ((getF p L).getD [])with
        | .error e=>.error e
        | .ok x=>match getF (eS++gE p++mP) L with
         | none=>.error 7
         | some d=>
          if(eB d).2≠0 then .error (eB d).2
          else if(eB d).1≠(x.1.length:Int)then .error 4
          else if Sh.bP (d.drop (d.length-20))≠x.2 then .error 5
          else .ok (some (d,(getF p L).getD [],x))):=by
     unfold stepP
     rw[if_neg (by rw[hsf,hid];simp)]
    refine aC hg2 rfl rfl ?_
    obtain⟨t,ht⟩:∃t,t=(getF p L).getD []:=⟨_,rfl⟩
    rw[←ht]at htl hsp
    rw[←ht]
    have hpa:=asZ t htl
    refine wW ?_
    cases hpp:ed t with
    | error e=>
     rw[hpp]at hpa hsp
     refine aC hpa rfl rfl ?_
     have he:¬e=0:=Bq hpp
     simp(disch:=first | omega | (simp only[Lx];omega))only[go_sem,simprocAttr,parseA,he]
     exact badk e hsp
    | ok x=>
     rw[hpp]at hpa hsp
     simp only at hsp
     refine aC hpa rfl rfl ?_
     have hg3:=rk L n (eS++gE p++mP) hs hl
     have hbl:(eS++gE p++mP).length≤1000:=by rw[List.length_append,List.length_append];have:eS.length=18:=rfl;have:mP.length=5:=rfl;omega
     obtain⟨q,hq⟩:∃q,q=eS++gE p++mP:=⟨_,rfl⟩
     have hq2:111::98::106::101::99::116::115::47::112::97::99::107::47::112::97::99::107::45::(gE p++[46,112,97,99,107])=q:=by rw[hq];rfl
     rw[←hq]at hg3 hsp hbl
     simp(disch:=first | omega | (simp only[Lx];omega))only[go_sem,simprocAttr,parseA,hq2]
     cases hgd:getF q L with
     | none=>
      rw[hgd]at hg3 hsp
      refine aC hg3 rfl rfl ?_
      refine wW ?_
      exact badk 7 hsp
     | some d=>
      rw[hgd]at hg3 hsp
      simp only at hsp
      have hdl:=ti hd hgd
      have hcn:=arp d hdl
      have h32:=@JF d
      have hln:=arI t x
      have hsm:=as5 t x
      refine aC hg3 rfl rfl ?_
      refine wW ?_
      refine aC hcn rfl rfl ?_
      obtain⟨m,hm⟩:∃m,m=(eB d).1:=⟨_,rfl⟩
      obtain⟨f,hf⟩:∃f,f=(eB d).2:=⟨_,rfl⟩
      rw[←hf,←hm]at hsp
      rw[←hf]at h32
      rw[←hf,←hm]
      refine wW ?_
      by_cases h0:f=0
      rotate_left
      ·rw[if_pos h0]at hsp
       refine az h0 ?_
       exact badk f hsp
      ·rw[if_neg (fun h=>h h0)]at hsp
       have h32:=h32 h0
       subst h0
       refine wW ?_
       refine aC hln rfl rfl ?_
       by_cases h3:m=(x.1.length:Int)
       rotate_left
       ·rw[if_pos h3]at hsp
        refine az h3 ?_
        exact badk 4 hsp
       ·rw[if_neg (fun h=>h h3)]at hsp
        have e20:((d.length:Int)-20).toNat=d.length-20:=by omega
        have hhx:=Sh.nF (d.drop (d.length-20)) (by rw[List.length_drop];omega)
        refine bc h3 e20 ?_
        refine aC hhx rfl rfl ?_
        refine wW ?_
        refine aC hsm rfl rfl ?_
        by_cases h4:Sh.bP (d.drop (d.length-20))=x.2
        rotate_left
        ·rw[if_pos h4]at hsp
         refine az h4 ?_
         exact badk 5 hsp
        ·rw[if_neg (fun h=>h h4)]at hsp
         refine bc h4 @jF ?_
         rw[Bl,af3]
         refine⟨⟨af4,by omega⟩,hR1 (k+1,ps++[(d,t,x)]) _ (by simp only;omega) ⟨by simp only;omega,hst _ hsp⟩ (.le (by rw[List.length_append,List.length_singleton];exact vV))⟩
 ·obtain rfl:k=U.length:=by omega
  have hop:lp L n (packsP L U U.length)=.ai [il L n ps,.int .i64 0]:=by rw[hps];rfl
  refine az @bQ ?_
  refine hR.wk (h':=[]) (r':=.ai [il L n ps,.int .i64 0]) (ar':=[.undef]) rfl (.bH 246096 (.mh 0 0 246017 [.ab 246017 0,.int .i64 0] [dR L n,.ro 2 (dP ps)] vV (by rfl) ?_ ?_ (.le ?_))) ⟨rfl,hop.symm⟩
  ·exact oI @Bl @jF
  ·rfl
  ·simp(disch:=first | omega | (simp only[Lx];omega))only[go_sem,simprocAttr,il]
end Go.Proofs.YtoalcafkffmiiaaGreatDoor.Ls
