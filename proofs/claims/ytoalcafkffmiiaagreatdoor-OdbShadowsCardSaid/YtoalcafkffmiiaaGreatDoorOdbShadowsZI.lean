/- The proof, part 35 of 43. -/
import Derived.Test.YtoalcafkffmiiaaGreatDoorOdbShadowsZH
import Derived.Shelf.Strings.Prefix
set_option linter.all false
namespace Go.Proofs.YtoalcafkffmiiaaGreatDoor.Ls
open Eng
set_option maxRecDepth 10000
abbrev cI:=Bs×Bs×(List Rw×Bs)
abbrev mD:cI:=([],[],[],[])
def qE (p:cI):AV:=.agg [.str p.1,aM p.2.1 p.2.2]
def fi (ps:List cI):List AV:=ps.map qE
theorem lC (ps:List cI):(fi ps).length=ps.length:=by simp[fi]
theorem abo {ps:List cI} {i:Nat} (h:i<ps.length):nth (fi ps) i=.agg [.str (ps.getD i mD).1,aM (ps.getD i mD).2.1 (ps.getD i mD).2.2]:=by
 simp[nth,fi,qE,aA5,h]
theorem ae6 {ps:List cI}:(fi ps).all a6=true:=by simp[fi,qE,a6,cellsOf,isCell]
theorem ae5 {ps:List cI} {d t:Bs} {x:List Rw×Bs}:fi ps++[.agg [.str d,aM t x]]=fi (ps++[(d,t,x)]):=by simp[fi,qE]
theorem ae7:fi []=[]:=(rfl)
theorem Bj (ps:List cI):aI (fi ps) 0 ps.length=fi ps:=by
 unfold aI;rw[aBF,aA7 (by rw[lC];omega)]
def cU:Bs:=[111,98,106,101,99,116,115,47,112,97,99,107,47,112,97,99,107,45]
def oe:Bs:=[46,105,100,120]
def kK:Bs:=[46,112,97,99,107]
def gB (p:Bs):Bs:=Lib.trimSuffix (p.drop 18) oe
noncomputable def stepP (L:List Fi) (p:Bs):Except Int (Option cI):=
 if Lib.hasSuffix (p.drop 18) oe=false\/cm (gB p)=false then .ok none
 else match fF ((getF p L).getD [])with
  | .error e=>.error e
  | .ok x=>match getF (cU++gB p++kK) L with
   | none=>.error 7
   | some d=>
    if(eU d).2≠0 then .error (eU d).2
    else if(eU d).1≠(x.1.length:Int)then .error 4
    else if Sh.bW (d.drop (d.length-20))≠x.2 then .error 5
    else .ok (some (d,(getF p L).getD [],x))
theorem CR {s:Bs} {n:Nat} {e:Int}:∀{k:Nat},rowsP s n k=.error e->e≠0
 | 0,h=>by unfold rowsP at h;cases h
 | k+1,h=>by
  unfold rowsP at h
  cases h1:rowsP s n k with
  | error e'=>
   rw[h1]at h;cases h
   exact CR h1
  | ok l'=>
   rw[h1]at h
   cases h2:iy s n k with
   | error e'=>
    rw[h2]at h;cases h;unfold iy at h2;split at h2
    ·cases h2;decide
    ·split at h2
     ·cases h2;decide
     ·split at h2
      ·cases h2;decide
      ·cases h2
   | ok r=>rw[h2]at h;cases h
theorem Bn {s:Bs} {e:Int} (h:fF s=.error e):e≠0:=by
 unfold fF at h;simp only at h;split at h
 ·cases h;decide
 ·split at h
  ·cases h;decide
  ·split at h
   ·cases h;decide
   ·split at h
    ·cases h;decide
    ·split at h
     ·cases h;decide
     ·split at h
      ·cases h;decide
      ·split at h
       ·rename_i e' h1;cases h;exact CR h1
       ·split at h
        ·cases h;decide
        ·cases h
noncomputable def packsP (L:List Fi) (U:List Bs):Nat->Except Int (List cI)
 | 0=>.ok []
 | k+1=>match packsP L U k with
  | .error e=>.error e
  | .ok ps=>match stepP L (U.getD k [])with
   | .error e=>.error e
   | .ok none=>.ok ps
   | .ok (some p)=>.ok (ps++[p])
theorem Bk {L:List Fi} {U:List Bs} {e:Int}:∀{m k:Nat},k<=m->packsP L U k=.error e->packsP L U m=.error e
 | 0,k,h,h1=>by
  obtain rfl:k=0:=aA4
  exact h1
 | m+1,k,h,h1=>by
  by_cases hk:k=m+1
  ·subst hk;exact h1
  ·unfold packsP;rw[Bk (by omega:k<=m) h1]
theorem tX {L:List Fi} {U:List Bs}:∀{k:Nat} {l:List cI},packsP L U k=.ok l->l.length<=k
 | 0,l,h=>by
  unfold packsP at h
  cases h;exact aA9 _
 | k+1,l,h=>by
  unfold packsP at h
  cases h1:packsP L U k with
  | error e=>rw[h1]at h;cases h
  | ok l'=>
   have:=tX h1;rw[h1]at h
   cases h2:stepP L (U.getD k [])with
   | error e=>rw[h2]at h;cases h
   | ok r=>
    rw[h2]at h
    cases r with
    | none=>cases h;omega
    | some r=>
     cases h;rw[aA8,aBk];omega
noncomputable def gF (L:List Fi):Except Int (List cI):=packsP L (bL cU L) (bL cU L).length
abbrev jr (L:List Fi) (n:Nat) (ps:List cI):AV:=.az (.agg [eu L n,.ro 2 (fi ps)])
def jP (L:List Fi) (n:Nat):Except Int (List cI)->AV
 | .error e=>.ai [.lit (.pointer none),.int .i64 e]
 | .ok ps=>.ai [jr L n ps,.int .i64 0]
theorem Kx (s p:Bs) (hs:s.length<=1000000):aJ Tryz.prog 31 [.str s,.str p] (.ai [.str (Lib.trimSuffix s p),.bool (Lib.hasSuffix s p)]):=
 uS rfl rfl (λw=>Tryz.strings_CutSuffix ⟨s.toArray⟩ ⟨p.toArray⟩ w (by show s.toArray.size<=_;simp;omega))
theorem yI {p d:Bs} {L:List Fi} {B:Nat} (h:∀f∈L,f.2.length<=B) (hg:getF p L=some d):d.length<=B:=h _ (get_mem hg)
set_option maxHeartbeats 4000000 in
theorem qA (L:List Fi) (n:Nat) (hs:eQ L) (hl:L.length<=100000) (hc:∀f∈L,f.1.length<=200) (hd:∀f∈L,f.2.length<=100000) :
    aJ Tryz.prog 10 [eu L n] (jP L n (gF L)):=by
 refine Cod.aeF (λE R hN hR=>?_);refine wW ?_;refine aw (va L n cU hs hl (by decide) (λf hf=>by have:=hc f hf;omega)) rfl rfl ?_;have hul:=lM cU L
 have hum:∀p∈bL cU L,p.length<=200/\18<=p.length:=λp hp=>by
  obtain⟨h1,f,hf,h2⟩:=rp hp;exact⟨by rw[<-h2];exact hc f hf,r4 h1⟩
 unfold gF at hR;generalize bL cU L=U at *
 have bad:∀{h} (e:Int),packsP L U U.length=.error e->R h (.ai [.lit (.pointer none),.int .i64 e]) [.undef]:=λe he=>hR.ro ⟨rfl,by rw[he];rfl⟩;refine au @b5 ?_
 refine aZ hN (λp:Nat×List cI=>⟨[(0,eu L n),(4,.ab 246017 0),(19,.ro 1 (aV U)),(20,.int .i64 U.length),(21,.int .i64 p.1)],[(246017,.var [eu L n,.sl 246096 0 p.2.length]),(246096,.arr 2 (fi p.2))]⟩)
  (λp=>p.1<=U.length/\packsP L U p.1=.ok p.2) (λp=>U.length-p.1) (0,[]) (.kn 246017 1 246096 2 [eu L n,.al] rfl rfl rfl (.le (eM @ae7))) ⟨aA4,rfl⟩ ?_
 rintro⟨k,ps⟩ R1 ⟨hk,hps⟩ hR1;simp only at hk hps;have hpl:=tX hps;by_cases hlt:k<U.length
 ·obtain⟨h1,h2⟩:=hum _ (fy [] hlt)
  have hst:∀r,stepP L (U.getD k [])=r->packsP L U (k+1)=match r with
   | .error e=>.error e
   | .ok none=>.ok ps
   | .ok (some p)=>.ok (ps++[p]):=λr hr=>by rw[packsP,hps];simp only[hr]
  obtain⟨p,hp⟩:∃p,p=U.getD k []:=⟨_,rfl⟩;rw[<-hp]at h1 h2 hst;have hi:(18:Int)<=(p.length:Int):=aA4;have badk:∀{h} (e:Int),stepP L p=.error e->R h (.ai [.lit (.pointer none),.int .i64 e]) [.undef]:=λe he=>bad e (Bk (by omega:k+1<=U.length) (hst _ he))
  have skip:stepP L p=.ok none->∀st',Wk st' ⟨[(0,eu L n),(4,.ab 246017 0),(19,.ro 1 (aV U)),(20,.int .i64 U.length),(21,.int .i64 ((k+1:Nat):Int))],[(246017,.var [eu L n,.sl 246096 0 ps.length]),(246096,.arr 2 (fi ps))]⟩->R1.ap st':=λhno st' hw=>
   hR1 (k+1,ps) _ (by simp only;omega) ⟨by simp only;omega,hst _ hno⟩ hw
  have hcs:=Kx (p.drop 18) oe (by rw[aBb];omega)
  have hnl:(gB p).length<=200:=by
   unfold gB Lib.trimSuffix;split
   ·rw[aBa,aBb];omega
   ·rw[aBb];omega
  have hsid:=Dq (gB p) aA4;simp(disch:=first | omega | (simp only[Lx];omega))only[go_sem,simprocAttr,b5,qt,<-hp,hi]
  refine aw hcs rfl rfl ?_;rw[show Lib.trimSuffix (p.drop 18) oe=gB p from rfl]
  cases hsf:Lib.hasSuffix (p.drop 18) oe with
  | false=>
   refine wW ?_;refine gG ?_
   exact skip (by unfold stepP;rw[if_pos (.inl hsf)]) _ (.le vV)
  | true=>
   refine wW ?_;refine gG ?_;refine fN (iM vV hsid vV rfl rfl ?_)
   cases hid:cm (gB p)with
   | false=>
    refine wW ?_;refine gG ?_
    exact skip (by unfold stepP;rw[if_pos (.inr hid)]) _ (.le vV)
   | true=>
    refine wW ?_;refine gG ?_;have hg1:=qX L n p hs hl
    have hg2:aJ Tryz.prog 33 [eu L n,.str p] (.ai [.str ((getF p L).getD []),.int .i64 (if(getF p L).isSome then 0 else 7)]):=by
     cases hg:getF p L<;>(rw[hg]at hg1;exact hg1)
    have htl:((getF p L).getD []).length<=100000:=by
     cases hg:getF p L with
     | none=>simp
     | some d=>exact yI hd hg
    have hsp:stepP L p=(match fF ((getF p L).getD [])with
        | .error e=>.error e
        | .ok x=>match getF (cU++gB p++kK) L with
         | none=>.error 7
         | some d=>
          if(eU d).2≠0 then .error (eU d).2
          else if(eU d).1≠(x.1.length:Int)then .error 4
          else if Sh.bW (d.drop (d.length-20))≠x.2 then .error 5
          else .ok (some (d,(getF p L).getD [],x))):=by
     unfold stepP;rw[if_neg (by rw[hsf,hid];simp)]
    refine aw hg2 rfl rfl ?_;obtain⟨t,ht⟩:∃t,t=(getF p L).getD []:=⟨_,rfl⟩;rw[<-ht]at htl hsp;rw[<-ht];have hpa:=aAm t htl;refine wW ?_
    cases hpp:fF t with
    | error e=>
     rw[hpp]at hpa hsp;refine aw hpa rfl rfl ?_;have he:¬e=0:=Bn hpp;simp(disch:=first | omega | (simp only[Lx];omega))only[go_sem,simprocAttr,parseA,he]
     exact badk e hsp
    | ok x=>
     rw[hpp]at hpa hsp;simp only at hsp;refine aw hpa rfl rfl ?_;have hg3:=qX L n (cU++gB p++kK) hs hl;have hbl:(cU++gB p++kK).length<=1000:=by rw[aA8,aA8];have:cU.length=18:=rfl;have:kK.length=5:=rfl;omega
     obtain⟨q,hq⟩:∃q,q=cU++gB p++kK:=⟨_,rfl⟩;have hq2:111::98::106::101::99::116::115::47::112::97::99::107::47::112::97::99::107::45::(gB p++[46,112,97,99,107])=q:=by rw[hq];rfl
     rw[<-hq]at hg3 hsp hbl;simp(disch:=first | omega | (simp only[Lx];omega))only[go_sem,simprocAttr,parseA,hq2]
     cases hgd:getF q L with
     | none=>
      rw[hgd]at hg3 hsp;refine aw hg3 rfl rfl ?_;refine wW ?_
      exact badk 7 hsp
     | some d=>
      rw[hgd]at hg3 hsp;simp only at hsp;have hdl:=yI hd hgd;have hcn:=ay3 d hdl;have h32:=@Kf d;have hln:=ay8 t x;have hsm:=aAr t x;refine aw hg3 rfl rfl ?_;refine wW ?_;refine aw hcn rfl rfl ?_;obtain⟨m,hm⟩:∃m,m=(eU d).1:=⟨_,rfl⟩;obtain⟨f,hf⟩:∃f,f=(eU d).2:=⟨_,rfl⟩;rw[<-hf,<-hm]at hsp;rw[<-hf]at h32;rw[<-hf,<-hm];refine wW ?_;by_cases h0:f=0;rotate_left
      ·rw[if_pos h0]at hsp;refine au h0 ?_;exact badk f hsp
      ·rw[if_neg (λh=>h h0)]at hsp;have h32:=h32 h0;subst h0;refine wW ?_;refine aw hln rfl rfl ?_;by_cases h3:m=(x.1.length:Int);rotate_left
       ·rw[if_pos h3]at hsp;refine au h3 ?_;exact badk 4 hsp
       ·rw[if_neg (λh=>h h3)]at hsp;have e20:((d.length:Int)-20).toNat=d.length-20:=aA4;have hhx:=Sh.pY (d.drop (d.length-20)) (by rw[aBb];omega);refine bl h3 e20 ?_;refine aw hhx rfl rfl ?_;refine wW ?_;refine aw hsm rfl rfl ?_;by_cases h4:Sh.bW (d.drop (d.length-20))=x.2;rotate_left
        ·rw[if_pos h4]at hsp;refine au h4 ?_;exact badk 5 hsp
        ·rw[if_neg (λh=>h h4)]at hsp;refine bl h4 @lC ?_;rw[Bj,ae5];refine⟨⟨ae6,aA4⟩,hR1 (k+1,ps++[(d,t,x)]) _ (by simp only;omega) ⟨by simp only;omega,hst _ hsp⟩ (.le (by rw[aA8,aBk];exact vV))⟩
 ·obtain rfl:k=U.length:=aA4;have hop:jP L n (packsP L U U.length)=.ai [jr L n ps,.int .i64 0]:=by rw[hps];rfl
  refine au @b5 ?_;refine hR.wk (h':=[]) (r':=.ai [jr L n ps,.int .i64 0]) (ar':=[.undef]) rfl (.bu 246096 (.mh 0 0 246017 [.ab 246017 0,.int .i64 0] [eu L n,.ro 2 (fi ps)] vV (by rfl) ?_ ?_ (.le ?_))) ⟨rfl,hop.symm⟩
  ·exact jZ @Bj @lC
  ·rfl
  ·simp(disch:=first | omega | (simp only[Lx];omega))only[go_sem,simprocAttr,jr]
end Go.Proofs.YtoalcafkffmiiaaGreatDoor.Ls
