/- The proof, part 35 of 43. -/
import Derived.Test.YtoalcafkffmiiaaGreatDoorOdbGetsZH
import Derived.Shelf.Strings.Prefix
set_option linter.all false
namespace Go.Proofs.YtoalcafkffmiiaaGreatDoor.Ls
open Eng
set_option maxRecDepth 10000
abbrev aO:=Bs×Bs×(List Rw×Bs)
abbrev fy:aO:=([],[],[],[])
def uf (p:aO):AV:=.agg [.str p.1,eT p.2.1 p.2.2]
def fC (ps:List aO):List AV:=ps.map uf
theorem lL (ps:List aO):(fC ps).length=ps.length:=by simp[fC]
theorem Ee {ps:List aO} {i:Nat} (h:i<ps.length):nth (fC ps) i=.agg [.str (ps.getD i fy).1,eT (ps.getD i fy).2.1 (ps.getD i fy).2.2]:=by
 simp[nth,fC,uf,acO,h]
theorem U9 {ps:List aO}:(fC ps).all aL=true:=by simp[fC,uf,aL,cellsOf,isCell]
theorem U8 {ps:List aO} {d t:Bs} {x:List Rw×Bs}:fC ps++[.agg [.str d,eT t x]]=fC (ps++[(d,t,x)]):=by simp[fC,uf]
theorem Va:fC []=[]:=(rfl)
theorem ED (ps:List aO):aB (fC ps) 0 ps.length=fC ps:=by
 unfold aB;rw[ado,acP (by rw[lL];omega)]
def eW:Bs:=[111,98,106,101,99,116,115,47,112,97,99,107,47,112,97,99,107,45]
def gM:Bs:=[46,105,100,120]
def mD:Bs:=[46,112,97,99,107]
def gE (p:Bs):Bs:=Lib.trimSuffix (p.drop 18) gM
noncomputable def stepP (L:List Fi) (p:Bs):Except Int (Option aO):=
 if Lib.hasSuffix (p.drop 18) gM=false\/bJ (gE p)=false then .ok none
 else match dr ((getF p L).getD [])with
  | .error e=>.error e
  | .ok x=>match getF (eW++gE p++mD) L with
   | none=>.error 7
   | some d=>
    if(eH d).2≠0 then .error (eH d).2
    else if(eH d).1≠(x.1.length:Int)then .error 4
    else if Sh.bC (d.drop (d.length-20))≠x.2 then .error 5
    else .ok (some (d,(getF p L).getD [],x))
theorem FH {s:Bs} {n:Nat} {e:Int}:∀{k:Nat},rowsP s n k=.error e->e≠0
 | 0,h=>by unfold rowsP at h;cases h
 | k+1,h=>by
  unfold rowsP at h
  cases h1:rowsP s n k with
  | error e'=>
   rw[h1]at h;cases h
   exact FH h1
  | ok l'=>
   rw[h1]at h
   cases h2:iw s n k with
   | error e'=>
    rw[h2]at h;cases h;unfold iw at h2;split at h2
    ·cases h2;decide
    ·split at h2
     ·cases h2;decide
     ·split at h2
      ·cases h2;decide
      ·cases h2
   | ok r=>rw[h2]at h;cases h
theorem yi {s:Bs} {e:Int} (h:dr s=.error e):e≠0:=by
 unfold dr at h;simp only at h;split at h
 ·cases h;decide
 ·split at h
  ·cases h;decide
  ·split at h
   ·cases h;decide
   ·split at h
    ·cases h;decide
    ·split at h
     ·cases h;decide
     ·split at h
      ·cases h;decide
      ·split at h
       ·rename_i e' h1;cases h;exact FH h1
       ·split at h
        ·cases h;decide
        ·cases h
noncomputable def packsP (L:List Fi) (U:List Bs):Nat->Except Int (List aO)
 | 0=>.ok []
 | k+1=>match packsP L U k with
  | .error e=>.error e
  | .ok ps=>match stepP L (U.getD k [])with
   | .error e=>.error e
   | .ok none=>.ok ps
   | .ok (some p)=>.ok (ps++[p])
theorem yh {L:List Fi} {U:List Bs} {e:Int}:∀{m k:Nat},k<=m->packsP L U k=.error e->packsP L U m=.error e
 | 0,k,h,h1=>by
  obtain rfl:k=0:=acN
  exact h1
 | m+1,k,h,h1=>by
  by_cases hk:k=m+1
  ·subst hk;exact h1
  ·unfold packsP;rw[yh (by omega:k<=m) h1]
theorem uj {L:List Fi} {U:List Bs}:∀{k:Nat} {l:List aO},packsP L U k=.ok l->l.length<=k
 | 0,l,h=>by
  unfold packsP at h
  cases h;exact acT _
 | k+1,l,h=>by
  unfold packsP at h
  cases h1:packsP L U k with
  | error e=>rw[h1]at h;cases h
  | ok l'=>
   have:=uj h1;rw[h1]at h
   cases h2:stepP L (U.getD k [])with
   | error e=>rw[h2]at h;cases h
   | ok r=>
    rw[h2]at h
    cases r with
    | none=>cases h;omega
    | some r=>
     cases h;rw[acQ,acW];omega
noncomputable def jL (L:List Fi):Except Int (List aO):=packsP L (bU eW L) (bU eW L).length
abbrev jd (L:List Fi) (n:Nat) (ps:List aO):AV:=.aq (.agg [fD L n,.ro 2 (fC ps)])
def o7 (L:List Fi) (n:Nat):Except Int (List aO)->AV
 | .error e=>.af [.lit (.pointer none),.int .i64 e]
 | .ok ps=>.af [jd L n ps,.int .i64 0]
theorem Ll (s p:Bs) (hs:s.length<=1000000):ao Tryz.prog 31 [.str s,.str p] (.af [.str (Lib.trimSuffix s p),.bool (Lib.hasSuffix s p)]):=
 zc rfl rfl (λw=>Tryz.strings_CutSuffix ⟨s.toArray⟩ ⟨p.toArray⟩ w (by show s.toArray.size<=_;simp;omega))
theorem tb {p d:Bs} {L:List Fi} {B:Nat} (h:∀f∈L,f.2.length<=B) (hg:getF p L=some d):d.length<=B:=h _ (get_mem hg)
set_option maxHeartbeats 4000000 in
theorem ya (L:List Fi) (n:Nat) (hs:eO L) (hl:L.length<=100000) (hc:∀f∈L,f.1.length<=200) (hd:∀f∈L,f.2.length<=100000) :
    ao Tryz.prog 10 [fD L n] (o7 L n (jL L)):=by
 refine Cod.UJ (λE R hN hR=>?_);refine wW ?_;refine ah (zq L n eW hs hl (by decide) (λf hf=>by have:=hc f hf;omega)) rfl rfl ?_;have hul:=mF eW L
 have hum:∀p∈bU eW L,p.length<=200/\18<=p.length:=λp hp=>by
  obtain⟨h1,f,hf,h2⟩:=pA hp;exact⟨by rw[<-h2];exact hc f hf,r9 h1⟩
 unfold jL at hR;generalize bU eW L=U at *
 have bad:∀{h} (e:Int),packsP L U U.length=.error e->R h (.af [.lit (.pointer none),.int .i64 e]) [.undef]:=λe he=>hR.ro ⟨rfl,by rw[he];rfl⟩;refine ab @aZ ?_
 refine aD hN (λp:Nat×List aO=>⟨[(0,fD L n),(4,.aa 246017 0),(19,.ro 1 (au U)),(20,.int .i64 U.length),(21,.int .i64 p.1)],[(246017,.var [fD L n,.sl 246096 0 p.2.length]),(246096,.arr 2 (fC p.2))]⟩)
  (λp=>p.1<=U.length/\packsP L U p.1=.ok p.2) (λp=>U.length-p.1) (0,[]) (.mn 246017 1 246096 2 [fD L n,.al] rfl rfl rfl (.le (cn @Va))) ⟨acN,rfl⟩ ?_
 rintro⟨k,ps⟩ R1 ⟨hk,hps⟩ hR1;simp only at hk hps;have hpl:=uj hps;by_cases hlt:k<U.length
 ·obtain⟨h1,h2⟩:=hum _ (dT [] hlt)
  have hst:∀r,stepP L (U.getD k [])=r->packsP L U (k+1)=match r with
   | .error e=>.error e
   | .ok none=>.ok ps
   | .ok (some p)=>.ok (ps++[p]):=λr hr=>by rw[packsP,hps];simp only[hr]
  obtain⟨p,hp⟩:∃p,p=U.getD k []:=⟨_,rfl⟩;rw[<-hp]at h1 h2 hst;have hi:(18:Int)<=(p.length:Int):=acN;have badk:∀{h} (e:Int),stepP L p=.error e->R h (.af [.lit (.pointer none),.int .i64 e]) [.undef]:=λe he=>bad e (yh (by omega:k+1<=U.length) (hst _ he))
  have skip:stepP L p=.ok none->∀st',Wk st' ⟨[(0,fD L n),(4,.aa 246017 0),(19,.ro 1 (au U)),(20,.int .i64 U.length),(21,.int .i64 ((k+1:Nat):Int))],[(246017,.var [fD L n,.sl 246096 0 ps.length]),(246096,.arr 2 (fC ps))]⟩->R1.ap st':=λhno st' hw=>
   hR1 (k+1,ps) _ (by simp only;omega) ⟨by simp only;omega,hst _ hno⟩ hw
  have hcs:=Ll (p.drop 18) gM (by rw[acU];omega)
  have hnl:(gE p).length<=200:=by
   unfold gE Lib.trimSuffix;split
   ·rw[acS,acU];omega
   ·rw[acU];omega
  have hsid:=yW (gE p) acN;simp(disch:=first | omega | (simp only[Lx];omega))only[go_sem,simprocAttr,aZ,fA,<-hp,hi]
  refine ah hcs rfl rfl ?_;rw[show Lib.trimSuffix (p.drop 18) gM=gE p from rfl]
  cases hsf:Lib.hasSuffix (p.drop 18) gM with
  | false=>
   refine wW ?_;refine gG ?_
   exact skip (by unfold stepP;rw[if_pos (.inl hsf)]) _ (.le vV)
  | true=>
   refine wW ?_;refine gG ?_;refine eI (gq vV hsid vV rfl rfl ?_)
   cases hid:bJ (gE p)with
   | false=>
    refine wW ?_;refine gG ?_
    exact skip (by unfold stepP;rw[if_pos (.inr hid)]) _ (.le vV)
   | true=>
    refine wW ?_;refine gG ?_;have hg1:=uL L n p hs hl
    have hg2:ao Tryz.prog 33 [fD L n,.str p] (.af [.str ((getF p L).getD []),.int .i64 (if(getF p L).isSome then 0 else 7)]):=by
     cases hg:getF p L<;>(rw[hg]at hg1;exact hg1)
    have htl:((getF p L).getD []).length<=100000:=by
     cases hg:getF p L with
     | none=>simp
     | some d=>exact tb hd hg
    have hsp:stepP L p=(match dr ((getF p L).getD [])with
        | .error e=>.error e
        | .ok x=>match getF (eW++gE p++mD) L with
         | none=>.error 7
         | some d=>
          if(eH d).2≠0 then .error (eH d).2
          else if(eH d).1≠(x.1.length:Int)then .error 4
          else if Sh.bC (d.drop (d.length-20))≠x.2 then .error 5
          else .ok (some (d,(getF p L).getD [],x))):=by
     unfold stepP;rw[if_neg (by rw[hsf,hid];simp)]
    refine ah hg2 rfl rfl ?_;obtain⟨t,ht⟩:∃t,t=(getF p L).getD []:=⟨_,rfl⟩;rw[<-ht]at htl hsp;rw[<-ht];have hpa:=acx t htl;refine wW ?_
    cases hpp:dr t with
    | error e=>
     rw[hpp]at hpa hsp;refine ah hpa rfl rfl ?_;have he:¬e=0:=yi hpp;simp(disch:=first | omega | (simp only[Lx];omega))only[go_sem,simprocAttr,parseA,he]
     exact badk e hsp
    | ok x=>
     rw[hpp]at hpa hsp;simp only at hsp;refine ah hpa rfl rfl ?_;have hg3:=uL L n (eW++gE p++mD) hs hl;have hbl:(eW++gE p++mD).length<=1000:=by rw[acQ,acQ];have:eW.length=18:=rfl;have:mD.length=5:=rfl;omega
     obtain⟨q,hq⟩:∃q,q=eW++gE p++mD:=⟨_,rfl⟩;have hq2:111::98::106::101::99::116::115::47::112::97::99::107::47::112::97::99::107::45::(gE p++[46,112,97,99,107])=q:=by rw[hq];rfl
     rw[<-hq]at hg3 hsp hbl;simp(disch:=first | omega | (simp only[Lx];omega))only[go_sem,simprocAttr,parseA,hq2]
     cases hgd:getF q L with
     | none=>
      rw[hgd]at hg3 hsp;refine ah hg3 rfl rfl ?_;refine wW ?_
      exact badk 7 hsp
     | some d=>
      rw[hgd]at hg3 hsp;simp only at hsp;have hdl:=tb hd hgd;have hcn:=acj d hdl;have h32:=@Bd d;have hln:=acp t x;have hsm:=acz t x;refine ah hg3 rfl rfl ?_;refine wW ?_;refine ah hcn rfl rfl ?_;obtain⟨m,hm⟩:∃m,m=(eH d).1:=⟨_,rfl⟩;obtain⟨f,hf⟩:∃f,f=(eH d).2:=⟨_,rfl⟩;rw[<-hf,<-hm]at hsp;rw[<-hf]at h32;rw[<-hf,<-hm];refine wW ?_;by_cases h0:f=0;rotate_left
      ·rw[if_pos h0]at hsp;refine ab h0 ?_;exact badk f hsp
      ·rw[if_neg (λh=>h h0)]at hsp;have h32:=h32 h0;subst h0;refine wW ?_;refine ah hln rfl rfl ?_;by_cases h3:m=(x.1.length:Int);rotate_left
       ·rw[if_pos h3]at hsp;refine ab h3 ?_;exact badk 4 hsp
       ·rw[if_neg (λh=>h h3)]at hsp;have e20:((d.length:Int)-20).toNat=d.length-20:=acN;have hhx:=Sh.qs (d.drop (d.length-20)) (by rw[acU];omega);refine aE h3 e20 ?_;refine ah hhx rfl rfl ?_;refine wW ?_;refine ah hsm rfl rfl ?_;by_cases h4:Sh.bC (d.drop (d.length-20))=x.2;rotate_left
        ·rw[if_pos h4]at hsp;refine ab h4 ?_;exact badk 5 hsp
        ·rw[if_neg (λh=>h h4)]at hsp;refine aE h4 @lL ?_;rw[ED,U8];refine⟨⟨U9,acN⟩,hR1 (k+1,ps++[(d,t,x)]) _ (by simp only;omega) ⟨by simp only;omega,hst _ hsp⟩ (.le (by rw[acQ,acW];exact vV))⟩
 ·obtain rfl:k=U.length:=acN;have hop:o7 L n (packsP L U U.length)=.af [jd L n ps,.int .i64 0]:=by rw[hps];rfl
  refine ab @aZ ?_;refine hR.wk (h':=[]) (r':=.af [jd L n ps,.int .i64 0]) (ar':=[.undef]) rfl (.bj 246096 (.oO 0 0 246017 [.aa 246017 0,.int .i64 0] [fD L n,.ro 2 (fC ps)] vV (by rfl) ?_ ?_ (.le ?_))) ⟨rfl,hop.symm⟩;exact jQ @ED @lL;rfl
  ·simp(disch:=first | omega | (simp only[Lx];omega))only[go_sem,simprocAttr,jd]
end Go.Proofs.YtoalcafkffmiiaaGreatDoor.Ls
