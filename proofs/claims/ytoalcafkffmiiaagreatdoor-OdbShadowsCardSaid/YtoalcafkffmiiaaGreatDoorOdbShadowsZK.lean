/- The proof, part 37 of 43. -/
import Derived.Test.YtoalcafkffmiiaaGreatDoorOdbShadowsZI
import Derived.Test.YtoalcafkffmiiaaGreatDoorOdbShadowsZJ
import Derived.Shelf.Strings.Repeat
set_option linter.all false
namespace Go.Proofs.YtoalcafkffmiiaaGreatDoor.Ls
open Eng
set_option maxRecDepth 10000
def cZ (t:Bs) (ps:List cI):List Bs:=ps.flatMap λp=>gA t p.2.2.1
theorem Tq (t:Bs) (ps:List cI) (p:cI):cZ t (ps++[p])=cZ t ps++gA t p.2.2.1:=by unfold cZ;simp
def jy (ps:List cI):Prop:=∀p∈ps,p.2.2.1.length<=1000/\fu (p.2.2.1.map (·.1))/\∀r∈p.2.2.1,cm r.1=true
theorem zQ {L:List Rw} (h:fu (L.map (·.1))):dG (kf L):=by
 unfold dG kf;unfold fu at h;rw[List.pairwise_map]at h |-;exact h
theorem Aj (t:Bs) (L:List Rw):(gA t L).length<=L.length:=by
 have:=lM t (kf L)
 rwa[tu]at this
theorem tf (t:Bs):∀{ps:List cI},jy ps->(cZ t ps).length<=1000*ps.length
 | [],_=>by simp[cZ]
 | p::r,h=>by
  have h1:=tf t (ps:=r) (λq hq=>h q (aBu _ hq));have h2:=Aj t p.2.2.1;have h3:=(h p (aBn ..)).1;unfold cZ at *
  rw[aC4,aA8,aBr];omega
theorem afx {ps:List cI} (h:jy ps) (k:Nat):jy (ps.take k):=λp hp=>h p (aCu hp)
theorem awo {l m:List Bs}:aV l++aV m=aV (l++m):=by simp[aV]
theorem uX (l:List Bs):aI (aV l) 0 l.length=aV l:=by
 unfold aI;rw[aBF,aA7 (by rw[b5];omega)]
def gI (t:Bs) (L:List Fi):List Bs:=(cT (bL dW L)).filter (a7 t)
def fQ (t:Bs) (L:List Fi) (ps:List cI):List Bs:=iw (gI t L++cZ t ps)
theorem xf (l:List Bs):∀m,(Lib.compactUpTo l.toArray m).length<=m
 | 0=>by simp[Lib.compactUpTo]
 | m+1=>by
  have:=xf l m;rw[Lib.compactUpTo_succ,aA8];split<;>simp<;>omega
theorem sn (l:List Bs):(Lib.compact l).length<=l.length:=by
 have:=xf l l.toArray.size;unfold Lib.compact;simpa using this
theorem A0 (l:List Bs):(iw l).length<=l.length:=by
 have h1:=sn (uP l)
 rwa[aCN]at h1
theorem aa7 (t:Bs) {L:List Fi} {ps:List cI} (hl:L.length<=100) (hps:jy ps) (hpl:ps.length<=100):(fQ t L ps).length<=1000000:=by
 have h1:=A0 (gI t L++cZ t ps);have h2:=tf t hps
 have h3:(gI t L).length<=L.length:=by
  have a:=aCs (a7 t) (cT (bL dW L));have b:=tH (bL dW L);have c:=lM dW L;unfold gI;omega
 have h4:1000*ps.length<=1000*100:=aCX _ hpl;rw[aA8]at h1;unfold fQ;omega
set_option maxHeartbeats 4000000 in
theorem adF (L:List Fi) (n:Nat) (ps:List cI) (t:Bs) (hs:eQ L) (hl:L.length<=100) (hc:∀f∈L,f.1.length<=200) (hps:jy ps) (hpl:ps.length<=100) (ht:t.length<=140737488351232) :
    Eng.Spec Tryz.prog 11 [] [jr L n ps,.str t] (λh r ar=>h=[(247042,.arr 1 (aV (gJ (sortL (gI t L++cZ t ps)))))]/\r=.sl 247042 0 (fQ t L ps).length/\ar=[.undef,.undef]):=by
 refine Cod.ad4 (λE R hN hR=>?_);refine wW ?_;refine aR [] (ZN L n hs aA4 hc) trivial (λ_=>rfl) ?_;rintro h' v ar ⟨rfl,rfl,rfl⟩;have hul:=lM dW L;have hll:=tH (bL dW L);have hlm:∀x∈cT (bL dW L),x.length=40:=λx hx=>Zr hx;unfold fQ gI at hR;generalize cT (bL dW L)=U at *
 refine ct @b5 @iB @awp ?_
 refine aZ hN (λk:Nat=>⟨[(0,jr L n ps),(1,.str t),(5,.sl 247026 0 ((U.take k).filter (a7 t)).length),(14,.ro 1 (aV U)),(15,.int .i64 U.length),(16,.int .i64 k)],[(247026,.arr 1 (aV ((U.take k).filter (a7 t))))]⟩) (λk=>k<=U.length) (λk=>U.length-k) 0
  (.bu 213034 (.nil 5 247026 1 rfl (.le (by simp(disch:=omega)only[go_sem,simprocAttr,aB1,rf,aCg,aBK,uX])))) (aBB _) ?_
 rintro k R1 hk hR1
 have hfl:((U.take k).filter (a7 t)).length<=k:=by
  have:=aCs (a7 t) (U.take k);rw[aBa]at this;omega
 by_cases hlt:k<U.length
 ·have hsn:=dE [] U hlt;have hm:=hlm _ (fy [] hlt);have hb:=uL (U.getD k []) t aA4 aA4;refine bl @b5 @qt ?_;refine aw hb rfl rfl ?_
  cases hbb:a7 t (U.getD k [])with
  | false=>
   refine wW ?_
   exact hR1 (k+1) _ aA4 aA4 (.le (by rw[hsn,aB7,aBx (by rw[hbb];simp),aCg,aBV];exact vV))
  | true=>
   obtain⟨O,hO⟩:∃O,O=(U.take k).filter (a7 t):=⟨_,rfl⟩;rw[<-hO]at hfl;rw[<-hO];refine au @b5 ?_;rw[uX,rb];refine⟨⟨iB,aA4⟩,hR1 (k+1) _ aA4 aA4 (.le (by rw[hsn,aB7,aBT hbb,aCg,<-hO,aA8,aBk];exact vV))⟩
 ·obtain rfl:k=U.length:=aA4;rw[aA7 (aA9 _)]at hfl;rw[aA7 (aA9 _)];generalize U.filter (a7 t)=O at *
  refine bl @b5 @lC ?_
  have htk:∀k,(cZ t (ps.take k)).length<=1000*ps.length:=λk=>by
   have h1:=tf t (afx hps k);rw[aBa]at h1;have:1000*min k ps.length<=1000*ps.length:=aCX _ (Nat.min_le_right ..);omega
  refine aZ hN (λk:Nat=>⟨[(1,.str t),(5,.sl 247042 0 (O++cZ t (ps.take k)).length),(31,.ro 2 (fi ps)),(32,.int .i64 ps.length),(33,.int .i64 k)],[(247042,.arr 1 (aV (O++cZ t (ps.take k))))]⟩) (λk=>k<=ps.length) (λk=>ps.length-k) 0
   (.iZ 247026 247042 rfl rfl (.le (by simp(disch:=omega)only[go_sem,simprocAttr,aB1,cZ,List.flatMap_nil,aBV]))) (aBB _) ?_
  rintro k R2 hk hR2;have hpk:=htk k;by_cases hlt:k<ps.length
  ·have hsn:=dE mD ps hlt;obtain⟨p,hp⟩:∃p,p=ps.getD k mD:=⟨_,rfl⟩;obtain⟨g1,g2,g3⟩:=hps p (by rw[hp];exact fy mD hlt);have hml:=Aj t p.2.2.1;have hx:=azm p.2.1 p.2.2 t (zQ g2).srt aA4 aA4 (λr hr=>by have:=(R5 (g3 r hr)).1;omega);have hin:=Tq t (ps.take k) p;rw[<-hp]at hsn;rw[<-hsn]at hin;obtain⟨Q,hQ⟩:∃Q,Q=O++cZ t (ps.take k):=⟨_,rfl⟩;have hQl:Q.length=O.length+(cZ t (ps.take k)).length:=by rw[hQ,aA8]
   rw[<-hQ];simp(disch:=omega)only[go_sem,simprocAttr,lC,abo,<-hp];refine aw hx rfl rfl ?_;have hnx:cZ t (ps.take (k+1))=cZ t (ps.take k)++gA t p.2.2.1:=hin;obtain⟨M,hM⟩:∃M,M=gA t p.2.2.1:=⟨_,rfl⟩;rw[<-hM]at hnx hml;rw[<-hM];refine au @b5 ?_;rw[uX,awo];refine⟨⟨iB,iB,aA4⟩,hR2 (k+1) _ aA4 aA4 (.le (by rw[hnx,<-aB5,<-hQ,aA8];exact vV))⟩
  ·obtain rfl:k=ps.length:=aA4;rw[aA7 (aA9 _)]at hpk;rw[aA7 (aA9 _)];obtain⟨Z,hZ⟩:∃Z,Z=O++cZ t ps:=⟨_,rfl⟩;have hZl:Z.length=O.length+(cZ t ps).length:=by rw[hZ,aA8]
   have hZb:Z.length<=1000000:=by
    have:1000*ps.length<=1000*100:=aCX _ hpl;omega
   rw[<-hZ]at hR;rw[<-hZ];refine au @lC ?_;refine oY (n:=1) [5] vV vV rfl (auR 247042 Z hZb) ?_;rintro h' v ar ⟨rfl,rfl,rfl⟩;have hsl:(sortL Z).length=Z.length:=aCN _;have hcl:=sn (sortL Z);have hco:=auQ 247042 (sortL Z) aA4 hcl;rw[hsl]at hco hcl;refine wW ?_;refine oY (n:=1) [5] vV vV rfl hco ?_;rintro h' v ar ⟨rfl,rfl,rfl⟩;have hpl2:(gJ (sortL Z)).length=Z.length:=by unfold gJ;rw[aA8,aBt];omega
   refine wW ?_;exact hR.wk (h':=[(247042,.arr 1 (aV (gJ (sortL Z))))]) (r':=.sl 247042 0 (iw Z).length) (ar':=[.undef,.undef]) rfl (.le (by simp(disch:=omega)only[go_sem,simprocAttr,show(iw Z).length=(Lib.compact (sortL Z)).length from rfl])) ⟨rfl,rfl,rfl⟩
theorem afa (Z:List Bs):aI (aV (gJ (sortL Z))) 0 (iw Z).length=aV (iw Z):=by
 show aI (aV (gJ (sortL Z))) 0 (Lib.compact (sortL Z)).length=aV (Lib.compact (sortL Z))
 unfold aI gJ aV;rw[aBF,aBG,aDl (aBp ..)]
theorem ae9 (Z:List Bs):(gJ (sortL Z)).length=Z.length/\(iw Z).length<=Z.length:=by
 have hsl:(sortL Z).length=Z.length:=aCN _;have hcl:=sn (sortL Z);refine⟨?_,A0 Z⟩;unfold gJ;rw[aA8,aBt];omega
theorem AZ (L:List Fi) (n:Nat) (ps:List cI) (t:Bs) (hs:eQ L) (hl:L.length<=100) (hc:∀f∈L,f.1.length<=200) (hps:jy ps) (hpl:ps.length<=100) (ht:t.length<=140737488351232) :
    aJ Tryz.prog 11 [jr L n ps,.str t] (.ro 1 (aV (fQ t L ps))):=by
 refine DC ?_
 have hm:∀{h:HP} {r:AV} {ar:List AV},(h=[(247042,.arr 1 (aV (gJ (sortL (gI t L++cZ t ps)))))]/\r=.sl 247042 0 (fQ t L ps).length/\ar=[.undef,.undef])->∃h2 r2 as2,as2.length=ar.length/\Wk ⟨(0,r)::numbered 1 ar,h⟩ ⟨(0,r2)::numbered 1 as2,h2⟩/\(h2=[]/\r2=.ro 1 (aV (fQ t L ps))):=by
  rintro h r ar ⟨rfl,rfl,rfl⟩;have h1:=afa (gI t L++cZ t ps);have h2:=ae9 (gI t L++cZ t ps);unfold fQ;generalize iw (gI t L++cZ t ps)=O at *
  generalize gJ (sortL (gI t L++cZ t ps))=A at *
  exact⟨[],.ro 1 (aV O),[.undef,.undef],rfl,.bu 247042 (.le (vc @b5 @iB h1 h2)),rfl,rfl⟩
 intro X0 ρ w vs h1 hA h2 h3 h4;refine(adF L n ps t hs hl hc hps hpl ht X0 ρ w vs h1 hA h2 h3 h4).mono ?_;rintro e w' ⟨v,h',r,ρ',ar,q1,q2,q3⟩;exact⟨v,h',r,ρ',ar,q1,hm q2,q3⟩
open Eng
set_option maxRecDepth 10000
theorem zZ:∀a b:Bs,Op.bytesLess a b=decide (Lib.compareBytes a b = -1)
 | [],[]=>rfl
 | [],_::_=>rfl
 | _::_,[]=>rfl
 | x::r,y::t=>by
  have ih:=zZ r t;rw[Op.bytesLess,Lib.compareBytes,ih];by_cases h1:x<y
  ·simp[h1]
  ·by_cases h2:y<x
   ·have:¬x=y:=λe=>by subst e;exact h1 h2
    simp[h1,h2,this]
   ·have:x=y:=by
     simp only[aBL]at h1 h2;exact UInt8.toNat.inj aA4
    simp[this]
theorem qN {s:Bs} {n:Nat}:∀{k:Nat} {l:List Rw},rowsP s n k=.ok l->∀j,j<k->iy s n j=.ok (l.getD j fD)
 | 0,l,_,j,hj=>by omega
 | k+1,l,h,j,hj=>by
  unfold rowsP at h
  cases h1:rowsP s n k with
  | error e=>rw[h1]at h;cases h
  | ok l'=>
   have hl:=qO h1;rw[h1]at h
   cases h2:iy s n k with
   | error e=>rw[h2]at h;cases h
   | ok r=>
    rw[h2]at h;cases h;rcases aCx.1 hj with hjk | rfl
    ·rw[qN h1 j hjk,aA5,aA5,List.getElem?_append_left aA4]
    ·rw[h2,aA5,List.getElem?_append_right aA4,hl,aC9];rfl
theorem uC {s:Bs} {n j:Nat} {r:Rw} (h:iy s n j=.ok r):¬lY s j/\r.1=Sh.bW (gL s j)/\r.2.1<=1099511627776:=by
 unfold iy at h;split at h
 ·cases h
 ·rename_i hb;split at h
  ·cases h
  ·split at h
   ·cases h
   ·cases h;exact⟨hb,rfl,by simp only;omega⟩
theorem Bm:∀{l:List Bs},(∀i,i+1<l.length->Lib.compareBytes (l.getD i []) (l.getD (i+1) [])<0)->fu l
 | [],_=>.nil
 | [x],_=>aCl _ _
 | x::y::r,h=>by
  have ih:=Bm (l:=y::r) (λi hi=>by simpa using h (i+1) (by simpa using hi));have h0:Lib.compareBytes x y<0:=by simpa using h 0 (by simp)
  refine aBw.2 ⟨λz hz=>?_,ih⟩;rcases aBo.1 hz with rfl | hz
  ·exact h0
  ·have:=(aBw.1 ih).1 z hz;exact wX h0 aA4
theorem Ai (l:List Rw) (i:Nat):(l.map (·.1)).getD i []=(l.getD i fD).1:=by
 rw[aA5,aA5,List.getElem?_map];cases l[i]?<;>rfl
theorem afb {s:Bs} {x:List Rw×Bs} (h:fF s=.ok x):x.1.length<=1000/\fu (x.1.map (·.1))/\∀r∈x.1,cm r.1=true:=by
 unfold fF at h;simp only at h;split at h
 ·cases h
 rename_i h0;split at h
 ·cases h
 split at h
 ·cases h
 split at h
 ·cases h
 rename_i hn;split at h
 ·cases h
 rename_i hlen;split at h
 ·cases h
 split at h
 ·cases h
 rename_i l hl;split at h
 ·cases h
 cases h;have hll:=qO hl;have hraw:∀j,j<dv s 256->(gL s j).length=20:=λj hj=>jj aA4;refine⟨by simp only;omega,Bm (λi hi=>?_),λr hr=>?_⟩
 ·simp only[aBp]at hi;rw[Ai,Ai];obtain⟨_,e1,_⟩:=uC (qN hl i aA4);obtain⟨b2,e2,_⟩:=uC (qN hl (i+1) aA4);rw[e1,e2]
  have h1:Op.bytesLess (gL s i) (gL s (i+1))=true:=by
   have:cC s (1012+20*(i+1)) 20=gL s i:=by unfold gL;rw[show 1012+20*(i+1)=1032+20*i by omega]
   cases hb:Op.bytesLess (gL s i) (gL s (i+1))with
   | true=>rfl
   | false=>exact absurd (.inl ⟨aA4,by rw[this];exact hb⟩) b2
  rw[zZ,decide_eq_true_eq]at h1;exact yV _ _ aA4 (by rw[hraw i aA4,hraw (i+1) aA4])
 ·obtain⟨j,hj,rfl⟩:=List.mem_iff_getElem.1 hr;obtain⟨_,e1,_⟩:=uC (qN hl j (by simp only at hj;omega));simp only at hj e1;rw[aA5,List.getElem?_eq_getElem hj]at e1;simp only[aCj]at e1;rw[e1];exact PK (hraw j aA4)
theorem Bl {L:List Fi} {U:List Bs}:∀{k:Nat} {ps:List cI},packsP L U k=.ok ps->jy ps
 | 0,ps,h=>by
  unfold packsP at h;cases h
  intro p hp;simp at hp
 | k+1,ps,h=>by
  unfold packsP at h
  cases h1:packsP L U k with
  | error e=>rw[h1]at h;cases h
  | ok l'=>
   have ih:=Bl h1;rw[h1]at h
   cases h2:stepP L (U.getD k [])with
   | error e=>rw[h2]at h;cases h
   | ok r=>
    rw[h2]at h
    cases r with
    | none=>cases h;exact ih
    | some r=>
     cases h;intro p hp;rcases aBz.1 hp with hp | hp
     ·exact ih p hp
     ·rw[aBs]at hp;subst hp;unfold stepP at h2;split at h2
      ·cases h2
      ·split at h2
       ·cases h2
       ·rename_i x hx;split at h2
        ·cases h2
        ·split at h2
         ·cases h2
         ·split at h2
          ·cases h2
          ·split at h2
           ·cases h2
           ·cases h2;exact afb hx
theorem abV {L:List Fi} {ps:List cI} (h:gF L=.ok ps):jy ps/\ps.length<=L.length:=by
 have h1:=tX h;have h2:=lM cU L;exact⟨Bl h,aA4⟩
theorem abU {L:List Fi} {e:Int} (h:gF L=.error e):e≠0:=by
 unfold gF at h;generalize (bL cU L).length=k at h
 induction k with
 | zero=>unfold packsP at h;cases h
 | succ k ih=>
  unfold packsP at h
  cases h1:packsP L (bL cU L) k with
  | error e'=>
   rw[h1]at h;cases h
   exact ih h1
  | ok l'=>
   rw[h1]at h
   cases h2:stepP L ((bL cU L).getD k [])with
   | ok r=>
    rw[h2]at h
    cases r<;>cases h
   | error e'=>
    rw[h2]at h;cases h;unfold stepP at h2;split at h2
    ·cases h2
    ·split at h2
     ·rename_i hx;cases h2;exact Bn hx
     ·split at h2
      ·cases h2;decide
      ·split at h2
       ·rename_i hc;cases h2;exact hc
       ·split at h2
        ·cases h2;decide
        ·split at h2
         ·cases h2;decide
         ·cases h2
end Go.Proofs.YtoalcafkffmiiaaGreatDoor.Ls
namespace Go.Proofs.YtoalcafkffmiiaaGreatDoor.Ls
open Eng
set_option maxRecDepth 10000
theorem D4 (t:Bs):∀{L:List Fi},dG L->(∀f∈L,Lib.compareBytes t f.1<=0)->L.takeWhile (λf=>a7 t f.1)=L.filter (λf=>a7 t f.1)
 | [],_,_=>rfl
 | x::r,hs,hg=>by
  have hs':=aBw.1 hs;rw[aCA];by_cases h:a7 t x.1=true
  ·rw[if_pos h,aBT (p:=λf:Fi=>a7 t f.1) h,D4 t hs'.2 (λf hf=>hg f (aBu _ hf))]
  ·rw[if_neg h,aBx (p:=λf:Fi=>a7 t f.1) h,eq_comm,aC3];intro y hy hb;have h1:=hs'.1 y hy;exact h (rX (hg x (aBn ..)) (by unfold cg at h1;omega) hb)
theorem Ec (t:Bs):∀{L:List Fi},dG L->bL t L=(L.filter (λf=>a7 t f.1)).map (·.1)
 | [],_=>rfl
 | x::r,hs=>by
  have hs':=aBw.1 hs;by_cases h:Lib.compareBytes x.1 t<0
  ·have ih:=Ec t hs'.2
   have hno:¬a7 t x.1=true:=λhb=>by
    have h1:=rZ hb;have:=fV x.1 t;omega
   rw[aBx (p:=λf:Fi=>a7 t f.1) hno,<-ih];unfold bL;rw[show posF t (x::r)=posF t r+1 by simp only[posF];rw[if_pos h],aBS]
  ·have hge:∀f∈x::r,Lib.compareBytes t f.1<=0:=λf hf=>by
    have h0:Lib.compareBytes t x.1<=0:=by have:=fV x.1 t;omega
    rcases aBo.1 hf with rfl | hf
    ·exact h0
    ·have h1:=hs'.1 f hf;exact j8 _ _ _ h0 (by unfold cg at h1;omega)
   unfold bL;rw[show posF t (x::r)=0 by simp only[posF];rw[if_neg h],aBF,D4 t hs hge]
theorem aaA (t:Bs) {l:List Rw} (h:fu (l.map (·.1))):gA t l=(l.map (·.1)).filter (a7 t):=by
 unfold gA;rw[Ec t (zQ h),List.filter_map,List.filter_map,aB4];rfl
theorem Zq {ps:List Bs} {x:Bs} (h:x∈cT ps):cm x=true:=by
 obtain⟨p,hp,rfl⟩:=aBH.1 h;have:=(aBM.1 hp).2;unfold iV at this;rw[aBd]at this;exact this.1
theorem aa6 {t:Bs} {L:List Fi} {ps:List cI} (h:jy ps) {x:Bs} (hx:x∈fQ t L ps):cm x=true:=by
 unfold fQ at hx;rw[qz,aBz]at hx;rcases hx with hx | hx
 ·exact Zq ((aBM.1 hx).1)
 ·unfold cZ at hx;obtain⟨p,hp,hx⟩:=aDu.1 hx;rw[aaA t (h p hp).2.1]at hx;obtain⟨r,hr,rfl⟩:=aBH.1 ((aBM.1 hx).1);exact(h p hp).2.2 r hr
section
variable {l:List Bs} (hl:∀x∈l,cm x=true) (hs:fu l)
include hl
include hs
end
open Eng
set_option maxRecDepth 10000
theorem MV (t:Bs) (n:Nat) (ht:t.length<=30000000000000000000) (hn:n<=100000):aJ Tryz.prog 30 [.str t,.int .i64 n] (.str (t.take n)):=by
 refine Cod.M3 (λE R hN hR=>?_);by_cases h:n<t.length
 ·have hi:(n:Int)<(t.length:Int):=aA4;refine au hi ?_;exact hR.ro ⟨rfl,rfl⟩
 ·rw[aA7 aA4]at hR;have hi:¬(n:Int)<(t.length:Int):=aA4;refine au hi ?_;exact hR.ro ⟨rfl,rfl⟩
theorem MN (fs:List Fi) (n:Nat) (hl:fs.length*32<=140737488355328) (hn:n<=1000):Eng.Spec Tryz.prog 29 [] [.ro 2 (bm fs),.int .i64 n] (λh r ar=>h=[(216012,.arr 2 (bm (fs.take n)))]/\r=.sl 216012 0 (fs.take n).length/\ar=[.undef,.undef]):=by
 refine Cod.MU (λE R hN hR=>?_);by_cases h:n<fs.length
 ·have hi:(n:Int)<(fs.length:Int):=aA4;have htl:(fs.take n).length=n:=by rw[aBa];omega
  rw[htl]at hR;refine dq @bR hi @M6 htl ?_;exact⟨⟨kg,aA4⟩,hR.wk (h':=[(216012,.arr 2 (bm (fs.take n)))]) (r':=.sl 216012 0 n) (ar':=[.undef,.undef]) rfl (.le vV) ⟨rfl,rfl,rfl⟩⟩
 ·have hi:¬(n:Int)<(fs.length:Int):=aA4;rw[aA7 aA4]at hR;refine bl @bR hi ?_;exact⟨⟨kg,aA4⟩,hR.wk (h':=[(216012,.arr 2 (bm fs))]) (r':=.sl 216012 0 fs.length) (ar':=[.undef,.undef]) rfl (.le vV) ⟨rfl,rfl,rfl⟩⟩
theorem M7 {A D:List Fi} {g x:Fi}:(bm (A++g::D)).set A.length (.agg [.str x.1,.str x.2])=bm (A++[x]++D):=by
 unfold bm;rw[aBG,aDC _ _ (by rw[aBp];exact aA9 _),aBp,aC9];simp[dw]
def ij (f:Fi):Fi:=(f.1,f.2.take 3000)
def kE (fs:List Fi) (n:Nat):List Fi:=(fs.take n).map ij
theorem aui (fs:List Fi) (n:Nat) (hl:fs.length*32<=140737488355328) (hn:n<=1000) (hd:∀f∈fs,f.2.length<=140737488351232):Eng.Spec Tryz.prog 8 [] [.ro 2 (bm fs),.int .i64 n] (λh r ar=>h=[(216012,.arr 2 (bm (kE fs n)))]/\r=.sl 216012 0 (kE fs n).length/\ar=[.undef,.undef]):=by
 refine Cod.auj (λE R hN hR=>?_);refine wW ?_;refine aR [] (MN fs n hl hn) trivial (λ_=>rfl) ?_;rintro h' v ar ⟨rfl,rfl,rfl⟩;unfold kE at hR;have hdg:∀f∈fs.take n,f.2.length<=140737488351232:=λf hf=>hd f (aCu hf);have hgl:(fs.take n).length<=1000:=by rw[aBa];omega
 obtain⟨G,hG⟩:∃G,G=fs.take n:=⟨_,rfl⟩;rw[<-hG]at hR hdg hgl;simp(disch:=first | omega | (simp only[Lx];omega))only[go_sem,simprocAttr,kg,bR,pF,<-hG]
 refine aZ hN (λk:Nat=>⟨[(5,.sl 216012 0 G.length),(11,.int .i64 G.length),(12,.int .i64 k)],[(216012,.arr 2 (bm ((G.take k).map ij++G.drop k)))]⟩) (λk=>k<=G.length) (λk=>G.length-k) 0 (.le (by simp(disch:=first | omega | (simp only[Lx];omega))only[go_sem,simprocAttr,aB1,aBF,aCm,aBQ])) (aBB _) ?_
 rintro k R1 hk hR1;by_cases hlt:k<G.length
 ·have hL:((G.take k).map ij++G.drop k).length=G.length:=by rw[aA8,aBp,aBa,aBb];omega
  have hg:((G.take k).map ij++G.drop k).getD k aX=G.getD k aX:=by
   rw[aA5,List.getElem?_append_right (by rw[aBp,aBa];omega),aBp,aBa,aBC hk,aC9,List.getElem?_drop,aBO,<-aA5]
  have hm:=hdg _ (fy aX hlt);have hf:=MV (G.getD k aX).2 3000 aA4 (by decide);rw[show((3000:Nat):Int)=3000 from rfl]at hf;refine dq @bR hL @fS hg ?_;refine aw hf rfl rfl ?_;refine dq @bR hL @fS hg ?_
  have hdr:G.drop k=G.getD k aX::G.drop (k+1):=by
   rw[aA5,List.getElem?_eq_getElem hlt];exact aB0 hlt
  have hal:((G.take k).map ij).length=k:=by rw[aBp,aBa];omega
  have hst:(bm ((G.take k).map ij++G.drop k)).set k (.agg [.str (G.getD k aX).1,.str ((G.getD k aX).2.take 3000)])=bm ((G.take k).map ij++[ij (G.getD k aX)]++G.drop (k+1)):=by
   have h:=M7 (A:=(G.take k).map ij) (D:=G.drop (k+1)) (g:=G.getD k aX) (x:=ij (G.getD k aX));rw[hal,<-hdr]at h;exact h
  refine hR1 (k+1) _ aA4 aA4 (.le ?_);rw[hst,dE aX G hlt,aBG];simp(disch:=first | omega | (simp only[Lx];omega))only[go_sem,simprocAttr,aBE,aCm]
 ·obtain rfl:k=G.length:=aA4;rw[aBp]at hR;simp(disch:=first | omega | (simp only[Lx];omega))only[go_sem,simprocAttr,bR,aBV]
  exact hR.wk (h':=[(216012,.arr 2 (bm (G.map ij)))]) (r':=.sl 216012 0 G.length) (ar':=[.undef,.undef]) rfl (.le vV) ⟨rfl,rfl,rfl⟩
theorem auk (fs:List Fi) (n:Nat):(kE fs n).length<=n:=by unfold kE;rw[aBp,aBa];omega
theorem aul {fs:List Fi} {n:Nat} {f:Fi} (h:f∈kE fs n):f.2.length<=3000/\∃g∈fs,f.1=g.1:=by
 obtain⟨g,hg,rfl⟩:=aBH.1 h;refine⟨?_,g,aCu hg,rfl⟩;unfold ij;rw[aBa];omega
theorem sO (L:List Fi):aI (bm L) 0 L.length=bm L:=by
 unfold aI;rw[aBF,aA7 (by rw[bR];omega)]
def Ez (fs:List Fi):Prop:=fs.length*32<=140737488351232/\∀f∈fs,f.1.length<=140737488351232/\f.2.length<=140737488351232
theorem aba:lS []:=⟨λf h=>(by simp at h),.nil,λf h=>(by simp at h)⟩
theorem ZX (n:Nat) (id:Bs) (hi:id.length<=1000) (hid:cm id=true):aJ Tryz.prog 44 [eu [] n,.str id] (.ai [.agg [.int .i64 0,.str []],.int .i64 7]):=by
 refine Cod.Ad (λE R hN hR=>?_);have hpa:=tI id aA4;rw[if_pos hid]at hpa;have hg:aJ Tryz.prog 33 [eu [] n,.str (bK id)] (.ai [.str [],.int .i64 7]):=qX [] n (bK id) .nil (by simp);refine wW ?_;refine aw hpa rfl rfl ?_;refine wW ?_;refine aw hg rfl rfl ?_;refine wW ?_;exact hR.ro ⟨rfl,rfl⟩
theorem acX (n:Nat) (id:Bs) (hi:id.length<=1000) (hid:cm id=true):aJ Tryz.prog 12 [jr [] n [],.str id] (.ai [.agg [.int .i64 0,.str []],.int .i64 7]):=by
 refine Cod.AU (λE R hN hR=>?_);have hr:=ZX n id hi hid;refine wW ?_;refine aw hr rfl rfl ?_;simp(disch:=omega)only[go_sem,simprocAttr,lC,aBK];refine aZ hN (λ_:Unit=>⟨[(1,.str id),(4,.ab 249004 0),(28,.ro 2 (fi [])),(29,.int .i64 0),(30,.int .i64 0)],[(249004,.var [.int .i64 0,.str []])]⟩) (λ_=>True) (λ_=>0) () (.le vV) trivial ?_;rintro _ R1 _ hR1;refine wW ?_;exact hR.wk (h':=[]) (r':=.ai [.agg [.int .i64 0,.str []],.int .i64 7]) (ar':=[.undef,.undef]) rfl (.le vV) ⟨rfl,rfl⟩
def fI:Bs:=[111,98,106,101,99,116,115,47,112,97,99,107,47,112,97,99,107,45,101,54,57,100,101,50,57,98,98,50,100,49,100,54,52,51,52,98,56,98,50,57,97,101,55,55,53,97,100,56,99,50,101,52,56,99,53,51,57,49,46,105,100,120]
def Ft:Bs:=[101,54,57,100,101,50,57,98,98,50,100,49,100,54,52,51,52,98,56,98,50,57,97,101,55,55,53,97,100,56,99,50,101,52,56,99,53,51,57,49]
theorem GS:gF [(fI,[])]=.error 6:=by
 have hu:bL cU [(fI,[])]=[fI]:=by decide +kernel
 have hp:fF []=.error 6:=by unfold fF;rw[if_pos (by decide)]
 have hs:stepP [(fI,[])] fI=.error 6:=by
  unfold stepP;rw[if_neg (by decide +kernel),show((getF fI [(fI,[])]).getD [])=[]by decide +kernel,hp]
 unfold gF;rw[hu]
 show packsP [(fI,[])] [fI] 1=_
 unfold packsP;rw[show packsP [(fI,[])] [fI] 0=.ok []from rfl];simp only[aCq,hs]
theorem aeH:gF []=.ok []:=by
 unfold gF
 show packsP [] [] 0=_
 rfl
theorem kW:aJ Tryz.prog 9 [] (.bool true):=by
 refine Cod.GR (λE R hN hR=>?_);have hn1:=qW [(fI,[])] (by decide) (λf hf=>by rw[aBs]at hf;subst hf;decide) (λf hf=>by rw[aBs]at hf;subst hf;decide);have hn2:Eng.Spec Tryz.prog 7 [] [.al] (AH []):=avK (.cons (.one (.nil 2)) .nil) (qW [] (by decide) (λf hf=>by simp at hf) (λf hf=>by simp at hf));refine wW ?_;refine j7 ⟨[(13,.ro 2 (bm [(fI,[])]))],[]⟩ (.bu 252013 (.le (by simp(disch:=first | omega | (simp only[Lx];omega))only[go_sem,simprocAttr];rfl))) rfl ?_
 refine ic hn1 rfl ?_;rintro h' v ar ⟨rfl,L,hL,hs,hcase⟩;obtain rfl:L=[(fI,[])]:=List.perm_singleton.1 hL
 have hok:lS [(fI,[])]:=by
  refine⟨λf hf=>?_,aCl _ _,λf hf=>?_⟩
  ·rw[aBs]at hf;subst hf
   decide +kernel
  ·rw[aBs]at hf;subst hf;exact axv _ _
 rcases hcase with⟨_,n,rfl⟩ | ⟨hno,_⟩;rotate_left
 ·exact absurd hok hno
 refine⟨rfl,rfl,?_⟩;have ho1:=qA [(fI,[])] n hs (by decide) (λf hf=>by rw[aBs]at hf;subst hf;decide) (λf hf=>by rw[aBs]at hf;subst hf;decide);rw[GS]at ho1;refine wW ?_;refine gG ?_;refine aw ho1 rfl rfl ?_;simp(disch:=first | omega | (simp only[Lx];omega))only[go_sem,simprocAttr,jP]
 refine ic hn2 rfl ?_;rintro h' v ar ⟨rfl,L,hL,hs2,hcase⟩;obtain rfl:L=[]:=hL.eq_nil;rcases hcase with⟨_,m,rfl⟩ | ⟨hno,_⟩;rotate_left
 ·exact absurd aba hno
 refine⟨rfl,rfl,?_⟩;have ho2:=qA [] m hs2 (by decide) (λf hf=>by simp at hf) (λf hf=>by simp at hf);rw[aeH]at ho2;have hg:=acX m Ft (by decide) (by decide +kernel);refine wW ?_;refine aw ho2 rfl rfl ?_;simp(disch:=first | omega | (simp only[Lx];omega))only[go_sem,simprocAttr,jP]
 refine gG ?_;refine aw hg rfl rfl ?_;refine wW ?_;refine gG ?_;exact hR.wk (h':=[]) (r':=.bool true) (ar':=[]) rfl (.le vV) ⟨rfl,rfl⟩
end Go.Proofs.YtoalcafkffmiiaaGreatDoor.Ls
