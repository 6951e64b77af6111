/- The proof, part 29 of 32. -/
import Derived.Test.YtlkmppkcbhodaaaGreatDoorLooseReadsZB
set_option linter.all false
namespace Go.Proofs.YtlkmppkcbhodaaaGreatDoor.Pk
open Eng
set_option maxRecDepth 10000
theorem tK (most back n:Nat) (S:SS):backS most back (n+1) S=if S.err≠0 then S else backS most back n (dk most (S.out.getD (S.out.length-back) 0) S):=rfl
theorem DZ (most back:Nat) {S:SS} (h:S.err≠0):∀n,backS most back n S=S
 | 0=>rfl
 | n+1=>by rw[tK,if_pos h]
theorem VM:∀i,i≤28→(a8 i).1≤300∧(a8 i).2≤8:=by decide +kernel
theorem Ib:∀i,i≤29→(b4 i).1≤40000∧(b4 i).2≤15∧1≤(b4 i).1:=by decide +kernel
set_option maxHeartbeats 2000000 in
theorem QU (s:Bs) (o most a hv:Nat) (S:SS) (d:List Nat) (sy:Nat) (hs:s.length≤1000000000) (ho:o≤s.length) (hm:most≤1000000) (hr:bI s a hv (8*o+S.p)) (hol:S.out.length≤most) (he:S.err=0)
    (hd:∀n∈d,n≤15) (hdl:d.length≤320) (hdc:bu d=true) (hsy:257≤sy) (hsy2:sy≤400) :
    Eng.Spec Tryz.prog 166 (aV s o most a hv S.out) [.ab eX 0,.int .i64 sy,bm d] (fun h' v ar=>PI s o most (c6 (s.drop o) most d sy S) h' v∧ar=[.ab eX 0,.int .i64 sy,bm d]):=by
 refine Cod.QV (fun E R hN hR=>?_)
 have htl:(s.drop o).length=s.length-o:=List.length_drop
 by_cases h285:285<sy
 ·have hF:c6 (s.drop o) most d sy S={S with err:=3}:=by unfold c6;rw[if_pos h285,eF he]
  rw[hF]at hR
  refine jg ?_
  refine gG ?_
  exact hR.le (h':=aV s o most a hv S.out) bz ⟨iy ⟨a,hv,S,rfl,hr,hol,rfl,fun h=>absurd h (by simp)⟩,rfl⟩
 ·have elen:(sy:Int)-257=((sy-257:Nat):Int):=by omega
  have hlt:=VM (sy-257) (by omega)
  have hlenb:=Pw (sy-257) (by omega)
  have hrep:c6 (s.drop o) most d sy S=(let a:=aH (s.drop o) (a8 (sy-257)).2 S
   let k:=aQ (s.drop o) d a.2
   if k.2.err≠0 then k.2 else if 29<k.1 then b5 3 k.2 else
   let b:=aH (s.drop o) (b4 k.1).2 k.2
   let back:=(b4 k.1).1+b.1
   if b.2.err≠0 then b.2 else if b.2.out.length<back then b5 3 b.2 else backS most back ((a8 (sy-257)).1+a.1) b.2):=by unfold c6;rw[if_neg h285]
  rw[hrep]at hR
  clear hrep
  simp only at hR
  generalize a8 (sy-257)=lb at *
  simp(disch:=omega)only[go_sem,simprocAttr,aV,bm,elen]
  refine bF elen ?_
  refine aA hlenb rfl rfl ?_
  refine wW ?_
  have hbits:=pq s a hv o (8*o+S.p) lb.2 (by omega) hr (by omega)
  rw[rH,←o9]at hbits
  refine aU [(RD,.var (aW s a hv o))] hbits vV nofun ?_
  rintro h' v ar ⟨a1,hv1,hr1,rfl,rfl,rfl⟩
  by_cases hf1:lb.2≤8*(s.drop o).length-S.p
  ·rw[if_pos hf1]at hr1
   rw[if_pos hf1,decide_eq_true hf1]
   have hpl:S.p+lb.2≤8*(s.drop o).length:=by have:=hr.h2;have:=hr.h3;omega
   rw[fA he hpl]at hR
   simp only at hR
   have hnl:=fy (s.drop o) S.p lb.2
   have hn256:2^lb.2≤2^8:=Nat.pow_le_pow_right (by decide) hlt.2
   generalize numAt (s.drop o) S.p lb.2=x1 at *
   refine⟨cm,rfl,?_⟩
   have dh:=q8 d hd hdl hdc s a1 hv1 o (8*o+S.p+lb.2) (by omega) hr1
   rw[Nat.add_assoc,←ss]at dh
   simp only[bm]at dh
   generalize hre:readL (aN d) (bq (s.drop o) (S.p+lb.2))=re at *
   refine wW ?_
   refine aU [(RD,.var (aW s a1 hv1 o))] dh vV nofun ?_
   rintro h' v ar ⟨a2,hv2,p2,k,hr2,rfl,rfl,hk,rfl⟩
   refine⟨cm,rfl,?_⟩
   by_cases hre2:re.2.2=0
   ·obtain⟨rfl,rfl⟩:=hk hre2
    have hsym:aQ (s.drop o) d {S with p:=S.p+lb.2}=(re.1,{S with p:=S.p+lb.2+re.2.1}):=by rw[←hre];exact mN he (by rw[hre];exact hre2)
    rw[hsym]at hR
    simp only at hR
    rw[if_neg (by simpa using he)]at hR
    have hr2':bI s a2 hv2 (8*o+(S.p+lb.2+re.2.1)):=by rw[show 8*o+(S.p+lb.2+re.2.1)=8*o+(S.p+lb.2)+re.2.1 by omega];exact hr2
    generalize hp2:S.p+lb.2+re.2.1=p2 at *
    have hklt:re.1≤400:=by
     have:=lq (aN d) (bq (s.drop o) (S.p+lb.2)) (by rw[hre];exact hre2)
     rw[hre]at this
     have hcl:(aN d).length=d.length:=by simp[aN]
     omega
    generalize re.1=k at *
    by_cases h29:29<k
    ·rw[if_pos h29,eF (by exact he)]at hR
     refine au hre2 ?_
     exact hR.le (h':=aV s o most a2 hv2 S.out) bz ⟨iy ⟨a2,hv2,{S with p:=p2},rfl,hr2',hol,rfl,fun h=>absurd h (by simp)⟩,rfl⟩
    ·rw[if_neg h29]at hR
     have hdt:=Ib k (by omega)
     have hdb:=Oy k (by omega)
     generalize b4 k=db at *
     have hbits2:=pq s a2 hv2 o (8*o+p2) db.2 (by omega) hr2' (by omega)
     rw[rH,←o9]at hbits2
     refine au hre2 ?_
     refine aA hdb rfl rfl ?_
     refine wW ?_
     refine aU [(RD,.var (aW s a2 hv2 o))] hbits2 vV nofun ?_
     rintro h' v ar ⟨a3,hv3,hr3,rfl,rfl,rfl⟩
     by_cases hf2:db.2≤8*(s.drop o).length-p2
     ·rw[if_pos hf2]at hr3
      rw[if_pos hf2,decide_eq_true hf2]
      have hpl2:p2+db.2≤8*(s.drop o).length:=by have:=hr2'.h2;have:=hr2'.h3;omega
      rw[fA (by exact he) hpl2]at hR
      simp only at hR
      rw[if_neg (by simpa using he)]at hR
      have hn2:=fy (s.drop o) p2 db.2
      have hn15:2^db.2≤2^15:=Nat.pow_le_pow_right (by decide) hdt.2.1
      generalize numAt (s.drop o) p2 db.2=x2 at *
      refine⟨cm,rfl,?_⟩
      refine wW ?_
      by_cases hbk:S.out.length<db.1+x2
      ·have hbi:(S.out.length:Int)<(db.1:Int)+(x2:Int):=by omega
       rw[if_pos (by exact hbk),eF (by exact he)]at hR
       refine au hbi ?_
       exact hR.le (h':=aV s o most a3 hv3 S.out) bz ⟨iy ⟨a3,hv3,{S with p:=p2+db.2},rfl,by show bI s a3 hv3 (8*o+(p2+db.2));rw[←Nat.add_assoc];exact hr3,hol,rfl,fun h=>absurd h (by simp)⟩,rfl⟩
      ·have hbi:¬(S.out.length:Int)<(db.1:Int)+(x2:Int):=by omega
       rw[if_neg (by exact hbk)]at hR
       generalize hbb:db.1+x2=back at *
       have hb1:1≤back:=by omega
       have ebk:(db.1:Int)+(x2:Int)=(back:Int):=by omega
       have eln:(lb.1:Int)+(x1:Int)=((lb.1+x1:Nat):Int):=by omega
       have hln:lb.1+x1≤1000:=by omega
       rw[ebk,eln]
       generalize lb.1+x1=n at *
       rw[ebk]at hbi
       refine au hbi ?_
       refine aZ hN (fun z:Nat×Bs=>⟨[(0,.ab 65032 0),(13,.int .i64 back),(79,.int .i64 n),(80,.int .i64 z.1),(2000000,.ab 65032 0),(2000001,.int .i64 sy),(2000002,.aw (.agg (gl d)))],aV s o most a3 hv3 z.2⟩)
        (fun z=>z.1≤n∧z.2.length≤most∧back≤z.2.length∧backS most back (n-z.1) ⟨p2+db.2,z.2,S.err⟩=backS most back n ⟨p2+db.2,S.out,S.err⟩) (fun z=>n-z.1) (0,S.out) (.le bz) ⟨by simp,hol,by simp only;omega,rfl⟩ ?_
       rintro⟨j,out⟩ R1 ⟨hj,hjo,hjb,hjF⟩ hR1
       simp only at hj hjo hjb hjF
       by_cases hjn:j<n
       ·have ej:n-j=(n-j-1)+1:=by omega
        rw[ej,tK,if_neg (by simpa using he)]at hjF
        unfold dk at hjF
        rw[if_neg (by simpa using he)]at hjF
        simp only at hjF
        have eidx:(out.length:Int)-(back:Int)=((out.length-back:Nat):Int):=by omega
        generalize hcc:out.getD (out.length-back) 0=c at *
        have hput:=wS s o most a3 hv3 out hm hjo c
        refine jg ?_
        rw[hcc]
        refine aU (aV s o most a3 hv3 out) hput bz nofun ?_
        rintro h' v ar ⟨rfl,rfl,rfl⟩
        refine⟨bz,rfl,?_⟩
        by_cases hfull:out.length=most
        ·rw[if_pos hfull,if_pos hfull]
         rw[if_pos (by omega),DZ _ _ (by simp)]at hjF
         rw[←hjF]at hR
         refine jg ?_
         exact hR.le (h':=aV s o most a3 hv3 out) bz ⟨⟨a3,hv3,out,rfl,rfl,fun h=>absurd h (by simp)⟩,rfl⟩
        ·rw[if_neg hfull,if_neg hfull]
         rw[if_neg (by omega)]at hjF
         refine jg ?_
         exact hR1 (j+1,out++[c]) _ (by simp only;omega) ⟨by simp only;omega,by simp only[List.length_append,List.length_singleton];omega,by simp only[List.length_append,List.length_singleton];omega,by simp only;rw[show n-(j+1)=n-j-1 by omega];exact hjF⟩ (.le bz)
       ·obtain rfl:j=n:=by omega
        rw[Nat.sub_self]at hjF
        rw[←hjF]at hR
        refine jg ?_
        exact hR.le (h':=aV s o most a3 hv3 out) bz ⟨⟨a3,hv3,out,rfl,by show _=AV.int .i64 ((S.err:Nat):Int);rw[he];rfl,fun _=>⟨rfl,by show bI s a3 hv3 (8*o+(p2+db.2));rw[←Nat.add_assoc];exact hr3⟩⟩,rfl⟩
     ·rw[if_neg hf2]at hr3
      rw[if_neg hf2,decide_eq_false hf2]
      rw[jt (by exact he) (by simp only;omega)]at hR
      simp only at hR
      rw[if_pos (by decide)]at hR
      refine⟨cm,rfl,?_⟩
      refine wW ?_
      exact hR.le (h':=aV s o most a3 hv3 S.out) bz ⟨iy ⟨a3,hv3,{S with p:=p2},rfl,hr3,hol,rfl,fun h=>absurd h (by simp)⟩,rfl⟩
   ·have hsym:aQ (s.drop o) d {S with p:=S.p+lb.2}=(0,{S with p:=S.p+lb.2,err:=re.2.2}):=by rw[←hre];exact mM he (by rw[hre];exact hre2)
    rw[hsym]at hR
    simp only at hR
    rw[if_pos hre2]at hR
    have hi:¬((re.2.2:Nat):Int)=0:=by omega
    refine au hi ?_
    exact hR.le (h':=aV s o most a2 hv2 S.out) bz ⟨⟨a2,hv2,S.out,rfl,rfl,fun h=>absurd h hre2⟩,rfl⟩
  ·rw[if_neg hf1]at hr1
   rw[if_neg hf1,decide_eq_false hf1]
   rw[jt he (by omega)]at hR
   simp only at hR
   rw[Bc (by simp)]at hR
   simp only at hR
   rw[if_pos (by decide)]at hR
   refine⟨cm,rfl,?_⟩
   refine wW ?_
   exact hR.le (h':=aV s o most a1 hv1 S.out) bz ⟨iy ⟨a1,hv1,S,rfl,hr1,hol,rfl,fun h=>absurd h (by simp)⟩,rfl⟩
open Eng
set_option maxRecDepth 10000
set_option maxHeartbeats 2000000 in
theorem Pg:aM Tryz.prog 134 [] (.ai [bm dQ,bm dP]):=by
 refine Cod.Ph (fun E R hN hR=>?_)
 refine wW ?_
 refine aZ hN (fun i:Nat=>⟨[(2,.sl 66022 0 i),(3,.aj),(9,.int .i64 i)],[(66022,.arr 1 (ak (bG fixF i)))]⟩) (fun i=>i≤288) (fun i=>288-i) 0 (.nil 2 66022 1 rfl (.le (jE @ly @hC))) (by omega) ?_
 rintro i R1 hi hR1
 have hul:=fV fixF i
 have hnl:=bS (bG fixF i)
 by_cases hlt:i<288
 ·have hus:=jD fixF i
  have hsb:aI (ak (bG fixF i)) 0 i=ak (bG fixF i):=by
   have:=fi (xs:=bG fixF i);rw[hul]at this;exact this
  refine wW ?_
  refine dD hN (fun _:Unit=>⟨[(2,.sl 66022 0 i),(3,.aj),(4,.int .i64 i),(9,.int .i64 i),(15,.bool (decide (i<144∨280≤i)))],[(66022,.arr 1 (ak (bG fixF i)))]⟩) (fun _=>True) (fun R2 hR2=>?_) (fun _ _=>?_)
  ·by_cases h1:i<144
   ·rw[decide_eq_true (.inl h1)]at hR2
    refine wW ?_
    refine gG ?_
    exact hR2 () _ trivial (.le vV)
   ·by_cases h2:280≤i
    ·rw[decide_eq_true (.inr h2)]at hR2
     refine wW ?_
     refine gG ?_
     exact hR2 () _ trivial (.le vV)
    ·rw[decide_eq_false (by omega)]at hR2
     refine wW ?_
     refine gG ?_
     exact hR2 () _ trivial (.le vV)
  ·by_cases h8:i<144∨280≤i
   ·have hf:fixF i=8:=by unfold fixF;rw[if_neg (by omega),if_neg (by omega)]
    rw[hf]at hus
    rw[decide_eq_true h8]
    refine bo @eU hsb ?_
    exact hR1 (i+1) _ (by omega) (by omega) (.le (by rw[hus,←eT];exact vV))
   ·rw[decide_eq_false h8]
    by_cases h9:i<256
    ·have hf:fixF i=9:=by unfold fixF;rw[if_neg (by omega),if_pos (by omega)]
     rw[hf]at hus
     refine bo @eU hsb ?_
     exact hR1 (i+1) _ (by omega) (by omega) (.le (by rw[hus,←eT];exact vV))
    ·have hf:fixF i=7:=by unfold fixF;rw[if_pos (by omega)]
     rw[hf]at hus
     refine bo @eU hsb ?_
     exact hR1 (i+1) _ (by omega) (by omega) (.le (by rw[hus,←eT];exact vV))
 ·obtain rfl:i=288:=by omega
  refine wW ?_
  refine aZ hN (fun i:Nat=>⟨[(2,.sl 66022 0 288),(3,.sl 66034 0 i),(30,.int .i64 i)],[(66022,.arr 1 (ak (bG fixF 288))),(66034,.arr 1 (ak (bG (fun _=>5) i)))]⟩) (fun i=>i≤32) (fun i=>32-i) 0 (.nil 3 66034 1 rfl (.le (jE @ly @hC))) (by omega) ?_
  rintro i R2 hi hR2
  have hul2:=fV (fun _=>5) i
  have hnl2:=bS (bG (fun _=>5) i)
  by_cases hlt:i<32
  ·have hus:=jD (fun _=>5) i
   have hsb:aI (ak (bG (fun _=>5) i)) 0 i=ak (bG (fun _=>5) i):=by
    have:=fi (xs:=bG (fun _=>5) i);rw[hul2]at this;exact this
   refine bo @eU hsb ?_
   exact hR2 (i+1) _ (by omega) (by omega) (.le (by rw[hus,←eT];exact vV))
  ·obtain rfl:i=32:=by omega
   rw[vH]at *
   rw[vG]at *
   have e1:aI (ak dQ) 0 288=ak dQ:=by rw[←iu.2.1];exact fi
   have e2:aI (ak dP) 0 32=ak dP:=by rw[←ir.2.1];exact fi
   have n1:=oH dQ iu.1 (by rw[iu.2.1];decide)
   have n2:=oH dP ir.1 (by rw[ir.2.1];decide)
   rw[if_pos iu.2.2]at n1
   rw[if_pos ir.2.2]at n2
   generalize dQ=l at *
   generalize dP=d at *
   refine wW ?_
   refine kC ⟨[(37,.ro 1 (ak l)),(3,.ro 1 (ak d))],[]⟩ (.bw 66022 (.bw 66034 (.le (jE e1 e2)))) rfl ?_
   refine wW ?_
   refine iK n1 rfl ?_
   rintro h' v as' ⟨rfl,rfl⟩
   refine⟨rfl,rfl,?_⟩
   simp(disch:=omega)only[go_sem,simprocAttr,bm]
   refine iK n2 rfl ?_
   rintro h' v as' ⟨rfl,rfl⟩
   refine⟨rfl,rfl,?_⟩
   simp(disch:=omega)only[go_sem,simprocAttr,bm]
   exact hR.le vV ⟨rfl,rfl⟩
def yh:AV:=.agg (ak eh)
theorem P6:aM Tryz.prog 188 [] yh:=by
 refine Cod.P7 (fun E R hN hR=>?_)
 refine wW ?_
 exact hR.le vV ⟨rfl,rfl⟩
end Go.Proofs.YtlkmppkcbhodaaaGreatDoor.Pk
namespace Go.Proofs.YtlkmppkcbhodaaaGreatDoor.Pk
section
variable {t:Bs} {S:SS}
theorem yi {e:Nat}:(b5 e S).out=S.out:=by unfold b5;split<;>rfl
theorem pf {n:Nat}:(aH t n S).2.out=S.out:=by
 unfold aH
 split
 ·rfl
 ·split<;>rfl
theorem yk {l:List Nat}:(aQ t l S).2.out=S.out:=by
 unfold aQ
 split
 ·rfl
 ·split<;>rfl
theorem yl {l:List Nat} {s:Nat}:(bL t l s S).2.2.out=S.out:=by
 unfold bL
 split
 ·split
  ·exact yi
  ·exact pf
 ·split
  ·exact pf
  ·split
   ·exact pf
   ·rfl
theorem yj {N:Nat} {l:List Nat} {b:Nat×Nat×SS}:(cd N l b).out=b.2.2.out:=by
 unfold cd
 split
 ·exact yi
 ·rfl
end
theorem lk {t:Bs} {nc:Nat}:∀(k:Nat) (l:List Nat) (S:SS),(firstS t nc k l S).2.out=S.out
 | 0,_,_=>rfl
 | k+1,l,S=>by
  rw[lS]
  split
  ·rfl
  ·rw[lk k,pf]
theorem pd {t:Bs} {fl:List Nat} {N:Nat}:∀(k:Nat) (l:List Nat) (S:SS),(cT t fl N k l S).2.out=S.out
 | 0,_,_=>rfl
 | k+1,l,S=>by
  rw[k7]
  split
  ·rfl
  ·split
   ·simp only;rw[yj,yl,yk]
   ·rw[pd k,yj,yl,yk]
theorem IB (t:Bs) (S:SS):(b9 t S).2.out=S.out:=by
 rw[n9]
 split
 ·rfl
 ·split
  ·rfl
  ·unfold cH
   split
   ·simp only;rw[lk]
   ·split
    ·simp only;rw[lk]
    ·unfold j4
     split
     ·simp only;rw[pd,lk]
     ·split
      ·simp only;rw[pd,lk]
      ·simp only;rw[pd,lk]
open Eng
set_option maxRecDepth 10000
def sS:AV:=.lit (.pointer none)
def PT (s:Bs) (o most:Nat) (out:Bs) (D:(List Nat×List Nat)×SS) (h':HP) (v:AV):Prop:=
 ∃a' hv',h'=aV s o most a' hv' out∧(D.2.err≠0→v=.ai [sS,sS,.int .i64 (D.2.err:Nat)]) ∧
  (D.2.err=0→v=.ai [bm D.1.1,bm D.1.2,.int .i64 (0:Nat)]∧bI s a' hv' (8*o+D.2.p)∧bu D.1.1=true∧bu D.1.2=true∧(∀n∈D.1.1,n≤15)∧(∀n∈D.1.2,n≤15)∧D.1.1.length≤286∧D.1.2.length≤320)
abbrev QT (R:HP→AV→List AV→Prop):KQ:=KQ.post [.tmp 2,.tmp 3,.tmp 4] 1 R
abbrev BS (R1 RX:KS) (R:HP→AV→List AV→Prop):KQ:=KQ.cG 3 (KQ.eM R1 (KQ.cG 2 (KQ.eM RX (QT R))))
abbrev lD (s:Bs) (o most:Nat) (out:Bs) (D:(List Nat×List Nat)×SS):HP→AV→List AV→Prop:=fun h' v ar=>PT s o most out D h' v∧ar=[.ab eX 0]
theorem iZ {s:Bs} {o most:Nat} {out:Bs} {D:(List Nat×List Nat)×SS} {R:HP→AV→List AV→Prop} (hR:cJ (lD s o most out D) R) (e:Nat) (he:D.2.err=e) (hne:e≠0) (a' hv':Nat) {h:HP} (hh:eH h (aV s o most a' hv' out)) :
    R h (.ai [.lit (.pointer none),.lit (.pointer none),.int .i64 (e:Nat)]) [.ab 65032 0]:=
 hR.le (h':=aV s o most a' hv' out) hh ⟨⟨a',hv',rfl,fun _=>by rw[he];rfl,fun h=>absurd h (by rw[he];exact hne)⟩,rfl⟩
theorem po (s:Bs) (o p a hv n:Nat) (hs:s.length≤1000000000) (h:bI s a hv (8*o+p)) (hn:n≤32):Eng.Spec Tryz.prog 161 [(RD,.var (aW s a hv o))] [.ab RD 0,.int .i64 n]
    (fun h' v ar=>∃a' hv',bI s a' hv' (8*o+(if n≤8*(s.drop o).length-p then p+n else p))∧h'=[(RD,.var (aW s a' hv' o))]∧v=.ai [.int .u32 (if n≤8*(s.drop o).length-p then numAt (s.drop o) p n else 0:Nat),.bool (decide (n≤8*(s.drop o).length-p))]∧ar=[.ab RD 0,.int .i64 n]):=by
 have hb:=pq s a hv o (8*o+p) n (by omega) h hn
 rw[rH,←o9]at hb
 rw[show 8*o+(if n≤8*(s.drop o).length-p then p+n else p)=(if n≤8*(s.drop o).length-p then 8*o+p+n else 8*o+p)by split<;>omega]
 exact hb
theorem wv (l:List Nat) (hl:∀n∈l,n≤15) (hn:l.length≤320):∃(x:AV) (e:Nat),Eng.Spec Tryz.prog 176 [] [.ro 1 (ak l)] (fun h r _=>h=[]∧r=.ai [x,.int .i64 (e:Nat)])∧((bu l=true∧x=bm l∧e=0)∨(bu l=false∧x=.lit (.pointer none)∧e=4)):=by
 have n1:=oH l hl hn
 by_cases hc:bu l=true
 ·rw[if_pos hc]at n1
  exact⟨_,0,n1,.inl ⟨hc,rfl,rfl⟩⟩
 ·rw[if_neg hc]at n1
  exact⟨_,4,n1,.inr ⟨by simpa using hc,rfl,rfl⟩⟩
set_option maxHeartbeats 2000000 in
theorem Sq (s:Bs) (o most a hv:Nat) (out:Bs) (l:List Nat) (nl p:Nat) (D:(List Nat×List Nat)×SS) {E:Env} {R:HP→AV→List AV→Prop} (hN:E.N≤1000000) (hR:cJ (lD s o most out D) R) (hl:∀n∈l,n≤15) (h1:257≤nl) (h2:nl≤286) (h3:l.length≤320) (h4:nl≤l.length)
    (hr:bI s a hv (8*o+p))
    (hD:D=if l.getD 256 0=0∨bu (l.take nl)=false∨bu (l.drop nl)=false then(([],[]),⟨p,out,3⟩)else((l.take nl,l.drop nl),⟨p,out,0⟩)) :
    vcW Tryz.prog E Cod.rl (QT R) ⟨[(0,.ab 65032 0),(7,.int .i64 nl),(16,.ro 1 (ak l)),(2000000,.ab 65032 0)],aV s o most a hv out⟩:=by
 have hnl:=bS l
 have ht1:(l.take nl).length=nl:=by rw[List.length_take];omega
 have hd1:(l.drop nl).length=l.length-nl:=List.length_drop
 obtain⟨x1,e1,n1,c1⟩:=wv (l.take nl) (pM hl nl) (by omega)
 obtain⟨x2,e2,n2,c2⟩:=wv (l.drop nl) (nX hl nl) (by omega)
 have hx:nth (ak l) 256=.int .i64 (l.getD 256 0:Nat):=dJ (by omega)
 have etd:(l.drop nl).take (l.length-nl)=l.drop nl:=List.take_of_length_le (by omega)
 generalize hy:l.getD 256 0=y at *
 have bad:D=(([],[]),⟨p,out,3⟩)→∀h,eH h (aV s o most a hv out)→R h (.ai [.lit (.pointer none),.lit (.pointer none),.int .i64 3]) [.ab 65032 0]:=fun hd h hh=>iZ hR 3 (by rw[hd]) (by decide) a hv hh
 refine s9 hnl @eK ?_
 rcases c1 with⟨hc1,rfl,rfl⟩ | ⟨hc1,rfl,rfl⟩<;>rcases c2 with⟨hc2,rfl,rfl⟩ | ⟨hc2,rfl,rfl⟩<;>by_cases h0:y=0
 all_goals
  refine iK n1 rfl ?_
  rintro h' v as' ⟨rfl,rfl⟩
  refine⟨rfl,rfl,?_⟩
  simp(disch:=omega)only[go_sem,simprocAttr,hnl,eK,etd,bm]
  refine iK n2 rfl ?_
  rintro h' v as' ⟨rfl,rfl⟩
  refine⟨rfl,rfl,?_⟩
 rotate_left
 ·rw[if_neg (by rw[hc1,hc2];simp[h0])]at hD
  subst hD
  have hi:¬((y:Nat):Int)=0:=by omega
  simp(disch:=omega)only[go_sem,simprocAttr,hnl,hx,hi,bm]
  refine fK hnl hx hi ?_
  exact hR.le (h':=aV s o most a hv out) bz ⟨⟨a,hv,rfl,fun h=>absurd rfl h,fun _=>⟨rfl,hr,hc1,hc2,pM hl nl,nX hl nl,by rw[ht1];exact h2,by rw[hd1];omega⟩⟩,rfl⟩
 all_goals
  rw[if_pos (by first | exact .inl h0 | exact .inr (.inl hc1) | exact .inr (.inr hc2))]at hD
  have bad:=bad hD
 all_goals first
  |have hi:((y:Nat):Int)=0:=by omega
   simp(disch:=omega)only[go_sem,simprocAttr,hnl,hx,hi,bm]
   (try(repeat(first | refine ff ?_ | refine fc ?_ | refine fe ?_)<;>simp(disch:=omega)only[go_sem,simprocAttr,hnl,hx,hi]))
   exact bad _ bz
  |have hi:¬((y:Nat):Int)=0:=by omega
   simp(disch:=omega)only[go_sem,simprocAttr,hnl,hx,hi,bm]
   (try(repeat(first | refine ff ?_ | refine fc ?_ | refine fe ?_)<;>simp(disch:=omega)only[go_sem,simprocAttr,hnl,hx,hi]))
   exact bad _ bz
set_option maxHeartbeats 1000000 in
theorem Sp (s:Bs) (o most a hv N:Nat) (out:Bs) (l fl:List Nat) (nl nd p nb least what:Nat) (D:(List Nat×List Nat)×SS) {E:Env} {R1 RX:KS} {R:HP→AV→List AV→Prop} (hN:E.N≤1000000) (hs:s.length≤1000000000) (ho:o≤s.length)
    (hR:cJ (lD s o most out D) R) (hr:bI s a hv (8*o+p)) (hbits:nb≤7) (hleast:least≤11) (hNN:nl+nd=N) (hN1:N≤400) (hll:l.length≤N)
    (hbad:(cd N l (least+(aH (s.drop o) nb ⟨p,out,0⟩).1,what,(aH (s.drop o) nb ⟨p,out,0⟩).2)).err≠0→D.2.err=(cd N l (least+(aH (s.drop o) nb ⟨p,out,0⟩).1,what,(aH (s.drop o) nb ⟨p,out,0⟩).2)).err)
    (hR1:∀n a' hv' st',n=numAt (s.drop o) p nb→p+nb≤8*(s.drop o).length→l.length+(least+n)≤N→bI s a' hv' (8*o+(p+nb)) →
     Wk st' ⟨[(0,.ab 65032 0),(7,.int .i64 nl),(8,.int .i64 nd),(14,bm fl),(16,.sl 62110 0 (l++List.replicate (least+n) what).length),(2000000,.ab 65032 0)],aV s o most a' hv' out++[(62110,.arr 1 (ak (l++List.replicate (least+n) what)))]⟩→R1.ap st') :
    vcW Tryz.prog E Cod.rp (BS R1 RX R) ⟨[(0,.ab 65032 0),(7,.int .i64 nl),(8,.int .i64 nd),(14,bm fl),(16,.sl 62110 0 l.length),(19,.int .i64 nb),(20,.int .i64 least),(21,.int .i64 what),(2000000,.ab 65032 0)],aV s o most a hv out++[(62110,.arr 1 (ak l))]⟩:=by
 have htl:(s.drop o).length=s.length-o:=List.length_drop
 have hnl:=bS l
 have hb:=po s o p a hv nb hs hr (by omega)
 refine ic ?_
 refine aU [(RD,.var (aW s a hv o))] hb vV nofun ?_
 rintro h' v ar ⟨a1,hv1,hr1,rfl,rfl,rfl⟩
 by_cases hf:nb≤8*(s.drop o).length-p
 ·rw[if_pos hf]at hr1
  rw[if_pos hf,decide_eq_true hf]
  have hpl:p+nb≤8*(s.drop o).length:=by have:=hr.h2;have:=hr.h3;omega
  rw[fA rfl hpl]at hbad
  simp only at hbad
  have hlt:=fy (s.drop o) p nb
  have hp7:2^nb≤2^7:=Nat.pow_le_pow_right (by decide) hbits
  have hR1:=fun st'=>hR1 _ a1 hv1 st' rfl hpl
  generalize numAt (s.drop o) p nb=n at *
  refine⟨cm,rfl,?_⟩
  by_cases hov:N<l.length+(least+n)
  ·have ho2:((nl:Int)+(nd:Int))<(l.length:Int)+(least:Int)+(n:Int):=by omega
   have hbad:=hbad (by unfold cd;rw[if_pos hov,eF rfl];simp)
   unfold cd at hbad
   rw[if_pos hov,eF rfl]at hbad
   refine bo hnl ho2 ?_
   exact iZ hR 3 hbad (by decide) a1 hv1 bz
  ·have ho2:¬((nl:Int)+(nd:Int))<(l.length:Int)+(least:Int)+(n:Int):=by omega
   have eln:(least:Int)+(n:Int)=((least+n:Nat):Int):=by omega
   clear hbad
   refine bo hnl ho2 ?_
   generalize hk:least+n=k at *
   rw[eln]
   refine aZ hN (fun j:Nat=>⟨[(0,.ab 65032 0),(7,.int .i64 nl),(8,.int .i64 nd),(14,bm fl),(16,.sl 62110 0 (l.length+j:Nat)),(21,.int .i64 what),(150,.int .i64 k),(151,.int .i64 j),(2000000,.ab 65032 0)],aV s o most a1 hv1 out++[(62110,.arr 1 (ak (l++List.replicate j what)))]⟩) (fun j=>j≤k) (fun j=>k-j) 0
    (.le (by simp(disch:=omega)only[go_sem,simprocAttr,aV,aW,bm];simp)) (by omega) ?_
   rintro j R2 hj hR2
   have hnl:=bS (l++List.replicate j what)
   have hlr:(l++List.replicate j what).length=l.length+j:=by simp
   have hnr:=x7 l j what
   have hsb:aI (ak (l++List.replicate j what)) 0 (l.length+j)=ak (l++List.replicate j what):=by rw[←hlr];exact fi
   by_cases hjk:j<k
   ·refine s9 hsb @eU ?_
    exact hR2 (j+1) _ (by omega) (by omega) (.le (pR hnr))
   ·obtain rfl:j=k:=by omega
    refine ic ?_
    exact hR1 _ (by omega) hr1 (.le (pR hlr))
 ·rw[if_neg hf]at hr1
  rw[if_neg hf,decide_eq_false hf]
  rw[jt rfl (by simp only;omega)]at hbad
  have hover:∀k,(cd N l (k,what,{p:=p,out:=out,err:=6})).err=6:=by
   intro k
   unfold cd
   split
   ·rfl
   ·rfl
  simp only at hbad
  rw[hover]at hbad
  refine⟨cm,rfl,?_⟩
  refine wW ?_
  exact iZ hR 6 (hbad (by decide)) (by decide) a1 hv1 bz
set_option maxHeartbeats 2000000 in
theorem Sn (s:Bs) (o most a hv:Nat) (out:Bs) (fl:List Nat) (nl nd p:Nat) (D:(List Nat×List Nat)×SS) {E:Env} {R:HP→AV→List AV→Prop} (hN:E.N≤1000000) (hs:s.length≤1000000000) (ho:o≤s.length)
    (hR:cJ (lD s o most out D) R) (hr:bI s a hv (8*o+p)) (hfl:∀n∈fl,n≤15) (hfn:fl.length=19) (hfc:bu fl=true) (h1:257≤nl) (h2:nl≤286) (h3:1≤nd) (h4:nd≤30)
    (hD:D=j4 (s.drop o) nl nd (cT (s.drop o) fl (nl+nd) (nl+nd) [] ⟨p,out,0⟩)) :
    vcW Tryz.prog E Cod.xg (QT R) ⟨[(0,.ab 65032 0),(7,.int .i64 nl),(8,.int .i64 nd),(14,bm fl),(16,.aj),(2000000,.ab 65032 0)],aV s o most a hv out⟩:=by
 generalize hG:cT (s.drop o) fl (nl+nd) (nl+nd) [] ⟨p,out,0⟩=G at hD
 have hN1:nl+nd≤400:=by omega
 generalize hNN:nl+nd=N at *
 have hbadG:G.2.err≠0→D.2.err=G.2.err:=by
  intro h
  rw[hD]
  unfold j4
  rw[if_pos h]
 refine dD (y:=Cod.rl) hN (fun z:Nat×Nat=>⟨[(0,.ab 65032 0),(7,.int .i64 nl),(16,.ro 1 (ak G.1)),(2000000,.ab 65032 0)],aV s o most z.1 z.2 out⟩)
  (fun z=>bI s z.1 z.2 (8*o+G.2.p)∧G.2=⟨G.2.p,out,0⟩∧(∀n∈G.1,n≤15)∧G.1.length=N) (fun RX hRX=>?_) (fun z hz=>?_)
 ·refine wW ?_
  refine aZ hN (fun q:List Nat×Nat×Nat×Nat=>⟨[(0,.ab 65032 0),(7,.int .i64 nl),(8,.int .i64 nd),(14,bm fl),(16,.sl 62110 0 q.1.length),(2000000,.ab 65032 0)],aV s o most q.2.1 q.2.2.1 out++[(62110,.arr 1 (ak q.1))]⟩)
   (fun q=>(∀n∈q.1,n≤15)∧q.1.length≤N∧bI s q.2.1 q.2.2.1 (8*o+q.2.2.2)∧∃k,N-q.1.length≤k∧cT (s.drop o) fl N k q.1 ⟨q.2.2.2,out,0⟩=G) (fun q=>N-q.1.length) ([],a,hv,p)
   (.nil 16 62110 1 rfl (.le (pR @hC))) ⟨by simp,by simp,hr,N,by simp,hG⟩ ?_
  clear hr hG
  rintro⟨l,a,hv,p⟩ R1 ⟨hl,hll,hr,k,hk,hg⟩ hR1
  simp only at hl hll hr hk hg
  have hnl:=bS l
  have htl:(s.drop o).length=s.length-o:=List.length_drop
  by_cases hlt:l.length<N
  ·have hlt2:(l.length:Int)<(nl:Int)+(nd:Int):=by omega
   obtain⟨k,rfl⟩:∃k',k=k'+1:=⟨k-1,by omega⟩
   rw[k7,if_neg (by simp only;omega)]at hg
   have dh:=q8 fl hfl (by omega) hfc s a hv o (8*o+p) (by omega) hr
   rw[←ss]at dh
   simp only[bm]at dh
   generalize hre:readL (aN fl) (bq (s.drop o) p)=re at *
   simp(disch:=omega)only[go_sem,simprocAttr,aV,bm,hnl,hlt2]
   refine aU [(RD,.var (aW s a hv o))] dh vV nofun ?_
   rintro h' v ar ⟨a2,hv2,p2,sy,hr2,rfl,rfl,hk2,rfl⟩
   refine⟨cm,rfl,?_⟩
   by_cases hre2:re.2.2=0
   ·obtain⟨rfl,rfl⟩:=hk2 hre2
    have hsym:aQ (s.drop o) fl ⟨p,out,0⟩=(re.1,⟨p+re.2.1,out,0⟩):=by
     have:=mN (t:=s.drop o) (l:=fl) (S:=⟨p,out,0⟩) rfl (by simp only;rw[hre];exact hre2)
     simp only[hre]at this
     exact this
    rw[hsym]at hg
    simp only at hg
    have hslt:re.1<19:=by
     have:=lq (aN fl) (bq (s.drop o) p) (by rw[hre];exact hre2)
     rw[hre]at this
     have hcl:(aN fl).length=fl.length:=by simp[aN]
     omega
    rw[show 8*o+p+re.2.1=8*o+(p+re.2.1)by omega]at hr2
    generalize p+re.2.1=p2 at *
    generalize re.1=sy at *
    by_cases h16:sy<16
    ·have ht:bL (s.drop o) l sy ⟨p2,out,0⟩=(1,sy,⟨p2,out,0⟩):=by unfold bL;rw[if_neg (by omega),if_neg (by omega),if_neg (by omega)]
     have hov:cd N l (1,sy,⟨p2,out,0⟩)=⟨p2,out,0⟩:=by unfold cd;rw[if_neg (by simp only;omega)]
     rw[ht,hov,if_neg (by simp)]at hg
     simp only at hg
     have hsb:aI (ak l) 0 l.length=ak l:=fi
     refine dE hre2 hnl hsb @eU ?_
     refine hR1 (l++[sy],a2,hv2,p2) _ (by simp only[List.length_append,List.length_singleton];omega) ⟨?_,?_,hr2,k,?_,hg⟩ (.le (by rw[eT];simp(disch:=omega)only[go_sem,simprocAttr,aV,aW,bm,List.length_append,List.length_singleton]))
     ·intro n hn
      rcases List.mem_append.1 hn with hn | hn
      ·exact hl n hn
      ·rw[List.mem_singleton.1 hn];omega
     ·simp only[List.length_append,List.length_singleton];omega
     ·simp only[List.length_append,List.length_singleton];omega
    ·refine au hre2 ?_
     refine dD (y:=Cod.rp) hN (fun z:Nat×Nat×Nat=>⟨[(0,.ab 65032 0),(7,.int .i64 nl),(8,.int .i64 nd),(14,bm fl),(16,.sl 62110 0 l.length),(19,.int .i64 z.1),(20,.int .i64 z.2.1),(21,.int .i64 z.2.2),(2000000,.ab 65032 0)],aV s o most a2 hv2 out++[(62110,.arr 1 (ak l))]⟩)
      (fun z=>z.1≤7∧1≤z.2.1∧z.2.1≤11∧z.2.2≤15∧bL (s.drop o) l sy ⟨p2,out,0⟩=(z.2.1+(aH (s.drop o) z.1 ⟨p2,out,0⟩).1,z.2.2,(aH (s.drop o) z.1 ⟨p2,out,0⟩).2)) (fun R2 hR2=>?_) (fun z hz=>?_)
     ·by_cases e16:sy=16
      ·subst e16
       by_cases hle:l=[]
       ·subst hle
        have ht:bL (s.drop o) [] 16 ⟨p2,out,0⟩=(0,0,⟨p2,out,3⟩):=by unfold bL;rw[if_pos rfl,if_pos rfl,eF rfl]
        have hov:cd N [] (0,0,⟨p2,out,3⟩)=⟨p2,out,3⟩:=if_neg (by simp)
        rw[ht,hov,if_pos (by simp)]at hg
        refine au @hC ?_
        exact iZ hR 3 (by rw[hbadG (by rw[←hg];simp),←hg]) (by decide) a2 hv2 bz
       ·have hl0:0<l.length:=by cases l with | nil=>exact absurd rfl hle | cons=>simp
        have el:(l.length:Int)-1=((l.length-1:Nat):Int):=by omega
        have hz:¬((l.length:Int)=0):=by omega
        have hx:nth (ak l) (l.length-1)=.int .i64 (l.getD (l.length-1) 0:Nat):=dJ (by omega)
        have hx15:l.getD (l.length-1) 0≤15:=jq hl _
        have ht:bL (s.drop o) l 16 ⟨p2,out,0⟩=(3+(aH (s.drop o) 2 ⟨p2,out,0⟩).1,l.getD (l.length-1) 0,(aH (s.drop o) 2 ⟨p2,out,0⟩).2):=by unfold bL;rw[if_pos rfl,if_neg hle]
        generalize l.getD (l.length-1) 0=x at *
        refine dE hnl hz el hx ?_
        exact hR2 (2,3,x) _ ⟨by simp,by simp,by simp,hx15,ht⟩ (.le mP)
      ·by_cases e17:sy=17
       ·subst e17
        refine wW ?_
        exact hR2 (3,3,0) _ ⟨by decide,by decide,by decide,by decide,rfl⟩ (.le mP)
       ·obtain rfl:sy=18:=by omega
        refine wW ?_
        exact hR2 (7,11,0) _ ⟨by decide,by decide,by decide,by decide,rfl⟩ (.le mP)
     ·obtain⟨nb,least,what⟩:=z
      simp only at hz ⊢
      obtain⟨g1,g0,g2,g3,g4⟩:=hz
      rw[g4]at hg
      refine Sp s o most a2 hv2 N out l fl nl nd p2 nb least what D hN hs ho hR hr2 g1 g2 hNN hN1 hll (fun h=>?_) (fun n a' hv' st' hn hpl hlo hr3 hw=>?_)
      ·rw[if_pos h]at hg
       rw[hbadG (by rw[←hg];exact h),←hg]
      ·rw[fA rfl hpl]at hg
       simp only at hg
       rw[←hn]at hg
       have hov:cd N l (least+n,what,⟨p2+nb,out,0⟩)=⟨p2+nb,out,0⟩:=by unfold cd;rw[if_neg (by simp only;omega)]
       rw[hov,if_neg (by simp)]at hg
       refine hR1 (l++List.replicate (least+n) what,a',hv',p2+nb) _ (by simp only[List.length_append,List.length_replicate];omega) ⟨?_,?_,hr3,k,?_,hg⟩ hw
       ·intro n hn
        rcases List.mem_append.1 hn with hn | hn
        ·exact hl n hn
        ·rw[(List.mem_replicate.1 hn).2];exact g3
       ·simp only[List.length_append,List.length_replicate];omega
       ·simp only[List.length_append,List.length_replicate];omega
   ·have hsym:aQ (s.drop o) fl ⟨p,out,0⟩=(0,⟨p,out,re.2.2⟩):=by
     have:=mM (t:=s.drop o) (l:=fl) (S:=⟨p,out,0⟩) rfl (by simp only;rw[hre];exact hre2)
     simp only[hre]at this
     exact this
    rw[hsym]at hg
    simp only at hg
    have ht:bL (s.drop o) l 0 ⟨p,out,re.2.2⟩=(1,0,⟨p,out,re.2.2⟩):=by unfold bL;rw[if_neg (by omega),if_neg (by omega),if_neg (by omega)]
    have hov:cd N l (1,0,⟨p,out,re.2.2⟩)=⟨p,out,re.2.2⟩:=by unfold cd;rw[if_neg (by simp only;omega)]
    rw[ht,hov,if_pos (by simpa using hre2)]at hg
    have hi:¬((re.2.2:Nat):Int)=0:=by omega
    refine au hi ?_
    exact iZ hR re.2.2 (by rw[hbadG (by rw[←hg];exact hre2),←hg]) hre2 a2 hv2 bz
  ·have hlt2:¬(l.length:Int)<(nl:Int)+(nd:Int):=by omega
   have hGe:(l,(⟨p,out,0⟩:SS))=G:=by
    rw[←hg]
    cases k with
    | zero=>rfl
    | succ k=>rw[k7,if_pos (.inl (by omega))]
   subst hGe
   have hsb:aI (ak l) 0 l.length=ak l:=fi
   refine s9 hnl hlt2 ?_
   exact hRX (a,hv) _ ⟨hr,rfl,hl,by simp only;omega⟩ (.bw 62110 (.le (pR hsb)))
 ·obtain⟨a',hv'⟩:=z
  obtain⟨g1,g2,g3,g4⟩:=hz
  refine Sq s o most a' hv' out G.1 nl G.2.p D hN hR g3 h1 h2 (by omega) (by omega) g1 ?_
  rw[hD]
  unfold j4
  rw[if_neg (by rw[g2];simp)]
  obtain⟨G1,G2⟩:=G
  simp only at g2
  rw[g2]
set_option maxHeartbeats 2000000 in
theorem Sr (s:Bs) (o most a hv:Nat) (out:Bs) (nl nd nc p:Nat) (D:(List Nat×List Nat)×SS) {E:Env} {R:HP→AV→List AV→Prop} (hN:E.N≤1000000) (hs:s.length≤1000000000) (ho:o≤s.length)
    (hR:cJ (lD s o most out D) R) (hr:bI s a hv (8*o+p)) (h1:257≤nl) (h2:nl≤286) (h3:1≤nd) (h4:nd≤30) (hc:nc≤19)
    (hD:D=cH (s.drop o) nl nd (firstS (s.drop o) nc nc (List.replicate 19 0) ⟨p,out,0⟩)) :
    vcW Tryz.prog E Cod.xh (QT R) ⟨[(0,.ab 65032 0),(7,.int .i64 nl),(8,.int .i64 nd),(9,.int .i64 nc),(10,.sl 62057 0 19),(2000000,.ab 65032 0)],[(62057,.arr 1 (ak (List.replicate 19 0))),(40014,.var (aW s a hv o)),(65032,.var [.ab 40014 0,.sl 60022 0 out.length,.int .i64 most]),(60022,.arr 1 (out.map ub))]⟩:=by
 generalize hG:firstS (s.drop o) nc nc (List.replicate 19 0) ⟨p,out,0⟩=G at hD
 have htl:(s.drop o).length=s.length-o:=List.length_drop
 have hbadG:G.2.err≠0→D.2.err=G.2.err:=by
  intro h
  rw[hD]
  unfold cH
  rw[if_pos h]
 refine dD (y:=Cod.xi) hN (fun z:Nat×Nat=>⟨[(0,.ab 65032 0),(7,.int .i64 nl),(8,.int .i64 nd),(10,.ro 1 (ak G.1)),(2000000,.ab 65032 0)],aV s o most z.1 z.2 out⟩)
  (fun z=>bI s z.1 z.2 (8*o+G.2.p)∧G.2=⟨G.2.p,out,0⟩∧(∀n∈G.1,n≤15)∧G.1.length=19) (fun RX hRX=>?_) (fun z hz=>?_)
 ·refine ic ?_
  refine aZ hN (fun q:Nat×List Nat×Nat×Nat×Nat=>⟨[(0,.ab 65032 0),(7,.int .i64 nl),(8,.int .i64 nd),(10,.sl 62057 0 19),(58,.int .i64 nc),(59,.int .i64 q.1),(2000000,.ab 65032 0)],aV s o most q.2.2.1 q.2.2.2.1 out++[(62057,.arr 1 (ak q.2.1))]⟩)
   (fun q=>q.1≤nc∧(∀n∈q.2.1,n≤15)∧q.2.1.length=19∧bI s q.2.2.1 q.2.2.2.1 (8*o+q.2.2.2.2)∧firstS (s.drop o) nc (nc-q.1) q.2.1 ⟨q.2.2.2.2,out,0⟩=G) (fun q=>nc-q.1) (0,List.replicate 19 0,a,hv,p)
   (.le vVJ) ⟨by simp,by simp,by simp,hr,hG⟩ ?_
  clear hr hG
  rintro⟨j,l,a,hv,p⟩ R1 ⟨hj,hl,hll,hr,hg⟩ hR1
  simp only at hj hl hll hr hg
  have hnl:=bS l
  by_cases hlt:j<nc
  ·obtain⟨m,hm⟩:∃m,nc-j=m+1:=⟨nc-j-1,by omega⟩
   rw[hm,lS,if_neg (by simp),show nc-(m+1)=j by omega]at hg
   have hpl:=yt j (by omega)
   have hx:nth (ak eh) j=.int .i64 (eh.getD j 0:Nat):=dJ (by have:eh.length=19:=rfl;omega)
   have hpn:(ak eh).length=19:=rfl
   have hx2:(ak eh).getD j .undef=.int .i64 (eh.getD j 0:Nat):=by
    have hl:j<eh.length:=by have:eh.length=19:=rfl;omega
    simp[ak,List.getD_eq_getElem?_getD,hl]
   have hord:=P6
   unfold yh at hord
   generalize eh.getD j 0=pj at *
   have hb:=po s o p a hv 3 hs hr (by omega)
   have hxl:nth (ak l) pj=.int .i64 (l.getD pj 0:Nat):=dJ (by omega)
   refine ic ?_
   refine aU [(RD,.var (aW s a hv o))] hb vV nofun ?_
   rintro h' v ar ⟨a1,hv1,hr1,rfl,rfl,rfl⟩
   by_cases hf:3≤8*(s.drop o).length-p
   ·rw[if_pos hf]at hr1
    rw[if_pos hf,decide_eq_true hf]
    rw[fA rfl (by simp only;omega)]at hg
    simp only at hg
    have hlt3:=fy (s.drop o) p 3
    generalize numAt (s.drop o) p 3=x at *
    refine⟨cm,rfl,?_⟩
    refine wW ?_
    refine aA hord rfl rfl ?_
    refine lz hx2 hpn hnl hll hxl @rO ?_
    refine hR1 (j+1,l.set pj x,a1,hv1,p+3) _ (by simp only;omega) ⟨hlt,?_,by simp[hll],hr1,by simp only;rw[show nc-(j+1)=m by omega];exact hg⟩ (.le bz)
    intro n hn
    rcases List.mem_or_eq_of_mem_set hn with hn | hn
    ·exact hl n hn
    ·omega
   ·rw[if_neg hf]at hr1
    rw[if_neg hf,decide_eq_false hf]
    rw[jt rfl (by simp only;omega)]at hg
    simp only at hg
    rw[ob _ _ _ _ _ (by simp)]at hg
    refine⟨cm,rfl,?_⟩
    refine wW ?_
    exact iZ hR 6 (by rw[hbadG (by rw[←hg];simp),←hg]) (by decide) a1 hv1 bz
  ·obtain rfl:j=nc:=by omega
   rw[Nat.sub_self]at hg
   have hGe:(l,(⟨p,out,0⟩:SS))=G:=hg
   subst hGe
   have hsub:aI (ak l) 0 19=ak l:=by rw[←hll];exact fi
   refine ic ?_
   exact hRX (a,hv) _ ⟨hr,rfl,hl,hll⟩ (.bw 62057 (.le (BH hsub)))
 ·obtain⟨a',hv'⟩:=z
  obtain⟨g1,g2,g3,g4⟩:=hz
  simp only at g1 g2 g3 g4 ⊢
  have n1:=oH G.1 g3 (by omega)
  unfold cH at hD
  rw[if_neg (by rw[g2];simp)]at hD
  cases hck:bu G.1 with
  | false=>
   rw[hck,if_neg (by decide)]at n1
   rw[if_pos hck]at hD
   refine ic ?_
   refine iK n1 rfl ?_
   rintro h' v as' ⟨rfl,rfl⟩
   refine⟨rfl,rfl,?_⟩
   refine wW ?_
   exact iZ hR 3 (by rw[hD]) (by decide) a' hv' bz
  | true=>
   rw[hck,if_pos rfl]at n1
   rw[if_neg (by rw[hck];decide),g2]at hD
   have hb:=Sn s o most a' hv' out G.1 nl nd G.2.p D (E:=E) (R:=R) hN hs ho hR g1 g3 g4 hck h1 h2 h3 h4 hD
   refine ic ?_
   refine iK n1 rfl ?_
   rintro h' v as' ⟨rfl,rfl⟩
   refine⟨rfl,rfl,?_⟩
   simp only[aV,bm]at hb
   simp(disch:=omega)only[go_sem,simprocAttr,bm]
   exact hb
theorem ng {n:Nat} (h:n<65536):bits .and .u32 (n:Int) 31=((n%32:Nat):Int):=by
 show IntKind.u32.wrap ((BitVec.ofInt 32 (n:Int) &&& BitVec.ofInt 32 ((31:Nat):Int)).toNat:Int)=_
 rw[BitVec.ofInt_natCast,BitVec.ofInt_natCast,BitVec.toNat_and,BitVec.toNat_ofNat,BitVec.toNat_ofNat,Nat.mod_eq_of_lt (by omega),Nat.mod_eq_of_lt (by decide),show(31:Nat)=2^5-1 from rfl,Nat.and_two_pow_sub_one_eq_mod]
 exact wrap_u32 (by omega)
theorem fdiv_pow (x k:Nat) (h:k≤32):(x:Int).fdiv (2^min k 32)=((x/2^k:Nat):Int):=by
 rw[Nat.min_eq_left h,Int.fdiv_eq_ediv_of_nonneg _ (by exact_mod_cast Nat.zero_le (2^k))]
 norm_cast
set_option maxHeartbeats 1000000 in
theorem TJ (s:Bs) (o most a hv:Nat) (S:SS) (hs:s.length≤1000000000) (ho:o≤s.length) (hm:most≤1000000) (hr:bI s a hv (8*o+S.p)) (hol:S.out.length≤most) (he:S.err=0) :
    Eng.Spec Tryz.prog 163 (aV s o most a hv S.out) [.ab eX 0] (fun h' v ar=>PT s o most S.out (b9 (s.drop o) S) h' v∧ar=[.ab eX 0]):=by
 refine Cod.TK (fun E R hN hR=>?_)
 have htl:(s.drop o).length=s.length-o:=List.length_drop
 have hb:=po s o S.p a hv 14 hs hr (by omega)
 rw[n9]at hR
 obtain⟨p,out,err⟩:=S
 simp only at he hr hol hb hR ⊢
 subst he
 refine ic ?_
 refine aU [(RD,.var (aW s a hv o))] hb vV nofun ?_
 rintro h' v ar ⟨a1,hv1,hr1,rfl,rfl,rfl⟩
 by_cases h14:14≤8*(s.drop o).length-p
 ·rw[if_pos h14]at hr1
  rw[if_pos h14,decide_eq_true h14]
  rw[if_neg (by omega)]at hR
  refine⟨cm,rfl,?_⟩
  have hlt:=fy (s.drop o) p 14
  have m5:=pb (s.drop o) p (m:=5) (n:=14) (by decide)
  have d5:=mc (s.drop o) p (m:=5) (n:=14) (by decide)
  have d10:=mc (s.drop o) p (m:=10) (n:=14) (by decide)
  have m55:=pb (s.drop o) (p+5) (m:=5) (n:=9) (by decide)
  generalize numAt (s.drop o) p 14=x at *
  have f5:=fdiv_pow x 5 (by decide)
  have f10:=fdiv_pow x 10 (by decide)
  have c1:=ng (n:=x) (by omega)
  have c2:=ng (n:=x/2^5) (by omega)
  have w1:x%32=numAt (s.drop o) p 5:=m5
  have w2:x/2^5%32=numAt (s.drop o) (p+5) 5:=by rw[d5];exact m55
  have w3:x/2^10=numAt (s.drop o) (p+10) 4:=d10
  rw[←w1,←w2,←w3]at hR
  have b1:x%32<32:=Nat.mod_lt _ (by decide)
  have b2:x/2^5%32<32:=Nat.mod_lt _ (by decide)
  have b3:x/2^10<16:=by omega
  generalize x%32=y1 at *
  generalize x/2^5%32=y2 at *
  generalize x/2^10=y3 at *
  have bad:(286<y1+257∨30<y2+1)→R [(40014,aJ.var (aW s a1 hv1 o)),(65032,aJ.var [AV.ab 40014 0,AV.sl 60022 0 (List.length out),AV.int IntKind.i64 ↑most]),(60022,aJ.arr 1 (List.map ub out))] (.ai [.lit (.pointer none),.lit (.pointer none),.int .i64 3]) [.ab 65032 0]:=by
   intro hx
   rw[if_pos hx]at hR
   exact iZ hR 3 rfl (by decide) a1 hv1 bz
  by_cases hx1:286<y1+257
  ·have bad:=bad (.inl hx1)
   refine dE f5 f10 c1 c2 ?_
   refine gG ?_
   exact bad
  ·by_cases hx2:30<y2+1
   ·have bad:=bad (.inr hx2)
    refine dE f5 f10 c1 c2 ?_
    refine gG ?_
    exact bad
   ·rw[if_neg (by omega)]at hR
    clear bad
    have hf:=Sr s o most a1 hv1 out (y1+257) (y2+1) (y3+4) (p+14) _ (E:=E) (R:=R) hN hs ho hR hr1 (by omega) (by omega) (by omega) (by omega) (by omega) rfl
    clear hR
    refine dE f5 f10 c1 c2 ?_
    refine gG ?_
    simp only[aW]at hf
    refine ig ?_
    exact hf
 ·rw[if_neg h14]at hr1
  rw[if_neg h14,decide_eq_false h14]
  rw[if_pos (by omega)]at hR
  refine⟨cm,rfl,?_⟩
  refine wW ?_
  exact iZ hR 6 rfl (by decide) a1 hv1 bz
theorem and1 {n:Nat} (h:n<65536):bits .and .u32 (n:Int) 1=((n%2:Nat):Int):=by
 show IntKind.u32.wrap ((BitVec.ofInt 32 (n:Int) &&& BitVec.ofInt 32 ((1:Nat):Int)).toNat:Int)=_
 rw[BitVec.ofInt_natCast,BitVec.ofInt_natCast,BitVec.toNat_and,BitVec.toNat_ofNat,BitVec.toNat_ofNat,Nat.mod_eq_of_lt (by omega),Nat.mod_eq_of_lt (by decide),show(1:Nat)=2^1-1 from rfl,Nat.and_two_pow_sub_one_eq_mod]
 exact wrap_u32 (by omega)
abbrev QR (R:HP→AV→List AV→Prop):KQ:=KQ.post [.tmp 2] 1 R
abbrev p4 (s:Bs) (o most:Nat) (G:SS):HP→AV→List AV→Prop:=fun h' v ar=>PI s o most G h' v∧ar=[.ab eX 0]
theorem lp {s:Bs} {o most:Nat} {G:SS} {R:HP→AV→List AV→Prop} (hR:cJ (p4 s o most G) R) (e:Nat) (he:G.err=e) (hne:e≠0) (a' hv':Nat) (out:Bs) {h:HP} (hh:eH h (aV s o most a' hv' out)) :
    R h (.int .i64 (e:Nat)) [.ab 65032 0]:=
 hR.le (h':=aV s o most a' hv' out) hh ⟨⟨a',hv',out,rfl,by rw[he],fun h=>absurd h (by rw[he];exact hne)⟩,rfl⟩
def nW (t:Bs) (most h:Nat) (S G:SS):Prop:=if h%2=1 then S=G else fC t most S=G
def gS (t:Bs) (most h:Nat) (S G:SS):Prop:=if S.err≠0 then G.err=S.err else nW t most h S G
structure jI where
 h:Nat
 l:List Nat
 d:List Nat
 a:Nat
 hv:Nat
 S:SS
def gz (s:Bs) (o most:Nat) (l:Nat) (z:jI):St:=
 if l=0 then⟨[(0,.ab 65032 0),(2000000,.ab 65032 0)],aV s o most z.a z.hv z.S.out⟩
 else if l=1 then⟨[(0,.ab 65032 0),(3,.int .u32 z.h),(2000000,.ab 65032 0)],aV s o most z.a z.hv z.S.out⟩
 else⟨[(0,.ab 65032 0),(3,.int .u32 z.h),(7,bm z.l),(8,bm z.d),(2000000,.ab 65032 0)],aV s o most z.a z.hv z.S.out⟩
structure RB (s:Bs) (o most:Nat) (z:jI):Prop where
 r:bI s z.a z.hv (8*o+z.S.p)
 e:z.S.err=0
 ol:z.S.out.length≤most
 hl:z.h<8
structure TB (l d:List Nat):Prop where
 Vk:∀n∈l,n≤15
 d15:∀n∈d,n≤15
 ll:l.length≤320
 dl:d.length≤320
 lc:bu l=true
 dc:bu d=true
def ri (s:Bs) (o most:Nat) (G:SS) (l:Nat) (z:jI):Prop:=
 RB s o most z∧(if l=0 then fC (s.drop o) most z.S=G else if l=1 then nW (s.drop o) most z.h z.S G else if l=2 then TB z.l z.d∧gS (s.drop o) most z.h (cZ (s.drop o) most z.l z.d z.S) G else False)
def gY (s:Bs) (o l:Nat) (z:jI):Nat:=4*(8*(s.drop o).length+1-z.S.p)+min l 2
theorem RB.pl {s:Bs} {o most:Nat} {z:jI} (h:RB s o most z):z.S.p≤8*(s.drop o).length:=by
 have:=h.r.h2;have:=h.r.h3
 rw[List.length_drop];omega
set_option maxHeartbeats 2000000 in
theorem wY (s:Bs) (o most:Nat) (G:SS) (z:jI) {E:Env} {R:Nat→KS} {R0:HP→AV→List AV→Prop} (hN:E.N≤1000000) (hs:s.length≤1000000000) (ho:o≤s.length) (hm:most≤1000000) (hR:cJ (p4 s o most G) R0) (hz:RB s o most z) (hg:fC (s.drop o) most z.S=G)
    (hJ:∀l' z' st',gY s o l' z'<gY s o 0 z→ri s o most G l' z'→Wk st' (gz s o most l' z')→(R l').ap st') :
    vcW Tryz.prog E Cod.oJ (KQ.iT R (QR R0)) ⟨[(0,.ab 65032 0),(2000000,.ab 65032 0)],aV s o most z.a z.hv z.S.out⟩:=by
 have hpl:=hz.pl
 obtain⟨h,l,d,a,hv,S⟩:=z
 obtain⟨hr,he,hol,hh⟩:=hz
 simp only at hr he hol hh hg hpl ⊢
 rw[run_eq hpl]at hg
 have htl:(s.drop o).length=s.length-o:=List.length_drop
 have hb:=po s o S.p a hv 3 hs hr (by omega)
 refine ic ?_
 refine aU [(RD,.var (aW s a hv o))] hb vV nofun ?_
 rintro h' v ar ⟨a1,hv1,hr1,rfl,rfl,rfl⟩
 by_cases h3:3≤8*(s.drop o).length-S.p
 ·rw[if_pos h3]at hr1
  rw[if_pos h3,decide_eq_true h3]
  have hbk:dG (s.drop o) most S=_:=if_neg (show ¬8*(s.drop o).length<S.p+3 by omega)
  rw[hbk]at hg
  clear hbk
  have m1:=pb (s.drop o) S.p (m:=1) (n:=3) (by decide)
  have d1:=mc (s.drop o) S.p (m:=1) (n:=3) (by decide)
  have hlt:=fy (s.drop o) S.p 3
  simp only at hg
  rw[←m1,show(2:Nat)=3-1 from rfl,←d1]at hg
  generalize numAt (s.drop o) S.p 3=x at *
  have f1:=fdiv_pow x 1 (by decide)
  refine⟨cm,rfl,?_⟩
  have hx1:x%2^1=x%2:=rfl
  have hx2:x/2^1=x/2:=rfl
  rw[hx1,hx2]at hg
  rw[hx2]at f1
  have hxl:x/2<4:=by omega
  -- the end of a block
  have hdone:∀S':SS,(if x/2=0 then ep (s.drop o) most {S with p:=S.p+3} else if x/2=1 then cZ (s.drop o) most dQ dP {S with p:=S.p+3}
      else if x/2=2 then(if(b9 (s.drop o) {S with p:=S.p+3}).2.err≠0 then(b9 (s.drop o) {S with p:=S.p+3}).2 else cZ (s.drop o) most (b9 (s.drop o) {S with p:=S.p+3}).1.1 (b9 (s.drop o) {S with p:=S.p+3}).1.2 (b9 (s.drop o) {S with p:=S.p+3}).2)else {S with p:=S.p+3,err:=3})=S' →
      gS (s.drop o) most x S' G:=by
   intro S' hS'
   rw[hS']at hg
   unfold gS
   by_cases hSe:S'.err=0
   ·rw[if_neg (by simpa using hSe)]
    unfold nW
    by_cases hx:x%2=1
    ·rw[if_pos (.inr (by simpa using hx))]at hg
     rw[if_pos hx];exact hg
    ·rw[if_neg (fun h=>h.elim (fun h=>h hSe) (fun h=>hx (by simpa using h)))]at hg
     rw[if_neg hx];exact hg
   ·rw[if_pos (.inl hSe)]at hg
    rw[if_pos hSe,hg]
  clear hg
  have hr1':bI s a1 hv1 (8*o+(S.p+3)):=hr1
  refine au f1 ?_
  obtain hk | hk | hk | hk:x/2=0∨x/2=1∨x/2=2∨x/2=3:=by omega
  ·rw[hk]
   have hst:=Sl s o most a1 hv1 {S with p:=S.p+3} hs ho hm hr1' hol he
   have hc:=hdone _ (if_pos hk)
   have hmv:Mv (s.drop o) most {S with p:=S.p+3} (ep (s.drop o) most {S with p:=S.p+3}):=x4
   generalize ep (s.drop o) most {S with p:=S.p+3}=F at *
   refine wW ?_
   refine aU (aV s o most a1 hv1 S.out) hst bz nofun ?_
   rintro h' v ar ⟨⟨a2,hv2,out2,rfl,rfl,hF⟩,rfl⟩
   refine⟨bz,rfl,?_⟩
   unfold gS at hc
   by_cases hFe:F.err=0
   ·obtain⟨rfl,hr2⟩:=hF hFe
    rw[if_neg (by simpa using hFe)]at hc
    refine au hFe ?_
    have h1:=hmv.p
    simp only at h1
    exact hJ 1 ⟨x,[],[],a2,hv2,F⟩ _ (by simp only[gY];omega) ⟨⟨hr2,hFe,hmv.o hol,by simp only;omega⟩,by rw[if_neg (by decide),if_pos rfl];exact hc⟩ (.le (by simp(disch:=omega)only[go_sem,simprocAttr,gz,aV,aW]))
   ·rw[if_pos hFe]at hc
    have hi:¬((F.err:Nat):Int)=0:=by omega
    refine au hi ?_
    exact lp hR F.err hc hFe a2 hv2 out2 bz
  ·rw[hk]
   have hc:=hdone _ ((if_neg (by omega)).trans (if_pos hk))
   refine wW ?_
   refine aA Pg rfl rfl ?_
   simp(disch:=omega)only[go_sem,simprocAttr,bm]
   refine hJ 2 ⟨x,dQ,dP,a1,hv1,{S with p:=S.p+3}⟩ _ (by simp only[gY];omega) ⟨⟨hr1',he,hol,by simp only;omega⟩,?_⟩ (.le ?_)
   ·rw[if_neg (by decide),if_neg (by decide),if_pos rfl]
    exact⟨⟨iu.1,ir.1,by simp only;rw[iu.2.1];decide,by simp only;rw[ir.2.1];decide,iu.2.2,ir.2.2⟩,hc⟩
   ·simp(disch:=omega)only[go_sem,simprocAttr,gz,aV,aW,bm]
  ·rw[hk]
   have hit:=TJ s o most a1 hv1 {S with p:=S.p+3} hs ho hm hr1' hol he
   have hc:=hdone _ ((if_neg (by omega)).trans ((if_neg (by omega)).trans (if_pos hk)))
   have hmv:Mv (s.drop o) most {S with p:=S.p+3} (b9 (s.drop o) {S with p:=S.p+3}).2:=oZ
   have hdo:=IB (s.drop o) {S with p:=S.p+3}
   generalize b9 (s.drop o) {S with p:=S.p+3}=D at *
   refine wW ?_
   refine aU (aV s o most a1 hv1 S.out) hit bz nofun ?_
   rintro h' v ar ⟨⟨a2,hv2,rfl,hbad,hgood⟩,rfl⟩
   by_cases hDe:D.2.err=0
   ·obtain⟨rfl,hr2,hc1,hc2,hl1,hl2,hn1,hn2⟩:=hgood hDe
    rw[if_neg (by simpa using hDe)]at hc
    refine⟨bz,rfl,?_⟩
    refine s7 ?_
    have h1:=hmv.p
    simp only at h1 hdo
    refine hJ 2 ⟨x,D.1.1,D.1.2,a2,hv2,D.2⟩ _ (by simp only[gY];omega) ⟨⟨hr2,hDe,by simp only;rw[hdo];exact hol,by simp only;omega⟩,?_⟩ (.le ?_)
    ·rw[if_neg (by decide),if_neg (by decide),if_pos rfl]
     exact⟨⟨hl1,hl2,by simp only;omega,hn2,hc1,hc2⟩,hc⟩
    ·simp(disch:=omega)only[go_sem,simprocAttr,gz,aV,aW,bm,hdo]
   ·obtain rfl:=hbad hDe
    rw[if_pos hDe]at hc
    unfold gS at hc
    rw[if_pos hDe]at hc
    refine⟨bz,rfl,?_⟩
    have hi:¬((D.2.err:Nat):Int)=0:=by omega
    simp(disch:=omega)only[go_sem,simprocAttr,hi,sS]
    exact lp hR D.2.err hc hDe a2 hv2 S.out bz
  ·rw[hk]
   have hc:=hdone _ ((if_neg (by omega)).trans ((if_neg (by omega)).trans (if_neg (by omega))))
   unfold gS at hc
   rw[if_pos (by simp)]at hc
   refine wW ?_
   exact lp hR 3 hc (by decide) a1 hv1 S.out bz
 ·rw[if_neg h3]at hr1
  rw[if_neg h3,decide_eq_false h3]
  have hbk:dG (s.drop o) most S=(true,{S with err:=6}):=if_pos (show 8*(s.drop o).length<S.p+3 by omega)
  rw[hbk,if_pos (.inl (by simp))]at hg
  refine⟨cm,rfl,?_⟩
  refine wW ?_
  exact lp hR 6 (by rw[←hg]) (by decide) a1 hv1 S.out bz
set_option maxHeartbeats 2000000 in
theorem RM (s:Bs) (o most:Nat) (G:SS) (z:jI) {E:Env} {R:Nat→KS} {R0:HP→AV→List AV→Prop} (hN:E.N≤1000000) (hs:s.length≤1000000000) (ho:o≤s.length) (hm:most≤1000000) (hR:cJ (p4 s o most G) R0) (hz:RB s o most z) (ht:TB z.l z.d) (hg:gS (s.drop o) most z.h (cZ (s.drop o) most z.l z.d z.S) G)
    (hJ:∀l' z' st',gY s o l' z'<gY s o 2 z→ri s o most G l' z'→Wk st' (gz s o most l' z')→(R l').ap st') :
    vcW Tryz.prog E (.seq .skip Cod.rj) (KQ.iT R (QR R0)) ⟨[(0,.ab 65032 0),(3,.int .u32 z.h),(7,bm z.l),(8,bm z.d),(2000000,.ab 65032 0)],aV s o most z.a z.hv z.S.out⟩:=by
 have hpl:=hz.pl
 obtain⟨h,l,d,a,hv,S⟩:=z
 obtain⟨hr,he,hol,hh⟩:=hz
 simp only at hr he hol hh hg hpl ht ⊢
 rw[yq hpl,if_neg (by simpa using he)]at hg
 have htl:(s.drop o).length=s.length-o:=List.length_drop
 have dh:=q8 l ht.Vk ht.ll ht.lc s a hv o (8*o+S.p) (by omega) hr
 rw[←ss]at dh
 simp only[bm]at dh
 generalize hre:readL (aN l) (bq (s.drop o) S.p)=re at *
 simp(disch:=omega)only[go_sem,simprocAttr,aV,bm]
 refine aU [(RD,.var (aW s a hv o))] dh vV nofun ?_
 rintro h' v ar ⟨a2,hv2,p2,sy,hr2,rfl,rfl,hk2,rfl⟩
 refine⟨cm,rfl,?_⟩
 by_cases hre2:re.2.2=0
 ·obtain⟨rfl,rfl⟩:=hk2 hre2
  have hsym:aQ (s.drop o) l S=(re.1,{S with p:=S.p+re.2.1}):=by
   have:=mN (t:=s.drop o) (l:=l) (S:=S) he (by rw[hre];exact hre2)
   simp only[hre]at this
   exact this
  have hrb:=lq (aN l) (bq (s.drop o) S.p) (by rw[hre];exact hre2)
  rw[hre,ja]at hrb
  have hcl:(aN l).length=l.length:=by simp[aN]
  have hll:=ht.ll
  rw[show 8*o+S.p+re.2.1=8*o+(S.p+re.2.1)by omega]at hr2
  have hst:dW (s.drop o) most l d S=(if re.1=256 then(true,{S with p:=S.p+re.2.1})else if re.1<256 then(false,dk most (UInt8.ofNat re.1) {S with p:=S.p+re.2.1})else(false,c6 (s.drop o) most d re.1 {S with p:=S.p+re.2.1})):=by
   unfold dW
   rw[hsym]
   exact if_neg (by simpa using he)
  rw[hst]at hg
  have hp2:S.p<S.p+re.2.1∧S.p+re.2.1≤8*(s.drop o).length:=by omega
  generalize S.p+re.2.1=p2 at *
  have hsy:re.1≤320:=by omega
  generalize re.1=sy at *
  by_cases h256:sy=256
  ·rw[if_pos h256,if_pos rfl]at hg
   unfold gS at hg
   rw[if_neg (by simpa using he)]at hg
   refine bo hre2 h256 ?_
   refine hJ 1 ⟨h,[],[],a2,hv2,{S with p:=p2}⟩ _ (by simp only[gY];omega) ⟨⟨hr2,he,hol,hh⟩,?_⟩ (.le ?_)
   ·rw[if_neg (by decide),if_pos rfl];exact hg
   ·simp(disch:=omega)only[go_sem,simprocAttr,gz,aV,aW]
  ·rw[if_neg h256]at hg
   have hi:¬((sy:Nat):Int)=256:=by omega
   refine bo hre2 hi ?_
   -- behind the symbol
   refine dD (y:=Cod.wV) hN (fun y:Nat×Nat×Bs×SS=>⟨[(0,.ab 65032 0),(3,.int .u32 h),(5,.int .i64 y.2.2.2.err),(7,bm l),(8,bm d),(2000000,.ab 65032 0)],aV s o most y.1 y.2.1 y.2.2.1⟩)
    (fun y=>Mv (s.drop o) most {S with p:=p2} y.2.2.2∧gS (s.drop o) most h (cZ (s.drop o) most l d y.2.2.2) G∧(y.2.2.2.err=0→y.2.2.1=y.2.2.2.out∧bI s y.1 y.2.1 (8*o+y.2.2.2.p))) (fun R2 hR2=>?_) (fun y hy=>?_)
   ·by_cases hlt:sy<256
    ·rw[if_pos hlt,if_neg (by simp)]at hg
     simp only at hg
     have hput:=wS s o most a2 hv2 S.out hm hol (UInt8.ofNat sy)
     have hmv:Mv (s.drop o) most {S with p:=p2} (dk most (UInt8.ofNat sy) {S with p:=p2}):=js
     have hF:dk most (UInt8.ofNat sy) {S with p:=p2}=⟨p2,if S.out.length=most then S.out else S.out++[UInt8.ofNat sy],if S.out.length=most then 2 else 0⟩:=by
      unfold dk
      rw[if_neg (by simpa using he)]
      simp only
      by_cases hf:S.out.length=most
      ·rw[if_pos (by omega),if_pos hf,if_pos hf]
      ·rw[if_neg (by omega),if_neg hf,if_neg hf,he]
     have hb:((UInt8.ofNat sy).toNat:Int)=(sy:Int):=by rw[UInt8.toNat_ofNat'];omega
     rw[hb]at hput
     generalize dk most (UInt8.ofNat sy) {S with p:=p2}=F at *
     have hF1:F.out=(if S.out.length=most then S.out else S.out++[UInt8.ofNat sy]):=by rw[hF]
     have hF2:F.err=(if S.out.length=most then 2 else 0):=by rw[hF]
     have hF3:F.p=p2:=by rw[hF]
     rw[←hF1,←hF2]at hput
     clear hF hF1
     have hlt2:((sy:Nat):Int)<256:=by omega
     refine au hlt2 ?_
     refine aU (aV s o most a2 hv2 S.out) hput bz nofun ?_
     rintro h' v ar ⟨rfl,rfl,rfl⟩
     refine⟨bz,rfl,?_⟩
     refine s7 ?_
     exact hR2 (a2,hv2,F.out,F) _ ⟨hmv,hg,fun _=>⟨rfl,by rw[hF3];exact hr2⟩⟩ (.le mP)
    ·rw[if_neg hlt,if_neg (by simp)]at hg
     simp only at hg
     have hrp:=QU s o most a2 hv2 {S with p:=p2} d sy hs ho hm hr2 hol he ht.d15 ht.dl ht.dc (by omega) (by omega)
     have hmv:Mv (s.drop o) most {S with p:=p2} (c6 (s.drop o) most d sy {S with p:=p2}):=rM
     generalize c6 (s.drop o) most d sy {S with p:=p2}=F at *
     have hlt2:¬((sy:Nat):Int)<256:=by omega
     simp only[bm]at hrp
     simp(disch:=omega)only[go_sem,simprocAttr,hlt2,bm]
     refine aU (aV s o most a2 hv2 S.out) hrp bz nofun ?_
     rintro h' v ar ⟨⟨a3,hv3,out3,rfl,rfl,hF⟩,rfl⟩
     refine⟨bz,rfl,?_⟩
     refine s7 ?_
     exact hR2 (a3,hv3,out3,F) _ ⟨hmv,hg,hF⟩ (.le mP)
   ·obtain⟨a3,hv3,out3,F⟩:=y
    obtain⟨g1,g2,g3⟩:=hy
    simp only at g1 g2 g3 ⊢
    by_cases hFe:F.err=0
    ·obtain⟨rfl,hr3⟩:=g3 hFe
     simp(disch:=omega)only[go_sem,simprocAttr,hFe,bm]
     have h1:=g1.p
     have h2:=g1.q hp2.2
     simp only at h1
     refine hJ 2 ⟨h,l,d,a3,hv3,F⟩ _ (by simp only[gY];omega) ⟨⟨hr3,hFe,g1.o hol,hh⟩,?_⟩ (.le ?_)
     ·rw[if_neg (by decide),if_neg (by decide),if_pos rfl]
      exact⟨ht,g2⟩
     ·simp(disch:=omega)only[go_sem,simprocAttr,gz,aV,aW,bm]
    ·rw[show cZ (s.drop o) most l d F=F from pg _ hFe]at g2
     unfold gS at g2
     rw[if_pos hFe]at g2
     have hi:¬((F.err:Nat):Int)=0:=by omega
     simp(disch:=omega)only[go_sem,simprocAttr,hi,bm]
     exact lp hR F.err g2 hFe a3 hv3 out3 bz
 ·have hsym:aQ (s.drop o) l S=(0,{S with err:=re.2.2}):=by
   have:=mM (t:=s.drop o) (l:=l) (S:=S) he (by rw[hre];exact hre2)
   simp only[hre]at this
   exact this
  have hst:dW (s.drop o) most l d S=(true,{S with err:=re.2.2}):=by
   unfold dW
   rw[hsym]
   exact if_pos hre2
  rw[hst,if_pos rfl]at hg
  unfold gS at hg
  rw[if_pos hre2]at hg
  have hi:¬((re.2.2:Nat):Int)=0:=by omega
  refine au hi ?_
  exact lp hR re.2.2 hg hre2 a2 hv2 S.out bz
set_option maxHeartbeats 1000000 in
theorem RJ (s:Bs) (o most a hv:Nat) (S:SS) (hs:s.length≤1000000000) (ho:o≤s.length) (hm:most≤1000000) (hr:bI s a hv (8*o+S.p)) (hol:S.out.length≤most) (he:S.err=0) :
    Eng.Spec Tryz.prog 120 (aV s o most a hv S.out) [.ab eX 0] (fun h' v ar=>PI s o most (fC (s.drop o) most S) h' v∧ar=[.ab eX 0]):=by
 refine Cod.RN (fun E R hN hR=>?_)
 generalize hG:fC (s.drop o) most S=G at *
 refine ic ?_
 refine atb hN (gz s o most) (ri s o most G) (gY s o) (fun R1 hR1=>?_) (fun l z hz=>?_)
 ·refine wW ?_
  refine dD (y:=Cod.oJ) hN (fun _:Unit=>⟨[(0,.ab 65032 0),(2000000,.ab 65032 0)],aV s o most a hv S.out⟩) (fun _=>True) (fun R2 hR2=>?_) (fun _ _=>?_)
  ·refine wW ?_
   exact hR2 () _ trivial (.le bz)
  ·exact wY s o most G ⟨0,[],[],a,hv,S⟩ hN hs ho hm hR ⟨hr,he,hol,by simp⟩ hG (fun l' z' st' _ h1 h2=>hR1 l' z' st' h1 h2)
 ·obtain⟨h1,h2⟩:=hz
  by_cases l0:l=0
  ·subst l0
   rw[if_pos rfl]at h2
   refine⟨.seq .skip (.bp Cod.oJ),rfl,fun R1 hR1=>?_⟩
   simp(disch:=omega)only[go_sem,simprocAttr,gz]
   refine c8 hN ?_
   exact wY s o most G z hN hs ho hm hR h1 h2 hR1
  ·rw[if_neg l0]at h2
   by_cases l1:l=1
   ·subst l1
    rw[if_pos rfl]at h2
    refine⟨.seq .skip Cod.wX,rfl,fun R1 hR1=>?_⟩
    have ha:=and1 (n:=z.h) (by have:=h1.hl;omega)
    unfold nW at h2
    by_cases hx:z.h%2=1
    ·rw[if_pos hx]at h2
     have hi:¬((z.h%2:Nat):Int)=0:=by omega
     simp(disch:=omega)only[go_sem,simprocAttr,gz,ha,hi,aV]
     refine hR.le (h':=aV s o most z.a z.hv z.S.out) bz ⟨⟨z.a,z.hv,z.S.out,rfl,?_,fun _=>by rw[←h2];exact⟨rfl,h1.r⟩⟩,rfl⟩
     rw[←h2,h1.e];rfl
    ·rw[if_neg hx]at h2
     have hi:((z.h%2:Nat):Int)=0:=by omega
     simp(disch:=omega)only[go_sem,simprocAttr,gz,ha,hi,aV]
     refine hR1 0 z _ (by simp only[gY];omega) ⟨h1,by rw[if_pos rfl];exact h2⟩ (.le ?_)
     simp(disch:=omega)only[go_sem,simprocAttr,gz,aV,aW]
   ·rw[if_neg l1]at h2
    by_cases l2:l=2
    ·subst l2
     rw[if_pos rfl]at h2
     exact⟨.seq .skip Cod.rj,rfl,fun R1 hR1=>RM s o most G z hN hs ho hm hR h1 h2.1 h2.2 hR1⟩
    ·rw[if_neg l2]at h2
     exact h2.elim
theorem Fc (s:Bs) (a:Nat) (hs:s.length≤1000000000000) (ha:a≤s.length):Eng.Spec Tryz.prog 119 [] [.str s,.int .i64 a] (fun h r ar=>h=[(RD,.var (aW s a 0 a))]∧r=.ab RD 0∧ar=[.undef,.undef]):=by
 refine Cod.Fe (fun E R hN hR=>?_)
 have e:max (0:Int) (min (a:Int) (s.length:Int))=a:=by omega
 refine au e ?_
 exact hR.le (by simp(disch:=omega)only[go_sem,simprocAttr,aW,numAt]) ⟨rfl,rfl,rfl⟩
set_option maxHeartbeats 1000000 in
theorem PS (s:Bs) (o most:Nat) (hs:s.length≤1000000000) (ho:o≤s.length) (hm:most≤65536) :
    aM Tryz.prog 70 [.str s,.int .i64 o,.int .i64 most] (.ai [.str (dU (s.drop o) most).1,.int .i64 ((dU (s.drop o) most).2.1:Nat),.int .i64 ((dU (s.drop o) most).2.2:Nat)]):=by
 refine Cod.PU (fun E R hN hR=>?_)
 have htl:(s.drop o).length=s.length-o:=List.length_drop
 have oG:=Fc s o (by omega) ho
 have hr0:bI s o 0 (8*o+0):=⟨by omega,ho,by omega⟩
 have hrun:=RJ s o most o 0 ⟨0,[],0⟩ hs ho (by omega) hr0 (by simp) rfl
 unfold dU at hR
 simp only at hR
 generalize hF:fC (s.drop o) most ⟨0,[],0⟩=F at *
 refine wW ?_
 refine gG ?_
 refine aU [] oG trivial (fun _=>rfl) ?_
 rintro h' v as' ⟨rfl,rfl,rfl⟩
 refine⟨cm,rfl,?_⟩
 refine wW ?_
 refine kC ⟨[(33,.ab 65032 0),(9,.ab 65032 0)],aV s o most o 0 []⟩ (.la 65032 1 60022 1 [.ab 40014 0,.aj,.int .i64 most] rfl rfl rfl (.le ?_)) rfl ?_
 ·exact bz
 refine aU (aV s o most o 0 []) hrun bz nofun ?_
 rintro h' v ar ⟨⟨a3,hv3,out3,rfl,rfl,hPI⟩,rfl⟩
 refine⟨bz,rfl,?_⟩
 by_cases he:F.err=0
 ·obtain⟨rfl,hr3⟩:=hPI he
  rw[if_neg (by simpa using he)]at hR
  have hu:=aoe s a3 hv3 o (8*o+F.p) (by omega) hr3 (by omega)
  have e1:(8*o+F.p+7)/8-o=(F.p+7)/8:=by omega
  rw[e1]at hu
  simp only[aW]at hu
  simp(disch:=omega)only[go_sem,simprocAttr,he,aV,aW]
  refine lK [] vV hu trivial (fun _=>rfl) ?_
  rintro h' v ar ⟨rfl,rfl,rfl⟩
  refine⟨rfl,rfl,?_⟩
  refine wW ?_
  exact hR.wk (h':=[]) (r':=.ai [.str F.out,.int .i64 ((F.p+7)/8:Nat),.int .i64 (0:Nat)]) (ar':=[.undef,.undef,.undef]) rfl (.le vV) ⟨rfl,rfl⟩
 ·rw[if_pos he]at hR
  have hi:¬((F.err:Nat):Int)=0:=by omega
  refine au hi ?_
  exact hR.wk (h':=[]) (r':=.ai [.str [],.int .i64 (0:Nat),.int .i64 (F.err:Nat)]) (ar':=[.undef,.undef,.undef]) rfl (.le vV) ⟨rfl,rfl⟩
open Eng Sh
set_option maxRecDepth 10000
theorem xZ {t:Bs} {most:Nat}:∀(k:Nat) (S:SS),Mv t most S (lu t most k S)
 | 0,_=>.refl
 | k+1,S=>by
  unfold lu
  split
  ·exact j7.1
  ·exact j7.1.trans (xZ k _)
theorem rh (t:Bs) (most:Nat):(dU t most).1.length≤most∧(dU t most).2.1≤t.length:=by
 unfold dU
 simp only
 have h:=xZ (t:=t) (most:=most) (8*t.length+1-0) ⟨0,[],0⟩
 have h1:(fC t most ⟨0,[],0⟩).p≤8*t.length:=h.q (by simp)
 have h2:(fC t most ⟨0,[],0⟩).out.length≤most:=h.o (by simp)
 split
 ·exact⟨by simp,by simp⟩
 ·exact⟨h2,by simp only;omega⟩
def fX (t:Bs) (most:Nat):Bs×Nat×Nat:=
 if t.length<2 then([],0,6)else if iP (t.getD 0 0).toNat (t.getD 1 0).toNat=false then([],0,3)else
 if(dU (t.drop 2) most).2.2≠0 then([],0,(dU (t.drop 2) most).2.2)else
 if t.length-(2+(dU (t.drop 2) most).2.1)<4 then([],0,6)else
 if eY ((t.drop (2+(dU (t.drop 2) most).2.1)).take 4)≠fY (dU (t.drop 2) most).1 then([],0,5)else((dU (t.drop 2) most).1,(dU (t.drop 2) most).2.1+6,0)
theorem tf (t:Bs) (most:Nat):(fX t most).1.length≤most∧(fX t most).2.1≤t.length:=by
 have h:=rh (t.drop 2) most
 rw[List.length_drop]at h
 unfold fX
 split
 ·exact⟨by simp,by simp⟩
 ·split
  ·exact⟨by simp,by simp⟩
  ·split
   ·exact⟨by simp,by simp⟩
   ·split
    ·exact⟨by simp,by simp⟩
    ·split
     ·exact⟨by simp,by simp⟩
     ·exact⟨h.1,by simp only;omega⟩
abbrev zV (Z:Bs×Nat×Nat):AV:=.ai [.str Z.1,.int .i64 (Z.2.1:Nat),.int .i64 (Z.2.2:Nat)]
set_option maxHeartbeats 1000000 in
theorem auh (s:Bs) (o most:Nat) (hs:s.length≤1000000) (ho:o≤s.length) (hm:most≤65536):aM Tryz.prog 39 [.str s,.int .i64 o,.int .i64 most] (zV (fX (s.drop o) most)):=by
 refine Cod.aui (fun E R hN hR=>?_)
 unfold fX at hR
 have hdl:(s.drop o).length=s.length-o:=List.length_drop
 rw[hdl]at hR
 by_cases h2:s.length-o<2
 ·rw[if_pos h2]at hR
  have hi:(s.length:Int)-(o:Int)<2:=by omega
  refine au hi ?_
  refine bF hi ?_
  exact hR.ro ⟨rfl,rfl⟩
 ·rw[if_neg h2]at hR
  have hi:¬(s.length:Int)-(o:Int)<2:=by omega
  have gd:∀i,(s.drop o).getD i 0=s.getD (o+i) 0:=fun i=>by rw[List.getD_eq_getElem?_getD,List.getElem?_drop,←List.getD_eq_getElem?_getD]
  rw[gd,gd,Nat.add_zero]at hR
  have hh:=atL (s.getD o 0) (s.getD (o+1) 0)
  by_cases hb:iP (s.getD o 0).toNat (s.getD (o+1) 0).toNat=false
  ·rw[if_pos hb]at hR
   rw[hb]at hh
   refine au hi ?_
   refine bF hi ?_
   refine aA hh rfl rfl ?_
   refine wW ?_
   exact hR.ro ⟨rfl,rfl⟩
  ·rw[if_neg hb]at hR
   rw[show iP (s.getD o 0).toNat (s.getD (o+1) 0).toNat=true by simpa using hb]at hh
   have hinf:=PS s (o+2) most (by omega) (by omega) hm
   have hil:=rh (s.drop (o+2)) most
   rw[List.drop_drop]at hR
   generalize dU (s.drop (o+2)) most=I at *
   rw[List.length_drop]at hil
   refine au hi ?_
   refine bF hi ?_
   refine aA hh rfl rfl ?_
   refine wW ?_
   refine aA hinf rfl rfl ?_
   by_cases he:I.2.2=0
   ·rw[if_neg (by simpa using he)]at hR
    by_cases h4:s.length-o-(2+I.2.1)<4
    ·rw[if_pos h4]at hR
     have hj:(s.length:Int)-((o:Int)+2+(I.2.1:Int))<4:=by omega
     refine bo he hj ?_
     exact hR.ro ⟨rfl,rfl⟩
    ·rw[if_neg h4]at hR
     have hj:¬(s.length:Int)-((o:Int)+2+(I.2.1:Int))<4:=by omega
     rw[List.drop_drop]at hR
     have e1:o+(2+I.2.1)=o+2+I.2.1:=by omega
     rw[e1]at hR
     generalize hu:(s.drop (o+2+I.2.1)).take 4=u at *
     have hul:u.length=4:=by rw[←hu,List.length_take,List.length_drop];omega
     have hfb:=KL u (by omega)
     have had:=Cb I.1 (by omega)
     have hal:=tm I.1
     have hbl:eY u<4294967296:=by
      have:=qk u 4 (by omega)
      rw[List.take_of_length_le (by omega)]at this
      exact this
     have et:((o:Int)+2+(I.2.1:Int)).toNat=o+2+I.2.1:=by omega
     have et4:((o:Int)+2+(I.2.1:Int)+4).toNat-(o+2+I.2.1)=4:=by omega
     refine cO he hj et et4 hu ?_
     refine aA hfb rfl rfl ?_
     refine wW ?_
     refine aA had rfl rfl ?_
     generalize eY u=x at *
     generalize fY I.1=y at *
     by_cases hxy:x=y
     ·rw[if_neg (by simpa using hxy)]at hR
      have hi:((x:Nat):Int)=(y:Int):=by omega
      refine au hi ?_
      exact hR.ro ⟨rfl,rfl⟩
     ·rw[if_pos hxy]at hR
      have hi:¬((x:Nat):Int)=(y:Int):=by omega
      refine au hi ?_
      exact hR.ro ⟨rfl,rfl⟩
   ·rw[if_pos he]at hR
    have hj:¬((I.2.2:Nat):Int)=0:=by omega
    refine au hj ?_
    exact hR.ro ⟨rfl,rfl⟩
set_option maxHeartbeats 1000000 in
theorem ahr (s:Bs) (o most:Nat) (hs:s.length≤1000000) (ho:o≤s.length) (hm:most≤65536):aM Tryz.prog 24 [.str s,.int .i64 o,.int .i64 most] (zV (fX (s.drop o) most)):=by
 refine Cod.ahs (fun E R hN hR=>?_)
 unfold fX at hR
 have hdl:(s.drop o).length=s.length-o:=List.length_drop
 rw[hdl]at hR
 by_cases h2:s.length-o<2
 ·rw[if_pos h2]at hR
  have hi:(s.length:Int)-(o:Int)<2:=by omega
  refine au hi ?_
  refine bF hi ?_
  exact hR.ro ⟨rfl,rfl⟩
 ·rw[if_neg h2]at hR
  have hi:¬(s.length:Int)-(o:Int)<2:=by omega
  have gd:∀i,(s.drop o).getD i 0=s.getD (o+i) 0:=fun i=>by rw[List.getD_eq_getElem?_getD,List.getElem?_drop,←List.getD_eq_getElem?_getD]
  rw[gd,gd,Nat.add_zero]at hR
  have hx1:=(s.getD o 0).toNat_lt
  have hx2:=(s.getD (o+1) 0).toNat_lt
  have hh:=ag2 (s.getD o 0).toNat (s.getD (o+1) 0).toNat (s.getD o 0).toNat_lt (s.getD (o+1) 0).toNat_lt
  by_cases hb:iP (s.getD o 0).toNat (s.getD (o+1) 0).toNat=false
  ·rw[if_pos hb]at hR
   rw[hb]at hh
   refine au hi ?_
   refine bF hi ?_
   refine aA hh rfl rfl ?_
   refine wW ?_
   exact hR.ro ⟨rfl,rfl⟩
  ·rw[if_neg hb]at hR
   rw[show iP (s.getD o 0).toNat (s.getD (o+1) 0).toNat=true by simpa using hb]at hh
   have hinf:=ae9 s (o+2) most (by omega) (by rw[List.length_drop];omega) (by omega) hm
   have hil:=rh (s.drop (o+2)) most
   rw[List.drop_drop]at hR
   generalize dU (s.drop (o+2)) most=I at *
   rw[List.length_drop]at hil
   refine au hi ?_
   refine bF hi ?_
   refine aA hh rfl rfl ?_
   refine wW ?_
   refine aA hinf rfl rfl ?_
   by_cases he:I.2.2=0
   ·rw[if_neg (by simpa using he)]at hR
    have hdr:(s.drop (o+2+I.2.1)).length=s.length-(o+2+I.2.1):=List.length_drop
    have et:((o:Int)+2+(I.2.1:Int)).toNat=o+2+I.2.1:=by omega
    rw[List.drop_drop]at hR
    have e1:o+(2+I.2.1)=o+2+I.2.1:=by omega
    rw[e1]at hR
    generalize hrr:s.drop (o+2+I.2.1)=rr at *
    by_cases h4:s.length-o-(2+I.2.1)<4
    ·rw[if_pos h4]at hR
     refine cN he et hrr ?_
     exact hR.ro ⟨rfl,rfl⟩
    ·rw[if_neg h4]at hR
     generalize hu:rr.take 4=u at *
     have hul:u.length=4:=by rw[←hu,List.length_take];omega
     have had:=aj6 I.1 (by omega)
     have hal:=tm I.1
     have hbg:=akh (fY I.1) 4 (by omega) (by omega)
     have hbf:=Eb u hul (fY I.1) hal
     refine cN he et hrr ?_
     refine aA had rfl rfl ?_
     refine wW ?_
     refine aA hbg rfl rfl ?_
     generalize eY u=x at *
     by_cases hxy:x=fY I.1
     ·rw[if_neg (by simpa using hxy)]at hR
      have hi:=hbf.1 hxy
      refine bo hu hi ?_
      exact hR.ro ⟨rfl,rfl⟩
     ·rw[if_pos hxy]at hR
      have hi:¬u=(fx (fY I.1) 4).reverse:=fun h=>hxy (hbf.2 h)
      refine bo hu hi ?_
      exact hR.ro ⟨rfl,rfl⟩
   ·rw[if_pos he]at hR
    have hj:¬((I.2.2:Nat):Int)=0:=by omega
    refine au hj ?_
    exact hR.ro ⟨rfl,rfl⟩
end Go.Proofs.YtlkmppkcbhodaaaGreatDoor.Pk
