/- The proof, part 29 of 34. -/
import Derived.Test.YtlkmppkcbhodaaaGreatDoorLooseWritesZB
import Derived.Test.YtlkmppkcbhodaaaGreatDoorProg
import Derived.KernelRfl
set_option linter.all false
namespace Go.Proofs.YtlkmppkcbhodaaaGreatDoor.Pk
open Eng
set_option maxRecDepth 10000
theorem uD (most back n:Nat) (S:SS):backS most back (n+1) S=if S.err≠0 then S else backS most back n (cZ most (S.out.getD (S.out.length-back) 0) S):=rfl
theorem EO (most back:Nat) {S:SS} (h:S.err≠0):∀n,backS most back n S=S
 | 0=>rfl
 | n+1=>by rw[uD,if_pos h]
theorem X8:∀i,i≤28→(aQ i).1≤300∧(aQ i).2≤8:=by decide +kernel
theorem Jk:∀i,i≤29→(bu i).1≤40000∧(bu i).2≤15∧1≤(bu i).1:=by decide +kernel
set_option maxHeartbeats 2000000 in
theorem Tk (s:Bs) (o most a hv:Nat) (S:SS) (d:List Nat) (sy:Nat) (hs:s.length≤1000000000) (ho:o≤s.length) (hm:most≤1000000) (hr:bO s a hv (8*o+S.p)) (hol:S.out.length≤most) (he:S.err=0)
    (hd:∀n∈d,n≤15) (hdl:d.length≤320) (hdc:bm d=true) (hsy:257≤sy) (hsy2:sy≤400) :
    Eng.Spec Tryz.prog 166 (aW s o most a hv S.out) [.ab fk 0,.int .i64 sy,bn d] (fun h' v ar=>PI s o most (c8 (s.drop o) most d sy S) h' v∧ar=[.ab fk 0,.int .i64 sy,bn d]):=by
 refine Cod.Tl (fun E R hN hR=>?_)
 have htl:(s.drop o).length=s.length-o:=List.length_drop
 by_cases h285:285<sy
 ·have hF:c8 (s.drop o) most d sy S={S with err:=3}:=by unfold c8;rw[if_pos h285,eJ he]
  rw[hF]at hR
  refine jr ?_
  refine gG ?_
  exact hR.le (h':=aW s o most a hv S.out) bD ⟨iJ ⟨a,hv,S,rfl,hr,hol,rfl,fun h=>absurd h (by simp)⟩,rfl⟩
 ·have elen:(sy:Int)-257=((sy-257:Nat):Int):=by omega
  have hlt:=X8 (sy-257) (by omega)
  have hlenb:=xE (sy-257) (by omega)
  have hrep:c8 (s.drop o) most d sy S=(let a:=aH (s.drop o) (aQ (sy-257)).2 S
   let k:=aU (s.drop o) d a.2
   if k.2.err≠0 then k.2 else if 29<k.1 then b9 3 k.2 else
   let b:=aH (s.drop o) (bu k.1).2 k.2
   let back:=(bu k.1).1+b.1
   if b.2.err≠0 then b.2 else if b.2.out.length<back then b9 3 b.2 else backS most back ((aQ (sy-257)).1+a.1) b.2):=by unfold c8;rw[if_neg h285]
  rw[hrep]at hR
  clear hrep
  simp only at hR
  generalize aQ (sy-257)=lb at *
  simp(disch:=omega)only[go_sem,simprocAttr,aW,bn,elen]
  refine bQ elen ?_
  refine aE hlenb rfl rfl ?_
  refine wW ?_
  have hbits:=pX s a hv o (8*o+S.p) lb.2 (by omega) hr (by omega)
  rw[su,←pN]at hbits
  refine aJ [(RD,.var (aZ s a hv o))] hbits vV nofun ?_
  rintro h' v ar ⟨a1,hv1,hr1,rfl,rfl,rfl⟩
  by_cases hf1:lb.2≤8*(s.drop o).length-S.p
  ·rw[if_pos hf1]at hr1
   rw[if_pos hf1,decide_eq_true hf1]
   have hpl:S.p+lb.2≤8*(s.drop o).length:=by have:=hr.h2;have:=hr.h3;omega
   rw[ez he hpl]at hR
   simp only at hR
   have hnl:=fE (s.drop o) S.p lb.2
   have hn256:2^lb.2≤2^8:=Nat.pow_le_pow_right (by decide) hlt.2
   generalize numAt (s.drop o) S.p lb.2=x1 at *
   refine⟨cn,rfl,?_⟩
   have dv:=rW d hd hdl hdc s a1 hv1 o (8*o+S.p+lb.2) (by omega) hr1
   rw[Nat.add_assoc,←s9]at dv
   simp only[bn]at dv
   generalize hre:readL (aO d) (aR (s.drop o) (S.p+lb.2))=re at *
   refine wW ?_
   refine aJ [(RD,.var (aZ s a1 hv1 o))] dv vV nofun ?_
   rintro h' v ar ⟨a2,hv2,p2,k,hr2,rfl,rfl,hk,rfl⟩
   refine⟨cn,rfl,?_⟩
   by_cases hre2:re.2.2=0
   ·obtain⟨rfl,rfl⟩:=hk hre2
    have hsym:aU (s.drop o) d {S with p:=S.p+lb.2}=(re.1,{S with p:=S.p+lb.2+re.2.1}):=by rw[←hre];exact lY he (by rw[hre];exact hre2)
    rw[hsym]at hR
    simp only at hR
    rw[if_neg (by simpa using he)]at hR
    have hr2':bO s a2 hv2 (8*o+(S.p+lb.2+re.2.1)):=by rw[show 8*o+(S.p+lb.2+re.2.1)=8*o+(S.p+lb.2)+re.2.1 by omega];exact hr2
    generalize hp2:S.p+lb.2+re.2.1=p2 at *
    have hklt:re.1≤400:=by
     have:=lR (aO d) (aR (s.drop o) (S.p+lb.2)) (by rw[hre];exact hre2)
     rw[hre]at this
     have hcl:(aO d).length=d.length:=by simp[aO]
     omega
    generalize re.1=k at *
    by_cases h29:29<k
    ·rw[if_pos h29,eJ (by exact he)]at hR
     refine aw hre2 ?_
     exact hR.le (h':=aW s o most a2 hv2 S.out) bD ⟨iJ ⟨a2,hv2,{S with p:=p2},rfl,hr2',hol,rfl,fun h=>absurd h (by simp)⟩,rfl⟩
    ·rw[if_neg h29]at hR
     have hdt:=Jk k (by omega)
     have hdb:=xz k (by omega)
     generalize bu k=db at *
     have hbits2:=pX s a2 hv2 o (8*o+p2) db.2 (by omega) hr2' (by omega)
     rw[su,←pN]at hbits2
     refine aw hre2 ?_
     refine aE hdb rfl rfl ?_
     refine wW ?_
     refine aJ [(RD,.var (aZ s a2 hv2 o))] hbits2 vV nofun ?_
     rintro h' v ar ⟨a3,hv3,hr3,rfl,rfl,rfl⟩
     by_cases hf2:db.2≤8*(s.drop o).length-p2
     ·rw[if_pos hf2]at hr3
      rw[if_pos hf2,decide_eq_true hf2]
      have hpl2:p2+db.2≤8*(s.drop o).length:=by have:=hr2'.h2;have:=hr2'.h3;omega
      rw[ez (by exact he) hpl2]at hR
      simp only at hR
      rw[if_neg (by simpa using he)]at hR
      have hn2:=fE (s.drop o) p2 db.2
      have hn15:2^db.2≤2^15:=Nat.pow_le_pow_right (by decide) hdt.2.1
      generalize numAt (s.drop o) p2 db.2=x2 at *
      refine⟨cn,rfl,?_⟩
      refine wW ?_
      by_cases hbk:S.out.length<db.1+x2
      ·have hbi:(S.out.length:Int)<(db.1:Int)+(x2:Int):=by omega
       rw[if_pos (by exact hbk),eJ (by exact he)]at hR
       refine aw hbi ?_
       exact hR.le (h':=aW s o most a3 hv3 S.out) bD ⟨iJ ⟨a3,hv3,{S with p:=p2+db.2},rfl,by show bO s a3 hv3 (8*o+(p2+db.2));rw[←Nat.add_assoc];exact hr3,hol,rfl,fun h=>absurd h (by simp)⟩,rfl⟩
      ·have hbi:¬(S.out.length:Int)<(db.1:Int)+(x2:Int):=by omega
       rw[if_neg (by exact hbk)]at hR
       generalize hbb:db.1+x2=back at *
       have hb1:1≤back:=by omega
       have ebk:(db.1:Int)+(x2:Int)=(back:Int):=by omega
       have eln:(lb.1:Int)+(x1:Int)=((lb.1+x1:Nat):Int):=by omega
       have hln:lb.1+x1≤1000:=by omega
       rw[ebk,eln]
       generalize lb.1+x1=n at *
       rw[ebk]at hbi
       refine aw hbi ?_
       refine a7 hN (fun z:Nat×Bs=>⟨[(0,.ab 65032 0),(13,.int .i64 back),(79,.int .i64 n),(80,.int .i64 z.1),(2000000,.ab 65032 0),(2000001,.int .i64 sy),(2000002,.au (.agg (dZ d)))],aW s o most a3 hv3 z.2⟩)
        (fun z=>z.1≤n∧z.2.length≤most∧back≤z.2.length∧backS most back (n-z.1) ⟨p2+db.2,z.2,S.err⟩=backS most back n ⟨p2+db.2,S.out,S.err⟩) (fun z=>n-z.1) (0,S.out) (.le bD) ⟨by simp,hol,by simp only;omega,rfl⟩ ?_
       rintro⟨j,out⟩ R1 ⟨hj,hjo,hjb,hjF⟩ hR1
       simp only at hj hjo hjb hjF
       by_cases hjn:j<n
       ·have ej:n-j=(n-j-1)+1:=by omega
        rw[ej,uD,if_neg (by simpa using he)]at hjF
        unfold cZ at hjF
        rw[if_neg (by simpa using he)]at hjF
        simp only at hjF
        have eidx:(out.length:Int)-(back:Int)=((out.length-back:Nat):Int):=by omega
        generalize hcc:out.getD (out.length-back) 0=c at *
        have hput:=xK s o most a3 hv3 out hm hjo c
        refine jr ?_
        rw[hcc]
        refine aJ (aW s o most a3 hv3 out) hput bD nofun ?_
        rintro h' v ar ⟨rfl,rfl,rfl⟩
        refine⟨bD,rfl,?_⟩
        by_cases hfull:out.length=most
        ·rw[if_pos hfull,if_pos hfull]
         rw[if_pos (by omega),EO _ _ (by simp)]at hjF
         rw[←hjF]at hR
         refine jr ?_
         exact hR.le (h':=aW s o most a3 hv3 out) bD ⟨⟨a3,hv3,out,rfl,rfl,fun h=>absurd h (by simp)⟩,rfl⟩
        ·rw[if_neg hfull,if_neg hfull]
         rw[if_neg (by omega)]at hjF
         refine jr ?_
         exact hR1 (j+1,out++[c]) _ (by simp only;omega) ⟨by simp only;omega,by simp only[List.length_append,List.length_singleton];omega,by simp only[List.length_append,List.length_singleton];omega,by simp only;rw[show n-(j+1)=n-j-1 by omega];exact hjF⟩ (.le bD)
       ·obtain rfl:j=n:=by omega
        rw[Nat.sub_self]at hjF
        rw[←hjF]at hR
        refine jr ?_
        exact hR.le (h':=aW s o most a3 hv3 out) bD ⟨⟨a3,hv3,out,rfl,by show _=AV.int .i64 ((S.err:Nat):Int);rw[he];rfl,fun _=>⟨rfl,by show bO s a3 hv3 (8*o+(p2+db.2));rw[←Nat.add_assoc];exact hr3⟩⟩,rfl⟩
     ·rw[if_neg hf2]at hr3
      rw[if_neg hf2,decide_eq_false hf2]
      rw[jJ (by exact he) (by simp only;omega)]at hR
      simp only at hR
      rw[if_pos (by decide)]at hR
      refine⟨cn,rfl,?_⟩
      refine wW ?_
      exact hR.le (h':=aW s o most a3 hv3 S.out) bD ⟨iJ ⟨a3,hv3,{S with p:=p2},rfl,hr3,hol,rfl,fun h=>absurd h (by simp)⟩,rfl⟩
   ·have hsym:aU (s.drop o) d {S with p:=S.p+lb.2}=(0,{S with p:=S.p+lb.2,err:=re.2.2}):=by rw[←hre];exact nr he (by rw[hre];exact hre2)
    rw[hsym]at hR
    simp only at hR
    rw[if_pos hre2]at hR
    have hi:¬((re.2.2:Nat):Int)=0:=by omega
    refine aw hi ?_
    exact hR.le (h':=aW s o most a2 hv2 S.out) bD ⟨⟨a2,hv2,S.out,rfl,rfl,fun h=>absurd h hre2⟩,rfl⟩
  ·rw[if_neg hf1]at hr1
   rw[if_neg hf1,decide_eq_false hf1]
   rw[jJ he (by omega)]at hR
   simp only at hR
   rw[BS (by simp)]at hR
   simp only at hR
   rw[if_pos (by decide)]at hR
   refine⟨cn,rfl,?_⟩
   refine wW ?_
   exact hR.le (h':=aW s o most a1 hv1 S.out) bD ⟨iJ ⟨a1,hv1,S,rfl,hr1,hol,rfl,fun h=>absurd h (by simp)⟩,rfl⟩
open Eng
set_option maxRecDepth 10000
set_option maxHeartbeats 2000000 in
theorem xC:aP Tryz.prog 134 [] (.aj [bn bl,bn bT]):=by
 refine Cod.Rp (fun E R hN hR=>?_)
 refine wW ?_
 refine a7 hN (fun i:Nat=>⟨[(2,.sl 66022 0 i),(3,.al),(9,.int .i64 i)],[(66022,.arr 1 (an (bN fixF i)))]⟩) (fun i=>i≤288) (fun i=>288-i) 0 (.nil 2 66022 1 rfl (.le (jq @lZ @hU))) (by omega) ?_
 rintro i R1 hi hR1
 have hul:=fY fixF i
 have hnl:=bV (bN fixF i)
 by_cases hlt:i<288
 ·have hus:=jU fixF i
  have hsb:aL (an (bN fixF i)) 0 i=an (bN fixF i):=by
   have:=ft (xs:=bN fixF i);rw[hul]at this;exact this
  refine wW ?_
  refine da hN (fun _:Unit=>⟨[(2,.sl 66022 0 i),(3,.al),(4,.int .i64 i),(9,.int .i64 i),(15,.bool (decide (i<144∨280≤i)))],[(66022,.arr 1 (an (bN fixF i)))]⟩) (fun _=>True) (fun R2 hR2=>?_) (fun _ _=>?_)
  ·by_cases h1:i<144
   ·rw[decide_eq_true (.inl h1)]at hR2
    refine wW ?_
    refine gG ?_
    exact hR2 () _ trivial (.le vV)
   ·by_cases h2:280≤i
    ·rw[decide_eq_true (.inr h2)]at hR2
     refine wW ?_
     refine gG ?_
     exact hR2 () _ trivial (.le vV)
    ·rw[decide_eq_false (by omega)]at hR2
     refine wW ?_
     refine gG ?_
     exact hR2 () _ trivial (.le vV)
  ·by_cases h8:i<144∨280≤i
   ·have hf:fixF i=8:=by unfold fixF;rw[if_neg (by omega),if_neg (by omega)]
    rw[hf]at hus
    rw[decide_eq_true h8]
    refine bH @fe hsb ?_
    exact hR1 (i+1) _ (by omega) (by omega) (.le (by rw[hus,←fc];exact vV))
   ·rw[decide_eq_false h8]
    by_cases h9:i<256
    ·have hf:fixF i=9:=by unfold fixF;rw[if_neg (by omega),if_pos (by omega)]
     rw[hf]at hus
     refine bH @fe hsb ?_
     exact hR1 (i+1) _ (by omega) (by omega) (.le (by rw[hus,←fc];exact vV))
    ·have hf:fixF i=7:=by unfold fixF;rw[if_pos (by omega)]
     rw[hf]at hus
     refine bH @fe hsb ?_
     exact hR1 (i+1) _ (by omega) (by omega) (.le (by rw[hus,←fc];exact vV))
 ·obtain rfl:i=288:=by omega
  refine wW ?_
  refine a7 hN (fun i:Nat=>⟨[(2,.sl 66022 0 288),(3,.sl 66034 0 i),(30,.int .i64 i)],[(66022,.arr 1 (an (bN fixF 288))),(66034,.arr 1 (an (bN (fun _=>5) i)))]⟩) (fun i=>i≤32) (fun i=>32-i) 0 (.nil 3 66034 1 rfl (.le (jq @lZ @hU))) (by omega) ?_
  rintro i R2 hi hR2
  have hul2:=fY (fun _=>5) i
  have hnl2:=bV (bN (fun _=>5) i)
  by_cases hlt:i<32
  ·have hus:=jU (fun _=>5) i
   have hsb:aL (an (bN (fun _=>5) i)) 0 i=an (bN (fun _=>5) i):=by
    have:=ft (xs:=bN (fun _=>5) i);rw[hul2]at this;exact this
   refine bH @fe hsb ?_
   exact hR2 (i+1) _ (by omega) (by omega) (.le (by rw[hus,←fc];exact vV))
  ·obtain rfl:i=32:=by omega
   rw[wH]at *
   rw[wG]at *
   have e1:aL (an bl) 0 288=an bl:=by rw[←iA.2.1];exact ft
   have e2:aL (an bT) 0 32=an bT:=by rw[←iy.2.1];exact ft
   have n1:=pg bl iA.1 (by rw[iA.2.1];decide)
   have n2:=pg bT iy.1 (by rw[iy.2.1];decide)
   rw[if_pos iA.2.2]at n1
   rw[if_pos iy.2.2]at n2
   generalize bl=l at *
   generalize bT=d at *
   refine wW ?_
   refine jx ⟨[(37,.ro 1 (an l)),(3,.ro 1 (an d))],[]⟩ (.bK 66022 (.bK 66034 (.le (jq e1 e2)))) rfl ?_
   refine wW ?_
   refine fy n1 rfl ?_
   rintro h' v as' ⟨rfl,rfl⟩
   refine⟨rfl,rfl,?_⟩
   simp(disch:=omega)only[go_sem,simprocAttr,bn]
   refine fy n2 rfl ?_
   rintro h' v as' ⟨rfl,rfl⟩
   refine⟨rfl,rfl,?_⟩
   simp(disch:=omega)only[go_sem,simprocAttr,bn]
   exact hR.le vV ⟨rfl,rfl⟩
def yZ:AV:=.agg (an eA)
theorem Sm:aP Tryz.prog 188 [] yZ:=by
 refine Cod.Sn (fun E R hN hR=>?_)
 refine wW ?_
 exact hR.le vV ⟨rfl,rfl⟩
end Go.Proofs.YtlkmppkcbhodaaaGreatDoor.Pk
namespace Go.Proofs.YtlkmppkcbhodaaaGreatDoor.Pk
section
variable {t:Bs} {S:SS}
theorem y0 {e:Nat}:(b9 e S).out=S.out:=by unfold b9;split<;>rfl
theorem pQ {n:Nat}:(aH t n S).2.out=S.out:=by
 unfold aH
 split
 ·rfl
 ·split<;>rfl
theorem y7 {l:List Nat}:(aU t l S).2.out=S.out:=by
 unfold aU
 split
 ·rfl
 ·split<;>rfl
theorem y8 {l:List Nat} {s:Nat}:(bR t l s S).2.2.out=S.out:=by
 unfold bR
 split
 ·split
  ·exact y0
  ·exact pQ
 ·split
  ·exact pQ
  ·split
   ·exact pQ
   ·rfl
theorem y5 {N:Nat} {l:List Nat} {b:Nat×Nat×SS}:(ck N l b).out=b.2.2.out:=by
 unfold ck
 split
 ·exact y0
 ·rfl
end
theorem lO {t:Bs} {nc:Nat}:∀(k:Nat) (l:List Nat) (S:SS),(firstS t nc k l S).2.out=S.out
 | 0,_,_=>rfl
 | k+1,l,S=>by
  rw[mu]
  split
  ·rfl
  ·rw[lO k,pQ]
theorem pP {t:Bs} {fl:List Nat} {N:Nat}:∀(k:Nat) (l:List Nat) (S:SS),(cY t fl N k l S).2.out=S.out
 | 0,_,_=>rfl
 | k+1,l,S=>by
  rw[lF]
  split
  ·rfl
  ·split
   ·simp only;rw[y5,y8,y7]
   ·rw[pP k,y5,y8,y7]
theorem JI (t:Bs) (S:SS):(cf t S).2.out=S.out:=by
 rw[oE]
 split
 ·rfl
 ·split
  ·rfl
  ·unfold eK
   split
   ·simp only;rw[lO]
   ·split
    ·simp only;rw[lO]
    ·unfold ku
     split
     ·simp only;rw[pP,lO]
     ·split
      ·simp only;rw[pP,lO]
      ·simp only;rw[pP,lO]
open Eng
set_option maxRecDepth 10000
def tB:AV:=.lit (.pointer none)
def PT (s:Bs) (o most:Nat) (out:Bs) (D:(List Nat×List Nat)×SS) (h':HP) (v:AV):Prop:=
 ∃a' hv',h'=aW s o most a' hv' out∧(D.2.err≠0→v=.aj [tB,tB,.int .i64 (D.2.err:Nat)]) ∧
  (D.2.err=0→v=.aj [bn D.1.1,bn D.1.2,.int .i64 (0:Nat)]∧bO s a' hv' (8*o+D.2.p)∧bm D.1.1=true∧bm D.1.2=true∧(∀n∈D.1.1,n≤15)∧(∀n∈D.1.2,n≤15)∧D.1.1.length≤286∧D.1.2.length≤320)
abbrev QT (R:HP→AV→List AV→Prop):KQ:=KQ.post [.tmp 2,.tmp 3,.tmp 4] 1 R
abbrev CH (R1 RX:KS) (R:HP→AV→List AV→Prop):KQ:=KQ.cS 3 (KQ.eQ R1 (KQ.cS 2 (KQ.eQ RX (QT R))))
abbrev l8 (s:Bs) (o most:Nat) (out:Bs) (D:(List Nat×List Nat)×SS):HP→AV→List AV→Prop:=fun h' v ar=>PT s o most out D h' v∧ar=[.ab fk 0]
theorem ji {s:Bs} {o most:Nat} {out:Bs} {D:(List Nat×List Nat)×SS} {R:HP→AV→List AV→Prop} (hR:cV (l8 s o most out D) R) (e:Nat) (he:D.2.err=e) (hne:e≠0) (a' hv':Nat) {h:HP} (hh:eL h (aW s o most a' hv' out)) :
    R h (.aj [.lit (.pointer none),.lit (.pointer none),.int .i64 (e:Nat)]) [.ab 65032 0]:=
 hR.le (h':=aW s o most a' hv' out) hh ⟨⟨a',hv',rfl,fun _=>by rw[he];rfl,fun h=>absurd h (by rw[he];exact hne)⟩,rfl⟩
theorem pW (s:Bs) (o p a hv n:Nat) (hs:s.length≤1000000000) (h:bO s a hv (8*o+p)) (hn:n≤32):Eng.Spec Tryz.prog 161 [(RD,.var (aZ s a hv o))] [.ab RD 0,.int .i64 n]
    (fun h' v ar=>∃a' hv',bO s a' hv' (8*o+(if n≤8*(s.drop o).length-p then p+n else p))∧h'=[(RD,.var (aZ s a' hv' o))]∧v=.aj [.int .u32 (if n≤8*(s.drop o).length-p then numAt (s.drop o) p n else 0:Nat),.bool (decide (n≤8*(s.drop o).length-p))]∧ar=[.ab RD 0,.int .i64 n]):=by
 have hb:=pX s a hv o (8*o+p) n (by omega) h hn
 rw[su,←pN]at hb
 rw[show 8*o+(if n≤8*(s.drop o).length-p then p+n else p)=(if n≤8*(s.drop o).length-p then 8*o+p+n else 8*o+p)by split<;>omega]
 exact hb
theorem xk (l:List Nat) (hl:∀n∈l,n≤15) (hn:l.length≤320):∃(x:AV) (e:Nat),Eng.Spec Tryz.prog 176 [] [.ro 1 (an l)] (fun h r _=>h=[]∧r=.aj [x,.int .i64 (e:Nat)])∧((bm l=true∧x=bn l∧e=0)∨(bm l=false∧x=.lit (.pointer none)∧e=4)):=by
 have n1:=pg l hl hn
 by_cases hc:bm l=true
 ·rw[if_pos hc]at n1
  exact⟨_,0,n1,.inl ⟨hc,rfl,rfl⟩⟩
 ·rw[if_neg hc]at n1
  exact⟨_,4,n1,.inr ⟨by simpa using hc,rfl,rfl⟩⟩
set_option maxHeartbeats 2000000 in
theorem UN (s:Bs) (o most a hv:Nat) (out:Bs) (l:List Nat) (nl p:Nat) (D:(List Nat×List Nat)×SS) {E:Env} {R:HP→AV→List AV→Prop} (hN:E.N≤1000000) (hR:cV (l8 s o most out D) R) (hl:∀n∈l,n≤15) (h1:257≤nl) (h2:nl≤286) (h3:l.length≤320) (h4:nl≤l.length)
    (hr:bO s a hv (8*o+p))
    (hD:D=if l.getD 256 0=0∨bm (l.take nl)=false∨bm (l.drop nl)=false then(([],[]),⟨p,out,3⟩)else((l.take nl,l.drop nl),⟨p,out,0⟩)) :
    vcW Tryz.prog E Cod.sa (QT R) ⟨[(0,.ab 65032 0),(7,.int .i64 nl),(16,.ro 1 (an l)),(2000000,.ab 65032 0)],aW s o most a hv out⟩:=by
 have hnl:=bV l
 have ht1:(l.take nl).length=nl:=by rw[List.length_take];omega
 have hd1:(l.drop nl).length=l.length-nl:=List.length_drop
 obtain⟨x1,e1,n1,c1⟩:=xk (l.take nl) (qn hl nl) (by omega)
 obtain⟨x2,e2,n2,c2⟩:=xk (l.drop nl) (oB hl nl) (by omega)
 have hx:nth (an l) 256=.int .i64 (l.getD 256 0:Nat):=dG (by omega)
 have etd:(l.drop nl).take (l.length-nl)=l.drop nl:=List.take_of_length_le (by omega)
 generalize hy:l.getD 256 0=y at *
 have bad:D=(([],[]),⟨p,out,3⟩)→∀h,eL h (aW s o most a hv out)→R h (.aj [.lit (.pointer none),.lit (.pointer none),.int .i64 3]) [.ab 65032 0]:=fun hd h hh=>ji hR 3 (by rw[hd]) (by decide) a hv hh
 refine tM hnl @eO ?_
 rcases c1 with⟨hc1,rfl,rfl⟩ | ⟨hc1,rfl,rfl⟩<;>rcases c2 with⟨hc2,rfl,rfl⟩ | ⟨hc2,rfl,rfl⟩<;>by_cases h0:y=0
 all_goals
  refine fy n1 rfl ?_
  rintro h' v as' ⟨rfl,rfl⟩
  refine⟨rfl,rfl,?_⟩
  simp(disch:=omega)only[go_sem,simprocAttr,hnl,eO,etd,bn]
  refine fy n2 rfl ?_
  rintro h' v as' ⟨rfl,rfl⟩
  refine⟨rfl,rfl,?_⟩
 rotate_left
 ·rw[if_neg (by rw[hc1,hc2];simp[h0])]at hD
  subst hD
  have hi:¬((y:Nat):Int)=0:=by omega
  simp(disch:=omega)only[go_sem,simprocAttr,hnl,hx,hi,bn]
  refine fM hnl hx hi ?_
  exact hR.le (h':=aW s o most a hv out) bD ⟨⟨a,hv,rfl,fun h=>absurd rfl h,fun _=>⟨rfl,hr,hc1,hc2,qn hl nl,oB hl nl,by rw[ht1];exact h2,by rw[hd1];omega⟩⟩,rfl⟩
 all_goals
  rw[if_pos (by first | exact .inl h0 | exact .inr (.inl hc1) | exact .inr (.inr hc2))]at hD
  have bad:=bad hD
 all_goals first
  |have hi:((y:Nat):Int)=0:=by omega
   simp(disch:=omega)only[go_sem,simprocAttr,hnl,hx,hi,bn]
   (try(repeat(first | refine eY ?_ | refine eW ?_ | refine eX ?_)<;>simp(disch:=omega)only[go_sem,simprocAttr,hnl,hx,hi]))
   exact bad _ bD
  |have hi:¬((y:Nat):Int)=0:=by omega
   simp(disch:=omega)only[go_sem,simprocAttr,hnl,hx,hi,bn]
   (try(repeat(first | refine eY ?_ | refine eW ?_ | refine eX ?_)<;>simp(disch:=omega)only[go_sem,simprocAttr,hnl,hx,hi]))
   exact bad _ bD
set_option maxHeartbeats 1000000 in
theorem UM (s:Bs) (o most a hv N:Nat) (out:Bs) (l fl:List Nat) (nl nd p nb least what:Nat) (D:(List Nat×List Nat)×SS) {E:Env} {R1 RX:KS} {R:HP→AV→List AV→Prop} (hN:E.N≤1000000) (hs:s.length≤1000000000) (ho:o≤s.length)
    (hR:cV (l8 s o most out D) R) (hr:bO s a hv (8*o+p)) (hbits:nb≤7) (hleast:least≤11) (hNN:nl+nd=N) (hN1:N≤400) (hll:l.length≤N)
    (hbad:(ck N l (least+(aH (s.drop o) nb ⟨p,out,0⟩).1,what,(aH (s.drop o) nb ⟨p,out,0⟩).2)).err≠0→D.2.err=(ck N l (least+(aH (s.drop o) nb ⟨p,out,0⟩).1,what,(aH (s.drop o) nb ⟨p,out,0⟩).2)).err)
    (hR1:∀n a' hv' st',n=numAt (s.drop o) p nb→p+nb≤8*(s.drop o).length→l.length+(least+n)≤N→bO s a' hv' (8*o+(p+nb)) →
     Wk st' ⟨[(0,.ab 65032 0),(7,.int .i64 nl),(8,.int .i64 nd),(14,bn fl),(16,.sl 62110 0 (l++List.replicate (least+n) what).length),(2000000,.ab 65032 0)],aW s o most a' hv' out++[(62110,.arr 1 (an (l++List.replicate (least+n) what)))]⟩→R1.ap st') :
    vcW Tryz.prog E Cod.sb (CH R1 RX R) ⟨[(0,.ab 65032 0),(7,.int .i64 nl),(8,.int .i64 nd),(14,bn fl),(16,.sl 62110 0 l.length),(19,.int .i64 nb),(20,.int .i64 least),(21,.int .i64 what),(2000000,.ab 65032 0)],aW s o most a hv out++[(62110,.arr 1 (an l))]⟩:=by
 have htl:(s.drop o).length=s.length-o:=List.length_drop
 have hnl:=bV l
 have hb:=pW s o p a hv nb hs hr (by omega)
 refine ik ?_
 refine aJ [(RD,.var (aZ s a hv o))] hb vV nofun ?_
 rintro h' v ar ⟨a1,hv1,hr1,rfl,rfl,rfl⟩
 by_cases hf:nb≤8*(s.drop o).length-p
 ·rw[if_pos hf]at hr1
  rw[if_pos hf,decide_eq_true hf]
  have hpl:p+nb≤8*(s.drop o).length:=by have:=hr.h2;have:=hr.h3;omega
  rw[ez rfl hpl]at hbad
  simp only at hbad
  have hlt:=fE (s.drop o) p nb
  have hp7:2^nb≤2^7:=Nat.pow_le_pow_right (by decide) hbits
  have hR1:=fun st'=>hR1 _ a1 hv1 st' rfl hpl
  generalize numAt (s.drop o) p nb=n at *
  refine⟨cn,rfl,?_⟩
  by_cases hov:N<l.length+(least+n)
  ·have ho2:((nl:Int)+(nd:Int))<(l.length:Int)+(least:Int)+(n:Int):=by omega
   have hbad:=hbad (by unfold ck;rw[if_pos hov,eJ rfl];simp)
   unfold ck at hbad
   rw[if_pos hov,eJ rfl]at hbad
   refine bH hnl ho2 ?_
   exact ji hR 3 hbad (by decide) a1 hv1 bD
  ·have ho2:¬((nl:Int)+(nd:Int))<(l.length:Int)+(least:Int)+(n:Int):=by omega
   have eln:(least:Int)+(n:Int)=((least+n:Nat):Int):=by omega
   clear hbad
   refine bH hnl ho2 ?_
   generalize hk:least+n=k at *
   rw[eln]
   refine a7 hN (fun j:Nat=>⟨[(0,.ab 65032 0),(7,.int .i64 nl),(8,.int .i64 nd),(14,bn fl),(16,.sl 62110 0 (l.length+j:Nat)),(21,.int .i64 what),(150,.int .i64 k),(151,.int .i64 j),(2000000,.ab 65032 0)],aW s o most a1 hv1 out++[(62110,.arr 1 (an (l++List.replicate j what)))]⟩) (fun j=>j≤k) (fun j=>k-j) 0
    (.le (by simp(disch:=omega)only[go_sem,simprocAttr,aW,aZ,bn];simp)) (by omega) ?_
   rintro j R2 hj hR2
   have hnl:=bV (l++List.replicate j what)
   have hlr:(l++List.replicate j what).length=l.length+j:=by simp
   have hnr:=yN l j what
   have hsb:aL (an (l++List.replicate j what)) 0 (l.length+j)=an (l++List.replicate j what):=by rw[←hlr];exact ft
   by_cases hjk:j<k
   ·refine tM hsb @fe ?_
    exact hR2 (j+1) _ (by omega) (by omega) (.le (qt hnr))
   ·obtain rfl:j=k:=by omega
    refine ik ?_
    exact hR1 _ (by omega) hr1 (.le (qt hlr))
 ·rw[if_neg hf]at hr1
  rw[if_neg hf,decide_eq_false hf]
  rw[jJ rfl (by simp only;omega)]at hbad
  have hover:∀k,(ck N l (k,what,{p:=p,out:=out,err:=6})).err=6:=by
   intro k
   unfold ck
   split
   ·rfl
   ·rfl
  simp only at hbad
  rw[hover]at hbad
  refine⟨cn,rfl,?_⟩
  refine wW ?_
  exact ji hR 6 (hbad (by decide)) (by decide) a1 hv1 bD
set_option maxHeartbeats 2000000 in
theorem UL (s:Bs) (o most a hv:Nat) (out:Bs) (fl:List Nat) (nl nd p:Nat) (D:(List Nat×List Nat)×SS) {E:Env} {R:HP→AV→List AV→Prop} (hN:E.N≤1000000) (hs:s.length≤1000000000) (ho:o≤s.length)
    (hR:cV (l8 s o most out D) R) (hr:bO s a hv (8*o+p)) (hfl:∀n∈fl,n≤15) (hfn:fl.length=19) (hfc:bm fl=true) (h1:257≤nl) (h2:nl≤286) (h3:1≤nd) (h4:nd≤30)
    (hD:D=ku (s.drop o) nl nd (cY (s.drop o) fl (nl+nd) (nl+nd) [] ⟨p,out,0⟩)) :
    vcW Tryz.prog E Cod.xZ (QT R) ⟨[(0,.ab 65032 0),(7,.int .i64 nl),(8,.int .i64 nd),(14,bn fl),(16,.al),(2000000,.ab 65032 0)],aW s o most a hv out⟩:=by
 generalize hG:cY (s.drop o) fl (nl+nd) (nl+nd) [] ⟨p,out,0⟩=G at hD
 have hN1:nl+nd≤400:=by omega
 generalize hNN:nl+nd=N at *
 have hbadG:G.2.err≠0→D.2.err=G.2.err:=by
  intro h
  rw[hD]
  unfold ku
  rw[if_pos h]
 refine da (y:=Cod.sa) hN (fun z:Nat×Nat=>⟨[(0,.ab 65032 0),(7,.int .i64 nl),(16,.ro 1 (an G.1)),(2000000,.ab 65032 0)],aW s o most z.1 z.2 out⟩)
  (fun z=>bO s z.1 z.2 (8*o+G.2.p)∧G.2=⟨G.2.p,out,0⟩∧(∀n∈G.1,n≤15)∧G.1.length=N) (fun RX hRX=>?_) (fun z hz=>?_)
 ·refine wW ?_
  refine a7 hN (fun q:List Nat×Nat×Nat×Nat=>⟨[(0,.ab 65032 0),(7,.int .i64 nl),(8,.int .i64 nd),(14,bn fl),(16,.sl 62110 0 q.1.length),(2000000,.ab 65032 0)],aW s o most q.2.1 q.2.2.1 out++[(62110,.arr 1 (an q.1))]⟩)
   (fun q=>(∀n∈q.1,n≤15)∧q.1.length≤N∧bO s q.2.1 q.2.2.1 (8*o+q.2.2.2)∧∃k,N-q.1.length≤k∧cY (s.drop o) fl N k q.1 ⟨q.2.2.2,out,0⟩=G) (fun q=>N-q.1.length) ([],a,hv,p)
   (.nil 16 62110 1 rfl (.le (qt @hU))) ⟨by simp,by simp,hr,N,by simp,hG⟩ ?_
  clear hr hG
  rintro⟨l,a,hv,p⟩ R1 ⟨hl,hll,hr,k,hk,hg⟩ hR1
  simp only at hl hll hr hk hg
  have hnl:=bV l
  have htl:(s.drop o).length=s.length-o:=List.length_drop
  by_cases hlt:l.length<N
  ·have hlt2:(l.length:Int)<(nl:Int)+(nd:Int):=by omega
   obtain⟨k,rfl⟩:∃k',k=k'+1:=⟨k-1,by omega⟩
   rw[lF,if_neg (by simp only;omega)]at hg
   have dv:=rW fl hfl (by omega) hfc s a hv o (8*o+p) (by omega) hr
   rw[←s9]at dv
   simp only[bn]at dv
   generalize hre:readL (aO fl) (aR (s.drop o) p)=re at *
   simp(disch:=omega)only[go_sem,simprocAttr,aW,bn,hnl,hlt2]
   refine aJ [(RD,.var (aZ s a hv o))] dv vV nofun ?_
   rintro h' v ar ⟨a2,hv2,p2,sy,hr2,rfl,rfl,hk2,rfl⟩
   refine⟨cn,rfl,?_⟩
   by_cases hre2:re.2.2=0
   ·obtain⟨rfl,rfl⟩:=hk2 hre2
    have hsym:aU (s.drop o) fl ⟨p,out,0⟩=(re.1,⟨p+re.2.1,out,0⟩):=by
     have:=lY (t:=s.drop o) (l:=fl) (S:=⟨p,out,0⟩) rfl (by simp only;rw[hre];exact hre2)
     simp only[hre]at this
     exact this
    rw[hsym]at hg
    simp only at hg
    have hslt:re.1<19:=by
     have:=lR (aO fl) (aR (s.drop o) p) (by rw[hre];exact hre2)
     rw[hre]at this
     have hcl:(aO fl).length=fl.length:=by simp[aO]
     omega
    rw[show 8*o+p+re.2.1=8*o+(p+re.2.1)by omega]at hr2
    generalize p+re.2.1=p2 at *
    generalize re.1=sy at *
    by_cases h16:sy<16
    ·have ht:bR (s.drop o) l sy ⟨p2,out,0⟩=(1,sy,⟨p2,out,0⟩):=by unfold bR;rw[if_neg (by omega),if_neg (by omega),if_neg (by omega)]
     have hov:ck N l (1,sy,⟨p2,out,0⟩)=⟨p2,out,0⟩:=by unfold ck;rw[if_neg (by simp only;omega)]
     rw[ht,hov,if_neg (by simp)]at hg
     simp only at hg
     have hsb:aL (an l) 0 l.length=an l:=ft
     refine ea hre2 hnl hsb @fe ?_
     refine hR1 (l++[sy],a2,hv2,p2) _ (by simp only[List.length_append,List.length_singleton];omega) ⟨?_,?_,hr2,k,?_,hg⟩ (.le (by rw[fc];simp(disch:=omega)only[go_sem,simprocAttr,aW,aZ,bn,List.length_append,List.length_singleton]))
     ·intro n hn
      rcases List.mem_append.1 hn with hn | hn
      ·exact hl n hn
      ·rw[List.mem_singleton.1 hn];omega
     ·simp only[List.length_append,List.length_singleton];omega
     ·simp only[List.length_append,List.length_singleton];omega
    ·refine aw hre2 ?_
     refine da (y:=Cod.sb) hN (fun z:Nat×Nat×Nat=>⟨[(0,.ab 65032 0),(7,.int .i64 nl),(8,.int .i64 nd),(14,bn fl),(16,.sl 62110 0 l.length),(19,.int .i64 z.1),(20,.int .i64 z.2.1),(21,.int .i64 z.2.2),(2000000,.ab 65032 0)],aW s o most a2 hv2 out++[(62110,.arr 1 (an l))]⟩)
      (fun z=>z.1≤7∧1≤z.2.1∧z.2.1≤11∧z.2.2≤15∧bR (s.drop o) l sy ⟨p2,out,0⟩=(z.2.1+(aH (s.drop o) z.1 ⟨p2,out,0⟩).1,z.2.2,(aH (s.drop o) z.1 ⟨p2,out,0⟩).2)) (fun R2 hR2=>?_) (fun z hz=>?_)
     ·by_cases e16:sy=16
      ·subst e16
       by_cases hle:l=[]
       ·subst hle
        have ht:bR (s.drop o) [] 16 ⟨p2,out,0⟩=(0,0,⟨p2,out,3⟩):=by unfold bR;rw[if_pos rfl,if_pos rfl,eJ rfl]
        have hov:ck N [] (0,0,⟨p2,out,3⟩)=⟨p2,out,3⟩:=if_neg (by simp)
        rw[ht,hov,if_pos (by simp)]at hg
        refine aw @hU ?_
        exact ji hR 3 (by rw[hbadG (by rw[←hg];simp),←hg]) (by decide) a2 hv2 bD
       ·have hl0:0<l.length:=by cases l with | nil=>exact absurd rfl hle | cons=>simp
        have el:(l.length:Int)-1=((l.length-1:Nat):Int):=by omega
        have hz:¬((l.length:Int)=0):=by omega
        have hx:nth (an l) (l.length-1)=.int .i64 (l.getD (l.length-1) 0:Nat):=dG (by omega)
        have hx15:l.getD (l.length-1) 0≤15:=gF hl _
        have ht:bR (s.drop o) l 16 ⟨p2,out,0⟩=(3+(aH (s.drop o) 2 ⟨p2,out,0⟩).1,l.getD (l.length-1) 0,(aH (s.drop o) 2 ⟨p2,out,0⟩).2):=by unfold bR;rw[if_pos rfl,if_neg hle]
        generalize l.getD (l.length-1) 0=x at *
        refine ea hnl hz el hx ?_
        exact hR2 (2,3,x) _ ⟨by simp,by simp,by simp,hx15,ht⟩ (.le nt)
      ·by_cases e17:sy=17
       ·subst e17
        refine wW ?_
        exact hR2 (3,3,0) _ ⟨by decide,by decide,by decide,by decide,rfl⟩ (.le nt)
       ·obtain rfl:sy=18:=by omega
        refine wW ?_
        exact hR2 (7,11,0) _ ⟨by decide,by decide,by decide,by decide,rfl⟩ (.le nt)
     ·obtain⟨nb,least,what⟩:=z
      simp only at hz ⊢
      obtain⟨g1,g0,g2,g3,g4⟩:=hz
      rw[g4]at hg
      refine UM s o most a2 hv2 N out l fl nl nd p2 nb least what D hN hs ho hR hr2 g1 g2 hNN hN1 hll (fun h=>?_) (fun n a' hv' st' hn hpl hlo hr3 hw=>?_)
      ·rw[if_pos h]at hg
       rw[hbadG (by rw[←hg];exact h),←hg]
      ·rw[ez rfl hpl]at hg
       simp only at hg
       rw[←hn]at hg
       have hov:ck N l (least+n,what,⟨p2+nb,out,0⟩)=⟨p2+nb,out,0⟩:=by unfold ck;rw[if_neg (by simp only;omega)]
       rw[hov,if_neg (by simp)]at hg
       refine hR1 (l++List.replicate (least+n) what,a',hv',p2+nb) _ (by simp only[List.length_append,List.length_replicate];omega) ⟨?_,?_,hr3,k,?_,hg⟩ hw
       ·intro n hn
        rcases List.mem_append.1 hn with hn | hn
        ·exact hl n hn
        ·rw[(List.mem_replicate.1 hn).2];exact g3
       ·simp only[List.length_append,List.length_replicate];omega
       ·simp only[List.length_append,List.length_replicate];omega
   ·have hsym:aU (s.drop o) fl ⟨p,out,0⟩=(0,⟨p,out,re.2.2⟩):=by
     have:=nr (t:=s.drop o) (l:=fl) (S:=⟨p,out,0⟩) rfl (by simp only;rw[hre];exact hre2)
     simp only[hre]at this
     exact this
    rw[hsym]at hg
    simp only at hg
    have ht:bR (s.drop o) l 0 ⟨p,out,re.2.2⟩=(1,0,⟨p,out,re.2.2⟩):=by unfold bR;rw[if_neg (by omega),if_neg (by omega),if_neg (by omega)]
    have hov:ck N l (1,0,⟨p,out,re.2.2⟩)=⟨p,out,re.2.2⟩:=by unfold ck;rw[if_neg (by simp only;omega)]
    rw[ht,hov,if_pos (by simpa using hre2)]at hg
    have hi:¬((re.2.2:Nat):Int)=0:=by omega
    refine aw hi ?_
    exact ji hR re.2.2 (by rw[hbadG (by rw[←hg];exact hre2),←hg]) hre2 a2 hv2 bD
  ·have hlt2:¬(l.length:Int)<(nl:Int)+(nd:Int):=by omega
   have hGe:(l,(⟨p,out,0⟩:SS))=G:=by
    rw[←hg]
    cases k with
    | zero=>rfl
    | succ k=>rw[lF,if_pos (.inl (by omega))]
   subst hGe
   have hsb:aL (an l) 0 l.length=an l:=ft
   refine tM hnl hlt2 ?_
   exact hRX (a,hv) _ ⟨hr,rfl,hl,by simp only;omega⟩ (.bK 62110 (.le (qt hsb)))
 ·obtain⟨a',hv'⟩:=z
  obtain⟨g1,g2,g3,g4⟩:=hz
  refine UN s o most a' hv' out G.1 nl G.2.p D hN hR g3 h1 h2 (by omega) (by omega) g1 ?_
  rw[hD]
  unfold ku
  rw[if_neg (by rw[g2];simp)]
  obtain⟨G1,G2⟩:=G
  simp only at g2
  rw[g2]
set_option maxHeartbeats 2000000 in
theorem UO (s:Bs) (o most a hv:Nat) (out:Bs) (nl nd nc p:Nat) (D:(List Nat×List Nat)×SS) {E:Env} {R:HP→AV→List AV→Prop} (hN:E.N≤1000000) (hs:s.length≤1000000000) (ho:o≤s.length)
    (hR:cV (l8 s o most out D) R) (hr:bO s a hv (8*o+p)) (h1:257≤nl) (h2:nl≤286) (h3:1≤nd) (h4:nd≤30) (hc:nc≤19)
    (hD:D=eK (s.drop o) nl nd (firstS (s.drop o) nc nc (List.replicate 19 0) ⟨p,out,0⟩)) :
    vcW Tryz.prog E Cod.x4 (QT R) ⟨[(0,.ab 65032 0),(7,.int .i64 nl),(8,.int .i64 nd),(9,.int .i64 nc),(10,.sl 62057 0 19),(2000000,.ab 65032 0)],[(62057,.arr 1 (an (List.replicate 19 0))),(40014,.var (aZ s a hv o)),(65032,.var [.ab 40014 0,.sl 60022 0 out.length,.int .i64 most]),(60022,.arr 1 (out.map ub))]⟩:=by
 generalize hG:firstS (s.drop o) nc nc (List.replicate 19 0) ⟨p,out,0⟩=G at hD
 have htl:(s.drop o).length=s.length-o:=List.length_drop
 have hbadG:G.2.err≠0→D.2.err=G.2.err:=by
  intro h
  rw[hD]
  unfold eK
  rw[if_pos h]
 refine da (y:=Cod.x5) hN (fun z:Nat×Nat=>⟨[(0,.ab 65032 0),(7,.int .i64 nl),(8,.int .i64 nd),(10,.ro 1 (an G.1)),(2000000,.ab 65032 0)],aW s o most z.1 z.2 out⟩)
  (fun z=>bO s z.1 z.2 (8*o+G.2.p)∧G.2=⟨G.2.p,out,0⟩∧(∀n∈G.1,n≤15)∧G.1.length=19) (fun RX hRX=>?_) (fun z hz=>?_)
 ·refine ik ?_
  refine a7 hN (fun q:Nat×List Nat×Nat×Nat×Nat=>⟨[(0,.ab 65032 0),(7,.int .i64 nl),(8,.int .i64 nd),(10,.sl 62057 0 19),(58,.int .i64 nc),(59,.int .i64 q.1),(2000000,.ab 65032 0)],aW s o most q.2.2.1 q.2.2.2.1 out++[(62057,.arr 1 (an q.2.1))]⟩)
   (fun q=>q.1≤nc∧(∀n∈q.2.1,n≤15)∧q.2.1.length=19∧bO s q.2.2.1 q.2.2.2.1 (8*o+q.2.2.2.2)∧firstS (s.drop o) nc (nc-q.1) q.2.1 ⟨q.2.2.2.2,out,0⟩=G) (fun q=>nc-q.1) (0,List.replicate 19 0,a,hv,p)
   (.le vVJ) ⟨by simp,by simp,by simp,hr,hG⟩ ?_
  clear hr hG
  rintro⟨j,l,a,hv,p⟩ R1 ⟨hj,hl,hll,hr,hg⟩ hR1
  simp only at hj hl hll hr hg
  have hnl:=bV l
  by_cases hlt:j<nc
  ·obtain⟨m,hm⟩:∃m,nc-j=m+1:=⟨nc-j-1,by omega⟩
   rw[hm,mu,if_neg (by simp),show nc-(m+1)=j by omega]at hg
   have hpl:=zk j (by omega)
   have hx:nth (an eA) j=.int .i64 (eA.getD j 0:Nat):=dG (by have:eA.length=19:=rfl;omega)
   have hpn:(an eA).length=19:=rfl
   have hx2:(an eA).getD j .undef=.int .i64 (eA.getD j 0:Nat):=by
    have hl:j<eA.length:=by have:eA.length=19:=rfl;omega
    simp[an,List.getD_eq_getElem?_getD,hl]
   have hord:=Sm
   unfold yZ at hord
   generalize eA.getD j 0=pj at *
   have hb:=pW s o p a hv 3 hs hr (by omega)
   have hxl:nth (an l) pj=.int .i64 (l.getD pj 0:Nat):=dG (by omega)
   refine ik ?_
   refine aJ [(RD,.var (aZ s a hv o))] hb vV nofun ?_
   rintro h' v ar ⟨a1,hv1,hr1,rfl,rfl,rfl⟩
   by_cases hf:3≤8*(s.drop o).length-p
   ·rw[if_pos hf]at hr1
    rw[if_pos hf,decide_eq_true hf]
    rw[ez rfl (by simp only;omega)]at hg
    simp only at hg
    have hlt3:=fE (s.drop o) p 3
    generalize numAt (s.drop o) p 3=x at *
    refine⟨cn,rfl,?_⟩
    refine wW ?_
    refine aE hord rfl rfl ?_
    refine qw hx2 hpn hnl hll hxl @sE ?_
    refine hR1 (j+1,l.set pj x,a1,hv1,p+3) _ (by simp only;omega) ⟨hlt,?_,by simp[hll],hr1,by simp only;rw[show nc-(j+1)=m by omega];exact hg⟩ (.le bD)
    intro n hn
    rcases List.mem_or_eq_of_mem_set hn with hn | hn
    ·exact hl n hn
    ·omega
   ·rw[if_neg hf]at hr1
    rw[if_neg hf,decide_eq_false hf]
    rw[jJ rfl (by simp only;omega)]at hg
    simp only at hg
    rw[oJ _ _ _ _ _ (by simp)]at hg
    refine⟨cn,rfl,?_⟩
    refine wW ?_
    exact ji hR 6 (by rw[hbadG (by rw[←hg];simp),←hg]) (by decide) a1 hv1 bD
  ·obtain rfl:j=nc:=by omega
   rw[Nat.sub_self]at hg
   have hGe:(l,(⟨p,out,0⟩:SS))=G:=hg
   subst hGe
   have hsub:aL (an l) 0 19=an l:=by rw[←hll];exact ft
   refine ik ?_
   exact hRX (a,hv) _ ⟨hr,rfl,hl,hll⟩ (.bK 62057 (.le (Ch hsub)))
 ·obtain⟨a',hv'⟩:=z
  obtain⟨g1,g2,g3,g4⟩:=hz
  simp only at g1 g2 g3 g4 ⊢
  have n1:=pg G.1 g3 (by omega)
  unfold eK at hD
  rw[if_neg (by rw[g2];simp)]at hD
  cases hck:bm G.1 with
  | false=>
   rw[hck,if_neg (by decide)]at n1
   rw[if_pos hck]at hD
   refine ik ?_
   refine fy n1 rfl ?_
   rintro h' v as' ⟨rfl,rfl⟩
   refine⟨rfl,rfl,?_⟩
   refine wW ?_
   exact ji hR 3 (by rw[hD]) (by decide) a' hv' bD
  | true=>
   rw[hck,if_pos rfl]at n1
   rw[if_neg (by rw[hck];decide),g2]at hD
   have hb:=UL s o most a' hv' out G.1 nl nd G.2.p D (E:=E) (R:=R) hN hs ho hR g1 g3 g4 hck h1 h2 h3 h4 hD
   refine ik ?_
   refine fy n1 rfl ?_
   rintro h' v as' ⟨rfl,rfl⟩
   refine⟨rfl,rfl,?_⟩
   simp only[aW,bn]at hb
   simp(disch:=omega)only[go_sem,simprocAttr,bn]
   exact hb
theorem nH {n:Nat} (h:n<65536):bits .and .u32 (n:Int) 31=((n%32:Nat):Int):=by
 show IntKind.u32.wrap ((BitVec.ofInt 32 (n:Int) &&& BitVec.ofInt 32 ((31:Nat):Int)).toNat:Int)=_
 rw[BitVec.ofInt_natCast,BitVec.ofInt_natCast,BitVec.toNat_and,BitVec.toNat_ofNat,BitVec.toNat_ofNat,Nat.mod_eq_of_lt (by omega),Nat.mod_eq_of_lt (by decide),show(31:Nat)=2^5-1 from rfl,Nat.and_two_pow_sub_one_eq_mod]
 exact wrap_u32 (by omega)
theorem fdiv_pow (x k:Nat) (h:k≤32):(x:Int).fdiv (2^min k 32)=((x/2^k:Nat):Int):=by
 rw[Nat.min_eq_left h,Int.fdiv_eq_ediv_of_nonneg _ (by exact_mod_cast Nat.zero_le (2^k))]
 norm_cast
set_option maxHeartbeats 1000000 in
theorem VU (s:Bs) (o most a hv:Nat) (S:SS) (hs:s.length≤1000000000) (ho:o≤s.length) (hm:most≤1000000) (hr:bO s a hv (8*o+S.p)) (hol:S.out.length≤most) (he:S.err=0) :
    Eng.Spec Tryz.prog 163 (aW s o most a hv S.out) [.ab fk 0] (fun h' v ar=>PT s o most S.out (cf (s.drop o) S) h' v∧ar=[.ab fk 0]):=by
 refine Cod.VV (fun E R hN hR=>?_)
 have htl:(s.drop o).length=s.length-o:=List.length_drop
 have hb:=pW s o S.p a hv 14 hs hr (by omega)
 rw[oE]at hR
 obtain⟨p,out,err⟩:=S
 simp only at he hr hol hb hR ⊢
 subst he
 refine ik ?_
 refine aJ [(RD,.var (aZ s a hv o))] hb vV nofun ?_
 rintro h' v ar ⟨a1,hv1,hr1,rfl,rfl,rfl⟩
 by_cases h14:14≤8*(s.drop o).length-p
 ·rw[if_pos h14]at hr1
  rw[if_pos h14,decide_eq_true h14]
  rw[if_neg (by omega)]at hR
  refine⟨cn,rfl,?_⟩
  have hlt:=fE (s.drop o) p 14
  have m5:=kF (s.drop o) p (m:=5) (n:=14) (by decide)
  have d5:=kD (s.drop o) p (m:=5) (n:=14) (by decide)
  have d10:=kD (s.drop o) p (m:=10) (n:=14) (by decide)
  have m55:=kF (s.drop o) (p+5) (m:=5) (n:=9) (by decide)
  generalize numAt (s.drop o) p 14=x at *
  have f5:=fdiv_pow x 5 (by decide)
  have f10:=fdiv_pow x 10 (by decide)
  have c1:=nH (n:=x) (by omega)
  have c2:=nH (n:=x/2^5) (by omega)
  have w1:x%32=numAt (s.drop o) p 5:=m5
  have w2:x/2^5%32=numAt (s.drop o) (p+5) 5:=by rw[d5];exact m55
  have w3:x/2^10=numAt (s.drop o) (p+10) 4:=d10
  rw[←w1,←w2,←w3]at hR
  have b1:x%32<32:=Nat.mod_lt _ (by decide)
  have b2:x/2^5%32<32:=Nat.mod_lt _ (by decide)
  have b3:x/2^10<16:=by omega
  generalize x%32=y1 at *
  generalize x/2^5%32=y2 at *
  generalize x/2^10=y3 at *
  have bad:(286<y1+257∨30<y2+1)→R [(40014,aI.var (aZ s a1 hv1 o)),(65032,aI.var [AV.ab 40014 0,AV.sl 60022 0 (List.length out),AV.int IntKind.i64 ↑most]),(60022,aI.arr 1 (List.map ub out))] (.aj [.lit (.pointer none),.lit (.pointer none),.int .i64 3]) [.ab 65032 0]:=by
   intro hx
   rw[if_pos hx]at hR
   exact ji hR 3 rfl (by decide) a1 hv1 bD
  by_cases hx1:286<y1+257
  ·have bad:=bad (.inl hx1)
   refine ea f5 f10 c1 c2 ?_
   refine gG ?_
   exact bad
  ·by_cases hx2:30<y2+1
   ·have bad:=bad (.inr hx2)
    refine ea f5 f10 c1 c2 ?_
    refine gG ?_
    exact bad
   ·rw[if_neg (by omega)]at hR
    clear bad
    have hf:=UO s o most a1 hv1 out (y1+257) (y2+1) (y3+4) (p+14) _ (E:=E) (R:=R) hN hs ho hR hr1 (by omega) (by omega) (by omega) (by omega) (by omega) rfl
    clear hR
    refine ea f5 f10 c1 c2 ?_
    refine gG ?_
    simp only[aZ]at hf
    refine iq ?_
    exact hf
 ·rw[if_neg h14]at hr1
  rw[if_neg h14,decide_eq_false h14]
  rw[if_pos (by omega)]at hR
  refine⟨cn,rfl,?_⟩
  refine wW ?_
  exact ji hR 6 rfl (by decide) a1 hv1 bD
theorem and1 {n:Nat} (h:n<65536):bits .and .u32 (n:Int) 1=((n%2:Nat):Int):=by
 show IntKind.u32.wrap ((BitVec.ofInt 32 (n:Int) &&& BitVec.ofInt 32 ((1:Nat):Int)).toNat:Int)=_
 rw[BitVec.ofInt_natCast,BitVec.ofInt_natCast,BitVec.toNat_and,BitVec.toNat_ofNat,BitVec.toNat_ofNat,Nat.mod_eq_of_lt (by omega),Nat.mod_eq_of_lt (by decide),show(1:Nat)=2^1-1 from rfl,Nat.and_two_pow_sub_one_eq_mod]
 exact wrap_u32 (by omega)
abbrev QR (R:HP→AV→List AV→Prop):KQ:=KQ.post [.tmp 2] 1 R
abbrev qF (s:Bs) (o most:Nat) (G:SS):HP→AV→List AV→Prop:=fun h' v ar=>PI s o most G h' v∧ar=[.ab fk 0]
theorem lP {s:Bs} {o most:Nat} {G:SS} {R:HP→AV→List AV→Prop} (hR:cV (qF s o most G) R) (e:Nat) (he:G.err=e) (hne:e≠0) (a' hv':Nat) (out:Bs) {h:HP} (hh:eL h (aW s o most a' hv' out)) :
    R h (.int .i64 (e:Nat)) [.ab 65032 0]:=
 hR.le (h':=aW s o most a' hv' out) hh ⟨⟨a',hv',out,rfl,by rw[he],fun h=>absurd h (by rw[he];exact hne)⟩,rfl⟩
def oA (t:Bs) (most h:Nat) (S G:SS):Prop:=if h%2=1 then S=G else fi t most S=G
def gU (t:Bs) (most h:Nat) (S G:SS):Prop:=if S.err≠0 then G.err=S.err else oA t most h S G
structure jZ where
 h:Nat
 l:List Nat
 d:List Nat
 a:Nat
 hv:Nat
 S:SS
def gE (s:Bs) (o most:Nat) (l:Nat) (z:jZ):St:=
 if l=0 then⟨[(0,.ab 65032 0),(2000000,.ab 65032 0)],aW s o most z.a z.hv z.S.out⟩
 else if l=1 then⟨[(0,.ab 65032 0),(3,.int .u32 z.h),(2000000,.ab 65032 0)],aW s o most z.a z.hv z.S.out⟩
 else⟨[(0,.ab 65032 0),(3,.int .u32 z.h),(7,bn z.l),(8,bn z.d),(2000000,.ab 65032 0)],aW s o most z.a z.hv z.S.out⟩
structure RB (s:Bs) (o most:Nat) (z:jZ):Prop where
 r:bO s z.a z.hv (8*o+z.S.p)
 e:z.S.err=0
 ol:z.S.out.length≤most
 hl:z.h<8
structure TB (l d:List Nat):Prop where
 XE:∀n∈l,n≤15
 d15:∀n∈d,n≤15
 ll:l.length≤320
 dl:d.length≤320
 lc:bm l=true
 dc:bm d=true
def r7 (s:Bs) (o most:Nat) (G:SS) (l:Nat) (z:jZ):Prop:=
 RB s o most z∧(if l=0 then fi (s.drop o) most z.S=G else if l=1 then oA (s.drop o) most z.h z.S G else if l=2 then TB z.l z.d∧gU (s.drop o) most z.h (cT (s.drop o) most z.l z.d z.S) G else False)
def gZ (s:Bs) (o l:Nat) (z:jZ):Nat:=4*(8*(s.drop o).length+1-z.S.p)+min l 2
theorem RB.pl {s:Bs} {o most:Nat} {z:jZ} (h:RB s o most z):z.S.p≤8*(s.drop o).length:=by
 have:=h.r.h2;have:=h.r.h3
 rw[List.length_drop];omega
set_option maxHeartbeats 2000000 in
theorem xP (s:Bs) (o most:Nat) (G:SS) (z:jZ) {E:Env} {R:Nat→KS} {R0:HP→AV→List AV→Prop} (hN:E.N≤1000000) (hs:s.length≤1000000000) (ho:o≤s.length) (hm:most≤1000000) (hR:cV (qF s o most G) R0) (hz:RB s o most z) (hg:fi (s.drop o) most z.S=G)
    (hJ:∀l' z' st',gZ s o l' z'<gZ s o 0 z→r7 s o most G l' z'→Wk st' (gE s o most l' z')→(R l').ap st') :
    vcW Tryz.prog E Cod.po (KQ.ja R (QR R0)) ⟨[(0,.ab 65032 0),(2000000,.ab 65032 0)],aW s o most z.a z.hv z.S.out⟩:=by
 have hpl:=hz.pl
 obtain⟨h,l,d,a,hv,S⟩:=z
 obtain⟨hr,he,hol,hh⟩:=hz
 simp only at hr he hol hh hg hpl ⊢
 rw[run_eq hpl]at hg
 have htl:(s.drop o).length=s.length-o:=List.length_drop
 have hb:=pW s o S.p a hv 3 hs hr (by omega)
 refine ik ?_
 refine aJ [(RD,.var (aZ s a hv o))] hb vV nofun ?_
 rintro h' v ar ⟨a1,hv1,hr1,rfl,rfl,rfl⟩
 by_cases h3:3≤8*(s.drop o).length-S.p
 ·rw[if_pos h3]at hr1
  rw[if_pos h3,decide_eq_true h3]
  have hbk:de (s.drop o) most S=_:=if_neg (show ¬8*(s.drop o).length<S.p+3 by omega)
  rw[hbk]at hg
  clear hbk
  have m1:=kF (s.drop o) S.p (m:=1) (n:=3) (by decide)
  have d1:=kD (s.drop o) S.p (m:=1) (n:=3) (by decide)
  have hlt:=fE (s.drop o) S.p 3
  simp only at hg
  rw[←m1,show(2:Nat)=3-1 from rfl,←d1]at hg
  generalize numAt (s.drop o) S.p 3=x at *
  have f1:=fdiv_pow x 1 (by decide)
  refine⟨cn,rfl,?_⟩
  have hx1:x%2^1=x%2:=rfl
  have hx2:x/2^1=x/2:=rfl
  rw[hx1,hx2]at hg
  rw[hx2]at f1
  have hxl:x/2<4:=by omega
  -- the end of a block
  have hdone:∀S':SS,(if x/2=0 then dT (s.drop o) most {S with p:=S.p+3} else if x/2=1 then cT (s.drop o) most bl bT {S with p:=S.p+3}
      else if x/2=2 then(if(cf (s.drop o) {S with p:=S.p+3}).2.err≠0 then(cf (s.drop o) {S with p:=S.p+3}).2 else cT (s.drop o) most (cf (s.drop o) {S with p:=S.p+3}).1.1 (cf (s.drop o) {S with p:=S.p+3}).1.2 (cf (s.drop o) {S with p:=S.p+3}).2)else {S with p:=S.p+3,err:=3})=S' →
      gU (s.drop o) most x S' G:=by
   intro S' hS'
   rw[hS']at hg
   unfold gU
   by_cases hSe:S'.err=0
   ·rw[if_neg (by simpa using hSe)]
    unfold oA
    by_cases hx:x%2=1
    ·rw[if_pos (.inr (by simpa using hx))]at hg
     rw[if_pos hx];exact hg
    ·rw[if_neg (fun h=>h.elim (fun h=>h hSe) (fun h=>hx (by simpa using h)))]at hg
     rw[if_neg hx];exact hg
   ·rw[if_pos (.inl hSe)]at hg
    rw[if_pos hSe,hg]
  clear hg
  have hr1':bO s a1 hv1 (8*o+(S.p+3)):=hr1
  refine aw f1 ?_
  obtain hk | hk | hk | hk:x/2=0∨x/2=1∨x/2=2∨x/2=3:=by omega
  ·rw[hk]
   have hst:=Uz s o most a1 hv1 {S with p:=S.p+3} hs ho hm hr1' hol he
   have hc:=hdone _ (if_pos hk)
   have hmv:Mv (s.drop o) most {S with p:=S.p+3} (dT (s.drop o) most {S with p:=S.p+3}):=yK
   generalize dT (s.drop o) most {S with p:=S.p+3}=F at *
   refine wW ?_
   refine aJ (aW s o most a1 hv1 S.out) hst bD nofun ?_
   rintro h' v ar ⟨⟨a2,hv2,out2,rfl,rfl,hF⟩,rfl⟩
   refine⟨bD,rfl,?_⟩
   unfold gU at hc
   by_cases hFe:F.err=0
   ·obtain⟨rfl,hr2⟩:=hF hFe
    rw[if_neg (by simpa using hFe)]at hc
    refine aw hFe ?_
    have h1:=hmv.p
    simp only at h1
    exact hJ 1 ⟨x,[],[],a2,hv2,F⟩ _ (by simp only[gZ];omega) ⟨⟨hr2,hFe,hmv.o hol,by simp only;omega⟩,by rw[if_neg (by decide),if_pos rfl];exact hc⟩ (.le (by simp(disch:=omega)only[go_sem,simprocAttr,gE,aW,aZ]))
   ·rw[if_pos hFe]at hc
    have hi:¬((F.err:Nat):Int)=0:=by omega
    refine aw hi ?_
    exact lP hR F.err hc hFe a2 hv2 out2 bD
  ·rw[hk]
   have hc:=hdone _ ((if_neg (by omega)).trans (if_pos hk))
   refine wW ?_
   refine aE xC rfl rfl ?_
   simp(disch:=omega)only[go_sem,simprocAttr,bn]
   refine hJ 2 ⟨x,bl,bT,a1,hv1,{S with p:=S.p+3}⟩ _ (by simp only[gZ];omega) ⟨⟨hr1',he,hol,by simp only;omega⟩,?_⟩ (.le ?_)
   ·rw[if_neg (by decide),if_neg (by decide),if_pos rfl]
    exact⟨⟨iA.1,iy.1,by simp only;rw[iA.2.1];decide,by simp only;rw[iy.2.1];decide,iA.2.2,iy.2.2⟩,hc⟩
   ·simp(disch:=omega)only[go_sem,simprocAttr,gE,aW,aZ,bn]
  ·rw[hk]
   have hit:=VU s o most a1 hv1 {S with p:=S.p+3} hs ho hm hr1' hol he
   have hc:=hdone _ ((if_neg (by omega)).trans ((if_neg (by omega)).trans (if_pos hk)))
   have hmv:Mv (s.drop o) most {S with p:=S.p+3} (cf (s.drop o) {S with p:=S.p+3}).2:=pH
   have hdo:=JI (s.drop o) {S with p:=S.p+3}
   generalize cf (s.drop o) {S with p:=S.p+3}=D at *
   refine wW ?_
   refine aJ (aW s o most a1 hv1 S.out) hit bD nofun ?_
   rintro h' v ar ⟨⟨a2,hv2,rfl,hbad,hgood⟩,rfl⟩
   by_cases hDe:D.2.err=0
   ·obtain⟨rfl,hr2,hc1,hc2,hl1,hl2,hn1,hn2⟩:=hgood hDe
    rw[if_neg (by simpa using hDe)]at hc
    refine⟨bD,rfl,?_⟩
    refine tK ?_
    have h1:=hmv.p
    simp only at h1 hdo
    refine hJ 2 ⟨x,D.1.1,D.1.2,a2,hv2,D.2⟩ _ (by simp only[gZ];omega) ⟨⟨hr2,hDe,by simp only;rw[hdo];exact hol,by simp only;omega⟩,?_⟩ (.le ?_)
    ·rw[if_neg (by decide),if_neg (by decide),if_pos rfl]
     exact⟨⟨hl1,hl2,by simp only;omega,hn2,hc1,hc2⟩,hc⟩
    ·simp(disch:=omega)only[go_sem,simprocAttr,gE,aW,aZ,bn,hdo]
   ·obtain rfl:=hbad hDe
    rw[if_pos hDe]at hc
    unfold gU at hc
    rw[if_pos hDe]at hc
    refine⟨bD,rfl,?_⟩
    have hi:¬((D.2.err:Nat):Int)=0:=by omega
    simp(disch:=omega)only[go_sem,simprocAttr,hi,tB]
    exact lP hR D.2.err hc hDe a2 hv2 S.out bD
  ·rw[hk]
   have hc:=hdone _ ((if_neg (by omega)).trans ((if_neg (by omega)).trans (if_neg (by omega))))
   unfold gU at hc
   rw[if_pos (by simp)]at hc
   refine wW ?_
   exact lP hR 3 hc (by decide) a1 hv1 S.out bD
 ·rw[if_neg h3]at hr1
  rw[if_neg h3,decide_eq_false h3]
  have hbk:de (s.drop o) most S=(true,{S with err:=6}):=if_pos (show 8*(s.drop o).length<S.p+3 by omega)
  rw[hbk,if_pos (.inl (by simp))]at hg
  refine⟨cn,rfl,?_⟩
  refine wW ?_
  exact lP hR 6 (by rw[←hg]) (by decide) a1 hv1 S.out bD
set_option maxHeartbeats 2000000 in
theorem Ua (s:Bs) (o most:Nat) (G:SS) (z:jZ) {E:Env} {R:Nat→KS} {R0:HP→AV→List AV→Prop} (hN:E.N≤1000000) (hs:s.length≤1000000000) (ho:o≤s.length) (hm:most≤1000000) (hR:cV (qF s o most G) R0) (hz:RB s o most z) (ht:TB z.l z.d) (hg:gU (s.drop o) most z.h (cT (s.drop o) most z.l z.d z.S) G)
    (hJ:∀l' z' st',gZ s o l' z'<gZ s o 2 z→r7 s o most G l' z'→Wk st' (gE s o most l' z')→(R l').ap st') :
    vcW Tryz.prog E (.seq .skip Cod.r8) (KQ.ja R (QR R0)) ⟨[(0,.ab 65032 0),(3,.int .u32 z.h),(7,bn z.l),(8,bn z.d),(2000000,.ab 65032 0)],aW s o most z.a z.hv z.S.out⟩:=by
 have hpl:=hz.pl
 obtain⟨h,l,d,a,hv,S⟩:=z
 obtain⟨hr,he,hol,hh⟩:=hz
 simp only at hr he hol hh hg hpl ht ⊢
 rw[mO hpl,if_neg (by simpa using he)]at hg
 have htl:(s.drop o).length=s.length-o:=List.length_drop
 have dv:=rW l ht.XE ht.ll ht.lc s a hv o (8*o+S.p) (by omega) hr
 rw[←s9]at dv
 simp only[bn]at dv
 generalize hre:readL (aO l) (aR (s.drop o) S.p)=re at *
 simp(disch:=omega)only[go_sem,simprocAttr,aW,bn]
 refine aJ [(RD,.var (aZ s a hv o))] dv vV nofun ?_
 rintro h' v ar ⟨a2,hv2,p2,sy,hr2,rfl,rfl,hk2,rfl⟩
 refine⟨cn,rfl,?_⟩
 by_cases hre2:re.2.2=0
 ·obtain⟨rfl,rfl⟩:=hk2 hre2
  have hsym:aU (s.drop o) l S=(re.1,{S with p:=S.p+re.2.1}):=by
   have:=lY (t:=s.drop o) (l:=l) (S:=S) he (by rw[hre];exact hre2)
   simp only[hre]at this
   exact this
  have hrb:=lR (aO l) (aR (s.drop o) S.p) (by rw[hre];exact hre2)
  rw[hre,fS]at hrb
  have hcl:(aO l).length=l.length:=by simp[aO]
  have hll:=ht.ll
  rw[show 8*o+S.p+re.2.1=8*o+(S.p+re.2.1)by omega]at hr2
  have hst:dp (s.drop o) most l d S=(if re.1=256 then(true,{S with p:=S.p+re.2.1})else if re.1<256 then(false,cZ most (UInt8.ofNat re.1) {S with p:=S.p+re.2.1})else(false,c8 (s.drop o) most d re.1 {S with p:=S.p+re.2.1})):=by
   unfold dp
   rw[hsym]
   exact if_neg (by simpa using he)
  rw[hst]at hg
  have hp2:S.p<S.p+re.2.1∧S.p+re.2.1≤8*(s.drop o).length:=by omega
  generalize S.p+re.2.1=p2 at *
  have hsy:re.1≤320:=by omega
  generalize re.1=sy at *
  by_cases h256:sy=256
  ·rw[if_pos h256,if_pos rfl]at hg
   unfold gU at hg
   rw[if_neg (by simpa using he)]at hg
   refine bH hre2 h256 ?_
   refine hJ 1 ⟨h,[],[],a2,hv2,{S with p:=p2}⟩ _ (by simp only[gZ];omega) ⟨⟨hr2,he,hol,hh⟩,?_⟩ (.le ?_)
   ·rw[if_neg (by decide),if_pos rfl];exact hg
   ·simp(disch:=omega)only[go_sem,simprocAttr,gE,aW,aZ]
  ·rw[if_neg h256]at hg
   have hi:¬((sy:Nat):Int)=256:=by omega
   refine bH hre2 hi ?_
   -- behind the symbol
   refine da (y:=Cod.xN) hN (fun y:Nat×Nat×Bs×SS=>⟨[(0,.ab 65032 0),(3,.int .u32 h),(5,.int .i64 y.2.2.2.err),(7,bn l),(8,bn d),(2000000,.ab 65032 0)],aW s o most y.1 y.2.1 y.2.2.1⟩)
    (fun y=>Mv (s.drop o) most {S with p:=p2} y.2.2.2∧gU (s.drop o) most h (cT (s.drop o) most l d y.2.2.2) G∧(y.2.2.2.err=0→y.2.2.1=y.2.2.2.out∧bO s y.1 y.2.1 (8*o+y.2.2.2.p))) (fun R2 hR2=>?_) (fun y hy=>?_)
   ·by_cases hlt:sy<256
    ·rw[if_pos hlt,if_neg (by simp)]at hg
     simp only at hg
     have hput:=xK s o most a2 hv2 S.out hm hol (UInt8.ofNat sy)
     have hmv:Mv (s.drop o) most {S with p:=p2} (cZ most (UInt8.ofNat sy) {S with p:=p2}):=jH
     have hF:cZ most (UInt8.ofNat sy) {S with p:=p2}=⟨p2,if S.out.length=most then S.out else S.out++[UInt8.ofNat sy],if S.out.length=most then 2 else 0⟩:=by
      unfold cZ
      rw[if_neg (by simpa using he)]
      simp only
      by_cases hf:S.out.length=most
      ·rw[if_pos (by omega),if_pos hf,if_pos hf]
      ·rw[if_neg (by omega),if_neg hf,if_neg hf,he]
     have hb:((UInt8.ofNat sy).toNat:Int)=(sy:Int):=by rw[UInt8.toNat_ofNat'];omega
     rw[hb]at hput
     generalize cZ most (UInt8.ofNat sy) {S with p:=p2}=F at *
     have hF1:F.out=(if S.out.length=most then S.out else S.out++[UInt8.ofNat sy]):=by rw[hF]
     have hF2:F.err=(if S.out.length=most then 2 else 0):=by rw[hF]
     have hF3:F.p=p2:=by rw[hF]
     rw[←hF1,←hF2]at hput
     clear hF hF1
     have hlt2:((sy:Nat):Int)<256:=by omega
     refine aw hlt2 ?_
     refine aJ (aW s o most a2 hv2 S.out) hput bD nofun ?_
     rintro h' v ar ⟨rfl,rfl,rfl⟩
     refine⟨bD,rfl,?_⟩
     refine tK ?_
     exact hR2 (a2,hv2,F.out,F) _ ⟨hmv,hg,fun _=>⟨rfl,by rw[hF3];exact hr2⟩⟩ (.le nt)
    ·rw[if_neg hlt,if_neg (by simp)]at hg
     simp only at hg
     have hrp:=Tk s o most a2 hv2 {S with p:=p2} d sy hs ho hm hr2 hol he ht.d15 ht.dl ht.dc (by omega) (by omega)
     have hmv:Mv (s.drop o) most {S with p:=p2} (c8 (s.drop o) most d sy {S with p:=p2}):=sC
     generalize c8 (s.drop o) most d sy {S with p:=p2}=F at *
     have hlt2:¬((sy:Nat):Int)<256:=by omega
     simp only[bn]at hrp
     simp(disch:=omega)only[go_sem,simprocAttr,hlt2,bn]
     refine aJ (aW s o most a2 hv2 S.out) hrp bD nofun ?_
     rintro h' v ar ⟨⟨a3,hv3,out3,rfl,rfl,hF⟩,rfl⟩
     refine⟨bD,rfl,?_⟩
     refine tK ?_
     exact hR2 (a3,hv3,out3,F) _ ⟨hmv,hg,hF⟩ (.le nt)
   ·obtain⟨a3,hv3,out3,F⟩:=y
    obtain⟨g1,g2,g3⟩:=hy
    simp only at g1 g2 g3 ⊢
    by_cases hFe:F.err=0
    ·obtain⟨rfl,hr3⟩:=g3 hFe
     simp(disch:=omega)only[go_sem,simprocAttr,hFe,bn]
     have h1:=g1.p
     have h2:=g1.q hp2.2
     simp only at h1
     refine hJ 2 ⟨h,l,d,a3,hv3,F⟩ _ (by simp only[gZ];omega) ⟨⟨hr3,hFe,g1.o hol,hh⟩,?_⟩ (.le ?_)
     ·rw[if_neg (by decide),if_neg (by decide),if_pos rfl]
      exact⟨ht,g2⟩
     ·simp(disch:=omega)only[go_sem,simprocAttr,gE,aW,aZ,bn]
    ·rw[show cT (s.drop o) most l d F=F from pR _ hFe]at g2
     unfold gU at g2
     rw[if_pos hFe]at g2
     have hi:¬((F.err:Nat):Int)=0:=by omega
     simp(disch:=omega)only[go_sem,simprocAttr,hi,bn]
     exact lP hR F.err g2 hFe a3 hv3 out3 bD
 ·have hsym:aU (s.drop o) l S=(0,{S with err:=re.2.2}):=by
   have:=nr (t:=s.drop o) (l:=l) (S:=S) he (by rw[hre];exact hre2)
   simp only[hre]at this
   exact this
  have hst:dp (s.drop o) most l d S=(true,{S with err:=re.2.2}):=by
   unfold dp
   rw[hsym]
   exact if_pos hre2
  rw[hst,if_pos rfl]at hg
  unfold gU at hg
  rw[if_pos hre2]at hg
  have hi:¬((re.2.2:Nat):Int)=0:=by omega
  refine aw hi ?_
  exact lP hR re.2.2 hg hre2 a2 hv2 S.out bD
set_option maxHeartbeats 1000000 in
theorem T9 (s:Bs) (o most a hv:Nat) (S:SS) (hs:s.length≤1000000000) (ho:o≤s.length) (hm:most≤1000000) (hr:bO s a hv (8*o+S.p)) (hol:S.out.length≤most) (he:S.err=0) :
    Eng.Spec Tryz.prog 120 (aW s o most a hv S.out) [.ab fk 0] (fun h' v ar=>PI s o most (fi (s.drop o) most S) h' v∧ar=[.ab fk 0]):=by
 refine Cod.Ub (fun E R hN hR=>?_)
 generalize hG:fi (s.drop o) most S=G at *
 refine ik ?_
 refine atc hN (gE s o most) (r7 s o most G) (gZ s o) (fun R1 hR1=>?_) (fun l z hz=>?_)
 ·refine wW ?_
  refine da (y:=Cod.po) hN (fun _:Unit=>⟨[(0,.ab 65032 0),(2000000,.ab 65032 0)],aW s o most a hv S.out⟩) (fun _=>True) (fun R2 hR2=>?_) (fun _ _=>?_)
  ·refine wW ?_
   exact hR2 () _ trivial (.le bD)
  ·exact xP s o most G ⟨0,[],[],a,hv,S⟩ hN hs ho hm hR ⟨hr,he,hol,by simp⟩ hG (fun l' z' st' _ h1 h2=>hR1 l' z' st' h1 h2)
 ·obtain⟨h1,h2⟩:=hz
  by_cases l0:l=0
  ·subst l0
   rw[if_pos rfl]at h2
   refine⟨.seq .skip (.bq Cod.po),rfl,fun R1 hR1=>?_⟩
   simp(disch:=omega)only[go_sem,simprocAttr,gE]
   refine dV hN ?_
   exact xP s o most G z hN hs ho hm hR h1 h2 hR1
  ·rw[if_neg l0]at h2
   by_cases l1:l=1
   ·subst l1
    rw[if_pos rfl]at h2
    refine⟨.seq .skip Cod.xO,rfl,fun R1 hR1=>?_⟩
    have ha:=and1 (n:=z.h) (by have:=h1.hl;omega)
    unfold oA at h2
    by_cases hx:z.h%2=1
    ·rw[if_pos hx]at h2
     have hi:¬((z.h%2:Nat):Int)=0:=by omega
     simp(disch:=omega)only[go_sem,simprocAttr,gE,ha,hi,aW]
     refine hR.le (h':=aW s o most z.a z.hv z.S.out) bD ⟨⟨z.a,z.hv,z.S.out,rfl,?_,fun _=>by rw[←h2];exact⟨rfl,h1.r⟩⟩,rfl⟩
     rw[←h2,h1.e];rfl
    ·rw[if_neg hx]at h2
     have hi:((z.h%2:Nat):Int)=0:=by omega
     simp(disch:=omega)only[go_sem,simprocAttr,gE,ha,hi,aW]
     refine hR1 0 z _ (by simp only[gZ];omega) ⟨h1,by rw[if_pos rfl];exact h2⟩ (.le ?_)
     simp(disch:=omega)only[go_sem,simprocAttr,gE,aW,aZ]
   ·rw[if_neg l1]at h2
    by_cases l2:l=2
    ·subst l2
     rw[if_pos rfl]at h2
     exact⟨.seq .skip Cod.r8,rfl,fun R1 hR1=>Ua s o most G z hN hs ho hm hR h1 h2.1 h2.2 hR1⟩
    ·rw[if_neg l2]at h2
     exact h2.elim
theorem Gn (s:Bs) (a:Nat) (hs:s.length≤1000000000000) (ha:a≤s.length):Eng.Spec Tryz.prog 119 [] [.str s,.int .i64 a] (fun h r ar=>h=[(RD,.var (aZ s a 0 a))]∧r=.ab RD 0∧ar=[.undef,.undef]):=by
 refine Cod.Gp (fun E R hN hR=>?_)
 have e:max (0:Int) (min (a:Int) (s.length:Int))=a:=by omega
 refine aw e ?_
 exact hR.le (by simp(disch:=omega)only[go_sem,simprocAttr,aZ,numAt]) ⟨rfl,rfl,rfl⟩
set_option maxHeartbeats 1000000 in
theorem R8 (s:Bs) (o most:Nat) (hs:s.length≤1000000000) (ho:o≤s.length) (hm:most≤65536) :
    aP Tryz.prog 70 [.str s,.int .i64 o,.int .i64 most] (.aj [.str (dF (s.drop o) most).1,.int .i64 ((dF (s.drop o) most).2.1:Nat),.int .i64 ((dF (s.drop o) most).2.2:Nat)]):=by
 refine Cod.R9 (fun E R hN hR=>?_)
 have htl:(s.drop o).length=s.length-o:=List.length_drop
 have pf:=Gn s o (by omega) ho
 have hr0:bO s o 0 (8*o+0):=⟨by omega,ho,by omega⟩
 have hrun:=T9 s o most o 0 ⟨0,[],0⟩ hs ho (by omega) hr0 (by simp) rfl
 unfold dF at hR
 simp only at hR
 generalize hF:fi (s.drop o) most ⟨0,[],0⟩=F at *
 refine wW ?_
 refine gG ?_
 refine aJ [] pf trivial (fun _=>rfl) ?_
 rintro h' v as' ⟨rfl,rfl,rfl⟩
 refine⟨cn,rfl,?_⟩
 refine wW ?_
 refine jx ⟨[(33,.ab 65032 0),(9,.ab 65032 0)],aW s o most o 0 []⟩ (.jI 65032 1 60022 1 [.ab 40014 0,.al,.int .i64 most] rfl rfl rfl (.le ?_)) rfl ?_
 ·exact bD
 refine aJ (aW s o most o 0 []) hrun bD nofun ?_
 rintro h' v ar ⟨⟨a3,hv3,out3,rfl,rfl,hPI⟩,rfl⟩
 refine⟨bD,rfl,?_⟩
 by_cases he:F.err=0
 ·obtain⟨rfl,hr3⟩:=hPI he
  rw[if_neg (by simpa using he)]at hR
  have hu:=anU s a3 hv3 o (8*o+F.p) (by omega) hr3 (by omega)
  have e1:(8*o+F.p+7)/8-o=(F.p+7)/8:=by omega
  rw[e1]at hu
  simp only[aZ]at hu
  simp(disch:=omega)only[go_sem,simprocAttr,he,aW,aZ]
  refine mh [] vV hu trivial (fun _=>rfl) ?_
  rintro h' v ar ⟨rfl,rfl,rfl⟩
  refine⟨rfl,rfl,?_⟩
  refine wW ?_
  exact hR.wk (h':=[]) (r':=.aj [.str F.out,.int .i64 ((F.p+7)/8:Nat),.int .i64 (0:Nat)]) (ar':=[.undef,.undef,.undef]) rfl (.le vV) ⟨rfl,rfl⟩
 ·rw[if_pos he]at hR
  have hi:¬((F.err:Nat):Int)=0:=by omega
  refine aw hi ?_
  exact hR.wk (h':=[]) (r':=.aj [.str [],.int .i64 (0:Nat),.int .i64 (F.err:Nat)]) (ar':=[.undef,.undef,.undef]) rfl (.le vV) ⟨rfl,rfl⟩
open Eng Sh
set_option maxRecDepth 10000
theorem yJ {t:Bs} {most:Nat}:∀(k:Nat) (S:SS),Mv t most S (lU t most k S)
 | 0,_=>.refl
 | k+1,S=>by
  unfold lU
  split
  ·exact kz.1
  ·exact kz.1.trans (yJ k _)
theorem r6 (t:Bs) (most:Nat):(dF t most).1.length≤most∧(dF t most).2.1≤t.length:=by
 unfold dF
 simp only
 have h:=yJ (t:=t) (most:=most) (8*t.length+1-0) ⟨0,[],0⟩
 have h1:(fi t most ⟨0,[],0⟩).p≤8*t.length:=h.q (by simp)
 have h2:(fi t most ⟨0,[],0⟩).out.length≤most:=h.o (by simp)
 split
 ·exact⟨by simp,by simp⟩
 ·exact⟨h2,by simp only;omega⟩
def fG (t:Bs) (most:Nat):Bs×Nat×Nat:=
 if t.length<2 then([],0,6)else if iC (t.getD 0 0).toNat (t.getD 1 0).toNat=false then([],0,3)else
 if(dF (t.drop 2) most).2.2≠0 then([],0,(dF (t.drop 2) most).2.2)else
 if t.length-(2+(dF (t.drop 2) most).2.1)<4 then([],0,6)else
 if eT ((t.drop (2+(dF (t.drop 2) most).2.1)).take 4)≠cC (dF (t.drop 2) most).1 then([],0,5)else((dF (t.drop 2) most).1,(dF (t.drop 2) most).2.1+6,0)
theorem CB (t:Bs) (most:Nat):(fG t most).1.length≤most∧(fG t most).2.1≤t.length:=by
 have h:=r6 (t.drop 2) most
 rw[List.length_drop]at h
 unfold fG
 split
 ·exact⟨by simp,by simp⟩
 ·split
  ·exact⟨by simp,by simp⟩
  ·split
   ·exact⟨by simp,by simp⟩
   ·split
    ·exact⟨by simp,by simp⟩
    ·split
     ·exact⟨by simp,by simp⟩
     ·exact⟨h.1,by simp only;omega⟩
abbrev zV (Z:Bs×Nat×Nat):AV:=.aj [.str Z.1,.int .i64 (Z.2.1:Nat),.int .i64 (Z.2.2:Nat)]
set_option maxHeartbeats 1000000 in
theorem avi (s:Bs) (o most:Nat) (hs:s.length≤1000000) (ho:o≤s.length) (hm:most≤65536):aP Tryz.prog 39 [.str s,.int .i64 o,.int .i64 most] (zV (fG (s.drop o) most)):=by
 refine Cod.avj (fun E R hN hR=>?_)
 unfold fG at hR
 have hdl:(s.drop o).length=s.length-o:=List.length_drop
 rw[hdl]at hR
 by_cases h2:s.length-o<2
 ·rw[if_pos h2]at hR
  have hi:(s.length:Int)-(o:Int)<2:=by omega
  refine aw hi ?_
  refine bQ hi ?_
  exact hR.ro ⟨rfl,rfl⟩
 ·rw[if_neg h2]at hR
  have hi:¬(s.length:Int)-(o:Int)<2:=by omega
  have gd:∀i,(s.drop o).getD i 0=s.getD (o+i) 0:=fun i=>by rw[List.getD_eq_getElem?_getD,List.getElem?_drop,←List.getD_eq_getElem?_getD]
  rw[gd,gd,Nat.add_zero]at hR
  have hh:=auP (s.getD o 0) (s.getD (o+1) 0)
  by_cases hb:iC (s.getD o 0).toNat (s.getD (o+1) 0).toNat=false
  ·rw[if_pos hb]at hR
   rw[hb]at hh
   refine aw hi ?_
   refine bQ hi ?_
   refine aE hh rfl rfl ?_
   refine wW ?_
   exact hR.ro ⟨rfl,rfl⟩
  ·rw[if_neg hb]at hR
   rw[show iC (s.getD o 0).toNat (s.getD (o+1) 0).toNat=true by simpa using hb]at hh
   have hinf:=R8 s (o+2) most (by omega) (by omega) hm
   have hil:=r6 (s.drop (o+2)) most
   rw[List.drop_drop]at hR
   generalize dF (s.drop (o+2)) most=I at *
   rw[List.length_drop]at hil
   refine aw hi ?_
   refine bQ hi ?_
   refine aE hh rfl rfl ?_
   refine wW ?_
   refine aE hinf rfl rfl ?_
   by_cases he:I.2.2=0
   ·rw[if_neg (by simpa using he)]at hR
    by_cases h4:s.length-o-(2+I.2.1)<4
    ·rw[if_pos h4]at hR
     have hj:(s.length:Int)-((o:Int)+2+(I.2.1:Int))<4:=by omega
     refine bH he hj ?_
     exact hR.ro ⟨rfl,rfl⟩
    ·rw[if_neg h4]at hR
     have hj:¬(s.length:Int)-((o:Int)+2+(I.2.1:Int))<4:=by omega
     rw[List.drop_drop]at hR
     have e1:o+(2+I.2.1)=o+2+I.2.1:=by omega
     rw[e1]at hR
     generalize hu:(s.drop (o+2+I.2.1)).take 4=u at *
     have hul:u.length=4:=by rw[←hu,List.length_take,List.length_drop];omega
     have hfb:=LC u (by omega)
     have had:=ua I.1 (by omega)
     have hal:=mb I.1
     have hbl:eT u<4294967296:=by
      have:=qV u 4 (by omega)
      rw[List.take_of_length_le (by omega)]at this
      exact this
     have et:((o:Int)+2+(I.2.1:Int)).toNat=o+2+I.2.1:=by omega
     have et4:((o:Int)+2+(I.2.1:Int)+4).toNat-(o+2+I.2.1)=4:=by omega
     refine cO he hj et et4 hu ?_
     refine aE hfb rfl rfl ?_
     refine wW ?_
     refine aE had rfl rfl ?_
     generalize eT u=x at *
     generalize cC I.1=y at *
     by_cases hxy:x=y
     ·rw[if_neg (by simpa using hxy)]at hR
      have hi:((x:Nat):Int)=(y:Int):=by omega
      refine aw hi ?_
      exact hR.ro ⟨rfl,rfl⟩
     ·rw[if_pos hxy]at hR
      have hi:¬((x:Nat):Int)=(y:Int):=by omega
      refine aw hi ?_
      exact hR.ro ⟨rfl,rfl⟩
   ·rw[if_pos he]at hR
    have hj:¬((I.2.2:Nat):Int)=0:=by omega
    refine aw hj ?_
    exact hR.ro ⟨rfl,rfl⟩
set_option maxHeartbeats 1000000 in
theorem ajR (s:Bs) (o most:Nat) (hs:s.length≤1000000) (ho:o≤s.length) (hm:most≤65536):aP Tryz.prog 24 [.str s,.int .i64 o,.int .i64 most] (zV (fG (s.drop o) most)):=by
 refine Cod.ajS (fun E R hN hR=>?_)
 unfold fG at hR
 have hdl:(s.drop o).length=s.length-o:=List.length_drop
 rw[hdl]at hR
 by_cases h2:s.length-o<2
 ·rw[if_pos h2]at hR
  have hi:(s.length:Int)-(o:Int)<2:=by omega
  refine aw hi ?_
  refine bQ hi ?_
  exact hR.ro ⟨rfl,rfl⟩
 ·rw[if_neg h2]at hR
  have hi:¬(s.length:Int)-(o:Int)<2:=by omega
  have gd:∀i,(s.drop o).getD i 0=s.getD (o+i) 0:=fun i=>by rw[List.getD_eq_getElem?_getD,List.getElem?_drop,←List.getD_eq_getElem?_getD]
  rw[gd,gd,Nat.add_zero]at hR
  have hx1:=(s.getD o 0).toNat_lt
  have hx2:=(s.getD (o+1) 0).toNat_lt
  have hh:=ajs (s.getD o 0).toNat (s.getD (o+1) 0).toNat (s.getD o 0).toNat_lt (s.getD (o+1) 0).toNat_lt
  by_cases hb:iC (s.getD o 0).toNat (s.getD (o+1) 0).toNat=false
  ·rw[if_pos hb]at hR
   rw[hb]at hh
   refine aw hi ?_
   refine bQ hi ?_
   refine aE hh rfl rfl ?_
   refine wW ?_
   exact hR.ro ⟨rfl,rfl⟩
  ·rw[if_neg hb]at hR
   rw[show iC (s.getD o 0).toNat (s.getD (o+1) 0).toNat=true by simpa using hb]at hh
   have hinf:=ahg s (o+2) most (by omega) (by rw[List.length_drop];omega) (by omega) hm
   have hil:=r6 (s.drop (o+2)) most
   rw[List.drop_drop]at hR
   generalize dF (s.drop (o+2)) most=I at *
   rw[List.length_drop]at hil
   refine aw hi ?_
   refine bQ hi ?_
   refine aE hh rfl rfl ?_
   refine wW ?_
   refine aE hinf rfl rfl ?_
   by_cases he:I.2.2=0
   ·rw[if_neg (by simpa using he)]at hR
    have hdr:(s.drop (o+2+I.2.1)).length=s.length-(o+2+I.2.1):=List.length_drop
    have et:((o:Int)+2+(I.2.1:Int)).toNat=o+2+I.2.1:=by omega
    rw[List.drop_drop]at hR
    have e1:o+(2+I.2.1)=o+2+I.2.1:=by omega
    rw[e1]at hR
    generalize hrr:s.drop (o+2+I.2.1)=rr at *
    by_cases h4:s.length-o-(2+I.2.1)<4
    ·rw[if_pos h4]at hR
     refine cL he et hrr ?_
     exact hR.ro ⟨rfl,rfl⟩
    ·rw[if_neg h4]at hR
     generalize hu:rr.take 4=u at *
     have hul:u.length=4:=by rw[←hu,List.length_take];omega
     have had:=Am I.1 (by omega)
     have hal:=mb I.1
     have hbg:=Ar (cC I.1) 4 (by omega) (by omega)
     have hbf:=uI u hul (cC I.1) hal
     refine cL he et hrr ?_
     refine aE had rfl rfl ?_
     refine wW ?_
     refine aE hbg rfl rfl ?_
     generalize eT u=x at *
     by_cases hxy:x=cC I.1
     ·rw[if_neg (by simpa using hxy)]at hR
      have hi:=hbf.1 hxy
      refine bH hu hi ?_
      exact hR.ro ⟨rfl,rfl⟩
     ·rw[if_pos hxy]at hR
      have hi:¬u=(bo (cC I.1) 4).reverse:=fun h=>hxy (hbf.2 h)
      refine bH hu hi ?_
      exact hR.ro ⟨rfl,rfl⟩
   ·rw[if_pos he]at hR
    have hj:¬((I.2.2:Nat):Int)=0:=by omega
    refine aw hj ?_
    exact hR.ro ⟨rfl,rfl⟩
end Go.Proofs.YtlkmppkcbhodaaaGreatDoor.Pk
namespace Go.Proofs.YtlkmppkcbhodaaaGreatDoor.Cod
open Eng Eng.Kz
set_option maxRecDepth 100000
abbrev atx:AK:=.aa [m 64 0,.v 65 (.ao (.t 64)),.v 66 (.ak false 2 1 (.t 65)),.v 67 (.ld false 1 (.t 66)),bi 68 .sub 67 8,.v 69 (.ao (.t 64)),.v 70 (.ak false 2 1 (.t 69)),.aM false 160000 (.st 1 (.t 70) (.t 68))] [0,2000000,2000001,2000002]
abbrev atw:AK:=.seq (.aa [m 57 0,.v 58 (.ao (.t 57)),.v 59 (.ak false 1 1 (.t 58)),.v 60 (.ld false 1 (.t 59)),.v 61 (.bin .shr (.t 60) (.c (.int .u64 8))),.v 62 (.ao (.t 57)),.v 63 (.ak false 1 1 (.t 62)),.aM false 160000 (.st 1 (.t 63) (.t 61))] [0,2000000,2000001,2000002]) atx
abbrev atv:AK:=.seq (.aa [u 160043 43 (.ah (.t 0)),u 160044 44 (.ah (.t 0)),u 160045 45 (.ao (.t 44)),u 160046 46 (.ak false 0 1 (.t 45)),u 160047 47 (.ld false 1 (.t 46)),u 160048 48 (.ah (.t 0)),u 160049 49 (.ao (.t 48)),u 160050 50 (.ak false 1 1 (.t 49)),u 160051 51 (.ld false 1 (.t 50)),u 160052 52 (.a6 .u8 (.t 51)),.eff 53 true 160053 (.a8 1 [(.t 52)]),.eff 54 false 160054 (.app 1 1 (.t 47) (.t 53)),.v 55 (.ao (.t 43)),.v 56 (.ak false 0 1 (.t 55)),.aM false 160000 (.st 1 (.t 56) (.t 54))] [0,2000000,2000001,2000002]) atw
abbrev aty:AK:=.seq (.aa [m 38 0,.v 39 (.ao (.t 38)),.v 40 (.ak false 2 1 (.t 39)),.v 41 (.ld false 1 (.t 40)),bi 42 .geq 41 8] [0,42,2000000,2000001,2000002]) (.cond (.t 42) .skip (.exit 0))
abbrev atu:AK:=.seq aty (.block 1 atv)
abbrev atz:AK:=.loop atu
abbrev att:AK:=.seq (.aa [m 30 0,.v 31 (.ao (.t 30)),.v 32 (.ak false 2 1 (.t 31)),.v 33 (.ld false 1 (.t 32)),m 34 2,b 35 .add 33 34,.v 36 (.ao (.t 30)),.v 37 (.ak false 2 1 (.t 36)),.aM false 160000 (.st 1 (.t 37) (.t 35))] [0,2000000,2000001,2000002]) (.block 0 atz)
abbrev atr:AK:=.seq (.aa [u 160012 12 (.ah (.t 0)),u 160013 13 (.ao (.t 12)),u 160014 14 (.ak false 1 1 (.t 13)),u 160015 15 (.ld false 1 (.t 14)),u 160016 16 (.ah (.t 1)),u 160017 17 (.a6 .u64 (.t 16)),u 160018 18 (.ah (.t 2)),u 160019 19 (.bin .shl (.c (.int .u64 1)) (.t 18)),u 160020 20 (.bin .sub (.t 19) (.c (.int .u64 1))),u 160021 21 (.bin .and (.t 17) (.t 20)),u 160022 22 (.ah (.t 0)),u 160023 23 (.ao (.t 22)),u 160024 24 (.ak false 2 1 (.t 23)),u 160025 25 (.ld false 1 (.t 24)),u 160026 26 (.bin .shl (.t 21) (.t 25)),b 27 .or 15 26,.v 28 (.ao (.t 12)),.v 29 (.ak false 1 1 (.t 28)),.aM false 160000 (.st 1 (.t 29) (.t 27))] [0,2,2000000,2000001,2000002]) att
abbrev ats:AK:=.seq (.aa [m 6 2,bi 7 .lss 6 0,m 8 7,.af 9 8 false false 160009 (.ah (.t 2)),.af 10 8 false false 160010 (.bin .gtr (.t 9) (ci 32)),.v 11 (.pick (.t 8) (.c (.bool true)) (.t 10))] [0,1,2,11,2000000,2000001,2000002]) (.cond (.t 11) .ret .skip)
abbrev atq:AK:=.seq ats atr
abbrev Cm:AK:=atq
theorem atA:aB Tryz.prog 135 160000 3 Cm []:=⟨_,Tryz.func135,by kernel_rfl⟩
theorem atB {h a0 a1 a2 Post} (hp:aD Tryz.prog Cm [] 3 [(0,a0),(1,a1),(2,a2),(2000000,a0),(2000001,a1),(2000002,a2)] h Post):Eng.Spec Tryz.prog 135 h [a0,a1,a2] Post:=aG atA rfl [(0,a0),(1,a1),(2,a2),(2000000,a0),(2000001,a1),(2000002,a2)] ⟨rfl,rfl,rfl,rfl,rfl,rfl,trivial⟩ hp
abbrev atM:AK:=.aa [m 17 6,bi 18 .sub 17 1,m 6 18] [0,1,6,2000000,2000001,2000002]
abbrev atN:AK:=.aa [m 19 0,m 20 1,m 21 6,b 22 .shr 20 21,.ai (some 23) false 161023 135 [(.t 19),(.t 22),(ci 1)]] [0,1,6,2000000,2000001,2000002]
abbrev atL:AK:=.seq (.block 1 atN) atM
abbrev atO:AK:=.seq (.aa [m 15 6,bi 16 .geq 15 0] [0,1,6,16,2000000,2000001,2000002]) (.cond (.t 16) .skip (.exit 0))
abbrev atK:AK:=.seq atO atL
abbrev atP:AK:=.loop atK
abbrev atI:AK:=.seq (.aa [m 13 2,bi 14 .sub 13 1,m 6 14] [0,1,6,2000000,2000001,2000002]) (.block 0 atP)
abbrev atJ:AK:=.seq (.aa [m 7 2,bi 8 .lss 7 1,m 9 8,.af 10 9 false false 161010 (.ah (.t 2)),.af 11 9 false false 161011 (.bin .gtr (.t 10) (ci 32)),.v 12 (.pick (.t 9) (.c (.bool true)) (.t 11))] [0,1,2,12,2000000,2000001,2000002]) (.cond (.t 12) .ret .skip)
abbrev atH:AK:=.seq atJ atI
abbrev Co:AK:=atH
theorem atQ:aB Tryz.prog 137 161000 3 Co []:=⟨_,Tryz.func137,by kernel_rfl⟩
theorem atT {h a0 a1 a2 Post} (hp:aD Tryz.prog Co [] 3 [(0,a0),(1,a1),(2,a2),(2000000,a0),(2000001,a1),(2000002,a2)] h Post):Eng.Spec Tryz.prog 137 h [a0,a1,a2] Post:=aG atQ rfl [(0,a0),(1,a1),(2,a2),(2000000,a0),(2000001,a1),(2000002,a2)] ⟨rfl,rfl,rfl,rfl,rfl,rfl,trivial⟩ hp
abbrev atm:AK:=.aa [m 7 0,m 8 0,.v 9 (.ao (.t 8)),.v 10 (.ak false 2 1 (.t 9)),.v 11 (.ld false 1 (.t 10)),.v 12 (.bin .sub (ci 8) (.t 11)),.ai (some 13) false 162013 135 [(.t 7),(.c (.int .u32 0)),(.t 12)]] [2000000]
abbrev atl:AK:=.seq (.aa [m 2 0,.v 3 (.ao (.t 2)),.v 4 (.ak false 2 1 (.t 3)),.v 5 (.ld false 1 (.t 4)),bi 6 .gtr 5 0] [0,6,2000000]) (.cond (.t 6) atm .skip)
abbrev Cl:AK:=atl
theorem atn:aB Tryz.prog 200 162000 1 Cl []:=⟨_,Tryz.func200,by kernel_rfl⟩
theorem atp {h a0 Post} (hp:aD Tryz.prog Cl [] 1 [(0,a0),(2000000,a0)] h Post):Eng.Spec Tryz.prog 200 h [a0] Post:=aG atn rfl [(0,a0),(2000000,a0)] ⟨rfl,rfl,trivial⟩ hp
abbrev atD:AK:=.aa [m 6 0,m 7 0,.v 8 (.ao (.t 7)),.v 9 (.ak false 0 1 (.t 8)),.v 10 (.ld false 1 (.t 9)),m 11 1,.eff 12 false 163012 (.app 1 1 (.t 10) (.t 11)),.v 13 (.ao (.t 6)),.v 14 (.ak false 0 1 (.t 13)),.aM false 163000 (.st 1 (.t 14) (.t 12))] [2000000,2000001]
abbrev atC:AK:=.seq (.aa [m 4 0,.ai (some 5) false 163005 200 [(.t 4)]] [0,1,2000000,2000001]) atD
abbrev Cn:AK:=atC
theorem atE:aB Tryz.prog 177 163000 2 Cn []:=⟨_,Tryz.func177,by kernel_rfl⟩
theorem atG {h a0 a1 Post} (hp:aD Tryz.prog Cn [] 2 [(0,a0),(1,a1),(2000000,a0),(2000001,a1)] h Post):Eng.Spec Tryz.prog 177 h [a0,a1] Post:=aG atE rfl [(0,a0),(1,a1),(2000000,a0),(2000001,a1)] ⟨rfl,rfl,rfl,rfl,trivial⟩ hp
abbrev auA:AK:=.seq (.aa [m 21 0,.v 22 (.ao (.t 21)),.v 23 (.ak false 0 1 (.t 22)),.v 24 (.ld false 1 (.t 23)),.v 25 (.dK (.t 24)),m 2 25] [2,2000000]) .ret
abbrev auC:AK:=.seq (.aa [u 164008 8 (.ah (.t 0)),u 164009 9 (.ao (.t 8)),u 164010 10 (.ak false 0 1 (.t 9)),u 164011 11 (.ld false 1 (.t 10)),u 164012 12 (.dK (.t 11)),u 164013 13 (.ah (.t 0)),u 164014 14 (.ao (.t 13)),u 164015 15 (.ak false 1 1 (.t 14)),u 164016 16 (.ld false 1 (.t 15)),u 164017 17 (.a6 .u8 (.t 16)),.eff 18 true 164018 (.a8 1 [(.t 17)]),u 164019 19 (.dK (.t 18)),b 20 .add 12 19,m 2 20] [2,2000000]) .ret
abbrev auB:AK:=.seq (.aa [m 3 0,.v 4 (.ao (.t 3)),.v 5 (.ak false 2 1 (.t 4)),.v 6 (.ld false 1 (.t 5)),bi 7 .gtr 6 0] [0,7,2000000]) (.cond (.t 7) auC .skip)
abbrev auz:AK:=.seq auB auA
abbrev auy:AK:=.seq (.aa [k 2 (.c (.str []))] [0,2000000]) auz
abbrev Cv:AK:=auy
theorem auD:aB Tryz.prog 141 164000 1 Cv [.tmp 2]:=⟨_,Tryz.func141,by kernel_rfl⟩
theorem auE {h a0 Post} (hp:aD Tryz.prog Cv [.tmp 2] 1 [(0,a0),(2000000,a0)] h Post):Eng.Spec Tryz.prog 141 h [a0] Post:=aG auD rfl [(0,a0),(2000000,a0)] ⟨rfl,rfl,trivial⟩ hp
abbrev M1:AK:=.seq (.aa [k 4 (.c (.int .u32 0)),k 5 (ci 0)] [4,5,2000000,2000001]) .ret
abbrev M6:AK:=.aa [m 32 8,bi 33 .add 32 1,m 8 33] [0,1,6,7,8,2000000,2000001]
abbrev MQ:AK:=.aa [bi 59 .add 42 1,m 42 59] [0,1,6,7,8,41,42,2000000,2000001]
abbrev MU:AK:=.aa [m 57 7,bi 58 .add 57 1,m 7 58] [0,1,6,7,8,41,42,2000000,2000001]
abbrev MT:AK:=.seq (.aa [m 55 6,.v 56 (.bin .add (.t 55) (.c (.int .u32 1))),m 6 56] [0,1,6,7,8,41,42,2000000,2000001]) MU
abbrev MW:AK:=.seq (.aa [m 53 6,m 54 8,m 4 53,m 5 54] [4,5,2000000,2000001]) .ret
abbrev MV:AK:=.seq (.aa [m 44 0,.v 45 (.ao (.t 44)),.v 46 (.ak false 17 1 (.t 45)),.v 47 (.ld false 1 (.t 46)),m 48 7,.v 49 (.aY 1 (.t 47) (.t 48)),.v 50 (.ld false 1 (.t 49)),m 51 1,b 52 .eql 50 51] [0,1,6,7,8,41,42,52,2000000,2000001]) (.cond (.t 52) MW .skip)
abbrev MR:AK:=.seq MV MT
abbrev MP:AK:=.seq (.block 3 MR) MQ
abbrev MO:AK:=.seq (.cond (.t 43) .skip (.exit 2)) MP
abbrev MN:AK:=.seq (.aa [b 43 .lss 42 41] [0,1,6,7,8,41,42,43,2000000,2000001]) MO
abbrev M8:AK:=.loop MN
abbrev MM:AK:=.seq (.aa [m 36 0,m 37 8,.v 38 (.ao (.t 36)),.v 39 (.ak true 1 16 (.t 38)),.v 40 (.ee 16 1 (.t 39) (.t 37)),.v 41 (.ld false 1 (.t 40)),k 42 (ci 0)] [0,1,6,7,8,41,42,2000000,2000001]) (.block 2 M8)
abbrev ML:AK:=.seq (.aa [m 34 6,.v 35 (.bin .shl (.t 34) (.c (.int .u64 1))),m 6 35] [0,1,6,7,8,2000000,2000001]) MM
abbrev M5:AK:=.seq (.block 1 ML) M6
abbrev MX:AK:=.seq (.aa [m 30 8,bi 31 .leq 30 15] [0,1,6,7,8,31,2000000,2000001]) (.cond (.t 31) .skip (.exit 0))
abbrev M4:AK:=.seq MX M5
abbrev M7:AK:=.loop M4
abbrev M3:AK:=.seq (.aa [k 8 (ci 1)] [0,1,6,7,8,2000000,2000001]) (.block 0 M7)
abbrev MZ:AK:=.seq M3 M1
abbrev MS:AK:=.seq (.aa [k 6 (.c (.int .u32 0)),k 7 (ci 0)] [0,1,6,7,2000000,2000001]) MZ
abbrev M0:AK:=.seq (.aa [k 4 (.c (.int .u32 0)),k 5 (ci 0)] [4,5,2000000,2000001]) .ret
abbrev MY:AK:=.seq (.aa [m 9 1,bi 10 .lss 9 0,m 11 10,.af 12 11 false false 165012 (.ah (.t 1)),.af 13 11 false false 165013 (.ah (.t 0)),.af 14 11 false false 165014 (.ao (.t 13)),.af 15 11 false false 165015 (.ak false 0 1 (.t 14)),.af 16 11 false false 165016 (.ld false 1 (.t 15)),.af 17 11 false false 165017 (.len false (.t 16)),.af 18 11 false false 165018 (.bin .geq (.t 12) (.t 17)),.v 19 (.pick (.t 11) (.c (.bool true)) (.t 18)),m 20 19,.af 21 20 false false 165021 (.ah (.t 0)),.af 22 20 false false 165022 (.ao (.t 21)),.af 23 20 false false 165023 (.ak false 0 1 (.t 22)),.af 24 20 false false 165024 (.ld false 1 (.t 23)),.af 25 20 false false 165025 (.ah (.t 1)),.af 26 20 false false 165026 (.aY 1 (.t 24) (.t 25)),.af 27 20 false false 165027 (.ld false 1 (.t 26)),.af 28 20 false false 165028 (.bin .eql (.t 27) (ci 0)),.v 29 (.pick (.t 20) (.c (.bool true)) (.t 28))] [0,1,29,2000000,2000001]) (.cond (.t 29) M0 .skip)
abbrev MJ:AK:=.seq MY MS
abbrev MI:AK:=.seq (.aa [k 4 (.c (.int .u32 0)),k 5 (ci 0)] [0,1,2000000,2000001]) MJ
abbrev iB:AK:=MI
theorem M9:aB Tryz.prog 136 165000 2 iB [.tmp 4,.tmp 5]:=⟨_,Tryz.func136,by kernel_rfl⟩
theorem Na {h a0 a1 Post} (hp:aD Tryz.prog iB [.tmp 4,.tmp 5] 2 [(0,a0),(1,a1),(2000000,a0),(2000001,a1)] h Post):Eng.Spec Tryz.prog 136 h [a0,a1] Post:=aG M9 rfl [(0,a0),(1,a1),(2000000,a0),(2000001,a1)] ⟨rfl,rfl,rfl,rfl,trivial⟩ hp
abbrev UE:AK:=.aa [m 13 9,bi 14 .sub 13 1,m 9 14] [0,2,9]
abbrev UH:AK:=.seq (.aa [m 24 9,m 25 0,m 26 10,b 27 .sub 25 26,.v 28 (.a6 .u32 (.t 27)),m 29 11,m 6 24,m 7 28,m 8 29] [6,7,8]) .ret
abbrev UG:AK:=.seq (.aa [m 21 10,m 22 0,b 23 .leq 21 22] [0,2,9,10,11,23]) (.cond (.t 23) UH .skip)
abbrev UF:AK:=.seq (.aa [m 16 2,m 17 9,.dyn (some 18) false 166018 (.t 16) [(.t 17)],m 15 18,.v 19 (.ext (.t 15) 0),.v 20 (.ext (.t 15) 1),m 10 19,m 11 20] [0,2,9,10,11]) UG
abbrev UD:AK:=.seq (.block 1 UF) UE
abbrev UI:AK:=.loop UD
abbrev UC:AK:=.seq (.aa [m 12 1,m 9 12] [0,2,9]) (.block 0 UI)
abbrev UB:AK:=.seq (.aa [k 6 (ci 0),k 7 (.c (.int .u32 0)),k 8 (ci 0)] [0,1,2]) UC
abbrev xW:AK:=UB
theorem UJ:aB Tryz.prog 138 166000 3 xW [.tmp 6,.tmp 7,.tmp 8]:=⟨_,Tryz.func138,by kernel_rfl⟩
theorem UK {h a0 a1 a2 Post} (hp:aD Tryz.prog xW [.tmp 6,.tmp 7,.tmp 8] 3 [(0,a0),(1,a1),(2,a2)] h Post):Eng.Spec Tryz.prog 138 h [a0,a1,a2] Post:=aG UJ rfl [(0,a0),(1,a1),(2,a2)] ⟨rfl,rfl,rfl,trivial⟩ hp
abbrev aum:AK:=.seq (.aa [.ai (some 33) false 167033 141 [(.t 3)],m 2 33] [2]) .ret
abbrev aul:AK:=.seq (.aa [m 31 5,.v 32 (.bin .eql (.t 31) (.c (.int .u32 1)))] [0,3,32]) (.cond (.t 32) aum .skip)
abbrev aur:AK:=.seq (.aa [m 28 0,m 29 4,.v 30 (.cy (.t 28) (some (.t 29)) none),m 0 30] [0,3,5]) aul
abbrev auq:AK:=.seq (.aa [u 167015 15 (.ah (.t 4)),u 167016 16 (.a6 .u64 (.t 15)),u 167018 18 (.ah (.t 4)),u 167019 19 (.bin .xor (.t 18) (ci 65535)),u 167020 20 (.a6 .u64 (.t 19)),u 167023 23 (.ah (.t 0)),u 167024 24 (.ah (.t 4)),u 167025 25 (.cy (.t 23) none (some (.t 24))),.ai (some 17) true 167017 178 [(.t 16),(ci 2)],.ai (some 21) false 167021 178 [(.t 20),(ci 2)],b 22 .add 17 21,b 26 .add 22 25,.ai (some 27) false 167027 177 [(.t 3),(.t 26)]] [0,3,4,5]) aur
abbrev Cu:AK:=.seq (.aa [m 13 5,.ai (some 14) false 167014 135 [(.t 3),(.t 13),(ci 3)]] [0,3,4,5]) auq
abbrev aun:AK:=.aa [k 5 (.c (.int .u32 1))] [0,3,4,5]
abbrev Cs:AK:=.seq (.aa [m 9 4,m 10 0,.v 11 (.len true (.t 10)),b 12 .eql 9 11] [0,3,4,5,12]) (.cond (.t 12) aun .skip)
def Ct:AK:=.seq Cs (.bq Cu)
abbrev aup:AK:=.seq (.aa [k 5 (.c (.int .u32 0))] [0,3,4,5]) Ct
abbrev auo:AK:=.seq (.aa [m 6 0,.v 7 (.len true (.t 6)),.v 8 (.mm false (.t 7) (ci 65535)),m 4 8] [0,3,4]) aup
abbrev aus:AK:=.loop (.block 1 auo)
abbrev auk:AK:=.seq (.aa [.eff 3 false 167003 (.alloc [.al,.int .u64 0,.int .i64 0])] [0,3]) (.block 0 aus)
abbrev auj:AK:=.seq (.aa [k 2 (.c (.str []))] [0]) auk
abbrev Cr:AK:=auj
theorem auu (P:Program) (E:Env) (Q:KQ) (st:St) :
 (vcW P E Ct Q st=vcW P E Cs (KQ.seq P E (.bq Cu) Q) st):=
 rfl
theorem aut:aB Tryz.prog 142 167000 1 Cr [.tmp 2]:=⟨_,Tryz.func142,by kernel_rfl⟩
theorem auw {h a0 Post} (hp:aD Tryz.prog Cr [.tmp 2] 1 [(0,a0)] h Post):Eng.Spec Tryz.prog 142 h [a0] Post:=aG aut rfl [(0,a0)] ⟨rfl,trivial⟩ hp
abbrev Qt:AK:=.seq (.aa [m 161 0,.ai (some 162) false 168162 142 [(.t 161)],m 2 162] [2]) .ret
abbrev PR:AK:=.seq (.aa [m 160 21,m 2 160] [2]) .ret
abbrev PQ:AK:=.seq (.aa [m 154 21,.v 155 (.len true (.t 154)),m 156 0,.ai (some 157) false 168157 142 [(.t 156)],.v 158 (.len true (.t 157)),b 159 .lss 155 158] [0,21,159]) (.cond (.t 159) PR .skip)
abbrev PO:AK:=.seq (.aa [.ai (some 153) false 168153 141 [(.t 3)],m 21 153] [0,21]) PQ
abbrev Qs:AK:=.seq PO Qt
abbrev Qr:AK:=.seq (.aa [m 150 19,m 151 20,.ai (some 152) false 168152 137 [(.t 3),(.t 150),(.t 151)]] [0,3]) Qs
abbrev Qq:AK:=.seq (.aa [m 146 4,.ai (some 147) false 168147 136 [(.t 146),(ci 256)],m 145 147,.v 148 (.ext (.t 145) 0),.v 149 (.ext (.t 145) 1),m 19 148,m 20 149] [0,3,19,20]) Qr
abbrev P7:AK:=.aa [m 142 7,m 143 8,b 144 .add 142 143,m 7 144] [0,3,4,5,6,7]
abbrev P6:AK:=.seq (.aa [m 139 15,m 140 16,.ai (some 141) false 168141 135 [(.t 3),(.t 139),(.t 140)]] [0,3,4,5,6,7,8]) P7
abbrev P5:AK:=.seq (.aa [m 136 17,m 137 18,.ai (some 138) false 168138 137 [(.t 3),(.t 136),(.t 137)]] [0,3,4,5,6,7,8,15,16]) P6
abbrev P4:AK:=.seq (.aa [m 131 5,m 132 14,.ai (some 133) false 168133 136 [(.t 131),(.t 132)],m 130 133,.v 134 (.ext (.t 130) 0),.v 135 (.ext (.t 130) 1),m 17 134,m 18 135] [0,3,4,5,6,7,8,15,16,17,18]) P5
abbrev P3:AK:=.seq (.aa [m 125 9,.ai (some 126) false 168126 138 [(.t 125),(ci 29),(.c (.lit (.func (.func 140) #[] #[])))],m 124 126,.v 127 (.ext (.t 124) 0),.v 128 (.ext (.t 124) 1),.v 129 (.ext (.t 124) 2),m 14 127,m 15 128,m 16 129] [0,3,4,5,6,7,8,14,15,16]) P4
abbrev P2:AK:=.seq (.aa [m 121 15,m 122 16,.ai (some 123) false 168123 135 [(.t 3),(.t 121),(.t 122)]] [0,3,4,5,6,7,8,9]) P3
abbrev P1:AK:=.seq (.aa [m 118 17,m 119 18,.ai (some 120) false 168120 137 [(.t 3),(.t 118),(.t 119)]] [0,3,4,5,6,7,8,9,15,16]) P2
abbrev P0:AK:=.seq (.aa [m 112 4,m 113 14,.v 114 (.bin .add (ci 257) (.t 113)),.ai (some 115) false 168115 136 [(.t 112),(.t 114)],m 111 115,.v 116 (.ext (.t 111) 0),.v 117 (.ext (.t 111) 1),m 17 116,m 18 117] [0,3,4,5,6,7,8,9,15,16,17,18]) P1
abbrev PZ:AK:=.seq (.aa [m 106 8,.ai (some 107) false 168107 138 [(.t 106),(ci 28),(.c (.lit (.func (.func 139) #[] #[])))],m 105 107,.v 108 (.ext (.t 105) 0),.v 109 (.ext (.t 105) 1),.v 110 (.ext (.t 105) 2),m 14 108,m 15 109,m 16 110] [0,3,4,5,6,7,8,9,14,15,16]) P0
abbrev Qc:AK:=.seq (.aa [m 103 7,bi 104 .add 103 1,m 7 104] [0,3,4,5,6,7]) (.exit 1)
abbrev Qb:AK:=.seq (.aa [m 100 12,m 101 13,.ai (some 102) false 168102 137 [(.t 3),(.t 100),(.t 101)]] [0,3,4,5,6,7]) Qc
abbrev Qa:AK:=.seq (.aa [m 92 4,m 93 0,m 94 7,.v 95 (.cv (.t 93) (.t 94)),.v 96 (.a6 .i64 (.t 95)),.ai (some 97) false 168097 136 [(.t 92),(.t 96)],m 91 97,.v 98 (.ext (.t 91) 0),.v 99 (.ext (.t 91) 1),m 12 98,m 13 99] [0,3,4,5,6,7,12,13]) Qb
abbrev P9:AK:=.seq (.aa [m 89 8,bi 90 .lss 89 3] [0,3,4,5,6,7,8,9,90]) (.cond (.t 90) Qa .skip)
abbrev PY:AK:=.seq P9 PZ
abbrev Qf:AK:=.aa [m 82 6,m 83 0,m 84 7,m 85 7,bi 86 .add 85 3,.v 87 (.cy (.t 83) (some (.t 84)) (some (.t 86))),m 88 7,.aM false 168000 (.lG none (.t 82) (.t 87) (.t 88))] [0,3,4,5,6,7,8,9]
abbrev Qk:AK:=.aa [m 79 7,m 80 10,b 81 .sub 79 80,m 9 81] [0,3,4,5,6,7,8,9]
abbrev Qm:AK:=.aa [m 77 8,bi 78 .add 77 1,m 8 78] [0,3,4,5,6,7,8,10]
abbrev Qn:AK:=.seq (.aa [m 54 8,bi 55 .lss 54 258,m 56 55,.af 57 56 true true 168057 (.ah (.t 7)),.af 58 56 true true 168058 (.ah (.t 8)),.af 59 56 true true 168059 (.bin .add (.t 57) (.t 58)),.af 60 56 true false 168060 (.ah (.t 0)),.af 61 56 true false 168061 (.len true (.t 60)),.af 62 56 true false 168062 (.bin .lss (.t 59) (.t 61)),.v 63 (.pick (.t 56) (.t 62) (.c (.bool false))),m 64 63,.af 65 64 true true 168065 (.ah (.t 0)),.af 66 64 true true 168066 (.ah (.t 10)),.af 67 64 true true 168067 (.ah (.t 8)),.af 68 64 true true 168068 (.bin .add (.t 66) (.t 67)),.af 69 64 true true 168069 (.cv (.t 65) (.t 68)),.af 70 64 true true 168070 (.ah (.t 0)),.af 71 64 true true 168071 (.ah (.t 7)),.af 72 64 true true 168072 (.ah (.t 8)),.af 73 64 true true 168073 (.bin .add (.t 71) (.t 72)),.af 74 64 true true 168074 (.cv (.t 70) (.t 73)),.af 75 64 true false 168075 (.bin .eql (.t 69) (.t 74)),.v 76 (.pick (.t 64) (.t 75) (.c (.bool false)))] [0,3,4,5,6,7,8,10,76]) (.cond (.t 76) .skip (.exit 2))
abbrev Ql:AK:=.seq Qn (.block 3 Qm)
abbrev Qv:AK:=.loop Ql
abbrev Qj:AK:=.seq (.block 2 Qv) Qk
abbrev Qi:AK:=.seq (.aa [m 47 11,m 48 47,.af 49 48 true false 168049 (.ah (.t 7)),.af 50 48 true false 168050 (.ah (.t 10)),.af 51 48 true false 168051 (.bin .sub (.t 49) (.t 50)),.af 52 48 true false 168052 (.bin .leq (.t 51) (ci 32768)),.v 53 (.pick (.t 48) (.t 52) (.c (.bool false)))] [0,3,4,5,6,7,8,9,10,53]) (.cond (.t 53) Qj .skip)
abbrev Qg:AK:=.seq (.aa [m 38 6,m 39 0,m 40 7,m 41 7,bi 42 .add 41 3,.v 43 (.cy (.t 39) (some (.t 40)) (some (.t 42))),.v 44 (.mH none true (.int .i64 0) (.t 38) (.t 43)),m 37 44,.v 45 (.ext (.t 37) 0),.v 46 (.ext (.t 37) 1),m 10 45,m 11 46] [0,3,4,5,6,7,8,9,10,11]) Qi
def Qe:AK:=.seq Qg (.bq Qf)
abbrev Qd:AK:=.seq (.aa [m 32 7,bi 33 .add 32 3,m 34 0,.v 35 (.len true (.t 34)),b 36 .leq 33 35] [0,3,4,5,6,7,8,9,36]) (.cond (.t 36) Qe .skip)
def PW:AK:=.seq Qd (.bq PY)
abbrev PV:AK:=.seq (.aa [k 8 (ci 0),k 9 (ci 0)] [0,3,4,5,6,7,8,9]) PW
abbrev Qp:AK:=.seq (.aa [m 28 7,m 29 0,.v 30 (.len true (.t 29)),b 31 .lss 28 30] [0,3,4,5,6,7,31]) (.cond (.t 31) .skip (.exit 0))
abbrev PU:AK:=.seq Qp (.block 1 PV)
abbrev Qu:AK:=.loop PU
abbrev PS:AK:=.seq (.aa [k 7 (ci 0)] [0,3,4,5,6,7]) (.block 0 Qu)
abbrev Qo:AK:=.seq PS Qq
abbrev Qh:AK:=.seq (.aa [.eff 27 false 168027 (.ky none),m 6 27] [0,3,4,5,6]) Qo
abbrev P8:AK:=.seq (.aa [.ai (some 26) false 168026 135 [(.t 3),(.c (.int .u32 3)),(ci 3)]] [0,3,4,5]) Qh
abbrev PX:AK:=.seq (.aa [.ai (some 23) false 168023 134 [],m 22 23,.v 24 (.ext (.t 22) 0),.v 25 (.ext (.t 22) 1),m 4 24,m 5 25] [0,3,4,5]) P8
abbrev PN:AK:=.seq (.aa [.eff 3 false 168003 (.alloc [.al,.int .u64 0,.int .i64 0])] [0,3]) PX
abbrev PM:AK:=.seq (.aa [k 2 (.c (.str []))] [0]) PN
abbrev xx:AK:=PM
theorem Qw:aB Tryz.prog 91 168000 1 xx [.tmp 2]:=⟨_,Tryz.func91,by kernel_rfl⟩
theorem Qy {h a0 Post} (hp:aD Tryz.prog xx [.tmp 2] 1 [(0,a0)] h Post):Eng.Spec Tryz.prog 91 h [a0] Post:=aG Qw rfl [(0,a0)] ⟨rfl,trivial⟩ hp
abbrev auJ:AK:=.seq (.aa [m 5 0,.v 6 (.bin .add (.c (.str [120,1])) (.t 5)),m 7 1,.ai (some 8) false 169008 72 [(.t 7)],.v 9 (.a6 .u64 (.t 8)),.ai (some 10) false 169010 133 [(.t 9),(ci 4)],b 11 .add 6 10,m 4 11] [4]) .ret
abbrev auI:AK:=.seq (.aa [k 4 (.c (.str []))] [0,1]) auJ
abbrev Cx:AK:=auI
theorem auK:aB Tryz.prog 90 169000 2 Cx [.tmp 4]:=⟨_,Tryz.func90,by kernel_rfl⟩
theorem auL {h a0 a1 Post} (hp:aD Tryz.prog Cx [.tmp 4] 2 [(0,a0),(1,a1)] h Post):Eng.Spec Tryz.prog 90 h [a0,a1] Post:=aG auK rfl [(0,a0),(1,a1)] ⟨rfl,rfl,trivial⟩ hp
abbrev avl:AK:=.seq (.aa [m 3 0,.ai (some 4) false 170004 91 [(.t 3)],m 5 0,.ai (some 6) false 170006 90 [(.t 4),(.t 5)],m 2 6] [2]) .ret
abbrev avk:AK:=.seq (.aa [k 2 (.c (.str []))] [0]) avl
abbrev CD:AK:=avk
theorem avm:aB Tryz.prog 47 170000 1 CD [.tmp 2]:=⟨_,Tryz.func47,by kernel_rfl⟩
theorem avo {h a0 Post} (hp:aD Tryz.prog CD [.tmp 2] 1 [(0,a0)] h Post):Eng.Spec Tryz.prog 47 h [a0] Post:=aG avm rfl [(0,a0)] ⟨rfl,trivial⟩ hp
abbrev apC:AK:=.seq (.aa [m 26 5,.v 27 (.dK (.t 26)),m 4 27] [4]) .ret
abbrev apH:AK:=.aa [bi 25 .add 9 1,m 9 25] [0,5,8,9]
abbrev apy:AK:=.aa [m 17 5,m 18 0,m 19 6,.v 20 (.bin .mul (ci 8) (.t 19)),b 21 .shr 18 20,.v 22 (.a6 .u8 (.t 21)),.eff 23 false 177023 (.a8 1 [(.t 22)]),.eff 24 false 177024 (.app 1 1 (.t 17) (.t 23)),m 5 24] [0,5,8,9]
abbrev apA:AK:=.seq (.aa [m 14 5,.eff 15 false 177015 (.a8 1 [(.c (.int .u8 0))]),.eff 16 false 177016 (.app 1 1 (.t 14) (.t 15)),m 5 16] [0,5,8,9]) (.exit 1)
abbrev apz:AK:=.seq (.aa [m 12 6,bi 13 .geq 12 8] [0,5,6,8,9,13]) (.cond (.t 13) apA .skip)
abbrev apx:AK:=.seq apz apy
abbrev apw:AK:=.seq (.aa [m 11 9,m 6 11] [0,5,6,8,9]) apx
abbrev apG:AK:=.seq (.block 1 apw) apH
abbrev apF:AK:=.seq (.cond (.t 10) .skip (.exit 0)) apG
abbrev apE:AK:=.seq (.aa [b 10 .lss 9 8] [0,5,8,9,10]) apF
abbrev apI:AK:=.loop apE
abbrev apD:AK:=.seq (.aa [m 7 1,.v 8 (.mm true (.t 7) (ci 0)),k 9 (ci 0)] [0,5,8,9]) (.block 0 apI)
abbrev apB:AK:=.seq apD apC
abbrev apv:AK:=.seq (.aa [k 5 (.c (.al))] [0,1,5]) apB
abbrev apu:AK:=.seq (.aa [k 4 (.c (.str []))] [0,1]) apv
abbrev Bu:AK:=apu
theorem apJ:aB Tryz.prog 178 177000 2 Bu [.tmp 4]:=⟨_,Tryz.func178,by kernel_rfl⟩
theorem apK {h a0 a1 Post} (hp:aD Tryz.prog Bu [.tmp 4] 2 [(0,a0),(1,a1)] h Post):Eng.Spec Tryz.prog 178 h [a0,a1] Post:=aG apJ rfl [(0,a0),(1,a1)] ⟨rfl,rfl,trivial⟩ hp
end Go.Proofs.YtlkmppkcbhodaaaGreatDoor.Cod
namespace Go.Proofs.YtlkmppkcbhodaaaGreatDoor.Pk
open Eng
set_option maxRecDepth 10000
def ct (x n:Nat):List Bool:=(List.range n).map x.testBit
theorem fb (x n:Nat):(ct x n).length=n:=by simp[ct]
theorem sI (c:Bool) (b:List Bool):bB (c::b)=2*bB b+c.toNat:=by simp[bB]
theorem mJ:∀(a b:List Bool),bB (a++b)=bB a+2^a.length*bB b
 | [],b=>by simp[bB]
 | c::a,b=>by
  rw[List.cons_append,sI,sI,mJ a b,List.length_cons,Nat.pow_succ]
  generalize 2^a.length=q
  rw[Nat.mul_add,show q*2*bB b=2*(q*bB b)by rw[Nat.mul_comm q 2,Nat.mul_assoc]]
  omega
theorem aax (l:List Bool) (m:Nat):bB (l.take m)=bB l%2^m:=by
 by_cases h:m≤l.length
 ·have e:bB l=bB (l.take m)+2^m*bB (l.drop m):=by
   have:=mJ (l.take m) (l.drop m)
   rwa[List.take_append_drop,List.length_take,Nat.min_eq_left h]at this
  have h1:=kC (l.take m)
  rw[List.length_take,Nat.min_eq_left h]at h1
  rw[e,Nat.add_mul_mod_self_left,Nat.mod_eq_of_lt h1]
 ·rw[List.take_of_length_le (by omega),Nat.mod_eq_of_lt]
  exact Nat.lt_of_lt_of_le (kC l) (Nat.pow_le_pow_right (by decide) (by omega))
theorem aaw (l:List Bool) (m:Nat):bB (l.drop m)=bB l/2^m:=by
 by_cases h:m≤l.length
 ·have e:bB l=bB (l.take m)+2^m*bB (l.drop m):=by
   have:=mJ (l.take m) (l.drop m)
   rwa[List.take_append_drop,List.length_take,Nat.min_eq_left h]at this
  have h1:=kC (l.take m)
  rw[List.length_take,Nat.min_eq_left h]at h1
  rw[e,Nat.add_mul_div_left _ _ (Nat.pow_pos (by decide)),Nat.div_eq_of_lt h1,Nat.zero_add]
 ·rw[List.drop_of_length_le (by omega),Nat.div_eq_of_lt]
  ·rfl
  ·exact Nat.lt_of_lt_of_le (kC l) (Nat.pow_le_pow_right (by decide) (by omega))
theorem sJ (x:Nat):∀n,bB (ct x n)=x%2^n
 | 0=>by simp[ct,bB,Nat.mod_one]
 | n+1=>by
  have e:ct x (n+1)=ct x n++[x.testBit n]:=by simp[ct,List.range_succ]
  rw[e,yQ,sJ x n,fb,BQ]
def gr (bs:List Bool) (i:Nat):UInt8:=UInt8.ofNat (bB (bs.drop (8*i)))
def dk (bs:List Bool) (k:Nat):Bs:=(List.range k).map (gr bs)
theorem jh (bs:List Bool) (k:Nat):(dk bs k).length=k:=by simp[dk]
theorem zf (bs:List Bool) (k:Nat):dk bs (k+1)=dk bs k++[gr bs k]:=by simp[dk,List.range_succ]
theorem zd (bs xs:List Bool) (k:Nat) (h:8*k≤bs.length):dk (bs++xs) k=dk bs k:=by
 unfold dk
 refine List.map_congr_left (fun i hi=>?_)
 have hi:=List.mem_range.1 hi
 unfold gr
 rw[List.drop_append_of_le_length (by omega),mJ]
 apply UInt8.toNat_inj.1
 rw[UInt8.toNat_ofNat',UInt8.toNat_ofNat']
 have:2^(bs.drop (8*i)).length=256*2^((bs.drop (8*i)).length-8):=by
  rw[show(256:Nat)=2^8 by decide,←Nat.pow_add]
  congr 1
  rw[List.length_drop];omega
 rw[this,Nat.mul_assoc]
 omega
def WR:Nat:=160900
def WO:Nat:=160901
attribute [go_sem] WR WO
def cP (bs:List Bool) (k:Nat):List AV:=[.sl WO 0 k,.int .u64 (bB (bs.drop (8*k)):Nat),.int .i64 (bs.length-8*k:Nat)]
def cQ (bs:List Bool) (k:Nat):HP:=[(WR,.var (cP bs k)),(WO,.arr 1 ((dk bs k).map ub))]
def bA (bs:List Bool):HP:=cQ bs (bs.length/8)
theorem dz {p:Prop} (h:p:=by simp(disch:=first | omega | (simp only[Lx];omega))only[go_sem,simprocAttr,bA,cQ,cP]):p:=h
theorem Cj {a b:Prop} (k:b) (h:b→a:=by intro h;simp(disch:=first | omega | (simp only[Lx];omega))only[go_sem,simprocAttr,bA,cQ,cP];exact h):a:=h k
theorem qu {E0:Prop} {p:Prop} (e0:E0) (h:E0→p:=by intro e0;simp(disch:=first | omega | (simp only[Lx];omega))only[go_sem,simprocAttr,bA,cQ,cP,e0]):p:=h e0
theorem Ck {E0:Prop} {a b:Prop} (e0:E0) (k:b) (h:E0→b→a:=by intro e0 h;simp(disch:=first | omega | (simp only[Lx];omega))only[go_sem,simprocAttr,bA,cQ,cP,e0];exact h):a:=h e0 k
theorem ath {E0 E1 E2 E3 E4:Prop} {a b:Prop} (e0:E0) (e1:E1) (e2:E2) (e3:E3) (e4:E4) (k:b) (h:E0→E1→E2→E3→E4→b→a:=by intro e0 e1 e2 e3 e4 h;simp(disch:=first | omega | (simp only[Lx];omega))only[go_sem,simprocAttr,bA,cQ,cP,e0,e1,e2,e3,e4];exact h):a:=h e0 e1 e2 e3 e4 k
theorem vh (bs:List Bool) (k:Nat):AV.int .u8 (IntKind.u8.wrap ((bB (bs.drop (8*k)):Nat):Int))=ub (gr bs k):=by
 unfold ub gr
 rw[UInt8.toNat_ofNat']
 congr 1
theorem aoY (x:Nat):((x:Nat):Int).fdiv (2^min 8 64)=((x/2^8:Nat):Int):=by
 rw[show(2:Int)^min 8 64=((2^8:Nat):Int)by decide]
 rw[Int.fdiv_eq_ediv_of_nonneg _ (by omega)]
 rfl
theorem abk {x k b:Nat} (hx:x<2^k) (hk:k≤7) (hb:b<2^32):bits .or .u64 (x:Int) (IntKind.u64.wrap ((b:Int)*2^min k 64))=((x+2^k*b:Nat):Int):=by
 have hp:2^k≤2^7:=Nat.pow_le_pow_right (by decide) hk
 have h2:b*2^k≤(2^32-1)*2^7:=Nat.mul_le_mul (by omega) hp
 have e:IntKind.u64.wrap ((b:Int)*2^min k 64)=((b*2^k:Nat):Int):=by
  rw[Nat.min_eq_left (by omega),show((b:Int)*2^k)=((b*2^k:Nat):Int)by push_cast;rfl]
  exact wrap_u64 (by omega)
 rw[e]
 show IntKind.u64.wrap ((BitVec.ofInt 64 (x:Int) ||| BitVec.ofInt 64 ((b*2^k:Nat):Int)).toNat:Int)=_
 rw[BitVec.ofInt_natCast,BitVec.ofInt_natCast,BitVec.toNat_or,BitVec.toNat_ofNat,BitVec.toNat_ofNat,Nat.mod_eq_of_lt (by omega),Nat.mod_eq_of_lt (by omega),Nat.or_comm,←Nat.shiftLeft_eq,←Nat.shiftLeft_add_eq_or_of_lt hx,Nat.shiftLeft_eq,Nat.add_comm,Nat.mul_comm]
 exact wrap_u64 (by rw[Nat.mul_comm];omega)
theorem l3 (bs:List Bool) (x n:Nat) (hx:x<2^32) (hn:n≤32) (hb:bs.length≤1000000000000):Eng.Spec Tryz.prog 135 (bA bs) [.ab WR 0,.int .u32 x,.int .i64 n]
    (fun h' v ar=>h'=bA (bs++ct x n)∧v=.aj []∧ar=[.ab WR 0,.int .u32 x,.int .i64 n]):=by
 refine Cod.atB (fun E R hN hR=>?_)
 generalize hbs:bs++ct x n=cs at *
 have hl:cs.length=bs.length+n:=by rw[←hbs,List.length_append,fb]
 have hhv:(bs.length-8*(bs.length/8))≤7:=by omega
 have hlt:bB (bs.drop (8*(bs.length/8)))<2^(bs.length-8*(bs.length/8)):=by have:=kC (bs.drop (8*(bs.length/8)));rwa[List.length_drop]at this
 have hand:=uj x n (by omega) hn
 have hxm:x%2^n<2^32:=Nat.lt_of_le_of_lt (Nat.mod_le _ _) hx
 have hor:=abk hlt hhv hxm
 have hnum:bB (cs.drop (8*(bs.length/8)))=bB (bs.drop (8*(bs.length/8)))+2^(bs.length-8*(bs.length/8))*(x%2^n):=by
  rw[←hbs,List.drop_append_of_le_length (by omega),mJ,sJ,List.length_drop]
 rw[←hnum]at hor
 have hpk:dk bs (bs.length/8)=dk cs (bs.length/8):=by rw[←hbs,zd _ _ _ (by omega)]
 refine Cj ?_
 refine gG ?_
 rw[hand,hor,hpk]
 refine a7 hN (fun k:Nat=>⟨[(0,.ab WR 0),(2000000,.ab WR 0),(2000001,.int .u32 x),(2000002,.int .i64 n)],cQ cs k⟩) (fun k=>8*k≤cs.length∧cs.length-8*k≤39) (fun k=>cs.length-8*k) (bs.length/8) (.le ?_) ⟨by omega,by omega⟩ ?_
 ·simp(disch:=omega)only[go_sem,simprocAttr,cQ,cP,show cs.length-8*(bs.length/8)=bs.length-8*(bs.length/8)+n by omega]
 rintro k R1 ⟨hk,hk2⟩ hR1
 have hnl:bB (cs.drop (8*k))<2^39:=by
  have:=kC (cs.drop (8*k))
  rw[List.length_drop]at this
  exact Nat.lt_of_lt_of_le this (Nat.pow_le_pow_right (by decide) hk2)
 by_cases h8:8≤cs.length-8*k
 ·have hd:bB (cs.drop (8*(k+1)))=bB (cs.drop (8*k))/2^8:=by
   rw[show 8*(k+1)=8*k+8 by omega,←List.drop_drop,aaw]
  have hby:=vh cs k
  have hps:=zf cs k
  have hpl:=jh cs k
  simp(disch:=omega)only[go_sem,simprocAttr,cQ,cP,fu,hpl]
  rw[aoY,←hd]
  refine hR1 (k+1) _ (by omega) ⟨by omega,by omega⟩ (.le ?_)
  simp(disch:=omega)only[go_sem,simprocAttr,cQ,cP,hps,show cs.length-8*(k+1)=cs.length-8*k-8 by omega]
  rw[hby]
  simp
 ·have e:k=cs.length/8:=by omega
  subst e
  simp(disch:=omega)only[go_sem,simprocAttr,cQ,cP]
  exact hR.le dz ⟨rfl,rfl,rfl⟩
open Eng
set_option maxRecDepth 10000
theorem ib (x k:Nat) (hk:k≤31):((x:Nat):Int).fdiv (2^min k 32)=((x/2^k:Nat):Int):=by
 rw[Nat.min_eq_left (by omega),show(2:Int)^k=((2^k:Nat):Int)by push_cast;rfl,Int.fdiv_eq_ediv_of_nonneg _ (Int.natCast_nonneg _)]
 rfl
theorem YO (x:Nat):ct x 1=[x%2==1]:=by
 simp[ct,Nat.testBit_zero]
 rw[Bool.eq_iff_iff];simp
theorem atS (bs:List Bool) (x n:Nat) (hx:x<2^32) (hn:n≤32) (hb:bs.length≤100000000000):Eng.Spec Tryz.prog 137 (bA bs) [.ab WR 0,.int .u32 x,.int .i64 n]
    (fun h' v ar=>h'=bA (bs++bitsM x n)∧v=.aj []∧ar=[.ab WR 0,.int .u32 x,.int .i64 n]):=by
 refine Cod.atT (fun E R hN hR=>?_)
 by_cases h0:n=0
 ·subst h0
  rw[show bs++bitsM x 0=bs by simp[bitsM]]at hR
  refine wW ?_
  refine gG ?_
  exact hR.le (h':=bA bs) dz ⟨rfl,rfl,rfl⟩
 ·refine wW ?_
  refine gG ?_
  refine a7 hN (fun j:Nat=>⟨[(0,.ab WR 0),(1,.int .u32 x),(6,.int .i64 ((j:Int)-1)),(2000000,.ab WR 0),(2000001,.int .u32 x),(2000002,.int .i64 n)],bA (bs++bitsM (x/2^j) (n-j))⟩) (fun j=>j≤n) (fun j=>j) n (.le (by simp(disch:=omega)only[go_sem,simprocAttr,show n-n=0 by omega,bitsM,List.append_nil,bA,cQ,cP])) (by omega) ?_
  rintro j R1 hj hR1
  cases j with
  | zero=>
   rw[show x/2^0=x by simp,Nat.sub_zero]
   refine wW ?_
   exact hR.le dz ⟨rfl,rfl,rfl⟩
  | succ j=>
   have hs:=ib x j (by omega)
   have hq:x/2^j<2^32:=Nat.lt_of_le_of_lt (Nat.div_le_self _ _) hx
   have hc:=l3 (bs++bitsM (x/2^(j+1)) (n-(j+1))) (x/2^j) 1 hq (by omega) (by rw[List.length_append,nS];omega)
   have e:bs++bitsM (x/2^(j+1)) (n-(j+1))++ct (x/2^j) 1=bs++bitsM (x/2^j) (n-j):=by
    rw[List.append_assoc,YO,show n-j=(n-(j+1))+1 by omega,bitsM,Nat.div_div_eq_div_mul,Nat.pow_succ]
   rw[e,show((1:Nat):Int)=1 from rfl]at hc
   simp(disch:=omega)only[go_sem,simprocAttr,show(j:Int)+1-1=j by omega,hs]
   refine aJ (bA (bs++bitsM (x/2^(j+1)) (n-(j+1)))) hc dz nofun ?_
   rintro h' v ar ⟨rfl,rfl,rfl⟩
   refine⟨dz,rfl,?_⟩
   refine wW ?_
   exact hR1 j _ (by omega) (by omega) (.le dz)
def dJ (bs:List Bool):List Bool:=bs++List.replicate ((8-bs.length%8)%8) false
theorem nG (bs:List Bool):(dJ bs).length=8*((bs.length+7)/8):=by
 simp only[dJ,List.length_append,List.length_replicate];omega
theorem YP (n:Nat):ct 0 n=List.replicate n false:=by
 unfold ct
 rw[List.map_congr_left (g:=fun _=>false) (fun i _=>Nat.zero_testBit i)]
 simp[List.map_const']
theorem ato (bs:List Bool) (hb:bs.length≤100000000000):Eng.Spec Tryz.prog 200 (bA bs) [.ab WR 0]
    (fun h' v ar=>h'=bA (dJ bs)∧v=.aj []∧ar=[.ab WR 0]):=by
 refine Cod.atp (fun E R hN hR=>?_)
 have e8:bs.length-8*(bs.length/8)=bs.length%8:=by omega
 by_cases h0:bs.length%8=0
 ·have e:dJ bs=bs:=by simp[dJ,h0]
  rw[e]at hR
  refine Ck e8 ?_
  exact hR.le (qu e8) ⟨rfl,rfl,rfl⟩
 ·have hc:=l3 bs 0 (8-bs.length%8) (by decide) (by omega) (by omega)
  have e:bs++ct 0 (8-bs.length%8)=dJ bs:=by rw[YP,dJ,Nat.mod_eq_of_lt (show 8-bs.length%8<8 by omega)]
  rw[e]at hc
  have ei:((8-bs.length%8:Nat):Int)=8-((bs.length%8:Nat):Int):=by omega
  rw[ei,show((0:Nat):Int)=0 from rfl]at hc
  have hg:(0:Int)<((bs.length%8:Nat):Int):=by omega
  refine Ck e8 ?_
  refine aJ (bA bs) hc (qu e8) nofun ?_
  rintro h' v ar ⟨rfl,rfl,rfl⟩
  refine⟨dz,rfl,?_⟩
  refine wW ?_
  exact hR.le dz ⟨rfl,rfl,rfl⟩
theorem G3 (a:List Bool) (s:Bs) (k i:Nat) (ha:a.length=8*k) (hi:i<s.length):gr (a++aR s 0) (k+i)=s.getD i 0:=by
 unfold gr
 apply UInt8.toNat_inj.1
 rw[UInt8.toNat_ofNat',List.drop_append,List.drop_of_length_le (by omega),List.nil_append,show 8*(k+i)-a.length=8*i by omega]
 have h1:(aR s 0).drop (8*i)=aR s (8*i):=by
  unfold aR
  apply List.ext_getElem?
  intro j
  simp only[List.getElem?_drop,List.getElem?_map,List.getElem?_range',Nat.sub_zero,Nat.zero_add]
  by_cases h:8*i+j<8*s.length
  ·rw[List.getElem?_range h,List.getElem?_range (by omega)];rfl
  ·rw[List.getElem?_eq_none (by simp;omega),List.getElem?_eq_none (by simp;omega)];rfl
 rw[h1,←aax,pM s (8*i) 8 (by omega),jg]
theorem ze (a:List Bool) (s:Bs) (k:Nat) (ha:a.length=8*k):dk (a++aR s 0) (k+s.length)=dk a k++s:=by
 apply List.ext_getElem?
 intro j
 by_cases hj:j<k
 ·rw[List.getElem?_append_left (by rw[jh];exact hj)]
  have:=congrArg (fun l=>l[j]?) (zd a (aR s 0) k (by omega))
  rw[←this]
  unfold dk
  rw[List.getElem?_map,List.getElem?_map,List.getElem?_range (by omega),List.getElem?_range hj]
 ·rw[List.getElem?_append_right (by rw[jh];omega),jh]
  unfold dk
  by_cases hj2:j<k+s.length
  ·rw[List.getElem?_map,List.getElem?_range hj2,Option.map_some,show j=k+(j-k)by omega,G3 a s k (j-k) ha (by omega),List.getD_eq_getElem?_getD,List.getElem?_eq_getElem (by omega),show k+(j-k)-k=j-k by omega,List.getElem?_eq_getElem (by omega)]
   rfl
  ·rw[List.getElem?_eq_none (by simp;omega),List.getElem?_eq_none (by omega)]
theorem atF (bs:List Bool) (s:Bs) (hb:bs.length≤10000000000) (hs:s.length≤1000000000):Eng.Spec Tryz.prog 177 (bA bs) [.ab WR 0,.str s]
    (fun h' v ar=>h'=bA (dJ bs++aR s 0)∧v=.aj []∧ar=[.ab WR 0,.str s]):=by
 refine Cod.atG (fun E R hN hR=>?_)
 have hal:=nG bs
 have hrl:=fS s 0
 generalize hk:(bs.length+7)/8=k at *
 have ek:(dJ bs).length/8=k:=by omega
 have hl:(dJ bs++aR s 0).length=8*(k+s.length):=by rw[List.length_append,hal,hrl];omega
 have el:(dJ bs++aR s 0).length/8=k+s.length:=by omega
 have hpb:=ze (dJ bs) s k hal
 have hn1:bB ((dJ bs).drop (8*k))=0:=by rw[List.drop_of_length_le (by omega)];rfl
 have hn2:bB ((dJ bs++aR s 0).drop (8*(k+s.length)))=0:=by rw[List.drop_of_length_le (by omega)];rfl
 have hpl:=jh (dJ bs) k
 refine wW ?_
 refine aJ (bA bs) (ato bs (by omega)) dz nofun ?_
 rintro h' v ar ⟨rfl,rfl,rfl⟩
 refine⟨dz,rfl,?_⟩
 simp(disch:=omega)only[go_sem,simprocAttr,bA,cQ,cP,ek,fu,hpl,show(dJ bs).length-8*k=0 by omega,hn1]
 refine hR.le ?_ ⟨rfl,rfl,rfl⟩
 simp(disch:=omega)only[go_sem,simprocAttr,bA,cQ,cP,el,show(dJ bs++aR s 0).length-8*(k+s.length)=0 by omega,hn2]
 rw[←List.length_append,el,hpb]
def eC (bs:List Bool):Bs:=dk bs ((bs.length+7)/8)
theorem vl (l:Bs):bytesOf (l.map ub)=l:=by
 simp[bytesOf,List.map_map]
 refine(List.map_congr_left (fun c _=>?_)).trans (List.map_id l)
 simp[ub,byteOfAV]
theorem uh (l:Bs):eH (l.map ub)=true:=by simp[eH,ub,fN]
theorem Cw (bs:List Bool) (hb:bs.length≤100000000000):Eng.Spec Tryz.prog 141 (bA bs) [.ab WR 0]
    (fun h' v ar=>h'=bA bs∧v=.str (eC bs)∧ar=[.ab WR 0]):=by
 refine Cod.auE (fun E R hN hR=>?_)
 have e8:bs.length-8*(bs.length/8)=bs.length%8:=by omega
 have hpl:=jh bs (bs.length/8)
 have hbp:=vl (dk bs (bs.length/8))
 have hba:=uh (dk bs (bs.length/8))
 by_cases h0:bs.length%8=0
 ·have e:eC bs=dk bs (bs.length/8):=by unfold eC;congr 1;omega
  rw[e]at hR
  refine ath e8 @fu hpl hbp hba ?_
  exact hR.le (qu e8) ⟨rfl,rfl,rfl⟩
 ·have e:eC bs=dk bs (bs.length/8)++[gr bs (bs.length/8)]:=by unfold eC;rw[show(bs.length+7)/8=bs.length/8+1 by omega,zf]
  rw[e]at hR
  have hg:(0:Int)<((bs.length%8:Nat):Int):=by omega
  have hby:=vh bs (bs.length/8)
  have hb1:bytesOf [.int .u8 ((gr bs (bs.length/8)).toNat:Int)]=[gr bs (bs.length/8)]:=vl [_]
  have hb2:eH [.int .u8 ((gr bs (bs.length/8)).toNat:Int)]=true:=uh [_]
  simp(disch:=omega)only[go_sem,simprocAttr,bA,cQ,cP,e8,fu,hpl,hbp,hba,hby,hb1,hb2]
  exact hR.le (qu e8) ⟨rfl,rfl,rfl⟩
theorem AH (l:List Nat) {s t:Nat} (hs:s<l.length) (ht:t<l.length) (he:l.getD s 0=l.getD t 0) (hr:fh l s=fh l t):s=t:=by
 have key:∀{s t:Nat},s<l.length→t<l.length→l.getD s 0=l.getD t 0→s<t→fh l s<fh l t:=by
  intro s t hs ht he hlt
  unfold fh
  rw[←he]
  have h1:=rh (l.take t) (s+1) (l.getD s 0)
  rw[List.take_take,Nat.min_eq_left (by omega),dU l 0 hs,iU,if_pos rfl]at h1
  omega
 rcases Nat.lt_trichotomy s t with h | h | h
 ·have:=key hs ht he h;omega
 ·exact h
 ·have:=key ht hs he.symm h;omega
def jD (l:List Nat) (m:Nat):Nat:=if m=0 then 0 else fstL l m+bj l m
theorem MH (l:List Nat) (m:Nat):fstL l (m+1)=2*jD l m:=by
 cases m with
 | zero=>rfl
 | succ m=>simp[jD,fstL]
theorem xd (l:List Nat) (hl:∀n∈l,n≤15) (hll:l.length≤320) (hck:bm l=true) (s:Nat) (hs:s<l.length) (h1:1≤l.getD s 0) :
    aP Tryz.prog 136 [bn l,.int .i64 s] (.aj [.int .u32 (cp l s:Nat),.int .i64 (l.getD s 0:Nat)]):=by
 have hc:b6 l≤32768:=by unfold bm at hck;simp at hck;exact hck.1
 refine Cod.Na (fun E R hN hR=>?_)
 have h15:=gF hl s
 have hsl:=jQ l 15
 have htl:=BX l
 have hts:=BZ l
 have hnl:=bV (sortL l 15)
 have hnl0:=bV l
 have hns:=dG hs
 have hsub:=qo l
 have hcl:=iV l
 have ht0:(dZ l).getD 0 .undef=.ro 1 (an l):=rfl
 generalize hL:l.getD s 0=L at *
 have hrk:=mV l hs
 rw[hL]at hrk
 have hne:¬((L:Int)=0):=by omega
 simp(disch:=omega)only[go_sem,simprocAttr,bn,htl,hts,ht0,hnl,hnl0,hns,hne]
 refine gG ?_
 refine a7 hN (fun m:Nat=>⟨[(0,.au (.agg (dZ l))),(1,.int .i64 s),(6,.int .u32 (jD l m:Nat)),(7,.int .i64 (bz l (m+1):Nat)),(8,.int .i64 ((m:Int)+1)),(2000000,.au (.agg (dZ l))),(2000001,.int .i64 s)],[]⟩)
  (fun m=>m<L) (fun m=>L-m) 0 (.le (by simp(disch:=omega)only[go_sem,simprocAttr,jD,bz])) (by omega) ?_
 rintro m R1 hm hR1
 have hf:=MH l m
 have hkr:=pr hc (n:=m+1) (by omega) (by omega)
 have hk2:2^(m+1)≤2^15:=Nat.pow_le_pow_right (by decide) (by omega)
 have hcg:=kc l (n:=m+1) (by omega)
 have ecast:((m:Int)+1).toNat=m+1:=by omega
 have hsh:IntKind.u32.wrap (((jD l m:Nat):Int)*2^min 1 32)=((fstL l (m+1):Nat):Int):=by
  rw[hf]
  show(((jD l m:Nat):Int)*2)%4294967296=_
  omega
 refine cO htl hsub hcl ecast hcg ?_
 rw[hsh]
 generalize hF:fstL l (m+1)=F at *
 generalize hC:bj l (m+1)=C at *
 refine a7 hN (fun k:Nat=>⟨[(0,.au (.agg (dZ l))),(1,.int .i64 s),(6,.int .u32 ((F+k:Nat):Int)),(7,.int .i64 ((bz l (m+1)+k:Nat):Int)),(8,.int .i64 ((m:Int)+1)),(41,.int .i64 C),(42,.int .i64 k),(2000000,.au (.agg (dZ l))),(2000001,.int .i64 s)],[]⟩)
  (fun k=>k≤C∧(m+1=L→k≤fh l s)) (fun k=>C-k) 0 (.le vV) ⟨by omega,fun _=>by omega⟩ ?_
 rintro k R2 ⟨hk,hk1⟩ hR2
 have hp15:bz l (m+1)+C≤(sortL l 15).length:=by
  rw[hsl,←hC]
  have:=lQ l (m+2) (14-m)
  rw[show m+2+(14-m)=16 by omega]at this
  exact this
 have hp16:(sortL l 15).length≤320:=by rw[hsl,pV l hl];exact Nat.le_trans List.countP_le_length hll
 by_cases hlt:k<C
 ·obtain⟨s',g1,g2,g3,g4⟩:=qe l (N:=15) (n:=m+1) (k:=k) (by omega) (by omega) (by omega)
  have hnth:=dG (xs:=sortL l 15) (i:=bz l (m+1)+k) (by omega)
  rw[g1]at hnth
  have ei:((bz l (m+1):Int)+(k:Int)).toNat=bz l (m+1)+k:=by omega
  refine cO htl hts hnl ei hnth ?_
  by_cases hss:s'=s
  ·subst hss
   have hmL:m+1=L:=by rw[←g3,hL]
   have hcw:cp l s'=F+k:=by unfold cp;rw[hL,←hmL,g4,hF]
   rw[hcw]at hR
   subst hmL
   refine wW ?_
   exact hR.ro ⟨rfl,by push_cast;rfl⟩
  ·have hrne:m+1=L→k+1≤fh l s:=fun e=>by
    have h3:=hk1 e
    have:k≠fh l s:=fun e2=>hss (AH l g2 hs (by rw[g3,hL,e]) (by rw[g4,e2]))
    omega
   simp(disch:=omega)only[go_sem,simprocAttr,show ¬((s':Int)=s)by omega]
   exact hR2 (k+1) _ (by omega) ⟨by omega,hrne⟩ (.le vV)
 ·obtain rfl:k=C:=by omega
  have hmL:m+1≠L:=fun e=>by
   have h3:=hk1 e
   rw[e]at hC
   omega
  have hh:jD l (m+1)=F+k:=by simp[jD,hF,hC]
  have hpr:bz l (m+1+1)=bz l (m+1)+k:=by rw[←hC];rfl
  refine wW ?_
  exact hR1 (m+1) _ (by omega) (by omega) (.le (jq hh hpr))
theorem xX (F most n:Nat) (B:Nat→Nat×Nat) (hF:callable Tryz.prog F=true) (hm:most≤100) (hn:n≤1000000) (hB:∀i,i≤most→aP Tryz.prog F [.int .i64 i] (.aj [.int .i64 ((B i).1:Nat),.int .i64 ((B i).2:Nat)])) (h0:(B 0).1≤n) (hbb:∀i,i≤most→(B i).1≤1000000) :
    Eng.Spec Tryz.prog 138 [] [.int .i64 n,.int .i64 most,.lit (.func (.func F) #[] #[])]
     (fun h r _=>h=[]∧∃i,i≤most∧(B i).1≤n∧(∀j,i<j→j≤most→n<(B j).1)∧r=.aj [.int .i64 i,.int .u32 ((n-(B i).1:Nat)),.int .i64 ((B i).2:Nat)]):=by
 refine Cod.UK (fun E R hN hR=>?_)
 refine wW ?_
 refine a7 hN (fun i:Nat=>⟨[(0,.int .i64 n),(2,.lit (.func (.func F) #[] #[])),(9,.int .i64 i)],[]⟩) (fun i=>i≤most∧∀j,i<j→j≤most→n<(B j).1) (fun i=>i) most (.le vV) ⟨by omega,fun j h1 h2=>by omega⟩ ?_
 rintro i R1 ⟨hi,hup⟩ hR1
 have hbi:=hbb i hi
 refine wW ?_
 refine rz hF (aE (hB i hi) rfl rfl ?_)
 refine wW ?_
 by_cases hle:(B i).1≤n
 ·refine wW ?_
  rw[show(n:Int)-((B i).1:Int)=((n-(B i).1:Nat):Int)by omega]
  exact hR.ro ⟨rfl,i,hi,hle,hup,rfl⟩
 ·have hi0:i≠0:=fun e=>by subst e;omega
  refine wW ?_
  exact hR1 (i-1) _ (by omega) ⟨by omega,fun j h1 h2=>by
   by_cases e:j=i
   ·subst e;omega
   ·exact hup j (by omega) h2⟩ (.le (by simp(disch:=omega)only[go_sem,simprocAttr,show((i-1:Nat):Int)=(i:Int)-1 by omega]))
theorem Bv (x n:Nat) (hx:x<9223372036854775808) (hn:n≤8):aP Tryz.prog 178 [.int .u64 x,.int .i64 n] (.str (bo x n)):=by
 refine Cod.apK (fun E R hN hR=>?_)
 have em:max (n:Int) 0=n:=by omega
 refine aw em ?_
 refine a7 hN (fun k:Nat=>⟨[(0,.int .u64 x),(5,.sl 177024 0 k),(8,.int .i64 n),(9,.int .i64 k)],[(177024,.arr 1 ((bo x k).map ub))]⟩) (fun k=>k≤n) (fun k=>n-k) 0 (.nil 5 177024 1 rfl (.le (by simp(disch:=omega)only[go_sem,simprocAttr,show bo x 0=[]from rfl,List.map_nil]))) (by omega) ?_
 rintro k R1 hk hR1
 have hl:=fa x k
 by_cases hlt:k<n
 ·have hct:=yk x k
  have hsh:(x:Int).fdiv (2^min ((8*(k:Int)).toNat) 64)=((x/256^k:Nat):Int):=by
   have e1:(8*(k:Int)).toNat=8*k:=by omega
   rw[e1,Nat.min_eq_left (by omega),Int.fdiv_eq_ediv_of_nonneg _ (Int.pow_nonneg (by decide)),show(256:Nat)=2^8 from rfl,←Nat.pow_mul]
   norm_cast
  generalize x/256^k=y at *
  have e3:IntKind.u8.wrap (y:Int)=((UInt8.ofNat (y%256)).toNat:Int):=by
   rw[UInt8.toNat_ofNat']
   show(y:Int)%256=_
   omega
  have e8:¬(8:Int)≤(k:Int):=by omega
  refine cL e8 hsh e3 ?_
  exact hR1 (k+1) _ (by omega) (by omega) (.le (by rw[hct];simp(disch:=omega)only[go_sem,simprocAttr];simp[ub]))
 ·obtain rfl:k=n:=by omega
  refine wW ?_
  exact hR.wk (h':=[]) (r':=.str (bo x k)) (ar':=[.undef,.undef]) rfl (.le vV) ⟨rfl,rfl⟩
def kP (s:Bs):List Bool:=dJ (ct 1 3)++aR (bo s.length 2++bo (65535-s.length) 2++s) 0
def fV (s:Bs):Bs:=eC (kP s)
theorem qj (s:Bs):(fV s).length=s.length+5:=by
 have h1:(dJ (ct 1 3)).length=8:=by rw[nG,fb]
 have h2:=fS (bo s.length 2++bo (65535-s.length) 2++s) 0
 simp only[List.length_append,fa]at h2
 unfold fV eC kP
 rw[jh,List.length_append,h1,h2]
 omega
theorem auG (n:Nat) (h:n≤65535):bits .xor .i64 (n:Int) 65535=((65535-n:Nat):Int):=by
 show IntKind.i64.wrap ((BitVec.ofInt 64 (n:Int) ^^^ BitVec.ofInt 64 ((65535:Nat):Int)).toNat:Int)=_
 rw[BitVec.ofInt_natCast,BitVec.ofInt_natCast,BitVec.toNat_xor,BitVec.toNat_ofNat,BitVec.toNat_ofNat,Nat.mod_eq_of_lt (by omega),Nat.mod_eq_of_lt (by omega)]
 have e:n ^^^ 65535=65535-n:=by
  apply Nat.eq_of_testBit_eq
  intro i
  rw[Nat.testBit_xor,show(65535:Nat)=2^16-1 by decide,Nat.testBit_two_pow_sub_one,show 2^16-1-n=2^16-(n+1)by omega,Nat.testBit_two_pow_sub_succ (by omega)]
  by_cases hi:i<16
  ·simp[hi]
  ·simp[hi,Nat.testBit_lt_two_pow (show n<2^i from Nat.lt_of_lt_of_le (show n<2^16 by omega) (Nat.pow_le_pow_right (by decide) (by omega)))]
 rw[e]
 exact IntWalk.i64_in _ (by omega)
theorem auv (s:Bs) (hs:s.length≤65535):aP Tryz.prog 142 [.str s] (.str (fV s)):=by
 refine Cod.auw (fun E R hN hR=>?_)
 have hmin:min (s.length:Int) 65535=s.length:=by omega
 have hx:=auG s.length hs
 have hl1:=Bv s.length 2 (by omega) (by omega)
 have hl2:=Bv (65535-s.length) 2 (by omega) (by omega)
 have hll1:=fa s.length 2
 have hll2:=fa (65535-s.length) 2
 have htk:s.take s.length=s:=List.take_of_length_le (Nat.le_refl _)
 have hb1:=l3 [] 1 3 (by decide) (by decide) (by decide)
 rw[List.nil_append,show((1:Nat):Int)=1 from rfl,show((3:Nat):Int)=3 from rfl]at hb1
 rw[show((2:Nat):Int)=2 from rfl]at hl1 hl2
 have hb2:=atF (ct 1 3) (bo s.length 2++bo (65535-s.length) 2++s) (by rw[fb];decide) (by simp only[List.length_append,fa];omega)
 have hb3:=Cw (kP s) (by
  unfold kP
  rw[List.length_append,nG,fb,fS]
  simp only[List.length_append,fa]
  omega)
 unfold fV at hR
 refine wW ?_
 refine a7 hN (fun _:Unit=>⟨[(0,.str s),(3,.ab WR 0)],bA []⟩) (fun _=>True) (fun _=>0) () (.gK 167003 WR rfl rfl (.jI WR 0 WO 1 [.al,.int .u64 0,.int .i64 0] rfl rfl rfl (.le ?_))) trivial ?_
 ·simp(disch:=omega)only[go_sem,simprocAttr,bA,cQ,cP,bB,dk]
  simp
 rintro _ R1 _ hR1
 refine bH @Cod.auu hmin ?_
 refine dV hN ?_
 refine wW ?_
 refine aJ (bA []) hb1 dz nofun ?_
 rintro h' v ar ⟨rfl,rfl,rfl⟩
 refine⟨dz,rfl,?_⟩
 simp(disch:=omega)only[go_sem,simprocAttr,hx,htk,hmin,bA,cQ,cP]
 refine aE hl1 rfl rfl ?_
 refine wW ?_
 refine aE hl2 rfl rfl ?_
 refine bH hll1 hll2 ?_
 refine aJ (bA (ct 1 3)) hb2 dz nofun ?_
 rintro h' v ar ⟨rfl,rfl,rfl⟩
 refine⟨dz,rfl,?_⟩
 refine Cj ?_
 refine aJ (bA (kP s)) hb3 (by simp(disch:=omega)only[go_sem,simprocAttr,bA,cQ,cP,kP]) nofun ?_
 rintro h' v ar ⟨rfl,rfl,rfl⟩
 refine⟨dz,rfl,?_⟩
 refine wW ?_
 exact hR.ro ⟨rfl,rfl⟩
theorem jB:bl.length=288:=by decide +kernel
theorem jA:∀n∈bl,n≤15:=by decide +kernel
theorem ki:bm bl=true:=by decide +kernel
theorem kj:∀s,s<288→1≤bl.getD s 0:=by decide +kernel
theorem oL:bT.length=32:=by decide +kernel
theorem oK:∀n∈bT,n≤15:=by decide +kernel
theorem rI:bm bT=true:=by decide +kernel
theorem rJ:∀s,s<32→1≤bT.getD s 0:=by decide +kernel
theorem sv:∀i,i≤28→(aQ i).1≤258∧(aQ i).2≤5:=by decide +kernel
theorem rv:∀i,i≤29→(bu i).1≤32768∧(bu i).2≤13:=by decide +kernel
structure kZ (s:Bs) (p n b:Nat):Prop where
 n3:3≤n
 n258:n≤258
 b1:1≤b
 uC:b≤32768
 bp:b≤p
 len:p+n≤s.length
 eq:∀t,t<n→s.getD (p-b+t) 0=s.getD (p+t) 0
structure qH (n b i j:Nat):Prop where
 i28:i≤28
 il:(aQ i).1≤n
 iu:∀k,i<k→k≤28→n<(aQ k).1
 x7:j≤29
 jl:(bu j).1≤b
 ju:∀k,j<k→k≤29→b<(bu k).1
def jj (n b i j:Nat):List Bool:=aX bl (257+i)++ct (n-(aQ i).1) (aQ i).2++aX bT j++ct (b-(bu j).1) (bu j).2
inductive gN (s:Bs):Nat→List Bool→Prop
 | nil:gN s 0 (ct 3 3)
 | lit (p:Nat) (bs:List Bool):gN s p bs→p<s.length→gN s (p+1) (bs++aX bl (s.getD p 0).toNat)
 | rep (p:Nat) (bs:List Bool) (n b i j:Nat):gN s p bs→kZ s p n b→qH n b i j→gN s (p+n) (bs++jj n b i j)
theorem oM (s:Nat):(aX bl s).length≤15:=by rw[gT];exact gF jA s
theorem wF (s:Nat):(aX bT s).length≤15:=by rw[gT];exact gF oK s
theorem ak7 {n b i j:Nat} (h:qH n b i j):(jj n b i j).length≤48:=by
 have h1:=oM (257+i)
 have h2:=wF j
 have h3:=sv i h.i28
 have h4:=rv j h.x7
 simp only[jj,List.length_append,fb]
 omega
theorem J0 {s:Bs} {p:Nat} {bs:List Bool} (h:gN s p bs):bs.length≤3+48*p:=by
 induction h with
 | nil=>rw[fb];omega
 | lit p bs h hp ih=>
  have:=oM (s.getD p 0).toNat
  rw[List.length_append];omega
 | rep p bs n b i j h hr hs ih=>
  have:=ak7 hs
  have:=hr.n3
  rw[List.length_append];omega
def jY (s t:Bs):Prop:=(∃bs,gN s s.length bs∧t=eC (bs++aX bl 256)∧t.length<s.length+5)∨t=fV s
theorem vL {s t:Bs} (h:jY s t):t.length≤s.length+5:=by
 rcases h with⟨_,_,_,h⟩ | rfl
 ·omega
 ·rw[qj];omega
def kY (l:List (MK×AV)) (p:Nat):Prop:=∀kv∈l,∃n:Nat,kv.2=.int .i64 n∧n<p
theorem zh {k:MK} {v:AV}:∀{l:List (MK×AV)},mfind l k=some v→∃k',(k',v)∈l
 | (k0,v0)::r,h=>by
  simp only[mfind]at h
  split at h
  ·exact⟨k0,by rw[←Option.some.inj h];exact List.mem_cons_self ..⟩
  ·obtain⟨k',h'⟩:=zh h;exact⟨k',List.mem_cons_of_mem _ h'⟩
theorem zi {k:MK} {v:AV}:∀{l:List (MK×AV)} {x:MK×AV},x∈mput l k v→x∈l∨x=(k,v)
 | [],x,h=>.inr (by simpa[mput]using h)
 | (k0,v0)::r,x,h=>by
  simp only[mput]at h
  split at h
  ·rcases List.mem_cons.1 h with h | h
   ·exact .inr h
   ·exact .inl (List.mem_cons_of_mem _ h)
  ·rcases List.mem_cons.1 h with h | h
   ·exact .inl (by rw[h];exact List.mem_cons_self ..)
   ·rcases zi h with h | h
    ·exact .inl (List.mem_cons_of_mem _ h)
    ·exact .inr h
theorem zj {l:List (MK×AV)} {p q:Nat} (h:kY l p) (hpq:p≤q):kY l q:=fun kv hk=>by
 obtain⟨n,h1,h2⟩:=h kv hk
 exact⟨n,h1,by omega⟩
theorem abP {l:List (MK×AV)} {p:Nat} {k:MK} (h:kY l p):kY (mput l k (.int .i64 p)) (p+1):=fun kv hk=>by
 rcases zi hk with hk | rfl
 ·obtain⟨n,h1,h2⟩:=h kv hk
  exact⟨n,h1,by omega⟩
 ·exact⟨p,rfl,by omega⟩
def hD (bs:List Bool) (l:List (MK×AV)):HP:=[(WR,.var (cP bs (bs.length/8))),(WO,.arr 1 ((dk bs (bs.length/8)).map ub)),(168027,.mp none l)]
theorem qx (l:List Nat) (s:Nat) (bs:List Bool) (hl:∀n∈l,n≤15) (hck:bm l=true) (hs:s<l.length) (h1:1≤l.getD s 0) (hb:bs.length≤10000000000) :
    Eng.Spec Tryz.prog 137 (bA bs) [.ab WR 0,.int .u32 (cp l s:Nat),.int .i64 (l.getD s 0:Nat)]
     (fun h' v ar=>h'=bA (bs++aX l s)∧v=.aj []∧ar=[.ab WR 0,.int .u32 (cp l s:Nat),.int .i64 (l.getD s 0:Nat)]):=by
 have hc:b6 l≤32768:=by unfold bm at hck;simp at hck;exact hck.1
 have h15:=gF hl s
 have hlt:=vE hc hs h1 h15
 have hp:2^l.getD s 0≤2^15:=Nat.pow_le_pow_right (by decide) h15
 have:=atS bs (cp l s) (l.getD s 0) (by omega) (by omega) (by omega)
 rw[show bitsM (cp l s) (l.getD s 0)=aX l s by unfold aX;rw[if_neg (by omega)]]at this
 exact this
set_option maxHeartbeats 4000000 in
theorem Qx (s:Bs) (hs:s.length≤65535):Eng.Spec Tryz.prog 91 [] [.str s] (fun h r _=>h=[]∧∃t,jY s t∧r=.str t):=by
 refine Cod.Qy (fun E R hN hR=>?_)
 have hbh:=l3 [] 3 3 (by decide) (by decide) (by decide)
 rw[List.nil_append,show((3:Nat):Int)=3 from rfl]at hbh
 have hcL:∀k:Nat,k<288→aP Tryz.prog 136 [bn bl,.int .i64 k] (.aj [.int .u32 (cp bl k:Nat),.int .i64 (bl.getD k 0:Nat)]):=fun k hk=>xd bl jA (by rw[jB];decide) ki k (by rw[jB];exact hk) (kj k hk)
 have hcD:∀k:Nat,k<32→aP Tryz.prog 136 [bn bT,.int .i64 k] (.aj [.int .u32 (cp bT k:Nat),.int .i64 (bT.getD k 0:Nat)]):=fun k hk=>xd bT oK (by rw[oL];decide) rI k (by rw[oL];exact hk) (rJ k hk)
 have hfx:=xC
 unfold bn at hcL hcD hfx
 generalize AV.agg (dZ bl)=TL at *
 generalize AV.agg (dZ bT)=TD at *
 refine wW ?_
 refine jx ⟨[(0,.str s),(3,.ab WR 0)],bA []⟩ (.gK 168003 WR rfl rfl (.jI WR 0 WO 1 [.al,.int .u64 0,.int .i64 0] rfl rfl rfl (.le ?_))) rfl ?_
 ·simp(disch:=omega)only[go_sem,simprocAttr,bA,cQ,cP,bB,dk]
  simp
 refine aE hfx rfl rfl ?_
 refine wW ?_
 refine aJ (bA []) hbh dz nofun ?_
 rintro h' v ar ⟨rfl,rfl,rfl⟩
 refine⟨dz,rfl,?_⟩
 refine wW ?_
 refine a7 hN (fun q:Nat×List Bool×List (MK×AV)=>⟨[(0,.str s),(3,.ab WR 0),(4,.au TL),(5,.au TD),(6,.ptr 168027 0 0),(7,.int .i64 q.1)],hD q.2.1 q.2.2⟩) (fun q=>q.1≤s.length∧gN s q.1 q.2.1∧kY q.2.2 q.1) (fun q=>s.length-q.1) (0,ct 3 3,[]) (.le ?_) ⟨by omega,.nil,fun kv hk=>by cases hk⟩ ?_
 ·simp(disch:=omega)only[go_sem,simprocAttr,hD,bA,cQ,cP]
 rintro⟨p,bs,l⟩ R1 ⟨hp,henc,hpl⟩ hR1
 simp only at hp henc hpl
 have hbl:=J0 henc
 by_cases hlt:p<s.length
 ·refine wW ?_
  refine da hN (fun q:Nat×Nat×List (MK×AV)=>⟨[(0,.str s),(3,.ab WR 0),(4,.au TL),(5,.au TD),(6,.ptr 168027 0 0),(7,.int .i64 p),(8,.int .i64 q.1),(9,.int .i64 q.2.1)],hD bs q.2.2⟩) (fun q=>kY q.2.2 (p+1)∧(q.1<3∨kZ s p q.1 q.2.1)) (fun R2 hR2=>?_) ?_
  ·by_cases h3:p+3≤s.length
   ·refine wW ?_
    refine da hN (fun q:Nat×Nat=>⟨[(0,.str s),(3,.ab WR 0),(4,.au TL),(5,.au TD),(6,.ptr 168027 0 0),(7,.int .i64 p),(8,.int .i64 q.1),(9,.int .i64 q.2)],hD bs l⟩) (fun q=>q.1<3∨kZ s p q.1 q.2) (fun R3 hR3=>?_) ?_
    ·cases hf:mfind l (MK.s (List.take (((p:Int)+3).toNat-p) (List.drop p s)))with
     | none=>
      simp(disch:=omega)only[go_sem,simprocAttr,hD,hf]
      refine gG ?_
      exact hR3 (0,0) _ (.inl (by decide)) (.le (by simp(disch:=omega)only[go_sem,simprocAttr,hD]))
     | some v=>
      obtain⟨k',hk'⟩:=zh hf
      obtain⟨a,ha,hat⟩:=hpl _ hk'
      simp only at ha
      subst ha
      by_cases h32:p-a≤32768
      ·have h32':(p:Int)-(a:Int)≤32768:=by omega
       simp(disch:=omega)only[go_sem,simprocAttr,hD,hf,h32']
       refine gG ?_
       refine a7 hN (fun n:Nat=>⟨[(0,.str s),(3,.ab WR 0),(4,.au TL),(5,.au TD),(6,.ptr 168027 0 0),(7,.int .i64 p),(8,.int .i64 n),(10,.int .i64 a)],hD bs l⟩) (fun n=>n≤258∧p+n≤s.length∧∀t,t<n→s.getD (a+t) 0=s.getD (p+t) 0) (fun n=>258-n) 0 (.le (by simp(disch:=omega)only[go_sem,simprocAttr,hD])) ⟨by omega,by omega,fun t ht=>by omega⟩ ?_
       rintro n R4 ⟨hn1,hn2,hn3⟩ hR4
       have fin:n<3∨kZ s p n (p-a):=by
        by_cases h:n<3
        ·exact .inl h
        ·exact .inr ⟨by omega,hn1,by omega,h32,by omega,hn2,fun t ht=>by rw[show p-(p-a)+t=a+t by omega];exact hn3 t ht⟩
       have ei1:((a:Int)+(n:Int)).toNat=a+n:=by omega
       have ei2:((p:Int)+(n:Int)).toNat=p+n:=by omega
       have ep:((p-a:Nat):Int)=(p:Int)-(a:Int):=by omega
       have hgo:=hR3 (n,p-a)
       by_cases g1:n<258
       ·by_cases g2:p+n<s.length
        ·by_cases g3:s.getD (a+n) 0=s.getD (p+n) 0
         ·have g3':((s.getD (a+n) 0).toNat:Int)=((s.getD (p+n) 0).toNat:Int):=by rw[g3]
          refine cL ei1 ei2 g3' ?_
          refine gG ?_
          exact hR4 (n+1) _ (by omega) ⟨by omega,by omega,fun t ht=>by
           by_cases e:t=n
           ·subst e;exact g3
           ·exact hn3 t (by omega)⟩ (.le (by simp(disch:=omega)only[go_sem,simprocAttr,hD]))
         ·have g3':¬((s.getD (a+n) 0).toNat:Int)=((s.getD (p+n) 0).toNat:Int):=fun e=>g3 (UInt8.toNat_inj.1 (by omega))
          refine cL ei1 ei2 g3' ?_
          refine gG ?_
          exact hgo _ fin (.le (by simp(disch:=omega)only[go_sem,simprocAttr,hD,ep]))
        ·refine wW ?_
         refine gG ?_
         exact hgo _ fin (.le (by simp(disch:=omega)only[go_sem,simprocAttr,hD,ep]))
       ·refine wW ?_
        refine gG ?_
        exact hgo _ fin (.le (by simp(disch:=omega)only[go_sem,simprocAttr,hD,ep]))
      ·have h32':¬(p:Int)-(a:Int)≤32768:=by omega
       simp(disch:=omega)only[go_sem,simprocAttr,hD,hf,h32']
       refine gG ?_
       exact hR3 (0,0) _ (.inl (by decide)) (.le (by simp(disch:=omega)only[go_sem,simprocAttr,hD]))
    ·rintro⟨n,b⟩ hnb
     simp only at hnb
     simp(disch:=omega)only[go_sem,simprocAttr,hD]
     exact hR2 (n,b,mput l (MK.s (List.take (((p:Int)+3).toNat-p) (List.drop p s))) (.int .i64 p)) _ ⟨abP hpl,hnb⟩ (.le (by simp(disch:=omega)only[go_sem,simprocAttr,hD]))
   ·refine wW ?_
    exact hR2 (0,0,l) _ ⟨zj hpl (by omega),.inl (show(0:Nat)<3 by decide)⟩ (.le (by simp(disch:=omega)only[go_sem,simprocAttr,hD]))
  ·rintro⟨n,b,l'⟩ ⟨hpl',hnb⟩
   simp only at hpl' hnb
   by_cases hn:n<3
   ·have hc:=(s.getD p 0).toNat_lt
    have hw:IntKind.i64.wrap ((s.getD p 0).toNat:Int)=((s.getD p 0).toNat:Int):=IntWalk.i64_in _ (by omega)
    have iB:=hcL (s.getD p 0).toNat (by omega)
    have hwr:=qx bl (s.getD p 0).toNat bs jA ki (by rw[jB];omega) (kj _ (by omega)) (by omega)
    refine aw hw ?_
    refine aE iB rfl rfl ?_
    refine wW ?_
    refine aJ (bA bs) hwr (by simp(disch:=omega)only[go_sem,simprocAttr,hD,bA,cQ,cP]) nofun ?_
    rintro h' v ar ⟨rfl,rfl,rfl⟩
    refine⟨dz,rfl,?_⟩
    simp(disch:=omega)only[go_sem,simprocAttr,hD]
    exact hR1 (p+1,_,l') _ (by simp only;omega) ⟨by simp only;omega,.lit p bs henc hlt,hpl'⟩ (.le (by simp(disch:=omega)only[go_sem,simprocAttr,hD,bA,cQ,cP]))
   ·have hrep:=hnb.resolve_left hn
    have hn258:=hrep.n258
    have hb32:=hrep.uC
    have hplen:=hrep.len
    have hs1:=xX 139 28 n aQ (by kernel_rfl) (by decide) (by omega) (fun i hi=>xE i hi) (by have:=hrep.n3;simp[aQ];omega) (fun i hi=>by have:=sv i hi;omega)
    have hs2:=xX 140 29 b bu (by kernel_rfl) (by decide) (by omega) (fun i hi=>xz i hi) (by have:=hrep.b1;simp[bu];omega) (fun i hi=>by have:=rv i hi;omega)
    rw[show((28:Nat):Int)=28 from rfl]at hs1
    rw[show((29:Nat):Int)=29 from rfl]at hs2
    refine wW ?_
    refine fy hs1 rfl ?_
    rintro h' v ar ⟨rfl,i,hi,hil,hiu,rfl⟩
    refine⟨rfl,rfl,?_⟩
    have hi5:=sv i hi
    have iB:=hcL (257+i) (by omega)
    have hw1:=qx bl (257+i) bs jA ki (by rw[jB];omega) (kj _ (by omega)) (by omega)
    have hl1:=oM (257+i)
    have hw2:=l3 (bs++aX bl (257+i)) (n-(aQ i).1) (aQ i).2 (by omega) (by omega) (by rw[List.length_append];omega)
    rw[show((257+i:Nat):Int)=257+(i:Int)by push_cast;rfl]at iB
    refine wW ?_
    refine aE iB rfl rfl ?_
    refine wW ?_
    refine aJ (bA bs) hw1 (by simp(disch:=omega)only[go_sem,simprocAttr,hD,bA,cQ,cP]) nofun ?_
    rintro h' v ar ⟨rfl,rfl,rfl⟩
    refine⟨dz,rfl,?_⟩
    simp(disch:=omega)only[go_sem,simprocAttr,hD]
    refine aJ (bA (bs++aX bl (257+i))) hw2 (by simp(disch:=omega)only[go_sem,simprocAttr,hD,bA,cQ,cP]) nofun ?_
    rintro h' v ar ⟨rfl,rfl,rfl⟩
    refine⟨dz,rfl,?_⟩
    refine wW ?_
    refine fy hs2 rfl ?_
    rintro h' v ar ⟨rfl,j,hj,hjl,hju,rfl⟩
    refine⟨rfl,rfl,?_⟩
    have hj5:=rv j hj
    have hcode2:=hcD j (by omega)
    have hl2:=wF j
    have hb2:(bs++aX bl (257+i)++ct (n-(aQ i).1) (aQ i).2).length≤9999999999:=by simp only[List.length_append,fb];omega
    generalize hbs2:bs++aX bl (257+i)++ct (n-(aQ i).1) (aQ i).2=bs2 at *
    have hw3:=qx bT j bs2 oK rI (by rw[oL];omega) (rJ _ (by omega)) (by omega)
    have hw4:=l3 (bs2++aX bT j) (b-(bu j).1) (bu j).2 (by omega) (by omega) (by rw[List.length_append];omega)
    refine wW ?_
    refine aE hcode2 rfl rfl ?_
    refine wW ?_
    refine aJ (bA bs2) hw3 (by simp(disch:=omega)only[go_sem,simprocAttr,hD,bA,cQ,cP]) nofun ?_
    rintro h' v ar ⟨rfl,rfl,rfl⟩
    refine⟨dz,rfl,?_⟩
    simp(disch:=omega)only[go_sem,simprocAttr,hD]
    refine aJ (bA (bs2++aX bT j)) hw4 (by simp(disch:=omega)only[go_sem,simprocAttr,hD,bA,cQ,cP]) nofun ?_
    rintro h' v ar ⟨rfl,rfl,rfl⟩
    refine⟨dz,rfl,?_⟩
    refine wW ?_
    have henc2:=gN.rep p bs n b i j henc hrep ⟨hi,hil,hiu,hj,hjl,hju⟩
    have heq:bs++jj n b i j=bs2++aX bT j++ct (b-(bu j).1) (bu j).2:=by rw[←hbs2];simp[jj]
    rw[heq]at henc2
    exact hR1 (p+n,_,l') _ (by have:=hrep.n3;simp only;omega) ⟨by simp only;omega,henc2,zj hpl' (by have:=hrep.n3;simp only;omega)⟩ (.le (by simp(disch:=omega)only[go_sem,simprocAttr,hD,bA,cQ,cP]))
 ·obtain rfl:p=s.length:=by omega
  have iB:=hcL 256 (by decide)
  have hw:=qx bl 256 bs jA ki (by rw[jB];decide) (kj _ (by decide)) (by omega)
  have hl1:=oM 256
  have ht:=Cw (bs++aX bl 256) (by rw[List.length_append];omega)
  have hst:=auv s hs
  have hsl:=qj s
  rw[show((256:Nat):Int)=256 from rfl]at iB
  refine wW ?_
  refine aE iB rfl rfl ?_
  refine wW ?_
  refine aJ (bA bs) hw (by simp(disch:=omega)only[go_sem,simprocAttr,hD,bA,cQ,cP]) nofun ?_
  rintro h' v ar ⟨rfl,rfl,rfl⟩
  refine⟨dz,rfl,?_⟩
  simp(disch:=omega)only[go_sem,simprocAttr,hD]
  refine aJ (bA (bs++aX bl 256)) ht (by simp(disch:=omega)only[go_sem,simprocAttr,hD,bA,cQ,cP]) nofun ?_
  rintro h' v ar ⟨rfl,rfl,rfl⟩
  refine⟨dz,rfl,?_⟩
  refine wW ?_
  refine aE hst rfl rfl ?_
  by_cases hlen:(eC (bs++aX bl 256)).length<s.length+5
  ·refine aw hsl ?_
   exact hR.ro ⟨rfl,_,.inl ⟨bs,henc,rfl,hlen⟩,rfl⟩
  ·refine aw hsl ?_
   refine aE hst rfl rfl ?_
   refine wW ?_
   exact hR.ro ⟨rfl,_,.inr rfl,rfl⟩
theorem NF {l:List Nat} (hc:b6 l≤32768) (hl:∀n∈l,n≤15) {b:List Bool} {s t:Nat} (hs:s<l.length) (ht:t<l.length) (h1:cq b (aX l s)=true) (h2:cq b (aX l t)=true):s=t:=by
 have key:∀{s t:Nat},s<l.length→t<l.length→cq b (aX l s)=true→cq b (aX l t)=true→l.getD s 0<l.getD t 0→False:=by
  intro s t hs ht h1 h2 hlt
  obtain⟨a1,a2,a3⟩:=(jE hc hl b hs).1 h1
  obtain⟨b1,b2,b3⟩:=(jE hc hl b ht).1 h2
  have hr:=mV l hs
  obtain⟨k,hk⟩:∃k,l.getD t 0=l.getD s 0+k:=⟨l.getD t 0-l.getD s 0,by omega⟩
  have hm:=(sB b (l.getD s 0) k (by omega)).2
  have hf:=oW l (l.getD s 0) k a1
  rw[if_neg (by omega),Nat.add_zero]at hf
  rw[←hk]at hm hf
  rw[a3,b3]at hm
  have h4:(cp l s+1)*2^k≤(fstL l (l.getD s 0)+bj l (l.getD s 0))*2^k:=Nat.mul_le_mul_right _ (by unfold cp;omega)
  have h5:fstL l (l.getD t 0)≤cp l t:=by unfold cp;omega
  omega
 rcases Nat.lt_trichotomy (l.getD s 0) (l.getD t 0)with h | h | h
 ·exact(key hs ht h1 h2 h).elim
 ·obtain⟨a1,a2,a3⟩:=(jE hc hl b hs).1 h1
  obtain⟨b1,b2,b3⟩:=(jE hc hl b ht).1 h2
  rw[h]at a3
  refine AH l hs ht h ?_
  have:cp l s=cp l t:=by rw[←a3,b3]
  unfold cp at this
  rw[h]at this
  omega
 ·exact(key ht hs h2 h1 h).elim
theorem akW {l:List Nat} (hck:bm l=true) (hl:∀n∈l,n≤15) {s:Nat} (hs:s<l.length) (h1:1≤l.getD s 0) (R:List Bool):readL (aO l) (aX l s++R)=(s,(aX l s).length,0):=by
 have hc:b6 l≤32768:=by unfold bm at hck;simp at hck;exact hck.1
 have hlen:=gT l s
 have hh:cq (aX l s++R) (aX l s)=true:=by
  unfold cq
  have:(aX l s).isEmpty=false:=by
   cases h:aX l s with
   | nil=>rw[h,List.length_nil]at hlen;omega
   | cons=>rfl
  rw[this]
  simp[List.isPrefixOf_iff_prefix]
 unfold readL
 rw[wD hs hh (fun t ht h=>NF hc hl ht hs h hh)]
 simp only[vA l hs]
theorem lT {t:Bs} {p:Nat} {A R:List Bool} (h:aR t p=A++R):aR t (p+A.length)=R:=by
 have e:aR t (p+A.length)=(aR t p).drop A.length:=by
  unfold aR
  apply List.ext_getElem?
  intro j
  simp only[List.getElem?_drop,List.getElem?_map]
  by_cases hj:p+A.length+j<8*t.length
  ·rw[List.getElem?_range (by omega),List.getElem?_range (by omega)]
   show some (eU t (p+A.length+j))=some (eU t (p+(A.length+j)))
   rw[Nat.add_assoc]
  ·rw[List.getElem?_eq_none (by simp;omega),List.getElem?_eq_none (by simp;omega)];rfl
 rw[e,h,List.drop_left]
theorem jk {t:Bs} {p:Nat} {A R:List Bool} (h:aR t p=A++R) (hp:p≤8*t.length):p+A.length≤8*t.length:=by
 have:=fS t p
 rw[h,List.length_append]at this
 omega
theorem yS {t:Bs} {p x n:Nat} {R:List Bool} (h:aR t p=ct x n++R) (hp:p≤8*t.length) (hx:x<2^n):numAt t p n=x:=by
 have hr:=jk h hp
 rw[fb]at hr
 rw[←pM t p n hr,h,List.take_left' (fb x n),sJ,Nat.mod_eq_of_lt hx]
theorem yR {t:Bs} {x n:Nat} {R:List Bool} {S:SS} (h:aR t S.p=ct x n++R) (hp:S.p≤8*t.length) (hx:x<2^n) (he:S.err=0):aH t n S=(x,{S with p:=S.p+n}):=by
 have hr:=jk h hp
 rw[fb]at hr
 rw[ez he hr,yS h hp hx]
theorem qk {t:Bs} {l:List Nat} (hck:bm l=true) (hl:∀n∈l,n≤15) {s:Nat} (hs:s<l.length) (h1:1≤l.getD s 0) {R:List Bool} {S:SS} (h:aR t S.p=aX l s++R) (he:S.err=0) :
    aU t l S=(s,{S with p:=S.p+(aX l s).length}):=by
 have hr:=akW hck hl hs h1 R
 rw[←h]at hr
 rw[lY he (by rw[hr]),hr]
theorem Yb:∀i,i<28→(aQ (i+1)).1-(aQ i).1≤2^(aQ i).2:=by decide +kernel
theorem Jl:∀j,j<29→(bu (j+1)).1-(bu j).1≤2^(bu j).2:=by decide +kernel
theorem uE {s:Bs} {most p q n b:Nat} (hr:kZ s q n b) (hm:s.length≤most):∀(m k:Nat),k+m=n→backS most b m ⟨p,s.take (q+k),0⟩=⟨p,s.take (q+n),0⟩
 | 0,k,h=>by
  rw[show k=n by omega]
  rfl
 | m+1,k,h=>by
  have hl:=hr.len
  have hb:=hr.bp
  have hb1:=hr.b1
  have htl:(s.take (q+k)).length=q+k:=by rw[List.length_take];omega
  have hget:(s.take (q+k)).getD (q+k-b) 0=s.getD (q+k) 0:=by
   rw[List.getD_eq_getElem?_getD,List.getElem?_take,if_pos (by omega),←List.getD_eq_getElem?_getD,show q+k-b=q-b+k by omega]
   exact hr.eq k (by omega)
  have hsn:=dU s 0 (show q+k<s.length by omega)
  rw[backS]
  simp only[htl,hget,cZ]
  rw[if_neg (by simp),if_neg (by simp),if_neg (by omega),←hsn]
  exact uE hr hm m (k+1) (by omega)
theorem Yn {s t:Bs} {most p q:Nat} {R:List Bool} (hp:p≤8*t.length) (hq:q<s.length) (hm:s.length≤most) (h:aR t p=aX bl (s.getD q 0).toNat++R) :
    dp t most bl bT ⟨p,s.take q,0⟩=(false,⟨p+(aX bl (s.getD q 0).toNat).length,s.take (q+1),0⟩):=by
 have hc:=(s.getD q 0).toNat_lt
 have hsy:=qk (S:=⟨p,s.take q,0⟩) ki jA (by rw[jB];omega) (kj _ (by omega)) h rfl
 have htl:(s.take q).length=q:=by rw[List.length_take];omega
 have hsn:=dU s 0 hq
 unfold dp
 simp only[hsy]
 rw[if_neg (by simp),if_neg (by omega),if_pos (by omega)]
 unfold cZ
 simp only[htl]
 rw[if_neg (by simp),if_neg (by omega),UInt8.ofNat_toNat,←hsn]
theorem ak8 {s t:Bs} {most p q n b i j:Nat} {R:List Bool} (hp:p≤8*t.length) (hm:s.length≤most) (hr:kZ s q n b) (hs:qH n b i j) (h:aR t p=jj n b i j++R) :
    dp t most bl bT ⟨p,s.take q,0⟩=(false,⟨p+(jj n b i j).length,s.take (q+n),0⟩):=by
 have hi:=hs.i28
 have hj:=hs.x7
 have hil:=hs.il
 have hjl:=hs.jl
 have h258:=hr.n258
 have h32:=hr.uC
 have hnx:n-(aQ i).1<2^(aQ i).2:=by
  by_cases e:i=28
  ·subst e
   have:aQ 28=(258,0):=rfl
   rw[this]at hil ⊢
   simp only at hil ⊢
   omega
  ·have h1:=Yb i (by omega)
   have h2:=hs.iu (i+1) (by omega) (by omega)
   omega
 have hbx:b-(bu j).1<2^(bu j).2:=by
  by_cases e:j=29
  ·subst e
   have:bu 29=(24577,13):=rfl
   rw[this]at hjl ⊢
   simp only at hjl ⊢
   omega
  ·have h1:=Jl j (by omega)
   have h2:=hs.ju (j+1) (by omega) (by omega)
   omega
 unfold jj at h
 simp only[List.append_assoc]at h
 have g1:=lT h
 have r1:=jk h hp
 have g2:=lT g1
 have r2:=jk g1 r1
 have g3:=lT g2
 have r3:=jk g2 r2
 have hsy:=qk (S:=⟨p,s.take q,0⟩) ki jA (by rw[jB];omega) (kj _ (by omega)) h rfl
 have hn1:=yR (S:=⟨p+(aX bl (257+i)).length,s.take q,0⟩) g1 r1 hnx rfl
 have hsd:=qk (S:=⟨p+(aX bl (257+i)).length+(aQ i).2,s.take q,0⟩) (l:=bT) (s:=j) rI oK (by rw[oL];omega) (rJ _ (by omega)) (by simp only;rw[fb]at g2;exact g2) rfl
 rw[fb]at g3 r2 r3
 have hn2:=yR (S:=⟨p+(aX bl (257+i)).length+(aQ i).2+(aX bT j).length,s.take q,0⟩) g3 r3 hbx rfl
 have htl:(s.take q).length=q:=by have:=hr.len;rw[List.length_take];omega
 unfold dp
 simp only[hsy]
 rw[if_neg (by simp),if_neg (by omega),if_neg (by omega)]
 unfold c8
 rw[if_neg (by omega),show 257+i-257=i by omega]
 simp only[hn1,hsd,hn2]
 rw[if_neg (by simp),if_neg (by omega),if_neg (by simp),htl,if_neg (by have:=hr.bp;omega),show(aQ i).1+(n-(aQ i).1)=n by omega,show(bu j).1+(b-(bu j).1)=b by omega]
 have hb:=uE (p:=p+(aX bl (257+i)).length+(aQ i).2+(aX bT j).length+(bu j).2) hr hm n 0 (by omega)
 rw[Nat.add_zero]at hb
 rw[hb]
 simp only[jj,List.length_append,fb,Nat.add_assoc]
theorem JY {s t:Bs} {most p0:Nat} (hm:s.length≤most) (hp0:p0≤8*t.length) {q:Nat} {bs:List Bool} (h:gN s q bs):∀R,aR t p0=bs++R→q≤s.length∧cT t most bl bT ⟨p0+3,[],0⟩=cT t most bl bT ⟨p0+bs.length,s.take q,0⟩:=by
 induction h with
 | nil=>intro R _;exact⟨by omega,by rw[fb];rfl⟩
 | lit q bs h hq ih=>
  intro R hR
  rw[List.append_assoc]at hR
  obtain⟨_,h2⟩:=ih _ hR
  refine⟨by omega,h2.trans ?_⟩
  have hr:=jk hR hp0
  rw[mO (by simpa using hr),Yn hr hq hm (lT hR),if_neg (by simp),if_neg (by simp),List.length_append,Nat.add_assoc]
 | rep q bs n b i j h hrep hs ih=>
  intro R hR
  rw[List.append_assoc]at hR
  obtain⟨_,h2⟩:=ih _ hR
  refine⟨hrep.len,h2.trans ?_⟩
  have hr:=jk hR hp0
  rw[mO (by simpa using hr),ak8 hr hm hrep hs (lT hR),if_neg (by simp),if_neg (by simp),List.length_append,Nat.add_assoc]
theorem alf (B:List Bool) (r:Bs):∃R,aR (eC B++r) 0=B++R:=by
 refine⟨(aR (eC B++r) 0).drop B.length,?_⟩
 have hl:(eC B).length=(B.length+7)/8:=jh _ _
 have e:(aR (eC B++r) 0).take B.length=B:=by
  apply List.ext_getElem?
  intro j
  by_cases hj:j<B.length
  ·rw[List.getElem?_take,if_pos hj]
   unfold aR
   rw[List.getElem?_map,List.getElem?_range (by rw[List.length_append,hl];omega),Option.map_some,Nat.zero_add,List.getElem?_eq_getElem hj]
   congr 1
   unfold eU
   rw[List.getD_eq_getElem?_getD,List.getElem?_append_left (by rw[hl];omega)]
   unfold eC dk
   rw[List.getElem?_map,List.getElem?_range (by omega),Option.map_some,Option.getD_some]
   unfold gr
   rw[UInt8.toNat_ofNat',show(2:Nat)^8=2^8 from rfl,Nat.testBit_mod_two_pow]
   have h8:j%8<8:=Nat.mod_lt _ (by decide)
   rw[decide_eq_true h8,Bool.true_and]
   have key:∀(l:List Bool) (k:Nat),(bB l).testBit k=l.getD k false:=by
    intro l
    induction l with
    | nil=>intro k;simp[bB]
    | cons c l ih=>
     intro k
     rw[sI]
     cases k with
     | zero=>cases c<;>simp[Nat.testBit_zero]<;>omega
     | succ k=>
      rw[Nat.testBit_succ,show(2*bB l+c.toNat)/2=bB l by cases c<;>simp<;>omega,ih k]
      rfl
   rw[key,List.getD_eq_getElem?_getD,List.getElem?_drop,show 8*(j/8)+j%8=j by omega,List.getElem?_eq_getElem hj]
   rfl
  ·rw[List.getElem?_eq_none (by rw[List.length_take];omega),List.getElem?_eq_none (by omega)]
 conv=>lhs;rw[←List.take_append_drop B.length (aR (eC B++r) 0),e]
end Go.Proofs.YtlkmppkcbhodaaaGreatDoor.Pk
