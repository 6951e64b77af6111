/- The proof, part 38 of 42. -/
import Derived.Test.YtoalcafkffmiiaaGreatDoorOdbSureZJ
import Derived.Test.YtoalcafkffmiiaaGreatDoorOdbSureZK
set_option linter.all false
namespace Go.Proofs.YtoalcafkffmiiaaGreatDoor.Ls
open Eng Pk
set_option maxRecDepth 10000
def iP (t:Bs) (L:List Rw):Option Rw:=if posF t (kf L)<L.length∧(L.getD (posF t (kf L)) dG).1=t then some (L.getD (posF t (kf L)) dG)else none
def findA:Option Rw→AV
 | none=>.ai [.agg [.str [],.int .i64 0,.int .u32 0],.int .i64 7]
 | some r=>.ai [.agg [.str r.1,.int .i64 (r.2.1:Nat),.int .u32 (r.2.2:Nat)],.int .i64 0]
theorem s3 {t:Bs} {L:List Rw} {r:Rw} (h:iP t L=some r):r∈L∧r.1=t:=by
 unfold iP at h
 split at h
 ·rename_i h1
  cases h
  exact⟨eP dG h1.1,h1.2⟩
 ·cases h
theorem arv (r:Rw) (t:Bs):aN Tryz.prog 83 [jg r,.str t] (.int .i64 (Lib.compareBytes r.1 t)):=by
 refine Cod.arw (fun E R hN hR=>?_)
 simp(disch:=omega)only[go_sem,simprocAttr,jg]
 refine aC (sA r.1 t) rfl rfl ?_
 refine wW ?_
 exact hR.ro ⟨rfl,rfl⟩
theorem DQ (s:Bs) (p:List Rw×Bs) (t:Bs) (hs:dY (kf p.1)) (hl:p.1.length≤100000):aN Tryz.prog 45 [aM s p,.str t] (findA (iP t p.1)):=by
 refine Cod.arE (fun E R hN hR=>?_)
 have hfl:=js s 256
 obtain⟨L,sm⟩:=p
 simp only at hs hl hR ⊢
 have hsr:=Cb _ (by kernel_rfl) arv L t hs hl
 unfold hU at hsr
 rw[qp,qo]at hsr
 unfold iP at hR
 generalize posF t (kf L)=o at *
 refine wW ?_
 by_cases hf:o<L.length∧(L.getD o dG).1=t
 ·rw[decide_eq_true hf]at hsr
  rw[if_pos hf]at hR
  have hi:=hf.1
  refine aC hsr rfl rfl ?_
  refine dy @eT @ke hi ?_
  refine jY @eT @ke hi ?_
  exact hR.ro ⟨rfl,rfl⟩
 ·rw[decide_eq_false hf]at hsr
  rw[if_neg hf]at hR
  refine aC hsr rfl rfl ?_
  refine wW ?_
  refine gG ?_
  exact hR.ro ⟨rfl,rfl⟩
def gr (k:bD) (t:Bs):En×Nat:=
 match iP t k.2.2.1 with
 | none=>(da,7)
 | some r=>if(Pk.readP k.1 (r.2.1:Nat)).2=0∧(Pk.readP k.1 (r.2.1:Nat)).1.lW.toNat≠r.2.2 then(da,5)else Pk.readP k.1 (r.2.1:Nat)
structure kD (k:bD):Prop where
 dl:k.1.length≤100000
 ow:dY (kf k.2.2.1)
 len:k.2.2.1.length≤1000
 at_:∀r∈k.2.2.1,r.2.1≤1099511627776
theorem BS (s:Bs) (a:Int):(Pk.readP s a).1.data.length≤65000:=by
 unfold Pk.readP
 split
 ·simp[da]
 ·unfold qV
  split
  ·simp[da]
  ·generalize fX (s.take (s.length-20)) a.toNat (bZ (s.take (s.length-20)) a.toNat).1 (bZ (s.take (s.length-20)) a.toNat).2.2.1=M
   unfold l9
   split
   ·simp[da]
   ·split
    ·simp[da]
    ·rename_i h
     split
     ·simp[da]
     ·split
      ·simp[da]
      ·have:=(rH ((s.take (s.length-20)).drop M.2.2.1) (bZ (s.take (s.length-20)) a.toNat).2.1).1
       simp only
       omega
theorem BQ (s:Bs) (a:Int):(Pk.readP s a).1.base≤a.toNat:=by
 unfold Pk.readP
 split
 ·simp[da]
 ·unfold qV
  split
  ·simp[da]
  ·generalize bZ (s.take (s.length-20)) a.toNat=H
   have hM:(fX (s.take (s.length-20)) a.toNat H.1 H.2.2.1).1≤a.toNat:=by
    unfold fX
    (repeat' split)<;>simp
   generalize fX (s.take (s.length-20)) a.toNat H.1 H.2.2.1=M at *
   unfold l9
   (repeat' split)<;>first | (simp[da];done) | (simp only;omega)
theorem ym (k:bD) (t:Bs) (hk:kD k):(gr k t).1.data.length≤65000∧(gr k t).1.base≤1099511627776:=by
 unfold gr
 cases hfp:iP t k.2.2.1 with
 | none=>exact⟨by simp[da],by simp[da]⟩
 | some r=>
  have h1:=hk.at_ r (s3 hfp).1
  have h2:=BQ k.1 (r.2.1:Nat)
  simp only
  split
  ·exact⟨by simp[da],by simp[da]⟩
  ·exact⟨BS _ _,by omega⟩
set_option maxHeartbeats 1000000 in
theorem A1 (k:bD) (t:Bs) (hk:kD k):aN Tryz.prog 84 [.agg [.str k.1,aM k.2.1 k.2.2],.str t] (.ai [.agg (l8 (gr k t).1),.int .i64 ((gr k t).2:Nat)]):=by
 refine Cod.adl (fun E R hN hR=>?_)
 have hf:=DQ k.2.1 k.2.2 t hk.ow (by have:=hk.len;omega)
 have hat:=hk.at_
 have hdl:=hk.dl
 obtain⟨b,s,p⟩:=k
 simp only at hf hat hdl hR ⊢
 unfold gr at hR
 simp only at hR
 refine wW ?_
 cases hfp:iP t p.1 with
 | none=>
  rw[hfp]at hf hR
  refine aC hf rfl rfl ?_
  simp(disch:=omega)only[go_sem,simprocAttr,findA]
  refine gG ?_
  exact hR.ro ⟨rfl,rfl⟩
 | some r=>
  have h1:=hat r (s3 hfp).1
  have hrd:=BI b (r.2.1:Nat) (by omega) ⟨by omega,by omega⟩
  rw[hfp]at hf hR
  simp only at hR
  refine aC hf rfl rfl ?_
  generalize Pk.readP b (r.2.1:Nat)=x at *
  obtain⟨x,e⟩:=x
  simp only[l8]at hrd hR
  simp(disch:=omega)only[go_sem,simprocAttr,findA]
  refine gG ?_
  refine aC hrd rfl rfl ?_
  by_cases he:e=0
  ·subst he
   by_cases hc:x.lW.toNat=r.2.2
   ·rw[if_neg (fun h=>h.2 hc)]at hR
    refine az hc ?_
    refine cm hc ?_
    exact hR.ro ⟨rfl,by simp only[hc];rfl⟩
   ·rw[if_pos ⟨rfl,hc⟩]at hR
    have hi:¬(x.lW.toNat:Int)=(r.2.2:Int):=by omega
    refine az hi ?_
    refine cm hi ?_
    exact hR.ro ⟨rfl,rfl⟩
  ·rw[if_neg (fun h=>he h.1)]at hR
   have hi:¬(e:Int)=0:=by omega
   refine az hi ?_
   refine cm hi ?_
   exact hR.ro ⟨rfl,rfl⟩
end Go.Proofs.YtoalcafkffmiiaaGreatDoor.Ls
