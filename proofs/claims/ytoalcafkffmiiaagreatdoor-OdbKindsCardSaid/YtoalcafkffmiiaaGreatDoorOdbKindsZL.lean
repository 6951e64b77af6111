/- The proof, part 38 of 42. -/
import Derived.Test.YtoalcafkffmiiaaGreatDoorOdbKindsZJ
import Derived.Test.YtoalcafkffmiiaaGreatDoorOdbKindsZK
set_option linter.all false
namespace Go.Proofs.YtoalcafkffmiiaaGreatDoor.Ls
open Eng Pk
set_option maxRecDepth 10000
def iA (t:Bs) (L:List Rw):Option Rw:=if posF t (kf L)<L.length∧(L.getD (posF t (kf L)) dw).1=t then some (L.getD (posF t (kf L)) dw)else none
def findA:Option Rw→AV
 | none=>.ai [.agg [.str [],.int .i64 0,.int .u32 0],.int .i64 7]
 | some r=>.ai [.agg [.str r.1,.int .i64 (r.2.1:Nat),.int .u32 (r.2.2:Nat)],.int .i64 0]
theorem sQ {t:Bs} {L:List Rw} {r:Rw} (h:iA t L=some r):r∈L∧r.1=t:=by
 unfold iA at h
 split at h
 ·rename_i h1
  cases h
  exact⟨eE dw h1.1,h1.2⟩
 ·cases h
theorem apf (r:Rw) (t:Bs):aO Tryz.prog 83 [iR r,.str t] (.int .i64 (Lib.compareBytes r.1 t)):=by
 refine Cod.apg (fun E R hN hR=>?_)
 simp(disch:=omega)only[go_sem,simprocAttr,iR]
 refine aC (si r.1 t) rfl rfl ?_
 refine wW ?_
 exact hR.ro ⟨rfl,rfl⟩
theorem Da (s:Bs) (p:List Rw×Bs) (t:Bs) (hs:du (kf p.1)) (hl:p.1.length≤100000):aO Tryz.prog 45 [aX s p,.str t] (findA (iA t p.1)):=by
 refine Cod.apo (fun E R hN hR=>?_)
 have hfl:=jd s 256
 obtain⟨L,sm⟩:=p
 simp only at hs hl hR ⊢
 have hsr:=BN _ (by kernel_rfl) apf L t hs hl
 unfold gO at hsr
 rw[p9,p8]at hsr
 unfold iA at hR
 generalize posF t (kf L)=o at *
 refine wW ?_
 by_cases hf:o<L.length∧(L.getD o dw).1=t
 ·rw[decide_eq_true hf]at hsr
  rw[if_pos hf]at hR
  have hi:=hf.1
  refine aC hsr rfl rfl ?_
  refine dz @eI @jX hi ?_
  refine jN @eI @jX hi ?_
  exact hR.ro ⟨rfl,rfl⟩
 ·rw[decide_eq_false hf]at hsr
  rw[if_neg hf]at hR
  refine aC hsr rfl rfl ?_
  refine wW ?_
  refine gG ?_
  exact hR.ro ⟨rfl,rfl⟩
def gb (k:bx) (t:Bs):En×Nat:=
 match iA t k.2.2.1 with
 | none=>(cZ,7)
 | some r=>if(Pk.readP k.1 (r.2.1:Nat)).2=0∧(Pk.readP k.1 (r.2.1:Nat)).1.lJ.toNat≠r.2.2 then(cZ,5)else Pk.readP k.1 (r.2.1:Nat)
structure jG (k:bx):Prop where
 dl:k.1.length≤100000
 nW:du (kf k.2.2.1)
 len:k.2.2.1.length≤1000
 at_:∀r∈k.2.2.1,r.2.1≤1099511627776
theorem BB (s:Bs) (a:Int):(Pk.readP s a).1.data.length≤65000:=by
 unfold Pk.readP
 split
 ·simp[cZ]
 ·unfold qI
  split
  ·simp[cZ]
  ·generalize fP (s.take (s.length-20)) a.toNat (bX (s.take (s.length-20)) a.toNat).1 (bX (s.take (s.length-20)) a.toNat).2.2.1=M
   unfold lS
   split
   ·simp[cZ]
   ·split
    ·simp[cZ]
    ·rename_i h
     split
     ·simp[cZ]
     ·split
      ·simp[cZ]
      ·have:=(ry ((s.take (s.length-20)).drop M.2.2.1) (bX (s.take (s.length-20)) a.toNat).2.1).1
       simp only
       omega
theorem BA (s:Bs) (a:Int):(Pk.readP s a).1.base≤a.toNat:=by
 unfold Pk.readP
 split
 ·simp[cZ]
 ·unfold qI
  split
  ·simp[cZ]
  ·generalize bX (s.take (s.length-20)) a.toNat=H
   have hM:(fP (s.take (s.length-20)) a.toNat H.1 H.2.2.1).1≤a.toNat:=by
    unfold fP
    (repeat' split)<;>simp
   generalize fP (s.take (s.length-20)) a.toNat H.1 H.2.2.1=M at *
   unfold lS
   (repeat' split)<;>first | (simp[cZ];done) | (simp only;omega)
theorem xT (k:bx) (t:Bs) (hk:jG k):(gb k t).1.data.length≤65000∧(gb k t).1.base≤1099511627776:=by
 unfold gb
 cases hfp:iA t k.2.2.1 with
 | none=>exact⟨by simp[cZ],by simp[cZ]⟩
 | some r=>
  have h1:=hk.at_ r (sQ hfp).1
  have h2:=BA k.1 (r.2.1:Nat)
  simp only
  split
  ·exact⟨by simp[cZ],by simp[cZ]⟩
  ·exact⟨BB _ _,by omega⟩
set_option maxHeartbeats 1000000 in
theorem Az (k:bx) (t:Bs) (hk:jG k):aO Tryz.prog 84 [.agg [.str k.1,aX k.2.1 k.2.2],.str t] (.ai [.agg (lR (gb k t).1),.int .i64 ((gb k t).2:Nat)]):=by
 refine Cod.acU (fun E R hN hR=>?_)
 have hf:=Da k.2.1 k.2.2 t hk.nW (by have:=hk.len;omega)
 have hat:=hk.at_
 have hdl:=hk.dl
 obtain⟨b,s,p⟩:=k
 simp only at hf hat hdl hR ⊢
 unfold gb at hR
 simp only at hR
 refine wW ?_
 cases hfp:iA t p.1 with
 | none=>
  rw[hfp]at hf hR
  refine aC hf rfl rfl ?_
  simp(disch:=omega)only[go_sem,simprocAttr,findA]
  refine gG ?_
  exact hR.ro ⟨rfl,rfl⟩
 | some r=>
  have h1:=hat r (sQ hfp).1
  have hrd:=Bq b (r.2.1:Nat) (by omega) ⟨by omega,by omega⟩
  rw[hfp]at hf hR
  simp only at hR
  refine aC hf rfl rfl ?_
  generalize Pk.readP b (r.2.1:Nat)=x at *
  obtain⟨x,e⟩:=x
  simp only[lR]at hrd hR
  simp(disch:=omega)only[go_sem,simprocAttr,findA]
  refine gG ?_
  refine aC hrd rfl rfl ?_
  by_cases he:e=0
  ·subst he
   by_cases hc:x.lJ.toNat=r.2.2
   ·rw[if_neg (fun h=>h.2 hc)]at hR
    refine aw hc ?_
    refine bW hc ?_
    exact hR.ro ⟨rfl,by simp only[hc];rfl⟩
   ·rw[if_pos ⟨rfl,hc⟩]at hR
    have hi:¬(x.lJ.toNat:Int)=(r.2.2:Int):=by omega
    refine aw hi ?_
    refine bW hi ?_
    exact hR.ro ⟨rfl,rfl⟩
  ·rw[if_neg (fun h=>he h.1)]at hR
   have hi:¬(e:Int)=0:=by omega
   refine aw hi ?_
   refine bW hi ?_
   exact hR.ro ⟨rfl,rfl⟩
end Go.Proofs.YtoalcafkffmiiaaGreatDoor.Ls
