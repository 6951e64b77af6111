/- The proof, part 39 of 43. -/
import Derived.Test.YtoalcafkffmiiaaGreatDoorOdbGetsZK
import Derived.Test.YtoalcafkffmiiaaGreatDoorOdbGetsZL
set_option linter.all false
namespace Go.Proofs.YtoalcafkffmiiaaGreatDoor.Ls
open Eng Pk
set_option maxRecDepth 10000
def gZ (t:Bs) (L:List Rw):Option Rw:=if posF t (kf L)<L.length/\(L.getD (posF t (kf L)) dx).1=t then some (L.getD (posF t (kf L)) dx)else none
def findA:Option Rw->AV
 | none=>.af [.agg [.str [],.int .i64 0,.int .u32 0],.int .i64 7]
 | some r=>.af [.agg [.str r.1,.int .i64 (r.2.1:Nat),.int .u32 (r.2.2:Nat)],.int .i64 0]
theorem wN {t:Bs} {L:List Rw} {r:Rw} (h:gZ t L=some r):r∈L/\r.1=t:=by
 unfold gZ at h;split at h
 ·rename_i h1;cases h;exact⟨dT dx h1.1,h1.2⟩
 ·cases h
theorem acm (r:Rw) (t:Bs):ao Tryz.prog 83 [kX r,.str t] (.int .i64 (Lib.compareBytes r.1 t)):=by
 refine Cod.acn (λE R hN hR=>?_);simp(disch:=omega)only[go_sem,simprocAttr,kX];refine ah (v8 r.1 t) rfl rfl ?_;refine wW ?_;exact hR.ro ⟨rfl,rfl⟩
theorem Ha (s:Bs) (p:List Rw×Bs) (t:Bs) (hs:eO (kf p.1)) (hl:p.1.length<=100000):ao Tryz.prog 45 [eT s p,.str t] (findA (gZ t p.1)):=by
 refine Cod.aco (λE R hN hR=>?_);have hfl:=ly s 256;obtain⟨L,sm⟩:=p;simp only at hs hl hR |-;have hsr:=FK _ (by kernel_rfl) acm L t hs hl;unfold kc at hsr;rw[tB,tz]at hsr;unfold gZ at hR;generalize posF t (kf L)=o at *
 refine wW ?_;by_cases hf:o<L.length/\(L.getD o dx).1=t
 ·rw[decide_eq_true hf]at hsr;rw[if_pos hf]at hR;have hi:=hf.1;refine ah hsr rfl rfl ?_;refine bp @dL @kT hi ?_;refine gy @dL @kT hi ?_;exact hR.ro ⟨rfl,rfl⟩
 ·rw[decide_eq_false hf]at hsr;rw[if_neg hf]at hR;refine ah hsr rfl rfl ?_;refine wW ?_;refine gG ?_;exact hR.ro ⟨rfl,rfl⟩
def dy (k:aO) (t:Bs):En×Nat:=
 match gZ t k.2.2.1 with
 | none=>(dR,7)
 | some r=>if(Pk.readP k.1 (r.2.1:Nat)).2=0/\(Pk.readP k.1 (r.2.1:Nat)).1.jZ.toNat≠r.2.2 then(dR,5)else Pk.readP k.1 (r.2.1:Nat)
structure gS (k:aO):Prop where
 dl:k.1.length<=100000
 rk:eO (kf k.2.2.1)
 len:k.2.2.1.length<=1000
 at_:∀r∈k.2.2.1,r.2.1<=1099511627776
theorem Fp (s:Bs) (a:Int):(Pk.readP s a).1.data.length<=65000:=by
 unfold Pk.readP;split
 ·simp[dR]
 ·unfold pf;split
  ·simp[dR]
  ·generalize fX (s.take (s.length-20)) a.toNat (cd (s.take (s.length-20)) a.toNat).1 (cd (s.take (s.length-20)) a.toNat).2.2.1=M;unfold j7;split
   ·simp[dR]
   ·split
    ·simp[dR]
    ·rename_i h;split
     ·simp[dR]
     ·split
      ·simp[dR]
      ·have:=(pF ((s.take (s.length-20)).drop M.2.2.1) (cd (s.take (s.length-20)) a.toNat).2.1).1;simp only;omega
theorem Fo (s:Bs) (a:Int):(Pk.readP s a).1.base<=a.toNat:=by
 unfold Pk.readP;split
 ·simp[dR]
 ·unfold pf;split
  ·simp[dR]
  ·generalize cd (s.take (s.length-20)) a.toNat=H
   have hM:(fX (s.take (s.length-20)) a.toNat H.1 H.2.2.1).1<=a.toNat:=by
    unfold fX
    (repeat' split)<;>simp
   generalize fX (s.take (s.length-20)) a.toNat H.1 H.2.2.1=M at *
   unfold j7
   (repeat' split)<;>first | (simp[dR];done) | (simp only;omega)
theorem sS (k:aO) (t:Bs) (hk:gS k):(dy k t).1.data.length<=65000/\(dy k t).1.base<=1099511627776:=by
 unfold dy
 cases hfp:gZ t k.2.2.1 with
 | none=>exact⟨by simp[dR],by simp[dR]⟩
 | some r=>
  have h1:=hk.at_ r (wN hfp).1;have h2:=Fo k.1 (r.2.1:Nat);simp only;split;exact⟨by simp[dR],by simp[dR]⟩;exact⟨Fp _ _,acN⟩
set_option maxHeartbeats 1000000 in
theorem Ej (k:aO) (t:Bs) (hk:gS k):ao Tryz.prog 84 [.agg [.str k.1,eT k.2.1 k.2.2],.str t] (.af [.agg (gw (dy k t).1),.int .i64 ((dy k t).2:Nat)]):=by
 refine Cod.Uq (λE R hN hR=>?_);have hf:=Ha k.2.1 k.2.2 t hk.rk (by have:=hk.len;omega);have hat:=hk.at_;have hdl:=hk.dl;obtain⟨b,s,p⟩:=k;simp only at hf hat hdl hR |-;unfold dy at hR;simp only at hR;refine wW ?_
 cases hfp:gZ t p.1 with
 | none=>
  rw[hfp]at hf hR;refine ah hf rfl rfl ?_;simp(disch:=omega)only[go_sem,simprocAttr,findA];refine gG ?_
  exact hR.ro ⟨rfl,rfl⟩
 | some r=>
  have h1:=hat r (wN hfp).1;have hrd:=ER b (r.2.1:Nat) acN ⟨acN,acN⟩;rw[hfp]at hf hR;simp only at hR;refine ah hf rfl rfl ?_;generalize Pk.readP b (r.2.1:Nat)=x at *
  obtain⟨x,e⟩:=x;simp only[gw]at hrd hR;simp(disch:=omega)only[go_sem,simprocAttr,findA];refine gG ?_;refine ah hrd rfl rfl ?_;by_cases he:e=0
  ·subst he;by_cases hc:x.jZ.toNat=r.2.2
   ·rw[if_neg (λh=>h.2 hc)]at hR;refine ab hc ?_;refine aV hc ?_;exact hR.ro ⟨rfl,by simp only[hc];rfl⟩
   ·rw[if_pos ⟨rfl,hc⟩]at hR;have hi:¬(x.jZ.toNat:Int)=(r.2.2:Int):=acN;refine ab hi ?_;refine aV hi ?_;exact hR.ro ⟨rfl,rfl⟩
  ·rw[if_neg (λh=>he h.1)]at hR;have hi:¬(e:Int)=0:=acN;refine ab hi ?_;refine aV hi ?_;exact hR.ro ⟨rfl,rfl⟩
end Go.Proofs.YtoalcafkffmiiaaGreatDoor.Ls
