/- The proof, part 40 of 51. -/
import Derived.Test.YtgghhaahnpbnmaaGreatDoorCartularyWalksZL
import Derived.Test.YtgghhaahnpbnmaaGreatDoorCartularyWalksZM
set_option linter.all false
namespace Go.Proofs.YtgghhaahnpbnmaaGreatDoor.Ls
open Eng Pk
set_option maxRecDepth 10000
def jT (t:Bs) (L:List Rw):Option Rw:=if posF t (kf L)<L.length/\(L.getD (posF t (kf L)) ga).1=t then some (L.getD (posF t (kf L)) ga)else none
def findA:Option Rw->AV
 | none=>.ab [.agg [.str [],.int .i64 0,.int .u32 0],.int .i64 7]
 | some r=>.ab [.agg [.str r.1,.int .i64 (r.2.1:Nat),.int .u32 (r.2.2:Nat)],.int .i64 0]
theorem xl {t:Bs} {L:List Rw} {r:Rw} (h:jT t L=some r):r∈L/\r.1=t:=by
 unfold jT at h;split at h
 ·rename_i h1;cases h;exact⟨dL ga h1.1,h1.2⟩
 ·cases h
theorem ab0 (r:Rw) (t:Bs):aw Tryz.prog 161 [l8 r,.str t] (.int .i64 (Lib.compareBytes r.1 t)):=by
 refine Cod.ab1 (λE R hN hR=>?_);simp(disch:=omega)only[go_sem,simprocAttr,l8];refine aj (Bp r.1 t) rfl rfl ?_;refine wW ?_;exact hR.ro ⟨rfl,rfl⟩
theorem Hg (s:Bs) (p:List Rw×Bs) (t:Bs) (hs:eB (kf p.1)) (hl:p.1.length<=100000):aw Tryz.prog 140 [eL s p,.str t] (findA (jT t p.1)):=by
 refine Cod.ab2 (λE R hN hR=>?_);have hfl:=lL s 256;obtain⟨L,sm⟩:=p;simp only at hs hl hR |-;have hsr:=Yh _ (by kernel_rfl) ab0 L t hs hl;unfold js at hsr;rw[DK,xS]at hsr;unfold jT at hR;generalize posF t (kf L)=o at *
 refine wW ?_;by_cases hf:o<L.length/\(L.getD o ga).1=t
 ·rw[decide_eq_true hf]at hsr;rw[if_pos hf]at hR;have hi:=hf.1;refine aj hsr rfl rfl ?_;refine cI @jb @qV hi ?_;refine lP @jb @qV hi ?_;exact hR.ro ⟨rfl,rfl⟩
 ·rw[decide_eq_false hf]at hsr;rw[if_neg hf]at hR;refine aj hsr rfl rfl ?_;refine wW ?_;refine gG ?_;exact hR.ro ⟨rfl,rfl⟩
def iM (k:bN) (t:Bs):En×Nat:=
 match jT t k.2.2.1 with
 | none=>(dr,7)
 | some r=>if(Pk.readP k.1 (r.2.1:Nat)).2=0/\(Pk.readP k.1 (r.2.1:Nat)).1.nX.toNat≠r.2.2 then(dr,5)else Pk.readP k.1 (r.2.1:Nat)
structure lA (k:bN):Prop where
 dl:k.1.length<=100000
 zc:eB (kf k.2.2.1)
 len:k.2.2.1.length<=1000
 at_:∀r∈k.2.2.1,r.2.1<=1099511627776
theorem Fq (s:Bs) (a:Int):(Pk.readP s a).1.data.length<=65000:=by
 unfold Pk.readP;split
 ·simp[dr]
 ·unfold uP;split
  ·simp[dr]
  ·generalize ix (s.take (s.length-20)) a.toNat (b6 (s.take (s.length-20)) a.toNat).1 (b6 (s.take (s.length-20)) a.toNat).2.2.1=M;unfold oq;split
   ·simp[dr]
   ·split
    ·simp[dr]
    ·rename_i h;split
     ·simp[dr]
     ·split
      ·simp[dr]
      ·have:=(vJ ((s.take (s.length-20)).drop M.2.2.1) (b6 (s.take (s.length-20)) a.toNat).2.1).1;simp only;omega
theorem Fp (s:Bs) (a:Int):(Pk.readP s a).1.base<=a.toNat:=by
 unfold Pk.readP;split
 ·simp[dr]
 ·unfold uP;split
  ·simp[dr]
  ·generalize b6 (s.take (s.length-20)) a.toNat=H
   have hM:(ix (s.take (s.length-20)) a.toNat H.1 H.2.2.1).1<=a.toNat:=by
    unfold ix
    (repeat' split)<;>simp
   generalize ix (s.take (s.length-20)) a.toNat H.1 H.2.2.1=M at *
   unfold oq
   (repeat' split)<;>first | (simp[dr];done) | (simp only;omega)
theorem B9 (k:bN) (t:Bs) (hk:lA k):(iM k t).1.data.length<=65000/\(iM k t).1.base<=1099511627776:=by
 unfold iM
 cases hfp:jT t k.2.2.1 with
 | none=>exact⟨by simp[dr],by simp[dr]⟩
 | some r=>
  have h1:=hk.at_ r (xl hfp).1;have h2:=Fp k.1 (r.2.1:Nat);simp only;split;exact⟨by simp[dr],by simp[dr]⟩;exact⟨Fq _ _,acB⟩
set_option maxHeartbeats 1000000 in
theorem Ex (k:bN) (t:Bs) (hk:lA k):aw Tryz.prog 162 [.agg [.str k.1,eL k.2.1 k.2.2],.str t] (.ab [.agg (om (iM k t).1),.int .i64 ((iM k t).2:Nat)]):=by
 refine Cod.Vy (λE R hN hR=>?_);have hf:=Hg k.2.1 k.2.2 t hk.zc (by have:=hk.len;omega);have hat:=hk.at_;have hdl:=hk.dl;obtain⟨b,s,p⟩:=k;simp only at hf hat hdl hR |-;unfold iM at hR;simp only at hR;refine wW ?_
 cases hfp:jT t p.1 with
 | none=>
  rw[hfp]at hf hR;refine aj hf rfl rfl ?_;simp(disch:=omega)only[go_sem,simprocAttr,findA];refine gG ?_
  exact hR.ro ⟨rfl,rfl⟩
 | some r=>
  have h1:=hat r (xl hfp).1;have hrd:=Ff b (r.2.1:Nat) acB ⟨acB,acB⟩;rw[hfp]at hf hR;simp only at hR;refine aj hf rfl rfl ?_;generalize Pk.readP b (r.2.1:Nat)=x at *
  obtain⟨x,e⟩:=x;simp only[om]at hrd hR;simp(disch:=omega)only[go_sem,simprocAttr,findA];refine gG ?_;refine aj hrd rfl rfl ?_;by_cases he:e=0
  ·subst he;by_cases hc:x.nX.toNat=r.2.2
   ·rw[if_neg (λh=>h.2 hc)]at hR;refine ah hc ?_;refine cB hc ?_;exact hR.ro ⟨rfl,by simp only[hc];rfl⟩
   ·rw[if_pos ⟨rfl,hc⟩]at hR;have hi:¬(x.nX.toNat:Int)=(r.2.2:Int):=acB;refine ah hi ?_;refine cB hi ?_;exact hR.ro ⟨rfl,rfl⟩
  ·rw[if_neg (λh=>he h.1)]at hR;have hi:¬(e:Int)=0:=acB;refine ah hi ?_;refine cB hi ?_;exact hR.ro ⟨rfl,rfl⟩
end Go.Proofs.YtgghhaahnpbnmaaGreatDoor.Ls
