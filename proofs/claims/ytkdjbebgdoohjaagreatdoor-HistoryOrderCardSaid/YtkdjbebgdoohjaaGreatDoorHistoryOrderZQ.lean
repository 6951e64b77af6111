/- The proof, part 43 of 50. -/
import Derived.Test.YtkdjbebgdoohjaaGreatDoorHistoryOrderZO
import Derived.Test.YtkdjbebgdoohjaaGreatDoorHistoryOrderZP
set_option linter.all false
namespace Go.Proofs.YtkdjbebgdoohjaaGreatDoor.Ls
open Eng Pk
set_option maxRecDepth 10000
def jB (t:Bs) (L:List Rw):Option Rw:=if posF t (kf L)<L.length/\(L.getD (posF t (kf L)) eV).1=t then some (L.getD (posF t (kf L)) eV)else none
def findA:Option Rw->AV
 | none=>.ab [.agg [.str [],.int .i64 0,.int .u32 0],.int .i64 7]
 | some r=>.ab [.agg [.str r.1,.int .i64 (r.2.1:Nat),.int .u32 (r.2.2:Nat)],.int .i64 0]
theorem vq {t:Bs} {L:List Rw} {r:Rw} (h:jB t L=some r):r∈L/\r.1=t:=by
 unfold jB at h;split at h
 ·rename_i h1;cases h;exact⟨eK eV h1.1,h1.2⟩
 ·cases h
theorem Za (r:Rw) (t:Bs):aw Tryz.prog 103 [ly r,.str t] (.int .i64 (Lib.compareBytes r.1 t)):=by
 refine Cod.Zb (λE R hN hR=>?_);simp(disch:=omega)only[go_sem,simprocAttr,ly];refine an (zK r.1 t) rfl rfl ?_;refine wW ?_;exact hR.ro ⟨rfl,rfl⟩
theorem EY (s:Bs) (p:List Rw×Bs) (t:Bs) (hs:dE (kf p.1)) (hl:p.1.length<=100000):aw Tryz.prog 65 [ek s p,.str t] (findA (jB t p.1)):=by
 refine Cod.Zc (λE R hN hR=>?_);have hfl:=kU s 256;obtain⟨L,sm⟩:=p;simp only at hs hl hR |-;have hsr:=Vf _ (by kernel_rfl) Za L t hs hl;unfold iX at hsr;rw[B5,wi]at hsr;unfold jB at hR;generalize posF t (kf L)=o at *
 refine wW ?_;by_cases hf:o<L.length/\(L.getD o eV).1=t
 ·rw[decide_eq_true hf]at hsr;rw[if_pos hf]at hR;have hi:=hf.1;refine an hsr rfl rfl ?_;refine bU @fS @pN hi ?_;refine iY @fS @pN hi ?_;exact hR.ro ⟨rfl,rfl⟩
 ·rw[decide_eq_false hf]at hsr;rw[if_neg hf]at hR;refine an hsr rfl rfl ?_;refine wW ?_;refine gG ?_;exact hR.ro ⟨rfl,rfl⟩
def ik (k:ba) (t:Bs):En×Nat:=
 match jB t k.2.2.1 with
 | none=>(dp,7)
 | some r=>if(Pk.readP k.1 (r.2.1:Nat)).2=0/\(Pk.readP k.1 (r.2.1:Nat)).1.mV.toNat≠r.2.2 then(dp,5)else Pk.readP k.1 (r.2.1:Nat)
structure jZ (k:ba):Prop where
 dl:k.1.length<=100000
 tr:dE (kf k.2.2.1)
 len:k.2.2.1.length<=1000
 at_:∀r∈k.2.2.1,r.2.1<=1099511627776
theorem Dt (s:Bs) (a:Int):(Pk.readP s a).1.data.length<=65000:=by
 unfold Pk.readP;split
 ·simp[dp]
 ·unfold sV;split
  ·simp[dp]
  ·generalize gT (s.take (s.length-20)) a.toNat (bV (s.take (s.length-20)) a.toNat).1 (bV (s.take (s.length-20)) a.toNat).2.2.1=M;unfold nq;split
   ·simp[dp]
   ·split
    ·simp[dp]
    ·rename_i h;split
     ·simp[dp]
     ·split
      ·simp[dp]
      ·have:=(tY ((s.take (s.length-20)).drop M.2.2.1) (bV (s.take (s.length-20)) a.toNat).2.1).1;simp only;omega
theorem Dr (s:Bs) (a:Int):(Pk.readP s a).1.base<=a.toNat:=by
 unfold Pk.readP;split
 ·simp[dp]
 ·unfold sV;split
  ·simp[dp]
  ·generalize bV (s.take (s.length-20)) a.toNat=H
   have hM:(gT (s.take (s.length-20)) a.toNat H.1 H.2.2.1).1<=a.toNat:=by
    unfold gT
    (repeat' split)<;>simp
   generalize gT (s.take (s.length-20)) a.toNat H.1 H.2.2.1=M at *
   unfold nq
   (repeat' split)<;>first | (simp[dp];done) | (simp only;omega)
theorem Av (k:ba) (t:Bs) (hk:jZ k):(ik k t).1.data.length<=65000/\(ik k t).1.base<=1099511627776:=by
 unfold ik
 cases hfp:jB t k.2.2.1 with
 | none=>exact⟨by simp[dp],by simp[dp]⟩
 | some r=>
  have h1:=hk.at_ r (vq hfp).1;have h2:=Dr k.1 (r.2.1:Nat);simp only;split;exact⟨by simp[dp],by simp[dp]⟩;exact⟨Dt _ _,ZG⟩
set_option maxHeartbeats 1000000 in
theorem CP (k:ba) (t:Bs) (hk:jZ k):aw Tryz.prog 104 [.agg [.str k.1,ek k.2.1 k.2.2],.str t] (.ab [.agg (np (ik k t).1),.int .i64 ((ik k t).2:Nat)]):=by
 refine Cod.Sm (λE R hN hR=>?_);have hf:=EY k.2.1 k.2.2 t hk.tr (by have:=hk.len;omega);have hat:=hk.at_;have hdl:=hk.dl;obtain⟨b,s,p⟩:=k;simp only at hf hat hdl hR |-;unfold ik at hR;simp only at hR;refine wW ?_
 cases hfp:jB t p.1 with
 | none=>
  rw[hfp]at hf hR;refine an hf rfl rfl ?_;simp(disch:=omega)only[go_sem,simprocAttr,findA];refine gG ?_
  exact hR.ro ⟨rfl,rfl⟩
 | some r=>
  have h1:=hat r (vq hfp).1;have hrd:=Df b (r.2.1:Nat) ZG ⟨ZG,ZG⟩;rw[hfp]at hf hR;simp only at hR;refine an hf rfl rfl ?_;generalize Pk.readP b (r.2.1:Nat)=x at *
  obtain⟨x,e⟩:=x;simp only[np]at hrd hR;simp(disch:=omega)only[go_sem,simprocAttr,findA];refine gG ?_;refine an hrd rfl rfl ?_;by_cases he:e=0
  ·subst he;by_cases hc:x.mV.toNat=r.2.2
   ·rw[if_neg (λh=>h.2 hc)]at hR;refine ah hc ?_;refine bI hc ?_;exact hR.ro ⟨rfl,by simp only[hc];rfl⟩
   ·rw[if_pos ⟨rfl,hc⟩]at hR;have hi:¬(x.mV.toNat:Int)=(r.2.2:Int):=ZG;refine ah hi ?_;refine bI hi ?_;exact hR.ro ⟨rfl,rfl⟩
  ·rw[if_neg (λh=>he h.1)]at hR;have hi:¬(e:Int)=0:=ZG;refine ah hi ?_;refine bI hi ?_;exact hR.ro ⟨rfl,rfl⟩
end Go.Proofs.YtkdjbebgdoohjaaGreatDoor.Ls
