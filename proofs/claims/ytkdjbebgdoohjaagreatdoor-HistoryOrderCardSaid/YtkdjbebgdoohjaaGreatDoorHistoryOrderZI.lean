/- The proof, part 35 of 50. -/
import Derived.Test.YtkdjbebgdoohjaaGreatDoorHistoryOrderT
import Derived.Test.YtkdjbebgdoohjaaGreatDoorHistoryOrderZB
import Derived.Test.YtkdjbebgdoohjaaGreatDoorHistoryOrderZH
set_option linter.all false
namespace Go.Proofs.YtkdjbebgdoohjaaGreatDoor.Ls
open Eng Pk Ob
set_option maxRecDepth 10000
def mC (s:Bs):Int×Bs×Int:=
 if(eG s 65536).2.2≠0 then(0,[],((eG s 65536).2.2:Nat))else if(eG s 65536).2.1≠s.length then(0,[],3)else ng (eG s 65536).1
theorem J4 (s:Bs):(ng s).2.1.length<=s.length:=by
 have:=(q8 0 s).2;unfold ng
 (repeat' split)<;>simp[this]
theorem Yk (s:Bs):(mC s).2.1.length<=65536:=by
 have h1:=(tY s 65536).1;have h2:=J4 (eG s 65536).1;unfold mC;split
 ·simp
 ·split
  ·simp
  omega
theorem QO (s:Bs) (hs:s.length<=1000000):aw Tryz.prog 100 [.str s] (ij (mC s)):=by
 refine Cod.QP (λE R hN hR=>?_);have h1:=E7 s 0 65536 hs (Z7 _) (ZM _);rw[aae]at h1;have hz:=tY s 65536;unfold mC at hR;generalize eG s 65536=Z at *
 obtain⟨t,n,e⟩:=Z;simp only at hR hz;refine wW ?_;refine an h1 rfl rfl ?_;by_cases he:e=0
 ·subst he;by_cases hn:n=s.length
  ·subst hn;rw[if_neg (by simp),if_neg (by simp)]at hR;have hdc:=J5 t ZG;generalize ng t=x at *
   obtain⟨k,d,e⟩:=x;unfold ij gV at hdc hR;refine wW ?_;refine an hdc rfl rfl ?_;refine wW ?_;exact hR.ro ⟨rfl,rfl⟩
  ·rw[if_neg (by simp),if_pos hn]at hR;have hi:¬(n:Int)=(s.length:Int):=ZG;refine ah hi ?_;exact hR.ro ⟨rfl,rfl⟩
 ·rw[if_pos he]at hR;have hi:¬(e:Int)=0:=ZG;refine ah hi ?_;exact hR.ro ⟨rfl,rfl⟩
def kY (k:Int) (d:Bs):Bs:=if b7 k d=0 then Sh.bw (Sh.cS (gM k d))else[]
def kr (id:Bs) (x:Int×Bs×Int):Int×Bs×Int:=if x.2.2≠0 then(0,[],x.2.2)else if kY x.1 x.2.1=id then(x.1,x.2.1,0)else(0,[],5)
def readP (id:Bs):Option Bs->Int×Bs×Int
 | none=>(0,[],7)
 | some d=>kr id (mC d)
def kl (id:Bs) (L:List Fi):Int×Bs×Int:=if cf id=true then readP id (getF (ln id) L)else(0,[],4)
set_option maxHeartbeats 1000000 in
theorem QM (L:List Fi) (n:Nat) (id:Bs) (hs:dE L) (hl:L.length<=100000) (hd:∀f∈L,f.2.length<=1000000) (hi:id.length<=140737488351232):aw Tryz.prog 64 [fx L n,.str id] (ij (kl id L)):=by
 refine Cod.QN (λE R hN hR=>?_);have h1:=QK id hi;have h2:=xP L n (ln id) hs hl;unfold kl at hR;refine wW ?_;by_cases hid:cf id=true;rotate_left
 ·rw[if_neg hid]at h1 hR;refine an h1 rfl rfl ?_;refine wW ?_;exact hR.ro ⟨rfl,rfl⟩
 rw[if_pos hid]at h1 hR;refine an h1 rfl rfl ?_;refine wW ?_
 cases hg:getF (ln id) L with
 | none=>
  rw[hg]at h2 hR;refine an h2 rfl rfl ?_;refine wW ?_
  exact hR.ro ⟨rfl,rfl⟩
 | some d=>
  rw[hg]at h2 hR;have hdl:=hd _ (get_mem hg);have h3:=QO d hdl;have hul:=Yk d;have hR:cF (λh r _=>h=[]/\r=ij (kr id (mC d))) R:=hR;refine an h2 rfl rfl ?_;obtain⟨x,hx⟩:∃x,x=mC d:=⟨_,rfl⟩;rw[<-hx]at hR hul h3;clear hx;obtain⟨k,t,e⟩:=x;unfold kr at hR;simp only at hR hul;unfold ij gV at h3;simp only at h3;refine wW ?_;refine an h3 rfl rfl ?_;by_cases he:e=0
  ·subst he;rw[if_neg (by simp)]at hR;have h4:=BC k t ZG
   have hid2:aw Tryz.prog 101 [.agg [.int .i64 k,.str t]] (.ab [.str (kY k t),.int .i64 (b7 k t)]):=by
    unfold kY;unfold rT at h4;by_cases hc:b7 k t=0
    ·rw[if_pos hc]at h4 |-;rw[hc];exact h4
    ·rw[if_neg hc]at h4 |-;exact h4
   obtain⟨is,his⟩:∃is,is=kY k t:=⟨_,rfl⟩;rw[<-his]at hR hid2;refine wW ?_;refine an hid2 rfl rfl ?_;by_cases hx:is=id
   ·rw[if_pos hx]at hR;refine ah hx ?_;exact hR.ro ⟨rfl,rfl⟩
   ·rw[if_neg hx]at hR;refine ah hx ?_;exact hR.ro ⟨rfl,rfl⟩
  ·rw[if_pos he]at hR;refine ah he ?_;exact hR.ro ⟨rfl,rfl⟩
open Eng
set_option maxRecDepth 10000
open Eng Ob
set_option maxRecDepth 10000
theorem tB (l:List Bs):az (aL l) 0 l.length=aL l:=by
 unfold az;rw[aae,ZK (by rw[bz];omega)]
end Go.Proofs.YtkdjbebgdoohjaaGreatDoor.Ls
