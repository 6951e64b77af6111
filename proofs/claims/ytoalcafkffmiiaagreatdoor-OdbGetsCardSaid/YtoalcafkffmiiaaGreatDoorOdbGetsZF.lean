/- The proof, part 32 of 43. -/
import Derived.Test.YtoalcafkffmiiaaGreatDoorOdbGetsZA
import Derived.Test.YtoalcafkffmiiaaGreatDoorOdbGetsZB
import Derived.Test.YtoalcafkffmiiaaGreatDoorOdbGetsZE
set_option linter.all false
namespace Go.Proofs.YtoalcafkffmiiaaGreatDoor.Ls
open Eng Pk Ob
set_option maxRecDepth 10000
def dN (s:Bs):Int×Bs×Int:=
 if(eG s 65536).2.2≠0 then(0,[],((eG s 65536).2.2:Nat))else if(eG s 65536).2.1≠s.length then(0,[],3)else gX (eG s 65536).1
theorem LY (s:Bs):(gX s).2.1.length<=s.length:=by
 have:=(sD 0 s).2;unfold gX
 (repeat' split)<;>simp[this]
theorem GU (s:Bs):(dN s).2.1.length<=65536:=by
 have h1:=(pF s 65536).1;have h2:=LY (eG s 65536).1;unfold dN;split
 ·simp
 ·split
  ·simp
  omega
theorem SR (s:Bs) (hs:s.length<=1000000):ao Tryz.prog 81 [.str s] (eh (dN s)):=by
 refine Cod.SU (λE R hN hR=>?_);have h1:=Hc s 0 65536 hs (ac9 _) (acT _);rw[ado]at h1;have hz:=pF s 65536;unfold dN at hR;generalize eG s 65536=Z at *
 obtain⟨t,n,e⟩:=Z;simp only at hR hz;refine wW ?_;refine ah h1 rfl rfl ?_;by_cases he:e=0
 ·subst he;by_cases hn:n=s.length
  ·subst hn;rw[if_neg (by simp),if_neg (by simp)]at hR;have hdc:=LZ t acN;generalize gX t=x at *
   obtain⟨k,d,e⟩:=x;unfold eh dV at hdc hR;refine wW ?_;refine ah hdc rfl rfl ?_;refine wW ?_;exact hR.ro ⟨rfl,rfl⟩
  ·rw[if_neg (by simp),if_pos hn]at hR;have hi:¬(n:Int)=(s.length:Int):=acN;refine ab hi ?_;exact hR.ro ⟨rfl,rfl⟩
 ·rw[if_pos he]at hR;have hi:¬(e:Int)=0:=acN;refine ab hi ?_;exact hR.ro ⟨rfl,rfl⟩
def kQ (k:Int) (d:Bs):Bs:=if ee k d=0 then Sh.bC (Sh.cY (gN k d))else[]
def jM (id:Bs) (x:Int×Bs×Int):Int×Bs×Int:=if x.2.2≠0 then(0,[],x.2.2)else if kQ x.1 x.2.1=id then(x.1,x.2.1,0)else(0,[],5)
def readP (id:Bs):Option Bs->Int×Bs×Int
 | none=>(0,[],7)
 | some d=>jM id (dN d)
def lF (id:Bs) (L:List Fi):Int×Bs×Int:=if bJ id=true then readP id (getF (eX id) L)else(0,[],4)
set_option maxHeartbeats 1000000 in
theorem SQ (L:List Fi) (n:Nat) (id:Bs) (hs:eO L) (hl:L.length<=100000) (hd:∀f∈L,f.2.length<=1000000) (hi:id.length<=140737488351232):ao Tryz.prog 44 [fD L n,.str id] (eh (lF id L)):=by
 refine Cod.DH (λE R hN hR=>?_);have h1:=xO id hi;have h2:=uL L n (eX id) hs hl;unfold lF at hR;refine wW ?_;by_cases hid:bJ id=true;rotate_left
 ·rw[if_neg hid]at h1 hR;refine ah h1 rfl rfl ?_;refine wW ?_;exact hR.ro ⟨rfl,rfl⟩
 rw[if_pos hid]at h1 hR;refine ah h1 rfl rfl ?_;refine wW ?_
 cases hg:getF (eX id) L with
 | none=>
  rw[hg]at h2 hR;refine ah h2 rfl rfl ?_;refine wW ?_
  exact hR.ro ⟨rfl,rfl⟩
 | some d=>
  rw[hg]at h2 hR;have hdl:=hd _ (get_mem hg);have h3:=SR d hdl;have hul:=GU d;have hR:c7 (λh r _=>h=[]/\r=eh (jM id (dN d))) R:=hR;refine ah h2 rfl rfl ?_;obtain⟨x,hx⟩:∃x,x=dN d:=⟨_,rfl⟩;rw[<-hx]at hR hul h3;clear hx;obtain⟨k,t,e⟩:=x;unfold jM at hR;simp only at hR hul;unfold eh dV at h3;simp only at h3;refine wW ?_;refine ah h3 rfl rfl ?_;by_cases he:e=0
  ·subst he;rw[if_neg (by simp)]at hR;have h4:=C1 k t acN
   have hid2:ao Tryz.prog 82 [.agg [.int .i64 k,.str t]] (.af [.str (kQ k t),.int .i64 (ee k t)]):=by
    unfold kQ;unfold tq at h4;by_cases hc:ee k t=0
    ·rw[if_pos hc]at h4 |-;rw[hc];exact h4
    ·rw[if_neg hc]at h4 |-;exact h4
   obtain⟨is,his⟩:∃is,is=kQ k t:=⟨_,rfl⟩;rw[<-his]at hR hid2;refine wW ?_;refine ah hid2 rfl rfl ?_;by_cases hx:is=id
   ·rw[if_pos hx]at hR;refine ab hx ?_;exact hR.ro ⟨rfl,rfl⟩
   ·rw[if_neg hx]at hR;refine ab hx ?_;exact hR.ro ⟨rfl,rfl⟩
  ·rw[if_pos he]at hR;refine ab he ?_;exact hR.ro ⟨rfl,rfl⟩
open Eng
set_option maxRecDepth 10000
open Eng Ob
set_option maxRecDepth 10000
theorem QW (s:Bs):0<=(dN s).1/\(dN s).1<=4:=by
 have hk:∀t,0<=ib t/\ib t<=4:=by
  intro t;unfold ib
  (repeat' split)<;>omega
 have hd:∀t,0<=(gX t).1/\(gX t).1<=4:=by
  intro t;have:=hk (cutP 32 (cutP 0 t).1).1;unfold gX
  (repeat' split)<;>simp only<;>omega
 unfold dN;split
 ·simp
 ·split
  ·simp
  exact hd _
theorem pz (l:List Bs):aB (au l) 0 l.length=au l:=by
 unfold aB;rw[ado,acP (by rw[aZ];omega)]
end Go.Proofs.YtoalcafkffmiiaaGreatDoor.Ls
