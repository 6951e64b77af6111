/- The proof, part 31 of 42. -/
import Derived.Test.YtoalcafkffmiiaaGreatDoorOdbKindsZ
import Derived.Test.YtoalcafkffmiiaaGreatDoorOdbKindsZA
import Derived.Test.YtoalcafkffmiiaaGreatDoorOdbKindsZD
set_option linter.all false
namespace Go.Proofs.YtoalcafkffmiiaaGreatDoor.Ls
open Eng Pk Ob
set_option maxRecDepth 10000
def lq (s:Bs):Int×Bs×Int:=
 if(dP s 65536).2.2≠0 then(0,[],((dP s 65536).2.2:Nat))else if(dP s 65536).2.1≠s.length then(0,[],3)else lM (dP s 65536).1
theorem LF (s:Bs):(lM s).2.1.length≤s.length:=by
 have:=(pg 0 s).2
 unfold lM
 (repeat' split)<;>simp[this]
theorem an5 (s:Bs):(lq s).2.1.length≤65536:=by
 have h1:=(ry s 65536).1
 have h2:=LF (dP s 65536).1
 unfold lq
 split
 ·simp
 ·split
  ·simp
  ·omega
theorem aaF (s:Bs) (hs:s.length≤1000000):aO Tryz.prog 81 [.str s] (fO (lq s)):=by
 refine Cod.aaG (fun E R hN hR=>?_)
 have h1:=Dj s 0 65536 hs (Nat.zero_le _) (Nat.le_refl _)
 rw[List.drop_zero]at h1
 have hz:=ry s 65536
 unfold lq at hR
 generalize dP s 65536=Z at *
 obtain⟨t,n,e⟩:=Z
 simp only at hR hz
 refine wW ?_
 refine aC h1 rfl rfl ?_
 by_cases he:e=0
 ·subst he
  by_cases hn:n=s.length
  ·subst hn
   rw[if_neg (by simp),if_neg (by simp)]at hR
   have hdc:=LG t (by omega)
   generalize lM t=x at *
   obtain⟨k,d,e⟩:=x
   unfold fO fB at hdc hR
   refine wW ?_
   refine aC hdc rfl rfl ?_
   refine wW ?_
   exact hR.ro ⟨rfl,rfl⟩
  ·rw[if_neg (by simp),if_pos hn]at hR
   have hi:¬(n:Int)=(s.length:Int):=by omega
   refine aw hi ?_
   exact hR.ro ⟨rfl,rfl⟩
 ·rw[if_pos he]at hR
  have hi:¬(e:Int)=0:=by omega
  refine aw hi ?_
  exact hR.ro ⟨rfl,rfl⟩
def jR (k:Int) (d:Bs):Bs:=if dD k d=0 then Sh.bZ (Sh.fg (jA k d))else[]
def jq (id:Bs) (x:Int×Bs×Int):Int×Bs×Int:=if x.2.2≠0 then(0,[],x.2.2)else if jR x.1 x.2.1=id then(x.1,x.2.1,0)else(0,[],5)
def readP (id:Bs):Option Bs→Int×Bs×Int
 | none=>(0,[],7)
 | some d=>jq id (lq d)
def kT (id:Bs) (L:List Fi):Int×Bs×Int:=if cH id=true then readP id (getF (gr id) L)else(0,[],4)
set_option maxHeartbeats 1000000 in
theorem aau (L:List Fi) (n:Nat) (id:Bs) (hs:du L) (hl:L.length≤100000) (hd:∀f∈L,f.2.length≤1000000) (hi:id.length≤140737488351232):aO Tryz.prog 44 [dK L n,.str id] (fO (kT id L)):=by
 refine Cod.zW (fun E R hN hR=>?_)
 have h1:=tP id hi
 have h2:=qX L n (gr id) hs hl
 unfold kT at hR
 refine wW ?_
 by_cases hid:cH id=true
 rotate_left
 ·rw[if_neg hid]at h1 hR
  refine aC h1 rfl rfl ?_
  refine wW ?_
  exact hR.ro ⟨rfl,rfl⟩
 rw[if_pos hid]at h1 hR
 refine aC h1 rfl rfl ?_
 refine wW ?_
 cases hg:getF (gr id) L with
 | none=>
  rw[hg]at h2 hR
  refine aC h2 rfl rfl ?_
  refine wW ?_
  exact hR.ro ⟨rfl,rfl⟩
 | some d=>
  rw[hg]at h2 hR
  have hdl:=hd _ (get_mem hg)
  have h3:=aaF d hdl
  have hul:=an5 d
  have hR:cN (fun h r _=>h=[]∧r=fO (jq id (lq d))) R:=hR
  refine aC h2 rfl rfl ?_
  obtain⟨x,hx⟩:∃x,x=lq d:=⟨_,rfl⟩
  rw[←hx]at hR hul h3
  clear hx
  obtain⟨k,t,e⟩:=x
  unfold jq at hR
  simp only at hR hul
  unfold fO fB at h3
  simp only at h3
  refine wW ?_
  refine aC h3 rfl rfl ?_
  by_cases he:e=0
  ·subst he
   rw[if_neg (by simp)]at hR
   have h4:=y9 k t (by omega)
   have hid2:aO Tryz.prog 82 [.agg [.int .i64 k,.str t]] (.ai [.str (jR k t),.int .i64 (dD k t)]):=by
    unfold jR
    unfold p4 at h4
    by_cases hc:dD k t=0
    ·rw[if_pos hc]at h4 ⊢;rw[hc];exact h4
    ·rw[if_neg hc]at h4 ⊢;exact h4
   obtain⟨is,his⟩:∃is,is=jR k t:=⟨_,rfl⟩
   rw[←his]at hR hid2
   refine wW ?_
   refine aC hid2 rfl rfl ?_
   by_cases hx:is=id
   ·rw[if_pos hx]at hR
    refine aw hx ?_
    exact hR.ro ⟨rfl,rfl⟩
   ·rw[if_neg hx]at hR
    refine aw hx ?_
    exact hR.ro ⟨rfl,rfl⟩
  ·rw[if_pos he]at hR
   refine aw he ?_
   exact hR.ro ⟨rfl,rfl⟩
open Eng
set_option maxRecDepth 10000
open Eng Ob
set_option maxRecDepth 10000
end Go.Proofs.YtoalcafkffmiiaaGreatDoor.Ls
