/- The proof, part 31 of 42. -/
import Derived.Test.YtoalcafkffmiiaaGreatDoorOdbSureZ
import Derived.Test.YtoalcafkffmiiaaGreatDoorOdbSureZA
import Derived.Test.YtoalcafkffmiiaaGreatDoorOdbSureZD
set_option linter.all false
namespace Go.Proofs.YtoalcafkffmiiaaGreatDoor.Ls
open Eng Pk Ob
set_option maxRecDepth 10000
def lE (s:Bs):Int×Bs×Int:=
 if(dW s 65536).2.2≠0 then(0,[],((dW s 65536).2.2:Nat))else if(dW s 65536).2.1≠s.length then(0,[],3)else l3 (dW s 65536).1
theorem Mp (s:Bs):(l3 s).2.1.length≤s.length:=by
 have:=(pG 0 s).2
 unfold l3
 (repeat' split)<;>simp[this]
theorem aqd (s:Bs):(lE s).2.1.length≤65536:=by
 have h1:=(rH s 65536).1
 have h2:=Mp (dW s 65536).1
 unfold lE
 split
 ·simp
 ·split
  ·simp
  ·omega
theorem abk (s:Bs) (hs:s.length≤1000000):aN Tryz.prog 81 [.str s] (gq (lE s)):=by
 refine Cod.abl (fun E R hN hR=>?_)
 have h1:=D0 s 0 65536 hs (Nat.zero_le _) (Nat.le_refl _)
 rw[List.drop_zero]at h1
 have hz:=rH s 65536
 unfold lE at hR
 generalize dW s 65536=Z at *
 obtain⟨t,n,e⟩:=Z
 simp only at hR hz
 refine wW ?_
 refine aC h1 rfl rfl ?_
 by_cases he:e=0
 ·subst he
  by_cases hn:n=s.length
  ·subst hn
   rw[if_neg (by simp),if_neg (by simp)]at hR
   have hdc:=Mq t (by omega)
   generalize l3 t=x at *
   obtain⟨k,d,e⟩:=x
   unfold gq eF at hdc hR
   refine wW ?_
   refine aC hdc rfl rfl ?_
   refine wW ?_
   exact hR.ro ⟨rfl,rfl⟩
  ·rw[if_neg (by simp),if_pos hn]at hR
   have hi:¬(n:Int)=(s.length:Int):=by omega
   refine az hi ?_
   exact hR.ro ⟨rfl,rfl⟩
 ·rw[if_pos he]at hR
  have hi:¬(e:Int)=0:=by omega
  refine az hi ?_
  exact hR.ro ⟨rfl,rfl⟩
def j5 (k:Int) (d:Bs):Bs:=if dK k d=0 then Sh.bP (Sh.eh (fO k d))else[]
def jD (id:Bs) (x:Int×Bs×Int):Int×Bs×Int:=if x.2.2≠0 then(0,[],x.2.2)else if j5 x.1 x.2.1=id then(x.1,x.2.1,0)else(0,[],5)
def readP (id:Bs):Option Bs→Int×Bs×Int
 | none=>(0,[],7)
 | some d=>jD id (lE d)
def la (id:Bs) (L:List Fi):Int×Bs×Int:=if cL id=true then readP id (getF (gF id) L)else(0,[],4)
set_option maxHeartbeats 1000000 in
theorem aa8 (L:List Fi) (n:Nat) (id:Bs) (hs:dY L) (hl:L.length≤100000) (hd:∀f∈L,f.2.length≤1000000) (hi:id.length≤140737488351232):aN Tryz.prog 44 [dR L n,.str id] (gq (la id L)):=by
 refine Cod.Ao (fun E R hN hR=>?_)
 have h1:=tZ id hi
 have h2:=rk L n (gF id) hs hl
 unfold la at hR
 refine wW ?_
 by_cases hid:cL id=true
 rotate_left
 ·rw[if_neg hid]at h1 hR
  refine aC h1 rfl rfl ?_
  refine wW ?_
  exact hR.ro ⟨rfl,rfl⟩
 rw[if_pos hid]at h1 hR
 refine aC h1 rfl rfl ?_
 refine wW ?_
 cases hg:getF (gF id) L with
 | none=>
  rw[hg]at h2 hR
  refine aC h2 rfl rfl ?_
  refine wW ?_
  exact hR.ro ⟨rfl,rfl⟩
 | some d=>
  rw[hg]at h2 hR
  have hdl:=hd _ (get_mem hg)
  have h3:=abk d hdl
  have hul:=aqd d
  have hR:cP (fun h r _=>h=[]∧r=gq (jD id (lE d))) R:=hR
  refine aC h2 rfl rfl ?_
  obtain⟨x,hx⟩:∃x,x=lE d:=⟨_,rfl⟩
  rw[←hx]at hR hul h3
  clear hx
  obtain⟨k,t,e⟩:=x
  unfold jD at hR
  simp only at hR hul
  unfold gq eF at h3
  simp only at h3
  refine wW ?_
  refine aC h3 rfl rfl ?_
  by_cases he:e=0
  ·subst he
   rw[if_neg (by simp)]at hR
   have h4:=zw k t (by omega)
   have hid2:aN Tryz.prog 82 [.agg [.int .i64 k,.str t]] (.ai [.str (j5 k t),.int .i64 (dK k t)]):=by
    unfold j5
    unfold qk at h4
    by_cases hc:dK k t=0
    ·rw[if_pos hc]at h4 ⊢;rw[hc];exact h4
    ·rw[if_neg hc]at h4 ⊢;exact h4
   obtain⟨is,his⟩:∃is,is=j5 k t:=⟨_,rfl⟩
   rw[←his]at hR hid2
   refine wW ?_
   refine aC hid2 rfl rfl ?_
   by_cases hx:is=id
   ·rw[if_pos hx]at hR
    refine az hx ?_
    exact hR.ro ⟨rfl,rfl⟩
   ·rw[if_neg hx]at hR
    refine az hx ?_
    exact hR.ro ⟨rfl,rfl⟩
  ·rw[if_pos he]at hR
   refine az he ?_
   exact hR.ro ⟨rfl,rfl⟩
open Eng
set_option maxRecDepth 10000
open Eng Ob
set_option maxRecDepth 10000
end Go.Proofs.YtoalcafkffmiiaaGreatDoor.Ls
