/- The proof, part 33 of 51. -/
import Derived.Test.YtgghhaahnpbnmaaGreatDoorCartularyWalksV
import Derived.Test.YtgghhaahnpbnmaaGreatDoorCartularyWalksZ
import Derived.Test.YtgghhaahnpbnmaaGreatDoorCartularyWalksZF
set_option linter.all false
namespace Go.Proofs.YtgghhaahnpbnmaaGreatDoor.Ls
open Eng Pk Ob
set_option maxRecDepth 10000
def ko (s:Bs):Int×Bs×Int:=
 if(dX s 65536).2.2≠0 then(0,[],((dX s 65536).2.2:Nat))else if(dX s 65536).2.1≠s.length then(0,[],3)else lI (dX s 65536).1
theorem MA (s:Bs):(lI s).2.1.length<=s.length:=by
 have:=(sN 0 s).2;unfold lI
 (repeat' split)<;>simp[this]
theorem aa0 (s:Bs):(ko s).2.1.length<=65536:=by
 have h1:=(vJ s 65536).1;have h2:=MA (dX s 65536).1;unfold ko;split
 ·simp
 ·split
  ·simp
  omega
theorem Uc (s:Bs) (hs:s.length<=1000000):aw Tryz.prog 159 [.str s] (iL (ko s)):=by
 refine Cod.Ud (λE R hN hR=>?_);have h1:=Hm s 0 65536 hs (ac5 _) (acG _);rw[adp]at h1;have hz:=vJ s 65536;unfold ko at hR;generalize dX s 65536=Z at *
 obtain⟨t,n,e⟩:=Z;simp only at hR hz;refine wW ?_;refine aj h1 rfl rfl ?_;by_cases he:e=0
 ·subst he;by_cases hn:n=s.length
  ·subst hn;rw[if_neg (by simp),if_neg (by simp)]at hR;have hdc:=MB t acB;generalize lI t=x at *
   obtain⟨k,d,e⟩:=x;unfold iL ft at hdc hR;refine wW ?_;refine aj hdc rfl rfl ?_;refine wW ?_;exact hR.ro ⟨rfl,rfl⟩
  ·rw[if_neg (by simp),if_pos hn]at hR;have hi:¬(n:Int)=(s.length:Int):=acB;refine ah hi ?_;exact hR.ro ⟨rfl,rfl⟩
 ·rw[if_pos he]at hR;have hi:¬(e:Int)=0:=acB;refine ah hi ?_;exact hR.ro ⟨rfl,rfl⟩
def kL (k:Int) (d:Bs):Bs:=if aY k d=0 then Sh.b7 (Sh.dR (aU k d))else[]
def jE (id:Bs) (x:Int×Bs×Int):Int×Bs×Int:=if x.2.2≠0 then(0,[],x.2.2)else if kL x.1 x.2.1=id then(x.1,x.2.1,0)else(0,[],5)
def readP (id:Bs):Option Bs->Int×Bs×Int
 | none=>(0,[],7)
 | some d=>jE id (ko d)
def kR (id:Bs) (L:List Fi):Int×Bs×Int:=if cd id=true then readP id (getF (fv id) L)else(0,[],4)
set_option maxHeartbeats 1000000 in
theorem Ua (L:List Fi) (n:Nat) (id:Bs) (hs:eB L) (hl:L.length<=100000) (hd:∀f∈L,f.2.length<=1000000) (hi:id.length<=140737488351232):aw Tryz.prog 139 [fL L n,.str id] (iL (kR id L)):=by
 refine Cod.Ub (λE R hN hR=>?_);have h1:=DQ id hi;have h2:=y5 L n (fv id) hs hl;unfold kR at hR;refine wW ?_;by_cases hid:cd id=true;rotate_left
 ·rw[if_neg hid]at h1 hR;refine aj h1 rfl rfl ?_;refine wW ?_;exact hR.ro ⟨rfl,rfl⟩
 rw[if_pos hid]at h1 hR;refine aj h1 rfl rfl ?_;refine wW ?_
 cases hg:getF (fv id) L with
 | none=>
  rw[hg]at h2 hR;refine aj h2 rfl rfl ?_;refine wW ?_
  exact hR.ro ⟨rfl,rfl⟩
 | some d=>
  rw[hg]at h2 hR;have hdl:=hd _ (get_mem hg);have h3:=Uc d hdl;have hul:=aa0 d;have hR:cM (λh r _=>h=[]/\r=iL (jE id (ko d))) R:=hR;refine aj h2 rfl rfl ?_;obtain⟨x,hx⟩:∃x,x=ko d:=⟨_,rfl⟩;rw[<-hx]at hR hul h3;clear hx;obtain⟨k,t,e⟩:=x;unfold jE at hR;simp only at hR hul;unfold iL ft at h3;simp only at h3;refine wW ?_;refine aj h3 rfl rfl ?_;by_cases he:e=0
  ·subst he;rw[if_neg (by simp)]at hR;have h4:=tR k t acB
   have hid2:aw Tryz.prog 8 [.agg [.int .i64 k,.str t]] (.ab [.str (kL k t),.int .i64 (aY k t)]):=by
    unfold kL;unfold oG at h4;by_cases hc:aY k t=0
    ·rw[if_pos hc]at h4 |-;rw[hc];exact h4
    ·rw[if_neg hc]at h4 |-;exact h4
   obtain⟨is,his⟩:∃is,is=kL k t:=⟨_,rfl⟩;rw[<-his]at hR hid2;refine wW ?_;refine aj hid2 rfl rfl ?_;by_cases hx:is=id
   ·rw[if_pos hx]at hR;refine ah hx ?_;exact hR.ro ⟨rfl,rfl⟩
   ·rw[if_neg hx]at hR;refine ah hx ?_;exact hR.ro ⟨rfl,rfl⟩
  ·rw[if_pos he]at hR;refine ah he ?_;exact hR.ro ⟨rfl,rfl⟩
open Eng
set_option maxRecDepth 10000
open Eng Ob
set_option maxRecDepth 10000
end Go.Proofs.YtgghhaahnpbnmaaGreatDoor.Ls
