/- The proof, part 32 of 43. -/
import Derived.Test.YtoalcafkffmiiaaGreatDoorOdbShadowsZ
import Derived.Test.YtoalcafkffmiiaaGreatDoorOdbShadowsZA
import Derived.Test.YtoalcafkffmiiaaGreatDoorOdbShadowsZE
set_option linter.all false
namespace Go.Proofs.YtoalcafkffmiiaaGreatDoor.Ls
open Eng Pk Ob
set_option maxRecDepth 10000
def cQ (s:Bs):Int×Bs×Int:=
 if(dF s 65536).2.2≠0 then(0,[],((dF s 65536).2.2:Nat))else if(dF s 65536).2.1≠s.length then(0,[],3)else eW (dF s 65536).1
theorem Lb (s:Bs):(eW s).2.1.length<=s.length:=by
 have:=(pg 0 s).2;unfold eW
 (repeat' split)<;>simp[this]
theorem Ef (s:Bs):(cQ s).2.1.length<=65536:=by
 have h1:=(vA s 65536).1;have h2:=Lb (dF s 65536).1;unfold cQ;split
 ·simp
 ·split
  ·simp
  ·omega
theorem aas (s:Bs) (hs:s.length<=1000000):aJ Tryz.prog 81 [.str s] (fW (cQ s)):=by
 refine Cod.aat (λE R hN hR=>?_);have h1:=aA0 s 0 65536 hs (aBB _) (aA9 _);rw[aBF]at h1;have hz:=vA s 65536;unfold cQ at hR;generalize dF s 65536=Z at *
 obtain⟨t,n,e⟩:=Z;simp only at hR hz;refine wW ?_;refine aw h1 rfl rfl ?_;by_cases he:e=0
 ·subst he;by_cases hn:n=s.length
  ·subst hn;rw[if_neg (by simp),if_neg (by simp)]at hR;have hdc:=Lc t aA4;generalize eW t=x at *
   obtain⟨k,d,e⟩:=x;unfold fW eI at hdc hR;refine wW ?_;refine aw hdc rfl rfl ?_;refine wW ?_;exact hR.ro ⟨rfl,rfl⟩
  ·rw[if_neg (by simp),if_pos hn]at hR;have hi:¬(n:Int)=(s.length:Int):=aA4;refine au hi ?_;exact hR.ro ⟨rfl,rfl⟩
 ·rw[if_pos he]at hR;have hi:¬(e:Int)=0:=aA4;refine au hi ?_;exact hR.ro ⟨rfl,rfl⟩
def nv (k:Int) (d:Bs):Bs:=if eS k d=0 then Sh.bW (Sh.ep (gk k d))else[]
def lz (id:Bs) (x:Int×Bs×Int):Int×Bs×Int:=if x.2.2≠0 then(0,[],x.2.2)else if nv x.1 x.2.1=id then(x.1,x.2.1,0)else(0,[],5)
def readP (id:Bs):Option Bs->Int×Bs×Int
 | none=>(0,[],7)
 | some d=>lz id (cQ d)
def iX (id:Bs) (L:List Fi):Int×Bs×Int:=if cm id=true then readP id (getF (bK id) L)else(0,[],4)
set_option maxHeartbeats 1000000 in
theorem aah (L:List Fi) (n:Nat) (id:Bs) (hs:eQ L) (hl:L.length<=100000) (hd:∀f∈L,f.2.length<=1000000) (hi:id.length<=140737488351232):aJ Tryz.prog 44 [eu L n,.str id] (fW (iX id L)):=by
 refine Cod.Ad (λE R hN hR=>?_);have h1:=tI id hi;have h2:=qX L n (bK id) hs hl;unfold iX at hR;refine wW ?_;by_cases hid:cm id=true;rotate_left
 ·rw[if_neg hid]at h1 hR;refine aw h1 rfl rfl ?_;refine wW ?_;exact hR.ro ⟨rfl,rfl⟩
 rw[if_pos hid]at h1 hR;refine aw h1 rfl rfl ?_;refine wW ?_
 cases hg:getF (bK id) L with
 | none=>
  rw[hg]at h2 hR;refine aw h2 rfl rfl ?_;refine wW ?_
  exact hR.ro ⟨rfl,rfl⟩
 | some d=>
  rw[hg]at h2 hR;have hdl:=hd _ (get_mem hg);have h3:=aas d hdl;have hul:=Ef d;have hR:cR (λh r _=>h=[]/\r=fW (lz id (cQ d))) R:=hR;refine aw h2 rfl rfl ?_;obtain⟨x,hx⟩:∃x,x=cQ d:=⟨_,rfl⟩;rw[<-hx]at hR hul h3;clear hx;obtain⟨k,t,e⟩:=x;unfold lz at hR;simp only at hR hul;unfold fW eI at h3;simp only at h3;refine wW ?_;refine aw h3 rfl rfl ?_;by_cases he:e=0
  ·subst he;rw[if_neg (by simp)]at hR;have h4:=R6 k t aA4
   have hid2:aJ Tryz.prog 82 [.agg [.int .i64 k,.str t]] (.ai [.str (nv k t),.int .i64 (eS k t)]):=by
    unfold nv;unfold tc at h4;by_cases hc:eS k t=0
    ·rw[if_pos hc]at h4 |-;rw[hc];exact h4
    ·rw[if_neg hc]at h4 |-;exact h4
   obtain⟨is,his⟩:∃is,is=nv k t:=⟨_,rfl⟩;rw[<-his]at hR hid2;refine wW ?_;refine aw hid2 rfl rfl ?_;by_cases hx:is=id
   ·rw[if_pos hx]at hR;refine au hx ?_;exact hR.ro ⟨rfl,rfl⟩
   ·rw[if_neg hx]at hR;refine au hx ?_;exact hR.ro ⟨rfl,rfl⟩
  ·rw[if_pos he]at hR;refine au he ?_;exact hR.ro ⟨rfl,rfl⟩
open Eng
set_option maxRecDepth 10000
open Eng Ob
set_option maxRecDepth 10000
theorem XS (s:Bs):0<=(cQ s).1/\(cQ s).1<=4:=by
 have hk:∀t,0<=fO t/\fO t<=4:=by
  intro t;unfold fO
  (repeat' split)<;>omega
 have hd:∀t,0<=(eW t).1/\(eW t).1<=4:=by
  intro t;have:=hk (cutP 32 (cutP 0 t).1).1;unfold eW
  (repeat' split)<;>simp only<;>omega
 unfold cQ;split
 ·simp
 ·split
  ·simp
  ·exact hd _
end Go.Proofs.YtoalcafkffmiiaaGreatDoor.Ls
