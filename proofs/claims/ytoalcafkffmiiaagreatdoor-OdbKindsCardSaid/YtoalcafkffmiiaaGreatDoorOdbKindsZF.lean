/- The proof, part 32 of 42. -/
import Derived.Test.YtoalcafkffmiiaaGreatDoorOdbKindsZE
import Derived.Lib.SplitLaws
set_option linter.all false
namespace Go.Proofs.YtoalcafkffmiiaaGreatDoor.Ls
open Eng
set_option maxRecDepth 10000
theorem Zz:∀a b:Bs,Op.bytesLess a b=decide (Lib.compareBytes a b = -1)
 | [],[]=>rfl
 | [],_::_=>rfl
 | _::_,[]=>rfl
 | x::r,y::t=>by
  have ih:=Zz r t
  rw[Op.bytesLess,Lib.compareBytes,ih]
  by_cases h1:x<y
  ·simp[h1]
  ·by_cases h2:y<x
   ·have:¬x=y:=fun e=>by subst e;exact h1 h2
    simp[h1,h2,this]
   ·have:x=y:=by
     simp only[UInt8.lt_iff_toNat_lt]at h1 h2
     exact UInt8.toNat.inj (by omega)
    simp[this]
def iq (l:List Bs):Prop:=l.Pairwise (fun a b=>Lib.compareBytes a b<0)
theorem rT (a b:UInt8) (t s:Bs):bw (a::t) (b::s)=(decide (a=b)&&bw t s):=by
 unfold bw
 by_cases h:a=b
 ·subst h
  simp
 ·have h':¬b=a:=fun e=>h e.symm
  simp[h,h']
theorem Gf (s:Bs):bw [] s=true:=by simp[bw]
theorem v7 (a:UInt8) (t:Bs):bw (a::t) []=false:=by simp[bw]
theorem vZ:∀{t s:Bs},bw t s=true→Lib.compareBytes t s≤0
 | [],[],_=>by simp[Lib.compareBytes]
 | [],_::_,_=>by simp[Lib.compareBytes]
 | a::t,[],h=>by rw[v7]at h;cases h
 | a::t,b::s,h=>by
  rw[rT,Bool.and_eq_true,decide_eq_true_eq]at h
  obtain⟨rfl,h⟩:=h
  have:=vZ h
  simpa[Lib.compareBytes,UInt8.lt_iff_toNat_lt]using this
theorem vY:∀{t y z:Bs},Lib.compareBytes t y≤0→Lib.compareBytes y z≤0→bw t z=true→bw t y=true
 | [],y,_,_,_,_=>Gf y
 | a::t,y,[],_,_,h=>by rw[v7]at h;cases h
 | a::t,[],z::zs,h,_,_=>by simp[Lib.compareBytes]at h
 | a::t,c::y,b::z,h1,h2,h3=>by
  rw[rT,Bool.and_eq_true,decide_eq_true_eq]at h3
  obtain⟨rfl,h3⟩:=h3
  simp only[Lib.compareBytes,UInt8.lt_iff_toNat_lt]at h1 h2
  by_cases hc:a.toNat=c.toNat
  ·have hc:=UInt8.toNat.inj hc
   subst hc
   simp only[Nat.lt_irrefl,if_false]at h1 h2
   rw[rT,decide_eq_true rfl,Bool.true_and]
   exact vY h1 h2 h3
  ·exfalso
   split at h1
   ·rename_i h
    rw[if_neg (by omega),if_pos h]at h2
    omega
   ·rw[if_pos (by omega)]at h1
    omega
def lV (p:Bs) (fs:List Fi):Option Bs:=((fs.filter (fun f=>decide (f.1=p))).map (·.2)).head?
end Go.Proofs.YtoalcafkffmiiaaGreatDoor.Ls
