/- The proof, part 21 of 43. -/
import Derived.Test.YtoalcafkffmiiaaGreatDoorOdbShadowsO
import Derived.Test.YtoalcafkffmiiaaGreatDoorOdbShadowsR
import Derived.Test.YtoalcafkffmiiaaGreatDoorOdbShadowsT
set_option linter.all false
namespace Go.Proofs.YtoalcafkffmiiaaGreatDoor.Ls
open Eng
set_option maxRecDepth 10000
def cM (t:Bs):Nat:=t.foldl (λx b=>256*x+b.toNat) 0
theorem we (t:Bs) {k:Nat} (h:k<t.length):cM (t.take (k+1))=256*cM (t.take k)+(t.getD k 0).toNat:=by
 rw[dE 0 t h];simp[cM]
theorem r6 (t:Bs):∀k,k<=t.length->cM (t.take k)<256^k
 | 0,_=>by rw[aB1];decide
 | k+1,h=>by
  have ih:=r6 t k aA4;have hb:=(t.getD k 0).toNat_lt;rw[we t h,aCf];omega
theorem mY {t:Bs} {n:Nat} (h:t.length<=n):cM t<256^n:=by
 have h1:=r6 t t.length (aA9 _);rw[aA7 (aA9 _)]at h1;exact aBi h1 (aBg (by decide) h)
theorem aeQ {x b:Nat} (hx:x<72057594037927936) (hb:b<256):bits .or .u64 (IntKind.u64.wrap ((x:Int)*2^min 8 64)) (b:Int)=((256*x+b:Nat):Int):=by
 have h1:((x:Int)*2^min 8 64)=((x*256:Nat):Int):=by
  rw[show((2:Int)^min 8 64)=256 by decide];omega
 rw[h1,wrap_u64 aA4]
 show IntKind.u64.wrap ((BitVec.ofInt 64 ((x*256:Nat):Int) ||| BitVec.ofInt 64 (b:Int)).toNat:Int)=_
 rw[aBl,aBl,aCw,aBm,aBm,aBh aA4,aBh aA4]
 have h2:x*256 ||| b=256*x+b:=by
  have h3:=aBU (b:=b) (i:=8) aA4 x;rw[aB8,show(2:Nat)^8=256 by decide]at h3;omega
 rw[h2];exact wrap_u64 aA4
theorem mg (t:Bs) (ht:t.length<=8):aJ Tryz.prog 73 [.str t] (.int .u64 (cM t:Nat)):=by
 refine Cod.acW (λE R hN hR=>?_);refine wW ?_;refine aZ hN (λk:Nat=>⟨[(0,.str t),(3,.int .u64 (cM (t.take k):Nat)),(6,.int .i64 t.length),(7,.int .i64 k)],[]⟩) (λk=>k<=t.length) (λk=>t.length-k) 0 (.le (by simp(disch:=omega)only[go_sem,simprocAttr];simp[cM])) aA4 ?_;rintro k R1 hk hR1;by_cases hlt:k<t.length
 ·have hct:=we t hlt;have hxl:cM (t.take k)<72057594037927936:=aBi (r6 t k hk) (aBg (n:=256) (by decide) (by omega:k<=7));have hbl:=(t.getD k 0).toNat_lt;have ho:=aeQ hxl hbl;generalize cM (t.take k)=x at *
  refine au ho ?_;exact hR1 (k+1) _ aA4 aA4 (.le (eM hct))
 ·obtain rfl:k=t.length:=aA4;rw[aA7 (aA9 _)];refine wW ?_;exact hR.ro ⟨rfl,rfl⟩
def eU (s:Bs):Int×Int:=
 if s.length<32 then(0,6)
 else if s.take 4≠[80,65,67,75]then(0,3)
 else if cM ((s.drop 4).take 4)≠2 then(0,3)
 else if 1000<cM ((s.drop 8).take 4)then(0,2)
 else if Sh.ep (s.take (s.length-20))≠s.drop (s.length-20)then(0,5)
 else(cM ((s.drop 8).take 4),0)
theorem Kf {s:Bs} (h:(eU s).2=0):32<=s.length:=by
 unfold eU at h;split at h
 ·cases h
 ·omega
theorem ay3 (s:Bs) (hs:s.length<=100000):aJ Tryz.prog 35 [.str s] (.ai [.int .i64 (eU s).1,.int .i64 (eU s).2]):=by
 refine Cod.ay4 (λE R hN hR=>?_);have fin:∀{h} (n e:Int),eU s=(n,e)->R h (.ai [.int .i64 n,.int .i64 e]) [.undef]:=λn e he=>hR.ro ⟨rfl,by rw[he]⟩;by_cases h32:s.length<32
 ·refine wW ?_;exact fin 0 6 (by unfold eU;rw[if_pos h32])
 ·have hb4:=mg ((s.drop 4).take 4) (by rw[aBa];omega);have hb8:=mg ((s.drop 8).take 4) (by rw[aBa];omega);have hl8:cM ((s.drop 8).take 4)<4294967296:=mY (n:=4) (by rw[aBa];omega);have jG:=Sh.uZ (s.take (s.length-20)) (by rw[aBa];omega);have et:((s.length:Int)-20).toNat=s.length-20:=aA4;by_cases h1:s.take 4=[80,65,67,75]
  ·have hc:eU s=(if cM ((s.drop 4).take 4)≠2 then((0:Int),(3:Int))else if 1000<cM ((s.drop 8).take 4)then(0,2)else if Sh.ep (s.take (s.length-20))≠s.drop (s.length-20)then(0,5)else((cM ((s.drop 8).take 4):Nat),0)):=by unfold eU;rw[if_neg h32,if_neg (λh=>h h1)]
   generalize cM ((s.drop 4).take 4)=x4 at *
   generalize cM ((s.drop 8).take 4)=x8 at *
   refine au h1 ?_;refine bq h1 ?_;refine fN (iM vV hb4 vV rfl rfl ?_);by_cases h2:((x4:Nat):Int)=2
   ·rw[if_neg (λh:¬x4=2=>h aA4)]at hc;refine au h2 ?_;refine bq h2 ?_;refine aw hb8 rfl rfl ?_;by_cases h1000:1000<x8
    ·rw[if_pos h1000]at hc;refine wW ?_;exact fin 0 2 hc
    ·rw[if_neg h1000]at hc;refine au et ?_;refine aw jG rfl rfl ?_;by_cases hsha:Sh.ep (s.take (s.length-20))=s.drop (s.length-20)
     ·rw[if_neg (λh=>h hsha)]at hc;refine bl et hsha ?_;exact fin _ 0 hc
     ·rw[if_pos hsha]at hc;refine bl et hsha ?_;exact fin 0 5 hc
   ·rw[if_pos (λh:x4=2=>h2 aA4)]at hc;refine au h2 ?_;refine bq h2 ?_;exact fin 0 3 hc
  ·have hc:eU s=(0,3):=by unfold eU;rw[if_neg h32,if_pos h1]
   refine au h1 ?_;refine bq h1 ?_;exact fin 0 3 hc
end Go.Proofs.YtoalcafkffmiiaaGreatDoor.Ls
