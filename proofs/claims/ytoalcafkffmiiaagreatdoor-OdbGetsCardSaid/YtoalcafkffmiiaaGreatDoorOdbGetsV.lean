/- The proof, part 22 of 43. -/
import Derived.Test.YtoalcafkffmiiaaGreatDoorOdbGetsP
import Derived.Test.YtoalcafkffmiiaaGreatDoorOdbGetsS
import Derived.Test.YtoalcafkffmiiaaGreatDoorOdbGetsU
set_option linter.all false
namespace Go.Proofs.YtoalcafkffmiiaaGreatDoor.Ls
open Eng
set_option maxRecDepth 10000
def bW (t:Bs):Nat:=t.foldl (λx b=>256*x+b.toNat) 0
theorem vK (t:Bs) {k:Nat} (h:k<t.length):bW (t.take (k+1))=256*bW (t.take k)+(t.getD k 0).toNat:=by
 rw[dj 0 t h];simp[bW]
theorem sa (t:Bs):∀k,k<=t.length->bW (t.take k)<256^k
 | 0,_=>by rw[adI];decide
 | k+1,h=>by
  have ih:=sa t k acN;have hb:=(t.getD k 0).toNat_lt;rw[vK t h,ad2];omega
theorem l5 {t:Bs} {n:Nat} (h:t.length<=n):bW t<256^n:=by
 have h1:=sa t t.length (acT _);rw[acP (acT _)]at h1;exact ac3 h1 (acV (by decide) h)
theorem UU {x b:Nat} (hx:x<72057594037927936) (hb:b<256):bits .or .u64 (IntKind.u64.wrap ((x:Int)*2^min 8 64)) (b:Int)=((256*x+b:Nat):Int):=by
 have h1:((x:Int)*2^min 8 64)=((x*256:Nat):Int):=by
  rw[show((2:Int)^min 8 64)=256 by decide];omega
 rw[h1,wrap_u64 acN]
 show IntKind.u64.wrap ((BitVec.ofInt 64 ((x*256:Nat):Int) ||| BitVec.ofInt 64 (b:Int)).toNat:Int)=_
 rw[ac2,ac2,adZ,ac1,ac1,acY acN,acY acN]
 have h2:x*256 ||| b=256*x+b:=by
  have h3:=adu (b:=b) (i:=8) acN x;rw[adD,show(2:Nat)^8=256 by decide]at h3;omega
 rw[h2];exact wrap_u64 acN
theorem oM (t:Bs) (ht:t.length<=8):ao Tryz.prog 73 [.str t] (.int .u64 (bW t:Nat)):=by
 refine Cod.Ut (λE R hN hR=>?_);refine wW ?_;refine aD hN (λk:Nat=>⟨[(0,.str t),(3,.int .u64 (bW (t.take k):Nat)),(6,.int .i64 t.length),(7,.int .i64 k)],[]⟩) (λk=>k<=t.length) (λk=>t.length-k) 0 (.le (by simp(disch:=omega)only[go_sem,simprocAttr];simp[bW])) acN ?_;rintro k R1 hk hR1;by_cases hlt:k<t.length
 ·have hct:=vK t hlt;have hxl:bW (t.take k)<72057594037927936:=ac3 (sa t k hk) (acV (n:=256) (by decide) (by omega:k<=7));have hbl:=(t.getD k 0).toNat_lt;have ho:=UU hxl hbl;generalize bW (t.take k)=x at *
  refine ab ho ?_;exact hR1 (k+1) _ acN acN (.le (cn hct))
 ·obtain rfl:k=t.length:=acN;rw[acP (acT _)];refine wW ?_;exact hR.ro ⟨rfl,rfl⟩
def eH (s:Bs):Int×Int:=
 if s.length<32 then(0,6)
 else if s.take 4≠[80,65,67,75]then(0,3)
 else if bW ((s.drop 4).take 4)≠2 then(0,3)
 else if 1000<bW ((s.drop 8).take 4)then(0,2)
 else if Sh.cY (s.take (s.length-20))≠s.drop (s.length-20)then(0,5)
 else(bW ((s.drop 8).take 4),0)
theorem Bd {s:Bs} (h:(eH s).2=0):32<=s.length:=by
 unfold eH at h;split at h
 ·cases h
 omega
theorem acj (s:Bs) (hs:s.length<=100000):ao Tryz.prog 35 [.str s] (.af [.int .i64 (eH s).1,.int .i64 (eH s).2]):=by
 refine Cod.ack (λE R hN hR=>?_);have fin:∀{h} (n e:Int),eH s=(n,e)->R h (.af [.int .i64 n,.int .i64 e]) [.undef]:=λn e he=>hR.ro ⟨rfl,by rw[he]⟩;by_cases h32:s.length<32
 ·refine wW ?_;exact fin 0 6 (by unfold eH;rw[if_pos h32])
 ·have hb4:=oM ((s.drop 4).take 4) (by rw[acS];omega);have hb8:=oM ((s.drop 8).take 4) (by rw[acS];omega);have hl8:bW ((s.drop 8).take 4)<4294967296:=l5 (n:=4) (by rw[acS];omega);have hsum:=Sh.uR (s.take (s.length-20)) (by rw[acS];omega);have et:((s.length:Int)-20).toNat=s.length-20:=acN;by_cases h1:s.take 4=[80,65,67,75]
  ·have hc:eH s=(if bW ((s.drop 4).take 4)≠2 then((0:Int),(3:Int))else if 1000<bW ((s.drop 8).take 4)then(0,2)else if Sh.cY (s.take (s.length-20))≠s.drop (s.length-20)then(0,5)else((bW ((s.drop 8).take 4):Nat),0)):=by unfold eH;rw[if_neg h32,if_neg (λh=>h h1)]
   generalize bW ((s.drop 4).take 4)=x4 at *
   generalize bW ((s.drop 8).take 4)=x8 at *
   refine ab h1 ?_;refine aV h1 ?_;refine eI (gq vV hb4 vV rfl rfl ?_);by_cases h2:((x4:Nat):Int)=2
   ·rw[if_neg (λh:¬x4=2=>h acN)]at hc;refine ab h2 ?_;refine aV h2 ?_;refine ah hb8 rfl rfl ?_;by_cases h1000:1000<x8
    ·rw[if_pos h1000]at hc;refine wW ?_;exact fin 0 2 hc
    ·rw[if_neg h1000]at hc;refine ab et ?_;refine ah hsum rfl rfl ?_;by_cases hsha:Sh.cY (s.take (s.length-20))=s.drop (s.length-20)
     ·rw[if_neg (λh=>h hsha)]at hc;refine aE et hsha ?_;exact fin _ 0 hc
     ·rw[if_pos hsha]at hc;refine aE et hsha ?_;exact fin 0 5 hc
   ·rw[if_pos (λh:x4=2=>h2 acN)]at hc;refine ab h2 ?_;refine aV h2 ?_;exact fin 0 3 hc
  ·have hc:eH s=(0,3):=by unfold eH;rw[if_neg h32,if_pos h1]
   refine ab h1 ?_;refine aV h1 ?_;exact fin 0 3 hc
end Go.Proofs.YtoalcafkffmiiaaGreatDoor.Ls
