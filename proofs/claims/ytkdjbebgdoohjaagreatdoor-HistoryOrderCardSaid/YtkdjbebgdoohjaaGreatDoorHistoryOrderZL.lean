/- The proof, part 38 of 50. -/
import Derived.Test.YtkdjbebgdoohjaaGreatDoorHistoryOrderS
import Derived.Test.YtkdjbebgdoohjaaGreatDoorHistoryOrderW
import Derived.Test.YtkdjbebgdoohjaaGreatDoorHistoryOrderZK
set_option linter.all false
namespace Go.Proofs.YtkdjbebgdoohjaaGreatDoor.Ls
open Eng
set_option maxRecDepth 10000
def bE (t:Bs):Nat:=t.foldl (λx b=>256*x+b.toNat) 0
theorem uF (t:Bs) {k:Nat} (h:k<t.length):bE (t.take (k+1))=256*bE (t.take k)+(t.getD k 0).toNat:=by
 rw[fb 0 t h];simp[bE]
theorem qO (t:Bs):∀k,k<=t.length->bE (t.take k)<256^k
 | 0,_=>by rw[aaU];decide
 | k+1,h=>by
  have ih:=qO t k ZG;have hb:=(t.getD k 0).toNat_lt;rw[uF t h,abR];omega
theorem kO {t:Bs} {n:Nat} (h:t.length<=n):bE t<256^n:=by
 have h1:=qO t t.length (ZM _);rw[ZK (ZM _)]at h1;exact ZV h1 (ZY (by decide) h)
theorem SN {x b:Nat} (hx:x<72057594037927936) (hb:b<256):bits .or .u64 (IntKind.u64.wrap ((x:Int)*2^min 8 64)) (b:Int)=((256*x+b:Nat):Int):=by
 have h1:((x:Int)*2^min 8 64)=((x*256:Nat):Int):=by
  rw[show((2:Int)^min 8 64)=256 by decide];omega
 rw[h1,wrap_u64 ZG]
 show IntKind.u64.wrap ((BitVec.ofInt 64 ((x*256:Nat):Int) ||| BitVec.ofInt 64 (b:Int)).toNat:Int)=_
 rw[ZU,ZU,aaG,ZT,ZT,ZO ZG,ZO ZG]
 have h2:x*256 ||| b=256*x+b:=by
  have h3:=aab (b:=b) (i:=8) ZG x;rw[aao,show(2:Nat)^8=256 by decide]at h3;omega
 rw[h2];exact wrap_u64 ZG
theorem nw (t:Bs) (ht:t.length<=8):aw Tryz.prog 60 [.str t] (.int .u64 (bE t:Nat)):=by
 refine Cod.Sn (λE R hN hR=>?_);refine wW ?_;refine aP hN (λk:Nat=>⟨[(0,.str t),(3,.int .u64 (bE (t.take k):Nat)),(6,.int .i64 t.length),(7,.int .i64 k)],[]⟩) (λk=>k<=t.length) (λk=>t.length-k) 0 (.le (by simp(disch:=omega)only[go_sem,simprocAttr];simp[bE])) ZG ?_;rintro k R1 hk hR1;by_cases hlt:k<t.length
 ·have hct:=uF t hlt;have hxl:bE (t.take k)<72057594037927936:=ZV (qO t k hk) (ZY (n:=256) (by decide) (by omega:k<=7));have hbl:=(t.getD k 0).toNat_lt;have ho:=SN hxl hbl;generalize bE (t.take k)=x at *
  refine ah ho ?_;exact hR1 (k+1) _ ZG ZG (.le (cU hct))
 ·obtain rfl:k=t.length:=ZG;rw[ZK (ZM _)];refine wW ?_;exact hR.ro ⟨rfl,rfl⟩
def dm (s:Bs):Int×Int:=
 if s.length<32 then(0,6)
 else if s.take 4≠[80,65,67,75]then(0,3)
 else if bE ((s.drop 4).take 4)≠2 then(0,3)
 else if 1000<bE ((s.drop 8).take 4)then(0,2)
 else if Sh.cS (s.take (s.length-20))≠s.drop (s.length-20)then(0,5)
 else(bE ((s.drop 8).take 4),0)
theorem zI {s:Bs} (h:(dm s).2=0):32<=s.length:=by
 unfold dm at h;split at h
 ·cases h
 omega
theorem Y8 (s:Bs) (hs:s.length<=100000):aw Tryz.prog 35 [.str s] (.ab [.int .i64 (dm s).1,.int .i64 (dm s).2]):=by
 refine Cod.Y9 (λE R hN hR=>?_);have fin:∀{h} (n e:Int),dm s=(n,e)->R h (.ab [.int .i64 n,.int .i64 e]) [.undef]:=λn e he=>hR.ro ⟨rfl,by rw[he]⟩;by_cases h32:s.length<32
 ·refine wW ?_;exact fin 0 6 (by unfold dm;rw[if_pos h32])
 ·have hb4:=nw ((s.drop 4).take 4) (by rw[ZL];omega);have hb8:=nw ((s.drop 8).take 4) (by rw[ZL];omega);have hl8:bE ((s.drop 8).take 4)<4294967296:=kO (n:=4) (by rw[ZL];omega);have hsum:=Sh.tD (s.take (s.length-20)) (by rw[ZL];omega);have et:((s.length:Int)-20).toNat=s.length-20:=ZG;by_cases h1:s.take 4=[80,65,67,75]
  ·have hc:dm s=(if bE ((s.drop 4).take 4)≠2 then((0:Int),(3:Int))else if 1000<bE ((s.drop 8).take 4)then(0,2)else if Sh.cS (s.take (s.length-20))≠s.drop (s.length-20)then(0,5)else((bE ((s.drop 8).take 4):Nat),0)):=by unfold dm;rw[if_neg h32,if_neg (λh=>h h1)]
   generalize bE ((s.drop 4).take 4)=x4 at *
   generalize bE ((s.drop 8).take 4)=x8 at *
   refine ah h1 ?_;refine bI h1 ?_;refine fH (eS vV hb4 vV rfl rfl ?_);by_cases h2:((x4:Nat):Int)=2
   ·rw[if_neg (λh:¬x4=2=>h ZG)]at hc;refine ah h2 ?_;refine bI h2 ?_;refine an hb8 rfl rfl ?_;by_cases h1000:1000<x8
    ·rw[if_pos h1000]at hc;refine wW ?_;exact fin 0 2 hc
    ·rw[if_neg h1000]at hc;refine ah et ?_;refine an hsum rfl rfl ?_;by_cases hsha:Sh.cS (s.take (s.length-20))=s.drop (s.length-20)
     ·rw[if_neg (λh=>h hsha)]at hc;refine aE et hsha ?_;exact fin _ 0 hc
     ·rw[if_pos hsha]at hc;refine aE et hsha ?_;exact fin 0 5 hc
   ·rw[if_pos (λh:x4=2=>h2 ZG)]at hc;refine ah h2 ?_;refine bI h2 ?_;exact fin 0 3 hc
  ·have hc:dm s=(0,3):=by unfold dm;rw[if_neg h32,if_pos h1]
   refine ah h1 ?_;refine bI h1 ?_;exact fin 0 3 hc
end Go.Proofs.YtkdjbebgdoohjaaGreatDoor.Ls
