/- The proof, part 21 of 42. -/
import Derived.Test.YtoalcafkffmiiaaGreatDoorOdbKindsO
import Derived.Test.YtoalcafkffmiiaaGreatDoorOdbKindsR
import Derived.Test.YtoalcafkffmiiaaGreatDoorOdbKindsT
set_option linter.all false
namespace Go.Proofs.YtoalcafkffmiiaaGreatDoor.Ls
open Eng
set_option maxRecDepth 10000
def cv (t:Bs):Nat:=t.foldl (fun x b=>256*x+b.toNat) 0
theorem v8 (t:Bs) {k:Nat} (h:k<t.length):cv (t.take (k+1))=256*cv (t.take k)+(t.getD k 0).toNat:=by
 rw[eT 0 t h];simp[cv]
theorem rV (t:Bs):∀k,k≤t.length→cv (t.take k)<256^k
 | 0,_=>by rw[List.take_zero];decide
 | k+1,h=>by
  have ih:=rV t k (by omega)
  have hb:=(t.getD k 0).toNat_lt
  rw[v8 t h,Nat.pow_succ]
  omega
theorem mS {t:Bs} {n:Nat} (h:t.length≤n):cv t<256^n:=by
 have h1:=rV t t.length (Nat.le_refl _)
 rw[List.take_of_length_le (Nat.le_refl _)]at h1
 exact Nat.lt_of_lt_of_le h1 (Nat.pow_le_pow_right (by decide) h)
theorem afK {x b:Nat} (hx:x<72057594037927936) (hb:b<256):bits .or .u64 (IntKind.u64.wrap ((x:Int)*2^min 8 64)) (b:Int)=((256*x+b:Nat):Int):=by
 have h1:((x:Int)*2^min 8 64)=((x*256:Nat):Int):=by
  rw[show((2:Int)^min 8 64)=256 by decide];omega
 rw[h1,wrap_u64 (by omega)]
 show IntKind.u64.wrap ((BitVec.ofInt 64 ((x*256:Nat):Int) ||| BitVec.ofInt 64 (b:Int)).toNat:Int)=_
 rw[BitVec.ofInt_natCast,BitVec.ofInt_natCast,BitVec.toNat_or,BitVec.toNat_ofNat,BitVec.toNat_ofNat,Nat.mod_eq_of_lt (by omega),Nat.mod_eq_of_lt (by omega)]
 have h2:x*256 ||| b=256*x+b:=by
  have h3:=Nat.shiftLeft_add_eq_or_of_lt (b:=b) (i:=8) (by omega) x
  rw[Nat.shiftLeft_eq,show(2:Nat)^8=256 by decide]at h3
  omega
 rw[h2]
 exact wrap_u64 (by omega)
theorem lY (t:Bs) (ht:t.length≤8):aO Tryz.prog 73 [.str t] (.int .u64 (cv t:Nat)):=by
 refine Cod.ac8 (fun E R hN hR=>?_)
 refine wW ?_
 refine bm hN (fun k:Nat=>⟨[(0,.str t),(3,.int .u64 (cv (t.take k):Nat)),(6,.int .i64 t.length),(7,.int .i64 k)],[]⟩) (fun k=>k≤t.length) (fun k=>t.length-k) 0 (.le (by simp(disch:=omega)only[go_sem,simprocAttr];simp[cv])) (by omega) ?_
 rintro k R1 hk hR1
 by_cases hlt:k<t.length
 ·have hct:=v8 t hlt
  have hxl:cv (t.take k)<72057594037927936:=Nat.lt_of_lt_of_le (rV t k hk) (Nat.pow_le_pow_right (n:=256) (by decide) (by omega:k≤7))
  have hbl:=(t.getD k 0).toNat_lt
  have ho:=afK hxl hbl
  generalize cv (t.take k)=x at *
  refine aw ho ?_
  exact hR1 (k+1) _ (by omega) (by omega) (.le (fL hct))
 ·obtain rfl:k=t.length:=by omega
  rw[List.take_of_length_le (Nat.le_refl _)]
  refine wW ?_
  exact hR.ro ⟨rfl,rfl⟩
def eh (s:Bs):Int×Int:=
 if s.length<32 then(0,6)
 else if s.take 4≠[80,65,67,75]then(0,3)
 else if cv ((s.drop 4).take 4)≠2 then(0,3)
 else if 1000<cv ((s.drop 8).take 4)then(0,2)
 else if Sh.fg (s.take (s.length-20))≠s.drop (s.length-20)then(0,5)
 else(cv ((s.drop 8).take 4),0)
theorem I2 {s:Bs} (h:(eh s).2=0):32≤s.length:=by
 unfold eh at h
 split at h
 ·cases h
 ·omega
theorem apa (s:Bs) (hs:s.length≤100000):aO Tryz.prog 35 [.str s] (.ai [.int .i64 (eh s).1,.int .i64 (eh s).2]):=by
 refine Cod.apb (fun E R hN hR=>?_)
 have fin:∀{h} (n e:Int),eh s=(n,e)→R h (.ai [.int .i64 n,.int .i64 e]) [.undef]:=fun n e he=>hR.ro ⟨rfl,by rw[he]⟩
 by_cases h32:s.length<32
 ·refine wW ?_
  exact fin 0 6 (by unfold eh;rw[if_pos h32])
 ·have hb4:=lY ((s.drop 4).take 4) (by rw[List.length_take];omega)
  have hb8:=lY ((s.drop 8).take 4) (by rw[List.length_take];omega)
  have hl8:cv ((s.drop 8).take 4)<4294967296:=mS (n:=4) (by rw[List.length_take];omega)
  have l6:=Sh.uT (s.take (s.length-20)) (by rw[List.length_take];omega)
  have et:((s.length:Int)-20).toNat=s.length-20:=by omega
  by_cases h1:s.take 4=[80,65,67,75]
  ·have hc:eh s=(if cv ((s.drop 4).take 4)≠2 then((0:Int),(3:Int))else if 1000<cv ((s.drop 8).take 4)then(0,2)else if Sh.fg (s.take (s.length-20))≠s.drop (s.length-20)then(0,5)else((cv ((s.drop 8).take 4):Nat),0)):=by unfold eh;rw[if_neg h32,if_neg (fun h=>h h1)]
   generalize cv ((s.drop 4).take 4)=x4 at *
   generalize cv ((s.drop 8).take 4)=x8 at *
   refine aw h1 ?_
   refine bW h1 ?_
   refine l3 (jJ vV hb4 vV rfl rfl ?_)
   by_cases h2:((x4:Nat):Int)=2
   ·rw[if_neg (fun h:¬x4=2=>h (by omega))]at hc
    refine aw h2 ?_
    refine bW h2 ?_
    refine aC hb8 rfl rfl ?_
    by_cases h1000:1000<x8
    ·rw[if_pos h1000]at hc
     refine wW ?_
     exact fin 0 2 hc
    ·rw[if_neg h1000]at hc
     refine aw et ?_
     refine aC l6 rfl rfl ?_
     by_cases hsha:Sh.fg (s.take (s.length-20))=s.drop (s.length-20)
     ·rw[if_neg (fun h=>h hsha)]at hc
      refine bc et hsha ?_
      exact fin _ 0 hc
     ·rw[if_pos hsha]at hc
      refine bc et hsha ?_
      exact fin 0 5 hc
   ·rw[if_pos (fun h:x4=2=>h2 (by omega))]at hc
    refine aw h2 ?_
    refine bW h2 ?_
    exact fin 0 3 hc
  ·have hc:eh s=(0,3):=by unfold eh;rw[if_neg h32,if_pos h1]
   refine aw h1 ?_
   refine bW h1 ?_
   exact fin 0 3 hc
end Go.Proofs.YtoalcafkffmiiaaGreatDoor.Ls
