/- The proof, part 19 of 42. -/
import Derived.Test.YtoalcafkffmiiaaGreatDoorOdbKindsJ
set_option linter.all false
namespace Go.Proofs.YtoalcafkffmiiaaGreatDoor.Sh
open Eng
abbrev Bs:=List UInt8
abbrev W:=BitVec 32
def u32 (x:W):AV:=.int .u32 x.toNat
theorem CM (x:W):u32 x=.int .u32 x.toNat:=(rfl)
theorem aoz (x:W):x.toNat<4294967296:=x.isLt
theorem rq (x:W):IntKind.u32.wrap x.toNat=x.toNat:=wrap_u32 (by have:=aoz x;omega)
theorem mg (x:W):BitVec.ofInt 32 (x.toNat:Int)=x:=by simp
theorem kh (a b:W):bits .xor .u32 a.toNat b.toNat=(a ^^^ b).toNat:=by
 show IntKind.u32.wrap ((BitVec.ofInt 32 (a.toNat:Int) ^^^ BitVec.ofInt 32 (b.toNat:Int)).toNat:Int)=_
 rw[mg,mg,rq]
theorem mE (a b:W):bits .and .u32 a.toNat b.toNat=(a &&& b).toNat:=by
 show IntKind.u32.wrap ((BitVec.ofInt 32 (a.toNat:Int) &&& BitVec.ofInt 32 (b.toNat:Int)).toNat:Int)=_
 rw[mg,mg,rq]
theorem ke (a b:W):bits .or .u32 a.toNat b.toNat=(a ||| b).toNat:=by
 show IntKind.u32.wrap ((BitVec.ofInt 32 (a.toNat:Int) ||| BitVec.ofInt 32 (b.toNat:Int)).toNat:Int)=_
 rw[mg,mg,rq]
theorem C2 (b:W):bits .xor .u32 4294967295 b.toNat=(~~~b).toNat:=by
 have h:=kh (BitVec.allOnes 32) b
 rw[BitVec.allOnes_xor]at h
 exact h
theorem C1 (a b:W):IntKind.u32.wrap (a.toNat+b.toNat)=(a+b).toNat:=by
 have h:(a+b).toNat=(a.toNat+b.toNat)%4294967296:=BitVec.toNat_add ..
 rw[h]
 show((a.toNat:Int)+b.toNat)%4294967296=_
 omega
theorem rr (a:W) (k:Nat):IntKind.u32.wrap (a.toNat*2^k)=(a <<< k).toNat:=by
 rw[BitVec.toNat_shiftLeft,Nat.shiftLeft_eq]
 show((a.toNat:Int)*2^k)%4294967296=_
 rw[Int.natCast_emod,Int.natCast_mul,Int.natCast_pow]
 rfl
theorem C5 (a:W) (k:Nat):(a.toNat:Int).fdiv (2^k)=(a >>> k).toNat:=by
 rw[BitVec.toNat_ushiftRight,Nat.shiftRight_eq_div_pow,Int.fdiv_eq_ediv_of_nonneg _ (Int.pow_nonneg (by decide)),Int.natCast_ediv,Int.natCast_pow]
 rfl
theorem abH {xs:List W} {i:Nat} (h:i<xs.length):nth (xs.map u32) i=u32 (xs.getD i 0#32):=by
 simp[nth,List.getD_eq_getElem?_getD,h]
def kv (p:Bs) (i:Nat):W:=BitVec.ofNat 32 (p.getD i 0).toNat
def mF (p:Bs) (i:Nat):W:=kv p i <<< 24 ||| kv p (i+1) <<< 16 ||| kv p (i+2) <<< 8 ||| kv p (i+3)
def kb (p:Bs) (w:List W) (i:Nat):List W:=
 if i<16 then w.set i (mF p (4*i))else w.set i ((w.getD (i-3) 0#32 ^^^ w.getD (i-8) 0#32 ^^^ w.getD (i-14) 0#32 ^^^ w.getD (i-16) 0#32).rotateLeft 1)
def sched (p:Bs) (i:Nat):List W:=(List.range i).foldl (kb p) (List.replicate 80 0#32)
theorem BX (p:Bs):sched p 0=List.replicate 80 0#32:=rfl
theorem BW (p:Bs) (i:Nat):sched p (i+1)=kb p (sched p i) i:=by simp[sched,List.range_succ]
theorem al2 (p:Bs) (w:List W) (i:Nat):(kb p w i).length=w.length:=by unfold kb;split<;>simp
theorem BV (p:Bs):∀i,(sched p i).length=80
 | 0=>by simp[BX]
 | i+1=>by rw[BW,al2,BV p i]
structure H5 where
 a:W
 b:W
 c:W
 d:W
 e:W
def H5.l (h:H5):List W:=[h.a,h.b,h.c,h.d,h.e]
def kF (i:Nat) (b c d:W):W:=if i<20 then(b &&& c) ||| (~~~b &&& d)else if i<40 then b ^^^ c ^^^ d else if i<60 then(b &&& c) ||| (b &&& d) ||| (c &&& d)else b ^^^ c ^^^ d
def kR (i:Nat):W:=if i<20 then 0x5a827999#32 else if i<40 then 0x6ed9eba1#32 else if i<60 then 0x8f1bbcdc#32 else 0xca62c1d6#32
def ml (w:List W) (h:H5) (i:Nat):H5:=⟨h.a.rotateLeft 5+kF i h.b h.c h.d+h.e+kR i+w.getD i 0#32,h.a,h.b.rotateLeft 30,h.c,h.d⟩
def rounds (w:List W) (h:H5) (i:Nat):H5:=(List.range i).foldl (ml w) h
theorem ai2 (w:List W) (h:H5):rounds w h 0=h:=rfl
theorem rounds_succ (w:List W) (h:H5) (i:Nat):rounds w h (i+1)=ml w (rounds w h i) i:=by simp[rounds,List.range_succ]
def H5.add (x y:H5):H5:=⟨x.a+y.a,x.b+y.b,x.c+y.c,x.d+y.d,x.e+y.e⟩
def ed (h:H5) (p:Bs):H5:=h.add (rounds (sched p 80) h 80)
def blks:Nat→H5→Bs→H5
 | 0,h,_=>h
 | n+1,h,t=>blks n (ed h (t.take 64)) (t.drop 64)
theorem rZ:∀(n m:Nat) (h:H5) (t:Bs),blks (n+m) h t=blks m (blks n h t) (t.drop (64*n))
 | 0,m,h,t=>by simp[blks]
 | n+1,m,h,t=>by
  rw[show n+1+m=(n+m)+1 by omega]
  simp only[blks]
  rw[rZ n m,List.drop_drop,show 64*(n+1)=64+64*n by omega]
theorem Gs (n:Nat) (h:H5) (t:Bs):blks (n+1) h t=ed (blks n h t) ((t.drop (64*n)).take 64):=by
 rw[rZ n 1];rfl
theorem wm:∀(n:Nat) (h:H5) (t u:Bs),64*n≤t.length→blks n h (t++u)=blks n h t
 | 0,_,_,_,_=>rfl
 | n+1,h,t,u,hl=>by
  simp only[blks]
  rw[List.take_append_of_le_length (by omega),List.drop_append_of_le_length (by omega),wm n _ _ _ (by rw[List.length_drop];omega)]
def start:H5:=⟨0x67452301#32,0xefcdab89#32,0x98badcfe#32,0x10325476#32,0xc3d2e1f0#32⟩
def fa (n:Nat):Nat:=(119-n%64)%64
def cW (n:Nat):Bs:=[56,48,40,32,24,16,8,0].map fun i=>UInt8.ofNat ((8*n) >>> i)
def dU (n:Nat):Bs:=128::(List.replicate (fa n) 0++cW n)
theorem amT (n:Nat):(n+(dU n).length)%64=0:=by
 simp[dU,cW,fa];omega
def mB (x:W):Bs:=[UInt8.ofNat (x.toNat >>> 24),UInt8.ofNat (x.toNat >>> 16),UInt8.ofNat (x.toNat >>> 8),UInt8.ofNat x.toNat]
def eZ (l:List W):Bs:=l.flatMap mB
def fg (t:Bs):Bs:=eZ (blks ((t.length+(dU t.length).length)/64) start (t++dU t.length)).l
theorem aj0 (t:Bs):fg t=eZ (blks ((t.length%64+(dU t.length).length)/64) (blks (t.length/64) start t) (t.drop (64*(t.length/64))++dU t.length)).l:=by
 unfold fg
 have h1:=amT t.length
 have h2:(t.length+(dU t.length).length)/64=t.length/64+(t.length%64+(dU t.length).length)/64:=by omega
 rw[h2,rZ,wm _ _ _ _ (by omega),List.drop_append_of_le_length (by omega)]
theorem ajZ (t:Bs):(fg t).length=20:=by simp[fg,eZ,H5.l,mB]
def je:Bs:=[48,49,50,51,52,53,54,55,56,57,97,98,99,100,101,102]
def pU (b:UInt8):Bs:=[je.getD (b.toNat/16) 0,je.getD (b.toNat%16) 0]
def bZ (t:Bs):Bs:=t.flatMap pU
theorem yP (t:Bs):(bZ t).length=2*t.length:=by
 induction t with
 | nil=>rfl
 | cons b t ih=>
  simp only[bZ,List.flatMap_cons,List.length_append]at ih ⊢
  rw[ih];simp[pU];omega
end Go.Proofs.YtoalcafkffmiiaaGreatDoor.Sh
