/- The proof, part 19 of 43. -/
import Derived.Test.YtoalcafkffmiiaaGreatDoorOdbShadowsJ
set_option linter.all false
namespace Go.Proofs.YtoalcafkffmiiaaGreatDoor.Sh
open Eng
abbrev Bs:=List UInt8
abbrev W:=BitVec 32
def u32 (x:W):AV:=.int .u32 x.toNat
theorem om (x:W):u32 x=.int .u32 x.toNat:=(rfl)
theorem ayk (x:W):x.toNat<4294967296:=x.isLt
theorem ox (x:W):IntKind.u32.wrap x.toNat=x.toNat:=wrap_u32 (by have:=ayk x;omega)
theorem mI (x:W):BitVec.ofInt 32 (x.toNat:Int)=x:=by simp
theorem eD (a b:W):bits .xor .u32 a.toNat b.toNat=(a ^^^ b).toNat:=by
 show IntKind.u32.wrap ((BitVec.ofInt 32 (a.toNat:Int) ^^^ BitVec.ofInt 32 (b.toNat:Int)).toNat:Int)=_
 rw[mI,mI,ox]
theorem fU (a b:W):bits .and .u32 a.toNat b.toNat=(a &&& b).toNat:=by
 show IntKind.u32.wrap ((BitVec.ofInt 32 (a.toNat:Int) &&& BitVec.ofInt 32 (b.toNat:Int)).toNat:Int)=_
 rw[mI,mI,ox]
theorem eC (a b:W):bits .or .u32 a.toNat b.toNat=(a ||| b).toNat:=by
 show IntKind.u32.wrap ((BitVec.ofInt 32 (a.toNat:Int) ||| BitVec.ofInt 32 (b.toNat:Int)).toNat:Int)=_
 rw[mI,mI,ox]
theorem ayq (b:W):bits .xor .u32 4294967295 b.toNat=(~~~b).toNat:=by
 have h:=eD (BitVec.allOnes 32) b;rw[BitVec.allOnes_xor]at h;exact h
theorem ayr (b:W):bits .xor .u32 b.toNat 4294967295=(~~~b).toNat:=by
 have h:=eD b (BitVec.allOnes 32);rw[BitVec.xor_allOnes]at h;exact h
theorem ov (a b:W):IntKind.u32.wrap (a.toNat+b.toNat)=(a+b).toNat:=by
 have h:(a+b).toNat=(a.toNat+b.toNat)%4294967296:=BitVec.toNat_add ..;rw[h]
 show((a.toNat:Int)+b.toNat)%4294967296=_
 omega
theorem lP (a:W) (k:Nat):IntKind.u32.wrap (a.toNat*2^k)=(a <<< k).toNat:=by
 rw[aDx,aB8]
 show((a.toNat:Int)*2^k)%4294967296=_
 rw[Int.natCast_emod,Int.natCast_mul,aCL];rfl
theorem ayH (a:W) (k:Nat):(a.toNat:Int).fdiv (2^k)=(a >>> k).toNat:=by
 rw[BitVec.toNat_ushiftRight,aCS,aBI _ (aC7 (by decide)),aCU,aCL];rfl
theorem qu {xs:List W} {i:Nat} (h:i<xs.length):nth (xs.map u32) i=u32 (xs.getD i 0#32):=by
 simp[nth,aA5,h]
theorem vQ {xs:List W} {y:W}:xs.map u32++[.int .u32 y.toNat]=(xs++[y]).map u32:=by simp[u32]
theorem w6 {xs:List W}:(xs.map u32).all a6=true:=by simp[a6,cellsOf,isCell,u32]
theorem NM {xs:List W}:(xs.map u32).all flA=true:=by simp[flA,flC,u32]
def fv (p:Bs) (i:Nat):W:=BitVec.ofNat 32 (p.getD i 0).toNat
def j3 (p:Bs) (i:Nat):W:=fv p i <<< 24 ||| fv p (i+1) <<< 16 ||| fv p (i+2) <<< 8 ||| fv p (i+3)
def jc (p:Bs) (w:List W) (i:Nat):List W:=
 if i<16 then w.set i (j3 p (4*i))else w.set i ((w.getD (i-3) 0#32 ^^^ w.getD (i-8) 0#32 ^^^ w.getD (i-14) 0#32 ^^^ w.getD (i-16) 0#32).rotateLeft 1)
def sched (p:Bs) (i:Nat):List W:=(List.range i).foldl (jc p) (List.replicate 80 0#32)
theorem Dc (p:Bs):sched p 0=List.replicate 80 0#32:=rfl
theorem nU (p:Bs) (i:Nat):sched p (i+1)=jc p (sched p i) i:=by simp[sched,aCv]
theorem avV (p:Bs) (w:List W) (i:Nat):(jc p w i).length=w.length:=by unfold jc;split<;>simp
theorem kC (p:Bs):∀i,(sched p i).length=80
 | 0=>by simp[Dc]
 | i+1=>by rw[nU,avV,kC p i]
structure H5 where
 a:W
 b:W
 c:W
 d:W
 e:W
def H5.l (h:H5):List W:=[h.a,h.b,h.c,h.d,h.e]
def gU (i:Nat) (b c d:W):W:=if i<20 then(b &&& c) ||| (~~~b &&& d)else if i<40 then b ^^^ c ^^^ d else if i<60 then(b &&& c) ||| (b &&& d) ||| (c &&& d)else b ^^^ c ^^^ d
def gW (i:Nat):W:=if i<20 then 0x5a827999#32 else if i<40 then 0x6ed9eba1#32 else if i<60 then 0x8f1bbcdc#32 else 0xca62c1d6#32
def qP (w:List W) (h:H5) (i:Nat):H5:=⟨h.a.rotateLeft 5+gU i h.b h.c h.d+h.e+gW i+w.getD i 0#32,h.a,h.b.rotateLeft 30,h.c,h.d⟩
def rounds (w:List W) (h:H5) (i:Nat):H5:=(List.range i).foldl (qP w) h
theorem CM (w:List W) (h:H5):rounds w h 0=h:=rfl
theorem rounds_succ (w:List W) (h:H5) (i:Nat):rounds w h (i+1)=qP w (rounds w h i) i:=by simp[rounds,aCv]
def H5.add (x y:H5):H5:=⟨x.a+y.a,x.b+y.b,x.c+y.c,x.d+y.d,x.e+y.e⟩
def cN (h:H5) (p:Bs):H5:=h.add (rounds (sched p 80) h 80)
def blks:Nat->H5->Bs->H5
 | 0,h,_=>h
 | n+1,h,t=>blks n (cN h (t.take 64)) (t.drop 64)
theorem sb:∀(n m:Nat) (h:H5) (t:Bs),blks (n+m) h t=blks m (blks n h t) (t.drop (64*n))
 | 0,m,h,t=>by simp[blks]
 | n+1,m,h,t=>by
  rw[show n+1+m=(n+m)+1 by omega];simp only[blks];rw[sb n m,aCn,show 64*(n+1)=64+64*n by omega]
theorem wx (n:Nat) (h:H5) (t:Bs):blks (n+1) h t=cN (blks n h t) ((t.drop (64*n)).take 64):=by
 rw[sb n 1];rfl
theorem wv:∀(n:Nat) (h:H5) (t u:Bs),64*n<=t.length->blks n h (t++u)=blks n h t
 | 0,_,_,_,_=>rfl
 | n+1,h,t,u,hl=>by
  simp only[blks];rw[aCB aA4,aCk aA4,wv n _ _ _ (by rw[aBb];omega)]
def start:H5:=⟨0x67452301#32,0xefcdab89#32,0x98badcfe#32,0x10325476#32,0xc3d2e1f0#32⟩
def cF (n:Nat):Nat:=(119-n%64)%64
def bh (n:Nat):Bs:=[56,48,40,32,24,16,8,0].map λi=>UInt8.ofNat ((8*n) >>> i)
def cG (n:Nat):Bs:=128::(List.replicate (cF n) 0++bh n)
theorem DS (n:Nat):(n+(cG n).length)%64=0:=by
 simp[cG,bh,cF];omega
def kN (x:W):Bs:=[UInt8.ofNat (x.toNat >>> 24),UInt8.ofNat (x.toNat >>> 16),UInt8.ofNat (x.toNat >>> 8),UInt8.ofNat x.toNat]
def dK (l:List W):Bs:=l.flatMap kN
def ep (t:Bs):Bs:=dK (blks ((t.length+(cG t.length).length)/64) start (t++cG t.length)).l
theorem atY (t:Bs):ep t=dK (blks ((t.length%64+(cG t.length).length)/64) (blks (t.length/64) start t) (t.drop (64*(t.length/64))++cG t.length)).l:=by
 unfold ep;have h1:=DS t.length;have h2:(t.length+(cG t.length).length)/64=t.length/64+(t.length%64+(cG t.length).length)/64:=aA4;rw[h2,sb,wv _ _ _ _ aA4,aCk aA4]
theorem Dk (t:Bs):(ep t).length=20:=by simp[ep,dK,H5.l,kN]
def gw:Bs:=[48,49,50,51,52,53,54,55,56,57,97,98,99,100,101,102]
def mo (b:UInt8):Bs:=[gw.getD (b.toNat/16) 0,gw.getD (b.toNat%16) 0]
def bW (t:Bs):Bs:=t.flatMap mo
theorem s5 (t:Bs):(bW t).length=2*t.length:=by
 induction t with
 | nil=>rfl
 | cons b t ih=>
  simp only[bW,aC4,aA8]at ih |-;rw[ih];simp[mo];omega
end Go.Proofs.YtoalcafkffmiiaaGreatDoor.Sh
