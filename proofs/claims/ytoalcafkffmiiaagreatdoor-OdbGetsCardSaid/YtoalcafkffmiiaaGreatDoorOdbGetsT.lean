/- The proof, part 20 of 43. -/
import Derived.Test.YtoalcafkffmiiaaGreatDoorOdbGetsJ
set_option linter.all false
namespace Go.Proofs.YtoalcafkffmiiaaGreatDoor.Sh
open Eng
abbrev Bs:=List UInt8
abbrev W:=BitVec 32
def u32 (x:W):AV:=.int .u32 x.toNat
theorem rC (x:W):u32 x=.int .u32 x.toNat:=(rfl)
theorem abZ (x:W):x.toNat<4294967296:=x.isLt
theorem pE (x:W):IntKind.u32.wrap x.toNat=x.toNat:=wrap_u32 (by have:=abZ x;omega)
theorem o8 (x:W):BitVec.ofInt 32 (x.toNat:Int)=x:=by simp
theorem eF (a b:W):bits .xor .u32 a.toNat b.toNat=(a ^^^ b).toNat:=by
 show IntKind.u32.wrap ((BitVec.ofInt 32 (a.toNat:Int) ^^^ BitVec.ofInt 32 (b.toNat:Int)).toNat:Int)=_
 rw[o8,o8,pE]
theorem fQ (a b:W):bits .and .u32 a.toNat b.toNat=(a &&& b).toNat:=by
 show IntKind.u32.wrap ((BitVec.ofInt 32 (a.toNat:Int) &&& BitVec.ofInt 32 (b.toNat:Int)).toNat:Int)=_
 rw[o8,o8,pE]
theorem fG (a b:W):bits .or .u32 a.toNat b.toNat=(a ||| b).toNat:=by
 show IntKind.u32.wrap ((BitVec.ofInt 32 (a.toNat:Int) ||| BitVec.ofInt 32 (b.toNat:Int)).toNat:Int)=_
 rw[o8,o8,pE]
theorem G6 (b:W):bits .xor .u32 4294967295 b.toNat=(~~~b).toNat:=by
 have h:=eF (BitVec.allOnes 32) b;rw[BitVec.allOnes_xor]at h;exact h
theorem G7 (b:W):bits .xor .u32 b.toNat 4294967295=(~~~b).toNat:=by
 have h:=eF b (BitVec.allOnes 32);rw[BitVec.xor_allOnes]at h;exact h
theorem rG (a b:W):IntKind.u32.wrap (a.toNat+b.toNat)=(a+b).toNat:=by
 have h:(a+b).toNat=(a.toNat+b.toNat)%4294967296:=BitVec.toNat_add ..;rw[h]
 show((a.toNat:Int)+b.toNat)%4294967296=_
 omega
theorem nW (a:W) (k:Nat):IntKind.u32.wrap (a.toNat*2^k)=(a <<< k).toNat:=by
 rw[afB,adD]
 show((a.toNat:Int)*2^k)%4294967296=_
 rw[Int.natCast_emod,Int.natCast_mul,aeL];rfl
theorem va (a:W) (k:Nat):(a.toNat:Int).fdiv (2^k)=(a >>> k).toNat:=by
 rw[afs,aet,adv _ (aeW (by decide)),aeZ,aeL];rfl
theorem tU {xs:List W} {i:Nat} (h:i<xs.length):nth (xs.map u32) i=u32 (xs.getD i 0#32):=by
 simp[nth,acO,h]
theorem Ab {xs:List W} {y:W}:xs.map u32++[.int .u32 y.toNat]=(xs++[y]).map u32:=by simp[u32]
theorem A6 {xs:List W}:(xs.map u32).all aL=true:=by simp[aL,cellsOf,isCell,u32]
theorem NK {xs:List W}:(xs.map u32).all flA=true:=by simp[flA,flC,u32]
def gn (p:Bs) (i:Nat):W:=BitVec.ofNat 32 (p.getD i 0).toNat
def lX (p:Bs) (i:Nat):W:=gn p i <<< 24 ||| gn p (i+1) <<< 16 ||| gn p (i+2) <<< 8 ||| gn p (i+3)
def kp (p:Bs) (w:List W) (i:Nat):List W:=
 if i<16 then w.set i (lX p (4*i))else w.set i ((w.getD (i-3) 0#32 ^^^ w.getD (i-8) 0#32 ^^^ w.getD (i-14) 0#32 ^^^ w.getD (i-16) 0#32).rotateLeft 1)
def sched (p:Bs) (i:Nat):List W:=(List.range i).foldl (kp p) (List.replicate 80 0#32)
theorem FX (p:Bs):sched p 0=List.replicate 80 0#32:=rfl
theorem qW (p:Bs) (i:Nat):sched p (i+1)=kp p (sched p i) i:=by simp[sched,ael]
theorem aah (p:Bs) (w:List W) (i:Nat):(kp p w i).length=w.length:=by unfold kp;split<;>simp
theorem my (p:Bs):∀i,(sched p i).length=80
 | 0=>by simp[FX]
 | i+1=>by rw[qW,aah,my p i]
structure H5 where
 a:W
 b:W
 c:W
 d:W
 e:W
def H5.l (h:H5):List W:=[h.a,h.b,h.c,h.d,h.e]
def ju (i:Nat) (b c d:W):W:=if i<20 then(b &&& c) ||| (~~~b &&& d)else if i<40 then b ^^^ c ^^^ d else if i<60 then(b &&& c) ||| (b &&& d) ||| (c &&& d)else b ^^^ c ^^^ d
def jv (i:Nat):W:=if i<20 then 0x5a827999#32 else if i<40 then 0x6ed9eba1#32 else if i<60 then 0x8f1bbcdc#32 else 0xca62c1d6#32
def nK (w:List W) (h:H5) (i:Nat):H5:=⟨h.a.rotateLeft 5+ju i h.b h.c h.d+h.e+jv i+w.getD i 0#32,h.a,h.b.rotateLeft 30,h.c,h.d⟩
def rounds (w:List W) (h:H5) (i:Nat):H5:=(List.range i).foldl (nK w) h
theorem FC (w:List W) (h:H5):rounds w h 0=h:=rfl
theorem rounds_succ (w:List W) (h:H5) (i:Nat):rounds w h (i+1)=nK w (rounds w h i) i:=by simp[rounds,ael]
def H5.add (x y:H5):H5:=⟨x.a+y.a,x.b+y.b,x.c+y.c,x.d+y.d,x.e+y.e⟩
def c8 (h:H5) (p:Bs):H5:=h.add (rounds (sched p 80) h 80)
def blks:Nat->H5->Bs->H5
 | 0,h,_=>h
 | n+1,h,t=>blks n (c8 h (t.take 64)) (t.drop 64)
theorem vP:∀(n m:Nat) (h:H5) (t:Bs),blks (n+m) h t=blks m (blks n h t) (t.drop (64*n))
 | 0,m,h,t=>by simp[blks]
 | n+1,m,h,t=>by
  rw[show n+1+m=(n+m)+1 by omega];simp only[blks];rw[vP n m,ad6,show 64*(n+1)=64+64*n by omega]
theorem AG (n:Nat) (h:H5) (t:Bs):blks (n+1) h t=c8 (blks n h t) ((t.drop (64*n)).take 64):=by
 rw[vP n 1];rfl
theorem AF:∀(n:Nat) (h:H5) (t u:Bs),64*n<=t.length->blks n h (t++u)=blks n h t
 | 0,_,_,_,_=>rfl
 | n+1,h,t,u,hl=>by
  simp only[blks];rw[aeE acN,aed acN,AF n _ _ _ (by rw[acU];omega)]
def start:H5:=⟨0x67452301#32,0xefcdab89#32,0x98badcfe#32,0x10325476#32,0xc3d2e1f0#32⟩
def cX (n:Nat):Nat:=(119-n%64)%64
def bh (n:Nat):Bs:=[56,48,40,32,24,16,8,0].map λi=>UInt8.ofNat ((8*n) >>> i)
def cZ (n:Nat):Bs:=128::(List.replicate (cX n) 0++bh n)
theorem Gu (n:Nat):(n+(cZ n).length)%64=0:=by
 simp[cZ,bh,cX];omega
def mI (x:W):Bs:=[UInt8.ofNat (x.toNat >>> 24),UInt8.ofNat (x.toNat >>> 16),UInt8.ofNat (x.toNat >>> 8),UInt8.ofNat x.toNat]
def eL (l:List W):Bs:=l.flatMap mI
def cY (t:Bs):Bs:=eL (blks ((t.length+(cZ t.length).length)/64) start (t++cZ t.length)).l
theorem Zy (t:Bs):cY t=eL (blks ((t.length%64+(cZ t.length).length)/64) (blks (t.length/64) start t) (t.drop (64*(t.length/64))++cZ t.length)).l:=by
 unfold cY;have h1:=Gu t.length;have h2:(t.length+(cZ t.length).length)/64=t.length/64+(t.length%64+(cZ t.length).length)/64:=acN;rw[h2,vP,AF _ _ _ _ acN,aed acN]
theorem F7 (t:Bs):(cY t).length=20:=by simp[cY,eL,H5.l,mI]
def iW:Bs:=[48,49,50,51,52,53,54,55,56,57,97,98,99,100,101,102]
def oT (b:UInt8):Bs:=[iW.getD (b.toNat/16) 0,iW.getD (b.toNat%16) 0]
def bC (t:Bs):Bs:=t.flatMap oT
theorem xg (t:Bs):(bC t).length=2*t.length:=by
 induction t with
 | nil=>rfl
 | cons b t ih=>
  simp only[bC,aey,acQ]at ih |-;rw[ih];simp[oT];omega
end Go.Proofs.YtoalcafkffmiiaaGreatDoor.Sh
