/- The proof, part 18 of 50. -/
import Derived.Test.YtkdjbebgdoohjaaGreatDoorHistoryOrderJ
set_option linter.all false
namespace Go.Proofs.YtkdjbebgdoohjaaGreatDoor.Sh
open Eng
abbrev Bs:=List UInt8
abbrev W:=BitVec 32
def u32 (x:W):AV:=.int .u32 x.toNat
theorem qm (x:W):u32 x=.int .u32 x.toNat:=(rfl)
theorem YN (x:W):x.toNat<4294967296:=x.isLt
theorem qu (x:W):IntKind.u32.wrap x.toNat=x.toNat:=wrap_u32 (by have:=YN x;omega)
theorem nK (x:W):BitVec.ofInt 32 (x.toNat:Int)=x:=by simp
theorem dP (a b:W):bits .xor .u32 a.toNat b.toNat=(a ^^^ b).toNat:=by
 show IntKind.u32.wrap ((BitVec.ofInt 32 (a.toNat:Int) ^^^ BitVec.ofInt 32 (b.toNat:Int)).toNat:Int)=_
 rw[nK,nK,qu]
theorem fe (a b:W):bits .and .u32 a.toNat b.toNat=(a &&& b).toNat:=by
 show IntKind.u32.wrap ((BitVec.ofInt 32 (a.toNat:Int) &&& BitVec.ofInt 32 (b.toNat:Int)).toNat:Int)=_
 rw[nK,nK,qu]
theorem eE (a b:W):bits .or .u32 a.toNat b.toNat=(a ||| b).toNat:=by
 show IntKind.u32.wrap ((BitVec.ofInt 32 (a.toNat:Int) ||| BitVec.ofInt 32 (b.toNat:Int)).toNat:Int)=_
 rw[nK,nK,qu]
theorem EU (b:W):bits .xor .u32 4294967295 b.toNat=(~~~b).toNat:=by
 have h:=dP (BitVec.allOnes 32) b;rw[BitVec.allOnes_xor]at h;exact h
theorem YS (b:W):bits .xor .u32 b.toNat 4294967295=(~~~b).toNat:=by
 have h:=dP b (BitVec.allOnes 32);rw[BitVec.xor_allOnes]at h;exact h
theorem qs (a b:W):IntKind.u32.wrap (a.toNat+b.toNat)=(a+b).toNat:=by
 have h:(a+b).toNat=(a.toNat+b.toNat)%4294967296:=BitVec.toNat_add ..;rw[h]
 show((a.toNat:Int)+b.toNat)%4294967296=_
 omega
theorem mG (a:W) (k:Nat):IntKind.u32.wrap (a.toNat*2^k)=(a <<< k).toNat:=by
 rw[aca,aao]
 show((a.toNat:Int)*2^k)%4294967296=_
 rw[Int.natCast_emod,Int.natCast_mul,abD];rfl
theorem EX (a:W) (k:Nat):(a.toNat:Int).fdiv (2^k)=(a >>> k).toNat:=by
 rw[abW,aa2,aaf _ (abI (by decide)),abK,abD];rfl
theorem sx {xs:List W} {i:Nat} (h:i<xs.length):nth (xs.map u32) i=u32 (xs.getD i 0#32):=by
 simp[nth,ZH,h]
theorem yL {xs:List W} {y:W}:xs.map u32++[.int .u32 y.toNat]=(xs++[y]).map u32:=by simp[u32]
theorem zE {xs:List W}:(xs.map u32).all aD=true:=by simp[aD,cellsOf,isCell,u32]
theorem LG {xs:List W}:(xs.map u32).all flA=true:=by simp[flA,flC,u32]
def fh (p:Bs) (i:Nat):W:=BitVec.ofNat 32 (p.getD i 0).toNat
def kJ (p:Bs) (i:Nat):W:=fh p i <<< 24 ||| fh p (i+1) <<< 16 ||| fh p (i+2) <<< 8 ||| fh p (i+3)
def jl (p:Bs) (w:List W) (i:Nat):List W:=
 if i<16 then w.set i (kJ p (4*i))else w.set i ((w.getD (i-3) 0#32 ^^^ w.getD (i-8) 0#32 ^^^ w.getD (i-14) 0#32 ^^^ w.getD (i-16) 0#32).rotateLeft 1)
def sched (p:Bs) (i:Nat):List W:=(List.range i).foldl (jl p) (List.replicate 80 0#32)
theorem DU (p:Bs):sched p 0=List.replicate 80 0#32:=rfl
theorem p6 (p:Bs) (i:Nat):sched p (i+1)=jl p (sched p i) i:=by simp[sched,abl]
theorem WV (p:Bs) (w:List W) (i:Nat):(jl p w i).length=w.length:=by unfold jl;split<;>simp
theorem lz (p:Bs):∀i,(sched p i).length=80
 | 0=>by simp[DU]
 | i+1=>by rw[p6,WV,lz p i]
structure H5 where
 a:W
 b:W
 c:W
 d:W
 e:W
def H5.l (h:H5):List W:=[h.a,h.b,h.c,h.d,h.e]
def gR (i:Nat) (b c d:W):W:=if i<20 then(b &&& c) ||| (~~~b &&& d)else if i<40 then b ^^^ c ^^^ d else if i<60 then(b &&& c) ||| (b &&& d) ||| (c &&& d)else b ^^^ c ^^^ d
def gS (i:Nat):W:=if i<20 then 0x5a827999#32 else if i<40 then 0x6ed9eba1#32 else if i<60 then 0x8f1bbcdc#32 else 0xca62c1d6#32
def mo (w:List W) (h:H5) (i:Nat):H5:=⟨h.a.rotateLeft 5+gR i h.b h.c h.d+h.e+gS i+w.getD i 0#32,h.a,h.b.rotateLeft 30,h.c,h.d⟩
def rounds (w:List W) (h:H5) (i:Nat):H5:=(List.range i).foldl (mo w) h
theorem DA (w:List W) (h:H5):rounds w h 0=h:=rfl
theorem rounds_succ (w:List W) (h:H5) (i:Nat):rounds w h (i+1)=mo w (rounds w h i) i:=by simp[rounds,abl]
def H5.add (x y:H5):H5:=⟨x.a+y.a,x.b+y.b,x.c+y.c,x.d+y.d,x.e+y.e⟩
def dk (h:H5) (p:Bs):H5:=h.add (rounds (sched p 80) h 80)
def blks:Nat->H5->Bs->H5
 | 0,h,_=>h
 | n+1,h,t=>blks n (dk h (t.take 64)) (t.drop 64)
theorem uJ:∀(n m:Nat) (h:H5) (t:Bs),blks (n+m) h t=blks m (blks n h t) (t.drop (64*n))
 | 0,m,h,t=>by simp[blks]
 | n+1,m,h,t=>by
  rw[show n+1+m=(n+m)+1 by omega];simp only[blks];rw[uJ n m,aa3,show 64*(n+1)=64+64*n by omega]
theorem zi (n:Nat) (h:H5) (t:Bs):blks (n+1) h t=dk (blks n h t) ((t.drop (64*n)).take 64):=by
 rw[uJ n 1];rfl
theorem zh:∀(n:Nat) (h:H5) (t u:Bs),64*n<=t.length->blks n h (t++u)=blks n h t
 | 0,_,_,_,_=>rfl
 | n+1,h,t,u,hl=>by
  simp only[blks];rw[abd ZG,aaD ZG,zh n _ _ _ (by rw[ZN];omega)]
def start:H5:=⟨0x67452301#32,0xefcdab89#32,0x98badcfe#32,0x10325476#32,0xc3d2e1f0#32⟩
def cg (n:Nat):Nat:=(119-n%64)%64
def bZ (n:Nat):Bs:=[56,48,40,32,24,16,8,0].map λi=>UInt8.ofNat ((8*n) >>> i)
def cn (n:Nat):Bs:=128::(List.replicate (cg n) 0++bZ n)
theorem Ep (n:Nat):(n+(cn n).length)%64=0:=by
 simp[cn,bZ,cg];omega
def lE (x:W):Bs:=[UInt8.ofNat (x.toNat >>> 24),UInt8.ofNat (x.toNat >>> 16),UInt8.ofNat (x.toNat >>> 8),UInt8.ofNat x.toNat]
def dx (l:List W):Bs:=l.flatMap lE
def cS (t:Bs):Bs:=dx (blks ((t.length+(cn t.length).length)/64) start (t++cn t.length)).l
theorem V8 (t:Bs):cS t=dx (blks ((t.length%64+(cn t.length).length)/64) (blks (t.length/64) start t) (t.drop (64*(t.length/64))++cn t.length)).l:=by
 unfold cS;have h1:=Ep t.length;have h2:(t.length+(cn t.length).length)/64=t.length/64+(t.length%64+(cn t.length).length)/64:=ZG;rw[h2,uJ,zh _ _ _ _ ZG,aaD ZG]
theorem V7 (t:Bs):(cS t).length=20:=by simp[cS,dx,H5.l,lE]
def gD:Bs:=[48,49,50,51,52,53,54,55,56,57,97,98,99,100,101,102]
def nC (b:UInt8):Bs:=[gD.getD (b.toNat/16) 0,gD.getD (b.toNat%16) 0]
def bw (t:Bs):Bs:=t.flatMap nC
theorem vP (t:Bs):(bw t).length=2*t.length:=by
 induction t with
 | nil=>rfl
 | cons b t ih=>
  simp only[bw,List.flatMap_cons,ZJ]at ih |-;rw[ih];simp[nC];omega
end Go.Proofs.YtkdjbebgdoohjaaGreatDoor.Sh
