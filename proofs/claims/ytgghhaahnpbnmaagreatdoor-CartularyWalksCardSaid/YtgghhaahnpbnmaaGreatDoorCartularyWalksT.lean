/- The proof, part 20 of 51. -/
import Derived.Test.YtgghhaahnpbnmaaGreatDoorCartularyWalksR
import Derived.Test.YtgghhaahnpbnmaaGreatDoorCartularyWalksS
import Derived.Test.YtgghhaahnpbnmaaGreatDoorProg
set_option linter.all false
namespace Go.Proofs.YtgghhaahnpbnmaaGreatDoor.Gr
open Eng
set_option maxRecDepth 10000
theorem Pe (dx dy:Int) (hx:-40<=dx/\dx<=40) (hy:-200<=dy/\dy<=200):aw Tryz.prog 40 [.cx .f64 (FloatKind.f64.nearest dx) (FloatKind.f64.nearest dy)] (.bool (decide (0<dx.natAbs+dy.natAbs))):=by
 refine Cod.Pf (λE R hN hR=>?_);have m1:=Cj (d:=dx) acB;have m2:=Cj hy;obtain⟨a1,a2⟩:=NN (p:=dx.natAbs) (q:=dy.natAbs) acB acB;refine cW m1 m2 a1 a2 ?_;exact hR.ro ⟨rfl,rfl⟩
def cX (u v a b:Int):Int×Int:=if b=v then(if u<a then(a-1,b)else(a+1,b))else(a,b+1)
def wayGo (u v:Int):Nat->Int->Int->List (Int×Int)
 | 0,_,_=>[]
 | n+1,a,b=>cX u v a b::wayGo u v n (cX u v a b).1 (cX u v a b).2
def eu (u v a b:Int):Nat:=(v-b).toNat+(u-a).natAbs
def gQ (u v a b:Int):List (Int×Int):=wayGo u v (eu u v a b) a b
theorem G9 {u v a b:Int} (hb:b<=v) (h:0<eu u v a b):eu u v (cX u v a b).1 (cX u v a b).2+1=eu u v a b/\(cX u v a b).2<=v:=by
 unfold eu cX at *
 split
 ·split<;>(constructor<;>simp only<;>omega)
 ·constructor<;>simp only<;>omega
theorem PL (x y u v:Int) (hx:0<=x/\x<=40) (hu:0<=u/\u<=40) (hy:0<=y) (hv:v<=200) (hyv:y<=v):aw Tryz.prog 13 [.cx .f64 (FloatKind.f64.nearest x) (FloatKind.f64.nearest y),.cx .f64 (FloatKind.f64.nearest u) (FloatKind.f64.nearest v)]
    (.ro 1 ((gQ u v x y).map cN)):=by
 refine Cod.PM (λE R hN hR=>?_);refine wW ?_
 refine aJ hN (λz:Int×Int×Nat×Nat×List (Int×Int)=>⟨[(1,.cx .f64 (FloatKind.f64.nearest u) (FloatKind.f64.nearest v)),(5,.sl 15034 0 z.2.2.2.2.length),(6,.cx .f64 z.2.2.1 z.2.2.2.1),(7,.cx .f64 (FloatKind.f64.nearest z.1) (FloatKind.f64.nearest z.2.1))],[(15034,.arr 1 (z.2.2.2.2.map cN))]⟩)
  (λz=>0<=z.1/\z.1<=40/\0<=z.2.1/\z.2.1<=v/\(z.2.1≠v->z.2.2.1=0/\z.2.2.2.1=4607182418800017408)/\z.2.2.2.2.length+eu u v z.1 z.2.1<=240/\z.2.2.2.2++gQ u v z.1 z.2.1=gQ u v x y)
  (λz=>eu u v z.1 z.2.1) (x,y,0,4607182418800017408,[]) (.nil 5 15034 1 rfl (.le vV)) ⟨hx.1,hx.2,hy,hyv,λ_=>⟨rfl,rfl⟩,by simp only[eu,ac9];omega,rfl⟩ ?_
 rintro⟨a,b,s1,s2,out⟩ R1 ⟨ha0,ha1,hb0,hb1,hst,hlen,hout⟩ hR1;simp only at ha0 ha1 hb0 hb1 hst hlen hout;have e1:=Cl (a:=a) (b:=u) ⟨ha0,acB⟩ ⟨hu.1,acB⟩;have e2:=Cl (a:=b) (b:=v) ⟨hb0,acB⟩ ⟨acB,hv⟩;have e3:=xh (a:=b) (b:=v) ⟨hb0,acB⟩ ⟨acB,hv⟩;have e4:=NP (a:=u) (b:=a) ⟨hu.1,acB⟩ ⟨ha0,acB⟩;obtain⟨a1,a2,a3⟩:=Ci (a:=a) ⟨ha0,acB⟩;obtain⟨b1,b2,b3⟩:=Ci (a:=b) ⟨hb0,acB⟩;refine aV e1 e2 ?_;refine aj (Pe (a-u) (b-v) acB acB) rfl rfl ?_;by_cases hn:0<eu u v a b
 ·have hfar:decide (0<(a-u).natAbs+(b-v).natAbs)=true:=by simp only[eu]at hn;simp;omega
  obtain⟨hs1,hs2⟩:=G9 hb1 hn
  have hgo:gQ u v a b=cX u v a b::gQ u v (cX u v a b).1 (cX u v a b).2:=by
   rw[gQ,<-hs1,wayGo];rfl
  rw[hgo]at hout;by_cases hbv:b=v
  ·by_cases hua:u<a
   ·have hw:cX u v a b=(a-1,b):=by rw[cX,if_pos hbv,if_pos hua]
    rw[hw]at hs1 hs2 hout;simp only at hs1 hs2 hout;refine cW hfar @Eng.jn e3 e4 ?_;refine dU hN ?_;refine cW a3 b2 @sJ @sD ?_;exact hR1 (a-1,b,13830554455654793216,0,out++[(a-1,b)]) _ (by simp only;omega) ⟨by simp only;omega,by simp only;omega,hb0,hb1,λh=>absurd hbv h,by simp only[acD,acH,ac9];omega,by simpa using hout⟩ (.le vV)
   ·have hw:cX u v a b=(a+1,b):=by rw[cX,if_pos hbv,if_neg hua]
    have hau:a<u:=by simp only[eu]at hn;omega
    rw[hw]at hs1 hs2 hout;simp only at hs1 hs2 hout;refine cW hfar @Eng.jn e3 e4 ?_;refine dU hN ?_;refine cW a1 b2 @sJ @sD ?_;exact hR1 (a+1,b,4607182418800017408,0,out++[(a+1,b)]) _ (by simp only;omega) ⟨by simp only;omega,by simp only;omega,hb0,hb1,λh=>absurd hbv h,by simp only[acD,acH,ac9];omega,by simpa using hout⟩ (.le vV)
  ·have hw:cX u v a b=(a,b+1):=by rw[cX,if_neg hbv]
   obtain⟨rfl,rfl⟩:=hst hbv;rw[hw]at hs1 hs2 hout;simp only at hs1 hs2 hout;refine cW hfar @Eng.jn e3 e4 ?_;refine dU hN ?_;refine cW a2 b1 @sJ @sD ?_;exact hR1 (a,b+1,0,4607182418800017408,out++[(a,b+1)]) _ (by simp only;omega) ⟨ha0,ha1,by simp only;omega,hs2,λ_=>⟨rfl,rfl⟩,by simp only[acD,acH,ac9];omega,by simpa using hout⟩ (.le vV)
 ·have hfar:decide (0<(a-u).natAbs+(b-v).natAbs)=false:=by simp only[eu]at hn;simp;omega
  have hz:eu u v a b=0:=acB;rw[gQ,hz,wayGo,adx]at hout;refine ah hfar ?_;refine gG ?_;exact hR.wk (h':=[]) (r':=.ro 1 (out.map cN)) (ar':=[.undef,.undef]) rfl (.bn 15034 (.le vV)) ⟨rfl,by rw[hout]⟩
end Go.Proofs.YtgghhaahnpbnmaaGreatDoor.Gr
namespace Go.Proofs.YtgghhaahnpbnmaaGreatDoor.Cod
open Eng Eng.Kz
set_option maxRecDepth 100000
abbrev number:AK:=pk (x:=Kc.code Tryz.prog Tryz.f199 1 [] (Kc.lr 0 [.tmp 2,.tmp 3])) _
abbrev Vv:=Kf.s1 1 Tryz.func199
abbrev Lb:=Kf.s1 2 Tryz.func55
abbrev VI:=Kf.s1 3 Tryz.func56
abbrev Su:=Kf.s1 4 Tryz.func200
abbrev Nv:=Kf.s1 5 Tryz.func22
abbrev MC:=Kf.s1 6 Tryz.func178
abbrev VD:=Kf.s1 7 Tryz.func8
abbrev YB:=Kf.s2 30 Tryz.func166
abbrev TA:=Kf.s2 31 Tryz.func188
open Eng Eng.Kz
set_option maxRecDepth 100000
abbrev Lu:=Kf.s1 200 Tryz.func27
abbrev Km:=Kf.s3 201 Tryz.func67
abbrev Ln:=Kf.r1 202 Tryz.func30
abbrev Zj:=Kf.s1 203 Tryz.func10
abbrev aaW:=Kf.s2 204 Tryz.func31
abbrev Zk:=Kf.s2 205 Tryz.func34
abbrev aaY:=Kf.s1 206 Tryz.func69
abbrev aaT:=Kf.s1 207 Tryz.func113
abbrev Y2:=Kf.s1 208 Tryz.func33
abbrev T9:=Kf.s1 209 Tryz.func25
abbrev Ud:=Kf.s1 210 Tryz.func159
abbrev Ub:=Kf.s2 211 Tryz.func139
abbrev Uk:=Kf.s1 212 Tryz.func9
abbrev T0:=Kf.s2 214 Tryz.func76
abbrev YZ:=Kf.s2 215 Tryz.func43
abbrev Kr:=Kf.s2 224 Tryz.func29
end Go.Proofs.YtgghhaahnpbnmaaGreatDoor.Cod
namespace Go.Proofs.YtgghhaahnpbnmaaGreatDoor.Sh
open Eng
abbrev Bs:=List UInt8
abbrev W:=BitVec 32
def u32 (x:W):AV:=.int .u32 x.toNat
theorem GM (x:W):u32 x=.int .u32 x.toNat:=(rfl)
theorem abx (x:W):x.toNat<4294967296:=x.isLt
theorem vG (x:W):IntKind.u32.wrap x.toNat=x.toNat:=wrap_u32 (by have:=abx x;omega)
theorem oQ (x:W):BitVec.ofInt 32 (x.toNat:Int)=x:=by simp
theorem mn (a b:W):bits .xor .u32 a.toNat b.toNat=(a ^^^ b).toNat:=by
 show IntKind.u32.wrap ((BitVec.ofInt 32 (a.toNat:Int) ^^^ BitVec.ofInt 32 (b.toNat:Int)).toNat:Int)=_
 rw[oQ,oQ,vG]
theorem pw (a b:W):bits .and .u32 a.toNat b.toNat=(a &&& b).toNat:=by
 show IntKind.u32.wrap ((BitVec.ofInt 32 (a.toNat:Int) &&& BitVec.ofInt 32 (b.toNat:Int)).toNat:Int)=_
 rw[oQ,oQ,vG]
theorem mj (a b:W):bits .or .u32 a.toNat b.toNat=(a ||| b).toNat:=by
 show IntKind.u32.wrap ((BitVec.ofInt 32 (a.toNat:Int) ||| BitVec.ofInt 32 (b.toNat:Int)).toNat:Int)=_
 rw[oQ,oQ,vG]
theorem Hb (b:W):bits .xor .u32 4294967295 b.toNat=(~~~b).toNat:=by
 have h:=mn (BitVec.allOnes 32) b;rw[BitVec.allOnes_xor]at h;exact h
theorem G8 (a b:W):IntKind.u32.wrap (a.toNat+b.toNat)=(a+b).toNat:=by
 have h:(a+b).toNat=(a.toNat+b.toNat)%4294967296:=BitVec.toNat_add ..;rw[h]
 show((a.toNat:Int)+b.toNat)%4294967296=_
 omega
theorem vH (a:W) (k:Nat):IntKind.u32.wrap (a.toNat*2^k)=(a <<< k).toNat:=by
 rw[BitVec.toNat_shiftLeft,adj]
 show((a.toNat:Int)*2^k)%4294967296=_
 rw[Int.natCast_emod,aeX,aeI];rfl
theorem He (a:W) (k:Nat):(a.toNat:Int).fdiv (2^k)=(a >>> k).toNat:=by
 rw[ae9,aea,ac6 _ (ael (by decide)),aeS,aeI];rfl
theorem Vk {xs:List W} {i:Nat} (h:i<xs.length):nth (xs.map u32) i=u32 (xs.getD i 0#32):=by
 simp[nth,acC,h]
def mF (p:Bs) (i:Nat):W:=BitVec.ofNat 32 (p.getD i 0).toNat
def py (p:Bs) (i:Nat):W:=mF p i <<< 24 ||| mF p (i+1) <<< 16 ||| mF p (i+2) <<< 8 ||| mF p (i+3)
def me (p:Bs) (w:List W) (i:Nat):List W:=
 if i<16 then w.set i (py p (4*i))else w.set i ((w.getD (i-3) 0#32 ^^^ w.getD (i-8) 0#32 ^^^ w.getD (i-14) 0#32 ^^^ w.getD (i-16) 0#32).rotateLeft 1)
def sched (p:Bs) (i:Nat):List W:=(List.range i).foldl (me p) (List.replicate 80 0#32)
theorem FQ (p:Bs):sched p 0=List.replicate 80 0#32:=rfl
theorem FP (p:Bs) (i:Nat):sched p (i+1)=me p (sched p i) i:=by simp[sched,adJ]
theorem ZI (p:Bs) (w:List W) (i:Nat):(me p w i).length=w.length:=by unfold me;split<;>simp
theorem FM (p:Bs):∀i,(sched p i).length=80
 | 0=>by simp[FQ]
 | i+1=>by rw[FP,ZI,FM p i]
structure H5 where
 a:W
 b:W
 c:W
 d:W
 e:W
def H5.l (h:H5):List W:=[h.a,h.b,h.c,h.d,h.e]
def mO (i:Nat) (b c d:W):W:=if i<20 then(b &&& c) ||| (~~~b &&& d)else if i<40 then b ^^^ c ^^^ d else if i<60 then(b &&& c) ||| (b &&& d) ||| (c &&& d)else b ^^^ c ^^^ d
def dM (i:Nat):W:=if i<20 then 0x5a827999#32 else if i<40 then 0x6ed9eba1#32 else if i<60 then 0x8f1bbcdc#32 else 0xca62c1d6#32
def o4 (w:List W) (h:H5) (i:Nat):H5:=⟨h.a.rotateLeft 5+mO i h.b h.c h.d+h.e+dM i+w.getD i 0#32,h.a,h.b.rotateLeft 30,h.c,h.d⟩
def rounds (w:List W) (h:H5) (i:Nat):H5:=(List.range i).foldl (o4 w) h
theorem Yc (w:List W) (h:H5):rounds w h 0=h:=rfl
theorem rounds_succ (w:List W) (h:H5) (i:Nat):rounds w h (i+1)=o4 w (rounds w h i) i:=by simp[rounds,adJ]
def H5.add (x y:H5):H5:=⟨x.a+y.a,x.b+y.b,x.c+y.c,x.d+y.d,x.e+y.e⟩
def ff (h:H5) (p:Bs):H5:=h.add (rounds (sched p 80) h 80)
def blks:Nat->H5->Bs->H5
 | 0,h,_=>h
 | n+1,h,t=>blks n (ff h (t.take 64)) (t.drop 64)
theorem wy:∀(n m:Nat) (h:H5) (t:Bs),blks (n+m) h t=blks m (blks n h t) (t.drop (64*n))
 | 0,m,h,t=>by simp[blks]
 | n+1,m,h,t=>by
  rw[show n+1+m=(n+m)+1 by omega];simp only[blks];rw[wy n m,ad4,show 64*(n+1)=64+64*n by omega]
theorem JW (n:Nat) (h:H5) (t:Bs):blks (n+1) h t=ff (blks n h t) ((t.drop (64*n)).take 64):=by
 rw[wy n 1];rfl
theorem AM:∀(n:Nat) (h:H5) (t u:Bs),64*n<=t.length->blks n h (t++u)=blks n h t
 | 0,_,_,_,_=>rfl
 | n+1,h,t,u,hl=>by
  simp only[blks];rw[adY acB,adq acB,AM n _ _ _ (by rw[acK];omega)]
def start:H5:=⟨0x67452301#32,0xefcdab89#32,0x98badcfe#32,0x10325476#32,0xc3d2e1f0#32⟩
def gE (n:Nat):Nat:=(119-n%64)%64
def bx (n:Nat):Bs:=[56,48,40,32,24,16,8,0].map λi=>UInt8.ofNat ((8*n) >>> i)
def eU (n:Nat):Bs:=128::(List.replicate (gE n) 0++bx n)
theorem aar (n:Nat):(n+(eU n).length)%64=0:=by
 simp[eU,bx,gE];omega
def ph (x:W):Bs:=[UInt8.ofNat (x.toNat >>> 24),UInt8.ofNat (x.toNat >>> 16),UInt8.ofNat (x.toNat >>> 8),UInt8.ofNat x.toNat]
def gD (l:List W):Bs:=l.flatMap ph
def dR (t:Bs):Bs:=gD (blks ((t.length+(eU t.length).length)/64) start (t++eU t.length)).l
theorem YX (t:Bs):dR t=gD (blks ((t.length%64+(eU t.length).length)/64) (blks (t.length/64) start t) (t.drop (64*(t.length/64))++eU t.length)).l:=by
 unfold dR;have h1:=aar t.length;have h2:(t.length+(eU t.length).length)/64=t.length/64+(t.length%64+(eU t.length).length)/64:=acB;rw[h2,wy,AM _ _ _ _ acB,adq acB]
theorem F5 (t:Bs):(dR t).length=20:=by simp[dR,gD,H5.l,ph]
def qy:Bs:=[48,49,50,51,52,53,54,55,56,57,97,98,99,100,101,102]
def tJ (b:UInt8):Bs:=[qy.getD (b.toNat/16) 0,qy.getD (b.toNat%16) 0]
def b7 (t:Bs):Bs:=t.flatMap tJ
theorem C8 (t:Bs):(b7 t).length=2*t.length:=by
 induction t with
 | nil=>rfl
 | cons b t ih=>
  simp only[b7,List.flatMap_cons,acD]at ih |-;rw[ih];simp[tJ];omega
end Go.Proofs.YtgghhaahnpbnmaaGreatDoor.Sh
