/- The proof, part 35 of 51. -/
import Derived.Test.YtgghhaahnpbnmaaGreatDoorCartularyWalksU
import Derived.Test.YtgghhaahnpbnmaaGreatDoorCartularyWalksX
import Derived.Test.YtgghhaahnpbnmaaGreatDoorProg
set_option linter.all false
namespace Go.Proofs.YtgghhaahnpbnmaaGreatDoor.Cod
open Eng Eng.Kz
set_option maxRecDepth 100000
abbrev ab7:AK:=pk (x:=Kc.code Tryz.prog Tryz.f35 240 [] (Kc.lr 0 [.tmp 2,.tmp 3])) _
abbrev ab8:AK:=pk (x:=ab7.y.y.y.y.y.y.y.y.y.y.x.y.x.x.y.y.x.x.y.y.y.y.y) _
abbrev aca:=Kf.s1 240 Tryz.func35
abbrev ab4:=Kf.s1 241 Tryz.func37
abbrev acd:=Kf.s1 242 Tryz.func38
abbrev Yi:=Kf.s3 245 Tryz.func160
abbrev VN:=Kf.s1 246 Tryz.func11
abbrev VB:=Kf.s2 249 Tryz.func114
abbrev abZ:=Kf.s1 250 Tryz.func36
open Eng Eng.Kz
set_option maxRecDepth 100000
abbrev Vz:=Kf.s1 254 Tryz.func70
abbrev ab2:=Kf.s2 260 Tryz.func140
abbrev ab1:=Kf.s2 261 Tryz.func161
abbrev Vy:=Kf.s2 262 Tryz.func162
abbrev VL:=Kf.r2 263 Tryz.func141
abbrev BC:=Kf.k1 255 Tryz.func186
abbrev BB:=Kf.x1 255 Tryz.func186
abbrev MX:AK:=pk (x:=Kc.code Tryz.prog Tryz.f205 256 [] (Kc.lr 1 [.tmp 2])) _
abbrev MZ:=Kf.k1 256 Tryz.func205
abbrev MY:=Kf.x1 256 Tryz.func205
abbrev Mm:AK:=pk (x:=Kc.code Tryz.prog Tryz.f187 257 [] (Kc.lr 2 [.tmp 4,.tmp 5])) _
abbrev Mq:=Kf.k2 257 Tryz.func187
abbrev Mo:=Kf.x2 257 Tryz.func187
abbrev wZ:AK:=pk (x:=Kc.code Tryz.prog Tryz.f184 258 [] (Kc.dG [2000001,2000002,2000003,2000004] (Kc.lr 0 [.cell 2 false 1,.cell 3 false 1,.cell 4 false 1,.cell 5 false 1]))) _
abbrev M0:AK:=pk (x:=wZ.x) _
abbrev M1:AK:=pk (x:=wZ.y.y) _
theorem M3:gS Tryz.prog 184 258000 8 wZ [.cell 2 false 1,.cell 3 false 1,.cell 4 false 1,.cell 5 false 1]:=⟨_,Tryz.func184,by kernel_rfl⟩
theorem M5 {h a0 Post} (hI:lz Tryz.prog 204 4) (hp:rV Tryz.prog [M0] M1 204 7 [(.t 2),(.t 3),(.t 4),(.t 5)] 258000 1 [.cell 2 false 1,.cell 3 false 1,.cell 4 false 1,.cell 5 false 1] [(0,a0)] h Post):Eng.Spec Tryz.prog 184 h [a0] Post:=y9 M3 rfl (adQ rfl) (adQ rfl) hI [(0,a0)] ⟨rfl,trivial⟩ hp
abbrev nZ:AK:=pk (x:=Kc.code Tryz.prog Tryz.f165 259 [] (Kc.dG [2000003,2000004] (Kc.lr 0 [.cell 6 false 1,.cell 7 false 1]))) _
abbrev L9:AK:=pk (x:=nZ.x) _
abbrev Mc:AK:=pk (x:=nZ.y.x) _
abbrev Md:AK:=pk (x:=nZ.y.y.y.y) _
abbrev Me:AK:=pk (x:=nZ.y.y.y.y.y.y.x.x.x.y.x.y.y.y) _
abbrev Mf:AK:=pk (x:=nZ.y.y.x.x) _
theorem Mg:gS Tryz.prog 165 259000 38 nZ [.cell 6 false 1,.cell 7 false 1]:=⟨_,Tryz.func165,by kernel_rfl⟩
theorem Mi {h a0 a1 a2 Post} (hI:lz Tryz.prog 185 2) (hp:rV Tryz.prog [L9,Mc,(.block 0 Mf)] Md 185 37 [(.t 6),(.t 7)] 259000 3 [.cell 6 false 1,.cell 7 false 1] [(0,a0),(1,a1),(2,a2)] h Post):Eng.Spec Tryz.prog 165 h [a0,a1,a2] Post:=y9 Mg rfl (adQ rfl) (adQ rfl) hI [(0,a0),(1,a1),(2,a2)] ⟨rfl,rfl,rfl,trivial⟩ hp
abbrev VE:AK:=pk (x:=Kc.code Tryz.prog Tryz.f71 264 [] (Kc.lr 0 [.tmp 6,.tmp 7])) _
abbrev VF:AK:=pk (x:=VE.y.y.y) _
abbrev VH:=Kf.s3 264 Tryz.func71
end Go.Proofs.YtgghhaahnpbnmaaGreatDoor.Cod
namespace Go.Proofs.YtgghhaahnpbnmaaGreatDoor.Ls
open Eng
set_option maxRecDepth 10000
def cE (t:Bs):Nat:=t.foldl (λx b=>256*x+b.toNat) 0
theorem Az (t:Bs) {k:Nat} (h:k<t.length):cE (t.take (k+1))=256*cE (t.take k)+(t.getD k 0).toNat:=by
 rw[dS 0 t h];simp[cE]
theorem wm (t:Bs):∀k,k<=t.length->cE (t.take k)<256^k
 | 0,_=>by rw[ad3];decide
 | k+1,h=>by
  have ih:=wm t k acB;have hb:=(t.getD k 0).toNat_lt;rw[Az t h,aeg];omega
theorem pU {t:Bs} {n:Nat} (h:t.length<=n):cE t<256^n:=by
 have h1:=wm t t.length (acG _);rw[acF (acG _)]at h1;exact acR h1 (acQ (by decide) h)
theorem VV {x b:Nat} (hx:x<72057594037927936) (hb:b<256):bits .or .u64 (IntKind.u64.wrap ((x:Int)*2^min 8 64)) (b:Int)=((256*x+b:Nat):Int):=by
 have h1:((x:Int)*2^min 8 64)=((x*256:Nat):Int):=by
  rw[show((2:Int)^min 8 64)=256 by decide];omega
 rw[h1,wrap_u64 acB]
 show IntKind.u64.wrap ((BitVec.ofInt 64 ((x*256:Nat):Int) ||| BitVec.ofInt 64 (b:Int)).toNat:Int)=_
 rw[acM,acM,adR,acP,acP,acL acB,acL acB]
 have h2:x*256 ||| b=256*x+b:=by
  have h3:=adb (b:=b) (i:=8) acB x;rw[adj,show(2:Nat)^8=256 by decide]at h3;omega
 rw[h2];exact wrap_u64 acB
theorem oy (t:Bs) (ht:t.length<=8):aw Tryz.prog 70 [.str t] (.int .u64 (cE t:Nat)):=by
 refine Cod.Vz (λE R hN hR=>?_);refine wW ?_;refine aJ hN (λk:Nat=>⟨[(0,.str t),(3,.int .u64 (cE (t.take k):Nat)),(6,.int .i64 t.length),(7,.int .i64 k)],[]⟩) (λk=>k<=t.length) (λk=>t.length-k) 0 (.le (by simp(disch:=omega)only[go_sem,simprocAttr];simp[cE])) acB ?_;rintro k R1 hk hR1;by_cases hlt:k<t.length
 ·have hct:=Az t hlt;have hxl:cE (t.take k)<72057594037927936:=acR (wm t k hk) (acQ (n:=256) (by decide) (by omega:k<=7));have hbl:=(t.getD k 0).toNat_lt;have ho:=VV hxl hbl;generalize cE (t.take k)=x at *
  refine ah ho ?_;exact hR1 (k+1) _ acB acB (.le (eY hct))
 ·obtain rfl:k=t.length:=acB;rw[acF (acG _)];refine wW ?_;exact hR.ro ⟨rfl,rfl⟩
def fi (s:Bs):Int×Int:=
 if s.length<32 then(0,6)
 else if s.take 4≠[80,65,67,75]then(0,3)
 else if cE ((s.drop 4).take 4)≠2 then(0,3)
 else if 1000<cE ((s.drop 8).take 4)then(0,2)
 else if Sh.dR (s.take (s.length-20))≠s.drop (s.length-20)then(0,5)
 else(cE ((s.drop 8).take 4),0)
theorem Lz {s:Bs} (h:(fi s).2=0):32<=s.length:=by
 unfold fi at h;split at h
 ·cases h
 omega
theorem abY (s:Bs) (hs:s.length<=100000):aw Tryz.prog 36 [.str s] (.ab [.int .i64 (fi s).1,.int .i64 (fi s).2]):=by
 refine Cod.abZ (λE R hN hR=>?_);have fin:∀{h} (n e:Int),fi s=(n,e)->R h (.ab [.int .i64 n,.int .i64 e]) [.undef]:=λn e he=>hR.ro ⟨rfl,by rw[he]⟩;by_cases h32:s.length<32
 ·refine wW ?_;exact fin 0 6 (by unfold fi;rw[if_pos h32])
 ·have hb4:=oy ((s.drop 4).take 4) (by rw[acJ];omega);have hb8:=oy ((s.drop 8).take 4) (by rw[acJ];omega);have hl8:cE ((s.drop 8).take 4)<4294967296:=pU (n:=4) (by rw[acJ];omega);have hsum:=Sh.zj (s.take (s.length-20)) (by rw[acJ];omega);have et:((s.length:Int)-20).toNat=s.length-20:=acB;by_cases h1:s.take 4=[80,65,67,75]
  ·have hc:fi s=(if cE ((s.drop 4).take 4)≠2 then((0:Int),(3:Int))else if 1000<cE ((s.drop 8).take 4)then(0,2)else if Sh.dR (s.take (s.length-20))≠s.drop (s.length-20)then(0,5)else((cE ((s.drop 8).take 4):Nat),0)):=by unfold fi;rw[if_neg h32,if_neg (λh=>h h1)]
   generalize cE ((s.drop 4).take 4)=x4 at *
   generalize cE ((s.drop 8).take 4)=x8 at *
   refine ah h1 ?_;refine cB h1 ?_;refine jt (iv vV hb4 vV rfl rfl ?_);by_cases h2:((x4:Nat):Int)=2
   ·rw[if_neg (λh:¬x4=2=>h acB)]at hc;refine ah h2 ?_;refine cB h2 ?_;refine aj hb8 rfl rfl ?_;by_cases h1000:1000<x8
    ·rw[if_pos h1000]at hc;refine wW ?_;exact fin 0 2 hc
    ·rw[if_neg h1000]at hc;refine ah et ?_;refine aj hsum rfl rfl ?_;by_cases hsha:Sh.dR (s.take (s.length-20))=s.drop (s.length-20)
     ·rw[if_neg (λh=>h hsha)]at hc;refine aV et hsha ?_;exact fin _ 0 hc
     ·rw[if_pos hsha]at hc;refine aV et hsha ?_;exact fin 0 5 hc
   ·rw[if_pos (λh:x4=2=>h2 acB)]at hc;refine ah h2 ?_;refine cB h2 ?_;exact fin 0 3 hc
  ·have hc:fi s=(0,3):=by unfold fi;rw[if_neg h32,if_pos h1]
   refine ah h1 ?_;refine cB h1 ?_;exact fin 0 3 hc
end Go.Proofs.YtgghhaahnpbnmaaGreatDoor.Ls
