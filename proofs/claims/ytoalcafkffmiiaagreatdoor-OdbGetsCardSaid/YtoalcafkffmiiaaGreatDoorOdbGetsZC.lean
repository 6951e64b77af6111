/- The proof, part 29 of 43. -/
import Derived.Test.YtoalcafkffmiiaaGreatDoorOdbGetsU
import Derived.Test.YtoalcafkffmiiaaGreatDoorProg
set_option linter.all false
namespace Go.Proofs.YtoalcafkffmiiaaGreatDoor.Cod
open Eng Eng.Kz
set_option maxRecDepth 100000
abbrev Lf:=Kf.k2 120 Tryz.func189
abbrev Ld:=Kf.k1 121 Tryz.func190
abbrev La:=Kf.s1 122 Tryz.func138
abbrev Hz:=Kf.k2 123 Tryz.func217
abbrev Hx:=Kf.k1 124 Tryz.func218
abbrev Hv:=Kf.s1 125 Tryz.func181
abbrev N5:=Kf.s1 126 Tryz.func73
abbrev XK:=Kf.s1 128 Tryz.func157
abbrev Xw:=Kf.s1 129 Tryz.func147
abbrev Yu:=Kf.s2 130 Tryz.func202
abbrev Wv:=Kf.s1 131 Tryz.func201
abbrev XE:=Kf.s2 132 Tryz.func146
abbrev FA:=Kf.s1 133 Tryz.func95
abbrev acE:=Kf.s2 134 Tryz.func179
abbrev acK:=Kf.s3 135 Tryz.func132
abbrev Xa:=Kf.s2 136 Tryz.func144
abbrev Xb:=Kf.s3 137 Tryz.func93
end Go.Proofs.YtoalcafkffmiiaaGreatDoor.Cod
namespace Go.Proofs.YtoalcafkffmiiaaGreatDoor.Pk
open Eng Sh
set_option maxRecDepth 10000
def km:W:=3988292384#32
def sw (c:W):W:=(c >>> 1) ^^^ (km &&& -(c &&& 1#32))
def crcIt (c:W):Nat->W
 | 0=>c
 | i+1=>sw (crcIt c i)
def sx (c:W) (b:UInt8):W:=crcIt (c ^^^ BitVec.ofNat 32 b.toNat) 8
def iT (c:W) (t:Bs):W:=t.foldl sx c
def mr:W:=4294967295#32
def mV (t:Bs):W := ~~~ (iT mr t)
def gJ (r B:W):Nat->W
 | 0=>r
 | i+1=>if(gJ r B i ^^^ (B >>> i)) &&& 1#32=1#32 then(gJ r B i >>> 1) ^^^ km else gJ r B i >>> 1
theorem and_one (y:W):y &&& 1#32=if(y &&& 1#32)=1#32 then 1#32 else 0#32:=by
 split
 ·assumption
 ·rename_i h
  have h1:(y &&& 1#32).toNat=y.toNat%2:=by
   rw[ad1,show(1#32).toNat=2^1-1 from rfl,adx]
  apply aer;rw[h1];have h2:¬y.toNat%2=1:=λh3=>h (aer (by rw[h1,h3];rfl))
  show y.toNat%2=0
  omega
theorem Bl (r B:W):∀i,crcIt (r ^^^ B) i=gJ r B i ^^^ (B >>> i)
 | 0=>by simp[crcIt,gJ]
 | i+1=>by
  have ih:=Bl r B i;unfold crcIt gJ sw;rw[ih,and_one]
  have hs:(gJ r B i ^^^ B >>> i) >>> 1=(gJ r B i >>> 1) ^^^ (B >>> (i+1)):=by
   rw[BitVec.ushiftRight_xor_distrib,BitVec.shiftRight_add]
  rw[hs];by_cases h:(gJ r B i ^^^ B >>> i) &&& 1#32=1#32
  ·rw[if_pos h,if_pos rfl];have e:km &&& -1#32=km:=by decide
   rw[e,BitVec.xor_assoc,BitVec.xor_comm (B >>> (i+1)),<-BitVec.xor_assoc]
  ·rw[if_neg h,if_neg (by decide)];have e:km &&& -0#32=0#32:=by decide
   rw[e,BitVec.xor_zero]
theorem Lb (r:W) (b:UInt8):gJ r (BitVec.ofNat 32 b.toNat) 8=sx r b:=by
 have h:=Bl r (BitVec.ofNat 32 b.toNat) 8
 have e:(BitVec.ofNat 32 b.toNat) >>> 8=0#32:=by
  apply aer;have:=b.toNat_lt;rw[afs,ac1,acY acN,aet]
  show b.toNat/256=0
  omega
 rw[e,BitVec.xor_zero]at h;exact h.symm
theorem Bk (c:W) (t:Bs) {k:Nat} (h:k<t.length):iT c (t.take (k+1))=sx (iT c (t.take k)) (t.getD k 0):=by
 rw[mE t h];simp[iT]
theorem ab3 (x:W):IntKind.u32.wrap (0-(x.toNat:Int))=((-x).toNat:Int):=by
 have hx:=x.isLt
 show(0-(x.toNat:Int))%4294967296=_
 rw[BitVec.toNat_neg];omega
theorem GN (b:UInt8):(b.toNat:Int)=((BitVec.ofNat 32 b.toNat).toNat:Int):=by
 have:=b.toNat_lt;rw[ac1,acY acN]
theorem Le (c:W) (t:Bs) (ht:t.length<=1000000000):Eng.Spec Tryz.prog 189 [(122003,.var [.int .u32 c.toNat])] [.aa 122003 0,.str t]
    (λh' v ar=>h'=[(122003,.var [.int .u32 (~~~ (iT (~~~ c) t)).toNat])]/\v=.af []/\ar=[.aa 122003 0,.str t]):=by
 refine Cod.Lf (λE R hN hR=>?_);have hnot:∀x:W,bits .xor .u32 (if IntKind.u32.signed=true then -1 else IntKind.u32.max) (x.toNat:Int)=((~~~x).toNat:Int):=λx=>G6 x
 refine ab hnot ?_;refine aD hN (λk:Nat=>⟨[(0,.aa 122003 0),(1,.str t),(4,.int .u32 (iT (~~~ c) (t.take k)).toNat),(12,.int .i64 t.length),(13,.int .i64 k),(2000000,.aa 122003 0),(2000001,.str t)],[(122003,.var [.int .u32 c.toNat])]⟩) (λk=>k<=t.length) (λk=>t.length-k) 0 (.le (by simp(disch:=omega)only[go_sem,simprocAttr];simp[iT])) acN ?_;rintro k R1 hk hR1;by_cases hlt:k<t.length
 ·have hct:=Bk (~~~ c) t hlt;generalize iT (~~~ c) (t.take k)=x at *
  have hb:=GN (t.getD k 0);have hx:=eF x (BitVec.ofNat 32 (t.getD k 0).toNat);rw[<-hb]at hx;have hbl:=(t.getD k 0).toNat_lt;refine ab hx ?_;refine aD hN (λi:Nat=>⟨[(0,.aa 122003 0),(1,.str t),(4,.int .u32 (crcIt (x ^^^ BitVec.ofNat 32 (t.getD k 0).toNat) i).toNat),(12,.int .i64 t.length),(13,.int .i64 k),(22,.int .i64 i),(2000000,.aa 122003 0),(2000001,.str t)],[(122003,.var [.int .u32 c.toNat])]⟩) (λi=>i<=8) (λi=>8-i) 0 (.le (by simp(disch:=omega)only[go_sem,simprocAttr,crcIt])) acN ?_;rintro i R2 hi hR2;by_cases hlt8:i<8
  ·have hst:crcIt (x ^^^ BitVec.ofNat 32 (t.getD k 0).toNat) (i+1)=sw (crcIt (x ^^^ BitVec.ofNat 32 (t.getD k 0).toNat) i):=rfl;generalize crcIt (x ^^^ BitVec.ofNat 32 (t.getD k 0).toNat) i=y at *
   have e1:(y.toNat:Int).fdiv (2^min 1 32)=(y >>> 1).toNat:=va y 1;have e2:bits .and .u32 y.toNat 1=(y &&& 1#32).toNat:=fQ y 1#32;have e3:=ab3 (y &&& 1#32);have e4:bits .and .u32 3988292384 (-(y &&& 1#32)).toNat=(km &&& -(y &&& 1#32)).toNat:=fQ km _;have e5:=eF (y >>> 1) (km &&& -(y &&& 1#32));refine cN e1 e2 e3 e4 e5 ?_;exact hR2 (i+1) _ acN acN (.le (by simp(disch:=omega)only[go_sem,simprocAttr,hst,sw]))
  ·obtain rfl:i=8:=acN;refine wW ?_;exact hR1 (k+1) _ acN acN (.le (by simp(disch:=omega)only[go_sem,simprocAttr,hct,sx]))
 ·obtain rfl:k=t.length:=acN;rw[acP (acT _)];refine ab hnot ?_;exact hR.le vV ⟨rfl,rfl,rfl⟩
theorem Lc (c:W):Eng.Spec Tryz.prog 190 [(122003,.var [.int .u32 c.toNat])] [.aa 122003 0] (λh' v ar=>h'=[(122003,.var [.int .u32 c.toNat])]/\v=.int .u32 c.toNat/\ar=[.aa 122003 0]):=by
 refine Cod.Ld (λE R hN hR=>?_);refine wW ?_;exact hR.le vV ⟨rfl,rfl,rfl⟩
theorem K9 (t:Bs) (ht:t.length<=1000000000):ao Tryz.prog 138 [.str t] (.int .u32 (mV t).toNat):=by
 refine Cod.La (λE R hN hR=>?_);have hw:=Le 0#32 t ht;rw[show ~~~ (0#32:W)=mr by decide,show ~~~ (iT mr t)=mV t from rfl]at hw;have hs:=Lc (mV t);refine wW ?_;refine aI [(122003,.var [.int .u32 (0#32).toNat])] hw vV nofun ?_;rintro h' v ar ⟨rfl,rfl,rfl⟩;refine⟨vV,rfl,?_⟩;refine wW ?_;refine aI [(122003,.var [.int .u32 (mV t).toNat])] hs vV nofun ?_;rintro h' v ar ⟨rfl,rfl,rfl⟩;refine⟨vV,rfl,?_⟩;refine wW ?_;exact hR.ro ⟨rfl,rfl⟩
theorem XJ (t:Bs) (ht:t.length<=1000000000):ao Tryz.prog 157 [.str t] (.int .u32 (mV t).toNat):=by
 refine Cod.XK (λE R hN hR=>?_);refine wW ?_;refine aD hN (λk:Nat=>⟨[(0,.str t),(3,.int .u32 (iT mr (t.take k)).toNat),(4,.int .i64 k)],[]⟩) (λk=>k<=t.length) (λk=>t.length-k) 0 (.le (by simp(disch:=omega)only[go_sem,simprocAttr];simp[iT];rfl)) acN ?_;rintro k R1 hk hR1;by_cases hlt:k<t.length
 ·have hct:=Bk mr t hlt;generalize iT mr (t.take k)=x at *
  have hby:=Lb x (t.getD k 0);have hbl:=(t.getD k 0).toNat_lt;refine wW ?_;refine aD hN (λi:Nat=>⟨[(0,.str t),(3,.int .u32 (gJ x (BitVec.ofNat 32 (t.getD k 0).toNat) i).toNat),(4,.int .i64 k),(5,.int .i64 i)],[]⟩) (λi=>i<=8) (λi=>8-i) 0 (.le (by simp(disch:=omega)only[go_sem,simprocAttr,gJ])) acN ?_;rintro i R2 hi hR2;by_cases hlt8:i<8
  ·have hst:gJ x (BitVec.ofNat 32 (t.getD k 0).toNat) (i+1)=if(gJ x (BitVec.ofNat 32 (t.getD k 0).toNat) i ^^^ ((BitVec.ofNat 32 (t.getD k 0).toNat) >>> i)) &&& 1#32=1#32 then(gJ x (BitVec.ofNat 32 (t.getD k 0).toNat) i >>> 1) ^^^ km else gJ x (BitVec.ofNat 32 (t.getD k 0).toNat) i >>> 1:=rfl
   generalize gJ x (BitVec.ofNat 32 (t.getD k 0).toNat) i=y at *
   have e0:((t.getD k 0).toNat:Int).fdiv (2^min i 8)=((BitVec.ofNat 32 (t.getD k 0).toNat) >>> i).toNat:=by
    rw[adk acN,GN];exact va _ i
   have e1:=eF y ((BitVec.ofNat 32 (t.getD k 0).toNat) >>> i);have e2:bits .and .u32 (y ^^^ ((BitVec.ofNat 32 (t.getD k 0).toNat) >>> i)).toNat 1=((y ^^^ ((BitVec.ofNat 32 (t.getD k 0).toNat) >>> i)) &&& 1#32).toNat:=fQ _ 1#32;have e3:(y.toNat:Int).fdiv (2^min 1 32)=(y >>> 1).toNat:=va y 1;have e4:bits .xor .u32 (y >>> 1).toNat 3988292384=((y >>> 1) ^^^ km).toNat:=eF _ km;have hw32:=pE ((BitVec.ofNat 32 (t.getD k 0).toNat) >>> i);generalize hz:(y ^^^ ((BitVec.ofNat 32 (t.getD k 0).toNat) >>> i)) &&& 1#32=z at *
   by_cases h1:z=1#32
   ·rw[if_pos h1]at hst;have h1':((z.toNat:Nat):Int)=1:=by rw[h1];rfl
    simp(disch:=omega)only[go_sem,simprocAttr,e0,hw32,e1,e2,e3,e4,h1'];exact hR2 (i+1) _ acN acN (.le (cn hst))
   ·rw[if_neg h1]at hst;have h1':¬((z.toNat:Nat):Int)=1:=λh=>h1 (aer (show z.toNat=1 by omega));simp(disch:=omega)only[go_sem,simprocAttr,e0,hw32,e1,e2,e3,e4,h1'];exact hR2 (i+1) _ acN acN (.le (cn hst))
  ·obtain rfl:i=8:=acN;refine wW ?_;exact hR1 (k+1) _ acN acN (.le (jQ hct hby))
 ·obtain rfl:k=t.length:=acN;rw[acP (acT _)];have hn:=G7 (iT mr t);refine ab hn ?_;exact hR.ro ⟨rfl,by rw[show ~~~ (iT mr t)=mV t from rfl]⟩
open Eng Sh
set_option maxRecDepth 10000
def rP (p:Nat×Nat) (c:UInt8):Nat×Nat:=((p.1+c.toNat)%65521,(p.2+(p.1+c.toNat)%65521)%65521)
def cS (t:Bs):Nat×Nat:=t.foldl rP (1,0)
def jo (t:Bs):Nat:=65536*(cS t).2+(cS t).1
theorem vq (t:Bs) {k:Nat} (h:k<t.length):cS (t.take (k+1))=rP (cS (t.take k)) (t.getD k 0):=by
 rw[mE t h];simp[cS]
theorem Ht (p:Nat×Nat) (c:UInt8):(rP p c).1<65521/\(rP p c).2<65521:=⟨ad9 _ (by decide),ad9 _ (by decide)⟩
theorem pL (t:Bs):(cS t).1<65521/\(cS t).2<65521:=by
 have:∀k,k<=t.length->(cS (t.take k)).1<65521/\(cS (t.take k)).2<65521:=by
  intro k
  cases k with
  | zero=>intro _;rw[adI];decide
  | succ k=>intro h;rw[vq t h];exact Ht _ _
 have h:=this t.length (acT _)
 rwa[acP (acT _)]at h
theorem zU (t:Bs):jo t<4294967296:=by
 have:=pL t;unfold jo;omega
def ic (a:Nat):Nat:=(a+65520)%65521
theorem Hy (t:Bs) (ht:t.length<=1000000000):Eng.Spec Tryz.prog 217 [(125003,.var [.int .u32 0,.int .u32 0])] [.aa 125003 0,.str t]
    (λh' v ar=>h'=[(125003,.var [.int .u32 (ic (cS t).1:Nat),.int .u32 ((cS t).2:Nat)])]/\v=.af []/\ar=[.aa 125003 0,.str t]):=by
 refine Cod.Hz (λE R hN hR=>?_);refine wW ?_;refine aD hN (λk:Nat=>⟨[(0,.aa 125003 0),(1,.str t),(6,.int .i64 t.length),(7,.int .i64 k),(2000000,.aa 125003 0),(2000001,.str t)],[(125003,.var [.int .u32 (ic (cS (t.take k)).1:Nat),.int .u32 ((cS (t.take k)).2:Nat)])]⟩) (λk=>k<=t.length) (λk=>t.length-k) 0 (.le (by simp(disch:=omega)only[go_sem,simprocAttr];simp[cS,ic])) acN ?_;rintro k R1 hk hR1;by_cases hlt:k<t.length
 ·have hct:=vq t hlt;have hxl:=pL (t.take k);generalize cS (t.take k)=x at *
  have hbl:=(t.getD k 0).toNat_lt;obtain⟨xa,xb⟩:=x;simp only at hxl;have hc1:(cS (t.take (k+1))).1=(xa+(t.getD k 0).toNat)%65521:=by rw[hct];rfl
  have hc2:(cS (t.take (k+1))).2=(xb+(xa+(t.getD k 0).toNat)%65521)%65521:=by rw[hct];rfl
  generalize hb:(t.getD k 0).toNat=b at *
  have l1:ic xa<65521:=ad9 _ (by decide)
  have e2:(((ic xa:Nat):Int)+(b:Int)).tmod 65521=((ic ((xa+b)%65521):Nat):Int):=by
   rw[gh acN];unfold ic;omega
  have e3:(((xb:Nat):Int)+((ic ((xa+b)%65521):Nat):Int)+1).tmod 65521=(((xb+(xa+b)%65521)%65521:Nat):Int):=by
   rw[gh acN];unfold ic;omega
  have l2:ic ((xa+b)%65521)<65521:=ad9 _ (by decide);refine bp hb e2 e3 ?_;exact hR1 (k+1) _ acN acN (.le (jQ hc1 hc2))
 ·obtain rfl:k=t.length:=acN;rw[acP (acT _)];refine wW ?_;exact hR.le vV ⟨rfl,rfl,rfl⟩
theorem UQ {a b:Nat} (ha:a<65536) (hb:b<65536):bits .or .u32 (IntKind.u32.wrap ((b:Int)*2^min 16 32)) (a:Int)=((65536*b+a:Nat):Int):=by
 have h1:((b:Int)*2^min 16 32)=((b*65536:Nat):Int):=by
  rw[show((2:Int)^min 16 32)=65536 by decide];omega
 rw[h1,wrap_u32 acN]
 show IntKind.u32.wrap ((BitVec.ofInt 32 ((b*65536:Nat):Int) ||| BitVec.ofInt 32 (a:Int)).toNat:Int)=_
 rw[ac2,ac2,adZ,ac1,ac1,acY acN,acY acN]
 have h2:b*65536 ||| a=65536*b+a:=by
  have h3:=adu (b:=a) (i:=16) acN b;rw[adD,show(2:Nat)^16=65536 by decide]at h3;omega
 rw[h2];exact wrap_u32 acN
theorem Hw (t:Bs):Eng.Spec Tryz.prog 218 [(125003,.var [.int .u32 (ic (cS t).1:Nat),.int .u32 ((cS t).2:Nat)])] [.aa 125003 0]
    (λh' v ar=>h'=[(125003,.var [.int .u32 (ic (cS t).1:Nat),.int .u32 ((cS t).2:Nat)])]/\v=.int .u32 (jo t:Nat)/\ar=[.aa 125003 0]):=by
 refine Cod.Hx (λE R hN hR=>?_);have hl:=pL t;unfold jo at hR;generalize cS t=x at *
 obtain⟨xa,xb⟩:=x;simp only at hl hR |-;have l1:ic xa<65521:=ad9 _ (by decide)
 have e1:(((ic xa:Nat):Int)+1).tmod 65521=((xa:Nat):Int):=by
  rw[gh acN];unfold ic;omega
 have e2:=UQ (a:=xa) (b:=xb) acN acN;refine aE e1 e2 ?_;exact hR.le vV ⟨rfl,rfl,rfl⟩
theorem Hu (t:Bs) (ht:t.length<=1000000000):ao Tryz.prog 181 [.str t] (.int .u32 (jo t:Nat)):=by
 refine Cod.Hv (λE R hN hR=>?_);have hw:=Hy t ht;have hs:=Hw t;refine wW ?_;refine aI [(125003,.var [.int .u32 0,.int .u32 0])] hw vV nofun ?_;rintro h' v ar ⟨rfl,rfl,rfl⟩;refine⟨vV,rfl,?_⟩;refine wW ?_;refine aI [(125003,.var [.int .u32 (ic (cS t).1:Nat),.int .u32 ((cS t).2:Nat)])] hs vV nofun ?_;rintro h' v ar ⟨rfl,rfl,rfl⟩;refine⟨vV,rfl,?_⟩;refine wW ?_;exact hR.ro ⟨rfl,rfl⟩
theorem Xv (t:Bs) (ht:t.length<=1000000000):ao Tryz.prog 147 [.str t] (.int .u32 (jo t:Nat)):=by
 refine Cod.Xw (λE R hN hR=>?_);refine wW ?_;refine aD hN (λk:Nat=>⟨[(0,.str t),(3,.int .i64 ((cS (t.take k)).1:Nat)),(4,.int .i64 ((cS (t.take k)).2:Nat)),(5,.int .i64 k)],[]⟩) (λk=>k<=t.length) (λk=>t.length-k) 0 (.le (by simp(disch:=omega)only[go_sem,simprocAttr];simp[cS])) acN ?_;rintro k R1 hk hR1;by_cases hlt:k<t.length
 ·have hct:=vq t hlt;have hxl:=pL (t.take k);generalize cS (t.take k)=x at *
  have hbl:=(t.getD k 0).toNat_lt;obtain⟨xa,xb⟩:=x;simp only at hxl;have hc1:(cS (t.take (k+1))).1=(xa+(t.getD k 0).toNat)%65521:=by rw[hct];rfl
  have hc2:(cS (t.take (k+1))).2=(xb+(xa+(t.getD k 0).toNat)%65521)%65521:=by rw[hct];rfl
  generalize hb:(t.getD k 0).toNat=b at *
  have e1:((xa:Int)+(b:Int)).tmod 65521=(((xa+b)%65521:Nat):Int):=by rw[gh acN];omega
  have e2:((xb:Int)+(((xa+b)%65521:Nat):Int)).tmod 65521=(((xb+(xa+b)%65521)%65521:Nat):Int):=by rw[gh acN];omega
  refine bp hb e1 e2 ?_;exact hR1 (k+1) _ acN acN (.le (jQ hc1 hc2))
 ·obtain rfl:k=t.length:=acN;rw[acP (acT _)];have hl:=pL t;unfold jo at hR;generalize cS t=x at *
  obtain⟨xa,xb⟩:=x;simp only at hl hR |-;have e1:(65536:Int)*(xb:Int)+(xa:Int)=((65536*xb+xa:Nat):Int):=acN;refine ab e1 ?_;exact hR.ro ⟨rfl,rfl⟩
def cU (t:Bs):Nat:=t.foldl (λx c=>256*x+c.toNat) 0
theorem vL (t:Bs) {k:Nat} (h:k<t.length):cU (t.take (k+1))=256*cU (t.take k)+(t.getD k 0).toNat:=by
 rw[mE t h];simp[cU]
theorem sb (t:Bs):∀k,k<=t.length->cU (t.take k)<256^k
 | 0,_=>by rw[adI];decide
 | k+1,h=>by
  have ih:=sb t k acN;have hb:=(t.getD k 0).toNat_lt;rw[vL t h,ad2];omega
theorem Ar (t:Bs) {k:Nat} (h:k<=t.length) (h7:t.length<=6):cU (t.take k)<281474976710656:=by
 have h1:=sb t k h;have h2:256^k<=256^6:=acV (by decide) acN;exact ac3 h1 h2
theorem US {x b:Nat} (hx:x<281474976710656) (hb:b<256):bits .or .u64 (IntKind.u64.wrap ((x:Int)*2^min 8 64)) (b:Int)=((256*x+b:Nat):Int):=by
 have h1:((x:Int)*2^min 8 64)=((x*256:Nat):Int):=by
  rw[show((2:Int)^min 8 64)=256 by decide];omega
 rw[h1,wrap_u64 acN]
 show IntKind.u64.wrap ((BitVec.ofInt 64 ((x*256:Nat):Int) ||| BitVec.ofInt 64 (b:Int)).toNat:Int)=_
 rw[ac2,ac2,adZ,ac1,ac1,acY acN,acY acN]
 have h2:x*256 ||| b=256*x+b:=by
  have h3:=adu (b:=b) (i:=8) acN x;rw[adD,show(2:Nat)^8=256 by decide]at h3;omega
 rw[h2];exact wrap_u64 acN
theorem UT {x b:Nat} (hx:x<281474976710656) (hb:b<256):bits .or .i64 (IntKind.i64.wrap ((x:Int)*2^min 8 64)) (b:Int)=((256*x+b:Nat):Int):=by
 have h1:((x:Int)*2^min 8 64)=((x*256:Nat):Int):=by
  rw[show((2:Int)^min 8 64)=256 by decide];omega
 rw[h1,eE acN]
 show IntKind.i64.wrap ((BitVec.ofInt 64 ((x*256:Nat):Int) ||| BitVec.ofInt 64 (b:Int)).toNat:Int)=_
 rw[ac2,ac2,adZ,ac1,ac1,acY acN,acY acN]
 have h2:x*256 ||| b=256*x+b:=by
  have h3:=adu (b:=b) (i:=8) acN x;rw[adD,show(2:Nat)^8=256 by decide]at h3;omega
 rw[h2];exact eE acN
theorem wX (t:Bs) (ht:t.length<=6):ao Tryz.prog 73 [.str t] (.int .u64 (cU t:Nat)):=by
 refine Cod.N5 (λE R hN hR=>?_);refine wW ?_;refine aD hN (λk:Nat=>⟨[(0,.str t),(3,.int .u64 (cU (t.take k):Nat)),(6,.int .i64 t.length),(7,.int .i64 k)],[]⟩) (λk=>k<=t.length) (λk=>t.length-k) 0 (.le (by simp(disch:=omega)only[go_sem,simprocAttr];simp[cU])) acN ?_;rintro k R1 hk hR1;by_cases hlt:k<t.length
 ·have hct:=vL t hlt;have hxl:=Ar t hk ht;have hbl:=(t.getD k 0).toNat_lt;have ho:=US hxl hbl;generalize cU (t.take k)=x at *
  refine ab ho ?_;exact hR1 (k+1) _ acN acN (.le (cn hct))
 ·obtain rfl:k=t.length:=acN;rw[acP (acT _)];refine wW ?_;exact hR.ro ⟨rfl,rfl⟩
theorem Yz (t:Bs) (ht:t.length<=6):ao Tryz.prog 95 [.str t] (.int .u64 (cU t:Nat)):=by
 refine Cod.FA (λE R hN hR=>?_);refine wW ?_;refine aD hN (λk:Nat=>⟨[(0,.str t),(3,.int .u64 (cU (t.take k):Nat)),(4,.int .i64 k)],[]⟩) (λk=>k<=t.length) (λk=>t.length-k) 0 (.le (by simp(disch:=omega)only[go_sem,simprocAttr];simp[cU])) acN ?_;rintro k R1 hk hR1;by_cases hlt:k<t.length
 ·have hct:=vL t hlt;have hxl:=Ar t hk ht;have hbl:=(t.getD k 0).toNat_lt;generalize cU (t.take k)=x at *
  refine wW ?_;exact hR1 (k+1) _ acN acN (.le (cn hct))
 ·obtain rfl:k=t.length:=acN;rw[acP (acT _)];refine wW ?_;exact hR.ro ⟨rfl,rfl⟩
def ig (x n:Nat):Bs:=(List.range n).map λi=>UInt8.ofNat (x/256^i%256)
theorem DF (x n:Nat):(ig x n).length=n:=by simp[ig]
theorem SJ (x n:Nat):ig x (n+1)=ig x n++[UInt8.ofNat (x/256^n%256)]:=by simp[ig,ael]
theorem Yt (x n:Nat) (hx:x<9223372036854775808) (hn:n<=1000):ao Tryz.prog 202 [.int .u64 x,.int .i64 n] (.str (ig x n)):=by
 refine Cod.Yu (λE R hN hR=>?_);refine wW ?_;refine aD hN (λk:Nat=>⟨[(0,.int .u64 (x/256^k:Nat)),(1,.int .i64 n),(5,.sl 130007 0 k),(6,.int .i64 k)],[(130007,.arr 1 ((ig x k).map ub))]⟩) (λk=>k<=n) (λk=>n-k) 0 (.le (by simp(disch:=omega)only[go_sem,simprocAttr];simp[ig])) acN ?_;rintro k R1 hk hR1;have hl:=DF x k;by_cases hlt:k<n
 ·have hct:=SJ x k;have hd:x/256^k<=x:=aez _ _;have hR1':=λst'=>hR1 (k+1) st' acN acN;have hp:x/256^(k+1)=x/256^k/256:=by rw[ad2,aen]
  rw[hp]at hR1' ;generalize x/256^k=x1 at *
  have e1:((x1:Nat):Int).tmod 256=((x1%256:Nat):Int):=by rw[gh acN];omega
  have e2:((x1:Nat):Int).tdiv 256=((x1/256:Nat):Int):=by rw[la acN];omega
  have e3:((x1%256:Nat):Int)=((UInt8.ofNat (x1%256)).toNat:Int):=by rw[aeb];omega
  have hu:=(UInt8.ofNat (x1%256)).toNat_lt;rw[e3]at e1;generalize UInt8.ofNat (x1%256)=c at *
  refine aE e1 e2 ?_;exact hR1' _ (.le (by rw[hct];simp(disch:=omega)only[go_sem,simprocAttr];simp[ub]))
 ·obtain rfl:k=n:=acN;refine wW ?_;exact hR.wk (h':=[]) (r':=.str (ig x k)) (ar':=[.undef,.undef]) rfl (.le vV) ⟨rfl,rfl⟩
theorem Yg (t:Bs) {k:Nat} (h:k<t.length):t.reverse.take (k+1)=t.reverse.take k++[t.getD (t.length-1-k) 0]:=by
 rw[mE t.reverse (by simpa using h),acO,List.getElem?_reverse h,acO]
theorem Wu (t:Bs) (ht:t.length<=1000000):ao Tryz.prog 201 [.str t] (.str t.reverse):=by
 refine Cod.Wv (λE R hN hR=>?_);refine wW ?_;refine aD hN (λk:Nat=>⟨[(0,.str t),(3,.sl 131005 0 k),(4,.int .i64 ((t.length:Int)-1-(k:Int)))],[(131005,.arr 1 ((t.reverse.take k).map ub))]⟩) (λk=>k<=t.length) (λk=>t.length-k) 0 (.le vV) acN ?_;rintro k R1 hk hR1;have hl:(t.reverse.take k).length=k:=by rw[acS,aek];omega
 by_cases hlt:k<t.length
 ·have hct:=Yg t hlt;have ei:(t.length:Int)-1-(k:Int)=((t.length-1-k:Nat):Int):=acN;have ei2:(t.length:Int)-1-(k:Int)-1=(t.length:Int)-1-((k+1:Nat):Int):=acN;have hu:=(t.getD (t.length-1-k) 0).toNat_lt;rw[ei];refine wW ?_;refine hR1 (k+1) _ acN acN (.le ?_);rw[hct,show((t.length:Int)-1-((k+1:Nat):Int))=((t.length-1-k:Nat):Int)-1 by omega];refine wW ?_;simp[ub]
 ·obtain rfl:k=t.length:=acN;rw[acP (by rw[aek];omega)]at hl |-;have ei:(t.length:Int)-1-(t.length:Int) = -1:=acN;rw[ei];refine wW ?_;exact hR.wk (h':=[]) (r':=.str t.reverse) (ar':=[.undef]) rfl (.le vV) ⟨rfl,rfl⟩
theorem XD (x n:Nat) (hx:x<9223372036854775808) (hn:n<=1000):ao Tryz.prog 146 [.int .u64 x,.int .i64 n] (.str (ig x n).reverse):=by
 refine Cod.XE (λE R hN hR=>?_);have h1:=Yt x n hx hn;have h2:=Wu (ig x n) (by rw[DF];omega);refine wW ?_;refine ah h1 rfl rfl ?_;refine wW ?_;refine ah h2 rfl rfl ?_;refine wW ?_;exact hR.ro ⟨rfl,rfl⟩
theorem Au (u:Bs) (hu:u.length=4) (v:Nat) (hv:v<4294967296):cU u=v↔u=(ig v 4).reverse:=by
 obtain⟨a,b,c,d,rfl⟩:∃a b c d,u=[a,b,c,d]:=by
  match u,hu with
  | [a,b,c,d],_=>exact⟨a,b,c,d,rfl⟩
 have ha:=a.toNat_lt;have hb:=b.toNat_lt;have hc:=c.toNat_lt;have hd:=d.toNat_lt;have e1:cU [a,b,c,d]=256*(256*(256*a.toNat+b.toNat)+c.toNat)+d.toNat:=by simp[cU]
 have e2:(ig v 4).reverse=[UInt8.ofNat (v/16777216%256),UInt8.ofNat (v/65536%256),UInt8.ofNat (v/256%256),UInt8.ofNat (v%256)]:=by simp[ig,ael]
 rw[e1,e2];constructor
 ·intro h;have f:∀(x:UInt8) (n:Nat),x.toNat=n->x=UInt8.ofNat n:=λx n h=>by rw[<-h,ae6]
  rw[f a _ (show a.toNat=v/16777216%256 by omega),f b _ (show b.toNat=v/65536%256 by omega),f c _ (show c.toNat=v/256%256 by omega),f d _ (show d.toNat=v%256 by omega)]
 ·intro h;simp only[List.cons.injEq,and_true]at h;obtain⟨rfl,rfl,rfl,rfl⟩:=h;simp only[aeb];omega
def lz (a b:Nat):Bool:=decide (a%16=8)&&(decide (a/16<=7)&&(decide ((256*a+b)%31=0)&&decide (b/32%2=0)))
theorem HW {b:Nat} (h:b<256):bits .and .u8 (b:Int) 32=((b/32%2*32:Nat):Int):=by
 have:∀b:Nat,b<256->bits .and .u8 (b:Int) 32=((b/32%2*32:Nat):Int):=by decide +kernel
 exact this b h
theorem acD (a b:UInt8):ao Tryz.prog 179 [.int .u8 a.toNat,.int .u8 b.toNat] (.bool (lz a.toNat b.toNat)):=by
 refine Cod.acE (λE R hN hR=>?_);have ha:=a.toNat_lt;have hb:=b.toNat_lt;have e1:=GM a;have e2:=GL a;have e3:=UT (x:=a.toNat) (b:=b.toNat) acN hb;have e4:((256*a.toNat+b.toNat:Nat):Int).tmod 31=(((256*a.toNat+b.toNat)%31:Nat):Int):=by rw[gh acN];omega
 have e5:=HW hb;unfold lz at hR;generalize a.toNat=x at *
 generalize b.toNat=y at *
 by_cases h1:x%16=8
 ·by_cases h2:x/16<=7
  ·by_cases h3:(256*x+y)%31=0
   ·by_cases h4:y/32%2=0
    ·rw[decide_eq_true h1,decide_eq_true h2,decide_eq_true h3,decide_eq_true h4]at hR;rw[h1]at e1;rw[h3]at e4;rw[h4]at e5;refine cN e1 e2 e3 e4 e5 ?_;refine oP e1 e2 e3 e4 e5 ?_;exact hR.ro ⟨rfl,rfl⟩
    ·rw[decide_eq_true h1,decide_eq_true h2,decide_eq_true h3,decide_eq_false h4]at hR;rw[h1]at e1;rw[h3]at e4;rw[show y/32%2=1 by omega]at e5;refine cN e1 e2 e3 e4 e5 ?_;refine oP e1 e2 e3 e4 e5 ?_;exact hR.ro ⟨rfl,rfl⟩
   ·rw[decide_eq_true h1,decide_eq_true h2,decide_eq_false h3]at hR;rw[h1]at e1;have hi:¬(((256*x+y)%31:Nat):Int)=0:=acN;refine cN e1 e2 e3 e4 hi ?_;refine oP e1 e2 e3 e4 hi ?_;exact hR.ro ⟨rfl,rfl⟩
  ·rw[decide_eq_true h1,decide_eq_false h2]at hR;rw[h1]at e1;have hi:¬((x/16:Nat):Int)<=7:=acN;refine bp e1 e2 hi ?_;refine gy e1 e2 hi ?_;exact hR.ro ⟨rfl,rfl⟩
 ·rw[decide_eq_false h1]at hR;have hi:¬((x%16:Nat):Int)=8:=acN;refine aE e1 hi ?_;refine cO e1 hi ?_;exact hR.ro ⟨rfl,rfl⟩
theorem W9 (x y:Nat) (hx:x<256) (hy:y<256):ao Tryz.prog 144 [.int .i64 x,.int .i64 y] (.bool (lz x y)):=by
 refine Cod.Xa (λE R hN hR=>?_);have e1:(x:Int).tmod 16=((x%16:Nat):Int):=by rw[gh acN];omega
 have e2:(x:Int).tdiv 16=((x/16:Nat):Int):=by rw[la acN];omega
 have e4:(256*(x:Int)+(y:Int)).tmod 31=(((256*x+y)%31:Nat):Int):=by rw[gh acN];omega
 have e5:(y:Int).tdiv 32=((y/32:Nat):Int):=by rw[la acN];omega
 have e6:((y/32:Nat):Int).tmod 2=((y/32%2:Nat):Int):=by rw[gh acN];omega
 unfold lz at hR;by_cases h1:x%16=8
 ·by_cases h2:x/16<=7
  ·by_cases h3:(256*x+y)%31=0
   ·by_cases h4:y/32%2=0
    ·rw[decide_eq_true h1,decide_eq_true h2,decide_eq_true h3,decide_eq_true h4]at hR;rw[h1]at e1;rw[h3]at e4;rw[h4]at e6;refine cN e1 e2 e4 e5 e6 ?_;refine oP e1 e2 e4 e5 e6 ?_;exact hR.ro ⟨rfl,rfl⟩
    ·rw[decide_eq_true h1,decide_eq_true h2,decide_eq_true h3,decide_eq_false h4]at hR;rw[h1]at e1;rw[h3]at e4;rw[show y/32%2=1 by omega]at e6;refine cN e1 e2 e4 e5 e6 ?_;refine oP e1 e2 e4 e5 e6 ?_;exact hR.ro ⟨rfl,rfl⟩
   ·rw[decide_eq_true h1,decide_eq_true h2,decide_eq_false h3]at hR;rw[h1]at e1;have hi:¬(((256*x+y)%31:Nat):Int)=0:=acN;refine bV e1 e2 e4 hi ?_;refine kJ e1 e2 e4 hi ?_;exact hR.ro ⟨rfl,rfl⟩
  ·rw[decide_eq_true h1,decide_eq_false h2]at hR;rw[h1]at e1;have hi:¬((x/16:Nat):Int)<=7:=acN;refine bp e1 e2 hi ?_;refine gy e1 e2 hi ?_;exact hR.ro ⟨rfl,rfl⟩
 ·rw[decide_eq_false h1]at hR;have hi:¬((x%16:Nat):Int)=8:=acN;refine aE e1 hi ?_;refine cO e1 hi ?_;exact hR.ro ⟨rfl,rfl⟩
end Go.Proofs.YtoalcafkffmiiaaGreatDoor.Pk
namespace Go.Proofs.YtoalcafkffmiiaaGreatDoor.Cod
open Eng Eng.Kz
set_option maxRecDepth 100000
abbrev JR:=Kf.s2 40 Tryz.func214
abbrev Ns:=Kf.k2 41 Tryz.func260
abbrev Vt:=Kf.k2 42 Tryz.func241
abbrev ZI:=Kf.k2 43 Tryz.func242
abbrev XF:=Kf.k2 44 Tryz.func230
abbrev Xy:=Kf.k1 45 Tryz.func261
abbrev XG:=Kf.k2 46 Tryz.func243
abbrev Y8:=Kf.k1 47 Tryz.func216
abbrev Ys:=Kf.k1 48 Tryz.func245
abbrev Pa:=Kf.s1 49 Tryz.func246
abbrev Pd:=Kf.k2 50 Tryz.func234
abbrev Wx:=Kf.s1 51 Tryz.func193
abbrev Wz:=Kf.s1 52 Tryz.func222
abbrev WA:=Kf.s1 53 Tryz.func200
abbrev WC:=Kf.s1 54 Tryz.func227
abbrev WD:=Kf.s1 55 Tryz.func224
abbrev WB:=Kf.s2 56 Tryz.func259
abbrev WG:=Kf.s2 57 Tryz.func240
end Go.Proofs.YtoalcafkffmiiaaGreatDoor.Cod
