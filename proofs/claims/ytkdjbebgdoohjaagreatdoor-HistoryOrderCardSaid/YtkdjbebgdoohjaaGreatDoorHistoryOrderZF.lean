/- The proof, part 32 of 50. -/
import Derived.Test.YtkdjbebgdoohjaaGreatDoorHistoryOrderS
import Derived.Test.YtkdjbebgdoohjaaGreatDoorProg
set_option linter.all false
namespace Go.Proofs.YtkdjbebgdoohjaaGreatDoor.Cod
open Eng Eng.Kz
set_option maxRecDepth 100000
abbrev MV:=Kf.s2 290 Tryz.func8
abbrev MP:=Kf.s3 291 Tryz.func7
abbrev MU:=Kf.s4 292 Tryz.func9
abbrev MW:=Kf.s2 293 Tryz.func17
abbrev Nd:=Kf.s2 294 Tryz.func45
abbrev MS:=Kf.r3 295 Tryz.func14
abbrev GO:=Kf.s0 296 Tryz.func5
abbrev H4:=Kf.s1 297 Tryz.func4
abbrev Y6:=Kf.s1 298 Tryz.func6
abbrev Nl:=Kf.s2 299 Tryz.func3
open Eng Eng.Kz
set_option maxRecDepth 100000
abbrev Js:=Kf.k2 120 Tryz.func165
abbrev Jq:=Kf.k1 121 Tryz.func166
abbrev Jn:=Kf.s1 122 Tryz.func137
abbrev FA:=Kf.k2 123 Tryz.func182
abbrev Fy:=Kf.k1 124 Tryz.func183
abbrev Fw:=Kf.s1 125 Tryz.func159
abbrev L4:=Kf.s1 126 Tryz.func60
abbrev Dy:=Kf.s1 133 Tryz.func56
abbrev Zp:=Kf.s2 134 Tryz.func157
abbrev ZB:=Kf.s3 135 Tryz.func131
end Go.Proofs.YtkdjbebgdoohjaaGreatDoor.Cod
namespace Go.Proofs.YtkdjbebgdoohjaaGreatDoor.Pk
open Eng Sh
set_option maxRecDepth 10000
def lp:W:=3988292384#32
def qY (c:W):W:=(c >>> 1) ^^^ (lp &&& -(c &&& 1#32))
def crcIt (c:W):Nat->W
 | 0=>c
 | i+1=>qY (crcIt c i)
def qZ (c:W) (b:UInt8):W:=crcIt (c ^^^ BitVec.ofNat 32 b.toNat) 8
def ka (c:W) (t:Bs):W:=t.foldl qZ c
def wS:W:=4294967295#32
def oU (t:Bs):W := ~~~ (ka wS t)
def jM (r B:W):Nat->W
 | 0=>r
 | i+1=>if(jM r B i ^^^ (B >>> i)) &&& 1#32=1#32 then(jM r B i >>> 1) ^^^ lp else jM r B i >>> 1
theorem and_one (y:W):y &&& 1#32=if(y &&& 1#32)=1#32 then 1#32 else 0#32:=by
 split
 ·assumption
 ·rename_i h
  have h1:(y &&& 1#32).toNat=y.toNat%2:=by
   rw[aaQ,show(1#32).toNat=2^1-1 from rfl,aam]
  apply abm;rw[h1];have h2:¬y.toNat%2=1:=λh3=>h (abm (by rw[h1,h3];rfl))
  show y.toNat%2=0
  omega
theorem zM (r B:W):∀i,crcIt (r ^^^ B) i=jM r B i ^^^ (B >>> i)
 | 0=>by simp[crcIt,jM]
 | i+1=>by
  have ih:=zM r B i;unfold crcIt jM qY;rw[ih,and_one]
  have hs:(jM r B i ^^^ B >>> i) >>> 1=(jM r B i >>> 1) ^^^ (B >>> (i+1)):=by
   rw[BitVec.ushiftRight_xor_distrib,BitVec.shiftRight_add]
  rw[hs];by_cases h:(jM r B i ^^^ B >>> i) &&& 1#32=1#32
  ·rw[if_pos h,if_pos rfl];have e:lp &&& -1#32=lp:=by decide
   rw[e,BitVec.xor_assoc,BitVec.xor_comm (B >>> (i+1)),<-BitVec.xor_assoc]
  ·rw[if_neg h,if_neg (by decide)];have e:lp &&& -0#32=0#32:=by decide
   rw[e,BitVec.xor_zero]
theorem ZC (r:W) (b:UInt8):jM r (BitVec.ofNat 32 b.toNat) 8=qZ r b:=by
 have h:=zM r (BitVec.ofNat 32 b.toNat) 8
 have e:(BitVec.ofNat 32 b.toNat) >>> 8=0#32:=by
  apply abm;have:=b.toNat_lt;rw[abW,ZT,ZO ZG,aa2]
  show b.toNat/256=0
  omega
 rw[e,BitVec.xor_zero]at h;exact h.symm
theorem Jo (c:W) (t:Bs) {k:Nat} (h:k<t.length):ka c (t.take (k+1))=qZ (ka c (t.take k)) (t.getD k 0):=by
 rw[mz t h];simp[ka]
theorem YR (x:W):IntKind.u32.wrap (0-(x.toNat:Int))=((-x).toNat:Int):=by
 have hx:=x.isLt
 show(0-(x.toNat:Int))%4294967296=_
 rw[BitVec.toNat_neg];omega
theorem X8 (b:UInt8):(b.toNat:Int)=((BitVec.ofNat 32 b.toNat).toNat:Int):=by
 have:=b.toNat_lt;rw[ZT,ZO ZG]
theorem Jr (c:W) (t:Bs) (ht:t.length<=1000000000):Eng.Spec Tryz.prog 165 [(122003,.var [.int .u32 c.toNat])] [.aa 122003 0,.str t]
    (λh' v ar=>h'=[(122003,.var [.int .u32 (~~~ (ka (~~~ c) t)).toNat])]/\v=.ab []/\ar=[.aa 122003 0,.str t]):=by
 refine Cod.Js (λE R hN hR=>?_);have hnot:∀x:W,bits .xor .u32 (if IntKind.u32.signed=true then -1 else IntKind.u32.max) (x.toNat:Int)=((~~~x).toNat:Int):=λx=>EU x
 refine ah hnot ?_;refine aP hN (λk:Nat=>⟨[(0,.aa 122003 0),(1,.str t),(4,.int .u32 (ka (~~~ c) (t.take k)).toNat),(12,.int .i64 t.length),(13,.int .i64 k),(2000000,.aa 122003 0),(2000001,.str t)],[(122003,.var [.int .u32 c.toNat])]⟩) (λk=>k<=t.length) (λk=>t.length-k) 0 (.le (by simp(disch:=omega)only[go_sem,simprocAttr];simp[ka])) ZG ?_;rintro k R1 hk hR1;by_cases hlt:k<t.length
 ·have hct:=Jo (~~~ c) t hlt;generalize ka (~~~ c) (t.take k)=x at *
  have hb:=X8 (t.getD k 0);have hx:=dP x (BitVec.ofNat 32 (t.getD k 0).toNat);rw[<-hb]at hx;have hbl:=(t.getD k 0).toNat_lt;refine ah hx ?_;refine aP hN (λi:Nat=>⟨[(0,.aa 122003 0),(1,.str t),(4,.int .u32 (crcIt (x ^^^ BitVec.ofNat 32 (t.getD k 0).toNat) i).toNat),(12,.int .i64 t.length),(13,.int .i64 k),(22,.int .i64 i),(2000000,.aa 122003 0),(2000001,.str t)],[(122003,.var [.int .u32 c.toNat])]⟩) (λi=>i<=8) (λi=>8-i) 0 (.le (by simp(disch:=omega)only[go_sem,simprocAttr,crcIt])) ZG ?_;rintro i R2 hi hR2;by_cases hlt8:i<8
  ·have hst:crcIt (x ^^^ BitVec.ofNat 32 (t.getD k 0).toNat) (i+1)=qY (crcIt (x ^^^ BitVec.ofNat 32 (t.getD k 0).toNat) i):=rfl;generalize crcIt (x ^^^ BitVec.ofNat 32 (t.getD k 0).toNat) i=y at *
   have e1:(y.toNat:Int).fdiv (2^min 1 32)=(y >>> 1).toNat:=EX y 1;have e2:bits .and .u32 y.toNat 1=(y &&& 1#32).toNat:=fe y 1#32;have e3:=YR (y &&& 1#32);have e4:bits .and .u32 3988292384 (-(y &&& 1#32)).toNat=(lp &&& -(y &&& 1#32)).toNat:=fe lp _;have e5:=dP (y >>> 1) (lp &&& -(y &&& 1#32));refine cM e1 e2 e3 e4 e5 ?_;exact hR2 (i+1) _ ZG ZG (.le (by simp(disch:=omega)only[go_sem,simprocAttr,hst,qY]))
  ·obtain rfl:i=8:=ZG;refine wW ?_;exact hR1 (k+1) _ ZG ZG (.le (by simp(disch:=omega)only[go_sem,simprocAttr,hct,qZ]))
 ·obtain rfl:k=t.length:=ZG;rw[ZK (ZM _)];refine ah hnot ?_;exact hR.le vV ⟨rfl,rfl,rfl⟩
theorem Jp (c:W):Eng.Spec Tryz.prog 166 [(122003,.var [.int .u32 c.toNat])] [.aa 122003 0] (λh' v ar=>h'=[(122003,.var [.int .u32 c.toNat])]/\v=.int .u32 c.toNat/\ar=[.aa 122003 0]):=by
 refine Cod.Jq (λE R hN hR=>?_);refine wW ?_;exact hR.le vV ⟨rfl,rfl,rfl⟩
theorem Jm (t:Bs) (ht:t.length<=1000000000):aw Tryz.prog 137 [.str t] (.int .u32 (oU t).toNat):=by
 refine Cod.Jn (λE R hN hR=>?_);have hw:=Jr 0#32 t ht;rw[show ~~~ (0#32:W)=wS by decide,show ~~~ (ka wS t)=oU t from rfl]at hw;have hs:=Jp (oU t);refine wW ?_;refine aW [(122003,.var [.int .u32 (0#32).toNat])] hw vV nofun ?_;rintro h' v ar ⟨rfl,rfl,rfl⟩;refine⟨vV,rfl,?_⟩;refine wW ?_;refine aW [(122003,.var [.int .u32 (oU t).toNat])] hs vV nofun ?_;rintro h' v ar ⟨rfl,rfl,rfl⟩;refine⟨vV,rfl,?_⟩;refine wW ?_;exact hR.ro ⟨rfl,rfl⟩
open Eng Sh
set_option maxRecDepth 10000
def qE (p:Nat×Nat) (c:UInt8):Nat×Nat:=((p.1+c.toNat)%65521,(p.2+(p.1+c.toNat)%65521)%65521)
def c6 (t:Bs):Nat×Nat:=t.foldl qE (1,0)
def lL (t:Bs):Nat:=65536*(c6 t).2+(c6 t).1
theorem yy (t:Bs) {k:Nat} (h:k<t.length):c6 (t.take (k+1))=qE (c6 (t.take k)) (t.getD k 0):=by
 rw[mz t h];simp[c6]
theorem Ft (p:Nat×Nat) (c:UInt8):(qE p c).1<65521/\(qE p c).2<65521:=⟨aaM _ (by decide),aaM _ (by decide)⟩
theorem uq (t:Bs):(c6 t).1<65521/\(c6 t).2<65521:=by
 have:∀k,k<=t.length->(c6 (t.take k)).1<65521/\(c6 (t.take k)).2<65521:=by
  intro k
  cases k with
  | zero=>intro _;rw[aaU];decide
  | succ k=>intro h;rw[yy t h];exact Ft _ _
 have h:=this t.length (ZM _)
 rwa[ZK (ZM _)]at h
theorem Fu (t:Bs):lL t<4294967296:=by
 have:=uq t;unfold lL;omega
def fL (a:Nat):Nat:=(a+65520)%65521
theorem Fz (t:Bs) (ht:t.length<=1000000000):Eng.Spec Tryz.prog 182 [(125003,.var [.int .u32 0,.int .u32 0])] [.aa 125003 0,.str t]
    (λh' v ar=>h'=[(125003,.var [.int .u32 (fL (c6 t).1:Nat),.int .u32 ((c6 t).2:Nat)])]/\v=.ab []/\ar=[.aa 125003 0,.str t]):=by
 refine Cod.FA (λE R hN hR=>?_);refine wW ?_;refine aP hN (λk:Nat=>⟨[(0,.aa 125003 0),(1,.str t),(6,.int .i64 t.length),(7,.int .i64 k),(2000000,.aa 125003 0),(2000001,.str t)],[(125003,.var [.int .u32 (fL (c6 (t.take k)).1:Nat),.int .u32 ((c6 (t.take k)).2:Nat)])]⟩) (λk=>k<=t.length) (λk=>t.length-k) 0 (.le (by simp(disch:=omega)only[go_sem,simprocAttr];simp[c6,fL])) ZG ?_;rintro k R1 hk hR1;by_cases hlt:k<t.length
 ·have hct:=yy t hlt;have hxl:=uq (t.take k);generalize c6 (t.take k)=x at *
  have hbl:=(t.getD k 0).toNat_lt;obtain⟨xa,xb⟩:=x;simp only at hxl;have hc1:(c6 (t.take (k+1))).1=(xa+(t.getD k 0).toNat)%65521:=by rw[hct];rfl
  have hc2:(c6 (t.take (k+1))).2=(xb+(xa+(t.getD k 0).toNat)%65521)%65521:=by rw[hct];rfl
  generalize hb:(t.getD k 0).toNat=b at *
  have l1:fL xa<65521:=aaM _ (by decide)
  have e2:(((fL xa:Nat):Int)+(b:Int)).tmod 65521=((fL ((xa+b)%65521):Nat):Int):=by
   rw[mA ZG];unfold fL;omega
  have e3:(((xb:Nat):Int)+((fL ((xa+b)%65521):Nat):Int)+1).tmod 65521=(((xb+(xa+b)%65521)%65521:Nat):Int):=by
   rw[mA ZG];unfold fL;omega
  have l2:fL ((xa+b)%65521)<65521:=aaM _ (by decide);refine bU hb e2 e3 ?_;exact hR1 (k+1) _ ZG ZG (.le (nY hc1 hc2))
 ·obtain rfl:k=t.length:=ZG;rw[ZK (ZM _)];refine wW ?_;exact hR.le vV ⟨rfl,rfl,rfl⟩
theorem SJ {a b:Nat} (ha:a<65536) (hb:b<65536):bits .or .u32 (IntKind.u32.wrap ((b:Int)*2^min 16 32)) (a:Int)=((65536*b+a:Nat):Int):=by
 have h1:((b:Int)*2^min 16 32)=((b*65536:Nat):Int):=by
  rw[show((2:Int)^min 16 32)=65536 by decide];omega
 rw[h1,wrap_u32 ZG]
 show IntKind.u32.wrap ((BitVec.ofInt 32 ((b*65536:Nat):Int) ||| BitVec.ofInt 32 (a:Int)).toNat:Int)=_
 rw[ZU,ZU,aaG,ZT,ZT,ZO ZG,ZO ZG]
 have h2:b*65536 ||| a=65536*b+a:=by
  have h3:=aab (b:=a) (i:=16) ZG b;rw[aao,show(2:Nat)^16=65536 by decide]at h3;omega
 rw[h2];exact wrap_u32 ZG
theorem Fx (t:Bs):Eng.Spec Tryz.prog 183 [(125003,.var [.int .u32 (fL (c6 t).1:Nat),.int .u32 ((c6 t).2:Nat)])] [.aa 125003 0]
    (λh' v ar=>h'=[(125003,.var [.int .u32 (fL (c6 t).1:Nat),.int .u32 ((c6 t).2:Nat)])]/\v=.int .u32 (lL t:Nat)/\ar=[.aa 125003 0]):=by
 refine Cod.Fy (λE R hN hR=>?_);have hl:=uq t;unfold lL at hR;generalize c6 t=x at *
 obtain⟨xa,xb⟩:=x;simp only at hl hR |-;have l1:fL xa<65521:=aaM _ (by decide)
 have e1:(((fL xa:Nat):Int)+1).tmod 65521=((xa:Nat):Int):=by
  rw[mA ZG];unfold fL;omega
 have e2:=SJ (a:=xa) (b:=xb) ZG ZG;refine aE e1 e2 ?_;exact hR.le vV ⟨rfl,rfl,rfl⟩
theorem Fv (t:Bs) (ht:t.length<=1000000000):aw Tryz.prog 159 [.str t] (.int .u32 (lL t:Nat)):=by
 refine Cod.Fw (λE R hN hR=>?_);have hw:=Fz t ht;have hs:=Fx t;refine wW ?_;refine aW [(125003,.var [.int .u32 0,.int .u32 0])] hw vV nofun ?_;rintro h' v ar ⟨rfl,rfl,rfl⟩;refine⟨vV,rfl,?_⟩;refine wW ?_;refine aW [(125003,.var [.int .u32 (fL (c6 t).1:Nat),.int .u32 ((c6 t).2:Nat)])] hs vV nofun ?_;rintro h' v ar ⟨rfl,rfl,rfl⟩;refine⟨vV,rfl,?_⟩;refine wW ?_;exact hR.ro ⟨rfl,rfl⟩
def ct (t:Bs):Nat:=t.foldl (λx c=>256*x+c.toNat) 0
theorem uG (t:Bs) {k:Nat} (h:k<t.length):ct (t.take (k+1))=256*ct (t.take k)+(t.getD k 0).toNat:=by
 rw[mz t h];simp[ct]
theorem qP (t:Bs):∀k,k<=t.length->ct (t.take k)<256^k
 | 0,_=>by rw[aaU];decide
 | k+1,h=>by
  have ih:=qP t k ZG;have hb:=(t.getD k 0).toNat_lt;rw[uG t h,abR];omega
theorem y8 (t:Bs) {k:Nat} (h:k<=t.length) (h7:t.length<=6):ct (t.take k)<281474976710656:=by
 have h1:=qP t k h;have h2:256^k<=256^6:=ZY (by decide) ZG;exact ZV h1 h2
theorem SL {x b:Nat} (hx:x<281474976710656) (hb:b<256):bits .or .u64 (IntKind.u64.wrap ((x:Int)*2^min 8 64)) (b:Int)=((256*x+b:Nat):Int):=by
 have h1:((x:Int)*2^min 8 64)=((x*256:Nat):Int):=by
  rw[show((2:Int)^min 8 64)=256 by decide];omega
 rw[h1,wrap_u64 ZG]
 show IntKind.u64.wrap ((BitVec.ofInt 64 ((x*256:Nat):Int) ||| BitVec.ofInt 64 (b:Int)).toNat:Int)=_
 rw[ZU,ZU,aaG,ZT,ZT,ZO ZG,ZO ZG]
 have h2:x*256 ||| b=256*x+b:=by
  have h3:=aab (b:=b) (i:=8) ZG x;rw[aao,show(2:Nat)^8=256 by decide]at h3;omega
 rw[h2];exact wrap_u64 ZG
theorem SM {x b:Nat} (hx:x<281474976710656) (hb:b<256):bits .or .i64 (IntKind.i64.wrap ((x:Int)*2^min 8 64)) (b:Int)=((256*x+b:Nat):Int):=by
 have h1:((x:Int)*2^min 8 64)=((x*256:Nat):Int):=by
  rw[show((2:Int)^min 8 64)=256 by decide];omega
 rw[h1,eF ZG]
 show IntKind.i64.wrap ((BitVec.ofInt 64 ((x*256:Nat):Int) ||| BitVec.ofInt 64 (b:Int)).toNat:Int)=_
 rw[ZU,ZU,aaG,ZT,ZT,ZO ZG,ZO ZG]
 have h2:x*256 ||| b=256*x+b:=by
  have h3:=aab (b:=b) (i:=8) ZG x;rw[aao,show(2:Nat)^8=256 by decide]at h3;omega
 rw[h2];exact eF ZG
theorem vG (t:Bs) (ht:t.length<=6):aw Tryz.prog 60 [.str t] (.int .u64 (ct t:Nat)):=by
 refine Cod.L4 (λE R hN hR=>?_);refine wW ?_;refine aP hN (λk:Nat=>⟨[(0,.str t),(3,.int .u64 (ct (t.take k):Nat)),(6,.int .i64 t.length),(7,.int .i64 k)],[]⟩) (λk=>k<=t.length) (λk=>t.length-k) 0 (.le (by simp(disch:=omega)only[go_sem,simprocAttr];simp[ct])) ZG ?_;rintro k R1 hk hR1;by_cases hlt:k<t.length
 ·have hct:=uG t hlt;have hxl:=y8 t hk ht;have hbl:=(t.getD k 0).toNat_lt;have ho:=SL hxl hbl;generalize ct (t.take k)=x at *
  refine ah ho ?_;exact hR1 (k+1) _ ZG ZG (.le (cU hct))
 ·obtain rfl:k=t.length:=ZG;rw[ZK (ZM _)];refine wW ?_;exact hR.ro ⟨rfl,rfl⟩
theorem U6 (t:Bs) (ht:t.length<=6):aw Tryz.prog 56 [.str t] (.int .u64 (ct t:Nat)):=by
 refine Cod.Dy (λE R hN hR=>?_);refine wW ?_;refine aP hN (λk:Nat=>⟨[(0,.str t),(3,.int .u64 (ct (t.take k):Nat)),(4,.int .i64 k)],[]⟩) (λk=>k<=t.length) (λk=>t.length-k) 0 (.le (by simp(disch:=omega)only[go_sem,simprocAttr];simp[ct])) ZG ?_;rintro k R1 hk hR1;by_cases hlt:k<t.length
 ·have hct:=uG t hlt;have hxl:=y8 t hk ht;have hbl:=(t.getD k 0).toNat_lt;generalize ct (t.take k)=x at *
  refine wW ?_;exact hR1 (k+1) _ ZG ZG (.le (cU hct))
 ·obtain rfl:k=t.length:=ZG;rw[ZK (ZM _)];refine wW ?_;exact hR.ro ⟨rfl,rfl⟩
def si (x n:Nat):Bs:=(List.range n).map λi=>UInt8.ofNat (x/256^i%256)
theorem Ht (u:Bs) (hu:u.length=4) (v:Nat) (hv:v<4294967296):ct u=v↔u=(si v 4).reverse:=by
 obtain⟨a,b,c,d,rfl⟩:∃a b c d,u=[a,b,c,d]:=by
  match u,hu with
  | [a,b,c,d],_=>exact⟨a,b,c,d,rfl⟩
 have ha:=a.toNat_lt;have hb:=b.toNat_lt;have hc:=c.toNat_lt;have hd:=d.toNat_lt;have e1:ct [a,b,c,d]=256*(256*(256*a.toNat+b.toNat)+c.toNat)+d.toNat:=by simp[ct]
 have e2:(si v 4).reverse=[UInt8.ofNat (v/16777216%256),UInt8.ofNat (v/65536%256),UInt8.ofNat (v/256%256),UInt8.ofNat (v%256)]:=by simp[si,abl]
 rw[e1,e2];constructor
 ·intro h;have f:∀(x:UInt8) (n:Nat),x.toNat=n->x=UInt8.ofNat n:=λx n h=>by rw[<-h,abY]
  rw[f a _ (show a.toNat=v/16777216%256 by omega),f b _ (show b.toNat=v/65536%256 by omega),f c _ (show c.toNat=v/256%256 by omega),f d _ (show d.toNat=v%256 by omega)]
 ·intro h;simp only[List.cons.injEq,and_true]at h;obtain⟨rfl,rfl,rfl,rfl⟩:=h;simp only[aaF];omega
def pg (a b:Nat):Bool:=decide (a%16=8)&&(decide (a/16<=7)&&(decide ((256*a+b)%31=0)&&decide (b/32%2=0)))
theorem F1 {b:Nat} (h:b<256):bits .and .u8 (b:Int) 32=((b/32%2*32:Nat):Int):=by
 have:∀b:Nat,b<256->bits .and .u8 (b:Int) 32=((b/32%2*32:Nat):Int):=by decide +kernel
 exact this b h
theorem Zo (a b:UInt8):aw Tryz.prog 157 [.int .u8 a.toNat,.int .u8 b.toNat] (.bool (pg a.toNat b.toNat)):=by
 refine Cod.Zp (λE R hN hR=>?_);have ha:=a.toNat_lt;have hb:=b.toNat_lt;have e1:=EG a;have e2:=EF a;have e3:=SM (x:=a.toNat) (b:=b.toNat) ZG hb;have e4:((256*a.toNat+b.toNat:Nat):Int).tmod 31=(((256*a.toNat+b.toNat)%31:Nat):Int):=by rw[mA ZG];omega
 have e5:=F1 hb;unfold pg at hR;generalize a.toNat=x at *
 generalize b.toNat=y at *
 by_cases h1:x%16=8
 ·by_cases h2:x/16<=7
  ·by_cases h3:(256*x+y)%31=0
   ·by_cases h4:y/32%2=0
    ·rw[decide_eq_true h1,decide_eq_true h2,decide_eq_true h3,decide_eq_true h4]at hR;rw[h1]at e1;rw[h3]at e4;rw[h4]at e5;refine cM e1 e2 e3 e4 e5 ?_;refine l4 e1 e2 e3 e4 e5 ?_;exact hR.ro ⟨rfl,rfl⟩
    ·rw[decide_eq_true h1,decide_eq_true h2,decide_eq_true h3,decide_eq_false h4]at hR;rw[h1]at e1;rw[h3]at e4;rw[show y/32%2=1 by omega]at e5;refine cM e1 e2 e3 e4 e5 ?_;refine l4 e1 e2 e3 e4 e5 ?_;exact hR.ro ⟨rfl,rfl⟩
   ·rw[decide_eq_true h1,decide_eq_true h2,decide_eq_false h3]at hR;rw[h1]at e1;have hi:¬(((256*x+y)%31:Nat):Int)=0:=ZG;refine cM e1 e2 e3 e4 hi ?_;refine l4 e1 e2 e3 e4 hi ?_;exact hR.ro ⟨rfl,rfl⟩
  ·rw[decide_eq_true h1,decide_eq_false h2]at hR;rw[h1]at e1;have hi:¬((x/16:Nat):Int)<=7:=ZG;refine bU e1 e2 hi ?_;refine iY e1 e2 hi ?_;exact hR.ro ⟨rfl,rfl⟩
 ·rw[decide_eq_false h1]at hR;have hi:¬((x%16:Nat):Int)=8:=ZG;refine aE e1 hi ?_;refine ee e1 hi ?_;exact hR.ro ⟨rfl,rfl⟩
end Go.Proofs.YtkdjbebgdoohjaaGreatDoor.Pk
namespace Go.Proofs.YtkdjbebgdoohjaaGreatDoor.Cod
open Eng Eng.Kz
set_option maxRecDepth 100000
abbrev HQ:=Kf.s2 40 Tryz.func179
abbrev Ll:=Kf.k2 41 Tryz.func223
abbrev Tu:=Kf.k2 42 Tryz.func212
abbrev Wj:=Kf.k2 43 Tryz.func213
abbrev Ur:=Kf.k2 44 Tryz.func197
abbrev Uq:=Kf.k1 45 Tryz.func224
abbrev Us:=Kf.k2 46 Tryz.func214
abbrev VD:=Kf.k1 47 Tryz.func181
abbrev UW:=Kf.k1 48 Tryz.func216
abbrev Nj:=Kf.s1 49 Tryz.func217
abbrev Nn:=Kf.k2 50 Tryz.func201
end Go.Proofs.YtkdjbebgdoohjaaGreatDoor.Cod
