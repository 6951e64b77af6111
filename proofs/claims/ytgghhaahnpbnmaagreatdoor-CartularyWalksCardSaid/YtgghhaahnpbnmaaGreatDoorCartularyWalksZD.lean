/- The proof, part 30 of 51. -/
import Derived.Test.YtgghhaahnpbnmaaGreatDoorCartularyWalksU
import Derived.Test.YtgghhaahnpbnmaaGreatDoorProg
set_option linter.all false
namespace Go.Proofs.YtgghhaahnpbnmaaGreatDoor.Cod
open Eng Eng.Kz
set_option maxRecDepth 100000
abbrev P0:=Kf.s2 290 Tryz.func39
abbrev PU:=Kf.s3 291 Tryz.func12
abbrev PX:=Kf.s4 292 Tryz.func14
abbrev P1:=Kf.s2 293 Tryz.func41
abbrev Qg:=Kf.s2 294 Tryz.func73
open Eng Eng.Kz
set_option maxRecDepth 100000
abbrev LQ:=Kf.k2 120 Tryz.func202
abbrev LO:=Kf.k1 121 Tryz.func203
abbrev LL:=Kf.s1 122 Tryz.func182
abbrev HS:=Kf.k2 123 Tryz.func125
abbrev HO:=Kf.k1 124 Tryz.func126
abbrev HL:=Kf.s1 125 Tryz.func89
abbrev OP:=Kf.s1 126 Tryz.func70
abbrev JP:=Kf.s2 127 Tryz.func88
abbrev aci:=Kf.s2 134 Tryz.func197
abbrev acv:=Kf.s3 135 Tryz.func177
end Go.Proofs.YtgghhaahnpbnmaaGreatDoor.Cod
namespace Go.Proofs.YtgghhaahnpbnmaaGreatDoor.Pk
open Eng Sh
set_option maxRecDepth 10000
def l5:W:=3988292384#32
def sK (c:W):W:=(c >>> 1) ^^^ (l5 &&& -(c &&& 1#32))
def crcIt (c:W):Nat->W
 | 0=>c
 | i+1=>sK (crcIt c i)
def sL (c:W) (b:UInt8):W:=crcIt (c ^^^ BitVec.ofNat 32 b.toNat) 8
def kD (c:W) (t:Bs):W:=t.foldl sL c
def yt:W:=4294967295#32
def qc (t:Bs):W := ~~~ (kD yt t)
def kc (r B:W):Nat->W
 | 0=>r
 | i+1=>if(kc r B i ^^^ (B >>> i)) &&& 1#32=1#32 then(kc r B i >>> 1) ^^^ l5 else kc r B i >>> 1
theorem and_one (y:W):y &&& 1#32=if(y &&& 1#32)=1#32 then 1#32 else 0#32:=by
 split
 ·assumption
 ·rename_i h
  have h1:(y &&& 1#32).toNat=y.toNat%2:=by
   rw[adZ,show(1#32).toNat=2^1-1 from rfl,ado]
  apply aeN;rw[h1];have h2:¬y.toNat%2=1:=λh3=>h (aeN (by rw[h1,h3];rfl))
  show y.toNat%2=0
  omega
theorem Br (r B:W):∀i,crcIt (r ^^^ B) i=kc r B i ^^^ (B >>> i)
 | 0=>by simp[crcIt,kc]
 | i+1=>by
  have ih:=Br r B i;unfold crcIt kc sK;rw[ih,and_one]
  have hs:(kc r B i ^^^ B >>> i) >>> 1=(kc r B i >>> 1) ^^^ (B >>> (i+1)):=by
   rw[BitVec.ushiftRight_xor_distrib,BitVec.shiftRight_add]
  rw[hs];by_cases h:(kc r B i ^^^ B >>> i) &&& 1#32=1#32
  ·rw[if_pos h,if_pos rfl];have e:l5 &&& -1#32=l5:=by decide
   rw[e,BitVec.xor_assoc,BitVec.xor_comm (B >>> (i+1)),<-BitVec.xor_assoc]
  ·rw[if_neg h,if_neg (by decide)];have e:l5 &&& -0#32=0#32:=by decide
   rw[e,BitVec.xor_zero]
theorem acy (r:W) (b:UInt8):kc r (BitVec.ofNat 32 b.toNat) 8=sL r b:=by
 have h:=Br r (BitVec.ofNat 32 b.toNat) 8
 have e:(BitVec.ofNat 32 b.toNat) >>> 8=0#32:=by
  apply aeN;have:=b.toNat_lt;rw[ae9,acP,acL acB,aea]
  show b.toNat/256=0
  omega
 rw[e,BitVec.xor_zero]at h;exact h.symm
theorem LM (c:W) (t:Bs) {k:Nat} (h:k<t.length):kD c (t.take (k+1))=sL (kD c (t.take k)) (t.getD k 0):=by
 rw[pf t h];simp[kD]
theorem abI (x:W):IntKind.u32.wrap (0-(x.toNat:Int))=((-x).toNat:Int):=by
 have hx:=x.isLt
 show(0-(x.toNat:Int))%4294967296=_
 rw[BitVec.toNat_neg];omega
theorem u8w (b:UInt8):(b.toNat:Int)=((BitVec.ofNat 32 b.toNat).toNat:Int):=by
 have:=b.toNat_lt;rw[acP,acL acB]
theorem LP (c:W) (t:Bs) (ht:t.length<=1000000000):Eng.Spec Tryz.prog 202 [(122003,.var [.int .u32 c.toNat])] [.aa 122003 0,.str t]
    (λh' v ar=>h'=[(122003,.var [.int .u32 (~~~ (kD (~~~ c) t)).toNat])]/\v=.ab []/\ar=[.aa 122003 0,.str t]):=by
 refine Cod.LQ (λE R hN hR=>?_);have hnot:∀x:W,bits .xor .u32 (if IntKind.u32.signed=true then -1 else IntKind.u32.max) (x.toNat:Int)=((~~~x).toNat:Int):=λx=>Hb x
 refine ah hnot ?_;refine aJ hN (λk:Nat=>⟨[(0,.aa 122003 0),(1,.str t),(4,.int .u32 (kD (~~~ c) (t.take k)).toNat),(12,.int .i64 t.length),(13,.int .i64 k),(2000000,.aa 122003 0),(2000001,.str t)],[(122003,.var [.int .u32 c.toNat])]⟩) (λk=>k<=t.length) (λk=>t.length-k) 0 (.le (by simp(disch:=omega)only[go_sem,simprocAttr];simp[kD])) acB ?_;rintro k R1 hk hR1;by_cases hlt:k<t.length
 ·have hct:=LM (~~~ c) t hlt;generalize kD (~~~ c) (t.take k)=x at *
  have hb:=u8w (t.getD k 0);have hx:=mn x (BitVec.ofNat 32 (t.getD k 0).toNat);rw[<-hb]at hx;have hbl:=(t.getD k 0).toNat_lt;refine ah hx ?_;refine aJ hN (λi:Nat=>⟨[(0,.aa 122003 0),(1,.str t),(4,.int .u32 (crcIt (x ^^^ BitVec.ofNat 32 (t.getD k 0).toNat) i).toNat),(12,.int .i64 t.length),(13,.int .i64 k),(22,.int .i64 i),(2000000,.aa 122003 0),(2000001,.str t)],[(122003,.var [.int .u32 c.toNat])]⟩) (λi=>i<=8) (λi=>8-i) 0 (.le (by simp(disch:=omega)only[go_sem,simprocAttr,crcIt])) acB ?_;rintro i R2 hi hR2;by_cases hlt8:i<8
  ·have hst:crcIt (x ^^^ BitVec.ofNat 32 (t.getD k 0).toNat) (i+1)=sK (crcIt (x ^^^ BitVec.ofNat 32 (t.getD k 0).toNat) i):=rfl;generalize crcIt (x ^^^ BitVec.ofNat 32 (t.getD k 0).toNat) i=y at *
   have e1:(y.toNat:Int).fdiv (2^min 1 32)=(y >>> 1).toNat:=He y 1;have e2:bits .and .u32 y.toNat 1=(y &&& 1#32).toNat:=pw y 1#32;have e3:=abI (y &&& 1#32);have e4:bits .and .u32 3988292384 (-(y &&& 1#32)).toNat=(l5 &&& -(y &&& 1#32)).toNat:=pw l5 _;have e5:=mn (y >>> 1) (l5 &&& -(y &&& 1#32));refine gP e1 e2 e3 e4 e5 ?_;exact hR2 (i+1) _ acB acB (.le (by simp(disch:=omega)only[go_sem,simprocAttr,hst,sK]))
  ·obtain rfl:i=8:=acB;refine wW ?_;exact hR1 (k+1) _ acB acB (.le (by simp(disch:=omega)only[go_sem,simprocAttr,hct,sL]))
 ·obtain rfl:k=t.length:=acB;rw[acF (acG _)];refine ah hnot ?_;exact hR.le vV ⟨rfl,rfl,rfl⟩
theorem LN (c:W):Eng.Spec Tryz.prog 203 [(122003,.var [.int .u32 c.toNat])] [.aa 122003 0] (λh' v ar=>h'=[(122003,.var [.int .u32 c.toNat])]/\v=.int .u32 c.toNat/\ar=[.aa 122003 0]):=by
 refine Cod.LO (λE R hN hR=>?_);refine wW ?_;exact hR.le vV ⟨rfl,rfl,rfl⟩
theorem LK (t:Bs) (ht:t.length<=1000000000):aw Tryz.prog 182 [.str t] (.int .u32 (qc t).toNat):=by
 refine Cod.LL (λE R hN hR=>?_);have hw:=LP 0#32 t ht;rw[show ~~~ (0#32:W)=yt by decide,show ~~~ (kD yt t)=qc t from rfl]at hw;have hs:=LN (qc t);refine wW ?_;refine aN [(122003,.var [.int .u32 (0#32).toNat])] hw vV nofun ?_;rintro h' v ar ⟨rfl,rfl,rfl⟩;refine⟨vV,rfl,?_⟩;refine wW ?_;refine aN [(122003,.var [.int .u32 (qc t).toNat])] hs vV nofun ?_;rintro h' v ar ⟨rfl,rfl,rfl⟩;refine⟨vV,rfl,?_⟩;refine wW ?_;exact hR.ro ⟨rfl,rfl⟩
open Eng Sh
set_option maxRecDepth 10000
def r7 (p:Nat×Nat) (c:UInt8):Nat×Nat:=((p.1+c.toNat)%65521,(p.2+(p.1+c.toNat)%65521)%65521)
def de (t:Bs):Nat×Nat:=t.foldl r7 (1,0)
def dH (t:Bs):Nat:=65536*(de t).2+(de t).1
theorem zU (t:Bs) {k:Nat} (h:k<t.length):de (t.take (k+1))=r7 (de (t.take k)) (t.getD k 0):=by
 rw[pf t h];simp[de]
theorem HK (p:Nat×Nat) (c:UInt8):(r7 p c).1<65521/\(r7 p c).2<65521:=⟨adV _ (by decide),adV _ (by decide)⟩
theorem vX (t:Bs):(de t).1<65521/\(de t).2<65521:=by
 have:∀k,k<=t.length->(de (t.take k)).1<65521/\(de (t.take k)).2<65521:=by
  intro k
  cases k with
  | zero=>intro _;rw[ad3];decide
  | succ k=>intro h;rw[zU t h];exact HK _ _
 have h:=this t.length (acG _)
 rwa[acF (acG _)]at h
theorem vY (t:Bs):dH t<4294967296:=by
 have:=vX t;unfold dH;omega
def fY (a:Nat):Nat:=(a+65520)%65521
theorem HQ (t:Bs) (ht:t.length<=1000000000):Eng.Spec Tryz.prog 125 [(125003,.var [.int .u32 0,.int .u32 0])] [.aa 125003 0,.str t]
    (λh' v ar=>h'=[(125003,.var [.int .u32 (fY (de t).1:Nat),.int .u32 ((de t).2:Nat)])]/\v=.ab []/\ar=[.aa 125003 0,.str t]):=by
 refine Cod.HS (λE R hN hR=>?_);refine wW ?_;refine aJ hN (λk:Nat=>⟨[(0,.aa 125003 0),(1,.str t),(6,.int .i64 t.length),(7,.int .i64 k),(2000000,.aa 125003 0),(2000001,.str t)],[(125003,.var [.int .u32 (fY (de (t.take k)).1:Nat),.int .u32 ((de (t.take k)).2:Nat)])]⟩) (λk=>k<=t.length) (λk=>t.length-k) 0 (.le (by simp(disch:=omega)only[go_sem,simprocAttr];simp[de,fY])) acB ?_;rintro k R1 hk hR1;by_cases hlt:k<t.length
 ·have hct:=zU t hlt;have hxl:=vX (t.take k);generalize de (t.take k)=x at *
  have hbl:=(t.getD k 0).toNat_lt;obtain⟨xa,xb⟩:=x;simp only at hxl;have hc1:(de (t.take (k+1))).1=(xa+(t.getD k 0).toNat)%65521:=by rw[hct];rfl
  have hc2:(de (t.take (k+1))).2=(xb+(xa+(t.getD k 0).toNat)%65521)%65521:=by rw[hct];rfl
  generalize hb:(t.getD k 0).toNat=b at *
  have l1:fY xa<65521:=adV _ (by decide)
  have e2:(((fY xa:Nat):Int)+(b:Int)).tmod 65521=((fY ((xa+b)%65521):Nat):Int):=by
   rw[pg acB];unfold fY;omega
  have e3:(((xb:Nat):Int)+((fY ((xa+b)%65521):Nat):Int)+1).tmod 65521=(((xb+(xa+b)%65521)%65521:Nat):Int):=by
   rw[pg acB];unfold fY;omega
  have l2:fY ((xa+b)%65521)<65521:=adV _ (by decide);refine cI hb e2 e3 ?_;exact hR1 (k+1) _ acB acB (.le (lv hc1 hc2))
 ·obtain rfl:k=t.length:=acB;rw[acF (acG _)];refine wW ?_;exact hR.le vV ⟨rfl,rfl,rfl⟩
theorem VR {a b:Nat} (ha:a<65536) (hb:b<65536):bits .or .u32 (IntKind.u32.wrap ((b:Int)*2^min 16 32)) (a:Int)=((65536*b+a:Nat):Int):=by
 have h1:((b:Int)*2^min 16 32)=((b*65536:Nat):Int):=by
  rw[show((2:Int)^min 16 32)=65536 by decide];omega
 rw[h1,wrap_u32 acB]
 show IntKind.u32.wrap ((BitVec.ofInt 32 ((b*65536:Nat):Int) ||| BitVec.ofInt 32 (a:Int)).toNat:Int)=_
 rw[acM,acM,adR,acP,acP,acL acB,acL acB]
 have h2:b*65536 ||| a=65536*b+a:=by
  have h3:=adb (b:=a) (i:=16) acB b;rw[adj,show(2:Nat)^16=65536 by decide]at h3;omega
 rw[h2];exact wrap_u32 acB
theorem HM (t:Bs):Eng.Spec Tryz.prog 126 [(125003,.var [.int .u32 (fY (de t).1:Nat),.int .u32 ((de t).2:Nat)])] [.aa 125003 0]
    (λh' v ar=>h'=[(125003,.var [.int .u32 (fY (de t).1:Nat),.int .u32 ((de t).2:Nat)])]/\v=.int .u32 (dH t:Nat)/\ar=[.aa 125003 0]):=by
 refine Cod.HO (λE R hN hR=>?_);have hl:=vX t;unfold dH at hR;generalize de t=x at *
 obtain⟨xa,xb⟩:=x;simp only at hl hR |-;have l1:fY xa<65521:=adV _ (by decide)
 have e1:(((fY xa:Nat):Int)+1).tmod 65521=((xa:Nat):Int):=by
  rw[pg acB];unfold fY;omega
 have e2:=VR (a:=xa) (b:=xb) acB acB;refine aV e1 e2 ?_;exact hR.le vV ⟨rfl,rfl,rfl⟩
theorem zW (t:Bs) (ht:t.length<=1000000000):aw Tryz.prog 89 [.str t] (.int .u32 (dH t:Nat)):=by
 refine Cod.HL (λE R hN hR=>?_);have hw:=HQ t ht;have hs:=HM t;refine wW ?_;refine aN [(125003,.var [.int .u32 0,.int .u32 0])] hw vV nofun ?_;rintro h' v ar ⟨rfl,rfl,rfl⟩;refine⟨vV,rfl,?_⟩;refine wW ?_;refine aN [(125003,.var [.int .u32 (fY (de t).1:Nat),.int .u32 ((de t).2:Nat)])] hs vV nofun ?_;rintro h' v ar ⟨rfl,rfl,rfl⟩;refine⟨vV,rfl,?_⟩;refine wW ?_;exact hR.ro ⟨rfl,rfl⟩
def fS (t:Bs):Nat:=t.foldl (λx c=>256*x+c.toNat) 0
theorem AA (t:Bs) {k:Nat} (h:k<t.length):fS (t.take (k+1))=256*fS (t.take k)+(t.getD k 0).toNat:=by
 rw[pf t h];simp[fS]
theorem wo (t:Bs):∀k,k<=t.length->fS (t.take k)<256^k
 | 0,_=>by rw[ad3];decide
 | k+1,h=>by
  have ih:=wo t k acB;have hb:=(t.getD k 0).toNat_lt;rw[AA t h,aeg];omega
theorem JM (t:Bs) {k:Nat} (h:k<=t.length) (h7:t.length<=6):fS (t.take k)<281474976710656:=by
 have h1:=wo t k h;have h2:256^k<=256^6:=acQ (by decide) acB;exact acR h1 h2
theorem VT {x b:Nat} (hx:x<281474976710656) (hb:b<256):bits .or .u64 (IntKind.u64.wrap ((x:Int)*2^min 8 64)) (b:Int)=((256*x+b:Nat):Int):=by
 have h1:((x:Int)*2^min 8 64)=((x*256:Nat):Int):=by
  rw[show((2:Int)^min 8 64)=256 by decide];omega
 rw[h1,wrap_u64 acB]
 show IntKind.u64.wrap ((BitVec.ofInt 64 ((x*256:Nat):Int) ||| BitVec.ofInt 64 (b:Int)).toNat:Int)=_
 rw[acM,acM,adR,acP,acP,acL acB,acL acB]
 have h2:x*256 ||| b=256*x+b:=by
  have h3:=adb (b:=b) (i:=8) acB x;rw[adj,show(2:Nat)^8=256 by decide]at h3;omega
 rw[h2];exact wrap_u64 acB
theorem VU {x b:Nat} (hx:x<281474976710656) (hb:b<256):bits .or .i64 (IntKind.i64.wrap ((x:Int)*2^min 8 64)) (b:Int)=((256*x+b:Nat):Int):=by
 have h1:((x:Int)*2^min 8 64)=((x*256:Nat):Int):=by
  rw[show((2:Int)^min 8 64)=256 by decide];omega
 rw[h1,gq acB]
 show IntKind.i64.wrap ((BitVec.ofInt 64 ((x*256:Nat):Int) ||| BitVec.ofInt 64 (b:Int)).toNat:Int)=_
 rw[acM,acM,adR,acP,acP,acL acB,acL acB]
 have h2:x*256 ||| b=256*x+b:=by
  have h3:=adb (b:=b) (i:=8) acB x;rw[adj,show(2:Nat)^8=256 by decide]at h3;omega
 rw[h2];exact gq acB
theorem OO (t:Bs) (ht:t.length<=6):aw Tryz.prog 70 [.str t] (.int .u64 (fS t:Nat)):=by
 refine Cod.OP (λE R hN hR=>?_);refine wW ?_;refine aJ hN (λk:Nat=>⟨[(0,.str t),(3,.int .u64 (fS (t.take k):Nat)),(6,.int .i64 t.length),(7,.int .i64 k)],[]⟩) (λk=>k<=t.length) (λk=>t.length-k) 0 (.le (by simp(disch:=omega)only[go_sem,simprocAttr];simp[fS])) acB ?_;rintro k R1 hk hR1;by_cases hlt:k<t.length
 ·have hct:=AA t hlt;have hxl:=JM t hk ht;have hbl:=(t.getD k 0).toNat_lt;have ho:=VT hxl hbl;generalize fS (t.take k)=x at *
  refine ah ho ?_;exact hR1 (k+1) _ acB acB (.le (eY hct))
 ·obtain rfl:k=t.length:=acB;rw[acF (acG _)];refine wW ?_;exact hR.ro ⟨rfl,rfl⟩
def bA (x n:Nat):Bs:=(List.range n).map λi=>UInt8.ofNat (x/256^i%256)
theorem gZ (x n:Nat):(bA x n).length=n:=by simp[bA]
theorem T2 (x n:Nat):bA x (n+1)=bA x n++[UInt8.ofNat (x/256^n%256)]:=by simp[bA,adJ]
theorem XS (t:Bs) {k:Nat} (h:k<t.length):t.reverse.take (k+1)=t.reverse.take k++[t.getD (t.length-1-k) 0]:=by
 rw[pf t.reverse (by simpa using h),acC,List.getElem?_reverse h,acC]
theorem JN (u:Bs) (hu:u.length=4) (v:Nat) (hv:v<4294967296):fS u=v↔u=(bA v 4).reverse:=by
 obtain⟨a,b,c,d,rfl⟩:∃a b c d,u=[a,b,c,d]:=by
  match u,hu with
  | [a,b,c,d],_=>exact⟨a,b,c,d,rfl⟩
 have ha:=a.toNat_lt;have hb:=b.toNat_lt;have hc:=c.toNat_lt;have hd:=d.toNat_lt;have e1:fS [a,b,c,d]=256*(256*(256*a.toNat+b.toNat)+c.toNat)+d.toNat:=by simp[fS]
 have e2:(bA v 4).reverse=[UInt8.ofNat (v/16777216%256),UInt8.ofNat (v/65536%256),UInt8.ofNat (v/256%256),UInt8.ofNat (v%256)]:=by simp[bA,adJ]
 rw[e1,e2];constructor
 ·intro h;have f:∀(x:UInt8) (n:Nat),x.toNat=n->x=UInt8.ofNat n:=λx n h=>by rw[<-h,aew]
  rw[f a _ (show a.toNat=v/16777216%256 by omega),f b _ (show b.toNat=v/65536%256 by omega),f c _ (show c.toNat=v/256%256 by omega),f d _ (show d.toNat=v%256 by omega)]
 ·intro h;simp only[List.cons.injEq,and_true]at h;obtain⟨rfl,rfl,rfl,rfl⟩:=h;simp only[ada];omega
def oE (a b:Nat):Bool:=decide (a%16=8)&&(decide (a/16<=7)&&(decide ((256*a+b)%31=0)&&decide (b/32%2=0)))
theorem Ih {b:Nat} (h:b<256):bits .and .u8 (b:Int) 32=((b/32%2*32:Nat):Int):=by
 have:∀b:Nat,b<256->bits .and .u8 (b:Int) 32=((b/32%2*32:Nat):Int):=by decide +kernel
 exact this b h
theorem ach (a b:UInt8):aw Tryz.prog 197 [.int .u8 a.toNat,.int .u8 b.toNat] (.bool (oE a.toNat b.toNat)):=by
 refine Cod.aci (λE R hN hR=>?_);have ha:=a.toNat_lt;have hb:=b.toNat_lt;have e1:=GO a;have e2:=GN a;have e3:=VU (x:=a.toNat) (b:=b.toNat) acB hb;have e4:((256*a.toNat+b.toNat:Nat):Int).tmod 31=(((256*a.toNat+b.toNat)%31:Nat):Int):=by rw[pg acB];omega
 have e5:=Ih hb;unfold oE at hR;generalize a.toNat=x at *
 generalize b.toNat=y at *
 by_cases h1:x%16=8
 ·by_cases h2:x/16<=7
  ·by_cases h3:(256*x+y)%31=0
   ·by_cases h4:y/32%2=0
    ·rw[decide_eq_true h1,decide_eq_true h2,decide_eq_true h3,decide_eq_true h4]at hR;rw[h1]at e1;rw[h3]at e4;rw[h4]at e5;refine gP e1 e2 e3 e4 e5 ?_;refine oA e1 e2 e3 e4 e5 ?_;exact hR.ro ⟨rfl,rfl⟩
    ·rw[decide_eq_true h1,decide_eq_true h2,decide_eq_true h3,decide_eq_false h4]at hR;rw[h1]at e1;rw[h3]at e4;rw[show y/32%2=1 by omega]at e5;refine gP e1 e2 e3 e4 e5 ?_;refine oA e1 e2 e3 e4 e5 ?_;exact hR.ro ⟨rfl,rfl⟩
   ·rw[decide_eq_true h1,decide_eq_true h2,decide_eq_false h3]at hR;rw[h1]at e1;have hi:¬(((256*x+y)%31:Nat):Int)=0:=acB;refine gP e1 e2 e3 e4 hi ?_;refine oA e1 e2 e3 e4 hi ?_;exact hR.ro ⟨rfl,rfl⟩
  ·rw[decide_eq_true h1,decide_eq_false h2]at hR;rw[h1]at e1;have hi:¬((x/16:Nat):Int)<=7:=acB;refine cI e1 e2 hi ?_;refine lP e1 e2 hi ?_;exact hR.ro ⟨rfl,rfl⟩
 ·rw[decide_eq_false h1]at hR;have hi:¬((x%16:Nat):Int)=8:=acB;refine aV e1 hi ?_;refine gX e1 hi ?_;exact hR.ro ⟨rfl,rfl⟩
end Go.Proofs.YtgghhaahnpbnmaaGreatDoor.Pk
namespace Go.Proofs.YtgghhaahnpbnmaaGreatDoor.Cod
open Eng Eng.Kz
set_option maxRecDepth 100000
abbrev J6:=Kf.s2 40 Tryz.func211
abbrev N6:=Kf.k2 41 Tryz.func231
abbrev Wz:=Kf.k2 42 Tryz.func225
abbrev Y7:=Kf.k2 43 Tryz.func226
abbrev Xm:=Kf.k2 44 Tryz.func217
abbrev Xl:=Kf.k1 45 Tryz.func232
abbrev Xn:=Kf.k2 46 Tryz.func227
abbrev Yy:=Kf.k1 47 Tryz.func213
abbrev XW:=Kf.k1 48 Tryz.func229
abbrev Qi:=Kf.s1 49 Tryz.func127
abbrev Qk:=Kf.k2 50 Tryz.func220
end Go.Proofs.YtgghhaahnpbnmaaGreatDoor.Cod
