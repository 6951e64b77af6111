/- The proof, part 19 of 25. -/
import Derived.Test.YtjoefngnjoofeaaGreatDoorPackBuildsO
import Derived.Test.YtjoefngnjoofeaaGreatDoorPackBuildsP
import Derived.Test.YtjoefngnjoofeaaGreatDoorPackBuildsR
import Derived.Test.YtjoefngnjoofeaaGreatDoorProg
import Derived.KernelRfl
set_option linter.all false
namespace Go.Proofs.YtjoefngnjoofeaaGreatDoor.Pk
open Eng Sh
set_option maxRecDepth 10000
def iP:W:=3988292384#32
def oY (c:W):W:=(c >>> 1) ^^^ (iP &&& -(c &&& 1#32))
def crcIt (c:W):Nat→W
 | 0=>c
 | i+1=>oY (crcIt c i)
def oZ (c:W) (b:UInt8):W:=crcIt (c ^^^ BitVec.ofNat 32 b.toNat) 8
def gj (c:W) (t:Bs):W:=t.foldl oZ c
def km:W:=4294967295#32
def jd (t:Bs):W := ~~~ (gj km t)
def fE (r B:W):Nat→W
 | 0=>r
 | i+1=>if(fE r B i ^^^ (B >>> i)) &&& 1#32=1#32 then(fE r B i >>> 1) ^^^ iP else fE r B i >>> 1
theorem E9 (y:W):y &&& 1#32=if(y &&& 1#32)=1#32 then 1#32 else 0#32:=by
 split
 ·assumption
 ·rename_i h
  have h1:(y &&& 1#32).toNat=y.toNat%2:=by
   rw[BitVec.toNat_and,show(1#32).toNat=2^1-1 from rfl,Nat.and_two_pow_sub_one_eq_mod]
  apply BitVec.eq_of_toNat_eq
  rw[h1]
  have h2:¬y.toNat%2=1:=fun h3=>h (BitVec.eq_of_toNat_eq (by rw[h1,h3];rfl))
  show y.toNat%2=0
  omega
theorem wU (r B:W):∀i,crcIt (r ^^^ B) i=fE r B i ^^^ (B >>> i)
 | 0=>by simp[crcIt,fE]
 | i+1=>by
  have ih:=wU r B i
  unfold crcIt fE oY
  rw[ih,E9]
  have hs:(fE r B i ^^^ B >>> i) >>> 1=(fE r B i >>> 1) ^^^ (B >>> (i+1)):=by
   rw[BitVec.ushiftRight_xor_distrib,BitVec.shiftRight_add]
  rw[hs]
  by_cases h:(fE r B i ^^^ B >>> i) &&& 1#32=1#32
  ·rw[if_pos h,if_pos rfl]
   have e:iP &&& -1#32=iP:=by decide
   rw[e,BitVec.xor_assoc,BitVec.xor_comm (B >>> (i+1)),←BitVec.xor_assoc]
  ·rw[if_neg h,if_neg (by decide)]
   have e:iP &&& -0#32=0#32:=by decide
   rw[e,BitVec.xor_zero]
theorem Jm (r:W) (b:UInt8):fE r (BitVec.ofNat 32 b.toNat) 8=oZ r b:=by
 have h:=wU r (BitVec.ofNat 32 b.toNat) 8
 have e:(BitVec.ofNat 32 b.toNat) >>> 8=0#32:=by
  apply BitVec.eq_of_toNat_eq
  have:=b.toNat_lt
  rw[BitVec.toNat_ushiftRight,BitVec.toNat_ofNat,Nat.mod_eq_of_lt (by omega),Nat.shiftRight_eq_div_pow]
  show b.toNat/256=0
  omega
 rw[e,BitVec.xor_zero]at h
 exact h.symm
theorem wT (c:W) (t:Bs) {k:Nat} (h:k<t.length):gj c (t.take (k+1))=oZ (gj c (t.take k)) (t.getD k 0):=by
 rw[kr t h];simp[gj]
theorem aA8 (x:W):IntKind.u32.wrap (0-(x.toNat:Int))=((-x).toNat:Int):=by
 have hx:=x.isLt
 show(0-(x.toNat:Int))%4294967296=_
 rw[BitVec.toNat_neg]
 omega
theorem DB (b:UInt8):(b.toNat:Int)=((BitVec.ofNat 32 b.toNat).toNat:Int):=by
 have:=b.toNat_lt
 rw[BitVec.toNat_ofNat,Nat.mod_eq_of_lt (by omega)]
theorem JL (c:W) (t:Bs) (ht:t.length≤1000000000):Eng.Spec Tryz.prog 55 [(122003,.var [.int .u32 c.toNat])] [.ab 122003 0,.str t]
    (fun h' v ar=>h'=[(122003,.var [.int .u32 (~~~ (gj (~~~ c) t)).toNat])]∧v=.ak []∧ar=[.ab 122003 0,.str t]):=by
 refine Cod.JM (fun E R hN hR=>?_)
 have hnot:∀x:W,bits .xor .u32 (if IntKind.u32.signed=true then -1 else IntKind.u32.max) (x.toNat:Int)=((~~~x).toNat:Int):=fun x=>DR x
 refine aw hnot ?_
 refine aK hN (fun k:Nat=>⟨[(0,.ab 122003 0),(1,.str t),(4,.int .u32 (gj (~~~ c) (t.take k)).toNat),(12,.int .i64 t.length),(13,.int .i64 k),(2000000,.ab 122003 0),(2000001,.str t)],[(122003,.var [.int .u32 c.toNat])]⟩) (fun k=>k≤t.length) (fun k=>t.length-k) 0 (.le (by simp(disch:=omega)only[go_sem,simprocAttr];simp[gj])) (by omega) ?_
 rintro k R1 hk hR1
 by_cases hlt:k<t.length
 ·have hct:=wT (~~~ c) t hlt
  generalize gj (~~~ c) (t.take k)=x at *
  have hb:=DB (t.getD k 0)
  have hx:=dT x (BitVec.ofNat 32 (t.getD k 0).toNat)
  rw[←hb]at hx
  have hbl:=(t.getD k 0).toNat_lt
  refine aw hx ?_
  refine aK hN (fun i:Nat=>⟨[(0,.ab 122003 0),(1,.str t),(4,.int .u32 (crcIt (x ^^^ BitVec.ofNat 32 (t.getD k 0).toNat) i).toNat),(12,.int .i64 t.length),(13,.int .i64 k),(22,.int .i64 i),(2000000,.ab 122003 0),(2000001,.str t)],[(122003,.var [.int .u32 c.toNat])]⟩) (fun i=>i≤8) (fun i=>8-i) 0 (.le (by simp(disch:=omega)only[go_sem,simprocAttr,crcIt])) (by omega) ?_
  rintro i R2 hi hR2
  by_cases hlt8:i<8
  ·have hst:crcIt (x ^^^ BitVec.ofNat 32 (t.getD k 0).toNat) (i+1)=oY (crcIt (x ^^^ BitVec.ofNat 32 (t.getD k 0).toNat) i):=rfl
   generalize crcIt (x ^^^ BitVec.ofNat 32 (t.getD k 0).toNat) i=y at *
   have e1:(y.toNat:Int).fdiv (2^min 1 32)=(y >>> 1).toNat:=qY y 1
   have e2:bits .and .u32 y.toNat 1=(y &&& 1#32).toNat:=fc y 1#32
   have e3:=aA8 (y &&& 1#32)
   have e4:bits .and .u32 3988292384 (-(y &&& 1#32)).toNat=(iP &&& -(y &&& 1#32)).toNat:=fc iP _
   have e5:=dT (y >>> 1) (iP &&& -(y &&& 1#32))
   refine cM e1 e2 e3 e4 e5 ?_
   exact hR2 (i+1) _ (by omega) (by omega) (.le (by simp(disch:=omega)only[go_sem,simprocAttr,hst,oY]))
  ·obtain rfl:i=8:=by omega
   refine wW ?_
   exact hR1 (k+1) _ (by omega) (by omega) (.le (by simp(disch:=omega)only[go_sem,simprocAttr,hct,oZ]))
 ·obtain rfl:k=t.length:=by omega
  rw[List.take_of_length_le (Nat.le_refl _)]
  refine aw hnot ?_
  exact hR.le vV ⟨rfl,rfl,rfl⟩
theorem Jp (c:W):Eng.Spec Tryz.prog 56 [(122003,.var [.int .u32 c.toNat])] [.ab 122003 0] (fun h' v ar=>h'=[(122003,.var [.int .u32 c.toNat])]∧v=.int .u32 c.toNat∧ar=[.ab 122003 0]):=by
 refine Cod.Jr (fun E R hN hR=>?_)
 refine wW ?_
 exact hR.le vV ⟨rfl,rfl,rfl⟩
theorem Jk (t:Bs) (ht:t.length≤1000000000):aZ Tryz.prog 28 [.str t] (.int .u32 (jd t).toNat):=by
 refine Cod.Jl (fun E R hN hR=>?_)
 have hw:=JL 0#32 t ht
 rw[show ~~~ (0#32:W)=km by decide,show ~~~ (gj km t)=jd t from rfl]at hw
 have hs:=Jp (jd t)
 refine wW ?_
 refine aI [(122003,.var [.int .u32 (0#32).toNat])] hw vV nofun ?_
 rintro h' v ar ⟨rfl,rfl,rfl⟩
 refine⟨vV,rfl,?_⟩
 refine wW ?_
 refine aI [(122003,.var [.int .u32 (jd t).toNat])] hs vV nofun ?_
 rintro h' v ar ⟨rfl,rfl,rfl⟩
 refine⟨vV,rfl,?_⟩
 refine wW ?_
 exact hR.ro ⟨rfl,rfl⟩
theorem arY (t:Bs) (ht:t.length≤1000000000):aZ Tryz.prog 33 [.str t] (.int .u32 (jd t).toNat):=by
 refine Cod.arZ (fun E R hN hR=>?_)
 refine wW ?_
 refine aK hN (fun k:Nat=>⟨[(0,.str t),(3,.int .u32 (gj km (t.take k)).toNat),(4,.int .i64 k)],[]⟩) (fun k=>k≤t.length) (fun k=>t.length-k) 0 (.le (by simp(disch:=omega)only[go_sem,simprocAttr];simp[gj];rfl)) (by omega) ?_
 rintro k R1 hk hR1
 by_cases hlt:k<t.length
 ·have hct:=wT km t hlt
  generalize gj km (t.take k)=x at *
  have hby:=Jm x (t.getD k 0)
  have hbl:=(t.getD k 0).toNat_lt
  refine wW ?_
  refine aK hN (fun i:Nat=>⟨[(0,.str t),(3,.int .u32 (fE x (BitVec.ofNat 32 (t.getD k 0).toNat) i).toNat),(4,.int .i64 k),(5,.int .i64 i)],[]⟩) (fun i=>i≤8) (fun i=>8-i) 0 (.le (by simp(disch:=omega)only[go_sem,simprocAttr,fE])) (by omega) ?_
  rintro i R2 hi hR2
  by_cases hlt8:i<8
  ·have hst:fE x (BitVec.ofNat 32 (t.getD k 0).toNat) (i+1)=if(fE x (BitVec.ofNat 32 (t.getD k 0).toNat) i ^^^ ((BitVec.ofNat 32 (t.getD k 0).toNat) >>> i)) &&& 1#32=1#32 then(fE x (BitVec.ofNat 32 (t.getD k 0).toNat) i >>> 1) ^^^ iP else fE x (BitVec.ofNat 32 (t.getD k 0).toNat) i >>> 1:=rfl
   generalize fE x (BitVec.ofNat 32 (t.getD k 0).toNat) i=y at *
   have e0:((t.getD k 0).toNat:Int).fdiv (2^min i 8)=((BitVec.ofNat 32 (t.getD k 0).toNat) >>> i).toNat:=by
    rw[Nat.min_eq_left (by omega),DB];exact qY _ i
   have e1:=dT y ((BitVec.ofNat 32 (t.getD k 0).toNat) >>> i)
   have e2:bits .and .u32 (y ^^^ ((BitVec.ofNat 32 (t.getD k 0).toNat) >>> i)).toNat 1=((y ^^^ ((BitVec.ofNat 32 (t.getD k 0).toNat) >>> i)) &&& 1#32).toNat:=fc _ 1#32
   have e3:(y.toNat:Int).fdiv (2^min 1 32)=(y >>> 1).toNat:=qY y 1
   have e4:bits .xor .u32 (y >>> 1).toNat 3988292384=((y >>> 1) ^^^ iP).toNat:=dT _ iP
   have hw32:=mL ((BitVec.ofNat 32 (t.getD k 0).toNat) >>> i)
   generalize hz:(y ^^^ ((BitVec.ofNat 32 (t.getD k 0).toNat) >>> i)) &&& 1#32=z at *
   by_cases h1:z=1#32
   ·rw[if_pos h1]at hst
    have h1':((z.toNat:Nat):Int)=1:=by rw[h1];rfl
    simp(disch:=omega)only[go_sem,simprocAttr,e0,hw32,e1,e2,e3,e4,h1']
    exact hR2 (i+1) _ (by omega) (by omega) (.le (cW hst))
   ·rw[if_neg h1]at hst
    have h1':¬((z.toNat:Nat):Int)=1:=fun h=>h1 (BitVec.eq_of_toNat_eq (show z.toNat=1 by omega))
    simp(disch:=omega)only[go_sem,simprocAttr,e0,hw32,e1,e2,e3,e4,h1']
    exact hR2 (i+1) _ (by omega) (by omega) (.le (cW hst))
  ·obtain rfl:i=8:=by omega
   refine wW ?_
   exact hR1 (k+1) _ (by omega) (by omega) (.le (ia hct hby))
 ·obtain rfl:k=t.length:=by omega
  rw[List.take_of_length_le (Nat.le_refl _)]
  have hn:=DS (gj km t)
  refine aw hn ?_
  exact hR.ro ⟨rfl,by rw[show ~~~ (gj km t)=jd t from rfl]⟩
open Eng Sh
set_option maxRecDepth 10000
def ot (p:Nat×Nat) (c:UInt8):Nat×Nat:=((p.1+c.toNat)%65521,(p.2+(p.1+c.toNat)%65521)%65521)
def cN (t:Bs):Nat×Nat:=t.foldl ot (1,0)
def c8 (t:Bs):Nat:=65536*(cN t).2+(cN t).1
theorem rv (t:Bs) {k:Nat} (h:k<t.length):cN (t.take (k+1))=ot (cN (t.take k)) (t.getD k 0):=by
 rw[kr t h];simp[cN]
theorem Ek (p:Nat×Nat) (c:UInt8):(ot p c).1<65521∧(ot p c).2<65521:=⟨Nat.mod_lt _ (by decide),Nat.mod_lt _ (by decide)⟩
theorem mQ (t:Bs):(cN t).1<65521∧(cN t).2<65521:=by
 have:∀k,k≤t.length→(cN (t.take k)).1<65521∧(cN (t.take k)).2<65521:=by
  intro k
  cases k with
  | zero=>intro _;rw[List.take_zero];decide
  | succ k=>intro h;rw[rv t h];exact Ek _ _
 have h:=this t.length (Nat.le_refl _)
 rwa[List.take_of_length_le (Nat.le_refl _)]at h
theorem ou (t:Bs):c8 t<4294967296:=by
 have:=mQ t
 unfold c8;omega
def fM (a:Nat):Nat:=(a+65520)%65521
theorem EI (t:Bs) (ht:t.length≤1000000000):Eng.Spec Tryz.prog 79 [(125003,.var [.int .u32 0,.int .u32 0])] [.ab 125003 0,.str t]
    (fun h' v ar=>h'=[(125003,.var [.int .u32 (fM (cN t).1:Nat),.int .u32 ((cN t).2:Nat)])]∧v=.ak []∧ar=[.ab 125003 0,.str t]):=by
 refine Cod.EJ (fun E R hN hR=>?_)
 refine wW ?_
 refine aK hN (fun k:Nat=>⟨[(0,.ab 125003 0),(1,.str t),(6,.int .i64 t.length),(7,.int .i64 k),(2000000,.ab 125003 0),(2000001,.str t)],[(125003,.var [.int .u32 (fM (cN (t.take k)).1:Nat),.int .u32 ((cN (t.take k)).2:Nat)])]⟩) (fun k=>k≤t.length) (fun k=>t.length-k) 0 (.le (by simp(disch:=omega)only[go_sem,simprocAttr];simp[cN,fM])) (by omega) ?_
 rintro k R1 hk hR1
 by_cases hlt:k<t.length
 ·have hct:=rv t hlt
  have hxl:=mQ (t.take k)
  generalize cN (t.take k)=x at *
  have hbl:=(t.getD k 0).toNat_lt
  obtain⟨xa,xb⟩:=x
  simp only at hxl
  have hc1:(cN (t.take (k+1))).1=(xa+(t.getD k 0).toNat)%65521:=by rw[hct];rfl
  have hc2:(cN (t.take (k+1))).2=(xb+(xa+(t.getD k 0).toNat)%65521)%65521:=by rw[hct];rfl
  generalize hb:(t.getD k 0).toNat=b at *
  have l1:fM xa<65521:=Nat.mod_lt _ (by decide)
  have e2:(((fM xa:Nat):Int)+(b:Int)).tmod 65521=((fM ((xa+b)%65521):Nat):Int):=by
   rw[fQ (by omega)]
   unfold fM
   omega
  have e3:(((xb:Nat):Int)+((fM ((xa+b)%65521):Nat):Int)+1).tmod 65521=(((xb+(xa+b)%65521)%65521:Nat):Int):=by
   rw[fQ (by omega)]
   unfold fM
   omega
  have l2:fM ((xa+b)%65521)<65521:=Nat.mod_lt _ (by decide)
  refine ck hb e2 e3 ?_
  exact hR1 (k+1) _ (by omega) (by omega) (.le (ia hc1 hc2))
 ·obtain rfl:k=t.length:=by omega
  rw[List.take_of_length_le (Nat.le_refl _)]
  refine wW ?_
  exact hR.le vV ⟨rfl,rfl,rfl⟩
theorem acy {a b:Nat} (ha:a<65536) (hb:b<65536):bits .or .u32 (IntKind.u32.wrap ((b:Int)*2^min 16 32)) (a:Int)=((65536*b+a:Nat):Int):=by
 have h1:((b:Int)*2^min 16 32)=((b*65536:Nat):Int):=by
  rw[show((2:Int)^min 16 32)=65536 by decide];omega
 rw[h1,wrap_u32 (by omega)]
 show IntKind.u32.wrap ((BitVec.ofInt 32 ((b*65536:Nat):Int) ||| BitVec.ofInt 32 (a:Int)).toNat:Int)=_
 rw[BitVec.ofInt_natCast,BitVec.ofInt_natCast,BitVec.toNat_or,BitVec.toNat_ofNat,BitVec.toNat_ofNat,Nat.mod_eq_of_lt (by omega),Nat.mod_eq_of_lt (by omega)]
 have h2:b*65536 ||| a=65536*b+a:=by
  have h3:=Nat.shiftLeft_add_eq_or_of_lt (b:=a) (i:=16) (by omega) b
  rw[Nat.shiftLeft_eq,show(2:Nat)^16=65536 by decide]at h3
  omega
 rw[h2]
 exact wrap_u32 (by omega)
theorem Ew (t:Bs):Eng.Spec Tryz.prog 80 [(125003,.var [.int .u32 (fM (cN t).1:Nat),.int .u32 ((cN t).2:Nat)])] [.ab 125003 0]
    (fun h' v ar=>h'=[(125003,.var [.int .u32 (fM (cN t).1:Nat),.int .u32 ((cN t).2:Nat)])]∧v=.int .u32 (c8 t:Nat)∧ar=[.ab 125003 0]):=by
 refine Cod.Ex (fun E R hN hR=>?_)
 have hl:=mQ t
 unfold c8 at hR
 generalize cN t=x at *
 obtain⟨xa,xb⟩:=x
 simp only at hl hR ⊢
 have l1:fM xa<65521:=Nat.mod_lt _ (by decide)
 have e1:(((fM xa:Nat):Int)+1).tmod 65521=((xa:Nat):Int):=by
  rw[fQ (by omega)]
  unfold fM
  omega
 have e2:=acy (a:=xa) (b:=xb) (by omega) (by omega)
 refine bm e1 e2 ?_
 exact hR.le vV ⟨rfl,rfl,rfl⟩
theorem vf (t:Bs) (ht:t.length≤1000000000):aZ Tryz.prog 54 [.str t] (.int .u32 (c8 t:Nat)):=by
 refine Cod.Es (fun E R hN hR=>?_)
 have hw:=EI t ht
 have hs:=Ew t
 refine wW ?_
 refine aI [(125003,.var [.int .u32 0,.int .u32 0])] hw vV nofun ?_
 rintro h' v ar ⟨rfl,rfl,rfl⟩
 refine⟨vV,rfl,?_⟩
 refine wW ?_
 refine aI [(125003,.var [.int .u32 (fM (cN t).1:Nat),.int .u32 ((cN t).2:Nat)])] hs vV nofun ?_
 rintro h' v ar ⟨rfl,rfl,rfl⟩
 refine⟨vV,rfl,?_⟩
 refine wW ?_
 exact hR.ro ⟨rfl,rfl⟩
theorem apP (t:Bs) (ht:t.length≤1000000000):aZ Tryz.prog 60 [.str t] (.int .u32 (c8 t:Nat)):=by
 refine Cod.apQ (fun E R hN hR=>?_)
 refine wW ?_
 refine aK hN (fun k:Nat=>⟨[(0,.str t),(3,.int .i64 ((cN (t.take k)).1:Nat)),(4,.int .i64 ((cN (t.take k)).2:Nat)),(5,.int .i64 k)],[]⟩) (fun k=>k≤t.length) (fun k=>t.length-k) 0 (.le (by simp(disch:=omega)only[go_sem,simprocAttr];simp[cN])) (by omega) ?_
 rintro k R1 hk hR1
 by_cases hlt:k<t.length
 ·have hct:=rv t hlt
  have hxl:=mQ (t.take k)
  generalize cN (t.take k)=x at *
  have hbl:=(t.getD k 0).toNat_lt
  obtain⟨xa,xb⟩:=x
  simp only at hxl
  have hc1:(cN (t.take (k+1))).1=(xa+(t.getD k 0).toNat)%65521:=by rw[hct];rfl
  have hc2:(cN (t.take (k+1))).2=(xb+(xa+(t.getD k 0).toNat)%65521)%65521:=by rw[hct];rfl
  generalize hb:(t.getD k 0).toNat=b at *
  have e1:((xa:Int)+(b:Int)).tmod 65521=(((xa+b)%65521:Nat):Int):=by rw[fQ (by omega)];omega
  have e2:((xb:Int)+(((xa+b)%65521:Nat):Int)).tmod 65521=(((xb+(xa+b)%65521)%65521:Nat):Int):=by rw[fQ (by omega)];omega
  refine ck hb e1 e2 ?_
  exact hR1 (k+1) _ (by omega) (by omega) (.le (ia hc1 hc2))
 ·obtain rfl:k=t.length:=by omega
  rw[List.take_of_length_le (Nat.le_refl _)]
  have hl:=mQ t
  unfold c8 at hR
  generalize cN t=x at *
  obtain⟨xa,xb⟩:=x
  simp only at hl hR ⊢
  have e1:(65536:Int)*(xb:Int)+(xa:Int)=((65536*xb+xa:Nat):Int):=by omega
  refine aw e1 ?_
  exact hR.ro ⟨rfl,rfl⟩
def cT (t:Bs):Nat:=t.foldl (fun x c=>256*x+c.toNat) 0
theorem rK (t:Bs) {k:Nat} (h:k<t.length):cT (t.take (k+1))=256*cT (t.take k)+(t.getD k 0).toNat:=by
 rw[kr t h];simp[cT]
theorem oJ (t:Bs):∀k,k≤t.length→cT (t.take k)<256^k
 | 0,_=>by rw[List.take_zero];decide
 | k+1,h=>by
  have ih:=oJ t k (by omega)
  have hb:=(t.getD k 0).toNat_lt
  rw[rK t h,Nat.pow_succ]
  omega
theorem vP (t:Bs) {k:Nat} (h:k≤t.length) (h7:t.length≤6):cT (t.take k)<281474976710656:=by
 have h1:=oJ t k h
 have h2:256^k≤256^6:=Nat.pow_le_pow_right (by decide) (by omega)
 exact Nat.lt_of_lt_of_le h1 h2
theorem acA {x b:Nat} (hx:x<281474976710656) (hb:b<256):bits .or .u64 (IntKind.u64.wrap ((x:Int)*2^min 8 64)) (b:Int)=((256*x+b:Nat):Int):=by
 have h1:((x:Int)*2^min 8 64)=((x*256:Nat):Int):=by
  rw[show((2:Int)^min 8 64)=256 by decide];omega
 rw[h1,wrap_u64 (by omega)]
 show IntKind.u64.wrap ((BitVec.ofInt 64 ((x*256:Nat):Int) ||| BitVec.ofInt 64 (b:Int)).toNat:Int)=_
 rw[BitVec.ofInt_natCast,BitVec.ofInt_natCast,BitVec.toNat_or,BitVec.toNat_ofNat,BitVec.toNat_ofNat,Nat.mod_eq_of_lt (by omega),Nat.mod_eq_of_lt (by omega)]
 have h2:x*256 ||| b=256*x+b:=by
  have h3:=Nat.shiftLeft_add_eq_or_of_lt (b:=b) (i:=8) (by omega) x
  rw[Nat.shiftLeft_eq,show(2:Nat)^8=256 by decide]at h3
  omega
 rw[h2]
 exact wrap_u64 (by omega)
theorem acB {x b:Nat} (hx:x<281474976710656) (hb:b<256):bits .or .i64 (IntKind.i64.wrap ((x:Int)*2^min 8 64)) (b:Int)=((256*x+b:Nat):Int):=by
 have h1:((x:Int)*2^min 8 64)=((x*256:Nat):Int):=by
  rw[show((2:Int)^min 8 64)=256 by decide];omega
 rw[h1,ib (by omega)]
 show IntKind.i64.wrap ((BitVec.ofInt 64 ((x*256:Nat):Int) ||| BitVec.ofInt 64 (b:Int)).toNat:Int)=_
 rw[BitVec.ofInt_natCast,BitVec.ofInt_natCast,BitVec.toNat_or,BitVec.toNat_ofNat,BitVec.toNat_ofNat,Nat.mod_eq_of_lt (by omega),Nat.mod_eq_of_lt (by omega)]
 have h2:x*256 ||| b=256*x+b:=by
  have h3:=Nat.shiftLeft_add_eq_or_of_lt (b:=b) (i:=8) (by omega) x
  rw[Nat.shiftLeft_eq,show(2:Nat)^8=256 by decide]at h3
  omega
 rw[h2]
 exact ib (by omega)
theorem sH (t:Bs) (ht:t.length≤6):aZ Tryz.prog 19 [.str t] (.int .u64 (cT t:Nat)):=by
 refine Cod.N0 (fun E R hN hR=>?_)
 refine wW ?_
 refine aK hN (fun k:Nat=>⟨[(0,.str t),(3,.int .u64 (cT (t.take k):Nat)),(6,.int .i64 t.length),(7,.int .i64 k)],[]⟩) (fun k=>k≤t.length) (fun k=>t.length-k) 0 (.le (by simp(disch:=omega)only[go_sem,simprocAttr];simp[cT])) (by omega) ?_
 rintro k R1 hk hR1
 by_cases hlt:k<t.length
 ·have hct:=rK t hlt
  have hxl:=vP t hk ht
  have hbl:=(t.getD k 0).toNat_lt
  have ho:=acA hxl hbl
  generalize cT (t.take k)=x at *
  refine aw ho ?_
  exact hR1 (k+1) _ (by omega) (by omega) (.le (cW hct))
 ·obtain rfl:k=t.length:=by omega
  rw[List.take_of_length_le (Nat.le_refl _)]
  refine wW ?_
  exact hR.ro ⟨rfl,rfl⟩
theorem atT (t:Bs) (ht:t.length≤6):aZ Tryz.prog 21 [.str t] (.int .u64 (cT t:Nat)):=by
 refine Cod.atU (fun E R hN hR=>?_)
 refine wW ?_
 refine aK hN (fun k:Nat=>⟨[(0,.str t),(3,.int .u64 (cT (t.take k):Nat)),(4,.int .i64 k)],[]⟩) (fun k=>k≤t.length) (fun k=>t.length-k) 0 (.le (by simp(disch:=omega)only[go_sem,simprocAttr];simp[cT])) (by omega) ?_
 rintro k R1 hk hR1
 by_cases hlt:k<t.length
 ·have hct:=rK t hlt
  have hxl:=vP t hk ht
  have hbl:=(t.getD k 0).toNat_lt
  generalize cT (t.take k)=x at *
  refine wW ?_
  exact hR1 (k+1) _ (by omega) (by omega) (.le (cW hct))
 ·obtain rfl:k=t.length:=by omega
  rw[List.take_of_length_le (Nat.le_refl _)]
  refine wW ?_
  exact hR.ro ⟨rfl,rfl⟩
def bh (x n:Nat):Bs:=(List.range n).map fun i=>UInt8.ofNat (x/256^i%256)
theorem eA (x n:Nat):(bh x n).length=n:=by simp[bh]
theorem zx (x n:Nat):bh x (n+1)=bh x n++[UInt8.ofNat (x/256^n%256)]:=by simp[bh,List.range_succ]
theorem atu (x n:Nat) (hx:x<9223372036854775808) (hn:n≤1000):aZ Tryz.prog 90 [.int .u64 x,.int .i64 n] (.str (bh x n)):=by
 refine Cod.atv (fun E R hN hR=>?_)
 refine wW ?_
 refine aK hN (fun k:Nat=>⟨[(0,.int .u64 (x/256^k:Nat)),(1,.int .i64 n),(5,.sl 130007 0 k),(6,.int .i64 k)],[(130007,.arr 1 ((bh x k).map ub))]⟩) (fun k=>k≤n) (fun k=>n-k) 0 (.le (by simp(disch:=omega)only[go_sem,simprocAttr];simp[bh])) (by omega) ?_
 rintro k R1 hk hR1
 have hl:=eA x k
 by_cases hlt:k<n
 ·have hct:=zx x k
  have hd:x/256^k≤x:=Nat.div_le_self _ _
  have hR1':=fun st'=>hR1 (k+1) st' (by omega) (by omega)
  have hp:x/256^(k+1)=x/256^k/256:=by rw[Nat.pow_succ,Nat.div_div_eq_div_mul]
  rw[hp]at hR1' 
  generalize x/256^k=x1 at *
  have e1:((x1:Nat):Int).tmod 256=((x1%256:Nat):Int):=by rw[fQ (by omega)];omega
  have e2:((x1:Nat):Int).tdiv 256=((x1/256:Nat):Int):=by rw[jV (by omega)];omega
  have e3:((x1%256:Nat):Int)=((UInt8.ofNat (x1%256)).toNat:Int):=by rw[UInt8.toNat_ofNat'];omega
  have hu:=(UInt8.ofNat (x1%256)).toNat_lt
  rw[e3]at e1
  generalize UInt8.ofNat (x1%256)=c at *
  refine bm e1 e2 ?_
  exact hR1' _ (.le (by rw[hct];simp(disch:=omega)only[go_sem,simprocAttr];simp[ub]))
 ·obtain rfl:k=n:=by omega
  refine wW ?_
  exact hR.wk (h':=[]) (r':=.str (bh x k)) (ar':=[.undef,.undef]) rfl (.le vV) ⟨rfl,rfl⟩
theorem Cj (t:Bs) {k:Nat} (h:k<t.length):t.reverse.take (k+1)=t.reverse.take k++[t.getD (t.length-1-k) 0]:=by
 rw[kr t.reverse (by simpa using h),List.getD_eq_getElem?_getD,List.getElem?_reverse h,List.getD_eq_getElem?_getD]
theorem ais (t:Bs) (ht:t.length≤1000000):aZ Tryz.prog 89 [.str t] (.str t.reverse):=by
 refine Cod.ait (fun E R hN hR=>?_)
 refine wW ?_
 refine aK hN (fun k:Nat=>⟨[(0,.str t),(3,.sl 131005 0 k),(4,.int .i64 ((t.length:Int)-1-(k:Int)))],[(131005,.arr 1 ((t.reverse.take k).map ub))]⟩) (fun k=>k≤t.length) (fun k=>t.length-k) 0 (.le vV) (by omega) ?_
 rintro k R1 hk hR1
 have hl:(t.reverse.take k).length=k:=by rw[List.length_take,List.length_reverse];omega
 by_cases hlt:k<t.length
 ·have hct:=Cj t hlt
  have ei:(t.length:Int)-1-(k:Int)=((t.length-1-k:Nat):Int):=by omega
  have ei2:(t.length:Int)-1-(k:Int)-1=(t.length:Int)-1-((k+1:Nat):Int):=by omega
  have hu:=(t.getD (t.length-1-k) 0).toNat_lt
  rw[ei]
  refine wW ?_
  refine hR1 (k+1) _ (by omega) (by omega) (.le ?_)
  rw[hct,show((t.length:Int)-1-((k+1:Nat):Int))=((t.length-1-k:Nat):Int)-1 by omega]
  refine wW ?_
  simp[ub]
 ·obtain rfl:k=t.length:=by omega
  rw[List.take_of_length_le (by rw[List.length_reverse];omega)]at hl ⊢
  have ei:(t.length:Int)-1-(t.length:Int) = -1:=by omega
  rw[ei]
  refine wW ?_
  exact hR.wk (h':=[]) (r':=.str t.reverse) (ar':=[.undef]) rfl (.le vV) ⟨rfl,rfl⟩
theorem aqM (x n:Nat) (hx:x<9223372036854775808) (hn:n≤1000):aZ Tryz.prog 59 [.int .u64 x,.int .i64 n] (.str (bh x n).reverse):=by
 refine Cod.aqN (fun E R hN hR=>?_)
 have h1:=atu x n hx hn
 have h2:=ais (bh x n) (by rw[eA];omega)
 refine wW ?_
 refine aG h1 rfl rfl ?_
 refine wW ?_
 refine aG h2 rfl rfl ?_
 refine wW ?_
 exact hR.ro ⟨rfl,rfl⟩
theorem oK (u:Bs) (hu:u.length=4) (v:Nat) (hv:v<4294967296):cT u=v↔u=(bh v 4).reverse:=by
 obtain⟨a,b,c,d,rfl⟩:∃a b c d,u=[a,b,c,d]:=by
  match u,hu with
  | [a,b,c,d],_=>exact⟨a,b,c,d,rfl⟩
 have ha:=a.toNat_lt
 have hb:=b.toNat_lt
 have hc:=c.toNat_lt
 have hd:=d.toNat_lt
 have e1:cT [a,b,c,d]=256*(256*(256*a.toNat+b.toNat)+c.toNat)+d.toNat:=by simp[cT]
 have e2:(bh v 4).reverse=[UInt8.ofNat (v/16777216%256),UInt8.ofNat (v/65536%256),UInt8.ofNat (v/256%256),UInt8.ofNat (v%256)]:=by simp[bh,List.range_succ]
 rw[e1,e2]
 constructor
 ·intro h
  have f:∀(x:UInt8) (n:Nat),x.toNat=n→x=UInt8.ofNat n:=fun x n h=>by rw[←h,UInt8.ofNat_toNat]
  rw[f a _ (show a.toNat=v/16777216%256 by omega),f b _ (show b.toNat=v/65536%256 by omega),f c _ (show c.toNat=v/256%256 by omega),f d _ (show d.toNat=v%256 by omega)]
 ·intro h
  simp only[List.cons.injEq,and_true]at h
  obtain⟨rfl,rfl,rfl,rfl⟩:=h
  simp only[UInt8.toNat_ofNat']
  omega
def jj (a b:Nat):Bool:=decide (a%16=8)&&(decide (a/16≤7)&&(decide ((256*a+b)%31=0)&&decide (b/32%2=0)))
theorem E7 {b:Nat} (h:b<256):bits .and .u8 (b:Int) 32=((b/32%2*32:Nat):Int):=by
 have:∀b:Nat,b<256→bits .and .u8 (b:Int) 32=((b/32%2*32:Nat):Int):=by decide +kernel
 exact this b h
theorem aBZ (a b:UInt8):aZ Tryz.prog 52 [.int .u8 a.toNat,.int .u8 b.toNat] (.bool (jj a.toNat b.toNat)):=by
 refine Cod.aB0 (fun E R hN hR=>?_)
 have ha:=a.toNat_lt
 have hb:=b.toNat_lt
 have e1:=DA a
 have e2:=Dz a
 have e3:=acB (x:=a.toNat) (b:=b.toNat) (by omega) hb
 have e4:((256*a.toNat+b.toNat:Nat):Int).tmod 31=(((256*a.toNat+b.toNat)%31:Nat):Int):=by rw[fQ (by omega)];omega
 have e5:=E7 hb
 unfold jj at hR
 generalize a.toNat=x at *
 generalize b.toNat=y at *
 by_cases h1:x%16=8
 ·by_cases h2:x/16≤7
  ·by_cases h3:(256*x+y)%31=0
   ·by_cases h4:y/32%2=0
    ·rw[decide_eq_true h1,decide_eq_true h2,decide_eq_true h3,decide_eq_true h4]at hR
     rw[h1]at e1
     rw[h3]at e4
     rw[h4]at e5
     refine cM e1 e2 e3 e4 e5 ?_
     refine nr e1 e2 e3 e4 e5 ?_
     exact hR.ro ⟨rfl,rfl⟩
    ·rw[decide_eq_true h1,decide_eq_true h2,decide_eq_true h3,decide_eq_false h4]at hR
     rw[h1]at e1
     rw[h3]at e4
     rw[show y/32%2=1 by omega]at e5
     refine cM e1 e2 e3 e4 e5 ?_
     refine nr e1 e2 e3 e4 e5 ?_
     exact hR.ro ⟨rfl,rfl⟩
   ·rw[decide_eq_true h1,decide_eq_true h2,decide_eq_false h3]at hR
    rw[h1]at e1
    have hi:¬(((256*x+y)%31:Nat):Int)=0:=by omega
    refine cM e1 e2 e3 e4 hi ?_
    refine nr e1 e2 e3 e4 hi ?_
    exact hR.ro ⟨rfl,rfl⟩
  ·rw[decide_eq_true h1,decide_eq_false h2]at hR
   rw[h1]at e1
   have hi:¬((x/16:Nat):Int)≤7:=by omega
   refine ck e1 e2 hi ?_
   refine gS e1 e2 hi ?_
   exact hR.ro ⟨rfl,rfl⟩
 ·rw[decide_eq_false h1]at hR
  have hi:¬((x%16:Nat):Int)=8:=by omega
  refine bm e1 hi ?_
  refine eL e1 hi ?_
  exact hR.ro ⟨rfl,rfl⟩
theorem apa (x y:Nat) (hx:x<256) (hy:y<256):aZ Tryz.prog 57 [.int .i64 x,.int .i64 y] (.bool (jj x y)):=by
 refine Cod.apb (fun E R hN hR=>?_)
 have e1:(x:Int).tmod 16=((x%16:Nat):Int):=by rw[fQ (by omega)];omega
 have e2:(x:Int).tdiv 16=((x/16:Nat):Int):=by rw[jV (by omega)];omega
 have e4:(256*(x:Int)+(y:Int)).tmod 31=(((256*x+y)%31:Nat):Int):=by rw[fQ (by omega)];omega
 have e5:(y:Int).tdiv 32=((y/32:Nat):Int):=by rw[jV (by omega)];omega
 have e6:((y/32:Nat):Int).tmod 2=((y/32%2:Nat):Int):=by rw[fQ (by omega)];omega
 unfold jj at hR
 by_cases h1:x%16=8
 ·by_cases h2:x/16≤7
  ·by_cases h3:(256*x+y)%31=0
   ·by_cases h4:y/32%2=0
    ·rw[decide_eq_true h1,decide_eq_true h2,decide_eq_true h3,decide_eq_true h4]at hR
     rw[h1]at e1
     rw[h3]at e4
     rw[h4]at e6
     refine cM e1 e2 e4 e5 e6 ?_
     refine nr e1 e2 e4 e5 e6 ?_
     exact hR.ro ⟨rfl,rfl⟩
    ·rw[decide_eq_true h1,decide_eq_true h2,decide_eq_true h3,decide_eq_false h4]at hR
     rw[h1]at e1
     rw[h3]at e4
     rw[show y/32%2=1 by omega]at e6
     refine cM e1 e2 e4 e5 e6 ?_
     refine nr e1 e2 e4 e5 e6 ?_
     exact hR.ro ⟨rfl,rfl⟩
   ·rw[decide_eq_true h1,decide_eq_true h2,decide_eq_false h3]at hR
    rw[h1]at e1
    have hi:¬(((256*x+y)%31:Nat):Int)=0:=by omega
    refine eC e1 e2 e4 hi ?_
    refine x7 e1 e2 e4 hi ?_
    exact hR.ro ⟨rfl,rfl⟩
  ·rw[decide_eq_true h1,decide_eq_false h2]at hR
   rw[h1]at e1
   have hi:¬((x/16:Nat):Int)≤7:=by omega
   refine ck e1 e2 hi ?_
   refine gS e1 e2 hi ?_
   exact hR.ro ⟨rfl,rfl⟩
 ·rw[decide_eq_false h1]at hR
  have hi:¬((x%16:Nat):Int)=8:=by omega
  refine bm e1 hi ?_
  refine eL e1 hi ?_
  exact hR.ro ⟨rfl,rfl⟩
open Eng
set_option maxRecDepth 10000
theorem Cp (l:List Nat) {s t:Nat} (hs:s<l.length) (ht:t<l.length) (he:l.getD s 0=l.getD t 0) (hr:fG l s=fG l t):s=t:=by
 have key:∀{s t:Nat},s<l.length→t<l.length→l.getD s 0=l.getD t 0→s<t→fG l s<fG l t:=by
  intro s t hs ht he hlt
  unfold fG
  rw[←he]
  have h1:=rX (l.take t) (s+1) (l.getD s 0)
  rw[List.take_take,Nat.min_eq_left (by omega),gy l 0 hs,jB,if_pos rfl]at h1
  omega
 rcases Nat.lt_trichotomy s t with h | h | h
 ·have:=key hs ht he h;omega
 ·exact h
 ·have:=key ht hs he.symm h;omega
def kc (l:List Nat) (m:Nat):Nat:=if m=0 then 0 else fstL l m+bj l m
theorem O3 (l:List Nat) (m:Nat):fstL l (m+1)=2*kc l m:=by
 cases m with
 | zero=>rfl
 | succ m=>simp[kc,fstL]
theorem yl (l:List Nat) (hl:∀n∈l,n≤15) (hll:l.length≤320) (hck:bo l=true) (s:Nat) (hs:s<l.length) (h1:1≤l.getD s 0) :
    aZ Tryz.prog 93 [bq l,.int .i64 s] (.ak [.int .u32 (cI l s:Nat),.int .i64 (l.getD s 0:Nat)]):=by
 have hc:cn l≤32768:=by unfold bo at hck;simp at hck;exact hck.1
 refine Cod.Px (fun E R hN hR=>?_)
 have h15:=gV hl s
 have hsl:=kp l 15
 have htl:=Dk l
 have hts:=Dl l
 have hnl:=bU (sortL l 15)
 have hnl0:=bU l
 have hns:=dQ hs
 have hsub:=qP l
 have hcl:=jC l
 have ht0:(eN l).getD 0 .undef=.ro 1 (an l):=rfl
 generalize hL:l.getD s 0=L at *
 have hrk:=nL l hs
 rw[hL]at hrk
 have hne:¬((L:Int)=0):=by omega
 simp(disch:=omega)only[go_sem,simprocAttr,bq,htl,hts,ht0,hnl,hnl0,hns,hne]
 refine gG ?_
 refine aK hN (fun m:Nat=>⟨[(0,.az (.agg (eN l))),(1,.int .i64 s),(6,.int .u32 (kc l m:Nat)),(7,.int .i64 (bx l (m+1):Nat)),(8,.int .i64 ((m:Int)+1)),(2000000,.az (.agg (eN l))),(2000001,.int .i64 s)],[]⟩)
  (fun m=>m<L) (fun m=>L-m) 0 (.le (by simp(disch:=omega)only[go_sem,simprocAttr,kc,bx])) (by omega) ?_
 rintro m R1 hm hR1
 have hf:=O3 l m
 have hkr:=pW hc (n:=m+1) (by omega) (by omega)
 have hk2:2^(m+1)≤2^15:=Nat.pow_le_pow_right (by decide) (by omega)
 have hcg:=kM l (n:=m+1) (by omega)
 have ecast:((m:Int)+1).toNat=m+1:=by omega
 have hsh:IntKind.u32.wrap (((kc l m:Nat):Int)*2^min 1 32)=((fstL l (m+1):Nat):Int):=by
  rw[hf]
  show(((kc l m:Nat):Int)*2)%4294967296=_
  omega
 refine cM htl hsub hcl ecast hcg ?_
 rw[hsh]
 generalize hF:fstL l (m+1)=F at *
 generalize hC:bj l (m+1)=C at *
 refine aK hN (fun k:Nat=>⟨[(0,.az (.agg (eN l))),(1,.int .i64 s),(6,.int .u32 ((F+k:Nat):Int)),(7,.int .i64 ((bx l (m+1)+k:Nat):Int)),(8,.int .i64 ((m:Int)+1)),(41,.int .i64 C),(42,.int .i64 k),(2000000,.az (.agg (eN l))),(2000001,.int .i64 s)],[]⟩)
  (fun k=>k≤C∧(m+1=L→k≤fG l s)) (fun k=>C-k) 0 (.le vV) ⟨by omega,fun _=>by omega⟩ ?_
 rintro k R2 ⟨hk,hk1⟩ hR2
 have hp15:bx l (m+1)+C≤(sortL l 15).length:=by
  rw[hsl,←hC]
  have:=mA l (m+2) (14-m)
  rw[show m+2+(14-m)=16 by omega]at this
  exact this
 have hp16:(sortL l 15).length≤320:=by rw[hsl,qs l hl];exact Nat.le_trans List.countP_le_length hll
 by_cases hlt:k<C
 ·obtain⟨s',g1,g2,g3,g4⟩:=qG l (N:=15) (n:=m+1) (k:=k) (by omega) (by omega) (by omega)
  have hnth:=dQ (xs:=sortL l 15) (i:=bx l (m+1)+k) (by omega)
  rw[g1]at hnth
  have ei:((bx l (m+1):Int)+(k:Int)).toNat=bx l (m+1)+k:=by omega
  refine cM htl hts hnl ei hnth ?_
  by_cases hss:s'=s
  ·subst hss
   have hmL:m+1=L:=by rw[←g3,hL]
   have hcw:cI l s'=F+k:=by unfold cI;rw[hL,←hmL,g4,hF]
   rw[hcw]at hR
   subst hmL
   refine wW ?_
   exact hR.ro ⟨rfl,by push_cast;rfl⟩
  ·have hrne:m+1=L→k+1≤fG l s:=fun e=>by
    have h3:=hk1 e
    have:k≠fG l s:=fun e2=>hss (Cp l g2 hs (by rw[g3,hL,e]) (by rw[g4,e2]))
    omega
   simp(disch:=omega)only[go_sem,simprocAttr,show ¬((s':Int)=s)by omega]
   exact hR2 (k+1) _ (by omega) ⟨by omega,hrne⟩ (.le vV)
 ·obtain rfl:k=C:=by omega
  have hmL:m+1≠L:=fun e=>by
   have h3:=hk1 e
   rw[e]at hC
   omega
  have hh:kc l (m+1)=F+k:=by simp[kc,hF,hC]
  have hpr:bx l (m+1+1)=bx l (m+1)+k:=by rw[←hC];rfl
  refine wW ?_
  exact hR1 (m+1) _ (by omega) (by omega) (.le (ia hh hpr))
theorem zc (F most n:Nat) (B:Nat→Nat×Nat) (hF:callable Tryz.prog F=true) (hm:most≤100) (hn:n≤1000000) (hB:∀i,i≤most→aZ Tryz.prog F [.int .i64 i] (.ak [.int .i64 ((B i).1:Nat),.int .i64 ((B i).2:Nat)])) (h0:(B 0).1≤n) (hbb:∀i,i≤most→(B i).1≤1000000) :
    Eng.Spec Tryz.prog 95 [] [.int .i64 n,.int .i64 most,.lit (.func (.func F) #[] #[])]
     (fun h r _=>h=[]∧∃i,i≤most∧(B i).1≤n∧(∀j,i<j→j≤most→n<(B j).1)∧r=.ak [.int .i64 i,.int .u32 ((n-(B i).1:Nat)),.int .i64 ((B i).2:Nat)]):=by
 refine Cod.Xd (fun E R hN hR=>?_)
 refine wW ?_
 refine aK hN (fun i:Nat=>⟨[(0,.int .i64 n),(2,.lit (.func (.func F) #[] #[])),(9,.int .i64 i)],[]⟩) (fun i=>i≤most∧∀j,i<j→j≤most→n<(B j).1) (fun i=>i) most (.le vV) ⟨by omega,fun j h1 h2=>by omega⟩ ?_
 rintro i R1 ⟨hi,hup⟩ hR1
 have hbi:=hbb i hi
 refine wW ?_
 refine xv hF (aG (hB i hi) rfl rfl ?_)
 refine wW ?_
 by_cases hle:(B i).1≤n
 ·refine wW ?_
  rw[show(n:Int)-((B i).1:Int)=((n-(B i).1:Nat):Int)by omega]
  exact hR.ro ⟨rfl,i,hi,hle,hup,rfl⟩
 ·have hi0:i≠0:=fun e=>by subst e;omega
  refine wW ?_
  exact hR1 (i-1) _ (by omega) ⟨by omega,fun j h1 h2=>by
   by_cases e:j=i
   ·subst e;omega
   ·exact hup j (by omega) h2⟩ (.le (by simp(disch:=omega)only[go_sem,simprocAttr,show((i-1:Nat):Int)=(i:Int)-1 by omega]))
theorem C3 (x n:Nat) (hx:x<9223372036854775808) (hn:n≤8):aZ Tryz.prog 117 [.int .u64 x,.int .i64 n] (.str (bh x n)):=by
 refine Cod.ax7 (fun E R hN hR=>?_)
 have em:max (n:Int) 0=n:=by omega
 refine aw em ?_
 refine aK hN (fun k:Nat=>⟨[(0,.int .u64 x),(5,.sl 177024 0 k),(8,.int .i64 n),(9,.int .i64 k)],[(177024,.arr 1 ((bh x k).map ub))]⟩) (fun k=>k≤n) (fun k=>n-k) 0 (.nil 5 177024 1 rfl (.le (by simp(disch:=omega)only[go_sem,simprocAttr,show bh x 0=[]from rfl,List.map_nil]))) (by omega) ?_
 rintro k R1 hk hR1
 have hl:=eA x k
 by_cases hlt:k<n
 ·have hct:=zx x k
  have hsh:(x:Int).fdiv (2^min ((8*(k:Int)).toNat) 64)=((x/256^k:Nat):Int):=by
   have e1:(8*(k:Int)).toNat=8*k:=by omega
   rw[e1,Nat.min_eq_left (by omega),Int.fdiv_eq_ediv_of_nonneg _ (Int.pow_nonneg (by decide)),show(256:Nat)=2^8 from rfl,←Nat.pow_mul]
   norm_cast
  generalize x/256^k=y at *
  have e3:IntKind.u8.wrap (y:Int)=((UInt8.ofNat (y%256)).toNat:Int):=by
   rw[UInt8.toNat_ofNat']
   show(y:Int)%256=_
   omega
  have e8:¬(8:Int)≤(k:Int):=by omega
  refine ck e8 hsh e3 ?_
  exact hR1 (k+1) _ (by omega) (by omega) (.le (by rw[hct];simp(disch:=omega)only[go_sem,simprocAttr];simp[ub]))
 ·obtain rfl:k=n:=by omega
  refine wW ?_
  exact hR.wk (h':=[]) (r':=.str (bh x k)) (ar':=[.undef,.undef]) rfl (.le vV) ⟨rfl,rfl⟩
theorem nH (t:Bs) (most:Nat) {S:SS} (h:S.err≠0):∀n,rawS t most n S=S
 | 0=>rfl
 | n+1=>by rw[tY,if_pos h]
theorem B6 (t:Bs) (most:Nat):∀(n:Nat) (S:SS) (q:Nat),S.err=0→S.p=8*q→q≤t.length→S.out.length≤most →
    (rawS t most n S).err=(if most<S.out.length+min n (t.length-q)then 2 else if t.length<q+n then 6 else 0)∧((rawS t most n S).err=0→rawS t most n S=⟨8*(q+n),S.out++(t.drop q).take n,0⟩)
 | 0,S,q,he,hp,hq,ho=>by
  refine⟨?_,fun _=>?_⟩
  ·rw[if_neg (by omega),if_neg (by omega)];exact he
  ·obtain⟨p,out,err⟩:=S
   simp only at he hp
   subst he hp
   simp[rawS]
 | n+1,S,q,he,hp,hq,ho=>by
  rw[tY,if_neg (by simpa using he)]
  by_cases hq1:q=t.length
  ·have hn:=kl (n:=8) he (t:=t) (by omega)
   rw[hn]
   have hput:dk most (UInt8.ofNat (0,{S with err:=6}).1) (0,{S with err:=6}).2={S with err:=6}:=if_pos (by simp)
   rw[hput,nH _ _ (by simp)]
   refine⟨?_,fun h=>absurd h (by simp)⟩
   rw[if_neg (by omega),if_pos (by omega)]
  ·have hn:=eW (n:=8) he (t:=t) (by omega)
   rw[hn]
   simp only
   rw[hp,jL,UInt8.ofNat_toNat]
   unfold dk
   rw[if_neg (by simpa using he)]
   by_cases hf:most≤S.out.length
   ·simp only[if_pos hf]
    rw[nH _ _ (by simp)]
    refine⟨?_,fun h=>absurd h (by simp)⟩
    rw[if_pos (by omega)]
   ·simp only[if_neg hf]
    obtain⟨h1,h2⟩:=B6 t most n {p:=8*q+8,out:=S.out++[t.getD q 0],err:=S.err} (q+1) he (by simp only;omega) (by omega) (by simp only[List.length_append,List.length_singleton];omega)
    refine⟨?_,fun h=>?_⟩
    ·rw[h1]
     simp only[List.length_append,List.length_singleton]
     rw[show S.out.length+1+min n (t.length-(q+1))=S.out.length+min (n+1) (t.length-q)by omega,show q+1+n=q+(n+1)by omega]
    ·rw[h2 h]
     have hlt:q<t.length:=by omega
     rw[List.drop_eq_getElem_cons hlt,List.take_succ_cons,List.getD_eq_getElem?_getD,List.getElem?_eq_getElem hlt,show q+1+n=q+(n+1)by omega]
     simp
theorem ayK (t:Bs) (most:Nat) (S:SS) (he:S.err=0) (hp:S.p≤8*t.length) (ho:S.out.length≤most) (q:Nat) (hq:cS S.p=8*q) :
    if t.length<q+4 then(eJ t most S).err=6 else
     if(t.getD q 0).toNat+(t.getD (q+1) 0).toNat*2^8+((t.getD (q+2) 0).toNat+(t.getD (q+3) 0).toNat*2^8)≠65535 then(eJ t most S).err=3 else
     (eJ t most S).err=(if most<S.out.length+min ((t.getD q 0).toNat+(t.getD (q+1) 0).toNat*2^8) (t.length-(q+4))then 2 else if t.length<q+4+((t.getD q 0).toNat+(t.getD (q+1) 0).toNat*2^8)then 6 else 0) ∧
     ((eJ t most S).err=0→eJ t most S=⟨8*(q+4+((t.getD q 0).toNat+(t.getD (q+1) 0).toNat*2^8)),S.out++(t.drop (q+4)).take ((t.getD q 0).toNat+(t.getD (q+1) 0).toNat*2^8),0⟩):=by
 have hn16:∀i,numAt t (8*i) 16=(t.getD i 0).toNat+(t.getD (i+1) 0).toNat*2^8:=by
  intro i
  rw[show(16:Nat)=8+8 from rfl,Ac,jL,show 8*i+8=8*(i+1)by omega,jL]
 have hup:gJ S={S with p:=8*q}:=by unfold gJ;unfold cS at hq;rw[hq]
 have hq2:q≤t.length:=by unfold cS at hq;omega
 unfold eJ
 simp only
 rw[hup]
 by_cases h4:t.length<q+4
 ·rw[if_pos h4]
  by_cases h2:t.length<q+2
  ·rw[kl (by exact he) (by simp only;omega)]
   simp only
   rw[ln (by simp)]
   simp only
   rw[if_pos (by decide)]
   rw[nH _ _ (iC (by decide))]
   rfl
  ·rw[eW (by exact he) (by simp only;omega)]
   simp only
   rw[kl (by exact he) (by simp only;omega)]
   simp only
   have hfe:cr 3 {p:=8*q+16,out:=S.out,err:=6}=({p:=8*q+16,out:=S.out,err:=6}:SS):=if_neg (by simp)
   rw[hfe,ite_self,nH _ _ (by simp)]
 ·rw[if_neg h4]
  rw[eW (by exact he) (by simp only;omega)]
  simp only
  rw[eW (by exact he) (by simp only;omega)]
  simp only
  rw[show 8*q+16=8*(q+2)by omega,hn16,hn16]
  by_cases hx:(t.getD q 0).toNat+(t.getD (q+1) 0).toNat*2^8+((t.getD (q+2) 0).toNat+(t.getD (q+2+1) 0).toNat*2^8)≠65535
  ·rw[if_pos hx,if_pos hx,nH _ _ (iC (by decide)),fh (by exact he)]
  ·rw[if_neg hx,if_neg hx]
   exact B6 t most _ _ (q+4) he (by simp only;omega) (by omega) ho
theorem awv (s:Bs) (a hv fr p:Nat) (hs:s.length≤1000000000000) (h:bL s a hv p) (hfr:8*fr≤p):Eng.Spec Tryz.prog 78 [] [.az (.agg (a8 s a hv fr))] (fun h' v ar=>h'=[]∧v=.int .i64 ((p+7)/8-fr:Nat)∧ar=[.az (.agg (a8 s a hv fr))]):=by
 refine Cod.awx (fun E R hN hR=>?_)
 obtain⟨h1,h2,h3⟩:=h
 have eq:(hv:Int).tdiv 8=((hv/8:Nat):Int):=by rw[jV (by omega)];omega
 have e2:(a:Int)-((hv/8:Nat):Int)-(fr:Int)=(((p+7)/8-fr:Nat):Int):=by omega
 refine uV eq e2 ?_
 exact hR.le vV ⟨rfl,rfl,rfl⟩
theorem ate (s:Bs) (a hv fr p:Nat) (hs:s.length≤1000000000000) (h:bL s a hv p):Eng.Spec Tryz.prog 123 [] [.az (.agg (a8 s a hv fr))] (fun h' v ar=>h'=[]∧v=.int .i64 (dD s p:Nat)∧ar=[.az (.agg (a8 s a hv fr))]):=by
 refine Cod.atg (fun E R hN hR=>?_)
 obtain⟨h1,h2,h3⟩:=h
 have e2:8*((s.length:Int)-(a:Int))+(hv:Int)=((dD s p:Nat):Int):=by unfold dD;omega
 refine aAu e2 ?_
 exact hR.le vV ⟨rfl,rfl,rfl⟩
theorem ay8 (s:Bs) (q:Nat) (h:q+4≤s.length):(s.drop q).take 4=[s.getD q 0,s.getD (q+1) 0,s.getD (q+2) 0,s.getD (q+3) 0]:=by
 have e:(s.drop q).take 4=(s.drop q).take 2++(s.drop (q+2)).take 2:=by rw[show(4:Nat)=2+2 from rfl,List.take_add,List.drop_drop]
 rw[e,xq s q (by omega),xq s (q+2) (by omega)]
 rfl
theorem aBO {n:Nat} (h:n<65536):n ^^^ 65535=65535-n:=by
 have h1:(BitVec.ofNat 16 n ^^^ BitVec.allOnes 16).toNat=(~~~ (BitVec.ofNat 16 n)).toNat:=by rw[BitVec.xor_allOnes]
 rw[BitVec.toNat_xor,BitVec.toNat_not,BitVec.toNat_ofNat,BitVec.toNat_allOnes,Nat.mod_eq_of_lt (by omega)]at h1
 omega
set_option maxHeartbeats 1000000 in
theorem WZ (s:Bs) (o most a hv:Nat) (S:SS) (hs:s.length≤1000000000) (ho:o≤s.length) (hm:most≤1000000) (hr:bL s a hv (8*o+S.p)) (hol:S.out.length≤most) (he:S.err=0) :
    Eng.Spec Tryz.prog 104 (a6 s o most a hv S.out) [.ab fJ 0] (fun h' v ar=>PI s o most (eJ (s.drop o) most S) h' v∧ar=[.ab fJ 0]):=by
 refine Cod.W3 (fun E R hN hR=>?_)
 obtain⟨q,hq⟩:∃q,cS S.p=8*q:=⟨(S.p+7)/8,by unfold cS;omega⟩
 have hr':=hr
 obtain⟨r1,r2,r3⟩:=hr'
 have hpl:S.p≤8*(s.drop o).length:=by rw[List.length_drop];omega
 have hup:cS (8*o+S.p)=8*(o+q):=by unfold cS at hq ⊢;omega
 have hud:cS (8*o+S.p)/8=o+q:=by omega
 have law:=ayK (s.drop o) most S he hpl hol q hq
 generalize eJ (s.drop o) most S=F at *
 have gd:∀i,(s.drop o).getD i 0=s.getD (o+i) 0:=fun i=>by rw[List.getD_eq_getElem?_getD,List.getElem?_drop,←List.getD_eq_getElem?_getD]
 rw[gd,gd,gd,gd,List.length_drop,List.drop_drop]at law
 have hb:=tZ s a hv o (8*o+S.p) 4 (by omega) (by decide) hr
 rw[hud]at hb
 refine iW ?_
 refine aI [(RD,.var (a8 s a hv o))] hb vV nofun ?_
 rintro h' v ar ⟨a1,hv1,hr1,hz1,rfl,rfl,rfl⟩
 by_cases h4:s.length<o+q+4
 ·rw[if_neg (by omega)]at hr1
  rw[if_neg (by omega),decide_eq_false (by omega)]
  rw[if_pos (by omega)]at law
  refine⟨cG,rfl,?_⟩
  refine iX ?_
  exact hR.le (h':=a6 s o most a1 hv1 S.out) bE ⟨jq ⟨a1,hv1,{S with p:=8*q,err:=6},rfl,by simp only;rw[show 8*o+8*q=8*(o+q)by omega,←hup];exact hr1,hol,by rw[law];rfl,fun h=>absurd h (by rw[law];decide)⟩,rfl⟩
 ·rw[if_pos (by omega)]at hr1
  rw[if_pos (by omega),decide_eq_true (by omega),ay8 s (o+q) (by omega)]
  rw[if_neg (by omega)]at law
  generalize s.getD (o+q) 0=c0 at *
  generalize s.getD (o+(q+1)) 0=c1 at *
  generalize s.getD (o+(q+2)) 0=c2 at *
  generalize s.getD (o+(q+3)) 0=c3 at *
  have hc0:=c0.toNat_lt
  have hc1:=c1.toNat_lt
  have hc2:=c2.toNat_lt
  have hc3:=c3.toNat_lt
  have l1:=zy c0 c1
  have l2:=zy c2 c3
  generalize hn:c0.toNat+c1.toNat*2^8=n at *
  generalize hk:c2.toNat+c3.toNat*2^8=k at *
  have hn6:n<65536:=by omega
  have hk6:k<65536:=by omega
  refine⟨cG,rfl,?_⟩
  refine iX ?_
  refine aG l1 rfl rfl ?_
  refine wW ?_
  refine aG l2 rfl rfl ?_
  have ex:bits .xor .i64 (n:Int) 65535=((65535-n:Nat):Int):=by
   show IntKind.i64.wrap ((BitVec.ofInt 64 (n:Int) ^^^ BitVec.ofInt 64 ((65535:Nat):Int)).toNat:Int)=_
   rw[BitVec.ofInt_natCast,BitVec.ofInt_natCast,BitVec.toNat_xor,BitVec.toNat_ofNat,BitVec.toNat_ofNat,Nat.mod_eq_of_lt (by omega),Nat.mod_eq_of_lt (by decide),aBO hn6]
   exact ib (by omega)
  refine aw ex ?_
  by_cases hx:n+k≠65535
  ·rw[if_pos hx]at law
   have hne:¬((65535-n:Nat):Int)=(k:Int):=by omega
   refine aw hne ?_
   exact hR.le (h':=a6 s o most a1 hv1 S.out) bE ⟨jq ⟨a1,hv1,{S with p:=8*(q+4),err:=3},rfl,by simp only;rw[hup]at hr1;rw[show 8*o+8*(q+4)=8*(o+q)+8*4 by omega];exact hr1,hol,by rw[law];rfl,fun h=>absurd h (by rw[law];decide)⟩,rfl⟩
  ·rw[if_neg hx]at law
   have heq:((65535-n:Nat):Int)=(k:Int):=by omega
   obtain⟨law1,law2⟩:=law
   have hr1':bL s a1 hv1 (8*(o+q+4)):=by rw[hup]at hr1;rw[show 8*(o+q+4)=8*(o+q)+8*4 by omega];exact hr1
   have hup1:cS (8*(o+q+4))=8*(o+q+4):=by unfold cS;omega
   have hb2:=tZ s a1 hv1 o (8*(o+q+4)) n (by omega) (by omega) hr1'
   rw[hup1,Nat.mul_div_cancel_left _ (by decide)]at hb2
   refine aw heq ?_
   refine aI [(RD,.var (a8 s a1 hv1 o))] hb2 cG nofun ?_
   rintro h' v ar ⟨a2,hv2,hr2,hz2,rfl,rfl,rfl⟩
   have key:∀(ok:Bool) (x:Bs),ok=decide (n≤s.length-(o+q+4))→x=(if n≤s.length-(o+q+4)then(s.drop (o+q+4)).take n else[]) →
    vcW Tryz.prog E Cod.za (KQ.post [RVar.tmp 2] 1 R) ⟨[(0,.ab 65032 0),(4,.bool ok),(6,.str x),(2000000,.ab 65032 0)],[(40014,.var (a8 s a2 hv2 o)),(65032,.var [.ab 40014 0,.sl 60022 0 S.out.length,.int .i64 most]),(60022,.arr 1 (S.out.map ub))]⟩:=by
    intro ok x hok hv4
    refine cH hN (fun z:Nat×Nat=>⟨[(0,.ab fJ 0),(4,.bool ok),(6,.str ((s.drop (o+q+4)).take n)),(2000000,.ab fJ 0)],a6 s o most z.1 z.2 S.out⟩) (fun z=>bL s z.1 z.2 (8*(o+q+4+min n (s.length-(o+q+4))))) (fun R2 hR2=>?_) (fun z hz=>?_)
    ·clear hR
     subst hok
     subst hv4
     by_cases hfit:n≤s.length-(o+q+4)
     ·rw[if_pos hfit]at hr2
      rw[if_pos hfit,decide_eq_true hfit]
      refine jX ?_
      refine hR2 (a2,hv2) _ (by simp only;rw[Nat.min_eq_left hfit,show 8*(o+q+4+n)=8*(o+q+4)+8*n by omega];exact hr2) (.le ?_)
      exact bE
     ·rw[if_neg hfit]at hr2
      rw[if_neg hfit,decide_eq_false hfit]
      have hlb:=ate s a2 hv2 o _ (by omega) hr2
      have el:dD s (8*(o+q+4))/8=s.length-(o+q+4):=by unfold dD;omega
      have hb3:=tZ s a2 hv2 o _ (s.length-(o+q+4)) (by omega) (by omega) hr2
      rw[hup1,Nat.mul_div_cancel_left _ (by decide),if_pos (Nat.le_refl _)]at hb3
      generalize dD s (8*(o+q+4))=lb at *
      have elb:(lb:Int)/8=((s.length-(o+q+4):Nat):Int):=by omega
      simp only[a8]at hlb
      refine iX ?_
      refine gG ?_
      refine mY [] vV hlb trivial (fun _=>rfl) ?_
      rintro h' v ar ⟨rfl,rfl,rfl⟩
      refine⟨rfl,rfl,?_⟩
      refine aw elb ?_
      refine aI [(RD,.var (a8 s a2 hv2 o))] hb3 cG nofun ?_
      rintro h' v ar ⟨a3,hv3,hr3,hz3,rfl,rfl,rfl⟩
      rw[if_pos (Nat.le_refl _),decide_eq_true (Nat.le_refl _)]
      have etk:(s.drop (o+q+4)).take (s.length-(o+q+4))=(s.drop (o+q+4)).take n:=by
       rw[List.take_of_length_le (by rw[List.length_drop];omega),List.take_of_length_le (by rw[List.length_drop];omega)]
      refine⟨cG,rfl,?_⟩
      refine iX ?_
      refine hR2 (a3,hv3) _ (by simp only;rw[Nat.min_eq_right (by omega),show 8*(o+q+4+(s.length-(o+q+4)))=8*(o+q+4)+8*(s.length-(o+q+4))by omega];exact hr3) (.le ?_)
      exact DG etk
    ·obtain⟨a3,hv3⟩:=z
     simp only at hz ⊢
     have hbl:((s.drop (o+q+4)).take n).length=min n (s.length-(o+q+4)):=by rw[List.length_take,List.length_drop]
     generalize hbb:(s.drop (o+q+4)).take n=b at *
     by_cases hbig:most-S.out.length<b.length
     ·have hbi:(most:Int)-(S.out.length:Int)<(b.length:Int):=by omega
      rw[if_pos (by omega)]at law1
      refine uT hbi ?_
      exact hR.le (h':=a6 s o most a3 hv3 S.out) bE ⟨jq ⟨a3,hv3,{S with p:=8*(q+4+min n (s.length-(o+q+4))),err:=2},rfl,by simp only;rw[show 8*o+8*(q+4+min n (s.length-(o+q+4)))=8*(o+q+4+min n (s.length-(o+q+4)))by omega];exact hz,hol,by rw[law1];rfl,fun h=>absurd h (by rw[law1];decide)⟩,rfl⟩
     ·have hbi:¬(most:Int)-(S.out.length:Int)<(b.length:Int):=by omega
      rw[if_neg (by omega)]at law1
      by_cases hfit:n≤s.length-(o+q+4)
      ·rw[decide_eq_true hfit]at hok
       subst hok
       rw[if_neg (by omega)]at law1
       have law2:=law2 law1
       refine uT hbi ?_
       exact hR.le (h':=a6 s o most a3 hv3 (S.out++b)) bE ⟨jq ⟨a3,hv3,F,by rw[law2],by rw[law2];simp only;rw[Nat.min_eq_left hfit]at hz;rw[show 8*o+8*(q+4+n)=8*(o+q+4+n)by omega];exact hz,by rw[law2];simp only[List.length_append];omega,by rw[law1];rfl,fun _=>rfl⟩,rfl⟩
      ·rw[decide_eq_false hfit]at hok
       subst hok
       rw[if_pos (by omega)]at law1
       refine uT hbi ?_
       exact hR.le (h':=a6 s o most a3 hv3 (S.out++b)) bE ⟨jq ⟨a3,hv3,⟨8*(q+4+min n (s.length-(o+q+4))),S.out++b,6⟩,rfl,by simp only;rw[show 8*o+8*(q+4+min n (s.length-(o+q+4)))=8*(o+q+4+min n (s.length-(o+q+4)))by omega];exact hz,by simp only[List.length_append];omega,by rw[law1];rfl,fun h=>absurd h (by rw[law1];decide)⟩,rfl⟩
   by_cases hfit:n≤s.length-(o+q+4)
   ·have key:=key true _ (by rw[decide_eq_true hfit]) rfl
    rw[if_pos hfit]at key
    rw[if_pos hfit,decide_eq_true hfit]
    refine⟨cG,rfl,?_⟩
    simp only[a8]at key
    refine iX ?_
    exact key
   ·have key:=key false _ (by rw[decide_eq_false hfit]) rfl
    rw[if_neg hfit]at key
    rw[if_neg hfit,decide_eq_false hfit]
    refine⟨cG,rfl,?_⟩
    simp only[a8]at key
    refine iX ?_
    exact key
theorem vI (most back n:Nat) (S:SS):backS most back (n+1) S=if S.err≠0 then S else backS most back n (dk most (S.out.getD (S.out.length-back) 0) S):=rfl
theorem Gp (most back:Nat) {S:SS} (h:S.err≠0):∀n,backS most back n S=S
 | 0=>rfl
 | n+1=>by rw[vI,if_pos h]
theorem Z0:∀i,i≤28→(aU i).1≤300∧(aU i).2≤8:=by decide +kernel
theorem KM:∀i,i≤29→(bt i).1≤40000∧(bt i).2≤15∧1≤(bt i).1:=by decide +kernel
set_option maxHeartbeats 2000000 in
theorem VI (s:Bs) (o most a hv:Nat) (S:SS) (d:List Nat) (sy:Nat) (hs:s.length≤1000000000) (ho:o≤s.length) (hm:most≤1000000) (hr:bL s a hv (8*o+S.p)) (hol:S.out.length≤most) (he:S.err=0)
    (hd:∀n∈d,n≤15) (hdl:d.length≤320) (hdc:bo d=true) (hsy:257≤sy) (hsy2:sy≤400) :
    Eng.Spec Tryz.prog 108 (a6 s o most a hv S.out) [.ab fJ 0,.int .i64 sy,bq d] (fun h' v ar=>PI s o most (du (s.drop o) most d sy S) h' v∧ar=[.ab fJ 0,.int .i64 sy,bq d]):=by
 refine Cod.VJ (fun E R hN hR=>?_)
 have htl:(s.drop o).length=s.length-o:=List.length_drop
 by_cases h285:285<sy
 ·have hF:du (s.drop o) most d sy S={S with err:=3}:=by unfold du;rw[if_pos h285,fh he]
  rw[hF]at hR
  refine jX ?_
  refine gG ?_
  exact hR.le (h':=a6 s o most a hv S.out) bE ⟨jq ⟨a,hv,S,rfl,hr,hol,rfl,fun h=>absurd h (by simp)⟩,rfl⟩
 ·have elen:(sy:Int)-257=((sy-257:Nat):Int):=by omega
  have hlt:=Z0 (sy-257) (by omega)
  have hlenb:=yO (sy-257) (by omega)
  have hrep:du (s.drop o) most d sy S=(let a:=aJ (s.drop o) (aU (sy-257)).2 S
   let k:=aY (s.drop o) d a.2
   if k.2.err≠0 then k.2 else if 29<k.1 then cr 3 k.2 else
   let b:=aJ (s.drop o) (bt k.1).2 k.2
   let back:=(bt k.1).1+b.1
   if b.2.err≠0 then b.2 else if b.2.out.length<back then cr 3 b.2 else backS most back ((aU (sy-257)).1+a.1) b.2):=by unfold du;rw[if_neg h285]
  rw[hrep]at hR
  clear hrep
  simp only at hR
  generalize aU (sy-257)=lb at *
  simp(disch:=omega)only[go_sem,simprocAttr,a6,bq,elen]
  refine ct elen ?_
  refine aG hlenb rfl rfl ?_
  refine wW ?_
  have hbits:=qu s a hv o (8*o+S.p) lb.2 (by omega) hr (by omega)
  rw[tk,←qf]at hbits
  refine aI [(RD,.var (a8 s a hv o))] hbits vV nofun ?_
  rintro h' v ar ⟨a1,hv1,hr1,rfl,rfl,rfl⟩
  by_cases hf1:lb.2≤8*(s.drop o).length-S.p
  ·rw[if_pos hf1]at hr1
   rw[if_pos hf1,decide_eq_true hf1]
   have hpl:S.p+lb.2≤8*(s.drop o).length:=by have:=hr.h2;have:=hr.h3;omega
   rw[eW he hpl]at hR
   simp only at hR
   have hnl:=fX (s.drop o) S.p lb.2
   have hn256:2^lb.2≤2^8:=Nat.pow_le_pow_right (by decide) hlt.2
   generalize numAt (s.drop o) S.p lb.2=x1 at *
   refine⟨cG,rfl,?_⟩
   have dM:=sU d hd hdl hdc s a1 hv1 o (8*o+S.p+lb.2) (by omega) hr1
   rw[Nat.add_assoc,←uf]at dM
   simp only[bq]at dM
   generalize hre:readL (aQ d) (aX (s.drop o) (S.p+lb.2))=re at *
   refine wW ?_
   refine aI [(RD,.var (a8 s a1 hv1 o))] dM vV nofun ?_
   rintro h' v ar ⟨a2,hv2,p2,k,hr2,rfl,rfl,hk,rfl⟩
   refine⟨cG,rfl,?_⟩
   by_cases hre2:re.2.2=0
   ·obtain⟨rfl,rfl⟩:=hk hre2
    have hsym:aY (s.drop o) d {S with p:=S.p+lb.2}=(re.1,{S with p:=S.p+lb.2+re.2.1}):=by rw[←hre];exact mH he (by rw[hre];exact hre2)
    rw[hsym]at hR
    simp only at hR
    rw[if_neg (by simpa using he)]at hR
    have hr2':bL s a2 hv2 (8*o+(S.p+lb.2+re.2.1)):=by rw[show 8*o+(S.p+lb.2+re.2.1)=8*o+(S.p+lb.2)+re.2.1 by omega];exact hr2
    generalize hp2:S.p+lb.2+re.2.1=p2 at *
    have hklt:re.1≤400:=by
     have:=mB (aQ d) (aX (s.drop o) (S.p+lb.2)) (by rw[hre];exact hre2)
     rw[hre]at this
     have hcl:(aQ d).length=d.length:=by simp[aQ]
     omega
    generalize re.1=k at *
    by_cases h29:29<k
    ·rw[if_pos h29,fh (by exact he)]at hR
     refine aw hre2 ?_
     exact hR.le (h':=a6 s o most a2 hv2 S.out) bE ⟨jq ⟨a2,hv2,{S with p:=p2},rfl,hr2',hol,rfl,fun h=>absurd h (by simp)⟩,rfl⟩
    ·rw[if_neg h29]at hR
     have hdt:=KM k (by omega)
     have hdb:=yJ k (by omega)
     generalize bt k=db at *
     have hbits2:=qu s a2 hv2 o (8*o+p2) db.2 (by omega) hr2' (by omega)
     rw[tk,←qf]at hbits2
     refine aw hre2 ?_
     refine aG hdb rfl rfl ?_
     refine wW ?_
     refine aI [(RD,.var (a8 s a2 hv2 o))] hbits2 vV nofun ?_
     rintro h' v ar ⟨a3,hv3,hr3,rfl,rfl,rfl⟩
     by_cases hf2:db.2≤8*(s.drop o).length-p2
     ·rw[if_pos hf2]at hr3
      rw[if_pos hf2,decide_eq_true hf2]
      have hpl2:p2+db.2≤8*(s.drop o).length:=by have:=hr2'.h2;have:=hr2'.h3;omega
      rw[eW (by exact he) hpl2]at hR
      simp only at hR
      rw[if_neg (by simpa using he)]at hR
      have hn2:=fX (s.drop o) p2 db.2
      have hn15:2^db.2≤2^15:=Nat.pow_le_pow_right (by decide) hdt.2.1
      generalize numAt (s.drop o) p2 db.2=x2 at *
      refine⟨cG,rfl,?_⟩
      refine wW ?_
      by_cases hbk:S.out.length<db.1+x2
      ·have hbi:(S.out.length:Int)<(db.1:Int)+(x2:Int):=by omega
       rw[if_pos (by exact hbk),fh (by exact he)]at hR
       refine aw hbi ?_
       exact hR.le (h':=a6 s o most a3 hv3 S.out) bE ⟨jq ⟨a3,hv3,{S with p:=p2+db.2},rfl,by show bL s a3 hv3 (8*o+(p2+db.2));rw[←Nat.add_assoc];exact hr3,hol,rfl,fun h=>absurd h (by simp)⟩,rfl⟩
      ·have hbi:¬(S.out.length:Int)<(db.1:Int)+(x2:Int):=by omega
       rw[if_neg (by exact hbk)]at hR
       generalize hbb:db.1+x2=back at *
       have hb1:1≤back:=by omega
       have ebk:(db.1:Int)+(x2:Int)=(back:Int):=by omega
       have eln:(lb.1:Int)+(x1:Int)=((lb.1+x1:Nat):Int):=by omega
       have hln:lb.1+x1≤1000:=by omega
       rw[ebk,eln]
       generalize lb.1+x1=n at *
       rw[ebk]at hbi
       refine aw hbi ?_
       refine aK hN (fun z:Nat×Bs=>⟨[(0,.ab 65032 0),(13,.int .i64 back),(79,.int .i64 n),(80,.int .i64 z.1),(2000000,.ab 65032 0),(2000001,.int .i64 sy),(2000002,.az (.agg (eN d)))],a6 s o most a3 hv3 z.2⟩)
        (fun z=>z.1≤n∧z.2.length≤most∧back≤z.2.length∧backS most back (n-z.1) ⟨p2+db.2,z.2,S.err⟩=backS most back n ⟨p2+db.2,S.out,S.err⟩) (fun z=>n-z.1) (0,S.out) (.le bE) ⟨by simp,hol,by simp only;omega,rfl⟩ ?_
       rintro⟨j,out⟩ R1 ⟨hj,hjo,hjb,hjF⟩ hR1
       simp only at hj hjo hjb hjF
       by_cases hjn:j<n
       ·have ej:n-j=(n-j-1)+1:=by omega
        rw[ej,vI,if_neg (by simpa using he)]at hjF
        unfold dk at hjF
        rw[if_neg (by simpa using he)]at hjF
        simp only at hjF
        have eidx:(out.length:Int)-(back:Int)=((out.length-back:Nat):Int):=by omega
        generalize hcc:out.getD (out.length-back) 0=c at *
        have hput:=yV s o most a3 hv3 out hm hjo c
        refine jX ?_
        rw[hcc]
        refine aI (a6 s o most a3 hv3 out) hput bE nofun ?_
        rintro h' v ar ⟨rfl,rfl,rfl⟩
        refine⟨bE,rfl,?_⟩
        by_cases hfull:out.length=most
        ·rw[if_pos hfull,if_pos hfull]
         rw[if_pos (by omega),Gp _ _ (by simp)]at hjF
         rw[←hjF]at hR
         refine jX ?_
         exact hR.le (h':=a6 s o most a3 hv3 out) bE ⟨⟨a3,hv3,out,rfl,rfl,fun h=>absurd h (by simp)⟩,rfl⟩
        ·rw[if_neg hfull,if_neg hfull]
         rw[if_neg (by omega)]at hjF
         refine jX ?_
         exact hR1 (j+1,out++[c]) _ (by simp only;omega) ⟨by simp only;omega,by simp only[List.length_append,List.length_singleton];omega,by simp only[List.length_append,List.length_singleton];omega,by simp only;rw[show n-(j+1)=n-j-1 by omega];exact hjF⟩ (.le bE)
       ·obtain rfl:j=n:=by omega
        rw[Nat.sub_self]at hjF
        rw[←hjF]at hR
        refine jX ?_
        exact hR.le (h':=a6 s o most a3 hv3 out) bE ⟨⟨a3,hv3,out,rfl,by show _=AV.int .i64 ((S.err:Nat):Int);rw[he];rfl,fun _=>⟨rfl,by show bL s a3 hv3 (8*o+(p2+db.2));rw[←Nat.add_assoc];exact hr3⟩⟩,rfl⟩
     ·rw[if_neg hf2]at hr3
      rw[if_neg hf2,decide_eq_false hf2]
      rw[kl (by exact he) (by simp only;omega)]at hR
      simp only at hR
      rw[if_pos (by decide)]at hR
      refine⟨cG,rfl,?_⟩
      refine wW ?_
      exact hR.le (h':=a6 s o most a3 hv3 S.out) bE ⟨jq ⟨a3,hv3,{S with p:=p2},rfl,hr3,hol,rfl,fun h=>absurd h (by simp)⟩,rfl⟩
   ·have hsym:aY (s.drop o) d {S with p:=S.p+lb.2}=(0,{S with p:=S.p+lb.2,err:=re.2.2}):=by rw[←hre];exact nY he (by rw[hre];exact hre2)
    rw[hsym]at hR
    simp only at hR
    rw[if_pos hre2]at hR
    have hi:¬((re.2.2:Nat):Int)=0:=by omega
    refine aw hi ?_
    exact hR.le (h':=a6 s o most a2 hv2 S.out) bE ⟨⟨a2,hv2,S.out,rfl,rfl,fun h=>absurd h hre2⟩,rfl⟩
  ·rw[if_neg hf1]at hr1
   rw[if_neg hf1,decide_eq_false hf1]
   rw[kl he (by omega)]at hR
   simp only at hR
   rw[Df (by simp)]at hR
   simp only at hR
   rw[if_pos (by decide)]at hR
   refine⟨cG,rfl,?_⟩
   refine wW ?_
   exact hR.le (h':=a6 s o most a1 hv1 S.out) bE ⟨jq ⟨a1,hv1,S,rfl,hr1,hol,rfl,fun h=>absurd h (by simp)⟩,rfl⟩
set_option maxHeartbeats 2000000 in
theorem yM:aZ Tryz.prog 91 [] (.ak [bq bl,bq bR]):=by
 refine Cod.Uf (fun E R hN hR=>?_)
 refine wW ?_
 refine aK hN (fun i:Nat=>⟨[(2,.sl 66022 0 i),(3,.al),(9,.int .i64 i)],[(66022,.arr 1 (an (bI fixF i)))]⟩) (fun i=>i≤288) (fun i=>288-i) 0 (.nil 2 66022 1 rfl (.le (ia @mI @gZ))) (by omega) ?_
 rintro i R1 hi hR1
 have hul:=gz fixF i
 have hnl:=bU (bI fixF i)
 by_cases hlt:i<288
 ·have hus:=ku fixF i
  have hsb:aM (an (bI fixF i)) 0 i=an (bI fixF i):=by
   have:=fN (xs:=bI fixF i);rw[hul]at this;exact this
  refine wW ?_
  refine cH hN (fun _:Unit=>⟨[(2,.sl 66022 0 i),(3,.al),(4,.int .i64 i),(9,.int .i64 i),(15,.bool (decide (i<144∨280≤i)))],[(66022,.arr 1 (an (bI fixF i)))]⟩) (fun _=>True) (fun R2 hR2=>?_) (fun _ _=>?_)
  ·by_cases h1:i<144
   ·rw[decide_eq_true (.inl h1)]at hR2
    refine wW ?_
    refine gG ?_
    exact hR2 () _ trivial (.le vV)
   ·by_cases h2:280≤i
    ·rw[decide_eq_true (.inr h2)]at hR2
     refine wW ?_
     refine gG ?_
     exact hR2 () _ trivial (.le vV)
    ·rw[decide_eq_false (by omega)]at hR2
     refine wW ?_
     refine gG ?_
     exact hR2 () _ trivial (.le vV)
  ·by_cases h8:i<144∨280≤i
   ·have hf:fixF i=8:=by unfold fixF;rw[if_neg (by omega),if_neg (by omega)]
    rw[hf]at hus
    rw[decide_eq_true h8]
    refine bm @eG hsb ?_
    exact hR1 (i+1) _ (by omega) (by omega) (.le (by rw[hus,←eF];exact vV))
   ·rw[decide_eq_false h8]
    by_cases h9:i<256
    ·have hf:fixF i=9:=by unfold fixF;rw[if_neg (by omega),if_pos (by omega)]
     rw[hf]at hus
     refine bm @eG hsb ?_
     exact hR1 (i+1) _ (by omega) (by omega) (.le (by rw[hus,←eF];exact vV))
    ·have hf:fixF i=7:=by unfold fixF;rw[if_pos (by omega)]
     rw[hf]at hus
     refine bm @eG hsb ?_
     exact hR1 (i+1) _ (by omega) (by omega) (.le (by rw[hus,←eF];exact vV))
 ·obtain rfl:i=288:=by omega
  refine wW ?_
  refine aK hN (fun i:Nat=>⟨[(2,.sl 66022 0 288),(3,.sl 66034 0 i),(30,.int .i64 i)],[(66022,.arr 1 (an (bI fixF 288))),(66034,.arr 1 (an (bI (fun _=>5) i)))]⟩) (fun i=>i≤32) (fun i=>32-i) 0 (.nil 3 66034 1 rfl (.le (ia @mI @gZ))) (by omega) ?_
  rintro i R2 hi hR2
  have hul2:=gz (fun _=>5) i
  have hnl2:=bU (bI (fun _=>5) i)
  by_cases hlt:i<32
  ·have hus:=ku (fun _=>5) i
   have hsb:aM (an (bI (fun _=>5) i)) 0 i=an (bI (fun _=>5) i):=by
    have:=fN (xs:=bI (fun _=>5) i);rw[hul2]at this;exact this
   refine bm @eG hsb ?_
   exact hR2 (i+1) _ (by omega) (by omega) (.le (by rw[hus,←eF];exact vV))
  ·obtain rfl:i=32:=by omega
   rw[xO]at *
   rw[xN]at *
   have e1:aM (an bl) 0 288=an bl:=by rw[←jh.2.1];exact fN
   have e2:aM (an bR) 0 32=an bR:=by rw[←jg.2.1];exact fN
   have n1:=pR bl jh.1 (by rw[jh.2.1];decide)
   have n2:=pR bR jg.1 (by rw[jg.2.1];decide)
   rw[if_pos jh.2.2]at n1
   rw[if_pos jg.2.2]at n2
   generalize bl=l at *
   generalize bR=d at *
   refine wW ?_
   refine j5 ⟨[(37,.ro 1 (an l)),(3,.ro 1 (an d))],[]⟩ (.bF 66022 (.bF 66034 (.le (ia e1 e2)))) rfl ?_
   refine wW ?_
   refine fg n1 rfl ?_
   rintro h' v as' ⟨rfl,rfl⟩
   refine⟨rfl,rfl,?_⟩
   simp(disch:=omega)only[go_sem,simprocAttr,bq]
   refine fg n2 rfl ?_
   rintro h' v as' ⟨rfl,rfl⟩
   refine⟨rfl,rfl,?_⟩
   simp(disch:=omega)only[go_sem,simprocAttr,bq]
   exact hR.le vV ⟨rfl,rfl⟩
def An:AV:=.agg (an eX)
theorem UW:aZ Tryz.prog 124 [] An:=by
 refine Cod.UX (fun E R hN hR=>?_)
 refine wW ?_
 exact hR.le vV ⟨rfl,rfl⟩
def lD (s:Bs):List Bool:=eg (cK 1 3)++aX (bh s.length 2++bh (65535-s.length) 2++s) 0
def jT (s:Bs):Bs:=eZ (lD s)
theorem uH (s:Bs):(jT s).length=s.length+5:=by
 have h1:(eg (cK 1 3)).length=8:=by rw[ov,fC]
 have h2:=gu (bh s.length 2++bh (65535-s.length) 2++s) 0
 simp only[List.length_append,eA]at h2
 unfold jT eZ lD
 rw[jN,List.length_append,h1,h2]
 omega
theorem aBP (n:Nat) (h:n≤65535):bits .xor .i64 (n:Int) 65535=((65535-n:Nat):Int):=by
 show IntKind.i64.wrap ((BitVec.ofInt 64 (n:Int) ^^^ BitVec.ofInt 64 ((65535:Nat):Int)).toNat:Int)=_
 rw[BitVec.ofInt_natCast,BitVec.ofInt_natCast,BitVec.toNat_xor,BitVec.toNat_ofNat,BitVec.toNat_ofNat,Nat.mod_eq_of_lt (by omega),Nat.mod_eq_of_lt (by omega)]
 have e:n ^^^ 65535=65535-n:=by
  apply Nat.eq_of_testBit_eq
  intro i
  rw[Nat.testBit_xor,show(65535:Nat)=2^16-1 by decide,Nat.testBit_two_pow_sub_one,show 2^16-1-n=2^16-(n+1)by omega,Nat.testBit_two_pow_sub_succ (by omega)]
  by_cases hi:i<16
  ·simp[hi]
  ·simp[hi,Nat.testBit_lt_two_pow (show n<2^i from Nat.lt_of_lt_of_le (show n<2^16 by omega) (Nat.pow_le_pow_right (by decide) (by omega)))]
 rw[e]
 exact IntWalk.i64_in _ (by omega)
theorem aBA (s:Bs) (hs:s.length≤65535):aZ Tryz.prog 99 [.str s] (.str (jT s)):=by
 refine Cod.aBB (fun E R hN hR=>?_)
 have hmin:min (s.length:Int) 65535=s.length:=by omega
 have hx:=aBP s.length hs
 have hl1:=C3 s.length 2 (by omega) (by omega)
 have hl2:=C3 (65535-s.length) 2 (by omega) (by omega)
 have hll1:=eA s.length 2
 have hll2:=eA (65535-s.length) 2
 have htk:s.take s.length=s:=List.take_of_length_le (Nat.le_refl _)
 have hb1:=mK [] 1 3 (by decide) (by decide) (by decide)
 rw[List.nil_append,show((1:Nat):Int)=1 from rfl,show((3:Nat):Int)=3 from rfl]at hb1
 rw[show((2:Nat):Int)=2 from rfl]at hl1 hl2
 have hb2:=aAR (cK 1 3) (bh s.length 2++bh (65535-s.length) 2++s) (by rw[fC];decide) (by simp only[List.length_append,eA];omega)
 have hb3:=D1 (lD s) (by
  unfold lD
  rw[List.length_append,ov,fC,gu]
  simp only[List.length_append,eA]
  omega)
 unfold jT at hR
 refine wW ?_
 refine aK hN (fun _:Unit=>⟨[(0,.str s),(3,.ab WR 0)],bz []⟩) (fun _=>True) (fun _=>0) () (.fF 167003 WR rfl rfl (.jK WR 0 WO 1 [.al,.int .u64 0,.int .i64 0] rfl rfl rfl (.le ?_))) trivial ?_
 ·simp(disch:=omega)only[go_sem,simprocAttr,bz,c7,cZ,bA,dE]
  simp
 rintro _ R1 _ hR1
 refine bm @Cod.aBz hmin ?_
 refine dw hN ?_
 refine wW ?_
 refine aI (bz []) hb1 dR nofun ?_
 rintro h' v ar ⟨rfl,rfl,rfl⟩
 refine⟨dR,rfl,?_⟩
 simp(disch:=omega)only[go_sem,simprocAttr,hx,htk,hmin,bz,c7,cZ]
 refine aG hl1 rfl rfl ?_
 refine wW ?_
 refine aG hl2 rfl rfl ?_
 refine bm hll1 hll2 ?_
 refine aI (bz (cK 1 3)) hb2 dR nofun ?_
 rintro h' v ar ⟨rfl,rfl,rfl⟩
 refine⟨dR,rfl,?_⟩
 refine DI ?_
 refine aI (bz (lD s)) hb3 (by simp(disch:=omega)only[go_sem,simprocAttr,bz,c7,cZ,lD]) nofun ?_
 rintro h' v ar ⟨rfl,rfl,rfl⟩
 refine⟨dR,rfl,?_⟩
 refine wW ?_
 exact hR.ro ⟨rfl,rfl⟩
theorem j9:bl.length=288:=by decide +kernel
theorem j8:∀n∈bl,n≤15:=by decide +kernel
theorem kQ:bo bl=true:=by decide +kernel
theorem kR:∀s,s<288→1≤bl.getD s 0:=by decide +kernel
theorem pw:bR.length=32:=by decide +kernel
theorem pt:∀n∈bR,n≤15:=by decide +kernel
theorem sv:bo bR=true:=by decide +kernel
theorem sw:∀s,s<32→1≤bR.getD s 0:=by decide +kernel
theorem tm:∀i,i≤28→(aU i).1≤258∧(aU i).2≤5:=by decide +kernel
theorem sc:∀i,i≤29→(bt i).1≤32768∧(bt i).2≤13:=by decide +kernel
structure lR (s:Bs) (p n b:Nat):Prop where
 n3:3≤n
 n258:n≤258
 b1:1≤b
 vF:b≤32768
 bp:b≤p
 len:p+n≤s.length
 eq:∀t,t<n→s.getD (p-b+t) 0=s.getD (p+t) 0
structure rl (n b i j:Nat):Prop where
 i28:i≤28
 il:(aU i).1≤n
 iu:∀k,i<k→k≤28→n<(aU k).1
 zi:j≤29
 jl:(bt j).1≤b
 ju:∀k,j<k→k≤29→b<(bt k).1
def jQ (n b i j:Nat):List Bool:=a7 bl (257+i)++cK (n-(aU i).1) (aU i).2++a7 bR j++cK (b-(bt j).1) (bt j).2
inductive ik (s:Bs):Nat→List Bool→Prop
 | nil:ik s 0 (cK 3 3)
 | lit (p:Nat) (bs:List Bool):ik s p bs→p<s.length→ik s (p+1) (bs++a7 bl (s.getD p 0).toNat)
 | rep (p:Nat) (bs:List Bool) (n b i j:Nat):ik s p bs→lR s p n b→rl n b i j→ik s (p+n) (bs++jQ n b i j)
theorem px (s:Nat):(a7 bl s).length≤15:=by rw[iy];exact gV j8 s
theorem xM (s:Nat):(a7 bR s).length≤15:=by rw[iy];exact gV pt s
theorem asd {n b i j:Nat} (h:rl n b i j):(jQ n b i j).length≤48:=by
 have h1:=px (257+i)
 have h2:=xM j
 have h3:=tm i h.i28
 have h4:=sc j h.zi
 simp only[jQ,List.length_append,fC]
 omega
theorem MF {s:Bs} {p:Nat} {bs:List Bool} (h:ik s p bs):bs.length≤3+48*p:=by
 induction h with
 | nil=>rw[fC];omega
 | lit p bs h hp ih=>
  have:=px (s.getD p 0).toNat
  rw[List.length_append];omega
 | rep p bs n b i j h hr hs ih=>
  have:=asd hs
  have:=hr.n3
  rw[List.length_append];omega
def ij (s t:Bs):Prop:=(∃bs,ik s s.length bs∧t=eZ (bs++a7 bl 256)∧t.length<s.length+5)∨t=jT s
theorem je {s t:Bs} (h:ij s t):t.length≤s.length+5:=by
 rcases h with⟨_,_,_,h⟩ | rfl
 ·omega
 ·rw[uH];omega
def lQ (l:List (MK×AV)) (p:Nat):Prop:=∀kv∈l,∃n:Nat,kv.2=.int .i64 n∧n<p
theorem qp {k:MK} {v:AV}:∀{l:List (MK×AV)},mfind l k=some v→∃k',(k',v)∈l
 | (k0,v0)::r,h=>by
  simp only[mfind]at h
  split at h
  ·exact⟨k0,by rw[←Option.some.inj h];exact List.mem_cons_self ..⟩
  ·obtain⟨k',h'⟩:=qp h;exact⟨k',List.mem_cons_of_mem _ h'⟩
theorem tK {k:MK} {v:AV}:∀{l:List (MK×AV)} {x:MK×AV},x∈mput l k v→x∈l∨x=(k,v)
 | [],x,h=>.inr (by simpa[mput]using h)
 | (k0,v0)::r,x,h=>by
  simp only[mput]at h
  split at h
  ·rcases List.mem_cons.1 h with h | h
   ·exact .inr h
   ·exact .inl (List.mem_cons_of_mem _ h)
  ·rcases List.mem_cons.1 h with h | h
   ·exact .inl (by rw[h];exact List.mem_cons_self ..)
   ·rcases tK h with h | h
    ·exact .inl (List.mem_cons_of_mem _ h)
    ·exact .inr h
theorem AX {l:List (MK×AV)} {p q:Nat} (h:lQ l p) (hpq:p≤q):lQ l q:=fun kv hk=>by
 obtain⟨n,h1,h2⟩:=h kv hk
 exact⟨n,h1,by omega⟩
theorem af0 {l:List (MK×AV)} {p:Nat} {k:MK} (h:lQ l p):lQ (mput l k (.int .i64 p)) (p+1):=fun kv hk=>by
 rcases tK hk with hk | rfl
 ·obtain⟨n,h1,h2⟩:=h kv hk
  exact⟨n,h1,by omega⟩
 ·exact⟨p,rfl,by omega⟩
def hD (bs:List Bool) (l:List (MK×AV)):HP:=[(WR,.var (cZ bs (bs.length/8))),(WO,.arr 1 ((dE bs (bs.length/8)).map ub)),(168027,.mp none l)]
theorem qW (l:List Nat) (s:Nat) (bs:List Bool) (hl:∀n∈l,n≤15) (hck:bo l=true) (hs:s<l.length) (h1:1≤l.getD s 0) (hb:bs.length≤10000000000) :
    Eng.Spec Tryz.prog 94 (bz bs) [.ab WR 0,.int .u32 (cI l s:Nat),.int .i64 (l.getD s 0:Nat)]
     (fun h' v ar=>h'=bz (bs++a7 l s)∧v=.ak []∧ar=[.ab WR 0,.int .u32 (cI l s:Nat),.int .i64 (l.getD s 0:Nat)]):=by
 have hc:cn l≤32768:=by unfold bo at hck;simp at hck;exact hck.1
 have h15:=gV hl s
 have hlt:=wY hc hs h1 h15
 have hp:2^l.getD s 0≤2^15:=Nat.pow_le_pow_right (by decide) h15
 have:=aA3 bs (cI l s) (l.getD s 0) (by omega) (by omega) (by omega)
 rw[show bitsM (cI l s) (l.getD s 0)=a7 l s by unfold a7;rw[if_neg (by omega)]]at this
 exact this
set_option maxHeartbeats 4000000 in
theorem Tn (s:Bs) (hs:s.length≤65535):Eng.Spec Tryz.prog 63 [] [.str s] (fun h r _=>h=[]∧∃t,ij s t∧r=.str t):=by
 refine Cod.Tp (fun E R hN hR=>?_)
 have hbh:=mK [] 3 3 (by decide) (by decide) (by decide)
 rw[List.nil_append,show((3:Nat):Int)=3 from rfl]at hbh
 have hcL:∀k:Nat,k<288→aZ Tryz.prog 93 [bq bl,.int .i64 k] (.ak [.int .u32 (cI bl k:Nat),.int .i64 (bl.getD k 0:Nat)]):=fun k hk=>yl bl j8 (by rw[j9];decide) kQ k (by rw[j9];exact hk) (kR k hk)
 have hcD:∀k:Nat,k<32→aZ Tryz.prog 93 [bq bR,.int .i64 k] (.ak [.int .u32 (cI bR k:Nat),.int .i64 (bR.getD k 0:Nat)]):=fun k hk=>yl bR pt (by rw[pw];decide) sv k (by rw[pw];exact hk) (sw k hk)
 have hfx:=yM
 unfold bq at hcL hcD hfx
 generalize AV.agg (eN bl)=TL at *
 generalize AV.agg (eN bR)=TD at *
 refine wW ?_
 refine j5 ⟨[(0,.str s),(3,.ab WR 0)],bz []⟩ (.fF 168003 WR rfl rfl (.jK WR 0 WO 1 [.al,.int .u64 0,.int .i64 0] rfl rfl rfl (.le ?_))) rfl ?_
 ·simp(disch:=omega)only[go_sem,simprocAttr,bz,c7,cZ,bA,dE]
  simp
 refine aG hfx rfl rfl ?_
 refine wW ?_
 refine aI (bz []) hbh dR nofun ?_
 rintro h' v ar ⟨rfl,rfl,rfl⟩
 refine⟨dR,rfl,?_⟩
 refine wW ?_
 refine aK hN (fun q:Nat×List Bool×List (MK×AV)=>⟨[(0,.str s),(3,.ab WR 0),(4,.az TL),(5,.az TD),(6,.ptr 168027 0 0),(7,.int .i64 q.1)],hD q.2.1 q.2.2⟩) (fun q=>q.1≤s.length∧ik s q.1 q.2.1∧lQ q.2.2 q.1) (fun q=>s.length-q.1) (0,cK 3 3,[]) (.le ?_) ⟨by omega,.nil,fun kv hk=>by cases hk⟩ ?_
 ·simp(disch:=omega)only[go_sem,simprocAttr,hD,bz,c7,cZ]
 rintro⟨p,bs,l⟩ R1 ⟨hp,henc,hpl⟩ hR1
 simp only at hp henc hpl
 have hbl:=MF henc
 by_cases hlt:p<s.length
 ·refine wW ?_
  refine cH hN (fun q:Nat×Nat×List (MK×AV)=>⟨[(0,.str s),(3,.ab WR 0),(4,.az TL),(5,.az TD),(6,.ptr 168027 0 0),(7,.int .i64 p),(8,.int .i64 q.1),(9,.int .i64 q.2.1)],hD bs q.2.2⟩) (fun q=>lQ q.2.2 (p+1)∧(q.1<3∨lR s p q.1 q.2.1)) (fun R2 hR2=>?_) ?_
  ·by_cases h3:p+3≤s.length
   ·refine wW ?_
    refine cH hN (fun q:Nat×Nat=>⟨[(0,.str s),(3,.ab WR 0),(4,.az TL),(5,.az TD),(6,.ptr 168027 0 0),(7,.int .i64 p),(8,.int .i64 q.1),(9,.int .i64 q.2)],hD bs l⟩) (fun q=>q.1<3∨lR s p q.1 q.2) (fun R3 hR3=>?_) ?_
    ·cases hf:mfind l (MK.s (List.take (((p:Int)+3).toNat-p) (List.drop p s)))with
     | none=>
      simp(disch:=omega)only[go_sem,simprocAttr,hD,hf]
      refine gG ?_
      exact hR3 (0,0) _ (.inl (by decide)) (.le (by simp(disch:=omega)only[go_sem,simprocAttr,hD]))
     | some v=>
      obtain⟨k',hk'⟩:=qp hf
      obtain⟨a,ha,hat⟩:=hpl _ hk'
      simp only at ha
      subst ha
      by_cases h32:p-a≤32768
      ·have h32':(p:Int)-(a:Int)≤32768:=by omega
       simp(disch:=omega)only[go_sem,simprocAttr,hD,hf,h32']
       refine gG ?_
       refine aK hN (fun n:Nat=>⟨[(0,.str s),(3,.ab WR 0),(4,.az TL),(5,.az TD),(6,.ptr 168027 0 0),(7,.int .i64 p),(8,.int .i64 n),(10,.int .i64 a)],hD bs l⟩) (fun n=>n≤258∧p+n≤s.length∧∀t,t<n→s.getD (a+t) 0=s.getD (p+t) 0) (fun n=>258-n) 0 (.le (by simp(disch:=omega)only[go_sem,simprocAttr,hD])) ⟨by omega,by omega,fun t ht=>by omega⟩ ?_
       rintro n R4 ⟨hn1,hn2,hn3⟩ hR4
       have fin:n<3∨lR s p n (p-a):=by
        by_cases h:n<3
        ·exact .inl h
        ·exact .inr ⟨by omega,hn1,by omega,h32,by omega,hn2,fun t ht=>by rw[show p-(p-a)+t=a+t by omega];exact hn3 t ht⟩
       have ei1:((a:Int)+(n:Int)).toNat=a+n:=by omega
       have ei2:((p:Int)+(n:Int)).toNat=p+n:=by omega
       have ep:((p-a:Nat):Int)=(p:Int)-(a:Int):=by omega
       have hgo:=hR3 (n,p-a)
       by_cases g1:n<258
       ·by_cases g2:p+n<s.length
        ·by_cases g3:s.getD (a+n) 0=s.getD (p+n) 0
         ·have g3':((s.getD (a+n) 0).toNat:Int)=((s.getD (p+n) 0).toNat:Int):=by rw[g3]
          refine ck ei1 ei2 g3' ?_
          refine gG ?_
          exact hR4 (n+1) _ (by omega) ⟨by omega,by omega,fun t ht=>by
           by_cases e:t=n
           ·subst e;exact g3
           ·exact hn3 t (by omega)⟩ (.le (by simp(disch:=omega)only[go_sem,simprocAttr,hD]))
         ·have g3':¬((s.getD (a+n) 0).toNat:Int)=((s.getD (p+n) 0).toNat:Int):=fun e=>g3 (UInt8.toNat_inj.1 (by omega))
          refine ck ei1 ei2 g3' ?_
          refine gG ?_
          exact hgo _ fin (.le (by simp(disch:=omega)only[go_sem,simprocAttr,hD,ep]))
        ·refine wW ?_
         refine gG ?_
         exact hgo _ fin (.le (by simp(disch:=omega)only[go_sem,simprocAttr,hD,ep]))
       ·refine wW ?_
        refine gG ?_
        exact hgo _ fin (.le (by simp(disch:=omega)only[go_sem,simprocAttr,hD,ep]))
      ·have h32':¬(p:Int)-(a:Int)≤32768:=by omega
       simp(disch:=omega)only[go_sem,simprocAttr,hD,hf,h32']
       refine gG ?_
       exact hR3 (0,0) _ (.inl (by decide)) (.le (by simp(disch:=omega)only[go_sem,simprocAttr,hD]))
    ·rintro⟨n,b⟩ hnb
     simp only at hnb
     simp(disch:=omega)only[go_sem,simprocAttr,hD]
     exact hR2 (n,b,mput l (MK.s (List.take (((p:Int)+3).toNat-p) (List.drop p s))) (.int .i64 p)) _ ⟨af0 hpl,hnb⟩ (.le (by simp(disch:=omega)only[go_sem,simprocAttr,hD]))
   ·refine wW ?_
    exact hR2 (0,0,l) _ ⟨AX hpl (by omega),.inl (show(0:Nat)<3 by decide)⟩ (.le (by simp(disch:=omega)only[go_sem,simprocAttr,hD]))
  ·rintro⟨n,b,l'⟩ ⟨hpl',hnb⟩
   simp only at hpl' hnb
   by_cases hn:n<3
   ·have hc:=(s.getD p 0).toNat_lt
    have hw:IntKind.i64.wrap ((s.getD p 0).toNat:Int)=((s.getD p 0).toNat:Int):=IntWalk.i64_in _ (by omega)
    have ji:=hcL (s.getD p 0).toNat (by omega)
    have hwr:=qW bl (s.getD p 0).toNat bs j8 kQ (by rw[j9];omega) (kR _ (by omega)) (by omega)
    refine aw hw ?_
    refine aG ji rfl rfl ?_
    refine wW ?_
    refine aI (bz bs) hwr (by simp(disch:=omega)only[go_sem,simprocAttr,hD,bz,c7,cZ]) nofun ?_
    rintro h' v ar ⟨rfl,rfl,rfl⟩
    refine⟨dR,rfl,?_⟩
    simp(disch:=omega)only[go_sem,simprocAttr,hD]
    exact hR1 (p+1,_,l') _ (by simp only;omega) ⟨by simp only;omega,.lit p bs henc hlt,hpl'⟩ (.le (by simp(disch:=omega)only[go_sem,simprocAttr,hD,bz,c7,cZ]))
   ·have hrep:=hnb.resolve_left hn
    have hn258:=hrep.n258
    have hb32:=hrep.vF
    have hplen:=hrep.len
    have hs1:=zc 96 28 n aU (by kernel_rfl) (by decide) (by omega) (fun i hi=>yO i hi) (by have:=hrep.n3;simp[aU];omega) (fun i hi=>by have:=tm i hi;omega)
    have hs2:=zc 97 29 b bt (by kernel_rfl) (by decide) (by omega) (fun i hi=>yJ i hi) (by have:=hrep.b1;simp[bt];omega) (fun i hi=>by have:=sc i hi;omega)
    rw[show((28:Nat):Int)=28 from rfl]at hs1
    rw[show((29:Nat):Int)=29 from rfl]at hs2
    refine wW ?_
    refine fg hs1 rfl ?_
    rintro h' v ar ⟨rfl,i,hi,hil,hiu,rfl⟩
    refine⟨rfl,rfl,?_⟩
    have hi5:=tm i hi
    have ji:=hcL (257+i) (by omega)
    have hw1:=qW bl (257+i) bs j8 kQ (by rw[j9];omega) (kR _ (by omega)) (by omega)
    have hl1:=px (257+i)
    have hw2:=mK (bs++a7 bl (257+i)) (n-(aU i).1) (aU i).2 (by omega) (by omega) (by rw[List.length_append];omega)
    rw[show((257+i:Nat):Int)=257+(i:Int)by push_cast;rfl]at ji
    refine wW ?_
    refine aG ji rfl rfl ?_
    refine wW ?_
    refine aI (bz bs) hw1 (by simp(disch:=omega)only[go_sem,simprocAttr,hD,bz,c7,cZ]) nofun ?_
    rintro h' v ar ⟨rfl,rfl,rfl⟩
    refine⟨dR,rfl,?_⟩
    simp(disch:=omega)only[go_sem,simprocAttr,hD]
    refine aI (bz (bs++a7 bl (257+i))) hw2 (by simp(disch:=omega)only[go_sem,simprocAttr,hD,bz,c7,cZ]) nofun ?_
    rintro h' v ar ⟨rfl,rfl,rfl⟩
    refine⟨dR,rfl,?_⟩
    refine wW ?_
    refine fg hs2 rfl ?_
    rintro h' v ar ⟨rfl,j,hj,hjl,hju,rfl⟩
    refine⟨rfl,rfl,?_⟩
    have hj5:=sc j hj
    have hcode2:=hcD j (by omega)
    have hl2:=xM j
    have hb2:(bs++a7 bl (257+i)++cK (n-(aU i).1) (aU i).2).length≤9999999999:=by simp only[List.length_append,fC];omega
    generalize hbs2:bs++a7 bl (257+i)++cK (n-(aU i).1) (aU i).2=bs2 at *
    have hw3:=qW bR j bs2 pt sv (by rw[pw];omega) (sw _ (by omega)) (by omega)
    have hw4:=mK (bs2++a7 bR j) (b-(bt j).1) (bt j).2 (by omega) (by omega) (by rw[List.length_append];omega)
    refine wW ?_
    refine aG hcode2 rfl rfl ?_
    refine wW ?_
    refine aI (bz bs2) hw3 (by simp(disch:=omega)only[go_sem,simprocAttr,hD,bz,c7,cZ]) nofun ?_
    rintro h' v ar ⟨rfl,rfl,rfl⟩
    refine⟨dR,rfl,?_⟩
    simp(disch:=omega)only[go_sem,simprocAttr,hD]
    refine aI (bz (bs2++a7 bR j)) hw4 (by simp(disch:=omega)only[go_sem,simprocAttr,hD,bz,c7,cZ]) nofun ?_
    rintro h' v ar ⟨rfl,rfl,rfl⟩
    refine⟨dR,rfl,?_⟩
    refine wW ?_
    have henc2:=ik.rep p bs n b i j henc hrep ⟨hi,hil,hiu,hj,hjl,hju⟩
    have heq:bs++jQ n b i j=bs2++a7 bR j++cK (b-(bt j).1) (bt j).2:=by rw[←hbs2];simp[jQ]
    rw[heq]at henc2
    exact hR1 (p+n,_,l') _ (by have:=hrep.n3;simp only;omega) ⟨by simp only;omega,henc2,AX hpl' (by have:=hrep.n3;simp only;omega)⟩ (.le (by simp(disch:=omega)only[go_sem,simprocAttr,hD,bz,c7,cZ]))
 ·obtain rfl:p=s.length:=by omega
  have ji:=hcL 256 (by decide)
  have hw:=qW bl 256 bs j8 kQ (by rw[j9];decide) (kR _ (by decide)) (by omega)
  have hl1:=px 256
  have ht:=D1 (bs++a7 bl 256) (by rw[List.length_append];omega)
  have hst:=aBA s hs
  have hsl:=uH s
  rw[show((256:Nat):Int)=256 from rfl]at ji
  refine wW ?_
  refine aG ji rfl rfl ?_
  refine wW ?_
  refine aI (bz bs) hw (by simp(disch:=omega)only[go_sem,simprocAttr,hD,bz,c7,cZ]) nofun ?_
  rintro h' v ar ⟨rfl,rfl,rfl⟩
  refine⟨dR,rfl,?_⟩
  simp(disch:=omega)only[go_sem,simprocAttr,hD]
  refine aI (bz (bs++a7 bl 256)) ht (by simp(disch:=omega)only[go_sem,simprocAttr,hD,bz,c7,cZ]) nofun ?_
  rintro h' v ar ⟨rfl,rfl,rfl⟩
  refine⟨dR,rfl,?_⟩
  refine wW ?_
  refine aG hst rfl rfl ?_
  by_cases hlen:(eZ (bs++a7 bl 256)).length<s.length+5
  ·refine aw hsl ?_
   exact hR.ro ⟨rfl,_,.inl ⟨bs,henc,rfl,hlen⟩,rfl⟩
  ·refine aw hsl ?_
   refine aG hst rfl rfl ?_
   refine wW ?_
   exact hR.ro ⟨rfl,_,.inr rfl,rfl⟩
end Go.Proofs.YtjoefngnjoofeaaGreatDoor.Pk
namespace Go.Proofs.YtjoefngnjoofeaaGreatDoor.Cod
open Eng Eng.Kz
set_option maxRecDepth 100000
abbrev ae1:AK:=.seq (.aa [u 140021 21 (.ah (.t 0)),u 140022 22 (.ao (.t 21)),u 140023 23 (.ai false 0 1 (.t 22)),u 140024 24 (.ld false 1 (.t 23)),u 140025 25 (.ah (.t 0)),u 140026 26 (.ao (.t 25)),u 140027 27 (.ai false 1 1 (.t 26)),u 140028 28 (.ld false 1 (.t 27)),u 140029 29 (.bin .sub (.t 28) (ci 1)),.v 30 (.bV (.t 24) (.t 29)),.v 31 (.aV .i64 (.t 30)),m 2 31] [2,2000000]) .ret
abbrev ae0:AK:=.seq (.aa [m 14 0,.v 15 (.ao (.t 14)),.v 16 (.ai false 1 1 (.t 15)),.v 17 (.ld false 1 (.t 16)),bi 18 .add 17 1,.v 19 (.ao (.t 14)),.v 20 (.ai false 1 1 (.t 19)),.aH false 140000 (.st 1 (.t 20) (.t 18))] [0,2000000]) ae1
abbrev ae3:AK:=.dF [.v 13 (.gX 61 (ci 6))] (.aH false 140000 (.fk (.t 13))) [] [0,2000000]
abbrev ae2:AK:=.seq (.aa [u 140003 3 (.ah (.t 0)),u 140004 4 (.ao (.t 3)),u 140005 5 (.ai false 1 1 (.t 4)),u 140006 6 (.ld false 1 (.t 5)),u 140007 7 (.ah (.t 0)),u 140008 8 (.ao (.t 7)),u 140009 9 (.ai false 0 1 (.t 8)),u 140010 10 (.ld false 1 (.t 9)),u 140011 11 (.len true (.t 10)),b 12 .geq 6 11] [0,2,12,2000000]) (.cond (.t 12) ae3 .skip)
abbrev aeZ:AK:=.seq ae2 ae0
abbrev aeY:AK:=.seq (.aa [k 2 (ci 0)] [0,2,2000000]) aeZ
abbrev pbyte:AK:=aeY
theorem AN:aA Tryz.prog 51 140000 1 pbyte [.tmp 2]:=⟨_,Tryz.func51,by kernel_rfl⟩
theorem ae4 {h:HP} {a0:AV} {V:Value} (hp:og Tryz.prog pbyte V [(0,a0),(2000000,a0)] h):Eng.gL Tryz.prog 51 h [a0] V:=uC AN rfl [(0,a0),(2000000,a0)] ⟨rfl,rfl,trivial⟩ hp
theorem ae5 {h a0 Post} (hp:aD Tryz.prog pbyte [.tmp 2] 1 [(0,a0),(2000000,a0)] h Post):Eng.Spec Tryz.prog 51 h [a0] Post:=aE AN rfl [(0,a0),(2000000,a0)] ⟨rfl,rfl,trivial⟩ hp
abbrev afJ:AK:=.seq (.aa [m 30 5,m 31 6,m 2 30,m 3 31] [2,3,2000000]) .ret
abbrev afB:AK:=.aa [m 28 7,bi 29 .add 28 7,m 7 29] [0,2,3,4,5,6,7,2000000]
abbrev afA:AK:=.seq (.aa [m 22 6,m 23 4,bi 24 .and 23 127,m 25 7,b 26 .shl 24 25,b 27 .or 22 26,m 6 27] [0,2,3,4,5,6,7,2000000]) afB
abbrev afD:AK:=.dF [.v 21 (.gX 61 (ci 3))] (.aH false 141000 (.fk (.t 21))) [] [0,2,3,4,5,6,7,2000000]
abbrev afC:AK:=.seq (.aa [m 19 7,bi 20 .gtr 19 25] [0,2,3,4,5,6,7,20,2000000]) (.cond (.t 20) afD .skip)
abbrev afM:AK:=.seq afC afA
abbrev afE:AK:=.dF [m 17 0] (.aj (some 18) false 141018 51 [(.t 17)]) [m 4 18] [0,2,3,4,5,6,7,2000000]
abbrev afL:AK:=.seq afE afM
abbrev afF:AK:=.seq (.aa [m 15 4,bi 16 .geq 15 128] [0,2,3,5,6,7,16,2000000]) (.cond (.t 16) .skip (.exit 0))
abbrev afK:AK:=.seq afF (.block 1 afL)
abbrev afN:AK:=.loop afK
abbrev afI:AK:=.seq (.block 0 afN) afJ
abbrev afH:AK:=.seq (.aa [m 10 4,.v 11 (.bin .shr (.t 10) (.c (.int .u64 4))),bi 12 .and 11 7,m 13 4,bi 14 .and 13 15,m 5 12,m 6 14,k 7 (ci 4)] [0,2,3,4,5,6,7,2000000]) afI
abbrev afG:AK:=.dF [m 8 0] (.aj (some 9) false 141009 51 [(.t 8)]) [m 4 9] [0,2,3,4,2000000]
abbrev afz:AK:=.seq afG afH
abbrev afy:AK:=.seq (.aa [k 2 (ci 0),k 3 (ci 0)] [0,2,3,2000000]) afz
abbrev qo:AK:=afy
theorem AU:aA Tryz.prog 24 141000 1 qo [.tmp 2,.tmp 3]:=⟨_,Tryz.func24,by kernel_rfl⟩
theorem afP {h:HP} {a0:AV} {V:Value} (hp:og Tryz.prog qo V [(0,a0),(2000000,a0)] h):Eng.gL Tryz.prog 24 h [a0] V:=uC AU rfl [(0,a0),(2000000,a0)] ⟨rfl,rfl,trivial⟩ hp
theorem afR {h a0 Post} (hp:aD Tryz.prog qo [.tmp 2,.tmp 3] 1 [(0,a0),(2000000,a0)] h Post):Eng.Spec Tryz.prog 24 h [a0] Post:=aE AU rfl [(0,a0),(2000000,a0)] ⟨rfl,rfl,trivial⟩ hp
abbrev ad9:AK:=.seq (.aa [m 22 4,m 2 22] [2,2000000]) .ret
abbrev ad1:AK:=.aa [m 16 4,bi 17 .add 16 1,.v 18 (.bin .shl (.t 17) (.c (.int .u64 7))),m 19 3,bi 20 .and 19 127,b 21 .or 18 20,m 4 21] [0,2,3,4,2000000]
abbrev ad2:AK:=.dF [m 14 0] (.aj (some 15) false 142015 51 [(.t 14)]) [m 3 15] [0,2,3,4,2000000]
abbrev aec:AK:=.seq ad2 ad1
abbrev ad4:AK:=.dF [.v 13 (.gX 61 (ci 3))] (.aH false 142000 (.fk (.t 13))) [] [0,2,4,2000000]
abbrev ad3:AK:=.seq (.aa [m 11 4,bi 12 .gtr 11 16777216] [0,2,4,12,2000000]) (.cond (.t 12) ad4 .skip)
abbrev aeb:AK:=.seq ad3 aec
abbrev ad5:AK:=.seq (.aa [m 9 3,bi 10 .geq 9 128] [0,2,4,10,2000000]) (.cond (.t 10) .skip (.exit 0))
abbrev aea:AK:=.seq ad5 (.block 1 aeb)
abbrev aed:AK:=.loop aea
abbrev ad8:AK:=.seq (.block 0 aed) ad9
abbrev ad7:AK:=.seq (.aa [m 7 3,bi 8 .and 7 127,m 4 8] [0,2,3,4,2000000]) ad8
abbrev ad6:AK:=.dF [m 5 0] (.aj (some 6) false 142006 51 [(.t 5)]) [m 3 6] [0,2,3,2000000]
abbrev ad0:AK:=.seq ad6 ad7
abbrev adZ:AK:=.seq (.aa [k 2 (ci 0)] [0,2,2000000]) ad0
abbrev ql:AK:=adZ
theorem AH:aA Tryz.prog 25 142000 1 ql [.tmp 2]:=⟨_,Tryz.func25,by kernel_rfl⟩
theorem aef {h:HP} {a0:AV} {V:Value} (hp:og Tryz.prog ql V [(0,a0),(2000000,a0)] h):Eng.gL Tryz.prog 25 h [a0] V:=uC AH rfl [(0,a0),(2000000,a0)] ⟨rfl,rfl,trivial⟩ hp
theorem aeh {h a0 Post} (hp:aD Tryz.prog ql [.tmp 2] 1 [(0,a0),(2000000,a0)] h Post):Eng.Spec Tryz.prog 25 h [a0] Post:=aE AH rfl [(0,a0),(2000000,a0)] ⟨rfl,rfl,trivial⟩ hp
abbrev A0:AK:=.aa [.eff 4 false 143004 (.alloc [.int .i64 0,.int .i64 0,.int .i64 0,.str [],.int .i64 0,.str [],.int .u32 0]),.eff 5 false 143005 (.alloc [.int .i64 0])] [0,1,4,5,2000002,2000003]
abbrev agk:AK:=.seq (.aa [.v 22 (.dK [.int .i64 0,.int .i64 0,.int .i64 0,.str [],.int .i64 0,.str [],.int .u32 0] []),.aH false 143000 (.st 7 (.t 4) (.t 22)),.aH false 143000 (.st 1 (.t 5) (ci 1))] [4,5,2000002,2000003]) .ret
abbrev A1:AK:=.seq (.aa [m 13 1,bi 14 .lss 13 12,m 15 14,.af 16 15 false false 143016 (.ah (.t 1)),.af 17 15 false false 143017 (.ah (.t 0)),.af 18 15 false false 143018 (.len true (.t 17)),.af 19 15 false false 143019 (.bin .sub (.t 18) (ci 20)),.af 20 15 false false 143020 (.bin .gtr (.t 16) (.t 19)),.v 21 (.pick (.t 15) (.c (.bool true)) (.t 20))] [0,1,4,5,21,2000002,2000003]) (.cond (.t 21) agk .skip)
abbrev aga:AK:=.seq (.aa [.v 143 (.ld true 7 (.t 4)),.aH false 143000 (.st 7 (.t 4) (.t 143)),.aH false 143000 (.st 1 (.t 5) (ci 0))] [4,5,2000002,2000003]) .ret
abbrev af9:AK:=.seq (.aa [m 136 6,m 137 1,.v 138 (.ai false 1 1 (.t 4)),.v 139 (.ld false 1 (.t 138)),.v 140 (.bK (.t 136) (some (.t 137)) (some (.t 139))),.aj (some 141) false 143141 28 [(.t 140)],.v 142 (.ai false 6 1 (.t 4)),.aH false 143000 (.st 1 (.t 142) (.t 141))] [4,5,2000002,2000003]) aga
abbrev af8:AK:=.seq (.aa [m 129 7,.v 130 (.ao (.t 129)),.v 131 (.ai false 1 1 (.t 130)),.v 132 (.ld false 1 (.t 131)),m 133 12,b 134 .add 132 133,.v 135 (.ai false 1 1 (.t 4)),.aH false 143000 (.st 1 (.t 135) (.t 134))] [1,4,5,6,2000002,2000003]) af9
abbrev af7:AK:=.seq (.aa [m 127 11,.v 128 (.ai false 3 1 (.t 4)),.aH false 143000 (.st 1 (.t 128) (.t 127))] [1,4,5,6,7,12,2000002,2000003]) af8
abbrev agc:AK:=.dF [.v 125 (.ld false 1 (.t 5)),.v 126 (.gX 61 (.t 125))] (.aH false 143000 (.fk (.t 126))) [] [1,4,5,6,7,11,12,2000002,2000003]
abbrev agb:AK:=.seq (.aa [.v 123 (.ld false 1 (.t 5)),bi 124 .neq 123 0] [1,4,5,6,7,11,12,124,2000002,2000003]) (.cond (.t 124) agc .skip)
abbrev A3:AK:=.seq agb af7
abbrev age:AK:=.aa [.aH false 143000 (.st 1 (.t 5) (ci 3))] [1,4,5,6,7,11,12,2000002,2000003]
abbrev agd:AK:=.seq (.aa [.v 111 (.ld false 1 (.t 5)),bi 112 .eql 111 2,m 113 112,.af 114 113 false false 143114 (.ld false 1 (.t 5)),.af 115 113 false false 143115 (.bin .eql (.t 114) (ci 0)),.af 116 113 false false 143116 (.ah (.t 115)),.af 117 116 true false 143117 (.ah (.t 11)),.af 118 116 true false 143118 (.len true (.t 117)),.af 119 116 true false 143119 (.ah (.t 9)),.af 120 116 true false 143120 (.bin .lss (.t 118) (.t 119)),.af 121 113 false false 143121 (.pick (.t 116) (.t 120) (.c (.bool false))),.v 122 (.pick (.t 113) (.c (.bool true)) (.t 121))] [1,4,5,6,7,11,12,122,2000002,2000003]) (.cond (.t 122) age .skip)
def af6:AK:=.seq agd (.bc A3)
abbrev af5:AK:=.seq (.aa [m 101 6,m 102 7,.v 103 (.ao (.t 102)),.v 104 (.ai false 1 1 (.t 103)),.v 105 (.ld false 1 (.t 104)),m 106 9,.aj (some 107) false 143107 27 [(.t 101),(.t 105),(.t 106)],m 100 107,.v 108 (.ext (.t 100) 0),.v 109 (.ext (.t 100) 1),.v 110 (.ext (.t 100) 2),m 11 108,m 12 109,.aH false 143000 (.st 1 (.t 5) (.t 110))] [1,4,5,6,7,9,11,12,2000002,2000003]) af6
abbrev agh:AK:=.dF [.v 99 (.gX 61 (ci 2))] (.aH false 143000 (.fk (.t 99))) [] [1,4,5,6,7,9,2000002,2000003]
abbrev agf:AK:=.seq (.aa [m 97 9,bi 98 .gtr 97 65000] [1,4,5,6,7,9,98,2000002,2000003]) (.cond (.t 98) agh .skip)
abbrev A2:AK:=.seq agf af5
abbrev agn:AK:=.aa [m 62 1,m 63 10,b 64 .sub 62 63,.v 65 (.ai false 4 1 (.t 4)),.aH false 143000 (.st 1 (.t 65) (.t 64))] [1,4,5,6,7,9,2000002,2000003]
abbrev agp:AK:=.dF [.v 61 (.gX 61 (ci 3))] (.aH false 143000 (.fk (.t 61))) [] [1,4,5,6,7,9,10,2000002,2000003]
abbrev ago:AK:=.seq (.aa [m 53 10,bi 54 .lss 53 1,m 55 54,.af 56 55 false false 143056 (.ah (.t 10)),.af 57 55 false false 143057 (.ah (.t 1)),.af 58 55 false false 143058 (.bin .sub (.t 57) (ci 12)),.af 59 55 false false 143059 (.bin .gtr (.t 56) (.t 58)),.v 60 (.pick (.t 55) (.c (.bool true)) (.t 59))] [1,4,5,6,7,9,10,60,2000002,2000003]) (.cond (.t 60) agp .skip)
abbrev agm:AK:=.seq ago agn
abbrev agq:AK:=.dF [m 51 7] (.aj (some 52) false 143052 25 [(.t 51)]) [m 10 52] [1,4,5,6,7,9,10,2000002,2000003]
abbrev agl:AK:=.seq agq agm
abbrev agu:AK:=.aa [m 90 7,.v 91 (.ao (.t 90)),.v 92 (.ai false 1 1 (.t 91)),.v 93 (.ld false 1 (.t 92)),bi 94 .add 93 20,.v 95 (.ao (.t 90)),.v 96 (.ai false 1 1 (.t 95)),.aH false 143000 (.st 1 (.t 96) (.t 94))] [1,4,5,6,7,9,2000002,2000003]
abbrev agt:AK:=.seq (.aa [u 143077 77 (.ah (.t 6)),u 143078 78 (.ah (.t 7)),u 143079 79 (.ao (.t 78)),u 143080 80 (.ai false 1 1 (.t 79)),u 143081 81 (.ld false 1 (.t 80)),u 143082 82 (.ah (.t 7)),u 143083 83 (.ao (.t 82)),u 143084 84 (.ai false 1 1 (.t 83)),u 143085 85 (.ld false 1 (.t 84)),u 143086 86 (.bin .add (.t 85) (ci 20)),.v 87 (.bK (.t 77) (some (.t 81)) (some (.t 86))),.aj (some 88) false 143088 26 [(.t 87)],.v 89 (.ai false 5 1 (.t 4)),.aH false 143000 (.st 1 (.t 89) (.t 88))] [1,4,5,6,7,9,2000002,2000003]) agu
abbrev agw:AK:=.dF [.v 76 (.gX 61 (ci 6))] (.aH false 143000 (.fk (.t 76))) [] [1,4,5,6,7,9,2000002,2000003]
abbrev agv:AK:=.seq (.aa [m 68 6,.v 69 (.len true (.t 68)),m 70 7,.v 71 (.ao (.t 70)),.v 72 (.ai false 1 1 (.t 71)),.v 73 (.ld false 1 (.t 72)),b 74 .sub 69 73,bi 75 .lss 74 20] [1,4,5,6,7,9,75,2000002,2000003]) (.cond (.t 75) agw .skip)
abbrev ags:AK:=.seq agv agt
abbrev agx:AK:=.dF [.v 43 (.gX 61 (ci 10))] (.aH false 143000 (.fk (.t 43))) [] [1,4,5,6,7,9,2000002,2000003]
abbrev agr:AK:=.seq (.aa [bi 67 .eql 42 7,m 66 67] [1,4,5,6,7,9,66,2000002,2000003]) (.cond (.t 66) ags agx)
abbrev A4:AK:=.seq (.aa [bi 50 .eql 42 6,m 49 50] [1,4,5,6,7,9,42,49,2000002,2000003]) (.cond (.t 49) agl agr)
abbrev agC:AK:=.aa [bi 48 .eql 42 4,m 44 48] [1,4,5,6,7,9,42,44,2000002,2000003]
abbrev agB:AK:=.seq (.aa [bi 47 .eql 42 3,m 44 47] [1,4,5,6,7,9,42,44,2000002,2000003]) (.cond (.t 44) .skip agC)
abbrev agA:AK:=.seq (.aa [bi 46 .eql 42 2,m 44 46] [1,4,5,6,7,9,42,44,2000002,2000003]) (.cond (.t 44) .skip agB)
abbrev agy:AK:=.seq (.aa [bi 45 .eql 42 1,m 44 45] [1,4,5,6,7,9,42,44,2000002,2000003]) (.cond (.t 44) .skip agA)
def agj:AK:=.seq agy (.bc (.cond (.t 44) .skip A4))
abbrev agi:AK:=.seq (.aa [m 42 8] [1,4,5,6,7,9,42,2000002,2000003]) (.block 0 agj)
def agH:AK:=.seq agi (.bc A2)
abbrev agG:AK:=.seq (.aa [m 40 8,.v 41 (.ai false 2 1 (.t 4)),.aH false 143000 (.st 1 (.t 41) (.t 40))] [1,4,5,6,7,8,9,2000002,2000003]) agH
abbrev agD:AK:=.dF [m 36 7] (.aj (some 37) false 143037 24 [(.t 36)]) [m 35 37,.v 38 (.ext (.t 35) 0),.v 39 (.ext (.t 35) 1),m 8 38,m 9 39] [1,4,5,6,7,8,9,2000002,2000003]
abbrev agF:AK:=.seq agD agG
abbrev agE:AK:=.seq (.aa [m 33 1,.v 34 (.ai false 0 1 (.t 4)),.aH false 143000 (.st 1 (.t 34) (.t 33))] [1,4,5,6,7,2000002,2000003]) agF
abbrev agz:AK:=.seq (.aa [m 29 6,m 30 1,.v 31 (.dK [.str [],.int .i64 0] [(0,1,(.t 29)),(1,1,(.t 30))]),.eff 32 false 143032 (.box 2 (.t 31)),m 7 32] [1,4,5,6,7,2000002,2000003]) agE
abbrev A5:AK:=.seq (.aa [m 24 0,m 25 0,.v 26 (.len true (.t 25)),bi 27 .sub 26 20,.v 28 (.bK (.t 24) none (some (.t 27))),m 6 28] [1,4,5,6,2000002,2000003]) agz
abbrev pread:AK:=seqK [A0,A1] (.seq (.fK 23 [(.c (.ak [.int .i64 23])),(.t 4),(.t 5)]) A5)
theorem agI:aA Tryz.prog 8 143000 24 pread [.cell 4 true 7,.cell 5 false 1]:=⟨_,Tryz.func8,by kernel_rfl⟩
theorem agJ {h a0 a1 Post} (hI:oh Tryz.prog 23 2) (hp:u7 Tryz.prog [A0,A1] A5 23 23 [(.t 4),(.t 5)] 143000 2 [.cell 4 true 7,.cell 5 false 1] [(0,a0),(1,a1)] h Post):Eng.Spec Tryz.prog 8 h [a0,a1] Post:=ayi agI rfl (Nat.le_of_ble_eq_true rfl) (Nat.le_of_ble_eq_true rfl) hI [(0,a0),(1,a1)] ⟨rfl,rfl,trivial⟩ hp
abbrev afi:AK:=.seq (.aa [m 34 4,.v 35 (.aV .i64 (.t 34)),m 2 35,k 3 (ci 0)] [2,3]) .ret
abbrev afk:AK:=.seq (.aa [k 2 (ci 0),k 3 (ci 5)] [2,3]) .ret
abbrev afj:AK:=.seq (.aa [u 144022 22 (.ah (.t 0)),u 144023 23 (.ah (.t 0)),u 144024 24 (.len true (.t 23)),u 144025 25 (.bin .sub (.t 24) (ci 20)),u 144026 26 (.bK (.t 22) none (some (.t 25))),u 144028 28 (.ah (.t 0)),u 144029 29 (.ah (.t 0)),u 144030 30 (.len true (.t 29)),u 144031 31 (.bin .sub (.t 30) (ci 20)),u 144032 32 (.bK (.t 28) (some (.t 31)) none),.aj (some 27) true 144027 20 [(.t 26)],b 33 .neq 27 32] [4,33]) (.cond (.t 33) afk .skip)
abbrev afh:AK:=.seq afj afi
abbrev ae9:AK:=.seq (.aa [k 2 (ci 0),k 3 (ci 2)] [2,3]) .ret
abbrev ae8:AK:=.seq (.aa [m 20 4,.v 21 (.bin .gtr (.t 20) (.c (.int .u64 1000)))] [0,4,21]) (.cond (.t 21) ae9 .skip)
abbrev afg:AK:=.seq ae8 afh
abbrev aff:AK:=.seq (.aa [m 17 0,.v 18 (.bK (.t 17) (some (ci 8)) (some (ci 12))),.aj (some 19) false 144019 19 [(.t 18)],m 4 19] [0,4]) afg
abbrev afb:AK:=.seq (.aa [k 2 (ci 0),k 3 (ci 3)] [2,3]) .ret
abbrev afa:AK:=.seq (.aa [m 8 0,.v 9 (.bK (.t 8) none (some (ci 4))),.v 10 (.bin .neq (.t 9) (.c (.str [80,65,67,75]))),m 11 10,.af 12 11 false false 144012 (.ah (.t 0)),.af 13 11 false false 144013 (.bK (.t 12) (some (ci 4)) (some (ci 8))),.iE 14 11 false false 144014 19 [(.t 13)],.af 15 11 false false 144015 (.bin .neq (.t 14) (.c (.int .u64 2))),.v 16 (.pick (.t 11) (.c (.bool true)) (.t 15))] [0,16]) (.cond (.t 16) afb .skip)
abbrev afe:AK:=.seq afa aff
abbrev afd:AK:=.seq (.aa [k 2 (ci 0),k 3 (ci 6)] [2,3]) .ret
abbrev afc:AK:=.seq (.aa [m 5 0,.v 6 (.len true (.t 5)),bi 7 .lss 6 32] [0,7]) (.cond (.t 7) afd .skip)
abbrev ae7:AK:=.seq afc afe
abbrev ae6:AK:=.seq (.aa [k 2 (ci 0),k 3 (ci 0)] [0]) ae7
abbrev AP:AK:=ae6
theorem afl:aA Tryz.prog 6 144000 1 AP [.tmp 2,.tmp 3]:=⟨_,Tryz.func6,by kernel_rfl⟩
theorem afm {h a0 Post} (hp:aD Tryz.prog AP [.tmp 2,.tmp 3] 1 [(0,a0)] h Post):Eng.Spec Tryz.prog 6 h [a0] Post:=aE afl rfl [(0,a0)] ⟨rfl,trivial⟩ hp
abbrev adQ:AK:=.seq (.aa [m 42 7,m 2 42,k 3 (ci 0)] [2,3]) .ret
abbrev adx:AK:=.seq (.aa [k 2 (.c (.al)),k 3 (ci 3)] [2,3]) .ret
abbrev adR:AK:=.seq (.aa [m 37 6,m 38 0,.v 39 (.len true (.t 38)),bi 40 .sub 39 20,b 41 .neq 37 40] [7,41]) (.cond (.t 41) adx .skip)
abbrev adP:AK:=.seq adR adQ
abbrev adC:AK:=.aa [bi 36 .add 19 1,m 19 36] [0,6,7,18,19]
abbrev adH:AK:=.aa [.v 34 (.ai false 1 1 (.t 8)),.v 35 (.ld false 1 (.t 34)),m 6 35] [0,6,7,18,19]
abbrev adG:AK:=.seq (.aa [m 30 7,.v 31 (.ld true 7 (.t 8)),.eff 32 false 145032 (.aW 7 [(.t 31)]),.eff 33 false 145033 (.app 7 72 (.t 30) (.t 32)),m 7 33] [0,7,8,18,19]) adH
abbrev adJ:AK:=.seq (.aa [m 29 9,k 2 (.c (.al)),m 3 29] [2,3]) .ret
abbrev adI:AK:=.seq (.aa [m 27 9,bi 28 .neq 27 0] [0,7,8,9,18,19,28]) (.cond (.t 28) adJ .skip)
abbrev adE:AK:=.seq adI adG
abbrev adD:AK:=.seq (.aa [m 22 0,m 23 6,.aj (some 24) false 145024 8 [(.t 22),(.t 23)],m 21 24,.v 25 (.ext (.t 21) 0),.v 26 (.ext (.t 21) 1),.eff 8 false 145008 (.alloc [.int .i64 0,.int .i64 0,.int .i64 0,.str [],.int .i64 0,.str [],.int .u32 0]),.aH false 145000 (.st 7 (.t 8) (.t 25)),m 9 26] [0,7,8,9,18,19]) adE
abbrev adB:AK:=.seq (.block 1 adD) adC
abbrev adA:AK:=.seq (.cond (.t 20) .skip (.exit 0)) adB
abbrev adz:AK:=.seq (.aa [b 20 .lss 19 18] [0,6,7,18,19,20]) adA
abbrev adS:AK:=.loop adz
abbrev ady:AK:=.seq (.aa [m 18 4,k 19 (ci 0)] [0,6,7,18,19]) (.block 0 adS)
abbrev adO:AK:=.seq ady adP
abbrev adN:AK:=.seq (.aa [k 7 (.c (.al))] [0,4,6,7]) adO
abbrev adM:AK:=.seq (.aa [k 6 (ci 12)] [0,4,6]) adN
abbrev adL:AK:=.seq (.aa [m 17 5,k 2 (.c (.al)),m 3 17] [2,3]) .ret
abbrev adK:AK:=.seq (.aa [m 15 5,bi 16 .neq 15 0] [0,4,5,16]) (.cond (.t 16) adL .skip)
abbrev adF:AK:=.seq adK adM
abbrev adw:AK:=.seq (.aa [m 11 0,.aj (some 12) false 145012 6 [(.t 11)],m 10 12,.v 13 (.ext (.t 10) 0),.v 14 (.ext (.t 10) 1),m 4 13,m 5 14] [0,4,5]) adF
abbrev adv:AK:=.seq (.aa [k 2 (.c (.al)),k 3 (ci 0)] [0]) adw
abbrev AG:AK:=adv
theorem adT:aA Tryz.prog 10 145000 1 AG [.tmp 2,.tmp 3]:=⟨_,Tryz.func10,by kernel_rfl⟩
theorem adV {h a0 Post} (hp:aD Tryz.prog AG [.tmp 2,.tmp 3] 1 [(0,a0)] h Post):Eng.Spec Tryz.prog 10 h [a0] Post:=aE adT rfl [(0,a0)] ⟨rfl,trivial⟩ hp
abbrev aeR:AK:=.seq (.aa [m 149 4,m 150 4,.aj (some 151) false 146151 20 [(.t 150)],b 152 .add 149 151,m 2 152,k 3 (ci 0)] [2,3]) .ret
abbrev ael:AK:=.aa [bi 148 .add 27 1,m 27 148] [0,4,5,25,26,27]
abbrev aeA:AK:=.aa [u 146117 117 (.ah (.t 4)),m 118 10,.v 119 (.len true (.t 118)),u 146122 122 (.ah (.t 13)),u 146124 124 (.ah (.t 10)),.aj (some 120) false 146120 36 [(ci 7),(.t 119)],.v 121 (.dL (.t 120)),b 123 .add 121 122,.aj (some 125) true 146125 37 [(.t 124)],b 126 .add 123 125,b 127 .add 117 126,m 4 127] [0,4,5,25,26,27]
abbrev aez:AK:=.seq (.aa [m 113 11,.aj (some 114) false 146114 40 [(.t 113)],m 112 114,.v 115 (.ext (.t 112) 0),.v 116 (.ext (.t 112) 1),m 13 115,m 14 116] [0,4,5,10,13,25,26,27]) aeA
abbrev aey:AK:=.seq (.aa [.v 108 (.ld true 2 (.t 9)),.aj (some 109) false 146109 39 [(.t 108)],m 107 109,.v 110 (.ext (.t 107) 0),.v 111 (.ext (.t 107) 1),m 11 110,m 12 111] [0,4,5,10,11,25,26,27]) aez
abbrev aeB:AK:=.aa [u 146128 128 (.ah (.t 4)),u 146129 129 (.ah (.t 10)),u 146130 130 (.len true (.t 129)),u 146133 133 (.ah (.t 4)),u 146134 134 (.len true (.t 133)),u 146135 135 (.ah (.t 5)),u 146136 136 (.ai false 3 1 (.t 7)),u 146137 137 (.ld false 1 (.t 136)),u 146138 138 (.aO 1 (.t 135) (.t 137)),u 146139 139 (.ld false 1 (.t 138)),u 146140 140 (.bin .sub (.t 134) (.t 139)),u 146144 144 (.ah (.t 10)),.aj (some 131) true 146131 36 [(ci 6),(.t 130)],u 146132 132 (.dL (.t 131)),.aj (some 141) true 146141 41 [(.t 140)],u 146142 142 (.dL (.t 141)),b 143 .add 132 142,.aj (some 145) true 146145 37 [(.t 144)],b 146 .add 143 145,b 147 .add 128 146,m 4 147] [0,4,5,25,26,27]
abbrev aex:AK:=.seq (.aa [.v 105 (.ai false 4 1 (.t 7)),.v 106 (.ld false 1 (.t 105))] [0,4,5,7,9,10,25,26,27,106]) (.cond (.t 106) aey aeB)
abbrev aeE:AK:=.seq (.aa [k 2 (.c (.str [])),k 3 (ci 2)] [2,3]) .ret
abbrev aeC:AK:=.seq (.aa [m 102 10,.v 103 (.len true (.t 102)),bi 104 .gtr 103 65000] [0,4,5,7,9,10,25,26,27,104]) (.cond (.t 104) aeE .skip)
abbrev aew:AK:=.seq aeC aex
abbrev aev:AK:=.seq (.aa [.v 96 (.ai false 1 1 (.t 9)),.v 97 (.ld false 1 (.t 96)),.v 98 (.ai true 0 2 (.t 7)),.v 99 (.ai false 1 1 (.t 98)),.v 100 (.ld false 1 (.t 99)),.aj (some 101) false 146101 38 [(.t 97),(.t 100)],m 10 101] [0,4,5,7,9,10,25,26,27]) aew
abbrev aet:AK:=.seq (.aa [m 90 0,.v 91 (.ai false 3 1 (.t 7)),.v 92 (.ld false 1 (.t 91)),.v 93 (.aO 5 (.t 90) (.t 92)),.v 94 (.ai true 0 2 (.t 93)),.v 95 (.ld true 2 (.t 94)),.eff 9 false 146009 (.alloc [.int .i64 0,.str []]),.aH false 146000 (.st 2 (.t 9) (.t 95))] [0,4,5,7,9,25,26,27]) aev
abbrev aeG:AK:=.seq (.aa [u 146074 74 (.ah (.t 4)),u 146075 75 (.ai true 0 2 (.t 7)),u 146076 76 (.ai false 0 1 (.t 75)),u 146077 77 (.ld false 1 (.t 76)),u 146078 78 (.ai true 0 2 (.t 7)),u 146079 79 (.ai false 1 1 (.t 78)),u 146080 80 (.ld false 1 (.t 79)),u 146081 81 (.len true (.t 80)),u 146084 84 (.ai true 0 2 (.t 7)),u 146085 85 (.ai false 1 1 (.t 84)),u 146086 86 (.ld false 1 (.t 85)),.aj (some 82) true 146082 36 [(.t 77),(.t 81)],u 146083 83 (.dL (.t 82)),.aj (some 87) true 146087 37 [(.t 86)],b 88 .add 83 87,b 89 .add 74 88,m 4 89] [0,4,5,25,26,27]) (.exit 1)
abbrev aeF:AK:=.seq (.aa [.v 71 (.ai false 2 1 (.t 7)),.v 72 (.ld false 1 (.t 71)),.v 73 (.un .not (.t 72))] [0,4,5,7,25,26,27,73]) (.cond (.t 73) aeG .skip)
abbrev aes:AK:=.seq aeF aet
abbrev aer:AK:=.seq (.aa [m 66 5,m 67 4,.v 68 (.len true (.t 67)),.eff 69 false 146069 (.aW 1 [(.t 68)]),.eff 70 false 146070 (.app 1 8 (.t 66) (.t 69)),m 5 70] [0,4,5,7,25,26,27]) aes
abbrev aeI:AK:=.seq (.aa [k 2 (.c (.str [])),k 3 (ci 10)] [2,3]) .ret
abbrev aeH:AK:=.seq (.aa [.v 51 (.ai false 2 1 (.t 7)),.v 52 (.ld false 1 (.t 51)),m 53 52,.af 54 53 true true 146054 (.ah (.t 0)),.af 55 53 true true 146055 (.ai false 3 1 (.t 7)),.af 56 53 true true 146056 (.ld false 1 (.t 55)),.af 57 53 true true 146057 (.aO 5 (.t 54) (.t 56)),.af 58 53 true true 146058 (.ai true 0 2 (.t 57)),.af 59 53 true true 146059 (.ai false 0 1 (.t 58)),.af 60 53 true true 146060 (.ld false 1 (.t 59)),.af 61 53 true true 146061 (.ai true 0 2 (.t 7)),.af 62 53 true true 146062 (.ai false 0 1 (.t 61)),.af 63 53 true true 146063 (.ld false 1 (.t 62)),.af 64 53 true false 146064 (.bin .neq (.t 60) (.t 63)),.v 65 (.pick (.t 53) (.t 64) (.c (.bool false)))] [0,4,5,7,25,26,27,65]) (.cond (.t 65) aeI .skip)
abbrev aep:AK:=.seq aeH aer
abbrev aeK:AK:=.seq (.aa [k 2 (.c (.str [])),k 3 (ci 1)] [2,3]) .ret
abbrev aeJ:AK:=.seq (.aa [.v 38 (.ai false 2 1 (.t 7)),.v 39 (.ld false 1 (.t 38)),m 40 39,.af 41 40 true false 146041 (.ai false 3 1 (.t 7)),.af 42 40 true false 146042 (.ld false 1 (.t 41)),.af 43 40 true false 146043 (.bin .lss (.t 42) (ci 0)),.af 44 40 true false 146044 (.ah (.t 43)),.af 45 44 false false 146045 (.ai false 3 1 (.t 7)),.af 46 44 false false 146046 (.ld false 1 (.t 45)),.af 47 44 false false 146047 (.ah (.t 6)),.af 48 44 false false 146048 (.bin .geq (.t 46) (.t 47)),.af 49 40 true false 146049 (.pick (.t 44) (.c (.bool true)) (.t 48)),.v 50 (.pick (.t 40) (.t 49) (.c (.bool false)))] [0,4,5,7,25,26,27,50]) (.cond (.t 50) aeK .skip)
abbrev aeo:AK:=.seq aeJ aep
abbrev aeO:AK:=.seq (.aa [m 37 8,k 2 (.c (.str [])),m 3 37] [2,3]) .ret
abbrev aeN:AK:=.seq (.aa [m 35 8,bi 36 .neq 35 0] [0,4,5,6,7,8,25,26,27,36]) (.cond (.t 36) aeO .skip)
abbrev aeM:AK:=.seq (.aa [.v 32 (.ai true 0 2 (.t 7)),.v 33 (.ld true 2 (.t 32)),.aj (some 34) false 146034 35 [(.t 33)],m 8 34] [0,4,5,6,7,8,25,26,27]) aeN
abbrev aen:AK:=.seq aeM aeo
abbrev aem:AK:=.seq (.aa [m 29 27,.v 30 (.aO 5 (.t 25) (.t 27)),.v 31 (.ld true 5 (.t 30)),.eff 7 false 146007 (.alloc [.int .i64 0,.str [],.bool false,.int .i64 0,.bool false]),m 6 29,.aH false 146000 (.st 5 (.t 7) (.t 31))] [0,4,5,6,7,25,26,27]) aen
abbrev aek:AK:=.seq (.block 1 aem) ael
abbrev aeU:AK:=.seq (.cond (.t 28) .skip (.exit 0)) aek
abbrev aeT:AK:=.seq (.aa [b 28 .lss 27 26] [0,4,5,25,26,27,28]) aeU
abbrev aeV:AK:=.loop aeT
abbrev aeS:AK:=.seq (.aa [m 25 0,.v 26 (.len false (.t 25)),k 27 (ci 0)] [0,4,5,25,26,27]) (.block 0 aeV)
abbrev aeL:AK:=.seq aeS aeR
abbrev aeD:AK:=.seq (.aa [k 5 (.c (.al))] [0,4,5]) aeL
abbrev aeu:AK:=.seq (.aa [.aj (some 18) false 146018 34 [(.c (.int .u64 2)),(ci 4)],.v 19 (.bin .add (.c (.str [80,65,67,75])) (.t 18)),m 20 0,.v 21 (.len false (.t 20)),.v 22 (.aV .u64 (.t 21)),.aj (some 23) false 146023 34 [(.t 22),(ci 4)],b 24 .add 19 23,m 4 24] [0,4]) aeD
abbrev aeQ:AK:=.seq (.aa [k 2 (.c (.str [])),k 3 (ci 2)] [2,3]) .ret
abbrev aeP:AK:=.seq (.aa [m 15 0,.v 16 (.len false (.t 15)),bi 17 .gtr 16 1000] [0,17]) (.cond (.t 17) aeQ .skip)
abbrev aej:AK:=.seq aeP aeu
abbrev aei:AK:=.seq (.aa [k 2 (.c (.str [])),k 3 (ci 0)] [0]) aej
abbrev AL:AK:=aei
theorem aeW:aA Tryz.prog 15 146000 1 AL [.tmp 2,.tmp 3]:=⟨_,Tryz.func15,by kernel_rfl⟩
theorem AM {h a0 Post} (hp:aD Tryz.prog AL [.tmp 2,.tmp 3] 1 [(0,a0)] h Post):Eng.Spec Tryz.prog 15 h [a0] Post:=aE aeW rfl [(0,a0)] ⟨rfl,trivial⟩ hp
abbrev arx:AK:=.seq (.aa [m 28 4,.v 29 (.aV .i64 (.t 28)),m 2 29,k 3 (ci 0)] [2,3]) .ret
abbrev arz:AK:=.seq (.aa [k 2 (ci 0),k 3 (ci 5)] [2,3]) .ret
abbrev ary:AK:=.seq (.aa [u 147016 16 (.ah (.t 0)),u 147017 17 (.ah (.t 0)),u 147018 18 (.len true (.t 17)),u 147019 19 (.bin .sub (.t 18) (ci 20)),u 147020 20 (.bK (.t 16) none (some (.t 19))),u 147022 22 (.ah (.t 0)),u 147023 23 (.ah (.t 0)),u 147024 24 (.len true (.t 23)),u 147025 25 (.bin .sub (.t 24) (ci 20)),u 147026 26 (.bK (.t 22) (some (.t 25)) none),.aj (some 21) true 147021 22 [(.t 20)],b 27 .neq 21 26] [4,27]) (.cond (.t 27) arz .skip)
abbrev arw:AK:=.seq ary arx
abbrev arn:AK:=.seq (.aa [k 2 (ci 0),k 3 (ci 2)] [2,3]) .ret
abbrev arl:AK:=.seq (.aa [m 14 4,.v 15 (.bin .gtr (.t 14) (.c (.int .u64 1000)))] [0,4,15]) (.cond (.t 15) arn .skip)
abbrev arv:AK:=.seq arl arw
abbrev aru:AK:=.seq (.aa [m 11 0,.v 12 (.bK (.t 11) (some (ci 8)) (some (ci 12))),.aj (some 13) false 147013 21 [(.t 12)],m 4 13] [0,4]) arv
abbrev arp:AK:=.seq (.aa [k 2 (ci 0),k 3 (ci 3)] [2,3]) .ret
abbrev aro:AK:=.seq (.aa [m 8 0,.v 9 (.bK (.t 8) none (some (ci 8))),.v 10 (.bin .neq (.t 9) (.c (.str [80,65,67,75,0,0,0,2])))] [0,10]) (.cond (.t 10) arp .skip)
abbrev art:AK:=.seq aro aru
abbrev ars:AK:=.seq (.aa [k 2 (ci 0),k 3 (ci 6)] [2,3]) .ret
abbrev arq:AK:=.seq (.aa [m 5 0,.v 6 (.len true (.t 5)),bi 7 .lss 6 32] [0,7]) (.cond (.t 7) ars .skip)
abbrev ark:AK:=.seq arq art
abbrev arj:AK:=.seq (.aa [k 2 (ci 0),k 3 (ci 0)] [0]) ark
abbrev Ce:AK:=arj
theorem arA:aA Tryz.prog 7 147000 1 Ce [.tmp 2,.tmp 3]:=⟨_,Tryz.func7,by kernel_rfl⟩
theorem arC {h a0 Post} (hp:aD Tryz.prog Ce [.tmp 2,.tmp 3] 1 [(0,a0)] h Post):Eng.Spec Tryz.prog 7 h [a0] Post:=aE arA rfl [(0,a0)] ⟨rfl,trivial⟩ hp
abbrev asI:AK:=.aa [m 13 11,bi 14 .add 13 1,m 11 14] [0,1,8,9,10,11]
abbrev asv:AK:=.seq (.aa [m 46 8,m 47 9,m 48 1,m 49 11,b 50 .add 48 49,bi 51 .add 50 1,m 4 46,m 5 47,m 6 51,k 7 (ci 0)] [4,5,6,7]) .ret
abbrev Cl:AK:=.seq (.aa [m 44 12,bi 45 .lss 44 128] [0,1,8,9,10,11,45]) (.cond (.t 45) asv .skip)
abbrev asz:AK:=.aa [k 10 (ci 16)] [0,1,8,9,10,11,12]
abbrev asy:AK:=.seq (.aa [m 34 12,bi 35 .rem 34 16,m 9 35] [0,1,8,9,11,12]) asz
abbrev asx:AK:=.seq (.aa [m 31 12,bi 32 .quo 31 16,bi 33 .rem 32 8,m 8 33] [0,1,8,11,12]) asy
abbrev asC:AK:=.aa [m 42 10,.v 43 (.bin .mul (ci 128) (.t 42)),m 10 43] [0,1,8,9,10,11,12]
abbrev asA:AK:=.seq (.aa [m 36 9,m 37 12,bi 38 .rem 37 128,m 39 10,b 40 .mul 38 39,b 41 .add 36 40,m 9 41] [0,1,8,9,10,11,12]) asC
abbrev asw:AK:=.seq (.aa [m 29 11,bi 30 .eql 29 0] [0,1,8,9,10,11,12,30]) (.cond (.t 30) asx asA)
def asu:AK:=.seq asw (.bc Cl)
abbrev asL:AK:=.seq (.aa [m 23 0,m 24 1,m 25 11,b 26 .add 24 25,.v 27 (.bV (.t 23) (.t 26)),.v 28 (.aV .i64 (.t 27)),m 12 28] [0,1,8,9,10,11,12]) asu
abbrev asE:AK:=.seq (.aa [k 4 (ci 0),k 5 (ci 0),k 6 (ci 0),k 7 (ci 3)] [4,5,6,7]) .ret
abbrev asD:AK:=.seq (.aa [m 21 11,bi 22 .eql 21 5] [0,1,8,9,10,11,22]) (.cond (.t 22) asE .skip)
abbrev asK:AK:=.seq asD asL
abbrev asG:AK:=.seq (.aa [k 4 (ci 0),k 5 (ci 0),k 6 (ci 0),k 7 (ci 6)] [4,5,6,7]) .ret
abbrev asF:AK:=.seq (.aa [m 15 1,m 16 11,b 17 .add 15 16,m 18 0,.v 19 (.len true (.t 18)),b 20 .geq 17 19] [0,1,8,9,10,11,20]) (.cond (.t 20) asG .skip)
abbrev asJ:AK:=.seq asF asK
abbrev asH:AK:=.seq (.block 1 asJ) asI
abbrev asM:AK:=.loop asH
abbrev asB:AK:=.seq (.aa [k 11 (ci 0)] [0,1,8,9,10,11]) (.block 0 asM)
abbrev ast:AK:=.seq (.aa [k 8 (ci 0),k 9 (ci 0),k 10 (ci 1)] [0,1,8,9,10]) asB
abbrev ass:AK:=.seq (.aa [k 4 (ci 0),k 5 (ci 0),k 6 (ci 0),k 7 (ci 0)] [0,1]) ast
abbrev Ck:AK:=ass
theorem asN:aA Tryz.prog 29 148000 2 Ck [.tmp 4,.tmp 5,.tmp 6,.tmp 7]:=⟨_,Tryz.func29,by kernel_rfl⟩
theorem asP {h a0 a1 Post} (hp:aD Tryz.prog Ck [.tmp 4,.tmp 5,.tmp 6,.tmp 7] 2 [(0,a0),(1,a1)] h Post):Eng.Spec Tryz.prog 29 h [a0,a1] Post:=aE asN rfl [(0,a0),(1,a1)] ⟨rfl,rfl,trivial⟩ hp
abbrev aqC:AK:=.aa [m 10 8,bi 11 .add 10 1,m 8 11] [0,1,7,8]
abbrev aqs:AK:=.seq (.aa [m 37 7,m 38 1,m 39 8,b 40 .add 38 39,bi 41 .add 40 1,m 4 37,m 5 41,k 6 (ci 0)] [4,5,6]) .ret
abbrev aqr:AK:=.seq (.aa [m 35 9,bi 36 .lss 35 128] [0,1,7,8,36]) (.cond (.t 36) aqs .skip)
abbrev aqq:AK:=.seq (.aa [m 31 7,m 32 9,bi 33 .rem 32 128,b 34 .add 31 33,m 7 34] [0,1,7,8,9]) aqr
abbrev aqE:AK:=.seq (.aa [m 25 0,m 26 1,m 27 8,b 28 .add 26 27,.v 29 (.bV (.t 25) (.t 28)),.v 30 (.aV .i64 (.t 29)),m 9 30] [0,1,7,8,9]) aqq
abbrev aqu:AK:=.seq (.aa [k 4 (ci 0),k 5 (ci 0),k 6 (ci 6)] [4,5,6]) .ret
abbrev aqt:AK:=.seq (.aa [m 19 1,m 20 8,b 21 .add 19 20,m 22 0,.v 23 (.len true (.t 22)),b 24 .geq 21 23] [0,1,7,8,24]) (.cond (.t 24) aqu .skip)
abbrev B9:AK:=.seq aqt aqE
abbrev aqy:AK:=.aa [m 16 7,bi 17 .add 16 1,bi 18 .mul 17 128,m 7 18] [0,1,7,8]
abbrev aqA:AK:=.seq (.aa [k 4 (ci 0),k 5 (ci 0),k 6 (ci 3)] [4,5,6]) .ret
abbrev aqz:AK:=.seq (.aa [m 14 7,bi 15 .gtr 14 16777216] [0,1,7,8,15]) (.cond (.t 15) aqA .skip)
abbrev aqw:AK:=.seq aqz aqy
abbrev aqv:AK:=.seq (.aa [m 12 8,bi 13 .gtr 12 0] [0,1,7,8,13]) (.cond (.t 13) aqw .skip)
def aqD:AK:=.seq aqv (.bc B9)
abbrev aqB:AK:=.seq (.block 1 aqD) aqC
abbrev aqF:AK:=.loop aqB
abbrev aqx:AK:=.seq (.aa [k 8 (ci 0)] [0,1,7,8]) (.block 0 aqF)
abbrev aqp:AK:=.seq (.aa [k 7 (ci 0)] [0,1,7]) aqx
abbrev aqo:AK:=.seq (.aa [k 4 (ci 0),k 5 (ci 0),k 6 (ci 0)] [0,1]) aqp
abbrev B8:AK:=aqo
theorem aqG:aA Tryz.prog 30 149000 2 B8 [.tmp 4,.tmp 5,.tmp 6]:=⟨_,Tryz.func30,by kernel_rfl⟩
theorem aqI {h a0 a1 Post} (hp:aD Tryz.prog B8 [.tmp 4,.tmp 5,.tmp 6] 2 [(0,a0),(1,a1)] h Post):Eng.Spec Tryz.prog 30 h [a0,a1] Post:=aE aqG rfl [(0,a0),(1,a1)] ⟨rfl,rfl,trivial⟩ hp
abbrev auM:AK:=.seq (.aa [.v 140 (.ld true 7 (.t 11)),.aH false 150000 (.st 7 (.t 4) (.t 140)),k 5 (ci 0)] [4,5]) .ret
abbrev auL:AK:=.seq (.aa [m 133 6,m 134 1,.v 135 (.ai false 1 1 (.t 11)),.v 136 (.ld false 1 (.t 135)),.v 137 (.bK (.t 133) (some (.t 134)) (some (.t 136))),.aj (some 138) false 150138 33 [(.t 137)],.v 139 (.ai false 6 1 (.t 11)),.aH false 150000 (.st 1 (.t 139) (.t 138))] [4,11]) auM
abbrev auK:AK:=.seq (.aa [m 129 9,m 130 16,b 131 .add 129 130,.v 132 (.ai false 1 1 (.t 11)),.aH false 150000 (.st 1 (.t 132) (.t 131))] [1,4,6,11]) auL
abbrev auJ:AK:=.seq (.aa [m 127 15,.v 128 (.ai false 3 1 (.t 11)),.aH false 150000 (.st 1 (.t 128) (.t 127))] [1,4,6,9,11,16]) auK
abbrev auO:AK:=.seq (.aa [.v 125 (.dK [.int .i64 0,.int .i64 0,.int .i64 0,.str [],.int .i64 0,.str [],.int .u32 0] []),m 126 17,.aH false 150000 (.st 7 (.t 4) (.t 125)),m 5 126] [4,5]) .ret
abbrev auN:AK:=.seq (.aa [m 123 17,bi 124 .neq 123 0] [1,4,6,9,11,15,16,17,124]) (.cond (.t 124) auO .skip)
abbrev auI:AK:=.seq auN auJ
abbrev auR:AK:=.seq (.aa [.v 122 (.dK [.int .i64 0,.int .i64 0,.int .i64 0,.str [],.int .i64 0,.str [],.int .u32 0] []),.aH false 150000 (.st 7 (.t 4) (.t 122)),k 5 (ci 3)] [4,5]) .ret
abbrev auP:AK:=.seq (.aa [m 110 17,bi 111 .eql 110 2,m 112 111,.af 113 112 false false 150113 (.ah (.t 17)),.af 114 112 false false 150114 (.bin .eql (.t 113) (ci 0)),.af 115 112 false false 150115 (.ah (.t 114)),.af 116 115 true false 150116 (.ah (.t 15)),.af 117 115 true false 150117 (.len true (.t 116)),.af 118 115 true false 150118 (.ah (.t 8)),.af 119 115 true false 150119 (.bin .lss (.t 117) (.t 118)),.af 120 112 false false 150120 (.pick (.t 115) (.t 119) (.c (.bool false))),.v 121 (.pick (.t 112) (.c (.bool true)) (.t 120))] [1,4,6,9,11,15,16,17,121]) (.cond (.t 121) auR .skip)
abbrev avp:AK:=.seq auP auI
abbrev avo:AK:=.seq (.aa [m 103 6,m 104 9,m 105 8,.aj (some 106) false 150106 32 [(.t 103),(.t 104),(.t 105)],m 102 106,.v 107 (.ext (.t 102) 0),.v 108 (.ext (.t 102) 1),.v 109 (.ext (.t 102) 2),m 15 107,m 16 108,m 17 109] [1,4,6,8,9,11,15,16,17]) avp
abbrev auT:AK:=.seq (.aa [.v 101 (.dK [.int .i64 0,.int .i64 0,.int .i64 0,.str [],.int .i64 0,.str [],.int .u32 0] []),.aH false 150000 (.st 7 (.t 4) (.t 101)),k 5 (ci 2)] [4,5]) .ret
abbrev auS:AK:=.seq (.aa [m 99 8,bi 100 .gtr 99 65000] [1,4,6,8,9,11,100]) (.cond (.t 100) auT .skip)
abbrev CB:AK:=.seq auS avo
abbrev au1:AK:=.aa [m 81 13,m 9 81] [1,4,6,8,9,11]
abbrev au0:AK:=.seq (.aa [m 77 1,m 78 12,b 79 .sub 77 78,.v 80 (.ai false 4 1 (.t 11)),.aH false 150000 (.st 1 (.t 80) (.t 79))] [1,4,6,8,11,13]) au1
abbrev au3:AK:=.seq (.aa [.v 76 (.dK [.int .i64 0,.int .i64 0,.int .i64 0,.str [],.int .i64 0,.str [],.int .u32 0] []),.aH false 150000 (.st 7 (.t 4) (.t 76)),k 5 (ci 3)] [4,5]) .ret
abbrev au2:AK:=.seq (.aa [m 68 12,bi 69 .lss 68 1,m 70 69,.af 71 70 false false 150071 (.ah (.t 12)),.af 72 70 false false 150072 (.ah (.t 1)),.af 73 70 false false 150073 (.bin .sub (.t 72) (ci 12)),.af 74 70 false false 150074 (.bin .gtr (.t 71) (.t 73)),.v 75 (.pick (.t 70) (.c (.bool true)) (.t 74))] [1,4,6,8,11,12,13,75]) (.cond (.t 75) au3 .skip)
abbrev auZ:AK:=.seq au2 au0
abbrev au6:AK:=.seq (.aa [.v 66 (.dK [.int .i64 0,.int .i64 0,.int .i64 0,.str [],.int .i64 0,.str [],.int .u32 0] []),m 67 14,.aH false 150000 (.st 7 (.t 4) (.t 66)),m 5 67] [4,5]) .ret
abbrev au4:AK:=.seq (.aa [m 64 14,bi 65 .neq 64 0] [1,4,6,8,11,12,13,14,65]) (.cond (.t 65) au6 .skip)
abbrev auY:AK:=.seq au4 auZ
abbrev auX:AK:=.seq (.aa [m 58 6,m 59 9,.aj (some 60) false 150060 30 [(.t 58),(.t 59)],m 57 60,.v 61 (.ext (.t 57) 0),.v 62 (.ext (.t 57) 1),.v 63 (.ext (.t 57) 2),m 12 61,m 13 62,m 14 63] [1,4,6,8,11,12,13,14]) auY
abbrev ava:AK:=.aa [m 97 9,bi 98 .add 97 20,m 9 98] [1,4,6,8,9,11]
abbrev au9:AK:=.seq (.aa [m 90 6,m 91 9,m 92 9,bi 93 .add 92 20,.v 94 (.bK (.t 90) (some (.t 91)) (some (.t 93))),.aj (some 95) false 150095 31 [(.t 94)],.v 96 (.ai false 5 1 (.t 11)),.aH false 150000 (.st 1 (.t 96) (.t 95))] [1,4,6,8,9,11]) ava
abbrev avc:AK:=.seq (.aa [.v 89 (.dK [.int .i64 0,.int .i64 0,.int .i64 0,.str [],.int .i64 0,.str [],.int .u32 0] []),.aH false 150000 (.st 7 (.t 4) (.t 89)),k 5 (ci 6)] [4,5]) .ret
abbrev avb:AK:=.seq (.aa [m 84 6,.v 85 (.len true (.t 84)),m 86 9,b 87 .sub 85 86,bi 88 .lss 87 20] [1,4,6,8,9,11,88]) (.cond (.t 88) avc .skip)
abbrev au8:AK:=.seq avb au9
abbrev avd:AK:=.seq (.aa [.v 49 (.dK [.int .i64 0,.int .i64 0,.int .i64 0,.str [],.int .i64 0,.str [],.int .u32 0] []),.aH false 150000 (.st 7 (.t 4) (.t 49)),k 5 (ci 10)] [4,5]) .ret
abbrev au7:AK:=.seq (.aa [bi 83 .eql 48 7,m 82 83] [1,4,6,8,9,11,82]) (.cond (.t 82) au8 avd)
abbrev CA:AK:=.seq (.aa [bi 56 .eql 48 6,m 55 56] [1,4,6,8,9,11,48,55]) (.cond (.t 55) auX au7)
abbrev avi:AK:=.aa [bi 54 .eql 48 4,m 50 54] [1,4,6,8,9,11,48,50]
abbrev avh:AK:=.seq (.aa [bi 53 .eql 48 3,m 50 53] [1,4,6,8,9,11,48,50]) (.cond (.t 50) .skip avi)
abbrev avg:AK:=.seq (.aa [bi 52 .eql 48 2,m 50 52] [1,4,6,8,9,11,48,50]) (.cond (.t 50) .skip avh)
abbrev avf:AK:=.seq (.aa [bi 51 .eql 48 1,m 50 51] [1,4,6,8,9,11,48,50]) (.cond (.t 50) .skip avg)
def auV:AK:=.seq avf (.bc (.cond (.t 50) .skip CA))
abbrev auU:AK:=.seq (.aa [m 48 7] [1,4,6,8,9,11,48]) (.block 0 auV)
def avl:AK:=.seq auU (.bc CB)
abbrev ave:AK:=.seq (.aa [m 45 1,m 46 7,.v 47 (.dK [.int .i64 0,.int .i64 0,.int .i64 0,.str [],.int .i64 0,.str [],.int .u32 0] [(0,1,(.t 45)),(2,1,(.t 46))]),.eff 11 false 150011 (.alloc [.int .i64 0,.int .i64 0,.int .i64 0,.str [],.int .i64 0,.str [],.int .u32 0]),.aH false 150000 (.st 7 (.t 11) (.t 47))] [1,4,6,7,8,9,11]) avl
abbrev avk:AK:=.seq (.aa [.v 43 (.dK [.int .i64 0,.int .i64 0,.int .i64 0,.str [],.int .i64 0,.str [],.int .u32 0] []),m 44 10,.aH false 150000 (.st 7 (.t 4) (.t 43)),m 5 44] [4,5]) .ret
abbrev avj:AK:=.seq (.aa [m 41 10,bi 42 .neq 41 0] [1,4,6,7,8,9,10,42]) (.cond (.t 42) avk .skip)
abbrev au5:AK:=.seq avj ave
abbrev auW:AK:=.seq (.aa [m 34 6,m 35 1,.aj (some 36) false 150036 29 [(.t 34),(.t 35)],m 33 36,.v 37 (.ext (.t 33) 0),.v 38 (.ext (.t 33) 1),.v 39 (.ext (.t 33) 2),.v 40 (.ext (.t 33) 3),m 7 37,m 8 38,m 9 39,m 10 40] [1,4,6,7,8,9,10]) au5
abbrev auQ:AK:=.seq (.aa [m 28 0,m 29 0,.v 30 (.len true (.t 29)),bi 31 .sub 30 20,.v 32 (.bK (.t 28) none (some (.t 31))),m 6 32] [1,4,6]) auW
abbrev avn:AK:=.seq (.aa [.v 27 (.dK [.int .i64 0,.int .i64 0,.int .i64 0,.str [],.int .i64 0,.str [],.int .u32 0] []),.aH false 150000 (.st 7 (.t 4) (.t 27)),k 5 (ci 1)] [4,5]) .ret
abbrev avm:AK:=.seq (.aa [m 18 1,bi 19 .lss 18 12,m 20 19,.af 21 20 false false 150021 (.ah (.t 1)),.af 22 20 false false 150022 (.ah (.t 0)),.af 23 20 false false 150023 (.len true (.t 22)),.af 24 20 false false 150024 (.bin .sub (.t 23) (ci 20)),.af 25 20 false false 150025 (.bin .gtr (.t 21) (.t 24)),.v 26 (.pick (.t 20) (.c (.bool true)) (.t 25))] [0,1,4,26]) (.cond (.t 26) avn .skip)
abbrev auH:AK:=.seq avm auQ
abbrev auG:AK:=.seq (.aa [.eff 4 false 150004 (.alloc [.int .i64 0,.int .i64 0,.int .i64 0,.str [],.int .i64 0,.str [],.int .u32 0]),k 5 (ci 0)] [0,1,4]) auH
abbrev Cz:AK:=auG
theorem avq:aA Tryz.prog 9 150000 2 Cz [.cell 4 true 7,.tmp 5]:=⟨_,Tryz.func9,by kernel_rfl⟩
theorem avt {h a0 a1 Post} (hp:aD Tryz.prog Cz [.cell 4 true 7,.tmp 5] 2 [(0,a0),(1,a1)] h Post):Eng.Spec Tryz.prog 9 h [a0,a1] Post:=aE avq rfl [(0,a0),(1,a1)] ⟨rfl,rfl,trivial⟩ hp
abbrev aqi:AK:=.seq (.aa [m 45 6,m 2 45,k 3 (ci 0)] [2,3]) .ret
abbrev apZ:AK:=.seq (.aa [k 2 (.c (.al)),k 3 (ci 3)] [2,3]) .ret
abbrev aqj:AK:=.seq (.aa [m 40 7,m 41 0,.v 42 (.len true (.t 41)),bi 43 .sub 42 20,b 44 .neq 40 43] [6,44]) (.cond (.t 44) apZ .skip)
abbrev aqh:AK:=.seq aqj aqi
abbrev ap3:AK:=.aa [m 23 8,bi 24 .add 23 1,m 8 24] [0,4,6,7,8]
abbrev ap8:AK:=.aa [.v 38 (.ai false 1 1 (.t 9)),.v 39 (.ld false 1 (.t 38)),m 7 39] [0,4,6,7,8]
abbrev ap6:AK:=.seq (.aa [m 34 6,.v 35 (.ld true 7 (.t 9)),.eff 36 false 151036 (.aW 7 [(.t 35)]),.eff 37 false 151037 (.app 7 72 (.t 34) (.t 36)),m 6 37] [0,4,6,8,9]) ap8
abbrev aqa:AK:=.seq (.aa [m 33 10,k 2 (.c (.al)),m 3 33] [2,3]) .ret
abbrev ap9:AK:=.seq (.aa [m 31 10,bi 32 .neq 31 0] [0,4,6,8,9,10,32]) (.cond (.t 32) aqa .skip)
abbrev ap5:AK:=.seq ap9 ap6
abbrev ap4:AK:=.seq (.aa [m 26 0,m 27 7,.aj (some 28) false 151028 9 [(.t 26),(.t 27)],m 25 28,.v 29 (.ext (.t 25) 0),.v 30 (.ext (.t 25) 1),.eff 9 false 151009 (.alloc [.int .i64 0,.int .i64 0,.int .i64 0,.str [],.int .i64 0,.str [],.int .u32 0]),.aH false 151000 (.st 7 (.t 9) (.t 29)),m 10 30] [0,4,6,8,9,10]) ap5
abbrev ap2:AK:=.seq (.block 1 ap4) ap3
abbrev aqb:AK:=.seq (.aa [m 20 8,m 21 4,b 22 .lss 20 21] [0,4,6,7,8,22]) (.cond (.t 22) .skip (.exit 0))
abbrev ap1:AK:=.seq aqb ap2
abbrev aqk:AK:=.loop ap1
abbrev ap0:AK:=.seq (.aa [k 8 (ci 0)] [0,4,6,7,8]) (.block 0 aqk)
abbrev aqg:AK:=.seq ap0 aqh
abbrev aqf:AK:=.seq (.aa [k 7 (ci 12)] [0,4,6,7]) aqg
abbrev aqe:AK:=.seq (.aa [.eff 19 false 151019 (.aW 7 []),m 6 19] [0,4,6]) aqf
abbrev aqd:AK:=.seq (.aa [m 18 5,k 2 (.c (.al)),m 3 18] [2,3]) .ret
abbrev aqc:AK:=.seq (.aa [m 16 5,bi 17 .neq 16 0] [0,4,5,17]) (.cond (.t 17) aqd .skip)
abbrev ap7:AK:=.seq aqc aqe
abbrev apY:AK:=.seq (.aa [m 12 0,.aj (some 13) false 151013 7 [(.t 12)],m 11 13,.v 14 (.ext (.t 11) 0),.v 15 (.ext (.t 11) 1),m 4 14,m 5 15] [0,4,5]) ap7
abbrev apX:AK:=.seq (.aa [k 2 (.c (.al)),k 3 (ci 0)] [0]) apY
abbrev B5:AK:=apX
theorem aql:aA Tryz.prog 11 151000 1 B5 [.tmp 2,.tmp 3]:=⟨_,Tryz.func11,by kernel_rfl⟩
theorem aqn {h a0 Post} (hp:aD Tryz.prog B5 [.tmp 2,.tmp 3] 1 [(0,a0)] h Post):Eng.Spec Tryz.prog 11 h [a0] Post:=aE aql rfl [(0,a0)] ⟨rfl,trivial⟩ hp
abbrev FZ:AK:=.seq (.aa [m 21 2,bi 22 .eql 21 0,m 23 22,.af 24 23 true false 152024 (.ah (.t 4)),.af 25 23 true false 152025 (.bin .eql (.t 24) (ci 0)),.v 26 (.pick (.t 23) (.t 25) (.c (.bool false))),m 27 26,.af 28 27 true false 152028 (.ah (.t 6)),.af 29 27 true false 152029 (.bin .eql (.t 28) (ci 6)),.v 30 (.pick (.t 27) (.t 29) (.c (.bool false))),m 31 30,.af 32 31 true false 152032 (.ah (.t 3)),.af 33 31 true false 152033 (.bin .eql (.t 32) (ci 0)),.v 34 (.pick (.t 31) (.t 33) (.c (.bool false))),m 35 34,.af 36 35 true false 152036 (.ah (.t 1)),.af 37 35 true false 152037 (.len true (.t 36)),.af 38 35 true false 152038 (.bin .eql (.t 37) (ci 32)),.v 39 (.pick (.t 35) (.t 38) (.c (.bool false))),m 40 39,.af 41 40 true false 152041 (.ah (.t 1)),.af 42 40 true false 152042 (.bK (.t 41) none (some (ci 12))),.af 43 40 true false 152043 (.bin .eql (.t 42) (.c (.str [80,65,67,75,0,0,0,2,0,0,0,0]))),.v 44 (.pick (.t 40) (.t 43) (.c (.bool false))),m 0 44] [0]) .ret
abbrev FY:AK:=.seq (.aa [m 17 1,.aj (some 18) false 152018 8 [(.t 17),(ci 12)],m 16 18,.v 19 (.ext (.t 16) 0),.v 20 (.ext (.t 16) 1),.eff 5 false 152005 (.alloc [.int .i64 0,.int .i64 0,.int .i64 0,.str [],.int .i64 0,.str [],.int .u32 0]),.aH false 152000 (.st 7 (.t 5) (.t 19)),m 6 20] [1,2,3,4,6]) FZ
abbrev FX:AK:=.seq (.aa [m 12 1,.aj (some 13) false 152013 6 [(.t 12)],m 11 13,.v 14 (.ext (.t 11) 0),.v 15 (.ext (.t 11) 1),m 3 14,m 4 15] [1,2,3,4]) FY
abbrev FW:AK:=.seq (.aa [.aj (some 8) false 152008 15 [(.c (.al))],m 7 8,.v 9 (.ext (.t 7) 0),.v 10 (.ext (.t 7) 1),m 1 9,m 2 10] [1,2]) FX
abbrev FV:AK:=.seq (.aa [k 0 (.c (.bool false))] []) FW
abbrev vE:AK:=FV
theorem F1:aA Tryz.prog 12 152000 0 vE [.tmp 0]:=⟨_,Tryz.func12,by kernel_rfl⟩
theorem F2 {h Post} (hp:aD Tryz.prog vE [.tmp 0] 0 [] h Post):Eng.Spec Tryz.prog 12 h [] Post:=aE F1 rfl [] trivial hp
abbrev awW:AK:=.seq (.aa [k 4 (.c (.bool true))] [4]) .ret
abbrev aw1:AK:=.aa [bi 25 .add 13 1,m 13 25] [0,1,12,13]
abbrev awS:AK:=.seq (.aa [k 4 (.c (.bool false))] [4]) .ret
abbrev awR:AK:=.seq (.aa [u 153016 16 (.ah (.t 0)),u 153017 17 (.ah (.t 5)),u 153018 18 (.aO 7 (.t 16) (.t 17)),u 153019 19 (.ld true 7 (.t 18)),u 153020 20 (.ah (.t 1)),u 153021 21 (.ah (.t 5)),u 153022 22 (.aO 7 (.t 20) (.t 21)),u 153023 23 (.ld true 7 (.t 22)),.v 24 (.lS true [1,1,1,2,1,2,1] (.t 19) (.t 23))] [0,1,12,13,24]) (.cond (.t 24) awS .skip)
abbrev awQ:AK:=.seq (.aa [m 15 13,m 5 15] [0,1,5,12,13]) awR
abbrev aw0:AK:=.seq (.block 1 awQ) aw1
abbrev awZ:AK:=.seq (.cond (.t 14) .skip (.exit 0)) aw0
abbrev awY:AK:=.seq (.aa [b 14 .lss 13 12] [0,1,12,13,14]) awZ
abbrev aw2:AK:=.loop awY
abbrev awX:AK:=.seq (.aa [m 11 0,.v 12 (.len false (.t 11)),k 13 (ci 0)] [0,1,12,13]) (.block 0 aw2)
abbrev awV:AK:=.seq awX awW
abbrev awU:AK:=.seq (.aa [k 4 (.c (.bool false))] [4]) .ret
abbrev awT:AK:=.seq (.aa [m 6 0,.v 7 (.len false (.t 6)),m 8 1,.v 9 (.len false (.t 8)),b 10 .neq 7 9] [0,1,10]) (.cond (.t 10) awU .skip)
abbrev awP:AK:=.seq awT awV
abbrev awO:AK:=.seq (.aa [k 4 (.c (.bool false))] [0,1]) awP
abbrev uu:AK:=awO
theorem aw3:aA Tryz.prog 13 153000 2 uu [.tmp 4]:=⟨_,Tryz.func13,by kernel_rfl⟩
theorem aw4 {h a0 a1 Post} (hp:aD Tryz.prog uu [.tmp 4] 2 [(0,a0),(1,a1)] h Post):Eng.Spec Tryz.prog 13 h [a0,a1] Post:=aE aw3 rfl [(0,a0),(1,a1)] ⟨rfl,rfl,trivial⟩ hp
abbrev M5:AK:=.seq (.aa [m 12 0,m 4 12] [4]) .ret
abbrev M7:AK:=.seq (.aa [m 9 0,m 10 1,.v 11 (.bK (.t 9) none (some (.t 10))),m 4 11] [4]) .ret
abbrev M6:AK:=.seq (.aa [m 5 0,.v 6 (.len true (.t 5)),m 7 1,b 8 .gtr 6 7] [0,1,8]) (.cond (.t 8) M7 .skip)
abbrev M4:AK:=.seq M6 M5
abbrev M3:AK:=.seq (.aa [k 4 (.c (.str []))] [0,1]) M4
abbrev xG:AK:=M3
theorem M8:aA Tryz.prog 5 155000 2 xG [.tmp 4]:=⟨_,Tryz.func5,by kernel_rfl⟩
theorem Na {h a0 a1 Post} (hp:aD Tryz.prog xG [.tmp 4] 2 [(0,a0),(1,a1)] h Post):Eng.Spec Tryz.prog 5 h [a0,a1] Post:=aE M8 rfl [(0,a0),(1,a1)] ⟨rfl,rfl,trivial⟩ hp
end Go.Proofs.YtjoefngnjoofeaaGreatDoor.Cod
namespace Go.Proofs.YtjoefngnjoofeaaGreatDoor.Pk
section
variable {t:Bs} {S:SS}
theorem Ao {e:Nat}:(cr e S).out=S.out:=by unfold cr;split<;>rfl
theorem qi {n:Nat}:(aJ t n S).2.out=S.out:=by
 unfold aJ
 split
 ·rfl
 ·split<;>rfl
theorem Aq {l:List Nat}:(aY t l S).2.out=S.out:=by
 unfold aY
 split
 ·rfl
 ·split<;>rfl
theorem Ar {l:List Nat} {s:Nat}:(bO t l s S).2.2.out=S.out:=by
 unfold bO
 split
 ·split
  ·exact Ao
  ·exact qi
 ·split
  ·exact qi
  ·split
   ·exact qi
   ·rfl
theorem Ap {N:Nat} {l:List Nat} {b:Nat×Nat×SS}:(cC N l b).out=b.2.2.out:=by
 unfold cC
 split
 ·exact Ao
 ·rfl
end
theorem my {t:Bs} {nc:Nat}:∀(k:Nat) (l:List Nat) (S:SS),(firstS t nc k l S).2.out=S.out
 | 0,_,_=>rfl
 | k+1,l,S=>by
  rw[np]
  split
  ·rfl
  ·rw[my k,qi]
theorem qh {t:Bs} {fl:List Nat} {N:Nat}:∀(k:Nat) (l:List Nat) (S:SS),(dj t fl N k l S).2.out=S.out
 | 0,_,_=>rfl
 | k+1,l,S=>by
  rw[mi]
  split
  ·rfl
  ·split
   ·simp only;rw[Ap,Ar,Aq]
   ·rw[qh k,Ap,Ar,Aq]
theorem Mm (t:Bs) (S:SS):(cy t S).2.out=S.out:=by
 rw[pf]
 split
 ·rfl
 ·split
  ·rfl
  ·unfold fA
   split
   ·simp only;rw[my]
   ·split
    ·simp only;rw[my]
    ·unfold kZ
     split
     ·simp only;rw[qh,my]
     ·split
      ·simp only;rw[qh,my]
      ·simp only;rw[qh,my]
open Eng
set_option maxRecDepth 10000
def uJ:AV:=.lit (.pointer none)
def PT (s:Bs) (o most:Nat) (out:Bs) (D:(List Nat×List Nat)×SS) (h':HP) (v:AV):Prop:=
 ∃a' hv',h'=a6 s o most a' hv' out∧(D.2.err≠0→v=.ak [uJ,uJ,.int .i64 (D.2.err:Nat)]) ∧
  (D.2.err=0→v=.ak [bq D.1.1,bq D.1.2,.int .i64 (0:Nat)]∧bL s a' hv' (8*o+D.2.p)∧bo D.1.1=true∧bo D.1.2=true∧(∀n∈D.1.1,n≤15)∧(∀n∈D.1.2,n≤15)∧D.1.1.length≤286∧D.1.2.length≤320)
abbrev QT (R:HP→AV→List AV→Prop):KQ:=KQ.post [.tmp 2,.tmp 3,.tmp 4] 1 R
abbrev D9 (R1 RX:KS) (R:HP→AV→List AV→Prop):KQ:=KQ.de 3 (KQ.fq R1 (KQ.de 2 (KQ.fq RX (QT R))))
abbrev mP (s:Bs) (o most:Nat) (out:Bs) (D:(List Nat×List Nat)×SS):HP→AV→List AV→Prop:=fun h' v ar=>PT s o most out D h' v∧ar=[.ab fJ 0]
theorem jP {s:Bs} {o most:Nat} {out:Bs} {D:(List Nat×List Nat)×SS} {R:HP→AV→List AV→Prop} (hR:dx (mP s o most out D) R) (e:Nat) (he:D.2.err=e) (hne:e≠0) (a' hv':Nat) {h:HP} (hh:dZ h (a6 s o most a' hv' out)) :
    R h (.ak [.lit (.pointer none),.lit (.pointer none),.int .i64 (e:Nat)]) [.ab 65032 0]:=
 hR.le (h':=a6 s o most a' hv' out) hh ⟨⟨a',hv',rfl,fun _=>by rw[he];rfl,fun h=>absurd h (by rw[he];exact hne)⟩,rfl⟩
theorem qt (s:Bs) (o p a hv n:Nat) (hs:s.length≤1000000000) (h:bL s a hv (8*o+p)) (hn:n≤32):Eng.Spec Tryz.prog 103 [(RD,.var (a8 s a hv o))] [.ab RD 0,.int .i64 n]
    (fun h' v ar=>∃a' hv',bL s a' hv' (8*o+(if n≤8*(s.drop o).length-p then p+n else p))∧h'=[(RD,.var (a8 s a' hv' o))]∧v=.ak [.int .u32 (if n≤8*(s.drop o).length-p then numAt (s.drop o) p n else 0:Nat),.bool (decide (n≤8*(s.drop o).length-p))]∧ar=[.ab RD 0,.int .i64 n]):=by
 have hb:=qu s a hv o (8*o+p) n (by omega) h hn
 rw[tk,←qf]at hb
 rw[show 8*o+(if n≤8*(s.drop o).length-p then p+n else p)=(if n≤8*(s.drop o).length-p then 8*o+p+n else 8*o+p)by split<;>omega]
 exact hb
theorem yw (l:List Nat) (hl:∀n∈l,n≤15) (hn:l.length≤320):∃(x:AV) (e:Nat),Eng.Spec Tryz.prog 115 [] [.ro 1 (an l)] (fun h r _=>h=[]∧r=.ak [x,.int .i64 (e:Nat)])∧((bo l=true∧x=bq l∧e=0)∨(bo l=false∧x=.lit (.pointer none)∧e=4)):=by
 have n1:=pR l hl hn
 by_cases hc:bo l=true
 ·rw[if_pos hc]at n1
  exact⟨_,0,n1,.inl ⟨hc,rfl,rfl⟩⟩
 ·rw[if_neg hc]at n1
  exact⟨_,4,n1,.inr ⟨by simpa using hc,rfl,rfl⟩⟩
set_option maxHeartbeats 2000000 in
theorem Xg (s:Bs) (o most a hv:Nat) (out:Bs) (l:List Nat) (nl p:Nat) (D:(List Nat×List Nat)×SS) {E:Env} {R:HP→AV→List AV→Prop} (hN:E.N≤1000000) (hR:dx (mP s o most out D) R) (hl:∀n∈l,n≤15) (h1:257≤nl) (h2:nl≤286) (h3:l.length≤320) (h4:nl≤l.length)
    (hr:bL s a hv (8*o+p))
    (hD:D=if l.getD 256 0=0∨bo (l.take nl)=false∨bo (l.drop nl)=false then(([],[]),⟨p,out,3⟩)else((l.take nl,l.drop nl),⟨p,out,0⟩)) :
    vcW Tryz.prog E Cod.ta (QT R) ⟨[(0,.ab 65032 0),(7,.int .i64 nl),(16,.ro 1 (an l)),(2000000,.ab 65032 0)],a6 s o most a hv out⟩:=by
 have hnl:=bU l
 have ht1:(l.take nl).length=nl:=by rw[List.length_take];omega
 have hd1:(l.drop nl).length=l.length-nl:=List.length_drop
 obtain⟨x1,e1,n1,c1⟩:=yw (l.take nl) (qO hl nl) (by omega)
 obtain⟨x2,e2,n2,c2⟩:=yw (l.drop nl) (pc hl nl) (by omega)
 have hx:nth (an l) 256=.int .i64 (l.getD 256 0:Nat):=dQ (by omega)
 have etd:(l.drop nl).take (l.length-nl)=l.drop nl:=List.take_of_length_le (by omega)
 generalize hy:l.getD 256 0=y at *
 have bad:D=(([],[]),⟨p,out,3⟩)→∀h,dZ h (a6 s o most a hv out)→R h (.ak [.lit (.pointer none),.lit (.pointer none),.int .i64 3]) [.ab 65032 0]:=fun hd h hh=>jP hR 3 (by rw[hd]) (by decide) a hv hh
 refine uU hnl @eV ?_
 rcases c1 with⟨hc1,rfl,rfl⟩ | ⟨hc1,rfl,rfl⟩<;>rcases c2 with⟨hc2,rfl,rfl⟩ | ⟨hc2,rfl,rfl⟩<;>by_cases h0:y=0
 all_goals
  refine fg n1 rfl ?_
  rintro h' v as' ⟨rfl,rfl⟩
  refine⟨rfl,rfl,?_⟩
  simp(disch:=omega)only[go_sem,simprocAttr,hnl,eV,etd,bq]
  refine fg n2 rfl ?_
  rintro h' v as' ⟨rfl,rfl⟩
  refine⟨rfl,rfl,?_⟩
 rotate_left
 ·rw[if_neg (by rw[hc1,hc2];simp[h0])]at hD
  subst hD
  have hi:¬((y:Nat):Int)=0:=by omega
  simp(disch:=omega)only[go_sem,simprocAttr,hnl,hx,hi,bq]
  refine gS hnl hx hi ?_
  exact hR.le (h':=a6 s o most a hv out) bE ⟨⟨a,hv,rfl,fun h=>absurd rfl h,fun _=>⟨rfl,hr,hc1,hc2,qO hl nl,pc hl nl,by rw[ht1];exact h2,by rw[hd1];omega⟩⟩,rfl⟩
 all_goals
  rw[if_pos (by first | exact .inl h0 | exact .inr (.inl hc1) | exact .inr (.inr hc2))]at hD
  have bad:=bad hD
 all_goals first
  |have hi:((y:Nat):Int)=0:=by omega
   simp(disch:=omega)only[go_sem,simprocAttr,hnl,hx,hi,bq]
   (try(repeat(first | refine dW ?_ | refine dU ?_ | refine dV ?_)<;>simp(disch:=omega)only[go_sem,simprocAttr,hnl,hx,hi]))
   exact bad _ bE
  |have hi:¬((y:Nat):Int)=0:=by omega
   simp(disch:=omega)only[go_sem,simprocAttr,hnl,hx,hi,bq]
   (try(repeat(first | refine dW ?_ | refine dU ?_ | refine dV ?_)<;>simp(disch:=omega)only[go_sem,simprocAttr,hnl,hx,hi]))
   exact bad _ bE
set_option maxHeartbeats 1000000 in
theorem Xf (s:Bs) (o most a hv N:Nat) (out:Bs) (l fl:List Nat) (nl nd p nb least what:Nat) (D:(List Nat×List Nat)×SS) {E:Env} {R1 RX:KS} {R:HP→AV→List AV→Prop} (hN:E.N≤1000000) (hs:s.length≤1000000000) (ho:o≤s.length)
    (hR:dx (mP s o most out D) R) (hr:bL s a hv (8*o+p)) (hbits:nb≤7) (hleast:least≤11) (hNN:nl+nd=N) (hN1:N≤400) (hll:l.length≤N)
    (hbad:(cC N l (least+(aJ (s.drop o) nb ⟨p,out,0⟩).1,what,(aJ (s.drop o) nb ⟨p,out,0⟩).2)).err≠0→D.2.err=(cC N l (least+(aJ (s.drop o) nb ⟨p,out,0⟩).1,what,(aJ (s.drop o) nb ⟨p,out,0⟩).2)).err)
    (hR1:∀n a' hv' st',n=numAt (s.drop o) p nb→p+nb≤8*(s.drop o).length→l.length+(least+n)≤N→bL s a' hv' (8*o+(p+nb)) →
     Wk st' ⟨[(0,.ab 65032 0),(7,.int .i64 nl),(8,.int .i64 nd),(14,bq fl),(16,.sl 62110 0 (l++List.replicate (least+n) what).length),(2000000,.ab 65032 0)],a6 s o most a' hv' out++[(62110,.arr 1 (an (l++List.replicate (least+n) what)))]⟩→R1.ap st') :
    vcW Tryz.prog E Cod.tb (D9 R1 RX R) ⟨[(0,.ab 65032 0),(7,.int .i64 nl),(8,.int .i64 nd),(14,bq fl),(16,.sl 62110 0 l.length),(19,.int .i64 nb),(20,.int .i64 least),(21,.int .i64 what),(2000000,.ab 65032 0)],a6 s o most a hv out++[(62110,.arr 1 (an l))]⟩:=by
 have htl:(s.drop o).length=s.length-o:=List.length_drop
 have hnl:=bU l
 have hb:=qt s o p a hv nb hs hr (by omega)
 refine iW ?_
 refine aI [(RD,.var (a8 s a hv o))] hb vV nofun ?_
 rintro h' v ar ⟨a1,hv1,hr1,rfl,rfl,rfl⟩
 by_cases hf:nb≤8*(s.drop o).length-p
 ·rw[if_pos hf]at hr1
  rw[if_pos hf,decide_eq_true hf]
  have hpl:p+nb≤8*(s.drop o).length:=by have:=hr.h2;have:=hr.h3;omega
  rw[eW rfl hpl]at hbad
  simp only at hbad
  have hlt:=fX (s.drop o) p nb
  have hp7:2^nb≤2^7:=Nat.pow_le_pow_right (by decide) hbits
  have hR1:=fun st'=>hR1 _ a1 hv1 st' rfl hpl
  generalize numAt (s.drop o) p nb=n at *
  refine⟨cG,rfl,?_⟩
  by_cases hov:N<l.length+(least+n)
  ·have ho2:((nl:Int)+(nd:Int))<(l.length:Int)+(least:Int)+(n:Int):=by omega
   have hbad:=hbad (by unfold cC;rw[if_pos hov,fh rfl];simp)
   unfold cC at hbad
   rw[if_pos hov,fh rfl]at hbad
   refine bm hnl ho2 ?_
   exact jP hR 3 hbad (by decide) a1 hv1 bE
  ·have ho2:¬((nl:Int)+(nd:Int))<(l.length:Int)+(least:Int)+(n:Int):=by omega
   have eln:(least:Int)+(n:Int)=((least+n:Nat):Int):=by omega
   clear hbad
   refine bm hnl ho2 ?_
   generalize hk:least+n=k at *
   rw[eln]
   refine aK hN (fun j:Nat=>⟨[(0,.ab 65032 0),(7,.int .i64 nl),(8,.int .i64 nd),(14,bq fl),(16,.sl 62110 0 (l.length+j:Nat)),(21,.int .i64 what),(150,.int .i64 k),(151,.int .i64 j),(2000000,.ab 65032 0)],a6 s o most a1 hv1 out++[(62110,.arr 1 (an (l++List.replicate j what)))]⟩) (fun j=>j≤k) (fun j=>k-j) 0
    (.le (by simp(disch:=omega)only[go_sem,simprocAttr,a6,a8,bq];simp)) (by omega) ?_
   rintro j R2 hj hR2
   have hnl:=bU (l++List.replicate j what)
   have hlr:(l++List.replicate j what).length=l.length+j:=by simp
   have hnr:=zZ l j what
   have hsb:aM (an (l++List.replicate j what)) 0 (l.length+j)=an (l++List.replicate j what):=by rw[←hlr];exact fN
   by_cases hjk:j<k
   ·refine uU hsb @eG ?_
    exact hR2 (j+1) _ (by omega) (by omega) (.le (qT hnr))
   ·obtain rfl:j=k:=by omega
    refine iW ?_
    exact hR1 _ (by omega) hr1 (.le (qT hlr))
 ·rw[if_neg hf]at hr1
  rw[if_neg hf,decide_eq_false hf]
  rw[kl rfl (by simp only;omega)]at hbad
  have hover:∀k,(cC N l (k,what,{p:=p,out:=out,err:=6})).err=6:=by
   intro k
   unfold cC
   split
   ·rfl
   ·rfl
  simp only at hbad
  rw[hover]at hbad
  refine⟨cG,rfl,?_⟩
  refine wW ?_
  exact jP hR 6 (hbad (by decide)) (by decide) a1 hv1 bE
set_option maxHeartbeats 2000000 in
theorem Xe (s:Bs) (o most a hv:Nat) (out:Bs) (fl:List Nat) (nl nd p:Nat) (D:(List Nat×List Nat)×SS) {E:Env} {R:HP→AV→List AV→Prop} (hN:E.N≤1000000) (hs:s.length≤1000000000) (ho:o≤s.length)
    (hR:dx (mP s o most out D) R) (hr:bL s a hv (8*o+p)) (hfl:∀n∈fl,n≤15) (hfn:fl.length=19) (hfc:bo fl=true) (h1:257≤nl) (h2:nl≤286) (h3:1≤nd) (h4:nd≤30)
    (hD:D=kZ (s.drop o) nl nd (dj (s.drop o) fl (nl+nd) (nl+nd) [] ⟨p,out,0⟩)) :
    vcW Tryz.prog E Cod.ze (QT R) ⟨[(0,.ab 65032 0),(7,.int .i64 nl),(8,.int .i64 nd),(14,bq fl),(16,.al),(2000000,.ab 65032 0)],a6 s o most a hv out⟩:=by
 generalize hG:dj (s.drop o) fl (nl+nd) (nl+nd) [] ⟨p,out,0⟩=G at hD
 have hN1:nl+nd≤400:=by omega
 generalize hNN:nl+nd=N at *
 have hbadG:G.2.err≠0→D.2.err=G.2.err:=by
  intro h
  rw[hD]
  unfold kZ
  rw[if_pos h]
 refine cH (y:=Cod.ta) hN (fun z:Nat×Nat=>⟨[(0,.ab 65032 0),(7,.int .i64 nl),(16,.ro 1 (an G.1)),(2000000,.ab 65032 0)],a6 s o most z.1 z.2 out⟩)
  (fun z=>bL s z.1 z.2 (8*o+G.2.p)∧G.2=⟨G.2.p,out,0⟩∧(∀n∈G.1,n≤15)∧G.1.length=N) (fun RX hRX=>?_) (fun z hz=>?_)
 ·refine wW ?_
  refine aK hN (fun q:List Nat×Nat×Nat×Nat=>⟨[(0,.ab 65032 0),(7,.int .i64 nl),(8,.int .i64 nd),(14,bq fl),(16,.sl 62110 0 q.1.length),(2000000,.ab 65032 0)],a6 s o most q.2.1 q.2.2.1 out++[(62110,.arr 1 (an q.1))]⟩)
   (fun q=>(∀n∈q.1,n≤15)∧q.1.length≤N∧bL s q.2.1 q.2.2.1 (8*o+q.2.2.2)∧∃k,N-q.1.length≤k∧dj (s.drop o) fl N k q.1 ⟨q.2.2.2,out,0⟩=G) (fun q=>N-q.1.length) ([],a,hv,p)
   (.nil 16 62110 1 rfl (.le (qT @gZ))) ⟨by simp,by simp,hr,N,by simp,hG⟩ ?_
  clear hr hG
  rintro⟨l,a,hv,p⟩ R1 ⟨hl,hll,hr,k,hk,hg⟩ hR1
  simp only at hl hll hr hk hg
  have hnl:=bU l
  have htl:(s.drop o).length=s.length-o:=List.length_drop
  by_cases hlt:l.length<N
  ·have hlt2:(l.length:Int)<(nl:Int)+(nd:Int):=by omega
   obtain⟨k,rfl⟩:∃k',k=k'+1:=⟨k-1,by omega⟩
   rw[mi,if_neg (by simp only;omega)]at hg
   have dM:=sU fl hfl (by omega) hfc s a hv o (8*o+p) (by omega) hr
   rw[←uf]at dM
   simp only[bq]at dM
   generalize hre:readL (aQ fl) (aX (s.drop o) p)=re at *
   simp(disch:=omega)only[go_sem,simprocAttr,a6,bq,hnl,hlt2]
   refine aI [(RD,.var (a8 s a hv o))] dM vV nofun ?_
   rintro h' v ar ⟨a2,hv2,p2,sy,hr2,rfl,rfl,hk2,rfl⟩
   refine⟨cG,rfl,?_⟩
   by_cases hre2:re.2.2=0
   ·obtain⟨rfl,rfl⟩:=hk2 hre2
    have hsym:aY (s.drop o) fl ⟨p,out,0⟩=(re.1,⟨p+re.2.1,out,0⟩):=by
     have:=mH (t:=s.drop o) (l:=fl) (S:=⟨p,out,0⟩) rfl (by simp only;rw[hre];exact hre2)
     simp only[hre]at this
     exact this
    rw[hsym]at hg
    simp only at hg
    have hslt:re.1<19:=by
     have:=mB (aQ fl) (aX (s.drop o) p) (by rw[hre];exact hre2)
     rw[hre]at this
     have hcl:(aQ fl).length=fl.length:=by simp[aQ]
     omega
    rw[show 8*o+p+re.2.1=8*o+(p+re.2.1)by omega]at hr2
    generalize p+re.2.1=p2 at *
    generalize re.1=sy at *
    by_cases h16:sy<16
    ·have ht:bO (s.drop o) l sy ⟨p2,out,0⟩=(1,sy,⟨p2,out,0⟩):=by unfold bO;rw[if_neg (by omega),if_neg (by omega),if_neg (by omega)]
     have hov:cC N l (1,sy,⟨p2,out,0⟩)=⟨p2,out,0⟩:=by unfold cC;rw[if_neg (by simp only;omega)]
     rw[ht,hov,if_neg (by simp)]at hg
     simp only at hg
     have hsb:aM (an l) 0 l.length=an l:=fN
     refine eC hre2 hnl hsb @eG ?_
     refine hR1 (l++[sy],a2,hv2,p2) _ (by simp only[List.length_append,List.length_singleton];omega) ⟨?_,?_,hr2,k,?_,hg⟩ (.le (by rw[eF];simp(disch:=omega)only[go_sem,simprocAttr,a6,a8,bq,List.length_append,List.length_singleton]))
     ·intro n hn
      rcases List.mem_append.1 hn with hn | hn
      ·exact hl n hn
      ·rw[List.mem_singleton.1 hn];omega
     ·simp only[List.length_append,List.length_singleton];omega
     ·simp only[List.length_append,List.length_singleton];omega
    ·refine aw hre2 ?_
     refine cH (y:=Cod.tb) hN (fun z:Nat×Nat×Nat=>⟨[(0,.ab 65032 0),(7,.int .i64 nl),(8,.int .i64 nd),(14,bq fl),(16,.sl 62110 0 l.length),(19,.int .i64 z.1),(20,.int .i64 z.2.1),(21,.int .i64 z.2.2),(2000000,.ab 65032 0)],a6 s o most a2 hv2 out++[(62110,.arr 1 (an l))]⟩)
      (fun z=>z.1≤7∧1≤z.2.1∧z.2.1≤11∧z.2.2≤15∧bO (s.drop o) l sy ⟨p2,out,0⟩=(z.2.1+(aJ (s.drop o) z.1 ⟨p2,out,0⟩).1,z.2.2,(aJ (s.drop o) z.1 ⟨p2,out,0⟩).2)) (fun R2 hR2=>?_) (fun z hz=>?_)
     ·by_cases e16:sy=16
      ·subst e16
       by_cases hle:l=[]
       ·subst hle
        have ht:bO (s.drop o) [] 16 ⟨p2,out,0⟩=(0,0,⟨p2,out,3⟩):=by unfold bO;rw[if_pos rfl,if_pos rfl,fh rfl]
        have hov:cC N [] (0,0,⟨p2,out,3⟩)=⟨p2,out,3⟩:=if_neg (by simp)
        rw[ht,hov,if_pos (by simp)]at hg
        refine aw @gZ ?_
        exact jP hR 3 (by rw[hbadG (by rw[←hg];simp),←hg]) (by decide) a2 hv2 bE
       ·have hl0:0<l.length:=by cases l with | nil=>exact absurd rfl hle | cons=>simp
        have el:(l.length:Int)-1=((l.length-1:Nat):Int):=by omega
        have hz:¬((l.length:Int)=0):=by omega
        have hx:nth (an l) (l.length-1)=.int .i64 (l.getD (l.length-1) 0:Nat):=dQ (by omega)
        have hx15:l.getD (l.length-1) 0≤15:=gV hl _
        have ht:bO (s.drop o) l 16 ⟨p2,out,0⟩=(3+(aJ (s.drop o) 2 ⟨p2,out,0⟩).1,l.getD (l.length-1) 0,(aJ (s.drop o) 2 ⟨p2,out,0⟩).2):=by unfold bO;rw[if_pos rfl,if_neg hle]
        generalize l.getD (l.length-1) 0=x at *
        refine eC hnl hz el hx ?_
        exact hR2 (2,3,x) _ ⟨by simp,by simp,by simp,hx15,ht⟩ (.le n7)
      ·by_cases e17:sy=17
       ·subst e17
        refine wW ?_
        exact hR2 (3,3,0) _ ⟨by decide,by decide,by decide,by decide,rfl⟩ (.le n7)
       ·obtain rfl:sy=18:=by omega
        refine wW ?_
        exact hR2 (7,11,0) _ ⟨by decide,by decide,by decide,by decide,rfl⟩ (.le n7)
     ·obtain⟨nb,least,what⟩:=z
      simp only at hz ⊢
      obtain⟨g1,g0,g2,g3,g4⟩:=hz
      rw[g4]at hg
      refine Xf s o most a2 hv2 N out l fl nl nd p2 nb least what D hN hs ho hR hr2 g1 g2 hNN hN1 hll (fun h=>?_) (fun n a' hv' st' hn hpl hlo hr3 hw=>?_)
      ·rw[if_pos h]at hg
       rw[hbadG (by rw[←hg];exact h),←hg]
      ·rw[eW rfl hpl]at hg
       simp only at hg
       rw[←hn]at hg
       have hov:cC N l (least+n,what,⟨p2+nb,out,0⟩)=⟨p2+nb,out,0⟩:=by unfold cC;rw[if_neg (by simp only;omega)]
       rw[hov,if_neg (by simp)]at hg
       refine hR1 (l++List.replicate (least+n) what,a',hv',p2+nb) _ (by simp only[List.length_append,List.length_replicate];omega) ⟨?_,?_,hr3,k,?_,hg⟩ hw
       ·intro n hn
        rcases List.mem_append.1 hn with hn | hn
        ·exact hl n hn
        ·rw[(List.mem_replicate.1 hn).2];exact g3
       ·simp only[List.length_append,List.length_replicate];omega
       ·simp only[List.length_append,List.length_replicate];omega
   ·have hsym:aY (s.drop o) fl ⟨p,out,0⟩=(0,⟨p,out,re.2.2⟩):=by
     have:=nY (t:=s.drop o) (l:=fl) (S:=⟨p,out,0⟩) rfl (by simp only;rw[hre];exact hre2)
     simp only[hre]at this
     exact this
    rw[hsym]at hg
    simp only at hg
    have ht:bO (s.drop o) l 0 ⟨p,out,re.2.2⟩=(1,0,⟨p,out,re.2.2⟩):=by unfold bO;rw[if_neg (by omega),if_neg (by omega),if_neg (by omega)]
    have hov:cC N l (1,0,⟨p,out,re.2.2⟩)=⟨p,out,re.2.2⟩:=by unfold cC;rw[if_neg (by simp only;omega)]
    rw[ht,hov,if_pos (by simpa using hre2)]at hg
    have hi:¬((re.2.2:Nat):Int)=0:=by omega
    refine aw hi ?_
    exact jP hR re.2.2 (by rw[hbadG (by rw[←hg];exact hre2),←hg]) hre2 a2 hv2 bE
  ·have hlt2:¬(l.length:Int)<(nl:Int)+(nd:Int):=by omega
   have hGe:(l,(⟨p,out,0⟩:SS))=G:=by
    rw[←hg]
    cases k with
    | zero=>rfl
    | succ k=>rw[mi,if_pos (.inl (by omega))]
   subst hGe
   have hsb:aM (an l) 0 l.length=an l:=fN
   refine uU hnl hlt2 ?_
   exact hRX (a,hv) _ ⟨hr,rfl,hl,by simp only;omega⟩ (.bF 62110 (.le (qT hsb)))
 ·obtain⟨a',hv'⟩:=z
  obtain⟨g1,g2,g3,g4⟩:=hz
  refine Xg s o most a' hv' out G.1 nl G.2.p D hN hR g3 h1 h2 (by omega) (by omega) g1 ?_
  rw[hD]
  unfold kZ
  rw[if_neg (by rw[g2];simp)]
  obtain⟨G1,G2⟩:=G
  simp only at g2
  rw[g2]
set_option maxHeartbeats 2000000 in
theorem Xh (s:Bs) (o most a hv:Nat) (out:Bs) (nl nd nc p:Nat) (D:(List Nat×List Nat)×SS) {E:Env} {R:HP→AV→List AV→Prop} (hN:E.N≤1000000) (hs:s.length≤1000000000) (ho:o≤s.length)
    (hR:dx (mP s o most out D) R) (hr:bL s a hv (8*o+p)) (h1:257≤nl) (h2:nl≤286) (h3:1≤nd) (h4:nd≤30) (hc:nc≤19)
    (hD:D=fA (s.drop o) nl nd (firstS (s.drop o) nc nc (List.replicate 19 0) ⟨p,out,0⟩)) :
    vcW Tryz.prog E Cod.zf (QT R) ⟨[(0,.ab 65032 0),(7,.int .i64 nl),(8,.int .i64 nd),(9,.int .i64 nc),(10,.sl 62057 0 19),(2000000,.ab 65032 0)],[(62057,.arr 1 (an (List.replicate 19 0))),(40014,.var (a8 s a hv o)),(65032,.var [.ab 40014 0,.sl 60022 0 out.length,.int .i64 most]),(60022,.arr 1 (out.map ub))]⟩:=by
 generalize hG:firstS (s.drop o) nc nc (List.replicate 19 0) ⟨p,out,0⟩=G at hD
 have htl:(s.drop o).length=s.length-o:=List.length_drop
 have hbadG:G.2.err≠0→D.2.err=G.2.err:=by
  intro h
  rw[hD]
  unfold fA
  rw[if_pos h]
 refine cH (y:=Cod.zg) hN (fun z:Nat×Nat=>⟨[(0,.ab 65032 0),(7,.int .i64 nl),(8,.int .i64 nd),(10,.ro 1 (an G.1)),(2000000,.ab 65032 0)],a6 s o most z.1 z.2 out⟩)
  (fun z=>bL s z.1 z.2 (8*o+G.2.p)∧G.2=⟨G.2.p,out,0⟩∧(∀n∈G.1,n≤15)∧G.1.length=19) (fun RX hRX=>?_) (fun z hz=>?_)
 ·refine iW ?_
  refine aK hN (fun q:Nat×List Nat×Nat×Nat×Nat=>⟨[(0,.ab 65032 0),(7,.int .i64 nl),(8,.int .i64 nd),(10,.sl 62057 0 19),(58,.int .i64 nc),(59,.int .i64 q.1),(2000000,.ab 65032 0)],a6 s o most q.2.2.1 q.2.2.2.1 out++[(62057,.arr 1 (an q.2.1))]⟩)
   (fun q=>q.1≤nc∧(∀n∈q.2.1,n≤15)∧q.2.1.length=19∧bL s q.2.2.1 q.2.2.2.1 (8*o+q.2.2.2.2)∧firstS (s.drop o) nc (nc-q.1) q.2.1 ⟨q.2.2.2.2,out,0⟩=G) (fun q=>nc-q.1) (0,List.replicate 19 0,a,hv,p)
   (.le vVJ) ⟨by simp,by simp,by simp,hr,hG⟩ ?_
  clear hr hG
  rintro⟨j,l,a,hv,p⟩ R1 ⟨hj,hl,hll,hr,hg⟩ hR1
  simp only at hj hl hll hr hg
  have hnl:=bU l
  by_cases hlt:j<nc
  ·obtain⟨m,hm⟩:∃m,nc-j=m+1:=⟨nc-j-1,by omega⟩
   rw[hm,np,if_neg (by simp),show nc-(m+1)=j by omega]at hg
   have hpl:=AY j (by omega)
   have hx:nth (an eX) j=.int .i64 (eX.getD j 0:Nat):=dQ (by have:eX.length=19:=rfl;omega)
   have hpn:(an eX).length=19:=rfl
   have hx2:(an eX).getD j .undef=.int .i64 (eX.getD j 0:Nat):=by
    have hl:j<eX.length:=by have:eX.length=19:=rfl;omega
    simp[an,List.getD_eq_getElem?_getD,hl]
   have hord:=UW
   unfold An at hord
   generalize eX.getD j 0=pj at *
   have hb:=qt s o p a hv 3 hs hr (by omega)
   have hxl:nth (an l) pj=.int .i64 (l.getD pj 0:Nat):=dQ (by omega)
   refine iW ?_
   refine aI [(RD,.var (a8 s a hv o))] hb vV nofun ?_
   rintro h' v ar ⟨a1,hv1,hr1,rfl,rfl,rfl⟩
   by_cases hf:3≤8*(s.drop o).length-p
   ·rw[if_pos hf]at hr1
    rw[if_pos hf,decide_eq_true hf]
    rw[eW rfl (by simp only;omega)]at hg
    simp only at hg
    have hlt3:=fX (s.drop o) p 3
    generalize numAt (s.drop o) p 3=x at *
    refine⟨cG,rfl,?_⟩
    refine wW ?_
    refine aG hord rfl rfl ?_
    refine n8 hx2 hpn hnl hll hxl @tw ?_
    refine hR1 (j+1,l.set pj x,a1,hv1,p+3) _ (by simp only;omega) ⟨hlt,?_,by simp[hll],hr1,by simp only;rw[show nc-(j+1)=m by omega];exact hg⟩ (.le bE)
    intro n hn
    rcases List.mem_or_eq_of_mem_set hn with hn | hn
    ·exact hl n hn
    ·omega
   ·rw[if_neg hf]at hr1
    rw[if_neg hf,decide_eq_false hf]
    rw[kl rfl (by simp only;omega)]at hg
    simp only at hg
    rw[pr _ _ _ _ _ (by simp)]at hg
    refine⟨cG,rfl,?_⟩
    refine wW ?_
    exact jP hR 6 (by rw[hbadG (by rw[←hg];simp),←hg]) (by decide) a1 hv1 bE
  ·obtain rfl:j=nc:=by omega
   rw[Nat.sub_self]at hg
   have hGe:(l,(⟨p,out,0⟩:SS))=G:=hg
   subst hGe
   have hsub:aM (an l) 0 19=an l:=by rw[←hll];exact fN
   refine iW ?_
   exact hRX (a,hv) _ ⟨hr,rfl,hl,hll⟩ (.bF 62057 (.le (DG hsub)))
 ·obtain⟨a',hv'⟩:=z
  obtain⟨g1,g2,g3,g4⟩:=hz
  simp only at g1 g2 g3 g4 ⊢
  have n1:=pR G.1 g3 (by omega)
  unfold fA at hD
  rw[if_neg (by rw[g2];simp)]at hD
  cases hck:bo G.1 with
  | false=>
   rw[hck,if_neg (by decide)]at n1
   rw[if_pos hck]at hD
   refine iW ?_
   refine fg n1 rfl ?_
   rintro h' v as' ⟨rfl,rfl⟩
   refine⟨rfl,rfl,?_⟩
   refine wW ?_
   exact jP hR 3 (by rw[hD]) (by decide) a' hv' bE
  | true=>
   rw[hck,if_pos rfl]at n1
   rw[if_neg (by rw[hck];decide),g2]at hD
   have hb:=Xe s o most a' hv' out G.1 nl nd G.2.p D (E:=E) (R:=R) hN hs ho hR g1 g3 g4 hck h1 h2 h3 h4 hD
   refine iW ?_
   refine fg n1 rfl ?_
   rintro h' v as' ⟨rfl,rfl⟩
   refine⟨rfl,rfl,?_⟩
   simp only[a6,bq]at hb
   simp(disch:=omega)only[go_sem,simprocAttr,bq]
   exact hb
theorem ow {n:Nat} (h:n<65536):bits .and .u32 (n:Int) 31=((n%32:Nat):Int):=by
 show IntKind.u32.wrap ((BitVec.ofInt 32 (n:Int) &&& BitVec.ofInt 32 ((31:Nat):Int)).toNat:Int)=_
 rw[BitVec.ofInt_natCast,BitVec.ofInt_natCast,BitVec.toNat_and,BitVec.toNat_ofNat,BitVec.toNat_ofNat,Nat.mod_eq_of_lt (by omega),Nat.mod_eq_of_lt (by decide),show(31:Nat)=2^5-1 from rfl,Nat.and_two_pow_sub_one_eq_mod]
 exact wrap_u32 (by omega)
theorem fdiv_pow (x k:Nat) (h:k≤32):(x:Int).fdiv (2^min k 32)=((x/2^k:Nat):Int):=by
 rw[Nat.min_eq_left h,Int.fdiv_eq_ediv_of_nonneg _ (by exact_mod_cast Nat.zero_le (2^k))]
 norm_cast
set_option maxHeartbeats 1000000 in
theorem Yo (s:Bs) (o most a hv:Nat) (S:SS) (hs:s.length≤1000000000) (ho:o≤s.length) (hm:most≤1000000) (hr:bL s a hv (8*o+S.p)) (hol:S.out.length≤most) (he:S.err=0) :
    Eng.Spec Tryz.prog 105 (a6 s o most a hv S.out) [.ab fJ 0] (fun h' v ar=>PT s o most S.out (cy (s.drop o) S) h' v∧ar=[.ab fJ 0]):=by
 refine Cod.Yp (fun E R hN hR=>?_)
 have htl:(s.drop o).length=s.length-o:=List.length_drop
 have hb:=qt s o S.p a hv 14 hs hr (by omega)
 rw[pf]at hR
 obtain⟨p,out,err⟩:=S
 simp only at he hr hol hb hR ⊢
 subst he
 refine iW ?_
 refine aI [(RD,.var (a8 s a hv o))] hb vV nofun ?_
 rintro h' v ar ⟨a1,hv1,hr1,rfl,rfl,rfl⟩
 by_cases h14:14≤8*(s.drop o).length-p
 ·rw[if_pos h14]at hr1
  rw[if_pos h14,decide_eq_true h14]
  rw[if_neg (by omega)]at hR
  refine⟨cG,rfl,?_⟩
  have hlt:=fX (s.drop o) p 14
  have m5:=lp (s.drop o) p (m:=5) (n:=14) (by decide)
  have d5:=lj (s.drop o) p (m:=5) (n:=14) (by decide)
  have d10:=lj (s.drop o) p (m:=10) (n:=14) (by decide)
  have m55:=lp (s.drop o) (p+5) (m:=5) (n:=9) (by decide)
  generalize numAt (s.drop o) p 14=x at *
  have f5:=fdiv_pow x 5 (by decide)
  have f10:=fdiv_pow x 10 (by decide)
  have c1:=ow (n:=x) (by omega)
  have c2:=ow (n:=x/2^5) (by omega)
  have w1:x%32=numAt (s.drop o) p 5:=m5
  have w2:x/2^5%32=numAt (s.drop o) (p+5) 5:=by rw[d5];exact m55
  have w3:x/2^10=numAt (s.drop o) (p+10) 4:=d10
  rw[←w1,←w2,←w3]at hR
  have b1:x%32<32:=Nat.mod_lt _ (by decide)
  have b2:x/2^5%32<32:=Nat.mod_lt _ (by decide)
  have b3:x/2^10<16:=by omega
  generalize x%32=y1 at *
  generalize x/2^5%32=y2 at *
  generalize x/2^10=y3 at *
  have bad:(286<y1+257∨30<y2+1)→R [(40014,aP.var (a8 s a1 hv1 o)),(65032,aP.var [AV.ab 40014 0,AV.sl 60022 0 (List.length out),AV.int IntKind.i64 ↑most]),(60022,aP.arr 1 (List.map ub out))] (.ak [.lit (.pointer none),.lit (.pointer none),.int .i64 3]) [.ab 65032 0]:=by
   intro hx
   rw[if_pos hx]at hR
   exact jP hR 3 rfl (by decide) a1 hv1 bE
  by_cases hx1:286<y1+257
  ·have bad:=bad (.inl hx1)
   refine eC f5 f10 c1 c2 ?_
   refine gG ?_
   exact bad
  ·by_cases hx2:30<y2+1
   ·have bad:=bad (.inr hx2)
    refine eC f5 f10 c1 c2 ?_
    refine gG ?_
    exact bad
   ·rw[if_neg (by omega)]at hR
    clear bad
    have hf:=Xh s o most a1 hv1 out (y1+257) (y2+1) (y3+4) (p+14) _ (E:=E) (R:=R) hN hs ho hR hr1 (by omega) (by omega) (by omega) (by omega) (by omega) rfl
    clear hR
    refine eC f5 f10 c1 c2 ?_
    refine gG ?_
    simp only[a8]at hf
    refine iX ?_
    exact hf
 ·rw[if_neg h14]at hr1
  rw[if_neg h14,decide_eq_false h14]
  rw[if_pos (by omega)]at hR
  refine⟨cG,rfl,?_⟩
  refine wW ?_
  exact jP hR 6 rfl (by decide) a1 hv1 bE
theorem and1 {n:Nat} (h:n<65536):bits .and .u32 (n:Int) 1=((n%2:Nat):Int):=by
 show IntKind.u32.wrap ((BitVec.ofInt 32 (n:Int) &&& BitVec.ofInt 32 ((1:Nat):Int)).toNat:Int)=_
 rw[BitVec.ofInt_natCast,BitVec.ofInt_natCast,BitVec.toNat_and,BitVec.toNat_ofNat,BitVec.toNat_ofNat,Nat.mod_eq_of_lt (by omega),Nat.mod_eq_of_lt (by decide),show(1:Nat)=2^1-1 from rfl,Nat.and_two_pow_sub_one_eq_mod]
 exact wrap_u32 (by omega)
abbrev QR (R:HP→AV→List AV→Prop):KQ:=KQ.post [.tmp 2] 1 R
abbrev ri (s:Bs) (o most:Nat) (G:SS):HP→AV→List AV→Prop:=fun h' v ar=>PI s o most G h' v∧ar=[.ab fJ 0]
theorem mz {s:Bs} {o most:Nat} {G:SS} {R:HP→AV→List AV→Prop} (hR:dx (ri s o most G) R) (e:Nat) (he:G.err=e) (hne:e≠0) (a' hv':Nat) (out:Bs) {h:HP} (hh:dZ h (a6 s o most a' hv' out)) :
    R h (.int .i64 (e:Nat)) [.ab 65032 0]:=
 hR.le (h':=a6 s o most a' hv' out) hh ⟨⟨a',hv',out,rfl,by rw[he],fun h=>absurd h (by rw[he];exact hne)⟩,rfl⟩
def pb (t:Bs) (most h:Nat) (S G:SS):Prop:=if h%2=1 then S=G else fH t most S=G
def iA (t:Bs) (most h:Nat) (S G:SS):Prop:=if S.err≠0 then G.err=S.err else pb t most h S G
structure kC where
 h:Nat
 l:List Nat
 d:List Nat
 a:Nat
 hv:Nat
 S:SS
def gU (s:Bs) (o most:Nat) (l:Nat) (z:kC):St:=
 if l=0 then⟨[(0,.ab 65032 0),(2000000,.ab 65032 0)],a6 s o most z.a z.hv z.S.out⟩
 else if l=1 then⟨[(0,.ab 65032 0),(3,.int .u32 z.h),(2000000,.ab 65032 0)],a6 s o most z.a z.hv z.S.out⟩
 else⟨[(0,.ab 65032 0),(3,.int .u32 z.h),(7,bq z.l),(8,bq z.d),(2000000,.ab 65032 0)],a6 s o most z.a z.hv z.S.out⟩
structure RB (s:Bs) (o most:Nat) (z:kC):Prop where
 r:bL s z.a z.hv (8*o+z.S.p)
 e:z.S.err=0
 ol:z.S.out.length≤most
 hl:z.h<8
structure TB (l d:List Nat):Prop where
 ZI:∀n∈l,n≤15
 d15:∀n∈d,n≤15
 ll:l.length≤320
 dl:d.length≤320
 lc:bo l=true
 dc:bo d=true
def s6 (s:Bs) (o most:Nat) (G:SS) (l:Nat) (z:kC):Prop:=
 RB s o most z∧(if l=0 then fH (s.drop o) most z.S=G else if l=1 then pb (s.drop o) most z.h z.S G else if l=2 then TB z.l z.d∧iA (s.drop o) most z.h (da (s.drop o) most z.l z.d z.S) G else False)
def iK (s:Bs) (o l:Nat) (z:kC):Nat:=4*(8*(s.drop o).length+1-z.S.p)+min l 2
theorem RB.pl {s:Bs} {o most:Nat} {z:kC} (h:RB s o most z):z.S.p≤8*(s.drop o).length:=by
 have:=h.r.h2;have:=h.r.h3
 rw[List.length_drop];omega
set_option maxHeartbeats 2000000 in
theorem y0 (s:Bs) (o most:Nat) (G:SS) (z:kC) {E:Env} {R:Nat→KS} {R0:HP→AV→List AV→Prop} (hN:E.N≤1000000) (hs:s.length≤1000000000) (ho:o≤s.length) (hm:most≤1000000) (hR:dx (ri s o most G) R0) (hz:RB s o most z) (hg:fH (s.drop o) most z.S=G)
    (hJ:∀l' z' st',iK s o l' z'<iK s o 0 z→s6 s o most G l' z'→Wk st' (gU s o most l' z')→(R l').ap st') :
    vcW Tryz.prog E Cod.pS (KQ.jG R (QR R0)) ⟨[(0,.ab 65032 0),(2000000,.ab 65032 0)],a6 s o most z.a z.hv z.S.out⟩:=by
 have hpl:=hz.pl
 obtain⟨h,l,d,a,hv,S⟩:=z
 obtain⟨hr,he,hol,hh⟩:=hz
 simp only at hr he hol hh hg hpl ⊢
 rw[run_eq hpl]at hg
 have htl:(s.drop o).length=s.length-o:=List.length_drop
 have hb:=qt s o S.p a hv 3 hs hr (by omega)
 refine iW ?_
 refine aI [(RD,.var (a8 s a hv o))] hb vV nofun ?_
 rintro h' v ar ⟨a1,hv1,hr1,rfl,rfl,rfl⟩
 by_cases h3:3≤8*(s.drop o).length-S.p
 ·rw[if_pos h3]at hr1
  rw[if_pos h3,decide_eq_true h3]
  have hbk:dy (s.drop o) most S=_:=if_neg (show ¬8*(s.drop o).length<S.p+3 by omega)
  rw[hbk]at hg
  clear hbk
  have m1:=lp (s.drop o) S.p (m:=1) (n:=3) (by decide)
  have d1:=lj (s.drop o) S.p (m:=1) (n:=3) (by decide)
  have hlt:=fX (s.drop o) S.p 3
  simp only at hg
  rw[←m1,show(2:Nat)=3-1 from rfl,←d1]at hg
  generalize numAt (s.drop o) S.p 3=x at *
  have f1:=fdiv_pow x 1 (by decide)
  refine⟨cG,rfl,?_⟩
  have hx1:x%2^1=x%2:=rfl
  have hx2:x/2^1=x/2:=rfl
  rw[hx1,hx2]at hg
  rw[hx2]at f1
  have hxl:x/2<4:=by omega
  -- the end of a block
  have hdone:∀S':SS,(if x/2=0 then eJ (s.drop o) most {S with p:=S.p+3} else if x/2=1 then da (s.drop o) most bl bR {S with p:=S.p+3}
      else if x/2=2 then(if(cy (s.drop o) {S with p:=S.p+3}).2.err≠0 then(cy (s.drop o) {S with p:=S.p+3}).2 else da (s.drop o) most (cy (s.drop o) {S with p:=S.p+3}).1.1 (cy (s.drop o) {S with p:=S.p+3}).1.2 (cy (s.drop o) {S with p:=S.p+3}).2)else {S with p:=S.p+3,err:=3})=S' →
      iA (s.drop o) most x S' G:=by
   intro S' hS'
   rw[hS']at hg
   unfold iA
   by_cases hSe:S'.err=0
   ·rw[if_neg (by simpa using hSe)]
    unfold pb
    by_cases hx:x%2=1
    ·rw[if_pos (.inr (by simpa using hx))]at hg
     rw[if_pos hx];exact hg
    ·rw[if_neg (fun h=>h.elim (fun h=>h hSe) (fun h=>hx (by simpa using h)))]at hg
     rw[if_neg hx];exact hg
   ·rw[if_pos (.inl hSe)]at hg
    rw[if_pos hSe,hg]
  clear hg
  have hr1':bL s a1 hv1 (8*o+(S.p+3)):=hr1
  refine aw f1 ?_
  obtain hk | hk | hk | hk:x/2=0∨x/2=1∨x/2=2∨x/2=3:=by omega
  ·rw[hk]
   have hst:=WZ s o most a1 hv1 {S with p:=S.p+3} hs ho hm hr1' hol he
   have hc:=hdone _ (if_pos hk)
   have hmv:Mv (s.drop o) most {S with p:=S.p+3} (eJ (s.drop o) most {S with p:=S.p+3}):=zU
   generalize eJ (s.drop o) most {S with p:=S.p+3}=F at *
   refine wW ?_
   refine aI (a6 s o most a1 hv1 S.out) hst bE nofun ?_
   rintro h' v ar ⟨⟨a2,hv2,out2,rfl,rfl,hF⟩,rfl⟩
   refine⟨bE,rfl,?_⟩
   unfold iA at hc
   by_cases hFe:F.err=0
   ·obtain⟨rfl,hr2⟩:=hF hFe
    rw[if_neg (by simpa using hFe)]at hc
    refine aw hFe ?_
    have h1:=hmv.p
    simp only at h1
    exact hJ 1 ⟨x,[],[],a2,hv2,F⟩ _ (by simp only[iK];omega) ⟨⟨hr2,hFe,hmv.o hol,by simp only;omega⟩,by rw[if_neg (by decide),if_pos rfl];exact hc⟩ (.le (by simp(disch:=omega)only[go_sem,simprocAttr,gU,a6,a8]))
   ·rw[if_pos hFe]at hc
    have hi:¬((F.err:Nat):Int)=0:=by omega
    refine aw hi ?_
    exact mz hR F.err hc hFe a2 hv2 out2 bE
  ·rw[hk]
   have hc:=hdone _ ((if_neg (by omega)).trans (if_pos hk))
   refine wW ?_
   refine aG yM rfl rfl ?_
   simp(disch:=omega)only[go_sem,simprocAttr,bq]
   refine hJ 2 ⟨x,bl,bR,a1,hv1,{S with p:=S.p+3}⟩ _ (by simp only[iK];omega) ⟨⟨hr1',he,hol,by simp only;omega⟩,?_⟩ (.le ?_)
   ·rw[if_neg (by decide),if_neg (by decide),if_pos rfl]
    exact⟨⟨jh.1,jg.1,by simp only;rw[jh.2.1];decide,by simp only;rw[jg.2.1];decide,jh.2.2,jg.2.2⟩,hc⟩
   ·simp(disch:=omega)only[go_sem,simprocAttr,gU,a6,a8,bq]
  ·rw[hk]
   have hit:=Yo s o most a1 hv1 {S with p:=S.p+3} hs ho hm hr1' hol he
   have hc:=hdone _ ((if_neg (by omega)).trans ((if_neg (by omega)).trans (if_pos hk)))
   have hmv:Mv (s.drop o) most {S with p:=S.p+3} (cy (s.drop o) {S with p:=S.p+3}).2:=p8
   have hdo:=Mm (s.drop o) {S with p:=S.p+3}
   generalize cy (s.drop o) {S with p:=S.p+3}=D at *
   refine wW ?_
   refine aI (a6 s o most a1 hv1 S.out) hit bE nofun ?_
   rintro h' v ar ⟨⟨a2,hv2,rfl,hbad,hgood⟩,rfl⟩
   by_cases hDe:D.2.err=0
   ·obtain⟨rfl,hr2,hc1,hc2,hl1,hl2,hn1,hn2⟩:=hgood hDe
    rw[if_neg (by simpa using hDe)]at hc
    refine⟨bE,rfl,?_⟩
    refine uS ?_
    have h1:=hmv.p
    simp only at h1 hdo
    refine hJ 2 ⟨x,D.1.1,D.1.2,a2,hv2,D.2⟩ _ (by simp only[iK];omega) ⟨⟨hr2,hDe,by simp only;rw[hdo];exact hol,by simp only;omega⟩,?_⟩ (.le ?_)
    ·rw[if_neg (by decide),if_neg (by decide),if_pos rfl]
     exact⟨⟨hl1,hl2,by simp only;omega,hn2,hc1,hc2⟩,hc⟩
    ·simp(disch:=omega)only[go_sem,simprocAttr,gU,a6,a8,bq,hdo]
   ·obtain rfl:=hbad hDe
    rw[if_pos hDe]at hc
    unfold iA at hc
    rw[if_pos hDe]at hc
    refine⟨bE,rfl,?_⟩
    have hi:¬((D.2.err:Nat):Int)=0:=by omega
    simp(disch:=omega)only[go_sem,simprocAttr,hi,uJ]
    exact mz hR D.2.err hc hDe a2 hv2 S.out bE
  ·rw[hk]
   have hc:=hdone _ ((if_neg (by omega)).trans ((if_neg (by omega)).trans (if_neg (by omega))))
   unfold iA at hc
   rw[if_pos (by simp)]at hc
   refine wW ?_
   exact mz hR 3 hc (by decide) a1 hv1 S.out bE
 ·rw[if_neg h3]at hr1
  rw[if_neg h3,decide_eq_false h3]
  have hbk:dy (s.drop o) most S=(true,{S with err:=6}):=if_pos (show 8*(s.drop o).length<S.p+3 by omega)
  rw[hbk,if_pos (.inl (by simp))]at hg
  refine⟨cG,rfl,?_⟩
  refine wW ?_
  exact mz hR 6 (by rw[←hg]) (by decide) a1 hv1 S.out bE
set_option maxHeartbeats 2000000 in
theorem Ww (s:Bs) (o most:Nat) (G:SS) (z:kC) {E:Env} {R:Nat→KS} {R0:HP→AV→List AV→Prop} (hN:E.N≤1000000) (hs:s.length≤1000000000) (ho:o≤s.length) (hm:most≤1000000) (hR:dx (ri s o most G) R0) (hz:RB s o most z) (ht:TB z.l z.d) (hg:iA (s.drop o) most z.h (da (s.drop o) most z.l z.d z.S) G)
    (hJ:∀l' z' st',iK s o l' z'<iK s o 2 z→s6 s o most G l' z'→Wk st' (gU s o most l' z')→(R l').ap st') :
    vcW Tryz.prog E (.seq .skip Cod.s7) (KQ.jG R (QR R0)) ⟨[(0,.ab 65032 0),(3,.int .u32 z.h),(7,bq z.l),(8,bq z.d),(2000000,.ab 65032 0)],a6 s o most z.a z.hv z.S.out⟩:=by
 have hpl:=hz.pl
 obtain⟨h,l,d,a,hv,S⟩:=z
 obtain⟨hr,he,hol,hh⟩:=hz
 simp only at hr he hol hh hg hpl ht ⊢
 rw[nF hpl,if_neg (by simpa using he)]at hg
 have htl:(s.drop o).length=s.length-o:=List.length_drop
 have dM:=sU l ht.ZI ht.ll ht.lc s a hv o (8*o+S.p) (by omega) hr
 rw[←uf]at dM
 simp only[bq]at dM
 generalize hre:readL (aQ l) (aX (s.drop o) S.p)=re at *
 simp(disch:=omega)only[go_sem,simprocAttr,a6,bq]
 refine aI [(RD,.var (a8 s a hv o))] dM vV nofun ?_
 rintro h' v ar ⟨a2,hv2,p2,sy,hr2,rfl,rfl,hk2,rfl⟩
 refine⟨cG,rfl,?_⟩
 by_cases hre2:re.2.2=0
 ·obtain⟨rfl,rfl⟩:=hk2 hre2
  have hsym:aY (s.drop o) l S=(re.1,{S with p:=S.p+re.2.1}):=by
   have:=mH (t:=s.drop o) (l:=l) (S:=S) he (by rw[hre];exact hre2)
   simp only[hre]at this
   exact this
  have hrb:=mB (aQ l) (aX (s.drop o) S.p) (by rw[hre];exact hre2)
  rw[hre,gu]at hrb
  have hcl:(aQ l).length=l.length:=by simp[aQ]
  have hll:=ht.ll
  rw[show 8*o+S.p+re.2.1=8*o+(S.p+re.2.1)by omega]at hr2
  have hst:dH (s.drop o) most l d S=(if re.1=256 then(true,{S with p:=S.p+re.2.1})else if re.1<256 then(false,dk most (UInt8.ofNat re.1) {S with p:=S.p+re.2.1})else(false,du (s.drop o) most d re.1 {S with p:=S.p+re.2.1})):=by
   unfold dH
   rw[hsym]
   exact if_neg (by simpa using he)
  rw[hst]at hg
  have hp2:S.p<S.p+re.2.1∧S.p+re.2.1≤8*(s.drop o).length:=by omega
  generalize S.p+re.2.1=p2 at *
  have hsy:re.1≤320:=by omega
  generalize re.1=sy at *
  by_cases h256:sy=256
  ·rw[if_pos h256,if_pos rfl]at hg
   unfold iA at hg
   rw[if_neg (by simpa using he)]at hg
   refine bm hre2 h256 ?_
   refine hJ 1 ⟨h,[],[],a2,hv2,{S with p:=p2}⟩ _ (by simp only[iK];omega) ⟨⟨hr2,he,hol,hh⟩,?_⟩ (.le ?_)
   ·rw[if_neg (by decide),if_pos rfl];exact hg
   ·simp(disch:=omega)only[go_sem,simprocAttr,gU,a6,a8]
  ·rw[if_neg h256]at hg
   have hi:¬((sy:Nat):Int)=256:=by omega
   refine bm hre2 hi ?_
   -- behind the symbol
   refine cH (y:=Cod.yY) hN (fun y:Nat×Nat×Bs×SS=>⟨[(0,.ab 65032 0),(3,.int .u32 h),(5,.int .i64 y.2.2.2.err),(7,bq l),(8,bq d),(2000000,.ab 65032 0)],a6 s o most y.1 y.2.1 y.2.2.1⟩)
    (fun y=>Mv (s.drop o) most {S with p:=p2} y.2.2.2∧iA (s.drop o) most h (da (s.drop o) most l d y.2.2.2) G∧(y.2.2.2.err=0→y.2.2.1=y.2.2.2.out∧bL s y.1 y.2.1 (8*o+y.2.2.2.p))) (fun R2 hR2=>?_) (fun y hy=>?_)
   ·by_cases hlt:sy<256
    ·rw[if_pos hlt,if_neg (by simp)]at hg
     simp only at hg
     have hput:=yV s o most a2 hv2 S.out hm hol (UInt8.ofNat sy)
     have hmv:Mv (s.drop o) most {S with p:=p2} (dk most (UInt8.ofNat sy) {S with p:=p2}):=kj
     have hF:dk most (UInt8.ofNat sy) {S with p:=p2}=⟨p2,if S.out.length=most then S.out else S.out++[UInt8.ofNat sy],if S.out.length=most then 2 else 0⟩:=by
      unfold dk
      rw[if_neg (by simpa using he)]
      simp only
      by_cases hf:S.out.length=most
      ·rw[if_pos (by omega),if_pos hf,if_pos hf]
      ·rw[if_neg (by omega),if_neg hf,if_neg hf,he]
     have hb:((UInt8.ofNat sy).toNat:Int)=(sy:Int):=by rw[UInt8.toNat_ofNat'];omega
     rw[hb]at hput
     generalize dk most (UInt8.ofNat sy) {S with p:=p2}=F at *
     have hF1:F.out=(if S.out.length=most then S.out else S.out++[UInt8.ofNat sy]):=by rw[hF]
     have hF2:F.err=(if S.out.length=most then 2 else 0):=by rw[hF]
     have hF3:F.p=p2:=by rw[hF]
     rw[←hF1,←hF2]at hput
     clear hF hF1
     have hlt2:((sy:Nat):Int)<256:=by omega
     refine aw hlt2 ?_
     refine aI (a6 s o most a2 hv2 S.out) hput bE nofun ?_
     rintro h' v ar ⟨rfl,rfl,rfl⟩
     refine⟨bE,rfl,?_⟩
     refine uS ?_
     exact hR2 (a2,hv2,F.out,F) _ ⟨hmv,hg,fun _=>⟨rfl,by rw[hF3];exact hr2⟩⟩ (.le n7)
    ·rw[if_neg hlt,if_neg (by simp)]at hg
     simp only at hg
     have hrp:=VI s o most a2 hv2 {S with p:=p2} d sy hs ho hm hr2 hol he ht.d15 ht.dl ht.dc (by omega) (by omega)
     have hmv:Mv (s.drop o) most {S with p:=p2} (du (s.drop o) most d sy {S with p:=p2}):=tt
     generalize du (s.drop o) most d sy {S with p:=p2}=F at *
     have hlt2:¬((sy:Nat):Int)<256:=by omega
     simp only[bq]at hrp
     simp(disch:=omega)only[go_sem,simprocAttr,hlt2,bq]
     refine aI (a6 s o most a2 hv2 S.out) hrp bE nofun ?_
     rintro h' v ar ⟨⟨a3,hv3,out3,rfl,rfl,hF⟩,rfl⟩
     refine⟨bE,rfl,?_⟩
     refine uS ?_
     exact hR2 (a3,hv3,out3,F) _ ⟨hmv,hg,hF⟩ (.le n7)
   ·obtain⟨a3,hv3,out3,F⟩:=y
    obtain⟨g1,g2,g3⟩:=hy
    simp only at g1 g2 g3 ⊢
    by_cases hFe:F.err=0
    ·obtain⟨rfl,hr3⟩:=g3 hFe
     simp(disch:=omega)only[go_sem,simprocAttr,hFe,bq]
     have h1:=g1.p
     have h2:=g1.q hp2.2
     simp only at h1
     refine hJ 2 ⟨h,l,d,a3,hv3,F⟩ _ (by simp only[iK];omega) ⟨⟨hr3,hFe,g1.o hol,hh⟩,?_⟩ (.le ?_)
     ·rw[if_neg (by decide),if_neg (by decide),if_pos rfl]
      exact⟨ht,g2⟩
     ·simp(disch:=omega)only[go_sem,simprocAttr,gU,a6,a8,bq]
    ·rw[show da (s.drop o) most l d F=F from qj _ hFe]at g2
     unfold iA at g2
     rw[if_pos hFe]at g2
     have hi:¬((F.err:Nat):Int)=0:=by omega
     simp(disch:=omega)only[go_sem,simprocAttr,hi,bq]
     exact mz hR F.err g2 hFe a3 hv3 out3 bE
 ·have hsym:aY (s.drop o) l S=(0,{S with err:=re.2.2}):=by
   have:=nY (t:=s.drop o) (l:=l) (S:=S) he (by rw[hre];exact hre2)
   simp only[hre]at this
   exact this
  have hst:dH (s.drop o) most l d S=(true,{S with err:=re.2.2}):=by
   unfold dH
   rw[hsym]
   exact if_pos hre2
  rw[hst,if_pos rfl]at hg
  unfold iA at hg
  rw[if_pos hre2]at hg
  have hi:¬((re.2.2:Nat):Int)=0:=by omega
  refine aw hi ?_
  exact mz hR re.2.2 hg hre2 a2 hv2 S.out bE
set_option maxHeartbeats 1000000 in
theorem Wv (s:Bs) (o most a hv:Nat) (S:SS) (hs:s.length≤1000000000) (ho:o≤s.length) (hm:most≤1000000) (hr:bL s a hv (8*o+S.p)) (hol:S.out.length≤most) (he:S.err=0) :
    Eng.Spec Tryz.prog 77 (a6 s o most a hv S.out) [.ab fJ 0] (fun h' v ar=>PI s o most (fH (s.drop o) most S) h' v∧ar=[.ab fJ 0]):=by
 refine Cod.Wx (fun E R hN hR=>?_)
 generalize hG:fH (s.drop o) most S=G at *
 refine iW ?_
 refine aAo hN (gU s o most) (s6 s o most G) (iK s o) (fun R1 hR1=>?_) (fun l z hz=>?_)
 ·refine wW ?_
  refine cH (y:=Cod.pS) hN (fun _:Unit=>⟨[(0,.ab 65032 0),(2000000,.ab 65032 0)],a6 s o most a hv S.out⟩) (fun _=>True) (fun R2 hR2=>?_) (fun _ _=>?_)
  ·refine wW ?_
   exact hR2 () _ trivial (.le bE)
  ·exact y0 s o most G ⟨0,[],[],a,hv,S⟩ hN hs ho hm hR ⟨hr,he,hol,by simp⟩ hG (fun l' z' st' _ h1 h2=>hR1 l' z' st' h1 h2)
 ·obtain⟨h1,h2⟩:=hz
  by_cases l0:l=0
  ·subst l0
   rw[if_pos rfl]at h2
   refine⟨.seq .skip (.bc Cod.pS),rfl,fun R1 hR1=>?_⟩
   simp(disch:=omega)only[go_sem,simprocAttr,gU]
   refine dw hN ?_
   exact y0 s o most G z hN hs ho hm hR h1 h2 hR1
  ·rw[if_neg l0]at h2
   by_cases l1:l=1
   ·subst l1
    rw[if_pos rfl]at h2
    refine⟨.seq .skip Cod.yZ,rfl,fun R1 hR1=>?_⟩
    have ha:=and1 (n:=z.h) (by have:=h1.hl;omega)
    unfold pb at h2
    by_cases hx:z.h%2=1
    ·rw[if_pos hx]at h2
     have hi:¬((z.h%2:Nat):Int)=0:=by omega
     simp(disch:=omega)only[go_sem,simprocAttr,gU,ha,hi,a6]
     refine hR.le (h':=a6 s o most z.a z.hv z.S.out) bE ⟨⟨z.a,z.hv,z.S.out,rfl,?_,fun _=>by rw[←h2];exact⟨rfl,h1.r⟩⟩,rfl⟩
     rw[←h2,h1.e];rfl
    ·rw[if_neg hx]at h2
     have hi:((z.h%2:Nat):Int)=0:=by omega
     simp(disch:=omega)only[go_sem,simprocAttr,gU,ha,hi,a6]
     refine hR1 0 z _ (by simp only[iK];omega) ⟨h1,by rw[if_pos rfl];exact h2⟩ (.le ?_)
     simp(disch:=omega)only[go_sem,simprocAttr,gU,a6,a8]
   ·rw[if_neg l1]at h2
    by_cases l2:l=2
    ·subst l2
     rw[if_pos rfl]at h2
     exact⟨.seq .skip Cod.s7,rfl,fun R1 hR1=>Ww s o most G z hN hs ho hm hR h1 h2.1 h2.2 hR1⟩
    ·rw[if_neg l2]at h2
     exact h2.elim
theorem H2 (s:Bs) (a:Nat) (hs:s.length≤1000000000000) (ha:a≤s.length):Eng.Spec Tryz.prog 76 [] [.str s,.int .i64 a] (fun h r ar=>h=[(RD,.var (a8 s a 0 a))]∧r=.ab RD 0∧ar=[.undef,.undef]):=by
 refine Cod.H3 (fun E R hN hR=>?_)
 have e:max (0:Int) (min (a:Int) (s.length:Int))=a:=by omega
 refine aw e ?_
 exact hR.le (by simp(disch:=omega)only[go_sem,simprocAttr,a8,numAt]) ⟨rfl,rfl,rfl⟩
set_option maxHeartbeats 1000000 in
theorem UI (s:Bs) (o most:Nat) (hs:s.length≤1000000000) (ho:o≤s.length) (hm:most≤65536) :
    aZ Tryz.prog 53 [.str s,.int .i64 o,.int .i64 most] (.ak [.str (dY (s.drop o) most).1,.int .i64 ((dY (s.drop o) most).2.1:Nat),.int .i64 ((dY (s.drop o) most).2.2:Nat)]):=by
 refine Cod.UJ (fun E R hN hR=>?_)
 have htl:(s.drop o).length=s.length-o:=List.length_drop
 have pQ:=H2 s o (by omega) ho
 have hr0:bL s o 0 (8*o+0):=⟨by omega,ho,by omega⟩
 have hrun:=Wv s o most o 0 ⟨0,[],0⟩ hs ho (by omega) hr0 (by simp) rfl
 unfold dY at hR
 simp only at hR
 generalize hF:fH (s.drop o) most ⟨0,[],0⟩=F at *
 refine wW ?_
 refine gG ?_
 refine aI [] pQ trivial (fun _=>rfl) ?_
 rintro h' v as' ⟨rfl,rfl,rfl⟩
 refine⟨cG,rfl,?_⟩
 refine wW ?_
 refine j5 ⟨[(33,.ab 65032 0),(9,.ab 65032 0)],a6 s o most o 0 []⟩ (.jK 65032 1 60022 1 [.ab 40014 0,.al,.int .i64 most] rfl rfl rfl (.le ?_)) rfl ?_
 ·exact bE
 refine aI (a6 s o most o 0 []) hrun bE nofun ?_
 rintro h' v ar ⟨⟨a3,hv3,out3,rfl,rfl,hPI⟩,rfl⟩
 refine⟨bE,rfl,?_⟩
 by_cases he:F.err=0
 ·obtain⟨rfl,hr3⟩:=hPI he
  rw[if_neg (by simpa using he)]at hR
  have hu:=awv s a3 hv3 o (8*o+F.p) (by omega) hr3 (by omega)
  have e1:(8*o+F.p+7)/8-o=(F.p+7)/8:=by omega
  rw[e1]at hu
  simp only[a8]at hu
  simp(disch:=omega)only[go_sem,simprocAttr,he,a6,a8]
  refine mY [] vV hu trivial (fun _=>rfl) ?_
  rintro h' v ar ⟨rfl,rfl,rfl⟩
  refine⟨rfl,rfl,?_⟩
  refine wW ?_
  exact hR.wk (h':=[]) (r':=.ak [.str F.out,.int .i64 ((F.p+7)/8:Nat),.int .i64 (0:Nat)]) (ar':=[.undef,.undef,.undef]) rfl (.le vV) ⟨rfl,rfl⟩
 ·rw[if_pos he]at hR
  have hi:¬((F.err:Nat):Int)=0:=by omega
  refine aw hi ?_
  exact hR.wk (h':=[]) (r':=.ak [.str [],.int .i64 (0:Nat),.int .i64 (F.err:Nat)]) (ar':=[.undef,.undef,.undef]) rfl (.le vV) ⟨rfl,rfl⟩
open Eng Sh
set_option maxRecDepth 10000
theorem zT {t:Bs} {most:Nat}:∀(k:Nat) (S:SS),Mv t most S (mE t most k S)
 | 0,_=>.refl
 | k+1,S=>by
  unfold mE
  split
  ·exact lg.1
  ·exact lg.1.trans (zT k _)
theorem s3 (t:Bs) (most:Nat):(dY t most).1.length≤most∧(dY t most).2.1≤t.length:=by
 unfold dY
 simp only
 have h:=zT (t:=t) (most:=most) (8*t.length+1-0) ⟨0,[],0⟩
 have h1:(fH t most ⟨0,[],0⟩).p≤8*t.length:=h.q (by simp)
 have h2:(fH t most ⟨0,[],0⟩).out.length≤most:=h.o (by simp)
 split
 ·exact⟨by simp,by simp⟩
 ·exact⟨h2,by simp only;omega⟩
def fe (t:Bs) (most:Nat):Bs×Nat×Nat:=
 if t.length<2 then([],0,6)else if jj (t.getD 0 0).toNat (t.getD 1 0).toNat=false then([],0,3)else
 if(dY (t.drop 2) most).2.2≠0 then([],0,(dY (t.drop 2) most).2.2)else
 if t.length-(2+(dY (t.drop 2) most).2.1)<4 then([],0,6)else
 if cT ((t.drop (2+(dY (t.drop 2) most).2.1)).take 4)≠c8 (dY (t.drop 2) most).1 then([],0,5)else((dY (t.drop 2) most).1,(dY (t.drop 2) most).2.1+6,0)
theorem u4 (t:Bs) (most:Nat):(fe t most).1.length≤most∧(fe t most).2.1≤t.length:=by
 have h:=s3 (t.drop 2) most
 rw[List.length_drop]at h
 unfold fe
 split
 ·exact⟨by simp,by simp⟩
 ·split
  ·exact⟨by simp,by simp⟩
  ·split
   ·exact⟨by simp,by simp⟩
   ·split
    ·exact⟨by simp,by simp⟩
    ·split
     ·exact⟨by simp,by simp⟩
     ·exact⟨h.1,by simp only;omega⟩
abbrev zV (Z:Bs×Nat×Nat):AV:=.ak [.str Z.1,.int .i64 (Z.2.1:Nat),.int .i64 (Z.2.2:Nat)]
set_option maxHeartbeats 1000000 in
theorem aCr (s:Bs) (o most:Nat) (hs:s.length≤1000000) (ho:o≤s.length) (hm:most≤65536):aZ Tryz.prog 27 [.str s,.int .i64 o,.int .i64 most] (zV (fe (s.drop o) most)):=by
 refine Cod.aCs (fun E R hN hR=>?_)
 unfold fe at hR
 have hdl:(s.drop o).length=s.length-o:=List.length_drop
 rw[hdl]at hR
 by_cases h2:s.length-o<2
 ·rw[if_pos h2]at hR
  have hi:(s.length:Int)-(o:Int)<2:=by omega
  refine aw hi ?_
  refine ct hi ?_
  exact hR.ro ⟨rfl,rfl⟩
 ·rw[if_neg h2]at hR
  have hi:¬(s.length:Int)-(o:Int)<2:=by omega
  have gd:∀i,(s.drop o).getD i 0=s.getD (o+i) 0:=fun i=>by rw[List.getD_eq_getElem?_getD,List.getElem?_drop,←List.getD_eq_getElem?_getD]
  rw[gd,gd,Nat.add_zero]at hR
  have hh:=aBZ (s.getD o 0) (s.getD (o+1) 0)
  by_cases hb:jj (s.getD o 0).toNat (s.getD (o+1) 0).toNat=false
  ·rw[if_pos hb]at hR
   rw[hb]at hh
   refine aw hi ?_
   refine ct hi ?_
   refine aG hh rfl rfl ?_
   refine wW ?_
   exact hR.ro ⟨rfl,rfl⟩
  ·rw[if_neg hb]at hR
   rw[show jj (s.getD o 0).toNat (s.getD (o+1) 0).toNat=true by simpa using hb]at hh
   have hinf:=UI s (o+2) most (by omega) (by omega) hm
   have hil:=s3 (s.drop (o+2)) most
   rw[List.drop_drop]at hR
   generalize dY (s.drop (o+2)) most=I at *
   rw[List.length_drop]at hil
   refine aw hi ?_
   refine ct hi ?_
   refine aG hh rfl rfl ?_
   refine wW ?_
   refine aG hinf rfl rfl ?_
   by_cases he:I.2.2=0
   ·rw[if_neg (by simpa using he)]at hR
    by_cases h4:s.length-o-(2+I.2.1)<4
    ·rw[if_pos h4]at hR
     have hj:(s.length:Int)-((o:Int)+2+(I.2.1:Int))<4:=by omega
     refine bm he hj ?_
     exact hR.ro ⟨rfl,rfl⟩
    ·rw[if_neg h4]at hR
     have hj:¬(s.length:Int)-((o:Int)+2+(I.2.1:Int))<4:=by omega
     rw[List.drop_drop]at hR
     have e1:o+(2+I.2.1)=o+2+I.2.1:=by omega
     rw[e1]at hR
     generalize hu:(s.drop (o+2+I.2.1)).take 4=u at *
     have hul:u.length=4:=by rw[←hu,List.length_take,List.length_drop];omega
     have hfb:=sH u (by omega)
     have had:=vf I.1 (by omega)
     have hal:=ou I.1
     have hbl:cT u<4294967296:=by
      have:=oJ u 4 (by omega)
      rw[List.take_of_length_le (by omega)]at this
      exact this
     have et:((o:Int)+2+(I.2.1:Int)).toNat=o+2+I.2.1:=by omega
     have et4:((o:Int)+2+(I.2.1:Int)+4).toNat-(o+2+I.2.1)=4:=by omega
     refine cM he hj et et4 hu ?_
     refine aG hfb rfl rfl ?_
     refine wW ?_
     refine aG had rfl rfl ?_
     generalize cT u=x at *
     generalize c8 I.1=y at *
     by_cases hxy:x=y
     ·rw[if_neg (by simpa using hxy)]at hR
      have hi:((x:Nat):Int)=(y:Int):=by omega
      refine aw hi ?_
      exact hR.ro ⟨rfl,rfl⟩
     ·rw[if_pos hxy]at hR
      have hi:¬((x:Nat):Int)=(y:Int):=by omega
      refine aw hi ?_
      exact hR.ro ⟨rfl,rfl⟩
   ·rw[if_pos he]at hR
    have hj:¬((I.2.2:Nat):Int)=0:=by omega
    refine aw hj ?_
    exact hR.ro ⟨rfl,rfl⟩
set_option maxHeartbeats 1000000 in
theorem apA (s:Bs) (o most:Nat) (hs:s.length≤1000000) (ho:o≤s.length) (hm:most≤65536):aZ Tryz.prog 32 [.str s,.int .i64 o,.int .i64 most] (zV (fe (s.drop o) most)):=by
 refine Cod.apB (fun E R hN hR=>?_)
 unfold fe at hR
 have hdl:(s.drop o).length=s.length-o:=List.length_drop
 rw[hdl]at hR
 by_cases h2:s.length-o<2
 ·rw[if_pos h2]at hR
  have hi:(s.length:Int)-(o:Int)<2:=by omega
  refine aw hi ?_
  refine ct hi ?_
  exact hR.ro ⟨rfl,rfl⟩
 ·rw[if_neg h2]at hR
  have hi:¬(s.length:Int)-(o:Int)<2:=by omega
  have gd:∀i,(s.drop o).getD i 0=s.getD (o+i) 0:=fun i=>by rw[List.getD_eq_getElem?_getD,List.getElem?_drop,←List.getD_eq_getElem?_getD]
  rw[gd,gd,Nat.add_zero]at hR
  have hx1:=(s.getD o 0).toNat_lt
  have hx2:=(s.getD (o+1) 0).toNat_lt
  have hh:=apa (s.getD o 0).toNat (s.getD (o+1) 0).toNat (s.getD o 0).toNat_lt (s.getD (o+1) 0).toNat_lt
  by_cases hb:jj (s.getD o 0).toNat (s.getD (o+1) 0).toNat=false
  ·rw[if_pos hb]at hR
   rw[hb]at hh
   refine aw hi ?_
   refine ct hi ?_
   refine aG hh rfl rfl ?_
   refine wW ?_
   exact hR.ro ⟨rfl,rfl⟩
  ·rw[if_neg hb]at hR
   rw[show jj (s.getD o 0).toNat (s.getD (o+1) 0).toNat=true by simpa using hb]at hh
   have hinf:=anh s (o+2) most (by omega) (by rw[List.length_drop];omega) (by omega) hm
   have hil:=s3 (s.drop (o+2)) most
   rw[List.drop_drop]at hR
   generalize dY (s.drop (o+2)) most=I at *
   rw[List.length_drop]at hil
   refine aw hi ?_
   refine ct hi ?_
   refine aG hh rfl rfl ?_
   refine wW ?_
   refine aG hinf rfl rfl ?_
   by_cases he:I.2.2=0
   ·rw[if_neg (by simpa using he)]at hR
    have hdr:(s.drop (o+2+I.2.1)).length=s.length-(o+2+I.2.1):=List.length_drop
    have et:((o:Int)+2+(I.2.1:Int)).toNat=o+2+I.2.1:=by omega
    rw[List.drop_drop]at hR
    have e1:o+(2+I.2.1)=o+2+I.2.1:=by omega
    rw[e1]at hR
    generalize hrr:s.drop (o+2+I.2.1)=rr at *
    by_cases h4:s.length-o-(2+I.2.1)<4
    ·rw[if_pos h4]at hR
     refine ck he et hrr ?_
     exact hR.ro ⟨rfl,rfl⟩
    ·rw[if_neg h4]at hR
     generalize hu:rr.take 4=u at *
     have hul:u.length=4:=by rw[←hu,List.length_take];omega
     have had:=apP I.1 (by omega)
     have hal:=ou I.1
     have hbg:=aqM (c8 I.1) 4 (by omega) (by omega)
     have hbf:=oK u hul (c8 I.1) hal
     refine ck he et hrr ?_
     refine aG had rfl rfl ?_
     refine wW ?_
     refine aG hbg rfl rfl ?_
     generalize cT u=x at *
     by_cases hxy:x=c8 I.1
     ·rw[if_neg (by simpa using hxy)]at hR
      have hi:=hbf.1 hxy
      refine bm hu hi ?_
      exact hR.ro ⟨rfl,rfl⟩
     ·rw[if_pos hxy]at hR
      have hi:¬u=(bh (c8 I.1) 4).reverse:=fun h=>hxy (hbf.2 h)
      refine bm hu hi ?_
      exact hR.ro ⟨rfl,rfl⟩
   ·rw[if_pos he]at hR
    have hj:¬((I.2.2:Nat):Int)=0:=by omega
    refine aw hj ?_
    exact hR.ro ⟨rfl,rfl⟩
theorem Qj {l:List Nat} (hc:cn l≤32768) (hl:∀n∈l,n≤15) {b:List Bool} {s t:Nat} (hs:s<l.length) (ht:t<l.length) (h1:cJ b (a7 l s)=true) (h2:cJ b (a7 l t)=true):s=t:=by
 have key:∀{s t:Nat},s<l.length→t<l.length→cJ b (a7 l s)=true→cJ b (a7 l t)=true→l.getD s 0<l.getD t 0→False:=by
  intro s t hs ht h1 h2 hlt
  obtain⟨a1,a2,a3⟩:=(ke hc hl b hs).1 h1
  obtain⟨b1,b2,b3⟩:=(ke hc hl b ht).1 h2
  have hr:=nL l hs
  obtain⟨k,hk⟩:∃k,l.getD t 0=l.getD s 0+k:=⟨l.getD t 0-l.getD s 0,by omega⟩
  have hm:=(tr b (l.getD s 0) k (by omega)).2
  have hf:=pC l (l.getD s 0) k a1
  rw[if_neg (by omega),Nat.add_zero]at hf
  rw[←hk]at hm hf
  rw[a3,b3]at hm
  have h4:(cI l s+1)*2^k≤(fstL l (l.getD s 0)+bj l (l.getD s 0))*2^k:=Nat.mul_le_mul_right _ (by unfold cI;omega)
  have h5:fstL l (l.getD t 0)≤cI l t:=by unfold cI;omega
  omega
 rcases Nat.lt_trichotomy (l.getD s 0) (l.getD t 0)with h | h | h
 ·exact(key hs ht h1 h2 h).elim
 ·obtain⟨a1,a2,a3⟩:=(ke hc hl b hs).1 h1
  obtain⟨b1,b2,b3⟩:=(ke hc hl b ht).1 h2
  rw[h]at a3
  refine Cp l hs ht h ?_
  have:cI l s=cI l t:=by rw[←a3,b3]
  unfold cI at this
  rw[h]at this
  omega
 ·exact(key ht hs h2 h1 h).elim
theorem ar3 {l:List Nat} (hck:bo l=true) (hl:∀n∈l,n≤15) {s:Nat} (hs:s<l.length) (h1:1≤l.getD s 0) (R:List Bool):readL (aQ l) (a7 l s++R)=(s,(a7 l s).length,0):=by
 have hc:cn l≤32768:=by unfold bo at hck;simp at hck;exact hck.1
 have hlen:=iy l s
 have hh:cJ (a7 l s++R) (a7 l s)=true:=by
  unfold cJ
  have:(a7 l s).isEmpty=false:=by
   cases h:a7 l s with
   | nil=>rw[h,List.length_nil]at hlen;omega
   | cons=>rfl
  rw[this]
  simp[List.isPrefixOf_iff_prefix]
 unfold readL
 rw[xK hs hh (fun t ht h=>Qj hc hl ht hs h hh)]
 simp only[wO l hs]
theorem mD {t:Bs} {p:Nat} {A R:List Bool} (h:aX t p=A++R):aX t (p+A.length)=R:=by
 have e:aX t (p+A.length)=(aX t p).drop A.length:=by
  unfold aX
  apply List.ext_getElem?
  intro j
  simp only[List.getElem?_drop,List.getElem?_map]
  by_cases hj:p+A.length+j<8*t.length
  ·rw[List.getElem?_range (by omega),List.getElem?_range (by omega)]
   show some (fw t (p+A.length+j))=some (fw t (p+(A.length+j)))
   rw[Nat.add_assoc]
  ·rw[List.getElem?_eq_none (by simp;omega),List.getElem?_eq_none (by simp;omega)];rfl
 rw[e,h,List.drop_left]
theorem jR {t:Bs} {p:Nat} {A R:List Bool} (h:aX t p=A++R) (hp:p≤8*t.length):p+A.length≤8*t.length:=by
 have:=gu t p
 rw[h,List.length_append]at this
 omega
theorem Ab {t:Bs} {p x n:Nat} {R:List Bool} (h:aX t p=cK x n++R) (hp:p≤8*t.length) (hx:x<2^n):numAt t p n=x:=by
 have hr:=jR h hp
 rw[fC]at hr
 rw[←qe t p n hr,h,List.take_left' (fC x n),tC,Nat.mod_eq_of_lt hx]
theorem Aa {t:Bs} {x n:Nat} {R:List Bool} {S:SS} (h:aX t S.p=cK x n++R) (hp:S.p≤8*t.length) (hx:x<2^n) (he:S.err=0):aJ t n S=(x,{S with p:=S.p+n}):=by
 have hr:=jR h hp
 rw[fC]at hr
 rw[eW he hr,Ab h hp hx]
theorem qL {t:Bs} {l:List Nat} (hck:bo l=true) (hl:∀n∈l,n≤15) {s:Nat} (hs:s<l.length) (h1:1≤l.getD s 0) {R:List Bool} {S:SS} (h:aX t S.p=a7 l s++R) (he:S.err=0) :
    aY t l S=(s,{S with p:=S.p+(a7 l s).length}):=by
 have hr:=ar3 hck hl hs h1 R
 rw[←h]at hr
 rw[mH he (by rw[hr]),hr]
theorem Z3:∀i,i<28→(aU (i+1)).1-(aU i).1≤2^(aU i).2:=by decide +kernel
theorem KO:∀j,j<29→(bt (j+1)).1-(bt j).1≤2^(bt j).2:=by decide +kernel
theorem vK {s:Bs} {most p q n b:Nat} (hr:lR s q n b) (hm:s.length≤most):∀(m k:Nat),k+m=n→backS most b m ⟨p,s.take (q+k),0⟩=⟨p,s.take (q+n),0⟩
 | 0,k,h=>by
  rw[show k=n by omega]
  rfl
 | m+1,k,h=>by
  have hl:=hr.len
  have hb:=hr.bp
  have hb1:=hr.b1
  have htl:(s.take (q+k)).length=q+k:=by rw[List.length_take];omega
  have hget:(s.take (q+k)).getD (q+k-b) 0=s.getD (q+k) 0:=by
   rw[List.getD_eq_getElem?_getD,List.getElem?_take,if_pos (by omega),←List.getD_eq_getElem?_getD,show q+k-b=q-b+k by omega]
   exact hr.eq k (by omega)
  have hsn:=gy s 0 (show q+k<s.length by omega)
  rw[backS]
  simp only[htl,hget,dk]
  rw[if_neg (by simp),if_neg (by simp),if_neg (by omega),←hsn]
  exact vK hr hm m (k+1) (by omega)
theorem Z8 {s t:Bs} {most p q:Nat} {R:List Bool} (hp:p≤8*t.length) (hq:q<s.length) (hm:s.length≤most) (h:aX t p=a7 bl (s.getD q 0).toNat++R) :
    dH t most bl bR ⟨p,s.take q,0⟩=(false,⟨p+(a7 bl (s.getD q 0).toNat).length,s.take (q+1),0⟩):=by
 have hc:=(s.getD q 0).toNat_lt
 have hsy:=qL (S:=⟨p,s.take q,0⟩) kQ j8 (by rw[j9];omega) (kR _ (by omega)) h rfl
 have htl:(s.take q).length=q:=by rw[List.length_take];omega
 have hsn:=gy s 0 hq
 unfold dH
 simp only[hsy]
 rw[if_neg (by simp),if_neg (by omega),if_pos (by omega)]
 unfold dk
 simp only[htl]
 rw[if_neg (by simp),if_neg (by omega),UInt8.ofNat_toNat,←hsn]
theorem ase {s t:Bs} {most p q n b i j:Nat} {R:List Bool} (hp:p≤8*t.length) (hm:s.length≤most) (hr:lR s q n b) (hs:rl n b i j) (h:aX t p=jQ n b i j++R) :
    dH t most bl bR ⟨p,s.take q,0⟩=(false,⟨p+(jQ n b i j).length,s.take (q+n),0⟩):=by
 have hi:=hs.i28
 have hj:=hs.zi
 have hil:=hs.il
 have hjl:=hs.jl
 have h258:=hr.n258
 have h32:=hr.vF
 have hnx:n-(aU i).1<2^(aU i).2:=by
  by_cases e:i=28
  ·subst e
   have:aU 28=(258,0):=rfl
   rw[this]at hil ⊢
   simp only at hil ⊢
   omega
  ·have h1:=Z3 i (by omega)
   have h2:=hs.iu (i+1) (by omega) (by omega)
   omega
 have hbx:b-(bt j).1<2^(bt j).2:=by
  by_cases e:j=29
  ·subst e
   have:bt 29=(24577,13):=rfl
   rw[this]at hjl ⊢
   simp only at hjl ⊢
   omega
  ·have h1:=KO j (by omega)
   have h2:=hs.ju (j+1) (by omega) (by omega)
   omega
 unfold jQ at h
 simp only[List.append_assoc]at h
 have g1:=mD h
 have r1:=jR h hp
 have g2:=mD g1
 have r2:=jR g1 r1
 have g3:=mD g2
 have r3:=jR g2 r2
 have hsy:=qL (S:=⟨p,s.take q,0⟩) kQ j8 (by rw[j9];omega) (kR _ (by omega)) h rfl
 have hn1:=Aa (S:=⟨p+(a7 bl (257+i)).length,s.take q,0⟩) g1 r1 hnx rfl
 have hsd:=qL (S:=⟨p+(a7 bl (257+i)).length+(aU i).2,s.take q,0⟩) (l:=bR) (s:=j) sv pt (by rw[pw];omega) (sw _ (by omega)) (by simp only;rw[fC]at g2;exact g2) rfl
 rw[fC]at g3 r2 r3
 have hn2:=Aa (S:=⟨p+(a7 bl (257+i)).length+(aU i).2+(a7 bR j).length,s.take q,0⟩) g3 r3 hbx rfl
 have htl:(s.take q).length=q:=by have:=hr.len;rw[List.length_take];omega
 unfold dH
 simp only[hsy]
 rw[if_neg (by simp),if_neg (by omega),if_neg (by omega)]
 unfold du
 rw[if_neg (by omega),show 257+i-257=i by omega]
 simp only[hn1,hsd,hn2]
 rw[if_neg (by simp),if_neg (by omega),if_neg (by simp),htl,if_neg (by have:=hr.bp;omega),show(aU i).1+(n-(aU i).1)=n by omega,show(bt j).1+(b-(bt j).1)=b by omega]
 have hb:=vK (p:=p+(a7 bl (257+i)).length+(aU i).2+(a7 bR j).length+(bt j).2) hr hm n 0 (by omega)
 rw[Nat.add_zero]at hb
 rw[hb]
 simp only[jQ,List.length_append,fC,Nat.add_assoc]
theorem MD {s t:Bs} {most p0:Nat} (hm:s.length≤most) (hp0:p0≤8*t.length) {q:Nat} {bs:List Bool} (h:ik s q bs):∀R,aX t p0=bs++R→q≤s.length∧da t most bl bR ⟨p0+3,[],0⟩=da t most bl bR ⟨p0+bs.length,s.take q,0⟩:=by
 induction h with
 | nil=>intro R _;exact⟨by omega,by rw[fC];rfl⟩
 | lit q bs h hq ih=>
  intro R hR
  rw[List.append_assoc]at hR
  obtain⟨_,h2⟩:=ih _ hR
  refine⟨by omega,h2.trans ?_⟩
  have hr:=jR hR hp0
  rw[nF (by simpa using hr),Z8 hr hq hm (mD hR),if_neg (by simp),if_neg (by simp),List.length_append,Nat.add_assoc]
 | rep q bs n b i j h hrep hs ih=>
  intro R hR
  rw[List.append_assoc]at hR
  obtain⟨_,h2⟩:=ih _ hR
  refine⟨hrep.len,h2.trans ?_⟩
  have hr:=jR hR hp0
  rw[nF (by simpa using hr),ase hr hm hrep hs (mD hR),if_neg (by simp),if_neg (by simp),List.length_append,Nat.add_assoc]
theorem asn (B:List Bool) (r:Bs):∃R,aX (eZ B++r) 0=B++R:=by
 refine⟨(aX (eZ B++r) 0).drop B.length,?_⟩
 have hl:(eZ B).length=(B.length+7)/8:=jN _ _
 have e:(aX (eZ B++r) 0).take B.length=B:=by
  apply List.ext_getElem?
  intro j
  by_cases hj:j<B.length
  ·rw[List.getElem?_take,if_pos hj]
   unfold aX
   rw[List.getElem?_map,List.getElem?_range (by rw[List.length_append,hl];omega),Option.map_some,Nat.zero_add,List.getElem?_eq_getElem hj]
   congr 1
   unfold fw
   rw[List.getD_eq_getElem?_getD,List.getElem?_append_left (by rw[hl];omega)]
   unfold eZ dE
   rw[List.getElem?_map,List.getElem?_range (by omega),Option.map_some,Option.getD_some]
   unfold gO
   rw[UInt8.toNat_ofNat',show(2:Nat)^8=2^8 from rfl,Nat.testBit_mod_two_pow]
   have h8:j%8<8:=Nat.mod_lt _ (by decide)
   rw[decide_eq_true h8,Bool.true_and]
   have key:∀(l:List Bool) (k:Nat),(bA l).testBit k=l.getD k false:=by
    intro l
    induction l with
    | nil=>intro k;simp[bA]
    | cons c l ih=>
     intro k
     rw[tB]
     cases k with
     | zero=>cases c<;>simp[Nat.testBit_zero]<;>omega
     | succ k=>
      rw[Nat.testBit_succ,show(2*bA l+c.toNat)/2=bA l by cases c<;>simp<;>omega,ih k]
      rfl
   rw[key,List.getD_eq_getElem?_getD,List.getElem?_drop,show 8*(j/8)+j%8=j by omega,List.getElem?_eq_getElem hj]
   rfl
  ·rw[List.getElem?_eq_none (by rw[List.length_take];omega),List.getElem?_eq_none (by omega)]
 conv=>lhs;rw[←List.take_append_drop B.length (aX (eZ B++r) 0),e]
end Go.Proofs.YtjoefngnjoofeaaGreatDoor.Pk
namespace Go.Proofs.YtjoefngnjoofeaaGreatDoor.Cod
open Eng Eng.Kz
set_option maxRecDepth 100000
abbrev atB:AK:=.seq (.aa [.eff 9 false 190009 (.aW 1 [(.c (.str [99,111,109,109,105,116])),(.c (.str [116,114,101,101])),(.c (.str [98,108,111,98])),(.c (.str [116,97,103]))]),m 10 0,bi 11 .sub 10 1,.v 12 (.aO 1 (.t 9) (.t 11)),.v 13 (.ld false 1 (.t 12)),m 2 13] [2]) .ret
abbrev atD:AK:=.seq (.aa [k 2 (.c (.str []))] [2]) .ret
abbrev atC:AK:=.seq (.aa [m 3 0,bi 4 .lss 3 1,m 5 4,.af 6 5 false false 190006 (.ah (.t 0)),.af 7 5 false false 190007 (.bin .gtr (.t 6) (ci 4)),.v 8 (.pick (.t 5) (.c (.bool true)) (.t 7))] [0,8]) (.cond (.t 8) atD .skip)
abbrev atA:AK:=.seq atC atB
abbrev atz:AK:=.seq (.aa [k 2 (.c (.str []))] [0]) atA
abbrev Cs:AK:=atz
theorem atE:aA Tryz.prog 69 190000 1 Cs [.tmp 2]:=⟨_,Tryz.func69,by kernel_rfl⟩
theorem atF {h a0 Post} (hp:aD Tryz.prog Cs [.tmp 2] 1 [(0,a0)] h Post):Eng.Spec Tryz.prog 69 h [a0] Post:=aE atE rfl [(0,a0)] ⟨rfl,trivial⟩ hp
abbrev aq9:AK:=.seq (.aa [k 2 (ci 0)] [2]) .ret
abbrev arb:AK:=.seq (.aa [k 2 (ci 2)] [2]) .ret
abbrev ara:AK:=.seq (.aa [.v 7 (.ai false 1 1 (.t 1)),.v 8 (.ld false 1 (.t 7)),.v 9 (.len true (.t 8)),bi 10 .gtr 9 65000] [10]) (.cond (.t 10) arb .skip)
abbrev aq8:AK:=.seq ara aq9
abbrev ard:AK:=.seq (.aa [k 2 (ci 10)] [2]) .ret
abbrev arc:AK:=.seq (.aa [.v 3 (.ai false 0 1 (.t 1)),.v 4 (.ld false 1 (.t 3)),.aj (some 5) false 191005 69 [(.t 4)],.v 6 (.bin .eql (.t 5) (.c (.str [])))] [1,6]) (.cond (.t 6) ard .skip)
abbrev aq7:AK:=.seq arc aq8
abbrev aq6:AK:=.seq (.aa [.eff 1 false 191001 (.box 2 (.t 0)),k 2 (ci 0)] [1]) aq7
abbrev Cd:AK:=aq6
theorem arf:aA Tryz.prog 42 191000 1 Cd [.tmp 2]:=⟨_,Tryz.func42,by kernel_rfl⟩
theorem ari {h a0 Post} (hp:aD Tryz.prog Cd [.tmp 2] 1 [(0,a0)] h Post):Eng.Spec Tryz.prog 42 h [a0] Post:=aE arf rfl [(0,a0)] ⟨rfl,trivial⟩ hp
abbrev awc:AK:=.seq (.aa [u 192003 3 (.ai false 0 1 (.t 1)),u 192004 4 (.ld false 1 (.t 3)),u 192007 7 (.ai false 1 1 (.t 1)),u 192008 8 (.ld false 1 (.t 7)),u 192009 9 (.len true (.t 8)),u 192013 13 (.ai false 1 1 (.t 1)),u 192014 14 (.ld false 1 (.t 13)),.aj (some 5) true 192005 69 [(.t 4)],u 192006 6 (.bin .add (.t 5) (.c (.str [32]))),.aj (some 10) true 192010 70 [(.t 9)],u 192011 11 (.bin .add (.t 6) (.t 10)),u 192012 12 (.bin .add (.t 11) (.c (.str [0]))),b 15 .add 12 14,m 2 15] [2]) .ret
abbrev awb:AK:=.seq (.aa [.eff 1 false 192001 (.box 2 (.t 0)),k 2 (.c (.str []))] [1]) awc
abbrev CN:AK:=awb
theorem awd:aA Tryz.prog 43 192000 1 CN [.tmp 2]:=⟨_,Tryz.func43,by kernel_rfl⟩
theorem awf {h a0 Post} (hp:aD Tryz.prog CN [.tmp 2] 1 [(0,a0)] h Post):Eng.Spec Tryz.prog 43 h [a0] Post:=aE awd rfl [(0,a0)] ⟨rfl,trivial⟩ hp
abbrev as6:AK:=.seq (.aa [.v 3 (.ld true 2 (.t 1)),.aj (some 4) false 193004 43 [(.t 3)],.aj (some 5) false 193005 22 [(.t 4)],.aj (some 6) false 193006 31 [(.t 5)],m 2 6] [2]) .ret
abbrev as5:AK:=.seq (.aa [.eff 1 false 193001 (.box 2 (.t 0)),k 2 (.c (.str []))] [1]) as6
abbrev Co:AK:=as5
theorem as7:aA Tryz.prog 17 193000 1 Co [.tmp 2]:=⟨_,Tryz.func17,by kernel_rfl⟩
theorem as9 {h a0 Post} (hp:aD Tryz.prog Co [.tmp 2] 1 [(0,a0)] h Post):Eng.Spec Tryz.prog 17 h [a0] Post:=aE as7 rfl [(0,a0)] ⟨rfl,trivial⟩ hp
abbrev KH:AK:=.seq (.aa [u 194029 29 (.ah (.t 0)),u 194030 30 (.bin .quo (.t 29) (ci 10)),u 194032 32 (.ah (.t 0)),u 194033 33 (.bin .rem (.t 32) (ci 10)),u 194034 34 (.ah (.t 0)),u 194035 35 (.bin .rem (.t 34) (ci 10)),u 194036 36 (.bin .add (.t 35) (ci 1)),u 194037 37 (.bK (.c (.str [48,49,50,51,52,53,54,55,56,57])) (some (.t 33)) (some (.t 36))),.aj (some 31) true 194031 70 [(.t 30)],b 38 .add 31 37,m 2 38] [2]) .ret
abbrev KJ:AK:=.seq (.aa [m 25 0,m 26 0,bi 27 .add 26 1,.v 28 (.bK (.c (.str [48,49,50,51,52,53,54,55,56,57])) (some (.t 25)) (some (.t 27))),m 2 28] [2]) .ret
abbrev KI:AK:=.seq (.aa [m 23 0,bi 24 .lss 23 10] [0,24]) (.cond (.t 24) KJ .skip)
abbrev KG:AK:=.seq KI KH
abbrev KB:AK:=.seq (.aa [m 15 0,bi 16 .quo 15 10,.aj (some 17) false 194017 70 [(.t 16)],m 18 0,bi 19 .rem 18 10,.v 20 (.un .neg (.t 19)),.aj (some 21) false 194021 70 [(.t 20)],b 22 .add 17 21,m 2 22] [2]) .ret
abbrev KK:AK:=.seq (.aa [m 13 0,bi 14 .lss 13 0] [0,14]) (.cond (.t 14) KB .skip)
abbrev KF:AK:=.seq KK KG
abbrev KE:AK:=.seq (.aa [m 9 0,.v 10 (.un .neg (.t 9)),.aj (some 11) false 194011 70 [(.t 10)],.v 12 (.bin .add (.c (.str [45])) (.t 11)),m 2 12] [2]) .ret
abbrev KC:AK:=.seq (.aa [m 3 0,bi 4 .lss 3 0,m 5 4,.af 6 5 true false 194006 (.ah (.t 0)),.af 7 5 true false 194007 (.bin .gtr (.t 6) (ci (-10))),.v 8 (.pick (.t 5) (.t 7) (.c (.bool false)))] [0,8]) (.cond (.t 8) KE .skip)
abbrev KA:AK:=.seq KC KF
abbrev Ky:AK:=.seq (.aa [k 2 (.c (.str []))] [0]) KA
abbrev xj:AK:=Ky
theorem KL:aA Tryz.prog 70 194000 1 xj [.tmp 2]:=⟨_,Tryz.func70,by kernel_rfl⟩
theorem xl {h a0 Post} (hp:aD Tryz.prog xj [.tmp 2] 1 [(0,a0)] h Post):Eng.Spec Tryz.prog 70 h [a0] Post:=aE KL rfl [(0,a0)] ⟨rfl,trivial⟩ hp
abbrev ahV:AK:=.aa [m 10 9,bi 11 .add 10 1,m 9 11] [0,1,7,8,9]
abbrev ahO:AK:=.seq (.aa [m 39 7,m 40 1,m 41 9,b 42 .add 40 41,bi 43 .add 42 1,m 4 39,m 5 43,k 6 (ci 0)] [4,5,6]) .ret
abbrev ahN:AK:=.seq (.aa [m 33 0,m 34 1,m 35 9,b 36 .add 34 35,.v 37 (.bV (.t 33) (.t 36)),.v 38 (.bin .lss (.t 37) (.c (.int .u8 128)))] [0,1,7,8,9,38]) (.cond (.t 38) ahO .skip)
abbrev ahM:AK:=.seq (.aa [m 31 8,.v 32 (.bin .mul (ci 128) (.t 31)),m 8 32] [0,1,7,8,9]) ahN
abbrev ahY:AK:=.seq (.aa [m 20 7,m 21 0,m 22 1,m 23 9,b 24 .add 22 23,.v 25 (.bV (.t 21) (.t 24)),.v 26 (.bin .rem (.t 25) (.c (.int .u8 128))),.v 27 (.aV .i64 (.t 26)),m 28 8,b 29 .mul 27 28,b 30 .add 20 29,m 7 30] [0,1,7,8,9]) ahM
abbrev ahQ:AK:=.seq (.aa [k 4 (ci 0),k 5 (ci 0),k 6 (ci 3)] [4,5,6]) .ret
abbrev ahP:AK:=.seq (.aa [m 18 9,bi 19 .eql 18 5] [0,1,7,8,9,19]) (.cond (.t 19) ahQ .skip)
abbrev ahX:AK:=.seq ahP ahY
abbrev ahS:AK:=.seq (.aa [k 4 (ci 0),k 5 (ci 0),k 6 (ci 6)] [4,5,6]) .ret
abbrev ahR:AK:=.seq (.aa [m 12 1,m 13 9,b 14 .add 12 13,m 15 0,.v 16 (.len true (.t 15)),b 17 .geq 14 16] [0,1,7,8,9,17]) (.cond (.t 17) ahS .skip)
abbrev ahW:AK:=.seq ahR ahX
abbrev ahU:AK:=.seq (.block 1 ahW) ahV
abbrev ahZ:AK:=.loop ahU
abbrev ahT:AK:=.seq (.aa [k 9 (ci 0)] [0,1,7,8,9]) (.block 0 ahZ)
abbrev ahL:AK:=.seq (.aa [k 7 (ci 0),k 8 (ci 1)] [0,1,7,8]) ahT
abbrev ahK:AK:=.seq (.aa [k 4 (ci 0),k 5 (ci 0),k 6 (ci 0)] [0,1]) ahL
abbrev Bg:AK:=ahK
theorem ah0:aA Tryz.prog 71 195000 2 Bg [.tmp 4,.tmp 5,.tmp 6]:=⟨_,Tryz.func71,by kernel_rfl⟩
theorem ah1 {h a0 a1 Post} (hp:aD Tryz.prog Bg [.tmp 4,.tmp 5,.tmp 6] 2 [(0,a0),(1,a1)] h Post):Eng.Spec Tryz.prog 71 h [a0,a1] Post:=aE ah0 rfl [(0,a0),(1,a1)] ⟨rfl,rfl,trivial⟩ hp
abbrev ah8:AK:=.seq (.aa [m 31 6,m 32 9,m 33 10,m 2 31,m 3 32,m 4 33,k 5 (ci 0)] [2,3,4,5]) .ret
abbrev aia:AK:=.seq (.aa [m 30 11,k 2 (ci 0),k 3 (ci 0),k 4 (ci 0),m 5 30] [2,3,4,5]) .ret
abbrev ah9:AK:=.seq (.aa [m 28 11,bi 29 .neq 28 0] [6,9,10,11,29]) (.cond (.t 29) aia .skip)
abbrev ah7:AK:=.seq ah9 ah8
abbrev ah6:AK:=.seq (.aa [m 22 0,m 23 7,.aj (some 24) false 196024 71 [(.t 22),(.t 23)],m 21 24,.v 25 (.ext (.t 21) 0),.v 26 (.ext (.t 21) 1),.v 27 (.ext (.t 21) 2),m 9 25,m 10 26,m 11 27] [6,9,10,11]) ah7
abbrev ah4:AK:=.seq (.aa [m 20 8,k 2 (ci 0),k 3 (ci 0),k 4 (ci 0),m 5 20] [2,3,4,5]) .ret
abbrev aib:AK:=.seq (.aa [m 18 8,bi 19 .neq 18 0] [0,6,7,8,19]) (.cond (.t 19) ah4 .skip)
abbrev ah5:AK:=.seq aib ah6
abbrev ah3:AK:=.seq (.aa [m 13 0,.aj (some 14) false 196014 71 [(.t 13),(ci 0)],m 12 14,.v 15 (.ext (.t 12) 0),.v 16 (.ext (.t 12) 1),.v 17 (.ext (.t 12) 2),m 6 15,m 7 16,m 8 17] [0,6,7,8]) ah5
abbrev ah2:AK:=.seq (.aa [k 2 (ci 0),k 3 (ci 0),k 4 (ci 0),k 5 (ci 0)] [0]) ah3
abbrev Bi:AK:=ah2
theorem aic:aA Tryz.prog 44 196000 1 Bi [.tmp 2,.tmp 3,.tmp 4,.tmp 5]:=⟨_,Tryz.func44,by kernel_rfl⟩
theorem aie {h a0 Post} (hp:aD Tryz.prog Bi [.tmp 2,.tmp 3,.tmp 4,.tmp 5] 1 [(0,a0)] h Post):Eng.Spec Tryz.prog 44 h [a0] Post:=aE aic rfl [(0,a0)] ⟨rfl,trivial⟩ hp
abbrev ahD:AK:=.seq (.aa [m 150 12,m 6 150,k 7 (ci 0)] [6,7]) .ret
abbrev agO:AK:=.seq (.aa [k 6 (.c (.str [])),k 7 (ci 6)] [6,7]) .ret
abbrev ahE:AK:=.seq (.aa [m 146 12,.v 147 (.len true (.t 146)),m 148 9,b 149 .lss 147 148] [12,149]) (.cond (.t 149) agO .skip)
abbrev ahw:AK:=.seq ahE ahD
abbrev agV:AK:=.aa [m 143 12,m 144 14,b 145 .add 143 144,m 12 145] [0,1,9,10,12]
abbrev agX:AK:=.seq (.aa [k 6 (.c (.str [])),k 7 (ci 3)] [6,7]) .ret
abbrev agW:AK:=.seq (.aa [m 136 12,.v 137 (.len true (.t 136)),m 138 14,.v 139 (.len true (.t 138)),b 140 .add 137 139,m 141 9,b 142 .gtr 140 141] [0,1,9,10,12,14,142]) (.cond (.t 142) agX .skip)
abbrev A9:AK:=.seq agW agV
abbrev ag0:AK:=.aa [m 62 10,m 63 13,b 64 .add 62 63,m 10 64] [0,1,9,10,12,14]
abbrev agZ:AK:=.seq (.aa [m 56 1,m 57 10,m 58 10,m 59 13,b 60 .add 58 59,.v 61 (.bK (.t 56) (some (.t 57)) (some (.t 60))),m 14 61] [0,1,9,10,12,13,14]) ag0
abbrev ag3:AK:=.seq (.aa [k 6 (.c (.str [])),k 7 (ci 6)] [6,7]) .ret
abbrev ag2:AK:=.seq (.aa [m 50 10,m 51 13,b 52 .add 50 51,m 53 1,.v 54 (.len true (.t 53)),b 55 .gtr 52 54] [0,1,9,10,12,13,55]) (.cond (.t 55) ag3 .skip)
abbrev agY:AK:=.seq ag2 agZ
abbrev ag8:AK:=.aa [m 130 0,m 131 17,m 132 17,m 133 18,b 134 .add 132 133,.v 135 (.bK (.t 130) (some (.t 131)) (some (.t 134))),m 14 135] [0,1,9,10,12,14]
abbrev ahb:AK:=.seq (.aa [k 6 (.c (.str [])),k 7 (ci 3)] [6,7]) .ret
abbrev aha:AK:=.seq (.aa [m 124 17,m 125 18,b 126 .add 124 125,m 127 0,.v 128 (.len true (.t 127)),b 129 .gtr 126 128] [0,1,9,10,12,17,18,129]) (.cond (.t 129) ahb .skip)
abbrev Be:AK:=.seq aha ag8
abbrev ahc:AK:=.aa [k 18 (ci 65536)] [0,1,9,10,12,17,18]
abbrev Bf:AK:=.seq (.aa [m 122 18,bi 123 .eql 122 0] [0,1,9,10,12,17,18,123]) (.cond (.t 123) ahc .skip)
def Bd:AK:=.seq Bf (.bc Be)
abbrev ag7:AK:=.seq (.aa [u 197109 109 (.ah (.t 15)),u 197110 110 (.aO 1 (.t 109) (ci 4)),u 197111 111 (.ld false 1 (.t 110)),u 197112 112 (.ah (.t 15)),u 197113 113 (.aO 1 (.t 112) (ci 5)),u 197114 114 (.ld false 1 (.t 113)),u 197115 115 (.bin .mul (ci 256) (.t 114)),u 197116 116 (.bin .add (.t 111) (.t 115)),u 197117 117 (.ah (.t 15)),u 197118 118 (.aO 1 (.t 117) (ci 6)),u 197119 119 (.ld false 1 (.t 118)),u 197120 120 (.bin .mul (ci 65536) (.t 119)),b 121 .add 116 120,m 18 121] [0,1,9,10,12,17,18]) Bd
abbrev ag6:AK:=.seq (.aa [u 197091 91 (.ah (.t 15)),u 197092 92 (.aO 1 (.t 91) (ci 0)),u 197093 93 (.ld false 1 (.t 92)),u 197094 94 (.ah (.t 15)),u 197095 95 (.aO 1 (.t 94) (ci 1)),u 197096 96 (.ld false 1 (.t 95)),u 197097 97 (.bin .mul (ci 256) (.t 96)),u 197098 98 (.bin .add (.t 93) (.t 97)),u 197099 99 (.ah (.t 15)),u 197100 100 (.aO 1 (.t 99) (ci 2)),u 197101 101 (.ld false 1 (.t 100)),u 197102 102 (.bin .mul (ci 65536) (.t 101)),u 197103 103 (.bin .add (.t 98) (.t 102)),u 197104 104 (.ah (.t 15)),u 197105 105 (.aO 1 (.t 104) (ci 3)),u 197106 106 (.ld false 1 (.t 105)),u 197107 107 (.bin .mul (ci 16777216) (.t 106)),b 108 .add 103 107,m 17 108] [0,1,9,10,12,15,17]) ag7
abbrev ahh:AK:=.aa [m 68 16,bi 69 .add 68 1,m 16 69] [0,1,9,10,12,13,15,16]
abbrev ahk:AK:=.aa [m 89 13,bi 90 .quo 89 2,m 13 90] [0,1,9,10,12,13,15,16]
abbrev aho:AK:=.aa [m 87 10,bi 88 .add 87 1,m 10 88] [0,1,9,10,12,13,15,16]
abbrev ahn:AK:=.seq (.aa [m 80 15,m 81 16,m 82 1,m 83 10,.v 84 (.bV (.t 82) (.t 83)),.v 85 (.aV .i64 (.t 84)),.v 86 (.aO 1 (.t 80) (.t 81)),.aH false 197000 (.st 1 (.t 86) (.t 85))] [0,1,9,10,12,13,15,16]) aho
abbrev ahr:AK:=.seq (.aa [k 6 (.c (.str [])),k 7 (ci 6)] [6,7]) .ret
abbrev ahq:AK:=.seq (.aa [m 76 10,m 77 1,.v 78 (.len true (.t 77)),b 79 .geq 76 78] [0,1,9,10,12,13,15,16,79]) (.cond (.t 79) ahr .skip)
abbrev ahm:AK:=.seq ahq ahn
abbrev ahl:AK:=.seq (.aa [m 73 13,bi 74 .rem 73 2,bi 75 .eql 74 1] [0,1,9,10,12,13,15,16,75]) (.cond (.t 75) ahm .skip)
abbrev ahj:AK:=.seq ahl ahk
abbrev ahi:AK:=.seq (.aa [m 70 15,.eff 71 false 197071 (.aW 1 [(ci 0)]),.eff 72 false 197072 (.app 1 8 (.t 70) (.t 71)),m 15 72] [0,1,9,10,12,13,15,16]) ahj
abbrev ahf:AK:=.seq (.block 3 ahi) ahh
abbrev ahs:AK:=.seq (.aa [m 66 16,bi 67 .lss 66 7] [0,1,9,10,12,13,15,16,67]) (.cond (.t 67) .skip (.exit 2))
abbrev ahe:AK:=.seq ahs ahf
abbrev ahG:AK:=.loop ahe
abbrev ahd:AK:=.seq (.aa [k 16 (ci 0)] [0,1,9,10,12,13,15,16]) (.block 2 ahG)
abbrev ag5:AK:=.seq ahd ag6
abbrev ag4:AK:=.seq (.aa [.eff 65 false 197065 (.aW 1 []),m 15 65] [0,1,9,10,12,13,15]) ag5
abbrev Bc:AK:=.seq (.aa [m 48 13,bi 49 .lss 48 128] [0,1,9,10,12,13,49]) (.cond (.t 49) agY ag4)
def A8:AK:=.seq Bc (.bc A9)
abbrev agT:AK:=.seq (.aa [k 14 (.c (.str []))] [0,1,9,10,12,13]) A8
abbrev ahu:AK:=.seq (.aa [k 6 (.c (.str [])),k 7 (ci 3)] [6,7]) .ret
abbrev aht:AK:=.seq (.aa [m 46 13,bi 47 .eql 46 0] [0,1,9,10,12,13,47]) (.cond (.t 47) ahu .skip)
abbrev agS:AK:=.seq aht agT
abbrev agR:AK:=.seq (.aa [m 44 10,bi 45 .add 44 1,m 10 45] [0,1,9,10,12,13]) agS
abbrev agQ:AK:=.seq (.aa [m 40 1,m 41 10,.v 42 (.bV (.t 40) (.t 41)),.v 43 (.aV .i64 (.t 42)),m 13 43] [0,1,9,10,12,13]) agR
abbrev ahv:AK:=.seq (.aa [m 36 10,m 37 1,.v 38 (.len true (.t 37)),b 39 .lss 36 38] [0,1,9,10,12,39]) (.cond (.t 39) .skip (.exit 0))
abbrev agP:AK:=.seq ahv (.block 1 agQ)
abbrev ahF:AK:=.loop agP
abbrev ahp:AK:=.seq (.block 0 ahF) ahw
abbrev ahg:AK:=.seq (.aa [k 12 (.c (.str []))] [0,1,9,10,12]) ahp
abbrev ahy:AK:=.seq (.aa [k 6 (.c (.str [])),k 7 (ci 2)] [6,7]) .ret
abbrev ahx:AK:=.seq (.aa [m 33 9,m 34 2,b 35 .gtr 33 34] [0,1,9,10,35]) (.cond (.t 35) ahy .skip)
abbrev ag9:AK:=.seq ahx ahg
abbrev ahA:AK:=.seq (.aa [k 6 (.c (.str [])),k 7 (ci 4)] [6,7]) .ret
abbrev ahz:AK:=.seq (.aa [m 29 8,m 30 0,.v 31 (.len true (.t 30)),b 32 .neq 29 31] [0,1,2,9,10,32]) (.cond (.t 32) ahA .skip)
abbrev ag1:AK:=.seq ahz ag9
abbrev ahC:AK:=.seq (.aa [m 28 11,k 6 (.c (.str [])),m 7 28] [6,7]) .ret
abbrev ahB:AK:=.seq (.aa [m 26 11,bi 27 .neq 26 0] [0,1,2,8,9,10,11,27]) (.cond (.t 27) ahC .skip)
abbrev agU:AK:=.seq ahB ag1
abbrev agN:AK:=.seq (.aa [m 20 1,.aj (some 21) false 197021 44 [(.t 20)],m 19 21,.v 22 (.ext (.t 19) 0),.v 23 (.ext (.t 19) 1),.v 24 (.ext (.t 19) 2),.v 25 (.ext (.t 19) 3),m 8 22,m 9 23,m 10 24,m 11 25] [0,1,2,8,9,10,11]) agU
abbrev agM:AK:=.seq (.aa [k 6 (.c (.str [])),k 7 (ci 0)] [0,1,2]) agN
abbrev A7:AK:=agM
theorem tN (P:Program) (E:Env) (Q:KQ) (st:St) :
 (vcW P E Bd Q st=vcW P E Bf (KQ.seq P E (.bc Be) Q) st) ∧
 (vcW P E A8 Q st=vcW P E Bc (KQ.seq P E (.bc A9) Q) st):=
 ⟨rfl,rfl⟩
theorem ahH:aA Tryz.prog 18 197000 3 A7 [.tmp 6,.tmp 7]:=⟨_,Tryz.func18,by kernel_rfl⟩
theorem ahJ {h a0 a1 a2 Post} (hp:aD Tryz.prog A7 [.tmp 6,.tmp 7] 3 [(0,a0),(1,a1),(2,a2)] h Post):Eng.Spec Tryz.prog 18 h [a0,a1,a2] Post:=aE ahH rfl [(0,a0),(1,a1),(2,a2)] ⟨rfl,rfl,rfl,trivial⟩ hp
abbrev aaG:AK:=.seq (.aa [k 2 (ci 0)] [2]) .ret
abbrev aaN:AK:=.aa [bi 47 .add 8 1,m 8 47] [0,6,7,8]
abbrev aaC:AK:=.seq (.aa [k 2 (ci 10)] [2]) .ret
abbrev aaB:AK:=.seq (.aa [.v 32 (.ai false 2 1 (.t 4)),.v 33 (.ld false 1 (.t 32)),m 34 33,.af 35 34 true true 198035 (.ah (.t 0)),.af 36 34 true true 198036 (.ai false 3 1 (.t 4)),.af 37 34 true true 198037 (.ld false 1 (.t 36)),.af 38 34 true true 198038 (.aO 5 (.t 35) (.t 37)),.af 39 34 true true 198039 (.ai true 0 2 (.t 38)),.af 40 34 true true 198040 (.ai false 0 1 (.t 39)),.af 41 34 true true 198041 (.ld false 1 (.t 40)),.af 42 34 true true 198042 (.ai true 0 2 (.t 4)),.af 43 34 true true 198043 (.ai false 0 1 (.t 42)),.af 44 34 true true 198044 (.ld false 1 (.t 43)),.af 45 34 true false 198045 (.bin .neq (.t 41) (.t 44)),.v 46 (.pick (.t 34) (.t 45) (.c (.bool false)))] [0,6,7,8,46]) (.cond (.t 46) aaC .skip)
abbrev aaE:AK:=.seq (.aa [k 2 (ci 1)] [2]) .ret
abbrev aaD:AK:=.seq (.aa [.v 19 (.ai false 2 1 (.t 4)),.v 20 (.ld false 1 (.t 19)),m 21 20,.af 22 21 true false 198022 (.ai false 3 1 (.t 4)),.af 23 21 true false 198023 (.ld false 1 (.t 22)),.af 24 21 true false 198024 (.bin .lss (.t 23) (ci 0)),.af 25 21 true false 198025 (.ah (.t 24)),.af 26 25 false false 198026 (.ai false 3 1 (.t 4)),.af 27 25 false false 198027 (.ld false 1 (.t 26)),.af 28 25 false false 198028 (.ah (.t 3)),.af 29 25 false false 198029 (.bin .geq (.t 27) (.t 28)),.af 30 21 true false 198030 (.pick (.t 25) (.c (.bool true)) (.t 29)),.v 31 (.pick (.t 21) (.t 30) (.c (.bool false)))] [0,4,6,7,8,31]) (.cond (.t 31) aaE .skip)
abbrev aaA:AK:=.seq aaD aaB
abbrev aaI:AK:=.seq (.aa [m 18 5,m 2 18] [2]) .ret
abbrev aaH:AK:=.seq (.aa [m 16 5,bi 17 .neq 16 0] [0,3,4,5,6,7,8,17]) (.cond (.t 17) aaI .skip)
abbrev aaF:AK:=.seq (.aa [.v 13 (.ai true 0 2 (.t 4)),.v 14 (.ld true 2 (.t 13)),.aj (some 15) false 198015 42 [(.t 14)],m 5 15] [0,3,4,5,6,7,8]) aaH
abbrev aaz:AK:=.seq aaF aaA
abbrev aay:AK:=.seq (.aa [m 10 8,.v 11 (.aO 5 (.t 6) (.t 8)),.v 12 (.ld true 5 (.t 11)),.eff 4 false 198004 (.alloc [.int .i64 0,.str [],.bool false,.int .i64 0,.bool false]),m 3 10,.aH false 198000 (.st 5 (.t 4) (.t 12))] [0,3,4,6,7,8]) aaz
abbrev aaM:AK:=.seq (.block 1 aay) aaN
abbrev aaL:AK:=.seq (.cond (.t 9) .skip (.exit 0)) aaM
abbrev aaK:AK:=.seq (.aa [b 9 .lss 8 7] [0,6,7,8,9]) aaL
abbrev aaO:AK:=.loop aaK
abbrev aaJ:AK:=.seq (.aa [m 6 0,.v 7 (.len false (.t 6)),k 8 (ci 0)] [0,6,7,8]) (.block 0 aaO)
abbrev aax:AK:=.seq aaJ aaG
abbrev aaw:AK:=.seq (.aa [k 2 (ci 0)] [0]) aax
abbrev zD:AK:=aaw
theorem aaP:aA Tryz.prog 16 198000 1 zD [.tmp 2]:=⟨_,Tryz.func16,by kernel_rfl⟩
theorem aaR {h a0 Post} (hp:aD Tryz.prog zD [.tmp 2] 1 [(0,a0)] h Post):Eng.Spec Tryz.prog 16 h [a0] Post:=aE aaP rfl [(0,a0)] ⟨rfl,trivial⟩ hp
abbrev acS:AK:=.seq (.aa [k 2 (.c (.bool true))] [2]) .ret
abbrev acX:AK:=.aa [bi 148 .add 67 1,m 67 148] [0,6,65,66,67]
abbrev ac2:AK:=.seq (.aa [k 2 (.c (.bool false))] [2]) .ret
abbrev ac1:AK:=.seq (.aa [m 139 14,bi 140 .neq 139 0,m 141 140,.af 142 141 false false 199142 (.ah (.t 13)),.af 143 141 false false 199143 (.ai true 0 2 (.t 11)),.af 144 141 false false 199144 (.ai false 1 1 (.t 143)),.af 145 141 false false 199145 (.ld false 1 (.t 144)),.af 146 141 false false 199146 (.bin .neq (.t 142) (.t 145)),.v 147 (.pick (.t 141) (.c (.bool true)) (.t 146))] [0,6,65,66,67,147]) (.cond (.t 147) ac2 .skip)
abbrev AD:AK:=.seq (.aa [u 199127 127 (.ah (.t 0)),u 199128 128 (.ai false 3 1 (.t 11)),u 199129 129 (.ld false 1 (.t 128)),u 199130 130 (.aO 5 (.t 127) (.t 129)),u 199131 131 (.ai true 0 2 (.t 130)),u 199132 132 (.ai false 1 1 (.t 131)),u 199133 133 (.ld false 1 (.t 132)),u 199134 134 (.ai false 3 1 (.t 12)),u 199135 135 (.ld false 1 (.t 134)),.aj (some 136) false 199136 18 [(.t 133),(.t 135),(ci 400)],m 126 136,u 199137 137 (.ext (.t 126) 0),u 199138 138 (.ext (.t 126) 1),u 199013 13 (.ah (.t 137)),m 14 138] [0,6,11,13,14,65,66,67]) ac1
abbrev ac6:AK:=.seq (.aa [k 2 (.c (.bool false))] [2]) .ret
abbrev ac4:AK:=.seq (.aa [.v 94 (.ai false 2 1 (.t 12)),.v 95 (.ld false 1 (.t 94)),.v 96 (.ai true 0 2 (.t 11)),.v 97 (.ai false 0 1 (.t 96)),.v 98 (.ld false 1 (.t 97)),b 99 .neq 95 98,m 100 99,.af 101 100 false false 199101 (.ai false 3 1 (.t 12)),.af 102 100 false false 199102 (.ld false 1 (.t 101)),.af 103 100 false false 199103 (.ai true 0 2 (.t 11)),.af 104 100 false false 199104 (.ai false 1 1 (.t 103)),.af 105 100 false false 199105 (.ld false 1 (.t 104)),.af 106 100 false false 199106 (.bin .neq (.t 102) (.t 105)),.v 107 (.pick (.t 100) (.c (.bool true)) (.t 106))] [0,6,65,66,67,107]) (.cond (.t 107) ac6 .skip)
abbrev ac3:AK:=.seq ac4 (.exit 1)
abbrev ac9:AK:=.seq (.aa [k 2 (.c (.bool false))] [2]) .ret
abbrev ac8:AK:=.seq (.aa [.v 111 (.ai false 2 1 (.t 12)),.v 112 (.ld false 1 (.t 111)),bi 113 .neq 112 7,m 114 113,.af 115 114 false true 199115 (.ai false 5 1 (.t 12)),.af 116 114 false true 199116 (.ld false 1 (.t 115)),.af 117 114 false true 199117 (.ah (.t 0)),.af 118 114 false true 199118 (.ai false 3 1 (.t 11)),.af 119 114 false true 199119 (.ld false 1 (.t 118)),.af 120 114 false true 199120 (.aO 5 (.t 117) (.t 119)),.af 121 114 false true 199121 (.ai true 0 2 (.t 120)),.af 122 114 false true 199122 (.ld true 2 (.t 121)),.iE 123 114 false true 199123 17 [(.t 122)],.af 124 114 false false 199124 (.bin .neq (.t 116) (.t 123)),.v 125 (.pick (.t 114) (.c (.bool true)) (.t 124))] [0,6,11,12,65,66,67,125]) (.cond (.t 125) ac9 .skip)
abbrev adb:AK:=.seq (.aa [k 2 (.c (.bool false))] [2]) .ret
abbrev ada:AK:=.seq (.aa [.v 76 (.ai false 2 1 (.t 12)),.v 77 (.ld false 1 (.t 76)),bi 78 .neq 77 6,m 79 78,.af 80 79 false true 199080 (.ai false 4 1 (.t 12)),.af 81 79 false true 199081 (.ld false 1 (.t 80)),.af 82 79 false true 199082 (.ah (.t 6)),.af 83 79 false true 199083 (.ai false 3 1 (.t 11)),.af 84 79 false true 199084 (.ld false 1 (.t 83)),.af 85 79 false true 199085 (.aO 7 (.t 82) (.t 84)),.af 86 79 false true 199086 (.ai false 0 1 (.t 85)),.af 87 79 false true 199087 (.ld false 1 (.t 86)),.af 88 79 false false 199088 (.bin .neq (.t 81) (.t 87)),.v 89 (.pick (.t 79) (.c (.bool true)) (.t 88))] [0,6,11,12,65,66,67,89]) (.cond (.t 89) adb .skip)
abbrev ac7:AK:=.seq (.aa [.v 109 (.ai false 4 1 (.t 11)),.v 110 (.ld false 1 (.t 109)),m 108 110] [0,6,11,12,65,66,67,108]) (.cond (.t 108) ac8 ada)
abbrev AF:AK:=.seq (.aa [.v 91 (.ai false 2 1 (.t 11)),.v 92 (.ld false 1 (.t 91)),.v 93 (.un .not (.t 92)),m 90 93] [0,6,11,12,65,66,67,90]) (.cond (.t 90) ac3 ac7)
def AB:AK:=.seq (.block 2 AF) (.bc AD)
abbrev acZ:AK:=.seq (.aa [m 72 6,m 73 10,.v 74 (.aO 7 (.t 72) (.t 73)),.v 75 (.ld true 7 (.t 74)),.eff 12 false 199012 (.alloc [.int .i64 0,.int .i64 0,.int .i64 0,.str [],.int .i64 0,.str [],.int .u32 0]),.aH false 199000 (.st 7 (.t 12) (.t 75))] [0,6,11,12,65,66,67]) AB
abbrev acY:AK:=.seq (.aa [m 69 67,.v 70 (.aO 5 (.t 65) (.t 67)),.v 71 (.ld true 5 (.t 70)),.eff 11 false 199011 (.alloc [.int .i64 0,.str [],.bool false,.int .i64 0,.bool false]),m 10 69,.aH false 199000 (.st 5 (.t 11) (.t 71))] [0,6,10,11,65,66,67]) acZ
abbrev acW:AK:=.seq (.block 1 acY) acX
abbrev acV:AK:=.seq (.cond (.t 68) .skip (.exit 0)) acW
abbrev acU:AK:=.seq (.aa [b 68 .lss 67 66] [0,6,65,66,67,68]) acV
abbrev adq:AK:=.loop acU
abbrev acT:AK:=.seq (.aa [m 65 0,.v 66 (.len false (.t 65)),k 67 (ci 0)] [0,6,65,66,67]) (.block 0 adq)
abbrev adp:AK:=.seq acT acS
abbrev adg:AK:=.seq (.aa [k 2 (.c (.bool false))] [2]) .ret
abbrev adf:AK:=.seq (.aa [m 46 7,bi 47 .neq 46 0,m 48 47,.af 49 48 false false 199049 (.ah (.t 9)),.af 50 48 false false 199050 (.bin .neq (.t 49) (ci 0)),.v 51 (.pick (.t 48) (.c (.bool true)) (.t 50)),m 52 51,.af 53 52 false false 199053 (.ah (.t 6)),.af 54 52 false false 199054 (.ah (.t 8)),.iE 55 52 false false 199055 13 [(.t 53),(.t 54)],.af 56 52 false false 199056 (.un .not (.t 55)),.v 57 (.pick (.t 52) (.c (.bool true)) (.t 56)),m 58 57,.af 59 58 false false 199059 (.ah (.t 6)),.af 60 58 false false 199060 (.len false (.t 59)),.af 61 58 false false 199061 (.ah (.t 0)),.af 62 58 false false 199062 (.len false (.t 61)),.af 63 58 false false 199063 (.bin .neq (.t 60) (.t 62)),.v 64 (.pick (.t 58) (.c (.bool true)) (.t 63))] [0,6,64]) (.cond (.t 64) adg .skip)
abbrev ado:AK:=.seq adf adp
abbrev adn:AK:=.seq (.aa [m 42 3,.aj (some 43) false 199043 11 [(.t 42)],m 41 43,.v 44 (.ext (.t 41) 0),.v 45 (.ext (.t 41) 1),m 8 44,m 9 45] [0,6,7,8,9]) ado
abbrev adm:AK:=.seq (.aa [m 37 3,.aj (some 38) false 199038 10 [(.t 37)],m 36 38,.v 39 (.ext (.t 36) 0),.v 40 (.ext (.t 36) 1),m 6 39,m 7 40] [0,3,6,7]) adn
abbrev adi:AK:=.seq (.aa [m 34 3,.v 35 (.bin .eql (.t 34) (.c (.str []))),m 2 35] [2]) .ret
abbrev adh:AK:=.seq (.aa [m 32 5,bi 33 .neq 32 0] [0,3,33]) (.cond (.t 33) adi .skip)
abbrev adl:AK:=.seq adh adm
abbrev adk:AK:=.seq (.aa [k 2 (.c (.bool false))] [2]) .ret
abbrev adj:AK:=.seq (.aa [.aj (some 25) false 199025 12 [],.v 26 (.un .not (.t 25)),m 27 26,.af 28 27 false false 199028 (.ah (.t 4)),.af 29 27 false false 199029 (.ah (.t 5)),.af 30 27 false false 199030 (.bin .neq (.t 28) (.t 29)),.v 31 (.pick (.t 27) (.c (.bool true)) (.t 30))] [0,3,5,31]) (.cond (.t 31) adk .skip)
abbrev ade:AK:=.seq adj adl
abbrev ac5:AK:=.seq (.aa [m 23 0,.aj (some 24) false 199024 16 [(.t 23)],m 5 24] [0,3,4,5]) ade
abbrev ac0:AK:=.seq (.aa [m 18 0,.aj (some 19) false 199019 14 [(.t 18),(ci 20)],.aj (some 20) false 199020 15 [(.t 19)],m 17 20,.v 21 (.ext (.t 17) 0),.v 22 (.ext (.t 17) 1),m 3 21,m 4 22] [0,3,4]) ac5
abbrev acR:AK:=.seq (.aa [m 15 0,.aj (some 16) false 199016 14 [(.t 15),(ci 20)],m 0 16] [0]) ac0
abbrev acQ:AK:=.seq (.aa [k 2 (.c (.bool false))] [0]) acR
abbrev AA:AK:=acQ
theorem tJ (P:Program) (E:Env) (Q:KQ) (st:St) :
 (vcW P E AB Q st=vcW P E (.block 2 AF) (KQ.seq P E (.bc AD) Q) st):=
 rfl
theorem adr:aA Tryz.prog 4 199000 1 AA [.tmp 2]:=⟨_,Tryz.func4,by kernel_rfl⟩
theorem adt {h a0 Post} (hp:aD Tryz.prog AA [.tmp 2] 1 [(0,a0)] h Post):Eng.Spec Tryz.prog 4 h [a0] Post:=aE adr rfl [(0,a0)] ⟨rfl,trivial⟩ hp
end Go.Proofs.YtjoefngnjoofeaaGreatDoor.Cod
