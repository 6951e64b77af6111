/- The proof, part 21 of 43. -/
import Derived.Test.YtoalcafkffmiiaaGreatDoorOdbGetsK
import Derived.Test.YtoalcafkffmiiaaGreatDoorOdbGetsT
import Derived.Test.YtoalcafkffmiiaaGreatDoorProg
import Derived.KernelRfl
set_option linter.all false
namespace Go.Proofs.YtoalcafkffmiiaaGreatDoor.Cod
open Eng Eng.Kz
set_option maxRecDepth 100000
abbrev YC:=Kf.s2 101 Tryz.func208
abbrev ab6:=Kf.s1 102 Tryz.func207
abbrev aas:=Kf.s0 103 Tryz.func168
abbrev pT:AK:=pk (x:=Kc.code Tryz.prog Tryz.f169 104 [] (Kc.lr 4 [])) _
abbrev JG:AK:=pk (x:=pT.y.y.y.x.y.x.x.y.y.y) _
abbrev JH:AK:=pk (x:=pT.y.y.y.x.y.x.x.y.y.x.x.y.y.y) _
abbrev JI:AK:=pk (x:=pT.y.y.y.y) _
theorem JK:jA Tryz.prog 169 104000 2 pT []:=⟨_,Tryz.func169,by kernel_rfl⟩
theorem JM {h a0 a1 g0 g1 Post} (hp:jB Tryz.prog pT [] 4 [(0,a0),(1,a1),(2000000,a0),(2000001,a1),(2000002,g0),(2000003,g1)] h Post):Eng.jm Tryz.prog 169 2 h [a0,a1,g0,g1] Post:=Z7 JK (adW rfl) [(0,a0),(1,a1),(2000000,a0),(2000001,a1),(2000002,g0),(2000003,g1)] ⟨rfl,rfl,rfl,rfl,rfl,rfl,trivial⟩ hp
abbrev Ph:AK:=pk (x:=Kc.code Tryz.prog Tryz.f167 105 [] (Kc.lr 4 [])) _
abbrev Pj:AK:=pk (x:=Ph.y) _
abbrev C0:=Kf.k4 105 Tryz.func167
abbrev Pg:=Kf.k3 106 Tryz.func170
abbrev OW:=Kf.k2 107 Tryz.func118
abbrev OU:=Kf.k1 108 Tryz.func119
abbrev aaN:=Kf.s1 109 Tryz.func74
abbrev O5:=Kf.s1 110 Tryz.func37
abbrev YX:=Kf.s2 111 Tryz.func90
abbrev YI:=Kf.s1 112 Tryz.func88
abbrev Y9:=Kf.s1 113 Tryz.func89
abbrev YE:=Kf.s1 114 Tryz.func91
abbrev qU:AK:=pk (x:=Kc.code Tryz.prog Tryz.f48 115 [] (Kc.lr 0 [.tmp 2])) _
abbrev YN:AK:=pk (x:=qU.y.y.y.x.y.x.x.y.x.x.y.y.y.y) _
abbrev YO:AK:=pk (x:=qU.y.y.y.x.y.x.x.y.x.x.y.y.y.x.y.x.x.y.y) _
abbrev YP:AK:=pk (x:=qU.y.y.y.x.y.x.x.y.x.x.y.y.y.x.y.x.x.y.x.x.y.y.y.y) _
abbrev YQ:AK:=pk (x:=qU.y.y.y.y) _
abbrev YR:AK:=pk (x:=qU.y.y.y.x.y.x.x.y.y) _
abbrev YS:=Kf.s1 115 Tryz.func48
abbrev Yl:=Kf.s1 116 Tryz.func47
end Go.Proofs.YtoalcafkffmiiaaGreatDoor.Cod
namespace Go.Proofs.YtoalcafkffmiiaaGreatDoor.Sh
open Eng
set_option maxRecDepth 10000
theorem rQ {k:Nat} (hk:k<32):bits .and .u64 (k:Int) 31=k:=by
 show IntKind.u64.wrap ((BitVec.ofInt 64 (k:Int) &&& BitVec.ofInt 64 31).toNat:Int)=_
 rw[ac2,ad1,ac1,acY acN,show(BitVec.ofInt 64 31).toNat=2^5-1 by decide,Nat.and_two_pow_sub_one_of_lt_two_pow acN];exact wrap_u64 acN
theorem FB (x:W) {k:Nat} (hk:k<32):bits .or .u32 (IntKind.u32.wrap (↑(BitVec.toNat x)*2^k)) ((↑(BitVec.toNat x):Int).fdiv (2^(32-k)))=(x.rotateLeft k).toNat:=by
 rw[nW,va,fG,BitVec.rotateLeft_def,acY hk]
theorem yM (x:W) (k:Nat) (hk:k<32):ao Tryz.prog 208 [.int .u32 x.toNat,.int .i64 k] (.int .u32 (x.rotateLeft k).toNat):=by
 refine Cod.YC (λE R hN hR=>?_);have h1:=rQ hk;refine ab h1 ?_;refine hR.ro ⟨rfl,?_⟩;rw[show min k 32=k by omega,show min ((32:Int)-k).toNat 32=32-k by omega,FB x hk]
theorem A1 (p:Bs) (i:Nat):((p.getD i 0).toNat:Int)=((gn p i).toNat:Int):=by
 rw[gn,ac1,acY];have:=(p.getD i 0).toNat_lt;omega
theorem ab5 (p:Bs) (hp:4<=p.length):ao Tryz.prog 207 [.str p] (.int .u32 (lX p 0).toNat):=by
 refine Cod.ab6 (λE R hN hR=>?_);refine aE @A1 pE ?_;refine hR.ro ⟨rfl,?_⟩;rw[show min 24 32=24 by rfl,show min 16 32=16 by rfl,show min 8 32=8 by rfl,nW,nW,nW,fG,fG,fG];rfl
theorem z80:(List.replicate 80 0#32).map u32=[.int .u32 0,.int .u32 0,.int .u32 0,.int .u32 0,.int .u32 0,.int .u32 0,.int .u32 0,.int .u32 0,.int .u32 0,.int .u32 0,.int .u32 0,.int .u32 0,.int .u32 0,.int .u32 0,.int .u32 0,.int .u32 0,.int .u32 0,.int .u32 0,.int .u32 0,.int .u32 0,.int .u32 0,.int .u32 0,.int .u32 0,.int .u32 0,.int .u32 0,.int .u32 0,.int .u32 0,.int .u32 0,.int .u32 0,.int .u32 0,.int .u32 0,.int .u32 0,.int .u32 0,.int .u32 0,.int .u32 0,.int .u32 0,.int .u32 0,.int .u32 0,.int .u32 0,.int .u32 0,.int .u32 0,.int .u32 0,.int .u32 0,.int .u32 0,.int .u32 0,.int .u32 0,.int .u32 0,.int .u32 0,.int .u32 0,.int .u32 0,.int .u32 0,.int .u32 0,.int .u32 0,.int .u32 0,.int .u32 0,.int .u32 0,.int .u32 0,.int .u32 0,.int .u32 0,.int .u32 0,.int .u32 0,.int .u32 0,.int .u32 0,.int .u32 0,.int .u32 0,.int .u32 0,.int .u32 0,.int .u32 0,.int .u32 0,.int .u32 0,.int .u32 0,.int .u32 0,.int .u32 0,.int .u32 0,.int .u32 0,.int .u32 0,.int .u32 0,.int .u32 0,.int .u32 0,.int .u32 0]:=by rfl
theorem o4 (x:AV) (r:List AV):nth (x::r) 0=x:=(rfl)
theorem o6 (x:AV) (r:List AV) (k:Nat):nth (x::r) (k+1)=nth r k:=by simp[nth]
theorem ta {xs:List W} {i:Nat} (h:i<xs.length):(xs.map u32).getD i .undef=.int .u32 (xs.getD i 0#32).toNat:=by
 simp[acO,h,u32]
theorem Mj {xs:List W} {i:Nat} (h:i<xs.length):((xs.map u32).drop i).getD 0 .undef=.int .u32 (xs.getD i 0#32).toNat:=by
 simp[acO,h,u32]
theorem FZ {xs:List W} {i:Nat} {y:W} (h:i<xs.length):(xs.map u32).take i++[.int .u32 y.toNat]++(xs.map u32).drop (i+1)=(xs.set i y).map u32:=by
 rw[<-rC,<-List.map_take,<-List.map_drop,aep,if_pos h];simp
abbrev hW (h:H5):List AV:=[.int .u32 h.a.toNat,.int .u32 h.b.toNat,.int .u32 h.c.toNat,.int .u32 h.d.toNat,.int .u32 h.e.toNat]
abbrev dK (h:H5) (r:Bs) (n:Int):HP:=[(105900,.var [.sl 105015 0 5,.str r,.int .u64 n]),(105015,.arr 1 (hW h))]
theorem ab4 (p:Bs) (k:Nat):lX (p.drop k) 0=lX p k:=by
 simp[lX,gn,acO,List.getElem?_drop]
theorem JL (h:H5) (p r:Bs) (n:Int) (hp:p.length=64):jm Tryz.prog 169 2 (dK h r n) [.sl 105015 0 5,.str p,.aa 105900 0,.aa 105900 0]
    (λh' v ar=>h'=dK (c8 h p) r n/\v=.af []/\ar=[.sl 105015 0 5,.str p,.aa 105900 0,.aa 105900 0]):=by
 refine Cod.JM (λE R hN hR=>?_);simp(disch:=first | omega | (simp only[Lx];omega))only[go_sem,simprocAttr,dK,hW]
 refine aD hN (λi:Nat=>⟨[(0,.sl 105015 0 5),(1,.str p),(4,.aa 104004 0),(15,.int .i64 i),(2000000,.sl 105015 0 5),(2000001,.str p),(2000002,.aa 105900 0),(2000003,.aa 105900 0)],
  [(104004,.var ((sched p i).map u32)),(105900,.var [.sl 105015 0 5,.str r,.int .u64 n]),(105015,.arr 1 (hW h))]⟩) (λi=>i<=80) (λi=>80-i) 0 (.le (by simp(disch:=first | omega | (simp only[Lx];omega))only[go_sem,simprocAttr,FX,z80];and_intros<;>rfl)) acN ?_
 rintro i R1 hi hR1;have hsl:=my p i;by_cases hlt:i<80
 ·have hss:=qW p i;generalize hw:sched p i=w at *
  by_cases h16:i<16
  ·have hstep:kp p w i=w.set i (lX p (4*i)):=by unfold kp;rw[if_pos h16]
   rw[hstep]at hss;have hw2:=ab5 (p.drop (4*i)) (by rw[acU];omega);rw[ab4]at hw2;have e1:(4*(i:Int)).toNat=4*i:=acN;refine ab e1 ?_;refine ah hw2 rfl rfl ?_;refine aE @FZ @adK ?_;exact hR1 (i+1) _ acN acN (.le (cn hss))
  ·have hstep:kp p w i=w.set i ((w.getD (i-3) 0#32 ^^^ w.getD (i-8) 0#32 ^^^ w.getD (i-14) 0#32 ^^^ w.getD (i-16) 0#32).rotateLeft 1):=by unfold kp;rw[if_neg h16]
   rw[hstep]at hss;have hr:=yM (w.getD (i-3) 0#32 ^^^ w.getD (i-8) 0#32 ^^^ w.getD (i-14) 0#32 ^^^ w.getD (i-16) 0#32) 1 acN;have e3:((i:Int)-3).toNat=i-3:=acN;have e8:((i:Int)-8).toNat=i-8:=acN;have e14:((i:Int)-14).toNat=i-14:=acN;have e16:((i:Int)-16).toNat=i-16:=acN;simp(disch:=first | omega | (simp only[Lx];omega))only[go_sem,simprocAttr,e3,e8,e14,e16,adK,Mj,eF]
   refine ah hr rfl rfl ?_;refine aE @FZ @adK ?_;exact hR1 (i+1) _ acN acN (.le (cn hss))
 ·obtain rfl:i=80:=acN;refine aE @o4 @o6 ?_;generalize hw:sched p 80=w at *
  refine aD hN (λi:Nat=>⟨[(0,.sl 105015 0 5),(6,.int .u32 (rounds w h i).a.toNat),(7,.int .u32 (rounds w h i).b.toNat),(8,.int .u32 (rounds w h i).c.toNat),(9,.int .u32 (rounds w h i).d.toNat),(10,.int .u32 (rounds w h i).e.toNat),
   (65,.agg (w.map u32)),(66,.int .i64 i),(2000000,.sl 105015 0 5),(2000001,.str p),(2000002,.aa 105900 0),(2000003,.aa 105900 0)],
   [(105900,.var [.sl 105015 0 5,.str r,.int .u64 n]),(105015,.arr 1 (hW h))]⟩) (λi=>i<=80) (λi=>80-i) 0 (.le (cn @FC)) acN ?_
  rintro i R2 hi hR2;by_cases hlt:i<80
  ·have hrs:=rounds_succ w h i;generalize hx:rounds w h i=x at *
   have hst:nK w x i=⟨x.a.rotateLeft 5+ju i x.b x.c x.d+x.e+jv i+w.getD i 0#32,x.a,x.b.rotateLeft 30,x.c,x.d⟩:=rfl
   have rest:∀(f:W) (k:Int),f=ju i x.b x.c x.d->k=((jv i).toNat:Int)->vcW Tryz.prog E Cod.JH (KQ.c8 3 (KQ.seq Tryz.prog E Cod.JG (KQ.gb R2 (KQ.c8 2 (KQ.seq Tryz.prog E Cod.JI (KQ.post [] 4 R))))))
       ⟨[(0,.sl 105015 0 5),(6,.int .u32 x.a.toNat),(7,.int .u32 x.b.toNat),(8,.int .u32 x.c.toNat),(9,.int .u32 x.d.toNat),(10,.int .u32 x.e.toNat),(12,.int .u32 (w.getD i 0#32).toNat),(13,.int .u32 f.toNat),(14,.int .u32 k),
        (65,.agg (w.map u32)),(66,.int .i64 i),(2000000,.sl 105015 0 5),(2000001,.str p),(2000002,.aa 105900 0),(2000003,.aa 105900 0)],[(105900,.var [.sl 105015 0 5,.str r,.int .u64 n]),(105015,.arr 1 (hW h))]⟩:=by
    intro f k hf hk;subst hk;have r5:=yM x.a 5 acN;have r30:=yM x.b 30 acN;refine wW ?_;refine ah r5 rfl rfl ?_;refine ab rG ?_;refine ah r30 rfl rfl ?_;refine wW ?_;refine hR2 (i+1) _ acN acN (.le ?_);rw[hrs,hst,<-hf];exact vV
   have hd:(i:Int).tdiv 20=((i/20:Nat):Int):=rfl;have hnot:bits .xor .u32 (if IntKind.u32.signed=true then -1 else IntKind.u32.max) (x.b.toNat:Int)=(~~~x.b).toNat:=G6 x.b
   by_cases h20:i<20
   ·have hq:i/20=0:=acN;rw[hq]at hd;simp(disch:=first | omega | (simp only[Lx];omega))only[go_sem,simprocAttr,hd,ta,eF,fQ,fG,hnot,Eng.jn]
    refine dY hN (rest _ 1518500249 ?_ ?_)
    ·unfold ju;rw[if_pos h20]
    ·unfold jv;rw[if_pos h20];decide
   ·by_cases h40:i<40
    ·have hq:i/20=1:=acN;rw[hq]at hd;simp(disch:=first | omega | (simp only[Lx];omega))only[go_sem,simprocAttr,hd,ta,eF,fQ,fG,hnot,Eng.jn]
     refine dY hN (rest _ 1859775393 ?_ ?_)
     ·unfold ju;rw[if_neg h20,if_pos h40]
     ·unfold jv;rw[if_neg h20,if_pos h40];decide
    ·by_cases h60:i<60
     ·have hq:i/20=2:=acN;rw[hq]at hd;simp(disch:=first | omega | (simp only[Lx];omega))only[go_sem,simprocAttr,hd,ta,eF,fQ,fG,hnot,Eng.jn]
      refine dY hN (rest _ 2400959708 ?_ ?_)
      ·unfold ju;rw[if_neg h20,if_neg h40,if_pos h60]
      ·unfold jv;rw[if_neg h20,if_neg h40,if_pos h60];decide
     ·have hq:i/20=3:=acN;rw[hq]at hd;simp(disch:=first | omega | (simp only[Lx];omega))only[go_sem,simprocAttr,hd,ta,eF,fQ,fG,hnot,Eng.jn]
      refine nU hN _ (.le ?_) (rest (x.b ^^^ x.c ^^^ x.d) 3395469782 ?_ ?_);exact vV
      ·unfold ju;rw[if_neg h20,if_neg h40,if_neg h60]
      ·unfold jv;rw[if_neg h20,if_neg h40,if_neg h60];decide
  ·obtain rfl:i=80:=acN;generalize hx:rounds w h 80=x at *
   simp(disch:=first | omega | (simp only[Lx];omega))only[go_sem,simprocAttr,o4,o6,rG,hW]
   exact hR.le (h':=dK (h.add x) r n) (by simp(disch:=first | omega | (simp only[Lx];omega))only[go_sem,simprocAttr,H5.add]) ⟨by rw[c8,hw,hx],rfl,rfl⟩
open Eng
set_option maxRecDepth 10000
abbrev FN:AV:=.lit (.func (.func 169) #[] #[])
theorem JJ:callable Tryz.prog 169=true:=by kernel_rfl
theorem G9 (h:H5) (r t:Bs) (n:Nat) (ht:r.length+t.length<=9223372036854775807) (hn:n+t.length<=9223372036854775807) {E:Env} {R:HP->AV->List AV->Prop} (hN:E.N<=1000000)
    (hR:c7 (λh' v ar=>h'=dK (blks ((r++t).length/64) h (r++t)) ((r++t).drop (64*((r++t).length/64))) ((n:Int)+t.length)/\v=.af []/\ar=[.aa 105900 0,.str t,.undef,FN]) R) :
    vcW Tryz.prog E Cod.Pj (KQ.post [] 4 R) ⟨[(0,.aa 105900 0),(1,.str t),(3,FN),(2000000,.aa 105900 0),(2000001,.str t),(2000003,FN)],dK h r n⟩:=by
 have en:IntKind.u64.wrap ((n:Int)+(t.length:Int))=(n:Int)+t.length:=wrap_u64 acN;simp(disch:=first | omega | (simp only[Lx];omega))only[go_sem,simprocAttr,dK,hW,en]
 have hl:(r++t).length<=9223372036854775807:=by simp;omega
 generalize hs:r++t=s at *
 refine aD hN (λj:Nat=>⟨[(0,.aa 105900 0),(1,.str (s.drop (64*j))),(3,FN),(2000000,.aa 105900 0),(2000001,.str t),(2000003,FN)],dK (blks j h s) r ((n:Int)+t.length)⟩) (λj=>64*j<=s.length) (λj=>s.length-64*j) 0 (.le (by simp(disch:=first | omega | (simp only[Lx];omega))only[go_sem,simprocAttr,dK,hW,blks])) acN ?_
 rintro j R1 hj hR1;by_cases hlt:64<=(s.drop (64*j)).length
 ·have hlt':=hlt;rw[acU]at hlt';have hbo:=AG j h s;generalize hH:blks j h s=H at *
  generalize hu:s.drop (64*j)=u at *
  have hb:=JL H (u.take 64) r ((n:Int)+t.length) (by rw[acS];omega);simp(disch:=first | omega | (simp only[Lx];omega))only[go_sem,simprocAttr,dK,hW]
  refine wA JJ (sk (n:=2) [0,2000000] vV vV rfl hb ?_);rintro h' v as' ⟨rfl,rfl,rfl⟩;simp(disch:=first | omega | (simp only[Lx];omega))only[go_sem,simprocAttr,dK,hW]
  refine hR1 (j+1) _ acN acN (.le ?_);have hd:s.drop (64*(j+1))=u.drop 64:=by rw[<-hu,ad6];rfl
  rw[hbo,hd];simp(disch:=first | omega | (simp only[Lx];omega))only[go_sem,simprocAttr,dK,hW]
 ·have hq:j=s.length/64:=by rw[acU]at hlt;omega
  simp(disch:=first | omega | (simp only[Lx];omega))only[go_sem,simprocAttr,dK,hW]
  refine hR.le ?_ ⟨rfl,rfl,rfl⟩;rw[<-hq];simp(disch:=first | omega | (simp only[Lx];omega))only[go_sem,simprocAttr,dK,hW]
theorem acf (t:Bs) (ht:t.length<=9223372036854775807):Eng.Spec Tryz.prog 167 [(105900,.var [.al,.str [],.int .u64 0])] [.aa 105900 0,.str t,.ro 1 (hW start),FN]
    (λh' v ar=>h'=dK (blks (t.length/64) start t) (t.drop (64*(t.length/64))) t.length/\v=.af []/\ar=[.aa 105900 0,.str t,.undef,FN]):=by
 refine Cod.C0 (λE R hN hR=>?_);simp(disch:=omega)only[go_sem,simprocAttr,Eng.jn,hW];refine nU hN _ (.le (by simp(disch:=omega)only[go_sem,simprocAttr,dK,hW])) (G9 start [] t 0 (by simpa using ht) acN hN ?_);intro h' v ar h2 v2 ar2 e1 e2 e3;refine hR h' v ar h2 v2 ar2 e1 e2 ?_;simpa using e3
theorem acg (h:H5) (r t:Bs) (n:Nat) (hr:r.length+t.length<=9223372036854775807) (hn:n+t.length<=9223372036854775807):Eng.Spec Tryz.prog 167 (dK h r n) [.aa 105900 0,.str t,.ro 1 (hW start),FN]
    (λh' v ar=>h'=dK (blks ((r++t).length/64) h (r++t)) ((r++t).drop (64*((r++t).length/64))) ((n:Int)+t.length)/\v=.af []/\ar=[.aa 105900 0,.str t,.undef,FN]):=by
 refine Cod.C0 (λE R hN hR=>?_);simp(disch:=omega)only[go_sem,simprocAttr,Eng.jn,hW];refine nU hN _ (.le (by simp(disch:=omega)only[go_sem,simprocAttr,dK,hW])) (G9 h r t n hr hn hN hR)
theorem b8 (m:Nat):IntKind.u8.wrap (m:Int)=((UInt8.ofNat m).toNat:Int):=by
 show(m:Int)%256=_
 rw[aeb];omega
theorem lQ (m k:Nat):(m:Int).fdiv (2^k)=((m >>> k:Nat):Int):=by
 rw[aet,adv _ (aeW (by decide)),aeZ,aeL];rfl
theorem Aa {xs:Bs} {b:UInt8}:xs.map ub++[.int .u8 b.toNat]=(xs++[b]).map ub:=by simp[ub]
theorem Dz (n:Nat) {k:Nat} (hk:k<8):(bh n).getD k 0=UInt8.ofNat ((8*n) >>> (56-8*k)):=by
 have:k=0\/k=1\/k=2\/k=3\/k=4\/k=5\/k=6\/k=7:=acN;rcases this with rfl | rfl | rfl | rfl | rfl | rfl | rfl | rfl<;>rfl
theorem mE (xs:Bs) {k:Nat} (hk:k<xs.length):xs.take (k+1)=xs.take k++[xs.getD k 0]:=by
 rw[ae5,List.getElem?_eq_getElem hk];simp[acO,hk]
theorem yf:∀l:List W,(eL l).length=4*l.length
 | []=>rfl
 | x::l=>by
  rw[show eL (x::l)=mI x++eL l from rfl,acQ,yf l];simp[mI];omega
abbrev nQ (h:H5) (r:Bs) (n:Int):HP:=[(106900,.var [.sl 106901 0 5,.str r,.int .u64 n]),(106901,.arr 1 (hW h))]
abbrev BW (h:H5) (r:Bs) (n:Int):HP:=[(106007,.var [.sl 106018 0 5,.str r,.int .u64 n]),(106018,.arr 1 (hW h))]
theorem Pf (h:H5) (r:Bs) (n:Nat) (hr:r.length=n%64) (hn:n<=1000000):Eng.Spec Tryz.prog 170 (nQ h r n) [.aa 106900 0,.ro 1 (hW start),FN]
    (λh' v ar=>h'=[]/\v=.str (eL (blks ((r.length+(cZ n).length)/64) h (r++cZ n)).l)/\ar=[.undef,.undef,.undef]):=by
 refine Cod.Pg (λE R hN hR=>?_);simp(disch:=first | omega | (simp only[Lx];omega))only[go_sem,simprocAttr,Eng.jn,hW]
 refine and_self_iff.2 (dY hN ?_);simp(disch:=first | omega | (simp only[Lx];omega))only[go_sem,simprocAttr,Eng.jn,hW]
 refine dY hN ?_;refine wW ?_
 have hpad:∀k,k<cX n->((r.length:Int)+((k:Int)+1))%64≠56:=by
  intro k hk;unfold cX at hk;omega
 have hpe:((r.length:Int)+((cX n:Nat)+1:Int))%64=56:=by
  unfold cX;omega
 have hpk:cX n<64:=by unfold cX;omega
 refine aD hN (λk:Nat=>⟨[(0,.aa 106900 0),(1,.ro 1 (hW start)),(2,FN),(7,.aa 106007 0),(8,.str (128::List.replicate k 0))],nQ h r n++BW h r n⟩) (λk=>k<=cX n) (λk=>cX n-k) 0 (.le (by simp(disch:=first | omega | (simp only[Lx];omega))only[go_sem,simprocAttr,hW,afk])) acN ?_
 rintro k R1 hk hR1;by_cases hlt:k<cX n
 ·have hc:=hpad k hlt;have hrep:(128:UInt8)::(List.replicate k 0++[0])=128::List.replicate (k+1) 0:=by rw[aeV]
  simp(disch:=first | omega | (simp only[Lx];omega))only[go_sem,simprocAttr,hW,adh,hc]
  refine hR1 (k+1) _ acN acN (.le ?_);simp(disch:=first | omega | (simp only[Lx];omega))only[go_sem,simprocAttr,hW,hrep]
 obtain rfl:k=cX n:=acN;simp(disch:=first | omega | (simp only[Lx];omega))only[go_sem,simprocAttr,hW,adh,hpe]
 refine aD hN (λk:Nat=>⟨[(0,.aa 106900 0),(1,.ro 1 (hW start)),(2,FN),(7,.aa 106007 0),(8,.str (128::List.replicate (cX n) 0)),(9,.sl 106060 0 k),(10,.int .i64 (56-8*(k:Int)))],nQ h r n++BW h r n++[(106060,.arr 1 (((bh n).take k).map ub))]⟩)
  (λk=>k<=8) (λk=>8-k) 0 (.nil 9 106060 1 rfl (.le (by simp(disch:=first | omega | (simp only[Lx];omega))only[go_sem,simprocAttr,hW]))) acN ?_
 rintro k R2 hk hR2;by_cases hlt:k<8
 ·have htk:=mE (bh n) (k:=k) hlt;rw[Dz n hlt]at htk;have e1:min ((56:Int)-8*k).toNat 64=56-8*k:=acN;have e2:(n:Int)*8=((8*n:Nat):Int):=acN;have e3:IntKind.u64.wrap ((n:Int)*8)=((8*n:Nat):Int):=by rw[e2];exact wrap_u64 acN
  have hll:((bh n).take k).length=k:=by rw[acS];simp[bh];omega
  have e4:(56:Int)-8*k-8=56-8*((k+1:Nat):Int):=acN;simp(disch:=first | omega | (simp only[Lx];omega))only[go_sem,simprocAttr,hW,e1,e3]
  refine hR2 (k+1) _ acN acN (.le ?_);rw[htk,e4];simp(disch:=first | omega | (simp only[Lx];omega))only[go_sem,simprocAttr,hW,lQ,b8,Aa]
 obtain rfl:k=8:=acN;have htl:(128:UInt8)::(List.replicate (cX n) 0++List.take 8 (bh n))=cZ n:=rfl;have htlen:(cZ n).length=9+cX n:=by simp[cZ,bh];omega
 simp(disch:=first | omega | (simp only[Lx];omega))only[go_sem,simprocAttr,hW,htl]
 refine ln ⟨[(7,.aa 105900 0),(64,.str (cZ n)),(65,.ro 1 (hW start)),(66,FN)],dK h r n⟩ (.jx 106007 105900 rfl rfl (.jx 106018 105015 rfl rfl (.le (by simp(disch:=first | omega | (simp only[Lx];omega))only[go_sem,simprocAttr,hW])))) rfl ?_
 refine aI (dK h r n) (acg h r (cZ n) n acN acN) vV nofun ?_;rintro h' v as' ⟨rfl,rfl,rfl⟩;rw[acQ];generalize hH:blks ((r.length+(cZ n).length)/64) h (r++cZ n)=H at *
 have hll:H.l.length=5:=rfl;have hHl:hW H=H.l.map u32:=rfl;generalize H.l=l at *
 refine⟨rfl,rfl,?_⟩;rw[show dK H=λr n=>[(105900,.var [.sl 105015 0 5,.str r,.int .u64 n]),(105015,.arr 1 (hW H))]from rfl,hHl];refine wW ?_
 refine aD hN (λk:Nat=>⟨[(11,.sl 106088 0 (4*k)),(69,.sl 105015 0 5),(70,.int .i64 5),(71,.int .i64 k)],[(105015,.arr 1 (l.map u32)),(106088,.arr 1 ((eL (l.take k)).map ub))]⟩)
  (λk=>k<=5) (λk=>5-k) 0 (.nil 11 106088 1 rfl (.le (by simp(disch:=first | omega | (simp only[Lx];omega))only[go_sem,simprocAttr];rfl))) acN ?_
 rintro k R3 hk hR3
 have hol:(eL (l.take k)).length=4*k:=by
  rw[yf,acS];omega
 by_cases hlt:k<5
 ·have htk:eL (l.take (k+1))=eL (l.take k)++mI (l.getD k 0#32):=by
   rw[ae5,List.getElem?_eq_getElem acN,eL,eL,afl];simp[acO,hll,hlt]
  have f24:∀x:Nat,(x:Int).fdiv (2^min 24 32)=((x >>> 24:Nat):Int):=λx=>lQ x 24;have f16:∀x:Nat,(x:Int).fdiv (2^min 16 32)=((x >>> 16:Nat):Int):=λx=>lQ x 16;have f8:∀x:Nat,(x:Int).fdiv (2^min 8 32)=((x >>> 8:Nat):Int):=λx=>lQ x 8;refine lg @tU @rC f24 f16 f8 b8 ?_;refine hR3 (k+1) _ acN acN (.le ?_);rw[htk];simp(disch:=first | omega | (simp only[Lx];omega))only[go_sem,simprocAttr,mI]
  rw[adr];rfl
 ·obtain rfl:k=5:=acN;rw[acP acN]at hol |-;refine wW ?_;exact hR.wk (h':=[]) (r':=.str (eL l)) (ar':=[.undef,.undef,.undef]) rfl (.le vV) ⟨rfl,rfl,rfl⟩
theorem Gj:Eng.Spec Tryz.prog 168 [] [] (λh' v _=>h'=[(103001,.arr 1 (hW start))]/\v=.sl 103001 0 5):=by
 refine Cod.aas (λE R hN hR=>?_);refine wW ?_;exact hR.le (h':=[(103001,.arr 1 (hW start))]) (by simp(disch:=omega)only[go_sem,simprocAttr];decide) ⟨rfl,rfl⟩
theorem OV (t:Bs) (ht:t.length<=9223372036854775807):Eng.Spec Tryz.prog 118 [(105900,.var [.al,.str [],.int .u64 0])] [.aa 105900 0,.str t]
    (λh' v ar=>h'=dK (blks (t.length/64) start t) (t.drop (64*(t.length/64))) t.length/\v=.af []/\ar=[.aa 105900 0,.str t]):=by
 refine Cod.OW (λE R hN hR=>?_);refine wW ?_;refine aI [] Gj trivial (λ_=>rfl) ?_;rintro h' v as' ⟨rfl,rfl⟩;refine⟨rfl,rfl,?_⟩;refine wW ?_;refine pX [(105900,.var [.al,.str [],.int .u64 0])] (bs:=[.aa 105900 0,.str t,.ro 1 (hW start),FN]) (by simp(disch:=omega)only[go_sem,simprocAttr,hW]) (acf t ht) vV nofun ?_;rintro h' v as' ⟨rfl,rfl,rfl⟩;refine⟨by simp(disch:=omega)only[go_sem,simprocAttr,dK,hW],rfl,?_⟩;refine wW ?_;exact hR.le (by simp(disch:=omega)only[go_sem,simprocAttr,dK,hW]) ⟨rfl,rfl,rfl⟩
theorem OT (h:H5) (r:Bs) (n:Nat) (hr:r.length=n%64) (hn:n<=1000000):Eng.Spec Tryz.prog 119 (nQ h r n) [.aa 106900 0]
    (λh' v ar=>h'=[]/\v=.str (eL (blks ((r.length+(cZ n).length)/64) h (r++cZ n)).l)/\ar=[.undef]):=by
 refine Cod.OU (λE R hN hR=>?_);refine wW ?_;refine aI [] Gj trivial (λ_=>rfl) ?_;rintro h' v as' ⟨rfl,rfl⟩;refine⟨rfl,rfl,?_⟩;refine wW ?_;refine pX (nQ h r n) (bs:=[.aa 106900 0,.ro 1 (hW start),FN]) (by simp(disch:=omega)only[go_sem,simprocAttr,hW]) (Pf h r n hr hn) vV nofun ?_;rintro h' v as' ⟨rfl,rfl,rfl⟩;refine⟨rfl,rfl,?_⟩;refine wW ?_;exact hR.wk (h':=[]) (r':=.str _) (ar':=[.undef]) rfl (.le vV) ⟨rfl,rfl,rfl⟩
theorem uR (t:Bs) (ht:t.length<=1000000):ao Tryz.prog 74 [.str t] (.str (cY t)):=by
 refine Cod.aaN (λE R hN hR=>?_);have hsp:=Zy t;refine wW ?_;refine ln ⟨[(3,.aa 105900 0),(4,.str t)],[(105900,.var [.al,.str [],.int .u64 0])]⟩ (.jx 109003 105900 rfl rfl (.le vV)) rfl ?_;refine aI [(105900,.var [.al,.str [],.int .u64 0])] (OV t acN) vV nofun ?_;rintro h' v as' ⟨rfl,rfl,rfl⟩;refine⟨rfl,rfl,?_⟩;refine wW ?_;have hrl:(t.drop (64*(t.length/64))).length=t.length%64:=by rw[acU];omega
 refine ln ⟨[(3,.aa 106900 0)],nQ (blks (t.length/64) start t) (t.drop (64*(t.length/64))) t.length⟩ (.jx 105900 106900 rfl rfl (.jx 105015 106901 rfl rfl (.le (by simp(disch:=omega)only[go_sem,simprocAttr,dK,hW])))) rfl ?_;refine aI (nQ (blks (t.length/64) start t) (t.drop (64*(t.length/64))) t.length) (OT _ _ t.length hrl ht) vV nofun ?_;rintro h' v as' ⟨rfl,rfl,rfl⟩;refine⟨rfl,rfl,?_⟩;refine wW ?_;refine hR.ro ⟨rfl,?_⟩;rw[hsp,hrl]
theorem CU (t:Bs) (b:UInt8):bC (t++[b])=bC t++oT b:=by simp[bC]
theorem GL (b:UInt8):(b.toNat:Int).fdiv (2^min 4 8)=((b.toNat/16:Nat):Int):=by
 exact(lQ b.toNat 4).trans (by rw[aet])
theorem GM (b:UInt8):bits .and .u8 (b.toNat:Int) 15=((b.toNat%16:Nat):Int):=by
 show IntKind.u8.wrap ((BitVec.ofInt 8 (b.toNat:Int) &&& BitVec.ofInt 8 15).toNat:Int)=_
 have hb:=b.toNat_lt;rw[ac2,ad1,ac1,acY acN,show(BitVec.ofInt 8 15).toNat=2^4-1 by decide,adx];exact wrap_u8 acN
theorem qs (t:Bs) (ht:t.length<=1000000):ao Tryz.prog 37 [.str t] (.str (bC t)):=by
 refine Cod.O5 (λE R hN hR=>?_);refine wW ?_;refine aD hN (λk:Nat=>⟨[(0,.str t),(3,.sl 110022 0 (2*k)),(6,.int .i64 t.length),(7,.int .i64 k)],[(110022,.arr 1 ((bC (t.take k)).map ub))]⟩) (λk=>k<=t.length) (λk=>t.length-k) 0 (.nil 3 110022 1 rfl (.le (by simp(disch:=omega)only[go_sem,simprocAttr];rfl))) acN ?_;rintro k R1 hk hR1;have hhl:(bC (t.take k)).length=2*k:=by rw[xg,acS];omega
 by_cases hlt:k<t.length
 ·have htk:bC (t.take (k+1))=bC (t.take k)++oT (t.getD k 0):=by rw[mE t hlt,CU]
  generalize hb:t.getD k 0=b at *
  have hb1:=b.toNat_lt;refine bp hb @GL @GM ?_;refine hR1 (k+1) _ acN acN (.le ?_);rw[htk,show 2*(k+1)=2*k+2 by omega];refine wW ?_;rw[adr];rfl
 ·obtain rfl:k=t.length:=acN;rw[acP acN]at hhl |-;refine wW ?_;exact hR.wk (h':=[]) (r':=.str (bC t)) (ar':=[.undef]) rfl (.le vV) ⟨rfl,rfl⟩
theorem yS (x:W) (k:Nat) (hk:k<32):ao Tryz.prog 90 [.int .u32 x.toNat,.int .i64 k] (.int .u32 (x.rotateLeft k).toNat):=by
 refine Cod.YX (λE R hN hR=>?_);refine wW ?_;refine hR.ro ⟨rfl,?_⟩;rw[show min k 32=k by omega,show min ((32:Int)-k).toNat 32=32-k by omega,FB x hk]
theorem Vd (t:Bs) (k:Nat):(t++128::List.replicate k 0)++[0]=t++128::List.replicate (k+1) (0:UInt8):=by
 rw[aeV,adC];rfl
theorem Su (n:Nat) {k:Nat} (hk:k<8):(bh n).getD k 0=UInt8.ofNat ((8*n) >>> (8*(7-k))):=by
 rw[Dz n hk,show 56-8*k=8*(7-k)by omega]
theorem YH (t:Bs) (ht:t.length<=1000000):Eng.Spec Tryz.prog 88 [] [.str t]
    (λh' v _=>h'=[(112007,.arr 1 ((t++cZ t.length).map ub))]/\v=.sl 112007 0 (t.length+(cZ t.length).length)):=by
 refine Cod.YI (λE R hN hR=>?_);have hpk:cX t.length<64:=by unfold cX;omega
 have hpad:∀k,k<cX t.length->((t.length:Int)+1+k)%64≠56:=by
  intro k hk;unfold cX at hk;omega
 have hpe:((t.length:Int)+1+(cX t.length:Nat))%64=56:=by
  unfold cX;omega
 refine wW ?_;refine aD hN (λk:Nat=>⟨[(0,.str t),(3,.sl 112007 0 (t.length+1+k))],[(112007,.arr 1 ((t++128::List.replicate k 0).map ub))]⟩) (λk=>k<=cX t.length) (λk=>cX t.length-k) 0 (.le (by simp(disch:=first | omega | (simp only[Lx];omega))only[go_sem,simprocAttr,afk])) acN ?_
 rintro k R1 hk hR1;by_cases hlt:k<cX t.length
 ·have hc:=hpad k hlt;have ha:=Vd t k;simp(disch:=first | omega | (simp only[Lx];omega))only[go_sem,simprocAttr,hc,adh]
  refine hR1 (k+1) _ acN acN (.le ?_);rw[<-ha,show t.length+1+(k+1)=t.length+1+k+1 by omega];exact vV
 obtain rfl:k=cX t.length:=acN;have en:IntKind.u64.wrap ((t.length:Int)*8)=((8*t.length:Nat):Int):=by rw[wrap_u64 acN];omega
 refine aE hpe en ?_
 refine aD hN (λj:Nat=>⟨[(3,.sl 112007 0 (t.length+1+cX t.length+j)),(4,.int .u64 ((8*t.length:Nat):Int)),(5,.int .i64 (7-(j:Int)))],[(112007,.arr 1 ((t++128::(List.replicate (cX t.length) 0++(bh t.length).take j)).map ub))]⟩)
  (λj=>j<=8) (λj=>8-j) 0 (.le (by simp(disch:=first | omega | (simp only[Lx];omega))only[go_sem,simprocAttr,adz])) acN ?_
 rintro j R2 hj hR2;have hll:((bh t.length).take j).length=j:=by rw[acS];simp[bh];omega
 by_cases hlt:j<8
 ·have htk:=mE (bh t.length) (k:=j) hlt;rw[Su t.length hlt]at htk;have e1:min (8*(7-(j:Int))).toNat 64=8*(7-j):=acN;have e4:(7:Int)-j-1=7-((j+1:Nat):Int):=acN;have e5:(7:Int)-j=((7-j:Nat):Int):=acN;simp(disch:=first | omega | (simp only[Lx];omega))only[go_sem,simprocAttr,adh,hll,e1,lQ,b8,Aa]
  refine hR2 (j+1) _ acN acN (.le ?_);rw[htk,e4];simp(disch:=first | omega | (simp only[Lx];omega))only[go_sem,simprocAttr,adC]
 obtain rfl:j=8:=acN;have htl:t++(128:UInt8)::(List.replicate (cX t.length) 0++List.take 8 (bh t.length))=t++cZ t.length:=rfl;have htlen:(cZ t.length).length=9+cX t.length:=by simp[cZ,bh];omega
 refine ab htl ?_;exact hR.le vV ⟨rfl,by rw[htlen];congr 1;omega⟩
theorem getD_take {α:Type} (d:α) (l:List α) {k i:Nat} (h:i<k):(l.take k).getD i d=l.getD i d:=by
 rw[acO,acO,List.getElem?_take_of_lt h]
theorem ab7 (p:Bs) (i:Nat):(gn p i <<< 24+gn p (i+1) <<< 16)+gn p (i+2) <<< 8+gn p (i+3)=lX p i:=by
 have hb:∀k,(gn p k).toNat<256:=λk=>by
  have:=(p.getD k 0).toNat_lt;unfold gn;rw[ac1,acY]<;>omega
 have h0:=hb i;have h1:=hb (i+1);have h2:=hb (i+2);have h3:=hb (i+3);unfold lX;generalize gn p i=x at *
 generalize gn p (i+1)=y at *
 generalize gn p (i+2)=z at *
 generalize gn p (i+3)=w at *
 apply aer;simp only[BitVec.toNat_add,adZ,afB,adD];rw[acY (a:=x.toNat*2^24) acN,acY (a:=y.toNat*2^16) acN,acY (a:=z.toNat*2^8) acN];rw[acY (a:=x.toNat*2^24+y.toNat*2^16) acN,acY (a:=x.toNat*2^24+y.toNat*2^16+z.toNat*2^8) acN,acY acN];have e1:=aeN (i:=24) (b:=y.toNat*2^16) acN x.toNat;have e2:=aeN (i:=16) (b:=z.toNat*2^8) acN (x.toNat*2^8+y.toNat);have e3:=aeN (i:=8) (b:=w.toNat) acN (x.toNat*2^16+y.toNat*2^8+z.toNat);rw[afC (2^24)]at e1;rw[show 2^16*(x.toNat*2^8+y.toNat)=x.toNat*2^24+y.toNat*2^16 by omega]at e2;rw[show 2^8*(x.toNat*2^16+y.toNat*2^8+z.toNat)=x.toNat*2^24+y.toNat*2^16+z.toNat*2^8 by omega]at e3;rw[e3,e2,e1]
theorem ab1 (x:W):IntKind.u32.wrap (x.toNat*16777216)=(x <<< 24).toNat:=nW x 24
theorem ab0 (x:W):IntKind.u32.wrap (x.toNat*65536)=(x <<< 16).toNat:=nW x 16
theorem ab2 (x:W):IntKind.u32.wrap (x.toNat*256)=(x <<< 8).toNat:=nW x 8
def fN (p:Bs) (i:Nat):List W:=(sched p i).take i
theorem FV (p:Bs) {i:Nat} (h:i<=80):(fN p i).length=i:=by
 unfold fN;rw[acS,my];omega
theorem FW (p:Bs) {i:Nat} (h:i<80):fN p (i+1)=fN p i++[(sched p (i+1)).getD i 0#32]:=by
 unfold fN;have hl:=my p i;have hl2:=my p (i+1);rw[ae5,List.getElem?_eq_getElem acN]
 have:(sched p (i+1)).take i=(sched p i).take i:=by
  rw[qW];unfold kp;split<;>rw[List.take_set_of_le (acT _)]
 rw[this];simp[acO,hl2,h]
theorem Ze (p:Bs) {i:Nat} (h:i<16):(sched p (i+1)).getD i 0#32=lX p (4*i):=by
 rw[qW];unfold kp;rw[if_pos h];have:i<80:=acN;simp[acO,my,this]
theorem Zd (p:Bs) {i:Nat} (h:¬i<16) (h2:i<80):(sched p (i+1)).getD i 0#32=((fN p i).getD (i-3) 0#32 ^^^ (fN p i).getD (i-8) 0#32 ^^^ (fN p i).getD (i-14) 0#32 ^^^ (fN p i).getD (i-16) 0#32).rotateLeft 1:=by
 unfold fN;rw[getD_take _ _ acN,getD_take _ _ acN,getD_take _ _ acN,getD_take _ _ acN,qW];unfold kp;rw[if_neg h];simp[acO,my,h2]
theorem Zc (p:Bs):fN p 80=sched p 80:=by
 unfold fN;rw[acP (by rw[my];omega)]
theorem Za (p:Bs) (hp:p.length=64):Eng.Spec Tryz.prog 89 [] [.ro 1 (p.map ub)] (λh' v ar=>h'=[(113005,.arr 1 ((fN p 16).map u32))]/\v=.sl 113005 0 16/\ar=[.undef]):=by
 refine Cod.Y9 (λE R hN hR=>?_);refine wW ?_;refine aD hN (λk:Nat=>⟨[(0,.ro 1 (p.map ub)),(3,.sl 113005 0 k),(4,.int .i64 (4*(k:Int)))],[(113005,.arr 1 ((fN p k).map u32))]⟩) (λk=>k<=16) (λk=>16-k) 0 (.le (by simp(disch:=omega)only[go_sem,simprocAttr];rfl)) acN ?_;rintro k R1 hk hR1;have hsl:=FV p (i:=k) acN;by_cases hlt:k<16
 ·have hss:=FW p (i:=k) acN;rw[Ze p hlt]at hss;have hws:=ab7 p (4*k);have e0:(4*(k:Int)).toNat=4*k:=acN;have e1:(4*(k:Int)+1).toNat=4*k+1:=acN;have e2:(4*(k:Int)+2).toNat=4*k+2:=acN;have e3:(4*(k:Int)+3).toNat=4*k+3:=acN;simp(disch:=omega)only[go_sem,simprocAttr,e0,e1,e2,e3,A1,pE,ab1,ab0,ab2,rG,A6,hws,Ab];refine hR1 (k+1) _ acN acN (.le ?_);rw[hss,show 4*((k+1:Nat):Int)=4*(k:Int)+4 by omega];exact vV
 ·obtain rfl:k=16:=acN;refine wW ?_;exact hR.le vV ⟨rfl,rfl,rfl⟩
theorem YD (l:List W) (hl:l.length<=1000):ao Tryz.prog 91 [.ro 1 (l.map u32)] (.str (eL l)):=by
 refine Cod.YE (λE R hN hR=>?_);refine wW ?_;refine aD hN (λk:Nat=>⟨[(3,.sl 114006 0 (4*k)),(7,.ro 1 (l.map u32)),(8,.int .i64 l.length),(9,.int .i64 k)],[(114006,.arr 1 ((eL (l.take k)).map ub))]⟩) (λk=>k<=l.length) (λk=>l.length-k) 0 (.le (by simp(disch:=omega)only[go_sem,simprocAttr];rfl)) acN ?_;rintro k R1 hk hR1;have hol:(eL (l.take k)).length=4*k:=by rw[yf,acS];omega
 by_cases hlt:k<l.length
 ·have htk:eL (l.take (k+1))=eL (l.take k)++mI (l.getD k 0#32):=by
   rw[ae5,List.getElem?_eq_getElem hlt,eL,eL,afl];simp[acO,hlt]
  have f24:∀x:Nat,(x:Int).fdiv (2^min 24 32)=((x >>> 24:Nat):Int):=λx=>lQ x 24;have f16:∀x:Nat,(x:Int).fdiv (2^min 16 32)=((x >>> 16:Nat):Int):=λx=>lQ x 16;have f8:∀x:Nat,(x:Int).fdiv (2^min 8 32)=((x >>> 8:Nat):Int):=λx=>lQ x 8;refine lg @tU @rC f24 f16 f8 b8 ?_;refine hR1 (k+1) _ acN acN (.le ?_);rw[htk,show 4*(k+1)=4*k+4 by omega];simp(disch:=omega)only[go_sem,simprocAttr,mI];rw[adr];rfl
 ·obtain rfl:k=l.length:=acN;rw[acP acN]at hol |-;refine wW ?_;exact hR.wk (h':=[]) (r':=.str (eL l)) (ar':=[.undef]) rfl (.le vV) ⟨rfl,rfl⟩
theorem O1 (b:UInt8):List.take (b.toNat/16+1-b.toNat/16) (List.drop (b.toNat/16) iW)++List.take (b.toNat%16+1-b.toNat%16) (List.drop (b.toNat%16) iW)=oT b:=by
 have key:∀m:Fin 16,List.take (m.val+1-m.val) (List.drop m.val iW)=[iW.getD m.val 0]:=by decide
 have hb:=b.toNat_lt;have h1:=key ⟨b.toNat/16,acN⟩;have h2:=key ⟨b.toNat%16,acN⟩;simp only at h1 h2;rw[h1,h2];rfl
theorem qS (t:Bs) (ht:t.length<=1000000):ao Tryz.prog 47 [.str t] (.str (bC t)):=by
 refine Cod.Yl (λE R hN hR=>?_);refine wW ?_;refine aD hN (λk:Nat=>⟨[(0,.str t),(3,.str (bC (t.take k))),(4,.int .i64 k)],[]⟩) (λk=>k<=t.length) (λk=>t.length-k) 0 (.le (by simp(disch:=first | omega | (simp only[Lx];omega))only[go_sem,simprocAttr];rfl)) acN ?_
 rintro k R1 hk hR1;have hhl:(bC (t.take k)).length=2*k:=by rw[xg,acS];omega
 by_cases hlt:k<t.length
 ·have htk:bC (t.take (k+1))=bC (t.take k)++oT (t.getD k 0):=by rw[mE t hlt,CU]
  generalize hb:t.getD k 0=b at *
  have hb1:=b.toNat_lt;have hp:=O1 b;rw[iW]at hp;have e1:((b.toNat:Int)/16+1).toNat=b.toNat/16+1:=acN;have e2:((b.toNat:Int)/16).toNat=b.toNat/16:=acN;have e3:((b.toNat:Int)%16+1).toNat=b.toNat%16+1:=acN;have e4:((b.toNat:Int)%16).toNat=b.toNat%16:=acN;refine ab hb ?_;rw[e1,e2,e3,e4,hp];exact hR1 (k+1) _ acN acN (.le (cn htk))
 ·obtain rfl:k=t.length:=acN;rw[acP acN]at hhl |-;refine wW ?_;exact hR.ro ⟨rfl,rfl⟩
theorem yQ (t:Bs) (ht:t.length<=100000):ao Tryz.prog 48 [.str t] (.str (cY t)):=by
 refine Cod.YS (λE R hN hR=>?_);have htl:=Gu t.length;have hpl:(t++cZ t.length).length=t.length+(cZ t.length).length:=acQ
 have htb:(cZ t.length).length<=80:=by
  have:cX t.length<64:=by unfold cX;omega
  simp[cZ,bh];omega
 have hbz:blks 0 start (t++cZ t.length)=start:=rfl;unfold cY at hR;rw[<-hpl]at hR htl;refine wW ?_;refine aI [] (YH t acN) trivial nofun ?_;rintro h' v as' ⟨rfl,rfl⟩;refine⟨rfl,rfl,?_⟩;rw[<-hpl];have hQl:(t++cZ t.length).length<=100080:=acN;generalize t++cZ t.length=Q at *
 refine wW ?_;refine aD hN (λj:Nat=>⟨[(3,.sl 112007 0 Q.length),(4,.sl 115019 0 5),(5,.int .i64 (64*(j:Int)))],[(112007,.arr 1 (Q.map ub)),(115019,.arr 1 (hW (blks j start Q)))]⟩) (λj=>64*j<=Q.length) (λj=>Q.length-64*j) 0 (.le (by rw[hbz];simp(disch:=omega)only[go_sem,simprocAttr,hW];decide)) acN ?_;rintro j R1 hj hR1;by_cases hlt:64*j<Q.length
 ·have hbo:=AG j start Q;generalize hH:blks j start Q=H at *
  have hp:((Q.drop (64*j)).take 64).length=64:=by rw[acS,acU];omega
  generalize hpp:(Q.drop (64*j)).take 64=p at *
  have hw:=Za p hp;have e0:(64*(j:Int)).toNat=64*j:=acN;have e1:(64*(j:Int)+64).toNat=64*j+64:=acN;have e2:64*j+64-64*j=64:=acN;refine bp e0 e1 e2 ?_;refine pX [] (bs:=[.ro 1 (p.map ub)]) (cn hpp) hw trivial nofun ?_;rintro h' v as' ⟨rfl,rfl,rfl⟩;refine⟨cn @NK,rfl,?_⟩;refine wW ?_
  refine aD hN (λi:Nat=>⟨[(3,.sl 112007 0 Q.length),(4,.sl 115019 0 5),(5,.int .i64 (64*(j:Int))),(6,.sl 113005 0 i),(7,.int .i64 i)],[(112007,.arr 1 (Q.map ub)),(115019,.arr 1 (hW H)),(113005,.arr 1 ((fN p i).map u32))]⟩)
   (λi=>16<=i/\i<=80) (λi=>80-i) 16 (.le vV) acN ?_
  rintro i R2 ⟨hi0,hi⟩ hR2;have hsl:=FV p hi;by_cases hlt2:i<80
  ·have hss:=FW p hlt2;rw[Zd p acN hlt2]at hss;have hr:=yS ((fN p i).getD (i-3) 0#32 ^^^ (fN p i).getD (i-8) 0#32 ^^^ (fN p i).getD (i-14) 0#32 ^^^ (fN p i).getD (i-16) 0#32) 1 acN;have e3:((i:Int)-3).toNat=i-3:=acN;have e8:((i:Int)-8).toNat=i-8:=acN;have e14:((i:Int)-14).toNat=i-14:=acN;have e16:((i:Int)-16).toNat=i-16:=acN;simp(disch:=omega)only[go_sem,simprocAttr,e3,e8,e14,e16,tU,rC,eF];refine ah hr rfl rfl ?_;refine aE @A6 @Ab ?_;exact hR2 (i+1) _ acN acN (.le (cn hss))
  obtain rfl:i=80:=acN;rw[Zc]at hsl |-;generalize hw2:sched p 80=w at *
  simp(disch:=omega)only[go_sem,simprocAttr,o4,o6,hW]
  refine aD hN (λi:Nat=>⟨[(3,.sl 112007 0 Q.length),(4,.sl 115019 0 5),(5,.int .i64 (64*(j:Int))),(6,.sl 113005 0 80),(8,.int .u32 (rounds w H i).a.toNat),(9,.int .u32 (rounds w H i).b.toNat),(10,.int .u32 (rounds w H i).c.toNat),(11,.int .u32 (rounds w H i).d.toNat),(12,.int .u32 (rounds w H i).e.toNat),(13,.int .i64 i)],
   [(112007,.arr 1 (Q.map ub)),(115019,.arr 1 (hW H)),(113005,.arr 1 (w.map u32))]⟩) (λi=>i<=80) (λi=>80-i) 0 (.le (cn @FC)) acN ?_
  rintro i R3 hi hR3;by_cases hlt3:i<80
  ·have hrs:=rounds_succ w H i;generalize hx:rounds w H i=x at *
   have hst:nK w x i=⟨x.a.rotateLeft 5+ju i x.b x.c x.d+x.e+jv i+w.getD i 0#32,x.a,x.b.rotateLeft 30,x.c,x.d⟩:=rfl;have hnot:bits .xor .u32 (x.b.toNat:Int) 4294967295=(~~~x.b).toNat:=G7 x.b
   have rest:∀(f:W) (k:Int),f=ju i x.b x.c x.d->k=((jv i).toNat:Int)->vcW Tryz.prog E Cod.YP (KQ.c8 5 (KQ.seq Tryz.prog E Cod.YO (KQ.gb R3 (KQ.c8 4 (KQ.seq Tryz.prog E Cod.YN (KQ.c8 1 (KQ.seq Tryz.prog E Cod.YR (KQ.gb R1 (KQ.c8 0 (KQ.seq Tryz.prog E Cod.YQ (KQ.post [.tmp 2] 1 R)))))))))))
       ⟨[(3,.sl 112007 0 Q.length),(4,.sl 115019 0 5),(5,.int .i64 (64*(j:Int))),(6,.sl 113005 0 80),(8,.int .u32 x.a.toNat),(9,.int .u32 x.b.toNat),(10,.int .u32 x.c.toNat),(11,.int .u32 x.d.toNat),(12,.int .u32 x.e.toNat),(13,.int .i64 i),(14,.int .u32 f.toNat),(15,.int .u32 k)],
        [(112007,.arr 1 (Q.map ub)),(115019,.arr 1 (hW H)),(113005,.arr 1 (w.map u32))]⟩:=by
    intro f k hf hk;subst hk;have r5:=yS x.a 5 acN;have r30:=yS x.b 30 acN;refine aE @tU @rC ?_;refine ah r5 rfl rfl ?_;refine ab rG ?_;refine ah r30 rfl rfl ?_;refine wW ?_;refine hR3 (i+1) _ acN acN (.le ?_);rw[hrs,hst,<-hf];exact vV
   by_cases h20:i<20
   ·refine cN eF fQ fG hnot @Eng.jn ?_;refine dY hN ?_;refine cN eF fQ fG hnot @Eng.jn ?_;refine dY hN ?_;refine cN eF fQ fG hnot @Eng.jn ?_;refine nU hN _ (.le ?_) (rest (x.b &&& x.c ||| ~~~x.b &&& x.d) 1518500249 ?_ ?_);exact vV
    ·unfold ju;rw[if_pos h20]
    ·unfold jv;rw[if_pos h20];decide
   ·by_cases h40:i<40
    ·refine cN eF fQ fG hnot @Eng.jn ?_;refine dY hN ?_;refine cN eF fQ fG hnot @Eng.jn ?_;refine dY hN ?_;refine cN eF fQ fG hnot @Eng.jn ?_;refine nU hN _ (.le ?_) (rest (x.b ^^^ x.c ^^^ x.d) 1859775393 ?_ ?_);exact vV
     ·unfold ju;rw[if_neg h20,if_pos h40]
     ·unfold jv;rw[if_neg h20,if_pos h40];decide
    ·by_cases h60:i<60
     ·refine cN eF fQ fG hnot @Eng.jn ?_;refine dY hN ?_;refine cN eF fQ fG hnot @Eng.jn ?_;refine dY hN ?_;refine cN eF fQ fG hnot @Eng.jn ?_;refine nU hN _ (.le ?_) (rest (x.b &&& x.c ||| x.b &&& x.d ||| x.c &&& x.d) 2400959708 ?_ ?_);exact vV
      ·unfold ju;rw[if_neg h20,if_neg h40,if_pos h60]
      ·unfold jv;rw[if_neg h20,if_neg h40,if_pos h60];decide
     ·refine cN eF fQ fG hnot @Eng.jn ?_;refine dY hN ?_;refine cN eF fQ fG hnot @Eng.jn ?_;refine dY hN ?_;refine cN eF fQ fG hnot @Eng.jn ?_;refine nU hN _ (.le ?_) (rest (x.b ^^^ x.c ^^^ x.d) 3395469782 ?_ ?_);exact vV
      ·unfold ju;rw[if_neg h20,if_neg h40,if_neg h60]
      ·unfold jv;rw[if_neg h20,if_neg h40,if_neg h60];decide
  ·obtain rfl:i=80:=acN;generalize hx:rounds w H 80=x at *
   simp(disch:=omega)only[go_sem,simprocAttr,o4,o6,rG,hW];refine hR1 (j+1) _ acN acN (.drop 115019 (.jx 115161 115019 rfl rfl (.le ?_)));rw[hbo,c8,hw2,hx,show 64*((j+1:Nat):Int)=64*(j:Int)+64 by omega];simp(disch:=omega)only[go_sem,simprocAttr,hW,H5.add]
 ·have hq:j=Q.length/64:=acN;rw[<-hq]at hR;refine wW ?_;refine Kh (bs:=[.ro 1 (hW (blks j start Q))]) vV (YD (blks j start Q).l (by simp[H5.l])) rfl ?_;refine wW ?_;exact hR.wk (h':=[]) (r':=.str _) (ar':=[.undef]) rfl (.le vV) ⟨rfl,rfl⟩
end Go.Proofs.YtoalcafkffmiiaaGreatDoor.Sh
