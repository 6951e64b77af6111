/- The proof, part 19 of 50. -/
import Derived.Test.YtkdjbebgdoohjaaGreatDoorHistoryOrderK
import Derived.Test.YtkdjbebgdoohjaaGreatDoorHistoryOrderR
import Derived.Test.YtkdjbebgdoohjaaGreatDoorProg
import Derived.KernelRfl
set_option linter.all false
namespace Go.Proofs.YtkdjbebgdoohjaaGreatDoor.Cod
open Eng Eng.Kz
set_option maxRecDepth 100000
abbrev U9:=Kf.s2 101 Tryz.func151
abbrev YV:=Kf.s1 102 Tryz.func150
abbrev W9:=Kf.s0 103 Tryz.func122
abbrev oD:AK:=pk (x:=Kc.code Tryz.prog Tryz.f123 104 [] (Kc.lr 4 [])) _
abbrev HE:AK:=pk (x:=oD.y.y.y.x.y.x.x.y.y.y) _
abbrev HF:AK:=pk (x:=oD.y.y.y.x.y.x.x.y.y.x.x.y.y.y) _
abbrev HG:AK:=pk (x:=oD.y.y.y.y) _
theorem HJ:gr Tryz.prog 123 104000 2 oD []:=⟨_,Tryz.func123,by kernel_rfl⟩
theorem HL {h a0 a1 g0 g1 Post} (hp:fX Tryz.prog oD [] 4 [(0,a0),(1,a1),(2000000,a0),(2000001,a1),(2000002,g0),(2000003,g1)] h Post):Eng.jv Tryz.prog 123 2 h [a0,a1,g0,g1] Post:=WI HJ (aaE rfl) [(0,a0),(1,a1),(2000000,a0),(2000001,a1),(2000002,g0),(2000003,g1)] ⟨rfl,rfl,rfl,rfl,rfl,rfl,trivial⟩ hp
abbrev Nt:AK:=pk (x:=Kc.code Tryz.prog Tryz.f121 105 [] (Kc.lr 4 [])) _
abbrev Nu:AK:=pk (x:=Nt.y) _
abbrev BA:=Kf.k4 105 Tryz.func121
abbrev Ns:=Kf.k3 106 Tryz.func124
abbrev MO:=Kf.k2 107 Tryz.func91
abbrev MM:=Kf.k1 108 Tryz.func92
abbrev Xu:=Kf.s1 109 Tryz.func61
abbrev M7:=Kf.s1 110 Tryz.func37
abbrev Vr:=Kf.s2 111 Tryz.func87
abbrev Ve:=Kf.s1 112 Tryz.func85
abbrev VE:=Kf.s1 113 Tryz.func86
abbrev Vb:=Kf.s1 114 Tryz.func88
abbrev p4:AK:=pk (x:=Kc.code Tryz.prog Tryz.f57 115 [] (Kc.lr 0 [.tmp 2])) _
abbrev Vj:AK:=pk (x:=p4.y.y.y.x.y.x.x.y.x.x.y.y.y.y) _
abbrev Vk:AK:=pk (x:=p4.y.y.y.x.y.x.x.y.x.x.y.y.y.x.y.x.x.y.y) _
abbrev Vl:AK:=pk (x:=p4.y.y.y.x.y.x.x.y.x.x.y.y.y.x.y.x.x.y.x.x.y.y.y.y) _
abbrev Vm:AK:=pk (x:=p4.y.y.y.y) _
abbrev Vn:AK:=pk (x:=p4.y.y.y.x.y.x.x.y.y) _
abbrev Vo:=Kf.s1 115 Tryz.func57
abbrev UR:=Kf.s1 116 Tryz.func30
end Go.Proofs.YtkdjbebgdoohjaaGreatDoor.Cod
namespace Go.Proofs.YtkdjbebgdoohjaaGreatDoor.Sh
open Eng
set_option maxRecDepth 10000
theorem qF {k:Nat} (hk:k<32):bits .and .u64 (k:Int) 31=k:=by
 show IntKind.u64.wrap ((BitVec.ofInt 64 (k:Int) &&& BitVec.ofInt 64 31).toNat:Int)=_
 rw[ZU,aaQ,ZT,ZO ZG,show(BitVec.ofInt 64 31).toNat=2^5-1 by decide,Nat.and_two_pow_sub_one_of_lt_two_pow ZG];exact wrap_u64 ZG
theorem Dz (x:W) {k:Nat} (hk:k<32):bits .or .u32 (IntKind.u32.wrap (↑(BitVec.toNat x)*2^k)) ((↑(BitVec.toNat x):Int).fdiv (2^(32-k)))=(x.rotateLeft k).toNat:=by
 rw[mG,EX,eE,BitVec.rotateLeft_def,ZO hk]
theorem xD (x:W) (k:Nat) (hk:k<32):aw Tryz.prog 151 [.int .u32 x.toNat,.int .i64 k] (.int .u32 (x.rotateLeft k).toNat):=by
 refine Cod.U9 (λE R hN hR=>?_);have h1:=qF hk;refine ah h1 ?_;refine hR.ro ⟨rfl,?_⟩;rw[show min k 32=k by omega,show min ((32:Int)-k).toNat 32=32-k by omega,Dz x hk]
theorem zB (p:Bs) (i:Nat):((p.getD i 0).toNat:Int)=((fh p i).toNat:Int):=by
 rw[fh,ZT,ZO];have:=(p.getD i 0).toNat_lt;omega
theorem YU (p:Bs) (hp:4<=p.length):aw Tryz.prog 150 [.str p] (.int .u32 (kJ p 0).toNat):=by
 refine Cod.YV (λE R hN hR=>?_);refine aE @zB qu ?_;refine hR.ro ⟨rfl,?_⟩;rw[show min 24 32=24 by rfl,show min 16 32=16 by rfl,show min 8 32=8 by rfl,mG,mG,mG,eE,eE,eE];rfl
theorem z80:(List.replicate 80 0#32).map u32=[.int .u32 0,.int .u32 0,.int .u32 0,.int .u32 0,.int .u32 0,.int .u32 0,.int .u32 0,.int .u32 0,.int .u32 0,.int .u32 0,.int .u32 0,.int .u32 0,.int .u32 0,.int .u32 0,.int .u32 0,.int .u32 0,.int .u32 0,.int .u32 0,.int .u32 0,.int .u32 0,.int .u32 0,.int .u32 0,.int .u32 0,.int .u32 0,.int .u32 0,.int .u32 0,.int .u32 0,.int .u32 0,.int .u32 0,.int .u32 0,.int .u32 0,.int .u32 0,.int .u32 0,.int .u32 0,.int .u32 0,.int .u32 0,.int .u32 0,.int .u32 0,.int .u32 0,.int .u32 0,.int .u32 0,.int .u32 0,.int .u32 0,.int .u32 0,.int .u32 0,.int .u32 0,.int .u32 0,.int .u32 0,.int .u32 0,.int .u32 0,.int .u32 0,.int .u32 0,.int .u32 0,.int .u32 0,.int .u32 0,.int .u32 0,.int .u32 0,.int .u32 0,.int .u32 0,.int .u32 0,.int .u32 0,.int .u32 0,.int .u32 0,.int .u32 0,.int .u32 0,.int .u32 0,.int .u32 0,.int .u32 0,.int .u32 0,.int .u32 0,.int .u32 0,.int .u32 0,.int .u32 0,.int .u32 0,.int .u32 0,.int .u32 0,.int .u32 0,.int .u32 0,.int .u32 0,.int .u32 0]:=by rfl
theorem ss (x:AV) (r:List AV):nth (x::r) 0=x:=(rfl)
theorem su (x:AV) (r:List AV) (k:Nat):nth (x::r) (k+1)=nth r k:=by simp[nth]
theorem rH {xs:List W} {i:Nat} (h:i<xs.length):(xs.map u32).getD i .undef=.int .u32 (xs.getD i 0#32).toNat:=by
 simp[ZH,h,u32]
theorem Kn {xs:List W} {i:Nat} (h:i<xs.length):((xs.map u32).drop i).getD 0 .undef=.int .u32 (xs.getD i 0#32).toNat:=by
 simp[ZH,h,u32]
theorem DW {xs:List W} {i:Nat} {y:W} (h:i<xs.length):(xs.map u32).take i++[.int .u32 y.toNat]++(xs.map u32).drop (i+1)=(xs.set i y).map u32:=by
 rw[<-qm,<-List.map_take,<-List.map_drop,aaZ,if_pos h];simp
abbrev hW (h:H5):List AV:=[.int .u32 h.a.toNat,.int .u32 h.b.toNat,.int .u32 h.c.toNat,.int .u32 h.d.toNat,.int .u32 h.e.toNat]
abbrev cQ (h:H5) (r:Bs) (n:Int):HP:=[(105900,.var [.sl 105015 0 5,.str r,.int .u64 n]),(105015,.arr 1 (hW h))]
theorem YT (p:Bs) (k:Nat):kJ (p.drop k) 0=kJ p k:=by
 simp[kJ,fh,ZH,List.getElem?_drop]
theorem HK (h:H5) (p r:Bs) (n:Int) (hp:p.length=64):jv Tryz.prog 123 2 (cQ h r n) [.sl 105015 0 5,.str p,.aa 105900 0,.aa 105900 0]
    (λh' v ar=>h'=cQ (dk h p) r n/\v=.ab []/\ar=[.sl 105015 0 5,.str p,.aa 105900 0,.aa 105900 0]):=by
 refine Cod.HL (λE R hN hR=>?_);simp(disch:=first | omega | (simp only[Lx];omega))only[go_sem,simprocAttr,cQ,hW]
 refine aP hN (λi:Nat=>⟨[(0,.sl 105015 0 5),(1,.str p),(4,.aa 104004 0),(15,.int .i64 i),(2000000,.sl 105015 0 5),(2000001,.str p),(2000002,.aa 105900 0),(2000003,.aa 105900 0)],
  [(104004,.var ((sched p i).map u32)),(105900,.var [.sl 105015 0 5,.str r,.int .u64 n]),(105015,.arr 1 (hW h))]⟩) (λi=>i<=80) (λi=>80-i) 0 (.le (by simp(disch:=first | omega | (simp only[Lx];omega))only[go_sem,simprocAttr,DU,z80];and_intros<;>rfl)) ZG ?_
 rintro i R1 hi hR1;have hsl:=lz p i;by_cases hlt:i<80
 ·have hss:=p6 p i;generalize hw:sched p i=w at *
  by_cases h16:i<16
  ·have hstep:jl p w i=w.set i (kJ p (4*i)):=by unfold jl;rw[if_pos h16]
   rw[hstep]at hss;have hw2:=YU (p.drop (4*i)) (by rw[ZN];omega);rw[YT]at hw2;have e1:(4*(i:Int)).toNat=4*i:=ZG;refine ah e1 ?_;refine an hw2 rfl rfl ?_;refine aE @DW @aay ?_;exact hR1 (i+1) _ ZG ZG (.le (cU hss))
  ·have hstep:jl p w i=w.set i ((w.getD (i-3) 0#32 ^^^ w.getD (i-8) 0#32 ^^^ w.getD (i-14) 0#32 ^^^ w.getD (i-16) 0#32).rotateLeft 1):=by unfold jl;rw[if_neg h16]
   rw[hstep]at hss;have hr:=xD (w.getD (i-3) 0#32 ^^^ w.getD (i-8) 0#32 ^^^ w.getD (i-14) 0#32 ^^^ w.getD (i-16) 0#32) 1 ZG;have e3:((i:Int)-3).toNat=i-3:=ZG;have e8:((i:Int)-8).toNat=i-8:=ZG;have e14:((i:Int)-14).toNat=i-14:=ZG;have e16:((i:Int)-16).toNat=i-16:=ZG;simp(disch:=first | omega | (simp only[Lx];omega))only[go_sem,simprocAttr,e3,e8,e14,e16,aay,Kn,dP]
   refine an hr rfl rfl ?_;refine aE @DW @aay ?_;exact hR1 (i+1) _ ZG ZG (.le (cU hss))
 ·obtain rfl:i=80:=ZG;refine aE @ss @su ?_;generalize hw:sched p 80=w at *
  refine aP hN (λi:Nat=>⟨[(0,.sl 105015 0 5),(6,.int .u32 (rounds w h i).a.toNat),(7,.int .u32 (rounds w h i).b.toNat),(8,.int .u32 (rounds w h i).c.toNat),(9,.int .u32 (rounds w h i).d.toNat),(10,.int .u32 (rounds w h i).e.toNat),
   (65,.agg (w.map u32)),(66,.int .i64 i),(2000000,.sl 105015 0 5),(2000001,.str p),(2000002,.aa 105900 0),(2000003,.aa 105900 0)],
   [(105900,.var [.sl 105015 0 5,.str r,.int .u64 n]),(105015,.arr 1 (hW h))]⟩) (λi=>i<=80) (λi=>80-i) 0 (.le (cU @DA)) ZG ?_
  rintro i R2 hi hR2;by_cases hlt:i<80
  ·have hrs:=rounds_succ w h i;generalize hx:rounds w h i=x at *
   have hst:mo w x i=⟨x.a.rotateLeft 5+gR i x.b x.c x.d+x.e+gS i+w.getD i 0#32,x.a,x.b.rotateLeft 30,x.c,x.d⟩:=rfl
   have rest:∀(f:W) (k:Int),f=gR i x.b x.c x.d->k=((gS i).toNat:Int)->vcW Tryz.prog E Cod.HF (KQ.dk 3 (KQ.seq Tryz.prog E Cod.HE (KQ.iC R2 (KQ.dk 2 (KQ.seq Tryz.prog E Cod.HG (KQ.post [] 4 R))))))
       ⟨[(0,.sl 105015 0 5),(6,.int .u32 x.a.toNat),(7,.int .u32 x.b.toNat),(8,.int .u32 x.c.toNat),(9,.int .u32 x.d.toNat),(10,.int .u32 x.e.toNat),(12,.int .u32 (w.getD i 0#32).toNat),(13,.int .u32 f.toNat),(14,.int .u32 k),
        (65,.agg (w.map u32)),(66,.int .i64 i),(2000000,.sl 105015 0 5),(2000001,.str p),(2000002,.aa 105900 0),(2000003,.aa 105900 0)],[(105900,.var [.sl 105015 0 5,.str r,.int .u64 n]),(105015,.arr 1 (hW h))]⟩:=by
    intro f k hf hk;subst hk;have r5:=xD x.a 5 ZG;have r30:=xD x.b 30 ZG;refine wW ?_;refine an r5 rfl rfl ?_;refine ah qs ?_;refine an r30 rfl rfl ?_;refine wW ?_;refine hR2 (i+1) _ ZG ZG (.le ?_);rw[hrs,hst,<-hf];exact vV
   have hd:(i:Int).tdiv 20=((i/20:Nat):Int):=rfl;have hnot:bits .xor .u32 (if IntKind.u32.signed=true then -1 else IntKind.u32.max) (x.b.toNat:Int)=(~~~x.b).toNat:=EU x.b
   by_cases h20:i<20
   ·have hq:i/20=0:=ZG;rw[hq]at hd;simp(disch:=first | omega | (simp only[Lx];omega))only[go_sem,simprocAttr,hd,rH,dP,fe,eE,hnot,Eng.jn]
    refine cV hN (rest _ 1518500249 ?_ ?_)
    ·unfold gR;rw[if_pos h20]
    ·unfold gS;rw[if_pos h20];decide
   ·by_cases h40:i<40
    ·have hq:i/20=1:=ZG;rw[hq]at hd;simp(disch:=first | omega | (simp only[Lx];omega))only[go_sem,simprocAttr,hd,rH,dP,fe,eE,hnot,Eng.jn]
     refine cV hN (rest _ 1859775393 ?_ ?_)
     ·unfold gR;rw[if_neg h20,if_pos h40]
     ·unfold gS;rw[if_neg h20,if_pos h40];decide
    ·by_cases h60:i<60
     ·have hq:i/20=2:=ZG;rw[hq]at hd;simp(disch:=first | omega | (simp only[Lx];omega))only[go_sem,simprocAttr,hd,rH,dP,fe,eE,hnot,Eng.jn]
      refine cV hN (rest _ 2400959708 ?_ ?_)
      ·unfold gR;rw[if_neg h20,if_neg h40,if_pos h60]
      ·unfold gS;rw[if_neg h20,if_neg h40,if_pos h60];decide
     ·have hq:i/20=3:=ZG;rw[hq]at hd;simp(disch:=first | omega | (simp only[Lx];omega))only[go_sem,simprocAttr,hd,rH,dP,fe,eE,hnot,Eng.jn]
      refine kF hN _ (.le ?_) (rest (x.b ^^^ x.c ^^^ x.d) 3395469782 ?_ ?_);exact vV
      ·unfold gR;rw[if_neg h20,if_neg h40,if_neg h60]
      ·unfold gS;rw[if_neg h20,if_neg h40,if_neg h60];decide
  ·obtain rfl:i=80:=ZG;generalize hx:rounds w h 80=x at *
   simp(disch:=first | omega | (simp only[Lx];omega))only[go_sem,simprocAttr,ss,su,qs,hW]
   exact hR.le (h':=cQ (h.add x) r n) (by simp(disch:=first | omega | (simp only[Lx];omega))only[go_sem,simprocAttr,H5.add]) ⟨by rw[dk,hw,hx],rfl,rfl⟩
open Eng
set_option maxRecDepth 10000
abbrev FN:AV:=.lit (.func (.func 123) #[] #[])
theorem HI:callable Tryz.prog 123=true:=by kernel_rfl
theorem EW (h:H5) (r t:Bs) (n:Nat) (ht:r.length+t.length<=9223372036854775807) (hn:n+t.length<=9223372036854775807) {E:Env} {R:HP->AV->List AV->Prop} (hN:E.N<=1000000)
    (hR:cF (λh' v ar=>h'=cQ (blks ((r++t).length/64) h (r++t)) ((r++t).drop (64*((r++t).length/64))) ((n:Int)+t.length)/\v=.ab []/\ar=[.aa 105900 0,.str t,.undef,FN]) R) :
    vcW Tryz.prog E Cod.Nu (KQ.post [] 4 R) ⟨[(0,.aa 105900 0),(1,.str t),(3,FN),(2000000,.aa 105900 0),(2000001,.str t),(2000003,FN)],cQ h r n⟩:=by
 have en:IntKind.u64.wrap ((n:Int)+(t.length:Int))=(n:Int)+t.length:=wrap_u64 ZG;simp(disch:=first | omega | (simp only[Lx];omega))only[go_sem,simprocAttr,cQ,hW,en]
 have hl:(r++t).length<=9223372036854775807:=by simp;omega
 generalize hs:r++t=s at *
 refine aP hN (λj:Nat=>⟨[(0,.aa 105900 0),(1,.str (s.drop (64*j))),(3,FN),(2000000,.aa 105900 0),(2000001,.str t),(2000003,FN)],cQ (blks j h s) r ((n:Int)+t.length)⟩) (λj=>64*j<=s.length) (λj=>s.length-64*j) 0 (.le (by simp(disch:=first | omega | (simp only[Lx];omega))only[go_sem,simprocAttr,cQ,hW,blks])) ZG ?_
 rintro j R1 hj hR1;by_cases hlt:64<=(s.drop (64*j)).length
 ·have hlt':=hlt;rw[ZN]at hlt';have hbo:=zi j h s;generalize hH:blks j h s=H at *
  generalize hu:s.drop (64*j)=u at *
  have hb:=HK H (u.take 64) r ((n:Int)+t.length) (by rw[ZL];omega);simp(disch:=first | omega | (simp only[Lx];omega))only[go_sem,simprocAttr,cQ,hW]
  refine vc HI (zC (n:=2) [0,2000000] vV vV rfl hb ?_);rintro h' v as' ⟨rfl,rfl,rfl⟩;simp(disch:=first | omega | (simp only[Lx];omega))only[go_sem,simprocAttr,cQ,hW]
  refine hR1 (j+1) _ ZG ZG (.le ?_);have hd:s.drop (64*(j+1))=u.drop 64:=by rw[<-hu,aa3];rfl
  rw[hbo,hd];simp(disch:=first | omega | (simp only[Lx];omega))only[go_sem,simprocAttr,cQ,hW]
 ·have hq:j=s.length/64:=by rw[ZN]at hlt;omega
  simp(disch:=first | omega | (simp only[Lx];omega))only[go_sem,simprocAttr,cQ,hW]
  refine hR.le ?_ ⟨rfl,rfl,rfl⟩;rw[<-hq];simp(disch:=first | omega | (simp only[Lx];omega))only[go_sem,simprocAttr,cQ,hW]
theorem Y4 (t:Bs) (ht:t.length<=9223372036854775807):Eng.Spec Tryz.prog 121 [(105900,.var [.aj,.str [],.int .u64 0])] [.aa 105900 0,.str t,.ro 1 (hW start),FN]
    (λh' v ar=>h'=cQ (blks (t.length/64) start t) (t.drop (64*(t.length/64))) t.length/\v=.ab []/\ar=[.aa 105900 0,.str t,.undef,FN]):=by
 refine Cod.BA (λE R hN hR=>?_);simp(disch:=omega)only[go_sem,simprocAttr,Eng.jn,hW];refine kF hN _ (.le (by simp(disch:=omega)only[go_sem,simprocAttr,cQ,hW])) (EW start [] t 0 (by simpa using ht) ZG hN ?_);intro h' v ar h2 v2 ar2 e1 e2 e3;refine hR h' v ar h2 v2 ar2 e1 e2 ?_;simpa using e3
theorem Y5 (h:H5) (r t:Bs) (n:Nat) (hr:r.length+t.length<=9223372036854775807) (hn:n+t.length<=9223372036854775807):Eng.Spec Tryz.prog 121 (cQ h r n) [.aa 105900 0,.str t,.ro 1 (hW start),FN]
    (λh' v ar=>h'=cQ (blks ((r++t).length/64) h (r++t)) ((r++t).drop (64*((r++t).length/64))) ((n:Int)+t.length)/\v=.ab []/\ar=[.aa 105900 0,.str t,.undef,FN]):=by
 refine Cod.BA (λE R hN hR=>?_);simp(disch:=omega)only[go_sem,simprocAttr,Eng.jn,hW];refine kF hN _ (.le (by simp(disch:=omega)only[go_sem,simprocAttr,cQ,hW])) (EW h r t n hr hn hN hR)
theorem b8 (m:Nat):IntKind.u8.wrap (m:Int)=((UInt8.ofNat m).toNat:Int):=by
 show(m:Int)%256=_
 rw[aaF];omega
theorem kA (m k:Nat):(m:Int).fdiv (2^k)=((m >>> k:Nat):Int):=by
 rw[aa2,aaf _ (abI (by decide)),abK,abD];rfl
theorem yK {xs:Bs} {b:UInt8}:xs.map ub++[.int .u8 b.toNat]=(xs++[b]).map ub:=by simp[ub]
theorem Ca (n:Nat) {k:Nat} (hk:k<8):(bZ n).getD k 0=UInt8.ofNat ((8*n) >>> (56-8*k)):=by
 have:k=0\/k=1\/k=2\/k=3\/k=4\/k=5\/k=6\/k=7:=ZG;rcases this with rfl | rfl | rfl | rfl | rfl | rfl | rfl | rfl<;>rfl
theorem mz (xs:Bs) {k:Nat} (hk:k<xs.length):xs.take (k+1)=xs.take k++[xs.getD k 0]:=by
 rw[abH,List.getElem?_eq_getElem hk];simp[ZH,hk]
theorem wV:∀l:List W,(dx l).length=4*l.length
 | []=>rfl
 | x::l=>by
  rw[show dx (x::l)=lE x++dx l from rfl,ZJ,wV l];simp[lE];omega
abbrev my (h:H5) (r:Bs) (n:Int):HP:=[(106900,.var [.sl 106901 0 5,.str r,.int .u64 n]),(106901,.arr 1 (hW h))]
abbrev Ar (h:H5) (r:Bs) (n:Int):HP:=[(106007,.var [.sl 106018 0 5,.str r,.int .u64 n]),(106018,.arr 1 (hW h))]
theorem Nq (h:H5) (r:Bs) (n:Nat) (hr:r.length=n%64) (hn:n<=1000000):Eng.Spec Tryz.prog 124 (my h r n) [.aa 106900 0,.ro 1 (hW start),FN]
    (λh' v ar=>h'=[]/\v=.str (dx (blks ((r.length+(cn n).length)/64) h (r++cn n)).l)/\ar=[.undef,.undef,.undef]):=by
 refine Cod.Ns (λE R hN hR=>?_);simp(disch:=first | omega | (simp only[Lx];omega))only[go_sem,simprocAttr,Eng.jn,hW]
 refine and_self_iff.2 (cV hN ?_);simp(disch:=first | omega | (simp only[Lx];omega))only[go_sem,simprocAttr,Eng.jn,hW]
 refine cV hN ?_;refine wW ?_
 have hpad:∀k,k<cg n->((r.length:Int)+((k:Int)+1))%64≠56:=by
  intro k hk;unfold cg at hk;omega
 have hpe:((r.length:Int)+((cg n:Nat)+1:Int))%64=56:=by
  unfold cg;omega
 have ja:cg n<64:=by unfold cg;omega
 refine aP hN (λk:Nat=>⟨[(0,.aa 106900 0),(1,.ro 1 (hW start)),(2,FN),(7,.aa 106007 0),(8,.str (128::List.replicate k 0))],my h r n++Ar h r n⟩) (λk=>k<=cg n) (λk=>cg n-k) 0 (.le (by simp(disch:=first | omega | (simp only[Lx];omega))only[go_sem,simprocAttr,hW,List.replicate_zero])) ZG ?_
 rintro k R1 hk hR1;by_cases hlt:k<cg n
 ·have hc:=hpad k hlt;have hrep:(128:UInt8)::(List.replicate k 0++[0])=128::List.replicate (k+1) 0:=by rw[abM]
  simp(disch:=first | omega | (simp only[Lx];omega))only[go_sem,simprocAttr,hW,aas,hc]
  refine hR1 (k+1) _ ZG ZG (.le ?_);simp(disch:=first | omega | (simp only[Lx];omega))only[go_sem,simprocAttr,hW,hrep]
 obtain rfl:k=cg n:=ZG;simp(disch:=first | omega | (simp only[Lx];omega))only[go_sem,simprocAttr,hW,aas,hpe]
 refine aP hN (λk:Nat=>⟨[(0,.aa 106900 0),(1,.ro 1 (hW start)),(2,FN),(7,.aa 106007 0),(8,.str (128::List.replicate (cg n) 0)),(9,.sl 106060 0 k),(10,.int .i64 (56-8*(k:Int)))],my h r n++Ar h r n++[(106060,.arr 1 (((bZ n).take k).map ub))]⟩)
  (λk=>k<=8) (λk=>8-k) 0 (.nil 9 106060 1 rfl (.le (by simp(disch:=first | omega | (simp only[Lx];omega))only[go_sem,simprocAttr,hW]))) ZG ?_
 rintro k R2 hk hR2;by_cases hlt:k<8
 ·have htk:=mz (bZ n) (k:=k) hlt;rw[Ca n hlt]at htk;have e1:min ((56:Int)-8*k).toNat 64=56-8*k:=ZG;have e2:(n:Int)*8=((8*n:Nat):Int):=ZG;have e3:IntKind.u64.wrap ((n:Int)*8)=((8*n:Nat):Int):=by rw[e2];exact wrap_u64 ZG
  have hll:((bZ n).take k).length=k:=by rw[ZL];simp[bZ];omega
  have e4:(56:Int)-8*k-8=56-8*((k+1:Nat):Int):=ZG;simp(disch:=first | omega | (simp only[Lx];omega))only[go_sem,simprocAttr,hW,e1,e3]
  refine hR2 (k+1) _ ZG ZG (.le ?_);rw[htk,e4];simp(disch:=first | omega | (simp only[Lx];omega))only[go_sem,simprocAttr,hW,kA,b8,yK]
 obtain rfl:k=8:=ZG;have htl:(128:UInt8)::(List.replicate (cg n) 0++List.take 8 (bZ n))=cn n:=rfl;have htlen:(cn n).length=9+cg n:=by simp[cn,bZ];omega
 simp(disch:=first | omega | (simp only[Lx];omega))only[go_sem,simprocAttr,hW,htl]
 refine lS ⟨[(7,.aa 105900 0),(64,.str (cn n)),(65,.ro 1 (hW start)),(66,FN)],cQ h r n⟩ (.jN 106007 105900 rfl rfl (.jN 106018 105015 rfl rfl (.le (by simp(disch:=first | omega | (simp only[Lx];omega))only[go_sem,simprocAttr,hW])))) rfl ?_
 refine aW (cQ h r n) (Y5 h r (cn n) n ZG ZG) vV nofun ?_;rintro h' v as' ⟨rfl,rfl,rfl⟩;rw[ZJ];generalize hH:blks ((r.length+(cn n).length)/64) h (r++cn n)=H at *
 have hll:H.l.length=5:=rfl;have hHl:hW H=H.l.map u32:=rfl;generalize H.l=l at *
 refine⟨rfl,rfl,?_⟩;rw[show cQ H=λr n=>[(105900,.var [.sl 105015 0 5,.str r,.int .u64 n]),(105015,.arr 1 (hW H))]from rfl,hHl];refine wW ?_
 refine aP hN (λk:Nat=>⟨[(11,.sl 106088 0 (4*k)),(69,.sl 105015 0 5),(70,.int .i64 5),(71,.int .i64 k)],[(105015,.arr 1 (l.map u32)),(106088,.arr 1 ((dx (l.take k)).map ub))]⟩)
  (λk=>k<=5) (λk=>5-k) 0 (.nil 11 106088 1 rfl (.le (by simp(disch:=first | omega | (simp only[Lx];omega))only[go_sem,simprocAttr];rfl))) ZG ?_
 rintro k R3 hk hR3
 have hol:(dx (l.take k)).length=4*k:=by
  rw[wV,ZL];omega
 by_cases hlt:k<5
 ·have htk:dx (l.take (k+1))=dx (l.take k)++lE (l.getD k 0#32):=by
   rw[abH,List.getElem?_eq_getElem ZG,dx,dx,List.flatMap_append];simp[ZH,hll,hlt]
  have f24:∀x:Nat,(x:Int).fdiv (2^min 24 32)=((x >>> 24:Nat):Int):=λx=>kA x 24;have f16:∀x:Nat,(x:Int).fdiv (2^min 16 32)=((x >>> 16:Nat):Int):=λx=>kA x 16;have f8:∀x:Nat,(x:Int).fdiv (2^min 8 32)=((x >>> 8:Nat):Int):=λx=>kA x 8;refine kH @sx @qm f24 f16 f8 b8 ?_;refine hR3 (k+1) _ ZG ZG (.le ?_);rw[htk];simp(disch:=first | omega | (simp only[Lx];omega))only[go_sem,simprocAttr,lE]
  rw[aaq];rfl
 ·obtain rfl:k=5:=ZG;rw[ZK ZG]at hol |-;refine wW ?_;exact hR.wk (h':=[]) (r':=.str (dx l)) (ar':=[.undef,.undef,.undef]) rfl (.le vV) ⟨rfl,rfl,rfl⟩
theorem Eh:Eng.Spec Tryz.prog 122 [] [] (λh' v _=>h'=[(103001,.arr 1 (hW start))]/\v=.sl 103001 0 5):=by
 refine Cod.W9 (λE R hN hR=>?_);refine wW ?_;exact hR.le (h':=[(103001,.arr 1 (hW start))]) (by simp(disch:=omega)only[go_sem,simprocAttr];decide) ⟨rfl,rfl⟩
theorem MN (t:Bs) (ht:t.length<=9223372036854775807):Eng.Spec Tryz.prog 91 [(105900,.var [.aj,.str [],.int .u64 0])] [.aa 105900 0,.str t]
    (λh' v ar=>h'=cQ (blks (t.length/64) start t) (t.drop (64*(t.length/64))) t.length/\v=.ab []/\ar=[.aa 105900 0,.str t]):=by
 refine Cod.MO (λE R hN hR=>?_);refine wW ?_;refine aW [] Eh trivial (λ_=>rfl) ?_;rintro h' v as' ⟨rfl,rfl⟩;refine⟨rfl,rfl,?_⟩;refine wW ?_;refine oI [(105900,.var [.aj,.str [],.int .u64 0])] (bs:=[.aa 105900 0,.str t,.ro 1 (hW start),FN]) (by simp(disch:=omega)only[go_sem,simprocAttr,hW]) (Y4 t ht) vV nofun ?_;rintro h' v as' ⟨rfl,rfl,rfl⟩;refine⟨by simp(disch:=omega)only[go_sem,simprocAttr,cQ,hW],rfl,?_⟩;refine wW ?_;exact hR.le (by simp(disch:=omega)only[go_sem,simprocAttr,cQ,hW]) ⟨rfl,rfl,rfl⟩
theorem ML (h:H5) (r:Bs) (n:Nat) (hr:r.length=n%64) (hn:n<=1000000):Eng.Spec Tryz.prog 92 (my h r n) [.aa 106900 0]
    (λh' v ar=>h'=[]/\v=.str (dx (blks ((r.length+(cn n).length)/64) h (r++cn n)).l)/\ar=[.undef]):=by
 refine Cod.MM (λE R hN hR=>?_);refine wW ?_;refine aW [] Eh trivial (λ_=>rfl) ?_;rintro h' v as' ⟨rfl,rfl⟩;refine⟨rfl,rfl,?_⟩;refine wW ?_;refine oI (my h r n) (bs:=[.aa 106900 0,.ro 1 (hW start),FN]) (by simp(disch:=omega)only[go_sem,simprocAttr,hW]) (Nq h r n hr hn) vV nofun ?_;rintro h' v as' ⟨rfl,rfl,rfl⟩;refine⟨rfl,rfl,?_⟩;refine wW ?_;exact hR.wk (h':=[]) (r':=.str _) (ar':=[.undef]) rfl (.le vV) ⟨rfl,rfl,rfl⟩
theorem tD (t:Bs) (ht:t.length<=1000000):aw Tryz.prog 61 [.str t] (.str (cS t)):=by
 refine Cod.Xu (λE R hN hR=>?_);have hsp:=V8 t;refine wW ?_;refine lS ⟨[(3,.aa 105900 0),(4,.str t)],[(105900,.var [.aj,.str [],.int .u64 0])]⟩ (.jN 109003 105900 rfl rfl (.le vV)) rfl ?_;refine aW [(105900,.var [.aj,.str [],.int .u64 0])] (MN t ZG) vV nofun ?_;rintro h' v as' ⟨rfl,rfl,rfl⟩;refine⟨rfl,rfl,?_⟩;refine wW ?_;have hrl:(t.drop (64*(t.length/64))).length=t.length%64:=by rw[ZN];omega
 refine lS ⟨[(3,.aa 106900 0)],my (blks (t.length/64) start t) (t.drop (64*(t.length/64))) t.length⟩ (.jN 105900 106900 rfl rfl (.jN 105015 106901 rfl rfl (.le (by simp(disch:=omega)only[go_sem,simprocAttr,cQ,hW])))) rfl ?_;refine aW (my (blks (t.length/64) start t) (t.drop (64*(t.length/64))) t.length) (ML _ _ t.length hrl ht) vV nofun ?_;rintro h' v as' ⟨rfl,rfl,rfl⟩;refine⟨rfl,rfl,?_⟩;refine wW ?_;refine hR.ro ⟨rfl,?_⟩;rw[hsp,hrl]
theorem Bu (t:Bs) (b:UInt8):bw (t++[b])=bw t++nC b:=by simp[bw]
theorem EF (b:UInt8):(b.toNat:Int).fdiv (2^min 4 8)=((b.toNat/16:Nat):Int):=by
 exact(kA b.toNat 4).trans (by rw[aa2])
theorem EG (b:UInt8):bits .and .u8 (b.toNat:Int) 15=((b.toNat%16:Nat):Int):=by
 show IntKind.u8.wrap ((BitVec.ofInt 8 (b.toNat:Int) &&& BitVec.ofInt 8 15).toNat:Int)=_
 have hb:=b.toNat_lt;rw[ZU,aaQ,ZT,ZO ZG,show(BitVec.ofInt 8 15).toNat=2^4-1 by decide,aam];exact wrap_u8 ZG
theorem ph (t:Bs) (ht:t.length<=1000000):aw Tryz.prog 37 [.str t] (.str (bw t)):=by
 refine Cod.M7 (λE R hN hR=>?_);refine wW ?_;refine aP hN (λk:Nat=>⟨[(0,.str t),(3,.sl 110022 0 (2*k)),(6,.int .i64 t.length),(7,.int .i64 k)],[(110022,.arr 1 ((bw (t.take k)).map ub))]⟩) (λk=>k<=t.length) (λk=>t.length-k) 0 (.nil 3 110022 1 rfl (.le (by simp(disch:=omega)only[go_sem,simprocAttr];rfl))) ZG ?_;rintro k R1 hk hR1;have hhl:(bw (t.take k)).length=2*k:=by rw[vP,ZL];omega
 by_cases hlt:k<t.length
 ·have htk:bw (t.take (k+1))=bw (t.take k)++nC (t.getD k 0):=by rw[mz t hlt,Bu]
  generalize hb:t.getD k 0=b at *
  have hb1:=b.toNat_lt;refine bU hb @EF @EG ?_;refine hR1 (k+1) _ ZG ZG (.le ?_);rw[htk,show 2*(k+1)=2*k+2 by omega];refine wW ?_;rw[aaq];rfl
 ·obtain rfl:k=t.length:=ZG;rw[ZK ZG]at hhl |-;refine wW ?_;exact hR.wk (h':=[]) (r':=.str (bw t)) (ar':=[.undef]) rfl (.le vV) ⟨rfl,rfl⟩
theorem xH (x:W) (k:Nat) (hk:k<32):aw Tryz.prog 87 [.int .u32 x.toNat,.int .i64 k] (.int .u32 (x.rotateLeft k).toNat):=by
 refine Cod.Vr (λE R hN hR=>?_);refine wW ?_;refine hR.ro ⟨rfl,?_⟩;rw[show min k 32=k by omega,show min ((32:Int)-k).toNat 32=32-k by omega,Dz x hk]
theorem S5 (t:Bs) (k:Nat):(t++128::List.replicate k 0)++[0]=t++128::List.replicate (k+1) (0:UInt8):=by
 rw[abM,aad];rfl
theorem QB (n:Nat) {k:Nat} (hk:k<8):(bZ n).getD k 0=UInt8.ofNat ((8*n) >>> (8*(7-k))):=by
 rw[Ca n hk,show 56-8*k=8*(7-k)by omega]
theorem Vd (t:Bs) (ht:t.length<=1000000):Eng.Spec Tryz.prog 85 [] [.str t]
    (λh' v _=>h'=[(112007,.arr 1 ((t++cn t.length).map ub))]/\v=.sl 112007 0 (t.length+(cn t.length).length)):=by
 refine Cod.Ve (λE R hN hR=>?_);have ja:cg t.length<64:=by unfold cg;omega
 have hpad:∀k,k<cg t.length->((t.length:Int)+1+k)%64≠56:=by
  intro k hk;unfold cg at hk;omega
 have hpe:((t.length:Int)+1+(cg t.length:Nat))%64=56:=by
  unfold cg;omega
 refine wW ?_;refine aP hN (λk:Nat=>⟨[(0,.str t),(3,.sl 112007 0 (t.length+1+k))],[(112007,.arr 1 ((t++128::List.replicate k 0).map ub))]⟩) (λk=>k<=cg t.length) (λk=>cg t.length-k) 0 (.le (by simp(disch:=first | omega | (simp only[Lx];omega))only[go_sem,simprocAttr,List.replicate_zero])) ZG ?_
 rintro k R1 hk hR1;by_cases hlt:k<cg t.length
 ·have hc:=hpad k hlt;have ha:=S5 t k;simp(disch:=first | omega | (simp only[Lx];omega))only[go_sem,simprocAttr,hc,aas]
  refine hR1 (k+1) _ ZG ZG (.le ?_);rw[<-ha,show t.length+1+(k+1)=t.length+1+k+1 by omega];exact vV
 obtain rfl:k=cg t.length:=ZG;have en:IntKind.u64.wrap ((t.length:Int)*8)=((8*t.length:Nat):Int):=by rw[wrap_u64 ZG];omega
 refine aE hpe en ?_
 refine aP hN (λj:Nat=>⟨[(3,.sl 112007 0 (t.length+1+cg t.length+j)),(4,.int .u64 ((8*t.length:Nat):Int)),(5,.int .i64 (7-(j:Int)))],[(112007,.arr 1 ((t++128::(List.replicate (cg t.length) 0++(bZ t.length).take j)).map ub))]⟩)
  (λj=>j<=8) (λj=>8-j) 0 (.le (by simp(disch:=first | omega | (simp only[Lx];omega))only[go_sem,simprocAttr,aaw])) ZG ?_
 rintro j R2 hj hR2;have hll:((bZ t.length).take j).length=j:=by rw[ZL];simp[bZ];omega
 by_cases hlt:j<8
 ·have htk:=mz (bZ t.length) (k:=j) hlt;rw[QB t.length hlt]at htk;have e1:min (8*(7-(j:Int))).toNat 64=8*(7-j):=ZG;have e4:(7:Int)-j-1=7-((j+1:Nat):Int):=ZG;have e5:(7:Int)-j=((7-j:Nat):Int):=ZG;simp(disch:=first | omega | (simp only[Lx];omega))only[go_sem,simprocAttr,aas,hll,e1,kA,b8,yK]
  refine hR2 (j+1) _ ZG ZG (.le ?_);rw[htk,e4];simp(disch:=first | omega | (simp only[Lx];omega))only[go_sem,simprocAttr,aad]
 obtain rfl:j=8:=ZG;have htl:t++(128:UInt8)::(List.replicate (cg t.length) 0++List.take 8 (bZ t.length))=t++cn t.length:=rfl;have htlen:(cn t.length).length=9+cg t.length:=by simp[cn,bZ];omega
 refine ah htl ?_;exact hR.le vV ⟨rfl,by rw[htlen];congr 1;omega⟩
theorem getD_take {α:Type} (d:α) (l:List α) {k i:Nat} (h:i<k):(l.take k).getD i d=l.getD i d:=by
 rw[ZH,ZH,List.getElem?_take_of_lt h]
theorem YW (p:Bs) (i:Nat):(fh p i <<< 24+fh p (i+1) <<< 16)+fh p (i+2) <<< 8+fh p (i+3)=kJ p i:=by
 have hb:∀k,(fh p k).toNat<256:=λk=>by
  have:=(p.getD k 0).toNat_lt;unfold fh;rw[ZT,ZO]<;>omega
 have h0:=hb i;have h1:=hb (i+1);have h2:=hb (i+2);have h3:=hb (i+3);unfold kJ;generalize fh p i=x at *
 generalize fh p (i+1)=y at *
 generalize fh p (i+2)=z at *
 generalize fh p (i+3)=w at *
 apply abm;simp only[BitVec.toNat_add,aaG,aca,aao];rw[ZO (a:=x.toNat*2^24) ZG,ZO (a:=y.toNat*2^16) ZG,ZO (a:=z.toNat*2^8) ZG];rw[ZO (a:=x.toNat*2^24+y.toNat*2^16) ZG,ZO (a:=x.toNat*2^24+y.toNat*2^16+z.toNat*2^8) ZG,ZO ZG];have e1:=abn (i:=24) (b:=y.toNat*2^16) ZG x.toNat;have e2:=abn (i:=16) (b:=z.toNat*2^8) ZG (x.toNat*2^8+y.toNat);have e3:=abn (i:=8) (b:=w.toNat) ZG (x.toNat*2^16+y.toNat*2^8+z.toNat);rw[aco (2^24)]at e1;rw[show 2^16*(x.toNat*2^8+y.toNat)=x.toNat*2^24+y.toNat*2^16 by omega]at e2;rw[show 2^8*(x.toNat*2^16+y.toNat*2^8+z.toNat)=x.toNat*2^24+y.toNat*2^16+z.toNat*2^8 by omega]at e3;rw[e3,e2,e1]
theorem YP (x:W):IntKind.u32.wrap (x.toNat*16777216)=(x <<< 24).toNat:=mG x 24
theorem YO (x:W):IntKind.u32.wrap (x.toNat*65536)=(x <<< 16).toNat:=mG x 16
theorem YQ (x:W):IntKind.u32.wrap (x.toNat*256)=(x <<< 8).toNat:=mG x 8
def eM (p:Bs) (i:Nat):List W:=(sched p i).take i
theorem DR (p:Bs) {i:Nat} (h:i<=80):(eM p i).length=i:=by
 unfold eM;rw[ZL,lz];omega
theorem DS (p:Bs) {i:Nat} (h:i<80):eM p (i+1)=eM p i++[(sched p (i+1)).getD i 0#32]:=by
 unfold eM;have hl:=lz p i;have hl2:=lz p (i+1);rw[abH,List.getElem?_eq_getElem ZG]
 have:(sched p (i+1)).take i=(sched p i).take i:=by
  rw[p6];unfold jl;split<;>rw[List.take_set_of_le (ZM _)]
 rw[this];simp[ZH,hl2,h]
theorem VJ (p:Bs) {i:Nat} (h:i<16):(sched p (i+1)).getD i 0#32=kJ p (4*i):=by
 rw[p6];unfold jl;rw[if_pos h];have:i<80:=ZG;simp[ZH,lz,this]
theorem VI (p:Bs) {i:Nat} (h:¬i<16) (h2:i<80):(sched p (i+1)).getD i 0#32=((eM p i).getD (i-3) 0#32 ^^^ (eM p i).getD (i-8) 0#32 ^^^ (eM p i).getD (i-14) 0#32 ^^^ (eM p i).getD (i-16) 0#32).rotateLeft 1:=by
 unfold eM;rw[getD_take _ _ ZG,getD_take _ _ ZG,getD_take _ _ ZG,getD_take _ _ ZG,p6];unfold jl;rw[if_neg h];simp[ZH,lz,h2]
theorem VH (p:Bs):eM p 80=sched p 80:=by
 unfold eM;rw[ZK (by rw[lz];omega)]
theorem VF (p:Bs) (hp:p.length=64):Eng.Spec Tryz.prog 86 [] [.ro 1 (p.map ub)] (λh' v ar=>h'=[(113005,.arr 1 ((eM p 16).map u32))]/\v=.sl 113005 0 16/\ar=[.undef]):=by
 refine Cod.VE (λE R hN hR=>?_);refine wW ?_;refine aP hN (λk:Nat=>⟨[(0,.ro 1 (p.map ub)),(3,.sl 113005 0 k),(4,.int .i64 (4*(k:Int)))],[(113005,.arr 1 ((eM p k).map u32))]⟩) (λk=>k<=16) (λk=>16-k) 0 (.le (by simp(disch:=omega)only[go_sem,simprocAttr];rfl)) ZG ?_;rintro k R1 hk hR1;have hsl:=DR p (i:=k) ZG;by_cases hlt:k<16
 ·have hss:=DS p (i:=k) ZG;rw[VJ p hlt]at hss;have hws:=YW p (4*k);have e0:(4*(k:Int)).toNat=4*k:=ZG;have e1:(4*(k:Int)+1).toNat=4*k+1:=ZG;have e2:(4*(k:Int)+2).toNat=4*k+2:=ZG;have e3:(4*(k:Int)+3).toNat=4*k+3:=ZG;simp(disch:=omega)only[go_sem,simprocAttr,e0,e1,e2,e3,zB,qu,YP,YO,YQ,qs,zE,hws,yL];refine hR1 (k+1) _ ZG ZG (.le ?_);rw[hss,show 4*((k+1:Nat):Int)=4*(k:Int)+4 by omega];exact vV
 ·obtain rfl:k=16:=ZG;refine wW ?_;exact hR.le vV ⟨rfl,rfl,rfl⟩
theorem Va (l:List W) (hl:l.length<=1000):aw Tryz.prog 88 [.ro 1 (l.map u32)] (.str (dx l)):=by
 refine Cod.Vb (λE R hN hR=>?_);refine wW ?_;refine aP hN (λk:Nat=>⟨[(3,.sl 114006 0 (4*k)),(7,.ro 1 (l.map u32)),(8,.int .i64 l.length),(9,.int .i64 k)],[(114006,.arr 1 ((dx (l.take k)).map ub))]⟩) (λk=>k<=l.length) (λk=>l.length-k) 0 (.le (by simp(disch:=omega)only[go_sem,simprocAttr];rfl)) ZG ?_;rintro k R1 hk hR1;have hol:(dx (l.take k)).length=4*k:=by rw[wV,ZL];omega
 by_cases hlt:k<l.length
 ·have htk:dx (l.take (k+1))=dx (l.take k)++lE (l.getD k 0#32):=by
   rw[abH,List.getElem?_eq_getElem hlt,dx,dx,List.flatMap_append];simp[ZH,hlt]
  have f24:∀x:Nat,(x:Int).fdiv (2^min 24 32)=((x >>> 24:Nat):Int):=λx=>kA x 24;have f16:∀x:Nat,(x:Int).fdiv (2^min 16 32)=((x >>> 16:Nat):Int):=λx=>kA x 16;have f8:∀x:Nat,(x:Int).fdiv (2^min 8 32)=((x >>> 8:Nat):Int):=λx=>kA x 8;refine kH @sx @qm f24 f16 f8 b8 ?_;refine hR1 (k+1) _ ZG ZG (.le ?_);rw[htk,show 4*(k+1)=4*k+4 by omega];simp(disch:=omega)only[go_sem,simprocAttr,lE];rw[aaq];rfl
 ·obtain rfl:k=l.length:=ZG;rw[ZK ZG]at hol |-;refine wW ?_;exact hR.wk (h':=[]) (r':=.str (dx l)) (ar':=[.undef]) rfl (.le vV) ⟨rfl,rfl⟩
theorem M3 (b:UInt8):List.take (b.toNat/16+1-b.toNat/16) (List.drop (b.toNat/16) gD)++List.take (b.toNat%16+1-b.toNat%16) (List.drop (b.toNat%16) gD)=nC b:=by
 have key:∀m:Fin 16,List.take (m.val+1-m.val) (List.drop m.val gD)=[gD.getD m.val 0]:=by decide
 have hb:=b.toNat_lt;have h1:=key ⟨b.toNat/16,ZG⟩;have h2:=key ⟨b.toNat%16,ZG⟩;simp only at h1 h2;rw[h1,h2];rfl
theorem xz (t:Bs) (ht:t.length<=1000000):aw Tryz.prog 30 [.str t] (.str (bw t)):=by
 refine Cod.UR (λE R hN hR=>?_);refine wW ?_;refine aP hN (λk:Nat=>⟨[(0,.str t),(3,.str (bw (t.take k))),(4,.int .i64 k)],[]⟩) (λk=>k<=t.length) (λk=>t.length-k) 0 (.le (by simp(disch:=first | omega | (simp only[Lx];omega))only[go_sem,simprocAttr];rfl)) ZG ?_
 rintro k R1 hk hR1;have hhl:(bw (t.take k)).length=2*k:=by rw[vP,ZL];omega
 by_cases hlt:k<t.length
 ·have htk:bw (t.take (k+1))=bw (t.take k)++nC (t.getD k 0):=by rw[mz t hlt,Bu]
  generalize hb:t.getD k 0=b at *
  have hb1:=b.toNat_lt;have hp:=M3 b;rw[gD]at hp;have e1:((b.toNat:Int)/16+1).toNat=b.toNat/16+1:=ZG;have e2:((b.toNat:Int)/16).toNat=b.toNat/16:=ZG;have e3:((b.toNat:Int)%16+1).toNat=b.toNat%16+1:=ZG;have e4:((b.toNat:Int)%16).toNat=b.toNat%16:=ZG;refine ah hb ?_;rw[e1,e2,e3,e4,hp];exact hR1 (k+1) _ ZG ZG (.le (cU htk))
 ·obtain rfl:k=t.length:=ZG;rw[ZK ZG]at hhl |-;refine wW ?_;exact hR.ro ⟨rfl,rfl⟩
theorem DM (t:Bs) (ht:t.length<=100000):aw Tryz.prog 57 [.str t] (.str (cS t)):=by
 refine Cod.Vo (λE R hN hR=>?_);have htl:=Ep t.length;have aY:(t++cn t.length).length=t.length+(cn t.length).length:=ZJ
 have htb:(cn t.length).length<=80:=by
  have:cg t.length<64:=by unfold cg;omega
  simp[cn,bZ];omega
 have hbz:blks 0 start (t++cn t.length)=start:=rfl;unfold cS at hR;rw[<-aY]at hR htl;refine wW ?_;refine aW [] (Vd t ZG) trivial nofun ?_;rintro h' v as' ⟨rfl,rfl⟩;refine⟨rfl,rfl,?_⟩;rw[<-aY];have hQl:(t++cn t.length).length<=100080:=ZG;generalize t++cn t.length=Q at *
 refine wW ?_;refine aP hN (λj:Nat=>⟨[(3,.sl 112007 0 Q.length),(4,.sl 115019 0 5),(5,.int .i64 (64*(j:Int)))],[(112007,.arr 1 (Q.map ub)),(115019,.arr 1 (hW (blks j start Q)))]⟩) (λj=>64*j<=Q.length) (λj=>Q.length-64*j) 0 (.le (by rw[hbz];simp(disch:=omega)only[go_sem,simprocAttr,hW];decide)) ZG ?_;rintro j R1 hj hR1;by_cases hlt:64*j<Q.length
 ·have hbo:=zi j start Q;generalize hH:blks j start Q=H at *
  have hp:((Q.drop (64*j)).take 64).length=64:=by rw[ZL,ZN];omega
  generalize hpp:(Q.drop (64*j)).take 64=p at *
  have hw:=VF p hp;have e0:(64*(j:Int)).toNat=64*j:=ZG;have e1:(64*(j:Int)+64).toNat=64*j+64:=ZG;have e2:64*j+64-64*j=64:=ZG;refine bU e0 e1 e2 ?_;refine oI [] (bs:=[.ro 1 (p.map ub)]) (cU hpp) hw trivial nofun ?_;rintro h' v as' ⟨rfl,rfl,rfl⟩;refine⟨cU @LG,rfl,?_⟩;refine wW ?_
  refine aP hN (λi:Nat=>⟨[(3,.sl 112007 0 Q.length),(4,.sl 115019 0 5),(5,.int .i64 (64*(j:Int))),(6,.sl 113005 0 i),(7,.int .i64 i)],[(112007,.arr 1 (Q.map ub)),(115019,.arr 1 (hW H)),(113005,.arr 1 ((eM p i).map u32))]⟩)
   (λi=>16<=i/\i<=80) (λi=>80-i) 16 (.le vV) ZG ?_
  rintro i R2 ⟨hi0,hi⟩ hR2;have hsl:=DR p hi;by_cases hlt2:i<80
  ·have hss:=DS p hlt2;rw[VI p ZG hlt2]at hss;have hr:=xH ((eM p i).getD (i-3) 0#32 ^^^ (eM p i).getD (i-8) 0#32 ^^^ (eM p i).getD (i-14) 0#32 ^^^ (eM p i).getD (i-16) 0#32) 1 ZG;have e3:((i:Int)-3).toNat=i-3:=ZG;have e8:((i:Int)-8).toNat=i-8:=ZG;have e14:((i:Int)-14).toNat=i-14:=ZG;have e16:((i:Int)-16).toNat=i-16:=ZG;simp(disch:=omega)only[go_sem,simprocAttr,e3,e8,e14,e16,sx,qm,dP];refine an hr rfl rfl ?_;refine aE @zE @yL ?_;exact hR2 (i+1) _ ZG ZG (.le (cU hss))
  obtain rfl:i=80:=ZG;rw[VH]at hsl |-;generalize hw2:sched p 80=w at *
  simp(disch:=omega)only[go_sem,simprocAttr,ss,su,hW]
  refine aP hN (λi:Nat=>⟨[(3,.sl 112007 0 Q.length),(4,.sl 115019 0 5),(5,.int .i64 (64*(j:Int))),(6,.sl 113005 0 80),(8,.int .u32 (rounds w H i).a.toNat),(9,.int .u32 (rounds w H i).b.toNat),(10,.int .u32 (rounds w H i).c.toNat),(11,.int .u32 (rounds w H i).d.toNat),(12,.int .u32 (rounds w H i).e.toNat),(13,.int .i64 i)],
   [(112007,.arr 1 (Q.map ub)),(115019,.arr 1 (hW H)),(113005,.arr 1 (w.map u32))]⟩) (λi=>i<=80) (λi=>80-i) 0 (.le (cU @DA)) ZG ?_
  rintro i R3 hi hR3;by_cases hlt3:i<80
  ·have hrs:=rounds_succ w H i;generalize hx:rounds w H i=x at *
   have hst:mo w x i=⟨x.a.rotateLeft 5+gR i x.b x.c x.d+x.e+gS i+w.getD i 0#32,x.a,x.b.rotateLeft 30,x.c,x.d⟩:=rfl;have hnot:bits .xor .u32 (x.b.toNat:Int) 4294967295=(~~~x.b).toNat:=YS x.b
   have rest:∀(f:W) (k:Int),f=gR i x.b x.c x.d->k=((gS i).toNat:Int)->vcW Tryz.prog E Cod.Vl (KQ.dk 5 (KQ.seq Tryz.prog E Cod.Vk (KQ.iC R3 (KQ.dk 4 (KQ.seq Tryz.prog E Cod.Vj (KQ.dk 1 (KQ.seq Tryz.prog E Cod.Vn (KQ.iC R1 (KQ.dk 0 (KQ.seq Tryz.prog E Cod.Vm (KQ.post [.tmp 2] 1 R)))))))))))
       ⟨[(3,.sl 112007 0 Q.length),(4,.sl 115019 0 5),(5,.int .i64 (64*(j:Int))),(6,.sl 113005 0 80),(8,.int .u32 x.a.toNat),(9,.int .u32 x.b.toNat),(10,.int .u32 x.c.toNat),(11,.int .u32 x.d.toNat),(12,.int .u32 x.e.toNat),(13,.int .i64 i),(14,.int .u32 f.toNat),(15,.int .u32 k)],
        [(112007,.arr 1 (Q.map ub)),(115019,.arr 1 (hW H)),(113005,.arr 1 (w.map u32))]⟩:=by
    intro f k hf hk;subst hk;have r5:=xH x.a 5 ZG;have r30:=xH x.b 30 ZG;refine aE @sx @qm ?_;refine an r5 rfl rfl ?_;refine ah qs ?_;refine an r30 rfl rfl ?_;refine wW ?_;refine hR3 (i+1) _ ZG ZG (.le ?_);rw[hrs,hst,<-hf];exact vV
   by_cases h20:i<20
   ·refine cM dP fe eE hnot @Eng.jn ?_;refine cV hN ?_;refine cM dP fe eE hnot @Eng.jn ?_;refine cV hN ?_;refine cM dP fe eE hnot @Eng.jn ?_;refine kF hN _ (.le ?_) (rest (x.b &&& x.c ||| ~~~x.b &&& x.d) 1518500249 ?_ ?_);exact vV
    ·unfold gR;rw[if_pos h20]
    ·unfold gS;rw[if_pos h20];decide
   ·by_cases h40:i<40
    ·refine cM dP fe eE hnot @Eng.jn ?_;refine cV hN ?_;refine cM dP fe eE hnot @Eng.jn ?_;refine cV hN ?_;refine cM dP fe eE hnot @Eng.jn ?_;refine kF hN _ (.le ?_) (rest (x.b ^^^ x.c ^^^ x.d) 1859775393 ?_ ?_);exact vV
     ·unfold gR;rw[if_neg h20,if_pos h40]
     ·unfold gS;rw[if_neg h20,if_pos h40];decide
    ·by_cases h60:i<60
     ·refine cM dP fe eE hnot @Eng.jn ?_;refine cV hN ?_;refine cM dP fe eE hnot @Eng.jn ?_;refine cV hN ?_;refine cM dP fe eE hnot @Eng.jn ?_;refine kF hN _ (.le ?_) (rest (x.b &&& x.c ||| x.b &&& x.d ||| x.c &&& x.d) 2400959708 ?_ ?_);exact vV
      ·unfold gR;rw[if_neg h20,if_neg h40,if_pos h60]
      ·unfold gS;rw[if_neg h20,if_neg h40,if_pos h60];decide
     ·refine cM dP fe eE hnot @Eng.jn ?_;refine cV hN ?_;refine cM dP fe eE hnot @Eng.jn ?_;refine cV hN ?_;refine cM dP fe eE hnot @Eng.jn ?_;refine kF hN _ (.le ?_) (rest (x.b ^^^ x.c ^^^ x.d) 3395469782 ?_ ?_);exact vV
      ·unfold gR;rw[if_neg h20,if_neg h40,if_neg h60]
      ·unfold gS;rw[if_neg h20,if_neg h40,if_neg h60];decide
  ·obtain rfl:i=80:=ZG;generalize hx:rounds w H 80=x at *
   simp(disch:=omega)only[go_sem,simprocAttr,ss,su,qs,hW];refine hR1 (j+1) _ ZG ZG (.drop 115019 (.jN 115161 115019 rfl rfl (.le ?_)));rw[hbo,dk,hw2,hx,show 64*((j+1:Nat):Int)=64*(j:Int)+64 by omega];simp(disch:=omega)only[go_sem,simprocAttr,hW,H5.add]
 ·have hq:j=Q.length/64:=ZG;rw[<-hq]at hR;refine wW ?_;refine Ij (bs:=[.ro 1 (hW (blks j start Q))]) vV (Va (blks j start Q).l (by simp[H5.l])) rfl ?_;refine wW ?_;exact hR.wk (h':=[]) (r':=.str _) (ar':=[.undef]) rfl (.le vV) ⟨rfl,rfl⟩
end Go.Proofs.YtkdjbebgdoohjaaGreatDoor.Sh
