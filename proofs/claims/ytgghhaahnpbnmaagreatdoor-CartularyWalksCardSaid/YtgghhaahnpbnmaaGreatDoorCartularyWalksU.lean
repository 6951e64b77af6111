/- The proof, part 21 of 51. -/
import Derived.Test.YtgghhaahnpbnmaaGreatDoorCartularyWalksT
import Derived.Test.YtgghhaahnpbnmaaGreatDoorProg
import Derived.KernelRfl
set_option linter.all false
namespace Go.Proofs.YtgghhaahnpbnmaaGreatDoor.Cod
open Eng Eng.Kz
set_option maxRecDepth 100000
abbrev Yb:=Kf.s2 101 Tryz.func124
abbrev abL:=Kf.s1 102 Tryz.func123
abbrev ZT:=Kf.s0 103 Tryz.func85
abbrev pV:AK:=pk (x:=Kc.code Tryz.prog Tryz.f86 104 [] (Kc.lr 4 [])) _
abbrev JX:AK:=pk (x:=pV.y.y.y.x.y.x.x.y.y.y) _
abbrev JY:AK:=pk (x:=pV.y.y.y.x.y.x.x.y.y.x.x.y.y.y) _
abbrev JZ:AK:=pk (x:=pV.y.y.y.y) _
theorem J1:gS Tryz.prog 86 104000 2 pV []:=⟨_,Tryz.func86,by kernel_rfl⟩
theorem J3 {h a0 a1 g0 g1 Post} (hp:gu Tryz.prog pV [] 4 [(0,a0),(1,a1),(2000000,a0),(2000001,a1),(2000002,g0),(2000003,g1)] h Post):Eng.jQ Tryz.prog 86 2 h [a0,a1,g0,g1] Post:=Zw J1 (adQ rfl) [(0,a0),(1,a1),(2000000,a0),(2000001,a1),(2000002,g0),(2000003,g1)] ⟨rfl,rfl,rfl,rfl,rfl,rfl,trivial⟩ hp
abbrev Qo:AK:=pk (x:=Kc.code Tryz.prog Tryz.f84 105 [] (Kc.lr 4 [])) _
abbrev Qp:AK:=pk (x:=Qo.y) _
abbrev Dc:=Kf.k4 105 Tryz.func84
abbrev Qn:=Kf.k3 106 Tryz.func87
abbrev PR:=Kf.k2 107 Tryz.func57
abbrev PO:=Kf.k1 108 Tryz.func58
abbrev aai:=Kf.s1 109 Tryz.func24
abbrev Qa:=Kf.s1 110 Tryz.func23
end Go.Proofs.YtgghhaahnpbnmaaGreatDoor.Cod
namespace Go.Proofs.YtgghhaahnpbnmaaGreatDoor.Sh
open Eng
set_option maxRecDepth 10000
theorem sc {k:Nat} (hk:k<32):bits .and .u64 (k:Int) 31=k:=by
 show IntKind.u64.wrap ((BitVec.ofInt 64 (k:Int) &&& BitVec.ofInt 64 31).toNat:Int)=_
 rw[acM,adZ,acP,acL acB,show(BitVec.ofInt 64 31).toNat=2^5-1 by decide,Nat.and_two_pow_sub_one_of_lt_two_pow acB];exact wrap_u64 acB
theorem Ya (x:W) {k:Nat} (hk:k<32):bits .or .u32 (IntKind.u32.wrap (↑(BitVec.toNat x)*2^k)) ((↑(BitVec.toNat x):Int).fdiv (2^(32-k)))=(x.rotateLeft k).toNat:=by
 rw[vH,He,mj,BitVec.rotateLeft_def,acL hk]
theorem yT (x:W) (k:Nat) (hk:k<32):aw Tryz.prog 124 [.int .u32 x.toNat,.int .i64 k] (.int .u32 (x.rotateLeft k).toNat):=by
 refine Cod.Yb (λE R hN hR=>?_);have h1:=sc hk;refine ah h1 ?_;refine hR.ro ⟨rfl,?_⟩;rw[show min k 32=k by omega,show min ((32:Int)-k).toNat 32=32-k by omega,Ya x hk]
theorem Ks (p:Bs) (i:Nat):((p.getD i 0).toNat:Int)=((mF p i).toNat:Int):=by
 rw[mF,acP,acL];have:=(p.getD i 0).toNat_lt;omega
theorem abK (p:Bs) (hp:4<=p.length):aw Tryz.prog 123 [.str p] (.int .u32 (py p 0).toNat):=by
 refine Cod.abL (λE R hN hR=>?_);refine aV @Ks vG ?_;refine hR.ro ⟨rfl,?_⟩;rw[show min 24 32=24 by rfl,show min 16 32=16 by rfl,show min 8 32=8 by rfl,vH,vH,vH,mj,mj,mj];rfl
theorem z80:(List.replicate 80 0#32).map u32=[.int .u32 0,.int .u32 0,.int .u32 0,.int .u32 0,.int .u32 0,.int .u32 0,.int .u32 0,.int .u32 0,.int .u32 0,.int .u32 0,.int .u32 0,.int .u32 0,.int .u32 0,.int .u32 0,.int .u32 0,.int .u32 0,.int .u32 0,.int .u32 0,.int .u32 0,.int .u32 0,.int .u32 0,.int .u32 0,.int .u32 0,.int .u32 0,.int .u32 0,.int .u32 0,.int .u32 0,.int .u32 0,.int .u32 0,.int .u32 0,.int .u32 0,.int .u32 0,.int .u32 0,.int .u32 0,.int .u32 0,.int .u32 0,.int .u32 0,.int .u32 0,.int .u32 0,.int .u32 0,.int .u32 0,.int .u32 0,.int .u32 0,.int .u32 0,.int .u32 0,.int .u32 0,.int .u32 0,.int .u32 0,.int .u32 0,.int .u32 0,.int .u32 0,.int .u32 0,.int .u32 0,.int .u32 0,.int .u32 0,.int .u32 0,.int .u32 0,.int .u32 0,.int .u32 0,.int .u32 0,.int .u32 0,.int .u32 0,.int .u32 0,.int .u32 0,.int .u32 0,.int .u32 0,.int .u32 0,.int .u32 0,.int .u32 0,.int .u32 0,.int .u32 0,.int .u32 0,.int .u32 0,.int .u32 0,.int .u32 0,.int .u32 0,.int .u32 0,.int .u32 0,.int .u32 0,.int .u32 0]:=by rfl
theorem Eo (x:AV) (r:List AV):nth (x::r) 0=x:=(rfl)
theorem Ep (x:AV) (r:List AV) (k:Nat):nth (x::r) (k+1)=nth r k:=by simp[nth]
theorem tB {xs:List W} {i:Nat} (h:i<xs.length):(xs.map u32).getD i .undef=.int .u32 (xs.getD i 0#32).toNat:=by
 simp[acC,h,u32]
theorem MW {xs:List W} {i:Nat} (h:i<xs.length):((xs.map u32).drop i).getD 0 .undef=.int .u32 (xs.getD i 0#32).toNat:=by
 simp[acC,h,u32]
theorem FU {xs:List W} {i:Nat} {y:W} (h:i<xs.length):(xs.map u32).take i++[.int .u32 y.toNat]++(xs.map u32).drop (i+1)=(xs.set i y).map u32:=by
 rw[<-GM,<-List.map_take,<-List.map_drop,ad6,if_pos h];simp
abbrev hW (h:H5):List AV:=[.int .u32 h.a.toNat,.int .u32 h.b.toNat,.int .u32 h.c.toNat,.int .u32 h.d.toNat,.int .u32 h.e.toNat]
abbrev cU (h:H5) (r:Bs) (n:Int):HP:=[(105900,.var [.sl 105015 0 5,.str r,.int .u64 n]),(105015,.arr 1 (hW h))]
theorem abJ (p:Bs) (k:Nat):py (p.drop k) 0=py p k:=by
 simp[py,mF,acC,List.getElem?_drop]
theorem J2 (h:H5) (p r:Bs) (n:Int) (hp:p.length=64):jQ Tryz.prog 86 2 (cU h r n) [.sl 105015 0 5,.str p,.aa 105900 0,.aa 105900 0]
    (λh' v ar=>h'=cU (ff h p) r n/\v=.ab []/\ar=[.sl 105015 0 5,.str p,.aa 105900 0,.aa 105900 0]):=by
 refine Cod.J3 (λE R hN hR=>?_);simp(disch:=first | omega | (simp only[Lx];omega))only[go_sem,simprocAttr,cU,hW]
 refine aJ hN (λi:Nat=>⟨[(0,.sl 105015 0 5),(1,.str p),(4,.aa 104004 0),(15,.int .i64 i),(2000000,.sl 105015 0 5),(2000001,.str p),(2000002,.aa 105900 0),(2000003,.aa 105900 0)],
  [(104004,.var ((sched p i).map u32)),(105900,.var [.sl 105015 0 5,.str r,.int .u64 n]),(105015,.arr 1 (hW h))]⟩) (λi=>i<=80) (λi=>80-i) 0 (.le (by simp(disch:=first | omega | (simp only[Lx];omega))only[go_sem,simprocAttr,FQ,z80];and_intros<;>rfl)) acB ?_
 rintro i R1 hi hR1;have hsl:=FM p i;by_cases hlt:i<80
 ·have hss:=FP p i;generalize hw:sched p i=w at *
  by_cases h16:i<16
  ·have hstep:me p w i=w.set i (py p (4*i)):=by unfold me;rw[if_pos h16]
   rw[hstep]at hss;have hw2:=abK (p.drop (4*i)) (by rw[acK];omega);rw[abJ]at hw2;have e1:(4*(i:Int)).toNat=4*i:=acB;refine ah e1 ?_;refine aj hw2 rfl rfl ?_;refine aV @FU @adB ?_;exact hR1 (i+1) _ acB acB (.le (eY hss))
  ·have hstep:me p w i=w.set i ((w.getD (i-3) 0#32 ^^^ w.getD (i-8) 0#32 ^^^ w.getD (i-14) 0#32 ^^^ w.getD (i-16) 0#32).rotateLeft 1):=by unfold me;rw[if_neg h16]
   rw[hstep]at hss;have hr:=yT (w.getD (i-3) 0#32 ^^^ w.getD (i-8) 0#32 ^^^ w.getD (i-14) 0#32 ^^^ w.getD (i-16) 0#32) 1 acB;have e3:((i:Int)-3).toNat=i-3:=acB;have e8:((i:Int)-8).toNat=i-8:=acB;have e14:((i:Int)-14).toNat=i-14:=acB;have e16:((i:Int)-16).toNat=i-16:=acB;simp(disch:=first | omega | (simp only[Lx];omega))only[go_sem,simprocAttr,e3,e8,e14,e16,adB,MW,mn]
   refine aj hr rfl rfl ?_;refine aV @FU @adB ?_;exact hR1 (i+1) _ acB acB (.le (eY hss))
 ·obtain rfl:i=80:=acB;refine aV @Eo @Ep ?_;generalize hw:sched p 80=w at *
  refine aJ hN (λi:Nat=>⟨[(0,.sl 105015 0 5),(6,.int .u32 (rounds w h i).a.toNat),(7,.int .u32 (rounds w h i).b.toNat),(8,.int .u32 (rounds w h i).c.toNat),(9,.int .u32 (rounds w h i).d.toNat),(10,.int .u32 (rounds w h i).e.toNat),
   (65,.agg (w.map u32)),(66,.int .i64 i),(2000000,.sl 105015 0 5),(2000001,.str p),(2000002,.aa 105900 0),(2000003,.aa 105900 0)],
   [(105900,.var [.sl 105015 0 5,.str r,.int .u64 n]),(105015,.arr 1 (hW h))]⟩) (λi=>i<=80) (λi=>80-i) 0 (.le (eY @Yc)) acB ?_
  rintro i R2 hi hR2;by_cases hlt:i<80
  ·have hrs:=rounds_succ w h i;generalize hx:rounds w h i=x at *
   have hst:o4 w x i=⟨x.a.rotateLeft 5+mO i x.b x.c x.d+x.e+dM i+w.getD i 0#32,x.a,x.b.rotateLeft 30,x.c,x.d⟩:=rfl
   have rest:∀(f:W) (k:Int),f=mO i x.b x.c x.d->k=((dM i).toNat:Int)->vcW Tryz.prog E Cod.JY (KQ.ff 3 (KQ.seq Tryz.prog E Cod.JX (KQ.ke R2 (KQ.ff 2 (KQ.seq Tryz.prog E Cod.JZ (KQ.post [] 4 R))))))
       ⟨[(0,.sl 105015 0 5),(6,.int .u32 x.a.toNat),(7,.int .u32 x.b.toNat),(8,.int .u32 x.c.toNat),(9,.int .u32 x.d.toNat),(10,.int .u32 x.e.toNat),(12,.int .u32 (w.getD i 0#32).toNat),(13,.int .u32 f.toNat),(14,.int .u32 k),
        (65,.agg (w.map u32)),(66,.int .i64 i),(2000000,.sl 105015 0 5),(2000001,.str p),(2000002,.aa 105900 0),(2000003,.aa 105900 0)],[(105900,.var [.sl 105015 0 5,.str r,.int .u64 n]),(105015,.arr 1 (hW h))]⟩:=by
    intro f k hf hk;subst hk;have r5:=yT x.a 5 acB;have r30:=yT x.b 30 acB;refine wW ?_;refine aj r5 rfl rfl ?_;refine ah G8 ?_;refine aj r30 rfl rfl ?_;refine wW ?_;refine hR2 (i+1) _ acB acB (.le ?_);rw[hrs,hst,<-hf];exact vV
   have hd:(i:Int).tdiv 20=((i/20:Nat):Int):=rfl;have hnot:bits .xor .u32 (if IntKind.u32.signed=true then -1 else IntKind.u32.max) (x.b.toNat:Int)=(~~~x.b).toNat:=Hb x.b
   by_cases h20:i<20
   ·have hq:i/20=0:=acB;rw[hq]at hd;simp(disch:=first | omega | (simp only[Lx];omega))only[go_sem,simprocAttr,hd,tB,mn,pw,mj,hnot,Eng.jn]
    refine dU hN (rest _ 1518500249 ?_ ?_)
    ·unfold mO;rw[if_pos h20]
    ·unfold dM;rw[if_pos h20];decide
   ·by_cases h40:i<40
    ·have hq:i/20=1:=acB;rw[hq]at hd;simp(disch:=first | omega | (simp only[Lx];omega))only[go_sem,simprocAttr,hd,tB,mn,pw,mj,hnot,Eng.jn]
     refine dU hN (rest _ 1859775393 ?_ ?_)
     ·unfold mO;rw[if_neg h20,if_pos h40]
     ·unfold dM;rw[if_neg h20,if_pos h40];decide
    ·by_cases h60:i<60
     ·have hq:i/20=2:=acB;rw[hq]at hd;simp(disch:=first | omega | (simp only[Lx];omega))only[go_sem,simprocAttr,hd,tB,mn,pw,mj,hnot,Eng.jn]
      refine dU hN (rest _ 2400959708 ?_ ?_)
      ·unfold mO;rw[if_neg h20,if_neg h40,if_pos h60]
      ·unfold dM;rw[if_neg h20,if_neg h40,if_pos h60];decide
     ·have hq:i/20=3:=acB;rw[hq]at hd;simp(disch:=first | omega | (simp only[Lx];omega))only[go_sem,simprocAttr,hd,tB,mn,pw,mj,hnot,Eng.jn]
      refine rO hN _ (.le ?_) (rest (x.b ^^^ x.c ^^^ x.d) 3395469782 ?_ ?_);exact vV
      ·unfold mO;rw[if_neg h20,if_neg h40,if_neg h60]
      ·unfold dM;rw[if_neg h20,if_neg h40,if_neg h60];decide
  ·obtain rfl:i=80:=acB;generalize hx:rounds w h 80=x at *
   simp(disch:=first | omega | (simp only[Lx];omega))only[go_sem,simprocAttr,Eo,Ep,G8,hW]
   exact hR.le (h':=cU (h.add x) r n) (by simp(disch:=first | omega | (simp only[Lx];omega))only[go_sem,simprocAttr,H5.add]) ⟨by rw[ff,hw,hx],rfl,rfl⟩
open Eng
set_option maxRecDepth 10000
abbrev FN:AV:=.lit (.func (.func 86) #[] #[])
theorem J0:callable Tryz.prog 86=true:=by kernel_rfl
theorem Hd (h:H5) (r t:Bs) (n:Nat) (ht:r.length+t.length<=9223372036854775807) (hn:n+t.length<=9223372036854775807) {E:Env} {R:HP->AV->List AV->Prop} (hN:E.N<=1000000)
    (hR:cM (λh' v ar=>h'=cU (blks ((r++t).length/64) h (r++t)) ((r++t).drop (64*((r++t).length/64))) ((n:Int)+t.length)/\v=.ab []/\ar=[.aa 105900 0,.str t,.undef,FN]) R) :
    vcW Tryz.prog E Cod.Qp (KQ.post [] 4 R) ⟨[(0,.aa 105900 0),(1,.str t),(3,FN),(2000000,.aa 105900 0),(2000001,.str t),(2000003,FN)],cU h r n⟩:=by
 have en:IntKind.u64.wrap ((n:Int)+(t.length:Int))=(n:Int)+t.length:=wrap_u64 acB;simp(disch:=first | omega | (simp only[Lx];omega))only[go_sem,simprocAttr,cU,hW,en]
 have hl:(r++t).length<=9223372036854775807:=by simp;omega
 generalize hs:r++t=s at *
 refine aJ hN (λj:Nat=>⟨[(0,.aa 105900 0),(1,.str (s.drop (64*j))),(3,FN),(2000000,.aa 105900 0),(2000001,.str t),(2000003,FN)],cU (blks j h s) r ((n:Int)+t.length)⟩) (λj=>64*j<=s.length) (λj=>s.length-64*j) 0 (.le (by simp(disch:=first | omega | (simp only[Lx];omega))only[go_sem,simprocAttr,cU,hW,blks])) acB ?_
 rintro j R1 hj hR1;by_cases hlt:64<=(s.drop (64*j)).length
 ·have hlt':=hlt;rw[acK]at hlt';have hbo:=JW j h s;generalize hH:blks j h s=H at *
  generalize hu:s.drop (64*j)=u at *
  have hb:=J2 H (u.take 64) r ((n:Int)+t.length) (by rw[acJ];omega);simp(disch:=first | omega | (simp only[Lx];omega))only[go_sem,simprocAttr,cU,hW]
  refine s8 J0 (A8 (n:=2) [0,2000000] vV vV rfl hb ?_);rintro h' v as' ⟨rfl,rfl,rfl⟩;simp(disch:=first | omega | (simp only[Lx];omega))only[go_sem,simprocAttr,cU,hW]
  refine hR1 (j+1) _ acB acB (.le ?_);have hd:s.drop (64*(j+1))=u.drop 64:=by rw[<-hu,ad4];rfl
  rw[hbo,hd];simp(disch:=first | omega | (simp only[Lx];omega))only[go_sem,simprocAttr,cU,hW]
 ·have hq:j=s.length/64:=by rw[acK]at hlt;omega
  simp(disch:=first | omega | (simp only[Lx];omega))only[go_sem,simprocAttr,cU,hW]
  refine hR.le ?_ ⟨rfl,rfl,rfl⟩;rw[<-hq];simp(disch:=first | omega | (simp only[Lx];omega))only[go_sem,simprocAttr,cU,hW]
theorem abT (t:Bs) (ht:t.length<=9223372036854775807):Eng.Spec Tryz.prog 84 [(105900,.var [.an,.str [],.int .u64 0])] [.aa 105900 0,.str t,.ro 1 (hW start),FN]
    (λh' v ar=>h'=cU (blks (t.length/64) start t) (t.drop (64*(t.length/64))) t.length/\v=.ab []/\ar=[.aa 105900 0,.str t,.undef,FN]):=by
 refine Cod.Dc (λE R hN hR=>?_);simp(disch:=omega)only[go_sem,simprocAttr,Eng.jn,hW];refine rO hN _ (.le (by simp(disch:=omega)only[go_sem,simprocAttr,cU,hW])) (Hd start [] t 0 (by simpa using ht) acB hN ?_);intro h' v ar h2 v2 ar2 e1 e2 e3;refine hR h' v ar h2 v2 ar2 e1 e2 ?_;simpa using e3
theorem abU (h:H5) (r t:Bs) (n:Nat) (hr:r.length+t.length<=9223372036854775807) (hn:n+t.length<=9223372036854775807):Eng.Spec Tryz.prog 84 (cU h r n) [.aa 105900 0,.str t,.ro 1 (hW start),FN]
    (λh' v ar=>h'=cU (blks ((r++t).length/64) h (r++t)) ((r++t).drop (64*((r++t).length/64))) ((n:Int)+t.length)/\v=.ab []/\ar=[.aa 105900 0,.str t,.undef,FN]):=by
 refine Cod.Dc (λE R hN hR=>?_);simp(disch:=omega)only[go_sem,simprocAttr,Eng.jn,hW];refine rO hN _ (.le (by simp(disch:=omega)only[go_sem,simprocAttr,cU,hW])) (Hd h r t n hr hn hN hR)
theorem b8 (m:Nat):IntKind.u8.wrap (m:Int)=((UInt8.ofNat m).toNat:Int):=by
 show(m:Int)%256=_
 rw[ada];omega
theorem ny (m k:Nat):(m:Int).fdiv (2^k)=((m >>> k:Nat):Int):=by
 rw[aea,ac6 _ (ael (by decide)),aeS,aeI];rfl
theorem ID {xs:Bs} {b:UInt8}:xs.map ub++[.int .u8 b.toNat]=(xs++[b]).map ub:=by simp[ub]
theorem TT (n:Nat) {k:Nat} (hk:k<8):(bx n).getD k 0=UInt8.ofNat ((8*n) >>> (56-8*k)):=by
 have:k=0\/k=1\/k=2\/k=3\/k=4\/k=5\/k=6\/k=7:=acB;rcases this with rfl | rfl | rfl | rfl | rfl | rfl | rfl | rfl<;>rfl
theorem pf (xs:Bs) {k:Nat} (hk:k<xs.length):xs.take (k+1)=xs.take k++[xs.getD k 0]:=by
 rw[List.take_add_one,List.getElem?_eq_getElem hk];simp[acC,hk]
theorem EA:∀l:List W,(gD l).length=4*l.length
 | []=>rfl
 | x::l=>by
  rw[show gD (x::l)=ph x++gD l from rfl,acD,EA l];simp[ph];omega
abbrev nC (h:H5) (r:Bs) (n:Int):HP:=[(106900,.var [.sl 106901 0 5,.str r,.int .u64 n]),(106901,.arr 1 (hW h))]
abbrev B7 (h:H5) (r:Bs) (n:Int):HP:=[(106007,.var [.sl 106018 0 5,.str r,.int .u64 n]),(106018,.arr 1 (hW h))]
theorem Qm (h:H5) (r:Bs) (n:Nat) (hr:r.length=n%64) (hn:n<=1000000):Eng.Spec Tryz.prog 87 (nC h r n) [.aa 106900 0,.ro 1 (hW start),FN]
    (λh' v ar=>h'=[]/\v=.str (gD (blks ((r.length+(eU n).length)/64) h (r++eU n)).l)/\ar=[.undef,.undef,.undef]):=by
 refine Cod.Qn (λE R hN hR=>?_);simp(disch:=first | omega | (simp only[Lx];omega))only[go_sem,simprocAttr,Eng.jn,hW]
 refine and_self_iff.2 (dU hN ?_);simp(disch:=first | omega | (simp only[Lx];omega))only[go_sem,simprocAttr,Eng.jn,hW]
 refine dU hN ?_;refine wW ?_
 have hpad:∀k,k<gE n->((r.length:Int)+((k:Int)+1))%64≠56:=by
  intro k hk;unfold gE at hk;omega
 have hpe:((r.length:Int)+((gE n:Nat)+1:Int))%64=56:=by
  unfold gE;omega
 have gy:gE n<64:=by unfold gE;omega
 refine aJ hN (λk:Nat=>⟨[(0,.aa 106900 0),(1,.ro 1 (hW start)),(2,FN),(7,.aa 106007 0),(8,.str (128::List.replicate k 0))],nC h r n++B7 h r n⟩) (λk=>k<=gE n) (λk=>gE n-k) 0 (.le (by simp(disch:=first | omega | (simp only[Lx];omega))only[go_sem,simprocAttr,hW,List.replicate_zero])) acB ?_
 rintro k R1 hk hR1;by_cases hlt:k<gE n
 ·have hc:=hpad k hlt;have hrep:(128:UInt8)::(List.replicate k 0++[0])=128::List.replicate (k+1) 0:=by rw[aey]
  simp(disch:=first | omega | (simp only[Lx];omega))only[go_sem,simprocAttr,hW,ac3,hc]
  refine hR1 (k+1) _ acB acB (.le ?_);simp(disch:=first | omega | (simp only[Lx];omega))only[go_sem,simprocAttr,hW,hrep]
 obtain rfl:k=gE n:=acB;simp(disch:=first | omega | (simp only[Lx];omega))only[go_sem,simprocAttr,hW,ac3,hpe]
 refine aJ hN (λk:Nat=>⟨[(0,.aa 106900 0),(1,.ro 1 (hW start)),(2,FN),(7,.aa 106007 0),(8,.str (128::List.replicate (gE n) 0)),(9,.sl 106060 0 k),(10,.int .i64 (56-8*(k:Int)))],nC h r n++B7 h r n++[(106060,.arr 1 (((bx n).take k).map ub))]⟩)
  (λk=>k<=8) (λk=>8-k) 0 (.nil 9 106060 1 rfl (.le (by simp(disch:=first | omega | (simp only[Lx];omega))only[go_sem,simprocAttr,hW]))) acB ?_
 rintro k R2 hk hR2;by_cases hlt:k<8
 ·have htk:=pf (bx n) (k:=k) hlt;rw[TT n hlt]at htk;have e1:min ((56:Int)-8*k).toNat 64=56-8*k:=acB;have e2:(n:Int)*8=((8*n:Nat):Int):=acB;have e3:IntKind.u64.wrap ((n:Int)*8)=((8*n:Nat):Int):=by rw[e2];exact wrap_u64 acB
  have hll:((bx n).take k).length=k:=by rw[acJ];simp[bx];omega
  have e4:(56:Int)-8*k-8=56-8*((k+1:Nat):Int):=acB;simp(disch:=first | omega | (simp only[Lx];omega))only[go_sem,simprocAttr,hW,e1,e3]
  refine hR2 (k+1) _ acB acB (.le ?_);rw[htk,e4];simp(disch:=first | omega | (simp only[Lx];omega))only[go_sem,simprocAttr,hW,ny,b8,ID]
 obtain rfl:k=8:=acB;have htl:(128:UInt8)::(List.replicate (gE n) 0++List.take 8 (bx n))=eU n:=rfl;have htlen:(eU n).length=9+gE n:=by simp[eU,bx];omega
 simp(disch:=first | omega | (simp only[Lx];omega))only[go_sem,simprocAttr,hW,htl]
 refine lE ⟨[(7,.aa 105900 0),(64,.str (eU n)),(65,.ro 1 (hW start)),(66,FN)],cU h r n⟩ (.iZ 106007 105900 rfl rfl (.iZ 106018 105015 rfl rfl (.le (by simp(disch:=first | omega | (simp only[Lx];omega))only[go_sem,simprocAttr,hW])))) rfl ?_
 refine aN (cU h r n) (abU h r (eU n) n acB acB) vV nofun ?_;rintro h' v as' ⟨rfl,rfl,rfl⟩;rw[acD];generalize hH:blks ((r.length+(eU n).length)/64) h (r++eU n)=H at *
 have hll:H.l.length=5:=rfl;have hHl:hW H=H.l.map u32:=rfl;generalize H.l=l at *
 refine⟨rfl,rfl,?_⟩;rw[show cU H=λr n=>[(105900,.var [.sl 105015 0 5,.str r,.int .u64 n]),(105015,.arr 1 (hW H))]from rfl,hHl];refine wW ?_
 refine aJ hN (λk:Nat=>⟨[(11,.sl 106088 0 (4*k)),(69,.sl 105015 0 5),(70,.int .i64 5),(71,.int .i64 k)],[(105015,.arr 1 (l.map u32)),(106088,.arr 1 ((gD (l.take k)).map ub))]⟩)
  (λk=>k<=5) (λk=>5-k) 0 (.nil 11 106088 1 rfl (.le (by simp(disch:=first | omega | (simp only[Lx];omega))only[go_sem,simprocAttr];rfl))) acB ?_
 rintro k R3 hk hR3
 have hol:(gD (l.take k)).length=4*k:=by
  rw[EA,acJ];omega
 by_cases hlt:k<5
 ·have htk:gD (l.take (k+1))=gD (l.take k)++ph (l.getD k 0#32):=by
   rw[List.take_add_one,List.getElem?_eq_getElem acB,gD,gD,List.flatMap_append];simp[acC,hll,hlt]
  have f24:∀x:Nat,(x:Int).fdiv (2^min 24 32)=((x >>> 24:Nat):Int):=λx=>ny x 24;have f16:∀x:Nat,(x:Int).fdiv (2^min 16 32)=((x >>> 16:Nat):Int):=λx=>ny x 16;have f8:∀x:Nat,(x:Int).fdiv (2^min 8 32)=((x >>> 8:Nat):Int):=λx=>ny x 8;refine rQ @Vk @GM f24 f16 f8 b8 ?_;refine hR3 (k+1) _ acB acB (.le ?_);rw[htk];simp(disch:=first | omega | (simp only[Lx];omega))only[go_sem,simprocAttr,ph]
  rw[ady];rfl
 ·obtain rfl:k=5:=acB;rw[acF acB]at hol |-;refine wW ?_;exact hR.wk (h':=[]) (r':=.str (gD l)) (ar':=[.undef,.undef,.undef]) rfl (.le vV) ⟨rfl,rfl,rfl⟩
theorem Gm:Eng.Spec Tryz.prog 85 [] [] (λh' v _=>h'=[(103001,.arr 1 (hW start))]/\v=.sl 103001 0 5):=by
 refine Cod.ZT (λE R hN hR=>?_);refine wW ?_;exact hR.le (h':=[(103001,.arr 1 (hW start))]) (by simp(disch:=omega)only[go_sem,simprocAttr];decide) ⟨rfl,rfl⟩
theorem PQ (t:Bs) (ht:t.length<=9223372036854775807):Eng.Spec Tryz.prog 57 [(105900,.var [.an,.str [],.int .u64 0])] [.aa 105900 0,.str t]
    (λh' v ar=>h'=cU (blks (t.length/64) start t) (t.drop (64*(t.length/64))) t.length/\v=.ab []/\ar=[.aa 105900 0,.str t]):=by
 refine Cod.PR (λE R hN hR=>?_);refine wW ?_;refine aN [] Gm trivial (λ_=>rfl) ?_;rintro h' v as' ⟨rfl,rfl⟩;refine⟨rfl,rfl,?_⟩;refine wW ?_;refine sA [(105900,.var [.an,.str [],.int .u64 0])] (bs:=[.aa 105900 0,.str t,.ro 1 (hW start),FN]) (by simp(disch:=omega)only[go_sem,simprocAttr,hW]) (abT t ht) vV nofun ?_;rintro h' v as' ⟨rfl,rfl,rfl⟩;refine⟨by simp(disch:=omega)only[go_sem,simprocAttr,cU,hW],rfl,?_⟩;refine wW ?_;exact hR.le (by simp(disch:=omega)only[go_sem,simprocAttr,cU,hW]) ⟨rfl,rfl,rfl⟩
theorem PN (h:H5) (r:Bs) (n:Nat) (hr:r.length=n%64) (hn:n<=1000000):Eng.Spec Tryz.prog 58 (nC h r n) [.aa 106900 0]
    (λh' v ar=>h'=[]/\v=.str (gD (blks ((r.length+(eU n).length)/64) h (r++eU n)).l)/\ar=[.undef]):=by
 refine Cod.PO (λE R hN hR=>?_);refine wW ?_;refine aN [] Gm trivial (λ_=>rfl) ?_;rintro h' v as' ⟨rfl,rfl⟩;refine⟨rfl,rfl,?_⟩;refine wW ?_;refine sA (nC h r n) (bs:=[.aa 106900 0,.ro 1 (hW start),FN]) (by simp(disch:=omega)only[go_sem,simprocAttr,hW]) (Qm h r n hr hn) vV nofun ?_;rintro h' v as' ⟨rfl,rfl,rfl⟩;refine⟨rfl,rfl,?_⟩;refine wW ?_;exact hR.wk (h':=[]) (r':=.str _) (ar':=[.undef]) rfl (.le vV) ⟨rfl,rfl,rfl⟩
theorem zj (t:Bs) (ht:t.length<=1000000):aw Tryz.prog 24 [.str t] (.str (dR t)):=by
 refine Cod.aai (λE R hN hR=>?_);have hsp:=YX t;refine wW ?_;refine lE ⟨[(3,.aa 105900 0),(4,.str t)],[(105900,.var [.an,.str [],.int .u64 0])]⟩ (.iZ 109003 105900 rfl rfl (.le vV)) rfl ?_;refine aN [(105900,.var [.an,.str [],.int .u64 0])] (PQ t acB) vV nofun ?_;rintro h' v as' ⟨rfl,rfl,rfl⟩;refine⟨rfl,rfl,?_⟩;refine wW ?_;have hrl:(t.drop (64*(t.length/64))).length=t.length%64:=by rw[acK];omega
 refine lE ⟨[(3,.aa 106900 0)],nC (blks (t.length/64) start t) (t.drop (64*(t.length/64))) t.length⟩ (.iZ 105900 106900 rfl rfl (.iZ 105015 106901 rfl rfl (.le (by simp(disch:=omega)only[go_sem,simprocAttr,cU,hW])))) rfl ?_;refine aN (nC (blks (t.length/64) start t) (t.drop (64*(t.length/64))) t.length) (PN _ _ t.length hrl ht) vV nofun ?_;rintro h' v as' ⟨rfl,rfl,rfl⟩;refine⟨rfl,rfl,?_⟩;refine wW ?_;refine hR.ro ⟨rfl,?_⟩;rw[hsp,hrl]
theorem P7 (t:Bs) (b:UInt8):b7 (t++[b])=b7 t++tJ b:=by simp[b7]
theorem GN (b:UInt8):(b.toNat:Int).fdiv (2^min 4 8)=((b.toNat/16:Nat):Int):=by
 exact(ny b.toNat 4).trans (by rw[aea])
theorem GO (b:UInt8):bits .and .u8 (b.toNat:Int) 15=((b.toNat%16:Nat):Int):=by
 show IntKind.u8.wrap ((BitVec.ofInt 8 (b.toNat:Int) &&& BitVec.ofInt 8 15).toNat:Int)=_
 have hb:=b.toNat_lt;rw[acM,adZ,acP,acL acB,show(BitVec.ofInt 8 15).toNat=2^4-1 by decide,ado];exact wrap_u8 acB
theorem qz (t:Bs) (ht:t.length<=1000000):aw Tryz.prog 23 [.str t] (.str (b7 t)):=by
 refine Cod.Qa (λE R hN hR=>?_);refine wW ?_;refine aJ hN (λk:Nat=>⟨[(0,.str t),(3,.sl 110022 0 (2*k)),(6,.int .i64 t.length),(7,.int .i64 k)],[(110022,.arr 1 ((b7 (t.take k)).map ub))]⟩) (λk=>k<=t.length) (λk=>t.length-k) 0 (.nil 3 110022 1 rfl (.le (by simp(disch:=omega)only[go_sem,simprocAttr];rfl))) acB ?_;rintro k R1 hk hR1;have hhl:(b7 (t.take k)).length=2*k:=by rw[C8,acJ];omega
 by_cases hlt:k<t.length
 ·have htk:b7 (t.take (k+1))=b7 (t.take k)++tJ (t.getD k 0):=by rw[pf t hlt,P7]
  generalize hb:t.getD k 0=b at *
  have hb1:=b.toNat_lt;refine cI hb @GN @GO ?_;refine hR1 (k+1) _ acB acB (.le ?_);rw[htk,show 2*(k+1)=2*k+2 by omega];refine wW ?_;rw[ady];rfl
 ·obtain rfl:k=t.length:=acB;rw[acF acB]at hhl |-;refine wW ?_;exact hR.wk (h':=[]) (r':=.str (b7 t)) (ar':=[.undef]) rfl (.le vV) ⟨rfl,rfl⟩
theorem getD_take {α:Type} (d:α) (l:List α) {k i:Nat} (h:i<k):(l.take k).getD i d=l.getD i d:=by
 rw[acC,acC,List.getElem?_take_of_lt h]
end Go.Proofs.YtgghhaahnpbnmaaGreatDoor.Sh
