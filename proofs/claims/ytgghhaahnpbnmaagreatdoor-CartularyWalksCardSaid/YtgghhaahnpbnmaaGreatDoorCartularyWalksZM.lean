/- The proof, part 39 of 51. -/
import Derived.Test.YtgghhaahnpbnmaaGreatDoorCartularyWalksZF
import Derived.Test.YtgghhaahnpbnmaaGreatDoorProg
import Derived.KernelRfl
import Derived.Tactics
set_option linter.all false
namespace Go.Proofs.YtgghhaahnpbnmaaGreatDoor.Pk
open Eng Eng.Kz
set_option maxRecDepth 100000
def jd (e:Nat):Value:=.iface 258 (.int .i64 (e:Nat))
theorem rL {vs:Array Value} (h:vs.size=2):∃v0 v1,vs=#[v0,v1]:=by
 obtain⟨l⟩:=vs
 match l,h with
 | [a,b],_=>exact⟨a,b,rfl⟩
theorem WA:lz Tryz.prog 179 2:=by
 intro vs w hvs;obtain⟨v0,v1,rfl⟩:=rL hvs;refine callsDIn_of_wpSIn Tryz.func179 rfl trivial λc₀ cs hu=>?_;apply wpSIn_seq;apply wpSIn_region;simp[wpOpsSIn,go_sem,recoverD,hu,Tryz.ntmps179,Exit.thenS];refine wpSIn_of_wpIn rfl ?_;refine wpIn_seq ?_;refine wpIn_region ?_;simp[wpOpsIn,Oper.wpIn,Oper.uponIn,Oper.semAt_none,go_sem,Region.wanted,Exit.then]
 refine wpIn_cond_false (by simp[Act.eval,Array.replicate]) ?_;refine wpIn_skip ?_;simp[bodyPostS,results,Tryz.results179];exact hu.symm▸rfl
def dW:List AV:=[.int .i64 0,.int .i64 0,.int .i64 0,.str [],.int .i64 0,.str [],.int .u32 0]
def zeroV:Value:=.agg #[.int .i64 0,.int .i64 0,.int .i64 0,.string ⟨#[]⟩,.int .i64 0,.string ⟨#[]⟩,.int .u32 0]
theorem acf (X:Nat->Prop) (w:World) (ρ:Eng.Loc):RV X w ρ zeroV (.agg dW):=by
 refine .agg _ _ _ rfl (λj v a h1 h2=>?_);have hj:j<7:=(List.getElem?_eq_some_iff.1 h2).1;obtain rfl | rfl | rfl | rfl | rfl | rfl | rfl:j=0\/j=1\/j=2\/j=3\/j=4\/j=5\/j=6:=acB
 all_goals
  simp[dW]at h1 h2;subst h1 h2
  first | exact .int _ _ _ | exact .str _ []
theorem Yv (x:Value) (t0:TypeId) (w:World):(Instr.typeAssert (.iface 258 x) t0 258 true).run Tryz.prog w=.ok (.tuple #[x,.bool true]) w:=by
 have hu:(underlying 258).run Tryz.prog w=.ok (.int .i64) w:=by rfl
 unfold Instr.typeAssert;simp[go_sem,hu]
theorem Nz:bP Tryz.prog 236=some 7:=by kernel_rfl
theorem xg:bP Tryz.prog 24=some 1:=by kernel_rfl
theorem Qq (w:World):(Instr.build 236 #[]).run Tryz.prog w=.ok zeroV w:=by kernel_rfl
theorem o4 {P:Program} {o:Oper} {a:Act} {w w':World} {v:Value} {next:Act->World->Prop} {Q:Exit->Act->World->Prop} (h:(execOp a.eval o).run P w=.ok (.value v) w') (hn:next (a.put o.dst v) w') :
    Oper.uponIn Fence.wide 0 P o a next Q ((o.semAt Fence.wide.round a.eval).run P w):=by
 rw[show Fence.wide.round=none from rfl,Oper.semAt_none,h];exact hn
theorem FJ {P:Program} {o:Oper} {a:Act} {w w':World} {next:Act->World->Prop} {Q:Exit->Act->World->Prop} (h:(execOp a.eval o).run P w=.ok .skip w') (hn:next (a.put o.dst undef) w') :
    Oper.uponIn Fence.wide 0 P o a next Q ((o.semAt Fence.wide.round a.eval).run P w):=by
 rw[show Fence.wide.round=none from rfl,Oper.semAt_none,h];exact hn
theorem WB (e:Nat) (i0 i1:Nat) (cs0:List AV) (x1:AV) (hi:i0≠i1) (hc0:cs0.length=7) :
    pH Tryz.prog 179 [(i0,.var cs0),(i1,.var [x1])] [.aa i0 0,.aa i1 0] (jd e) [(i1,.var [.int .i64 (e:Nat)]),(i0,.var dW)]:=by
 intro X0 ρ w vs hh hA hX hvs hrv;obtain⟨v0,v1,rfl⟩:=rL hvs;have hnt:Tryz.f179.ntmps=12:=Tryz.ntmps179;generalize hh0:([(i0,.var cs0),(i1,.var [x1])]:HP)=h at *
 let E0:Env:=⟨w,aE ρ h,X0,Tryz.f179.ntmps,0,λk=>#[v0,v1].getD (k-2000000) undef,none,w.heap.size,acG _,[]⟩
 have g0:af E0 ρ ⟨fN [.aa i0 0,.aa i1 0],h⟩ {tmps:=#[v0,v1]++Array.replicate (Tryz.f179.ntmps-#[v0,v1].size) undef,defers:=[]} w:=pc (B:=0) (by rw[hnt];decide) (by rw[hnt];exact(by decide:2<=12)) hh hA hX hvs hrv [] rfl;have hE:∀d,d<12->d<E0.N:=λd hd=>by show d<Tryz.f179.ntmps;rw[hnt];exact hd
 have g1:=(((((g0.put 5 (hE 5 (by decide)) (v:=jd e) (av:=.undef) (.undef _ _)).put 6 (hE 6 (by decide)) (v:=.tuple #[.int .i64 (e:Nat),.bool true]) (av:=.undef) (.undef _ _)).put 4 (hE 4 (by decide)) (v:=.tuple #[.int .i64 (e:Nat),.bool true]) (av:=.undef) (.undef _ _)).put 7 (hE 7 (by decide)) (v:=.int .i64 (e:Nat)) (av:=.int .i64 (e:Nat)) (.int _ _ _)).put 8 (hE 8 (by decide)) (v:=.bool true) (av:=.bool true) (.bool _ _)).put 2 (hE 2 (by decide)) (v:=.int .i64 (e:Nat)) (av:=.int .i64 (e:Nat)) (.int _ _ _);have g2:=g1.put 3 (hE 3 (by decide)) (v:=.bool true) (av:=.bool true) (.bool _ _);have g3:=g2.put 9 (hE 9 (by decide)) (v:=.bool true) (av:=.bool true) (.bool _ _);have g4:=(g3.put 10 (hE 10 (by decide)) (v:=zeroV) (av:=.agg dW) (acf _ _ _)).put 11 (hE 11 (by decide)) (v:=.int .i64 (e:Nat)) (av:=.int .i64 (e:Nat)) (.int _ _ _);have b3:=a6 g2 (.tmp 3);have b9:=a6 g3 (.tmp 9);have b2:=a6 g3 (.tmp 2);clear g0 g1 g2 g3;generalize hac:(((((((((({tmps:=#[v0,v1]++Array.replicate (Tryz.f179.ntmps-#[v0,v1].size) undef,defers:=[]}:Act).put (some 5) (jd e)).put (some 6) (.tuple #[.int .i64 (e:Nat),.bool true])).put (some 4) (.tuple #[.int .i64 (e:Nat),.bool true])).put (some 7) (.int .i64 (e:Nat))).put (some 8) (.bool true)).put (some 2) (.int .i64 (e:Nat))).put (some 3) (.bool true)).put (some 9) (.bool true)).put (some 10) zeroV).put (some 11) (.int .i64 (e:Nat))=ac at g4;have had:ac.defers=[]:=by rw[<-hac];rfl
 have fin:∃w1 w2,(Instr.storeAt 236 (ac.eval (.tmp 0)) (ac.eval (.tmp 10))).run Tryz.prog w=.ok () w1/\(Instr.storeAt 24 (ac.eval (.tmp 1)) (ac.eval (.tmp 11))).run Tryz.prog w1=.ok () w2 /\
     ∃ρ' st',af E0 ρ' st' ac w2/\st'.h=[(i1,.var [.int .i64 (e:Nat)]),(i0,.var dW)]/\sget st'.s 2000000=some (.aa i0 0)/\sget st'.s 2000001=some (.aa i1 0):=by
  subst hh0;have g4:=g4.weaken (st':=⟨[(0,.aa i0 0),(1,.aa i1 0),(10,.agg dW),(11,.int .i64 (e:Nat)),(2000000,.aa i0 0),(2000001,.aa i1 0)],[(i0,.var cs0),(i1,.var [x1])]⟩) (by exact⟨rfl,rfl,rfl,rfl,rfl,rfl,trivial⟩) (by simp[dz,hget,hi,hi.symm]);have hx0:=a6 g4 (.tmp 0);have hx10:=a6 g4 (.tmp 10)
  obtain⟨w1,ρ1,st1,r1,g5,K⟩:=kH g4 Nz hx0 hx10 (K:=λ_ st1=>st1=⟨[(0,.aa i0 0),(1,.aa i1 0),(10,.agg dW),(11,.int .i64 (e:Nat)),(2000000,.aa i0 0),(2000001,.aa i1 0)],[(i0,.var dW),(i1,.var [x1])]⟩) (by
   simp[effSt,hget,bo,hdel,hc0,hi,hi.symm,bV,dW,aD,cellsOf,isCell,ev,trE,sget])
  subst K;have hx1:=a6 g5 (.tmp 1);have hx11:=a6 g5 (.tmp 11)
  obtain⟨w2,ρ2,st2,r2,g6,K⟩:=kH g5 xg hx1 hx11 (K:=λ_ st1=>st1=⟨[(0,.aa i0 0),(1,.aa i1 0),(10,.agg dW),(11,.int .i64 (e:Nat)),(2000000,.aa i0 0),(2000001,.aa i1 0)],[(i1,.var [.int .i64 (e:Nat)]),(i0,.var dW)]⟩) (by
   simp[effSt,hget,bo,hdel,hi,hi.symm,bV,aD,cellsOf,isCell,ev,trE,sget])
  subst K;exact⟨w1,w2,r1,r2,ρ2,_,g6,rfl,rfl,rfl⟩
 obtain⟨w1,w2,r1,r2,ρ2,st2,g6,e1,e2,e3⟩:=fin;clear g4;refine callsDIn_of_wpSIn Tryz.func179 rfl trivial λc₀ cs hu=>?_;apply wpSIn_seq;apply wpSIn_region;simp[wpOpsSIn,go_sem,recoverD,hu,bC,jd,Tryz.ntmps179,Exit.thenS,Yv];refine wpSIn_of_wpIn rfl ?_;refine wpIn_seq ?_;refine wpIn_region ?_;simp[wpOpsIn,Oper.wpIn,Oper.uponIn,Oper.semAt_none,go_sem,Region.wanted,Exit.then]
 refine wpIn_cond_true (by simp[Act.eval,Array.replicate]) ?_;refine Eq.mpr (congrArg (λa=>Code.wpIn Fence.wide 0 Tryz.prog _ _ a w) (a₂:=(((((((({tmps:=#[v0,v1]++Array.replicate (Tryz.f179.ntmps-#[v0,v1].size) undef,defers:=[]}:Act).put (some 5) (jd e)).put (some 6) (.tuple #[.int .i64 (e:Nat),.bool true])).put (some 4) (.tuple #[.int .i64 (e:Nat),.bool true])).put (some 7) (.int .i64 (e:Nat))).put (some 8) (.bool true)).put (some 2) (.int .i64 (e:Nat))).put (some 3) (.bool true)).put (some 9) (.bool true)) ?_) ?_
 ·simp[Act.put,hnt,jd]
 refine wpIn_region_list (wpListIn_plain rfl (λnext hnext=>⟨λ_ _=>trivial,?_⟩))
 refine o4 (v:=zeroV) (w':=w) (by simp[execOp,Qq]) (hnext _ _ ?_);refine wpListIn_plain rfl (λnext hnext=>⟨λ_ _=>trivial,?_⟩)
 refine o4 (v:=.int .i64 (e:Nat)) (w':=w) (by simp[execOp,Act.eval,Act.put,hnt]) (hnext _ _ ?_);refine wpListIn_plain rfl (λnext hnext=>⟨λ_ _=>trivial,?_⟩)
 rw[hac];refine FJ (w':=w1) (by simp[execOp,r1]) (hnext _ _ ?_);refine wpListIn_plain rfl (λnext hnext=>⟨λ_ _=>trivial,?_⟩)
 refine FJ (w':=w2) (by simp only[Act.put];simp[execOp,r2]) (hnext _ _ ?_);refine⟨had,_,rfl,.tuple #[],by simp[results,Tryz.results179],⟨_,rfl⟩,rfl,ρ2,?_,?_,g6.ai.os,g6.ai.tape,g6.ai.output,g6.ai.size,g6.ai.block,?_⟩
 ·have:=g6.heap;rw[e1]at this;exact this
 ·intro j v x h1 h2;have hj:j<2:=(List.getElem?_eq_some_iff.1 h2).1
  have hgv:∀k,2000000<=k->aP E0 ac k=E0.gv k:=λk hk=>by
   unfold aP;rw[if_neg (by show ¬k<Tryz.f179.ntmps;rw[hnt];omega)]
  obtain rfl | rfl:j=0\/j=1:=acB
  ·obtain rfl:v0=v:=by simpa using h1
   obtain rfl:AV.aa i0 0=x:=by simpa using h2
   have hr:=(g6.aM _ _ e2).2;rw[hgv _ (acG _),e1]at hr;exact hr
  ·obtain rfl:v1=v:=by simpa using h1
   obtain rfl:AV.aa i1 0=x:=by simpa using h2
   have hr:=(g6.aM _ _ e3).2;rw[hgv _ (Nat.le_succ _),e1]at hr;exact hr
 ·rintro b ⟨id,W,L,h1,h2,h3⟩;rw[<-e1]at h1;exact g6.base id W L b h1 h2 h3
open Eng Sh
set_option maxRecDepth 10000
def bM (b:Bs) (p:Nat):HP:=[(143032,.var [.str b,.int .i64 p])]
theorem cV {p:Prop} (h:p:=by simp(disch:=first | omega | (simp only[Lx];omega))only[go_sem,simprocAttr,bM]):p:=h
theorem mi {a b:Prop} (k:b) (h:b->a:=by intro h;simp(disch:=first | omega | (simp only[Lx];omega))only[go_sem,simprocAttr,bM];exact h):a:=h k
theorem pt {E0:Prop} {a b:Prop} (e0:E0) (k:b) (h:E0->b->a:=by intro e0 h;simp(disch:=first | omega | (simp only[Lx];omega))only[go_sem,simprocAttr,bM,e0];exact h):a:=h e0 k
theorem O4 {E0:Prop} {a b:Prop} (e0:E0) (k:b) (h:E0->b->a:=by intro e0 h;(repeat(first | (with_reducible refine eJ ?_) | (with_reducible refine eH ?_) | (with_reducible refine eI ?_))<;>simp(disch:=first | omega | (simp only[Lx];omega))only[go_sem,simprocAttr,bM,e0]);exact h):a:=h e0 k
theorem G7 {E0 E1:Prop} {a b:Prop} (e0:E0) (e1:E1) (k:b) (h:E0->E1->b->a:=by intro e0 e1 h;simp(disch:=first | omega | (simp only[Lx];omega))only[go_sem,simprocAttr,bM,e0,e1];exact h):a:=h e0 e1 k
theorem CK {E0 E1:Prop} {a b:Prop} (e0:E0) (e1:E1) (k:b) (h:E0->E1->b->a:=by intro e0 e1 h;(repeat(first | (with_reducible refine eJ ?_) | (with_reducible refine eH ?_) | (with_reducible refine eI ?_))<;>simp(disch:=first | omega | (simp only[Lx];omega))only[go_sem,simprocAttr,bM,e0,e1]);exact h):a:=h e0 e1 k
theorem MF {t:TypeId} {n:Int} {e:Nat} {st:St} (ht:t=258:=by rfl) (hn:n=(e:Nat):=by rfl):(KQ.dies (jd e)).ap (.panic (bC (.iface t (.int .i64 n)))) st:=by
 subst ht hn;exact of_eq_true lW
theorem uG (b:Bs) (p:Nat) (hb:b.length<=1000000) (h:p<b.length):Eng.Spec Tryz.prog 201 (bM b p) [.aa 143032 0] (λh' v ar=>h'=bM b (p+1)/\v=.int .i64 ((b.getD p 0).toNat:Nat)/\ar=[.aa 143032 0]):=by
 refine Cod.Wx (λE R hN hR=>?_);have hu:=(b.getD p 0).toNat_lt;have e1:((p:Int)+1-1).toNat=p:=acB;refine pt e1 ?_;exact hR.le cV ⟨rfl,rfl,rfl⟩
theorem uF (b:Bs) (p:Nat) (hp:p<=2000000) (hb:b.length<=1000000) (h:b.length<=p):Eng.eA Tryz.prog 201 (bM b p) [.aa 143032 0] (jd 6):=by
 refine Cod.Ww (λE hN=>?_);refine mi ?_;exact MF
def headR (b:Bs):Nat->Nat->Nat->Nat->Nat×Nat×Nat
 | 0,p,_,_=>if b.length<=p then(0,0,6)else(0,0,3)
 | m+1,p,size,sh=>if b.length<=p then(0,0,6)else if(b.getD p 0).toNat<128 then(size+(b.getD p 0).toNat%128*2^sh,p+1,0)else headR b m (p+1) (size+(b.getD p 0).toNat%128*2^sh) (sh+7)
def b6 (b:Bs) (p:Nat):Nat×Nat×Nat×Nat:=
 if b.length<=p then(0,0,0,6)else if(b.getD p 0).toNat<128 then((b.getD p 0).toNat/16%8,(b.getD p 0).toNat%16,p+1,0)else
 if(headR b 4 (p+1) ((b.getD p 0).toNat%16) 4).2.2≠0 then(0,0,0,(headR b 4 (p+1) ((b.getD p 0).toNat%16) 4).2.2)else
 ((b.getD p 0).toNat/16%8,(headR b 4 (p+1) ((b.getD p 0).toNat%16) 4).1,(headR b 4 (p+1) ((b.getD p 0).toNat%16) 4).2.1,0)
theorem pL {x n:Nat} (hx:x<1000000) (hn:n<=10):bits .and .i64 (x:Int) ((2^n-1:Nat):Int)=((x%2^n:Nat):Int):=by
 have hp:2^n<=2^10:=acQ (by decide) hn;have hp1:0<2^n:=aeC (by decide);have:=adV x hp1
 show IntKind.i64.wrap ((BitVec.ofInt 64 (x:Int) &&& BitVec.ofInt 64 ((2^n-1:Nat):Int)).toNat:Int)=_
 rw[acM,acM,adZ,acP,acP,acL acB,acL acB,ado];exact gq acB
theorem VX {x k c:Nat} (hx:x<2^k) (hk:k<=32) (hc:c<128):bits .or .i64 (x:Int) (IntKind.i64.wrap ((c:Int)*2^min k 64))=((x+c*2^k:Nat):Int):=by
 have hp:2^k<=2^32:=acQ (by decide) hk;have h2:c*2^k<=127*2^32:=aeA acB hp
 have e:IntKind.i64.wrap ((c:Int)*2^min k 64)=((c*2^k:Nat):Int):=by
  rw[ac1 acB,show((c:Int)*2^k)=((c*2^k:Nat):Int)by push_cast;rfl];exact gq acB
 rw[e]
 show IntKind.i64.wrap ((BitVec.ofInt 64 (x:Int) ||| BitVec.ofInt 64 ((c*2^k:Nat):Int)).toNat:Int)=_
 rw[acM,acM,adR,acP,acP,acL acB,acL acB,afn,<-adj,<-adb hx,adj,aeu];exact gq acB
set_option maxHeartbeats 1000000 in
theorem EX (b:Bs) (p:Nat) (hb:b.length<=1000000) (hp:p<=1000000) {E:Env} (hN:E.N<=1000000) (Q:KQ)
    (hret:(b6 b p).2.2.2=0->Q.ap .ret ⟨[(2,.int .i64 ((b6 b p).1:Nat)),(3,.int .i64 ((b6 b p).2.1:Nat)),(2000000,.aa 143032 0)],bM b (b6 b p).2.2.1⟩)
    (hdie:∀st,(b6 b p).2.2.2≠0->Q.ap (.panic (bC (jd (b6 b p).2.2.2))) st) :
    vcW Tryz.prog E Cod.WC Q ⟨[(0,.aa 143032 0),(2000000,.aa 143032 0)],bM b p⟩:=by
 generalize hH:b6 b p=H at *
 unfold b6 at hH;by_cases h0:b.length<=p
 ·rw[if_pos h0]at hH;subst hH;refine wW ?_;refine fk (bM b p) (uF b p acB hb h0) cV ?_;exact hdie _ (by decide)
 ·rw[if_neg h0]at hH;have hu:=(b.getD p 0).toNat_lt;have hby:=uG b p hb acB;generalize (b.getD p 0).toNat=c at *
  have hsh:((c:Nat):Int).fdiv (2^min 4 64)=((c/16:Nat):Int):=by
   rw[ac1 (by decide),ac6 _ (by decide)];omega
  have hk7:bits .and .i64 ((c/16:Nat):Int) 7=((c/16%8:Nat):Int):=pL (n:=3) acB (by decide);have hk15:bits .and .i64 (c:Int) 15=((c%16:Nat):Int):=pL (n:=4) acB (by decide);refine wW ?_;refine eD ?_;refine aN (bM b p) hby cV nofun ?_;rintro h' v ar ⟨rfl,rfl,rfl⟩;refine⟨cV,rfl,?_⟩;refine cI hsh hk7 hk15 ?_
  refine aJ hN (λq:Nat×Nat×Nat×Nat=>⟨[(0,.aa 143032 0),(2,.int .i64 0),(3,.int .i64 0),(4,.int .i64 q.2.2.2),(5,.int .i64 (c/16%8:Nat)),(6,.int .i64 q.2.2.1),(7,.int .i64 (4+7*(4-q.1):Nat)),(2000000,.aa 143032 0)],bM b q.2.1⟩)
   (λq=>q.1<=4/\q.2.1<=1000000/\q.2.2.1<2^(4+7*(4-q.1))/\q.2.2.2<256/\(if q.2.2.2<128 then H=(c/16%8,q.2.2.1,q.2.1,0)else
    H=if(headR b q.1 q.2.1 q.2.2.1 (4+7*(4-q.1))).2.2≠0 then(0,0,0,(headR b q.1 q.2.1 q.2.2.1 (4+7*(4-q.1))).2.2)else(c/16%8,(headR b q.1 q.2.1 q.2.2.1 (4+7*(4-q.1))).1,(headR b q.1 q.2.1 q.2.2.1 (4+7*(4-q.1))).2.1,0)))
   (λq=>if q.2.2.2<128 then 0 else q.1+1) (4,p+1,c%16,c) (.le cV) ⟨by simp,by simp only;omega,by simp only;omega,hu,by
    by_cases hc:c<128
    ·rw[if_pos hc]at hH;simp only[if_pos hc];exact hH.symm
    ·rw[if_neg hc]at hH;simp only[if_neg hc];exact hH.symm⟩ ?_
  clear hH hby hsh hk15;rintro⟨m,p2,n,d⟩ R1 ⟨hm,hp2,hn,hd,hH⟩ hR1;simp only at hm hp2 hn hd hH;generalize hshe:4+7*(4-m)=sh at *
  by_cases hc:d<128
  ·rw[if_pos hc]at hH;subst hH;have hret:=hret rfl;simp only[bM]at hret;refine pt hshe ?_;exact hret
  ·rw[if_neg hc]at hH;by_cases hend:b.length<=p2
   ·have hR0:headR b m p2 n sh=(0,0,6):=by cases m with | zero=>exact if_pos hend | succ m=>exact if_pos hend
    rw[hR0,if_pos (by decide)]at hH;subst hH;refine pt hshe ?_;refine fk (bM b p2) (uF b p2 acB hb hend) cV ?_;exact hdie _ (by decide)
   ·have hby:=uG b p2 hb acB;have hu:=(b.getD p2 0).toNat_lt
    cases m with
    | zero=>
     have hR0:headR b 0 p2 n sh=(0,0,3):=if_neg hend;rw[hR0,if_pos (by decide)]at hH;subst hH;refine pt hshe ?_;refine eD ?_;refine aN (bM b p2) hby cV nofun ?_;rintro h' v ar ⟨rfl,rfl,rfl⟩;refine⟨cV,rfl,?_⟩;have hgt:(25:Int)<(sh:Int):=acB;refine aV hgt hshe ?_
     exact hdie _ (by decide)
    | succ m=>
     have hR0:headR b (m+1) p2 n sh=if(b.getD p2 0).toNat<128 then(n+(b.getD p2 0).toNat%128*2^sh,p2+1,0)else headR b m (p2+1) (n+(b.getD p2 0).toNat%128*2^sh) (sh+7):=if_neg hend
     rw[hR0]at hH;generalize (b.getD p2 0).toNat=x at *
     have hk:bits .and .i64 (x:Int) 127=((x%128:Nat):Int):=pL (n:=7) acB (by decide);have ho:=VX (x:=n) (k:=sh) (c:=x%128) hn acB (adV _ (by decide))
     have hn2:n+x%128*2^sh<2^(sh+7):=by
      have h1:x%128<=127:=acB;have h2:x%128*2^sh<=127*2^sh:=ac4 _ h1;rw[ad9];omega
     have hgt:¬(25:Int)<(sh:Int):=acB;have hs7:sh+7=4+7*(4-m):=acB
     have au:n+x%128*2^sh<4294967296:=by
      have:2^(sh+7)<=2^32:=acQ (by decide) acB;omega
     refine pt hshe ?_;refine eD ?_;refine aN (bM b p2) hby cV nofun ?_;rintro h' v ar ⟨rfl,rfl,rfl⟩;refine⟨cV,rfl,?_⟩;refine cW hgt hshe hk ho ?_;generalize hz:n+x%128*2^sh=z at *
     rw[hs7]at hH hn2;refine hR1 (m,p2+1,z,x) _ ?_ ⟨by simp only;omega,by simp only;omega,hn2,hu,?_⟩ (.le ?_)
     ·simp only[if_neg hc];split<;>omega
     ·simp only;by_cases hx:x<128
      ·rw[if_pos hx]at hH |-;rw[if_neg (by simp)]at hH;exact hH
      ·rw[if_neg hx]at hH |-;exact hH
     ·simp(disch:=omega)only[go_sem,simprocAttr,bM,<-hs7]
theorem WG (b:Bs) (p:Nat) (hb:b.length<=1000000) (hp:p<=1000000) (he:(b6 b p).2.2.2=0):Eng.Spec Tryz.prog 180 (bM b p) [.aa 143032 0]
    (λh' v ar=>h'=bM b (b6 b p).2.2.1/\v=.ab [.int .i64 ((b6 b p).1:Nat),.int .i64 ((b6 b p).2.1:Nat)]/\ar=[.aa 143032 0]):=by
 refine Cod.WH (λE R hN hR=>?_);refine EX b p hb hp hN _ (λ_=>?_) (λst h=>absurd he h);refine mi ?_;exact hR.le cV ⟨rfl,rfl,rfl⟩
theorem WD (b:Bs) (p:Nat) (hb:b.length<=1000000) (hp:p<=1000000) (he:(b6 b p).2.2.2≠0):Eng.eA Tryz.prog 180 (bM b p) [.aa 143032 0] (jd (b6 b p).2.2.2):=by
 refine Cod.WE (λE hN=>?_);exact EX b p hb hp hN _ (λh=>absurd h he) (λst _=>of_eq_true lW)
def jR (b:Bs):Nat->Nat->Nat->Nat×Nat×Nat
 | 0,_,_=>(0,0,6)
 | k+1,p,n=>if b.length<=p then(0,0,6)else if(b.getD p 0).toNat<128 then(n+(b.getD p 0).toNat%128,p+1,0)else if 16777216<n+(b.getD p 0).toNat%128 then(0,0,3)else jR b k (p+1) ((n+(b.getD p 0).toNat%128+1)*128)
theorem pS (b:Bs) (k p n:Nat):jR b (k+1) p n=if b.length<=p then(0,0,6)else if(b.getD p 0).toNat<128 then(n+(b.getD p 0).toNat%128,p+1,0)else if 16777216<n+(b.getD p 0).toNat%128 then(0,0,3)else jR b k (p+1) ((n+(b.getD p 0).toNat%128+1)*128):=rfl
def cL (b:Bs) (p:Nat):Nat×Nat×Nat:=jR b (b.length+1-p) p 0
theorem Ao (b:Bs) {p:Nat} (h:b.length<=p) (k n:Nat):jR b k p n=(0,0,6):=by
 cases k with
 | zero=>rfl
 | succ k=>rw[pS,if_pos h]
theorem VS {x b:Nat} (hx:x<281474976710656) (hb:b<128):bits .or .i64 (IntKind.i64.wrap ((x:Int)*2^min 7 64)) (b:Int)=((128*x+b:Nat):Int):=by
 have h1:((x:Int)*2^min 7 64)=((x*128:Nat):Int):=by
  rw[show((2:Int)^min 7 64)=128 by decide];omega
 rw[h1,gq acB]
 show IntKind.i64.wrap ((BitVec.ofInt 64 ((x*128:Nat):Int) ||| BitVec.ofInt 64 (b:Int)).toNat:Int)=_
 rw[acM,acM,adR,acP,acP,acL acB,acL acB]
 have h2:x*128 ||| b=128*x+b:=by
  have h3:=adb (b:=b) (i:=7) acB x;rw[adj,show(2:Nat)^7=128 by decide]at h3;omega
 rw[h2];exact gq acB
set_option maxHeartbeats 1000000 in
theorem EW (b:Bs) (p:Nat) (hb:b.length<=1000000) (hp:p<=1000000) {E:Env} (hN:E.N<=1000000) (Q:KQ)
    (hret:(cL b p).2.2=0->Q.ap .ret ⟨[(2,.int .i64 ((cL b p).1:Nat)),(2000000,.aa 143032 0)],bM b (cL b p).2.1⟩)
    (hdie:∀st,(cL b p).2.2≠0->Q.ap (.panic (bC (jd (cL b p).2.2))) st) :
    vcW Tryz.prog E Cod.Wr Q ⟨[(0,.aa 143032 0),(2000000,.aa 143032 0)],bM b p⟩:=by
 generalize hH:cL b p=H at *
 by_cases h0:b.length<=p
 ·rw[cL,Ao b h0]at hH;subst hH;refine wW ?_;refine fk (bM b p) (uF b p acB hb h0) cV ?_;exact hdie _ (by decide)
 ·rw[cL,show b.length+1-p=(b.length-p)+1 by omega,pS,if_neg h0]at hH;have hu:=(b.getD p 0).toNat_lt;have hby:=uG b p hb acB;generalize (b.getD p 0).toNat=c at *
  have hk:bits .and .i64 (c:Int) 127=((c%128:Nat):Int):=pL (n:=7) acB (by decide);refine wW ?_;refine eD ?_;refine aN (bM b p) hby cV nofun ?_;rintro h' v ar ⟨rfl,rfl,rfl⟩;refine⟨cV,rfl,?_⟩;refine ah hk ?_
  refine aJ hN (λq:Nat×Nat×Nat=>⟨[(0,.aa 143032 0),(2,.int .i64 0),(3,.int .i64 q.2.2),(4,.int .i64 q.2.1),(2000000,.aa 143032 0)],bM b q.1⟩)
   (λq=>q.1<=1000001/\q.2.1<4294967296/\q.2.2<256/\(if q.2.2<128 then H=(q.2.1,q.1,0)else if 16777216<q.2.1 then H=(0,0,3)else ∃k,b.length-q.1<k/\jR b k q.1 ((q.2.1+1)*128)=H))
   (λq=>b.length+1-q.1) (p+1,c%128,c) (.le cV) ⟨by simp only;omega,by simp only;omega,hu,by
    simp only;by_cases hc:c<128
    ·rw[if_pos hc,adr]at hH;rw[if_pos hc];exact hH.symm
    ·rw[if_neg hc,adr]at hH;rw[if_neg hc];by_cases hg:16777216<c%128;omega
     ·rw[if_neg hg]at hH |-
      exact⟨_,acB,hH⟩⟩ ?_
  clear hH hby hk;rintro⟨p2,n,d⟩ R1 ⟨hp2,hn,hd,hH⟩ hR1;simp only at hp2 hn hd hH;by_cases hc:d<128
  ·rw[if_pos hc]at hH;subst hH;have hret:=hret rfl;simp only[bM]at hret;refine mi ?_;exact hret
  ·rw[if_neg hc]at hH;by_cases hg:16777216<n
   ·rw[if_pos hg]at hH;subst hH;refine mi ?_;exact hdie _ (by decide)
   ·rw[if_neg hg]at hH;obtain⟨k,hk,hH⟩:=hH;by_cases hend:b.length<=p2
    ·rw[Ao b hend]at hH;subst hH;refine mi ?_;refine fk (bM b p2) (uF b p2 acB hb hend) cV ?_;exact hdie _ (by decide)
    ·have hby:=uG b p2 hb acB;have hu:=(b.getD p2 0).toNat_lt;obtain⟨k,rfl⟩:∃k',k=k'+1:=⟨k-1,acB⟩;rw[pS,if_neg hend]at hH;generalize (b.getD p2 0).toNat=x at *
     have hk2:bits .and .i64 (x:Int) 127=((x%128:Nat):Int):=pL (n:=7) acB (by decide);have ho:=VS (x:=n+1) (b:=x%128) acB (adV _ (by decide));have e1:((n+1:Nat):Int)=(n:Int)+1:=acB;rw[e1]at ho;have e2:(n+1)*128+x%128=128*(n+1)+x%128:=acB;rw[e2]at hH;refine mi ?_;refine eD ?_;refine aN (bM b p2) hby cV nofun ?_;rintro h' v ar ⟨rfl,rfl,rfl⟩;refine⟨cV,rfl,?_⟩;refine aV hk2 ho ?_;have hz:128*(n+1)+x%128<4294967296:=acB;generalize 128*(n+1)+x%128=z at *
     refine hR1 (p2+1,z,x) _ (by simp only;omega) ⟨by simp only;omega,hz,hu,?_⟩ (.le ?_)
     ·simp only;by_cases hx:x<128
      ·rw[if_pos hx]at hH |-;exact hH.symm
      ·rw[if_neg hx]at hH |-;by_cases hg2:16777216<z
       ·rw[if_pos hg2]at hH |-;exact hH.symm
       ·rw[if_neg hg2]at hH |-;exact⟨k,acB,hH⟩
     exact cV
theorem Wu (b:Bs) (p:Nat) (hb:b.length<=1000000) (hp:p<=1000000) (he:(cL b p).2.2=0):Eng.Spec Tryz.prog 181 (bM b p) [.aa 143032 0]
    (λh' v ar=>h'=bM b (cL b p).2.1/\v=.int .i64 ((cL b p).1:Nat)/\ar=[.aa 143032 0]):=by
 refine Cod.Wv (λE R hN hR=>?_);refine EW b p hb hp hN _ (λ_=>?_) (λst h=>absurd he h);refine mi ?_;exact hR.le cV ⟨rfl,rfl,rfl⟩
theorem Ws (b:Bs) (p:Nat) (hb:b.length<=1000000) (hp:p<=1000000) (he:(cL b p).2.2≠0):Eng.eA Tryz.prog 181 (bM b p) [.aa 143032 0] (jd (cL b p).2.2):=by
 refine Cod.Wt (λE hN=>?_);exact EW b p hb hp hN _ (λh=>absurd h he) (λst _=>of_eq_true lW)
structure En where
 at_:Nat
 next:Nat
 kind:Nat
 data:Bs
 base:Nat
 id:Bs
 nX:W
def dr:En:=⟨0,0,0,[],0,[],0#32⟩
def om (e:En):List AV:=[.int .i64 e.at_,.int .i64 e.next,.int .i64 e.kind,.str e.data,.int .i64 e.base,.str e.id,.int .u32 e.nX.toNat]
def ix (b:Bs) (p k q:Nat):Nat×Bs×Nat×Nat:=
 if 1<=k/\k<=4 then(0,[],q,0)else
 if k=6 then(if(cL b q).2.2≠0 then(0,[],0,(cL b q).2.2)else if(cL b q).1<1\/p-12<(cL b q).1 then(0,[],0,3)else(p-(cL b q).1,[],(cL b q).2.1,0))else
 if k=7 then(if b.length-q<20 then(0,[],0,6)else(0,b7 ((b.drop q).take 20),q+20,0))else(0,[],0,10)
def oq (b:Bs) (p:Nat) (k size:Nat) (M:Nat×Bs×Nat×Nat):En×Nat:=
 if M.2.2.2≠0 then(dr,M.2.2.2)else if 65000<size then(dr,2)else
 if(dX (b.drop M.2.2.1) size).2.2=2\/((dX (b.drop M.2.2.1) size).2.2=0/\(dX (b.drop M.2.2.1) size).1.length<size)then(dr,3)else
 if(dX (b.drop M.2.2.1) size).2.2≠0 then(dr,(dX (b.drop M.2.2.1) size).2.2)else
 (⟨p,M.2.2.1+(dX (b.drop M.2.2.1) size).2.1,k,(dX (b.drop M.2.2.1) size).1,M.1,M.2.1,qc ((b.drop p).take (M.2.2.1+(dX (b.drop M.2.2.1) size).2.1-p))⟩,0)
def uP (b:Bs) (p:Nat):En×Nat:=
 if(b6 b p).2.2.2≠0 then(dr,(b6 b p).2.2.2)else oq b p (b6 b p).1 (b6 b p).2.1 (ix b p (b6 b p).1 (b6 b p).2.2.1)
def readP (s:Bs) (a:Int):En×Nat:=if a<12\/(s.length:Int)-20<a then(dr,1)else uP (s.take (s.length-20)) a.toNat
theorem C4 (b:Bs):∀(m p size sh:Nat),(headR b m p size sh).2.2=0->(headR b m p size sh).2.1<=b.length/\p<(headR b m p size sh).2.1
 | 0,p,size,sh=>by
  unfold headR
  split<;>intro h<;>cases h
 | m+1,p,size,sh=>by
  unfold headR;split
  ·intro h;cases h
  ·split
   ·intro _;simp only;omega
   ·intro h;have:=C4 b m _ _ _ h;omega
theorem C5 (b:Bs):∀(m p size sh:Nat),size<2^sh->(headR b m p size sh).1<2^(sh+7*m)
 | 0,p,size,sh=>by
  intro _;unfold headR
  split<;>exact aeC (by decide)
 | m+1,p,size,sh=>by
  intro hs
  have h2:∀x,size+x%128*2^sh<2^(sh+7):=by
   intro x;have h1:x%128<=127:=acB;have h2:x%128*2^sh<=127*2^sh:=ac4 _ h1;rw[ad9];omega
  unfold headR;split;exact aeC (by decide)
  ·split
   ·refine acR (h2 _) (acQ (by decide) acB)
   ·have:=C5 b m (p+1) _ (sh+7) (h2 (b.getD p 0).toNat);rw[show sh+7+7*m=sh+7*(m+1)by omega]at this;exact this
theorem P6 (b:Bs) (p:Nat) (h:(b6 b p).2.2.2=0):(b6 b p).2.2.1<=b.length/\p<(b6 b p).2.2.1/\(b6 b p).1<8/\(b6 b p).2.1<4294967296:=by
 unfold b6 at h |-;split at h
 ·cases h
 ·rename_i h0;rw[if_neg h0];have hu:=(b.getD p 0).toNat_lt;split at h
  ·rename_i h1;rw[if_pos h1];simp only;omega
  ·rename_i h1;rw[if_neg h1];split at h
   ·rename_i h2;exact(h2 h).elim
   ·rename_i h2;rw[if_neg h2];have h3:=C4 b 4 (p+1) ((b.getD p 0).toNat%16) 4 (by simpa using h2);have h4:=C5 b 4 (p+1) ((b.getD p 0).toNat%16) 4 acB;simp only;have h5:2^(4+7*4)=4294967296:=by decide
    omega
theorem wi (b:Bs):∀(k p n:Nat),(jR b k p n).2.2=0->(jR b k p n).2.1<=b.length/\p<(jR b k p n).2.1
 | 0,p,n=>by intro h;cases h
 | k+1,p,n=>by
  rw[pS];split
  ·intro h;cases h
  ·split
   ·intro _;simp only;omega
   ·split
    ·intro h;cases h
    ·intro h;have:=wi b k _ _ h;omega
theorem Ap (b:Bs):∀(k p n:Nat),n<=2147483776->(jR b k p n).1<4294967296
 | 0,p,n,_=>by show 0<_;decide
 | k+1,p,n,hn=>by
  rw[pS];split
  decide
  ·split
   ·simp only;omega
   ·split
    decide
    exact Ap b k _ _ acB
theorem JF (b:Bs) (q:Nat) (h:(cL b q).2.2=0):(cL b q).1<4294967296:=Ap b _ _ _ (by decide)
theorem Us (b:Bs) (p k q:Nat) (hq:q<=b.length) (h:(ix b p k q).2.2.2=0):(ix b p k q).2.2.1<=b.length/\q<=(ix b p k q).2.2.1:=by
 unfold ix at h |-;split at h
 ·rename_i h1;rw[if_pos h1];exact⟨hq,acG _⟩
 ·rename_i h1;rw[if_neg h1];split at h
  ·rename_i h2;rw[if_pos h2];split at h
   ·rename_i h3;exact(h3 h).elim
   ·rename_i h3;rw[if_neg h3];have:=wi b _ _ _ (by simpa[cL]using h3);split at h
    ·cases h
    ·rename_i h4;rw[if_neg h4];simp only[cL];omega
  ·rename_i h2;rw[if_neg h2];split at h
   ·rename_i h3;rw[if_pos h3];split at h
    ·cases h
    ·rename_i h4;rw[if_neg h4];simp only;omega
   ·cases h
theorem kZ {st:St} {R:HP->AV->List AV->Prop} {t:TypeId} {n:Int} {e:Nat} (cs0:List AV) (x1:AV) (hn:n=(e:Nat)) (has:fW st 2 2=[.aa 143004 0,.aa 143005 0]) (hsub:dz st.h [(143004,.var cs0),(143005,.var [x1])])
    (h:(KQ.post [.cell 4 true 7,.cell 5 false 1] 2 R).ap .ret (lB st 2 2 [(143004,.var cs0),(143005,.var [x1])] [(143005,.var [.int .i64 (e:Nat)]),(143004,.var dW)])) (hc0:cs0.length=7:=by rfl) (ht:t=258:=by rfl) :
    (KQ.gC Tryz.prog [.cell 4 true 7,.cell 5 false 1] 2 2 179 R).ap (.panic (bC (.iface t (.int .i64 n)))) st:=by
 subst hn ht;exact xx [(143004,.var cs0),(143005,.var [x1])] [(143005,.var [.int .i64 (e:Nat)]),(143004,.var dW)] has (WB e 143004 143005 cs0 x1 (by decide) hc0) rfl hsub h
set_option maxHeartbeats 1000000 in
theorem Ff (s:Bs) (a:Int) (hs:s.length<=1000000) (ha:-9223372036854775808<=a/\a<=9223372036854775807):aw Tryz.prog 163 [.str s,.int .i64 a] (.ab [.agg (om (readP s a).1),.int .i64 ((readP s a).2:Nat)]):=by
 refine Cod.Xd WA (λE R N hN hN2 hR=>?_);unfold readP at hR;by_cases gY:a<12
 ·rw[if_pos (.inl gY)]at hR;refine wW ?_;refine gG ?_;exact hR.ro ⟨rfl,rfl⟩
 ·by_cases hbig:(s.length:Int)-20<a
  ·rw[if_pos (.inr hbig)]at hR;refine wW ?_;refine gG ?_;exact hR.ro ⟨rfl,rfl⟩
  ·rw[if_neg acB]at hR;obtain⟨p,rfl⟩:∃p:Nat,a=(p:Int):=⟨a.toNat,acB⟩;rw[aeM]at hR;refine wW ?_;refine gG ?_;have et:((s.length:Int)-20).toNat=s.length-20:=acB;refine wQ (λE' hN'=>?_) hN2;have hbl:(s.take (s.length-20)).length=s.length-20:=by rw[acJ];omega
   generalize hbb:s.take (s.length-20)=b at *
   refine aV et hbb ?_;unfold uP at hR;by_cases hhe:(b6 b p).2.2.2=0
   ·rw[if_neg (by simpa using hhe)]at hR;have hle:=P6 b p hhe;have hk:=WG b p acB acB hhe;generalize b6 b p=H at *
    obtain⟨k,size,q,he⟩:=H;simp only at hle hk hR;refine eD ?_;refine aN (bM b p) hk cV nofun ?_;rintro h' v ar ⟨rfl,rfl,rfl⟩;refine⟨cV,rfl,?_⟩;have hml:=Us b p k q hle.1;have hmd:ix b p k q=ix b p k q:=rfl;generalize hM:ix b p k q=M at hR hml;refine mi ?_
    refine gn (y:=Cod.W8) hN' (λ_:Unit=>⟨[(1,.int .i64 p),(4,.aa 143004 0),(5,.aa 143005 0),(6,.str b),(7,.aa 143032 0),(9,.int .i64 size),(2000002,.aa 143004 0),(2000003,.aa 143005 0)],
     [(143004,.var [.int .i64 p,.int .i64 0,.int .i64 k,.str [],.int .i64 M.1,.str M.2.1,.int .u32 0]),(143032,.var [.str b,.int .i64 M.2.2.1]),(143005,.var [.int .i64 0])]⟩) (λ_=>M.2.2.2=0) (λR2 hR2=>?_) (λ_ hM0=>?_)
    ·-- between the head and the frame
     have hdz:∀e:Nat,e≠0->M.2.2.2=e->(oq b p k size M)=(dr,e):=by
      intro e he0 he;unfold oq;rw[if_pos (by rw[he];exact he0),he]
     have ksm:k<8:=hle.2.2.1;refine wW ?_
     refine gn (y:=.cond (.t 44) .skip Cod.Xa) hN' (λ_:Unit=>⟨[(1,.int .i64 p),(4,.aa 143004 0),(5,.aa 143005 0),(6,.str b),(7,.aa 143032 0),(9,.int .i64 size),(42,.int .i64 k),(44,.bool (decide (1<=k/\k<=4))),(2000002,.aa 143004 0),(2000003,.aa 143005 0)],
      [(143004,.var [.int .i64 p,.int .i64 0,.int .i64 k,.str [],.int .i64 0,.str [],.int .u32 0]),(143032,.var [.str b,.int .i64 q]),(143005,.var [.int .i64 0])]⟩) (λ_=>True) (λR3 hR3=>?_) (λ_ _=>?_)
     ·by_cases k1:k=1
      ·subst k1;refine wW ?_;exact hR3 () _ trivial (.le vV)
      ·by_cases k2:k=2
       ·subst k2;refine wW ?_;exact hR3 () _ trivial (.le vV)
       ·by_cases k3:k=3
        ·subst k3;refine wW ?_;exact hR3 () _ trivial (.le vV)
        ·by_cases k4:k=4
         ·subst k4;refine wW ?_;exact hR3 () _ trivial (.le vV)
         ·have i1:¬(k:Int)=1:=acB;have i2:¬(k:Int)=2:=acB;have i3:¬(k:Int)=3:=acB;have i4:¬(k:Int)=4:=acB;rw[decide_eq_false acB]at hR3;refine cW i1 i2 i3 i4 ?_;exact hR3 () _ trivial (.le vV)
     ·unfold ix at hM;by_cases kk:1<=k/\k<=4
      ·rw[if_pos kk]at hM;subst hM;rw[decide_eq_true kk];refine wW ?_;exact hR2 () _ rfl (.le vV)
      ·rw[if_neg kk]at hM;rw[decide_eq_false kk];by_cases k6:k=6
       ·rw[if_pos k6]at hM;subst k6;by_cases hbe:(cL b q).2.2=0
        ·rw[if_neg (by simpa using hbe)]at hM;have hbk:=Wu b q acB acB hbe;have hbl:=wi b _ _ _ hbe;change (cL b q).2.1<=b.length/\q<(cL b q).2.1 at hbl;have hbs:=JF b q hbe;generalize cL b q=B at *
         refine wW ?_;refine eD ?_;refine aN (bM b q) hbk cV nofun ?_;rintro h' v ar ⟨rfl,rfl,rfl⟩;refine⟨cV,rfl,?_⟩;by_cases hb1:B.1<1\/p-12<B.1
         ·rw[if_pos hb1]at hM;rw[hdz 3 (by decide) (by rw[<-hM])]at hR;by_cases hb2:B.1<1
          ·have i1:(B.1:Int)<1:=acB;refine pt i1 ?_;refine O4 i1 ?_;refine kZ (t:=258) [.int .i64 p,.int .i64 0,.int .i64 6,.str [],.int .i64 0,.str [],.int .u32 0] (.int .i64 0) rfl ?_ ?_ ?_
           all_goals simp(disch:=omega)only[go_sem,simprocAttr,dW]
           exact hR.ro ⟨rfl,rfl⟩
          ·have i1:¬(B.1:Int)<1:=acB;have i2:(p:Int)-12<(B.1:Int):=acB;refine G7 i1 i2 ?_;refine CK i1 i2 ?_;refine kZ (t:=258) [.int .i64 p,.int .i64 0,.int .i64 6,.str [],.int .i64 0,.str [],.int .u32 0] (.int .i64 0) rfl ?_ ?_ ?_
           all_goals simp(disch:=omega)only[go_sem,simprocAttr,dW]
           exact hR.ro ⟨rfl,rfl⟩
         ·rw[if_neg hb1]at hM;subst hM;have i1:¬(B.1:Int)<1:=acB;have i2:¬(p:Int)-12<(B.1:Int):=acB;have i3:(p:Int)-(B.1:Int)=((p-B.1:Nat):Int):=acB;refine G7 i1 i2 ?_;refine CK i1 i2 ?_;exact hR2 () _ rfl (.le (by rw[<-i3];exact vV))
        ·rw[if_pos hbe]at hM;have hd:=Ws b q acB acB hbe;rw[hdz _ hbe (by rw[<-hM])]at hR;generalize cL b q=B at *
         refine wW ?_;refine fk (bM b q) hd cV ?_;refine kZ (t:=258) [.int .i64 p,.int .i64 0,.int .i64 6,.str [],.int .i64 0,.str [],.int .u32 0] (.int .i64 0) rfl ?_ ?_ ?_
         all_goals simp(disch:=omega)only[go_sem,simprocAttr,nT,bM,dW]
         exact hR.ro ⟨rfl,rfl⟩
       ·rw[if_neg k6]at hM;have i6:¬(k:Int)=6:=acB;by_cases k7:k=7
        ·rw[if_pos k7]at hM;subst k7;by_cases h20:b.length-q<20
         ·rw[if_pos h20]at hM;rw[hdz 6 (by decide) (by rw[<-hM])]at hR;have i1:(b.length:Int)-(q:Int)<20:=acB;refine ah i1 ?_;refine kZ (t:=258) [.int .i64 p,.int .i64 0,.int .i64 7,.str [],.int .i64 0,.str [],.int .u32 0] (.int .i64 0) rfl ?_ ?_ ?_
          all_goals simp(disch:=omega)only[go_sem,simprocAttr,dW]
          exact hR.ro ⟨rfl,rfl⟩
         ·rw[if_neg h20]at hM;subst hM;have i1:¬(b.length:Int)-(q:Int)<20:=acB;have e20:q+20-q=20:=acB;have ei:((q:Int)+20).toNat-q=20:=acB;have hhx:=qz ((b.drop q).take 20) (by rw[acJ];omega);refine cI i1 e20 ei ?_;refine aj hhx rfl rfl ?_;refine wW ?_;exact hR2 () _ rfl (.le vV)
        ·rw[if_neg k7]at hM;rw[hdz 10 (by decide) (by rw[<-hM])]at hR;have i7:¬(k:Int)=7:=acB;refine aV i6 i7 ?_;refine kZ (t:=258) [.int .i64 p,.int .i64 0,.int .i64 k,.str [],.int .i64 0,.str [],.int .u32 0] (.int .i64 0) rfl ?_ ?_ ?_
         all_goals simp(disch:=omega)only[go_sem,simprocAttr,dW]
         exact hR.ro ⟨rfl,rfl⟩
    ·unfold oq at hR;rw[if_neg (by simpa using hM0)]at hR;have hml:=hml hM0;by_cases au:65000<size
     ·rw[if_pos au]at hR;refine wW ?_;refine kZ (t:=258) [.int .i64 p,.int .i64 0,.int .i64 k,.str [],.int .i64 M.1,.str M.2.1,.int .u32 0] (.int .i64 0) rfl ?_ ?_ ?_
      all_goals simp(disch:=omega)only[go_sem,simprocAttr,dW]
      exact hR.ro ⟨rfl,rfl⟩
     ·rw[if_neg au]at hR;have hz:=Hm b M.2.2.1 size acB acB acB;have hzl:=vJ (b.drop M.2.2.1) size;rw[acK]at hzl;generalize dX (b.drop M.2.2.1) size=Z at *
      refine wW ?_;refine aj hz rfl rfl ?_;refine wW ?_
      refine gn (y:=Cod.W9) hN' (λ_:Unit=>⟨[(1,.int .i64 p),(4,.aa 143004 0),(5,.aa 143005 0),(6,.str b),(7,.aa 143032 0),(11,.str Z.1),(12,.int .i64 Z.2.1),(2000002,.aa 143004 0),(2000003,.aa 143005 0)],
       [(143005,.var [.int .i64 (if Z.2.2=2\/(Z.2.2=0/\Z.1.length<size)then 3 else Z.2.2:Nat)]),(143004,.var [.int .i64 p,.int .i64 0,.int .i64 k,.str [],.int .i64 M.1,.str M.2.1,.int .u32 0]),(143032,.var [.str b,.int .i64 M.2.2.1])]⟩) (λ_=>True) (λR3 hR3=>?_) (λ_ _=>?_)
      ·by_cases z2:Z.2.2=2
       ·rw[if_pos (.inl z2)]at hR3;have i1:(Z.2.2:Int)=2:=acB;refine ah i1 ?_;refine cB i1 ?_;exact hR3 () _ trivial (.le vV)
       ·have i1:¬(Z.2.2:Int)=2:=acB;by_cases z0:Z.2.2=0
        ·have i2:(Z.2.2:Int)=0:=acB;by_cases zl:Z.1.length<size
         ·rw[if_pos (.inr ⟨z0,zl⟩)]at hR3;refine aV i1 i2 ?_;refine gX i1 i2 ?_;exact hR3 () _ trivial (.le vV)
         ·rw[if_neg acB,z0]at hR3;refine aV i1 i2 ?_;refine gX i1 i2 ?_;exact hR3 () _ trivial (.le vV)
        ·have i2:¬(Z.2.2:Int)=0:=acB;rw[if_neg acB]at hR3;refine aV i1 i2 ?_;refine gX i1 i2 ?_;exact hR3 () _ trivial (.le vV)
      ·by_cases zz:Z.2.2=2\/(Z.2.2=0/\Z.1.length<size)
       ·rw[if_pos zz]at hR |-;refine wW ?_;refine kZ (t:=258) [.int .i64 p,.int .i64 0,.int .i64 k,.str [],.int .i64 M.1,.str M.2.1,.int .u32 0] (.int .i64 3) rfl ?_ ?_ ?_
        all_goals simp(disch:=omega)only[go_sem,simprocAttr,dW]
        exact hR.ro ⟨rfl,rfl⟩
       ·rw[if_neg zz]at hR |-;by_cases z0:Z.2.2=0
        ·rw[if_neg (by simpa using z0)]at hR;have hcr:=LK ((b.drop p).take (M.2.2.1+Z.2.1-p)) (by rw[acJ,acK];omega);have et2:((M.2.2.1:Int)+(Z.2.1:Int)).toNat-p=M.2.2.1+Z.2.1-p:=acB;rw[z0];refine ah et2 ?_;refine aj hcr rfl rfl ?_;refine wW ?_;exact hR.ro ⟨rfl,rfl⟩
        ·rw[if_pos z0]at hR;have i2:¬(Z.2.2:Int)=0:=acB;refine ah i2 ?_;refine kZ (t:=258) [.int .i64 p,.int .i64 0,.int .i64 k,.str [],.int .i64 M.1,.str M.2.1,.int .u32 0] (.int .i64 (Z.2.2:Nat)) rfl ?_ ?_ ?_
         all_goals simp(disch:=omega)only[go_sem,simprocAttr,dW]
         exact hR.ro ⟨rfl,rfl⟩
   ·rw[if_pos hhe]at hR;have hd:=WD b p acB acB hhe;generalize b6 b p=H at *
    refine fk (bM b p) hd cV ?_;refine kZ (t:=258) [.int .i64 p,.int .i64 0,.int .i64 0,.str [],.int .i64 0,.str [],.int .u32 0] (.int .i64 0) rfl ?_ ?_ ?_
    all_goals simp(disch:=omega)only[go_sem,simprocAttr,nT,bM,dW]
    exact hR.ro ⟨rfl,rfl⟩
end Go.Proofs.YtgghhaahnpbnmaaGreatDoor.Pk
