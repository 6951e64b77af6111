/- The proof, part 38 of 43. -/
import Derived.Test.YtoalcafkffmiiaaGreatDoorOdbGetsZE
import Derived.Test.YtoalcafkffmiiaaGreatDoorProg
import Derived.KernelRfl
import Derived.Tactics
set_option linter.all false
namespace Go.Proofs.YtoalcafkffmiiaaGreatDoor.Pk
open Eng Eng.Kz
set_option maxRecDepth 100000
def jR (e:Nat):Value:=.iface 189 (.int .i64 (e:Nat))
theorem rB {vs:Array Value} (h:vs.size=2):∃v0 v1,vs=#[v0,v1]:=by
 obtain⟨l⟩:=vs
 match l,h with
 | [a,b],_=>exact⟨a,b,rfl⟩
theorem Vu:lZ Tryz.prog 135 2:=by
 intro vs w hvs;obtain⟨v0,v1,rfl⟩:=rB hvs;refine callsDIn_of_wpSIn Tryz.func135 rfl trivial λc₀ cs hu=>?_;apply wpSIn_seq;apply wpSIn_region;simp[wpOpsSIn,go_sem,recoverD,hu,Tryz.ntmps135,Exit.thenS];refine wpSIn_of_wpIn rfl ?_;refine wpIn_seq ?_;refine wpIn_region ?_;simp[wpOpsIn,Oper.wpIn,Oper.uponIn,Oper.semAt_none,go_sem,Region.wanted,Exit.then]
 refine wpIn_cond_false (by simp[Act.eval,Array.replicate]) ?_;refine wpIn_skip ?_;simp[bodyPostS,results,Tryz.results135];exact hu.symm▸rfl
def cR:List AV:=[.int .i64 0,.int .i64 0,.int .i64 0,.str [],.int .i64 0,.str [],.int .u32 0]
theorem nS {p:Prop} (h:p:=by simp(disch:=first | omega | (simp only[Lx];omega))only[go_sem,simprocAttr,cR]):p:=h
theorem wWZ {a b:Prop} (k:b) (h:b->a:=by intro h;simp(disch:=first | omega | (simp only[Lx];omega))only[go_sem,simprocAttr,cR];exact h):a:=h k
theorem u6 {E0:Prop} {a b:Prop} (e0:E0) (k:b) (h:E0->b->a:=by intro e0 h;simp(disch:=first | omega | (simp only[Lx];omega))only[go_sem,simprocAttr,cR,e0];exact h):a:=h e0 k
theorem Oo {E0:Prop} {a b:Prop} (e0:E0) (k:b) (h:E0->b->a:=by intro e0 h;(repeat(first | (with_reducible refine cC ?_) | (with_reducible refine cz ?_) | (with_reducible refine cB ?_))<;>simp(disch:=first | omega | (simp only[Lx];omega))only[go_sem,simprocAttr,cR,e0]);exact h):a:=h e0 k
theorem u7 {E0 E1:Prop} {a b:Prop} (e0:E0) (e1:E1) (k:b) (h:E0->E1->b->a:=by intro e0 e1 h;simp(disch:=first | omega | (simp only[Lx];omega))only[go_sem,simprocAttr,cR,e0,e1];exact h):a:=h e0 e1 k
theorem w6 {E0 E1:Prop} {a b:Prop} (e0:E0) (e1:E1) (k:b) (h:E0->E1->b->a:=by intro e0 e1 h;(repeat(first | (with_reducible refine cC ?_) | (with_reducible refine cz ?_) | (with_reducible refine cB ?_))<;>simp(disch:=first | omega | (simp only[Lx];omega))only[go_sem,simprocAttr,cR,e0,e1]);exact h):a:=h e0 e1 k
theorem G3 {E0 E1 E2:Prop} {a b:Prop} (e0:E0) (e1:E1) (e2:E2) (k:b) (h:E0->E1->E2->b->a:=by intro e0 e1 e2 h;simp(disch:=first | omega | (simp only[Lx];omega))only[go_sem,simprocAttr,cR,e0,e1,e2];exact h):a:=h e0 e1 e2 k
theorem Cy {E0 E1 E2:Prop} {a b:Prop} (e0:E0) (e1:E1) (e2:E2) (k:b) (h:E0->E1->E2->b->a:=by intro e0 e1 e2 h;(repeat(first | (with_reducible refine cC ?_) | (with_reducible refine cz ?_) | (with_reducible refine cB ?_))<;>simp(disch:=first | omega | (simp only[Lx];omega))only[go_sem,simprocAttr,cR,e0,e1,e2]);exact h):a:=h e0 e1 e2 k
def zeroV:Value:=.agg #[.int .i64 0,.int .i64 0,.int .i64 0,.string ⟨#[]⟩,.int .i64 0,.string ⟨#[]⟩,.int .u32 0]
theorem acC (X:Nat->Prop) (w:World) (ρ:Eng.Loc):RV X w ρ zeroV (.agg cR):=by
 refine .agg _ _ _ rfl (λj v a h1 h2=>?_);have hj:j<7:=(List.getElem?_eq_some_iff.1 h2).1;obtain rfl | rfl | rfl | rfl | rfl | rfl | rfl:j=0\/j=1\/j=2\/j=3\/j=4\/j=5\/j=6:=acN
 all_goals
  simp[cR]at h1 h2;subst h1 h2
  first | exact .int _ _ _ | exact .str _ []
theorem Y6 (x:Value) (t0:TypeId) (w:World):(Instr.typeAssert (.iface 189 x) t0 189 true).run Tryz.prog w=.ok (.tuple #[x,.bool true]) w:=by
 have hu:(underlying 189).run Tryz.prog w=.ok (.int .i64) w:=by rfl
 unfold Instr.typeAssert;simp[go_sem,hu]
theorem MZ:cM Tryz.prog 135=some 7:=by kernel_rfl
theorem M7:cM Tryz.prog 24=some 1:=by kernel_rfl
theorem Pm (w:World):(Instr.build 135 #[]).run Tryz.prog w=.ok zeroV w:=by kernel_rfl
theorem nK {P:Program} {o:Oper} {a:Act} {w w':World} {v:Value} {next:Act->World->Prop} {Q:Exit->Act->World->Prop} (h:(execOp a.eval o).run P w=.ok (.value v) w') (hn:next (a.put o.dst v) w') :
    Oper.uponIn Fence.wide 0 P o a next Q ((o.semAt Fence.wide.round a.eval).run P w):=by
 rw[show Fence.wide.round=none from rfl,Oper.semAt_none,h];exact hn
theorem FM {P:Program} {o:Oper} {a:Act} {w w':World} {next:Act->World->Prop} {Q:Exit->Act->World->Prop} (h:(execOp a.eval o).run P w=.ok .skip w') (hn:next (a.put o.dst undef) w') :
    Oper.uponIn Fence.wide 0 P o a next Q ((o.semAt Fence.wide.round a.eval).run P w):=by
 rw[show Fence.wide.round=none from rfl,Oper.semAt_none,h];exact hn
theorem Vv (e:Nat) (i0 i1:Nat) (cs0:List AV) (x1:AV) (hi:i0≠i1) (hc0:cs0.length=7) :
    pJ Tryz.prog 135 [(i0,.var cs0),(i1,.var [x1])] [.aa i0 0,.aa i1 0] (jR e) [(i1,.var [.int .i64 (e:Nat)]),(i0,.var cR)]:=by
 intro X0 ρ w vs hh hA hX hvs hrv;obtain⟨v0,v1,rfl⟩:=rB hvs;have hnt:Tryz.f135.ntmps=12:=Tryz.ntmps135;generalize hh0:([(i0,.var cs0),(i1,.var [x1])]:HP)=h at *
 let E0:Env:=⟨w,aW ρ h,X0,Tryz.f135.ntmps,0,λk=>#[v0,v1].getD (k-2000000) undef,none,w.heap.size,acT _,[]⟩
 have g0:ai E0 ρ ⟨jh [.aa i0 0,.aa i1 0],h⟩ {tmps:=#[v0,v1]++Array.replicate (Tryz.f135.ntmps-#[v0,v1].size) undef,defers:=[]} w:=rq (B:=0) (by rw[hnt];decide) (by rw[hnt];exact(by decide:2<=12)) hh hA hX hvs hrv [] rfl;have hE:∀d,d<12->d<E0.N:=λd hd=>by show d<Tryz.f135.ntmps;rw[hnt];exact hd
 have g1:=(((((g0.put 5 (hE 5 (by decide)) (v:=jR e) (av:=.undef) (.undef _ _)).put 6 (hE 6 (by decide)) (v:=.tuple #[.int .i64 (e:Nat),.bool true]) (av:=.undef) (.undef _ _)).put 4 (hE 4 (by decide)) (v:=.tuple #[.int .i64 (e:Nat),.bool true]) (av:=.undef) (.undef _ _)).put 7 (hE 7 (by decide)) (v:=.int .i64 (e:Nat)) (av:=.int .i64 (e:Nat)) (.int _ _ _)).put 8 (hE 8 (by decide)) (v:=.bool true) (av:=.bool true) (.bool _ _)).put 2 (hE 2 (by decide)) (v:=.int .i64 (e:Nat)) (av:=.int .i64 (e:Nat)) (.int _ _ _);have g2:=g1.put 3 (hE 3 (by decide)) (v:=.bool true) (av:=.bool true) (.bool _ _);have g3:=g2.put 9 (hE 9 (by decide)) (v:=.bool true) (av:=.bool true) (.bool _ _);have g4:=(g3.put 10 (hE 10 (by decide)) (v:=zeroV) (av:=.agg cR) (acC _ _ _)).put 11 (hE 11 (by decide)) (v:=.int .i64 (e:Nat)) (av:=.int .i64 (e:Nat)) (.int _ _ _);have b3:=bn g2 (.tmp 3);have b9:=bn g3 (.tmp 9);have b2:=bn g3 (.tmp 2);clear g0 g1 g2 g3;generalize hac:(((((((((({tmps:=#[v0,v1]++Array.replicate (Tryz.f135.ntmps-#[v0,v1].size) undef,defers:=[]}:Act).put (some 5) (jR e)).put (some 6) (.tuple #[.int .i64 (e:Nat),.bool true])).put (some 4) (.tuple #[.int .i64 (e:Nat),.bool true])).put (some 7) (.int .i64 (e:Nat))).put (some 8) (.bool true)).put (some 2) (.int .i64 (e:Nat))).put (some 3) (.bool true)).put (some 9) (.bool true)).put (some 10) zeroV).put (some 11) (.int .i64 (e:Nat))=ac at g4;have had:ac.defers=[]:=by rw[<-hac];rfl
 have fin:∃w1 w2,(Instr.storeAt 135 (ac.eval (.tmp 0)) (ac.eval (.tmp 10))).run Tryz.prog w=.ok () w1/\(Instr.storeAt 24 (ac.eval (.tmp 1)) (ac.eval (.tmp 11))).run Tryz.prog w1=.ok () w2 /\
     ∃ρ' st',ai E0 ρ' st' ac w2/\st'.h=[(i1,.var [.int .i64 (e:Nat)]),(i0,.var cR)]/\sget st'.s 2000000=some (.aa i0 0)/\sget st'.s 2000001=some (.aa i1 0):=by
  subst hh0;have g4:=g4.weaken (st':=⟨[(0,.aa i0 0),(1,.aa i1 0),(10,.agg cR),(11,.int .i64 (e:Nat)),(2000000,.aa i0 0),(2000001,.aa i1 0)],[(i0,.var cs0),(i1,.var [x1])]⟩) (by exact⟨rfl,rfl,rfl,rfl,rfl,rfl,trivial⟩) (by simp[dE,hget,hi,hi.symm]);have hx0:=bn g4 (.tmp 0);have hx10:=bn g4 (.tmp 10)
  obtain⟨w1,ρ1,st1,r1,g5,K⟩:=lv g4 MZ hx0 hx10 (K:=λ_ st1=>st1=⟨[(0,.aa i0 0),(1,.aa i1 0),(10,.agg cR),(11,.int .i64 (e:Nat)),(2000000,.aa i0 0),(2000001,.aa i1 0)],[(i0,.var cR),(i1,.var [x1])]⟩) (by
   simp[effSt,hget,bD,hdel,hc0,hi,hi.symm,cI,cR,aL,cellsOf,isCell,ev,trE,sget])
  subst K;have hx1:=bn g5 (.tmp 1);have hx11:=bn g5 (.tmp 11)
  obtain⟨w2,ρ2,st2,r2,g6,K⟩:=lv g5 M7 hx1 hx11 (K:=λ_ st1=>st1=⟨[(0,.aa i0 0),(1,.aa i1 0),(10,.agg cR),(11,.int .i64 (e:Nat)),(2000000,.aa i0 0),(2000001,.aa i1 0)],[(i1,.var [.int .i64 (e:Nat)]),(i0,.var cR)]⟩) (by
   simp[effSt,hget,bD,hdel,hi,hi.symm,cI,aL,cellsOf,isCell,ev,trE,sget])
  subst K;exact⟨w1,w2,r1,r2,ρ2,_,g6,rfl,rfl,rfl⟩
 obtain⟨w1,w2,r1,r2,ρ2,st2,g6,e1,e2,e3⟩:=fin;clear g4;refine callsDIn_of_wpSIn Tryz.func135 rfl trivial λc₀ cs hu=>?_;apply wpSIn_seq;apply wpSIn_region;simp[wpOpsSIn,go_sem,recoverD,hu,bS,jR,Tryz.ntmps135,Exit.thenS,Y6];refine wpSIn_of_wpIn rfl ?_;refine wpIn_seq ?_;refine wpIn_region ?_;simp[wpOpsIn,Oper.wpIn,Oper.uponIn,Oper.semAt_none,go_sem,Region.wanted,Exit.then]
 refine wpIn_cond_true (by simp[Act.eval,Array.replicate]) ?_;refine Eq.mpr (congrArg (λa=>Code.wpIn Fence.wide 0 Tryz.prog _ _ a w) (a₂:=(((((((({tmps:=#[v0,v1]++Array.replicate (Tryz.f135.ntmps-#[v0,v1].size) undef,defers:=[]}:Act).put (some 5) (jR e)).put (some 6) (.tuple #[.int .i64 (e:Nat),.bool true])).put (some 4) (.tuple #[.int .i64 (e:Nat),.bool true])).put (some 7) (.int .i64 (e:Nat))).put (some 8) (.bool true)).put (some 2) (.int .i64 (e:Nat))).put (some 3) (.bool true)).put (some 9) (.bool true)) ?_) ?_
 ·simp[Act.put,hnt,jR]
 refine wpIn_region_list (wpListIn_plain rfl (λnext hnext=>⟨λ_ _=>trivial,?_⟩))
 refine nK (v:=zeroV) (w':=w) (by simp[execOp,Pm]) (hnext _ _ ?_);refine wpListIn_plain rfl (λnext hnext=>⟨λ_ _=>trivial,?_⟩)
 refine nK (v:=.int .i64 (e:Nat)) (w':=w) (by simp[execOp,Act.eval,Act.put,hnt]) (hnext _ _ ?_);refine wpListIn_plain rfl (λnext hnext=>⟨λ_ _=>trivial,?_⟩)
 rw[hac];refine FM (w':=w1) (by simp[execOp,r1]) (hnext _ _ ?_);refine wpListIn_plain rfl (λnext hnext=>⟨λ_ _=>trivial,?_⟩)
 refine FM (w':=w2) (by simp only[Act.put];simp[execOp,r2]) (hnext _ _ ?_);refine⟨had,_,rfl,.tuple #[],by simp[results,Tryz.results135],⟨_,rfl⟩,rfl,ρ2,?_,?_,g6.an.os,g6.an.tape,g6.an.output,g6.an.size,g6.an.block,?_⟩
 ·have:=g6.heap;rw[e1]at this;exact this
 ·intro j v x h1 h2;have hj:j<2:=(List.getElem?_eq_some_iff.1 h2).1
  have hgv:∀k,2000000<=k->bl E0 ac k=E0.gv k:=λk hk=>by
   unfold bl;rw[if_neg (by show ¬k<Tryz.f135.ntmps;rw[hnt];omega)]
  obtain rfl | rfl:j=0\/j=1:=acN
  ·obtain rfl:v0=v:=by simpa using h1
   obtain rfl:AV.aa i0 0=x:=by simpa using h2
   have hr:=(g6.aX _ _ e2).2;rw[hgv _ (acT _),e1]at hr;exact hr
  ·obtain rfl:v1=v:=by simpa using h1
   obtain rfl:AV.aa i1 0=x:=by simpa using h2
   have hr:=(g6.aX _ _ e3).2;rw[hgv _ (Nat.le_succ _),e1]at hr;exact hr
 ·rintro b ⟨id,W,L,h1,h2,h3⟩;rw[<-e1]at h1;exact g6.base id W L b h1 h2 h3
open Eng Sh
set_option maxRecDepth 10000
def b7 (b:Bs) (p:Nat):HP:=[(143032,.var [.str b,.int .i64 p])]
theorem dP {p:Prop} (h:p:=by simp(disch:=first | omega | (simp only[Lx];omega))only[go_sem,simprocAttr,b7]):p:=h
theorem mJ {a b:Prop} (k:b) (h:b->a:=by intro h;simp(disch:=first | omega | (simp only[Lx];omega))only[go_sem,simprocAttr,b7];exact h):a:=h k
theorem pD {E0:Prop} {a b:Prop} (e0:E0) (k:b) (h:E0->b->a:=by intro e0 h;simp(disch:=first | omega | (simp only[Lx];omega))only[go_sem,simprocAttr,b7,e0];exact h):a:=h e0 k
theorem Om {E0:Prop} {a b:Prop} (e0:E0) (k:b) (h:E0->b->a:=by intro e0 h;(repeat(first | (with_reducible refine cC ?_) | (with_reducible refine cz ?_) | (with_reducible refine cB ?_))<;>simp(disch:=first | omega | (simp only[Lx];omega))only[go_sem,simprocAttr,b7,e0]);exact h):a:=h e0 k
theorem G0 {E0 E1:Prop} {a b:Prop} (e0:E0) (e1:E1) (k:b) (h:E0->E1->b->a:=by intro e0 e1 h;simp(disch:=first | omega | (simp only[Lx];omega))only[go_sem,simprocAttr,b7,e0,e1];exact h):a:=h e0 e1 k
theorem Cx {E0 E1:Prop} {a b:Prop} (e0:E0) (e1:E1) (k:b) (h:E0->E1->b->a:=by intro e0 e1 h;(repeat(first | (with_reducible refine cC ?_) | (with_reducible refine cz ?_) | (with_reducible refine cB ?_))<;>simp(disch:=first | omega | (simp only[Lx];omega))only[go_sem,simprocAttr,b7,e0,e1]);exact h):a:=h e0 e1 k
theorem L4 {t:TypeId} {n:Int} {e:Nat} {st:St} (ht:t=189:=by rfl) (hn:n=(e:Nat):=by rfl):(KQ.dies (jR e)).ap (.panic (bS (.iface t (.int .i64 n)))) st:=by
 subst ht hn;exact of_eq_true np
theorem uo (b:Bs) (p:Nat) (hb:b.length<=1000000) (h:p<b.length):Eng.Spec Tryz.prog 188 (b7 b p) [.aa 143032 0] (λh' v ar=>h'=b7 b (p+1)/\v=.int .i64 ((b.getD p 0).toNat:Nat)/\ar=[.aa 143032 0]):=by
 refine Cod.Vq (λE R hN hR=>?_);have hu:=(b.getD p 0).toNat_lt;have e1:((p:Int)+1-1).toNat=p:=acN;refine pD e1 ?_;exact hR.le dP ⟨rfl,rfl,rfl⟩
theorem um (b:Bs) (p:Nat) (hp:p<=2000000) (hb:b.length<=1000000) (h:b.length<=p):Eng.gT Tryz.prog 188 (b7 b p) [.aa 143032 0] (jR 6):=by
 refine Cod.Vp (λE hN=>?_);refine mJ ?_;exact L4
def headR (b:Bs):Nat->Nat->Nat->Nat->Nat×Nat×Nat
 | 0,p,_,_=>if b.length<=p then(0,0,6)else(0,0,3)
 | m+1,p,size,sh=>if b.length<=p then(0,0,6)else if(b.getD p 0).toNat<128 then(size+(b.getD p 0).toNat%128*2^sh,p+1,0)else headR b m (p+1) (size+(b.getD p 0).toNat%128*2^sh) (sh+7)
def cd (b:Bs) (p:Nat):Nat×Nat×Nat×Nat:=
 if b.length<=p then(0,0,0,6)else if(b.getD p 0).toNat<128 then((b.getD p 0).toNat/16%8,(b.getD p 0).toNat%16,p+1,0)else
 if(headR b 4 (p+1) ((b.getD p 0).toNat%16) 4).2.2≠0 then(0,0,0,(headR b 4 (p+1) ((b.getD p 0).toNat%16) 4).2.2)else
 ((b.getD p 0).toNat/16%8,(headR b 4 (p+1) ((b.getD p 0).toNat%16) 4).1,(headR b 4 (p+1) ((b.getD p 0).toNat%16) 4).2.1,0)
theorem pO {x n:Nat} (hx:x<1000000) (hn:n<=10):bits .and .i64 (x:Int) ((2^n-1:Nat):Int)=((x%2^n:Nat):Int):=by
 have hp:2^n<=2^10:=acV (by decide) hn;have hp1:0<2^n:=afm (by decide);have:=ad9 x hp1
 show IntKind.i64.wrap ((BitVec.ofInt 64 (x:Int) &&& BitVec.ofInt 64 ((2^n-1:Nat):Int)).toNat:Int)=_
 rw[ac2,ac2,ad1,ac1,ac1,acY acN,acY acN,adx];exact eE acN
theorem UW {x k c:Nat} (hx:x<2^k) (hk:k<=32) (hc:c<128):bits .or .i64 (x:Int) (IntKind.i64.wrap ((c:Int)*2^min k 64))=((x+c*2^k:Nat):Int):=by
 have hp:2^k<=2^32:=acV (by decide) hk;have h2:c*2^k<=127*2^32:=aeY acN hp
 have e:IntKind.i64.wrap ((c:Int)*2^min k 64)=((c*2^k:Nat):Int):=by
  rw[adk acN,show((c:Int)*2^k)=((c*2^k:Nat):Int)by push_cast;rfl];exact eE acN
 rw[e]
 show IntKind.i64.wrap ((BitVec.ofInt 64 (x:Int) ||| BitVec.ofInt 64 ((c*2^k:Nat):Int)).toNat:Int)=_
 rw[ac2,ac2,adZ,ac1,ac1,acY acN,acY acN,Nat.or_comm,<-adD,<-adu hx,adD,ae0];exact eE acN
set_option maxHeartbeats 1000000 in
theorem EL (b:Bs) (p:Nat) (hb:b.length<=1000000) (hp:p<=1000000) {E:Env} (hN:E.N<=1000000) (Q:KQ)
    (hret:(cd b p).2.2.2=0->Q.ap .ret ⟨[(2,.int .i64 ((cd b p).1:Nat)),(3,.int .i64 ((cd b p).2.1:Nat)),(2000000,.aa 143032 0)],b7 b (cd b p).2.2.1⟩)
    (hdie:∀st,(cd b p).2.2.2≠0->Q.ap (.panic (bS (jR (cd b p).2.2.2))) st) :
    vcW Tryz.prog E Cod.Vw Q ⟨[(0,.aa 143032 0),(2000000,.aa 143032 0)],b7 b p⟩:=by
 generalize hH:cd b p=H at *
 unfold cd at hH;by_cases h0:b.length<=p
 ·rw[if_pos h0]at hH;subst hH;refine wW ?_;refine j5 (b7 b p) (um b p acN hb h0) dP ?_;exact hdie _ (by decide)
 ·rw[if_neg h0]at hH;have hu:=(b.getD p 0).toNat_lt;have hby:=uo b p hb acN;generalize (b.getD p 0).toNat=c at *
  have hsh:((c:Nat):Int).fdiv (2^min 4 64)=((c/16:Nat):Int):=by
   rw[adk (by decide),adv _ (by decide)];omega
  have hk7:bits .and .i64 ((c/16:Nat):Int) 7=((c/16%8:Nat):Int):=pO (n:=3) acN (by decide);have hk15:bits .and .i64 (c:Int) 15=((c%16:Nat):Int):=pO (n:=4) acN (by decide);refine wW ?_;refine iU ?_;refine aI (b7 b p) hby dP nofun ?_;rintro h' v ar ⟨rfl,rfl,rfl⟩;refine⟨dP,rfl,?_⟩;refine bp hsh hk7 hk15 ?_
  refine aD hN (λq:Nat×Nat×Nat×Nat=>⟨[(0,.aa 143032 0),(2,.int .i64 0),(3,.int .i64 0),(4,.int .i64 q.2.2.2),(5,.int .i64 (c/16%8:Nat)),(6,.int .i64 q.2.2.1),(7,.int .i64 (4+7*(4-q.1):Nat)),(2000000,.aa 143032 0)],b7 b q.2.1⟩)
   (λq=>q.1<=4/\q.2.1<=1000000/\q.2.2.1<2^(4+7*(4-q.1))/\q.2.2.2<256/\(if q.2.2.2<128 then H=(c/16%8,q.2.2.1,q.2.1,0)else
    H=if(headR b q.1 q.2.1 q.2.2.1 (4+7*(4-q.1))).2.2≠0 then(0,0,0,(headR b q.1 q.2.1 q.2.2.1 (4+7*(4-q.1))).2.2)else(c/16%8,(headR b q.1 q.2.1 q.2.2.1 (4+7*(4-q.1))).1,(headR b q.1 q.2.1 q.2.2.1 (4+7*(4-q.1))).2.1,0)))
   (λq=>if q.2.2.2<128 then 0 else q.1+1) (4,p+1,c%16,c) (.le dP) ⟨by simp,by simp only;omega,by simp only;omega,hu,by
    by_cases hc:c<128
    ·rw[if_pos hc]at hH;simp only[if_pos hc];exact hH.symm
    ·rw[if_neg hc]at hH;simp only[if_neg hc];exact hH.symm⟩ ?_
  clear hH hby hsh hk15;rintro⟨m,p2,n,d⟩ R1 ⟨hm,hp2,hn,hd,hH⟩ hR1;simp only at hm hp2 hn hd hH;generalize hshe:4+7*(4-m)=sh at *
  by_cases hc:d<128
  ·rw[if_pos hc]at hH;subst hH;have hret:=hret rfl;simp only[b7]at hret;refine pD hshe ?_;exact hret
  ·rw[if_neg hc]at hH;by_cases hend:b.length<=p2
   ·have hR0:headR b m p2 n sh=(0,0,6):=by cases m with | zero=>exact if_pos hend | succ m=>exact if_pos hend
    rw[hR0,if_pos (by decide)]at hH;subst hH;refine pD hshe ?_;refine j5 (b7 b p2) (um b p2 acN hb hend) dP ?_;exact hdie _ (by decide)
   ·have hby:=uo b p2 hb acN;have hu:=(b.getD p2 0).toNat_lt
    cases m with
    | zero=>
     have hR0:headR b 0 p2 n sh=(0,0,3):=if_neg hend;rw[hR0,if_pos (by decide)]at hH;subst hH;refine pD hshe ?_;refine iU ?_;refine aI (b7 b p2) hby dP nofun ?_;rintro h' v ar ⟨rfl,rfl,rfl⟩;refine⟨dP,rfl,?_⟩;have hgt:(25:Int)<(sh:Int):=acN;refine aE hgt hshe ?_
     exact hdie _ (by decide)
    | succ m=>
     have hR0:headR b (m+1) p2 n sh=if(b.getD p2 0).toNat<128 then(n+(b.getD p2 0).toNat%128*2^sh,p2+1,0)else headR b m (p2+1) (n+(b.getD p2 0).toNat%128*2^sh) (sh+7):=if_neg hend
     rw[hR0]at hH;generalize (b.getD p2 0).toNat=x at *
     have hk:bits .and .i64 (x:Int) 127=((x%128:Nat):Int):=pO (n:=7) acN (by decide);have ho:=UW (x:=n) (k:=sh) (c:=x%128) hn acN (ad9 _ (by decide))
     have hn2:n+x%128*2^sh<2^(sh+7):=by
      have h1:x%128<=127:=acN;have h2:x%128*2^sh<=127*2^sh:=ade _ h1;rw[aeO];omega
     have hgt:¬(25:Int)<(sh:Int):=acN;have hs7:sh+7=4+7*(4-m):=acN
     have aA:n+x%128*2^sh<4294967296:=by
      have:2^(sh+7)<=2^32:=acV (by decide) acN;omega
     refine pD hshe ?_;refine iU ?_;refine aI (b7 b p2) hby dP nofun ?_;rintro h' v ar ⟨rfl,rfl,rfl⟩;refine⟨dP,rfl,?_⟩;refine bV hgt hshe hk ho ?_;generalize hz:n+x%128*2^sh=z at *
     rw[hs7]at hH hn2;refine hR1 (m,p2+1,z,x) _ ?_ ⟨by simp only;omega,by simp only;omega,hn2,hu,?_⟩ (.le ?_)
     ·simp only[if_neg hc];split<;>omega
     ·simp only;by_cases hx:x<128
      ·rw[if_pos hx]at hH |-;rw[if_neg (by simp)]at hH;exact hH
      ·rw[if_neg hx]at hH |-;exact hH
     ·simp(disch:=omega)only[go_sem,simprocAttr,b7,<-hs7]
theorem Vz (b:Bs) (p:Nat) (hb:b.length<=1000000) (hp:p<=1000000) (he:(cd b p).2.2.2=0):Eng.Spec Tryz.prog 136 (b7 b p) [.aa 143032 0]
    (λh' v ar=>h'=b7 b (cd b p).2.2.1/\v=.af [.int .i64 ((cd b p).1:Nat),.int .i64 ((cd b p).2.1:Nat)]/\ar=[.aa 143032 0]):=by
 refine Cod.VA (λE R hN hR=>?_);refine EL b p hb hp hN _ (λ_=>?_) (λst h=>absurd he h);refine mJ ?_;exact hR.le dP ⟨rfl,rfl,rfl⟩
theorem Vx (b:Bs) (p:Nat) (hb:b.length<=1000000) (hp:p<=1000000) (he:(cd b p).2.2.2≠0):Eng.gT Tryz.prog 136 (b7 b p) [.aa 143032 0] (jR (cd b p).2.2.2):=by
 refine Cod.Vy (λE hN=>?_);exact EL b p hb hp hN _ (λh=>absurd h he) (λst _=>of_eq_true np)
def jq (b:Bs):Nat->Nat->Nat->Nat×Nat×Nat
 | 0,_,_=>(0,0,6)
 | k+1,p,n=>if b.length<=p then(0,0,6)else if(b.getD p 0).toNat<128 then(n+(b.getD p 0).toNat%128,p+1,0)else if 16777216<n+(b.getD p 0).toNat%128 then(0,0,3)else jq b k (p+1) ((n+(b.getD p 0).toNat%128+1)*128)
theorem oq (b:Bs) (k p n:Nat):jq b (k+1) p n=if b.length<=p then(0,0,6)else if(b.getD p 0).toNat<128 then(n+(b.getD p 0).toNat%128,p+1,0)else if 16777216<n+(b.getD p 0).toNat%128 then(0,0,3)else jq b k (p+1) ((n+(b.getD p 0).toNat%128+1)*128):=rfl
def cg (b:Bs) (p:Nat):Nat×Nat×Nat:=jq b (b.length+1-p) p 0
theorem pS (b:Bs) {p:Nat} (h:b.length<=p) (k n:Nat):jq b k p n=(0,0,6):=by
 cases k with
 | zero=>rfl
 | succ k=>rw[oq,if_pos h]
theorem UR {x b:Nat} (hx:x<281474976710656) (hb:b<128):bits .or .i64 (IntKind.i64.wrap ((x:Int)*2^min 7 64)) (b:Int)=((128*x+b:Nat):Int):=by
 have h1:((x:Int)*2^min 7 64)=((x*128:Nat):Int):=by
  rw[show((2:Int)^min 7 64)=128 by decide];omega
 rw[h1,eE acN]
 show IntKind.i64.wrap ((BitVec.ofInt 64 ((x*128:Nat):Int) ||| BitVec.ofInt 64 (b:Int)).toNat:Int)=_
 rw[ac2,ac2,adZ,ac1,ac1,acY acN,acY acN]
 have h2:x*128 ||| b=128*x+b:=by
  have h3:=adu (b:=b) (i:=7) acN x;rw[adD,show(2:Nat)^7=128 by decide]at h3;omega
 rw[h2];exact eE acN
set_option maxHeartbeats 1000000 in
theorem EK (b:Bs) (p:Nat) (hb:b.length<=1000000) (hp:p<=1000000) {E:Env} (hN:E.N<=1000000) (Q:KQ)
    (hret:(cg b p).2.2=0->Q.ap .ret ⟨[(2,.int .i64 ((cg b p).1:Nat)),(2000000,.aa 143032 0)],b7 b (cg b p).2.1⟩)
    (hdie:∀st,(cg b p).2.2≠0->Q.ap (.panic (bS (jR (cg b p).2.2))) st) :
    vcW Tryz.prog E Cod.Vk Q ⟨[(0,.aa 143032 0),(2000000,.aa 143032 0)],b7 b p⟩:=by
 generalize hH:cg b p=H at *
 by_cases h0:b.length<=p
 ·rw[cg,pS b h0]at hH;subst hH;refine wW ?_;refine j5 (b7 b p) (um b p acN hb h0) dP ?_;exact hdie _ (by decide)
 ·rw[cg,show b.length+1-p=(b.length-p)+1 by omega,oq,if_neg h0]at hH;have hu:=(b.getD p 0).toNat_lt;have hby:=uo b p hb acN;generalize (b.getD p 0).toNat=c at *
  have hk:bits .and .i64 (c:Int) 127=((c%128:Nat):Int):=pO (n:=7) acN (by decide);refine wW ?_;refine iU ?_;refine aI (b7 b p) hby dP nofun ?_;rintro h' v ar ⟨rfl,rfl,rfl⟩;refine⟨dP,rfl,?_⟩;refine ab hk ?_
  refine aD hN (λq:Nat×Nat×Nat=>⟨[(0,.aa 143032 0),(2,.int .i64 0),(3,.int .i64 q.2.2),(4,.int .i64 q.2.1),(2000000,.aa 143032 0)],b7 b q.1⟩)
   (λq=>q.1<=1000001/\q.2.1<4294967296/\q.2.2<256/\(if q.2.2<128 then H=(q.2.1,q.1,0)else if 16777216<q.2.1 then H=(0,0,3)else ∃k,b.length-q.1<k/\jq b k q.1 ((q.2.1+1)*128)=H))
   (λq=>b.length+1-q.1) (p+1,c%128,c) (.le dP) ⟨by simp only;omega,by simp only;omega,hu,by
    simp only;by_cases hc:c<128
    ·rw[if_pos hc,aeo]at hH;rw[if_pos hc];exact hH.symm
    ·rw[if_neg hc,aeo]at hH;rw[if_neg hc];by_cases hg:16777216<c%128;omega
     ·rw[if_neg hg]at hH |-
      exact⟨_,acN,hH⟩⟩ ?_
  clear hH hby hk;rintro⟨p2,n,d⟩ R1 ⟨hp2,hn,hd,hH⟩ hR1;simp only at hp2 hn hd hH;by_cases hc:d<128
  ·rw[if_pos hc]at hH;subst hH;have hret:=hret rfl;simp only[b7]at hret;refine mJ ?_;exact hret
  ·rw[if_neg hc]at hH;by_cases hg:16777216<n
   ·rw[if_pos hg]at hH;subst hH;refine mJ ?_;exact hdie _ (by decide)
   ·rw[if_neg hg]at hH;obtain⟨k,hk,hH⟩:=hH;by_cases hend:b.length<=p2
    ·rw[pS b hend]at hH;subst hH;refine mJ ?_;refine j5 (b7 b p2) (um b p2 acN hb hend) dP ?_;exact hdie _ (by decide)
    ·have hby:=uo b p2 hb acN;have hu:=(b.getD p2 0).toNat_lt;obtain⟨k,rfl⟩:∃k',k=k'+1:=⟨k-1,acN⟩;rw[oq,if_neg hend]at hH;generalize (b.getD p2 0).toNat=x at *
     have hk2:bits .and .i64 (x:Int) 127=((x%128:Nat):Int):=pO (n:=7) acN (by decide);have ho:=UR (x:=n+1) (b:=x%128) acN (ad9 _ (by decide));have e1:((n+1:Nat):Int)=(n:Int)+1:=acN;rw[e1]at ho;have e2:(n+1)*128+x%128=128*(n+1)+x%128:=acN;rw[e2]at hH;refine mJ ?_;refine iU ?_;refine aI (b7 b p2) hby dP nofun ?_;rintro h' v ar ⟨rfl,rfl,rfl⟩;refine⟨dP,rfl,?_⟩;refine aE hk2 ho ?_;have hz:128*(n+1)+x%128<4294967296:=acN;generalize 128*(n+1)+x%128=z at *
     refine hR1 (p2+1,z,x) _ (by simp only;omega) ⟨by simp only;omega,hz,hu,?_⟩ (.le ?_)
     ·simp only;by_cases hx:x<128
      ·rw[if_pos hx]at hH |-;exact hH.symm
      ·rw[if_neg hx]at hH |-;by_cases hg2:16777216<z
       ·rw[if_pos hg2]at hH |-;exact hH.symm
       ·rw[if_neg hg2]at hH |-;exact⟨k,acN,hH⟩
     exact dP
theorem Vn (b:Bs) (p:Nat) (hb:b.length<=1000000) (hp:p<=1000000) (he:(cg b p).2.2=0):Eng.Spec Tryz.prog 137 (b7 b p) [.aa 143032 0]
    (λh' v ar=>h'=b7 b (cg b p).2.1/\v=.int .i64 ((cg b p).1:Nat)/\ar=[.aa 143032 0]):=by
 refine Cod.Vo (λE R hN hR=>?_);refine EK b p hb hp hN _ (λ_=>?_) (λst h=>absurd he h);refine mJ ?_;exact hR.le dP ⟨rfl,rfl,rfl⟩
theorem Vl (b:Bs) (p:Nat) (hb:b.length<=1000000) (hp:p<=1000000) (he:(cg b p).2.2≠0):Eng.gT Tryz.prog 137 (b7 b p) [.aa 143032 0] (jR (cg b p).2.2):=by
 refine Cod.Vm (λE hN=>?_);exact EK b p hb hp hN _ (λh=>absurd h he) (λst _=>of_eq_true np)
set_option maxHeartbeats 1000000 in
theorem XB (b:Bs) (p:Nat) (hb:b.length<=1000000) (hp:p<=1000000):ao Tryz.prog 156 [.str b,.int .i64 p] (.af [.int .i64 ((cg b p).1:Nat),.int .i64 ((cg b p).2.1:Nat),.int .i64 ((cg b p).2.2:Nat)]):=by
 refine Cod.XC (λE R hN hR=>?_);generalize hH:cg b p=H at *
 have hH:∃k,b.length-p<k/\jq b k p 0=H:=by
  by_cases hpb:p<=b.length;exact⟨b.length+1-p,acN,hH⟩
  ·refine⟨1,acN,?_⟩;rw[<-hH,cg,pS b acN,pS b acN]
 refine wW ?_
 refine aD hN (λq:Nat×Nat=>⟨[(0,.str b),(1,.int .i64 p),(7,.int .i64 q.2),(8,.int .i64 q.1)],[]⟩)
  (λq=>q.1<=b.length/\q.2<4294967296/\(if q.1=0 then q.2=0 else if 16777216<q.2 then H=(0,0,3)else ∃k,b.length-(p+q.1)<k/\jq b k (p+q.1) ((q.2+1)*128)=H))
  (λq=>b.length+1-q.1) (0,0) (.le vV) ⟨by simp,by simp,by simp⟩ ?_
 rintro⟨i,n⟩ R1 ⟨hi,hn,hI⟩ hR1;simp only at hi hn hI;refine wW ?_;refine cf (y:=Cod.XA) hN (λm:Nat=>⟨[(0,.str b),(1,.int .i64 p),(7,.int .i64 m),(8,.int .i64 i)],[]⟩) (λm=>m<4000000000/\∃k,b.length-(p+i)<k/\jq b k (p+i) m=H) (λR2 hR2=>?_) (λm hm=>?_)
 ·by_cases h0:i=0
  ·subst h0;rw[if_pos rfl]at hI;subst hI;refine wW ?_;exact hR2 0 _ ⟨by decide,hH⟩ (.le vV)
  ·rw[if_neg h0]at hI;have hi0:(0:Int)<(i:Int):=acN;by_cases hg:16777216<n
   ·rw[if_pos hg]at hI;subst hI;refine ab hi0 ?_;exact hR.ro ⟨rfl,rfl⟩
   ·rw[if_neg hg]at hI;refine ab hi0 ?_;exact hR2 ((n+1)*128) _ ⟨acN,hI⟩ (.le vV)
 ·obtain⟨hml,k,hk,hI⟩:=hm;by_cases hend:b.length<=p+i
  ·rw[pS b hend]at hI;subst hI;have hc:(b.length:Int)<=(p:Int)+(i:Int):=acN;refine ab hc ?_;exact hR.ro ⟨rfl,rfl⟩
  ·have hc:¬(b.length:Int)<=(p:Int)+(i:Int):=acN;obtain⟨k,rfl⟩:∃k',k=k'+1:=⟨k-1,acN⟩;rw[oq,if_neg hend]at hI;have hu:=(b.getD (p+i) 0).toNat_lt;have et:((p:Int)+(i:Int)).toNat=p+i:=acN;generalize hx:(b.getD (p+i) 0).toNat=x at *
   have em:(x:Int).tmod 128=((x%128:Nat):Int):=by rw[gh acN];omega
   by_cases h8:x<128
   ·rw[if_pos h8]at hI;subst hI;refine bV hc et hx em ?_;exact hR.ro ⟨rfl,rfl⟩
   ·rw[if_neg h8]at hI;refine bV hc et hx em ?_;refine hR1 (i+1,m+x%128) _ (by simp only;omega) ⟨by simp only;omega,by simp only;omega,?_⟩ (.le vV);simp only;rw[if_neg acN];by_cases hg:16777216<m+x%128
    ·rw[if_pos hg]at hI |-;exact hI.symm
    ·rw[if_neg hg]at hI |-;exact⟨k,acN,hI⟩
def Bg (k:Nat) (r:Nat×Nat×Nat):Nat×Nat×Nat×Nat:=if r.2.2≠0 then(0,0,0,r.2.2)else(k,r.1,r.2.1,0)
abbrev abk (H:Nat×Nat×Nat×Nat):AV:=.af [.int .i64 (H.1:Nat),.int .i64 (H.2.1:Nat),.int .i64 (H.2.2.1:Nat),.int .i64 (H.2.2.2:Nat)]
set_option maxHeartbeats 1000000 in
theorem Yj (b:Bs) (p:Nat) (hb:b.length<=1000000) (hp:p<=1000000):ao Tryz.prog 155 [.str b,.int .i64 p] (abk (cd b p)):=by
 refine Cod.Yk (λE R hN hR=>?_);generalize hH:cd b p=H at *
 unfold cd at hH;refine wW ?_
 refine aD hN (λq:Nat×Nat×Nat×Nat=>⟨[(0,.str b),(1,.int .i64 p),(8,.int .i64 q.2.1),(9,.int .i64 q.2.2.1),(10,.int .i64 q.2.2.2),(11,.int .i64 q.1)],[]⟩)
  (λq=>q.1<=5/\q.2.2.1<4294967296/\(if q.1=0 then q.2.1=0/\q.2.2.1=0 else q.2.2.2=2^(4+7*(q.1-1))/\q.2.2.1<2^(4+7*(q.1-1))/\q.2.1<8/\H=Bg q.2.1 (headR b (5-q.1) (p+q.1) q.2.2.1 (4+7*(q.1-1)))))
  (λq=>6-q.1) (0,0,0,1) (.le vV) ⟨by simp,by simp,by simp⟩ ?_
 rintro⟨i,kd,n,un⟩ R1 ⟨hi,hnl,hI⟩ hR1;simp only at hi hnl hI;by_cases hend:b.length<=p+i
 ·have hHe:H=(0,0,0,6):=by
   by_cases h0:i=0
   ·subst h0;rw[if_pos (show b.length<=p by omega)]at hH;exact hH.symm
   ·rw[if_neg h0]at hI;rw[hI.2.2.2]
    have hR0:headR b (5-i) (p+i) n (4+7*(i-1))=(0,0,6):=by
     generalize 5-i=m
     cases m with
     | zero=>exact if_pos hend
     | succ m=>exact if_pos hend
    rw[hR0];rfl
  subst hHe;have hc:(b.length:Int)<=(p:Int)+(i:Int):=acN;refine ab hc ?_;exact hR.ro ⟨rfl,rfl⟩
 ·have hc:¬(b.length:Int)<=(p:Int)+(i:Int):=acN;by_cases h5:i=5
  ·subst h5;rw[if_neg (by decide)]at hI
   have hHe:H=(0,0,0,3):=by
    rw[hI.2.2.2,show headR b (5-5) (p+5) n (4+7*(5-1))=(0,0,3)from if_neg hend];rfl
   subst hHe;have hc5:¬(b.length:Int)<=(p:Int)+5:=acN;refine ab hc5 ?_;exact hR.ro ⟨rfl,rfl⟩
  ·have hi5:¬((i:Int)=5):=acN;have hu:=(b.getD (p+i) 0).toNat_lt;have et:((p:Int)+(i:Int)).toNat=p+i:=acN;generalize hx:(b.getD (p+i) 0).toNat=x at *
   have em:(x:Int).tmod 128=((x%128:Nat):Int):=by rw[gh acN];omega
   have e16:(x:Int).tmod 16=((x%16:Nat):Int):=by rw[gh acN];omega
   have d16:(x:Int).tdiv 16=((x/16:Nat):Int):=by rw[la acN];omega
   have e8:((x/16:Nat):Int).tmod 8=((x/16%8:Nat):Int):=by rw[gh acN];omega
   refine bV hc hi5 et hx ?_
   refine cf (y:=Cod.Yi) hN (λq:Nat×Nat=>⟨[(0,.str b),(1,.int .i64 p),(8,.int .i64 q.1),(9,.int .i64 q.2),(10,.int .i64 (2^(4+7*i):Nat)),(11,.int .i64 i),(12,.int .i64 x)],[]⟩)
    (λq=>q.2<2^(4+7*i)/\q.1<8/\(if x<128 then H=(q.1,q.2,p+i+1,0)else H=Bg q.1 (headR b (4-i) (p+i+1) q.2 (4+7*i)))) (λR2 hR2=>?_) (λq hq=>?_)
   ·by_cases h0:i=0
    ·subst h0;rw[if_neg (show ¬b.length<=p by omega)]at hH;simp only[adE]at hx hH;rw[hx]at hH;refine bp e16 d16 e8 ?_;refine hR2 (x/16%8,x%16) _ ⟨by simp only;omega,by simp only;omega,?_⟩ (.le vV);simp only;by_cases h8:x<128
     ·rw[if_pos h8]at hH |-;exact hH.symm
     ·rw[if_neg h8]at hH |-;exact hH.symm
    ·have hi0:¬((i:Int)=0):=acN;rw[if_neg h0]at hI;obtain⟨hun,hn,hkd,hHI⟩:=hI
     have hR0:headR b (5-i) (p+i) n (4+7*(i-1))=if(b.getD (p+i) 0).toNat<128 then(n+(b.getD (p+i) 0).toNat%128*2^(4+7*(i-1)),p+i+1,0)else headR b (4-i) (p+i+1) (n+(b.getD (p+i) 0).toNat%128*2^(4+7*(i-1))) (4+7*(i-1)+7):=by
      rw[show 5-i=(4-i)+1 by omega];exact if_neg hend
     rw[hR0,hx,show 4+7*(i-1)+7=4+7*i by omega]at hHI
     have hs:2^(4+7*i)=2^(4+7*(i-1))*128:=by
      rw[show 4+7*i=(4+7*(i-1))+7 by omega,aeO]
     have hub:2^(4+7*(i-1))<=2^25:=acV (by decide) acN;generalize 2^(4+7*(i-1))=u at *
     subst hun;have hmul:x%128*un<=127*un:=ade _ acN;have hmi:((x%128:Nat):Int)*(un:Int)=((x%128*un:Nat):Int):=by push_cast;rfl
     generalize hw:x%128*un=w at *
     refine bp hi0 em hmi ?_;refine hR2 (kd,n+w) _ ⟨by simp only;omega,hkd,?_⟩ (.le (by rw[hs];exact vV));simp only;by_cases h8:x<128
     ·rw[if_pos h8]at hHI |-;rw[hHI];rfl
     ·rw[if_neg h8]at hHI |-;exact hHI
   ·obtain⟨kd2,n2⟩:=q;obtain⟨g1,g2,g3⟩:=hq;simp only at g1 g2 g3 |-;have hub:2^(4+7*i)<=2^32:=acV (by decide) acN;by_cases h8:x<128
    ·rw[if_pos h8]at g3;subst g3;refine wW ?_;exact hR.ro ⟨rfl,rfl⟩
    ·rw[if_neg h8]at g3;refine wW ?_;refine hR1 (i+1,kd2,n2,2^(4+7*i)) _ (by simp only;omega) ⟨by simp only;omega,by simp only;omega,?_⟩ (.le vV);simp only;rw[if_neg acN,Nat.add_sub_cancel];exact⟨rfl,g1,g2,by rw[g3,show 5-(i+1)=4-i by omega,adX]⟩
structure En where
 at_:Nat
 next:Nat
 kind:Nat
 data:Bs
 base:Nat
 id:Bs
 jZ:W
def dR:En:=⟨0,0,0,[],0,[],0#32⟩
def gw (e:En):List AV:=[.int .i64 e.at_,.int .i64 e.next,.int .i64 e.kind,.str e.data,.int .i64 e.base,.str e.id,.int .u32 e.jZ.toNat]
def fX (b:Bs) (p k q:Nat):Nat×Bs×Nat×Nat:=
 if 1<=k/\k<=4 then(0,[],q,0)else
 if k=6 then(if(cg b q).2.2≠0 then(0,[],0,(cg b q).2.2)else if(cg b q).1<1\/p-12<(cg b q).1 then(0,[],0,3)else(p-(cg b q).1,[],(cg b q).2.1,0))else
 if k=7 then(if b.length-q<20 then(0,[],0,6)else(0,bC ((b.drop q).take 20),q+20,0))else(0,[],0,10)
def j7 (b:Bs) (p:Nat) (k size:Nat) (M:Nat×Bs×Nat×Nat):En×Nat:=
 if M.2.2.2≠0 then(dR,M.2.2.2)else if 65000<size then(dR,2)else
 if(eG (b.drop M.2.2.1) size).2.2=2\/((eG (b.drop M.2.2.1) size).2.2=0/\(eG (b.drop M.2.2.1) size).1.length<size)then(dR,3)else
 if(eG (b.drop M.2.2.1) size).2.2≠0 then(dR,(eG (b.drop M.2.2.1) size).2.2)else
 (⟨p,M.2.2.1+(eG (b.drop M.2.2.1) size).2.1,k,(eG (b.drop M.2.2.1) size).1,M.1,M.2.1,mV ((b.drop p).take (M.2.2.1+(eG (b.drop M.2.2.1) size).2.1-p))⟩,0)
def pf (b:Bs) (p:Nat):En×Nat:=
 if(cd b p).2.2.2≠0 then(dR,(cd b p).2.2.2)else j7 b p (cd b p).1 (cd b p).2.1 (fX b p (cd b p).1 (cd b p).2.2.1)
def readP (s:Bs) (a:Int):En×Nat:=if a<12\/(s.length:Int)-20<a then(dR,1)else pf (s.take (s.length-20)) a.toNat
theorem CO (b:Bs):∀(m p size sh:Nat),(headR b m p size sh).2.2=0->(headR b m p size sh).2.1<=b.length/\p<(headR b m p size sh).2.1
 | 0,p,size,sh=>by
  unfold headR
  split<;>intro h<;>cases h
 | m+1,p,size,sh=>by
  unfold headR;split
  ·intro h;cases h
  ·split
   ·intro _;simp only;omega
   ·intro h;have:=CO b m _ _ _ h;omega
theorem CP (b:Bs):∀(m p size sh:Nat),size<2^sh->(headR b m p size sh).1<2^(sh+7*m)
 | 0,p,size,sh=>by
  intro _;unfold headR
  split<;>exact afm (by decide)
 | m+1,p,size,sh=>by
  intro hs
  have h2:∀x,size+x%128*2^sh<2^(sh+7):=by
   intro x;have h1:x%128<=127:=acN;have h2:x%128*2^sh<=127*2^sh:=ade _ h1;rw[aeO];omega
  unfold headR;split;exact afm (by decide)
  ·split
   ·refine ac3 (h2 _) (acV (by decide) acN)
   ·have:=CP b m (p+1) _ (sh+7) (h2 (b.getD p 0).toNat);rw[show sh+7+7*m=sh+7*(m+1)by omega]at this;exact this
theorem CN (b:Bs) (p:Nat) (h:(cd b p).2.2.2=0):(cd b p).2.2.1<=b.length/\p<(cd b p).2.2.1/\(cd b p).1<8/\(cd b p).2.1<4294967296:=by
 unfold cd at h |-;split at h
 ·cases h
 ·rename_i h0;rw[if_neg h0];have hu:=(b.getD p 0).toNat_lt;split at h
  ·rename_i h1;rw[if_pos h1];simp only;omega
  ·rename_i h1;rw[if_neg h1];split at h
   ·rename_i h2;exact(h2 h).elim
   ·rename_i h2;rw[if_neg h2];have h3:=CO b 4 (p+1) ((b.getD p 0).toNat%16) 4 (by simpa using h2);have h4:=CP b 4 (p+1) ((b.getD p 0).toNat%16) 4 acN;simp only;have h5:2^(4+7*4)=4294967296:=by decide
    omega
theorem r8 (b:Bs):∀(k p n:Nat),(jq b k p n).2.2=0->(jq b k p n).2.1<=b.length/\p<(jq b k p n).2.1
 | 0,p,n=>by intro h;cases h
 | k+1,p,n=>by
  rw[oq];split
  ·intro h;cases h
  ·split
   ·intro _;simp only;omega
   ·split
    ·intro h;cases h
    ·intro h;have:=r8 b k _ _ h;omega
theorem Aj (b:Bs):∀(k p n:Nat),n<=2147483776->(jq b k p n).1<4294967296
 | 0,p,n,_=>by show 0<_;decide
 | k+1,p,n,hn=>by
  rw[oq];split
  decide
  ·split
   ·simp only;omega
   ·split
    decide
    exact Aj b k _ _ acN
theorem An (b:Bs) (q:Nat) (h:(cg b q).2.2=0):(cg b q).1<4294967296:=Aj b _ _ _ (by decide)
theorem DR (b:Bs) (p k q:Nat) (hq:q<=b.length) (h:(fX b p k q).2.2.2=0):(fX b p k q).2.2.1<=b.length/\q<=(fX b p k q).2.2.1:=by
 unfold fX at h |-;split at h
 ·rename_i h1;rw[if_pos h1];exact⟨hq,acT _⟩
 ·rename_i h1;rw[if_neg h1];split at h
  ·rename_i h2;rw[if_pos h2];split at h
   ·rename_i h3;exact(h3 h).elim
   ·rename_i h3;rw[if_neg h3];have:=r8 b _ _ _ (by simpa[cg]using h3);split at h
    ·cases h
    ·rename_i h4;rw[if_neg h4];simp only[cg];omega
  ·rename_i h2;rw[if_neg h2];split at h
   ·rename_i h3;rw[if_pos h3];split at h
    ·cases h
    ·rename_i h4;rw[if_neg h4];simp only;omega
   ·cases h
theorem lM {st:St} {R:HP->AV->List AV->Prop} {t:TypeId} {n:Int} {e:Nat} (cs0:List AV) (x1:AV) (hn:n=(e:Nat)) (has:hV st 2 2=[.aa 143004 0,.aa 143005 0]) (hsub:dE st.h [(143004,.var cs0),(143005,.var [x1])])
    (h:(KQ.post [.cell 4 true 7,.cell 5 false 1] 2 R).ap .ret (l3 st 2 2 [(143004,.var cs0),(143005,.var [x1])] [(143005,.var [.int .i64 (e:Nat)]),(143004,.var cR)])) (hc0:cs0.length=7:=by rfl) (ht:t=189:=by rfl) :
    (KQ.gC Tryz.prog [.cell 4 true 7,.cell 5 false 1] 2 2 135 R).ap (.panic (bS (.iface t (.int .i64 n)))) st:=by
 subst hn ht;exact wZ [(143004,.var cs0),(143005,.var [x1])] [(143005,.var [.int .i64 (e:Nat)]),(143004,.var cR)] has (Vv e 143004 143005 cs0 x1 (by decide) hc0) rfl hsub h
set_option maxHeartbeats 1000000 in
theorem ER (s:Bs) (a:Int) (hs:s.length<=1000000) (ha:-9223372036854775808<=a/\a<=9223372036854775807):ao Tryz.prog 85 [.str s,.int .i64 a] (.af [.agg (gw (readP s a).1),.int .i64 ((readP s a).2:Nat)]):=by
 refine Cod.VX Vu (λE R N hN hN2 hR=>?_);unfold readP at hR;by_cases ia:a<12
 ·rw[if_pos (.inl ia)]at hR;refine wW ?_;refine gG ?_;exact hR.ro ⟨rfl,rfl⟩
 ·by_cases hbig:(s.length:Int)-20<a
  ·rw[if_pos (.inr hbig)]at hR;refine wW ?_;refine gG ?_;exact hR.ro ⟨rfl,rfl⟩
  ·rw[if_neg acN]at hR;obtain⟨p,rfl⟩:∃p:Nat,a=(p:Int):=⟨a.toNat,acN⟩;rw[afq]at hR;refine wW ?_;refine gG ?_;have et:((s.length:Int)-20).toNat=s.length-20:=acN;refine wi (λE' hN'=>?_) hN2;have hbl:(s.take (s.length-20)).length=s.length-20:=by rw[acS];omega
   generalize hbb:s.take (s.length-20)=b at *
   refine aE et hbb ?_;unfold pf at hR;by_cases hhe:(cd b p).2.2.2=0
   ·rw[if_neg (by simpa using hhe)]at hR;have hle:=CN b p hhe;have hk:=Vz b p acN acN hhe;generalize cd b p=H at *
    obtain⟨k,size,q,he⟩:=H;simp only at hle hk hR;refine iU ?_;refine aI (b7 b p) hk dP nofun ?_;rintro h' v ar ⟨rfl,rfl,rfl⟩;refine⟨dP,rfl,?_⟩;have hml:=DR b p k q hle.1;have hmd:fX b p k q=fX b p k q:=rfl;generalize hM:fX b p k q=M at hR hml;refine mJ ?_
    refine cf (y:=Cod.VS) hN' (λ_:Unit=>⟨[(1,.int .i64 p),(4,.aa 143004 0),(5,.aa 143005 0),(6,.str b),(7,.aa 143032 0),(9,.int .i64 size),(2000002,.aa 143004 0),(2000003,.aa 143005 0)],
     [(143004,.var [.int .i64 p,.int .i64 0,.int .i64 k,.str [],.int .i64 M.1,.str M.2.1,.int .u32 0]),(143032,.var [.str b,.int .i64 M.2.2.1]),(143005,.var [.int .i64 0])]⟩) (λ_=>M.2.2.2=0) (λR2 hR2=>?_) (λ_ hM0=>?_)
    ·-- between the head and the frame
     have hdz:∀e:Nat,e≠0->M.2.2.2=e->(j7 b p k size M)=(dR,e):=by
      intro e he0 he;unfold j7;rw[if_pos (by rw[he];exact he0),he]
     have ksm:k<8:=hle.2.2.1;refine wW ?_
     refine cf (y:=.cond (.t 44) .skip Cod.VU) hN' (λ_:Unit=>⟨[(1,.int .i64 p),(4,.aa 143004 0),(5,.aa 143005 0),(6,.str b),(7,.aa 143032 0),(9,.int .i64 size),(42,.int .i64 k),(44,.bool (decide (1<=k/\k<=4))),(2000002,.aa 143004 0),(2000003,.aa 143005 0)],
      [(143004,.var [.int .i64 p,.int .i64 0,.int .i64 k,.str [],.int .i64 0,.str [],.int .u32 0]),(143032,.var [.str b,.int .i64 q]),(143005,.var [.int .i64 0])]⟩) (λ_=>True) (λR3 hR3=>?_) (λ_ _=>?_)
     ·by_cases k1:k=1
      ·subst k1;refine wW ?_;exact hR3 () _ trivial (.le vV)
      ·by_cases k2:k=2
       ·subst k2;refine wW ?_;exact hR3 () _ trivial (.le vV)
       ·by_cases k3:k=3
        ·subst k3;refine wW ?_;exact hR3 () _ trivial (.le vV)
        ·by_cases k4:k=4
         ·subst k4;refine wW ?_;exact hR3 () _ trivial (.le vV)
         ·have i1:¬(k:Int)=1:=acN;have i2:¬(k:Int)=2:=acN;have i3:¬(k:Int)=3:=acN;have i4:¬(k:Int)=4:=acN;rw[decide_eq_false acN]at hR3;refine bV i1 i2 i3 i4 ?_;exact hR3 () _ trivial (.le vV)
     ·unfold fX at hM;by_cases kk:1<=k/\k<=4
      ·rw[if_pos kk]at hM;subst hM;rw[decide_eq_true kk];refine wW ?_;exact hR2 () _ rfl (.le vV)
      ·rw[if_neg kk]at hM;rw[decide_eq_false kk];by_cases k6:k=6
       ·rw[if_pos k6]at hM;subst k6;by_cases hbe:(cg b q).2.2=0
        ·rw[if_neg (by simpa using hbe)]at hM;have hbk:=Vn b q acN acN hbe;have hbl:=r8 b _ _ _ hbe;change (cg b q).2.1<=b.length/\q<(cg b q).2.1 at hbl;have hbs:=An b q hbe;generalize cg b q=B at *
         refine wW ?_;refine iU ?_;refine aI (b7 b q) hbk dP nofun ?_;rintro h' v ar ⟨rfl,rfl,rfl⟩;refine⟨dP,rfl,?_⟩;by_cases hb1:B.1<1\/p-12<B.1
         ·rw[if_pos hb1]at hM;rw[hdz 3 (by decide) (by rw[<-hM])]at hR;by_cases hb2:B.1<1
          ·have i1:(B.1:Int)<1:=acN;refine pD i1 ?_;refine Om i1 ?_;refine lM (t:=189) [.int .i64 p,.int .i64 0,.int .i64 6,.str [],.int .i64 0,.str [],.int .u32 0] (.int .i64 0) rfl ?_ ?_ ?_
           all_goals simp(disch:=omega)only[go_sem,simprocAttr,cR]
           exact hR.ro ⟨rfl,rfl⟩
          ·have i1:¬(B.1:Int)<1:=acN;have i2:(p:Int)-12<(B.1:Int):=acN;refine G0 i1 i2 ?_;refine Cx i1 i2 ?_;refine lM (t:=189) [.int .i64 p,.int .i64 0,.int .i64 6,.str [],.int .i64 0,.str [],.int .u32 0] (.int .i64 0) rfl ?_ ?_ ?_
           all_goals simp(disch:=omega)only[go_sem,simprocAttr,cR]
           exact hR.ro ⟨rfl,rfl⟩
         ·rw[if_neg hb1]at hM;subst hM;have i1:¬(B.1:Int)<1:=acN;have i2:¬(p:Int)-12<(B.1:Int):=acN;have i3:(p:Int)-(B.1:Int)=((p-B.1:Nat):Int):=acN;refine G0 i1 i2 ?_;refine Cx i1 i2 ?_;exact hR2 () _ rfl (.le (by rw[<-i3];exact vV))
        ·rw[if_pos hbe]at hM;have hd:=Vl b q acN acN hbe;rw[hdz _ hbe (by rw[<-hM])]at hR;generalize cg b q=B at *
         refine wW ?_;refine j5 (b7 b q) hd dP ?_;refine lM (t:=189) [.int .i64 p,.int .i64 0,.int .i64 6,.str [],.int .i64 0,.str [],.int .u32 0] (.int .i64 0) rfl ?_ ?_ ?_
         all_goals simp(disch:=omega)only[go_sem,simprocAttr,og,b7,cR]
         exact hR.ro ⟨rfl,rfl⟩
       ·rw[if_neg k6]at hM;have i6:¬(k:Int)=6:=acN;by_cases k7:k=7
        ·rw[if_pos k7]at hM;subst k7;by_cases h20:b.length-q<20
         ·rw[if_pos h20]at hM;rw[hdz 6 (by decide) (by rw[<-hM])]at hR;have i1:(b.length:Int)-(q:Int)<20:=acN;refine ab i1 ?_;refine lM (t:=189) [.int .i64 p,.int .i64 0,.int .i64 7,.str [],.int .i64 0,.str [],.int .u32 0] (.int .i64 0) rfl ?_ ?_ ?_
          all_goals simp(disch:=omega)only[go_sem,simprocAttr,cR]
          exact hR.ro ⟨rfl,rfl⟩
         ·rw[if_neg h20]at hM;subst hM;have i1:¬(b.length:Int)-(q:Int)<20:=acN;have e20:q+20-q=20:=acN;have ei:((q:Int)+20).toNat-q=20:=acN;have hhx:=qs ((b.drop q).take 20) (by rw[acS];omega);refine bp i1 e20 ei ?_;refine ah hhx rfl rfl ?_;refine wW ?_;exact hR2 () _ rfl (.le vV)
        ·rw[if_neg k7]at hM;rw[hdz 10 (by decide) (by rw[<-hM])]at hR;have i7:¬(k:Int)=7:=acN;refine aE i6 i7 ?_;refine lM (t:=189) [.int .i64 p,.int .i64 0,.int .i64 k,.str [],.int .i64 0,.str [],.int .u32 0] (.int .i64 0) rfl ?_ ?_ ?_
         all_goals simp(disch:=omega)only[go_sem,simprocAttr,cR]
         exact hR.ro ⟨rfl,rfl⟩
    ·unfold j7 at hR;rw[if_neg (by simpa using hM0)]at hR;have hml:=hml hM0;by_cases aA:65000<size
     ·rw[if_pos aA]at hR;refine wW ?_;refine lM (t:=189) [.int .i64 p,.int .i64 0,.int .i64 k,.str [],.int .i64 M.1,.str M.2.1,.int .u32 0] (.int .i64 0) rfl ?_ ?_ ?_
      all_goals simp(disch:=omega)only[go_sem,simprocAttr,cR]
      exact hR.ro ⟨rfl,rfl⟩
     ·rw[if_neg aA]at hR;have hz:=Hc b M.2.2.1 size acN acN acN;have hzl:=pF (b.drop M.2.2.1) size;rw[acU]at hzl;generalize eG (b.drop M.2.2.1) size=Z at *
      refine wW ?_;refine ah hz rfl rfl ?_;refine wW ?_
      refine cf (y:=Cod.VT) hN' (λ_:Unit=>⟨[(1,.int .i64 p),(4,.aa 143004 0),(5,.aa 143005 0),(6,.str b),(7,.aa 143032 0),(11,.str Z.1),(12,.int .i64 Z.2.1),(2000002,.aa 143004 0),(2000003,.aa 143005 0)],
       [(143005,.var [.int .i64 (if Z.2.2=2\/(Z.2.2=0/\Z.1.length<size)then 3 else Z.2.2:Nat)]),(143004,.var [.int .i64 p,.int .i64 0,.int .i64 k,.str [],.int .i64 M.1,.str M.2.1,.int .u32 0]),(143032,.var [.str b,.int .i64 M.2.2.1])]⟩) (λ_=>True) (λR3 hR3=>?_) (λ_ _=>?_)
      ·by_cases z2:Z.2.2=2
       ·rw[if_pos (.inl z2)]at hR3;have i1:(Z.2.2:Int)=2:=acN;refine ab i1 ?_;refine aV i1 ?_;exact hR3 () _ trivial (.le vV)
       ·have i1:¬(Z.2.2:Int)=2:=acN;by_cases z0:Z.2.2=0
        ·have i2:(Z.2.2:Int)=0:=acN;by_cases zl:Z.1.length<size
         ·rw[if_pos (.inr ⟨z0,zl⟩)]at hR3;refine aE i1 i2 ?_;refine cO i1 i2 ?_;exact hR3 () _ trivial (.le vV)
         ·rw[if_neg acN,z0]at hR3;refine aE i1 i2 ?_;refine cO i1 i2 ?_;exact hR3 () _ trivial (.le vV)
        ·have i2:¬(Z.2.2:Int)=0:=acN;rw[if_neg acN]at hR3;refine aE i1 i2 ?_;refine cO i1 i2 ?_;exact hR3 () _ trivial (.le vV)
      ·by_cases zz:Z.2.2=2\/(Z.2.2=0/\Z.1.length<size)
       ·rw[if_pos zz]at hR |-;refine wW ?_;refine lM (t:=189) [.int .i64 p,.int .i64 0,.int .i64 k,.str [],.int .i64 M.1,.str M.2.1,.int .u32 0] (.int .i64 3) rfl ?_ ?_ ?_
        all_goals simp(disch:=omega)only[go_sem,simprocAttr,cR]
        exact hR.ro ⟨rfl,rfl⟩
       ·rw[if_neg zz]at hR |-;by_cases z0:Z.2.2=0
        ·rw[if_neg (by simpa using z0)]at hR;have hcr:=K9 ((b.drop p).take (M.2.2.1+Z.2.1-p)) (by rw[acS,acU];omega);have et2:((M.2.2.1:Int)+(Z.2.1:Int)).toNat-p=M.2.2.1+Z.2.1-p:=acN;rw[z0];refine ab et2 ?_;refine ah hcr rfl rfl ?_;refine wW ?_;exact hR.ro ⟨rfl,rfl⟩
        ·rw[if_pos z0]at hR;have i2:¬(Z.2.2:Int)=0:=acN;refine ab i2 ?_;refine lM (t:=189) [.int .i64 p,.int .i64 0,.int .i64 k,.str [],.int .i64 M.1,.str M.2.1,.int .u32 0] (.int .i64 (Z.2.2:Nat)) rfl ?_ ?_ ?_
         all_goals simp(disch:=omega)only[go_sem,simprocAttr,cR]
         exact hR.ro ⟨rfl,rfl⟩
   ·rw[if_pos hhe]at hR;have hd:=Vx b p acN acN hhe;generalize cd b p=H at *
    refine j5 (b7 b p) hd dP ?_;refine lM (t:=189) [.int .i64 p,.int .i64 0,.int .i64 0,.str [],.int .i64 0,.str [],.int .u32 0] (.int .i64 0) rfl ?_ ?_ ?_
    all_goals simp(disch:=omega)only[go_sem,simprocAttr,og,b7,cR]
    exact hR.ro ⟨rfl,rfl⟩
set_option maxHeartbeats 1000000 in
theorem FJ (s:Bs) (a:Int) (hs:s.length<=1000000) (ha:-9223372036854775808<=a/\a<=9223372036854775807):ao Tryz.prog 101 [.str s,.int .i64 a] (.af [.agg (gw (readP s a).1),.int .i64 ((readP s a).2:Nat)]):=by
 refine Cod.YL (λE R hN hR=>?_);unfold readP at hR;by_cases ia:a<12
 ·rw[if_pos (.inl ia)]at hR;refine wW ?_;refine gG ?_;exact hR.ro ⟨rfl,rfl⟩
 ·by_cases hbig:(s.length:Int)-20<a
  ·rw[if_pos (.inr hbig)]at hR;refine wW ?_;refine gG ?_;exact hR.ro ⟨rfl,rfl⟩
  ·rw[if_neg acN]at hR;obtain⟨p,rfl⟩:∃p:Nat,a=(p:Int):=⟨a.toNat,acN⟩;rw[afq]at hR;have et:((s.length:Int)-20).toNat=s.length-20:=acN;have hbl:(s.take (s.length-20)).length=s.length-20:=by rw[acS];omega
   generalize hbb:s.take (s.length-20)=b at *
   refine wW ?_;refine gG ?_;refine aE et hbb ?_;unfold pf at hR;have hk:=Yj b p acN acN;have hle:=CN b p;generalize cd b p=H at *
   refine ah hk rfl rfl ?_;by_cases hhe:H.2.2.2=0
   ·rw[if_neg (by simpa using hhe)]at hR
    replace hle:=hle hhe
    obtain⟨k,size,q,he⟩:=H;simp only at hle hhe hR;subst hhe;have hml:=DR b p k q hle.1;generalize hM:fX b p k q=M at hR hml;refine wW ?_
    refine cf (y:=Cod.YK) hN (λ_:Unit=>⟨[(1,.int .i64 p),(4,.aa 150004 0),(6,.str b),(8,.int .i64 size),(9,.int .i64 M.2.2.1),(11,.aa 150011 0)],
     [(150004,.var cR),(150011,.var [.int .i64 p,.int .i64 0,.int .i64 k,.str [],.int .i64 M.1,.str M.2.1,.int .u32 0])]⟩) (λ_=>M.2.2.2=0) (λR2 hR2=>?_) (λ_ hM0=>?_)
    ·have hdz:∀e:Nat,e≠0->M.2.2.2=e->(j7 b p k size M)=(dR,e):=by
      intro e he0 he;unfold j7;rw[if_pos (by rw[he];exact he0),he]
     have ksm:k<8:=hle.2.2.1;refine wW ?_
     refine cf (y:=.cond (.t 50) .skip Cod.YJ) hN (λ_:Unit=>⟨[(1,.int .i64 p),(4,.aa 150004 0),(6,.str b),(8,.int .i64 size),(9,.int .i64 q),(11,.aa 150011 0),(48,.int .i64 k),(50,.bool (decide (1<=k/\k<=4)))],
      [(150004,.var cR),(150011,.var [.int .i64 p,.int .i64 0,.int .i64 k,.str [],.int .i64 0,.str [],.int .u32 0])]⟩) (λ_=>True) (λR3 hR3=>?_) (λ_ _=>?_)
     ·by_cases k1:k=1
      ·subst k1;refine wW ?_;exact hR3 () _ trivial (.le nS)
      ·by_cases k2:k=2
       ·subst k2;refine wW ?_;exact hR3 () _ trivial (.le nS)
       ·by_cases k3:k=3
        ·subst k3;refine wW ?_;exact hR3 () _ trivial (.le nS)
        ·by_cases k4:k=4
         ·subst k4;refine wW ?_;exact hR3 () _ trivial (.le nS)
         ·have i1:¬(k:Int)=1:=acN;have i2:¬(k:Int)=2:=acN;have i3:¬(k:Int)=3:=acN;have i4:¬(k:Int)=4:=acN;rw[decide_eq_false acN]at hR3;refine bV i1 i2 i3 i4 ?_;exact hR3 () _ trivial (.le nS)
     ·unfold fX at hM;by_cases kk:1<=k/\k<=4
      ·rw[if_pos kk]at hM;subst hM;rw[decide_eq_true kk];refine wW ?_;exact hR2 () _ rfl (.le vV)
      ·rw[if_neg kk]at hM;rw[decide_eq_false kk];by_cases k6:k=6
       ·rw[if_pos k6]at hM;subst k6;have hbk:=XB b q acN acN;have hbl:(cg b q).2.2=0->(cg b q).2.1<=b.length/\q<(cg b q).2.1:=r8 b _ _ _;have hbs:=An b q;generalize cg b q=B at *
        refine wW ?_;refine ah hbk rfl rfl ?_;by_cases hbe:B.2.2=0
        ·rw[if_neg (by simpa using hbe)]at hM;have hbl:=hbl hbe;have hbs:=hbs hbe;by_cases hb1:B.1<1\/p-12<B.1
         ·rw[if_pos hb1]at hM;rw[hdz 3 (by decide) (by rw[<-hM])]at hR;by_cases hb2:B.1<1
          ·have i1:(B.1:Int)<1:=acN;refine u7 hbe i1 ?_;refine w6 hbe i1 ?_;exact hR.ro ⟨rfl,rfl⟩
          ·have i1:¬(B.1:Int)<1:=acN;have i2:(p:Int)-12<(B.1:Int):=acN;refine G3 hbe i1 i2 ?_;refine Cy hbe i1 i2 ?_;exact hR.ro ⟨rfl,rfl⟩
         ·rw[if_neg hb1]at hM;subst hM;have i1:¬(B.1:Int)<1:=acN;have i2:¬(p:Int)-12<(B.1:Int):=acN;have i3:(p:Int)-(B.1:Int)=((p-B.1:Nat):Int):=acN;refine bp hbe i1 i2 ?_;refine gy hbe i1 i2 ?_;exact hR2 () _ rfl (.le (by rw[<-i3];exact nS))
        ·rw[if_pos hbe]at hM;rw[hdz _ hbe (by rw[<-hM])]at hR;have i1:¬(B.2.2:Int)=0:=acN;refine u6 i1 ?_;exact hR.ro ⟨rfl,rfl⟩
       ·rw[if_neg k6]at hM;have i6:¬(k:Int)=6:=acN;by_cases k7:k=7
        ·rw[if_pos k7]at hM;subst k7;by_cases h20:b.length-q<20
         ·rw[if_pos h20]at hM;rw[hdz 6 (by decide) (by rw[<-hM])]at hR;have i1:(b.length:Int)-(q:Int)<20:=acN;refine u6 i1 ?_;exact hR.ro ⟨rfl,rfl⟩
         ·rw[if_neg h20]at hM;subst hM;have i1:¬(b.length:Int)-(q:Int)<20:=acN;have ei:((q:Int)+20).toNat-q=20:=acN;have e20:q+20-q=20:=acN;have hhx:=qS ((b.drop q).take 20) (by rw[acS];omega);refine bp i1 ei e20 ?_;refine ah hhx rfl rfl ?_;refine wW ?_;exact hR2 () _ rfl (.le nS)
        ·rw[if_neg k7]at hM;rw[hdz 10 (by decide) (by rw[<-hM])]at hR;have i7:¬(k:Int)=7:=acN;refine u7 i6 i7 ?_;exact hR.ro ⟨rfl,rfl⟩
    ·unfold j7 at hR;rw[if_neg (by simpa using hM0)]at hR;have hml:=hml hM0;by_cases aA:65000<size
     ·rw[if_pos aA]at hR;refine wWZ ?_;exact hR.ro ⟨rfl,rfl⟩
     ·rw[if_neg aA]at hR;have hz:=Fg b M.2.2.1 size acN acN acN;have hzl:=pF (b.drop M.2.2.1) size;rw[acU]at hzl;generalize eG (b.drop M.2.2.1) size=Z at *
      refine wW ?_;refine ah hz rfl rfl ?_;by_cases z2:Z.2.2=2
      ·rw[if_pos (.inl z2)]at hR;have i1:(Z.2.2:Int)=2:=acN;refine u6 i1 ?_;refine Oo i1 ?_;exact hR.ro ⟨rfl,rfl⟩
      ·have i1:¬(Z.2.2:Int)=2:=acN;by_cases z0:Z.2.2=0
       ·have i2:(Z.2.2:Int)=0:=acN;by_cases zl:Z.1.length<size
        ·rw[if_pos (.inr ⟨z0,zl⟩)]at hR;refine u7 i1 i2 ?_;refine w6 i1 i2 ?_;exact hR.ro ⟨rfl,rfl⟩
        ·rw[if_neg acN,if_neg (by simpa using z0)]at hR;have hcr:=XJ ((b.drop p).take (M.2.2.1+Z.2.1-p)) (by rw[acS,acU];omega);have et2:((M.2.2.1:Int)+(Z.2.1:Int)).toNat-p=M.2.2.1+Z.2.1-p:=acN;refine G3 i1 i2 et2 ?_;refine Cy i1 i2 et2 ?_;refine ah hcr rfl rfl ?_;refine wW ?_;exact hR.ro ⟨rfl,rfl⟩
       ·have i2:¬(Z.2.2:Int)=0:=acN;rw[if_neg acN,if_pos z0]at hR;refine u7 i1 i2 ?_;refine w6 i1 i2 ?_;exact hR.ro ⟨rfl,rfl⟩
   ·rw[if_pos hhe]at hR;have i1:¬(H.2.2.2:Int)=0:=acN;refine u6 i1 ?_;exact hR.ro ⟨rfl,rfl⟩
def nF:Bs:=[80,65,67,75,0,0,0,2]
def countP (s:Bs):Nat×Nat:=
 if s.length<32 then(0,6)else if s.take 8≠nF then(0,3)else if 1000<cU ((s.drop 8).take 4)then(0,2)else
 if cY (s.take (s.length-20))≠s.drop (s.length-20)then(0,5)else(cU ((s.drop 8).take 4),0)
theorem wU (s:Bs) (o:Nat) (h:o+4<=s.length):cU ((s.drop o).take 4)<4294967296:=by
 have hl:((s.drop o).take 4).length=4:=by rw[acS,acU];omega
 have:=sb ((s.drop o).take 4) 4 acN;rw[acP acN]at this;exact this
theorem CQ (s:Bs) (h:32<=s.length):s.take 8=nF↔(s.take 4=[80,65,67,75]/\cU ((s.drop 4).take 4)=2):=by
 have hl:((s.drop 4).take 4).length=4:=by rw[acS,acU];omega
 rw[Au _ hl 2 (by decide),show(8:Nat)=4+4 from rfl,List.take_add,show nF=[80,65,67,75]++(ig 2 4).reverse from by decide];constructor
 ·intro h;have h1:=List.append_inj h (by rw[acS];simp;omega);exact h1
 ·rintro⟨h1,h2⟩;rw[h1,h2]
set_option maxHeartbeats 1000000 in
theorem acL (s:Bs) (hs:s.length<=100000):ao Tryz.prog 35 [.str s] (.af [.int .i64 ((countP s).1:Nat),.int .i64 ((countP s).2:Nat)]):=by
 refine Cod.Vr (λE R hN hR=>?_);unfold countP at hR;by_cases h32:s.length<32
 ·rw[if_pos h32]at hR;refine wW ?_;exact hR.ro ⟨rfl,rfl⟩
 ·rw[if_neg h32]at hR;have hh:=CQ s acN;have hb4:=wX ((s.drop 4).take 4) (by rw[acS];omega);have hb8:=wX ((s.drop 8).take 4) (by rw[acS];omega);have hl4:=wU s 4 acN;have hl8:=wU s 8 acN;have hsum:=uR (s.take (s.length-20)) (by rw[acS];omega);have et:((s.length:Int)-20).toNat=s.length-20:=acN;generalize cU ((s.drop 4).take 4)=x4 at *
  generalize cU ((s.drop 8).take 4)=x8 at *
  by_cases h3:s.take 8=nF
  ·rw[if_neg (by simpa using h3)]at hR;obtain⟨h1,h2⟩:=hh.1 h3;rw[h2]at hb4;refine ab h1 ?_;refine aV h1 ?_;refine eI (gq vV hb4 vV rfl rfl ?_);refine wW ?_;refine gG ?_;refine ah hb8 rfl rfl ?_;by_cases h1000:1000<x8
   ·rw[if_pos h1000]at hR;refine wW ?_;exact hR.ro ⟨rfl,rfl⟩
   ·rw[if_neg h1000]at hR;refine ab et ?_;refine ah hsum rfl rfl ?_;by_cases hsha:cY (s.take (s.length-20))=s.drop (s.length-20)
    ·rw[if_neg (by simpa using hsha)]at hR;refine aE et hsha ?_;exact hR.ro ⟨rfl,rfl⟩
    ·rw[if_pos hsha]at hR;refine aE et hsha ?_;exact hR.ro ⟨rfl,rfl⟩
  ·rw[if_pos h3]at hR;by_cases h1:s.take 4=[80,65,67,75]
   ·have h2:¬x4=2:=λh2=>h3 (hh.2 ⟨h1,h2⟩);have i2:¬((x4:Nat):Int)=2:=acN;refine ab h1 ?_;refine aV h1 ?_;refine eI (gq vV hb4 vV rfl rfl ?_);refine ab i2 ?_;refine aV i2 ?_;exact hR.ro ⟨rfl,rfl⟩
   ·refine ab h1 ?_;refine aV h1 ?_;exact hR.ro ⟨rfl,rfl⟩
set_option maxHeartbeats 1000000 in
theorem XH (s:Bs) (hs:s.length<=100000):ao Tryz.prog 55 [.str s] (.af [.int .i64 ((countP s).1:Nat),.int .i64 ((countP s).2:Nat)]):=by
 refine Cod.XI (λE R hN hR=>?_);unfold countP at hR;by_cases h32:s.length<32
 ·rw[if_pos h32]at hR;refine wW ?_;exact hR.ro ⟨rfl,rfl⟩
 ·rw[if_neg h32]at hR;have hb8:=Yz ((s.drop 8).take 4) (by rw[acS];omega);have hl8:=wU s 8 acN;have hsum:=yQ (s.take (s.length-20)) (by rw[acS];omega);have et:((s.length:Int)-20).toNat=s.length-20:=acN;generalize cU ((s.drop 8).take 4)=x8 at *
  unfold nF at hR;by_cases h3:s.take 8=[80,65,67,75,0,0,0,2]
  ·rw[if_neg (by simpa using h3)]at hR;refine ab h3 ?_;refine ah hb8 rfl rfl ?_;by_cases h1000:1000<x8
   ·rw[if_pos h1000]at hR;refine wW ?_;exact hR.ro ⟨rfl,rfl⟩
   ·rw[if_neg h1000]at hR;refine ab et ?_;refine ah hsum rfl rfl ?_;by_cases hsha:cY (s.take (s.length-20))=s.drop (s.length-20)
    ·rw[if_neg (by simpa using hsha)]at hR;refine aE et hsha ?_;exact hR.ro ⟨rfl,rfl⟩
    ·rw[if_pos hsha]at hR;refine aE et hsha ?_;exact hR.ro ⟨rfl,rfl⟩
  ·rw[if_pos h3]at hR;refine ab h3 ?_;exact hR.ro ⟨rfl,rfl⟩
end Go.Proofs.YtoalcafkffmiiaaGreatDoor.Pk
