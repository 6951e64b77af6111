/- The proof, part 40 of 43. -/
import Derived.Test.YtoalcafkffmiiaaGreatDoorOdbGetsP
import Derived.Test.YtoalcafkffmiiaaGreatDoorProg
import Derived.KernelRfl
import Derived.Tactics
set_option linter.all false
namespace Go.Proofs.YtoalcafkffmiiaaGreatDoor.Dl
open Eng Eng.Kz
set_option maxRecDepth 100000
def fh (e:Nat):Value:=.iface 199 (.int .i64 (e:Nat))
theorem rB {vs:Array Value} (h:vs.size=2):∃v0 v1,vs=#[v0,v1]:=by
 obtain⟨l⟩:=vs
 match l,h with
 | [a,b],_=>exact⟨a,b,rfl⟩
theorem Cq {vs:Array Value} (h:vs.size=4):∃v0 v1 v2 v3,vs=#[v0,v1,v2,v3]:=by
 obtain⟨l⟩:=vs
 match l,h with
 | [a,b,c,d],_=>exact⟨a,b,c,d,rfl⟩
theorem FT (x:Value) (t0:TypeId) (w:World):(Instr.typeAssert (.iface 199 x) t0 199 true).run Tryz.prog w=.ok (.tuple #[x,.bool true]) w:=by
 have hu:(underlying 199).run Tryz.prog w=.ok (.int .i64) w:=by rfl
 unfold Instr.typeAssert;simp[go_sem,hu]
theorem B3:cM Tryz.prog 24=some 1:=by kernel_rfl
theorem aaA:cM Tryz.prog 9=some 1:=by kernel_rfl
theorem xq:cM Tryz.prog 3=some 1:=by kernel_rfl
theorem FL {P:Program} {o:Oper} {a:Act} {w w':World} {v:Value} {next:Act->World->Prop} {Q:Exit->Act->World->Prop} (h:(execOp a.eval o).run P w=.ok (.value v) w') (hn:next (a.put o.dst v) w') :
    Oper.uponIn Fence.wide 0 P o a next Q ((o.semAt Fence.wide.round a.eval).run P w):=by
 rw[show Fence.wide.round=none from rfl,Oper.semAt_none,h];exact hn
theorem po {P:Program} {o:Oper} {a:Act} {w w':World} {next:Act->World->Prop} {Q:Exit->Act->World->Prop} (h:(execOp a.eval o).run P w=.ok .skip w') (hn:next (a.put o.dst undef) w') :
    Oper.uponIn Fence.wide 0 P o a next Q ((o.semAt Fence.wide.round a.eval).run P w):=by
 rw[show Fence.wide.round=none from rfl,Oper.semAt_none,h];exact hn
theorem HE:lZ Tryz.prog 141 2:=by
 intro vs w hvs;obtain⟨v0,v1,rfl⟩:=rB hvs;refine callsDIn_of_wpSIn Tryz.func141 rfl trivial λc₀ cs hu=>?_;apply wpSIn_seq;apply wpSIn_region;simp[wpOpsSIn,go_sem,recoverD,hu,Tryz.ntmps141,Exit.thenS];refine wpSIn_of_wpIn rfl ?_;refine wpIn_seq ?_;refine wpIn_region ?_;simp[wpOpsIn,Oper.wpIn,Oper.uponIn,Oper.semAt_none,go_sem,Region.wanted,Exit.then]
 refine wpIn_cond_false (by simp[Act.eval,Array.replicate]) ?_;refine wpIn_skip ?_;simp[bodyPostS,results,Tryz.results141];exact hu.symm▸rfl
theorem HF (e:Nat) (i0 i1:Nat) (x0 x1:AV) (hi:i0≠i1) :
    pJ Tryz.prog 141 [(i0,.var [x0]),(i1,.var [x1])] [.aa i0 0,.aa i1 0] (fh e) [(i1,.var [.int .i64 (e:Nat)]),(i0,.var [.str []])]:=by
 intro X0 ρ w vs hh hA hX hvs hrv;obtain⟨v0,v1,rfl⟩:=rB hvs;have hnt:Tryz.f141.ntmps=11:=Tryz.ntmps141;generalize hh0:([(i0,.var [x0]),(i1,.var [x1])]:HP)=h at *
 let E0:Env:=⟨w,aW ρ h,X0,Tryz.f141.ntmps,0,λk=>#[v0,v1].getD (k-2000000) undef,none,w.heap.size,acT _,[]⟩
 have g0:ai E0 ρ ⟨jh [.aa i0 0,.aa i1 0],h⟩ {tmps:=#[v0,v1]++Array.replicate (Tryz.f141.ntmps-#[v0,v1].size) undef,defers:=[]} w:=rq (B:=0) (by rw[hnt];decide) (by rw[hnt];exact(by decide:2<=11)) hh hA hX hvs hrv [] rfl;have hE:∀d,d<11->d<E0.N:=λd hd=>by show d<Tryz.f141.ntmps;rw[hnt];exact hd
 have g1:=(((((g0.put 5 (hE 5 (by decide)) (v:=fh e) (av:=.undef) (.undef _ _)).put 6 (hE 6 (by decide)) (v:=.tuple #[.int .i64 (e:Nat),.bool true]) (av:=.undef) (.undef _ _)).put 4 (hE 4 (by decide)) (v:=.tuple #[.int .i64 (e:Nat),.bool true]) (av:=.undef) (.undef _ _)).put 7 (hE 7 (by decide)) (v:=.int .i64 (e:Nat)) (av:=.int .i64 (e:Nat)) (.int _ _ _)).put 8 (hE 8 (by decide)) (v:=.bool true) (av:=.bool true) (.bool _ _)).put 2 (hE 2 (by decide)) (v:=.int .i64 (e:Nat)) (av:=.int .i64 (e:Nat)) (.int _ _ _);have g2:=g1.put 3 (hE 3 (by decide)) (v:=.bool true) (av:=.bool true) (.bool _ _);have g3:=g2.put 9 (hE 9 (by decide)) (v:=.bool true) (av:=.bool true) (.bool _ _);have g4:=g3.put 10 (hE 10 (by decide)) (v:=.int .i64 (e:Nat)) (av:=.int .i64 (e:Nat)) (.int _ _ _);have b3:=bn g2 (.tmp 3);have b9:=bn g3 (.tmp 9);have b2:=bn g3 (.tmp 2);clear g0 g1 g2 g3;generalize hac:((((((((({tmps:=#[v0,v1]++Array.replicate (Tryz.f141.ntmps-#[v0,v1].size) undef,defers:=[]}:Act).put (some 5) (fh e)).put (some 6) (.tuple #[.int .i64 (e:Nat),.bool true])).put (some 4) (.tuple #[.int .i64 (e:Nat),.bool true])).put (some 7) (.int .i64 (e:Nat))).put (some 8) (.bool true)).put (some 2) (.int .i64 (e:Nat))).put (some 3) (.bool true)).put (some 9) (.bool true)).put (some 10) (.int .i64 (e:Nat))=ac at g4;have had:ac.defers=[]:=by rw[<-hac];rfl
 have fin:∃w1 w2,(Instr.storeAt 9 (ac.eval (.tmp 0)) (ac.eval (.const (.string ⟨#[]⟩)))).run Tryz.prog w=.ok () w1/\(Instr.storeAt 24 (ac.eval (.tmp 1)) (ac.eval (.tmp 10))).run Tryz.prog w1=.ok () w2 /\
     ∃ρ' st',ai E0 ρ' st' ac w2/\st'.h=[(i1,.var [.int .i64 (e:Nat)]),(i0,.var [.str []])]/\sget st'.s 2000000=some (.aa i0 0)/\sget st'.s 2000001=some (.aa i1 0):=by
  subst hh0;have g4:=g4.weaken (st':=⟨[(0,.aa i0 0),(1,.aa i1 0),(10,.int .i64 (e:Nat)),(2000000,.aa i0 0),(2000001,.aa i1 0)],[(i0,.var [x0]),(i1,.var [x1])]⟩) (by exact⟨rfl,rfl,rfl,rfl,rfl,trivial⟩) (by simp[dE,hget,hi,hi.symm]);have hx0:=bn g4 (.tmp 0);have hx10:=bn g4 (.const (.string ⟨#[]⟩))
  obtain⟨w1,ρ1,st1,r1,g5,K⟩:=lv g4 aaA hx0 hx10 (K:=λ_ st1=>st1=⟨[(0,.aa i0 0),(1,.aa i1 0),(10,.int .i64 (e:Nat)),(2000000,.aa i0 0),(2000001,.aa i1 0)],[(i0,.var [.str []]),(i1,.var [x1])]⟩) (by
   simp[effSt,hget,bD,hdel,hi,hi.symm,cI,aL,cellsOf,isCell,ev,trE,sget,show constAV (.string ⟨#[]⟩)=.str []from rfl])
  subst K;have hx1:=bn g5 (.tmp 1);have hx11:=bn g5 (.tmp 10)
  obtain⟨w2,ρ2,st2,r2,g6,K⟩:=lv g5 B3 hx1 hx11 (K:=λ_ st1=>st1=⟨[(0,.aa i0 0),(1,.aa i1 0),(10,.int .i64 (e:Nat)),(2000000,.aa i0 0),(2000001,.aa i1 0)],[(i1,.var [.int .i64 (e:Nat)]),(i0,.var [.str []])]⟩) (by
   simp[effSt,hget,bD,hdel,hi,hi.symm,cI,aL,cellsOf,isCell,ev,trE,sget])
  subst K;exact⟨w1,w2,r1,r2,ρ2,_,g6,rfl,rfl,rfl⟩
 obtain⟨w1,w2,r1,r2,ρ2,st2,g6,e1,e2,e3⟩:=fin;clear g4;refine callsDIn_of_wpSIn Tryz.func141 rfl trivial λc₀ cs hu=>?_;apply wpSIn_seq;apply wpSIn_region;simp[wpOpsSIn,go_sem,recoverD,hu,bS,fh,Tryz.ntmps141,Exit.thenS,FT];refine wpSIn_of_wpIn rfl ?_;refine wpIn_seq ?_;refine wpIn_region ?_;simp[wpOpsIn,Oper.wpIn,Oper.uponIn,Oper.semAt_none,go_sem,Region.wanted,Exit.then]
 refine wpIn_cond_true (by simp[Act.eval,Array.replicate]) ?_;refine Eq.mpr (congrArg (λa=>Code.wpIn Fence.wide 0 Tryz.prog _ _ a w) (a₂:=(((((((({tmps:=#[v0,v1]++Array.replicate (Tryz.f141.ntmps-#[v0,v1].size) undef,defers:=[]}:Act).put (some 5) (fh e)).put (some 6) (.tuple #[.int .i64 (e:Nat),.bool true])).put (some 4) (.tuple #[.int .i64 (e:Nat),.bool true])).put (some 7) (.int .i64 (e:Nat))).put (some 8) (.bool true)).put (some 2) (.int .i64 (e:Nat))).put (some 3) (.bool true)).put (some 9) (.bool true)) ?_) ?_
 ·simp[Act.put,hnt,fh]
 refine wpIn_region_list (wpListIn_plain rfl (λnext hnext=>⟨λ_ _=>trivial,?_⟩))
 refine FL (v:=.int .i64 (e:Nat)) (w':=w) (by simp[execOp,Act.eval,Act.put,hnt]) (hnext _ _ ?_);refine wpListIn_plain rfl (λnext hnext=>⟨λ_ _=>trivial,?_⟩)
 rw[hac];refine po (w':=w1) (by simp[execOp,r1]) (hnext _ _ ?_);refine wpListIn_plain rfl (λnext hnext=>⟨λ_ _=>trivial,?_⟩)
 refine po (w':=w2) (by simp only[Act.put];simp[execOp,r2]) (hnext _ _ ?_);refine⟨had,_,rfl,.tuple #[],by simp[results,Tryz.results141],⟨_,rfl⟩,rfl,ρ2,?_,?_,g6.an.os,g6.an.tape,g6.an.output,g6.an.size,g6.an.block,?_⟩
 ·have:=g6.heap;rw[e1]at this;exact this
 ·intro j v x h1 h2;have hj:j<2:=(List.getElem?_eq_some_iff.1 h2).1
  have hgv:∀k,2000000<=k->bl E0 ac k=E0.gv k:=λk hk=>by
   unfold bl;rw[if_neg (by show ¬k<Tryz.f141.ntmps;rw[hnt];omega)]
  obtain rfl | rfl:j=0\/j=1:=acN
  ·obtain rfl:v0=v:=by simpa using h1
   obtain rfl:AV.aa i0 0=x:=by simpa using h2
   have hr:=(g6.aX _ _ e2).2;rw[hgv _ (acT _),e1]at hr;exact hr
  ·obtain rfl:v1=v:=by simpa using h1
   obtain rfl:AV.aa i1 0=x:=by simpa using h2
   have hr:=(g6.aX _ _ e3).2;rw[hgv _ (Nat.le_succ _),e1]at hr;exact hr
 ·rintro b ⟨id,W,L,h1,h2,h3⟩;rw[<-e1]at h1;exact g6.base id W L b h1 h2 h3
theorem Zw:lZ Tryz.prog 191 4:=by
 intro vs w hvs;obtain⟨v0,v1,v2,v3,rfl⟩:=Cq hvs;refine callsDIn_of_wpSIn Tryz.func191 rfl trivial λc₀ cs hu=>?_;apply wpSIn_seq;apply wpSIn_region;simp[wpOpsSIn,go_sem,recoverD,hu,Tryz.ntmps191,Exit.thenS];refine wpSIn_of_wpIn rfl ?_;refine wpIn_seq ?_;refine wpIn_region ?_;simp[wpOpsIn,Oper.wpIn,Oper.uponIn,Oper.semAt_none,go_sem,Region.wanted,Exit.then]
 refine wpIn_cond_false (by simp[Act.eval,Array.replicate]) ?_;refine wpIn_skip ?_;simp[bodyPostS,results,Tryz.results191];exact hu.symm▸rfl
structure Hd (i0 i1 i2 i3:Nat):Prop where
 kL:i0≠i1
 kM:i0≠i2
 kN:i0≠i3
 ia:i1≠i2
 kO:i1≠i3
 kP:i2≠i3
set_option maxHeartbeats 2000000 in
theorem Zx (e:Nat) (i0 i1 i2 i3:Nat) (x0 x1 x2 x3:AV) (hi:Hd i0 i1 i2 i3) :
    pJ Tryz.prog 191 [(i0,.var [x0]),(i1,.var [x1]),(i2,.var [x2]),(i3,.var [x3])] [.aa i0 0,.aa i1 0,.aa i2 0,.aa i3 0] (fh e) [(i3,.var [.int .i64 (e:Nat)]),(i2,.var [.int .i64 0]),(i1,.var [.int .i64 0]),(i0,.var [.int .i64 0])]:=by
 intro X0 ρ w vs hh hA hX hvs hrv;obtain⟨v0,v1,v2,v3,rfl⟩:=Cq hvs;have hnt:Tryz.f191.ntmps=13:=Tryz.ntmps191;generalize hh0:([(i0,.var [x0]),(i1,.var [x1]),(i2,.var [x2]),(i3,.var [x3])]:HP)=h at *
 let E0:Env:=⟨w,aW ρ h,X0,Tryz.f191.ntmps,0,λk=>#[v0,v1,v2,v3].getD (k-2000000) undef,none,w.heap.size,acT _,[]⟩
 have g0:ai E0 ρ ⟨jh [.aa i0 0,.aa i1 0,.aa i2 0,.aa i3 0],h⟩ {tmps:=#[v0,v1,v2,v3]++Array.replicate (Tryz.f191.ntmps-#[v0,v1,v2,v3].size) undef,defers:=[]} w:=rq (B:=0) (by rw[hnt];decide) (by rw[hnt];exact(by decide:4<=13)) hh hA hX hvs hrv [] rfl;have hE:∀d,d<13->d<E0.N:=λd hd=>by show d<Tryz.f191.ntmps;rw[hnt];exact hd
 have g1:=((((((g0.put 7 (hE 7 (by decide)) (v:=(fh e)) (av:=.undef) (.undef _ _)).put 8 (hE 8 (by decide)) (v:=(.tuple #[.int .i64 (e:Nat),.bool true])) (av:=.undef) (.undef _ _)).put 6 (hE 6 (by decide)) (v:=(.tuple #[.int .i64 (e:Nat),.bool true])) (av:=.undef) (.undef _ _)).put 9 (hE 9 (by decide)) (v:=(.int .i64 (e:Nat))) (av:=(.int .i64 (e:Nat))) (.int _ _ _)).put 10 (hE 10 (by decide)) (v:=(.bool true)) (av:=(.bool true)) (.bool _ _)).put 4 (hE 4 (by decide)) (v:=(.int .i64 (e:Nat))) (av:=(.int .i64 (e:Nat))) (.int _ _ _));have g2:=g1.put 5 (hE 5 (by decide)) (v:=.bool true) (av:=.bool true) (.bool _ _);have g3:=g2.put 11 (hE 11 (by decide)) (v:=.bool true) (av:=.bool true) (.bool _ _);have g4:=g3.put 12 (hE 12 (by decide)) (v:=.int .i64 (e:Nat)) (av:=.int .i64 (e:Nat)) (.int _ _ _);have b3:=bn g2 (.tmp 5);have b9:=bn g3 (.tmp 11);have b2:=bn g3 (.tmp 4);clear g0 g1 g2 g3;generalize hac:(((((((((({tmps:=#[v0,v1,v2,v3]++Array.replicate (Tryz.f191.ntmps-#[v0,v1,v2,v3].size) undef,defers:=[]}:Act).put (some 7) (fh e)).put (some 8) (.tuple #[.int .i64 (e:Nat),.bool true])).put (some 6) (.tuple #[.int .i64 (e:Nat),.bool true])).put (some 9) (.int .i64 (e:Nat))).put (some 10) (.bool true)).put (some 4) (.int .i64 (e:Nat))).put (some 5) (.bool true)).put (some 11) (.bool true)).put (some 12) (.int .i64 (e:Nat)))=ac at g4;have had:ac.defers=[]:=by rw[<-hac];rfl
 have fin:∃w1 w2 w3 w4,(Instr.storeAt 3 (ac.eval (.tmp 0)) (ac.eval (.const (.int .i64 0)))).run Tryz.prog w=.ok () w1/\(Instr.storeAt 3 (ac.eval (.tmp 1)) (ac.eval (.const (.int .i64 0)))).run Tryz.prog w1=.ok () w2/\(Instr.storeAt 3 (ac.eval (.tmp 2)) (ac.eval (.const (.int .i64 0)))).run Tryz.prog w2=.ok () w3/\(Instr.storeAt 24 (ac.eval (.tmp 3)) (ac.eval (.tmp 12))).run Tryz.prog w3=.ok () w4 /\
     ∃ρ' st',ai E0 ρ' st' ac w4/\st'.h=[(i3,.var [.int .i64 (e:Nat)]),(i2,.var [.int .i64 0]),(i1,.var [.int .i64 0]),(i0,.var [.int .i64 0])]/\sget st'.s 2000000=some (.aa i0 0)/\sget st'.s 2000001=some (.aa i1 0)/\sget st'.s 2000002=some (.aa i2 0)/\sget st'.s 2000003=some (.aa i3 0):=by
  subst hh0;have g4:=g4.weaken (st':=⟨[(0,.aa i0 0),(1,.aa i1 0),(2,.aa i2 0),(3,.aa i3 0),(12,.int .i64 (e:Nat)),(2000000,.aa i0 0),(2000001,.aa i1 0),(2000002,.aa i2 0),(2000003,.aa i3 0)],[(i0,.var [x0]),(i1,.var [x1]),(i2,.var [x2]),(i3,.var [x3])]⟩) (by exact⟨rfl,rfl,rfl,rfl,rfl,rfl,rfl,rfl,rfl,trivial⟩) (by simp[dE,hget,hi.kL,hi.kL.symm,hi.kM,hi.kM.symm,hi.kN,hi.kN.symm,hi.ia,hi.ia.symm,hi.kO,hi.kO.symm,hi.kP,hi.kP.symm]);have hx0:=bn g4 (.tmp 0);have hy0:=bn g4 (.const (.int .i64 0))
  obtain⟨w1,ρ1,st1,r1,g5,K⟩:=lv g4 xq hx0 hy0 (K:=λ_ st1=>st1=⟨[(0,.aa i0 0),(1,.aa i1 0),(2,.aa i2 0),(3,.aa i3 0),(12,.int .i64 (e:Nat)),(2000000,.aa i0 0),(2000001,.aa i1 0),(2000002,.aa i2 0),(2000003,.aa i3 0)],[(i0,.var [.int .i64 0]),(i1,.var [x1]),(i2,.var [x2]),(i3,.var [x3])]⟩) (by
   simp[effSt,hget,bD,hdel,hi.kL,hi.kL.symm,hi.kM,hi.kM.symm,hi.kN,hi.kN.symm,hi.ia,hi.ia.symm,hi.kO,hi.kO.symm,hi.kP,hi.kP.symm,cI,aL,cellsOf,isCell,ev,trE,sget,show constAV (.int .i64 0)=.int .i64 0 from rfl])
  subst K;have hx1:=bn g5 (.tmp 1);have hy1:=bn g5 (.const (.int .i64 0))
  obtain⟨w2,ρ2,st2,r2,g6,K⟩:=lv g5 xq hx1 hy1 (K:=λ_ st1=>st1=⟨[(0,.aa i0 0),(1,.aa i1 0),(2,.aa i2 0),(3,.aa i3 0),(12,.int .i64 (e:Nat)),(2000000,.aa i0 0),(2000001,.aa i1 0),(2000002,.aa i2 0),(2000003,.aa i3 0)],[(i1,.var [.int .i64 0]),(i0,.var [.int .i64 0]),(i2,.var [x2]),(i3,.var [x3])]⟩) (by
   simp[effSt,hget,bD,hdel,hi.kL,hi.kL.symm,hi.kM,hi.kM.symm,hi.kN,hi.kN.symm,hi.ia,hi.ia.symm,hi.kO,hi.kO.symm,hi.kP,hi.kP.symm,cI,aL,cellsOf,isCell,ev,trE,sget,show constAV (.int .i64 0)=.int .i64 0 from rfl])
  subst K;have hx2:=bn g6 (.tmp 2);have hy2:=bn g6 (.const (.int .i64 0))
  obtain⟨w3,ρ3,st3,r3,g7,K⟩:=lv g6 xq hx2 hy2 (K:=λ_ st1=>st1=⟨[(0,.aa i0 0),(1,.aa i1 0),(2,.aa i2 0),(3,.aa i3 0),(12,.int .i64 (e:Nat)),(2000000,.aa i0 0),(2000001,.aa i1 0),(2000002,.aa i2 0),(2000003,.aa i3 0)],[(i2,.var [.int .i64 0]),(i1,.var [.int .i64 0]),(i0,.var [.int .i64 0]),(i3,.var [x3])]⟩) (by
   simp[effSt,hget,bD,hdel,hi.kL,hi.kL.symm,hi.kM,hi.kM.symm,hi.kN,hi.kN.symm,hi.ia,hi.ia.symm,hi.kO,hi.kO.symm,hi.kP,hi.kP.symm,cI,aL,cellsOf,isCell,ev,trE,sget,show constAV (.int .i64 0)=.int .i64 0 from rfl])
  subst K;have hx3:=bn g7 (.tmp 3);have hy3:=bn g7 (.tmp 12)
  obtain⟨w4,ρ4,st4,r4,g8,K⟩:=lv g7 B3 hx3 hy3 (K:=λ_ st1=>st1=⟨[(0,.aa i0 0),(1,.aa i1 0),(2,.aa i2 0),(3,.aa i3 0),(12,.int .i64 (e:Nat)),(2000000,.aa i0 0),(2000001,.aa i1 0),(2000002,.aa i2 0),(2000003,.aa i3 0)],[(i3,.var [.int .i64 (e:Nat)]),(i2,.var [.int .i64 0]),(i1,.var [.int .i64 0]),(i0,.var [.int .i64 0])]⟩) (by
   simp[effSt,hget,bD,hdel,hi.kL,hi.kL.symm,hi.kM,hi.kM.symm,hi.kN,hi.kN.symm,hi.ia,hi.ia.symm,hi.kO,hi.kO.symm,hi.kP,hi.kP.symm,cI,aL,cellsOf,isCell,ev,trE,sget,show constAV (.int .i64 0)=.int .i64 0 from rfl])
  subst K;exact⟨w1,w2,w3,w4,r1,r2,r3,r4,ρ4,_,g8,rfl,rfl,rfl,rfl,rfl⟩
 obtain⟨w1,w2,w3,w4,r1,r2,r3,r4,ρ2,st2,g6,e1,e2,e3,e4,e5⟩:=fin;clear g4;refine callsDIn_of_wpSIn Tryz.func191 rfl trivial λc₀ cs hu=>?_;apply wpSIn_seq;apply wpSIn_region;simp[wpOpsSIn,go_sem,recoverD,hu,bS,fh,Tryz.ntmps191,Exit.thenS,FT];refine wpSIn_of_wpIn rfl ?_;refine wpIn_seq ?_;refine wpIn_region ?_;simp[wpOpsIn,Oper.wpIn,Oper.uponIn,Oper.semAt_none,go_sem,Region.wanted,Exit.then]
 refine wpIn_cond_true (by simp[Act.eval,Array.replicate]) ?_;refine Eq.mpr (congrArg (λa=>Code.wpIn Fence.wide 0 Tryz.prog _ _ a w) (a₂:=((((((((({tmps:=#[v0,v1,v2,v3]++Array.replicate (Tryz.f191.ntmps-#[v0,v1,v2,v3].size) undef,defers:=[]}:Act).put (some 7) (fh e)).put (some 8) (.tuple #[.int .i64 (e:Nat),.bool true])).put (some 6) (.tuple #[.int .i64 (e:Nat),.bool true])).put (some 9) (.int .i64 (e:Nat))).put (some 10) (.bool true)).put (some 4) (.int .i64 (e:Nat))).put (some 5) (.bool true)).put (some 11) (.bool true))) ?_) ?_
 ·simp[Act.put,hnt,fh]
 refine wpIn_region_list (wpListIn_plain rfl (λnext hnext=>⟨λ_ _=>trivial,?_⟩))
 refine FL (v:=.int .i64 (e:Nat)) (w':=w) (by simp[execOp,Act.eval,Act.put,hnt]) (hnext _ _ ?_);refine wpListIn_plain rfl (λnext hnext=>⟨λ_ _=>trivial,?_⟩)
 rw[hac];refine po (w':=w1) (by simp[execOp,r1]) (hnext _ _ ?_);refine wpListIn_plain rfl (λnext hnext=>⟨λ_ _=>trivial,?_⟩)
 refine po (w':=w2) (by simp only[Act.put];simp[execOp,r2]) (hnext _ _ ?_);refine wpListIn_plain rfl (λnext hnext=>⟨λ_ _=>trivial,?_⟩)
 refine po (w':=w3) (by simp only[Act.put];simp[execOp,r3]) (hnext _ _ ?_);refine wpListIn_plain rfl (λnext hnext=>⟨λ_ _=>trivial,?_⟩)
 refine po (w':=w4) (by simp only[Act.put];simp[execOp,r4]) (hnext _ _ ?_);refine⟨had,_,rfl,.tuple #[],by simp[results,Tryz.results191],⟨_,rfl⟩,rfl,ρ2,?_,?_,g6.an.os,g6.an.tape,g6.an.output,g6.an.size,g6.an.block,?_⟩
 ·have:=g6.heap;rw[e1]at this;exact this
 ·intro j v x h1 h2;have hj:j<4:=(List.getElem?_eq_some_iff.1 h2).1
  have hgv:∀k,2000000<=k->bl E0 ac k=E0.gv k:=λk hk=>by
   unfold bl;rw[if_neg (by show ¬k<Tryz.f191.ntmps;rw[hnt];omega)]
  obtain rfl | rfl | rfl | rfl:j=0\/j=1\/j=2\/j=3:=acN
  ·obtain rfl:v0=v:=by simpa using h1
   obtain rfl:AV.aa i0 0=x:=by simpa using h2
   have hr:=(g6.aX _ _ e2).2;rw[hgv _ (acT _),e1]at hr;exact hr
  ·obtain rfl:v1=v:=by simpa using h1
   obtain rfl:AV.aa i1 0=x:=by simpa using h2
   have hr:=(g6.aX _ _ e3).2;rw[hgv _ (by decide),e1]at hr;exact hr
  ·obtain rfl:v2=v:=by simpa using h1
   obtain rfl:AV.aa i2 0=x:=by simpa using h2
   have hr:=(g6.aX _ _ e4).2;rw[hgv _ (by decide),e1]at hr;exact hr
  ·obtain rfl:v3=v:=by simpa using h1
   obtain rfl:AV.aa i3 0=x:=by simpa using h2
   have hr:=(g6.aX _ _ e5).2;rw[hgv _ (by decide),e1]at hr;exact hr
 ·rintro b ⟨id,W,L,h1,h2,h3⟩;rw[<-e1]at h1;exact g6.base id W L b h1 h2 h3
open Eng
set_option maxRecDepth 10000
abbrev Bs:=List UInt8
theorem BE {t:TypeId} {n:Int} {e:Nat} {st:St} (ht:t=199:=by rfl) (hn:n=(e:Nat):=by rfl):(KQ.dies (fh e)).ap (.panic (bS (.iface t (.int .i64 n)))) st:=by
 subst ht hn;exact of_eq_true np
theorem z7 {x n:Nat} (hx:x<1000000) (hn:n<=10):bits .and .i64 (x:Int) ((2^n-1:Nat):Int)=((x%2^n:Nat):Int):=by
 have hp:2^n<=2^10:=acV (by decide) hn;have hp1:0<2^n:=afm (by decide);have:=ad9 x hp1
 show IntKind.i64.wrap ((BitVec.ofInt 64 (x:Int) &&& BitVec.ofInt 64 ((2^n-1:Nat):Int)).toNat:Int)=_
 rw[ac2,ac2,ad1,ac1,ac1,acY acN,acY acN,adx];exact eE acN
theorem yc {x k c:Nat} (hx:x<2^k) (hk:k<=32) (hc:c<256):bits .or .i64 (x:Int) (IntKind.i64.wrap ((c:Int)*2^min k 64))=((x+c*2^k:Nat):Int):=by
 have hp:2^k<=2^32:=acV (by decide) hk;have h2:c*2^k<=255*2^32:=aeY acN hp
 have e:IntKind.i64.wrap ((c:Int)*2^min k 64)=((c*2^k:Nat):Int):=by
  rw[adk acN,show((c:Int)*2^k)=((c*2^k:Nat):Int)by push_cast;rfl];exact eE acN
 rw[e]
 show IntKind.i64.wrap ((BitVec.ofInt 64 (x:Int) ||| BitVec.ofInt 64 ((c*2^k:Nat):Int)).toNat:Int)=_
 rw[ac2,ac2,adZ,ac1,ac1,acY acN,acY acN,Nat.or_comm,<-adD,<-adu hx,adD,ae0];exact eE acN
def eC (d:Bs) (p:Nat):HP:=[(258010,.var [.str d,.int .i64 p])]
theorem jl {p:Prop} (h:p:=by simp(disch:=first | omega | (simp only[Lx];omega))only[go_sem,simprocAttr,eC]):p:=h
theorem u4 {a b:Prop} (k:b) (h:b->a:=by intro h;simp(disch:=first | omega | (simp only[Lx];omega))only[go_sem,simprocAttr,eC];exact h):a:=h k
theorem pC {E0:Prop} {a b:Prop} (e0:E0) (k:b) (h:E0->b->a:=by intro e0 h;simp(disch:=first | omega | (simp only[Lx];omega))only[go_sem,simprocAttr,eC,e0];exact h):a:=h e0 k
theorem abW {E0 E1:Prop} {a b:Prop} (e0:E0) (e1:E1) (k:b) (h:E0->E1->b->a:=by intro e0 e1 h;simp(disch:=first | omega | (simp only[Lx];omega))only[go_sem,simprocAttr,eC,e0,e1];exact h):a:=h e0 e1 k
theorem LF (d:Bs) (p:Nat) (hd:d.length<=1000000) (h:p<d.length):Eng.Spec Tryz.prog 142 (eC d p) [.aa 258010 0] (λh' v ar=>h'=eC d (p+1)/\v=.int .i64 ((d.getD p 0).toNat:Nat)/\ar=[.aa 258010 0]):=by
 refine Cod.Bt (λE R hN hR=>?_);have hu:=(d.getD p 0).toNat_lt;have e1:((p:Int)+1-1).toNat=p:=acN;have hi:¬(p:Int)=(d.length:Int):=acN;refine abW e1 hi ?_;exact hR.le jl ⟨rfl,rfl,rfl⟩
theorem LD (d:Bs) (p:Nat) (hd:d.length<=1000000) (h:p=d.length):Eng.gT Tryz.prog 142 (eC d p) [.aa 258010 0] (fh 6):=by
 refine Cod.Br (λE hN=>?_);have hi:(p:Int)=(d.length:Int):=acN;refine pC hi ?_;exact BE
def eM (d:Bs) (p:Nat):HP:=[(259041,.var [.str d,.int .i64 p])]
theorem jk {p:Prop} (h:p:=by simp(disch:=first | omega | (simp only[Lx];omega))only[go_sem,simprocAttr,eM]):p:=h
theorem zE {a b:Prop} (k:b) (h:b->a:=by intro h;simp(disch:=first | omega | (simp only[Lx];omega))only[go_sem,simprocAttr,eM];exact h):a:=h k
theorem u3 {E0:Prop} {a b:Prop} (e0:E0) (k:b) (h:E0->b->a:=by intro e0 h;simp(disch:=first | omega | (simp only[Lx];omega))only[go_sem,simprocAttr,eM,e0];exact h):a:=h e0 k
theorem Ol {E0:Prop} {a b:Prop} (e0:E0) (k:b) (h:E0->b->a:=by intro e0 h;(repeat(first | (with_reducible refine cC ?_) | (with_reducible refine cz ?_) | (with_reducible refine cB ?_))<;>simp(disch:=first | omega | (simp only[Lx];omega))only[go_sem,simprocAttr,eM,e0]);exact h):a:=h e0 k
theorem zF {E0 E1:Prop} {a b:Prop} (e0:E0) (e1:E1) (k:b) (h:E0->E1->b->a:=by intro e0 e1 h;simp(disch:=first | omega | (simp only[Lx];omega))only[go_sem,simprocAttr,eM,e0,e1];exact h):a:=h e0 e1 k
theorem Cw {E0 E1:Prop} {a b:Prop} (e0:E0) (e1:E1) (k:b) (h:E0->E1->b->a:=by intro e0 e1 h;(repeat(first | (with_reducible refine cC ?_) | (with_reducible refine cz ?_) | (with_reducible refine cB ?_))<;>simp(disch:=first | omega | (simp only[Lx];omega))only[go_sem,simprocAttr,eM,e0,e1]);exact h):a:=h e0 e1 k
theorem rF {E0 E1 E2:Prop} {a b:Prop} (e0:E0) (e1:E1) (e2:E2) (k:b) (h:E0->E1->E2->b->a:=by intro e0 e1 e2 h;simp(disch:=first | omega | (simp only[Lx];omega))only[go_sem,simprocAttr,eM,e0,e1,e2];exact h):a:=h e0 e1 e2 k
theorem Bq (d:Bs) (p:Nat) (hd:d.length<=1000000) (h:p<d.length):Eng.Spec Tryz.prog 142 (eM d p) [.aa 259041 0] (λh' v ar=>h'=eM d (p+1)/\v=.int .i64 ((d.getD p 0).toNat:Nat)/\ar=[.aa 259041 0]):=by
 refine Cod.Bt (λE R hN hR=>?_);have hu:=(d.getD p 0).toNat_lt;have e1:((p:Int)+1-1).toNat=p:=acN;have hi:¬(p:Int)=(d.length:Int):=acN;refine zF e1 hi ?_;exact hR.le jk ⟨rfl,rfl,rfl⟩
theorem LC (d:Bs) (p:Nat) (hd:d.length<=1000000) (h:p=d.length):Eng.gT Tryz.prog 142 (eM d p) [.aa 259041 0] (fh 6):=by
 refine Cod.Br (λE hN=>?_);have hi:(p:Int)=(d.length:Int):=acN;refine u3 hi ?_;exact BE
def sizeR (d:Bs):Nat->Nat->Nat->Nat->Nat×Nat×Nat
 | 0,p,_,_=>if d.length<=p then(0,0,6)else(0,0,3)
 | m+1,p,n,sh=>if d.length<=p then(0,0,6)else if(d.getD p 0).toNat<128 then(n+(d.getD p 0).toNat%128*2^sh,p+1,0)else sizeR d m (p+1) (n+(d.getD p 0).toNat%128*2^sh) (sh+7)
def bT (d:Bs) (p:Nat):Nat×Nat×Nat:=sizeR d 5 p 0 0
theorem F8 (d:Bs):∀(m p n sh:Nat),n<2^sh->(sizeR d m p n sh).2.2=0->(sizeR d m p n sh).2.1<=d.length/\p<(sizeR d m p n sh).2.1/\(sizeR d m p n sh).1<2^(sh+7*m)
 | 0,p,n,sh=>by
  intro _;unfold sizeR
  split<;>intro h<;>cases h
 | m+1,p,n,sh=>by
  intro hn
  have h2:n+(d.getD p 0).toNat%128*2^sh<2^(sh+7):=by
   have h1:(d.getD p 0).toNat%128<=127:=acN;have h2:(d.getD p 0).toNat%128*2^sh<=127*2^sh:=ade _ h1;rw[aeO];omega
  unfold sizeR;split
  ·intro h;cases h
  ·split
   ·intro _;exact⟨by simp only;omega,by simp only;omega,ac3 h2 (acV (by decide) acN)⟩
   ·intro h;obtain⟨a,b,c⟩:=F8 d m _ _ _ h2 h;exact⟨a,acN,by rwa[show sh+7+7*m=sh+7*(m+1)by omega]at c⟩
theorem qY (d:Bs) (p:Nat) (h:(bT d p).2.2=0):(bT d p).2.1<=d.length/\p<(bT d p).2.1/\(bT d p).1<34359738368:=by
 have:=F8 d 5 p 0 0 (by decide) h
 rwa[show(2:Nat)^(0+7*5)=34359738368 by decide]at this
set_option maxHeartbeats 1000000 in
theorem BN (d:Bs) (p:Nat) (hd:d.length<=1000000) (hp:p<=d.length) {E:Env} (hN:E.N<=1000000) (Q:KQ)
    (hret:(bT d p).2.2=0->Q.ap .ret ⟨[(2,.int .i64 ((bT d p).1:Nat)),(2000000,.aa 258010 0)],eC d (bT d p).2.1⟩)
    (hdie:∀st,(bT d p).2.2≠0->Q.ap (.panic (bS (fh (bT d p).2.2))) st) :
    vcW Tryz.prog E Cod.Mk Q ⟨[(0,.aa 258010 0),(2000000,.aa 258010 0)],eC d p⟩:=by
 generalize hH:bT d p=H at *
 unfold bT at hH;refine u4 ?_
 refine aD hN (λq:Nat×Nat×Nat=>⟨[(0,.aa 258010 0),(2,.int .i64 0),(3,.int .i64 q.2.2),(4,.int .i64 (7*(5-q.1):Nat)),(2000000,.aa 258010 0)],eC d q.2.1⟩)
  (λq=>q.1<=5/\q.2.1<=d.length/\q.2.2<2^(7*(5-q.1))/\sizeR d q.1 q.2.1 q.2.2 (7*(5-q.1))=H) (λq=>q.1) (5,p,0) (.le jl) ⟨by simp,hp,by simp,hH⟩ ?_
 clear hH;rintro⟨m,p2,n⟩ R1 ⟨hm,hp2,hn,hH⟩ hR1;simp only at hm hp2 hn hH;generalize hshe:7*(5-m)=sh at *
 by_cases hend:d.length<=p2
 ·have hR0:sizeR d m p2 n sh=(0,0,6):=by cases m with | zero=>exact if_pos hend | succ m=>exact if_pos hend
  rw[hR0]at hH;subst hH;refine pC hshe ?_;refine j5 (eC d p2) (LD d p2 hd acN) jl ?_;exact hdie _ (by decide)
 ·have hby:=LF d p2 hd acN;have hu:=(d.getD p2 0).toNat_lt
  cases m with
  | zero=>
   have hR0:sizeR d 0 p2 n sh=(0,0,3):=if_neg hend;rw[hR0]at hH;subst hH;refine pC hshe ?_;refine iU ?_;refine aI (eC d p2) hby jl nofun ?_;rintro h' v ar ⟨rfl,rfl,rfl⟩;refine⟨jl,rfl,?_⟩;have hgt:(28:Int)<(sh:Int):=acN;refine aE hgt hshe ?_
   exact hdie _ (by decide)
  | succ m=>
   have hR0:sizeR d (m+1) p2 n sh=if(d.getD p2 0).toNat<128 then(n+(d.getD p2 0).toNat%128*2^sh,p2+1,0)else sizeR d m (p2+1) (n+(d.getD p2 0).toNat%128*2^sh) (sh+7):=if_neg hend
   rw[hR0]at hH;generalize (d.getD p2 0).toNat=x at *
   have hk:bits .and .i64 (x:Int) 127=((x%128:Nat):Int):=z7 (n:=7) acN (by decide);have ho:=yc (x:=n) (k:=sh) (c:=x%128) hn acN acN
   have hn2:n+x%128*2^sh<2^(sh+7):=by
    have h1:x%128<=127:=acN;have h2:x%128*2^sh<=127*2^sh:=ade _ h1;rw[aeO];omega
   have hgt:¬(28:Int)<(sh:Int):=acN;have hs7:sh+7=7*(5-m):=acN
   have aA:n+x%128*2^sh<34359738368:=by
    have:2^(sh+7)<=2^35:=acV (by decide) acN;omega
   refine pC hshe ?_;refine iU ?_;refine aI (eC d p2) hby jl nofun ?_;rintro h' v ar ⟨rfl,rfl,rfl⟩;refine⟨jl,rfl,?_⟩;refine bV hgt hshe hk ho ?_;by_cases hx:x<128
   ·rw[if_pos hx]at hH;subst hH;have hret:=hret rfl;simp only[eC,afG,Int.natCast_one]at hret;have hi:(x:Int)<128:=acN;refine pC hi ?_;exact hret
   ·rw[if_neg hx]at hH;rw[hs7]at hH hn2;have hi:¬(x:Int)<128:=acN;refine pC hi ?_;exact hR1 (m,p2+1,n+x%128*2^sh) _ (by simp only;omega) ⟨by simp only;omega,by simp only;omega,hn2,hH⟩ (.le (by simp(disch:=omega)only[go_sem,simprocAttr,eC,<-hs7]))
theorem BO (d:Bs) (p:Nat) (hd:d.length<=1000000) (hp:p<=d.length) (he:(bT d p).2.2=0):Eng.Spec Tryz.prog 192 (eC d p) [.aa 258010 0]
    (λh' v ar=>h'=eC d (bT d p).2.1/\v=.int .i64 ((bT d p).1:Nat)/\ar=[.aa 258010 0]):=by
 refine Cod.Mm (λE R hN hR=>?_);refine BN d p hd hp hN _ (λ_=>?_) (λst h=>absurd he h);refine u4 ?_;exact hR.le jl ⟨rfl,rfl,rfl⟩
theorem BM (d:Bs) (p:Nat) (hd:d.length<=1000000) (hp:p<=d.length) (he:(bT d p).2.2≠0):Eng.gT Tryz.prog 192 (eC d p) [.aa 258010 0] (fh (bT d p).2.2):=by
 refine Cod.Ml (λE hN=>?_);exact BN d p hd hp hN _ (λh=>absurd h he) (λst _=>of_eq_true np)
def cpR (d:Bs) (c p:Nat):Nat->Option (Nat×Nat×Nat)
 | 0=>some (p,0,0)
 | i+1=>match cpR d c p i with
  | none=>none
  | some (q,o,n)=>if c/2^i%2=0 then some (q,o,n)else if d.length<=q then none else if i<4 then some (q+1,o+(d.getD q 0).toNat*2^(8*i),n)else some (q+1,o,n+(d.getD q 0).toNat*2^(8*(i-4)))
def ix (d:Bs) (c p:Nat):Option (Nat×Nat×Nat):=(cpR d c p 7).map λx=>(x.1,x.2.1,if x.2.2=0 then 65536 else x.2.2)
theorem wa {d:Bs} {c p:Nat}:∀{m i:Nat},i<=m->cpR d c p i=none->cpR d c p m=none
 | 0,i,h,h1=>by
  obtain rfl:i=0:=acN
  exact h1
 | m+1,i,h,h1=>by
  by_cases hi:i=m+1
  ·subst hi;exact h1
  ·unfold cpR;rw[wa (by omega:i<=m) h1]
theorem su {d:Bs} {c p:Nat} (hp:p<=d.length):∀{i:Nat} {x:Nat×Nat×Nat},i<=7->cpR d c p i=some x->x.1<=d.length/\p<=x.1/\x.2.1<2^(8*min i 4)/\x.2.2<2^(8*(i-4))
 | 0,x,_,h=>by
  unfold cpR at h;cases h
  exact⟨hp,acT _,by simp,by simp⟩
 | i+1,x,hi,h=>by
  unfold cpR at h
  cases h1:cpR d c p i with
  | none=>rw[h1]at h;cases h
  | some y=>
   obtain⟨a,a',b,e⟩:=su hp acN h1;obtain⟨q,o,n⟩:=y;rw[h1]at h;simp only at h a a' b e;have hx:=(d.getD q 0).toNat_lt;generalize (d.getD q 0).toNat=z at *
   have up1:2^(8*min i 4)<=2^(8*min (i+1) 4):=acV (by decide) acN;have up2:2^(8*(i-4))<=2^(8*(i+1-4)):=acV (by decide) acN;split at h
   ·cases h;exact⟨a,a',by simp only;omega,by simp only;omega⟩
   ·split at h
    ·cases h
    ·split at h
     ·cases h;refine⟨by simp only;omega,by simp only;omega,?_,by simp only;omega⟩;have e1:8*min (i+1) 4=8*i+8:=acN;have e2:8*min i 4=8*i:=acN;rw[e2]at b;simp only;rw[e1,aeO];have:z*2^(8*i)<=255*2^(8*i):=ade _ acN;omega
     ·cases h;refine⟨by simp only;omega,by simp only;omega,by simp only;omega,?_⟩;have e1:8*(i+1-4)=8*(i-4)+8:=acN;simp only;rw[e1,aeO];have:z*2^(8*(i-4))<=255*2^(8*(i-4)):=ade _ acN;omega
theorem ZE {c i:Nat} (hi:i<=7):((c:Nat):Int).fdiv (2^min i 64)=((c/2^i:Nat):Int):=by
 rw[adk acN,adv _ (aeW (by decide))]
 push_cast
 rfl
set_option maxHeartbeats 1000000 in
theorem Bu (d:Bs) (c p:Nat) (hd:d.length<=1000000) (hp:p<=d.length) (hc:c<256) {E:Env} (hN:E.N<=1000000) (Q:KQ)
    (hret:∀x,ix d c p=some x->Q.ap .ret ⟨[(4,.int .i64 (x.2.1:Nat)),(5,.int .i64 (x.2.2:Nat)),(2000000,.aa 259041 0),(2000001,.int .i64 c)],eM d x.1⟩)
    (hdie:∀st,ix d c p=none->Q.ap (.panic (bS (fh 6))) st) :
    vcW Tryz.prog E Cod.LH Q ⟨[(0,.aa 259041 0),(1,.int .i64 c),(2000000,.aa 259041 0),(2000001,.int .i64 c)],eM d p⟩:=by
 refine zE ?_
 refine aD hN (λq:Nat×(Nat×Nat×Nat)=>⟨[(0,.aa 259041 0),(1,.int .i64 c),(4,.int .i64 0),(5,.int .i64 0),(6,.int .i64 q.2.2.1),(7,.int .i64 q.2.2.2),(10,.int .i64 q.1),(2000000,.aa 259041 0),(2000001,.int .i64 c)],eM d q.2.1⟩)
  (λq=>q.1<=7/\cpR d c p q.1=some q.2) (λq=>7-q.1) (0,p,0,0) (.le jk) ⟨by simp,rfl⟩ ?_
 rintro⟨i,q,o,n⟩ R1 ⟨hi,hcp⟩ hR1;simp only at hi hcp;obtain⟨ha,ha',hb,he⟩:=su hp hi hcp;simp only at ha ha' hb he;have hob:o<4294967296:=ac3 hb (acV (n:=2) (j:=32) (by decide) acN);have hnb:n<16777216:=ac3 he (acV (n:=2) (j:=24) (by decide) acN);by_cases hlt:i<7
 ·have hsh:=ZE (c:=c) (i:=i) acN;have hcl:c/2^i<1000000:=ae2 (aez ..) acN;have han:bits .and .i64 ((c/2^i:Nat):Int) 1=((c/2^i%2:Nat):Int):=z7 (n:=1) hcl (by decide)
  have hst:cpR d c p (i+1)=if c/2^i%2=0 then some (q,o,n)else if d.length<=q then none else if i<4 then some (q+1,o+(d.getD q 0).toNat*2^(8*i),n)else some (q+1,o,n+(d.getD q 0).toNat*2^(8*(i-4))):=by
   rw[cpR,hcp]
  generalize hbit:c/2^i%2=bt at *
  by_cases h0:bt=0
  ·have hz:((bt:Nat):Int)=0:=acN;rw[if_pos h0]at hst;refine rF hsh han hz ?_;exact hR1 (i+1,q,o,n) _ (by simp only;omega) ⟨by simp only;omega,hst⟩ (.le jk)
  ·have hz:¬((bt:Nat):Int)=0:=acN;rw[if_neg h0]at hst;by_cases hend:d.length<=q
   ·rw[if_pos hend]at hst;refine rF hsh han hz ?_;refine j5 (eM d q) (LC d q hd acN) jk ?_;exact hdie _ (by unfold ix;rw[wa (by omega:i+1<=7) hst];rfl)
   ·rw[if_neg hend]at hst;have hby:=Bq d q hd acN;have hu:=(d.getD q 0).toNat_lt;generalize (d.getD q 0).toNat=x at *
    refine rF hsh han hz ?_;refine iU ?_;refine aI (eM d q) hby jk nofun ?_;rintro h' v ar ⟨rfl,rfl,rfl⟩;refine⟨jk,rfl,?_⟩;by_cases h4:i<4
    ·rw[if_pos h4]at hst;have hi4:(i:Int)<4:=acN;have e8:(8:Int)*(i:Int)=((8*i:Nat):Int):=acN;have hb8:o<2^(8*i):=by rwa[show 8*min i 4=8*i by omega]at hb
     have ho:=yc (x:=o) (k:=8*i) (c:=x) hb8 acN acN;refine rF hi4 e8 ho ?_;exact hR1 (i+1,q+1,o+x*2^(8*i),n) _ (by simp only;omega) ⟨by simp only;omega,hst⟩ (.le jk)
    ·rw[if_neg h4]at hst;have hi4:¬(i:Int)<4:=acN;have e8:(8:Int)*((i:Int)-4)=((8*(i-4):Nat):Int):=acN;have hn:=yc (x:=n) (k:=8*(i-4)) (c:=x) he acN acN;refine rF hi4 e8 hn ?_;exact hR1 (i+1,q+1,o,n+x*2^(8*(i-4))) _ (by simp only;omega) ⟨by simp only;omega,hst⟩ (.le jk)
 ·obtain rfl:i=7:=acN;have hcy:ix d c p=some (q,o,if n=0 then 65536 else n):=by unfold ix;rw[hcp];rfl
  have hret:=hret _ hcy;simp only[eM]at hret;by_cases h0:n=0
  ·rw[if_pos h0]at hret;have hz:((n:Nat):Int)=0:=acN;refine u3 hz ?_;exact hret
  ·rw[if_neg h0]at hret;have hz:¬((n:Nat):Int)=0:=acN;refine u3 hz ?_;exact hret
theorem LK (d:Bs) (c p:Nat) {x:Nat×Nat×Nat} (hd:d.length<=1000000) (hp:p<=d.length) (hc:c<256) (he:ix d c p=some x):Eng.Spec Tryz.prog 143 (eM d p) [.aa 259041 0,.int .i64 c]
    (λh' v ar=>h'=eM d x.1/\v=.af [.int .i64 (x.2.1:Nat),.int .i64 (x.2.2:Nat)]/\ar=[.aa 259041 0,.int .i64 c]):=by
 refine Cod.LL (λE R hN hR=>?_);refine Bu d c p hd hp hc hN _ (λy hy=>?_) (λst h=>by rw[he]at h;cases h);obtain rfl:=Option.some.inj (he.symm.trans hy);refine zE ?_;exact hR.le jk ⟨rfl,rfl,rfl⟩
theorem LI (d:Bs) (c p:Nat) (hd:d.length<=1000000) (hp:p<=d.length) (hc:c<256) (he:ix d c p=none):Eng.gT Tryz.prog 143 (eM d p) [.aa 259041 0,.int .i64 c] (fh 6):=by
 refine Cod.LJ (λE hN=>?_);exact Bu d c p hd hp hc hN _ (λy hy=>by rw[he]at hy;cases hy) (λst _=>of_eq_true np)
def eD (d:Bs):Nat×Nat×Nat×Nat:=
 if(bT d 0).2.2≠0 then(0,0,0,(bT d 0).2.2)
 else if(bT d (bT d 0).2.1).2.2≠0 then(0,0,0,(bT d (bT d 0).2.1).2.2)
 else((bT d 0).1,(bT d (bT d 0).2.1).1,(bT d (bT d 0).2.1).2.1,0)
def retC4 (o p q r:Option AV) (R:HP->AV->List AV->Prop) (h:HP) (us:List AV):Prop:=
 match o,p,q,r with
 | some x,some y,some z,some u=>R h (.af [x,y,z,u]) us
 | _,_,_,_=>False
theorem yJ {x y z u:AV} {R:HP->AV->List AV->Prop} {h:HP} {us:List AV}:retC4 (some x) (some y) (some z) (some u) R h us=R h (.af [x,y,z,u]) us:=(rfl)
theorem xB {m t1 t2 t3 t4 n1 n2 n3 n4:Nat} {b1 b2 b3 b4:Bool} {R:HP->AV->List AV->Prop} {st:St}:(KQ.post [.cell t1 b1 n1,.cell t2 b2 n2,.cell t3 b3 n3,.cell t4 b4 n4] m R).ap .ret st=retC4 (resC st b1 n1 (sget st.s t1)) (resC st b2 n2 (sget st.s t2)) (resC st b3 n3 (sget st.s t3)) (resC st b4 n4 (sget st.s t4)) R st.h (argsAgain st 0 m):=by
 simp only[KQ.post,postQ,resOf,resAV];cases resC st b1 n1 (sget st.s t1)<;>cases resC st b2 n2 (sget st.s t2)<;>cases resC st b3 n3 (sget st.s t3)<;>cases resC st b4 n4 (sget st.s t4)<;>simp[consO,retC4]
def sH (x0 x1 x2 x3:AV):HP:=[(258002,.var [x0]),(258003,.var [x1]),(258004,.var [x2]),(258005,.var [x3])]
theorem FY {st:St} {R:HP->AV->List AV->Prop} {e:Nat} (x0 x1 x2 x3:AV) (has:hV st 1 4=[.aa 258002 0,.aa 258003 0,.aa 258004 0,.aa 258005 0]) (hsub:dE st.h (sH x0 x1 x2 x3))
    (h:(KQ.post [.cell 2 false 1,.cell 3 false 1,.cell 4 false 1,.cell 5 false 1] 1 R).ap .ret (l3 st 1 4 (sH x0 x1 x2 x3) [(258005,.var [.int .i64 (e:Nat)]),(258004,.var [.int .i64 0]),(258003,.var [.int .i64 0]),(258002,.var [.int .i64 0])])) :
    (KQ.gC Tryz.prog [.cell 2 false 1,.cell 3 false 1,.cell 4 false 1,.cell 5 false 1] 1 4 191 R).ap (.panic (bS (fh e))) st:=
 wZ (sH x0 x1 x2 x3) [(258005,.var [.int .i64 (e:Nat)]),(258004,.var [.int .i64 0]),(258003,.var [.int .i64 0]),(258002,.var [.int .i64 0])] has (Zx e 258002 258003 258004 258005 x0 x1 x2 x3 ⟨by decide,by decide,by decide,by decide,by decide,by decide⟩) rfl hsub h
set_option maxHeartbeats 1000000 in
theorem Mq (d:Bs) (hd:d.length<=1000000):ao Tryz.prog 140 [.str d] (.af [.int .i64 ((eD d).1:Nat),.int .i64 ((eD d).2.1:Nat),.int .i64 ((eD d).2.2.1:Nat),.int .i64 ((eD d).2.2.2:Nat)]):=by
 refine Cod.Mr Zw (λE R N hN hN2 hR=>?_);unfold eD at hR;refine wW ?_;refine wi (λE' hN'=>?_) hN2;refine wW ?_;by_cases h1:(bT d 0).2.2=0
 ·rw[if_neg (λh=>h h1)]at hR;have hk:=BO d 0 hd (ac9 _) h1;have hle:=qY d 0 h1;generalize bT d 0=A at *
  refine iU ?_;refine aI (eC d 0) hk jl nofun ?_;rintro h' v ar ⟨rfl,rfl,rfl⟩;refine⟨jl,rfl,?_⟩;refine u4 ?_;by_cases h2:(bT d A.2.1).2.2=0
  ·rw[if_neg (λh=>h h2)]at hR;have hk2:=BO d A.2.1 hd hle.1 h2;have hle2:=qY d A.2.1 h2;generalize bT d A.2.1=B at *
   refine iU ?_;refine aI (eC d A.2.1) hk2 jl nofun ?_;rintro h' v ar ⟨rfl,rfl,rfl⟩;refine⟨jl,rfl,?_⟩;refine u4 ?_;simp only at hR
   have fin:(KQ.post [.cell 2 false 1,.cell 3 false 1,.cell 4 false 1,.cell 5 false 1] 1 R).ap .ret ⟨[(2,.aa 258002 0),(3,.aa 258003 0),(4,.aa 258004 0),(5,.aa 258005 0),(2000001,.aa 258002 0),(2000002,.aa 258003 0),(2000003,.aa 258004 0),(2000004,.aa 258005 0)],
       [(258005,.var [.int .i64 0]),(258004,.var [.int .i64 B.2.1]),(258003,.var [.int .i64 B.1]),(258002,.var [.int .i64 A.1]),(258010,.var [.str d,.int .i64 B.2.1])]⟩:=by
    refine aE @xB @yJ ?_;exact hR.ro ⟨rfl,rfl⟩
   repeat' apply And.intro
   all_goals exact fin
  ·rw[if_pos h2]at hR;simp only at hR;have hdd:=BM d A.2.1 hd hle.1 h2;refine j5 (eC d A.2.1) hdd jl ?_;refine FY (.int .i64 0) (.int .i64 0) (.int .i64 0) (.int .i64 0) ?_ ?_ ?_
   all_goals simp(disch:=omega)only[go_sem,simprocAttr,og,eC,sH,xB,yJ]
   exact hR.ro ⟨rfl,rfl⟩
 ·rw[if_pos h1]at hR;simp only at hR;have hdd:=BM d 0 hd (ac9 _) h1;refine j5 (eC d 0) hdd jl ?_;refine FY (.int .i64 0) (.int .i64 0) (.int .i64 0) (.int .i64 0) ?_ ?_ ?_
  all_goals simp(disch:=omega)only[go_sem,simprocAttr,og,eC,sH,xB,yJ]
  exact hR.ro ⟨rfl,rfl⟩
def gH (base d:Bs) (c p:Nat):Bs×Nat×Nat:=
 if c=0 then([],0,3)
 else if c<128 then(if d.length-p<c then([],0,6)else((d.drop p).take c,p+c,0))
 else match ix d c p with
  | none=>([],0,6)
  | some x=>if base.length<x.2.1+x.2.2 then([],0,3)else((base.drop x.2.1).take x.2.2,x.1,0)
def applyR (base d:Bs) (size:Nat):Nat->Nat->Bs->Bs×Nat
 | 0,_,_=>([],0)
 | m+1,p,out=>if d.length<=p then(if out.length<size then([],6)else(out,0))else
  if(gH base d (d.getD p 0).toNat (p+1)).2.2≠0 then([],(gH base d (d.getD p 0).toNat (p+1)).2.2)else
  if size-out.length<(gH base d (d.getD p 0).toNat (p+1)).1.length then([],3)else
  applyR base d size m (gH base d (d.getD p 0).toNat (p+1)).2.1 (out++(gH base d (d.getD p 0).toNat (p+1)).1)
def fj (base d:Bs) (most:Nat):Bs×Nat:=
 if(eD d).2.2.2≠0 then([],(eD d).2.2.2)
 else if(eD d).1≠base.length then([],4)
 else if most<(eD d).2.1 then([],2)
 else applyR base d (eD d).2.1 (d.length+1) (eD d).2.2.1 []
theorem Ga (d:Bs):(eD d).2.2.1<=d.length/\(eD d).1<34359738368/\(eD d).2.1<34359738368:=by
 unfold eD;split
 ·simp
 ·rename_i h;have h1:=qY d 0 (by simpa using h);split
  ·simp
  ·rename_i h2;have h2:=qY d (bT d 0).2.1 (by simpa using h2);exact⟨h2.1,h1.2.2,h2.2.2⟩
theorem EJ (base d:Bs) (c p:Nat) (hp:p<=d.length) (h:(gH base d c p).2.2=0):p<=(gH base d c p).2.1/\(gH base d c p).2.1<=d.length/\(gH base d c p).1.length<=base.length+d.length:=by
 unfold gH at h |-;split at h
 ·cases h
 ·rename_i h0;rw[if_neg h0];split at h
  ·rename_i h1;rw[if_pos h1];split at h
   ·cases h
   ·rename_i h2;rw[if_neg h2];simp only[acS,acU];omega
  ·rename_i h1;rw[if_neg h1]
   cases hc:ix d c p with
   | none=>rw[hc]at h;cases h
   | some x=>
    rw[hc]at h;simp only at h |-
    have hx:x.1<=d.length/\p<=x.1:=by
     unfold ix at hc
     cases h7:cpR d c p 7 with
     | none=>rw[h7]at hc;cases hc
     | some y=>
      rw[h7]at hc;have:=su hp (acT 7) h7;cases hc;exact⟨this.1,this.2.1⟩
    split at h
    ·cases h
    ·rename_i h2;rw[if_neg h2];simp only[acS,acU];omega
def aH (x0 x1:AV):HP:=[(259006,.var [x0]),(259007,.var [x1])]
theorem Hs {st:St} {R:HP->AV->List AV->Prop} {e:Nat} (x0 x1:AV) (has:hV st 3 2=[.aa 259006 0,.aa 259007 0]) (hsub:dE st.h (aH x0 x1))
    (h:(KQ.post [.cell 6 false 1,.cell 7 false 1] 3 R).ap .ret (l3 st 3 2 (aH x0 x1) [(259007,.var [.int .i64 (e:Nat)]),(259006,.var [.str []])])) :
    (KQ.gC Tryz.prog [.cell 6 false 1,.cell 7 false 1] 3 2 141 R).ap (.panic (bS (fh e))) st:=
 wZ (aH x0 x1) [(259007,.var [.int .i64 (e:Nat)]),(259006,.var [.str []])] has (HF e 259006 259007 x0 x1 (by decide)) rfl hsub h
set_option maxHeartbeats 1000000 in
theorem LA (base d:Bs) (most:Nat) (hb:base.length<=1000000) (hd:d.length<=1000000) (hm:most<=1000000):ao Tryz.prog 87 [.str base,.str d,.int .i64 most] (.af [.str (fj base d most).1,.int .i64 ((fj base d most).2:Nat)]):=by
 refine Cod.LB HE (λE R N hN hN2 hR=>?_);unfold fj at hR;have aA:=Mq d hd;have hzl:=Ga d;generalize eD d=Z at *
 obtain⟨fr,size,at_,e⟩:=Z;simp only at aA hzl hR;refine wW ?_;refine ah aA rfl rfl ?_;by_cases he:e=0;rotate_left
 ·rw[if_pos he]at hR;have i1:¬(e:Int)=0:=acN;refine ab i1 ?_;refine⟨?_,?_⟩<;>exact hR.ro ⟨rfl,rfl⟩
 rw[if_neg (λh=>h he)]at hR;subst he;by_cases hf:fr=base.length;rotate_left
 ·rw[if_pos hf]at hR;have i1:¬(fr:Int)=(base.length:Int):=acN;refine ab i1 ?_;exact hR.ro ⟨rfl,rfl⟩
 rw[if_neg (λh=>h hf)]at hR;subst hf;by_cases hs:most<size
 ·rw[if_pos hs]at hR;have i1:(most:Int)<(size:Int):=acN;refine ab i1 ?_;exact hR.ro ⟨rfl,rfl⟩
 rw[if_neg hs]at hR;have i1:¬(most:Int)<(size:Int):=acN;refine ab i1 ?_;refine wi (λE' hN'=>?_) hN2;refine wW ?_;generalize hRES:applyR base d size (d.length+1) at_ []=RES at *
 refine aD hN' (λq:Nat×Nat×Bs=>⟨[(0,.str base),(1,.str d),(6,.aa 259006 0),(7,.aa 259007 0),(9,.int .i64 size),(11,.aa 259041 0),(12,.sl 259119 0 q.2.2.length),(2000003,.aa 259006 0),(2000004,.aa 259007 0)],
     [(259006,.var [.str []]),(259007,.var [.int .i64 0]),(259041,.var [.str d,.int .i64 q.2.1]),(259119,.arr 1 (q.2.2.map ub))]⟩)
  (λq=>d.length<q.2.1+q.1/\q.2.1<=d.length/\q.2.2.length<=size/\applyR base d size q.1 q.2.1 q.2.2=RES) (λq=>q.1) (d.length+1,at_,[]) (.nil 12 259119 1 rfl (.le vV)) ⟨acN,hzl.1,ac9 _,hRES⟩ ?_
 clear hRES;rintro⟨m,p,out⟩ R1 ⟨hm1,hp,hol,hA⟩ hR1;simp only at hm1 hp hol hA;obtain⟨m,rfl⟩:∃k,m=k+1:=⟨m-1,acN⟩;unfold applyR at hA;by_cases hend:d.length<=p
 ·rw[if_pos hend]at hA;have i2:¬(p:Int)<(d.length:Int):=acN;by_cases hsh:out.length<size
  ·rw[if_pos hsh]at hA;subst hA;have i3:(out.length:Int)<(size:Int):=acN;refine aE i2 i3 ?_;exact hR.ro ⟨rfl,rfl⟩
  ·rw[if_neg hsh]at hA;subst hA;have i3:¬(out.length:Int)<(size:Int):=acN;refine aE i2 i3 ?_;exact hR.ro ⟨rfl,rfl⟩
 ·rw[if_neg hend]at hA;have i2:(p:Int)<(d.length:Int):=acN;have hby:=Bq d p hd acN;have hu:=(d.getD p 0).toNat_lt;generalize (d.getD p 0).toNat=c at *
  have hpl:=EJ base d c (p+1) acN;have hpe:gH base d c (p+1)=gH base d c (p+1):=rfl;generalize hG:gH base d c (p+1)=G at hA hpl;clear hpe;refine ab i2 ?_;refine iU ?_;refine aI (eM d p) hby jk nofun ?_;rintro h' v ar ⟨rfl,rfl,rfl⟩;refine⟨jk,rfl,?_⟩;refine zE ?_
  refine cf (y:=Cod.Lw) hN' (λ_:Unit=>⟨[(0,.str base),(1,.str d),(6,.aa 259006 0),(7,.aa 259007 0),(9,.int .i64 size),(11,.aa 259041 0),(12,.sl 259119 0 out.length),(13,.str G.1),(2000003,.aa 259006 0),(2000004,.aa 259007 0)],
   [(259006,.var [.str []]),(259007,.var [.int .i64 0]),(259041,.var [.str d,.int .i64 G.2.1]),(259119,.arr 1 (out.map ub))]⟩) (λ_=>G.2.2=0) (λR2 hR2=>?_) (λ_ he=>?_)
  ·have bad:∀e:Nat,e≠0->G.2.2=e->RES=([],e):=λe h0 h1=>by rw[if_pos (by rw[h1];exact h0),h1]at hA;exact hA.symm
   unfold gH at hG;by_cases hc0:c=0
   ·rw[if_pos hc0]at hG;subst hc0;rw[bad 3 (by decide) (by rw[<-hG])]at hR;refine wW ?_;exact hR.ro ⟨rfl,rfl⟩
   ·rw[if_neg hc0]at hG;have j0:¬(c:Int)=0:=acN;by_cases hc1:c<128
    ·rw[if_pos hc1]at hG;have j1:(c:Int)<128:=acN;by_cases hc2:d.length-(p+1)<c
     ·rw[if_pos hc2]at hG;rw[bad 6 (by decide) (by rw[<-hG])]at hR;have j2:(d.length:Int)-(p+1)<(c:Int):=acN;refine bp j0 j1 j2 ?_;exact hR.ro ⟨rfl,rfl⟩
     ·rw[if_neg hc2]at hG;have j2:¬(d.length:Int)-(p+1)<(c:Int):=acN;have e1:((p:Int)+1+(c:Int)).toNat-(p+1)=c:=acN;refine bp j0 j1 j2 ?_;exact hR2 () _ (by rw[<-hG]) (.le (by rw[<-hG];exact cn e1))
    ·rw[if_neg hc1]at hG;have j1:¬(c:Int)<128:=acN
     cases hcp:ix d c (p+1)with
     | none=>
      rw[hcp]at hG;rw[bad 6 (by decide) (by rw[<-hG])]at hR;have hdd:=LI d c (p+1) hd acN acN hcp;refine aE j0 j1 ?_;refine j5 (eM d (p+1)) hdd jk ?_;refine Hs (.str []) (.int .i64 0) ?_ ?_ ?_
      all_goals simp(disch:=omega)only[go_sem,simprocAttr,og,eM,aH]
      exact hR.ro ⟨rfl,rfl⟩
     | some x=>
      rw[hcp]at hG;simp only at hG;have hok:=LK d c (p+1) hd acN acN hcp;refine aE j0 j1 ?_;refine iU ?_;refine aI (eM d (p+1)) hok jk nofun ?_;rintro h' v ar ⟨rfl,rfl,rfl⟩;refine⟨jk,rfl,?_⟩;by_cases hbo:base.length<x.2.1+x.2.2
      ·rw[if_pos hbo]at hG;rw[bad 3 (by decide) (by rw[<-hG])]at hR;by_cases hn:base.length<x.2.2
       ·have j2:(base.length:Int)<(x.2.2:Int):=acN;refine u3 j2 ?_;refine Ol j2 ?_;exact hR.ro ⟨rfl,rfl⟩
       ·have j2:¬(base.length:Int)<(x.2.2:Int):=acN;have j3:(base.length:Int)-(x.2.2:Int)<(x.2.1:Int):=acN;refine zF j2 j3 ?_;refine Cw j2 j3 ?_;exact hR.ro ⟨rfl,rfl⟩
      ·rw[if_neg hbo]at hG;have j2:¬(base.length:Int)<(x.2.2:Int):=acN;have j3:¬(base.length:Int)-(x.2.2:Int)<(x.2.1:Int):=acN;have e1:x.2.1+x.2.2-x.2.1=x.2.2:=acN;refine zF j2 j3 ?_;refine Cw j2 j3 ?_;exact hR2 () _ (by rw[<-hG]) (.le (by rw[<-hG];exact cn e1))
  ·have hpl:=hpl he;rw[if_neg (λh=>h he)]at hA;by_cases aA:size-out.length<G.1.length
   ·rw[if_pos aA]at hA;subst hA;have i3:(size:Int)-(out.length:Int)<(G.1.length:Int):=acN;refine ab i3 ?_;exact hR.ro ⟨rfl,rfl⟩
   ·rw[if_neg aA]at hA;have i3:¬(size:Int)-(out.length:Int)<(G.1.length:Int):=acN;refine ab i3 ?_;exact hR1 (m,G.2.1,out++G.1) _ (by simp only;omega) ⟨by simp only;omega,by simp only;omega,by simp only[acQ];omega,hA⟩ (.le vV)
set_option maxHeartbeats 1000000 in
theorem EW (d:Bs) (p:Nat) (hd:d.length<=1000000) (hp:p<=d.length):ao Tryz.prog 205 [.str d,.int .i64 p] (.af [.int .i64 ((bT d p).1:Nat),.int .i64 ((bT d p).2.1:Nat),.int .i64 ((bT d p).2.2:Nat)]):=by
 refine Cod.V8 (λE R hN hR=>?_);generalize hH:bT d p=H at *
 unfold bT at hH;refine wW ?_
 refine aD hN (λq:Nat×Nat=>⟨[(0,.str d),(1,.int .i64 p),(7,.int .i64 q.2),(8,.int .i64 (2^(7*q.1):Nat)),(9,.int .i64 q.1)],[]⟩)
  (λq=>q.1<=5/\q.2<2^(7*q.1)/\sizeR d (5-q.1) (p+q.1) q.2 (7*q.1)=H) (λq=>6-q.1) (0,0) (.le vV) ⟨by simp,by simp,by simpa using hH⟩ ?_
 clear hH;rintro⟨i,n⟩ R1 ⟨hi,hn,hH⟩ hR1;simp only at hi hn hH;by_cases hend:d.length<=p+i
 ·have hR0:sizeR d (5-i) (p+i) n (7*i)=(0,0,6):=by
   cases h5:5-i with
   | zero=>exact if_pos hend
   | succ m=>exact if_pos hend
  rw[hR0]at hH;subst hH;have j1:(d.length:Int)<=(p:Int)+(i:Int):=acN;refine ab j1 ?_;exact hR.ro ⟨rfl,rfl⟩
 ·have j1:¬(d.length:Int)<=(p:Int)+(i:Int):=acN;have hu:=(d.getD (p+i) 0).toNat_lt;by_cases h5:i=5
  ·subst h5;have hR0:sizeR d (5-5) (p+5) n (7*5)=(0,0,3):=if_neg hend;rw[hR0]at hH;subst hH;refine ab j1 ?_;exact hR.ro ⟨rfl,rfl⟩
  ·obtain⟨m,hm⟩:∃m,5-i=m+1:=⟨4-i,acN⟩;rw[hm]at hH;have hR0:sizeR d (m+1) (p+i) n (7*i)=if(d.getD (p+i) 0).toNat<128 then(n+(d.getD (p+i) 0).toNat%128*2^(7*i),p+i+1,0)else sizeR d m (p+i+1) (n+(d.getD (p+i) 0).toNat%128*2^(7*i)) (7*i+7):=if_neg hend
   rw[hR0]at hH;have j2:¬(i:Int)=5:=acN;have e1:((p:Int)+(i:Int)).toNat=p+i:=acN;have hpw:2^(7*i)<=2^28:=acV (by decide) acN;have hpp:2^(7*(i+1))=128*2^(7*i):=by rw[show 7*(i+1)=7*i+7 by omega,aeO];omega
   generalize hU:2^(7*i)=U at *
   refine bp j1 j2 e1 ?_;generalize (d.getD (p+i) 0).toNat=c at *
   have hmul:c%128*U<=127*U:=ade _ acN
   have ew:IntKind.i64.wrap ((n:Int)+IntKind.i64.wrap ((c:Int)%128*(U:Int)))=((n+c%128*U:Nat):Int):=by
    have h1:IntKind.i64.wrap ((c%128*U:Nat):Int)=((c%128*U:Nat):Int):=eE acN;rw[show(c:Int)%128*(U:Int)=((c%128*U:Nat):Int)by push_cast;rfl,h1,<-afG];exact eE acN
   rw[ew];by_cases hx:c<128
   ·rw[if_pos hx]at hH;subst hH;have j3:(c:Int)<128:=acN;refine ab j3 ?_;exact hR.ro ⟨rfl,rfl⟩
   ·rw[if_neg hx]at hH;have j3:¬(c:Int)<128:=acN;refine ab j3 ?_;exact hR1 (i+1,n+c%128*U) _ (by simp only;omega) ⟨by simp only;omega,by rw[hpp];omega,by rw[show 5-(i+1)=m by omega,show p+(i+1)=p+i+1 by omega,show 7*(i+1)=7*i+7 by omega];exact hH⟩ (.le (by rw[hpp];exact vV))
theorem V9 (d:Bs) (hd:d.length<=1000000):ao Tryz.prog 158 [.str d] (.af [.int .i64 ((eD d).1:Nat),.int .i64 ((eD d).2.1:Nat),.int .i64 ((eD d).2.2.1:Nat),.int .i64 ((eD d).2.2.2:Nat)]):=by
 refine Cod.Wa (λE R hN hR=>?_);have h0:=EW d 0 hd (ac9 _);have hle:(bT d 0).2.2=0->(bT d 0).2.1<=d.length:=λh=>(qY d 0 h).1;unfold eD at hR;generalize bT d 0=A at *
 obtain⟨a,q,e⟩:=A;simp only at h0 hle hR;refine wW ?_;refine ah h0 rfl rfl ?_;by_cases he:e=0;rotate_left
 ·rw[if_pos he]at hR;have i1:¬(e:Int)=0:=acN;refine ab i1 ?_;exact hR.ro ⟨rfl,rfl⟩
 rw[if_neg (λh=>h he)]at hR;have hq:=hle he;subst he;have h1:=EW d q hd hq;generalize bT d q=B at *
 obtain⟨b,q2,e2⟩:=B;simp only at h1 hR;refine wW ?_;refine ah h1 rfl rfl ?_;by_cases he:e2=0;rotate_left
 ·rw[if_pos he]at hR;have i1:¬(e2:Int)=0:=acN;refine ab i1 ?_;exact hR.ro ⟨rfl,rfl⟩
 rw[if_neg (λh=>h he)]at hR;subst he;refine wW ?_;exact hR.ro ⟨rfl,rfl⟩
def iH (l:List Nat):Nat:=l.getD 0 0+256*l.getD 1 0+65536*l.getD 2 0+16777216*l.getD 3 0
def ik (l:List Nat):Nat:=l.getD 4 0+256*l.getD 5 0+65536*l.getD 6 0
theorem Us (l:List Nat):iH (l++[0])=iH l/\ik (l++[0])=ik l:=by
 have h:∀k,(l++[0]).getD k 0=l.getD k 0:=λk=>by
  rw[acO,acO];by_cases hk:k<l.length
  ·rw[List.getElem?_append_left hk]
  ·rw[List.getElem?_append_right acN,List.getElem?_eq_none (by omega:l.length<=k)];by_cases h0:k-l.length=0
   ·rw[h0];rfl
   ·rw[List.getElem?_eq_none (by simp;omega)]
 unfold iH ik;simp only[h];exact⟨trivial,trivial⟩
theorem Ur (l:List Nat) (v:Nat) (h7:l.length<7):(l.length<4->iH (l++[v])=iH l+v*2^(8*l.length)/\ik (l++[v])=ik l)/\(¬l.length<4->iH (l++[v])=iH l/\ik (l++[v])=ik l+v*2^(8*(l.length-4))):=by
 have h:∀k,(l++[v]).getD k 0=if k=l.length then v else l.getD k 0:=λk=>by
  rw[acO,acO];by_cases hk:k<l.length
  ·rw[List.getElem?_append_left hk,if_neg acN]
  ·rw[List.getElem?_append_right acN];by_cases h0:k=l.length
   ·rw[if_pos h0,h0,aeA];rfl
   ·rw[if_neg h0,List.getElem?_eq_none (by simp;omega),List.getElem?_eq_none (by omega:l.length<=k)]
 have z:∀k,l.length<=k->l.getD k 0=0:=λk hk=>by
  rw[acO,List.getElem?_eq_none hk];rfl
 have z0:=z 0;have z1:=z 1;have z2:=z 2;have z3:=z 3;have z4:=z 4;have z5:=z 5;have z6:=z 6;unfold iH ik;simp only[h];generalize l.getD 0 0=x0 at *
 generalize l.getD 1 0=x1 at *
 generalize l.getD 2 0=x2 at *
 generalize l.getD 3 0=x3 at *
 generalize l.getD 4 0=x4 at *
 generalize l.getD 5 0=x5 at *
 generalize l.getD 6 0=x6 at *
 clear h z;generalize l.length=n at *
 obtain rfl | rfl | rfl | rfl | rfl | rfl | rfl:n=0\/n=1\/n=2\/n=3\/n=4\/n=5\/n=6:=acN
 all_goals (simp at *;try omega)
abbrev dp (l:List Nat):List AV:=l.map fun(v:Nat)=>AV.int .i64 (v:Nat)
theorem bL (l:List Nat):(dp l).length=l.length:=by simp[dp]
theorem ff {l:List Nat}:(dp l).all aL=true:=by simp[dp,aL,cellsOf,isCell]
theorem fx (l:List Nat):aB (dp l) 0 l.length=dp l:=by
 unfold aB;rw[ado,acP (by rw[bL];omega)]
theorem fL {l:List Nat} {v:Nat}:dp l++[.int .i64 (v:Nat)]=dp (l++[v]):=by simp[dp]
theorem D9 {l:List Nat}:dp l++[AV.int .i64 0]=dp (l++[0]):=fL
theorem TG {l:List Nat}:nth (dp l++[AV.int .i64 0]) l.length=.int .i64 0:=by
 unfold nth;rw[acO,List.getElem?_append_right (by rw[bL];omega),bL,aeA];rfl
theorem qG {l:List Nat} {v w:Nat}:(dp (l++[v])).set l.length (.int .i64 (w:Nat))=dp (l++[w]):=by
 unfold dp;rw[adr,ae9 _ _ (by rw[ac7];omega),ac7,aeA,adr];rfl
theorem TH {l:List Nat} {w:Nat}:(dp l++[AV.int .i64 0]).set l.length (.int .i64 (w:Nat))=dp (l++[w]):=by
 rw[D9,qG]
theorem dq {l:List Nat} {i:Nat} (h:i<l.length):nth (dp l) i=.int .i64 (l.getD i 0:Nat):=by
 simp[nth,dp,acO,h]
set_option maxHeartbeats 2000000 in
theorem V6 (base d:Bs) (most:Nat) (hb:base.length<=1000000) (hd:d.length<=1000000) (hm:most<=1000000):ao Tryz.prog 102 [.str base,.str d,.int .i64 most] (.af [.str (fj base d most).1,.int .i64 ((fj base d most).2:Nat)]):=by
 refine Cod.V7 (λE R hN hR=>?_);unfold fj at hR;have aA:=V9 d hd;have hzl:=Ga d;generalize eD d=Z at *
 obtain⟨fr,size,at_,e⟩:=Z;simp only at aA hzl hR;refine wW ?_;refine ah aA rfl rfl ?_;by_cases he:e=0;rotate_left
 ·rw[if_pos he]at hR;have i1:¬(e:Int)=0:=acN;refine ab i1 ?_;exact hR.ro ⟨rfl,rfl⟩
 rw[if_neg (λh=>h he)]at hR;subst he;by_cases hf:fr=base.length;rotate_left
 ·rw[if_pos hf]at hR;have i1:¬(fr:Int)=(base.length:Int):=acN;refine ab i1 ?_;exact hR.ro ⟨rfl,rfl⟩
 rw[if_neg (λh=>h hf)]at hR;subst hf;by_cases hs:most<size
 ·rw[if_pos hs]at hR;have i1:(most:Int)<(size:Int):=acN;refine ab i1 ?_;exact hR.ro ⟨rfl,rfl⟩
 rw[if_neg hs]at hR;have i1:¬(most:Int)<(size:Int):=acN;refine ab i1 ?_;generalize hRES:applyR base d size (d.length+1) at_ []=RES at *
 refine aD hN (λq:Nat×Nat×Bs=>⟨[(0,.str base),(1,.str d),(9,.int .i64 size),(10,.int .i64 q.2.1),(12,.str q.2.2)],[]⟩)
  (λq=>d.length<q.2.1+q.1/\q.2.1<=d.length/\q.2.2.length<=size/\applyR base d size q.1 q.2.1 q.2.2=RES) (λq=>q.1) (d.length+1,at_,[]) (.le vV) ⟨acN,hzl.1,ac9 _,hRES⟩ ?_
 clear hRES;rintro⟨m,p,out⟩ R1 ⟨hm1,hp,hol,hA⟩ hR1;simp only at hm1 hp hol hA;obtain⟨m,rfl⟩:∃k,m=k+1:=⟨m-1,acN⟩;unfold applyR at hA;by_cases hend:d.length<=p
 ·rw[if_pos hend]at hA;have i2:¬(p:Int)<(d.length:Int):=acN;by_cases hsh:out.length<size
  ·rw[if_pos hsh]at hA;subst hA;have i3:(out.length:Int)<(size:Int):=acN;refine aE i2 i3 ?_;exact hR.ro ⟨rfl,rfl⟩
  ·rw[if_neg hsh]at hA;subst hA;have i3:¬(out.length:Int)<(size:Int):=acN;refine aE i2 i3 ?_;exact hR.ro ⟨rfl,rfl⟩
 ·rw[if_neg hend]at hA;have i2:(p:Int)<(d.length:Int):=acN;have hu:=(d.getD p 0).toNat_lt;have hw:IntKind.i64.wrap ((d.getD p 0).toNat:Int)=((d.getD p 0).toNat:Int):=IntWalk.i64_in _ acN;refine aE i2 hw ?_;generalize (d.getD p 0).toNat=c at *
  have hpl:=EJ base d c (p+1) acN;obtain⟨G,hG⟩:∃G,G=gH base d c (p+1):=⟨_,rfl⟩;rw[<-hG]at hA hpl;have hG:=hG.symm;have bad:∀e:Nat,e≠0->G.2.2=e->RES=([],e):=λe h0 h1=>by rw[if_pos (by rw[h1];exact h0),h1]at hA;exact hA.symm
  by_cases hc0:c=0
  ·subst hc0;unfold gH at hG;rw[if_pos rfl]at hG;rw[bad 3 (by decide) (by rw[<-hG])]at hR;refine wW ?_;exact hR.ro ⟨rfl,rfl⟩
  have j0:¬(c:Int)=0:=acN;refine ab j0 ?_;refine cf (y:=Cod.V4) hN (λ_:Unit=>⟨[(0,.str base),(1,.str d),(9,.int .i64 size),(10,.int .i64 G.2.1),(12,.str out),(14,.str G.1)],[]⟩) (λ_=>G.2.2=0) (λR2 hR2=>?_) (λ_ he=>?_)
  ·unfold gH at hG;rw[if_neg hc0]at hG;by_cases hc1:c<128
   ·rw[if_pos hc1]at hG;have j1:(c:Int)<128:=acN;by_cases hc2:d.length-(p+1)<c
    ·rw[if_pos hc2]at hG;rw[bad 6 (by decide) (by rw[<-hG])]at hR;have j2:(d.length:Int)<(p:Int)+1+(c:Int):=acN;refine aE j1 j2 ?_;exact hR.ro ⟨rfl,rfl⟩
    ·rw[if_neg hc2]at hG;have j2:¬(d.length:Int)<(p:Int)+1+(c:Int):=acN;have e1:((p:Int)+1+(c:Int)).toNat-(p+1)=c:=acN;refine aE j1 j2 ?_;exact hR2 () _ (by rw[<-hG]) (.le (by rw[<-hG];exact cn e1))
   ·rw[if_neg hc1]at hG;have j1:¬(c:Int)<128:=acN;refine ab j1 ?_
    refine aD hN (λq:Nat×Nat×List Nat=>⟨[(0,.str base),(1,.str d),(9,.int .i64 size),(10,.int .i64 q.2.1),(12,.str out),(13,.int .i64 (c/2^q.1:Nat)),(15,.sl 272072 0 q.2.2.length),(16,.int .i64 q.2.2.length)],[(272072,.arr 1 (dp q.2.2))]⟩)
     (λq=>q.1<=7/\q.2.2.length=q.1/\(∀v∈q.2.2,v<256)/\cpR d c (p+1) q.1=some (q.2.1,iH q.2.2,ik q.2.2)) (λq=>7-q.1) (0,p+1,[]) (.jx 272065 272072 rfl rfl (.le (jQ @Nat.pow_zero @Nat.div_one))) ⟨by simp only;omega,rfl,λv hv=>(by cases hv),rfl⟩ ?_
    rintro⟨i,q,l⟩ R3 ⟨hi,hll,hlv,hcp⟩ hR3;simp only at hi hll hlv hcp;obtain⟨hq1,hq2,_,_⟩:=su (by omega:p+1<=d.length) hi hcp;simp only at hq1 hq2
    have hv:∀k,l.getD k 0<256:=λk=>by
     rw[acO]
     cases h:l[k]? with
     | none=>decide
     | some v=>exact hlv v (ac4 h)
    by_cases h7:i=7
    ·subst h7;have hcy:ix d c (p+1)=some (q,iH l,if ik l=0 then 65536 else ik l):=by unfold ix;rw[hcp];rfl
     rw[hcy]at hG;simp only at hG;have n0:nth (dp l) 0=.int .i64 (l.getD 0 0:Nat):=dq acN;have n1:nth (dp l) 1=.int .i64 (l.getD 1 0:Nat):=dq acN;have n2:nth (dp l) 2=.int .i64 (l.getD 2 0:Nat):=dq acN;have n3:nth (dp l) 3=.int .i64 (l.getD 3 0:Nat):=dq acN;have n4:nth (dp l) 4=.int .i64 (l.getD 4 0:Nat):=dq acN;have n5:nth (dp l) 5=.int .i64 (l.getD 5 0:Nat):=dq acN;have n6:nth (dp l) 6=.int .i64 (l.getD 6 0:Nat):=dq acN;have v0:=hv 0;have v1:=hv 1;have v2:=hv 2;have v3:=hv 3;have v4:=hv 4;have v5:=hv 5;have v6:=hv 6;obtain⟨o,ho⟩:∃o,o=iH l:=⟨_,rfl⟩;obtain⟨n,hn⟩:∃n,n=ik l:=⟨_,rfl⟩;rw[<-ho,<-hn]at hG;unfold iH at ho;unfold ik at hn;have hsl:(dp l).length=7:=by rw[bL,hll]
     rw[hll];clear hcy hcp hR3;generalize dp l=xs at *
     generalize l.getD 0 0=x0 at *
     generalize l.getD 1 0=x1 at *
     generalize l.getD 2 0=x2 at *
     generalize l.getD 3 0=x3 at *
     generalize l.getD 4 0=x4 at *
     generalize l.getD 5 0=x5 at *
     generalize l.getD 6 0=x6 at *
     have eo:(x0:Int)+256*x1+65536*x2+16777216*x3=(o:Int):=acN;have ek:(x4:Int)+256*x5+65536*x6=(n:Int):=acN;simp(disch:=omega)only[go_sem,simprocAttr,n0,n1,n2,n3,n4,n5,n6,hsl];rw[eo,ek];refine cf (y:=Cod.V5) hN (λ_:Unit=>⟨[(0,.str base),(1,.str d),(9,.int .i64 size),(10,.int .i64 q),(12,.str out),(17,.int .i64 o),(18,.int .i64 (if n=0 then 65536 else n:Nat))],[]⟩) (λ_=>True) (λR4 hR4=>?_) (λ_ _=>?_)
     ·by_cases hn0:n=0
      ·rw[if_pos hn0]at hR4;have j3:(n:Int)=0:=acN;refine ab j3 ?_;exact hR4 () _ trivial (.le vV)
      ·rw[if_neg hn0]at hR4;have j3:¬(n:Int)=0:=acN;refine ab j3 ?_;exact hR4 () _ trivial (.le vV)
     ·have hkb:(if n=0 then 65536 else n)<=16777216:=by split<;>omega
      generalize (if n=0 then 65536 else n)=k at *
      by_cases hbo:base.length<o+k
      ·rw[if_pos hbo]at hG;rw[bad 3 (by decide) (by rw[<-hG])]at hR;have j2:(base.length:Int)<(o:Int)+(k:Int):=acN;refine ab j2 ?_;exact hR.ro ⟨rfl,rfl⟩
      ·rw[if_neg hbo]at hG;have j2:¬(base.length:Int)<(o:Int)+(k:Int):=acN;have e1:o+k-o=k:=acN;refine ab j2 ?_;exact hR2 () _ (by rw[<-hG]) (.le (by rw[<-hG];exact cn e1))
    ·have hst:cpR d c (p+1) (i+1)=if c/2^i%2=0 then some (q,iH l,ik l)else if d.length<=q then none else if i<4 then some (q+1,iH l+(d.getD q 0).toNat*2^(8*i),ik l)else some (q+1,iH l,ik l+(d.getD q 0).toNat*2^(8*(i-4))):=by
      rw[cpR,hcp]
     have h2i:c/2^i/2=c/2^(i+1):=by rw[ad2,aen]
     have hcl:c/2^i<256:=ae2 (aez _ _) acN;have hns:=fx l;have hof:=Us l;have hof1:=λv=>Ur l v acN;have hll1:∀v,(l++[v]).length=l.length+1:=λv=>by rw[acQ,acW]
     subst hll;obtain⟨q2,hq2⟩:∃q2,q2=c/2^(l.length+1):=⟨_,rfl⟩;rw[<-hq2]at h2i;generalize c/2^l.length=q1 at *
     have ew:IntKind.i64.wrap ((q1:Int)/2)=(q2:Int):=by
      rw[show(q1:Int)/2=((q1/2:Nat):Int)by omega,h2i];exact IntWalk.i64_in _ acN
     have em:(q1:Int).tmod 2=((q1%2:Nat):Int):=by rw[gh acN];omega
     by_cases hbt:q1%2=0
     ·rw[if_pos hbt]at hst;have j3:¬((q1%2:Nat):Int)=1:=acN;refine cN hns @ff ew em j3 ?_
      exact hR3 (l.length+1,q,l++[0]) _ (by simp only;omega) ⟨by simp only;omega,hll1 0,λv hv'=>by
       rcases adq.1 hv' with h | h;exact hlv v h
       ·rw[ac8]at h;omega,by rw[hof.1,hof.2];exact hst⟩ (.le (by rw[<-hq2];exact jQ hll1 @D9))
     ·rw[if_neg hbt]at hst;have j3:((q1%2:Nat):Int)=1:=acN;by_cases hqe:d.length<=q
      ·rw[if_pos hqe]at hst;have hcy:ix d c (p+1)=none:=by unfold ix;rw[wa (by omega:l.length+1<=7) hst];rfl
       rw[hcy]at hG;rw[bad 6 (by decide) (by rw[<-hG])]at hR;have j4:(d.length:Int)<=(q:Int):=acN;refine lg hns @ff ew em j3 j4 ?_;exact hR.ro ⟨rfl,rfl⟩
      ·rw[if_neg hqe]at hst;have j4:¬(d.length:Int)<=(q:Int):=acN;have hx:=(d.getD q 0).toNat_lt;have ey:IntKind.i64.wrap ((d.getD q 0).toNat:Int)=((d.getD q 0).toNat:Int):=IntWalk.i64_in _ acN;simp(disch:=omega)only[go_sem,simprocAttr,hns,ff,ew,em,j3,j4,ey,TG,TH];generalize (d.getD q 0).toNat=x at *
       have hm':∀v∈l++[x],v<256:=λv hv'=>by
        rcases adq.1 hv' with h | h;exact hlv v h
        ·rw[ac8]at h;omega
       refine hR3 (l.length+1,q+1,l++[x]) _ (by simp only;omega) ⟨by simp only;omega,hll1 x,hm',?_⟩ (.le (by rw[<-hq2];exact cn hll1));by_cases h4:l.length<4
       ·rw[if_pos h4]at hst;obtain⟨k1,k2⟩:=(hof1 x).1 h4;rw[k1,k2];exact hst
       ·rw[if_neg h4]at hst;obtain⟨k1,k2⟩:=(hof1 x).2 h4;rw[k1,k2];exact hst
  ·have hpl:=hpl he;rw[if_neg (λh=>h he)]at hA;by_cases aA:size-out.length<G.1.length
   ·rw[if_pos aA]at hA;subst hA;have i3:(size:Int)<(out.length:Int)+(G.1.length:Int):=acN;refine ab i3 ?_;exact hR.ro ⟨rfl,rfl⟩
   ·rw[if_neg aA]at hA;have i3:¬(size:Int)<(out.length:Int)+(G.1.length:Int):=acN;refine ab i3 ?_;exact hR1 (m,G.2.1,out++G.1) _ (by simp only;omega) ⟨by simp only;omega,by simp only;omega,by simp only[acQ];omega,hA⟩ (.le vV)
end Go.Proofs.YtoalcafkffmiiaaGreatDoor.Dl
