/- The proof, part 41 of 51. -/
import Derived.Test.YtgghhaahnpbnmaaGreatDoorCartularyWalksZI
import Derived.Test.YtgghhaahnpbnmaaGreatDoorProg
import Derived.KernelRfl
import Derived.Tactics
set_option linter.all false
namespace Go.Proofs.YtgghhaahnpbnmaaGreatDoor.Dl
open Eng Eng.Kz
set_option maxRecDepth 100000
def ez (e:Nat):Value:=.iface 267 (.int .i64 (e:Nat))
theorem rL {vs:Array Value} (h:vs.size=2):∃v0 v1,vs=#[v0,v1]:=by
 obtain⟨l⟩:=vs
 match l,h with
 | [a,b],_=>exact⟨a,b,rfl⟩
theorem CE {vs:Array Value} (h:vs.size=4):∃v0 v1 v2 v3,vs=#[v0,v1,v2,v3]:=by
 obtain⟨l⟩:=vs
 match l,h with
 | [a,b,c,d],_=>exact⟨a,b,c,d,rfl⟩
theorem FL (x:Value) (t0:TypeId) (w:World):(Instr.typeAssert (.iface 267 x) t0 267 true).run Tryz.prog w=.ok (.tuple #[x,.bool true]) w:=by
 have hu:(underlying 267).run Tryz.prog w=.ok (.int .i64) w:=by rfl
 unfold Instr.typeAssert;simp[go_sem,hu]
theorem Ce:bP Tryz.prog 24=some 1:=by kernel_rfl
theorem Z3:bP Tryz.prog 9=some 1:=by kernel_rfl
theorem xK:bP Tryz.prog 3=some 1:=by kernel_rfl
theorem FI {P:Program} {o:Oper} {a:Act} {w w':World} {v:Value} {next:Act->World->Prop} {Q:Exit->Act->World->Prop} (h:(execOp a.eval o).run P w=.ok (.value v) w') (hn:next (a.put o.dst v) w') :
    Oper.uponIn Fence.wide 0 P o a next Q ((o.semAt Fence.wide.round a.eval).run P w):=by
 rw[show Fence.wide.round=none from rfl,Oper.semAt_none,h];exact hn
theorem o5 {P:Program} {o:Oper} {a:Act} {w w':World} {next:Act->World->Prop} {Q:Exit->Act->World->Prop} (h:(execOp a.eval o).run P w=.ok .skip w') (hn:next (a.put o.dst undef) w') :
    Oper.uponIn Fence.wide 0 P o a next Q ((o.semAt Fence.wide.round a.eval).run P w):=by
 rw[show Fence.wide.round=none from rfl,Oper.semAt_none,h];exact hn
theorem HX:lz Tryz.prog 185 2:=by
 intro vs w hvs;obtain⟨v0,v1,rfl⟩:=rL hvs;refine callsDIn_of_wpSIn Tryz.func185 rfl trivial λc₀ cs hu=>?_;apply wpSIn_seq;apply wpSIn_region;simp[wpOpsSIn,go_sem,recoverD,hu,Tryz.ntmps185,Exit.thenS];refine wpSIn_of_wpIn rfl ?_;refine wpIn_seq ?_;refine wpIn_region ?_;simp[wpOpsIn,Oper.wpIn,Oper.uponIn,Oper.semAt_none,go_sem,Region.wanted,Exit.then]
 refine wpIn_cond_false (by simp[Act.eval,Array.replicate]) ?_;refine wpIn_skip ?_;simp[bodyPostS,results,Tryz.results185];exact hu.symm▸rfl
theorem HY (e:Nat) (i0 i1:Nat) (x0 x1:AV) (hi:i0≠i1) :
    pH Tryz.prog 185 [(i0,.var [x0]),(i1,.var [x1])] [.aa i0 0,.aa i1 0] (ez e) [(i1,.var [.int .i64 (e:Nat)]),(i0,.var [.str []])]:=by
 intro X0 ρ w vs hh hA hX hvs hrv;obtain⟨v0,v1,rfl⟩:=rL hvs;have hnt:Tryz.f185.ntmps=11:=Tryz.ntmps185;generalize hh0:([(i0,.var [x0]),(i1,.var [x1])]:HP)=h at *
 let E0:Env:=⟨w,aE ρ h,X0,Tryz.f185.ntmps,0,λk=>#[v0,v1].getD (k-2000000) undef,none,w.heap.size,acG _,[]⟩
 have g0:af E0 ρ ⟨fN [.aa i0 0,.aa i1 0],h⟩ {tmps:=#[v0,v1]++Array.replicate (Tryz.f185.ntmps-#[v0,v1].size) undef,defers:=[]} w:=pc (B:=0) (by rw[hnt];decide) (by rw[hnt];exact(by decide:2<=11)) hh hA hX hvs hrv [] rfl;have hE:∀d,d<11->d<E0.N:=λd hd=>by show d<Tryz.f185.ntmps;rw[hnt];exact hd
 have g1:=(((((g0.put 5 (hE 5 (by decide)) (v:=ez e) (av:=.undef) (.undef _ _)).put 6 (hE 6 (by decide)) (v:=.tuple #[.int .i64 (e:Nat),.bool true]) (av:=.undef) (.undef _ _)).put 4 (hE 4 (by decide)) (v:=.tuple #[.int .i64 (e:Nat),.bool true]) (av:=.undef) (.undef _ _)).put 7 (hE 7 (by decide)) (v:=.int .i64 (e:Nat)) (av:=.int .i64 (e:Nat)) (.int _ _ _)).put 8 (hE 8 (by decide)) (v:=.bool true) (av:=.bool true) (.bool _ _)).put 2 (hE 2 (by decide)) (v:=.int .i64 (e:Nat)) (av:=.int .i64 (e:Nat)) (.int _ _ _);have g2:=g1.put 3 (hE 3 (by decide)) (v:=.bool true) (av:=.bool true) (.bool _ _);have g3:=g2.put 9 (hE 9 (by decide)) (v:=.bool true) (av:=.bool true) (.bool _ _);have g4:=g3.put 10 (hE 10 (by decide)) (v:=.int .i64 (e:Nat)) (av:=.int .i64 (e:Nat)) (.int _ _ _);have b3:=a6 g2 (.tmp 3);have b9:=a6 g3 (.tmp 9);have b2:=a6 g3 (.tmp 2);clear g0 g1 g2 g3;generalize hac:((((((((({tmps:=#[v0,v1]++Array.replicate (Tryz.f185.ntmps-#[v0,v1].size) undef,defers:=[]}:Act).put (some 5) (ez e)).put (some 6) (.tuple #[.int .i64 (e:Nat),.bool true])).put (some 4) (.tuple #[.int .i64 (e:Nat),.bool true])).put (some 7) (.int .i64 (e:Nat))).put (some 8) (.bool true)).put (some 2) (.int .i64 (e:Nat))).put (some 3) (.bool true)).put (some 9) (.bool true)).put (some 10) (.int .i64 (e:Nat))=ac at g4;have had:ac.defers=[]:=by rw[<-hac];rfl
 have fin:∃w1 w2,(Instr.storeAt 9 (ac.eval (.tmp 0)) (ac.eval (.const (.string ⟨#[]⟩)))).run Tryz.prog w=.ok () w1/\(Instr.storeAt 24 (ac.eval (.tmp 1)) (ac.eval (.tmp 10))).run Tryz.prog w1=.ok () w2 /\
     ∃ρ' st',af E0 ρ' st' ac w2/\st'.h=[(i1,.var [.int .i64 (e:Nat)]),(i0,.var [.str []])]/\sget st'.s 2000000=some (.aa i0 0)/\sget st'.s 2000001=some (.aa i1 0):=by
  subst hh0;have g4:=g4.weaken (st':=⟨[(0,.aa i0 0),(1,.aa i1 0),(10,.int .i64 (e:Nat)),(2000000,.aa i0 0),(2000001,.aa i1 0)],[(i0,.var [x0]),(i1,.var [x1])]⟩) (by exact⟨rfl,rfl,rfl,rfl,rfl,trivial⟩) (by simp[dz,hget,hi,hi.symm]);have hx0:=a6 g4 (.tmp 0);have hx10:=a6 g4 (.const (.string ⟨#[]⟩))
  obtain⟨w1,ρ1,st1,r1,g5,K⟩:=kH g4 Z3 hx0 hx10 (K:=λ_ st1=>st1=⟨[(0,.aa i0 0),(1,.aa i1 0),(10,.int .i64 (e:Nat)),(2000000,.aa i0 0),(2000001,.aa i1 0)],[(i0,.var [.str []]),(i1,.var [x1])]⟩) (by
   simp[effSt,hget,bo,hdel,hi,hi.symm,bV,aD,cellsOf,isCell,ev,trE,sget,show constAV (.string ⟨#[]⟩)=.str []from rfl])
  subst K;have hx1:=a6 g5 (.tmp 1);have hx11:=a6 g5 (.tmp 10)
  obtain⟨w2,ρ2,st2,r2,g6,K⟩:=kH g5 Ce hx1 hx11 (K:=λ_ st1=>st1=⟨[(0,.aa i0 0),(1,.aa i1 0),(10,.int .i64 (e:Nat)),(2000000,.aa i0 0),(2000001,.aa i1 0)],[(i1,.var [.int .i64 (e:Nat)]),(i0,.var [.str []])]⟩) (by
   simp[effSt,hget,bo,hdel,hi,hi.symm,bV,aD,cellsOf,isCell,ev,trE,sget])
  subst K;exact⟨w1,w2,r1,r2,ρ2,_,g6,rfl,rfl,rfl⟩
 obtain⟨w1,w2,r1,r2,ρ2,st2,g6,e1,e2,e3⟩:=fin;clear g4;refine callsDIn_of_wpSIn Tryz.func185 rfl trivial λc₀ cs hu=>?_;apply wpSIn_seq;apply wpSIn_region;simp[wpOpsSIn,go_sem,recoverD,hu,bC,ez,Tryz.ntmps185,Exit.thenS,FL];refine wpSIn_of_wpIn rfl ?_;refine wpIn_seq ?_;refine wpIn_region ?_;simp[wpOpsIn,Oper.wpIn,Oper.uponIn,Oper.semAt_none,go_sem,Region.wanted,Exit.then]
 refine wpIn_cond_true (by simp[Act.eval,Array.replicate]) ?_;refine Eq.mpr (congrArg (λa=>Code.wpIn Fence.wide 0 Tryz.prog _ _ a w) (a₂:=(((((((({tmps:=#[v0,v1]++Array.replicate (Tryz.f185.ntmps-#[v0,v1].size) undef,defers:=[]}:Act).put (some 5) (ez e)).put (some 6) (.tuple #[.int .i64 (e:Nat),.bool true])).put (some 4) (.tuple #[.int .i64 (e:Nat),.bool true])).put (some 7) (.int .i64 (e:Nat))).put (some 8) (.bool true)).put (some 2) (.int .i64 (e:Nat))).put (some 3) (.bool true)).put (some 9) (.bool true)) ?_) ?_
 ·simp[Act.put,hnt,ez]
 refine wpIn_region_list (wpListIn_plain rfl (λnext hnext=>⟨λ_ _=>trivial,?_⟩))
 refine FI (v:=.int .i64 (e:Nat)) (w':=w) (by simp[execOp,Act.eval,Act.put,hnt]) (hnext _ _ ?_);refine wpListIn_plain rfl (λnext hnext=>⟨λ_ _=>trivial,?_⟩)
 rw[hac];refine o5 (w':=w1) (by simp[execOp,r1]) (hnext _ _ ?_);refine wpListIn_plain rfl (λnext hnext=>⟨λ_ _=>trivial,?_⟩)
 refine o5 (w':=w2) (by simp only[Act.put];simp[execOp,r2]) (hnext _ _ ?_);refine⟨had,_,rfl,.tuple #[],by simp[results,Tryz.results185],⟨_,rfl⟩,rfl,ρ2,?_,?_,g6.ai.os,g6.ai.tape,g6.ai.output,g6.ai.size,g6.ai.block,?_⟩
 ·have:=g6.heap;rw[e1]at this;exact this
 ·intro j v x h1 h2;have hj:j<2:=(List.getElem?_eq_some_iff.1 h2).1
  have hgv:∀k,2000000<=k->aP E0 ac k=E0.gv k:=λk hk=>by
   unfold aP;rw[if_neg (by show ¬k<Tryz.f185.ntmps;rw[hnt];omega)]
  obtain rfl | rfl:j=0\/j=1:=acB
  ·obtain rfl:v0=v:=by simpa using h1
   obtain rfl:AV.aa i0 0=x:=by simpa using h2
   have hr:=(g6.aM _ _ e2).2;rw[hgv _ (acG _),e1]at hr;exact hr
  ·obtain rfl:v1=v:=by simpa using h1
   obtain rfl:AV.aa i1 0=x:=by simpa using h2
   have hr:=(g6.aM _ _ e3).2;rw[hgv _ (Nat.le_succ _),e1]at hr;exact hr
 ·rintro b ⟨id,W,L,h1,h2,h3⟩;rw[<-e1]at h1;exact g6.base id W L b h1 h2 h3
theorem YV:lz Tryz.prog 204 4:=by
 intro vs w hvs;obtain⟨v0,v1,v2,v3,rfl⟩:=CE hvs;refine callsDIn_of_wpSIn Tryz.func204 rfl trivial λc₀ cs hu=>?_;apply wpSIn_seq;apply wpSIn_region;simp[wpOpsSIn,go_sem,recoverD,hu,Tryz.ntmps204,Exit.thenS];refine wpSIn_of_wpIn rfl ?_;refine wpIn_seq ?_;refine wpIn_region ?_;simp[wpOpsIn,Oper.wpIn,Oper.uponIn,Oper.semAt_none,go_sem,Region.wanted,Exit.then]
 refine wpIn_cond_false (by simp[Act.eval,Array.replicate]) ?_;refine wpIn_skip ?_;simp[bodyPostS,results,Tryz.results204];exact hu.symm▸rfl
structure Hn (i0 i1 i2 i3:Nat):Prop where
 jU:i0≠i1
 jV:i0≠i2
 jW:i0≠i3
 gY:i1≠i2
 jX:i1≠i3
 jY:i2≠i3
set_option maxHeartbeats 2000000 in
theorem YW (e:Nat) (i0 i1 i2 i3:Nat) (x0 x1 x2 x3:AV) (hi:Hn i0 i1 i2 i3) :
    pH Tryz.prog 204 [(i0,.var [x0]),(i1,.var [x1]),(i2,.var [x2]),(i3,.var [x3])] [.aa i0 0,.aa i1 0,.aa i2 0,.aa i3 0] (ez e) [(i3,.var [.int .i64 (e:Nat)]),(i2,.var [.int .i64 0]),(i1,.var [.int .i64 0]),(i0,.var [.int .i64 0])]:=by
 intro X0 ρ w vs hh hA hX hvs hrv;obtain⟨v0,v1,v2,v3,rfl⟩:=CE hvs;have hnt:Tryz.f204.ntmps=13:=Tryz.ntmps204;generalize hh0:([(i0,.var [x0]),(i1,.var [x1]),(i2,.var [x2]),(i3,.var [x3])]:HP)=h at *
 let E0:Env:=⟨w,aE ρ h,X0,Tryz.f204.ntmps,0,λk=>#[v0,v1,v2,v3].getD (k-2000000) undef,none,w.heap.size,acG _,[]⟩
 have g0:af E0 ρ ⟨fN [.aa i0 0,.aa i1 0,.aa i2 0,.aa i3 0],h⟩ {tmps:=#[v0,v1,v2,v3]++Array.replicate (Tryz.f204.ntmps-#[v0,v1,v2,v3].size) undef,defers:=[]} w:=pc (B:=0) (by rw[hnt];decide) (by rw[hnt];exact(by decide:4<=13)) hh hA hX hvs hrv [] rfl;have hE:∀d,d<13->d<E0.N:=λd hd=>by show d<Tryz.f204.ntmps;rw[hnt];exact hd
 have g1:=((((((g0.put 7 (hE 7 (by decide)) (v:=(ez e)) (av:=.undef) (.undef _ _)).put 8 (hE 8 (by decide)) (v:=(.tuple #[.int .i64 (e:Nat),.bool true])) (av:=.undef) (.undef _ _)).put 6 (hE 6 (by decide)) (v:=(.tuple #[.int .i64 (e:Nat),.bool true])) (av:=.undef) (.undef _ _)).put 9 (hE 9 (by decide)) (v:=(.int .i64 (e:Nat))) (av:=(.int .i64 (e:Nat))) (.int _ _ _)).put 10 (hE 10 (by decide)) (v:=(.bool true)) (av:=(.bool true)) (.bool _ _)).put 4 (hE 4 (by decide)) (v:=(.int .i64 (e:Nat))) (av:=(.int .i64 (e:Nat))) (.int _ _ _));have g2:=g1.put 5 (hE 5 (by decide)) (v:=.bool true) (av:=.bool true) (.bool _ _);have g3:=g2.put 11 (hE 11 (by decide)) (v:=.bool true) (av:=.bool true) (.bool _ _);have g4:=g3.put 12 (hE 12 (by decide)) (v:=.int .i64 (e:Nat)) (av:=.int .i64 (e:Nat)) (.int _ _ _);have b3:=a6 g2 (.tmp 5);have b9:=a6 g3 (.tmp 11);have b2:=a6 g3 (.tmp 4);clear g0 g1 g2 g3;generalize hac:(((((((((({tmps:=#[v0,v1,v2,v3]++Array.replicate (Tryz.f204.ntmps-#[v0,v1,v2,v3].size) undef,defers:=[]}:Act).put (some 7) (ez e)).put (some 8) (.tuple #[.int .i64 (e:Nat),.bool true])).put (some 6) (.tuple #[.int .i64 (e:Nat),.bool true])).put (some 9) (.int .i64 (e:Nat))).put (some 10) (.bool true)).put (some 4) (.int .i64 (e:Nat))).put (some 5) (.bool true)).put (some 11) (.bool true)).put (some 12) (.int .i64 (e:Nat)))=ac at g4;have had:ac.defers=[]:=by rw[<-hac];rfl
 have fin:∃w1 w2 w3 w4,(Instr.storeAt 3 (ac.eval (.tmp 0)) (ac.eval (.const (.int .i64 0)))).run Tryz.prog w=.ok () w1/\(Instr.storeAt 3 (ac.eval (.tmp 1)) (ac.eval (.const (.int .i64 0)))).run Tryz.prog w1=.ok () w2/\(Instr.storeAt 3 (ac.eval (.tmp 2)) (ac.eval (.const (.int .i64 0)))).run Tryz.prog w2=.ok () w3/\(Instr.storeAt 24 (ac.eval (.tmp 3)) (ac.eval (.tmp 12))).run Tryz.prog w3=.ok () w4 /\
     ∃ρ' st',af E0 ρ' st' ac w4/\st'.h=[(i3,.var [.int .i64 (e:Nat)]),(i2,.var [.int .i64 0]),(i1,.var [.int .i64 0]),(i0,.var [.int .i64 0])]/\sget st'.s 2000000=some (.aa i0 0)/\sget st'.s 2000001=some (.aa i1 0)/\sget st'.s 2000002=some (.aa i2 0)/\sget st'.s 2000003=some (.aa i3 0):=by
  subst hh0;have g4:=g4.weaken (st':=⟨[(0,.aa i0 0),(1,.aa i1 0),(2,.aa i2 0),(3,.aa i3 0),(12,.int .i64 (e:Nat)),(2000000,.aa i0 0),(2000001,.aa i1 0),(2000002,.aa i2 0),(2000003,.aa i3 0)],[(i0,.var [x0]),(i1,.var [x1]),(i2,.var [x2]),(i3,.var [x3])]⟩) (by exact⟨rfl,rfl,rfl,rfl,rfl,rfl,rfl,rfl,rfl,trivial⟩) (by simp[dz,hget,hi.jU,hi.jU.symm,hi.jV,hi.jV.symm,hi.jW,hi.jW.symm,hi.gY,hi.gY.symm,hi.jX,hi.jX.symm,hi.jY,hi.jY.symm]);have hx0:=a6 g4 (.tmp 0);have hy0:=a6 g4 (.const (.int .i64 0))
  obtain⟨w1,ρ1,st1,r1,g5,K⟩:=kH g4 xK hx0 hy0 (K:=λ_ st1=>st1=⟨[(0,.aa i0 0),(1,.aa i1 0),(2,.aa i2 0),(3,.aa i3 0),(12,.int .i64 (e:Nat)),(2000000,.aa i0 0),(2000001,.aa i1 0),(2000002,.aa i2 0),(2000003,.aa i3 0)],[(i0,.var [.int .i64 0]),(i1,.var [x1]),(i2,.var [x2]),(i3,.var [x3])]⟩) (by
   simp[effSt,hget,bo,hdel,hi.jU,hi.jU.symm,hi.jV,hi.jV.symm,hi.jW,hi.jW.symm,hi.gY,hi.gY.symm,hi.jX,hi.jX.symm,hi.jY,hi.jY.symm,bV,aD,cellsOf,isCell,ev,trE,sget,show constAV (.int .i64 0)=.int .i64 0 from rfl])
  subst K;have hx1:=a6 g5 (.tmp 1);have hy1:=a6 g5 (.const (.int .i64 0))
  obtain⟨w2,ρ2,st2,r2,g6,K⟩:=kH g5 xK hx1 hy1 (K:=λ_ st1=>st1=⟨[(0,.aa i0 0),(1,.aa i1 0),(2,.aa i2 0),(3,.aa i3 0),(12,.int .i64 (e:Nat)),(2000000,.aa i0 0),(2000001,.aa i1 0),(2000002,.aa i2 0),(2000003,.aa i3 0)],[(i1,.var [.int .i64 0]),(i0,.var [.int .i64 0]),(i2,.var [x2]),(i3,.var [x3])]⟩) (by
   simp[effSt,hget,bo,hdel,hi.jU,hi.jU.symm,hi.jV,hi.jV.symm,hi.jW,hi.jW.symm,hi.gY,hi.gY.symm,hi.jX,hi.jX.symm,hi.jY,hi.jY.symm,bV,aD,cellsOf,isCell,ev,trE,sget,show constAV (.int .i64 0)=.int .i64 0 from rfl])
  subst K;have hx2:=a6 g6 (.tmp 2);have hy2:=a6 g6 (.const (.int .i64 0))
  obtain⟨w3,ρ3,st3,r3,g7,K⟩:=kH g6 xK hx2 hy2 (K:=λ_ st1=>st1=⟨[(0,.aa i0 0),(1,.aa i1 0),(2,.aa i2 0),(3,.aa i3 0),(12,.int .i64 (e:Nat)),(2000000,.aa i0 0),(2000001,.aa i1 0),(2000002,.aa i2 0),(2000003,.aa i3 0)],[(i2,.var [.int .i64 0]),(i1,.var [.int .i64 0]),(i0,.var [.int .i64 0]),(i3,.var [x3])]⟩) (by
   simp[effSt,hget,bo,hdel,hi.jU,hi.jU.symm,hi.jV,hi.jV.symm,hi.jW,hi.jW.symm,hi.gY,hi.gY.symm,hi.jX,hi.jX.symm,hi.jY,hi.jY.symm,bV,aD,cellsOf,isCell,ev,trE,sget,show constAV (.int .i64 0)=.int .i64 0 from rfl])
  subst K;have hx3:=a6 g7 (.tmp 3);have hy3:=a6 g7 (.tmp 12)
  obtain⟨w4,ρ4,st4,r4,g8,K⟩:=kH g7 Ce hx3 hy3 (K:=λ_ st1=>st1=⟨[(0,.aa i0 0),(1,.aa i1 0),(2,.aa i2 0),(3,.aa i3 0),(12,.int .i64 (e:Nat)),(2000000,.aa i0 0),(2000001,.aa i1 0),(2000002,.aa i2 0),(2000003,.aa i3 0)],[(i3,.var [.int .i64 (e:Nat)]),(i2,.var [.int .i64 0]),(i1,.var [.int .i64 0]),(i0,.var [.int .i64 0])]⟩) (by
   simp[effSt,hget,bo,hdel,hi.jU,hi.jU.symm,hi.jV,hi.jV.symm,hi.jW,hi.jW.symm,hi.gY,hi.gY.symm,hi.jX,hi.jX.symm,hi.jY,hi.jY.symm,bV,aD,cellsOf,isCell,ev,trE,sget,show constAV (.int .i64 0)=.int .i64 0 from rfl])
  subst K;exact⟨w1,w2,w3,w4,r1,r2,r3,r4,ρ4,_,g8,rfl,rfl,rfl,rfl,rfl⟩
 obtain⟨w1,w2,w3,w4,r1,r2,r3,r4,ρ2,st2,g6,e1,e2,e3,e4,e5⟩:=fin;clear g4;refine callsDIn_of_wpSIn Tryz.func204 rfl trivial λc₀ cs hu=>?_;apply wpSIn_seq;apply wpSIn_region;simp[wpOpsSIn,go_sem,recoverD,hu,bC,ez,Tryz.ntmps204,Exit.thenS,FL];refine wpSIn_of_wpIn rfl ?_;refine wpIn_seq ?_;refine wpIn_region ?_;simp[wpOpsIn,Oper.wpIn,Oper.uponIn,Oper.semAt_none,go_sem,Region.wanted,Exit.then]
 refine wpIn_cond_true (by simp[Act.eval,Array.replicate]) ?_;refine Eq.mpr (congrArg (λa=>Code.wpIn Fence.wide 0 Tryz.prog _ _ a w) (a₂:=((((((((({tmps:=#[v0,v1,v2,v3]++Array.replicate (Tryz.f204.ntmps-#[v0,v1,v2,v3].size) undef,defers:=[]}:Act).put (some 7) (ez e)).put (some 8) (.tuple #[.int .i64 (e:Nat),.bool true])).put (some 6) (.tuple #[.int .i64 (e:Nat),.bool true])).put (some 9) (.int .i64 (e:Nat))).put (some 10) (.bool true)).put (some 4) (.int .i64 (e:Nat))).put (some 5) (.bool true)).put (some 11) (.bool true))) ?_) ?_
 ·simp[Act.put,hnt,ez]
 refine wpIn_region_list (wpListIn_plain rfl (λnext hnext=>⟨λ_ _=>trivial,?_⟩))
 refine FI (v:=.int .i64 (e:Nat)) (w':=w) (by simp[execOp,Act.eval,Act.put,hnt]) (hnext _ _ ?_);refine wpListIn_plain rfl (λnext hnext=>⟨λ_ _=>trivial,?_⟩)
 rw[hac];refine o5 (w':=w1) (by simp[execOp,r1]) (hnext _ _ ?_);refine wpListIn_plain rfl (λnext hnext=>⟨λ_ _=>trivial,?_⟩)
 refine o5 (w':=w2) (by simp only[Act.put];simp[execOp,r2]) (hnext _ _ ?_);refine wpListIn_plain rfl (λnext hnext=>⟨λ_ _=>trivial,?_⟩)
 refine o5 (w':=w3) (by simp only[Act.put];simp[execOp,r3]) (hnext _ _ ?_);refine wpListIn_plain rfl (λnext hnext=>⟨λ_ _=>trivial,?_⟩)
 refine o5 (w':=w4) (by simp only[Act.put];simp[execOp,r4]) (hnext _ _ ?_);refine⟨had,_,rfl,.tuple #[],by simp[results,Tryz.results204],⟨_,rfl⟩,rfl,ρ2,?_,?_,g6.ai.os,g6.ai.tape,g6.ai.output,g6.ai.size,g6.ai.block,?_⟩
 ·have:=g6.heap;rw[e1]at this;exact this
 ·intro j v x h1 h2;have hj:j<4:=(List.getElem?_eq_some_iff.1 h2).1
  have hgv:∀k,2000000<=k->aP E0 ac k=E0.gv k:=λk hk=>by
   unfold aP;rw[if_neg (by show ¬k<Tryz.f204.ntmps;rw[hnt];omega)]
  obtain rfl | rfl | rfl | rfl:j=0\/j=1\/j=2\/j=3:=acB
  ·obtain rfl:v0=v:=by simpa using h1
   obtain rfl:AV.aa i0 0=x:=by simpa using h2
   have hr:=(g6.aM _ _ e2).2;rw[hgv _ (acG _),e1]at hr;exact hr
  ·obtain rfl:v1=v:=by simpa using h1
   obtain rfl:AV.aa i1 0=x:=by simpa using h2
   have hr:=(g6.aM _ _ e3).2;rw[hgv _ (by decide),e1]at hr;exact hr
  ·obtain rfl:v2=v:=by simpa using h1
   obtain rfl:AV.aa i2 0=x:=by simpa using h2
   have hr:=(g6.aM _ _ e4).2;rw[hgv _ (by decide),e1]at hr;exact hr
  ·obtain rfl:v3=v:=by simpa using h1
   obtain rfl:AV.aa i3 0=x:=by simpa using h2
   have hr:=(g6.aM _ _ e5).2;rw[hgv _ (by decide),e1]at hr;exact hr
 ·rintro b ⟨id,W,L,h1,h2,h3⟩;rw[<-e1]at h1;exact g6.base id W L b h1 h2 h3
open Eng
set_option maxRecDepth 10000
abbrev Bs:=List UInt8
theorem BN {t:TypeId} {n:Int} {e:Nat} {st:St} (ht:t=267:=by rfl) (hn:n=(e:Nat):=by rfl):(KQ.dies (ez e)).ap (.panic (bC (.iface t (.int .i64 n)))) st:=by
 subst ht hn;exact of_eq_true lW
theorem Ad {x n:Nat} (hx:x<1000000) (hn:n<=10):bits .and .i64 (x:Int) ((2^n-1:Nat):Int)=((x%2^n:Nat):Int):=by
 have hp:2^n<=2^10:=acQ (by decide) hn;have hp1:0<2^n:=aeC (by decide);have:=adV x hp1
 show IntKind.i64.wrap ((BitVec.ofInt 64 (x:Int) &&& BitVec.ofInt 64 ((2^n-1:Nat):Int)).toNat:Int)=_
 rw[acM,acM,adZ,acP,acP,acL acB,acL acB,ado];exact gq acB
theorem yv {x k c:Nat} (hx:x<2^k) (hk:k<=32) (hc:c<256):bits .or .i64 (x:Int) (IntKind.i64.wrap ((c:Int)*2^min k 64))=((x+c*2^k:Nat):Int):=by
 have hp:2^k<=2^32:=acQ (by decide) hk;have h2:c*2^k<=255*2^32:=aeA acB hp
 have e:IntKind.i64.wrap ((c:Int)*2^min k 64)=((c*2^k:Nat):Int):=by
  rw[ac1 acB,show((c:Int)*2^k)=((c*2^k:Nat):Int)by push_cast;rfl];exact gq acB
 rw[e]
 show IntKind.i64.wrap ((BitVec.ofInt 64 (x:Int) ||| BitVec.ofInt 64 ((c*2^k:Nat):Int)).toNat:Int)=_
 rw[acM,acM,adR,acP,acP,acL acB,acL acB,afn,<-adj,<-adb hx,adj,aeu];exact gq acB
def dm (d:Bs) (p:Nat):HP:=[(258010,.var [.str d,.int .i64 p])]
theorem ij {p:Prop} (h:p:=by simp(disch:=first | omega | (simp only[Lx];omega))only[go_sem,simprocAttr,dm]):p:=h
theorem vC {a b:Prop} (k:b) (h:b->a:=by intro h;simp(disch:=first | omega | (simp only[Lx];omega))only[go_sem,simprocAttr,dm];exact h):a:=h k
theorem po {E0:Prop} {a b:Prop} (e0:E0) (k:b) (h:E0->b->a:=by intro e0 h;simp(disch:=first | omega | (simp only[Lx];omega))only[go_sem,simprocAttr,dm,e0];exact h):a:=h e0 k
theorem abq {E0 E1:Prop} {a b:Prop} (e0:E0) (e1:E1) (k:b) (h:E0->E1->b->a:=by intro e0 e1 h;simp(disch:=first | omega | (simp only[Lx];omega))only[go_sem,simprocAttr,dm,e0,e1];exact h):a:=h e0 e1 k
theorem Ml (d:Bs) (p:Nat) (hd:d.length<=1000000) (h:p<d.length):Eng.Spec Tryz.prog 186 (dm d p) [.aa 258010 0] (λh' v ar=>h'=dm d (p+1)/\v=.int .i64 ((d.getD p 0).toNat:Nat)/\ar=[.aa 258010 0]):=by
 refine Cod.BC (λE R hN hR=>?_);have hu:=(d.getD p 0).toNat_lt;have e1:((p:Int)+1-1).toNat=p:=acB;have hi:¬(p:Int)=(d.length:Int):=acB;refine abq e1 hi ?_;exact hR.le ij ⟨rfl,rfl,rfl⟩
theorem Mk (d:Bs) (p:Nat) (hd:d.length<=1000000) (h:p=d.length):Eng.eA Tryz.prog 186 (dm d p) [.aa 258010 0] (ez 6):=by
 refine Cod.BB (λE hN=>?_);have hi:(p:Int)=(d.length:Int):=acB;refine po hi ?_;exact BN
def dE (d:Bs) (p:Nat):HP:=[(259041,.var [.str d,.int .i64 p])]
theorem ig {p:Prop} (h:p:=by simp(disch:=first | omega | (simp only[Lx];omega))only[go_sem,simprocAttr,dE]):p:=h
theorem zB {a b:Prop} (k:b) (h:b->a:=by intro h;simp(disch:=first | omega | (simp only[Lx];omega))only[go_sem,simprocAttr,dE];exact h):a:=h k
theorem vB {E0:Prop} {a b:Prop} (e0:E0) (k:b) (h:E0->b->a:=by intro e0 h;simp(disch:=first | omega | (simp only[Lx];omega))only[go_sem,simprocAttr,dE,e0];exact h):a:=h e0 k
theorem O3 {E0:Prop} {a b:Prop} (e0:E0) (k:b) (h:E0->b->a:=by intro e0 h;(repeat(first | (with_reducible refine eJ ?_) | (with_reducible refine eH ?_) | (with_reducible refine eI ?_))<;>simp(disch:=first | omega | (simp only[Lx];omega))only[go_sem,simprocAttr,dE,e0]);exact h):a:=h e0 k
theorem zC {E0 E1:Prop} {a b:Prop} (e0:E0) (e1:E1) (k:b) (h:E0->E1->b->a:=by intro e0 e1 h;simp(disch:=first | omega | (simp only[Lx];omega))only[go_sem,simprocAttr,dE,e0,e1];exact h):a:=h e0 e1 k
theorem CJ {E0 E1:Prop} {a b:Prop} (e0:E0) (e1:E1) (k:b) (h:E0->E1->b->a:=by intro e0 e1 h;(repeat(first | (with_reducible refine eJ ?_) | (with_reducible refine eH ?_) | (with_reducible refine eI ?_))<;>simp(disch:=first | omega | (simp only[Lx];omega))only[go_sem,simprocAttr,dE,e0,e1]);exact h):a:=h e0 e1 k
theorem rP {E0 E1 E2:Prop} {a b:Prop} (e0:E0) (e1:E1) (e2:E2) (k:b) (h:E0->E1->E2->b->a:=by intro e0 e1 e2 h;simp(disch:=first | omega | (simp only[Lx];omega))only[go_sem,simprocAttr,dE,e0,e1,e2];exact h):a:=h e0 e1 e2 k
theorem BA (d:Bs) (p:Nat) (hd:d.length<=1000000) (h:p<d.length):Eng.Spec Tryz.prog 186 (dE d p) [.aa 259041 0] (λh' v ar=>h'=dE d (p+1)/\v=.int .i64 ((d.getD p 0).toNat:Nat)/\ar=[.aa 259041 0]):=by
 refine Cod.BC (λE R hN hR=>?_);have hu:=(d.getD p 0).toNat_lt;have e1:((p:Int)+1-1).toNat=p:=acB;have hi:¬(p:Int)=(d.length:Int):=acB;refine zC e1 hi ?_;exact hR.le ig ⟨rfl,rfl,rfl⟩
theorem Mj (d:Bs) (p:Nat) (hd:d.length<=1000000) (h:p=d.length):Eng.eA Tryz.prog 186 (dE d p) [.aa 259041 0] (ez 6):=by
 refine Cod.BB (λE hN=>?_);have hi:(p:Int)=(d.length:Int):=acB;refine vB hi ?_;exact BN
def sizeR (d:Bs):Nat->Nat->Nat->Nat->Nat×Nat×Nat
 | 0,p,_,_=>if d.length<=p then(0,0,6)else(0,0,3)
 | m+1,p,n,sh=>if d.length<=p then(0,0,6)else if(d.getD p 0).toNat<128 then(n+(d.getD p 0).toNat%128*2^sh,p+1,0)else sizeR d m (p+1) (n+(d.getD p 0).toNat%128*2^sh) (sh+7)
def ct (d:Bs) (p:Nat):Nat×Nat×Nat:=sizeR d 5 p 0 0
theorem F9 (d:Bs):∀(m p n sh:Nat),n<2^sh->(sizeR d m p n sh).2.2=0->(sizeR d m p n sh).2.1<=d.length/\p<(sizeR d m p n sh).2.1/\(sizeR d m p n sh).1<2^(sh+7*m)
 | 0,p,n,sh=>by
  intro _;unfold sizeR
  split<;>intro h<;>cases h
 | m+1,p,n,sh=>by
  intro hn
  have h2:n+(d.getD p 0).toNat%128*2^sh<2^(sh+7):=by
   have h1:(d.getD p 0).toNat%128<=127:=acB;have h2:(d.getD p 0).toNat%128*2^sh<=127*2^sh:=ac4 _ h1;rw[ad9];omega
  unfold sizeR;split
  ·intro h;cases h
  ·split
   ·intro _;exact⟨by simp only;omega,by simp only;omega,acR h2 (acQ (by decide) acB)⟩
   ·intro h;obtain⟨a,b,c⟩:=F9 d m _ _ _ h2 h;exact⟨a,acB,by rwa[show sh+7+7*m=sh+7*(m+1)by omega]at c⟩
theorem u5 (d:Bs) (p:Nat) (h:(ct d p).2.2=0):(ct d p).2.1<=d.length/\p<(ct d p).2.1/\(ct d p).1<34359738368:=by
 have:=F9 d 5 p 0 0 (by decide) h
 rwa[show(2:Nat)^(0+7*5)=34359738368 by decide]at this
set_option maxHeartbeats 1000000 in
theorem BW (d:Bs) (p:Nat) (hd:d.length<=1000000) (hp:p<=d.length) {E:Env} (hN:E.N<=1000000) (Q:KQ)
    (hret:(ct d p).2.2=0->Q.ap .ret ⟨[(2,.int .i64 ((ct d p).1:Nat)),(2000000,.aa 258010 0)],dm d (ct d p).2.1⟩)
    (hdie:∀st,(ct d p).2.2≠0->Q.ap (.panic (bC (ez (ct d p).2.2))) st) :
    vcW Tryz.prog E Cod.MX Q ⟨[(0,.aa 258010 0),(2000000,.aa 258010 0)],dm d p⟩:=by
 generalize hH:ct d p=H at *
 unfold ct at hH;refine vC ?_
 refine aJ hN (λq:Nat×Nat×Nat=>⟨[(0,.aa 258010 0),(2,.int .i64 0),(3,.int .i64 q.2.2),(4,.int .i64 (7*(5-q.1):Nat)),(2000000,.aa 258010 0)],dm d q.2.1⟩)
  (λq=>q.1<=5/\q.2.1<=d.length/\q.2.2<2^(7*(5-q.1))/\sizeR d q.1 q.2.1 q.2.2 (7*(5-q.1))=H) (λq=>q.1) (5,p,0) (.le ij) ⟨by simp,hp,by simp,hH⟩ ?_
 clear hH;rintro⟨m,p2,n⟩ R1 ⟨hm,hp2,hn,hH⟩ hR1;simp only at hm hp2 hn hH;generalize hshe:7*(5-m)=sh at *
 by_cases hend:d.length<=p2
 ·have hR0:sizeR d m p2 n sh=(0,0,6):=by cases m with | zero=>exact if_pos hend | succ m=>exact if_pos hend
  rw[hR0]at hH;subst hH;refine po hshe ?_;refine fk (dm d p2) (Mk d p2 hd acB) ij ?_;exact hdie _ (by decide)
 ·have hby:=Ml d p2 hd acB;have hu:=(d.getD p2 0).toNat_lt
  cases m with
  | zero=>
   have hR0:sizeR d 0 p2 n sh=(0,0,3):=if_neg hend;rw[hR0]at hH;subst hH;refine po hshe ?_;refine eD ?_;refine aN (dm d p2) hby ij nofun ?_;rintro h' v ar ⟨rfl,rfl,rfl⟩;refine⟨ij,rfl,?_⟩;have hgt:(28:Int)<(sh:Int):=acB;refine aV hgt hshe ?_
   exact hdie _ (by decide)
  | succ m=>
   have hR0:sizeR d (m+1) p2 n sh=if(d.getD p2 0).toNat<128 then(n+(d.getD p2 0).toNat%128*2^sh,p2+1,0)else sizeR d m (p2+1) (n+(d.getD p2 0).toNat%128*2^sh) (sh+7):=if_neg hend
   rw[hR0]at hH;generalize (d.getD p2 0).toNat=x at *
   have hk:bits .and .i64 (x:Int) 127=((x%128:Nat):Int):=Ad (n:=7) acB (by decide);have ho:=yv (x:=n) (k:=sh) (c:=x%128) hn acB acB
   have hn2:n+x%128*2^sh<2^(sh+7):=by
    have h1:x%128<=127:=acB;have h2:x%128*2^sh<=127*2^sh:=ac4 _ h1;rw[ad9];omega
   have hgt:¬(28:Int)<(sh:Int):=acB;have hs7:sh+7=7*(5-m):=acB
   have au:n+x%128*2^sh<34359738368:=by
    have:2^(sh+7)<=2^35:=acQ (by decide) acB;omega
   refine po hshe ?_;refine eD ?_;refine aN (dm d p2) hby ij nofun ?_;rintro h' v ar ⟨rfl,rfl,rfl⟩;refine⟨ij,rfl,?_⟩;refine cW hgt hshe hk ho ?_;by_cases hx:x<128
   ·rw[if_pos hx]at hH;subst hH;have hret:=hret rfl;simp only[dm,Int.natCast_add,Int.natCast_one]at hret;have hi:(x:Int)<128:=acB;refine po hi ?_;exact hret
   ·rw[if_neg hx]at hH;rw[hs7]at hH hn2;have hi:¬(x:Int)<128:=acB;refine po hi ?_;exact hR1 (m,p2+1,n+x%128*2^sh) _ (by simp only;omega) ⟨by simp only;omega,by simp only;omega,hn2,hH⟩ (.le (by simp(disch:=omega)only[go_sem,simprocAttr,dm,<-hs7]))
theorem BX (d:Bs) (p:Nat) (hd:d.length<=1000000) (hp:p<=d.length) (he:(ct d p).2.2=0):Eng.Spec Tryz.prog 205 (dm d p) [.aa 258010 0]
    (λh' v ar=>h'=dm d (ct d p).2.1/\v=.int .i64 ((ct d p).1:Nat)/\ar=[.aa 258010 0]):=by
 refine Cod.MZ (λE R hN hR=>?_);refine BW d p hd hp hN _ (λ_=>?_) (λst h=>absurd he h);refine vC ?_;exact hR.le ij ⟨rfl,rfl,rfl⟩
theorem BV (d:Bs) (p:Nat) (hd:d.length<=1000000) (hp:p<=d.length) (he:(ct d p).2.2≠0):Eng.eA Tryz.prog 205 (dm d p) [.aa 258010 0] (ez (ct d p).2.2):=by
 refine Cod.MY (λE hN=>?_);exact BW d p hd hp hN _ (λh=>absurd h he) (λst _=>of_eq_true lW)
def cpR (d:Bs) (c p:Nat):Nat->Option (Nat×Nat×Nat)
 | 0=>some (p,0,0)
 | i+1=>match cpR d c p i with
  | none=>none
  | some (q,o,n)=>if c/2^i%2=0 then some (q,o,n)else if d.length<=q then none else if i<4 then some (q+1,o+(d.getD q 0).toNat*2^(8*i),n)else some (q+1,o,n+(d.getD q 0).toNat*2^(8*(i-4)))
def jk (d:Bs) (c p:Nat):Option (Nat×Nat×Nat):=(cpR d c p 7).map λx=>(x.1,x.2.1,if x.2.2=0 then 65536 else x.2.2)
theorem Bq {d:Bs} {c p:Nat}:∀{m i:Nat},i<=m->cpR d c p i=none->cpR d c p m=none
 | 0,i,h,h1=>by
  obtain rfl:i=0:=acB
  exact h1
 | m+1,i,h,h1=>by
  by_cases hi:i=m+1
  ·subst hi;exact h1
  ·unfold cpR;rw[Bq (by omega:i<=m) h1]
theorem wL {d:Bs} {c p:Nat} (hp:p<=d.length):∀{i:Nat} {x:Nat×Nat×Nat},i<=7->cpR d c p i=some x->x.1<=d.length/\p<=x.1/\x.2.1<2^(8*min i 4)/\x.2.2<2^(8*(i-4))
 | 0,x,_,h=>by
  unfold cpR at h;cases h
  exact⟨hp,acG _,by simp,by simp⟩
 | i+1,x,hi,h=>by
  unfold cpR at h
  cases h1:cpR d c p i with
  | none=>rw[h1]at h;cases h
  | some y=>
   obtain⟨a,a',b,e⟩:=wL hp acB h1;obtain⟨q,o,n⟩:=y;rw[h1]at h;simp only at h a a' b e;have hx:=(d.getD q 0).toNat_lt;generalize (d.getD q 0).toNat=z at *
   have up1:2^(8*min i 4)<=2^(8*min (i+1) 4):=acQ (by decide) acB;have up2:2^(8*(i-4))<=2^(8*(i+1-4)):=acQ (by decide) acB;split at h
   ·cases h;exact⟨a,a',by simp only;omega,by simp only;omega⟩
   ·split at h
    ·cases h
    ·split at h
     ·cases h;refine⟨by simp only;omega,by simp only;omega,?_,by simp only;omega⟩;have e1:8*min (i+1) 4=8*i+8:=acB;have e2:8*min i 4=8*i:=acB;rw[e2]at b;simp only;rw[e1,ad9];have:z*2^(8*i)<=255*2^(8*i):=ac4 _ acB;omega
     ·cases h;refine⟨by simp only;omega,by simp only;omega,by simp only;omega,?_⟩;have e1:8*(i+1-4)=8*(i-4)+8:=acB;simp only;rw[e1,ad9];have:z*2^(8*(i-4))<=255*2^(8*(i-4)):=ac4 _ acB;omega
theorem Y1 {c i:Nat} (hi:i<=7):((c:Nat):Int).fdiv (2^min i 64)=((c/2^i:Nat):Int):=by
 rw[ac1 acB,ac6 _ (ael (by decide))]
 push_cast
 rfl
set_option maxHeartbeats 1000000 in
theorem BE (d:Bs) (c p:Nat) (hd:d.length<=1000000) (hp:p<=d.length) (hc:c<256) {E:Env} (hN:E.N<=1000000) (Q:KQ)
    (hret:∀x,jk d c p=some x->Q.ap .ret ⟨[(4,.int .i64 (x.2.1:Nat)),(5,.int .i64 (x.2.2:Nat)),(2000000,.aa 259041 0),(2000001,.int .i64 c)],dE d x.1⟩)
    (hdie:∀st,jk d c p=none->Q.ap (.panic (bC (ez 6))) st) :
    vcW Tryz.prog E Cod.Mm Q ⟨[(0,.aa 259041 0),(1,.int .i64 c),(2000000,.aa 259041 0),(2000001,.int .i64 c)],dE d p⟩:=by
 refine zB ?_
 refine aJ hN (λq:Nat×(Nat×Nat×Nat)=>⟨[(0,.aa 259041 0),(1,.int .i64 c),(4,.int .i64 0),(5,.int .i64 0),(6,.int .i64 q.2.2.1),(7,.int .i64 q.2.2.2),(10,.int .i64 q.1),(2000000,.aa 259041 0),(2000001,.int .i64 c)],dE d q.2.1⟩)
  (λq=>q.1<=7/\cpR d c p q.1=some q.2) (λq=>7-q.1) (0,p,0,0) (.le ig) ⟨by simp,rfl⟩ ?_
 rintro⟨i,q,o,n⟩ R1 ⟨hi,hcp⟩ hR1;simp only at hi hcp;obtain⟨ha,ha',hb,he⟩:=wL hp hi hcp;simp only at ha ha' hb he;have hob:o<4294967296:=acR hb (acQ (n:=2) (j:=32) (by decide) acB);have hnb:n<16777216:=acR he (acQ (n:=2) (j:=24) (by decide) acB);by_cases hlt:i<7
 ·have hsh:=Y1 (c:=c) (i:=i) acB;have hcl:c/2^i<1000000:=aeK (Nat.div_le_self ..) acB;have han:bits .and .i64 ((c/2^i:Nat):Int) 1=((c/2^i%2:Nat):Int):=Ad (n:=1) hcl (by decide)
  have hst:cpR d c p (i+1)=if c/2^i%2=0 then some (q,o,n)else if d.length<=q then none else if i<4 then some (q+1,o+(d.getD q 0).toNat*2^(8*i),n)else some (q+1,o,n+(d.getD q 0).toNat*2^(8*(i-4))):=by
   rw[cpR,hcp]
  generalize hbit:c/2^i%2=bt at *
  by_cases h0:bt=0
  ·have hz:((bt:Nat):Int)=0:=acB;rw[if_pos h0]at hst;refine rP hsh han hz ?_;exact hR1 (i+1,q,o,n) _ (by simp only;omega) ⟨by simp only;omega,hst⟩ (.le ig)
  ·have hz:¬((bt:Nat):Int)=0:=acB;rw[if_neg h0]at hst;by_cases hend:d.length<=q
   ·rw[if_pos hend]at hst;refine rP hsh han hz ?_;refine fk (dE d q) (Mj d q hd acB) ig ?_;exact hdie _ (by unfold jk;rw[Bq (by omega:i+1<=7) hst];rfl)
   ·rw[if_neg hend]at hst;have hby:=BA d q hd acB;have hu:=(d.getD q 0).toNat_lt;generalize (d.getD q 0).toNat=x at *
    refine rP hsh han hz ?_;refine eD ?_;refine aN (dE d q) hby ig nofun ?_;rintro h' v ar ⟨rfl,rfl,rfl⟩;refine⟨ig,rfl,?_⟩;by_cases h4:i<4
    ·rw[if_pos h4]at hst;have hi4:(i:Int)<4:=acB;have e8:(8:Int)*(i:Int)=((8*i:Nat):Int):=acB;have hb8:o<2^(8*i):=by rwa[show 8*min i 4=8*i by omega]at hb
     have ho:=yv (x:=o) (k:=8*i) (c:=x) hb8 acB acB;refine rP hi4 e8 ho ?_;exact hR1 (i+1,q+1,o+x*2^(8*i),n) _ (by simp only;omega) ⟨by simp only;omega,hst⟩ (.le ig)
    ·rw[if_neg h4]at hst;have hi4:¬(i:Int)<4:=acB;have e8:(8:Int)*((i:Int)-4)=((8*(i-4):Nat):Int):=acB;have hn:=yv (x:=n) (k:=8*(i-4)) (c:=x) he acB acB;refine rP hi4 e8 hn ?_;exact hR1 (i+1,q+1,o,n+x*2^(8*(i-4))) _ (by simp only;omega) ⟨by simp only;omega,hst⟩ (.le ig)
 ·obtain rfl:i=7:=acB;have hcy:jk d c p=some (q,o,if n=0 then 65536 else n):=by unfold jk;rw[hcp];rfl
  have hret:=hret _ hcy;simp only[dE]at hret;by_cases h0:n=0
  ·rw[if_pos h0]at hret;have hz:((n:Nat):Int)=0:=acB;refine vB hz ?_;exact hret
  ·rw[if_neg h0]at hret;have hz:¬((n:Nat):Int)=0:=acB;refine vB hz ?_;exact hret
theorem Mp (d:Bs) (c p:Nat) {x:Nat×Nat×Nat} (hd:d.length<=1000000) (hp:p<=d.length) (hc:c<256) (he:jk d c p=some x):Eng.Spec Tryz.prog 187 (dE d p) [.aa 259041 0,.int .i64 c]
    (λh' v ar=>h'=dE d x.1/\v=.ab [.int .i64 (x.2.1:Nat),.int .i64 (x.2.2:Nat)]/\ar=[.aa 259041 0,.int .i64 c]):=by
 refine Cod.Mq (λE R hN hR=>?_);refine BE d c p hd hp hc hN _ (λy hy=>?_) (λst h=>by rw[he]at h;cases h);obtain rfl:=Option.some.inj (he.symm.trans hy);refine zB ?_;exact hR.le ig ⟨rfl,rfl,rfl⟩
theorem Mn (d:Bs) (c p:Nat) (hd:d.length<=1000000) (hp:p<=d.length) (hc:c<256) (he:jk d c p=none):Eng.eA Tryz.prog 187 (dE d p) [.aa 259041 0,.int .i64 c] (ez 6):=by
 refine Cod.Mo (λE hN=>?_);exact BE d c p hd hp hc hN _ (λy hy=>by rw[he]at hy;cases hy) (λst _=>of_eq_true lW)
def fy (d:Bs):Nat×Nat×Nat×Nat:=
 if(ct d 0).2.2≠0 then(0,0,0,(ct d 0).2.2)
 else if(ct d (ct d 0).2.1).2.2≠0 then(0,0,0,(ct d (ct d 0).2.1).2.2)
 else((ct d 0).1,(ct d (ct d 0).2.1).1,(ct d (ct d 0).2.1).2.1,0)
def retC4 (o p q r:Option AV) (R:HP->AV->List AV->Prop) (h:HP) (us:List AV):Prop:=
 match o,p,q,r with
 | some x,some y,some z,some u=>R h (.ab [x,y,z,u]) us
 | _,_,_,_=>False
theorem yQ {x y z u:AV} {R:HP->AV->List AV->Prop} {h:HP} {us:List AV}:retC4 (some x) (some y) (some z) (some u) R h us=R h (.ab [x,y,z,u]) us:=(rfl)
theorem xT {m t1 t2 t3 t4 n1 n2 n3 n4:Nat} {b1 b2 b3 b4:Bool} {R:HP->AV->List AV->Prop} {st:St}:(KQ.post [.cell t1 b1 n1,.cell t2 b2 n2,.cell t3 b3 n3,.cell t4 b4 n4] m R).ap .ret st=retC4 (resC st b1 n1 (sget st.s t1)) (resC st b2 n2 (sget st.s t2)) (resC st b3 n3 (sget st.s t3)) (resC st b4 n4 (sget st.s t4)) R st.h (argsAgain st 0 m):=by
 simp only[KQ.post,postQ,resOf,resAV];cases resC st b1 n1 (sget st.s t1)<;>cases resC st b2 n2 (sget st.s t2)<;>cases resC st b3 n3 (sget st.s t3)<;>cases resC st b4 n4 (sget st.s t4)<;>simp[consO,retC4]
def sH (x0 x1 x2 x3:AV):HP:=[(258002,.var [x0]),(258003,.var [x1]),(258004,.var [x2]),(258005,.var [x3])]
theorem FT {st:St} {R:HP->AV->List AV->Prop} {e:Nat} (x0 x1 x2 x3:AV) (has:fW st 1 4=[.aa 258002 0,.aa 258003 0,.aa 258004 0,.aa 258005 0]) (hsub:dz st.h (sH x0 x1 x2 x3))
    (h:(KQ.post [.cell 2 false 1,.cell 3 false 1,.cell 4 false 1,.cell 5 false 1] 1 R).ap .ret (lB st 1 4 (sH x0 x1 x2 x3) [(258005,.var [.int .i64 (e:Nat)]),(258004,.var [.int .i64 0]),(258003,.var [.int .i64 0]),(258002,.var [.int .i64 0])])) :
    (KQ.gC Tryz.prog [.cell 2 false 1,.cell 3 false 1,.cell 4 false 1,.cell 5 false 1] 1 4 204 R).ap (.panic (bC (ez e))) st:=
 xx (sH x0 x1 x2 x3) [(258005,.var [.int .i64 (e:Nat)]),(258004,.var [.int .i64 0]),(258003,.var [.int .i64 0]),(258002,.var [.int .i64 0])] has (YW e 258002 258003 258004 258005 x0 x1 x2 x3 ⟨by decide,by decide,by decide,by decide,by decide,by decide⟩) rfl hsub h
set_option maxHeartbeats 1000000 in
theorem M4 (d:Bs) (hd:d.length<=1000000):aw Tryz.prog 184 [.str d] (.ab [.int .i64 ((fy d).1:Nat),.int .i64 ((fy d).2.1:Nat),.int .i64 ((fy d).2.2.1:Nat),.int .i64 ((fy d).2.2.2:Nat)]):=by
 refine Cod.M5 YV (λE R N hN hN2 hR=>?_);unfold fy at hR;refine wW ?_;refine wQ (λE' hN'=>?_) hN2;refine wW ?_;by_cases h1:(ct d 0).2.2=0
 ·rw[if_neg (λh=>h h1)]at hR;have hk:=BX d 0 hd (ac5 _) h1;have hle:=u5 d 0 h1;generalize ct d 0=A at *
  refine eD ?_;refine aN (dm d 0) hk ij nofun ?_;rintro h' v ar ⟨rfl,rfl,rfl⟩;refine⟨ij,rfl,?_⟩;refine vC ?_;by_cases h2:(ct d A.2.1).2.2=0
  ·rw[if_neg (λh=>h h2)]at hR;have hk2:=BX d A.2.1 hd hle.1 h2;have hle2:=u5 d A.2.1 h2;generalize ct d A.2.1=B at *
   refine eD ?_;refine aN (dm d A.2.1) hk2 ij nofun ?_;rintro h' v ar ⟨rfl,rfl,rfl⟩;refine⟨ij,rfl,?_⟩;refine vC ?_;simp only at hR
   have fin:(KQ.post [.cell 2 false 1,.cell 3 false 1,.cell 4 false 1,.cell 5 false 1] 1 R).ap .ret ⟨[(2,.aa 258002 0),(3,.aa 258003 0),(4,.aa 258004 0),(5,.aa 258005 0),(2000001,.aa 258002 0),(2000002,.aa 258003 0),(2000003,.aa 258004 0),(2000004,.aa 258005 0)],
       [(258005,.var [.int .i64 0]),(258004,.var [.int .i64 B.2.1]),(258003,.var [.int .i64 B.1]),(258002,.var [.int .i64 A.1]),(258010,.var [.str d,.int .i64 B.2.1])]⟩:=by
    refine aV @xT @yQ ?_;exact hR.ro ⟨rfl,rfl⟩
   repeat' apply And.intro
   all_goals exact fin
  ·rw[if_pos h2]at hR;simp only at hR;have hdd:=BV d A.2.1 hd hle.1 h2;refine fk (dm d A.2.1) hdd ij ?_;refine FT (.int .i64 0) (.int .i64 0) (.int .i64 0) (.int .i64 0) ?_ ?_ ?_
   all_goals simp(disch:=omega)only[go_sem,simprocAttr,nT,dm,sH,xT,yQ]
   exact hR.ro ⟨rfl,rfl⟩
 ·rw[if_pos h1]at hR;simp only at hR;have hdd:=BV d 0 hd (ac5 _) h1;refine fk (dm d 0) hdd ij ?_;refine FT (.int .i64 0) (.int .i64 0) (.int .i64 0) (.int .i64 0) ?_ ?_ ?_
  all_goals simp(disch:=omega)only[go_sem,simprocAttr,nT,dm,sH,xT,yQ]
  exact hR.ro ⟨rfl,rfl⟩
def ib (base d:Bs) (c p:Nat):Bs×Nat×Nat:=
 if c=0 then([],0,3)
 else if c<128 then(if d.length-p<c then([],0,6)else((d.drop p).take c,p+c,0))
 else match jk d c p with
  | none=>([],0,6)
  | some x=>if base.length<x.2.1+x.2.2 then([],0,3)else((base.drop x.2.1).take x.2.2,x.1,0)
def applyR (base d:Bs) (size:Nat):Nat->Nat->Bs->Bs×Nat
 | 0,_,_=>([],0)
 | m+1,p,out=>if d.length<=p then(if out.length<size then([],6)else(out,0))else
  if(ib base d (d.getD p 0).toNat (p+1)).2.2≠0 then([],(ib base d (d.getD p 0).toNat (p+1)).2.2)else
  if size-out.length<(ib base d (d.getD p 0).toNat (p+1)).1.length then([],3)else
  applyR base d size m (ib base d (d.getD p 0).toNat (p+1)).2.1 (out++(ib base d (d.getD p 0).toNat (p+1)).1)
def kz (base d:Bs) (most:Nat):Bs×Nat:=
 if(fy d).2.2.2≠0 then([],(fy d).2.2.2)
 else if(fy d).1≠base.length then([],4)
 else if most<(fy d).2.1 then([],2)
 else applyR base d (fy d).2.1 (d.length+1) (fy d).2.2.1 []
theorem Y5 (d:Bs):(fy d).2.2.1<=d.length/\(fy d).1<34359738368/\(fy d).2.1<34359738368:=by
 unfold fy;split
 ·simp
 ·rename_i h;have h1:=u5 d 0 (by simpa using h);split
  ·simp
  ·rename_i h2;have h2:=u5 d (ct d 0).2.1 (by simpa using h2);exact⟨h2.1,h1.2.2,h2.2.2⟩
theorem Wo (base d:Bs) (c p:Nat) (hp:p<=d.length) (h:(ib base d c p).2.2=0):p<=(ib base d c p).2.1/\(ib base d c p).2.1<=d.length/\(ib base d c p).1.length<=base.length+d.length:=by
 unfold ib at h |-;split at h
 ·cases h
 ·rename_i h0;rw[if_neg h0];split at h
  ·rename_i h1;rw[if_pos h1];split at h
   ·cases h
   ·rename_i h2;rw[if_neg h2];simp only[acJ,acK];omega
  ·rename_i h1;rw[if_neg h1]
   cases hc:jk d c p with
   | none=>rw[hc]at h;cases h
   | some x=>
    rw[hc]at h;simp only at h |-
    have hx:x.1<=d.length/\p<=x.1:=by
     unfold jk at hc
     cases h7:cpR d c p 7 with
     | none=>rw[h7]at hc;cases hc
     | some y=>
      rw[h7]at hc;have:=wL hp (acG 7) h7;cases hc;exact⟨this.1,this.2.1⟩
    split at h
    ·cases h
    ·rename_i h2;rw[if_neg h2];simp only[acJ,acK];omega
def aH (x0 x1:AV):HP:=[(259006,.var [x0]),(259007,.var [x1])]
theorem HJ {st:St} {R:HP->AV->List AV->Prop} {e:Nat} (x0 x1:AV) (has:fW st 3 2=[.aa 259006 0,.aa 259007 0]) (hsub:dz st.h (aH x0 x1))
    (h:(KQ.post [.cell 6 false 1,.cell 7 false 1] 3 R).ap .ret (lB st 3 2 (aH x0 x1) [(259007,.var [.int .i64 (e:Nat)]),(259006,.var [.str []])])) :
    (KQ.gC Tryz.prog [.cell 6 false 1,.cell 7 false 1] 3 2 185 R).ap (.panic (bC (ez e))) st:=
 xx (aH x0 x1) [(259007,.var [.int .i64 (e:Nat)]),(259006,.var [.str []])] has (HY e 259006 259007 x0 x1 (by decide)) rfl hsub h
set_option maxHeartbeats 1000000 in
theorem Mh (base d:Bs) (most:Nat) (hb:base.length<=1000000) (hd:d.length<=1000000) (hm:most<=1000000):aw Tryz.prog 165 [.str base,.str d,.int .i64 most] (.ab [.str (kz base d most).1,.int .i64 ((kz base d most).2:Nat)]):=by
 refine Cod.Mi HX (λE R N hN hN2 hR=>?_);unfold kz at hR;have au:=M4 d hd;have hzl:=Y5 d;generalize fy d=Z at *
 obtain⟨fr,size,at_,e⟩:=Z;simp only at au hzl hR;refine wW ?_;refine aj au rfl rfl ?_;by_cases he:e=0;rotate_left
 ·rw[if_pos he]at hR;have i1:¬(e:Int)=0:=acB;refine ah i1 ?_;refine⟨?_,?_⟩<;>exact hR.ro ⟨rfl,rfl⟩
 rw[if_neg (λh=>h he)]at hR;subst he;by_cases hf:fr=base.length;rotate_left
 ·rw[if_pos hf]at hR;have i1:¬(fr:Int)=(base.length:Int):=acB;refine ah i1 ?_;exact hR.ro ⟨rfl,rfl⟩
 rw[if_neg (λh=>h hf)]at hR;subst hf;by_cases hs:most<size
 ·rw[if_pos hs]at hR;have i1:(most:Int)<(size:Int):=acB;refine ah i1 ?_;exact hR.ro ⟨rfl,rfl⟩
 rw[if_neg hs]at hR;have i1:¬(most:Int)<(size:Int):=acB;refine ah i1 ?_;refine wQ (λE' hN'=>?_) hN2;refine wW ?_;generalize hRES:applyR base d size (d.length+1) at_ []=RES at *
 refine aJ hN' (λq:Nat×Nat×Bs=>⟨[(0,.str base),(1,.str d),(6,.aa 259006 0),(7,.aa 259007 0),(9,.int .i64 size),(11,.aa 259041 0),(12,.sl 259119 0 q.2.2.length),(2000003,.aa 259006 0),(2000004,.aa 259007 0)],
     [(259006,.var [.str []]),(259007,.var [.int .i64 0]),(259041,.var [.str d,.int .i64 q.2.1]),(259119,.arr 1 (q.2.2.map ub))]⟩)
  (λq=>d.length<q.2.1+q.1/\q.2.1<=d.length/\q.2.2.length<=size/\applyR base d size q.1 q.2.1 q.2.2=RES) (λq=>q.1) (d.length+1,at_,[]) (.nil 12 259119 1 rfl (.le vV)) ⟨acB,hzl.1,ac5 _,hRES⟩ ?_
 clear hRES;rintro⟨m,p,out⟩ R1 ⟨hm1,hp,hol,hA⟩ hR1;simp only at hm1 hp hol hA;obtain⟨m,rfl⟩:∃k,m=k+1:=⟨m-1,acB⟩;unfold applyR at hA;by_cases hend:d.length<=p
 ·rw[if_pos hend]at hA;have i2:¬(p:Int)<(d.length:Int):=acB;by_cases hsh:out.length<size
  ·rw[if_pos hsh]at hA;subst hA;have i3:(out.length:Int)<(size:Int):=acB;refine aV i2 i3 ?_;exact hR.ro ⟨rfl,rfl⟩
  ·rw[if_neg hsh]at hA;subst hA;have i3:¬(out.length:Int)<(size:Int):=acB;refine aV i2 i3 ?_;exact hR.ro ⟨rfl,rfl⟩
 ·rw[if_neg hend]at hA;have i2:(p:Int)<(d.length:Int):=acB;have hby:=BA d p hd acB;have hu:=(d.getD p 0).toNat_lt;generalize (d.getD p 0).toNat=c at *
  have aL:=Wo base d c (p+1) acB;have hpe:ib base d c (p+1)=ib base d c (p+1):=rfl;generalize hG:ib base d c (p+1)=G at hA aL;clear hpe;refine ah i2 ?_;refine eD ?_;refine aN (dE d p) hby ig nofun ?_;rintro h' v ar ⟨rfl,rfl,rfl⟩;refine⟨ig,rfl,?_⟩;refine zB ?_
  refine gn (y:=Cod.Me) hN' (λ_:Unit=>⟨[(0,.str base),(1,.str d),(6,.aa 259006 0),(7,.aa 259007 0),(9,.int .i64 size),(11,.aa 259041 0),(12,.sl 259119 0 out.length),(13,.str G.1),(2000003,.aa 259006 0),(2000004,.aa 259007 0)],
   [(259006,.var [.str []]),(259007,.var [.int .i64 0]),(259041,.var [.str d,.int .i64 G.2.1]),(259119,.arr 1 (out.map ub))]⟩) (λ_=>G.2.2=0) (λR2 hR2=>?_) (λ_ he=>?_)
  ·have bad:∀e:Nat,e≠0->G.2.2=e->RES=([],e):=λe h0 h1=>by rw[if_pos (by rw[h1];exact h0),h1]at hA;exact hA.symm
   unfold ib at hG;by_cases hc0:c=0
   ·rw[if_pos hc0]at hG;subst hc0;rw[bad 3 (by decide) (by rw[<-hG])]at hR;refine wW ?_;exact hR.ro ⟨rfl,rfl⟩
   ·rw[if_neg hc0]at hG;have j0:¬(c:Int)=0:=acB;by_cases hc1:c<128
    ·rw[if_pos hc1]at hG;have j1:(c:Int)<128:=acB;by_cases hc2:d.length-(p+1)<c
     ·rw[if_pos hc2]at hG;rw[bad 6 (by decide) (by rw[<-hG])]at hR;have j2:(d.length:Int)-(p+1)<(c:Int):=acB;refine cI j0 j1 j2 ?_;exact hR.ro ⟨rfl,rfl⟩
     ·rw[if_neg hc2]at hG;have j2:¬(d.length:Int)-(p+1)<(c:Int):=acB;have e1:((p:Int)+1+(c:Int)).toNat-(p+1)=c:=acB;refine cI j0 j1 j2 ?_;exact hR2 () _ (by rw[<-hG]) (.le (by rw[<-hG];exact eY e1))
    ·rw[if_neg hc1]at hG;have j1:¬(c:Int)<128:=acB
     cases hcp:jk d c (p+1)with
     | none=>
      rw[hcp]at hG;rw[bad 6 (by decide) (by rw[<-hG])]at hR;have hdd:=Mn d c (p+1) hd acB acB hcp;refine aV j0 j1 ?_;refine fk (dE d (p+1)) hdd ig ?_;refine HJ (.str []) (.int .i64 0) ?_ ?_ ?_
      all_goals simp(disch:=omega)only[go_sem,simprocAttr,nT,dE,aH]
      exact hR.ro ⟨rfl,rfl⟩
     | some x=>
      rw[hcp]at hG;simp only at hG;have hok:=Mp d c (p+1) hd acB acB hcp;refine aV j0 j1 ?_;refine eD ?_;refine aN (dE d (p+1)) hok ig nofun ?_;rintro h' v ar ⟨rfl,rfl,rfl⟩;refine⟨ig,rfl,?_⟩;by_cases hbo:base.length<x.2.1+x.2.2
      ·rw[if_pos hbo]at hG;rw[bad 3 (by decide) (by rw[<-hG])]at hR;by_cases hn:base.length<x.2.2
       ·have j2:(base.length:Int)<(x.2.2:Int):=acB;refine vB j2 ?_;refine O3 j2 ?_;exact hR.ro ⟨rfl,rfl⟩
       ·have j2:¬(base.length:Int)<(x.2.2:Int):=acB;have j3:(base.length:Int)-(x.2.2:Int)<(x.2.1:Int):=acB;refine zC j2 j3 ?_;refine CJ j2 j3 ?_;exact hR.ro ⟨rfl,rfl⟩
      ·rw[if_neg hbo]at hG;have j2:¬(base.length:Int)<(x.2.2:Int):=acB;have j3:¬(base.length:Int)-(x.2.2:Int)<(x.2.1:Int):=acB;have e1:x.2.1+x.2.2-x.2.1=x.2.2:=acB;refine zC j2 j3 ?_;refine CJ j2 j3 ?_;exact hR2 () _ (by rw[<-hG]) (.le (by rw[<-hG];exact eY e1))
  ·have aL:=aL he;rw[if_neg (λh=>h he)]at hA;by_cases au:size-out.length<G.1.length
   ·rw[if_pos au]at hA;subst hA;have i3:(size:Int)-(out.length:Int)<(G.1.length:Int):=acB;refine ah i3 ?_;exact hR.ro ⟨rfl,rfl⟩
   ·rw[if_neg au]at hA;have i3:¬(size:Int)-(out.length:Int)<(G.1.length:Int):=acB;refine ah i3 ?_;exact hR1 (m,G.2.1,out++G.1) _ (by simp only;omega) ⟨by simp only;omega,by simp only;omega,by simp only[acD];omega,hA⟩ (.le vV)
end Go.Proofs.YtgghhaahnpbnmaaGreatDoor.Dl
