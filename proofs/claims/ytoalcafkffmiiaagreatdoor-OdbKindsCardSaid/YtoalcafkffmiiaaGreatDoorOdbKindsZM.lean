/- The proof, part 39 of 42. -/
import Derived.Test.YtoalcafkffmiiaaGreatDoorOdbKindsO
import Derived.Test.YtoalcafkffmiiaaGreatDoorProg
import Derived.KernelRfl
import Derived.Tactics
set_option linter.all false
namespace Go.Proofs.YtoalcafkffmiiaaGreatDoor.Dl
open Eng Eng.Kz
set_option maxRecDepth 100000
def dA (e:Nat):Value:=.iface 199 (.int .i64 (e:Nat))
theorem og {vs:Array Value} (h:vs.size=2):∃v0 v1,vs=#[v0,v1]:=by
 obtain⟨l⟩:=vs
 match l,h with
 | [a,b],_=>exact⟨a,b,rfl⟩
theorem yo {vs:Array Value} (h:vs.size=4):∃v0 v1 v2 v3,vs=#[v0,v1,v2,v3]:=by
 obtain⟨l⟩:=vs
 match l,h with
 | [a,b,c,d],_=>exact⟨a,b,c,d,rfl⟩
theorem BT (x:Value) (t0:TypeId) (w:World):(Instr.typeAssert (.iface 199 x) t0 199 true).run Tryz.prog w=.ok (.tuple #[x,.bool true]) w:=by
 have hu:(underlying 199).run Tryz.prog w=.ok (.int .i64) w:=by rfl
 unfold Instr.typeAssert
 simp[go_sem,hu]
theorem xY:b6 Tryz.prog 24=some 1:=by kernel_rfl
theorem amq:b6 Tryz.prog 9=some 1:=by kernel_rfl
theorem tm:b6 Tryz.prog 3=some 1:=by kernel_rfl
theorem BO {P:Program} {o:Oper} {a:Act} {w w':World} {v:Value} {next:Act→World→Prop} {Q:Exit→Act→World→Prop} (h:(execOp a.eval o).run P w=.ok (.value v) w') (hn:next (a.put o.dst v) w') :
    Oper.uponIn Fence.wide 0 P o a next Q ((o.semAt Fence.wide.round a.eval).run P w):=by
 rw[show Fence.wide.round=none from rfl,Oper.semAt_none,h]
 exact hn
theorem mn {P:Program} {o:Oper} {a:Act} {w w':World} {next:Act→World→Prop} {Q:Exit→Act→World→Prop} (h:(execOp a.eval o).run P w=.ok .skip w') (hn:next (a.put o.dst undef) w') :
    Oper.uponIn Fence.wide 0 P o a next Q ((o.semAt Fence.wide.round a.eval).run P w):=by
 rw[show Fence.wide.round=none from rfl,Oper.semAt_none,h]
 exact hn
theorem D9:jF Tryz.prog 141 2:=by
 intro vs w hvs
 obtain⟨v0,v1,rfl⟩:=og hvs
 refine callsDIn_of_wpSIn Tryz.func141 rfl trivial fun c₀ cs hu=>?_
 apply wpSIn_seq
 apply wpSIn_region
 simp[wpOpsSIn,go_sem,recoverD,hu,Tryz.ntmps141,Exit.thenS]
 refine wpSIn_of_wpIn rfl ?_
 refine wpIn_seq ?_
 refine wpIn_region ?_
 simp[wpOpsIn,Oper.wpIn,Oper.uponIn,Oper.semAt_none,go_sem,Region.wanted,Exit.then]
 refine wpIn_cond_false (by simp[Act.eval,Array.replicate]) ?_
 refine wpIn_skip ?_
 simp[bodyPostS,results,Tryz.results141]
 exact hu.symm▸rfl
theorem Ea (e:Nat) (i0 i1:Nat) (x0 x1:AV) (hi:i0≠i1) :
    mJ Tryz.prog 141 [(i0,.var [x0]),(i1,.var [x1])] [.ab i0 0,.ab i1 0] (dA e) [(i1,.var [.int .i64 (e:Nat)]),(i0,.var [.str []])]:=by
 intro X0 ρ w vs hh hA hX hvs hrv
 obtain⟨v0,v1,rfl⟩:=og hvs
 have hnt:Tryz.f141.ntmps=11:=Tryz.ntmps141
 generalize hh0:([(i0,.var [x0]),(i1,.var [x1])]:HP)=h at *
 let E0:Env:=⟨w,aV ρ h,X0,Tryz.f141.ntmps,0,fun k=>#[v0,v1].getD (k-2000000) undef,none,w.heap.size,Nat.le_refl _,[]⟩
 have g0:al E0 ρ ⟨fG [.ab i0 0,.ab i1 0],h⟩ {tmps:=#[v0,v1]++Array.replicate (Tryz.f141.ntmps-#[v0,v1].size) undef,defers:=[]} w:=nZ (B:=0) (by rw[hnt];decide) (by rw[hnt];exact(by decide:2≤11)) hh hA hX hvs hrv [] rfl
 have hE:∀d,d<11→d<E0.N:=fun d hd=>by show d<Tryz.f141.ntmps;rw[hnt];exact hd
 have g1:=(((((g0.put 5 (hE 5 (by decide)) (v:=dA e) (av:=.undef) (.undef _ _)).put 6 (hE 6 (by decide)) (v:=.tuple #[.int .i64 (e:Nat),.bool true]) (av:=.undef) (.undef _ _)).put 4 (hE 4 (by decide)) (v:=.tuple #[.int .i64 (e:Nat),.bool true]) (av:=.undef) (.undef _ _)).put 7 (hE 7 (by decide)) (v:=.int .i64 (e:Nat)) (av:=.int .i64 (e:Nat)) (.int _ _ _)).put 8 (hE 8 (by decide)) (v:=.bool true) (av:=.bool true) (.bool _ _)).put 2 (hE 2 (by decide)) (v:=.int .i64 (e:Nat)) (av:=.int .i64 (e:Nat)) (.int _ _ _)
 have g2:=g1.put 3 (hE 3 (by decide)) (v:=.bool true) (av:=.bool true) (.bool _ _)
 have g3:=g2.put 9 (hE 9 (by decide)) (v:=.bool true) (av:=.bool true) (.bool _ _)
 have g4:=g3.put 10 (hE 10 (by decide)) (v:=.int .i64 (e:Nat)) (av:=.int .i64 (e:Nat)) (.int _ _ _)
 have b3:=a8 g2 (.tmp 3)
 have b9:=a8 g3 (.tmp 9)
 have b2:=a8 g3 (.tmp 2)
 clear g0 g1 g2 g3
 generalize hac:((((((((({tmps:=#[v0,v1]++Array.replicate (Tryz.f141.ntmps-#[v0,v1].size) undef,defers:=[]}:Act).put (some 5) (dA e)).put (some 6) (.tuple #[.int .i64 (e:Nat),.bool true])).put (some 4) (.tuple #[.int .i64 (e:Nat),.bool true])).put (some 7) (.int .i64 (e:Nat))).put (some 8) (.bool true)).put (some 2) (.int .i64 (e:Nat))).put (some 3) (.bool true)).put (some 9) (.bool true)).put (some 10) (.int .i64 (e:Nat))=ac at g4
 have had:ac.defers=[]:=by rw[←hac];rfl
 have fin:∃w1 w2,(Instr.storeAt 9 (ac.eval (.tmp 0)) (ac.eval (.const (.string ⟨#[]⟩)))).run Tryz.prog w=.ok () w1∧(Instr.storeAt 24 (ac.eval (.tmp 1)) (ac.eval (.tmp 10))).run Tryz.prog w1=.ok () w2 ∧
     ∃ρ' st',al E0 ρ' st' ac w2∧st'.h=[(i1,.var [.int .i64 (e:Nat)]),(i0,.var [.str []])]∧sget st'.s 2000000=some (.ab i0 0)∧sget st'.s 2000001=some (.ab i1 0):=by
  subst hh0
  have g4:=g4.weaken (st':=⟨[(0,.ab i0 0),(1,.ab i1 0),(10,.int .i64 (e:Nat)),(2000000,.ab i0 0),(2000001,.ab i1 0)],[(i0,.var [x0]),(i1,.var [x1])]⟩) (by exact⟨rfl,rfl,rfl,rfl,rfl,trivial⟩) (by simp[c7,hget,hi,hi.symm])
  have hx0:=a8 g4 (.tmp 0)
  have hx10:=a8 g4 (.const (.string ⟨#[]⟩))
  obtain⟨w1,ρ1,st1,r1,g5,K⟩:=jc g4 amq hx0 hx10 (K:=fun _ st1=>st1=⟨[(0,.ab i0 0),(1,.ab i1 0),(10,.int .i64 (e:Nat)),(2000000,.ab i0 0),(2000001,.ab i1 0)],[(i0,.var [.str []]),(i1,.var [x1])]⟩) (by
   simp[effSt,hget,bz,hdel,hi,hi.symm,bU,aQ,cellsOf,isCell,ev,trE,sget,show constAV (.string ⟨#[]⟩)=.str []from rfl])
  subst K
  have hx1:=a8 g5 (.tmp 1)
  have hx11:=a8 g5 (.tmp 10)
  obtain⟨w2,ρ2,st2,r2,g6,K⟩:=jc g5 xY hx1 hx11 (K:=fun _ st1=>st1=⟨[(0,.ab i0 0),(1,.ab i1 0),(10,.int .i64 (e:Nat)),(2000000,.ab i0 0),(2000001,.ab i1 0)],[(i1,.var [.int .i64 (e:Nat)]),(i0,.var [.str []])]⟩) (by
   simp[effSt,hget,bz,hdel,hi,hi.symm,bU,aQ,cellsOf,isCell,ev,trE,sget])
  subst K
  exact⟨w1,w2,r1,r2,ρ2,_,g6,rfl,rfl,rfl⟩
 obtain⟨w1,w2,r1,r2,ρ2,st2,g6,e1,e2,e3⟩:=fin
 clear g4
 refine callsDIn_of_wpSIn Tryz.func141 rfl trivial fun c₀ cs hu=>?_
 apply wpSIn_seq
 apply wpSIn_region
 simp[wpOpsSIn,go_sem,recoverD,hu,bJ,dA,Tryz.ntmps141,Exit.thenS,BT]
 refine wpSIn_of_wpIn rfl ?_
 refine wpIn_seq ?_
 refine wpIn_region ?_
 simp[wpOpsIn,Oper.wpIn,Oper.uponIn,Oper.semAt_none,go_sem,Region.wanted,Exit.then]
 refine wpIn_cond_true (by simp[Act.eval,Array.replicate]) ?_
 refine Eq.mpr (congrArg (fun a=>Code.wpIn Fence.wide 0 Tryz.prog _ _ a w) (a₂:=(((((((({tmps:=#[v0,v1]++Array.replicate (Tryz.f141.ntmps-#[v0,v1].size) undef,defers:=[]}:Act).put (some 5) (dA e)).put (some 6) (.tuple #[.int .i64 (e:Nat),.bool true])).put (some 4) (.tuple #[.int .i64 (e:Nat),.bool true])).put (some 7) (.int .i64 (e:Nat))).put (some 8) (.bool true)).put (some 2) (.int .i64 (e:Nat))).put (some 3) (.bool true)).put (some 9) (.bool true)) ?_) ?_
 ·simp[Act.put,hnt,dA]
 refine wpIn_region_list (wpListIn_plain rfl (fun next hnext=>⟨fun _ _=>trivial,?_⟩))
 refine BO (v:=.int .i64 (e:Nat)) (w':=w) (by simp[execOp,Act.eval,Act.put,hnt]) (hnext _ _ ?_)
 refine wpListIn_plain rfl (fun next hnext=>⟨fun _ _=>trivial,?_⟩)
 rw[hac]
 refine mn (w':=w1) (by simp[execOp,r1]) (hnext _ _ ?_)
 refine wpListIn_plain rfl (fun next hnext=>⟨fun _ _=>trivial,?_⟩)
 refine mn (w':=w2) (by simp only[Act.put];simp[execOp,r2]) (hnext _ _ ?_)
 refine⟨had,_,rfl,.tuple #[],by simp[results,Tryz.results141],⟨_,rfl⟩,rfl,ρ2,?_,?_,g6.az.os,g6.az.tape,g6.az.output,g6.az.size,g6.az.block,?_⟩
 ·have:=g6.heap
  rw[e1]at this
  exact this
 ·intro j v x h1 h2
  have hj:j<2:=(List.getElem?_eq_some_iff.1 h2).1
  have hgv:∀k,2000000≤k→aZ E0 ac k=E0.gv k:=fun k hk=>by
   unfold aZ
   rw[if_neg (by show ¬k<Tryz.f141.ntmps;rw[hnt];omega)]
  obtain rfl | rfl:j=0∨j=1:=by omega
  ·obtain rfl:v0=v:=by simpa using h1
   obtain rfl:AV.ab i0 0=x:=by simpa using h2
   have hr:=(g6.aU _ _ e2).2
   rw[hgv _ (Nat.le_refl _),e1]at hr
   exact hr
  ·obtain rfl:v1=v:=by simpa using h1
   obtain rfl:AV.ab i1 0=x:=by simpa using h2
   have hr:=(g6.aU _ _ e3).2
   rw[hgv _ (Nat.le_succ _),e1]at hr
   exact hr
 ·rintro b ⟨id,W,L,h1,h2,h3⟩
  rw[←e1]at h1
  exact g6.base id W L b h1 h2 h3
theorem ajX:jF Tryz.prog 191 4:=by
 intro vs w hvs
 obtain⟨v0,v1,v2,v3,rfl⟩:=yo hvs
 refine callsDIn_of_wpSIn Tryz.func191 rfl trivial fun c₀ cs hu=>?_
 apply wpSIn_seq
 apply wpSIn_region
 simp[wpOpsSIn,go_sem,recoverD,hu,Tryz.ntmps191,Exit.thenS]
 refine wpSIn_of_wpIn rfl ?_
 refine wpIn_seq ?_
 refine wpIn_region ?_
 simp[wpOpsIn,Oper.wpIn,Oper.uponIn,Oper.semAt_none,go_sem,Region.wanted,Exit.then]
 refine wpIn_cond_false (by simp[Act.eval,Array.replicate]) ?_
 refine wpIn_skip ?_
 simp[bodyPostS,results,Tryz.results191]
 exact hu.symm▸rfl
structure Dk (i0 i1 i2 i3:Nat):Prop where
 iC:i0≠i1
 iD:i0≠i2
 iE:i0≠i3
 fu:i1≠i2
 iG:i1≠i3
 iH:i2≠i3
set_option maxHeartbeats 2000000 in
theorem ajY (e:Nat) (i0 i1 i2 i3:Nat) (x0 x1 x2 x3:AV) (hi:Dk i0 i1 i2 i3) :
    mJ Tryz.prog 191 [(i0,.var [x0]),(i1,.var [x1]),(i2,.var [x2]),(i3,.var [x3])] [.ab i0 0,.ab i1 0,.ab i2 0,.ab i3 0] (dA e) [(i3,.var [.int .i64 (e:Nat)]),(i2,.var [.int .i64 0]),(i1,.var [.int .i64 0]),(i0,.var [.int .i64 0])]:=by
 intro X0 ρ w vs hh hA hX hvs hrv
 obtain⟨v0,v1,v2,v3,rfl⟩:=yo hvs
 have hnt:Tryz.f191.ntmps=13:=Tryz.ntmps191
 generalize hh0:([(i0,.var [x0]),(i1,.var [x1]),(i2,.var [x2]),(i3,.var [x3])]:HP)=h at *
 let E0:Env:=⟨w,aV ρ h,X0,Tryz.f191.ntmps,0,fun k=>#[v0,v1,v2,v3].getD (k-2000000) undef,none,w.heap.size,Nat.le_refl _,[]⟩
 have g0:al E0 ρ ⟨fG [.ab i0 0,.ab i1 0,.ab i2 0,.ab i3 0],h⟩ {tmps:=#[v0,v1,v2,v3]++Array.replicate (Tryz.f191.ntmps-#[v0,v1,v2,v3].size) undef,defers:=[]} w:=nZ (B:=0) (by rw[hnt];decide) (by rw[hnt];exact(by decide:4≤13)) hh hA hX hvs hrv [] rfl
 have hE:∀d,d<13→d<E0.N:=fun d hd=>by show d<Tryz.f191.ntmps;rw[hnt];exact hd
 have g1:=((((((g0.put 7 (hE 7 (by decide)) (v:=(dA e)) (av:=.undef) (.undef _ _)).put 8 (hE 8 (by decide)) (v:=(.tuple #[.int .i64 (e:Nat),.bool true])) (av:=.undef) (.undef _ _)).put 6 (hE 6 (by decide)) (v:=(.tuple #[.int .i64 (e:Nat),.bool true])) (av:=.undef) (.undef _ _)).put 9 (hE 9 (by decide)) (v:=(.int .i64 (e:Nat))) (av:=(.int .i64 (e:Nat))) (.int _ _ _)).put 10 (hE 10 (by decide)) (v:=(.bool true)) (av:=(.bool true)) (.bool _ _)).put 4 (hE 4 (by decide)) (v:=(.int .i64 (e:Nat))) (av:=(.int .i64 (e:Nat))) (.int _ _ _))
 have g2:=g1.put 5 (hE 5 (by decide)) (v:=.bool true) (av:=.bool true) (.bool _ _)
 have g3:=g2.put 11 (hE 11 (by decide)) (v:=.bool true) (av:=.bool true) (.bool _ _)
 have g4:=g3.put 12 (hE 12 (by decide)) (v:=.int .i64 (e:Nat)) (av:=.int .i64 (e:Nat)) (.int _ _ _)
 have b3:=a8 g2 (.tmp 5)
 have b9:=a8 g3 (.tmp 11)
 have b2:=a8 g3 (.tmp 4)
 clear g0 g1 g2 g3
 generalize hac:(((((((((({tmps:=#[v0,v1,v2,v3]++Array.replicate (Tryz.f191.ntmps-#[v0,v1,v2,v3].size) undef,defers:=[]}:Act).put (some 7) (dA e)).put (some 8) (.tuple #[.int .i64 (e:Nat),.bool true])).put (some 6) (.tuple #[.int .i64 (e:Nat),.bool true])).put (some 9) (.int .i64 (e:Nat))).put (some 10) (.bool true)).put (some 4) (.int .i64 (e:Nat))).put (some 5) (.bool true)).put (some 11) (.bool true)).put (some 12) (.int .i64 (e:Nat)))=ac at g4
 have had:ac.defers=[]:=by rw[←hac];rfl
 have fin:∃w1 w2 w3 w4,(Instr.storeAt 3 (ac.eval (.tmp 0)) (ac.eval (.const (.int .i64 0)))).run Tryz.prog w=.ok () w1∧(Instr.storeAt 3 (ac.eval (.tmp 1)) (ac.eval (.const (.int .i64 0)))).run Tryz.prog w1=.ok () w2∧(Instr.storeAt 3 (ac.eval (.tmp 2)) (ac.eval (.const (.int .i64 0)))).run Tryz.prog w2=.ok () w3∧(Instr.storeAt 24 (ac.eval (.tmp 3)) (ac.eval (.tmp 12))).run Tryz.prog w3=.ok () w4 ∧
     ∃ρ' st',al E0 ρ' st' ac w4∧st'.h=[(i3,.var [.int .i64 (e:Nat)]),(i2,.var [.int .i64 0]),(i1,.var [.int .i64 0]),(i0,.var [.int .i64 0])]∧sget st'.s 2000000=some (.ab i0 0)∧sget st'.s 2000001=some (.ab i1 0)∧sget st'.s 2000002=some (.ab i2 0)∧sget st'.s 2000003=some (.ab i3 0):=by
  subst hh0
  have g4:=g4.weaken (st':=⟨[(0,.ab i0 0),(1,.ab i1 0),(2,.ab i2 0),(3,.ab i3 0),(12,.int .i64 (e:Nat)),(2000000,.ab i0 0),(2000001,.ab i1 0),(2000002,.ab i2 0),(2000003,.ab i3 0)],[(i0,.var [x0]),(i1,.var [x1]),(i2,.var [x2]),(i3,.var [x3])]⟩) (by exact⟨rfl,rfl,rfl,rfl,rfl,rfl,rfl,rfl,rfl,trivial⟩) (by simp[c7,hget,hi.iC,hi.iC.symm,hi.iD,hi.iD.symm,hi.iE,hi.iE.symm,hi.fu,hi.fu.symm,hi.iG,hi.iG.symm,hi.iH,hi.iH.symm])
  have hx0:=a8 g4 (.tmp 0)
  have hy0:=a8 g4 (.const (.int .i64 0))
  obtain⟨w1,ρ1,st1,r1,g5,K⟩:=jc g4 tm hx0 hy0 (K:=fun _ st1=>st1=⟨[(0,.ab i0 0),(1,.ab i1 0),(2,.ab i2 0),(3,.ab i3 0),(12,.int .i64 (e:Nat)),(2000000,.ab i0 0),(2000001,.ab i1 0),(2000002,.ab i2 0),(2000003,.ab i3 0)],[(i0,.var [.int .i64 0]),(i1,.var [x1]),(i2,.var [x2]),(i3,.var [x3])]⟩) (by
   simp[effSt,hget,bz,hdel,hi.iC,hi.iC.symm,hi.iD,hi.iD.symm,hi.iE,hi.iE.symm,hi.fu,hi.fu.symm,hi.iG,hi.iG.symm,hi.iH,hi.iH.symm,bU,aQ,cellsOf,isCell,ev,trE,sget,show constAV (.int .i64 0)=.int .i64 0 from rfl])
  subst K
  have hx1:=a8 g5 (.tmp 1)
  have hy1:=a8 g5 (.const (.int .i64 0))
  obtain⟨w2,ρ2,st2,r2,g6,K⟩:=jc g5 tm hx1 hy1 (K:=fun _ st1=>st1=⟨[(0,.ab i0 0),(1,.ab i1 0),(2,.ab i2 0),(3,.ab i3 0),(12,.int .i64 (e:Nat)),(2000000,.ab i0 0),(2000001,.ab i1 0),(2000002,.ab i2 0),(2000003,.ab i3 0)],[(i1,.var [.int .i64 0]),(i0,.var [.int .i64 0]),(i2,.var [x2]),(i3,.var [x3])]⟩) (by
   simp[effSt,hget,bz,hdel,hi.iC,hi.iC.symm,hi.iD,hi.iD.symm,hi.iE,hi.iE.symm,hi.fu,hi.fu.symm,hi.iG,hi.iG.symm,hi.iH,hi.iH.symm,bU,aQ,cellsOf,isCell,ev,trE,sget,show constAV (.int .i64 0)=.int .i64 0 from rfl])
  subst K
  have hx2:=a8 g6 (.tmp 2)
  have hy2:=a8 g6 (.const (.int .i64 0))
  obtain⟨w3,ρ3,st3,r3,g7,K⟩:=jc g6 tm hx2 hy2 (K:=fun _ st1=>st1=⟨[(0,.ab i0 0),(1,.ab i1 0),(2,.ab i2 0),(3,.ab i3 0),(12,.int .i64 (e:Nat)),(2000000,.ab i0 0),(2000001,.ab i1 0),(2000002,.ab i2 0),(2000003,.ab i3 0)],[(i2,.var [.int .i64 0]),(i1,.var [.int .i64 0]),(i0,.var [.int .i64 0]),(i3,.var [x3])]⟩) (by
   simp[effSt,hget,bz,hdel,hi.iC,hi.iC.symm,hi.iD,hi.iD.symm,hi.iE,hi.iE.symm,hi.fu,hi.fu.symm,hi.iG,hi.iG.symm,hi.iH,hi.iH.symm,bU,aQ,cellsOf,isCell,ev,trE,sget,show constAV (.int .i64 0)=.int .i64 0 from rfl])
  subst K
  have hx3:=a8 g7 (.tmp 3)
  have hy3:=a8 g7 (.tmp 12)
  obtain⟨w4,ρ4,st4,r4,g8,K⟩:=jc g7 xY hx3 hy3 (K:=fun _ st1=>st1=⟨[(0,.ab i0 0),(1,.ab i1 0),(2,.ab i2 0),(3,.ab i3 0),(12,.int .i64 (e:Nat)),(2000000,.ab i0 0),(2000001,.ab i1 0),(2000002,.ab i2 0),(2000003,.ab i3 0)],[(i3,.var [.int .i64 (e:Nat)]),(i2,.var [.int .i64 0]),(i1,.var [.int .i64 0]),(i0,.var [.int .i64 0])]⟩) (by
   simp[effSt,hget,bz,hdel,hi.iC,hi.iC.symm,hi.iD,hi.iD.symm,hi.iE,hi.iE.symm,hi.fu,hi.fu.symm,hi.iG,hi.iG.symm,hi.iH,hi.iH.symm,bU,aQ,cellsOf,isCell,ev,trE,sget,show constAV (.int .i64 0)=.int .i64 0 from rfl])
  subst K
  exact⟨w1,w2,w3,w4,r1,r2,r3,r4,ρ4,_,g8,rfl,rfl,rfl,rfl,rfl⟩
 obtain⟨w1,w2,w3,w4,r1,r2,r3,r4,ρ2,st2,g6,e1,e2,e3,e4,e5⟩:=fin
 clear g4
 refine callsDIn_of_wpSIn Tryz.func191 rfl trivial fun c₀ cs hu=>?_
 apply wpSIn_seq
 apply wpSIn_region
 simp[wpOpsSIn,go_sem,recoverD,hu,bJ,dA,Tryz.ntmps191,Exit.thenS,BT]
 refine wpSIn_of_wpIn rfl ?_
 refine wpIn_seq ?_
 refine wpIn_region ?_
 simp[wpOpsIn,Oper.wpIn,Oper.uponIn,Oper.semAt_none,go_sem,Region.wanted,Exit.then]
 refine wpIn_cond_true (by simp[Act.eval,Array.replicate]) ?_
 refine Eq.mpr (congrArg (fun a=>Code.wpIn Fence.wide 0 Tryz.prog _ _ a w) (a₂:=((((((((({tmps:=#[v0,v1,v2,v3]++Array.replicate (Tryz.f191.ntmps-#[v0,v1,v2,v3].size) undef,defers:=[]}:Act).put (some 7) (dA e)).put (some 8) (.tuple #[.int .i64 (e:Nat),.bool true])).put (some 6) (.tuple #[.int .i64 (e:Nat),.bool true])).put (some 9) (.int .i64 (e:Nat))).put (some 10) (.bool true)).put (some 4) (.int .i64 (e:Nat))).put (some 5) (.bool true)).put (some 11) (.bool true))) ?_) ?_
 ·simp[Act.put,hnt,dA]
 refine wpIn_region_list (wpListIn_plain rfl (fun next hnext=>⟨fun _ _=>trivial,?_⟩))
 refine BO (v:=.int .i64 (e:Nat)) (w':=w) (by simp[execOp,Act.eval,Act.put,hnt]) (hnext _ _ ?_)
 refine wpListIn_plain rfl (fun next hnext=>⟨fun _ _=>trivial,?_⟩)
 rw[hac]
 refine mn (w':=w1) (by simp[execOp,r1]) (hnext _ _ ?_)
 refine wpListIn_plain rfl (fun next hnext=>⟨fun _ _=>trivial,?_⟩)
 refine mn (w':=w2) (by simp only[Act.put];simp[execOp,r2]) (hnext _ _ ?_)
 refine wpListIn_plain rfl (fun next hnext=>⟨fun _ _=>trivial,?_⟩)
 refine mn (w':=w3) (by simp only[Act.put];simp[execOp,r3]) (hnext _ _ ?_)
 refine wpListIn_plain rfl (fun next hnext=>⟨fun _ _=>trivial,?_⟩)
 refine mn (w':=w4) (by simp only[Act.put];simp[execOp,r4]) (hnext _ _ ?_)
 refine⟨had,_,rfl,.tuple #[],by simp[results,Tryz.results191],⟨_,rfl⟩,rfl,ρ2,?_,?_,g6.az.os,g6.az.tape,g6.az.output,g6.az.size,g6.az.block,?_⟩
 ·have:=g6.heap
  rw[e1]at this
  exact this
 ·intro j v x h1 h2
  have hj:j<4:=(List.getElem?_eq_some_iff.1 h2).1
  have hgv:∀k,2000000≤k→aZ E0 ac k=E0.gv k:=fun k hk=>by
   unfold aZ
   rw[if_neg (by show ¬k<Tryz.f191.ntmps;rw[hnt];omega)]
  obtain rfl | rfl | rfl | rfl:j=0∨j=1∨j=2∨j=3:=by omega
  ·obtain rfl:v0=v:=by simpa using h1
   obtain rfl:AV.ab i0 0=x:=by simpa using h2
   have hr:=(g6.aU _ _ e2).2
   rw[hgv _ (Nat.le_refl _),e1]at hr
   exact hr
  ·obtain rfl:v1=v:=by simpa using h1
   obtain rfl:AV.ab i1 0=x:=by simpa using h2
   have hr:=(g6.aU _ _ e3).2
   rw[hgv _ (by decide),e1]at hr
   exact hr
  ·obtain rfl:v2=v:=by simpa using h1
   obtain rfl:AV.ab i2 0=x:=by simpa using h2
   have hr:=(g6.aU _ _ e4).2
   rw[hgv _ (by decide),e1]at hr
   exact hr
  ·obtain rfl:v3=v:=by simpa using h1
   obtain rfl:AV.ab i3 0=x:=by simpa using h2
   have hr:=(g6.aU _ _ e5).2
   rw[hgv _ (by decide),e1]at hr
   exact hr
 ·rintro b ⟨id,W,L,h1,h2,h3⟩
  rw[←e1]at h1
  exact g6.base id W L b h1 h2 h3
open Eng
set_option maxRecDepth 10000
abbrev Bs:=List UInt8
theorem xu {t:TypeId} {n:Int} {e:Nat} {st:St} (ht:t=199:=by rfl) (hn:n=(e:Nat):=by rfl):(KQ.dies (dA e)).ap (.panic (bJ (.iface t (.int .i64 n)))) st:=by
 subst ht hn;exact of_eq_true kS
theorem vH {x n:Nat} (hx:x<1000000) (hn:n≤10):bits .and .i64 (x:Int) ((2^n-1:Nat):Int)=((x%2^n:Nat):Int):=by
 have hp:2^n≤2^10:=Nat.pow_le_pow_right (by decide) hn
 have hp1:0<2^n:=Nat.pow_pos (by decide)
 have:=Nat.mod_lt x hp1
 show IntKind.i64.wrap ((BitVec.ofInt 64 (x:Int) &&& BitVec.ofInt 64 ((2^n-1:Nat):Int)).toNat:Int)=_
 rw[BitVec.ofInt_natCast,BitVec.ofInt_natCast,BitVec.toNat_and,BitVec.toNat_ofNat,BitVec.toNat_ofNat,Nat.mod_eq_of_lt (by omega),Nat.mod_eq_of_lt (by omega),Nat.and_two_pow_sub_one_eq_mod]
 exact eU (by omega)
theorem uc {x k c:Nat} (hx:x<2^k) (hk:k≤32) (hc:c<256):bits .or .i64 (x:Int) (IntKind.i64.wrap ((c:Int)*2^min k 64))=((x+c*2^k:Nat):Int):=by
 have hp:2^k≤2^32:=Nat.pow_le_pow_right (by decide) hk
 have h2:c*2^k≤255*2^32:=Nat.mul_le_mul (by omega) hp
 have e:IntKind.i64.wrap ((c:Int)*2^min k 64)=((c*2^k:Nat):Int):=by
  rw[Nat.min_eq_left (by omega),show((c:Int)*2^k)=((c*2^k:Nat):Int)by push_cast;rfl]
  exact eU (by omega)
 rw[e]
 show IntKind.i64.wrap ((BitVec.ofInt 64 (x:Int) ||| BitVec.ofInt 64 ((c*2^k:Nat):Int)).toNat:Int)=_
 rw[BitVec.ofInt_natCast,BitVec.ofInt_natCast,BitVec.toNat_or,BitVec.toNat_ofNat,BitVec.toNat_ofNat,Nat.mod_eq_of_lt (by omega),Nat.mod_eq_of_lt (by omega),Nat.or_comm,←Nat.shiftLeft_eq,←Nat.shiftLeft_add_eq_or_of_lt hx,Nat.shiftLeft_eq,Nat.add_comm]
 exact eU (by omega)
def cY (d:Bs) (p:Nat):HP:=[(258010,.var [.str d,.int .i64 p])]
theorem fK {p:Prop} (h:p:=by simp(disch:=first | omega | (simp only[Lx];omega))only[go_sem,simprocAttr,cY]):p:=h
theorem rk {a b:Prop} (k:b) (h:b→a:=by intro h;simp(disch:=first | omega | (simp only[Lx];omega))only[go_sem,simprocAttr,cY];exact h):a:=h k
theorem mC {E0:Prop} {a b:Prop} (e0:E0) (k:b) (h:E0→b→a:=by intro e0 h;simp(disch:=first | omega | (simp only[Lx];omega))only[go_sem,simprocAttr,cY,e0];exact h):a:=h e0 k
theorem aow {E0 E1:Prop} {a b:Prop} (e0:E0) (e1:E1) (k:b) (h:E0→E1→b→a:=by intro e0 e1 h;simp(disch:=first | omega | (simp only[Lx];omega))only[go_sem,simprocAttr,cY,e0,e1];exact h):a:=h e0 e1 k
theorem KE (d:Bs) (p:Nat) (hd:d.length≤1000000) (h:p<d.length):Eng.Spec Tryz.prog 142 (cY d p) [.ab 258010 0] (fun h' v ar=>h'=cY d (p+1)∧v=.int .i64 ((d.getD p 0).toNat:Nat)∧ar=[.ab 258010 0]):=by
 refine Cod.xj (fun E R hN hR=>?_)
 have hu:=(d.getD p 0).toNat_lt
 have e1:((p:Int)+1-1).toNat=p:=by omega
 have hi:¬(p:Int)=(d.length:Int):=by omega
 refine aow e1 hi ?_
 exact hR.le fK ⟨rfl,rfl,rfl⟩
theorem KC (d:Bs) (p:Nat) (hd:d.length≤1000000) (h:p=d.length):Eng.dQ Tryz.prog 142 (cY d p) [.ab 258010 0] (dA 6):=by
 refine Cod.xh (fun E hN=>?_)
 have hi:(p:Int)=(d.length:Int):=by omega
 refine mC hi ?_
 exact xu
def cq (d:Bs) (p:Nat):HP:=[(259041,.var [.str d,.int .i64 p])]
theorem fJ {p:Prop} (h:p:=by simp(disch:=first | omega | (simp only[Lx];omega))only[go_sem,simprocAttr,cq]):p:=h
theorem vb {a b:Prop} (k:b) (h:b→a:=by intro h;simp(disch:=first | omega | (simp only[Lx];omega))only[go_sem,simprocAttr,cq];exact h):a:=h k
theorem CZ {E0:Prop} {a b:Prop} (e0:E0) (k:b) (h:E0→b→a:=by intro e0 h;simp(disch:=first | omega | (simp only[Lx];omega))only[go_sem,simprocAttr,cq,e0];exact h):a:=h e0 k
theorem vc {E0 E1:Prop} {a b:Prop} (e0:E0) (e1:E1) (k:b) (h:E0→E1→b→a:=by intro e0 e1 h;simp(disch:=first | omega | (simp only[Lx];omega))only[go_sem,simprocAttr,cq,e0,e1];exact h):a:=h e0 e1 k
theorem xg (d:Bs) (p:Nat) (hd:d.length≤1000000) (h:p<d.length):Eng.Spec Tryz.prog 142 (cq d p) [.ab 259041 0] (fun h' v ar=>h'=cq d (p+1)∧v=.int .i64 ((d.getD p 0).toNat:Nat)∧ar=[.ab 259041 0]):=by
 refine Cod.xj (fun E R hN hR=>?_)
 have hu:=(d.getD p 0).toNat_lt
 have e1:((p:Int)+1-1).toNat=p:=by omega
 have hi:¬(p:Int)=(d.length:Int):=by omega
 refine vc e1 hi ?_
 exact hR.le fJ ⟨rfl,rfl,rfl⟩
theorem KB (d:Bs) (p:Nat) (hd:d.length≤1000000) (h:p=d.length):Eng.dQ Tryz.prog 142 (cq d p) [.ab 259041 0] (dA 6):=by
 refine Cod.xh (fun E hN=>?_)
 have hi:(p:Int)=(d.length:Int):=by omega
 refine CZ hi ?_
 exact xu
def sizeR (d:Bs):Nat→Nat→Nat→Nat→Nat×Nat×Nat
 | 0,p,_,_=>if d.length≤p then(0,0,6)else(0,0,3)
 | m+1,p,n,sh=>if d.length≤p then(0,0,6)else if(d.getD p 0).toNat<128 then(n+(d.getD p 0).toNat%128*2^sh,p+1,0)else sizeR d m (p+1) (n+(d.getD p 0).toNat%128*2^sh) (sh+7)
def cd (d:Bs) (p:Nat):Nat×Nat×Nat:=sizeR d 5 p 0 0
theorem Cc (d:Bs):∀(m p n sh:Nat),n<2^sh→(sizeR d m p n sh).2.2=0→(sizeR d m p n sh).2.1≤d.length∧p<(sizeR d m p n sh).2.1∧(sizeR d m p n sh).1<2^(sh+7*m)
 | 0,p,n,sh=>by
  intro _
  unfold sizeR
  split<;>intro h<;>cases h
 | m+1,p,n,sh=>by
  intro hn
  have h2:n+(d.getD p 0).toNat%128*2^sh<2^(sh+7):=by
   have h1:(d.getD p 0).toNat%128≤127:=by omega
   have h2:(d.getD p 0).toNat%128*2^sh≤127*2^sh:=Nat.mul_le_mul_right _ h1
   rw[Nat.pow_add]
   omega
  unfold sizeR
  split
  ·intro h;cases h
  ·split
   ·intro _
    exact⟨by simp only;omega,by simp only;omega,Nat.lt_of_lt_of_le h2 (Nat.pow_le_pow_right (by decide) (by omega))⟩
   ·intro h
    obtain⟨a,b,c⟩:=Cc d m _ _ _ h2 h
    exact⟨a,by omega,by rwa[show sh+7+7*m=sh+7*(m+1)by omega]at c⟩
theorem qU (d:Bs) (p:Nat) (h:(cd d p).2.2=0):(cd d p).2.1≤d.length∧p<(cd d p).2.1∧(cd d p).1<34359738368:=by
 have:=Cc d 5 p 0 0 (by decide) h
 rwa[show(2:Nat)^(0+7*5)=34359738368 by decide]at this
set_option maxHeartbeats 1000000 in
theorem xG (d:Bs) (p:Nat) (hd:d.length≤1000000) (hp:p≤d.length) {E:Env} (hN:E.N≤1000000) (Q:KQ)
    (hret:(cd d p).2.2=0→Q.ap .ret ⟨[(2,.int .i64 ((cd d p).1:Nat)),(2000000,.ab 258010 0)],cY d (cd d p).2.1⟩)
    (hdie:∀st,(cd d p).2.2≠0→Q.ap (.panic (bJ (dA (cd d p).2.2))) st) :
    vcW Tryz.prog E Cod.pA Q ⟨[(0,.ab 258010 0),(2000000,.ab 258010 0)],cY d p⟩:=by
 generalize hH:cd d p=H at *
 unfold cd at hH
 refine rk ?_
 refine bm hN (fun q:Nat×Nat×Nat=>⟨[(0,.ab 258010 0),(2,.int .i64 0),(3,.int .i64 q.2.2),(4,.int .i64 (7*(5-q.1):Nat)),(2000000,.ab 258010 0)],cY d q.2.1⟩)
  (fun q=>q.1≤5∧q.2.1≤d.length∧q.2.2<2^(7*(5-q.1))∧sizeR d q.1 q.2.1 q.2.2 (7*(5-q.1))=H) (fun q=>q.1) (5,p,0) (.le fK) ⟨by simp,hp,by simp,hH⟩ ?_
 clear hH
 rintro⟨m,p2,n⟩ R1 ⟨hm,hp2,hn,hH⟩ hR1
 simp only at hm hp2 hn hH
 generalize hshe:7*(5-m)=sh at *
 by_cases hend:d.length≤p2
 ·have hR0:sizeR d m p2 n sh=(0,0,6):=by cases m with | zero=>exact if_pos hend | succ m=>exact if_pos hend
  rw[hR0]at hH
  subst hH
  refine mC hshe ?_
  refine gK (cY d p2) (KC d p2 hd (by omega)) fK ?_
  exact hdie _ (by decide)
 ·have hby:=KE d p2 hd (by omega)
  have hu:=(d.getD p2 0).toNat_lt
  cases m with
  | zero=>
   have hR0:sizeR d 0 p2 n sh=(0,0,3):=if_neg hend
   rw[hR0]at hH
   subst hH
   refine mC hshe ?_
   refine fp ?_
   refine bf (cY d p2) hby fK nofun ?_
   rintro h' v ar ⟨rfl,rfl,rfl⟩
   refine⟨fK,rfl,?_⟩
   have hgt:(28:Int)<(sh:Int):=by omega
   refine bc hgt hshe ?_
   exact hdie _ (by decide)
  | succ m=>
   have hR0:sizeR d (m+1) p2 n sh=if(d.getD p2 0).toNat<128 then(n+(d.getD p2 0).toNat%128*2^sh,p2+1,0)else sizeR d m (p2+1) (n+(d.getD p2 0).toNat%128*2^sh) (sh+7):=if_neg hend
   rw[hR0]at hH
   generalize (d.getD p2 0).toNat=x at *
   have hk:bits .and .i64 (x:Int) 127=((x%128:Nat):Int):=vH (n:=7) (by omega) (by decide)
   have ho:=uc (x:=n) (k:=sh) (c:=x%128) hn (by omega) (by omega)
   have hn2:n+x%128*2^sh<2^(sh+7):=by
    have h1:x%128≤127:=by omega
    have h2:x%128*2^sh≤127*2^sh:=Nat.mul_le_mul_right _ h1
    rw[Nat.pow_add]
    omega
   have hgt:¬(28:Int)<(sh:Int):=by omega
   have hs7:sh+7=7*(5-m):=by omega
   have aE:n+x%128*2^sh<34359738368:=by
    have:2^(sh+7)≤2^35:=Nat.pow_le_pow_right (by decide) (by omega)
    omega
   refine mC hshe ?_
   refine fp ?_
   refine bf (cY d p2) hby fK nofun ?_
   rintro h' v ar ⟨rfl,rfl,rfl⟩
   refine⟨fK,rfl,?_⟩
   refine dW hgt hshe hk ho ?_
   by_cases hx:x<128
   ·rw[if_pos hx]at hH
    subst hH
    have hret:=hret rfl
    simp only[cY,Int.natCast_add,Int.natCast_one]at hret
    have hi:(x:Int)<128:=by omega
    refine mC hi ?_
    exact hret
   ·rw[if_neg hx]at hH
    rw[hs7]at hH hn2
    have hi:¬(x:Int)<128:=by omega
    refine mC hi ?_
    exact hR1 (m,p2+1,n+x%128*2^sh) _ (by simp only;omega) ⟨by simp only;omega,by simp only;omega,hn2,hH⟩ (.le (by simp(disch:=omega)only[go_sem,simprocAttr,cY,←hs7]))
theorem xH (d:Bs) (p:Nat) (hd:d.length≤1000000) (hp:p≤d.length) (he:(cd d p).2.2=0):Eng.Spec Tryz.prog 192 (cY d p) [.ab 258010 0]
    (fun h' v ar=>h'=cY d (cd d p).2.1∧v=.int .i64 ((cd d p).1:Nat)∧ar=[.ab 258010 0]):=by
 refine Cod.Mr (fun E R hN hR=>?_)
 refine xG d p hd hp hN _ (fun _=>?_) (fun st h=>absurd he h)
 refine rk ?_
 exact hR.le fK ⟨rfl,rfl,rfl⟩
theorem xE (d:Bs) (p:Nat) (hd:d.length≤1000000) (hp:p≤d.length) (he:(cd d p).2.2≠0):Eng.dQ Tryz.prog 192 (cY d p) [.ab 258010 0] (dA (cd d p).2.2):=by
 refine Cod.Mq (fun E hN=>?_)
 exact xG d p hd hp hN _ (fun h=>absurd h he) (fun st _=>of_eq_true kS)
def cpR (d:Bs) (c p:Nat):Nat→Option (Nat×Nat×Nat)
 | 0=>some (p,0,0)
 | i+1=>match cpR d c p i with
  | none=>none
  | some (q,o,n)=>if c/2^i%2=0 then some (q,o,n)else if d.length≤q then none else if i<4 then some (q+1,o+(d.getD q 0).toNat*2^(8*i),n)else some (q+1,o,n+(d.getD q 0).toNat*2^(8*(i-4)))
def gJ (d:Bs) (c p:Nat):Option (Nat×Nat×Nat):=(cpR d c p 7).map fun x=>(x.1,x.2.1,if x.2.2=0 then 65536 else x.2.2)
theorem wR {d:Bs} {c p:Nat}:∀{m i:Nat},i≤m→cpR d c p i=none→cpR d c p m=none
 | 0,i,h,h1=>by
  obtain rfl:i=0:=by omega
  exact h1
 | m+1,i,h,h1=>by
  by_cases hi:i=m+1
  ·subst hi;exact h1
  ·unfold cpR
   rw[wR (by omega:i≤m) h1]
theorem sj {d:Bs} {c p:Nat} (hp:p≤d.length):∀{i:Nat} {x:Nat×Nat×Nat},i≤7→cpR d c p i=some x→x.1≤d.length∧p≤x.1∧x.2.1<2^(8*min i 4)∧x.2.2<2^(8*(i-4))
 | 0,x,_,h=>by
  unfold cpR at h
  cases h
  exact⟨hp,Nat.le_refl _,by simp,by simp⟩
 | i+1,x,hi,h=>by
  unfold cpR at h
  cases h1:cpR d c p i with
  | none=>rw[h1]at h;cases h
  | some y=>
   obtain⟨a,a',b,e⟩:=sj hp (by omega) h1
   obtain⟨q,o,n⟩:=y
   rw[h1]at h
   simp only at h a a' b e
   have hx:=(d.getD q 0).toNat_lt
   generalize (d.getD q 0).toNat=z at *
   have up1:2^(8*min i 4)≤2^(8*min (i+1) 4):=Nat.pow_le_pow_right (by decide) (by omega)
   have up2:2^(8*(i-4))≤2^(8*(i+1-4)):=Nat.pow_le_pow_right (by decide) (by omega)
   split at h
   ·cases h
    exact⟨a,a',by simp only;omega,by simp only;omega⟩
   ·split at h
    ·cases h
    ·split at h
     ·cases h
      refine⟨by simp only;omega,by simp only;omega,?_,by simp only;omega⟩
      have e1:8*min (i+1) 4=8*i+8:=by omega
      have e2:8*min i 4=8*i:=by omega
      rw[e2]at b
      simp only
      rw[e1,Nat.pow_add]
      have:z*2^(8*i)≤255*2^(8*i):=Nat.mul_le_mul_right _ (by omega)
      omega
     ·cases h
      refine⟨by simp only;omega,by simp only;omega,by simp only;omega,?_⟩
      have e1:8*(i+1-4)=8*(i-4)+8:=by omega
      simp only
      rw[e1,Nat.pow_add]
      have:z*2^(8*(i-4))≤255*2^(8*(i-4)):=Nat.mul_le_mul_right _ (by omega)
      omega
theorem akm {c i:Nat} (hi:i≤7):((c:Nat):Int).fdiv (2^min i 64)=((c/2^i:Nat):Int):=by
 rw[Nat.min_eq_left (by omega),Int.fdiv_eq_ediv_of_nonneg _ (Int.pow_nonneg (by decide))]
 push_cast
 rfl
set_option maxHeartbeats 1000000 in
theorem xm (d:Bs) (c p:Nat) (hd:d.length≤1000000) (hp:p≤d.length) (hc:c<256) {E:Env} (hN:E.N≤1000000) (Q:KQ)
    (hret:∀x,gJ d c p=some x→Q.ap .ret ⟨[(4,.int .i64 (x.2.1:Nat)),(5,.int .i64 (x.2.2:Nat)),(2000000,.ab 259041 0),(2000001,.int .i64 c)],cq d x.1⟩)
    (hdie:∀st,gJ d c p=none→Q.ap (.panic (bJ (dA 6))) st) :
    vcW Tryz.prog E Cod.po Q ⟨[(0,.ab 259041 0),(1,.int .i64 c),(2000000,.ab 259041 0),(2000001,.int .i64 c)],cq d p⟩:=by
 refine vb ?_
 refine bm hN (fun q:Nat×(Nat×Nat×Nat)=>⟨[(0,.ab 259041 0),(1,.int .i64 c),(4,.int .i64 0),(5,.int .i64 0),(6,.int .i64 q.2.2.1),(7,.int .i64 q.2.2.2),(10,.int .i64 q.1),(2000000,.ab 259041 0),(2000001,.int .i64 c)],cq d q.2.1⟩)
  (fun q=>q.1≤7∧cpR d c p q.1=some q.2) (fun q=>7-q.1) (0,p,0,0) (.le fJ) ⟨by simp,rfl⟩ ?_
 rintro⟨i,q,o,n⟩ R1 ⟨hi,hcp⟩ hR1
 simp only at hi hcp
 obtain⟨ha,ha',hb,he⟩:=sj hp hi hcp
 simp only at ha ha' hb he
 have hob:o<4294967296:=Nat.lt_of_lt_of_le hb (Nat.pow_le_pow_right (n:=2) (j:=32) (by decide) (by omega))
 have hnb:n<16777216:=Nat.lt_of_lt_of_le he (Nat.pow_le_pow_right (n:=2) (j:=24) (by decide) (by omega))
 by_cases hlt:i<7
 ·have hsh:=akm (c:=c) (i:=i) (by omega)
  have hcl:c/2^i<1000000:=Nat.lt_of_le_of_lt (Nat.div_le_self ..) (by omega)
  have han:bits .and .i64 ((c/2^i:Nat):Int) 1=((c/2^i%2:Nat):Int):=vH (n:=1) hcl (by decide)
  have hst:cpR d c p (i+1)=if c/2^i%2=0 then some (q,o,n)else if d.length≤q then none else if i<4 then some (q+1,o+(d.getD q 0).toNat*2^(8*i),n)else some (q+1,o,n+(d.getD q 0).toNat*2^(8*(i-4))):=by
   rw[cpR,hcp]
  generalize hbit:c/2^i%2=bt at *
  by_cases h0:bt=0
  ·have hz:((bt:Nat):Int)=0:=by omega
   rw[if_pos h0]at hst
   simp(disch:=omega)only[go_sem,simprocAttr,hsh,han,hz,cq]
   exact hR1 (i+1,q,o,n) _ (by simp only;omega) ⟨by simp only;omega,hst⟩ (.le fJ)
  ·have hz:¬((bt:Nat):Int)=0:=by omega
   rw[if_neg h0]at hst
   by_cases hend:d.length≤q
   ·rw[if_pos hend]at hst
    simp(disch:=omega)only[go_sem,simprocAttr,hsh,han,hz,cq]
    refine gK (cq d q) (KB d q hd (by omega)) fJ ?_
    exact hdie _ (by unfold gJ;rw[wR (by omega:i+1≤7) hst];rfl)
   ·rw[if_neg hend]at hst
    have hby:=xg d q hd (by omega)
    have hu:=(d.getD q 0).toNat_lt
    generalize (d.getD q 0).toNat=x at *
    simp(disch:=omega)only[go_sem,simprocAttr,hsh,han,hz,cq]
    refine fp ?_
    refine bf (cq d q) hby fJ nofun ?_
    rintro h' v ar ⟨rfl,rfl,rfl⟩
    refine⟨fJ,rfl,?_⟩
    by_cases h4:i<4
    ·rw[if_pos h4]at hst
     have hi4:(i:Int)<4:=by omega
     have e8:(8:Int)*(i:Int)=((8*i:Nat):Int):=by omega
     have hb8:o<2^(8*i):=by rwa[show 8*min i 4=8*i by omega]at hb
     have ho:=uc (x:=o) (k:=8*i) (c:=x) hb8 (by omega) (by omega)
     simp(disch:=omega)only[go_sem,simprocAttr,hi4,e8,ho,cq]
     exact hR1 (i+1,q+1,o+x*2^(8*i),n) _ (by simp only;omega) ⟨by simp only;omega,hst⟩ (.le fJ)
    ·rw[if_neg h4]at hst
     have hi4:¬(i:Int)<4:=by omega
     have e8:(8:Int)*((i:Int)-4)=((8*(i-4):Nat):Int):=by omega
     have hn:=uc (x:=n) (k:=8*(i-4)) (c:=x) he (by omega) (by omega)
     simp(disch:=omega)only[go_sem,simprocAttr,hi4,e8,hn,cq]
     exact hR1 (i+1,q+1,o,n+x*2^(8*(i-4))) _ (by simp only;omega) ⟨by simp only;omega,hst⟩ (.le fJ)
 ·obtain rfl:i=7:=by omega
  have hcy:gJ d c p=some (q,o,if n=0 then 65536 else n):=by unfold gJ;rw[hcp];rfl
  have hret:=hret _ hcy
  simp only[cq]at hret
  by_cases h0:n=0
  ·rw[if_pos h0]at hret
   have hz:((n:Nat):Int)=0:=by omega
   simp(disch:=omega)only[go_sem,simprocAttr,hz,cq]
   exact hret
  ·rw[if_neg h0]at hret
   have hz:¬((n:Nat):Int)=0:=by omega
   simp(disch:=omega)only[go_sem,simprocAttr,hz,cq]
   exact hret
theorem Lc (d:Bs) (c p:Nat) {x:Nat×Nat×Nat} (hd:d.length≤1000000) (hp:p≤d.length) (hc:c<256) (he:gJ d c p=some x):Eng.Spec Tryz.prog 143 (cq d p) [.ab 259041 0,.int .i64 c]
    (fun h' v ar=>h'=cq d x.1∧v=.ai [.int .i64 (x.2.1:Nat),.int .i64 (x.2.2:Nat)]∧ar=[.ab 259041 0,.int .i64 c]):=by
 refine Cod.Ld (fun E R hN hR=>?_)
 refine xm d c p hd hp hc hN _ (fun y hy=>?_) (fun st h=>by rw[he]at h;cases h)
 obtain rfl:=Option.some.inj (he.symm.trans hy)
 refine vb ?_
 exact hR.le fJ ⟨rfl,rfl,rfl⟩
theorem La (d:Bs) (c p:Nat) (hd:d.length≤1000000) (hp:p≤d.length) (hc:c<256) (he:gJ d c p=none):Eng.dQ Tryz.prog 143 (cq d p) [.ab 259041 0,.int .i64 c] (dA 6):=by
 refine Cod.Lb (fun E hN=>?_)
 exact xm d c p hd hp hc hN _ (fun y hy=>by rw[he]at hy;cases hy) (fun st _=>of_eq_true kS)
def ez (d:Bs):Nat×Nat×Nat×Nat:=
 if(cd d 0).2.2≠0 then(0,0,0,(cd d 0).2.2)
 else if(cd d (cd d 0).2.1).2.2≠0 then(0,0,0,(cd d (cd d 0).2.1).2.2)
 else((cd d 0).1,(cd d (cd d 0).2.1).1,(cd d (cd d 0).2.1).2.1,0)
def retC4 (o p q r:Option AV) (R:HP→AV→List AV→Prop) (h:HP) (us:List AV):Prop:=
 match o,p,q,r with
 | some x,some y,some z,some u=>R h (.ai [x,y,z,u]) us
 | _,_,_,_=>False
theorem ux {x y z u:AV} {R:HP→AV→List AV→Prop} {h:HP} {us:List AV}:retC4 (some x) (some y) (some z) (some u) R h us=R h (.ai [x,y,z,u]) us:=(rfl)
theorem tC {m t1 t2 t3 t4 n1 n2 n3 n4:Nat} {b1 b2 b3 b4:Bool} {R:HP→AV→List AV→Prop} {st:St}:(KQ.post [.cell t1 b1 n1,.cell t2 b2 n2,.cell t3 b3 n3,.cell t4 b4 n4] m R).ap .ret st=retC4 (resC st b1 n1 (sget st.s t1)) (resC st b2 n2 (sget st.s t2)) (resC st b3 n3 (sget st.s t3)) (resC st b4 n4 (sget st.s t4)) R st.h (argsAgain st 0 m):=by
 simp only[KQ.post,postQ,resOf,resAV]
 cases resC st b1 n1 (sget st.s t1)<;>cases resC st b2 n2 (sget st.s t2)<;>cases resC st b3 n3 (sget st.s t3)<;>cases resC st b4 n4 (sget st.s t4)<;>simp[consO,retC4]
def sH (x0 x1 x2 x3:AV):HP:=[(258002,.var [x0]),(258003,.var [x1]),(258004,.var [x2]),(258005,.var [x3])]
theorem B0 {st:St} {R:HP→AV→List AV→Prop} {e:Nat} (x0 x1 x2 x3:AV) (has:eQ st 1 4=[.ab 258002 0,.ab 258003 0,.ab 258004 0,.ab 258005 0]) (hsub:c7 st.h (sH x0 x1 x2 x3))
    (h:(KQ.post [.cell 2 false 1,.cell 3 false 1,.cell 4 false 1,.cell 5 false 1] 1 R).ap .ret (jH st 1 4 (sH x0 x1 x2 x3) [(258005,.var [.int .i64 (e:Nat)]),(258004,.var [.int .i64 0]),(258003,.var [.int .i64 0]),(258002,.var [.int .i64 0])])) :
    (KQ.gC Tryz.prog [.cell 2 false 1,.cell 3 false 1,.cell 4 false 1,.cell 5 false 1] 1 4 191 R).ap (.panic (bJ (dA e))) st:=
 s3 (sH x0 x1 x2 x3) [(258005,.var [.int .i64 (e:Nat)]),(258004,.var [.int .i64 0]),(258003,.var [.int .i64 0]),(258002,.var [.int .i64 0])] has (ajY e 258002 258003 258004 258005 x0 x1 x2 x3 ⟨by decide,by decide,by decide,by decide,by decide,by decide⟩) rfl hsub h
set_option maxHeartbeats 1000000 in
theorem Mz (d:Bs) (hd:d.length≤1000000):aO Tryz.prog 140 [.str d] (.ai [.int .i64 ((ez d).1:Nat),.int .i64 ((ez d).2.1:Nat),.int .i64 ((ez d).2.2.1:Nat),.int .i64 ((ez d).2.2.2:Nat)]):=by
 refine Cod.MA ajX (fun E R N hN hN2 hR=>?_)
 unfold ez at hR
 refine wW ?_
 refine sn (fun E' hN'=>?_) hN2
 refine wW ?_
 by_cases h1:(cd d 0).2.2=0
 ·rw[if_neg (fun h=>h h1)]at hR
  have hk:=xH d 0 hd (Nat.zero_le _) h1
  have hle:=qU d 0 h1
  generalize cd d 0=A at *
  refine fp ?_
  refine bf (cY d 0) hk fK nofun ?_
  rintro h' v ar ⟨rfl,rfl,rfl⟩
  refine⟨fK,rfl,?_⟩
  refine rk ?_
  by_cases h2:(cd d A.2.1).2.2=0
  ·rw[if_neg (fun h=>h h2)]at hR
   have hk2:=xH d A.2.1 hd hle.1 h2
   have hle2:=qU d A.2.1 h2
   generalize cd d A.2.1=B at *
   refine fp ?_
   refine bf (cY d A.2.1) hk2 fK nofun ?_
   rintro h' v ar ⟨rfl,rfl,rfl⟩
   refine⟨fK,rfl,?_⟩
   refine rk ?_
   simp only at hR
   have fin:(KQ.post [.cell 2 false 1,.cell 3 false 1,.cell 4 false 1,.cell 5 false 1] 1 R).ap .ret ⟨[(2,.ab 258002 0),(3,.ab 258003 0),(4,.ab 258004 0),(5,.ab 258005 0),(2000001,.ab 258002 0),(2000002,.ab 258003 0),(2000003,.ab 258004 0),(2000004,.ab 258005 0)],
       [(258005,.var [.int .i64 0]),(258004,.var [.int .i64 B.2.1]),(258003,.var [.int .i64 B.1]),(258002,.var [.int .i64 A.1]),(258010,.var [.str d,.int .i64 B.2.1])]⟩:=by
    refine bc @tC @ux ?_
    exact hR.ro ⟨rfl,rfl⟩
   repeat' apply And.intro
   all_goals exact fin
  ·rw[if_pos h2]at hR
   simp only at hR
   have hdd:=xE d A.2.1 hd hle.1 h2
   refine gK (cY d A.2.1) hdd fK ?_
   refine B0 (.int .i64 0) (.int .i64 0) (.int .i64 0) (.int .i64 0) ?_ ?_ ?_
   all_goals simp(disch:=omega)only[go_sem,simprocAttr,lC,cY,sH,tC,ux]
   exact hR.ro ⟨rfl,rfl⟩
 ·rw[if_pos h1]at hR
  simp only at hR
  have hdd:=xE d 0 hd (Nat.zero_le _) h1
  refine gK (cY d 0) hdd fK ?_
  refine B0 (.int .i64 0) (.int .i64 0) (.int .i64 0) (.int .i64 0) ?_ ?_ ?_
  all_goals simp(disch:=omega)only[go_sem,simprocAttr,lC,cY,sH,tC,ux]
  exact hR.ro ⟨rfl,rfl⟩
def fD (base d:Bs) (c p:Nat):Bs×Nat×Nat:=
 if c=0 then([],0,3)
 else if c<128 then(if d.length-p<c then([],0,6)else((d.drop p).take c,p+c,0))
 else match gJ d c p with
  | none=>([],0,6)
  | some x=>if base.length<x.2.1+x.2.2 then([],0,3)else((base.drop x.2.1).take x.2.2,x.1,0)
def applyR (base d:Bs) (size:Nat):Nat→Nat→Bs→Bs×Nat
 | 0,_,_=>([],0)
 | m+1,p,out=>if d.length≤p then(if out.length<size then([],6)else(out,0))else
  if(fD base d (d.getD p 0).toNat (p+1)).2.2≠0 then([],(fD base d (d.getD p 0).toNat (p+1)).2.2)else
  if size-out.length<(fD base d (d.getD p 0).toNat (p+1)).1.length then([],3)else
  applyR base d size m (fD base d (d.getD p 0).toNat (p+1)).2.1 (out++(fD base d (d.getD p 0).toNat (p+1)).1)
def ja (base d:Bs) (most:Nat):Bs×Nat:=
 if(ez d).2.2.2≠0 then([],(ez d).2.2.2)
 else if(ez d).1≠base.length then([],4)
 else if most<(ez d).2.1 then([],2)
 else applyR base d (ez d).2.1 (d.length+1) (ez d).2.2.1 []
theorem akt (d:Bs):(ez d).2.2.1≤d.length∧(ez d).1<34359738368∧(ez d).2.1<34359738368:=by
 unfold ez
 split
 ·simp
 ·rename_i h
  have h1:=qU d 0 (by simpa using h)
  split
  ·simp
  ·rename_i h2
   have h2:=qU d (cd d 0).2.1 (by simpa using h2)
   exact⟨h2.1,h1.2.2,h2.2.2⟩
theorem afW (base d:Bs) (c p:Nat) (hp:p≤d.length) (h:(fD base d c p).2.2=0):p≤(fD base d c p).2.1∧(fD base d c p).2.1≤d.length∧(fD base d c p).1.length≤base.length+d.length:=by
 unfold fD at h ⊢
 split at h
 ·cases h
 ·rename_i h0
  rw[if_neg h0]
  split at h
  ·rename_i h1
   rw[if_pos h1]
   split at h
   ·cases h
   ·rename_i h2
    rw[if_neg h2]
    simp only[List.length_take,List.length_drop]
    omega
  ·rename_i h1
   rw[if_neg h1]
   cases hc:gJ d c p with
   | none=>rw[hc]at h;cases h
   | some x=>
    rw[hc]at h
    simp only at h ⊢
    have hx:x.1≤d.length∧p≤x.1:=by
     unfold gJ at hc
     cases h7:cpR d c p 7 with
     | none=>rw[h7]at hc;cases hc
     | some y=>
      rw[h7]at hc
      have:=sj hp (Nat.le_refl 7) h7
      cases hc
      exact⟨this.1,this.2.1⟩
    split at h
    ·cases h
    ·rename_i h2
     rw[if_neg h2]
     simp only[List.length_take,List.length_drop]
     omega
def aH (x0 x1:AV):HP:=[(259006,.var [x0]),(259007,.var [x1])]
theorem DC {st:St} {R:HP→AV→List AV→Prop} {e:Nat} (x0 x1:AV) (has:eQ st 3 2=[.ab 259006 0,.ab 259007 0]) (hsub:c7 st.h (aH x0 x1))
    (h:(KQ.post [.cell 6 false 1,.cell 7 false 1] 3 R).ap .ret (jH st 3 2 (aH x0 x1) [(259007,.var [.int .i64 (e:Nat)]),(259006,.var [.str []])])) :
    (KQ.gC Tryz.prog [.cell 6 false 1,.cell 7 false 1] 3 2 141 R).ap (.panic (bJ (dA e))) st:=
 s3 (aH x0 x1) [(259007,.var [.int .i64 (e:Nat)]),(259006,.var [.str []])] has (Ea e 259006 259007 x0 x1 (by decide)) rfl hsub h
set_option maxHeartbeats 1000000 in
theorem Ky (base d:Bs) (most:Nat) (hb:base.length≤1000000) (hd:d.length≤1000000) (hm:most≤1000000):aO Tryz.prog 87 [.str base,.str d,.int .i64 most] (.ai [.str (ja base d most).1,.int .i64 ((ja base d most).2:Nat)]):=by
 refine Cod.KA D9 (fun E R N hN hN2 hR=>?_)
 unfold ja at hR
 have aE:=Mz d hd
 have hzl:=akt d
 generalize ez d=Z at *
 obtain⟨fr,size,at_,e⟩:=Z
 simp only at aE hzl hR
 refine wW ?_
 refine aC aE rfl rfl ?_
 by_cases he:e=0
 rotate_left
 ·rw[if_pos he]at hR
  have i1:¬(e:Int)=0:=by omega
  refine aw i1 ?_
  refine⟨?_,?_⟩<;>exact hR.ro ⟨rfl,rfl⟩
 rw[if_neg (fun h=>h he)]at hR
 subst he
 by_cases hf:fr=base.length
 rotate_left
 ·rw[if_pos hf]at hR
  have i1:¬(fr:Int)=(base.length:Int):=by omega
  refine aw i1 ?_
  exact hR.ro ⟨rfl,rfl⟩
 rw[if_neg (fun h=>h hf)]at hR
 subst hf
 by_cases hs:most<size
 ·rw[if_pos hs]at hR
  have i1:(most:Int)<(size:Int):=by omega
  refine aw i1 ?_
  exact hR.ro ⟨rfl,rfl⟩
 rw[if_neg hs]at hR
 have i1:¬(most:Int)<(size:Int):=by omega
 refine aw i1 ?_
 refine sn (fun E' hN'=>?_) hN2
 refine wW ?_
 generalize hRES:applyR base d size (d.length+1) at_ []=RES at *
 refine bm hN' (fun q:Nat×Nat×Bs=>⟨[(0,.str base),(1,.str d),(6,.ab 259006 0),(7,.ab 259007 0),(9,.int .i64 size),(11,.ab 259041 0),(12,.sl 259119 0 q.2.2.length),(2000003,.ab 259006 0),(2000004,.ab 259007 0)],
     [(259006,.var [.str []]),(259007,.var [.int .i64 0]),(259041,.var [.str d,.int .i64 q.2.1]),(259119,.arr 1 (q.2.2.map ub))]⟩)
  (fun q=>d.length<q.2.1+q.1∧q.2.1≤d.length∧q.2.2.length≤size∧applyR base d size q.1 q.2.1 q.2.2=RES) (fun q=>q.1) (d.length+1,at_,[]) (.nil 12 259119 1 rfl (.le vV)) ⟨by omega,hzl.1,Nat.zero_le _,hRES⟩ ?_
 clear hRES
 rintro⟨m,p,out⟩ R1 ⟨hm1,hp,hol,hA⟩ hR1
 simp only at hm1 hp hol hA
 obtain⟨m,rfl⟩:∃k,m=k+1:=⟨m-1,by omega⟩
 unfold applyR at hA
 by_cases hend:d.length≤p
 ·rw[if_pos hend]at hA
  have i2:¬(p:Int)<(d.length:Int):=by omega
  by_cases hsh:out.length<size
  ·rw[if_pos hsh]at hA
   subst hA
   have i3:(out.length:Int)<(size:Int):=by omega
   refine bc i2 i3 ?_
   exact hR.ro ⟨rfl,rfl⟩
  ·rw[if_neg hsh]at hA
   subst hA
   have i3:¬(out.length:Int)<(size:Int):=by omega
   refine bc i2 i3 ?_
   exact hR.ro ⟨rfl,rfl⟩
 ·rw[if_neg hend]at hA
  have i2:(p:Int)<(d.length:Int):=by omega
  have hby:=xg d p hd (by omega)
  have hu:=(d.getD p 0).toNat_lt
  generalize (d.getD p 0).toNat=c at *
  have hpl:=afW base d c (p+1) (by omega)
  have hpe:fD base d c (p+1)=fD base d c (p+1):=rfl
  generalize hG:fD base d c (p+1)=G at hA hpl
  clear hpe
  refine aw i2 ?_
  refine fp ?_
  refine bf (cq d p) hby fJ nofun ?_
  rintro h' v ar ⟨rfl,rfl,rfl⟩
  refine⟨fJ,rfl,?_⟩
  refine vb ?_
  refine fV (y:=Cod.xc) hN' (fun _:Unit=>⟨[(0,.str base),(1,.str d),(6,.ab 259006 0),(7,.ab 259007 0),(9,.int .i64 size),(11,.ab 259041 0),(12,.sl 259119 0 out.length),(13,.str G.1),(2000003,.ab 259006 0),(2000004,.ab 259007 0)],
   [(259006,.var [.str []]),(259007,.var [.int .i64 0]),(259041,.var [.str d,.int .i64 G.2.1]),(259119,.arr 1 (out.map ub))]⟩) (fun _=>G.2.2=0) (fun R2 hR2=>?_) (fun _ he=>?_)
  ·have bad:∀e:Nat,e≠0→G.2.2=e→RES=([],e):=fun e h0 h1=>by rw[if_pos (by rw[h1];exact h0),h1]at hA;exact hA.symm
   unfold fD at hG
   by_cases hc0:c=0
   ·rw[if_pos hc0]at hG
    subst hc0
    rw[bad 3 (by decide) (by rw[←hG])]at hR
    refine wW ?_
    exact hR.ro ⟨rfl,rfl⟩
   ·rw[if_neg hc0]at hG
    have j0:¬(c:Int)=0:=by omega
    by_cases hc1:c<128
    ·rw[if_pos hc1]at hG
     have j1:(c:Int)<128:=by omega
     by_cases hc2:d.length-(p+1)<c
     ·rw[if_pos hc2]at hG
      rw[bad 6 (by decide) (by rw[←hG])]at hR
      have j2:(d.length:Int)-(p+1)<(c:Int):=by omega
      refine dz j0 j1 j2 ?_
      exact hR.ro ⟨rfl,rfl⟩
     ·rw[if_neg hc2]at hG
      have j2:¬(d.length:Int)-(p+1)<(c:Int):=by omega
      have e1:((p:Int)+1+(c:Int)).toNat-(p+1)=c:=by omega
      refine dz j0 j1 j2 ?_
      exact hR2 () _ (by rw[←hG]) (.le (by rw[←hG];exact fL e1))
    ·rw[if_neg hc1]at hG
     have j1:¬(c:Int)<128:=by omega
     cases hcp:gJ d c (p+1)with
     | none=>
      rw[hcp]at hG
      rw[bad 6 (by decide) (by rw[←hG])]at hR
      have hdd:=La d c (p+1) hd (by omega) (by omega) hcp
      refine bc j0 j1 ?_
      refine gK (cq d (p+1)) hdd fJ ?_
      refine DC (.str []) (.int .i64 0) ?_ ?_ ?_
      all_goals simp(disch:=omega)only[go_sem,simprocAttr,lC,cq,aH]
      exact hR.ro ⟨rfl,rfl⟩
     | some x=>
      rw[hcp]at hG
      simp only at hG
      have hok:=Lc d c (p+1) hd (by omega) (by omega) hcp
      refine bc j0 j1 ?_
      refine fp ?_
      refine bf (cq d (p+1)) hok fJ nofun ?_
      rintro h' v ar ⟨rfl,rfl,rfl⟩
      refine⟨fJ,rfl,?_⟩
      by_cases hbo:base.length<x.2.1+x.2.2
      ·rw[if_pos hbo]at hG
       rw[bad 3 (by decide) (by rw[←hG])]at hR
       by_cases hn:base.length<x.2.2
       ·have j2:(base.length:Int)<(x.2.2:Int):=by omega
        refine CZ j2 ?_
        (repeat(first | refine dk ?_ | refine di ?_ | refine dj ?_)<;>simp(disch:=omega)only[go_sem,simprocAttr,cq,j2])
        exact hR.ro ⟨rfl,rfl⟩
       ·have j2:¬(base.length:Int)<(x.2.2:Int):=by omega
        have j3:(base.length:Int)-(x.2.2:Int)<(x.2.1:Int):=by omega
        refine vc j2 j3 ?_
        (repeat(first | refine dk ?_ | refine di ?_ | refine dj ?_)<;>simp(disch:=omega)only[go_sem,simprocAttr,cq,j2,j3])
        exact hR.ro ⟨rfl,rfl⟩
      ·rw[if_neg hbo]at hG
       have j2:¬(base.length:Int)<(x.2.2:Int):=by omega
       have j3:¬(base.length:Int)-(x.2.2:Int)<(x.2.1:Int):=by omega
       have e1:x.2.1+x.2.2-x.2.1=x.2.2:=by omega
       refine vc j2 j3 ?_
       (repeat(first | refine dk ?_ | refine di ?_ | refine dj ?_)<;>simp(disch:=omega)only[go_sem,simprocAttr,cq,j2,j3])
       exact hR2 () _ (by rw[←hG]) (.le (by rw[←hG];exact fL e1))
  ·have hpl:=hpl he
   rw[if_neg (fun h=>h he)]at hA
   by_cases aE:size-out.length<G.1.length
   ·rw[if_pos aE]at hA
    subst hA
    have i3:(size:Int)-(out.length:Int)<(G.1.length:Int):=by omega
    refine aw i3 ?_
    exact hR.ro ⟨rfl,rfl⟩
   ·rw[if_neg aE]at hA
    have i3:¬(size:Int)-(out.length:Int)<(G.1.length:Int):=by omega
    refine aw i3 ?_
    exact hR1 (m,G.2.1,out++G.1) _ (by simp only;omega) ⟨by simp only;omega,by simp only;omega,by simp only[List.length_append];omega,hA⟩ (.le vV)
end Go.Proofs.YtoalcafkffmiiaaGreatDoor.Dl
