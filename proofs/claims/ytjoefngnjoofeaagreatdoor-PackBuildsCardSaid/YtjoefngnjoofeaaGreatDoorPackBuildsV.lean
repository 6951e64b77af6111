/- The proof, part 22 of 25. -/
import Derived.Test.YtjoefngnjoofeaaGreatDoorPackBuildsS
import Derived.Test.YtjoefngnjoofeaaGreatDoorProg
import Derived.KernelRfl
import Derived.Tactics
set_option linter.all false
namespace Go.Proofs.YtjoefngnjoofeaaGreatDoor.Pk
open Eng Eng.Kz
set_option maxRecDepth 100000
def ic (e:Nat):Value:=.iface 61 (.int .i64 (e:Nat))
theorem Dy {vs:Array Value} (h:vs.size=2):∃v0 v1,vs=#[v0,v1]:=by
 obtain⟨l⟩:=vs
 match l,h with
 | [a,b],_=>exact⟨a,b,rfl⟩
theorem afw:oh Tryz.prog 23 2:=by
 intro vs w hvs
 obtain⟨v0,v1,rfl⟩:=Dy hvs
 refine callsDIn_of_wpSIn Tryz.func23 rfl trivial fun c₀ cs hu=>?_
 apply wpSIn_seq
 apply wpSIn_region
 simp[wpOpsSIn,go_sem,recoverD,hu,Tryz.ntmps23,Exit.thenS]
 refine wpSIn_of_wpIn rfl ?_
 refine wpIn_seq ?_
 refine wpIn_region ?_
 simp[wpOpsIn,Oper.wpIn,Oper.uponIn,Oper.semAt_none,go_sem,Region.wanted,Exit.then]
 refine wpIn_cond_false (by simp[Act.eval,Array.replicate]) ?_
 refine wpIn_skip ?_
 simp[bodyPostS,results,Tryz.results23]
 exact hu.symm▸rfl
def bZ:List AV:=[.int .i64 0,.int .i64 0,.int .i64 0,.str [],.int .i64 0,.str [],.int .u32 0]
theorem lH {p:Prop} (h:p:=by simp(disch:=first | omega | (simp only[Lx];omega))only[go_sem,simprocAttr,bZ]):p:=h
theorem wWZ {a b:Prop} (k:b) (h:b→a:=by intro h;simp(disch:=first | omega | (simp only[Lx];omega))only[go_sem,simprocAttr,bZ];exact h):a:=h k
def zeroV:Value:=.agg #[.int .i64 0,.int .i64 0,.int .i64 0,.string ⟨#[]⟩,.int .i64 0,.string ⟨#[]⟩,.int .u32 0]
theorem aBR (X:Nat→Prop) (w:World) (ρ:Eng.Loc):RV X w ρ zeroV (.agg bZ):=by
 refine .agg _ _ _ rfl (fun j v a h1 h2=>?_)
 have hj:j<7:=(List.getElem?_eq_some_iff.1 h2).1
 obtain rfl | rfl | rfl | rfl | rfl | rfl | rfl:j=0∨j=1∨j=2∨j=3∨j=4∨j=5∨j=6:=by omega
 all_goals
  simp[bZ]at h1 h2
  subst h1 h2
  first | exact .int _ _ _ | exact .str _ []
theorem aws (x:Value) (t0:TypeId) (w:World):(Instr.typeAssert (.iface 61 x) t0 61 true).run Tryz.prog w=.ok (.tuple #[x,.bool true]) w:=by
 have hu:(underlying 61).run Tryz.prog w=.ok (.int .i64) w:=by rfl
 unfold Instr.typeAssert
 simp[go_sem,hu]
theorem MO:cV Tryz.prog 30=some 7:=by kernel_rfl
theorem MY:cV Tryz.prog 23=some 1:=by kernel_rfl
theorem Ss (w:World):(Instr.build 30 #[]).run Tryz.prog w=.ok zeroV w:=by kernel_rfl
theorem lv {P:Program} {o:Oper} {a:Act} {w w':World} {v:Value} {next:Act→World→Prop} {Q:Exit→Act→World→Prop} (h:(execOp a.eval o).run P w=.ok (.value v) w') (hn:next (a.put o.dst v) w') :
    Oper.uponIn Fence.wide 0 P o a next Q ((o.semAt Fence.wide.round a.eval).run P w):=by
 rw[show Fence.wide.round=none from rfl,Oper.semAt_none,h]
 exact hn
theorem CC {P:Program} {o:Oper} {a:Act} {w w':World} {next:Act→World→Prop} {Q:Exit→Act→World→Prop} (h:(execOp a.eval o).run P w=.ok .skip w') (hn:next (a.put o.dst undef) w') :
    Oper.uponIn Fence.wide 0 P o a next Q ((o.semAt Fence.wide.round a.eval).run P w):=by
 rw[show Fence.wide.round=none from rfl,Oper.semAt_none,h]
 exact hn
theorem afx (e:Nat) (i0 i1:Nat) (cs0:List AV) (x1:AV) (hi:i0≠i1) (hc0:cs0.length=7) :
    rk Tryz.prog 23 [(i0,.var cs0),(i1,.var [x1])] [.ab i0 0,.ab i1 0] (ic e) [(i1,.var [.int .i64 (e:Nat)]),(i0,.var bZ)]:=by
 intro X0 ρ w vs hh hA hX hvs hrv
 obtain⟨v0,v1,rfl⟩:=Dy hvs
 have hnt:Tryz.f23.ntmps=12:=Tryz.ntmps23
 generalize hh0:([(i0,.var cs0),(i1,.var [x1])]:HP)=h at *
 let E0:Env:=⟨w,bQ ρ h,X0,Tryz.f23.ntmps,0,fun k=>#[v0,v1].getD (k-2000000) undef,none,w.heap.size,Nat.le_refl _,[]⟩
 have g0:au E0 ρ ⟨hZ [.ab i0 0,.ab i1 0],h⟩ {tmps:=#[v0,v1]++Array.replicate (Tryz.f23.ntmps-#[v0,v1].size) undef,defers:=[]} w:=uG (B:=0) (by rw[hnt];decide) (by rw[hnt];exact(by decide:2≤12)) hh hA hX hvs hrv [] rfl
 have hE:∀d,d<12→d<E0.N:=fun d hd=>by show d<Tryz.f23.ntmps;rw[hnt];exact hd
 have g1:=(((((g0.put 5 (hE 5 (by decide)) (v:=ic e) (av:=.undef) (.undef _ _)).put 6 (hE 6 (by decide)) (v:=.tuple #[.int .i64 (e:Nat),.bool true]) (av:=.undef) (.undef _ _)).put 4 (hE 4 (by decide)) (v:=.tuple #[.int .i64 (e:Nat),.bool true]) (av:=.undef) (.undef _ _)).put 7 (hE 7 (by decide)) (v:=.int .i64 (e:Nat)) (av:=.int .i64 (e:Nat)) (.int _ _ _)).put 8 (hE 8 (by decide)) (v:=.bool true) (av:=.bool true) (.bool _ _)).put 2 (hE 2 (by decide)) (v:=.int .i64 (e:Nat)) (av:=.int .i64 (e:Nat)) (.int _ _ _)
 have g2:=g1.put 3 (hE 3 (by decide)) (v:=.bool true) (av:=.bool true) (.bool _ _)
 have g3:=g2.put 9 (hE 9 (by decide)) (v:=.bool true) (av:=.bool true) (.bool _ _)
 have g4:=(g3.put 10 (hE 10 (by decide)) (v:=zeroV) (av:=.agg bZ) (aBR _ _ _)).put 11 (hE 11 (by decide)) (v:=.int .i64 (e:Nat)) (av:=.int .i64 (e:Nat)) (.int _ _ _)
 have b3:=cz g2 (.tmp 3)
 have b9:=cz g3 (.tmp 9)
 have b2:=cz g3 (.tmp 2)
 clear g0 g1 g2 g3
 generalize hac:(((((((((({tmps:=#[v0,v1]++Array.replicate (Tryz.f23.ntmps-#[v0,v1].size) undef,defers:=[]}:Act).put (some 5) (ic e)).put (some 6) (.tuple #[.int .i64 (e:Nat),.bool true])).put (some 4) (.tuple #[.int .i64 (e:Nat),.bool true])).put (some 7) (.int .i64 (e:Nat))).put (some 8) (.bool true)).put (some 2) (.int .i64 (e:Nat))).put (some 3) (.bool true)).put (some 9) (.bool true)).put (some 10) zeroV).put (some 11) (.int .i64 (e:Nat))=ac at g4
 have had:ac.defers=[]:=by rw[←hac];rfl
 have fin:∃w1 w2,(Instr.storeAt 30 (ac.eval (.tmp 0)) (ac.eval (.tmp 10))).run Tryz.prog w=.ok () w1∧(Instr.storeAt 23 (ac.eval (.tmp 1)) (ac.eval (.tmp 11))).run Tryz.prog w1=.ok () w2 ∧
     ∃ρ' st',au E0 ρ' st' ac w2∧st'.h=[(i1,.var [.int .i64 (e:Nat)]),(i0,.var bZ)]∧sget st'.s 2000000=some (.ab i0 0)∧sget st'.s 2000001=some (.ab i1 0):=by
  subst hh0
  have g4:=g4.weaken (st':=⟨[(0,.ab i0 0),(1,.ab i1 0),(10,.agg bZ),(11,.int .i64 (e:Nat)),(2000000,.ab i0 0),(2000001,.ab i1 0)],[(i0,.var cs0),(i1,.var [x1])]⟩) (by exact⟨rfl,rfl,rfl,rfl,rfl,rfl,trivial⟩) (by simp[dZ,hget,hi,hi.symm])
  have hx0:=cz g4 (.tmp 0)
  have hx10:=cz g4 (.tmp 10)
  obtain⟨w1,ρ1,st1,r1,g5,K⟩:=se g4 MO hx0 hx10 (K:=fun _ st1=>st1=⟨[(0,.ab i0 0),(1,.ab i1 0),(10,.agg bZ),(11,.int .i64 (e:Nat)),(2000000,.ab i0 0),(2000001,.ab i1 0)],[(i0,.var bZ),(i1,.var [x1])]⟩) (by
   simp[effSt,hget,cc,hdel,hc0,hi,hi.symm,dm,bZ,bb,cellsOf,isCell,ev,trE,sget])
  subst K
  have hx1:=cz g5 (.tmp 1)
  have hx11:=cz g5 (.tmp 11)
  obtain⟨w2,ρ2,st2,r2,g6,K⟩:=se g5 MY hx1 hx11 (K:=fun _ st1=>st1=⟨[(0,.ab i0 0),(1,.ab i1 0),(10,.agg bZ),(11,.int .i64 (e:Nat)),(2000000,.ab i0 0),(2000001,.ab i1 0)],[(i1,.var [.int .i64 (e:Nat)]),(i0,.var bZ)]⟩) (by
   simp[effSt,hget,cc,hdel,hi,hi.symm,dm,bb,cellsOf,isCell,ev,trE,sget])
  subst K
  exact⟨w1,w2,r1,r2,ρ2,_,g6,rfl,rfl,rfl⟩
 obtain⟨w1,w2,r1,r2,ρ2,st2,g6,e1,e2,e3⟩:=fin
 clear g4
 refine callsDIn_of_wpSIn Tryz.func23 rfl trivial fun c₀ cs hu=>?_
 apply wpSIn_seq
 apply wpSIn_region
 simp[wpOpsSIn,go_sem,recoverD,hu,cL,ic,Tryz.ntmps23,Exit.thenS,aws]
 refine wpSIn_of_wpIn rfl ?_
 refine wpIn_seq ?_
 refine wpIn_region ?_
 simp[wpOpsIn,Oper.wpIn,Oper.uponIn,Oper.semAt_none,go_sem,Region.wanted,Exit.then]
 refine wpIn_cond_true (by simp[Act.eval,Array.replicate]) ?_
 refine Eq.mpr (congrArg (fun a=>Code.wpIn Fence.wide 0 Tryz.prog _ _ a w) (a₂:=(((((((({tmps:=#[v0,v1]++Array.replicate (Tryz.f23.ntmps-#[v0,v1].size) undef,defers:=[]}:Act).put (some 5) (ic e)).put (some 6) (.tuple #[.int .i64 (e:Nat),.bool true])).put (some 4) (.tuple #[.int .i64 (e:Nat),.bool true])).put (some 7) (.int .i64 (e:Nat))).put (some 8) (.bool true)).put (some 2) (.int .i64 (e:Nat))).put (some 3) (.bool true)).put (some 9) (.bool true)) ?_) ?_
 ·simp[Act.put,hnt,ic]
 refine wpIn_region_list (wpListIn_plain rfl (fun next hnext=>⟨fun _ _=>trivial,?_⟩))
 refine lv (v:=zeroV) (w':=w) (by simp[execOp,Ss]) (hnext _ _ ?_)
 refine wpListIn_plain rfl (fun next hnext=>⟨fun _ _=>trivial,?_⟩)
 refine lv (v:=.int .i64 (e:Nat)) (w':=w) (by simp[execOp,Act.eval,Act.put,hnt]) (hnext _ _ ?_)
 refine wpListIn_plain rfl (fun next hnext=>⟨fun _ _=>trivial,?_⟩)
 rw[hac]
 refine CC (w':=w1) (by simp[execOp,r1]) (hnext _ _ ?_)
 refine wpListIn_plain rfl (fun next hnext=>⟨fun _ _=>trivial,?_⟩)
 refine CC (w':=w2) (by simp only[Act.put];simp[execOp,r2]) (hnext _ _ ?_)
 refine⟨had,_,rfl,.tuple #[],by simp[results,Tryz.results23],⟨_,rfl⟩,rfl,ρ2,?_,?_,g6.aL.os,g6.aL.tape,g6.aL.output,g6.aL.size,g6.aL.block,?_⟩
 ·have:=g6.heap
  rw[e1]at this
  exact this
 ·intro j v x h1 h2
  have hj:j<2:=(List.getElem?_eq_some_iff.1 h2).1
  have hgv:∀k,2000000≤k→bN E0 ac k=E0.gv k:=fun k hk=>by
   unfold bN
   rw[if_neg (by show ¬k<Tryz.f23.ntmps;rw[hnt];omega)]
  obtain rfl | rfl:j=0∨j=1:=by omega
  ·obtain rfl:v0=v:=by simpa using h1
   obtain rfl:AV.ab i0 0=x:=by simpa using h2
   have hr:=(g6.bD _ _ e2).2
   rw[hgv _ (Nat.le_refl _),e1]at hr
   exact hr
  ·obtain rfl:v1=v:=by simpa using h1
   obtain rfl:AV.ab i1 0=x:=by simpa using h2
   have hr:=(g6.bD _ _ e3).2
   rw[hgv _ (Nat.le_succ _),e1]at hr
   exact hr
 ·rintro b ⟨id,W,L,h1,h2,h3⟩
  rw[←e1]at h1
  exact g6.base id W L b h1 h2 h3
open Eng Sh
set_option maxRecDepth 10000
def cg (b:Bs) (p:Nat):HP:=[(143032,.var [.str b,.int .i64 p])]
theorem dv {p:Prop} (h:p:=by simp(disch:=first | omega | (simp only[Lx];omega))only[go_sem,simprocAttr,cg]):p:=h
theorem ky {a b:Prop} (k:b) (h:b→a:=by intro h;simp(disch:=first | omega | (simp only[Lx];omega))only[go_sem,simprocAttr,cg];exact h):a:=h k
theorem mJ {E0:Prop} {a b:Prop} (e0:E0) (k:b) (h:E0→b→a:=by intro e0 h;simp(disch:=first | omega | (simp only[Lx];omega))only[go_sem,simprocAttr,cg,e0];exact h):a:=h e0 k
theorem DK {E0 E1:Prop} {a b:Prop} (e0:E0) (e1:E1) (k:b) (h:E0→E1→b→a:=by intro e0 e1 h;simp(disch:=first | omega | (simp only[Lx];omega))only[go_sem,simprocAttr,cg,e0,e1];exact h):a:=h e0 e1 k
theorem Kx {t:TypeId} {n:Int} {e:Nat} {st:St} (ht:t=61:=by rfl) (hn:n=(e:Nat):=by rfl):(KQ.dies (ic e)).ap (.panic (cL (.iface t (.int .i64 n)))) st:=by
 subst ht hn;exact of_eq_true pV
theorem qn (b:Bs) (p:Nat) (hb:b.length≤1000000) (h:p<b.length):Eng.Spec Tryz.prog 51 (cg b p) [.ab 143032 0] (fun h' v ar=>h'=cg b (p+1)∧v=.int .i64 ((b.getD p 0).toNat:Nat)∧ar=[.ab 143032 0]):=by
 refine Cod.ae5 (fun E R hN hR=>?_)
 have hu:=(b.getD p 0).toNat_lt
 have e1:((p:Int)+1-1).toNat=p:=by omega
 refine mJ e1 ?_
 exact hR.le dv ⟨rfl,rfl,rfl⟩
theorem qm (b:Bs) (p:Nat) (hp:p≤2000000) (hb:b.length≤1000000) (h:b.length≤p):Eng.gL Tryz.prog 51 (cg b p) [.ab 143032 0] (ic 6):=by
 refine Cod.ae4 (fun E hN=>?_)
 refine ky ?_
 exact Kx
def headR (b:Bs):Nat→Nat→Nat→Nat→Nat×Nat×Nat
 | 0,p,_,_=>if b.length≤p then(0,0,6)else(0,0,3)
 | m+1,p,size,sh=>if b.length≤p then(0,0,6)else if(b.getD p 0).toNat<128 then(size+(b.getD p 0).toNat%128*2^sh,p+1,0)else headR b m (p+1) (size+(b.getD p 0).toNat%128*2^sh) (sh+7)
def bT (b:Bs) (p:Nat):Nat×Nat×Nat×Nat:=
 if b.length≤p then(0,0,0,6)else if(b.getD p 0).toNat<128 then((b.getD p 0).toNat/16%8,(b.getD p 0).toNat%16,p+1,0)else
 if(headR b 4 (p+1) ((b.getD p 0).toNat%16) 4).2.2≠0 then(0,0,0,(headR b 4 (p+1) ((b.getD p 0).toNat%16) 4).2.2)else
 ((b.getD p 0).toNat/16%8,(headR b 4 (p+1) ((b.getD p 0).toNat%16) 4).1,(headR b 4 (p+1) ((b.getD p 0).toNat%16) 4).2.1,0)
theorem mS {x n:Nat} (hx:x<1000000) (hn:n≤10):bits .and .i64 (x:Int) ((2^n-1:Nat):Int)=((x%2^n:Nat):Int):=by
 have hp:2^n≤2^10:=Nat.pow_le_pow_right (by decide) hn
 have hp1:0<2^n:=Nat.pow_pos (by decide)
 have:=Nat.mod_lt x hp1
 show IntKind.i64.wrap ((BitVec.ofInt 64 (x:Int) &&& BitVec.ofInt 64 ((2^n-1:Nat):Int)).toNat:Int)=_
 rw[BitVec.ofInt_natCast,BitVec.ofInt_natCast,BitVec.toNat_and,BitVec.toNat_ofNat,BitVec.toNat_ofNat,Nat.mod_eq_of_lt (by omega),Nat.mod_eq_of_lt (by omega),Nat.and_two_pow_sub_one_eq_mod]
 exact ib (by omega)
theorem acD {x k c:Nat} (hx:x<2^k) (hk:k≤32) (hc:c<128):bits .or .i64 (x:Int) (IntKind.i64.wrap ((c:Int)*2^min k 64))=((x+c*2^k:Nat):Int):=by
 have hp:2^k≤2^32:=Nat.pow_le_pow_right (by decide) hk
 have h2:c*2^k≤127*2^32:=Nat.mul_le_mul (by omega) hp
 have e:IntKind.i64.wrap ((c:Int)*2^min k 64)=((c*2^k:Nat):Int):=by
  rw[Nat.min_eq_left (by omega),show((c:Int)*2^k)=((c*2^k:Nat):Int)by push_cast;rfl]
  exact ib (by omega)
 rw[e]
 show IntKind.i64.wrap ((BitVec.ofInt 64 (x:Int) ||| BitVec.ofInt 64 ((c*2^k:Nat):Int)).toNat:Int)=_
 rw[BitVec.ofInt_natCast,BitVec.ofInt_natCast,BitVec.toNat_or,BitVec.toNat_ofNat,BitVec.toNat_ofNat,Nat.mod_eq_of_lt (by omega),Nat.mod_eq_of_lt (by omega),Nat.or_comm,←Nat.shiftLeft_eq,←Nat.shiftLeft_add_eq_or_of_lt hx,Nat.shiftLeft_eq,Nat.add_comm]
 exact ib (by omega)
set_option maxHeartbeats 1000000 in
theorem AW (b:Bs) (p:Nat) (hb:b.length≤1000000) (hp:p≤1000000) {E:Env} (hN:E.N≤1000000) (Q:KQ)
    (hret:(bT b p).2.2.2=0→Q.ap .ret ⟨[(2,.int .i64 ((bT b p).1:Nat)),(3,.int .i64 ((bT b p).2.1:Nat)),(2000000,.ab 143032 0)],cg b (bT b p).2.2.1⟩)
    (hdie:∀st,(bT b p).2.2.2≠0→Q.ap (.panic (cL (ic (bT b p).2.2.2))) st) :
    vcW Tryz.prog E Cod.qo Q ⟨[(0,.ab 143032 0),(2000000,.ab 143032 0)],cg b p⟩:=by
 generalize hH:bT b p=H at *
 unfold bT at hH
 by_cases h0:b.length≤p
 ·rw[if_pos h0]at hH
  subst hH
  refine wW ?_
  refine lZ (cg b p) (qm b p (by omega) hb h0) dv ?_
  exact hdie _ (by decide)
 ·rw[if_neg h0]at hH
  have hu:=(b.getD p 0).toNat_lt
  have hby:=qn b p hb (by omega)
  generalize (b.getD p 0).toNat=c at *
  have hsh:((c:Nat):Int).fdiv (2^min 4 64)=((c/16:Nat):Int):=by
   rw[Nat.min_eq_left (by decide),Int.fdiv_eq_ediv_of_nonneg _ (by decide)];omega
  have hk7:bits .and .i64 ((c/16:Nat):Int) 7=((c/16%8:Nat):Int):=mS (n:=3) (by omega) (by decide)
  have hk15:bits .and .i64 (c:Int) 15=((c%16:Nat):Int):=mS (n:=4) (by omega) (by decide)
  refine wW ?_
  refine kO ?_
  refine aI (cg b p) hby dv nofun ?_
  rintro h' v ar ⟨rfl,rfl,rfl⟩
  refine⟨dv,rfl,?_⟩
  refine ck hsh hk7 hk15 ?_
  refine aK hN (fun q:Nat×Nat×Nat×Nat=>⟨[(0,.ab 143032 0),(2,.int .i64 0),(3,.int .i64 0),(4,.int .i64 q.2.2.2),(5,.int .i64 (c/16%8:Nat)),(6,.int .i64 q.2.2.1),(7,.int .i64 (4+7*(4-q.1):Nat)),(2000000,.ab 143032 0)],cg b q.2.1⟩)
   (fun q=>q.1≤4∧q.2.1≤1000000∧q.2.2.1<2^(4+7*(4-q.1))∧q.2.2.2<256∧(if q.2.2.2<128 then H=(c/16%8,q.2.2.1,q.2.1,0)else
    H=if(headR b q.1 q.2.1 q.2.2.1 (4+7*(4-q.1))).2.2≠0 then(0,0,0,(headR b q.1 q.2.1 q.2.2.1 (4+7*(4-q.1))).2.2)else(c/16%8,(headR b q.1 q.2.1 q.2.2.1 (4+7*(4-q.1))).1,(headR b q.1 q.2.1 q.2.2.1 (4+7*(4-q.1))).2.1,0)))
   (fun q=>if q.2.2.2<128 then 0 else q.1+1) (4,p+1,c%16,c) (.le dv) ⟨by simp,by simp only;omega,by simp only;omega,hu,by
    by_cases hc:c<128
    ·rw[if_pos hc]at hH;simp only[if_pos hc];exact hH.symm
    ·rw[if_neg hc]at hH;simp only[if_neg hc];exact hH.symm⟩ ?_
  clear hH hby hsh hk15
  rintro⟨m,p2,n,d⟩ R1 ⟨hm,hp2,hn,hd,hH⟩ hR1
  simp only at hm hp2 hn hd hH
  generalize hshe:4+7*(4-m)=sh at *
  by_cases hc:d<128
  ·rw[if_pos hc]at hH
   subst hH
   have hret:=hret rfl
   simp only[cg]at hret
   refine mJ hshe ?_
   exact hret
  ·rw[if_neg hc]at hH
   by_cases hend:b.length≤p2
   ·have hR0:headR b m p2 n sh=(0,0,6):=by cases m with | zero=>exact if_pos hend | succ m=>exact if_pos hend
    rw[hR0,if_pos (by decide)]at hH
    subst hH
    refine mJ hshe ?_
    refine lZ (cg b p2) (qm b p2 (by omega) hb hend) dv ?_
    exact hdie _ (by decide)
   ·have hby:=qn b p2 hb (by omega)
    have hu:=(b.getD p2 0).toNat_lt
    cases m with
    | zero=>
     have hR0:headR b 0 p2 n sh=(0,0,3):=if_neg hend
     rw[hR0,if_pos (by decide)]at hH
     subst hH
     refine mJ hshe ?_
     refine kO ?_
     refine aI (cg b p2) hby dv nofun ?_
     rintro h' v ar ⟨rfl,rfl,rfl⟩
     refine⟨dv,rfl,?_⟩
     have hgt:(25:Int)<(sh:Int):=by omega
     refine bm hgt hshe ?_
     exact hdie _ (by decide)
    | succ m=>
     have hR0:headR b (m+1) p2 n sh=if(b.getD p2 0).toNat<128 then(n+(b.getD p2 0).toNat%128*2^sh,p2+1,0)else headR b m (p2+1) (n+(b.getD p2 0).toNat%128*2^sh) (sh+7):=if_neg hend
     rw[hR0]at hH
     generalize (b.getD p2 0).toNat=x at *
     have hk:bits .and .i64 (x:Int) 127=((x%128:Nat):Int):=mS (n:=7) (by omega) (by decide)
     have ho:=acD (x:=n) (k:=sh) (c:=x%128) hn (by omega) (Nat.mod_lt _ (by decide))
     have hn2:n+x%128*2^sh<2^(sh+7):=by
      have h1:x%128≤127:=by omega
      have h2:x%128*2^sh≤127*2^sh:=Nat.mul_le_mul_right _ h1
      rw[Nat.pow_add]
      omega
     have hgt:¬(25:Int)<(sh:Int):=by omega
     have hs7:sh+7=4+7*(4-m):=by omega
     have aN:n+x%128*2^sh<4294967296:=by
      have:2^(sh+7)≤2^32:=Nat.pow_le_pow_right (by decide) (by omega)
      omega
     refine mJ hshe ?_
     refine kO ?_
     refine aI (cg b p2) hby dv nofun ?_
     rintro h' v ar ⟨rfl,rfl,rfl⟩
     refine⟨dv,rfl,?_⟩
     refine eC hgt hshe hk ho ?_
     generalize hz:n+x%128*2^sh=z at *
     rw[hs7]at hH hn2
     refine hR1 (m,p2+1,z,x) _ ?_ ⟨by simp only;omega,by simp only;omega,hn2,hu,?_⟩ (.le ?_)
     ·simp only[if_neg hc];split<;>omega
     ·simp only
      by_cases hx:x<128
      ·rw[if_pos hx]at hH ⊢
       rw[if_neg (by simp)]at hH
       exact hH
      ·rw[if_neg hx]at hH ⊢
       exact hH
     ·simp(disch:=omega)only[go_sem,simprocAttr,cg,←hs7]
theorem afQ (b:Bs) (p:Nat) (hb:b.length≤1000000) (hp:p≤1000000) (he:(bT b p).2.2.2=0):Eng.Spec Tryz.prog 24 (cg b p) [.ab 143032 0]
    (fun h' v ar=>h'=cg b (bT b p).2.2.1∧v=.ak [.int .i64 ((bT b p).1:Nat),.int .i64 ((bT b p).2.1:Nat)]∧ar=[.ab 143032 0]):=by
 refine Cod.afR (fun E R hN hR=>?_)
 refine AW b p hb hp hN _ (fun _=>?_) (fun st h=>absurd he h)
 refine ky ?_
 exact hR.le dv ⟨rfl,rfl,rfl⟩
theorem afO (b:Bs) (p:Nat) (hb:b.length≤1000000) (hp:p≤1000000) (he:(bT b p).2.2.2≠0):Eng.gL Tryz.prog 24 (cg b p) [.ab 143032 0] (ic (bT b p).2.2.2):=by
 refine Cod.afP (fun E hN=>?_)
 exact AW b p hb hp hN _ (fun h=>absurd h he) (fun st _=>of_eq_true pV)
def gB (b:Bs):Nat→Nat→Nat→Nat×Nat×Nat
 | 0,_,_=>(0,0,6)
 | k+1,p,n=>if b.length≤p then(0,0,6)else if(b.getD p 0).toNat<128 then(n+(b.getD p 0).toNat%128,p+1,0)else if 16777216<n+(b.getD p 0).toNat%128 then(0,0,3)else gB b k (p+1) ((n+(b.getD p 0).toNat%128+1)*128)
theorem gN (b:Bs) (k p n:Nat):gB b (k+1) p n=if b.length≤p then(0,0,6)else if(b.getD p 0).toNat<128 then(n+(b.getD p 0).toNat%128,p+1,0)else if 16777216<n+(b.getD p 0).toNat%128 then(0,0,3)else gB b k (p+1) ((n+(b.getD p 0).toNat%128+1)*128):=rfl
def cm (b:Bs) (p:Nat):Nat×Nat×Nat:=gB b (b.length+1-p) p 0
theorem mU (b:Bs) {p:Nat} (h:b.length≤p) (k n:Nat):gB b k p n=(0,0,6):=by
 cases k with
 | zero=>rfl
 | succ k=>rw[gN,if_pos h]
theorem acz {x b:Nat} (hx:x<281474976710656) (hb:b<128):bits .or .i64 (IntKind.i64.wrap ((x:Int)*2^min 7 64)) (b:Int)=((128*x+b:Nat):Int):=by
 have h1:((x:Int)*2^min 7 64)=((x*128:Nat):Int):=by
  rw[show((2:Int)^min 7 64)=128 by decide];omega
 rw[h1,ib (by omega)]
 show IntKind.i64.wrap ((BitVec.ofInt 64 ((x*128:Nat):Int) ||| BitVec.ofInt 64 (b:Int)).toNat:Int)=_
 rw[BitVec.ofInt_natCast,BitVec.ofInt_natCast,BitVec.toNat_or,BitVec.toNat_ofNat,BitVec.toNat_ofNat,Nat.mod_eq_of_lt (by omega),Nat.mod_eq_of_lt (by omega)]
 have h2:x*128 ||| b=128*x+b:=by
  have h3:=Nat.shiftLeft_add_eq_or_of_lt (b:=b) (i:=7) (by omega) x
  rw[Nat.shiftLeft_eq,show(2:Nat)^7=128 by decide]at h3
  omega
 rw[h2]
 exact ib (by omega)
set_option maxHeartbeats 1000000 in
theorem AJ (b:Bs) (p:Nat) (hb:b.length≤1000000) (hp:p≤1000000) {E:Env} (hN:E.N≤1000000) (Q:KQ)
    (hret:(cm b p).2.2=0→Q.ap .ret ⟨[(2,.int .i64 ((cm b p).1:Nat)),(2000000,.ab 143032 0)],cg b (cm b p).2.1⟩)
    (hdie:∀st,(cm b p).2.2≠0→Q.ap (.panic (cL (ic (cm b p).2.2))) st) :
    vcW Tryz.prog E Cod.ql Q ⟨[(0,.ab 143032 0),(2000000,.ab 143032 0)],cg b p⟩:=by
 generalize hH:cm b p=H at *
 by_cases h0:b.length≤p
 ·rw[cm,mU b h0]at hH
  subst hH
  refine wW ?_
  refine lZ (cg b p) (qm b p (by omega) hb h0) dv ?_
  exact hdie _ (by decide)
 ·rw[cm,show b.length+1-p=(b.length-p)+1 by omega,gN,if_neg h0]at hH
  have hu:=(b.getD p 0).toNat_lt
  have hby:=qn b p hb (by omega)
  generalize (b.getD p 0).toNat=c at *
  have hk:bits .and .i64 (c:Int) 127=((c%128:Nat):Int):=mS (n:=7) (by omega) (by decide)
  refine wW ?_
  refine kO ?_
  refine aI (cg b p) hby dv nofun ?_
  rintro h' v ar ⟨rfl,rfl,rfl⟩
  refine⟨dv,rfl,?_⟩
  refine aw hk ?_
  refine aK hN (fun q:Nat×Nat×Nat=>⟨[(0,.ab 143032 0),(2,.int .i64 0),(3,.int .i64 q.2.2),(4,.int .i64 q.2.1),(2000000,.ab 143032 0)],cg b q.1⟩)
   (fun q=>q.1≤1000001∧q.2.1<4294967296∧q.2.2<256∧(if q.2.2<128 then H=(q.2.1,q.1,0)else if 16777216<q.2.1 then H=(0,0,3)else ∃k,b.length-q.1<k∧gB b k q.1 ((q.2.1+1)*128)=H))
   (fun q=>b.length+1-q.1) (p+1,c%128,c) (.le dv) ⟨by simp only;omega,by simp only;omega,hu,by
    simp only
    by_cases hc:c<128
    ·rw[if_pos hc,Nat.zero_add]at hH;rw[if_pos hc];exact hH.symm
    ·rw[if_neg hc,Nat.zero_add]at hH
     rw[if_neg hc]
     by_cases hg:16777216<c%128
     ·omega
     ·rw[if_neg hg]at hH ⊢
      exact⟨_,by omega,hH⟩⟩ ?_
  clear hH hby hk
  rintro⟨p2,n,d⟩ R1 ⟨hp2,hn,hd,hH⟩ hR1
  simp only at hp2 hn hd hH
  by_cases hc:d<128
  ·rw[if_pos hc]at hH
   subst hH
   have hret:=hret rfl
   simp only[cg]at hret
   refine ky ?_
   exact hret
  ·rw[if_neg hc]at hH
   by_cases hg:16777216<n
   ·rw[if_pos hg]at hH
    subst hH
    refine ky ?_
    exact hdie _ (by decide)
   ·rw[if_neg hg]at hH
    obtain⟨k,hk,hH⟩:=hH
    by_cases hend:b.length≤p2
    ·rw[mU b hend]at hH
     subst hH
     refine ky ?_
     refine lZ (cg b p2) (qm b p2 (by omega) hb hend) dv ?_
     exact hdie _ (by decide)
    ·have hby:=qn b p2 hb (by omega)
     have hu:=(b.getD p2 0).toNat_lt
     obtain⟨k,rfl⟩:∃k',k=k'+1:=⟨k-1,by omega⟩
     rw[gN,if_neg hend]at hH
     generalize (b.getD p2 0).toNat=x at *
     have hk2:bits .and .i64 (x:Int) 127=((x%128:Nat):Int):=mS (n:=7) (by omega) (by decide)
     have ho:=acz (x:=n+1) (b:=x%128) (by omega) (Nat.mod_lt _ (by decide))
     have e1:((n+1:Nat):Int)=(n:Int)+1:=by omega
     rw[e1]at ho
     have e2:(n+1)*128+x%128=128*(n+1)+x%128:=by omega
     rw[e2]at hH
     refine ky ?_
     refine kO ?_
     refine aI (cg b p2) hby dv nofun ?_
     rintro h' v ar ⟨rfl,rfl,rfl⟩
     refine⟨dv,rfl,?_⟩
     refine bm hk2 ho ?_
     have hz:128*(n+1)+x%128<4294967296:=by omega
     generalize 128*(n+1)+x%128=z at *
     refine hR1 (p2+1,z,x) _ (by simp only;omega) ⟨by simp only;omega,hz,hu,?_⟩ (.le ?_)
     ·simp only
      by_cases hx:x<128
      ·rw[if_pos hx]at hH ⊢;exact hH.symm
      ·rw[if_neg hx]at hH ⊢
       by_cases hg2:16777216<z
       ·rw[if_pos hg2]at hH ⊢;exact hH.symm
       ·rw[if_neg hg2]at hH ⊢;exact⟨k,by omega,hH⟩
     ·exact dv
theorem aeg (b:Bs) (p:Nat) (hb:b.length≤1000000) (hp:p≤1000000) (he:(cm b p).2.2=0):Eng.Spec Tryz.prog 25 (cg b p) [.ab 143032 0]
    (fun h' v ar=>h'=cg b (cm b p).2.1∧v=.int .i64 ((cm b p).1:Nat)∧ar=[.ab 143032 0]):=by
 refine Cod.aeh (fun E R hN hR=>?_)
 refine AJ b p hb hp hN _ (fun _=>?_) (fun st h=>absurd he h)
 refine ky ?_
 exact hR.le dv ⟨rfl,rfl,rfl⟩
theorem aee (b:Bs) (p:Nat) (hb:b.length≤1000000) (hp:p≤1000000) (he:(cm b p).2.2≠0):Eng.gL Tryz.prog 25 (cg b p) [.ab 143032 0] (ic (cm b p).2.2):=by
 refine Cod.aef (fun E hN=>?_)
 exact AJ b p hb hp hN _ (fun h=>absurd h he) (fun st _=>of_eq_true pV)
set_option maxHeartbeats 1000000 in
theorem aqH (b:Bs) (p:Nat) (hb:b.length≤1000000) (hp:p≤1000000):aZ Tryz.prog 30 [.str b,.int .i64 p] (.ak [.int .i64 ((cm b p).1:Nat),.int .i64 ((cm b p).2.1:Nat),.int .i64 ((cm b p).2.2:Nat)]):=by
 refine Cod.aqI (fun E R hN hR=>?_)
 generalize hH:cm b p=H at *
 have hH:∃k,b.length-p<k∧gB b k p 0=H:=by
  by_cases hpb:p≤b.length
  ·exact⟨b.length+1-p,by omega,hH⟩
  ·refine⟨1,by omega,?_⟩
   rw[←hH,cm,mU b (by omega),mU b (by omega)]
 refine wW ?_
 refine aK hN (fun q:Nat×Nat=>⟨[(0,.str b),(1,.int .i64 p),(7,.int .i64 q.2),(8,.int .i64 q.1)],[]⟩)
  (fun q=>q.1≤b.length∧q.2<4294967296∧(if q.1=0 then q.2=0 else if 16777216<q.2 then H=(0,0,3)else ∃k,b.length-(p+q.1)<k∧gB b k (p+q.1) ((q.2+1)*128)=H))
  (fun q=>b.length+1-q.1) (0,0) (.le vV) ⟨by simp,by simp,by simp⟩ ?_
 rintro⟨i,n⟩ R1 ⟨hi,hn,hI⟩ hR1
 simp only at hi hn hI
 refine wW ?_
 refine cH (y:=Cod.B9) hN (fun m:Nat=>⟨[(0,.str b),(1,.int .i64 p),(7,.int .i64 m),(8,.int .i64 i)],[]⟩) (fun m=>m<4000000000∧∃k,b.length-(p+i)<k∧gB b k (p+i) m=H) (fun R2 hR2=>?_) (fun m hm=>?_)
 ·by_cases h0:i=0
  ·subst h0
   rw[if_pos rfl]at hI
   subst hI
   refine wW ?_
   exact hR2 0 _ ⟨by decide,hH⟩ (.le vV)
  ·rw[if_neg h0]at hI
   have hi0:(0:Int)<(i:Int):=by omega
   by_cases hg:16777216<n
   ·rw[if_pos hg]at hI
    subst hI
    refine aw hi0 ?_
    exact hR.ro ⟨rfl,rfl⟩
   ·rw[if_neg hg]at hI
    refine aw hi0 ?_
    exact hR2 ((n+1)*128) _ ⟨by omega,hI⟩ (.le vV)
 ·obtain⟨hml,k,hk,hI⟩:=hm
  by_cases hend:b.length≤p+i
  ·rw[mU b hend]at hI
   subst hI
   have hc:(b.length:Int)≤(p:Int)+(i:Int):=by omega
   refine aw hc ?_
   exact hR.ro ⟨rfl,rfl⟩
  ·have hc:¬(b.length:Int)≤(p:Int)+(i:Int):=by omega
   obtain⟨k,rfl⟩:∃k',k=k'+1:=⟨k-1,by omega⟩
   rw[gN,if_neg hend]at hI
   have hu:=(b.getD (p+i) 0).toNat_lt
   have et:((p:Int)+(i:Int)).toNat=p+i:=by omega
   generalize hx:(b.getD (p+i) 0).toNat=x at *
   have em:(x:Int).tmod 128=((x%128:Nat):Int):=by rw[fQ (by omega)];omega
   by_cases h8:x<128
   ·rw[if_pos h8]at hI
    subst hI
    refine eC hc et hx em ?_
    exact hR.ro ⟨rfl,rfl⟩
   ·rw[if_neg h8]at hI
    refine eC hc et hx em ?_
    refine hR1 (i+1,m+x%128) _ (by simp only;omega) ⟨by simp only;omega,by simp only;omega,?_⟩ (.le vV)
    simp only
    rw[if_neg (by omega)]
    by_cases hg:16777216<m+x%128
    ·rw[if_pos hg]at hI ⊢;exact hI.symm
    ·rw[if_neg hg]at hI ⊢;exact⟨k,by omega,hI⟩
def wP (k:Nat) (r:Nat×Nat×Nat):Nat×Nat×Nat×Nat:=if r.2.2≠0 then(0,0,0,r.2.2)else(k,r.1,r.2.1,0)
abbrev azv (H:Nat×Nat×Nat×Nat):AV:=.ak [.int .i64 (H.1:Nat),.int .i64 (H.2.1:Nat),.int .i64 (H.2.2.1:Nat),.int .i64 (H.2.2.2:Nat)]
set_option maxHeartbeats 1000000 in
theorem asO (b:Bs) (p:Nat) (hb:b.length≤1000000) (hp:p≤1000000):aZ Tryz.prog 29 [.str b,.int .i64 p] (azv (bT b p)):=by
 refine Cod.asP (fun E R hN hR=>?_)
 generalize hH:bT b p=H at *
 unfold bT at hH
 refine wW ?_
 refine aK hN (fun q:Nat×Nat×Nat×Nat=>⟨[(0,.str b),(1,.int .i64 p),(8,.int .i64 q.2.1),(9,.int .i64 q.2.2.1),(10,.int .i64 q.2.2.2),(11,.int .i64 q.1)],[]⟩)
  (fun q=>q.1≤5∧q.2.2.1<4294967296∧(if q.1=0 then q.2.1=0∧q.2.2.1=0 else q.2.2.2=2^(4+7*(q.1-1))∧q.2.2.1<2^(4+7*(q.1-1))∧q.2.1<8∧H=wP q.2.1 (headR b (5-q.1) (p+q.1) q.2.2.1 (4+7*(q.1-1)))))
  (fun q=>6-q.1) (0,0,0,1) (.le vV) ⟨by simp,by simp,by simp⟩ ?_
 rintro⟨i,kd,n,un⟩ R1 ⟨hi,hnl,hI⟩ hR1
 simp only at hi hnl hI
 by_cases hend:b.length≤p+i
 ·have hHe:H=(0,0,0,6):=by
   by_cases h0:i=0
   ·subst h0
    rw[if_pos (show b.length≤p by omega)]at hH
    exact hH.symm
   ·rw[if_neg h0]at hI
    rw[hI.2.2.2]
    have hR0:headR b (5-i) (p+i) n (4+7*(i-1))=(0,0,6):=by
     generalize 5-i=m
     cases m with
     | zero=>exact if_pos hend
     | succ m=>exact if_pos hend
    rw[hR0]
    rfl
  subst hHe
  have hc:(b.length:Int)≤(p:Int)+(i:Int):=by omega
  refine aw hc ?_
  exact hR.ro ⟨rfl,rfl⟩
 ·have hc:¬(b.length:Int)≤(p:Int)+(i:Int):=by omega
  by_cases h5:i=5
  ·subst h5
   rw[if_neg (by decide)]at hI
   have hHe:H=(0,0,0,3):=by
    rw[hI.2.2.2,show headR b (5-5) (p+5) n (4+7*(5-1))=(0,0,3)from if_neg hend]
    rfl
   subst hHe
   have hc5:¬(b.length:Int)≤(p:Int)+5:=by omega
   refine aw hc5 ?_
   exact hR.ro ⟨rfl,rfl⟩
  ·have hi5:¬((i:Int)=5):=by omega
   have hu:=(b.getD (p+i) 0).toNat_lt
   have et:((p:Int)+(i:Int)).toNat=p+i:=by omega
   generalize hx:(b.getD (p+i) 0).toNat=x at *
   have em:(x:Int).tmod 128=((x%128:Nat):Int):=by rw[fQ (by omega)];omega
   have e16:(x:Int).tmod 16=((x%16:Nat):Int):=by rw[fQ (by omega)];omega
   have d16:(x:Int).tdiv 16=((x/16:Nat):Int):=by rw[jV (by omega)];omega
   have e8:((x/16:Nat):Int).tmod 8=((x/16%8:Nat):Int):=by rw[fQ (by omega)];omega
   refine eC hc hi5 et hx ?_
   refine cH (y:=Cod.Cl) hN (fun q:Nat×Nat=>⟨[(0,.str b),(1,.int .i64 p),(8,.int .i64 q.1),(9,.int .i64 q.2),(10,.int .i64 (2^(4+7*i):Nat)),(11,.int .i64 i),(12,.int .i64 x)],[]⟩)
    (fun q=>q.2<2^(4+7*i)∧q.1<8∧(if x<128 then H=(q.1,q.2,p+i+1,0)else H=wP q.1 (headR b (4-i) (p+i+1) q.2 (4+7*i)))) (fun R2 hR2=>?_) (fun q hq=>?_)
   ·by_cases h0:i=0
    ·subst h0
     rw[if_neg (show ¬b.length≤p by omega)]at hH
     simp only[Nat.add_zero]at hx hH
     rw[hx]at hH
     refine ck e16 d16 e8 ?_
     refine hR2 (x/16%8,x%16) _ ⟨by simp only;omega,by simp only;omega,?_⟩ (.le vV)
     simp only
     by_cases h8:x<128
     ·rw[if_pos h8]at hH ⊢;exact hH.symm
     ·rw[if_neg h8]at hH ⊢;exact hH.symm
    ·have hi0:¬((i:Int)=0):=by omega
     rw[if_neg h0]at hI
     obtain⟨hun,hn,hkd,hHI⟩:=hI
     have hR0:headR b (5-i) (p+i) n (4+7*(i-1))=if(b.getD (p+i) 0).toNat<128 then(n+(b.getD (p+i) 0).toNat%128*2^(4+7*(i-1)),p+i+1,0)else headR b (4-i) (p+i+1) (n+(b.getD (p+i) 0).toNat%128*2^(4+7*(i-1))) (4+7*(i-1)+7):=by
      rw[show 5-i=(4-i)+1 by omega]
      exact if_neg hend
     rw[hR0,hx,show 4+7*(i-1)+7=4+7*i by omega]at hHI
     have hs:2^(4+7*i)=2^(4+7*(i-1))*128:=by
      rw[show 4+7*i=(4+7*(i-1))+7 by omega,Nat.pow_add]
     have hub:2^(4+7*(i-1))≤2^25:=Nat.pow_le_pow_right (by decide) (by omega)
     generalize 2^(4+7*(i-1))=u at *
     subst hun
     have hmul:x%128*un≤127*un:=Nat.mul_le_mul_right _ (by omega)
     have hmi:((x%128:Nat):Int)*(un:Int)=((x%128*un:Nat):Int):=by push_cast;rfl
     generalize hw:x%128*un=w at *
     refine ck hi0 em hmi ?_
     refine hR2 (kd,n+w) _ ⟨by simp only;omega,hkd,?_⟩ (.le (by rw[hs];exact vV))
     simp only
     by_cases h8:x<128
     ·rw[if_pos h8]at hHI ⊢;rw[hHI];rfl
     ·rw[if_neg h8]at hHI ⊢;exact hHI
   ·obtain⟨kd2,n2⟩:=q
    obtain⟨g1,g2,g3⟩:=hq
    simp only at g1 g2 g3 ⊢
    have hub:2^(4+7*i)≤2^32:=Nat.pow_le_pow_right (by decide) (by omega)
    by_cases h8:x<128
    ·rw[if_pos h8]at g3
     subst g3
     refine wW ?_
     exact hR.ro ⟨rfl,rfl⟩
    ·rw[if_neg h8]at g3
     refine wW ?_
     refine hR1 (i+1,kd2,n2,2^(4+7*i)) _ (by simp only;omega) ⟨by simp only;omega,by simp only;omega,?_⟩ (.le vV)
     simp only
     rw[if_neg (by omega),Nat.add_sub_cancel]
     exact⟨rfl,g1,g2,by rw[g3,show 5-(i+1)=4-i by omega,Nat.add_assoc]⟩
structure En where
 at_:Nat
 next:Nat
 kind:Nat
 data:Bs
 base:Nat
 id:Bs
 jc:W
def ez:En:=⟨0,0,0,[],0,[],0#32⟩
def eQ (e:En):List AV:=[.int .i64 e.at_,.int .i64 e.next,.int .i64 e.kind,.str e.data,.int .i64 e.base,.str e.id,.int .u32 e.jc.toNat]
def fW (b:Bs) (p k q:Nat):Nat×Bs×Nat×Nat:=
 if 1≤k∧k≤4 then(0,[],q,0)else
 if k=6 then(if(cm b q).2.2≠0 then(0,[],0,(cm b q).2.2)else if(cm b q).1<1∨p-12<(cm b q).1 then(0,[],0,3)else(p-(cm b q).1,[],(cm b q).2.1,0))else
 if k=7 then(if b.length-q<20 then(0,[],0,6)else(0,di ((b.drop q).take 20),q+20,0))else(0,[],0,10)
def iB (b:Bs) (p:Nat) (k size:Nat) (M:Nat×Bs×Nat×Nat):En×Nat:=
 if M.2.2.2≠0 then(ez,M.2.2.2)else if 65000<size then(ez,2)else
 if(fe (b.drop M.2.2.1) size).2.2=2∨((fe (b.drop M.2.2.1) size).2.2=0∧(fe (b.drop M.2.2.1) size).1.length<size)then(ez,3)else
 if(fe (b.drop M.2.2.1) size).2.2≠0 then(ez,(fe (b.drop M.2.2.1) size).2.2)else
 (⟨p,M.2.2.1+(fe (b.drop M.2.2.1) size).2.1,k,(fe (b.drop M.2.2.1) size).1,M.1,M.2.1,jd ((b.drop p).take (M.2.2.1+(fe (b.drop M.2.2.1) size).2.1-p))⟩,0)
def hO (b:Bs) (p:Nat):En×Nat:=
 if(bT b p).2.2.2≠0 then(ez,(bT b p).2.2.2)else iB b p (bT b p).1 (bT b p).2.1 (fW b p (bT b p).1 (bT b p).2.2.1)
def cQ (s:Bs) (a:Int):En×Nat:=if a<12∨(s.length:Int)-20<a then(ez,1)else hO (s.take (s.length-20)) a.toNat
theorem yo (b:Bs):∀(m p size sh:Nat),(headR b m p size sh).2.2=0→(headR b m p size sh).2.1≤b.length∧p<(headR b m p size sh).2.1
 | 0,p,size,sh=>by
  unfold headR
  split<;>intro h<;>cases h
 | m+1,p,size,sh=>by
  unfold headR
  split
  ·intro h;cases h
  ·split
   ·intro _;simp only;omega
   ·intro h
    have:=yo b m _ _ _ h
    omega
theorem yp (b:Bs):∀(m p size sh:Nat),size<2^sh→(headR b m p size sh).1<2^(sh+7*m)
 | 0,p,size,sh=>by
  intro _
  unfold headR
  split<;>exact Nat.pow_pos (by decide)
 | m+1,p,size,sh=>by
  intro hs
  have h2:∀x,size+x%128*2^sh<2^(sh+7):=by
   intro x
   have h1:x%128≤127:=by omega
   have h2:x%128*2^sh≤127*2^sh:=Nat.mul_le_mul_right _ h1
   rw[Nat.pow_add]
   omega
  unfold headR
  split
  ·exact Nat.pow_pos (by decide)
  ·split
   ·refine Nat.lt_of_lt_of_le (h2 _) (Nat.pow_le_pow_right (by decide) (by omega))
   ·have:=yp b m (p+1) _ (sh+7) (h2 (b.getD p 0).toNat)
    rw[show sh+7+7*m=sh+7*(m+1)by omega]at this
    exact this
theorem sM (b:Bs) (p:Nat) (h:(bT b p).2.2.2=0):(bT b p).2.2.1≤b.length∧p<(bT b p).2.2.1∧(bT b p).1<8∧(bT b p).2.1<4294967296:=by
 unfold bT at h ⊢
 split at h
 ·cases h
 ·rename_i h0
  rw[if_neg h0]
  have hu:=(b.getD p 0).toNat_lt
  split at h
  ·rename_i h1
   rw[if_pos h1]
   simp only
   omega
  ·rename_i h1
   rw[if_neg h1]
   split at h
   ·rename_i h2;exact(h2 h).elim
   ·rename_i h2
    rw[if_neg h2]
    have h3:=yo b 4 (p+1) ((b.getD p 0).toNat%16) 4 (by simpa using h2)
    have h4:=yp b 4 (p+1) ((b.getD p 0).toNat%16) 4 (by omega)
    simp only
    have h5:2^(4+7*4)=4294967296:=by decide
    omega
theorem oI (b:Bs):∀(k p n:Nat),(gB b k p n).2.2=0→(gB b k p n).2.1≤b.length∧p<(gB b k p n).2.1
 | 0,p,n=>by intro h;cases h
 | k+1,p,n=>by
  rw[gN]
  split
  ·intro h;cases h
  ·split
   ·intro _;simp only;omega
   ·split
    ·intro h;cases h
    ·intro h
     have:=oI b k _ _ h
     omega
theorem vH (b:Bs):∀(k p n:Nat),n≤2147483776→(gB b k p n).1<4294967296
 | 0,p,n,_=>by show 0<_;decide
 | k+1,p,n,hn=>by
  rw[gN]
  split
  ·decide
  ·split
   ·simp only;omega
   ·split
    ·decide
    ·exact vH b k _ _ (by omega)
theorem vL (b:Bs) (q:Nat) (h:(cm b q).2.2=0):(cm b q).1<4294967296:=vH b _ _ _ (by decide)
theorem tp (b:Bs) (p k q:Nat) (hq:q≤b.length) (h:(fW b p k q).2.2.2=0):(fW b p k q).2.2.1≤b.length∧q≤(fW b p k q).2.2.1:=by
 unfold fW at h ⊢
 split at h
 ·rename_i h1;rw[if_pos h1];exact⟨hq,Nat.le_refl _⟩
 ·rename_i h1
  rw[if_neg h1]
  split at h
  ·rename_i h2
   rw[if_pos h2]
   split at h
   ·rename_i h3;exact(h3 h).elim
   ·rename_i h3
    rw[if_neg h3]
    have:=oI b _ _ _ (by simpa[cm]using h3)
    split at h
    ·cases h
    ·rename_i h4;rw[if_neg h4];simp only[cm];omega
  ·rename_i h2
   rw[if_neg h2]
   split at h
   ·rename_i h3
    rw[if_pos h3]
    split at h
    ·cases h
    ·rename_i h4;rw[if_neg h4];simp only;omega
   ·cases h
theorem jO {st:St} {R:HP→AV→List AV→Prop} {t:TypeId} {n:Int} {e:Nat} (cs0:List AV) (x1:AV) (hn:n=(e:Nat)) (has:gm st 2 2=[.ab 143004 0,.ab 143005 0]) (hsub:dZ st.h [(143004,.var cs0),(143005,.var [x1])])
    (h:(KQ.post [.cell 4 true 7,.cell 5 false 1] 2 R).ap .ret (lU st 2 2 [(143004,.var cs0),(143005,.var [x1])] [(143005,.var [.int .i64 (e:Nat)]),(143004,.var bZ)])) (hc0:cs0.length=7:=by rfl) (ht:t=61:=by rfl) :
    (KQ.gC Tryz.prog [.cell 4 true 7,.cell 5 false 1] 2 2 23 R).ap (.panic (cL (.iface t (.int .i64 n)))) st:=by
 subst hn ht
 exact Ou [(143004,.var cs0),(143005,.var [x1])] [(143005,.var [.int .i64 (e:Nat)]),(143004,.var bZ)] has (afx e 143004 143005 cs0 x1 (by decide) hc0) rfl hsub h
set_option maxHeartbeats 1000000 in
theorem A6 (s:Bs) (a:Int) (hs:s.length≤1000000) (ha:-9223372036854775808≤a∧a≤9223372036854775807):aZ Tryz.prog 8 [.str s,.int .i64 a] (.ak [.agg (eQ (cQ s a).1),.int .i64 ((cQ s a).2:Nat)]):=by
 refine Cod.agJ afw (fun E R N hN hN2 hR=>?_)
 unfold cQ at hR
 by_cases h12:a<12
 ·rw[if_pos (.inl h12)]at hR
  refine wW ?_
  refine gG ?_
  exact hR.ro ⟨rfl,rfl⟩
 ·by_cases hbig:(s.length:Int)-20<a
  ·rw[if_pos (.inr hbig)]at hR
   refine wW ?_
   refine gG ?_
   exact hR.ro ⟨rfl,rfl⟩
  ·rw[if_neg (by omega)]at hR
   obtain⟨p,rfl⟩:∃p:Nat,a=(p:Int):=⟨a.toNat,by omega⟩
   rw[Int.toNat_natCast]at hR
   refine wW ?_
   refine gG ?_
   have et:((s.length:Int)-20).toNat=s.length-20:=by omega
   refine JT (fun E' hN'=>?_) hN2
   have hbl:(s.take (s.length-20)).length=s.length-20:=by rw[List.length_take];omega
   generalize hbb:s.take (s.length-20)=b at *
   refine bm et hbb ?_
   unfold hO at hR
   by_cases hhe:(bT b p).2.2.2=0
   ·rw[if_neg (by simpa using hhe)]at hR
    have hle:=sM b p hhe
    have hk:=afQ b p (by omega) (by omega) hhe
    generalize bT b p=H at *
    obtain⟨k,size,q,he⟩:=H
    simp only at hle hk hR
    refine kO ?_
    refine aI (cg b p) hk dv nofun ?_
    rintro h' v ar ⟨rfl,rfl,rfl⟩
    refine⟨dv,rfl,?_⟩
    have hml:=tp b p k q hle.1
    have hmd:fW b p k q=fW b p k q:=rfl
    generalize hM:fW b p k q=M at hR hml
    refine ky ?_
    refine cH (y:=Cod.A2) hN' (fun _:Unit=>⟨[(1,.int .i64 p),(4,.ab 143004 0),(5,.ab 143005 0),(6,.str b),(7,.ab 143032 0),(9,.int .i64 size),(2000002,.ab 143004 0),(2000003,.ab 143005 0)],
     [(143004,.var [.int .i64 p,.int .i64 0,.int .i64 k,.str [],.int .i64 M.1,.str M.2.1,.int .u32 0]),(143032,.var [.str b,.int .i64 M.2.2.1]),(143005,.var [.int .i64 0])]⟩) (fun _=>M.2.2.2=0) (fun R2 hR2=>?_) (fun _ hM0=>?_)
    ·-- between the head and the frame
     have hdz:∀e:Nat,e≠0→M.2.2.2=e→(iB b p k size M)=(ez,e):=by
      intro e he0 he
      unfold iB
      rw[if_pos (by rw[he];exact he0),he]
     have ksm:k<8:=hle.2.2.1
     refine wW ?_
     refine cH (y:=.cond (.t 44) .skip Cod.A4) hN' (fun _:Unit=>⟨[(1,.int .i64 p),(4,.ab 143004 0),(5,.ab 143005 0),(6,.str b),(7,.ab 143032 0),(9,.int .i64 size),(42,.int .i64 k),(44,.bool (decide (1≤k∧k≤4))),(2000002,.ab 143004 0),(2000003,.ab 143005 0)],
      [(143004,.var [.int .i64 p,.int .i64 0,.int .i64 k,.str [],.int .i64 0,.str [],.int .u32 0]),(143032,.var [.str b,.int .i64 q]),(143005,.var [.int .i64 0])]⟩) (fun _=>True) (fun R3 hR3=>?_) (fun _ _=>?_)
     ·by_cases k1:k=1
      ·subst k1
       refine wW ?_
       exact hR3 () _ trivial (.le vV)
      ·by_cases k2:k=2
       ·subst k2
        refine wW ?_
        exact hR3 () _ trivial (.le vV)
       ·by_cases k3:k=3
        ·subst k3
         refine wW ?_
         exact hR3 () _ trivial (.le vV)
        ·by_cases k4:k=4
         ·subst k4
          refine wW ?_
          exact hR3 () _ trivial (.le vV)
         ·have i1:¬(k:Int)=1:=by omega
          have i2:¬(k:Int)=2:=by omega
          have i3:¬(k:Int)=3:=by omega
          have i4:¬(k:Int)=4:=by omega
          rw[decide_eq_false (by omega)]at hR3
          refine eC i1 i2 i3 i4 ?_
          exact hR3 () _ trivial (.le vV)
     ·unfold fW at hM
      by_cases kk:1≤k∧k≤4
      ·rw[if_pos kk]at hM
       subst hM
       rw[decide_eq_true kk]
       refine wW ?_
       exact hR2 () _ rfl (.le vV)
      ·rw[if_neg kk]at hM
       rw[decide_eq_false kk]
       by_cases k6:k=6
       ·rw[if_pos k6]at hM
        subst k6
        by_cases hbe:(cm b q).2.2=0
        ·rw[if_neg (by simpa using hbe)]at hM
         have hbk:=aeg b q (by omega) (by omega) hbe
         have hbl:=oI b _ _ _ hbe
         change (cm b q).2.1≤b.length∧q<(cm b q).2.1 at hbl
         have hbs:=vL b q hbe
         generalize cm b q=B at *
         refine wW ?_
         refine kO ?_
         refine aI (cg b q) hbk dv nofun ?_
         rintro h' v ar ⟨rfl,rfl,rfl⟩
         refine⟨dv,rfl,?_⟩
         by_cases hb1:B.1<1∨p-12<B.1
         ·rw[if_pos hb1]at hM
          rw[hdz 3 (by decide) (by rw[←hM])]at hR
          by_cases hb2:B.1<1
          ·have i1:(B.1:Int)<1:=by omega
           refine mJ i1 ?_
           (repeat(first | refine dW ?_ | refine dU ?_ | refine dV ?_)<;>simp(disch:=omega)only[go_sem,simprocAttr,cg,i1])
           refine jO (t:=61) [.int .i64 p,.int .i64 0,.int .i64 6,.str [],.int .i64 0,.str [],.int .u32 0] (.int .i64 0) rfl ?_ ?_ ?_
           all_goals simp(disch:=omega)only[go_sem,simprocAttr,bZ]
           exact hR.ro ⟨rfl,rfl⟩
          ·have i1:¬(B.1:Int)<1:=by omega
           have i2:(p:Int)-12<(B.1:Int):=by omega
           refine DK i1 i2 ?_
           (repeat(first | refine dW ?_ | refine dU ?_ | refine dV ?_)<;>simp(disch:=omega)only[go_sem,simprocAttr,cg,i1,i2])
           refine jO (t:=61) [.int .i64 p,.int .i64 0,.int .i64 6,.str [],.int .i64 0,.str [],.int .u32 0] (.int .i64 0) rfl ?_ ?_ ?_
           all_goals simp(disch:=omega)only[go_sem,simprocAttr,bZ]
           exact hR.ro ⟨rfl,rfl⟩
         ·rw[if_neg hb1]at hM
          subst hM
          have i1:¬(B.1:Int)<1:=by omega
          have i2:¬(p:Int)-12<(B.1:Int):=by omega
          have i3:(p:Int)-(B.1:Int)=((p-B.1:Nat):Int):=by omega
          refine DK i1 i2 ?_
          (repeat(first | refine dW ?_ | refine dU ?_ | refine dV ?_)<;>simp(disch:=omega)only[go_sem,simprocAttr,cg,i1,i2])
          exact hR2 () _ rfl (.le (by rw[←i3];exact vV))
        ·rw[if_pos hbe]at hM
         have hd:=aee b q (by omega) (by omega) hbe
         rw[hdz _ hbe (by rw[←hM])]at hR
         generalize cm b q=B at *
         refine wW ?_
         refine lZ (cg b q) hd dv ?_
         refine jO (t:=61) [.int .i64 p,.int .i64 0,.int .i64 6,.str [],.int .i64 0,.str [],.int .u32 0] (.int .i64 0) rfl ?_ ?_ ?_
         all_goals simp(disch:=omega)only[go_sem,simprocAttr,ry,cg,bZ]
         exact hR.ro ⟨rfl,rfl⟩
       ·rw[if_neg k6]at hM
        have i6:¬(k:Int)=6:=by omega
        by_cases k7:k=7
        ·rw[if_pos k7]at hM
         subst k7
         by_cases h20:b.length-q<20
         ·rw[if_pos h20]at hM
          rw[hdz 6 (by decide) (by rw[←hM])]at hR
          have i1:(b.length:Int)-(q:Int)<20:=by omega
          refine aw i1 ?_
          refine jO (t:=61) [.int .i64 p,.int .i64 0,.int .i64 7,.str [],.int .i64 0,.str [],.int .u32 0] (.int .i64 0) rfl ?_ ?_ ?_
          all_goals simp(disch:=omega)only[go_sem,simprocAttr,bZ]
          exact hR.ro ⟨rfl,rfl⟩
         ·rw[if_neg h20]at hM
          subst hM
          have i1:¬(b.length:Int)-(q:Int)<20:=by omega
          have e20:q+20-q=20:=by omega
          have ei:((q:Int)+20).toNat-q=20:=by omega
          have hhx:=yt ((b.drop q).take 20) (by rw[List.length_take];omega)
          refine ck i1 e20 ei ?_
          refine aG hhx rfl rfl ?_
          refine wW ?_
          exact hR2 () _ rfl (.le vV)
        ·rw[if_neg k7]at hM
         rw[hdz 10 (by decide) (by rw[←hM])]at hR
         have i7:¬(k:Int)=7:=by omega
         refine bm i6 i7 ?_
         refine jO (t:=61) [.int .i64 p,.int .i64 0,.int .i64 k,.str [],.int .i64 0,.str [],.int .u32 0] (.int .i64 0) rfl ?_ ?_ ?_
         all_goals simp(disch:=omega)only[go_sem,simprocAttr,bZ]
         exact hR.ro ⟨rfl,rfl⟩
    ·unfold iB at hR
     rw[if_neg (by simpa using hM0)]at hR
     have hml:=hml hM0
     by_cases aN:65000<size
     ·rw[if_pos aN]at hR
      refine wW ?_
      refine jO (t:=61) [.int .i64 p,.int .i64 0,.int .i64 k,.str [],.int .i64 M.1,.str M.2.1,.int .u32 0] (.int .i64 0) rfl ?_ ?_ ?_
      all_goals simp(disch:=omega)only[go_sem,simprocAttr,bZ]
      exact hR.ro ⟨rfl,rfl⟩
     ·rw[if_neg aN]at hR
      have hz:=aCr b M.2.2.1 size (by omega) (by omega) (by omega)
      have hzl:=u4 (b.drop M.2.2.1) size
      rw[List.length_drop]at hzl
      generalize fe (b.drop M.2.2.1) size=Z at *
      refine wW ?_
      refine aG hz rfl rfl ?_
      refine wW ?_
      refine cH (y:=Cod.A3) hN' (fun _:Unit=>⟨[(1,.int .i64 p),(4,.ab 143004 0),(5,.ab 143005 0),(6,.str b),(7,.ab 143032 0),(11,.str Z.1),(12,.int .i64 Z.2.1),(2000002,.ab 143004 0),(2000003,.ab 143005 0)],
       [(143005,.var [.int .i64 (if Z.2.2=2∨(Z.2.2=0∧Z.1.length<size)then 3 else Z.2.2:Nat)]),(143004,.var [.int .i64 p,.int .i64 0,.int .i64 k,.str [],.int .i64 M.1,.str M.2.1,.int .u32 0]),(143032,.var [.str b,.int .i64 M.2.2.1])]⟩) (fun _=>True) (fun R3 hR3=>?_) (fun _ _=>?_)
      ·by_cases z2:Z.2.2=2
       ·rw[if_pos (.inl z2)]at hR3
        have i1:(Z.2.2:Int)=2:=by omega
        refine aw i1 ?_
        refine ct i1 ?_
        exact hR3 () _ trivial (.le vV)
       ·have i1:¬(Z.2.2:Int)=2:=by omega
        by_cases z0:Z.2.2=0
        ·have i2:(Z.2.2:Int)=0:=by omega
         by_cases zl:Z.1.length<size
         ·rw[if_pos (.inr ⟨z0,zl⟩)]at hR3
          refine bm i1 i2 ?_
          refine eL i1 i2 ?_
          exact hR3 () _ trivial (.le vV)
         ·rw[if_neg (by omega),z0]at hR3
          refine bm i1 i2 ?_
          refine eL i1 i2 ?_
          exact hR3 () _ trivial (.le vV)
        ·have i2:¬(Z.2.2:Int)=0:=by omega
         rw[if_neg (by omega)]at hR3
         refine bm i1 i2 ?_
         refine eL i1 i2 ?_
         exact hR3 () _ trivial (.le vV)
      ·by_cases zz:Z.2.2=2∨(Z.2.2=0∧Z.1.length<size)
       ·rw[if_pos zz]at hR ⊢
        refine wW ?_
        refine jO (t:=61) [.int .i64 p,.int .i64 0,.int .i64 k,.str [],.int .i64 M.1,.str M.2.1,.int .u32 0] (.int .i64 3) rfl ?_ ?_ ?_
        all_goals simp(disch:=omega)only[go_sem,simprocAttr,bZ]
        exact hR.ro ⟨rfl,rfl⟩
       ·rw[if_neg zz]at hR ⊢
        by_cases z0:Z.2.2=0
        ·rw[if_neg (by simpa using z0)]at hR
         have hcr:=Jk ((b.drop p).take (M.2.2.1+Z.2.1-p)) (by rw[List.length_take,List.length_drop];omega)
         have et2:((M.2.2.1:Int)+(Z.2.1:Int)).toNat-p=M.2.2.1+Z.2.1-p:=by omega
         rw[z0]
         refine aw et2 ?_
         refine aG hcr rfl rfl ?_
         refine wW ?_
         exact hR.ro ⟨rfl,rfl⟩
        ·rw[if_pos z0]at hR
         have i2:¬(Z.2.2:Int)=0:=by omega
         refine aw i2 ?_
         refine jO (t:=61) [.int .i64 p,.int .i64 0,.int .i64 k,.str [],.int .i64 M.1,.str M.2.1,.int .u32 0] (.int .i64 (Z.2.2:Nat)) rfl ?_ ?_ ?_
         all_goals simp(disch:=omega)only[go_sem,simprocAttr,bZ]
         exact hR.ro ⟨rfl,rfl⟩
   ·rw[if_pos hhe]at hR
    have hd:=afO b p (by omega) (by omega) hhe
    generalize bT b p=H at *
    refine lZ (cg b p) hd dv ?_
    refine jO (t:=61) [.int .i64 p,.int .i64 0,.int .i64 0,.str [],.int .i64 0,.str [],.int .u32 0] (.int .i64 0) rfl ?_ ?_ ?_
    all_goals simp(disch:=omega)only[go_sem,simprocAttr,ry,cg,bZ]
    exact hR.ro ⟨rfl,rfl⟩
set_option maxHeartbeats 1000000 in
theorem avr (s:Bs) (a:Int) (hs:s.length≤1000000) (ha:-9223372036854775808≤a∧a≤9223372036854775807):aZ Tryz.prog 9 [.str s,.int .i64 a] (.ak [.agg (eQ (cQ s a).1),.int .i64 ((cQ s a).2:Nat)]):=by
 refine Cod.avt (fun E R hN hR=>?_)
 unfold cQ at hR
 by_cases h12:a<12
 ·rw[if_pos (.inl h12)]at hR
  refine wW ?_
  refine gG ?_
  exact hR.ro ⟨rfl,rfl⟩
 ·by_cases hbig:(s.length:Int)-20<a
  ·rw[if_pos (.inr hbig)]at hR
   refine wW ?_
   refine gG ?_
   exact hR.ro ⟨rfl,rfl⟩
  ·rw[if_neg (by omega)]at hR
   obtain⟨p,rfl⟩:∃p:Nat,a=(p:Int):=⟨a.toNat,by omega⟩
   rw[Int.toNat_natCast]at hR
   have et:((s.length:Int)-20).toNat=s.length-20:=by omega
   have hbl:(s.take (s.length-20)).length=s.length-20:=by rw[List.length_take];omega
   generalize hbb:s.take (s.length-20)=b at *
   refine wW ?_
   refine gG ?_
   refine bm et hbb ?_
   unfold hO at hR
   have hk:=asO b p (by omega) (by omega)
   have hle:=sM b p
   generalize bT b p=H at *
   refine aG hk rfl rfl ?_
   by_cases hhe:H.2.2.2=0
   ·rw[if_neg (by simpa using hhe)]at hR
    replace hle:=hle hhe
    obtain⟨k,size,q,he⟩:=H
    simp only at hle hhe hR
    subst hhe
    have hml:=tp b p k q hle.1
    generalize hM:fW b p k q=M at hR hml
    refine wW ?_
    refine cH (y:=Cod.CB) hN (fun _:Unit=>⟨[(1,.int .i64 p),(4,.ab 150004 0),(6,.str b),(8,.int .i64 size),(9,.int .i64 M.2.2.1),(11,.ab 150011 0)],
     [(150004,.var bZ),(150011,.var [.int .i64 p,.int .i64 0,.int .i64 k,.str [],.int .i64 M.1,.str M.2.1,.int .u32 0])]⟩) (fun _=>M.2.2.2=0) (fun R2 hR2=>?_) (fun _ hM0=>?_)
    ·have hdz:∀e:Nat,e≠0→M.2.2.2=e→(iB b p k size M)=(ez,e):=by
      intro e he0 he
      unfold iB
      rw[if_pos (by rw[he];exact he0),he]
     have ksm:k<8:=hle.2.2.1
     refine wW ?_
     refine cH (y:=.cond (.t 50) .skip Cod.CA) hN (fun _:Unit=>⟨[(1,.int .i64 p),(4,.ab 150004 0),(6,.str b),(8,.int .i64 size),(9,.int .i64 q),(11,.ab 150011 0),(48,.int .i64 k),(50,.bool (decide (1≤k∧k≤4)))],
      [(150004,.var bZ),(150011,.var [.int .i64 p,.int .i64 0,.int .i64 k,.str [],.int .i64 0,.str [],.int .u32 0])]⟩) (fun _=>True) (fun R3 hR3=>?_) (fun _ _=>?_)
     ·by_cases k1:k=1
      ·subst k1
       refine wW ?_
       exact hR3 () _ trivial (.le lH)
      ·by_cases k2:k=2
       ·subst k2
        refine wW ?_
        exact hR3 () _ trivial (.le lH)
       ·by_cases k3:k=3
        ·subst k3
         refine wW ?_
         exact hR3 () _ trivial (.le lH)
        ·by_cases k4:k=4
         ·subst k4
          refine wW ?_
          exact hR3 () _ trivial (.le lH)
         ·have i1:¬(k:Int)=1:=by omega
          have i2:¬(k:Int)=2:=by omega
          have i3:¬(k:Int)=3:=by omega
          have i4:¬(k:Int)=4:=by omega
          rw[decide_eq_false (by omega)]at hR3
          refine eC i1 i2 i3 i4 ?_
          exact hR3 () _ trivial (.le lH)
     ·unfold fW at hM
      by_cases kk:1≤k∧k≤4
      ·rw[if_pos kk]at hM
       subst hM
       rw[decide_eq_true kk]
       refine wW ?_
       exact hR2 () _ rfl (.le vV)
      ·rw[if_neg kk]at hM
       rw[decide_eq_false kk]
       by_cases k6:k=6
       ·rw[if_pos k6]at hM
        subst k6
        have hbk:=aqH b q (by omega) (by omega)
        have hbl:(cm b q).2.2=0→(cm b q).2.1≤b.length∧q<(cm b q).2.1:=oI b _ _ _
        have hbs:=vL b q
        generalize cm b q=B at *
        refine wW ?_
        refine aG hbk rfl rfl ?_
        by_cases hbe:B.2.2=0
        ·rw[if_neg (by simpa using hbe)]at hM
         have hbl:=hbl hbe
         have hbs:=hbs hbe
         by_cases hb1:B.1<1∨p-12<B.1
         ·rw[if_pos hb1]at hM
          rw[hdz 3 (by decide) (by rw[←hM])]at hR
          by_cases hb2:B.1<1
          ·have i1:(B.1:Int)<1:=by omega
           simp(disch:=omega)only[go_sem,simprocAttr,hbe,i1,bZ]
           (repeat(first | refine dW ?_ | refine dU ?_ | refine dV ?_)<;>simp(disch:=omega)only[go_sem,simprocAttr,hbe,i1,bZ])
           exact hR.ro ⟨rfl,rfl⟩
          ·have i1:¬(B.1:Int)<1:=by omega
           have i2:(p:Int)-12<(B.1:Int):=by omega
           simp(disch:=omega)only[go_sem,simprocAttr,hbe,i1,i2,bZ]
           (repeat(first | refine dW ?_ | refine dU ?_ | refine dV ?_)<;>simp(disch:=omega)only[go_sem,simprocAttr,hbe,i1,i2,bZ])
           exact hR.ro ⟨rfl,rfl⟩
         ·rw[if_neg hb1]at hM
          subst hM
          have i1:¬(B.1:Int)<1:=by omega
          have i2:¬(p:Int)-12<(B.1:Int):=by omega
          have i3:(p:Int)-(B.1:Int)=((p-B.1:Nat):Int):=by omega
          refine ck hbe i1 i2 ?_
          refine gS hbe i1 i2 ?_
          exact hR2 () _ rfl (.le (by rw[←i3];exact lH))
        ·rw[if_pos hbe]at hM
         rw[hdz _ hbe (by rw[←hM])]at hR
         have i1:¬(B.2.2:Int)=0:=by omega
         simp(disch:=omega)only[go_sem,simprocAttr,i1,bZ]
         exact hR.ro ⟨rfl,rfl⟩
       ·rw[if_neg k6]at hM
        have i6:¬(k:Int)=6:=by omega
        by_cases k7:k=7
        ·rw[if_pos k7]at hM
         subst k7
         by_cases h20:b.length-q<20
         ·rw[if_pos h20]at hM
          rw[hdz 6 (by decide) (by rw[←hM])]at hR
          have i1:(b.length:Int)-(q:Int)<20:=by omega
          simp(disch:=omega)only[go_sem,simprocAttr,i1,bZ]
          exact hR.ro ⟨rfl,rfl⟩
         ·rw[if_neg h20]at hM
          subst hM
          have i1:¬(b.length:Int)-(q:Int)<20:=by omega
          have ei:((q:Int)+20).toNat-q=20:=by omega
          have e20:q+20-q=20:=by omega
          have hhx:=Cn ((b.drop q).take 20) (by rw[List.length_take];omega)
          refine ck i1 ei e20 ?_
          refine aG hhx rfl rfl ?_
          refine wW ?_
          exact hR2 () _ rfl (.le lH)
        ·rw[if_neg k7]at hM
         rw[hdz 10 (by decide) (by rw[←hM])]at hR
         have i7:¬(k:Int)=7:=by omega
         simp(disch:=omega)only[go_sem,simprocAttr,i6,i7,bZ]
         exact hR.ro ⟨rfl,rfl⟩
    ·unfold iB at hR
     rw[if_neg (by simpa using hM0)]at hR
     have hml:=hml hM0
     by_cases aN:65000<size
     ·rw[if_pos aN]at hR
      refine wWZ ?_
      exact hR.ro ⟨rfl,rfl⟩
     ·rw[if_neg aN]at hR
      have hz:=apA b M.2.2.1 size (by omega) (by omega) (by omega)
      have hzl:=u4 (b.drop M.2.2.1) size
      rw[List.length_drop]at hzl
      generalize fe (b.drop M.2.2.1) size=Z at *
      refine wW ?_
      refine aG hz rfl rfl ?_
      by_cases z2:Z.2.2=2
      ·rw[if_pos (.inl z2)]at hR
       have i1:(Z.2.2:Int)=2:=by omega
       simp(disch:=omega)only[go_sem,simprocAttr,i1,bZ]
       (repeat(first | refine dW ?_ | refine dU ?_ | refine dV ?_)<;>simp(disch:=omega)only[go_sem,simprocAttr,i1,bZ])
       exact hR.ro ⟨rfl,rfl⟩
      ·have i1:¬(Z.2.2:Int)=2:=by omega
       by_cases z0:Z.2.2=0
       ·have i2:(Z.2.2:Int)=0:=by omega
        by_cases zl:Z.1.length<size
        ·rw[if_pos (.inr ⟨z0,zl⟩)]at hR
         simp(disch:=omega)only[go_sem,simprocAttr,i1,i2,bZ]
         (repeat(first | refine dW ?_ | refine dU ?_ | refine dV ?_)<;>simp(disch:=omega)only[go_sem,simprocAttr,i1,i2,bZ])
         exact hR.ro ⟨rfl,rfl⟩
        ·rw[if_neg (by omega),if_neg (by simpa using z0)]at hR
         have hcr:=arY ((b.drop p).take (M.2.2.1+Z.2.1-p)) (by rw[List.length_take,List.length_drop];omega)
         have et2:((M.2.2.1:Int)+(Z.2.1:Int)).toNat-p=M.2.2.1+Z.2.1-p:=by omega
         simp(disch:=omega)only[go_sem,simprocAttr,i1,i2,et2,bZ]
         (repeat(first | refine dW ?_ | refine dU ?_ | refine dV ?_)<;>simp(disch:=omega)only[go_sem,simprocAttr,i1,i2,et2,bZ])
         refine aG hcr rfl rfl ?_
         refine wW ?_
         exact hR.ro ⟨rfl,rfl⟩
       ·have i2:¬(Z.2.2:Int)=0:=by omega
        rw[if_neg (by omega),if_pos z0]at hR
        simp(disch:=omega)only[go_sem,simprocAttr,i1,i2,bZ]
        (repeat(first | refine dW ?_ | refine dU ?_ | refine dV ?_)<;>simp(disch:=omega)only[go_sem,simprocAttr,i1,i2,bZ])
        exact hR.ro ⟨rfl,rfl⟩
   ·rw[if_pos hhe]at hR
    have i1:¬(H.2.2.2:Int)=0:=by omega
    simp(disch:=omega)only[go_sem,simprocAttr,i1,bZ]
    exact hR.ro ⟨rfl,rfl⟩
def gp:Bs:=[80,65,67,75,0,0,0,2]
def countP (s:Bs):Nat×Nat:=
 if s.length<32 then(0,6)else if s.take 8≠gp then(0,3)else if 1000<cT ((s.drop 8).take 4)then(0,2)else
 if cF (s.take (s.length-20))≠s.drop (s.length-20)then(0,5)else(cT ((s.drop 8).take 4),0)
theorem sF (s:Bs) (o:Nat) (h:o+4≤s.length):cT ((s.drop o).take 4)<4294967296:=by
 have hl:((s.drop o).take 4).length=4:=by rw[List.length_take,List.length_drop];omega
 have:=oJ ((s.drop o).take 4) 4 (by omega)
 rw[List.take_of_length_le (by omega)]at this
 exact this
theorem PF (s:Bs) (h:32≤s.length):s.take 8=gp↔(s.take 4=[80,65,67,75]∧cT ((s.drop 4).take 4)=2):=by
 have hl:((s.drop 4).take 4).length=4:=by rw[List.length_take,List.length_drop];omega
 rw[oK _ hl 2 (by decide),show(8:Nat)=4+4 from rfl,List.take_add,show gp=[80,65,67,75]++(bh 2 4).reverse from by decide]
 constructor
 ·intro h
  have h1:=List.append_inj h (by rw[List.length_take];simp;omega)
  exact h1
 ·rintro⟨h1,h2⟩
  rw[h1,h2]
set_option maxHeartbeats 1000000 in
theorem AQ (s:Bs) (hs:s.length≤100000):aZ Tryz.prog 6 [.str s] (.ak [.int .i64 ((countP s).1:Nat),.int .i64 ((countP s).2:Nat)]):=by
 refine Cod.afm (fun E R hN hR=>?_)
 unfold countP at hR
 by_cases h32:s.length<32
 ·rw[if_pos h32]at hR
  refine wW ?_
  exact hR.ro ⟨rfl,rfl⟩
 ·rw[if_neg h32]at hR
  have hh:=PF s (by omega)
  have hb4:=sH ((s.drop 4).take 4) (by rw[List.length_take];omega)
  have hb8:=sH ((s.drop 8).take 4) (by rw[List.length_take];omega)
  have hl4:=sF s 4 (by omega)
  have hl8:=sF s 8 (by omega)
  have jF:=qK (s.take (s.length-20)) (by rw[List.length_take];omega)
  have et:((s.length:Int)-20).toNat=s.length-20:=by omega
  generalize cT ((s.drop 4).take 4)=x4 at *
  generalize cT ((s.drop 8).take 4)=x8 at *
  by_cases h3:s.take 8=gp
  ·rw[if_neg (by simpa using h3)]at hR
   obtain⟨h1,h2⟩:=hh.1 h3
   rw[h2]at hb4
   refine aw h1 ?_
   refine ct h1 ?_
   refine fL (jA vV hb4 vV rfl rfl ?_)
   refine wW ?_
   refine gG ?_
   refine aG hb8 rfl rfl ?_
   by_cases h1000:1000<x8
   ·rw[if_pos h1000]at hR
    refine wW ?_
    exact hR.ro ⟨rfl,rfl⟩
   ·rw[if_neg h1000]at hR
    refine aw et ?_
    refine aG jF rfl rfl ?_
    by_cases hsha:cF (s.take (s.length-20))=s.drop (s.length-20)
    ·rw[if_neg (by simpa using hsha)]at hR
     refine bm et hsha ?_
     exact hR.ro ⟨rfl,rfl⟩
    ·rw[if_pos hsha]at hR
     refine bm et hsha ?_
     exact hR.ro ⟨rfl,rfl⟩
  ·rw[if_pos h3]at hR
   by_cases h1:s.take 4=[80,65,67,75]
   ·have h2:¬x4=2:=fun h2=>h3 (hh.2 ⟨h1,h2⟩)
    have i2:¬((x4:Nat):Int)=2:=by omega
    refine aw h1 ?_
    refine ct h1 ?_
    refine fL (jA vV hb4 vV rfl rfl ?_)
    refine aw i2 ?_
    refine ct i2 ?_
    exact hR.ro ⟨rfl,rfl⟩
   ·refine aw h1 ?_
    refine ct h1 ?_
    exact hR.ro ⟨rfl,rfl⟩
set_option maxHeartbeats 1000000 in
theorem arB (s:Bs) (hs:s.length≤100000):aZ Tryz.prog 7 [.str s] (.ak [.int .i64 ((countP s).1:Nat),.int .i64 ((countP s).2:Nat)]):=by
 refine Cod.arC (fun E R hN hR=>?_)
 unfold countP at hR
 by_cases h32:s.length<32
 ·rw[if_pos h32]at hR
  refine wW ?_
  exact hR.ro ⟨rfl,rfl⟩
 ·rw[if_neg h32]at hR
  have hb8:=atT ((s.drop 8).take 4) (by rw[List.length_take];omega)
  have hl8:=sF s 8 (by omega)
  have jF:=CM (s.take (s.length-20)) (by rw[List.length_take];omega)
  have et:((s.length:Int)-20).toNat=s.length-20:=by omega
  generalize cT ((s.drop 8).take 4)=x8 at *
  unfold gp at hR
  by_cases h3:s.take 8=[80,65,67,75,0,0,0,2]
  ·rw[if_neg (by simpa using h3)]at hR
   refine aw h3 ?_
   refine aG hb8 rfl rfl ?_
   by_cases h1000:1000<x8
   ·rw[if_pos h1000]at hR
    refine wW ?_
    exact hR.ro ⟨rfl,rfl⟩
   ·rw[if_neg h1000]at hR
    refine aw et ?_
    refine aG jF rfl rfl ?_
    by_cases hsha:cF (s.take (s.length-20))=s.drop (s.length-20)
    ·rw[if_neg (by simpa using hsha)]at hR
     refine bm et hsha ?_
     exact hR.ro ⟨rfl,rfl⟩
    ·rw[if_pos hsha]at hR
     refine bm et hsha ?_
     exact hR.ro ⟨rfl,rfl⟩
  ·rw[if_pos h3]at hR
   refine aw h3 ?_
   exact hR.ro ⟨rfl,rfl⟩
def allL (s:Bs):Nat→Nat→List En→List En×Nat×Nat
 | 0,p,out=>(out,p,0)
 | n+1,p,out=>if(cQ s p).2≠0 then([],0,(cQ s p).2)else allL s n (cQ s p).1.next (out++[(cQ s p).1])
def j2 (s:Bs):List En×Nat:=
 if(countP s).2≠0 then([],(countP s).2)else if(allL s (countP s).1 12 []).2.2≠0 then([],(allL s (countP s).1 12 []).2.2)else
 if(allL s (countP s).1 12 []).2.1≠s.length-20 then([],3)else((allL s (countP s).1 12 []).1,0)
def cY (l:List En):List AV:=l.map fun e=>.agg (eQ e)
theorem j7 (l:List En):(cY l).length=l.length:=by simp[cY]
theorem MM (l:List En) (e:En):cY l++[.agg (eQ e)]=cY (l++[e]):=by simp[cY]
theorem xz (l:List En):(cY l).all bb=true:=by simp[cY,eQ,bb,cellsOf,isCell]
theorem ph:cY []=[]:=(rfl)
theorem pn {l:List En}:aM (cY l) 0 l.length=cY l:=by simp[aM,cY,List.take_of_length_le]
def po (l:List En) (X:AV):Prop:=X=.ro 7 (cY l)∨(l=[]∧X=.al)
theorem Cg (s:Bs) (a:Int) (h:(cQ s a).2=0):(cQ s a).1.next≤s.length:=by
 unfold cQ at h ⊢
 split at h
 ·cases h
 ·rename_i h1
  rw[if_neg h1]
  unfold hO at h ⊢
  split at h
  ·rename_i h2;exact(h2 h).elim
  ·rename_i h2
   rw[if_neg h2]
   have hl:=sM (s.take (s.length-20)) a.toNat (by simpa using h2)
   unfold iB at h ⊢
   split at h
   ·rename_i h3;exact(h3 h).elim
   ·rename_i h3
    rw[if_neg h3]
    have hm:=tp (s.take (s.length-20)) a.toNat (bT (s.take (s.length-20)) a.toNat).1 (bT (s.take (s.length-20)) a.toNat).2.2.1 hl.1 (by simpa using h3)
    split at h
    ·cases h
    ·rename_i h4
     rw[if_neg h4]
     split at h
     ·cases h
     ·rename_i h5
      rw[if_neg h5]
      split at h
      ·rename_i h6;exact(h6 h).elim
      ·rename_i h6
       rw[if_neg h6]
       have hz:=(u4 ((s.take (s.length-20)).drop (fW (s.take (s.length-20)) a.toNat (bT (s.take (s.length-20)) a.toNat).1 (bT (s.take (s.length-20)) a.toNat).2.2.1).2.2.1) (bT (s.take (s.length-20)) a.toNat).2.1).2
       rw[List.length_drop]at hz
       simp only
       have:(s.take (s.length-20)).length≤s.length:=by rw[List.length_take];omega
       omega
theorem xA (l:List En) (e:En):cY (l++[e])=cY l++[.agg (eQ e)]:=(MM l e).symm
theorem count_le (s:Bs):(countP s).1≤1000∧((countP s).2=0→32≤s.length):=by
 unfold countP
 split
 ·exact⟨by decide,fun h=>by cases h⟩
 ·rename_i h0
  split
  ·exact⟨by decide,fun _=>by omega⟩
  ·split
   ·exact⟨by decide,fun _=>by omega⟩
   ·rename_i h
    split
    ·exact⟨by decide,fun _=>by omega⟩
    ·exact⟨by simp only;omega,fun _=>by omega⟩
set_option maxHeartbeats 1000000 in
theorem adU (s:Bs) (hs:s.length≤100000):Eng.Spec Tryz.prog 10 [] [.str s] (fun h r _=>h=[]∧∃X,r=.ak [X,.int .i64 ((j2 s).2:Nat)]∧po (j2 s).1 X):=by
 refine Cod.adV (fun E R hN hR=>?_)
 have hc:=AQ s hs
 obtain⟨hcn,hc32⟩:=count_le s
 unfold j2 at hR
 generalize countP s=C at *
 refine wW ?_
 refine aG hc rfl rfl ?_
 by_cases hC:C.2=0
 ·rw[if_neg (by simpa using hC)]at hR
  have hc32:=hc32 hC
  generalize hA:allL s C.1 12 []=A at *
  refine aw hC ?_
  refine aK hN (fun q:Nat×Nat×List En=>⟨[(0,.str s),(6,.int .i64 q.2.1),(7,.sl 145033 0 q.2.2.length),(18,.int .i64 C.1),(19,.int .i64 q.1)],[(145033,.arr 7 (cY q.2.2))]⟩)
   (fun q=>q.1≤C.1∧q.2.1≤1000000∧q.2.2.length=q.1∧allL s (C.1-q.1) q.2.1 q.2.2=A) (fun q=>C.1-q.1) (0,12,[]) (.nil 7 145033 7 rfl (.le (cW @ph))) ⟨by simp,by simp,rfl,hA⟩ ?_
  rintro⟨i,p,out⟩ R1 ⟨hi,hp,hol,hI⟩ hR1
  simp only at hi hp hol hI
  have hel:=j7 out
  by_cases hlt:i<C.1
  ·obtain⟨m,hm⟩:∃m,C.1-i=m+1:=⟨C.1-i-1,by omega⟩
   rw[hm]at hI
   have hrd:=A6 s (p:Int) (by omega) (by omega)
   have hnx:=Cg s (p:Int)
   have hst:allL s (m+1) p out=if(cQ s p).2≠0 then([],0,(cQ s p).2)else allL s m (cQ s p).1.next (out++[(cQ s p).1]):=rfl
   rw[hst]at hI
   generalize cQ s (p:Int)=X at *
   refine wW ?_
   refine aG hrd rfl rfl ?_
   by_cases hX:X.2=0
   ·rw[if_neg (by simpa using hX)]at hI
    have hnx:=hnx hX
    have hes:=pn (l:=out)
    simp(disch:=omega)only[go_sem,simprocAttr,eQ,hX,hel,hes,xz]
    refine hR1 (i+1,X.1.next,out++[X.1]) _ (by simp only;omega) ⟨hlt,by simp only;omega,by simp[hol],by simp only;rw[show C.1-(i+1)=m by omega];exact hI⟩ (.le ?_)
    rw[xA]
    simp(disch:=omega)only[go_sem,simprocAttr,List.length_append,List.length_singleton,hol,eQ]
   ·rw[if_pos hX]at hI
    subst hI
    rw[if_pos (by exact hX)]at hR
    have i1:¬(X.2:Int)=0:=by omega
    simp(disch:=omega)only[go_sem,simprocAttr,eQ,i1]
    exact hR.ro ⟨rfl,_,rfl,.inr ⟨rfl,rfl⟩⟩
  ·obtain rfl:i=C.1:=by omega
   rw[Nat.sub_self]at hI
   subst hI
   rw[if_neg (by simp[allL])]at hR
   simp only[allL]at hR
   by_cases hend:p=s.length-20
   ·have hP:(if p≠s.length-20 then(([]:List En),3)else(out,0))=(out,0):=if_neg (by simpa using hend)
    simp only[ne_eq,hend,not_true_eq_false,if_false]at hR
    have i1:(p:Int)=(s.length:Int)-20:=by omega
    have hes:=pn (l:=out)
    refine aw i1 ?_
    exact hR.wk (h':=[]) (r':=.ak [.ro 7 (cY out),.int .i64 (0:Nat)]) (ar':=[.undef]) rfl (.bF 145033 (.le (cW hes))) ⟨rfl,_,rfl,.inl rfl⟩
   ·have hP:(if p≠s.length-20 then(([]:List En),3)else(out,0))=([],3):=if_pos hend
    simp only[ne_eq,hend,not_false_eq_true,if_true]at hR
    have i1:¬(p:Int)=(s.length:Int)-20:=by omega
    refine aw i1 ?_
    exact hR.ro ⟨rfl,_,rfl,.inr ⟨rfl,rfl⟩⟩
 ·rw[if_pos hC]at hR
  have i1:¬(C.2:Int)=0:=by omega
  refine aw i1 ?_
  exact hR.ro ⟨rfl,_,rfl,.inr ⟨rfl,rfl⟩⟩
set_option maxHeartbeats 1000000 in
theorem aqm (s:Bs) (hs:s.length≤100000):Eng.Spec Tryz.prog 11 [] [.str s] (fun h r _=>h=[]∧∃X,r=.ak [X,.int .i64 ((j2 s).2:Nat)]∧po (j2 s).1 X):=by
 refine Cod.aqn (fun E R hN hR=>?_)
 have hc:=arB s hs
 obtain⟨hcn,hc32⟩:=count_le s
 unfold j2 at hR
 generalize countP s=C at *
 refine wW ?_
 refine aG hc rfl rfl ?_
 by_cases hC:C.2=0
 ·rw[if_neg (by simpa using hC)]at hR
  have hc32:=hc32 hC
  generalize hA:allL s C.1 12 []=A at *
  refine aw hC ?_
  refine aK hN (fun q:Nat×Nat×List En=>⟨[(0,.str s),(4,.int .i64 C.1),(6,.sl 151019 0 q.2.2.length),(7,.int .i64 q.2.1),(8,.int .i64 q.1)],[(151019,.arr 7 (cY q.2.2))]⟩)
   (fun q=>q.1≤C.1∧q.2.1≤1000000∧q.2.2.length=q.1∧allL s (C.1-q.1) q.2.1 q.2.2=A) (fun q=>C.1-q.1) (0,12,[]) (.le (cW @ph)) ⟨by simp,by simp,rfl,hA⟩ ?_
  rintro⟨i,p,out⟩ R1 ⟨hi,hp,hol,hI⟩ hR1
  simp only at hi hp hol hI
  have hel:=j7 out
  by_cases hlt:i<C.1
  ·obtain⟨m,hm⟩:∃m,C.1-i=m+1:=⟨C.1-i-1,by omega⟩
   rw[hm]at hI
   have hrd:=avr s (p:Int) (by omega) (by omega)
   have hnx:=Cg s (p:Int)
   have hst:allL s (m+1) p out=if(cQ s p).2≠0 then([],0,(cQ s p).2)else allL s m (cQ s p).1.next (out++[(cQ s p).1]):=rfl
   rw[hst]at hI
   generalize cQ s (p:Int)=X at *
   refine wW ?_
   refine aG hrd rfl rfl ?_
   by_cases hX:X.2=0
   ·rw[if_neg (by simpa using hX)]at hI
    have hnx:=hnx hX
    have hes:=pn (l:=out)
    simp(disch:=omega)only[go_sem,simprocAttr,eQ,hX,hel,hes,xz]
    refine hR1 (i+1,X.1.next,out++[X.1]) _ (by simp only;omega) ⟨hlt,by simp only;omega,by simp[hol],by simp only;rw[show C.1-(i+1)=m by omega];exact hI⟩ (.le ?_)
    rw[xA]
    simp(disch:=omega)only[go_sem,simprocAttr,List.length_append,List.length_singleton,hol,eQ]
   ·rw[if_pos hX]at hI
    subst hI
    rw[if_pos (by exact hX)]at hR
    have i1:¬(X.2:Int)=0:=by omega
    simp(disch:=omega)only[go_sem,simprocAttr,eQ,i1]
    exact hR.ro ⟨rfl,_,rfl,.inr ⟨rfl,rfl⟩⟩
  ·obtain rfl:i=C.1:=by omega
   rw[Nat.sub_self]at hI
   subst hI
   rw[if_neg (by simp[allL])]at hR
   simp only[allL]at hR
   by_cases hend:p=s.length-20
   ·have hP:(if p≠s.length-20 then(([]:List En),3)else(out,0))=(out,0):=if_neg (by simpa using hend)
    simp only[ne_eq,hend,not_true_eq_false,if_false]at hR
    have i1:(p:Int)=(s.length:Int)-20:=by omega
    have hes:=pn (l:=out)
    refine aw i1 ?_
    exact hR.wk (h':=[]) (r':=.ak [.ro 7 (cY out),.int .i64 (0:Nat)]) (ar':=[.undef]) rfl (.bF 151019 (.le (cW hes))) ⟨rfl,_,rfl,.inl rfl⟩
   ·have hP:(if p≠s.length-20 then(([]:List En),3)else(out,0))=([],3):=if_pos hend
    simp only[ne_eq,hend,not_false_eq_true,if_true]at hR
    have i1:¬(p:Int)=(s.length:Int)-20:=by omega
    refine aw i1 ?_
    exact hR.ro ⟨rfl,_,rfl,.inr ⟨rfl,rfl⟩⟩
 ·rw[if_pos hC]at hR
  have i1:¬(C.2:Int)=0:=by omega
  refine aw i1 ?_
  exact hR.ro ⟨rfl,_,rfl,.inr ⟨rfl,rfl⟩⟩
theorem M9 (t:Bs) (n:Nat) (ht:t.length≤4000000000000000000) (hn:n≤100000):aZ Tryz.prog 5 [.str t,.int .i64 n] (.str (t.take n)):=by
 refine Cod.Na (fun E R hN hR=>?_)
 by_cases h:n<t.length
 ·have hi:(n:Int)<(t.length:Int):=by omega
  refine aw hi ?_
  exact hR.ro ⟨rfl,rfl⟩
 ·rw[List.take_of_length_le (by omega)]at hR
  have hi:¬(n:Int)<(t.length:Int):=by omega
  refine aw hi ?_
  exact hR.ro ⟨rfl,rfl⟩
theorem tz {l:List En} {i:Nat} (h:i<l.length):nth (cY l) i=.agg (eQ (l.getD i ez)):=by
 simp[nth,cY,List.getD_eq_getElem?_getD,h]
theorem aw6 (l:List En) (hl:l.length≤100000) (X Y:AV) (hX:po l X) (hY:po l Y):aZ Tryz.prog 13 [X,Y] (.bool true):=by
 refine Cod.aw4 (fun E R hN hR=>?_)
 have hel:=j7 l
 have both:X=.ro 7 (cY l)→Y=.ro 7 (cY l)→vcW Tryz.prog E Cod.uu (KQ.post [RVar.tmp 4] 2 R) ⟨[(0,X),(1,Y)],[]⟩:=by
  rintro rfl rfl
  refine aw hel ?_
  refine aK hN (fun i:Nat=>⟨[(0,.ro 7 (cY l)),(1,.ro 7 (cY l)),(12,.int .i64 l.length),(13,.int .i64 i)],[]⟩) (fun i=>i≤l.length) (fun i=>l.length-i) 0 (.le vV) (by omega) ?_
  rintro i R1 hi hR1
  by_cases hlt:i<l.length
  ·have hn:=tz hlt
   generalize l.getD i ez=e at *
   simp(disch:=omega)only[go_sem,simprocAttr,hel,hn,eQ]
   exact hR1 (i+1) _ (by omega) (by omega) (.le vV)
  ·obtain rfl:i=l.length:=by omega
   refine wW ?_
   exact hR.ro ⟨rfl,rfl⟩
 rcases hX with hX | ⟨rfl,rfl⟩
 ·rcases hY with hY | ⟨rfl,rfl⟩
  ·exact both hX hY
  ·subst hX
   refine aw @ph ?_
   refine aK hN (fun i:Nat=>⟨[(0,.ro 7 []),(1,.al),(12,.int .i64 0),(13,.int .i64 i)],[]⟩) (fun i=>i=0) (fun i=>0) 0 (.le vV) rfl ?_
   rintro i R1 rfl hR1
   refine wW ?_
   exact hR.ro ⟨rfl,rfl⟩
 ·rcases hY with hY | ⟨_,rfl⟩
  ·subst hY
   refine aw @ph ?_
   refine aK hN (fun i:Nat=>⟨[(0,.al),(1,.ro 7 []),(12,.int .i64 0),(13,.int .i64 i)],[]⟩) (fun i=>i=0) (fun i=>0) 0 (.le vV) rfl ?_
   rintro i R1 rfl hR1
   refine wW ?_
   exact hR.ro ⟨rfl,rfl⟩
  ·refine wW ?_
   refine aK hN (fun i:Nat=>⟨[(0,.al),(1,.al),(12,.int .i64 0),(13,.int .i64 i)],[]⟩) (fun i=>i=0) (fun i=>0) 0 (.le vV) rfl ?_
   rintro i R1 rfl hR1
   refine wW ?_
   exact hR.ro ⟨rfl,rfl⟩
theorem Z7 (x n:Nat) {k:Nat} (h:k<n):(bh x n).reverse.take (k+1)=(bh x n).reverse.take k++[UInt8.ofNat (x/256^(n-1-k)%256)]:=by
 have hl:=eA x n
 rw[Cj (bh x n) (by omega),hl]
 congr 2
 simp[bh,List.getD_eq_getElem?_getD,show n-1-k<n by omega]
theorem mV (x n:Nat) (hx:x<9223372036854775808) (hn:n≤8):aZ Tryz.prog 34 [.int .u64 x,.int .i64 n] (.str (bh x n).reverse):=by
 refine Cod.G8 (fun E R hN hR=>?_)
 have em:max (n:Int) 0=n:=by omega
 refine aw em ?_
 refine aK hN (fun k:Nat=>⟨[(0,.int .u64 x),(1,.int .i64 n),(5,.sl 127029 0 k),(8,.int .i64 n),(9,.int .i64 k)],[(127029,.arr 1 (((bh x n).reverse.take k).map ub))]⟩) (fun k=>k≤n) (fun k=>n-k) 0 (.nil 5 127029 1 rfl (.le vV)) (by omega) ?_
 rintro k R1 hk hR1
 have hl:((bh x n).reverse.take k).length=k:=by rw[List.length_take,List.length_reverse,eA];omega
 by_cases hlt:k<n
 ·have hct:=Z7 x n hlt
  have e8:¬(8:Int)<(n:Int)-(k:Int):=by omega
  have hsh:(x:Int).fdiv (2^min ((8*((n:Int)-1-(k:Int))).toNat) 64)=((x/256^(n-1-k):Nat):Int):=by
   have e1:(8*((n:Int)-1-(k:Int))).toNat=8*(n-1-k):=by omega
   rw[e1,Nat.min_eq_left (by omega),Int.fdiv_eq_ediv_of_nonneg _ (Int.pow_nonneg (by decide)),show(256:Nat)=2^8 from rfl,←Nat.pow_mul]
   norm_cast
  generalize x/256^(n-1-k)=y at *
  have e3:IntKind.u8.wrap (y:Int)=((UInt8.ofNat (y%256)).toNat:Int):=by
   rw[UInt8.toNat_ofNat']
   show(y:Int)%256=_
   omega
  refine ck e8 hsh e3 ?_
  exact hR1 (k+1) _ (by omega) (by omega) (.le (by rw[hct];simp(disch:=omega)only[go_sem,simprocAttr];simp[ub]))
 ·obtain rfl:k=n:=by omega
  rw[List.take_of_length_le (by rw[List.length_reverse,eA];omega)]at hl ⊢
  refine wW ?_
  exact hR.wk (h':=[]) (r':=.str (bh x k).reverse) (ar':=[.undef,.undef]) rfl (.le vV) ⟨rfl,rfl⟩
def fi:Bs:=gp++[0,0,0,0]
def dr:Bs:=fi++cF fi
theorem Im:aZ Tryz.prog 15 [.al] (.ak [.str dr,.int .i64 (0:Nat)]):=by
 refine Cod.AM (fun E R hN hR=>?_)
 have h2:=mV 2 4 (by decide) (by decide)
 have h0:=mV 0 4 (by decide) (by decide)
 have hs:=qK fi (by decide)
 have e2:(bh 2 4).reverse=[0,0,0,2]:=by decide
 have e0:(bh 0 4).reverse=[0,0,0,0]:=by decide
 rw[e2]at h2
 rw[e0]at h0
 unfold dr at hR
 refine wW ?_
 refine aG h2 rfl rfl ?_
 refine wW ?_
 refine aG h0 rfl rfl ?_
 refine wW ?_
 refine aK hN (fun _:Unit=>⟨[(0,.al),(4,.str fi),(5,.al),(25,.al),(26,.int .i64 0),(27,.int .i64 0)],[]⟩) (fun _=>True) (fun _=>0) () (.le (by simp(disch:=omega)only[go_sem,simprocAttr];rfl)) trivial ?_
 rintro _ R1 _ hR1
 have hl:fi.length=12:=rfl
 generalize fi=d at *
 refine wW ?_
 refine aG hs rfl rfl ?_
 have hsl:=gH d
 refine wW ?_
 exact hR.ro ⟨rfl,rfl⟩
theorem Ja:countP dr=(0,0):=by
 have hl:fi.length=12:=rfl
 have hs:=gH fi
 have h8:dr.take 8=gp:=by
  unfold dr
  rw[List.take_append_of_le_length (by omega)];rfl
 have h12:(dr.drop 8).take 4=[0,0,0,0]:=by
  unfold dr
  rw[List.drop_append_of_le_length (by omega),List.take_append_of_le_length (by rw[List.length_drop];omega)];rfl
 have hll:dr.length=32:=by unfold dr;rw[List.length_append,hl,hs]
 have ht:dr.take 12=fi:=by unfold dr;rw[List.take_append_of_le_length (by omega),List.take_of_length_le (by omega)]
 have hd:dr.drop 12=cF fi:=by unfold dr;rw[←hl,List.drop_left]
 unfold countP
 rw[if_neg (by omega),if_neg (by simpa using h8),h12,show cT [0,0,0,0]=0 by decide,if_neg (by decide),hll,ht,hd,if_neg (by simp)]
theorem ar1:(cQ dr 12).2=6:=by
 have hl:fi.length=12:=rfl
 have hs:=gH fi
 have hll:dr.length=32:=by unfold dr;rw[List.length_append,hl,hs]
 have ht:dr.take 12=fi:=by unfold dr;rw[List.take_append_of_le_length (by omega),List.take_of_length_le (by omega)]
 unfold cQ
 rw[if_neg (by rw[hll];decide),hll,show 32-20=12 from rfl,ht,show(12:Int).toNat=12 from rfl]
 unfold hO
 rw[show bT fi 12=(0,0,0,6)from if_pos (by decide)]
 rfl
set_option maxHeartbeats 1000000 in
theorem F3:aZ Tryz.prog 12 [] (.bool true):=by
 refine Cod.F2 (fun E R hN hR=>?_)
 have hl:fi.length=12:=rfl
 have hs:=gH fi
 have hll:dr.length=32:=by unfold dr;rw[List.length_append,hl,hs]
 have ht:dr.take 12=[80,65,67,75,0,0,0,2,0,0,0,0]:=by unfold dr;rw[List.take_append_of_le_length (by omega),List.take_of_length_le (by omega)];rfl
 have hc:=AQ dr (by omega)
 have hr:=A6 dr 12 (by omega) (by decide)
 have hb:=Im
 rw[Ja]at hc
 rw[ar1]at hr
 generalize (cQ dr 12).1=e at *
 generalize dr=s at *
 refine wW ?_
 refine aG hb rfl rfl ?_
 refine wW ?_
 refine aG hc rfl rfl ?_
 refine wW ?_
 refine aG hr rfl rfl ?_
 simp(disch:=omega)only[go_sem,simprocAttr,eQ]
 refine eL hll ht ?_
 exact hR.ro ⟨rfl,rfl⟩
end Go.Proofs.YtjoefngnjoofeaaGreatDoor.Pk
