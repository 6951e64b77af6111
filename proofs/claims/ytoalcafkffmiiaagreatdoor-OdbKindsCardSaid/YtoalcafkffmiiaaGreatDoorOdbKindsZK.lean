/- The proof, part 37 of 42. -/
import Derived.Test.YtoalcafkffmiiaaGreatDoorOdbKindsZD
import Derived.Test.YtoalcafkffmiiaaGreatDoorProg
import Derived.KernelRfl
import Derived.Tactics
set_option linter.all false
namespace Go.Proofs.YtoalcafkffmiiaaGreatDoor.Pk
open Eng Eng.Kz
set_option maxRecDepth 100000
def gw (e:Nat):Value:=.iface 189 (.int .i64 (e:Nat))
theorem og {vs:Array Value} (h:vs.size=2):∃v0 v1,vs=#[v0,v1]:=by
 obtain⟨l⟩:=vs
 match l,h with
 | [a,b],_=>exact⟨a,b,rfl⟩
theorem agy:jF Tryz.prog 135 2:=by
 intro vs w hvs
 obtain⟨v0,v1,rfl⟩:=og hvs
 refine callsDIn_of_wpSIn Tryz.func135 rfl trivial fun c₀ cs hu=>?_
 apply wpSIn_seq
 apply wpSIn_region
 simp[wpOpsSIn,go_sem,recoverD,hu,Tryz.ntmps135,Exit.thenS]
 refine wpSIn_of_wpIn rfl ?_
 refine wpIn_seq ?_
 refine wpIn_region ?_
 simp[wpOpsIn,Oper.wpIn,Oper.uponIn,Oper.semAt_none,go_sem,Region.wanted,Exit.then]
 refine wpIn_cond_false (by simp[Act.eval,Array.replicate]) ?_
 refine wpIn_skip ?_
 simp[bodyPostS,results,Tryz.results135]
 exact hu.symm▸rfl
def dr:List AV:=[.int .i64 0,.int .i64 0,.int .i64 0,.str [],.int .i64 0,.str [],.int .u32 0]
def zeroV:Value:=.agg #[.int .i64 0,.int .i64 0,.int .i64 0,.string ⟨#[]⟩,.int .i64 0,.string ⟨#[]⟩,.int .u32 0]
theorem aqP (X:Nat→Prop) (w:World) (ρ:Eng.Loc):RV X w ρ zeroV (.agg dr):=by
 refine .agg _ _ _ rfl (fun j v a h1 h2=>?_)
 have hj:j<7:=(List.getElem?_eq_some_iff.1 h2).1
 obtain rfl | rfl | rfl | rfl | rfl | rfl | rfl:j=0∨j=1∨j=2∨j=3∨j=4∨j=5∨j=6:=by omega
 all_goals
  simp[dr]at h1 h2
  subst h1 h2
  first | exact .int _ _ _ | exact .str _ []
theorem ajv (x:Value) (t0:TypeId) (w:World):(Instr.typeAssert (.iface 189 x) t0 189 true).run Tryz.prog w=.ok (.tuple #[x,.bool true]) w:=by
 have hu:(underlying 189).run Tryz.prog w=.ok (.int .i64) w:=by rfl
 unfold Instr.typeAssert
 simp[go_sem,hu]
theorem M7:b6 Tryz.prog 135=some 7:=by kernel_rfl
theorem Nf:b6 Tryz.prog 24=some 1:=by kernel_rfl
theorem Sr (w:World):(Instr.build 135 #[]).run Tryz.prog w=.ok zeroV w:=by kernel_rfl
theorem ml {P:Program} {o:Oper} {a:Act} {w w':World} {v:Value} {next:Act→World→Prop} {Q:Exit→Act→World→Prop} (h:(execOp a.eval o).run P w=.ok (.value v) w') (hn:next (a.put o.dst v) w') :
    Oper.uponIn Fence.wide 0 P o a next Q ((o.semAt Fence.wide.round a.eval).run P w):=by
 rw[show Fence.wide.round=none from rfl,Oper.semAt_none,h]
 exact hn
theorem BP {P:Program} {o:Oper} {a:Act} {w w':World} {next:Act→World→Prop} {Q:Exit→Act→World→Prop} (h:(execOp a.eval o).run P w=.ok .skip w') (hn:next (a.put o.dst undef) w') :
    Oper.uponIn Fence.wide 0 P o a next Q ((o.semAt Fence.wide.round a.eval).run P w):=by
 rw[show Fence.wide.round=none from rfl,Oper.semAt_none,h]
 exact hn
theorem agz (e:Nat) (i0 i1:Nat) (cs0:List AV) (x1:AV) (hi:i0≠i1) (hc0:cs0.length=7) :
    mJ Tryz.prog 135 [(i0,.var cs0),(i1,.var [x1])] [.ab i0 0,.ab i1 0] (gw e) [(i1,.var [.int .i64 (e:Nat)]),(i0,.var dr)]:=by
 intro X0 ρ w vs hh hA hX hvs hrv
 obtain⟨v0,v1,rfl⟩:=og hvs
 have hnt:Tryz.f135.ntmps=12:=Tryz.ntmps135
 generalize hh0:([(i0,.var cs0),(i1,.var [x1])]:HP)=h at *
 let E0:Env:=⟨w,aV ρ h,X0,Tryz.f135.ntmps,0,fun k=>#[v0,v1].getD (k-2000000) undef,none,w.heap.size,Nat.le_refl _,[]⟩
 have g0:al E0 ρ ⟨fG [.ab i0 0,.ab i1 0],h⟩ {tmps:=#[v0,v1]++Array.replicate (Tryz.f135.ntmps-#[v0,v1].size) undef,defers:=[]} w:=nZ (B:=0) (by rw[hnt];decide) (by rw[hnt];exact(by decide:2≤12)) hh hA hX hvs hrv [] rfl
 have hE:∀d,d<12→d<E0.N:=fun d hd=>by show d<Tryz.f135.ntmps;rw[hnt];exact hd
 have g1:=(((((g0.put 5 (hE 5 (by decide)) (v:=gw e) (av:=.undef) (.undef _ _)).put 6 (hE 6 (by decide)) (v:=.tuple #[.int .i64 (e:Nat),.bool true]) (av:=.undef) (.undef _ _)).put 4 (hE 4 (by decide)) (v:=.tuple #[.int .i64 (e:Nat),.bool true]) (av:=.undef) (.undef _ _)).put 7 (hE 7 (by decide)) (v:=.int .i64 (e:Nat)) (av:=.int .i64 (e:Nat)) (.int _ _ _)).put 8 (hE 8 (by decide)) (v:=.bool true) (av:=.bool true) (.bool _ _)).put 2 (hE 2 (by decide)) (v:=.int .i64 (e:Nat)) (av:=.int .i64 (e:Nat)) (.int _ _ _)
 have g2:=g1.put 3 (hE 3 (by decide)) (v:=.bool true) (av:=.bool true) (.bool _ _)
 have g3:=g2.put 9 (hE 9 (by decide)) (v:=.bool true) (av:=.bool true) (.bool _ _)
 have g4:=(g3.put 10 (hE 10 (by decide)) (v:=zeroV) (av:=.agg dr) (aqP _ _ _)).put 11 (hE 11 (by decide)) (v:=.int .i64 (e:Nat)) (av:=.int .i64 (e:Nat)) (.int _ _ _)
 have b3:=a8 g2 (.tmp 3)
 have b9:=a8 g3 (.tmp 9)
 have b2:=a8 g3 (.tmp 2)
 clear g0 g1 g2 g3
 generalize hac:(((((((((({tmps:=#[v0,v1]++Array.replicate (Tryz.f135.ntmps-#[v0,v1].size) undef,defers:=[]}:Act).put (some 5) (gw e)).put (some 6) (.tuple #[.int .i64 (e:Nat),.bool true])).put (some 4) (.tuple #[.int .i64 (e:Nat),.bool true])).put (some 7) (.int .i64 (e:Nat))).put (some 8) (.bool true)).put (some 2) (.int .i64 (e:Nat))).put (some 3) (.bool true)).put (some 9) (.bool true)).put (some 10) zeroV).put (some 11) (.int .i64 (e:Nat))=ac at g4
 have had:ac.defers=[]:=by rw[←hac];rfl
 have fin:∃w1 w2,(Instr.storeAt 135 (ac.eval (.tmp 0)) (ac.eval (.tmp 10))).run Tryz.prog w=.ok () w1∧(Instr.storeAt 24 (ac.eval (.tmp 1)) (ac.eval (.tmp 11))).run Tryz.prog w1=.ok () w2 ∧
     ∃ρ' st',al E0 ρ' st' ac w2∧st'.h=[(i1,.var [.int .i64 (e:Nat)]),(i0,.var dr)]∧sget st'.s 2000000=some (.ab i0 0)∧sget st'.s 2000001=some (.ab i1 0):=by
  subst hh0
  have g4:=g4.weaken (st':=⟨[(0,.ab i0 0),(1,.ab i1 0),(10,.agg dr),(11,.int .i64 (e:Nat)),(2000000,.ab i0 0),(2000001,.ab i1 0)],[(i0,.var cs0),(i1,.var [x1])]⟩) (by exact⟨rfl,rfl,rfl,rfl,rfl,rfl,trivial⟩) (by simp[c7,hget,hi,hi.symm])
  have hx0:=a8 g4 (.tmp 0)
  have hx10:=a8 g4 (.tmp 10)
  obtain⟨w1,ρ1,st1,r1,g5,K⟩:=jc g4 M7 hx0 hx10 (K:=fun _ st1=>st1=⟨[(0,.ab i0 0),(1,.ab i1 0),(10,.agg dr),(11,.int .i64 (e:Nat)),(2000000,.ab i0 0),(2000001,.ab i1 0)],[(i0,.var dr),(i1,.var [x1])]⟩) (by
   simp[effSt,hget,bz,hdel,hc0,hi,hi.symm,bU,dr,aQ,cellsOf,isCell,ev,trE,sget])
  subst K
  have hx1:=a8 g5 (.tmp 1)
  have hx11:=a8 g5 (.tmp 11)
  obtain⟨w2,ρ2,st2,r2,g6,K⟩:=jc g5 Nf hx1 hx11 (K:=fun _ st1=>st1=⟨[(0,.ab i0 0),(1,.ab i1 0),(10,.agg dr),(11,.int .i64 (e:Nat)),(2000000,.ab i0 0),(2000001,.ab i1 0)],[(i1,.var [.int .i64 (e:Nat)]),(i0,.var dr)]⟩) (by
   simp[effSt,hget,bz,hdel,hi,hi.symm,bU,aQ,cellsOf,isCell,ev,trE,sget])
  subst K
  exact⟨w1,w2,r1,r2,ρ2,_,g6,rfl,rfl,rfl⟩
 obtain⟨w1,w2,r1,r2,ρ2,st2,g6,e1,e2,e3⟩:=fin
 clear g4
 refine callsDIn_of_wpSIn Tryz.func135 rfl trivial fun c₀ cs hu=>?_
 apply wpSIn_seq
 apply wpSIn_region
 simp[wpOpsSIn,go_sem,recoverD,hu,bJ,gw,Tryz.ntmps135,Exit.thenS,ajv]
 refine wpSIn_of_wpIn rfl ?_
 refine wpIn_seq ?_
 refine wpIn_region ?_
 simp[wpOpsIn,Oper.wpIn,Oper.uponIn,Oper.semAt_none,go_sem,Region.wanted,Exit.then]
 refine wpIn_cond_true (by simp[Act.eval,Array.replicate]) ?_
 refine Eq.mpr (congrArg (fun a=>Code.wpIn Fence.wide 0 Tryz.prog _ _ a w) (a₂:=(((((((({tmps:=#[v0,v1]++Array.replicate (Tryz.f135.ntmps-#[v0,v1].size) undef,defers:=[]}:Act).put (some 5) (gw e)).put (some 6) (.tuple #[.int .i64 (e:Nat),.bool true])).put (some 4) (.tuple #[.int .i64 (e:Nat),.bool true])).put (some 7) (.int .i64 (e:Nat))).put (some 8) (.bool true)).put (some 2) (.int .i64 (e:Nat))).put (some 3) (.bool true)).put (some 9) (.bool true)) ?_) ?_
 ·simp[Act.put,hnt,gw]
 refine wpIn_region_list (wpListIn_plain rfl (fun next hnext=>⟨fun _ _=>trivial,?_⟩))
 refine ml (v:=zeroV) (w':=w) (by simp[execOp,Sr]) (hnext _ _ ?_)
 refine wpListIn_plain rfl (fun next hnext=>⟨fun _ _=>trivial,?_⟩)
 refine ml (v:=.int .i64 (e:Nat)) (w':=w) (by simp[execOp,Act.eval,Act.put,hnt]) (hnext _ _ ?_)
 refine wpListIn_plain rfl (fun next hnext=>⟨fun _ _=>trivial,?_⟩)
 rw[hac]
 refine BP (w':=w1) (by simp[execOp,r1]) (hnext _ _ ?_)
 refine wpListIn_plain rfl (fun next hnext=>⟨fun _ _=>trivial,?_⟩)
 refine BP (w':=w2) (by simp only[Act.put];simp[execOp,r2]) (hnext _ _ ?_)
 refine⟨had,_,rfl,.tuple #[],by simp[results,Tryz.results135],⟨_,rfl⟩,rfl,ρ2,?_,?_,g6.az.os,g6.az.tape,g6.az.output,g6.az.size,g6.az.block,?_⟩
 ·have:=g6.heap
  rw[e1]at this
  exact this
 ·intro j v x h1 h2
  have hj:j<2:=(List.getElem?_eq_some_iff.1 h2).1
  have hgv:∀k,2000000≤k→aZ E0 ac k=E0.gv k:=fun k hk=>by
   unfold aZ
   rw[if_neg (by show ¬k<Tryz.f135.ntmps;rw[hnt];omega)]
  obtain rfl | rfl:j=0∨j=1:=by omega
  ·obtain rfl:v0=v:=by simpa using h1
   obtain rfl:AV.ab i0 0=x:=by simpa using h2
   have hr:=(g6.aU _ _ e2).2
   rw[hgv _ (Nat.le_refl _),e1]at hr
   exact hr
  ·obtain rfl:v1=v:=by simpa using h1
   obtain rfl:AV.ab i1 0=x:=by simpa using h2
   have hr:=(g6.aU _ _ e3).2
   rw[hgv _ (Nat.le_succ _),e1]at hr
   exact hr
 ·rintro b ⟨id,W,L,h1,h2,h3⟩
  rw[←e1]at h1
  exact g6.base id W L b h1 h2 h3
open Eng Sh
set_option maxRecDepth 10000
def bN (b:Bs) (p:Nat):HP:=[(143032,.var [.str b,.int .i64 p])]
theorem cJ {p:Prop} (h:p:=by simp(disch:=first | omega | (simp only[Lx];omega))only[go_sem,simprocAttr,bN]):p:=h
theorem kc {a b:Prop} (k:b) (h:b→a:=by intro h;simp(disch:=first | omega | (simp only[Lx];omega))only[go_sem,simprocAttr,bN];exact h):a:=h k
theorem mD {E0:Prop} {a b:Prop} (e0:E0) (k:b) (h:E0→b→a:=by intro e0 h;simp(disch:=first | omega | (simp only[Lx];omega))only[go_sem,simprocAttr,bN,e0];exact h):a:=h e0 k
theorem C0 {E0 E1:Prop} {a b:Prop} (e0:E0) (e1:E1) (k:b) (h:E0→E1→b→a:=by intro e0 e1 h;simp(disch:=first | omega | (simp only[Lx];omega))only[go_sem,simprocAttr,bN,e0,e1];exact h):a:=h e0 e1 k
theorem LI {t:TypeId} {n:Int} {e:Nat} {st:St} (ht:t=189:=by rfl) (hn:n=(e:Nat):=by rfl):(KQ.dies (gw e)).ap (.panic (bJ (.iface t (.int .i64 n)))) st:=by
 subst ht hn;exact of_eq_true kS
theorem qC (b:Bs) (p:Nat) (hb:b.length≤1000000) (h:p<b.length):Eng.Spec Tryz.prog 188 (bN b p) [.ab 143032 0] (fun h' v ar=>h'=bN b (p+1)∧v=.int .i64 ((b.getD p 0).toNat:Nat)∧ar=[.ab 143032 0]):=by
 refine Cod.ago (fun E R hN hR=>?_)
 have hu:=(b.getD p 0).toNat_lt
 have e1:((p:Int)+1-1).toNat=p:=by omega
 refine mD e1 ?_
 exact hR.le cJ ⟨rfl,rfl,rfl⟩
theorem qB (b:Bs) (p:Nat) (hp:p≤2000000) (hb:b.length≤1000000) (h:b.length≤p):Eng.dQ Tryz.prog 188 (bN b p) [.ab 143032 0] (gw 6):=by
 refine Cod.agn (fun E hN=>?_)
 refine kc ?_
 exact LI
def headR (b:Bs):Nat→Nat→Nat→Nat→Nat×Nat×Nat
 | 0,p,_,_=>if b.length≤p then(0,0,6)else(0,0,3)
 | m+1,p,size,sh=>if b.length≤p then(0,0,6)else if(b.getD p 0).toNat<128 then(size+(b.getD p 0).toNat%128*2^sh,p+1,0)else headR b m (p+1) (size+(b.getD p 0).toNat%128*2^sh) (sh+7)
def bX (b:Bs) (p:Nat):Nat×Nat×Nat×Nat:=
 if b.length≤p then(0,0,0,6)else if(b.getD p 0).toNat<128 then((b.getD p 0).toNat/16%8,(b.getD p 0).toNat%16,p+1,0)else
 if(headR b 4 (p+1) ((b.getD p 0).toNat%16) 4).2.2≠0 then(0,0,0,(headR b 4 (p+1) ((b.getD p 0).toNat%16) 4).2.2)else
 ((b.getD p 0).toNat/16%8,(headR b 4 (p+1) ((b.getD p 0).toNat%16) 4).1,(headR b 4 (p+1) ((b.getD p 0).toNat%16) 4).2.1,0)
theorem mN {x n:Nat} (hx:x<1000000) (hn:n≤10):bits .and .i64 (x:Int) ((2^n-1:Nat):Int)=((x%2^n:Nat):Int):=by
 have hp:2^n≤2^10:=Nat.pow_le_pow_right (by decide) hn
 have hp1:0<2^n:=Nat.pow_pos (by decide)
 have:=Nat.mod_lt x hp1
 show IntKind.i64.wrap ((BitVec.ofInt 64 (x:Int) &&& BitVec.ofInt 64 ((2^n-1:Nat):Int)).toNat:Int)=_
 rw[BitVec.ofInt_natCast,BitVec.ofInt_natCast,BitVec.toNat_and,BitVec.toNat_ofNat,BitVec.toNat_ofNat,Nat.mod_eq_of_lt (by omega),Nat.mod_eq_of_lt (by omega),Nat.and_two_pow_sub_one_eq_mod]
 exact eU (by omega)
theorem afL {x k c:Nat} (hx:x<2^k) (hk:k≤32) (hc:c<128):bits .or .i64 (x:Int) (IntKind.i64.wrap ((c:Int)*2^min k 64))=((x+c*2^k:Nat):Int):=by
 have hp:2^k≤2^32:=Nat.pow_le_pow_right (by decide) hk
 have h2:c*2^k≤127*2^32:=Nat.mul_le_mul (by omega) hp
 have e:IntKind.i64.wrap ((c:Int)*2^min k 64)=((c*2^k:Nat):Int):=by
  rw[Nat.min_eq_left (by omega),show((c:Int)*2^k)=((c*2^k:Nat):Int)by push_cast;rfl]
  exact eU (by omega)
 rw[e]
 show IntKind.i64.wrap ((BitVec.ofInt 64 (x:Int) ||| BitVec.ofInt 64 ((c*2^k:Nat):Int)).toNat:Int)=_
 rw[BitVec.ofInt_natCast,BitVec.ofInt_natCast,BitVec.toNat_or,BitVec.toNat_ofNat,BitVec.toNat_ofNat,Nat.mod_eq_of_lt (by omega),Nat.mod_eq_of_lt (by omega),Nat.or_comm,←Nat.shiftLeft_eq,←Nat.shiftLeft_add_eq_or_of_lt hx,Nat.shiftLeft_eq,Nat.add_comm]
 exact eU (by omega)
set_option maxHeartbeats 1000000 in
theorem Bg (b:Bs) (p:Nat) (hb:b.length≤1000000) (hp:p≤1000000) {E:Env} (hN:E.N≤1000000) (Q:KQ)
    (hret:(bX b p).2.2.2=0→Q.ap .ret ⟨[(2,.int .i64 ((bX b p).1:Nat)),(3,.int .i64 ((bX b p).2.1:Nat)),(2000000,.ab 143032 0)],bN b (bX b p).2.2.1⟩)
    (hdie:∀st,(bX b p).2.2.2≠0→Q.ap (.panic (bJ (gw (bX b p).2.2.2))) st) :
    vcW Tryz.prog E Cod.qD Q ⟨[(0,.ab 143032 0),(2000000,.ab 143032 0)],bN b p⟩:=by
 generalize hH:bX b p=H at *
 unfold bX at hH
 by_cases h0:b.length≤p
 ·rw[if_pos h0]at hH
  subst hH
  refine wW ?_
  refine gK (bN b p) (qB b p (by omega) hb h0) cJ ?_
  exact hdie _ (by decide)
 ·rw[if_neg h0]at hH
  have hu:=(b.getD p 0).toNat_lt
  have hby:=qC b p hb (by omega)
  generalize (b.getD p 0).toNat=c at *
  have hsh:((c:Nat):Int).fdiv (2^min 4 64)=((c/16:Nat):Int):=by
   rw[Nat.min_eq_left (by decide),Int.fdiv_eq_ediv_of_nonneg _ (by decide)];omega
  have hk7:bits .and .i64 ((c/16:Nat):Int) 7=((c/16%8:Nat):Int):=mN (n:=3) (by omega) (by decide)
  have hk15:bits .and .i64 (c:Int) 15=((c%16:Nat):Int):=mN (n:=4) (by omega) (by decide)
  refine wW ?_
  refine fp ?_
  refine bf (bN b p) hby cJ nofun ?_
  rintro h' v ar ⟨rfl,rfl,rfl⟩
  refine⟨cJ,rfl,?_⟩
  refine dz hsh hk7 hk15 ?_
  refine bm hN (fun q:Nat×Nat×Nat×Nat=>⟨[(0,.ab 143032 0),(2,.int .i64 0),(3,.int .i64 0),(4,.int .i64 q.2.2.2),(5,.int .i64 (c/16%8:Nat)),(6,.int .i64 q.2.2.1),(7,.int .i64 (4+7*(4-q.1):Nat)),(2000000,.ab 143032 0)],bN b q.2.1⟩)
   (fun q=>q.1≤4∧q.2.1≤1000000∧q.2.2.1<2^(4+7*(4-q.1))∧q.2.2.2<256∧(if q.2.2.2<128 then H=(c/16%8,q.2.2.1,q.2.1,0)else
    H=if(headR b q.1 q.2.1 q.2.2.1 (4+7*(4-q.1))).2.2≠0 then(0,0,0,(headR b q.1 q.2.1 q.2.2.1 (4+7*(4-q.1))).2.2)else(c/16%8,(headR b q.1 q.2.1 q.2.2.1 (4+7*(4-q.1))).1,(headR b q.1 q.2.1 q.2.2.1 (4+7*(4-q.1))).2.1,0)))
   (fun q=>if q.2.2.2<128 then 0 else q.1+1) (4,p+1,c%16,c) (.le cJ) ⟨by simp,by simp only;omega,by simp only;omega,hu,by
    by_cases hc:c<128
    ·rw[if_pos hc]at hH;simp only[if_pos hc];exact hH.symm
    ·rw[if_neg hc]at hH;simp only[if_neg hc];exact hH.symm⟩ ?_
  clear hH hby hsh hk15
  rintro⟨m,p2,n,d⟩ R1 ⟨hm,hp2,hn,hd,hH⟩ hR1
  simp only at hm hp2 hn hd hH
  generalize hshe:4+7*(4-m)=sh at *
  by_cases hc:d<128
  ·rw[if_pos hc]at hH
   subst hH
   have hret:=hret rfl
   simp only[bN]at hret
   refine mD hshe ?_
   exact hret
  ·rw[if_neg hc]at hH
   by_cases hend:b.length≤p2
   ·have hR0:headR b m p2 n sh=(0,0,6):=by cases m with | zero=>exact if_pos hend | succ m=>exact if_pos hend
    rw[hR0,if_pos (by decide)]at hH
    subst hH
    refine mD hshe ?_
    refine gK (bN b p2) (qB b p2 (by omega) hb hend) cJ ?_
    exact hdie _ (by decide)
   ·have hby:=qC b p2 hb (by omega)
    have hu:=(b.getD p2 0).toNat_lt
    cases m with
    | zero=>
     have hR0:headR b 0 p2 n sh=(0,0,3):=if_neg hend
     rw[hR0,if_pos (by decide)]at hH
     subst hH
     refine mD hshe ?_
     refine fp ?_
     refine bf (bN b p2) hby cJ nofun ?_
     rintro h' v ar ⟨rfl,rfl,rfl⟩
     refine⟨cJ,rfl,?_⟩
     have hgt:(25:Int)<(sh:Int):=by omega
     refine bc hgt hshe ?_
     exact hdie _ (by decide)
    | succ m=>
     have hR0:headR b (m+1) p2 n sh=if(b.getD p2 0).toNat<128 then(n+(b.getD p2 0).toNat%128*2^sh,p2+1,0)else headR b m (p2+1) (n+(b.getD p2 0).toNat%128*2^sh) (sh+7):=if_neg hend
     rw[hR0]at hH
     generalize (b.getD p2 0).toNat=x at *
     have hk:bits .and .i64 (x:Int) 127=((x%128:Nat):Int):=mN (n:=7) (by omega) (by decide)
     have ho:=afL (x:=n) (k:=sh) (c:=x%128) hn (by omega) (Nat.mod_lt _ (by decide))
     have hn2:n+x%128*2^sh<2^(sh+7):=by
      have h1:x%128≤127:=by omega
      have h2:x%128*2^sh≤127*2^sh:=Nat.mul_le_mul_right _ h1
      rw[Nat.pow_add]
      omega
     have hgt:¬(25:Int)<(sh:Int):=by omega
     have hs7:sh+7=4+7*(4-m):=by omega
     have aE:n+x%128*2^sh<4294967296:=by
      have:2^(sh+7)≤2^32:=Nat.pow_le_pow_right (by decide) (by omega)
      omega
     refine mD hshe ?_
     refine fp ?_
     refine bf (bN b p2) hby cJ nofun ?_
     rintro h' v ar ⟨rfl,rfl,rfl⟩
     refine⟨cJ,rfl,?_⟩
     refine dW hgt hshe hk ho ?_
     generalize hz:n+x%128*2^sh=z at *
     rw[hs7]at hH hn2
     refine hR1 (m,p2+1,z,x) _ ?_ ⟨by simp only;omega,by simp only;omega,hn2,hu,?_⟩ (.le ?_)
     ·simp only[if_neg hc];split<;>omega
     ·simp only
      by_cases hx:x<128
      ·rw[if_pos hx]at hH ⊢
       rw[if_neg (by simp)]at hH
       exact hH
      ·rw[if_neg hx]at hH ⊢
       exact hH
     ·simp(disch:=omega)only[go_sem,simprocAttr,bN,←hs7]
theorem agS (b:Bs) (p:Nat) (hb:b.length≤1000000) (hp:p≤1000000) (he:(bX b p).2.2.2=0):Eng.Spec Tryz.prog 136 (bN b p) [.ab 143032 0]
    (fun h' v ar=>h'=bN b (bX b p).2.2.1∧v=.ai [.int .i64 ((bX b p).1:Nat),.int .i64 ((bX b p).2.1:Nat)]∧ar=[.ab 143032 0]):=by
 refine Cod.agT (fun E R hN hR=>?_)
 refine Bg b p hb hp hN _ (fun _=>?_) (fun st h=>absurd he h)
 refine kc ?_
 exact hR.le cJ ⟨rfl,rfl,rfl⟩
theorem agQ (b:Bs) (p:Nat) (hb:b.length≤1000000) (hp:p≤1000000) (he:(bX b p).2.2.2≠0):Eng.dQ Tryz.prog 136 (bN b p) [.ab 143032 0] (gw (bX b p).2.2.2):=by
 refine Cod.agR (fun E hN=>?_)
 exact Bg b p hb hp hN _ (fun h=>absurd h he) (fun st _=>of_eq_true kS)
def iv (b:Bs):Nat→Nat→Nat→Nat×Nat×Nat
 | 0,_,_=>(0,0,6)
 | k+1,p,n=>if b.length≤p then(0,0,6)else if(b.getD p 0).toNat<128 then(n+(b.getD p 0).toNat%128,p+1,0)else if 16777216<n+(b.getD p 0).toNat%128 then(0,0,3)else iv b k (p+1) ((n+(b.getD p 0).toNat%128+1)*128)
theorem mR (b:Bs) (k p n:Nat):iv b (k+1) p n=if b.length≤p then(0,0,6)else if(b.getD p 0).toNat<128 then(n+(b.getD p 0).toNat%128,p+1,0)else if 16777216<n+(b.getD p 0).toNat%128 then(0,0,3)else iv b k (p+1) ((n+(b.getD p 0).toNat%128+1)*128):=rfl
def cz (b:Bs) (p:Nat):Nat×Nat×Nat:=iv b (b.length+1-p) p 0
theorem vR (b:Bs) {p:Nat} (h:b.length≤p) (k n:Nat):iv b k p n=(0,0,6):=by
 cases k with
 | zero=>rfl
 | succ k=>rw[mR,if_pos h]
theorem afH {x b:Nat} (hx:x<281474976710656) (hb:b<128):bits .or .i64 (IntKind.i64.wrap ((x:Int)*2^min 7 64)) (b:Int)=((128*x+b:Nat):Int):=by
 have h1:((x:Int)*2^min 7 64)=((x*128:Nat):Int):=by
  rw[show((2:Int)^min 7 64)=128 by decide];omega
 rw[h1,eU (by omega)]
 show IntKind.i64.wrap ((BitVec.ofInt 64 ((x*128:Nat):Int) ||| BitVec.ofInt 64 (b:Int)).toNat:Int)=_
 rw[BitVec.ofInt_natCast,BitVec.ofInt_natCast,BitVec.toNat_or,BitVec.toNat_ofNat,BitVec.toNat_ofNat,Nat.mod_eq_of_lt (by omega),Nat.mod_eq_of_lt (by omega)]
 have h2:x*128 ||| b=128*x+b:=by
  have h3:=Nat.shiftLeft_add_eq_or_of_lt (b:=b) (i:=7) (by omega) x
  rw[Nat.shiftLeft_eq,show(2:Nat)^7=128 by decide]at h3
  omega
 rw[h2]
 exact eU (by omega)
set_option maxHeartbeats 1000000 in
theorem Bc (b:Bs) (p:Nat) (hb:b.length≤1000000) (hp:p≤1000000) {E:Env} (hN:E.N≤1000000) (Q:KQ)
    (hret:(cz b p).2.2=0→Q.ap .ret ⟨[(2,.int .i64 ((cz b p).1:Nat)),(2000000,.ab 143032 0)],bN b (cz b p).2.1⟩)
    (hdie:∀st,(cz b p).2.2≠0→Q.ap (.panic (bJ (gw (cz b p).2.2))) st) :
    vcW Tryz.prog E Cod.qA Q ⟨[(0,.ab 143032 0),(2000000,.ab 143032 0)],bN b p⟩:=by
 generalize hH:cz b p=H at *
 by_cases h0:b.length≤p
 ·rw[cz,vR b h0]at hH
  subst hH
  refine wW ?_
  refine gK (bN b p) (qB b p (by omega) hb h0) cJ ?_
  exact hdie _ (by decide)
 ·rw[cz,show b.length+1-p=(b.length-p)+1 by omega,mR,if_neg h0]at hH
  have hu:=(b.getD p 0).toNat_lt
  have hby:=qC b p hb (by omega)
  generalize (b.getD p 0).toNat=c at *
  have hk:bits .and .i64 (c:Int) 127=((c%128:Nat):Int):=mN (n:=7) (by omega) (by decide)
  refine wW ?_
  refine fp ?_
  refine bf (bN b p) hby cJ nofun ?_
  rintro h' v ar ⟨rfl,rfl,rfl⟩
  refine⟨cJ,rfl,?_⟩
  refine aw hk ?_
  refine bm hN (fun q:Nat×Nat×Nat=>⟨[(0,.ab 143032 0),(2,.int .i64 0),(3,.int .i64 q.2.2),(4,.int .i64 q.2.1),(2000000,.ab 143032 0)],bN b q.1⟩)
   (fun q=>q.1≤1000001∧q.2.1<4294967296∧q.2.2<256∧(if q.2.2<128 then H=(q.2.1,q.1,0)else if 16777216<q.2.1 then H=(0,0,3)else ∃k,b.length-q.1<k∧iv b k q.1 ((q.2.1+1)*128)=H))
   (fun q=>b.length+1-q.1) (p+1,c%128,c) (.le cJ) ⟨by simp only;omega,by simp only;omega,hu,by
    simp only
    by_cases hc:c<128
    ·rw[if_pos hc,Nat.zero_add]at hH;rw[if_pos hc];exact hH.symm
    ·rw[if_neg hc,Nat.zero_add]at hH
     rw[if_neg hc]
     by_cases hg:16777216<c%128
     ·omega
     ·rw[if_neg hg]at hH ⊢
      exact⟨_,by omega,hH⟩⟩ ?_
  clear hH hby hk
  rintro⟨p2,n,d⟩ R1 ⟨hp2,hn,hd,hH⟩ hR1
  simp only at hp2 hn hd hH
  by_cases hc:d<128
  ·rw[if_pos hc]at hH
   subst hH
   have hret:=hret rfl
   simp only[bN]at hret
   refine kc ?_
   exact hret
  ·rw[if_neg hc]at hH
   by_cases hg:16777216<n
   ·rw[if_pos hg]at hH
    subst hH
    refine kc ?_
    exact hdie _ (by decide)
   ·rw[if_neg hg]at hH
    obtain⟨k,hk,hH⟩:=hH
    by_cases hend:b.length≤p2
    ·rw[vR b hend]at hH
     subst hH
     refine kc ?_
     refine gK (bN b p2) (qB b p2 (by omega) hb hend) cJ ?_
     exact hdie _ (by decide)
    ·have hby:=qC b p2 hb (by omega)
     have hu:=(b.getD p2 0).toNat_lt
     obtain⟨k,rfl⟩:∃k',k=k'+1:=⟨k-1,by omega⟩
     rw[mR,if_neg hend]at hH
     generalize (b.getD p2 0).toNat=x at *
     have hk2:bits .and .i64 (x:Int) 127=((x%128:Nat):Int):=mN (n:=7) (by omega) (by decide)
     have ho:=afH (x:=n+1) (b:=x%128) (by omega) (Nat.mod_lt _ (by decide))
     have e1:((n+1:Nat):Int)=(n:Int)+1:=by omega
     rw[e1]at ho
     have e2:(n+1)*128+x%128=128*(n+1)+x%128:=by omega
     rw[e2]at hH
     refine kc ?_
     refine fp ?_
     refine bf (bN b p2) hby cJ nofun ?_
     rintro h' v ar ⟨rfl,rfl,rfl⟩
     refine⟨cJ,rfl,?_⟩
     refine bc hk2 ho ?_
     have hz:128*(n+1)+x%128<4294967296:=by omega
     generalize 128*(n+1)+x%128=z at *
     refine hR1 (p2+1,z,x) _ (by simp only;omega) ⟨by simp only;omega,hz,hu,?_⟩ (.le ?_)
     ·simp only
      by_cases hx:x<128
      ·rw[if_pos hx]at hH ⊢;exact hH.symm
      ·rw[if_neg hx]at hH ⊢
       by_cases hg2:16777216<z
       ·rw[if_pos hg2]at hH ⊢;exact hH.symm
       ·rw[if_neg hg2]at hH ⊢;exact⟨k,by omega,hH⟩
     ·exact cJ
theorem age (b:Bs) (p:Nat) (hb:b.length≤1000000) (hp:p≤1000000) (he:(cz b p).2.2=0):Eng.Spec Tryz.prog 137 (bN b p) [.ab 143032 0]
    (fun h' v ar=>h'=bN b (cz b p).2.1∧v=.int .i64 ((cz b p).1:Nat)∧ar=[.ab 143032 0]):=by
 refine Cod.agf (fun E R hN hR=>?_)
 refine Bc b p hb hp hN _ (fun _=>?_) (fun st h=>absurd he h)
 refine kc ?_
 exact hR.le cJ ⟨rfl,rfl,rfl⟩
theorem agc (b:Bs) (p:Nat) (hb:b.length≤1000000) (hp:p≤1000000) (he:(cz b p).2.2≠0):Eng.dQ Tryz.prog 137 (bN b p) [.ab 143032 0] (gw (cz b p).2.2):=by
 refine Cod.agd (fun E hN=>?_)
 exact Bc b p hb hp hN _ (fun h=>absurd h he) (fun st _=>of_eq_true kS)
structure En where
 at_:Nat
 next:Nat
 kind:Nat
 data:Bs
 base:Nat
 id:Bs
 lJ:W
def cZ:En:=⟨0,0,0,[],0,[],0#32⟩
def lR (e:En):List AV:=[.int .i64 e.at_,.int .i64 e.next,.int .i64 e.kind,.str e.data,.int .i64 e.base,.str e.id,.int .u32 e.lJ.toNat]
def fP (b:Bs) (p k q:Nat):Nat×Bs×Nat×Nat:=
 if 1≤k∧k≤4 then(0,[],q,0)else
 if k=6 then(if(cz b q).2.2≠0 then(0,[],0,(cz b q).2.2)else if(cz b q).1<1∨p-12<(cz b q).1 then(0,[],0,3)else(p-(cz b q).1,[],(cz b q).2.1,0))else
 if k=7 then(if b.length-q<20 then(0,[],0,6)else(0,bZ ((b.drop q).take 20),q+20,0))else(0,[],0,10)
def lS (b:Bs) (p:Nat) (k size:Nat) (M:Nat×Bs×Nat×Nat):En×Nat:=
 if M.2.2.2≠0 then(cZ,M.2.2.2)else if 65000<size then(cZ,2)else
 if(dP (b.drop M.2.2.1) size).2.2=2∨((dP (b.drop M.2.2.1) size).2.2=0∧(dP (b.drop M.2.2.1) size).1.length<size)then(cZ,3)else
 if(dP (b.drop M.2.2.1) size).2.2≠0 then(cZ,(dP (b.drop M.2.2.1) size).2.2)else
 (⟨p,M.2.2.1+(dP (b.drop M.2.2.1) size).2.1,k,(dP (b.drop M.2.2.1) size).1,M.1,M.2.1,na ((b.drop p).take (M.2.2.1+(dP (b.drop M.2.2.1) size).2.1-p))⟩,0)
def qI (b:Bs) (p:Nat):En×Nat:=
 if(bX b p).2.2.2≠0 then(cZ,(bX b p).2.2.2)else lS b p (bX b p).1 (bX b p).2.1 (fP b p (bX b p).1 (bX b p).2.2.1)
def readP (s:Bs) (a:Int):En×Nat:=if a<12∨(s.length:Int)-20<a then(cZ,1)else qI (s.take (s.length-20)) a.toNat
theorem yJ (b:Bs):∀(m p size sh:Nat),(headR b m p size sh).2.2=0→(headR b m p size sh).2.1≤b.length∧p<(headR b m p size sh).2.1
 | 0,p,size,sh=>by
  unfold headR
  split<;>intro h<;>cases h
 | m+1,p,size,sh=>by
  unfold headR
  split
  ·intro h;cases h
  ·split
   ·intro _;simp only;omega
   ·intro h
    have:=yJ b m _ _ _ h
    omega
theorem yK (b:Bs):∀(m p size sh:Nat),size<2^sh→(headR b m p size sh).1<2^(sh+7*m)
 | 0,p,size,sh=>by
  intro _
  unfold headR
  split<;>exact Nat.pow_pos (by decide)
 | m+1,p,size,sh=>by
  intro hs
  have h2:∀x,size+x%128*2^sh<2^(sh+7):=by
   intro x
   have h1:x%128≤127:=by omega
   have h2:x%128*2^sh≤127*2^sh:=Nat.mul_le_mul_right _ h1
   rw[Nat.pow_add]
   omega
  unfold headR
  split
  ·exact Nat.pow_pos (by decide)
  ·split
   ·refine Nat.lt_of_lt_of_le (h2 _) (Nat.pow_le_pow_right (by decide) (by omega))
   ·have:=yK b m (p+1) _ (sh+7) (h2 (b.getD p 0).toNat)
    rw[show sh+7+7*m=sh+7*(m+1)by omega]at this
    exact this
theorem PS (b:Bs) (p:Nat) (h:(bX b p).2.2.2=0):(bX b p).2.2.1≤b.length∧p<(bX b p).2.2.1∧(bX b p).1<8∧(bX b p).2.1<4294967296:=by
 unfold bX at h ⊢
 split at h
 ·cases h
 ·rename_i h0
  rw[if_neg h0]
  have hu:=(b.getD p 0).toNat_lt
  split at h
  ·rename_i h1
   rw[if_pos h1]
   simp only
   omega
  ·rename_i h1
   rw[if_neg h1]
   split at h
   ·rename_i h2;exact(h2 h).elim
   ·rename_i h2
    rw[if_neg h2]
    have h3:=yJ b 4 (p+1) ((b.getD p 0).toNat%16) 4 (by simpa using h2)
    have h4:=yK b 4 (p+1) ((b.getD p 0).toNat%16) 4 (by omega)
    simp only
    have h5:2^(4+7*4)=4294967296:=by decide
    omega
theorem rR (b:Bs):∀(k p n:Nat),(iv b k p n).2.2=0→(iv b k p n).2.1≤b.length∧p<(iv b k p n).2.1
 | 0,p,n=>by intro h;cases h
 | k+1,p,n=>by
  rw[mR]
  split
  ·intro h;cases h
  ·split
   ·intro _;simp only;omega
   ·split
    ·intro h;cases h
    ·intro h
     have:=rR b k _ _ h
     omega
theorem vS (b:Bs):∀(k p n:Nat),n≤2147483776→(iv b k p n).1<4294967296
 | 0,p,n,_=>by show 0<_;decide
 | k+1,p,n,hn=>by
  rw[mR]
  split
  ·decide
  ·split
   ·simp only;omega
   ·split
    ·decide
    ·exact vS b k _ _ (by omega)
theorem Gc (b:Bs) (q:Nat) (h:(cz b q).2.2=0):(cz b q).1<4294967296:=vS b _ _ _ (by decide)
theorem aaS (b:Bs) (p k q:Nat) (hq:q≤b.length) (h:(fP b p k q).2.2.2=0):(fP b p k q).2.2.1≤b.length∧q≤(fP b p k q).2.2.1:=by
 unfold fP at h ⊢
 split at h
 ·rename_i h1;rw[if_pos h1];exact⟨hq,Nat.le_refl _⟩
 ·rename_i h1
  rw[if_neg h1]
  split at h
  ·rename_i h2
   rw[if_pos h2]
   split at h
   ·rename_i h3;exact(h3 h).elim
   ·rename_i h3
    rw[if_neg h3]
    have:=rR b _ _ _ (by simpa[cz]using h3)
    split at h
    ·cases h
    ·rename_i h4;rw[if_neg h4];simp only[cz];omega
  ·rename_i h2
   rw[if_neg h2]
   split at h
   ·rename_i h3
    rw[if_pos h3]
    split at h
    ·cases h
    ·rename_i h4;rw[if_neg h4];simp only;omega
   ·cases h
theorem jt {st:St} {R:HP→AV→List AV→Prop} {t:TypeId} {n:Int} {e:Nat} (cs0:List AV) (x1:AV) (hn:n=(e:Nat)) (has:eQ st 2 2=[.ab 143004 0,.ab 143005 0]) (hsub:c7 st.h [(143004,.var cs0),(143005,.var [x1])])
    (h:(KQ.post [.cell 4 true 7,.cell 5 false 1] 2 R).ap .ret (jH st 2 2 [(143004,.var cs0),(143005,.var [x1])] [(143005,.var [.int .i64 (e:Nat)]),(143004,.var dr)])) (hc0:cs0.length=7:=by rfl) (ht:t=189:=by rfl) :
    (KQ.gC Tryz.prog [.cell 4 true 7,.cell 5 false 1] 2 2 135 R).ap (.panic (bJ (.iface t (.int .i64 n)))) st:=by
 subst hn ht
 exact s3 [(143004,.var cs0),(143005,.var [x1])] [(143005,.var [.int .i64 (e:Nat)]),(143004,.var dr)] has (agz e 143004 143005 cs0 x1 (by decide) hc0) rfl hsub h
set_option maxHeartbeats 1000000 in
theorem Bq (s:Bs) (a:Int) (hs:s.length≤1000000) (ha:-9223372036854775808≤a∧a≤9223372036854775807):aO Tryz.prog 85 [.str s,.int .i64 a] (.ai [.agg (lR (readP s a).1),.int .i64 ((readP s a).2:Nat)]):=by
 refine Cod.ahN agy (fun E R N hN hN2 hR=>?_)
 unfold readP at hR
 by_cases fu:a<12
 ·rw[if_pos (.inl fu)]at hR
  refine wW ?_
  refine gG ?_
  exact hR.ro ⟨rfl,rfl⟩
 ·by_cases hbig:(s.length:Int)-20<a
  ·rw[if_pos (.inr hbig)]at hR
   refine wW ?_
   refine gG ?_
   exact hR.ro ⟨rfl,rfl⟩
  ·rw[if_neg (by omega)]at hR
   obtain⟨p,rfl⟩:∃p:Nat,a=(p:Int):=⟨a.toNat,by omega⟩
   rw[Int.toNat_natCast]at hR
   refine wW ?_
   refine gG ?_
   have et:((s.length:Int)-20).toNat=s.length-20:=by omega
   refine sn (fun E' hN'=>?_) hN2
   have hbl:(s.take (s.length-20)).length=s.length-20:=by rw[List.length_take];omega
   generalize hbb:s.take (s.length-20)=b at *
   refine bc et hbb ?_
   unfold qI at hR
   by_cases hhe:(bX b p).2.2.2=0
   ·rw[if_neg (by simpa using hhe)]at hR
    have hle:=PS b p hhe
    have hk:=agS b p (by omega) (by omega) hhe
    generalize bX b p=H at *
    obtain⟨k,size,q,he⟩:=H
    simp only at hle hk hR
    refine fp ?_
    refine bf (bN b p) hk cJ nofun ?_
    rintro h' v ar ⟨rfl,rfl,rfl⟩
    refine⟨cJ,rfl,?_⟩
    have hml:=aaS b p k q hle.1
    have hmd:fP b p k q=fP b p k q:=rfl
    generalize hM:fP b p k q=M at hR hml
    refine kc ?_
    refine fV (y:=Cod.Bm) hN' (fun _:Unit=>⟨[(1,.int .i64 p),(4,.ab 143004 0),(5,.ab 143005 0),(6,.str b),(7,.ab 143032 0),(9,.int .i64 size),(2000002,.ab 143004 0),(2000003,.ab 143005 0)],
     [(143004,.var [.int .i64 p,.int .i64 0,.int .i64 k,.str [],.int .i64 M.1,.str M.2.1,.int .u32 0]),(143032,.var [.str b,.int .i64 M.2.2.1]),(143005,.var [.int .i64 0])]⟩) (fun _=>M.2.2.2=0) (fun R2 hR2=>?_) (fun _ hM0=>?_)
    ·-- between the head and the frame
     have hdz:∀e:Nat,e≠0→M.2.2.2=e→(lS b p k size M)=(cZ,e):=by
      intro e he0 he
      unfold lS
      rw[if_pos (by rw[he];exact he0),he]
     have ksm:k<8:=hle.2.2.1
     refine wW ?_
     refine fV (y:=.cond (.t 44) .skip Cod.Bo) hN' (fun _:Unit=>⟨[(1,.int .i64 p),(4,.ab 143004 0),(5,.ab 143005 0),(6,.str b),(7,.ab 143032 0),(9,.int .i64 size),(42,.int .i64 k),(44,.bool (decide (1≤k∧k≤4))),(2000002,.ab 143004 0),(2000003,.ab 143005 0)],
      [(143004,.var [.int .i64 p,.int .i64 0,.int .i64 k,.str [],.int .i64 0,.str [],.int .u32 0]),(143032,.var [.str b,.int .i64 q]),(143005,.var [.int .i64 0])]⟩) (fun _=>True) (fun R3 hR3=>?_) (fun _ _=>?_)
     ·by_cases k1:k=1
      ·subst k1
       refine wW ?_
       exact hR3 () _ trivial (.le vV)
      ·by_cases k2:k=2
       ·subst k2
        refine wW ?_
        exact hR3 () _ trivial (.le vV)
       ·by_cases k3:k=3
        ·subst k3
         refine wW ?_
         exact hR3 () _ trivial (.le vV)
        ·by_cases k4:k=4
         ·subst k4
          refine wW ?_
          exact hR3 () _ trivial (.le vV)
         ·have i1:¬(k:Int)=1:=by omega
          have i2:¬(k:Int)=2:=by omega
          have i3:¬(k:Int)=3:=by omega
          have i4:¬(k:Int)=4:=by omega
          rw[decide_eq_false (by omega)]at hR3
          refine dW i1 i2 i3 i4 ?_
          exact hR3 () _ trivial (.le vV)
     ·unfold fP at hM
      by_cases kk:1≤k∧k≤4
      ·rw[if_pos kk]at hM
       subst hM
       rw[decide_eq_true kk]
       refine wW ?_
       exact hR2 () _ rfl (.le vV)
      ·rw[if_neg kk]at hM
       rw[decide_eq_false kk]
       by_cases k6:k=6
       ·rw[if_pos k6]at hM
        subst k6
        by_cases hbe:(cz b q).2.2=0
        ·rw[if_neg (by simpa using hbe)]at hM
         have hbk:=age b q (by omega) (by omega) hbe
         have hbl:=rR b _ _ _ hbe
         change (cz b q).2.1≤b.length∧q<(cz b q).2.1 at hbl
         have hbs:=Gc b q hbe
         generalize cz b q=B at *
         refine wW ?_
         refine fp ?_
         refine bf (bN b q) hbk cJ nofun ?_
         rintro h' v ar ⟨rfl,rfl,rfl⟩
         refine⟨cJ,rfl,?_⟩
         by_cases hb1:B.1<1∨p-12<B.1
         ·rw[if_pos hb1]at hM
          rw[hdz 3 (by decide) (by rw[←hM])]at hR
          by_cases hb2:B.1<1
          ·have i1:(B.1:Int)<1:=by omega
           refine mD i1 ?_
           (repeat(first | refine dk ?_ | refine di ?_ | refine dj ?_)<;>simp(disch:=omega)only[go_sem,simprocAttr,bN,i1])
           refine jt (t:=189) [.int .i64 p,.int .i64 0,.int .i64 6,.str [],.int .i64 0,.str [],.int .u32 0] (.int .i64 0) rfl ?_ ?_ ?_
           all_goals simp(disch:=omega)only[go_sem,simprocAttr,dr]
           exact hR.ro ⟨rfl,rfl⟩
          ·have i1:¬(B.1:Int)<1:=by omega
           have i2:(p:Int)-12<(B.1:Int):=by omega
           refine C0 i1 i2 ?_
           (repeat(first | refine dk ?_ | refine di ?_ | refine dj ?_)<;>simp(disch:=omega)only[go_sem,simprocAttr,bN,i1,i2])
           refine jt (t:=189) [.int .i64 p,.int .i64 0,.int .i64 6,.str [],.int .i64 0,.str [],.int .u32 0] (.int .i64 0) rfl ?_ ?_ ?_
           all_goals simp(disch:=omega)only[go_sem,simprocAttr,dr]
           exact hR.ro ⟨rfl,rfl⟩
         ·rw[if_neg hb1]at hM
          subst hM
          have i1:¬(B.1:Int)<1:=by omega
          have i2:¬(p:Int)-12<(B.1:Int):=by omega
          have i3:(p:Int)-(B.1:Int)=((p-B.1:Nat):Int):=by omega
          refine C0 i1 i2 ?_
          (repeat(first | refine dk ?_ | refine di ?_ | refine dj ?_)<;>simp(disch:=omega)only[go_sem,simprocAttr,bN,i1,i2])
          exact hR2 () _ rfl (.le (by rw[←i3];exact vV))
        ·rw[if_pos hbe]at hM
         have hd:=agc b q (by omega) (by omega) hbe
         rw[hdz _ hbe (by rw[←hM])]at hR
         generalize cz b q=B at *
         refine wW ?_
         refine gK (bN b q) hd cJ ?_
         refine jt (t:=189) [.int .i64 p,.int .i64 0,.int .i64 6,.str [],.int .i64 0,.str [],.int .u32 0] (.int .i64 0) rfl ?_ ?_ ?_
         all_goals simp(disch:=omega)only[go_sem,simprocAttr,lC,bN,dr]
         exact hR.ro ⟨rfl,rfl⟩
       ·rw[if_neg k6]at hM
        have i6:¬(k:Int)=6:=by omega
        by_cases k7:k=7
        ·rw[if_pos k7]at hM
         subst k7
         by_cases h20:b.length-q<20
         ·rw[if_pos h20]at hM
          rw[hdz 6 (by decide) (by rw[←hM])]at hR
          have i1:(b.length:Int)-(q:Int)<20:=by omega
          refine aw i1 ?_
          refine jt (t:=189) [.int .i64 p,.int .i64 0,.int .i64 7,.str [],.int .i64 0,.str [],.int .u32 0] (.int .i64 0) rfl ?_ ?_ ?_
          all_goals simp(disch:=omega)only[go_sem,simprocAttr,dr]
          exact hR.ro ⟨rfl,rfl⟩
         ·rw[if_neg h20]at hM
          subst hM
          have i1:¬(b.length:Int)-(q:Int)<20:=by omega
          have e20:q+20-q=20:=by omega
          have ei:((q:Int)+20).toNat-q=20:=by omega
          have hhx:=nn ((b.drop q).take 20) (by rw[List.length_take];omega)
          refine dz i1 e20 ei ?_
          refine aC hhx rfl rfl ?_
          refine wW ?_
          exact hR2 () _ rfl (.le vV)
        ·rw[if_neg k7]at hM
         rw[hdz 10 (by decide) (by rw[←hM])]at hR
         have i7:¬(k:Int)=7:=by omega
         refine bc i6 i7 ?_
         refine jt (t:=189) [.int .i64 p,.int .i64 0,.int .i64 k,.str [],.int .i64 0,.str [],.int .u32 0] (.int .i64 0) rfl ?_ ?_ ?_
         all_goals simp(disch:=omega)only[go_sem,simprocAttr,dr]
         exact hR.ro ⟨rfl,rfl⟩
    ·unfold lS at hR
     rw[if_neg (by simpa using hM0)]at hR
     have hml:=hml hM0
     by_cases aE:65000<size
     ·rw[if_pos aE]at hR
      refine wW ?_
      refine jt (t:=189) [.int .i64 p,.int .i64 0,.int .i64 k,.str [],.int .i64 M.1,.str M.2.1,.int .u32 0] (.int .i64 0) rfl ?_ ?_ ?_
      all_goals simp(disch:=omega)only[go_sem,simprocAttr,dr]
      exact hR.ro ⟨rfl,rfl⟩
     ·rw[if_neg aE]at hR
      have hz:=Dj b M.2.2.1 size (by omega) (by omega) (by omega)
      have hzl:=ry (b.drop M.2.2.1) size
      rw[List.length_drop]at hzl
      generalize dP (b.drop M.2.2.1) size=Z at *
      refine wW ?_
      refine aC hz rfl rfl ?_
      refine wW ?_
      refine fV (y:=Cod.Bn) hN' (fun _:Unit=>⟨[(1,.int .i64 p),(4,.ab 143004 0),(5,.ab 143005 0),(6,.str b),(7,.ab 143032 0),(11,.str Z.1),(12,.int .i64 Z.2.1),(2000002,.ab 143004 0),(2000003,.ab 143005 0)],
       [(143005,.var [.int .i64 (if Z.2.2=2∨(Z.2.2=0∧Z.1.length<size)then 3 else Z.2.2:Nat)]),(143004,.var [.int .i64 p,.int .i64 0,.int .i64 k,.str [],.int .i64 M.1,.str M.2.1,.int .u32 0]),(143032,.var [.str b,.int .i64 M.2.2.1])]⟩) (fun _=>True) (fun R3 hR3=>?_) (fun _ _=>?_)
      ·by_cases z2:Z.2.2=2
       ·rw[if_pos (.inl z2)]at hR3
        have i1:(Z.2.2:Int)=2:=by omega
        refine aw i1 ?_
        refine bW i1 ?_
        exact hR3 () _ trivial (.le vV)
       ·have i1:¬(Z.2.2:Int)=2:=by omega
        by_cases z0:Z.2.2=0
        ·have i2:(Z.2.2:Int)=0:=by omega
         by_cases zl:Z.1.length<size
         ·rw[if_pos (.inr ⟨z0,zl⟩)]at hR3
          refine bc i1 i2 ?_
          refine ft i1 i2 ?_
          exact hR3 () _ trivial (.le vV)
         ·rw[if_neg (by omega),z0]at hR3
          refine bc i1 i2 ?_
          refine ft i1 i2 ?_
          exact hR3 () _ trivial (.le vV)
        ·have i2:¬(Z.2.2:Int)=0:=by omega
         rw[if_neg (by omega)]at hR3
         refine bc i1 i2 ?_
         refine ft i1 i2 ?_
         exact hR3 () _ trivial (.le vV)
      ·by_cases zz:Z.2.2=2∨(Z.2.2=0∧Z.1.length<size)
       ·rw[if_pos zz]at hR ⊢
        refine wW ?_
        refine jt (t:=189) [.int .i64 p,.int .i64 0,.int .i64 k,.str [],.int .i64 M.1,.str M.2.1,.int .u32 0] (.int .i64 3) rfl ?_ ?_ ?_
        all_goals simp(disch:=omega)only[go_sem,simprocAttr,dr]
        exact hR.ro ⟨rfl,rfl⟩
       ·rw[if_neg zz]at hR ⊢
        by_cases z0:Z.2.2=0
        ·rw[if_neg (by simpa using z0)]at hR
         have hcr:=Jh ((b.drop p).take (M.2.2.1+Z.2.1-p)) (by rw[List.length_take,List.length_drop];omega)
         have et2:((M.2.2.1:Int)+(Z.2.1:Int)).toNat-p=M.2.2.1+Z.2.1-p:=by omega
         rw[z0]
         refine aw et2 ?_
         refine aC hcr rfl rfl ?_
         refine wW ?_
         exact hR.ro ⟨rfl,rfl⟩
        ·rw[if_pos z0]at hR
         have i2:¬(Z.2.2:Int)=0:=by omega
         refine aw i2 ?_
         refine jt (t:=189) [.int .i64 p,.int .i64 0,.int .i64 k,.str [],.int .i64 M.1,.str M.2.1,.int .u32 0] (.int .i64 (Z.2.2:Nat)) rfl ?_ ?_ ?_
         all_goals simp(disch:=omega)only[go_sem,simprocAttr,dr]
         exact hR.ro ⟨rfl,rfl⟩
   ·rw[if_pos hhe]at hR
    have hd:=agQ b p (by omega) (by omega) hhe
    generalize bX b p=H at *
    refine gK (bN b p) hd cJ ?_
    refine jt (t:=189) [.int .i64 p,.int .i64 0,.int .i64 0,.str [],.int .i64 0,.str [],.int .u32 0] (.int .i64 0) rfl ?_ ?_ ?_
    all_goals simp(disch:=omega)only[go_sem,simprocAttr,lC,bN,dr]
    exact hR.ro ⟨rfl,rfl⟩
end Go.Proofs.YtoalcafkffmiiaaGreatDoor.Pk
