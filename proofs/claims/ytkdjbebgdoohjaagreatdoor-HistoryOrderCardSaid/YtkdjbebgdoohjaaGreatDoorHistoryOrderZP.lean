/- The proof, part 42 of 50. -/
import Derived.Test.YtkdjbebgdoohjaaGreatDoorHistoryOrderZH
import Derived.Test.YtkdjbebgdoohjaaGreatDoorProg
import Derived.KernelRfl
import Derived.Tactics
set_option linter.all false
namespace Go.Proofs.YtkdjbebgdoohjaaGreatDoor.Pk
open Eng Eng.Kz
set_option maxRecDepth 100000
def iK (e:Nat):Value:=.iface 206 (.int .i64 (e:Nat))
theorem ql {vs:Array Value} (h:vs.size=2):∃v0 v1,vs=#[v0,v1]:=by
 obtain⟨l⟩:=vs
 match l,h with
 | [a,b],_=>exact⟨a,b,rfl⟩
theorem Tv:kL Tryz.prog 134 2:=by
 intro vs w hvs;obtain⟨v0,v1,rfl⟩:=ql hvs;refine callsDIn_of_wpSIn Tryz.func134 rfl trivial λc₀ cs hu=>?_;apply wpSIn_seq;apply wpSIn_region;simp[wpOpsSIn,go_sem,recoverD,hu,Tryz.ntmps134,Exit.thenS];refine wpSIn_of_wpIn rfl ?_;refine wpIn_seq ?_;refine wpIn_region ?_;simp[wpOpsIn,Oper.wpIn,Oper.uponIn,Oper.semAt_none,go_sem,Region.wanted,Exit.then]
 refine wpIn_cond_false (by simp[Act.eval,Array.replicate]) ?_;refine wpIn_skip ?_;simp[bodyPostS,results,Tryz.results134];exact hu.symm▸rfl
def dQ:List AV:=[.int .i64 0,.int .i64 0,.int .i64 0,.str [],.int .i64 0,.str [],.int .u32 0]
def zeroV:Value:=.agg #[.int .i64 0,.int .i64 0,.int .i64 0,.string ⟨#[]⟩,.int .i64 0,.string ⟨#[]⟩,.int .u32 0]
theorem Zn (X:Nat->Prop) (w:World) (ρ:Eng.Loc):RV X w ρ zeroV (.agg dQ):=by
 refine .agg _ _ _ rfl (λj v a h1 h2=>?_);have hj:j<7:=(List.getElem?_eq_some_iff.1 h2).1;obtain rfl | rfl | rfl | rfl | rfl | rfl | rfl:j=0\/j=1\/j=2\/j=3\/j=4\/j=5\/j=6:=ZG
 all_goals
  simp[dQ]at h1 h2;subst h1 h2
  first | exact .int _ _ _ | exact .str _ []
theorem VA (x:Value) (t0:TypeId) (w:World):(Instr.typeAssert (.iface 206 x) t0 206 true).run Tryz.prog w=.ok (.tuple #[x,.bool true]) w:=by
 have hu:(underlying 206).run Tryz.prog w=.ok (.int .i64) w:=by rfl
 unfold Instr.typeAssert;simp[go_sem,hu]
theorem KZ:bL Tryz.prog 175=some 7:=by kernel_rfl
theorem vm:bL Tryz.prog 32=some 1:=by kernel_rfl
theorem Nv (w:World):(Instr.build 175 #[]).run Tryz.prog w=.ok zeroV w:=by kernel_rfl
theorem mo {P:Program} {o:Oper} {a:Act} {w w':World} {v:Value} {next:Act->World->Prop} {Q:Exit->Act->World->Prop} (h:(execOp a.eval o).run P w=.ok (.value v) w') (hn:next (a.put o.dst v) w') :
    Oper.uponIn Fence.wide 0 P o a next Q ((o.semAt Fence.wide.round a.eval).run P w):=by
 rw[show Fence.wide.round=none from rfl,Oper.semAt_none,h];exact hn
theorem DL {P:Program} {o:Oper} {a:Act} {w w':World} {next:Act->World->Prop} {Q:Exit->Act->World->Prop} (h:(execOp a.eval o).run P w=.ok .skip w') (hn:next (a.put o.dst undef) w') :
    Oper.uponIn Fence.wide 0 P o a next Q ((o.semAt Fence.wide.round a.eval).run P w):=by
 rw[show Fence.wide.round=none from rfl,Oper.semAt_none,h];exact hn
theorem Tw (e:Nat) (i0 i1:Nat) (cs0:List AV) (x1:AV) (hi:i0≠i1) (hc0:cs0.length=7) :
    om Tryz.prog 134 [(i0,.var cs0),(i1,.var [x1])] [.aa i0 0,.aa i1 0] (iK e) [(i1,.var [.int .i64 (e:Nat)]),(i0,.var dQ)]:=by
 intro X0 ρ w vs hh hA hX hvs hrv;obtain⟨v0,v1,rfl⟩:=ql hvs;have hnt:Tryz.f134.ntmps=12:=Tryz.ntmps134;generalize hh0:([(i0,.var cs0),(i1,.var [x1])]:HP)=h at *
 let E0:Env:=⟨w,aF ρ h,X0,Tryz.f134.ntmps,0,λk=>#[v0,v1].getD (k-2000000) undef,none,w.heap.size,ZM _,[]⟩
 have g0:af E0 ρ ⟨fA [.aa i0 0,.aa i1 0],h⟩ {tmps:=#[v0,v1]++Array.replicate (Tryz.f134.ntmps-#[v0,v1].size) undef,defers:=[]} w:=nX (B:=0) (by rw[hnt];decide) (by rw[hnt];exact(by decide:2<=12)) hh hA hX hvs hrv [] rfl;have hE:∀d,d<12->d<E0.N:=λd hd=>by show d<Tryz.f134.ntmps;rw[hnt];exact hd
 have g1:=(((((g0.put 5 (hE 5 (by decide)) (v:=iK e) (av:=.undef) (.undef _ _)).put 6 (hE 6 (by decide)) (v:=.tuple #[.int .i64 (e:Nat),.bool true]) (av:=.undef) (.undef _ _)).put 4 (hE 4 (by decide)) (v:=.tuple #[.int .i64 (e:Nat),.bool true]) (av:=.undef) (.undef _ _)).put 7 (hE 7 (by decide)) (v:=.int .i64 (e:Nat)) (av:=.int .i64 (e:Nat)) (.int _ _ _)).put 8 (hE 8 (by decide)) (v:=.bool true) (av:=.bool true) (.bool _ _)).put 2 (hE 2 (by decide)) (v:=.int .i64 (e:Nat)) (av:=.int .i64 (e:Nat)) (.int _ _ _);have g2:=g1.put 3 (hE 3 (by decide)) (v:=.bool true) (av:=.bool true) (.bool _ _);have g3:=g2.put 9 (hE 9 (by decide)) (v:=.bool true) (av:=.bool true) (.bool _ _);have g4:=(g3.put 10 (hE 10 (by decide)) (v:=zeroV) (av:=.agg dQ) (Zn _ _ _)).put 11 (hE 11 (by decide)) (v:=.int .i64 (e:Nat)) (av:=.int .i64 (e:Nat)) (.int _ _ _);have b3:=aX g2 (.tmp 3);have b9:=aX g3 (.tmp 9);have b2:=aX g3 (.tmp 2);clear g0 g1 g2 g3;generalize hac:(((((((((({tmps:=#[v0,v1]++Array.replicate (Tryz.f134.ntmps-#[v0,v1].size) undef,defers:=[]}:Act).put (some 5) (iK e)).put (some 6) (.tuple #[.int .i64 (e:Nat),.bool true])).put (some 4) (.tuple #[.int .i64 (e:Nat),.bool true])).put (some 7) (.int .i64 (e:Nat))).put (some 8) (.bool true)).put (some 2) (.int .i64 (e:Nat))).put (some 3) (.bool true)).put (some 9) (.bool true)).put (some 10) zeroV).put (some 11) (.int .i64 (e:Nat))=ac at g4;have had:ac.defers=[]:=by rw[<-hac];rfl
 have fin:∃w1 w2,(Instr.storeAt 175 (ac.eval (.tmp 0)) (ac.eval (.tmp 10))).run Tryz.prog w=.ok () w1/\(Instr.storeAt 32 (ac.eval (.tmp 1)) (ac.eval (.tmp 11))).run Tryz.prog w1=.ok () w2 /\
     ∃ρ' st',af E0 ρ' st' ac w2/\st'.h=[(i1,.var [.int .i64 (e:Nat)]),(i0,.var dQ)]/\sget st'.s 2000000=some (.aa i0 0)/\sget st'.s 2000001=some (.aa i1 0):=by
  subst hh0;have g4:=g4.weaken (st':=⟨[(0,.aa i0 0),(1,.aa i1 0),(10,.agg dQ),(11,.int .i64 (e:Nat)),(2000000,.aa i0 0),(2000001,.aa i1 0)],[(i0,.var cs0),(i1,.var [x1])]⟩) (by exact⟨rfl,rfl,rfl,rfl,rfl,rfl,trivial⟩) (by simp[dr,hget,hi,hi.symm]);have hx0:=aX g4 (.tmp 0);have hx10:=aX g4 (.tmp 10)
  obtain⟨w1,ρ1,st1,r1,g5,K⟩:=kc g4 KZ hx0 hx10 (K:=λ_ st1=>st1=⟨[(0,.aa i0 0),(1,.aa i1 0),(10,.agg dQ),(11,.int .i64 (e:Nat)),(2000000,.aa i0 0),(2000001,.aa i1 0)],[(i0,.var dQ),(i1,.var [x1])]⟩) (by
   simp[effSt,hget,bn,hdel,hc0,hi,hi.symm,bR,dQ,aD,cellsOf,isCell,ev,trE,sget])
  subst K;have hx1:=aX g5 (.tmp 1);have hx11:=aX g5 (.tmp 11)
  obtain⟨w2,ρ2,st2,r2,g6,K⟩:=kc g5 vm hx1 hx11 (K:=λ_ st1=>st1=⟨[(0,.aa i0 0),(1,.aa i1 0),(10,.agg dQ),(11,.int .i64 (e:Nat)),(2000000,.aa i0 0),(2000001,.aa i1 0)],[(i1,.var [.int .i64 (e:Nat)]),(i0,.var dQ)]⟩) (by
   simp[effSt,hget,bn,hdel,hi,hi.symm,bR,aD,cellsOf,isCell,ev,trE,sget])
  subst K;exact⟨w1,w2,r1,r2,ρ2,_,g6,rfl,rfl,rfl⟩
 obtain⟨w1,w2,r1,r2,ρ2,st2,g6,e1,e2,e3⟩:=fin;clear g4;refine callsDIn_of_wpSIn Tryz.func134 rfl trivial λc₀ cs hu=>?_;apply wpSIn_seq;apply wpSIn_region;simp[wpOpsSIn,go_sem,recoverD,hu,bp,iK,Tryz.ntmps134,Exit.thenS,VA];refine wpSIn_of_wpIn rfl ?_;refine wpIn_seq ?_;refine wpIn_region ?_;simp[wpOpsIn,Oper.wpIn,Oper.uponIn,Oper.semAt_none,go_sem,Region.wanted,Exit.then]
 refine wpIn_cond_true (by simp[Act.eval,Array.replicate]) ?_;refine Eq.mpr (congrArg (λa=>Code.wpIn Fence.wide 0 Tryz.prog _ _ a w) (a₂:=(((((((({tmps:=#[v0,v1]++Array.replicate (Tryz.f134.ntmps-#[v0,v1].size) undef,defers:=[]}:Act).put (some 5) (iK e)).put (some 6) (.tuple #[.int .i64 (e:Nat),.bool true])).put (some 4) (.tuple #[.int .i64 (e:Nat),.bool true])).put (some 7) (.int .i64 (e:Nat))).put (some 8) (.bool true)).put (some 2) (.int .i64 (e:Nat))).put (some 3) (.bool true)).put (some 9) (.bool true)) ?_) ?_
 ·simp[Act.put,hnt,iK]
 refine wpIn_region_list (wpListIn_plain rfl (λnext hnext=>⟨λ_ _=>trivial,?_⟩))
 refine mo (v:=zeroV) (w':=w) (by simp[execOp,Nv]) (hnext _ _ ?_);refine wpListIn_plain rfl (λnext hnext=>⟨λ_ _=>trivial,?_⟩)
 refine mo (v:=.int .i64 (e:Nat)) (w':=w) (by simp[execOp,Act.eval,Act.put,hnt]) (hnext _ _ ?_);refine wpListIn_plain rfl (λnext hnext=>⟨λ_ _=>trivial,?_⟩)
 rw[hac];refine DL (w':=w1) (by simp[execOp,r1]) (hnext _ _ ?_);refine wpListIn_plain rfl (λnext hnext=>⟨λ_ _=>trivial,?_⟩)
 refine DL (w':=w2) (by simp only[Act.put];simp[execOp,r2]) (hnext _ _ ?_);refine⟨had,_,rfl,.tuple #[],by simp[results,Tryz.results134],⟨_,rfl⟩,rfl,ρ2,?_,?_,g6.ai.os,g6.ai.tape,g6.ai.output,g6.ai.size,g6.ai.block,?_⟩
 ·have:=g6.heap;rw[e1]at this;exact this
 ·intro j v x h1 h2;have hj:j<2:=(List.getElem?_eq_some_iff.1 h2).1
  have hgv:∀k,2000000<=k->aO E0 ac k=E0.gv k:=λk hk=>by
   unfold aO;rw[if_neg (by show ¬k<Tryz.f134.ntmps;rw[hnt];omega)]
  obtain rfl | rfl:j=0\/j=1:=ZG
  ·obtain rfl:v0=v:=by simpa using h1
   obtain rfl:AV.aa i0 0=x:=by simpa using h2
   have hr:=(g6.aM _ _ e2).2;rw[hgv _ (ZM _),e1]at hr;exact hr
  ·obtain rfl:v1=v:=by simpa using h1
   obtain rfl:AV.aa i1 0=x:=by simpa using h2
   have hr:=(g6.aM _ _ e3).2;rw[hgv _ (Nat.le_succ _),e1]at hr;exact hr
 ·rintro b ⟨id,W,L,h1,h2,h3⟩;rw[<-e1]at h1;exact g6.base id W L b h1 h2 h3
open Eng Sh
set_option maxRecDepth 10000
def bJ (b:Bs) (p:Nat):HP:=[(143032,.var [.str b,.int .i64 p])]
theorem cT {p:Prop} (h:p:=by simp(disch:=first | omega | (simp only[Lx];omega))only[go_sem,simprocAttr,bJ]):p:=h
theorem lF {a b:Prop} (k:b) (h:b->a:=by intro h;simp(disch:=first | omega | (simp only[Lx];omega))only[go_sem,simprocAttr,bJ];exact h):a:=h k
theorem n9 {E0:Prop} {a b:Prop} (e0:E0) (k:b) (h:E0->b->a:=by intro e0 h;simp(disch:=first | omega | (simp only[Lx];omega))only[go_sem,simprocAttr,bJ,e0];exact h):a:=h e0 k
theorem Mi {E0:Prop} {a b:Prop} (e0:E0) (k:b) (h:E0->b->a:=by intro e0 h;(repeat(first | (with_reducible refine cJ ?_) | (with_reducible refine cH ?_) | (with_reducible refine cI ?_))<;>simp(disch:=first | omega | (simp only[Lx];omega))only[go_sem,simprocAttr,bJ,e0]);exact h):a:=h e0 k
theorem ET {E0 E1:Prop} {a b:Prop} (e0:E0) (e1:E1) (k:b) (h:E0->E1->b->a:=by intro e0 e1 h;simp(disch:=first | omega | (simp only[Lx];omega))only[go_sem,simprocAttr,bJ,e0,e1];exact h):a:=h e0 e1 k
theorem A3 {E0 E1:Prop} {a b:Prop} (e0:E0) (e1:E1) (k:b) (h:E0->E1->b->a:=by intro e0 e1 h;(repeat(first | (with_reducible refine cJ ?_) | (with_reducible refine cH ?_) | (with_reducible refine cI ?_))<;>simp(disch:=first | omega | (simp only[Lx];omega))only[go_sem,simprocAttr,bJ,e0,e1]);exact h):a:=h e0 e1 k
theorem J7 {t:TypeId} {n:Int} {e:Nat} {st:St} (ht:t=206:=by rfl) (hn:n=(e:Nat):=by rfl):(KQ.dies (iK e)).ap (.panic (bp (.iface t (.int .i64 n)))) st:=by
 subst ht hn;exact of_eq_true k9
theorem sO (b:Bs) (p:Nat) (hb:b.length<=1000000) (h:p<b.length):Eng.Spec Tryz.prog 164 (bJ b p) [.aa 143032 0] (λh' v ar=>h'=bJ b (p+1)/\v=.int .i64 ((b.getD p 0).toNat:Nat)/\ar=[.aa 143032 0]):=by
 refine Cod.Tr (λE R hN hR=>?_);have hu:=(b.getD p 0).toNat_lt;have e1:((p:Int)+1-1).toNat=p:=ZG;refine n9 e1 ?_;exact hR.le cT ⟨rfl,rfl,rfl⟩
theorem sN (b:Bs) (p:Nat) (hp:p<=2000000) (hb:b.length<=1000000) (h:b.length<=p):Eng.dW Tryz.prog 164 (bJ b p) [.aa 143032 0] (iK 6):=by
 refine Cod.Tq (λE hN=>?_);refine lF ?_;exact J7
def headR (b:Bs):Nat->Nat->Nat->Nat->Nat×Nat×Nat
 | 0,p,_,_=>if b.length<=p then(0,0,6)else(0,0,3)
 | m+1,p,size,sh=>if b.length<=p then(0,0,6)else if(b.getD p 0).toNat<128 then(size+(b.getD p 0).toNat%128*2^sh,p+1,0)else headR b m (p+1) (size+(b.getD p 0).toNat%128*2^sh) (sh+7)
def bV (b:Bs) (p:Nat):Nat×Nat×Nat×Nat:=
 if b.length<=p then(0,0,0,6)else if(b.getD p 0).toNat<128 then((b.getD p 0).toNat/16%8,(b.getD p 0).toNat%16,p+1,0)else
 if(headR b 4 (p+1) ((b.getD p 0).toNat%16) 4).2.2≠0 then(0,0,0,(headR b 4 (p+1) ((b.getD p 0).toNat%16) 4).2.2)else
 ((b.getD p 0).toNat/16%8,(headR b 4 (p+1) ((b.getD p 0).toNat%16) 4).1,(headR b 4 (p+1) ((b.getD p 0).toNat%16) 4).2.1,0)
theorem ov {x n:Nat} (hx:x<1000000) (hn:n<=10):bits .and .i64 (x:Int) ((2^n-1:Nat):Int)=((x%2^n:Nat):Int):=by
 have hp:2^n<=2^10:=ZY (by decide) hn;have hp1:0<2^n:=ab2 (by decide);have:=aaM x hp1
 show IntKind.i64.wrap ((BitVec.ofInt 64 (x:Int) &&& BitVec.ofInt 64 ((2^n-1:Nat):Int)).toNat:Int)=_
 rw[ZU,ZU,aaQ,ZT,ZT,ZO ZG,ZO ZG,aam];exact eF ZG
theorem SO {x k c:Nat} (hx:x<2^k) (hk:k<=32) (hc:c<128):bits .or .i64 (x:Int) (IntKind.i64.wrap ((c:Int)*2^min k 64))=((x+c*2^k:Nat):Int):=by
 have hp:2^k<=2^32:=ZY (by decide) hk;have h2:c*2^k<=127*2^32:=abJ ZG hp
 have e:IntKind.i64.wrap ((c:Int)*2^min k 64)=((c*2^k:Nat):Int):=by
  rw[aag ZG,show((c:Int)*2^k)=((c*2^k:Nat):Int)by push_cast;rfl];exact eF ZG
 rw[e]
 show IntKind.i64.wrap ((BitVec.ofInt 64 (x:Int) ||| BitVec.ofInt 64 ((c*2^k:Nat):Int)).toNat:Int)=_
 rw[ZU,ZU,aaG,ZT,ZT,ZO ZG,ZO ZG,Nat.or_comm,<-aao,<-aab hx,aao,abA];exact eF ZG
set_option maxHeartbeats 1000000 in
theorem Da (b:Bs) (p:Nat) (hb:b.length<=1000000) (hp:p<=1000000) {E:Env} (hN:E.N<=1000000) (Q:KQ)
    (hret:(bV b p).2.2.2=0->Q.ap .ret ⟨[(2,.int .i64 ((bV b p).1:Nat)),(3,.int .i64 ((bV b p).2.1:Nat)),(2000000,.aa 143032 0)],bJ b (bV b p).2.2.1⟩)
    (hdie:∀st,(bV b p).2.2.2≠0->Q.ap (.panic (bp (iK (bV b p).2.2.2))) st) :
    vcW Tryz.prog E Cod.Tx Q ⟨[(0,.aa 143032 0),(2000000,.aa 143032 0)],bJ b p⟩:=by
 generalize hH:bV b p=H at *
 unfold bV at hH;by_cases h0:b.length<=p
 ·rw[if_pos h0]at hH;subst hH;refine wW ?_;refine eU (bJ b p) (sN b p ZG hb h0) cT ?_;exact hdie _ (by decide)
 ·rw[if_neg h0]at hH;have hu:=(b.getD p 0).toNat_lt;have hby:=sO b p hb ZG;generalize (b.getD p 0).toNat=c at *
  have hsh:((c:Nat):Int).fdiv (2^min 4 64)=((c/16:Nat):Int):=by
   rw[aag (by decide),aaf _ (by decide)];omega
  have hk7:bits .and .i64 ((c/16:Nat):Int) 7=((c/16%8:Nat):Int):=ov (n:=3) ZG (by decide);have hk15:bits .and .i64 (c:Int) 15=((c%16:Nat):Int):=ov (n:=4) ZG (by decide);refine wW ?_;refine dY ?_;refine aW (bJ b p) hby cT nofun ?_;rintro h' v ar ⟨rfl,rfl,rfl⟩;refine⟨cT,rfl,?_⟩;refine bU hsh hk7 hk15 ?_
  refine aP hN (λq:Nat×Nat×Nat×Nat=>⟨[(0,.aa 143032 0),(2,.int .i64 0),(3,.int .i64 0),(4,.int .i64 q.2.2.2),(5,.int .i64 (c/16%8:Nat)),(6,.int .i64 q.2.2.1),(7,.int .i64 (4+7*(4-q.1):Nat)),(2000000,.aa 143032 0)],bJ b q.2.1⟩)
   (λq=>q.1<=4/\q.2.1<=1000000/\q.2.2.1<2^(4+7*(4-q.1))/\q.2.2.2<256/\(if q.2.2.2<128 then H=(c/16%8,q.2.2.1,q.2.1,0)else
    H=if(headR b q.1 q.2.1 q.2.2.1 (4+7*(4-q.1))).2.2≠0 then(0,0,0,(headR b q.1 q.2.1 q.2.2.1 (4+7*(4-q.1))).2.2)else(c/16%8,(headR b q.1 q.2.1 q.2.2.1 (4+7*(4-q.1))).1,(headR b q.1 q.2.1 q.2.2.1 (4+7*(4-q.1))).2.1,0)))
   (λq=>if q.2.2.2<128 then 0 else q.1+1) (4,p+1,c%16,c) (.le cT) ⟨by simp,by simp only;omega,by simp only;omega,hu,by
    by_cases hc:c<128
    ·rw[if_pos hc]at hH;simp only[if_pos hc];exact hH.symm
    ·rw[if_neg hc]at hH;simp only[if_neg hc];exact hH.symm⟩ ?_
  clear hH hby hsh hk15;rintro⟨m,p2,n,d⟩ R1 ⟨hm,hp2,hn,hd,hH⟩ hR1;simp only at hm hp2 hn hd hH;generalize hshe:4+7*(4-m)=sh at *
  by_cases hc:d<128
  ·rw[if_pos hc]at hH;subst hH;have hret:=hret rfl;simp only[bJ]at hret;refine n9 hshe ?_;exact hret
  ·rw[if_neg hc]at hH;by_cases hend:b.length<=p2
   ·have hR0:headR b m p2 n sh=(0,0,6):=by cases m with | zero=>exact if_pos hend | succ m=>exact if_pos hend
    rw[hR0,if_pos (by decide)]at hH;subst hH;refine n9 hshe ?_;refine eU (bJ b p2) (sN b p2 ZG hb hend) cT ?_;exact hdie _ (by decide)
   ·have hby:=sO b p2 hb ZG;have hu:=(b.getD p2 0).toNat_lt
    cases m with
    | zero=>
     have hR0:headR b 0 p2 n sh=(0,0,3):=if_neg hend;rw[hR0,if_pos (by decide)]at hH;subst hH;refine n9 hshe ?_;refine dY ?_;refine aW (bJ b p2) hby cT nofun ?_;rintro h' v ar ⟨rfl,rfl,rfl⟩;refine⟨cT,rfl,?_⟩;have hgt:(25:Int)<(sh:Int):=ZG;refine aE hgt hshe ?_
     exact hdie _ (by decide)
    | succ m=>
     have hR0:headR b (m+1) p2 n sh=if(b.getD p2 0).toNat<128 then(n+(b.getD p2 0).toNat%128*2^sh,p2+1,0)else headR b m (p2+1) (n+(b.getD p2 0).toNat%128*2^sh) (sh+7):=if_neg hend
     rw[hR0]at hH;generalize (b.getD p2 0).toNat=x at *
     have hk:bits .and .i64 (x:Int) 127=((x%128:Nat):Int):=ov (n:=7) ZG (by decide);have ho:=SO (x:=n) (k:=sh) (c:=x%128) hn ZG (aaM _ (by decide))
     have hn2:n+x%128*2^sh<2^(sh+7):=by
      have h1:x%128<=127:=ZG;have h2:x%128*2^sh<=127*2^sh:=Z5 _ h1;rw[abO];omega
     have hgt:¬(25:Int)<(sh:Int):=ZG;have hs7:sh+7=4+7*(4-m):=ZG
     have au:n+x%128*2^sh<4294967296:=by
      have:2^(sh+7)<=2^32:=ZY (by decide) ZG;omega
     refine n9 hshe ?_;refine dY ?_;refine aW (bJ b p2) hby cT nofun ?_;rintro h' v ar ⟨rfl,rfl,rfl⟩;refine⟨cT,rfl,?_⟩;refine cq hgt hshe hk ho ?_;generalize hz:n+x%128*2^sh=z at *
     rw[hs7]at hH hn2;refine hR1 (m,p2+1,z,x) _ ?_ ⟨by simp only;omega,by simp only;omega,hn2,hu,?_⟩ (.le ?_)
     ·simp only[if_neg hc];split<;>omega
     ·simp only;by_cases hx:x<128
      ·rw[if_pos hx]at hH |-;rw[if_neg (by simp)]at hH;exact hH
      ·rw[if_neg hx]at hH |-;exact hH
     ·simp(disch:=omega)only[go_sem,simprocAttr,bJ,<-hs7]
theorem TA (b:Bs) (p:Nat) (hb:b.length<=1000000) (hp:p<=1000000) (he:(bV b p).2.2.2=0):Eng.Spec Tryz.prog 135 (bJ b p) [.aa 143032 0]
    (λh' v ar=>h'=bJ b (bV b p).2.2.1/\v=.ab [.int .i64 ((bV b p).1:Nat),.int .i64 ((bV b p).2.1:Nat)]/\ar=[.aa 143032 0]):=by
 refine Cod.TC (λE R hN hR=>?_);refine Da b p hb hp hN _ (λ_=>?_) (λst h=>absurd he h);refine lF ?_;exact hR.le cT ⟨rfl,rfl,rfl⟩
theorem Ty (b:Bs) (p:Nat) (hb:b.length<=1000000) (hp:p<=1000000) (he:(bV b p).2.2.2≠0):Eng.dW Tryz.prog 135 (bJ b p) [.aa 143032 0] (iK (bV b p).2.2.2):=by
 refine Cod.Tz (λE hN=>?_);exact Da b p hb hp hN _ (λh=>absurd h he) (λst _=>of_eq_true k9)
def jx (b:Bs):Nat->Nat->Nat->Nat×Nat×Nat
 | 0,_,_=>(0,0,6)
 | k+1,p,n=>if b.length<=p then(0,0,6)else if(b.getD p 0).toNat<128 then(n+(b.getD p 0).toNat%128,p+1,0)else if 16777216<n+(b.getD p 0).toNat%128 then(0,0,3)else jx b k (p+1) ((n+(b.getD p 0).toNat%128+1)*128)
theorem oC (b:Bs) (k p n:Nat):jx b (k+1) p n=if b.length<=p then(0,0,6)else if(b.getD p 0).toNat<128 then(n+(b.getD p 0).toNat%128,p+1,0)else if 16777216<n+(b.getD p 0).toNat%128 then(0,0,3)else jx b k (p+1) ((n+(b.getD p 0).toNat%128+1)*128):=rfl
def cE (b:Bs) (p:Nat):Nat×Nat×Nat:=jx b (b.length+1-p) p 0
theorem yT (b:Bs) {p:Nat} (h:b.length<=p) (k n:Nat):jx b k p n=(0,0,6):=by
 cases k with
 | zero=>rfl
 | succ k=>rw[oC,if_pos h]
theorem SK {x b:Nat} (hx:x<281474976710656) (hb:b<128):bits .or .i64 (IntKind.i64.wrap ((x:Int)*2^min 7 64)) (b:Int)=((128*x+b:Nat):Int):=by
 have h1:((x:Int)*2^min 7 64)=((x*128:Nat):Int):=by
  rw[show((2:Int)^min 7 64)=128 by decide];omega
 rw[h1,eF ZG]
 show IntKind.i64.wrap ((BitVec.ofInt 64 ((x*128:Nat):Int) ||| BitVec.ofInt 64 (b:Int)).toNat:Int)=_
 rw[ZU,ZU,aaG,ZT,ZT,ZO ZG,ZO ZG]
 have h2:x*128 ||| b=128*x+b:=by
  have h3:=aab (b:=b) (i:=7) ZG x;rw[aao,show(2:Nat)^7=128 by decide]at h3;omega
 rw[h2];exact eF ZG
set_option maxHeartbeats 1000000 in
theorem C8 (b:Bs) (p:Nat) (hb:b.length<=1000000) (hp:p<=1000000) {E:Env} (hN:E.N<=1000000) (Q:KQ)
    (hret:(cE b p).2.2=0->Q.ap .ret ⟨[(2,.int .i64 ((cE b p).1:Nat)),(2000000,.aa 143032 0)],bJ b (cE b p).2.1⟩)
    (hdie:∀st,(cE b p).2.2≠0->Q.ap (.panic (bp (iK (cE b p).2.2))) st) :
    vcW Tryz.prog E Cod.Tk Q ⟨[(0,.aa 143032 0),(2000000,.aa 143032 0)],bJ b p⟩:=by
 generalize hH:cE b p=H at *
 by_cases h0:b.length<=p
 ·rw[cE,yT b h0]at hH;subst hH;refine wW ?_;refine eU (bJ b p) (sN b p ZG hb h0) cT ?_;exact hdie _ (by decide)
 ·rw[cE,show b.length+1-p=(b.length-p)+1 by omega,oC,if_neg h0]at hH;have hu:=(b.getD p 0).toNat_lt;have hby:=sO b p hb ZG;generalize (b.getD p 0).toNat=c at *
  have hk:bits .and .i64 (c:Int) 127=((c%128:Nat):Int):=ov (n:=7) ZG (by decide);refine wW ?_;refine dY ?_;refine aW (bJ b p) hby cT nofun ?_;rintro h' v ar ⟨rfl,rfl,rfl⟩;refine⟨cT,rfl,?_⟩;refine ah hk ?_
  refine aP hN (λq:Nat×Nat×Nat=>⟨[(0,.aa 143032 0),(2,.int .i64 0),(3,.int .i64 q.2.2),(4,.int .i64 q.2.1),(2000000,.aa 143032 0)],bJ b q.1⟩)
   (λq=>q.1<=1000001/\q.2.1<4294967296/\q.2.2<256/\(if q.2.2<128 then H=(q.2.1,q.1,0)else if 16777216<q.2.1 then H=(0,0,3)else ∃k,b.length-q.1<k/\jx b k q.1 ((q.2.1+1)*128)=H))
   (λq=>b.length+1-q.1) (p+1,c%128,c) (.le cT) ⟨by simp only;omega,by simp only;omega,hu,by
    simp only;by_cases hc:c<128
    ·rw[if_pos hc,aaY]at hH;rw[if_pos hc];exact hH.symm
    ·rw[if_neg hc,aaY]at hH;rw[if_neg hc];by_cases hg:16777216<c%128;omega
     ·rw[if_neg hg]at hH |-
      exact⟨_,ZG,hH⟩⟩ ?_
  clear hH hby hk;rintro⟨p2,n,d⟩ R1 ⟨hp2,hn,hd,hH⟩ hR1;simp only at hp2 hn hd hH;by_cases hc:d<128
  ·rw[if_pos hc]at hH;subst hH;have hret:=hret rfl;simp only[bJ]at hret;refine lF ?_;exact hret
  ·rw[if_neg hc]at hH;by_cases hg:16777216<n
   ·rw[if_pos hg]at hH;subst hH;refine lF ?_;exact hdie _ (by decide)
   ·rw[if_neg hg]at hH;obtain⟨k,hk,hH⟩:=hH;by_cases hend:b.length<=p2
    ·rw[yT b hend]at hH;subst hH;refine lF ?_;refine eU (bJ b p2) (sN b p2 ZG hb hend) cT ?_;exact hdie _ (by decide)
    ·have hby:=sO b p2 hb ZG;have hu:=(b.getD p2 0).toNat_lt;obtain⟨k,rfl⟩:∃k',k=k'+1:=⟨k-1,ZG⟩;rw[oC,if_neg hend]at hH;generalize (b.getD p2 0).toNat=x at *
     have hk2:bits .and .i64 (x:Int) 127=((x%128:Nat):Int):=ov (n:=7) ZG (by decide);have ho:=SK (x:=n+1) (b:=x%128) ZG (aaM _ (by decide));have e1:((n+1:Nat):Int)=(n:Int)+1:=ZG;rw[e1]at ho;have e2:(n+1)*128+x%128=128*(n+1)+x%128:=ZG;rw[e2]at hH;refine lF ?_;refine dY ?_;refine aW (bJ b p2) hby cT nofun ?_;rintro h' v ar ⟨rfl,rfl,rfl⟩;refine⟨cT,rfl,?_⟩;refine aE hk2 ho ?_;have hz:128*(n+1)+x%128<4294967296:=ZG;generalize 128*(n+1)+x%128=z at *
     refine hR1 (p2+1,z,x) _ (by simp only;omega) ⟨by simp only;omega,hz,hu,?_⟩ (.le ?_)
     ·simp only;by_cases hx:x<128
      ·rw[if_pos hx]at hH |-;exact hH.symm
      ·rw[if_neg hx]at hH |-;by_cases hg2:16777216<z
       ·rw[if_pos hg2]at hH |-;exact hH.symm
       ·rw[if_neg hg2]at hH |-;exact⟨k,ZG,hH⟩
     exact cT
theorem Tn (b:Bs) (p:Nat) (hb:b.length<=1000000) (hp:p<=1000000) (he:(cE b p).2.2=0):Eng.Spec Tryz.prog 136 (bJ b p) [.aa 143032 0]
    (λh' v ar=>h'=bJ b (cE b p).2.1/\v=.int .i64 ((cE b p).1:Nat)/\ar=[.aa 143032 0]):=by
 refine Cod.Tp (λE R hN hR=>?_);refine C8 b p hb hp hN _ (λ_=>?_) (λst h=>absurd he h);refine lF ?_;exact hR.le cT ⟨rfl,rfl,rfl⟩
theorem Tl (b:Bs) (p:Nat) (hb:b.length<=1000000) (hp:p<=1000000) (he:(cE b p).2.2≠0):Eng.dW Tryz.prog 136 (bJ b p) [.aa 143032 0] (iK (cE b p).2.2):=by
 refine Cod.Tm (λE hN=>?_);exact C8 b p hb hp hN _ (λh=>absurd h he) (λst _=>of_eq_true k9)
structure En where
 at_:Nat
 next:Nat
 kind:Nat
 data:Bs
 base:Nat
 id:Bs
 mV:W
def dp:En:=⟨0,0,0,[],0,[],0#32⟩
def np (e:En):List AV:=[.int .i64 e.at_,.int .i64 e.next,.int .i64 e.kind,.str e.data,.int .i64 e.base,.str e.id,.int .u32 e.mV.toNat]
def gT (b:Bs) (p k q:Nat):Nat×Bs×Nat×Nat:=
 if 1<=k/\k<=4 then(0,[],q,0)else
 if k=6 then(if(cE b q).2.2≠0 then(0,[],0,(cE b q).2.2)else if(cE b q).1<1\/p-12<(cE b q).1 then(0,[],0,3)else(p-(cE b q).1,[],(cE b q).2.1,0))else
 if k=7 then(if b.length-q<20 then(0,[],0,6)else(0,bw ((b.drop q).take 20),q+20,0))else(0,[],0,10)
def nq (b:Bs) (p:Nat) (k size:Nat) (M:Nat×Bs×Nat×Nat):En×Nat:=
 if M.2.2.2≠0 then(dp,M.2.2.2)else if 65000<size then(dp,2)else
 if(eG (b.drop M.2.2.1) size).2.2=2\/((eG (b.drop M.2.2.1) size).2.2=0/\(eG (b.drop M.2.2.1) size).1.length<size)then(dp,3)else
 if(eG (b.drop M.2.2.1) size).2.2≠0 then(dp,(eG (b.drop M.2.2.1) size).2.2)else
 (⟨p,M.2.2.1+(eG (b.drop M.2.2.1) size).2.1,k,(eG (b.drop M.2.2.1) size).1,M.1,M.2.1,oU ((b.drop p).take (M.2.2.1+(eG (b.drop M.2.2.1) size).2.1-p))⟩,0)
def sV (b:Bs) (p:Nat):En×Nat:=
 if(bV b p).2.2.2≠0 then(dp,(bV b p).2.2.2)else nq b p (bV b p).1 (bV b p).2.1 (gT b p (bV b p).1 (bV b p).2.2.1)
def readP (s:Bs) (a:Int):En×Nat:=if a<12\/(s.length:Int)-20<a then(dp,1)else sV (s.take (s.length-20)) a.toNat
theorem Bn (b:Bs):∀(m p size sh:Nat),(headR b m p size sh).2.2=0->(headR b m p size sh).2.1<=b.length/\p<(headR b m p size sh).2.1
 | 0,p,size,sh=>by
  unfold headR
  split<;>intro h<;>cases h
 | m+1,p,size,sh=>by
  unfold headR;split
  ·intro h;cases h
  ·split
   ·intro _;simp only;omega
   ·intro h;have:=Bn b m _ _ _ h;omega
theorem Bo (b:Bs):∀(m p size sh:Nat),size<2^sh->(headR b m p size sh).1<2^(sh+7*m)
 | 0,p,size,sh=>by
  intro _;unfold headR
  split<;>exact ab2 (by decide)
 | m+1,p,size,sh=>by
  intro hs
  have h2:∀x,size+x%128*2^sh<2^(sh+7):=by
   intro x;have h1:x%128<=127:=ZG;have h2:x%128*2^sh<=127*2^sh:=Z5 _ h1;rw[abO];omega
  unfold headR;split;exact ab2 (by decide)
  ·split
   ·refine ZV (h2 _) (ZY (by decide) ZG)
   ·have:=Bo b m (p+1) _ (sh+7) (h2 (b.getD p 0).toNat);rw[show sh+7+7*m=sh+7*(m+1)by omega]at this;exact this
theorem M1 (b:Bs) (p:Nat) (h:(bV b p).2.2.2=0):(bV b p).2.2.1<=b.length/\p<(bV b p).2.2.1/\(bV b p).1<8/\(bV b p).2.1<4294967296:=by
 unfold bV at h |-;split at h
 ·cases h
 ·rename_i h0;rw[if_neg h0];have hu:=(b.getD p 0).toNat_lt;split at h
  ·rename_i h1;rw[if_pos h1];simp only;omega
  ·rename_i h1;rw[if_neg h1];split at h
   ·rename_i h2;exact(h2 h).elim
   ·rename_i h2;rw[if_neg h2];have h3:=Bn b 4 (p+1) ((b.getD p 0).toNat%16) 4 (by simpa using h2);have h4:=Bo b 4 (p+1) ((b.getD p 0).toNat%16) 4 ZG;simp only;have h5:2^(4+7*4)=4294967296:=by decide
    omega
theorem uB (b:Bs):∀(k p n:Nat),(jx b k p n).2.2=0->(jx b k p n).2.1<=b.length/\p<(jx b k p n).2.1
 | 0,p,n=>by intro h;cases h
 | k+1,p,n=>by
  rw[oC];split
  ·intro h;cases h
  ·split
   ·intro _;simp only;omega
   ·split
    ·intro h;cases h
    ·intro h;have:=uB b k _ _ h;omega
theorem yU (b:Bs):∀(k p n:Nat),n<=2147483776->(jx b k p n).1<4294967296
 | 0,p,n,_=>by show 0<_;decide
 | k+1,p,n,hn=>by
  rw[oC];split
  decide
  ·split
   ·simp only;omega
   ·split
    decide
    exact yU b k _ _ ZG
theorem Hl (b:Bs) (q:Nat) (h:(cE b q).2.2=0):(cE b q).1<4294967296:=yU b _ _ _ (by decide)
theorem Q4 (b:Bs) (p k q:Nat) (hq:q<=b.length) (h:(gT b p k q).2.2.2=0):(gT b p k q).2.2.1<=b.length/\q<=(gT b p k q).2.2.1:=by
 unfold gT at h |-;split at h
 ·rename_i h1;rw[if_pos h1];exact⟨hq,ZM _⟩
 ·rename_i h1;rw[if_neg h1];split at h
  ·rename_i h2;rw[if_pos h2];split at h
   ·rename_i h3;exact(h3 h).elim
   ·rename_i h3;rw[if_neg h3];have:=uB b _ _ _ (by simpa[cE]using h3);split at h
    ·cases h
    ·rename_i h4;rw[if_neg h4];simp only[cE];omega
  ·rename_i h2;rw[if_neg h2];split at h
   ·rename_i h3;rw[if_pos h3];split at h
    ·cases h
    ·rename_i h4;rw[if_neg h4];simp only;omega
   ·cases h
theorem ky {st:St} {R:HP->AV->List AV->Prop} {t:TypeId} {n:Int} {e:Nat} (cs0:List AV) (x1:AV) (hn:n=(e:Nat)) (has:fJ st 2 2=[.aa 143004 0,.aa 143005 0]) (hsub:dr st.h [(143004,.var cs0),(143005,.var [x1])])
    (h:(KQ.post [.cell 4 true 7,.cell 5 false 1] 2 R).ap .ret (kM st 2 2 [(143004,.var cs0),(143005,.var [x1])] [(143005,.var [.int .i64 (e:Nat)]),(143004,.var dQ)])) (hc0:cs0.length=7:=by rfl) (ht:t=206:=by rfl) :
    (KQ.gC Tryz.prog [.cell 4 true 7,.cell 5 false 1] 2 2 134 R).ap (.panic (bp (.iface t (.int .i64 n)))) st:=by
 subst hn ht;exact vI [(143004,.var cs0),(143005,.var [x1])] [(143005,.var [.int .i64 (e:Nat)]),(143004,.var dQ)] has (Tw e 143004 143005 cs0 x1 (by decide) hc0) rfl hsub h
set_option maxHeartbeats 1000000 in
theorem Df (s:Bs) (a:Int) (hs:s.length<=1000000) (ha:-9223372036854775808<=a/\a<=9223372036854775807):aw Tryz.prog 105 [.str s,.int .i64 a] (.ab [.agg (np (readP s a).1),.int .i64 ((readP s a).2:Nat)]):=by
 refine Cod.T0 Tv (λE R N hN hN2 hR=>?_);unfold readP at hR;by_cases gB:a<12
 ·rw[if_pos (.inl gB)]at hR;refine wW ?_;refine gG ?_;exact hR.ro ⟨rfl,rfl⟩
 ·by_cases hbig:(s.length:Int)-20<a
  ·rw[if_pos (.inr hbig)]at hR;refine wW ?_;refine gG ?_;exact hR.ro ⟨rfl,rfl⟩
  ·rw[if_neg ZG]at hR;obtain⟨p,rfl⟩:∃p:Nat,a=(p:Int):=⟨a.toNat,ZG⟩;rw[Int.toNat_natCast]at hR;refine wW ?_;refine gG ?_;have et:((s.length:Int)-20).toNat=s.length-20:=ZG;refine u0 (λE' hN'=>?_) hN2;have hbl:(s.take (s.length-20)).length=s.length-20:=by rw[ZL];omega
   generalize hbb:s.take (s.length-20)=b at *
   refine aE et hbb ?_;unfold sV at hR;by_cases hhe:(bV b p).2.2.2=0
   ·rw[if_neg (by simpa using hhe)]at hR;have hle:=M1 b p hhe;have hk:=TA b p ZG ZG hhe;generalize bV b p=H at *
    obtain⟨k,size,q,he⟩:=H;simp only at hle hk hR;refine dY ?_;refine aW (bJ b p) hk cT nofun ?_;rintro h' v ar ⟨rfl,rfl,rfl⟩;refine⟨cT,rfl,?_⟩;have hml:=Q4 b p k q hle.1;have hmd:gT b p k q=gT b p k q:=rfl;generalize hM:gT b p k q=M at hR hml;refine lF ?_
    refine fU (y:=Cod.TV) hN' (λ_:Unit=>⟨[(1,.int .i64 p),(4,.aa 143004 0),(5,.aa 143005 0),(6,.str b),(7,.aa 143032 0),(9,.int .i64 size),(2000002,.aa 143004 0),(2000003,.aa 143005 0)],
     [(143004,.var [.int .i64 p,.int .i64 0,.int .i64 k,.str [],.int .i64 M.1,.str M.2.1,.int .u32 0]),(143032,.var [.str b,.int .i64 M.2.2.1]),(143005,.var [.int .i64 0])]⟩) (λ_=>M.2.2.2=0) (λR2 hR2=>?_) (λ_ hM0=>?_)
    ·-- between the head and the frame
     have hdz:∀e:Nat,e≠0->M.2.2.2=e->(nq b p k size M)=(dp,e):=by
      intro e he0 he;unfold nq;rw[if_pos (by rw[he];exact he0),he]
     have ksm:k<8:=hle.2.2.1;refine wW ?_
     refine fU (y:=.cond (.t 44) .skip Cod.TX) hN' (λ_:Unit=>⟨[(1,.int .i64 p),(4,.aa 143004 0),(5,.aa 143005 0),(6,.str b),(7,.aa 143032 0),(9,.int .i64 size),(42,.int .i64 k),(44,.bool (decide (1<=k/\k<=4))),(2000002,.aa 143004 0),(2000003,.aa 143005 0)],
      [(143004,.var [.int .i64 p,.int .i64 0,.int .i64 k,.str [],.int .i64 0,.str [],.int .u32 0]),(143032,.var [.str b,.int .i64 q]),(143005,.var [.int .i64 0])]⟩) (λ_=>True) (λR3 hR3=>?_) (λ_ _=>?_)
     ·by_cases k1:k=1
      ·subst k1;refine wW ?_;exact hR3 () _ trivial (.le vV)
      ·by_cases k2:k=2
       ·subst k2;refine wW ?_;exact hR3 () _ trivial (.le vV)
       ·by_cases k3:k=3
        ·subst k3;refine wW ?_;exact hR3 () _ trivial (.le vV)
        ·by_cases k4:k=4
         ·subst k4;refine wW ?_;exact hR3 () _ trivial (.le vV)
         ·have i1:¬(k:Int)=1:=ZG;have i2:¬(k:Int)=2:=ZG;have i3:¬(k:Int)=3:=ZG;have i4:¬(k:Int)=4:=ZG;rw[decide_eq_false ZG]at hR3;refine cq i1 i2 i3 i4 ?_;exact hR3 () _ trivial (.le vV)
     ·unfold gT at hM;by_cases kk:1<=k/\k<=4
      ·rw[if_pos kk]at hM;subst hM;rw[decide_eq_true kk];refine wW ?_;exact hR2 () _ rfl (.le vV)
      ·rw[if_neg kk]at hM;rw[decide_eq_false kk];by_cases k6:k=6
       ·rw[if_pos k6]at hM;subst k6;by_cases hbe:(cE b q).2.2=0
        ·rw[if_neg (by simpa using hbe)]at hM;have hbk:=Tn b q ZG ZG hbe;have hbl:=uB b _ _ _ hbe;change (cE b q).2.1<=b.length/\q<(cE b q).2.1 at hbl;have hbs:=Hl b q hbe;generalize cE b q=B at *
         refine wW ?_;refine dY ?_;refine aW (bJ b q) hbk cT nofun ?_;rintro h' v ar ⟨rfl,rfl,rfl⟩;refine⟨cT,rfl,?_⟩;by_cases hb1:B.1<1\/p-12<B.1
         ·rw[if_pos hb1]at hM;rw[hdz 3 (by decide) (by rw[<-hM])]at hR;by_cases hb2:B.1<1
          ·have i1:(B.1:Int)<1:=ZG;refine n9 i1 ?_;refine Mi i1 ?_;refine ky (t:=206) [.int .i64 p,.int .i64 0,.int .i64 6,.str [],.int .i64 0,.str [],.int .u32 0] (.int .i64 0) rfl ?_ ?_ ?_
           all_goals simp(disch:=omega)only[go_sem,simprocAttr,dQ]
           exact hR.ro ⟨rfl,rfl⟩
          ·have i1:¬(B.1:Int)<1:=ZG;have i2:(p:Int)-12<(B.1:Int):=ZG;refine ET i1 i2 ?_;refine A3 i1 i2 ?_;refine ky (t:=206) [.int .i64 p,.int .i64 0,.int .i64 6,.str [],.int .i64 0,.str [],.int .u32 0] (.int .i64 0) rfl ?_ ?_ ?_
           all_goals simp(disch:=omega)only[go_sem,simprocAttr,dQ]
           exact hR.ro ⟨rfl,rfl⟩
         ·rw[if_neg hb1]at hM;subst hM;have i1:¬(B.1:Int)<1:=ZG;have i2:¬(p:Int)-12<(B.1:Int):=ZG;have i3:(p:Int)-(B.1:Int)=((p-B.1:Nat):Int):=ZG;refine ET i1 i2 ?_;refine A3 i1 i2 ?_;exact hR2 () _ rfl (.le (by rw[<-i3];exact vV))
        ·rw[if_pos hbe]at hM;have hd:=Tl b q ZG ZG hbe;rw[hdz _ hbe (by rw[<-hM])]at hR;generalize cE b q=B at *
         refine wW ?_;refine eU (bJ b q) hd cT ?_;refine ky (t:=206) [.int .i64 p,.int .i64 0,.int .i64 6,.str [],.int .i64 0,.str [],.int .u32 0] (.int .i64 0) rfl ?_ ?_ ?_
         all_goals simp(disch:=omega)only[go_sem,simprocAttr,mO,bJ,dQ]
         exact hR.ro ⟨rfl,rfl⟩
       ·rw[if_neg k6]at hM;have i6:¬(k:Int)=6:=ZG;by_cases k7:k=7
        ·rw[if_pos k7]at hM;subst k7;by_cases h20:b.length-q<20
         ·rw[if_pos h20]at hM;rw[hdz 6 (by decide) (by rw[<-hM])]at hR;have i1:(b.length:Int)-(q:Int)<20:=ZG;refine ah i1 ?_;refine ky (t:=206) [.int .i64 p,.int .i64 0,.int .i64 7,.str [],.int .i64 0,.str [],.int .u32 0] (.int .i64 0) rfl ?_ ?_ ?_
          all_goals simp(disch:=omega)only[go_sem,simprocAttr,dQ]
          exact hR.ro ⟨rfl,rfl⟩
         ·rw[if_neg h20]at hM;subst hM;have i1:¬(b.length:Int)-(q:Int)<20:=ZG;have e20:q+20-q=20:=ZG;have ei:((q:Int)+20).toNat-q=20:=ZG;have hhx:=ph ((b.drop q).take 20) (by rw[ZL];omega);refine bU i1 e20 ei ?_;refine an hhx rfl rfl ?_;refine wW ?_;exact hR2 () _ rfl (.le vV)
        ·rw[if_neg k7]at hM;rw[hdz 10 (by decide) (by rw[<-hM])]at hR;have i7:¬(k:Int)=7:=ZG;refine aE i6 i7 ?_;refine ky (t:=206) [.int .i64 p,.int .i64 0,.int .i64 k,.str [],.int .i64 0,.str [],.int .u32 0] (.int .i64 0) rfl ?_ ?_ ?_
         all_goals simp(disch:=omega)only[go_sem,simprocAttr,dQ]
         exact hR.ro ⟨rfl,rfl⟩
    ·unfold nq at hR;rw[if_neg (by simpa using hM0)]at hR;have hml:=hml hM0;by_cases au:65000<size
     ·rw[if_pos au]at hR;refine wW ?_;refine ky (t:=206) [.int .i64 p,.int .i64 0,.int .i64 k,.str [],.int .i64 M.1,.str M.2.1,.int .u32 0] (.int .i64 0) rfl ?_ ?_ ?_
      all_goals simp(disch:=omega)only[go_sem,simprocAttr,dQ]
      exact hR.ro ⟨rfl,rfl⟩
     ·rw[if_neg au]at hR;have hz:=E7 b M.2.2.1 size ZG ZG ZG;have hzl:=tY (b.drop M.2.2.1) size;rw[ZN]at hzl;generalize eG (b.drop M.2.2.1) size=Z at *
      refine wW ?_;refine an hz rfl rfl ?_;refine wW ?_
      refine fU (y:=Cod.TW) hN' (λ_:Unit=>⟨[(1,.int .i64 p),(4,.aa 143004 0),(5,.aa 143005 0),(6,.str b),(7,.aa 143032 0),(11,.str Z.1),(12,.int .i64 Z.2.1),(2000002,.aa 143004 0),(2000003,.aa 143005 0)],
       [(143005,.var [.int .i64 (if Z.2.2=2\/(Z.2.2=0/\Z.1.length<size)then 3 else Z.2.2:Nat)]),(143004,.var [.int .i64 p,.int .i64 0,.int .i64 k,.str [],.int .i64 M.1,.str M.2.1,.int .u32 0]),(143032,.var [.str b,.int .i64 M.2.2.1])]⟩) (λ_=>True) (λR3 hR3=>?_) (λ_ _=>?_)
      ·by_cases z2:Z.2.2=2
       ·rw[if_pos (.inl z2)]at hR3;have i1:(Z.2.2:Int)=2:=ZG;refine ah i1 ?_;refine bI i1 ?_;exact hR3 () _ trivial (.le vV)
       ·have i1:¬(Z.2.2:Int)=2:=ZG;by_cases z0:Z.2.2=0
        ·have i2:(Z.2.2:Int)=0:=ZG;by_cases zl:Z.1.length<size
         ·rw[if_pos (.inr ⟨z0,zl⟩)]at hR3;refine aE i1 i2 ?_;refine ee i1 i2 ?_;exact hR3 () _ trivial (.le vV)
         ·rw[if_neg ZG,z0]at hR3;refine aE i1 i2 ?_;refine ee i1 i2 ?_;exact hR3 () _ trivial (.le vV)
        ·have i2:¬(Z.2.2:Int)=0:=ZG;rw[if_neg ZG]at hR3;refine aE i1 i2 ?_;refine ee i1 i2 ?_;exact hR3 () _ trivial (.le vV)
      ·by_cases zz:Z.2.2=2\/(Z.2.2=0/\Z.1.length<size)
       ·rw[if_pos zz]at hR |-;refine wW ?_;refine ky (t:=206) [.int .i64 p,.int .i64 0,.int .i64 k,.str [],.int .i64 M.1,.str M.2.1,.int .u32 0] (.int .i64 3) rfl ?_ ?_ ?_
        all_goals simp(disch:=omega)only[go_sem,simprocAttr,dQ]
        exact hR.ro ⟨rfl,rfl⟩
       ·rw[if_neg zz]at hR |-;by_cases z0:Z.2.2=0
        ·rw[if_neg (by simpa using z0)]at hR;have hcr:=Jm ((b.drop p).take (M.2.2.1+Z.2.1-p)) (by rw[ZL,ZN];omega);have et2:((M.2.2.1:Int)+(Z.2.1:Int)).toNat-p=M.2.2.1+Z.2.1-p:=ZG;rw[z0];refine ah et2 ?_;refine an hcr rfl rfl ?_;refine wW ?_;exact hR.ro ⟨rfl,rfl⟩
        ·rw[if_pos z0]at hR;have i2:¬(Z.2.2:Int)=0:=ZG;refine ah i2 ?_;refine ky (t:=206) [.int .i64 p,.int .i64 0,.int .i64 k,.str [],.int .i64 M.1,.str M.2.1,.int .u32 0] (.int .i64 (Z.2.2:Nat)) rfl ?_ ?_ ?_
         all_goals simp(disch:=omega)only[go_sem,simprocAttr,dQ]
         exact hR.ro ⟨rfl,rfl⟩
   ·rw[if_pos hhe]at hR;have hd:=Ty b p ZG ZG hhe;generalize bV b p=H at *
    refine eU (bJ b p) hd cT ?_;refine ky (t:=206) [.int .i64 p,.int .i64 0,.int .i64 0,.str [],.int .i64 0,.str [],.int .u32 0] (.int .i64 0) rfl ?_ ?_ ?_
    all_goals simp(disch:=omega)only[go_sem,simprocAttr,mO,bJ,dQ]
    exact hR.ro ⟨rfl,rfl⟩
def ml:Bs:=[80,65,67,75,0,0,0,2]
def countP (s:Bs):Nat×Nat:=
 if s.length<32 then(0,6)else if s.take 8≠ml then(0,3)else if 1000<ct ((s.drop 8).take 4)then(0,2)else
 if cS (s.take (s.length-20))≠s.drop (s.length-20)then(0,5)else(ct ((s.drop 8).take 4),0)
theorem vE (s:Bs) (o:Nat) (h:o+4<=s.length):ct ((s.drop o).take 4)<4294967296:=by
 have hl:((s.drop o).take 4).length=4:=by rw[ZL,ZN];omega
 have:=qP ((s.drop o).take 4) 4 ZG;rw[ZK ZG]at this;exact this
theorem Bp (s:Bs) (h:32<=s.length):s.take 8=ml↔(s.take 4=[80,65,67,75]/\ct ((s.drop 4).take 4)=2):=by
 have hl:((s.drop 4).take 4).length=4:=by rw[ZL,ZN];omega
 rw[Ht _ hl 2 (by decide),show(8:Nat)=4+4 from rfl,List.take_add,show ml=[80,65,67,75]++(si 2 4).reverse from by decide];constructor
 ·intro h;have h1:=List.append_inj h (by rw[ZL];simp;omega);exact h1
 ·rintro⟨h1,h2⟩;rw[h1,h2]
set_option maxHeartbeats 1000000 in
theorem ZD (s:Bs) (hs:s.length<=100000):aw Tryz.prog 35 [.str s] (.ab [.int .i64 ((countP s).1:Nat),.int .i64 ((countP s).2:Nat)]):=by
 refine Cod.Ts (λE R hN hR=>?_);unfold countP at hR;by_cases h32:s.length<32
 ·rw[if_pos h32]at hR;refine wW ?_;exact hR.ro ⟨rfl,rfl⟩
 ·rw[if_neg h32]at hR;have hh:=Bp s ZG;have hb4:=vG ((s.drop 4).take 4) (by rw[ZL];omega);have hb8:=vG ((s.drop 8).take 4) (by rw[ZL];omega);have hl4:=vE s 4 ZG;have hl8:=vE s 8 ZG;have hsum:=tD (s.take (s.length-20)) (by rw[ZL];omega);have et:((s.length:Int)-20).toNat=s.length-20:=ZG;generalize ct ((s.drop 4).take 4)=x4 at *
  generalize ct ((s.drop 8).take 4)=x8 at *
  by_cases h3:s.take 8=ml
  ·rw[if_neg (by simpa using h3)]at hR;obtain⟨h1,h2⟩:=hh.1 h3;rw[h2]at hb4;refine ah h1 ?_;refine bI h1 ?_;refine fH (eS vV hb4 vV rfl rfl ?_);refine wW ?_;refine gG ?_;refine an hb8 rfl rfl ?_;by_cases h1000:1000<x8
   ·rw[if_pos h1000]at hR;refine wW ?_;exact hR.ro ⟨rfl,rfl⟩
   ·rw[if_neg h1000]at hR;refine ah et ?_;refine an hsum rfl rfl ?_;by_cases hsha:cS (s.take (s.length-20))=s.drop (s.length-20)
    ·rw[if_neg (by simpa using hsha)]at hR;refine aE et hsha ?_;exact hR.ro ⟨rfl,rfl⟩
    ·rw[if_pos hsha]at hR;refine aE et hsha ?_;exact hR.ro ⟨rfl,rfl⟩
  ·rw[if_pos h3]at hR;by_cases h1:s.take 4=[80,65,67,75]
   ·have h2:¬x4=2:=λh2=>h3 (hh.2 ⟨h1,h2⟩);have i2:¬((x4:Nat):Int)=2:=ZG;refine ah h1 ?_;refine bI h1 ?_;refine fH (eS vV hb4 vV rfl rfl ?_);refine ah i2 ?_;refine bI i2 ?_;exact hR.ro ⟨rfl,rfl⟩
   ·refine ah h1 ?_;refine bI h1 ?_;exact hR.ro ⟨rfl,rfl⟩
set_option maxHeartbeats 1000000 in
theorem Ut (s:Bs) (hs:s.length<=100000):aw Tryz.prog 29 [.str s] (.ab [.int .i64 ((countP s).1:Nat),.int .i64 ((countP s).2:Nat)]):=by
 refine Cod.Uu (λE R hN hR=>?_);unfold countP at hR;by_cases h32:s.length<32
 ·rw[if_pos h32]at hR;refine wW ?_;exact hR.ro ⟨rfl,rfl⟩
 ·rw[if_neg h32]at hR;have hb8:=U6 ((s.drop 8).take 4) (by rw[ZL];omega);have hl8:=vE s 8 ZG;have hsum:=DM (s.take (s.length-20)) (by rw[ZL];omega);have et:((s.length:Int)-20).toNat=s.length-20:=ZG;generalize ct ((s.drop 8).take 4)=x8 at *
  unfold ml at hR;by_cases h3:s.take 8=[80,65,67,75,0,0,0,2]
  ·rw[if_neg (by simpa using h3)]at hR;refine ah h3 ?_;refine an hb8 rfl rfl ?_;by_cases h1000:1000<x8
   ·rw[if_pos h1000]at hR;refine wW ?_;exact hR.ro ⟨rfl,rfl⟩
   ·rw[if_neg h1000]at hR;refine ah et ?_;refine an hsum rfl rfl ?_;by_cases hsha:cS (s.take (s.length-20))=s.drop (s.length-20)
    ·rw[if_neg (by simpa using hsha)]at hR;refine aE et hsha ?_;exact hR.ro ⟨rfl,rfl⟩
    ·rw[if_pos hsha]at hR;refine aE et hsha ?_;exact hR.ro ⟨rfl,rfl⟩
  ·rw[if_pos h3]at hR;refine ah h3 ?_;exact hR.ro ⟨rfl,rfl⟩
end Go.Proofs.YtkdjbebgdoohjaaGreatDoor.Pk
