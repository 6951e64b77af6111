/- The proof, part 6 of 51. -/
import Derived.Test.YtgghhaahnpbnmaaGreatDoorCartularyWalksE
import Derived.TacticsIn
import Derived.OrdersIn
import Derived.RangeFuncLeaves
import Derived.RangeFuncRecord
import Derived.Sort.LoopGhostIn
import Derived.ScopeJumps
set_option linter.all false
namespace Go.Proofs.YtgghhaahnpbnmaaGreatDoor.Eng
structure aO where
 d:Option Nat
 g:Option (Nat×Bool)
 q:Bool
 id:Nat
 o:AO
def isEff:AO->Bool
 | .alloc _ | .box _ _ | .mE _ _ | .app _ _ _ _ | .st _ _ _ | .nz _ | .ni _ _ _ _ _ | .nh _ | .nj _ _ _ _=>true
 | _=>false
def put (st:St) (d:Option Nat) (v:AV):St:=
 match d with
 | some d=>⟨(d,v)::st.s,st.h⟩
 | none=>st
def fb (P:Program) (q:Bool) (st:St) (f:Nat) (args:List AE) (K:AV->St->Prop):Prop:=
 ∀(E:Env) (ρ:Loc) (a:Act) (w:World) (vs:Array Value),af E ρ st a w->vs.size=args.length ->
  (∀(j:Nat) v x,vs[j]?=some v->args[j]?=some x->RV (XX E.X0 ρ st.h) w ρ v (ev st x)/\∀k,x=.t k->k<2000000/\v=a.tmps.getD k undef) ->
  Calls P f vs w λe w'=>∃v ρ' st' av,e=.returned v/\af E ρ' st' a w'/\RV (XX E.X0 ρ' st'.h) w' ρ' v av/\K av st'/\(q=true->az w w')
def vW (P:Program) (q:Bool) (γ:Bool) (st:St) (f:Nat) (args:List AE) (K:AV->Prop):Prop:=
 ∃r,(γ=true->fb P q st f args λv st'=>v=r/\st'=st)/\K r
def grd (v:Option AV) (want:Bool):Option Bool:=
 match v with
 | some (.bool β)=>some (β==want)
 | some (.gd b (.bool β))=>some (b&&(β==want))
 | some (.gd false .undef)=>some false
 | _=>none
def callable (P:Program) (f:Nat):Bool:=
 match P.funcs[f]? with
 | some fn=>fn.body.isSome&&fn.name != "runtime.NumGoroutine"
 | none=>false
def adyn (P:Program) (q:Bool) (st:St) (v:AV) (args:List AE) (K:AV->St->Prop):Prop:=
 match v with
 | .lit (.func (.func f) xs ys)=>(xs=#[]/\ys=#[])/\callable P f=true/\fb P q st f args K
 | .gd true (.lit (.func (.func f) xs ys))=>(xs=#[]/\ys=#[])/\callable P f=true/\fb P q st f args K
 | .aA f cs=>callable P f=true/\fb P q st f (args++cs.map .c) K
 | _=>False
def aop1 (P:Program) (q:Bool) (st:St) (id:Nat) (o:AO) (K:AV->St->Prop):Prop:=
 match o with
 | .call f args=>fb P q st f args K
 | .dyn x args=>adyn P q st (ev st x) args K
 | o=>if isEff o then eff id st o K else aval true st o λv=>K v st
def aopG (P:Program) (q:Bool) (γ:Bool) (st:St) (o:AO) (K:AV->Prop):Prop:=
 match o with
 | .call f args=>vW P q γ st f args K
 | o=>aval γ st o K
def aops (P:Program):List aO->St->(St->Prop)->Prop
 | [],st,K=>K st
 | ⟨d,none,q,id,o⟩::r,st,K=>aop1 P q st id o λv st'=>aops P r (put st' d v) K
 | ⟨d,some (j,want),q,id,o⟩::r,st,K=>match grd (sget st.s j) want with
  | some γ=>(γ=false/\aops P r (put st d (.gd false .undef)) K)\/(γ=true/\aop1 P q st id o λv st'=>aops P r (put st' d (.gd true v)) K)\/aopG P q γ st o λv=>aops P r (put st d (.gd γ v)) K
  | none=>False
def eP (P:Program) (B:Nat) (ops:Array Oper) (q:Bool) (o:Oper):aO:=⟨o.dst,o.guard.map fun(j,b)=>(Nat.min (((ops[j]?).bind (·.dst)).getD 1000000) 1000000,b),q,B+o.dst.getD 0,trOp P o⟩
def kV:Op->Bool
 | .defer _=>false
 | _=>true
def fits (N:Nat) (o:Oper):Bool:=kV o.op&&match o.dst with | some d=>decide (d<N) | none=>true
def cG (r:Option Nat):Fence:={Fence.wide with round:=r}
theorem wD {r:Option Nat} {n:Nat} {P:Program} {f:FuncId} {args:Array Value} {w:World} {R:Ending->World->Prop} (h:Calls P f args w R):CallsIn (cG r) n P f args w R:=callsIn_wide.2 h
theorem Yg {r:Option Nat} {n:Nat} {P:Program} {row:String} {args:Array Value} {w:World} {R:Value->World->Prop} (h:Rows P row args w R):RowsIn (cG r) n P row args w R:=
 λc cs _=>let⟨v,w',hr,s⟩:=h c cs;⟨v,w',hr,(stepsIn_wide (P:=P)).2 s⟩
theorem jL {P:Program} {o:Oper} {a:Act} {w:World} {K:Act->World->Prop} {Q:Exit->Act->World->Prop} (hnd:kV o.op=true) {r:Option Nat} {n:Nat} (h:o.wp P a w K Q):o.wpIn (cG r) n P a w K Q:=by
 refine⟨λ_ _=>trivial,?_⟩;rw[Oper.semAt_eq _ _ _ (λc e=>by rw[e]at hnd;cases hnd)];unfold Oper.wp at h
 revert h
 generalize (execOp a.eval o).run P w=x;intro h;unfold Oper.upon at h;split at h;exact h;exact h;exact h;exact⟨λh=>(by cases h),wD h⟩;exact⟨λh=>(by cases h),Yg h⟩;exact h;exact h.elim
section
variable {P:Program} {E:Env} {ρ:Loc} {st:St} {a:Act} {w:World}
theorem gI (h:af E ρ st a w) {d:Option Nat} (hd:∀k,d=some k->k<E.N) {v:Value} {av:AV} (hv:RV (XX E.X0 ρ st.h) w ρ v av):af E ρ (put st d av) (a.put d v) w:=by
 cases d with
 | none=>exact h
 | some d=>exact h.put d (hd d rfl) hv
theorem Z8 {γ:Bool} {v:AV} {K:AV->Prop} (h:strip γ v K):∃x,K x:=by
 unfold strip at h;split at h;exact⟨_,h.2⟩;exact⟨_,h⟩
theorem bz {γ:Bool} {x:AE} {K:AV->Prop} (h:a7 γ st x K):∃v,K v:=Z8 h
theorem sx {γ:Bool} {n:Nat} {lo hi:Option AE} {K:Nat->Nat->Prop} (h:bnd γ st n lo hi K):∃l m,K l m:=by
 unfold bnd at h;split at h;exact⟨_,_,h⟩
 ·obtain⟨v,h⟩:=bz h;split at h;exact⟨_,_,h.2⟩;exact h.elim
 ·obtain⟨v,h⟩:=bz h;split at h;exact⟨_,_,h.2⟩;exact h.elim
 ·obtain⟨v,h⟩:=bz h;obtain⟨v',h⟩:=bz h;split at h;exact⟨_,_,h.2⟩;exact h.elim
theorem Ht {γ:Bool} {op:BinOp} {x y:AV} {K:AV->Prop} (h:abin γ op x y K):∃v,K v:=by
 unfold abin at h;split at h
 ·cases op<;>simp only[intBin]at h<;>first | exact⟨_,h.2⟩ | exact⟨_,h.2.2⟩
 ·cases op<;>simp only[strBin]at h<;>first | exact⟨_,h⟩ | exact⟨_,h.2⟩ | exact h.elim
 ·obtain⟨_,h⟩:=h;cases op<;>simp only at h<;>first | exact⟨_,h⟩ | (obtain⟨_,_,h⟩:=h;exact⟨_,h⟩) | exact h.elim
 ·obtain⟨_,h⟩:=h;cases op<;>simp only at h<;>first | exact⟨_,h⟩ | (obtain⟨_,_,_,_,h⟩:=h;exact⟨_,h⟩) | exact h.elim
 exact h.elim
theorem xY {γ ag:Bool} {n:Nat} {cs:List AV} {K:AV->Prop} (h:j4 γ ag n cs K):∃v,K v:=by
 unfold j4 at h;split at h;exact⟨_,h.2⟩;exact⟨_,h.2⟩
theorem AH {γ:Bool}:∀(ps:List (Nat×Nat×AE)) (cs:List AV) {K:AV->Prop},bldC γ st ps cs K->∃v,K v
 | [],cs,_,h=>⟨_,h⟩
 | (o,n,x)::r,cs,_,h=>by
  obtain⟨_,h⟩:=bz h;exact AH r _ h.2
theorem Ja {γ:Bool} {o:AO} {K:AV->Prop} (h:aval γ st o K):∃v,K v:=by
 cases o<;>simp only[aval]at h<;>first | exact h.elim | skip
 exact bz h
 ·obtain⟨_,h⟩:=bz h;split at h
  ·unfold pickM at h;split at h;exact⟨_,h.2.2⟩;exact⟨_,h.2⟩;exact⟨_,h.2⟩;exact h.elim
  exact h.elim
 ·obtain⟨_,h⟩:=bz h;obtain⟨_,h⟩:=bz h;exact Ht h
 ·obtain⟨_,h⟩:=bz h;obtain⟨_,h⟩:=bz h;split at h;exact⟨_,h⟩;exact h.elim
 ·obtain⟨_,h⟩:=bz h;obtain⟨_,h⟩:=bz h;split at h;exact⟨_,h.2⟩;exact h.elim
 ·obtain⟨_,h⟩:=bz h;unfold avalUn at h;split at h<;>first | exact⟨_,h⟩ | exact h.elim
 ·obtain⟨_,h⟩:=bz h;split at h<;>first | exact⟨_,h⟩ | exact h.elim
 ·obtain⟨_,h⟩:=bz h;split at h<;>first | exact⟨_,h⟩ | exact h.elim
 ·obtain⟨_,h⟩:=bz h;split at h<;>first | exact⟨_,h⟩ | exact⟨_,h.2⟩ | exact h.elim
 ·obtain⟨_,h⟩:=bz h;split at h<;>first | exact⟨_,h⟩ | exact h.elim
 ·obtain⟨_,h⟩:=bz h;unfold avalBts at h;split at h<;>first | exact⟨_,h.2⟩ | exact h.elim
 ·obtain⟨_,h⟩:=bz h;obtain⟨_,h⟩:=bz h;split at h<;>first | exact⟨_,h.2⟩ | exact h.elim
 ·obtain⟨_,h⟩:=bz h;split at h<;>first | exact⟨_,h⟩ | exact h.elim
 ·obtain⟨_,h⟩:=bz h;split at h<;>first | exact⟨_,h⟩ | exact h.elim
 ·obtain⟨_,h⟩:=bz h;unfold avalLen at h;split at h<;>first | exact⟨_,h⟩ | exact h.elim
 ·obtain⟨_,h⟩:=bz h;obtain⟨_,h⟩:=bz h;unfold nV at h;split at h<;>first | exact⟨_,h⟩ | exact h.elim
 ·obtain⟨_,h⟩:=bz h;split at h<;>first | exact⟨_,h.2⟩ | exact h.elim
 ·obtain⟨_,h⟩:=bz h;split at h<;>first | exact⟨_,h⟩ | exact h.elim
 ·obtain⟨_,h⟩:=bz h;obtain⟨_,h⟩:=bz h;unfold avalIdx at h;split at h;exact⟨_,h.2.2.2⟩
  ·obtain⟨_,_,h⟩:=h;split at h;exact⟨_,h.2⟩;exact h.elim
  exact h.elim
 ·obtain⟨_,h⟩:=bz h;obtain⟨_,h⟩:=bz h;split at h<;>first | exact⟨_,h.2⟩ | exact h.elim
 ·obtain⟨_,h⟩:=bz h;unfold avalLd at h;split at h;exact xY h
  ·split at h;exact xY h;exact h.elim
  ·split at h;exact xY h;exact h.elim
  exact h.elim
 ·obtain⟨_,h⟩:=bz h;split at h
  ·obtain⟨_,_,h⟩:=sx h;exact⟨_,h⟩
  exact h.elim
 ·obtain⟨_,h⟩:=bz h;unfold mB at h;split at h
  ·obtain⟨_,_,h⟩:=sx h;exact⟨_,h⟩
  ·obtain⟨_,h⟩:=h;obtain⟨_,_,h⟩:=sx h;exact⟨_,h⟩
  ·obtain⟨_,_,h⟩:=sx h;split at h<;>first | exact⟨_,h.2⟩ | exact h.elim
  exact h.elim
 exact AH _ _ h
 ·obtain⟨_,h⟩:=bz h;unfold nU at h;split at h;exact⟨_,h.2.2.2⟩
  ·split at h<;>first | exact⟨_,h.2⟩ | exact h.elim
  exact⟨_,h⟩;exact h.elim
 ·obtain⟨_,h⟩:=bz h;split at h<;>first | exact⟨_,h.2.2⟩ | exact h.elim
 ·obtain⟨_,h⟩:=bz h;obtain⟨_,h⟩:=bz h;split at h<;>first | exact⟨_,h.2⟩ | exact h.elim
 ·obtain⟨_,h⟩:=bz h;obtain⟨_,h⟩:=bz h;split at h<;>first | exact⟨_,h.2⟩ | exact h.elim
 ·obtain⟨_,h⟩:=bz h;unfold snilC at h;split at h;exact⟨_,h⟩
  ·have h:=h.2;split at h<;>first | exact⟨_,h⟩ | exact h.elim
  exact⟨_,h.2⟩;exact h.elim
 ·obtain⟨_,h⟩:=bz h;unfold inilC at h;split at h;exact⟨_,h.2⟩;exact h.elim
 ·obtain⟨_,h⟩:=bz h;unfold pnilC at h;split at h<;>first | exact⟨_,h⟩ | exact h.elim
 ·obtain⟨_,h⟩:=bz h;split at h;exact⟨_,h⟩;exact⟨_,h⟩;exact h.elim
 ·obtain⟨_,h⟩:=bz h;split at h;exact⟨_,h⟩;exact h.elim
 exact⟨_,h.2⟩
 ·obtain⟨_,h⟩:=bz h;obtain⟨_,h⟩:=bz h;unfold mlkC at h;split at h
  ·split at h<;>first | exact⟨_,h.2⟩ | exact h.elim
  exact h.elim
theorem aaA {c:Call} {f:Nat} {args:List AE} (h:trCall P c=.call f args) :
    ∃fn,c.callee=.value (.func f)/\P.funcs[f]?=some fn/\fn.body.isNone=false/\(fn.name == "runtime.NumGoroutine")=false/\args=c.args.toList.map trE:=by
 unfold trCall at h;split at h<;>first | (cases h;done) | skip
 ·split at h<;>cases h
 ·(repeat' (first | (cases h;done) | split at h))
 ·rename_i g hg;split at h
  ·rename_i fn hfn;split at h
   ·rename_i hc;simp only[acN,bne_iff_ne]at hc;cases h;exact⟨fn,hg,hfn,by cases hb:fn.body<;>simp_all,by simpa using hc.2,rfl⟩
   ·cases h
  ·cases h
theorem GD {c:Call} {x:AE} {args:List AE} (h:trCall P c=.dyn x args):∃y,c.callee=.value y/\x=trE y/\args=c.args.toList.map trE:=by
 unfold trCall at h;split at h<;>first | (cases h;done) | skip
 ·split at h<;>cases h
 ·(repeat' (first | (cases h;done) | split at h))
 ·(repeat' (first | (cases h;done) | split at h))
 ·cases h;exact⟨_,by assumption,rfl,rfl⟩
theorem GG {o:Oper} {v:AO} (h:trOp P o=v) (hv:(∃f args,v=.call f args)\/∃x args,v=.dyn x args):∃c,o.op=.call c/\trCall P c=v:=by
 have h1:∀(op:BinOp) t x y,trEq P t op x y=v->False:=by
  intro op t x y h;unfold trEq at h;rcases hv with⟨f,args,rfl⟩ | ⟨x,args,rfl⟩<;>(split at h<;>cases h)
 have h2:∀s d x,trConv P s d x=v->False:=by
  intro s d x h;unfold trConv at h;rcases hv with⟨f,args,rfl⟩ | ⟨x,args,rfl⟩<;>(repeat' (first | (cases h;done) | split at h))
 unfold trOp at h;split at h
 all_goals first | (exact⟨_,by assumption,h⟩) | (exfalso;exact h2 _ _ _ h) | (exfalso;rcases hv with⟨f,args,rfl⟩ | ⟨x,args,rfl⟩<;>(repeat' (first | (cases h;done) | exact h1 _ _ _ _ h | split at h)))
theorem aaE {o:Oper} {f:Nat} {args:List AE} (h:trOp P o=.call f args):∃c,o.op=.call c/\trCall P c=.call f args:=GG h (.inl ⟨_,_,rfl⟩)
theorem GH {o:Oper} {x:AE} {args:List AE} (h:trOp P o=.dyn x args):∃c,o.op=.call c/\trCall P c=.dyn x args:=GG h (.inr ⟨_,_,rfl⟩)
theorem pZ {o:Oper} {f:Nat} {args:List AE} (h:trOp P o=.call f args) (a:Act) (w:World):∃vs,(execOp a.eval o).run P w=.ok (.enter f vs) w/\vs.size=args.length /\
    ∀(j:Nat) v x,vs[j]?=some v->args[j]?=some x->∃y,v=a.eval y/\x=trE y:=by
 obtain⟨c,ho,hc⟩:=aaE h;obtain⟨fn,h1,h2,h3,h4,h5⟩:=aaA hc;refine⟨c.args.map a.eval,?_,by rw[h5];simp,λj v x e1 e2=>?_⟩
 ·unfold execOp;have h5:¬fn.name = "runtime.NumGoroutine" := by simpa using h4
  have h6:¬fn.body=none:=by intro e;rw[e]at h3;cases h3
  simp[ho,resolve,h1,Act.eval,Deferred.ofValue,invoke,callFunc,h2,h5,h6]
 ·rw[h5,List.getElem?_map,Array.getElem?_toList]at e2;rw[Array.getElem?_map]at e1;obtain⟨y,g1,g2⟩:=acE.1 e1;rw[g1]at e2;exact⟨y,g2.symm,(Option.some.inj e2).symm⟩
theorem B0 {o:Oper} {x:AE} {args:List AE} (h:trOp P o=.dyn x args) (hE:af E ρ st a w) {f:Nat} (hx:ev st x=.lit (.func (.func f) #[] #[])\/ev st x=.gd true (.lit (.func (.func f) #[] #[]))) (hf:callable P f=true) :
    ∃vs,(execOp a.eval o).run P w=.ok (.enter f vs) w/\vs.size=args.length/\∀(j:Nat) v x,vs[j]?=some v->args[j]?=some x->∃y,v=a.eval y/\x=trE y:=by
 obtain⟨c,ho,hc⟩:=GH h;obtain⟨y,h1,rfl,h5⟩:=GD hc
 have hy:a.eval y=.func (.func f) #[] #[]:=by
  have:=a6 hE y;generalize a.eval y=z at this;rcases hx with hx | hx
  ·rw[hx]at this;cases this;rfl
  ·rw[hx]at this
   cases this with
   | gd _ _ _ _ g1 g2=>cases g1 rfl;rfl
 unfold callable at hf;split at hf
 ·rename_i fn h2;simp only[acN,bne_iff_ne]at hf;refine⟨c.args.map a.eval,?_,by rw[h5];simp,λj v x e1 e2=>?_⟩
  ·unfold execOp;have h5:¬fn.name = "runtime.NumGoroutine" := by simpa using hf.2
   have h6:¬fn.body=none:=by intro e;rw[e]at hf;cases hf.1
   simp[ho,resolve,h1,hy,Deferred.ofValue,invoke,callFunc,h2,h5,h6]
  ·rw[h5,List.getElem?_map,Array.getElem?_toList]at e2;rw[Array.getElem?_map]at e1;obtain⟨y,g1,g2⟩:=acE.1 e1;rw[g1]at e2;exact⟨y,g2.symm,(Option.some.inj e2).symm⟩
 ·cases hf
theorem Na {o:Oper} {x:AE} {args:List AE} (h:trOp P o=.dyn x args) (hE:af E ρ st a w) {f:Nat} {cs:List AV} (hx:ev st x=.aA f cs) (hf:callable P f=true) :
    ∃vs ws:Array Value,(execOp a.eval o).run P w=.ok (.enter f (vs++ws)) w/\vs.size=args.length/\(∀(j:Nat) v x,vs[j]?=some v->args[j]?=some x->∃y,v=a.eval y/\x=trE y) /\
     ws.size=cs.length/\∀(j:Nat) v c,ws[j]?=some v->cs[j]?=some c->RV (XX E.X0 ρ st.h) w ρ v c:=by
 obtain⟨c,ho,hc⟩:=GH h;obtain⟨y,h1,rfl,h5⟩:=GD hc;have hy:=a6 hE y;rw[hx]at hy;generalize hz:a.eval y=z at hy
 cases hy with
 | aA _ _ ws _ hlen hrel=>
  unfold callable at hf;split at hf
  ·rename_i fn h2;simp only[acN,bne_iff_ne]at hf;refine⟨c.args.map a.eval,ws,?_,by rw[h5];simp,λj v x e1 e2=>?_,hlen,hrel⟩
   ·unfold execOp;have h5:¬fn.name = "runtime.NumGoroutine" := by simpa using hf.2
    have h6:¬fn.body=none:=by intro e;rw[e]at hf;cases hf.1
    simp[ho,resolve,h1,hz,Deferred.ofValue,invoke,callFunc,h2,h5,h6]
   ·rw[h5,List.getElem?_map,Array.getElem?_toList]at e2;rw[Array.getElem?_map]at e1;obtain⟨y,g1,g2⟩:=acE.1 e1;rw[g1]at e2;exact⟨y,g2.symm,(Option.some.inj e2).symm⟩
  ·cases hf
def quietO (q:Bool):AO->Bool
 | .call _ _=>q
 | .dyn _ _=>q
 | .bad=>false
 | o=>!isEff o||isNew o
theorem ot (y:Operand) {k:Nat} (hk:trE y=.t k):k<2000000/\a.eval y=a.tmps.getD k undef:=by
 cases y with
 | tmp t=>
  simp only[trE]at hk;split at hk
  ·cases hk;rename_i h;exact⟨h,rfl⟩
  ·cases hk
 | const v=>cases hk
 | func f=>cases hk
 | global g=>cases hk
theorem sd {o:Oper} {q:Bool} {K:AV->St->Prop} (h:af E ρ st a w) (hd:∀k,o.dst=some k->k<E.N) {id:Nat} (hk:aop1 P q st id (trOp P o) K) {next:Act->World->Prop} {Q:Exit->Act->World->Prop}
    (hn:∀av st' ρ' a' w',K av st'->af E ρ' (put st' o.dst av) a' w'->(quietO q (trOp P o)=true->az w w')->next a' w'):o.wp P a w next Q:=by
 unfold aop1 at hk;split at hk
 ·rename_i f args ho;rw[ho]at hn;obtain⟨vs,h1,h2,h3⟩:=pZ ho a w;unfold Oper.wp;rw[h1,Oper.upon_enter];refine(hk E ρ a w vs h h2 (λj v x e1 e2=>?_)).mono ?_
  ·obtain⟨y,rfl,rfl⟩:=h3 j v x e1 e2;exact⟨a6 h y,λk hk=>ot y hk⟩
  ·rintro e w' ⟨v,ρ',st',av,rfl,g1,g2,g3,g4⟩;exact hn av st' ρ' _ w' g3 (gI g1 hd g2) g4
 ·rename_i x args ho;rw[ho]at hn;unfold adyn at hk;split at hk
  ·rename_i f xs ys hx;obtain⟨⟨rfl,rfl⟩,hf,hk⟩:=hk;obtain⟨vs,h1,h2,h3⟩:=B0 ho h (.inl hx) hf;unfold Oper.wp;rw[h1,Oper.upon_enter];refine(hk E ρ a w vs h h2 (λj v x e1 e2=>?_)).mono ?_
   ·obtain⟨y,rfl,rfl⟩:=h3 j v x e1 e2;exact⟨a6 h y,λk hk=>ot y hk⟩
   ·rintro e w' ⟨v,ρ',st',av,rfl,g1,g2,g3,g4⟩;exact hn av st' ρ' _ w' g3 (gI g1 hd g2) g4
  ·rename_i f xs ys hx;obtain⟨⟨rfl,rfl⟩,hf,hk⟩:=hk;obtain⟨vs,h1,h2,h3⟩:=B0 ho h (.inr hx) hf;unfold Oper.wp;rw[h1,Oper.upon_enter];refine(hk E ρ a w vs h h2 (λj v x e1 e2=>?_)).mono ?_
   ·obtain⟨y,rfl,rfl⟩:=h3 j v x e1 e2;exact⟨a6 h y,λk hk=>ot y hk⟩
   ·rintro e w' ⟨v,ρ',st',av,rfl,g1,g2,g3,g4⟩;exact hn av st' ρ' _ w' g3 (gI g1 hd g2) g4
  ·rename_i f cs hx;obtain⟨hf,hk⟩:=hk;obtain⟨vs,ws,h1,h2,h3,h4,h5⟩:=Na ho h hx hf;unfold Oper.wp;rw[h1,Oper.upon_enter];refine(hk E ρ a w (vs++ws) h (by simp[h2,h4]) (λj v x e1 e2=>?_)).mono ?_
   ·by_cases hj:j<vs.size
    ·rw[Array.getElem?_append_left hj]at e1;rw[List.getElem?_append_left acB]at e2;obtain⟨y,rfl,rfl⟩:=h3 j v x e1 e2;exact⟨a6 h y,λk hk=>ot y hk⟩
    ·rw[Array.getElem?_append_right acB]at e1;rw[List.getElem?_append_right acB,List.getElem?_map]at e2;obtain⟨c,g1,rfl⟩:=acE.1 e2;rw[h2]at e1;exact⟨h5 _ v c e1 g1,λk hk=>by cases hk⟩
   ·rintro e w' ⟨v,ρ',st',av,rfl,g1,g2,g3,g4⟩;exact hn av st' ρ' _ w' g3 (gI g1 hd g2) g4
  exact hk.elim
 ·rename_i hnc;split at hk
  ·rename_i hef;obtain⟨nx,v,w',ρ',st',av,h1,h2,h3,h4,h5,h6⟩:=Nn (P:=P) h id hk;unfold Oper.wp;rw[h1]
   have hq:quietO q (trOp P o)=true->az w w':=λe=>h6 (by
    generalize trOp P o=x at e hef
    cases x<;>simp_all [quietO,isNew,isEff])
   rcases h2 with rfl | ⟨rfl,rfl⟩;exact hn av st' ρ' _ w' h5 (gI h3 hd h4) hq;exact hn av st' ρ' _ w' h5 (gI h3 hd h4) hq
  ·obtain⟨v,av,h1,h2,h3⟩:=si (P:=P) h hk rfl;unfold Oper.wp;rw[h1.here];exact hn av st ρ _ w h3 (gI h hd h2) (λ_=>az.refl w)
theorem wb {o:Oper} {q γ:Bool} {K:AV->Prop} (h:af E ρ st a w) (hd:∀k,o.dst=some k->k<E.N) (hk:aopG P q γ st (trOp P o) K) (hγ:γ=true) {next:Act->World->Prop} {Q:Exit->Act->World->Prop}
    (hn:∀av ρ' a' w',K av->af E ρ' (put st o.dst (.gd γ av)) a' w'->(quietO q (trOp P o)=true->az w w')->next a' w'):o.wp P a w next Q:=by
 unfold aopG at hk;split at hk
 ·rename_i f args ho;rw[ho]at hn;obtain⟨r,hr,hk⟩:=hk;obtain⟨vs,h1,h2,h3⟩:=pZ ho a w;unfold Oper.wp;rw[h1,Oper.upon_enter];refine(hr hγ E ρ a w vs h h2 (λj v x e1 e2=>?_)).mono ?_
  ·obtain⟨y,rfl,rfl⟩:=h3 j v x e1 e2;exact⟨a6 h y,λk hk=>ot y hk⟩
  ·rintro e w' ⟨v,ρ',st',av,rfl,g1,g2,⟨rfl,rfl⟩,g4⟩;exact hn av ρ' _ w' hk (gI g1 hd (.gd _ _ _ _ (λ_=>g2) (λh=>by rw[hγ]at h;cases h))) g4
 ·obtain⟨v,av,h1,h2,h3⟩:=si (P:=P) h hk hγ;unfold Oper.wp;rw[h1.here];exact hn av ρ _ w h3 (gI h hd (.gd _ _ _ _ (λ_=>h2) (λh=>by rw[hγ]at h;cases h))) (λ_=>az.refl w)
theorem wa {o:Oper} {q:Bool} {K:AV->St->Prop} (h:af E ρ st a w) (hd:∀k,o.dst=some k->k<E.N) {id:Nat} (hk:aop1 P q st id (trOp P o) K) {next:Act->World->Prop} {Q:Exit->Act->World->Prop}
    (hn:∀av st' ρ' a' w',K av st'->af E ρ' (put st' o.dst (.gd true av)) a' w'->(quietO q (trOp P o)=true->az w w')->next a' w'):o.wp P a w next Q:=by
 refine sd h hd hk (λav st' ρ' a' w' h1 h2 h3=>hn av st' ρ' a' w' h1 ?_ h3)
 cases ho:o.dst with
 | none=>rw[ho]at h2;exact h2
 | some d=>
  rw[ho]at h2;refine⟨h2.defers,h2.size,λk av' hk=>?_,h2.heap,h2.base,h2.ai,h2.x0⟩;simp only[put,sget]at hk;split at hk
  ·rename_i e;obtain rfl:=Option.some.inj hk;have:=h2.aM k av (by simp[put,sget,e]);exact⟨this.1,.gd _ _ _ _ (λ_=>this.2) (λe=>by cases e)⟩
  ·rename_i e;exact h2.aM k av' (by simp only[put,sget,if_neg e];exact hk)
theorem se {o:AO} {q γ:Bool} {K:AV->Prop} (hk:aopG P q γ st o K):∃v,K v:=by
 unfold aopG at hk;split at hk
 ·obtain⟨r,_,hk⟩:=hk;exact⟨r,hk⟩
 exact Ja hk
theorem tD (h:af E ρ st a w) {ops:Array Oper} {j:Nat} {want γ:Bool} (hg:grd (sget st.s (Nat.min (((ops[j]?).bind (·.dst)).getD 1000000) 1000000)) want=some γ) (hN:E.N<=1000000) :
    (yielded ops a.tmps j==some want)=γ:=by
 cases hd:(ops[j]?).bind (·.dst)with
 | none=>
  rw[hd]at hg;simp only[afe,show Nat.min 1000000 1000000=1000000 from rfl]at hg
  cases hs:sget st.s 1000000 with
  | none=>rw[hs]at hg;cases hg
  | some av=>have:=(h.aM _ av hs).1;omega
 | some d=>
  rw[hd]at hg;simp only[ads]at hg
  have hmin:sget st.s (Nat.min d 1000000)≠none->Nat.min d 1000000=d/\d<E.N:=by
   intro hne
   cases hs:sget st.s (Nat.min d 1000000)with
   | none=>exact absurd hs hne
   | some av=>
    have h1:=(h.aM _ av hs).1;have h2:Nat.min d 1000000<=1000000:=Nat.min_le_right _ _;have h3:Nat.min d 1000000<E.N:=acB
    have h4:Nat.min d 1000000=d:=ac1 (by
     rcases Nat.le_total d 1000000 with h5 | h5;exact h5
     ·have:=aff h5;have h6:Nat.min d 1000000=1000000:=this
      omega)
    exact⟨h4,by rw[h4]at h3;exact h3⟩
  have hmn:Nat.min d 1000000=d/\d<E.N:=hmin (by intro e;rw[e]at hg;cases hg);rw[hmn.1]at hg
  cases hs:sget st.s d with
  | none=>rw[hs]at hg;cases hg
  | some av=>
   rw[hs]at hg;obtain⟨hlt,hv⟩:=h.aM d av hs;have hlt:d<E.N:=hmn.2;unfold aP at hv;rw[if_pos hlt]at hv
   have ht:a.tmps[d]?=some (a.tmps.getD d undef):=by
    rw[acO,Array.getElem?_eq_getElem (by rw[h.size];exact hlt)];rfl
   unfold yielded;rw[hd];simp only[aeQ,ht];unfold grd at hg;split at hg
   ·rename_i β hb;cases hb;rw[RV.jh hv];obtain rfl:=Option.some.inj hg;cases β<;>cases want<;>rfl
   ·rename_i b β hb;cases hb;obtain rfl:=Option.some.inj hg
    cases b with
    | true=>
     have:=RV.mW hv rfl;rw[RV.jh this]
     cases β<;>cases want<;>rfl
    | false=>
     rw[RV.xy hv rfl];cases β<;>cases want<;>rfl
   ·rename_i hb;cases hb;obtain rfl:=Option.some.inj hg;rw[RV.xy hv rfl];cases want<;>rfl
   ·cases hg
end
end Go.Proofs.YtgghhaahnpbnmaaGreatDoor.Eng
namespace Go.Proofs.YtgghhaahnpbnmaaGreatDoor.Eng
section
variable {P:Program} {E:Env} {ρ:Loc} {st:St} {a:Act} {w:World}
theorem ow {N:Nat} {o:Oper} (h:fits N o=true):∀k,o.dst=some k->k<N:=by
 intro k hk;unfold fits at h;rw[hk,acN]at h;simpa using h.2
theorem iO {N:Nat} {o:Oper} (h:fits N o=true):kV o.op=true:=by
 unfold fits at h;rw[acN]at h;exact h.1
theorem lC (hN:E.N<=1000000) (ops:Array Oper) {Q:Exit->Act->World->Prop} {K:St->Prop} {r:Option Nat} {n:Nat} (tl:List Oper) (hQ:∀st' a' w',K st'->Rel E st' a' w'->wpListIn (cG r) n P ops Q tl a' w') :
    ∀(l:List Oper) {ρ:Loc} {st:St} {a:Act} {w:World},(∀o∈l,fits E.N o=true)->af E ρ st a w->aops P (l.map (eP P E.B ops false)) st K->wpListIn (cG r) n P ops Q (l++tl) a w
 | [],ρ,st,a,w,_,h,hk=>hQ st a w hk ⟨ρ,h⟩
 | o::l,ρ,st,a,w,hf,h,hk=>by
  have hd:=ow (hf o (acU ..));have hf':∀o∈l,fits E.N o=true:=λx hx=>hf x (acV _ hx)
  cases hg:o.guard with
  | none=>
   have hk':aop1 P false st (E.B+o.dst.getD 0) (trOp P o) λv st'=>aops P (l.map (eP P E.B ops false)) (put st' o.dst v) K:=by
    simpa[eP,hg,aops]using hk
   refine wpListIn_plain hg (λnext hnext=>jL (iO (hf o (acU ..))) (sd h hd hk' (λav st' ρ' a' w' h1 h2 _=>hnext _ _ ?_)))
   exact lC hN ops tl hQ l hf' h2 h1
  | some q=>
   obtain⟨j,want⟩:=q;simp only[adk,eP,hg,ac7,aops]at hk;split at hk
   ·rename_i γ hγ;have hy:=tD h hγ hN;have hw:Region.wanted o (yielded ops a.tmps)=γ:=by simp only[Region.wanted,hg];exact hy
    refine wpListIn_step (λnext hnext=>?_)
    rw[hw]
    cases γ with
    | true=>
     rw[if_pos rfl];rcases hk with hk | hk | hk
     ·cases hk.1
     exact jL (iO (hf o (acU ..))) (wa h hd hk.2 (λav st' ρ' a' w' h1 h2 _=>hnext _ _ (lC hN ops tl hQ l hf' h2 h1)))
     ·exact jL (iO (hf o (acU ..))) (wb h hd hk rfl (λav ρ' a' w' h1 h2 _=>hnext _ _ (lC hN ops tl hQ l hf' h2 h1)))
    | false=>
     rw[if_neg (by simp)];have hk:∃v,aops P (l.map (eP P E.B ops false)) (put st o.dst (.gd false v)) K:=hk.elim (λx=>⟨_,x.2⟩) (λx=>x.elim (λy=>by cases y.1) se);obtain⟨v,hv⟩:=hk;exact⟨λ_ _=>trivial,hnext _ _ (lC hN ops tl hQ l hf' (gI h hd (.gd _ _ _ _ (λh=>by cases h) (λ_=>rfl))) hv)⟩
   exact hk.elim
def valO:AO->Bool
 | .call _ _=>false
 | .dyn _ _=>false
 | .gF _=>false
 | .bad=>false
 | o=>!isEff o
def pureO (o:Oper):Bool:=
 match o.op with
 | .move _ | .assign _=>true
 | .binOp .add _ _ _ _ | .binOp .sub _ _ _ _=>true
 | .fieldAddr _ _ _=>true
 | .indexAddr _ _ _=>true
 | .slice _ _ _ _ _=>true
 | _=>false
def waits (i:Nat) (o:Oper):Bool:=o.after.any λe=>Region.binds .any e&&e.on==i
def lateL (ops:Array Oper) (i:Nat):List Nat:=
 (List.range ops.size).foldl (λacc j=>match ops[j]? with
  | some o=>if o.after.any (λe=>Region.binds .any e&&(e.on==i||acc.contains e.on))then j::acc else acc
  | none=>acc) []
theorem Ty (ops:Array Oper) (i:Nat):∀j∈lateL ops i,∃o,ops[j]?=some o/\∃e∈o.after,Region.binds .any e=true/\(e.on=i\/e.on∈lateL ops i):=by
 have key:∀(l acc:List Nat),(∀j∈acc,∃o,ops[j]?=some o/\∃e∈o.after,Region.binds .any e=true/\(e.on=i\/e.on∈acc)) ->
     ∀j∈l.foldl (λacc j=>match ops[j]? with
      | some o=>if o.after.any (λe=>Region.binds .any e&&(e.on==i||acc.contains e.on))then j::acc else acc
      | none=>acc) acc,∃o,ops[j]?=some o/\∃e∈o.after,Region.binds .any e=true/\(e.on=i\/e.on∈l.foldl (λacc j=>match ops[j]? with
      | some o=>if o.after.any (λe=>Region.binds .any e&&(e.on==i||acc.contains e.on))then j::acc else acc
      | none=>acc) acc):=by
  intro l
  induction l with
  | nil=>intro acc h;exact h
  | cons x r ih=>
   intro acc h;rw[aeV];refine ih _ ?_
   cases hx:ops[x]? with
   | none=>exact h
   | some o=>
    simp only;split
    ·rename_i ha;intro j hj;rcases acW.1 hj with rfl | hj
     ·obtain⟨e,he,hb⟩:=Array.any_eq_true'.1 ha;simp only[acN,aee,beq_iff_eq,List.contains_iff_mem]at hb;exact⟨o,hx,e,he,hb.1,hb.2.imp id (λh=>acV _ h)⟩
     ·obtain⟨o',h1,e,h2,h3,h4⟩:=h j hj;exact⟨o',h1,e,h2,h3,h4.imp id (λh=>acV _ h)⟩
    exact h
 exact key (List.range ops.size) [] (λj hj=>by cases hj)
def BI:List Nat:=
 []
 ++ [143]
 ++ [144]
 ++ [145]
 ++ [201]
 ++ [180]
 ++ [181]
 ++ [186]
 ++ [205]
 ++ [187]
def mayDie (o:Oper):Bool:=
 match o.op with
 | .call c=>match c.callee with
  | .value (.func f)=>BI.contains f
  | _=>false
 | _=>false
def C1 (ops:Array Oper):Bool:=ops.any λo=>mayDie o||match o.op with
 | .panic _=>true
 | _=>false
def aaR:List Nat:=
 []
def turns (o:Oper):Bool:=
 match o.op with
 | .call c=>match c.callee with
  | .value (.func f)=>aaR.contains f
  | _=>false
 | _=>false
def ox (P:Program) (ops:Array Oper) (j:Nat) (oj:Oper):Bool:=
 !mayDie oj&&!turns oj&&(List.range ops.size).any λi=>match ops[i]? with
  | some oi=>i != j&&(valO (trOp P oi)&&!(pureO oi))&&!(waits i oj)&&!(waits j oi)&&!((lateL ops i).contains j)&&!((lateL ops j).contains i)
  | none=>false
def quietAt (P:Program) (ops:Array Oper) (j:Nat):Bool:=
 match ops[j]? with
 | some o=>quietO (ox P ops j o) (trOp P o)
 | none=>true
def Gy (P:Program) (ops:Array Oper) (listed:Array Bool) (i:Nat):Bool:=
 match ops[i]? with
 | none=>false
 | some oi=>valO (trOp P oi)&&(List.range ops.size).all λj=>j==i||listed.getD j true||match ops[j]? with
  | some oj=>waits i oj||(oi.apart ops oj&&(pureO oi||quietAt P ops j))||((lateL ops i).contains j&&(lateL ops i).all λk=>!listed.getD k false)
  | none=>true
def eW (P:Program) (B:Nat) (ops:Array Oper) (i:Nat):Option aO:=(ops[i]?).map λo=>eP P B ops (ox P ops i o) o
inductive AT (α:Type) where
 | nil
 | cons (a:α) (t:AT α)
 | br (x y:AT α)
def AT.fm {α β:Type} (f:α->Option β):AT α->AT β
 | .nil=>.nil
 | .cons a t=>match f a with
  | some b=>.cons b (t.fm f)
  | none=>t.fm f
 | .br x y=>.br (x.fm f) (y.fm f)
def AT.lin {α:Type}:AT α->Option (List α)
 | .nil=>some []
 | .cons a t=>match t.lin with
  | some l=>some (a::l)
  | none=>none
 | .br _ _=>none
def AT.alt {α:Type}:AT α->Option (List α×List α×List α)
 | .nil=>none
 | .cons a t=>match t.alt with
  | some (p,x,y)=>some (a::p,x,y)
  | none=>none
 | .br x y=>match x.lin,y.lin with
  | some x,some y=>some ([],x,y)
  | _,_=>none
def aopsT (P:Program):AT aO->St->(St->Prop)->Prop
 | .nil,st,K=>K st
 | .cons o r,st,K=>aops P [o] st λst'=>aopsT P r st' K
 | .br x y,st,K=>aopsT P x st K/\aopsT P y st K
theorem wg (P:Program) (o:aO) (r:List aO) (st:St) (K:St->Prop):aops P (o::r) st K=aops P [o] st λst'=>aops P r st' K:=by
 obtain⟨d,g,q,id,o⟩:=o
 cases g with
 | none=>rfl
 | some g=>obtain⟨j,want⟩:=g;rfl
theorem uh (P:Program):∀(T:AT aO) (l:List aO),T.lin=some l->∀st K,aopsT P T st K=aops P l st K
 | .nil,l,h,st,K=>by cases h;rfl
 | .cons o t,l,h,st,K=>by
  simp only[AT.lin]at h;split at h
  ·rename_i l' hl;cases h;rw[wg];simp only[aopsT]
   congr 1
   funext st'
   exact uh P t l' hl st' K
  ·cases h
 | .br _ _,l,h,st,K=>by cases h
theorem v7 (P:Program):∀(T:AT aO) (p x y:List aO),T.alt=some (p,x,y)->∀st K,aopsT P T st K=aops P p st λst'=>aops P x st' K/\aops P y st' K
 | .nil,p,x,y,h,st,K=>by cases h
 | .cons o t,p,x,y,h,st,K=>by
  simp only[AT.alt]at h;split at h
  ·rename_i p' x' y' hl;cases h;rw[wg];simp only[aopsT]
   congr 1
   funext st'
   exact v7 P t p' _ _ hl st' K
  ·cases h
 | .br a b,p,x,y,h,st,K=>by
  simp only[AT.alt]at h;split at h
  ·rename_i x' y' h1 h2;cases h;simp only[aopsT,aops,uh P a _ h1,uh P b _ h2]
  ·cases h
def AT.pre {α:Type} (l:List α) (t:AT α):AT α:=l.foldr .cons t
theorem yD (P:Program) (T:AT aO):∀(l:List aO) st K,aopsT P (T.pre l) st K=aops P l st λst'=>aopsT P T st' K
 | [],st,K=>rfl
 | o::l,st,K=>by
  rw[wg]
  show aops P [o] st (λst'=>aopsT P (T.pre l) st' K)=_
  congr 1
  funext st'
  exact yD P T l st' K
def linGo (P:Program) (ops:Array Oper):Nat->Array Bool->Option (AT Nat)
 | 0,listed=>match Region.ready .any ops listed with
  | []=>some .nil
  | _=>none
 | f+1,listed=>match Region.ready .any ops listed with
  | []=>some .nil
  | i::rs=>match(i::rs).find? (Gy P ops listed)with
   | some k=>(linGo P ops f (listed.setIfInBounds k true)).map (.cons k ·)
   | none=>match rs with
    | []=>(linGo P ops f (listed.setIfInBounds i true)).map (.cons i ·)
    | [j]=>match linGo P ops f (listed.setIfInBounds i true),linGo P ops f (listed.setIfInBounds j true)with
     | some x,some y=>some (.br (.cons i x) (.cons j y))
     | _,_=>none
    | [j,k]=>match linGo P ops f (listed.setIfInBounds i true),linGo P ops f (listed.setIfInBounds j true),linGo P ops f (listed.setIfInBounds k true)with
     | some x,some y,some z=>some (.br (.cons i x) (.br (.cons j y) (.cons k z)))
     | _,_,_=>none
    | _=>none
def qY (E:Env) (K:St->Prop):Exit->Act->World->Prop:=λe a w=>e=.normal/\∃st,Rel E st a w/\K st
theorem zu {q:Bool} {st:St} {id:Nat} {o:AO} {K:AV->St->Prop} (hv:valO o=true) (h:aop1 P q st id o K):aval true st o λv=>K v st:=by
 unfold aop1 at h;split at h
 ·simp[valO]at hv
 ·simp[valO]at hv
 ·rename_i hc;split at h
  ·rename_i he;cases o<;>simp_all [valO]
  exact h
theorem aa1 {q γ:Bool} {st:St} {o:AO} {K:AV->Prop} (hv:valO o=true) (h:aopG P q γ st o K):aval γ st o K:=by
 unfold aopG at h;split at h
 ·simp[valO]at hv
 exact h
theorem HI {X:Nat->Prop} {op:BinOp} (hop:op=.add\/op=.sub) {v1 v2:Value} {x y:AV} {t:TypeId} {K:AV->Prop} (h1:RV X w ρ v1 x) (h2:RV X w ρ v2 y) (h:abin true op x y K) :
    ∃v,∀w',(binOp op t v1 v2).run P w'=.ok v w':=by
 rcases hop with rfl | rfl
 ·cases h1<;>cases h2<;>simp only[abin]at h
  ·simp only[intBin]at h;obtain⟨rfl,_⟩:=h;exact⟨_,λw'=>by simp[binOp,Op.intArith];rfl⟩
  ·obtain⟨rfl,r,h1,h2⟩:=h;rename_i kk _ _;exact⟨.float kk r,λw'=>by simp[binOp,Op.floatArith,h1]⟩
  ·obtain⟨rfl,r,i,h1,h2,h3⟩:=h;rename_i kk _ _ _ _;exact⟨.complex kk r i,λw'=>by simp[binOp,Op.complexOp,Op.Complex.arith,Op.floatArith,h1,h2]⟩
  ·rename_i xs ys;have h1:=h.1 rfl;have:¬((((⟨xs.toArray⟩:ByteArray).size+(⟨ys.toArray⟩:ByteArray).size:Nat):Int) > IntKind.i64.max):=by simp[ByteArray.size];omega
   exact⟨.string (⟨xs.toArray⟩++⟨ys.toArray⟩),λw'=>by simp only[binOp,Op.stringOp,if_neg this,Sem.run_pure]⟩
 ·cases h1<;>cases h2<;>simp only[abin]at h
  ·simp only[intBin]at h;obtain⟨rfl,_⟩:=h;exact⟨_,λw'=>by simp[binOp,Op.intArith];rfl⟩
  ·obtain⟨rfl,r,h1,h2⟩:=h;rename_i kk _ _;exact⟨.float kk r,λw'=>by simp[binOp,Op.floatArith,h1]⟩
  ·obtain⟨rfl,r,i,h1,h2,h3⟩:=h;rename_i kk _ _ _ _;exact⟨.complex kk r i,λw'=>by simp[binOp,Op.complexOp,Op.Complex.arith,Op.floatArith,h1,h2]⟩
  exact h.elim
theorem wA (k:IntKind) (i n:Int) (c:BoundsCode) (f:Value->World->Result Next) (w w':World) (v:Next):((boundsPanic k i n c:Sem Value).run P w).andThen f≠.ok v w':=by
 intro h;simp only[boundsPanic,runtimePanic,goPanic]at h;simp at h;split at h
 ·split at h<;>simp at h
 ·simp at h
theorem pure_run (h:af E ρ st a w) {o:Oper} (hp:pureO o=true) {K:AV->Prop} (hk:aval true st (trOp P o) K) {v:Value} (hr:fa P w (execOp a.eval o) (.value v)):∀w',(execOp a.eval o).run P w'=.ok (.value v) w':=by
 have key:∃u,∀w',(execOp a.eval o).run P w'=.ok (.value u) w':=by
  have bin:∀{op:BinOp} {ty:TypeId} {x y:Operand} {u:TypeId},o.op=.binOp op ty x y u->(op=.add\/op=.sub)->∃u,∀w',(execOp a.eval o).run P w'=.ok (.value u) w':=by
   intro op ty x y u ho hop;unfold trOp at hk;simp only[ho]at hk;split at hk
   ·rcases hop with h | h<;>cases h
   ·rcases hop with h | h<;>cases h
   exact hk.elim
   ·rcases hop with h | h<;>cases h
   ·rcases hop with h | h<;>cases h
   ·rcases hop with h | h<;>cases h
   ·rcases hop with h | h<;>cases h
   ·rcases hop with h | h<;>cases h
   ·rcases hop with h | h<;>cases h
   ·rcases hop with rfl | rfl<;>exact hk.elim
   ·rcases hop with rfl | rfl<;>exact hk.elim
   ·obtain⟨av,h1,h2⟩:=aQ h (x:=x) hk rfl;obtain⟨av',h1',h2'⟩:=aQ h (x:=y) h2 rfl;obtain⟨v,hv⟩:=HI (P:=P) (t:=ty) hop h1 h1' h2';refine⟨v,λw'=>?_⟩;rcases hop with rfl | rfl<;>simp[execOp,ho,eqGuard,hv w']
  unfold pureO at hp;split at hp
  ·rename_i x ho;exact⟨a.eval x,λw'=>by simp[execOp,ho]⟩
  ·rename_i x ho;exact⟨a.eval x,λw'=>by simp[execOp,ho]⟩
  ·rename_i ho;exact bin ho (.inl rfl)
  ·rename_i ho;exact bin ho (.inr rfl)
  ·rename_i t x f ho;unfold trOp at hk;simp only[ho]at hk;split at hk
   ·rename_i fs hu;split at hk
    ·rename_i fl hf;split at hk
     ·rename_i ag n hag hn;split at hk;exact hk.elim
      ·rename_i hn0;have hh:=hr w (az.refl w);simp only[execOp,ho,Instr.fieldAt,Sem.run_bind,run_underlying hu,Result.andThen_ok,hf]at hh
       obtain⟨ad,had⟩:∃ad,a.eval x=.pointer (some ad):=by
        generalize a.eval x=z at hh
        cases z with
        | pointer o=>
         cases o with
         | some ad=>exact⟨ad,rfl⟩
         | none=>simp[Instr.sureAddr]at hh
        | _=>simp[Instr.sureAddr]at hh
       refine⟨.pointer (some (ad.add fl.offset)),λw'=>?_⟩;simp[execOp,ho,Instr.fieldAt,run_underlying hu,hf,had,Instr.sureAddr,fieldPlace,run_sizeOf hn,hn0]
     exact hk.elim
    exact hk.elim
   exact hk.elim
  ·rename_i t x i ho;have hh:=hr w (az.refl w);unfold trOp at hk;simp only[ho]at hk;split at hk
   ·rename_i e hu;split at hk
    ·rename_i s hs;obtain⟨av,h1,h2⟩:=aQ h (x:=x) hk rfl;obtain⟨av',h1',h2'⟩:=aQ h (x:=i) h2 rfl
     have go:∀(A:Option Addr) (len c:Nat) (k:IntKind) (n:Int),a.eval x=.slice A len c->a.eval i=.int k n->∃u,∀w',(execOp a.eval o).run P w'=.ok (.value u) w':=by
      intro A len c k n hx hi
      cases A with
      | none=>
       simp[execOp,ho,Instr.indexAt,hx,hi,asIntOf,run_underlying hu]at hh
       exact(wA _ _ _ _ _ _ _ _ hh).elim
      | some ad=>
       by_cases hr:0<=n/\n<len;exact⟨_,λw'=>by simp[execOp,ho,Instr.indexAt,hx,hi,asIntOf,run_underlying hu,hr,run_sizeOf hs];rfl⟩
       ·simp[execOp,ho,Instr.indexAt,hx,hi,asIntOf,run_underlying hu,hr]at hh;exact(wA _ _ _ _ _ _ _ _ hh).elim
     generalize hx:a.eval x=vx at *
     generalize hi:a.eval i=vi at *
     cases h1<;>cases h1'<;>simp only[avalIdx]at h2'
     all_goals exact go _ _ _ _ _ rfl rfl
    exact hk.elim
   ·rename_i len e hu;split at hk
    ·rename_i s hs;obtain⟨av,h1,h2⟩:=aQ h (x:=x) hk rfl;obtain⟨av',h1',h2'⟩:=aQ h (x:=i) h2 rfl
     have go:∀(ad:Addr) (k:IntKind) (n:Int),a.eval x=.pointer (some ad)->a.eval i=.int k n->∃u,∀w',(execOp a.eval o).run P w'=.ok (.value u) w':=by
      intro ad k n hx hi;by_cases hr:0<=n/\n<len;exact⟨_,λw'=>by simp[execOp,ho,Instr.indexAt,hx,hi,asIntOf,run_underlying hu,Instr.sureAddr,hr,run_sizeOf hs];rfl⟩
      ·simp[execOp,ho,Instr.indexAt,hx,hi,asIntOf,run_underlying hu,Instr.sureAddr,hr]at hh;split at hh
       ·cases hh
       exact(wA _ _ _ _ _ _ _ _ hh).elim
     generalize hx:a.eval x=vx at *
     generalize hi:a.eval i=vi at *
     cases h1<;>cases h1'<;>simp only at h2'
     all_goals first | exact go _ _ _ rfl rfl | exact h2'.elim
    exact hk.elim
   exact hk.elim
  ·rename_i t x lo hi mx ho;unfold trOp at hk;simp only[ho]at hk;split at hk
   ·rename_i hu;obtain⟨av,h1,h2⟩:=aQ h (x:=x) hk rfl;split at h2
    ·rename_i s;obtain⟨l,m,q1,q2,q3,q4⟩:=pW (P:=P) h h2 rfl;refine⟨.string ⟨((s.drop l).take (m-l)).toArray⟩,λw'=>?_⟩;have q3':=q3 w' false s.length (acG _);simp only[execOp,ho,RV.lp h1,Instr.sliceAt,Instr.slice,Sem.run_bind,run_underlying hu,Result.andThen_ok,adH,ac8,acT,if_false,mC,q3',Sem.run_pure,sr]
    exact h2.elim
   ·rename_i e hu;split at hk
    ·rename_i s hs;obtain⟨av,h1,h2⟩:=aQ h (x:=x) hk rfl;obtain⟨v,r,g1,g2,g3⟩:=Am (P:=P) h hu hs h1 h2 rfl;exact⟨v,λw'=>by simp[execOp,ho,g1 w']⟩
    exact hk.elim
   exact hk.elim
  ·cases hp
 obtain⟨u,hu⟩:=key;have:=hr w (az.refl w);rw[hu w]at this;intro w';rw[hu w'];cases this;rfl
theorem jC (hN:E.N<=1000000) (ops:Array Oper) (hns:Region.noSelect ops=true) (hf:∀o∈ops.toList,fits E.N o=true) {K:St->Prop} :
    ∀(fuel:Nat) (listed:Array Bool) (L:AT Nat) {ρ:Loc} {st:St} {a:Act} {w:World},linGo P ops fuel listed=some L->af E ρ st a w->aopsT P (L.fm (eW P E.B ops)) st K ->
     ml P .any ops (qY E K) (quietAt P ops) fuel listed a w
 | 0,listed,L,ρ,st,a,w,hl,h,hk=>by
  simp only[linGo]at hl;split at hl
  ·rename_i hr;obtain rfl:=Option.some.inj hl;exact⟨hr,rfl,st,⟨ρ,h⟩,hk⟩
  ·cases hl
 | f+1,listed,L,ρ,st,a,w,hl,h,hk=>by
  simp only[linGo]at hl;split at hl
  ·rename_i hr;obtain rfl:=Option.some.inj hl;exact⟨λ_=>⟨rfl,st,⟨ρ,h⟩,hk⟩,by rw[hr];simp⟩
  ·rename_i i rs hr;split at hl
   ·rename_i k hfind;obtain⟨L',hl',rfl⟩:=acE.1 hl;have hmem:k∈Region.ready .any ops listed:=by rw[hr];exact List.mem_of_find?_eq_some hfind
    have htk:=List.find?_some hfind;obtain⟨hun,o,ho,hall⟩:=mem_ready.1 hmem
    have hom:o∈ops.toList:=by
     have:=aep ho;simpa using this
    have hd:=ow (hf o hom);unfold Gy at htk;rw[ho]at htk;simp only[acN,acI,adI]at htk;obtain⟨hval,htk⟩:=htk
    have hlate:∀j oj,ops[j]?=some oj->(j∈lateL ops k/\∀m∈lateL ops k,listed.getD m false=false)->∃e∈oj.after,Region.binds .any e=true/\(e.on=k\/(e.on∈lateL ops k/\∀m∈lateL ops k,listed.getD m false=false)):=by
     rintro j oj hj ⟨hl1,hl2⟩;obtain⟨o',h1,e,h2,h3,h4⟩:=Ty ops k j hl1;rw[hj]at h1;cases h1;exact⟨e,h2,h3,h4.imp id (λh=>⟨h,hl2⟩)⟩
    have hfree:∀j oj,ops[j]?=some oj->j≠k->listed.getD j true=false->¬(j∈lateL ops k/\∀m∈lateL ops k,listed.getD m false=false)->(∀e∈oj.after,Region.binds .any e=true->e.on≠k)->o.apart ops oj=true/\(pureO o=true\/quietAt P ops j=true):=by
     intro j oj hj hne hjl hnl hno;have:=htk j (Array.getElem?_eq_some_iff.1 hj).1;rw[hj]at this;simp only[aee,beq_iff_eq,hne,false_or,hjl,acT,acN]at this;rcases this with(h1 | h1) | h1
     ·unfold waits at h1;obtain⟨e,he,hb⟩:=Array.any_eq_true'.1 h1;simp only[acN,beq_iff_eq]at hb;exact absurd hb.2 (hno e he hb.1)
     exact h1;exact absurd ⟨by simpa using h1.1,λm hm=>by simpa using acI.1 h1.2 m hm⟩ hnl
    have go:∀v,YieldsIf P ops (az w) o v a->(pureO o=true->YieldsIf P ops (λ_=>True) o v a)->ml P .any ops (qY E K) (quietAt P ops) f (listed.setIfInBounds k true) (a.put o.dst v) w->ml P .any ops (qY E K) (quietAt P ops) (f+1) listed a w:=by
     intro v hy hyp hw
     cases hp:pureO o with
     | true=>exact Hc (S:=λ_=>True) hlate (λ_ _ _ _=>trivial) ho (Region.noSelect_spec hns) (λc a w hq=>by cases hq.1) f listed a w (λj hj=>hj.2 j hj.1) (λj oj h1 h2 h3 h4 h5=>⟨(hfree j oj h1 h2 h3 h4 h5).1,.inl (λ_=>trivial)⟩) hmem (hyp hp) trivial hw
     | false=>exact Hc (S:=az w) hlate (λ_ _ h1 h2=>h1.trans h2) ho (Region.noSelect_spec hns) (λc a w hq=>by cases hq.1) f listed a w (λj hj=>hj.2 j hj.1) (λj oj h1 h2 h3 h4 h5=>⟨(hfree j oj h1 h2 h3 h4 h5).1,.inr ((hfree j oj h1 h2 h3 h4 h5).2.resolve_left (by simp[hp]))⟩) hmem hy (az.refl w) hw
    have htr:eW P E.B ops k=some (eP P E.B ops (ox P ops k o) o):=by simp[eW,ho]
    simp only[AT.fm,htr,aopsT]at hk;simp only[eP]at hk
    cases hg:o.guard with
    | none=>
     simp only[hg,adH,aops]at hk;obtain⟨v,av,h1,h2,h3⟩:=si (P:=P) h (zu hval hk) rfl
     exact go v (.inl ⟨by simp[Region.wanted,hg],λw' hs=>h1 w' hs⟩) (λhp=>.inl ⟨by simp[Region.wanted,hg],λw' _=>pure_run h hp (zu hval hk) h1 w'⟩) (jC hN ops hns hf f _ L' hl' (gI h hd h2) h3)
    | some q=>
     obtain⟨j,want⟩:=q;simp only[hg,ac7,aops]at hk;split at hk
     ·rename_i γ hγ;have hy:=tD h hγ hN;have hw:Region.wanted o (yielded ops a.tmps)=γ:=by simp only[Region.wanted,hg];exact hy
      cases γ with
      | true=>
       have hk:aval true st (trOp P o) λv=>aopsT P (L'.fm (eW P E.B ops)) (put st o.dst (.gd true v)) K:=by
        rcases hk with hk | hk | hk
        ·cases hk.1
        exact zu hval hk.2;exact aa1 hval hk
       obtain⟨v,av,h1,h2,h3⟩:=si (P:=P) h hk rfl
       exact go v (.inl ⟨hw,λw' hs=>h1 w' hs⟩) (λhp=>.inl ⟨hw,λw' _=>pure_run h hp hk h1 w'⟩) (jC hN ops hns hf f _ L' hl' (gI h hd (.gd _ _ _ _ (λ_=>h2) (λh=>by cases h))) h3)
      | false=>
       have hk:∃v,aopsT P (L'.fm (eW P E.B ops)) (put st o.dst (.gd false v)) K:=hk.elim (λx=>⟨_,x.2⟩) (λx=>x.elim (λy=>by cases y.1) se);obtain⟨v,hv⟩:=hk;exact go undef (.inr ⟨hw,rfl⟩) (λ_=>.inr ⟨hw,rfl⟩) (jC hN ops hns hf f _ L' hl' (gI h hd (.gd _ _ _ _ (λh=>by cases h) (λ_=>rfl))) hv)
     exact hk.elim
   ·have one:∀(k:Nat) (L':AT Nat),k∈Region.ready .any ops listed->linGo P ops f (listed.setIfInBounds k true)=some L'->aopsT P (AT.fm (eW P E.B ops) (.cons k L')) st K ->
        wpOp P ops (qY E K) k (λa' w'=>(quietAt P ops k=true->az w w')/\ml P .any ops (qY E K) (quietAt P ops) f (listed.setIfInBounds k true) a' w') a w:=by
     intro k L' hmem hl' hk;obtain⟨hun,o,ho,hall⟩:=mem_ready.1 hmem
     have hom:o∈ops.toList:=by
      have:=aep ho;simpa using this
     have hd:=ow (hf o hom);have hqa:quietAt P ops k=quietO (ox P ops k o) (trOp P o):=by simp[quietAt,ho]
     have htr:eW P E.B ops k=some (eP P E.B ops (ox P ops k o) o):=by simp[eW,ho]
     simp only[AT.fm,htr,aopsT]at hk;simp only[eP]at hk;unfold wpOp;simp only[ho,hqa]
     cases hg:o.guard with
     | none=>
      simp only[hg,adH,aops]at hk;rw[if_pos (by simp[Region.wanted,hg])]
      exact .inl (sd h hd hk (λav st' ρ' a' w' h1 h2 h3=>⟨h3,jC hN ops hns hf f _ L' hl' h2 h1⟩))
     | some q=>
      obtain⟨j,want⟩:=q;simp only[hg,ac7,aops]at hk;split at hk
      ·rename_i γ hγ;have hy:=tD h hγ hN;have hw:Region.wanted o (yielded ops a.tmps)=γ:=by simp only[Region.wanted,hg];exact hy
       rw[hw]
       cases γ with
       | true=>
        rw[if_pos rfl];rcases hk with hk | hk | hk
        ·cases hk.1
        exact .inl (wa h hd hk.2 (λav st' ρ' a' w' h1 h2 h3=>⟨h3,jC hN ops hns hf f _ L' hl' h2 h1⟩))
        ·exact .inl (wb h hd hk rfl (λav ρ' a' w' h1 h2 h3=>⟨h3,jC hN ops hns hf f _ L' hl' h2 h1⟩))
       | false=>
        rw[if_neg (by simp)];have hk:∃v,aopsT P (L'.fm (eW P E.B ops)) (put st o.dst (.gd false v)) K:=hk.elim (λx=>⟨_,x.2⟩) (λx=>x.elim (λy=>by cases y.1) se);obtain⟨v,hv⟩:=hk;exact⟨λ_=>az.refl w,jC hN ops hns hf f _ L' hl' (gI h hd (.gd _ _ _ _ (λh=>by cases h) (λ_=>rfl))) hv⟩
      exact hk.elim
    split at hl
    ·obtain⟨L',hl',rfl⟩:=acE.1 hl;refine⟨λe=>(by rw[hr]at e;cases e),λk hmem=>?_⟩;have hmem':=hmem;rw[hr]at hmem';obtain rfl:k=i:=by simpa using hmem'
     exact one k L' hmem hl' hk
    ·rename_i j _;split at hl
     ·rename_i x y hx hy;obtain rfl:=Option.some.inj hl;refine⟨λe=>(by rw[hr]at e;cases e),λk hmem=>?_⟩;have hmem':=hmem;rw[hr]at hmem';rcases acW.1 hmem' with rfl | hmem';exact one k x hmem hx hk.1
      ·obtain rfl:k=j:=by simpa using hmem'
       exact one k y hmem hy hk.2
     ·cases hl
    ·rename_i j j2 _;split at hl
     ·rename_i x y z hx hy hz;obtain rfl:=Option.some.inj hl;refine⟨λe=>(by rw[hr]at e;cases e),λk hmem=>?_⟩;have hmem':=hmem;rw[hr]at hmem';rcases acW.1 hmem' with rfl | hmem';exact one k x hmem hx hk.1
      ·rcases acW.1 hmem' with rfl | hmem';exact one k y hmem hy hk.2.1
       ·obtain rfl:k=j2:=by simpa using hmem'
        exact one k z hmem hz hk.2.2
     ·cases hl
    ·cases hl
end
theorem abO {P:Program} {ops:Array Oper} {Q:Exit->Act->World->Prop} (hnd:∀o∈ops.toList,kV o.op=true) (hlo:¬LetsOut Q) {r:Option Nat} {n i:Nat} {K K':Act->World->Prop} (hK:∀a w,K a w->K' a w) {a:Act} {w:World}
    (h:wpOp P ops Q i K a w):wpOpIn (cG r) n P ops Q i K' a w:=by
 unfold wpOp at h;unfold wpOpIn
 cases ho:ops[i]? with
 | none=>rw[ho]at h;exact hK _ _ h
 | some o=>
  rw[ho]at h
  have hom:o∈ops.toList:=by
   have:=aep ho;simpa using this
  simp only at h |-;split
  ·rename_i hw;rw[if_pos hw]at h;rcases h with h | h;exact jL (hnd o hom) (Oper.wp_mono hK h);exact absurd h.2 hlo
  ·rename_i hw;rw[if_neg hw]at h;exact⟨λ_ _=>trivial,hK _ _ h⟩
theorem rR {P:Program} {ops:Array Oper} {Q:Exit->Act->World->Prop} {md:Region.Mode} {quiet:Nat->Bool} {r:Option Nat} {n:Nat} (hnd:∀o∈ops.toList,kV o.op=true) (hlo:¬LetsOut Q) :
    ∀(fuel:Nat) (listed:Array Bool) (a:Act) (w:World),ml P md ops Q quiet fuel listed a w->wpAnyIn (cG r) n P md ops Q fuel listed a w
 | 0,_,_,_,h=>h
 | fuel+1,_,_,_,h=>⟨h.1,λi hi=>abO hnd hlo (λa' w' h'=>rR hnd hlo fuel _ a' w' h'.2) (h.2 i hi)⟩
inductive AC where
 | skip
 | bQ (ops:List aO)
 | seq (x y:AC)
 | cond (c:AE) (x y:AC)
 | block (id:Nat) (x:AC)
 | loop (x:AC)
 | exit (id:Nat)
 | ret
 | scope (x:AC)
 | label (l:Nat)
 | goto (l:Nat)
 | gi (ops:List aO)
 | alt (p x y:List aO)
 | fB (T:AT aO)
 | fx (ops:List aO)
 | fe (p x y:List aO) (T:AT aO)
 | cS (f:Nat) (args:List AE)
 | gl (g:AE) (ps:List Nat) (asg body:AC)
 | bad
def l6 (P:Program) (N B:Nat) (ops:Array Oper) (draw:Bool):Option (List aO):=
 if ops.toList.all (fits N)then
  if draw then
   if P.follows .mixedOrders&&Region.noSelect ops then(linGo P ops ops.size (Array.replicate ops.size false)).bind λL=>(L.fm (eW P B ops)).lin
   else none
  else some (ops.toList.map (eP P B ops false))
 else none
def rf (P:Program) (N B:Nat) (ops:Array Oper) (draw:Bool):Option (List aO×List aO×List aO):=
 if ops.toList.all (fits N)then
  if draw then
   if P.follows .mixedOrders&&Region.noSelect ops then(linGo P ops ops.size (Array.replicate ops.size false)).bind λL=>(L.fm (eW P B ops)).alt
   else none
  else none
 else none
def yM (P:Program) (N B:Nat) (ops:Array Oper) (draw:Bool):Option (AT aO):=
 if ops.toList.all (fits N)then
  if draw then
   if P.follows .mixedOrders&&Region.noSelect ops then(linGo P ops ops.size (Array.replicate ops.size false)).map λL=>L.fm (eW P B ops)
   else none
  else none
 else none
def Tx (P:Program) (ops:Array Oper):Bool:=
 match ops.back? with
 | some o=>match o.op with
  | .call c=>match c.callee with
   | .value (.func f)=>((P.funcs[f]?).map (·.name))==some "strings.SplitSeq" || ((P.funcs[f]?).map (·.name))==some "slices.Backward[[]string,string]"
   | _=>false
  | _=>false
 | none=>false
def brL {α:Type}:List (Option (AT α))->Option (AT α)
 | []=>none
 | [x]=>x
 | x::y::r=>match x,brL (y::r)with
  | some x,some y=>some (.br x y)
  | _,_=>none
def ob (P:Program) (ops:Array Oper):Nat->Array Bool->Option (AT Nat)
 | 0,_=>none
 | f+1,listed=>brL ((Region.ready .any ops listed).map λi=>match ops[i]? with
  | some o=>if mayDie o then some (.cons i .nil)else if valO (trOp P o)then(ob P ops f (listed.setIfInBounds i true)).map (.cons i ·)else none
  | none=>none)
def dfrOf (P:Program) (ops:Array Oper) (draw:Bool):Option (Nat×List AE):=
 match draw,ops.toList with
 | false,[o]=>match o.op,o.guard,o.dst with
  | .defer c,none,none=>match c.callee with
   | .value (.func f)=>if callable P f then some (f,c.args.toList.map trE)else none
   | _=>none
  | _,_,_=>none
 | draw,[o1,o2]=>match o1.op,o1.guard,o1.dst,o2.op,o2.guard,o2.dst with
  | .makeFunc (.func f) first cap,none,some d,.defer c,none,none=>match c.callee,c.args.toList with
   | .value (.tmp d'),[]=>if d'==d&&first.isEmpty&&callable P f&&(!draw||(P.follows .mixedOrders&&Region.noSelect ops&&Region.ready .any ops #[false,false]==[0]&&Region.ready .any ops #[true,false]==[1]&&Region.ready .any ops #[true,true]==[]))
       then some (f,.c (.ab [.int .i64 (d:Int)])::cap.toList.map trE)else none
   | _,_=>none
  | _,_,_,_,_,_=>none
 | _,_=>none
def trReg (P:Program) (N B:Nat) (ops:Array Oper) (draw:Bool):AC:=
 match l6 P N B ops draw with
 | some l=>if !draw&&Tx P ops then .gi l else if !draw&&C1 ops then .fx l else .bQ l
 | none=>match rf P N B ops draw with
  | some (p,x,y)=>match C1 ops,draw,ob P ops ops.size (Array.replicate ops.size false)with
   | true,true,some T=>.fe p x y (T.fm (eW P B ops))
   | _,_,_=>.alt p x y
  | none=>match yM P N B ops draw with
   | some T=>.fB T
   | none=>match dfrOf P ops draw with
    | some (f,args)=>.cS f args
    | none=>.bad
def Ri:AC->Bool
 | .bQ _ | .gi _ | .fx _ | .fB _ | .alt _ _ _ | .fe _ _ _ _ | .cS _ _ | .bad=>true
 | _=>false
theorem eX {P:Program} {N B:Nat} {ops:Array Oper} {draw:Bool} {c:AC} (h:trReg P N B ops draw=c):Ri c=true:=by
 subst h;unfold trReg;split
 ·split;rfl
  ·split<;>rfl
 ·split
  ·split<;>rfl
  ·split;rfl
   ·split<;>rfl
theorem aaK {P:Program} {N B:Nat} {ops:Array Oper} {draw:Bool} {l:List aO} (h:trReg P N B ops draw=.bQ l):l6 P N B ops draw=some l:=by
 unfold trReg at h;split at h
 ·rename_i l' hl;split at h
  ·cases h
  ·split at h
   ·cases h
   ·cases h;exact hl
 ·split at h
  ·split at h<;>cases h
  ·split at h
   ·cases h
   ·split at h<;>cases h
theorem GI {P:Program} {N B:Nat} {ops:Array Oper} {draw:Bool} {l:List aO} (h:trReg P N B ops draw=.gi l):l6 P N B ops draw=some l/\draw=false:=by
 unfold trReg at h;split at h
 ·rename_i l' hl;split at h
  ·rename_i hd;simp only[acN,aeL]at hd;cases h;exact⟨hl,hd.1⟩
  ·split at h<;>cases h
 ·split at h
  ·split at h<;>cases h
  ·split at h
   ·cases h
   ·split at h<;>cases h
theorem aaL {P:Program} {N B:Nat} {ops:Array Oper} {draw:Bool} {l:List aO} (h:trReg P N B ops draw=.fx l):l6 P N B ops draw=some l/\draw=false:=by
 unfold trReg at h;split at h
 ·rename_i l' hl;split at h
  ·cases h
  ·split at h
   ·rename_i hd;simp only[acN,aeL]at hd;cases h;exact⟨hl,hd.1⟩
   ·cases h
 ·split at h
  ·split at h<;>cases h
  ·split at h
   ·cases h
   ·split at h<;>cases h
theorem aaG {P:Program} {N B:Nat} {ops:Array Oper} {draw:Bool} {p x y:List aO} (h:trReg P N B ops draw=.alt p x y):rf P N B ops draw=some (p,x,y):=by
 unfold trReg at h;split at h
 ·split at h
  ·cases h
  ·split at h<;>cases h
 ·split at h
  ·rename_i hl;split at h<;>cases h
   exact hl
  ·split at h
   ·cases h
   ·split at h<;>cases h
theorem aaH {P:Program} {N B:Nat} {ops:Array Oper} {draw:Bool} {p x y:List aO} {T:AT aO} (h:trReg P N B ops draw=.fe p x y T) :
    rf P N B ops draw=some (p,x,y)/\draw=true/\∃T',ob P ops ops.size (Array.replicate ops.size false)=some T'/\T=T'.fm (eW P B ops):=by
 unfold trReg at h;split at h
 ·split at h
  ·cases h
  ·split at h<;>cases h
 ·split at h
  ·rename_i hl;split at h
   ·cases h;exact⟨hl,rfl,_,by assumption,rfl⟩
   ·cases h
  ·split at h
   ·cases h
   ·split at h<;>cases h
theorem aaJ {P:Program} {N B:Nat} {ops:Array Oper} {draw:Bool} {f:Nat} {args:List AE} (h:trReg P N B ops draw=.cS f args):dfrOf P ops draw=some (f,args):=by
 unfold trReg at h;split at h
 ·split at h
  ·cases h
  ·split at h<;>cases h
 ·split at h
  ·split at h<;>cases h
  ·split at h
   ·cases h
   ·split at h
    ·rename_i hl;cases h;exact hl
    ·cases h
theorem aaI {P:Program} {N B:Nat} {ops:Array Oper} {draw:Bool} {T:AT aO} (h:trReg P N B ops draw=.fB T):yM P N B ops draw=some T:=by
 unfold trReg at h;split at h
 ·split at h
  ·cases h
  ·split at h<;>cases h
 ·split at h
  ·split at h<;>cases h
  ·split at h
   ·rename_i hl;cases h;exact hl
   ·split at h<;>cases h
def trCode (P:Program) (N B:Nat):Code->AC
 | .skip=>.skip
 | .region _ ops draw=>trReg P N B ops draw
 | .seq a b=>.seq (trCode P N B a) (trCode P N B b)
 | .cond c x y=>.cond (trE c) (trCode P N B x) (trCode P N B y)
 | .block id x=>.block id (trCode P N B x)
 | .loop x=>.loop (trCode P N B x)
 | .exit id=>.exit id
 | .ret=>.ret
 | .scope x=>.scope (trCode P N B x)
 | .label l=>.label l
 | .goto l=>.goto l
 | .rangeFunc g ps asg body=>if ps.toList.all (λt=>decide (t<N))then .gl (trE g) ps.toList (trCode P N B asg) (trCode P N B body)else .bad
 | _=>.bad
def lift (E:Env) (Q:Exit->St->Prop):Exit->Act->World->Prop:=λe a w=>∃st,Rel E st a w/\Q e st
def bm (P:Program) (E:Env) (c:AC) (st:St) (Q:Exit->St->Prop):Prop:=
 ∀(n:Nat) code,trCode P E.N E.B code=c->∀a w,Rel E st a w->code.wpIn (cG E.rd) n P (lift E Q) a w
section
variable {P:Program} {E:Env} {st:St} {Q:Exit->St->Prop}
theorem bm.mono {c:AC} {Q':Exit->St->Prop} (h:bm P E c st Q) (hq:∀e st,Q e st->Q' e st):bm P E c st Q':=
 λn code hc a w hr=>wpIn_mono (h n code hc a w hr) (λe a w ⟨st',h1,h2⟩=>⟨st',h1,hq e st' h2⟩)
theorem Jm (h:Q .normal st):bm P E .skip st Q:=by
 intro n code hc a w hr;cases code<;>simp only[trCode]at hc<;>first | (cases hc;done) | (exact Bool.noConfusion (show false=true from eX hc)) | (split at hc<;>cases hc;done) | skip
 exact wpIn_skip ⟨st,hr,h⟩
theorem yN (hN:E.N<=1000000) {ops:List aO} {code:Code} (hc:trCode P E.N E.B code=.bQ ops) {K:St->Prop} (hk:aops P ops st K) {a:Act} {w:World} (hr:Rel E st a w)
    {Q:Exit->Act->World->Prop} (hQ:∀st' a' w',K st'->Rel E st' a' w'->Q .normal a' w') {n:Nat}:code.wpIn (cG E.rd) n P Q a w:=by
 cases code<;>simp only[trCode]at hc<;>first | (cases hc;done) | skip
 ·rename_i id ops' draw;obtain⟨ρ,hρ⟩:=hr;have hl:=aaK hc
  ·unfold l6 at hl;split at hl
   ·rename_i hf;have hf':∀o∈ops'.toList,fits E.N o=true:=λo ho=>acI.1 hf o ho;split at hl
    ·rename_i hd;subst hd;split at hl
     ·rename_i hm;simp only[acN]at hm;obtain⟨L,hL,hlin⟩:=aeG.1 hl;rw[<-uh P _ _ hlin]at hk;refine wpIn_mono (wpIn_region_any hm.1 (rR (λo ho=>iO (hf' o ho)) (λh=>by obtain⟨a,w,h⟩:=h;cases h.1) _ _ _ _ (jC hN ops' hm.2 hf' _ _ L hL (hρ.same (w':={w with drawn:=w.drawn+1}) (az.drew w)) hk))) ?_;rintro e a' w' ⟨rfl,st',h1,h2⟩;exact hQ st' a' w' h2 h1
     ·cases hl
    ·rename_i hd;simp only[Bool.not_eq_true]at hd;subst hd;obtain rfl:=Option.some.inj hl;have:wpListIn (cG E.rd) n P ops' Q (ops'.toList++[]) a w:=lC hN ops' [] hQ ops'.toList hf' hρ hk;rw[adx]at this;exact wpIn_region_list this
   ·cases hl
 ·split at hc<;>cases hc
theorem Ic (hN:E.N<=1000000) {p x y:List aO} {code:Code} (hc:trCode P E.N E.B code=.alt p x y) {K:St->Prop} (hk:aops P p st λst'=>aops P x st' K/\aops P y st' K) {a:Act} {w:World} (hr:Rel E st a w)
    {Q:Exit->Act->World->Prop} (hQ:∀st' a' w',K st'->Rel E st' a' w'->Q .normal a' w') {n:Nat}:code.wpIn (cG E.rd) n P Q a w:=by
 cases code<;>simp only[trCode]at hc<;>first | (cases hc;done) | skip
 ·rename_i id ops' draw;obtain⟨ρ,hρ⟩:=hr;have hl:=aaG hc
  ··unfold rf at hl;split at hl
    ·rename_i hf;have hf':∀o∈ops'.toList,fits E.N o=true:=λo ho=>acI.1 hf o ho;split at hl
     ·rename_i hd;subst hd;split at hl
      ·rename_i hm;simp only[acN]at hm;obtain⟨L,hL,halt⟩:=aeG.1 hl;rw[<-v7 P _ _ _ _ halt]at hk;refine wpIn_mono (wpIn_region_any hm.1 (rR (λo ho=>iO (hf' o ho)) (λh=>by obtain⟨a,w,h⟩:=h;cases h.1) _ _ _ _ (jC hN ops' hm.2 hf' _ _ L hL (hρ.same (w':={w with drawn:=w.drawn+1}) (az.drew w)) hk))) ?_;rintro e a' w' ⟨rfl,st',h1,h2⟩;exact hQ st' a' w' h2 h1
      ·cases hl
     ·cases hl
    ·cases hl
 ·split at hc<;>cases hc
theorem Ib (hN:E.N<=1000000) {T:AT aO} {code:Code} (hc:trCode P E.N E.B code=.fB T) {K:St->Prop} (hk:aopsT P T st K) {a:Act} {w:World} (hr:Rel E st a w)
    {Q:Exit->Act->World->Prop} (hQ:∀st' a' w',K st'->Rel E st' a' w'->Q .normal a' w') {n:Nat}:code.wpIn (cG E.rd) n P Q a w:=by
 cases code<;>simp only[trCode]at hc<;>first | (cases hc;done) | skip
 ·rename_i id ops' draw;obtain⟨ρ,hρ⟩:=hr;have hl:=aaI hc;unfold yM at hl;split at hl
  ·rename_i hf;have hf':∀o∈ops'.toList,fits E.N o=true:=λo ho=>acI.1 hf o ho;split at hl
   ·rename_i hd;subst hd;split at hl
    ·rename_i hm;simp only[acN]at hm;obtain⟨L,hL,rfl⟩:=acE.1 hl;refine wpIn_mono (wpIn_region_any hm.1 (rR (λo ho=>iO (hf' o ho)) (λh=>by obtain⟨a,w,h⟩:=h;cases h.1) _ _ _ _ (jC hN ops' hm.2 hf' _ _ L hL (hρ.same (w':={w with drawn:=w.drawn+1}) (az.drew w)) hk))) ?_;rintro e a' w' ⟨rfl,st',h1,h2⟩;exact hQ st' a' w' h2 h1
    ·cases hl
   ·cases hl
  ·cases hl
 ·split at hc<;>cases hc
def km (K:St->Prop) (Q:Exit->St->Prop):Exit->St->Prop
 | .normal,st=>K st
 | e,st=>Q e st
theorem Jl {x y:AC} (h:bm P E x st (km (λst'=>bm P E y st' Q) Q)):bm P E (.seq x y) st Q:=by
 intro n code hc a w hr;cases code<;>simp only[trCode]at hc<;>first | (cases hc;done) | (exact Bool.noConfusion (show false=true from eX hc)) | (split at hc<;>cases hc;done) | skip
 rename_i c1 c2
 injection hc with hc1 hc2
 refine wpIn_seq (wpIn_mono (h n c1 hc1 a w hr) ?_);rintro e a' w' ⟨st',h1,h2⟩
 cases e with
 | normal=>exact h2 n c2 hc2 a' w' h1
 | exit id=>exact⟨st',h1,h2⟩
 | goto l=>exact⟨st',h1,h2⟩
 | ret=>exact⟨st',h1,h2⟩
 | panic ch=>exact⟨st',h1,h2⟩
 | outgrown=>exact⟨st',h1,h2⟩
theorem Jd {c:AE} {x y:AC} {b:Bool} (hc:ev st c=.bool b) (ht:b=true->bm P E x st Q) (hf:b=false->bm P E y st Q):bm P E (.cond c x y) st Q:=by
 intro n code hcc a w hr;cases code<;>simp only[trCode]at hcc<;>first | (cases hcc;done) | (exact Bool.noConfusion (show false=true from eX hcc)) | (split at hcc<;>cases hcc;done) | skip
 rename_i co c1 c2
 injection hcc with h0 h1 h2
 have hev:a.eval co=.bool b:=by
  obtain⟨ρ,hρ⟩:=hr;have:=a6 hρ co;rw[h0,hc]at this;exact RV.jh this
 exact wpIn_cond_split hev (λhb=>ht hb n c1 h1 a w hr) (λhb=>hf hb n c2 h2 a w hr)
def blockQ (id:Nat) (Q:Exit->St->Prop):Exit->St->Prop
 | .exit id',st=>if id'=id then Q .normal st else Q (.exit id') st
 | e,st=>Q e st
theorem Jc {id:Nat} {x:AC} (h:bm P E x st (blockQ id Q)):bm P E (.block id x) st Q:=by
 intro n code hc a w hr;cases code<;>simp only[trCode]at hc<;>first | (cases hc;done) | (exact Bool.noConfusion (show false=true from eX hc)) | (split at hc<;>cases hc;done) | skip
 rename_i id' c1
 injection hc with h0 h1
 subst h0;refine wpIn_block (wpIn_mono (h n c1 h1 a w hr) ?_);rintro e a' w' ⟨st',g1,g2⟩
 cases e with
 | exit i=>
  simp only[blockQ]at g2;simp only[Exit.inBlock];split at g2
  ·rename_i hi;rw[if_pos hi];exact⟨st',g1,g2⟩
  ·rename_i hi;rw[if_neg hi];exact⟨st',g1,g2⟩
 | normal=>exact⟨st',g1,g2⟩
 | goto l=>exact⟨st',g1,g2⟩
 | ret=>exact⟨st',g1,g2⟩
 | panic ch=>exact⟨st',g1,g2⟩
 | outgrown=>exact⟨st',g1,g2⟩
theorem Je {id:Nat} (h:Q (.exit id) st):bm P E (.exit id) st Q:=by
 intro n code hc a w hr;cases code<;>simp only[trCode]at hc<;>first | (cases hc;done) | (exact Bool.noConfusion (show false=true from eX hc)) | (split at hc<;>cases hc;done) | skip
 injection hc with h0
 subst h0;exact wpIn_exit ⟨st,hr,h⟩
theorem Ji (h:Q .ret st):bm P E .ret st Q:=by
 intro n code hc a w hr;cases code<;>simp only[trCode]at hc<;>first | (cases hc;done) | (exact Bool.noConfusion (show false=true from eX hc)) | (split at hc<;>cases hc;done) | skip
 exact wpIn_ret ⟨st,hr,h⟩
def findA:AC->Nat->Option AC
 | .seq a b,l=>match findA a l with
  | some r=>some (.seq r b)
  | none=>findA b l
 | .label l',l=>if l'==l then some .skip else none
 | _,_=>none
theorem tg (P:Program) (N B:Nat):∀(c:Code) (l:Nat),findA (trCode P N B c) l=(findLabel c l).map (trCode P N B)
 | .seq a b,l=>by
  simp only[trCode,findA,findLabel,tg P N B a l]
  cases findLabel a l with
  | some r=>rfl
  | none=>exact tg P N B b l
 | .label l',l=>by
  simp only[trCode,findA,findLabel]
  split<;>rfl
 | .skip,l=>rfl
 | .region id ops draw,l=>by
  simp only[trCode,findLabel];have h:=eX (rfl:trReg P N B ops draw=_)
  revert h
  generalize trReg P N B ops draw=c;intro h
  cases c<;>first | rfl | cases h
 | .cond c x y,l=>rfl
 | .block id x,l=>rfl
 | .loop x,l=>rfl
 | .rangeFunc _ _ _ _,l=>by
  simp only[trCode,findLabel]
  split<;>rfl
 | .exit id,l=>rfl
 | .scope x,l=>rfl
 | .goto _,l=>rfl
 | .ret,l=>rfl
 | .refuse _,l=>rfl
theorem ve {P:Program} {b:Frame} {a:Act} {k:List Item} {cs:List Frame} {w:World} {c:Code} :
    step P (lone (b.atR a (.code (.scope c)::k)) cs w)=.next (lone (b.atR a (.code c::.inScope c::k)) cs w):=
 step_lone_go (by simp[stepG,stepG.exec,Frame.atR])
theorem Gn {P:Program} {b:Frame} {a:Act} {k:List Item} {cs:List Frame} {w:World} {c:Code} :
    step P (lone (b.atR a (.inScope c::k)) cs w)=.next (lone (b.atR a k) cs w):=
 step_lone_go (by simp[stepG,stepG.exec,Frame.atR])
theorem abM {F:Fence} {n:Nat} {P:Program} {a:Act} {w:World} {Q:Exit->Act->World->Prop} {c rest:Code} (l:Nat) (J:Act->World->Prop) (hf:findLabel c l=some rest)
    (first:c.wpIn F n P (Exit.jump l J Q) a w) (pass:∀a w,J a w->rest.wpIn F n P (Exit.noGoto Q) a w):(Code.scope c).wpIn F n P Q a w:=by
 intro b k cs hro hb hr;have hg:gotoIn l (.inScope c::k)=some (.code rest::.inScope c::k):=by simp[gotoIn,hf]
 have h0:(lone (b.atR a (.code (.scope c)::k)) cs w).fenced P F:=fenced_calm hb hr rfl
 have fin:∀{m:Machine} {Q':Exit->Act->World->Prop},(∀e a w,Q' e a w->(∃l',e=.goto l')\/Q e a w)->∀e a₁ w₁,Q' e a₁ w₁->(∀l',e≠.goto l')->ArrivesIn (Machine.fenced P F) P m b (.inScope c::k) cs e a₁ w₁ ->
     ∃e a' w',Q e a' w'/\ArrivesIn (Machine.fenced P F) P m b k cs e a' w':=by
  intro m Q' hQ e a₁ w₁ hq hne harr;have hq':=(hQ e a₁ w₁ hq).resolve_left (λ⟨l',h⟩=>hne l' h)
  cases e with
  | normal=>exact⟨.normal,a₁,w₁,hq',StepsIn.trans harr (.one (fenced_calm hb hr rfl) Gn)⟩
  | exit id=>
   have hx:exitTo id (.inScope c::k)=exitTo id k:=by simp[exitTo]
   exact⟨.exit id,a₁,w₁,hq',λk' hk=>harr.1 k' (by rw[hx];exact hk),λh1 h2=>harr.2 h1 (by rw[hx];exact h2)⟩
  | goto l'=>exact absurd rfl (hne l')
  | ret=>exact⟨_,a₁,w₁,hq',harr⟩
  | panic ch=>exact⟨_,a₁,w₁,hq',harr⟩
  | outgrown=>exact⟨_,a₁,w₁,hq',harr⟩
 obtain⟨e,a₁,w₁,hq,harr⟩:=first b (.inScope c::k) cs hro hb hr
 by_cases hgo:∃l',e=.goto l'
 ·obtain⟨l',rfl⟩:=hgo;obtain⟨rfl,hJ⟩:=hq;obtain⟨e₂,a₂,w₂,hq₂,harr₂⟩:=pass a₁ w₁ hJ b (.inScope c::k) cs hro hb hr;have hne:∀l',e₂≠.goto l':=λl' h=>by subst h;exact hq₂
  obtain⟨e₃,a₃,w₃,hq₃,harr₃⟩:=fin (Q':=Exit.noGoto Q) (λe a w h=>by cases e<;>first | exact .inr h | exact .inl ⟨_,rfl⟩) e₂ a₂ w₂ hq₂ hne harr₂
  exact⟨e₃,a₃,w₃,hq₃,.of_steps (.head h0 ve (harr.1 _ hg)) harr₃⟩
 ·obtain⟨e₃,a₃,w₃,hq₃,harr₃⟩:=fin (Q':=Exit.jump l J Q) (λe a w h=>by cases e<;>first | exact .inr h | exact .inl ⟨_,rfl⟩) e a₁ w₁ hq (λl' h=>hgo ⟨l',h⟩) harr
  exact⟨e₃,a₃,w₃,hq₃,.of_steps (.one h0 ve) harr₃⟩
def jumpQ (l:Nat) (J:St->Prop) (Q:Exit->St->Prop):Exit->St->Prop
 | .goto l',st=>l'=l/\J st
 | e,st=>Q e st
def El (Q:Exit->St->Prop):Exit->St->Prop
 | .goto _,_=>False
 | e,st=>Q e st
theorem Jg {l:Nat} (h:Q .normal st):bm P E (.label l) st Q:=by
 intro n code hc a w hr;cases code<;>simp only[trCode]at hc<;>first | (cases hc;done) | (exact Bool.noConfusion (show false=true from eX hc)) | (split at hc<;>cases hc;done) | skip
 exact wpIn_label ⟨st,hr,h⟩
theorem Jf {l:Nat} (h:Q (.goto l) st):bm P E (.goto l) st Q:=by
 intro n code hc a w hr;cases code<;>simp only[trCode]at hc<;>first | (cases hc;done) | (exact Bool.noConfusion (show false=true from eX hc)) | (split at hc<;>cases hc;done) | skip
 injection hc with h0
 subst h0;exact wpIn_goto ⟨st,hr,h⟩
theorem Jj {x y:AC} (l:Nat) (hf:findA x l=some y) (J:St->Prop) (first:bm P E x st (jumpQ l J Q)) (pass:∀st,J st->bm P E y st (El Q)):bm P E (.scope x) st Q:=by
 intro n code hc a w hr;cases code<;>simp only[trCode]at hc<;>first | (cases hc;done) | (exact Bool.noConfusion (show false=true from eX hc)) | (split at hc<;>cases hc;done) | skip
 rename_i c
 injection hc with h1
 subst h1;rw[tg]at hf;obtain⟨rest,hfl,rfl⟩:=acE.1 hf;refine abM l (λa w=>∃st,Rel E st a w/\J st) hfl (wpIn_mono (first n c rfl a w hr) ?_) ?_
 ·rintro e a' w' ⟨st',g1,g2⟩
  cases e with
  | goto l'=>exact⟨g2.1,st',g1,g2.2⟩
  | normal=>exact⟨st',g1,g2⟩
  | exit id=>exact⟨st',g1,g2⟩
  | ret=>exact⟨st',g1,g2⟩
  | panic ch=>exact⟨st',g1,g2⟩
  | outgrown=>exact⟨st',g1,g2⟩
 ·rintro a w ⟨st',g1,g2⟩;refine wpIn_mono (pass st' g2 n rest rfl a w g1) ?_;rintro e a' w' ⟨st',g1,g2⟩
  cases e with
  | goto l'=>exact g2
  | normal=>exact⟨st',g1,g2⟩
  | exit id=>exact⟨st',g1,g2⟩
  | ret=>exact⟨st',g1,g2⟩
  | panic ch=>exact⟨st',g1,g2⟩
  | outgrown=>exact⟨st',g1,g2⟩
theorem Jh {x:AC} (I:Nat->St->Prop) (n:Nat) (h0:I n st)
    (round:∀n st,I n st->bm P E x st (km (λst'=>∃m,m<n/\I m st') Q)):bm P E (.loop x) st Q:=by
 intro rm code hc a w hr;cases code<;>simp only[trCode]at hc<;>first | (cases hc;done) | (exact Bool.noConfusion (show false=true from eX hc)) | (split at hc<;>cases hc;done) | skip
 rename_i c1
 injection hc with h1
 refine wpIn_loop_ghost (λn a w=>∃st,Rel E st a w/\I n st) n ⟨st,hr,h0⟩ ?_;rintro n a w ⟨st',g1,g2⟩;refine wpIn_mono (round n st' g2 rm c1 h1 a w g1) ?_;rintro e a' w' ⟨st2,q1,q2⟩
 cases e with
 | normal=>
  obtain⟨m,hm,q2⟩:=q2
  exact⟨m,hm,st2,q1,q2⟩
 | exit i=>exact⟨st2,q1,q2⟩
 | goto l=>exact⟨st2,q1,q2⟩
 | ret=>exact⟨st2,q1,q2⟩
 | panic ch=>exact⟨st2,q1,q2⟩
 | outgrown=>exact⟨st2,q1,q2⟩
end
abbrev HP:=List (Nat×aC)
def Spec (P:Program) (f:Nat) (h:HP) (args:List AV) (Post:HP->AV->List AV->Prop):Prop:=
 ∀(X0:Nat->Prop) (ρ:Loc) (w:World) (vs:Array Value),cD X0 ρ h w->jO (aE ρ h) w->(∀b,X0 b->b<w.heap.size)->vs.size=args.length ->
  (∀(j:Nat) v x,vs[j]?=some v->args[j]?=some x->RV (XX X0 ρ h) w ρ v x) ->
  Calls P f vs w λe w'=>∃v h' r ρ' as,e=.returned v/\Post h' r as/\cD X0 ρ' h' w'/\RV (XX X0 ρ' h') w' ρ' v r /\
   as.length=args.length/\(∀(j:Nat) v x,vs[j]?=some v->as[j]?=some x->RV (XX X0 ρ' h') w' ρ' v x) /\
   w'.os=w.os/\w'.tape=w.tape/\w'.output=w.output/\w.heap.size<=w'.heap.size/\(∀b,b<w.heap.size->¬aE ρ h b->w'.heap[b]?=w.heap[b]?) /\
   (∀b,aE ρ' h' b->w.heap.size<=b\/aE ρ h b)
inductive RVar where
 | tmp (t:Nat)
 | cell (t:Nat) (ag:Bool) (n:Nat)
 | bad
def trRes (P:Program):ResultVar->RVar
 | .tmp t=>.tmp t
 | .cell b t=>match ky P t,bP P t with
  | some ag,some n=>if b<2000000 then .cell b ag n else .bad
  | _,_=>.bad
def ldO (ag:Bool) (n:Nat) (cs:List AV):Option AV:=
 match ag with
 | true=>if n<=cs.length then some (.agg (cs.take n))else none
 | false=>match cs with
  | []=>none
  | c::_=>some c
def resW (ag:Bool) (n f:Nat):Option aC->Option AV
 | some (.var cs)=>ldO ag n (cs.drop f)
 | _=>none
def resC (st:St) (ag:Bool) (n:Nat):Option AV->Option AV
 | some (.aa id f)=>resW ag n f (hget st.h id)
 | _=>none
def consO:Option AV->Option (List AV)->Option (List AV)
 | some x,some l=>some (x::l)
 | _,_=>none
def resAV (st:St):List RVar->Option (List AV)
 | []=>some []
 | .tmp t::r=>(resAV st r).map λl=>ev st (trE (.tmp t))::l
 | .cell t ag n::r=>consO (resC st ag n (sget st.s t)) (resAV st r)
 | .bad::_=>none
def resOf (st:St) (rs:List RVar):Option AV:=
 match resAV st rs with
 | some [x]=>some x
 | some l=>some (.ab l)
 | none=>none
def numbered:Nat->List AV->List (Nat×AV)
 | _,[]=>[]
 | k,x::r=>(k,x)::numbered (k+1) r
def argsAgain (st:St):Nat->Nat->List AV
 | _,0=>[]
 | k,n+1=>(sget st.s (2000000+k)).getD .undef::argsAgain st (k+1) n
def postQ (rs:List RVar) (n:Nat) (Post:HP->AV->List AV->Prop):Exit->St->Prop
 | .normal,st | .ret,st=>∃r,resOf st rs=some r/\Post st.h r (argsAgain st 0 n)
 | _,_=>False
theorem mA (st:St):∀n k,(argsAgain st k n).length=n
 | 0,_=>rfl
 | n+1,k=>by simp[argsAgain,mA st n]
theorem pM (st:St):∀n k j x,(argsAgain st k n)[j]?=some x->x=(sget st.s (2000000+(k+j))).getD .undef
 | 0,_,j,x,h=>by simp[argsAgain]at h
 | n+1,k,0,x,h=>by simp[argsAgain]at h;exact h.symm
 | n+1,k,j+1,x,h=>by
  have:=pM st n (k+1) j x (by simpa[argsAgain]using h);rw[this,show k+1+j=k+(j+1)by omega]
theorem ki:∀(l:List AV) (k j:Nat) (x:AV),sget (numbered k l) j=some x->k<=j/\l[j-k]?=some x
 | [],k,j,x,h=>by simp[numbered,sget]at h
 | y::r,k,j,x,h=>by
  simp only[numbered,sget]at h;split at h
  ·rename_i e;subst e;obtain rfl:=Option.some.inj h;exact⟨acG _,by simp⟩
  ·rename_i hne;obtain⟨h1,h2⟩:=ki r (k+1) j x h;refine⟨acB,?_⟩;rw[show j-k=(j-(k+1))+1 by omega];simpa using h2
def rh (tmps:Array Value) (x:ResultVar):Sem Value:=
 match x with
 | .tmp t=>pure (tmps.getD t undef)
 | .cell b t=>do loadVar t (<-asAddr (tmps.getD b undef))
theorem XN (fn:Func) (tmps:Array Value):results fn tmps=(do
    let vs <-fn.results.mapM (rh tmps)
    pure (if h:vs.size=1 then vs[0]else .tuple vs)):=rfl
theorem yO {P:Program} {E:Env} {ρ:Loc} {st:St} {a:Act} {w:World} (h:af E ρ st a w):∀(rs:List ResultVar) (l:List AV),resAV st (rs.map (trRes P))=some l ->
    ∃vs:List Value,(rs.mapM (rh a.tmps)).run P w=.ok vs w/\vs.length=l.length/\∀(j:Nat) v x,vs[j]?=some v->l[j]?=some x->RV (XX E.X0 ρ st.h) w ρ v x
 | [],l,hl=>by
  obtain rfl:=Option.some.inj hl
  exact⟨[],by simp,rfl,λj v x h1 _=>by simp at h1⟩
 | .tmp t::r,l,hl=>by
  simp only[adk,trRes,resAV]at hl;obtain⟨l',h1,rfl⟩:=acE.1 hl;obtain⟨vs,h2,h3,h4⟩:=yO (P:=P) h r l' h1;refine⟨a.eval (.tmp t)::vs,?_,by simp[h3],λj v x e1 e2=>?_⟩
  ·have e:rh a.tmps (.tmp t)=pure (a.eval (.tmp t)):=rfl;rw[List.mapM_cons,e];simp[h2]
  ·cases j with
   | zero=>
    simp only[List.getElem?_cons_zero,Option.some.injEq]at e1 e2;subst e1;subst e2
    exact a6 h (.tmp t)
   | succ j=>exact h4 j v x (by simpa using e1) (by simpa using e2)
 | .cell b t::r,l,hl=>by
  simp only[adk,trRes]at hl;split at hl;rotate_left
  ·simp[resAV]at hl
  rename_i ag n hag hn;split at hl;rotate_left
  ·simp[resAV]at hl
  rename_i hb;simp only[resAV]at hl
  cases hx:resC st ag n (sget st.s b)with
  | none=>rw[hx]at hl;simp[consO]at hl
  | some x=>
   cases hy:resAV st (r.map (trRes P))with
   | none=>rw[hx,hy]at hl;simp[consO]at hl
   | some l'=>
    rw[hx,hy]at hl;obtain rfl:x::l'=l:=by simpa[consO]using hl
    obtain⟨vs,h2,h3,h4⟩:=yO (P:=P) h r l' hy
    obtain⟨v,g1,g2⟩:∃v,fa P w (rh a.tmps (.cell b t)) v/\RV (XX E.X0 ρ st.h) w ρ v x:=by
     unfold resC at hx;split at hx;rotate_left
     ·cases hx
     rename_i id f hs;unfold resW at hx;split at hx;rotate_left
     ·cases hx
     rename_i cs hid;obtain⟨e1,e2⟩:=h.aM b _ hs;unfold aP at e2;rw[if_pos (e1.resolve_right (afo.2 hb))]at e2
     have hl:avalLd true st ag n (.aa id f) (λy=>y=x):=by
      simp only[avalLd,hid];unfold j4
      cases ag with
      | true=>
       simp only[ldO]at hx;split at hx
       ·rename_i hle;simp only[if_true];exact⟨λ_=>hle,Option.some.inj hx⟩
       ·cases hx
      | false=>
       simp only[ldO]at hx;split at hx
       ·cases hx
       ·rename_i c r' hc;obtain rfl:=Option.some.inj hx;simp[hc]
     obtain⟨v',av,q1,q2,q3⟩:=Ak (P:=P) h hag hn e2 hl rfl;subst q3;refine⟨v',λw' hw=>?_,q2⟩;have q:=q1 w' hw;simp only[rh];generalize a.tmps.getD b undef=tv at e2 q
     cases e2 with
     | aa _ _ _ L b' hL hb'=>
      simp only[asAddr,Sem.run_bind,Sem.run_pure,Result.andThen_ok];simpa[Instr.loadAt,Instr.sureAddr]using q
    refine⟨v::vs,?_,by simp[h3],λj u y e1 e2=>?_⟩
    ·rw[List.mapM_cons];simp[g1.here,h2]
    ·cases j with
     | zero=>
      simp only[List.getElem?_cons_zero,Option.some.injEq]at e1 e2;subst e1;subst e2
      exact g2
     | succ j=>exact h4 j u y (by simpa using e1) (by simpa using e2)
theorem uQ {P:Program} {E:Env} {ρ:Loc} {st:St} {a:Act} {w:World} (h:af E ρ st a w) {fn:Func} {r:AV} (hr:resOf st (fn.results.toList.map (trRes P))=some r) :
    ∃v,(results fn a.tmps).run P w=.ok v w/\RV (XX E.X0 ρ st.h) w ρ v r:=by
 unfold resOf at hr
 have key:∀l,resAV st (fn.results.toList.map (trRes P))=some l->∃vs:List Value,(results fn a.tmps).run P w=.ok (if hh:vs.length=1 then vs[0]else .tuple vs.toArray) w/\vs.length=l.length /\
     ∀(j:Nat) v x,vs[j]?=some v->l[j]?=some x->RV (XX E.X0 ρ st.h) w ρ v x:=by
  intro l hl;obtain⟨vs,h1,h2,h3⟩:=yO (P:=P) h _ l hl;refine⟨vs,?_,h2,h3⟩;rw[XN,Array.mapM_eq_mapM_toList];simp only[Sem.run_bind,Sem.run_map,h1,Result.andThen_ok,Sem.run_pure];simp
 split at hr
 ·rename_i x hx;obtain rfl:=Option.some.inj hr;obtain⟨vs,h1,h2,h3⟩:=key _ hx;have h2':vs.length=1:=by simpa using h2
  rw[dif_pos h2']at h1;exact⟨_,h1,h3 0 _ _ (List.getElem?_eq_getElem _) rfl⟩
 ·rename_i l hne hl;obtain rfl:=Option.some.inj hr;obtain⟨vs,h1,h2,h3⟩:=key _ hl
  have h2':¬vs.length=1:=by
   intro e;rw[h2]at e;obtain⟨x,rfl⟩:=afj.1 e;exact hne x rfl
  rw[dif_neg h2']at h1;exact⟨_,h1,.ab _ _ _ (by simpa using h2) (λj v x e1 e2=>h3 j v x (by simpa using e1) e2)⟩
 ·cases hr
theorem kh (l r:List (Nat×AV)) (k:Nat):sget (l++r) k=(sget l k).or (sget r k):=by
 induction l with
 | nil=>simp[sget]
 | cons x l ih=>
  obtain⟨j,v⟩:=x;simp only[acZ,sget,ih];split<;>simp
def fN (args:List AV):List (Nat×AV):=numbered 0 args++numbered 2000000 args
theorem RV.other {X:Nat->Prop} {w w':World} {ρ:Loc} {v:Value} {a:AV} (h:RV X w ρ v a) (hw:∀b cur t fz,¬X b->w.heap[b]?=some (.cells cur t fz)->w'.heap[b]?=w.heap[b]?):RV X w' ρ v a:=by
 have up:∀(ad:Addr) v,¬X ad.block->w.cell? ad=some v->w'.cell? ad=some v:=by
  intro ad v hx hv
  obtain⟨cur,t,fz,hc⟩:∃cur t fz,w.heap[ad.block]?=some (.cells cur t fz):=by
   unfold World.cell? at hv;split at hv
   ·rename_i cur t fz hc;exact⟨_,_,_,hc⟩
   ·cases hv
  rw[p5 (hw _ cur t fz hx hc),hv]
 induction h with
 | undef ρ v=>exact .undef _ _
 | bool ρ b=>exact .bool _ _
 | int ρ k n=>exact .int _ _ _
 | fl ρ k b=>exact .fl _ _ _
 | cx ρ k re im=>exact .cx _ _ _ _
 | str ρ s=>exact .str _ _
 | lit ρ x=>exact .lit _ _
 | an ρ=>exact .an _
 | ro ρ A c sz es vs hc au hlen hcell hrel ih=>
  refine .ro _ _ _ _ _ vs hc au hlen (λj hj=>?_) ih;obtain⟨ad,h1,h2,h3,h4⟩:=hcell j hj;refine⟨ad,h1,h2,h3,?_⟩;rw[List.getElem?_eq_getElem hj]at h4 |-
  exact up _ _ (by rw[block_add];exact h3) h4
 | ao ρ ad x vs hsp hlen hcell hrel ih=>
  refine .ao _ _ _ vs hsp hlen (λj hj=>⟨(hcell j hj).1,?_⟩) ih;have h4:=(hcell j hj).2;rw[List.getElem?_eq_getElem hj]at h4 |-
  exact up _ _ (by rw[block_add];exact(hcell j hj).1) h4
 | sl ρ id off n c L A hL h1 h2 h3 hA=>exact .sl _ _ _ _ _ L A hL h1 h2 h3 hA
 | ptr ρ id i f L b hL hb hi hf=>exact .ptr _ _ _ _ L b hL hb hi hf
 | aa ρ id f L b hL hb=>exact .aa _ _ _ L b hL hb
 | dk ρ id L b hL hb hm hz=>exact .dk _ _ L b hL hb hm hz
 | agg ρ vs cs hlen hrel ih=>exact .agg _ _ _ hlen ih
 | ab ρ vs cs hlen hrel ih=>exact .ab _ _ _ hlen ih
 | aA ρ f vs cs hlen hrel ih=>exact .aA _ _ _ _ hlen ih
 | gd ρ b x v h h' ih=>exact .gd _ _ _ _ ih h'
theorem gr.other {X:Nat->Prop} {w w':World} {ρ:Loc} {b o cap:Nat} {cs:List AV} (h:gr X w ρ b o cap cs) (hb:∀cur t fz,w.heap[b]?=some (.cells cur t fz)->w'.heap[b]?=w.heap[b]?)
    (hw:∀b cur t fz,¬X b->w.heap[b]?=some (.cells cur t fz)->w'.heap[b]?=w.heap[b]?):gr X w' ρ b o cap cs:=by
 obtain⟨cur,t,fz,h1,h2,h3,h4,h5⟩:=h;exact⟨cur,t,fz,(hb cur t fz h1).trans h1,h2,h3,h4,λj v a e1 e2=>(h5 j v a e1 e2).other hw⟩
theorem cD.other {X0:Nat->Prop} {w w':World} {ρ:Loc} {h:List (Nat×aC)} (hh:cD X0 ρ h w) (hw:∀b,nL w b->w'.heap[b]?=w.heap[b]?):cD X0 ρ h w' where
 win:=λid W hW=>by
  obtain⟨L,h1,h2⟩:=hh.win id W hW;refine⟨L,h1,?_⟩
  cases W with
  | arr sz es=>
   obtain⟨g1,g2,g3,g4,g5⟩:=h2;refine⟨g1,g2,g3,g4,?_⟩
   cases hLb:L.b with
   | none=>rw[hLb]at g5;exact g5
   | some b=>rw[hLb]at g5;exact g5.other (λcur t fz hc=>hw b (.inl ⟨cur,t,fz,hc⟩)) (λb cur t fz _ hc=>hw b (.inl ⟨cur,t,fz,hc⟩))
  | var cs=>
   obtain⟨b,g1,g2⟩:=h2
   exact⟨b,g1,g2.other (λcur t fz hc=>hw b (.inl ⟨cur,t,fz,hc⟩)) (λb cur t fz _ hc=>hw b (.inl ⟨cur,t,fz,hc⟩))⟩
  | mp kd l=>
   obtain⟨b,g1,g2,g3,es,c,g4,g5,g6,g7⟩:=h2;exact⟨b,g1,g2,g3,es,c,(hw b (.inr ⟨es,c,g4⟩)).trans g4,g5,g6,λj e p e1 e2=>⟨(g7 j e p e1 e2).1,(g7 j e p e1 e2).2.other (λb cur t fz _ hc=>hw b (.inl ⟨cur,t,fz,hc⟩))⟩⟩
 cw:=hh.cw
 out:=hh.out
theorem af.other {E:Env} {ρ:Loc} {st:St} {a:Act} {w w':World} (h:af E ρ st a w) {ds:List Deferred} (h1:w'.os=w.os) (h2:w'.tape=w.tape) (h3:w'.output=w.output) (h4:w.heap.size<=w'.heap.size)
    (hw:∀b,nL w b->w'.heap[b]?=w.heap[b]?) (hf:∀b,b<E.w0.heap.size->¬E.F b->w'.heap[b]?=w.heap[b]?) (hd:fQ E.dn E.df ds w'):af E ρ st {a with defers:=ds} w' where
 defers:=hd
 size:=h.size
 aM:=λk av hk=>⟨(h.aM k av hk).1,(h.aM k av hk).2.other (λb cur t fz _ hc=>hw b (.inl ⟨cur,t,fz,hc⟩))⟩
 heap:=h.heap.other hw
 base:=h.base
 ai:=⟨h1.trans h.ai.os,h2.trans h.ai.tape,h3.trans h.ai.output,adt h.ai.size h4,λb hb hF=>(hf b hb hF).trans (h.ai.block b hb hF),h.ai.cn⟩
 x0:=λb hb=>acR (h.x0 b hb) h4
theorem jA {P:Program} {E:Env} {ρ:Loc} {st:St} {a:Act} {fn:Func} {R:Ending->World->Prop} {u:FrameMode} (hu:u≠.run) {rest:List Deferred}
    (hR:∀w,af E ρ st {a with defers:=rest} w->LeavesInM Fence.wide 0 P fn a.tmps R rest u w) (hE:E.w0.heap.size=E.dn) (hdf:rest=E.df) :
    ∀(Ds:List Nat) (w:World),af E ρ st {a with defers:=Ds.map kS++rest} w->LeavesInM Fence.wide 0 P fn a.tmps R (Ds.map kS++rest) u w
 | [],w,h=>hR w h
 | D::Ds,w,h=>by
  obtain⟨h1,h2,h3⟩:=h.defers;have hm:marksOf ((D::Ds).map kS++rest)=D::marksOf (Ds.map kS++rest):=rfl;simp only[hm]at h2 h3;have hD:=h3 D (acU ..);refine⟨hu,.inl ⟨D,_,rfl,run_takeDeferred hD.2,?_⟩⟩;rw[aer]at h2;have hne:∀b,b≠D->(w.putObj D (.deferred none)).heap[b]?=w.heap[b]?:=λb hb=>World.putObj_heap_other hb;refine jA hu hR hE hdf Ds _ ?_;refine h.other rfl rfl rfl (by simp) (λb hc=>hne b (λe=>by subst e;rcases hc with⟨_,_,_,hc⟩ | ⟨_,_,hc⟩<;>(rw[hD.2]at hc;cases hc))) (λb hb _=>hne b (λe=>by have:=hD.1;omega)) ⟨⟨Ds,by rw[hdf]⟩,h2.2,λD' hm'=>?_⟩
  have:=h3 D' (acV _ hm');exact⟨this.1,(hne D' (λe=>h2.1 (e▸hm'))).trans this.2⟩
theorem ZB {P:Program} {f:Nat} {fn:Func} {body:Code} {h:HP} {args:List AV} {Post:HP->AV->List AV->Prop} {c:AC} (hf:P.funcs[f]?=some fn) (hb:fn.body=some body) {B:Nat} (hc:trCode P fn.ntmps B body=c)
    (hN:fn.ntmps<=1000000) (ha:args.length<=fn.ntmps) (hp:∀E:Env,E.N=fn.ntmps->E.B=B->E.rd=none->bm P E c ⟨fN args,h⟩ (postQ (fn.results.toList.map (trRes P)) args.length Post)):Spec P f h args Post:=by
 intro X0 ρ w vs hh hA hX hvs hrv
 let E:Env:=⟨w,aE ρ h,X0,fn.ntmps,B,λk=>vs.getD (k-2000000) undef,none,w.heap.size,acG _,[]⟩
 refine(callsIn_wide (n:=0)).1 (callsIn_of_wp_marks hf hb trivial (wpIn_mono (hp E rfl rfl rfl 0 body hc _ w ⟨ρ,?_⟩) ?_))
 ·refine⟨fQ.nil _ _,by simp[E];omega,λk av hk=>?_,hh,λid W L b h1 h2 h3=>.inr ⟨id,W,L,h1,h2,h3⟩,⟨rfl,rfl,rfl,acG _,λ_ _ _=>rfl,hA⟩,hX⟩;simp only[fN,kh]at hk
  cases h0:sget (numbered 0 args) k with
  | some av0=>
   rw[h0]at hk;obtain rfl:=Option.some.inj hk;obtain⟨_,h2⟩:=ki args 0 k _ h0;have hlt:k<args.length:=(List.getElem?_eq_some_iff.1 h2).1;have hlt2:k<E.N:=by simp only[E];omega
   refine⟨.inl hlt2,?_⟩;have hv:vs[k]?=some (vs[k]' acB):=Array.getElem?_eq_getElem _;unfold aP;rw[if_pos hlt2,acO,Array.getElem?_append_left acB,hv]
   exact hrv k _ _ hv h2
  | none=>
   rw[h0]at hk;obtain⟨h1,h2⟩:=ki args 2000000 k av hk;have hlt:k-2000000<args.length:=(List.getElem?_eq_some_iff.1 h2).1;refine⟨.inr h1,?_⟩;have hv:vs[k-2000000]?=some (vs[k-2000000]' acB):=Array.getElem?_eq_getElem _;unfold aP;rw[if_neg (by simp only[E];omega)];simp only[E,acO,hv];exact hrv _ _ av hv h2
 ·rintro e a' w' ⟨st',⟨ρ',g0⟩,q⟩
  have fin:∀r,resOf st' (fn.results.toList.map (trRes P))=some r->Post st'.h r (argsAgain st' 0 args.length)->bodyPostM Fence.wide 0 P fn (λe w'=>∃v h' r ρ' as,e=.returned v/\Post h' r as/\cD X0 ρ' h' w'/\RV (XX X0 ρ' h') w' ρ' v r /\
   as.length=args.length/\(∀(j:Nat) v x,vs[j]?=some v->as[j]?=some x->RV (XX X0 ρ' h') w' ρ' v x) /\
   w'.os=w.os/\w'.tape=w.tape/\w'.output=w.output/\w.heap.size<=w'.heap.size/\(∀b,b<w.heap.size->¬aE ρ h b->w'.heap[b]?=w.heap[b]?) /\
   (∀b,aE ρ' h' b->w.heap.size<=b\/aE ρ h b)) .ret a' w':=by
   intro r hr hP;obtain⟨⟨Ds,hDs⟩,_⟩:=g0.defers
   show LeavesInM Fence.wide 0 P fn a'.tmps _ a'.defers .returning w'
   rw[hDs];refine jA (E:=E) (ρ:=ρ') (st:=st') (a:=a') (by simp) (λw' g=>?_) rfl rfl Ds w' (by rw[<-hDs];exact g0);obtain⟨v,g1,g2⟩:=uQ (P:=P) g hr;refine⟨v,g1,v,st'.h,r,ρ',_,rfl,hP,g.heap,g2,mA _ _ _,λj v x e1 e2=>?_,g.ai.os,g.ai.tape,g.ai.output,g.ai.size,g.ai.block,λb ⟨id,W,L,h1,h2,h3⟩=>g.base id W L b h1 h2 h3⟩;have:=pM st' _ _ j x e2;rw[adr]at this
   cases hs:sget st'.s (2000000+j)with
   | none=>rw[hs]at this;subst this;exact .undef _ _
   | some av=>
    rw[hs]at this;obtain rfl:x=av:=this;have hr2:=(g.aM _ _ hs).2;unfold aP at hr2;rw[if_neg (by simp only[E];omega)]at hr2;simp only[E,adv,acO,e1]at hr2;exact hr2
  cases e with
  | normal=>obtain⟨r,hr,hP⟩:=q;exact fin r hr hP
  | ret=>obtain⟨r,hr,hP⟩:=q;exact fin r hr hP
  | exit id=>exact q.elim
  | goto l=>exact q.elim
  | panic ch=>exact q.elim
  | outgrown=>exact q.elim
end Go.Proofs.YtgghhaahnpbnmaaGreatDoor.Eng
namespace Go.Proofs.YtgghhaahnpbnmaaGreatDoor.Eng
def dP:AV->Bool
 | .ab vs=>vs.all bF
 | x=>bF x
def flC:AV->Bool
 | .bool _ | .int _ _ | .fl _ _ | .cx _ _ _ | .str _ | .an | .lit _ | .undef=>true
 | _=>false
def flA:AV->Bool
 | .agg cs=>cs.all flC
 | x=>flC x
def cZ:AV->Bool
 | .ab vs=>vs.all flA
 | x=>flA x
section
variable {X X':Nat->Prop} {w w':World} {ρ ρ':Loc}
theorem RV.vo {v:Value} {x:AV} (h:RV X w ρ v x) (hn:bF x=true) (ρ':Loc):RV X w ρ' v x:=by
 cases x with
 | agg cs=>
  cases h with
  | agg _ vs _ hlen hrel=>exact .agg _ _ _ hlen (λj v a h1 h2=>(hrel j v a h1 h2).nD (acI.1 hn a (acS h2)) ρ')
 | _=>exact h.nD hn ρ'
theorem RV.GC {v:Value} {x:AV} (h:RV X w ρ v x) (hn:dP x=true) (ρ':Loc):RV X w ρ' v x:=by
 cases x with
 | ab cs=>
  cases h with
  | ab _ vs _ hlen hrel=>exact .ab _ _ _ hlen (λj v a h1 h2=>(hrel j v a h1 h2).vo (acI.1 hn a (acS h2)) ρ')
 | _=>exact h.vo hn ρ'
theorem RV.flC {v:Value} {x:AV} (h:RV X w ρ v x) (hn:flC x=true):RV X' w' ρ' v x:=by
 cases h<;>first | (simp[Eng.flC]at hn;done) | skip
 exact .undef _ _;exact .bool _ _;exact .int _ _ _;exact .fl _ _ _;exact .cx _ _ _ _;exact .str _ _;exact .lit _ _;exact .an _
theorem RV.flA {v:Value} {x:AV} (h:RV X w ρ v x) (hn:flA x=true):RV X' w' ρ' v x:=by
 cases x with
 | agg cs=>
  cases h with
  | agg _ vs _ hlen hrel=>exact .agg _ _ _ hlen (λj v a h1 h2=>(hrel j v a h1 h2).flC (acI.1 hn a (acS h2)))
 | _=>exact h.flC hn
theorem RV.cZ {v:Value} {x:AV} (h:RV X w ρ v x) (hn:cZ x=true):RV X' w' ρ' v x:=by
 cases x with
 | ab cs=>
  cases h with
  | ab _ vs _ hlen hrel=>exact .ab _ _ _ hlen (λj v a h1 h2=>(hrel j v a h1 h2).flA (acI.1 hn a (acS h2)))
 | _=>exact h.flA hn
end
theorem lT (X0:Nat->Prop) (ρ:Loc) (w:World):cD X0 ρ [] w:=⟨λid W h=>by simp[hget]at h,λi j W W' L L' b h=>by simp[hget]at h,λi W L b h=>by simp[hget]at h⟩
theorem fI {ρ:Loc} {b:Nat}:¬aE ρ [] b:=λ⟨id,W,L,h,_⟩=>by simp[hget]at h
theorem nI {X0:Nat->Prop} {ρ:Loc} {b:Nat}:XX X0 ρ [] b↔X0 b:=⟨λh=>h.elim id (λh=>(fI h).elim),.inl⟩
theorem zS {P:Program} {q:Bool} {st:St} {f:Nat} {args:List AE} {K:AV->St->Prop} {Post:HP->AV->List AV->Prop} (hs:Spec P f [] (args.map (ev st)) Post) (hn:args.all (λx=>bF (ev st x))=true)
    (hK:∀h' r as,Post h' r as->h'=[]/\dP r=true/\K r st):fb P q st f args K:=by
 intro E ρ a w vs h hvs hrv
 have hlt:∀b,XX E.X0 ρ st.h b->b<w.heap.size:=by
  intro b hb;rcases hb with hb | hb;exact h.x0 b hb;exact gT h hb
 refine(hs (XX E.X0 ρ st.h) aW w vs (lT _ _ _) (h.cn.mono λ_ hb=>(fI hb).elim) hlt (by simpa using hvs) (λj v x e1 e2=>?_)).mono ?_
 ·rw[List.getElem?_map]at e2;obtain⟨y,g1,rfl⟩:=acE.1 e2;have:=(hrv j v y e1 g1).1.vo (acI.1 hn y (acS g1)) aW;exact this.mono (λ_ _ _=>rfl) (λb _ hb=>λhx=>hb (nI.1 hx)) _ (λ_ _ h=>h)
 ·rintro e w' ⟨v,h',r,ρ',as,rfl,hP,_,g2,_,_,g3,g4,g5,g6,g7,_⟩;obtain⟨rfl,q1,q2⟩:=hK h' r as hP;have hsame:az w w':=⟨g3,g4,g5,g6,λb hb=>g7 b hb fI⟩;refine⟨v,ρ,st,r,rfl,h.same hsame,?_,q2,λ_=>hsame⟩;exact(g2.GC q1 ρ).mono (λ_ _ _=>rfl) (λb _ hb=>λhx=>hb (nI.2 hx)) ρ (λ_ _ h=>h)
def borrowC (h:HP):AV->AV
 | .sl id off n=>match hget h id with
  | some (.arr sz es)=>.ro sz (aB es off n)
  | _=>.undef
 | .ptr _ _ _=>.undef
 | .aa _ _=>.undef
 | .agg _=>.undef
 | .ab _=>.undef
 | .gd _ _=>.undef
 | .aA _ _=>.undef
 | x=>x
def borrow (h:HP):AV->AV
 | .agg cs=>.agg (cs.map (borrowC h))
 | x=>borrowC h x
section
variable {E:Env} {ρ:Loc} {st:St} {a:Act} {w:World}
theorem AY (h:af E ρ st a w) {v:Value} {x:AV} (hx:RV (XX E.X0 ρ st.h) w ρ v x) (ρ':Loc):RV E.X0 w ρ' v (borrowC st.h x):=by
 have up:∀b,¬XX E.X0 ρ st.h b->¬E.X0 b:=λb hb hx=>hb (.inl hx)
 cases hx with
 | sl _ id off n c L A hL h1 h2 h3 hA=>
  simp only[borrowC];split
  ·rename_i sz es hid;obtain⟨vs,hr,hn⟩:=rr h hid hL h1 h2 h3 hA
   have:=RV.ro (X:=E.X0) (w:=w) ρ' A c sz (aB es off n) vs acB hr.au (by rw[dY hr.au,hr.len])
    (λj hj=>by
     obtain⟨ad,g1,g2,g3⟩:=hr.cell j hj;refine⟨ad,g1,g2,λhx=>?_,g3⟩
     have hc:c≠0:=by
      intro e;have:n=0:=acB;rw[hr.len,hn,this]at hj;omega
     rcases hA with hA | hA;exact hc hA
     ·rw[hA]at g1
      cases hb:L.b with
      | none=>rw[hb]at g1;cases g1
      | some b=>
       rw[hb]at g1;obtain rfl:=Option.some.inj g1
       exact h.heap.out id _ L b hid hL hb hx)
    (λj v x e1 e2=>(hr.rel j v x e1 e2).mono (λ_ _ _=>rfl) (λb _ hb=>up b hb) aW (λ_ _ h=>h))
   rw[hn]at this;exact this
  ·exact .undef _ _
 | ptr _ i j f L b hL hb hi hf=>exact .undef _ _
 | dk _ i L b hL hb hm hz=>exact .undef _ _
 | aa _ i f L b hL hb=>exact .undef _ _
 | agg _ vs cs hlen hrel=>exact .undef _ _
 | ab _ vs cs hlen hrel=>exact .undef _ _
 | gd _ b x v h=>exact .undef _ _
 | aA _ f vs cs hlen hrel=>exact .undef _ _
 | undef _ v=>exact .undef _ _
 | bool _ b=>exact .bool _ _
 | int _ k n=>exact .int _ _ _
 | fl _ k b=>exact .fl _ _ _
 | cx _ k re im=>exact .cx _ _ _ _
 | str _ s=>exact .str _ _
 | lit _ x=>exact .lit _ _
 | an _=>exact .an _
 | ro _ A c sz es vs hc au hlen hcell hrel=>
  exact .ro _ _ _ _ _ vs hc au hlen (λj hj=>by obtain⟨ad,g1,g2,g3,g4⟩:=hcell j hj;exact⟨ad,g1,g2,up _ g3,g4⟩) (λj v a h1 h2=>(hrel j v a h1 h2).mono (λ_ _ _=>rfl) (λb _ hb=>up b hb) aW (λ_ _ h=>h))
 | ao _ ad x vs hsp hlen hcell hrel=>
  exact .ao _ _ _ vs hsp hlen (λj hj=>⟨up _ (hcell j hj).1,(hcell j hj).2⟩) (λj v a h1 h2=>(hrel j v a h1 h2).mono (λ_ _ _=>rfl) (λb _ hb=>up b hb) aW (λ_ _ h=>h))
theorem A1 (h:af E ρ st a w) {v:Value} {x:AV} (hx:RV (XX E.X0 ρ st.h) w ρ v x) (ρ':Loc):RV E.X0 w ρ' v (borrow st.h x):=by
 cases x with
 | agg cs=>
  cases hx with
  | agg _ vs _ hlen hrel=>
   refine .agg _ _ _ (by simpa using hlen) (λj v a h1 h2=>?_);rw[List.getElem?_map]at h2;obtain⟨a',h3,rfl⟩:=acE.1 h2
   exact AY h (hrel j v a' h1 h3) ρ'
 | _=>exact AY h hx ρ'
end
theorem Hz {P:Program} {q:Bool} {st:St} {f:Nat} {args:List AE} {K:AV->St->Prop} {Post:HP->AV->List AV->Prop} (hs:Spec P f [] (args.map λx=>borrow st.h (ev st x)) Post)
    (hK:∀h' r as,Post h' r as->h'=[]/\cZ r=true/\K r st):fb P q st f args K:=by
 intro E ρ a w vs h hvs hrv;refine(hs E.X0 aW w vs (lT _ _ _) (h.cn.mono λ_ hb=>(fI hb).elim) (λb hb=>h.x0 b hb) (by simpa using hvs) (λj v x e1 e2=>?_)).mono ?_
 ·rw[List.getElem?_map]at e2;obtain⟨y,g1,rfl⟩:=acE.1 e2;exact(A1 h (hrv j v y e1 g1).1 aW).mono (λ_ _ _=>rfl) (λb _ hb=>λhx=>hb (nI.1 hx)) _ (λ_ _ h=>h)
 ·rintro e w' ⟨v,h',r,ρ',as,rfl,hP,_,g2,_,_,g3,g4,g5,g6,g7,_⟩;obtain⟨rfl,q1,q2⟩:=hK h' r as hP;have hsame:az w w':=⟨g3,g4,g5,g6,λb hb=>g7 b hb fI⟩;exact⟨v,ρ,st,r,rfl,h.same hsame,g2.cZ q1,q2,λ_=>hsame⟩
def memN (i:Nat):List Nat->Bool
 | []=>false
 | k::r=>if i=k then true else memN i r
def cf (ids keep:List Nat):AV->AV
 | .sl i o n=>if memN i ids then .undef else .sl i o n
 | .ptr i j f=>if memN i ids then .undef else .ptr i j f
 | .aa i f=>if memN i keep then .aa i f else if memN i ids then .undef else .aa i f
 | .agg _=>.undef
 | .ab _=>.undef
 | .gd _ _=>.undef
 | .aA _ _=>.undef
 | x=>x
def cP (ids keep:List Nat):AV->AV
 | .agg cs=>.agg (cs.map (cf ids keep))
 | .aA f cs=>.aA f (cs.map (cf ids keep))
 | x=>cf ids keep x
def kI (ids keep:List Nat):AV->AV
 | .ab cs=>.ab (cs.map (cP ids keep))
 | .gd b x=>.gd b (cP ids keep x)
 | x=>cP ids keep x
def kO (ids keep:List Nat):aC->aC
 | .arr sz es=>.arr sz es
 | .var cs=>.var (cs.map (cf ids keep))
 | .mp kd l=>.mp kd l
def killSI (ids keep:List Nat):List (Nat×AV)->List (Nat×AV)
 | []=>[]
 | (k,v)::r=>(k,kI ids keep v)::killSI ids keep r
def dropH (ids keep:List Nat):HP->HP
 | []=>[]
 | (k,W)::r=>if memN k ids then dropH ids keep r else(k,kO ids keep W)::dropH ids keep r
def dD:HP->List Nat
 | []=>[]
 | (k,_)::r=>k::dD r
theorem yX (ids keep:List Nat) (j:Nat):∀s,sget (killSI ids keep s) j=(sget s j).map (kI ids keep)
 | []=>rfl
 | (k,v)::r=>by
  simp only[killSI,sget,yX ids keep j r];split<;>simp
theorem tM (ids keep:List Nat) (j:Nat):∀h,hget (dropH ids keep h) j=if memN j ids then none else(hget h j).map (kO ids keep)
 | []=>by simp[dropH,hget]
 | (k,W)::r=>by
  unfold dropH;by_cases hk:memN k ids=true
  ·rw[if_pos hk,tM ids keep j r];simp only[hget];by_cases hj:j=k
   ·subst hj;simp[hk]
   ·simp[hj]
  ·rw[if_neg hk];simp only[hget,tM ids keep j r];by_cases hj:j=k
   ·subst hj;simp[hk]
   ·simp[hj]
theorem C9 (h1 h2:HP) (j:Nat):hget (h1++h2) j=(hget h1 j).or (hget h2 j):=by
 induction h1 with
 | nil=>simp[hget]
 | cons x l ih=>
  obtain⟨k,v⟩:=x;simp only[acZ,hget,ih];split<;>simp
theorem DX (j:Nat) (l r:List Nat):memN j (l++r)=(memN j l||memN j r):=by
 induction l with
 | nil=>simp[memN]
 | cons x l ih=>
  simp only[acZ,memN,ih];split<;>simp
theorem DY {h:HP} {j:Nat}:memN j (dD h)=(hget h j).isSome:=by
 induction h with
 | nil=>rfl
 | cons x l ih=>
  obtain⟨k,v⟩:=x;simp only[dD,memN,hget,ih];split<;>simp
section
variable {X X':Nat->Prop} {w w':World} {ρ ρ':Loc} {ids keep:List Nat}
theorem RV.cf {v:Value} {a:AV} (h:RV X w ρ v a) (h1:∀i L,memN i ids=false->ρ i=some L->ρ' i=some L)
    (h2:∀i L b,memN i keep=true->ρ i=some L->L.b=some b->∃L',ρ' i=some L'/\L'.b=some b/\L'.o=L.o):RV X w ρ' v (cf ids keep a):=by
 cases h with
 | undef _ v=>exact .undef _ _
 | bool _ b=>exact .bool _ _
 | int _ k n=>exact .int _ _ _
 | fl _ k b=>exact .fl _ _ _
 | cx _ k re im=>exact .cx _ _ _ _
 | str _ s=>exact .str _ _
 | lit _ x=>exact .lit _ _
 | an _=>exact .an _
 | ro _ A c sz es vs hc au hlen hcell hrel=>exact .ro _ _ _ _ _ vs hc au hlen hcell hrel
 | ao _ ad x vs hsp hlen hcell hrel=>exact .ao _ _ _ vs hsp hlen hcell hrel
 | sl _ i off n c L A hL g1 g2 g3 hA=>
  show RV X w _ _ (if memN i ids then .undef else .sl i off n)
  split;exact .undef _ _
  ·rename_i hm;exact .sl _ _ _ _ _ L A (h1 _ _ (by simpa using hm) hL) g1 g2 g3 hA
 | ptr _ i j f L b hL hb hi hf=>
  show RV X w _ _ (if memN i ids then .undef else .ptr i j f)
  split;exact .undef _ _
  ·rename_i hm;exact .ptr _ _ _ _ L b (h1 _ _ (by simpa using hm) hL) hb hi hf
 | dk _ i L b hL hb hm hz=>
  show RV X w _ _ (if memN i ids then .undef else .ptr i 0 0)
  split;exact .undef _ _
  ·rename_i hn;exact .dk _ _ L b (h1 _ _ (by simpa using hn) hL) hb hm hz
 | aa _ i f L b hL hb=>
  show RV X w _ _ (if memN i keep then .aa i f else if memN i ids then .undef else .aa i f)
  split
  ·rename_i hm;obtain⟨L',g1,g2,g3⟩:=h2 i L b hm hL hb;rw[<-g3];exact .aa _ _ _ L' b g1 g2
  ·split;exact .undef _ _
   ·rename_i hm;exact .aa _ _ _ L b (h1 _ _ (by simpa using hm) hL) hb
 | agg _ vs cs hlen hrel=>exact .undef _ _
 | ab _ vs cs hlen hrel=>exact .undef _ _
 | gd _ b x v h h'=>exact .undef _ _
 | aA _ f vs cs hlen hrel=>exact .undef _ _
theorem RV.cP {v:Value} {a:AV} (h:RV X w ρ v a) (h1:∀i L,memN i ids=false->ρ i=some L->ρ' i=some L)
    (h2:∀i L b,memN i keep=true->ρ i=some L->L.b=some b->∃L',ρ' i=some L'/\L'.b=some b/\L'.o=L.o):RV X w ρ' v (cP ids keep a):=by
 cases a with
 | agg cs=>
  cases h with
  | agg _ vs _ hlen hrel=>
   refine .agg _ _ _ (by simpa using hlen) (λj v a e1 e2=>?_);rw[List.getElem?_map]at e2;obtain⟨a',e3,rfl⟩:=acE.1 e2
   exact(hrel j v a' e1 e3).cf h1 h2
 | aA f cs=>
  cases h with
  | aA _ _ vs _ hlen hrel=>
   refine .aA _ _ _ _ (by simpa using hlen) (λj v a e1 e2=>?_);rw[List.getElem?_map]at e2;obtain⟨a',e3,rfl⟩:=acE.1 e2
   exact(hrel j v a' e1 e3).cf h1 h2
 | _=>exact h.cf h1 h2
theorem RV.kI {v:Value} {a:AV} (h:RV X w ρ v a) (h1:∀i L,memN i ids=false->ρ i=some L->ρ' i=some L)
    (h2:∀i L b,memN i keep=true->ρ i=some L->L.b=some b->∃L',ρ' i=some L'/\L'.b=some b/\L'.o=L.o):RV X w ρ' v (kI ids keep a):=by
 cases a with
 | ab cs=>
  cases h with
  | ab _ vs _ hlen hrel=>
   refine .ab _ _ _ (by simpa using hlen) (λj v a e1 e2=>?_);rw[List.getElem?_map]at e2;obtain⟨a',e3,rfl⟩:=acE.1 e2
   exact(hrel j v a' e1 e3).cP h1 h2
 | gd b x=>
  cases h with
  | gd _ _ _ _ h h'=>exact .gd _ _ _ _ (λhb=>(h hb).cP h1 h2) h'
 | _=>exact h.cP h1 h2
def cC (h:HP):AV->Bool
 | .sl i _ _=>(hget h i).isSome
 | .ptr i _ _=>(hget h i).isSome
 | .aa i _=>(hget h i).isSome
 | .agg _=>false
 | .ab _=>false
 | .gd _ _=>false
 | .aA _ _=>false
 | _=>true
def dj (h:HP):AV->Bool
 | .agg cs=>cs.all (cC h)
 | x=>cC h x
def dw (h:HP):AV->Bool
 | .ab vs=>vs.all (dj h)
 | x=>dj h x
def oH (h:HP):aC->Bool
 | .arr _ _=>true
 | .var cs=>cs.all (cC h)
 | .mp _ _=>true
def jw (h:HP):HP->Bool
 | []=>true
 | (_,W)::r=>oH h W&&jw h r
theorem Di {h:HP}:∀{g:HP} {i:Nat} {W:aC},jw h g=true->hget g i=some W->oH h W=true
 | [],i,W,_,h2=>by simp[hget]at h2
 | (k,V)::r,i,W,h1,h2=>by
  simp only[jw,acN]at h1;simp only[hget]at h2;split at h2
  ·obtain rfl:=Option.some.inj h2;exact h1.1
  exact Di h1.2 h2
theorem RV.cC {h:HP} {v:Value} {a:AV} (hr:RV X w ρ v a) (hn:cC h a=true) (h1:∀i L,(hget h i).isSome=true->ρ i=some L->ρ' i=some L):RV X w ρ' v a:=by
 cases hr<;>first | (simp[Eng.cC]at hn;done) | skip
 exact .undef _ _;exact .bool _ _;exact .int _ _ _;exact .fl _ _ _;exact .cx _ _ _ _;exact .str _ _;exact .lit _ _;exact .an _
 ·rename_i A c sz es vs hc au hlen hcell hrel;exact .ro _ _ _ _ _ vs (by assumption) (by assumption) (by assumption) (by assumption) (by assumption)
 exact .ao _ _ _ _ (by assumption) (by assumption) (by assumption) (by assumption)
 ·rename_i L A g1 g2 g3 hA hL;exact .sl _ _ _ _ _ L A (h1 _ _ hn hL) g1 g2 g3 hA
 ·rename_i L b hb hi hf hL;exact .ptr _ _ _ _ L b (h1 _ _ hn hL) hb hi hf
 ·rename_i L b hb hL;exact .aa _ _ _ L b (h1 _ _ hn hL) hb
 ·rename_i L b hb hm hz hL;exact .dk _ _ L b (h1 _ _ hn hL) hb hm hz
theorem RV.dj {h:HP} {v:Value} {a:AV} (hr:RV X w ρ v a) (hn:dj h a=true) (h1:∀i L,(hget h i).isSome=true->ρ i=some L->ρ' i=some L):RV X w ρ' v a:=by
 cases a with
 | agg cs=>
  cases hr with
  | agg _ vs _ hlen hrel=>exact .agg _ _ _ hlen (λj v a e1 e2=>(hrel j v a e1 e2).cC (acI.1 hn a (acS e2)) h1)
 | _=>exact hr.cC hn h1
theorem RV.dw {h:HP} {v:Value} {a:AV} (hr:RV X w ρ v a) (hn:dw h a=true) (h1:∀i L,(hget h i).isSome=true->ρ i=some L->ρ' i=some L):RV X w ρ' v a:=by
 cases a with
 | ab cs=>
  cases hr with
  | ab _ vs _ hlen hrel=>exact .ab _ _ _ hlen (λj v a e1 e2=>(hrel j v a e1 e2).dj (acI.1 hn a (acS e2)) h1)
 | _=>exact hr.dj hn h1
end
def keepL2:List AV->List AV->List Nat
 | .aa p f::xs,.aa p' f'::as=>if p=p' then if f=f' then p::keepL2 xs as else keepL2 xs as else keepL2 xs as
 | _::xs,_::as=>keepL2 xs as
 | _,_=>[]
def backS (s:List (Nat×AV)) (h':HP):List AE->List AV->List (Nat×AV)
 | .t k::xs,.sl i o n::as=>if(hget h' i).isSome then if(sget s k).isSome then(k,.sl i o n)::backS s h' xs as else backS s h' xs as else backS s h' xs as
 | _::xs,_::as=>backS s h' xs as
 | _,_=>[]
def gU (st:St) (h:HP) (args:List AE) (h':HP) (as:List AV):St:=
 ⟨backS st.s h' args as++killSI (dD h++dD h') (keepL2 (args.map (ev st)) as) st.s,h'++dropH (dD h++dD h') (keepL2 (args.map (ev st)) as) st.h⟩
theorem xR:∀{xs as:List AV} {p:Nat},memN p (keepL2 xs as)=true->∃(j f:Nat),xs[j]?=some (.aa p f)/\as[j]?=some (.aa p f)
 | [],as,p,h=>by simp[keepL2,memN]at h
 | x::xs,[],p,h=>by cases x<;>simp[keepL2,memN]at h
 | x::xs,a::as,p,h=>by
  have rest:memN p (keepL2 xs as)=true->∃(j f:Nat),(x::xs)[j]?=some (.aa p f)/\(a::as)[j]?=some (.aa p f):=λh=>by
   obtain⟨j,f,h1,h2⟩:=xR h;exact⟨j+1,f,by simpa using h1,by simpa using h2⟩
  unfold keepL2 at h;split at h
  ·rename_i q f xs' q' f' as' e1 e2;cases e1;cases e2;split at h
   ·split at h
    ·rename_i e3 e4;simp only[memN]at h;split at h
     ·rename_i e5;exact⟨0,f,by rw[e5];rfl,by rw[e5,e3,e4];rfl⟩
     exact rest h
    exact rest h
   exact rest h
  ·rename_i e1 e2;cases e1;cases e2;exact rest h
  ·rename_i h1 h2;exact absurd rfl (h2 x xs a as rfl)
theorem wj {s:List (Nat×AV)} {h':HP}:∀{xs:List AE} {as:List AV} {k:Nat} {av:AV},sget (backS s h' xs as) k=some av ->
    ∃(j i o n:Nat),xs[j]?=some (.t k)/\as[j]?=some av/\av=.sl i o n/\(hget h' i).isSome=true/\(sget s k).isSome=true
 | [],as,k,av,h=>by simp[backS,sget]at h
 | x::xs,[],k,av,h=>by cases x<;>simp[backS,sget]at h
 | x::xs,a::as,k,av,h=>by
  have rest:sget (backS s h' xs as) k=some av->∃(j i o n:Nat),(x::xs)[j]?=some (.t k)/\(a::as)[j]?=some av/\av=.sl i o n/\(hget h' i).isSome=true/\(sget s k).isSome=true:=λh=>by
   obtain⟨j,i,o,n,h1,h2,h3⟩:=wj h;exact⟨j+1,i,o,n,by simpa using h1,by simpa using h2,h3⟩
  unfold backS at h;split at h
  ·rename_i k' xs' i o n as' e1 e2;cases e1;cases e2;split at h
   ·split at h
    ·rename_i e3 e4;simp only[sget]at h;split at h
     ·rename_i e5;obtain rfl:=Option.some.inj h;exact⟨0,i,o,n,by rw[e5];rfl,rfl,rfl,e3,by rw[e5];exact e4⟩
     exact rest h
    exact rest h
   exact rest h
  ·rename_i e1 e2;cases e1;cases e2;exact rest h
  ·rename_i h1 h2;exact absurd rfl (h2 x xs a as rfl)
def kX (E:Env) (ρ:Loc) (st:St) (h0:HP):Nat->Prop:=λb=>E.X0 b\/∃id W L,hget st.h id=some W/\hget h0 id=none/\ρ id=some L/\L.b=some b
theorem qZ {E:Env} {ρ:Loc} {st:St} {h0:HP} (hsub:∀i W,hget h0 i=some W->hget st.h i=some W):∀b,XX (kX E ρ st h0) ρ h0 b->XX E.X0 ρ st.h b:=by
 rintro b ((hb | ⟨id,W,L,g1,g2,g3,g4⟩) | ⟨id,W,L,g1,g2,g3⟩);exact .inl hb;exact .inr ⟨id,W,L,g1,g3,g4⟩;exact .inr ⟨id,W,L,hsub _ _ g1,g2,g3⟩
theorem vU {E:Env} {ρ:Loc} {st:St} {a:Act} {w:World} (h:af E ρ st a w):∀b,XX E.X0 ρ st.h b->b<w.heap.size:=by
 intro b hb;rcases hb with hb | hb;exact h.x0 b hb;exact gT h hb
theorem zG {E:Env} {ρ:Loc} {st:St} {a:Act} {w:World} {h0:HP} (h:af E ρ st a w) (hsub:∀i W,hget h0 i=some W->hget st.h i=some W):cD (kX E ρ st h0) ρ h0 w:=by
 have hx1:=qZ (E:=E) (ρ:=ρ) hsub;refine⟨λid W hW=>?_,λi j W W' L L' b e1 e2 e3 e4 e5 e6=>h.heap.cw i j W W' L L' b (hsub _ _ e1) (hsub _ _ e2) e3 e4 e5 e6,λid W L b e1 e2 e3 hx=>?_⟩
 ·obtain⟨L,g1,g2⟩:=h.heap.win id W (hsub _ _ hW);exact⟨L,g1,g2.mono (λ_ _=>rfl) (λ_ _ _=>rfl) (λb _ hb hx=>hb (hx1 b hx)) (λ_ _ h=>h)⟩
 ·rcases hx with hx | ⟨id',W',L',g1,g2,g3,g4⟩;exact h.heap.out id W L b (hsub _ _ e1) e2 e3 hx
  ·have:=h.heap.cw id id' W W' L L' b (hsub _ _ e1) g1 e2 g3 e3 g4;subst this;rw[e1]at g2;cases g2
theorem zF {E:Env} {ρ ρ':Loc} {st:St} {a:Act} {w w':World} {h0 h':HP} {args:List AE} {vs:Array Value} {v:Value} {r:AV} {as:List AV} (h:af E ρ st a w) (hvs:vs.size=args.length)
    (hrv:∀(j:Nat) v x,vs[j]?=some v->args[j]?=some x->RV (XX E.X0 ρ st.h) w ρ v (ev st x)/\∀k,x=.t k->k<2000000/\v=a.tmps.getD k undef)
    (hsub:∀i W,hget h0 i=some W->hget st.h i=some W) (k1:jw h' h'=true) (k2:dw h' r=true)
    (hH:cD (kX E ρ st h0) ρ' h' w') (hr:RV (XX (kX E ρ st h0) ρ' h') w' ρ' v r) (hal:as.length=args.length)
    (has:∀(j:Nat) v x,vs[j]?=some v->as[j]?=some x->RV (XX (kX E ρ st h0) ρ' h') w' ρ' v x)
    (q1:w'.os=w.os) (q2:w'.tape=w.tape) (q3:w'.output=w.output) (q4:w.heap.size<=w'.heap.size) (q5:∀b,b<w.heap.size->¬aE ρ h0 b->w'.heap[b]?=w.heap[b]?)
    (q6:∀b,aE ρ' h' b->w.heap.size<=b\/aE ρ h0 b) :
    ∃ρ2,af E ρ2 (gU st h0 args h' as) a w'/\RV (XX E.X0 ρ2 (gU st h0 args h' as).h) w' ρ2 v r:=by
 have hx1:=qZ (E:=E) (ρ:=ρ) hsub
 let ids:=dD h0++dD h'
 let keep:=keepL2 (args.map (ev st)) as
 let ρ2:Loc:=λj=>if(hget h' j).isSome then ρ' j else ρ j
 have hin:∀i L,(hget h' i).isSome=true->ρ' i=some L->ρ2 i=some L:=λi L g1 g2=>by simp only[ρ2,g1,if_true,g2]
 have hout:∀i,memN i ids=false->hget h0 i=none/\hget h' i=none:=by
  intro i hi;simp only[ids,DX,aeT,DY]at hi;exact⟨by cases hh:hget h0 i<;>simp_all,by cases hh:hget h' i<;>simp_all⟩
 have hold:∀i L,memN i ids=false->ρ i=some L->ρ2 i=some L:=λi L g1 g2=>by
  simp only[ρ2,(hout i g1).2,ac8,acT,if_false,g2]
 have hget2:∀id W,hget (h'++dropH ids keep st.h) id=some W->hget h' id=some W\/(hget h' id=none/\hget h0 id=none/\memN id ids=false/\∃W0,hget st.h id=some W0/\W=kO ids keep W0):=by
  intro id W hW;rw[C9]at hW
  cases hh:hget h' id with
  | some W1=>rw[hh]at hW;exact .inl hW
  | none=>
   rw[hh,ad2,tM]at hW;split at hW
   ·cases hW
   ·rename_i hm;obtain⟨W0,g1,g2⟩:=acE.1 hW;exact .inr ⟨rfl,(hout id (by simpa using hm)).1,by simpa using hm,W0,g1,g2.symm⟩
 have hX1:∀b,XX E.X0 ρ2 (h'++dropH ids keep st.h) b->XX (kX E ρ st h0) ρ' h' b:=by
  rintro b (hb | ⟨id,W,L,g1,g2,g3⟩);exact .inl (.inl hb)
  ·rcases hget2 id W g1 with g4 | ⟨g4,g5,g6,W0,g7,_⟩
   ·simp only[ρ2,g4,adi,if_true]at g2;exact .inr ⟨id,W,L,g4,g2,g3⟩
   ·simp only[ρ2,g4,ac8,acT,if_false]at g2;exact .inl (.inr ⟨id,W0,L,g7,g5,g2,g3⟩)
 have hX2:∀b,b<w.heap.size->¬XX E.X0 ρ st.h b->¬XX E.X0 ρ2 (h'++dropH ids keep st.h) b:=by
  intro b hb hn hx;rcases hX1 b hx with g | g;exact hn (hx1 b (.inl g))
  ·rcases q6 b g with g1 | g1;omega
   exact hn (hx1 b (.inr g1))
 have hw:∀b,¬XX E.X0 ρ st.h b->b<w.heap.size->w'.heap[b]?=w.heap[b]?:=λb hn hb=>q5 b hb (λg=>hn (hx1 b (.inr g)))
 have hkeep:∀i L b,memN i keep=true->ρ i=some L->L.b=some b->∃L',ρ2 i=some L'/\L'.b=some b/\L'.o=L.o:=by
  intro i L b hm hL hb;obtain⟨j,fo,g1,g2⟩:=xR hm
  have hj:j<vs.size:=by
   have:=(List.getElem?_eq_some_iff.1 g1).1;simp at this;omega
  have hv:=Array.getElem?_eq_getElem hj;rw[List.getElem?_map]at g1;obtain⟨y,e1,e2⟩:=acE.1 g1;have r1:=(hrv j _ y hv e1).1;rw[e2]at r1;have r2:=has j _ _ hv g2;by_cases hd:(hget h' i).isSome=true
  ·generalize vs[j]=vj at r1 r2
   cases r1 with
   | aa _ _ _ L1 b1 hL1 hb1=>
    rw[hL]at hL1;obtain rfl:=Option.some.inj hL1;rw[hb]at hb1;obtain rfl:=Option.some.inj hb1;generalize hz:(Value.pointer (some ⟨b,L.o+fo,none⟩))=z at r2
    cases r2 with
    | aa _ _ _ L2 b2 hL2 hb2=>
     have hz':b=b2/\L.o+fo=L2.o+fo:=by
      injection hz with hz
      injection hz with hz
      injection hz with hz1 hz2
      exact⟨hz1,hz2⟩
     exact⟨L2,hin i L2 hd hL2,by rw[hb2,hz'.1],acB⟩
  exact⟨L,by simp only[ρ2,hd,acT,if_false,hL],hb,rfl⟩
 have hun:∀id W0 L b,hget st.h id=some W0->hget h0 id=none->ρ id=some L->L.b=some b->b<w.heap.size/\w'.heap[b]?=w.heap[b]?:=by
  intro id W0 L b g1 g2 g3 g4;have hb:=gT h ⟨id,W0,L,g1,g3,g4⟩;refine⟨hb,q5 b hb ?_⟩;rintro⟨id',W',L',e1,e2,e3⟩;have:=h.heap.cw id id' W0 W' L L' b g1 (hsub _ _ e1) g3 e2 g4 e3;subst this;rw[e1]at g2;cases g2
 refine⟨ρ2,⟨h.defers.turn (λb hb=>q5 b (Array.getElem?_eq_some_iff.1 hb).1 (λ⟨id',W',L',e1,e2,e3⟩=>j8 h.heap hb ⟨id',W',L',hsub _ _ e1,e2,e3⟩)),h.size,λk av hk=>?_,⟨λid W hW=>?_,λi j W W' L L' b e1 e2 e3 e4 e5 e6=>?_,λid W L b e1 e2 e3 hx=>?_⟩,λid W L b e1 e2 e3=>?_,?_,λb hb=>acR (h.x0 b hb) q4⟩,?_⟩
 ·simp only[gU,kh]at hk
  cases hb:sget (backS st.s h' args as) k with
  | some av1=>
   rw[hb]at hk;obtain rfl:av1=av:=Option.some.inj hk;obtain⟨j,i,o,n,g1,g2,rfl,g3,g4⟩:=wj hb
   have hj:j<vs.size:=by
    have:=(List.getElem?_eq_some_iff.1 g1).1;omega
   have hv:=Array.getElem?_eq_getElem hj;obtain⟨e1,e2⟩:=hrv j _ _ hv g1;obtain⟨e3,e4⟩:=e2 k rfl;obtain⟨av0,hav0⟩:=adX.1 g4;have hkN:k<E.N:=(h.aM k av0 hav0).1.resolve_right (afo.2 e3);refine⟨.inl hkN,?_⟩
   have hsv:aP E a k=vs[j]:=by
    unfold aP;rw[if_pos hkN,e4]
   rw[hsv]
   exact((has j _ _ hv g2).cC (h:=h') g3 hin).mono (λ_ _ _=>rfl) (λb _ hb hx=>hb (hX1 b hx)) _ (λ_ _ h=>h)
  | none=>
   rw[hb,ad2,yX]at hk;obtain⟨av0,g1,rfl⟩:=acE.1 hk;obtain⟨g2,g3⟩:=h.aM k av0 g1;exact⟨g2,(g3.kI hold hkeep).mono hw hX2 _ (λ_ _ h=>h)⟩
 ·rcases hget2 id W hW with g4 | ⟨g4,g5,g6,W0,g7,rfl⟩
  ·obtain⟨L,g1,g2⟩:=hH.win id W g4;refine⟨L,hin id L (by rw[g4];rfl) g1,?_⟩;have hiw:=Di k1 g4
   cases W with
   | arr sz es=>exact g2.mono (λ_ _=>rfl) (λ_ _ _=>rfl) (λb _ hb hx=>hb (hX1 b hx)) (λ_ _ h=>h) (ρ':=ρ')
   | var cs=>
    obtain⟨b,e1,cur,t,fz,e2,e3,e4,e5,e6⟩:=g2;refine⟨b,e1,cur,t,fz,e2,e3,e4,e5,λj v a e7 e8=>?_⟩
    exact((e6 j v a e7 e8).cC (acI.1 hiw a (acS e8)) hin).mono (λ_ _ _=>rfl) (λb _ hb hx=>hb (hX1 b hx)) _ (λ_ _ h=>h)
   | mp kd l=>exact g2.mono (λ_ _=>rfl) (λ_ _ _=>rfl) (λb _ hb hx=>hb (hX1 b hx)) (λ_ _ h=>h) (ρ':=ρ')
  ·obtain⟨L,g1,g2⟩:=h.heap.win id W0 g7;refine⟨L,hold id L g6 g1,?_⟩
   cases W0 with
   | arr sz es=>exact g2.mono (λb hb=>(hun id _ L b g7 g5 g1 hb).2) hw hX2 (λ_ _ h=>h) (ρ':=ρ)
   | var cs=>
    obtain⟨b,e1,cur,t,fz,e2,e3,e4,e5,e6⟩:=g2;refine⟨b,e1,cur,t,fz,(hun id _ L b g7 g5 g1 e1).2.trans e2,e3,by simpa using e4,by simp,λj v a e7 e8=>?_⟩;rw[List.getElem?_map]at e8;obtain⟨a',e9,rfl⟩:=acE.1 e8
    exact((e6 j v a' e7 e9).cf hold hkeep).mono hw hX2 _ (λ_ _ h=>h)
   | mp kd l=>exact g2.mono (λb hb=>(hun id _ L b g7 g5 g1 hb).2) hw hX2 (λ_ _ h=>h) (ρ':=ρ)
 ·rcases hget2 i W e1 with g4 | ⟨g4,g5,g6,W0,g7,rfl⟩
  ·simp only[ρ2,g4,adi,if_true]at e3;rcases hget2 j W' e2 with f4 | ⟨f4,f5,f6,W0',f7,rfl⟩
   ·simp only[ρ2,f4,adi,if_true]at e4;exact hH.cw i j W W' L L' b g4 f4 e3 e4 e5 e6
   ·simp only[ρ2,f4,ac8,acT,if_false]at e4;exact absurd (.inr ⟨j,W0',L',f7,f5,e4,e6⟩) (hH.out i W L b g4 e3 e5)
  ·simp only[ρ2,g4,ac8,acT,if_false]at e3;rcases hget2 j W' e2 with f4 | ⟨f4,f5,f6,W0',f7,rfl⟩
   ·simp only[ρ2,f4,adi,if_true]at e4;exact absurd (.inr ⟨i,W0,L,g7,g5,e3,e5⟩) (hH.out j W' L' b f4 e4 e6)
   ·simp only[ρ2,f4,ac8,acT,if_false]at e4;exact h.heap.cw i j W0 W0' L L' b g7 f7 e3 e4 e5 e6
 ·rcases hget2 id W e1 with g4 | ⟨g4,g5,g6,W0,g7,rfl⟩
  ·simp only[ρ2,g4,adi,if_true]at e2;exact hH.out id W L b g4 e2 e3 (.inl hx)
  ·simp only[ρ2,g4,ac8,acT,if_false]at e2;exact h.heap.out id W0 L b g7 e2 e3 hx
 ·rcases hget2 id W e1 with g4 | ⟨g4,g5,g6,W0,g7,rfl⟩
  ·simp only[ρ2,g4,adi,if_true]at e2;rcases q6 b ⟨id,W,L,g4,e2,e3⟩with g | ⟨id',W',L',f1,f2,f3⟩;exact .inl (adt h.ai.size g);exact h.base id' W' L' b (hsub _ _ f1) f2 f3
  ·simp only[ρ2,g4,ac8,acT,if_false]at e2;exact h.base id W0 L b g7 e2 e3
 ·refine⟨q1.trans h.ai.os,q2.trans h.ai.tape,q3.trans h.ai.output,adt h.ai.size q4,λb hb hF=>(q5 b (acR hb h.ai.size) ?_).trans (h.ai.block b hb hF),h.ai.cn⟩;rintro⟨id',W',L',f1,f2,f3⟩;rcases h.base id' W' L' b (hsub _ _ f1) f2 f3 with g | g;omega
  exact hF g
 exact(hr.dw k2 hin).mono (λ_ _ _=>rfl) (λb _ hb hx=>hb (hX1 b hx)) _ (λ_ _ h=>h)
theorem HE {P:Program} {q:Bool} {st:St} {f:Nat} {args:List AE} {K:AV->St->Prop} {Post:HP->AV->List AV->Prop} (h0:HP) (hs:Spec P f h0 (args.map (ev st)) Post)
    (hsub:∀i W,hget h0 i=some W->hget st.h i=some W) (hq:q=true->h0=[])
    (hK:∀h' r as,Post h' r as->jw h' h'=true/\dw h' r=true/\K r (gU st h0 args h' as)):fb P q st f args K:=by
 intro E ρ a w vs h hvs hrv;have hx1:=qZ (E:=E) (ρ:=ρ) hsub;refine(hs (kX E ρ st h0) ρ w vs (zG h hsub) (h.cn.mono λb ⟨id,W,L,g1,g2,g3⟩=>⟨id,W,L,hsub _ _ g1,g2,g3⟩) (λb hb=>vU h b (hx1 b (.inl hb))) (by simpa using hvs) (λj v x e1 e2=>?_)).mono ?_
 ·rw[List.getElem?_map]at e2;obtain⟨y,g1,rfl⟩:=acE.1 e2;exact(hrv j v y e1 g1).1.mono (λ_ _ _=>rfl) (λb _ hb hx=>hb (hx1 b hx)) _ (λ_ _ h=>h)
 ·rintro e w' ⟨v,h',r,ρ',as,rfl,hP,hH,hr,hal,has,q1,q2,q3,q4,q5,q6⟩;obtain⟨k1,k2,k3⟩:=hK h' r as hP;obtain⟨ρ2,g1,g2⟩:=zF h hvs hrv hsub k1 k2 hH hr (by simpa using hal) has q1 q2 q3 q4 q5 q6;refine⟨v,ρ2,_,r,rfl,g1,g2,k3,λhqq=>?_⟩;have h00:=hq hqq;subst h00;exact⟨q1,q2,q3,q4,λb hb=>q5 b hb fI⟩
end Go.Proofs.YtgghhaahnpbnmaaGreatDoor.Eng
namespace Go.Proofs.YtgghhaahnpbnmaaGreatDoor.Eng
inductive Res where
 | ok (c:Prop) (v:AV)
 | fail
def Res.To:Res->(AV->Prop)->Prop
 | .ok c v,K=>c/\K v
 | .fail,_=>False
def andR (c:Prop) (r:Res):Res:=
 match r with
 | .ok d v=>.ok (c/\d) v
 | .fail=>.fail
def stripV (v:AV):AV:=
 match v with
 | .gd _ x=>x
 | v=>v
def aq (γ:Bool) (v:AV):Prop:=
 match v with
 | .gd b _=>γ=true->b=true
 | _=>True
section
variable {γ:Bool} {st:St} {K:AV->Prop}
theorem zR {c:Prop} {r:Res}:(andR c r).To K↔c/\r.To K:=by cases r<;>simp[andR,Res.To,and_assoc]
theorem rG {v:AV}:strip γ v K↔aq γ v/\K (stripV v):=by cases v<;>simp[strip,aq,stripV]
def intR (γ:Bool) (op:BinOp) (k k':IntKind) (x y:Int):Res:=
 match op with
 | .shl=>.ok (γ=true->0<=y) (.int k (k.wrap (x*2^(min y.toNat k.bits))))
 | .shr=>.ok (γ=true->0<=y) (.int k (x.fdiv (2^(min y.toNat k.bits))))
 | .add=>.ok (k=k') (.int k (k.wrap (x+y)))
 | .sub=>.ok (k=k') (.int k (k.wrap (x-y)))
 | .mul=>.ok (k=k') (.int k (k.wrap (x*y)))
 | .quo=>.ok (k=k'/\(γ=true->y≠0)) (.int k (k.wrap (x.tdiv y)))
 | .rem=>.ok (k=k'/\(γ=true->y≠0)) (.int k (x.tmod y))
 | .and=>.ok (k=k') (.int k (bits .and k x y))
 | .or=>.ok (k=k') (.int k (bits .or k x y))
 | .xor=>.ok (k=k') (.int k (bits .xor k x y))
 | .andNot=>.ok (k=k') (.int k (bits .andNot k x y))
 | .eql=>.ok (k=k') (.bool (decide (x=y)))
 | .neq=>.ok (k=k') (.bool (!decide (x=y)))
 | .lss=>.ok (k=k') (.bool (decide (x<y)))
 | .leq=>.ok (k=k') (.bool (decide (x<=y)))
 | .gtr=>.ok (k=k') (.bool (decide (y<x)))
 | .geq=>.ok (k=k') (.bool (decide (y<=x)))
theorem QZ {op:BinOp} {k k':IntKind} {x y:Int} (h:(intR γ op k k' x y).To K):intBin γ op k k' x y K:=by
 cases op<;>simpa[intR,Res.To,intBin,and_assoc]using h
def kj (γ:Bool) (op:BinOp) (x y:List UInt8):Res:=
 match op with
 | .add=>.ok (γ=true->x.length+y.length<=9223372036854775807) (.str (x++y))
 | .eql=>.ok True (.bool (x==y))
 | .neq=>.ok True (.bool (!(x==y)))
 | .lss=>.ok True (.bool (Op.bytesLess x y))
 | .leq=>.ok True (.bool (Op.bytesLess x y||x==y))
 | .gtr=>.ok True (.bool (!(Op.bytesLess x y||x==y)))
 | .geq=>.ok True (.bool (!Op.bytesLess x y))
 | _=>.fail
theorem Z0 {op:BinOp} {x y:List UInt8} (h:(kj γ op x y).To K):strBin γ op x y K:=by
 cases op<;>first | exact h.2 | exact h | exact h.elim
def iP (op:BinOp) (k k':FloatKind) (x y:Nat):Res:=
 match op with
 | .add=>.ok (k=k'/\(k.format.add x y).isSome=true) (.fl k ((k.format.add x y).getD 0))
 | .sub=>.ok (k=k'/\(k.format.sub x y).isSome=true) (.fl k ((k.format.sub x y).getD 0))
 | .mul=>.ok (k=k'/\(k.format.mul x y).isSome=true) (.fl k ((k.format.mul x y).getD 0))
 | .eql=>.ok (k=k') (.bool (k.format.order x y==some .eq))
 | .neq=>.ok (k=k') (.bool (k.format.order x y != some .eq))
 | .lss=>.ok (k=k') (.bool (k.format.order x y==some .lt))
 | .gtr=>.ok (k=k') (.bool (k.format.order x y==some .gt))
 | .leq=>.ok (k=k') (.bool (k.format.order x y==some .lt||k.format.order x y==some .eq))
 | .geq=>.ok (k=k') (.bool (k.format.order x y==some .gt||k.format.order x y==some .eq))
 | _=>.fail
theorem xA {o:Option Nat} (h:o.isSome=true):o=some (o.getD 0):=by cases o<;>simp_all
theorem Oh {op:BinOp} {k k':FloatKind} {x y:Nat} (h:(iP op k k' x y).To K):xq op k k' x y K:=by
 cases op<;>first | exact h.elim | exact h | exact⟨h.1.1,_,xA h.1.2,h.2⟩
def mK (op:BinOp) (k k':FloatKind) (a b c d:Nat):Res:=
 match op with
 | .add=>.ok (k=k'/\(k.format.add a c).isSome=true/\(k.format.add b d).isSome=true) (.cx k ((k.format.add a c).getD 0) ((k.format.add b d).getD 0))
 | .sub=>.ok (k=k'/\(k.format.sub a c).isSome=true/\(k.format.sub b d).isSome=true) (.cx k ((k.format.sub a c).getD 0) ((k.format.sub b d).getD 0))
 | .eql=>.ok (k=k') (.bool (k.format.order a c==some .eq&&k.format.order b d==some .eq))
 | .neq=>.ok (k=k') (.bool (!(k.format.order a c==some .eq&&k.format.order b d==some .eq)))
 | _=>.fail
theorem L7 {op:BinOp} {k k':FloatKind} {a b c d:Nat} (h:(mK op k k' a b c d).To K):wP op k k' a b c d K:=by
 cases op<;>first | exact h.elim | exact h | exact⟨h.1.1,_,_,xA h.1.2.1,xA h.1.2.2,h.2⟩
def binR (γ:Bool) (op:BinOp) (x y:AV):Res:=
 match x,y with
 | .int k a,.int k' b=>intR γ op k k' a b
 | .str a,.str b=>kj γ op a b
 | .fl k a,.fl k' b=>iP op k k' a b
 | .cx k a b,.cx k' c d=>mK op k k' a b c d
 | _,_=>.fail
theorem JQ {op:BinOp} {x y:AV} (h:(binR γ op x y).To K):abin γ op x y K:=by
 unfold binR at h;split at h;exact QZ h;exact Z0 h;exact Oh h;exact L7 h;exact h.elim
def pick2 (γ β:Bool) (x y a b:AV):Res:=
 match a,b with
 | .bool p,.bool q=>.ok ((γ=true->β=true->aq true x)/\(γ=true->β=false->aq true y)) (.bool (if β then p else q))
 | .bool p,_=>.ok (γ=true->β=true/\aq true x) (.bool p)
 | _,.bool q=>.ok (γ=true->β=false/\aq true y) (.bool q)
 | _,_=>.fail
def pickR (γ:Bool) (c x y:AV):Res:=
 match c with
 | .bool β=>pick2 γ β x y (stripV x) (stripV y)
 | _=>.fail
def beqR (neg:Bool) (a b:AV):Res:=
 match a,b with
 | .bool a,.bool b=>.ok True (.bool (if neg then !(a==b)else a==b))
 | _,_=>.fail
def aeqR (γ neg:Bool) (ks:List Nat) (a b:AV):Res:=
 match a,b with
 | .agg cs,.agg ds=>.ok (γ=true->eqOKs ks cs ds=true) (.bool (if neg then !(eqCs cs ds)else eqCs cs ds))
 | _,_=>.fail
def unR (op:UnOp) (x:AV):Res:=
 match op,x with
 | .not,.bool b=>.ok True (.bool (!b))
 | .neg,.int k n=>.ok True (.int k (k.wrap (0-n)))
 | .xor,.int k n=>.ok True (.int k (bits .xor k (if k.signed then -1 else k.max) n))
 | _,_=>.fail
def cviR (k:IntKind) (a:AV):Res:=
 match a with
 | .int _ n=>.ok True (.int k (k.wrap n))
 | _=>.fail
def sF (k:FloatKind) (a:AV):Res:=
 match a with
 | .int _ n=>.ok True (.fl k (k.nearest n))
 | _=>.fail
def cfiR (γ:Bool) (k:IntKind) (a:AV):Res:=
 match a with
 | .fl s b=>.ok (γ=true->(floatToIntVal s b k).isSome=true) (.int k ((floatToIntVal s b k).getD 0))
 | _=>.fail
def cstR (a:AV):Res:=
 match a with
 | .str s=>.ok True (.str s)
 | _=>.fail
def btsR (γ:Bool) (o:Option (List AV)):Res:=
 match o with
 | some es=>.ok (γ=true->gw es=true) (.str (bytesOf es))
 | none=>.fail
def cplxR (a b:AV):Res:=
 match a,b with
 | .fl k a,.fl k' b=>.ok (k=k') (.cx k a b)
 | _,_=>.fail
def reR (a:AV):Res:=
 match a with
 | .cx k a _=>.ok True (.fl k a)
 | _=>.fail
def tS (a:AV):Res:=
 match a with
 | .cx k _ b=>.ok True (.fl k b)
 | _=>.fail
def lenR (str:Bool) (x:AV):Res:=
 match str,x with
 | true,.str l=>.ok True (.int .i64 l.length)
 | false,.ro _ es=>.ok True (.int .i64 es.length)
 | false,.sl _ _ n=>.ok True (.int .i64 n)
 | false,.an=>.ok True (.int .i64 0)
 | _,_=>.fail
def mmR (mx:Bool) (x y:AV):Res:=
 match x,y with
 | .int k a,.int _ b=>.ok True (.int k (if mx then(if b > a then b else a)else(if b<a then b else a)))
 | _,_=>.fail
def extR (a:AV) (i:Nat):Res:=
 match a with
 | .ab vs=>.ok (i<vs.length) (vs.getD i .undef)
 | _=>.fail
def nilcR (a:AV):Res:=
 match a with
 | .ao e=>.ok True (.ao e)
 | .aa id f=>.ok True (.aa id f)
 | _=>.fail
def idxW (γ:Bool) (sz:Nat) (W:Option aC) (id off n:Nat) (i:Int):Res:=
 match W with
 | some (.arr sz' _)=>.ok ((γ=true->0<=i/\i<n)/\0<sz/\sz'=sz) (.ptr id (off+i.toNat) 0)
 | _=>.fail
def idxR (γ:Bool) (st:St) (sz:Nat) (x i:AV):Res:=
 match x,i with
 | .ro sz' es,.int _ i=>.ok ((γ=true->0<=i/\i<es.length)/\0<sz/\sz'=sz) (.ao (nth es i.toNat))
 | .sl id off n,.int _ i=>idxW γ sz (hget st.h id) id off n i
 | _,_=>.fail
def sidxR (γ:Bool) (a b:AV):Res:=
 match a,b with
 | .str l,.int _ i=>.ok (γ=true->0<=i/\i<l.length) (.int .u8 (l.getD i.toNat 0).toNat)
 | _,_=>.fail
def ldcR (γ ag:Bool) (n:Nat) (cs:List AV):Res:=
 match ag with
 | true=>.ok (γ=true->n<=cs.length) (.agg (cs.take n))
 | false=>.ok (γ=true->0<cs.length) (cs.getD 0 .undef)
def ug (γ ag:Bool) (n i f:Nat) (W:Option aC):Res:=
 match W with
 | some (.arr _ es)=>ldcR γ ag n ((cellsOf (nth es i)).drop f)
 | _=>.fail
def ldV (γ ag:Bool) (n f:Nat) (W:Option aC):Res:=
 match W with
 | some (.var cs)=>ldcR γ ag n (cs.drop f)
 | _=>.fail
def ldR (γ:Bool) (st:St) (ag:Bool) (n:Nat) (x:AV):Res:=
 match x with
 | .ao e=>ldcR γ ag n (cellsOf e)
 | .ptr id i f=>ug γ ag n i f (hget st.h id)
 | .aa id f=>ldV γ ag n f (hget st.h id)
 | _=>.fail
inductive BR where
 | ok (c:Prop) (l h:Nat)
 | fail
def BR.To:BR->(Nat->Nat->Prop)->Prop
 | .ok c l h,K=>c/\K l h
 | .fail,_=>False
def sj (γ:Bool) (n:Nat) (c:Prop) (v:AV):BR:=
 match v with
 | .int _ l=>.ok (c/\(γ=true->0<=l/\l<=n)) l.toNat n
 | _=>.fail
def sk (γ:Bool) (n:Nat) (c:Prop) (v:AV):BR:=
 match v with
 | .int _ h=>.ok (c/\(γ=true->0<=h/\h<=n)) 0 h.toNat
 | _=>.fail
def sn (γ:Bool) (n:Nat) (c c':Prop) (v v':AV):BR:=
 match v,v' with
 | .int _ l,.int _ h=>.ok (c/\c'/\(γ=true->0<=l/\l<=h/\h<=n)) l.toNat h.toNat
 | _,_=>.fail
def bndR (γ:Bool) (st:St) (n:Nat) (lo hi:Option AE):BR:=
 match lo,hi with
 | none,none=>.ok True 0 n
 | some l,none=>sj γ n (aq γ (ev st l)) (stripV (ev st l))
 | none,some h=>sk γ n (aq γ (ev st h)) (stripV (ev st h))
 | some l,some h=>sn γ n (aq γ (ev st l)) (aq γ (ev st h)) (stripV (ev st l)) (stripV (ev st h))
theorem sw {n:Nat} {lo hi:Option AE} {K:Nat->Nat->Prop} (h:(bndR γ st n lo hi).To K):bnd γ st n lo hi K:=by
 unfold bndR at h;unfold bnd;split at h;exact h.2
 ·simp only[a7,rG];unfold sj at h;split at h
  ·rename_i hv;exact⟨h.1.1,by rw[hv];exact⟨h.1.2,h.2⟩⟩
  exact h.elim
 ·simp only[a7,rG];unfold sk at h;split at h
  ·rename_i hv;exact⟨h.1.1,by rw[hv];exact⟨h.1.2,h.2⟩⟩
  exact h.elim
 ·simp only[a7,rG];unfold sn at h;split at h
  ·rename_i hv hv';exact⟨h.1.1,h.1.2.1,by rw[hv,hv'];exact⟨h.1.2.2,h.2⟩⟩
  exact h.elim
def slcStrR (s:List UInt8) (b:BR):Res:=
 match b with
 | .ok c l h=>.ok c (.str ((s.drop l).take (h-l)))
 | .fail=>.fail
def u6 (γ:Bool) (st:St) (lo hi:Option AE) (a:AV):Res:=
 match a with
 | .str s=>slcStrR s (bndR γ st s.length lo hi)
 | _=>.fail
def rv (b:BR):Res:=
 match b with
 | .ok c _ _=>.ok c .an
 | .fail=>.fail
def ry (sz sz':Nat) (es:List AV) (b:BR):Res:=
 match b with
 | .ok c l h=>.ok (sz'=sz/\c) (.ro sz (aB es l (h-l)))
 | .fail=>.fail
def slcSlR (sz id off:Nat) (W:Option aC) (b:BR):Res:=
 match b,W with
 | .ok c l h,some (.arr sz' _)=>.ok (c/\sz'=sz) (.sl id (off+l) (h-l))
 | _,_=>.fail
def slcAR (γ:Bool) (st:St) (sz:Nat) (lo hi:Option AE) (a:AV):Res:=
 match a with
 | .an=>rv (bndR γ st 0 lo hi)
 | .ro sz' es=>ry sz sz' es (bndR γ st es.length lo hi)
 | .sl id off n=>slcSlR sz id off (hget st.h id) (bndR γ st n lo hi)
 | _=>.fail
def tp (off:Nat) (W:Option aC) (id i f:Nat):Res:=
 match W with
 | some (.arr sz _)=>.ok (f+off<sz) (.ptr id i (f+off))
 | _=>.fail
def tn (γ ag:Bool) (off n:Nat) (cs:List AV):Res:=
 match ag with
 | true=>.ok ((γ=true->off+n<=cs.length)/\0<n) (.ao (.agg ((cs.drop off).take n)))
 | false=>.ok ((γ=true->off+n<=cs.length)/\0<n/\n=1/\isCell (cs.getD off .undef)=true) (.ao (cs.getD off .undef))
def mU (γ:Bool) (st:St) (ag:Bool) (off n:Nat) (x:AV):Res:=
 match x with
 | .ao e=>tn γ ag off n (cellsOf e)
 | .ptr id i f=>tp off (hget st.h id) id i f
 | .aa id f=>.ok True (.aa id (f+off))
 | _=>.fail
def fldR (γ ag:Bool) (off n:Nat) (x:AV):Res:=
 match x with
 | .agg cs=>.ok ((γ=true->off+n<=cs.length)/\0<n) (if ag then .agg ((cs.drop off).take n)else cs.getD off .undef)
 | _=>.fail
def bldR (γ:Bool) (st:St):List (Nat×Nat×AE)->List AV->Res
 | [],cs=>.ok True (.agg cs)
 | (o,n,x)::r,cs=>andR (aq γ (ev st x)) (andR (γ=true->aD (stripV (ev st x))=true/\(cellsOf (stripV (ev st x))).length=n/\o+n<=cs.length) (bldR γ st r (cs.take o++cellsOf (stripV (ev st x))++cs.drop (o+n))))
def idxPR (γ:Bool) (len sz:Nat) (x i:AV):Res:=
 match x,i with
 | .aa id f,.int _ i=>.ok (γ=true->0<=i/\i<len) (.aa id (f+i.toNat*sz))
 | .ao (.agg cs),.int _ i=>.ok ((γ=true->0<=i/\i<len/\i<cs.length)/\sz=1/\isCell (cs.getD i.toNat .undef)=true) (.ao (cs.getD i.toNat .undef))
 | _,_=>.fail
def idxVR (γ:Bool) (len:Nat) (x i:AV):Res:=
 match x,i with
 | .agg cs,.int _ i=>.ok (γ=true->0<=i/\i<len/\i<cs.length) (cs.getD i.toNat .undef)
 | _,_=>.fail
def inilR (γ neg:Bool) (x:AV):Res:=
 match x with
 | .lit v=>.ok (γ=true->isIfV v=true) (.bool (if neg then !isNilV v else isNilV v))
 | _=>.fail
def pnilR (neg:Bool) (x:AV):Res:=
 match x with
 | .ao _=>.ok True (.bool neg)
 | .aa _ _=>.ok True (.bool neg)
 | .lit (.pointer none)=>.ok True (.bool (!neg))
 | _=>.fail
def u7 (γ neg:Bool) (n:Nat) (W:Option aC):Res:=
 match W with
 | some (.arr _ _)=>.ok (γ=true->0<n) (.bool neg)
 | _=>.fail
def snilR (γ:Bool) (st:St) (neg:Bool) (x:AV):Res:=
 match x with
 | .an=>.ok True (.bool (!neg))
 | .sl id _ n=>u7 γ neg n (hget st.h id)
 | .ro sz es=>.ok (γ=true->0<es.length/\0<sz) (.bool neg)
 | _=>.fail
def sQ (x:AV):Res:=
 match x with
 | .int _ n=>.ok True (.str (Utf8.encode n).data.toList)
 | _=>.fail
def mkiR (t:TypeId) (x:AV):Res:=
 match x with
 | .agg []=>.ok True (.lit (.iface t (.agg #[])))
 | .int k n=>.ok True (.lit (.iface t (.int k n)))
 | _=>.fail
def mlkW (kd:Option IntKind) (ok:Bool) (z:AV) (k:MK) (W:Option aC):Res:=
 match W with
 | some (.mp kd' l)=>.ok (kd'=kd/\MK.ok kd k) (qN ok z (mfind l k))
 | _=>.fail
def mlkK (st:St) (kd:Option IntKind) (ok:Bool) (z:AV) (id:Nat) (k:Option MK):Res:=
 match k with
 | some k=>mlkW kd ok z k (hget st.h id)
 | none=>.fail
def mlkR (st:St) (kd:Option IntKind) (ok:Bool) (z x i:AV):Res:=
 match x with
 | .ptr id _ _=>mlkK st kd ok z id (mkOf i)
 | _=>.fail
def r1 (γ:Bool) (x:AV) (r:Res):Res:=andR (aq γ x) r
def avalR (γ:Bool) (st:St) (o:AO):Res:=
 match o with
 | .fZ x=>andR (aq γ (ev st x)) (.ok True (stripV (ev st x)))
 | .pick c x y=>andR (aq γ (ev st c)) (pickR γ (stripV (ev st c)) (ev st x) (ev st y))
 | .bin op x y=>andR (aq γ (ev st x)) (andR (aq γ (ev st y)) (binR γ op (stripV (ev st x)) (stripV (ev st y))))
 | .beq neg x y=>andR (aq γ (ev st x)) (andR (aq γ (ev st y)) (beqR neg (stripV (ev st x)) (stripV (ev st y))))
 | .nR neg ks x y=>andR (aq γ (ev st x)) (andR (aq γ (ev st y)) (aeqR γ neg ks (stripV (ev st x)) (stripV (ev st y))))
 | .un op x=>andR (aq γ (ev st x)) (unR op (stripV (ev st x)))
 | .qf k x=>andR (aq γ (ev st x)) (cviR k (stripV (ev st x)))
 | .p7 k x=>andR (aq γ (ev st x)) (sF k (stripV (ev st x)))
 | .p6 k x=>andR (aq γ (ev st x)) (cfiR γ k (stripV (ev st x)))
 | .qd x=>andR (aq γ (ev st x)) (cstR (stripV (ev st x)))
 | .pY x=>andR (aq γ (ev st x)) (btsR γ (slE 1 st (stripV (ev st x))))
 | .qb x y=>andR (aq γ (ev st x)) (andR (aq γ (ev st y)) (cplxR (stripV (ev st x)) (stripV (ev st y))))
 | .re x=>andR (aq γ (ev st x)) (reR (stripV (ev st x)))
 | .im x=>andR (aq γ (ev st x)) (tS (stripV (ev st x)))
 | .len str x=>andR (aq γ (ev st x)) (lenR str (stripV (ev st x)))
 | .mm mx x y=>andR (aq γ (ev st x)) (andR (aq γ (ev st y)) (mmR mx (stripV (ev st x)) (stripV (ev st y))))
 | .ext x i=>andR (aq γ (ev st x)) (extR (stripV (ev st x)) i)
 | .qT x=>andR (aq γ (ev st x)) (nilcR (stripV (ev st x)))
 | .eL sz x i=>andR (aq γ (ev st x)) (andR (aq γ (ev st i)) (idxR γ st sz (stripV (ev st x)) (stripV (ev st i))))
 | .rp x i=>andR (aq γ (ev st x)) (andR (aq γ (ev st i)) (sidxR γ (stripV (ev st x)) (stripV (ev st i))))
 | .ld ag n x=>andR (aq γ (ev st x)) (ldR γ st ag n (stripV (ev st x)))
 | .rz x lo hi=>andR (aq γ (ev st x)) (u6 γ st lo hi (stripV (ev st x)))
 | .ru sz x lo hi=>andR (aq γ (ev st x)) (slcAR γ st sz lo hi (stripV (ev st x)))
 | .qo ag off n x=>andR (aq γ (ev st x)) (mU γ st ag off n (stripV (ev st x)))
 | .qn ag off n x=>andR (aq γ (ev st x)) (fldR γ ag off n (stripV (ev st x)))
 | .nW z ps=>bldR γ st ps z
 | .qA len sz x i=>andR (aq γ (ev st x)) (andR (aq γ (ev st i)) (idxPR γ len sz (stripV (ev st x)) (stripV (ev st i))))
 | .qB len x i=>andR (aq γ (ev st x)) (andR (aq γ (ev st i)) (idxVR γ len (stripV (ev st x)) (stripV (ev st i))))
 | .o9 neg x=>andR (aq γ (ev st x)) (snilR γ st neg (stripV (ev st x)))
 | .oI neg x=>andR (aq γ (ev st x)) (inilR γ neg (stripV (ev st x)))
 | .oU neg x=>andR (aq γ (ev st x)) (pnilR neg (stripV (ev st x)))
 | .qL t x=>andR (aq γ (ev st x)) (mkiR t (stripV (ev st x)))
 | .qK f xs=>.ok (nG (xs.map (ev st))=true) (.aA f (xs.map (ev st)))
 | .qg x=>andR (aq γ (ev st x)) (sQ (stripV (ev st x)))
 | .qM kd ok z x i=>andR (aq γ (ev st x)) (andR (aq γ (ev st i)) (mlkR st kd ok z (stripV (ev st x)) (stripV (ev st i))))
 | _=>.fail
end
end Go.Proofs.YtgghhaahnpbnmaaGreatDoor.Eng
namespace Go.Proofs.YtgghhaahnpbnmaaGreatDoor.Eng
section
variable {γ:Bool} {st:St} {K:AV->Prop}
theorem WT {x y:AV} {β:Bool} (h:(pickR γ (.bool β) x y).To K):pickM γ β x y K:=by
 have hx:∀z:AV,(unGd z).2=stripV z:=λz=>by cases z<;>rfl
 have hc:∀z:AV,aq true z->(unGd z).1=true:=λz=>by cases z<;>simp[aq,unGd]
 simp only[pickR,pick2]at h;unfold pickM;rw[hx,hx];split at h
 ·rename_i e2 e3;obtain⟨⟨h1,h2⟩,h3⟩:=h;rw[e2,e3];exact⟨λg g'=>hc _ (h1 g g'),λg g'=>hc _ (h2 g g'),h3⟩
 ·rename_i p e2 hne;obtain⟨h1,h3⟩:=h;rw[e2];generalize stripV y=b at hne;cases b<;>first | exact(hne _ rfl).elim | exact⟨λg=>⟨(h1 g).1,hc _ (h1 g).2⟩,h3⟩
 ·rename_i q e2 hne;obtain⟨h1,h3⟩:=h;rw[e2];generalize stripV x=b at hne;cases b<;>first | exact(hne _ rfl).elim | exact⟨λg=>⟨(h1 g).1,hc _ (h1 g).2⟩,h3⟩
 exact h.elim
theorem xX {ag:Bool} {n:Nat} {cs:List AV} (h:(ldcR γ ag n cs).To K):j4 γ ag n cs K:=by
 cases ag<;>simpa[ldcR,Res.To,j4]using h
theorem Qy {sz:Nat} {x i:AV} (h:(idxR γ st sz x i).To K):avalIdx γ st sz x i K:=by
 unfold idxR at h;unfold avalIdx;split at h
 ·obtain⟨⟨h1,h2,h3⟩,h4⟩:=h;exact⟨h1,h2,h3,h4⟩
 ·unfold idxW at h;split at h
  ·rename_i e;obtain⟨⟨h1,h2,h3⟩,h4⟩:=h;refine⟨h1,h2,?_⟩;simp only[e];exact⟨h3,h4⟩
  exact h.elim
 exact h.elim
theorem TG {ag:Bool} {n:Nat} {x:AV} (h:(ldR γ st ag n x).To K):avalLd γ st ag n x K:=by
 unfold ldR at h;unfold avalLd;split at h;exact xX h
 ·unfold ug at h;split at h
  ·rename_i e;simp only[e];exact xX h
  exact h.elim
 ·unfold ldV at h;split at h
  ·rename_i e;simp only[e];exact xX h
  exact h.elim
 exact h.elim
theorem Za {sz:Nat} {lo hi:Option AE} {x:AV} (h:(slcAR γ st sz lo hi x).To K):mB γ st sz x lo hi K:=by
 unfold slcAR at h;unfold mB;split at h
 ·refine sw ?_;unfold rv at h;split at h
  ·rename_i e;rw[e];exact h
  exact h.elim
 ·unfold ry at h;split at h
  ·rename_i e;exact⟨h.1.1,sw (by rw[e];exact⟨h.1.2,h.2⟩)⟩
  exact h.elim
 ·unfold slcSlR at h;split at h
  ·rename_i e1 e2;exact sw (by rw[e1];refine⟨h.1.1,?_⟩;simp only[e2];exact⟨h.1.2,h.2⟩)
  exact h.elim
 exact h.elim
theorem Ov {ag:Bool} {off n:Nat} {x:AV} (h:(mU γ st ag off n x).To K):nU γ st ag off n x K:=by
 unfold mU at h;unfold nU;split at h
 ·cases ag with
  | true=>obtain⟨⟨h1,h2⟩,h3⟩:=h;exact⟨h1,h2,(λe=>by cases e),h3⟩
  | false=>obtain⟨⟨h1,h2,h3⟩,h4⟩:=h;exact⟨h1,h2,λ_=>h3,h4⟩
 ·unfold tp at h;split at h
  ·rename_i e;simp only[e];exact h
  exact h.elim
 exact h.2;exact h.elim
theorem aaU {op:UnOp} {x:AV} (h:(unR op x).To K):avalUn op x K:=by
 unfold unR at h;unfold avalUn;split at h<;>first | exact h.elim | exact h.2
theorem TV {s:Bool} {x:AV} (h:(lenR s x).To K):avalLen s x K:=by
 unfold lenR at h;unfold avalLen;split at h<;>first | exact h.elim | exact h.2
theorem UH {s:Bool} {x y:AV} (h:(mmR s x y).To K):nV s x y K:=by
 unfold mmR at h;unfold nV;split at h<;>first | exact h.elim | exact h.2
theorem AL:∀(ps:List (Nat×Nat×AE)) (cs:List AV),(bldR γ st ps cs).To K->bldC γ st ps cs K
 | [],cs,h=>h.2
 | (o,n,x)::r,cs,h=>by
  unfold bldR at h;simp only[zR]at h;unfold bldC;simp only[a7,rG];exact⟨h.1,h.2.1,AL r _ h.2.2⟩
theorem Zl {neg:Bool} {x:AV} (h:(snilR γ st neg x).To K):snilC γ st neg x K:=by
 unfold snilR at h;unfold snilC;split at h;exact h.2
 ·unfold u7 at h;split at h
  ·rename_i e;refine⟨h.1,?_⟩;simp only[e];exact h.2
  exact h.elim
 exact h;exact h.elim
theorem UD {kd:Option IntKind} {ok:Bool} {z x i:AV} (h:(mlkR st kd ok z x i).To K):mlkC st kd ok z x i K:=by
 unfold mlkR at h;unfold mlkC;split at h
 ·unfold mlkK at h;split at h
  ·rename_i e;simp only[e];unfold mlkW at h;split at h
   ·rename_i e2;simp only[e2];exact h
   exact h.elim
  exact h.elim
 exact h.elim
theorem Al {o:AO} (h:(avalR γ st o).To K):aval γ st o K:=by
 cases o<;>simp only[avalR,zR]at h<;>simp only[aval,a7,rG]<;>first | exact h.elim | skip
 exact⟨h.1,h.2.2⟩
 ·refine⟨h.1,?_⟩;generalize stripV _=c at h |-;have h2:=h.2
  cases c with
  | bool β=>exact WT h2
  | _=>exact h2.elim
 exact⟨h.1,h.2.1,JQ h.2.2⟩
 ·refine⟨h.1,h.2.1,?_⟩;have h2:=h.2.2;unfold beqR at h2;split at h2
  ·rename_i e1 e2;rw[e1,e2];exact h2.2
  exact h2.elim
 ·refine⟨h.1,h.2.1,?_⟩;have h2:=h.2.2;unfold aeqR at h2;split at h2
  ·rename_i e1 e2;rw[e1,e2];exact h2
  exact h2.elim
 exact⟨h.1,aaU h.2⟩
 ·refine⟨h.1,?_⟩;have h2:=h.2;unfold cviR at h2;split at h2
  ·rename_i e;rw[e];exact h2.2
  exact h2.elim
 ·refine⟨h.1,?_⟩;have h2:=h.2;unfold sF at h2;split at h2
  ·rename_i e;rw[e];exact h2.2
  exact h2.elim
 ·refine⟨h.1,?_⟩;have h2:=h.2;unfold cfiR at h2;split at h2
  ·rename_i e;rw[e];exact h2
  exact h2.elim
 ·refine⟨h.1,?_⟩;have h2:=h.2;unfold cstR at h2;split at h2
  ·rename_i e;rw[e];exact h2.2
  exact h2.elim
 ·refine⟨h.1,?_⟩;have h2:=h.2;unfold btsR at h2;unfold avalBts;split at h2
  ·rename_i e;rw[e];exact h2
  exact h2.elim
 ·refine⟨h.1,h.2.1,?_⟩;have h2:=h.2.2;unfold cplxR at h2;split at h2
  ·rename_i e1 e2;rw[e1,e2];exact h2
  exact h2.elim
 ·refine⟨h.1,?_⟩;have h2:=h.2;unfold reR at h2;split at h2
  ·rename_i e;rw[e];exact h2.2
  exact h2.elim
 ·refine⟨h.1,?_⟩;have h2:=h.2;unfold tS at h2;split at h2
  ·rename_i e;rw[e];exact h2.2
  exact h2.elim
 exact⟨h.1,TV h.2⟩;exact⟨h.1,h.2.1,UH h.2.2⟩
 ·refine⟨h.1,?_⟩;have h2:=h.2;unfold extR at h2;split at h2
  ·rename_i e;rw[e];exact h2
  exact h2.elim
 ·refine⟨h.1,?_⟩;have h2:=h.2;unfold nilcR at h2;split at h2<;>first | (rename_i e;rw[e];exact h2.2) | exact h2.elim
 exact⟨h.1,h.2.1,Qy h.2.2⟩
 ·refine⟨h.1,h.2.1,?_⟩;have h2:=h.2.2;unfold sidxR at h2;split at h2
  ·rename_i e1 e2;rw[e1,e2];exact h2
  exact h2.elim
 exact⟨h.1,TG h.2⟩
 ·refine⟨h.1,?_⟩;have h2:=h.2;unfold u6 at h2;split at h2
  ·rename_i e;rw[e];unfold slcStrR at h2;split at h2
   ·rename_i e2;exact sw (by rw[e2];exact h2)
   exact h2.elim
  exact h2.elim
 exact⟨h.1,Za h.2⟩;exact AL _ _ h;exact⟨h.1,Ov h.2⟩
 ·refine⟨h.1,?_⟩;have h2:=h.2;unfold fldR at h2;split at h2
  ·rename_i e;rw[e];exact⟨h2.1.1,h2.1.2,h2.2⟩
  exact h2.elim
 ·refine⟨h.1,h.2.1,?_⟩;have h2:=h.2.2;unfold idxPR at h2;split at h2
  ·rename_i e1 e2;rw[e1,e2];exact h2
  ·rename_i e1 e2;rw[e1,e2];exact h2
  exact h2.elim
 ·refine⟨h.1,h.2.1,?_⟩;have h2:=h.2.2;unfold idxVR at h2;split at h2
  ·rename_i e1 e2;rw[e1,e2];exact h2
  exact h2.elim
 exact⟨h.1,Zl h.2⟩
 ·refine⟨h.1,?_⟩;have h2:=h.2;unfold inilR at h2;unfold inilC;split at h2
  ·rename_i e;rw[e];exact h2
  exact h2.elim
 ·refine⟨h.1,?_⟩;have h2:=h.2;unfold pnilR at h2;unfold pnilC;split at h2
  ·rename_i e;rw[e];exact h2.2
  ·rename_i e;rw[e];exact h2.2
  ·rename_i e;rw[e];exact h2.2
  exact h2.elim
 ·refine⟨h.1,?_⟩;have h2:=h.2;unfold mkiR at h2;split at h2
  ·rename_i e;rw[e];exact h2.2
  ·rename_i e;rw[e];exact h2.2
  exact h2.elim
 ·refine⟨h.1,?_⟩;have h2:=h.2;unfold sQ at h2;split at h2
  ·rename_i e;rw[e];exact h2.2
  exact h2.elim
 exact h;exact⟨h.1,h.2.1,UD h.2.2⟩
end
inductive RS where
 | ok (c:Prop) (v:AV) (st:St)
 | fail
def RS.To:RS->(AV->St->Prop)->Prop
 | .ok c v st,K=>c/\K v st
 | .fail,_=>False
inductive RL where
 | ok (c:Prop) (vs:List AV) (st:St)
 | fail
def keepSl (st:St) (id o n:Nat) (W:Option aC):RS:=
 match W with
 | some (.arr sz es)=>.ok True (.ro sz (aB es o n)) (freeze st id)
 | _=>.fail
def keepR (st:St) (v:AV):RS:=
 match v with
 | .sl id o n=>keepSl st id o n (hget st.h id)
 | v=>.ok (bF v=true/\aD v=true) v st
def rl2 (c:Prop) (v:AV) (r:RL):RL:=
 match r with
 | .ok d vs st=>.ok (c/\d) (v::vs) st
 | .fail=>.fail
def keepLR:List AE->St->RL
 | [],st=>.ok True [] st
 | x::r,st=>match keepR st (ev st x)with
  | .ok c v st1=>rl2 c v (keepLR r st1)
  | .fail=>.fail
def yR (r:List AE) (s:RS):RL:=
 match s with
 | .ok c v st1=>rl2 c v (keepLR r st1)
 | .fail=>.fail
theorem RZ (st:St):keepLR [] st=.ok True [] st:=rfl
theorem RY (x:AE) (r:List AE) (st:St):keepLR (x::r) st=yR r (keepR st (ev st x)):=rfl
theorem R8 {st:St} {v:AV} {K:AV->St->Prop} (h:(keepR st v).To K):keepV st v K:=by
 unfold keepR at h;unfold keepV;split at h
 ·unfold keepSl at h;split at h
  ·rename_i e;simp only[e];exact h.2
  exact h.elim
 ·obtain⟨⟨h1,h2⟩,h3⟩:=h;split
  ·rename_i hne;exact(hne _ _ _ rfl).elim
  exact⟨h1,h2,h3⟩
theorem DH {st:St} {v v':AV} {st':St} {c:Prop} {K:AV->St->Prop} (h:keepR st v=.ok c v' st') (hc:c) (hk:K v' st'):keepV st v K:=
 R8 (by rw[h];exact⟨hc,hk⟩)
theorem DF:∀(l:List AE) {st st':St} {c:Prop} {vs:List AV} {K:List AV->St->Prop},keepLR l st=.ok c vs st'->c->K vs st'->qE st l K
 | [],st,st',c,vs,K,h,hc,hk=>by
  simp only[keepLR,RL.ok.injEq]at h;obtain⟨_,rfl,rfl⟩:=h
  exact hk
 | x::r,st,st',c,vs,K,h,hc,hk=>by
  simp only[keepLR]at h;split at h
  ·rename_i c1 v st1 e1;unfold rl2 at h;split at h
   ·rename_i d vs' st2 e2;simp only[RL.ok.injEq]at h;obtain⟨rfl,rfl,rfl⟩:=h;exact DH e1 hc.1 (DF r e2 hc.2 hk)
   ·cases h
  ·cases h
def pX (id sz:Nat) (r:RL):RS:=
 match r with
 | .ok c es st'=>.ok (c/\es.all (λe=>(cellsOf e).length==sz)=true) (.sl id 0 es.length) (bL st' id (.arr sz es))
 | .fail=>.fail
def sf (st:St) (sz bytes id off n:Nat) (xs:List AV) (W:Option aC):RS:=
 match W with
 | some (.arr sz' es)=>.ok (xs.all aD=true/\sz'=sz/\(aB es off n).all aD=true/\(n+xs.length)*bytes<=140737488355328/\n+xs.length<=9223372036854775807) (.sl id 0 (n+xs.length)) (bL st id (.arr sz (aB es off n++xs)))
 | _=>.fail
def appR (d:Nat) (st:St) (sz bytes:Nat) (s:AV) (xs:Option (List AV)):RS:=
 match xs,s with
 | some xs,.an=>.ok (xs.all aD=true/\xs.length*bytes<=140737488355328/\xs.length<=9223372036854775807) (.sl d 0 xs.length) (bL st d (.arr sz xs))
 | some xs,.sl id off n=>sf st sz bytes id off n xs (hget st.h id)
 | _,_=>.fail
theorem IA {d:Nat} {st:St} {sz bytes:Nat} {s x:AV} {K:AV->St->Prop} (h:(appR d st sz bytes s (srcE sz st x)).To K):effApp d st sz bytes s x K:=by
 unfold appR at h;unfold effApp;split at h
 ·rename_i e;simp only[e];exact⟨h.1.1,h.1.2.1,h.1.2.2,h.2⟩
 ·rename_i e;unfold sf at h;split at h
  ·rename_i e2;simp only[e,e2];exact⟨h.1.1,h.1.2.1,h.1.2.2.1,h.1.2.2.2.1,h.1.2.2.2.2,h.2⟩
  exact h.elim
 exact h.elim
def vc (st:St) (n id i f:Nat) (v:AV) (W:Option aC):RS:=
 match W with
 | some (.arr sz es)=>.ok ((cellsOf v).length=n/\0<n/\f+n<=sz) .undef ⟨st.s,bo st.h id (.arr sz (es.set i (jG (nth es i) f v)))⟩
 | _=>.fail
def rE (n id i f:Nat) (c:Prop) (v:AV) (st:St) (r:RS):RS:=
 match r with
 | .ok d u st'=>.ok (c/\d) u st'
 | .fail=>.fail
def rD (n id i f:Nat) (r:RS):RS:=
 match r with
 | .ok c v st=>rE n id i f c v st (vc st n id i f v (hget st.h id))
 | .fail=>.fail
def stV (st:St) (n id f:Nat) (v:AV) (W:Option aC):RS:=
 match W with
 | some (.var cs)=>.ok (aD v=true/\(cellsOf v).length=n/\f+n<=cs.length) .undef ⟨st.s,bo st.h id (.var (bV cs f (cellsOf v)))⟩
 | _=>.fail
def stR (st:St) (n:Nat) (x v:AV):RS:=
 match x with
 | .ptr id i f=>rD n id i f (keepR st v)
 | .aa id f=>stV st n id f v (hget st.h id)
 | _=>.fail
theorem ZO {st:St} {n:Nat} {x v:AV} {K:AV->St->Prop} (h:(stR st n x v).To K):effSt st n x v K:=by
 unfold stR at h;unfold effSt;split at h
 ·unfold rD at h;split at h
  ·rename_i c v' st' e;unfold rE at h;split at h
   ·rename_i d u st2 e2;unfold vc at e2;split at e2
    ·rename_i e3;simp only[RS.ok.injEq]at e2;obtain⟨rfl,rfl,rfl⟩:=e2;obtain⟨⟨h1,h2,h3,h4⟩,h5⟩:=h;exact DH e h1 ⟨h2,h3,by simp only[e3];exact⟨h4,h5⟩⟩
    ·cases e2
   exact h.elim
  exact h.elim
 ·unfold stV at h;split at h
  ·rename_i e;simp only[e];exact⟨h.1.1,h.1.2.1,h.1.2.2,h.2⟩
  exact h.elim
 exact h.elim
def stbR (st:St) (id:Nat) (v:AV):RS:=
 match v with
 | .str l=>.ok True (.sl id 0 l.length) (bL st id (.arr 1 (l.map ub)))
 | _=>.fail
def mksR (id:Nat) (st:St) (sz bytes:Nat) (z:List AV) (l c:AV):RS:=
 match l,c with
 | .int .i64 n,.int .i64 m=>.ok (0<=n/\m=n/\n<=16777216/\n*bytes<=16777216/\z.all noRefC=true/\z.length=sz) (.sl id 0 n.toNat) (bL st id (.arr sz (List.replicate n.toNat (packC z))))
 | _,_=>.fail
def mupW (st:St) (id:Nat) (kd:Option IntKind) (k:MK) (v:AV) (W:Option aC):RS:=
 match W with
 | some (.mp kd' l)=>.ok (kd'=kd/\MK.ok kd k/\bF v=true) .undef ⟨st.s,bo st.h id (.mp kd (mput l k v))⟩
 | _=>.fail
def mupK (st:St) (id:Nat) (kd:Option IntKind) (k:Option MK) (v:AV):RS:=
 match k with
 | some k=>mupW st id kd k v (hget st.h id)
 | none=>.fail
def mupR (st:St) (kd:Option IntKind) (x k v:AV):RS:=
 match x with
 | .ptr id _ _=>mupK st id kd (mkOf k) v
 | _=>.fail
def effR (id:Nat) (st:St) (o:AO):RS:=
 match o with
 | .alloc z=>.ok (z.all noRefC=true) (.aa id 0) (bL st id (.var (z.map (killC id))))
 | .box n x=>.ok (aD (ev st x)=true/\(cellsOf (ev st x)).length=n) (.aa id 0) (bL st id (.var ((cellsOf (ev st x)).map (killC id))))
 | .mE sz xs=>pX id sz (keepLR xs st)
 | .app sz bytes s x=>appR id st sz bytes (ev st s) (srcE sz st (ev st x))
 | .st n x v=>stR st n (ev st x) (ev st v)
 | .nz x=>stbR st id (ev st x)
 | .ni sz bytes z l c=>mksR id st sz bytes z (ev st l) (ev st c)
 | .nh kd=>.ok True (.ptr id 0 0) (bL st id (.mp kd []))
 | .nj kd x k v=>mupR st kd (ev st x) (ev st k) (ev st v)
 | _=>.fail
theorem Nf {id:Nat} {st:St} {o:AO} {K:AV->St->Prop} (h:(effR id st o).To K):eff id st o K:=by
 unfold effR at h;unfold eff;split at h;exact h;exact⟨h.1.1,h.1.2,h.2⟩
 ·unfold pX at h;split at h
  ·rename_i e;exact DF _ e h.1.1 ⟨h.1.2,h.2⟩
  exact h.elim
 exact IA h;exact ZO h
 ·unfold stbR at h;split at h
  ·rename_i e;simp only[e];exact h.2
  exact h.elim
 ·unfold mksR at h;split at h
  ·rename_i e1 e2;simp only[e1,e2];exact h
  exact h.elim
 exact h.2
 ·unfold mupR at h;unfold effMup;split at h
  ·rename_i e1;unfold mupK at h;split at h
   ·rename_i e2;unfold mupW at h;split at h
    ·rename_i e3;simp only[e1,e2,e3];exact h
    exact h.elim
   exact h.elim
  exact h.elim
 exact h.elim
end Go.Proofs.YtgghhaahnpbnmaaGreatDoor.Eng
namespace Go.Proofs.YtgghhaahnpbnmaaGreatDoor.Eng
def rn (id id' i:Nat):Nat:=bif i==id then id' else i
def bS (id id':Nat):AV->AV
 | .sl i o n=>.sl (rn id id' i) o n
 | .ptr i j f=>.ptr (rn id id' i) j f
 | .aa i f=>.aa (rn id id' i) f
 | .agg _=>.undef
 | .ab _=>.undef
 | .gd _ _=>.undef
 | .aA _ _=>.undef
 | x=>x
def cH (id id':Nat):AV->AV
 | .agg cs=>.agg (cs.map (bS id id'))
 | .aA f cs=>.aA f (cs.map (bS id id'))
 | x=>bS id id' x
def dF (id id':Nat):AV->AV
 | .ab cs=>.ab (cs.map (cH id id'))
 | .gd b x=>.gd b (cH id id' x)
 | x=>cH id id' x
def l7 (id id':Nat):aC->aC
 | .arr sz es=>.arr sz es
 | .var cs=>.var (cs.map λc=>bS id id' (killC id' c))
 | .mp kd l=>.mp kd l
def renS (id id':Nat):List (Nat×AV)->List (Nat×AV)
 | []=>[]
 | (k,v)::r=>(k,dF id id' (kill id' v))::renS id id' r
def renH (id id':Nat):HP->HP
 | []=>[]
 | (k,W)::r=>(rn id id' k,l7 id id' W)::renH id id' r
def vb (id id':Nat) (st:St):St:=⟨renS id id' st.s,renH id id' st.h⟩
theorem uU {id id' i:Nat} (h:i≠id):rn id id' i=i:=by unfold rn;rw[show(i==id)=false by simp[h]];rfl
theorem uT {id id':Nat}:rn id id' id=id':=by unfold rn;simp
theorem F3 (id id' j:Nat):∀s,sget (renS id id' s) j=(sget s j).map λv=>dF id id' (kill id' v)
 | []=>rfl
 | (k,v)::r=>by
  simp only[renS,sget,F3 id id' j r];split<;>simp
theorem Da (id id' j:Nat) (hne:id≠id'):∀h,hget h id'=none->hget (renH id id' h) j=if j=id' then(hget h id).map (l7 id id')else if j=id then none else(hget h j).map (l7 id id')
 | [],_=>by simp[renH,hget]
 | (k,W)::r,h0=>by
  simp only[hget]at h0;split at h0
  ·cases h0
  ·rename_i hk;have ih:=Da id id' j hne r h0;simp only[renH,hget];by_cases hkid:k=id
   ·subst hkid;rw[uT];by_cases hj:j=id'
    ·simp[hj]
    ·rw[if_neg hj,if_neg hj,ih,if_neg hj];split;rfl
     rfl
   ·rw[uU hkid];by_cases hj:j=id'
    ·subst hj;rw[if_neg hk,ih];simp[Ne.symm hkid]
    ·rw[if_neg hj,ih,if_neg hj];by_cases hjk:j=k
     ·subst hjk;simp[hkid]
     ·rw[if_neg hjk,if_neg hjk]
section
variable {X:Nat->Prop} {w:World} {ρ:Loc}
def kQ (ρ:Loc) (id id':Nat):Loc:=λj=>if j=id' then ρ id else ρ j
theorem qI {id id' i:Nat} {L:LW} (hi:i≠id') (h:ρ i=some L):kQ ρ id id' (rn id id' i)=some L:=by
 unfold kQ;by_cases h1:i=id
 ·subst h1;rw[uT,if_pos rfl];exact h
 ·rw[uU h1,if_neg hi];exact h
theorem RV.bS {v:Value} {a:AV} (h:RV X w ρ v a) (id id':Nat):RV X w (kQ ρ id id') v (Eng.bS id id' (Eng.killC id' a)):=by
 cases h with
 | undef _ v=>exact .undef _ _
 | bool _ b=>exact .bool _ _
 | int _ k n=>exact .int _ _ _
 | fl _ k b=>exact .fl _ _ _
 | cx _ k re im=>exact .cx _ _ _ _
 | str _ s=>exact .str _ _
 | lit _ x=>exact .lit _ _
 | an _=>exact .an _
 | ro _ A c sz es vs hc au hlen hcell hrel=>exact .ro _ _ _ _ _ vs hc au hlen hcell hrel
 | ao _ ad x vs hsp hlen hcell hrel=>exact .ao _ _ _ vs hsp hlen hcell hrel
 | sl _ i off n c L' A hL h1 h2 h3 hA=>
  show RV X w _ _ (Eng.bS id id' (if i=id' then .undef else .sl i off n))
  split;exact .undef _ _
  ·rename_i hne;exact .sl _ _ _ _ _ L' A (qI hne hL) h1 h2 h3 hA
 | ptr _ i j f L' b hL hb hi hf=>
  show RV X w _ _ (Eng.bS id id' (if i=id' then .undef else .ptr i j f))
  split;exact .undef _ _
  ·rename_i hne;exact .ptr _ _ _ _ L' b (qI hne hL) hb hi hf
 | dk _ i L' b hL hb hm hz=>
  show RV X w _ _ (Eng.bS id id' (if i=id' then .undef else .ptr i 0 0))
  split;exact .undef _ _
  ·rename_i hne;exact .dk _ _ L' b (qI hne hL) hb hm hz
 | aa _ i f L' b hL hb=>
  show RV X w _ _ (Eng.bS id id' (if i=id' then .undef else .aa i f))
  split;exact .undef _ _
  ·rename_i hne;exact .aa _ _ _ L' b (qI hne hL) hb
 | agg _ vs cs hlen hrel=>exact .undef _ _
 | ab _ vs cs hlen hrel=>exact .undef _ _
 | gd _ b x v h h'=>exact .undef _ _
 | aA _ f vs cs hlen hrel=>exact .undef _ _
theorem RV.cH {v:Value} {a:AV} (h:RV X w ρ v a) (id id':Nat):RV X w (kQ ρ id id') v (Eng.cH id id' (Eng.killA id' a)):=by
 cases a with
 | agg cs=>
  cases h with
  | agg _ vs _ hlen hrel=>
   refine .agg _ _ _ (by simpa using hlen) (λj v a h1 h2=>?_);rw[adD,List.getElem?_map]at h2;obtain⟨a',h3,rfl⟩:=acE.1 h2
   exact(hrel j v a' h1 h3).bS id id'
 | aA f cs=>
  cases h with
  | aA _ _ vs _ hlen hrel=>
   refine .aA _ _ _ _ (by simpa using hlen) (λj v a h1 h2=>?_);rw[adD,List.getElem?_map]at h2;obtain⟨a',h3,rfl⟩:=acE.1 h2
   exact(hrel j v a' h1 h3).bS id id'
 | _=>have:=h.bS id id';simp only[Eng.killA,Eng.killC]at this |-;first | exact this | (split at this<;>(rename_i e;simp only[e,if_true,if_false];exact this))
theorem RV.dF {v:Value} {a:AV} (h:RV X w ρ v a) (id id':Nat):RV X w (kQ ρ id id') v (Eng.dF id id' (Eng.kill id' a)):=by
 cases a with
 | ab cs=>
  cases h with
  | ab _ vs _ hlen hrel=>
   refine .ab _ _ _ (by simpa using hlen) (λj v a h1 h2=>?_);rw[adD,List.getElem?_map]at h2;obtain⟨a',h3,rfl⟩:=acE.1 h2
   exact(hrel j v a' h1 h3).cH id id'
 | gd b x=>
  cases h with
  | gd _ _ _ _ h h'=>exact .gd _ _ _ _ (λhb=>(h hb).cH id id') h'
 | agg cs=>exact h.cH id id'
 | aA f cs=>exact h.cH id id'
 | _=>have:=h.cH id id';simp only[Eng.kill,Eng.killA,Eng.killC]at this |-;first | exact this | (split at this<;>(rename_i e;simp only[e,if_true,if_false];exact this))
end
theorem af.iZ {E:Env} {ρ:Loc} {st:St} {a:Act} {w:World} (h:af E ρ st a w) (id id':Nat) (hne:id≠id') (hno:hget st.h id'=none):af E (kQ ρ id id') (vb id id' st) a w:=by
 have hg:∀j W',hget (renH id id' st.h) j=some W'->∃i W,j=rn id id' i/\i≠id'/\(j=id'↔i=id)/\hget st.h i=some W/\W'=l7 id id' W:=by
  intro j W' hj;rw[Da id id' j hne _ hno]at hj;split at hj
  ·rename_i e;obtain⟨W,g1,g2⟩:=acE.1 hj;exact⟨id,W,by rw[uT,e],hne,by simp[e],g1,g2.symm⟩
  ·rename_i e;split at hj
   ·cases hj
   ·rename_i e2;obtain⟨W,g1,g2⟩:=acE.1 hj;exact⟨j,W,(uU e2).symm,e,by simp[e,e2],g1,g2.symm⟩
 have hloc:∀i W L,hget st.h i=some W->i≠id'->kQ ρ id id' (rn id id' i)=some L->ρ i=some L:=by
  intro i W L h1 h2 h3;unfold kQ at h3;by_cases e:i=id
  ·subst e;rw[uT,if_pos rfl]at h3;exact h3
  ·rw[uU e,if_neg h2]at h3;exact h3
 have hX:∀b,¬XX E.X0 ρ st.h b->¬XX E.X0 (kQ ρ id id') (renH id id' st.h) b:=by
  rintro b hn (hx | ⟨j,W',L,h1,h2,h3⟩);exact hn (.inl hx)
  ·obtain⟨i,W,rfl,g1,_,g2,g3⟩:=hg j W' h1;exact hn (.inr ⟨i,W,L,g2,hloc i W L g2 g1 h2,h3⟩)
 refine⟨h.defers,h.size,λk av hk=>?_,⟨λj W' hj=>?_,λi j W W' L L' b h1 h2 h3 h4 h5 h6=>?_,λj W' L b h1 h2 h3=>?_⟩,λj W' L b h1 h2 h3=>?_,h.ai,h.x0⟩
 ·simp only[vb]at hk;rw[F3]at hk;obtain⟨av0,g1,rfl⟩:=acE.1 hk;obtain⟨g2,g3⟩:=h.aM k av0 g1;exact⟨g2,(g3.dF id id').mono (λ_ _ _=>rfl) (λb _ hb=>hX b hb) _ (λ_ _ h=>h)⟩
 ·obtain⟨i,W,rfl,g1,_,g2,rfl⟩:=hg j W' hj;obtain⟨L,g3,g4⟩:=h.heap.win i W g2;refine⟨L,qI g1 g3,?_⟩
  cases W with
  | arr sz es=>exact g4.mono (λ_ _=>rfl) (λ_ _ _=>rfl) (λb _ hb=>hX b hb) (λ_ _ h=>h) (ρ':=ρ)
  | var cs=>
   obtain⟨b,e1,cur,t,fz,e2,e3,e4,e5,e6⟩:=g4;refine⟨b,e1,cur,t,fz,e2,e3,by simpa using e4,by simp,λj v a e7 e8=>?_⟩;rw[List.getElem?_map]at e8;obtain⟨a',e9,rfl⟩:=acE.1 e8
   exact((e6 j v a' e7 e9).bS id id').mono (λ_ _ _=>rfl) (λb _ hb=>hX b hb) _ (λ_ _ h=>h)
  | mp kd l=>exact g4.mono (λ_ _=>rfl) (λ_ _ _=>rfl) (λb _ hb=>hX b hb) (λ_ _ h=>h) (ρ':=ρ)
 ·obtain⟨i1,W1,rfl,g1,g1',g2,g3⟩:=hg i W h1;obtain⟨j1,W2,rfl,f1,f1',f2,f3⟩:=hg j W' h2;rw[h.heap.cw i1 j1 W1 W2 L L' b g2 f2 (hloc _ _ _ g2 g1 h3) (hloc _ _ _ f2 f1 h4) h5 h6]
 ·obtain⟨i,W,rfl,g1,_,g2,g3⟩:=hg j W' h1;exact h.heap.out i W L b g2 (hloc _ _ _ g2 g1 h2) h3
 ·obtain⟨i,W,rfl,g1,_,g2,g3⟩:=hg j W' h1;exact h.base i W L b g2 (hloc _ _ _ g2 g1 h2) h3
theorem af.slot {E:Env} {ρ:Loc} {st:St} {a:Act} {w:World} (h:af E ρ st a w) (k:Nat) (hk:k<E.N\/2000000<=k) {av:AV} (hv:RV (XX E.X0 ρ st.h) w ρ (aP E a k) av):af E ρ ⟨(k,av)::st.s,st.h⟩ a w:=
 ⟨h.defers,h.size,λj av' hj=>by
  simp only[sget]at hj;split at hj
  ·rename_i e;subst e;obtain rfl:=Option.some.inj hj;exact⟨hk,hv⟩
  ·exact h.aM j av' hj,h.heap,h.base,h.ai,h.x0⟩
def ze (k id sz:Nat) (st:St):St:=⟨(k,.sl id 0 0)::killS id st.s,bo (fE id st.h) id (.arr sz [])⟩
theorem Fu {E:Env} {ρ:Loc} {st:St} {a:Act} {w:World} (h:af E ρ st a w) (id sz:Nat):af E (bu ρ id ⟨none,0,sz,0,0⟩) ⟨killS id st.s,bo (fE id st.h) id (.arr sz [])⟩ a w:=
 h.fresh id ⟨none,0,sz,0,0⟩ (.arr sz []) ⟨rfl,rfl,rfl,acG _,λ_ _ _=>rfl⟩ (λg hg=>by cases hg) ⟨rfl,rfl,acG _,λe he=>(by cases he),rfl⟩
theorem af.nil {E:Env} {ρ:Loc} {st:St} {a:Act} {w:World} (h:af E ρ st a w) (k id sz:Nat) (hk:sget st.s k=some .an):af E (bu ρ id ⟨none,0,sz,0,0⟩) (ze k id sz st) a w:=by
 obtain⟨h1,h2⟩:=h.aM k _ hk;refine(Fu h id sz).slot k h1 ?_;generalize aP E a k=v at h2;cases h2;exact .sl _ _ _ _ _ ⟨none,0,sz,0,0⟩ none (by simp[bu]) (acG _) (acG _) (acG _) (.inl rfl)
def zf (p f id sz:Nat) (cs:List AV) (st:St):St:=⟨killS id st.s,bo (bo (fE id st.h) id (.arr sz [])) p (.var ((cs.map (killC id)).set f (.sl id 0 0)))⟩
theorem af.iW {E:Env} {ρ:Loc} {st:St} {a:Act} {w:World} (h:af E ρ st a w) (p f id sz:Nat) (cs:List AV) (hp:hget st.h p=some (.var cs)) (hf:cs[f]?=some .an) (hne:p≠id) :
    ∃ρ',af E ρ' (zf p f id sz cs st) a w:=by
 have h2:=Fu h id sz
 have hp2:hget (bo (fE id st.h) id (.arr sz [])) p=some (.var (cs.map (killC id))):=by
  rw[xE,if_neg hne,xF,hp];rfl
 obtain⟨L,g1,g2⟩:=h2.heap.win p _ hp2;obtain⟨L0,g3,g4⟩:=h.heap.win p _ hp
 have hL:L0=L:=by
  simp only[bu,if_neg hne]at g1;rw[g1]at g3;exact(Option.some.inj g3).symm
 subst hL;refine⟨_,h2.modify p L0 (.var (cs.map (killC id))) _ hp2 g1 ⟨rfl,rfl,rfl,acG _,λ_ _ _=>rfl⟩ ?_⟩;obtain⟨b,e1,cur,t,fz,e2,e3,e4,e5,e6⟩:=g2;refine⟨b,e1,cur,t,fz,e2,e3,by simpa using e4,by simp,λj v x e7 e8=>?_⟩;rw[List.getElem?_set]at e8;split at e8
 ·rename_i hj;subst hj;split at e8
  ·obtain rfl:=Option.some.inj e8;obtain⟨b',f1,cur',t',fz',f2,f3,f4,f5,f6⟩:=g4;rw[e1]at f1;obtain rfl:=Option.some.inj f1;rw[e2]at f2
   obtain⟨rfl,_,_⟩:cur=cur'/\t=t'/\fz=fz':=by
    have:=Option.some.inj f2
    injection this with x1 x2 x3
    exact⟨x1,x2,x3⟩
   have:=f6 f v _ e7 hf;cases this;exact .sl _ _ _ _ _ ⟨none,0,sz,0,0⟩ none (by simp[bu]) (acG _) (acG _) (acG _) (.inl rfl)
  ·cases e8
 exact e6 j v x e7 e8
theorem o7:∀(l:List AV) (k j:Nat) (x:AV),l[j]?=some x->sget (numbered k l) (k+j)=some x
 | [],k,j,x,h=>by simp at h
 | y::r,k,0,x,h=>by simp at h;simp[numbered,sget,h]
 | y::r,k,j+1,x,h=>by
  simp only[numbered,sget];rw[if_neg acB,show k+(j+1)=k+1+j by omega];exact o7 r (k+1) j x (by simpa using h)
inductive mw:AV->AV->Prop where
 | refl (a:AV):mw a a
 | nil (sz:Nat):mw .an (.ro sz [])
 | undef (a:AV):mw a .undef
inductive pD:List AV->List AV->Prop where
 | nil:pD [] []
 | cons {a b:AV} {as bs:List AV} (h:mw a b) (hs:pD as bs):pD (a::as) (b::bs)
inductive pI:AV->AV->Prop where
 | one {a b:AV} (h:mw a b):pI a b
 | ab {as bs:List AV} (h:pD as bs):pI (.ab as) (.ab bs)
theorem RV.G4 {X:Nat->Prop} {w:World} {ρ:Loc} {v:Value} {a b:AV} (h:RV X w ρ v a) (k:mw a b):RV X w ρ v b:=by
 cases k with
 | refl=>exact h
 | nil sz=>cases h;exact .ro ρ none 0 sz [] [] (acG _) (λe he=>by cases he) rfl (λj hj=>by simp at hj) (λj v a h1 _=>by simp at h1)
 | undef=>exact .undef _ _
theorem T5 {as bs:List AV} (k:pD as bs):as.length=bs.length/\∀(j:Nat) (b:AV),bs[j]?=some b->∃a,as[j]?=some a/\mw a b:=by
 induction k with
 | nil=>exact⟨rfl,λj b h=>by simp at h⟩
 | cons h _ ih=>
  refine⟨by simp[ih.1],λj b hb=>?_⟩
  cases j with
  | zero=>simp at hb;subst hb;exact⟨_,rfl,h⟩
  | succ j=>exact ih.2 j b (by simpa using hb)
theorem RV.tle {X:Nat->Prop} {w:World} {ρ:Loc} {v:Value} {a b:AV} (h:RV X w ρ v a) (k:pI a b):RV X w ρ v b:=by
 cases k with
 | one k=>exact h.G4 k
 | ab k=>
  obtain⟨h1,h2⟩:=T5 k
  cases h with
  | ab _ vs _ hlen hrel=>
   refine .ab _ _ _ acB (λj v b e1 e2=>?_);obtain⟨a,e3,e4⟩:=h2 j b e2;exact(hrel j v a e1 e3).G4 e4
theorem af.vF {E:Env} {ρ:Loc} {st st':St} {a:Act} {w:World} (h:af E ρ st a w) (hs:∀k v,sget st'.s k=some v->sget st.s k=some v) (hh:∀k v,hget st'.h k=some v->hget st.h k=some v):af E ρ st' a w:=by
 have hX:∀b,¬XX E.X0 ρ st.h b->¬XX E.X0 ρ st'.h b:=by
  intro b hn hx;rcases hx with hx | ⟨j,W',L',h1,h2,h3⟩;exact hn (.inl hx);exact hn (.inr ⟨j,W',L',hh j W' h1,h2,h3⟩)
 refine⟨h.defers,h.size,λk av hk=>?_,⟨λj W' hj=>?_,λi j W1 W2 L1 L2 b h1 h2 h3 h4 h5 h6=>?_,λj W' L' b h1 h2 h3 hx=>?_⟩,λj W' L' b h1 h2 h3=>?_,h.ai,h.x0⟩
 ·obtain⟨h2,h3⟩:=h.aM k av (hs k av hk);exact⟨h2,h3.mono (λ_ _ _=>rfl) (λb _ hb=>hX b hb) _ (λ_ _ h=>h)⟩
 ·obtain⟨L,h1,h2⟩:=h.heap.win j W' (hh j W' hj);exact⟨L,h1,h2.mono (λ_ _=>rfl) (λ_ _ _=>rfl) (λb _ hb=>hX b hb) (λ_ _ h=>h)⟩
 exact h.heap.cw i j W1 W2 L1 L2 b (hh _ _ h1) (hh _ _ h2) h3 h4 h5 h6;exact h.heap.out j W' L' b (hh _ _ h1) h2 h3 hx;exact h.base j W' L' b (hh _ _ h1) h2 h3
theorem af.B4 {E:Env} {ρ:Loc} {st:St} {a:Act} {w:World} (h:af E ρ st a w) {id:Nat} {cs:List AV} (hp:hget st.h id=some (.var cs)) (hn:cs.all noRefC=true) {v:Value} (hv:RV (XX E.X0 ρ st.h) w ρ v (.aa id 0)) :
    RV (XX E.X0 ρ (hdel id st.h)) w ρ v (.ao (.agg cs)):=by
 cases hv with
 | aa _ _ _ L b hL hb=>
  obtain⟨L',g1,b',g2,cur,t,fz,g3,g4,g5,g6,g7⟩:=h.heap.win id _ hp;rw[hL]at g1;obtain rfl:=Option.some.inj g1;rw[hb]at g2;obtain rfl:=Option.some.inj g2
  have hX:∀c,¬XX E.X0 ρ st.h c->¬XX E.X0 ρ (hdel id st.h) c:=by
   intro c hc hx;rcases hx with hx | ⟨j,W',L',e1,e2,e3⟩;exact hc (.inl hx)
   ·rw[jv]at e1;split at e1
    ·cases e1
    exact hc (.inr ⟨j,W',L',e1,e2,e3⟩)
  have hnb:¬XX E.X0 ρ (hdel id st.h) b:=by
   rintro(hx | ⟨j,W',L',e1,e2,e3⟩);exact h.heap.out id _ L b hp hL hb hx
   ·rw[jv]at e1;split at e1
    ·cases e1
    ·rename_i hne;exact hne (h.heap.cw j id W' _ L' L b e1 hp e2 hL e3 hb)
  refine .ao ρ _ (.agg cs) ((cur.toList.drop L.o).take cs.length) rfl (by simp[cellsOf];omega) (λj hj=>⟨hnb,?_⟩) (λj u x e1 e2=>?_)
  ·have hj':j<cs.length:=by simp at hj;omega
   rw[eE _ _ _ _ hj',Addr.add_lit,cell_of_row w b _ cur t fz g3,Array.getElem?_toList,adA]
  ·have hj':j<cs.length:=(List.getElem?_eq_some_iff.1 e2).1;rw[eE _ _ _ _ hj',Array.getElem?_toList]at e1;exact((g7 j u x e1 e2).nD (acI.1 hn x (acS e2)) aW).mono (λ_ _ _=>rfl) (λc _ hc=>hX c hc) _ (λ_ _ h=>h)
theorem af.drop {E:Env} {ρ:Loc} {st:St} {a:Act} {w:World} (h:af E ρ st a w) (id:Nat):af E ρ ⟨st.s,hdel id st.h⟩ a w:=
 h.vF (λ_ _ h=>h) (λk v hk=>by
  simp only[jv]at hk;split at hk
  ·cases hk
  ·exact hk)
theorem af.frzS {E:Env} {ρ:Loc} {st:St} {a:Act} {w:World} (h:af E ρ st a w) {k id:Nat} {cs:List AV} (hk:sget st.s k=some (.aa id 0)) (hp:hget st.h id=some (.var cs)) (hn:cs.all noRefC=true) :
    af E ρ ⟨(k,.ao (.agg cs))::st.s,hdel id st.h⟩ a w:=
 (h.drop id).slot k (h.aM k _ hk).1 (h.B4 hp hn (h.aM k _ hk).2)
theorem af.oz {E:Env} {ρ:Loc} {st:St} {a:Act} {w:World} (h:af E ρ st a w) {k j id:Nat} {vs cs:List AV} (hk:sget st.s k=some (.ab vs)) (hj:vs[j]?=some (.aa id 0)) (hp:hget st.h id=some (.var cs)) (hn:cs.all noRefC=true) :
    af E ρ ⟨(k,.ab (vs.set j (.ao (.agg cs))))::st.s,hdel id st.h⟩ a w:=by
 refine(h.drop id).slot k (h.aM k _ hk).1 ?_;have hv:=(h.aM k _ hk).2;generalize aP E a k=v at hv
 cases hv with
 | ab _ us _ hlen hrel=>
  refine .ab _ _ _ (by simpa using hlen) (λi u x e1 e2=>?_);rw[List.getElem?_set]at e2;split at e2
  ·rename_i e;subst e;have hlt:=(List.getElem?_eq_some_iff.1 hj).1;rw[if_pos hlt]at e2;obtain rfl:=Option.some.inj e2;exact h.B4 hp hn (hrel j u _ e1 hj)
  ·refine(hrel i u x e1 e2).mono (λ_ _ _=>rfl) (λc _ hc hx=>?_) _ (λ_ _ h=>h);rcases hx with hx | ⟨j,W',L',e1,e2,e3⟩;exact hc (.inl hx)
   ·rw[jv]at e1;split at e1
    ·cases e1
    exact hc (.inr ⟨j,W',L',e1,e2,e3⟩)
def DM (st st':St):Prop:=dA st.s st'.s/\dz st.h st'.h
inductive Wk:St->St->Prop where
 | le {s t:St} (h:DM s t):Wk s t
 | val {s t:St} (k:Nat) (v v':AV) (hk:sget s.s k=some v) (hv:pI v v') (h:Wk ⟨(k,v')::s.s,s.h⟩ t):Wk s t
 | drop {s t:St} (id:Nat) (h:Wk ⟨s.s,hdel id s.h⟩ t):Wk s t
 | bn {s t:St} (id:Nat) (h:Wk (freeze s id) t):Wk s t
 | iZ {s t:St} (id id':Nat) (hne:(id==id')=false) (hno:hget s.h id'=none) (h:Wk (vb id id' s) t):Wk s t
 | nil {s t:St} (k id sz:Nat) (hk:sget s.s k=some .an) (h:Wk (ze k id sz s) t):Wk s t
 | iW {s t:St} (p f id sz:Nat) (cs:List AV) (hp:hget s.h p=some (.var cs)) (hf:cs[f]?=some .an) (hne:(p==id)=false) (h:Wk (zf p f id sz cs s) t):Wk s t
 | frzS {s t:St} (k id:Nat) (cs:List AV) (hk:sget s.s k=some (.aa id 0)) (hp:hget s.h id=some (.var cs)) (hn:cs.all noRefC=true) (h:Wk ⟨(k,.ao (.agg cs))::s.s,hdel id s.h⟩ t):Wk s t
 | oz {s t:St} (k j id:Nat) (vs cs:List AV) (hk:sget s.s k=some (.ab vs)) (hj:vs[j]?=some (.aa id 0)) (hp:hget s.h id=some (.var cs)) (hn:cs.all noRefC=true) (h:Wk ⟨(k,.ab (vs.set j (.ao (.agg cs))))::s.s,hdel id s.h⟩ t):Wk s t
theorem jK {E:Env} {a:Act} {w:World} {s t:St} (k:Wk s t):∀{ρ:Loc},af E ρ s a w->∃ρ',af E ρ' t a w:=by
 induction k with
 | le h=>exact λr=>⟨_,r.weaken h.1 h.2⟩
 | val k v v' hk hv _ ih=>
  intro ρ r;obtain⟨h1,h2⟩:=r.aM k v hk
  exact ih (r.slot k h1 (h2.tle hv))
 | drop id _ ih=>
  intro ρ r
  exact ih (r.vF (λ_ _ h=>h) (λk v hk=>by
   simp only[jv]at hk;split at hk
   ·cases hk
   ·exact hk))
 | bn id _ ih=>exact λr=>ih (r.freeze id)
 | iZ id id' hne hno _ ih=>exact λr=>ih (r.iZ id id' (by simpa using hne) hno)
 | nil k id sz hk _ ih=>exact λr=>ih (r.nil k id sz hk)
 | iW p f id sz cs hp hf hne _ ih=>
  intro ρ r;obtain⟨ρ',r'⟩:=r.iW p f id sz cs hp hf (by simpa using hne)
  exact ih r'
 | frzS k id cs hk hp hn _ ih=>exact λr=>ih (r.frzS hk hp hn)
 | oz k j id vs cs hk hj hp hn _ ih=>exact λr=>ih (r.oz hk hj hp hn)
theorem pP {P:Program} {E:Env} {c:AC} {s t:St} {Q:Exit->St->Prop} (h:Wk s t) (k:bm P E c t Q):bm P E c s Q:=
 λn code hc a w hr=>k n code hc a w (by obtain⟨ρ,hr⟩:=hr;exact jK h hr)
theorem tx (v:Value) (vs:Array Value):(#[v]++vs).getD 0 undef=v:=by
 rw[acO,Array.getElem?_append_left (by simp)];rfl
theorem zb {P:Program} {f:Nat} {h:HP} {args:List AV} {Post:HP->AV->List AV->Prop}
    (hs:Spec P f h args (λh' r as=>∃h2 r2 as2,as2.length=as.length/\Wk ⟨(0,r)::numbered 1 as,h'⟩ ⟨(0,r2)::numbered 1 as2,h2⟩/\Post h2 r2 as2)):Spec P f h args Post:=by
 intro X0 ρ w vs h1 hA h2 h3 h4;refine(hs X0 ρ w vs h1 hA h2 h3 h4).mono ?_;rintro e w' ⟨v,h',r,ρ',as,rfl,⟨h2',r2,as2,hlen,hwk,hP⟩,g3,g4,g5,g6,g7,g8,g9,g10,g11,g12⟩
 let E:Env:=⟨w',λb=>w.heap.size<=b\/aE ρ h b,X0,vs.size+1,0,λ_=>undef,none,0,ac5 _,[]⟩
 let a:Act:={tmps:=#[v]++vs,defers:=[]}
 have hsv:∀j,j<vs.size->aP E a (1+j)=vs.getD j undef:=by
  intro j hj;unfold aP;rw[if_pos (show 1+j<vs.size+1 by omega)];simp only[a,acO];rw[Array.getElem?_append_right (by simp)];simp
 have hr:af E ρ' ⟨(0,r)::numbered 1 as,h'⟩ a w':=by
  refine⟨fQ.nil _ _,by simp[a,E];omega,λk av hk=>?_,g3,λid W L b e1 e2 e3=>.inr (g12 b ⟨id,W,L,e1,e2,e3⟩),⟨rfl,rfl,rfl,acG _,λ_ _ _=>rfl,hA.1.stays (λb _ _ _ hb _=>g11 b (hA.1.lt hb) (hA.2 b hb)),λb hb hx=>hx.elim (λg=>by have:=hA.1.lt hb;omega) (hA.2 b hb)⟩,λb hb=>acR (h2 b hb) g10⟩;simp only[sget]at hk;split at hk
  ·rename_i e;subst e;obtain rfl:=Option.some.inj hk;refine⟨.inl (show 0<vs.size+1 by omega),?_⟩
   have:aP E a 0=v:=by
    unfold aP;rw[if_pos (show 0<vs.size+1 by omega)];simp only[a];exact tx v vs
   rw[this];exact g4
  ·obtain⟨e1,e2⟩:=ki as 1 k av hk;have hlt:=(List.getElem?_eq_some_iff.1 e2).1;obtain⟨j,rfl⟩:∃j,k=1+j:=⟨k-1,acB⟩;have hj:j<vs.size:=acB;refine⟨.inl (show 1+j<vs.size+1 by omega),?_⟩;rw[hsv j hj];have hv:vs[j]?=some (vs.getD j undef):=by rw[acO,Array.getElem?_eq_getElem hj];rfl
   exact g6 j _ av hv (by rw[adv]at e2;exact e2)
 obtain⟨ρ2,hr2⟩:=jK hwk hr;refine⟨v,h2',r2,ρ2,as2,rfl,hP,hr2.heap,?_,acB,λj u x e1 e2=>?_,g7,g8,g9,g10,g11,λb ⟨id,W,L,e1,e2,e3⟩=>?_⟩
 ·have:=(hr2.aM 0 r2 (by simp[sget])).2
  have e:aP E a 0=v:=by
   unfold aP;rw[if_pos (show 0<vs.size+1 by omega)];simp only[a];exact tx v vs
  rw[e]at this;exact this
 ·have hj:=(Array.getElem?_eq_some_iff.1 e1).1
  have hs2:sget ((0,r2)::numbered 1 as2) (1+j)=some x:=by
   simp only[sget];rw[if_neg acB];exact o7 as2 1 j x e2
  have:=(hr2.aM (1+j) x hs2).2;rw[hsv j hj,acO,e1]at this;exact this
 ·rcases hr2.base id W L b e1 e2 e3 with g | g;exact .inl (adt g10 g);exact g
end Go.Proofs.YtgghhaahnpbnmaaGreatDoor.Eng
namespace Go.Proofs.YtgghhaahnpbnmaaGreatDoor.Eng
def bcell (h0 h:HP):AV->AV
 | .sl i o n=>match hget h0 i with
  | some _=>.undef
  | none=>borrowC h (.sl i o n)
 | y=>borrowC h y
def borC (h0 h:HP):AV->AV
 | .sl id off n=>match hget h0 id with
  | some _=>.sl id off n
  | none=>borrowC h (.sl id off n)
 | .ptr id j f=>match hget h0 id with
  | some _=>.ptr id j f
  | none=>.undef
 | .aa id f=>match hget h0 id with
  | some _=>.aa id f
  | none=>match hget h id,f with
   | some (.var cs),0=>.ao (packC (cs.map (bcell h0 h)))
   | _,_=>.undef
 | x=>borrowC h x
def bor (h0 h:HP):AV->AV
 | .agg cs=>.agg (cs.map (borC h0 h))
 | x=>borC h0 h x
def cA (h:HP):AV->Bool
 | .sl i _ _=>(hget h i).isSome
 | .ptr i _ _=>(hget h i).isSome
 | .aa i _=>(hget h i).isSome
 | x=>flC x
def di (h:HP):AV->Bool
 | .agg cs=>cs.all (cA h)
 | x=>cA h x
def eG (h:HP):AV->Bool
 | .ab vs=>vs.all (di h)
 | x=>di h x
def lO (h:HP):aC->Bool
 | .arr _ es=>es.all flA
 | .var cs=>cs.all (cA h)
 | .mp _ l=>l.all λp=>flA p.2
def flH (h:HP):HP->Bool
 | []=>true
 | (_,W)::r=>lO h W&&flH h r
theorem Cy {h:HP}:∀{g:HP} {i:Nat} {W:aC},flH h g=true->hget g i=some W->lO h W=true
 | [],i,W,_,h2=>by simp[hget]at h2
 | (k,V)::r,i,W,h1,h2=>by
  simp only[flH,acN]at h1;simp only[hget]at h2;split at h2
  ·obtain rfl:=Option.some.inj h2;exact h1.1
  exact Cy h1.2 h2
section
variable {X X':Nat->Prop} {w w':World} {ρ ρ':Loc}
theorem RV.cA {h:HP} {v:Value} {a:AV} (hr:RV X w ρ v a) (hn:cA h a=true) (h1:∀i L,(hget h i).isSome=true->ρ i=some L->ρ' i=some L):RV X' w' ρ' v a:=by
 cases hr<;>first | (simp[Eng.cA,Eng.flC]at hn;done) | skip
 exact .undef _ _;exact .bool _ _;exact .int _ _ _;exact .fl _ _ _;exact .cx _ _ _ _;exact .str _ _;exact .lit _ _;exact .an _
 ·rename_i L A g1 g2 g3 hA hL;exact .sl _ _ _ _ _ L A (h1 _ _ hn hL) g1 g2 g3 hA
 ·rename_i L b hb hi hf hL;exact .ptr _ _ _ _ L b (h1 _ _ hn hL) hb hi hf
 ·rename_i L b hb hL;exact .aa _ _ _ L b (h1 _ _ hn hL) hb
 ·rename_i L b hb hm hz hL;exact .dk _ _ L b (h1 _ _ hn hL) hb hm hz
theorem RV.di {h:HP} {v:Value} {a:AV} (hr:RV X w ρ v a) (hn:di h a=true) (h1:∀i L,(hget h i).isSome=true->ρ i=some L->ρ' i=some L):RV X' w' ρ' v a:=by
 cases a with
 | agg cs=>
  cases hr with
  | agg _ vs _ hlen hrel=>exact .agg _ _ _ hlen (λj v a e1 e2=>(hrel j v a e1 e2).cA (acI.1 hn a (acS e2)) h1)
 | _=>exact hr.cA hn h1
theorem RV.OL {h:HP} {v:Value} {a:AV} (hr:RV X w ρ v a) (hn:eG h a=true) (h1:∀i L,(hget h i).isSome=true->ρ i=some L->ρ' i=some L):RV X' w' ρ' v a:=by
 cases a with
 | ab cs=>
  cases hr with
  | ab _ vs _ hlen hrel=>exact .ab _ _ _ hlen (λj v a e1 e2=>(hrel j v a e1 e2).di (acI.1 hn a (acS e2)) h1)
 | _=>exact hr.di hn h1
theorem Ot {es:List AV} (h:es.all flA=true):∀a∈flat es,flC a=true:=by
 intro a ha;simp only[flat,List.mem_flatMap]at ha;obtain⟨e,he,ha⟩:=ha;have h1:=acI.1 h e he
 cases e with
 | agg cs=>exact acI.1 h1 a ha
 | _=>simp only[cellsOf,ac0]at ha;subst ha;exact h1
theorem abS {h:HP} {L:LW} {kd:Option IntKind} {l:List (MK×AV)} (hf:lO h (.mp kd l)=true) (hr:jf X w ρ L (.mp kd l)):jf X' w ρ' L (.mp kd l):=by
 obtain⟨b,h1,h2,h3,es,c,e1,e2,e3,e4⟩:=hr;exact⟨b,h1,h2,h3,es,c,e1,e2,e3,λj e p g1 g2=>⟨(e4 j e p g1 g2).1,(e4 j e p g1 g2).2.flA (acI.1 hf p (acS g2))⟩⟩
theorem abR {h:HP} {L:LW} {sz:Nat} {es:List AV} (hf:lO h (.arr sz es)=true) (hr:jf X w ρ L (.arr sz es)):jf X' w ρ' L (.arr sz es):=by
 obtain⟨h1,h2,h3,h4,h5⟩:=hr;refine⟨h1,h2,h3,h4,?_⟩
 cases hLb:L.b with
 | none=>rw[hLb]at h5;exact h5
 | some b=>
  rw[hLb]at h5;obtain⟨cur,t,fz,e1,e2,e3,e4,e5⟩:=h5;exact⟨cur,t,fz,e1,e2,e3,e4,λj v a g1 g2=>(e5 j v a g1 g2).flC (Ot hf a (acS g2))⟩
end
section
variable {E:Env} {ρ:Loc} {st:St} {a:Act} {w:World} {h0:HP}
theorem AW (h:af E ρ st a w) (hsub:∀i W,hget h0 i=some W->hget st.h i=some W):∀b,XX E.X0 ρ h0 b->XX E.X0 ρ st.h b:=by
 rintro b (hb | ⟨id,W,L,g1,g2,g3⟩);exact .inl hb;exact .inr ⟨id,W,L,hsub _ _ g1,g2,g3⟩
theorem AX (h:af E ρ st a w) (hsub:∀i W,hget h0 i=some W->hget st.h i=some W) {id:Nat} {W:aC} {L:LW} {b:Nat} (h1:hget st.h id=some W) (h2:hget h0 id=none) (h3:ρ id=some L) (h4:L.b=some b) :
    ¬XX E.X0 ρ h0 b:=by
 rintro(hx | ⟨j,W',L',g1,g2,g3⟩);exact h.heap.out id W L b h1 h3 h4 hx
 ·have:=h.heap.cw id j W W' L L' b h1 (hsub _ _ g1) h3 g2 h4 g3;subst this;rw[g1]at h2;cases h2
theorem A0 (h:af E ρ st a w) (hsub:∀i W,hget h0 i=some W->hget st.h i=some W) {v:Value} {id off n:Nat} (hx:RV (XX E.X0 ρ st.h) w ρ v (.sl id off n)) (hn0:hget h0 id=none) (ρ':Loc) :
    RV (XX E.X0 ρ h0) w ρ' v (borrowC st.h (.sl id off n)):=by
 cases hx with
 | sl _ _ _ _ c L A hL h1 h2 h3 hA=>
  simp only[borrowC];split
  ·rename_i sz es hid;obtain⟨vs,hr,hn⟩:=rr h hid hL h1 h2 h3 hA
   have:=RV.ro (X:=XX E.X0 ρ h0) (w:=w) ρ' A c sz (aB es off n) vs acB hr.au (by rw[dY hr.au,hr.len])
    (λj hj=>by
     obtain⟨ad,g1,g2,g3⟩:=hr.cell j hj;refine⟨ad,g1,g2,λhx=>?_,g3⟩
     have hc:c≠0:=by
      intro e;have:n=0:=acB;rw[hr.len,hn,this]at hj;omega
     rcases hA with hA | hA;exact hc hA
     ·rw[hA]at g1
      cases hb:L.b with
      | none=>rw[hb]at g1;cases g1
      | some b=>
       rw[hb]at g1;obtain rfl:=Option.some.inj g1
       exact AX h hsub hid hn0 hL hb hx)
    (λj v x e1 e2=>(hr.rel j v x e1 e2).mono (λ_ _ _=>rfl) (λb _ hb hx=>hb (AW h hsub b hx)) aW (λ_ _ h=>h))
   rw[hn]at this;exact this
  exact .undef _ _
theorem AZ (h:af E ρ st a w) (hsub:∀i W,hget h0 i=some W->hget st.h i=some W) {v:Value} {x:AV} (hx:RV (XX E.X0 ρ st.h) w ρ v x) (hns:∀id off n,x≠.sl id off n) (ρ':Loc) :
    RV (XX E.X0 ρ h0) w ρ' v (borrowC st.h x):=by
 have up:∀b,¬XX E.X0 ρ st.h b->¬XX E.X0 ρ h0 b:=λb hb hx=>hb (AW h hsub b hx)
 cases hx with
 | sl _ id off n c L A hL h1 h2 h3 hA=>exact absurd rfl (hns id off n)
 | ptr _ i j f L b hL hb hi hf=>exact .undef _ _
 | dk _ i L b hL hb hm hz=>exact .undef _ _
 | aa _ i f L b hL hb=>exact .undef _ _
 | agg _ vs cs hlen hrel=>exact .undef _ _
 | ab _ vs cs hlen hrel=>exact .undef _ _
 | gd _ b x v h=>exact .undef _ _
 | aA _ f vs cs hlen hrel=>exact .undef _ _
 | undef _ v=>exact .undef _ _
 | bool _ b=>exact .bool _ _
 | int _ k n=>exact .int _ _ _
 | fl _ k b=>exact .fl _ _ _
 | cx _ k re im=>exact .cx _ _ _ _
 | str _ s=>exact .str _ _
 | lit _ x=>exact .lit _ _
 | an _=>exact .an _
 | ro _ A c sz es vs hc au hlen hcell hrel=>
  exact .ro _ _ _ _ _ vs hc au hlen (λj hj=>by obtain⟨ad,g1,g2,g3,g4⟩:=hcell j hj;exact⟨ad,g1,g2,up _ g3,g4⟩) (λj v a h1 h2=>(hrel j v a h1 h2).mono (λ_ _ _=>rfl) (λb _ hb=>up b hb) aW (λ_ _ h=>h))
 | ao _ ad x vs hsp hlen hcell hrel=>
  exact .ao _ _ _ vs hsp hlen (λj hj=>⟨up _ (hcell j hj).1,(hcell j hj).2⟩) (λj v a h1 h2=>(hrel j v a h1 h2).mono (λ_ _ _=>rfl) (λb _ hb=>up b hb) aW (λ_ _ h=>h))
theorem EF (h0 h:HP) (l:List AV):cellsOf (packC (l.map (bcell h0 h)))=l.map (bcell h0 h):=by
 unfold packC;split
 ·rename_i x hx;have hm:x∈l.map (bcell h0 h):=by rw[hx];exact ac0.2 rfl
  obtain⟨y,_,rfl⟩:=adu.1 hm;rw[hx];cases y<;>simp only[bcell,borrowC]<;>first | rfl | (split<;>first | rfl | (split<;>rfl))
 rfl
theorem AR (h:af E ρ st a w) (hsub:∀i W,hget h0 i=some W->hget st.h i=some W) {v:Value} {x:AV} (hx:RV (XX E.X0 ρ st.h) w ρ v x):RV (XX E.X0 ρ h0) w ρ v (borC h0 st.h x):=by
 cases x with
 | sl id off n=>
  simp only[borC];split
  ·cases hx with
   | sl _ _ _ _ c L A hL h1 h2 h3 hA=>exact .sl _ _ _ _ _ L A hL h1 h2 h3 hA
  ·rename_i e;exact A0 h hsub hx e ρ
 | ptr id j f=>
  simp only[borC];split
  ·cases hx with
   | ptr _ _ _ _ L b hL hb hi hf=>exact .ptr _ _ _ _ L b hL hb hi hf
   | dk _ _ L b hL hb hm hz=>exact .dk _ _ L b hL hb hm hz
  ·exact .undef _ _
 | aa id f=>
  simp only[borC];split
  ·cases hx with
   | aa _ _ _ L b hL hb=>exact .aa _ _ _ L b hL hb
  ·rename_i hn0;split
   ·rename_i cs hid
    cases hx with
    | aa _ _ _ L b hL hb=>
     have hc:=vz h hid hL hb;obtain⟨cur,t,fz,e1,e2,e3,e4,e5⟩:=hc;refine .ao _ ⟨b,L.o+0,none⟩ _ ((cur.toList.drop L.o).take cs.length) rfl (by rw[EF];simp;omega) (λj hj=>⟨AX h hsub hid hn0 hL hb,?_⟩) (λj v x g1 g2=>?_)
     ·have hj':j<cs.length:=by simp at hj;omega
      rw[eE _ _ _ _ hj',Addr.add_lit,cell_of_row w b _ cur t fz e1,Array.getElem?_toList,adA]
     ·have hj':j<cs.length:=by
       have:=(List.getElem?_eq_some_iff.1 g1).1;simp at this;omega
      rw[eE _ _ _ _ hj',Array.getElem?_toList]at g1;rw[EF,List.getElem?_map]at g2;obtain⟨y,g3,rfl⟩:=acE.1 g2;have hy:=e5 j v y g1 g3;by_cases hs:∃i o n,y=.sl i o n
      ·obtain⟨i,o,n,rfl⟩:=hs;simp only[bcell];split;exact .undef _ _
       ·rename_i hi0;exact A0 h hsub hy hi0 aW
      ·have hb:bcell h0 st.h y=borrowC st.h y:=by cases y<;>first | rfl | exact absurd ⟨_,_,_,rfl⟩ hs
       rw[hb];exact AZ h hsub hy (λi o n e=>hs ⟨i,o,n,e⟩) aW
   ·exact .undef _ _
 | _=>exact AZ h hsub hx (λ_ _ _ e=>by cases e) ρ
theorem Ki (h:af E ρ st a w) (hsub:∀i W,hget h0 i=some W->hget st.h i=some W) {v:Value} {x:AV} (hx:RV (XX E.X0 ρ st.h) w ρ v x):RV (XX E.X0 ρ h0) w ρ v (bor h0 st.h x):=by
 cases x with
 | agg cs=>
  cases hx with
  | agg _ vs _ hlen hrel=>
   refine .agg _ _ _ (by simpa using hlen) (λj v a h1 h2=>?_);rw[List.getElem?_map]at h2;obtain⟨a',h3,rfl⟩:=acE.1 h2
   exact AR h hsub (hrel j v a' h1 h3)
 | _=>exact AR h hsub hx
end
theorem Hw {P:Program} {q:Bool} {st:St} {f:Nat} {args:List AE} {K:AV->St->Prop} {Post:HP->AV->List AV->Prop} (h0:HP) (hs:Spec P f h0 (args.map λx=>bor h0 st.h (ev st x)) Post)
    (hsub:∀i W,hget h0 i=some W->hget st.h i=some W) (hq:q=true->h0=[])
    (hK:∀h' r as,Post h' r as->flH h' h'=true/\eG h' r=true/\K r (gU st h0 args h' as)):fb P q st f args K:=by
 intro E ρ a w vs h hvs hrv
 let X0c:Nat->Prop:=E.X0
 have hx1:∀b,XX X0c ρ h0 b->XX E.X0 ρ st.h b:=by
  rintro b (hb | ⟨id,W,L,g1,g2,g3⟩);exact .inl hb;exact .inr ⟨id,W,L,hsub _ _ g1,g2,g3⟩
 have hlt:∀b,XX E.X0 ρ st.h b->b<w.heap.size:=by
  intro b hb;rcases hb with hb | hb;exact h.x0 b hb;exact gT h hb
 have hrel0:cD X0c ρ h0 w:=by
  refine⟨λid W hW=>?_,λi j W W' L L' b e1 e2 e3 e4 e5 e6=>h.heap.cw i j W W' L L' b (hsub _ _ e1) (hsub _ _ e2) e3 e4 e5 e6,λid W L b e1 e2 e3 hx=>?_⟩
  ·obtain⟨L,g1,g2⟩:=h.heap.win id W (hsub _ _ hW);exact⟨L,g1,g2.mono (λ_ _=>rfl) (λ_ _ _=>rfl) (λb _ hb hx=>hb (hx1 b hx)) (λ_ _ h=>h)⟩
  exact h.heap.out id W L b (hsub _ _ e1) e2 e3 hx
 refine(hs X0c ρ w vs hrel0 (h.cn.mono λb ⟨id,W,L,g1,g2,g3⟩=>⟨id,W,L,hsub _ _ g1,g2,g3⟩) (λb hb=>hlt b (hx1 b (.inl hb))) (by simpa using hvs) (λj v x e1 e2=>?_)).mono ?_
 ·rw[List.getElem?_map]at e2;obtain⟨y,g1,rfl⟩:=acE.1 e2;exact Ki h hsub (hrv j v y e1 g1).1
 ·rintro e w' ⟨v,h',r,ρ',as,rfl,hP,hH,hr,hal,has,q1,q2,q3,q4,q5,q6⟩;obtain⟨k1,k2,k3⟩:=hK h' r as hP
  let ids:=dD h0++dD h'
  let keep:=keepL2 (args.map (ev st)) as
  let ρ2:Loc:=λj=>if(hget h' j).isSome then ρ' j else ρ j
  have hin:∀i L,(hget h' i).isSome=true->ρ' i=some L->ρ2 i=some L:=λi L g1 g2=>by simp only[ρ2,g1,if_true,g2]
  have hout:∀i,memN i ids=false->hget h0 i=none/\hget h' i=none:=by
   intro i hi;simp only[ids,DX,aeT,DY]at hi;exact⟨by cases hh:hget h0 i<;>simp_all,by cases hh:hget h' i<;>simp_all⟩
  have hold:∀i L,memN i ids=false->ρ i=some L->ρ2 i=some L:=λi L g1 g2=>by
   simp only[ρ2,(hout i g1).2,ac8,acT,if_false,g2]
  have hget2:∀id W,hget (h'++dropH ids keep st.h) id=some W->hget h' id=some W\/(hget h' id=none/\hget h0 id=none/\memN id ids=false/\∃W0,hget st.h id=some W0/\W=kO ids keep W0):=by
   intro id W hW;rw[C9]at hW
   cases hh:hget h' id with
   | some W1=>rw[hh]at hW;exact .inl hW
   | none=>
    rw[hh,ad2,tM]at hW;split at hW
    ·cases hW
    ·rename_i hm;obtain⟨W0,g1,g2⟩:=acE.1 hW;exact .inr ⟨rfl,(hout id (by simpa using hm)).1,by simpa using hm,W0,g1,g2.symm⟩
  have hX1:∀b,XX E.X0 ρ2 (h'++dropH ids keep st.h) b->XX E.X0 ρ' h' b\/XX E.X0 ρ st.h b:=by
   rintro b (hb | ⟨id,W,L,g1,g2,g3⟩);exact .inl (.inl hb)
   ·rcases hget2 id W g1 with g4 | ⟨g4,g5,g6,W0,g7,_⟩
    ·simp only[ρ2,g4,adi,if_true]at g2;exact .inl (.inr ⟨id,W,L,g4,g2,g3⟩)
    ·simp only[ρ2,g4,ac8,acT,if_false]at g2;exact .inr (.inr ⟨id,W0,L,g7,g2,g3⟩)
  have hX2:∀b,b<w.heap.size->¬XX E.X0 ρ st.h b->¬XX E.X0 ρ2 (h'++dropH ids keep st.h) b:=by
   intro b hb hn hx;rcases hX1 b hx with(g | g) | g;exact hn (.inl g)
   ·rcases q6 b g with g1 | g1;omega
    exact hn (hx1 b (.inr g1))
   exact hn g
  have hw:∀b,¬XX E.X0 ρ st.h b->b<w.heap.size->w'.heap[b]?=w.heap[b]?:=λb hn hb=>q5 b hb (λg=>hn (hx1 b (.inr g)))
  have hkeep:∀i L b,memN i keep=true->ρ i=some L->L.b=some b->∃L',ρ2 i=some L'/\L'.b=some b/\L'.o=L.o:=by
   intro i L b hm hL hb;obtain⟨j,fo,g1,g2⟩:=xR hm
   have hj:j<vs.size:=by
    have:=(List.getElem?_eq_some_iff.1 g1).1;simp at this;omega
   have hv:=Array.getElem?_eq_getElem hj;rw[List.getElem?_map]at g1;obtain⟨y,e1,e2⟩:=acE.1 g1;have r1:=(hrv j _ y hv e1).1;rw[e2]at r1;have r2:=has j _ _ hv g2;by_cases hd:(hget h' i).isSome=true
   ·generalize vs[j]=vj at r1 r2
    cases r1 with
    | aa _ _ _ L1 b1 hL1 hb1=>
     rw[hL]at hL1;obtain rfl:=Option.some.inj hL1;rw[hb]at hb1;obtain rfl:=Option.some.inj hb1;generalize hz:(Value.pointer (some ⟨b,L.o+fo,none⟩))=z at r2
     cases r2 with
     | aa _ _ _ L2 b2 hL2 hb2=>
      have hz':b=b2/\L.o+fo=L2.o+fo:=by
       injection hz with hz
       injection hz with hz
       injection hz with hz1 hz2
       exact⟨hz1,hz2⟩
      exact⟨L2,hin i L2 hd hL2,by rw[hb2,hz'.1],acB⟩
   exact⟨L,by simp only[ρ2,hd,acT,if_false,hL],hb,rfl⟩
  have hun:∀id W0 L b,hget st.h id=some W0->hget h0 id=none->ρ id=some L->L.b=some b->b<w.heap.size/\w'.heap[b]?=w.heap[b]?:=by
   intro id W0 L b g1 g2 g3 g4;have hb:=gT h ⟨id,W0,L,g1,g3,g4⟩;refine⟨hb,q5 b hb ?_⟩;rintro⟨id',W',L',e1,e2,e3⟩;have:=h.heap.cw id id' W0 W' L L' b g1 (hsub _ _ e1) g3 e2 g4 e3;subst this;rw[e1]at g2;cases g2
  have hapart:∀i W L b j W0 L',hget h' i=some W->ρ' i=some L->L.b=some b->hget st.h j=some W0->hget h0 j=none->ρ j=some L'->L'.b=some b->False:=by
   intro i W L b j W0 L' g1 g2 g3 f1 f2 f3 f4;rcases q6 b ⟨i,W,L,g1,g2,g3⟩with g | ⟨id',W',L2,e1,e2,e3⟩
   ·have:=(hun j W0 L' b f1 f2 f3 f4).1;omega
   ·have:=h.heap.cw j id' W0 W' L' L2 b f1 (hsub _ _ e1) f3 e2 f4 e3;subst this;rw[e1]at f2;cases f2
  refine⟨v,ρ2,gU st h0 args h' as,r,rfl,⟨h.defers.turn (λb hb=>q5 b (Array.getElem?_eq_some_iff.1 hb).1 (λ⟨id',W',L',e1,e2,e3⟩=>j8 h.heap hb ⟨id',W',L',hsub _ _ e1,e2,e3⟩)),h.size,λk av hk=>?_,⟨λid W hW=>?_,λi j W W' L L' b e1 e2 e3 e4 e5 e6=>?_,λid W L b e1 e2 e3 hx=>?_⟩,λid W L b e1 e2 e3=>?_,?_,λb hb=>acR (h.x0 b hb) q4⟩,?_,k3,λhqq=>?_⟩
  ·simp only[gU,kh]at hk
   cases hb:sget (backS st.s h' args as) k with
   | some av1=>
    rw[hb]at hk;obtain rfl:av1=av:=Option.some.inj hk;obtain⟨j,i,o,n,g1,g2,rfl,g3,g4⟩:=wj hb
    have hj:j<vs.size:=by
     have:=(List.getElem?_eq_some_iff.1 g1).1;omega
    have hv:=Array.getElem?_eq_getElem hj;obtain⟨e1,e2⟩:=hrv j _ _ hv g1;obtain⟨e3,e4⟩:=e2 k rfl;obtain⟨av0,hav0⟩:=adX.1 g4;have hkN:k<E.N:=(h.aM k av0 hav0).1.resolve_right (afo.2 e3);refine⟨.inl hkN,?_⟩
    have hsv:aP E a k=vs[j]:=by
     unfold aP;rw[if_pos hkN,e4]
    rw[hsv]
    exact(has j _ _ hv g2).cA (h:=h') g3 hin
   | none=>
    rw[hb,ad2,yX]at hk;obtain⟨av0,g1,rfl⟩:=acE.1 hk;obtain⟨g2,g3⟩:=h.aM k av0 g1;exact⟨g2,(g3.kI hold hkeep).mono hw hX2 _ (λ_ _ h=>h)⟩
  ·rcases hget2 id W hW with g4 | ⟨g4,g5,g6,W0,g7,rfl⟩
   ·obtain⟨L,g1,g2⟩:=hH.win id W g4;refine⟨L,hin id L (by rw[g4];rfl) g1,?_⟩;have hiw:=Cy k1 g4
    cases W with
    | arr sz es=>exact abR hiw g2
    | var cs=>
     obtain⟨b,e1,cur,t,fz,e2,e3,e4,e5,e6⟩:=g2;refine⟨b,e1,cur,t,fz,e2,e3,e4,e5,λj v a e7 e8=>?_⟩
     exact(e6 j v a e7 e8).cA (acI.1 hiw a (acS e8)) hin
    | mp kd l=>exact abS hiw g2
   ·obtain⟨L,g1,g2⟩:=h.heap.win id W0 g7;refine⟨L,hold id L g6 g1,?_⟩
    cases W0 with
    | arr sz es=>exact g2.mono (λb hb=>(hun id _ L b g7 g5 g1 hb).2) hw hX2 (λ_ _ h=>h) (ρ':=ρ)
    | var cs=>
     obtain⟨b,e1,cur,t,fz,e2,e3,e4,e5,e6⟩:=g2;refine⟨b,e1,cur,t,fz,(hun id _ L b g7 g5 g1 e1).2.trans e2,e3,by simpa using e4,by simp,λj v a e7 e8=>?_⟩;rw[List.getElem?_map]at e8;obtain⟨a',e9,rfl⟩:=acE.1 e8
     exact((e6 j v a' e7 e9).cf hold hkeep).mono hw hX2 _ (λ_ _ h=>h)
    | mp kd l=>exact g2.mono (λb hb=>(hun id _ L b g7 g5 g1 hb).2) hw hX2 (λ_ _ h=>h) (ρ':=ρ)
  ·rcases hget2 i W e1 with g4 | ⟨g4,g5,g6,W0,g7,rfl⟩
   ·simp only[ρ2,g4,adi,if_true]at e3;rcases hget2 j W' e2 with f4 | ⟨f4,f5,f6,W0',f7,rfl⟩
    ·simp only[ρ2,f4,adi,if_true]at e4;exact hH.cw i j W W' L L' b g4 f4 e3 e4 e5 e6
    ·simp only[ρ2,f4,ac8,acT,if_false]at e4;exact(hapart i W L b j W0' L' g4 e3 e5 f7 f5 e4 e6).elim
   ·simp only[ρ2,g4,ac8,acT,if_false]at e3;rcases hget2 j W' e2 with f4 | ⟨f4,f5,f6,W0',f7,rfl⟩
    ·simp only[ρ2,f4,adi,if_true]at e4;exact(hapart j W' L' b i W0 L f4 e4 e6 g7 g5 e3 e5).elim
    ·simp only[ρ2,f4,ac8,acT,if_false]at e4;exact h.heap.cw i j W0 W0' L L' b g7 f7 e3 e4 e5 e6
  ·rcases hget2 id W e1 with g4 | ⟨g4,g5,g6,W0,g7,rfl⟩
   ·simp only[ρ2,g4,adi,if_true]at e2;exact hH.out id W L b g4 e2 e3 hx
   ·simp only[ρ2,g4,ac8,acT,if_false]at e2;exact h.heap.out id W0 L b g7 e2 e3 hx
  ·rcases hget2 id W e1 with g4 | ⟨g4,g5,g6,W0,g7,rfl⟩
   ·simp only[ρ2,g4,adi,if_true]at e2;rcases q6 b ⟨id,W,L,g4,e2,e3⟩with g | ⟨id',W',L',f1,f2,f3⟩;exact .inl (adt h.ai.size g);exact h.base id' W' L' b (hsub _ _ f1) f2 f3
   ·simp only[ρ2,g4,ac8,acT,if_false]at e2;exact h.base id W0 L b g7 e2 e3
  ·refine⟨q1.trans h.ai.os,q2.trans h.ai.tape,q3.trans h.ai.output,adt h.ai.size q4,λb hb hF=>(q5 b (acR hb h.ai.size) ?_).trans (h.ai.block b hb hF),h.ai.cn⟩;rintro⟨id',W',L',f1,f2,f3⟩;rcases h.base id' W' L' b (hsub _ _ f1) f2 f3 with g | g;omega
   exact hF g
  exact hr.OL k2 hin
  ·have h00:=hq hqq;subst h00;exact⟨q1,q2,q3,q4,λb hb=>q5 b hb fI⟩
end Go.Proofs.YtgghhaahnpbnmaaGreatDoor.Eng
