/- The proof, part 10 of 25. -/
import Derived.Test.YtjoefngnjoofeaaGreatDoorPackBuildsG
import Derived.Test.YtjoefngnjoofeaaGreatDoorPackBuildsH
import Derived.Test.YtjoefngnjoofeaaGreatDoorPackBuildsI
import Derived.Below
set_option linter.all false
namespace Go.Proofs.YtjoefngnjoofeaaGreatDoor.Eng
structure KS where
 ap:St→Prop
structure KQ where
 ap:Exit→St→Prop
inductive ROp where
 | v (d:Nat) (o:AO)
 | val (d:Nat) (q:Bool) (id:Nat) (o:AO)
 | eff (d:Nat) (q:Bool) (id:Nat) (o:AO)
 | aH (q:Bool) (id:Nat) (o:AO)
 | aj (d:Option Nat) (q:Bool) (id:Nat) (f:Nat) (args:List AE)
 | dyn (d:Option Nat) (q:Bool) (id:Nat) (x:AE) (args:List AE)
 | af (d:Nat) (j:Nat) (want:Bool) (q:Bool) (id:Nat) (o:AO)
 | iE (d:Nat) (j:Nat) (want:Bool) (q:Bool) (id:Nat) (f:Nat) (args:List AE)
 | pE (d:Option Nat) (j:Nat) (want:Bool) (q:Bool) (id:Nat) (o:AO)
def ROp.er (B:Nat):ROp→bG
 | .v d o=>⟨some d,none,false,B+d,o⟩
 | .val d q id o=>⟨some d,none,q,id,o⟩
 | .eff d q id o=>⟨some d,none,q,id,o⟩
 | .aH q id o=>⟨none,none,q,id,o⟩
 | .aj d q id f args=>⟨d,none,q,id,.call f args⟩
 | .dyn d q id x args=>⟨d,none,q,id,.dyn x args⟩
 | .af d j want q id o=>⟨some d,some (j,want),q,id,o⟩
 | .iE d j want q id f args=>⟨some d,some (j,want),q,id,.call f args⟩
 | .pE d j want q id o=>⟨d,some (j,want),q,id,o⟩
def evL (st:St):List AE→List AV
 | []=>[]
 | x::r=>ev st x::evL st r
theorem jf (st:St):∀l,evL st l=l.map (ev st)
 | []=>rfl
 | x::r=>by simp[evL,jf st r]
def aopsW (P:Program):List ROp→St→KS→Prop
 | [],st,K=>K.ap st
 | .v d o::r,st,K=>(avalR true st o).To fun v=>aopsW P r (put st (some d) v) K
 | .val d _ _ o::r,st,K=>(avalR true st o).To fun v=>aopsW P r (put st (some d) v) K
 | .eff d _ id o::r,st,K=>(effR id st o).To fun v st'=>aopsW P r (put st' (some d) v) K
 | .aH _ id o::r,st,K=>(effR id st o).To fun _ st'=>aopsW P r st' K
 | .aj d q _ f args::r,st,K=>fv P q st f args fun v st'=>aopsW P r (put st' d v) K
 | .dyn d q _ x args::r,st,K=>adyn P q st (ev st x) args fun v st'=>aopsW P r (put st' d v) K
 | .af d j want _ _ o::r,st,K=>match grd (sget st.s j) want with
  | some γ=>(γ=false∧aopsW P r (put st (some d) (.gd false .undef)) K)∨(avalR γ st o).To fun v=>aopsW P r (put st (some d) (.gd γ v)) K
  | none=>False
 | .iE d j want q _ f args::r,st,K=>match grd (sget st.s j) want with
  | some γ=>(γ=false∧aopsW P r (put st (some d) (.gd false .undef)) K)∨(γ=true∧fv P q st f args fun v st'=>aopsW P r (put st' (some d) (.gd true v)) K)∨ru P q γ st f args fun v=>aopsW P r (put st (some d) (.gd γ v)) K
  | none=>False
 | .pE d j want _ id o::r,st,K=>match grd (sget st.s j) want with
  | some γ=>(γ=false∧aopsW P r (put st d (.gd false .undef)) K)∨(γ=true∧(effR id st o).To fun v st'=>aopsW P r (put st' d (.gd true v)) K)
  | none=>False
def ns (P:Program) (g:Option Bool) (d:Option Nat) (id:Nat) (o:AO) (r:List ROp) (st:St) (K:KS):Prop:=
 match g with
 | some γ=>(γ=false∧aopsW P r (put st d (.gd false .undef)) K)∨(γ=true∧(effR id st o).To fun v st'=>aopsW P r (put st' d (.gd true v)) K)
 | none=>False
def geff2 (P:Program) (x:RS) (d:Option Nat) (r:List ROp) (K:KS):Prop:=
 match x with
 | .ok c v st=>c∧aopsW P r (put st d (.gd true v)) K
 | .fail=>False
def valW (P:Program) (x:Res) (d:Nat) (r:List ROp) (st:St) (K:KS):Prop:=
 match x with
 | .ok c v=>c∧aopsW P r ⟨(d,v)::st.s,st.h⟩ K
 | .fail=>False
def l8 (P:Program) (x:RS) (d:Nat) (r:List ROp) (K:KS):Prop:=
 match x with
 | .ok c v st=>c∧aopsW P r ⟨(d,v)::st.s,st.h⟩ K
 | .fail=>False
def l7 (P:Program) (x:RS) (r:List ROp) (K:KS):Prop:=
 match x with
 | .ok c _ st=>c∧aopsW P r st K
 | .fail=>False
def gh (P:Program) (q:Bool) (st:St) (f:Nat) (args:List AE) (as:List AV) (d:Option Nat) (r:List ROp) (K:KS):Prop:=
 as=args.map (ev st)→fv P q st f args fun v st'=>aopsW P r (put st' d v) K
def pL (P:Program) (g:Option Bool) (d:Nat) (o:AO) (r:List ROp) (st:St) (K:KS):Prop:=
 match g with
 | some γ=>(γ=false∧aopsW P r (put st (some d) (.gd false .undef)) K)∨(avalR γ st o).To fun v=>aopsW P r (put st (some d) (.gd γ v)) K
 | none=>False
def pK (P:Program) (γ:Bool) (x:Res) (d:Nat) (r:List ROp) (st:St) (K:KS):Prop:=
 (γ=false∧aopsW P r ⟨(d,.gd false .undef)::st.s,st.h⟩ K)∨match x with
 | .ok c v=>c∧aopsW P r ⟨(d,.gd γ v)::st.s,st.h⟩ K
 | .fail=>False
def kV (P:Program) (γ:Bool) (d:Nat) (o:AO) (r:List ROp) (st:St) (K:KS):Prop:=pK P γ (avalR γ st o) d r st K
def sL (P:Program) (d:Nat) (o:AO) (r:List ROp) (st:St) (K:KS):Prop:=pK P false (avalR false st o) d r st K
def pD (P:Program) (q:Bool) (g:Option Bool) (st:St) (f:Nat) (args:List AE) (as:List AV) (d:Nat) (r:List ROp) (K:KS):Prop:=
 as=args.map (ev st)→match g with
 | some γ=>(γ=false∧aopsW P r (put st (some d) (.gd false .undef)) K)∨(γ=true∧fv P q st f args fun v st'=>aopsW P r (put st' (some d) (.gd true v)) K)∨ru P q γ st f args fun v=>aopsW P r (put st (some d) (.gd γ v)) K
 | none=>False
def rS (P:Program) (q:Bool) (st:St) (f:Nat) (args:List AE) (as:List AV) (d:Nat) (r:List ROp) (K:KS):Prop:=
 as=args.map (ev st)→fv P q st f args fun v st'=>aopsW P r (put st' (some d) (.gd true v)) K
section
variable {P:Program} {st:St} {K:KS} {r:List ROp} {q:Bool} {id d j:Nat} {o:AO}
theorem Fl:aopsW P [] st K=K.ap st:=(rfl)
theorem Fo:aopsW P (.val d q id o::r) st K=valW P (avalR true st o) d r st K:=by
 simp only[aopsW,valW];cases avalR true st o<;>rfl
theorem Fm:aopsW P (.v d o::r) st K=valW P (avalR true st o) d r st K:=by
 simp only[aopsW,valW];cases avalR true st o<;>rfl
theorem uO {c:Prop} {v:AV}:valW P (.ok c v) d r st K=(c∧aopsW P r ⟨(d,v)::st.s,st.h⟩ K):=(rfl)
theorem az8:valW P .fail d r st K=False:=(rfl)
theorem Fg:aopsW P (.eff d q id o::r) st K=l8 P (effR id st o) d r K:=by
 simp only[aopsW,l8];cases effR id st o<;>rfl
theorem sf {c:Prop} {v:AV}:l8 P (.ok c v st) d r K=(c∧aopsW P r ⟨(d,v)::st.s,st.h⟩ K):=(rfl)
theorem My:l8 P .fail d r K=False:=(rfl)
theorem Fh:aopsW P (.aH q id o::r) st K=l7 P (effR id st o) r K:=by
 simp only[aopsW,l7];cases effR id st o<;>rfl
theorem sd {c:Prop} {v:AV}:l7 P (.ok c v st) r K=(c∧aopsW P r st K):=(rfl)
theorem Mq:l7 P .fail r K=False:=(rfl)
theorem vt {d:Option Nat} {f:Nat} {args:List AE}:aopsW P (.aj d q id f args::r) st K=gh P q st f args (evL st args) d r K:=by
 simp only[aopsW,gh,jf,forall_const]
def pg (P:Program) (q:Bool) (st:St) (v:AV) (args:List AE) (as:List AV) (d:Option Nat) (r:List ROp) (K:KS):Prop:=
 as=args.map (ev st)→adyn P q st v args fun v st'=>aopsW P r (put st' d v) K
theorem Ff {d:Option Nat} {x:AE} {args:List AE}:aopsW P (.dyn d q id x args::r) st K=pg P q st (ev st x) args (evL st args) d r K:=by
 simp only[aopsW,pg,jf,forall_const]
theorem xv {d:Option Nat} {f:Nat} {args:List AE} {as:List AV} (hf:callable P f=true) (h:gh P q st f args as d r K):pg P q st (.lit (.func (.func f) #[] #[])) args as d r K:=
 fun e=>⟨⟨rfl,rfl⟩,hf,h e⟩
theorem xu {d:Option Nat} {f:Nat} {args bargs:List AE} {as bs cs:List AV} (hf:callable P f=true) (ha:args++cs.map .c=bargs) (hb:as++cs=bs) (h:gh P q st f bargs bs d r K):pg P q st (.aR f cs) args as d r K:=by
 rintro rfl
 subst ha hb
 refine⟨hf,h ?_⟩
 rw[List.map_append,List.map_map]
 congr 1
 exact(List.map_id' cs).symm.trans (List.map_congr_left fun c _=>rfl)
theorem Fk {w:Bool}:aopsW P (.af d j w q id o::r) st K=pL P (grd (sget st.s j) w) d o r st K:=(rfl)
theorem OS {γ:Bool}:pL P (some γ) d o r st K=kV P γ d o r st K:=by
 simp only[pL,kV,pK];cases avalR γ st o<;>rfl
def pJ (P:Program) (γ:Bool) (x:Res) (d:Nat) (r:List ROp) (st:St) (K:KS):Prop:=
 match x with
 | .ok c v=>c∧aopsW P r ⟨(d,.gd γ v)::st.s,st.h⟩ K
 | .fail=>False
theorem OM {γ:Bool} {c:Prop} {v:AV}:pJ P γ (.ok c v) d r st K=(c∧aopsW P r ⟨(d,.gd γ v)::st.s,st.h⟩ K):=(rfl)
theorem OO:kV P false d o r st K=sL P d o r st K:=by simp only[kV,sL]
theorem OP:kV P true d o r st K=pJ P true (avalR true st o) d r st K:=by
 simp[kV,pK,pJ]
theorem dW (h:aopsW P r ⟨(d,.gd false .undef)::st.s,st.h⟩ K):sL P d o r st K:=.inl ⟨rfl,h⟩
theorem dV {γ:Bool} (h:pJ P γ (avalR γ st o) d r st K):kV P γ d o r st K:=.inr h
theorem E8 {c p:Prop} (h:c):(c∧p)=p:=by simp[h]
theorem OQ:pL P none d o r st K=False:=(rfl)
theorem Fj {w:Bool} {d:Option Nat}:aopsW P (.pE d j w q id o::r) st K=ns P (grd (sget st.s j) w) d id o r st K:=(rfl)
theorem Ox {d:Option Nat}:ns P (some true) d id o r st K=geff2 P (effR id st o) d r K:=by
 simp only[ns,geff2,Bool.true_eq_false,false_and,false_or,true_and];cases effR id st o<;>rfl
theorem Ow {d:Option Nat}:ns P (some false) d id o r st K=aopsW P r (put st d (.gd false .undef)) K:=by
 simp[ns]
theorem Ov {d:Option Nat} {c:Prop} {v:AV}:geff2 P (.ok c v st) d r K=(c∧aopsW P r (put st d (.gd true v)) K):=(rfl)
theorem Fi {w:Bool} {f:Nat} {args:List AE}:aopsW P (.iE d j w q id f args::r) st K=pD P q (grd (sget st.s j) w) st f args (evL st args) d r K:=by
 simp only[aopsW,pD,jf,forall_const]
end
theorem vr {P:Program} {q:Bool} {st:St} {id:Nat} {o:AO} {K:AV→St→Prop} (h:(avalR true st o).To fun v=>K v st):aop1 P q st id o K:=by
 have h':=vC h
 cases o<;>first | exact h.elim | (simp only[aop1,isEff,Bool.false_eq_true,if_false];exact h')
theorem rD {P:Program} {q:Bool} {st:St} {id:Nat} {o:AO} {K:AV→St→Prop} (h:(effR id st o).To K):aop1 P q st id o K:=by
 have h':=Mt h
 cases o<;>first | exact h.elim | (simp only[aop1,isEff,if_true];exact h')
theorem Fc {P:Program} {q γ:Bool} {st:St} {o:AO} {K:AV→Prop} (h:(avalR γ st o).To K):aopG P q γ st o K:=by
 have h':=vC h
 cases o<;>first | exact h.elim | exact h'
theorem eh {P:Program} {B:Nat} {K:KS} {K':St→Prop} (hK:∀st,K.ap st→K' st):∀(l:List ROp) {st:St},aopsW P l st K→aops P (l.map (ROp.er B)) st K'
 | [],st,h=>hK _ h
 | .v d o::r,st,h=>by
  refine vr ?_
  simp only[aopsW]at h
  revert h
  cases avalR true st o with
  | ok c v=>exact fun h=>⟨h.1,eh hK r h.2⟩
  | fail=>exact fun h=>h
 | .val d q id o::r,st,h=>by
  refine vr ?_
  simp only[aopsW]at h
  revert h
  cases avalR true st o with
  | ok c v=>exact fun h=>⟨h.1,eh hK r h.2⟩
  | fail=>exact fun h=>h
 | .eff d q id o::r,st,h=>by
  refine rD ?_
  simp only[aopsW]at h
  revert h
  cases effR id st o with
  | ok c v st'=>exact fun h=>⟨h.1,eh hK r h.2⟩
  | fail=>exact fun h=>h
 | .aH q id o::r,st,h=>by
  refine rD ?_
  simp only[aopsW]at h
  revert h
  cases effR id st o with
  | ok c v st'=>exact fun h=>⟨h.1,eh hK r h.2⟩
  | fail=>exact fun h=>h
 | .aj d q id f args::r,st,h=>by
  intro E ρ a w vs h1 h2 h3
  refine(h E ρ a w vs h1 h2 h3).mono ?_
  rintro e w' ⟨v,ρ',st',av,g1,g2,g3,g4,g5⟩
  exact⟨v,ρ',st',av,g1,g2,g3,eh hK r g4,g5⟩
 | .dyn d q id x args::r,st,h=>by
  simp only[aopsW]at h
  simp only[List.map_cons,ROp.er,aops,aop1]
  revert h
  unfold adyn
  split
  ·rintro⟨e1,e2,h⟩
   refine⟨e1,e2,fun E ρ a w vs h1 h2 h3=>(h E ρ a w vs h1 h2 h3).mono ?_⟩
   rintro e w' ⟨v,ρ',st',av,g1,g2,g3,g4,g5⟩
   exact⟨v,ρ',st',av,g1,g2,g3,eh hK r g4,g5⟩
  ·rintro⟨e1,h⟩
   refine⟨e1,fun E ρ a w vs h1 h2 h3=>(h E ρ a w vs h1 h2 h3).mono ?_⟩
   rintro e w' ⟨v,ρ',st',av,g1,g2,g3,g4,g5⟩
   exact⟨v,ρ',st',av,g1,g2,g3,eh hK r g4,g5⟩
  ·exact fun h=>h
 | .af d j want q id o::r,st,h=>by
  simp only[aopsW]at h
  simp only[List.map_cons,ROp.er,aops]
  revert h
  cases grd (sget st.s j) want with
  | none=>exact fun h=>h
  | some γ=>
   intro h
   have h:(γ=false∧aopsW P r (put st (some d) (.gd false .undef)) K)∨(avalR γ st o).To fun v=>aopsW P r (put st (some d) (.gd γ v)) K:=h
   refine h.imp (fun x=>⟨x.1,eh hK r x.2⟩) (fun h=>.inr ?_)
   refine Fc ?_
   revert h
   cases avalR γ st o with
   | ok c v=>exact fun h=>⟨h.1,eh hK r h.2⟩
   | fail=>exact fun h=>h
 | .iE d j want q id f args::r,st,h=>by
  simp only[aopsW]at h
  simp only[List.map_cons,ROp.er,aops]
  revert h
  cases grd (sget st.s j) want with
  | none=>exact fun h=>h
  | some γ=>
   rintro(x | x | ⟨v,h1,h2⟩)
   ·exact .inl ⟨x.1,eh hK r x.2⟩
   ·refine .inr (.inl ⟨x.1,fun E ρ a w vs h1 h2 h3=>(x.2 E ρ a w vs h1 h2 h3).mono ?_⟩)
    rintro e w' ⟨v,ρ',st',av,g1,g2,g3,g4,g5⟩
    exact⟨v,ρ',st',av,g1,g2,g3,eh hK r g4,g5⟩
   ·exact .inr (.inr ⟨v,h1,eh hK r h2⟩)
 | .pE d j want q id o::r,st,h=>by
  simp only[aopsW]at h
  simp only[List.map_cons,ROp.er,aops]
  revert h
  cases grd (sget st.s j) want with
  | none=>exact fun h=>h
  | some γ=>
   rintro(x | ⟨x,h⟩)
   ·exact .inl ⟨x.1,eh hK r x.2⟩
   ·refine .inr (.inl ⟨x,rD ?_⟩)
    revert h
    cases effR id st o with
    | ok c v st'=>exact fun h=>⟨h.1,eh hK r h.2⟩
    | fail=>exact fun h=>h
theorem lV {P:Program} {B:Nat} (l:List ROp) {st:St} {K:KS} (h:aopsW P l st K):aops P (l.map (ROp.er B)) st K.ap:=eh (fun _ h=>h) l h
def trim (s:List (Nat×AV)):List Nat→List (Nat×AV)
 | []=>[]
 | k::r=>match sget s k with
  | some v=>(k,v)::trim s r
  | none=>trim s r
def uK (o:Option AV) (k:Nat) (s:List (Nat×AV)) (r:List Nat):List (Nat×AV):=
 match o with
 | some v=>(k,v)::trim s r
 | none=>trim s r
theorem azt (s:List (Nat×AV)) (k:Nat) (r:List Nat):trim s (k::r)=uK (sget s k) k s r:=(rfl)
theorem azu (s:List (Nat×AV)):trim s []=[]:=(rfl)
theorem azs (v:AV) (k:Nat) (s:List (Nat×AV)) (r:List Nat):uK (some v) k s r=(k,v)::trim s r:=(rfl)
theorem azr (k:Nat) (s:List (Nat×AV)) (r:List Nat):uK none k s r=trim s r:=(rfl)
theorem lz (s:List (Nat×AV)):∀ks,eM s (trim s ks)
 | []=>trivial
 | k::r=>by
  unfold trim
  split
  ·rename_i v hv;exact⟨hv,lz s r⟩
  ·exact lz s r
theorem mC {E:Env} {ρ:Loc} {st:St} {s':List (Nat×AV)} {a:Act} {w:World} (h:au E ρ st a w) (hs:eM st.s s'):au E ρ ⟨s',st.h⟩ a w:=
 ⟨h.defers,h.size,fun k av hk=>h.bD k av (tj hs k av hk),h.heap,h.base,h.aL,h.x0⟩
inductive DT where
 | die (o:ROp)
 | step (o:ROp) (t:DT)
 | br (x y:DT)
def DT.er (B:Nat):DT→AT bG
 | .die o=>.cons (o.er B) .nil
 | .step o t=>.cons (o.er B) (t.er B)
 | .br x y=>.br (x.er B) (y.er B)
def o9 (o:ROp):Bool:=r8 (o.er 0)
theorem xg (o:ROp) (B:Nat):r8 (o.er B)=o9 o:=by cases o<;>rfl
def DT.ok:DT→Bool
 | .die o=>o9 o
 | .step o t=>!o9 o&&t.ok
 | .br x y=>x.ok&&y.ok
def dieOpW (P:Program) (o:ROp) (st:St) (Q:KQ):Prop:=
 match o with
 | .aj _ _ _ f args=>oq P st f args fun V st'=>Q.ap (.panic (cL V)) st'
 | .aH _ _ (.fk x)=>∃t v,ev st x=.lit (.iface t v)∧Q.ap (.panic (cL (.iface t v))) st
 | _=>False
def dtW (P:Program):DT→St→KQ→Prop
 | .die o,st,Q=>dieOpW P o st Q
 | .step o t,st,Q=>aopsW P [o] st ⟨fun st'=>dtW P t st' Q⟩
 | .br x y,st,Q=>dtW P x st Q∧dtW P y st Q
theorem xf {P:Program} {B:Nat} {o:ROp} {st:St} {Q:KQ} (h:dieOpW P o st Q):dieOp P (o.er B) st fun V st'=>Q.ap (.panic (cL V)) st':=by
 unfold dieOpW at h
 split at h
 ·exact h
 ·exact h
 ·exact h.elim
theorem pe {P:Program} {B:Nat} {Q:KQ}:∀(T:DT) {st:St},T.ok=true→dtW P T st Q→dieF P (T.er B) st fun V st'=>Q.ap (.panic (cL V)) st'
 | .die o,st,hok,h=>by
  simp only[DT.er,dieF,xg,show o9 o=true from hok,if_true]
  exact xf h
 | .step o t,st,hok,h=>by
  simp only[DT.ok,Bool.and_eq_true,Bool.not_eq_true']at hok
  simp only[DT.er,dieF,xg,hok.1,Bool.false_eq_true,if_false]
  exact eh (K:=⟨fun st'=>dtW P t st' Q⟩) (fun st' h'=>pe t hok.2 h') [o] h
 | .br x y,st,hok,h=>by
  simp only[DT.ok,Bool.and_eq_true]at hok
  exact⟨pe x hok.1 h.1,pe y hok.2 h.2⟩
theorem vu (P:Program) (o:ROp) (r:List ROp) (st:St) (K:KS):aopsW P (o::r) st K=aopsW P [o] st ⟨fun st'=>aopsW P r st' K⟩:=by cases o<;>rfl
theorem xc {P:Program} {B:Nat} {K:KS} {K':St→Prop} {KD:Value→St→Prop} (hK:∀st,K.ap st→K' st):∀(l:List ROp) {st:St},aopsW P l st K→l3 P (l.map (ROp.er B)) st K' KD
 | [],st,h=>hK _ h
 | o::r,st,h=>by
  rw[vu]at h
  exact .inr (eh (fun st' h'=>xc hK r h') [o] h)
theorem xo {P:Program} {B:Nat} {Q:KQ} {K:KS} {K':St→Prop} {o:ROp} {post:List ROp} (hK:∀st,K.ap st→K' st):∀(pre:List ROp) {st:St},aopsW P pre st ⟨fun st'=>dieOpW P o st' Q∨aopsW P (o::post) st' K⟩ →
    l3 P ((pre++o::post).map (ROp.er B)) st K' fun V st'=>Q.ap (.panic (cL V)) st'
 | [],st,h=>by
  rcases h with h | h
  ·exact .inl (xf h)
  ·exact xc hK (o::post) h
 | p::r,st,h=>by
  rw[vu]at h
  exact .inr (eh (fun st' h'=>xo hK r h') [p] h)
inductive RT where
 | leaf (ops:List ROp)
 | node (p:List ROp) (x y:RT)
def RT.er (B:Nat):RT→AT bG
 | .leaf ops=>AT.pre (ops.map (ROp.er B)) .nil
 | .node p x y=>AT.pre (p.map (ROp.er B)) (.br (x.er B) (y.er B))
def iQ (P:Program):RT→St→KS→Prop
 | .leaf ops,st,K=>aopsW P ops st K
 | .node p x y,st,K=>aopsW P p st ⟨fun st=>iQ P x st K∧iQ P y st K⟩
def KS.two (P:Program) (x y:RT) (K:KS):KS:=⟨fun st=>iQ P x st K∧iQ P y st K⟩
theorem av9 {P:Program} {ops:List ROp} {st:St} {K:KS}:iQ P (.leaf ops) st K=aopsW P ops st K:=(rfl)
theorem awa {P:Program} {p:List ROp} {x y:RT} {st:St} {K:KS}:iQ P (.node p x y) st K=aopsW P p st (KS.two P x y K):=(rfl)
theorem ZH {P:Program} {x y:RT} {st:St} {K:KS}:(KS.two P x y K).ap st=(iQ P x st K∧iQ P y st K):=(rfl)
theorem uo {P:Program} {B:Nat} {K:KS} {K':St→Prop} (hK:∀st,K.ap st→K' st):∀(T:RT) {st:St},iQ P T st K→aopsT P (T.er B) st K'
 | .leaf ops,st,h=>by
  unfold RT.er
  rw[tL]
  exact eh (B:=B) hK ops h
 | .node p x y,st,h=>by
  unfold RT.er
  rw[tL]
  exact eh (B:=B) (fun st h=>⟨uo hK x h.1,uo hK y h.2⟩) p h
inductive AK where
 | skip
 | aa (ops:List ROp) (keep:List Nat)
 | seq (x y:AK)
 | cond (c:AE) (x y:AK)
 | block (id:Nat) (x:AK)
 | loop (x:AK)
 | exit (id:Nat)
 | ret
 | bc (x:AK)
 | scope (x:AK)
 | label (l:Nat)
 | goto (l:Nat)
 | split (ops:List ROp) (d f:Nat) (x:AE) (c:UInt8) (bk p q0:Nat) (body:AK)
 | alt (p x y:List ROp) (keep:List Nat)
 | gM (T:RT) (keep:List Nat)
 | dF (pre:List ROp) (o:ROp) (post:List ROp) (keep:List Nat)
 | ja (p x y:List ROp) (keep:List Nat) (T:DT)
 | fK (f:Nat) (args:List AE)
 | bad
def AK.erase (B:Nat):AK→AC
 | .skip=>.skip
 | .aa ops _=>.aa (ops.map (ROp.er B))
 | .seq x y=>.seq (x.erase B) (y.erase B)
 | .cond c x y=>.cond c (x.erase B) (y.erase B)
 | .block id x=>.block id (x.erase B)
 | .loop x=>.loop (x.erase B)
 | .exit id=>.exit id
 | .ret=>.ret
 | .bc x=>(x.erase B)
 | .scope x=>.scope (x.erase B)
 | .label l=>.label l
 | .goto l=>.goto l
 | .split ops d f x c bk p q0 body=>.seq (.nJ (ops.map (ROp.er B)++[⟨some d,none,false,B+d,.call f [x,.c (.str [c])]⟩])) (.block bk (.qy (.t d) [p] (.aa [⟨some q0,none,false,B+q0,.ah (.t p)⟩]) (body.erase B)))
 | .alt p x y _=>.alt (p.map (ROp.er B)) (x.map (ROp.er B)) (y.map (ROp.er B))
 | .gM T _=>.gM (T.er B)
 | .dF pre o post _=>.dF ((pre++o::post).map (ROp.er B))
 | .ja p x y _ T=>.ja (p.map (ROp.er B)) (x.map (ROp.er B)) (y.map (ROp.er B)) (T.er B)
 | .fK f args=>.fK f args
 | .bad=>.bad
def vcW (P:Program) (E:Env):AK→KQ→St→Prop
 | .skip,Q,st=>Q.ap .normal st
 | .aa ops ks,Q,st=>aopsW P ops st ⟨fun st=>Q.ap .normal ⟨trim st.s ks,st.h⟩⟩
 | .seq x y,Q,st=>vcW P E x ⟨jv (fun st=>vcW P E y Q st) Q.ap⟩ st
 | .cond c x y,Q,st=>match ev st c with
  | .bool b=>(b=true→vcW P E x Q st)∧(b=false→vcW P E y Q st)
  | _=>False
 | .block id x,Q,st=>vcW P E x ⟨blockQ id Q.ap⟩ st
 | .loop x,Q,st=>b7 P E (.loop (x.erase E.B)) st Q.ap
 | .exit id,Q,st=>Q.ap (.exit id) st
 | .ret,Q,st=>Q.ap .ret st
 | .bc x,Q,st=>b7 P E (x.erase E.B) st Q.ap
 | .scope x,Q,st=>b7 P E (.scope (x.erase E.B)) st Q.ap
 | .label _,Q,st=>Q.ap .normal st
 | .goto l,Q,st=>Q.ap (.goto l) st
 | .split ops d f x c bk p q0 body,Q,st=>aopsW P ops st ⟨nS P E d f x c bk p q0 (body.erase E.B) Q.ap⟩
 | .alt p x y ks,Q,st=>aopsW P p st ⟨fun st=>aopsW P x st ⟨fun st=>Q.ap .normal ⟨trim st.s ks,st.h⟩⟩∧aopsW P y st ⟨fun st=>Q.ap .normal ⟨trim st.s ks,st.h⟩⟩⟩
 | .gM T ks,Q,st=>iQ P T st ⟨fun st=>Q.ap .normal ⟨trim st.s ks,st.h⟩⟩
 | .dF pre o post ks,Q,st=>aopsW P pre st ⟨fun st=>dieOpW P o st Q∨aopsW P (o::post) st ⟨fun st=>Q.ap .normal ⟨trim st.s ks,st.h⟩⟩⟩
 | .ja p x y ks T,Q,st=>(aopsW P p st ⟨fun st=>aopsW P x st ⟨fun st=>Q.ap .normal ⟨trim st.s ks,st.h⟩⟩∧aopsW P y st ⟨fun st=>Q.ap .normal ⟨trim st.s ks,st.h⟩⟩⟩)∨(T.ok=true∧dtW P T st Q)
 | .fK _ _,_,_=>False
 | .bad,_,_=>False
def KS.aa (ks:List Nat) (Q:KQ):KS:=⟨fun st=>Q.ap .normal ⟨trim st.s ks,st.h⟩⟩
def KS.alt (P:Program) (x y:List ROp) (ks:List Nat) (Q:KQ):KS:=⟨fun st=>aopsW P x st (KS.aa ks Q)∧aopsW P y st (KS.aa ks Q)⟩
def l5 (P:Program) (o:ROp) (post:List ROp) (ks:List Nat) (Q:KQ) (st:St):Prop:=dieOpW P o st Q∨aopsW P (o::post) st (KS.aa ks Q)
def KS.xn (P:Program) (o:ROp) (post:List ROp) (ks:List Nat) (Q:KQ):KS:=⟨l5 P o post ks Q⟩
def KS.dt (P:Program) (T:DT) (Q:KQ):KS:=⟨fun st=>dtW P T st Q⟩
def KQ.seq (P:Program) (E:Env) (y:AK) (Q:KQ):KQ:=⟨jv (fun st=>vcW P E y Q st) Q.ap⟩
def KQ.de (id:Nat) (Q:KQ):KQ:=⟨blockQ id Q.ap⟩
def KQ.fq (R:KS) (Q:KQ):KQ:=⟨jv R.ap Q.ap⟩
def KS.C7 (P:Program) (E:Env) (d f:Nat) (x:AE) (c:UInt8) (bk p q0:Nat) (body:AK) (Q:KQ):KS:=⟨nS P E d f x c bk p q0 (body.erase E.B) Q.ap⟩
def ayo (P:Program) (E:Env) (d f:Nat) (x:AE) (c:UInt8) (bk p q0:Nat) (body:AK) (Q:KQ) (st:St):Prop:=nS P E d f x c bk p q0 (body.erase E.B) Q.ap st
def KQ.jmp (l:Nat) (R:KS) (Q:KQ):KQ:=⟨jumpQ l R.ap Q.ap⟩
def KQ.qb (Q:KQ):KQ:=⟨abv Q.ap⟩
def findK:AK→Nat→Option AK
 | .seq a b,l=>match findK a l with
  | some r=>some (.seq r b)
  | none=>findK b l
 | .label l',l=>if l'==l then some .skip else none
 | .bc x,l=>findK x l
 | _,_=>none
theorem pq (B:Nat):∀(c:AK) (l:Nat),findA (c.erase B) l=(findK c l).map (AK.erase B)
 | .seq a b,l=>by
  simp only[AK.erase,findA,findK,pq B a l]
  cases findK a l with
  | some r=>rfl
  | none=>exact pq B b l
 | .label l',l=>by
  simp only[AK.erase,findA,findK]
  split<;>rfl
 | .bc x,l=>by simp only[AK.erase,findK,pq B x l]
 | .skip,_ | .aa _ _,_ | .cond _ _ _,_ | .block _ _,_ | .loop _,_ | .exit _,_ | .ret,_ | .scope _,_ | .goto _,_ | .bad,_ | .alt _ _ _ _,_=>rfl
 | .split _ _ _ _ _ _ _ _ _,_=>rfl
 | .dF _ _ _ _,_=>rfl
 | .gM _ _,_=>rfl
 | .ja _ _ _ _ _,_=>rfl
 | .fK _ _,_=>rfl
def kY (P:Program) (E:Env) (b:Bool) (x y:AK) (Q:KQ) (st:St):Prop:=(b=true→vcW P E x Q st)∧(b=false→vcW P E y Q st)
def rW (P:Program) (E:Env) (v:AV) (x y:AK) (Q:KQ) (st:St):Prop:=
 match v with
 | .bool b=>kY P E b x y Q st
 | _=>False
section
variable {P:Program} {E:Env} {st:St} {Q:KQ} {x y:AK} {R:KS}
theorem ZF {ks:List Nat}:(KS.aa ks Q).ap st=Q.ap .normal ⟨trim st.s ks,st.h⟩:=(rfl)
theorem ZC {a b:List ROp} {ks:List Nat}:(KS.alt P a b ks Q).ap st=(aopsW P a st (KS.aa ks Q)∧aopsW P b st (KS.aa ks Q)):=(rfl)
theorem Zu:(KQ.seq P E y Q).ap .normal st=vcW P E y Q st:=(rfl)
theorem Zw:(KQ.seq P E y Q).ap .ret st=Q.ap .ret st:=(rfl)
theorem Zx {i:Nat}:(KQ.seq P E y Q).ap (.exit i) st=Q.ap (.exit i) st:=(rfl)
theorem YX {i:Nat}:(KQ.de i Q).ap .normal st=Q.ap .normal st:=(rfl)
theorem YZ {i:Nat}:(KQ.de i Q).ap .ret st=Q.ap .ret st:=(rfl)
theorem Y0 {i j:Nat}:(KQ.de i Q).ap (.exit j) st=if j=i then Q.ap .normal st else Q.ap (.exit j) st:=(rfl)
theorem Zt {i:Nat}:(KQ.seq P E y Q).ap (.goto i) st=Q.ap (.goto i) st:=(rfl)
theorem YW {i j:Nat}:(KQ.de i Q).ap (.goto j) st=Q.ap (.goto j) st:=(rfl)
theorem Zo {i:Nat}:(KQ.fq R Q).ap (.goto i) st=Q.ap (.goto i) st:=(rfl)
theorem Y7 {l:Nat}:(KQ.jmp l R Q).ap .normal st=Q.ap .normal st:=(rfl)
theorem Y9 {l:Nat}:(KQ.jmp l R Q).ap .ret st=Q.ap .ret st:=(rfl)
theorem Za {l i:Nat}:(KQ.jmp l R Q).ap (.exit i) st=Q.ap (.exit i) st:=(rfl)
theorem Y6 {l:Nat}:(KQ.jmp l R Q).ap (.goto l) st=R.ap st:=by simp[KQ.jmp,jumpQ]
theorem Zv {c:List PanicEntry}:(KQ.seq P E y Q).ap (.panic c) st=Q.ap (.panic c) st:=(rfl)
theorem YY {i:Nat} {c:List PanicEntry}:(KQ.de i Q).ap (.panic c) st=Q.ap (.panic c) st:=(rfl)
theorem Zq {c:List PanicEntry}:(KQ.fq R Q).ap (.panic c) st=Q.ap (.panic c) st:=(rfl)
theorem Y8 {l:Nat} {c:List PanicEntry}:(KQ.jmp l R Q).ap (.panic c) st=Q.ap (.panic c) st:=(rfl)
theorem Zc {c:List PanicEntry}:(KQ.qb Q).ap (.panic c) st=Q.ap (.panic c) st:=(rfl)
theorem ZE {T:DT}:(KS.dt P T Q).ap st=dtW P T st Q:=(rfl)
theorem Mf {o:ROp} {T:DT}:dtW P (.step o T) st Q=aopsW P [o] st (KS.dt P T Q):=(rfl)
theorem Md {T U:DT}:dtW P (.br T U) st Q=(dtW P T st Q∧dtW P U st Q):=(rfl)
def ni (P:Program) (st:St) (f:Nat) (args:List AE) (as:List AV) (Q:KQ):Prop:=as=evL st args→oq P st f args fun V st'=>Q.ap (.panic (cL V)) st'
def o6 (P:Program) (q:Bool) (st:St) (f:Nat) (args:List AE) (as:List AV) (d:Option Nat) (r:List ROp) (K:KS) (Q:KQ):Prop:=ni P st f args as Q∨gh P q st f args as d r K
theorem Me {d:Option Nat} {q:Bool} {id f:Nat} {args:List AE}:dtW P (.die (.aj d q id f args)) st Q=ni P st f args (evL st args) Q:=by
 simp[dtW,dieOpW,ni]
theorem ZD {o:ROp} {post:List ROp} {ks:List Nat}:(KS.xn P o post ks Q).ap st=l5 P o post ks Q st:=(rfl)
theorem LM {d:Option Nat} {q:Bool} {id f:Nat} {args:List AE} {post:List ROp} {ks:List Nat}:l5 P (.aj d q id f args) post ks Q st=o6 P q st f args (evL st args) d post (KS.aa ks Q) Q:=by
 simp[l5,dieOpW,o6,ni,vt]
def pncW (v:AV) (Q:KQ) (st:St):Prop:=
 match v with
 | .lit (.iface t x)=>Q.ap (.panic (cL (.iface t x))) st
 | _=>False
theorem af1 {t:TypeId} {x:Value}:pncW (.lit (.iface t x)) Q st=Q.ap (.panic (cL (.iface t x))) st:=(rfl)
theorem LN {q:Bool} {id:Nat} {x:AE} {post:List ROp} {ks:List Nat}:l5 P (.aH q id (.fk x)) post ks Q st=pncW (ev st x) Q st:=by
 apply propext
 unfold l5 dieOpW pncW
 constructor
 ·rintro(⟨t,v,h1,h2⟩ | h)
  ·rw[h1];exact h2
  ·exact h.elim
 ·intro h
  split at h
  ·rename_i t v e
   exact .inl ⟨t,v,e,h⟩
  ·exact h.elim
theorem kO {d:Option Nat} {q:Bool} {f:Nat} {args:List AE} {as:List AV} {r:List ROp} {K:KS} (h:gh P q st f args as d r K):o6 P q st f args as d r K Q:=.inr h
theorem JU {f:Nat} {args:List AE} {as:List AV} {V:Value} (h0:HP) (hs:gL P f h0 as V) (hsub:dZ st.h h0) (h:Q.ap (.panic (cL V)) (lT st h0)):ni P st f args as Q:=by
 rintro rfl
 rw[jf]at hs
 exact Ee h0 hs (fun i W hi=>iL hsub i W hi) h
theorem lZ {d:Option Nat} {q:Bool} {f:Nat} {args:List AE} {as:List AV} {r:List ROp} {K:KS} {V:Value} (h0:HP) (hs:gL P f h0 as V) (hsub:dZ st.h h0) (h:Q.ap (.panic (cL V)) (lT st h0)):o6 P q st f args as d r K Q:=
 .inl (JU h0 hs hsub h)
theorem ry {h0:HP}:lT st h0=⟨killSI (ea h0) [] st.s,dropH (ea h0) [] st.h⟩:=(rfl)
theorem Zb:(KQ.qb Q).ap .normal st=Q.ap .normal st:=(rfl)
theorem Zd:(KQ.qb Q).ap .ret st=Q.ap .ret st:=(rfl)
theorem Ze {i:Nat}:(KQ.qb Q).ap (.exit i) st=Q.ap (.exit i) st:=(rfl)
theorem aAk {i:Nat}:vcW P E (.label i) Q st=Q.ap .normal st:=(rfl)
theorem aAj {i:Nat}:vcW P E (.goto i) Q st=Q.ap (.goto i) st:=(rfl)
theorem ZG {d f:Nat} {ae:AE} {c:UInt8} {bk p q0:Nat}:(KS.C7 P E d f ae c bk p q0 x Q).ap st=ayo P E d f ae c bk p q0 x Q st:=(rfl)
theorem Zp:(KQ.fq R Q).ap .normal st=R.ap st:=(rfl)
theorem Zr:(KQ.fq R Q).ap .ret st=Q.ap .ret st:=(rfl)
theorem Zs {i:Nat}:(KQ.fq R Q).ap (.exit i) st=Q.ap (.exit i) st:=(rfl)
theorem aAq:vcW P E .skip Q st=Q.ap .normal st:=(rfl)
theorem aAn:vcW P E .ret Q st=Q.ap .ret st:=(rfl)
theorem aAi {i:Nat}:vcW P E (.exit i) Q st=Q.ap (.exit i) st:=(rfl)
theorem aAl {ops:List ROp} {ks:List Nat}:vcW P E (.aa ops ks) Q st=aopsW P ops st (KS.aa ks Q):=(rfl)
theorem aAp:vcW P E (.seq x y) Q st=vcW P E x (KQ.seq P E y Q) st:=(rfl)
theorem aAg {i:Nat}:vcW P E (.block i x) Q st=vcW P E x (KQ.de i Q) st:=(rfl)
theorem aAh {c:AE}:vcW P E (.cond c x y) Q st=rW P E (ev st c) x y Q st:=by
 simp only[vcW,rW];cases ev st c<;>rfl
theorem I3 {b:Bool}:rW P E (.bool b) x y Q st=kY P E b x y Q st:=(rfl)
theorem TJ:kY P E true x y Q st=vcW P E x Q st:=by simp[kY]
theorem TI:kY P E false x y Q st=vcW P E y Q st:=by simp[kY]
end
theorem Dn {K K':St→Prop} {Q Q':Exit→St→Prop} (hK:∀st,K st→K' st) (hQ:∀e st,Q e st→Q' e st):∀e st,jv K Q e st→jv K' Q' e st:=by
 intro e st h
 cases e<;>first | exact hK st h | exact hQ _ st h
theorem fR {P:Program} {E:Env} (hN:E.N≤1000000):∀(c:AK) {st:St} {Q:KQ},vcW P E c Q st→b7 P E (c.erase E.B) st Q.ap
 | .skip,st,Q,h=>Gd h
 | .aa ops ks,st,Q,h=>by
  have h':=lV (B:=E.B) ops h
  intro n code hc a w hr
  exact ar7 hN hc h' hr (fun st' a' w' h1 ⟨ρ2,h2⟩=>⟨_,⟨ρ2,mC h2 (lz _ ks)⟩,h1⟩)
 | .seq x y,st,Q,h=>Gc (b7.mono (fR hN x h) (Dn (fun st' h'=>fR hN y h') (fun _ _ h=>h)))
 | .cond c x y,st,Q,h=>by
  simp only[vcW]at h
  split at h
  ·rename_i b hb
   exact F5 hb (fun e=>fR hN x (h.1 e)) (fun e=>fR hN y (h.2 e))
  ·exact h.elim
 | .block id x,st,Q,h=>F4 (fR hN x h)
 | .loop x,st,Q,h=>h
 | .exit id,st,Q,h=>F6 h
 | .ret,st,Q,h=>Ga h
 | .bc x,st,Q,h=>h
 | .scope x,st,Q,h=>h
 | .label l,st,Q,h=>F8 h
 | .goto l,st,Q,h=>F7 h
 | .split ops d f x c bk p q0 body,st,Q,h=>Ge hN (lV (B:=E.B) ops h)
 | .alt p x y ks,st,Q,h=>by
  intro n code hc a w hr
  refine EX hN hc (K:=fun st=>Q.ap .normal ⟨trim st.s ks,st.h⟩) ?_ hr (fun st' a' w' h1 ⟨ρ2,h2⟩=>⟨_,⟨ρ2,mC h2 (lz _ ks)⟩,h1⟩)
  exact eh (B:=E.B) (fun st h=>⟨lV (B:=E.B) x h.1,lV (B:=E.B) y h.2⟩) p h
 | .gM T ks,st,Q,h=>by
  intro n code hc a w hr
  refine EW hN hc (K:=fun st=>Q.ap .normal ⟨trim st.s ks,st.h⟩) ?_ hr (fun st' a' w' h1 ⟨ρ2,h2⟩=>⟨_,⟨ρ2,mC h2 (lz _ ks)⟩,h1⟩)
  exact uo (B:=E.B) (fun _ h=>h) T h
 | .dF pre o post ks,st,Q,h=>by
  intro n code hc a w hr
  exact ar6 hN hc hr (K:=fun st=>Q.ap .normal ⟨trim st.s ks,st.h⟩) (fun st' a' w' h1 ⟨ρ2,h2⟩=>⟨_,⟨ρ2,mC h2 (lz _ ks)⟩,h1⟩) (fun V st' a' w' h1 h2=>⟨st',h2,h1⟩) (xo (B:=E.B) (fun _ h=>h) pre h)
 | .ja p x y ks T,st,Q,h=>by
  intro n code hc a w hr
  refine EV hN hc hr (K:=fun st=>Q.ap .normal ⟨trim st.s ks,st.h⟩) (KD:=fun V st=>Q.ap (.panic (cL V)) st) (fun st' a' w' h1 ⟨ρ2,h2⟩=>⟨_,⟨ρ2,mC h2 (lz _ ks)⟩,h1⟩) (fun V st' a' w' h1 h2=>⟨st',h2,h1⟩) ?_
  rcases h with h | h
  ·exact .inl (eh (B:=E.B) (fun st h=>⟨lV (B:=E.B) x h.1,lV (B:=E.B) y h.2⟩) p h)
  ·exact .inr (pe T h.1 h.2)
 | .fK _ _,st,Q,h=>h.elim
 | .bad,st,Q,h=>h.elim
theorem ZY {s s':List (Nat×AV)} {h h':HP}:zt ⟨s,h⟩ ⟨s',h'⟩=(eM s s'∧dZ h h'):=(rfl)
theorem ZX {s:List (Nat×AV)}:eM s []=True:=(rfl)
theorem ZW {s r:List (Nat×AV)} {k:Nat} {v:AV}:eM s ((k,v)::r)=(sget s k=some v∧eM s r):=(rfl)
theorem ZU {s:HP}:dZ s []=True:=(rfl)
theorem ZT {s r:HP} {k:Nat} {v:aP}:dZ s ((k,v)::r)=(hget s k=some v∧dZ s r):=(rfl)
theorem aK {P:Program} {E:Env} {x:AK} {Q:KQ} {st:St} {α:Type} (hN:E.N≤1000000) (f:α→St) (inv:α→Prop) (ms:α→Nat) (a0:α) (h0:Wk st (f a0)) (hi:inv a0)
    (round:∀a (R:KS),inv a→(∀b st',ms b<ms a→inv b→Wk st' (f b)→R.ap st')→vcW P E x (KQ.fq R Q) (f a)):vcW P E (.loop x) Q st:=by
 show b7 P E (.loop (x.erase E.B)) st Q.ap
 refine F9 (fun n s=>∃a,inv a∧n=ms a∧Wk s (f a)) (ms a0) ⟨a0,hi,rfl,h0⟩ ?_
 rintro n s ⟨a,h1,rfl,hle⟩
 refine oD hle (b7.mono (fR hN x (round a ⟨fun s=>∃m,m<ms a∧∃a,inv a∧m=ms a∧Wk s (f a)⟩ h1 (fun b st' g1 g2 g3=>⟨ms b,g1,b,g2,rfl,g3⟩))) ?_)
 intro e s h
 exact h
theorem cH {P:Program} {E:Env} {x y:AK} {Q:KQ} {st:St} {α:Type} (hN:E.N≤1000000) (f:α→St) (inv:α→Prop)
    (h1:∀R:KS,(∀a st',inv a→Wk st' (f a)→R.ap st')→vcW P E x (KQ.fq R Q) st) (h2:∀a,inv a→vcW P E y Q (f a)):vcW P E (.seq x (.bc y)) Q st:=
 h1 ⟨fun st=>b7 P E (y.erase E.B) st Q.ap⟩ (fun a st' g1 g2=>oD g2 (fR hN y (h2 a g1)))
theorem dw {P:Program} {E:Env} {x:AK} {Q:KQ} {st:St} (hN:E.N≤1000000) (h:vcW P E x Q st):vcW P E (.bc x) Q st:=fR hN x h
theorem lJ {P:Program} {E:Env} {x:AK} {Q:KQ} {st:St} (hN:E.N≤1000000) (st':St) (hle:Wk st st') (h:vcW P E x Q st'):vcW P E (.bc x) Q st:=oD hle (fR hN x h)
section
variable {P:Program} {q:Bool} {st:St} {f:Nat} {args:List AE} {as:List AV} {d:Option Nat} {r:List ROp} {K:KS} {Post:HP→AV→List AV→Prop}
def aZ (P:Program) (f:Nat) (as:List AV) (v:AV):Prop:=Spec P f [] as (fun h r _=>h=[]∧r=v)
theorem aG {v:AV} (hs:aZ P f as v) (hn:as.all bM=true) (hv:nz v=true) (h:aopsW P r (put st d v) K):gh P q st f args as d r K:=by
 rintro rfl
 refine vd hs (by simpa using hn) ?_
 rintro h' r' as' ⟨rfl,rfl⟩
 exact⟨rfl,hv,h⟩
theorem fg (hs:Spec P f [] as Post) (hn:as.all bM=true) (h:∀h' v as',Post h' v as'→h'=[]∧nz v=true∧aopsW P r (put st d v) K):gh P q st f args as d r K:=by
 rintro rfl
 exact vd hs (by simpa using hn) h
def borL (h:HP):List AV→List AV
 | []=>[]
 | x::r=>borrow h x::borL h r
theorem rP (h:HP):∀l,borL h l=l.map (borrow h)
 | []=>rfl
 | x::r=>by simp[borL,rP h r]
theorem Iy {v:AV} {bs:List AV} (hb:borL st.h as=bs) (hs:aZ P f bs v) (hv:ka v=true) (h:aopsW P r (put st d v) K):gh P q st f args as d r K:=by
 rintro rfl
 subst hb
 refine Ef (Post:=fun h r _=>h=[]∧r=v) (by rw[rP,List.map_map]at hs;exact hs) ?_
 rintro h' r' as' ⟨rfl,rfl⟩
 exact⟨rfl,hv,h⟩
theorem aI (h0:HP) (hs:Spec P f h0 as Post) (hsub:dZ st.h h0) (hq:q=true→h0=[])
    (h:∀h' v as',Post h' v as'→iJ h' h'=true∧dX h' v=true∧aopsW P r (put (gb st h0 args h' as') d v) K):gh P q st f args as d r K:=by
 rintro rfl
 exact Eh h0 hs (fun i W hi=>iL hsub i W hi) hq h
def kK (h0 h:HP):List AV→List AV
 | []=>[]
 | x::r=>bor h0 h x::kK h0 h r
theorem wo (h0 h:HP):∀l,kK h0 h l=l.map (bor h0 h)
 | []=>rfl
 | x::r=>by simp[kK,wo h0 h r]
theorem mY (h0:HP) {bs:List AV} (hb:kK h0 st.h as=bs) (hs:Spec P f h0 bs Post) (hsub:dZ st.h h0) (hq:q=true→h0=[])
    (h:∀h' v as',Post h' v as'→flH h' h'=true∧sA h' v=true∧aopsW P r (put (gb st h0 args h' as') d v) K):gh P q st f args as d r K:=by
 rintro rfl
 subst hb
 rw[wo,List.map_map]at hs
 exact Ed h0 hs (fun i W hi=>iL hsub i W hi) hq h
def kq:List AV→List AV
 | []=>[]
 | x::r=>stripV x::kq r
def kE:List AV→Prop
 | []=>True
 | x::r=>aB true x∧kE r
theorem uD:∀l,kq l=l.map stripV
 | []=>rfl
 | x::r=>by simp[kq,uD r]
theorem rz:∀{l:List AV},kE l→∀x∈l,aB true x
 | [],_,x,hx=>by cases hx
 | y::r,h,x,hx=>by
  rcases List.mem_cons.1 hx with rfl | hx
  ·exact h.1
  ·exact rz h.2 x hx
theorem RV.strip {X:Nat→Prop} {w:World} {ρ:Loc} {v:Value} {x:AV} (h:RV X w ρ v x) (hc:aB true x):RV X w ρ v (stripV x):=by
 cases x with
 | gd b y=>exact h.kU (hc rfl)
 | _=>exact h
theorem Eg {q:Bool} {st:St} {f:Nat} {args:List AE} {K:AV→St→Prop} {Post:HP→AV→List AV→Prop} (hs:Spec P f [] (args.map fun x=>borrow st.h (stripV (ev st x))) Post) (hc:∀x∈args,aB true (ev st x))
    (hK:∀h' r as,Post h' r as→h'=[]∧ka r=true∧K r st):fv P q st f args K:=by
 intro E ρ a w vs h hvs hrv
 refine(hs E.X0 bw w vs (kW _ _ _) (h.dI.mono fun _ hb=>(fY hb).elim) (fun b hb=>h.x0 b hb) (by simpa using hvs) (fun j v x e1 e2=>?_)).mono ?_
 ·rw[List.getElem?_map]at e2
  obtain⟨y,g1,rfl⟩:=Option.map_eq_some_iff.1 e2
  exact(wz h ((hrv j v y e1 g1).1.strip (hc y (List.mem_of_getElem? g1))) bw).mono (fun _ _ _=>rfl) (fun b _ hb=>fun hx=>hb (lM.1 hx)) _ (fun _ _ h=>h)
 ·rintro e w' ⟨v,h',r,ρ',as,rfl,hP,_,g2,_,_,g3,g4,g5,g6,g7,_⟩
  obtain⟨rfl,q1,q2⟩:=hK h' r as hP
  have hsame:ba w w':=⟨g3,g4,g5,g6,fun b hb=>g7 b hb fY⟩
  exact⟨v,ρ,st,r,rfl,h.same hsame,g2.ka q1,q2,fun _=>hsame⟩
theorem kL {d:Nat} {v:AV} {bs:List AV} (hb:borL st.h (kq as)=bs) (hs:aZ P f bs v) (hc:kE as) (hv:ka v=true) (h:aopsW P r ⟨(d,.gd true v)::st.s,st.h⟩ K):rS P q st f args as d r K:=by
 rintro rfl
 subst hb
 refine Eg (Post:=fun h r _=>h=[]∧r=v) (by have:=hs;rw[rP,uD,List.map_map,List.map_map]at this;exact this) (fun x hx=>rz hc _ (List.mem_map_of_mem hx)) ?_
 rintro h' r' as' ⟨rfl,rfl⟩
 exact⟨rfl,hv,h⟩
theorem jA {d:Nat} {v:AV} {bs:List AV} (hb:kq as=bs) (hs:aZ P f bs v) (hc:kE as) (hn:bs.all bM=true) (hv:nz v=true) (h:aopsW P r ⟨(d,.gd true v)::st.s,st.h⟩ K):rS P q st f args as d r K:=by
 rintro rfl
 subst hb
 rw[uD,List.map_map]at hs hn
 intro E ρ a w vs h1 hvs hrv
 have hlt:∀b,XX E.X0 ρ st.h b→b<w.heap.size:=by
  intro b hb
  rcases hb with hb | hb
  ·exact h1.x0 b hb
  ·exact ir h1 hb
 refine(hs (XX E.X0 ρ st.h) bw w vs (kW _ _ _) (h1.dI.mono fun _ hb=>(fY hb).elim) hlt (by simpa using hvs) (fun j v x e1 e2=>?_)).mono ?_
 ·rw[List.getElem?_map]at e2
  obtain⟨y,g1,rfl⟩:=Option.map_eq_some_iff.1 e2
  have hy:=(hrv j v y e1 g1).1.strip (rz hc _ (List.mem_map_of_mem (List.mem_of_getElem? g1)))
  have hm:(stripV (ev st y))∈args.map (stripV∘ev st):=List.mem_map.2 ⟨y,List.mem_of_getElem? g1,rfl⟩
  exact(hy.qQ (List.all_eq_true.1 hn _ hm) bw).mono (fun _ _ _=>rfl) (fun b _ hb=>fun hx=>hb (lM.1 hx)) _ (fun _ _ h=>h)
 ·rintro e w' ⟨v,h',r,ρ',as,rfl,⟨rfl,rfl⟩,_,g2,_,_,g3,g4,g5,g6,g7,_⟩
  have hsame:ba w w':=⟨g3,g4,g5,g6,fun b hb=>g7 b hb fY⟩
  exact⟨v,ρ,st,_,rfl,h1.same hsame,(g2.Dq hv ρ).mono (fun _ _ _=>rfl) (fun b _ hb=>fun hx=>hb (lM.2 hx)) ρ (fun _ _ h=>h),h,fun _=>hsame⟩
theorem fL {d:Nat} (h:rS P q st f args as d r K):pD P q (some true) st f args as d r K:=fun e=>.inr (.inl ⟨rfl,h e⟩)
theorem dU {d:Nat} (h:aopsW P r ⟨(d,.gd false .undef)::st.s,st.h⟩ K):pD P q (some false) st f args as d r K:=fun _=>.inl ⟨rfl,h⟩
end
def dx (Post R:HP→AV→List AV→Prop):Prop:=∀h' r' ar' h r ar,ar'.length=ar.length→Wk ⟨(0,r)::numbered 1 ar,h⟩ ⟨(0,r')::numbered 1 ar',h'⟩→Post h' r' ar'→R h r ar
theorem zr {s:List (Nat×AV)}:∀{s':List (Nat×AV)},(∀k v,(k,v)∈s'→sget s k=some v)→eM s s'
 | [],_=>trivial
 | (k,v)::r,h=>⟨h k v (List.mem_cons_self ..),zr (fun k' v' hm=>h k' v' (List.mem_cons_of_mem _ hm))⟩
theorem zI:∀{l:List AV} {k j:Nat} {x:AV},(j,x)∈numbered k l→k≤j∧l[j-k]?=some x
 | [],k,j,x,h=>by simp[numbered]at h
 | y::r,k,j,x,h=>by
  simp only[numbered,List.mem_cons,Prod.mk.injEq]at h
  rcases h with⟨rfl,rfl⟩ | h
  ·exact⟨Nat.le_refl _,by simp⟩
  ·obtain⟨h1,h2⟩:=zI h
   exact⟨by omega,by rw[show j-k=(j-(k+1))+1 by omega];simpa using h2⟩
theorem ZV (r:AV) (ar:List AV):eM ((0,r)::numbered 1 ar) ((0,r)::numbered 1 ar):=by
 refine zr fun k v hm=>?_
 rcases List.mem_cons.1 hm with h | h
 ·injection h with h1 h2;subst h1;subst h2;simp[sget]
 ·obtain⟨h1,h2⟩:=zI h
  simp only[sget]
  rw[if_neg (by omega)]
  have:=nP ar 1 (k-1) v h2
  rwa[show 1+(k-1)=k by omega]at this
section
variable {Post R:HP→AV→List AV→Prop}
theorem dx.le (hF:dx Post R) {h h':HP} {r:AV} {ar:List AV} (hl:dZ h h') (hp:Post h' r ar):R h r ar:=hF h' r ar h r ar rfl (.le ⟨ZV r ar,hl⟩) hp
theorem dx.ro (hF:dx Post R) {h:HP} {r:AV} {ar:List AV} (hp:Post [] r ar):R h r ar:=dx.le (h':=[]) hF trivial hp
theorem dx.wk (hF:dx Post R) {h':HP} {r':AV} {ar':List AV} {h:HP} {r:AV} {ar:List AV} (hlen:ar'.length=ar.length) (hw:Wk ⟨(0,r)::numbered 1 ar,h⟩ ⟨(0,r')::numbered 1 ar',h'⟩) (hp:Post h' r' ar'):R h r ar:=hF h' r' ar' h r ar hlen hw hp
theorem sn:dx Post (fun h r ar=>∃h2 r2 as2,as2.length=ar.length∧Wk ⟨(0,r)::numbered 1 ar,h⟩ ⟨(0,r2)::numbered 1 as2,h2⟩∧Post h2 r2 as2):=
 fun h' r' ar' _ _ _ h1 h2 h3=>⟨h',r',ar',h1,h2,h3⟩
end
theorem RV.H4 {X:Nat→Prop} {w:World} {ρ:Loc} {v:Value} {b:Bool} (h:RV X w ρ v (.bool b)):v=.bool b:=by cases h;rfl
def valOf:AV→Value
 | .bool b=>.bool b
 | .int k n=>.int k n
 | .fl k b=>.float k b
 | .cx k a b=>.complex k a b
 | .str s=>.string ⟨s.toArray⟩
 | .al=>.slice none 0 0
 | .lit x=>x
 | _=>undef
def isVal:AV→Bool
 | .bool _ | .int _ _ | .fl _ _ | .cx _ _ _ | .str _ | .al | .lit _=>true
 | _=>false
theorem RV.valOf {X:Nat→Prop} {w:World} {ρ:Loc} {v:Value} {x:AV} (h:RV X w ρ v x) (hx:isVal x=true):v=valOf x:=by
 cases h<;>first | rfl | cases hx
theorem ft {X:Nat→Prop} {w:World} {ρ:Loc} {x:AV} (hx:isVal x=true):RV X w ρ (valOf x) x:=by
 cases x<;>first | (cases hx;done) | skip
 ·exact .bool _ _
 ·exact .int _ _ _
 ·exact .fl _ _ _
 ·exact .cx _ _ _ _
 ·exact .str _ _
 ·exact .lit _ _
 ·exact .al _
def s9:AV→Bool
 | .ak vs=>vs.all isVal
 | x=>isVal x
def uN:AV→Value
 | .ak vs=>.tuple (vs.map valOf).toArray
 | x=>valOf x
theorem az7 {X:Nat→Prop} {w:World} {ρ:Loc} {x:AV} (hx:s9 x=true):RV X w ρ (uN x) x:=by
 cases x with
 | ak vs=>
  refine .ak _ _ _ (by simp) (fun j v a h1 h2=>?_)
  simp only[List.getElem?_toArray,List.getElem?_map,h2,Option.map_some,Option.some.injEq]at h1
  subst h1
  exact ft (List.all_eq_true.1 hx a (List.mem_of_getElem? h2))
 | bool b=>exact ft (x:=.bool b) hx
 | int k n=>exact ft (x:=.int k n) hx
 | fl k b=>exact ft (x:=.fl k b) hx
 | cx k a b=>exact ft (x:=.cx k a b) hx
 | str s=>exact ft (x:=.str s) hx
 | lit x=>exact ft (x:=.lit x) hx
 | al=>exact ft (x:=.al) hx
 | undef=>exact ft (x:=.undef) hx
 | ro sz es=>exact ft (x:=.ro sz es) hx
 | az x=>exact ft (x:=.az x) hx
 | sl i o n=>exact ft (x:=.sl i o n) hx
 | ptr i j f=>exact ft (x:=.ptr i j f) hx
 | ab i f=>exact ft (x:=.ab i f) hx
 | agg cs=>exact ft (x:=.agg cs) hx
 | gd b x=>exact ft (x:=.gd b x) hx
 | aR f cs=>exact ft (x:=.aR f cs) hx
theorem ayb {P:Program} {f:Nat} {as:List AV} {Q:AV→Prop} (ha:as.all isVal=true)
    (h:∀w:World,iY w→Calls P f (as.map valOf).toArray w fun e w'=>∃v,Q v∧s9 v=true∧e=.returned (uN v)∧Go.RowKit.Below w.heap.size w w'):Spec P f [] as (fun h r _=>h=[]∧Q r):=by
 intro X0 ρ w vs h1 hA h2 h3 h4
 have hvs:vs=(as.map valOf).toArray:=by
  apply Array.ext (by simpa using h3)
  intro j g1 g2
  have hj:j<as.length:=by omega
  have:=(h4 j _ as[j] (Array.getElem?_eq_getElem g1) (List.getElem?_eq_getElem hj)).valOf (List.all_eq_true.1 ha _ (List.getElem_mem hj))
  rw[this];simp
 rw[hvs]
 refine(h w hA.1).mono ?_
 rintro e w' ⟨v,hQ,hv,rfl,hb⟩
 refine⟨_,[],v,ρ,as,rfl,⟨rfl,hQ⟩,kW _ _ _,az7 hv,rfl,fun j u x e1 e2=>?_,hb.os,hb.tape,hb.output,hb.size,fun b hb' _=>hb.block b hb',fun b hb'=>(fY hb').elim⟩
 rw[hvs]at h4
 have:=(h4 j u x e1 e2).valOf (List.all_eq_true.1 ha _ (List.mem_of_getElem? e2))
 rw[this]
 exact ft (List.all_eq_true.1 ha _ (List.mem_of_getElem? e2))
theorem aye {P:Program} {f:Nat} {as:List AV} {v:AV} (ha:as.all isVal=true) (hv:s9 v=true)
    (h:∀w:World,iY w→Calls P f (as.map valOf).toArray w fun e w'=>e=.returned (uN v)∧Go.RowKit.Below w.heap.size w w'):aZ P f as v:=
 ayb (Q:=fun r=>r=v) ha (fun w hA=>(h w hA).mono (fun e w' ⟨h1,h2⟩=>⟨v,rfl,hv,h1,h2⟩))
def KQ.post (rs:List RVar) (m:Nat) (R:HP→AV→List AV→Prop):KQ:=⟨postQ rs m R⟩
theorem oC {P:Program} {E:Env} {c:AC} {st:St} {Q:Exit→St→Prop} (s':List (Nat×AV)) (hs:eM st.s s') (h:b7 P E c ⟨s',st.h⟩ Q):b7 P E c st Q:=
 fun n code hc a w hr=>h n code hc a w (by obtain⟨ρ,hr⟩:=hr;exact⟨ρ,mC hr hs⟩)
theorem asi {st:St} {t:Nat} (ht:t<2000000):resOf st [.tmp t]=some (ev st (.t t)):=by simp[resOf,resAV,trE,ht]
theorem asl {st:St} {t u:Nat} (ht:t<2000000) (hu:u<2000000):resOf st [.tmp t,.tmp u]=some (.ak [ev st (.t t),ev st (.t u)]):=by simp[resOf,resAV,trE,ht,hu]
theorem asj {st:St} {t u v:Nat} (ht:t<2000000) (hu:u<2000000) (hv:v<2000000):resOf st [.tmp t,.tmp u,.tmp v]=some (.ak [ev st (.t t),ev st (.t u),ev st (.t v)]):=by simp[resOf,resAV,trE,ht,hu,hv]
theorem ash {st:St} {t u v x:Nat} (ht:t<2000000) (hu:u<2000000) (hv:v<2000000) (hx:x<2000000):resOf st [.tmp t,.tmp u,.tmp v,.tmp x]=some (.ak [ev st (.t t),ev st (.t u),ev st (.t v),ev st (.t x)]):=by simp[resOf,resAV,trE,ht,hu,hv,hx]
section
variable {m:Nat} {R:HP→AV→List AV→Prop} {st:St} {t u v x:Nat}
theorem Zj:(KQ.post [] m R).ap .ret st=R st.h (.ak []) (argsAgain st 0 m):=by simp[KQ.post,postQ,resOf,resAV]
theorem Zi:(KQ.post [] m R).ap .normal st=R st.h (.ak []) (argsAgain st 0 m):=by simp[KQ.post,postQ,resOf,resAV]
theorem Zk (ht:t<2000000):(KQ.post [.tmp t] m R).ap .ret st=R st.h (ev st (.t t)) (argsAgain st 0 m):=by simp[KQ.post,postQ,asi ht]
theorem Zl (ht:t<2000000) (hu:u<2000000):(KQ.post [.tmp t,.tmp u] m R).ap .ret st=R st.h (.ak [ev st (.t t),ev st (.t u)]) (argsAgain st 0 m):=by simp[KQ.post,postQ,asl ht hu]
theorem Zm (ht:t<2000000) (hu:u<2000000) (hv:v<2000000):(KQ.post [.tmp t,.tmp u,.tmp v] m R).ap .ret st=R st.h (.ak [ev st (.t t),ev st (.t u),ev st (.t v)]) (argsAgain st 0 m):=by simp[KQ.post,postQ,asj ht hu hv]
theorem Zn (ht:t<2000000) (hu:u<2000000) (hv:v<2000000) (hx:x<2000000):(KQ.post [.tmp t,.tmp u,.tmp v,.tmp x] m R).ap .ret st=R st.h (.ak [ev st (.t t),ev st (.t u),ev st (.t v),ev st (.t x)]) (argsAgain st 0 m):=by simp[KQ.post,postQ,ash ht hu hv hx]
end
def KQ.dies (V:Value):KQ:=⟨r9 V⟩
theorem pV {V:Value} {st:St}:(KQ.dies V).ap (.panic (cL V)) st=True:=by simp[KQ.dies,r9]
def KQ.guard (rs:List RVar) (m:Nat) (V:Value) (zA:AV) (R:HP→AV→List AV→Prop):KQ:=⟨OL rs m V zA R⟩
def guardP2 (rs:List RVar) (m:Nat) (zA:AV) (R:HP→AV→List AV→Prop) (st:St) (id:Nat):Option aP→Prop
 | some (.var [_])=>(KQ.post rs m R).ap .ret ⟨st.s,cc st.h id (.var [zA])⟩
 | _=>False
def guardP (rs:List RVar) (m:Nat) (zA:AV) (R:HP→AV→List AV→Prop) (st:St):Option AV→Prop
 | some (.ab id 0)=>guardP2 rs m zA R st id (hget st.h id)
 | _=>False
theorem yh {rs:List RVar} {m id:Nat} {zA:AV} {R:HP→AV→List AV→Prop} {st:St}:guardP rs m zA R st (some (.ab id 0))=guardP2 rs m zA R st id (hget st.h id):=(rfl)
theorem OK {rs:List RVar} {m id:Nat} {zA c:AV} {R:HP→AV→List AV→Prop} {st:St}:guardP2 rs m zA R st id (some (.var [c]))=(KQ.post rs m R).ap .ret ⟨st.s,cc st.h id (.var [zA])⟩:=(rfl)
theorem Y5 {rs:List RVar} {m:Nat} {V:Value} {zA:AV} {R:HP→AV→List AV→Prop} {st:St}:(KQ.guard rs m V zA R).ap .ret st=(KQ.post rs m R).ap .ret st:=(rfl)
theorem Y4 {rs:List RVar} {m:Nat} {V:Value} {zA:AV} {R:HP→AV→List AV→Prop} {st:St}:(KQ.guard rs m V zA R).ap (.panic (cL V)) st=guardP rs m zA R st (sget st.s (2000000+m)):=by
 apply propext
 constructor
 ·rintro⟨_,id,c,h1,h2,h3⟩
  rw[h1,yh,h2]
  exact h3
 ·intro h
  unfold guardP at h
  split at h
  ·rename_i id h1
   unfold guardP2 at h
   split at h
   ·rename_i c h2
    exact⟨rfl,id,c,h1,h2,h⟩
   ·exact h.elim
  ·exact h.elim
def KQ.fK (P:Program) (k m:Nat) (y:AK) (rs:List RVar) (V:Value) (zA:AV) (R:HP→AV→List AV→Prop):KQ:=
 ⟨fun e st=>e=.normal∧∃id,ev st (.t k)=.ab id 0∧∀E':Env,E'.N≤1000000→vcW P E' y (KQ.guard rs m V zA R) ⟨(2000000+m,.ab id 0)::st.s,st.h⟩⟩
theorem ayg {P:Program} {f:Nat} {fn:Func} {body:Code} {h:HP} {args:List AV} {x:AK} {V:Value} (hf:P.funcs[f]?=some fn) (hb:fn.body=some body) {B:Nat}
    (hc:trCode P fn.ntmps B body=x.erase B) (hN:fn.ntmps≤1000000) (ha:args.length≤fn.ntmps) (s:List (Nat×AV)) (hs:eM (hZ args) s)
    (hp:∀(E:Env),E.N≤1000000→vcW P E x (KQ.dies V) ⟨s,h⟩):gL P f h args V:=by
 refine ayh hf hb hc hN ha (fun E hE hB hrd=>?_)
 have hEN:E.N≤1000000:=by rw[hE];exact hN
 have h1:=fR hEN x (hp E hEN)
 rw[hB]at h1
 exact oC s hs h1
def retCC (o p:Option AV) (R:HP→AV→List AV→Prop) (h:HP) (as:List AV):Prop:=
 match o,p with
 | some x,some y=>R h (.ak [x,y]) as
 | _,_=>False
theorem asp {x y:AV} {R:HP→AV→List AV→Prop} {h:HP} {as:List AV}:retCC (some x) (some y) R h as=R h (.ak [x,y]) as:=(rfl)
theorem Zh {m n t u k:Nat} {ag bg:Bool} {R:HP→AV→List AV→Prop} {st:St}:(KQ.post [.cell t ag n,.cell u bg k] m R).ap .ret st=retCC (resC st ag n (sget st.s t)) (resC st bg k (sget st.s u)) R st.h (argsAgain st 0 m):=by
 simp only[KQ.post,postQ,resOf,resAV]
 cases resC st ag n (sget st.s t)<;>cases resC st bg k (sget st.s u)<;>simp[consO,retCC]
def retC (o:Option AV) (ys:List AV) (R:HP→AV→List AV→Prop) (h:HP) (as:List AV):Prop:=
 match o,ys with
 | some x,[]=>R h x as
 | some x,ys=>R h (.ak (x::ys)) as
 | none,_=>False
theorem OH:ghost []=[]:=(rfl)
theorem OG {k:Nat} {v:AV} {r:List (Nat×AV)}:ghost ((k,v)::r)=(3000000+k,v)::ghost r:=(rfl)
theorem asq {x:AV} {R:HP→AV→List AV→Prop} {h:HP} {as:List AV}:retC (some x) [] R h as=R h x as:=(rfl)
theorem asr {x y:AV} {R:HP→AV→List AV→Prop} {h:HP} {as:List AV}:retC (some x) [y] R h as=R h (.ak [x,y]) as:=(rfl)
theorem Zf {m n t:Nat} {ag:Bool} {R:HP→AV→List AV→Prop} {st:St}:(KQ.post [.cell t ag n] m R).ap .ret st=retC (resC st ag n (sget st.s t)) [] R st.h (argsAgain st 0 m):=by
 simp only[KQ.post,postQ,resOf,resAV]
 cases resC st ag n (sget st.s t)<;>simp[consO,retC]
theorem Zg {m n t u:Nat} {ag:Bool} {R:HP→AV→List AV→Prop} {st:St} (hu:u<2000000):(KQ.post [.cell t ag n,.tmp u] m R).ap .ret st=retC (resC st ag n (sget st.s t)) [ev st (.t u)] R st.h (argsAgain st 0 m):=by
 simp only[KQ.post,postQ,resOf,resAV]
 cases resC st ag n (sget st.s t)<;>simp[consO,retC,trE,hu]
theorem asf {st:St} {ag:Bool} {n id f:Nat}:resC st ag n (some (.ab id f))=resW ag n f (hget st.h id):=(rfl)
theorem asm {ag:Bool} {n f:Nat} {cs:List AV}:resW ag n f (some (.var cs))=ldO ag n (cs.drop f):=(rfl)
theorem ZO {n:Nat} {cs:List AV} (h:n≤cs.length):ldO true n cs=some (.agg (cs.take n)):=by simp[ldO,h]
theorem ZN {n:Nat} {c:AV} {cs:List AV}:ldO false n (c::cs)=some c:=(rfl)
def qv (b:Bool) (id' i:Nat):Nat:=match b with
 | true=>id'
 | false=>i
theorem aty {id id' i:Nat}:rn id id' i=qv (i==id) id' i:=by unfold rn qv;cases i==id<;>rfl
theorem atx {id' i:Nat}:qv true id' i=id':=(rfl)
theorem atw {id' i:Nat}:qv false id' i=i:=(rfl)
def qD (b:Bool) (v:AV) (r:List (Nat×AV)) (i:Nat):Option AV:=bif b then some v else sget r i
theorem axp {i:Nat}:sget [] i=none:=(rfl)
theorem axo {k i:Nat} {v:AV} {r:List (Nat×AV)}:sget ((k,v)::r) i=qD (i==k) v r i:=by
 simp only[sget,qD,cond_eq_ite,beq_iff_eq]
theorem axn {v:AV} {r:List (Nat×AV)} {i:Nat}:qD true v r i=some v:=(rfl)
theorem axm {v:AV} {r:List (Nat×AV)} {i:Nat}:qD false v r i=sget r i:=(rfl)
def pN (b:Bool) (v:aP) (r:HP) (i:Nat):Option aP:=bif b then some v else hget r i
theorem Qi {i:Nat}:hget [] i=none:=(rfl)
theorem Qh {k i:Nat} {v:aP} {r:HP}:hget ((k,v)::r) i=pN (i==k) v r i:=by
 simp only[hget,pN,cond_eq_ite,beq_iff_eq]
theorem Qg {v:aP} {r:HP} {i:Nat}:pN true v r i=some v:=(rfl)
theorem Qf {v:aP} {r:HP} {i:Nat}:pN false v r i=hget r i:=(rfl)
def pM (b:Bool) (k:Nat) (v:aP) (r:HP) (i:Nat):HP:=bif b then hdel i r else(k,v)::hdel i r
theorem PD {i:Nat}:hdel i []=[]:=(rfl)
theorem PC {k i:Nat} {v:aP} {r:HP}:hdel i ((k,v)::r)=pM (i==k) k v r i:=by
 simp only[hdel,pM,cond_eq_ite,beq_iff_eq]
theorem PA {k:Nat} {v:aP} {r:HP} {i:Nat}:pM true k v r i=hdel i r:=(rfl)
theorem Pz {k:Nat} {v:aP} {r:HP} {i:Nat}:pM false k v r i=(k,v)::hdel i r:=(rfl)
theorem Ry {h:HP} {id:Nat} {W:aP}:cc h id W=(id,W)::hdel id h:=(rfl)
def p5 (b:Bool) (i:Nat) (r:List Nat):Bool:=bif b then true else memN i r
theorem aaW {i:Nat}:memN i []=false:=(rfl)
theorem aaV {i k:Nat} {r:List Nat}:memN i (k::r)=p5 (i==k) i r:=by
 simp only[memN,p5,cond_eq_ite,beq_iff_eq]
theorem aaU {i:Nat} {r:List Nat}:p5 true i r=true:=(rfl)
theorem aaT {i:Nat} {r:List Nat}:p5 false i r=memN i r:=(rfl)
def pd (b:Bool) (k:Nat) (W:aP) (ids keep:List Nat) (r:HP):HP:=bif b then dropH ids keep r else(k,jH ids keep W)::dropH ids keep r
theorem LR {ids keep:List Nat}:dropH ids keep []=[]:=(rfl)
theorem LQ {ids keep:List Nat} {k:Nat} {W:aP} {r:HP}:dropH ids keep ((k,W)::r)=pd (memN k ids) k W ids keep r:=by
 simp only[dropH,pd,cond_eq_ite]
theorem LP {ids keep:List Nat} {k:Nat} {W:aP} {r:HP}:pd true k W ids keep r=dropH ids keep r:=(rfl)
theorem LO {ids keep:List Nat} {k:Nat} {W:aP} {r:HP}:pd false k W ids keep r=(k,jH ids keep W)::dropH ids keep r:=(rfl)
theorem YP {id:Nat}:killS id []=[]:=(rfl)
theorem YO {id k:Nat} {v:AV} {r:List (Nat×AV)}:killS id ((k,v)::r)=(k,kill id v)::killS id r:=(rfl)
theorem YL {id:Nat}:fB id []=[]:=(rfl)
theorem YK {id k:Nat} {v:aP} {r:HP}:fB id ((k,v)::r)=(k,kf id v)::fB id r:=(rfl)
theorem YN {ids keep:List Nat}:killSI ids keep []=[]:=(rfl)
theorem YM {ids keep:List Nat} {k:Nat} {v:AV} {r:List (Nat×AV)}:killSI ids keep ((k,v)::r)=(k,kI ids keep v)::killSI ids keep r:=(rfl)
theorem Om {id sz:Nat} {es:List AV}:frzS id sz es []=[]:=(rfl)
theorem Ol {id sz k:Nat} {es:List AV} {v:AV} {r:List (Nat×AV)}:frzS id sz es ((k,v)::r)=(k,bF id sz es v)::frzS id sz es r:=(rfl)
theorem Oj {id sz:Nat} {es:List AV}:frzH id sz es []=[]:=(rfl)
theorem Oi {id sz k:Nat} {es:List AV} {v:aP} {r:HP}:frzH id sz es ((k,v)::r)=(k,kT id sz es v)::frzH id sz es r:=(rfl)
def frzO (st:St) (id:Nat) (o:Option aP):St:=
 match o with
 | some (.arr sz es)=>⟨frzS id sz es st.s,frzH id sz es (hdel id st.h)⟩
 | _=>st
theorem NL {st:St} {id:Nat}:freeze st id=frzO st id (hget st.h id):=by
 unfold freeze frzO;split<;>simp_all
theorem Ok {st:St} {id sz:Nat} {es:List AV}:frzO st id (some (.arr sz es))=⟨frzS id sz es st.s,frzH id sz es (hdel id st.h)⟩:=(rfl)
def rM (b:Bool) (Q:KQ) (j:Nat) (st:St):Prop:=match b with
 | true=>Q.ap .normal st
 | false=>Q.ap (.exit j) st
theorem YV {Q:KQ} {i j:Nat} {st:St}:(KQ.de i Q).ap (.exit j) st=rM (j==i) Q j st:=by
 rw[Y0]
 by_cases h:j=i
 ·subst h;rw[if_pos rfl,show(j==j)=true by simp];rfl
 ·rw[if_neg h,show(j==i)=false by simp[h]];rfl
theorem Hj {Q:KQ} {j:Nat} {st:St}:rM true Q j st=Q.ap .normal st:=(rfl)
theorem Hi {Q:KQ} {j:Nat} {st:St}:rM false Q j st=Q.ap (.exit j) st:=(rfl)
abbrev ints (xs:List Int):List AV:=xs.map (AV.int .i64)
theorem UR (xs:List Int):ints xs=xs.map (AV.int .i64):=(rfl)
theorem aby {f:Int→AV} {xs:List Int} {i:Nat} (h:i<xs.length):nth (xs.map f) i=f (xs.getD i 0):=by
 simp[nth,List.getD_eq_getElem?_getD,h]
theorem abw {f:UInt8→AV} {xs:List UInt8} {i:Nat} (h:i<xs.length):nth (xs.map f) i=f (xs.getD i 0):=by
 simp[nth,List.getD_eq_getElem?_getD,h]
theorem abz {α:Type} {f:List α→AV} {xs:List (List α)} {i:Nat} (h:i<xs.length):nth (xs.map f) i=f (xs.getD i []):=by
 simp[nth,List.getD_eq_getElem?_getD,h]
theorem abx {α:Type} [Inhabited α] {f:α→AV} {xs:List α} {i:Nat} (h:i<xs.length):nth (xs.map f) i=f (xs.getD i default):=by
 simp[nth,List.getD_eq_getElem?_getD,h]
theorem ayT {α:Type} {f:α→AV} {xs:List α} {o n:Nat}:aM (xs.map f) o n=((xs.drop o).take n).map f:=by
 simp[aM]
theorem ayV {x:AV} {r:List AV} {o n:Nat}:aM (x::r) (o+1) n=aM r o n:=by simp[aM]
theorem ayS {x:AV} {r:List AV} {n:Nat}:aM (x::r) 0 (n+1)=x::aM r 0 n:=by simp[aM]
theorem ayW {r:List AV}:aM r 0 0=[]:=by simp[aM]
theorem ayU {o n:Nat}:aM [] o n=[]:=by simp[aM]
theorem fP {α:Type} {xs:List α} {n:Nat} (h:xs.length≤n):xs.take n=xs:=List.take_of_length_le h
theorem xp {α:Type} {xs:List α} {n:Nat} (h:xs.length≤n):xs.drop n=[]:=List.drop_eq_nil_of_le h
theorem axk {α:Type} {f:α→AV} {xs:List α} {i:Nat} {y:α}:(xs.map f).set i (f y)=(xs.set i y).map f:=by rw[List.map_set]
theorem Fp {α:Type} {f:α→AV} {xs:List α} {y:α}:xs.map f++[f y]=(xs++[y]).map f:=by simp
theorem Fu {α:Type} {f:α→AV} {xs ys:List α}:xs.map f++ys.map f=(xs++ys).map f:=by simp
theorem IZ {k:IntKind} {xs:List Int}:(xs.map (AV.int k)).all bb=true:=by simp[bb,cellsOf,isCell]
theorem Nu {k:IntKind} {xs:List Int}:(xs.map (AV.int k)).all flA=true:=by simp[flA,flC]
theorem Nt {xs:List UInt8}:(xs.map ub).all flA=true:=by simp[flA,flC,ub]
theorem Nv {xs:List (List UInt8)}:(xs.map AV.str).all flA=true:=by simp[flA,flC]
theorem IY {xs:List UInt8}:(xs.map ub).all bb=true:=by simp[bb,cellsOf,isCell,ub]
theorem I2 {xs:List (List UInt8)}:(xs.map AV.str).all bb=true:=by simp[bb,cellsOf,isCell]
theorem I1 {α:Type} {sz:Nat} {f:α→List AV} {xs:List α}:(xs.map fun x=>AV.ro sz (f x)).all bb=true:=by simp[bb,cellsOf,isCell]
def qC (b:Bool) (e v:AV):AV:=
 match b with
 | true=>v
 | false=>.agg (dm (cellsOf e) 0 (cellsOf v))
theorem axi {e v:AV}:iR e 0 v=qC ((cellsOf v).length==(cellsOf e).length) e v:=by
 unfold iR qC
 by_cases h:(cellsOf v).length=(cellsOf e).length
 ·rw[if_pos ⟨rfl,h⟩,show((cellsOf v).length==(cellsOf e).length)=true by simp[h]]
 ·rw[if_neg (fun x=>h x.2),show((cellsOf v).length==(cellsOf e).length)=false by simp[h]]
theorem axf {e v:AV}:qC true e v=v:=(rfl)
theorem axe {e v:AV}:qC false e v=.agg (dm (cellsOf e) 0 (cellsOf v)):=(rfl)
theorem axh {e v:AV} {f:Nat} (h:f≠0):iR e f v=.agg (dm (cellsOf e) f (cellsOf v)):=by
 unfold iR;rw[if_neg (fun x=>h x.1)]
theorem azx (b:UInt8):ub b=.int .u8 b.toNat:=(rfl)
theorem IV:cellsOf AV.undef=[AV.undef]:=(rfl)
theorem IE (b:Bool):cellsOf (.bool b)=[.bool b]:=(rfl)
theorem IJ (k:IntKind) (n:Int):cellsOf (.int k n)=[.int k n]:=(rfl)
theorem II (k:FloatKind) (n:Nat):cellsOf (.fl k n)=[.fl k n]:=(rfl)
theorem IG (k:FloatKind) (a b:Nat):cellsOf (.cx k a b)=[.cx k a b]:=(rfl)
theorem IU (l:List UInt8):cellsOf (.str l)=[.str l]:=(rfl)
theorem IK (x:Value):cellsOf (.lit x)=[.lit x]:=(rfl)
theorem IP (sz:Nat) (es:List AV):cellsOf (.ro sz es)=[.ro sz es]:=(rfl)
theorem IH (x:AV):cellsOf (.az x)=[.az x]:=(rfl)
theorem IQ (i o n:Nat):cellsOf (.sl i o n)=[.sl i o n]:=(rfl)
theorem IM (i j f:Nat):cellsOf (.ptr i j f)=[.ptr i j f]:=(rfl)
theorem IW (i f:Nat):cellsOf (.ab i f)=[.ab i f]:=(rfl)
theorem IL:cellsOf .al=[.al]:=(rfl)
theorem ID (cs:List AV):cellsOf (.agg cs)=cs:=(rfl)
theorem axj {α:Type} (xs:List α) (a b:α):(xs++[a]).set xs.length b=xs++[b]:=by simp
theorem afW {a b:Bool}:(if a=true then true else b)=(a||b):=by cases a<;>rfl
theorem afU {a b:Bool}:(if a=true then b else false)=(a&&b):=by cases a<;>rfl
theorem afX {p:Prop} [Decidable p] {b:Bool}:(if p then true else b)=(decide p||b):=by by_cases h:p<;>simp[h]
theorem afV {p:Prop} [Decidable p] {b:Bool}:(if p then b else false)=(decide p&&b):=by by_cases h:p<;>simp[h]
theorem Kh {b:Bool}:decide (b=true)=b:=by cases b<;>rfl
theorem UP {a b:Int} (h:a=b):(a=b)=True:=eq_true h
theorem abm {a b:Nat} (h:a=b):(a=b)=True:=eq_true h
theorem Kl {p q:Prop} [Decidable p] [Decidable q]:(decide p||decide q)=decide (p∨q):=by simp
theorem Kg {p q:Prop} [Decidable p] [Decidable q]:(decide p&&decide q)=decide (p∧q):=by simp
theorem Kk {p:Prop} [Decidable p]:(!decide p)=decide (¬p):=by simp
theorem GM {a b:List UInt8}:(a==b)=decide (a=b):=by
 by_cases h:a=b<;>simp[h]
theorem GN {a:Bool}:(a==false)=!a:=by cases a<;>rfl
theorem GO {a:Bool}:(a==true)=a:=by cases a<;>rfl
theorem LS {α:Type} (d:α) (xs:List α) {k:Nat} (h:k<xs.length):xs.drop k=xs.getD k d::xs.drop (k+1):=by
 rw[List.drop_eq_getElem_cons h,List.getD_eq_getElem?_getD,List.getElem?_eq_getElem h];rfl
theorem lG {n:Int} (h:0≤n∧n≤255):ub (UInt8.ofNat n.toNat)=.int .u8 n:=by
 simp only[ub,UInt8.toNat_ofNat']
 congr 1
 omega
theorem axl {xs:List UInt8} {i:Nat} {n:Int} (h:0≤n∧n≤255):(xs.map ub).set i (.int .u8 n)=(xs.set i (UInt8.ofNat n.toNat)).map ub:=by
 rw[←lG h,List.map_set]
theorem Fw {xs:List UInt8} {n:Int} (h:0≤n∧n≤255):xs.map ub++[.int .u8 n]=(xs++[UInt8.ofNat n.toNat]).map ub:=by
 rw[←lG h];simp
theorem Iu {xs:List UInt8}:bytesOf (xs.map ub)=xs:=by
 simp only[bytesOf,List.map_map]
 conv=>rhs;rw[←List.map_id xs]
 refine List.map_congr_left fun x _=>?_
 simp[byteOfAV,ub]
theorem EO {xs:List UInt8}:gf (xs.map ub)=true:=by simp[gf,jk,ub]
theorem abk {a b:Int}:(if b > a then b else a)=max a b:=by omega
theorem abc {a b:Int}:(if b<a then b else a)=min a b:=by omega
theorem azb {k:Nat}:((k:Int)-1).toNat=k-1:=by omega
theorem aza {k:Nat}:((k:Int)+1).toNat=k+1:=by omega
theorem toNat_add {k m:Nat}:((k:Int)+(m:Int)).toNat=k+m:=by omega
theorem toNat_sub {k m:Nat}:((k:Int)-(m:Int)).toNat=k-m:=by omega
theorem MZ (st:St):evL st []=[]∧(∀x r,evL st (x::r)=ev st x::evL st r):=⟨rfl,fun _ _=>rfl⟩
theorem H8 (h:HP):borL h []=[]∧(∀x r,borL h (x::r)=borrow h x::borL h r):=⟨rfl,fun _ _=>rfl⟩
theorem H9 (h0 h:HP):kK h0 h []=[]∧(∀x r,kK h0 h (x::r)=bor h0 h x::kK h0 h r):=⟨rfl,fun _ _=>rfl⟩
theorem ays:kq []=[]∧(∀x r,kq (x::r)=stripV x::kq r):=⟨rfl,fun _ _=>rfl⟩
theorem EP:kE []=True∧(∀x r,kE (x::r)=(aB true x∧kE r)):=⟨rfl,fun _ _=>rfl⟩
theorem Fz (st:St) (k:Nat):argsAgain st k 0=[]∧(∀n,argsAgain st k (n+1)=(sget st.s (2000000+k)).getD .undef::argsAgain st (k+1) n):=⟨rfl,fun _=>rfl⟩
theorem ib {n:Int} (h:-9223372036854775808≤n∧n≤9223372036854775807):IntKind.i64.wrap n=n:=IntWalk.i64_in n h
theorem Km {p:Prop} [Decidable p] (h:p):decide p=true:=decide_eq_true h
theorem Ki {p:Prop} [Decidable p] (h:¬p):decide p=false:=decide_eq_false h
section
variable {P:Program} {st:St} {K:KS} {r:List ROp} {d:Nat} {c:Prop} {v:AV} {γ:Bool}
theorem aAa:valW P (.ok True v) d r st K=aopsW P r ⟨(d,v)::st.s,st.h⟩ K:=by simp only[uO,true_and]
theorem az9 (h:c):valW P (.ok c v) d r st K=aopsW P r ⟨(d,v)::st.s,st.h⟩ K:=by simp only[uO,h,true_and]
theorem MA:l8 P (.ok True v st) d r K=aopsW P r ⟨(d,v)::st.s,st.h⟩ K:=by simp only[sf,true_and]
theorem Mz (h:c):l8 P (.ok c v st) d r K=aopsW P r ⟨(d,v)::st.s,st.h⟩ K:=by simp only[sf,h,true_and]
theorem Ms:l7 P (.ok True v st) r K=aopsW P r st K:=by simp only[sd,true_and]
theorem Mr (h:c):l7 P (.ok c v st) r K=aopsW P r st K:=by simp only[sd,h,true_and]
end
theorem aBj {n:Int} (h:-128≤n∧n≤127):IntKind.i8.wrap n=n:=IntWalk.i8_in n h
theorem aBi {n:Int} (h:-32768≤n∧n≤32767):IntKind.i16.wrap n=n:=IntWalk.i16_in n h
theorem wrap_i32 {n:Int} (h:-2147483648≤n∧n≤2147483647):IntKind.i32.wrap n=n:=IntWalk.i32_in n h
theorem wrap_u8 {n:Int} (h:0≤n∧n≤255):IntKind.u8.wrap n=n:=IntWalk.u8_in n h
theorem wrap_u16 {n:Int} (h:0≤n∧n≤65535):IntKind.u16.wrap n=n:=IntWalk.u16_in n h
theorem wrap_u32 {n:Int} (h:0≤n∧n≤4294967295):IntKind.u32.wrap n=n:=IntWalk.u32_in n h
theorem wrap_u64 {n:Int} (h:0≤n∧n≤18446744073709551615):IntKind.u64.wrap n=n:=IntWalk.u64_in n h
section
variable {P:Program} {E:Env} {st:St} {Q:KQ} {x y:AK}
theorem yK {p:Prop} [Decidable p] (h1:p→vcW P E x Q st) (h2:¬p→vcW P E y Q st):kY P E (decide p) x y Q st:=
 ⟨fun h=>h1 (of_decide_eq_true h),fun h=>h2 (of_decide_eq_false h)⟩
end
attribute [go_sem] Zv YY Zq Y8 Zc ZE Mf Md Me ZD LM LN af1 ry pV yh OK Y5 Y4 asp Zh ZG ZC OH OG asq asr Zf Zg asf asm ZO ZN Zt YW Zo Y7 Y9 Za Y6 Zb Zd Ze aAk aAj MZ H8 H9 ays EP Fz Fl Fm Fo az8 Fg My Fh Mq vt Ff Fk OS OQ OP OM Fj Ox Ow Ov Fi ZF Zu Zw Zx YX YZ YV Hj Hi Zp Zr Zs aAq aAn aAi I3 TJ TI azt azu azs azr ZY ZX ZW ZU ZT Zj Zi Zk Zl Zm Zn YC YB axp axo axn axm Qi Qh Qg Qf Ry PD PC PA Pz aaW aaV aaU aaT LR LQ LP LO IV IE IJ II IG IU IK IP IH IQ IM IW IL ID YP YO YN YM Om Ol Oj Oi NL Ok YL YK aty atx atw List.take_succ_cons List.drop_succ_cons azx Bool.false_eq_true Bool.not_true Bool.not_false Bool.and_true Bool.true_and Bool.and_false Bool.false_and Bool.or_true Bool.or_false Bool.true_or Bool.false_or if_true if_false Option.getD_some Option.getD_none Option.map_some Option.map_none Option.isSome_some Option.isSome_none List.cons_append List.nil_append List.map_cons List.map_nil List.all_cons List.all_nil List.length_cons List.length_nil List.getD_cons_zero List.getD_cons_succ List.drop_zero List.take_zero decide_true decide_false afW afU afX afV Kh UP abm Kl Kg Kk GM GN GO imp_self implies_true decide_eq_true_eq decide_eq_false_iff_not eq_self Int.natCast_add Int.cast_ofNat_Int Nat.zero_add Nat.add_zero Int.add_zero Int.zero_add Bool.and_self Nat.sub_zero true_and and_true false_and and_false not_true_eq_false not_false_eq_true Option.some.injEq aP.arr.injEq aP.var.injEq AV.int.injEq AV.bool.injEq AV.str.injEq AV.ro.injEq AV.sl.injEq AV.az.injEq AV.agg.injEq AV.ak.injEq AV.fl.injEq AV.cx.injEq AV.ab.injEq AV.ptr.injEq List.cons.injEq Prod.mk.injEq false_imp_iff true_imp_iff forall_const Int.toNat_natCast UR aby abw abz ayT ayU ayV ayS ayW fP xp List.set_cons_zero List.set_cons_succ azb aza toNat_add toNat_sub abk abc axk axl Fw Iu EO axj Fp Fu Nu Nt Nv IZ IY I2 I1 List.length_map List.length_append List.length_set List.length_range List.length_replicate List.length_reverse axi axf axe axh
attribute [go_sem high] OO aAa MA Ms
attribute [go_sem] az9 Mz Mr ib aBj aBi wrap_i32 wrap_u8 wrap_u16 wrap_u32 wrap_u64 Km Ki
theorem jV {a b:Int} (h:0≤a):a.tdiv b=a/b:=Int.tdiv_eq_ediv_of_nonneg h
theorem fQ {a b:Int} (h:0≤a):a.tmod b=a%b:=Int.tmod_eq_emod_of_nonneg h
attribute [go_sem] jV fQ
attribute [go_sem low] abx
attribute [go_sem low] E8 uO sf sd
theorem Lx:(∀{α:Type} (a b:List α),(a++b).length=a.length+b.length)∧(∀{α:Type} (x:α) (a:List α),(x::a).length=a.length+1)∧(∀{α:Type},([]:List α).length=0)∧(∀{α:Type} (a:List α) (i:Nat) (x:α),(a.set i x).length=a.length) ∧
    (∀{α β:Type} (f:α→β) (a:List α),(a.map f).length=a.length)∧(∀{α:Type} (i:Nat) (a:List α),(a.take i).length=min i a.length)∧(∀{α:Type} (i:Nat) (a:List α),(a.drop i).length=a.length-i)∧(∀n:Nat,(List.range n).length=n) ∧
    (∀{α:Type} (n:Nat) (x:α),(List.replicate n x).length=n)∧(∀{α:Type} (a:List α),a.reverse.length=a.length):=
 ⟨fun _ _=>List.length_append,fun _ _=>List.length_cons,List.length_nil,fun _ _ _=>List.length_set,fun _ _=>List.length_map _,fun _ _=>List.length_take,fun _ _=>List.length_drop,fun _=>List.length_range,fun _ _=>List.length_replicate,fun _=>List.length_reverse⟩
theorem vV {p:Prop} (h:p:=by simp(disch:=first | omega | (simp only[Lx];omega))only[go_sem,simprocAttr]):p:=h
theorem wW {a b:Prop} (k:b) (h:b→a:=by intro h;simp(disch:=first | omega | (simp only[Lx];omega))only[go_sem,simprocAttr];exact h):a:=h k
theorem gG {a b:Prop} (k:b) (h:b→a:=by intro h;(repeat(first | (with_reducible refine dW ?_) | (with_reducible refine dU ?_) | (with_reducible refine dV ?_))<;>simp(disch:=first | omega | (simp only[Lx];omega))only[go_sem,simprocAttr]);exact h):a:=h k
theorem cW {E0:Prop} {p:Prop} (e0:E0) (h:E0→p:=by intro e0;simp(disch:=first | omega | (simp only[Lx];omega))only[go_sem,simprocAttr,e0]):p:=h e0
theorem aw {E0:Prop} {a b:Prop} (e0:E0) (k:b) (h:E0→b→a:=by intro e0 h;simp(disch:=first | omega | (simp only[Lx];omega))only[go_sem,simprocAttr,e0];exact h):a:=h e0 k
theorem ct {E0:Prop} {a b:Prop} (e0:E0) (k:b) (h:E0→b→a:=by intro e0 h;(repeat(first | (with_reducible refine dW ?_) | (with_reducible refine dU ?_) | (with_reducible refine dV ?_))<;>simp(disch:=first | omega | (simp only[Lx];omega))only[go_sem,simprocAttr,e0]);exact h):a:=h e0 k
theorem ia {E0 E1:Prop} {p:Prop} (e0:E0) (e1:E1) (h:E0→E1→p:=by intro e0 e1;simp(disch:=first | omega | (simp only[Lx];omega))only[go_sem,simprocAttr,e0,e1]):p:=h e0 e1
theorem bm {E0 E1:Prop} {a b:Prop} (e0:E0) (e1:E1) (k:b) (h:E0→E1→b→a:=by intro e0 e1 h;simp(disch:=first | omega | (simp only[Lx];omega))only[go_sem,simprocAttr,e0,e1];exact h):a:=h e0 e1 k
theorem eL {E0 E1:Prop} {a b:Prop} (e0:E0) (e1:E1) (k:b) (h:E0→E1→b→a:=by intro e0 e1 h;(repeat(first | (with_reducible refine dW ?_) | (with_reducible refine dU ?_) | (with_reducible refine dV ?_))<;>simp(disch:=first | omega | (simp only[Lx];omega))only[go_sem,simprocAttr,e0,e1]);exact h):a:=h e0 e1 k
theorem uL {E0 E1 E2:Prop} {p:Prop} (e0:E0) (e1:E1) (e2:E2) (h:E0→E1→E2→p:=by intro e0 e1 e2;simp(disch:=first | omega | (simp only[Lx];omega))only[go_sem,simprocAttr,e0,e1,e2]):p:=h e0 e1 e2
theorem ck {E0 E1 E2:Prop} {a b:Prop} (e0:E0) (e1:E1) (e2:E2) (k:b) (h:E0→E1→E2→b→a:=by intro e0 e1 e2 h;simp(disch:=first | omega | (simp only[Lx];omega))only[go_sem,simprocAttr,e0,e1,e2];exact h):a:=h e0 e1 e2 k
theorem gS {E0 E1 E2:Prop} {a b:Prop} (e0:E0) (e1:E1) (e2:E2) (k:b) (h:E0→E1→E2→b→a:=by intro e0 e1 e2 h;(repeat(first | (with_reducible refine dW ?_) | (with_reducible refine dU ?_) | (with_reducible refine dV ?_))<;>simp(disch:=first | omega | (simp only[Lx];omega))only[go_sem,simprocAttr,e0,e1,e2]);exact h):a:=h e0 e1 e2 k
theorem az5 {E0 E1 E2 E3:Prop} {p:Prop} (e0:E0) (e1:E1) (e2:E2) (e3:E3) (h:E0→E1→E2→E3→p:=by intro e0 e1 e2 e3;simp(disch:=first | omega | (simp only[Lx];omega))only[go_sem,simprocAttr,e0,e1,e2,e3]):p:=h e0 e1 e2 e3
theorem eC {E0 E1 E2 E3:Prop} {a b:Prop} (e0:E0) (e1:E1) (e2:E2) (e3:E3) (k:b) (h:E0→E1→E2→E3→b→a:=by intro e0 e1 e2 e3 h;simp(disch:=first | omega | (simp only[Lx];omega))only[go_sem,simprocAttr,e0,e1,e2,e3];exact h):a:=h e0 e1 e2 e3 k
theorem x7 {E0 E1 E2 E3:Prop} {a b:Prop} (e0:E0) (e1:E1) (e2:E2) (e3:E3) (k:b) (h:E0→E1→E2→E3→b→a:=by intro e0 e1 e2 e3 h;(repeat(first | (with_reducible refine dW ?_) | (with_reducible refine dU ?_) | (with_reducible refine dV ?_))<;>simp(disch:=first | omega | (simp only[Lx];omega))only[go_sem,simprocAttr,e0,e1,e2,e3]);exact h):a:=h e0 e1 e2 e3 k
theorem cM {E0 E1 E2 E3 E4:Prop} {a b:Prop} (e0:E0) (e1:E1) (e2:E2) (e3:E3) (e4:E4) (k:b) (h:E0→E1→E2→E3→E4→b→a:=by intro e0 e1 e2 e3 e4 h;simp(disch:=first | omega | (simp only[Lx];omega))only[go_sem,simprocAttr,e0,e1,e2,e3,e4];exact h):a:=h e0 e1 e2 e3 e4 k
theorem nr {E0 E1 E2 E3 E4:Prop} {a b:Prop} (e0:E0) (e1:E1) (e2:E2) (e3:E3) (e4:E4) (k:b) (h:E0→E1→E2→E3→E4→b→a:=by intro e0 e1 e2 e3 e4 h;(repeat(first | (with_reducible refine dW ?_) | (with_reducible refine dU ?_) | (with_reducible refine dV ?_))<;>simp(disch:=first | omega | (simp only[Lx];omega))only[go_sem,simprocAttr,e0,e1,e2,e3,e4]);exact h):a:=h e0 e1 e2 e3 e4 k
theorem n8 {E0 E1 E2 E3 E4 E5:Prop} {a b:Prop} (e0:E0) (e1:E1) (e2:E2) (e3:E3) (e4:E4) (e5:E5) (k:b) (h:E0→E1→E2→E3→E4→E5→b→a:=by intro e0 e1 e2 e3 e4 e5 h;simp(disch:=first | omega | (simp only[Lx];omega))only[go_sem,simprocAttr,e0,e1,e2,e3,e4,e5];exact h):a:=h e0 e1 e2 e3 e4 e5 k
inductive q8:AV→AV→Prop where
 | refl (a:AV):q8 a a
 | nil (sz:Nat):q8 .al (.ro sz [])
theorem RV.MC {X:Nat→Prop} {w:World} {ρ:Loc} {v:Value} {a b:AV} (h:RV X w ρ v a) (k:q8 a b):RV X w ρ v b:=by
 cases k with
 | refl=>exact h
 | nil sz=>cases h;exact .ro ρ none 0 sz [] [] (Nat.le_refl _) (fun e he=>by cases he) rfl (fun j hj=>by simp at hj) (fun j v a h1 _=>by simp at h1)
def vA:AE→Bool
 | .t _=>true
 | .c v=>flA v
theorem Ei {P:Program} {q:Bool} {st st':St} {f:Nat} {args:List AE} {K:AV→St→Prop} (hw:Wk st st') (hc:args.all vA=true) (h:fv P q st' f args K):fv P q st f args K:=by
 intro E ρ a w vs hr aN hrv
 obtain⟨ρ',hr'⟩:=qX hw hr
 refine h E ρ' a w vs hr' aN (fun j v x e1 e2=>⟨?_,(hrv j v x e1 e2).2⟩)
 obtain⟨g1,g2⟩:=hrv j v x e1 e2
 cases x with
 | t k=>
  obtain⟨g3,g4⟩:=g2 k rfl
  have:=cz hr' (.tmp k)
  simp only[trE,g3,if_true]at this
  rw[g4]
  exact this
 | c c=>
  have:=List.all_eq_true.1 hc _ (List.mem_of_getElem? e2)
  exact RV.flA (show RV _ w ρ v c from g1) this
theorem j5 {P:Program} {q:Bool} {st:St} {f:Nat} {args:List AE} {as:List AV} {d:Option Nat} {r:List ROp} {K:KS} (st':St) (hw:Wk st st') (hc:args.all vA=true) (h:gh P q st' f args (evL st' args) d r K):gh P q st f args as d r K:=by
 rintro rfl
 exact Ei hw hc (h (jf st' args))
end Go.Proofs.YtjoefngnjoofeaaGreatDoor.Eng
namespace Go.Proofs.YtjoefngnjoofeaaGreatDoor.Eng
def jy (P:Program) (f n:Nat) (h:HP) (args:List AV) (Post:HP→AV→List AV→Prop):Prop:=
 ∀(X0:Nat→Prop) (ρ:Loc) (w:World) (vs:Array Value),eD X0 ρ h w→iZ (bQ ρ h) w→(∀b,X0 b→b<w.heap.size)→vs.size=args.length →
  (∀(j:Nat) v x,vs[j]?=some v→args[j]?=some x→RV (XX X0 ρ h) w ρ v x) →
  Calls P f (vs.extract 0 n) w fun e w'=>∃v h' r ρ' as,e=.returned v∧Post h' r as∧eD X0 ρ' h' w'∧RV (XX X0 ρ' h') w' ρ' v r ∧
   as.length=args.length∧(∀(j:Nat) v x,vs[j]?=some v→as[j]?=some x→RV (XX X0 ρ' h') w' ρ' v x) ∧
   w'.os=w.os∧w'.tape=w.tape∧w'.output=w.output∧w.heap.size≤w'.heap.size∧(∀b,b<w.heap.size→¬bQ ρ h b→w'.heap[b]?=w.heap[b]?) ∧
   (∀b,bQ ρ' h' b→w.heap.size≤b∨bQ ρ h b)
def qJ (n:Nat) (args:List AV):List (Nat×AV):=numbered 0 (args.take n)++numbered 2000000 args
theorem ayc {P:Program} {f:Nat} {fn:Func} {body:Code} {h:HP} {args:List AV} {Post:HP→AV→List AV→Prop} {c:AC} (hf:P.funcs[f]?=some fn) (hb:fn.body=some body) {B n:Nat} (hc:trCode P fn.ntmps B body=c)
    (hN:fn.ntmps≤1000000) (hn:n≤args.length) (ha:n≤fn.ntmps) (hp:∀E:Env,E.N=fn.ntmps→E.B=B→E.rd=none→b7 P E c ⟨qJ n args,h⟩ (postQ (fn.results.toList.map (trRes P)) args.length Post)):jy P f n h args Post:=by
 intro X0 ρ w vs hh hA hX hvs hrv
 let E:Env:=⟨w,bQ ρ h,X0,fn.ntmps,B,fun k=>vs.getD (k-2000000) undef,none,w.heap.size,Nat.le_refl _,[]⟩
 refine(callsIn_wide (n:=0)).1 (callsIn_of_wp_marks hf hb trivial (wpIn_mono (hp E rfl rfl rfl 0 body hc _ w ⟨ρ,?_⟩) ?_))
 ·have hex:∀k,k<n→(vs.extract 0 n)[k]?=vs[k]?:=fun k hk=>by
   rw[Array.getElem?_extract];simp;omega
  refine⟨gA.nil _ _,by simp[E];omega,fun k av hk=>?_,hh,fun id W L b h1 h2 h3=>.inr ⟨id,W,L,h1,h2,h3⟩,⟨rfl,rfl,rfl,Nat.le_refl _,fun _ _ _=>rfl,hA⟩,hX⟩
  simp only[qJ,lx]at hk
  cases h0:sget (numbered 0 (args.take n)) k with
  | some av0=>
   rw[h0]at hk
   obtain rfl:=Option.some.inj hk
   obtain⟨_,h2⟩:=jr (args.take n) 0 k _ h0
   have hlt:k<n:=by
    have:=(List.getElem?_eq_some_iff.1 h2).1
    simp at this;omega
   have h2:args[k]?=some av0:=by
    rw[Nat.sub_zero,List.getElem?_take_of_lt hlt]at h2;exact h2
   have hlt2:k<E.N:=by simp only[E];omega
   refine⟨.inl hlt2,?_⟩
   have hv:vs[k]?=some (vs[k]'(by omega)):=Array.getElem?_eq_getElem _
   unfold bN
   rw[if_pos hlt2,Array.getD_eq_getD_getElem?,Array.getElem?_append_left (by simp;omega),hex k hlt,hv]
   exact hrv k _ _ hv h2
  | none=>
   rw[h0]at hk
   obtain⟨h1,h2⟩:=jr args 2000000 k av hk
   have hlt:k-2000000<args.length:=(List.getElem?_eq_some_iff.1 h2).1
   refine⟨.inr h1,?_⟩
   have hv:vs[k-2000000]?=some (vs[k-2000000]'(by omega)):=Array.getElem?_eq_getElem _
   unfold bN
   rw[if_neg (by simp only[E];omega)]
   simp only[E,Array.getD_eq_getD_getElem?,hv]
   exact hrv _ _ av hv h2
 ·rintro e a' w' ⟨st',⟨ρ',g0⟩,q⟩
  have fin:∀r,resOf st' (fn.results.toList.map (trRes P))=some r→Post st'.h r (argsAgain st' 0 args.length)→bodyPostM Fence.wide 0 P fn (fun e w'=>∃v h' r ρ' as,e=.returned v∧Post h' r as∧eD X0 ρ' h' w'∧RV (XX X0 ρ' h') w' ρ' v r ∧
   as.length=args.length∧(∀(j:Nat) v x,vs[j]?=some v→as[j]?=some x→RV (XX X0 ρ' h') w' ρ' v x) ∧
   w'.os=w.os∧w'.tape=w.tape∧w'.output=w.output∧w.heap.size≤w'.heap.size∧(∀b,b<w.heap.size→¬bQ ρ h b→w'.heap[b]?=w.heap[b]?) ∧
   (∀b,bQ ρ' h' b→w.heap.size≤b∨bQ ρ h b)) .ret a' w':=by
   intro r hr hP
   obtain⟨⟨Ds,hDs⟩,_⟩:=g0.defers
   show LeavesInM Fence.wide 0 P fn a'.tmps _ a'.defers .returning w'
   rw[hDs]
   refine kg (E:=E) (ρ:=ρ') (st:=st') (a:=a') (by simp) (fun w' g=>?_) rfl rfl Ds w' (by rw[←hDs];exact g0)
   obtain⟨v,g1,g2⟩:=ue (P:=P) g hr
   refine⟨v,g1,v,st'.h,r,ρ',_,rfl,hP,g.heap,g2,mT _ _ _,fun j v x e1 e2=>?_,g.aL.os,g.aL.tape,g.aL.output,g.aL.size,g.aL.block,fun b ⟨id,W,L,h1,h2,h3⟩=>g.base id W L b h1 h2 h3⟩
   have:=oA st' _ _ j x e2
   rw[Nat.zero_add]at this
   cases hs:sget st'.s (2000000+j)with
   | none=>rw[hs]at this;subst this;exact .undef _ _
   | some av=>
    rw[hs]at this
    obtain rfl:x=av:=this
    have hr2:=(g.bD _ _ hs).2
    unfold bN at hr2
    rw[if_neg (by simp only[E];omega)]at hr2
    simp only[E,Nat.add_sub_cancel_left,Array.getD_eq_getD_getElem?,e1]at hr2
    exact hr2
  cases e with
  | normal=>obtain⟨r,hr,hP⟩:=q;exact fin r hr hP
  | ret=>obtain⟨r,hr,hP⟩:=q;exact fin r hr hP
  | exit id=>exact q.elim
  | goto l=>exact q.elim
  | panic ch=>exact q.elim
  | outgrown=>exact q.elim
theorem ayd {P:Program} {f n:Nat} {h:HP} {args:List AV} {Post:HP→AV→List AV→Prop}
    (hs:jy P f n h args (fun h' r as=>∃h2 r2 as2,as2.length=as.length∧Wk ⟨(0,r)::numbered 1 as,h'⟩ ⟨(0,r2)::numbered 1 as2,h2⟩∧Post h2 r2 as2)):jy P f n h args Post:=by
 intro X0 ρ w vs h1 hA h2 h3 h4
 refine(hs X0 ρ w vs h1 hA h2 h3 h4).mono ?_
 rintro e w' ⟨v,h',r,ρ',as,rfl,⟨h2',r2,as2,hlen,hwk,hP⟩,g3,g4,g5,g6,g7,g8,g9,g10,g11,g12⟩
 let E:Env:=⟨w',fun b=>w.heap.size≤b∨bQ ρ h b,X0,vs.size+1,0,fun _=>undef,none,0,Nat.zero_le _,[]⟩
 let a:Act:={tmps:=#[v]++vs,defers:=[]}
 have hsv:∀j,j<vs.size→bN E a (1+j)=vs.getD j undef:=by
  intro j hj
  unfold bN
  rw[if_pos (show 1+j<vs.size+1 by omega)]
  simp only[a,Array.getD_eq_getD_getElem?]
  rw[Array.getElem?_append_right (by simp)]
  simp
 have hr:au E ρ' ⟨(0,r)::numbered 1 as,h'⟩ a w':=by
  refine⟨gA.nil _ _,by simp[a,E];omega,fun k av hk=>?_,g3,fun id W L b e1 e2 e3=>.inr (g12 b ⟨id,W,L,e1,e2,e3⟩),⟨rfl,rfl,rfl,Nat.le_refl _,fun _ _ _=>rfl,hA.1.stays (fun b _ _ _ hb _=>g11 b (hA.1.lt hb) (hA.2 b hb)),fun b hb hx=>hx.elim (fun g=>by have:=hA.1.lt hb;omega) (hA.2 b hb)⟩,fun b hb=>Nat.lt_of_lt_of_le (h2 b hb) g10⟩
  simp only[sget]at hk
  split at hk
  ·rename_i e;subst e
   obtain rfl:=Option.some.inj hk
   refine⟨.inl (show 0<vs.size+1 by omega),?_⟩
   have:bN E a 0=v:=by
    unfold bN
    rw[if_pos (show 0<vs.size+1 by omega)]
    simp only[a];exact pF v vs
   rw[this];exact g4
  ·obtain⟨e1,e2⟩:=jr as 1 k av hk
   have hlt:=(List.getElem?_eq_some_iff.1 e2).1
   obtain⟨j,rfl⟩:∃j,k=1+j:=⟨k-1,by omega⟩
   have hj:j<vs.size:=by omega
   refine⟨.inl (show 1+j<vs.size+1 by omega),?_⟩
   rw[hsv j hj]
   have hv:vs[j]?=some (vs.getD j undef):=by rw[Array.getD_eq_getD_getElem?,Array.getElem?_eq_getElem hj];rfl
   exact g6 j _ av hv (by rw[Nat.add_sub_cancel_left]at e2;exact e2)
 obtain⟨ρ2,hr2⟩:=qX hwk hr
 refine⟨v,h2',r2,ρ2,as2,rfl,hP,hr2.heap,?_,by omega,fun j u x e1 e2=>?_,g7,g8,g9,g10,g11,fun b ⟨id,W,L,e1,e2,e3⟩=>?_⟩
 ·have:=(hr2.bD 0 r2 (by simp[sget])).2
  have e:bN E a 0=v:=by
   unfold bN
   rw[if_pos (show 0<vs.size+1 by omega)]
   simp only[a];exact pF v vs
  rw[e]at this;exact this
 ·have hj:=(Array.getElem?_eq_some_iff.1 e1).1
  have hs2:sget ((0,r2)::numbered 1 as2) (1+j)=some x:=by
   simp only[sget]
   rw[if_neg (by omega)]
   exact nP as2 1 j x e2
  have:=(hr2.bD (1+j) x hs2).2
  rw[hsv j hj,Array.getD_eq_getD_getElem?,e1]at this
  exact this
 ·rcases hr2.base id W L b e1 e2 e3 with g | g
  ·exact .inl (Nat.le_trans g10 g)
  ·exact g
def fltB (b:Bool) (k:Nat) (v:AV) (r:List (Nat×AV)):List (Nat×AV):=
 match b with
 | true=>(k,v)::r
 | false=>r
def fltO (o:Option AV) (k:Nat) (r:List (Nat×AV)):List (Nat×AV):=
 match o with
 | some v=>fltB (flA v) k v r
 | none=>r
def fltS (s0:List (Nat×AV)):List (Nat×AV)→List (Nat×AV)
 | []=>[]
 | (k,_)::r=>fltO (sget s0 k) k (fltS s0 r)
def getL (s:List (Nat×AV)):List Nat→List AV
 | []=>[]
 | k::r=>(sget s k).getD .undef::getL s r
def zipS:List Nat→List AV→List (Nat×AV)
 | k::ks,v::vs=>(k,v)::zipS ks vs
 | _,_=>[]
theorem yd (s:List (Nat×AV)):∀ks,(getL s ks).length=ks.length
 | []=>rfl
 | k::r=>by simp[getL,yd s r]
theorem yc (s:List (Nat×AV)):∀(ks:List Nat) (j k:Nat),ks[j]?=some k→(getL s ks)[j]?=some ((sget s k).getD .undef)
 | [],j,k,h=>by simp at h
 | q::r,0,k,h=>by simp at h;subst h;rfl
 | q::r,j+1,k,h=>by simpa[getL]using yc s r j k (by simpa using h)
theorem D4:∀{ks:List Nat} {vs:List AV} {k:Nat} {v:AV},sget (zipS ks vs) k=some v→∃j:Nat,ks[j]?=some k∧vs[j]?=some v
 | [],vs,k,v,h=>by simp[zipS,sget]at h
 | q::ks,[],k,v,h=>by simp[zipS,sget]at h
 | q::ks,u::vs,k,v,h=>by
  simp only[zipS,sget]at h
  split at h
  ·rename_i e
   obtain rfl:=Option.some.inj h
   exact⟨0,by rw[e];rfl,rfl⟩
  ·obtain⟨j,h1,h2⟩:=D4 h
   exact⟨j+1,by simpa using h1,by simpa using h2⟩
theorem pA {s0:List (Nat×AV)}:∀{s:List (Nat×AV)} {k:Nat} {v:AV},sget (fltS s0 s) k=some v→sget s0 k=some v∧flA v=true
 | [],k,v,h=>by simp[fltS,sget]at h
 | (q,u)::s,k,v,h=>by
  unfold fltS at h
  cases hq:sget s0 q with
  | none=>rw[hq]at h;exact pA (s:=s) h
  | some x=>
   rw[hq]at h
   simp only[fltO]at h
   cases hu:flA x with
   | true=>
    rw[hu]at h
    simp only[fltB,sget]at h
    split at h
    ·rename_i e
     subst e
     obtain rfl:=Option.some.inj h
     exact⟨hq,hu⟩
    ·exact pA h
   | false=>
    rw[hu]at h
    exact pA (s:=s) h
def mR (st:St) (ks:List Nat) (h':HP) (gs:List AV):St:=⟨zipS ks gs++fltS st.s st.s,h'⟩
theorem Ec {P:Program} {st:St} {f:Nat} {args:List AE} {K:AV→St→Prop} {Post:HP→AV→List AV→Prop} (ks:List Nat) (hks:ks.all (fun k=>(sget st.s k).isSome)=true)
    (hs:jy P f args.length st.h (args.map (ev st)++getL st.s ks) Post)
    (hK:∀h' r as,Post h' r as→K r (mR st ks h' (as.drop args.length))):fv P false st f args K:=by
 intro E ρ a w vs h hvs hrv
 let us:Array Value:=(ks.map (bN E a)).toArray
 have hus:us.size=ks.length:=by simp[us]
 have hex:(vs++us).extract 0 args.length=vs:=by
  rw[←hvs];simp
 have:=hs E.X0 ρ w (vs++us) h.heap h.dI h.x0 (by simp[hvs,hus,yd]) (fun j v x e1 e2=>?_)
 ·rw[hex]at this
  refine this.mono ?_
  rintro e w' ⟨v,h',r,ρ',as,rfl,hP,hH,hr,hal,has,q1,q2,q3,q4,q5,q6⟩
  refine⟨v,ρ',mR st ks h' (as.drop args.length),r,rfl,⟨h.defers.turn (fun b hb=>q5 b (Array.getElem?_eq_some_iff.1 hb).1 (fun hx=>nE h.heap hb hx)),h.size,fun k av hk=>?_,hH,fun id W L b e1 e2 e3=>?_,?_,fun b hb=>Nat.lt_of_lt_of_le (h.x0 b hb) q4⟩,hr,hK h' r as hP,fun hq=>by cases hq⟩
  ·simp only[mR,lx]at hk
   cases hz:sget (zipS ks (as.drop args.length)) k with
   | some av1=>
    rw[hz]at hk
    obtain rfl:av1=av:=Option.some.inj hk
    obtain⟨j,g1,g2⟩:=D4 hz
    have hk1:=List.all_eq_true.1 hks k (List.mem_of_getElem? g1)
    obtain⟨av0,hav0⟩:=Option.isSome_iff_exists.1 hk1
    refine⟨(h.bD k av0 hav0).1,?_⟩
    rw[List.getElem?_drop]at g2
    refine has (args.length+j) (bN E a k) av1 ?_ g2
    rw[Array.getElem?_append_right (by omega),hvs,Nat.add_sub_cancel_left]
    simp[us,g1]
   | none=>
    rw[hz,Option.none_or]at hk
    obtain⟨g1,g2⟩:=pA hk
    exact⟨(h.bD k av g1).1,(h.bD k av g1).2.flA g2⟩
  ·rcases q6 b ⟨id,W,L,e1,e2,e3⟩with g | ⟨id',W',L',f1,f2,f3⟩
   ·exact .inl (Nat.le_trans h.aL.size g)
   ·exact h.base id' W' L' b f1 f2 f3
  ·refine⟨q1.trans h.aL.os,q2.trans h.aL.tape,q3.trans h.aL.output,Nat.le_trans h.aL.size q4,fun b hb hF=>(q5 b (Nat.lt_of_lt_of_le hb h.aL.size) ?_).trans (h.aL.block b hb hF),h.aL.dI⟩
   rintro⟨id',W',L',f1,f2,f3⟩
   rcases h.base id' W' L' b f1 f2 f3 with g | g
   ·omega
   ·exact hF g
 ·by_cases hj:j<args.length
  ·rw[Array.getElem?_append_left (by omega)]at e1
   rw[List.getElem?_append_left (by simpa using hj),List.getElem?_map]at e2
   obtain⟨y,g1,rfl⟩:=Option.map_eq_some_iff.1 e2
   exact(hrv j v y e1 g1).1
  ·rw[Array.getElem?_append_right (by omega),hvs]at e1
   rw[List.getElem?_append_right (by simpa using hj),List.length_map]at e2
   simp only[us,List.getElem?_toArray,List.getElem?_map]at e1
   obtain⟨k,g1,rfl⟩:=Option.map_eq_some_iff.1 e1
   rw[yc _ _ _ _ g1]at e2
   obtain rfl:=Option.some.inj e2
   obtain⟨av0,hav0⟩:=Option.isSome_iff_exists.1 (List.all_eq_true.1 hks k (List.mem_of_getElem? g1))
   rw[hav0]
   exact(h.bD k av0 hav0).2
section
variable {P:Program} {st:St} {f n:Nat} {args:List AE} {as bs:List AV} {d:Option Nat} {r:List ROp} {K:KS} {Post:HP→AV→List AV→Prop}
theorem Ix (ks:List Nat) (hks:ks.all (fun k=>(sget st.s k).isSome)=true) (hb:as++getL st.s ks=bs) (hn:args.length=n) (hs:jy P f n st.h bs Post)
    (h:∀h' v as',Post h' v as'→aopsW P r (put (mR st ks h' (as'.drop n)) d v) K):gh P false st f args as d r K:=by
 rintro rfl
 subst hb
 subst hn
 exact Ec ks hks hs h
end
theorem NI (s0:List (Nat×AV)):fltS s0 []=[]:=(rfl)
theorem NH (s0:List (Nat×AV)) (k:Nat) (v:AV) (r:List (Nat×AV)):fltS s0 ((k,v)::r)=fltO (sget s0 k) k (fltS s0 r):=(rfl)
theorem NG (v:AV) (k:Nat) (r:List (Nat×AV)):fltO (some v) k r=fltB (flA v) k v r:=(rfl)
theorem NF (v:AV) (k:Nat) (r:List (Nat×AV)):fltB true k v r=(k,v)::r:=(rfl)
theorem ND (v:AV) (k:Nat) (r:List (Nat×AV)):fltB false k v r=r:=(rfl)
theorem OC (s:List (Nat×AV)):getL s []=[]:=(rfl)
theorem OA (s:List (Nat×AV)) (k:Nat) (r:List Nat):getL s (k::r)=(sget s k).getD .undef::getL s r:=(rfl)
theorem aB2 (vs:List AV):zipS [] vs=[]:=(rfl)
theorem aB1 (k:Nat) (ks:List Nat) (v:AV) (vs:List AV):zipS (k::ks) (v::vs)=(k,v)::zipS ks vs:=(rfl)
theorem ER (st:St) (ks:List Nat) (h':HP) (gs:List AV):mR st ks h' gs=⟨zipS ks gs++fltS st.s st.s,h'⟩:=(rfl)
attribute [go_sem] NI NH NG NF ND OC OA aB2 aB1 ER
end Go.Proofs.YtjoefngnjoofeaaGreatDoor.Eng
namespace Go.Proofs.YtjoefngnjoofeaaGreatDoor.Eng
namespace Kz
abbrev ci (n:Int):AE:=.c (.int .i64 n)
abbrev m (d k:Nat):ROp:=.v d (.ah (.t k))
abbrev k (d:Nat) (x:AE):ROp:=.v d (.ah x)
abbrev b (d:Nat) (op:BinOp) (x y:Nat):ROp:=.v d (.bin op (.t x) (.t y))
abbrev bi (d:Nat) (op:BinOp) (x:Nat) (n:Int):ROp:=.v d (.bin op (.t x) (ci n))
abbrev u (id d:Nat) (o:AO):ROp:=.val d true id o
end Kz
section
variable {P:Program} {E:Env} {st:St} {Q:KQ}
theorem aAm {pre post:List ROp} {o:ROp} {ks:List Nat}:vcW P E (.dF pre o post ks) Q st=aopsW P pre st (KS.xn P o post ks Q):=(rfl)
theorem aAe {p x y:List ROp} {ks:List Nat}:vcW P E (.alt p x y ks) Q st=aopsW P p st (KS.alt P x y ks Q):=(rfl)
theorem aAf {T:RT} {ks:List Nat}:vcW P E (.gM T ks) Q st=iQ P T st (KS.aa ks Q):=(rfl)
theorem aAr {ops:List ROp} {d f bk p q0:Nat} {x:AE} {c:UInt8} {body:AK}:vcW P E (.split ops d f x c bk p q0 body) Q st=aopsW P ops st (KS.C7 P E d f x c bk p q0 body Q):=(rfl)
end
attribute [go_sem] aAp aAl aAh aAg aAm aAe aAr aAf av9 awa ZH
def fnChk (P:Program) (fn:Func) (B p:Nat):Option (AC×List RVar):=
 match fn.body with
 | some b=>bif Nat.ble fn.ntmps 1000000&&Nat.ble p fn.ntmps then some (trCode P fn.ntmps B b,fn.results.toList.map (trRes P))else none
 | none=>none
def aA (P:Program) (f B p:Nat) (x:AK) (rs:List RVar):Prop:=∃fn,P.funcs[f]?=some fn∧fnChk P fn B p=some (x.erase B,rs)
theorem aA.out {P:Program} {f B p:Nat} {x:AK} {rs:List RVar} (h:aA P f B p x rs):∃fn body,P.funcs[f]?=some fn∧fn.body=some body∧trCode P fn.ntmps B body=x.erase B∧fn.results.toList.map (trRes P)=rs∧fn.ntmps≤1000000∧p≤fn.ntmps:=by
 obtain⟨fn,h1,h2⟩:=h
 unfold fnChk at h2
 split at h2
 ·rename_i body hb
  cases hc:(Nat.ble fn.ntmps 1000000&&Nat.ble p fn.ntmps)with
  | false=>rw[hc]at h2;cases h2
  | true=>
   rw[hc]at h2
   have h3:=Option.some.inj h2
   injection h3 with h4 h5
   simp only[Bool.and_eq_true,Nat.ble_eq]at hc
   exact⟨fn,body,h1,hb,h4,h5,hc.1,hc.2⟩
 ·cases h2
def aD (P:Program) (x:AK) (rs:List RVar) (p:Nat) (s:List (Nat×AV)) (h:HP) (Post:HP→AV→List AV→Prop):Prop:=
 ∀(E:Env) (R:HP→AV→List AV→Prop),E.N≤1000000→dx Post R→vcW P E x (KQ.post rs p R) ⟨s,h⟩
def u9 (P:Program) (x:AK) (rs:List RVar) (p:Nat) (s:List (Nat×AV)) (h:HP) (Post:HP→AV→List AV→Prop):Prop:=
 ∀(E:Env) (R:HP→AV→List AV→Prop),E.N≤1000000→E.rd=none→dx Post R→vcW P E x (KQ.post rs p R) ⟨s,h⟩
def og (P:Program) (x:AK) (V:Value) (s:List (Nat×AV)) (h:HP):Prop:=∀(E:Env),E.N≤1000000→vcW P E x (KQ.dies V) ⟨s,h⟩
section
variable {P:Program} {f B p:Nat} {x:AK} {rs:List RVar} {h:HP} {args:List AV} {Post:HP→AV→List AV→Prop}
theorem ayk (hf:aA P f B p x rs) (hl:args.length=p) (s:List (Nat×AV)) (hs:eM (hZ args) s) (hp:u9 P x rs p s h Post):Spec P f h args Post:=by
 obtain⟨fn,body,h1,h2,h3,h4,h5,h6⟩:=hf.out
 refine C6 (ayn h1 h2 h3 h5 (by omega) (fun E hE hB hrd=>?_))
 have hN:E.N≤1000000:=by rw[hE];exact h5
 rw[h4,←hB,hl]
 exact oC s hs (fR hN _ (hp E _ hN hrd sn))
theorem aE (hf:aA P f B p x rs) (hl:args.length=p) (s:List (Nat×AV)) (hs:eM (hZ args) s) (hp:aD P x rs p s h Post):Spec P f h args Post:=
 ayk hf hl s hs (fun E R h1 _ h2=>hp E R h1 h2)
theorem uC {V:Value} (hf:aA P f B p x rs) (hl:args.length=p) (s:List (Nat×AV)) (hs:eM (hZ args) s) (hp:og P x V s h):gL P f h args V:=by
 obtain⟨fn,body,h1,h2,h3,h4,h5,h6⟩:=hf.out
 exact ayg h1 h2 h3 h5 (by omega) s hs hp
theorem ayl {n:Nat} (hf:aA P f B n x rs) (hl:n≤args.length) (s:List (Nat×AV)) (hs:eM (qJ n args) s) (hp:u9 P x rs args.length s h Post):jy P f n h args Post:=by
 obtain⟨fn,body,h1,h2,h3,h4,h5,h6⟩:=hf.out
 refine ayd (ayc h1 h2 h3 h5 hl (by omega) (fun E hE hB hrd=>?_))
 have hN:E.N≤1000000:=by rw[hE];exact h5
 rw[h4,←hB]
 exact oC s hs (fR hN _ (hp E _ hN hrd sn))
theorem ayj {n:Nat} (hf:aA P f B n x rs) (hl:n≤args.length) (s:List (Nat×AV)) (hs:eM (qJ n args) s) (hp:aD P x rs args.length s h Post):jy P f n h args Post:=
 ayl hf hl s hs (fun E R h1 _ h2=>hp E R h1 h2)
end
end Go.Proofs.YtjoefngnjoofeaaGreatDoor.Eng
namespace Go.Proofs.YtjoefngnjoofeaaGreatDoor.Eng
def rk (P:Program) (g:Nat) (h:HP) (args:List AV) (V:Value) (h':HP):Prop:=
 ∀(X0:Nat→Prop) (ρ:Loc) (w:World) (vs:Array Value),eD X0 ρ h w→iZ (bQ ρ h) w→(∀b,X0 b→b<w.heap.size)→vs.size=args.length →
  (∀(j:Nat) v x,vs[j]?=some v→args[j]?=some x→RV (XX X0 ρ h) w ρ v x) →
  CallsDIn Fence.wide 0 P g vs (.panicking (cL V)) w fun e u' w'=>(∃v,e=.returned v)∧u'=.panicking [{v:=V,recovered:=true}]∧∃ρ',eD X0 ρ' h' w' ∧
   (∀(j:Nat) v x,vs[j]?=some v→args[j]?=some x→RV (XX X0 ρ' h') w' ρ' v x) ∧
   w'.os=w.os∧w'.tape=w.tape∧w'.output=w.output∧w.heap.size≤w'.heap.size∧(∀b,b<w.heap.size→¬bQ ρ h b→w'.heap[b]?=w.heap[b]?) ∧
   (∀b,bQ ρ' h' b→w.heap.size≤b∨bQ ρ h b)
def oh (P:Program) (g k:Nat):Prop:=∀(vs:Array Value) (w:World),vs.size=k→CallsDIn Fence.wide 0 P g vs .returning w fun e u' w'=>(∃v,e=.returned v)∧u'=.returning∧w'=w
def ghL:Nat→Nat→List AE
 | _,0=>[]
 | j,k+1=>.t j::ghL (j+1) k
def sK (m k:Nat):List AE:=ghL (2000000+m) k
theorem yf:∀k j,(ghL j k).length=k
 | 0,_=>rfl
 | k+1,j=>by simp[ghL,yf k]
theorem ye:∀k j i,i<k→(ghL j k)[i]?=some (.t (j+i))
 | 0,_,_,h=>by omega
 | k+1,j,0,_=>rfl
 | k+1,j,i+1,h=>by
  simp only[ghL,List.getElem?_cons_succ]
  rw[ye k (j+1) i (by omega),show j+1+i=j+(i+1)by omega]
def gm (st:St) (m k:Nat):List AV:=evL st (sK m k)
def lU (st:St) (m k:Nat) (h0 h':HP):St:=gb st h0 ((gm st m k).map .c) h' (gm st m k)
def yg (P:Program) (rs:List RVar) (m k g:Nat) (R:HP→AV→List AV→Prop):Exit→St→Prop
 | .normal,st | .ret,st=>∃r,resOf st rs=some r∧R st.h r (argsAgain st 0 m)
 | .panic ch,st=>∃V h0 h',ch=cL V∧rk P g h0 (gm st m k) V h'∧iJ h' h'=true∧(∀i W,hget h0 i=some W→hget st.h i=some W) ∧
     ∃r,resOf (lU st m k h0 h') rs=some r∧R (lU st m k h0 h').h r (argsAgain (lU st m k h0 h') 0 m)
 | _,_=>False
def seqA:List AC→AC→AC
 | [],y=>y
 | x::xs,y=>.seq x (seqA xs y)
def qq (P:Program) (E:Env):List AC→(Exit→St→Prop)→St→Prop
 | [],Q,st=>Q .normal st
 | x::xs,Q,st=>b7 P E x st (jv (qq P E xs Q) Q)
def r7 (P:Program) (N B:Nat) (rs:List RVar) (m g d:Nat) (caps:List AE) (c1:AC) (R:HP→AV→List AV→Prop):Exit→St→Prop
 | .normal,st=>∀E':Env,E'.N=N→E'.B=B→E'.rd=none→b7 P E' c1 ⟨numbered (2000000+m) (evL st caps)++(d,.undef)::st.s,st.h⟩ (yg P rs m caps.length g R)
 | .ret,st=>∃r,resOf st rs=some r∧R st.h r (argsAgain st 0 m)
 | _,_=>False
theorem awn {o:Oper} {f:Nat} {cap:Array Operand} (ho:o.op=.makeFunc (.func f) #[] cap) (a:Act) (P:Program) (w:World):(execOp a.eval o).run P w=.ok (.value (.func (.func f) #[] (cap.map a.eval))) w:=by
 simp[execOp,ho,Instr.makeFunc]
theorem aym {P:Program} {f g d:Nat} {fn:Func} {body:Code} {h:HP} {args:List AV} {Post:HP→AV→List AV→Prop} {pre:List AC} {c1:AC} {caps:List AE} (hf:P.funcs[f]?=some fn) (hb:fn.body=some body) {B:Nat}
    (hc:trCode P fn.ntmps B body=seqA pre (.seq (.fK g (.c (.ak [.int .i64 (d:Int)])::caps)) c1)) (hN:fn.ntmps≤1000000) (ha:args.length≤fn.ntmps) (hd:d<fn.ntmps) (hI:oh P g caps.length)
    (hp:∀E:Env,E.N=fn.ntmps→E.B=B→E.rd=none→qq P E pre (r7 P fn.ntmps B (fn.results.toList.map (trRes P)) args.length g d caps c1 Post) ⟨hZ args,h⟩):Spec P f h args Post:=by
 intro X0 ρ w vs hh hA hX hvs hrv
 let gv0:Nat→Value:=fun k=>vs.getD (k-2000000) undef
 let E0:Env:=⟨w,bQ ρ h,X0,fn.ntmps,B,gv0,none,w.heap.size,Nat.le_refl _,[]⟩
 let RR:Ending→World→Prop:=fun e w'=>∃v h' r ρ' as,e=.returned v∧Post h' r as∧eD X0 ρ' h' w'∧RV (XX X0 ρ' h') w' ρ' v r ∧
     as.length=args.length∧(∀(j:Nat) v x,vs[j]?=some v→as[j]?=some x→RV (XX X0 ρ' h') w' ρ' v x) ∧
     w'.os=w.os∧w'.tape=w.tape∧w'.output=w.output∧w.heap.size≤w'.heap.size∧(∀b,b<w.heap.size→¬bQ ρ h b→w'.heap[b]?=w.heap[b]?) ∧
     (∀b,bQ ρ' h' b→w.heap.size≤b∨bQ ρ h b)
 -- what is reached at the end,the bD of the arguments as they came in
 have fin0:∀(E:Env) (ρ':Loc) (st'':St) (a':Act) (w'':World),E.w0=w→E.F=bQ ρ h→E.X0=X0→E.N=fn.ntmps→(∀j,j<args.length→E.gv (2000000+j)=gv0 (2000000+j))→au E ρ' st'' a' w'' →
     (∃r,resOf st'' (fn.results.toList.map (trRes P))=some r∧Post st''.h r (argsAgain st'' 0 args.length))→∃v,(results fn a'.tmps).run P w''=.ok v w''∧RR (.returned v) w'':=by
  rintro E ρ' st'' a' w'' e1 e2 e3 e4 e5 g ⟨r,hr,hP⟩
  obtain⟨v,q1,q2⟩:=ue (P:=P) g hr
  have gx:=g.heap
  rw[e3]at gx q2
  refine⟨v,q1,v,st''.h,r,ρ',_,rfl,hP,gx,q2,mT _ _ _,fun j v x g1 g2=>?_,by rw[g.aL.os,e1],by rw[g.aL.tape,e1],by rw[g.aL.output,e1],by have:=g.aL.size;rwa[e1]at this,fun b hb hF=>by
   have:=g.aL.block b (by rw[e1];exact hb) (by rw[e2];exact hF)
   rwa[e1]at this,fun b ⟨id,W,L,h1,h2,h3⟩=>by have:=g.base id W L b h1 h2 h3;rwa[e1,e2]at this⟩
  have hjl:j<args.length:=by
   have:=(List.getElem?_eq_some_iff.1 g2).1
   rwa[mT]at this
  have:=oA st'' _ _ j x g2
  rw[Nat.zero_add]at this
  cases hs:sget st''.s (2000000+j)with
  | none=>rw[hs]at this;subst this;exact .undef _ _
  | some av=>
   rw[hs]at this
   obtain rfl:x=av:=this
   have hr2:=(g.bD _ _ hs).2
   unfold bN at hr2
   rw[if_neg (by rw[e4];omega),e5 j hjl,e3]at hr2
   simp only[gv0,Nat.add_sub_cancel_left,Array.getD_eq_getD_getElem?,g1]at hr2
   exact hr2
 have key:∀(pre:List AC) (body:Code) (st1:St) (ρ1:Loc) (a1:Act) (w1:World),trCode P fn.ntmps B body=seqA pre (.seq (.fK g (.c (.ak [.int .i64 (d:Int)])::caps)) c1)→au E0 ρ1 st1 a1 w1 →
     qq P E0 pre (r7 P fn.ntmps B (fn.results.toList.map (trRes P)) args.length g d caps c1 Post) st1→body.wpIn Fence.wide 0 P (bodyPostM Fence.wide 0 P fn RR) a1 w1:=by
  intro pre
  induction pre with
  | cons x xs ih=>
   intro body st1 ρ1 a1 w1 hc g1 hp
   obtain⟨b0,b',rfl,h0,hb'⟩:=Du hc
   refine wpIn_seq (wpIn_mono (hp 0 b0 h0 a1 w1 ⟨ρ1,g1⟩) ?_)
   rintro e a' w' ⟨st',⟨ρ',g'⟩,q⟩
   cases e with
   | normal=>exact ih b' st' ρ' a' w' hb' g' q
   | ret=>
    show LeavesInM Fence.wide 0 P fn a'.tmps _ a'.defers .returning w'
    obtain⟨⟨Ds,hDs⟩,_⟩:=g'.defers
    rw[hDs]
    refine kg (E:=E0) (ρ:=ρ') (st:=st') (a:=a') (by simp) (fun w' gg=>?_) rfl rfl Ds w' (by rw[←hDs];exact g')
    obtain⟨v,q1,q2⟩:=fin0 E0 ρ' st' _ w' rfl rfl rfl rfl (fun _ _=>rfl) gg q
    exact⟨v,q1,q2⟩
   | exit id=>exact q.elim
   | goto l=>exact q.elim
   | panic ch=>exact q.elim
   | outgrown=>exact q.elim
  | nil=>
   intro body st1 ρ1 a1 w1 hc g1 hp
   obtain⟨bd,b1,rfl,hbd,h1⟩:=Du hc
   obtain⟨id,ops,draw,o1,o2,cap,cl,rfl,hops,ho1,hg1,hd1,ho2,hg2,hd2,hcl,hca,hcal,hcaps,hdraw⟩:=azg hbd
   have hoa:ops=#[o1,o2]:=by
    apply Array.toList_inj.1
    simpa using hops
   let us:Array Value:=cap.map a1.eval
   have husz:us.size=caps.length:=by rw[hcaps];simp[us]
   let dd:Deferred:={target:=.fn (.func g) us,args:=#[]}
   let a2:Act:=a1.put (some d) (.func (.func g) #[] us)
   let a3:Act:={a2 with defers:=dd::a2.defers}
   have hev2:a2.eval (.tmp d)=.func (.func g) #[] us:=by
    show(a1.put (some d) (.func (.func g) #[] us)).tmps.getD d undef=_
    rw[yb a1 d d _ (by rw[g1.size];exact hd),if_pos rfl]
   -- the region of two operations
   have region:∀(Q:Exit→Act→World→Prop),(∀w2,ba w1 w2→Q .normal a3 w2)→(Code.region id ops draw).wpIn Fence.wide 0 P Q a1 w1:=by
    intro Q hQ
    have r1:∀w2,(execOp a1.eval o1).run P w2=.ok (.value (.func (.func g) #[] us)) w2:=fun w2=>awn ho1 a1 P w2
    have r2:∀w2,(execOp a2.eval o2).run P w2=.ok (.defer dd) w2:=by
     intro w2
     unfold execOp
     simp[ho2,resolve,hcl,hev2,Deferred.ofValue,hca,dd]
    have s1:∀w2 (next:Act→World→Prop),next a2 w2→o1.wpIn Fence.wide 0 P a1 w2 next Q:=by
     intro w2 next hn
     refine⟨fun _ _=>trivial,?_⟩
     rw[show Fence.wide.round=none from rfl,Oper.semAt_none,r1]
     show next (a1.put o1.dst _) w2
     rw[hd1];exact hn
    have s2:∀w2 (next:Act→World→Prop),next a3 w2→o2.wpIn Fence.wide 0 P a2 w2 next Q:=by
     intro w2 next hn
     refine⟨fun _ _=>trivial,?_⟩
     rw[show Fence.wide.round=none from rfl,Oper.semAt_none,r2]
     show next (({a2 with defers:=dd::a2.defers}:Act).put o2.dst undef) w2
     rw[hd2];exact hn
    have hw:∀(o:Oper) (l:Nat→Option Bool),o.guard=none→Region.wanted o l=true:=by
     intro o l h
     simp[Region.wanted,h]
    cases draw with
    | false=>
     refine wpIn_region_list ?_
     rw[hops]
     exact wpListIn_plain hg1 (fun next hnext=>s1 _ _ (hnext _ _ (wpListIn_plain hg2 (fun next hnext=>s2 _ _ (hnext _ _ (hQ w1 (ba.refl w1)))))))
    | true=>
     obtain⟨hm,e0,e1,e2⟩:=hdraw rfl
     subst hoa
     refine wpIn_region_any hm ?_
     have hs:ba w1 {w1 with drawn:=w1.drawn+1}:=ba.drew w1
     refine⟨fun e=>?_,fun i hi=>?_⟩
     ·have:Region.ready .any #[o1,o2] #[false,false]=[]:=e
      rw[e0]at this;cases this
     ·have hi':i∈Region.ready .any #[o1,o2] #[false,false]:=hi
      rw[e0,List.mem_singleton]at hi'
      subst hi'
      unfold wpOpIn
      simp only[List.getElem?_toArray,List.getElem?_cons_zero,hw o1 _ hg1,if_true]
      refine s1 _ _ ?_
      refine⟨fun e=>?_,fun i hi=>?_⟩
      ·have:Region.ready .any #[o1,o2] #[true,false]=[]:=e
       rw[e1]at this;cases this
      ·have hi':i∈Region.ready .any #[o1,o2] #[true,false]:=hi
       rw[e1,List.mem_singleton]at hi'
       subst hi'
       unfold wpOpIn
       simp only[List.getElem?_toArray,List.getElem?_cons_succ,List.getElem?_cons_zero,hw o2 _ hg2,if_true]
       refine s2 _ _ ?_
       exact⟨e2,hQ _ hs⟩
   refine wpIn_seq (region _ (fun w2 hs2=>?_))
   show b1.wpIn Fence.wide 0 P (bodyPostM Fence.wide 0 P fn RR) a3 w2
   let m:=args.length
   let E1:Env:=⟨w,bQ ρ h,X0,fn.ntmps,B,fun j=>if 2000000+m≤j∧j<2000000+m+caps.length then us.getD (j-(2000000+m)) undef else gv0 j,none,w.heap.size,Nat.le_refl _,dd::a1.defers⟩
   obtain⟨⟨Ds0,hDs0⟩,hnd0,hmk0⟩:=(g1.same hs2).defers
   have hDs0:a1.defers=Ds0.map k9:=by rw[hDs0];simp[E0]
   have gput:=(g1.same hs2).put d hd (v:=.func (.func g) #[] us) (av:=.undef) (.undef _ _)
   have hcv:∀(j:Nat) x,(evL st1 caps)[j]?=some x→∃v,us[j]?=some v∧RV (XX E0.X0 ρ1 st1.h) w2 ρ1 v x:=by
    intro j x hj
    rw[jf,hcaps,List.map_map,List.getElem?_map,Array.getElem?_toList]at hj
    obtain⟨y,e1,rfl⟩:=Option.map_eq_some_iff.1 hj
    exact⟨a1.eval y,by simp[us,e1],cz (g1.same hs2) y⟩
   have g2:au E1 ρ1 ⟨numbered (2000000+m) (evL st1 caps)++(d,.undef)::st1.s,st1.h⟩ a3 w2:=by
    refine⟨⟨⟨[],rfl⟩,hnd0,hmk0⟩,gput.size,fun k av hk=>?_,(g1.same hs2).heap,g1.base,⟨(g1.same hs2).aL.os,(g1.same hs2).aL.tape,(g1.same hs2).aL.output,(g1.same hs2).aL.size,(g1.same hs2).aL.block,g1.aL.dI⟩,(g1.same hs2).x0⟩
    simp only[lx]at hk
    cases hz:sget (numbered (2000000+m) (evL st1 caps)) k with
    | some av1=>
     rw[hz]at hk
     obtain rfl:av1=av:=Option.some.inj hk
     obtain⟨e1,e2⟩:=jr _ _ _ _ hz
     obtain⟨v,e3,e4⟩:=hcv _ _ e2
     refine⟨.inr (by omega),?_⟩
     have:bN E1 a3 k=v:=by
      unfold bN
      rw[if_neg (by simp only[E1];omega)]
      have e5:k-(2000000+m)<us.size:=(Array.getElem?_eq_some_iff.1 e3).1
      simp only[E1,if_pos (show 2000000+m≤k∧k<2000000+m+caps.length by omega),Array.getD_eq_getD_getElem?,e3];rfl
     rw[this];exact e4
    | none=>
     rw[hz,Option.none_or]at hk
     obtain⟨r1,r2⟩:=gput.bD k av hk
     refine⟨r1,?_⟩
     have hkm:¬(2000000+m≤k∧k<2000000+m+caps.length):=by
      intro hk2
      have hl:k-(2000000+m)<(evL st1 caps).length:=by rw[jf];simp;omega
      have:=nP (evL st1 caps) (2000000+m) (k-(2000000+m)) _ (List.getElem?_eq_getElem hl)
      rw[show 2000000+m+(k-(2000000+m))=k by omega,hz]at this
      cases this
     have:bN E1 a3 k=bN E0 (a1.put (some d) (.func (.func g) #[] us)) k:=by
      unfold bN
      simp only[E1,E0,if_neg hkm];rfl
     rw[this]
     exact r2
   refine wpIn_mono (hp E1 rfl rfl rfl 0 b1 h1 _ w2 ⟨ρ1,g2⟩) ?_
   rintro e a' w' ⟨st',⟨ρ',g0⟩,q⟩
   obtain⟨⟨Ds,hDs⟩,_⟩:=g0.defers
   have fin:∀(ρ'':Loc) (st'':St) (w'':World),au E1 ρ'' st'' {a' with defers:=dd::a1.defers} w''→(∃r,resOf st'' (fn.results.toList.map (trRes P))=some r∧Post st''.h r (argsAgain st'' 0 args.length)) →
       LeavesInM Fence.wide 0 P fn a'.tmps RR a1.defers .returning w'':=by
    intro ρ'' st'' w'' gg hP
    have gg':au {E1 with df:=[]} ρ'' st'' {a' with defers:=Ds0.map k9++[]} w'':=by
     refine gg.df rfl rfl rfl rfl rfl ⟨⟨Ds0,rfl⟩,?_⟩
     have:=gg.defers.2
     rw[List.append_nil,←hDs0]
     exact this
    have:=kg (P:=P) (fn:=fn) (E:={E1 with df:=[]}) (ρ:=ρ'') (st:=st'') (a:=a') (u:=.returning) (rest:=[]) (R:=RR) (by simp) (fun w' g=>?_) rfl rfl Ds0 w'' gg'
    ·rw[List.append_nil,←hDs0]at this
     exact this
    ·obtain⟨v,q1,q2⟩:=fin0 _ ρ'' st'' _ w' rfl rfl rfl rfl (fun j hj=>by
      show(if _ then _ else _)=_
      rw[if_neg (by omega)]) g hP
     exact⟨v,q1,q2⟩
   have hinv:∀w,(invoke (.fn (.func g) us) #[]).run P w=.ok (.enter g us) w:=by
    intro w
    unfold callable at hcal
    split at hcal
    ·rename_i fn h2
     simp only[Bool.and_eq_true,bne_iff_ne]at hcal
     have h5:¬fn.name = "runtime.NumGoroutine" := by simpa using hcal.2
     have h6:¬fn.body=none:=by intro e;rw[e]at hcal;cases hcal.1
     simp[invoke,callFunc,h2,h5,h6]
    ·cases hcal
   have ret:(∃r,resOf st' (fn.results.toList.map (trRes P))=some r∧Post st'.h r (argsAgain st' 0 args.length))→LeavesInM Fence.wide 0 P fn a'.tmps RR a'.defers .returning w':=by
    intro hq
    rw[hDs]
    refine kg (E:=E1) (ρ:=ρ') (st:=st') (a:=a') (by simp) (fun w' gg=>?_) rfl rfl Ds w' (by rw[←hDs];exact g0)
    refine⟨by simp,.inr ⟨fun hh=>(by cases hh),.func g,us,g,_,rfl,hinv w',fun _ _=>trivial,(hI us w' husz).mono ?_⟩⟩
    rintro e u' w2 ⟨⟨v,rfl⟩,rfl,rfl⟩
    exact fin ρ' st' _ gg hq
   cases e with
   | normal=>exact ret q
   | ret=>exact ret q
   | exit id=>exact q.elim
   | goto l=>exact q.elim
   | outgrown=>exact q.elim
   | panic ch=>
    obtain⟨V,h0,h',rfl,hS,hin,hsub,hP⟩:=q
    show LeavesInM Fence.wide 0 P fn a'.tmps _ a'.defers (.panicking (cL V)) w'
    rw[hDs]
    refine kg (E:=E1) (ρ:=ρ') (st:=st') (a:=a') (by simp) (fun w' gg=>?_) rfl rfl Ds w' (by rw[←hDs];exact g0)
    have hgl:(gm st' m caps.length).length=caps.length:=by simp[gm,jf,sK,yf]
    have hrv2:∀(j:Nat) v x,us[j]?=some v→(gm st' m caps.length)[j]?=some x→RV (XX X0 ρ' st'.h) w' ρ' v x:=by
     intro j v x e1 e2
     have hj:j<caps.length:=by have:=(List.getElem?_eq_some_iff.1 e2).1;omega
     simp only[gm,jf,sK,List.getElem?_map,ye _ _ _ hj,Option.map_some,Option.some.injEq]at e2
     subst e2
     show RV _ _ _ _ ((sget st'.s (2000000+m+j)).getD .undef)
     cases hs:sget st'.s (2000000+m+j)with
     | none=>exact .undef _ _
     | some av=>
      have hr2:=(gg.bD _ _ hs).2
      unfold bN at hr2
      rw[if_neg (by simp only[E1];omega)]at hr2
      simp only[E1,if_pos (show 2000000+m≤2000000+m+j∧2000000+m+j<2000000+m+caps.length by omega),show 2000000+m+j-(2000000+m)=j by omega,Array.getD_eq_getD_getElem?,e1]at hr2
      exact hr2
    have hx1:=nD (E:=E1) (ρ:=ρ') hsub
    refine⟨by simp,.inr ⟨fun hh=>(by cases hh),.func g,us,g,_,rfl,hinv w',fun _ _=>trivial,
     (hS (jM E1 ρ' st' h0) ρ' w' us (uX gg hsub) (gg.dI.mono fun b ⟨id,W,L,g1,g2,g3⟩=>⟨id,W,L,hsub _ _ g1,g2,g3⟩) (fun b hb=>rq gg b (hx1 b (.inl hb))) (by rw[hgl,husz])
      (fun j v x e1 e2=>(hrv2 j v x e1 e2).mono (fun _ _ _=>rfl) (fun b _ hb hx=>hb (hx1 b hx)) _ (fun _ _ h=>h))).mono ?_⟩⟩
    rintro e u' w3 ⟨⟨v,rfl⟩,rfl,ρ3,hH,has,q1,q2,q3,q4,q5,q6⟩
    obtain⟨ρ4,g4,_⟩:=uW (ρ':=ρ3) (h':=h') (v:=undef) (r:=.undef) (args:=(gm st' m caps.length).map .c) (as:=gm st' m caps.length) gg (by simp[hgl,husz]) (fun j v x e1 e2=>by
        rw[List.getElem?_map]at e2
        obtain⟨y,e3,rfl⟩:=Option.map_eq_some_iff.1 e2
        exact⟨hrv2 j v y e1 e3,fun k hk=>by cases hk⟩) hsub hin rfl hH (.undef _ _) (by simp) has q1 q2 q3 q4 q5 q6
    exact fin ρ4 _ _ g4 hP
 exact(callsIn_wide (n:=0)).1 (callsIn_of_wp_marks hf hb trivial (key pre body _ ρ _ w hc (uG hN ha hh hA hX hvs hrv [] rfl) (hp E0 rfl rfl rfl)))
def seqK:List AK→AK→AK
 | [],y=>y
 | x::xs,y=>.seq x (seqK xs y)
theorem CX (B:Nat) (y:AK):∀xs,(seqK xs y).erase B=seqA (xs.map (AK.erase B)) (y.erase B)
 | []=>rfl
 | x::xs=>by simp only[seqK,AK.erase,List.map_cons,seqA,CX B y xs]
def lI (P:Program) (E:Env):List AK→KQ→St→Prop
 | [],Q,st=>Q.ap .normal st
 | x::xs,Q,st=>vcW P E x ⟨jv (fun st=>lI P E xs Q st) Q.ap⟩ st
def KQ.sq (P:Program) (E:Env) (xs:List AK) (Q:KQ):KQ:=⟨jv (fun st=>lI P E xs Q st) Q.ap⟩
theorem AZ {P:Program} {E:Env} (hN:E.N≤1000000):∀(xs:List AK) {Q:KQ} {st:St},lI P E xs Q st→qq P E (xs.map (AK.erase E.B)) Q.ap st
 | [],Q,st,h=>h
 | x::xs,Q,st,h=>b7.mono (fR hN x h) (Dn (fun st' h'=>AZ hN xs h') (fun _ _ h=>h))
def KQ.gC (P:Program) (rs:List RVar) (m k g:Nat) (R:HP→AV→List AV→Prop):KQ:=⟨yg P rs m k g R⟩
def KQ.dC (P:Program) (N B:Nat) (rs:List RVar) (m g d:Nat) (caps:List AE) (y:AK) (R:HP→AV→List AV→Prop):KQ:=⟨r7 P N B rs m g d caps (y.erase B) R⟩
section
variable {P:Program} {E:Env} {st:St} {Q:KQ} {rs:List RVar} {m k g d N B:Nat} {caps:List AE} {y:AK} {R:HP→AV→List AV→Prop}
theorem aAd:lI P E [] Q st=Q.ap .normal st:=(rfl)
theorem aAc {x:AK} {xs:List AK}:lI P E (x::xs) Q st=vcW P E x (KQ.sq P E xs Q) st:=(rfl)
theorem Zy {xs:List AK}:(KQ.sq P E xs Q).ap .normal st=lI P E xs Q st:=(rfl)
theorem Zz {xs:List AK}:(KQ.sq P E xs Q).ap .ret st=Q.ap .ret st:=(rfl)
theorem ZA {xs:List AK} {i:Nat}:(KQ.sq P E xs Q).ap (.exit i) st=Q.ap (.exit i) st:=(rfl)
theorem Y3:(KQ.gC P rs m k g R).ap .ret st=(KQ.post rs m R).ap .ret st:=(rfl)
theorem Y2:(KQ.gC P rs m k g R).ap .normal st=(KQ.post rs m R).ap .ret st:=(rfl)
theorem Y1:(KQ.dC P N B rs m g d caps y R).ap .ret st=(KQ.post rs m R).ap .ret st:=(rfl)
theorem Ou {V:Value} (h0 h':HP) {as:List AV} (has:gm st m k=as) (hS:rk P g h0 as V h') (hin:iJ h' h'=true) (hsub:dZ st.h h0) (h:(KQ.post rs m R).ap .ret (lU st m k h0 h')):(KQ.gC P rs m k g R).ap (.panic (cL V)) st:=
 ⟨V,h0,h',rfl,has▸hS,hin,fun i W hi=>iL hsub i W hi,h⟩
theorem JT (h:∀E':Env,E'.N≤1000000→vcW P E' y (KQ.gC P rs m caps.length g R) ⟨numbered (2000000+m) (evL st caps)++(d,.undef)::st.s,st.h⟩) (hN:N≤1000000):(KQ.dC P N B rs m g d caps y R).ap .normal st:=
 fun E' e1 e2 _=>by
  have hN':E'.N≤1000000:=by omega
  rw[←e2]
  exact fR hN' y (h E' hN')
theorem OE:gm st m k=evL st (ghL (2000000+m) k):=(rfl)
theorem EM {h0 h':HP}:lU st m k h0 h'=gb st h0 ((gm st m k).map .c) h' (gm st m k):=(rfl)
end
theorem OD:(∀j,ghL j 0=[])∧(∀j k,ghL j (k+1)=.t j::ghL (j+1) k):=⟨fun _=>rfl,fun _ _=>rfl⟩
attribute [go_sem] aAd aAc Zy Zz ZA Y3 Y2 Y1 OE EM OD
def u7 (P:Program) (pre:List AK) (y:AK) (g d:Nat) (caps:List AE) (B p:Nat) (rs:List RVar) (s:List (Nat×AV)) (h:HP) (Post:HP→AV→List AV→Prop):Prop:=
 ∀(E:Env) (R:HP→AV→List AV→Prop) (N:Nat),E.N≤1000000→N≤1000000→dx Post R→lI P E pre (KQ.dC P N B rs p g d caps y R) ⟨s,h⟩
theorem ayi {P:Program} {f B p q g d:Nat} {x0:AK} {pre:List AK} {y:AK} {caps:List AE} {rs:List RVar} {h:HP} {args:List AV} {Post:HP→AV→List AV→Prop}
    (hf:aA P f B q (seqK (x0::pre) (.seq (.fK g (.c (.ak [.int .i64 (d:Int)])::caps)) y)) rs) (hl:args.length=p) (hq:p≤q) (hd:d<q) (hI:oh P g caps.length) (s:List (Nat×AV)) (hs:eM (hZ args) s)
    (hp:u7 P (x0::pre) y g d caps B p rs s h Post):Spec P f h args Post:=by
 obtain⟨fn,body,h1,h2,h3,h4,h5,h6⟩:=hf.out
 rw[CX]at h3
 refine C6 (aym (pre:=(x0::pre).map (AK.erase B)) h1 h2 h3 h5 (by omega) (by omega) hI (fun E hE hB hrd=>?_))
 have hN:E.N≤1000000:=by rw[hE];exact h5
 have this:=AZ hN (x0::pre) (hp E _ fn.ntmps hN h5 sn)
 rw[hB]at this
 rw[h4,hl]
 exact oC s hs this
open Go Go.Sem
def xF (J:Nat→Act→World→Prop) (Q:Exit→Act→World→Prop):Exit→Act→World→Prop
 | .goto l,a,w=>J l a w
 | e,a,w=>Q e a w
theorem aBg {F:Fence} {n:Nat} {P:Program} {a:Act} {w:World} {Q:Exit→Act→World→Prop} {c:Code} (J:Nat→Nat→Act→World→Prop)
    (first:c.wpIn F n P (xF (fun l a w=>∃m,J m l a w) Q) a w)
    (pass:∀m l a w,J m l a w→∃rest,findLabel c l=some rest∧rest.wpIn F n P (xF (fun l a w=>∃m',m'<m∧J m' l a w) Q) a w):(Code.scope c).wpIn F n P Q a w:=by
 intro b k cs hro hb hr
 have h0:(lone (b.atR a (.code (.scope c)::k)) cs w).fenced P F:=fenced_calm hb hr rfl
 have fin:∀{m:Machine} (e:Exit) (a₁:Act) (w₁:World),Q e a₁ w₁→(∀l',e≠.goto l')→ArrivesIn (Machine.fenced P F) P m b (.inScope c::k) cs e a₁ w₁ →
     ∃e a' w',Q e a' w'∧ArrivesIn (Machine.fenced P F) P m b k cs e a' w':=by
  intro m e a₁ w₁ hq' hne harr
  cases e with
  | normal=>exact⟨.normal,a₁,w₁,hq',StepsIn.trans harr (.one (fenced_calm hb hr rfl) ayI)⟩
  | exit id=>
   have hx:exitTo id (.inScope c::k)=exitTo id k:=by simp[exitTo]
   exact⟨.exit id,a₁,w₁,hq',fun k' hk=>harr.1 k' (by rw[hx];exact hk),fun h1 h2=>harr.2 h1 (by rw[hx];exact h2)⟩
  | goto l'=>exact absurd rfl (hne l')
  | ret=>exact⟨_,a₁,w₁,hq',harr⟩
  | panic ch=>exact⟨_,a₁,w₁,hq',harr⟩
  | outgrown=>exact⟨_,a₁,w₁,hq',harr⟩
 have all:∀m l a w,J m l a w→∃rest,findLabel c l=some rest∧∃e a' w',Q e a' w'∧ArrivesIn (Machine.fenced P F) P (lone (b.atR a (.code rest::.inScope c::k)) cs w) b k cs e a' w':=by
  intro m
  induction m using Nat.strongRecOn with
  | _ m ih=>
   intro l a w hJ
   obtain⟨rest,hf,hw⟩:=pass m l a w hJ
   refine⟨rest,hf,?_⟩
   obtain⟨e,a₁,w₁,hq,harr⟩:=hw b (.inScope c::k) cs hro hb hr
   by_cases hgo:∃l',e=.goto l'
   ·obtain⟨l',rfl⟩:=hgo
    obtain⟨m',hm,hJ'⟩:=hq
    obtain⟨rest',hf',e₂,a₂,w₂,hq₂,harr₂⟩:=ih m' hm l' a₁ w₁ hJ'
    have hg:gotoIn l' (.inScope c::k)=some (.code rest'::.inScope c::k):=by simp[gotoIn,hf']
    exact⟨e₂,a₂,w₂,hq₂,.of_steps (harr.1 _ hg) harr₂⟩
   ·exact fin e a₁ w₁ (by cases e<;>first | exact hq | exact absurd ⟨_,rfl⟩ hgo) (fun l' h=>hgo ⟨l',h⟩) harr
 obtain⟨e,a₁,w₁,hq,harr⟩:=first b (.inScope c::k) cs hro hb hr
 by_cases hgo:∃l',e=.goto l'
 ·obtain⟨l',rfl⟩:=hgo
  obtain⟨m',hJ'⟩:=hq
  obtain⟨rest',hf',e₂,a₂,w₂,hq₂,harr₂⟩:=all m' l' a₁ w₁ hJ'
  have hg:gotoIn l' (.inScope c::k)=some (.code rest'::.inScope c::k):=by simp[gotoIn,hf']
  exact⟨e₂,a₂,w₂,hq₂,.of_steps (.head h0 Da (harr.1 _ hg)) harr₂⟩
 ·obtain⟨e₃,a₃,w₃,hq₃,harr₃⟩:=fin e a₁ w₁ (by cases e<;>first | exact hq | exact absurd ⟨_,rfl⟩ hgo) (fun l' h=>hgo ⟨l',h⟩) harr
  exact⟨e₃,a₃,w₃,hq₃,.of_steps (.one h0 Da) harr₃⟩
def td (J:Nat→St→Prop) (Q:Exit→St→Prop):Exit→St→Prop
 | .goto l,st=>J l st
 | e,st=>Q e st
theorem Gb {P:Program} {E:Env} {st:St} {Q:Exit→St→Prop} {x:AC} (J:Nat→Nat→St→Prop) (first:b7 P E x st (td (fun l st=>∃m,J m l st) Q))
    (pass:∀m l st,J m l st→∃y,findA x l=some y∧b7 P E y st (td (fun l st=>∃m',m'<m∧J m' l st) Q)):b7 P E (.scope x) st Q:=by
 intro n code hc a w hr
 cases code<;>simp only[trCode]at hc<;>first | (cases hc;done) | (exact Bool.noConfusion (show false=true from gI hc)) | (split at hc<;>cases hc;done) | skip
 rename_i c
 injection hc with h1
 subst h1
 refine aBg (fun m l a w=>∃st,Rel E st a w∧J m l st) (wpIn_mono (first n c rfl a w hr) ?_) ?_
 ·rintro e a' w' ⟨st',g1,g2⟩
  cases e with
  | goto l'=>obtain⟨m,h⟩:=g2;exact⟨m,st',g1,h⟩
  | normal=>exact⟨st',g1,g2⟩
  | exit id=>exact⟨st',g1,g2⟩
  | ret=>exact⟨st',g1,g2⟩
  | panic ch=>exact⟨st',g1,g2⟩
  | outgrown=>exact⟨st',g1,g2⟩
 ·rintro m l a w ⟨st',g1,g2⟩
  obtain⟨y,hf,hy⟩:=pass m l st' g2
  rw[sr]at hf
  obtain⟨rest,hfl,rfl⟩:=Option.map_eq_some_iff.1 hf
  refine⟨rest,hfl,wpIn_mono (hy n rest rfl a w g1) ?_⟩
  rintro e a' w' ⟨st',g1,g2⟩
  cases e with
  | goto l'=>obtain⟨m',hm,h⟩:=g2;exact⟨m',hm,st',g1,h⟩
  | normal=>exact⟨st',g1,g2⟩
  | exit id=>exact⟨st',g1,g2⟩
  | ret=>exact⟨st',g1,g2⟩
  | panic ch=>exact⟨st',g1,g2⟩
  | outgrown=>exact⟨st',g1,g2⟩
def KQ.jG (R:Nat→KS) (Q:KQ):KQ:=⟨td (fun l=>(R l).ap) Q.ap⟩
theorem ZB (R:Nat→KS) (Q:KQ) (st:St):(∀l,(KQ.jG R Q).ap (.goto l) st=(R l).ap st)∧(KQ.jG R Q).ap .normal st=Q.ap .normal st∧(∀i,(KQ.jG R Q).ap (.exit i) st=Q.ap (.exit i) st)∧(KQ.jG R Q).ap .ret st=Q.ap .ret st∧(∀ch,(KQ.jG R Q).ap (.panic ch) st=Q.ap (.panic ch) st):=
 ⟨fun _=>rfl,rfl,fun _=>rfl,rfl,fun _=>rfl⟩
theorem aAo {P:Program} {E:Env} {x:AK} {Q:KQ} {st:St} {α:Type} (hN:E.N≤1000000) (f:Nat→α→St) (inv:Nat→α→Prop) (ms:Nat→α→Nat)
    (h1:∀R:Nat→KS,(∀l a st',inv l a→Wk st' (f l a)→(R l).ap st')→vcW P E x (KQ.jG R Q) st)
    (h2:∀l a,inv l a→∃y,findK x l=some y∧∀R:Nat→KS,(∀l' a' st',ms l' a'<ms l a→inv l' a'→Wk st' (f l' a')→(R l').ap st')→vcW P E y (KQ.jG R Q) (f l a)):vcW P E (.scope x) Q st:=by
 show b7 P E (.scope (x.erase E.B)) st Q.ap
 refine Gb (fun m l s=>∃a,inv l a∧ms l a=m∧Wk s (f l a)) (fR hN x (h1 (fun l=>⟨fun s=>∃m a,inv l a∧ms l a=m∧Wk s (f l a)⟩) (fun l a st' g1 g2=>⟨_,a,g1,rfl,g2⟩))) ?_
 rintro m l s ⟨a,g1,rfl,g2⟩
 obtain⟨y,hy,hv⟩:=h2 l a g1
 refine⟨y.erase E.B,by rw[pq,hy];rfl,oD g2 (fR hN y (hv (fun l'=>⟨fun s=>∃m',m'<ms l a∧∃a',inv l' a'∧ms l' a'=m'∧Wk s (f l' a')⟩) (fun l' a' st' k1 k2 k3=>⟨_,k1,a',k2,rfl,k3⟩)))⟩
attribute [go_sem] ZB
end Go.Proofs.YtjoefngnjoofeaaGreatDoor.Eng
