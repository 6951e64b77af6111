/- The proof, part 10 of 34. -/
import Derived.Test.YtlkmppkcbhodaaaGreatDoorLooseWritesG
import Derived.Test.YtlkmppkcbhodaaaGreatDoorLooseWritesH
import Derived.Test.YtlkmppkcbhodaaaGreatDoorLooseWritesI
import Derived.Below
set_option linter.all false
namespace Go.Proofs.YtlkmppkcbhodaaaGreatDoor.Eng
structure KS where
 ap:St→Prop
structure KQ where
 ap:Exit→St→Prop
inductive ROp where
 | v (d:Nat) (o:AO)
 | val (d:Nat) (q:Bool) (id:Nat) (o:AO)
 | eff (d:Nat) (q:Bool) (id:Nat) (o:AO)
 | aM (q:Bool) (id:Nat) (o:AO)
 | ai (d:Option Nat) (q:Bool) (id:Nat) (f:Nat) (args:List AE)
 | dyn (d:Option Nat) (q:Bool) (id:Nat) (x:AE) (args:List AE)
 | af (d:Nat) (j:Nat) (want:Bool) (q:Bool) (id:Nat) (o:AO)
 | gi (d:Nat) (j:Nat) (want:Bool) (q:Bool) (id:Nat) (f:Nat) (args:List AE)
 | oZ (d:Option Nat) (j:Nat) (want:Bool) (q:Bool) (id:Nat) (o:AO)
 | mz (d:Nat) (j:Nat) (want:Bool) (q:Bool) (id:Nat) (x:AE) (args:List AE)
def ROp.er (B:Nat):ROp→bG
 | .v d o=>⟨some d,none,false,B+d,o⟩
 | .val d q id o=>⟨some d,none,q,id,o⟩
 | .eff d q id o=>⟨some d,none,q,id,o⟩
 | .aM q id o=>⟨none,none,q,id,o⟩
 | .ai d q id f args=>⟨d,none,q,id,.call f args⟩
 | .dyn d q id x args=>⟨d,none,q,id,.dyn x args⟩
 | .af d j want q id o=>⟨some d,some (j,want),q,id,o⟩
 | .gi d j want q id f args=>⟨some d,some (j,want),q,id,.call f args⟩
 | .oZ d j want q id o=>⟨d,some (j,want),q,id,o⟩
 | .mz d j want q id x args=>⟨some d,some (j,want),q,id,.dyn x args⟩
def evL (st:St):List AE→List AV
 | []=>[]
 | x::r=>ev st x::evL st r
theorem lp (st:St):∀l,evL st l=l.map (ev st)
 | []=>rfl
 | x::r=>by simp[evL,lp st r]
def aopsW (P:Program):List ROp→St→KS→Prop
 | [],st,K=>K.ap st
 | .v d o::r,st,K=>(avalR true st o).To fun v=>aopsW P r (put st (some d) v) K
 | .val d _ _ o::r,st,K=>(avalR true st o).To fun v=>aopsW P r (put st (some d) v) K
 | .eff d _ id o::r,st,K=>(effR id st o).To fun v st'=>aopsW P r (put st' (some d) v) K
 | .aM _ id o::r,st,K=>(effR id st o).To fun _ st'=>aopsW P r st' K
 | .ai d q _ f args::r,st,K=>eG P q st f args fun v st'=>aopsW P r (put st' d v) K
 | .dyn d q _ x args::r,st,K=>adyn P q st (ev st x) args fun v st'=>aopsW P r (put st' d v) K
 | .af d j want _ _ o::r,st,K=>match grd (sget st.s j) want with
  | some γ=>(γ=false∧aopsW P r (put st (some d) (.gd false .undef)) K)∨(avalR γ st o).To fun v=>aopsW P r (put st (some d) (.gd γ v)) K
  | none=>False
 | .gi d j want q _ f args::r,st,K=>match grd (sget st.s j) want with
  | some γ=>(γ=false∧aopsW P r (put st (some d) (.gd false .undef)) K)∨(γ=true∧eG P q st f args fun v st'=>aopsW P r (put st' (some d) (.gd true v)) K)∨qK P q γ st f args fun v=>aopsW P r (put st (some d) (.gd γ v)) K
  | none=>False
 | .oZ d j want _ id o::r,st,K=>match grd (sget st.s j) want with
  | some γ=>(γ=false∧aopsW P r (put st d (.gd false .undef)) K)∨(γ=true∧(effR id st o).To fun v st'=>aopsW P r (put st' d (.gd true v)) K)
  | none=>False
 | .mz d j want q _ x args::r,st,K=>match grd (sget st.s j) want with
  | some γ=>(γ=false∧aopsW P r (put st (some d) (.gd false .undef)) K)∨(γ=true∧adyn P q st (ev st x) args fun v st'=>aopsW P r (put st' (some d) (.gd true v)) K)
  | none=>False
def mA (P:Program) (g:Option Bool) (d:Option Nat) (id:Nat) (o:AO) (r:List ROp) (st:St) (K:KS):Prop:=
 match g with
 | some γ=>(γ=false∧aopsW P r (put st d (.gd false .undef)) K)∨(γ=true∧(effR id st o).To fun v st'=>aopsW P r (put st' d (.gd true v)) K)
 | none=>False
def geff2 (P:Program) (x:RS) (d:Option Nat) (r:List ROp) (K:KS):Prop:=
 match x with
 | .ok c v st=>c∧aopsW P r (put st d (.gd true v)) K
 | .fail=>False
def valW (P:Program) (x:Res) (d:Nat) (r:List ROp) (st:St) (K:KS):Prop:=
 match x with
 | .ok c v=>c∧aopsW P r ⟨(d,v)::st.s,st.h⟩ K
 | .fail=>False
def ln (P:Program) (x:RS) (d:Nat) (r:List ROp) (K:KS):Prop:=
 match x with
 | .ok c v st=>c∧aopsW P r ⟨(d,v)::st.s,st.h⟩ K
 | .fail=>False
def lk (P:Program) (x:RS) (r:List ROp) (K:KS):Prop:=
 match x with
 | .ok c _ st=>c∧aopsW P r st K
 | .fail=>False
def gu (P:Program) (q:Bool) (st:St) (f:Nat) (args:List AE) (as:List AV) (d:Option Nat) (r:List ROp) (K:KS):Prop:=
 as=args.map (ev st)→eG P q st f args fun v st'=>aopsW P r (put st' d v) K
def o8 (P:Program) (g:Option Bool) (d:Nat) (o:AO) (r:List ROp) (st:St) (K:KS):Prop:=
 match g with
 | some γ=>(γ=false∧aopsW P r (put st (some d) (.gd false .undef)) K)∨(avalR γ st o).To fun v=>aopsW P r (put st (some d) (.gd γ v)) K
 | none=>False
def o7 (P:Program) (γ:Bool) (x:Res) (d:Nat) (r:List ROp) (st:St) (K:KS):Prop:=
 (γ=false∧aopsW P r ⟨(d,.gd false .undef)::st.s,st.h⟩ K)∨match x with
 | .ok c v=>c∧aopsW P r ⟨(d,.gd γ v)::st.s,st.h⟩ K
 | .fail=>False
def ko (P:Program) (γ:Bool) (d:Nat) (o:AO) (r:List ROp) (st:St) (K:KS):Prop:=o7 P γ (avalR γ st o) d r st K
def rR (P:Program) (d:Nat) (o:AO) (r:List ROp) (st:St) (K:KS):Prop:=o7 P false (avalR false st o) d r st K
def oX (P:Program) (q:Bool) (g:Option Bool) (st:St) (f:Nat) (args:List AE) (as:List AV) (d:Nat) (r:List ROp) (K:KS):Prop:=
 as=args.map (ev st)→match g with
 | some γ=>(γ=false∧aopsW P r (put st (some d) (.gd false .undef)) K)∨(γ=true∧eG P q st f args fun v st'=>aopsW P r (put st' (some d) (.gd true v)) K)∨qK P q γ st f args fun v=>aopsW P r (put st (some d) (.gd γ v)) K
 | none=>False
def oY (P:Program) (q:Bool) (g:Option Bool) (st:St) (v:AV) (args:List AE) (as:List AV) (d:Nat) (r:List ROp) (K:KS):Prop:=
 as=args.map (ev st)→match g with
 | some γ=>(γ=false∧aopsW P r (put st (some d) (.gd false .undef)) K)∨(γ=true∧adyn P q st v args fun v st'=>aopsW P r (put st' (some d) (.gd true v)) K)
 | none=>False
def nZ (P:Program) (q:Bool) (st:St) (f:Nat) (args:List AE) (as:List AV) (d:Nat) (r:List ROp) (K:KS):Prop:=
 as=args.map (ev st)→eG P q st f args fun v st'=>aopsW P r (put st' (some d) (.gd true v)) K
section
variable {P:Program} {st:St} {K:KS} {r:List ROp} {q:Bool} {id d j:Nat} {o:AO}
theorem DM:aopsW P [] st K=K.ap st:=(rfl)
theorem DP:aopsW P (.val d q id o::r) st K=valW P (avalR true st o) d r st K:=by
 simp only[aopsW,valW];cases avalR true st o<;>rfl
theorem DN:aopsW P (.v d o::r) st K=valW P (avalR true st o) d r st K:=by
 simp only[aopsW,valW];cases avalR true st o<;>rfl
theorem tF {c:Prop} {v:AV}:valW P (.ok c v) d r st K=(c∧aopsW P r ⟨(d,v)::st.s,st.h⟩ K):=(rfl)
theorem asW:valW P .fail d r st K=False:=(rfl)
theorem DG:aopsW P (.eff d q id o::r) st K=ln P (effR id st o) d r K:=by
 simp only[aopsW,ln];cases effR id st o<;>rfl
theorem rB {c:Prop} {v:AV}:ln P (.ok c v st) d r K=(c∧aopsW P r ⟨(d,v)::st.s,st.h⟩ K):=(rfl)
theorem JT:ln P .fail d r K=False:=(rfl)
theorem DH:aopsW P (.aM q id o::r) st K=lk P (effR id st o) r K:=by
 simp only[aopsW,lk];cases effR id st o<;>rfl
theorem rA {c:Prop} {v:AV}:lk P (.ok c v st) r K=(c∧aopsW P r st K):=(rfl)
theorem JL:lk P .fail r K=False:=(rfl)
theorem um {d:Option Nat} {f:Nat} {args:List AE}:aopsW P (.ai d q id f args::r) st K=gu P q st f args (evL st args) d r K:=by
 simp only[aopsW,gu,lp,forall_const]
def ry (P:Program) (q:Bool) (st:St) (v:AV) (args:List AE) (as:List AV) (d:Option Nat) (r:List ROp) (K:KS):Prop:=
 as=args.map (ev st)→adyn P q st v args fun v st'=>aopsW P r (put st' d v) K
theorem DF {d:Option Nat} {x:AE} {args:List AE}:aopsW P (.dyn d q id x args::r) st K=ry P q st (ev st x) args (evL st args) d r K:=by
 simp only[aopsW,ry,lp,forall_const]
theorem DJ {w:Bool} {x:AE} {args:List AE}:aopsW P (.mz d j w q id x args::r) st K=oY P q (grd (sget st.s j) w) st (ev st x) args (evL st args) d r K:=by
 simp only[aopsW,oY,lp,forall_const]
theorem L9 {f:Nat} {args:List AE} {as:List AV} (hf:callable P f=true) (h:nZ P q st f args as d r K):oY P q (some true) st (.gd true (.lit (.func (.func f) #[] #[]))) args as d r K:=
 fun e=>.inr ⟨rfl,⟨rfl,rfl⟩,hf,h e⟩
theorem L8 {v:AV} {args:List AE} {as:List AV} (h:aopsW P r ⟨(d,.gd false .undef)::st.s,st.h⟩ K):oY P q (some false) st v args as d r K:=fun _=>.inl ⟨rfl,h⟩
theorem rz {d:Option Nat} {f:Nat} {args:List AE} {as:List AV} (hf:callable P f=true) (h:gu P q st f args as d r K):ry P q st (.lit (.func (.func f) #[] #[])) args as d r K:=
 fun e=>⟨⟨rfl,rfl⟩,hf,h e⟩
theorem DL {w:Bool}:aopsW P (.af d j w q id o::r) st K=o8 P (grd (sget st.s j) w) d o r st K:=(rfl)
theorem Mx {γ:Bool}:o8 P (some γ) d o r st K=ko P γ d o r st K:=by
 simp only[o8,ko,o7];cases avalR γ st o<;>rfl
def o6 (P:Program) (γ:Bool) (x:Res) (d:Nat) (r:List ROp) (st:St) (K:KS):Prop:=
 match x with
 | .ok c v=>c∧aopsW P r ⟨(d,.gd γ v)::st.s,st.h⟩ K
 | .fail=>False
theorem Ms {γ:Bool} {c:Prop} {v:AV}:o6 P γ (.ok c v) d r st K=(c∧aopsW P r ⟨(d,.gd γ v)::st.s,st.h⟩ K):=(rfl)
theorem Mt:ko P false d o r st K=rR P d o r st K:=by simp only[ko,rR]
theorem Mu:ko P true d o r st K=o6 P true (avalR true st o) d r st K:=by
 simp[ko,o7,o6]
theorem eY (h:aopsW P r ⟨(d,.gd false .undef)::st.s,st.h⟩ K):rR P d o r st K:=.inl ⟨rfl,h⟩
theorem eX {γ:Bool} (h:o6 P γ (avalR γ st o) d r st K):ko P γ d o r st K:=.inr h
theorem DA {c p:Prop} (h:c):(c∧p)=p:=by simp[h]
theorem Mw:o8 P none d o r st K=False:=(rfl)
theorem DK {w:Bool} {d:Option Nat}:aopsW P (.oZ d j w q id o::r) st K=mA P (grd (sget st.s j) w) d id o r st K:=(rfl)
theorem Me {d:Option Nat}:mA P (some true) d id o r st K=geff2 P (effR id st o) d r K:=by
 simp only[mA,geff2,Bool.true_eq_false,false_and,false_or,true_and];cases effR id st o<;>rfl
theorem Md {d:Option Nat}:mA P (some false) d id o r st K=aopsW P r (put st d (.gd false .undef)) K:=by
 simp[mA]
theorem Mc {d:Option Nat} {c:Prop} {v:AV}:geff2 P (.ok c v st) d r K=(c∧aopsW P r (put st d (.gd true v)) K):=(rfl)
theorem DI {w:Bool} {f:Nat} {args:List AE}:aopsW P (.gi d j w q id f args::r) st K=oX P q (grd (sget st.s j) w) st f args (evL st args) d r K:=by
 simp only[aopsW,oX,lp,forall_const]
end
theorem uk {P:Program} {q:Bool} {st:St} {id:Nat} {o:AO} {K:AV→St→Prop} (h:(avalR true st o).To fun v=>K v st):aop1 P q st id o K:=by
 have h':=ux h
 cases o<;>first | exact h.elim | (simp only[aop1,isEff,Bool.false_eq_true,if_false];exact h')
theorem qO {P:Program} {q:Bool} {st:St} {id:Nat} {o:AO} {K:AV→St→Prop} (h:(effR id st o).To K):aop1 P q st id o K:=by
 have h':=JO h
 cases o<;>first | exact h.elim | (simp only[aop1,isEff,if_true];exact h')
theorem DD {P:Program} {q γ:Bool} {st:St} {o:AO} {K:AV→Prop} (h:(avalR γ st o).To K):aopG P q γ st o K:=by
 have h':=ux h
 cases o<;>first | exact h.elim | exact h'
theorem ue {P:Program} {q:Bool} {st:St} {v:AV} {args:List AE} {K K':AV→St→Prop} (hK:∀v st',K v st'→K' v st') (h:adyn P q st v args K):adyn P q st v args K':=by
 revert h
 unfold adyn
 split
 ·rintro⟨e1,e2,h⟩
  refine⟨e1,e2,fun E ρ a w vs h1 h2 h3=>(h E ρ a w vs h1 h2 h3).mono ?_⟩
  rintro e w' ⟨v,ρ',st',av,g1,g2,g3,g4,g5⟩
  exact⟨v,ρ',st',av,g1,g2,g3,hK _ _ g4,g5⟩
 ·rintro⟨e1,e2,h⟩
  refine⟨e1,e2,fun E ρ a w vs h1 h2 h3=>(h E ρ a w vs h1 h2 h3).mono ?_⟩
  rintro e w' ⟨v,ρ',st',av,g1,g2,g3,g4,g5⟩
  exact⟨v,ρ',st',av,g1,g2,g3,hK _ _ g4,g5⟩
 ·rintro⟨e1,h⟩
  refine⟨e1,fun E ρ a w vs h1 h2 h3=>(h E ρ a w vs h1 h2 h3).mono ?_⟩
  rintro e w' ⟨v,ρ',st',av,g1,g2,g3,g4,g5⟩
  exact⟨v,ρ',st',av,g1,g2,g3,hK _ _ g4,g5⟩
 ·exact fun h=>h
theorem dA {P:Program} {B:Nat} {K:KS} {K':St→Prop} (hK:∀st,K.ap st→K' st):∀(l:List ROp) {st:St},aopsW P l st K→aops P (l.map (ROp.er B)) st K'
 | [],st,h=>hK _ h
 | .v d o::r,st,h=>by
  refine uk ?_
  simp only[aopsW]at h
  revert h
  cases avalR true st o with
  | ok c v=>exact fun h=>⟨h.1,dA hK r h.2⟩
  | fail=>exact fun h=>h
 | .val d q id o::r,st,h=>by
  refine uk ?_
  simp only[aopsW]at h
  revert h
  cases avalR true st o with
  | ok c v=>exact fun h=>⟨h.1,dA hK r h.2⟩
  | fail=>exact fun h=>h
 | .eff d q id o::r,st,h=>by
  refine qO ?_
  simp only[aopsW]at h
  revert h
  cases effR id st o with
  | ok c v st'=>exact fun h=>⟨h.1,dA hK r h.2⟩
  | fail=>exact fun h=>h
 | .aM q id o::r,st,h=>by
  refine qO ?_
  simp only[aopsW]at h
  revert h
  cases effR id st o with
  | ok c v st'=>exact fun h=>⟨h.1,dA hK r h.2⟩
  | fail=>exact fun h=>h
 | .ai d q id f args::r,st,h=>by
  intro E ρ a w vs h1 h2 h3
  refine(h E ρ a w vs h1 h2 h3).mono ?_
  rintro e w' ⟨v,ρ',st',av,g1,g2,g3,g4,g5⟩
  exact⟨v,ρ',st',av,g1,g2,g3,dA hK r g4,g5⟩
 | .dyn d q id x args::r,st,h=>by
  simp only[aopsW]at h
  simp only[List.map_cons,ROp.er,aops,aop1]
  exact ue (fun v st' h=>dA hK r h) h
 | .af d j want q id o::r,st,h=>by
  simp only[aopsW]at h
  simp only[List.map_cons,ROp.er,aops]
  revert h
  cases grd (sget st.s j) want with
  | none=>exact fun h=>h
  | some γ=>
   intro h
   have h:(γ=false∧aopsW P r (put st (some d) (.gd false .undef)) K)∨(avalR γ st o).To fun v=>aopsW P r (put st (some d) (.gd γ v)) K:=h
   refine h.imp (fun x=>⟨x.1,dA hK r x.2⟩) (fun h=>.inr ?_)
   refine DD ?_
   revert h
   cases avalR γ st o with
   | ok c v=>exact fun h=>⟨h.1,dA hK r h.2⟩
   | fail=>exact fun h=>h
 | .gi d j want q id f args::r,st,h=>by
  simp only[aopsW]at h
  simp only[List.map_cons,ROp.er,aops]
  revert h
  cases grd (sget st.s j) want with
  | none=>exact fun h=>h
  | some γ=>
   rintro(x | x | ⟨v,h1,h2⟩)
   ·exact .inl ⟨x.1,dA hK r x.2⟩
   ·refine .inr (.inl ⟨x.1,fun E ρ a w vs h1 h2 h3=>(x.2 E ρ a w vs h1 h2 h3).mono ?_⟩)
    rintro e w' ⟨v,ρ',st',av,g1,g2,g3,g4,g5⟩
    exact⟨v,ρ',st',av,g1,g2,g3,dA hK r g4,g5⟩
   ·exact .inr (.inr ⟨v,h1,dA hK r h2⟩)
 | .oZ d j want q id o::r,st,h=>by
  simp only[aopsW]at h
  simp only[List.map_cons,ROp.er,aops]
  revert h
  cases grd (sget st.s j) want with
  | none=>exact fun h=>h
  | some γ=>
   rintro(x | ⟨x,h⟩)
   ·exact .inl ⟨x.1,dA hK r x.2⟩
   ·refine .inr (.inl ⟨x,qO ?_⟩)
    revert h
    cases effR id st o with
    | ok c v st'=>exact fun h=>⟨h.1,dA hK r h.2⟩
    | fail=>exact fun h=>h
 | .mz d j want q id x args::r,st,h=>by
  simp only[aopsW]at h
  simp only[List.map_cons,ROp.er,aops]
  revert h
  cases grd (sget st.s j) want with
  | none=>exact fun h=>h
  | some γ=>
   rintro(x | ⟨x,h⟩)
   ·exact .inl ⟨x.1,dA hK r x.2⟩
   ·exact .inr (.inl ⟨x,ue (fun v st' h=>dA hK r h) h⟩)
theorem k7 {P:Program} {B:Nat} (l:List ROp) {st:St} {K:KS} (h:aopsW P l st K):aops P (l.map (ROp.er B)) st K.ap:=dA (fun _ h=>h) l h
def trim (s:List (Nat×AV)):List Nat→List (Nat×AV)
 | []=>[]
 | k::r=>match sget s k with
  | some v=>(k,v)::trim s r
  | none=>trim s r
def tC (o:Option AV) (k:Nat) (s:List (Nat×AV)) (r:List Nat):List (Nat×AV):=
 match o with
 | some v=>(k,v)::trim s r
 | none=>trim s r
theorem arZ (s:List (Nat×AV)) (k:Nat) (r:List Nat):trim s (k::r)=tC (sget s k) k s r:=(rfl)
theorem ar0 (s:List (Nat×AV)):trim s []=[]:=(rfl)
theorem arY (v:AV) (k:Nat) (s:List (Nat×AV)) (r:List Nat):tC (some v) k s r=(k,v)::trim s r:=(rfl)
theorem arX (k:Nat) (s:List (Nat×AV)) (r:List Nat):tC none k s r=trim s r:=(rfl)
theorem kN (s:List (Nat×AV)):∀ks,eM s (trim s ks)
 | []=>trivial
 | k::r=>by
  unfold trim
  split
  ·rename_i v hv;exact⟨hv,kN s r⟩
  ·exact kN s r
theorem lS {E:Env} {ρ:Loc} {st:St} {s':List (Nat×AV)} {a:Act} {w:World} (h:aq E ρ st a w) (hs:eM st.s s'):aq E ρ ⟨s',st.h⟩ a w:=
 ⟨h.defers,h.size,fun k av hk=>h.bt k av (sn hs k av hk),h.heap,h.base,h.aC,h.x0⟩
inductive DT where
 | die (o:ROp)
 | step (o:ROp) (t:DT)
 | br (x y:DT)
def DT.er (B:Nat):DT→AT bG
 | .die o=>.cons (o.er B) .nil
 | .step o t=>.cons (o.er B) (t.er B)
 | .br x y=>.br (x.er B) (y.er B)
def oz (o:ROp):Bool:=rp (o.er 0)
theorem vR (o:ROp) (B:Nat):rp (o.er B)=oz o:=by cases o<;>rfl
def DT.ok:DT→Bool
 | .die o=>oz o
 | .step o t=>!oz o&&t.ok
 | .br x y=>x.ok&&y.ok
def dieOpW (P:Program) (o:ROp) (st:St) (Q:KQ):Prop:=
 match o with
 | .ai _ _ _ f args=>qJ P st f args fun V st'=>Q.ap (.panic (dS V)) st'
 | .aM _ _ (.iK x)=>∃t v,ev st x=.lit (.iface t v)∧Q.ap (.panic (dS (.iface t v))) st
 | _=>False
def dtW (P:Program):DT→St→KQ→Prop
 | .die o,st,Q=>dieOpW P o st Q
 | .step o t,st,Q=>aopsW P [o] st ⟨fun st'=>dtW P t st' Q⟩
 | .br x y,st,Q=>dtW P x st Q∧dtW P y st Q
theorem vP {P:Program} {B:Nat} {o:ROp} {st:St} {Q:KQ} (h:dieOpW P o st Q):dieOp P (o.er B) st fun V st'=>Q.ap (.panic (dS V)) st':=by
 unfold dieOpW at h
 split at h
 ·exact h
 ·exact h
 ·exact h.elim
theorem oD {P:Program} {B:Nat} {Q:KQ}:∀(T:DT) {st:St},T.ok=true→dtW P T st Q→dieF P (T.er B) st fun V st'=>Q.ap (.panic (dS V)) st'
 | .die o,st,hok,h=>by
  simp only[DT.er,dieF,vR,show oz o=true from hok,if_true]
  exact vP h
 | .step o t,st,hok,h=>by
  simp only[DT.ok,Bool.and_eq_true,Bool.not_eq_true']at hok
  simp only[DT.er,dieF,vR,hok.1,Bool.false_eq_true,if_false]
  exact dA (K:=⟨fun st'=>dtW P t st' Q⟩) (fun st' h'=>oD t hok.2 h') [o] h
 | .br x y,st,hok,h=>by
  simp only[DT.ok,Bool.and_eq_true]at hok
  exact⟨oD x hok.1 h.1,oD y hok.2 h.2⟩
theorem uo (P:Program) (o:ROp) (r:List ROp) (st:St) (K:KS):aopsW P (o::r) st K=aopsW P [o] st ⟨fun st'=>aopsW P r st' K⟩:=by cases o<;>rfl
theorem vN {P:Program} {B:Nat} {K:KS} {K':St→Prop} {KD:Value→St→Prop} (hK:∀st,K.ap st→K' st):∀(l:List ROp) {st:St},aopsW P l st K→lf P (l.map (ROp.er B)) st K' KD
 | [],st,h=>hK _ h
 | o::r,st,h=>by
  rw[uo]at h
  exact .inr (dA (fun st' h'=>vN hK r h') [o] h)
theorem vX {P:Program} {B:Nat} {Q:KQ} {K:KS} {K':St→Prop} {o:ROp} {post:List ROp} (hK:∀st,K.ap st→K' st):∀(pre:List ROp) {st:St},aopsW P pre st ⟨fun st'=>dieOpW P o st' Q∨aopsW P (o::post) st' K⟩ →
    lf P ((pre++o::post).map (ROp.er B)) st K' fun V st'=>Q.ap (.panic (dS V)) st'
 | [],st,h=>by
  rcases h with h | h
  ·exact .inl (vP h)
  ·exact vN hK (o::post) h
 | p::r,st,h=>by
  rw[uo]at h
  exact .inr (dA (fun st' h'=>vX hK r h') [p] h)
inductive RT where
 | leaf (ops:List ROp)
 | node (p:List ROp) (x y:RT)
def RT.er (B:Nat):RT→AT bG
 | .leaf ops=>AT.pre (ops.map (ROp.er B)) .nil
 | .node p x y=>AT.pre (p.map (ROp.er B)) (.br (x.er B) (y.er B))
def hZ (P:Program):RT→St→KS→Prop
 | .leaf ops,st,K=>aopsW P ops st K
 | .node p x y,st,K=>aopsW P p st ⟨fun st=>hZ P x st K∧hZ P y st K⟩
def KS.two (P:Program) (x y:RT) (K:KS):KS:=⟨fun st=>hZ P x st K∧hZ P y st K⟩
theorem anB {P:Program} {ops:List ROp} {st:St} {K:KS}:hZ P (.leaf ops) st K=aopsW P ops st K:=(rfl)
theorem anC {P:Program} {p:List ROp} {x y:RT} {st:St} {K:KS}:hZ P (.node p x y) st K=aopsW P p st (KS.two P x y K):=(rfl)
theorem XD {P:Program} {x y:RT} {st:St} {K:KS}:(KS.two P x y K).ap st=(hZ P x st K∧hZ P y st K):=(rfl)
theorem th {P:Program} {B:Nat} {K:KS} {K':St→Prop} (hK:∀st,K.ap st→K' st):∀(T:RT) {st:St},hZ P T st K→aopsT P (T.er B) st K'
 | .leaf ops,st,h=>by
  unfold RT.er
  rw[sQ]
  exact dA (B:=B) hK ops h
 | .node p x y,st,h=>by
  unfold RT.er
  rw[sQ]
  exact dA (B:=B) (fun st h=>⟨th hK x h.1,th hK y h.2⟩) p h
inductive AK where
 | skip
 | aa (ops:List ROp) (keep:List Nat)
 | seq (x y:AK)
 | cond (c:AE) (x y:AK)
 | block (id:Nat) (x:AK)
 | loop (x:AK)
 | exit (id:Nat)
 | ret
 | bq (x:AK)
 | scope (x:AK)
 | label (l:Nat)
 | goto (l:Nat)
 | split (ops:List ROp) (d f:Nat) (x:AE) (c:UInt8) (bk p q0:Nat) (body:AK)
 | alt (p x y:List ROp) (keep:List Nat)
 | gb (T:RT) (keep:List Nat)
 | hV (pre:List ROp) (o:ROp) (post:List ROp) (keep:List Nat)
 | iw (p x y:List ROp) (keep:List Nat) (T:DT)
 | iW (f:Nat) (args:List AE)
 | bad
def AK.erase (B:Nat):AK→AC
 | .skip=>.skip
 | .aa ops _=>.aa (ops.map (ROp.er B))
 | .seq x y=>.seq (x.erase B) (y.erase B)
 | .cond c x y=>.cond c (x.erase B) (y.erase B)
 | .block id x=>.block id (x.erase B)
 | .loop x=>.loop (x.erase B)
 | .exit id=>.exit id
 | .ret=>.ret
 | .bq x=>(x.erase B)
 | .scope x=>.scope (x.erase B)
 | .label l=>.label l
 | .goto l=>.goto l
 | .split ops d f x c bk p q0 body=>.seq (.mT (ops.map (ROp.er B)++[⟨some d,none,false,B+d,.call f [x,.c (.str [c])]⟩])) (.block bk (.mW (.t d) [p] (.aa [⟨some q0,none,false,B+q0,.ah (.t p)⟩]) (body.erase B)))
 | .alt p x y _=>.alt (p.map (ROp.er B)) (x.map (ROp.er B)) (y.map (ROp.er B))
 | .gb T _=>.gb (T.er B)
 | .hV pre o post _=>.hV ((pre++o::post).map (ROp.er B))
 | .iw p x y _ T=>.iw (p.map (ROp.er B)) (x.map (ROp.er B)) (y.map (ROp.er B)) (T.er B)
 | .iW f args=>.iW f args
 | .bad=>.bad
def vcW (P:Program) (E:Env):AK→KQ→St→Prop
 | .skip,Q,st=>Q.ap .normal st
 | .aa ops ks,Q,st=>aopsW P ops st ⟨fun st=>Q.ap .normal ⟨trim st.s ks,st.h⟩⟩
 | .seq x y,Q,st=>vcW P E x ⟨jn (fun st=>vcW P E y Q st) Q.ap⟩ st
 | .cond c x y,Q,st=>match ev st c with
  | .bool b=>(b=true→vcW P E x Q st)∧(b=false→vcW P E y Q st)
  | _=>False
 | .block id x,Q,st=>vcW P E x ⟨blockQ id Q.ap⟩ st
 | .loop x,Q,st=>b5 P E (.loop (x.erase E.B)) st Q.ap
 | .exit id,Q,st=>Q.ap (.exit id) st
 | .ret,Q,st=>Q.ap .ret st
 | .bq x,Q,st=>b5 P E (x.erase E.B) st Q.ap
 | .scope x,Q,st=>b5 P E (.scope (x.erase E.B)) st Q.ap
 | .label _,Q,st=>Q.ap .normal st
 | .goto l,Q,st=>Q.ap (.goto l) st
 | .split ops d f x c bk p q0 body,Q,st=>aopsW P ops st ⟨splitK P E d f x c bk p q0 (body.erase E.B) Q.ap⟩
 | .alt p x y ks,Q,st=>aopsW P p st ⟨fun st=>aopsW P x st ⟨fun st=>Q.ap .normal ⟨trim st.s ks,st.h⟩⟩∧aopsW P y st ⟨fun st=>Q.ap .normal ⟨trim st.s ks,st.h⟩⟩⟩
 | .gb T ks,Q,st=>hZ P T st ⟨fun st=>Q.ap .normal ⟨trim st.s ks,st.h⟩⟩
 | .hV pre o post ks,Q,st=>aopsW P pre st ⟨fun st=>dieOpW P o st Q∨aopsW P (o::post) st ⟨fun st=>Q.ap .normal ⟨trim st.s ks,st.h⟩⟩⟩
 | .iw p x y ks T,Q,st=>(aopsW P p st ⟨fun st=>aopsW P x st ⟨fun st=>Q.ap .normal ⟨trim st.s ks,st.h⟩⟩∧aopsW P y st ⟨fun st=>Q.ap .normal ⟨trim st.s ks,st.h⟩⟩⟩)∨(T.ok=true∧dtW P T st Q)
 | .iW _ _,_,_=>False
 | .bad,_,_=>False
def KS.aa (ks:List Nat) (Q:KQ):KS:=⟨fun st=>Q.ap .normal ⟨trim st.s ks,st.h⟩⟩
def KS.alt (P:Program) (x y:List ROp) (ks:List Nat) (Q:KQ):KS:=⟨fun st=>aopsW P x st (KS.aa ks Q)∧aopsW P y st (KS.aa ks Q)⟩
def lh (P:Program) (o:ROp) (post:List ROp) (ks:List Nat) (Q:KQ) (st:St):Prop:=dieOpW P o st Q∨aopsW P (o::post) st (KS.aa ks Q)
def KS.vW (P:Program) (o:ROp) (post:List ROp) (ks:List Nat) (Q:KQ):KS:=⟨lh P o post ks Q⟩
def KS.dt (P:Program) (T:DT) (Q:KQ):KS:=⟨fun st=>dtW P T st Q⟩
def KQ.seq (P:Program) (E:Env) (y:AK) (Q:KQ):KQ:=⟨jn (fun st=>vcW P E y Q st) Q.ap⟩
def KQ.cS (id:Nat) (Q:KQ):KQ:=⟨blockQ id Q.ap⟩
def KQ.eQ (R:KS) (Q:KQ):KQ:=⟨jn R.ap Q.ap⟩
def KS.BH (P:Program) (E:Env) (d f:Nat) (x:AE) (c:UInt8) (bk p q0:Nat) (body:AK) (Q:KQ):KS:=⟨splitK P E d f x c bk p q0 (body.erase E.B) Q.ap⟩
def BI (P:Program) (E:Env) (d f:Nat) (x:AE) (c:UInt8) (bk p q0:Nat) (body:AK) (Q:KQ) (st:St):Prop:=splitK P E d f x c bk p q0 (body.erase E.B) Q.ap st
def KQ.jmp (l:Nat) (R:KS) (Q:KQ):KQ:=⟨jumpQ l R.ap Q.ap⟩
def KQ.pK (Q:KQ):KQ:=⟨aao Q.ap⟩
def findK:AK→Nat→Option AK
 | .seq a b,l=>match findK a l with
  | some r=>some (.seq r b)
  | none=>findK b l
 | .label l',l=>if l'==l then some .skip else none
 | .bq x,l=>findK x l
 | _,_=>none
theorem oI (B:Nat):∀(c:AK) (l:Nat),findA (c.erase B) l=(findK c l).map (AK.erase B)
 | .seq a b,l=>by
  simp only[AK.erase,findA,findK,oI B a l]
  cases findK a l with
  | some r=>rfl
  | none=>exact oI B b l
 | .label l',l=>by
  simp only[AK.erase,findA,findK]
  split<;>rfl
 | .bq x,l=>by simp only[AK.erase,findK,oI B x l]
 | .skip,_ | .aa _ _,_ | .cond _ _ _,_ | .block _ _,_ | .loop _,_ | .exit _,_ | .ret,_ | .scope _,_ | .goto _,_ | .bad,_ | .alt _ _ _ _,_=>rfl
 | .split _ _ _ _ _ _ _ _ _,_=>rfl
 | .hV _ _ _ _,_=>rfl
 | .gb _ _,_=>rfl
 | .iw _ _ _ _ _,_=>rfl
 | .iW _ _,_=>rfl
def kq (P:Program) (E:Env) (b:Bool) (x y:AK) (Q:KQ) (st:St):Prop:=(b=true→vcW P E x Q st)∧(b=false→vcW P E y Q st)
def rf (P:Program) (E:Env) (v:AV) (x y:AK) (Q:KQ) (st:St):Prop:=
 match v with
 | .bool b=>kq P E b x y Q st
 | _=>False
section
variable {P:Program} {E:Env} {st:St} {Q:KQ} {x y:AK} {R:KS}
theorem XB {ks:List Nat}:(KS.aa ks Q).ap st=Q.ap .normal ⟨trim st.s ks,st.h⟩:=(rfl)
theorem Xy {a b:List ROp} {ks:List Nat}:(KS.alt P a b ks Q).ap st=(aopsW P a st (KS.aa ks Q)∧aopsW P b st (KS.aa ks Q)):=(rfl)
theorem Xq:(KQ.seq P E y Q).ap .normal st=vcW P E y Q st:=(rfl)
theorem Xs:(KQ.seq P E y Q).ap .ret st=Q.ap .ret st:=(rfl)
theorem Xt {i:Nat}:(KQ.seq P E y Q).ap (.exit i) st=Q.ap (.exit i) st:=(rfl)
theorem WM {i:Nat}:(KQ.cS i Q).ap .normal st=Q.ap .normal st:=(rfl)
theorem WQ {i:Nat}:(KQ.cS i Q).ap .ret st=Q.ap .ret st:=(rfl)
theorem WS {i j:Nat}:(KQ.cS i Q).ap (.exit j) st=if j=i then Q.ap .normal st else Q.ap (.exit j) st:=(rfl)
theorem Xp {i:Nat}:(KQ.seq P E y Q).ap (.goto i) st=Q.ap (.goto i) st:=(rfl)
theorem WL {i j:Nat}:(KQ.cS i Q).ap (.goto j) st=Q.ap (.goto j) st:=(rfl)
theorem Xk {i:Nat}:(KQ.eQ R Q).ap (.goto i) st=Q.ap (.goto i) st:=(rfl)
theorem W3 {l:Nat}:(KQ.jmp l R Q).ap .normal st=Q.ap .normal st:=(rfl)
theorem W5 {l:Nat}:(KQ.jmp l R Q).ap .ret st=Q.ap .ret st:=(rfl)
theorem W6 {l i:Nat}:(KQ.jmp l R Q).ap (.exit i) st=Q.ap (.exit i) st:=(rfl)
theorem WZ {l:Nat}:(KQ.jmp l R Q).ap (.goto l) st=R.ap st:=by simp[KQ.jmp,jumpQ]
theorem Xr {c:List PanicEntry}:(KQ.seq P E y Q).ap (.panic c) st=Q.ap (.panic c) st:=(rfl)
theorem WN {i:Nat} {c:List PanicEntry}:(KQ.cS i Q).ap (.panic c) st=Q.ap (.panic c) st:=(rfl)
theorem Xm {c:List PanicEntry}:(KQ.eQ R Q).ap (.panic c) st=Q.ap (.panic c) st:=(rfl)
theorem W4 {l:Nat} {c:List PanicEntry}:(KQ.jmp l R Q).ap (.panic c) st=Q.ap (.panic c) st:=(rfl)
theorem W8 {c:List PanicEntry}:(KQ.pK Q).ap (.panic c) st=Q.ap (.panic c) st:=(rfl)
theorem XA {T:DT}:(KS.dt P T Q).ap st=dtW P T st Q:=(rfl)
theorem JB {o:ROp} {T:DT}:dtW P (.step o T) st Q=aopsW P [o] st (KS.dt P T Q):=(rfl)
theorem Jz {T U:DT}:dtW P (.br T U) st Q=(dtW P T st Q∧dtW P U st Q):=(rfl)
def ow (P:Program) (st:St) (f:Nat) (args:List AE) (as:List AV) (Q:KQ):Prop:=as=evL st args→qJ P st f args fun V st'=>Q.ap (.panic (dS V)) st'
def vG (P:Program) (q:Bool) (st:St) (f:Nat) (args:List AE) (as:List AV) (d:Option Nat) (r:List ROp) (K:KS) (Q:KQ):Prop:=ow P st f args as Q∨gu P q st f args as d r K
theorem JA {d:Option Nat} {q:Bool} {id f:Nat} {args:List AE}:dtW P (.die (.ai d q id f args)) st Q=ow P st f args (evL st args) Q:=by
 simp[dtW,dieOpW,ow]
theorem Xz {o:ROp} {post:List ROp} {ks:List Nat}:(KS.vW P o post ks Q).ap st=lh P o post ks Q st:=(rfl)
theorem Jo {d:Option Nat} {q:Bool} {id f:Nat} {args:List AE} {post:List ROp} {ks:List Nat}:lh P (.ai d q id f args) post ks Q st=vG P q st f args (evL st args) d post (KS.aa ks Q) Q:=by
 simp[lh,dieOpW,vG,ow,um]
def pncW (v:AV) (Q:KQ) (st:St):Prop:=
 match v with
 | .lit (.iface t x)=>Q.ap (.panic (dS (.iface t x))) st
 | _=>False
theorem abQ {t:TypeId} {x:Value}:pncW (.lit (.iface t x)) Q st=Q.ap (.panic (dS (.iface t x))) st:=(rfl)
theorem Jp {q:Bool} {id:Nat} {x:AE} {post:List ROp} {ks:List Nat}:lh P (.aM q id (.iK x)) post ks Q st=pncW (ev st x) Q st:=by
 apply propext
 unfold lh dieOpW pncW
 constructor
 ·rintro(⟨t,v,h1,h2⟩ | h)
  ·rw[h1];exact h2
  ·exact h.elim
 ·intro h
  split at h
  ·rename_i t v e
   exact .inl ⟨t,v,e,h⟩
  ·exact h.elim
theorem Dj {h0:HP}:Di st h0=⟨killSI (dL h0) [] st.s,dropH (dL h0) [] st.h⟩:=(rfl)
theorem W7:(KQ.pK Q).ap .normal st=Q.ap .normal st:=(rfl)
theorem W9:(KQ.pK Q).ap .ret st=Q.ap .ret st:=(rfl)
theorem Xa {i:Nat}:(KQ.pK Q).ap (.exit i) st=Q.ap (.exit i) st:=(rfl)
theorem as8 {i:Nat}:vcW P E (.label i) Q st=Q.ap .normal st:=(rfl)
theorem as7 {i:Nat}:vcW P E (.goto i) Q st=Q.ap (.goto i) st:=(rfl)
theorem XC {d f:Nat} {ae:AE} {c:UInt8} {bk p q0:Nat}:(KS.BH P E d f ae c bk p q0 x Q).ap st=BI P E d f ae c bk p q0 x Q st:=(rfl)
theorem Xl:(KQ.eQ R Q).ap .normal st=R.ap st:=(rfl)
theorem Xn:(KQ.eQ R Q).ap .ret st=Q.ap .ret st:=(rfl)
theorem Xo {i:Nat}:(KQ.eQ R Q).ap (.exit i) st=Q.ap (.exit i) st:=(rfl)
theorem ate:vcW P E .skip Q st=Q.ap .normal st:=(rfl)
theorem atb:vcW P E .ret Q st=Q.ap .ret st:=(rfl)
theorem as6 {i:Nat}:vcW P E (.exit i) Q st=Q.ap (.exit i) st:=(rfl)
theorem as9 {ops:List ROp} {ks:List Nat}:vcW P E (.aa ops ks) Q st=aopsW P ops st (KS.aa ks Q):=(rfl)
theorem atd:vcW P E (.seq x y) Q st=vcW P E x (KQ.seq P E y Q) st:=(rfl)
theorem as4 {i:Nat}:vcW P E (.block i x) Q st=vcW P E x (KQ.cS i Q) st:=(rfl)
theorem as5 {c:AE}:vcW P E (.cond c x y) Q st=rf P E (ev st c) x y Q st:=by
 simp only[vcW,rf];cases ev st c<;>rfl
theorem Ib {b:Bool}:rf P E (.bool b) x y Q st=kq P E b x y Q st:=(rfl)
theorem QQ:kq P E true x y Q st=vcW P E x Q st:=by simp[kq]
theorem QP:kq P E false x y Q st=vcW P E y Q st:=by simp[kq]
end
theorem arH {K K':St→Prop} {Q Q':Exit→St→Prop} (hK:∀st,K st→K' st) (hQ:∀e st,Q e st→Q' e st):∀e st,jn K Q e st→jn K' Q' e st:=by
 intro e st h
 cases e<;>first | exact hK st h | exact hQ _ st h
theorem fZ {P:Program} {E:Env} (hN:E.N≤1000000):∀(c:AK) {st:St} {Q:KQ},vcW P E c Q st→b5 P E (c.erase E.B) st Q.ap
 | .skip,st,Q,h=>EC h
 | .aa ops ks,st,Q,h=>by
  have h':=k7 (B:=E.B) ops h
  intro n code hc a w hr
  exact Ax hN hc h' hr (fun st' a' w' h1 ⟨ρ2,h2⟩=>⟨_,⟨ρ2,lS h2 (kN _ ks)⟩,h1⟩)
 | .seq x y,st,Q,h=>EB (b5.mono (fZ hN x h) (arH (fun st' h'=>fZ hN y h') (fun _ _ h=>h)))
 | .cond c x y,st,Q,h=>by
  simp only[vcW]at h
  split at h
  ·rename_i b hb
   exact Eu hb (fun e=>fZ hN x (h.1 e)) (fun e=>fZ hN y (h.2 e))
  ·exact h.elim
 | .block id x,st,Q,h=>Et (fZ hN x h)
 | .loop x,st,Q,h=>h
 | .exit id,st,Q,h=>Ev h
 | .ret,st,Q,h=>Ez h
 | .bq x,st,Q,h=>h
 | .scope x,st,Q,h=>h
 | .label l,st,Q,h=>Ex h
 | .goto l,st,Q,h=>Ew h
 | .split ops d f x c bk p q0 body,st,Q,h=>ED hN (k7 (B:=E.B) ops h)
 | .alt p x y ks,st,Q,h=>by
  intro n code hc a w hr
  refine Dw hN hc (K:=fun st=>Q.ap .normal ⟨trim st.s ks,st.h⟩) ?_ hr (fun st' a' w' h1 ⟨ρ2,h2⟩=>⟨_,⟨ρ2,lS h2 (kN _ ks)⟩,h1⟩)
  exact dA (B:=E.B) (fun st h=>⟨k7 (B:=E.B) x h.1,k7 (B:=E.B) y h.2⟩) p h
 | .gb T ks,st,Q,h=>by
  intro n code hc a w hr
  refine Dv hN hc (K:=fun st=>Q.ap .normal ⟨trim st.s ks,st.h⟩) ?_ hr (fun st' a' w' h1 ⟨ρ2,h2⟩=>⟨_,⟨ρ2,lS h2 (kN _ ks)⟩,h1⟩)
  exact th (B:=E.B) (fun _ h=>h) T h
 | .hV pre o post ks,st,Q,h=>by
  intro n code hc a w hr
  exact ak0 hN hc hr (K:=fun st=>Q.ap .normal ⟨trim st.s ks,st.h⟩) (fun st' a' w' h1 ⟨ρ2,h2⟩=>⟨_,⟨ρ2,lS h2 (kN _ ks)⟩,h1⟩) (fun V st' a' w' h1 h2=>⟨st',h2,h1⟩) (vX (B:=E.B) (fun _ h=>h) pre h)
 | .iw p x y ks T,st,Q,h=>by
  intro n code hc a w hr
  refine Du hN hc hr (K:=fun st=>Q.ap .normal ⟨trim st.s ks,st.h⟩) (KD:=fun V st=>Q.ap (.panic (dS V)) st) (fun st' a' w' h1 ⟨ρ2,h2⟩=>⟨_,⟨ρ2,lS h2 (kN _ ks)⟩,h1⟩) (fun V st' a' w' h1 h2=>⟨st',h2,h1⟩) ?_
  rcases h with h | h
  ·exact .inl (dA (B:=E.B) (fun st h=>⟨k7 (B:=E.B) x h.1,k7 (B:=E.B) y h.2⟩) p h)
  ·exact .inr (oD T h.1 h.2)
 | .iW _ _,st,Q,h=>h.elim
 | .bad,st,Q,h=>h.elim
theorem X6 {s s':List (Nat×AV)} {h h':HP}:yf ⟨s,h⟩ ⟨s',h'⟩=(eM s s'∧eL h h'):=(rfl)
theorem X4 {s:List (Nat×AV)}:eM s []=True:=(rfl)
theorem X3 {s r:List (Nat×AV)} {k:Nat} {v:AV}:eM s ((k,v)::r)=(sget s k=some v∧eM s r):=(rfl)
theorem X1 {s:HP}:eL s []=True:=(rfl)
theorem XZ {s r:HP} {k:Nat} {v:aI}:eL s ((k,v)::r)=(hget s k=some v∧eL s r):=(rfl)
theorem a7 {P:Program} {E:Env} {x:AK} {Q:KQ} {st:St} {α:Type} (hN:E.N≤1000000) (f:α→St) (inv:α→Prop) (ms:α→Nat) (a0:α) (h0:Wk st (f a0)) (hi:inv a0)
    (round:∀a (R:KS),inv a→(∀b st',ms b<ms a→inv b→Wk st' (f b)→R.ap st')→vcW P E x (KQ.eQ R Q) (f a)):vcW P E (.loop x) Q st:=by
 show b5 P E (.loop (x.erase E.B)) st Q.ap
 refine Ey (fun n s=>∃a,inv a∧n=ms a∧Wk s (f a)) (ms a0) ⟨a0,hi,rfl,h0⟩ ?_
 rintro n s ⟨a,h1,rfl,hle⟩
 refine nM hle (b5.mono (fZ hN x (round a ⟨fun s=>∃m,m<ms a∧∃a,inv a∧m=ms a∧Wk s (f a)⟩ h1 (fun b st' g1 g2 g3=>⟨ms b,g1,b,g2,rfl,g3⟩))) ?_)
 intro e s h
 exact h
theorem da {P:Program} {E:Env} {x y:AK} {Q:KQ} {st:St} {α:Type} (hN:E.N≤1000000) (f:α→St) (inv:α→Prop)
    (h1:∀R:KS,(∀a st',inv a→Wk st' (f a)→R.ap st')→vcW P E x (KQ.eQ R Q) st) (h2:∀a,inv a→vcW P E y Q (f a)):vcW P E (.seq x (.bq y)) Q st:=
 h1 ⟨fun st=>b5 P E (y.erase E.B) st Q.ap⟩ (fun a st' g1 g2=>nM g2 (fZ hN y (h2 a g1)))
theorem aqL {P:Program} {E:Env} {d f bk p q0:Nat} {x:AE} {c:UInt8} {body:AK} {Q:KQ} {st:St} (hN:E.N≤1000000) (hrd:E.rd=none) (hS:qG P f) (hq0:q0<1000000) {s:List UInt8} (hx:ev st x=.str s) (hlen:s.length≤9223372036854775807)
    {α:Type} (s0:List (Nat×AV)) (H:α→HP) (inv:Nat→α→Prop) (x0:α) (h0:Wk st ⟨s0,H x0⟩) (hi:inv 0 x0) (hd0:sget s0 d=none) (hk0:s0.all (fun q=>decide (q.1<3000000))=true)
    (round:∀(E2:Env) k y (R:KQ),E2.N≤1000000→inv k y→k<(splitB c s).length→(∀y' st',inv (k+1) y'→Wk st' ⟨ghost s0,H y'⟩→R.ap .normal st')→(∀st' h',Wk st' ⟨ghost s0,h'⟩→Q.ap .ret ⟨s0,h'⟩→R.ap .ret st') →
     (∀i st' h',Wk st' ⟨ghost s0,h'⟩→(KQ.cS bk Q).ap (.exit i) ⟨s0,h'⟩→R.ap (.exit i) st')→vcW P E2 body R ⟨(q0,.str ((splitB c s).getD k []))::(p,.str ((splitB c s).getD k []))::(s0++ghost s0),H y⟩)
    (done:∀y,inv (splitB c s).length y→Q.ap .normal ⟨s0,H y⟩):BI P E d f x c bk p q0 body Q st:=by
 intro n ops o b a w hd hdN hg hnd htr hb hr
 refine aqM (body:=body.erase E.B) hN hrd hq0 hS hx hlen s0 H inv x0 h0 hi hd0 (fun k v hk=>?_) (fun E2 k y h1 h2 h3 h4=>?_) done hd hg hnd htr hdN hb hr
 ·have key:∀(l:List (Nat×AV)),l.all (fun q=>decide (q.1<3000000))=true→sget l k=some v→k<3000000:=by
   intro l
   induction l with
   | nil=>intro _ h;simp[sget]at h
   | cons q r ih=>
    obtain⟨j,u⟩:=q
    intro hl h
    simp only[List.all_cons,Bool.and_eq_true,decide_eq_true_eq]at hl
    simp only[sget]at h
    split at h
    ·rename_i e;omega
    ·exact ih hl.2 h
  exact key s0 hk0 hk
 ·rw[←h2]
  exact fZ (by omega) body (round E2 k y ⟨AP (fun st'=>∃y',inv (k+1) y'∧Wk st' ⟨ghost s0,H y'⟩) s0 (blockQ bk Q.ap)⟩ (by omega) h3 h4 (fun y' st' g1 g2=>⟨y',g1,g2⟩) (fun st' h' g1 g2=>⟨h',g1,g2⟩) (fun i st' h' g1 g2=>⟨h',g1,g2⟩))
theorem dV {P:Program} {E:Env} {x:AK} {Q:KQ} {st:St} (hN:E.N≤1000000) (h:vcW P E x Q st):vcW P E (.bq x) Q st:=fZ hN x h
theorem kT {P:Program} {E:Env} {x:AK} {Q:KQ} {st:St} (hN:E.N≤1000000) (st':St) (hle:Wk st st') (h:vcW P E x Q st'):vcW P E (.bq x) Q st:=nM hle (fZ hN x h)
section
variable {P:Program} {q:Bool} {st:St} {f:Nat} {args:List AE} {as:List AV} {d:Option Nat} {r:List ROp} {K:KS} {Post:HP→AV→List AV→Prop}
def aP (P:Program) (f:Nat) (as:List AV) (v:AV):Prop:=Spec P f [] as (fun h r _=>h=[]∧r=v)
theorem aE {v:AV} (hs:aP P f as v) (hn:as.all bP=true) (hv:dM v=true) (h:aopsW P r (put st d v) K):gu P q st f args as d r K:=by
 rintro rfl
 refine tY hs (by simpa using hn) ?_
 rintro h' r' as' ⟨rfl,rfl⟩
 exact⟨rfl,hv,h⟩
theorem fy (hs:Spec P f [] as Post) (hn:as.all bP=true) (h:∀h' v as',Post h' v as'→h'=[]∧dM v=true∧aopsW P r (put st d v) K):gu P q st f args as d r K:=by
 rintro rfl
 exact tY hs (by simpa using hn) h
def borL (h:HP):List AV→List AV
 | []=>[]
 | x::r=>borrow h x::borL h r
theorem q7 (h:HP):∀l,borL h l=l.map (borrow h)
 | []=>rfl
 | x::r=>by simp[borL,q7 h r]
theorem G8 {v:AV} {bs:List AV} (hb:borL st.h as=bs) (hs:aP P f bs v) (hv:di v=true) (h:aopsW P r (put st d v) K):gu P q st f args as d r K:=by
 rintro rfl
 subst hb
 refine CO (Post:=fun h r _=>h=[]∧r=v) (by rw[q7,List.map_map]at hs;exact hs) ?_
 rintro h' r' as' ⟨rfl,rfl⟩
 exact⟨rfl,hv,h⟩
theorem aJ (h0:HP) (hs:Spec P f h0 as Post) (hsub:eL st.h h0) (hq:q=true→h0=[])
    (h:∀h' v as',Post h' v as'→iG h' h'=true∧dE h' v=true∧aopsW P r (put (gq st h0 args h' as') d v) K):gu P q st f args as d r K:=by
 rintro rfl
 exact CQ h0 hs (fun i W hi=>jd hsub i W hi) hq h
def j8 (h0 h:HP):List AV→List AV
 | []=>[]
 | x::r=>bor h0 h x::j8 h0 h r
theorem u3 (h0 h:HP):∀l,j8 h0 h l=l.map (bor h0 h)
 | []=>rfl
 | x::r=>by simp[j8,u3 h0 h r]
theorem mh (h0:HP) {bs:List AV} (hb:j8 h0 st.h as=bs) (hs:Spec P f h0 bs Post) (hsub:eL st.h h0) (hq:q=true→h0=[])
    (h:∀h' v as',Post h' v as'→flH h' h'=true∧dX h' v=true∧aopsW P r (put (gq st h0 args h' as') d v) K):gu P q st f args as d r K:=by
 rintro rfl
 subst hb
 rw[u3,List.map_map]at hs
 exact CN h0 hs (fun i W hi=>jd hsub i W hi) hq h
def jR:List AV→List AV
 | []=>[]
 | x::r=>stripV x::jR r
def j3:List AV→Prop
 | []=>True
 | x::r=>az true x∧j3 r
theorem tu:∀l,jR l=l.map stripV
 | []=>rfl
 | x::r=>by simp[jR,tu r]
theorem qM:∀{l:List AV},j3 l→∀x∈l,az true x
 | [],_,x,hx=>by cases hx
 | y::r,h,x,hx=>by
  rcases List.mem_cons.1 hx with rfl | hx
  ·exact h.1
  ·exact qM h.2 x hx
theorem RV.strip {X:Nat→Prop} {w:World} {ρ:Loc} {v:Value} {x:AV} (h:RV X w ρ v x) (hc:az true x):RV X w ρ v (stripV x):=by
 cases x with
 | gd b y=>exact h.kn (hc rfl)
 | _=>exact h
theorem CP {q:Bool} {st:St} {f:Nat} {args:List AE} {K:AV→St→Prop} {Post:HP→AV→List AV→Prop} (hs:Spec P f [] (args.map fun x=>borrow st.h (stripV (ev st x))) Post) (hc:∀x∈args,az true (ev st x))
    (hK:∀h' r as,Post h' r as→h'=[]∧di r=true∧K r st):eG P q st f args K:=by
 intro E ρ a w vs h hvs hrv
 refine(hs E.X0 bh w vs (lA _ _ _) (h.cR.mono fun _ hb=>(fQ hb).elim) (fun b hb=>h.x0 b hb) (by simpa using hvs) (fun j v x e1 e2=>?_)).mono ?_
 ·rw[List.getElem?_map]at e2
  obtain⟨y,g1,rfl⟩:=Option.map_eq_some_iff.1 e2
  exact(va h ((hrv j v y e1 g1).1.strip (hc y (List.mem_of_getElem? g1))) bh).mono (fun _ _ _=>rfl) (fun b _ hb=>fun hx=>hb (kW.1 hx)) _ (fun _ _ h=>h)
 ·rintro e w' ⟨v,h',r,ρ',as,rfl,hP,_,g2,_,_,g3,g4,g5,g6,g7,_⟩
  obtain⟨rfl,q1,q2⟩:=hK h' r as hP
  have hsame:aV w w':=⟨g3,g4,g5,g6,fun b hb=>g7 b hb fQ⟩
  exact⟨v,ρ,st,r,rfl,h.same hsame,g2.di q1,q2,fun _=>hsame⟩
theorem j9 {d:Nat} {v:AV} {bs:List AV} (hb:borL st.h (jR as)=bs) (hs:aP P f bs v) (hc:j3 as) (hv:di v=true) (h:aopsW P r ⟨(d,.gd true v)::st.s,st.h⟩ K):nZ P q st f args as d r K:=by
 rintro rfl
 subst hb
 refine CP (Post:=fun h r _=>h=[]∧r=v) (by have:=hs;rw[q7,tu,List.map_map,List.map_map]at this;exact this) (fun x hx=>qM hc _ (List.mem_map_of_mem hx)) ?_
 rintro h' r' as' ⟨rfl,rfl⟩
 exact⟨rfl,hv,h⟩
theorem ka {d:Nat} {v:AV} {bs:List AV} (hb:jR as=bs) (hs:aP P f bs v) (hc:j3 as) (hn:bs.all bP=true) (hv:dM v=true) (h:aopsW P r ⟨(d,.gd true v)::st.s,st.h⟩ K):nZ P q st f args as d r K:=by
 rintro rfl
 subst hb
 rw[tu,List.map_map]at hs hn
 intro E ρ a w vs h1 hvs hrv
 have hlt:∀b,XX E.X0 ρ st.h b→b<w.heap.size:=by
  intro b hb
  rcases hb with hb | hb
  ·exact h1.x0 b hb
  ·exact fJ h1 hb
 refine(hs (XX E.X0 ρ st.h) bh w vs (lA _ _ _) (h1.cR.mono fun _ hb=>(fQ hb).elim) hlt (by simpa using hvs) (fun j v x e1 e2=>?_)).mono ?_
 ·rw[List.getElem?_map]at e2
  obtain⟨y,g1,rfl⟩:=Option.map_eq_some_iff.1 e2
  have hy:=(hrv j v y e1 g1).1.strip (qM hc _ (List.mem_map_of_mem (List.mem_of_getElem? g1)))
  have hm:(stripV (ev st y))∈args.map (stripV∘ev st):=List.mem_map.2 ⟨y,List.mem_of_getElem? g1,rfl⟩
  exact(hy.qp (List.all_eq_true.1 hn _ hm) bh).mono (fun _ _ _=>rfl) (fun b _ hb=>fun hx=>hb (kW.1 hx)) _ (fun _ _ h=>h)
 ·rintro e w' ⟨v,h',r,ρ',as,rfl,⟨rfl,rfl⟩,_,g2,_,_,g3,g4,g5,g6,g7,_⟩
  have hsame:aV w w':=⟨g3,g4,g5,g6,fun b hb=>g7 b hb fQ⟩
  exact⟨v,ρ,st,_,rfl,h1.same hsame,(g2.B2 hv ρ).mono (fun _ _ _=>rfl) (fun b _ hb=>fun hx=>hb (kW.2 hx)) ρ (fun _ _ h=>h),h,fun _=>hsame⟩
theorem gj {d:Nat} (h:nZ P q st f args as d r K):oX P q (some true) st f args as d r K:=fun e=>.inr (.inl ⟨rfl,h e⟩)
theorem eW {d:Nat} (h:aopsW P r ⟨(d,.gd false .undef)::st.s,st.h⟩ K):oX P q (some false) st f args as d r K:=fun _=>.inl ⟨rfl,h⟩
end
def cV (Post R:HP→AV→List AV→Prop):Prop:=∀h' r' ar' h r ar,ar'.length=ar.length→Wk ⟨(0,r)::numbered 1 ar,h⟩ ⟨(0,r')::numbered 1 ar',h'⟩→Post h' r' ar'→R h r ar
theorem sr {s:List (Nat×AV)}:∀{s':List (Nat×AV)},(∀k v,(k,v)∈s'→sget s k=some v)→eM s s'
 | [],_=>trivial
 | (k,v)::r,h=>⟨h k v (List.mem_cons_self ..),sr (fun k' v' hm=>h k' v' (List.mem_cons_of_mem _ hm))⟩
theorem sw:∀{l:List AV} {k j:Nat} {x:AV},(j,x)∈numbered k l→k≤j∧l[j-k]?=some x
 | [],k,j,x,h=>by simp[numbered]at h
 | y::r,k,j,x,h=>by
  simp only[numbered,List.mem_cons,Prod.mk.injEq]at h
  rcases h with⟨rfl,rfl⟩ | h
  ·exact⟨Nat.le_refl _,by simp⟩
  ·obtain⟨h1,h2⟩:=sw h
   exact⟨by omega,by rw[show j-k=(j-(k+1))+1 by omega];simpa using h2⟩
theorem X2 (r:AV) (ar:List AV):eM ((0,r)::numbered 1 ar) ((0,r)::numbered 1 ar):=by
 refine sr fun k v hm=>?_
 rcases List.mem_cons.1 hm with h | h
 ·injection h with h1 h2;subst h1;subst h2;simp[sget]
 ·obtain⟨h1,h2⟩:=sw h
  simp only[sget]
  rw[if_neg (by omega)]
  have:=mZ ar 1 (k-1) v h2
  rwa[show 1+(k-1)=k by omega]at this
theorem X5 (r r':AV) (ar:List AV):eM ((0,r')::(0,r)::numbered 1 ar) ((0,r')::numbered 1 ar):=by
 refine sr fun k v hm=>?_
 rcases List.mem_cons.1 hm with h | h
 ·injection h with h1 h2;subst h1;subst h2;simp[sget]
 ·obtain⟨h1,h2⟩:=sw h
  simp only[sget]
  rw[if_neg (by omega),if_neg (by omega)]
  have:=mZ ar 1 (k-1) v h2
  rwa[show 1+(k-1)=k by omega]at this
section
variable {Post R:HP→AV→List AV→Prop}
theorem cV.le (hF:cV Post R) {h h':HP} {r:AV} {ar:List AV} (hl:eL h h') (hp:Post h' r ar):R h r ar:=hF h' r ar h r ar rfl (.le ⟨X2 r ar,hl⟩) hp
theorem cV.ro (hF:cV Post R) {h:HP} {r:AV} {ar:List AV} (hp:Post [] r ar):R h r ar:=cV.le (h':=[]) hF trivial hp
theorem cV.val (hF:cV Post R) {h:HP} {r r':AV} {ar:List AV} (hv:l9 r r') (hp:Post [] r' ar):R h r ar:=
 hF [] r' ar h r ar rfl (.val 0 r r' rfl hv (.le ⟨X5 r r' ar,trivial⟩)) hp
theorem cV.wk (hF:cV Post R) {h':HP} {r':AV} {ar':List AV} {h:HP} {r:AV} {ar:List AV} (hlen:ar'.length=ar.length) (hw:Wk ⟨(0,r)::numbered 1 ar,h⟩ ⟨(0,r')::numbered 1 ar',h'⟩) (hp:Post h' r' ar'):R h r ar:=hF h' r' ar' h r ar hlen hw hp
theorem wC:cV Post (fun h r ar=>∃h2 r2 as2,as2.length=ar.length∧Wk ⟨(0,r)::numbered 1 ar,h⟩ ⟨(0,r2)::numbered 1 as2,h2⟩∧Post h2 r2 as2):=
 fun h' r' ar' _ _ _ h1 h2 h3=>⟨h',r',ar',h1,h2,h3⟩
end
theorem RV.arc {X:Nat→Prop} {w:World} {ρ:Loc} {v:Value} {s:List UInt8} (h:RV X w ρ v (.str s)):v=.string ⟨s.toArray⟩:=by cases h;rfl
theorem RV.Gq {X:Nat→Prop} {w:World} {ρ:Loc} {v:Value} {b:Bool} (h:RV X w ρ v (.bool b)):v=.bool b:=by cases h;rfl
theorem RV.Ym {X:Nat→Prop} {w:World} {ρ:Loc} {v x:Value} (h:RV X w ρ v (.lit x)):v=x:=by cases h;rfl
def valOf:AV→Value
 | .bool b=>.bool b
 | .int k n=>.int k n
 | .fl k b=>.float k b
 | .cx k a b=>.complex k a b
 | .str s=>.string ⟨s.toArray⟩
 | .al=>.slice none 0 0
 | .lit x=>x
 | _=>undef
def isVal:AV→Bool
 | .bool _ | .int _ _ | .fl _ _ | .cx _ _ _ | .str _ | .al | .lit _=>true
 | _=>false
theorem RV.valOf {X:Nat→Prop} {w:World} {ρ:Loc} {v:Value} {x:AV} (h:RV X w ρ v x) (hx:isVal x=true):v=valOf x:=by
 cases h<;>first | rfl | cases hx
theorem eR {X:Nat→Prop} {w:World} {ρ:Loc} {x:AV} (hx:isVal x=true):RV X w ρ (valOf x) x:=by
 cases x<;>first | (cases hx;done) | skip
 ·exact .bool _ _
 ·exact .int _ _ _
 ·exact .fl _ _ _
 ·exact .cx _ _ _ _
 ·exact .str _ _
 ·exact .lit _ _
 ·exact .al _
def mD:AV→Bool
 | .aj vs=>vs.all isVal
 | x=>isVal x
def nu:AV→Value
 | .aj vs=>.tuple (vs.map valOf).toArray
 | x=>valOf x
theorem asV {X:Nat→Prop} {w:World} {ρ:Loc} {x:AV} (hx:mD x=true):RV X w ρ (nu x) x:=by
 cases x with
 | aj vs=>
  refine .aj _ _ _ (by simp) (fun j v a h1 h2=>?_)
  simp only[List.getElem?_toArray,List.getElem?_map,h2,Option.map_some,Option.some.injEq]at h1
  subst h1
  exact eR (List.all_eq_true.1 hx a (List.mem_of_getElem? h2))
 | bool b=>exact eR (x:=.bool b) hx
 | int k n=>exact eR (x:=.int k n) hx
 | fl k b=>exact eR (x:=.fl k b) hx
 | cx k a b=>exact eR (x:=.cx k a b) hx
 | str s=>exact eR (x:=.str s) hx
 | lit x=>exact eR (x:=.lit x) hx
 | al=>exact eR (x:=.al) hx
 | undef=>exact eR (x:=.undef) hx
 | ro sz es=>exact eR (x:=.ro sz es) hx
 | au x=>exact eR (x:=.au x) hx
 | sl i o n=>exact eR (x:=.sl i o n) hx
 | ptr i j f=>exact eR (x:=.ptr i j f) hx
 | ab i f=>exact eR (x:=.ab i f) hx
 | agg cs=>exact eR (x:=.agg cs) hx
 | gd b x=>exact eR (x:=.gd b x) hx
 | aK f cs=>exact eR (x:=.aK f cs) hx
theorem BC {P:Program} {f:Nat} {as:List AV} {Q:AV→Prop} (ha:as.all isVal=true)
    (h:∀w:World,ir w→Calls P f (as.map valOf).toArray w fun e w'=>∃v,Q v∧mD v=true∧e=.returned (nu v)∧Go.RowKit.Below w.heap.size w w'):Spec P f [] as (fun h r _=>h=[]∧Q r):=by
 intro X0 ρ w vs h1 hA h2 h3 h4
 have hvs:vs=(as.map valOf).toArray:=by
  apply Array.ext (by simpa using h3)
  intro j g1 g2
  have hj:j<as.length:=by omega
  have:=(h4 j _ as[j] (Array.getElem?_eq_getElem g1) (List.getElem?_eq_getElem hj)).valOf (List.all_eq_true.1 ha _ (List.getElem_mem hj))
  rw[this];simp
 rw[hvs]
 refine(h w hA.1).mono ?_
 rintro e w' ⟨v,hQ,hv,rfl,hb⟩
 refine⟨_,[],v,ρ,as,rfl,⟨rfl,hQ⟩,lA _ _ _,asV hv,rfl,fun j u x e1 e2=>?_,hb.os,hb.tape,hb.output,hb.size,fun b hb' _=>hb.block b hb',fun b hb'=>(fQ hb').elim⟩
 rw[hvs]at h4
 have:=(h4 j u x e1 e2).valOf (List.all_eq_true.1 ha _ (List.mem_of_getElem? e2))
 rw[this]
 exact eR (List.all_eq_true.1 ha _ (List.mem_of_getElem? e2))
theorem BE {P:Program} {f:Nat} {as:List AV} {v:AV} (ha:as.all isVal=true) (hv:mD v=true)
    (h:∀w:World,ir w→Calls P f (as.map valOf).toArray w fun e w'=>e=.returned (nu v)∧Go.RowKit.Below w.heap.size w w'):aP P f as v:=
 BC (Q:=fun r=>r=v) ha (fun w hA=>(h w hA).mono (fun e w' ⟨h1,h2⟩=>⟨v,rfl,hv,h1,h2⟩))
theorem BD {P:Program} {f:Nat} {as:List AV} {v:AV} (ha:as.all isVal=true) (hv:mD v=true)
    (h:∀w:World,Calls P f (as.map valOf).toArray w fun e w'=>e=.returned (nu v)∧Go.RowKit.Below w.heap.size w w'):aP P f as v:=BE ha hv (fun w _=>h w)
theorem BG {P:Program} {f:Nat} {as:List AV} {v:AV} (ha:as.all isVal=true) (hv:mD v=true)
    (h:∀w:World,Calls P f (as.map valOf).toArray w fun e w'=>e=.returned (nu v)∧w'=w):aP P f as v:=
 BD ha hv (fun w=>(h w).mono (fun e w' ⟨h1,h2⟩=>⟨h1,by rw[h2];exact .refl _ _⟩))
def KQ.post (rs:List RVar) (m:Nat) (R:HP→AV→List AV→Prop):KQ:=⟨postQ rs m R⟩
theorem uB {P:Program} {E:Env} {c:AC} {st:St} {Q:Exit→St→Prop} (s':List (Nat×AV)) (hs:eM st.s s') (h:b5 P E c ⟨s',st.h⟩ Q):b5 P E c st Q:=
 fun n code hc a w hr=>h n code hc a w (by obtain⟨ρ,hr⟩:=hr;exact⟨ρ,lS hr hs⟩)
theorem alb {st:St} {t:Nat} (ht:t<2000000):resOf st [.tmp t]=some (ev st (.t t)):=by simp[resOf,resAV,trE,ht]
theorem ald {st:St} {t u:Nat} (ht:t<2000000) (hu:u<2000000):resOf st [.tmp t,.tmp u]=some (.aj [ev st (.t t),ev st (.t u)]):=by simp[resOf,resAV,trE,ht,hu]
theorem alc {st:St} {t u v:Nat} (ht:t<2000000) (hu:u<2000000) (hv:v<2000000):resOf st [.tmp t,.tmp u,.tmp v]=some (.aj [ev st (.t t),ev st (.t u),ev st (.t v)]):=by simp[resOf,resAV,trE,ht,hu,hv]
theorem ala {st:St} {t u v x:Nat} (ht:t<2000000) (hu:u<2000000) (hv:v<2000000) (hx:x<2000000):resOf st [.tmp t,.tmp u,.tmp v,.tmp x]=some (.aj [ev st (.t t),ev st (.t u),ev st (.t v),ev st (.t x)]):=by simp[resOf,resAV,trE,ht,hu,hv,hx]
section
variable {m:Nat} {R:HP→AV→List AV→Prop} {st:St} {t u v x:Nat}
theorem Xf:(KQ.post [] m R).ap .ret st=R st.h (.aj []) (argsAgain st 0 m):=by simp[KQ.post,postQ,resOf,resAV]
theorem Xe:(KQ.post [] m R).ap .normal st=R st.h (.aj []) (argsAgain st 0 m):=by simp[KQ.post,postQ,resOf,resAV]
theorem Xg (ht:t<2000000):(KQ.post [.tmp t] m R).ap .ret st=R st.h (ev st (.t t)) (argsAgain st 0 m):=by simp[KQ.post,postQ,alb ht]
theorem Xh (ht:t<2000000) (hu:u<2000000):(KQ.post [.tmp t,.tmp u] m R).ap .ret st=R st.h (.aj [ev st (.t t),ev st (.t u)]) (argsAgain st 0 m):=by simp[KQ.post,postQ,ald ht hu]
theorem Xi (ht:t<2000000) (hu:u<2000000) (hv:v<2000000):(KQ.post [.tmp t,.tmp u,.tmp v] m R).ap .ret st=R st.h (.aj [ev st (.t t),ev st (.t u),ev st (.t v)]) (argsAgain st 0 m):=by simp[KQ.post,postQ,alc ht hu hv]
theorem Xj (ht:t<2000000) (hu:u<2000000) (hv:v<2000000) (hx:x<2000000):(KQ.post [.tmp t,.tmp u,.tmp v,.tmp x] m R).ap .ret st=R st.h (.aj [ev st (.t t),ev st (.t u),ev st (.t v),ev st (.t x)]) (argsAgain st 0 m):=by simp[KQ.post,postQ,ala ht hu hv hx]
end
def KQ.dies (V:Value):KQ:=⟨vQ V⟩
theorem WU {V:Value} {st:St}:(KQ.dies V).ap (.panic (dS V)) st=True:=by simp[KQ.dies,vQ]
def KQ.guard (rs:List RVar) (m:Nat) (V:Value) (zA:AV) (R:HP→AV→List AV→Prop):KQ:=⟨Mr rs m V zA R⟩
def guardP2 (rs:List RVar) (m:Nat) (zA:AV) (R:HP→AV→List AV→Prop) (st:St) (id:Nat):Option aI→Prop
 | some (.var [_])=>(KQ.post rs m R).ap .ret ⟨st.s,bX st.h id (.var [zA])⟩
 | _=>False
def guardP (rs:List RVar) (m:Nat) (zA:AV) (R:HP→AV→List AV→Prop) (st:St):Option AV→Prop
 | some (.ab id 0)=>guardP2 rs m zA R st id (hget st.h id)
 | _=>False
theorem w7 {rs:List RVar} {m id:Nat} {zA:AV} {R:HP→AV→List AV→Prop} {st:St}:guardP rs m zA R st (some (.ab id 0))=guardP2 rs m zA R st id (hget st.h id):=(rfl)
theorem Mq {rs:List RVar} {m id:Nat} {zA c:AV} {R:HP→AV→List AV→Prop} {st:St}:guardP2 rs m zA R st id (some (.var [c]))=(KQ.post rs m R).ap .ret ⟨st.s,bX st.h id (.var [zA])⟩:=(rfl)
theorem WY {rs:List RVar} {m:Nat} {V:Value} {zA:AV} {R:HP→AV→List AV→Prop} {st:St}:(KQ.guard rs m V zA R).ap .ret st=(KQ.post rs m R).ap .ret st:=(rfl)
theorem WX {rs:List RVar} {m:Nat} {V:Value} {zA:AV} {R:HP→AV→List AV→Prop} {st:St}:(KQ.guard rs m V zA R).ap (.panic (dS V)) st=guardP rs m zA R st (sget st.s (2000000+m)):=by
 apply propext
 constructor
 ·rintro⟨_,id,c,h1,h2,h3⟩
  rw[h1,w7,h2]
  exact h3
 ·intro h
  unfold guardP at h
  split at h
  ·rename_i id h1
   unfold guardP2 at h
   split at h
   ·rename_i c h2
    exact⟨rfl,id,c,h1,h2,h⟩
   ·exact h.elim
  ·exact h.elim
def KQ.iW (P:Program) (k m:Nat) (y:AK) (rs:List RVar) (V:Value) (zA:AV) (R:HP→AV→List AV→Prop):KQ:=
 ⟨fun e st=>e=.normal∧∃id,ev st (.t k)=.ab id 0∧∀E':Env,E'.N≤1000000→vcW P E' y (KQ.guard rs m V zA R) ⟨(2000000+m,.ab id 0)::st.s,st.h⟩⟩
def retCC (o p:Option AV) (R:HP→AV→List AV→Prop) (h:HP) (as:List AV):Prop:=
 match o,p with
 | some x,some y=>R h (.aj [x,y]) as
 | _,_=>False
theorem alh {x y:AV} {R:HP→AV→List AV→Prop} {h:HP} {as:List AV}:retCC (some x) (some y) R h as=R h (.aj [x,y]) as:=(rfl)
theorem Xd {m n t u k:Nat} {ag bg:Bool} {R:HP→AV→List AV→Prop} {st:St}:(KQ.post [.cell t ag n,.cell u bg k] m R).ap .ret st=retCC (resC st ag n (sget st.s t)) (resC st bg k (sget st.s u)) R st.h (argsAgain st 0 m):=by
 simp only[KQ.post,postQ,resOf,resAV]
 cases resC st ag n (sget st.s t)<;>cases resC st bg k (sget st.s u)<;>simp[consO,retCC]
def retC (o:Option AV) (ys:List AV) (R:HP→AV→List AV→Prop) (h:HP) (as:List AV):Prop:=
 match o,ys with
 | some x,[]=>R h x as
 | some x,ys=>R h (.aj (x::ys)) as
 | none,_=>False
theorem Mm:ghost []=[]:=(rfl)
theorem Ml {k:Nat} {v:AV} {r:List (Nat×AV)}:ghost ((k,v)::r)=(3000000+k,v)::ghost r:=(rfl)
theorem ali {x:AV} {R:HP→AV→List AV→Prop} {h:HP} {as:List AV}:retC (some x) [] R h as=R h x as:=(rfl)
theorem alj {x y:AV} {R:HP→AV→List AV→Prop} {h:HP} {as:List AV}:retC (some x) [y] R h as=R h (.aj [x,y]) as:=(rfl)
theorem Xb {m n t:Nat} {ag:Bool} {R:HP→AV→List AV→Prop} {st:St}:(KQ.post [.cell t ag n] m R).ap .ret st=retC (resC st ag n (sget st.s t)) [] R st.h (argsAgain st 0 m):=by
 simp only[KQ.post,postQ,resOf,resAV]
 cases resC st ag n (sget st.s t)<;>simp[consO,retC]
theorem Xc {m n t u:Nat} {ag:Bool} {R:HP→AV→List AV→Prop} {st:St} (hu:u<2000000):(KQ.post [.cell t ag n,.tmp u] m R).ap .ret st=retC (resC st ag n (sget st.s t)) [ev st (.t u)] R st.h (argsAgain st 0 m):=by
 simp only[KQ.post,postQ,resOf,resAV]
 cases resC st ag n (sget st.s t)<;>simp[consO,retC,trE,hu]
theorem ak9 {st:St} {ag:Bool} {n id f:Nat}:resC st ag n (some (.ab id f))=resW ag n f (hget st.h id):=(rfl)
theorem ale {ag:Bool} {n f:Nat} {cs:List AV}:resW ag n f (some (.var cs))=ldO ag n (cs.drop f):=(rfl)
theorem XT {n:Nat} {cs:List AV} (h:n≤cs.length):ldO true n cs=some (.agg (cs.take n)):=by simp[ldO,h]
theorem XS {n:Nat} {c:AV} {cs:List AV}:ldO false n (c::cs)=some c:=(rfl)
def pY (b:Bool) (id' i:Nat):Nat:=match b with
 | true=>id'
 | false=>i
theorem al5 {id id' i:Nat}:rn id id' i=pY (i==id) id' i:=by unfold rn pY;cases i==id<;>rfl
theorem al4 {id' i:Nat}:pY true id' i=id':=(rfl)
theorem al3 {id' i:Nat}:pY false id' i=i:=(rfl)
def qa (b:Bool) (v:AV) (r:List (Nat×AV)) (i:Nat):Option AV:=bif b then some v else sget r i
theorem aoA {i:Nat}:sget [] i=none:=(rfl)
theorem aoz {k i:Nat} {v:AV} {r:List (Nat×AV)}:sget ((k,v)::r) i=qa (i==k) v r i:=by
 simp only[sget,qa,cond_eq_ite,beq_iff_eq]
theorem aoy {v:AV} {r:List (Nat×AV)} {i:Nat}:qa true v r i=some v:=(rfl)
theorem aox {v:AV} {r:List (Nat×AV)} {i:Nat}:qa false v r i=sget r i:=(rfl)
def pb (b:Bool) (v:aI) (r:HP) (i:Nat):Option aI:=bif b then some v else hget r i
theorem ND {i:Nat}:hget [] i=none:=(rfl)
theorem NC {k i:Nat} {v:aI} {r:HP}:hget ((k,v)::r) i=pb (i==k) v r i:=by
 simp only[hget,pb,cond_eq_ite,beq_iff_eq]
theorem NB {v:aI} {r:HP} {i:Nat}:pb true v r i=some v:=(rfl)
theorem NA {v:aI} {r:HP} {i:Nat}:pb false v r i=hget r i:=(rfl)
def o9 (b:Bool) (k:Nat) (v:aI) (r:HP) (i:Nat):HP:=bif b then hdel i r else(k,v)::hdel i r
theorem Nf {i:Nat}:hdel i []=[]:=(rfl)
theorem Nd {k i:Nat} {v:aI} {r:HP}:hdel i ((k,v)::r)=o9 (i==k) k v r i:=by
 simp only[hdel,o9,cond_eq_ite,beq_iff_eq]
theorem Nc {k:Nat} {v:aI} {r:HP} {i:Nat}:o9 true k v r i=hdel i r:=(rfl)
theorem Nb {k:Nat} {v:aI} {r:HP} {i:Nat}:o9 false k v r i=(k,v)::hdel i r:=(rfl)
theorem O2 {h:HP} {id:Nat} {W:aI}:bX h id W=(id,W)::hdel id h:=(rfl)
def pC (b:Bool) (i:Nat) (r:List Nat):Bool:=bif b then true else memN i r
theorem ZN {i:Nat}:memN i []=false:=(rfl)
theorem ZM {i k:Nat} {r:List Nat}:memN i (k::r)=pC (i==k) i r:=by
 simp only[memN,pC,cond_eq_ite,beq_iff_eq]
theorem ZL {i:Nat} {r:List Nat}:pC true i r=true:=(rfl)
theorem ZK {i:Nat} {r:List Nat}:pC false i r=memN i r:=(rfl)
def oC (b:Bool) (k:Nat) (W:aI) (ids keep:List Nat) (r:HP):HP:=bif b then dropH ids keep r else(k,jb ids keep W)::dropH ids keep r
theorem Jt {ids keep:List Nat}:dropH ids keep []=[]:=(rfl)
theorem Js {ids keep:List Nat} {k:Nat} {W:aI} {r:HP}:dropH ids keep ((k,W)::r)=oC (memN k ids) k W ids keep r:=by
 simp only[dropH,oC,cond_eq_ite]
theorem Jr {ids keep:List Nat} {k:Nat} {W:aI} {r:HP}:oC true k W ids keep r=dropH ids keep r:=(rfl)
theorem Jq {ids keep:List Nat} {k:Nat} {W:aI} {r:HP}:oC false k W ids keep r=(k,jb ids keep W)::dropH ids keep r:=(rfl)
theorem Wq {id:Nat}:killS id []=[]:=(rfl)
theorem Wp {id k:Nat} {v:AV} {r:List (Nat×AV)}:killS id ((k,v)::r)=(k,kill id v)::killS id r:=(rfl)
theorem Wm {id:Nat}:eZ id []=[]:=(rfl)
theorem Wl {id k:Nat} {v:aI} {r:HP}:eZ id ((k,v)::r)=(k,jF id v)::eZ id r:=(rfl)
theorem Wo {ids keep:List Nat}:killSI ids keep []=[]:=(rfl)
theorem Wn {ids keep:List Nat} {k:Nat} {v:AV} {r:List (Nat×AV)}:killSI ids keep ((k,v)::r)=(k,kI ids keep v)::killSI ids keep r:=(rfl)
theorem L4 {id sz:Nat} {es:List AV}:frzS id sz es []=[]:=(rfl)
theorem L3 {id sz k:Nat} {es:List AV} {v:AV} {r:List (Nat×AV)}:frzS id sz es ((k,v)::r)=(k,bK id sz es v)::frzS id sz es r:=(rfl)
theorem LY {id sz:Nat} {es:List AV}:frzH id sz es []=[]:=(rfl)
theorem LX {id sz k:Nat} {es:List AV} {v:aI} {r:HP}:frzH id sz es ((k,v)::r)=(k,km id sz es v)::frzH id sz es r:=(rfl)
def frzO (st:St) (id:Nat) (o:Option aI):St:=
 match o with
 | some (.arr sz es)=>⟨frzS id sz es st.s,frzH id sz es (hdel id st.h)⟩
 | _=>st
theorem Lm {st:St} {id:Nat}:freeze st id=frzO st id (hget st.h id):=by
 unfold freeze frzO;split<;>simp_all
theorem LZ {st:St} {id sz:Nat} {es:List AV}:frzO st id (some (.arr sz es))=⟨frzS id sz es st.s,frzH id sz es (hdel id st.h)⟩:=(rfl)
def qX (b:Bool) (Q:KQ) (j:Nat) (st:St):Prop:=match b with
 | true=>Q.ap .normal st
 | false=>Q.ap (.exit j) st
theorem WK {Q:KQ} {i j:Nat} {st:St}:(KQ.cS i Q).ap (.exit j) st=qX (j==i) Q j st:=by
 rw[WS]
 by_cases h:j=i
 ·subst h;rw[if_pos rfl,show(j==j)=true by simp];rfl
 ·rw[if_neg h,show(j==i)=false by simp[h]];rfl
theorem FB {Q:KQ} {j:Nat} {st:St}:qX true Q j st=Q.ap .normal st:=(rfl)
theorem FA {Q:KQ} {j:Nat} {st:St}:qX false Q j st=Q.ap (.exit j) st:=(rfl)
abbrev ints (xs:List Int):List AV:=xs.map (AV.int .i64)
theorem Si (xs:List Int):ints xs=xs.map (AV.int .i64):=(rfl)
theorem aar {f:Int→AV} {xs:List Int} {i:Nat} (h:i<xs.length):nth (xs.map f) i=f (xs.getD i 0):=by
 simp[nth,List.getD_eq_getElem?_getD,h]
theorem aap {f:UInt8→AV} {xs:List UInt8} {i:Nat} (h:i<xs.length):nth (xs.map f) i=f (xs.getD i 0):=by
 simp[nth,List.getD_eq_getElem?_getD,h]
theorem aas {α:Type} {f:List α→AV} {xs:List (List α)} {i:Nat} (h:i<xs.length):nth (xs.map f) i=f (xs.getD i []):=by
 simp[nth,List.getD_eq_getElem?_getD,h]
theorem aaq {α:Type} [Inhabited α] {f:α→AV} {xs:List α} {i:Nat} (h:i<xs.length):nth (xs.map f) i=f (xs.getD i default):=by
 simp[nth,List.getD_eq_getElem?_getD,h]
theorem aro {α:Type} {f:α→AV} {xs:List α} {o n:Nat}:aL (xs.map f) o n=((xs.drop o).take n).map f:=by
 simp[aL]
theorem arq {x:AV} {r:List AV} {o n:Nat}:aL (x::r) (o+1) n=aL r o n:=by simp[aL]
theorem arn {x:AV} {r:List AV} {n:Nat}:aL (x::r) 0 (n+1)=x::aL r 0 n:=by simp[aL]
theorem ars {r:List AV}:aL r 0 0=[]:=by simp[aL]
theorem arp {o n:Nat}:aL [] o n=[]:=by simp[aL]
theorem fu {α:Type} {xs:List α} {n:Nat} (h:xs.length≤n):xs.take n=xs:=List.take_of_length_le h
theorem vY {α:Type} {xs:List α} {n:Nat} (h:xs.length≤n):xs.drop n=[]:=List.drop_eq_nil_of_le h
theorem aov {α:Type} {f:α→AV} {xs:List α} {i:Nat} {y:α}:(xs.map f).set i (f y)=(xs.set i y).map f:=by rw[List.map_set]
theorem DQ {α:Type} {f:α→AV} {xs:List α} {y:α}:xs.map f++[f y]=(xs++[y]).map f:=by simp
theorem DV {α:Type} {f:α→AV} {xs ys:List α}:xs.map f++ys.map f=(xs++ys).map f:=by simp
theorem Hu {k:IntKind} {xs:List Int}:(xs.map (AV.int k)).all ba=true:=by simp[ba,cellsOf,isCell]
theorem K4 {k:IntKind} {xs:List Int}:(xs.map (AV.int k)).all flA=true:=by simp[flA,flC]
theorem K3 {xs:List UInt8}:(xs.map ub).all flA=true:=by simp[flA,flC,ub]
theorem K5 {xs:List (List UInt8)}:(xs.map AV.str).all flA=true:=by simp[flA,flC]
theorem Hs {xs:List UInt8}:(xs.map ub).all ba=true:=by simp[ba,cellsOf,isCell,ub]
theorem Hx {xs:List (List UInt8)}:(xs.map AV.str).all ba=true:=by simp[ba,cellsOf,isCell]
theorem Hw {α:Type} {sz:Nat} {f:α→List AV} {xs:List α}:(xs.map fun x=>AV.ro sz (f x)).all ba=true:=by simp[ba,cellsOf,isCell]
def p9 (b:Bool) (e v:AV):AV:=
 match b with
 | true=>v
 | false=>.agg (dm (cellsOf e) 0 (cellsOf v))
theorem aot {e v:AV}:ia e 0 v=p9 ((cellsOf v).length==(cellsOf e).length) e v:=by
 unfold ia p9
 by_cases h:(cellsOf v).length=(cellsOf e).length
 ·rw[if_pos ⟨rfl,h⟩,show((cellsOf v).length==(cellsOf e).length)=true by simp[h]]
 ·rw[if_neg (fun x=>h x.2),show((cellsOf v).length==(cellsOf e).length)=false by simp[h]]
theorem aoq {e v:AV}:p9 true e v=v:=(rfl)
theorem aop {e v:AV}:p9 false e v=.agg (dm (cellsOf e) 0 (cellsOf v)):=(rfl)
theorem aos {e v:AV} {f:Nat} (h:f≠0):ia e f v=.agg (dm (cellsOf e) f (cellsOf v)):=by
 unfold ia;rw[if_neg (fun x=>h x.1)]
theorem ar3 (b:UInt8):ub b=.int .u8 b.toNat:=(rfl)
theorem Hp:cellsOf AV.undef=[AV.undef]:=(rfl)
theorem He (b:Bool):cellsOf (.bool b)=[.bool b]:=(rfl)
theorem Hi (k:IntKind) (n:Int):cellsOf (.int k n)=[.int k n]:=(rfl)
theorem Hh (k:FloatKind) (n:Nat):cellsOf (.fl k n)=[.fl k n]:=(rfl)
theorem Hf (k:FloatKind) (a b:Nat):cellsOf (.cx k a b)=[.cx k a b]:=(rfl)
theorem Ho (l:List UInt8):cellsOf (.str l)=[.str l]:=(rfl)
theorem Hj (x:Value):cellsOf (.lit x)=[.lit x]:=(rfl)
theorem Hm (sz:Nat) (es:List AV):cellsOf (.ro sz es)=[.ro sz es]:=(rfl)
theorem Hg (x:AV):cellsOf (.au x)=[.au x]:=(rfl)
theorem Hn (i o n:Nat):cellsOf (.sl i o n)=[.sl i o n]:=(rfl)
theorem Hl (i j f:Nat):cellsOf (.ptr i j f)=[.ptr i j f]:=(rfl)
theorem Hq (i f:Nat):cellsOf (.ab i f)=[.ab i f]:=(rfl)
theorem Hk:cellsOf .al=[.al]:=(rfl)
theorem Hd (cs:List AV):cellsOf (.agg cs)=cs:=(rfl)
theorem aou {α:Type} (xs:List α) (a b:α):(xs++[a]).set xs.length b=xs++[b]:=by simp
theorem abL {a b:Bool}:(if a=true then true else b)=(a||b):=by cases a<;>rfl
theorem abJ {a b:Bool}:(if a=true then b else false)=(a&&b):=by cases a<;>rfl
theorem abM {p:Prop} [Decidable p] {b:Bool}:(if p then true else b)=(decide p||b):=by by_cases h:p<;>simp[h]
theorem abK {p:Prop} [Decidable p] {b:Bool}:(if p then b else false)=(decide p&&b):=by by_cases h:p<;>simp[h]
theorem IA {b:Bool}:decide (b=true)=b:=by cases b<;>rfl
theorem Sf {a b:Int} (h:a=b):(a=b)=True:=eq_true h
theorem aae {a b:Nat} (h:a=b):(a=b)=True:=eq_true h
theorem ID {p q:Prop} [Decidable p] [Decidable q]:(decide p||decide q)=decide (p∨q):=by simp
theorem Iy {p q:Prop} [Decidable p] [Decidable q]:(decide p&&decide q)=decide (p∧q):=by simp
theorem IC {p:Prop} [Decidable p]:(!decide p)=decide (¬p):=by simp
theorem EV {a b:List UInt8}:(a==b)=decide (a=b):=by
 by_cases h:a=b<;>simp[h]
theorem EW {a:Bool}:(a==false)=!a:=by cases a<;>rfl
theorem EX {a:Bool}:(a==true)=a:=by cases a<;>rfl
theorem Ju {α:Type} (d:α) (xs:List α) {k:Nat} (h:k<xs.length):xs.drop k=xs.getD k d::xs.drop (k+1):=by
 rw[List.drop_eq_getElem_cons h,List.getD_eq_getElem?_getD,List.getElem?_eq_getElem h];rfl
theorem Cb {n:Int} (h:0≤n∧n≤255):ub (UInt8.ofNat n.toNat)=.int .u8 n:=by
 simp only[ub,UInt8.toNat_ofNat']
 congr 1
 omega
theorem aow {xs:List UInt8} {i:Nat} {n:Int} (h:0≤n∧n≤255):(xs.map ub).set i (.int .u8 n)=(xs.set i (UInt8.ofNat n.toNat)).map ub:=by
 rw[←Cb h,List.map_set]
theorem DX {xs:List UInt8} {n:Int} (h:0≤n∧n≤255):xs.map ub++[.int .u8 n]=(xs++[UInt8.ofNat n.toNat]).map ub:=by
 rw[←Cb h];simp
theorem G5 {xs:List UInt8}:bytesOf (xs.map ub)=xs:=by
 simp only[bytesOf,List.map_map]
 conv=>rhs;rw[←List.map_id xs]
 refine List.map_congr_left fun x _=>?_
 simp[byteOfAV,ub]
theorem Dm {xs:List UInt8}:eH (xs.map ub)=true:=by simp[eH,fN,ub]
theorem aab {a b:Int}:(if b > a then b else a)=max a b:=by omega
theorem Z3 {a b:Int}:(if b<a then b else a)=min a b:=by omega
theorem arK {k:Nat}:((k:Int)-1).toNat=k-1:=by omega
theorem arJ {k:Nat}:((k:Int)+1).toNat=k+1:=by omega
theorem toNat_add {k m:Nat}:((k:Int)+(m:Int)).toNat=k+m:=by omega
theorem toNat_sub {k m:Nat}:((k:Int)-(m:Int)).toNat=k-m:=by omega
theorem Kj (st:St):evL st []=[]∧(∀x r,evL st (x::r)=ev st x::evL st r):=⟨rfl,fun _ _=>rfl⟩
theorem Gu (h:HP):borL h []=[]∧(∀x r,borL h (x::r)=borrow h x::borL h r):=⟨rfl,fun _ _=>rfl⟩
theorem Gv (h0 h:HP):j8 h0 h []=[]∧(∀x r,j8 h0 h (x::r)=bor h0 h x::j8 h0 h r):=⟨rfl,fun _ _=>rfl⟩
theorem aqQ:jR []=[]∧(∀x r,jR (x::r)=stripV x::jR r):=⟨rfl,fun _ _=>rfl⟩
theorem Dn:j3 []=True∧(∀x r,j3 (x::r)=(az true x∧j3 r)):=⟨rfl,fun _ _=>rfl⟩
theorem D1 (st:St) (k:Nat):argsAgain st k 0=[]∧(∀n,argsAgain st k (n+1)=(sget st.s (2000000+k)).getD .undef::argsAgain st (k+1) n):=⟨rfl,fun _=>rfl⟩
theorem jt {n:Int} (h:-9223372036854775808≤n∧n≤9223372036854775807):IntKind.i64.wrap n=n:=IntWalk.i64_in n h
theorem IE {p:Prop} [Decidable p] (h:p):decide p=true:=decide_eq_true h
theorem IB {p:Prop} [Decidable p] (h:¬p):decide p=false:=decide_eq_false h
section
variable {P:Program} {st:St} {K:KS} {r:List ROp} {d:Nat} {c:Prop} {v:AV} {γ:Bool}
theorem asY:valW P (.ok True v) d r st K=aopsW P r ⟨(d,v)::st.s,st.h⟩ K:=by simp only[tF,true_and]
theorem asX (h:c):valW P (.ok c v) d r st K=aopsW P r ⟨(d,v)::st.s,st.h⟩ K:=by simp only[tF,h,true_and]
theorem JV:ln P (.ok True v st) d r K=aopsW P r ⟨(d,v)::st.s,st.h⟩ K:=by simp only[rB,true_and]
theorem JU (h:c):ln P (.ok c v st) d r K=aopsW P r ⟨(d,v)::st.s,st.h⟩ K:=by simp only[rB,h,true_and]
theorem JN:lk P (.ok True v st) r K=aopsW P r st K:=by simp only[rA,true_and]
theorem JM (h:c):lk P (.ok c v st) r K=aopsW P r st K:=by simp only[rA,h,true_and]
end
theorem aud {n:Int} (h:-128≤n∧n≤127):IntKind.i8.wrap n=n:=IntWalk.i8_in n h
theorem auc {n:Int} (h:-32768≤n∧n≤32767):IntKind.i16.wrap n=n:=IntWalk.i16_in n h
theorem wrap_i32 {n:Int} (h:-2147483648≤n∧n≤2147483647):IntKind.i32.wrap n=n:=IntWalk.i32_in n h
theorem wrap_u8 {n:Int} (h:0≤n∧n≤255):IntKind.u8.wrap n=n:=IntWalk.u8_in n h
theorem wrap_u16 {n:Int} (h:0≤n∧n≤65535):IntKind.u16.wrap n=n:=IntWalk.u16_in n h
theorem wrap_u32 {n:Int} (h:0≤n∧n≤4294967295):IntKind.u32.wrap n=n:=IntWalk.u32_in n h
theorem wrap_u64 {n:Int} (h:0≤n∧n≤18446744073709551615):IntKind.u64.wrap n=n:=IntWalk.u64_in n h
section
variable {P:Program} {E:Env} {st:St} {Q:KQ} {x y:AK}
theorem r4 {p:Prop} [Decidable p] (h1:p→vcW P E x Q st) (h2:¬p→vcW P E y Q st):kq P E (decide p) x y Q st:=
 ⟨fun h=>h1 (of_decide_eq_true h),fun h=>h2 (of_decide_eq_false h)⟩
end
attribute [go_sem] Xr WN Xm W4 W8 XA JB Jz JA Xz Jo Jp abQ Dj WU w7 Mq WY WX alh Xd XC Xy Mm Ml ali alj Xb Xc ak9 ale XT XS Xp WL Xk W3 W5 W6 WZ W7 W9 Xa as8 as7 Kj Gu Gv aqQ Dn D1 DM DN DP asW DG JT DH JL um DF DL Mx Mw Mu Ms DK Me Md Mc DI DJ XB Xq Xs Xt WM WQ WK FB FA Xl Xn Xo ate atb as6 Ib QQ QP arZ ar0 arY arX X6 X4 X3 X1 XZ Xf Xe Xg Xh Xi Xj Wc Wb aoA aoz aoy aox ND NC NB NA O2 Nf Nd Nc Nb ZN ZM ZL ZK Jt Js Jr Jq Hp He Hi Hh Hf Ho Hj Hm Hg Hn Hl Hq Hk Hd Wq Wp Wo Wn L4 L3 LY LX Lm LZ Wm Wl al5 al4 al3 List.take_succ_cons List.drop_succ_cons ar3 Bool.false_eq_true Bool.not_true Bool.not_false Bool.and_true Bool.true_and Bool.and_false Bool.false_and Bool.or_true Bool.or_false Bool.true_or Bool.false_or if_true if_false Option.getD_some Option.getD_none Option.map_some Option.map_none Option.isSome_some Option.isSome_none List.cons_append List.nil_append List.map_cons List.map_nil List.all_cons List.all_nil List.length_cons List.length_nil List.getD_cons_zero List.getD_cons_succ List.drop_zero List.take_zero decide_true decide_false abL abJ abM abK IA Sf aae ID Iy IC EV EW EX imp_self implies_true decide_eq_true_eq decide_eq_false_iff_not eq_self Int.natCast_add Int.cast_ofNat_Int Nat.zero_add Nat.add_zero Int.add_zero Int.zero_add Bool.and_self Nat.sub_zero true_and and_true false_and and_false not_true_eq_false not_false_eq_true Option.some.injEq aI.arr.injEq aI.var.injEq AV.int.injEq AV.bool.injEq AV.str.injEq AV.ro.injEq AV.sl.injEq AV.au.injEq AV.agg.injEq AV.aj.injEq AV.fl.injEq AV.cx.injEq AV.ab.injEq AV.ptr.injEq List.cons.injEq Prod.mk.injEq false_imp_iff true_imp_iff forall_const Int.toNat_natCast Si aar aap aas aro arp arq arn ars fu vY List.set_cons_zero List.set_cons_succ arK arJ toNat_add toNat_sub aab Z3 aov aow DX G5 Dm aou DQ DV K4 K3 K5 Hu Hs Hx Hw List.length_map List.length_append List.length_set List.length_range List.length_replicate List.length_reverse aot aoq aop aos
attribute [go_sem high] Mt asY JV JN
attribute [go_sem] asX JU JM jt aud auc wrap_i32 wrap_u8 wrap_u16 wrap_u32 wrap_u64 IE IB
theorem jT {a b:Int} (h:0≤a):a.tdiv b=a/b:=Int.tdiv_eq_ediv_of_nonneg h
theorem gM {a b:Int} (h:0≤a):a.tmod b=a%b:=Int.tmod_eq_emod_of_nonneg h
attribute [go_sem] jT gM
attribute [go_sem low] aaq
attribute [go_sem low] DA tF rB rA
theorem Lx:(∀{α:Type} (a b:List α),(a++b).length=a.length+b.length)∧(∀{α:Type} (x:α) (a:List α),(x::a).length=a.length+1)∧(∀{α:Type},([]:List α).length=0)∧(∀{α:Type} (a:List α) (i:Nat) (x:α),(a.set i x).length=a.length) ∧
    (∀{α β:Type} (f:α→β) (a:List α),(a.map f).length=a.length)∧(∀{α:Type} (i:Nat) (a:List α),(a.take i).length=min i a.length)∧(∀{α:Type} (i:Nat) (a:List α),(a.drop i).length=a.length-i)∧(∀n:Nat,(List.range n).length=n) ∧
    (∀{α:Type} (n:Nat) (x:α),(List.replicate n x).length=n)∧(∀{α:Type} (a:List α),a.reverse.length=a.length):=
 ⟨fun _ _=>List.length_append,fun _ _=>List.length_cons,List.length_nil,fun _ _ _=>List.length_set,fun _ _=>List.length_map _,fun _ _=>List.length_take,fun _ _=>List.length_drop,fun _=>List.length_range,fun _ _=>List.length_replicate,fun _=>List.length_reverse⟩
theorem vV {p:Prop} (h:p:=by simp(disch:=first | omega | (simp only[Lx];omega))only[go_sem,simprocAttr]):p:=h
theorem wW {a b:Prop} (k:b) (h:b→a:=by intro h;simp(disch:=first | omega | (simp only[Lx];omega))only[go_sem,simprocAttr];exact h):a:=h k
theorem gG {a b:Prop} (k:b) (h:b→a:=by intro h;(repeat(first | (with_reducible refine eY ?_) | (with_reducible refine eW ?_) | (with_reducible refine eX ?_))<;>simp(disch:=first | omega | (simp only[Lx];omega))only[go_sem,simprocAttr]);exact h):a:=h k
theorem fv {E0:Prop} {p:Prop} (e0:E0) (h:E0→p:=by intro e0;simp(disch:=first | omega | (simp only[Lx];omega))only[go_sem,simprocAttr,e0]):p:=h e0
theorem aw {E0:Prop} {a b:Prop} (e0:E0) (k:b) (h:E0→b→a:=by intro e0 h;simp(disch:=first | omega | (simp only[Lx];omega))only[go_sem,simprocAttr,e0];exact h):a:=h e0 k
theorem bQ {E0:Prop} {a b:Prop} (e0:E0) (k:b) (h:E0→b→a:=by intro e0 h;(repeat(first | (with_reducible refine eY ?_) | (with_reducible refine eW ?_) | (with_reducible refine eX ?_))<;>simp(disch:=first | omega | (simp only[Lx];omega))only[go_sem,simprocAttr,e0]);exact h):a:=h e0 k
theorem jq {E0 E1:Prop} {p:Prop} (e0:E0) (e1:E1) (h:E0→E1→p:=by intro e0 e1;simp(disch:=first | omega | (simp only[Lx];omega))only[go_sem,simprocAttr,e0,e1]):p:=h e0 e1
theorem bH {E0 E1:Prop} {a b:Prop} (e0:E0) (e1:E1) (k:b) (h:E0→E1→b→a:=by intro e0 e1 h;simp(disch:=first | omega | (simp only[Lx];omega))only[go_sem,simprocAttr,e0,e1];exact h):a:=h e0 e1 k
theorem dY {E0 E1:Prop} {a b:Prop} (e0:E0) (e1:E1) (k:b) (h:E0→E1→b→a:=by intro e0 e1 h;(repeat(first | (with_reducible refine eY ?_) | (with_reducible refine eW ?_) | (with_reducible refine eX ?_))<;>simp(disch:=first | omega | (simp only[Lx];omega))only[go_sem,simprocAttr,e0,e1]);exact h):a:=h e0 e1 k
theorem tD {E0 E1 E2:Prop} {p:Prop} (e0:E0) (e1:E1) (e2:E2) (h:E0→E1→E2→p:=by intro e0 e1 e2;simp(disch:=first | omega | (simp only[Lx];omega))only[go_sem,simprocAttr,e0,e1,e2]):p:=h e0 e1 e2
theorem cL {E0 E1 E2:Prop} {a b:Prop} (e0:E0) (e1:E1) (e2:E2) (k:b) (h:E0→E1→E2→b→a:=by intro e0 e1 e2 h;simp(disch:=first | omega | (simp only[Lx];omega))only[go_sem,simprocAttr,e0,e1,e2];exact h):a:=h e0 e1 e2 k
theorem fM {E0 E1 E2:Prop} {a b:Prop} (e0:E0) (e1:E1) (e2:E2) (k:b) (h:E0→E1→E2→b→a:=by intro e0 e1 e2 h;(repeat(first | (with_reducible refine eY ?_) | (with_reducible refine eW ?_) | (with_reducible refine eX ?_))<;>simp(disch:=first | omega | (simp only[Lx];omega))only[go_sem,simprocAttr,e0,e1,e2]);exact h):a:=h e0 e1 e2 k
theorem asT {E0 E1 E2 E3:Prop} {p:Prop} (e0:E0) (e1:E1) (e2:E2) (e3:E3) (h:E0→E1→E2→E3→p:=by intro e0 e1 e2 e3;simp(disch:=first | omega | (simp only[Lx];omega))only[go_sem,simprocAttr,e0,e1,e2,e3]):p:=h e0 e1 e2 e3
theorem ea {E0 E1 E2 E3:Prop} {a b:Prop} (e0:E0) (e1:E1) (e2:E2) (e3:E3) (k:b) (h:E0→E1→E2→E3→b→a:=by intro e0 e1 e2 e3 h;simp(disch:=first | omega | (simp only[Lx];omega))only[go_sem,simprocAttr,e0,e1,e2,e3];exact h):a:=h e0 e1 e2 e3 k
theorem lv {E0 E1 E2 E3:Prop} {a b:Prop} (e0:E0) (e1:E1) (e2:E2) (e3:E3) (k:b) (h:E0→E1→E2→E3→b→a:=by intro e0 e1 e2 e3 h;(repeat(first | (with_reducible refine eY ?_) | (with_reducible refine eW ?_) | (with_reducible refine eX ?_))<;>simp(disch:=first | omega | (simp only[Lx];omega))only[go_sem,simprocAttr,e0,e1,e2,e3]);exact h):a:=h e0 e1 e2 e3 k
theorem cO {E0 E1 E2 E3 E4:Prop} {a b:Prop} (e0:E0) (e1:E1) (e2:E2) (e3:E3) (e4:E4) (k:b) (h:E0→E1→E2→E3→E4→b→a:=by intro e0 e1 e2 e3 e4 h;simp(disch:=first | omega | (simp only[Lx];omega))only[go_sem,simprocAttr,e0,e1,e2,e3,e4];exact h):a:=h e0 e1 e2 e3 e4 k
theorem my {E0 E1 E2 E3 E4:Prop} {a b:Prop} (e0:E0) (e1:E1) (e2:E2) (e3:E3) (e4:E4) (k:b) (h:E0→E1→E2→E3→E4→b→a:=by intro e0 e1 e2 e3 e4 h;(repeat(first | (with_reducible refine eY ?_) | (with_reducible refine eW ?_) | (with_reducible refine eX ?_))<;>simp(disch:=first | omega | (simp only[Lx];omega))only[go_sem,simprocAttr,e0,e1,e2,e3,e4]);exact h):a:=h e0 e1 e2 e3 e4 k
theorem qw {E0 E1 E2 E3 E4 E5:Prop} {a b:Prop} (e0:E0) (e1:E1) (e2:E2) (e3:E3) (e4:E4) (e5:E5) (k:b) (h:E0→E1→E2→E3→E4→E5→b→a:=by intro e0 e1 e2 e3 e4 e5 h;simp(disch:=first | omega | (simp only[Lx];omega))only[go_sem,simprocAttr,e0,e1,e2,e3,e4,e5];exact h):a:=h e0 e1 e2 e3 e4 e5 k
inductive qz:AV→AV→Prop where
 | refl (a:AV):qz a a
 | nil (sz:Nat):qz .al (.ro sz [])
theorem RV.JX {X:Nat→Prop} {w:World} {ρ:Loc} {v:Value} {a b:AV} (h:RV X w ρ v a) (k:qz a b):RV X w ρ v b:=by
 cases k with
 | refl=>exact h
 | nil sz=>cases h;exact .ro ρ none 0 sz [] [] (Nat.le_refl _) (fun e he=>by cases he) rfl (fun j hj=>by simp at hj) (fun j v a h1 _=>by simp at h1)
def uu:AE→Bool
 | .t _=>true
 | .c v=>flA v
theorem CR {P:Program} {q:Bool} {st st':St} {f:Nat} {args:List AE} {K:AV→St→Prop} (hw:Wk st st') (hc:args.all uu=true) (h:eG P q st' f args K):eG P q st f args K:=by
 intro E ρ a w vs hr aN hrv
 obtain⟨ρ',hr'⟩:=jW hw hr
 refine h E ρ' a w vs hr' aN (fun j v x e1 e2=>⟨?_,(hrv j v x e1 e2).2⟩)
 obtain⟨g1,g2⟩:=hrv j v x e1 e2
 cases x with
 | t k=>
  obtain⟨g3,g4⟩:=g2 k rfl
  have:=cI hr' (.tmp k)
  simp only[trE,g3,if_true]at this
  rw[g4]
  exact this
 | c c=>
  have:=List.all_eq_true.1 hc _ (List.mem_of_getElem? e2)
  exact RV.flA (show RV _ w ρ v c from g1) this
theorem jx {P:Program} {q:Bool} {st:St} {f:Nat} {args:List AE} {as:List AV} {d:Option Nat} {r:List ROp} {K:KS} (st':St) (hw:Wk st st') (hc:args.all uu=true) (h:gu P q st' f args (evL st' args) d r K):gu P q st f args as d r K:=by
 rintro rfl
 exact CR hw hc (h (lp st' args))
end Go.Proofs.YtlkmppkcbhodaaaGreatDoor.Eng
namespace Go.Proofs.YtlkmppkcbhodaaaGreatDoor.Eng
def iv (P:Program) (f n:Nat) (h:HP) (args:List AV) (Post:HP→AV→List AV→Prop):Prop:=
 ∀(X0:Nat→Prop) (ρ:Loc) (w:World) (vs:Array Value),dP X0 ρ h w→jv (bE ρ h) w→(∀b,X0 b→b<w.heap.size)→vs.size=args.length →
  (∀(j:Nat) v x,vs[j]?=some v→args[j]?=some x→RV (XX X0 ρ h) w ρ v x) →
  Calls P f (vs.extract 0 n) w fun e w'=>∃v h' r ρ' as,e=.returned v∧Post h' r as∧dP X0 ρ' h' w'∧RV (XX X0 ρ' h') w' ρ' v r ∧
   as.length=args.length∧(∀(j:Nat) v x,vs[j]?=some v→as[j]?=some x→RV (XX X0 ρ' h') w' ρ' v x) ∧
   w'.os=w.os∧w'.tape=w.tape∧w'.output=w.output∧w.heap.size≤w'.heap.size∧(∀b,b<w.heap.size→¬bE ρ h b→w'.heap[b]?=w.heap[b]?) ∧
   (∀b,bE ρ' h' b→w.heap.size≤b∨bE ρ h b)
def qh (n:Nat) (args:List AV):List (Nat×AV):=numbered 0 (args.take n)++numbered 2000000 args
theorem aqC {P:Program} {f:Nat} {fn:Func} {body:Code} {h:HP} {args:List AV} {Post:HP→AV→List AV→Prop} {c:AC} (hf:P.funcs[f]?=some fn) (hb:fn.body=some body) {B n:Nat} (hc:trCode P fn.ntmps B body=c)
    (hN:fn.ntmps≤1000000) (hn:n≤args.length) (ha:n≤fn.ntmps) (hp:∀E:Env,E.N=fn.ntmps→E.B=B→E.rd=none→b5 P E c ⟨qh n args,h⟩ (postQ (fn.results.toList.map (trRes P)) args.length Post)):iv P f n h args Post:=by
 intro X0 ρ w vs hh hA hX hvs hrv
 let E:Env:=⟨w,bE ρ h,X0,fn.ntmps,B,fun k=>vs.getD (k-2000000) undef,none,w.heap.size,Nat.le_refl _,[]⟩
 refine(callsIn_wide (n:=0)).1 (callsIn_of_wp_marks hf hb trivial (wpIn_mono (hp E rfl rfl rfl 0 body hc _ w ⟨ρ,?_⟩) ?_))
 ·have hex:∀k,k<n→(vs.extract 0 n)[k]?=vs[k]?:=fun k hk=>by
   rw[Array.getElem?_extract];simp;omega
  refine⟨fH.nil _ _,by simp[E];omega,fun k av hk=>?_,hh,fun id W L b h1 h2 h3=>.inr ⟨id,W,L,h1,h2,h3⟩,⟨rfl,rfl,rfl,Nat.le_refl _,fun _ _ _=>rfl,hA⟩,hX⟩
  simp only[qh,kL]at hk
  cases h0:sget (numbered 0 (args.take n)) k with
  | some av0=>
   rw[h0]at hk
   obtain rfl:=Option.some.inj hk
   obtain⟨_,h2⟩:=kM (args.take n) 0 k _ h0
   have hlt:k<n:=by
    have:=(List.getElem?_eq_some_iff.1 h2).1
    simp at this;omega
   have h2:args[k]?=some av0:=by
    rw[Nat.sub_zero,List.getElem?_take_of_lt hlt]at h2;exact h2
   have hlt2:k<E.N:=by simp only[E];omega
   refine⟨.inl hlt2,?_⟩
   have hv:vs[k]?=some (vs[k]'(by omega)):=Array.getElem?_eq_getElem _
   unfold bU
   rw[if_pos hlt2,Array.getD_eq_getD_getElem?,Array.getElem?_append_left (by simp;omega),hex k hlt,hv]
   exact hrv k _ _ hv h2
  | none=>
   rw[h0]at hk
   obtain⟨h1,h2⟩:=kM args 2000000 k av hk
   have hlt:k-2000000<args.length:=(List.getElem?_eq_some_iff.1 h2).1
   refine⟨.inr h1,?_⟩
   have hv:vs[k-2000000]?=some (vs[k-2000000]'(by omega)):=Array.getElem?_eq_getElem _
   unfold bU
   rw[if_neg (by simp only[E];omega)]
   simp only[E,Array.getD_eq_getD_getElem?,hv]
   exact hrv _ _ av hv h2
 ·rintro e a' w' ⟨st',⟨ρ',g0⟩,q⟩
  have fin:∀r,resOf st' (fn.results.toList.map (trRes P))=some r→Post st'.h r (argsAgain st' 0 args.length)→bodyPostM Fence.wide 0 P fn (fun e w'=>∃v h' r ρ' as,e=.returned v∧Post h' r as∧dP X0 ρ' h' w'∧RV (XX X0 ρ' h') w' ρ' v r ∧
   as.length=args.length∧(∀(j:Nat) v x,vs[j]?=some v→as[j]?=some x→RV (XX X0 ρ' h') w' ρ' v x) ∧
   w'.os=w.os∧w'.tape=w.tape∧w'.output=w.output∧w.heap.size≤w'.heap.size∧(∀b,b<w.heap.size→¬bE ρ h b→w'.heap[b]?=w.heap[b]?) ∧
   (∀b,bE ρ' h' b→w.heap.size≤b∨bE ρ h b)) .ret a' w':=by
   intro r hr hP
   obtain⟨⟨Ds,hDs⟩,_⟩:=g0.defers
   show LeavesInM Fence.wide 0 P fn a'.tmps _ a'.defers .returning w'
   rw[hDs]
   refine ss (E:=E) (ρ:=ρ') (st:=st') (a:=a') (by simp) (fun w' g=>?_) rfl rfl Ds w' (by rw[←hDs];exact g0)
   obtain⟨v,g1,g2⟩:=AA (P:=P) g hr
   refine⟨v,g1,v,st'.h,r,ρ',_,rfl,hP,g.heap,g2,qT _ _ _,fun j v x e1 e2=>?_,g.aC.os,g.aC.tape,g.aC.output,g.aC.size,g.aC.block,fun b ⟨id,W,L,h1,h2,h3⟩=>g.base id W L b h1 h2 h3⟩
   have:=qS st' _ _ j x e2
   rw[Nat.zero_add]at this
   cases hs:sget st'.s (2000000+j)with
   | none=>rw[hs]at this;subst this;exact .undef _ _
   | some av=>
    rw[hs]at this
    obtain rfl:x=av:=this
    have hr2:=(g.bt _ _ hs).2
    unfold bU at hr2
    rw[if_neg (by simp only[E];omega)]at hr2
    simp only[E,Nat.add_sub_cancel_left,Array.getD_eq_getD_getElem?,e1]at hr2
    exact hr2
  cases e with
  | normal=>obtain⟨r,hr,hP⟩:=q;exact fin r hr hP
  | ret=>obtain⟨r,hr,hP⟩:=q;exact fin r hr hP
  | exit id=>exact q.elim
  | goto l=>exact q.elim
  | panic ch=>exact q.elim
  | outgrown=>exact q.elim
theorem aqD {P:Program} {f n:Nat} {h:HP} {args:List AV} {Post:HP→AV→List AV→Prop}
    (hs:iv P f n h args (fun h' r as=>∃h2 r2 as2,as2.length=as.length∧Wk ⟨(0,r)::numbered 1 as,h'⟩ ⟨(0,r2)::numbered 1 as2,h2⟩∧Post h2 r2 as2)):iv P f n h args Post:=by
 intro X0 ρ w vs h1 hA h2 h3 h4
 refine(hs X0 ρ w vs h1 hA h2 h3 h4).mono ?_
 rintro e w' ⟨v,h',r,ρ',as,rfl,⟨h2',r2,as2,hlen,hwk,hP⟩,g3,g4,g5,g6,g7,g8,g9,g10,g11,g12⟩
 let E:Env:=⟨w',fun b=>w.heap.size≤b∨bE ρ h b,X0,vs.size+1,0,fun _=>undef,none,0,Nat.zero_le _,[]⟩
 let a:Act:={tmps:=#[v]++vs,defers:=[]}
 have hsv:∀j,j<vs.size→bU E a (1+j)=vs.getD j undef:=by
  intro j hj
  unfold bU
  rw[if_pos (show 1+j<vs.size+1 by omega)]
  simp only[a,Array.getD_eq_getD_getElem?]
  rw[Array.getElem?_append_right (by simp)]
  simp
 have hr:aq E ρ' ⟨(0,r)::numbered 1 as,h'⟩ a w':=by
  refine⟨fH.nil _ _,by simp[a,E];omega,fun k av hk=>?_,g3,fun id W L b e1 e2 e3=>.inr (g12 b ⟨id,W,L,e1,e2,e3⟩),⟨rfl,rfl,rfl,Nat.le_refl _,fun _ _ _=>rfl,hA.1.stays (fun b _ _ _ hb _=>g11 b (hA.1.lt hb) (hA.2 b hb)),fun b hb hx=>hx.elim (fun g=>by have:=hA.1.lt hb;omega) (hA.2 b hb)⟩,fun b hb=>Nat.lt_of_lt_of_le (h2 b hb) g10⟩
  simp only[sget]at hk
  split at hk
  ·rename_i e;subst e
   obtain rfl:=Option.some.inj hk
   refine⟨.inl (show 0<vs.size+1 by omega),?_⟩
   have:bU E a 0=v:=by
    unfold bU
    rw[if_pos (show 0<vs.size+1 by omega)]
    simp only[a];exact o0 v vs
   rw[this];exact g4
  ·obtain⟨e1,e2⟩:=kM as 1 k av hk
   have hlt:=(List.getElem?_eq_some_iff.1 e2).1
   obtain⟨j,rfl⟩:∃j,k=1+j:=⟨k-1,by omega⟩
   have hj:j<vs.size:=by omega
   refine⟨.inl (show 1+j<vs.size+1 by omega),?_⟩
   rw[hsv j hj]
   have hv:vs[j]?=some (vs.getD j undef):=by rw[Array.getD_eq_getD_getElem?,Array.getElem?_eq_getElem hj];rfl
   exact g6 j _ av hv (by rw[Nat.add_sub_cancel_left]at e2;exact e2)
 obtain⟨ρ2,hr2⟩:=jW hwk hr
 refine⟨v,h2',r2,ρ2,as2,rfl,hP,hr2.heap,?_,by omega,fun j u x e1 e2=>?_,g7,g8,g9,g10,g11,fun b ⟨id,W,L,e1,e2,e3⟩=>?_⟩
 ·have:=(hr2.bt 0 r2 (by simp[sget])).2
  have e:bU E a 0=v:=by
   unfold bU
   rw[if_pos (show 0<vs.size+1 by omega)]
   simp only[a];exact o0 v vs
  rw[e]at this;exact this
 ·have hj:=(Array.getElem?_eq_some_iff.1 e1).1
  have hs2:sget ((0,r2)::numbered 1 as2) (1+j)=some x:=by
   simp only[sget]
   rw[if_neg (by omega)]
   exact mZ as2 1 j x e2
  have:=(hr2.bt (1+j) x hs2).2
  rw[hsv j hj,Array.getD_eq_getD_getElem?,e1]at this
  exact this
 ·rcases hr2.base id W L b e1 e2 e3 with g | g
  ·exact .inl (Nat.le_trans g10 g)
  ·exact g
def fltB (b:Bool) (k:Nat) (v:AV) (r:List (Nat×AV)):List (Nat×AV):=
 match b with
 | true=>(k,v)::r
 | false=>r
def fltO (o:Option AV) (k:Nat) (r:List (Nat×AV)):List (Nat×AV):=
 match o with
 | some v=>fltB (flA v) k v r
 | none=>r
def fltS (s0:List (Nat×AV)):List (Nat×AV)→List (Nat×AV)
 | []=>[]
 | (k,_)::r=>fltO (sget s0 k) k (fltS s0 r)
def getL (s:List (Nat×AV)):List Nat→List AV
 | []=>[]
 | k::r=>(sget s k).getD .undef::getL s r
def zipS:List Nat→List AV→List (Nat×AV)
 | k::ks,v::vs=>(k,v)::zipS ks vs
 | _,_=>[]
theorem wY (s:List (Nat×AV)):∀ks,(getL s ks).length=ks.length
 | []=>rfl
 | k::r=>by simp[getL,wY s r]
theorem wX (s:List (Nat×AV)):∀(ks:List Nat) (j k:Nat),ks[j]?=some k→(getL s ks)[j]?=some ((sget s k).getD .undef)
 | [],j,k,h=>by simp at h
 | q::r,0,k,h=>by simp at h;subst h;rfl
 | q::r,j+1,k,h=>by simpa[getL]using wX s r j k (by simpa using h)
theorem Cz:∀{ks:List Nat} {vs:List AV} {k:Nat} {v:AV},sget (zipS ks vs) k=some v→∃j:Nat,ks[j]?=some k∧vs[j]?=some v
 | [],vs,k,v,h=>by simp[zipS,sget]at h
 | q::ks,[],k,v,h=>by simp[zipS,sget]at h
 | q::ks,u::vs,k,v,h=>by
  simp only[zipS,sget]at h
  split at h
  ·rename_i e
   obtain rfl:=Option.some.inj h
   exact⟨0,by rw[e];rfl,rfl⟩
  ·obtain⟨j,h1,h2⟩:=Cz h
   exact⟨j+1,by simpa using h1,by simpa using h2⟩
theorem oT {s0:List (Nat×AV)}:∀{s:List (Nat×AV)} {k:Nat} {v:AV},sget (fltS s0 s) k=some v→sget s0 k=some v∧flA v=true
 | [],k,v,h=>by simp[fltS,sget]at h
 | (q,u)::s,k,v,h=>by
  unfold fltS at h
  cases hq:sget s0 q with
  | none=>rw[hq]at h;exact oT (s:=s) h
  | some x=>
   rw[hq]at h
   simp only[fltO]at h
   cases hu:flA x with
   | true=>
    rw[hu]at h
    simp only[fltB,sget]at h
    split at h
    ·rename_i e
     subst e
     obtain rfl:=Option.some.inj h
     exact⟨hq,hu⟩
    ·exact oT h
   | false=>
    rw[hu]at h
    exact oT (s:=s) h
def mc (st:St) (ks:List Nat) (h':HP) (gs:List AV):St:=⟨zipS ks gs++fltS st.s st.s,h'⟩
theorem CM {P:Program} {st:St} {f:Nat} {args:List AE} {K:AV→St→Prop} {Post:HP→AV→List AV→Prop} (ks:List Nat) (hks:ks.all (fun k=>(sget st.s k).isSome)=true)
    (hs:iv P f args.length st.h (args.map (ev st)++getL st.s ks) Post)
    (hK:∀h' r as,Post h' r as→K r (mc st ks h' (as.drop args.length))):eG P false st f args K:=by
 intro E ρ a w vs h hvs hrv
 let us:Array Value:=(ks.map (bU E a)).toArray
 have hus:us.size=ks.length:=by simp[us]
 have hex:(vs++us).extract 0 args.length=vs:=by
  rw[←hvs];simp
 have:=hs E.X0 ρ w (vs++us) h.heap h.cR h.x0 (by simp[hvs,hus,wY]) (fun j v x e1 e2=>?_)
 ·rw[hex]at this
  refine this.mono ?_
  rintro e w' ⟨v,h',r,ρ',as,rfl,hP,hH,hr,hal,has,q1,q2,q3,q4,q5,q6⟩
  refine⟨v,ρ',mc st ks h' (as.drop args.length),r,rfl,⟨h.defers.turn (fun b hb=>q5 b (Array.getElem?_eq_some_iff.1 hb).1 (fun hx=>jK h.heap hb hx)),h.size,fun k av hk=>?_,hH,fun id W L b e1 e2 e3=>?_,?_,fun b hb=>Nat.lt_of_lt_of_le (h.x0 b hb) q4⟩,hr,hK h' r as hP,fun hq=>by cases hq⟩
  ·simp only[mc,kL]at hk
   cases hz:sget (zipS ks (as.drop args.length)) k with
   | some av1=>
    rw[hz]at hk
    obtain rfl:av1=av:=Option.some.inj hk
    obtain⟨j,g1,g2⟩:=Cz hz
    have hk1:=List.all_eq_true.1 hks k (List.mem_of_getElem? g1)
    obtain⟨av0,hav0⟩:=Option.isSome_iff_exists.1 hk1
    refine⟨(h.bt k av0 hav0).1,?_⟩
    rw[List.getElem?_drop]at g2
    refine has (args.length+j) (bU E a k) av1 ?_ g2
    rw[Array.getElem?_append_right (by omega),hvs,Nat.add_sub_cancel_left]
    simp[us,g1]
   | none=>
    rw[hz,Option.none_or]at hk
    obtain⟨g1,g2⟩:=oT hk
    exact⟨(h.bt k av g1).1,(h.bt k av g1).2.flA g2⟩
  ·rcases q6 b ⟨id,W,L,e1,e2,e3⟩with g | ⟨id',W',L',f1,f2,f3⟩
   ·exact .inl (Nat.le_trans h.aC.size g)
   ·exact h.base id' W' L' b f1 f2 f3
  ·refine⟨q1.trans h.aC.os,q2.trans h.aC.tape,q3.trans h.aC.output,Nat.le_trans h.aC.size q4,fun b hb hF=>(q5 b (Nat.lt_of_lt_of_le hb h.aC.size) ?_).trans (h.aC.block b hb hF),h.aC.cR⟩
   rintro⟨id',W',L',f1,f2,f3⟩
   rcases h.base id' W' L' b f1 f2 f3 with g | g
   ·omega
   ·exact hF g
 ·by_cases hj:j<args.length
  ·rw[Array.getElem?_append_left (by omega)]at e1
   rw[List.getElem?_append_left (by simpa using hj),List.getElem?_map]at e2
   obtain⟨y,g1,rfl⟩:=Option.map_eq_some_iff.1 e2
   exact(hrv j v y e1 g1).1
  ·rw[Array.getElem?_append_right (by omega),hvs]at e1
   rw[List.getElem?_append_right (by simpa using hj),List.length_map]at e2
   simp only[us,List.getElem?_toArray,List.getElem?_map]at e1
   obtain⟨k,g1,rfl⟩:=Option.map_eq_some_iff.1 e1
   rw[wX _ _ _ _ g1]at e2
   obtain rfl:=Option.some.inj e2
   obtain⟨av0,hav0⟩:=Option.isSome_iff_exists.1 (List.all_eq_true.1 hks k (List.mem_of_getElem? g1))
   rw[hav0]
   exact(h.bt k av0 hav0).2
section
variable {P:Program} {st:St} {f n:Nat} {args:List AE} {as bs:List AV} {d:Option Nat} {r:List ROp} {K:KS} {Post:HP→AV→List AV→Prop}
theorem vn (ks:List Nat) (hks:ks.all (fun k=>(sget st.s k).isSome)=true) (hb:as++getL st.s ks=bs) (hn:args.length=n) (hs:iv P f n st.h bs Post)
    (h:∀h' v as',Post h' v as'→aopsW P r (put (mc st ks h' (as'.drop n)) d v) K):gu P false st f args as d r K:=by
 rintro rfl
 subst hb
 subst hn
 exact CM ks hks hs h
end
theorem Li (s0:List (Nat×AV)):fltS s0 []=[]:=(rfl)
theorem Lh (s0:List (Nat×AV)) (k:Nat) (v:AV) (r:List (Nat×AV)):fltS s0 ((k,v)::r)=fltO (sget s0 k) k (fltS s0 r):=(rfl)
theorem Lg (v:AV) (k:Nat) (r:List (Nat×AV)):fltO (some v) k r=fltB (flA v) k v r:=(rfl)
theorem Lf (v:AV) (k:Nat) (r:List (Nat×AV)):fltB true k v r=(k,v)::r:=(rfl)
theorem Le (v:AV) (k:Nat) (r:List (Nat×AV)):fltB false k v r=r:=(rfl)
theorem Mh (s:List (Nat×AV)):getL s []=[]:=(rfl)
theorem Mg (s:List (Nat×AV)) (k:Nat) (r:List Nat):getL s (k::r)=(sget s k).getD .undef::getL s r:=(rfl)
theorem auS (vs:List AV):zipS [] vs=[]:=(rfl)
theorem auR (k:Nat) (ks:List Nat) (v:AV) (vs:List AV):zipS (k::ks) (v::vs)=(k,v)::zipS ks vs:=(rfl)
theorem Dp (st:St) (ks:List Nat) (h':HP) (gs:List AV):mc st ks h' gs=⟨zipS ks gs++fltS st.s st.s,h'⟩:=(rfl)
attribute [go_sem] Li Lh Lg Lf Le Mh Mg auS auR Dp
end Go.Proofs.YtlkmppkcbhodaaaGreatDoor.Eng
namespace Go.Proofs.YtlkmppkcbhodaaaGreatDoor.Eng
namespace Kz
abbrev ci (n:Int):AE:=.c (.int .i64 n)
abbrev m (d k:Nat):ROp:=.v d (.ah (.t k))
abbrev k (d:Nat) (x:AE):ROp:=.v d (.ah x)
abbrev b (d:Nat) (op:BinOp) (x y:Nat):ROp:=.v d (.bin op (.t x) (.t y))
abbrev bi (d:Nat) (op:BinOp) (x:Nat) (n:Int):ROp:=.v d (.bin op (.t x) (ci n))
abbrev u (id d:Nat) (o:AO):ROp:=.val d true id o
end Kz
section
variable {P:Program} {E:Env} {st:St} {Q:KQ}
theorem ata {pre post:List ROp} {o:ROp} {ks:List Nat}:vcW P E (.hV pre o post ks) Q st=aopsW P pre st (KS.vW P o post ks Q):=(rfl)
theorem as1 {p x y:List ROp} {ks:List Nat}:vcW P E (.alt p x y ks) Q st=aopsW P p st (KS.alt P x y ks Q):=(rfl)
theorem as3 {T:RT} {ks:List Nat}:vcW P E (.gb T ks) Q st=hZ P T st (KS.aa ks Q):=(rfl)
theorem atf {ops:List ROp} {d f bk p q0:Nat} {x:AE} {c:UInt8} {body:AK}:vcW P E (.split ops d f x c bk p q0 body) Q st=aopsW P ops st (KS.BH P E d f x c bk p q0 body Q):=(rfl)
end
attribute [go_sem] atd as9 as5 as4 ata as1 atf as3 anB anC XD
def fnChk (P:Program) (fn:Func) (B p:Nat):Option (AC×List RVar):=
 match fn.body with
 | some b=>bif Nat.ble fn.ntmps 1000000&&Nat.ble p fn.ntmps then some (trCode P fn.ntmps B b,fn.results.toList.map (trRes P))else none
 | none=>none
def aB (P:Program) (f B p:Nat) (x:AK) (rs:List RVar):Prop:=∃fn,P.funcs[f]?=some fn∧fnChk P fn B p=some (x.erase B,rs)
theorem aB.out {P:Program} {f B p:Nat} {x:AK} {rs:List RVar} (h:aB P f B p x rs):∃fn body,P.funcs[f]?=some fn∧fn.body=some body∧trCode P fn.ntmps B body=x.erase B∧fn.results.toList.map (trRes P)=rs∧fn.ntmps≤1000000∧p≤fn.ntmps:=by
 obtain⟨fn,h1,h2⟩:=h
 unfold fnChk at h2
 split at h2
 ·rename_i body hb
  cases hc:(Nat.ble fn.ntmps 1000000&&Nat.ble p fn.ntmps)with
  | false=>rw[hc]at h2;cases h2
  | true=>
   rw[hc]at h2
   have h3:=Option.some.inj h2
   injection h3 with h4 h5
   simp only[Bool.and_eq_true,Nat.ble_eq]at hc
   exact⟨fn,body,h1,hb,h4,h5,hc.1,hc.2⟩
 ·cases h2
def aD (P:Program) (x:AK) (rs:List RVar) (p:Nat) (s:List (Nat×AV)) (h:HP) (Post:HP→AV→List AV→Prop):Prop:=
 ∀(E:Env) (R:HP→AV→List AV→Prop),E.N≤1000000→cV Post R→vcW P E x (KQ.post rs p R) ⟨s,h⟩
def qB (P:Program) (x:AK) (rs:List RVar) (p:Nat) (s:List (Nat×AV)) (h:HP) (Post:HP→AV→List AV→Prop):Prop:=
 ∀(E:Env) (R:HP→AV→List AV→Prop),E.N≤1000000→E.rd=none→cV Post R→vcW P E x (KQ.post rs p R) ⟨s,h⟩
section
variable {P:Program} {f B p:Nat} {x:AK} {rs:List RVar} {h:HP} {args:List AV} {Post:HP→AV→List AV→Prop}
theorem BF (hf:aB P f B p x rs) (hl:args.length=p) (s:List (Nat×AV)) (hs:eM (qi args) s) (hp:qB P x rs p s h Post):Spec P f h args Post:=by
 obtain⟨fn,body,h1,h2,h3,h4,h5,h6⟩:=hf.out
 refine aqI (aqH h1 h2 h3 h5 (by omega) (fun E hE hB hrd=>?_))
 have hN:E.N≤1000000:=by rw[hE];exact h5
 rw[h4,←hB,hl]
 exact uB s hs (fZ hN _ (hp E _ hN hrd wC))
theorem aG (hf:aB P f B p x rs) (hl:args.length=p) (s:List (Nat×AV)) (hs:eM (qi args) s) (hp:aD P x rs p s h Post):Spec P f h args Post:=
 BF hf hl s hs (fun E R h1 _ h2=>hp E R h1 h2)
theorem aqG {n:Nat} (hf:aB P f B n x rs) (hl:n≤args.length) (s:List (Nat×AV)) (hs:eM (qh n args) s) (hp:qB P x rs args.length s h Post):iv P f n h args Post:=by
 obtain⟨fn,body,h1,h2,h3,h4,h5,h6⟩:=hf.out
 refine aqD (aqC h1 h2 h3 h5 hl (by omega) (fun E hE hB hrd=>?_))
 have hN:E.N≤1000000:=by rw[hE];exact h5
 rw[h4,←hB]
 exact uB s hs (fZ hN _ (hp E _ hN hrd wC))
theorem aqF {n:Nat} (hf:aB P f B n x rs) (hl:n≤args.length) (s:List (Nat×AV)) (hs:eM (qh n args) s) (hp:aD P x rs args.length s h Post):iv P f n h args Post:=
 aqG hf hl s hs (fun E R h1 _ h2=>hp E R h1 h2)
end
end Go.Proofs.YtlkmppkcbhodaaaGreatDoor.Eng
namespace Go.Proofs.YtlkmppkcbhodaaaGreatDoor.Eng
def CI (P:Program) (g:Nat) (h:HP) (args:List AV) (V:Value) (h':HP):Prop:=
 ∀(X0:Nat→Prop) (ρ:Loc) (w:World) (vs:Array Value),dP X0 ρ h w→jv (bE ρ h) w→(∀b,X0 b→b<w.heap.size)→vs.size=args.length →
  (∀(j:Nat) v x,vs[j]?=some v→args[j]?=some x→RV (XX X0 ρ h) w ρ v x) →
  CallsDIn Fence.wide 0 P g vs (.panicking (dS V)) w fun e u' w'=>(∃v,e=.returned v)∧u'=.panicking [{v:=V,recovered:=true}]∧∃ρ',dP X0 ρ' h' w' ∧
   (∀(j:Nat) v x,vs[j]?=some v→args[j]?=some x→RV (XX X0 ρ' h') w' ρ' v x) ∧
   w'.os=w.os∧w'.tape=w.tape∧w'.output=w.output∧w.heap.size≤w'.heap.size∧(∀b,b<w.heap.size→¬bE ρ h b→w'.heap[b]?=w.heap[b]?) ∧
   (∀b,bE ρ' h' b→w.heap.size≤b∨bE ρ h b)
def ghL:Nat→Nat→List AE
 | _,0=>[]
 | j,k+1=>.t j::ghL (j+1) k
def Mi (m k:Nat):List AE:=ghL (2000000+m) k
def lx (st:St) (m k:Nat):List AV:=evL st (Mi m k)
def nF (st:St) (m k:Nat) (h0 h':HP):St:=gq st h0 ((lx st m k).map .c) h' (lx st m k)
def w6 (P:Program) (rs:List RVar) (m k g:Nat) (R:HP→AV→List AV→Prop):Exit→St→Prop
 | .normal,st | .ret,st=>∃r,resOf st rs=some r∧R st.h r (argsAgain st 0 m)
 | .panic ch,st=>∃V h0 h',ch=dS V∧CI P g h0 (lx st m k) V h'∧iG h' h'=true∧(∀i W,hget h0 i=some W→hget st.h i=some W) ∧
     ∃r,resOf (nF st m k h0 h') rs=some r∧R (nF st m k h0 h').h r (argsAgain (nF st m k h0 h') 0 m)
 | _,_=>False
def I7 (P:Program) (N B:Nat) (rs:List RVar) (m g d:Nat) (caps:List AE) (c1:AC) (R:HP→AV→List AV→Prop):Exit→St→Prop
 | .normal,st=>∀E':Env,E'.N=N→E'.B=B→E'.rd=none→b5 P E' c1 ⟨numbered (2000000+m) (evL st caps)++(d,.undef)::st.s,st.h⟩ (w6 P rs m caps.length g R)
 | .ret,st=>∃r,resOf st rs=some r∧R st.h r (argsAgain st 0 m)
 | _,_=>False
def nv (P:Program) (E:Env):List AK→KQ→St→Prop
 | [],Q,st=>Q.ap .normal st
 | x::xs,Q,st=>vcW P E x ⟨jn (fun st=>nv P E xs Q st) Q.ap⟩ st
def KQ.sq (P:Program) (E:Env) (xs:List AK) (Q:KQ):KQ:=⟨jn (fun st=>nv P E xs Q st) Q.ap⟩
def KQ.gC (P:Program) (rs:List RVar) (m k g:Nat) (R:HP→AV→List AV→Prop):KQ:=⟨w6 P rs m k g R⟩
def KQ.dC (P:Program) (N B:Nat) (rs:List RVar) (m g d:Nat) (caps:List AE) (y:AK) (R:HP→AV→List AV→Prop):KQ:=⟨I7 P N B rs m g d caps (y.erase B) R⟩
section
variable {P:Program} {E:Env} {st:St} {Q:KQ} {rs:List RVar} {m k g d N B:Nat} {caps:List AE} {y:AK} {R:HP→AV→List AV→Prop}
theorem as0:nv P E [] Q st=Q.ap .normal st:=(rfl)
theorem asZ {x:AK} {xs:List AK}:nv P E (x::xs) Q st=vcW P E x (KQ.sq P E xs Q) st:=(rfl)
theorem Xu {xs:List AK}:(KQ.sq P E xs Q).ap .normal st=nv P E xs Q st:=(rfl)
theorem Xv {xs:List AK}:(KQ.sq P E xs Q).ap .ret st=Q.ap .ret st:=(rfl)
theorem Xw {xs:List AK} {i:Nat}:(KQ.sq P E xs Q).ap (.exit i) st=Q.ap (.exit i) st:=(rfl)
theorem WW:(KQ.gC P rs m k g R).ap .ret st=(KQ.post rs m R).ap .ret st:=(rfl)
theorem WV:(KQ.gC P rs m k g R).ap .normal st=(KQ.post rs m R).ap .ret st:=(rfl)
theorem WT:(KQ.dC P N B rs m g d caps y R).ap .ret st=(KQ.post rs m R).ap .ret st:=(rfl)
theorem Mk:lx st m k=evL st (ghL (2000000+m) k):=(rfl)
theorem Dk {h0 h':HP}:nF st m k h0 h'=gq st h0 ((lx st m k).map .c) h' (lx st m k):=(rfl)
end
theorem Mj:(∀j,ghL j 0=[])∧(∀j k,ghL j (k+1)=.t j::ghL (j+1) k):=⟨fun _=>rfl,fun _ _=>rfl⟩
attribute [go_sem] as0 asZ Xu Xv Xw WW WV WT Mk Dk Mj
open Go Go.Sem
def wo (J:Nat→Act→World→Prop) (Q:Exit→Act→World→Prop):Exit→Act→World→Prop
 | .goto l,a,w=>J l a w
 | e,a,w=>Q e a w
theorem aua {F:Fence} {n:Nat} {P:Program} {a:Act} {w:World} {Q:Exit→Act→World→Prop} {c:Code} (J:Nat→Nat→Act→World→Prop)
    (first:c.wpIn F n P (wo (fun l a w=>∃m,J m l a w) Q) a w)
    (pass:∀m l a w,J m l a w→∃rest,findLabel c l=some rest∧rest.wpIn F n P (wo (fun l a w=>∃m',m'<m∧J m' l a w) Q) a w):(Code.scope c).wpIn F n P Q a w:=by
 intro b k cs hro hb hr
 have h0:(lone (b.atR a (.code (.scope c)::k)) cs w).fenced P F:=fenced_calm hb hr rfl
 have fin:∀{m:Machine} (e:Exit) (a₁:Act) (w₁:World),Q e a₁ w₁→(∀l',e≠.goto l')→ArrivesIn (Machine.fenced P F) P m b (.inScope c::k) cs e a₁ w₁ →
     ∃e a' w',Q e a' w'∧ArrivesIn (Machine.fenced P F) P m b k cs e a' w':=by
  intro m e a₁ w₁ hq' hne harr
  cases e with
  | normal=>exact⟨.normal,a₁,w₁,hq',StepsIn.trans harr (.one (fenced_calm hb hr rfl) aq6)⟩
  | exit id=>
   have hx:exitTo id (.inScope c::k)=exitTo id k:=by simp[exitTo]
   exact⟨.exit id,a₁,w₁,hq',fun k' hk=>harr.1 k' (by rw[hx];exact hk),fun h1 h2=>harr.2 h1 (by rw[hx];exact h2)⟩
  | goto l'=>exact absurd rfl (hne l')
  | ret=>exact⟨_,a₁,w₁,hq',harr⟩
  | panic ch=>exact⟨_,a₁,w₁,hq',harr⟩
  | outgrown=>exact⟨_,a₁,w₁,hq',harr⟩
 have all:∀m l a w,J m l a w→∃rest,findLabel c l=some rest∧∃e a' w',Q e a' w'∧ArrivesIn (Machine.fenced P F) P (lone (b.atR a (.code rest::.inScope c::k)) cs w) b k cs e a' w':=by
  intro m
  induction m using Nat.strongRecOn with
  | _ m ih=>
   intro l a w hJ
   obtain⟨rest,hf,hw⟩:=pass m l a w hJ
   refine⟨rest,hf,?_⟩
   obtain⟨e,a₁,w₁,hq,harr⟩:=hw b (.inScope c::k) cs hro hb hr
   by_cases hgo:∃l',e=.goto l'
   ·obtain⟨l',rfl⟩:=hgo
    obtain⟨m',hm,hJ'⟩:=hq
    obtain⟨rest',hf',e₂,a₂,w₂,hq₂,harr₂⟩:=ih m' hm l' a₁ w₁ hJ'
    have hg:gotoIn l' (.inScope c::k)=some (.code rest'::.inScope c::k):=by simp[gotoIn,hf']
    exact⟨e₂,a₂,w₂,hq₂,.of_steps (harr.1 _ hg) harr₂⟩
   ·exact fin e a₁ w₁ (by cases e<;>first | exact hq | exact absurd ⟨_,rfl⟩ hgo) (fun l' h=>hgo ⟨l',h⟩) harr
 obtain⟨e,a₁,w₁,hq,harr⟩:=first b (.inScope c::k) cs hro hb hr
 by_cases hgo:∃l',e=.goto l'
 ·obtain⟨l',rfl⟩:=hgo
  obtain⟨m',hJ'⟩:=hq
  obtain⟨rest',hf',e₂,a₂,w₂,hq₂,harr₂⟩:=all m' l' a₁ w₁ hJ'
  have hg:gotoIn l' (.inScope c::k)=some (.code rest'::.inScope c::k):=by simp[gotoIn,hf']
  exact⟨e₂,a₂,w₂,hq₂,.of_steps (.head h0 BL (harr.1 _ hg)) harr₂⟩
 ·obtain⟨e₃,a₃,w₃,hq₃,harr₃⟩:=fin e a₁ w₁ (by cases e<;>first | exact hq | exact absurd ⟨_,rfl⟩ hgo) (fun l' h=>hgo ⟨l',h⟩) harr
  exact⟨e₃,a₃,w₃,hq₃,.of_steps (.one h0 BL) harr₃⟩
def se (J:Nat→St→Prop) (Q:Exit→St→Prop):Exit→St→Prop
 | .goto l,st=>J l st
 | e,st=>Q e st
theorem EA {P:Program} {E:Env} {st:St} {Q:Exit→St→Prop} {x:AC} (J:Nat→Nat→St→Prop) (first:b5 P E x st (se (fun l st=>∃m,J m l st) Q))
    (pass:∀m l st,J m l st→∃y,findA x l=some y∧b5 P E y st (se (fun l st=>∃m',m'<m∧J m' l st) Q)):b5 P E (.scope x) st Q:=by
 intro n code hc a w hr
 cases code<;>simp only[trCode]at hc<;>first | (cases hc;done) | (exact Bool.noConfusion (show false=true from fX hc)) | (split at hc<;>cases hc;done) | skip
 rename_i c
 injection hc with h1
 subst h1
 refine aua (fun m l a w=>∃st,Rel E st a w∧J m l st) (wpIn_mono (first n c rfl a w hr) ?_) ?_
 ·rintro e a' w' ⟨st',g1,g2⟩
  cases e with
  | goto l'=>obtain⟨m,h⟩:=g2;exact⟨m,st',g1,h⟩
  | normal=>exact⟨st',g1,g2⟩
  | exit id=>exact⟨st',g1,g2⟩
  | ret=>exact⟨st',g1,g2⟩
  | panic ch=>exact⟨st',g1,g2⟩
  | outgrown=>exact⟨st',g1,g2⟩
 ·rintro m l a w ⟨st',g1,g2⟩
  obtain⟨y,hf,hy⟩:=pass m l st' g2
  rw[rF]at hf
  obtain⟨rest,hfl,rfl⟩:=Option.map_eq_some_iff.1 hf
  refine⟨rest,hfl,wpIn_mono (hy n rest rfl a w g1) ?_⟩
  rintro e a' w' ⟨st',g1,g2⟩
  cases e with
  | goto l'=>obtain⟨m',hm,h⟩:=g2;exact⟨m',hm,st',g1,h⟩
  | normal=>exact⟨st',g1,g2⟩
  | exit id=>exact⟨st',g1,g2⟩
  | ret=>exact⟨st',g1,g2⟩
  | panic ch=>exact⟨st',g1,g2⟩
  | outgrown=>exact⟨st',g1,g2⟩
def KQ.ja (R:Nat→KS) (Q:KQ):KQ:=⟨se (fun l=>(R l).ap) Q.ap⟩
theorem Xx (R:Nat→KS) (Q:KQ) (st:St):(∀l,(KQ.ja R Q).ap (.goto l) st=(R l).ap st)∧(KQ.ja R Q).ap .normal st=Q.ap .normal st∧(∀i,(KQ.ja R Q).ap (.exit i) st=Q.ap (.exit i) st)∧(KQ.ja R Q).ap .ret st=Q.ap .ret st∧(∀ch,(KQ.ja R Q).ap (.panic ch) st=Q.ap (.panic ch) st):=
 ⟨fun _=>rfl,rfl,fun _=>rfl,rfl,fun _=>rfl⟩
theorem atc {P:Program} {E:Env} {x:AK} {Q:KQ} {st:St} {α:Type} (hN:E.N≤1000000) (f:Nat→α→St) (inv:Nat→α→Prop) (ms:Nat→α→Nat)
    (h1:∀R:Nat→KS,(∀l a st',inv l a→Wk st' (f l a)→(R l).ap st')→vcW P E x (KQ.ja R Q) st)
    (h2:∀l a,inv l a→∃y,findK x l=some y∧∀R:Nat→KS,(∀l' a' st',ms l' a'<ms l a→inv l' a'→Wk st' (f l' a')→(R l').ap st')→vcW P E y (KQ.ja R Q) (f l a)):vcW P E (.scope x) Q st:=by
 show b5 P E (.scope (x.erase E.B)) st Q.ap
 refine EA (fun m l s=>∃a,inv l a∧ms l a=m∧Wk s (f l a)) (fZ hN x (h1 (fun l=>⟨fun s=>∃m a,inv l a∧ms l a=m∧Wk s (f l a)⟩) (fun l a st' g1 g2=>⟨_,a,g1,rfl,g2⟩))) ?_
 rintro m l s ⟨a,g1,rfl,g2⟩
 obtain⟨y,hy,hv⟩:=h2 l a g1
 refine⟨y.erase E.B,by rw[oI,hy];rfl,nM g2 (fZ hN y (hv (fun l'=>⟨fun s=>∃m',m'<ms l a∧∃a',inv l' a'∧ms l' a'=m'∧Wk s (f l' a')⟩) (fun l' a' st' k1 k2 k3=>⟨_,k1,a',k2,rfl,k3⟩)))⟩
attribute [go_sem] Xx
end Go.Proofs.YtlkmppkcbhodaaaGreatDoor.Eng
