/- The proof, part 10 of 42. -/
import Derived.Test.YtoalcafkffmiiaaGreatDoorOdbKindsG
import Derived.Test.YtoalcafkffmiiaaGreatDoorOdbKindsH
import Derived.Test.YtoalcafkffmiiaaGreatDoorOdbKindsI
import Derived.Below
set_option linter.all false
namespace Go.Proofs.YtoalcafkffmiiaaGreatDoor.Eng
structure KS where
 ap:St→Prop
structure KQ where
 ap:Exit→St→Prop
inductive ROp where
 | v (d:Nat) (o:AO)
 | val (d:Nat) (q:Bool) (id:Nat) (o:AO)
 | eff (d:Nat) (q:Bool) (id:Nat) (o:AO)
 | an (q:Bool) (id:Nat) (o:AO)
 | ao (d:Option Nat) (q:Bool) (id:Nat) (f:Nat) (args:List AE)
 | dyn (d:Option Nat) (q:Bool) (id:Nat) (x:AE) (args:List AE)
 | af (d:Nat) (j:Nat) (want:Bool) (q:Bool) (id:Nat) (o:AO)
 | iB (d:Nat) (j:Nat) (want:Bool) (q:Bool) (id:Nat) (f:Nat) (args:List AE)
 | pM (d:Option Nat) (j:Nat) (want:Bool) (q:Bool) (id:Nat) (o:AO)
 | l4 (d:Nat) (j:Nat) (want:Bool) (q:Bool) (id:Nat) (x:AE) (args:List AE)
def ROp.er (B:Nat):ROp→bj
 | .v d o=>⟨some d,none,false,B+d,o⟩
 | .val d q id o=>⟨some d,none,q,id,o⟩
 | .eff d q id o=>⟨some d,none,q,id,o⟩
 | .an q id o=>⟨none,none,q,id,o⟩
 | .ao d q id f args=>⟨d,none,q,id,.call f args⟩
 | .dyn d q id x args=>⟨d,none,q,id,.dyn x args⟩
 | .af d j want q id o=>⟨some d,some (j,want),q,id,o⟩
 | .iB d j want q id f args=>⟨some d,some (j,want),q,id,.call f args⟩
 | .pM d j want q id o=>⟨d,some (j,want),q,id,o⟩
 | .l4 d j want q id x args=>⟨some d,some (j,want),q,id,.dyn x args⟩
def evL (st:St):List AE→List AV
 | []=>[]
 | x::r=>ev st x::evL st r
theorem gL (st:St):∀l,evL st l=l.map (ev st)
 | []=>rfl
 | x::r=>by simp[evL,gL st r]
def aopsW (P:Program):List ROp→St→KS→Prop
 | [],st,K=>K.ap st
 | .v d o::r,st,K=>(avalR true st o).To fun v=>aopsW P r (put st (some d) v) K
 | .val d _ _ o::r,st,K=>(avalR true st o).To fun v=>aopsW P r (put st (some d) v) K
 | .eff d _ id o::r,st,K=>(effR id st o).To fun v st'=>aopsW P r (put st' (some d) v) K
 | .an _ id o::r,st,K=>(effR id st o).To fun _ st'=>aopsW P r st' K
 | .ao d q _ f args::r,st,K=>eM P q st f args fun v st'=>aopsW P r (put st' d v) K
 | .dyn d q _ x args::r,st,K=>adyn P q st (ev st x) args fun v st'=>aopsW P r (put st' d v) K
 | .af d j want _ _ o::r,st,K=>match grd (sget st.s j) want with
  | some γ=>(γ=false∧aopsW P r (put st (some d) (.gd false .undef)) K)∨(avalR γ st o).To fun v=>aopsW P r (put st (some d) (.gd γ v)) K
  | none=>False
 | .iB d j want q _ f args::r,st,K=>match grd (sget st.s j) want with
  | some γ=>(γ=false∧aopsW P r (put st (some d) (.gd false .undef)) K)∨(γ=true∧eM P q st f args fun v st'=>aopsW P r (put st' (some d) (.gd true v)) K)∨rH P q γ st f args fun v=>aopsW P r (put st (some d) (.gd γ v)) K
  | none=>False
 | .pM d j want _ id o::r,st,K=>match grd (sget st.s j) want with
  | some γ=>(γ=false∧aopsW P r (put st d (.gd false .undef)) K)∨(γ=true∧(effR id st o).To fun v st'=>aopsW P r (put st' d (.gd true v)) K)
  | none=>False
 | .l4 d j want q _ x args::r,st,K=>match grd (sget st.s j) want with
  | some γ=>(γ=false∧aopsW P r (put st (some d) (.gd false .undef)) K)∨(γ=true∧adyn P q st (ev st x) args fun v st'=>aopsW P r (put st' (some d) (.gd true v)) K)
  | none=>False
def ni (P:Program) (g:Option Bool) (d:Option Nat) (id:Nat) (o:AO) (r:List ROp) (st:St) (K:KS):Prop:=
 match g with
 | some γ=>(γ=false∧aopsW P r (put st d (.gd false .undef)) K)∨(γ=true∧(effR id st o).To fun v st'=>aopsW P r (put st' d (.gd true v)) K)
 | none=>False
def geff2 (P:Program) (x:RS) (d:Option Nat) (r:List ROp) (K:KS):Prop:=
 match x with
 | .ok c v st=>c∧aopsW P r (put st d (.gd true v)) K
 | .fail=>False
def valW (P:Program) (x:Res) (d:Nat) (r:List ROp) (st:St) (K:KS):Prop:=
 match x with
 | .ok c v=>c∧aopsW P r ⟨(d,v)::st.s,st.h⟩ K
 | .fail=>False
def lQ (P:Program) (x:RS) (d:Nat) (r:List ROp) (K:KS):Prop:=
 match x with
 | .ok c v st=>c∧aopsW P r ⟨(d,v)::st.s,st.h⟩ K
 | .fail=>False
def lP (P:Program) (x:RS) (r:List ROp) (K:KS):Prop:=
 match x with
 | .ok c _ st=>c∧aopsW P r st K
 | .fail=>False
def fY (P:Program) (q:Bool) (st:St) (f:Nat) (args:List AE) (as:List AV) (d:Option Nat) (r:List ROp) (K:KS):Prop:=
 as=args.map (ev st)→eM P q st f args fun v st'=>aopsW P r (put st' d v) K
def pS (P:Program) (g:Option Bool) (d:Nat) (o:AO) (r:List ROp) (st:St) (K:KS):Prop:=
 match g with
 | some γ=>(γ=false∧aopsW P r (put st (some d) (.gd false .undef)) K)∨(avalR γ st o).To fun v=>aopsW P r (put st (some d) (.gd γ v)) K
 | none=>False
def pR (P:Program) (γ:Bool) (x:Res) (d:Nat) (r:List ROp) (st:St) (K:KS):Prop:=
 (γ=false∧aopsW P r ⟨(d,.gd false .undef)::st.s,st.h⟩ K)∨match x with
 | .ok c v=>c∧aopsW P r ⟨(d,.gd γ v)::st.s,st.h⟩ K
 | .fail=>False
def kO (P:Program) (γ:Bool) (d:Nat) (o:AO) (r:List ROp) (st:St) (K:KS):Prop:=pR P γ (avalR γ st o) d r st K
def s9 (P:Program) (d:Nat) (o:AO) (r:List ROp) (st:St) (K:KS):Prop:=pR P false (avalR false st o) d r st K
def pK (P:Program) (q:Bool) (g:Option Bool) (st:St) (f:Nat) (args:List AE) (as:List AV) (d:Nat) (r:List ROp) (K:KS):Prop:=
 as=args.map (ev st)→match g with
 | some γ=>(γ=false∧aopsW P r (put st (some d) (.gd false .undef)) K)∨(γ=true∧eM P q st f args fun v st'=>aopsW P r (put st' (some d) (.gd true v)) K)∨rH P q γ st f args fun v=>aopsW P r (put st (some d) (.gd γ v)) K
 | none=>False
def pL (P:Program) (q:Bool) (g:Option Bool) (st:St) (v:AV) (args:List AE) (as:List AV) (d:Nat) (r:List ROp) (K:KS):Prop:=
 as=args.map (ev st)→match g with
 | some γ=>(γ=false∧aopsW P r (put st (some d) (.gd false .undef)) K)∨(γ=true∧adyn P q st v args fun v st'=>aopsW P r (put st' (some d) (.gd true v)) K)
 | none=>False
def r9 (P:Program) (q:Bool) (st:St) (f:Nat) (args:List AE) (as:List AV) (d:Nat) (r:List ROp) (K:KS):Prop:=
 as=args.map (ev st)→eM P q st f args fun v st'=>aopsW P r (put st' (some d) (.gd true v)) K
section
variable {P:Program} {st:St} {K:KS} {r:List ROp} {q:Bool} {id d j:Nat} {o:AO}
theorem ED:aopsW P [] st K=K.ap st:=(rfl)
theorem EF:aopsW P (.val d q id o::r) st K=valW P (avalR true st o) d r st K:=by
 simp only[aopsW,valW];cases avalR true st o<;>rfl
theorem EE:aopsW P (.v d o::r) st K=valW P (avalR true st o) d r st K:=by
 simp only[aopsW,valW];cases avalR true st o<;>rfl
theorem u5 {c:Prop} {v:AV}:valW P (.ok c v) d r st K=(c∧aopsW P r ⟨(d,v)::st.s,st.h⟩ K):=(rfl)
theorem aoa:valW P .fail d r st K=False:=(rfl)
theorem Ex:aopsW P (.eff d q id o::r) st K=lQ P (effR id st o) d r K:=by
 simp only[aopsW,lQ];cases effR id st o<;>rfl
theorem sF {c:Prop} {v:AV}:lQ P (.ok c v st) d r K=(c∧aopsW P r ⟨(d,v)::st.s,st.h⟩ K):=(rfl)
theorem MO:lQ P .fail d r K=False:=(rfl)
theorem Ey:aopsW P (.an q id o::r) st K=lP P (effR id st o) r K:=by
 simp only[aopsW,lP];cases effR id st o<;>rfl
theorem sE {c:Prop} {v:AV}:lP P (.ok c v st) r K=(c∧aopsW P r st K):=(rfl)
theorem MG:lP P .fail r K=False:=(rfl)
theorem rN {d:Option Nat} {f:Nat} {args:List AE}:aopsW P (.ao d q id f args::r) st K=fY P q st f args (evL st args) d r K:=by
 simp only[aopsW,fY,gL,forall_const]
def sC (P:Program) (q:Bool) (st:St) (v:AV) (args:List AE) (as:List AV) (d:Option Nat) (r:List ROp) (K:KS):Prop:=
 as=args.map (ev st)→adyn P q st v args fun v st'=>aopsW P r (put st' d v) K
theorem Ew {d:Option Nat} {x:AE} {args:List AE}:aopsW P (.dyn d q id x args::r) st K=sC P q st (ev st x) args (evL st args) d r K:=by
 simp only[aopsW,sC,gL,forall_const]
theorem EA {w:Bool} {x:AE} {args:List AE}:aopsW P (.l4 d j w q id x args::r) st K=pL P q (grd (sget st.s j) w) st (ev st x) args (evL st args) d r K:=by
 simp only[aopsW,pL,gL,forall_const]
theorem yw {f:Nat} {args:List AE} {as:List AV} (hf:callable P f=true) (h:r9 P q st f args as d r K):pL P q (some true) st (.gd true (.lit (.func (.func f) #[] #[]))) args as d r K:=
 fun e=>.inr ⟨rfl,⟨rfl,rfl⟩,hf,h e⟩
theorem yv {v:AV} {args:List AE} {as:List AV} (h:aopsW P r ⟨(d,.gd false .undef)::st.s,st.h⟩ K):pL P q (some false) st v args as d r K:=fun _=>.inl ⟨rfl,h⟩
theorem sD {d:Option Nat} {f:Nat} {args:List AE} {as:List AV} (hf:callable P f=true) (h:fY P q st f args as d r K):sC P q st (.lit (.func (.func f) #[] #[])) args as d r K:=
 fun e=>⟨⟨rfl,rfl⟩,hf,h e⟩
theorem EC {w:Bool}:aopsW P (.af d j w q id o::r) st K=pS P (grd (sget st.s j) w) d o r st K:=(rfl)
theorem PC {γ:Bool}:pS P (some γ) d o r st K=kO P γ d o r st K:=by
 simp only[pS,kO,pR];cases avalR γ st o<;>rfl
def pQ (P:Program) (γ:Bool) (x:Res) (d:Nat) (r:List ROp) (st:St) (K:KS):Prop:=
 match x with
 | .ok c v=>c∧aopsW P r ⟨(d,.gd γ v)::st.s,st.h⟩ K
 | .fail=>False
theorem Py {γ:Bool} {c:Prop} {v:AV}:pQ P γ (.ok c v) d r st K=(c∧aopsW P r ⟨(d,.gd γ v)::st.s,st.h⟩ K):=(rfl)
theorem Pz:kO P false d o r st K=s9 P d o r st K:=by simp only[kO,s9]
theorem PA:kO P true d o r st K=pQ P true (avalR true st o) d r st K:=by
 simp[kO,pR,pQ]
theorem dk (h:aopsW P r ⟨(d,.gd false .undef)::st.s,st.h⟩ K):s9 P d o r st K:=.inl ⟨rfl,h⟩
theorem dj {γ:Bool} (h:pQ P γ (avalR γ st o) d r st K):kO P γ d o r st K:=.inr h
theorem Et {c p:Prop} (h:c):(c∧p)=p:=by simp[h]
theorem PB:pS P none d o r st K=False:=(rfl)
theorem EB {w:Bool} {d:Option Nat}:aopsW P (.pM d j w q id o::r) st K=ni P (grd (sget st.s j) w) d id o r st K:=(rfl)
theorem Pe {d:Option Nat}:ni P (some true) d id o r st K=geff2 P (effR id st o) d r K:=by
 simp only[ni,geff2,Bool.true_eq_false,false_and,false_or,true_and];cases effR id st o<;>rfl
theorem Pd {d:Option Nat}:ni P (some false) d id o r st K=aopsW P r (put st d (.gd false .undef)) K:=by
 simp[ni]
theorem Pc {d:Option Nat} {c:Prop} {v:AV}:geff2 P (.ok c v st) d r K=(c∧aopsW P r (put st d (.gd true v)) K):=(rfl)
theorem Ez {w:Bool} {f:Nat} {args:List AE}:aopsW P (.iB d j w q id f args::r) st K=pK P q (grd (sget st.s j) w) st f args (evL st args) d r K:=by
 simp only[aopsW,pK,gL,forall_const]
end
theorem vI {P:Program} {q:Bool} {st:St} {id:Nat} {o:AO} {K:AV→St→Prop} (h:(avalR true st o).To fun v=>K v st):aop1 P q st id o K:=by
 have h':=vO h
 cases o<;>first | exact h.elim | (simp only[aop1,isEff,Bool.false_eq_true,if_false];exact h')
theorem rK {P:Program} {q:Bool} {st:St} {id:Nat} {o:AO} {K:AV→St→Prop} (h:(effR id st o).To K):aop1 P q st id o K:=by
 have h':=MJ h
 cases o<;>first | exact h.elim | (simp only[aop1,isEff,if_true];exact h')
theorem Eu {P:Program} {q γ:Bool} {st:St} {o:AO} {K:AV→Prop} (h:(avalR γ st o).To K):aopG P q γ st o K:=by
 have h':=vO h
 cases o<;>first | exact h.elim | exact h'
theorem vC {P:Program} {q:Bool} {st:St} {v:AV} {args:List AE} {K K':AV→St→Prop} (hK:∀v st',K v st'→K' v st') (h:adyn P q st v args K):adyn P q st v args K':=by
 revert h
 unfold adyn
 split
 ·rintro⟨e1,e2,h⟩
  refine⟨e1,e2,fun E ρ a w vs h1 h2 h3=>(h E ρ a w vs h1 h2 h3).mono ?_⟩
  rintro e w' ⟨v,ρ',st',av,g1,g2,g3,g4,g5⟩
  exact⟨v,ρ',st',av,g1,g2,g3,hK _ _ g4,g5⟩
 ·rintro⟨e1,e2,h⟩
  refine⟨e1,e2,fun E ρ a w vs h1 h2 h3=>(h E ρ a w vs h1 h2 h3).mono ?_⟩
  rintro e w' ⟨v,ρ',st',av,g1,g2,g3,g4,g5⟩
  exact⟨v,ρ',st',av,g1,g2,g3,hK _ _ g4,g5⟩
 ·rintro⟨e1,h⟩
  refine⟨e1,fun E ρ a w vs h1 h2 h3=>(h E ρ a w vs h1 h2 h3).mono ?_⟩
  rintro e w' ⟨v,ρ',st',av,g1,g2,g3,g4,g5⟩
  exact⟨v,ρ',st',av,g1,g2,g3,hK _ _ g4,g5⟩
 ·exact fun h=>h
theorem cQ {P:Program} {B:Nat} {K:KS} {K':St→Prop} (hK:∀st,K.ap st→K' st):∀(l:List ROp) {st:St},aopsW P l st K→aops P (l.map (ROp.er B)) st K'
 | [],st,h=>hK _ h
 | .v d o::r,st,h=>by
  refine vI ?_
  simp only[aopsW]at h
  revert h
  cases avalR true st o with
  | ok c v=>exact fun h=>⟨h.1,cQ hK r h.2⟩
  | fail=>exact fun h=>h
 | .val d q id o::r,st,h=>by
  refine vI ?_
  simp only[aopsW]at h
  revert h
  cases avalR true st o with
  | ok c v=>exact fun h=>⟨h.1,cQ hK r h.2⟩
  | fail=>exact fun h=>h
 | .eff d q id o::r,st,h=>by
  refine rK ?_
  simp only[aopsW]at h
  revert h
  cases effR id st o with
  | ok c v st'=>exact fun h=>⟨h.1,cQ hK r h.2⟩
  | fail=>exact fun h=>h
 | .an q id o::r,st,h=>by
  refine rK ?_
  simp only[aopsW]at h
  revert h
  cases effR id st o with
  | ok c v st'=>exact fun h=>⟨h.1,cQ hK r h.2⟩
  | fail=>exact fun h=>h
 | .ao d q id f args::r,st,h=>by
  intro E ρ a w vs h1 h2 h3
  refine(h E ρ a w vs h1 h2 h3).mono ?_
  rintro e w' ⟨v,ρ',st',av,g1,g2,g3,g4,g5⟩
  exact⟨v,ρ',st',av,g1,g2,g3,cQ hK r g4,g5⟩
 | .dyn d q id x args::r,st,h=>by
  simp only[aopsW]at h
  simp only[List.map_cons,ROp.er,aops,aop1]
  exact vC (fun v st' h=>cQ hK r h) h
 | .af d j want q id o::r,st,h=>by
  simp only[aopsW]at h
  simp only[List.map_cons,ROp.er,aops]
  revert h
  cases grd (sget st.s j) want with
  | none=>exact fun h=>h
  | some γ=>
   intro h
   have h:(γ=false∧aopsW P r (put st (some d) (.gd false .undef)) K)∨(avalR γ st o).To fun v=>aopsW P r (put st (some d) (.gd γ v)) K:=h
   refine h.imp (fun x=>⟨x.1,cQ hK r x.2⟩) (fun h=>.inr ?_)
   refine Eu ?_
   revert h
   cases avalR γ st o with
   | ok c v=>exact fun h=>⟨h.1,cQ hK r h.2⟩
   | fail=>exact fun h=>h
 | .iB d j want q id f args::r,st,h=>by
  simp only[aopsW]at h
  simp only[List.map_cons,ROp.er,aops]
  revert h
  cases grd (sget st.s j) want with
  | none=>exact fun h=>h
  | some γ=>
   rintro(x | x | ⟨v,h1,h2⟩)
   ·exact .inl ⟨x.1,cQ hK r x.2⟩
   ·refine .inr (.inl ⟨x.1,fun E ρ a w vs h1 h2 h3=>(x.2 E ρ a w vs h1 h2 h3).mono ?_⟩)
    rintro e w' ⟨v,ρ',st',av,g1,g2,g3,g4,g5⟩
    exact⟨v,ρ',st',av,g1,g2,g3,cQ hK r g4,g5⟩
   ·exact .inr (.inr ⟨v,h1,cQ hK r h2⟩)
 | .pM d j want q id o::r,st,h=>by
  simp only[aopsW]at h
  simp only[List.map_cons,ROp.er,aops]
  revert h
  cases grd (sget st.s j) want with
  | none=>exact fun h=>h
  | some γ=>
   rintro(x | ⟨x,h⟩)
   ·exact .inl ⟨x.1,cQ hK r x.2⟩
   ·refine .inr (.inl ⟨x,rK ?_⟩)
    revert h
    cases effR id st o with
    | ok c v st'=>exact fun h=>⟨h.1,cQ hK r h.2⟩
    | fail=>exact fun h=>h
 | .l4 d j want q id x args::r,st,h=>by
  simp only[aopsW]at h
  simp only[List.map_cons,ROp.er,aops]
  revert h
  cases grd (sget st.s j) want with
  | none=>exact fun h=>h
  | some γ=>
   rintro(x | ⟨x,h⟩)
   ·exact .inl ⟨x.1,cQ hK r x.2⟩
   ·exact .inr (.inl ⟨x,vC (fun v st' h=>cQ hK r h) h⟩)
theorem kp {P:Program} {B:Nat} (l:List ROp) {st:St} {K:KS} (h:aopsW P l st K):aops P (l.map (ROp.er B)) st K.ap:=cQ (fun _ h=>h) l h
def trim (s:List (Nat×AV)):List Nat→List (Nat×AV)
 | []=>[]
 | k::r=>match sget s k with
  | some v=>(k,v)::trim s r
  | none=>trim s r
def uY (o:Option AV) (k:Nat) (s:List (Nat×AV)) (r:List Nat):List (Nat×AV):=
 match o with
 | some v=>(k,v)::trim s r
 | none=>trim s r
theorem ang (s:List (Nat×AV)) (k:Nat) (r:List Nat):trim s (k::r)=uY (sget s k) k s r:=(rfl)
theorem anh (s:List (Nat×AV)):trim s []=[]:=(rfl)
theorem anf (v:AV) (k:Nat) (s:List (Nat×AV)) (r:List Nat):uY (some v) k s r=(k,v)::trim s r:=(rfl)
theorem ane (k:Nat) (s:List (Nat×AV)) (r:List Nat):uY none k s r=trim s r:=(rfl)
theorem j7 (s:List (Nat×AV)):∀ks,dv s (trim s ks)
 | []=>trivial
 | k::r=>by
  unfold trim
  split
  ·rename_i v hv;exact⟨hv,j7 s r⟩
  ·exact j7 s r
theorem lf {E:Env} {ρ:Loc} {st:St} {s':List (Nat×AV)} {a:Act} {w:World} (h:al E ρ st a w) (hs:dv st.s s'):al E ρ ⟨s',st.h⟩ a w:=
 ⟨h.defers,h.size,fun k av hk=>h.aU k av (tH hs k av hk),h.heap,h.base,h.az,h.x0⟩
inductive DT where
 | die (o:ROp)
 | step (o:ROp) (t:DT)
 | br (x y:DT)
def DT.er (B:Nat):DT→AT bj
 | .die o=>.cons (o.er B) .nil
 | .step o t=>.cons (o.er B) (t.er B)
 | .br x y=>.br (x.er B) (y.er B)
def pt (o:ROp):Bool:=sw (o.er 0)
theorem xr (o:ROp) (B:Nat):sw (o.er B)=pt o:=by cases o<;>rfl
def DT.ok:DT→Bool
 | .die o=>pt o
 | .step o t=>!pt o&&t.ok
 | .br x y=>x.ok&&y.ok
def dieOpW (P:Program) (o:ROp) (st:St) (Q:KQ):Prop:=
 match o with
 | .ao _ _ _ f args=>oB P st f args fun V st'=>Q.ap (.panic (bJ V)) st'
 | .an _ _ (.dJ x)=>∃t v,ev st x=.lit (.iface t v)∧Q.ap (.panic (bJ (.iface t v))) st
 | _=>False
def dtW (P:Program):DT→St→KQ→Prop
 | .die o,st,Q=>dieOpW P o st Q
 | .step o t,st,Q=>aopsW P [o] st ⟨fun st'=>dtW P t st' Q⟩
 | .br x y,st,Q=>dtW P x st Q∧dtW P y st Q
theorem sx {P:Program} {B:Nat} {o:ROp} {st:St} {Q:KQ} (h:dieOpW P o st Q):dieOp P (o.er B) st fun V st'=>Q.ap (.panic (bJ V)) st':=by
 unfold dieOpW at h
 split at h
 ·exact h
 ·exact h
 ·exact h.elim
theorem pB {P:Program} {B:Nat} {Q:KQ}:∀(T:DT) {st:St},T.ok=true→dtW P T st Q→dieF P (T.er B) st fun V st'=>Q.ap (.panic (bJ V)) st'
 | .die o,st,hok,h=>by
  simp only[DT.er,dieF,xr,show pt o=true from hok,if_true]
  exact sx h
 | .step o t,st,hok,h=>by
  simp only[DT.ok,Bool.and_eq_true,Bool.not_eq_true']at hok
  simp only[DT.er,dieF,xr,hok.1,Bool.false_eq_true,if_false]
  exact cQ (K:=⟨fun st'=>dtW P t st' Q⟩) (fun st' h'=>pB t hok.2 h') [o] h
 | .br x y,st,hok,h=>by
  simp only[DT.ok,Bool.and_eq_true]at hok
  exact⟨pB x hok.1 h.1,pB y hok.2 h.2⟩
theorem rO (P:Program) (o:ROp) (r:List ROp) (st:St) (K:KS):aopsW P (o::r) st K=aopsW P [o] st ⟨fun st'=>aopsW P r st' K⟩:=by cases o<;>rfl
theorem xp {P:Program} {B:Nat} {K:KS} {K':St→Prop} {KD:Value→St→Prop} (hK:∀st,K.ap st→K' st):∀(l:List ROp) {st:St},aopsW P l st K→kE P (l.map (ROp.er B)) st K' KD
 | [],st,h=>hK _ h
 | o::r,st,h=>by
  rw[rO]at h
  exact .inr (cQ (fun st' h'=>xp hK r h') [o] h)
theorem sB {P:Program} {B:Nat} {Q:KQ} {K:KS} {K':St→Prop} {o:ROp} {post:List ROp} (hK:∀st,K.ap st→K' st):∀(pre:List ROp) {st:St},aopsW P pre st ⟨fun st'=>dieOpW P o st' Q∨aopsW P (o::post) st' K⟩ →
    kE P ((pre++o::post).map (ROp.er B)) st K' fun V st'=>Q.ap (.panic (bJ V)) st'
 | [],st,h=>by
  rcases h with h | h
  ·exact .inl (sx h)
  ·exact xp hK (o::post) h
 | p::r,st,h=>by
  rw[rO]at h
  exact .inr (cQ (fun st' h'=>sB hK r h') [p] h)
theorem xz {P:Program} {B:Nat} {Q:KQ} {K:KS} {K':St→Prop} {o o2:ROp} {bq post:List ROp} (hK:∀st,K.ap st→K' st):∀(pre:List ROp) {st:St},aopsW P pre st ⟨fun st'=>dieOpW P o st' Q∨aopsW P (o::bq) st' ⟨fun st''=>dieOpW P o2 st'' Q∨aopsW P (o2::post) st'' K⟩⟩ →
    kE P ((pre++o::(bq++o2::post)).map (ROp.er B)) st K' fun V st'=>Q.ap (.panic (bJ V)) st'
 | [],st,h=>by
  rcases h with h | h
  ·exact .inl (sx h)
  ·exact sB hK (o::bq) h
 | p::r,st,h=>by
  rw[rO]at h
  exact .inr (cQ (fun st' h'=>xz hK r h') [p] h)
inductive RT where
 | leaf (ops:List ROp)
 | node (p:List ROp) (x y:RT)
def RT.er (B:Nat):RT→AT bj
 | .leaf ops=>AT.pre (ops.map (ROp.er B)) .nil
 | .node p x y=>AT.pre (p.map (ROp.er B)) (.br (x.er B) (y.er B))
def hV (P:Program):RT→St→KS→Prop
 | .leaf ops,st,K=>aopsW P ops st K
 | .node p x y,st,K=>aopsW P p st ⟨fun st=>hV P x st K∧hV P y st K⟩
def KS.two (P:Program) (x y:RT) (K:KS):KS:=⟨fun st=>hV P x st K∧hV P y st K⟩
theorem ajl {P:Program} {ops:List ROp} {st:St} {K:KS}:hV P (.leaf ops) st K=aopsW P ops st K:=(rfl)
theorem ajm {P:Program} {p:List ROp} {x y:RT} {st:St} {K:KS}:hV P (.node p x y) st K=aopsW P p st (KS.two P x y K):=(rfl)
theorem Y2 {P:Program} {x y:RT} {st:St} {K:KS}:(KS.two P x y K).ap st=(hV P x st K∧hV P y st K):=(rfl)
theorem uB {P:Program} {B:Nat} {K:KS} {K':St→Prop} (hK:∀st,K.ap st→K' st):∀(T:RT) {st:St},hV P T st K→aopsT P (T.er B) st K'
 | .leaf ops,st,h=>by
  unfold RT.er
  rw[ui]
  exact cQ (B:=B) hK ops h
 | .node p x y,st,h=>by
  unfold RT.er
  rw[ui]
  exact cQ (B:=B) (fun st h=>⟨uB hK x h.1,uB hK y h.2⟩) p h
inductive AK where
 | skip
 | aa (ops:List ROp) (keep:List Nat)
 | seq (x y:AK)
 | cond (c:AE) (x y:AK)
 | block (id:Nat) (x:AK)
 | loop (x:AK)
 | exit (id:Nat)
 | ret
 | bq (x:AK)
 | scope (x:AK)
 | label (l:Nat)
 | goto (l:Nat)
 | split (ops:List ROp) (d f:Nat) (x:AE) (c:UInt8) (bk p q0:Nat) (body:AK)
 | back (ops:List ROp) (d f kx bk p1 p q0:Nat) (body:AK)
 | alt (p x y:List ROp) (keep:List Nat)
 | fW (T:RT) (keep:List Nat)
 | cc (pre:List ROp) (o:ROp) (post:List ROp) (keep:List Nat)
 | mj (pre:List ROp) (o:ROp) (bq:List ROp) (o2:ROp) (post:List ROp) (keep:List Nat)
 | iu (p x y:List ROp) (keep:List Nat) (T:DT)
 | eo (f:Nat) (args:List AE)
 | bad
def AK.erase (B:Nat):AK→AC
 | .skip=>.skip
 | .aa ops _=>.aa (ops.map (ROp.er B))
 | .seq x y=>.seq (x.erase B) (y.erase B)
 | .cond c x y=>.cond c (x.erase B) (y.erase B)
 | .block id x=>.block id (x.erase B)
 | .loop x=>.loop (x.erase B)
 | .exit id=>.exit id
 | .ret=>.ret
 | .bq x=>(x.erase B)
 | .scope x=>.scope (x.erase B)
 | .label l=>.label l
 | .goto l=>.goto l
 | .split ops d f x c bk p q0 body=>.seq (.la (ops.map (ROp.er B)++[⟨some d,none,false,B+d,.call f [x,.c (.str [c])]⟩])) (.block bk (.jx (.t d) [p] (.aa [⟨some q0,none,false,B+q0,.ah (.t p)⟩]) (body.erase B)))
 | .back ops d f kx bk p1 p q0 body=>.seq (.la (ops.map (ROp.er B)++[⟨some d,none,false,B+d,.call f [.t kx]⟩])) (.block bk (.jx (.t d) [p1,p] (.aa [⟨some q0,none,false,B+q0,.ah (.t p)⟩]) (body.erase B)))
 | .alt p x y _=>.alt (p.map (ROp.er B)) (x.map (ROp.er B)) (y.map (ROp.er B))
 | .fW T _=>.fW (T.er B)
 | .cc pre o post _=>.cc ((pre++o::post).map (ROp.er B))
 | .mj pre o md o2 post _=>.cc ((pre++o::(md++o2::post)).map (ROp.er B))
 | .iu p x y _ T=>.iu (p.map (ROp.er B)) (x.map (ROp.er B)) (y.map (ROp.er B)) (T.er B)
 | .eo f args=>.eo f args
 | .bad=>.bad
def vcW (P:Program) (E:Env):AK→KQ→St→Prop
 | .skip,Q,st=>Q.ap .normal st
 | .aa ops ks,Q,st=>aopsW P ops st ⟨fun st=>Q.ap .normal ⟨trim st.s ks,st.h⟩⟩
 | .seq x y,Q,st=>vcW P E x ⟨iX (fun st=>vcW P E y Q st) Q.ap⟩ st
 | .cond c x y,Q,st=>match ev st c with
  | .bool b=>(b=true→vcW P E x Q st)∧(b=false→vcW P E y Q st)
  | _=>False
 | .block id x,Q,st=>vcW P E x ⟨blockQ id Q.ap⟩ st
 | .loop x,Q,st=>bC P E (.loop (x.erase E.B)) st Q.ap
 | .exit id,Q,st=>Q.ap (.exit id) st
 | .ret,Q,st=>Q.ap .ret st
 | .bq x,Q,st=>bC P E (x.erase E.B) st Q.ap
 | .scope x,Q,st=>bC P E (.scope (x.erase E.B)) st Q.ap
 | .label _,Q,st=>Q.ap .normal st
 | .goto l,Q,st=>Q.ap (.goto l) st
 | .split ops d f x c bk p q0 body,Q,st=>aopsW P ops st ⟨splitK P E d f x c bk p q0 (body.erase E.B) Q.ap⟩
 | .back ops d f kx bk p1 p q0 body,Q,st=>aopsW P ops st ⟨mQ P E d f kx bk p1 p q0 (body.erase E.B) Q.ap⟩
 | .alt p x y ks,Q,st=>aopsW P p st ⟨fun st=>aopsW P x st ⟨fun st=>Q.ap .normal ⟨trim st.s ks,st.h⟩⟩∧aopsW P y st ⟨fun st=>Q.ap .normal ⟨trim st.s ks,st.h⟩⟩⟩
 | .fW T ks,Q,st=>hV P T st ⟨fun st=>Q.ap .normal ⟨trim st.s ks,st.h⟩⟩
 | .cc pre o post ks,Q,st=>aopsW P pre st ⟨fun st=>dieOpW P o st Q∨aopsW P (o::post) st ⟨fun st=>Q.ap .normal ⟨trim st.s ks,st.h⟩⟩⟩
 | .mj pre o md o2 post ks,Q,st=>aopsW P pre st ⟨fun st=>dieOpW P o st Q∨aopsW P (o::md) st ⟨fun st=>dieOpW P o2 st Q∨aopsW P (o2::post) st ⟨fun st=>Q.ap .normal ⟨trim st.s ks,st.h⟩⟩⟩⟩
 | .iu p x y ks T,Q,st=>(aopsW P p st ⟨fun st=>aopsW P x st ⟨fun st=>Q.ap .normal ⟨trim st.s ks,st.h⟩⟩∧aopsW P y st ⟨fun st=>Q.ap .normal ⟨trim st.s ks,st.h⟩⟩⟩)∨(T.ok=true∧dtW P T st Q)
 | .eo _ _,_,_=>False
 | .bad,_,_=>False
def KS.aa (ks:List Nat) (Q:KQ):KS:=⟨fun st=>Q.ap .normal ⟨trim st.s ks,st.h⟩⟩
def KS.alt (P:Program) (x y:List ROp) (ks:List Nat) (Q:KQ):KS:=⟨fun st=>aopsW P x st (KS.aa ks Q)∧aopsW P y st (KS.aa ks Q)⟩
def lO (P:Program) (o:ROp) (post:List ROp) (ks:List Nat) (Q:KQ) (st:St):Prop:=dieOpW P o st Q∨aopsW P (o::post) st (KS.aa ks Q)
def KS.py (P:Program) (o:ROp) (post:List ROp) (ks:List Nat) (Q:KQ):KS:=⟨lO P o post ks Q⟩
def pw (P:Program) (o:ROp) (bq:List ROp) (o2:ROp) (post:List ROp) (ks:List Nat) (Q:KQ) (st:St):Prop:=dieOpW P o st Q∨aopsW P (o::bq) st (KS.py P o2 post ks Q)
def KS.xy (P:Program) (o:ROp) (bq:List ROp) (o2:ROp) (post:List ROp) (ks:List Nat) (Q:KQ):KS:=⟨pw P o bq o2 post ks Q⟩
def KS.dt (P:Program) (T:DT) (Q:KQ):KS:=⟨fun st=>dtW P T st Q⟩
def KQ.seq (P:Program) (E:Env) (y:AK) (Q:KQ):KQ:=⟨iX (fun st=>vcW P E y Q st) Q.ap⟩
def KQ.ed (id:Nat) (Q:KQ):KQ:=⟨blockQ id Q.ap⟩
def KQ.iQ (R:KS) (Q:KQ):KQ:=⟨iX R.ap Q.ap⟩
def KS.Cm (P:Program) (E:Env) (d f:Nat) (x:AE) (c:UInt8) (bk p q0:Nat) (body:AK) (Q:KQ):KS:=⟨splitK P E d f x c bk p q0 (body.erase E.B) Q.ap⟩
def Cn (P:Program) (E:Env) (d f:Nat) (x:AE) (c:UInt8) (bk p q0:Nat) (body:AK) (Q:KQ) (st:St):Prop:=splitK P E d f x c bk p q0 (body.erase E.B) Q.ap st
def KS.vX (P:Program) (E:Env) (d f kx bk p1 p q0:Nat) (body:AK) (Q:KQ):KS:=⟨mQ P E d f kx bk p1 p q0 (body.erase E.B) Q.ap⟩
def vW (P:Program) (E:Env) (d f kx bk p1 p q0:Nat) (body:AK) (Q:KQ) (st:St):Prop:=mQ P E d f kx bk p1 p q0 (body.erase E.B) Q.ap st
def KQ.jmp (l:Nat) (R:KS) (Q:KQ):KQ:=⟨jumpQ l R.ap Q.ap⟩
def KQ.qn (Q:KQ):KQ:=⟨abA Q.ap⟩
def findK:AK→Nat→Option AK
 | .seq a b,l=>match findK a l with
  | some r=>some (.seq r b)
  | none=>findK b l
 | .label l',l=>if l'==l then some .skip else none
 | .bq x,l=>findK x l
 | _,_=>none
theorem pD (B:Nat):∀(c:AK) (l:Nat),findA (c.erase B) l=(findK c l).map (AK.erase B)
 | .seq a b,l=>by
  simp only[AK.erase,findA,findK,pD B a l]
  cases findK a l with
  | some r=>rfl
  | none=>exact pD B b l
 | .label l',l=>by
  simp only[AK.erase,findA,findK]
  split<;>rfl
 | .bq x,l=>by simp only[AK.erase,findK,pD B x l]
 | .skip,_ | .aa _ _,_ | .cond _ _ _,_ | .block _ _,_ | .loop _,_ | .exit _,_ | .ret,_ | .scope _,_ | .goto _,_ | .bad,_ | .alt _ _ _ _,_=>rfl
 | .split _ _ _ _ _ _ _ _ _,_=>rfl
 | .back _ _ _ _ _ _ _ _ _,_=>rfl
 | .cc _ _ _ _,_=>rfl
 | .mj _ _ _ _ _ _,_=>rfl
 | .fW _ _,_=>rfl
 | .iu _ _ _ _ _,_=>rfl
 | .eo _ _,_=>rfl
def kQ (P:Program) (E:Env) (b:Bool) (x y:AK) (Q:KQ) (st:St):Prop:=(b=true→vcW P E x Q st)∧(b=false→vcW P E y Q st)
def se (P:Program) (E:Env) (v:AV) (x y:AK) (Q:KQ) (st:St):Prop:=
 match v with
 | .bool b=>kQ P E b x y Q st
 | _=>False
section
variable {P:Program} {E:Env} {st:St} {Q:KQ} {x y:AK} {R:KS}
theorem Y0 {ks:List Nat}:(KS.aa ks Q).ap st=Q.ap .normal ⟨trim st.s ks,st.h⟩:=(rfl)
theorem YV {a b:List ROp} {ks:List Nat}:(KS.alt P a b ks Q).ap st=(aopsW P a st (KS.aa ks Q)∧aopsW P b st (KS.aa ks Q)):=(rfl)
theorem YN:(KQ.seq P E y Q).ap .normal st=vcW P E y Q st:=(rfl)
theorem YP:(KQ.seq P E y Q).ap .ret st=Q.ap .ret st:=(rfl)
theorem YQ {i:Nat}:(KQ.seq P E y Q).ap (.exit i) st=Q.ap (.exit i) st:=(rfl)
theorem Yg {i:Nat}:(KQ.ed i Q).ap .normal st=Q.ap .normal st:=(rfl)
theorem Yi {i:Nat}:(KQ.ed i Q).ap .ret st=Q.ap .ret st:=(rfl)
theorem Yj {i j:Nat}:(KQ.ed i Q).ap (.exit j) st=if j=i then Q.ap .normal st else Q.ap (.exit j) st:=(rfl)
theorem YM {i:Nat}:(KQ.seq P E y Q).ap (.goto i) st=Q.ap (.goto i) st:=(rfl)
theorem Yf {i j:Nat}:(KQ.ed i Q).ap (.goto j) st=Q.ap (.goto j) st:=(rfl)
theorem YH {i:Nat}:(KQ.iQ R Q).ap (.goto i) st=Q.ap (.goto i) st:=(rfl)
theorem Yq {l:Nat}:(KQ.jmp l R Q).ap .normal st=Q.ap .normal st:=(rfl)
theorem Ys {l:Nat}:(KQ.jmp l R Q).ap .ret st=Q.ap .ret st:=(rfl)
theorem Yt {l i:Nat}:(KQ.jmp l R Q).ap (.exit i) st=Q.ap (.exit i) st:=(rfl)
theorem Yp {l:Nat}:(KQ.jmp l R Q).ap (.goto l) st=R.ap st:=by simp[KQ.jmp,jumpQ]
theorem YO {c:List PanicEntry}:(KQ.seq P E y Q).ap (.panic c) st=Q.ap (.panic c) st:=(rfl)
theorem Yh {i:Nat} {c:List PanicEntry}:(KQ.ed i Q).ap (.panic c) st=Q.ap (.panic c) st:=(rfl)
theorem YJ {c:List PanicEntry}:(KQ.iQ R Q).ap (.panic c) st=Q.ap (.panic c) st:=(rfl)
theorem Yr {l:Nat} {c:List PanicEntry}:(KQ.jmp l R Q).ap (.panic c) st=Q.ap (.panic c) st:=(rfl)
theorem Yv {c:List PanicEntry}:(KQ.qn Q).ap (.panic c) st=Q.ap (.panic c) st:=(rfl)
theorem YZ {T:DT}:(KS.dt P T Q).ap st=dtW P T st Q:=(rfl)
theorem MD {o:ROp} {T:DT}:dtW P (.step o T) st Q=aopsW P [o] st (KS.dt P T Q):=(rfl)
theorem MB {T U:DT}:dtW P (.br T U) st Q=(dtW P T st Q∧dtW P U st Q):=(rfl)
def lL (P:Program) (st:St) (f:Nat) (args:List AE) (as:List AV) (Q:KQ):Prop:=as=evL st args→oB P st f args fun V st'=>Q.ap (.panic (bJ V)) st'
def lK (P:Program) (q:Bool) (st:St) (f:Nat) (args:List AE) (as:List AV) (d:Option Nat) (r:List ROp) (K:KS) (Q:KQ):Prop:=lL P st f args as Q∨fY P q st f args as d r K
theorem MC {d:Option Nat} {q:Bool} {id f:Nat} {args:List AE}:dtW P (.die (.ao d q id f args)) st Q=lL P st f args (evL st args) Q:=by
 simp[dtW,dieOpW,lL]
theorem YX {o o2:ROp} {bq post:List ROp} {ks:List Nat}:(KS.xy P o bq o2 post ks Q).ap st=pw P o bq o2 post ks Q st:=(rfl)
theorem YY {o:ROp} {post:List ROp} {ks:List Nat}:(KS.py P o post ks Q).ap st=lO P o post ks Q st:=(rfl)
theorem L3 {d:Option Nat} {q:Bool} {id f:Nat} {args:List AE} {post:List ROp} {ks:List Nat}:lO P (.ao d q id f args) post ks Q st=lK P q st f args (evL st args) d post (KS.aa ks Q) Q:=by
 simp[lO,dieOpW,lK,lL,rN]
theorem LZ {d:Option Nat} {q:Bool} {id f:Nat} {args:List AE} {o2:ROp} {bq post:List ROp} {ks:List Nat}:pw P (.ao d q id f args) bq o2 post ks Q st=lK P q st f args (evL st args) d bq (KS.py P o2 post ks Q) Q:=by
 simp[pw,dieOpW,lK,lL,rN]
def pncW (v:AV) (Q:KQ) (st:St):Prop:=
 match v with
 | .lit (.iface t x)=>Q.ap (.panic (bJ (.iface t x))) st
 | _=>False
theorem ag4 {t:TypeId} {x:Value}:pncW (.lit (.iface t x)) Q st=Q.ap (.panic (bJ (.iface t x))) st:=(rfl)
theorem L4 {q:Bool} {id:Nat} {x:AE} {post:List ROp} {ks:List Nat}:lO P (.an q id (.dJ x)) post ks Q st=pncW (ev st x) Q st:=by
 apply propext
 unfold lO dieOpW pncW
 constructor
 ·rintro(⟨t,v,h1,h2⟩ | h)
  ·rw[h1];exact h2
  ·exact h.elim
 ·intro h
  split at h
  ·rename_i t v e
   exact .inl ⟨t,v,e,h⟩
  ·exact h.elim
theorem fp {d:Option Nat} {q:Bool} {f:Nat} {args:List AE} {as:List AV} {r:List ROp} {K:KS} (h:fY P q st f args as d r K):lK P q st f args as d r K Q:=.inr h
theorem KL {f:Nat} {args:List AE} {as:List AV} {V:Value} (h0:HP) (hs:dQ P f h0 as V) (hsub:c7 st.h h0) (h:Q.ap (.panic (bJ V)) (lB st h0)):lL P st f args as Q:=by
 rintro rfl
 rw[gL]at hs
 exact Dy h0 hs (fun i W hi=>gS hsub i W hi) h
theorem gK {d:Option Nat} {q:Bool} {f:Nat} {args:List AE} {as:List AV} {r:List ROp} {K:KS} {V:Value} (h0:HP) (hs:dQ P f h0 as V) (hsub:c7 st.h h0) (h:Q.ap (.panic (bJ V)) (lB st h0)):lK P q st f args as d r K Q:=
 .inl (KL h0 hs hsub h)
theorem lC {h0:HP}:lB st h0=⟨killSI (da h0) [] st.s,dropH (da h0) [] st.h⟩:=(rfl)
theorem Yu:(KQ.qn Q).ap .normal st=Q.ap .normal st:=(rfl)
theorem Yw:(KQ.qn Q).ap .ret st=Q.ap .ret st:=(rfl)
theorem Yx {i:Nat}:(KQ.qn Q).ap (.exit i) st=Q.ap (.exit i) st:=(rfl)
theorem aom {i:Nat}:vcW P E (.label i) Q st=Q.ap .normal st:=(rfl)
theorem aol {i:Nat}:vcW P E (.goto i) Q st=Q.ap (.goto i) st:=(rfl)
theorem Y1 {d f:Nat} {ae:AE} {c:UInt8} {bk p q0:Nat}:(KS.Cm P E d f ae c bk p q0 x Q).ap st=Cn P E d f ae c bk p q0 x Q st:=(rfl)
theorem YW {d f kx bk p1 p q0:Nat}:(KS.vX P E d f kx bk p1 p q0 x Q).ap st=vW P E d f kx bk p1 p q0 x Q st:=(rfl)
theorem YI:(KQ.iQ R Q).ap .normal st=R.ap st:=(rfl)
theorem YK:(KQ.iQ R Q).ap .ret st=Q.ap .ret st:=(rfl)
theorem YL {i:Nat}:(KQ.iQ R Q).ap (.exit i) st=Q.ap (.exit i) st:=(rfl)
theorem aot:vcW P E .skip Q st=Q.ap .normal st:=(rfl)
theorem aoq:vcW P E .ret Q st=Q.ap .ret st:=(rfl)
theorem aok {i:Nat}:vcW P E (.exit i) Q st=Q.ap (.exit i) st:=(rfl)
theorem aon {ops:List ROp} {ks:List Nat}:vcW P E (.aa ops ks) Q st=aopsW P ops st (KS.aa ks Q):=(rfl)
theorem aos:vcW P E (.seq x y) Q st=vcW P E x (KQ.seq P E y Q) st:=(rfl)
theorem aoi {i:Nat}:vcW P E (.block i x) Q st=vcW P E x (KQ.ed i Q) st:=(rfl)
theorem aoj {c:AE}:vcW P E (.cond c x y) Q st=se P E (ev st c) x y Q st:=by
 simp only[vcW,se];cases ev st c<;>rfl
theorem I1 {b:Bool}:se P E (.bool b) x y Q st=kQ P E b x y Q st:=(rfl)
theorem SM:kQ P E true x y Q st=vcW P E x Q st:=by simp[kQ]
theorem SL:kQ P E false x y Q st=vcW P E y Q st:=by simp[kQ]
end
theorem CC {K K':St→Prop} {Q Q':Exit→St→Prop} (hK:∀st,K st→K' st) (hQ:∀e st,Q e st→Q' e st):∀e st,iX K Q e st→iX K' Q' e st:=by
 intro e st h
 cases e<;>first | exact hK st h | exact hQ _ st h
theorem eC {P:Program} {E:Env} (hN:E.N≤1000000):∀(c:AK) {st:St} {Q:KQ},vcW P E c Q st→bC P E (c.erase E.B) st Q.ap
 | .skip,st,Q,h=>FT h
 | .aa ops ks,st,Q,h=>by
  have h':=kp (B:=E.B) ops h
  intro n code hc a w hr
  exact uq hN hc h' hr (fun st' a' w' h1 ⟨ρ2,h2⟩=>⟨_,⟨ρ2,lf h2 (j7 _ ks)⟩,h1⟩)
 | .seq x y,st,Q,h=>FQ (bC.mono (eC hN x h) (CC (fun st' h'=>eC hN y h') (fun _ _ h=>h)))
 | .cond c x y,st,Q,h=>by
  simp only[vcW]at h
  split at h
  ·rename_i b hb
   exact FH hb (fun e=>eC hN x (h.1 e)) (fun e=>eC hN y (h.2 e))
  ·exact h.elim
 | .block id x,st,Q,h=>FG (eC hN x h)
 | .loop x,st,Q,h=>h
 | .exit id,st,Q,h=>FI h
 | .ret,st,Q,h=>FM h
 | .bq x,st,Q,h=>h
 | .scope x,st,Q,h=>h
 | .label l,st,Q,h=>FK h
 | .goto l,st,Q,h=>FJ h
 | .split ops d f x c bk p q0 body,st,Q,h=>FU hN (kp (B:=E.B) ops h)
 | .back ops d f kx bk p1 p q0 body,st,Q,h=>FF hN (kp (B:=E.B) ops h)
 | .alt p x y ks,st,Q,h=>by
  intro n code hc a w hr
  refine Em hN hc (K:=fun st=>Q.ap .normal ⟨trim st.s ks,st.h⟩) ?_ hr (fun st' a' w' h1 ⟨ρ2,h2⟩=>⟨_,⟨ρ2,lf h2 (j7 _ ks)⟩,h1⟩)
  exact cQ (B:=E.B) (fun st h=>⟨kp (B:=E.B) x h.1,kp (B:=E.B) y h.2⟩) p h
 | .fW T ks,st,Q,h=>by
  intro n code hc a w hr
  refine El hN hc (K:=fun st=>Q.ap .normal ⟨trim st.s ks,st.h⟩) ?_ hr (fun st' a' w' h1 ⟨ρ2,h2⟩=>⟨_,⟨ρ2,lf h2 (j7 _ ks)⟩,h1⟩)
  exact uB (B:=E.B) (fun _ h=>h) T h
 | .cc pre o post ks,st,Q,h=>by
  intro n code hc a w hr
  exact BD hN hc hr (K:=fun st=>Q.ap .normal ⟨trim st.s ks,st.h⟩) (fun st' a' w' h1 ⟨ρ2,h2⟩=>⟨_,⟨ρ2,lf h2 (j7 _ ks)⟩,h1⟩) (fun V st' a' w' h1 h2=>⟨st',h2,h1⟩) (sB (B:=E.B) (fun _ h=>h) pre h)
 | .mj pre o md o2 post ks,st,Q,h=>by
  intro n code hc a w hr
  exact BD hN hc hr (K:=fun st=>Q.ap .normal ⟨trim st.s ks,st.h⟩) (fun st' a' w' h1 ⟨ρ2,h2⟩=>⟨_,⟨ρ2,lf h2 (j7 _ ks)⟩,h1⟩) (fun V st' a' w' h1 h2=>⟨st',h2,h1⟩) (xz (B:=E.B) (fun _ h=>h) pre h)
 | .iu p x y ks T,st,Q,h=>by
  intro n code hc a w hr
  refine Ek hN hc hr (K:=fun st=>Q.ap .normal ⟨trim st.s ks,st.h⟩) (KD:=fun V st=>Q.ap (.panic (bJ V)) st) (fun st' a' w' h1 ⟨ρ2,h2⟩=>⟨_,⟨ρ2,lf h2 (j7 _ ks)⟩,h1⟩) (fun V st' a' w' h1 h2=>⟨st',h2,h1⟩) ?_
  rcases h with h | h
  ·exact .inl (cQ (B:=E.B) (fun st h=>⟨kp (B:=E.B) x h.1,kp (B:=E.B) y h.2⟩) p h)
  ·exact .inr (pB T h.1 h.2)
 | .eo _ _,st,Q,h=>h.elim
 | .bad,st,Q,h=>h.elim
theorem Zt {s s':List (Nat×AV)} {h h':HP}:zN ⟨s,h⟩ ⟨s',h'⟩=(dv s s'∧c7 h h'):=(rfl)
theorem Zr {s:List (Nat×AV)}:dv s []=True:=(rfl)
theorem Zq {s r:List (Nat×AV)} {k:Nat} {v:AV}:dv s ((k,v)::r)=(sget s k=some v∧dv s r):=(rfl)
theorem Zo {s:HP}:c7 s []=True:=(rfl)
theorem Zn {s r:HP} {k:Nat} {v:aF}:c7 s ((k,v)::r)=(hget s k=some v∧c7 s r):=(rfl)
theorem bm {P:Program} {E:Env} {x:AK} {Q:KQ} {st:St} {α:Type} (hN:E.N≤1000000) (f:α→St) (inv:α→Prop) (ms:α→Nat) (a0:α) (h0:Wk st (f a0)) (hi:inv a0)
    (round:∀a (R:KS),inv a→(∀b st',ms b<ms a→inv b→Wk st' (f b)→R.ap st')→vcW P E x (KQ.iQ R Q) (f a)):vcW P E (.loop x) Q st:=by
 show bC P E (.loop (x.erase E.B)) st Q.ap
 refine FL (fun n s=>∃a,inv a∧n=ms a∧Wk s (f a)) (ms a0) ⟨a0,hi,rfl,h0⟩ ?_
 rintro n s ⟨a,h1,rfl,hle⟩
 refine oM hle (bC.mono (eC hN x (round a ⟨fun s=>∃m,m<ms a∧∃a,inv a∧m=ms a∧Wk s (f a)⟩ h1 (fun b st' g1 g2 g3=>⟨ms b,g1,b,g2,rfl,g3⟩))) ?_)
 intro e s h
 exact h
theorem fV {P:Program} {E:Env} {x y:AK} {Q:KQ} {st:St} {α:Type} (hN:E.N≤1000000) (f:α→St) (inv:α→Prop)
    (h1:∀R:KS,(∀a st',inv a→Wk st' (f a)→R.ap st')→vcW P E x (KQ.iQ R Q) st) (h2:∀a,inv a→vcW P E y Q (f a)):vcW P E (.seq x (.bq y)) Q st:=
 h1 ⟨fun st=>bC P E (y.erase E.B) st Q.ap⟩ (fun a st' g1 g2=>oM g2 (eC hN y (h2 a g1)))
theorem alY {P:Program} {E:Env} {d f bk p q0:Nat} {x:AE} {c:UInt8} {body:AK} {Q:KQ} {st:St} (hN:E.N≤1000000) (hrd:E.rd=none) (hS:rE P f) (hq0:q0<1000000) {s:List UInt8} (hx:ev st x=.str s) (hlen:s.length≤9223372036854775807)
    {α:Type} (s0:List (Nat×AV)) (H:α→HP) (inv:Nat→α→Prop) (x0:α) (h0:Wk st ⟨s0,H x0⟩) (hi:inv 0 x0) (hd0:sget s0 d=none) (hk0:s0.all (fun q=>decide (q.1<3000000))=true)
    (round:∀(E2:Env) k y (R:KQ),E2.N≤1000000→inv k y→k<(splitB c s).length→(∀y' st',inv (k+1) y'→Wk st' ⟨ghost s0,H y'⟩→R.ap .normal st')→(∀st' h',Wk st' ⟨ghost s0,h'⟩→Q.ap .ret ⟨s0,h'⟩→R.ap .ret st') →
     (∀i st' h',Wk st' ⟨ghost s0,h'⟩→(KQ.ed bk Q).ap (.exit i) ⟨s0,h'⟩→R.ap (.exit i) st')→vcW P E2 body R ⟨(q0,.str ((splitB c s).getD k []))::(p,.str ((splitB c s).getD k []))::(s0++ghost s0),H y⟩)
    (done:∀y,inv (splitB c s).length y→Q.ap .normal ⟨s0,H y⟩):Cn P E d f x c bk p q0 body Q st:=by
 intro n ops o b a w hd hdN hg hnd htr hb hr
 refine alZ (body:=body.erase E.B) hN hrd hq0 hS hx hlen s0 H inv x0 h0 hi hd0 (fun k v hk=>?_) (fun E2 k y h1 h2 h3 h4=>?_) done hd hg hnd htr hdN hb hr
 ·have key:∀(l:List (Nat×AV)),l.all (fun q=>decide (q.1<3000000))=true→sget l k=some v→k<3000000:=by
   intro l
   induction l with
   | nil=>intro _ h;simp[sget]at h
   | cons q r ih=>
    obtain⟨j,u⟩:=q
    intro hl h
    simp only[List.all_cons,Bool.and_eq_true,decide_eq_true_eq]at hl
    simp only[sget]at h
    split at h
    ·rename_i e;omega
    ·exact ih hl.2 h
  exact key s0 hk0 hk
 ·rw[←h2]
  exact eC (by omega) body (round E2 k y ⟨qM (fun st'=>∃y',inv (k+1) y'∧Wk st' ⟨ghost s0,H y'⟩) s0 (blockQ bk Q.ap)⟩ (by omega) h3 h4 (fun y' st' g1 g2=>⟨y',g1,g2⟩) (fun st' h' g1 g2=>⟨h',g1,g2⟩) (fun i st' h' g1 g2=>⟨h',g1,g2⟩))
theorem Gb {P:Program} {E:Env} {d f kx bk p1 p q0:Nat} {body:AK} {Q:KQ} {st:St} (hN:E.N≤1000000) (hrd:E.rd=none) (hS:rz P f) (hq0:q0<1000000) {xs:List (List UInt8)} (hlen:xs.length≤9223372036854775807)
    {α:Type} (s0:List (Nat×AV)) (H:α→HP) (inv:Nat→α→Prop) (x0:α) (h0:Wk st ⟨s0,H x0⟩) (hi:inv 0 x0) (hd0:sget s0 d=none) (hp1:sget s0 p1=none) (hkx:sget s0 kx=some (.ro 1 (xs.map .str))) (hkN:kx<d) (hpp:p1≠p) (hk0:s0.all (fun q=>decide (q.1<3000000))=true)
    (round:∀(E2:Env) k y (R:KQ),E2.N≤1000000→inv k y→k<xs.length→(∀y' st',inv (k+1) y'→Wk st' ⟨ghost s0,H y'⟩→R.ap .normal st')→(∀st' h',Wk st' ⟨ghost s0,h'⟩→Q.ap .ret ⟨s0,h'⟩→R.ap .ret st') →
     (∀i st' h',Wk st' ⟨ghost s0,h'⟩→(KQ.ed bk Q).ap (.exit i) ⟨s0,h'⟩→R.ap (.exit i) st')→vcW P E2 body R ⟨(q0,.str (xs.getD (xs.length-1-k) []))::(p,.str (xs.getD (xs.length-1-k) []))::(s0++ghost s0),H y⟩)
    (done:∀y,inv xs.length y→Q.ap .normal ⟨s0,H y⟩):vW P E d f kx bk p1 p q0 body Q st:=by
 intro n ops o b a w hd hdN hg hnd htr hb hr
 refine Gd (body:=body.erase E.B) hN hrd hq0 hS hlen s0 H inv x0 h0 hi hd0 hp1 hkx (Nat.lt_trans hkN hdN) hpp (fun k v hk=>?_) (fun E2 k y h1 h2 h3 h4=>?_) done hd hg hnd htr hdN hb hr
 ·have key:∀(l:List (Nat×AV)),l.all (fun q=>decide (q.1<3000000))=true→sget l k=some v→k<3000000:=by
   intro l
   induction l with
   | nil=>intro _ h;simp[sget]at h
   | cons q r ih=>
    obtain⟨j,u⟩:=q
    intro hl h
    simp only[List.all_cons,Bool.and_eq_true,decide_eq_true_eq]at hl
    simp only[sget]at h
    split at h
    ·rename_i e;omega
    ·exact ih hl.2 h
  exact key s0 hk0 hk
 ·rw[←h2]
  exact eC (by omega) body (round E2 k y ⟨qM (fun st'=>∃y',inv (k+1) y'∧Wk st' ⟨ghost s0,H y'⟩) s0 (blockQ bk Q.ap)⟩ (by omega) h3 h4 (fun y' st' g1 g2=>⟨y',g1,g2⟩) (fun st' h' g1 g2=>⟨h',g1,g2⟩) (fun i st' h' g1 g2=>⟨h',g1,g2⟩))
theorem mA {P:Program} {E:Env} {x:AK} {Q:KQ} {st:St} (hN:E.N≤1000000) (h:vcW P E x Q st):vcW P E (.bq x) Q st:=eC hN x h
theorem u9 {P:Program} {E:Env} {x:AK} {Q:KQ} {st:St} (hN:E.N≤1000000) (st':St) (hle:Wk st st') (h:vcW P E x Q st'):vcW P E (.bq x) Q st:=oM hle (eC hN x h)
section
variable {P:Program} {q:Bool} {st:St} {f:Nat} {args:List AE} {as:List AV} {d:Option Nat} {r:List ROp} {K:KS} {Post:HP→AV→List AV→Prop}
def aO (P:Program) (f:Nat) (as:List AV) (v:AV):Prop:=Spec P f [] as (fun h r _=>h=[]∧r=v)
theorem aC {v:AV} (hs:aO P f as v) (hn:as.all bB=true) (hv:dm v=true) (h:aopsW P r (put st d v) K):fY P q st f args as d r K:=by
 rintro rfl
 refine vu hs (by simpa using hn) ?_
 rintro h' r' as' ⟨rfl,rfl⟩
 exact⟨rfl,hv,h⟩
theorem gF (hs:Spec P f [] as Post) (hn:as.all bB=true) (h:∀h' v as',Post h' v as'→h'=[]∧dm v=true∧aopsW P r (put st d v) K):fY P q st f args as d r K:=by
 rintro rfl
 exact vu hs (by simpa using hn) h
def borL (h:HP):List AV→List AV
 | []=>[]
 | x::r=>borrow h x::borL h r
theorem Hf (h:HP):∀l,borL h l=l.map (borrow h)
 | []=>rfl
 | x::r=>by simp[borL,Hf h r]
theorem bf (h0:HP) (hs:Spec P f h0 as Post) (hsub:c7 st.h h0) (hq:q=true→h0=[])
    (h:∀h' v as',Post h' v as'→gQ h' h'=true∧c6 h' v=true∧aopsW P r (put (fi st h0 args h' as') d v) K):fY P q st f args as d r K:=by
 rintro rfl
 exact Dz h0 hs (fun i W hi=>gS hsub i W hi) hq h
def ku (h0 h:HP):List AV→List AV
 | []=>[]
 | x::r=>bor h0 h x::ku h0 h r
theorem wA (h0 h:HP):∀l,ku h0 h l=l.map (bor h0 h)
 | []=>rfl
 | x::r=>by simp[ku,wA h0 h r]
theorem oY (h0:HP) {bs:List AV} (hb:ku h0 st.h as=bs) (hs:Spec P f h0 bs Post) (hsub:c7 st.h h0) (hq:q=true→h0=[])
    (h:∀h' v as',Post h' v as'→flH h' h'=true∧dF h' v=true∧aopsW P r (put (fi st h0 args h' as') d v) K):fY P q st f args as d r K:=by
 rintro rfl
 subst hb
 rw[wA,List.map_map]at hs
 exact Dx h0 hs (fun i W hi=>gS hsub i W hi) hq h
def lj:List AV→List AV
 | []=>[]
 | x::r=>stripV x::lj r
def lD:List AV→Prop
 | []=>True
 | x::r=>aB true x∧lD r
theorem Cp:∀l,lj l=l.map stripV
 | []=>rfl
 | x::r=>by simp[lj,Cp r]
theorem vF:∀{l:List AV},lD l→∀x∈l,aB true x
 | [],_,x,hx=>by cases hx
 | y::r,h,x,hx=>by
  rcases List.mem_cons.1 hx with rfl | hx
  ·exact h.1
  ·exact vF h.2 x hx
theorem RV.strip {X:Nat→Prop} {w:World} {ρ:Loc} {v:Value} {x:AV} (h:RV X w ρ v x) (hc:aB true x):RV X w ρ v (stripV x):=by
 cases x with
 | gd b y=>exact h.kM (hc rfl)
 | _=>exact h
theorem jJ {d:Nat} {v:AV} {bs:List AV} (hb:lj as=bs) (hs:aO P f bs v) (hc:lD as) (hn:bs.all bB=true) (hv:dm v=true) (h:aopsW P r ⟨(d,.gd true v)::st.s,st.h⟩ K):r9 P q st f args as d r K:=by
 rintro rfl
 subst hb
 rw[Cp,List.map_map]at hs hn
 intro E ρ a w vs h1 hvs hrv
 have hlt:∀b,XX E.X0 ρ st.h b→b<w.heap.size:=by
  intro b hb
  rcases hb with hb | hb
  ·exact h1.x0 b hb
  ·exact fh h1 hb
 refine(hs (XX E.X0 ρ st.h) a6 w vs (np _ _ _) (h1.ct.mono fun _ hb=>(gX hb).elim) hlt (by simpa using hvs) (fun j v x e1 e2=>?_)).mono ?_
 ·rw[List.getElem?_map]at e2
  obtain⟨y,g1,rfl⟩:=Option.map_eq_some_iff.1 e2
  have hy:=(hrv j v y e1 g1).1.strip (vF hc _ (List.mem_map_of_mem (List.mem_of_getElem? g1)))
  have hm:(stripV (ev st y))∈args.map (stripV∘ev st):=List.mem_map.2 ⟨y,List.mem_of_getElem? g1,rfl⟩
  exact(hy.rh (List.all_eq_true.1 hn _ hm) a6).mono (fun _ _ _=>rfl) (fun b _ hb=>fun hx=>hb (ou.1 hx)) _ (fun _ _ h=>h)
 ·rintro e w' ⟨v,h',r,ρ',as,rfl,⟨rfl,rfl⟩,_,g2,_,_,g3,g4,g5,g6,g7,_⟩
  have hsame:aM w w':=⟨g3,g4,g5,g6,fun b hb=>g7 b hb gX⟩
  exact⟨v,ρ,st,_,rfl,h1.same hsame,(g2.CD hv ρ).mono (fun _ _ _=>rfl) (fun b _ hb=>fun hx=>hb (ou.2 hx)) ρ (fun _ _ h=>h),h,fun _=>hsame⟩
theorem l3 {d:Nat} (h:r9 P q st f args as d r K):pK P q (some true) st f args as d r K:=fun e=>.inr (.inl ⟨rfl,h e⟩)
theorem di {d:Nat} (h:aopsW P r ⟨(d,.gd false .undef)::st.s,st.h⟩ K):pK P q (some false) st f args as d r K:=fun _=>.inl ⟨rfl,h⟩
end
def cN (Post R:HP→AV→List AV→Prop):Prop:=∀h' r' ar' h r ar,ar'.length=ar.length→Wk ⟨(0,r)::numbered 1 ar,h⟩ ⟨(0,r')::numbered 1 ar',h'⟩→Post h' r' ar'→R h r ar
theorem tI {s:List (Nat×AV)}:∀{s':List (Nat×AV)},(∀k v,(k,v)∈s'→sget s k=some v)→dv s s'
 | [],_=>trivial
 | (k,v)::r,h=>⟨h k v (List.mem_cons_self ..),tI (fun k' v' hm=>h k' v' (List.mem_cons_of_mem _ hm))⟩
theorem tQ:∀{l:List AV} {k j:Nat} {x:AV},(j,x)∈numbered k l→k≤j∧l[j-k]?=some x
 | [],k,j,x,h=>by simp[numbered]at h
 | y::r,k,j,x,h=>by
  simp only[numbered,List.mem_cons,Prod.mk.injEq]at h
  rcases h with⟨rfl,rfl⟩ | h
  ·exact⟨Nat.le_refl _,by simp⟩
  ·obtain⟨h1,h2⟩:=tQ h
   exact⟨by omega,by rw[show j-k=(j-(k+1))+1 by omega];simpa using h2⟩
theorem Zp (r:AV) (ar:List AV):dv ((0,r)::numbered 1 ar) ((0,r)::numbered 1 ar):=by
 refine tI fun k v hm=>?_
 rcases List.mem_cons.1 hm with h | h
 ·injection h with h1 h2;subst h1;subst h2;simp[sget]
 ·obtain⟨h1,h2⟩:=tQ h
  simp only[sget]
  rw[if_neg (by omega)]
  have:=mr ar 1 (k-1) v h2
  rwa[show 1+(k-1)=k by omega]at this
theorem Zs (r r':AV) (ar:List AV):dv ((0,r')::(0,r)::numbered 1 ar) ((0,r')::numbered 1 ar):=by
 refine tI fun k v hm=>?_
 rcases List.mem_cons.1 hm with h | h
 ·injection h with h1 h2;subst h1;subst h2;simp[sget]
 ·obtain⟨h1,h2⟩:=tQ h
  simp only[sget]
  rw[if_neg (by omega),if_neg (by omega)]
  have:=mr ar 1 (k-1) v h2
  rwa[show 1+(k-1)=k by omega]at this
section
variable {Post R:HP→AV→List AV→Prop}
theorem cN.le (hF:cN Post R) {h h':HP} {r:AV} {ar:List AV} (hl:c7 h h') (hp:Post h' r ar):R h r ar:=hF h' r ar h r ar rfl (.le ⟨Zp r ar,hl⟩) hp
theorem cN.ro (hF:cN Post R) {h:HP} {r:AV} {ar:List AV} (hp:Post [] r ar):R h r ar:=cN.le (h':=[]) hF trivial hp
theorem cN.val (hF:cN Post R) {h:HP} {r r':AV} {ar:List AV} (hv:mK r r') (hp:Post [] r' ar):R h r ar:=
 hF [] r' ar h r ar rfl (.val 0 r r' rfl hv (.le ⟨Zs r r' ar,trivial⟩)) hp
theorem cN.wk (hF:cN Post R) {h':HP} {r':AV} {ar':List AV} {h:HP} {r:AV} {ar:List AV} (hlen:ar'.length=ar.length) (hw:Wk ⟨(0,r)::numbered 1 ar,h⟩ ⟨(0,r')::numbered 1 ar',h'⟩) (hp:Post h' r' ar'):R h r ar:=hF h' r' ar' h r ar hlen hw hp
theorem sN:cN Post (fun h r ar=>∃h2 r2 as2,as2.length=ar.length∧Wk ⟨(0,r)::numbered 1 ar,h⟩ ⟨(0,r2)::numbered 1 as2,h2⟩∧Post h2 r2 as2):=
 fun h' r' ar' _ _ _ h1 h2 h3=>⟨h',r',ar',h1,h2,h3⟩
end
theorem RV.Ct {X:Nat→Prop} {w:World} {ρ:Loc} {v:Value} {s:List UInt8} (h:RV X w ρ v (.str s)):v=.string ⟨s.toArray⟩:=by cases h;rfl
theorem RV.Hd {X:Nat→Prop} {w:World} {ρ:Loc} {v:Value} {b:Bool} (h:RV X w ρ v (.bool b)):v=.bool b:=by cases h;rfl
theorem RV.ZJ {X:Nat→Prop} {w:World} {ρ:Loc} {v x:Value} (h:RV X w ρ v (.lit x)):v=x:=by cases h;rfl
def valOf:AV→Value
 | .bool b=>.bool b
 | .int k n=>.int k n
 | .fl k b=>.float k b
 | .cx k a b=>.complex k a b
 | .str s=>.string ⟨s.toArray⟩
 | .aq=>.slice none 0 0
 | .lit x=>x
 | _=>undef
def isVal:AV→Bool
 | .bool _ | .int _ _ | .fl _ _ | .cx _ _ _ | .str _ | .aq | .lit _=>true
 | _=>false
theorem RV.valOf {X:Nat→Prop} {w:World} {ρ:Loc} {v:Value} {x:AV} (h:RV X w ρ v x) (hx:isVal x=true):v=valOf x:=by
 cases h<;>first | rfl | cases hx
theorem eB {X:Nat→Prop} {w:World} {ρ:Loc} {x:AV} (hx:isVal x=true):RV X w ρ (valOf x) x:=by
 cases x<;>first | (cases hx;done) | skip
 ·exact .bool _ _
 ·exact .int _ _ _
 ·exact .fl _ _ _
 ·exact .cx _ _ _ _
 ·exact .str _ _
 ·exact .lit _ _
 ·exact .aq _
def nq:AV→Bool
 | .ai vs=>vs.all isVal
 | x=>isVal x
def oq:AV→Value
 | .ai vs=>.tuple (vs.map valOf).toArray
 | x=>valOf x
theorem an9 {X:Nat→Prop} {w:World} {ρ:Loc} {x:AV} (hx:nq x=true):RV X w ρ (oq x) x:=by
 cases x with
 | ai vs=>
  refine .ai _ _ _ (by simp) (fun j v a h1 h2=>?_)
  simp only[List.getElem?_toArray,List.getElem?_map,h2,Option.map_some,Option.some.injEq]at h1
  subst h1
  exact eB (List.all_eq_true.1 hx a (List.mem_of_getElem? h2))
 | bool b=>exact eB (x:=.bool b) hx
 | int k n=>exact eB (x:=.int k n) hx
 | fl k b=>exact eB (x:=.fl k b) hx
 | cx k a b=>exact eB (x:=.cx k a b) hx
 | str s=>exact eB (x:=.str s) hx
 | lit x=>exact eB (x:=.lit x) hx
 | aq=>exact eB (x:=.aq) hx
 | undef=>exact eB (x:=.undef) hx
 | ro sz es=>exact eB (x:=.ro sz es) hx
 | aA x=>exact eB (x:=.aA x) hx
 | sl i o n=>exact eB (x:=.sl i o n) hx
 | ptr i j f=>exact eB (x:=.ptr i j f) hx
 | ab i f=>exact eB (x:=.ab i f) hx
 | agg cs=>exact eB (x:=.agg cs) hx
 | gd b x=>exact eB (x:=.gd b x) hx
 | aJ f cs=>exact eB (x:=.aJ f cs) hx
theorem Ck {P:Program} {f:Nat} {as:List AV} {Q:AV→Prop} (ha:as.all isVal=true)
    (h:∀w:World,ik w→Calls P f (as.map valOf).toArray w fun e w'=>∃v,Q v∧nq v=true∧e=.returned (oq v)∧Go.RowKit.Below w.heap.size w w'):Spec P f [] as (fun h r _=>h=[]∧Q r):=by
 intro X0 ρ w vs h1 hA h2 h3 h4
 have hvs:vs=(as.map valOf).toArray:=by
  apply Array.ext (by simpa using h3)
  intro j g1 g2
  have hj:j<as.length:=by omega
  have:=(h4 j _ as[j] (Array.getElem?_eq_getElem g1) (List.getElem?_eq_getElem hj)).valOf (List.all_eq_true.1 ha _ (List.getElem_mem hj))
  rw[this];simp
 rw[hvs]
 refine(h w hA.1).mono ?_
 rintro e w' ⟨v,hQ,hv,rfl,hb⟩
 refine⟨_,[],v,ρ,as,rfl,⟨rfl,hQ⟩,np _ _ _,an9 hv,rfl,fun j u x e1 e2=>?_,hb.os,hb.tape,hb.output,hb.size,fun b hb' _=>hb.block b hb',fun b hb'=>(gX hb').elim⟩
 rw[hvs]at h4
 have:=(h4 j u x e1 e2).valOf (List.all_eq_true.1 ha _ (List.mem_of_getElem? e2))
 rw[this]
 exact eB (List.all_eq_true.1 ha _ (List.mem_of_getElem? e2))
theorem uK {P:Program} {f:Nat} {as:List AV} {v:AV} (ha:as.all isVal=true) (hv:nq v=true)
    (h:∀w:World,ik w→Calls P f (as.map valOf).toArray w fun e w'=>e=.returned (oq v)∧Go.RowKit.Below w.heap.size w w'):aO P f as v:=
 Ck (Q:=fun r=>r=v) ha (fun w hA=>(h w hA).mono (fun e w' ⟨h1,h2⟩=>⟨v,rfl,hv,h1,h2⟩))
theorem Cl {P:Program} {f:Nat} {as:List AV} {v:AV} (ha:as.all isVal=true) (hv:nq v=true)
    (h:∀w:World,Calls P f (as.map valOf).toArray w fun e w'=>e=.returned (oq v)∧Go.RowKit.Below w.heap.size w w'):aO P f as v:=uK ha hv (fun w _=>h w)
theorem uN {P:Program} {f:Nat} {as:List AV} {v:AV} (ha:as.all isVal=true) (hv:nq v=true)
    (h:∀w:World,Calls P f (as.map valOf).toArray w fun e w'=>e=.returned (oq v)∧w'=w):aO P f as v:=
 Cl ha hv (fun w=>(h w).mono (fun e w' ⟨h1,h2⟩=>⟨h1,by rw[h2];exact .refl _ _⟩))
def KQ.post (rs:List RVar) (m:Nat) (R:HP→AV→List AV→Prop):KQ:=⟨postQ rs m R⟩
theorem oL {P:Program} {E:Env} {c:AC} {st:St} {Q:Exit→St→Prop} (s':List (Nat×AV)) (hs:dv st.s s') (h:bC P E c ⟨s',st.h⟩ Q):bC P E c st Q:=
 fun n code hc a w hr=>h n code hc a w (by obtain⟨ρ,hr⟩:=hr;exact⟨ρ,lf hr hs⟩)
theorem ais {st:St} {t:Nat} (ht:t<2000000):resOf st [.tmp t]=some (ev st (.t t)):=by simp[resOf,resAV,trE,ht]
theorem aiu {st:St} {t u:Nat} (ht:t<2000000) (hu:u<2000000):resOf st [.tmp t,.tmp u]=some (.ai [ev st (.t t),ev st (.t u)]):=by simp[resOf,resAV,trE,ht,hu]
theorem ait {st:St} {t u v:Nat} (ht:t<2000000) (hu:u<2000000) (hv:v<2000000):resOf st [.tmp t,.tmp u,.tmp v]=some (.ai [ev st (.t t),ev st (.t u),ev st (.t v)]):=by simp[resOf,resAV,trE,ht,hu,hv]
theorem air {st:St} {t u v x:Nat} (ht:t<2000000) (hu:u<2000000) (hv:v<2000000) (hx:x<2000000):resOf st [.tmp t,.tmp u,.tmp v,.tmp x]=some (.ai [ev st (.t t),ev st (.t u),ev st (.t v),ev st (.t x)]):=by simp[resOf,resAV,trE,ht,hu,hv,hx]
section
variable {m:Nat} {R:HP→AV→List AV→Prop} {st:St} {t u v x:Nat}
theorem YC:(KQ.post [] m R).ap .ret st=R st.h (.ai []) (argsAgain st 0 m):=by simp[KQ.post,postQ,resOf,resAV]
theorem YB:(KQ.post [] m R).ap .normal st=R st.h (.ai []) (argsAgain st 0 m):=by simp[KQ.post,postQ,resOf,resAV]
theorem YD (ht:t<2000000):(KQ.post [.tmp t] m R).ap .ret st=R st.h (ev st (.t t)) (argsAgain st 0 m):=by simp[KQ.post,postQ,ais ht]
theorem YE (ht:t<2000000) (hu:u<2000000):(KQ.post [.tmp t,.tmp u] m R).ap .ret st=R st.h (.ai [ev st (.t t),ev st (.t u)]) (argsAgain st 0 m):=by simp[KQ.post,postQ,aiu ht hu]
theorem YF (ht:t<2000000) (hu:u<2000000) (hv:v<2000000):(KQ.post [.tmp t,.tmp u,.tmp v] m R).ap .ret st=R st.h (.ai [ev st (.t t),ev st (.t u),ev st (.t v)]) (argsAgain st 0 m):=by simp[KQ.post,postQ,ait ht hu hv]
theorem YG (ht:t<2000000) (hu:u<2000000) (hv:v<2000000) (hx:x<2000000):(KQ.post [.tmp t,.tmp u,.tmp v,.tmp x] m R).ap .ret st=R st.h (.ai [ev st (.t t),ev st (.t u),ev st (.t v),ev st (.t x)]) (argsAgain st 0 m):=by simp[KQ.post,postQ,air ht hu hv hx]
end
def KQ.dies (V:Value):KQ:=⟨sA V⟩
theorem kS {V:Value} {st:St}:(KQ.dies V).ap (.panic (bJ V)) st=True:=by simp[KQ.dies,sA]
def KQ.guard (rs:List RVar) (m:Nat) (V:Value) (zA:AV) (R:HP→AV→List AV→Prop):KQ:=⟨Px rs m V zA R⟩
def guardP2 (rs:List RVar) (m:Nat) (zA:AV) (R:HP→AV→List AV→Prop) (st:St) (id:Nat):Option aF→Prop
 | some (.var [_])=>(KQ.post rs m R).ap .ret ⟨st.s,bz st.h id (.var [zA])⟩
 | _=>False
def guardP (rs:List RVar) (m:Nat) (zA:AV) (R:HP→AV→List AV→Prop) (st:St):Option AV→Prop
 | some (.ab id 0)=>guardP2 rs m zA R st id (hget st.h id)
 | _=>False
theorem yF {rs:List RVar} {m id:Nat} {zA:AV} {R:HP→AV→List AV→Prop} {st:St}:guardP rs m zA R st (some (.ab id 0))=guardP2 rs m zA R st id (hget st.h id):=(rfl)
theorem Pw {rs:List RVar} {m id:Nat} {zA c:AV} {R:HP→AV→List AV→Prop} {st:St}:guardP2 rs m zA R st id (some (.var [c]))=(KQ.post rs m R).ap .ret ⟨st.s,bz st.h id (.var [zA])⟩:=(rfl)
theorem Yo {rs:List RVar} {m:Nat} {V:Value} {zA:AV} {R:HP→AV→List AV→Prop} {st:St}:(KQ.guard rs m V zA R).ap .ret st=(KQ.post rs m R).ap .ret st:=(rfl)
theorem Yn {rs:List RVar} {m:Nat} {V:Value} {zA:AV} {R:HP→AV→List AV→Prop} {st:St}:(KQ.guard rs m V zA R).ap (.panic (bJ V)) st=guardP rs m zA R st (sget st.s (2000000+m)):=by
 apply propext
 constructor
 ·rintro⟨_,id,c,h1,h2,h3⟩
  rw[h1,yF,h2]
  exact h3
 ·intro h
  unfold guardP at h
  split at h
  ·rename_i id h1
   unfold guardP2 at h
   split at h
   ·rename_i c h2
    exact⟨rfl,id,c,h1,h2,h⟩
   ·exact h.elim
  ·exact h.elim
def KQ.eo (P:Program) (k m:Nat) (y:AK) (rs:List RVar) (V:Value) (zA:AV) (R:HP→AV→List AV→Prop):KQ:=
 ⟨fun e st=>e=.normal∧∃id,ev st (.t k)=.ab id 0∧∀E':Env,E'.N≤1000000→vcW P E' y (KQ.guard rs m V zA R) ⟨(2000000+m,.ab id 0)::st.s,st.h⟩⟩
theorem alQ {P:Program} {f:Nat} {fn:Func} {body:Code} {h:HP} {args:List AV} {x:AK} {V:Value} (hf:P.funcs[f]?=some fn) (hb:fn.body=some body) {B:Nat}
    (hc:trCode P fn.ntmps B body=x.erase B) (hN:fn.ntmps≤1000000) (ha:args.length≤fn.ntmps) (s:List (Nat×AV)) (hs:dv (fG args) s)
    (hp:∀(E:Env),E.N≤1000000→vcW P E x (KQ.dies V) ⟨s,h⟩):dQ P f h args V:=by
 refine alR hf hb hc hN ha (fun E hE hB hrd=>?_)
 have hEN:E.N≤1000000:=by rw[hE];exact hN
 have h1:=eC hEN x (hp E hEN)
 rw[hB]at h1
 exact oL s hs h1
def retCC (o p:Option AV) (R:HP→AV→List AV→Prop) (h:HP) (as:List AV):Prop:=
 match o,p with
 | some x,some y=>R h (.ai [x,y]) as
 | _,_=>False
theorem aiy {x y:AV} {R:HP→AV→List AV→Prop} {h:HP} {as:List AV}:retCC (some x) (some y) R h as=R h (.ai [x,y]) as:=(rfl)
theorem YA {m n t u k:Nat} {ag bg:Bool} {R:HP→AV→List AV→Prop} {st:St}:(KQ.post [.cell t ag n,.cell u bg k] m R).ap .ret st=retCC (resC st ag n (sget st.s t)) (resC st bg k (sget st.s u)) R st.h (argsAgain st 0 m):=by
 simp only[KQ.post,postQ,resOf,resAV]
 cases resC st ag n (sget st.s t)<;>cases resC st bg k (sget st.s u)<;>simp[consO,retCC]
def retC (o:Option AV) (ys:List AV) (R:HP→AV→List AV→Prop) (h:HP) (as:List AV):Prop:=
 match o,ys with
 | some x,[]=>R h x as
 | some x,ys=>R h (.ai (x::ys)) as
 | none,_=>False
theorem Pn:ghost []=[]:=(rfl)
theorem Pm {k:Nat} {v:AV} {r:List (Nat×AV)}:ghost ((k,v)::r)=(3000000+k,v)::ghost r:=(rfl)
theorem aiz {x:AV} {R:HP→AV→List AV→Prop} {h:HP} {as:List AV}:retC (some x) [] R h as=R h x as:=(rfl)
theorem aiA {x y:AV} {R:HP→AV→List AV→Prop} {h:HP} {as:List AV}:retC (some x) [y] R h as=R h (.ai [x,y]) as:=(rfl)
theorem Yy {m n t:Nat} {ag:Bool} {R:HP→AV→List AV→Prop} {st:St}:(KQ.post [.cell t ag n] m R).ap .ret st=retC (resC st ag n (sget st.s t)) [] R st.h (argsAgain st 0 m):=by
 simp only[KQ.post,postQ,resOf,resAV]
 cases resC st ag n (sget st.s t)<;>simp[consO,retC]
theorem Yz {m n t u:Nat} {ag:Bool} {R:HP→AV→List AV→Prop} {st:St} (hu:u<2000000):(KQ.post [.cell t ag n,.tmp u] m R).ap .ret st=retC (resC st ag n (sget st.s t)) [ev st (.t u)] R st.h (argsAgain st 0 m):=by
 simp only[KQ.post,postQ,resOf,resAV]
 cases resC st ag n (sget st.s t)<;>simp[consO,retC,trE,hu]
theorem aiq {st:St} {ag:Bool} {n id f:Nat}:resC st ag n (some (.ab id f))=resW ag n f (hget st.h id):=(rfl)
theorem aiv {ag:Bool} {n f:Nat} {cs:List AV}:resW ag n f (some (.var cs))=ldO ag n (cs.drop f):=(rfl)
theorem Zi {n:Nat} {cs:List AV} (h:n≤cs.length):ldO true n cs=some (.agg (cs.take n)):=by simp[ldO,h]
theorem Zh {n:Nat} {c:AV} {cs:List AV}:ldO false n (c::cs)=some c:=(rfl)
def qJ (b:Bool) (id' i:Nat):Nat:=match b with
 | true=>id'
 | false=>i
theorem aiL {id id' i:Nat}:rn id id' i=qJ (i==id) id' i:=by unfold rn qJ;cases i==id<;>rfl
theorem aiK {id' i:Nat}:qJ true id' i=id':=(rfl)
theorem aiJ {id' i:Nat}:qJ false id' i=i:=(rfl)
def qS (b:Bool) (v:AV) (r:List (Nat×AV)) (i:Nat):Option AV:=bif b then some v else sget r i
theorem ajW {i:Nat}:sget [] i=none:=(rfl)
theorem ajV {k i:Nat} {v:AV} {r:List (Nat×AV)}:sget ((k,v)::r) i=qS (i==k) v r i:=by
 simp only[sget,qS,cond_eq_ite,beq_iff_eq]
theorem ajU {v:AV} {r:List (Nat×AV)} {i:Nat}:qS true v r i=some v:=(rfl)
theorem ajT {v:AV} {r:List (Nat×AV)} {i:Nat}:qS false v r i=sget r i:=(rfl)
def pV (b:Bool) (v:aF) (r:HP) (i:Nat):Option aF:=bif b then some v else hget r i
theorem Qe {i:Nat}:hget [] i=none:=(rfl)
theorem Qd {k i:Nat} {v:aF} {r:HP}:hget ((k,v)::r) i=pV (i==k) v r i:=by
 simp only[hget,pV,cond_eq_ite,beq_iff_eq]
theorem Qc {v:aF} {r:HP} {i:Nat}:pV true v r i=some v:=(rfl)
theorem Qb {v:aF} {r:HP} {i:Nat}:pV false v r i=hget r i:=(rfl)
def pT (b:Bool) (k:Nat) (v:aF) (r:HP) (i:Nat):HP:=bif b then hdel i r else(k,v)::hdel i r
theorem PR {i:Nat}:hdel i []=[]:=(rfl)
theorem PQ {k i:Nat} {v:aF} {r:HP}:hdel i ((k,v)::r)=pT (i==k) k v r i:=by
 simp only[hdel,pT,cond_eq_ite,beq_iff_eq]
theorem PO {k:Nat} {v:aF} {r:HP} {i:Nat}:pT true k v r i=hdel i r:=(rfl)
theorem PN {k:Nat} {v:aF} {r:HP} {i:Nat}:pT false k v r i=(k,v)::hdel i r:=(rfl)
theorem Rv {h:HP} {id:Nat} {W:aF}:bz h id W=(id,W)::hdel id h:=(rfl)
def qg (b:Bool) (i:Nat) (r:List Nat):Bool:=bif b then true else memN i r
theorem aaR {i:Nat}:memN i []=false:=(rfl)
theorem aaQ {i k:Nat} {r:List Nat}:memN i (k::r)=qg (i==k) i r:=by
 simp only[memN,qg,cond_eq_ite,beq_iff_eq]
theorem aaP {i:Nat} {r:List Nat}:qg true i r=true:=(rfl)
theorem aaO {i:Nat} {r:List Nat}:qg false i r=memN i r:=(rfl)
def pz (b:Bool) (k:Nat) (W:aF) (ids keep:List Nat) (r:HP):HP:=bif b then dropH ids keep r else(k,jj ids keep W)::dropH ids keep r
theorem L8 {ids keep:List Nat}:dropH ids keep []=[]:=(rfl)
theorem L7 {ids keep:List Nat} {k:Nat} {W:aF} {r:HP}:dropH ids keep ((k,W)::r)=pz (memN k ids) k W ids keep r:=by
 simp only[dropH,pz,cond_eq_ite]
theorem L6 {ids keep:List Nat} {k:Nat} {W:aF} {r:HP}:pz true k W ids keep r=dropH ids keep r:=(rfl)
theorem L5 {ids keep:List Nat} {k:Nat} {W:aF} {r:HP}:pz false k W ids keep r=(k,jj ids keep W)::dropH ids keep r:=(rfl)
theorem XS {id:Nat}:killS id []=[]:=(rfl)
theorem XR {id k:Nat} {v:AV} {r:List (Nat×AV)}:killS id ((k,v)::r)=(k,kill id v)::killS id r:=(rfl)
theorem XO {id:Nat}:eF id []=[]:=(rfl)
theorem XN {id k:Nat} {v:aF} {r:HP}:eF id ((k,v)::r)=(k,jS id v)::eF id r:=(rfl)
theorem XQ {ids keep:List Nat}:killSI ids keep []=[]:=(rfl)
theorem XP {ids keep:List Nat} {k:Nat} {v:AV} {r:List (Nat×AV)}:killSI ids keep ((k,v)::r)=(k,kI ids keep v)::killSI ids keep r:=(rfl)
theorem O9 {id sz:Nat} {es:List AV}:frzS id sz es []=[]:=(rfl)
theorem O8 {id sz k:Nat} {es:List AV} {v:AV} {r:List (Nat×AV)}:frzS id sz es ((k,v)::r)=(k,bG id sz es v)::frzS id sz es r:=(rfl)
theorem O6 {id sz:Nat} {es:List AV}:frzH id sz es []=[]:=(rfl)
theorem O5 {id sz k:Nat} {es:List AV} {v:aF} {r:HP}:frzH id sz es ((k,v)::r)=(k,kL id sz es v)::frzH id sz es r:=(rfl)
def frzO (st:St) (id:Nat) (o:Option aF):St:=
 match o with
 | some (.arr sz es)=>⟨frzS id sz es st.s,frzH id sz es (hdel id st.h)⟩
 | _=>st
theorem Ow {st:St} {id:Nat}:freeze st id=frzO st id (hget st.h id):=by
 unfold freeze frzO;split<;>simp_all
theorem O7 {st:St} {id sz:Nat} {es:List AV}:frzO st id (some (.arr sz es))=⟨frzS id sz es st.s,frzH id sz es (hdel id st.h)⟩:=(rfl)
def rY (b:Bool) (Q:KQ) (j:Nat) (st:St):Prop:=match b with
 | true=>Q.ap .normal st
 | false=>Q.ap (.exit j) st
theorem Ye {Q:KQ} {i j:Nat} {st:St}:(KQ.ed i Q).ap (.exit j) st=rY (j==i) Q j st:=by
 rw[Yj]
 by_cases h:j=i
 ·subst h;rw[if_pos rfl,show(j==j)=true by simp];rfl
 ·rw[if_neg h,show(j==i)=false by simp[h]];rfl
theorem Gr {Q:KQ} {j:Nat} {st:St}:rY true Q j st=Q.ap .normal st:=(rfl)
theorem Gq {Q:KQ} {j:Nat} {st:St}:rY false Q j st=Q.ap (.exit j) st:=(rfl)
abbrev ints (xs:List Int):List AV:=xs.map (AV.int .i64)
theorem T7 (xs:List Int):ints xs=xs.map (AV.int .i64):=(rfl)
theorem abD {f:Int→AV} {xs:List Int} {i:Nat} (h:i<xs.length):nth (xs.map f) i=f (xs.getD i 0):=by
 simp[nth,List.getD_eq_getElem?_getD,h]
theorem abB {f:UInt8→AV} {xs:List UInt8} {i:Nat} (h:i<xs.length):nth (xs.map f) i=f (xs.getD i 0):=by
 simp[nth,List.getD_eq_getElem?_getD,h]
theorem abE {α:Type} {f:List α→AV} {xs:List (List α)} {i:Nat} (h:i<xs.length):nth (xs.map f) i=f (xs.getD i []):=by
 simp[nth,List.getD_eq_getElem?_getD,h]
theorem abC {α:Type} [Inhabited α] {f:α→AV} {xs:List α} {i:Nat} (h:i<xs.length):nth (xs.map f) i=f (xs.getD i default):=by
 simp[nth,List.getD_eq_getElem?_getD,h]
theorem amA {α:Type} {f:α→AV} {xs:List α} {o n:Nat}:aG (xs.map f) o n=((xs.drop o).take n).map f:=by
 simp[aG]
theorem amC {x:AV} {r:List AV} {o n:Nat}:aG (x::r) (o+1) n=aG r o n:=by simp[aG]
theorem amz {x:AV} {r:List AV} {n:Nat}:aG (x::r) 0 (n+1)=x::aG r 0 n:=by simp[aG]
theorem amD {r:List AV}:aG r 0 0=[]:=by simp[aG]
theorem amB {o n:Nat}:aG [] o n=[]:=by simp[aG]
theorem CA {α:Type} {xs:List α} {n:Nat} (h:xs.length≤n):xs.take n=xs:=List.take_of_length_le h
theorem L9 {α:Type} {xs:List α} {n:Nat} (h:xs.length≤n):xs.drop n=[]:=List.drop_eq_nil_of_le h
theorem ajR {α:Type} {f:α→AV} {xs:List α} {i:Nat} {y:α}:(xs.map f).set i (f y)=(xs.set i y).map f:=by rw[List.map_set]
theorem EG {α:Type} {f:α→AV} {xs:List α} {y:α}:xs.map f++[f y]=(xs++[y]).map f:=by simp
theorem EL {α:Type} {f:α→AV} {xs ys:List α}:xs.map f++ys.map f=(xs++ys).map f:=by simp
theorem Ig {k:IntKind} {xs:List Int}:(xs.map (AV.int k)).all aQ=true:=by simp[aQ,cellsOf,isCell]
theorem N6 {k:IntKind} {xs:List Int}:(xs.map (AV.int k)).all flA=true:=by simp[flA,flC]
theorem N5 {xs:List UInt8}:(xs.map ub).all flA=true:=by simp[flA,flC,ub]
theorem N7 {xs:List (List UInt8)}:(xs.map AV.str).all flA=true:=by simp[flA,flC]
theorem Ic {xs:List UInt8}:(xs.map ub).all aQ=true:=by simp[aQ,cellsOf,isCell,ub]
theorem Ij {xs:List (List UInt8)}:(xs.map AV.str).all aQ=true:=by simp[aQ,cellsOf,isCell]
theorem Ii {α:Type} {sz:Nat} {f:α→List AV} {xs:List α}:(xs.map fun x=>AV.ro sz (f x)).all aQ=true:=by simp[aQ,cellsOf,isCell]
def qR (b:Bool) (e v:AV):AV:=
 match b with
 | true=>v
 | false=>.agg (bU (cellsOf e) 0 (cellsOf v))
theorem ajP {e v:AV}:ia e 0 v=qR ((cellsOf v).length==(cellsOf e).length) e v:=by
 unfold ia qR
 by_cases h:(cellsOf v).length=(cellsOf e).length
 ·rw[if_pos ⟨rfl,h⟩,show((cellsOf v).length==(cellsOf e).length)=true by simp[h]]
 ·rw[if_neg (fun x=>h x.2),show((cellsOf v).length==(cellsOf e).length)=false by simp[h]]
theorem ajM {e v:AV}:qR true e v=v:=(rfl)
theorem ajL {e v:AV}:qR false e v=.agg (bU (cellsOf e) 0 (cellsOf v)):=(rfl)
theorem ajO {e v:AV} {f:Nat} (h:f≠0):ia e f v=.agg (bU (cellsOf e) f (cellsOf v)):=by
 unfold ia;rw[if_neg (fun x=>h x.1)]
theorem anj (b:UInt8):ub b=.int .u8 b.toNat:=(rfl)
theorem H9:cellsOf AV.undef=[AV.undef]:=(rfl)
theorem HW (b:Bool):cellsOf (.bool b)=[.bool b]:=(rfl)
theorem H0 (k:IntKind) (n:Int):cellsOf (.int k n)=[.int k n]:=(rfl)
theorem HZ (k:FloatKind) (n:Nat):cellsOf (.fl k n)=[.fl k n]:=(rfl)
theorem HX (k:FloatKind) (a b:Nat):cellsOf (.cx k a b)=[.cx k a b]:=(rfl)
theorem H8 (l:List UInt8):cellsOf (.str l)=[.str l]:=(rfl)
theorem H2 (x:Value):cellsOf (.lit x)=[.lit x]:=(rfl)
theorem H6 (sz:Nat) (es:List AV):cellsOf (.ro sz es)=[.ro sz es]:=(rfl)
theorem HY (x:AV):cellsOf (.aA x)=[.aA x]:=(rfl)
theorem H7 (i o n:Nat):cellsOf (.sl i o n)=[.sl i o n]:=(rfl)
theorem H4 (i j f:Nat):cellsOf (.ptr i j f)=[.ptr i j f]:=(rfl)
theorem Ia (i f:Nat):cellsOf (.ab i f)=[.ab i f]:=(rfl)
theorem H3:cellsOf .aq=[.aq]:=(rfl)
theorem HV (cs:List AV):cellsOf (.agg cs)=cs:=(rfl)
theorem ajQ {α:Type} (xs:List α) (a b:α):(xs++[a]).set xs.length b=xs++[b]:=by simp
theorem agY {a b:Bool}:(if a=true then true else b)=(a||b):=by cases a<;>rfl
theorem agW {a b:Bool}:(if a=true then b else false)=(a&&b):=by cases a<;>rfl
theorem agZ {p:Prop} [Decidable p] {b:Bool}:(if p then true else b)=(decide p||b):=by by_cases h:p<;>simp[h]
theorem agX {p:Prop} [Decidable p] {b:Bool}:(if p then b else false)=(decide p&&b):=by by_cases h:p<;>simp[h]
theorem Lf {b:Bool}:decide (b=true)=b:=by cases b<;>rfl
theorem T5 {a b:Int} (h:a=b):(a=b)=True:=eq_true h
theorem abm {a b:Nat} (h:a=b):(a=b)=True:=eq_true h
theorem Lj {p q:Prop} [Decidable p] [Decidable q]:(decide p||decide q)=decide (p∨q):=by simp
theorem Le {p q:Prop} [Decidable p] [Decidable q]:(decide p&&decide q)=decide (p∧q):=by simp
theorem Li {p:Prop} [Decidable p]:(!decide p)=decide (¬p):=by simp
theorem Gh {a b:List UInt8}:(a==b)=decide (a=b):=by
 by_cases h:a=b<;>simp[h]
theorem Gi {a:Bool}:(a==false)=!a:=by cases a<;>rfl
theorem Gj {a:Bool}:(a==true)=a:=by cases a<;>rfl
theorem CP {n:Int} (h:0≤n∧n≤255):ub (UInt8.ofNat n.toNat)=.int .u8 n:=by
 simp only[ub,UInt8.toNat_ofNat']
 congr 1
 omega
theorem ajS {xs:List UInt8} {i:Nat} {n:Int} (h:0≤n∧n≤255):(xs.map ub).set i (.int .u8 n)=(xs.set i (UInt8.ofNat n.toNat)).map ub:=by
 rw[←CP h,List.map_set]
theorem EN {xs:List UInt8} {n:Int} (h:0≤n∧n≤255):xs.map ub++[.int .u8 n]=(xs++[UInt8.ofNat n.toNat]).map ub:=by
 rw[←CP h];simp
theorem HN {xs:List UInt8}:bytesOf (xs.map ub)=xs:=by
 simp only[bytesOf,List.map_map]
 conv=>rhs;rw[←List.map_id xs]
 refine List.map_congr_left fun x _=>?_
 simp[byteOfAV,ub]
theorem Ed {xs:List UInt8}:gB (xs.map ub)=true:=by simp[gB,jf,ub]
theorem abh {a b:Int}:(if b > a then b else a)=max a b:=by omega
theorem aa8 {a b:Int}:(if b<a then b else a)=min a b:=by omega
theorem amZ {k:Nat}:((k:Int)-1).toNat=k-1:=by omega
theorem amY {k:Nat}:((k:Int)+1).toNat=k+1:=by omega
theorem toNat_add {k m:Nat}:((k:Int)+(m:Int)).toNat=k+m:=by omega
theorem toNat_sub {k m:Nat}:((k:Int)-(m:Int)).toNat=k-m:=by omega
theorem Ng (st:St):evL st []=[]∧(∀x r,evL st (x::r)=ev st x::evL st r):=⟨rfl,fun _ _=>rfl⟩
theorem Hg (h:HP):borL h []=[]∧(∀x r,borL h (x::r)=borrow h x::borL h r):=⟨rfl,fun _ _=>rfl⟩
theorem Hh (h0 h:HP):ku h0 h []=[]∧(∀x r,ku h0 h (x::r)=bor h0 h x::ku h0 h r):=⟨rfl,fun _ _=>rfl⟩
theorem al3:lj []=[]∧(∀x r,lj (x::r)=stripV x::lj r):=⟨rfl,fun _ _=>rfl⟩
theorem Ee:lD []=True∧(∀x r,lD (x::r)=(aB true x∧lD r)):=⟨rfl,fun _ _=>rfl⟩
theorem ES (st:St) (k:Nat):argsAgain st k 0=[]∧(∀n,argsAgain st k (n+1)=(sget st.s (2000000+k)).getD .undef::argsAgain st (k+1) n):=⟨rfl,fun _=>rfl⟩
theorem eU {n:Int} (h:-9223372036854775808≤n∧n≤9223372036854775807):IntKind.i64.wrap n=n:=IntWalk.i64_in n h
theorem Lk {p:Prop} [Decidable p] (h:p):decide p=true:=decide_eq_true h
theorem Lg {p:Prop} [Decidable p] (h:¬p):decide p=false:=decide_eq_false h
section
variable {P:Program} {st:St} {K:KS} {r:List ROp} {d:Nat} {c:Prop} {v:AV} {γ:Bool}
theorem aoc:valW P (.ok True v) d r st K=aopsW P r ⟨(d,v)::st.s,st.h⟩ K:=by simp only[u5,true_and]
theorem aob (h:c):valW P (.ok c v) d r st K=aopsW P r ⟨(d,v)::st.s,st.h⟩ K:=by simp only[u5,h,true_and]
theorem MQ:lQ P (.ok True v st) d r K=aopsW P r ⟨(d,v)::st.s,st.h⟩ K:=by simp only[sF,true_and]
theorem MP (h:c):lQ P (.ok c v st) d r K=aopsW P r ⟨(d,v)::st.s,st.h⟩ K:=by simp only[sF,h,true_and]
theorem MI:lP P (.ok True v st) r K=aopsW P r st K:=by simp only[sE,true_and]
theorem MH (h:c):lP P (.ok c v st) r K=aopsW P r st K:=by simp only[sE,h,true_and]
end
theorem aoK {n:Int} (h:-128≤n∧n≤127):IntKind.i8.wrap n=n:=IntWalk.i8_in n h
theorem aoJ {n:Int} (h:-32768≤n∧n≤32767):IntKind.i16.wrap n=n:=IntWalk.i16_in n h
theorem wrap_i32 {n:Int} (h:-2147483648≤n∧n≤2147483647):IntKind.i32.wrap n=n:=IntWalk.i32_in n h
theorem wrap_u8 {n:Int} (h:0≤n∧n≤255):IntKind.u8.wrap n=n:=IntWalk.u8_in n h
theorem wrap_u16 {n:Int} (h:0≤n∧n≤65535):IntKind.u16.wrap n=n:=IntWalk.u16_in n h
theorem wrap_u32 {n:Int} (h:0≤n∧n≤4294967295):IntKind.u32.wrap n=n:=IntWalk.u32_in n h
theorem wrap_u64 {n:Int} (h:0≤n∧n≤18446744073709551615):IntKind.u64.wrap n=n:=IntWalk.u64_in n h
section
variable {P:Program} {E:Env} {st:St} {Q:KQ} {x y:AK}
theorem tj {p:Prop} [Decidable p] (h1:p→vcW P E x Q st) (h2:¬p→vcW P E y Q st):kQ P E (decide p) x y Q st:=
 ⟨fun h=>h1 (of_decide_eq_true h),fun h=>h2 (of_decide_eq_false h)⟩
end
attribute [go_sem] YO Yh YJ Yr Yv YZ MD MB MC YY YX LZ L3 L4 ag4 lC kS yF Pw Yo Yn aiy YA Y1 YW YV Pn Pm aiz aiA Yy Yz aiq aiv Zi Zh YM Yf YH Yq Ys Yt Yp Yu Yw Yx aom aol Ng Hg Hh al3 Ee ES ED EE EF aoa Ex MO Ey MG rN Ew EC PC PB PA Py EB Pe Pd Pc Ez EA Y0 YN YP YQ Yg Yi Ye Gr Gq YI YK YL aot aoq aok I1 SM SL ang anh anf ane Zt Zr Zq Zo Zn YC YB YD YE YF YG XF XE ajW ajV ajU ajT Qe Qd Qc Qb Rv PR PQ PO PN aaR aaQ aaP aaO L8 L7 L6 L5 H9 HW H0 HZ HX H8 H2 H6 HY H7 H4 Ia H3 HV XS XR XQ XP O9 O8 O6 O5 Ow O7 XO XN aiL aiK aiJ List.take_succ_cons List.drop_succ_cons anj Bool.false_eq_true Bool.not_true Bool.not_false Bool.and_true Bool.true_and Bool.and_false Bool.false_and Bool.or_true Bool.or_false Bool.true_or Bool.false_or if_true if_false Option.getD_some Option.getD_none Option.map_some Option.map_none Option.isSome_some Option.isSome_none List.cons_append List.nil_append List.map_cons List.map_nil List.all_cons List.all_nil List.length_cons List.length_nil List.getD_cons_zero List.getD_cons_succ List.drop_zero List.take_zero decide_true decide_false agY agW agZ agX Lf T5 abm Lj Le Li Gh Gi Gj imp_self implies_true decide_eq_true_eq decide_eq_false_iff_not eq_self Int.natCast_add Int.cast_ofNat_Int Nat.zero_add Nat.add_zero Int.add_zero Int.zero_add Bool.and_self Nat.sub_zero true_and and_true false_and and_false not_true_eq_false not_false_eq_true Option.some.injEq aF.arr.injEq aF.var.injEq AV.int.injEq AV.bool.injEq AV.str.injEq AV.ro.injEq AV.sl.injEq AV.aA.injEq AV.agg.injEq AV.ai.injEq AV.fl.injEq AV.cx.injEq AV.ab.injEq AV.ptr.injEq List.cons.injEq Prod.mk.injEq false_imp_iff true_imp_iff forall_const Int.toNat_natCast T7 abD abB abE amA amB amC amz amD CA L9 List.set_cons_zero List.set_cons_succ amZ amY toNat_add toNat_sub abh aa8 ajR ajS EN HN Ed ajQ EG EL N6 N5 N7 Ig Ic Ij Ii List.length_map List.length_append List.length_set List.length_range List.length_replicate List.length_reverse ajP ajM ajL ajO
attribute [go_sem high] Pz aoc MQ MI
attribute [go_sem] aob MP MH eU aoK aoJ wrap_i32 wrap_u8 wrap_u16 wrap_u32 wrap_u64 Lk Lg
theorem uW {a b:Int} (h:0≤a):a.tdiv b=a/b:=Int.tdiv_eq_ediv_of_nonneg h
theorem mz {a b:Int} (h:0≤a):a.tmod b=a%b:=Int.tmod_eq_emod_of_nonneg h
attribute [go_sem] uW mz
attribute [go_sem low] abC
attribute [go_sem low] Et u5 sF sE
theorem Lx:(∀{α:Type} (a b:List α),(a++b).length=a.length+b.length)∧(∀{α:Type} (x:α) (a:List α),(x::a).length=a.length+1)∧(∀{α:Type},([]:List α).length=0)∧(∀{α:Type} (a:List α) (i:Nat) (x:α),(a.set i x).length=a.length) ∧
    (∀{α β:Type} (f:α→β) (a:List α),(a.map f).length=a.length)∧(∀{α:Type} (i:Nat) (a:List α),(a.take i).length=min i a.length)∧(∀{α:Type} (i:Nat) (a:List α),(a.drop i).length=a.length-i)∧(∀n:Nat,(List.range n).length=n) ∧
    (∀{α:Type} (n:Nat) (x:α),(List.replicate n x).length=n)∧(∀{α:Type} (a:List α),a.reverse.length=a.length):=
 ⟨fun _ _=>List.length_append,fun _ _=>List.length_cons,List.length_nil,fun _ _ _=>List.length_set,fun _ _=>List.length_map _,fun _ _=>List.length_take,fun _ _=>List.length_drop,fun _=>List.length_range,fun _ _=>List.length_replicate,fun _=>List.length_reverse⟩
theorem vV {p:Prop} (h:p:=by simp(disch:=first | omega | (simp only[Lx];omega))only[go_sem,simprocAttr]):p:=h
theorem wW {a b:Prop} (k:b) (h:b→a:=by intro h;simp(disch:=first | omega | (simp only[Lx];omega))only[go_sem,simprocAttr];exact h):a:=h k
theorem gG {a b:Prop} (k:b) (h:b→a:=by intro h;(repeat(first | (with_reducible refine dk ?_) | (with_reducible refine di ?_) | (with_reducible refine dj ?_))<;>simp(disch:=first | omega | (simp only[Lx];omega))only[go_sem,simprocAttr]);exact h):a:=h k
theorem fL {E0:Prop} {p:Prop} (e0:E0) (h:E0→p:=by intro e0;simp(disch:=first | omega | (simp only[Lx];omega))only[go_sem,simprocAttr,e0]):p:=h e0
theorem aw {E0:Prop} {a b:Prop} (e0:E0) (k:b) (h:E0→b→a:=by intro e0 h;simp(disch:=first | omega | (simp only[Lx];omega))only[go_sem,simprocAttr,e0];exact h):a:=h e0 k
theorem bW {E0:Prop} {a b:Prop} (e0:E0) (k:b) (h:E0→b→a:=by intro e0 h;(repeat(first | (with_reducible refine dk ?_) | (with_reducible refine di ?_) | (with_reducible refine dj ?_))<;>simp(disch:=first | omega | (simp only[Lx];omega))only[go_sem,simprocAttr,e0]);exact h):a:=h e0 k
theorem om {E0 E1:Prop} {p:Prop} (e0:E0) (e1:E1) (h:E0→E1→p:=by intro e0 e1;simp(disch:=first | omega | (simp only[Lx];omega))only[go_sem,simprocAttr,e0,e1]):p:=h e0 e1
theorem bc {E0 E1:Prop} {a b:Prop} (e0:E0) (e1:E1) (k:b) (h:E0→E1→b→a:=by intro e0 e1 h;simp(disch:=first | omega | (simp only[Lx];omega))only[go_sem,simprocAttr,e0,e1];exact h):a:=h e0 e1 k
theorem ft {E0 E1:Prop} {a b:Prop} (e0:E0) (e1:E1) (k:b) (h:E0→E1→b→a:=by intro e0 e1 h;(repeat(first | (with_reducible refine dk ?_) | (with_reducible refine di ?_) | (with_reducible refine dj ?_))<;>simp(disch:=first | omega | (simp only[Lx];omega))only[go_sem,simprocAttr,e0,e1]);exact h):a:=h e0 e1 k
theorem an6 {E0 E1 E2:Prop} {p:Prop} (e0:E0) (e1:E1) (e2:E2) (h:E0→E1→E2→p:=by intro e0 e1 e2;simp(disch:=first | omega | (simp only[Lx];omega))only[go_sem,simprocAttr,e0,e1,e2]):p:=h e0 e1 e2
theorem dz {E0 E1 E2:Prop} {a b:Prop} (e0:E0) (e1:E1) (e2:E2) (k:b) (h:E0→E1→E2→b→a:=by intro e0 e1 e2 h;simp(disch:=first | omega | (simp only[Lx];omega))only[go_sem,simprocAttr,e0,e1,e2];exact h):a:=h e0 e1 e2 k
theorem jN {E0 E1 E2:Prop} {a b:Prop} (e0:E0) (e1:E1) (e2:E2) (k:b) (h:E0→E1→E2→b→a:=by intro e0 e1 e2 h;(repeat(first | (with_reducible refine dk ?_) | (with_reducible refine di ?_) | (with_reducible refine dj ?_))<;>simp(disch:=first | omega | (simp only[Lx];omega))only[go_sem,simprocAttr,e0,e1,e2]);exact h):a:=h e0 e1 e2 k
theorem an7 {E0 E1 E2 E3:Prop} {p:Prop} (e0:E0) (e1:E1) (e2:E2) (e3:E3) (h:E0→E1→E2→E3→p:=by intro e0 e1 e2 e3;simp(disch:=first | omega | (simp only[Lx];omega))only[go_sem,simprocAttr,e0,e1,e2,e3]):p:=h e0 e1 e2 e3
theorem dW {E0 E1 E2 E3:Prop} {a b:Prop} (e0:E0) (e1:E1) (e2:E2) (e3:E3) (k:b) (h:E0→E1→E2→E3→b→a:=by intro e0 e1 e2 e3 h;simp(disch:=first | omega | (simp only[Lx];omega))only[go_sem,simprocAttr,e0,e1,e2,e3];exact h):a:=h e0 e1 e2 e3 k
theorem pJ {E0 E1 E2 E3:Prop} {a b:Prop} (e0:E0) (e1:E1) (e2:E2) (e3:E3) (k:b) (h:E0→E1→E2→E3→b→a:=by intro e0 e1 e2 e3 h;(repeat(first | (with_reducible refine dk ?_) | (with_reducible refine di ?_) | (with_reducible refine dj ?_))<;>simp(disch:=first | omega | (simp only[Lx];omega))only[go_sem,simprocAttr,e0,e1,e2,e3]);exact h):a:=h e0 e1 e2 e3 k
theorem jD {E0 E1 E2 E3 E4:Prop} {a b:Prop} (e0:E0) (e1:E1) (e2:E2) (e3:E3) (e4:E4) (k:b) (h:E0→E1→E2→E3→E4→b→a:=by intro e0 e1 e2 e3 e4 h;simp(disch:=first | omega | (simp only[Lx];omega))only[go_sem,simprocAttr,e0,e1,e2,e3,e4];exact h):a:=h e0 e1 e2 e3 e4 k
theorem s4 {E0 E1 E2 E3 E4:Prop} {a b:Prop} (e0:E0) (e1:E1) (e2:E2) (e3:E3) (e4:E4) (k:b) (h:E0→E1→E2→E3→E4→b→a:=by intro e0 e1 e2 e3 e4 h;(repeat(first | (with_reducible refine dk ?_) | (with_reducible refine di ?_) | (with_reducible refine dj ?_))<;>simp(disch:=first | omega | (simp only[Lx];omega))only[go_sem,simprocAttr,e0,e1,e2,e3,e4]);exact h):a:=h e0 e1 e2 e3 e4 k
theorem rl {E0 E1 E2 E3 E4 E5:Prop} {a b:Prop} (e0:E0) (e1:E1) (e2:E2) (e3:E3) (e4:E4) (e5:E5) (k:b) (h:E0→E1→E2→E3→E4→E5→b→a:=by intro e0 e1 e2 e3 e4 e5 h;simp(disch:=first | omega | (simp only[Lx];omega))only[go_sem,simprocAttr,e0,e1,e2,e3,e4,e5];exact h):a:=h e0 e1 e2 e3 e4 e5 k
inductive jE:AV→AV→Prop where
 | refl (a:AV):jE a a
 | nil (sz:Nat):jE .aq (.ro sz [])
inductive dY:List AV→List AV→Prop where
 | nil:dY [] []
 | cons {a b:AV} {as bs:List AV} (h:jE a b) (hs:dY as bs):dY (a::as) (b::bs)
inductive ki:AV→AV→Prop where
 | one {a b:AV} (h:jE a b):ki a b
 | ro {sz:Nat} {as bs:List AV} (h:dY as bs):ki (.ro sz as) (.ro sz bs)
 | agg {as bs:List AV} (h:dY as bs):ki (.agg as) (.agg bs)
inductive lx:List AV→List AV→Prop where
 | nil:lx [] []
 | cons {a b:AV} {as bs:List AV} (h:ki a b) (hs:lx as bs):lx (a::as) (b::bs)
theorem dY.refl:∀l:List AV,dY l l
 | []=>.nil
 | x::r=>.cons (.refl x) (dY.refl r)
theorem xM {a b:AV} (h:jE a b):dY (cellsOf a) (cellsOf b):=by
 cases h with
 | refl=>exact dY.refl _
 | nil sz=>exact .cons (.nil sz) .nil
theorem MS {a b c d:List AV} (h:dY a b) (k:dY c d):dY (a++c) (b++d):=by
 induction h with
 | nil=>exact k
 | cons h _ ih=>exact .cons h ih
theorem xO {as bs:List AV} (h:dY as bs):dY (flat as) (flat bs):=by
 induction h with
 | nil=>exact .nil
 | cons h _ ih=>
  simp only[flat,List.flatMap_cons]
  exact MS (xM h) ih
theorem ng {as bs:List AV} (h:dY as bs):as.length=bs.length:=by
 induction h with
 | nil=>rfl
 | cons h _ ih=>simp[ih]
theorem sG {as bs:List AV} (h:dY as bs):∀(j:Nat) (b:AV),bs[j]?=some b→∃a,as[j]?=some a∧jE a b:=by
 induction h with
 | nil=>intro j b hb;simp at hb
 | cons h _ ih=>
  intro j b hb
  cases j with
  | zero=>simp at hb;subst hb;exact⟨_,rfl,h⟩
  | succ j=>exact ih j b (by simpa using hb)
theorem MT {as bs:List AV} (h:dY as bs):∀b∈bs,∃a∈as,jE a b:=by
 intro b hb
 obtain⟨j,hj⟩:=List.mem_iff_getElem?.1 hb
 obtain⟨a,h1,h2⟩:=sG h j b hj
 exact⟨a,List.mem_of_getElem? h1,h2⟩
theorem RV.pC {X:Nat→Prop} {w:World} {ρ:Loc} {v:Value} {a b:AV} (h:RV X w ρ v a) (k:jE a b):RV X w ρ v b:=by
 cases k with
 | refl=>exact h
 | nil sz=>cases h;exact .ro ρ none 0 sz [] [] (Nat.le_refl _) (fun e he=>by cases he) rfl (fun j hj=>by simp at hj) (fun j v a h1 _=>by simp at h1)
theorem RV.Ec {X:Nat→Prop} {w:World} {ρ:Loc} {v:Value} {a b:AV} (h:RV X w ρ v a) (k:ki a b):RV X w ρ v b:=by
 cases k with
 | one k=>exact h.pC k
 | ro k=>
  cases h with
  | ro _ A c sz es vs hc aE hlen hcell hrel=>
   rw[ng k]
   refine .ro ρ A c _ _ vs (by rw[←ng k];exact hc) (fun e he=>?_) (by rw[hlen,ng (xO k)]) hcell (fun j v b h1 h2=>?_)
   ·obtain⟨a,ha,hab⟩:=MT k e he
    rw[←ng (xM hab)];exact aE a ha
   ·obtain⟨a,h3,h4⟩:=sG (xO k) j b h2
    exact(hrel j v a h1 h3).pC h4
 | agg k=>
  cases h with
  | agg _ vs _ hlen hrel=>
   refine .agg ρ vs _ (by rw[hlen,ng k]) (fun j v b h1 h2=>?_)
   obtain⟨a,h3,h4⟩:=sG k j b h2
   exact(hrel j v a h1 h3).pC h4
theorem Eh {as bs:List AV} (h:lx as bs):as.length=bs.length∧∀(j:Nat) (a:AV),as[j]?=some a→∃b,bs[j]?=some b∧ki a b:=by
 induction h with
 | nil=>exact⟨rfl,fun j b hb=>by simp at hb⟩
 | cons h _ ih=>
  refine⟨by simp[ih.1],fun j b hb=>?_⟩
  cases j with
  | zero=>simp at hb;subst hb;exact⟨_,rfl,h⟩
  | succ j=>exact ih.2 j b (by simpa using hb)
theorem Ej {as bs:List AV} (h:lx as bs):∀(j:Nat) (b:AV),bs[j]?=some b→∃a,as[j]?=some a∧ki a b:=by
 induction h with
 | nil=>intro j b hb;simp at hb
 | cons h _ ih=>
  intro j b hb
  cases j with
  | zero=>simp at hb;subst hb;exact⟨_,rfl,h⟩
  | succ j=>exact ih j b (by simpa using hb)
theorem alO {P:Program} {f:Nat} {h:HP} {as bs:List AV} {Post:HP→AV→List AV→Prop} (k:lx as bs) (hs:Spec P f h bs Post):Spec P f h as Post:=by
 intro X0 ρ w vs h1 hA h2 h3 h4
 have hl:=(Eh k).1
 rw[hl]
 exact hs X0 ρ w vs h1 hA h2 (by rw[h3,hl]) (fun j v b e1 e2=>by
  obtain⟨a,e3,e4⟩:=Ej k j b e2
  exact(h4 j v a e1 e3).Ec e4)
def vK:AE→Bool
 | .t _=>true
 | .c v=>flA v
theorem DA {P:Program} {q:Bool} {st st':St} {f:Nat} {args:List AE} {K:AV→St→Prop} (hw:Wk st st') (hc:args.all vK=true) (h:eM P q st' f args K):eM P q st f args K:=by
 intro E ρ a w vs hr aE hrv
 obtain⟨ρ',hr'⟩:=ig hw hr
 refine h E ρ' a w vs hr' aE (fun j v x e1 e2=>⟨?_,(hrv j v x e1 e2).2⟩)
 obtain⟨g1,g2⟩:=hrv j v x e1 e2
 cases x with
 | t k=>
  obtain⟨g3,g4⟩:=g2 k rfl
  have:=a8 hr' (.tmp k)
  simp only[trE,g3,if_true]at this
  rw[g4]
  exact this
 | c c=>
  have:=List.all_eq_true.1 hc _ (List.mem_of_getElem? e2)
  exact RV.flA (show RV _ w ρ v c from g1) this
theorem ky {P:Program} {q:Bool} {st:St} {f:Nat} {args:List AE} {as:List AV} {d:Option Nat} {r:List ROp} {K:KS} (st':St) (hw:Wk st st') (hc:args.all vK=true) (h:fY P q st' f args (evL st' args) d r K):fY P q st f args as d r K:=by
 rintro rfl
 exact DA hw hc (h (gL st' args))
end Go.Proofs.YtoalcafkffmiiaaGreatDoor.Eng
namespace Go.Proofs.YtoalcafkffmiiaaGreatDoor.Eng
def fM (P:Program) (f n:Nat) (h:HP) (args:List AV) (Post:HP→AV→List AV→Prop):Prop:=
 ∀(X0:Nat→Prop) (ρ:Loc) (w:World) (vs:Array Value),cD X0 ρ h w→il (aV ρ h) w→(∀b,X0 b→b<w.heap.size)→vs.size=args.length →
  (∀(j:Nat) v x,vs[j]?=some v→args[j]?=some x→RV (XX X0 ρ h) w ρ v x) →
  Calls P f (vs.extract 0 n) w fun e w'=>∃v h' r ρ' as,e=.returned v∧Post h' r as∧cD X0 ρ' h' w'∧RV (XX X0 ρ' h') w' ρ' v r ∧
   as.length=args.length∧(∀(j:Nat) v x,vs[j]?=some v→as[j]?=some x→RV (XX X0 ρ' h') w' ρ' v x) ∧
   w'.os=w.os∧w'.tape=w.tape∧w'.output=w.output∧w.heap.size≤w'.heap.size∧(∀b,b<w.heap.size→¬aV ρ h b→w'.heap[b]?=w.heap[b]?) ∧
   (∀b,aV ρ' h' b→w.heap.size≤b∨aV ρ h b)
def q9 (n:Nat) (args:List AV):List (Nat×AV):=numbered 0 (args.take n)++numbered 2000000 args
theorem alM {P:Program} {f:Nat} {fn:Func} {body:Code} {h:HP} {args:List AV} {Post:HP→AV→List AV→Prop} {c:AC} (hf:P.funcs[f]?=some fn) (hb:fn.body=some body) {B n:Nat} (hc:trCode P fn.ntmps B body=c)
    (hN:fn.ntmps≤1000000) (hn:n≤args.length) (ha:n≤fn.ntmps) (hp:∀E:Env,E.N=fn.ntmps→E.B=B→E.rd=none→bC P E c ⟨q9 n args,h⟩ (postQ (fn.results.toList.map (trRes P)) args.length Post)):fM P f n h args Post:=by
 intro X0 ρ w vs hh hA hX hvs hrv
 let E:Env:=⟨w,aV ρ h,X0,fn.ntmps,B,fun k=>vs.getD (k-2000000) undef,none,w.heap.size,Nat.le_refl _,[]⟩
 refine(callsIn_wide (n:=0)).1 (callsIn_of_wp_marks hf hb trivial (wpIn_mono (hp E rfl rfl rfl 0 body hc _ w ⟨ρ,?_⟩) ?_))
 ·have hex:∀k,k<n→(vs.extract 0 n)[k]?=vs[k]?:=fun k hk=>by
   rw[Array.getElem?_extract];simp;omega
  refine⟨eK.nil _ _,by simp[E];omega,fun k av hk=>?_,hh,fun id W L b h1 h2 h3=>.inr ⟨id,W,L,h1,h2,h3⟩,⟨rfl,rfl,rfl,Nat.le_refl _,fun _ _ _=>rfl,hA⟩,hX⟩
  simp only[q9,iU]at hk
  cases h0:sget (numbered 0 (args.take n)) k with
  | some av0=>
   rw[h0]at hk
   obtain rfl:=Option.some.inj hk
   obtain⟨_,h2⟩:=iV (args.take n) 0 k _ h0
   have hlt:k<n:=by
    have:=(List.getElem?_eq_some_iff.1 h2).1
    simp at this;omega
   have h2:args[k]?=some av0:=by
    rw[Nat.sub_zero,List.getElem?_take_of_lt hlt]at h2;exact h2
   have hlt2:k<E.N:=by simp only[E];omega
   refine⟨.inl hlt2,?_⟩
   have hv:vs[k]?=some (vs[k]'(by omega)):=Array.getElem?_eq_getElem _
   unfold aZ
   rw[if_pos hlt2,Array.getD_eq_getD_getElem?,Array.getElem?_append_left (by simp;omega),hex k hlt,hv]
   exact hrv k _ _ hv h2
  | none=>
   rw[h0]at hk
   obtain⟨h1,h2⟩:=iV args 2000000 k av hk
   have hlt:k-2000000<args.length:=(List.getElem?_eq_some_iff.1 h2).1
   refine⟨.inr h1,?_⟩
   have hv:vs[k-2000000]?=some (vs[k-2000000]'(by omega)):=Array.getElem?_eq_getElem _
   unfold aZ
   rw[if_neg (by simp only[E];omega)]
   simp only[E,Array.getD_eq_getD_getElem?,hv]
   exact hrv _ _ av hv h2
 ·rintro e a' w' ⟨st',⟨ρ',g0⟩,q⟩
  have fin:∀r,resOf st' (fn.results.toList.map (trRes P))=some r→Post st'.h r (argsAgain st' 0 args.length)→bodyPostM Fence.wide 0 P fn (fun e w'=>∃v h' r ρ' as,e=.returned v∧Post h' r as∧cD X0 ρ' h' w'∧RV (XX X0 ρ' h') w' ρ' v r ∧
   as.length=args.length∧(∀(j:Nat) v x,vs[j]?=some v→as[j]?=some x→RV (XX X0 ρ' h') w' ρ' v x) ∧
   w'.os=w.os∧w'.tape=w.tape∧w'.output=w.output∧w.heap.size≤w'.heap.size∧(∀b,b<w.heap.size→¬aV ρ h b→w'.heap[b]?=w.heap[b]?) ∧
   (∀b,aV ρ' h' b→w.heap.size≤b∨aV ρ h b)) .ret a' w':=by
   intro r hr hP
   obtain⟨⟨Ds,hDs⟩,_⟩:=g0.defers
   show LeavesInM Fence.wide 0 P fn a'.tmps _ a'.defers .returning w'
   rw[hDs]
   refine jU (E:=E) (ρ:=ρ') (st:=st') (a:=a') (by simp) (fun w' g=>?_) rfl rfl Ds w' (by rw[←hDs];exact g0)
   obtain⟨v,g1,g2⟩:=uu (P:=P) g hr
   refine⟨v,g1,v,st'.h,r,ρ',_,rfl,hP,g.heap,g2,mO _ _ _,fun j v x e1 e2=>?_,g.az.os,g.az.tape,g.az.output,g.az.size,g.az.block,fun b ⟨id,W,L,h1,h2,h3⟩=>g.base id W L b h1 h2 h3⟩
   have:=oI st' _ _ j x e2
   rw[Nat.zero_add]at this
   cases hs:sget st'.s (2000000+j)with
   | none=>rw[hs]at this;subst this;exact .undef _ _
   | some av=>
    rw[hs]at this
    obtain rfl:x=av:=this
    have hr2:=(g.aU _ _ hs).2
    unfold aZ at hr2
    rw[if_neg (by simp only[E];omega)]at hr2
    simp only[E,Nat.add_sub_cancel_left,Array.getD_eq_getD_getElem?,e1]at hr2
    exact hr2
  cases e with
  | normal=>obtain⟨r,hr,hP⟩:=q;exact fin r hr hP
  | ret=>obtain⟨r,hr,hP⟩:=q;exact fin r hr hP
  | exit id=>exact q.elim
  | goto l=>exact q.elim
  | panic ch=>exact q.elim
  | outgrown=>exact q.elim
theorem alN {P:Program} {f n:Nat} {h:HP} {args:List AV} {Post:HP→AV→List AV→Prop}
    (hs:fM P f n h args (fun h' r as=>∃h2 r2 as2,as2.length=as.length∧Wk ⟨(0,r)::numbered 1 as,h'⟩ ⟨(0,r2)::numbered 1 as2,h2⟩∧Post h2 r2 as2)):fM P f n h args Post:=by
 intro X0 ρ w vs h1 hA h2 h3 h4
 refine(hs X0 ρ w vs h1 hA h2 h3 h4).mono ?_
 rintro e w' ⟨v,h',r,ρ',as,rfl,⟨h2',r2,as2,hlen,hwk,hP⟩,g3,g4,g5,g6,g7,g8,g9,g10,g11,g12⟩
 let E:Env:=⟨w',fun b=>w.heap.size≤b∨aV ρ h b,X0,vs.size+1,0,fun _=>undef,none,0,Nat.zero_le _,[]⟩
 let a:Act:={tmps:=#[v]++vs,defers:=[]}
 have hsv:∀j,j<vs.size→aZ E a (1+j)=vs.getD j undef:=by
  intro j hj
  unfold aZ
  rw[if_pos (show 1+j<vs.size+1 by omega)]
  simp only[a,Array.getD_eq_getD_getElem?]
  rw[Array.getElem?_append_right (by simp)]
  simp
 have hr:al E ρ' ⟨(0,r)::numbered 1 as,h'⟩ a w':=by
  refine⟨eK.nil _ _,by simp[a,E];omega,fun k av hk=>?_,g3,fun id W L b e1 e2 e3=>.inr (g12 b ⟨id,W,L,e1,e2,e3⟩),⟨rfl,rfl,rfl,Nat.le_refl _,fun _ _ _=>rfl,hA.1.stays (fun b _ _ _ hb _=>g11 b (hA.1.lt hb) (hA.2 b hb)),fun b hb hx=>hx.elim (fun g=>by have:=hA.1.lt hb;omega) (hA.2 b hb)⟩,fun b hb=>Nat.lt_of_lt_of_le (h2 b hb) g10⟩
  simp only[sget]at hk
  split at hk
  ·rename_i e;subst e
   obtain rfl:=Option.some.inj hk
   refine⟨.inl (show 0<vs.size+1 by omega),?_⟩
   have:aZ E a 0=v:=by
    unfold aZ
    rw[if_pos (show 0<vs.size+1 by omega)]
    simp only[a];exact pN v vs
   rw[this];exact g4
  ·obtain⟨e1,e2⟩:=iV as 1 k av hk
   have hlt:=(List.getElem?_eq_some_iff.1 e2).1
   obtain⟨j,rfl⟩:∃j,k=1+j:=⟨k-1,by omega⟩
   have hj:j<vs.size:=by omega
   refine⟨.inl (show 1+j<vs.size+1 by omega),?_⟩
   rw[hsv j hj]
   have hv:vs[j]?=some (vs.getD j undef):=by rw[Array.getD_eq_getD_getElem?,Array.getElem?_eq_getElem hj];rfl
   exact g6 j _ av hv (by rw[Nat.add_sub_cancel_left]at e2;exact e2)
 obtain⟨ρ2,hr2⟩:=ig hwk hr
 refine⟨v,h2',r2,ρ2,as2,rfl,hP,hr2.heap,?_,by omega,fun j u x e1 e2=>?_,g7,g8,g9,g10,g11,fun b ⟨id,W,L,e1,e2,e3⟩=>?_⟩
 ·have:=(hr2.aU 0 r2 (by simp[sget])).2
  have e:aZ E a 0=v:=by
   unfold aZ
   rw[if_pos (show 0<vs.size+1 by omega)]
   simp only[a];exact pN v vs
  rw[e]at this;exact this
 ·have hj:=(Array.getElem?_eq_some_iff.1 e1).1
  have hs2:sget ((0,r2)::numbered 1 as2) (1+j)=some x:=by
   simp only[sget]
   rw[if_neg (by omega)]
   exact mr as2 1 j x e2
  have:=(hr2.aU (1+j) x hs2).2
  rw[hsv j hj,Array.getD_eq_getD_getElem?,e1]at this
  exact this
 ·rcases hr2.base id W L b e1 e2 e3 with g | g
  ·exact .inl (Nat.le_trans g10 g)
  ·exact g
def fltB (b:Bool) (k:Nat) (v:AV) (r:List (Nat×AV)):List (Nat×AV):=
 match b with
 | true=>(k,v)::r
 | false=>r
def fltO (o:Option AV) (k:Nat) (r:List (Nat×AV)):List (Nat×AV):=
 match o with
 | some v=>fltB (flA v) k v r
 | none=>r
def fltS (s0:List (Nat×AV)):List (Nat×AV)→List (Nat×AV)
 | []=>[]
 | (k,_)::r=>fltO (sget s0 k) k (fltS s0 r)
def getL (s:List (Nat×AV)):List Nat→List AV
 | []=>[]
 | k::r=>(sget s k).getD .undef::getL s r
def zipS:List Nat→List AV→List (Nat×AV)
 | k::ks,v::vs=>(k,v)::zipS ks vs
 | _,_=>[]
theorem yy (s:List (Nat×AV)):∀ks,(getL s ks).length=ks.length
 | []=>rfl
 | k::r=>by simp[getL,yy s r]
theorem yx (s:List (Nat×AV)):∀(ks:List Nat) (j k:Nat),ks[j]?=some k→(getL s ks)[j]?=some ((sget s k).getD .undef)
 | [],j,k,h=>by simp at h
 | q::r,0,k,h=>by simp at h;subst h;rfl
 | q::r,j+1,k,h=>by simpa[getL]using yx s r j k (by simpa using h)
theorem Dh:∀{ks:List Nat} {vs:List AV} {k:Nat} {v:AV},sget (zipS ks vs) k=some v→∃j:Nat,ks[j]?=some k∧vs[j]?=some v
 | [],vs,k,v,h=>by simp[zipS,sget]at h
 | q::ks,[],k,v,h=>by simp[zipS,sget]at h
 | q::ks,u::vs,k,v,h=>by
  simp only[zipS,sget]at h
  split at h
  ·rename_i e
   obtain rfl:=Option.some.inj h
   exact⟨0,by rw[e];rfl,rfl⟩
  ·obtain⟨j,h1,h2⟩:=Dh h
   exact⟨j+1,by simpa using h1,by simpa using h2⟩
theorem pI {s0:List (Nat×AV)}:∀{s:List (Nat×AV)} {k:Nat} {v:AV},sget (fltS s0 s) k=some v→sget s0 k=some v∧flA v=true
 | [],k,v,h=>by simp[fltS,sget]at h
 | (q,u)::s,k,v,h=>by
  unfold fltS at h
  cases hq:sget s0 q with
  | none=>rw[hq]at h;exact pI (s:=s) h
  | some x=>
   rw[hq]at h
   simp only[fltO]at h
   cases hu:flA x with
   | true=>
    rw[hu]at h
    simp only[fltB,sget]at h
    split at h
    ·rename_i e
     subst e
     obtain rfl:=Option.some.inj h
     exact⟨hq,hu⟩
    ·exact pI h
   | false=>
    rw[hu]at h
    exact pI (s:=s) h
def mM (st:St) (ks:List Nat) (h':HP) (gs:List AV):St:=⟨zipS ks gs++fltS st.s st.s,h'⟩
theorem Dw {P:Program} {st:St} {f:Nat} {args:List AE} {K:AV→St→Prop} {Post:HP→AV→List AV→Prop} (ks:List Nat) (hks:ks.all (fun k=>(sget st.s k).isSome)=true)
    (hs:fM P f args.length st.h (args.map (ev st)++getL st.s ks) Post)
    (hK:∀h' r as,Post h' r as→K r (mM st ks h' (as.drop args.length))):eM P false st f args K:=by
 intro E ρ a w vs h hvs hrv
 let us:Array Value:=(ks.map (aZ E a)).toArray
 have hus:us.size=ks.length:=by simp[us]
 have hex:(vs++us).extract 0 args.length=vs:=by
  rw[←hvs];simp
 have:=hs E.X0 ρ w (vs++us) h.heap h.ct h.x0 (by simp[hvs,hus,yy]) (fun j v x e1 e2=>?_)
 ·rw[hex]at this
  refine this.mono ?_
  rintro e w' ⟨v,h',r,ρ',as,rfl,hP,hH,hr,hal,has,q1,q2,q3,q4,q5,q6⟩
  refine⟨v,ρ',mM st ks h' (as.drop args.length),r,rfl,⟨h.defers.turn (fun b hb=>q5 b (Array.getElem?_eq_some_iff.1 hb).1 (fun hx=>iM h.heap hb hx)),h.size,fun k av hk=>?_,hH,fun id W L b e1 e2 e3=>?_,?_,fun b hb=>Nat.lt_of_lt_of_le (h.x0 b hb) q4⟩,hr,hK h' r as hP,fun hq=>by cases hq⟩
  ·simp only[mM,iU]at hk
   cases hz:sget (zipS ks (as.drop args.length)) k with
   | some av1=>
    rw[hz]at hk
    obtain rfl:av1=av:=Option.some.inj hk
    obtain⟨j,g1,g2⟩:=Dh hz
    have hk1:=List.all_eq_true.1 hks k (List.mem_of_getElem? g1)
    obtain⟨av0,hav0⟩:=Option.isSome_iff_exists.1 hk1
    refine⟨(h.aU k av0 hav0).1,?_⟩
    rw[List.getElem?_drop]at g2
    refine has (args.length+j) (aZ E a k) av1 ?_ g2
    rw[Array.getElem?_append_right (by omega),hvs,Nat.add_sub_cancel_left]
    simp[us,g1]
   | none=>
    rw[hz,Option.none_or]at hk
    obtain⟨g1,g2⟩:=pI hk
    exact⟨(h.aU k av g1).1,(h.aU k av g1).2.flA g2⟩
  ·rcases q6 b ⟨id,W,L,e1,e2,e3⟩with g | ⟨id',W',L',f1,f2,f3⟩
   ·exact .inl (Nat.le_trans h.az.size g)
   ·exact h.base id' W' L' b f1 f2 f3
  ·refine⟨q1.trans h.az.os,q2.trans h.az.tape,q3.trans h.az.output,Nat.le_trans h.az.size q4,fun b hb hF=>(q5 b (Nat.lt_of_lt_of_le hb h.az.size) ?_).trans (h.az.block b hb hF),h.az.ct⟩
   rintro⟨id',W',L',f1,f2,f3⟩
   rcases h.base id' W' L' b f1 f2 f3 with g | g
   ·omega
   ·exact hF g
 ·by_cases hj:j<args.length
  ·rw[Array.getElem?_append_left (by omega)]at e1
   rw[List.getElem?_append_left (by simpa using hj),List.getElem?_map]at e2
   obtain⟨y,g1,rfl⟩:=Option.map_eq_some_iff.1 e2
   exact(hrv j v y e1 g1).1
  ·rw[Array.getElem?_append_right (by omega),hvs]at e1
   rw[List.getElem?_append_right (by simpa using hj),List.length_map]at e2
   simp only[us,List.getElem?_toArray,List.getElem?_map]at e1
   obtain⟨k,g1,rfl⟩:=Option.map_eq_some_iff.1 e1
   rw[yx _ _ _ _ g1]at e2
   obtain rfl:=Option.some.inj e2
   obtain⟨av0,hav0⟩:=Option.isSome_iff_exists.1 (List.all_eq_true.1 hks k (List.mem_of_getElem? g1))
   rw[hav0]
   exact(h.aU k av0 hav0).2
section
variable {P:Program} {st:St} {f n:Nat} {args:List AE} {as bs:List AV} {d:Option Nat} {r:List ROp} {K:KS} {Post:HP→AV→List AV→Prop}
theorem oX (ks:List Nat) (hks:ks.all (fun k=>(sget st.s k).isSome)=true) (hb:as++getL st.s ks=bs) (hn:args.length=n) (hs:fM P f n st.h bs Post)
    (h:∀h' v as',Post h' v as'→aopsW P r (put (mM st ks h' (as'.drop n)) d v) K):fY P false st f args as d r K:=by
 rintro rfl
 subst hb
 subst hn
 exact Dw ks hks hs h
end
theorem Om (s0:List (Nat×AV)):fltS s0 []=[]:=(rfl)
theorem Ol (s0:List (Nat×AV)) (k:Nat) (v:AV) (r:List (Nat×AV)):fltS s0 ((k,v)::r)=fltO (sget s0 k) k (fltS s0 r):=(rfl)
theorem Oj (v:AV) (k:Nat) (r:List (Nat×AV)):fltO (some v) k r=fltB (flA v) k v r:=(rfl)
theorem Oi (v:AV) (k:Nat) (r:List (Nat×AV)):fltB true k v r=(k,v)::r:=(rfl)
theorem Oh (v:AV) (k:Nat) (r:List (Nat×AV)):fltB false k v r=r:=(rfl)
theorem Pg (s:List (Nat×AV)):getL s []=[]:=(rfl)
theorem Pf (s:List (Nat×AV)) (k:Nat) (r:List Nat):getL s (k::r)=(sget s k).getD .undef::getL s r:=(rfl)
theorem aqW (vs:List AV):zipS [] vs=[]:=(rfl)
theorem aqV (k:Nat) (ks:List Nat) (v:AV) (vs:List AV):zipS (k::ks) (v::vs)=(k,v)::zipS ks vs:=(rfl)
theorem Ef (st:St) (ks:List Nat) (h':HP) (gs:List AV):mM st ks h' gs=⟨zipS ks gs++fltS st.s st.s,h'⟩:=(rfl)
attribute [go_sem] Om Ol Oj Oi Oh Pg Pf aqW aqV Ef
end Go.Proofs.YtoalcafkffmiiaaGreatDoor.Eng
namespace Go.Proofs.YtoalcafkffmiiaaGreatDoor.Eng
namespace Kz
abbrev ci (n:Int):AE:=.c (.int .i64 n)
abbrev m (d k:Nat):ROp:=.v d (.ah (.t k))
abbrev k (d:Nat) (x:AE):ROp:=.v d (.ah x)
abbrev b (d:Nat) (op:BinOp) (x y:Nat):ROp:=.v d (.bin op (.t x) (.t y))
abbrev bi (d:Nat) (op:BinOp) (x:Nat) (n:Int):ROp:=.v d (.bin op (.t x) (ci n))
abbrev u (id d:Nat) (o:AO):ROp:=.val d true id o
end Kz
section
variable {P:Program} {E:Env} {st:St} {Q:KQ}
theorem aoo {pre post:List ROp} {o:ROp} {ks:List Nat}:vcW P E (.cc pre o post ks) Q st=aopsW P pre st (KS.py P o post ks Q):=(rfl)
theorem aop {pre bq post:List ROp} {o o2:ROp} {ks:List Nat}:vcW P E (.mj pre o bq o2 post ks) Q st=aopsW P pre st (KS.xy P o bq o2 post ks Q):=(rfl)
theorem aof {p x y:List ROp} {ks:List Nat}:vcW P E (.alt p x y ks) Q st=aopsW P p st (KS.alt P x y ks Q):=(rfl)
theorem aog {T:RT} {ks:List Nat}:vcW P E (.fW T ks) Q st=hV P T st (KS.aa ks Q):=(rfl)
theorem aou {ops:List ROp} {d f bk p q0:Nat} {x:AE} {c:UInt8} {body:AK}:vcW P E (.split ops d f x c bk p q0 body) Q st=aopsW P ops st (KS.Cm P E d f x c bk p q0 body Q):=(rfl)
theorem aoh {ops:List ROp} {d f kx bk p1 p q0:Nat} {body:AK}:vcW P E (.back ops d f kx bk p1 p q0 body) Q st=aopsW P ops st (KS.vX P E d f kx bk p1 p q0 body Q):=(rfl)
end
attribute [go_sem] aos aon aoj aoi aoo aop aof aou aoh aog ajl ajm Y2
def fnChk (P:Program) (fn:Func) (B p:Nat):Option (AC×List RVar):=
 match fn.body with
 | some b=>bif Nat.ble fn.ntmps 1000000&&Nat.ble p fn.ntmps then some (trCode P fn.ntmps B b,fn.results.toList.map (trRes P))else none
 | none=>none
def aD (P:Program) (f B p:Nat) (x:AK) (rs:List RVar):Prop:=∃fn,P.funcs[f]?=some fn∧fnChk P fn B p=some (x.erase B,rs)
theorem aD.out {P:Program} {f B p:Nat} {x:AK} {rs:List RVar} (h:aD P f B p x rs):∃fn body,P.funcs[f]?=some fn∧fn.body=some body∧trCode P fn.ntmps B body=x.erase B∧fn.results.toList.map (trRes P)=rs∧fn.ntmps≤1000000∧p≤fn.ntmps:=by
 obtain⟨fn,h1,h2⟩:=h
 unfold fnChk at h2
 split at h2
 ·rename_i body hb
  cases hc:(Nat.ble fn.ntmps 1000000&&Nat.ble p fn.ntmps)with
  | false=>rw[hc]at h2;cases h2
  | true=>
   rw[hc]at h2
   have h3:=Option.some.inj h2
   injection h3 with h4 h5
   simp only[Bool.and_eq_true,Nat.ble_eq]at hc
   exact⟨fn,body,h1,hb,h4,h5,hc.1,hc.2⟩
 ·cases h2
def aI (P:Program) (x:AK) (rs:List RVar) (p:Nat) (s:List (Nat×AV)) (h:HP) (Post:HP→AV→List AV→Prop):Prop:=
 ∀(E:Env) (R:HP→AV→List AV→Prop),E.N≤1000000→cN Post R→vcW P E x (KQ.post rs p R) ⟨s,h⟩
def oz (P:Program) (x:AK) (rs:List RVar) (p:Nat) (s:List (Nat×AV)) (h:HP) (Post:HP→AV→List AV→Prop):Prop:=
 ∀(E:Env) (R:HP→AV→List AV→Prop),E.N≤1000000→E.rd=none→cN Post R→vcW P E x (KQ.post rs p R) ⟨s,h⟩
def kl (P:Program) (x:AK) (V:Value) (s:List (Nat×AV)) (h:HP):Prop:=∀(E:Env),E.N≤1000000→vcW P E x (KQ.dies V) ⟨s,h⟩
section
variable {P:Program} {f B p:Nat} {x:AK} {rs:List RVar} {h:HP} {args:List AV} {Post:HP→AV→List AV→Prop}
theorem uM (hf:aD P f B p x rs) (hl:args.length=p) (s:List (Nat×AV)) (hs:dv (fG args) s) (hp:oz P x rs p s h Post):Spec P f h args Post:=by
 obtain⟨fn,body,h1,h2,h3,h4,h5,h6⟩:=hf.out
 refine uO (alV h1 h2 h3 h5 (by omega) (fun E hE hB hrd=>?_))
 have hN:E.N≤1000000:=by rw[hE];exact h5
 rw[h4,←hB,hl]
 exact oL s hs (eC hN _ (hp E _ hN hrd sN))
theorem aK (hf:aD P f B p x rs) (hl:args.length=p) (s:List (Nat×AV)) (hs:dv (fG args) s) (hp:aI P x rs p s h Post):Spec P f h args Post:=
 uM hf hl s hs (fun E R h1 _ h2=>hp E R h1 h2)
theorem mv {V:Value} (hf:aD P f B p x rs) (hl:args.length=p) (s:List (Nat×AV)) (hs:dv (fG args) s) (hp:kl P x V s h):dQ P f h args V:=by
 obtain⟨fn,body,h1,h2,h3,h4,h5,h6⟩:=hf.out
 exact alQ h1 h2 h3 h5 (by omega) s hs hp
theorem alT {n:Nat} (hf:aD P f B n x rs) (hl:n≤args.length) (s:List (Nat×AV)) (hs:dv (q9 n args) s) (hp:oz P x rs args.length s h Post):fM P f n h args Post:=by
 obtain⟨fn,body,h1,h2,h3,h4,h5,h6⟩:=hf.out
 refine alN (alM h1 h2 h3 h5 hl (by omega) (fun E hE hB hrd=>?_))
 have hN:E.N≤1000000:=by rw[hE];exact h5
 rw[h4,←hB]
 exact oL s hs (eC hN _ (hp E _ hN hrd sN))
theorem alS {n:Nat} (hf:aD P f B n x rs) (hl:n≤args.length) (s:List (Nat×AV)) (hs:dv (q9 n args) s) (hp:aI P x rs args.length s h Post):fM P f n h args Post:=
 alT hf hl s hs (fun E R h1 _ h2=>hp E R h1 h2)
end
end Go.Proofs.YtoalcafkffmiiaaGreatDoor.Eng
namespace Go.Proofs.YtoalcafkffmiiaaGreatDoor.Eng
def mJ (P:Program) (g:Nat) (h:HP) (args:List AV) (V:Value) (h':HP):Prop:=
 ∀(X0:Nat→Prop) (ρ:Loc) (w:World) (vs:Array Value),cD X0 ρ h w→il (aV ρ h) w→(∀b,X0 b→b<w.heap.size)→vs.size=args.length →
  (∀(j:Nat) v x,vs[j]?=some v→args[j]?=some x→RV (XX X0 ρ h) w ρ v x) →
  CallsDIn Fence.wide 0 P g vs (.panicking (bJ V)) w fun e u' w'=>(∃v,e=.returned v)∧u'=.panicking [{v:=V,recovered:=true}]∧∃ρ',cD X0 ρ' h' w' ∧
   (∀(j:Nat) v x,vs[j]?=some v→args[j]?=some x→RV (XX X0 ρ' h') w' ρ' v x) ∧
   w'.os=w.os∧w'.tape=w.tape∧w'.output=w.output∧w.heap.size≤w'.heap.size∧(∀b,b<w.heap.size→¬aV ρ h b→w'.heap[b]?=w.heap[b]?) ∧
   (∀b,aV ρ' h' b→w.heap.size≤b∨aV ρ h b)
def jF (P:Program) (g k:Nat):Prop:=∀(vs:Array Value) (w:World),vs.size=k→CallsDIn Fence.wide 0 P g vs .returning w fun e u' w'=>(∃v,e=.returned v)∧u'=.returning∧w'=w
def ghL:Nat→Nat→List AE
 | _,0=>[]
 | j,k+1=>.t j::ghL (j+1) k
def s8 (m k:Nat):List AE:=ghL (2000000+m) k
theorem yB:∀k j,(ghL j k).length=k
 | 0,_=>rfl
 | k+1,j=>by simp[ghL,yB k]
theorem yA:∀k j i,i<k→(ghL j k)[i]?=some (.t (j+i))
 | 0,_,_,h=>by omega
 | k+1,j,0,_=>rfl
 | k+1,j,i+1,h=>by
  simp only[ghL,List.getElem?_cons_succ]
  rw[yA k (j+1) i (by omega),show j+1+i=j+(i+1)by omega]
def eQ (st:St) (m k:Nat):List AV:=evL st (s8 m k)
def jH (st:St) (m k:Nat) (h0 h':HP):St:=fi st h0 ((eQ st m k).map .c) h' (eQ st m k)
def yE (P:Program) (rs:List RVar) (m k g:Nat) (R:HP→AV→List AV→Prop):Exit→St→Prop
 | .normal,st | .ret,st=>∃r,resOf st rs=some r∧R st.h r (argsAgain st 0 m)
 | .panic ch,st=>∃V h0 h',ch=bJ V∧mJ P g h0 (eQ st m k) V h'∧gQ h' h'=true∧(∀i W,hget h0 i=some W→hget st.h i=some W) ∧
     ∃r,resOf (jH st m k h0 h') rs=some r∧R (jH st m k h0 h').h r (argsAgain (jH st m k h0 h') 0 m)
 | _,_=>False
def seqA:List AC→AC→AC
 | [],y=>y
 | x::xs,y=>.seq x (seqA xs y)
def qE (P:Program) (E:Env):List AC→(Exit→St→Prop)→St→Prop
 | [],Q,st=>Q .normal st
 | x::xs,Q,st=>bC P E x st (iX (qE P E xs Q) Q)
def su (P:Program) (N B:Nat) (rs:List RVar) (m g d:Nat) (caps:List AE) (c1:AC) (R:HP→AV→List AV→Prop):Exit→St→Prop
 | .normal,st=>∀E':Env,E'.N=N→E'.B=B→E'.rd=none→bC P E' c1 ⟨numbered (2000000+m) (evL st caps)++(d,.undef)::st.s,st.h⟩ (yE P rs m caps.length g R)
 | .ret,st=>∃r,resOf st rs=some r∧R st.h r (argsAgain st 0 m)
 | _,_=>False
theorem ajq {o:Oper} {f:Nat} {cap:Array Operand} (ho:o.op=.makeFunc (.func f) #[] cap) (a:Act) (P:Program) (w:World):(execOp a.eval o).run P w=.ok (.value (.func (.func f) #[] (cap.map a.eval))) w:=by
 simp[execOp,ho,Instr.makeFunc]
theorem alU {P:Program} {f g d:Nat} {fn:Func} {body:Code} {h:HP} {args:List AV} {Post:HP→AV→List AV→Prop} {pre:List AC} {c1:AC} {caps:List AE} (hf:P.funcs[f]?=some fn) (hb:fn.body=some body) {B:Nat}
    (hc:trCode P fn.ntmps B body=seqA pre (.seq (.eo g (.c (.ai [.int .i64 (d:Int)])::caps)) c1)) (hN:fn.ntmps≤1000000) (ha:args.length≤fn.ntmps) (hd:d<fn.ntmps) (hI:jF P g caps.length)
    (hp:∀E:Env,E.N=fn.ntmps→E.B=B→E.rd=none→qE P E pre (su P fn.ntmps B (fn.results.toList.map (trRes P)) args.length g d caps c1 Post) ⟨fG args,h⟩):Spec P f h args Post:=by
 intro X0 ρ w vs hh hA hX hvs hrv
 let gv0:Nat→Value:=fun k=>vs.getD (k-2000000) undef
 let E0:Env:=⟨w,aV ρ h,X0,fn.ntmps,B,gv0,none,w.heap.size,Nat.le_refl _,[]⟩
 let RR:Ending→World→Prop:=fun e w'=>∃v h' r ρ' as,e=.returned v∧Post h' r as∧cD X0 ρ' h' w'∧RV (XX X0 ρ' h') w' ρ' v r ∧
     as.length=args.length∧(∀(j:Nat) v x,vs[j]?=some v→as[j]?=some x→RV (XX X0 ρ' h') w' ρ' v x) ∧
     w'.os=w.os∧w'.tape=w.tape∧w'.output=w.output∧w.heap.size≤w'.heap.size∧(∀b,b<w.heap.size→¬aV ρ h b→w'.heap[b]?=w.heap[b]?) ∧
     (∀b,aV ρ' h' b→w.heap.size≤b∨aV ρ h b)
 -- what is reached at the end,the aU of the arguments as they came in
 have fin0:∀(E:Env) (ρ':Loc) (st'':St) (a':Act) (w'':World),E.w0=w→E.F=aV ρ h→E.X0=X0→E.N=fn.ntmps→(∀j,j<args.length→E.gv (2000000+j)=gv0 (2000000+j))→al E ρ' st'' a' w'' →
     (∃r,resOf st'' (fn.results.toList.map (trRes P))=some r∧Post st''.h r (argsAgain st'' 0 args.length))→∃v,(results fn a'.tmps).run P w''=.ok v w''∧RR (.returned v) w'':=by
  rintro E ρ' st'' a' w'' e1 e2 e3 e4 e5 g ⟨r,hr,hP⟩
  obtain⟨v,q1,q2⟩:=uu (P:=P) g hr
  have gx:=g.heap
  rw[e3]at gx q2
  refine⟨v,q1,v,st''.h,r,ρ',_,rfl,hP,gx,q2,mO _ _ _,fun j v x g1 g2=>?_,by rw[g.az.os,e1],by rw[g.az.tape,e1],by rw[g.az.output,e1],by have:=g.az.size;rwa[e1]at this,fun b hb hF=>by
   have:=g.az.block b (by rw[e1];exact hb) (by rw[e2];exact hF)
   rwa[e1]at this,fun b ⟨id,W,L,h1,h2,h3⟩=>by have:=g.base id W L b h1 h2 h3;rwa[e1,e2]at this⟩
  have hjl:j<args.length:=by
   have:=(List.getElem?_eq_some_iff.1 g2).1
   rwa[mO]at this
  have:=oI st'' _ _ j x g2
  rw[Nat.zero_add]at this
  cases hs:sget st''.s (2000000+j)with
  | none=>rw[hs]at this;subst this;exact .undef _ _
  | some av=>
   rw[hs]at this
   obtain rfl:x=av:=this
   have hr2:=(g.aU _ _ hs).2
   unfold aZ at hr2
   rw[if_neg (by rw[e4];omega),e5 j hjl,e3]at hr2
   simp only[gv0,Nat.add_sub_cancel_left,Array.getD_eq_getD_getElem?,g1]at hr2
   exact hr2
 have key:∀(pre:List AC) (body:Code) (st1:St) (ρ1:Loc) (a1:Act) (w1:World),trCode P fn.ntmps B body=seqA pre (.seq (.eo g (.c (.ai [.int .i64 (d:Int)])::caps)) c1)→al E0 ρ1 st1 a1 w1 →
     qE P E0 pre (su P fn.ntmps B (fn.results.toList.map (trRes P)) args.length g d caps c1 Post) st1→body.wpIn Fence.wide 0 P (bodyPostM Fence.wide 0 P fn RR) a1 w1:=by
  intro pre
  induction pre with
  | cons x xs ih=>
   intro body st1 ρ1 a1 w1 hc g1 hp
   obtain⟨b0,b',rfl,h0,hb'⟩:=CF hc
   refine wpIn_seq (wpIn_mono (hp 0 b0 h0 a1 w1 ⟨ρ1,g1⟩) ?_)
   rintro e a' w' ⟨st',⟨ρ',g'⟩,q⟩
   cases e with
   | normal=>exact ih b' st' ρ' a' w' hb' g' q
   | ret=>
    show LeavesInM Fence.wide 0 P fn a'.tmps _ a'.defers .returning w'
    obtain⟨⟨Ds,hDs⟩,_⟩:=g'.defers
    rw[hDs]
    refine jU (E:=E0) (ρ:=ρ') (st:=st') (a:=a') (by simp) (fun w' gg=>?_) rfl rfl Ds w' (by rw[←hDs];exact g')
    obtain⟨v,q1,q2⟩:=fin0 E0 ρ' st' _ w' rfl rfl rfl rfl (fun _ _=>rfl) gg q
    exact⟨v,q1,q2⟩
   | exit id=>exact q.elim
   | goto l=>exact q.elim
   | panic ch=>exact q.elim
   | outgrown=>exact q.elim
  | nil=>
   intro body st1 ρ1 a1 w1 hc g1 hp
   obtain⟨bd,b1,rfl,hbd,h1⟩:=CF hc
   obtain⟨id,ops,draw,o1,o2,cap,cl,rfl,hops,ho1,hg1,hd1,ho2,hg2,hd2,hcl,hca,hcal,hcaps,hdraw⟩:=am3 hbd
   have hoa:ops=#[o1,o2]:=by
    apply Array.toList_inj.1
    simpa using hops
   let us:Array Value:=cap.map a1.eval
   have husz:us.size=caps.length:=by rw[hcaps];simp[us]
   let dd:Deferred:={target:=.fn (.func g) us,args:=#[]}
   let a2:Act:=a1.put (some d) (.func (.func g) #[] us)
   let a3:Act:={a2 with defers:=dd::a2.defers}
   have hev2:a2.eval (.tmp d)=.func (.func g) #[] us:=by
    show(a1.put (some d) (.func (.func g) #[] us)).tmps.getD d undef=_
    rw[nj a1 d d _ (by rw[g1.size];exact hd),if_pos rfl]
   -- the region of two operations
   have region:∀(Q:Exit→Act→World→Prop),(∀w2,aM w1 w2→Q .normal a3 w2)→(Code.region id ops draw).wpIn Fence.wide 0 P Q a1 w1:=by
    intro Q hQ
    have r1:∀w2,(execOp a1.eval o1).run P w2=.ok (.value (.func (.func g) #[] us)) w2:=fun w2=>ajq ho1 a1 P w2
    have r2:∀w2,(execOp a2.eval o2).run P w2=.ok (.defer dd) w2:=by
     intro w2
     unfold execOp
     simp[ho2,resolve,hcl,hev2,Deferred.ofValue,hca,dd]
    have s1:∀w2 (next:Act→World→Prop),next a2 w2→o1.wpIn Fence.wide 0 P a1 w2 next Q:=by
     intro w2 next hn
     refine⟨fun _ _=>trivial,?_⟩
     rw[show Fence.wide.round=none from rfl,Oper.semAt_none,r1]
     show next (a1.put o1.dst _) w2
     rw[hd1];exact hn
    have s2:∀w2 (next:Act→World→Prop),next a3 w2→o2.wpIn Fence.wide 0 P a2 w2 next Q:=by
     intro w2 next hn
     refine⟨fun _ _=>trivial,?_⟩
     rw[show Fence.wide.round=none from rfl,Oper.semAt_none,r2]
     show next (({a2 with defers:=dd::a2.defers}:Act).put o2.dst undef) w2
     rw[hd2];exact hn
    have hw:∀(o:Oper) (l:Nat→Option Bool),o.guard=none→Region.wanted o l=true:=by
     intro o l h
     simp[Region.wanted,h]
    cases draw with
    | false=>
     refine wpIn_region_list ?_
     rw[hops]
     exact wpListIn_plain hg1 (fun next hnext=>s1 _ _ (hnext _ _ (wpListIn_plain hg2 (fun next hnext=>s2 _ _ (hnext _ _ (hQ w1 (aM.refl w1)))))))
    | true=>
     obtain⟨hm,e0,e1,e2⟩:=hdraw rfl
     subst hoa
     refine wpIn_region_any hm ?_
     have hs:aM w1 {w1 with drawn:=w1.drawn+1}:=aM.drew w1
     refine⟨fun e=>?_,fun i hi=>?_⟩
     ·have:Region.ready .any #[o1,o2] #[false,false]=[]:=e
      rw[e0]at this;cases this
     ·have hi':i∈Region.ready .any #[o1,o2] #[false,false]:=hi
      rw[e0,List.mem_singleton]at hi'
      subst hi'
      unfold wpOpIn
      simp only[List.getElem?_toArray,List.getElem?_cons_zero,hw o1 _ hg1,if_true]
      refine s1 _ _ ?_
      refine⟨fun e=>?_,fun i hi=>?_⟩
      ·have:Region.ready .any #[o1,o2] #[true,false]=[]:=e
       rw[e1]at this;cases this
      ·have hi':i∈Region.ready .any #[o1,o2] #[true,false]:=hi
       rw[e1,List.mem_singleton]at hi'
       subst hi'
       unfold wpOpIn
       simp only[List.getElem?_toArray,List.getElem?_cons_succ,List.getElem?_cons_zero,hw o2 _ hg2,if_true]
       refine s2 _ _ ?_
       exact⟨e2,hQ _ hs⟩
   refine wpIn_seq (region _ (fun w2 hs2=>?_))
   show b1.wpIn Fence.wide 0 P (bodyPostM Fence.wide 0 P fn RR) a3 w2
   let m:=args.length
   let E1:Env:=⟨w,aV ρ h,X0,fn.ntmps,B,fun j=>if 2000000+m≤j∧j<2000000+m+caps.length then us.getD (j-(2000000+m)) undef else gv0 j,none,w.heap.size,Nat.le_refl _,dd::a1.defers⟩
   obtain⟨⟨Ds0,hDs0⟩,hnd0,hmk0⟩:=(g1.same hs2).defers
   have hDs0:a1.defers=Ds0.map kV:=by rw[hDs0];simp[E0]
   have gput:=(g1.same hs2).put d hd (v:=.func (.func g) #[] us) (av:=.undef) (.undef _ _)
   have hcv:∀(j:Nat) x,(evL st1 caps)[j]?=some x→∃v,us[j]?=some v∧RV (XX E0.X0 ρ1 st1.h) w2 ρ1 v x:=by
    intro j x hj
    rw[gL,hcaps,List.map_map,List.getElem?_map,Array.getElem?_toList]at hj
    obtain⟨y,e1,rfl⟩:=Option.map_eq_some_iff.1 hj
    exact⟨a1.eval y,by simp[us,e1],a8 (g1.same hs2) y⟩
   have g2:al E1 ρ1 ⟨numbered (2000000+m) (evL st1 caps)++(d,.undef)::st1.s,st1.h⟩ a3 w2:=by
    refine⟨⟨⟨[],rfl⟩,hnd0,hmk0⟩,gput.size,fun k av hk=>?_,(g1.same hs2).heap,g1.base,⟨(g1.same hs2).az.os,(g1.same hs2).az.tape,(g1.same hs2).az.output,(g1.same hs2).az.size,(g1.same hs2).az.block,g1.az.ct⟩,(g1.same hs2).x0⟩
    simp only[iU]at hk
    cases hz:sget (numbered (2000000+m) (evL st1 caps)) k with
    | some av1=>
     rw[hz]at hk
     obtain rfl:av1=av:=Option.some.inj hk
     obtain⟨e1,e2⟩:=iV _ _ _ _ hz
     obtain⟨v,e3,e4⟩:=hcv _ _ e2
     refine⟨.inr (by omega),?_⟩
     have:aZ E1 a3 k=v:=by
      unfold aZ
      rw[if_neg (by simp only[E1];omega)]
      have e5:k-(2000000+m)<us.size:=(Array.getElem?_eq_some_iff.1 e3).1
      simp only[E1,if_pos (show 2000000+m≤k∧k<2000000+m+caps.length by omega),Array.getD_eq_getD_getElem?,e3];rfl
     rw[this];exact e4
    | none=>
     rw[hz,Option.none_or]at hk
     obtain⟨r1,r2⟩:=gput.aU k av hk
     refine⟨r1,?_⟩
     have hkm:¬(2000000+m≤k∧k<2000000+m+caps.length):=by
      intro hk2
      have hl:k-(2000000+m)<(evL st1 caps).length:=by rw[gL];simp;omega
      have:=mr (evL st1 caps) (2000000+m) (k-(2000000+m)) _ (List.getElem?_eq_getElem hl)
      rw[show 2000000+m+(k-(2000000+m))=k by omega,hz]at this
      cases this
     have:aZ E1 a3 k=aZ E0 (a1.put (some d) (.func (.func g) #[] us)) k:=by
      unfold aZ
      simp only[E1,E0,if_neg hkm];rfl
     rw[this]
     exact r2
   refine wpIn_mono (hp E1 rfl rfl rfl 0 b1 h1 _ w2 ⟨ρ1,g2⟩) ?_
   rintro e a' w' ⟨st',⟨ρ',g0⟩,q⟩
   obtain⟨⟨Ds,hDs⟩,_⟩:=g0.defers
   have fin:∀(ρ'':Loc) (st'':St) (w'':World),al E1 ρ'' st'' {a' with defers:=dd::a1.defers} w''→(∃r,resOf st'' (fn.results.toList.map (trRes P))=some r∧Post st''.h r (argsAgain st'' 0 args.length)) →
       LeavesInM Fence.wide 0 P fn a'.tmps RR a1.defers .returning w'':=by
    intro ρ'' st'' w'' gg hP
    have gg':al {E1 with df:=[]} ρ'' st'' {a' with defers:=Ds0.map kV++[]} w'':=by
     refine gg.df rfl rfl rfl rfl rfl ⟨⟨Ds0,rfl⟩,?_⟩
     have:=gg.defers.2
     rw[List.append_nil,←hDs0]
     exact this
    have:=jU (P:=P) (fn:=fn) (E:={E1 with df:=[]}) (ρ:=ρ'') (st:=st'') (a:=a') (u:=.returning) (rest:=[]) (R:=RR) (by simp) (fun w' g=>?_) rfl rfl Ds0 w'' gg'
    ·rw[List.append_nil,←hDs0]at this
     exact this
    ·obtain⟨v,q1,q2⟩:=fin0 _ ρ'' st'' _ w' rfl rfl rfl rfl (fun j hj=>by
      show(if _ then _ else _)=_
      rw[if_neg (by omega)]) g hP
     exact⟨v,q1,q2⟩
   have hinv:∀w,(invoke (.fn (.func g) us) #[]).run P w=.ok (.enter g us) w:=by
    intro w
    unfold callable at hcal
    split at hcal
    ·rename_i fn h2
     simp only[Bool.and_eq_true,bne_iff_ne]at hcal
     have h5:¬fn.name = "runtime.NumGoroutine" := by simpa using hcal.2
     have h6:¬fn.body=none:=by intro e;rw[e]at hcal;cases hcal.1
     simp[invoke,callFunc,h2,h5,h6]
    ·cases hcal
   have ret:(∃r,resOf st' (fn.results.toList.map (trRes P))=some r∧Post st'.h r (argsAgain st' 0 args.length))→LeavesInM Fence.wide 0 P fn a'.tmps RR a'.defers .returning w':=by
    intro hq
    rw[hDs]
    refine jU (E:=E1) (ρ:=ρ') (st:=st') (a:=a') (by simp) (fun w' gg=>?_) rfl rfl Ds w' (by rw[←hDs];exact g0)
    refine⟨by simp,.inr ⟨fun hh=>(by cases hh),.func g,us,g,_,rfl,hinv w',fun _ _=>trivial,(hI us w' husz).mono ?_⟩⟩
    rintro e u' w2 ⟨⟨v,rfl⟩,rfl,rfl⟩
    exact fin ρ' st' _ gg hq
   cases e with
   | normal=>exact ret q
   | ret=>exact ret q
   | exit id=>exact q.elim
   | goto l=>exact q.elim
   | outgrown=>exact q.elim
   | panic ch=>
    obtain⟨V,h0,h',rfl,hS,hin,hsub,hP⟩:=q
    show LeavesInM Fence.wide 0 P fn a'.tmps _ a'.defers (.panicking (bJ V)) w'
    rw[hDs]
    refine jU (E:=E1) (ρ:=ρ') (st:=st') (a:=a') (by simp) (fun w' gg=>?_) rfl rfl Ds w' (by rw[←hDs];exact g0)
    have hgl:(eQ st' m caps.length).length=caps.length:=by simp[eQ,gL,s8,yB]
    have hrv2:∀(j:Nat) v x,us[j]?=some v→(eQ st' m caps.length)[j]?=some x→RV (XX X0 ρ' st'.h) w' ρ' v x:=by
     intro j v x e1 e2
     have hj:j<caps.length:=by have:=(List.getElem?_eq_some_iff.1 e2).1;omega
     simp only[eQ,gL,s8,List.getElem?_map,yA _ _ _ hj,Option.map_some,Option.some.injEq]at e2
     subst e2
     show RV _ _ _ _ ((sget st'.s (2000000+m+j)).getD .undef)
     cases hs:sget st'.s (2000000+m+j)with
     | none=>exact .undef _ _
     | some av=>
      have hr2:=(gg.aU _ _ hs).2
      unfold aZ at hr2
      rw[if_neg (by simp only[E1];omega)]at hr2
      simp only[E1,if_pos (show 2000000+m≤2000000+m+j∧2000000+m+j<2000000+m+caps.length by omega),show 2000000+m+j-(2000000+m)=j by omega,Array.getD_eq_getD_getElem?,e1]at hr2
      exact hr2
    have hx1:=nG (E:=E1) (ρ:=ρ') hsub
    refine⟨by simp,.inr ⟨fun hh=>(by cases hh),.func g,us,g,_,rfl,hinv w',fun _ _=>trivial,
     (hS (jr E1 ρ' st' h0) ρ' w' us (vh gg hsub) (gg.ct.mono fun b ⟨id,W,L,g1,g2,g3⟩=>⟨id,W,L,hsub _ _ g1,g2,g3⟩) (fun b hb=>rG gg b (hx1 b (.inl hb))) (by rw[hgl,husz])
      (fun j v x e1 e2=>(hrv2 j v x e1 e2).mono (fun _ _ _=>rfl) (fun b _ hb hx=>hb (hx1 b hx)) _ (fun _ _ h=>h))).mono ?_⟩⟩
    rintro e u' w3 ⟨⟨v,rfl⟩,rfl,ρ3,hH,has,q1,q2,q3,q4,q5,q6⟩
    obtain⟨ρ4,g4,_⟩:=vg (ρ':=ρ3) (h':=h') (v:=undef) (r:=.undef) (args:=(eQ st' m caps.length).map .c) (as:=eQ st' m caps.length) gg (by simp[hgl,husz]) (fun j v x e1 e2=>by
        rw[List.getElem?_map]at e2
        obtain⟨y,e3,rfl⟩:=Option.map_eq_some_iff.1 e2
        exact⟨hrv2 j v y e1 e3,fun k hk=>by cases hk⟩) hsub hin rfl hH (.undef _ _) (by simp) has q1 q2 q3 q4 q5 q6
    exact fin ρ4 _ _ g4 hP
 exact(callsIn_wide (n:=0)).1 (callsIn_of_wp_marks hf hb trivial (key pre body _ ρ _ w hc (nZ hN ha hh hA hX hvs hrv [] rfl) (hp E0 rfl rfl rfl)))
def seqK:List AK→AK→AK
 | [],y=>y
 | x::xs,y=>.seq x (seqK xs y)
theorem B2 (B:Nat) (y:AK):∀xs,(seqK xs y).erase B=seqA (xs.map (AK.erase B)) (y.erase B)
 | []=>rfl
 | x::xs=>by simp only[seqK,AK.erase,List.map_cons,seqA,B2 B y xs]
def lu (P:Program) (E:Env):List AK→KQ→St→Prop
 | [],Q,st=>Q.ap .normal st
 | x::xs,Q,st=>vcW P E x ⟨iX (fun st=>lu P E xs Q st) Q.ap⟩ st
def KQ.sq (P:Program) (E:Env) (xs:List AK) (Q:KQ):KQ:=⟨iX (fun st=>lu P E xs Q st) Q.ap⟩
theorem Bj {P:Program} {E:Env} (hN:E.N≤1000000):∀(xs:List AK) {Q:KQ} {st:St},lu P E xs Q st→qE P E (xs.map (AK.erase E.B)) Q.ap st
 | [],Q,st,h=>h
 | x::xs,Q,st,h=>bC.mono (eC hN x h) (CC (fun st' h'=>Bj hN xs h') (fun _ _ h=>h))
def KQ.gC (P:Program) (rs:List RVar) (m k g:Nat) (R:HP→AV→List AV→Prop):KQ:=⟨yE P rs m k g R⟩
def KQ.dC (P:Program) (N B:Nat) (rs:List RVar) (m g d:Nat) (caps:List AE) (y:AK) (R:HP→AV→List AV→Prop):KQ:=⟨su P N B rs m g d caps (y.erase B) R⟩
section
variable {P:Program} {E:Env} {st:St} {Q:KQ} {rs:List RVar} {m k g d N B:Nat} {caps:List AE} {y:AK} {R:HP→AV→List AV→Prop}
theorem aoe:lu P E [] Q st=Q.ap .normal st:=(rfl)
theorem aod {x:AK} {xs:List AK}:lu P E (x::xs) Q st=vcW P E x (KQ.sq P E xs Q) st:=(rfl)
theorem YR {xs:List AK}:(KQ.sq P E xs Q).ap .normal st=lu P E xs Q st:=(rfl)
theorem YS {xs:List AK}:(KQ.sq P E xs Q).ap .ret st=Q.ap .ret st:=(rfl)
theorem YT {xs:List AK} {i:Nat}:(KQ.sq P E xs Q).ap (.exit i) st=Q.ap (.exit i) st:=(rfl)
theorem Ym:(KQ.gC P rs m k g R).ap .ret st=(KQ.post rs m R).ap .ret st:=(rfl)
theorem Yl:(KQ.gC P rs m k g R).ap .normal st=(KQ.post rs m R).ap .ret st:=(rfl)
theorem Yk:(KQ.dC P N B rs m g d caps y R).ap .ret st=(KQ.post rs m R).ap .ret st:=(rfl)
theorem s3 {V:Value} (h0 h':HP) {as:List AV} (has:eQ st m k=as) (hS:mJ P g h0 as V h') (hin:gQ h' h'=true) (hsub:c7 st.h h0) (h:(KQ.post rs m R).ap .ret (jH st m k h0 h')):(KQ.gC P rs m k g R).ap (.panic (bJ V)) st:=
 ⟨V,h0,h',rfl,has▸hS,hin,fun i W hi=>gS hsub i W hi,h⟩
theorem sn (h:∀E':Env,E'.N≤1000000→vcW P E' y (KQ.gC P rs m caps.length g R) ⟨numbered (2000000+m) (evL st caps)++(d,.undef)::st.s,st.h⟩) (hN:N≤1000000):(KQ.dC P N B rs m g d caps y R).ap .normal st:=
 fun E' e1 e2 _=>by
  have hN':E'.N≤1000000:=by omega
  rw[←e2]
  exact eC hN' y (h E' hN')
theorem Pj:eQ st m k=evL st (ghL (2000000+m) k):=(rfl)
theorem D7 {h0 h':HP}:jH st m k h0 h'=fi st h0 ((eQ st m k).map .c) h' (eQ st m k):=(rfl)
end
theorem Ph:(∀j,ghL j 0=[])∧(∀j k,ghL j (k+1)=.t j::ghL (j+1) k):=⟨fun _=>rfl,fun _ _=>rfl⟩
attribute [go_sem] aoe aod YR YS YT Ym Yl Yk Pj D7 Ph
def oy (P:Program) (pre:List AK) (y:AK) (g d:Nat) (caps:List AE) (B p:Nat) (rs:List RVar) (s:List (Nat×AV)) (h:HP) (Post:HP→AV→List AV→Prop):Prop:=
 ∀(E:Env) (R:HP→AV→List AV→Prop) (N:Nat),E.N≤1000000→N≤1000000→cN Post R→lu P E pre (KQ.dC P N B rs p g d caps y R) ⟨s,h⟩
theorem uL {P:Program} {f B p q g d:Nat} {x0:AK} {pre:List AK} {y:AK} {caps:List AE} {rs:List RVar} {h:HP} {args:List AV} {Post:HP→AV→List AV→Prop}
    (hf:aD P f B q (seqK (x0::pre) (.seq (.eo g (.c (.ai [.int .i64 (d:Int)])::caps)) y)) rs) (hl:args.length=p) (hq:p≤q) (hd:d<q) (hI:jF P g caps.length) (s:List (Nat×AV)) (hs:dv (fG args) s)
    (hp:oy P (x0::pre) y g d caps B p rs s h Post):Spec P f h args Post:=by
 obtain⟨fn,body,h1,h2,h3,h4,h5,h6⟩:=hf.out
 rw[B2]at h3
 refine uO (alU (pre:=(x0::pre).map (AK.erase B)) h1 h2 h3 h5 (by omega) (by omega) hI (fun E hE hB hrd=>?_))
 have hN:E.N≤1000000:=by rw[hE];exact h5
 have this:=Bj hN (x0::pre) (hp E _ fn.ntmps hN h5 sN)
 rw[hB]at this
 rw[h4,hl]
 exact oL s hs this
open Go Go.Sem
def xZ (J:Nat→Act→World→Prop) (Q:Exit→Act→World→Prop):Exit→Act→World→Prop
 | .goto l,a,w=>J l a w
 | e,a,w=>Q e a w
theorem aoH {F:Fence} {n:Nat} {P:Program} {a:Act} {w:World} {Q:Exit→Act→World→Prop} {c:Code} (J:Nat→Nat→Act→World→Prop)
    (first:c.wpIn F n P (xZ (fun l a w=>∃m,J m l a w) Q) a w)
    (pass:∀m l a w,J m l a w→∃rest,findLabel c l=some rest∧rest.wpIn F n P (xZ (fun l a w=>∃m',m'<m∧J m' l a w) Q) a w):(Code.scope c).wpIn F n P Q a w:=by
 intro b k cs hro hb hr
 have h0:(lone (b.atR a (.code (.scope c)::k)) cs w).fenced P F:=fenced_calm hb hr rfl
 have fin:∀{m:Machine} (e:Exit) (a₁:Act) (w₁:World),Q e a₁ w₁→(∀l',e≠.goto l')→ArrivesIn (Machine.fenced P F) P m b (.inScope c::k) cs e a₁ w₁ →
     ∃e a' w',Q e a' w'∧ArrivesIn (Machine.fenced P F) P m b k cs e a' w':=by
  intro m e a₁ w₁ hq' hne harr
  cases e with
  | normal=>exact⟨.normal,a₁,w₁,hq',StepsIn.trans harr (.one (fenced_calm hb hr rfl) amk)⟩
  | exit id=>
   have hx:exitTo id (.inScope c::k)=exitTo id k:=by simp[exitTo]
   exact⟨.exit id,a₁,w₁,hq',fun k' hk=>harr.1 k' (by rw[hx];exact hk),fun h1 h2=>harr.2 h1 (by rw[hx];exact h2)⟩
  | goto l'=>exact absurd rfl (hne l')
  | ret=>exact⟨_,a₁,w₁,hq',harr⟩
  | panic ch=>exact⟨_,a₁,w₁,hq',harr⟩
  | outgrown=>exact⟨_,a₁,w₁,hq',harr⟩
 have all:∀m l a w,J m l a w→∃rest,findLabel c l=some rest∧∃e a' w',Q e a' w'∧ArrivesIn (Machine.fenced P F) P (lone (b.atR a (.code rest::.inScope c::k)) cs w) b k cs e a' w':=by
  intro m
  induction m using Nat.strongRecOn with
  | _ m ih=>
   intro l a w hJ
   obtain⟨rest,hf,hw⟩:=pass m l a w hJ
   refine⟨rest,hf,?_⟩
   obtain⟨e,a₁,w₁,hq,harr⟩:=hw b (.inScope c::k) cs hro hb hr
   by_cases hgo:∃l',e=.goto l'
   ·obtain⟨l',rfl⟩:=hgo
    obtain⟨m',hm,hJ'⟩:=hq
    obtain⟨rest',hf',e₂,a₂,w₂,hq₂,harr₂⟩:=ih m' hm l' a₁ w₁ hJ'
    have hg:gotoIn l' (.inScope c::k)=some (.code rest'::.inScope c::k):=by simp[gotoIn,hf']
    exact⟨e₂,a₂,w₂,hq₂,.of_steps (harr.1 _ hg) harr₂⟩
   ·exact fin e a₁ w₁ (by cases e<;>first | exact hq | exact absurd ⟨_,rfl⟩ hgo) (fun l' h=>hgo ⟨l',h⟩) harr
 obtain⟨e,a₁,w₁,hq,harr⟩:=first b (.inScope c::k) cs hro hb hr
 by_cases hgo:∃l',e=.goto l'
 ·obtain⟨l',rfl⟩:=hgo
  obtain⟨m',hJ'⟩:=hq
  obtain⟨rest',hf',e₂,a₂,w₂,hq₂,harr₂⟩:=all m' l' a₁ w₁ hJ'
  have hg:gotoIn l' (.inScope c::k)=some (.code rest'::.inScope c::k):=by simp[gotoIn,hf']
  exact⟨e₂,a₂,w₂,hq₂,.of_steps (.head h0 Cs (harr.1 _ hg)) harr₂⟩
 ·obtain⟨e₃,a₃,w₃,hq₃,harr₃⟩:=fin e a₁ w₁ (by cases e<;>first | exact hq | exact absurd ⟨_,rfl⟩ hgo) (fun l' h=>hgo ⟨l',h⟩) harr
  exact⟨e₃,a₃,w₃,hq₃,.of_steps (.one h0 Cs) harr₃⟩
def tz (J:Nat→St→Prop) (Q:Exit→St→Prop):Exit→St→Prop
 | .goto l,st=>J l st
 | e,st=>Q e st
theorem FP {P:Program} {E:Env} {st:St} {Q:Exit→St→Prop} {x:AC} (J:Nat→Nat→St→Prop) (first:bC P E x st (tz (fun l st=>∃m,J m l st) Q))
    (pass:∀m l st,J m l st→∃y,findA x l=some y∧bC P E y st (tz (fun l st=>∃m',m'<m∧J m' l st) Q)):bC P E (.scope x) st Q:=by
 intro n code hc a w hr
 cases code<;>simp only[trCode]at hc<;>first | (cases hc;done) | (exact Bool.noConfusion (show false=true from eA hc)) | (split at hc<;>cases hc;done) | skip
 rename_i c
 injection hc with h1
 subst h1
 refine aoH (fun m l a w=>∃st,Rel E st a w∧J m l st) (wpIn_mono (first n c rfl a w hr) ?_) ?_
 ·rintro e a' w' ⟨st',g1,g2⟩
  cases e with
  | goto l'=>obtain⟨m,h⟩:=g2;exact⟨m,st',g1,h⟩
  | normal=>exact⟨st',g1,g2⟩
  | exit id=>exact⟨st',g1,g2⟩
  | ret=>exact⟨st',g1,g2⟩
  | panic ch=>exact⟨st',g1,g2⟩
  | outgrown=>exact⟨st',g1,g2⟩
 ·rintro m l a w ⟨st',g1,g2⟩
  obtain⟨y,hf,hy⟩:=pass m l st' g2
  rw[sO]at hf
  obtain⟨rest,hfl,rfl⟩:=Option.map_eq_some_iff.1 hf
  refine⟨rest,hfl,wpIn_mono (hy n rest rfl a w g1) ?_⟩
  rintro e a' w' ⟨st',g1,g2⟩
  cases e with
  | goto l'=>obtain⟨m',hm,h⟩:=g2;exact⟨m',hm,st',g1,h⟩
  | normal=>exact⟨st',g1,g2⟩
  | exit id=>exact⟨st',g1,g2⟩
  | ret=>exact⟨st',g1,g2⟩
  | panic ch=>exact⟨st',g1,g2⟩
  | outgrown=>exact⟨st',g1,g2⟩
def KQ.ji (R:Nat→KS) (Q:KQ):KQ:=⟨tz (fun l=>(R l).ap) Q.ap⟩
theorem YU (R:Nat→KS) (Q:KQ) (st:St):(∀l,(KQ.ji R Q).ap (.goto l) st=(R l).ap st)∧(KQ.ji R Q).ap .normal st=Q.ap .normal st∧(∀i,(KQ.ji R Q).ap (.exit i) st=Q.ap (.exit i) st)∧(KQ.ji R Q).ap .ret st=Q.ap .ret st∧(∀ch,(KQ.ji R Q).ap (.panic ch) st=Q.ap (.panic ch) st):=
 ⟨fun _=>rfl,rfl,fun _=>rfl,rfl,fun _=>rfl⟩
theorem aor {P:Program} {E:Env} {x:AK} {Q:KQ} {st:St} {α:Type} (hN:E.N≤1000000) (f:Nat→α→St) (inv:Nat→α→Prop) (ms:Nat→α→Nat)
    (h1:∀R:Nat→KS,(∀l a st',inv l a→Wk st' (f l a)→(R l).ap st')→vcW P E x (KQ.ji R Q) st)
    (h2:∀l a,inv l a→∃y,findK x l=some y∧∀R:Nat→KS,(∀l' a' st',ms l' a'<ms l a→inv l' a'→Wk st' (f l' a')→(R l').ap st')→vcW P E y (KQ.ji R Q) (f l a)):vcW P E (.scope x) Q st:=by
 show bC P E (.scope (x.erase E.B)) st Q.ap
 refine FP (fun m l s=>∃a,inv l a∧ms l a=m∧Wk s (f l a)) (eC hN x (h1 (fun l=>⟨fun s=>∃m a,inv l a∧ms l a=m∧Wk s (f l a)⟩) (fun l a st' g1 g2=>⟨_,a,g1,rfl,g2⟩))) ?_
 rintro m l s ⟨a,g1,rfl,g2⟩
 obtain⟨y,hy,hv⟩:=h2 l a g1
 refine⟨y.erase E.B,by rw[pD,hy];rfl,oM g2 (eC hN y (hv (fun l'=>⟨fun s=>∃m',m'<ms l a∧∃a',inv l' a'∧ms l' a'=m'∧Wk s (f l' a')⟩) (fun l' a' st' k1 k2 k3=>⟨_,k1,a',k2,rfl,k3⟩)))⟩
attribute [go_sem] YU
end Go.Proofs.YtoalcafkffmiiaaGreatDoor.Eng
