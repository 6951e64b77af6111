/- The proof, part 10 of 43. -/
import Derived.Test.YtoalcafkffmiiaaGreatDoorOdbShadowsG
import Derived.Test.YtoalcafkffmiiaaGreatDoorOdbShadowsH
import Derived.Test.YtoalcafkffmiiaaGreatDoorOdbShadowsI
import Derived.Below
set_option linter.all false
namespace Go.Proofs.YtoalcafkffmiiaaGreatDoor.Eng
structure KS where
 ap:St->Prop
structure KQ where
 ap:Exit->St->Prop
inductive ROp where
 | v (d:Nat) (o:AO)
 | val (d:Nat) (q:Bool) (id:Nat) (o:AO)
 | eff (d:Nat) (q:Bool) (id:Nat) (o:AO)
 | aL (q:Bool) (id:Nat) (o:AO)
 | aj (d:Option Nat) (q:Bool) (id:Nat) (f:Nat) (args:List AE)
 | dyn (d:Option Nat) (q:Bool) (id:Nat) (x:AE) (args:List AE)
 | af (d:Nat) (j:Nat) (want:Bool) (q:Bool) (id:Nat) (o:AO)
 | fM (d:Nat) (j:Nat) (want:Bool) (q:Bool) (id:Nat) (f:Nat) (args:List AE)
 | pQ (d:Option Nat) (j:Nat) (want:Bool) (q:Bool) (id:Nat) (o:AO)
 | mi (d:Nat) (j:Nat) (want:Bool) (q:Bool) (id:Nat) (x:AE) (args:List AE)
def ROp.er (B:Nat):ROp->bC
 | .v d o=>⟨some d,none,false,B+d,o⟩
 | .val d q id o=>⟨some d,none,q,id,o⟩
 | .eff d q id o=>⟨some d,none,q,id,o⟩
 | .aL q id o=>⟨none,none,q,id,o⟩
 | .aj d q id f args=>⟨d,none,q,id,.call f args⟩
 | .dyn d q id x args=>⟨d,none,q,id,.dyn x args⟩
 | .af d j want q id o=>⟨some d,some (j,want),q,id,o⟩
 | .fM d j want q id f args=>⟨some d,some (j,want),q,id,.call f args⟩
 | .pQ d j want q id o=>⟨d,some (j,want),q,id,o⟩
 | .mi d j want q id x args=>⟨some d,some (j,want),q,id,.dyn x args⟩
def evL (st:St):List AE->List AV
 | []=>[]
 | x::r=>ev st x::evL st r
theorem mb (st:St):∀l,evL st l=l.map (ev st)
 | []=>rfl
 | x::r=>by simp[evL,mb st r]
def aopsW (P:Program):List ROp->St->KS->Prop
 | [],st,K=>K.ap st
 | .v d o::r,st,K=>(avalR true st o).To λv=>aopsW P r (put st (some d) v) K
 | .val d _ _ o::r,st,K=>(avalR true st o).To λv=>aopsW P r (put st (some d) v) K
 | .eff d _ id o::r,st,K=>(effR id st o).To λv st'=>aopsW P r (put st' (some d) v) K
 | .aL _ id o::r,st,K=>(effR id st o).To λ_ st'=>aopsW P r st' K
 | .aj d q _ f args::r,st,K=>eR P q st f args λv st'=>aopsW P r (put st' d v) K
 | .dyn d q _ x args::r,st,K=>adyn P q st (ev st x) args λv st'=>aopsW P r (put st' d v) K
 | .af d j want _ _ o::r,st,K=>match grd (sget st.s j) want with
  | some γ=>(γ=false/\aopsW P r (put st (some d) (.gd false .undef)) K)\/(avalR γ st o).To λv=>aopsW P r (put st (some d) (.gd γ v)) K
  | none=>False
 | .fM d j want q _ f args::r,st,K=>match grd (sget st.s j) want with
  | some γ=>(γ=false/\aopsW P r (put st (some d) (.gd false .undef)) K)\/(γ=true/\eR P q st f args λv st'=>aopsW P r (put st' (some d) (.gd true v)) K)\/rJ P q γ st f args λv=>aopsW P r (put st (some d) (.gd γ v)) K
  | none=>False
 | .pQ d j want _ id o::r,st,K=>match grd (sget st.s j) want with
  | some γ=>(γ=false/\aopsW P r (put st d (.gd false .undef)) K)\/(γ=true/\(effR id st o).To λv st'=>aopsW P r (put st' d (.gd true v)) K)
  | none=>False
 | .mi d j want q _ x args::r,st,K=>match grd (sget st.s j) want with
  | some γ=>(γ=false/\aopsW P r (put st (some d) (.gd false .undef)) K)\/(γ=true/\adyn P q st (ev st x) args λv st'=>aopsW P r (put st' (some d) (.gd true v)) K)
  | none=>False
def nt (P:Program) (g:Option Bool) (d:Option Nat) (id:Nat) (o:AO) (r:List ROp) (st:St) (K:KS):Prop:=
 match g with
 | some γ=>(γ=false/\aopsW P r (put st d (.gd false .undef)) K)\/(γ=true/\(effR id st o).To λv st'=>aopsW P r (put st' d (.gd true v)) K)
 | none=>False
def geff2 (P:Program) (x:RS) (d:Option Nat) (r:List ROp) (K:KS):Prop:=
 match x with
 | .ok c v st=>c/\aopsW P r (put st d (.gd true v)) K
 | .fail=>False
def valW (P:Program) (x:Res) (d:Nat) (r:List ROp) (st:St) (K:KS):Prop:=
 match x with
 | .ok c v=>c/\aopsW P r ⟨(d,v)::st.s,st.h⟩ K
 | .fail=>False
def l9 (P:Program) (x:RS) (d:Nat) (r:List ROp) (K:KS):Prop:=
 match x with
 | .ok c v st=>c/\aopsW P r ⟨(d,v)::st.s,st.h⟩ K
 | .fail=>False
def l8 (P:Program) (x:RS) (r:List ROp) (K:KS):Prop:=
 match x with
 | .ok c _ st=>c/\aopsW P r st K
 | .fail=>False
def ib (P:Program) (q:Bool) (st:St) (f:Nat) (args:List AE) (as:List AV) (d:Option Nat) (r:List ROp) (K:KS):Prop:=
 as=args.map (ev st)->eR P q st f args λv st'=>aopsW P r (put st' d v) K
def pW (P:Program) (g:Option Bool) (d:Nat) (o:AO) (r:List ROp) (st:St) (K:KS):Prop:=
 match g with
 | some γ=>(γ=false/\aopsW P r (put st (some d) (.gd false .undef)) K)\/(avalR γ st o).To λv=>aopsW P r (put st (some d) (.gd γ v)) K
 | none=>False
def pV (P:Program) (γ:Bool) (x:Res) (d:Nat) (r:List ROp) (st:St) (K:KS):Prop:=
 (γ=false/\aopsW P r ⟨(d,.gd false .undef)::st.s,st.h⟩ K)\/match x with
 | .ok c v=>c/\aopsW P r ⟨(d,.gd γ v)::st.s,st.h⟩ K
 | .fail=>False
def lp (P:Program) (γ:Bool) (d:Nat) (o:AO) (r:List ROp) (st:St) (K:KS):Prop:=pV P γ (avalR γ st o) d r st K
def s4 (P:Program) (d:Nat) (o:AO) (r:List ROp) (st:St) (K:KS):Prop:=pV P false (avalR false st o) d r st K
def pO (P:Program) (q:Bool) (g:Option Bool) (st:St) (f:Nat) (args:List AE) (as:List AV) (d:Nat) (r:List ROp) (K:KS):Prop:=
 as=args.map (ev st)->match g with
 | some γ=>(γ=false/\aopsW P r (put st (some d) (.gd false .undef)) K)\/(γ=true/\eR P q st f args λv st'=>aopsW P r (put st' (some d) (.gd true v)) K)\/rJ P q γ st f args λv=>aopsW P r (put st (some d) (.gd γ v)) K
 | none=>False
def pP (P:Program) (q:Bool) (g:Option Bool) (st:St) (v:AV) (args:List AE) (as:List AV) (d:Nat) (r:List ROp) (K:KS):Prop:=
 as=args.map (ev st)->match g with
 | some γ=>(γ=false/\aopsW P r (put st (some d) (.gd false .undef)) K)\/(γ=true/\adyn P q st v args λv st'=>aopsW P r (put st' (some d) (.gd true v)) K)
 | none=>False
def oX (P:Program) (q:Bool) (st:St) (f:Nat) (args:List AE) (as:List AV) (d:Nat) (r:List ROp) (K:KS):Prop:=
 as=args.map (ev st)->eR P q st f args λv st'=>aopsW P r (put st' (some d) (.gd true v)) K
section
variable {P:Program} {st:St} {K:KS} {r:List ROp} {q:Bool} {id d j:Nat} {o:AO}
theorem F1:aopsW P [] st K=K.ap st:=(rfl)
theorem F3:aopsW P (.val d q id o::r) st K=valW P (avalR true st o) d r st K:=by
 simp only[aopsW,valW];cases avalR true st o<;>rfl
theorem F2:aopsW P (.v d o::r) st K=valW P (avalR true st o) d r st K:=by
 simp only[aopsW,valW];cases avalR true st o<;>rfl
theorem vg {c:Prop} {v:AV}:valW P (.ok c v) d r st K=(c/\aopsW P r ⟨(d,v)::st.s,st.h⟩ K):=(rfl)
theorem axW:valW P .fail d r st K=False:=(rfl)
theorem FU:aopsW P (.eff d q id o::r) st K=l9 P (effR id st o) d r K:=by
 simp only[aopsW,l9];cases effR id st o<;>rfl
theorem sI {c:Prop} {v:AV}:l9 P (.ok c v st) d r K=(c/\aopsW P r ⟨(d,v)::st.s,st.h⟩ K):=(rfl)
theorem Mf:l9 P .fail d r K=False:=(rfl)
theorem FV:aopsW P (.aL q id o::r) st K=l8 P (effR id st o) r K:=by
 simp only[aopsW,l8];cases effR id st o<;>rfl
theorem sH {c:Prop} {v:AV}:l8 P (.ok c v st) r K=(c/\aopsW P r st K):=(rfl)
theorem L5:l8 P .fail r K=False:=(rfl)
theorem rQ {d:Option Nat} {f:Nat} {args:List AE}:aopsW P (.aj d q id f args::r) st K=ib P q st f args (evL st args) d r K:=by
 simp only[aopsW,ib,mb,forall_const]
def sB (P:Program) (q:Bool) (st:St) (v:AV) (args:List AE) (as:List AV) (d:Option Nat) (r:List ROp) (K:KS):Prop:=
 as=args.map (ev st)->adyn P q st v args λv st'=>aopsW P r (put st' d v) K
theorem FT {d:Option Nat} {x:AE} {args:List AE}:aopsW P (.dyn d q id x args::r) st K=sB P q st (ev st x) args (evL st args) d r K:=by
 simp only[aopsW,sB,mb,forall_const]
theorem FX {w:Bool} {x:AE} {args:List AE}:aopsW P (.mi d j w q id x args::r) st K=pP P q (grd (sget st.s j) w) st (ev st x) args (evL st args) d r K:=by
 simp only[aopsW,pP,mb,forall_const]
theorem yE {f:Nat} {args:List AE} {as:List AV} (hf:callable P f=true) (h:oX P q st f args as d r K):pP P q (some true) st (.gd true (.lit (.func (.func f) #[] #[]))) args as d r K:=
 λe=>.inr ⟨rfl,⟨rfl,rfl⟩,hf,h e⟩
theorem yD {v:AV} {args:List AE} {as:List AV} (h:aopsW P r ⟨(d,.gd false .undef)::st.s,st.h⟩ K):pP P q (some false) st v args as d r K:=λ_=>.inl ⟨rfl,h⟩
theorem sC {d:Option Nat} {f:Nat} {args:List AE} {as:List AV} (hf:callable P f=true) (h:ib P q st f args as d r K):sB P q st (.lit (.func (.func f) #[] #[])) args as d r K:=
 λe=>⟨⟨rfl,rfl⟩,hf,h e⟩
theorem FZ {w:Bool}:aopsW P (.af d j w q id o::r) st K=pW P (grd (sget st.s j) w) d o r st K:=(rfl)
theorem Pe {γ:Bool}:pW P (some γ) d o r st K=lp P γ d o r st K:=by
 simp only[pW,lp,pV];cases avalR γ st o<;>rfl
def pU (P:Program) (γ:Bool) (x:Res) (d:Nat) (r:List ROp) (st:St) (K:KS):Prop:=
 match x with
 | .ok c v=>c/\aopsW P r ⟨(d,.gd γ v)::st.s,st.h⟩ K
 | .fail=>False
theorem Pa {γ:Bool} {c:Prop} {v:AV}:pU P γ (.ok c v) d r st K=(c/\aopsW P r ⟨(d,.gd γ v)::st.s,st.h⟩ K):=(rfl)
theorem Pb:lp P false d o r st K=s4 P d o r st K:=by simp only[lp,s4]
theorem Pc:lp P true d o r st K=pU P true (avalR true st o) d r st K:=by
 simp[lp,pV,pU]
theorem fb (h:aopsW P r ⟨(d,.gd false .undef)::st.s,st.h⟩ K):s4 P d o r st K:=.inl ⟨rfl,h⟩
theorem fa {γ:Bool} (h:pU P γ (avalR γ st o) d r st K):lp P γ d o r st K:=.inr h
theorem FK {c p:Prop} (h:c):(c/\p)=p:=by simp[h]
theorem Pd:pW P none d o r st K=False:=(rfl)
theorem FY {w:Bool} {d:Option Nat}:aopsW P (.pQ d j w q id o::r) st K=nt P (grd (sget st.s j) w) d id o r st K:=(rfl)
theorem OV {d:Option Nat}:nt P (some true) d id o r st K=geff2 P (effR id st o) d r K:=by
 simp only[nt,geff2,Bool.true_eq_false,false_and,false_or,true_and];cases effR id st o<;>rfl
theorem OU {d:Option Nat}:nt P (some false) d id o r st K=aopsW P r (put st d (.gd false .undef)) K:=by
 simp[nt]
theorem OT {d:Option Nat} {c:Prop} {v:AV}:geff2 P (.ok c v st) d r K=(c/\aopsW P r (put st d (.gd true v)) K):=(rfl)
theorem FW {w:Bool} {f:Nat} {args:List AE}:aopsW P (.fM d j w q id f args::r) st K=pO P q (grd (sget st.s j) w) st f args (evL st args) d r K:=by
 simp only[aopsW,pO,mb,forall_const]
end
theorem vO {P:Program} {q:Bool} {st:St} {id:Nat} {o:AO} {K:AV->St->Prop} (h:(avalR true st o).To λv=>K v st):aop1 P q st id o K:=by
 have h':=vW h;cases o<;>first | exact h.elim | (simp only[aop1,isEff,aBe,if_false];exact h')
theorem rN {P:Program} {q:Bool} {st:St} {id:Nat} {o:AO} {K:AV->St->Prop} (h:(effR id st o).To K):aop1 P q st id o K:=by
 have h':=L8 h;cases o<;>first | exact h.elim | (simp only[aop1,isEff,if_true];exact h')
theorem FP {P:Program} {q γ:Bool} {st:St} {o:AO} {K:AV->Prop} (h:(avalR γ st o).To K):aopG P q γ st o K:=by
 have h':=vW h;cases o<;>first | exact h.elim | exact h'
theorem vK {P:Program} {q:Bool} {st:St} {v:AV} {args:List AE} {K K':AV->St->Prop} (hK:∀v st',K v st'->K' v st') (h:adyn P q st v args K):adyn P q st v args K':=by
 revert h
 unfold adyn;split
 ·rintro⟨e1,e2,h⟩;refine⟨e1,e2,λE ρ a w vs h1 h2 h3=>(h E ρ a w vs h1 h2 h3).mono ?_⟩;rintro e w' ⟨v,ρ',st',av,g1,g2,g3,g4,g5⟩;exact⟨v,ρ',st',av,g1,g2,g3,hK _ _ g4,g5⟩
 ·rintro⟨e1,e2,h⟩;refine⟨e1,e2,λE ρ a w vs h1 h2 h3=>(h E ρ a w vs h1 h2 h3).mono ?_⟩;rintro e w' ⟨v,ρ',st',av,g1,g2,g3,g4,g5⟩;exact⟨v,ρ',st',av,g1,g2,g3,hK _ _ g4,g5⟩
 ·rintro⟨e1,h⟩;refine⟨e1,λE ρ a w vs h1 h2 h3=>(h E ρ a w vs h1 h2 h3).mono ?_⟩;rintro e w' ⟨v,ρ',st',av,g1,g2,g3,g4,g5⟩;exact⟨v,ρ',st',av,g1,g2,g3,hK _ _ g4,g5⟩
 ·exact λh=>h
theorem du {P:Program} {B:Nat} {K:KS} {K':St->Prop} (hK:∀st,K.ap st->K' st):∀(l:List ROp) {st:St},aopsW P l st K->aops P (l.map (ROp.er B)) st K'
 | [],st,h=>hK _ h
 | .v d o::r,st,h=>by
  refine vO ?_;simp only[aopsW]at h
  revert h
  cases avalR true st o with
  | ok c v=>exact λh=>⟨h.1,du hK r h.2⟩
  | fail=>exact λh=>h
 | .val d q id o::r,st,h=>by
  refine vO ?_;simp only[aopsW]at h
  revert h
  cases avalR true st o with
  | ok c v=>exact λh=>⟨h.1,du hK r h.2⟩
  | fail=>exact λh=>h
 | .eff d q id o::r,st,h=>by
  refine rN ?_;simp only[aopsW]at h
  revert h
  cases effR id st o with
  | ok c v st'=>exact λh=>⟨h.1,du hK r h.2⟩
  | fail=>exact λh=>h
 | .aL q id o::r,st,h=>by
  refine rN ?_;simp only[aopsW]at h
  revert h
  cases effR id st o with
  | ok c v st'=>exact λh=>⟨h.1,du hK r h.2⟩
  | fail=>exact λh=>h
 | .aj d q id f args::r,st,h=>by
  intro E ρ a w vs h1 h2 h3;refine(h E ρ a w vs h1 h2 h3).mono ?_;rintro e w' ⟨v,ρ',st',av,g1,g2,g3,g4,g5⟩
  exact⟨v,ρ',st',av,g1,g2,g3,du hK r g4,g5⟩
 | .dyn d q id x args::r,st,h=>by
  simp only[aopsW]at h;simp only[aBE,ROp.er,aops,aop1]
  exact vK (λv st' h=>du hK r h) h
 | .af d j want q id o::r,st,h=>by
  simp only[aopsW]at h;simp only[aBE,ROp.er,aops]
  revert h
  cases grd (sget st.s j) want with
  | none=>exact λh=>h
  | some γ=>
   intro h;have h:(γ=false/\aopsW P r (put st (some d) (.gd false .undef)) K)\/(avalR γ st o).To λv=>aopsW P r (put st (some d) (.gd γ v)) K:=h;refine h.imp (λx=>⟨x.1,du hK r x.2⟩) (λh=>.inr ?_);refine FP ?_
   revert h
   cases avalR γ st o with
   | ok c v=>exact λh=>⟨h.1,du hK r h.2⟩
   | fail=>exact λh=>h
 | .fM d j want q id f args::r,st,h=>by
  simp only[aopsW]at h;simp only[aBE,ROp.er,aops]
  revert h
  cases grd (sget st.s j) want with
  | none=>exact λh=>h
  | some γ=>
   rintro(x | x | ⟨v,h1,h2⟩)
   ·exact .inl ⟨x.1,du hK r x.2⟩
   ·refine .inr (.inl ⟨x.1,λE ρ a w vs h1 h2 h3=>(x.2 E ρ a w vs h1 h2 h3).mono ?_⟩);rintro e w' ⟨v,ρ',st',av,g1,g2,g3,g4,g5⟩;exact⟨v,ρ',st',av,g1,g2,g3,du hK r g4,g5⟩
   ·exact .inr (.inr ⟨v,h1,du hK r h2⟩)
 | .pQ d j want q id o::r,st,h=>by
  simp only[aopsW]at h;simp only[aBE,ROp.er,aops]
  revert h
  cases grd (sget st.s j) want with
  | none=>exact λh=>h
  | some γ=>
   rintro(x | ⟨x,h⟩)
   ·exact .inl ⟨x.1,du hK r x.2⟩
   ·refine .inr (.inl ⟨x,rN ?_⟩)
    revert h
    cases effR id st o with
    | ok c v st'=>exact λh=>⟨h.1,du hK r h.2⟩
    | fail=>exact λh=>h
 | .mi d j want q id x args::r,st,h=>by
  simp only[aopsW]at h;simp only[aBE,ROp.er,aops]
  revert h
  cases grd (sget st.s j) want with
  | none=>exact λh=>h
  | some γ=>
   rintro(x | ⟨x,h⟩)
   ·exact .inl ⟨x.1,du hK r x.2⟩
   ·exact .inr (.inl ⟨x,vK (λv st' h=>du hK r h) h⟩)
theorem kU {P:Program} {B:Nat} (l:List ROp) {st:St} {K:KS} (h:aopsW P l st K):aops P (l.map (ROp.er B)) st K.ap:=du (λ_ h=>h) l h
def trim (s:List (Nat×AV)):List Nat->List (Nat×AV)
 | []=>[]
 | k::r=>match sget s k with
  | some v=>(k,v)::trim s r
  | none=>trim s r
def u5 (o:Option AV) (k:Nat) (s:List (Nat×AV)) (r:List Nat):List (Nat×AV):=
 match o with
 | some v=>(k,v)::trim s r
 | none=>trim s r
theorem aw3 (s:List (Nat×AV)) (k:Nat) (r:List Nat):trim s (k::r)=u5 (sget s k) k s r:=(rfl)
theorem aw4 (s:List (Nat×AV)):trim s []=[]:=(rfl)
theorem aw2 (v:AV) (k:Nat) (s:List (Nat×AV)) (r:List Nat):u5 (some v) k s r=(k,v)::trim s r:=(rfl)
theorem aw1 (k:Nat) (s:List (Nat×AV)) (r:List Nat):u5 none k s r=trim s r:=(rfl)
theorem kD (s:List (Nat×AV)):∀ks,ff s (trim s ks)
 | []=>trivial
 | k::r=>by
  unfold trim;split
  ·rename_i v hv;exact⟨hv,kD s r⟩
  ·exact kD s r
theorem lE {E:Env} {ρ:Loc} {st:St} {s':List (Nat×AV)} {a:Act} {w:World} (h:ao E ρ st a w) (hs:ff st.s s'):ao E ρ ⟨s',st.h⟩ a w:=
 ⟨h.defers,h.size,λk av hk=>h.bo k av (tC hs k av hk),h.heap,h.base,h.aE,h.x0⟩
inductive DT where
 | die (o:ROp)
 | step (o:ROp) (t:DT)
 | br (x y:DT)
def DT.er (B:Nat):DT->AT bC
 | .die o=>.cons (o.er B) .nil
 | .step o t=>.cons (o.er B) (t.er B)
 | .br x y=>.br (x.er B) (y.er B)
def pw (o:ROp):Bool:=su (o.er 0)
theorem xw (o:ROp) (B:Nat):su (o.er B)=pw o:=by cases o<;>rfl
def DT.ok:DT->Bool
 | .die o=>pw o
 | .step o t=>!pw o&&t.ok
 | .br x y=>x.ok&&y.ok
def dieOpW (P:Program) (o:ROp) (st:St) (Q:KQ):Prop:=
 match o with
 | .aj _ _ _ f args=>rI P st f args λV st'=>Q.ap (.panic (dR V)) st'
 | .aL _ _ (.jt x)=>∃t v,ev st x=.lit (.iface t v)/\Q.ap (.panic (dR (.iface t v))) st
 | _=>False
def dtW (P:Program):DT->St->KQ->Prop
 | .die o,st,Q=>dieOpW P o st Q
 | .step o t,st,Q=>aopsW P [o] st ⟨λst'=>dtW P t st' Q⟩
 | .br x y,st,Q=>dtW P x st Q/\dtW P y st Q
theorem sv {P:Program} {B:Nat} {o:ROp} {st:St} {Q:KQ} (h:dieOpW P o st Q):dieOp P (o.er B) st λV st'=>Q.ap (.panic (dR V)) st':=by
 unfold dieOpW at h;split at h
 ·exact h
 ·exact h
 ·exact h.elim
theorem pC {P:Program} {B:Nat} {Q:KQ}:∀(T:DT) {st:St},T.ok=true->dtW P T st Q->dieF P (T.er B) st λV st'=>Q.ap (.panic (dR V)) st'
 | .die o,st,hok,h=>by
  simp only[DT.er,dieF,xw,show pw o=true from hok,if_true]
  exact sv h
 | .step o t,st,hok,h=>by
  simp only[DT.ok,aBd,aDo]at hok;simp only[DT.er,dieF,xw,hok.1,aBe,if_false]
  exact du (K:=⟨λst'=>dtW P t st' Q⟩) (λst' h'=>pC t hok.2 h') [o] h
 | .br x y,st,hok,h=>by
  simp only[DT.ok,aBd]at hok;exact⟨pC x hok.1 h.1,pC y hok.2 h.2⟩
theorem rR (P:Program) (o:ROp) (r:List ROp) (st:St) (K:KS):aopsW P (o::r) st K=aopsW P [o] st ⟨λst'=>aopsW P r st' K⟩:=by cases o<;>rfl
theorem xt {P:Program} {B:Nat} {K:KS} {K':St->Prop} {KD:Value->St->Prop} (hK:∀st,K.ap st->K' st):∀(l:List ROp) {st:St},aopsW P l st K->la P (l.map (ROp.er B)) st K' KD
 | [],st,h=>hK _ h
 | o::r,st,h=>by
  rw[rR]at h;exact .inr (du (λst' h'=>xt hK r h') [o] h)
theorem sA {P:Program} {B:Nat} {Q:KQ} {K:KS} {K':St->Prop} {o:ROp} {post:List ROp} (hK:∀st,K.ap st->K' st):∀(pre:List ROp) {st:St},aopsW P pre st ⟨λst'=>dieOpW P o st' Q\/aopsW P (o::post) st' K⟩ ->
    la P ((pre++o::post).map (ROp.er B)) st K' λV st'=>Q.ap (.panic (dR V)) st'
 | [],st,h=>by
  rcases h with h | h
  ·exact .inl (sv h)
  ·exact xt hK (o::post) h
 | p::r,st,h=>by
  rw[rR]at h;exact .inr (du (λst' h'=>sA hK r h') [p] h)
theorem xB {P:Program} {B:Nat} {Q:KQ} {K:KS} {K':St->Prop} {o o2:ROp} {a8 post:List ROp} (hK:∀st,K.ap st->K' st):∀(pre:List ROp) {st:St},aopsW P pre st ⟨λst'=>dieOpW P o st' Q\/aopsW P (o::a8) st' ⟨λst''=>dieOpW P o2 st'' Q\/aopsW P (o2::post) st'' K⟩⟩ ->
    la P ((pre++o::(a8++o2::post)).map (ROp.er B)) st K' λV st'=>Q.ap (.panic (dR V)) st'
 | [],st,h=>by
  rcases h with h | h
  ·exact .inl (sv h)
  ·exact sA hK (o::a8) h
 | p::r,st,h=>by
  rw[rR]at h;exact .inr (du (λst' h'=>xB hK r h') [p] h)
inductive RT where
 | leaf (ops:List ROp)
 | node (p:List ROp) (x y:RT)
def RT.er (B:Nat):RT->AT bC
 | .leaf ops=>AT.pre (ops.map (ROp.er B)) .nil
 | .node p x y=>AT.pre (p.map (ROp.er B)) (.br (x.er B) (y.er B))
def ja (P:Program):RT->St->KS->Prop
 | .leaf ops,st,K=>aopsW P ops st K
 | .node p x y,st,K=>aopsW P p st ⟨λst=>ja P x st K/\ja P y st K⟩
def KS.two (P:Program) (x y:RT) (K:KS):KS:=⟨λst=>ja P x st K/\ja P y st K⟩
theorem asW {P:Program} {ops:List ROp} {st:St} {K:KS}:ja P (.leaf ops) st K=aopsW P ops st K:=(rfl)
theorem asX {P:Program} {p:List ROp} {x y:RT} {st:St} {K:KS}:ja P (.node p x y) st K=aopsW P p st (KS.two P x y K):=(rfl)
theorem YL {P:Program} {x y:RT} {st:St} {K:KS}:(KS.two P x y K).ap st=(ja P x st K/\ja P y st K):=(rfl)
theorem uG {P:Program} {B:Nat} {K:KS} {K':St->Prop} (hK:∀st,K.ap st->K' st):∀(T:RT) {st:St},ja P T st K->aopsT P (T.er B) st K'
 | .leaf ops,st,h=>by
  unfold RT.er;rw[tZ]
  exact du (B:=B) hK ops h
 | .node p x y,st,h=>by
  unfold RT.er;rw[tZ];exact du (B:=B) (λst h=>⟨uG hK x h.1,uG hK y h.2⟩) p h
inductive AK where
 | skip
 | aa (ops:List ROp) (keep:List Nat)
 | seq (x y:AK)
 | cond (c:AE) (x y:AK)
 | block (id:Nat) (x:AK)
 | loop (x:AK)
 | exit (id:Nat)
 | ret
 | a8 (x:AK)
 | scope (x:AK)
 | label (l:Nat)
 | goto (l:Nat)
 | split (ops:List ROp) (d f:Nat) (x:AE) (c:UInt8) (bk p q0:Nat) (body:AK)
 | back (ops:List ROp) (d f kx bk p1 p q0:Nat) (body:AK)
 | alt (p x y:List ROp) (keep:List Nat)
 | iI (T:RT) (keep:List Nat)
 | ix (pre:List ROp) (o:ROp) (post:List ROp) (keep:List Nat)
 | nR (pre:List ROp) (o:ROp) (a8:List ROp) (o2:ROp) (post:List ROp) (keep:List Nat)
 | jh (p x y:List ROp) (keep:List Nat) (T:DT)
 | jC (f:Nat) (args:List AE)
 | bad
def AK.erase (B:Nat):AK->AC
 | .skip=>.skip
 | .aa ops _=>.aa (ops.map (ROp.er B))
 | .seq x y=>.seq (x.erase B) (y.erase B)
 | .cond c x y=>.cond c (x.erase B) (y.erase B)
 | .block id x=>.block id (x.erase B)
 | .loop x=>.loop (x.erase B)
 | .exit id=>.exit id
 | .ret=>.ret
 | .a8 x=>(x.erase B)
 | .scope x=>.scope (x.erase B)
 | .label l=>.label l
 | .goto l=>.goto l
 | .split ops d f x c bk p q0 body=>.seq (.lD (ops.map (ROp.er B)++[⟨some d,none,false,B+d,.call f [x,.c (.str [c])]⟩])) (.block bk (.kv (.t d) [p] (.aa [⟨some q0,none,false,B+q0,.ah (.t p)⟩]) (body.erase B)))
 | .back ops d f kx bk p1 p q0 body=>.seq (.lD (ops.map (ROp.er B)++[⟨some d,none,false,B+d,.call f [.t kx]⟩])) (.block bk (.kv (.t d) [p1,p] (.aa [⟨some q0,none,false,B+q0,.ah (.t p)⟩]) (body.erase B)))
 | .alt p x y _=>.alt (p.map (ROp.er B)) (x.map (ROp.er B)) (y.map (ROp.er B))
 | .iI T _=>.iI (T.er B)
 | .ix pre o post _=>.ix ((pre++o::post).map (ROp.er B))
 | .nR pre o md o2 post _=>.ix ((pre++o::(md++o2::post)).map (ROp.er B))
 | .jh p x y _ T=>.jh (p.map (ROp.er B)) (x.map (ROp.er B)) (y.map (ROp.er B)) (T.er B)
 | .jC f args=>.jC f args
 | .bad=>.bad
def vcW (P:Program) (E:Env):AK->KQ->St->Prop
 | .skip,Q,st=>Q.ap .normal st
 | .aa ops ks,Q,st=>aopsW P ops st ⟨λst=>Q.ap .normal ⟨trim st.s ks,st.h⟩⟩
 | .seq x y,Q,st=>vcW P E x ⟨jX (λst=>vcW P E y Q st) Q.ap⟩ st
 | .cond c x y,Q,st=>match ev st c with
  | .bool b=>(b=true->vcW P E x Q st)/\(b=false->vcW P E y Q st)
  | _=>False
 | .block id x,Q,st=>vcW P E x ⟨blockQ id Q.ap⟩ st
 | .loop x,Q,st=>bV P E (.loop (x.erase E.B)) st Q.ap
 | .exit id,Q,st=>Q.ap (.exit id) st
 | .ret,Q,st=>Q.ap .ret st
 | .a8 x,Q,st=>bV P E (x.erase E.B) st Q.ap
 | .scope x,Q,st=>bV P E (.scope (x.erase E.B)) st Q.ap
 | .label _,Q,st=>Q.ap .normal st
 | .goto l,Q,st=>Q.ap (.goto l) st
 | .split ops d f x c bk p q0 body,Q,st=>aopsW P ops st ⟨splitK P E d f x c bk p q0 (body.erase E.B) Q.ap⟩
 | .back ops d f kx bk p1 p q0 body,Q,st=>aopsW P ops st ⟨mX P E d f kx bk p1 p q0 (body.erase E.B) Q.ap⟩
 | .alt p x y ks,Q,st=>aopsW P p st ⟨λst=>aopsW P x st ⟨λst=>Q.ap .normal ⟨trim st.s ks,st.h⟩⟩/\aopsW P y st ⟨λst=>Q.ap .normal ⟨trim st.s ks,st.h⟩⟩⟩
 | .iI T ks,Q,st=>ja P T st ⟨λst=>Q.ap .normal ⟨trim st.s ks,st.h⟩⟩
 | .ix pre o post ks,Q,st=>aopsW P pre st ⟨λst=>dieOpW P o st Q\/aopsW P (o::post) st ⟨λst=>Q.ap .normal ⟨trim st.s ks,st.h⟩⟩⟩
 | .nR pre o md o2 post ks,Q,st=>aopsW P pre st ⟨λst=>dieOpW P o st Q\/aopsW P (o::md) st ⟨λst=>dieOpW P o2 st Q\/aopsW P (o2::post) st ⟨λst=>Q.ap .normal ⟨trim st.s ks,st.h⟩⟩⟩⟩
 | .jh p x y ks T,Q,st=>(aopsW P p st ⟨λst=>aopsW P x st ⟨λst=>Q.ap .normal ⟨trim st.s ks,st.h⟩⟩/\aopsW P y st ⟨λst=>Q.ap .normal ⟨trim st.s ks,st.h⟩⟩⟩)\/(T.ok=true/\dtW P T st Q)
 | .jC _ _,_,_=>False
 | .bad,_,_=>False
def KS.aa (ks:List Nat) (Q:KQ):KS:=⟨λst=>Q.ap .normal ⟨trim st.s ks,st.h⟩⟩
def KS.alt (P:Program) (x y:List ROp) (ks:List Nat) (Q:KQ):KS:=⟨λst=>aopsW P x st (KS.aa ks Q)/\aopsW P y st (KS.aa ks Q)⟩
def l5 (P:Program) (o:ROp) (post:List ROp) (ks:List Nat) (Q:KQ) (st:St):Prop:=dieOpW P o st Q\/aopsW P (o::post) st (KS.aa ks Q)
def KS.pz (P:Program) (o:ROp) (post:List ROp) (ks:List Nat) (Q:KQ):KS:=⟨l5 P o post ks Q⟩
def px (P:Program) (o:ROp) (a8:List ROp) (o2:ROp) (post:List ROp) (ks:List Nat) (Q:KQ) (st:St):Prop:=dieOpW P o st Q\/aopsW P (o::a8) st (KS.pz P o2 post ks Q)
def KS.xA (P:Program) (o:ROp) (a8:List ROp) (o2:ROp) (post:List ROp) (ks:List Nat) (Q:KQ):KS:=⟨px P o a8 o2 post ks Q⟩
def KS.dt (P:Program) (T:DT) (Q:KQ):KS:=⟨λst=>dtW P T st Q⟩
def KQ.seq (P:Program) (E:Env) (y:AK) (Q:KQ):KQ:=⟨jX (λst=>vcW P E y Q st) Q.ap⟩
def KQ.cN (id:Nat) (Q:KQ):KQ:=⟨blockQ id Q.ap⟩
def KQ.fk (R:KS) (Q:KQ):KQ:=⟨jX R.ap Q.ap⟩
def KS.DD (P:Program) (E:Env) (d f:Nat) (x:AE) (c:UInt8) (bk p q0:Nat) (body:AK) (Q:KQ):KS:=⟨splitK P E d f x c bk p q0 (body.erase E.B) Q.ap⟩
def DE (P:Program) (E:Env) (d f:Nat) (x:AE) (c:UInt8) (bk p q0:Nat) (body:AK) (Q:KQ) (st:St):Prop:=splitK P E d f x c bk p q0 (body.erase E.B) Q.ap st
def KS.wb (P:Program) (E:Env) (d f kx bk p1 p q0:Nat) (body:AK) (Q:KQ):KS:=⟨mX P E d f kx bk p1 p q0 (body.erase E.B) Q.ap⟩
def Hl (P:Program) (E:Env) (d f kx bk p1 p q0:Nat) (body:AK) (Q:KQ) (st:St):Prop:=mX P E d f kx bk p1 p q0 (body.erase E.B) Q.ap st
def KQ.jmp (l:Nat) (R:KS) (Q:KQ):KQ:=⟨jumpQ l R.ap Q.ap⟩
def KQ.qs (Q:KQ):KQ:=⟨abj Q.ap⟩
def findK:AK->Nat->Option AK
 | .seq a b,l=>match findK a l with
  | some r=>some (.seq r b)
  | none=>findK b l
 | .label l',l=>if l'==l then some .skip else none
 | .a8 x,l=>findK x l
 | _,_=>none
theorem pG (B:Nat):∀(c:AK) (l:Nat),findA (c.erase B) l=(findK c l).map (AK.erase B)
 | .seq a b,l=>by
  simp only[AK.erase,findA,findK,pG B a l]
  cases findK a l with
  | some r=>rfl
  | none=>exact pG B b l
 | .label l',l=>by
  simp only[AK.erase,findA,findK]
  split<;>rfl
 | .a8 x,l=>by simp only[AK.erase,findK,pG B x l]
 | .skip,_ | .aa _ _,_ | .cond _ _ _,_ | .block _ _,_ | .loop _,_ | .exit _,_ | .ret,_ | .scope _,_ | .goto _,_ | .bad,_ | .alt _ _ _ _,_=>rfl
 | .split _ _ _ _ _ _ _ _ _,_=>rfl
 | .back _ _ _ _ _ _ _ _ _,_=>rfl
 | .ix _ _ _ _,_=>rfl
 | .nR _ _ _ _ _ _,_=>rfl
 | .iI _ _,_=>rfl
 | .jh _ _ _ _ _,_=>rfl
 | .jC _ _,_=>rfl
def lr (P:Program) (E:Env) (b:Bool) (x y:AK) (Q:KQ) (st:St):Prop:=(b=true->vcW P E x Q st)/\(b=false->vcW P E y Q st)
def sj (P:Program) (E:Env) (v:AV) (x y:AK) (Q:KQ) (st:St):Prop:=
 match v with
 | .bool b=>lr P E b x y Q st
 | _=>False
section
variable {P:Program} {E:Env} {st:St} {Q:KQ} {x y:AK} {R:KS}
theorem YJ {ks:List Nat}:(KS.aa ks Q).ap st=Q.ap .normal ⟨trim st.s ks,st.h⟩:=(rfl)
theorem YE {a b:List ROp} {ks:List Nat}:(KS.alt P a b ks Q).ap st=(aopsW P a st (KS.aa ks Q)/\aopsW P b st (KS.aa ks Q)):=(rfl)
theorem Yw:(KQ.seq P E y Q).ap .normal st=vcW P E y Q st:=(rfl)
theorem Yy:(KQ.seq P E y Q).ap .ret st=Q.ap .ret st:=(rfl)
theorem Yz {i:Nat}:(KQ.seq P E y Q).ap (.exit i) st=Q.ap (.exit i) st:=(rfl)
theorem XW {i:Nat}:(KQ.cN i Q).ap .normal st=Q.ap .normal st:=(rfl)
theorem XZ {i:Nat}:(KQ.cN i Q).ap .ret st=Q.ap .ret st:=(rfl)
theorem X1 {i j:Nat}:(KQ.cN i Q).ap (.exit j) st=if j=i then Q.ap .normal st else Q.ap (.exit j) st:=(rfl)
theorem Yv {i:Nat}:(KQ.seq P E y Q).ap (.goto i) st=Q.ap (.goto i) st:=(rfl)
theorem XV {i j:Nat}:(KQ.cN i Q).ap (.goto j) st=Q.ap (.goto j) st:=(rfl)
theorem Yq {i:Nat}:(KQ.fk R Q).ap (.goto i) st=Q.ap (.goto i) st:=(rfl)
theorem X9 {l:Nat}:(KQ.jmp l R Q).ap .normal st=Q.ap .normal st:=(rfl)
theorem Yb {l:Nat}:(KQ.jmp l R Q).ap .ret st=Q.ap .ret st:=(rfl)
theorem Yc {l i:Nat}:(KQ.jmp l R Q).ap (.exit i) st=Q.ap (.exit i) st:=(rfl)
theorem X8 {l:Nat}:(KQ.jmp l R Q).ap (.goto l) st=R.ap st:=by simp[KQ.jmp,jumpQ]
theorem Yx {c:List PanicEntry}:(KQ.seq P E y Q).ap (.panic c) st=Q.ap (.panic c) st:=(rfl)
theorem XY {i:Nat} {c:List PanicEntry}:(KQ.cN i Q).ap (.panic c) st=Q.ap (.panic c) st:=(rfl)
theorem Ys {c:List PanicEntry}:(KQ.fk R Q).ap (.panic c) st=Q.ap (.panic c) st:=(rfl)
theorem Ya {l:Nat} {c:List PanicEntry}:(KQ.jmp l R Q).ap (.panic c) st=Q.ap (.panic c) st:=(rfl)
theorem Ye {c:List PanicEntry}:(KQ.qs Q).ap (.panic c) st=Q.ap (.panic c) st:=(rfl)
theorem YI {T:DT}:(KS.dt P T Q).ap st=dtW P T st Q:=(rfl)
theorem LJ {o:ROp} {T:DT}:dtW P (.step o T) st Q=aopsW P [o] st (KS.dt P T Q):=(rfl)
theorem LH {T U:DT}:dtW P (.br T U) st Q=(dtW P T st Q/\dtW P U st Q):=(rfl)
def nk (P:Program) (st:St) (f:Nat) (args:List AE) (as:List AV) (Q:KQ):Prop:=as=evL st args->rI P st f args λV st'=>Q.ap (.panic (dR V)) st'
def po (P:Program) (q:Bool) (st:St) (f:Nat) (args:List AE) (as:List AV) (d:Option Nat) (r:List ROp) (K:KS) (Q:KQ):Prop:=nk P st f args as Q\/ib P q st f args as d r K
theorem LI {d:Option Nat} {q:Bool} {id f:Nat} {args:List AE}:dtW P (.die (.aj d q id f args)) st Q=nk P st f args (evL st args) Q:=by
 simp[dtW,dieOpW,nk]
theorem YG {o o2:ROp} {a8 post:List ROp} {ks:List Nat}:(KS.xA P o a8 o2 post ks Q).ap st=px P o a8 o2 post ks Q st:=(rfl)
theorem YH {o:ROp} {post:List ROp} {ks:List Nat}:(KS.pz P o post ks Q).ap st=l5 P o post ks Q st:=(rfl)
theorem Lw {d:Option Nat} {q:Bool} {id f:Nat} {args:List AE} {post:List ROp} {ks:List Nat}:l5 P (.aj d q id f args) post ks Q st=po P q st f args (evL st args) d post (KS.aa ks Q) Q:=by
 simp[l5,dieOpW,po,nk,rQ]
theorem Lv {d:Option Nat} {q:Bool} {id f:Nat} {args:List AE} {o2:ROp} {a8 post:List ROp} {ks:List Nat}:px P (.aj d q id f args) a8 o2 post ks Q st=po P q st f args (evL st args) d a8 (KS.pz P o2 post ks Q) Q:=by
 simp[px,dieOpW,po,nk,rQ]
def pncW (v:AV) (Q:KQ) (st:St):Prop:=
 match v with
 | .lit (.iface t x)=>Q.ap (.panic (dR (.iface t x))) st
 | _=>False
theorem afy {t:TypeId} {x:Value}:pncW (.lit (.iface t x)) Q st=Q.ap (.panic (dR (.iface t x))) st:=(rfl)
theorem Ly {q:Bool} {id:Nat} {x:AE} {post:List ROp} {ks:List Nat}:l5 P (.aL q id (.jt x)) post ks Q st=pncW (ev st x) Q st:=by
 apply propext;unfold l5 dieOpW pncW;constructor
 ·rintro(⟨t,v,h1,h2⟩ | h)
  ·rw[h1];exact h2
  ·exact h.elim
 ·intro h;split at h
  ·rename_i t v e;exact .inl ⟨t,v,e,h⟩
  ·exact h.elim
theorem Fp {h0:HP}:Fo st h0=⟨killSI (dP h0) [] st.s,dropH (dP h0) [] st.h⟩:=(rfl)
theorem Yd:(KQ.qs Q).ap .normal st=Q.ap .normal st:=(rfl)
theorem Yf:(KQ.qs Q).ap .ret st=Q.ap .ret st:=(rfl)
theorem Yg {i:Nat}:(KQ.qs Q).ap (.exit i) st=Q.ap (.exit i) st:=(rfl)
theorem ax8 {i:Nat}:vcW P E (.label i) Q st=Q.ap .normal st:=(rfl)
theorem ax7 {i:Nat}:vcW P E (.goto i) Q st=Q.ap (.goto i) st:=(rfl)
theorem YK {d f:Nat} {ae:AE} {c:UInt8} {bk p q0:Nat}:(KS.DD P E d f ae c bk p q0 x Q).ap st=DE P E d f ae c bk p q0 x Q st:=(rfl)
theorem YF {d f kx bk p1 p q0:Nat}:(KS.wb P E d f kx bk p1 p q0 x Q).ap st=Hl P E d f kx bk p1 p q0 x Q st:=(rfl)
theorem Yr:(KQ.fk R Q).ap .normal st=R.ap st:=(rfl)
theorem Yt:(KQ.fk R Q).ap .ret st=Q.ap .ret st:=(rfl)
theorem Yu {i:Nat}:(KQ.fk R Q).ap (.exit i) st=Q.ap (.exit i) st:=(rfl)
theorem ayf:vcW P E .skip Q st=Q.ap .normal st:=(rfl)
theorem ayc:vcW P E .ret Q st=Q.ap .ret st:=(rfl)
theorem ax6 {i:Nat}:vcW P E (.exit i) Q st=Q.ap (.exit i) st:=(rfl)
theorem ax9 {ops:List ROp} {ks:List Nat}:vcW P E (.aa ops ks) Q st=aopsW P ops st (KS.aa ks Q):=(rfl)
theorem aye:vcW P E (.seq x y) Q st=vcW P E x (KQ.seq P E y Q) st:=(rfl)
theorem ax4 {i:Nat}:vcW P E (.block i x) Q st=vcW P E x (KQ.cN i Q) st:=(rfl)
theorem ax5 {c:AE}:vcW P E (.cond c x y) Q st=sj P E (ev st c) x y Q st:=by
 simp only[vcW,sj];cases ev st c<;>rfl
theorem Ke {b:Bool}:sj P E (.bool b) x y Q st=lr P E b x y Q st:=(rfl)
theorem Sr:lr P E true x y Q st=vcW P E x Q st:=by simp[lr]
theorem Sq:lr P E false x y Q st=vcW P E y Q st:=by simp[lr]
end
theorem awM {K K':St->Prop} {Q Q':Exit->St->Prop} (hK:∀st,K st->K' st) (hQ:∀e st,Q e st->Q' e st):∀e st,jX K Q e st->jX K' Q' e st:=by
 intro e st h;cases e<;>first | exact hK st h | exact hQ _ st h
theorem gP {P:Program} {E:Env} (hN:E.N<=1000000):∀(c:AK) {st:St} {Q:KQ},vcW P E c Q st->bV P E (c.erase E.B) st Q.ap
 | .skip,st,Q,h=>G6 h
 | .aa ops ks,st,Q,h=>by
  have h':=kU (B:=E.B) ops h;intro n code hc a w hr
  exact Cy hN hc h' hr (λst' a' w' h1 ⟨ρ2,h2⟩=>⟨_,⟨ρ2,lE h2 (kD _ ks)⟩,h1⟩)
 | .seq x y,st,Q,h=>G5 (bV.mono (gP hN x h) (awM (λst' h'=>gP hN y h') (λ_ _ h=>h)))
 | .cond c x y,st,Q,h=>by
  simp only[vcW]at h;split at h
  ·rename_i b hb;exact GW hb (λe=>gP hN x (h.1 e)) (λe=>gP hN y (h.2 e))
  ·exact h.elim
 | .block id x,st,Q,h=>GV (gP hN x h)
 | .loop x,st,Q,h=>h
 | .exit id,st,Q,h=>GX h
 | .ret,st,Q,h=>G3 h
 | .a8 x,st,Q,h=>h
 | .scope x,st,Q,h=>h
 | .label l,st,Q,h=>GZ h
 | .goto l,st,Q,h=>GY h
 | .split ops d f x c bk p q0 body,st,Q,h=>G7 hN (kU (B:=E.B) ops h)
 | .back ops d f kx bk p1 p q0 body,st,Q,h=>GU hN (kU (B:=E.B) ops h)
 | .alt p x y ks,st,Q,h=>by
  intro n code hc a w hr;refine FF hN hc (K:=λst=>Q.ap .normal ⟨trim st.s ks,st.h⟩) ?_ hr (λst' a' w' h1 ⟨ρ2,h2⟩=>⟨_,⟨ρ2,lE h2 (kD _ ks)⟩,h1⟩)
  exact du (B:=E.B) (λst h=>⟨kU (B:=E.B) x h.1,kU (B:=E.B) y h.2⟩) p h
 | .iI T ks,st,Q,h=>by
  intro n code hc a w hr;refine FE hN hc (K:=λst=>Q.ap .normal ⟨trim st.s ks,st.h⟩) ?_ hr (λst' a' w' h1 ⟨ρ2,h2⟩=>⟨_,⟨ρ2,lE h2 (kD _ ks)⟩,h1⟩)
  exact uG (B:=E.B) (λ_ h=>h) T h
 | .ix pre o post ks,st,Q,h=>by
  intro n code hc a w hr
  exact Cx hN hc hr (K:=λst=>Q.ap .normal ⟨trim st.s ks,st.h⟩) (λst' a' w' h1 ⟨ρ2,h2⟩=>⟨_,⟨ρ2,lE h2 (kD _ ks)⟩,h1⟩) (λV st' a' w' h1 h2=>⟨st',h2,h1⟩) (sA (B:=E.B) (λ_ h=>h) pre h)
 | .nR pre o md o2 post ks,st,Q,h=>by
  intro n code hc a w hr
  exact Cx hN hc hr (K:=λst=>Q.ap .normal ⟨trim st.s ks,st.h⟩) (λst' a' w' h1 ⟨ρ2,h2⟩=>⟨_,⟨ρ2,lE h2 (kD _ ks)⟩,h1⟩) (λV st' a' w' h1 h2=>⟨st',h2,h1⟩) (xB (B:=E.B) (λ_ h=>h) pre h)
 | .jh p x y ks T,st,Q,h=>by
  intro n code hc a w hr;refine FD hN hc hr (K:=λst=>Q.ap .normal ⟨trim st.s ks,st.h⟩) (KD:=λV st=>Q.ap (.panic (dR V)) st) (λst' a' w' h1 ⟨ρ2,h2⟩=>⟨_,⟨ρ2,lE h2 (kD _ ks)⟩,h1⟩) (λV st' a' w' h1 h2=>⟨st',h2,h1⟩) ?_;rcases h with h | h
  ·exact .inl (du (B:=E.B) (λst h=>⟨kU (B:=E.B) x h.1,kU (B:=E.B) y h.2⟩) p h)
  ·exact .inr (pC T h.1 h.2)
 | .jC _ _,st,Q,h=>h.elim
 | .bad,st,Q,h=>h.elim
theorem Zc {s s':List (Nat×AV)} {h h':HP}:zU ⟨s,h⟩ ⟨s',h'⟩=(ff s s'/\fe h h'):=(rfl)
theorem Za {s:List (Nat×AV)}:ff s []=True:=(rfl)
theorem Y9 {s r:List (Nat×AV)} {k:Nat} {v:AV}:ff s ((k,v)::r)=(sget s k=some v/\ff s r):=(rfl)
theorem Y7 {s:HP}:fe s []=True:=(rfl)
theorem Y6 {s r:HP} {k:Nat} {v:aK}:fe s ((k,v)::r)=(hget s k=some v/\fe s r):=(rfl)
theorem aZ {P:Program} {E:Env} {x:AK} {Q:KQ} {st:St} {α:Type} (hN:E.N<=1000000) (f:α->St) (inv:α->Prop) (ms:α->Nat) (a0:α) (h0:Wk st (f a0)) (hi:inv a0)
    (round:∀a (R:KS),inv a->(∀b st',ms b<ms a->inv b->Wk st' (f b)->R.ap st')->vcW P E x (KQ.fk R Q) (f a)):vcW P E (.loop x) Q st:=by
 show bV P E (.loop (x.erase E.B)) st Q.ap
 refine G0 (λn s=>∃a,inv a/\n=ms a/\Wk s (f a)) (ms a0) ⟨a0,hi,rfl,h0⟩ ?_;rintro n s ⟨a,h1,rfl,hle⟩;refine oK hle (bV.mono (gP hN x (round a ⟨λs=>∃m,m<ms a/\∃a,inv a/\m=ms a/\Wk s (f a)⟩ h1 (λb st' g1 g2 g3=>⟨ms b,g1,b,g2,rfl,g3⟩))) ?_);intro e s h;exact h
theorem dM {P:Program} {E:Env} {x y:AK} {Q:KQ} {st:St} {α:Type} (hN:E.N<=1000000) (f:α->St) (inv:α->Prop)
    (h1:∀R:KS,(∀a st',inv a->Wk st' (f a)->R.ap st')->vcW P E x (KQ.fk R Q) st) (h2:∀a,inv a->vcW P E y Q (f a)):vcW P E (.seq x (.a8 y)) Q st:=
 h1 ⟨λst=>bV P E (y.erase E.B) st Q.ap⟩ (λa st' g1 g2=>oK g2 (gP hN y (h2 a g1)))
theorem avR {P:Program} {E:Env} {d f bk p q0:Nat} {x:AE} {c:UInt8} {body:AK} {Q:KQ} {st:St} (hN:E.N<=1000000) (hrd:E.rd=none) (hS:rG P f) (hq0:q0<1000000) {s:List UInt8} (hx:ev st x=.str s) (hlen:s.length<=9223372036854775807)
    {α:Type} (s0:List (Nat×AV)) (H:α->HP) (inv:Nat->α->Prop) (x0:α) (h0:Wk st ⟨s0,H x0⟩) (hi:inv 0 x0) (hd0:sget s0 d=none) (hk0:s0.all (λq=>decide (q.1<3000000))=true)
    (round:∀(E2:Env) k y (R:KQ),E2.N<=1000000->inv k y->k<(splitB c s).length->(∀y' st',inv (k+1) y'->Wk st' ⟨ghost s0,H y'⟩->R.ap .normal st')->(∀st' h',Wk st' ⟨ghost s0,h'⟩->Q.ap .ret ⟨s0,h'⟩->R.ap .ret st') ->
     (∀i st' h',Wk st' ⟨ghost s0,h'⟩->(KQ.cN bk Q).ap (.exit i) ⟨s0,h'⟩->R.ap (.exit i) st')->vcW P E2 body R ⟨(q0,.str ((splitB c s).getD k []))::(p,.str ((splitB c s).getD k []))::(s0++ghost s0),H y⟩)
    (done:∀y,inv (splitB c s).length y->Q.ap .normal ⟨s0,H y⟩):DE P E d f x c bk p q0 body Q st:=by
 intro n ops o b a w hd hdN hg hnd htr hb hr;refine avS (body:=body.erase E.B) hN hrd hq0 hS hx hlen s0 H inv x0 h0 hi hd0 (λk v hk=>?_) (λE2 k y h1 h2 h3 h4=>?_) done hd hg hnd htr hdN hb hr
 ·have key:∀(l:List (Nat×AV)),l.all (λq=>decide (q.1<3000000))=true->sget l k=some v->k<3000000:=by
   intro l
   induction l with
   | nil=>intro _ h;simp[sget]at h
   | cons q r ih=>
    obtain⟨j,u⟩:=q;intro hl h;simp only[aCb,aBd,decide_eq_true_eq]at hl;simp only[sget]at h;split at h
    ·rename_i e;omega
    ·exact ih hl.2 h
  exact key s0 hk0 hk
 ·rw[<-h2];exact gP aA4 body (round E2 k y ⟨CK (λst'=>∃y',inv (k+1) y'/\Wk st' ⟨ghost s0,H y'⟩) s0 (blockQ bk Q.ap)⟩ aA4 h3 h4 (λy' st' g1 g2=>⟨y',g1,g2⟩) (λst' h' g1 g2=>⟨h',g1,g2⟩) (λi st' h' g1 g2=>⟨h',g1,g2⟩))
theorem eB {P:Program} {E:Env} {x:AK} {Q:KQ} {st:St} (hN:E.N<=1000000) (h:vcW P E x Q st):vcW P E (.a8 x) Q st:=gP hN x h
theorem lN {P:Program} {E:Env} {x:AK} {Q:KQ} {st:St} (hN:E.N<=1000000) (st':St) (hle:Wk st st') (h:vcW P E x Q st'):vcW P E (.a8 x) Q st:=oK hle (gP hN x h)
section
variable {P:Program} {q:Bool} {st:St} {f:Nat} {args:List AE} {as:List AV} {d:Option Nat} {r:List ROp} {K:KS} {Post:HP->AV->List AV->Prop}
def aJ (P:Program) (f:Nat) (as:List AV) (v:AV):Prop:=Spec P f [] as (λh r _=>h=[]/\r=v)
theorem aw {v:AV} (hs:aJ P f as v) (hn:as.all bO=true) (hv:dQ v=true) (h:aopsW P r (put st d v) K):ib P q st f args as d r K:=by
 rintro rfl;refine vF hs (by simpa using hn) ?_;rintro h' r' as' ⟨rfl,rfl⟩;exact⟨rfl,hv,h⟩
theorem ic (hs:Spec P f [] as Post) (hn:as.all bO=true) (h:∀h' v as',Post h' v as'->h'=[]/\dQ v=true/\aopsW P r (put st d v) K):ib P q st f args as d r K:=by
 rintro rfl;exact vF hs (by simpa using hn) h
def borL (h:HP):List AV->List AV
 | []=>[]
 | x::r=>borrow h x::borL h r
theorem sd (h:HP):∀l,borL h l=l.map (borrow h)
 | []=>rfl
 | x::r=>by simp[borL,sd h r]
theorem Je {v:AV} {bs:List AV} (hb:borL st.h as=bs) (hs:aJ P f bs v) (hv:dk v=true) (h:aopsW P r (put st d v) K):ib P q st f args as d r K:=by
 rintro rfl;subst hb;refine EJ (Post:=λh r _=>h=[]/\r=v) (by rw[sd,aB4]at hs;exact hs) ?_;rintro h' r' as' ⟨rfl,rfl⟩;exact⟨rfl,hv,h⟩
theorem aR (h0:HP) (hs:Spec P f h0 as Post) (hsub:fe st.h h0) (hq:q=true->h0=[])
    (h:∀h' v as',Post h' v as'->jn h' h'=true/\dJ h' v=true/\aopsW P r (put (ia st h0 args h' as') d v) K):ib P q st f args as d r K:=by
 rintro rfl;exact EL h0 hs (λi W hi=>jL hsub i W hi) hq h
def kZ (h0 h:HP):List AV->List AV
 | []=>[]
 | x::r=>bor h0 h x::kZ h0 h r
theorem wH (h0 h:HP):∀l,kZ h0 h l=l.map (bor h0 h)
 | []=>rfl
 | x::r=>by simp[kZ,wH h0 h r]
theorem nf (h0:HP) {bs:List AV} (hb:kZ h0 st.h as=bs) (hs:Spec P f h0 bs Post) (hsub:fe st.h h0) (hq:q=true->h0=[])
    (h:∀h' v as',Post h' v as'->flH h' h'=true/\eh h' v=true/\aopsW P r (put (ia st h0 args h' as') d v) K):ib P q st f args as d r K:=by
 rintro rfl;subst hb;rw[wH,aB4]at hs;exact EI h0 hs (λi W hi=>jL hsub i W hi) hq h
def kH:List AV->List AV
 | []=>[]
 | x::r=>stripV x::kH r
def kT:List AV->Prop
 | []=>True
 | x::r=>aA true x/\kT r
theorem uT:∀l,kH l=l.map stripV
 | []=>rfl
 | x::r=>by simp[kH,uT r]
theorem rL:∀{l:List AV},kT l->∀x∈l,aA true x
 | [],_,x,hx=>by cases hx
 | y::r,h,x,hx=>by
  rcases aBo.1 hx with rfl | hx
  ·exact h.1
  ·exact rL h.2 x hx
theorem RV.strip {X:Nat->Prop} {w:World} {ρ:Loc} {v:Value} {x:AV} (h:RV X w ρ v x) (hc:aA true x):RV X w ρ v (stripV x):=by
 cases x with
 | gd b y=>exact h.lk (hc rfl)
 | _=>exact h
theorem EK {q:Bool} {st:St} {f:Nat} {args:List AE} {K:AV->St->Prop} {Post:HP->AV->List AV->Prop} (hs:Spec P f [] (args.map λx=>borrow st.h (stripV (ev st x))) Post) (hc:∀x∈args,aA true (ev st x))
    (hK:∀h' r as,Post h' r as->h'=[]/\dk r=true/\K r st):eR P q st f args K:=by
 intro E ρ a w vs h hvs hrv;refine(hs E.X0 bf w vs (mq _ _ _) (h.cS.mono λ_ hb=>(gH hb).elim) (λb hb=>h.x0 b hb) (by simpa using hvs) (λj v x e1 e2=>?_)).mono ?_
 ·rw[List.getElem?_map]at e2;obtain⟨y,g1,rfl⟩:=aA6.1 e2;exact(wN h ((hrv j v y e1 g1).1.strip (hc y (aBf g1))) bf).mono (λ_ _ _=>rfl) (λb _ hb=>λhx=>hb (lQ.1 hx)) _ (λ_ _ h=>h)
 ·rintro e w' ⟨v,h',r,ρ',as,rfl,hP,_,g2,_,_,g3,g4,g5,g6,g7,_⟩;obtain⟨rfl,q1,q2⟩:=hK h' r as hP;have hsame:aU w w':=⟨g3,g4,g5,g6,λb hb=>g7 b hb gH⟩;exact⟨v,ρ,st,r,rfl,h.same hsame,g2.dk q1,q2,λ_=>hsame⟩
theorem k7 {d:Nat} {v:AV} {bs:List AV} (hb:borL st.h (kH as)=bs) (hs:aJ P f bs v) (hc:kT as) (hv:dk v=true) (h:aopsW P r ⟨(d,.gd true v)::st.s,st.h⟩ K):oX P q st f args as d r K:=by
 rintro rfl;subst hb;refine EK (Post:=λh r _=>h=[]/\r=v) (by have:=hs;rw[sd,uT,aB4,aB4]at this;exact this) (λx hx=>rL hc _ (List.mem_map_of_mem hx)) ?_;rintro h' r' as' ⟨rfl,rfl⟩;exact⟨rfl,hv,h⟩
theorem iM {d:Nat} {v:AV} {bs:List AV} (hb:kH as=bs) (hs:aJ P f bs v) (hc:kT as) (hn:bs.all bO=true) (hv:dQ v=true) (h:aopsW P r ⟨(d,.gd true v)::st.s,st.h⟩ K):oX P q st f args as d r K:=by
 rintro rfl;subst hb;rw[uT,aB4]at hs hn;intro E ρ a w vs h1 hvs hrv
 have hlt:∀b,XX E.X0 ρ st.h b->b<w.heap.size:=by
  intro b hb;rcases hb with hb | hb
  ·exact h1.x0 b hb
  ·exact gp h1 hb
 refine(hs (XX E.X0 ρ st.h) bf w vs (mq _ _ _) (h1.cS.mono λ_ hb=>(gH hb).elim) hlt (by simpa using hvs) (λj v x e1 e2=>?_)).mono ?_
 ·rw[List.getElem?_map]at e2;obtain⟨y,g1,rfl⟩:=aA6.1 e2;have hy:=(hrv j v y e1 g1).1.strip (rL hc _ (List.mem_map_of_mem (aBf g1)));have hm:(stripV (ev st y))∈args.map (stripV∘ev st):=aBH.2 ⟨y,aBf g1,rfl⟩;exact(hy.rk (aBc.1 hn _ hm) bf).mono (λ_ _ _=>rfl) (λb _ hb=>λhx=>hb (lQ.1 hx)) _ (λ_ _ h=>h)
 ·rintro e w' ⟨v,h',r,ρ',as,rfl,⟨rfl,rfl⟩,_,g2,_,_,g3,g4,g5,g6,g7,_⟩;have hsame:aU w w':=⟨g3,g4,g5,g6,λb hb=>g7 b hb gH⟩;exact⟨v,ρ,st,_,rfl,h1.same hsame,(g2.DX hv ρ).mono (λ_ _ _=>rfl) (λb _ hb=>λhx=>hb (lQ.2 hx)) ρ (λ_ _ h=>h),h,λ_=>hsame⟩
theorem fN {d:Nat} (h:oX P q st f args as d r K):pO P q (some true) st f args as d r K:=λe=>.inr (.inl ⟨rfl,h e⟩)
theorem eZ {d:Nat} (h:aopsW P r ⟨(d,.gd false .undef)::st.s,st.h⟩ K):pO P q (some false) st f args as d r K:=λ_=>.inl ⟨rfl,h⟩
end
def cR (Post R:HP->AV->List AV->Prop):Prop:=∀h' r' ar' h r ar,ar'.length=ar.length->Wk ⟨(0,r)::numbered 1 ar,h⟩ ⟨(0,r')::numbered 1 ar',h'⟩->Post h' r' ar'->R h r ar
theorem tD {s:List (Nat×AV)}:∀{s':List (Nat×AV)},(∀k v,(k,v)∈s'->sget s k=some v)->ff s s'
 | [],_=>trivial
 | (k,v)::r,h=>⟨h k v (aBn ..),tD (λk' v' hm=>h k' v' (aBu _ hm))⟩
theorem tJ:∀{l:List AV} {k j:Nat} {x:AV},(j,x)∈numbered k l->k<=j/\l[j-k]?=some x
 | [],k,j,x,h=>by simp[numbered]at h
 | y::r,k,j,x,h=>by
  simp only[numbered,aBo,Prod.mk.injEq]at h;rcases h with⟨rfl,rfl⟩ | h
  ·exact⟨aA9 _,by simp⟩
  ·obtain⟨h1,h2⟩:=tJ h;exact⟨aA4,by rw[show j-k=(j-(k+1))+1 by omega];simpa using h2⟩
theorem Y8 (r:AV) (ar:List AV):ff ((0,r)::numbered 1 ar) ((0,r)::numbered 1 ar):=by
 refine tD λk v hm=>?_;rcases aBo.1 hm with h | h
 ·injection h with h1 h2;subst h1;subst h2;simp[sget]
 ·obtain⟨h1,h2⟩:=tJ h;simp only[sget];rw[if_neg aA4];have:=nV ar 1 (k-1) v h2
  rwa[show 1+(k-1)=k by omega]at this
theorem Zb (r r':AV) (ar:List AV):ff ((0,r')::(0,r)::numbered 1 ar) ((0,r')::numbered 1 ar):=by
 refine tD λk v hm=>?_;rcases aBo.1 hm with h | h
 ·injection h with h1 h2;subst h1;subst h2;simp[sget]
 ·obtain⟨h1,h2⟩:=tJ h;simp only[sget];rw[if_neg aA4,if_neg aA4];have:=nV ar 1 (k-1) v h2
  rwa[show 1+(k-1)=k by omega]at this
section
variable {Post R:HP->AV->List AV->Prop}
theorem cR.le (hF:cR Post R) {h h':HP} {r:AV} {ar:List AV} (hl:fe h h') (hp:Post h' r ar):R h r ar:=hF h' r ar h r ar rfl (.le ⟨Y8 r ar,hl⟩) hp
theorem cR.ro (hF:cR Post R) {h:HP} {r:AV} {ar:List AV} (hp:Post [] r ar):R h r ar:=cR.le (h':=[]) hF trivial hp
theorem cR.val (hF:cR Post R) {h:HP} {r r':AV} {ar:List AV} (hv:mT r r') (hp:Post [] r' ar):R h r ar:=
 hF [] r' ar h r ar rfl (.val 0 r r' rfl hv (.le ⟨Zb r r' ar,trivial⟩)) hp
theorem cR.wk (hF:cR Post R) {h':HP} {r':AV} {ar':List AV} {h:HP} {r:AV} {ar:List AV} (hlen:ar'.length=ar.length) (hw:Wk ⟨(0,r)::numbered 1 ar,h⟩ ⟨(0,r')::numbered 1 ar',h'⟩) (hp:Post h' r' ar'):R h r ar:=hF h' r' ar' h r ar hlen hw hp
theorem yg:cR Post (λh r ar=>∃h2 r2 as2,as2.length=ar.length/\Wk ⟨(0,r)::numbered 1 ar,h⟩ ⟨(0,r2)::numbered 1 as2,h2⟩/\Post h2 r2 as2):=
 λh' r' ar' _ _ _ h1 h2 h3=>⟨h',r',ar',h1,h2,h3⟩
end
theorem RV.DK {X:Nat->Prop} {w:World} {ρ:Loc} {v:Value} {s:List UInt8} (h:RV X w ρ v (.str s)):v=.string ⟨s.toArray⟩:=by cases h;rfl
theorem RV.Iv {X:Nat->Prop} {w:World} {ρ:Loc} {v:Value} {b:Bool} (h:RV X w ρ v (.bool b)):v=.bool b:=by cases h;rfl
theorem RV.Zv {X:Nat->Prop} {w:World} {ρ:Loc} {v x:Value} (h:RV X w ρ v (.lit x)):v=x:=by cases h;rfl
def valOf:AV->Value
 | .bool b=>.bool b
 | .int k n=>.int k n
 | .fl k b=>.float k b
 | .cx k a b=>.complex k a b
 | .str s=>.string ⟨s.toArray⟩
 | .al=>.slice none 0 0
 | .lit x=>x
 | _=>undef
def isVal:AV->Bool
 | .bool _ | .int _ _ | .fl _ _ | .cx _ _ _ | .str _ | .al | .lit _=>true
 | _=>false
theorem RV.valOf {X:Nat->Prop} {w:World} {ρ:Loc} {v:Value} {x:AV} (h:RV X w ρ v x) (hx:isVal x=true):v=valOf x:=by
 cases h<;>first | rfl | cases hx
theorem fq {X:Nat->Prop} {w:World} {ρ:Loc} {x:AV} (hx:isVal x=true):RV X w ρ (valOf x) x:=by
 cases x<;>first | (cases hx;done) | skip
 ·exact .bool _ _
 ·exact .int _ _ _
 ·exact .fl _ _ _
 ·exact .cx _ _ _ _
 ·exact .str _ _
 ·exact .lit _ _
 ·exact .al _
def nw:AV->Bool
 | .ai vs=>vs.all isVal
 | x=>isVal x
def oq:AV->Value
 | .ai vs=>.tuple (vs.map valOf).toArray
 | x=>valOf x
theorem axV {X:Nat->Prop} {w:World} {ρ:Loc} {x:AV} (hx:nw x=true):RV X w ρ (oq x) x:=by
 cases x with
 | ai vs=>
  refine .ai _ _ _ (by simp) (λj v a h1 h2=>?_);simp only[List.getElem?_toArray,List.getElem?_map,h2,aBv,Option.some.injEq]at h1;subst h1
  exact fq (aBc.1 hx a (aBf h2))
 | bool b=>exact fq (x:=.bool b) hx
 | int k n=>exact fq (x:=.int k n) hx
 | fl k b=>exact fq (x:=.fl k b) hx
 | cx k a b=>exact fq (x:=.cx k a b) hx
 | str s=>exact fq (x:=.str s) hx
 | lit x=>exact fq (x:=.lit x) hx
 | al=>exact fq (x:=.al) hx
 | undef=>exact fq (x:=.undef) hx
 | ro sz es=>exact fq (x:=.ro sz es) hx
 | az x=>exact fq (x:=.az x) hx
 | sl i o n=>exact fq (x:=.sl i o n) hx
 | ptr i j f=>exact fq (x:=.ptr i j f) hx
 | ab i f=>exact fq (x:=.ab i f) hx
 | agg cs=>exact fq (x:=.agg cs) hx
 | gd b x=>exact fq (x:=.gd b x) hx
 | aN f cs=>exact fq (x:=.aN f cs) hx
theorem Dz {P:Program} {f:Nat} {as:List AV} {Q:AV->Prop} (ha:as.all isVal=true)
    (h:∀w:World,jg w->Calls P f (as.map valOf).toArray w λe w'=>∃v,Q v/\nw v=true/\e=.returned (oq v)/\Go.RowKit.Below w.heap.size w w'):Spec P f [] as (λh r _=>h=[]/\Q r):=by
 intro X0 ρ w vs h1 hA h2 h3 h4
 have hvs:vs=(as.map valOf).toArray:=by
  apply Array.ext (by simpa using h3);intro j g1 g2;have hj:j<as.length:=aA4;have:=(h4 j _ as[j] (Array.getElem?_eq_getElem g1) (List.getElem?_eq_getElem hj)).valOf (aBc.1 ha _ (aBJ hj));rw[this];simp
 rw[hvs];refine(h w hA.1).mono ?_;rintro e w' ⟨v,hQ,hv,rfl,hb⟩;refine⟨_,[],v,ρ,as,rfl,⟨rfl,hQ⟩,mq _ _ _,axV hv,rfl,λj u x e1 e2=>?_,hb.os,hb.tape,hb.output,hb.size,λb hb' _=>hb.block b hb',λb hb'=>(gH hb').elim⟩;rw[hvs]at h4;have:=(h4 j u x e1 e2).valOf (aBc.1 ha _ (aBf e2));rw[this];exact fq (aBc.1 ha _ (aBf e2))
theorem uR {P:Program} {f:Nat} {as:List AV} {v:AV} (ha:as.all isVal=true) (hv:nw v=true)
    (h:∀w:World,jg w->Calls P f (as.map valOf).toArray w λe w'=>e=.returned (oq v)/\Go.RowKit.Below w.heap.size w w'):aJ P f as v:=
 Dz (Q:=λr=>r=v) ha (λw hA=>(h w hA).mono (λe w' ⟨h1,h2⟩=>⟨v,rfl,hv,h1,h2⟩))
theorem DA {P:Program} {f:Nat} {as:List AV} {v:AV} (ha:as.all isVal=true) (hv:nw v=true)
    (h:∀w:World,Calls P f (as.map valOf).toArray w λe w'=>e=.returned (oq v)/\Go.RowKit.Below w.heap.size w w'):aJ P f as v:=uR ha hv (λw _=>h w)
theorem uS {P:Program} {f:Nat} {as:List AV} {v:AV} (ha:as.all isVal=true) (hv:nw v=true)
    (h:∀w:World,Calls P f (as.map valOf).toArray w λe w'=>e=.returned (oq v)/\w'=w):aJ P f as v:=
 DA ha hv (λw=>(h w).mono (λe w' ⟨h1,h2⟩=>⟨h1,by rw[h2];exact .refl _ _⟩))
def KQ.post (rs:List RVar) (m:Nat) (R:HP->AV->List AV->Prop):KQ:=⟨postQ rs m R⟩
theorem vZ {P:Program} {E:Env} {c:AC} {st:St} {Q:Exit->St->Prop} (s':List (Nat×AV)) (hs:ff st.s s') (h:bV P E c ⟨s',st.h⟩ Q):bV P E c st Q:=
 λn code hc a w hr=>h n code hc a w (by obtain⟨ρ,hr⟩:=hr;exact⟨ρ,lE hr hs⟩)
theorem apZ {st:St} {t:Nat} (ht:t<2000000):resOf st [.tmp t]=some (ev st (.t t)):=by simp[resOf,resAV,trE,ht]
theorem ap1 {st:St} {t u:Nat} (ht:t<2000000) (hu:u<2000000):resOf st [.tmp t,.tmp u]=some (.ai [ev st (.t t),ev st (.t u)]):=by simp[resOf,resAV,trE,ht,hu]
theorem ap0 {st:St} {t u v:Nat} (ht:t<2000000) (hu:u<2000000) (hv:v<2000000):resOf st [.tmp t,.tmp u,.tmp v]=some (.ai [ev st (.t t),ev st (.t u),ev st (.t v)]):=by simp[resOf,resAV,trE,ht,hu,hv]
theorem apY {st:St} {t u v x:Nat} (ht:t<2000000) (hu:u<2000000) (hv:v<2000000) (hx:x<2000000):resOf st [.tmp t,.tmp u,.tmp v,.tmp x]=some (.ai [ev st (.t t),ev st (.t u),ev st (.t v),ev st (.t x)]):=by simp[resOf,resAV,trE,ht,hu,hv,hx]
section
variable {m:Nat} {R:HP->AV->List AV->Prop} {st:St} {t u v x:Nat}
theorem Yl:(KQ.post [] m R).ap .ret st=R st.h (.ai []) (argsAgain st 0 m):=by simp[KQ.post,postQ,resOf,resAV]
theorem Yk:(KQ.post [] m R).ap .normal st=R st.h (.ai []) (argsAgain st 0 m):=by simp[KQ.post,postQ,resOf,resAV]
theorem Ym (ht:t<2000000):(KQ.post [.tmp t] m R).ap .ret st=R st.h (ev st (.t t)) (argsAgain st 0 m):=by simp[KQ.post,postQ,apZ ht]
theorem Yn (ht:t<2000000) (hu:u<2000000):(KQ.post [.tmp t,.tmp u] m R).ap .ret st=R st.h (.ai [ev st (.t t),ev st (.t u)]) (argsAgain st 0 m):=by simp[KQ.post,postQ,ap1 ht hu]
theorem Yo (ht:t<2000000) (hu:u<2000000) (hv:v<2000000):(KQ.post [.tmp t,.tmp u,.tmp v] m R).ap .ret st=R st.h (.ai [ev st (.t t),ev st (.t u),ev st (.t v)]) (argsAgain st 0 m):=by simp[KQ.post,postQ,ap0 ht hu hv]
theorem Yp (ht:t<2000000) (hu:u<2000000) (hv:v<2000000) (hx:x<2000000):(KQ.post [.tmp t,.tmp u,.tmp v,.tmp x] m R).ap .ret st=R st.h (.ai [ev st (.t t),ev st (.t u),ev st (.t v),ev st (.t x)]) (argsAgain st 0 m):=by simp[KQ.post,postQ,apY ht hu hv hx]
end
def KQ.dies (V:Value):KQ:=⟨xv V⟩
theorem X3 {V:Value} {st:St}:(KQ.dies V).ap (.panic (dR V)) st=True:=by simp[KQ.dies,xv]
def KQ.guard (rs:List RVar) (m:Nat) (V:Value) (zA:AV) (R:HP->AV->List AV->Prop):KQ:=⟨O9 rs m V zA R⟩
def guardP2 (rs:List RVar) (m:Nat) (zA:AV) (R:HP->AV->List AV->Prop) (st:St) (id:Nat):Option aK->Prop
 | some (.var [_])=>(KQ.post rs m R).ap .ret ⟨st.s,bU st.h id (.var [zA])⟩
 | _=>False
def guardP (rs:List RVar) (m:Nat) (zA:AV) (R:HP->AV->List AV->Prop) (st:St):Option AV->Prop
 | some (.ab id 0)=>guardP2 rs m zA R st id (hget st.h id)
 | _=>False
theorem yM {rs:List RVar} {m id:Nat} {zA:AV} {R:HP->AV->List AV->Prop} {st:St}:guardP rs m zA R st (some (.ab id 0))=guardP2 rs m zA R st id (hget st.h id):=(rfl)
theorem O8 {rs:List RVar} {m id:Nat} {zA c:AV} {R:HP->AV->List AV->Prop} {st:St}:guardP2 rs m zA R st id (some (.var [c]))=(KQ.post rs m R).ap .ret ⟨st.s,bU st.h id (.var [zA])⟩:=(rfl)
theorem X7 {rs:List RVar} {m:Nat} {V:Value} {zA:AV} {R:HP->AV->List AV->Prop} {st:St}:(KQ.guard rs m V zA R).ap .ret st=(KQ.post rs m R).ap .ret st:=(rfl)
theorem X6 {rs:List RVar} {m:Nat} {V:Value} {zA:AV} {R:HP->AV->List AV->Prop} {st:St}:(KQ.guard rs m V zA R).ap (.panic (dR V)) st=guardP rs m zA R st (sget st.s (2000000+m)):=by
 apply propext;constructor
 ·rintro⟨_,id,c,h1,h2,h3⟩;rw[h1,yM,h2];exact h3
 ·intro h;unfold guardP at h;split at h
  ·rename_i id h1;unfold guardP2 at h;split at h
   ·rename_i c h2;exact⟨rfl,id,c,h1,h2,h⟩
   ·exact h.elim
  ·exact h.elim
def KQ.jC (P:Program) (k m:Nat) (y:AK) (rs:List RVar) (V:Value) (zA:AV) (R:HP->AV->List AV->Prop):KQ:=
 ⟨λe st=>e=.normal/\∃id,ev st (.t k)=.ab id 0/\∀E':Env,E'.N<=1000000->vcW P E' y (KQ.guard rs m V zA R) ⟨(2000000+m,.ab id 0)::st.s,st.h⟩⟩
def retCC (o p:Option AV) (R:HP->AV->List AV->Prop) (h:HP) (as:List AV):Prop:=
 match o,p with
 | some x,some y=>R h (.ai [x,y]) as
 | _,_=>False
theorem ap4 {x y:AV} {R:HP->AV->List AV->Prop} {h:HP} {as:List AV}:retCC (some x) (some y) R h as=R h (.ai [x,y]) as:=(rfl)
theorem Yj {m n t u k:Nat} {ag bg:Bool} {R:HP->AV->List AV->Prop} {st:St}:(KQ.post [.cell t ag n,.cell u bg k] m R).ap .ret st=retCC (resC st ag n (sget st.s t)) (resC st bg k (sget st.s u)) R st.h (argsAgain st 0 m):=by
 simp only[KQ.post,postQ,resOf,resAV];cases resC st ag n (sget st.s t)<;>cases resC st bg k (sget st.s u)<;>simp[consO,retCC]
def retC (o:Option AV) (ys:List AV) (R:HP->AV->List AV->Prop) (h:HP) (as:List AV):Prop:=
 match o,ys with
 | some x,[]=>R h x as
 | some x,ys=>R h (.ai (x::ys)) as
 | none,_=>False
theorem O3:ghost []=[]:=(rfl)
theorem O2 {k:Nat} {v:AV} {r:List (Nat×AV)}:ghost ((k,v)::r)=(3000000+k,v)::ghost r:=(rfl)
theorem ap5 {x:AV} {R:HP->AV->List AV->Prop} {h:HP} {as:List AV}:retC (some x) [] R h as=R h x as:=(rfl)
theorem ap6 {x y:AV} {R:HP->AV->List AV->Prop} {h:HP} {as:List AV}:retC (some x) [y] R h as=R h (.ai [x,y]) as:=(rfl)
theorem Yh {m n t:Nat} {ag:Bool} {R:HP->AV->List AV->Prop} {st:St}:(KQ.post [.cell t ag n] m R).ap .ret st=retC (resC st ag n (sget st.s t)) [] R st.h (argsAgain st 0 m):=by
 simp only[KQ.post,postQ,resOf,resAV];cases resC st ag n (sget st.s t)<;>simp[consO,retC]
theorem Yi {m n t u:Nat} {ag:Bool} {R:HP->AV->List AV->Prop} {st:St} (hu:u<2000000):(KQ.post [.cell t ag n,.tmp u] m R).ap .ret st=retC (resC st ag n (sget st.s t)) [ev st (.t u)] R st.h (argsAgain st 0 m):=by
 simp only[KQ.post,postQ,resOf,resAV];cases resC st ag n (sget st.s t)<;>simp[consO,retC,trE,hu]
theorem apX {st:St} {ag:Bool} {n id f:Nat}:resC st ag n (some (.ab id f))=resW ag n f (hget st.h id):=(rfl)
theorem ap2 {ag:Bool} {n f:Nat} {cs:List AV}:resW ag n f (some (.var cs))=ldO ag n (cs.drop f):=(rfl)
theorem Y1 {n:Nat} {cs:List AV} (h:n<=cs.length):ldO true n cs=some (.agg (cs.take n)):=by simp[ldO,h]
theorem Y0 {n:Nat} {c:AV} {cs:List AV}:ldO false n (c::cs)=some c:=(rfl)
def qK (b:Bool) (id' i:Nat):Nat:=match b with
 | true=>id'
 | false=>i
theorem aq4 {id id' i:Nat}:rn id id' i=qK (i==id) id' i:=by unfold rn qK;cases i==id<;>rfl
theorem aq3 {id' i:Nat}:qK true id' i=id':=(rfl)
theorem aq2 {id' i:Nat}:qK false id' i=i:=(rfl)
def qU (b:Bool) (v:AV) (r:List (Nat×AV)) (i:Nat):Option AV:=bif b then some v else sget r i
theorem atX {i:Nat}:sget [] i=none:=(rfl)
theorem atW {k i:Nat} {v:AV} {r:List (Nat×AV)}:sget ((k,v)::r) i=qU (i==k) v r i:=by
 simp only[sget,qU,cond_eq_ite,beq_iff_eq]
theorem atV {v:AV} {r:List (Nat×AV)} {i:Nat}:qU true v r i=some v:=(rfl)
theorem atU {v:AV} {r:List (Nat×AV)} {i:Nat}:qU false v r i=sget r i:=(rfl)
def pZ (b:Bool) (v:aK) (r:HP) (i:Nat):Option aK:=bif b then some v else hget r i
theorem PS {i:Nat}:hget [] i=none:=(rfl)
theorem PR {k i:Nat} {v:aK} {r:HP}:hget ((k,v)::r) i=pZ (i==k) v r i:=by
 simp only[hget,pZ,cond_eq_ite,beq_iff_eq]
theorem PQ {v:aK} {r:HP} {i:Nat}:pZ true v r i=some v:=(rfl)
theorem PO {v:aK} {r:HP} {i:Nat}:pZ false v r i=hget r i:=(rfl)
def pX (b:Bool) (k:Nat) (v:aK) (r:HP) (i:Nat):HP:=bif b then hdel i r else(k,v)::hdel i r
theorem Pu {i:Nat}:hdel i []=[]:=(rfl)
theorem Pt {k i:Nat} {v:aK} {r:HP}:hdel i ((k,v)::r)=pX (i==k) k v r i:=by
 simp only[hdel,pX,cond_eq_ite,beq_iff_eq]
theorem Ps {k:Nat} {v:aK} {r:HP} {i:Nat}:pX true k v r i=hdel i r:=(rfl)
theorem Pr {k:Nat} {v:aK} {r:HP} {i:Nat}:pX false k v r i=(k,v)::hdel i r:=(rfl)
theorem Q9 {h:HP} {id:Nat} {W:aK}:bU h id W=(id,W)::hdel id h:=(rfl)
def qi (b:Bool) (i:Nat) (r:List Nat):Bool:=bif b then true else memN i r
theorem aaE {i:Nat}:memN i []=false:=(rfl)
theorem aaD {i k:Nat} {r:List Nat}:memN i (k::r)=qi (i==k) i r:=by
 simp only[memN,qi,cond_eq_ite,beq_iff_eq]
theorem aaC {i:Nat} {r:List Nat}:qi true i r=true:=(rfl)
theorem aaB {i:Nat} {r:List Nat}:qi false i r=memN i r:=(rfl)
def pB (b:Bool) (k:Nat) (W:aK) (ids keep:List Nat) (r:HP):HP:=bif b then dropH ids keep r else(k,jK ids keep W)::dropH ids keep r
theorem LC {ids keep:List Nat}:dropH ids keep []=[]:=(rfl)
theorem LB {ids keep:List Nat} {k:Nat} {W:aK} {r:HP}:dropH ids keep ((k,W)::r)=pB (memN k ids) k W ids keep r:=by
 simp only[dropH,pB,cond_eq_ite]
theorem LA {ids keep:List Nat} {k:Nat} {W:aK} {r:HP}:pB true k W ids keep r=dropH ids keep r:=(rfl)
theorem Lz {ids keep:List Nat} {k:Nat} {W:aK} {r:HP}:pB false k W ids keep r=(k,jK ids keep W)::dropH ids keep r:=(rfl)
theorem XB {id:Nat}:killS id []=[]:=(rfl)
theorem XA {id k:Nat} {v:AV} {r:List (Nat×AV)}:killS id ((k,v)::r)=(k,kill id v)::killS id r:=(rfl)
theorem Xx {id:Nat}:fA id []=[]:=(rfl)
theorem Xw {id k:Nat} {v:aK} {r:HP}:fA id ((k,v)::r)=(k,ki id v)::fA id r:=(rfl)
theorem Xz {ids keep:List Nat}:killSI ids keep []=[]:=(rfl)
theorem Xy {ids keep:List Nat} {k:Nat} {v:AV} {r:List (Nat×AV)}:killSI ids keep ((k,v)::r)=(k,kI ids keep v)::killSI ids keep r:=(rfl)
theorem OO {id sz:Nat} {es:List AV}:frzS id sz es []=[]:=(rfl)
theorem OM {id sz k:Nat} {es:List AV} {v:AV} {r:List (Nat×AV)}:frzS id sz es ((k,v)::r)=(k,bu id sz es v)::frzS id sz es r:=(rfl)
theorem OK {id sz:Nat} {es:List AV}:frzH id sz es []=[]:=(rfl)
theorem OJ {id sz k:Nat} {es:List AV} {v:aK} {r:HP}:frzH id sz es ((k,v)::r)=(k,lh id sz es v)::frzH id sz es r:=(rfl)
def frzO (st:St) (id:Nat) (o:Option aK):St:=
 match o with
 | some (.arr sz es)=>⟨frzS id sz es st.s,frzH id sz es (hdel id st.h)⟩
 | _=>st
theorem N5 {st:St} {id:Nat}:freeze st id=frzO st id (hget st.h id):=by
 unfold freeze frzO;split<;>simp_all
theorem OL {st:St} {id sz:Nat} {es:List AV}:frzO st id (some (.arr sz es))=⟨frzS id sz es st.s,frzH id sz es (hdel id st.h)⟩:=(rfl)
def sa (b:Bool) (Q:KQ) (j:Nat) (st:St):Prop:=match b with
 | true=>Q.ap .normal st
 | false=>Q.ap (.exit j) st
theorem XU {Q:KQ} {i j:Nat} {st:St}:(KQ.cN i Q).ap (.exit j) st=sa (j==i) Q j st:=by
 rw[X1];by_cases h:j=i
 ·subst h;rw[if_pos rfl,show(j==j)=true by simp];rfl
 ·rw[if_neg h,show(j==i)=false by simp[h]];rfl
theorem HF {Q:KQ} {j:Nat} {st:St}:sa true Q j st=Q.ap .normal st:=(rfl)
theorem HE {Q:KQ} {j:Nat} {st:St}:sa false Q j st=Q.ap (.exit j) st:=(rfl)
abbrev ints (xs:List Int):List AV:=xs.map (AV.int .i64)
theorem TQ (xs:List Int):ints xs=xs.map (AV.int .i64):=(rfl)
theorem abm {f:Int->AV} {xs:List Int} {i:Nat} (h:i<xs.length):nth (xs.map f) i=f (xs.getD i 0):=by
 simp[nth,aA5,h]
theorem abk {f:UInt8->AV} {xs:List UInt8} {i:Nat} (h:i<xs.length):nth (xs.map f) i=f (xs.getD i 0):=by
 simp[nth,aA5,h]
theorem abn {α:Type} {f:List α->AV} {xs:List (List α)} {i:Nat} (h:i<xs.length):nth (xs.map f) i=f (xs.getD i []):=by
 simp[nth,aA5,h]
theorem abl {α:Type} [Inhabited α] {f:α->AV} {xs:List α} {i:Nat} (h:i<xs.length):nth (xs.map f) i=f (xs.getD i default):=by
 simp[nth,aA5,h]
theorem aws {α:Type} {f:α->AV} {xs:List α} {o n:Nat}:aI (xs.map f) o n=((xs.drop o).take n).map f:=by
 simp[aI]
theorem awu {x:AV} {r:List AV} {o n:Nat}:aI (x::r) (o+1) n=aI r o n:=by simp[aI]
theorem awr {x:AV} {r:List AV} {n:Nat}:aI (x::r) 0 (n+1)=x::aI r 0 n:=by simp[aI]
theorem awv {r:List AV}:aI r 0 0=[]:=by simp[aI]
theorem awt {o n:Nat}:aI [] o n=[]:=by simp[aI]
theorem iC {α:Type} {xs:List α} {n:Nat} (h:xs.length<=n):xs.take n=xs:=aA7 h
theorem xC {α:Type} {xs:List α} {n:Nat} (h:xs.length<=n):xs.drop n=[]:=List.drop_eq_nil_of_le h
theorem atS {α:Type} {f:α->AV} {xs:List α} {i:Nat} {y:α}:(xs.map f).set i (f y)=(xs.set i y).map f:=by rw[aDA]
theorem F4 {α:Type} {f:α->AV} {xs:List α} {y:α}:xs.map f++[f y]=(xs++[y]).map f:=by simp
theorem F8 {α:Type} {f:α->AV} {xs ys:List α}:xs.map f++ys.map f=(xs++ys).map f:=by simp
theorem JB {k:IntKind} {xs:List Int}:(xs.map (AV.int k)).all a6=true:=by simp[a6,cellsOf,isCell]
theorem NK {k:IntKind} {xs:List Int}:(xs.map (AV.int k)).all flA=true:=by simp[flA,flC]
theorem NJ {xs:List UInt8}:(xs.map ub).all flA=true:=by simp[flA,flC,ub]
theorem NL {xs:List (List UInt8)}:(xs.map AV.str).all flA=true:=by simp[flA,flC]
theorem Jz {xs:List UInt8}:(xs.map ub).all a6=true:=by simp[a6,cellsOf,isCell,ub]
theorem JE {xs:List (List UInt8)}:(xs.map AV.str).all a6=true:=by simp[a6,cellsOf,isCell]
theorem JD {α:Type} {sz:Nat} {f:α->List AV} {xs:List α}:(xs.map λx=>AV.ro sz (f x)).all a6=true:=by simp[a6,cellsOf,isCell]
def qT (b:Bool) (e v:AV):AV:=
 match b with
 | true=>v
 | false=>.agg (c8 (cellsOf e) 0 (cellsOf v))
theorem atP {e v:AV}:jb e 0 v=qT ((cellsOf v).length==(cellsOf e).length) e v:=by
 unfold jb qT;by_cases h:(cellsOf v).length=(cellsOf e).length
 ·rw[if_pos ⟨rfl,h⟩,show((cellsOf v).length==(cellsOf e).length)=true by simp[h]]
 ·rw[if_neg (λx=>h x.2),show((cellsOf v).length==(cellsOf e).length)=false by simp[h]]
theorem atM {e v:AV}:qT true e v=v:=(rfl)
theorem atL {e v:AV}:qT false e v=.agg (c8 (cellsOf e) 0 (cellsOf v)):=(rfl)
theorem atO {e v:AV} {f:Nat} (h:f≠0):jb e f v=.agg (c8 (cellsOf e) f (cellsOf v)):=by
 unfold jb;rw[if_neg (λx=>h x.1)]
theorem aw7 (b:UInt8):ub b=.int .u8 b.toNat:=(rfl)
theorem Jv:cellsOf AV.undef=[AV.undef]:=(rfl)
theorem Jk (b:Bool):cellsOf (.bool b)=[.bool b]:=(rfl)
theorem Jo (k:IntKind) (n:Int):cellsOf (.int k n)=[.int k n]:=(rfl)
theorem Jn (k:FloatKind) (n:Nat):cellsOf (.fl k n)=[.fl k n]:=(rfl)
theorem Jl (k:FloatKind) (a b:Nat):cellsOf (.cx k a b)=[.cx k a b]:=(rfl)
theorem Ju (l:List UInt8):cellsOf (.str l)=[.str l]:=(rfl)
theorem Jp (x:Value):cellsOf (.lit x)=[.lit x]:=(rfl)
theorem Js (sz:Nat) (es:List AV):cellsOf (.ro sz es)=[.ro sz es]:=(rfl)
theorem Jm (x:AV):cellsOf (.az x)=[.az x]:=(rfl)
theorem Jt (i o n:Nat):cellsOf (.sl i o n)=[.sl i o n]:=(rfl)
theorem Jr (i j f:Nat):cellsOf (.ptr i j f)=[.ptr i j f]:=(rfl)
theorem Jw (i f:Nat):cellsOf (.ab i f)=[.ab i f]:=(rfl)
theorem Jq:cellsOf .al=[.al]:=(rfl)
theorem Jj (cs:List AV):cellsOf (.agg cs)=cs:=(rfl)
theorem atQ {α:Type} (xs:List α) (a b:α):(xs++[a]).set xs.length b=xs++[b]:=by simp
theorem aft {a b:Bool}:(if a=true then true else b)=(a||b):=by cases a<;>rfl
theorem afr {a b:Bool}:(if a=true then b else false)=(a&&b):=by cases a<;>rfl
theorem afu {p:Prop} [Decidable p] {b:Bool}:(if p then true else b)=(decide p||b):=by by_cases h:p<;>simp[h]
theorem afs {p:Prop} [Decidable p] {b:Bool}:(if p then b else false)=(decide p&&b):=by by_cases h:p<;>simp[h]
theorem KJ {b:Bool}:decide (b=true)=b:=by cases b<;>rfl
theorem TN {a b:Int} (h:a=b):(a=b)=True:=eq_true h
theorem aa8 {a b:Nat} (h:a=b):(a=b)=True:=eq_true h
theorem KO {p q:Prop} [Decidable p] [Decidable q]:(decide p||decide q)=decide (p\/q):=by simp
theorem KH {p q:Prop} [Decidable p] [Decidable q]:(decide p&&decide q)=decide (p/\q):=by simp
theorem KM {p:Prop} [Decidable p]:(!decide p)=decide (¬p):=by simp
theorem Hq {a b:List UInt8}:(a==b)=decide (a=b):=by
 by_cases h:a=b<;>simp[h]
theorem Hr {a:Bool}:(a==false)=!a:=by cases a<;>rfl
theorem Hs {a:Bool}:(a==true)=a:=by cases a<;>rfl
theorem LD {α:Type} (d:α) (xs:List α) {k:Nat} (h:k<xs.length):xs.drop k=xs.getD k d::xs.drop (k+1):=by
 rw[aB0 h,aA5,List.getElem?_eq_getElem h];rfl
theorem D9 {n:Int} (h:0<=n/\n<=255):ub (UInt8.ofNat n.toNat)=.int .u8 n:=by
 simp only[ub,aCi]
 congr 1
 omega
theorem atT {xs:List UInt8} {i:Nat} {n:Int} (h:0<=n/\n<=255):(xs.map ub).set i (.int .u8 n)=(xs.set i (UInt8.ofNat n.toNat)).map ub:=by
 rw[<-D9 h,aDA]
theorem Ga {xs:List UInt8} {n:Int} (h:0<=n/\n<=255):xs.map ub++[.int .u8 n]=(xs++[UInt8.ofNat n.toNat]).map ub:=by
 rw[<-D9 h];simp
theorem Jb {xs:List UInt8}:bytesOf (xs.map ub)=xs:=by
 simp only[bytesOf,aB4]
 conv=>rhs;rw[<-List.map_id xs]
 refine aCo λx _=>?_;simp[byteOfAV,ub]
theorem Fv {xs:List UInt8}:iH (xs.map ub)=true:=by simp[iH,jH,ub]
theorem aa3 {a b:Int}:(if b > a then b else a)=max a b:=aA4
theorem aaV {a b:Int}:(if b<a then b else a)=min a b:=aA4
theorem awP {k:Nat}:((k:Int)-1).toNat=k-1:=aA4
theorem awO {k:Nat}:((k:Int)+1).toNat=k+1:=aA4
theorem toNat_add {k m:Nat}:((k:Int)+(m:Int)).toNat=k+m:=aA4
theorem toNat_sub {k m:Nat}:((k:Int)-(m:Int)).toNat=k-m:=aA4
theorem MG (st:St):evL st []=[]/\(∀x r,evL st (x::r)=ev st x::evL st r):=⟨rfl,λ_ _=>rfl⟩
theorem Iz (h:HP):borL h []=[]/\(∀x r,borL h (x::r)=borrow h x::borL h r):=⟨rfl,λ_ _=>rfl⟩
theorem IA (h0 h:HP):kZ h0 h []=[]/\(∀x r,kZ h0 h (x::r)=bor h0 h x::kZ h0 h r):=⟨rfl,λ_ _=>rfl⟩
theorem avW:kH []=[]/\(∀x r,kH (x::r)=stripV x::kH r):=⟨rfl,λ_ _=>rfl⟩
theorem Fw:kT []=True/\(∀x r,kT (x::r)=(aA true x/\kT r)):=⟨rfl,λ_ _=>rfl⟩
theorem Ge (st:St) (k:Nat):argsAgain st k 0=[]/\(∀n,argsAgain st k (n+1)=(sget st.s (2000000+k)).getD .undef::argsAgain st (k+1) n):=⟨rfl,λ_=>rfl⟩
theorem jx {n:Int} (h:-9223372036854775808<=n/\n<=9223372036854775807):IntKind.i64.wrap n=n:=IntWalk.i64_in n h
theorem KP {p:Prop} [Decidable p] (h:p):decide p=true:=decide_eq_true h
theorem KK {p:Prop} [Decidable p] (h:¬p):decide p=false:=decide_eq_false h
section
variable {P:Program} {st:St} {K:KS} {r:List ROp} {d:Nat} {c:Prop} {v:AV} {γ:Bool}
theorem axY:valW P (.ok True v) d r st K=aopsW P r ⟨(d,v)::st.s,st.h⟩ K:=by simp only[vg,true_and]
theorem axX (h:c):valW P (.ok c v) d r st K=aopsW P r ⟨(d,v)::st.s,st.h⟩ K:=by simp only[vg,h,true_and]
theorem Mh:l9 P (.ok True v st) d r K=aopsW P r ⟨(d,v)::st.s,st.h⟩ K:=by simp only[sI,true_and]
theorem Mg (h:c):l9 P (.ok c v st) d r K=aopsW P r ⟨(d,v)::st.s,st.h⟩ K:=by simp only[sI,h,true_and]
theorem L7:l8 P (.ok True v st) r K=aopsW P r st K:=by simp only[sH,true_and]
theorem L6 (h:c):l8 P (.ok c v st) r K=aopsW P r st K:=by simp only[sH,h,true_and]
end
theorem ayC {n:Int} (h:-128<=n/\n<=127):IntKind.i8.wrap n=n:=IntWalk.i8_in n h
theorem ayB {n:Int} (h:-32768<=n/\n<=32767):IntKind.i16.wrap n=n:=IntWalk.i16_in n h
theorem wrap_i32 {n:Int} (h:-2147483648<=n/\n<=2147483647):IntKind.i32.wrap n=n:=IntWalk.i32_in n h
theorem wrap_u8 {n:Int} (h:0<=n/\n<=255):IntKind.u8.wrap n=n:=IntWalk.u8_in n h
theorem wrap_u16 {n:Int} (h:0<=n/\n<=65535):IntKind.u16.wrap n=n:=IntWalk.u16_in n h
theorem wrap_u32 {n:Int} (h:0<=n/\n<=4294967295):IntKind.u32.wrap n=n:=IntWalk.u32_in n h
theorem wrap_u64 {n:Int} (h:0<=n/\n<=18446744073709551615):IntKind.u64.wrap n=n:=IntWalk.u64_in n h
section
variable {P:Program} {E:Env} {st:St} {Q:KQ} {x y:AK}
theorem nu {p:Prop} [Decidable p] (h1:p->vcW P E x Q st) (h2:¬p->vcW P E y Q st):lr P E (decide p) x y Q st:=
 ⟨λh=>h1 (of_decide_eq_true h),λh=>h2 (of_decide_eq_false h)⟩
end
attribute [go_sem] Yx XY Ys Ya Ye YI LJ LH LI YH YG Lv Lw Ly afy Fp X3 yM O8 X7 X6 ap4 Yj YK YF YE O3 O2 ap5 ap6 Yh Yi apX ap2 Y1 Y0 Yv XV Yq X9 Yb Yc X8 Yd Yf Yg ax8 ax7 MG Iz IA avW Fw Ge F1 F2 F3 axW FU Mf FV L5 rQ FT FZ Pe Pd Pc Pa FY OV OU OT FW FX YJ Yw Yy Yz XW XZ XU HF HE Yr Yt Yu ayf ayc ax6 Ke Sr Sq aw3 aw4 aw2 aw1 Zc Za Y9 Y7 Y6 Yl Yk Ym Yn Yo Yp Xo Xn atX atW atV atU PS PR PQ PO Q9 Pu Pt Ps Pr aaE aaD aaC aaB LC LB LA Lz Jv Jk Jo Jn Jl Ju Jp Js Jm Jt Jr Jw Jq Jj XB XA Xz Xy OO OM OK OJ N5 OL Xx Xw aq4 aq3 aq2 aBR aBS aw7 aBe aB3 aBW aDh aDF aDE Bool.false_and Bool.or_true Bool.or_false Bool.true_or Bool.false_or if_true if_false aCj aDa aBv aBZ aBy aBq aBA aBQ aBE aCm aCb aDB aBr aBK aCq aCz aBF aB1 decide_true decide_false aft afr afu afs KJ TN aa8 KO KH KM Hq Hr Hs imp_self implies_true decide_eq_true_eq decide_eq_false_iff_not eq_self Int.natCast_add Int.cast_ofNat_Int aCY aBO Int.add_zero Int.zero_add Bool.and_self aDH true_and and_true false_and and_false not_true_eq_false not_false_eq_true Option.some.injEq aK.arr.injEq aK.var.injEq AV.int.injEq AV.bool.injEq AV.str.injEq AV.ro.injEq AV.sl.injEq AV.az.injEq AV.agg.injEq AV.ai.injEq AV.fl.injEq AV.cx.injEq AV.ab.injEq AV.ptr.injEq List.cons.injEq Prod.mk.injEq false_imp_iff true_imp_iff forall_const Int.toNat_natCast TQ abm abk abn aws awt awu awr awv iC xC List.set_cons_zero List.set_cons_succ awP awO toNat_add toNat_sub aa3 aaV atS atT Ga Jb Fv atQ F4 F8 NK NJ NL JB Jz JE JD aBp aA8 List.length_set aDp aBt aCW atP atM atL atO
attribute [go_sem high] Pb axY Mh L7
attribute [go_sem] axX Mg L6 jx ayC ayB wrap_i32 wrap_u8 wrap_u16 wrap_u32 wrap_u64 KP KK
theorem kL {a b:Int} (h:0<=a):a.tdiv b=a/b:=Int.tdiv_eq_ediv_of_nonneg h
theorem iD {a b:Int} (h:0<=a):a.tmod b=a%b:=Int.tmod_eq_emod_of_nonneg h
attribute [go_sem] kL iD
attribute [go_sem low] abl
attribute [go_sem low] FK vg sI sH
theorem Lx:(∀{α:Type} (a b:List α),(a++b).length=a.length+b.length)/\(∀{α:Type} (x:α) (a:List α),(x::a).length=a.length+1)/\(∀{α:Type},([]:List α).length=0)/\(∀{α:Type} (a:List α) (i:Nat) (x:α),(a.set i x).length=a.length) /\
    (∀{α β:Type} (f:α->β) (a:List α),(a.map f).length=a.length)/\(∀{α:Type} (i:Nat) (a:List α),(a.take i).length=min i a.length)/\(∀{α:Type} (i:Nat) (a:List α),(a.drop i).length=a.length-i)/\(∀n:Nat,(List.range n).length=n) /\
    (∀{α:Type} (n:Nat) (x:α),(List.replicate n x).length=n)/\(∀{α:Type} (a:List α),a.reverse.length=a.length):=
 ⟨λ_ _=>aA8,λ_ _=>aBr,aBK,λ_ _ _=>List.length_set,λ_ _=>aBp _,λ_ _=>aBa,λ_ _=>aBb,λ_=>aDp,λ_ _=>aBt,λ_=>aCW⟩
theorem vV {p:Prop} (h:p:=by simp(disch:=first | omega | (simp only[Lx];omega))only[go_sem,simprocAttr]):p:=h
theorem wW {a b:Prop} (k:b) (h:b->a:=by intro h;simp(disch:=first | omega | (simp only[Lx];omega))only[go_sem,simprocAttr];exact h):a:=h k
theorem gG {a b:Prop} (k:b) (h:b->a:=by intro h;(repeat(first | (with_reducible refine fb ?_) | (with_reducible refine eZ ?_) | (with_reducible refine fa ?_))<;>simp(disch:=first | omega | (simp only[Lx];omega))only[go_sem,simprocAttr]);exact h):a:=h k
theorem eM {E0:Prop} {p:Prop} (e0:E0) (h:E0->p:=by intro e0;simp(disch:=first | omega | (simp only[Lx];omega))only[go_sem,simprocAttr,e0]):p:=h e0
theorem au {E0:Prop} {a b:Prop} (e0:E0) (k:b) (h:E0->b->a:=by intro e0 h;simp(disch:=first | omega | (simp only[Lx];omega))only[go_sem,simprocAttr,e0];exact h):a:=h e0 k
theorem bq {E0:Prop} {a b:Prop} (e0:E0) (k:b) (h:E0->b->a:=by intro e0 h;(repeat(first | (with_reducible refine fb ?_) | (with_reducible refine eZ ?_) | (with_reducible refine fa ?_))<;>simp(disch:=first | omega | (simp only[Lx];omega))only[go_sem,simprocAttr,e0]);exact h):a:=h e0 k
theorem jZ {E0 E1:Prop} {p:Prop} (e0:E0) (e1:E1) (h:E0->E1->p:=by intro e0 e1;simp(disch:=first | omega | (simp only[Lx];omega))only[go_sem,simprocAttr,e0,e1]):p:=h e0 e1
theorem bl {E0 E1:Prop} {a b:Prop} (e0:E0) (e1:E1) (k:b) (h:E0->E1->b->a:=by intro e0 e1 h;simp(disch:=first | omega | (simp only[Lx];omega))only[go_sem,simprocAttr,e0,e1];exact h):a:=h e0 e1 k
theorem dI {E0 E1:Prop} {a b:Prop} (e0:E0) (e1:E1) (k:b) (h:E0->E1->b->a:=by intro e0 e1 h;(repeat(first | (with_reducible refine fb ?_) | (with_reducible refine eZ ?_) | (with_reducible refine fa ?_))<;>simp(disch:=first | omega | (simp only[Lx];omega))only[go_sem,simprocAttr,e0,e1]);exact h):a:=h e0 e1 k
theorem vb {E0 E1 E2:Prop} {p:Prop} (e0:E0) (e1:E1) (e2:E2) (h:E0->E1->E2->p:=by intro e0 e1 e2;simp(disch:=first | omega | (simp only[Lx];omega))only[go_sem,simprocAttr,e0,e1,e2]):p:=h e0 e1 e2
theorem ct {E0 E1 E2:Prop} {a b:Prop} (e0:E0) (e1:E1) (e2:E2) (k:b) (h:E0->E1->E2->b->a:=by intro e0 e1 e2 h;simp(disch:=first | omega | (simp only[Lx];omega))only[go_sem,simprocAttr,e0,e1,e2];exact h):a:=h e0 e1 e2 k
theorem fx {E0 E1 E2:Prop} {a b:Prop} (e0:E0) (e1:E1) (e2:E2) (k:b) (h:E0->E1->E2->b->a:=by intro e0 e1 e2 h;(repeat(first | (with_reducible refine fb ?_) | (with_reducible refine eZ ?_) | (with_reducible refine fa ?_))<;>simp(disch:=first | omega | (simp only[Lx];omega))only[go_sem,simprocAttr,e0,e1,e2]);exact h):a:=h e0 e1 e2 k
theorem vc {E0 E1 E2 E3:Prop} {p:Prop} (e0:E0) (e1:E1) (e2:E2) (e3:E3) (h:E0->E1->E2->E3->p:=by intro e0 e1 e2 e3;simp(disch:=first | omega | (simp only[Lx];omega))only[go_sem,simprocAttr,e0,e1,e2,e3]):p:=h e0 e1 e2 e3
theorem dq {E0 E1 E2 E3:Prop} {a b:Prop} (e0:E0) (e1:E1) (e2:E2) (e3:E3) (k:b) (h:E0->E1->E2->E3->b->a:=by intro e0 e1 e2 e3 h;simp(disch:=first | omega | (simp only[Lx];omega))only[go_sem,simprocAttr,e0,e1,e2,e3];exact h):a:=h e0 e1 e2 e3 k
theorem lj {E0 E1 E2 E3:Prop} {a b:Prop} (e0:E0) (e1:E1) (e2:E2) (e3:E3) (k:b) (h:E0->E1->E2->E3->b->a:=by intro e0 e1 e2 e3 h;(repeat(first | (with_reducible refine fb ?_) | (with_reducible refine eZ ?_) | (with_reducible refine fa ?_))<;>simp(disch:=first | omega | (simp only[Lx];omega))only[go_sem,simprocAttr,e0,e1,e2,e3]);exact h):a:=h e0 e1 e2 e3 k
theorem cW {E0 E1 E2 E3 E4:Prop} {a b:Prop} (e0:E0) (e1:E1) (e2:E2) (e3:E3) (e4:E4) (k:b) (h:E0->E1->E2->E3->E4->b->a:=by intro e0 e1 e2 e3 e4 h;simp(disch:=first | omega | (simp only[Lx];omega))only[go_sem,simprocAttr,e0,e1,e2,e3,e4];exact h):a:=h e0 e1 e2 e3 e4 k
theorem ns {E0 E1 E2 E3 E4:Prop} {a b:Prop} (e0:E0) (e1:E1) (e2:E2) (e3:E3) (e4:E4) (k:b) (h:E0->E1->E2->E3->E4->b->a:=by intro e0 e1 e2 e3 e4 h;(repeat(first | (with_reducible refine fb ?_) | (with_reducible refine eZ ?_) | (with_reducible refine fa ?_))<;>simp(disch:=first | omega | (simp only[Lx];omega))only[go_sem,simprocAttr,e0,e1,e2,e3,e4]);exact h):a:=h e0 e1 e2 e3 e4 k
theorem ou {E0 E1 E2 E3 E4 E5:Prop} {a b:Prop} (e0:E0) (e1:E1) (e2:E2) (e3:E3) (e4:E4) (e5:E5) (k:b) (h:E0->E1->E2->E3->E4->E5->b->a:=by intro e0 e1 e2 e3 e4 e5 h;simp(disch:=first | omega | (simp only[Lx];omega))only[go_sem,simprocAttr,e0,e1,e2,e3,e4,e5];exact h):a:=h e0 e1 e2 e3 e4 e5 k
inductive j5:AV->AV->Prop where
 | refl (a:AV):j5 a a
 | nil (sz:Nat):j5 .al (.ro sz [])
inductive eO:List AV->List AV->Prop where
 | nil:eO [] []
 | cons {a b:AV} {as bs:List AV} (h:j5 a b) (hs:eO as bs):eO (a::as) (b::bs)
inductive kQ:AV->AV->Prop where
 | one {a b:AV} (h:j5 a b):kQ a b
 | ro {sz:Nat} {as bs:List AV} (h:eO as bs):kQ (.ro sz as) (.ro sz bs)
 | agg {as bs:List AV} (h:eO as bs):kQ (.agg as) (.agg bs)
inductive lR:List AV->List AV->Prop where
 | nil:lR [] []
 | cons {a b:AV} {as bs:List AV} (h:kQ a b) (hs:lR as bs):lR (a::as) (b::bs)
theorem eO.refl:∀l:List AV,eO l l
 | []=>.nil
 | x::r=>.cons (.refl x) (eO.refl r)
theorem xO {a b:AV} (h:j5 a b):eO (cellsOf a) (cellsOf b):=by
 cases h with
 | refl=>exact eO.refl _
 | nil sz=>exact .cons (.nil sz) .nil
theorem Mj {a b c d:List AV} (h:eO a b) (k:eO c d):eO (a++c) (b++d):=by
 induction h with
 | nil=>exact k
 | cons h _ ih=>exact .cons h ih
theorem xP {as bs:List AV} (h:eO as bs):eO (flat as) (flat bs):=by
 induction h with
 | nil=>exact .nil
 | cons h _ ih=>
  simp only[flat,aC4];exact Mj (xO h) ih
theorem np {as bs:List AV} (h:eO as bs):as.length=bs.length:=by
 induction h with
 | nil=>rfl
 | cons h _ ih=>simp[ih]
theorem sJ {as bs:List AV} (h:eO as bs):∀(j:Nat) (b:AV),bs[j]?=some b->∃a,as[j]?=some a/\j5 a b:=by
 induction h with
 | nil=>intro j b hb;simp at hb
 | cons h _ ih=>
  intro j b hb
  cases j with
  | zero=>simp at hb;subst hb;exact⟨_,rfl,h⟩
  | succ j=>exact ih j b (by simpa using hb)
theorem Mk {as bs:List AV} (h:eO as bs):∀b∈bs,∃a∈as,j5 a b:=by
 intro b hb;obtain⟨j,hj⟩:=List.mem_iff_getElem?.1 hb;obtain⟨a,h1,h2⟩:=sJ h j b hj;exact⟨a,aBf h1,h2⟩
theorem RV.pE {X:Nat->Prop} {w:World} {ρ:Loc} {v:Value} {a b:AV} (h:RV X w ρ v a) (k:j5 a b):RV X w ρ v b:=by
 cases k with
 | refl=>exact h
 | nil sz=>cases h;exact .ro ρ none 0 sz [] [] (aA9 _) (λe he=>by cases he) rfl (λj hj=>by simp at hj) (λj v a h1 _=>by simp at h1)
theorem RV.Fu {X:Nat->Prop} {w:World} {ρ:Loc} {v:Value} {a b:AV} (h:RV X w ρ v a) (k:kQ a b):RV X w ρ v b:=by
 cases k with
 | one k=>exact h.pE k
 | ro k=>
  cases h with
  | ro _ A c sz es vs hc aO hlen hcell hrel=>
   rw[np k];refine .ro ρ A c _ _ vs (by rw[<-np k];exact hc) (λe he=>?_) (by rw[hlen,np (xP k)]) hcell (λj v b h1 h2=>?_)
   ·obtain⟨a,ha,hab⟩:=Mk k e he;rw[<-np (xO hab)];exact aO a ha
   ·obtain⟨a,h3,h4⟩:=sJ (xP k) j b h2
    exact(hrel j v a h1 h3).pE h4
 | agg k=>
  cases h with
  | agg _ vs _ hlen hrel=>
   refine .agg ρ vs _ (by rw[hlen,np k]) (λj v b h1 h2=>?_);obtain⟨a,h3,h4⟩:=sJ k j b h2;exact(hrel j v a h1 h3).pE h4
theorem FB {as bs:List AV} (h:lR as bs):as.length=bs.length/\∀(j:Nat) (a:AV),as[j]?=some a->∃b,bs[j]?=some b/\kQ a b:=by
 induction h with
 | nil=>exact⟨rfl,λj b hb=>by simp at hb⟩
 | cons h _ ih=>
  refine⟨by simp[ih.1],λj b hb=>?_⟩
  cases j with
  | zero=>simp at hb;subst hb;exact⟨_,rfl,h⟩
  | succ j=>exact ih.2 j b (by simpa using hb)
theorem FC {as bs:List AV} (h:lR as bs):∀(j:Nat) (b:AV),bs[j]?=some b->∃a,as[j]?=some a/\kQ a b:=by
 induction h with
 | nil=>intro j b hb;simp at hb
 | cons h _ ih=>
  intro j b hb
  cases j with
  | zero=>simp at hb;subst hb;exact⟨_,rfl,h⟩
  | succ j=>exact ih j b (by simpa using hb)
theorem avK {P:Program} {f:Nat} {h:HP} {as bs:List AV} {Post:HP->AV->List AV->Prop} (k:lR as bs) (hs:Spec P f h bs Post):Spec P f h as Post:=by
 intro X0 ρ w vs h1 hA h2 h3 h4;have hl:=(FB k).1;rw[hl]
 exact hs X0 ρ w vs h1 hA h2 (by rw[h3,hl]) (λj v b e1 e2=>by
  obtain⟨a,e3,e4⟩:=FC k j b e2
  exact(h4 j v a e1 e3).Fu e4)
def vR:AE->Bool
 | .t _=>true
 | .c v=>flA v
theorem EM {P:Program} {q:Bool} {st st':St} {f:Nat} {args:List AE} {K:AV->St->Prop} (hw:Wk st st') (hc:args.all vR=true) (h:eR P q st' f args K):eR P q st f args K:=by
 intro E ρ a w vs hr aO hrv;obtain⟨ρ',hr'⟩:=kO hw hr;refine h E ρ' a w vs hr' aO (λj v x e1 e2=>⟨?_,(hrv j v x e1 e2).2⟩);obtain⟨g1,g2⟩:=hrv j v x e1 e2
 cases x with
 | t k=>
  obtain⟨g3,g4⟩:=g2 k rfl;have:=cJ hr' (.tmp k);simp only[trE,g3,if_true]at this;rw[g4]
  exact this
 | c c=>
  have:=aBc.1 hc _ (aBf e2);exact RV.flA (show RV _ w ρ v c from g1) this
theorem j7 {P:Program} {q:Bool} {st:St} {f:Nat} {args:List AE} {as:List AV} {d:Option Nat} {r:List ROp} {K:KS} (st':St) (hw:Wk st st') (hc:args.all vR=true) (h:ib P q st' f args (evL st' args) d r K):ib P q st f args as d r K:=by
 rintro rfl;exact EM hw hc (h (mb st' args))
end Go.Proofs.YtoalcafkffmiiaaGreatDoor.Eng
namespace Go.Proofs.YtoalcafkffmiiaaGreatDoor.Eng
def gQ (P:Program) (f n:Nat) (h:HP) (args:List AV) (Post:HP->AV->List AV->Prop):Prop:=
 ∀(X0:Nat->Prop) (ρ:Loc) (w:World) (vs:Array Value),dT X0 ρ h w->j4 (bx ρ h) w->(∀b,X0 b->b<w.heap.size)->vs.size=args.length ->
  (∀(j:Nat) v x,vs[j]?=some v->args[j]?=some x->RV (XX X0 ρ h) w ρ v x) ->
  Calls P f (vs.extract 0 n) w λe w'=>∃v h' r ρ' as,e=.returned v/\Post h' r as/\dT X0 ρ' h' w'/\RV (XX X0 ρ' h') w' ρ' v r /\
   as.length=args.length/\(∀(j:Nat) v x,vs[j]?=some v->as[j]?=some x->RV (XX X0 ρ' h') w' ρ' v x) /\
   w'.os=w.os/\w'.tape=w.tape/\w'.output=w.output/\w.heap.size<=w'.heap.size/\(∀b,b<w.heap.size->¬bx ρ h b->w'.heap[b]?=w.heap[b]?) /\
   (∀b,bx ρ' h' b->w.heap.size<=b\/bx ρ h b)
def q9 (n:Nat) (args:List AV):List (Nat×AV):=numbered 0 (args.take n)++numbered 2000000 args
theorem avI {P:Program} {f:Nat} {fn:Func} {body:Code} {h:HP} {args:List AV} {Post:HP->AV->List AV->Prop} {c:AC} (hf:P.funcs[f]?=some fn) (hb:fn.body=some body) {B n:Nat} (hc:trCode P fn.ntmps B body=c)
    (hN:fn.ntmps<=1000000) (hn:n<=args.length) (ha:n<=fn.ntmps) (hp:∀E:Env,E.N=fn.ntmps->E.B=B->E.rd=none->bV P E c ⟨q9 n args,h⟩ (postQ (fn.results.toList.map (trRes P)) args.length Post)):gQ P f n h args Post:=by
 intro X0 ρ w vs hh hA hX hvs hrv
 let E:Env:=⟨w,bx ρ h,X0,fn.ntmps,B,λk=>vs.getD (k-2000000) undef,none,w.heap.size,aA9 _,[]⟩
 refine(callsIn_wide (n:=0)).1 (callsIn_of_wp_marks hf hb trivial (wpIn_mono (hp E rfl rfl rfl 0 body hc _ w ⟨ρ,?_⟩) ?_))
 ·have hex:∀k,k<n->(vs.extract 0 n)[k]?=vs[k]?:=λk hk=>by
   rw[Array.getElem?_extract];simp;omega
  refine⟨gn.nil _ _,by simp[E];omega,λk av hk=>?_,hh,λid W L b h1 h2 h3=>.inr ⟨id,W,L,h1,h2,h3⟩,⟨rfl,rfl,rfl,aA9 _,λ_ _ _=>rfl,hA⟩,hX⟩;simp only[q9,lF]at hk
  cases h0:sget (numbered 0 (args.take n)) k with
  | some av0=>
   rw[h0]at hk;obtain rfl:=Option.some.inj hk;obtain⟨_,h2⟩:=lG (args.take n) 0 k _ h0
   have hlt:k<n:=by
    have:=(List.getElem?_eq_some_iff.1 h2).1;simp at this;omega
   have h2:args[k]?=some av0:=by
    rw[aDH,List.getElem?_take_of_lt hlt]at h2;exact h2
   have hlt2:k<E.N:=by simp only[E];omega
   refine⟨.inl hlt2,?_⟩;have hv:vs[k]?=some (vs[k]' aA4):=Array.getElem?_eq_getElem _;unfold bS;rw[if_pos hlt2,aBj,Array.getElem?_append_left (by simp;omega),hex k hlt,hv]
   exact hrv k _ _ hv h2
  | none=>
   rw[h0]at hk;obtain⟨h1,h2⟩:=lG args 2000000 k av hk;have hlt:k-2000000<args.length:=(List.getElem?_eq_some_iff.1 h2).1;refine⟨.inr h1,?_⟩;have hv:vs[k-2000000]?=some (vs[k-2000000]' aA4):=Array.getElem?_eq_getElem _;unfold bS;rw[if_neg (by simp only[E];omega)];simp only[E,aBj,hv];exact hrv _ _ av hv h2
 ·rintro e a' w' ⟨st',⟨ρ',g0⟩,q⟩
  have fin:∀r,resOf st' (fn.results.toList.map (trRes P))=some r->Post st'.h r (argsAgain st' 0 args.length)->bodyPostM Fence.wide 0 P fn (λe w'=>∃v h' r ρ' as,e=.returned v/\Post h' r as/\dT X0 ρ' h' w'/\RV (XX X0 ρ' h') w' ρ' v r /\
   as.length=args.length/\(∀(j:Nat) v x,vs[j]?=some v->as[j]?=some x->RV (XX X0 ρ' h') w' ρ' v x) /\
   w'.os=w.os/\w'.tape=w.tape/\w'.output=w.output/\w.heap.size<=w'.heap.size/\(∀b,b<w.heap.size->¬bx ρ h b->w'.heap[b]?=w.heap[b]?) /\
   (∀b,bx ρ' h' b->w.heap.size<=b\/bx ρ h b)) .ret a' w':=by
   intro r hr hP;obtain⟨⟨Ds,hDs⟩,_⟩:=g0.defers
   show LeavesInM Fence.wide 0 P fn a'.tmps _ a'.defers .returning w'
   rw[hDs];refine tE (E:=E) (ρ:=ρ') (st:=st') (a:=a') (by simp) (λw' g=>?_) rfl rfl Ds w' (by rw[<-hDs];exact g0);obtain⟨v,g1,g2⟩:=CB (P:=P) g hr;refine⟨v,g1,v,st'.h,r,ρ',_,rfl,hP,g.heap,g2,rU _ _ _,λj v x e1 e2=>?_,g.aE.os,g.aE.tape,g.aE.output,g.aE.size,g.aE.block,λb ⟨id,W,L,h1,h2,h3⟩=>g.base id W L b h1 h2 h3⟩;have:=rT st' _ _ j x e2;rw[aCY]at this
   cases hs:sget st'.s (2000000+j)with
   | none=>rw[hs]at this;subst this;exact .undef _ _
   | some av=>
    rw[hs]at this;obtain rfl:x=av:=this;have hr2:=(g.bo _ _ hs).2;unfold bS at hr2;rw[if_neg (by simp only[E];omega)]at hr2;simp only[E,aB6,aBj,e1]at hr2;exact hr2
  cases e with
  | normal=>obtain⟨r,hr,hP⟩:=q;exact fin r hr hP
  | ret=>obtain⟨r,hr,hP⟩:=q;exact fin r hr hP
  | exit id=>exact q.elim
  | goto l=>exact q.elim
  | panic ch=>exact q.elim
  | outgrown=>exact q.elim
theorem avJ {P:Program} {f n:Nat} {h:HP} {args:List AV} {Post:HP->AV->List AV->Prop}
    (hs:gQ P f n h args (λh' r as=>∃h2 r2 as2,as2.length=as.length/\Wk ⟨(0,r)::numbered 1 as,h'⟩ ⟨(0,r2)::numbered 1 as2,h2⟩/\Post h2 r2 as2)):gQ P f n h args Post:=by
 intro X0 ρ w vs h1 hA h2 h3 h4;refine(hs X0 ρ w vs h1 hA h2 h3 h4).mono ?_;rintro e w' ⟨v,h',r,ρ',as,rfl,⟨h2',r2,as2,hlen,hwk,hP⟩,g3,g4,g5,g6,g7,g8,g9,g10,g11,g12⟩
 let E:Env:=⟨w',λb=>w.heap.size<=b\/bx ρ h b,X0,vs.size+1,0,λ_=>undef,none,0,aBB _,[]⟩
 let a:Act:={tmps:=#[v]++vs,defers:=[]}
 have hsv:∀j,j<vs.size->bS E a (1+j)=vs.getD j undef:=by
  intro j hj;unfold bS;rw[if_pos (show 1+j<vs.size+1 by omega)];simp only[a,aBj];rw[Array.getElem?_append_right (by simp)];simp
 have hr:ao E ρ' ⟨(0,r)::numbered 1 as,h'⟩ a w':=by
  refine⟨gn.nil _ _,by simp[a,E];omega,λk av hk=>?_,g3,λid W L b e1 e2 e3=>.inr (g12 b ⟨id,W,L,e1,e2,e3⟩),⟨rfl,rfl,rfl,aA9 _,λ_ _ _=>rfl,hA.1.stays (λb _ _ _ hb _=>g11 b (hA.1.lt hb) (hA.2 b hb)),λb hb hx=>hx.elim (λg=>by have:=hA.1.lt hb;omega) (hA.2 b hb)⟩,λb hb=>aBi (h2 b hb) g10⟩;simp only[sget]at hk;split at hk
  ·rename_i e;subst e;obtain rfl:=Option.some.inj hk;refine⟨.inl (show 0<vs.size+1 by omega),?_⟩
   have:bS E a 0=v:=by
    unfold bS;rw[if_pos (show 0<vs.size+1 by omega)];simp only[a];exact pR v vs
   rw[this];exact g4
  ·obtain⟨e1,e2⟩:=lG as 1 k av hk;have hlt:=(List.getElem?_eq_some_iff.1 e2).1;obtain⟨j,rfl⟩:∃j,k=1+j:=⟨k-1,aA4⟩;have hj:j<vs.size:=aA4;refine⟨.inl (show 1+j<vs.size+1 by omega),?_⟩;rw[hsv j hj];have hv:vs[j]?=some (vs.getD j undef):=by rw[aBj,Array.getElem?_eq_getElem hj];rfl
   exact g6 j _ av hv (by rw[aB6]at e2;exact e2)
 obtain⟨ρ2,hr2⟩:=kO hwk hr;refine⟨v,h2',r2,ρ2,as2,rfl,hP,hr2.heap,?_,aA4,λj u x e1 e2=>?_,g7,g8,g9,g10,g11,λb ⟨id,W,L,e1,e2,e3⟩=>?_⟩
 ·have:=(hr2.bo 0 r2 (by simp[sget])).2
  have e:bS E a 0=v:=by
   unfold bS;rw[if_pos (show 0<vs.size+1 by omega)];simp only[a];exact pR v vs
  rw[e]at this;exact this
 ·have hj:=(Array.getElem?_eq_some_iff.1 e1).1
  have hs2:sget ((0,r2)::numbered 1 as2) (1+j)=some x:=by
   simp only[sget];rw[if_neg aA4];exact nV as2 1 j x e2
  have:=(hr2.bo (1+j) x hs2).2;rw[hsv j hj,aBj,e1]at this;exact this
 ·rcases hr2.base id W L b e1 e2 e3 with g | g
  ·exact .inl (aBN g10 g)
  ·exact g
def fltB (b:Bool) (k:Nat) (v:AV) (r:List (Nat×AV)):List (Nat×AV):=
 match b with
 | true=>(k,v)::r
 | false=>r
def fltO (o:Option AV) (k:Nat) (r:List (Nat×AV)):List (Nat×AV):=
 match o with
 | some v=>fltB (flA v) k v r
 | none=>r
def fltS (s0:List (Nat×AV)):List (Nat×AV)->List (Nat×AV)
 | []=>[]
 | (k,_)::r=>fltO (sget s0 k) k (fltS s0 r)
def getL (s:List (Nat×AV)):List Nat->List AV
 | []=>[]
 | k::r=>(sget s k).getD .undef::getL s r
def zipS:List Nat->List AV->List (Nat×AV)
 | k::ks,v::vs=>(k,v)::zipS ks vs
 | _,_=>[]
theorem yH (s:List (Nat×AV)):∀ks,(getL s ks).length=ks.length
 | []=>rfl
 | k::r=>by simp[getL,yH s r]
theorem yG (s:List (Nat×AV)):∀(ks:List Nat) (j k:Nat),ks[j]?=some k->(getL s ks)[j]?=some ((sget s k).getD .undef)
 | [],j,k,h=>by simp at h
 | q::r,0,k,h=>by simp at h;subst h;rfl
 | q::r,j+1,k,h=>by simpa[getL]using yG s r j k (by simpa using h)
theorem Ex:∀{ks:List Nat} {vs:List AV} {k:Nat} {v:AV},sget (zipS ks vs) k=some v->∃j:Nat,ks[j]?=some k/\vs[j]?=some v
 | [],vs,k,v,h=>by simp[zipS,sget]at h
 | q::ks,[],k,v,h=>by simp[zipS,sget]at h
 | q::ks,u::vs,k,v,h=>by
  simp only[zipS,sget]at h;split at h
  ·rename_i e;obtain rfl:=Option.some.inj h;exact⟨0,by rw[e];rfl,rfl⟩
  ·obtain⟨j,h1,h2⟩:=Ex h;exact⟨j+1,by simpa using h1,by simpa using h2⟩
theorem pN {s0:List (Nat×AV)}:∀{s:List (Nat×AV)} {k:Nat} {v:AV},sget (fltS s0 s) k=some v->sget s0 k=some v/\flA v=true
 | [],k,v,h=>by simp[fltS,sget]at h
 | (q,u)::s,k,v,h=>by
  unfold fltS at h
  cases hq:sget s0 q with
  | none=>rw[hq]at h;exact pN (s:=s) h
  | some x=>
   rw[hq]at h;simp only[fltO]at h
   cases hu:flA x with
   | true=>
    rw[hu]at h;simp only[fltB,sget]at h;split at h
    ·rename_i e;subst e;obtain rfl:=Option.some.inj h;exact⟨hq,hu⟩
    ·exact pN h
   | false=>
    rw[hu]at h;exact pN (s:=s) h
def mV (st:St) (ks:List Nat) (h':HP) (gs:List AV):St:=⟨zipS ks gs++fltS st.s st.s,h'⟩
theorem EH {P:Program} {st:St} {f:Nat} {args:List AE} {K:AV->St->Prop} {Post:HP->AV->List AV->Prop} (ks:List Nat) (hks:ks.all (λk=>(sget st.s k).isSome)=true)
    (hs:gQ P f args.length st.h (args.map (ev st)++getL st.s ks) Post)
    (hK:∀h' r as,Post h' r as->K r (mV st ks h' (as.drop args.length))):eR P false st f args K:=by
 intro E ρ a w vs h hvs hrv
 let us:Array Value:=(ks.map (bS E a)).toArray
 have hus:us.size=ks.length:=by simp[us]
 have hex:(vs++us).extract 0 args.length=vs:=by
  rw[<-hvs];simp
 have:=hs E.X0 ρ w (vs++us) h.heap h.cS h.x0 (by simp[hvs,hus,yH]) (λj v x e1 e2=>?_)
 ·rw[hex]at this;refine this.mono ?_;rintro e w' ⟨v,h',r,ρ',as,rfl,hP,hH,hr,hal,has,q1,q2,q3,q4,q5,q6⟩;refine⟨v,ρ',mV st ks h' (as.drop args.length),r,rfl,⟨h.defers.turn (λb hb=>q5 b (Array.getElem?_eq_some_iff.1 hb).1 (λhx=>kq h.heap hb hx)),h.size,λk av hk=>?_,hH,λid W L b e1 e2 e3=>?_,?_,λb hb=>aBi (h.x0 b hb) q4⟩,hr,hK h' r as hP,λhq=>by cases hq⟩
  ·simp only[mV,lF]at hk
   cases hz:sget (zipS ks (as.drop args.length)) k with
   | some av1=>
    rw[hz]at hk;obtain rfl:av1=av:=Option.some.inj hk;obtain⟨j,g1,g2⟩:=Ex hz;have hk1:=aBc.1 hks k (aBf g1);obtain⟨av0,hav0⟩:=aCh.1 hk1;refine⟨(h.bo k av0 hav0).1,?_⟩;rw[List.getElem?_drop]at g2;refine has (args.length+j) (bS E a k) av1 ?_ g2;rw[Array.getElem?_append_right aA4,hvs,aB6]
    simp[us,g1]
   | none=>
    rw[hz,aCE]at hk;obtain⟨g1,g2⟩:=pN hk;exact⟨(h.bo k av g1).1,(h.bo k av g1).2.flA g2⟩
  ·rcases q6 b ⟨id,W,L,e1,e2,e3⟩with g | ⟨id',W',L',f1,f2,f3⟩
   ·exact .inl (aBN h.aE.size g)
   ·exact h.base id' W' L' b f1 f2 f3
  ·refine⟨q1.trans h.aE.os,q2.trans h.aE.tape,q3.trans h.aE.output,aBN h.aE.size q4,λb hb hF=>(q5 b (aBi hb h.aE.size) ?_).trans (h.aE.block b hb hF),h.aE.cS⟩;rintro⟨id',W',L',f1,f2,f3⟩;rcases h.base id' W' L' b f1 f2 f3 with g | g
   ·omega
   ·exact hF g
 ·by_cases hj:j<args.length
  ·rw[Array.getElem?_append_left aA4]at e1;rw[List.getElem?_append_left (by simpa using hj),List.getElem?_map]at e2;obtain⟨y,g1,rfl⟩:=aA6.1 e2;exact(hrv j v y e1 g1).1
  ·rw[Array.getElem?_append_right aA4,hvs]at e1;rw[List.getElem?_append_right (by simpa using hj),aBp]at e2;simp only[us,List.getElem?_toArray,List.getElem?_map]at e1;obtain⟨k,g1,rfl⟩:=aA6.1 e1;rw[yG _ _ _ _ g1]at e2;obtain rfl:=Option.some.inj e2;obtain⟨av0,hav0⟩:=aCh.1 (aBc.1 hks k (aBf g1));rw[hav0];exact(h.bo k av0 hav0).2
section
variable {P:Program} {st:St} {f n:Nat} {args:List AE} {as bs:List AV} {d:Option Nat} {r:List ROp} {K:KS} {Post:HP->AV->List AV->Prop}
theorem oY (ks:List Nat) (hks:ks.all (λk=>(sget st.s k).isSome)=true) (hb:as++getL st.s ks=bs) (hn:args.length=n) (hs:gQ P f n st.h bs Post)
    (h:∀h' v as',Post h' v as'->aopsW P r (put (mV st ks h' (as'.drop n)) d v) K):ib P false st f args as d r K:=by
 rintro rfl;subst hb;subst hn;exact EH ks hks hs h
end
theorem NZ (s0:List (Nat×AV)):fltS s0 []=[]:=(rfl)
theorem NY (s0:List (Nat×AV)) (k:Nat) (v:AV) (r:List (Nat×AV)):fltS s0 ((k,v)::r)=fltO (sget s0 k) k (fltS s0 r):=(rfl)
theorem NX (v:AV) (k:Nat) (r:List (Nat×AV)):fltO (some v) k r=fltB (flA v) k v r:=(rfl)
theorem NW (v:AV) (k:Nat) (r:List (Nat×AV)):fltB true k v r=(k,v)::r:=(rfl)
theorem NV (v:AV) (k:Nat) (r:List (Nat×AV)):fltB false k v r=r:=(rfl)
theorem OY (s:List (Nat×AV)):getL s []=[]:=(rfl)
theorem OX (s:List (Nat×AV)) (k:Nat) (r:List Nat):getL s (k::r)=(sget s k).getD .undef::getL s r:=(rfl)
theorem aAA (vs:List AV):zipS [] vs=[]:=(rfl)
theorem aAz (k:Nat) (ks:List Nat) (v:AV) (vs:List AV):zipS (k::ks) (v::vs)=(k,v)::zipS ks vs:=(rfl)
theorem Fx (st:St) (ks:List Nat) (h':HP) (gs:List AV):mV st ks h' gs=⟨zipS ks gs++fltS st.s st.s,h'⟩:=(rfl)
attribute [go_sem] NZ NY NX NW NV OY OX aAA aAz Fx
end Go.Proofs.YtoalcafkffmiiaaGreatDoor.Eng
namespace Go.Proofs.YtoalcafkffmiiaaGreatDoor.Eng
namespace Kz
abbrev ci (n:Int):AE:=.c (.int .i64 n)
abbrev m (d k:Nat):ROp:=.v d (.ah (.t k))
abbrev k (d:Nat) (x:AE):ROp:=.v d (.ah x)
abbrev b (d:Nat) (op:BinOp) (x y:Nat):ROp:=.v d (.bin op (.t x) (.t y))
abbrev bi (d:Nat) (op:BinOp) (x:Nat) (n:Int):ROp:=.v d (.bin op (.t x) (ci n))
abbrev u (id d:Nat) (o:AO):ROp:=.val d true id o
end Kz
section
variable {P:Program} {E:Env} {st:St} {Q:KQ}
theorem aya {pre post:List ROp} {o:ROp} {ks:List Nat}:vcW P E (.ix pre o post ks) Q st=aopsW P pre st (KS.pz P o post ks Q):=(rfl)
theorem ayb {pre a8 post:List ROp} {o o2:ROp} {ks:List Nat}:vcW P E (.nR pre o a8 o2 post ks) Q st=aopsW P pre st (KS.xA P o a8 o2 post ks Q):=(rfl)
theorem ax1 {p x y:List ROp} {ks:List Nat}:vcW P E (.alt p x y ks) Q st=aopsW P p st (KS.alt P x y ks Q):=(rfl)
theorem ax2 {T:RT} {ks:List Nat}:vcW P E (.iI T ks) Q st=ja P T st (KS.aa ks Q):=(rfl)
theorem ayg {ops:List ROp} {d f bk p q0:Nat} {x:AE} {c:UInt8} {body:AK}:vcW P E (.split ops d f x c bk p q0 body) Q st=aopsW P ops st (KS.DD P E d f x c bk p q0 body Q):=(rfl)
theorem ax3 {ops:List ROp} {d f kx bk p1 p q0:Nat} {body:AK}:vcW P E (.back ops d f kx bk p1 p q0 body) Q st=aopsW P ops st (KS.wb P E d f kx bk p1 p q0 body Q):=(rfl)
end
attribute [go_sem] aye ax9 ax5 ax4 aya ayb ax1 ayg ax3 ax2 asW asX YL
def fnChk (P:Program) (fn:Func) (B p:Nat):Option (AC×List RVar):=
 match fn.body with
 | some b=>bif Nat.ble fn.ntmps 1000000&&Nat.ble p fn.ntmps then some (trCode P fn.ntmps B b,fn.results.toList.map (trRes P))else none
 | none=>none
def aB (P:Program) (f B p:Nat) (x:AK) (rs:List RVar):Prop:=∃fn,P.funcs[f]?=some fn/\fnChk P fn B p=some (x.erase B,rs)
theorem aB.out {P:Program} {f B p:Nat} {x:AK} {rs:List RVar} (h:aB P f B p x rs):∃fn body,P.funcs[f]?=some fn/\fn.body=some body/\trCode P fn.ntmps B body=x.erase B/\fn.results.toList.map (trRes P)=rs/\fn.ntmps<=1000000/\p<=fn.ntmps:=by
 obtain⟨fn,h1,h2⟩:=h;unfold fnChk at h2;split at h2
 ·rename_i body hb
  cases hc:(Nat.ble fn.ntmps 1000000&&Nat.ble p fn.ntmps)with
  | false=>rw[hc]at h2;cases h2
  | true=>
   rw[hc]at h2;have h3:=Option.some.inj h2
   injection h3 with h4 h5
   simp only[aBd,Nat.ble_eq]at hc;exact⟨fn,body,h1,hb,h4,h5,hc.1,hc.2⟩
 ·cases h2
def aD (P:Program) (x:AK) (rs:List RVar) (p:Nat) (s:List (Nat×AV)) (h:HP) (Post:HP->AV->List AV->Prop):Prop:=
 ∀(E:Env) (R:HP->AV->List AV->Prop),E.N<=1000000->cR Post R->vcW P E x (KQ.post rs p R) ⟨s,h⟩
def rB (P:Program) (x:AK) (rs:List RVar) (p:Nat) (s:List (Nat×AV)) (h:HP) (Post:HP->AV->List AV->Prop):Prop:=
 ∀(E:Env) (R:HP->AV->List AV->Prop),E.N<=1000000->E.rd=none->cR Post R->vcW P E x (KQ.post rs p R) ⟨s,h⟩
section
variable {P:Program} {f B p:Nat} {x:AK} {rs:List RVar} {h:HP} {args:List AV} {Post:HP->AV->List AV->Prop}
theorem DB (hf:aB P f B p x rs) (hl:args.length=p) (s:List (Nat×AV)) (hs:ff (ra args) s) (hp:rB P x rs p s h Post):Spec P f h args Post:=by
 obtain⟨fn,body,h1,h2,h3,h4,h5,h6⟩:=hf.out;refine DC (avO h1 h2 h3 h5 aA4 (λE hE hB hrd=>?_));have hN:E.N<=1000000:=by rw[hE];exact h5
 rw[h4,<-hB,hl];exact vZ s hs (gP hN _ (hp E _ hN hrd yg))
theorem aF (hf:aB P f B p x rs) (hl:args.length=p) (s:List (Nat×AV)) (hs:ff (ra args) s) (hp:aD P x rs p s h Post):Spec P f h args Post:=
 DB hf hl s hs (λE R h1 _ h2=>hp E R h1 h2)
theorem avN {n:Nat} (hf:aB P f B n x rs) (hl:n<=args.length) (s:List (Nat×AV)) (hs:ff (q9 n args) s) (hp:rB P x rs args.length s h Post):gQ P f n h args Post:=by
 obtain⟨fn,body,h1,h2,h3,h4,h5,h6⟩:=hf.out;refine avJ (avI h1 h2 h3 h5 hl aA4 (λE hE hB hrd=>?_));have hN:E.N<=1000000:=by rw[hE];exact h5
 rw[h4,<-hB];exact vZ s hs (gP hN _ (hp E _ hN hrd yg))
theorem avM {n:Nat} (hf:aB P f B n x rs) (hl:n<=args.length) (s:List (Nat×AV)) (hs:ff (q9 n args) s) (hp:aD P x rs args.length s h Post):gQ P f n h args Post:=
 avN hf hl s hs (λE R h1 _ h2=>hp E R h1 h2)
end
end Go.Proofs.YtoalcafkffmiiaaGreatDoor.Eng
namespace Go.Proofs.YtoalcafkffmiiaaGreatDoor.Eng
def ED (P:Program) (g:Nat) (h:HP) (args:List AV) (V:Value) (h':HP):Prop:=
 ∀(X0:Nat->Prop) (ρ:Loc) (w:World) (vs:Array Value),dT X0 ρ h w->j4 (bx ρ h) w->(∀b,X0 b->b<w.heap.size)->vs.size=args.length ->
  (∀(j:Nat) v x,vs[j]?=some v->args[j]?=some x->RV (XX X0 ρ h) w ρ v x) ->
  CallsDIn Fence.wide 0 P g vs (.panicking (dR V)) w λe u' w'=>(∃v,e=.returned v)/\u'=.panicking [{v:=V,recovered:=true}]/\∃ρ',dT X0 ρ' h' w' /\
   (∀(j:Nat) v x,vs[j]?=some v->args[j]?=some x->RV (XX X0 ρ' h') w' ρ' v x) /\
   w'.os=w.os/\w'.tape=w.tape/\w'.output=w.output/\w.heap.size<=w'.heap.size/\(∀b,b<w.heap.size->¬bx ρ h b->w'.heap[b]?=w.heap[b]?) /\
   (∀b,bx ρ' h' b->w.heap.size<=b\/bx ρ h b)
def ghL:Nat->Nat->List AE
 | _,0=>[]
 | j,k+1=>.t j::ghL (j+1) k
def OZ (m k:Nat):List AE:=ghL (2000000+m) k
def mj (st:St) (m k:Nat):List AV:=evL st (OZ m k)
def oD (st:St) (m k:Nat) (h0 h':HP):St:=ia st h0 ((mj st m k).map .c) h' (mj st m k)
def yL (P:Program) (rs:List RVar) (m k g:Nat) (R:HP->AV->List AV->Prop):Exit->St->Prop
 | .normal,st | .ret,st=>∃r,resOf st rs=some r/\R st.h r (argsAgain st 0 m)
 | .panic ch,st=>∃V h0 h',ch=dR V/\ED P g h0 (mj st m k) V h'/\jn h' h'=true/\(∀i W,hget h0 i=some W->hget st.h i=some W) /\
     ∃r,resOf (oD st m k h0 h') rs=some r/\R (oD st m k h0 h').h r (argsAgain (oD st m k h0 h') 0 m)
 | _,_=>False
def Le (P:Program) (N B:Nat) (rs:List RVar) (m g d:Nat) (caps:List AE) (c1:AC) (R:HP->AV->List AV->Prop):Exit->St->Prop
 | .normal,st=>∀E':Env,E'.N=N->E'.B=B->E'.rd=none->bV P E' c1 ⟨numbered (2000000+m) (evL st caps)++(d,.undef)::st.s,st.h⟩ (yL P rs m caps.length g R)
 | .ret,st=>∃r,resOf st rs=some r/\R st.h r (argsAgain st 0 m)
 | _,_=>False
def ot (P:Program) (E:Env):List AK->KQ->St->Prop
 | [],Q,st=>Q.ap .normal st
 | x::xs,Q,st=>vcW P E x ⟨jX (λst=>ot P E xs Q st) Q.ap⟩ st
def KQ.sq (P:Program) (E:Env) (xs:List AK) (Q:KQ):KQ:=⟨jX (λst=>ot P E xs Q st) Q.ap⟩
def KQ.gC (P:Program) (rs:List RVar) (m k g:Nat) (R:HP->AV->List AV->Prop):KQ:=⟨yL P rs m k g R⟩
def KQ.dC (P:Program) (N B:Nat) (rs:List RVar) (m g d:Nat) (caps:List AE) (y:AK) (R:HP->AV->List AV->Prop):KQ:=⟨Le P N B rs m g d caps (y.erase B) R⟩
section
variable {P:Program} {E:Env} {st:St} {Q:KQ} {rs:List RVar} {m k g d N B:Nat} {caps:List AE} {y:AK} {R:HP->AV->List AV->Prop}
theorem ax0:ot P E [] Q st=Q.ap .normal st:=(rfl)
theorem axZ {x:AK} {xs:List AK}:ot P E (x::xs) Q st=vcW P E x (KQ.sq P E xs Q) st:=(rfl)
theorem YA {xs:List AK}:(KQ.sq P E xs Q).ap .normal st=ot P E xs Q st:=(rfl)
theorem YB {xs:List AK}:(KQ.sq P E xs Q).ap .ret st=Q.ap .ret st:=(rfl)
theorem YC {xs:List AK} {i:Nat}:(KQ.sq P E xs Q).ap (.exit i) st=Q.ap (.exit i) st:=(rfl)
theorem X5:(KQ.gC P rs m k g R).ap .ret st=(KQ.post rs m R).ap .ret st:=(rfl)
theorem X4:(KQ.gC P rs m k g R).ap .normal st=(KQ.post rs m R).ap .ret st:=(rfl)
theorem X2:(KQ.dC P N B rs m g d caps y R).ap .ret st=(KQ.post rs m R).ap .ret st:=(rfl)
theorem O1:mj st m k=evL st (ghL (2000000+m) k):=(rfl)
theorem Fq {h0 h':HP}:oD st m k h0 h'=ia st h0 ((mj st m k).map .c) h' (mj st m k):=(rfl)
end
theorem O0:(∀j,ghL j 0=[])/\(∀j k,ghL j (k+1)=.t j::ghL (j+1) k):=⟨λ_=>rfl,λ_ _=>rfl⟩
attribute [go_sem] ax0 axZ YA YB YC X5 X4 X2 O1 Fq O0
open Go Go.Sem
def xY (J:Nat->Act->World->Prop) (Q:Exit->Act->World->Prop):Exit->Act->World->Prop
 | .goto l,a,w=>J l a w
 | e,a,w=>Q e a w
theorem ayz {F:Fence} {n:Nat} {P:Program} {a:Act} {w:World} {Q:Exit->Act->World->Prop} {c:Code} (J:Nat->Nat->Act->World->Prop)
    (first:c.wpIn F n P (xY (λl a w=>∃m,J m l a w) Q) a w)
    (pass:∀m l a w,J m l a w->∃rest,findLabel c l=some rest/\rest.wpIn F n P (xY (λl a w=>∃m',m'<m/\J m' l a w) Q) a w):(Code.scope c).wpIn F n P Q a w:=by
 intro b k cs hro hb hr;have h0:(lone (b.atR a (.code (.scope c)::k)) cs w).fenced P F:=fenced_calm hb hr rfl
 have fin:∀{m:Machine} (e:Exit) (a₁:Act) (w₁:World),Q e a₁ w₁->(∀l',e≠.goto l')->ArrivesIn (Machine.fenced P F) P m b (.inScope c::k) cs e a₁ w₁ ->
     ∃e a' w',Q e a' w'/\ArrivesIn (Machine.fenced P F) P m b k cs e a' w':=by
  intro m e a₁ w₁ hq' hne harr
  cases e with
  | normal=>exact⟨.normal,a₁,w₁,hq',StepsIn.trans harr (.one (fenced_calm hb hr rfl) awe)⟩
  | exit id=>
   have hx:exitTo id (.inScope c::k)=exitTo id k:=by simp[exitTo]
   exact⟨.exit id,a₁,w₁,hq',λk' hk=>harr.1 k' (by rw[hx];exact hk),λh1 h2=>harr.2 h1 (by rw[hx];exact h2)⟩
  | goto l'=>exact absurd rfl (hne l')
  | ret=>exact⟨_,a₁,w₁,hq',harr⟩
  | panic ch=>exact⟨_,a₁,w₁,hq',harr⟩
  | outgrown=>exact⟨_,a₁,w₁,hq',harr⟩
 have all:∀m l a w,J m l a w->∃rest,findLabel c l=some rest/\∃e a' w',Q e a' w'/\ArrivesIn (Machine.fenced P F) P (lone (b.atR a (.code rest::.inScope c::k)) cs w) b k cs e a' w':=by
  intro m
  induction m using Nat.strongRecOn with
  | _ m ih=>
   intro l a w hJ;obtain⟨rest,hf,hw⟩:=pass m l a w hJ;refine⟨rest,hf,?_⟩;obtain⟨e,a₁,w₁,hq,harr⟩:=hw b (.inScope c::k) cs hro hb hr;by_cases hgo:∃l',e=.goto l'
   ·obtain⟨l',rfl⟩:=hgo;obtain⟨m',hm,hJ'⟩:=hq;obtain⟨rest',hf',e₂,a₂,w₂,hq₂,harr₂⟩:=ih m' hm l' a₁ w₁ hJ';have hg:gotoIn l' (.inScope c::k)=some (.code rest'::.inScope c::k):=by simp[gotoIn,hf']
    exact⟨e₂,a₂,w₂,hq₂,.of_steps (harr.1 _ hg) harr₂⟩
   ·exact fin e a₁ w₁ (by cases e<;>first | exact hq | exact absurd ⟨_,rfl⟩ hgo) (λl' h=>hgo ⟨l',h⟩) harr
 obtain⟨e,a₁,w₁,hq,harr⟩:=first b (.inScope c::k) cs hro hb hr
 by_cases hgo:∃l',e=.goto l'
 ·obtain⟨l',rfl⟩:=hgo;obtain⟨m',hJ'⟩:=hq;obtain⟨rest',hf',e₂,a₂,w₂,hq₂,harr₂⟩:=all m' l' a₁ w₁ hJ';have hg:gotoIn l' (.inScope c::k)=some (.code rest'::.inScope c::k):=by simp[gotoIn,hf']
  exact⟨e₂,a₂,w₂,hq₂,.of_steps (.head h0 DI (harr.1 _ hg)) harr₂⟩
 ·obtain⟨e₃,a₃,w₃,hq₃,harr₃⟩:=fin e a₁ w₁ (by cases e<;>first | exact hq | exact absurd ⟨_,rfl⟩ hgo) (λl' h=>hgo ⟨l',h⟩) harr
  exact⟨e₃,a₃,w₃,hq₃,.of_steps (.one h0 DI) harr₃⟩
def tq (J:Nat->St->Prop) (Q:Exit->St->Prop):Exit->St->Prop
 | .goto l,st=>J l st
 | e,st=>Q e st
theorem G4 {P:Program} {E:Env} {st:St} {Q:Exit->St->Prop} {x:AC} (J:Nat->Nat->St->Prop) (first:bV P E x st (tq (λl st=>∃m,J m l st) Q))
    (pass:∀m l st,J m l st->∃y,findA x l=some y/\bV P E y st (tq (λl st=>∃m',m'<m/\J m' l st) Q)):bV P E (.scope x) st Q:=by
 intro n code hc a w hr;cases code<;>simp only[trCode]at hc<;>first | (cases hc;done) | (exact Bool.noConfusion (show false=true from gl hc)) | (split at hc<;>cases hc;done) | skip
 rename_i c
 injection hc with h1
 subst h1;refine ayz (λm l a w=>∃st,Rel E st a w/\J m l st) (wpIn_mono (first n c rfl a w hr) ?_) ?_
 ·rintro e a' w' ⟨st',g1,g2⟩
  cases e with
  | goto l'=>obtain⟨m,h⟩:=g2;exact⟨m,st',g1,h⟩
  | normal=>exact⟨st',g1,g2⟩
  | exit id=>exact⟨st',g1,g2⟩
  | ret=>exact⟨st',g1,g2⟩
  | panic ch=>exact⟨st',g1,g2⟩
  | outgrown=>exact⟨st',g1,g2⟩
 ·rintro m l a w ⟨st',g1,g2⟩;obtain⟨y,hf,hy⟩:=pass m l st' g2;rw[sP]at hf;obtain⟨rest,hfl,rfl⟩:=aA6.1 hf;refine⟨rest,hfl,wpIn_mono (hy n rest rfl a w g1) ?_⟩;rintro e a' w' ⟨st',g1,g2⟩
  cases e with
  | goto l'=>obtain⟨m',hm,h⟩:=g2;exact⟨m',hm,st',g1,h⟩
  | normal=>exact⟨st',g1,g2⟩
  | exit id=>exact⟨st',g1,g2⟩
  | ret=>exact⟨st',g1,g2⟩
  | panic ch=>exact⟨st',g1,g2⟩
  | outgrown=>exact⟨st',g1,g2⟩
def KQ.jJ (R:Nat->KS) (Q:KQ):KQ:=⟨tq (λl=>(R l).ap) Q.ap⟩
theorem YD (R:Nat->KS) (Q:KQ) (st:St):(∀l,(KQ.jJ R Q).ap (.goto l) st=(R l).ap st)/\(KQ.jJ R Q).ap .normal st=Q.ap .normal st/\(∀i,(KQ.jJ R Q).ap (.exit i) st=Q.ap (.exit i) st)/\(KQ.jJ R Q).ap .ret st=Q.ap .ret st/\(∀ch,(KQ.jJ R Q).ap (.panic ch) st=Q.ap (.panic ch) st):=
 ⟨λ_=>rfl,rfl,λ_=>rfl,rfl,λ_=>rfl⟩
theorem ayd {P:Program} {E:Env} {x:AK} {Q:KQ} {st:St} {α:Type} (hN:E.N<=1000000) (f:Nat->α->St) (inv:Nat->α->Prop) (ms:Nat->α->Nat)
    (h1:∀R:Nat->KS,(∀l a st',inv l a->Wk st' (f l a)->(R l).ap st')->vcW P E x (KQ.jJ R Q) st)
    (h2:∀l a,inv l a->∃y,findK x l=some y/\∀R:Nat->KS,(∀l' a' st',ms l' a'<ms l a->inv l' a'->Wk st' (f l' a')->(R l').ap st')->vcW P E y (KQ.jJ R Q) (f l a)):vcW P E (.scope x) Q st:=by
 show bV P E (.scope (x.erase E.B)) st Q.ap
 refine G4 (λm l s=>∃a,inv l a/\ms l a=m/\Wk s (f l a)) (gP hN x (h1 (λl=>⟨λs=>∃m a,inv l a/\ms l a=m/\Wk s (f l a)⟩) (λl a st' g1 g2=>⟨_,a,g1,rfl,g2⟩))) ?_;rintro m l s ⟨a,g1,rfl,g2⟩;obtain⟨y,hy,hv⟩:=h2 l a g1;refine⟨y.erase E.B,by rw[pG,hy];rfl,oK g2 (gP hN y (hv (λl'=>⟨λs=>∃m',m'<ms l a/\∃a',inv l' a'/\ms l' a'=m'/\Wk s (f l' a')⟩) (λl' a' st' k1 k2 k3=>⟨_,k1,a',k2,rfl,k3⟩)))⟩
attribute [go_sem] YD
end Go.Proofs.YtoalcafkffmiiaaGreatDoor.Eng
