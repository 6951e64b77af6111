/- The proof, part 10 of 50. -/
import Derived.Test.YtkdjbebgdoohjaaGreatDoorHistoryOrderG
import Derived.Test.YtkdjbebgdoohjaaGreatDoorHistoryOrderH
import Derived.Test.YtkdjbebgdoohjaaGreatDoorHistoryOrderI
import Derived.Below
set_option linter.all false
namespace Go.Proofs.YtkdjbebgdoohjaaGreatDoor.Eng
structure KS where
 ap:St->Prop
structure KQ where
 ap:Exit->St->Prop
inductive ROp where
 | v (d:Nat) (o:AO)
 | val (d:Nat) (q:Bool) (id:Nat) (o:AO)
 | eff (d:Nat) (q:Bool) (id:Nat) (o:AO)
 | kT (q:Bool) (id:Nat) (o:AO)
 | j8 (d:Option Nat) (q:Bool) (id:Nat) (f:Nat) (args:List AE)
 | dyn (d:Option Nat) (q:Bool) (id:Nat) (x:AE) (args:List AE)
 | pf (d:Nat) (j:Nat) (want:Bool) (q:Bool) (id:Nat) (o:AO)
 | o8 (d:Nat) (j:Nat) (want:Bool) (q:Bool) (id:Nat) (f:Nat) (args:List AE)
 | nz (d:Option Nat) (j:Nat) (want:Bool) (q:Bool) (id:Nat) (o:AO)
 | o9 (d:Nat) (j:Nat) (want:Bool) (q:Bool) (id:Nat) (x:AE) (args:List AE)
def ROp.er (B:Nat):ROp->aN
 | .v d o=>⟨some d,none,false,B+d,o⟩
 | .val d q id o=>⟨some d,none,q,id,o⟩
 | .eff d q id o=>⟨some d,none,q,id,o⟩
 | .kT q id o=>⟨none,none,q,id,o⟩
 | .j8 d q id f args=>⟨d,none,q,id,.call f args⟩
 | .dyn d q id x args=>⟨d,none,q,id,.dyn x args⟩
 | .pf d j want q id o=>⟨some d,some (j,want),q,id,o⟩
 | .o8 d j want q id f args=>⟨some d,some (j,want),q,id,.call f args⟩
 | .nz d j want q id o=>⟨d,some (j,want),q,id,o⟩
 | .o9 d j want q id x args=>⟨some d,some (j,want),q,id,.dyn x args⟩
def evL (st:St):List AE->List AV
 | []=>[]
 | x::r=>ev st x::evL st r
theorem iU (st:St):∀l,evL st l=l.map (ev st)
 | []=>rfl
 | x::r=>by simp[evL,iU st r]
def aopsW (P:Program):List ROp->St->KS->Prop
 | [],st,K=>K.ap st
 | .v d o::r,st,K=>(avalR true st o).To λv=>aopsW P r (put st (some d) v) K
 | .val d _ _ o::r,st,K=>(avalR true st o).To λv=>aopsW P r (put st (some d) v) K
 | .eff d _ id o::r,st,K=>(effR id st o).To λv st'=>aopsW P r (put st' (some d) v) K
 | .kT _ id o::r,st,K=>(effR id st o).To λ_ st'=>aopsW P r st' K
 | .j8 d q _ f args::r,st,K=>ff P q st f args λv st'=>aopsW P r (put st' d v) K
 | .dyn d q _ x args::r,st,K=>adyn P q st (ev st x) args λv st'=>aopsW P r (put st' d v) K
 | .pf d j want _ _ o::r,st,K=>match grd (sget st.s j) want with
  | some γ=>(γ=false/\aopsW P r (put st (some d) (.gd false .undef)) K)\/(avalR γ st o).To λv=>aopsW P r (put st (some d) (.gd γ v)) K
  | none=>False
 | .o8 d j want q _ f args::r,st,K=>match grd (sget st.s j) want with
  | some γ=>(γ=false/\aopsW P r (put st (some d) (.gd false .undef)) K)\/(γ=true/\ff P q st f args λv st'=>aopsW P r (put st' (some d) (.gd true v)) K)\/uo P q γ st f args λv=>aopsW P r (put st (some d) (.gd γ v)) K
  | none=>False
 | .nz d j want _ id o::r,st,K=>match grd (sget st.s j) want with
  | some γ=>(γ=false/\aopsW P r (put st d (.gd false .undef)) K)\/(γ=true/\(effR id st o).To λv st'=>aopsW P r (put st' d (.gd true v)) K)
  | none=>False
 | .o9 d j want q _ x args::r,st,K=>match grd (sget st.s j) want with
  | some γ=>(γ=false/\aopsW P r (put st (some d) (.gd false .undef)) K)\/(γ=true/\adyn P q st (ev st x) args λv st'=>aopsW P r (put st' (some d) (.gd true v)) K)
  | none=>False
def pb (P:Program) (g:Option Bool) (d:Option Nat) (id:Nat) (o:AO) (r:List ROp) (st:St) (K:KS):Prop:=
 match g with
 | some γ=>(γ=false/\aopsW P r (put st d (.gd false .undef)) K)\/(γ=true/\(effR id st o).To λv st'=>aopsW P r (put st' d (.gd true v)) K)
 | none=>False
def geff2 (P:Program) (x:RS) (d:Option Nat) (r:List ROp) (K:KS):Prop:=
 match x with
 | .ok c v st=>c/\aopsW P r (put st d (.gd true v)) K
 | .fail=>False
def valW (P:Program) (x:Res) (d:Nat) (r:List ROp) (st:St) (K:KS):Prop:=
 match x with
 | .ok c v=>c/\aopsW P r ⟨(d,v)::st.s,st.h⟩ K
 | .fail=>False
def nn (P:Program) (x:RS) (d:Nat) (r:List ROp) (K:KS):Prop:=
 match x with
 | .ok c v st=>c/\aopsW P r ⟨(d,v)::st.s,st.h⟩ K
 | .fail=>False
def nk (P:Program) (x:RS) (r:List ROp) (K:KS):Prop:=
 match x with
 | .ok c _ st=>c/\aopsW P r st K
 | .fail=>False
def gP (P:Program) (q:Bool) (st:St) (f:Nat) (args:List AE) (as:List AV) (d:Option Nat) (r:List ROp) (K:KS):Prop:=
 as=args.map (ev st)->ff P q st f args λv st'=>aopsW P r (put st' d v) K
def rM (P:Program) (g:Option Bool) (d:Nat) (o:AO) (r:List ROp) (st:St) (K:KS):Prop:=
 match g with
 | some γ=>(γ=false/\aopsW P r (put st (some d) (.gd false .undef)) K)\/(avalR γ st o).To λv=>aopsW P r (put st (some d) (.gd γ v)) K
 | none=>False
def rL (P:Program) (γ:Bool) (x:Res) (d:Nat) (r:List ROp) (st:St) (K:KS):Prop:=
 (γ=false/\aopsW P r ⟨(d,.gd false .undef)::st.s,st.h⟩ K)\/match x with
 | .ok c v=>c/\aopsW P r ⟨(d,.gd γ v)::st.s,st.h⟩ K
 | .fail=>False
def l6 (P:Program) (γ:Bool) (d:Nat) (o:AO) (r:List ROp) (st:St) (K:KS):Prop:=rL P γ (avalR γ st o) d r st K
def vM (P:Program) (d:Nat) (o:AO) (r:List ROp) (st:St) (K:KS):Prop:=rL P false (avalR false st o) d r st K
def rE (P:Program) (q:Bool) (g:Option Bool) (st:St) (f:Nat) (args:List AE) (as:List AV) (d:Nat) (r:List ROp) (K:KS):Prop:=
 as=args.map (ev st)->match g with
 | some γ=>(γ=false/\aopsW P r (put st (some d) (.gd false .undef)) K)\/(γ=true/\ff P q st f args λv st'=>aopsW P r (put st' (some d) (.gd true v)) K)\/uo P q γ st f args λv=>aopsW P r (put st (some d) (.gd γ v)) K
 | none=>False
def rF (P:Program) (q:Bool) (g:Option Bool) (st:St) (v:AV) (args:List AE) (as:List AV) (d:Nat) (r:List ROp) (K:KS):Prop:=
 as=args.map (ev st)->match g with
 | some γ=>(γ=false/\aopsW P r (put st (some d) (.gd false .undef)) K)\/(γ=true/\adyn P q st v args λv st'=>aopsW P r (put st' (some d) (.gd true v)) K)
 | none=>False
def uM (P:Program) (q:Bool) (st:St) (f:Nat) (args:List AE) (as:List AV) (d:Nat) (r:List ROp) (K:KS):Prop:=
 as=args.map (ev st)->ff P q st f args λv st'=>aopsW P r (put st' (some d) (.gd true v)) K
section
variable {P:Program} {st:St} {K:KS} {r:List ROp} {q:Bool} {id d j:Nat} {o:AO}
theorem Gf:aopsW P [] st K=K.ap st:=(rfl)
theorem Gh:aopsW P (.val d q id o::r) st K=valW P (avalR true st o) d r st K:=by
 simp only[aopsW,valW];cases avalR true st o<;>rfl
theorem Gg:aopsW P (.v d o::r) st K=valW P (avalR true st o) d r st K:=by
 simp only[aopsW,valW];cases avalR true st o<;>rfl
theorem yb {c:Prop} {v:AV}:valW P (.ok c v) d r st K=(c/\aopsW P r ⟨(d,v)::st.s,st.h⟩ K):=(rfl)
theorem Yo:valW P .fail d r st K=False:=(rfl)
theorem F9:aopsW P (.eff d q id o::r) st K=nn P (effR id st o) d r K:=by
 simp only[aopsW,nn];cases effR id st o<;>rfl
theorem ve {c:Prop} {v:AV}:nn P (.ok c v st) d r K=(c/\aopsW P r ⟨(d,v)::st.s,st.h⟩ K):=(rfl)
theorem KK:nn P .fail d r K=False:=(rfl)
theorem Ga:aopsW P (.kT q id o::r) st K=nk P (effR id st o) r K:=by
 simp only[aopsW,nk];cases effR id st o<;>rfl
theorem vd {c:Prop} {v:AV}:nk P (.ok c v st) r K=(c/\aopsW P r st K):=(rfl)
theorem KC:nk P .fail r K=False:=(rfl)
theorem ux {d:Option Nat} {f:Nat} {args:List AE}:aopsW P (.j8 d q id f args::r) st K=gP P q st f args (evL st args) d r K:=by
 simp only[aopsW,gP,iU,forall_const]
def vb (P:Program) (q:Bool) (st:St) (v:AV) (args:List AE) (as:List AV) (d:Option Nat) (r:List ROp) (K:KS):Prop:=
 as=args.map (ev st)->adyn P q st v args λv st'=>aopsW P r (put st' d v) K
theorem F8 {d:Option Nat} {x:AE} {args:List AE}:aopsW P (.dyn d q id x args::r) st K=vb P q st (ev st x) args (evL st args) d r K:=by
 simp only[aopsW,vb,iU,forall_const]
theorem Gc {w:Bool} {x:AE} {args:List AE}:aopsW P (.o9 d j w q id x args::r) st K=rF P q (grd (sget st.s j) w) st (ev st x) args (evL st args) d r K:=by
 simp only[aopsW,rF,iU,forall_const]
theorem A6 {f:Nat} {args:List AE} {as:List AV} (hf:callable P f=true) (h:uM P q st f args as d r K):rF P q (some true) st (.gd true (.lit (.func (.func f) #[] #[]))) args as d r K:=
 λe=>.inr ⟨rfl,⟨rfl,rfl⟩,hf,h e⟩
theorem A5 {v:AV} {args:List AE} {as:List AV} (h:aopsW P r ⟨(d,.gd false .undef)::st.s,st.h⟩ K):rF P q (some false) st v args as d r K:=λ_=>.inl ⟨rfl,h⟩
theorem vc {d:Option Nat} {f:Nat} {args:List AE} {as:List AV} (hf:callable P f=true) (h:gP P q st f args as d r K):vb P q st (.lit (.func (.func f) #[] #[])) args as d r K:=
 λe=>⟨⟨rfl,rfl⟩,hf,h e⟩
theorem Ge {w:Bool}:aopsW P (.pf d j w q id o::r) st K=rM P (grd (sget st.s j) w) d o r st K:=(rfl)
theorem MJ {γ:Bool}:rM P (some γ) d o r st K=l6 P γ d o r st K:=by
 simp only[rM,l6,rL];cases avalR γ st o<;>rfl
def rK (P:Program) (γ:Bool) (x:Res) (d:Nat) (r:List ROp) (st:St) (K:KS):Prop:=
 match x with
 | .ok c v=>c/\aopsW P r ⟨(d,.gd γ v)::st.s,st.h⟩ K
 | .fail=>False
theorem MF {γ:Bool} {c:Prop} {v:AV}:rK P γ (.ok c v) d r st K=(c/\aopsW P r ⟨(d,.gd γ v)::st.s,st.h⟩ K):=(rfl)
theorem MG:l6 P false d o r st K=vM P d o r st K:=by simp only[l6,vM]
theorem MH:l6 P true d o r st K=rK P true (avalR true st o) d r st K:=by
 simp[l6,rL,rK]
theorem cJ (h:aopsW P r ⟨(d,.gd false .undef)::st.s,st.h⟩ K):vM P d o r st K:=.inl ⟨rfl,h⟩
theorem cI {γ:Bool} (h:rK P γ (avalR γ st o) d r st K):l6 P γ d o r st K:=.inr h
theorem F3 {c p:Prop} (h:c):(c/\p)=p:=by simp[h]
theorem MI:rM P none d o r st K=False:=(rfl)
theorem Gd {w:Bool} {d:Option Nat}:aopsW P (.nz d j w q id o::r) st K=pb P (grd (sget st.s j) w) d id o r st K:=(rfl)
theorem Ml {d:Option Nat}:pb P (some true) d id o r st K=geff2 P (effR id st o) d r K:=by
 simp only[pb,geff2,Bool.true_eq_false,false_and,false_or,true_and];cases effR id st o<;>rfl
theorem Mk {d:Option Nat}:pb P (some false) d id o r st K=aopsW P r (put st d (.gd false .undef)) K:=by
 simp[pb]
theorem Mj {d:Option Nat} {c:Prop} {v:AV}:geff2 P (.ok c v st) d r K=(c/\aopsW P r (put st d (.gd true v)) K):=(rfl)
theorem Gb {w:Bool} {f:Nat} {args:List AE}:aopsW P (.o8 d j w q id f args::r) st K=rE P q (grd (sget st.s j) w) st f args (evL st args) d r K:=by
 simp only[aopsW,rE,iU,forall_const]
end
theorem yJ {P:Program} {q:Bool} {st:St} {id:Nat} {o:AO} {K:AV->St->Prop} (h:(avalR true st o).To λv=>K v st):aop1 P q st id o K:=by
 have h':=yR h;cases o<;>first | exact h.elim | (simp only[aop1,isEff,ZZ,if_false];exact h')
theorem uu {P:Program} {q:Bool} {st:St} {id:Nat} {o:AO} {K:AV->St->Prop} (h:(effR id st o).To K):aop1 P q st id o K:=by
 have h':=KG h;cases o<;>first | exact h.elim | (simp only[aop1,isEff,if_true];exact h')
theorem F6 {P:Program} {q γ:Bool} {st:St} {o:AO} {K:AV->Prop} (h:(avalR γ st o).To K):aopG P q γ st o K:=by
 have h':=yR h;cases o<;>first | exact h.elim | exact h'
theorem yz {P:Program} {q:Bool} {st:St} {v:AV} {args:List AE} {K K':AV->St->Prop} (hK:∀v st',K v st'->K' v st') (h:adyn P q st v args K):adyn P q st v args K':=by
 revert h
 unfold adyn;split
 ·rintro⟨e1,e2,h⟩;refine⟨e1,e2,λE ρ a w vs h1 h2 h3=>(h E ρ a w vs h1 h2 h3).mono ?_⟩;rintro e w' ⟨v,ρ',st',av,g1,g2,g3,g4,g5⟩;exact⟨v,ρ',st',av,g1,g2,g3,hK _ _ g4,g5⟩
 ·rintro⟨e1,e2,h⟩;refine⟨e1,e2,λE ρ a w vs h1 h2 h3=>(h E ρ a w vs h1 h2 h3).mono ?_⟩;rintro e w' ⟨v,ρ',st',av,g1,g2,g3,g4,g5⟩;exact⟨v,ρ',st',av,g1,g2,g3,hK _ _ g4,g5⟩
 ·rintro⟨e1,h⟩;refine⟨e1,λE ρ a w vs h1 h2 h3=>(h E ρ a w vs h1 h2 h3).mono ?_⟩;rintro e w' ⟨v,ρ',st',av,g1,g2,g3,g4,g5⟩;exact⟨v,ρ',st',av,g1,g2,g3,hK _ _ g4,g5⟩
 exact λh=>h
theorem c7 {P:Program} {B:Nat} {K:KS} {K':St->Prop} (hK:∀st,K.ap st->K' st):∀(l:List ROp) {st:St},aopsW P l st K->aops P (l.map (ROp.er B)) st K'
 | [],st,h=>hK _ h
 | .v d o::r,st,h=>by
  refine yJ ?_;simp only[aopsW]at h
  revert h
  cases avalR true st o with
  | ok c v=>exact λh=>⟨h.1,c7 hK r h.2⟩
  | fail=>exact λh=>h
 | .val d q id o::r,st,h=>by
  refine yJ ?_;simp only[aopsW]at h
  revert h
  cases avalR true st o with
  | ok c v=>exact λh=>⟨h.1,c7 hK r h.2⟩
  | fail=>exact λh=>h
 | .eff d q id o::r,st,h=>by
  refine uu ?_;simp only[aopsW]at h
  revert h
  cases effR id st o with
  | ok c v st'=>exact λh=>⟨h.1,c7 hK r h.2⟩
  | fail=>exact λh=>h
 | .kT q id o::r,st,h=>by
  refine uu ?_;simp only[aopsW]at h
  revert h
  cases effR id st o with
  | ok c v st'=>exact λh=>⟨h.1,c7 hK r h.2⟩
  | fail=>exact λh=>h
 | .j8 d q id f args::r,st,h=>by
  intro E ρ a w vs h1 h2 h3;refine(h E ρ a w vs h1 h2 h3).mono ?_;rintro e w' ⟨v,ρ',st',av,g1,g2,g3,g4,g5⟩
  exact⟨v,ρ',st',av,g1,g2,g3,c7 hK r g4,g5⟩
 | .dyn d q id x args::r,st,h=>by
  simp only[aopsW]at h;simp only[aaj,ROp.er,aops,aop1]
  exact yz (λv st' h=>c7 hK r h) h
 | .pf d j want q id o::r,st,h=>by
  simp only[aopsW]at h;simp only[aaj,ROp.er,aops]
  revert h
  cases grd (sget st.s j) want with
  | none=>exact λh=>h
  | some γ=>
   intro h;have h:(γ=false/\aopsW P r (put st (some d) (.gd false .undef)) K)\/(avalR γ st o).To λv=>aopsW P r (put st (some d) (.gd γ v)) K:=h;refine h.imp (λx=>⟨x.1,c7 hK r x.2⟩) (λh=>.inr ?_);refine F6 ?_
   revert h
   cases avalR γ st o with
   | ok c v=>exact λh=>⟨h.1,c7 hK r h.2⟩
   | fail=>exact λh=>h
 | .o8 d j want q id f args::r,st,h=>by
  simp only[aopsW]at h;simp only[aaj,ROp.er,aops]
  revert h
  cases grd (sget st.s j) want with
  | none=>exact λh=>h
  | some γ=>
   rintro(x | x | ⟨v,h1,h2⟩);exact .inl ⟨x.1,c7 hK r x.2⟩
   ·refine .inr (.inl ⟨x.1,λE ρ a w vs h1 h2 h3=>(x.2 E ρ a w vs h1 h2 h3).mono ?_⟩);rintro e w' ⟨v,ρ',st',av,g1,g2,g3,g4,g5⟩;exact⟨v,ρ',st',av,g1,g2,g3,c7 hK r g4,g5⟩
   ·exact .inr (.inr ⟨v,h1,c7 hK r h2⟩)
 | .nz d j want q id o::r,st,h=>by
  simp only[aopsW]at h;simp only[aaj,ROp.er,aops]
  revert h
  cases grd (sget st.s j) want with
  | none=>exact λh=>h
  | some γ=>
   rintro(x | ⟨x,h⟩);exact .inl ⟨x.1,c7 hK r x.2⟩
   ·refine .inr (.inl ⟨x,uu ?_⟩)
    revert h
    cases effR id st o with
    | ok c v st'=>exact λh=>⟨h.1,c7 hK r h.2⟩
    | fail=>exact λh=>h
 | .o9 d j want q id x args::r,st,h=>by
  simp only[aopsW]at h;simp only[aaj,ROp.er,aops]
  revert h
  cases grd (sget st.s j) want with
  | none=>exact λh=>h
  | some γ=>
   rintro(x | ⟨x,h⟩);exact .inl ⟨x.1,c7 hK r x.2⟩;exact .inr (.inl ⟨x,yz (λv st' h=>c7 hK r h) h⟩)
theorem lM {P:Program} {B:Nat} (l:List ROp) {st:St} {K:KS} (h:aopsW P l st K):aops P (l.map (ROp.er B)) st K.ap:=c7 (λ_ h=>h) l h
def trim (s:List (Nat×AV)):List Nat->List (Nat×AV)
 | []=>[]
 | k::r=>match sget s k with
  | some v=>(k,v)::trim s r
  | none=>trim s r
def x6 (o:Option AV) (k:Nat) (s:List (Nat×AV)) (r:List Nat):List (Nat×AV):=
 match o with
 | some v=>(k,v)::trim s r
 | none=>trim s r
theorem X5 (s:List (Nat×AV)) (k:Nat) (r:List Nat):trim s (k::r)=x6 (sget s k) k s r:=(rfl)
theorem X6 (s:List (Nat×AV)):trim s []=[]:=(rfl)
theorem X4 (v:AV) (k:Nat) (s:List (Nat×AV)) (r:List Nat):x6 (some v) k s r=(k,v)::trim s r:=(rfl)
theorem X3 (k:Nat) (s:List (Nat×AV)) (r:List Nat):x6 none k s r=trim s r:=(rfl)
theorem lA (s:List (Nat×AV)):∀ks,du s (trim s ks)
 | []=>trivial
 | k::r=>by
  unfold trim;split
  ·rename_i v hv;exact⟨hv,lA s r⟩
  exact lA s r
theorem mn {E:Env} {ρ:Loc} {st:St} {s':List (Nat×AV)} {a:Act} {w:World} (h:af E ρ st a w) (hs:du st.s s'):af E ρ ⟨s',st.h⟩ a w:=
 ⟨h.defers,h.size,λk av hk=>h.aM k av (wA hs k av hk),h.heap,h.base,h.ai,h.x0⟩
inductive DT where
 | die (o:ROp)
 | step (o:ROp) (t:DT)
 | br (x y:DT)
def DT.er (B:Nat):DT->AT aN
 | .die o=>.cons (o.er B) .nil
 | .step o t=>.cons (o.er B) (t.er B)
 | .br x y=>.br (x.er B) (y.er B)
def ri (o:ROp):Bool:=oZ (o.er 0)
theorem z7 (o:ROp) (B:Nat):oZ (o.er B)=ri o:=by cases o<;>rfl
def DT.ok:DT->Bool
 | .die o=>ri o
 | .step o t=>!ri o&&t.ok
 | .br x y=>x.ok&&y.ok
def dieOpW (P:Program) (o:ROp) (st:St) (Q:KQ):Prop:=
 match o with
 | .j8 _ _ _ f args=>qD P st f args λV st'=>Q.ap (.panic (bp V)) st'
 | .kT _ _ (.gm x)=>∃t v,ev st x=.lit (.iface t v)/\Q.ap (.panic (bp (.iface t v))) st
 | _=>False
def dtW (P:Program):DT->St->KQ->Prop
 | .die o,st,Q=>dieOpW P o st Q
 | .step o t,st,Q=>aopsW P [o] st ⟨λst'=>dtW P t st' Q⟩
 | .br x y,st,Q=>dtW P x st Q/\dtW P y st Q
theorem u6 {P:Program} {B:Nat} {o:ROp} {st:St} {Q:KQ} (h:dieOpW P o st Q):dieOp P (o.er B) st λV st'=>Q.ap (.panic (bp V)) st':=by
 unfold dieOpW at h;split at h;exact h;exact h;exact h.elim
theorem rq {P:Program} {B:Nat} {Q:KQ}:∀(T:DT) {st:St},T.ok=true->dtW P T st Q->dieF P (T.er B) st λV st'=>Q.ap (.panic (bp V)) st'
 | .die o,st,hok,h=>by
  simp only[DT.er,dieF,z7,show ri o=true from hok,if_true]
  exact u6 h
 | .step o t,st,hok,h=>by
  simp only[DT.ok,ZS,abG]at hok;simp only[DT.er,dieF,z7,hok.1,ZZ,if_false]
  exact c7 (K:=⟨λst'=>dtW P t st' Q⟩) (λst' h'=>rq t hok.2 h') [o] h
 | .br x y,st,hok,h=>by
  simp only[DT.ok,ZS]at hok;exact⟨rq x hok.1 h.1,rq y hok.2 h.2⟩
theorem uy (P:Program) (o:ROp) (r:List ROp) (st:St) (K:KS):aopsW P (o::r) st K=aopsW P [o] st ⟨λst'=>aopsW P r st' K⟩:=by cases o<;>rfl
theorem zZ {P:Program} {B:Nat} {K:KS} {K':St->Prop} {KD:Value->St->Prop} (hK:∀st,K.ap st->K' st):∀(l:List ROp) {st:St},aopsW P l st K->lU P (l.map (ROp.er B)) st K' KD
 | [],st,h=>hK _ h
 | o::r,st,h=>by
  rw[uy]at h;exact .inr (c7 (λst' h'=>zZ hK r h') [o] h)
theorem u9 {P:Program} {B:Nat} {Q:KQ} {K:KS} {K':St->Prop} {o:ROp} {post:List ROp} (hK:∀st,K.ap st->K' st):∀(pre:List ROp) {st:St},aopsW P pre st ⟨λst'=>dieOpW P o st' Q\/aopsW P (o::post) st' K⟩ ->
    lU P ((pre++o::post).map (ROp.er B)) st K' λV st'=>Q.ap (.panic (bp V)) st'
 | [],st,h=>by
  rcases h with h | h;exact .inl (u6 h)
  ·exact zZ hK (o::post) h
 | p::r,st,h=>by
  rw[uy]at h;exact .inr (c7 (λst' h'=>u9 hK r h') [p] h)
theorem Ad {P:Program} {B:Nat} {Q:KQ} {K:KS} {K':St->Prop} {o o2:ROp} {bX post:List ROp} (hK:∀st,K.ap st->K' st):∀(pre:List ROp) {st:St},aopsW P pre st ⟨λst'=>dieOpW P o st' Q\/aopsW P (o::bX) st' ⟨λst''=>dieOpW P o2 st'' Q\/aopsW P (o2::post) st'' K⟩⟩ ->
    lU P ((pre++o::(bX++o2::post)).map (ROp.er B)) st K' λV st'=>Q.ap (.panic (bp V)) st'
 | [],st,h=>by
  rcases h with h | h;exact .inl (u6 h)
  ·exact u9 hK (o::bX) h
 | p::r,st,h=>by
  rw[uy]at h;exact .inr (c7 (λst' h'=>Ad hK r h') [p] h)
inductive RT where
 | leaf (ops:List ROp)
 | node (p:List ROp) (x y:RT)
def RT.er (B:Nat):RT->AT aN
 | .leaf ops=>AT.pre (ops.map (ROp.er B)) .nil
 | .node p x y=>AT.pre (p.map (ROp.er B)) (.br (x.er B) (y.er B))
def jj (P:Program):RT->St->KS->Prop
 | .leaf ops,st,K=>aopsW P ops st K
 | .node p x y,st,K=>aopsW P p st ⟨λst=>jj P x st K/\jj P y st K⟩
def KS.two (P:Program) (x y:RT) (K:KS):KS:=⟨λst=>jj P x st K/\jj P y st K⟩
theorem Vp {P:Program} {ops:List ROp} {st:St} {K:KS}:jj P (.leaf ops) st K=aopsW P ops st K:=(rfl)
theorem Vq {P:Program} {p:List ROp} {x y:RT} {st:St} {K:KS}:jj P (.node p x y) st K=aopsW P p st (KS.two P x y K):=(rfl)
theorem Qg {P:Program} {x y:RT} {st:St} {K:KS}:(KS.two P x y K).ap st=(jj P x st K/\jj P y st K):=(rfl)
theorem xG {P:Program} {B:Nat} {K:KS} {K':St->Prop} (hK:∀st,K.ap st->K' st):∀(T:RT) {st:St},jj P T st K->aopsT P (T.er B) st K'
 | .leaf ops,st,h=>by
  unfold RT.er;rw[xh]
  exact c7 (B:=B) hK ops h
 | .node p x y,st,h=>by
  unfold RT.er;rw[xh];exact c7 (B:=B) (λst h=>⟨xG hK x h.1,xG hK y h.2⟩) p h
inductive AK where
 | skip
 | bN (ops:List ROp) (keep:List Nat)
 | seq (x y:AK)
 | cond (c:AE) (x y:AK)
 | block (id:Nat) (x:AK)
 | loop (x:AK)
 | exit (id:Nat)
 | ret
 | bX (x:AK)
 | scope (x:AK)
 | label (l:Nat)
 | goto (l:Nat)
 | split (ops:List ROp) (d f:Nat) (x:AE) (c:UInt8) (bk p q0:Nat) (body:AK)
 | back (ops:List ROp) (d f kx bk p1 p q0:Nat) (body:AK)
 | alt (p x y:List ROp) (keep:List Nat)
 | fg (T:RT) (keep:List Nat)
 | eZ (pre:List ROp) (o:ROp) (post:List ROp) (keep:List Nat)
 | nP (pre:List ROp) (o:ROp) (bX:List ROp) (o2:ROp) (post:List ROp) (keep:List Nat)
 | eR (p x y:List ROp) (keep:List Nat) (T:DT)
 | cO (f:Nat) (args:List AE)
 | bad
def AK.erase (B:Nat):AK->AC
 | .skip=>.skip
 | .bN ops _=>.bN (ops.map (ROp.er B))
 | .seq x y=>.seq (x.erase B) (y.erase B)
 | .cond c x y=>.cond c (x.erase B) (y.erase B)
 | .block id x=>.block id (x.erase B)
 | .loop x=>.loop (x.erase B)
 | .exit id=>.exit id
 | .ret=>.ret
 | .bX x=>(x.erase B)
 | .scope x=>.scope (x.erase B)
 | .label l=>.label l
 | .goto l=>.goto l
 | .split ops d f x c bk p q0 body=>.seq (.fP (ops.map (ROp.er B)++[⟨some d,none,false,B+d,.call f [x,.c (.str [c])]⟩])) (.block bk (.fQ (.t d) [p] (.bN [⟨some q0,none,false,B+q0,.fM (.t p)⟩]) (body.erase B)))
 | .back ops d f kx bk p1 p q0 body=>.seq (.fP (ops.map (ROp.er B)++[⟨some d,none,false,B+d,.call f [.t kx]⟩])) (.block bk (.fQ (.t d) [p1,p] (.bN [⟨some q0,none,false,B+q0,.fM (.t p)⟩]) (body.erase B)))
 | .alt p x y _=>.alt (p.map (ROp.er B)) (x.map (ROp.er B)) (y.map (ROp.er B))
 | .fg T _=>.fg (T.er B)
 | .eZ pre o post _=>.eZ ((pre++o::post).map (ROp.er B))
 | .nP pre o md o2 post _=>.eZ ((pre++o::(md++o2::post)).map (ROp.er B))
 | .eR p x y _ T=>.eR (p.map (ROp.er B)) (x.map (ROp.er B)) (y.map (ROp.er B)) (T.er B)
 | .cO f args=>.cO f args
 | .bad=>.bad
def vcW (P:Program) (E:Env):AK->KQ->St->Prop
 | .skip,Q,st=>Q.ap .normal st
 | .bN ops ks,Q,st=>aopsW P ops st ⟨λst=>Q.ap .normal ⟨trim st.s ks,st.h⟩⟩
 | .seq x y,Q,st=>vcW P E x ⟨jU (λst=>vcW P E y Q st) Q.ap⟩ st
 | .cond c x y,Q,st=>match ev st c with
  | .bool b=>(b=true->vcW P E x Q st)/\(b=false->vcW P E y Q st)
  | _=>False
 | .block id x,Q,st=>vcW P E x ⟨blockQ id Q.ap⟩ st
 | .loop x,Q,st=>bc P E (.loop (x.erase E.B)) st Q.ap
 | .exit id,Q,st=>Q.ap (.exit id) st
 | .ret,Q,st=>Q.ap .ret st
 | .bX x,Q,st=>bc P E (x.erase E.B) st Q.ap
 | .scope x,Q,st=>bc P E (.scope (x.erase E.B)) st Q.ap
 | .label _,Q,st=>Q.ap .normal st
 | .goto l,Q,st=>Q.ap (.goto l) st
 | .split ops d f x c bk p q0 body,Q,st=>aopsW P ops st ⟨splitK P E d f x c bk p q0 (body.erase E.B) Q.ap⟩
 | .back ops d f kx bk p1 p q0 body,Q,st=>aopsW P ops st ⟨oB P E d f kx bk p1 p q0 (body.erase E.B) Q.ap⟩
 | .alt p x y ks,Q,st=>aopsW P p st ⟨λst=>aopsW P x st ⟨λst=>Q.ap .normal ⟨trim st.s ks,st.h⟩⟩/\aopsW P y st ⟨λst=>Q.ap .normal ⟨trim st.s ks,st.h⟩⟩⟩
 | .fg T ks,Q,st=>jj P T st ⟨λst=>Q.ap .normal ⟨trim st.s ks,st.h⟩⟩
 | .eZ pre o post ks,Q,st=>aopsW P pre st ⟨λst=>dieOpW P o st Q\/aopsW P (o::post) st ⟨λst=>Q.ap .normal ⟨trim st.s ks,st.h⟩⟩⟩
 | .nP pre o md o2 post ks,Q,st=>aopsW P pre st ⟨λst=>dieOpW P o st Q\/aopsW P (o::md) st ⟨λst=>dieOpW P o2 st Q\/aopsW P (o2::post) st ⟨λst=>Q.ap .normal ⟨trim st.s ks,st.h⟩⟩⟩⟩
 | .eR p x y ks T,Q,st=>(aopsW P p st ⟨λst=>aopsW P x st ⟨λst=>Q.ap .normal ⟨trim st.s ks,st.h⟩⟩/\aopsW P y st ⟨λst=>Q.ap .normal ⟨trim st.s ks,st.h⟩⟩⟩)\/(T.ok=true/\dtW P T st Q)
 | .cO _ _,_,_=>False
 | .bad,_,_=>False
def KS.bN (ks:List Nat) (Q:KQ):KS:=⟨λst=>Q.ap .normal ⟨trim st.s ks,st.h⟩⟩
def KS.alt (P:Program) (x y:List ROp) (ks:List Nat) (Q:KQ):KS:=⟨λst=>aopsW P x st (KS.bN ks Q)/\aopsW P y st (KS.bN ks Q)⟩
def ni (P:Program) (o:ROp) (post:List ROp) (ks:List Nat) (Q:KQ) (st:St):Prop:=dieOpW P o st Q\/aopsW P (o::post) st (KS.bN ks Q)
def KS.rl (P:Program) (o:ROp) (post:List ROp) (ks:List Nat) (Q:KQ):KS:=⟨ni P o post ks Q⟩
def rj (P:Program) (o:ROp) (bX:List ROp) (o2:ROp) (post:List ROp) (ks:List Nat) (Q:KQ) (st:St):Prop:=dieOpW P o st Q\/aopsW P (o::bX) st (KS.rl P o2 post ks Q)
def KS.Ac (P:Program) (o:ROp) (bX:List ROp) (o2:ROp) (post:List ROp) (ks:List Nat) (Q:KQ):KS:=⟨rj P o bX o2 post ks Q⟩
def KS.dt (P:Program) (T:DT) (Q:KQ):KS:=⟨λst=>dtW P T st Q⟩
def KQ.seq (P:Program) (E:Env) (y:AK) (Q:KQ):KQ:=⟨jU (λst=>vcW P E y Q st) Q.ap⟩
def KQ.dk (id:Nat) (Q:KQ):KQ:=⟨blockQ id Q.ap⟩
def KQ.iC (R:KS) (Q:KQ):KQ:=⟨jU R.ap Q.ap⟩
def KS.Ee (P:Program) (E:Env) (d f:Nat) (x:AE) (c:UInt8) (bk p q0:Nat) (body:AK) (Q:KQ):KS:=⟨splitK P E d f x c bk p q0 (body.erase E.B) Q.ap⟩
def Ef (P:Program) (E:Env) (d f:Nat) (x:AE) (c:UInt8) (bk p q0:Nat) (body:AK) (Q:KQ) (st:St):Prop:=splitK P E d f x c bk p q0 (body.erase E.B) Q.ap st
def KS.yY (P:Program) (E:Env) (d f kx bk p1 p q0:Nat) (body:AK) (Q:KQ):KS:=⟨oB P E d f kx bk p1 p q0 (body.erase E.B) Q.ap⟩
def yX (P:Program) (E:Env) (d f kx bk p1 p q0:Nat) (body:AK) (Q:KQ) (st:St):Prop:=oB P E d f kx bk p1 p q0 (body.erase E.B) Q.ap st
def KQ.jmp (l:Nat) (R:KS) (Q:KQ):KQ:=⟨jumpQ l R.ap Q.ap⟩
def KQ.pM (Q:KQ):KQ:=⟨CI Q.ap⟩
def findK:AK->Nat->Option AK
 | .seq a b,l=>match findK a l with
  | some r=>some (.seq r b)
  | none=>findK b l
 | .label l',l=>if l'==l then some .skip else none
 | .bX x,l=>findK x l
 | _,_=>none
theorem o5 (B:Nat):∀(c:AK) (l:Nat),findA (c.erase B) l=(findK c l).map (AK.erase B)
 | .seq a b,l=>by
  simp only[AK.erase,findA,findK,o5 B a l]
  cases findK a l with
  | some r=>rfl
  | none=>exact o5 B b l
 | .label l',l=>by
  simp only[AK.erase,findA,findK]
  split<;>rfl
 | .bX x,l=>by simp only[AK.erase,findK,o5 B x l]
 | .skip,_ | .bN _ _,_ | .cond _ _ _,_ | .block _ _,_ | .loop _,_ | .exit _,_ | .ret,_ | .scope _,_ | .goto _,_ | .bad,_ | .alt _ _ _ _,_=>rfl
 | .split _ _ _ _ _ _ _ _ _,_=>rfl
 | .back _ _ _ _ _ _ _ _ _,_=>rfl
 | .eZ _ _ _ _,_=>rfl
 | .nP _ _ _ _ _ _,_=>rfl
 | .fg _ _,_=>rfl
 | .eR _ _ _ _ _,_=>rfl
 | .cO _ _,_=>rfl
def l9 (P:Program) (E:Env) (b:Bool) (x y:AK) (Q:KQ) (st:St):Prop:=(b=true->vcW P E x Q st)/\(b=false->vcW P E y Q st)
def uT (P:Program) (E:Env) (v:AV) (x y:AK) (Q:KQ) (st:St):Prop:=
 match v with
 | .bool b=>l9 P E b x y Q st
 | _=>False
section
variable {P:Program} {E:Env} {st:St} {Q:KQ} {x y:AK} {R:KS}
theorem Qe {ks:List Nat}:(KS.bN ks Q).ap st=Q.ap .normal ⟨trim st.s ks,st.h⟩:=(rfl)
theorem P9 {a b:List ROp} {ks:List Nat}:(KS.alt P a b ks Q).ap st=(aopsW P a st (KS.bN ks Q)/\aopsW P b st (KS.bN ks Q)):=(rfl)
theorem P1:(KQ.seq P E y Q).ap .normal st=vcW P E y Q st:=(rfl)
theorem P3:(KQ.seq P E y Q).ap .ret st=Q.ap .ret st:=(rfl)
theorem P4 {i:Nat}:(KQ.seq P E y Q).ap (.exit i) st=Q.ap (.exit i) st:=(rfl)
theorem Pq {i:Nat}:(KQ.dk i Q).ap .normal st=Q.ap .normal st:=(rfl)
theorem Ps {i:Nat}:(KQ.dk i Q).ap .ret st=Q.ap .ret st:=(rfl)
theorem Pt {i j:Nat}:(KQ.dk i Q).ap (.exit j) st=if j=i then Q.ap .normal st else Q.ap (.exit j) st:=(rfl)
theorem P0 {i:Nat}:(KQ.seq P E y Q).ap (.goto i) st=Q.ap (.goto i) st:=(rfl)
theorem Pp {i j:Nat}:(KQ.dk i Q).ap (.goto j) st=Q.ap (.goto j) st:=(rfl)
theorem PV {i:Nat}:(KQ.iC R Q).ap (.goto i) st=Q.ap (.goto i) st:=(rfl)
theorem PB {l:Nat}:(KQ.jmp l R Q).ap .normal st=Q.ap .normal st:=(rfl)
theorem PD {l:Nat}:(KQ.jmp l R Q).ap .ret st=Q.ap .ret st:=(rfl)
theorem PE {l i:Nat}:(KQ.jmp l R Q).ap (.exit i) st=Q.ap (.exit i) st:=(rfl)
theorem PA {l:Nat}:(KQ.jmp l R Q).ap (.goto l) st=R.ap st:=by simp[KQ.jmp,jumpQ]
theorem P2 {c:List PanicEntry}:(KQ.seq P E y Q).ap (.panic c) st=Q.ap (.panic c) st:=(rfl)
theorem Pr {i:Nat} {c:List PanicEntry}:(KQ.dk i Q).ap (.panic c) st=Q.ap (.panic c) st:=(rfl)
theorem PX {c:List PanicEntry}:(KQ.iC R Q).ap (.panic c) st=Q.ap (.panic c) st:=(rfl)
theorem PC {l:Nat} {c:List PanicEntry}:(KQ.jmp l R Q).ap (.panic c) st=Q.ap (.panic c) st:=(rfl)
theorem PG {c:List PanicEntry}:(KQ.pM Q).ap (.panic c) st=Q.ap (.panic c) st:=(rfl)
theorem Qd {T:DT}:(KS.dt P T Q).ap st=dtW P T st Q:=(rfl)
theorem Ky {o:ROp} {T:DT}:dtW P (.step o T) st Q=aopsW P [o] st (KS.dt P T Q):=(rfl)
theorem Kw {T U:DT}:dtW P (.br T U) st Q=(dtW P T st Q/\dtW P U st Q):=(rfl)
def na (P:Program) (st:St) (f:Nat) (args:List AE) (as:List AV) (Q:KQ):Prop:=as=evL st args->qD P st f args λV st'=>Q.ap (.panic (bp V)) st'
def mZ (P:Program) (q:Bool) (st:St) (f:Nat) (args:List AE) (as:List AV) (d:Option Nat) (r:List ROp) (K:KS) (Q:KQ):Prop:=na P st f args as Q\/gP P q st f args as d r K
theorem Kx {d:Option Nat} {q:Bool} {id f:Nat} {args:List AE}:dtW P (.die (.j8 d q id f args)) st Q=na P st f args (evL st args) Q:=by
 simp[dtW,dieOpW,na]
theorem Qb {o o2:ROp} {bX post:List ROp} {ks:List Nat}:(KS.Ac P o bX o2 post ks Q).ap st=rj P o bX o2 post ks Q st:=(rfl)
theorem Qc {o:ROp} {post:List ROp} {ks:List Nat}:(KS.rl P o post ks Q).ap st=ni P o post ks Q st:=(rfl)
theorem Kd {d:Option Nat} {q:Bool} {id f:Nat} {args:List AE} {post:List ROp} {ks:List Nat}:ni P (.j8 d q id f args) post ks Q st=mZ P q st f args (evL st args) d post (KS.bN ks Q) Q:=by
 simp[ni,dieOpW,mZ,na,ux]
theorem Kb {d:Option Nat} {q:Bool} {id f:Nat} {args:List AE} {o2:ROp} {bX post:List ROp} {ks:List Nat}:rj P (.j8 d q id f args) bX o2 post ks Q st=mZ P q st f args (evL st args) d bX (KS.rl P o2 post ks Q) Q:=by
 simp[rj,dieOpW,mZ,na,ux]
def pncW (v:AV) (Q:KQ) (st:St):Prop:=
 match v with
 | .lit (.iface t x)=>Q.ap (.panic (bp (.iface t x))) st
 | _=>False
theorem TM {t:TypeId} {x:Value}:pncW (.lit (.iface t x)) Q st=Q.ap (.panic (bp (.iface t x))) st:=(rfl)
theorem Ke {q:Bool} {id:Nat} {x:AE} {post:List ROp} {ks:List Nat}:ni P (.kT q id (.gm x)) post ks Q st=pncW (ev st x) Q st:=by
 apply propext;unfold ni dieOpW pncW;constructor
 ·rintro(⟨t,v,h1,h2⟩ | h)
  ·rw[h1];exact h2
  exact h.elim
 ·intro h;split at h
  ·rename_i t v e;exact .inl ⟨t,v,e,h⟩
  exact h.elim
theorem dY {d:Option Nat} {q:Bool} {f:Nat} {args:List AE} {as:List AV} {r:List ROp} {K:KS} (h:gP P q st f args as d r K):mZ P q st f args as d r K Q:=.inr h
theorem zW {f:Nat} {args:List AE} {as:List AV} {V:Value} (h0:HP) (hs:dW P f h0 as V) (hsub:dr st.h h0) (h:Q.ap (.panic (bp V)) (mN st h0)):na P st f args as Q:=by
 rintro rfl;rw[iU]at hs;exact Fl h0 hs (λi W hi=>jd hsub i W hi) h
theorem eU {d:Option Nat} {q:Bool} {f:Nat} {args:List AE} {as:List AV} {r:List ROp} {K:KS} {V:Value} (h0:HP) (hs:dW P f h0 as V) (hsub:dr st.h h0) (h:Q.ap (.panic (bp V)) (mN st h0)):mZ P q st f args as d r K Q:=
 .inl (zW h0 hs hsub h)
theorem mO {h0:HP}:mN st h0=⟨killSI (dw h0) [] st.s,dropH (dw h0) [] st.h⟩:=(rfl)
theorem FT {p x y:List ROp} {ks:List Nat} {T:DT} (h:aopsW P p st (KS.alt P x y ks Q)):vcW P E (.eR p x y ks T) Q st:=.inl h
theorem FQ {p x y:List ROp} {ks:List Nat} {T:DT} (hT:T.ok=true) (h:dtW P T st Q):vcW P E (.eR p x y ks T) Q st:=.inr ⟨hT,h⟩
theorem PF:(KQ.pM Q).ap .normal st=Q.ap .normal st:=(rfl)
theorem PH:(KQ.pM Q).ap .ret st=Q.ap .ret st:=(rfl)
theorem PJ {i:Nat}:(KQ.pM Q).ap (.exit i) st=Q.ap (.exit i) st:=(rfl)
theorem YA {i:Nat}:vcW P E (.label i) Q st=Q.ap .normal st:=(rfl)
theorem Yz {i:Nat}:vcW P E (.goto i) Q st=Q.ap (.goto i) st:=(rfl)
theorem Qf {d f:Nat} {ae:AE} {c:UInt8} {bk p q0:Nat}:(KS.Ee P E d f ae c bk p q0 x Q).ap st=Ef P E d f ae c bk p q0 x Q st:=(rfl)
theorem Qa {d f kx bk p1 p q0:Nat}:(KS.yY P E d f kx bk p1 p q0 x Q).ap st=yX P E d f kx bk p1 p q0 x Q st:=(rfl)
theorem PW:(KQ.iC R Q).ap .normal st=R.ap st:=(rfl)
theorem PY:(KQ.iC R Q).ap .ret st=Q.ap .ret st:=(rfl)
theorem PZ {i:Nat}:(KQ.iC R Q).ap (.exit i) st=Q.ap (.exit i) st:=(rfl)
theorem YG:vcW P E .skip Q st=Q.ap .normal st:=(rfl)
theorem YD:vcW P E .ret Q st=Q.ap .ret st:=(rfl)
theorem Yy {i:Nat}:vcW P E (.exit i) Q st=Q.ap (.exit i) st:=(rfl)
theorem EP {ops:List ROp} {ks:List Nat}:vcW P E (.bN ops ks) Q st=aopsW P ops st (KS.bN ks Q):=(rfl)
theorem YF:vcW P E (.seq x y) Q st=vcW P E x (KQ.seq P E y Q) st:=(rfl)
theorem Yw {i:Nat}:vcW P E (.block i x) Q st=vcW P E x (KQ.dk i Q) st:=(rfl)
theorem Yx {c:AE}:vcW P E (.cond c x y) Q st=uT P E (ev st c) x y Q st:=by
 simp only[vcW,uT];cases ev st c<;>rfl
theorem I9 {b:Bool}:uT P E (.bool b) x y Q st=l9 P E b x y Q st:=(rfl)
theorem NJ:l9 P E true x y Q st=vcW P E x Q st:=by simp[l9]
theorem NI:l9 P E false x y Q st=vcW P E y Q st:=by simp[l9]
end
theorem Eu {K K':St->Prop} {Q Q':Exit->St->Prop} (hK:∀st,K st->K' st) (hQ:∀e st,Q e st->Q' e st):∀e st,jU K Q e st->jU K' Q' e st:=by
 intro e st h;cases e<;>first | exact hK st h | exact hQ _ st h
theorem dN {P:Program} {E:Env} (hN:E.N<=1000000):∀(c:AK) {st:St} {Q:KQ},vcW P E c Q st->bc P E (c.erase E.B) st Q.ap
 | .skip,st,Q,h=>G3 h
 | .bN ops ks,st,Q,h=>by
  have h':=lM (B:=E.B) ops h;intro n code hc a w hr
  exact xu hN hc h' hr (λst' a' w' h1 ⟨ρ2,h2⟩=>⟨_,⟨ρ2,mn h2 (lA _ ks)⟩,h1⟩)
 | .seq x y,st,Q,h=>G0 (bc.mono (dN hN x h) (Eu (λst' h'=>dN hN y h') (λ_ _ h=>h)))
 | .cond c x y,st,Q,h=>by
  simp only[vcW]at h;split at h
  ·rename_i b hb;exact GR hb (λe=>dN hN x (h.1 e)) (λe=>dN hN y (h.2 e))
  ·exact h.elim
 | .block id x,st,Q,h=>GQ (dN hN x h)
 | .loop x,st,Q,h=>h
 | .exit id,st,Q,h=>GS h
 | .ret,st,Q,h=>GX h
 | .bX x,st,Q,h=>h
 | .scope x,st,Q,h=>h
 | .label l,st,Q,h=>GV h
 | .goto l,st,Q,h=>GU h
 | .split ops d f x c bk p q0 body,st,Q,h=>G4 hN (lM (B:=E.B) ops h)
 | .back ops d f kx bk p1 p q0 body,st,Q,h=>GP hN (lM (B:=E.B) ops h)
 | .alt p x y ks,st,Q,h=>by
  intro n code hc a w hr;refine FW hN hc (K:=λst=>Q.ap .normal ⟨trim st.s ks,st.h⟩) ?_ hr (λst' a' w' h1 ⟨ρ2,h2⟩=>⟨_,⟨ρ2,mn h2 (lA _ ks)⟩,h1⟩)
  exact c7 (B:=E.B) (λst h=>⟨lM (B:=E.B) x h.1,lM (B:=E.B) y h.2⟩) p h
 | .fg T ks,st,Q,h=>by
  intro n code hc a w hr;refine FV hN hc (K:=λst=>Q.ap .normal ⟨trim st.s ks,st.h⟩) ?_ hr (λst' a' w' h1 ⟨ρ2,h2⟩=>⟨_,⟨ρ2,mn h2 (lA _ ks)⟩,h1⟩)
  exact xG (B:=E.B) (λ_ h=>h) T h
 | .eZ pre o post ks,st,Q,h=>by
  intro n code hc a w hr
  exact Dv hN hc hr (K:=λst=>Q.ap .normal ⟨trim st.s ks,st.h⟩) (λst' a' w' h1 ⟨ρ2,h2⟩=>⟨_,⟨ρ2,mn h2 (lA _ ks)⟩,h1⟩) (λV st' a' w' h1 h2=>⟨st',h2,h1⟩) (u9 (B:=E.B) (λ_ h=>h) pre h)
 | .nP pre o md o2 post ks,st,Q,h=>by
  intro n code hc a w hr
  exact Dv hN hc hr (K:=λst=>Q.ap .normal ⟨trim st.s ks,st.h⟩) (λst' a' w' h1 ⟨ρ2,h2⟩=>⟨_,⟨ρ2,mn h2 (lA _ ks)⟩,h1⟩) (λV st' a' w' h1 h2=>⟨st',h2,h1⟩) (Ad (B:=E.B) (λ_ h=>h) pre h)
 | .eR p x y ks T,st,Q,h=>by
  intro n code hc a w hr;refine FU hN hc hr (K:=λst=>Q.ap .normal ⟨trim st.s ks,st.h⟩) (KD:=λV st=>Q.ap (.panic (bp V)) st) (λst' a' w' h1 ⟨ρ2,h2⟩=>⟨_,⟨ρ2,mn h2 (lA _ ks)⟩,h1⟩) (λV st' a' w' h1 h2=>⟨st',h2,h1⟩) ?_;rcases h with h | h;exact .inl (c7 (B:=E.B) (λst h=>⟨lM (B:=E.B) x h.1,lM (B:=E.B) y h.2⟩) p h)
  ·exact .inr (rq T h.1 h.2)
 | .cO _ _,st,Q,h=>h.elim
 | .bad,st,Q,h=>h.elim
theorem QA {s s':List (Nat×AV)} {h h':HP}:B8 ⟨s,h⟩ ⟨s',h'⟩=(du s s'/\dr h h'):=(rfl)
theorem Qy {s:List (Nat×AV)}:du s []=True:=(rfl)
theorem Qx {s r:List (Nat×AV)} {k:Nat} {v:AV}:du s ((k,v)::r)=(sget s k=some v/\du s r):=(rfl)
theorem Qv {s:HP}:dr s []=True:=(rfl)
theorem Qu {s r:HP} {k:Nat} {v:aC}:dr s ((k,v)::r)=(hget s k=some v/\dr s r):=(rfl)
theorem aP {P:Program} {E:Env} {x:AK} {Q:KQ} {st:St} {α:Type} (hN:E.N<=1000000) (f:α->St) (inv:α->Prop) (ms:α->Nat) (a0:α) (h0:Wk st (f a0)) (hi:inv a0)
    (round:∀a (R:KS),inv a->(∀b st',ms b<ms a->inv b->Wk st' (f b)->R.ap st')->vcW P E x (KQ.iC R Q) (f a)):vcW P E (.loop x) Q st:=by
 show bc P E (.loop (x.erase E.B)) st Q.ap
 refine GW (λn s=>∃a,inv a/\n=ms a/\Wk s (f a)) (ms a0) ⟨a0,hi,rfl,h0⟩ ?_;rintro n s ⟨a,h1,rfl,hle⟩;refine oz hle (bc.mono (dN hN x (round a ⟨λs=>∃m,m<ms a/\∃a,inv a/\m=ms a/\Wk s (f a)⟩ h1 (λb st' g1 g2 g3=>⟨ms b,g1,b,g2,rfl,g3⟩))) ?_);intro e s h;exact h
theorem fU {P:Program} {E:Env} {x y:AK} {Q:KQ} {st:St} {α:Type} (hN:E.N<=1000000) (f:α->St) (inv:α->Prop)
    (h1:∀R:KS,(∀a st',inv a->Wk st' (f a)->R.ap st')->vcW P E x (KQ.iC R Q) st) (h2:∀a,inv a->vcW P E y Q (f a)):vcW P E (.seq x (.bX y)) Q st:=
 h1 ⟨λst=>bc P E (y.erase E.B) st Q.ap⟩ (λa st' g1 g2=>oz g2 (dN hN y (h2 a g1)))
theorem WR {P:Program} {E:Env} {d f bk p q0:Nat} {x:AE} {c:UInt8} {body:AK} {Q:KQ} {st:St} (hN:E.N<=1000000) (hrd:E.rd=none) (hS:uj P f) (hq0:q0<1000000) {s:List UInt8} (hx:ev st x=.str s) (hlen:s.length<=9223372036854775807)
    {α:Type} (s0:List (Nat×AV)) (H:α->HP) (inv:Nat->α->Prop) (x0:α) (h0:Wk st ⟨s0,H x0⟩) (hi:inv 0 x0) (hd0:sget s0 d=none) (hk0:s0.all (λq=>decide (q.1<3000000))=true)
    (round:∀(E2:Env) k y (R:KQ),E2.N<=1000000->inv k y->k<(splitB c s).length->(∀y' st',inv (k+1) y'->Wk st' ⟨ghost s0,H y'⟩->R.ap .normal st')->(∀st' h',Wk st' ⟨ghost s0,h'⟩->Q.ap .ret ⟨s0,h'⟩->R.ap .ret st') ->
     (∀i st' h',Wk st' ⟨ghost s0,h'⟩->(KQ.dk bk Q).ap (.exit i) ⟨s0,h'⟩->R.ap (.exit i) st')->vcW P E2 body R ⟨(q0,.str ((splitB c s).getD k []))::(p,.str ((splitB c s).getD k []))::(s0++ghost s0),H y⟩)
    (done:∀y,inv (splitB c s).length y->Q.ap .normal ⟨s0,H y⟩):Ef P E d f x c bk p q0 body Q st:=by
 intro n ops o b a w hd hdN hg hnd htr hb hr;refine WS (body:=body.erase E.B) hN hrd hq0 hS hx hlen s0 H inv x0 h0 hi hd0 (λk v hk=>?_) (λE2 k y h1 h2 h3 h4=>?_) done hd hg hnd htr hdN hb hr
 ·have key:∀(l:List (Nat×AV)),l.all (λq=>decide (q.1<3000000))=true->sget l k=some v->k<3000000:=by
   intro l
   induction l with
   | nil=>intro _ h;simp[sget]at h
   | cons q r ih=>
    obtain⟨j,u⟩:=q;intro hl h;simp only[aa9,ZS,decide_eq_true_eq]at hl;simp only[sget]at h;split at h
    ·rename_i e;omega
    exact ih hl.2 h
  exact key s0 hk0 hk
 ·rw[<-h2];exact dN ZG body (round E2 k y ⟨s8 (λst'=>∃y',inv (k+1) y'/\Wk st' ⟨ghost s0,H y'⟩) s0 (blockQ bk Q.ap)⟩ ZG h3 h4 (λy' st' g1 g2=>⟨y',g1,g2⟩) (λst' h' g1 g2=>⟨h',g1,g2⟩) (λi st' h' g1 g2=>⟨h',g1,g2⟩))
theorem Hk {P:Program} {E:Env} {d f kx bk p1 p q0:Nat} {body:AK} {Q:KQ} {st:St} (hN:E.N<=1000000) (hrd:E.rd=none) (hS:tZ P f) (hq0:q0<1000000) {xs:List (List UInt8)} (hlen:xs.length<=9223372036854775807)
    {α:Type} (s0:List (Nat×AV)) (H:α->HP) (inv:Nat->α->Prop) (x0:α) (h0:Wk st ⟨s0,H x0⟩) (hi:inv 0 x0) (hd0:sget s0 d=none) (hp1:sget s0 p1=none) (hkx:sget s0 kx=some (.ro 1 (xs.map .str))) (hkN:kx<d) (hpp:p1≠p) (hk0:s0.all (λq=>decide (q.1<3000000))=true)
    (round:∀(E2:Env) k y (R:KQ),E2.N<=1000000->inv k y->k<xs.length->(∀y' st',inv (k+1) y'->Wk st' ⟨ghost s0,H y'⟩->R.ap .normal st')->(∀st' h',Wk st' ⟨ghost s0,h'⟩->Q.ap .ret ⟨s0,h'⟩->R.ap .ret st') ->
     (∀i st' h',Wk st' ⟨ghost s0,h'⟩->(KQ.dk bk Q).ap (.exit i) ⟨s0,h'⟩->R.ap (.exit i) st')->vcW P E2 body R ⟨(q0,.str (xs.getD (xs.length-1-k) []))::(p,.str (xs.getD (xs.length-1-k) []))::(s0++ghost s0),H y⟩)
    (done:∀y,inv xs.length y->Q.ap .normal ⟨s0,H y⟩):yX P E d f kx bk p1 p q0 body Q st:=by
 intro n ops o b a w hd hdN hg hnd htr hb hr;refine Hm (body:=body.erase E.B) hN hrd hq0 hS hlen s0 H inv x0 h0 hi hd0 hp1 hkx (Nat.lt_trans hkN hdN) hpp (λk v hk=>?_) (λE2 k y h1 h2 h3 h4=>?_) done hd hg hnd htr hdN hb hr
 ·have key:∀(l:List (Nat×AV)),l.all (λq=>decide (q.1<3000000))=true->sget l k=some v->k<3000000:=by
   intro l
   induction l with
   | nil=>intro _ h;simp[sget]at h
   | cons q r ih=>
    obtain⟨j,u⟩:=q;intro hl h;simp only[aa9,ZS,decide_eq_true_eq]at hl;simp only[sget]at h;split at h
    ·rename_i e;omega
    exact ih hl.2 h
  exact key s0 hk0 hk
 ·rw[<-h2];exact dN ZG body (round E2 k y ⟨s8 (λst'=>∃y',inv (k+1) y'/\Wk st' ⟨ghost s0,H y'⟩) s0 (blockQ bk Q.ap)⟩ ZG h3 h4 (λy' st' g1 g2=>⟨y',g1,g2⟩) (λst' h' g1 g2=>⟨h',g1,g2⟩) (λi st' h' g1 g2=>⟨h',g1,g2⟩))
theorem ER {P:Program} {E:Env} {x y:AK} {Q:KQ} {st:St} {α:Type} (hN:E.N<=1000000) (l:Nat) (hf:findK x l=some y) (f:α->St) (inv:α->Prop)
    (h1:∀R:KS,(∀a st',inv a->Wk st' (f a)->R.ap st')->vcW P E x (KQ.jmp l R Q) st) (h2:∀a,inv a->vcW P E y (KQ.pM Q) (f a)):vcW P E (.scope x) Q st:=by
 show bc P E (.scope (x.erase E.B)) st Q.ap
 refine GY l (y:=y.erase E.B) (by rw[o5,hf];rfl) (λs=>∃a,inv a/\Wk s (f a)) (dN hN x (h1 ⟨λs=>∃a,inv a/\Wk s (f a)⟩ (λa st' g1 g2=>⟨a,g1,g2⟩))) ?_;rintro s ⟨a,g1,g2⟩;exact oz g2 (dN hN y (h2 a g1))
theorem cV {P:Program} {E:Env} {x:AK} {Q:KQ} {st:St} (hN:E.N<=1000000) (h:vcW P E x Q st):vcW P E (.bX x) Q st:=dN hN x h
theorem kF {P:Program} {E:Env} {x:AK} {Q:KQ} {st:St} (hN:E.N<=1000000) (st':St) (hle:Wk st st') (h:vcW P E x Q st'):vcW P E (.bX x) Q st:=oz hle (dN hN x h)
section
variable {P:Program} {q:Bool} {st:St} {f:Nat} {args:List AE} {as:List AV} {d:Option Nat} {r:List ROp} {K:KS} {Post:HP->AV->List AV->Prop}
def aw (P:Program) (f:Nat) (as:List AV) (v:AV):Prop:=Spec P f [] as (λh r _=>h=[]/\r=v)
theorem an {v:AV} (hs:aw P f as v) (hn:as.all bx=true) (hv:dK v=true) (h:aopsW P r (put st d v) K):gP P q st f args as d r K:=by
 rintro rfl;refine yx hs (by simpa using hn) ?_;rintro h' r' as' ⟨rfl,rfl⟩;exact⟨rfl,hv,h⟩
theorem dR (hs:Spec P f [] as Post) (hn:as.all bx=true) (h:∀h' v as',Post h' v as'->h'=[]/\dK v=true/\aopsW P r (put st d v) K):gP P q st f args as d r K:=by
 rintro rfl;exact yx hs (by simpa using hn) h
def borL (h:HP):List AV->List AV
 | []=>[]
 | x::r=>borrow h x::borL h r
theorem zk (h:HP):∀l,borL h l=l.map (borrow h)
 | []=>rfl
 | x::r=>by simp[borL,zk h r]
theorem Ij {v:AV} {bs:List AV} (hb:borL st.h as=bs) (hs:aw P f bs v) (hv:dI v=true) (h:aopsW P r (put st d v) K):gP P q st f args as d r K:=by
 rintro rfl;subst hb;refine Fm (Post:=λh r _=>h=[]/\r=v) (by rw[zk,aaK]at hs;exact hs) ?_;rintro h' r' as' ⟨rfl,rfl⟩;exact⟨rfl,hv,h⟩
theorem aW (h0:HP) (hs:Spec P f h0 as Post) (hsub:dr st.h h0) (hq:q=true->h0=[])
    (h:∀h' v as',Post h' v as'->jb h' h'=true/\dq h' v=true/\aopsW P r (put (gw st h0 args h' as') d v) K):gP P q st f args as d r K:=by
 rintro rfl;exact Fo h0 hs (λi W hi=>jd hsub i W hi) hq h
def lQ (h0 h:HP):List AV->List AV
 | []=>[]
 | x::r=>bor h0 h x::lQ h0 h r
theorem zm (h0 h:HP):∀l,lQ h0 h l=l.map (bor h0 h)
 | []=>rfl
 | x::r=>by simp[lQ,zm h0 h r]
theorem oI (h0:HP) {bs:List AV} (hb:lQ h0 st.h as=bs) (hs:Spec P f h0 bs Post) (hsub:dr st.h h0) (hq:q=true->h0=[])
    (h:∀h' v as',Post h' v as'->flH h' h'=true/\ed h' v=true/\aopsW P r (put (gw st h0 args h' as') d v) K):gP P q st f args as d r K:=by
 rintro rfl;subst hb;rw[zm,aaK]at hs;exact Fk h0 hs (λi W hi=>jd hsub i W hi) hq h
def mv:List AV->List AV
 | []=>[]
 | x::r=>stripV x::mv r
def mP:List AV->Prop
 | []=>True
 | x::r=>aq true x/\mP r
theorem Eg:∀l,mv l=l.map stripV
 | []=>rfl
 | x::r=>by simp[mv,Eg r]
theorem yC:∀{l:List AV},mP l->∀x∈l,aq true x
 | [],_,x,hx=>by cases hx
 | y::r,h,x,hx=>by
  rcases ZW.1 hx with rfl | hx;exact h.1;exact yC h.2 x hx
theorem RV.strip {X:Nat->Prop} {w:World} {ρ:Loc} {v:Value} {x:AV} (h:RV X w ρ v x) (hc:aq true x):RV X w ρ v (stripV x):=by
 cases x with
 | gd b y=>exact h.l5 (hc rfl)
 | _=>exact h
theorem eS {d:Nat} {v:AV} {bs:List AV} (hb:mv as=bs) (hs:aw P f bs v) (hc:mP as) (hn:bs.all bx=true) (hv:dK v=true) (h:aopsW P r ⟨(d,.gd true v)::st.s,st.h⟩ K):uM P q st f args as d r K:=by
 rintro rfl;subst hb;rw[Eg,aaK]at hs hn;intro E ρ a w vs h1 hvs hrv
 have hlt:∀b,XX E.X0 ρ st.h b->b<w.heap.size:=by
  intro b hb;rcases hb with hb | hb;exact h1.x0 b hb;exact gu h1 hb
 refine(hs (XX E.X0 ρ st.h) aV w vs (l7 _ _ _) (h1.b6.mono λ_ hb=>(gl hb).elim) hlt (by simpa using hvs) (λj v x e1 e2=>?_)).mono ?_
 ·rw[List.getElem?_map]at e2;obtain⟨y,g1,rfl⟩:=ZI.1 e2;have hy:=(hrv j v y e1 g1).1.strip (yC hc _ (List.mem_map_of_mem (ZX g1)));have hm:(stripV (ev st y))∈args.map (stripV∘ev st):=aaL.2 ⟨y,ZX g1,rfl⟩;exact(hy.tK (ZR.1 hn _ hm) aV).mono (λ_ _ _=>rfl) (λb _ hb=>λhx=>hb (oa.1 hx)) _ (λ_ _ h=>h)
 ·rintro e w' ⟨v,h',r,ρ',as,rfl,⟨rfl,rfl⟩,_,g2,_,_,g3,g4,g5,g6,g7,_⟩;have hsame:aA w w':=⟨g3,g4,g5,g6,λb hb=>g7 b hb gl⟩;exact⟨v,ρ,st,_,rfl,h1.same hsame,(g2.Ev hv ρ).mono (λ_ _ _=>rfl) (λb _ hb=>λhx=>hb (oa.2 hx)) ρ (λ_ _ h=>h),h,λ_=>hsame⟩
theorem fH {d:Nat} (h:uM P q st f args as d r K):rE P q (some true) st f args as d r K:=λe=>.inr (.inl ⟨rfl,h e⟩)
theorem cH {d:Nat} (h:aopsW P r ⟨(d,.gd false .undef)::st.s,st.h⟩ K):rE P q (some false) st f args as d r K:=λ_=>.inl ⟨rfl,h⟩
end
def cF (Post R:HP->AV->List AV->Prop):Prop:=∀h' r' ar' h r ar,ar'.length=ar.length->Wk ⟨(0,r)::numbered 1 ar,h⟩ ⟨(0,r')::numbered 1 ar',h'⟩->Post h' r' ar'->R h r ar
theorem wB {s:List (Nat×AV)}:∀{s':List (Nat×AV)},(∀k v,(k,v)∈s'->sget s k=some v)->du s s'
 | [],_=>trivial
 | (k,v)::r,h=>⟨h k v (Z1 ..),wB (λk' v' hm=>h k' v' (Z4 _ hm))⟩
theorem wG:∀{l:List AV} {k j:Nat} {x:AV},(j,x)∈numbered k l->k<=j/\l[j-k]?=some x
 | [],k,j,x,h=>by simp[numbered]at h
 | y::r,k,j,x,h=>by
  simp only[numbered,ZW,Prod.mk.injEq]at h;rcases h with⟨rfl,rfl⟩ | h;exact⟨ZM _,by simp⟩
  ·obtain⟨h1,h2⟩:=wG h;exact⟨ZG,by rw[show j-k=(j-(k+1))+1 by omega];simpa using h2⟩
theorem Qw (r:AV) (ar:List AV):du ((0,r)::numbered 1 ar) ((0,r)::numbered 1 ar):=by
 refine wB λk v hm=>?_;rcases ZW.1 hm with h | h
 ·injection h with h1 h2;subst h1;subst h2;simp[sget]
 ·obtain⟨h1,h2⟩:=wG h;simp only[sget];rw[if_neg ZG];have:=nT ar 1 (k-1) v h2
  rwa[show 1+(k-1)=k by omega]at this
theorem Qz (r r':AV) (ar:List AV):du ((0,r')::(0,r)::numbered 1 ar) ((0,r')::numbered 1 ar):=by
 refine wB λk v hm=>?_;rcases ZW.1 hm with h | h
 ·injection h with h1 h2;subst h1;subst h2;simp[sget]
 ·obtain⟨h1,h2⟩:=wG h;simp only[sget];rw[if_neg ZG,if_neg ZG];have:=nT ar 1 (k-1) v h2
  rwa[show 1+(k-1)=k by omega]at this
section
variable {Post R:HP->AV->List AV->Prop}
theorem cF.le (hF:cF Post R) {h h':HP} {r:AV} {ar:List AV} (hl:dr h h') (hp:Post h' r ar):R h r ar:=hF h' r ar h r ar rfl (.le ⟨Qw r ar,hl⟩) hp
theorem cF.ro (hF:cF Post R) {h:HP} {r:AV} {ar:List AV} (hp:Post [] r ar):R h r ar:=cF.le (h':=[]) hF trivial hp
theorem cF.val (hF:cF Post R) {h:HP} {r r':AV} {ar:List AV} (hv:oq r r') (hp:Post [] r' ar):R h r ar:=
 hF [] r' ar h r ar rfl (.val 0 r r' rfl hv (.le ⟨Qz r r' ar,trivial⟩)) hp
theorem cF.wk (hF:cF Post R) {h':HP} {r':AV} {ar':List AV} {h:HP} {r:AV} {ar:List AV} (hlen:ar'.length=ar.length) (hw:Wk ⟨(0,r)::numbered 1 ar,h⟩ ⟨(0,r')::numbered 1 ar',h'⟩) (hp:Post h' r' ar'):R h r ar:=hF h' r' ar' h r ar hlen hw hp
theorem ry:cF Post (λh r ar=>∃h2 r2 as2,as2.length=ar.length/\Wk ⟨(0,r)::numbered 1 ar,h⟩ ⟨(0,r2)::numbered 1 as2,h2⟩/\Post h2 r2 as2):=
 λh' r' ar' _ _ _ h1 h2 h3=>⟨h',r',ar',h1,h2,h3⟩
end
theorem RV.Xh {X:Nat->Prop} {w:World} {ρ:Loc} {v:Value} {s:List UInt8} (h:RV X w ρ v (.str s)):v=.string ⟨s.toArray⟩:=by cases h;rfl
theorem RV.HS {X:Nat->Prop} {w:World} {ρ:Loc} {v:Value} {b:Bool} (h:RV X w ρ v (.bool b)):v=.bool b:=by cases h;rfl
theorem RV.QI {X:Nat->Prop} {w:World} {ρ:Loc} {v x:Value} (h:RV X w ρ v (.lit x)):v=x:=by cases h;rfl
def valOf:AV->Value
 | .bool b=>.bool b
 | .int k n=>.int k n
 | .fl k b=>.float k b
 | .cx k a b=>.complex k a b
 | .str s=>.string ⟨s.toArray⟩
 | .aj=>.slice none 0 0
 | .lit x=>x
 | _=>undef
def isVal:AV->Bool
 | .bool _ | .int _ _ | .fl _ _ | .cx _ _ _ | .str _ | .aj | .lit _=>true
 | _=>false
theorem RV.valOf {X:Nat->Prop} {w:World} {ρ:Loc} {v:Value} {x:AV} (h:RV X w ρ v x) (hx:isVal x=true):v=valOf x:=by
 cases h<;>first | rfl | cases hx
theorem eD {X:Nat->Prop} {w:World} {ρ:Loc} {x:AV} (hx:isVal x=true):RV X w ρ (valOf x) x:=by
 cases x<;>first | (cases hx;done) | skip
 exact .bool _ _;exact .int _ _ _;exact .fl _ _ _;exact .cx _ _ _ _;exact .str _ _;exact .lit _ _;exact .aj _
def pr:AV->Bool
 | .ab vs=>vs.all isVal
 | x=>isVal x
def qp:AV->Value
 | .ab vs=>.tuple (vs.map valOf).toArray
 | x=>valOf x
theorem Yn {X:Nat->Prop} {w:World} {ρ:Loc} {x:AV} (hx:pr x=true):RV X w ρ (qp x) x:=by
 cases x with
 | ab vs=>
  refine .ab _ _ _ (by simp) (λj v a h1 h2=>?_);simp only[List.getElem?_toArray,List.getElem?_map,h2,aah,Option.some.injEq]at h1;subst h1
  exact eD (ZR.1 hx a (ZX h2))
 | bool b=>exact eD (x:=.bool b) hx
 | int k n=>exact eD (x:=.int k n) hx
 | fl k b=>exact eD (x:=.fl k b) hx
 | cx k a b=>exact eD (x:=.cx k a b) hx
 | str s=>exact eD (x:=.str s) hx
 | lit x=>exact eD (x:=.lit x) hx
 | aj=>exact eD (x:=.aj) hx
 | undef=>exact eD (x:=.undef) hx
 | ro sz es=>exact eD (x:=.ro sz es) hx
 | ao x=>exact eD (x:=.ao x) hx
 | sl i o n=>exact eD (x:=.sl i o n) hx
 | ptr i j f=>exact eD (x:=.ptr i j f) hx
 | aa i f=>exact eD (x:=.aa i f) hx
 | agg cs=>exact eD (x:=.agg cs) hx
 | gd b x=>exact eD (x:=.gd b x) hx
 | aB f cs=>exact eD (x:=.aB f cs) hx
theorem Eb {P:Program} {f:Nat} {as:List AV} {Q:AV->Prop} (ha:as.all isVal=true)
    (h:∀w:World,hV w->Calls P f (as.map valOf).toArray w λe w'=>∃v,Q v/\pr v=true/\e=.returned (qp v)/\Go.RowKit.Below w.heap.size w w'):Spec P f [] as (λh r _=>h=[]/\Q r):=by
 intro X0 ρ w vs h1 hA h2 h3 h4
 have hvs:vs=(as.map valOf).toArray:=by
  apply Array.ext (by simpa using h3);intro j g1 g2;have hj:j<as.length:=ZG;have:=(h4 j _ as[j] (Array.getElem?_eq_getElem g1) (List.getElem?_eq_getElem hj)).valOf (ZR.1 ha _ (aaP hj));rw[this];simp
 rw[hvs];refine(h w hA.1).mono ?_;rintro e w' ⟨v,hQ,hv,rfl,hb⟩;refine⟨_,[],v,ρ,as,rfl,⟨rfl,hQ⟩,l7 _ _ _,Yn hv,rfl,λj u x e1 e2=>?_,hb.os,hb.tape,hb.output,hb.size,λb hb' _=>hb.block b hb',λb hb'=>(gl hb').elim⟩;rw[hvs]at h4;have:=(h4 j u x e1 e2).valOf (ZR.1 ha _ (ZX e2));rw[this];exact eD (ZR.1 ha _ (ZX e2))
theorem xR {P:Program} {f:Nat} {as:List AV} {v:AV} (ha:as.all isVal=true) (hv:pr v=true)
    (h:∀w:World,hV w->Calls P f (as.map valOf).toArray w λe w'=>e=.returned (qp v)/\Go.RowKit.Below w.heap.size w w'):aw P f as v:=
 Eb (Q:=λr=>r=v) ha (λw hA=>(h w hA).mono (λe w' ⟨h1,h2⟩=>⟨v,rfl,hv,h1,h2⟩))
theorem Ed {P:Program} {f:Nat} {as:List AV} {v:AV} (ha:as.all isVal=true) (hv:pr v=true)
    (h:∀w:World,Calls P f (as.map valOf).toArray w λe w'=>e=.returned (qp v)/\Go.RowKit.Below w.heap.size w w'):aw P f as v:=xR ha hv (λw _=>h w)
theorem lC {P:Program} {f:Nat} {as:List AV} {v:AV} (ha:as.all isVal=true) (hv:pr v=true)
    (h:∀w:World,Calls P f (as.map valOf).toArray w λe w'=>e=.returned (qp v)/\w'=w):aw P f as v:=
 Ed ha hv (λw=>(h w).mono (λe w' ⟨h1,h2⟩=>⟨h1,by rw[h2];exact .refl _ _⟩))
def KQ.post (rs:List RVar) (m:Nat) (R:HP->AV->List AV->Prop):KQ:=⟨postQ rs m R⟩
theorem oy {P:Program} {E:Env} {c:AC} {st:St} {Q:Exit->St->Prop} (s':List (Nat×AV)) (hs:du st.s s') (h:bc P E c ⟨s',st.h⟩ Q):bc P E c st Q:=
 λn code hc a w hr=>h n code hc a w (by obtain⟨ρ,hr⟩:=hr;exact⟨ρ,mn hr hs⟩)
theorem UH {st:St} {t:Nat} (ht:t<2000000):resOf st [.tmp t]=some (ev st (.t t)):=by simp[resOf,resAV,trE,ht]
theorem UJ {st:St} {t u:Nat} (ht:t<2000000) (hu:u<2000000):resOf st [.tmp t,.tmp u]=some (.ab [ev st (.t t),ev st (.t u)]):=by simp[resOf,resAV,trE,ht,hu]
theorem UI {st:St} {t u v:Nat} (ht:t<2000000) (hu:u<2000000) (hv:v<2000000):resOf st [.tmp t,.tmp u,.tmp v]=some (.ab [ev st (.t t),ev st (.t u),ev st (.t v)]):=by simp[resOf,resAV,trE,ht,hu,hv]
theorem UG {st:St} {t u v x:Nat} (ht:t<2000000) (hu:u<2000000) (hv:v<2000000) (hx:x<2000000):resOf st [.tmp t,.tmp u,.tmp v,.tmp x]=some (.ab [ev st (.t t),ev st (.t u),ev st (.t v),ev st (.t x)]):=by simp[resOf,resAV,trE,ht,hu,hv,hx]
section
variable {m:Nat} {R:HP->AV->List AV->Prop} {st:St} {t u v x:Nat}
theorem PO:(KQ.post [] m R).ap .ret st=R st.h (.ab []) (argsAgain st 0 m):=by simp[KQ.post,postQ,resOf,resAV]
theorem PN:(KQ.post [] m R).ap .normal st=R st.h (.ab []) (argsAgain st 0 m):=by simp[KQ.post,postQ,resOf,resAV]
theorem PQ (ht:t<2000000):(KQ.post [.tmp t] m R).ap .ret st=R st.h (ev st (.t t)) (argsAgain st 0 m):=by simp[KQ.post,postQ,UH ht]
theorem PR (ht:t<2000000) (hu:u<2000000):(KQ.post [.tmp t,.tmp u] m R).ap .ret st=R st.h (.ab [ev st (.t t),ev st (.t u)]) (argsAgain st 0 m):=by simp[KQ.post,postQ,UJ ht hu]
theorem PS (ht:t<2000000) (hu:u<2000000) (hv:v<2000000):(KQ.post [.tmp t,.tmp u,.tmp v] m R).ap .ret st=R st.h (.ab [ev st (.t t),ev st (.t u),ev st (.t v)]) (argsAgain st 0 m):=by simp[KQ.post,postQ,UI ht hu hv]
theorem PU (ht:t<2000000) (hu:u<2000000) (hv:v<2000000) (hx:x<2000000):(KQ.post [.tmp t,.tmp u,.tmp v,.tmp x] m R).ap .ret st=R st.h (.ab [ev st (.t t),ev st (.t u),ev st (.t v),ev st (.t x)]) (argsAgain st 0 m):=by simp[KQ.post,postQ,UG ht hu hv hx]
end
def KQ.dies (V:Value):KQ:=⟨u7 V⟩
theorem k9 {V:Value} {st:St}:(KQ.dies V).ap (.panic (bp V)) st=True:=by simp[KQ.dies,u7]
def KQ.guard (rs:List RVar) (m:Nat) (V:Value) (zA:AV) (R:HP->AV->List AV->Prop):KQ:=⟨Bj rs m V zA R⟩
def guardP2 (rs:List RVar) (m:Nat) (zA:AV) (R:HP->AV->List AV->Prop) (st:St) (id:Nat):Option aC->Prop
 | some (.var [_])=>(KQ.post rs m R).ap .ret ⟨st.s,bn st.h id (.var [zA])⟩
 | _=>False
def guardP (rs:List RVar) (m:Nat) (zA:AV) (R:HP->AV->List AV->Prop) (st:St):Option AV->Prop
 | some (.aa id 0)=>guardP2 rs m zA R st id (hget st.h id)
 | _=>False
theorem Bi {rs:List RVar} {m id:Nat} {zA:AV} {R:HP->AV->List AV->Prop} {st:St}:guardP rs m zA R st (some (.aa id 0))=guardP2 rs m zA R st id (hget st.h id):=(rfl)
theorem MB {rs:List RVar} {m id:Nat} {zA c:AV} {R:HP->AV->List AV->Prop} {st:St}:guardP2 rs m zA R st id (some (.var [c]))=(KQ.post rs m R).ap .ret ⟨st.s,bn st.h id (.var [zA])⟩:=(rfl)
theorem Pz {rs:List RVar} {m:Nat} {V:Value} {zA:AV} {R:HP->AV->List AV->Prop} {st:St}:(KQ.guard rs m V zA R).ap .ret st=(KQ.post rs m R).ap .ret st:=(rfl)
theorem Py {rs:List RVar} {m:Nat} {V:Value} {zA:AV} {R:HP->AV->List AV->Prop} {st:St}:(KQ.guard rs m V zA R).ap (.panic (bp V)) st=guardP rs m zA R st (sget st.s (2000000+m)):=by
 apply propext;constructor
 ·rintro⟨_,id,c,h1,h2,h3⟩;rw[h1,Bi,h2];exact h3
 ·intro h;unfold guardP at h;split at h
  ·rename_i id h1;unfold guardP2 at h;split at h
   ·rename_i c h2;exact⟨rfl,id,c,h1,h2,h⟩
   exact h.elim
  exact h.elim
def KQ.cO (P:Program) (k m:Nat) (y:AK) (rs:List RVar) (V:Value) (zA:AV) (R:HP->AV->List AV->Prop):KQ:=
 ⟨λe st=>e=.normal/\∃id,ev st (.t k)=.aa id 0/\∀E':Env,E'.N<=1000000->vcW P E' y (KQ.guard rs m V zA R) ⟨(2000000+m,.aa id 0)::st.s,st.h⟩⟩
theorem Pv {P:Program} {k m id:Nat} {y:AK} {rs:List RVar} {V:Value} {zA:AV} {R:HP->AV->List AV->Prop} {st:St} (h1:ev st (.t k)=.aa id 0)
    (h:∀E':Env,E'.N<=1000000->vcW P E' y (KQ.guard rs m V zA R) ⟨(2000000+m,.aa id 0)::st.s,st.h⟩):(KQ.cO P k m y rs V zA R).ap .normal st:=⟨rfl,id,h1,h⟩
theorem WM {P:Program} {f g k:Nat} {fn:Func} {body:Code} {h:HP} {args:List AV} {Post:HP->AV->List AV->Prop} {x y:AK} {V:Value} {t:TypeId} {q:IntKind} {z:Int} (hf:P.funcs[f]?=some fn) (hb:fn.body=some body) {B:Nat}
    (hc:trCode P fn.ntmps B body=.seq (x.erase B) (.seq (.cO g [.t k]) (y.erase B))) (hN:fn.ntmps<=1000000) (ha:args.length<=fn.ntmps) (hG:oc P g V t (.int q z)) (ht:bL P t=some 1) {rs:List RVar} (hrs:fn.results.toList.map (trRes P)=rs)
    (s:List (Nat×AV)) (hs:du (fA args) s) (hp:∀(E:Env) (R:HP->AV->List AV->Prop),E.N<=1000000->cF Post R->vcW P E x (KQ.cO P k args.length y rs V (.int q z) R) ⟨s,h⟩):Spec P f h args Post:=by
 refine tq (WK hf hb hc hN ha hG ht (λE hE hB hrd=>?_));have hEN:E.N<=1000000:=by rw[hE];exact hN
 have h1:=dN hEN x (hp E _ hEN ry);rw[hB]at h1;refine oy s hs (bc.mono h1 ?_);rintro e st ⟨rfl,id,h2,h3⟩;refine⟨rfl,id,h2,λE' hE' hB' hrd'=>?_⟩;have hEN':E'.N<=1000000:=by rw[hE'];exact hN
 have h4:=dN hEN' y (h3 E' hEN');rw[hB']at h4;rw[hrs];exact h4
theorem WE {P:Program} {f:Nat} {fn:Func} {body:Code} {h:HP} {args:List AV} {x:AK} {V:Value} (hf:P.funcs[f]?=some fn) (hb:fn.body=some body) {B:Nat}
    (hc:trCode P fn.ntmps B body=x.erase B) (hN:fn.ntmps<=1000000) (ha:args.length<=fn.ntmps) (s:List (Nat×AV)) (hs:du (fA args) s)
    (hp:∀(E:Env),E.N<=1000000->vcW P E x (KQ.dies V) ⟨s,h⟩):dW P f h args V:=by
 refine WG hf hb hc hN ha (λE hE hB hrd=>?_);have hEN:E.N<=1000000:=by rw[hE];exact hN
 have h1:=dN hEN x (hp E hEN);rw[hB]at h1;exact oy s hs h1
def retCC (o p:Option AV) (R:HP->AV->List AV->Prop) (h:HP) (as:List AV):Prop:=
 match o,p with
 | some x,some y=>R h (.ab [x,y]) as
 | _,_=>False
theorem UN {x y:AV} {R:HP->AV->List AV->Prop} {h:HP} {as:List AV}:retCC (some x) (some y) R h as=R h (.ab [x,y]) as:=(rfl)
theorem PM {m n t u k:Nat} {ag bg:Bool} {R:HP->AV->List AV->Prop} {st:St}:(KQ.post [.cell t ag n,.cell u bg k] m R).ap .ret st=retCC (resC st ag n (sget st.s t)) (resC st bg k (sget st.s u)) R st.h (argsAgain st 0 m):=by
 simp only[KQ.post,postQ,resOf,resAV];cases resC st ag n (sget st.s t)<;>cases resC st bg k (sget st.s u)<;>simp[consO,retCC]
def retC (o:Option AV) (ys:List AV) (R:HP->AV->List AV->Prop) (h:HP) (as:List AV):Prop:=
 match o,ys with
 | some x,[]=>R h x as
 | some x,ys=>R h (.ab (x::ys)) as
 | none,_=>False
theorem Ms:ghost []=[]:=(rfl)
theorem Mr {k:Nat} {v:AV} {r:List (Nat×AV)}:ghost ((k,v)::r)=(3000000+k,v)::ghost r:=(rfl)
theorem UO {x:AV} {R:HP->AV->List AV->Prop} {h:HP} {as:List AV}:retC (some x) [] R h as=R h x as:=(rfl)
theorem UP {x y:AV} {R:HP->AV->List AV->Prop} {h:HP} {as:List AV}:retC (some x) [y] R h as=R h (.ab [x,y]) as:=(rfl)
theorem PK {m n t:Nat} {ag:Bool} {R:HP->AV->List AV->Prop} {st:St}:(KQ.post [.cell t ag n] m R).ap .ret st=retC (resC st ag n (sget st.s t)) [] R st.h (argsAgain st 0 m):=by
 simp only[KQ.post,postQ,resOf,resAV];cases resC st ag n (sget st.s t)<;>simp[consO,retC]
theorem PL {m n t u:Nat} {ag:Bool} {R:HP->AV->List AV->Prop} {st:St} (hu:u<2000000):(KQ.post [.cell t ag n,.tmp u] m R).ap .ret st=retC (resC st ag n (sget st.s t)) [ev st (.t u)] R st.h (argsAgain st 0 m):=by
 simp only[KQ.post,postQ,resOf,resAV];cases resC st ag n (sget st.s t)<;>simp[consO,retC,trE,hu]
theorem UF {st:St} {ag:Bool} {n id f:Nat}:resC st ag n (some (.aa id f))=resW ag n f (hget st.h id):=(rfl)
theorem UK {ag:Bool} {n f:Nat} {cs:List AV}:resW ag n f (some (.var cs))=ldO ag n (cs.drop f):=(rfl)
theorem Qp {n:Nat} {cs:List AV} (h:n<=cs.length):ldO true n cs=some (.agg (cs.take n)):=by simp[ldO,h]
theorem Qo {n:Nat} {c:AV} {cs:List AV}:ldO false n (c::cs)=some c:=(rfl)
def sY (b:Bool) (id' i:Nat):Nat:=match b with
 | true=>id'
 | false=>i
theorem U5 {id id' i:Nat}:rn id id' i=sY (i==id) id' i:=by unfold rn sY;cases i==id<;>rfl
theorem U4 {id' i:Nat}:sY true id' i=id':=(rfl)
theorem U3 {id' i:Nat}:sY false id' i=i:=(rfl)
def th (b:Bool) (v:AV) (r:List (Nat×AV)) (i:Nat):Option AV:=bif b then some v else sget r i
theorem V4 {i:Nat}:sget [] i=none:=(rfl)
theorem V3 {k i:Nat} {v:AV} {r:List (Nat×AV)}:sget ((k,v)::r) i=th (i==k) v r i:=by
 simp only[sget,th,cond_eq_ite,beq_iff_eq]
theorem V0 {v:AV} {r:List (Nat×AV)} {i:Nat}:th true v r i=some v:=(rfl)
theorem VZ {v:AV} {r:List (Nat×AV)} {i:Nat}:th false v r i=sget r i:=(rfl)
def rO (b:Bool) (v:aC) (r:HP) (i:Nat):Option aC:=bif b then some v else hget r i
theorem Nb {i:Nat}:hget [] i=none:=(rfl)
theorem Na {k i:Nat} {v:aC} {r:HP}:hget ((k,v)::r) i=rO (i==k) v r i:=by
 simp only[hget,rO,cond_eq_ite,beq_iff_eq]
theorem M9 {v:aC} {r:HP} {i:Nat}:rO true v r i=some v:=(rfl)
theorem M8 {v:aC} {r:HP} {i:Nat}:rO false v r i=hget r i:=(rfl)
def rN (b:Bool) (k:Nat) (v:aC) (r:HP) (i:Nat):HP:=bif b then hdel i r else(k,v)::hdel i r
theorem M0 {i:Nat}:hdel i []=[]:=(rfl)
theorem MZ {k i:Nat} {v:aC} {r:HP}:hdel i ((k,v)::r)=rN (i==k) k v r i:=by
 simp only[hdel,rN,cond_eq_ite,beq_iff_eq]
theorem MY {k:Nat} {v:aC} {r:HP} {i:Nat}:rN true k v r i=hdel i r:=(rfl)
theorem MX {k:Nat} {v:aC} {r:HP} {i:Nat}:rN false k v r i=(k,v)::hdel i r:=(rfl)
theorem Np {h:HP} {id:Nat} {W:aC}:bn h id W=(id,W)::hdel id h:=(rfl)
def sj (b:Bool) (i:Nat) (r:List Nat):Bool:=bif b then true else memN i r
theorem Q3 {i:Nat}:memN i []=false:=(rfl)
theorem Q2 {i k:Nat} {r:List Nat}:memN i (k::r)=sj (i==k) i r:=by
 simp only[memN,sj,cond_eq_ite,beq_iff_eq]
theorem Q1 {i:Nat} {r:List Nat}:sj true i r=true:=(rfl)
theorem Q0 {i:Nat} {r:List Nat}:sj false i r=memN i r:=(rfl)
def rp (b:Bool) (k:Nat) (W:aC) (ids keep:List Nat) (r:HP):HP:=bif b then dropH ids keep r else(k,ki ids keep W)::dropH ids keep r
theorem Kj {ids keep:List Nat}:dropH ids keep []=[]:=(rfl)
theorem Ki {ids keep:List Nat} {k:Nat} {W:aC} {r:HP}:dropH ids keep ((k,W)::r)=rp (memN k ids) k W ids keep r:=by
 simp only[dropH,rp,cond_eq_ite]
theorem Kh {ids keep:List Nat} {k:Nat} {W:aC} {r:HP}:rp true k W ids keep r=dropH ids keep r:=(rfl)
theorem Kg {ids keep:List Nat} {k:Nat} {W:aC} {r:HP}:rp false k W ids keep r=(k,ki ids keep W)::dropH ids keep r:=(rfl)
theorem Pc {id:Nat}:killS id []=[]:=(rfl)
theorem Pb {id k:Nat} {v:AV} {r:List (Nat×AV)}:killS id ((k,v)::r)=(k,kill id v)::killS id r:=(rfl)
theorem O8 {id:Nat}:fq id []=[]:=(rfl)
theorem O7 {id k:Nat} {v:aC} {r:HP}:fq id ((k,v)::r)=(k,kZ id v)::fq id r:=(rfl)
theorem Pa {ids keep:List Nat}:killSI ids keep []=[]:=(rfl)
theorem O9 {ids keep:List Nat} {k:Nat} {v:AV} {r:List (Nat×AV)}:killSI ids keep ((k,v)::r)=(k,kI ids keep v)::killSI ids keep r:=(rfl)
theorem Me {id sz:Nat} {es:List AV}:frzS id sz es []=[]:=(rfl)
theorem Md {id sz k:Nat} {es:List AV} {v:AV} {r:List (Nat×AV)}:frzS id sz es ((k,v)::r)=(k,bo id sz es v)::frzS id sz es r:=(rfl)
theorem L9 {id sz:Nat} {es:List AV}:frzH id sz es []=[]:=(rfl)
theorem L8 {id sz k:Nat} {es:List AV} {v:aC} {r:HP}:frzH id sz es ((k,v)::r)=(k,l3 id sz es v)::frzH id sz es r:=(rfl)
def frzO (st:St) (id:Nat) (o:Option aC):St:=
 match o with
 | some (.arr sz es)=>⟨frzS id sz es st.s,frzH id sz es (hdel id st.h)⟩
 | _=>st
theorem L3 {st:St} {id:Nat}:freeze st id=frzO st id (hget st.h id):=by
 unfold freeze frzO;split<;>simp_all
theorem Mc {st:St} {id sz:Nat} {es:List AV}:frzO st id (some (.arr sz es))=⟨frzS id sz es st.s,frzH id sz es (hdel id st.h)⟩:=(rfl)
def uI (b:Bool) (Q:KQ) (j:Nat) (st:St):Prop:=match b with
 | true=>Q.ap .normal st
 | false=>Q.ap (.exit j) st
theorem Po {Q:KQ} {i j:Nat} {st:St}:(KQ.dk i Q).ap (.exit j) st=uI (j==i) Q j st:=by
 rw[Pt];by_cases h:j=i
 ·subst h;rw[if_pos rfl,show(j==j)=true by simp];rfl
 ·rw[if_neg h,show(j==i)=false by simp[h]];rfl
theorem HC {Q:KQ} {j:Nat} {st:St}:uI true Q j st=Q.ap .normal st:=(rfl)
theorem Hz {Q:KQ} {j:Nat} {st:St}:uI false Q j st=Q.ap (.exit j) st:=(rfl)
abbrev ints (xs:List Int):List AV:=xs.map (AV.int .i64)
theorem N6 (xs:List Int):ints xs=xs.map (AV.int .i64):=(rfl)
theorem R6 {f:Int->AV} {xs:List Int} {i:Nat} (h:i<xs.length):nth (xs.map f) i=f (xs.getD i 0):=by
 simp[nth,ZH,h]
theorem R4 {f:UInt8->AV} {xs:List UInt8} {i:Nat} (h:i<xs.length):nth (xs.map f) i=f (xs.getD i 0):=by
 simp[nth,ZH,h]
theorem R7 {α:Type} {f:List α->AV} {xs:List (List α)} {i:Nat} (h:i<xs.length):nth (xs.map f) i=f (xs.getD i []):=by
 simp[nth,ZH,h]
theorem R5 {α:Type} [Inhabited α] {f:α->AV} {xs:List α} {i:Nat} (h:i<xs.length):nth (xs.map f) i=f (xs.getD i default):=by
 simp[nth,ZH,h]
theorem Xq {α:Type} {f:α->AV} {xs:List α} {o n:Nat}:az (xs.map f) o n=((xs.drop o).take n).map f:=by
 simp[az]
theorem Xs {x:AV} {r:List AV} {o n:Nat}:az (x::r) (o+1) n=az r o n:=by simp[az]
theorem Xp {x:AV} {r:List AV} {n:Nat}:az (x::r) 0 (n+1)=x::az r 0 n:=by simp[az]
theorem Xt {r:List AV}:az r 0 0=[]:=by simp[az]
theorem Xr {o n:Nat}:az [] o n=[]:=by simp[az]
theorem tI {α:Type} {xs:List α} {n:Nat} (h:xs.length<=n):xs.take n=xs:=ZK h
theorem Kk {α:Type} {xs:List α} {n:Nat} (h:xs.length<=n):xs.drop n=[]:=ab9 h
theorem VX {α:Type} {f:α->AV} {xs:List α} {i:Nat} {y:α}:(xs.map f).set i (f y)=(xs.set i y).map f:=by rw[acr]
theorem Gi {α:Type} {f:α->AV} {xs:List α} {y:α}:xs.map f++[f y]=(xs++[y]).map f:=by simp
theorem Gm {α:Type} {f:α->AV} {xs ys:List α}:xs.map f++ys.map f=(xs++ys).map f:=by simp
theorem IL {k:IntKind} {xs:List Int}:(xs.map (AV.int k)).all aD=true:=by simp[aD,cellsOf,isCell]
theorem LD {k:IntKind} {xs:List Int}:(xs.map (AV.int k)).all flA=true:=by simp[flA,flC]
theorem LC {xs:List UInt8}:(xs.map ub).all flA=true:=by simp[flA,flC,ub]
theorem LF {xs:List (List UInt8)}:(xs.map AV.str).all flA=true:=by simp[flA,flC]
theorem IJ {xs:List UInt8}:(xs.map ub).all aD=true:=by simp[aD,cellsOf,isCell,ub]
theorem IQ {xs:List (List UInt8)}:(xs.map AV.str).all aD=true:=by simp[aD,cellsOf,isCell]
theorem IP {α:Type} {sz:Nat} {f:α->List AV} {xs:List α}:(xs.map λx=>AV.ro sz (f x)).all aD=true:=by simp[aD,cellsOf,isCell]
def tg (b:Bool) (e v:AV):AV:=
 match b with
 | true=>v
 | false=>.agg (bR (cellsOf e) 0 (cellsOf v))
theorem VV {e v:AV}:jk e 0 v=tg ((cellsOf v).length==(cellsOf e).length) e v:=by
 unfold jk tg;by_cases h:(cellsOf v).length=(cellsOf e).length
 ·rw[if_pos ⟨rfl,h⟩,show((cellsOf v).length==(cellsOf e).length)=true by simp[h]]
 ·rw[if_neg (λx=>h x.2),show((cellsOf v).length==(cellsOf e).length)=false by simp[h]]
theorem VS {e v:AV}:tg true e v=v:=(rfl)
theorem VR {e v:AV}:tg false e v=.agg (bR (cellsOf e) 0 (cellsOf v)):=(rfl)
theorem VU {e v:AV} {f:Nat} (h:f≠0):jk e f v=.agg (bR (cellsOf e) f (cellsOf v)):=by
 unfold jk;rw[if_neg (λx=>h x.1)]
theorem X9 (b:UInt8):ub b=.int .u8 b.toNat:=(rfl)
theorem IG:cellsOf AV.undef=[AV.undef]:=(rfl)
theorem Iu (b:Bool):cellsOf (.bool b)=[.bool b]:=(rfl)
theorem Iy (k:IntKind) (n:Int):cellsOf (.int k n)=[.int k n]:=(rfl)
theorem Ix (k:FloatKind) (n:Nat):cellsOf (.fl k n)=[.fl k n]:=(rfl)
theorem Iv (k:FloatKind) (a b:Nat):cellsOf (.cx k a b)=[.cx k a b]:=(rfl)
theorem IE (l:List UInt8):cellsOf (.str l)=[.str l]:=(rfl)
theorem Iz (x:Value):cellsOf (.lit x)=[.lit x]:=(rfl)
theorem IC (sz:Nat) (es:List AV):cellsOf (.ro sz es)=[.ro sz es]:=(rfl)
theorem Iw (x:AV):cellsOf (.ao x)=[.ao x]:=(rfl)
theorem ID (i o n:Nat):cellsOf (.sl i o n)=[.sl i o n]:=(rfl)
theorem IB (i j f:Nat):cellsOf (.ptr i j f)=[.ptr i j f]:=(rfl)
theorem IH (i f:Nat):cellsOf (.aa i f)=[.aa i f]:=(rfl)
theorem IA:cellsOf .aj=[.aj]:=(rfl)
theorem It (cs:List AV):cellsOf (.agg cs)=cs:=(rfl)
theorem VW {α:Type} (xs:List α) (a b:α):(xs++[a]).set xs.length b=xs++[b]:=by simp
theorem TH {a b:Bool}:(if a=true then true else b)=(a||b):=by cases a<;>rfl
theorem TF {a b:Bool}:(if a=true then b else false)=(a&&b):=by cases a<;>rfl
theorem TI {p:Prop} [Decidable p] {b:Bool}:(if p then true else b)=(decide p||b):=by by_cases h:p<;>simp[h]
theorem TG {p:Prop} [Decidable p] {b:Bool}:(if p then b else false)=(decide p&&b):=by by_cases h:p<;>simp[h]
theorem JX {b:Bool}:decide (b=true)=b:=by cases b<;>rfl
theorem N5 {a b:Int} (h:a=b):(a=b)=True:=eq_true h
theorem Rz {a b:Nat} (h:a=b):(a=b)=True:=eq_true h
theorem J1 {p q:Prop} [Decidable p] [Decidable q]:(decide p||decide q)=decide (p\/q):=by simp
theorem JW {p q:Prop} [Decidable p] [Decidable q]:(decide p&&decide q)=decide (p/\q):=by simp
theorem J0 {p:Prop} [Decidable p]:(!decide p)=decide (¬p):=by simp
theorem Hq {a b:List UInt8}:(a==b)=decide (a=b):=by
 by_cases h:a=b<;>simp[h]
theorem Hr {a:Bool}:(a==false)=!a:=by cases a<;>rfl
theorem Hs {a:Bool}:(a==true)=a:=by cases a<;>rfl
theorem EH {n:Int} (h:0<=n/\n<=255):ub (UInt8.ofNat n.toNat)=.int .u8 n:=by
 simp only[ub,aaF]
 congr 1
 omega
theorem VY {xs:List UInt8} {i:Nat} {n:Int} (h:0<=n/\n<=255):(xs.map ub).set i (.int .u8 n)=(xs.set i (UInt8.ofNat n.toNat)).map ub:=by
 rw[<-EH h,acr]
theorem Gp {xs:List UInt8} {n:Int} (h:0<=n/\n<=255):xs.map ub++[.int .u8 n]=(xs++[UInt8.ofNat n.toNat]).map ub:=by
 rw[<-EH h];simp
theorem Ih {xs:List UInt8}:bytesOf (xs.map ub)=xs:=by
 simp only[bytesOf,aaK]
 conv=>rhs;rw[<-List.map_id xs]
 refine List.map_congr_left λx _=>?_;simp[byteOfAV,ub]
theorem FI {xs:List UInt8}:ib (xs.map ub)=true:=by simp[ib,ke,ub]
theorem Rv {a b:Int}:(if b > a then b else a)=max a b:=ZG
theorem Rm {a b:Int}:(if b<a then b else a)=min a b:=ZG
theorem XN {k:Nat}:((k:Int)-1).toNat=k-1:=ZG
theorem XM {k:Nat}:((k:Int)+1).toNat=k+1:=ZG
theorem toNat_add {k m:Nat}:((k:Int)+(m:Int)).toNat=k+m:=ZG
theorem toNat_sub {k m:Nat}:((k:Int)-(m:Int)).toNat=k-m:=ZG
theorem K6 (st:St):evL st []=[]/\(∀x r,evL st (x::r)=ev st x::evL st r):=⟨rfl,λ_ _=>rfl⟩
theorem HU (h:HP):borL h []=[]/\(∀x r,borL h (x::r)=borrow h x::borL h r):=⟨rfl,λ_ _=>rfl⟩
theorem HV (h0 h:HP):lQ h0 h []=[]/\(∀x r,lQ h0 h (x::r)=bor h0 h x::lQ h0 h r):=⟨rfl,λ_ _=>rfl⟩
theorem WW:mv []=[]/\(∀x r,mv (x::r)=stripV x::mv r):=⟨rfl,λ_ _=>rfl⟩
theorem FJ:mP []=True/\(∀x r,mP (x::r)=(aq true x/\mP r)):=⟨rfl,λ_ _=>rfl⟩
theorem Gt (st:St) (k:Nat):argsAgain st k 0=[]/\(∀n,argsAgain st k (n+1)=(sget st.s (2000000+k)).getD .undef::argsAgain st (k+1) n):=⟨rfl,λ_=>rfl⟩
theorem eF {n:Int} (h:-9223372036854775808<=n/\n<=9223372036854775807):IntKind.i64.wrap n=n:=IntWalk.i64_in n h
theorem J2 {p:Prop} [Decidable p] (h:p):decide p=true:=decide_eq_true h
theorem JY {p:Prop} [Decidable p] (h:¬p):decide p=false:=decide_eq_false h
section
variable {P:Program} {st:St} {K:KS} {r:List ROp} {d:Nat} {c:Prop} {v:AV} {γ:Bool}
theorem Yq:valW P (.ok True v) d r st K=aopsW P r ⟨(d,v)::st.s,st.h⟩ K:=by simp only[yb,true_and]
theorem Yp (h:c):valW P (.ok c v) d r st K=aopsW P r ⟨(d,v)::st.s,st.h⟩ K:=by simp only[yb,h,true_and]
theorem KM:nn P (.ok True v st) d r K=aopsW P r ⟨(d,v)::st.s,st.h⟩ K:=by simp only[ve,true_and]
theorem KL (h:c):nn P (.ok c v st) d r K=aopsW P r ⟨(d,v)::st.s,st.h⟩ K:=by simp only[ve,h,true_and]
theorem KF:nk P (.ok True v st) r K=aopsW P r st K:=by simp only[vd,true_and]
theorem KE (h:c):nk P (.ok c v st) r K=aopsW P r st K:=by simp only[vd,h,true_and]
end
theorem Y1 {n:Int} (h:-128<=n/\n<=127):IntKind.i8.wrap n=n:=IntWalk.i8_in n h
theorem Y0 {n:Int} (h:-32768<=n/\n<=32767):IntKind.i16.wrap n=n:=IntWalk.i16_in n h
theorem wrap_i32 {n:Int} (h:-2147483648<=n/\n<=2147483647):IntKind.i32.wrap n=n:=IntWalk.i32_in n h
theorem wrap_u8 {n:Int} (h:0<=n/\n<=255):IntKind.u8.wrap n=n:=IntWalk.u8_in n h
theorem wrap_u16 {n:Int} (h:0<=n/\n<=65535):IntKind.u16.wrap n=n:=IntWalk.u16_in n h
theorem wrap_u32 {n:Int} (h:0<=n/\n<=4294967295):IntKind.u32.wrap n=n:=IntWalk.u32_in n h
theorem wrap_u64 {n:Int} (h:0<=n/\n<=18446744073709551615):IntKind.u64.wrap n=n:=IntWalk.u64_in n h
section
variable {P:Program} {E:Env} {st:St} {Q:KQ} {x y:AK}
theorem rU {p:Prop} [Decidable p] (h1:p->vcW P E x Q st) (h2:¬p->vcW P E y Q st):l9 P E (decide p) x y Q st:=
 ⟨λh=>h1 (of_decide_eq_true h),λh=>h2 (of_decide_eq_false h)⟩
end
attribute [go_sem] P2 Pr PX PC PG Qd Ky Kw Kx Qc Qb Kb Kd Ke TM mO k9 Bi MB Pz Py UN PM Qf Qa P9 Ms Mr UO UP PK PL UF UK Qp Qo P0 Pp PV PB PD PE PA PF PH PJ YA Yz K6 HU HV WW FJ Gt Gf Gg Gh Yo F9 KK Ga KC ux F8 Ge MJ MI MH MF Gd Ml Mk Mj Gb Gc Qe P1 P3 P4 Pq Ps Po HC Hz PW PY PZ YG YD Yy I9 NJ NI X5 X6 X4 X3 QA Qy Qx Qv Qu PO PN PQ PR PS PU OY OX V4 V3 V0 VZ Nb Na M9 M8 Np M0 MZ MY MX Q3 Q2 Q1 Q0 Kj Ki Kh Kg IG Iu Iy Ix Iv IE Iz IC Iw ID IB IH IA It Pc Pb Pa O9 Me Md L9 L8 L3 Mc O8 O7 U5 U4 U3 aaA aav X9 ZZ aap aan Bool.and_true ab0 Bool.and_false Bool.false_and Bool.or_true ab1 Bool.true_or Bool.false_or if_true if_false abu ab4 aah aaC aaa Z6 Z8 aac aaj abk aa9 List.all_nil Z0 aai abw aaX aae aaU decide_true decide_false TH TF TI TG JX N5 Rz J1 JW J0 Hq Hr Hs imp_self implies_true decide_eq_true_eq decide_eq_false_iff_not eq_self Int.natCast_add Int.cast_ofNat_Int aaY aaz Int.add_zero Int.zero_add Bool.and_self acp true_and and_true false_and and_false not_true_eq_false not_false_eq_true Option.some.injEq aC.arr.injEq aC.var.injEq AV.int.injEq AV.bool.injEq AV.str.injEq AV.ro.injEq AV.sl.injEq AV.ao.injEq AV.agg.injEq AV.ab.injEq AV.fl.injEq AV.cx.injEq AV.aa.injEq AV.ptr.injEq List.cons.injEq Prod.mk.injEq false_imp_iff true_imp_iff forall_const Int.toNat_natCast N6 R6 R4 R7 Xq Xr Xs Xp Xt tI Kk List.set_cons_zero List.set_cons_succ XN XM toNat_add toNat_sub Rv Rm VX VY Gp Ih FI VW Gi Gm LD LC LF IL IJ IQ IP Z3 ZJ List.length_set List.length_range aas abx VV VS VR VU
attribute [go_sem high] MG Yq KM KF
attribute [go_sem] Yp KL KE eF Y1 Y0 wrap_i32 wrap_u8 wrap_u16 wrap_u32 wrap_u64 J2 JY
theorem tJ {a b:Int} (h:0<=a):a.tdiv b=a/b:=aaH h
theorem mA {a b:Int} (h:0<=a):a.tmod b=a%b:=aaI h
attribute [go_sem] tJ mA
attribute [go_sem low] R5
attribute [go_sem low] F3 yb ve vd
theorem Lx:(∀{α:Type} (a b:List α),(a++b).length=a.length+b.length)/\(∀{α:Type} (x:α) (a:List α),(x::a).length=a.length+1)/\(∀{α:Type},([]:List α).length=0)/\(∀{α:Type} (a:List α) (i:Nat) (x:α),(a.set i x).length=a.length) /\
    (∀{α β:Type} (f:α->β) (a:List α),(a.map f).length=a.length)/\(∀{α:Type} (i:Nat) (a:List α),(a.take i).length=min i a.length)/\(∀{α:Type} (i:Nat) (a:List α),(a.drop i).length=a.length-i)/\(∀n:Nat,(List.range n).length=n) /\
    (∀{α:Type} (n:Nat) (x:α),(List.replicate n x).length=n)/\(∀{α:Type} (a:List α),a.reverse.length=a.length):=
 ⟨λ_ _=>ZJ,λ_ _=>Z0,aai,λ_ _ _=>List.length_set,λ_ _=>Z3 _,λ_ _=>ZL,λ_ _=>ZN,λ_=>List.length_range,λ_ _=>aas,λ_=>abx⟩
theorem vV {p:Prop} (h:p:=by simp(disch:=first | omega | (simp only[Lx];omega))only[go_sem,simprocAttr]):p:=h
theorem wW {a b:Prop} (k:b) (h:b->a:=by intro h;simp(disch:=first | omega | (simp only[Lx];omega))only[go_sem,simprocAttr];exact h):a:=h k
theorem gG {a b:Prop} (k:b) (h:b->a:=by intro h;(repeat(first | (with_reducible refine cJ ?_) | (with_reducible refine cH ?_) | (with_reducible refine cI ?_))<;>simp(disch:=first | omega | (simp only[Lx];omega))only[go_sem,simprocAttr]);exact h):a:=h k
theorem cU {E0:Prop} {p:Prop} (e0:E0) (h:E0->p:=by intro e0;simp(disch:=first | omega | (simp only[Lx];omega))only[go_sem,simprocAttr,e0]):p:=h e0
theorem ah {E0:Prop} {a b:Prop} (e0:E0) (k:b) (h:E0->b->a:=by intro e0 h;simp(disch:=first | omega | (simp only[Lx];omega))only[go_sem,simprocAttr,e0];exact h):a:=h e0 k
theorem bI {E0:Prop} {a b:Prop} (e0:E0) (k:b) (h:E0->b->a:=by intro e0 h;(repeat(first | (with_reducible refine cJ ?_) | (with_reducible refine cH ?_) | (with_reducible refine cI ?_))<;>simp(disch:=first | omega | (simp only[Lx];omega))only[go_sem,simprocAttr,e0]);exact h):a:=h e0 k
theorem nY {E0 E1:Prop} {p:Prop} (e0:E0) (e1:E1) (h:E0->E1->p:=by intro e0 e1;simp(disch:=first | omega | (simp only[Lx];omega))only[go_sem,simprocAttr,e0,e1]):p:=h e0 e1
theorem aE {E0 E1:Prop} {a b:Prop} (e0:E0) (e1:E1) (k:b) (h:E0->E1->b->a:=by intro e0 e1 h;simp(disch:=first | omega | (simp only[Lx];omega))only[go_sem,simprocAttr,e0,e1];exact h):a:=h e0 e1 k
theorem ee {E0 E1:Prop} {a b:Prop} (e0:E0) (e1:E1) (k:b) (h:E0->E1->b->a:=by intro e0 e1 h;(repeat(first | (with_reducible refine cJ ?_) | (with_reducible refine cH ?_) | (with_reducible refine cI ?_))<;>simp(disch:=first | omega | (simp only[Lx];omega))only[go_sem,simprocAttr,e0,e1]);exact h):a:=h e0 e1 k
theorem tR {E0 E1 E2:Prop} {p:Prop} (e0:E0) (e1:E1) (e2:E2) (h:E0->E1->E2->p:=by intro e0 e1 e2;simp(disch:=first | omega | (simp only[Lx];omega))only[go_sem,simprocAttr,e0,e1,e2]):p:=h e0 e1 e2
theorem bU {E0 E1 E2:Prop} {a b:Prop} (e0:E0) (e1:E1) (e2:E2) (k:b) (h:E0->E1->E2->b->a:=by intro e0 e1 e2 h;simp(disch:=first | omega | (simp only[Lx];omega))only[go_sem,simprocAttr,e0,e1,e2];exact h):a:=h e0 e1 e2 k
theorem iY {E0 E1 E2:Prop} {a b:Prop} (e0:E0) (e1:E1) (e2:E2) (k:b) (h:E0->E1->E2->b->a:=by intro e0 e1 e2 h;(repeat(first | (with_reducible refine cJ ?_) | (with_reducible refine cH ?_) | (with_reducible refine cI ?_))<;>simp(disch:=first | omega | (simp only[Lx];omega))only[go_sem,simprocAttr,e0,e1,e2]);exact h):a:=h e0 e1 e2 k
theorem cq {E0 E1 E2 E3:Prop} {a b:Prop} (e0:E0) (e1:E1) (e2:E2) (e3:E3) (k:b) (h:E0->E1->E2->E3->b->a:=by intro e0 e1 e2 e3 h;simp(disch:=first | omega | (simp only[Lx];omega))only[go_sem,simprocAttr,e0,e1,e2,e3];exact h):a:=h e0 e1 e2 e3 k
theorem kX {E0 E1 E2 E3:Prop} {a b:Prop} (e0:E0) (e1:E1) (e2:E2) (e3:E3) (k:b) (h:E0->E1->E2->E3->b->a:=by intro e0 e1 e2 e3 h;(repeat(first | (with_reducible refine cJ ?_) | (with_reducible refine cH ?_) | (with_reducible refine cI ?_))<;>simp(disch:=first | omega | (simp only[Lx];omega))only[go_sem,simprocAttr,e0,e1,e2,e3]);exact h):a:=h e0 e1 e2 e3 k
theorem cM {E0 E1 E2 E3 E4:Prop} {a b:Prop} (e0:E0) (e1:E1) (e2:E2) (e3:E3) (e4:E4) (k:b) (h:E0->E1->E2->E3->E4->b->a:=by intro e0 e1 e2 e3 e4 h;simp(disch:=first | omega | (simp only[Lx];omega))only[go_sem,simprocAttr,e0,e1,e2,e3,e4];exact h):a:=h e0 e1 e2 e3 e4 k
theorem l4 {E0 E1 E2 E3 E4:Prop} {a b:Prop} (e0:E0) (e1:E1) (e2:E2) (e3:E3) (e4:E4) (k:b) (h:E0->E1->E2->E3->E4->b->a:=by intro e0 e1 e2 e3 e4 h;(repeat(first | (with_reducible refine cJ ?_) | (with_reducible refine cH ?_) | (with_reducible refine cI ?_))<;>simp(disch:=first | omega | (simp only[Lx];omega))only[go_sem,simprocAttr,e0,e1,e2,e3,e4]);exact h):a:=h e0 e1 e2 e3 e4 k
theorem kH {E0 E1 E2 E3 E4 E5:Prop} {a b:Prop} (e0:E0) (e1:E1) (e2:E2) (e3:E3) (e4:E4) (e5:E5) (k:b) (h:E0->E1->E2->E3->E4->E5->b->a:=by intro e0 e1 e2 e3 e4 e5 h;simp(disch:=first | omega | (simp only[Lx];omega))only[go_sem,simprocAttr,e0,e1,e2,e3,e4,e5];exact h):a:=h e0 e1 e2 e3 e4 e5 k
inductive kK:AV->AV->Prop where
 | refl (a:AV):kK a a
 | nil (sz:Nat):kK .aj (.ro sz [])
inductive eP:List AV->List AV->Prop where
 | nil:eP [] []
 | cons {a b:AV} {as bs:List AV} (h:kK a b) (hs:eP as bs):eP (a::as) (b::bs)
inductive lH:AV->AV->Prop where
 | one {a b:AV} (h:kK a b):lH a b
 | ro {sz:Nat} {as bs:List AV} (h:eP as bs):lH (.ro sz as) (.ro sz bs)
 | agg {as bs:List AV} (h:eP as bs):lH (.agg as) (.agg bs)
inductive mH:List AV->List AV->Prop where
 | nil:mH [] []
 | cons {a b:AV} {as bs:List AV} (h:lH a b) (hs:mH as bs):mH (a::as) (b::bs)
theorem eP.refl:∀l:List AV,eP l l
 | []=>.nil
 | x::r=>.cons (.refl x) (eP.refl r)
theorem Am {a b:AV} (h:kK a b):eP (cellsOf a) (cellsOf b):=by
 cases h with
 | refl=>exact eP.refl _
 | nil sz=>exact .cons (.nil sz) .nil
theorem KP {a b c d:List AV} (h:eP a b) (k:eP c d):eP (a++c) (b++d):=by
 induction h with
 | nil=>exact k
 | cons h _ ih=>exact .cons h ih
theorem Ao {as bs:List AV} (h:eP as bs):eP (flat as) (flat bs):=by
 induction h with
 | nil=>exact .nil
 | cons h _ ih=>
  simp only[flat,List.flatMap_cons];exact KP (Am h) ih
theorem o0 {as bs:List AV} (h:eP as bs):as.length=bs.length:=by
 induction h with
 | nil=>rfl
 | cons h _ ih=>simp[ih]
theorem vf {as bs:List AV} (h:eP as bs):∀(j:Nat) (b:AV),bs[j]?=some b->∃a,as[j]?=some a/\kK a b:=by
 induction h with
 | nil=>intro j b hb;simp at hb
 | cons h _ ih=>
  intro j b hb
  cases j with
  | zero=>simp at hb;subst hb;exact⟨_,rfl,h⟩
  | succ j=>exact ih j b (by simpa using hb)
theorem KR {as bs:List AV} (h:eP as bs):∀b∈bs,∃a∈as,kK a b:=by
 intro b hb;obtain⟨j,hj⟩:=List.mem_iff_getElem?.1 hb;obtain⟨a,h1,h2⟩:=vf h j b hj;exact⟨a,ZX h1,h2⟩
theorem RV.rr {X:Nat->Prop} {w:World} {ρ:Loc} {v:Value} {a b:AV} (h:RV X w ρ v a) (k:kK a b):RV X w ρ v b:=by
 cases k with
 | refl=>exact h
 | nil sz=>cases h;exact .ro ρ none 0 sz [] [] (ZM _) (λe he=>by cases he) rfl (λj hj=>by simp at hj) (λj v a h1 _=>by simp at h1)
theorem RV.FH {X:Nat->Prop} {w:World} {ρ:Loc} {v:Value} {a b:AV} (h:RV X w ρ v a) (k:lH a b):RV X w ρ v b:=by
 cases k with
 | one k=>exact h.rr k
 | ro k=>
  cases h with
  | ro _ A c sz es vs hc au hlen hcell hrel=>
   rw[o0 k];refine .ro ρ A c _ _ vs (by rw[<-o0 k];exact hc) (λe he=>?_) (by rw[hlen,o0 (Ao k)]) hcell (λj v b h1 h2=>?_)
   ·obtain⟨a,ha,hab⟩:=KR k e he;rw[<-o0 (Am hab)];exact au a ha
   ·obtain⟨a,h3,h4⟩:=vf (Ao k) j b h2
    exact(hrel j v a h1 h3).rr h4
 | agg k=>
  cases h with
  | agg _ vs _ hlen hrel=>
   refine .agg ρ vs _ (by rw[hlen,o0 k]) (λj v b h1 h2=>?_);obtain⟨a,h3,h4⟩:=vf k j b h2;exact(hrel j v a h1 h3).rr h4
theorem FM {as bs:List AV} (h:mH as bs):as.length=bs.length/\∀(j:Nat) (a:AV),as[j]?=some a->∃b,bs[j]?=some b/\lH a b:=by
 induction h with
 | nil=>exact⟨rfl,λj b hb=>by simp at hb⟩
 | cons h _ ih=>
  refine⟨by simp[ih.1],λj b hb=>?_⟩
  cases j with
  | zero=>simp at hb;subst hb;exact⟨_,rfl,h⟩
  | succ j=>exact ih.2 j b (by simpa using hb)
theorem FP {as bs:List AV} (h:mH as bs):∀(j:Nat) (b:AV),bs[j]?=some b->∃a,as[j]?=some a/\lH a b:=by
 induction h with
 | nil=>intro j b hb;simp at hb
 | cons h _ ih=>
  intro j b hb
  cases j with
  | zero=>simp at hb;subst hb;exact⟨_,rfl,h⟩
  | succ j=>exact ih j b (by simpa using hb)
theorem Ec {P:Program} {f:Nat} {h:HP} {as bs:List AV} {Post:HP->AV->List AV->Prop} (k:mH as bs) (hs:Spec P f h bs Post):Spec P f h as Post:=by
 intro X0 ρ w vs h1 hA h2 h3 h4;have hl:=(FM k).1;rw[hl]
 exact hs X0 ρ w vs h1 hA h2 (by rw[h3,hl]) (λj v b e1 e2=>by
  obtain⟨a,e3,e4⟩:=FP k j b e2
  exact(h4 j v a e1 e3).FH e4)
def yN:AE->Bool
 | .t _=>true
 | .c v=>flA v
theorem Fp {P:Program} {q:Bool} {st st':St} {f:Nat} {args:List AE} {K:AV->St->Prop} (hw:Wk st st') (hc:args.all yN=true) (h:ff P q st' f args K):ff P q st f args K:=by
 intro E ρ a w vs hr au hrv;obtain⟨ρ',hr'⟩:=jr hw hr;refine h E ρ' a w vs hr' au (λj v x e1 e2=>⟨?_,(hrv j v x e1 e2).2⟩);obtain⟨g1,g2⟩:=hrv j v x e1 e2
 cases x with
 | t k=>
  obtain⟨g3,g4⟩:=g2 k rfl;have:=aX hr' (.tmp k);simp only[trE,g3,if_true]at this;rw[g4]
  exact this
 | c c=>
  have:=ZR.1 hc _ (ZX e2);exact RV.flA (show RV _ w ρ v c from g1) this
theorem lS {P:Program} {q:Bool} {st:St} {f:Nat} {args:List AE} {as:List AV} {d:Option Nat} {r:List ROp} {K:KS} (st':St) (hw:Wk st st') (hc:args.all yN=true) (h:gP P q st' f args (evL st' args) d r K):gP P q st f args as d r K:=by
 rintro rfl;exact Fp hw hc (h (iU st' args))
end Go.Proofs.YtkdjbebgdoohjaaGreatDoor.Eng
namespace Go.Proofs.YtkdjbebgdoohjaaGreatDoor.Eng
def jv (P:Program) (f n:Nat) (h:HP) (args:List AV) (Post:HP->AV->List AV->Prop):Prop:=
 ∀(X0:Nat->Prop) (ρ:Loc) (w:World) (vs:Array Value),cA X0 ρ h w->ju (aF ρ h) w->(∀b,X0 b->b<w.heap.size)->vs.size=args.length ->
  (∀(j:Nat) v x,vs[j]?=some v->args[j]?=some x->RV (XX X0 ρ h) w ρ v x) ->
  Calls P f (vs.extract 0 n) w λe w'=>∃v h' r ρ' as,e=.returned v/\Post h' r as/\cA X0 ρ' h' w'/\RV (XX X0 ρ' h') w' ρ' v r /\
   as.length=args.length/\(∀(j:Nat) v x,vs[j]?=some v->as[j]?=some x->RV (XX X0 ρ' h') w' ρ' v x) /\
   w'.os=w.os/\w'.tape=w.tape/\w'.output=w.output/\w.heap.size<=w'.heap.size/\(∀b,b<w.heap.size->¬aF ρ h b->w'.heap[b]?=w.heap[b]?) /\
   (∀b,aF ρ' h' b->w.heap.size<=b\/aF ρ h b)
def tx (n:Nat) (args:List AV):List (Nat×AV):=numbered 0 (args.take n)++numbered 2000000 args
theorem WB {P:Program} {f:Nat} {fn:Func} {body:Code} {h:HP} {args:List AV} {Post:HP->AV->List AV->Prop} {c:AC} (hf:P.funcs[f]?=some fn) (hb:fn.body=some body) {B n:Nat} (hc:trCode P fn.ntmps B body=c)
    (hN:fn.ntmps<=1000000) (hn:n<=args.length) (ha:n<=fn.ntmps) (hp:∀E:Env,E.N=fn.ntmps->E.B=B->E.rd=none->bc P E c ⟨tx n args,h⟩ (postQ (fn.results.toList.map (trRes P)) args.length Post)):jv P f n h args Post:=by
 intro X0 ρ w vs hh hA hX hvs hrv
 let E:Env:=⟨w,aF ρ h,X0,fn.ntmps,B,λk=>vs.getD (k-2000000) undef,none,w.heap.size,ZM _,[]⟩
 refine(callsIn_wide (n:=0)).1 (callsIn_of_wp_marks hf hb trivial (wpIn_mono (hp E rfl rfl rfl 0 body hc _ w ⟨ρ,?_⟩) ?_))
 ·have hex:∀k,k<n->(vs.extract 0 n)[k]?=vs[k]?:=λk hk=>by
   rw[Array.getElem?_extract];simp;omega
  refine⟨fD.nil _ _,by simp[E];omega,λk av hk=>?_,hh,λid W L b h1 h2 h3=>.inr ⟨id,W,L,h1,h2,h3⟩,⟨rfl,rfl,rfl,ZM _,λ_ _ _=>rfl,hA⟩,hX⟩;simp only[tx,jP]at hk
  cases h0:sget (numbered 0 (args.take n)) k with
  | some av0=>
   rw[h0]at hk;obtain rfl:=Option.some.inj hk;obtain⟨_,h2⟩:=jQ (args.take n) 0 k _ h0
   have hlt:k<n:=by
    have:=(List.getElem?_eq_some_iff.1 h2).1;simp at this;omega
   have h2:args[k]?=some av0:=by
    rw[acp,List.getElem?_take_of_lt hlt]at h2;exact h2
   have hlt2:k<E.N:=by simp only[E];omega
   refine⟨.inl hlt2,?_⟩;have hv:vs[k]?=some (vs[k]' ZG):=Array.getElem?_eq_getElem _;unfold aO;rw[if_pos hlt2,ZP,Array.getElem?_append_left (by simp;omega),hex k hlt,hv]
   exact hrv k _ _ hv h2
  | none=>
   rw[h0]at hk;obtain⟨h1,h2⟩:=jQ args 2000000 k av hk;have hlt:k-2000000<args.length:=(List.getElem?_eq_some_iff.1 h2).1;refine⟨.inr h1,?_⟩;have hv:vs[k-2000000]?=some (vs[k-2000000]' ZG):=Array.getElem?_eq_getElem _;unfold aO;rw[if_neg (by simp only[E];omega)];simp only[E,ZP,hv];exact hrv _ _ av hv h2
 ·rintro e a' w' ⟨st',⟨ρ',g0⟩,q⟩
  have fin:∀r,resOf st' (fn.results.toList.map (trRes P))=some r->Post st'.h r (argsAgain st' 0 args.length)->bodyPostM Fence.wide 0 P fn (λe w'=>∃v h' r ρ' as,e=.returned v/\Post h' r as/\cA X0 ρ' h' w'/\RV (XX X0 ρ' h') w' ρ' v r /\
   as.length=args.length/\(∀(j:Nat) v x,vs[j]?=some v->as[j]?=some x->RV (XX X0 ρ' h') w' ρ' v x) /\
   w'.os=w.os/\w'.tape=w.tape/\w'.output=w.output/\w.heap.size<=w'.heap.size/\(∀b,b<w.heap.size->¬aF ρ h b->w'.heap[b]?=w.heap[b]?) /\
   (∀b,aF ρ' h' b->w.heap.size<=b\/aF ρ h b)) .ret a' w':=by
   intro r hr hP;obtain⟨⟨Ds,hDs⟩,_⟩:=g0.defers
   show LeavesInM Fence.wide 0 P fn a'.tmps _ a'.defers .returning w'
   rw[hDs];refine je (E:=E) (ρ:=ρ') (st:=st') (a:=a') (by simp) (λw' g=>?_) rfl rfl Ds w' (by rw[<-hDs];exact g0);obtain⟨v,g1,g2⟩:=sW (P:=P) g hr;refine⟨v,g1,v,st'.h,r,ρ',_,rfl,hP,g.heap,g2,lN _ _ _,λj v x e1 e2=>?_,g.ai.os,g.ai.tape,g.ai.output,g.ai.size,g.ai.block,λb ⟨id,W,L,h1,h2,h3⟩=>g.base id W L b h1 h2 h3⟩;have:=ow st' _ _ j x e2;rw[aaY]at this
   cases hs:sget st'.s (2000000+j)with
   | none=>rw[hs]at this;subst this;exact .undef _ _
   | some av=>
    rw[hs]at this;obtain rfl:x=av:=this;have hr2:=(g.aM _ _ hs).2;unfold aO at hr2;rw[if_neg (by simp only[E];omega)]at hr2;simp only[E,aau,ZP,e1]at hr2;exact hr2
  cases e with
  | normal=>obtain⟨r,hr,hP⟩:=q;exact fin r hr hP
  | ret=>obtain⟨r,hr,hP⟩:=q;exact fin r hr hP
  | exit id=>exact q.elim
  | goto l=>exact q.elim
  | panic ch=>exact q.elim
  | outgrown=>exact q.elim
theorem WC {P:Program} {f n:Nat} {h:HP} {args:List AV} {Post:HP->AV->List AV->Prop}
    (hs:jv P f n h args (λh' r as=>∃h2 r2 as2,as2.length=as.length/\Wk ⟨(0,r)::numbered 1 as,h'⟩ ⟨(0,r2)::numbered 1 as2,h2⟩/\Post h2 r2 as2)):jv P f n h args Post:=by
 intro X0 ρ w vs h1 hA h2 h3 h4;refine(hs X0 ρ w vs h1 hA h2 h3 h4).mono ?_;rintro e w' ⟨v,h',r,ρ',as,rfl,⟨h2',r2,as2,hlen,hwk,hP⟩,g3,g4,g5,g6,g7,g8,g9,g10,g11,g12⟩
 let E:Env:=⟨w',λb=>w.heap.size<=b\/aF ρ h b,X0,vs.size+1,0,λ_=>undef,none,0,Z7 _,[]⟩
 let a:Act:={tmps:=#[v]++vs,defers:=[]}
 have hsv:∀j,j<vs.size->aO E a (1+j)=vs.getD j undef:=by
  intro j hj;unfold aO;rw[if_pos (show 1+j<vs.size+1 by omega)];simp only[a,ZP];rw[Array.getElem?_append_right (by simp)];simp
 have hr:af E ρ' ⟨(0,r)::numbered 1 as,h'⟩ a w':=by
  refine⟨fD.nil _ _,by simp[a,E];omega,λk av hk=>?_,g3,λid W L b e1 e2 e3=>.inr (g12 b ⟨id,W,L,e1,e2,e3⟩),⟨rfl,rfl,rfl,ZM _,λ_ _ _=>rfl,hA.1.stays (λb _ _ _ hb _=>g11 b (hA.1.lt hb) (hA.2 b hb)),λb hb hx=>hx.elim (λg=>by have:=hA.1.lt hb;omega) (hA.2 b hb)⟩,λb hb=>ZV (h2 b hb) g10⟩;simp only[sget]at hk;split at hk
  ·rename_i e;subst e;obtain rfl:=Option.some.inj hk;refine⟨.inl (show 0<vs.size+1 by omega),?_⟩
   have:aO E a 0=v:=by
    unfold aO;rw[if_pos (show 0<vs.size+1 by omega)];simp only[a];exact rG v vs
   rw[this];exact g4
  ·obtain⟨e1,e2⟩:=jQ as 1 k av hk;have hlt:=(List.getElem?_eq_some_iff.1 e2).1;obtain⟨j,rfl⟩:∃j,k=1+j:=⟨k-1,ZG⟩;have hj:j<vs.size:=ZG;refine⟨.inl (show 1+j<vs.size+1 by omega),?_⟩;rw[hsv j hj];have hv:vs[j]?=some (vs.getD j undef):=by rw[ZP,Array.getElem?_eq_getElem hj];rfl
   exact g6 j _ av hv (by rw[aau]at e2;exact e2)
 obtain⟨ρ2,hr2⟩:=jr hwk hr;refine⟨v,h2',r2,ρ2,as2,rfl,hP,hr2.heap,?_,ZG,λj u x e1 e2=>?_,g7,g8,g9,g10,g11,λb ⟨id,W,L,e1,e2,e3⟩=>?_⟩
 ·have:=(hr2.aM 0 r2 (by simp[sget])).2
  have e:aO E a 0=v:=by
   unfold aO;rw[if_pos (show 0<vs.size+1 by omega)];simp only[a];exact rG v vs
  rw[e]at this;exact this
 ·have hj:=(Array.getElem?_eq_some_iff.1 e1).1
  have hs2:sget ((0,r2)::numbered 1 as2) (1+j)=some x:=by
   simp only[sget];rw[if_neg ZG];exact nT as2 1 j x e2
  have:=(hr2.aM (1+j) x hs2).2;rw[hsv j hj,ZP,e1]at this;exact this
 ·rcases hr2.base id W L b e1 e2 e3 with g | g;exact .inl (aar g10 g);exact g
def fltB (b:Bool) (k:Nat) (v:AV) (r:List (Nat×AV)):List (Nat×AV):=
 match b with
 | true=>(k,v)::r
 | false=>r
def fltO (o:Option AV) (k:Nat) (r:List (Nat×AV)):List (Nat×AV):=
 match o with
 | some v=>fltB (flA v) k v r
 | none=>r
def fltS (s0:List (Nat×AV)):List (Nat×AV)->List (Nat×AV)
 | []=>[]
 | (k,_)::r=>fltO (sget s0 k) k (fltS s0 r)
def getL (s:List (Nat×AV)):List Nat->List AV
 | []=>[]
 | k::r=>(sget s k).getD .undef::getL s r
def zipS:List Nat->List AV->List (Nat×AV)
 | k::ks,v::vs=>(k,v)::zipS ks vs
 | _,_=>[]
theorem A9 (s:List (Nat×AV)):∀ks,(getL s ks).length=ks.length
 | []=>rfl
 | k::r=>by simp[getL,A9 s r]
theorem A8 (s:List (Nat×AV)):∀(ks:List Nat) (j k:Nat),ks[j]?=some k->(getL s ks)[j]?=some ((sget s k).getD .undef)
 | [],j,k,h=>by simp at h
 | q::r,0,k,h=>by simp at h;subst h;rfl
 | q::r,j+1,k,h=>by simpa[getL]using A8 s r j k (by simpa using h)
theorem EZ:∀{ks:List Nat} {vs:List AV} {k:Nat} {v:AV},sget (zipS ks vs) k=some v->∃j:Nat,ks[j]?=some k/\vs[j]?=some v
 | [],vs,k,v,h=>by simp[zipS,sget]at h
 | q::ks,[],k,v,h=>by simp[zipS,sget]at h
 | q::ks,u::vs,k,v,h=>by
  simp only[zipS,sget]at h;split at h
  ·rename_i e;obtain rfl:=Option.some.inj h;exact⟨0,by rw[e];rfl,rfl⟩
  ·obtain⟨j,h1,h2⟩:=EZ h;exact⟨j+1,by simpa using h1,by simpa using h2⟩
theorem rD {s0:List (Nat×AV)}:∀{s:List (Nat×AV)} {k:Nat} {v:AV},sget (fltS s0 s) k=some v->sget s0 k=some v/\flA v=true
 | [],k,v,h=>by simp[fltS,sget]at h
 | (q,u)::s,k,v,h=>by
  unfold fltS at h
  cases hq:sget s0 q with
  | none=>rw[hq]at h;exact rD (s:=s) h
  | some x=>
   rw[hq]at h;simp only[fltO]at h
   cases hu:flA x with
   | true=>
    rw[hu]at h;simp only[fltB,sget]at h;split at h
    ·rename_i e;subst e;obtain rfl:=Option.some.inj h;exact⟨hq,hu⟩
    ·exact rD h
   | false=>
    rw[hu]at h;exact rD (s:=s) h
def ot (st:St) (ks:List Nat) (h':HP) (gs:List AV):St:=⟨zipS ks gs++fltS st.s st.s,h'⟩
theorem Fj {P:Program} {st:St} {f:Nat} {args:List AE} {K:AV->St->Prop} {Post:HP->AV->List AV->Prop} (ks:List Nat) (hks:ks.all (λk=>(sget st.s k).isSome)=true)
    (hs:jv P f args.length st.h (args.map (ev st)++getL st.s ks) Post)
    (hK:∀h' r as,Post h' r as->K r (ot st ks h' (as.drop args.length))):ff P false st f args K:=by
 intro E ρ a w vs h hvs hrv
 let us:Array Value:=(ks.map (aO E a)).toArray
 have hus:us.size=ks.length:=by simp[us]
 have hex:(vs++us).extract 0 args.length=vs:=by
  rw[<-hvs];simp
 have:=hs E.X0 ρ w (vs++us) h.heap h.b6 h.x0 (by simp[hvs,hus,A9]) (λj v x e1 e2=>?_)
 ·rw[hex]at this;refine this.mono ?_;rintro e w' ⟨v,h',r,ρ',as,rfl,hP,hH,hr,hal,has,q1,q2,q3,q4,q5,q6⟩;refine⟨v,ρ',ot st ks h' (as.drop args.length),r,rfl,⟨h.defers.turn (λb hb=>q5 b (Array.getElem?_eq_some_iff.1 hb).1 (λhx=>jK h.heap hb hx)),h.size,λk av hk=>?_,hH,λid W L b e1 e2 e3=>?_,?_,λb hb=>ZV (h.x0 b hb) q4⟩,hr,hK h' r as hP,λhq=>by cases hq⟩
  ·simp only[ot,jP]at hk
   cases hz:sget (zipS ks (as.drop args.length)) k with
   | some av1=>
    rw[hz]at hk;obtain rfl:av1=av:=Option.some.inj hk;obtain⟨j,g1,g2⟩:=EZ hz;have hk1:=ZR.1 hks k (ZX g1);obtain⟨av0,hav0⟩:=aaN.1 hk1;refine⟨(h.aM k av0 hav0).1,?_⟩;rw[List.getElem?_drop]at g2;refine has (args.length+j) (aO E a k) av1 ?_ g2;rw[Array.getElem?_append_right ZG,hvs,aau]
    simp[us,g1]
   | none=>
    rw[hz,aaT]at hk;obtain⟨g1,g2⟩:=rD hk;exact⟨(h.aM k av g1).1,(h.aM k av g1).2.flA g2⟩
  ·rcases q6 b ⟨id,W,L,e1,e2,e3⟩with g | ⟨id',W',L',f1,f2,f3⟩;exact .inl (aar h.ai.size g);exact h.base id' W' L' b f1 f2 f3
  ·refine⟨q1.trans h.ai.os,q2.trans h.ai.tape,q3.trans h.ai.output,aar h.ai.size q4,λb hb hF=>(q5 b (ZV hb h.ai.size) ?_).trans (h.ai.block b hb hF),h.ai.b6⟩;rintro⟨id',W',L',f1,f2,f3⟩;rcases h.base id' W' L' b f1 f2 f3 with g | g;omega
   exact hF g
 ·by_cases hj:j<args.length
  ·rw[Array.getElem?_append_left ZG]at e1;rw[List.getElem?_append_left (by simpa using hj),List.getElem?_map]at e2;obtain⟨y,g1,rfl⟩:=ZI.1 e2;exact(hrv j v y e1 g1).1
  ·rw[Array.getElem?_append_right ZG,hvs]at e1;rw[List.getElem?_append_right (by simpa using hj),Z3]at e2;simp only[us,List.getElem?_toArray,List.getElem?_map]at e1;obtain⟨k,g1,rfl⟩:=ZI.1 e1;rw[A8 _ _ _ _ g1]at e2;obtain rfl:=Option.some.inj e2;obtain⟨av0,hav0⟩:=aaN.1 (ZR.1 hks k (ZX g1));rw[hav0];exact(h.aM k av0 hav0).2
section
variable {P:Program} {st:St} {f n:Nat} {args:List AE} {as bs:List AV} {d:Option Nat} {r:List ROp} {K:KS} {Post:HP->AV->List AV->Prop}
theorem zC (ks:List Nat) (hks:ks.all (λk=>(sget st.s k).isSome)=true) (hb:as++getL st.s ks=bs) (hn:args.length=n) (hs:jv P f n st.h bs Post)
    (h:∀h' v as',Post h' v as'->aopsW P r (put (ot st ks h' (as'.drop n)) d v) K):gP P false st f args as d r K:=by
 rintro rfl;subst hb;subst hn;exact Fj ks hks hs h
end
theorem LS (s0:List (Nat×AV)):fltS s0 []=[]:=(rfl)
theorem LR (s0:List (Nat×AV)) (k:Nat) (v:AV) (r:List (Nat×AV)):fltS s0 ((k,v)::r)=fltO (sget s0 k) k (fltS s0 r):=(rfl)
theorem LQ (v:AV) (k:Nat) (r:List (Nat×AV)):fltO (some v) k r=fltB (flA v) k v r:=(rfl)
theorem LP (v:AV) (k:Nat) (r:List (Nat×AV)):fltB true k v r=(k,v)::r:=(rfl)
theorem LO (v:AV) (k:Nat) (r:List (Nat×AV)):fltB false k v r=r:=(rfl)
theorem Mn (s:List (Nat×AV)):getL s []=[]:=(rfl)
theorem Mm (s:List (Nat×AV)) (k:Nat) (r:List Nat):getL s (k::r)=(sget s k).getD .undef::getL s r:=(rfl)
theorem Zr (vs:List AV):zipS [] vs=[]:=(rfl)
theorem Zq (k:Nat) (ks:List Nat) (v:AV) (vs:List AV):zipS (k::ks) (v::vs)=(k,v)::zipS ks vs:=(rfl)
theorem FK (st:St) (ks:List Nat) (h':HP) (gs:List AV):ot st ks h' gs=⟨zipS ks gs++fltS st.s st.s,h'⟩:=(rfl)
attribute [go_sem] LS LR LQ LP LO Mn Mm Zr Zq FK
end Go.Proofs.YtkdjbebgdoohjaaGreatDoor.Eng
namespace Go.Proofs.YtkdjbebgdoohjaaGreatDoor.Eng
namespace Kz
abbrev m (d k:Nat):ROp:=.v d (.fM (.t k))
abbrev k (d:Nat) (x:AE):ROp:=.v d (.fM x)
abbrev b (d:Nat) (op:BinOp) (x y:Nat):ROp:=.v d (.bin op (.t x) (.t y))
abbrev u (id d:Nat) (o:AO):ROp:=.val d true id o
end Kz
section
variable {P:Program} {E:Env} {st:St} {Q:KQ}
theorem YB {pre post:List ROp} {o:ROp} {ks:List Nat}:vcW P E (.eZ pre o post ks) Q st=aopsW P pre st (KS.rl P o post ks Q):=(rfl)
theorem YC {pre bX post:List ROp} {o o2:ROp} {ks:List Nat}:vcW P E (.nP pre o bX o2 post ks) Q st=aopsW P pre st (KS.Ac P o bX o2 post ks Q):=(rfl)
theorem Yt {p x y:List ROp} {ks:List Nat}:vcW P E (.alt p x y ks) Q st=aopsW P p st (KS.alt P x y ks Q):=(rfl)
theorem Yu {T:RT} {ks:List Nat}:vcW P E (.fg T ks) Q st=jj P T st (KS.bN ks Q):=(rfl)
theorem YH {ops:List ROp} {d f bk p q0:Nat} {x:AE} {c:UInt8} {body:AK}:vcW P E (.split ops d f x c bk p q0 body) Q st=aopsW P ops st (KS.Ee P E d f x c bk p q0 body Q):=(rfl)
theorem Yv {ops:List ROp} {d f kx bk p1 p q0:Nat} {body:AK}:vcW P E (.back ops d f kx bk p1 p q0 body) Q st=aopsW P ops st (KS.yY P E d f kx bk p1 p q0 body Q):=(rfl)
end
attribute [go_sem] YF EP Yx Yw YB YC Yt YH Yv Yu Vp Vq Qg
def fnChk (P:Program) (fn:Func) (B p:Nat):Option (AC×List RVar):=
 match fn.body with
 | some b=>bif Nat.ble fn.ntmps 1000000&&Nat.ble p fn.ntmps then some (trCode P fn.ntmps B b,fn.results.toList.map (trRes P))else none
 | none=>none
def gr (P:Program) (f B p:Nat) (x:AK) (rs:List RVar):Prop:=∃fn,P.funcs[f]?=some fn/\fnChk P fn B p=some (x.erase B,rs)
theorem gr.out {P:Program} {f B p:Nat} {x:AK} {rs:List RVar} (h:gr P f B p x rs):∃fn body,P.funcs[f]?=some fn/\fn.body=some body/\trCode P fn.ntmps B body=x.erase B/\fn.results.toList.map (trRes P)=rs/\fn.ntmps<=1000000/\p<=fn.ntmps:=by
 obtain⟨fn,h1,h2⟩:=h;unfold fnChk at h2;split at h2
 ·rename_i body hb
  cases hc:(Nat.ble fn.ntmps 1000000&&Nat.ble p fn.ntmps)with
  | false=>rw[hc]at h2;cases h2
  | true=>
   rw[hc]at h2;have h3:=Option.some.inj h2
   injection h3 with h4 h5
   simp only[ZS,Nat.ble_eq]at hc;exact⟨fn,body,h1,hb,h4,h5,hc.1,hc.2⟩
 ·cases h2
def fX (P:Program) (x:AK) (rs:List RVar) (p:Nat) (s:List (Nat×AV)) (h:HP) (Post:HP->AV->List AV->Prop):Prop:=
 ∀(E:Env) (R:HP->AV->List AV->Prop),E.N<=1000000->cF Post R->vcW P E x (KQ.post rs p R) ⟨s,h⟩
def mJ (P:Program) (x:AK) (rs:List RVar) (p:Nat) (s:List (Nat×AV)) (h:HP) (Post:HP->AV->List AV->Prop):Prop:=
 ∀(E:Env) (R:HP->AV->List AV->Prop),E.N<=1000000->E.rd=none->cF Post R->vcW P E x (KQ.post rs p R) ⟨s,h⟩
def qA (P:Program) (x:AK) (V:Value) (s:List (Nat×AV)) (h:HP):Prop:=∀(E:Env),E.N<=1000000->vcW P E x (KQ.dies V) ⟨s,h⟩
def yt (P:Program) (x:AK) (k:Nat) (y:AK) (p:Nat) (rs:List RVar) (V:Value) (q:IntKind) (z:Int) (s:List (Nat×AV)) (h:HP) (Post:HP->AV->List AV->Prop):Prop:=
 ∀(E:Env) (R:HP->AV->List AV->Prop),E.N<=1000000->cF Post R->vcW P E x (KQ.cO P k p y rs V (.int q z) R) ⟨s,h⟩
section
variable {P:Program} {f B p:Nat} {x:AK} {rs:List RVar} {h:HP} {args:List AV} {Post:HP->AV->List AV->Prop}
theorem qf (hf:gr P f B p x rs) (hl:args.length=p) (s:List (Nat×AV)) (hs:du (fA args) s) (hp:mJ P x rs p s h Post):Spec P f h args Post:=by
 obtain⟨fn,body,h1,h2,h3,h4,h5,h6⟩:=hf.out;refine tq (WN h1 h2 h3 h5 ZG (λE hE hB hrd=>?_));have hN:E.N<=1000000:=by rw[hE];exact h5
 rw[h4,<-hB,hl];exact oy s hs (dN hN _ (hp E _ hN hrd ry))
theorem iH (hf:gr P f B p x rs) (hl:args.length=p) (s:List (Nat×AV)) (hs:du (fA args) s) (hp:fX P x rs p s h Post):Spec P f h args Post:=
 qf hf hl s hs (λE R h1 _ h2=>hp E R h1 h2)
theorem xT {V:Value} (hf:gr P f B p x rs) (hl:args.length=p) (s:List (Nat×AV)) (hs:du (fA args) s) (hp:qA P x V s h):dW P f h args V:=by
 obtain⟨fn,body,h1,h2,h3,h4,h5,h6⟩:=hf.out;exact WE h1 h2 h3 h5 ZG s hs hp
theorem WH {g k:Nat} {x y:AK} {V:Value} {t:TypeId} {q:IntKind} {z:Int} (hf:gr P f B p (.seq x (.seq (.cO g [.t k]) y)) rs) (hl:args.length=p) (hG:oc P g V t (.int q z)) (ht:bL P t=some 1)
    (s:List (Nat×AV)) (hs:du (fA args) s) (hp:yt P x k y p rs V q z s h Post):Spec P f h args Post:=by
 obtain⟨fn,body,h1,h2,h3,h4,h5,h6⟩:=hf.out;refine WM h1 h2 h3 h5 ZG hG ht h4 s hs (λE R e1 e2=>?_);rw[hl];exact hp E R e1 e2
theorem WJ {n:Nat} (hf:gr P f B n x rs) (hl:n<=args.length) (s:List (Nat×AV)) (hs:du (tx n args) s) (hp:mJ P x rs args.length s h Post):jv P f n h args Post:=by
 obtain⟨fn,body,h1,h2,h3,h4,h5,h6⟩:=hf.out;refine WC (WB h1 h2 h3 h5 hl ZG (λE hE hB hrd=>?_));have hN:E.N<=1000000:=by rw[hE];exact h5
 rw[h4,<-hB];exact oy s hs (dN hN _ (hp E _ hN hrd ry))
theorem WI {n:Nat} (hf:gr P f B n x rs) (hl:n<=args.length) (s:List (Nat×AV)) (hs:du (tx n args) s) (hp:fX P x rs args.length s h Post):jv P f n h args Post:=
 WJ hf hl s hs (λE R h1 _ h2=>hp E R h1 h2)
end
end Go.Proofs.YtkdjbebgdoohjaaGreatDoor.Eng
namespace Go.Proofs.YtkdjbebgdoohjaaGreatDoor.Eng
def om (P:Program) (g:Nat) (h:HP) (args:List AV) (V:Value) (h':HP):Prop:=
 ∀(X0:Nat->Prop) (ρ:Loc) (w:World) (vs:Array Value),cA X0 ρ h w->ju (aF ρ h) w->(∀b,X0 b->b<w.heap.size)->vs.size=args.length ->
  (∀(j:Nat) v x,vs[j]?=some v->args[j]?=some x->RV (XX X0 ρ h) w ρ v x) ->
  CallsDIn Fence.wide 0 P g vs (.panicking (bp V)) w λe u' w'=>(∃v,e=.returned v)/\u'=.panicking [{v:=V,recovered:=true}]/\∃ρ',cA X0 ρ' h' w' /\
   (∀(j:Nat) v x,vs[j]?=some v->args[j]?=some x->RV (XX X0 ρ' h') w' ρ' v x) /\
   w'.os=w.os/\w'.tape=w.tape/\w'.output=w.output/\w.heap.size<=w'.heap.size/\(∀b,b<w.heap.size->¬aF ρ h b->w'.heap[b]?=w.heap[b]?) /\
   (∀b,aF ρ' h' b->w.heap.size<=b\/aF ρ h b)
def kL (P:Program) (g k:Nat):Prop:=∀(vs:Array Value) (w:World),vs.size=k->CallsDIn Fence.wide 0 P g vs .returning w λe u' w'=>(∃v,e=.returned v)/\u'=.returning/\w'=w
def ghL:Nat->Nat->List AE
 | _,0=>[]
 | j,k+1=>.t j::ghL (j+1) k
def vL (m k:Nat):List AE:=ghL (2000000+m) k
theorem Be:∀k j,(ghL j k).length=k
 | 0,_=>rfl
 | k+1,j=>by simp[ghL,Be k]
theorem Bd:∀k j i,i<k->(ghL j k)[i]?=some (.t (j+i))
 | 0,_,_,h=>by omega
 | k+1,j,0,_=>rfl
 | k+1,j,i+1,h=>by
  simp only[ghL,List.getElem?_cons_succ];rw[Bd k (j+1) i ZG,show j+1+i=j+(i+1)by omega]
def fJ (st:St) (m k:Nat):List AV:=evL st (vL m k)
def kM (st:St) (m k:Nat) (h0 h':HP):St:=gw st h0 ((fJ st m k).map .c) h' (fJ st m k)
def Bh (P:Program) (rs:List RVar) (m k g:Nat) (R:HP->AV->List AV->Prop):Exit->St->Prop
 | .normal,st | .ret,st=>∃r,resOf st rs=some r/\R st.h r (argsAgain st 0 m)
 | .panic ch,st=>∃V h0 h',ch=bp V/\om P g h0 (fJ st m k) V h'/\jb h' h'=true/\(∀i W,hget h0 i=some W->hget st.h i=some W) /\
     ∃r,resOf (kM st m k h0 h') rs=some r/\R (kM st m k h0 h').h r (argsAgain (kM st m k h0 h') 0 m)
 | _,_=>False
def seqA:List AC->AC->AC
 | [],y=>y
 | x::xs,y=>.seq x (seqA xs y)
def sQ (P:Program) (E:Env):List AC->(Exit->St->Prop)->St->Prop
 | [],Q,st=>Q .normal st
 | x::xs,Q,st=>bc P E x st (jU (sQ P E xs Q) Q)
def u5 (P:Program) (N B:Nat) (rs:List RVar) (m g d:Nat) (caps:List AE) (c1:AC) (R:HP->AV->List AV->Prop):Exit->St->Prop
 | .normal,st=>∀E':Env,E'.N=N->E'.B=B->E'.rd=none->bc P E' c1 ⟨numbered (2000000+m) (evL st caps)++(d,.undef)::st.s,st.h⟩ (Bh P rs m caps.length g R)
 | .ret,st=>∃r,resOf st rs=some r/\R st.h r (argsAgain st 0 m)
 | _,_=>False
theorem Vv {o:Oper} {f:Nat} {cap:Array Operand} (ho:o.op=.makeFunc (.func f) #[] cap) (a:Act) (P:Program) (w:World):(execOp a.eval o).run P w=.ok (.value (.func (.func f) #[] (cap.map a.eval))) w:=by
 simp[execOp,ho,Instr.makeFunc]
theorem WL {P:Program} {f g d:Nat} {fn:Func} {body:Code} {h:HP} {args:List AV} {Post:HP->AV->List AV->Prop} {pre:List AC} {c1:AC} {caps:List AE} (hf:P.funcs[f]?=some fn) (hb:fn.body=some body) {B:Nat}
    (hc:trCode P fn.ntmps B body=seqA pre (.seq (.cO g (.c (.ab [.int .i64 (d:Int)])::caps)) c1)) (hN:fn.ntmps<=1000000) (ha:args.length<=fn.ntmps) (hd:d<fn.ntmps) (hI:kL P g caps.length)
    (hp:∀E:Env,E.N=fn.ntmps->E.B=B->E.rd=none->sQ P E pre (u5 P fn.ntmps B (fn.results.toList.map (trRes P)) args.length g d caps c1 Post) ⟨fA args,h⟩):Spec P f h args Post:=by
 intro X0 ρ w vs hh hA hX hvs hrv
 let gv0:Nat->Value:=λk=>vs.getD (k-2000000) undef
 let E0:Env:=⟨w,aF ρ h,X0,fn.ntmps,B,gv0,none,w.heap.size,ZM _,[]⟩
 let RR:Ending->World->Prop:=λe w'=>∃v h' r ρ' as,e=.returned v/\Post h' r as/\cA X0 ρ' h' w'/\RV (XX X0 ρ' h') w' ρ' v r /\
     as.length=args.length/\(∀(j:Nat) v x,vs[j]?=some v->as[j]?=some x->RV (XX X0 ρ' h') w' ρ' v x) /\
     w'.os=w.os/\w'.tape=w.tape/\w'.output=w.output/\w.heap.size<=w'.heap.size/\(∀b,b<w.heap.size->¬aF ρ h b->w'.heap[b]?=w.heap[b]?) /\
     (∀b,aF ρ' h' b->w.heap.size<=b\/aF ρ h b)
 have fin0:∀(E:Env) (ρ':Loc) (st'':St) (a':Act) (w'':World),E.w0=w->E.F=aF ρ h->E.X0=X0->E.N=fn.ntmps->(∀j,j<args.length->E.gv (2000000+j)=gv0 (2000000+j))->af E ρ' st'' a' w'' ->
     (∃r,resOf st'' (fn.results.toList.map (trRes P))=some r/\Post st''.h r (argsAgain st'' 0 args.length))->∃v,(results fn a'.tmps).run P w''=.ok v w''/\RR (.returned v) w'':=by
  rintro E ρ' st'' a' w'' e1 e2 e3 e4 e5 g ⟨r,hr,hP⟩;obtain⟨v,q1,q2⟩:=sW (P:=P) g hr;have gx:=g.heap;rw[e3]at gx q2
  refine⟨v,q1,v,st''.h,r,ρ',_,rfl,hP,gx,q2,lN _ _ _,λj v x g1 g2=>?_,by rw[g.ai.os,e1],by rw[g.ai.tape,e1],by rw[g.ai.output,e1],by have:=g.ai.size;rwa[e1]at this,λb hb hF=>by
   have:=g.ai.block b (by rw[e1];exact hb) (by rw[e2];exact hF)
   rwa[e1]at this,λb ⟨id,W,L,h1,h2,h3⟩=>by have:=g.base id W L b h1 h2 h3;rwa[e1,e2]at this⟩
  have hjl:j<args.length:=by
   have:=(List.getElem?_eq_some_iff.1 g2).1
   rwa[lN]at this
  have:=ow st'' _ _ j x g2;rw[aaY]at this
  cases hs:sget st''.s (2000000+j)with
  | none=>rw[hs]at this;subst this;exact .undef _ _
  | some av=>
   rw[hs]at this;obtain rfl:x=av:=this;have hr2:=(g.aM _ _ hs).2;unfold aO at hr2;rw[if_neg (by rw[e4];omega),e5 j hjl,e3]at hr2;simp only[gv0,aau,ZP,g1]at hr2;exact hr2
 have key:∀(pre:List AC) (body:Code) (st1:St) (ρ1:Loc) (a1:Act) (w1:World),trCode P fn.ntmps B body=seqA pre (.seq (.cO g (.c (.ab [.int .i64 (d:Int)])::caps)) c1)->af E0 ρ1 st1 a1 w1 ->
     sQ P E0 pre (u5 P fn.ntmps B (fn.results.toList.map (trRes P)) args.length g d caps c1 Post) st1->body.wpIn Fence.wide 0 P (bodyPostM Fence.wide 0 P fn RR) a1 w1:=by
  intro pre
  induction pre with
  | cons x xs ih=>
   intro body st1 ρ1 a1 w1 hc g1 hp;obtain⟨b0,b',rfl,h0,hb'⟩:=tM hc;refine wpIn_seq (wpIn_mono (hp 0 b0 h0 a1 w1 ⟨ρ1,g1⟩) ?_);rintro e a' w' ⟨st',⟨ρ',g'⟩,q⟩
   cases e with
   | normal=>exact ih b' st' ρ' a' w' hb' g' q
   | ret=>
    show LeavesInM Fence.wide 0 P fn a'.tmps _ a'.defers .returning w'
    obtain⟨⟨Ds,hDs⟩,_⟩:=g'.defers;rw[hDs];refine je (E:=E0) (ρ:=ρ') (st:=st') (a:=a') (by simp) (λw' gg=>?_) rfl rfl Ds w' (by rw[<-hDs];exact g');obtain⟨v,q1,q2⟩:=fin0 E0 ρ' st' _ w' rfl rfl rfl rfl (λ_ _=>rfl) gg q
    exact⟨v,q1,q2⟩
   | exit id=>exact q.elim
   | goto l=>exact q.elim
   | panic ch=>exact q.elim
   | outgrown=>exact q.elim
  | nil=>
   intro body st1 ρ1 a1 w1 hc g1 hp;obtain⟨bd,b1,rfl,hbd,h1⟩:=tM hc;obtain⟨id,ops,draw,o1,o2,cap,cl,rfl,hops,ho1,hg1,hd1,ho2,hg2,hd2,hcl,hca,hcal,hcaps,hdraw⟩:=XR hbd
   have hoa:ops=#[o1,o2]:=by
    apply Array.toList_inj.1;simpa using hops
   let us:Array Value:=cap.map a1.eval
   have husz:us.size=caps.length:=by rw[hcaps];simp[us]
   let dd:Deferred:={target:=.fn (.func g) us,args:=#[]}
   let a2:Act:=a1.put (some d) (.func (.func g) #[] us)
   let a3:Act:={a2 with defers:=dd::a2.defers}
   have hev2:a2.eval (.tmp d)=.func (.func g) #[] us:=by
    show(a1.put (some d) (.func (.func g) #[] us)).tmps.getD d undef=_
    rw[pc a1 d d _ (by rw[g1.size];exact hd),if_pos rfl]
   have region:∀(Q:Exit->Act->World->Prop),(∀w2,aA w1 w2->Q .normal a3 w2)->(Code.region id ops draw).wpIn Fence.wide 0 P Q a1 w1:=by
    intro Q hQ;have r1:∀w2,(execOp a1.eval o1).run P w2=.ok (.value (.func (.func g) #[] us)) w2:=λw2=>Vv ho1 a1 P w2
    have r2:∀w2,(execOp a2.eval o2).run P w2=.ok (.defer dd) w2:=by
     intro w2;unfold execOp;simp[ho2,resolve,hcl,hev2,Deferred.ofValue,hca,dd]
    have s1:∀w2 (next:Act->World->Prop),next a2 w2->o1.wpIn Fence.wide 0 P a1 w2 next Q:=by
     intro w2 next hn
     refine⟨λ_ _=>trivial,?_⟩;rw[show Fence.wide.round=none from rfl,Oper.semAt_none,r1]
     show next (a1.put o1.dst _) w2
     rw[hd1];exact hn
    have s2:∀w2 (next:Act->World->Prop),next a3 w2->o2.wpIn Fence.wide 0 P a2 w2 next Q:=by
     intro w2 next hn
     refine⟨λ_ _=>trivial,?_⟩;rw[show Fence.wide.round=none from rfl,Oper.semAt_none,r2]
     show next (({a2 with defers:=dd::a2.defers}:Act).put o2.dst undef) w2
     rw[hd2];exact hn
    have hw:∀(o:Oper) (l:Nat->Option Bool),o.guard=none->Region.wanted o l=true:=by
     intro o l h;simp[Region.wanted,h]
    cases draw with
    | false=>
     refine wpIn_region_list ?_;rw[hops]
     exact wpListIn_plain hg1 (λnext hnext=>s1 _ _ (hnext _ _ (wpListIn_plain hg2 (λnext hnext=>s2 _ _ (hnext _ _ (hQ w1 (aA.refl w1)))))))
    | true=>
     obtain⟨hm,e0,e1,e2⟩:=hdraw rfl;subst hoa;refine wpIn_region_any hm ?_;have hs:aA w1 {w1 with drawn:=w1.drawn+1}:=aA.drew w1;refine⟨λe=>?_,λi hi=>?_⟩
     ·have:Region.ready .any #[o1,o2] #[false,false]=[]:=e;rw[e0]at this;cases this
     ·have hi':i∈Region.ready .any #[o1,o2] #[false,false]:=hi;rw[e0,Z9]at hi';subst hi';unfold wpOpIn;simp only[List.getElem?_toArray,List.getElem?_cons_zero,hw o1 _ hg1,if_true];refine s1 _ _ ?_;refine⟨λe=>?_,λi hi=>?_⟩
      ·have:Region.ready .any #[o1,o2] #[true,false]=[]:=e;rw[e1]at this;cases this
      ·have hi':i∈Region.ready .any #[o1,o2] #[true,false]:=hi;rw[e1,Z9]at hi';subst hi';unfold wpOpIn;simp only[List.getElem?_toArray,List.getElem?_cons_succ,List.getElem?_cons_zero,hw o2 _ hg2,if_true];refine s2 _ _ ?_;exact⟨e2,hQ _ hs⟩
   refine wpIn_seq (region _ (λw2 hs2=>?_))
   show b1.wpIn Fence.wide 0 P (bodyPostM Fence.wide 0 P fn RR) a3 w2
   let m:=args.length
   let E1:Env:=⟨w,aF ρ h,X0,fn.ntmps,B,λj=>if 2000000+m<=j/\j<2000000+m+caps.length then us.getD (j-(2000000+m)) undef else gv0 j,none,w.heap.size,ZM _,dd::a1.defers⟩
   obtain⟨⟨Ds0,hDs0⟩,hnd0,hmk0⟩:=(g1.same hs2).defers;have hDs0:a1.defers=Ds0.map km:=by rw[hDs0];simp[E0]
   have gput:=(g1.same hs2).put d hd (v:=.func (.func g) #[] us) (av:=.undef) (.undef _ _)
   have hcv:∀(j:Nat) x,(evL st1 caps)[j]?=some x->∃v,us[j]?=some v/\RV (XX E0.X0 ρ1 st1.h) w2 ρ1 v x:=by
    intro j x hj;rw[iU,hcaps,aaK,List.getElem?_map,Array.getElem?_toList]at hj;obtain⟨y,e1,rfl⟩:=ZI.1 hj;exact⟨a1.eval y,by simp[us,e1],aX (g1.same hs2) y⟩
   have g2:af E1 ρ1 ⟨numbered (2000000+m) (evL st1 caps)++(d,.undef)::st1.s,st1.h⟩ a3 w2:=by
    refine⟨⟨⟨[],rfl⟩,hnd0,hmk0⟩,gput.size,λk av hk=>?_,(g1.same hs2).heap,g1.base,⟨(g1.same hs2).ai.os,(g1.same hs2).ai.tape,(g1.same hs2).ai.output,(g1.same hs2).ai.size,(g1.same hs2).ai.block,g1.ai.b6⟩,(g1.same hs2).x0⟩;simp only[jP]at hk
    cases hz:sget (numbered (2000000+m) (evL st1 caps)) k with
    | some av1=>
     rw[hz]at hk;obtain rfl:av1=av:=Option.some.inj hk;obtain⟨e1,e2⟩:=jQ _ _ _ _ hz;obtain⟨v,e3,e4⟩:=hcv _ _ e2;refine⟨.inr ZG,?_⟩
     have:aO E1 a3 k=v:=by
      unfold aO;rw[if_neg (by simp only[E1];omega)];have e5:k-(2000000+m)<us.size:=(Array.getElem?_eq_some_iff.1 e3).1;simp only[E1,if_pos (show 2000000+m<=k/\k<2000000+m+caps.length by omega),ZP,e3];rfl
     rw[this];exact e4
    | none=>
     rw[hz,aaT]at hk;obtain⟨r1,r2⟩:=gput.aM k av hk;refine⟨r1,?_⟩
     have hkm:¬(2000000+m<=k/\k<2000000+m+caps.length):=by
      intro hk2;have hl:k-(2000000+m)<(evL st1 caps).length:=by rw[iU];simp;omega
      have:=nT (evL st1 caps) (2000000+m) (k-(2000000+m)) _ (List.getElem?_eq_getElem hl);rw[show 2000000+m+(k-(2000000+m))=k by omega,hz]at this;cases this
     have:aO E1 a3 k=aO E0 (a1.put (some d) (.func (.func g) #[] us)) k:=by
      unfold aO;simp only[E1,E0,if_neg hkm];rfl
     rw[this];exact r2
   refine wpIn_mono (hp E1 rfl rfl rfl 0 b1 h1 _ w2 ⟨ρ1,g2⟩) ?_;rintro e a' w' ⟨st',⟨ρ',g0⟩,q⟩;obtain⟨⟨Ds,hDs⟩,_⟩:=g0.defers
   have fin:∀(ρ'':Loc) (st'':St) (w'':World),af E1 ρ'' st'' {a' with defers:=dd::a1.defers} w''->(∃r,resOf st'' (fn.results.toList.map (trRes P))=some r/\Post st''.h r (argsAgain st'' 0 args.length)) ->
       LeavesInM Fence.wide 0 P fn a'.tmps RR a1.defers .returning w'':=by
    intro ρ'' st'' w'' gg hP
    have gg':af {E1 with df:=[]} ρ'' st'' {a' with defers:=Ds0.map km++[]} w'':=by
     refine gg.df rfl rfl rfl rfl rfl ⟨⟨Ds0,rfl⟩,?_⟩;have:=gg.defers.2;rw[aaw,<-hDs0];exact this
    have:=je (P:=P) (fn:=fn) (E:={E1 with df:=[]}) (ρ:=ρ'') (st:=st'') (a:=a') (u:=.returning) (rest:=[]) (R:=RR) (by simp) (λw' g=>?_) rfl rfl Ds0 w'' gg'
    ·rw[aaw,<-hDs0]at this;exact this
    ·obtain⟨v,q1,q2⟩:=fin0 _ ρ'' st'' _ w' rfl rfl rfl rfl (λj hj=>by
      show(if _ then _ else _)=_
      rw[if_neg ZG]) g hP
     exact⟨v,q1,q2⟩
   have hinv:∀w,(invoke (.fn (.func g) us) #[]).run P w=.ok (.enter g us) w:=by
    intro w;unfold callable at hcal;split at hcal
    ·rename_i fn h2;simp only[ZS,bne_iff_ne]at hcal;have h5:¬fn.name = "runtime.NumGoroutine" := by simpa using hcal.2
     have h6:¬fn.body=none:=by intro e;rw[e]at hcal;cases hcal.1
     simp[invoke,callFunc,h2,h5,h6]
    ·cases hcal
   have ret:(∃r,resOf st' (fn.results.toList.map (trRes P))=some r/\Post st'.h r (argsAgain st' 0 args.length))->LeavesInM Fence.wide 0 P fn a'.tmps RR a'.defers .returning w':=by
    intro hq;rw[hDs];refine je (E:=E1) (ρ:=ρ') (st:=st') (a:=a') (by simp) (λw' gg=>?_) rfl rfl Ds w' (by rw[<-hDs];exact g0);refine⟨by simp,.inr ⟨λhh=>(by cases hh),.func g,us,g,_,rfl,hinv w',λ_ _=>trivial,(hI us w' husz).mono ?_⟩⟩;rintro e u' w2 ⟨⟨v,rfl⟩,rfl,rfl⟩;exact fin ρ' st' _ gg hq
   cases e with
   | normal=>exact ret q
   | ret=>exact ret q
   | exit id=>exact q.elim
   | goto l=>exact q.elim
   | outgrown=>exact q.elim
   | panic ch=>
    obtain⟨V,h0,h',rfl,hS,hin,hsub,hP⟩:=q
    show LeavesInM Fence.wide 0 P fn a'.tmps _ a'.defers (.panicking (bp V)) w'
    rw[hDs];refine je (E:=E1) (ρ:=ρ') (st:=st') (a:=a') (by simp) (λw' gg=>?_) rfl rfl Ds w' (by rw[<-hDs];exact g0);have hgl:(fJ st' m caps.length).length=caps.length:=by simp[fJ,iU,vL,Be]
    have hrv2:∀(j:Nat) v x,us[j]?=some v->(fJ st' m caps.length)[j]?=some x->RV (XX X0 ρ' st'.h) w' ρ' v x:=by
     intro j v x e1 e2;have hj:j<caps.length:=by have:=(List.getElem?_eq_some_iff.1 e2).1;omega
     simp only[fJ,iU,vL,List.getElem?_map,Bd _ _ _ hj,aah,Option.some.injEq]at e2;subst e2
     show RV _ _ _ _ ((sget st'.s (2000000+m+j)).getD .undef)
     cases hs:sget st'.s (2000000+m+j)with
     | none=>exact .undef _ _
     | some av=>
      have hr2:=(gg.aM _ _ hs).2;unfold aO at hr2;rw[if_neg (by simp only[E1];omega)]at hr2;simp only[E1,if_pos (show 2000000+m<=2000000+m+j/\2000000+m+j<2000000+m+caps.length by omega),show 2000000+m+j-(2000000+m)=j by omega,ZP,e1]at hr2;exact hr2
    have hx1:=pR (E:=E1) (ρ:=ρ') hsub
    refine⟨by simp,.inr ⟨λhh=>(by cases hh),.func g,us,g,_,rfl,hinv w',λ_ _=>trivial,
     (hS (ku E1 ρ' st' h0) ρ' w' us (ym gg hsub) (gg.b6.mono λb ⟨id,W,L,g1,g2,g3⟩=>⟨id,W,L,hsub _ _ g1,g2,g3⟩) (λb hb=>um gg b (hx1 b (.inl hb))) (by rw[hgl,husz])
      (λj v x e1 e2=>(hrv2 j v x e1 e2).mono (λ_ _ _=>rfl) (λb _ hb hx=>hb (hx1 b hx)) _ (λ_ _ h=>h))).mono ?_⟩⟩
    rintro e u' w3 ⟨⟨v,rfl⟩,rfl,ρ3,hH,has,q1,q2,q3,q4,q5,q6⟩
    obtain⟨ρ4,g4,_⟩:=yl (ρ':=ρ3) (h':=h') (v:=undef) (r:=.undef) (args:=(fJ st' m caps.length).map .c) (as:=fJ st' m caps.length) gg (by simp[hgl,husz]) (λj v x e1 e2=>by
        rw[List.getElem?_map]at e2;obtain⟨y,e3,rfl⟩:=ZI.1 e2
        exact⟨hrv2 j v y e1 e3,λk hk=>by cases hk⟩) hsub hin rfl hH (.undef _ _) (by simp) has q1 q2 q3 q4 q5 q6
    exact fin ρ4 _ _ g4 hP
 exact(callsIn_wide (n:=0)).1 (callsIn_of_wp_marks hf hb trivial (key pre body _ ρ _ w hc (nX hN ha hh hA hX hvs hrv [] rfl) (hp E0 rfl rfl rfl)))
def seqK:List AK->AK->AK
 | [],y=>y
 | x::xs,y=>.seq x (seqK xs y)
theorem DX (B:Nat) (y:AK):∀xs,(seqK xs y).erase B=seqA (xs.map (AK.erase B)) (y.erase B)
 | []=>rfl
 | x::xs=>by simp only[seqK,AK.erase,aaj,seqA,DX B y xs]
def mE (P:Program) (E:Env):List AK->KQ->St->Prop
 | [],Q,st=>Q.ap .normal st
 | x::xs,Q,st=>vcW P E x ⟨jU (λst=>mE P E xs Q st) Q.ap⟩ st
def KQ.sq (P:Program) (E:Env) (xs:List AK) (Q:KQ):KQ:=⟨jU (λst=>mE P E xs Q st) Q.ap⟩
theorem De {P:Program} {E:Env} (hN:E.N<=1000000):∀(xs:List AK) {Q:KQ} {st:St},mE P E xs Q st->sQ P E (xs.map (AK.erase E.B)) Q.ap st
 | [],Q,st,h=>h
 | x::xs,Q,st,h=>bc.mono (dN hN x h) (Eu (λst' h'=>De hN xs h') (λ_ _ h=>h))
def KQ.gC (P:Program) (rs:List RVar) (m k g:Nat) (R:HP->AV->List AV->Prop):KQ:=⟨Bh P rs m k g R⟩
def KQ.dC (P:Program) (N B:Nat) (rs:List RVar) (m g d:Nat) (caps:List AE) (y:AK) (R:HP->AV->List AV->Prop):KQ:=⟨u5 P N B rs m g d caps (y.erase B) R⟩
section
variable {P:Program} {E:Env} {st:St} {Q:KQ} {rs:List RVar} {m k g d N B:Nat} {caps:List AE} {y:AK} {R:HP->AV->List AV->Prop}
theorem Ys:mE P E [] Q st=Q.ap .normal st:=(rfl)
theorem Yr {x:AK} {xs:List AK}:mE P E (x::xs) Q st=vcW P E x (KQ.sq P E xs Q) st:=(rfl)
theorem P5 {xs:List AK}:(KQ.sq P E xs Q).ap .normal st=mE P E xs Q st:=(rfl)
theorem P6 {xs:List AK}:(KQ.sq P E xs Q).ap .ret st=Q.ap .ret st:=(rfl)
theorem P7 {xs:List AK} {i:Nat}:(KQ.sq P E xs Q).ap (.exit i) st=Q.ap (.exit i) st:=(rfl)
theorem Px:(KQ.gC P rs m k g R).ap .ret st=(KQ.post rs m R).ap .ret st:=(rfl)
theorem Pw:(KQ.gC P rs m k g R).ap .normal st=(KQ.post rs m R).ap .ret st:=(rfl)
theorem Pu:(KQ.dC P N B rs m g d caps y R).ap .ret st=(KQ.post rs m R).ap .ret st:=(rfl)
theorem vI {V:Value} (h0 h':HP) {as:List AV} (has:fJ st m k=as) (hS:om P g h0 as V h') (hin:jb h' h'=true) (hsub:dr st.h h0) (h:(KQ.post rs m R).ap .ret (kM st m k h0 h')):(KQ.gC P rs m k g R).ap (.panic (bp V)) st:=
 ⟨V,h0,h',rfl,has▸hS,hin,λi W hi=>jd hsub i W hi,h⟩
theorem u0 (h:∀E':Env,E'.N<=1000000->vcW P E' y (KQ.gC P rs m caps.length g R) ⟨numbered (2000000+m) (evL st caps)++(d,.undef)::st.s,st.h⟩) (hN:N<=1000000):(KQ.dC P N B rs m g d caps y R).ap .normal st:=
 λE' e1 e2 _=>by
  have hN':E'.N<=1000000:=ZG;rw[<-e2];exact dN hN' y (h E' hN')
theorem Mq:fJ st m k=evL st (ghL (2000000+m) k):=(rfl)
theorem FD {h0 h':HP}:kM st m k h0 h'=gw st h0 ((fJ st m k).map .c) h' (fJ st m k):=(rfl)
end
theorem Mp:(∀j,ghL j 0=[])/\(∀j k,ghL j (k+1)=.t j::ghL (j+1) k):=⟨λ_=>rfl,λ_ _=>rfl⟩
attribute [go_sem] Ys Yr P5 P6 P7 Px Pw Pu Mq FD Mp
def qz (P:Program) (pre:List AK) (y:AK) (g d:Nat) (caps:List AE) (B p:Nat) (rs:List RVar) (s:List (Nat×AV)) (h:HP) (Post:HP->AV->List AV->Prop):Prop:=
 ∀(E:Env) (R:HP->AV->List AV->Prop) (N:Nat),E.N<=1000000->N<=1000000->cF Post R->mE P E pre (KQ.dC P N B rs p g d caps y R) ⟨s,h⟩
theorem xS {P:Program} {f B p q g d:Nat} {x0:AK} {pre:List AK} {y:AK} {caps:List AE} {rs:List RVar} {h:HP} {args:List AV} {Post:HP->AV->List AV->Prop}
    (hf:gr P f B q (seqK (x0::pre) (.seq (.cO g (.c (.ab [.int .i64 (d:Int)])::caps)) y)) rs) (hl:args.length=p) (hq:p<=q) (hd:d<q) (hI:kL P g caps.length) (s:List (Nat×AV)) (hs:du (fA args) s)
    (hp:qz P (x0::pre) y g d caps B p rs s h Post):Spec P f h args Post:=by
 obtain⟨fn,body,h1,h2,h3,h4,h5,h6⟩:=hf.out;rw[DX]at h3;refine tq (WL (pre:=(x0::pre).map (AK.erase B)) h1 h2 h3 h5 ZG ZG hI (λE hE hB hrd=>?_));have hN:E.N<=1000000:=by rw[hE];exact h5
 have this:=De hN (x0::pre) (hp E _ fn.ntmps hN h5 ry);rw[hB]at this;rw[h4,hl];exact oy s hs this
open Go Go.Sem
def AB (J:Nat->Act->World->Prop) (Q:Exit->Act->World->Prop):Exit->Act->World->Prop
 | .goto l,a,w=>J l a w
 | e,a,w=>Q e a w
theorem YY {F:Fence} {n:Nat} {P:Program} {a:Act} {w:World} {Q:Exit->Act->World->Prop} {c:Code} (J:Nat->Nat->Act->World->Prop)
    (first:c.wpIn F n P (AB (λl a w=>∃m,J m l a w) Q) a w)
    (pass:∀m l a w,J m l a w->∃rest,findLabel c l=some rest/\rest.wpIn F n P (AB (λl a w=>∃m',m'<m/\J m' l a w) Q) a w):(Code.scope c).wpIn F n P Q a w:=by
 intro b k cs hro hb hr;have h0:(lone (b.atR a (.code (.scope c)::k)) cs w).fenced P F:=fenced_calm hb hr rfl
 have fin:∀{m:Machine} (e:Exit) (a₁:Act) (w₁:World),Q e a₁ w₁->(∀l',e≠.goto l')->ArrivesIn (Machine.fenced P F) P m b (.inScope c::k) cs e a₁ w₁ ->
     ∃e a' w',Q e a' w'/\ArrivesIn (Machine.fenced P F) P m b k cs e a' w':=by
  intro m e a₁ w₁ hq' hne harr
  cases e with
  | normal=>exact⟨.normal,a₁,w₁,hq',StepsIn.trans harr (.one (fenced_calm hb hr rfl) Ej)⟩
  | exit id=>
   have hx:exitTo id (.inScope c::k)=exitTo id k:=by simp[exitTo]
   exact⟨.exit id,a₁,w₁,hq',λk' hk=>harr.1 k' (by rw[hx];exact hk),λh1 h2=>harr.2 h1 (by rw[hx];exact h2)⟩
  | goto l'=>exact absurd rfl (hne l')
  | ret=>exact⟨_,a₁,w₁,hq',harr⟩
  | panic ch=>exact⟨_,a₁,w₁,hq',harr⟩
  | outgrown=>exact⟨_,a₁,w₁,hq',harr⟩
 have all:∀m l a w,J m l a w->∃rest,findLabel c l=some rest/\∃e a' w',Q e a' w'/\ArrivesIn (Machine.fenced P F) P (lone (b.atR a (.code rest::.inScope c::k)) cs w) b k cs e a' w':=by
  intro m
  induction m using Nat.strongRecOn with
  | _ m ih=>
   intro l a w hJ;obtain⟨rest,hf,hw⟩:=pass m l a w hJ;refine⟨rest,hf,?_⟩;obtain⟨e,a₁,w₁,hq,harr⟩:=hw b (.inScope c::k) cs hro hb hr;by_cases hgo:∃l',e=.goto l'
   ·obtain⟨l',rfl⟩:=hgo;obtain⟨m',hm,hJ'⟩:=hq;obtain⟨rest',hf',e₂,a₂,w₂,hq₂,harr₂⟩:=ih m' hm l' a₁ w₁ hJ';have hg:gotoIn l' (.inScope c::k)=some (.code rest'::.inScope c::k):=by simp[gotoIn,hf']
    exact⟨e₂,a₂,w₂,hq₂,.of_steps (harr.1 _ hg) harr₂⟩
   ·exact fin e a₁ w₁ (by cases e<;>first | exact hq | exact absurd ⟨_,rfl⟩ hgo) (λl' h=>hgo ⟨l',h⟩) harr
 obtain⟨e,a₁,w₁,hq,harr⟩:=first b (.inScope c::k) cs hro hb hr
 by_cases hgo:∃l',e=.goto l'
 ·obtain⟨l',rfl⟩:=hgo;obtain⟨m',hJ'⟩:=hq;obtain⟨rest',hf',e₂,a₂,w₂,hq₂,harr₂⟩:=all m' l' a₁ w₁ hJ';have hg:gotoIn l' (.inScope c::k)=some (.code rest'::.inScope c::k):=by simp[gotoIn,hf']
  exact⟨e₂,a₂,w₂,hq₂,.of_steps (.head h0 tz (harr.1 _ hg)) harr₂⟩
 ·obtain⟨e₃,a₃,w₃,hq₃,harr₃⟩:=fin e a₁ w₁ (by cases e<;>first | exact hq | exact absurd ⟨_,rfl⟩ hgo) (λl' h=>hgo ⟨l',h⟩) harr
  exact⟨e₃,a₃,w₃,hq₃,.of_steps (.one h0 tz) harr₃⟩
def we (J:Nat->St->Prop) (Q:Exit->St->Prop):Exit->St->Prop
 | .goto l,st=>J l st
 | e,st=>Q e st
theorem GZ {P:Program} {E:Env} {st:St} {Q:Exit->St->Prop} {x:AC} (J:Nat->Nat->St->Prop) (first:bc P E x st (we (λl st=>∃m,J m l st) Q))
    (pass:∀m l st,J m l st->∃y,findA x l=some y/\bc P E y st (we (λl st=>∃m',m'<m/\J m' l st) Q)):bc P E (.scope x) st Q:=by
 intro n code hc a w hr;cases code<;>simp only[trCode]at hc<;>first | (cases hc;done) | (exact Bool.noConfusion (show false=true from eO hc)) | (split at hc<;>cases hc;done) | skip
 rename_i c
 injection hc with h1
 subst h1;refine YY (λm l a w=>∃st,Rel E st a w/\J m l st) (wpIn_mono (first n c rfl a w hr) ?_) ?_
 ·rintro e a' w' ⟨st',g1,g2⟩
  cases e with
  | goto l'=>obtain⟨m,h⟩:=g2;exact⟨m,st',g1,h⟩
  | normal=>exact⟨st',g1,g2⟩
  | exit id=>exact⟨st',g1,g2⟩
  | ret=>exact⟨st',g1,g2⟩
  | panic ch=>exact⟨st',g1,g2⟩
  | outgrown=>exact⟨st',g1,g2⟩
 ·rintro m l a w ⟨st',g1,g2⟩;obtain⟨y,hf,hy⟩:=pass m l st' g2;rw[rz]at hf;obtain⟨rest,hfl,rfl⟩:=ZI.1 hf;refine⟨rest,hfl,wpIn_mono (hy n rest rfl a w g1) ?_⟩;rintro e a' w' ⟨st',g1,g2⟩
  cases e with
  | goto l'=>obtain⟨m',hm,h⟩:=g2;exact⟨m',hm,st',g1,h⟩
  | normal=>exact⟨st',g1,g2⟩
  | exit id=>exact⟨st',g1,g2⟩
  | ret=>exact⟨st',g1,g2⟩
  | panic ch=>exact⟨st',g1,g2⟩
  | outgrown=>exact⟨st',g1,g2⟩
def KQ.kh (R:Nat->KS) (Q:KQ):KQ:=⟨we (λl=>(R l).ap) Q.ap⟩
theorem P8 (R:Nat->KS) (Q:KQ) (st:St):(∀l,(KQ.kh R Q).ap (.goto l) st=(R l).ap st)/\(KQ.kh R Q).ap .normal st=Q.ap .normal st/\(∀i,(KQ.kh R Q).ap (.exit i) st=Q.ap (.exit i) st)/\(KQ.kh R Q).ap .ret st=Q.ap .ret st/\(∀ch,(KQ.kh R Q).ap (.panic ch) st=Q.ap (.panic ch) st):=
 ⟨λ_=>rfl,rfl,λ_=>rfl,rfl,λ_=>rfl⟩
theorem YE {P:Program} {E:Env} {x:AK} {Q:KQ} {st:St} {α:Type} (hN:E.N<=1000000) (f:Nat->α->St) (inv:Nat->α->Prop) (ms:Nat->α->Nat)
    (h1:∀R:Nat->KS,(∀l a st',inv l a->Wk st' (f l a)->(R l).ap st')->vcW P E x (KQ.kh R Q) st)
    (h2:∀l a,inv l a->∃y,findK x l=some y/\∀R:Nat->KS,(∀l' a' st',ms l' a'<ms l a->inv l' a'->Wk st' (f l' a')->(R l').ap st')->vcW P E y (KQ.kh R Q) (f l a)):vcW P E (.scope x) Q st:=by
 show bc P E (.scope (x.erase E.B)) st Q.ap
 refine GZ (λm l s=>∃a,inv l a/\ms l a=m/\Wk s (f l a)) (dN hN x (h1 (λl=>⟨λs=>∃m a,inv l a/\ms l a=m/\Wk s (f l a)⟩) (λl a st' g1 g2=>⟨_,a,g1,rfl,g2⟩))) ?_;rintro m l s ⟨a,g1,rfl,g2⟩;obtain⟨y,hy,hv⟩:=h2 l a g1;refine⟨y.erase E.B,by rw[o5,hy];rfl,oz g2 (dN hN y (hv (λl'=>⟨λs=>∃m',m'<ms l a/\∃a',inv l' a'/\ms l' a'=m'/\Wk s (f l' a')⟩) (λl' a' st' k1 k2 k3=>⟨_,k1,a',k2,rfl,k3⟩)))⟩
attribute [go_sem] P8
end Go.Proofs.YtkdjbebgdoohjaaGreatDoor.Eng
