/- The proof, part 10 of 43. -/
import Derived.Test.YtoalcafkffmiiaaGreatDoorOdbGetsG
import Derived.Test.YtoalcafkffmiiaaGreatDoorOdbGetsH
import Derived.Test.YtoalcafkffmiiaaGreatDoorOdbGetsI
import Derived.Below
set_option linter.all false
namespace Go.Proofs.YtoalcafkffmiiaaGreatDoor.Eng
structure KS where
 ap:St->Prop
structure KQ where
 ap:Exit->St->Prop
inductive ROp where
 | v (d:Nat) (o:AO)
 | val (d:Nat) (q:Bool) (id:Nat) (o:AO)
 | eff (d:Nat) (q:Bool) (id:Nat) (o:AO)
 | mc (q:Bool) (id:Nat) (o:AO)
 | lk (d:Option Nat) (q:Bool) (id:Nat) (f:Nat) (args:List AE)
 | dyn (d:Option Nat) (q:Bool) (id:Nat) (x:AE) (args:List AE)
 | qq (d:Nat) (j:Nat) (want:Bool) (q:Bool) (id:Nat) (o:AO)
 | ql (d:Nat) (j:Nat) (want:Bool) (q:Bool) (id:Nat) (f:Nat) (args:List AE)
 | oQ (d:Option Nat) (j:Nat) (want:Bool) (q:Bool) (id:Nat) (o:AO)
 | qm (d:Nat) (j:Nat) (want:Bool) (q:Bool) (id:Nat) (x:AE) (args:List AE)
def ROp.er (B:Nat):ROp->aY
 | .v d o=>⟨some d,none,false,B+d,o⟩
 | .val d q id o=>⟨some d,none,q,id,o⟩
 | .eff d q id o=>⟨some d,none,q,id,o⟩
 | .mc q id o=>⟨none,none,q,id,o⟩
 | .lk d q id f args=>⟨d,none,q,id,.call f args⟩
 | .dyn d q id x args=>⟨d,none,q,id,.dyn x args⟩
 | .qq d j want q id o=>⟨some d,some (j,want),q,id,o⟩
 | .ql d j want q id f args=>⟨some d,some (j,want),q,id,.call f args⟩
 | .oQ d j want q id o=>⟨d,some (j,want),q,id,o⟩
 | .qm d j want q id x args=>⟨some d,some (j,want),q,id,.dyn x args⟩
def evL (st:St):List AE->List AV
 | []=>[]
 | x::r=>ev st x::evL st r
theorem j8 (st:St):∀l,evL st l=l.map (ev st)
 | []=>rfl
 | x::r=>by simp[evL,j8 st r]
def aopsW (P:Program):List ROp->St->KS->Prop
 | [],st,K=>K.ap st
 | .v d o::r,st,K=>(avalR true st o).To λv=>aopsW P r (put st (some d) v) K
 | .val d _ _ o::r,st,K=>(avalR true st o).To λv=>aopsW P r (put st (some d) v) K
 | .eff d _ id o::r,st,K=>(effR id st o).To λv st'=>aopsW P r (put st' (some d) v) K
 | .mc _ id o::r,st,K=>(effR id st o).To λ_ st'=>aopsW P r st' K
 | .lk d q _ f args::r,st,K=>fU P q st f args λv st'=>aopsW P r (put st' d v) K
 | .dyn d q _ x args::r,st,K=>adyn P q st (ev st x) args λv st'=>aopsW P r (put st' d v) K
 | .qq d j want _ _ o::r,st,K=>match grd (sget st.s j) want with
  | some γ=>(γ=false/\aopsW P r (put st (some d) (.gd false .undef)) K)\/(avalR γ st o).To λv=>aopsW P r (put st (some d) (.gd γ v)) K
  | none=>False
 | .ql d j want q _ f args::r,st,K=>match grd (sget st.s j) want with
  | some γ=>(γ=false/\aopsW P r (put st (some d) (.gd false .undef)) K)\/(γ=true/\fU P q st f args λv st'=>aopsW P r (put st' (some d) (.gd true v)) K)\/vo P q γ st f args λv=>aopsW P r (put st (some d) (.gd γ v)) K
  | none=>False
 | .oQ d j want _ id o::r,st,K=>match grd (sget st.s j) want with
  | some γ=>(γ=false/\aopsW P r (put st d (.gd false .undef)) K)\/(γ=true/\(effR id st o).To λv st'=>aopsW P r (put st' d (.gd true v)) K)
  | none=>False
 | .qm d j want q _ x args::r,st,K=>match grd (sget st.s j) want with
  | some γ=>(γ=false/\aopsW P r (put st (some d) (.gd false .undef)) K)\/(γ=true/\adyn P q st (ev st x) args λv st'=>aopsW P r (put st' (some d) (.gd true v)) K)
  | none=>False
def qn (P:Program) (g:Option Bool) (d:Option Nat) (id:Nat) (o:AO) (r:List ROp) (st:St) (K:KS):Prop:=
 match g with
 | some γ=>(γ=false/\aopsW P r (put st d (.gd false .undef)) K)\/(γ=true/\(effR id st o).To λv st'=>aopsW P r (put st' d (.gd true v)) K)
 | none=>False
def geff2 (P:Program) (x:RS) (d:Option Nat) (r:List ROp) (K:KS):Prop:=
 match x with
 | .ok c v st=>c/\aopsW P r (put st d (.gd true v)) K
 | .fail=>False
def valW (P:Program) (x:Res) (d:Nat) (r:List ROp) (st:St) (K:KS):Prop:=
 match x with
 | .ok c v=>c/\aopsW P r ⟨(d,v)::st.s,st.h⟩ K
 | .fail=>False
def oE (P:Program) (x:RS) (d:Nat) (r:List ROp) (K:KS):Prop:=
 match x with
 | .ok c v st=>c/\aopsW P r ⟨(d,v)::st.s,st.h⟩ K
 | .fail=>False
def oD (P:Program) (x:RS) (r:List ROp) (K:KS):Prop:=
 match x with
 | .ok c _ st=>c/\aopsW P r st K
 | .fail=>False
def jr (P:Program) (q:Bool) (st:St) (f:Nat) (args:List AE) (as:List AV) (d:Option Nat) (r:List ROp) (K:KS):Prop:=
 as=args.map (ev st)->fU P q st f args λv st'=>aopsW P r (put st' d v) K
def th (P:Program) (g:Option Bool) (d:Nat) (o:AO) (r:List ROp) (st:St) (K:KS):Prop:=
 match g with
 | some γ=>(γ=false/\aopsW P r (put st (some d) (.gd false .undef)) K)\/(avalR γ st o).To λv=>aopsW P r (put st (some d) (.gd γ v)) K
 | none=>False
def tg (P:Program) (γ:Bool) (x:Res) (d:Nat) (r:List ROp) (st:St) (K:KS):Prop:=
 (γ=false/\aopsW P r ⟨(d,.gd false .undef)::st.s,st.h⟩ K)\/match x with
 | .ok c v=>c/\aopsW P r ⟨(d,.gd γ v)::st.s,st.h⟩ K
 | .fail=>False
def ni (P:Program) (γ:Bool) (d:Nat) (o:AO) (r:List ROp) (st:St) (K:KS):Prop:=tg P γ (avalR γ st o) d r st K
def xc (P:Program) (d:Nat) (o:AO) (r:List ROp) (st:St) (K:KS):Prop:=tg P false (avalR false st o) d r st K
def s7 (P:Program) (q:Bool) (g:Option Bool) (st:St) (f:Nat) (args:List AE) (as:List AV) (d:Nat) (r:List ROp) (K:KS):Prop:=
 as=args.map (ev st)->match g with
 | some γ=>(γ=false/\aopsW P r (put st (some d) (.gd false .undef)) K)\/(γ=true/\fU P q st f args λv st'=>aopsW P r (put st' (some d) (.gd true v)) K)\/vo P q γ st f args λv=>aopsW P r (put st (some d) (.gd γ v)) K
 | none=>False
def s8 (P:Program) (q:Bool) (g:Option Bool) (st:St) (v:AV) (args:List AE) (as:List AV) (d:Nat) (r:List ROp) (K:KS):Prop:=
 as=args.map (ev st)->match g with
 | some γ=>(γ=false/\aopsW P r (put st (some d) (.gd false .undef)) K)\/(γ=true/\adyn P q st v args λv st'=>aopsW P r (put st' (some d) (.gd true v)) K)
 | none=>False
def sj (P:Program) (q:Bool) (st:St) (f:Nat) (args:List AE) (as:List AV) (d:Nat) (r:List ROp) (K:KS):Prop:=
 as=args.map (ev st)->fU P q st f args λv st'=>aopsW P r (put st' (some d) (.gd true v)) K
section
variable {P:Program} {st:St} {K:KS} {r:List ROp} {q:Bool} {id d j:Nat} {o:AO}
theorem Ic:aopsW P [] st K=K.ap st:=(rfl)
theorem Ig:aopsW P (.val d q id o::r) st K=valW P (avalR true st o) d r st K:=by
 simp only[aopsW,valW];cases avalR true st o<;>rfl
theorem Ie:aopsW P (.v d o::r) st K=valW P (avalR true st o) d r st K:=by
 simp only[aopsW,valW];cases avalR true st o<;>rfl
theorem zw {c:Prop} {v:AV}:valW P (.ok c v) d r st K=(c/\aopsW P r ⟨(d,v)::st.s,st.h⟩ K):=(rfl)
theorem abA:valW P .fail d r st K=False:=(rfl)
theorem H6:aopsW P (.eff d q id o::r) st K=oE P (effR id st o) d r K:=by
 simp only[aopsW,oE];cases effR id st o<;>rfl
theorem wC {c:Prop} {v:AV}:oE P (.ok c v st) d r K=(c/\aopsW P r ⟨(d,v)::st.s,st.h⟩ K):=(rfl)
theorem MN:oE P .fail d r K=False:=(rfl)
theorem H7:aopsW P (.mc q id o::r) st K=oD P (effR id st o) r K:=by
 simp only[aopsW,oD];cases effR id st o<;>rfl
theorem wB {c:Prop} {v:AV}:oD P (.ok c v st) r K=(c/\aopsW P r st K):=(rfl)
theorem MF:oD P .fail r K=False:=(rfl)
theorem vA {d:Option Nat} {f:Nat} {args:List AE}:aopsW P (.lk d q id f args::r) st K=jr P q st f args (evL st args) d r K:=by
 simp only[aopsW,jr,j8,forall_const]
def wz (P:Program) (q:Bool) (st:St) (v:AV) (args:List AE) (as:List AV) (d:Option Nat) (r:List ROp) (K:KS):Prop:=
 as=args.map (ev st)->adyn P q st v args λv st'=>aopsW P r (put st' d v) K
theorem H4 {d:Option Nat} {x:AE} {args:List AE}:aopsW P (.dyn d q id x args::r) st K=wz P q st (ev st x) args (evL st args) d r K:=by
 simp only[aopsW,wz,j8,forall_const]
theorem H9 {w:Bool} {x:AE} {args:List AE}:aopsW P (.qm d j w q id x args::r) st K=s8 P q (grd (sget st.s j) w) st (ev st x) args (evL st args) d r K:=by
 simp only[aopsW,s8,j8,forall_const]
theorem CB {f:Nat} {args:List AE} {as:List AV} (hf:callable P f=true) (h:sj P q st f args as d r K):s8 P q (some true) st (.gd true (.lit (.func (.func f) #[] #[]))) args as d r K:=
 λe=>.inr ⟨rfl,⟨rfl,rfl⟩,hf,h e⟩
theorem CA {v:AV} {args:List AE} {as:List AV} (h:aopsW P r ⟨(d,.gd false .undef)::st.s,st.h⟩ K):s8 P q (some false) st v args as d r K:=λ_=>.inl ⟨rfl,h⟩
theorem wA {d:Option Nat} {f:Nat} {args:List AE} {as:List AV} (hf:callable P f=true) (h:jr P q st f args as d r K):wz P q st (.lit (.func (.func f) #[] #[])) args as d r K:=
 λe=>⟨⟨rfl,rfl⟩,hf,h e⟩
theorem Ib {w:Bool}:aopsW P (.qq d j w q id o::r) st K=th P (grd (sget st.s j) w) d o r st K:=(rfl)
theorem OS {γ:Bool}:th P (some γ) d o r st K=ni P γ d o r st K:=by
 simp only[th,ni,tg];cases avalR γ st o<;>rfl
def tf (P:Program) (γ:Bool) (x:Res) (d:Nat) (r:List ROp) (st:St) (K:KS):Prop:=
 match x with
 | .ok c v=>c/\aopsW P r ⟨(d,.gd γ v)::st.s,st.h⟩ K
 | .fail=>False
theorem OM {γ:Bool} {c:Prop} {v:AV}:tf P γ (.ok c v) d r st K=(c/\aopsW P r ⟨(d,.gd γ v)::st.s,st.h⟩ K):=(rfl)
theorem OO:ni P false d o r st K=xc P d o r st K:=by simp only[ni,xc]
theorem OP:ni P true d o r st K=tf P true (avalR true st o) d r st K:=by
 simp[ni,tg,tf]
theorem cC (h:aopsW P r ⟨(d,.gd false .undef)::st.s,st.h⟩ K):xc P d o r st K:=.inl ⟨rfl,h⟩
theorem cB {γ:Bool} (h:tf P γ (avalR γ st o) d r st K):ni P γ d o r st K:=.inr h
theorem HY {c p:Prop} (h:c):(c/\p)=p:=by simp[h]
theorem OQ:th P none d o r st K=False:=(rfl)
theorem Ia {w:Bool} {d:Option Nat}:aopsW P (.oQ d j w q id o::r) st K=qn P (grd (sget st.s j) w) d id o r st K:=(rfl)
theorem Ou {d:Option Nat}:qn P (some true) d id o r st K=geff2 P (effR id st o) d r K:=by
 simp only[qn,geff2,Bool.true_eq_false,false_and,false_or,true_and];cases effR id st o<;>rfl
theorem Ot {d:Option Nat}:qn P (some false) d id o r st K=aopsW P r (put st d (.gd false .undef)) K:=by
 simp[qn]
theorem Oq {d:Option Nat} {c:Prop} {v:AV}:geff2 P (.ok c v st) d r K=(c/\aopsW P r (put st d (.gd true v)) K):=(rfl)
theorem H8 {w:Bool} {f:Nat} {args:List AE}:aopsW P (.ql d j w q id f args::r) st K=s7 P q (grd (sget st.s j) w) st f args (evL st args) d r K:=by
 simp only[aopsW,s7,j8,forall_const]
end
theorem z8 {P:Program} {q:Bool} {st:St} {id:Nat} {o:AO} {K:AV->St->Prop} (h:(avalR true st o).To λv=>K v st):aop1 P q st id o K:=by
 have h':=Ah h;cases o<;>first | exact h.elim | (simp only[aop1,isEff,ac5,if_false];exact h')
theorem vu {P:Program} {q:Bool} {st:St} {id:Nat} {o:AO} {K:AV->St->Prop} (h:(effR id st o).To K):aop1 P q st id o K:=by
 have h':=MI h;cases o<;>first | exact h.elim | (simp only[aop1,isEff,if_true];exact h')
theorem H2 {P:Program} {q γ:Bool} {st:St} {o:AO} {K:AV->Prop} (h:(avalR γ st o).To K):aopG P q γ st o K:=by
 have h':=Ah h;cases o<;>first | exact h.elim | exact h'
theorem zW {P:Program} {q:Bool} {st:St} {v:AV} {args:List AE} {K K':AV->St->Prop} (hK:∀v st',K v st'->K' v st') (h:adyn P q st v args K):adyn P q st v args K':=by
 revert h
 unfold adyn;split
 ·rintro⟨e1,e2,h⟩;refine⟨e1,e2,λE ρ a w vs h1 h2 h3=>(h E ρ a w vs h1 h2 h3).mono ?_⟩;rintro e w' ⟨v,ρ',st',av,g1,g2,g3,g4,g5⟩;exact⟨v,ρ',st',av,g1,g2,g3,hK _ _ g4,g5⟩
 ·rintro⟨e1,e2,h⟩;refine⟨e1,e2,λE ρ a w vs h1 h2 h3=>(h E ρ a w vs h1 h2 h3).mono ?_⟩;rintro e w' ⟨v,ρ',st',av,g1,g2,g3,g4,g5⟩;exact⟨v,ρ',st',av,g1,g2,g3,hK _ _ g4,g5⟩
 ·rintro⟨e1,h⟩;refine⟨e1,λE ρ a w vs h1 h2 h3=>(h E ρ a w vs h1 h2 h3).mono ?_⟩;rintro e w' ⟨v,ρ',st',av,g1,g2,g3,g4,g5⟩;exact⟨v,ρ',st',av,g1,g2,g3,hK _ _ g4,g5⟩
 exact λh=>h
theorem ed {P:Program} {B:Nat} {K:KS} {K':St->Prop} (hK:∀st,K.ap st->K' st):∀(l:List ROp) {st:St},aopsW P l st K->aops P (l.map (ROp.er B)) st K'
 | [],st,h=>hK _ h
 | .v d o::r,st,h=>by
  refine z8 ?_;simp only[aopsW]at h
  revert h
  cases avalR true st o with
  | ok c v=>exact λh=>⟨h.1,ed hK r h.2⟩
  | fail=>exact λh=>h
 | .val d q id o::r,st,h=>by
  refine z8 ?_;simp only[aopsW]at h
  revert h
  cases avalR true st o with
  | ok c v=>exact λh=>⟨h.1,ed hK r h.2⟩
  | fail=>exact λh=>h
 | .eff d q id o::r,st,h=>by
  refine vu ?_;simp only[aopsW]at h
  revert h
  cases effR id st o with
  | ok c v st'=>exact λh=>⟨h.1,ed hK r h.2⟩
  | fail=>exact λh=>h
 | .mc q id o::r,st,h=>by
  refine vu ?_;simp only[aopsW]at h
  revert h
  cases effR id st o with
  | ok c v st'=>exact λh=>⟨h.1,ed hK r h.2⟩
  | fail=>exact λh=>h
 | .lk d q id f args::r,st,h=>by
  intro E ρ a w vs h1 h2 h3;refine(h E ρ a w vs h1 h2 h3).mono ?_;rintro e w' ⟨v,ρ',st',av,g1,g2,g3,g4,g5⟩
  exact⟨v,ρ',st',av,g1,g2,g3,ed hK r g4,g5⟩
 | .dyn d q id x args::r,st,h=>by
  simp only[aopsW]at h;simp only[adi,ROp.er,aops,aop1]
  exact zW (λv st' h=>ed hK r h) h
 | .qq d j want q id o::r,st,h=>by
  simp only[aopsW]at h;simp only[adi,ROp.er,aops]
  revert h
  cases grd (sget st.s j) want with
  | none=>exact λh=>h
  | some γ=>
   intro h;have h:(γ=false/\aopsW P r (put st (some d) (.gd false .undef)) K)\/(avalR γ st o).To λv=>aopsW P r (put st (some d) (.gd γ v)) K:=h;refine h.imp (λx=>⟨x.1,ed hK r x.2⟩) (λh=>.inr ?_);refine H2 ?_
   revert h
   cases avalR γ st o with
   | ok c v=>exact λh=>⟨h.1,ed hK r h.2⟩
   | fail=>exact λh=>h
 | .ql d j want q id f args::r,st,h=>by
  simp only[aopsW]at h;simp only[adi,ROp.er,aops]
  revert h
  cases grd (sget st.s j) want with
  | none=>exact λh=>h
  | some γ=>
   rintro(x | x | ⟨v,h1,h2⟩);exact .inl ⟨x.1,ed hK r x.2⟩
   ·refine .inr (.inl ⟨x.1,λE ρ a w vs h1 h2 h3=>(x.2 E ρ a w vs h1 h2 h3).mono ?_⟩);rintro e w' ⟨v,ρ',st',av,g1,g2,g3,g4,g5⟩;exact⟨v,ρ',st',av,g1,g2,g3,ed hK r g4,g5⟩
   ·exact .inr (.inr ⟨v,h1,ed hK r h2⟩)
 | .oQ d j want q id o::r,st,h=>by
  simp only[aopsW]at h;simp only[adi,ROp.er,aops]
  revert h
  cases grd (sget st.s j) want with
  | none=>exact λh=>h
  | some γ=>
   rintro(x | ⟨x,h⟩);exact .inl ⟨x.1,ed hK r x.2⟩
   ·refine .inr (.inl ⟨x,vu ?_⟩)
    revert h
    cases effR id st o with
    | ok c v st'=>exact λh=>⟨h.1,ed hK r h.2⟩
    | fail=>exact λh=>h
 | .qm d j want q id x args::r,st,h=>by
  simp only[aopsW]at h;simp only[adi,ROp.er,aops]
  revert h
  cases grd (sget st.s j) want with
  | none=>exact λh=>h
  | some γ=>
   rintro(x | ⟨x,h⟩);exact .inl ⟨x.1,ed hK r x.2⟩;exact .inr (.inl ⟨x,zW (λv st' h=>ed hK r h) h⟩)
theorem mP {P:Program} {B:Nat} (l:List ROp) {st:St} {K:KS} (h:aopsW P l st K):aops P (l.map (ROp.er B)) st K.ap:=ed (λ_ h=>h) l h
def trim (s:List (Nat×AV)):List Nat->List (Nat×AV)
 | []=>[]
 | k::r=>match sget s k with
  | some v=>(k,v)::trim s r
  | none=>trim s r
def zn (o:Option AV) (k:Nat) (s:List (Nat×AV)) (r:List Nat):List (Nat×AV):=
 match o with
 | some v=>(k,v)::trim s r
 | none=>trim s r
theorem abh (s:List (Nat×AV)) (k:Nat) (r:List Nat):trim s (k::r)=zn (sget s k) k s r:=(rfl)
theorem abj (s:List (Nat×AV)):trim s []=[]:=(rfl)
theorem abg (v:AV) (k:Nat) (s:List (Nat×AV)) (r:List Nat):zn (some v) k s r=(k,v)::trim s r:=(rfl)
theorem abf (k:Nat) (s:List (Nat×AV)) (r:List Nat):zn none k s r=trim s r:=(rfl)
theorem mz (s:List (Nat×AV)):∀ks,fe s (trim s ks)
 | []=>trivial
 | k::r=>by
  unfold trim;split
  ·rename_i v hv;exact⟨hv,mz s r⟩
  exact mz s r
theorem nI {E:Env} {ρ:Loc} {st:St} {s':List (Nat×AV)} {a:Act} {w:World} (h:ai E ρ st a w) (hs:fe st.s s'):ai E ρ ⟨s',st.h⟩ a w:=
 ⟨h.defers,h.size,λk av hk=>h.aX k av (xH hs k av hk),h.heap,h.base,h.an,h.x0⟩
inductive DT where
 | die (o:ROp)
 | step (o:ROp) (t:DT)
 | br (x y:DT)
def DT.er (B:Nat):DT->AT aY
 | .die o=>.cons (o.er B) .nil
 | .step o t=>.cons (o.er B) (t.er B)
 | .br x y=>.br (x.er B) (y.er B)
def sJ (o:ROp):Bool:=qe (o.er 0)
theorem BC (o:ROp) (B:Nat):qe (o.er B)=sJ o:=by cases o<;>rfl
def DT.ok:DT->Bool
 | .die o=>sJ o
 | .step o t=>!sJ o&&t.ok
 | .br x y=>x.ok&&y.ok
def dieOpW (P:Program) (o:ROp) (st:St) (Q:KQ):Prop:=
 match o with
 | .lk _ _ _ f args=>rO P st f args λV st'=>Q.ap (.panic (bS V)) st'
 | .mc _ _ (.iJ x)=>∃t v,ev st x=.lit (.iface t v)/\Q.ap (.panic (bS (.iface t v))) st
 | _=>False
def dtW (P:Program):DT->St->KQ->Prop
 | .die o,st,Q=>dieOpW P o st Q
 | .step o t,st,Q=>aopsW P [o] st ⟨λst'=>dtW P t st' Q⟩
 | .br x y,st,Q=>dtW P x st Q/\dtW P y st Q
theorem wo {P:Program} {B:Nat} {o:ROp} {st:St} {Q:KQ} (h:dieOpW P o st Q):dieOp P (o.er B) st λV st'=>Q.ap (.panic (bS V)) st':=by
 unfold dieOpW at h;split at h;exact h;exact h;exact h.elim
theorem sP {P:Program} {B:Nat} {Q:KQ}:∀(T:DT) {st:St},T.ok=true->dtW P T st Q->dieF P (T.er B) st λV st'=>Q.ap (.panic (bS V)) st'
 | .die o,st,hok,h=>by
  simp only[DT.er,dieF,BC,show sJ o=true from hok,if_true]
  exact wo h
 | .step o t,st,hok,h=>by
  simp only[DT.ok,acX,ae4]at hok;simp only[DT.er,dieF,BC,hok.1,ac5,if_false]
  exact ed (K:=⟨λst'=>dtW P t st' Q⟩) (λst' h'=>sP t hok.2 h') [o] h
 | .br x y,st,hok,h=>by
  simp only[DT.ok,acX]at hok;exact⟨sP x hok.1 h.1,sP y hok.2 h.2⟩
theorem vB (P:Program) (o:ROp) (r:List ROp) (st:St) (K:KS):aopsW P (o::r) st K=aopsW P [o] st ⟨λst'=>aopsW P r st' K⟩:=by cases o<;>rfl
theorem BA {P:Program} {B:Nat} {K:KS} {K':St->Prop} {KD:Value->St->Prop} (hK:∀st,K.ap st->K' st):∀(l:List ROp) {st:St},aopsW P l st K->mX P (l.map (ROp.er B)) st K' KD
 | [],st,h=>hK _ h
 | o::r,st,h=>by
  rw[vB]at h;exact .inr (ed (λst' h'=>BA hK r h') [o] h)
theorem wx {P:Program} {B:Nat} {Q:KQ} {K:KS} {K':St->Prop} {o:ROp} {post:List ROp} (hK:∀st,K.ap st->K' st):∀(pre:List ROp) {st:St},aopsW P pre st ⟨λst'=>dieOpW P o st' Q\/aopsW P (o::post) st' K⟩ ->
    mX P ((pre++o::post).map (ROp.er B)) st K' λV st'=>Q.ap (.panic (bS V)) st'
 | [],st,h=>by
  rcases h with h | h;exact .inl (wo h)
  ·exact BA hK (o::post) h
 | p::r,st,h=>by
  rw[vB]at h;exact .inr (ed (λst' h'=>wx hK r h') [p] h)
theorem BH {P:Program} {B:Nat} {Q:KQ} {K:KS} {K':St->Prop} {o o2:ROp} {cP post:List ROp} (hK:∀st,K.ap st->K' st):∀(pre:List ROp) {st:St},aopsW P pre st ⟨λst'=>dieOpW P o st' Q\/aopsW P (o::cP) st' ⟨λst''=>dieOpW P o2 st'' Q\/aopsW P (o2::post) st'' K⟩⟩ ->
    mX P ((pre++o::(cP++o2::post)).map (ROp.er B)) st K' λV st'=>Q.ap (.panic (bS V)) st'
 | [],st,h=>by
  rcases h with h | h;exact .inl (wo h)
  ·exact wx hK (o::cP) h
 | p::r,st,h=>by
  rw[vB]at h;exact .inr (ed (λst' h'=>BH hK r h') [p] h)
inductive RT where
 | leaf (ops:List ROp)
 | node (p:List ROp) (x y:RT)
def RT.er (B:Nat):RT->AT aY
 | .leaf ops=>AT.pre (ops.map (ROp.er B)) .nil
 | .node p x y=>AT.pre (p.map (ROp.er B)) (.br (x.er B) (y.er B))
def kn (P:Program):RT->St->KS->Prop
 | .leaf ops,st,K=>aopsW P ops st K
 | .node p x y,st,K=>aopsW P p st ⟨λst=>kn P x st K/\kn P y st K⟩
def KS.two (P:Program) (x y:RT) (K:KS):KS:=⟨λst=>kn P x st K/\kn P y st K⟩
theorem YT {P:Program} {ops:List ROp} {st:St} {K:KS}:kn P (.leaf ops) st K=aopsW P ops st K:=(rfl)
theorem YU {P:Program} {p:List ROp} {x y:RT} {st:St} {K:KS}:kn P (.node p x y) st K=aopsW P p st (KS.two P x y K):=(rfl)
theorem R6 {P:Program} {x y:RT} {st:St} {K:KS}:(KS.two P x y K).ap st=(kn P x st K/\kn P y st K):=(rfl)
theorem yR {P:Program} {B:Nat} {K:KS} {K':St->Prop} (hK:∀st,K.ap st->K' st):∀(T:RT) {st:St},kn P T st K->aopsT P (T.er B) st K'
 | .leaf ops,st,h=>by
  unfold RT.er;rw[ym]
  exact ed (B:=B) hK ops h
 | .node p x y,st,h=>by
  unfold RT.er;rw[ym];exact ed (B:=B) (λst h=>⟨yR hK x h.1,yR hK y h.2⟩) p h
inductive AK where
 | skip
 | ck (ops:List ROp) (keep:List Nat)
 | seq (x y:AK)
 | cond (c:AE) (x y:AK)
 | block (id:Nat) (x:AK)
 | loop (x:AK)
 | exit (id:Nat)
 | ret
 | cP (x:AK)
 | scope (x:AK)
 | label (l:Nat)
 | goto (l:Nat)
 | split (ops:List ROp) (d f:Nat) (x:AE) (c:UInt8) (bk p q0:Nat) (body:AK)
 | back (ops:List ROp) (d f kx bk p1 p q0:Nat) (body:AK)
 | alt (p x y:List ROp) (keep:List Nat)
 | gm (T:RT) (keep:List Nat)
 | ga (pre:List ROp) (o:ROp) (post:List ROp) (keep:List Nat)
 | ph (pre:List ROp) (o:ROp) (cP:List ROp) (o2:ROp) (post:List ROp) (keep:List Nat)
 | gV (p x y:List ROp) (keep:List Nat) (T:DT)
 | fH (f:Nat) (args:List AE)
 | bad
def AK.erase (B:Nat):AK->AC
 | .skip=>.skip
 | .ck ops _=>.ck (ops.map (ROp.er B))
 | .seq x y=>.seq (x.erase B) (y.erase B)
 | .cond c x y=>.cond c (x.erase B) (y.erase B)
 | .block id x=>.block id (x.erase B)
 | .loop x=>.loop (x.erase B)
 | .exit id=>.exit id
 | .ret=>.ret
 | .cP x=>(x.erase B)
 | .scope x=>.scope (x.erase B)
 | .label l=>.label l
 | .goto l=>.goto l
 | .split ops d f x c bk p q0 body=>.seq (.iu (ops.map (ROp.er B)++[⟨some d,none,false,B+d,.call f [x,.c (.str [c])]⟩])) (.block bk (.iv (.t d) [p] (.ck [⟨some q0,none,false,B+q0,.ij (.t p)⟩]) (body.erase B)))
 | .back ops d f kx bk p1 p q0 body=>.seq (.iu (ops.map (ROp.er B)++[⟨some d,none,false,B+d,.call f [.t kx]⟩])) (.block bk (.iv (.t d) [p1,p] (.ck [⟨some q0,none,false,B+q0,.ij (.t p)⟩]) (body.erase B)))
 | .alt p x y _=>.alt (p.map (ROp.er B)) (x.map (ROp.er B)) (y.map (ROp.er B))
 | .gm T _=>.gm (T.er B)
 | .ga pre o post _=>.ga ((pre++o::post).map (ROp.er B))
 | .ph pre o md o2 post _=>.ga ((pre++o::(md++o2::post)).map (ROp.er B))
 | .gV p x y _ T=>.gV (p.map (ROp.er B)) (x.map (ROp.er B)) (y.map (ROp.er B)) (T.er B)
 | .fH f args=>.fH f args
 | .bad=>.bad
def vcW (P:Program) (E:Env):AK->KQ->St->Prop
 | .skip,Q,st=>Q.ap .normal st
 | .ck ops ks,Q,st=>aopsW P ops st ⟨λst=>Q.ap .normal ⟨trim st.s ks,st.h⟩⟩
 | .seq x y,Q,st=>vcW P E x ⟨lf (λst=>vcW P E y Q st) Q.ap⟩ st
 | .cond c x y,Q,st=>match ev st c with
  | .bool b=>(b=true->vcW P E x Q st)/\(b=false->vcW P E y Q st)
  | _=>False
 | .block id x,Q,st=>vcW P E x ⟨blockQ id Q.ap⟩ st
 | .loop x,Q,st=>bN P E (.loop (x.erase E.B)) st Q.ap
 | .exit id,Q,st=>Q.ap (.exit id) st
 | .ret,Q,st=>Q.ap .ret st
 | .cP x,Q,st=>bN P E (x.erase E.B) st Q.ap
 | .scope x,Q,st=>bN P E (.scope (x.erase E.B)) st Q.ap
 | .label _,Q,st=>Q.ap .normal st
 | .goto l,Q,st=>Q.ap (.goto l) st
 | .split ops d f x c bk p q0 body,Q,st=>aopsW P ops st ⟨splitK P E d f x c bk p q0 (body.erase E.B) Q.ap⟩
 | .back ops d f kx bk p1 p q0 body,Q,st=>aopsW P ops st ⟨pR P E d f kx bk p1 p q0 (body.erase E.B) Q.ap⟩
 | .alt p x y ks,Q,st=>aopsW P p st ⟨λst=>aopsW P x st ⟨λst=>Q.ap .normal ⟨trim st.s ks,st.h⟩⟩/\aopsW P y st ⟨λst=>Q.ap .normal ⟨trim st.s ks,st.h⟩⟩⟩
 | .gm T ks,Q,st=>kn P T st ⟨λst=>Q.ap .normal ⟨trim st.s ks,st.h⟩⟩
 | .ga pre o post ks,Q,st=>aopsW P pre st ⟨λst=>dieOpW P o st Q\/aopsW P (o::post) st ⟨λst=>Q.ap .normal ⟨trim st.s ks,st.h⟩⟩⟩
 | .ph pre o md o2 post ks,Q,st=>aopsW P pre st ⟨λst=>dieOpW P o st Q\/aopsW P (o::md) st ⟨λst=>dieOpW P o2 st Q\/aopsW P (o2::post) st ⟨λst=>Q.ap .normal ⟨trim st.s ks,st.h⟩⟩⟩⟩
 | .gV p x y ks T,Q,st=>(aopsW P p st ⟨λst=>aopsW P x st ⟨λst=>Q.ap .normal ⟨trim st.s ks,st.h⟩⟩/\aopsW P y st ⟨λst=>Q.ap .normal ⟨trim st.s ks,st.h⟩⟩⟩)\/(T.ok=true/\dtW P T st Q)
 | .fH _ _,_,_=>False
 | .bad,_,_=>False
def KS.ck (ks:List Nat) (Q:KQ):KS:=⟨λst=>Q.ap .normal ⟨trim st.s ks,st.h⟩⟩
def KS.alt (P:Program) (x y:List ROp) (ks:List Nat) (Q:KQ):KS:=⟨λst=>aopsW P x st (KS.ck ks Q)/\aopsW P y st (KS.ck ks Q)⟩
def oB (P:Program) (o:ROp) (post:List ROp) (ks:List Nat) (Q:KQ) (st:St):Prop:=dieOpW P o st Q\/aopsW P (o::post) st (KS.ck ks Q)
def KS.sM (P:Program) (o:ROp) (post:List ROp) (ks:List Nat) (Q:KQ):KS:=⟨oB P o post ks Q⟩
def sK (P:Program) (o:ROp) (cP:List ROp) (o2:ROp) (post:List ROp) (ks:List Nat) (Q:KQ) (st:St):Prop:=dieOpW P o st Q\/aopsW P (o::cP) st (KS.sM P o2 post ks Q)
def KS.BG (P:Program) (o:ROp) (cP:List ROp) (o2:ROp) (post:List ROp) (ks:List Nat) (Q:KQ):KS:=⟨sK P o cP o2 post ks Q⟩
def KS.dt (P:Program) (T:DT) (Q:KQ):KS:=⟨λst=>dtW P T st Q⟩
def KQ.seq (P:Program) (E:Env) (y:AK) (Q:KQ):KQ:=⟨lf (λst=>vcW P E y Q st) Q.ap⟩
def KQ.c8 (id:Nat) (Q:KQ):KQ:=⟨blockQ id Q.ap⟩
def KQ.gb (R:KS) (Q:KQ):KQ:=⟨lf R.ap Q.ap⟩
def KS.Gg (P:Program) (E:Env) (d f:Nat) (x:AE) (c:UInt8) (bk p q0:Nat) (body:AK) (Q:KQ):KS:=⟨splitK P E d f x c bk p q0 (body.erase E.B) Q.ap⟩
def Gh (P:Program) (E:Env) (d f:Nat) (x:AE) (c:UInt8) (bk p q0:Nat) (body:AK) (Q:KQ) (st:St):Prop:=splitK P E d f x c bk p q0 (body.erase E.B) Q.ap st
def KS.Ap (P:Program) (E:Env) (d f kx bk p1 p q0:Nat) (body:AK) (Q:KQ):KS:=⟨pR P E d f kx bk p1 p q0 (body.erase E.B) Q.ap⟩
def Am (P:Program) (E:Env) (d f kx bk p1 p q0:Nat) (body:AK) (Q:KQ) (st:St):Prop:=pR P E d f kx bk p1 p q0 (body.erase E.B) Q.ap st
def KQ.jmp (l:Nat) (R:KS) (Q:KQ):KQ:=⟨jumpQ l R.ap Q.ap⟩
def KQ.tS (Q:KQ):KQ:=⟨TT Q.ap⟩
def findK:AK->Nat->Option AK
 | .seq a b,l=>match findK a l with
  | some r=>some (.seq r b)
  | none=>findK b l
 | .label l',l=>if l'==l then some .skip else none
 | .cP x,l=>findK x l
 | _,_=>none
theorem sU (B:Nat):∀(c:AK) (l:Nat),findA (c.erase B) l=(findK c l).map (AK.erase B)
 | .seq a b,l=>by
  simp only[AK.erase,findA,findK,sU B a l]
  cases findK a l with
  | some r=>rfl
  | none=>exact sU B b l
 | .label l',l=>by
  simp only[AK.erase,findA,findK]
  split<;>rfl
 | .cP x,l=>by simp only[AK.erase,findK,sU B x l]
 | .skip,_ | .ck _ _,_ | .cond _ _ _,_ | .block _ _,_ | .loop _,_ | .exit _,_ | .ret,_ | .scope _,_ | .goto _,_ | .bad,_ | .alt _ _ _ _,_=>rfl
 | .split _ _ _ _ _ _ _ _ _,_=>rfl
 | .back _ _ _ _ _ _ _ _ _,_=>rfl
 | .ga _ _ _ _,_=>rfl
 | .ph _ _ _ _ _ _,_=>rfl
 | .gm _ _,_=>rfl
 | .gV _ _ _ _ _,_=>rfl
 | .fH _ _,_=>rfl
def nn (P:Program) (E:Env) (b:Bool) (x y:AK) (Q:KQ) (st:St):Prop:=(b=true->vcW P E x Q st)/\(b=false->vcW P E y Q st)
def vY (P:Program) (E:Env) (v:AV) (x y:AK) (Q:KQ) (st:St):Prop:=
 match v with
 | .bool b=>nn P E b x y Q st
 | _=>False
section
variable {P:Program} {E:Env} {st:St} {Q:KQ} {x y:AK} {R:KS}
theorem RZ {ks:List Nat}:(KS.ck ks Q).ap st=Q.ap .normal ⟨trim st.s ks,st.h⟩:=(rfl)
theorem RO {a b:List ROp} {ks:List Nat}:(KS.alt P a b ks Q).ap st=(aopsW P a st (KS.ck ks Q)/\aopsW P b st (KS.ck ks Q)):=(rfl)
theorem RC:(KQ.seq P E y Q).ap .normal st=vcW P E y Q st:=(rfl)
theorem RG:(KQ.seq P E y Q).ap .ret st=Q.ap .ret st:=(rfl)
theorem RH {i:Nat}:(KQ.seq P E y Q).ap (.exit i) st=Q.ap (.exit i) st:=(rfl)
theorem Q0 {i:Nat}:(KQ.c8 i Q).ap .normal st=Q.ap .normal st:=(rfl)
theorem Q2 {i:Nat}:(KQ.c8 i Q).ap .ret st=Q.ap .ret st:=(rfl)
theorem Q3 {i j:Nat}:(KQ.c8 i Q).ap (.exit j) st=if j=i then Q.ap .normal st else Q.ap (.exit j) st:=(rfl)
theorem RA {i:Nat}:(KQ.seq P E y Q).ap (.goto i) st=Q.ap (.goto i) st:=(rfl)
theorem QZ {i j:Nat}:(KQ.c8 i Q).ap (.goto j) st=Q.ap (.goto j) st:=(rfl)
theorem Ru {i:Nat}:(KQ.gb R Q).ap (.goto i) st=Q.ap (.goto i) st:=(rfl)
theorem Rb {l:Nat}:(KQ.jmp l R Q).ap .normal st=Q.ap .normal st:=(rfl)
theorem Re {l:Nat}:(KQ.jmp l R Q).ap .ret st=Q.ap .ret st:=(rfl)
theorem Rf {l i:Nat}:(KQ.jmp l R Q).ap (.exit i) st=Q.ap (.exit i) st:=(rfl)
theorem Ra {l:Nat}:(KQ.jmp l R Q).ap (.goto l) st=R.ap st:=by simp[KQ.jmp,jumpQ]
theorem RE {c:List PanicEntry}:(KQ.seq P E y Q).ap (.panic c) st=Q.ap (.panic c) st:=(rfl)
theorem Q1 {i:Nat} {c:List PanicEntry}:(KQ.c8 i Q).ap (.panic c) st=Q.ap (.panic c) st:=(rfl)
theorem Rx {c:List PanicEntry}:(KQ.gb R Q).ap (.panic c) st=Q.ap (.panic c) st:=(rfl)
theorem Rc {l:Nat} {c:List PanicEntry}:(KQ.jmp l R Q).ap (.panic c) st=Q.ap (.panic c) st:=(rfl)
theorem Ri {c:List PanicEntry}:(KQ.tS Q).ap (.panic c) st=Q.ap (.panic c) st:=(rfl)
theorem RY {T:DT}:(KS.dt P T Q).ap st=dtW P T st Q:=(rfl)
theorem Mu {o:ROp} {T:DT}:dtW P (.step o T) st Q=aopsW P [o] st (KS.dt P T Q):=(rfl)
theorem Ms {T U:DT}:dtW P (.br T U) st Q=(dtW P T st Q/\dtW P U st Q):=(rfl)
def oz (P:Program) (st:St) (f:Nat) (args:List AE) (as:List AV) (Q:KQ):Prop:=as=evL st args->rO P st f args λV st'=>Q.ap (.panic (bS V)) st'
def oy (P:Program) (q:Bool) (st:St) (f:Nat) (args:List AE) (as:List AV) (d:Option Nat) (r:List ROp) (K:KS) (Q:KQ):Prop:=oz P st f args as Q\/jr P q st f args as d r K
theorem Mt {d:Option Nat} {q:Bool} {id f:Nat} {args:List AE}:dtW P (.die (.lk d q id f args)) st Q=oz P st f args (evL st args) Q:=by
 simp[dtW,dieOpW,oz]
theorem RU {o o2:ROp} {cP post:List ROp} {ks:List Nat}:(KS.BG P o cP o2 post ks Q).ap st=sK P o cP o2 post ks Q st:=(rfl)
theorem RW {o:ROp} {post:List ROp} {ks:List Nat}:(KS.sM P o post ks Q).ap st=oB P o post ks Q st:=(rfl)
theorem L9 {d:Option Nat} {q:Bool} {id f:Nat} {args:List AE} {post:List ROp} {ks:List Nat}:oB P (.lk d q id f args) post ks Q st=oy P q st f args (evL st args) d post (KS.ck ks Q) Q:=by
 simp[oB,dieOpW,oy,oz,vA]
theorem L8 {d:Option Nat} {q:Bool} {id f:Nat} {args:List AE} {o2:ROp} {cP post:List ROp} {ks:List Nat}:sK P (.lk d q id f args) cP o2 post ks Q st=oy P q st f args (evL st args) d cP (KS.sM P o2 post ks Q) Q:=by
 simp[sK,dieOpW,oy,oz,vA]
def pncW (v:AV) (Q:KQ) (st:St):Prop:=
 match v with
 | .lit (.iface t x)=>Q.ap (.panic (bS (.iface t x))) st
 | _=>False
theorem VJ {t:TypeId} {x:Value}:pncW (.lit (.iface t x)) Q st=Q.ap (.panic (bS (.iface t x))) st:=(rfl)
theorem Mc {q:Bool} {id:Nat} {x:AE} {post:List ROp} {ks:List Nat}:oB P (.mc q id (.iJ x)) post ks Q st=pncW (ev st x) Q st:=by
 apply propext;unfold oB dieOpW pncW;constructor
 ·rintro(⟨t,v,h1,h2⟩ | h)
  ·rw[h1];exact h2
  exact h.elim
 ·intro h;split at h
  ·rename_i t v e;exact .inl ⟨t,v,e,h⟩
  exact h.elim
theorem iU {d:Option Nat} {q:Bool} {f:Nat} {args:List AE} {as:List AV} {r:List ROp} {K:KS} (h:jr P q st f args as d r K):oy P q st f args as d r K Q:=.inr h
theorem LG {f:Nat} {args:List AE} {as:List AV} {V:Value} (h0:HP) (hs:gT P f h0 as V) (hsub:dE st.h h0) (h:Q.ap (.panic (bS V)) (oe st h0)):oz P st f args as Q:=by
 rintro rfl;rw[j8]at hs;exact Hm h0 hs (λi W hi=>ki hsub i W hi) h
theorem j5 {d:Option Nat} {q:Bool} {f:Nat} {args:List AE} {as:List AV} {r:List ROp} {K:KS} {V:Value} (h0:HP) (hs:gT P f h0 as V) (hsub:dE st.h h0) (h:Q.ap (.panic (bS V)) (oe st h0)):oy P q st f args as d r K Q:=
 .inl (LG h0 hs hsub h)
theorem og {h0:HP}:oe st h0=⟨killSI (eK h0) [] st.s,dropH (eK h0) [] st.h⟩:=(rfl)
theorem Rh:(KQ.tS Q).ap .normal st=Q.ap .normal st:=(rfl)
theorem Rj:(KQ.tS Q).ap .ret st=Q.ap .ret st:=(rfl)
theorem Rk {i:Nat}:(KQ.tS Q).ap (.exit i) st=Q.ap (.exit i) st:=(rfl)
theorem abM {i:Nat}:vcW P E (.label i) Q st=Q.ap .normal st:=(rfl)
theorem abL {i:Nat}:vcW P E (.goto i) Q st=Q.ap (.goto i) st:=(rfl)
theorem R5 {d f:Nat} {ae:AE} {c:UInt8} {bk p q0:Nat}:(KS.Gg P E d f ae c bk p q0 x Q).ap st=Gh P E d f ae c bk p q0 x Q st:=(rfl)
theorem RQ {d f kx bk p1 p q0:Nat}:(KS.Ap P E d f kx bk p1 p q0 x Q).ap st=Am P E d f kx bk p1 p q0 x Q st:=(rfl)
theorem Rv:(KQ.gb R Q).ap .normal st=R.ap st:=(rfl)
theorem Ry:(KQ.gb R Q).ap .ret st=Q.ap .ret st:=(rfl)
theorem Rz {i:Nat}:(KQ.gb R Q).ap (.exit i) st=Q.ap (.exit i) st:=(rfl)
theorem abT:vcW P E .skip Q st=Q.ap .normal st:=(rfl)
theorem abQ:vcW P E .ret Q st=Q.ap .ret st:=(rfl)
theorem abK {i:Nat}:vcW P E (.exit i) Q st=Q.ap (.exit i) st:=(rfl)
theorem abN {ops:List ROp} {ks:List Nat}:vcW P E (.ck ops ks) Q st=aopsW P ops st (KS.ck ks Q):=(rfl)
theorem abS:vcW P E (.seq x y) Q st=vcW P E x (KQ.seq P E y Q) st:=(rfl)
theorem abI {i:Nat}:vcW P E (.block i x) Q st=vcW P E x (KQ.c8 i Q) st:=(rfl)
theorem abJ {c:AE}:vcW P E (.cond c x y) Q st=vY P E (ev st c) x y Q st:=by
 simp only[vcW,vY];cases ev st c<;>rfl
theorem KY {b:Bool}:vY P E (.bool b) x y Q st=nn P E b x y Q st:=(rfl)
theorem Py:nn P E true x y Q st=vcW P E x Q st:=by simp[nn]
theorem Px:nn P E false x y Q st=vcW P E y Q st:=by simp[nn]
end
theorem Gx {K K':St->Prop} {Q Q':Exit->St->Prop} (hK:∀st,K st->K' st) (hQ:∀e st,Q e st->Q' e st):∀e st,lf K Q e st->lf K' Q' e st:=by
 intro e st h;cases e<;>first | exact hK st h | exact hQ _ st h
theorem gk {P:Program} {E:Env} (hN:E.N<=1000000):∀(c:AK) {st:St} {Q:KQ},vcW P E c Q st->bN P E (c.erase E.B) st Q.ap
 | .skip,st,Q,h=>I4 h
 | .ck ops ks,st,Q,h=>by
  have h':=mP (B:=E.B) ops h;intro n code hc a w hr
  exact yE hN hc h' hr (λst' a' w' h1 ⟨ρ2,h2⟩=>⟨_,⟨ρ2,nI h2 (mz _ ks)⟩,h1⟩)
 | .seq x y,st,Q,h=>I3 (bN.mono (gk hN x h) (Gx (λst' h'=>gk hN y h') (λ_ _ h=>h)))
 | .cond c x y,st,Q,h=>by
  simp only[vcW]at h;split at h
  ·rename_i b hb;exact IW hb (λe=>gk hN x (h.1 e)) (λe=>gk hN y (h.2 e))
  ·exact h.elim
 | .block id x,st,Q,h=>IV (gk hN x h)
 | .loop x,st,Q,h=>h
 | .exit id,st,Q,h=>IX h
 | .ret,st,Q,h=>I1 h
 | .cP x,st,Q,h=>h
 | .scope x,st,Q,h=>h
 | .label l,st,Q,h=>IZ h
 | .goto l,st,Q,h=>IY h
 | .split ops d f x c bk p q0 body,st,Q,h=>I5 hN (mP (B:=E.B) ops h)
 | .back ops d f kx bk p1 p q0 body,st,Q,h=>IU hN (mP (B:=E.B) ops h)
 | .alt p x y ks,st,Q,h=>by
  intro n code hc a w hr;refine HT hN hc (K:=λst=>Q.ap .normal ⟨trim st.s ks,st.h⟩) ?_ hr (λst' a' w' h1 ⟨ρ2,h2⟩=>⟨_,⟨ρ2,nI h2 (mz _ ks)⟩,h1⟩)
  exact ed (B:=E.B) (λst h=>⟨mP (B:=E.B) x h.1,mP (B:=E.B) y h.2⟩) p h
 | .gm T ks,st,Q,h=>by
  intro n code hc a w hr;refine HS hN hc (K:=λst=>Q.ap .normal ⟨trim st.s ks,st.h⟩) ?_ hr (λst' a' w' h1 ⟨ρ2,h2⟩=>⟨_,⟨ρ2,nI h2 (mz _ ks)⟩,h1⟩)
  exact yR (B:=E.B) (λ_ h=>h) T h
 | .ga pre o post ks,st,Q,h=>by
  intro n code hc a w hr
  exact Fs hN hc hr (K:=λst=>Q.ap .normal ⟨trim st.s ks,st.h⟩) (λst' a' w' h1 ⟨ρ2,h2⟩=>⟨_,⟨ρ2,nI h2 (mz _ ks)⟩,h1⟩) (λV st' a' w' h1 h2=>⟨st',h2,h1⟩) (wx (B:=E.B) (λ_ h=>h) pre h)
 | .ph pre o md o2 post ks,st,Q,h=>by
  intro n code hc a w hr
  exact Fs hN hc hr (K:=λst=>Q.ap .normal ⟨trim st.s ks,st.h⟩) (λst' a' w' h1 ⟨ρ2,h2⟩=>⟨_,⟨ρ2,nI h2 (mz _ ks)⟩,h1⟩) (λV st' a' w' h1 h2=>⟨st',h2,h1⟩) (BH (B:=E.B) (λ_ h=>h) pre h)
 | .gV p x y ks T,st,Q,h=>by
  intro n code hc a w hr;refine HR hN hc hr (K:=λst=>Q.ap .normal ⟨trim st.s ks,st.h⟩) (KD:=λV st=>Q.ap (.panic (bS V)) st) (λst' a' w' h1 ⟨ρ2,h2⟩=>⟨_,⟨ρ2,nI h2 (mz _ ks)⟩,h1⟩) (λV st' a' w' h1 h2=>⟨st',h2,h1⟩) ?_;rcases h with h | h;exact .inl (ed (B:=E.B) (λst h=>⟨mP (B:=E.B) x h.1,mP (B:=E.B) y h.2⟩) p h)
  ·exact .inr (sP T h.1 h.2)
 | .fH _ _,st,Q,h=>h.elim
 | .bad,st,Q,h=>h.elim
theorem Ss {s s':List (Nat×AV)} {h h':HP}:Dx ⟨s,h⟩ ⟨s',h'⟩=(fe s s'/\dE h h'):=(rfl)
theorem Sq {s:List (Nat×AV)}:fe s []=True:=(rfl)
theorem Sp {s r:List (Nat×AV)} {k:Nat} {v:AV}:fe s ((k,v)::r)=(sget s k=some v/\fe s r):=(rfl)
theorem Sm {s:HP}:dE s []=True:=(rfl)
theorem Sl {s r:HP} {k:Nat} {v:aG}:dE s ((k,v)::r)=(hget s k=some v/\dE s r):=(rfl)
theorem aD {P:Program} {E:Env} {x:AK} {Q:KQ} {st:St} {α:Type} (hN:E.N<=1000000) (f:α->St) (inv:α->Prop) (ms:α->Nat) (a0:α) (h0:Wk st (f a0)) (hi:inv a0)
    (round:∀a (R:KS),inv a->(∀b st',ms b<ms a->inv b->Wk st' (f b)->R.ap st')->vcW P E x (KQ.gb R Q) (f a)):vcW P E (.loop x) Q st:=by
 show bN P E (.loop (x.erase E.B)) st Q.ap
 refine I0 (λn s=>∃a,inv a/\n=ms a/\Wk s (f a)) (ms a0) ⟨a0,hi,rfl,h0⟩ ?_;rintro n s ⟨a,h1,rfl,hle⟩;refine rX hle (bN.mono (gk hN x (round a ⟨λs=>∃m,m<ms a/\∃a,inv a/\m=ms a/\Wk s (f a)⟩ h1 (λb st' g1 g2 g3=>⟨ms b,g1,b,g2,rfl,g3⟩))) ?_);intro e s h;exact h
theorem cf {P:Program} {E:Env} {x y:AK} {Q:KQ} {st:St} {α:Type} (hN:E.N<=1000000) (f:α->St) (inv:α->Prop)
    (h1:∀R:KS,(∀a st',inv a->Wk st' (f a)->R.ap st')->vcW P E x (KQ.gb R Q) st) (h2:∀a,inv a->vcW P E y Q (f a)):vcW P E (.seq x (.cP y)) Q st:=
 h1 ⟨λst=>bN P E (y.erase E.B) st Q.ap⟩ (λa st' g1 g2=>rX g2 (gk hN y (h2 a g1)))
theorem aad {P:Program} {E:Env} {d f bk p q0:Nat} {x:AE} {c:UInt8} {body:AK} {Q:KQ} {st:St} (hN:E.N<=1000000) (hrd:E.rd=none) (hS:vl P f) (hq0:q0<1000000) {s:List UInt8} (hx:ev st x=.str s) (hlen:s.length<=9223372036854775807)
    {α:Type} (s0:List (Nat×AV)) (H:α->HP) (inv:Nat->α->Prop) (x0:α) (h0:Wk st ⟨s0,H x0⟩) (hi:inv 0 x0) (hd0:sget s0 d=none) (hk0:s0.all (λq=>decide (q.1<3000000))=true)
    (round:∀(E2:Env) k y (R:KQ),E2.N<=1000000->inv k y->k<(splitB c s).length->(∀y' st',inv (k+1) y'->Wk st' ⟨ghost s0,H y'⟩->R.ap .normal st')->(∀st' h',Wk st' ⟨ghost s0,h'⟩->Q.ap .ret ⟨s0,h'⟩->R.ap .ret st') ->
     (∀i st' h',Wk st' ⟨ghost s0,h'⟩->(KQ.c8 bk Q).ap (.exit i) ⟨s0,h'⟩->R.ap (.exit i) st')->vcW P E2 body R ⟨(q0,.str ((splitB c s).getD k []))::(p,.str ((splitB c s).getD k []))::(s0++ghost s0),H y⟩)
    (done:∀y,inv (splitB c s).length y->Q.ap .normal ⟨s0,H y⟩):Gh P E d f x c bk p q0 body Q st:=by
 intro n ops o b a w hd hdN hg hnd htr hb hr;refine aae (body:=body.erase E.B) hN hrd hq0 hS hx hlen s0 H inv x0 h0 hi hd0 (λk v hk=>?_) (λE2 k y h1 h2 h3 h4=>?_) done hd hg hnd htr hdN hb hr
 ·have key:∀(l:List (Nat×AV)),l.all (λq=>decide (q.1<3000000))=true->sget l k=some v->k<3000000:=by
   intro l
   induction l with
   | nil=>intro _ h;simp[sget]at h
   | cons q r ih=>
    obtain⟨j,u⟩:=q;intro hl h;simp only[adY,acX,decide_eq_true_eq]at hl;simp only[sget]at h;split at h
    ·rename_i e;omega
    exact ih hl.2 h
  exact key s0 hk0 hk
 ·rw[<-h2];exact gk acN body (round E2 k y ⟨uz (λst'=>∃y',inv (k+1) y'/\Wk st' ⟨ghost s0,H y'⟩) s0 (blockQ bk Q.ap)⟩ acN h3 h4 (λy' st' g1 g2=>⟨y',g1,g2⟩) (λst' h' g1 g2=>⟨h',g1,g2⟩) (λi st' h' g1 g2=>⟨h',g1,g2⟩))
theorem Jl {P:Program} {E:Env} {d f kx bk p1 p q0:Nat} {body:AK} {Q:KQ} {st:St} (hN:E.N<=1000000) (hrd:E.rd=none) (hS:vc P f) (hq0:q0<1000000) {xs:List (List UInt8)} (hlen:xs.length<=9223372036854775807)
    {α:Type} (s0:List (Nat×AV)) (H:α->HP) (inv:Nat->α->Prop) (x0:α) (h0:Wk st ⟨s0,H x0⟩) (hi:inv 0 x0) (hd0:sget s0 d=none) (hp1:sget s0 p1=none) (hkx:sget s0 kx=some (.ro 1 (xs.map .str))) (hkN:kx<d) (hpp:p1≠p) (hk0:s0.all (λq=>decide (q.1<3000000))=true)
    (round:∀(E2:Env) k y (R:KQ),E2.N<=1000000->inv k y->k<xs.length->(∀y' st',inv (k+1) y'->Wk st' ⟨ghost s0,H y'⟩->R.ap .normal st')->(∀st' h',Wk st' ⟨ghost s0,h'⟩->Q.ap .ret ⟨s0,h'⟩->R.ap .ret st') ->
     (∀i st' h',Wk st' ⟨ghost s0,h'⟩->(KQ.c8 bk Q).ap (.exit i) ⟨s0,h'⟩->R.ap (.exit i) st')->vcW P E2 body R ⟨(q0,.str (xs.getD (xs.length-1-k) []))::(p,.str (xs.getD (xs.length-1-k) []))::(s0++ghost s0),H y⟩)
    (done:∀y,inv xs.length y->Q.ap .normal ⟨s0,H y⟩):Am P E d f kx bk p1 p q0 body Q st:=by
 intro n ops o b a w hd hdN hg hnd htr hb hr;refine Jn (body:=body.erase E.B) hN hrd hq0 hS hlen s0 H inv x0 h0 hi hd0 hp1 hkx (Nat.lt_trans hkN hdN) hpp (λk v hk=>?_) (λE2 k y h1 h2 h3 h4=>?_) done hd hg hnd htr hdN hb hr
 ·have key:∀(l:List (Nat×AV)),l.all (λq=>decide (q.1<3000000))=true->sget l k=some v->k<3000000:=by
   intro l
   induction l with
   | nil=>intro _ h;simp[sget]at h
   | cons q r ih=>
    obtain⟨j,u⟩:=q;intro hl h;simp only[adY,acX,decide_eq_true_eq]at hl;simp only[sget]at h;split at h
    ·rename_i e;omega
    exact ih hl.2 h
  exact key s0 hk0 hk
 ·rw[<-h2];exact gk acN body (round E2 k y ⟨uz (λst'=>∃y',inv (k+1) y'/\Wk st' ⟨ghost s0,H y'⟩) s0 (blockQ bk Q.ap)⟩ acN h3 h4 (λy' st' g1 g2=>⟨y',g1,g2⟩) (λst' h' g1 g2=>⟨h',g1,g2⟩) (λi st' h' g1 g2=>⟨h',g1,g2⟩))
theorem dY {P:Program} {E:Env} {x:AK} {Q:KQ} {st:St} (hN:E.N<=1000000) (h:vcW P E x Q st):vcW P E (.cP x) Q st:=gk hN x h
theorem nU {P:Program} {E:Env} {x:AK} {Q:KQ} {st:St} (hN:E.N<=1000000) (st':St) (hle:Wk st st') (h:vcW P E x Q st'):vcW P E (.cP x) Q st:=rX hle (gk hN x h)
section
variable {P:Program} {q:Bool} {st:St} {f:Nat} {args:List AE} {as:List AV} {d:Option Nat} {r:List ROp} {K:KS} {Post:HP->AV->List AV->Prop}
def ao (P:Program) (f:Nat) (as:List AV) (v:AV):Prop:=Spec P f [] as (λh r _=>h=[]/\r=v)
theorem ah {v:AV} (hs:ao P f as v) (hn:as.all bM=true) (hv:eV v=true) (h:aopsW P r (put st d v) K):jr P q st f args as d r K:=by
 rintro rfl;refine zT hs (by simpa using hn) ?_;rintro h' r' as' ⟨rfl,rfl⟩;exact⟨rfl,hv,h⟩
theorem jX (hs:Spec P f [] as Post) (hn:as.all bM=true) (h:∀h' v as',Post h' v as'->h'=[]/\eV v=true/\aopsW P r (put st d v) K):jr P q st f args as d r K:=by
 rintro rfl;exact zT hs (by simpa using hn) h
def borL (h:HP):List AV->List AV
 | []=>[]
 | x::r=>borrow h x::borL h r
theorem vQ (h:HP):∀l,borL h l=l.map (borrow h)
 | []=>rfl
 | x::r=>by simp[borL,vQ h r]
theorem Kh {v:AV} {bs:List AV} (hb:borL st.h as=bs) (hs:ao P f bs v) (hv:dS v=true) (h:aopsW P r (put st d v) K):jr P q st f args as d r K:=by
 rintro rfl;subst hb;refine Hn (Post:=λh r _=>h=[]/\r=v) (by rw[vQ,adS]at hs;exact hs) ?_;rintro h' r' as' ⟨rfl,rfl⟩;exact⟨rfl,hv,h⟩
theorem aI (h0:HP) (hs:Spec P f h0 as Post) (hsub:dE st.h h0) (hq:q=true->h0=[])
    (h:∀h' v as',Post h' v as'->kg h' h'=true/\eJ h' v=true/\aopsW P r (put (iQ st h0 args h' as') d v) K):jr P q st f args as d r K:=by
 rintro rfl;exact Hp h0 hs (λi W hi=>ki hsub i W hi) hq h
def mT (h0 h:HP):List AV->List AV
 | []=>[]
 | x::r=>bor h0 h x::mT h0 h r
theorem AM (h0 h:HP):∀l,mT h0 h l=l.map (bor h0 h)
 | []=>rfl
 | x::r=>by simp[mT,AM h0 h r]
theorem pX (h0:HP) {bs:List AV} (hb:mT h0 st.h as=bs) (hs:Spec P f h0 bs Post) (hsub:dE st.h h0) (hq:q=true->h0=[])
    (h:∀h' v as',Post h' v as'->flH h' h'=true/\ft h' v=true/\aopsW P r (put (iQ st h0 args h' as') d v) K):jr P q st f args as d r K:=by
 rintro rfl;subst hb;rw[AM,adS]at hs;exact Hl h0 hs (λi W hi=>ki hsub i W hi) hq h
def mC:List AV->List AV
 | []=>[]
 | x::r=>stripV x::mC r
def mO:List AV->Prop
 | []=>True
 | x::r=>aw true x/\mO r
theorem zd:∀l,mC l=l.map stripV
 | []=>rfl
 | x::r=>by simp[mC,zd r]
theorem vr:∀{l:List AV},mO l->∀x∈l,aw true x
 | [],_,x,hx=>by cases hx
 | y::r,h,x,hx=>by
  rcases adg.1 hx with rfl | hx;exact h.1;exact vr h.2 x hx
theorem RV.strip {X:Nat->Prop} {w:World} {ρ:Loc} {v:Value} {x:AV} (h:RV X w ρ v x) (hc:aw true x):RV X w ρ v (stripV x):=by
 cases x with
 | gd b y=>exact h.ng (hc rfl)
 | _=>exact h
theorem Ho {q:Bool} {st:St} {f:Nat} {args:List AE} {K:AV->St->Prop} {Post:HP->AV->List AV->Prop} (hs:Spec P f [] (args.map λx=>borrow st.h (stripV (ev st x))) Post) (hc:∀x∈args,aw true (ev st x))
    (hK:∀h' r as,Post h' r as->h'=[]/\dS r=true/\K r st):fU P q st f args K:=by
 intro E ρ a w vs h hvs hrv;refine(hs E.X0 ba w vs (nj _ _ _) (h.cT.mono λ_ hb=>(iI hb).elim) (λb hb=>h.x0 b hb) (by simpa using hvs) (λj v x e1 e2=>?_)).mono ?_
 ·rw[List.getElem?_map]at e2;obtain⟨y,g1,rfl⟩:=acR.1 e2;exact(AW h ((hrv j v y e1 g1).1.strip (hc y (ac4 g1))) ba).mono (λ_ _ _=>rfl) (λb _ hb=>λhx=>hb (nX.1 hx)) _ (λ_ _ h=>h)
 ·rintro e w' ⟨v,h',r,ρ',as,rfl,hP,_,g2,_,_,g3,g4,g5,g6,g7,_⟩;obtain⟨rfl,q1,q2⟩:=hK h' r as hP;have hsame:aN w w':=⟨g3,g4,g5,g6,λb hb=>g7 b hb iI⟩;exact⟨v,ρ,st,r,rfl,h.same hsame,g2.dS q1,q2,λ_=>hsame⟩
theorem l6 {d:Nat} {v:AV} {bs:List AV} (hb:borL st.h (mC as)=bs) (hs:ao P f bs v) (hc:mO as) (hv:dS v=true) (h:aopsW P r ⟨(d,.gd true v)::st.s,st.h⟩ K):sj P q st f args as d r K:=by
 rintro rfl;subst hb;refine Ho (Post:=λh r _=>h=[]/\r=v) (by have:=hs;rw[vQ,zd,adS,adS]at this;exact this) (λx hx=>vr hc _ (List.mem_map_of_mem hx)) ?_;rintro h' r' as' ⟨rfl,rfl⟩;exact⟨rfl,hv,h⟩
theorem gq {d:Nat} {v:AV} {bs:List AV} (hb:mC as=bs) (hs:ao P f bs v) (hc:mO as) (hn:bs.all bM=true) (hv:eV v=true) (h:aopsW P r ⟨(d,.gd true v)::st.s,st.h⟩ K):sj P q st f args as d r K:=by
 rintro rfl;subst hb;rw[zd,adS]at hs hn;intro E ρ a w vs h1 hvs hrv
 have hlt:∀b,XX E.X0 ρ st.h b->b<w.heap.size:=by
  intro b hb;rcases hb with hb | hb;exact h1.x0 b hb;exact iP h1 hb
 refine(hs (XX E.X0 ρ st.h) ba w vs (nj _ _ _) (h1.cT.mono λ_ hb=>(iI hb).elim) hlt (by simpa using hvs) (λj v x e1 e2=>?_)).mono ?_
 ·rw[List.getElem?_map]at e2;obtain⟨y,g1,rfl⟩:=acR.1 e2;have hy:=(hrv j v y e1 g1).1.strip (vr hc _ (List.mem_map_of_mem (ac4 g1)));have hm:(stripV (ev st y))∈args.map (stripV∘ev st):=adN.2 ⟨y,ac4 g1,rfl⟩;exact(hy.uV (acZ.1 hn _ hm) ba).mono (λ_ _ _=>rfl) (λb _ hb=>λhx=>hb (nX.1 hx)) _ (λ_ _ h=>h)
 ·rintro e w' ⟨v,h',r,ρ',as,rfl,⟨rfl,rfl⟩,_,g2,_,_,g3,g4,g5,g6,g7,_⟩;have hsame:aN w w':=⟨g3,g4,g5,g6,λb hb=>g7 b hb iI⟩;exact⟨v,ρ,st,_,rfl,h1.same hsame,(g2.Gz hv ρ).mono (λ_ _ _=>rfl) (λb _ hb=>λhx=>hb (nX.2 hx)) ρ (λ_ _ h=>h),h,λ_=>hsame⟩
theorem eI {d:Nat} (h:sj P q st f args as d r K):s7 P q (some true) st f args as d r K:=λe=>.inr (.inl ⟨rfl,h e⟩)
theorem cz {d:Nat} (h:aopsW P r ⟨(d,.gd false .undef)::st.s,st.h⟩ K):s7 P q (some false) st f args as d r K:=λ_=>.inl ⟨rfl,h⟩
end
def c7 (Post R:HP->AV->List AV->Prop):Prop:=∀h' r' ar' h r ar,ar'.length=ar.length->Wk ⟨(0,r)::numbered 1 ar,h⟩ ⟨(0,r')::numbered 1 ar',h'⟩->Post h' r' ar'->R h r ar
theorem xI {s:List (Nat×AV)}:∀{s':List (Nat×AV)},(∀k v,(k,v)∈s'->sget s k=some v)->fe s s'
 | [],_=>trivial
 | (k,v)::r,h=>⟨h k v (ac6 ..),xI (λk' v' hm=>h k' v' (ada _ hm))⟩
theorem xP:∀{l:List AV} {k j:Nat} {x:AV},(j,x)∈numbered k l->k<=j/\l[j-k]?=some x
 | [],k,j,x,h=>by simp[numbered]at h
 | y::r,k,j,x,h=>by
  simp only[numbered,adg,Prod.mk.injEq]at h;rcases h with⟨rfl,rfl⟩ | h;exact⟨acT _,by simp⟩
  ·obtain⟨h1,h2⟩:=xP h;exact⟨acN,by rw[show j-k=(j-(k+1))+1 by omega];simpa using h2⟩
theorem Sn (r:AV) (ar:List AV):fe ((0,r)::numbered 1 ar) ((0,r)::numbered 1 ar):=by
 refine xI λk v hm=>?_;rcases adg.1 hm with h | h
 ·injection h with h1 h2;subst h1;subst h2;simp[sget]
 ·obtain⟨h1,h2⟩:=xP h;simp only[sget];rw[if_neg acN];have:=pt ar 1 (k-1) v h2
  rwa[show 1+(k-1)=k by omega]at this
theorem Sr (r r':AV) (ar:List AV):fe ((0,r')::(0,r)::numbered 1 ar) ((0,r')::numbered 1 ar):=by
 refine xI λk v hm=>?_;rcases adg.1 hm with h | h
 ·injection h with h1 h2;subst h1;subst h2;simp[sget]
 ·obtain⟨h1,h2⟩:=xP h;simp only[sget];rw[if_neg acN,if_neg acN];have:=pt ar 1 (k-1) v h2
  rwa[show 1+(k-1)=k by omega]at this
section
variable {Post R:HP->AV->List AV->Prop}
theorem c7.le (hF:c7 Post R) {h h':HP} {r:AV} {ar:List AV} (hl:dE h h') (hp:Post h' r ar):R h r ar:=hF h' r ar h r ar rfl (.le ⟨Sn r ar,hl⟩) hp
theorem c7.ro (hF:c7 Post R) {h:HP} {r:AV} {ar:List AV} (hp:Post [] r ar):R h r ar:=c7.le (h':=[]) hF trivial hp
theorem c7.val (hF:c7 Post R) {h:HP} {r r':AV} {ar:List AV} (hv:pK r r') (hp:Post [] r' ar):R h r ar:=
 hF [] r' ar h r ar rfl (.val 0 r r' rfl hv (.le ⟨Sr r r' ar,trivial⟩)) hp
theorem c7.wk (hF:c7 Post R) {h':HP} {r':AV} {ar':List AV} {h:HP} {r:AV} {ar:List AV} (hlen:ar'.length=ar.length) (hw:Wk ⟨(0,r)::numbered 1 ar,h⟩ ⟨(0,r')::numbered 1 ar',h'⟩) (hp:Post h' r' ar'):R h r ar:=hF h' r' ar' h r ar hlen hw hp
theorem wK:c7 Post (λh r ar=>∃h2 r2 as2,as2.length=ar.length/\Wk ⟨(0,r)::numbered 1 ar,h⟩ ⟨(0,r2)::numbered 1 as2,h2⟩/\Post h2 r2 as2):=
 λh' r' ar' _ _ _ h1 h2 h3=>⟨h',r',ar',h1,h2,h3⟩
end
theorem RV.Gm {X:Nat->Prop} {w:World} {ρ:Loc} {v:Value} {s:List UInt8} (h:RV X w ρ v (.str s)):v=.string ⟨s.toArray⟩:=by cases h;rfl
theorem RV.JS {X:Nat->Prop} {w:World} {ρ:Loc} {v:Value} {b:Bool} (h:RV X w ρ v (.bool b)):v=.bool b:=by cases h;rfl
theorem RV.SK {X:Nat->Prop} {w:World} {ρ:Loc} {v x:Value} (h:RV X w ρ v (.lit x)):v=x:=by cases h;rfl
def valOf:AV->Value
 | .bool b=>.bool b
 | .int k n=>.int k n
 | .fl k b=>.float k b
 | .cx k a b=>.complex k a b
 | .str s=>.string ⟨s.toArray⟩
 | .al=>.slice none 0 0
 | .lit x=>x
 | _=>undef
def isVal:AV->Bool
 | .bool _ | .int _ _ | .fl _ _ | .cx _ _ _ | .str _ | .al | .lit _=>true
 | _=>false
theorem RV.valOf {X:Nat->Prop} {w:World} {ρ:Loc} {v:Value} {x:AV} (h:RV X w ρ v x) (hx:isVal x=true):v=valOf x:=by
 cases h<;>first | rfl | cases hx
theorem gj {X:Nat->Prop} {w:World} {ρ:Loc} {x:AV} (hx:isVal x=true):RV X w ρ (valOf x) x:=by
 cases x<;>first | (cases hx;done) | skip
 exact .bool _ _;exact .int _ _ _;exact .fl _ _ _;exact .cx _ _ _ _;exact .str _ _;exact .lit _ _;exact .al _
def qw:AV->Bool
 | .af vs=>vs.all isVal
 | x=>isVal x
def rE:AV->Value
 | .af vs=>.tuple (vs.map valOf).toArray
 | x=>valOf x
theorem abz {X:Nat->Prop} {w:World} {ρ:Loc} {x:AV} (hx:qw x=true):RV X w ρ (rE x) x:=by
 cases x with
 | af vs=>
  refine .af _ _ _ (by simp) (λj v a h1 h2=>?_);simp only[List.getElem?_toArray,List.getElem?_map,h2,adm,Option.some.injEq]at h1;subst h1
  exact gj (acZ.1 hx a (ac4 h2))
 | bool b=>exact gj (x:=.bool b) hx
 | int k n=>exact gj (x:=.int k n) hx
 | fl k b=>exact gj (x:=.fl k b) hx
 | cx k a b=>exact gj (x:=.cx k a b) hx
 | str s=>exact gj (x:=.str s) hx
 | lit x=>exact gj (x:=.lit x) hx
 | al=>exact gj (x:=.al) hx
 | undef=>exact gj (x:=.undef) hx
 | ro sz es=>exact gj (x:=.ro sz es) hx
 | aq x=>exact gj (x:=.aq x) hx
 | sl i o n=>exact gj (x:=.sl i o n) hx
 | ptr i j f=>exact gj (x:=.ptr i j f) hx
 | aa i f=>exact gj (x:=.aa i f) hx
 | agg cs=>exact gj (x:=.agg cs) hx
 | gd b x=>exact gj (x:=.gd b x) hx
 | aK f cs=>exact gj (x:=.aK f cs) hx
theorem Gf {P:Program} {f:Nat} {as:List AV} {Q:AV->Prop} (ha:as.all isVal=true)
    (h:∀w:World,kC w->Calls P f (as.map valOf).toArray w λe w'=>∃v,Q v/\qw v=true/\e=.returned (rE v)/\Go.RowKit.Below w.heap.size w w'):Spec P f [] as (λh r _=>h=[]/\Q r):=by
 intro X0 ρ w vs h1 hA h2 h3 h4
 have hvs:vs=(as.map valOf).toArray:=by
  apply Array.ext (by simpa using h3);intro j g1 g2;have hj:j<as.length:=acN;have:=(h4 j _ as[j] (Array.getElem?_eq_getElem g1) (List.getElem?_eq_getElem hj)).valOf (acZ.1 ha _ (adB hj));rw[this];simp
 rw[hvs];refine(h w hA.1).mono ?_;rintro e w' ⟨v,hQ,hv,rfl,hb⟩;refine⟨_,[],v,ρ,as,rfl,⟨rfl,hQ⟩,nj _ _ _,abz hv,rfl,λj u x e1 e2=>?_,hb.os,hb.tape,hb.output,hb.size,λb hb' _=>hb.block b hb',λb hb'=>(iI hb').elim⟩;rw[hvs]at h4;have:=(h4 j u x e1 e2).valOf (acZ.1 ha _ (ac4 e2));rw[this];exact gj (acZ.1 ha _ (ac4 e2))
theorem y9 {P:Program} {f:Nat} {as:List AV} {v:AV} (ha:as.all isVal=true) (hv:qw v=true)
    (h:∀w:World,kC w->Calls P f (as.map valOf).toArray w λe w'=>e=.returned (rE v)/\Go.RowKit.Below w.heap.size w w'):ao P f as v:=
 Gf (Q:=λr=>r=v) ha (λw hA=>(h w hA).mono (λe w' ⟨h1,h2⟩=>⟨v,rfl,hv,h1,h2⟩))
theorem y8 {P:Program} {f:Nat} {as:List AV} {v:AV} (ha:as.all isVal=true) (hv:qw v=true)
    (h:∀w:World,Calls P f (as.map valOf).toArray w λe w'=>e=.returned (rE v)/\Go.RowKit.Below w.heap.size w w'):ao P f as v:=y9 ha hv (λw _=>h w)
theorem zc {P:Program} {f:Nat} {as:List AV} {v:AV} (ha:as.all isVal=true) (hv:qw v=true)
    (h:∀w:World,Calls P f (as.map valOf).toArray w λe w'=>e=.returned (rE v)/\w'=w):ao P f as v:=
 y8 ha hv (λw=>(h w).mono (λe w' ⟨h1,h2⟩=>⟨h1,by rw[h2];exact .refl _ _⟩))
def KQ.post (rs:List RVar) (m:Nat) (R:HP->AV->List AV->Prop):KQ:=⟨postQ rs m R⟩
theorem rW {P:Program} {E:Env} {c:AC} {st:St} {Q:Exit->St->Prop} (s':List (Nat×AV)) (hs:fe st.s s') (h:bN P E c ⟨s',st.h⟩ Q):bN P E c st Q:=
 λn code hc a w hr=>h n code hc a w (by obtain⟨ρ,hr⟩:=hr;exact⟨ρ,nI hr hs⟩)
theorem X6 {st:St} {t:Nat} (ht:t<2000000):resOf st [.tmp t]=some (ev st (.t t)):=by simp[resOf,resAV,trE,ht]
theorem X8 {st:St} {t u:Nat} (ht:t<2000000) (hu:u<2000000):resOf st [.tmp t,.tmp u]=some (.af [ev st (.t t),ev st (.t u)]):=by simp[resOf,resAV,trE,ht,hu]
theorem X7 {st:St} {t u v:Nat} (ht:t<2000000) (hu:u<2000000) (hv:v<2000000):resOf st [.tmp t,.tmp u,.tmp v]=some (.af [ev st (.t t),ev st (.t u),ev st (.t v)]):=by simp[resOf,resAV,trE,ht,hu,hv]
theorem X5 {st:St} {t u v x:Nat} (ht:t<2000000) (hu:u<2000000) (hv:v<2000000) (hx:x<2000000):resOf st [.tmp t,.tmp u,.tmp v,.tmp x]=some (.af [ev st (.t t),ev st (.t u),ev st (.t v),ev st (.t x)]):=by simp[resOf,resAV,trE,ht,hu,hv,hx]
section
variable {m:Nat} {R:HP->AV->List AV->Prop} {st:St} {t u v x:Nat}
theorem Rp:(KQ.post [] m R).ap .ret st=R st.h (.af []) (argsAgain st 0 m):=by simp[KQ.post,postQ,resOf,resAV]
theorem Ro:(KQ.post [] m R).ap .normal st=R st.h (.af []) (argsAgain st 0 m):=by simp[KQ.post,postQ,resOf,resAV]
theorem Rq (ht:t<2000000):(KQ.post [.tmp t] m R).ap .ret st=R st.h (ev st (.t t)) (argsAgain st 0 m):=by simp[KQ.post,postQ,X6 ht]
theorem Rr (ht:t<2000000) (hu:u<2000000):(KQ.post [.tmp t,.tmp u] m R).ap .ret st=R st.h (.af [ev st (.t t),ev st (.t u)]) (argsAgain st 0 m):=by simp[KQ.post,postQ,X8 ht hu]
theorem Rs (ht:t<2000000) (hu:u<2000000) (hv:v<2000000):(KQ.post [.tmp t,.tmp u,.tmp v] m R).ap .ret st=R st.h (.af [ev st (.t t),ev st (.t u),ev st (.t v)]) (argsAgain st 0 m):=by simp[KQ.post,postQ,X7 ht hu hv]
theorem Rt (ht:t<2000000) (hu:u<2000000) (hv:v<2000000) (hx:x<2000000):(KQ.post [.tmp t,.tmp u,.tmp v,.tmp x] m R).ap .ret st=R st.h (.af [ev st (.t t),ev st (.t u),ev st (.t v),ev st (.t x)]) (argsAgain st 0 m):=by simp[KQ.post,postQ,X5 ht hu hv hx]
end
def KQ.dies (V:Value):KQ:=⟨wq V⟩
theorem np {V:Value} {st:St}:(KQ.dies V).ap (.panic (bS V)) st=True:=by simp[KQ.dies,wq]
def KQ.guard (rs:List RVar) (m:Nat) (V:Value) (zA:AV) (R:HP->AV->List AV->Prop):KQ:=⟨OL rs m V zA R⟩
def guardP2 (rs:List RVar) (m:Nat) (zA:AV) (R:HP->AV->List AV->Prop) (st:St) (id:Nat):Option aG->Prop
 | some (.var [_])=>(KQ.post rs m R).ap .ret ⟨st.s,bD st.h id (.var [zA])⟩
 | _=>False
def guardP (rs:List RVar) (m:Nat) (zA:AV) (R:HP->AV->List AV->Prop) (st:St):Option AV->Prop
 | some (.aa id 0)=>guardP2 rs m zA R st id (hget st.h id)
 | _=>False
theorem CL {rs:List RVar} {m id:Nat} {zA:AV} {R:HP->AV->List AV->Prop} {st:St}:guardP rs m zA R st (some (.aa id 0))=guardP2 rs m zA R st id (hget st.h id):=(rfl)
theorem OK {rs:List RVar} {m id:Nat} {zA c:AV} {R:HP->AV->List AV->Prop} {st:St}:guardP2 rs m zA R st id (some (.var [c]))=(KQ.post rs m R).ap .ret ⟨st.s,bD st.h id (.var [zA])⟩:=(rfl)
theorem Q9 {rs:List RVar} {m:Nat} {V:Value} {zA:AV} {R:HP->AV->List AV->Prop} {st:St}:(KQ.guard rs m V zA R).ap .ret st=(KQ.post rs m R).ap .ret st:=(rfl)
theorem Q8 {rs:List RVar} {m:Nat} {V:Value} {zA:AV} {R:HP->AV->List AV->Prop} {st:St}:(KQ.guard rs m V zA R).ap (.panic (bS V)) st=guardP rs m zA R st (sget st.s (2000000+m)):=by
 apply propext;constructor
 ·rintro⟨_,id,c,h1,h2,h3⟩;rw[h1,CL,h2];exact h3
 ·intro h;unfold guardP at h;split at h
  ·rename_i id h1;unfold guardP2 at h;split at h
   ·rename_i c h2;exact⟨rfl,id,c,h1,h2,h⟩
   exact h.elim
  exact h.elim
def KQ.fH (P:Program) (k m:Nat) (y:AK) (rs:List RVar) (V:Value) (zA:AV) (R:HP->AV->List AV->Prop):KQ:=
 ⟨λe st=>e=.normal/\∃id,ev st (.t k)=.aa id 0/\∀E':Env,E'.N<=1000000->vcW P E' y (KQ.guard rs m V zA R) ⟨(2000000+m,.aa id 0)::st.s,st.h⟩⟩
theorem Z5 {P:Program} {f:Nat} {fn:Func} {body:Code} {h:HP} {args:List AV} {x:AK} {V:Value} (hf:P.funcs[f]?=some fn) (hb:fn.body=some body) {B:Nat}
    (hc:trCode P fn.ntmps B body=x.erase B) (hN:fn.ntmps<=1000000) (ha:args.length<=fn.ntmps) (s:List (Nat×AV)) (hs:fe (jh args) s)
    (hp:∀(E:Env),E.N<=1000000->vcW P E x (KQ.dies V) ⟨s,h⟩):gT P f h args V:=by
 refine Z6 hf hb hc hN ha (λE hE hB hrd=>?_);have hEN:E.N<=1000000:=by rw[hE];exact hN
 have h1:=gk hEN x (hp E hEN);rw[hB]at h1;exact rW s hs h1
def retCC (o p:Option AV) (R:HP->AV->List AV->Prop) (h:HP) (as:List AV):Prop:=
 match o,p with
 | some x,some y=>R h (.af [x,y]) as
 | _,_=>False
theorem Yc {x y:AV} {R:HP->AV->List AV->Prop} {h:HP} {as:List AV}:retCC (some x) (some y) R h as=R h (.af [x,y]) as:=(rfl)
theorem Rn {m n t u k:Nat} {ag bg:Bool} {R:HP->AV->List AV->Prop} {st:St}:(KQ.post [.cell t ag n,.cell u bg k] m R).ap .ret st=retCC (resC st ag n (sget st.s t)) (resC st bg k (sget st.s u)) R st.h (argsAgain st 0 m):=by
 simp only[KQ.post,postQ,resOf,resAV];cases resC st ag n (sget st.s t)<;>cases resC st bg k (sget st.s u)<;>simp[consO,retCC]
def retC (o:Option AV) (ys:List AV) (R:HP->AV->List AV->Prop) (h:HP) (as:List AV):Prop:=
 match o,ys with
 | some x,[]=>R h x as
 | some x,ys=>R h (.af (x::ys)) as
 | none,_=>False
theorem OB:ghost []=[]:=(rfl)
theorem OA {k:Nat} {v:AV} {r:List (Nat×AV)}:ghost ((k,v)::r)=(3000000+k,v)::ghost r:=(rfl)
theorem Yd {x:AV} {R:HP->AV->List AV->Prop} {h:HP} {as:List AV}:retC (some x) [] R h as=R h x as:=(rfl)
theorem Ye {x y:AV} {R:HP->AV->List AV->Prop} {h:HP} {as:List AV}:retC (some x) [y] R h as=R h (.af [x,y]) as:=(rfl)
theorem Rl {m n t:Nat} {ag:Bool} {R:HP->AV->List AV->Prop} {st:St}:(KQ.post [.cell t ag n] m R).ap .ret st=retC (resC st ag n (sget st.s t)) [] R st.h (argsAgain st 0 m):=by
 simp only[KQ.post,postQ,resOf,resAV];cases resC st ag n (sget st.s t)<;>simp[consO,retC]
theorem Rm {m n t u:Nat} {ag:Bool} {R:HP->AV->List AV->Prop} {st:St} (hu:u<2000000):(KQ.post [.cell t ag n,.tmp u] m R).ap .ret st=retC (resC st ag n (sget st.s t)) [ev st (.t u)] R st.h (argsAgain st 0 m):=by
 simp only[KQ.post,postQ,resOf,resAV];cases resC st ag n (sget st.s t)<;>simp[consO,retC,trE,hu]
theorem X4 {st:St} {ag:Bool} {n id f:Nat}:resC st ag n (some (.aa id f))=resW ag n f (hget st.h id):=(rfl)
theorem X9 {ag:Bool} {n f:Nat} {cs:List AV}:resW ag n f (some (.var cs))=ldO ag n (cs.drop f):=(rfl)
theorem Sf {n:Nat} {cs:List AV} (h:n<=cs.length):ldO true n cs=some (.agg (cs.take n)):=by simp[ldO,h]
theorem Se {n:Nat} {c:AV} {cs:List AV}:ldO false n (c::cs)=some c:=(rfl)
def uw (b:Bool) (id' i:Nat):Nat:=match b with
 | true=>id'
 | false=>i
theorem Yx {id id' i:Nat}:rn id id' i=uw (i==id) id' i:=by unfold rn uw;cases i==id<;>rfl
theorem Yw {id' i:Nat}:uw true id' i=id':=(rfl)
theorem Yv {id' i:Nat}:uw false id' i=i:=(rfl)
def uI (b:Bool) (v:AV) (r:List (Nat×AV)) (i:Nat):Option AV:=bif b then some v else sget r i
theorem Zv {i:Nat}:sget [] i=none:=(rfl)
theorem Zu {k i:Nat} {v:AV} {r:List (Nat×AV)}:sget ((k,v)::r) i=uI (i==k) v r i:=by
 simp only[sget,uI,cond_eq_ite,beq_iff_eq]
theorem Zt {v:AV} {r:List (Nat×AV)} {i:Nat}:uI true v r i=some v:=(rfl)
theorem Zs {v:AV} {r:List (Nat×AV)} {i:Nat}:uI false v r i=sget r i:=(rfl)
def tj (b:Bool) (v:aG) (r:HP) (i:Nat):Option aG:=bif b then some v else hget r i
theorem O9 {i:Nat}:hget [] i=none:=(rfl)
theorem O8 {k i:Nat} {v:aG} {r:HP}:hget ((k,v)::r) i=tj (i==k) v r i:=by
 simp only[hget,tj,cond_eq_ite,beq_iff_eq]
theorem O7 {v:aG} {r:HP} {i:Nat}:tj true v r i=some v:=(rfl)
theorem O6 {v:aG} {r:HP} {i:Nat}:tj false v r i=hget r i:=(rfl)
def ti (b:Bool) (k:Nat) (v:aG) (r:HP) (i:Nat):HP:=bif b then hdel i r else(k,v)::hdel i r
theorem O0 {i:Nat}:hdel i []=[]:=(rfl)
theorem OZ {k i:Nat} {v:aG} {r:HP}:hdel i ((k,v)::r)=ti (i==k) k v r i:=by
 simp only[hdel,ti,cond_eq_ite,beq_iff_eq]
theorem OY {k:Nat} {v:aG} {r:HP} {i:Nat}:ti true k v r i=hdel i r:=(rfl)
theorem OX {k:Nat} {v:aG} {r:HP} {i:Nat}:ti false k v r i=(k,v)::hdel i r:=(rfl)
theorem Pe {h:HP} {id:Nat} {W:aG}:bD h id W=(id,W)::hdel id h:=(rfl)
def tJ (b:Bool) (i:Nat) (r:List Nat):Bool:=bif b then true else memN i r
theorem Ta {i:Nat}:memN i []=false:=(rfl)
theorem S9 {i k:Nat} {r:List Nat}:memN i (k::r)=tJ (i==k) i r:=by
 simp only[memN,tJ,cond_eq_ite,beq_iff_eq]
theorem S8 {i:Nat} {r:List Nat}:tJ true i r=true:=(rfl)
theorem S7 {i:Nat} {r:List Nat}:tJ false i r=memN i r:=(rfl)
def sO (b:Bool) (k:Nat) (W:aG) (ids keep:List Nat) (r:HP):HP:=bif b then dropH ids keep r else(k,lD ids keep W)::dropH ids keep r
theorem Mg {ids keep:List Nat}:dropH ids keep []=[]:=(rfl)
theorem Mf {ids keep:List Nat} {k:Nat} {W:aG} {r:HP}:dropH ids keep ((k,W)::r)=sO (memN k ids) k W ids keep r:=by
 simp only[dropH,sO,cond_eq_ite]
theorem Me {ids keep:List Nat} {k:Nat} {W:aG} {r:HP}:sO true k W ids keep r=dropH ids keep r:=(rfl)
theorem Md {ids keep:List Nat} {k:Nat} {W:aG} {r:HP}:sO false k W ids keep r=(k,lD ids keep W)::dropH ids keep r:=(rfl)
theorem QP {id:Nat}:killS id []=[]:=(rfl)
theorem QO {id k:Nat} {v:AV} {r:List (Nat×AV)}:killS id ((k,v)::r)=(k,kill id v)::killS id r:=(rfl)
theorem QL {id:Nat}:gB id []=[]:=(rfl)
theorem QK {id k:Nat} {v:aG} {r:HP}:gB id ((k,v)::r)=(k,mg id v)::gB id r:=(rfl)
theorem QN {ids keep:List Nat}:killSI ids keep []=[]:=(rfl)
theorem QM {ids keep:List Nat} {k:Nat} {v:AV} {r:List (Nat×AV)}:killSI ids keep ((k,v)::r)=(k,kI ids keep v)::killSI ids keep r:=(rfl)
theorem Oe {id sz:Nat} {es:List AV}:frzS id sz es []=[]:=(rfl)
theorem Od {id sz k:Nat} {es:List AV} {v:AV} {r:List (Nat×AV)}:frzS id sz es ((k,v)::r)=(k,bj id sz es v)::frzS id sz es r:=(rfl)
theorem Oa {id sz:Nat} {es:List AV}:frzH id sz es []=[]:=(rfl)
theorem N9 {id sz k:Nat} {es:List AV} {v:aG} {r:HP}:frzH id sz es ((k,v)::r)=(k,nf id sz es v)::frzH id sz es r:=(rfl)
def frzO (st:St) (id:Nat) (o:Option aG):St:=
 match o with
 | some (.arr sz es)=>⟨frzS id sz es st.s,frzH id sz es (hdel id st.h)⟩
 | _=>st
theorem N4 {st:St} {id:Nat}:freeze st id=frzO st id (hget st.h id):=by
 unfold freeze frzO;split<;>simp_all
theorem Oc {st:St} {id sz:Nat} {es:List AV}:frzO st id (some (.arr sz es))=⟨frzS id sz es st.s,frzH id sz es (hdel id st.h)⟩:=(rfl)
def vO (b:Bool) (Q:KQ) (j:Nat) (st:St):Prop:=match b with
 | true=>Q.ap .normal st
 | false=>Q.ap (.exit j) st
theorem QY {Q:KQ} {i j:Nat} {st:St}:(KQ.c8 i Q).ap (.exit j) st=vO (j==i) Q j st:=by
 rw[Q3];by_cases h:j=i
 ·subst h;rw[if_pos rfl,show(j==j)=true by simp];rfl
 ·rw[if_neg h,show(j==i)=false by simp[h]];rfl
theorem JF {Q:KQ} {j:Nat} {st:St}:vO true Q j st=Q.ap .normal st:=(rfl)
theorem JE {Q:KQ} {j:Nat} {st:St}:vO false Q j st=Q.ap (.exit j) st:=(rfl)
abbrev ints (xs:List Int):List AV:=xs.map (AV.int .i64)
theorem PY (xs:List Int):ints xs=xs.map (AV.int .i64):=(rfl)
theorem TW {f:Int->AV} {xs:List Int} {i:Nat} (h:i<xs.length):nth (xs.map f) i=f (xs.getD i 0):=by
 simp[nth,acO,h]
theorem TU {f:UInt8->AV} {xs:List UInt8} {i:Nat} (h:i<xs.length):nth (xs.map f) i=f (xs.getD i 0):=by
 simp[nth,acO,h]
theorem TX {α:Type} {f:List α->AV} {xs:List (List α)} {i:Nat} (h:i<xs.length):nth (xs.map f) i=f (xs.getD i []):=by
 simp[nth,acO,h]
theorem TV {α:Type} [Inhabited α] {f:α->AV} {xs:List α} {i:Nat} (h:i<xs.length):nth (xs.map f) i=f (xs.getD i default):=by
 simp[nth,acO,h]
theorem aaJ {α:Type} {f:α->AV} {xs:List α} {o n:Nat}:aB (xs.map f) o n=((xs.drop o).take n).map f:=by
 simp[aB]
theorem aaL {x:AV} {r:List AV} {o n:Nat}:aB (x::r) (o+1) n=aB r o n:=by simp[aB]
theorem aaI {x:AV} {r:List AV} {n:Nat}:aB (x::r) 0 (n+1)=x::aB r 0 n:=by simp[aB]
theorem aaM {r:List AV}:aB r 0 0=[]:=by simp[aB]
theorem aaK {o n:Nat}:aB [] o n=[]:=by simp[aB]
theorem jO {α:Type} {xs:List α} {n:Nat} (h:xs.length<=n):xs.take n=xs:=acP h
theorem BI {α:Type} {xs:List α} {n:Nat} (h:xs.length<=n):xs.drop n=[]:=afz h
theorem Zq {α:Type} {f:α->AV} {xs:List α} {i:Nat} {y:α}:(xs.map f).set i (f y)=(xs.set i y).map f:=by rw[afE]
theorem Ih {α:Type} {f:α->AV} {xs:List α} {y:α}:xs.map f++[f y]=(xs++[y]).map f:=by simp
theorem Il {α:Type} {f:α->AV} {xs ys:List α}:xs.map f++ys.map f=(xs++ys).map f:=by simp
theorem KF {k:IntKind} {xs:List Int}:(xs.map (AV.int k)).all aL=true:=by simp[aL,cellsOf,isCell]
theorem NI {k:IntKind} {xs:List Int}:(xs.map (AV.int k)).all flA=true:=by simp[flA,flC]
theorem NH {xs:List UInt8}:(xs.map ub).all flA=true:=by simp[flA,flC,ub]
theorem NJ {xs:List (List UInt8)}:(xs.map AV.str).all flA=true:=by simp[flA,flC]
theorem KC {xs:List UInt8}:(xs.map ub).all aL=true:=by simp[aL,cellsOf,isCell,ub]
theorem KI {xs:List (List UInt8)}:(xs.map AV.str).all aL=true:=by simp[aL,cellsOf,isCell]
theorem KH {α:Type} {sz:Nat} {f:α->List AV} {xs:List α}:(xs.map λx=>AV.ro sz (f x)).all aL=true:=by simp[aL,cellsOf,isCell]
def uH (b:Bool) (e v:AV):AV:=
 match b with
 | true=>v
 | false=>.agg (cI (cellsOf e) 0 (cellsOf v))
theorem Zo {e v:AV}:ko e 0 v=uH ((cellsOf v).length==(cellsOf e).length) e v:=by
 unfold ko uH;by_cases h:(cellsOf v).length=(cellsOf e).length
 ·rw[if_pos ⟨rfl,h⟩,show((cellsOf v).length==(cellsOf e).length)=true by simp[h]]
 ·rw[if_neg (λx=>h x.2),show((cellsOf v).length==(cellsOf e).length)=false by simp[h]]
theorem Zl {e v:AV}:uH true e v=v:=(rfl)
theorem Zk {e v:AV}:uH false e v=.agg (cI (cellsOf e) 0 (cellsOf v)):=(rfl)
theorem Zn {e v:AV} {f:Nat} (h:f≠0):ko e f v=.agg (cI (cellsOf e) f (cellsOf v)):=by
 unfold ko;rw[if_neg (λx=>h x.1)]
theorem abm (b:UInt8):ub b=.int .u8 b.toNat:=(rfl)
theorem Ky:cellsOf AV.undef=[AV.undef]:=(rfl)
theorem Kn (b:Bool):cellsOf (.bool b)=[.bool b]:=(rfl)
theorem Kr (k:IntKind) (n:Int):cellsOf (.int k n)=[.int k n]:=(rfl)
theorem Kq (k:FloatKind) (n:Nat):cellsOf (.fl k n)=[.fl k n]:=(rfl)
theorem Ko (k:FloatKind) (a b:Nat):cellsOf (.cx k a b)=[.cx k a b]:=(rfl)
theorem Kx (l:List UInt8):cellsOf (.str l)=[.str l]:=(rfl)
theorem Ks (x:Value):cellsOf (.lit x)=[.lit x]:=(rfl)
theorem Kv (sz:Nat) (es:List AV):cellsOf (.ro sz es)=[.ro sz es]:=(rfl)
theorem Kp (x:AV):cellsOf (.aq x)=[.aq x]:=(rfl)
theorem Kw (i o n:Nat):cellsOf (.sl i o n)=[.sl i o n]:=(rfl)
theorem Ku (i j f:Nat):cellsOf (.ptr i j f)=[.ptr i j f]:=(rfl)
theorem KA (i f:Nat):cellsOf (.aa i f)=[.aa i f]:=(rfl)
theorem Kt:cellsOf .al=[.al]:=(rfl)
theorem Km (cs:List AV):cellsOf (.agg cs)=cs:=(rfl)
theorem Zp {α:Type} (xs:List α) (a b:α):(xs++[a]).set xs.length b=xs++[b]:=by simp
theorem VF {a b:Bool}:(if a=true then true else b)=(a||b):=by cases a<;>rfl
theorem VD {a b:Bool}:(if a=true then b else false)=(a&&b):=by cases a<;>rfl
theorem VG {p:Prop} [Decidable p] {b:Bool}:(if p then true else b)=(decide p||b):=by by_cases h:p<;>simp[h]
theorem VE {p:Prop} [Decidable p] {b:Bool}:(if p then b else false)=(decide p&&b):=by by_cases h:p<;>simp[h]
theorem LP {b:Bool}:decide (b=true)=b:=by cases b<;>rfl
theorem PW {a b:Int} (h:a=b):(a=b)=True:=eq_true h
theorem TF {a b:Nat} (h:a=b):(a=b)=True:=eq_true h
theorem LU {p q:Prop} [Decidable p] [Decidable q]:(decide p||decide q)=decide (p\/q):=by simp
theorem LN {p q:Prop} [Decidable p] [Decidable q]:(decide p&&decide q)=decide (p/\q):=by simp
theorem LS {p:Prop} [Decidable p]:(!decide p)=decide (¬p):=by simp
theorem Jr {a b:List UInt8}:(a==b)=decide (a=b):=by
 by_cases h:a=b<;>simp[h]
theorem Js {a:Bool}:(a==false)=!a:=by cases a<;>rfl
theorem Jt {a:Bool}:(a==true)=a:=by cases a<;>rfl
theorem Mh {α:Type} (d:α) (xs:List α) {k:Nat} (h:k<xs.length):xs.drop k=xs.getD k d::xs.drop (k+1):=by
 rw[adt h,acO,List.getElem?_eq_getElem h];rfl
theorem GO {n:Int} (h:0<=n/\n<=255):ub (UInt8.ofNat n.toNat)=.int .u8 n:=by
 simp only[ub,aeb]
 congr 1
 omega
theorem Zr {xs:List UInt8} {i:Nat} {n:Int} (h:0<=n/\n<=255):(xs.map ub).set i (.int .u8 n)=(xs.set i (UInt8.ofNat n.toNat)).map ub:=by
 rw[<-GO h,afE]
theorem Io {xs:List UInt8} {n:Int} (h:0<=n/\n<=255):xs.map ub++[.int .u8 n]=(xs++[UInt8.ofNat n.toNat]).map ub:=by
 rw[<-GO h];simp
theorem Kd {xs:List UInt8}:bytesOf (xs.map ub)=xs:=by
 simp only[bytesOf,adS]
 conv=>rhs;rw[<-List.map_id xs]
 refine aeg λx _=>?_;simp[byteOfAV,ub]
theorem HI {xs:List UInt8}:jC (xs.map ub)=true:=by simp[jC,lA,ub]
theorem Tz {a b:Int}:(if b > a then b else a)=max a b:=acN
theorem Ts {a b:Int}:(if b<a then b else a)=min a b:=acN
theorem aa0 {k:Nat}:((k:Int)-1).toNat=k-1:=acN
theorem aaZ {k:Nat}:((k:Int)+1).toNat=k+1:=acN
theorem toNat_add {k m:Nat}:((k:Int)+(m:Int)).toNat=k+m:=acN
theorem toNat_sub {k m:Nat}:((k:Int)-(m:Int)).toNat=k-m:=acN
theorem M8 (st:St):evL st []=[]/\(∀x r,evL st (x::r)=ev st x::evL st r):=⟨rfl,λ_ _=>rfl⟩
theorem JW (h:HP):borL h []=[]/\(∀x r,borL h (x::r)=borrow h x::borL h r):=⟨rfl,λ_ _=>rfl⟩
theorem JX (h0 h:HP):mT h0 h []=[]/\(∀x r,mT h0 h (x::r)=bor h0 h x::mT h0 h r):=⟨rfl,λ_ _=>rfl⟩
theorem aai:mC []=[]/\(∀x r,mC (x::r)=stripV x::mC r):=⟨rfl,λ_ _=>rfl⟩
theorem HJ:mO []=True/\(∀x r,mO (x::r)=(aw true x/\mO r)):=⟨rfl,λ_ _=>rfl⟩
theorem Ir (st:St) (k:Nat):argsAgain st k 0=[]/\(∀n,argsAgain st k (n+1)=(sget st.s (2000000+k)).getD .undef::argsAgain st (k+1) n):=⟨rfl,λ_=>rfl⟩
theorem eE {n:Int} (h:-9223372036854775808<=n/\n<=9223372036854775807):IntKind.i64.wrap n=n:=IntWalk.i64_in n h
theorem LV {p:Prop} [Decidable p] (h:p):decide p=true:=decide_eq_true h
theorem LQ {p:Prop} [Decidable p] (h:¬p):decide p=false:=decide_eq_false h
section
variable {P:Program} {st:St} {K:KS} {r:List ROp} {d:Nat} {c:Prop} {v:AV} {γ:Bool}
theorem abC:valW P (.ok True v) d r st K=aopsW P r ⟨(d,v)::st.s,st.h⟩ K:=by simp only[zw,true_and]
theorem abB (h:c):valW P (.ok c v) d r st K=aopsW P r ⟨(d,v)::st.s,st.h⟩ K:=by simp only[zw,h,true_and]
theorem MP:oE P (.ok True v st) d r K=aopsW P r ⟨(d,v)::st.s,st.h⟩ K:=by simp only[wC,true_and]
theorem MO (h:c):oE P (.ok c v st) d r K=aopsW P r ⟨(d,v)::st.s,st.h⟩ K:=by simp only[wC,h,true_and]
theorem MH:oD P (.ok True v st) r K=aopsW P r st K:=by simp only[wB,true_and]
theorem MG (h:c):oD P (.ok c v st) r K=aopsW P r st K:=by simp only[wB,h,true_and]
end
theorem acb {n:Int} (h:-128<=n/\n<=127):IntKind.i8.wrap n=n:=IntWalk.i8_in n h
theorem aca {n:Int} (h:-32768<=n/\n<=32767):IntKind.i16.wrap n=n:=IntWalk.i16_in n h
theorem wrap_i32 {n:Int} (h:-2147483648<=n/\n<=2147483647):IntKind.i32.wrap n=n:=IntWalk.i32_in n h
theorem wrap_u8 {n:Int} (h:0<=n/\n<=255):IntKind.u8.wrap n=n:=IntWalk.u8_in n h
theorem wrap_u16 {n:Int} (h:0<=n/\n<=65535):IntKind.u16.wrap n=n:=IntWalk.u16_in n h
theorem wrap_u32 {n:Int} (h:0<=n/\n<=4294967295):IntKind.u32.wrap n=n:=IntWalk.u32_in n h
theorem wrap_u64 {n:Int} (h:0<=n/\n<=18446744073709551615):IntKind.u64.wrap n=n:=IntWalk.u64_in n h
section
variable {P:Program} {E:Env} {st:St} {Q:KQ} {x y:AK}
theorem oU {p:Prop} [Decidable p] (h1:p->vcW P E x Q st) (h2:¬p->vcW P E y Q st):nn P E (decide p) x y Q st:=
 ⟨λh=>h1 (of_decide_eq_true h),λh=>h2 (of_decide_eq_false h)⟩
end
attribute [go_sem] RE Q1 Rx Rc Ri RY Mu Ms Mt RW RU L8 L9 Mc VJ og np CL OK Q9 Q8 Yc Rn R5 RQ RO OB OA Yd Ye Rl Rm X4 X9 Sf Se RA QZ Ru Rb Re Rf Ra Rh Rj Rk abM abL M8 JW JX aai HJ Ir Ic Ie Ig abA H6 MN H7 MF vA H4 Ib OS OQ OP OM Ia Ou Ot Oq H8 H9 RZ RC RG RH Q0 Q2 QY JF JE Rv Ry Rz abT abQ abK KY Py Px abh abj abg abf Ss Sq Sp Sm Sl Rp Ro Rq Rr Rs Rt QC QB Zv Zu Zt Zs O9 O8 O7 O6 Pe O0 OZ OY OX Ta S9 S8 S7 Mg Mf Me Md Ky Kn Kr Kq Ko Kx Ks Kv Kp Kw Ku KA Kt Km QP QO QN QM Oe Od Oa N9 N4 Oc QL QK Yx Yw Yv adO adP abm ac5 adJ adA afh afi afI Bool.false_and Bool.or_true Bool.or_false Bool.true_or Bool.false_or if_true if_false ad0 afb adm adT adl adf ads ady adi ad8 adY afF adb adn aei aej ado adI decide_true decide_false VF VD VG VE LP PW TF LU LN LS Jr Js Jt imp_self implies_true decide_eq_true_eq decide_eq_false_iff_not eq_self afG Int.cast_ofNat_Int aeo adE Int.add_zero Int.zero_add Bool.and_self afL true_and and_true false_and and_false not_true_eq_false not_false_eq_true Option.some.injEq aG.arr.injEq aG.var.injEq AV.int.injEq AV.bool.injEq AV.str.injEq AV.ro.injEq AV.sl.injEq AV.aq.injEq AV.agg.injEq AV.af.injEq AV.fl.injEq AV.cx.injEq AV.aa.injEq AV.ptr.injEq List.cons.injEq Prod.mk.injEq false_imp_iff true_imp_iff forall_const afq PY TW TU TX aaJ aaK aaL aaI aaM jO BI List.set_cons_zero List.set_cons_succ aa0 aaZ toNat_add toNat_sub Tz Ts Zq Zr Io Kd HI Zp Ih Il NI NH NJ KF KC KI KH ac7 acQ List.length_set afr adh aek Zo Zl Zk Zn
attribute [go_sem high] OO abC MP MH
attribute [go_sem] abB MO MG eE acb aca wrap_i32 wrap_u8 wrap_u16 wrap_u32 wrap_u64 LV LQ
theorem la {a b:Int} (h:0<=a):a.tdiv b=a/b:=Int.tdiv_eq_ediv_of_nonneg h
theorem gh {a b:Int} (h:0<=a):a.tmod b=a%b:=Int.tmod_eq_emod_of_nonneg h
attribute [go_sem] la gh
attribute [go_sem low] TV
attribute [go_sem low] HY zw wC wB
theorem Lx:(∀{α:Type} (a b:List α),(a++b).length=a.length+b.length)/\(∀{α:Type} (x:α) (a:List α),(x::a).length=a.length+1)/\(∀{α:Type},([]:List α).length=0)/\(∀{α:Type} (a:List α) (i:Nat) (x:α),(a.set i x).length=a.length) /\
    (∀{α β:Type} (f:α->β) (a:List α),(a.map f).length=a.length)/\(∀{α:Type} (i:Nat) (a:List α),(a.take i).length=min i a.length)/\(∀{α:Type} (i:Nat) (a:List α),(a.drop i).length=a.length-i)/\(∀n:Nat,(List.range n).length=n) /\
    (∀{α:Type} (n:Nat) (x:α),(List.replicate n x).length=n)/\(∀{α:Type} (a:List α),a.reverse.length=a.length):=
 ⟨λ_ _=>acQ,λ_ _=>adb,adn,λ_ _ _=>List.length_set,λ_ _=>ac7 _,λ_ _=>acS,λ_ _=>acU,λ_=>afr,λ_ _=>adh,λ_=>aek⟩
theorem vV {p:Prop} (h:p:=by simp(disch:=first | omega | (simp only[Lx];omega))only[go_sem,simprocAttr]):p:=h
theorem wW {a b:Prop} (k:b) (h:b->a:=by intro h;simp(disch:=first | omega | (simp only[Lx];omega))only[go_sem,simprocAttr];exact h):a:=h k
theorem gG {a b:Prop} (k:b) (h:b->a:=by intro h;(repeat(first | (with_reducible refine cC ?_) | (with_reducible refine cz ?_) | (with_reducible refine cB ?_))<;>simp(disch:=first | omega | (simp only[Lx];omega))only[go_sem,simprocAttr]);exact h):a:=h k
theorem cn {E0:Prop} {p:Prop} (e0:E0) (h:E0->p:=by intro e0;simp(disch:=first | omega | (simp only[Lx];omega))only[go_sem,simprocAttr,e0]):p:=h e0
theorem ab {E0:Prop} {a b:Prop} (e0:E0) (k:b) (h:E0->b->a:=by intro e0 h;simp(disch:=first | omega | (simp only[Lx];omega))only[go_sem,simprocAttr,e0];exact h):a:=h e0 k
theorem aV {E0:Prop} {a b:Prop} (e0:E0) (k:b) (h:E0->b->a:=by intro e0 h;(repeat(first | (with_reducible refine cC ?_) | (with_reducible refine cz ?_) | (with_reducible refine cB ?_))<;>simp(disch:=first | omega | (simp only[Lx];omega))only[go_sem,simprocAttr,e0]);exact h):a:=h e0 k
theorem jQ {E0 E1:Prop} {p:Prop} (e0:E0) (e1:E1) (h:E0->E1->p:=by intro e0 e1;simp(disch:=first | omega | (simp only[Lx];omega))only[go_sem,simprocAttr,e0,e1]):p:=h e0 e1
theorem aE {E0 E1:Prop} {a b:Prop} (e0:E0) (e1:E1) (k:b) (h:E0->E1->b->a:=by intro e0 e1 h;simp(disch:=first | omega | (simp only[Lx];omega))only[go_sem,simprocAttr,e0,e1];exact h):a:=h e0 e1 k
theorem cO {E0 E1:Prop} {a b:Prop} (e0:E0) (e1:E1) (k:b) (h:E0->E1->b->a:=by intro e0 e1 h;(repeat(first | (with_reducible refine cC ?_) | (with_reducible refine cz ?_) | (with_reducible refine cB ?_))<;>simp(disch:=first | omega | (simp only[Lx];omega))only[go_sem,simprocAttr,e0,e1]);exact h):a:=h e0 e1 k
theorem mH {E0 E1 E2:Prop} {p:Prop} (e0:E0) (e1:E1) (e2:E2) (h:E0->E1->E2->p:=by intro e0 e1 e2;simp(disch:=first | omega | (simp only[Lx];omega))only[go_sem,simprocAttr,e0,e1,e2]):p:=h e0 e1 e2
theorem bp {E0 E1 E2:Prop} {a b:Prop} (e0:E0) (e1:E1) (e2:E2) (k:b) (h:E0->E1->E2->b->a:=by intro e0 e1 e2 h;simp(disch:=first | omega | (simp only[Lx];omega))only[go_sem,simprocAttr,e0,e1,e2];exact h):a:=h e0 e1 e2 k
theorem gy {E0 E1 E2:Prop} {a b:Prop} (e0:E0) (e1:E1) (e2:E2) (k:b) (h:E0->E1->E2->b->a:=by intro e0 e1 e2 h;(repeat(first | (with_reducible refine cC ?_) | (with_reducible refine cz ?_) | (with_reducible refine cB ?_))<;>simp(disch:=first | omega | (simp only[Lx];omega))only[go_sem,simprocAttr,e0,e1,e2]);exact h):a:=h e0 e1 e2 k
theorem GY {E0 E1 E2 E3:Prop} {p:Prop} (e0:E0) (e1:E1) (e2:E2) (e3:E3) (h:E0->E1->E2->E3->p:=by intro e0 e1 e2 e3;simp(disch:=first | omega | (simp only[Lx];omega))only[go_sem,simprocAttr,e0,e1,e2,e3]):p:=h e0 e1 e2 e3
theorem bV {E0 E1 E2 E3:Prop} {a b:Prop} (e0:E0) (e1:E1) (e2:E2) (e3:E3) (k:b) (h:E0->E1->E2->E3->b->a:=by intro e0 e1 e2 e3 h;simp(disch:=first | omega | (simp only[Lx];omega))only[go_sem,simprocAttr,e0,e1,e2,e3];exact h):a:=h e0 e1 e2 e3 k
theorem kJ {E0 E1 E2 E3:Prop} {a b:Prop} (e0:E0) (e1:E1) (e2:E2) (e3:E3) (k:b) (h:E0->E1->E2->E3->b->a:=by intro e0 e1 e2 e3 h;(repeat(first | (with_reducible refine cC ?_) | (with_reducible refine cz ?_) | (with_reducible refine cB ?_))<;>simp(disch:=first | omega | (simp only[Lx];omega))only[go_sem,simprocAttr,e0,e1,e2,e3]);exact h):a:=h e0 e1 e2 e3 k
theorem cN {E0 E1 E2 E3 E4:Prop} {a b:Prop} (e0:E0) (e1:E1) (e2:E2) (e3:E3) (e4:E4) (k:b) (h:E0->E1->E2->E3->E4->b->a:=by intro e0 e1 e2 e3 e4 h;simp(disch:=first | omega | (simp only[Lx];omega))only[go_sem,simprocAttr,e0,e1,e2,e3,e4];exact h):a:=h e0 e1 e2 e3 e4 k
theorem oP {E0 E1 E2 E3 E4:Prop} {a b:Prop} (e0:E0) (e1:E1) (e2:E2) (e3:E3) (e4:E4) (k:b) (h:E0->E1->E2->E3->E4->b->a:=by intro e0 e1 e2 e3 e4 h;(repeat(first | (with_reducible refine cC ?_) | (with_reducible refine cz ?_) | (with_reducible refine cB ?_))<;>simp(disch:=first | omega | (simp only[Lx];omega))only[go_sem,simprocAttr,e0,e1,e2,e3,e4]);exact h):a:=h e0 e1 e2 e3 e4 k
theorem lg {E0 E1 E2 E3 E4 E5:Prop} {a b:Prop} (e0:E0) (e1:E1) (e2:E2) (e3:E3) (e4:E4) (e5:E5) (k:b) (h:E0->E1->E2->E3->E4->E5->b->a:=by intro e0 e1 e2 e3 e4 e5 h;simp(disch:=first | omega | (simp only[Lx];omega))only[go_sem,simprocAttr,e0,e1,e2,e3,e4,e5];exact h):a:=h e0 e1 e2 e3 e4 e5 k
inductive lY:AV->AV->Prop where
 | refl (a:AV):lY a a
 | nil (sz:Nat):lY .al (.ro sz [])
inductive fS:List AV->List AV->Prop where
 | nil:fS [] []
 | cons {a b:AV} {as bs:List AV} (h:lY a b) (hs:fS as bs):fS (a::as) (b::bs)
inductive mL:AV->AV->Prop where
 | one {a b:AV} (h:lY a b):mL a b
 | ro {sz:Nat} {as bs:List AV} (h:fS as bs):mL (.ro sz as) (.ro sz bs)
 | agg {as bs:List AV} (h:fS as bs):mL (.agg as) (.agg bs)
inductive nY:List AV->List AV->Prop where
 | nil:nY [] []
 | cons {a b:AV} {as bs:List AV} (h:mL a b) (hs:nY as bs):nY (a::as) (b::bs)
theorem fS.refl:∀l:List AV,fS l l
 | []=>.nil
 | x::r=>.cons (.refl x) (fS.refl r)
theorem BQ {a b:AV} (h:lY a b):fS (cellsOf a) (cellsOf b):=by
 cases h with
 | refl=>exact fS.refl _
 | nil sz=>exact .cons (.nil sz) .nil
theorem MR {a b c d:List AV} (h:fS a b) (k:fS c d):fS (a++c) (b++d):=by
 induction h with
 | nil=>exact k
 | cons h _ ih=>exact .cons h ih
theorem BT {as bs:List AV} (h:fS as bs):fS (flat as) (flat bs):=by
 induction h with
 | nil=>exact .nil
 | cons h _ ih=>
  simp only[flat,aey];exact MR (BQ h) ih
theorem qg {as bs:List AV} (h:fS as bs):as.length=bs.length:=by
 induction h with
 | nil=>rfl
 | cons h _ ih=>simp[ih]
theorem wD {as bs:List AV} (h:fS as bs):∀(j:Nat) (b:AV),bs[j]?=some b->∃a,as[j]?=some a/\lY a b:=by
 induction h with
 | nil=>intro j b hb;simp at hb
 | cons h _ ih=>
  intro j b hb
  cases j with
  | zero=>simp at hb;subst hb;exact⟨_,rfl,h⟩
  | succ j=>exact ih j b (by simpa using hb)
theorem MS {as bs:List AV} (h:fS as bs):∀b∈bs,∃a∈as,lY a b:=by
 intro b hb;obtain⟨j,hj⟩:=List.mem_iff_getElem?.1 hb;obtain⟨a,h1,h2⟩:=wD h j b hj;exact⟨a,ac4 h1,h2⟩
theorem RV.sR {X:Nat->Prop} {w:World} {ρ:Loc} {v:Value} {a b:AV} (h:RV X w ρ v a) (k:lY a b):RV X w ρ v b:=by
 cases k with
 | refl=>exact h
 | nil sz=>cases h;exact .ro ρ none 0 sz [] [] (acT _) (λe he=>by cases he) rfl (λj hj=>by simp at hj) (λj v a h1 _=>by simp at h1)
theorem RV.HH {X:Nat->Prop} {w:World} {ρ:Loc} {v:Value} {a b:AV} (h:RV X w ρ v a) (k:mL a b):RV X w ρ v b:=by
 cases k with
 | one k=>exact h.sR k
 | ro k=>
  cases h with
  | ro _ A c sz es vs hc aA hlen hcell hrel=>
   rw[qg k];refine .ro ρ A c _ _ vs (by rw[<-qg k];exact hc) (λe he=>?_) (by rw[hlen,qg (BT k)]) hcell (λj v b h1 h2=>?_)
   ·obtain⟨a,ha,hab⟩:=MS k e he;rw[<-qg (BQ hab)];exact aA a ha
   ·obtain⟨a,h3,h4⟩:=wD (BT k) j b h2
    exact(hrel j v a h1 h3).sR h4
 | agg k=>
  cases h with
  | agg _ vs _ hlen hrel=>
   refine .agg ρ vs _ (by rw[hlen,qg k]) (λj v b h1 h2=>?_);obtain⟨a,h3,h4⟩:=wD k j b h2;exact(hrel j v a h1 h3).sR h4
theorem HO {as bs:List AV} (h:nY as bs):as.length=bs.length/\∀(j:Nat) (a:AV),as[j]?=some a->∃b,bs[j]?=some b/\mL a b:=by
 induction h with
 | nil=>exact⟨rfl,λj b hb=>by simp at hb⟩
 | cons h _ ih=>
  refine⟨by simp[ih.1],λj b hb=>?_⟩
  cases j with
  | zero=>simp at hb;subst hb;exact⟨_,rfl,h⟩
  | succ j=>exact ih.2 j b (by simpa using hb)
theorem HQ {as bs:List AV} (h:nY as bs):∀(j:Nat) (b:AV),bs[j]?=some b->∃a,as[j]?=some a/\mL a b:=by
 induction h with
 | nil=>intro j b hb;simp at hb
 | cons h _ ih=>
  intro j b hb
  cases j with
  | zero=>simp at hb;subst hb;exact⟨_,rfl,h⟩
  | succ j=>exact ih j b (by simpa using hb)
theorem Z3 {P:Program} {f:Nat} {h:HP} {as bs:List AV} {Post:HP->AV->List AV->Prop} (k:nY as bs) (hs:Spec P f h bs Post):Spec P f h as Post:=by
 intro X0 ρ w vs h1 hA h2 h3 h4;have hl:=(HO k).1;rw[hl]
 exact hs X0 ρ w vs h1 hA h2 (by rw[h3,hl]) (λj v b e1 e2=>by
  obtain⟨a,e3,e4⟩:=HQ k j b e2
  exact(h4 j v a e1 e3).HH e4)
def Ad:AE->Bool
 | .t _=>true
 | .c v=>flA v
theorem Hq {P:Program} {q:Bool} {st st':St} {f:Nat} {args:List AE} {K:AV->St->Prop} (hw:Wk st st') (hc:args.all Ad=true) (h:fU P q st' f args K):fU P q st f args K:=by
 intro E ρ a w vs hr aA hrv;obtain⟨ρ',hr'⟩:=ky hw hr;refine h E ρ' a w vs hr' aA (λj v x e1 e2=>⟨?_,(hrv j v x e1 e2).2⟩);obtain⟨g1,g2⟩:=hrv j v x e1 e2
 cases x with
 | t k=>
  obtain⟨g3,g4⟩:=g2 k rfl;have:=bn hr' (.tmp k);simp only[trE,g3,if_true]at this;rw[g4]
  exact this
 | c c=>
  have:=acZ.1 hc _ (ac4 e2);exact RV.flA (show RV _ w ρ v c from g1) this
theorem ln {P:Program} {q:Bool} {st:St} {f:Nat} {args:List AE} {as:List AV} {d:Option Nat} {r:List ROp} {K:KS} (st':St) (hw:Wk st st') (hc:args.all Ad=true) (h:jr P q st' f args (evL st' args) d r K):jr P q st f args as d r K:=by
 rintro rfl;exact Hq hw hc (h (j8 st' args))
end Go.Proofs.YtoalcafkffmiiaaGreatDoor.Eng
namespace Go.Proofs.YtoalcafkffmiiaaGreatDoor.Eng
def jm (P:Program) (f n:Nat) (h:HP) (args:List AV) (Post:HP->AV->List AV->Prop):Prop:=
 ∀(X0:Nat->Prop) (ρ:Loc) (w:World) (vs:Array Value),dI X0 ρ h w->kD (aW ρ h) w->(∀b,X0 b->b<w.heap.size)->vs.size=args.length ->
  (∀(j:Nat) v x,vs[j]?=some v->args[j]?=some x->RV (XX X0 ρ h) w ρ v x) ->
  Calls P f (vs.extract 0 n) w λe w'=>∃v h' r ρ' as,e=.returned v/\Post h' r as/\dI X0 ρ' h' w'/\RV (XX X0 ρ' h') w' ρ' v r /\
   as.length=args.length/\(∀(j:Nat) v x,vs[j]?=some v->as[j]?=some x->RV (XX X0 ρ' h') w' ρ' v x) /\
   w'.os=w.os/\w'.tape=w.tape/\w'.output=w.output/\w.heap.size<=w'.heap.size/\(∀b,b<w.heap.size->¬aW ρ h b->w'.heap[b]?=w.heap[b]?) /\
   (∀b,aW ρ' h' b->w.heap.size<=b\/aW ρ h b)
def uQ (n:Nat) (args:List AV):List (Nat×AV):=numbered 0 (args.take n)++numbered 2000000 args
theorem Z1 {P:Program} {f:Nat} {fn:Func} {body:Code} {h:HP} {args:List AV} {Post:HP->AV->List AV->Prop} {c:AC} (hf:P.funcs[f]?=some fn) (hb:fn.body=some body) {B n:Nat} (hc:trCode P fn.ntmps B body=c)
    (hN:fn.ntmps<=1000000) (hn:n<=args.length) (ha:n<=fn.ntmps) (hp:∀E:Env,E.N=fn.ntmps->E.B=B->E.rd=none->bN P E c ⟨uQ n args,h⟩ (postQ (fn.results.toList.map (trRes P)) args.length Post)):jm P f n h args Post:=by
 intro X0 ρ w vs hh hA hX hvs hrv
 let E:Env:=⟨w,aW ρ h,X0,fn.ntmps,B,λk=>vs.getD (k-2000000) undef,none,w.heap.size,acT _,[]⟩
 refine(callsIn_wide (n:=0)).1 (callsIn_of_wp_marks hf hb trivial (wpIn_mono (hp E rfl rfl rfl 0 body hc _ w ⟨ρ,?_⟩) ?_))
 ·have hex:∀k,k<n->(vs.extract 0 n)[k]?=vs[k]?:=λk hk=>by
   rw[Array.getElem?_extract];simp;omega
  refine⟨gQ.nil _ _,by simp[E];omega,λk av hk=>?_,hh,λid W L b h1 h2 h3=>.inr ⟨id,W,L,h1,h2,h3⟩,⟨rfl,rfl,rfl,acT _,λ_ _ _=>rfl,hA⟩,hX⟩;simp only[uQ,kZ]at hk
  cases h0:sget (numbered 0 (args.take n)) k with
  | some av0=>
   rw[h0]at hk;obtain rfl:=Option.some.inj hk;obtain⟨_,h2⟩:=k8 (args.take n) 0 k _ h0
   have hlt:k<n:=by
    have:=(List.getElem?_eq_some_iff.1 h2).1;simp at this;omega
   have h2:args[k]?=some av0:=by
    rw[afL,List.getElem?_take_of_lt hlt]at h2;exact h2
   have hlt2:k<E.N:=by simp only[E];omega
   refine⟨.inl hlt2,?_⟩;have hv:vs[k]?=some (vs[k]' acN):=Array.getElem?_eq_getElem _;unfold bl;rw[if_pos hlt2,ac0,Array.getElem?_append_left (by simp;omega),hex k hlt,hv]
   exact hrv k _ _ hv h2
  | none=>
   rw[h0]at hk;obtain⟨h1,h2⟩:=k8 args 2000000 k av hk;have hlt:k-2000000<args.length:=(List.getElem?_eq_some_iff.1 h2).1;refine⟨.inr h1,?_⟩;have hv:vs[k-2000000]?=some (vs[k-2000000]' acN):=Array.getElem?_eq_getElem _;unfold bl;rw[if_neg (by simp only[E];omega)];simp only[E,ac0,hv];exact hrv _ _ av hv h2
 ·rintro e a' w' ⟨st',⟨ρ',g0⟩,q⟩
  have fin:∀r,resOf st' (fn.results.toList.map (trRes P))=some r->Post st'.h r (argsAgain st' 0 args.length)->bodyPostM Fence.wide 0 P fn (λe w'=>∃v h' r ρ' as,e=.returned v/\Post h' r as/\dI X0 ρ' h' w'/\RV (XX X0 ρ' h') w' ρ' v r /\
   as.length=args.length/\(∀(j:Nat) v x,vs[j]?=some v->as[j]?=some x->RV (XX X0 ρ' h') w' ρ' v x) /\
   w'.os=w.os/\w'.tape=w.tape/\w'.output=w.output/\w.heap.size<=w'.heap.size/\(∀b,b<w.heap.size->¬aW ρ h b->w'.heap[b]?=w.heap[b]?) /\
   (∀b,aW ρ' h' b->w.heap.size<=b\/aW ρ h b)) .ret a' w':=by
   intro r hr hP;obtain⟨⟨Ds,hDs⟩,_⟩:=g0.defers
   show LeavesInM Fence.wide 0 P fn a'.tmps _ a'.defers .returning w'
   rw[hDs];refine mh (E:=E) (ρ:=ρ') (st:=st') (a:=a') (by simp) (λw' g=>?_) rfl rfl Ds w' (by rw[<-hDs];exact g0);obtain⟨v,g1,g2⟩:=yG (P:=P) g hr;refine⟨v,g1,v,st'.h,r,ρ',_,rfl,hP,g.heap,g2,pP _ _ _,λj v x e1 e2=>?_,g.an.os,g.an.tape,g.an.output,g.an.size,g.an.block,λb ⟨id,W,L,h1,h2,h3⟩=>g.base id W L b h1 h2 h3⟩;have:=rU st' _ _ j x e2;rw[aeo]at this
   cases hs:sget st'.s (2000000+j)with
   | none=>rw[hs]at this;subst this;exact .undef _ _
   | some av=>
    rw[hs]at this;obtain rfl:x=av:=this;have hr2:=(g.aX _ _ hs).2;unfold bl at hr2;rw[if_neg (by simp only[E];omega)]at hr2;simp only[E,adR,ac0,e1]at hr2;exact hr2
  cases e with
  | normal=>obtain⟨r,hr,hP⟩:=q;exact fin r hr hP
  | ret=>obtain⟨r,hr,hP⟩:=q;exact fin r hr hP
  | exit id=>exact q.elim
  | goto l=>exact q.elim
  | panic ch=>exact q.elim
  | outgrown=>exact q.elim
theorem Z2 {P:Program} {f n:Nat} {h:HP} {args:List AV} {Post:HP->AV->List AV->Prop}
    (hs:jm P f n h args (λh' r as=>∃h2 r2 as2,as2.length=as.length/\Wk ⟨(0,r)::numbered 1 as,h'⟩ ⟨(0,r2)::numbered 1 as2,h2⟩/\Post h2 r2 as2)):jm P f n h args Post:=by
 intro X0 ρ w vs h1 hA h2 h3 h4;refine(hs X0 ρ w vs h1 hA h2 h3 h4).mono ?_;rintro e w' ⟨v,h',r,ρ',as,rfl,⟨h2',r2,as2,hlen,hwk,hP⟩,g3,g4,g5,g6,g7,g8,g9,g10,g11,g12⟩
 let E:Env:=⟨w',λb=>w.heap.size<=b\/aW ρ h b,X0,vs.size+1,0,λ_=>undef,none,0,ac9 _,[]⟩
 let a:Act:={tmps:=#[v]++vs,defers:=[]}
 have hsv:∀j,j<vs.size->bl E a (1+j)=vs.getD j undef:=by
  intro j hj;unfold bl;rw[if_pos (show 1+j<vs.size+1 by omega)];simp only[a,ac0];rw[Array.getElem?_append_right (by simp)];simp
 have hr:ai E ρ' ⟨(0,r)::numbered 1 as,h'⟩ a w':=by
  refine⟨gQ.nil _ _,by simp[a,E];omega,λk av hk=>?_,g3,λid W L b e1 e2 e3=>.inr (g12 b ⟨id,W,L,e1,e2,e3⟩),⟨rfl,rfl,rfl,acT _,λ_ _ _=>rfl,hA.1.stays (λb _ _ _ hb _=>g11 b (hA.1.lt hb) (hA.2 b hb)),λb hb hx=>hx.elim (λg=>by have:=hA.1.lt hb;omega) (hA.2 b hb)⟩,λb hb=>ac3 (h2 b hb) g10⟩;simp only[sget]at hk;split at hk
  ·rename_i e;subst e;obtain rfl:=Option.some.inj hk;refine⟨.inl (show 0<vs.size+1 by omega),?_⟩
   have:bl E a 0=v:=by
    unfold bl;rw[if_pos (show 0<vs.size+1 by omega)];simp only[a];exact s9 v vs
   rw[this];exact g4
  ·obtain⟨e1,e2⟩:=k8 as 1 k av hk;have hlt:=(List.getElem?_eq_some_iff.1 e2).1;obtain⟨j,rfl⟩:∃j,k=1+j:=⟨k-1,acN⟩;have hj:j<vs.size:=acN;refine⟨.inl (show 1+j<vs.size+1 by omega),?_⟩;rw[hsv j hj];have hv:vs[j]?=some (vs.getD j undef):=by rw[ac0,Array.getElem?_eq_getElem hj];rfl
   exact g6 j _ av hv (by rw[adR]at e2;exact e2)
 obtain⟨ρ2,hr2⟩:=ky hwk hr;refine⟨v,h2',r2,ρ2,as2,rfl,hP,hr2.heap,?_,acN,λj u x e1 e2=>?_,g7,g8,g9,g10,g11,λb ⟨id,W,L,e1,e2,e3⟩=>?_⟩
 ·have:=(hr2.aX 0 r2 (by simp[sget])).2
  have e:bl E a 0=v:=by
   unfold bl;rw[if_pos (show 0<vs.size+1 by omega)];simp only[a];exact s9 v vs
  rw[e]at this;exact this
 ·have hj:=(Array.getElem?_eq_some_iff.1 e1).1
  have hs2:sget ((0,r2)::numbered 1 as2) (1+j)=some x:=by
   simp only[sget];rw[if_neg acN];exact pt as2 1 j x e2
  have:=(hr2.aX (1+j) x hs2).2;rw[hsv j hj,ac0,e1]at this;exact this
 ·rcases hr2.base id W L b e1 e2 e3 with g | g;exact .inl (adM g10 g);exact g
def fltB (b:Bool) (k:Nat) (v:AV) (r:List (Nat×AV)):List (Nat×AV):=
 match b with
 | true=>(k,v)::r
 | false=>r
def fltO (o:Option AV) (k:Nat) (r:List (Nat×AV)):List (Nat×AV):=
 match o with
 | some v=>fltB (flA v) k v r
 | none=>r
def fltS (s0:List (Nat×AV)):List (Nat×AV)->List (Nat×AV)
 | []=>[]
 | (k,_)::r=>fltO (sget s0 k) k (fltS s0 r)
def getL (s:List (Nat×AV)):List Nat->List AV
 | []=>[]
 | k::r=>(sget s k).getD .undef::getL s r
def zipS:List Nat->List AV->List (Nat×AV)
 | k::ks,v::vs=>(k,v)::zipS ks vs
 | _,_=>[]
theorem CD (s:List (Nat×AV)):∀ks,(getL s ks).length=ks.length
 | []=>rfl
 | k::r=>by simp[getL,CD s r]
theorem CC (s:List (Nat×AV)):∀(ks:List Nat) (j k:Nat),ks[j]?=some k->(getL s ks)[j]?=some ((sget s k).getD .undef)
 | [],j,k,h=>by simp at h
 | q::r,0,k,h=>by simp at h;subst h;rfl
 | q::r,j+1,k,h=>by simpa[getL]using CC s r j k (by simpa using h)
theorem Hb:∀{ks:List Nat} {vs:List AV} {k:Nat} {v:AV},sget (zipS ks vs) k=some v->∃j:Nat,ks[j]?=some k/\vs[j]?=some v
 | [],vs,k,v,h=>by simp[zipS,sget]at h
 | q::ks,[],k,v,h=>by simp[zipS,sget]at h
 | q::ks,u::vs,k,v,h=>by
  simp only[zipS,sget]at h;split at h
  ·rename_i e;obtain rfl:=Option.some.inj h;exact⟨0,by rw[e];rfl,rfl⟩
  ·obtain⟨j,h1,h2⟩:=Hb h;exact⟨j+1,by simpa using h1,by simpa using h2⟩
theorem sZ {s0:List (Nat×AV)}:∀{s:List (Nat×AV)} {k:Nat} {v:AV},sget (fltS s0 s) k=some v->sget s0 k=some v/\flA v=true
 | [],k,v,h=>by simp[fltS,sget]at h
 | (q,u)::s,k,v,h=>by
  unfold fltS at h
  cases hq:sget s0 q with
  | none=>rw[hq]at h;exact sZ (s:=s) h
  | some x=>
   rw[hq]at h;simp only[fltO]at h
   cases hu:flA x with
   | true=>
    rw[hu]at h;simp only[fltB,sget]at h;split at h
    ·rename_i e;subst e;obtain rfl:=Option.some.inj h;exact⟨hq,hu⟩
    ·exact sZ h
   | false=>
    rw[hu]at h;exact sZ (s:=s) h
def pM (st:St) (ks:List Nat) (h':HP) (gs:List AV):St:=⟨zipS ks gs++fltS st.s st.s,h'⟩
theorem Hk {P:Program} {st:St} {f:Nat} {args:List AE} {K:AV->St->Prop} {Post:HP->AV->List AV->Prop} (ks:List Nat) (hks:ks.all (λk=>(sget st.s k).isSome)=true)
    (hs:jm P f args.length st.h (args.map (ev st)++getL st.s ks) Post)
    (hK:∀h' r as,Post h' r as->K r (pM st ks h' (as.drop args.length))):fU P false st f args K:=by
 intro E ρ a w vs h hvs hrv
 let us:Array Value:=(ks.map (bl E a)).toArray
 have hus:us.size=ks.length:=by simp[us]
 have hex:(vs++us).extract 0 args.length=vs:=by
  rw[<-hvs];simp
 have:=hs E.X0 ρ w (vs++us) h.heap h.cT h.x0 (by simp[hvs,hus,CD]) (λj v x e1 e2=>?_)
 ·rw[hex]at this;refine this.mono ?_;rintro e w' ⟨v,h',r,ρ',as,rfl,hP,hH,hr,hal,has,q1,q2,q3,q4,q5,q6⟩;refine⟨v,ρ',pM st ks h' (as.drop args.length),r,rfl,⟨h.defers.turn (λb hb=>q5 b (Array.getElem?_eq_some_iff.1 hb).1 (λhx=>kV h.heap hb hx)),h.size,λk av hk=>?_,hH,λid W L b e1 e2 e3=>?_,?_,λb hb=>ac3 (h.x0 b hb) q4⟩,hr,hK h' r as hP,λhq=>by cases hq⟩
  ·simp only[pM,kZ]at hk
   cases hz:sget (zipS ks (as.drop args.length)) k with
   | some av1=>
    rw[hz]at hk;obtain rfl:av1=av:=Option.some.inj hk;obtain⟨j,g1,g2⟩:=Hb hz;have hk1:=acZ.1 hks k (ac4 g1);obtain⟨av0,hav0⟩:=aea.1 hk1;refine⟨(h.aX k av0 hav0).1,?_⟩;rw[List.getElem?_drop]at g2;refine has (args.length+j) (bl E a k) av1 ?_ g2;rw[Array.getElem?_append_right acN,hvs,adR]
    simp[us,g1]
   | none=>
    rw[hz,aef]at hk;obtain⟨g1,g2⟩:=sZ hk;exact⟨(h.aX k av g1).1,(h.aX k av g1).2.flA g2⟩
  ·rcases q6 b ⟨id,W,L,e1,e2,e3⟩with g | ⟨id',W',L',f1,f2,f3⟩;exact .inl (adM h.an.size g);exact h.base id' W' L' b f1 f2 f3
  ·refine⟨q1.trans h.an.os,q2.trans h.an.tape,q3.trans h.an.output,adM h.an.size q4,λb hb hF=>(q5 b (ac3 hb h.an.size) ?_).trans (h.an.block b hb hF),h.an.cT⟩;rintro⟨id',W',L',f1,f2,f3⟩;rcases h.base id' W' L' b f1 f2 f3 with g | g;omega
   exact hF g
 ·by_cases hj:j<args.length
  ·rw[Array.getElem?_append_left acN]at e1;rw[List.getElem?_append_left (by simpa using hj),List.getElem?_map]at e2;obtain⟨y,g1,rfl⟩:=acR.1 e2;exact(hrv j v y e1 g1).1
  ·rw[Array.getElem?_append_right acN,hvs]at e1;rw[List.getElem?_append_right (by simpa using hj),ac7]at e2;simp only[us,List.getElem?_toArray,List.getElem?_map]at e1;obtain⟨k,g1,rfl⟩:=acR.1 e1;rw[CC _ _ _ _ g1]at e2;obtain rfl:=Option.some.inj e2;obtain⟨av0,hav0⟩:=aea.1 (acZ.1 hks k (ac4 g1));rw[hav0];exact(h.aX k av0 hav0).2
section
variable {P:Program} {st:St} {f n:Nat} {args:List AE} {as bs:List AV} {d:Option Nat} {r:List ROp} {K:KS} {Post:HP->AV->List AV->Prop}
theorem sk (ks:List Nat) (hks:ks.all (λk=>(sget st.s k).isSome)=true) (hb:as++getL st.s ks=bs) (hn:args.length=n) (hs:jm P f n st.h bs Post)
    (h:∀h' v as',Post h' v as'->aopsW P r (put (pM st ks h' (as'.drop n)) d v) K):jr P false st f args as d r K:=by
 rintro rfl;subst hb;subst hn;exact Hk ks hks hs h
end
theorem NX (s0:List (Nat×AV)):fltS s0 []=[]:=(rfl)
theorem NW (s0:List (Nat×AV)) (k:Nat) (v:AV) (r:List (Nat×AV)):fltS s0 ((k,v)::r)=fltO (sget s0 k) k (fltS s0 r):=(rfl)
theorem NV (v:AV) (k:Nat) (r:List (Nat×AV)):fltO (some v) k r=fltB (flA v) k v r:=(rfl)
theorem NU (v:AV) (k:Nat) (r:List (Nat×AV)):fltB true k v r=(k,v)::r:=(rfl)
theorem NT (v:AV) (k:Nat) (r:List (Nat×AV)):fltB false k v r=r:=(rfl)
theorem Ox (s:List (Nat×AV)):getL s []=[]:=(rfl)
theorem Ow (s:List (Nat×AV)) (k:Nat) (r:List Nat):getL s (k::r)=(sget s k).getD .undef::getL s r:=(rfl)
theorem acG (vs:List AV):zipS [] vs=[]:=(rfl)
theorem acF (k:Nat) (ks:List Nat) (v:AV) (vs:List AV):zipS (k::ks) (v::vs)=(k,v)::zipS ks vs:=(rfl)
theorem HK (st:St) (ks:List Nat) (h':HP) (gs:List AV):pM st ks h' gs=⟨zipS ks gs++fltS st.s st.s,h'⟩:=(rfl)
attribute [go_sem] NX NW NV NU NT Ox Ow acG acF HK
end Go.Proofs.YtoalcafkffmiiaaGreatDoor.Eng
namespace Go.Proofs.YtoalcafkffmiiaaGreatDoor.Eng
namespace Kz
abbrev m (d k:Nat):ROp:=.v d (.ij (.t k))
abbrev k (d:Nat) (x:AE):ROp:=.v d (.ij x)
abbrev b (d:Nat) (op:BinOp) (x y:Nat):ROp:=.v d (.bin op (.t x) (.t y))
abbrev u (id d:Nat) (o:AO):ROp:=.val d true id o
end Kz
section
variable {P:Program} {E:Env} {st:St} {Q:KQ}
theorem abO {pre post:List ROp} {o:ROp} {ks:List Nat}:vcW P E (.ga pre o post ks) Q st=aopsW P pre st (KS.sM P o post ks Q):=(rfl)
theorem abP {pre cP post:List ROp} {o o2:ROp} {ks:List Nat}:vcW P E (.ph pre o cP o2 post ks) Q st=aopsW P pre st (KS.BG P o cP o2 post ks Q):=(rfl)
theorem abF {p x y:List ROp} {ks:List Nat}:vcW P E (.alt p x y ks) Q st=aopsW P p st (KS.alt P x y ks Q):=(rfl)
theorem abG {T:RT} {ks:List Nat}:vcW P E (.gm T ks) Q st=kn P T st (KS.ck ks Q):=(rfl)
theorem abU {ops:List ROp} {d f bk p q0:Nat} {x:AE} {c:UInt8} {body:AK}:vcW P E (.split ops d f x c bk p q0 body) Q st=aopsW P ops st (KS.Gg P E d f x c bk p q0 body Q):=(rfl)
theorem abH {ops:List ROp} {d f kx bk p1 p q0:Nat} {body:AK}:vcW P E (.back ops d f kx bk p1 p q0 body) Q st=aopsW P ops st (KS.Ap P E d f kx bk p1 p q0 body Q):=(rfl)
end
attribute [go_sem] abS abN abJ abI abO abP abF abU abH abG YT YU R6
def fnChk (P:Program) (fn:Func) (B p:Nat):Option (AC×List RVar):=
 match fn.body with
 | some b=>bif Nat.ble fn.ntmps 1000000&&Nat.ble p fn.ntmps then some (trCode P fn.ntmps B b,fn.results.toList.map (trRes P))else none
 | none=>none
def jA (P:Program) (f B p:Nat) (x:AK) (rs:List RVar):Prop:=∃fn,P.funcs[f]?=some fn/\fnChk P fn B p=some (x.erase B,rs)
theorem jA.out {P:Program} {f B p:Nat} {x:AK} {rs:List RVar} (h:jA P f B p x rs):∃fn body,P.funcs[f]?=some fn/\fn.body=some body/\trCode P fn.ntmps B body=x.erase B/\fn.results.toList.map (trRes P)=rs/\fn.ntmps<=1000000/\p<=fn.ntmps:=by
 obtain⟨fn,h1,h2⟩:=h;unfold fnChk at h2;split at h2
 ·rename_i body hb
  cases hc:(Nat.ble fn.ntmps 1000000&&Nat.ble p fn.ntmps)with
  | false=>rw[hc]at h2;cases h2
  | true=>
   rw[hc]at h2;have h3:=Option.some.inj h2
   injection h3 with h4 h5
   simp only[acX,Nat.ble_eq]at hc;exact⟨fn,body,h1,hb,h4,h5,hc.1,hc.2⟩
 ·cases h2
def jB (P:Program) (x:AK) (rs:List RVar) (p:Nat) (s:List (Nat×AV)) (h:HP) (Post:HP->AV->List AV->Prop):Prop:=
 ∀(E:Env) (R:HP->AV->List AV->Prop),E.N<=1000000->c7 Post R->vcW P E x (KQ.post rs p R) ⟨s,h⟩
def oa (P:Program) (x:AK) (rs:List RVar) (p:Nat) (s:List (Nat×AV)) (h:HP) (Post:HP->AV->List AV->Prop):Prop:=
 ∀(E:Env) (R:HP->AV->List AV->Prop),E.N<=1000000->E.rd=none->c7 Post R->vcW P E x (KQ.post rs p R) ⟨s,h⟩
def rM (P:Program) (x:AK) (V:Value) (s:List (Nat×AV)) (h:HP):Prop:=∀(E:Env),E.N<=1000000->vcW P E x (KQ.dies V) ⟨s,h⟩
section
variable {P:Program} {f B p:Nat} {x:AK} {rs:List RVar} {h:HP} {args:List AV} {Post:HP->AV->List AV->Prop}
theorem rh (hf:jA P f B p x rs) (hl:args.length=p) (s:List (Nat×AV)) (hs:fe (jh args) s) (hp:oa P x rs p s h Post):Spec P f h args Post:=by
 obtain⟨fn,body,h1,h2,h3,h4,h5,h6⟩:=hf.out;refine ri (aaa h1 h2 h3 h5 acN (λE hE hB hrd=>?_));have hN:E.N<=1000000:=by rw[hE];exact h5
 rw[h4,<-hB,hl];exact rW s hs (gk hN _ (hp E _ hN hrd wK))
theorem lR (hf:jA P f B p x rs) (hl:args.length=p) (s:List (Nat×AV)) (hs:fe (jh args) s) (hp:jB P x rs p s h Post):Spec P f h args Post:=
 rh hf hl s hs (λE R h1 _ h2=>hp E R h1 h2)
theorem zb {V:Value} (hf:jA P f B p x rs) (hl:args.length=p) (s:List (Nat×AV)) (hs:fe (jh args) s) (hp:rM P x V s h):gT P f h args V:=by
 obtain⟨fn,body,h1,h2,h3,h4,h5,h6⟩:=hf.out;exact Z5 h1 h2 h3 h5 acN s hs hp
theorem Z8 {n:Nat} (hf:jA P f B n x rs) (hl:n<=args.length) (s:List (Nat×AV)) (hs:fe (uQ n args) s) (hp:oa P x rs args.length s h Post):jm P f n h args Post:=by
 obtain⟨fn,body,h1,h2,h3,h4,h5,h6⟩:=hf.out;refine Z2 (Z1 h1 h2 h3 h5 hl acN (λE hE hB hrd=>?_));have hN:E.N<=1000000:=by rw[hE];exact h5
 rw[h4,<-hB];exact rW s hs (gk hN _ (hp E _ hN hrd wK))
theorem Z7 {n:Nat} (hf:jA P f B n x rs) (hl:n<=args.length) (s:List (Nat×AV)) (hs:fe (uQ n args) s) (hp:jB P x rs args.length s h Post):jm P f n h args Post:=
 Z8 hf hl s hs (λE R h1 _ h2=>hp E R h1 h2)
end
end Go.Proofs.YtoalcafkffmiiaaGreatDoor.Eng
namespace Go.Proofs.YtoalcafkffmiiaaGreatDoor.Eng
def pJ (P:Program) (g:Nat) (h:HP) (args:List AV) (V:Value) (h':HP):Prop:=
 ∀(X0:Nat->Prop) (ρ:Loc) (w:World) (vs:Array Value),dI X0 ρ h w->kD (aW ρ h) w->(∀b,X0 b->b<w.heap.size)->vs.size=args.length ->
  (∀(j:Nat) v x,vs[j]?=some v->args[j]?=some x->RV (XX X0 ρ h) w ρ v x) ->
  CallsDIn Fence.wide 0 P g vs (.panicking (bS V)) w λe u' w'=>(∃v,e=.returned v)/\u'=.panicking [{v:=V,recovered:=true}]/\∃ρ',dI X0 ρ' h' w' /\
   (∀(j:Nat) v x,vs[j]?=some v->args[j]?=some x->RV (XX X0 ρ' h') w' ρ' v x) /\
   w'.os=w.os/\w'.tape=w.tape/\w'.output=w.output/\w.heap.size<=w'.heap.size/\(∀b,b<w.heap.size->¬aW ρ h b->w'.heap[b]?=w.heap[b]?) /\
   (∀b,aW ρ' h' b->w.heap.size<=b\/aW ρ h b)
def lZ (P:Program) (g k:Nat):Prop:=∀(vs:Array Value) (w:World),vs.size=k->CallsDIn Fence.wide 0 P g vs .returning w λe u' w'=>(∃v,e=.returned v)/\u'=.returning/\w'=w
def ghL:Nat->Nat->List AE
 | _,0=>[]
 | j,k+1=>.t j::ghL (j+1) k
def w9 (m k:Nat):List AE:=ghL (2000000+m) k
theorem CG:∀k j,(ghL j k).length=k
 | 0,_=>rfl
 | k+1,j=>by simp[ghL,CG k]
theorem CF:∀k j i,i<k->(ghL j k)[i]?=some (.t (j+i))
 | 0,_,_,h=>by omega
 | k+1,j,0,_=>rfl
 | k+1,j,i+1,h=>by
  simp only[ghL,List.getElem?_cons_succ];rw[CF k (j+1) i acN,show j+1+i=j+(i+1)by omega]
def hV (st:St) (m k:Nat):List AV:=evL st (w9 m k)
def l3 (st:St) (m k:Nat) (h0 h':HP):St:=iQ st h0 ((hV st m k).map .c) h' (hV st m k)
def CK (P:Program) (rs:List RVar) (m k g:Nat) (R:HP->AV->List AV->Prop):Exit->St->Prop
 | .normal,st | .ret,st=>∃r,resOf st rs=some r/\R st.h r (argsAgain st 0 m)
 | .panic ch,st=>∃V h0 h',ch=bS V/\pJ P g h0 (hV st m k) V h'/\kg h' h'=true/\(∀i W,hget h0 i=some W->hget st.h i=some W) /\
     ∃r,resOf (l3 st m k h0 h') rs=some r/\R (l3 st m k h0 h').h r (argsAgain (l3 st m k h0 h') 0 m)
 | _,_=>False
def seqA:List AC->AC->AC
 | [],y=>y
 | x::xs,y=>.seq x (seqA xs y)
def uq (P:Program) (E:Env):List AC->(Exit->St->Prop)->St->Prop
 | [],Q,st=>Q .normal st
 | x::xs,Q,st=>bN P E x st (lf (uq P E xs Q) Q)
def wm (P:Program) (N B:Nat) (rs:List RVar) (m g d:Nat) (caps:List AE) (c1:AC) (R:HP->AV->List AV->Prop):Exit->St->Prop
 | .normal,st=>∀E':Env,E'.N=N->E'.B=B->E'.rd=none->bN P E' c1 ⟨numbered (2000000+m) (evL st caps)++(d,.undef)::st.s,st.h⟩ (CK P rs m caps.length g R)
 | .ret,st=>∃r,resOf st rs=some r/\R st.h r (argsAgain st 0 m)
 | _,_=>False
theorem Y1 {o:Oper} {f:Nat} {cap:Array Operand} (ho:o.op=.makeFunc (.func f) #[] cap) (a:Act) (P:Program) (w:World):(execOp a.eval o).run P w=.ok (.value (.func (.func f) #[] (cap.map a.eval))) w:=by
 simp[execOp,ho,Instr.makeFunc]
theorem Z9 {P:Program} {f g d:Nat} {fn:Func} {body:Code} {h:HP} {args:List AV} {Post:HP->AV->List AV->Prop} {pre:List AC} {c1:AC} {caps:List AE} (hf:P.funcs[f]?=some fn) (hb:fn.body=some body) {B:Nat}
    (hc:trCode P fn.ntmps B body=seqA pre (.seq (.fH g (.c (.af [.int .i64 (d:Int)])::caps)) c1)) (hN:fn.ntmps<=1000000) (ha:args.length<=fn.ntmps) (hd:d<fn.ntmps) (hI:lZ P g caps.length)
    (hp:∀E:Env,E.N=fn.ntmps->E.B=B->E.rd=none->uq P E pre (wm P fn.ntmps B (fn.results.toList.map (trRes P)) args.length g d caps c1 Post) ⟨jh args,h⟩):Spec P f h args Post:=by
 intro X0 ρ w vs hh hA hX hvs hrv
 let gv0:Nat->Value:=λk=>vs.getD (k-2000000) undef
 let E0:Env:=⟨w,aW ρ h,X0,fn.ntmps,B,gv0,none,w.heap.size,acT _,[]⟩
 let RR:Ending->World->Prop:=λe w'=>∃v h' r ρ' as,e=.returned v/\Post h' r as/\dI X0 ρ' h' w'/\RV (XX X0 ρ' h') w' ρ' v r /\
     as.length=args.length/\(∀(j:Nat) v x,vs[j]?=some v->as[j]?=some x->RV (XX X0 ρ' h') w' ρ' v x) /\
     w'.os=w.os/\w'.tape=w.tape/\w'.output=w.output/\w.heap.size<=w'.heap.size/\(∀b,b<w.heap.size->¬aW ρ h b->w'.heap[b]?=w.heap[b]?) /\
     (∀b,aW ρ' h' b->w.heap.size<=b\/aW ρ h b)
 have fin0:∀(E:Env) (ρ':Loc) (st'':St) (a':Act) (w'':World),E.w0=w->E.F=aW ρ h->E.X0=X0->E.N=fn.ntmps->(∀j,j<args.length->E.gv (2000000+j)=gv0 (2000000+j))->ai E ρ' st'' a' w'' ->
     (∃r,resOf st'' (fn.results.toList.map (trRes P))=some r/\Post st''.h r (argsAgain st'' 0 args.length))->∃v,(results fn a'.tmps).run P w''=.ok v w''/\RR (.returned v) w'':=by
  rintro E ρ' st'' a' w'' e1 e2 e3 e4 e5 g ⟨r,hr,hP⟩;obtain⟨v,q1,q2⟩:=yG (P:=P) g hr;have gx:=g.heap;rw[e3]at gx q2
  refine⟨v,q1,v,st''.h,r,ρ',_,rfl,hP,gx,q2,pP _ _ _,λj v x g1 g2=>?_,by rw[g.an.os,e1],by rw[g.an.tape,e1],by rw[g.an.output,e1],by have:=g.an.size;rwa[e1]at this,λb hb hF=>by
   have:=g.an.block b (by rw[e1];exact hb) (by rw[e2];exact hF)
   rwa[e1]at this,λb ⟨id,W,L,h1,h2,h3⟩=>by have:=g.base id W L b h1 h2 h3;rwa[e1,e2]at this⟩
  have hjl:j<args.length:=by
   have:=(List.getElem?_eq_some_iff.1 g2).1
   rwa[pP]at this
  have:=rU st'' _ _ j x g2;rw[aeo]at this
  cases hs:sget st''.s (2000000+j)with
  | none=>rw[hs]at this;subst this;exact .undef _ _
  | some av=>
   rw[hs]at this;obtain rfl:x=av:=this;have hr2:=(g.aX _ _ hs).2;unfold bl at hr2;rw[if_neg (by rw[e4];omega),e5 j hjl,e3]at hr2;simp only[gv0,adR,ac0,g1]at hr2;exact hr2
 have key:∀(pre:List AC) (body:Code) (st1:St) (ρ1:Loc) (a1:Act) (w1:World),trCode P fn.ntmps B body=seqA pre (.seq (.fH g (.c (.af [.int .i64 (d:Int)])::caps)) c1)->ai E0 ρ1 st1 a1 w1 ->
     uq P E0 pre (wm P fn.ntmps B (fn.results.toList.map (trRes P)) args.length g d caps c1 Post) st1->body.wpIn Fence.wide 0 P (bodyPostM Fence.wide 0 P fn RR) a1 w1:=by
  intro pre
  induction pre with
  | cons x xs ih=>
   intro body st1 ρ1 a1 w1 hc g1 hp;obtain⟨b0,b',rfl,h0,hb'⟩:=GC hc;refine wpIn_seq (wpIn_mono (hp 0 b0 h0 a1 w1 ⟨ρ1,g1⟩) ?_);rintro e a' w' ⟨st',⟨ρ',g'⟩,q⟩
   cases e with
   | normal=>exact ih b' st' ρ' a' w' hb' g' q
   | ret=>
    show LeavesInM Fence.wide 0 P fn a'.tmps _ a'.defers .returning w'
    obtain⟨⟨Ds,hDs⟩,_⟩:=g'.defers;rw[hDs];refine mh (E:=E0) (ρ:=ρ') (st:=st') (a:=a') (by simp) (λw' gg=>?_) rfl rfl Ds w' (by rw[<-hDs];exact g');obtain⟨v,q1,q2⟩:=fin0 E0 ρ' st' _ w' rfl rfl rfl rfl (λ_ _=>rfl) gg q
    exact⟨v,q1,q2⟩
   | exit id=>exact q.elim
   | goto l=>exact q.elim
   | panic ch=>exact q.elim
   | outgrown=>exact q.elim
  | nil=>
   intro body st1 ρ1 a1 w1 hc g1 hp;obtain⟨bd,b1,rfl,hbd,h1⟩:=GC hc;obtain⟨id,ops,draw,o1,o2,cap,cl,rfl,hops,ho1,hg1,hd1,ho2,hg2,hd2,hcl,hca,hcal,hcaps,hdraw⟩:=aa5 hbd
   have hoa:ops=#[o1,o2]:=by
    apply Array.toList_inj.1;simpa using hops
   let us:Array Value:=cap.map a1.eval
   have husz:us.size=caps.length:=by rw[hcaps];simp[us]
   let dd:Deferred:={target:=.fn (.func g) us,args:=#[]}
   let a2:Act:=a1.put (some d) (.func (.func g) #[] us)
   let a3:Act:={a2 with defers:=dd::a2.defers}
   have hev2:a2.eval (.tmp d)=.func (.func g) #[] us:=by
    show(a1.put (some d) (.func (.func g) #[] us)).tmps.getD d undef=_
    rw[qp a1 d d _ (by rw[g1.size];exact hd),if_pos rfl]
   have region:∀(Q:Exit->Act->World->Prop),(∀w2,aN w1 w2->Q .normal a3 w2)->(Code.region id ops draw).wpIn Fence.wide 0 P Q a1 w1:=by
    intro Q hQ;have r1:∀w2,(execOp a1.eval o1).run P w2=.ok (.value (.func (.func g) #[] us)) w2:=λw2=>Y1 ho1 a1 P w2
    have r2:∀w2,(execOp a2.eval o2).run P w2=.ok (.defer dd) w2:=by
     intro w2;unfold execOp;simp[ho2,resolve,hcl,hev2,Deferred.ofValue,hca,dd]
    have s1:∀w2 (next:Act->World->Prop),next a2 w2->o1.wpIn Fence.wide 0 P a1 w2 next Q:=by
     intro w2 next hn
     refine⟨λ_ _=>trivial,?_⟩;rw[show Fence.wide.round=none from rfl,Oper.semAt_none,r1]
     show next (a1.put o1.dst _) w2
     rw[hd1];exact hn
    have s2:∀w2 (next:Act->World->Prop),next a3 w2->o2.wpIn Fence.wide 0 P a2 w2 next Q:=by
     intro w2 next hn
     refine⟨λ_ _=>trivial,?_⟩;rw[show Fence.wide.round=none from rfl,Oper.semAt_none,r2]
     show next (({a2 with defers:=dd::a2.defers}:Act).put o2.dst undef) w2
     rw[hd2];exact hn
    have hw:∀(o:Oper) (l:Nat->Option Bool),o.guard=none->Region.wanted o l=true:=by
     intro o l h;simp[Region.wanted,h]
    cases draw with
    | false=>
     refine wpIn_region_list ?_;rw[hops]
     exact wpListIn_plain hg1 (λnext hnext=>s1 _ _ (hnext _ _ (wpListIn_plain hg2 (λnext hnext=>s2 _ _ (hnext _ _ (hQ w1 (aN.refl w1)))))))
    | true=>
     obtain⟨hm,e0,e1,e2⟩:=hdraw rfl;subst hoa;refine wpIn_region_any hm ?_;have hs:aN w1 {w1 with drawn:=w1.drawn+1}:=aN.drew w1;refine⟨λe=>?_,λi hi=>?_⟩
     ·have:Region.ready .any #[o1,o2] #[false,false]=[]:=e;rw[e0]at this;cases this
     ·have hi':i∈Region.ready .any #[o1,o2] #[false,false]:=hi;rw[e0,ac8]at hi';subst hi';unfold wpOpIn;simp only[List.getElem?_toArray,List.getElem?_cons_zero,hw o1 _ hg1,if_true];refine s1 _ _ ?_;refine⟨λe=>?_,λi hi=>?_⟩
      ·have:Region.ready .any #[o1,o2] #[true,false]=[]:=e;rw[e1]at this;cases this
      ·have hi':i∈Region.ready .any #[o1,o2] #[true,false]:=hi;rw[e1,ac8]at hi';subst hi';unfold wpOpIn;simp only[List.getElem?_toArray,List.getElem?_cons_succ,List.getElem?_cons_zero,hw o2 _ hg2,if_true];refine s2 _ _ ?_;exact⟨e2,hQ _ hs⟩
   refine wpIn_seq (region _ (λw2 hs2=>?_))
   show b1.wpIn Fence.wide 0 P (bodyPostM Fence.wide 0 P fn RR) a3 w2
   let m:=args.length
   let E1:Env:=⟨w,aW ρ h,X0,fn.ntmps,B,λj=>if 2000000+m<=j/\j<2000000+m+caps.length then us.getD (j-(2000000+m)) undef else gv0 j,none,w.heap.size,acT _,dd::a1.defers⟩
   obtain⟨⟨Ds0,hDs0⟩,hnd0,hmk0⟩:=(g1.same hs2).defers;have hDs0:a1.defers=Ds0.map nu:=by rw[hDs0];simp[E0]
   have gput:=(g1.same hs2).put d hd (v:=.func (.func g) #[] us) (av:=.undef) (.undef _ _)
   have hcv:∀(j:Nat) x,(evL st1 caps)[j]?=some x->∃v,us[j]?=some v/\RV (XX E0.X0 ρ1 st1.h) w2 ρ1 v x:=by
    intro j x hj;rw[j8,hcaps,adS,List.getElem?_map,Array.getElem?_toList]at hj;obtain⟨y,e1,rfl⟩:=acR.1 hj;exact⟨a1.eval y,by simp[us,e1],bn (g1.same hs2) y⟩
   have g2:ai E1 ρ1 ⟨numbered (2000000+m) (evL st1 caps)++(d,.undef)::st1.s,st1.h⟩ a3 w2:=by
    refine⟨⟨⟨[],rfl⟩,hnd0,hmk0⟩,gput.size,λk av hk=>?_,(g1.same hs2).heap,g1.base,⟨(g1.same hs2).an.os,(g1.same hs2).an.tape,(g1.same hs2).an.output,(g1.same hs2).an.size,(g1.same hs2).an.block,g1.an.cT⟩,(g1.same hs2).x0⟩;simp only[kZ]at hk
    cases hz:sget (numbered (2000000+m) (evL st1 caps)) k with
    | some av1=>
     rw[hz]at hk;obtain rfl:av1=av:=Option.some.inj hk;obtain⟨e1,e2⟩:=k8 _ _ _ _ hz;obtain⟨v,e3,e4⟩:=hcv _ _ e2;refine⟨.inr acN,?_⟩
     have:bl E1 a3 k=v:=by
      unfold bl;rw[if_neg (by simp only[E1];omega)];have e5:k-(2000000+m)<us.size:=(Array.getElem?_eq_some_iff.1 e3).1;simp only[E1,if_pos (show 2000000+m<=k/\k<2000000+m+caps.length by omega),ac0,e3];rfl
     rw[this];exact e4
    | none=>
     rw[hz,aef]at hk;obtain⟨r1,r2⟩:=gput.aX k av hk;refine⟨r1,?_⟩
     have hkm:¬(2000000+m<=k/\k<2000000+m+caps.length):=by
      intro hk2;have hl:k-(2000000+m)<(evL st1 caps).length:=by rw[j8];simp;omega
      have:=pt (evL st1 caps) (2000000+m) (k-(2000000+m)) _ (List.getElem?_eq_getElem hl);rw[show 2000000+m+(k-(2000000+m))=k by omega,hz]at this;cases this
     have:bl E1 a3 k=bl E0 (a1.put (some d) (.func (.func g) #[] us)) k:=by
      unfold bl;simp only[E1,E0,if_neg hkm];rfl
     rw[this];exact r2
   refine wpIn_mono (hp E1 rfl rfl rfl 0 b1 h1 _ w2 ⟨ρ1,g2⟩) ?_;rintro e a' w' ⟨st',⟨ρ',g0⟩,q⟩;obtain⟨⟨Ds,hDs⟩,_⟩:=g0.defers
   have fin:∀(ρ'':Loc) (st'':St) (w'':World),ai E1 ρ'' st'' {a' with defers:=dd::a1.defers} w''->(∃r,resOf st'' (fn.results.toList.map (trRes P))=some r/\Post st''.h r (argsAgain st'' 0 args.length)) ->
       LeavesInM Fence.wide 0 P fn a'.tmps RR a1.defers .returning w'':=by
    intro ρ'' st'' w'' gg hP
    have gg':ai {E1 with df:=[]} ρ'' st'' {a' with defers:=Ds0.map nu++[]} w'':=by
     refine gg.df rfl rfl rfl rfl rfl ⟨⟨Ds0,rfl⟩,?_⟩;have:=gg.defers.2;rw[adz,<-hDs0];exact this
    have:=mh (P:=P) (fn:=fn) (E:={E1 with df:=[]}) (ρ:=ρ'') (st:=st'') (a:=a') (u:=.returning) (rest:=[]) (R:=RR) (by simp) (λw' g=>?_) rfl rfl Ds0 w'' gg'
    ·rw[adz,<-hDs0]at this;exact this
    ·obtain⟨v,q1,q2⟩:=fin0 _ ρ'' st'' _ w' rfl rfl rfl rfl (λj hj=>by
      show(if _ then _ else _)=_
      rw[if_neg acN]) g hP
     exact⟨v,q1,q2⟩
   have hinv:∀w,(invoke (.fn (.func g) us) #[]).run P w=.ok (.enter g us) w:=by
    intro w;unfold callable at hcal;split at hcal
    ·rename_i fn h2;simp only[acX,bne_iff_ne]at hcal;have h5:¬fn.name = "runtime.NumGoroutine" := by simpa using hcal.2
     have h6:¬fn.body=none:=by intro e;rw[e]at hcal;cases hcal.1
     simp[invoke,callFunc,h2,h5,h6]
    ·cases hcal
   have ret:(∃r,resOf st' (fn.results.toList.map (trRes P))=some r/\Post st'.h r (argsAgain st' 0 args.length))->LeavesInM Fence.wide 0 P fn a'.tmps RR a'.defers .returning w':=by
    intro hq;rw[hDs];refine mh (E:=E1) (ρ:=ρ') (st:=st') (a:=a') (by simp) (λw' gg=>?_) rfl rfl Ds w' (by rw[<-hDs];exact g0);refine⟨by simp,.inr ⟨λhh=>(by cases hh),.func g,us,g,_,rfl,hinv w',λ_ _=>trivial,(hI us w' husz).mono ?_⟩⟩;rintro e u' w2 ⟨⟨v,rfl⟩,rfl,rfl⟩;exact fin ρ' st' _ gg hq
   cases e with
   | normal=>exact ret q
   | ret=>exact ret q
   | exit id=>exact q.elim
   | goto l=>exact q.elim
   | outgrown=>exact q.elim
   | panic ch=>
    obtain⟨V,h0,h',rfl,hS,hin,hsub,hP⟩:=q
    show LeavesInM Fence.wide 0 P fn a'.tmps _ a'.defers (.panicking (bS V)) w'
    rw[hDs];refine mh (E:=E1) (ρ:=ρ') (st:=st') (a:=a') (by simp) (λw' gg=>?_) rfl rfl Ds w' (by rw[<-hDs];exact g0);have hgl:(hV st' m caps.length).length=caps.length:=by simp[hV,j8,w9,CG]
    have hrv2:∀(j:Nat) v x,us[j]?=some v->(hV st' m caps.length)[j]?=some x->RV (XX X0 ρ' st'.h) w' ρ' v x:=by
     intro j v x e1 e2;have hj:j<caps.length:=by have:=(List.getElem?_eq_some_iff.1 e2).1;omega
     simp only[hV,j8,w9,List.getElem?_map,CF _ _ _ hj,adm,Option.some.injEq]at e2;subst e2
     show RV _ _ _ _ ((sget st'.s (2000000+m+j)).getD .undef)
     cases hs:sget st'.s (2000000+m+j)with
     | none=>exact .undef _ _
     | some av=>
      have hr2:=(gg.aX _ _ hs).2;unfold bl at hr2;rw[if_neg (by simp only[E1];omega)]at hr2;simp only[E1,if_pos (show 2000000+m<=2000000+m+j/\2000000+m+j<2000000+m+caps.length by omega),show 2000000+m+j-(2000000+m)=j by omega,ac0,e1]at hr2;exact hr2
    have hx1:=qL (E:=E1) (ρ:=ρ') hsub
    refine⟨by simp,.inr ⟨λhh=>(by cases hh),.func g,us,g,_,rfl,hinv w',λ_ _=>trivial,
     (hS (lK E1 ρ' st' h0) ρ' w' us (zK gg hsub) (gg.cT.mono λb ⟨id,W,L,g1,g2,g3⟩=>⟨id,W,L,hsub _ _ g1,g2,g3⟩) (λb hb=>vn gg b (hx1 b (.inl hb))) (by rw[hgl,husz])
      (λj v x e1 e2=>(hrv2 j v x e1 e2).mono (λ_ _ _=>rfl) (λb _ hb hx=>hb (hx1 b hx)) _ (λ_ _ h=>h))).mono ?_⟩⟩
    rintro e u' w3 ⟨⟨v,rfl⟩,rfl,ρ3,hH,has,q1,q2,q3,q4,q5,q6⟩
    obtain⟨ρ4,g4,_⟩:=zJ (ρ':=ρ3) (h':=h') (v:=undef) (r:=.undef) (args:=(hV st' m caps.length).map .c) (as:=hV st' m caps.length) gg (by simp[hgl,husz]) (λj v x e1 e2=>by
        rw[List.getElem?_map]at e2;obtain⟨y,e3,rfl⟩:=acR.1 e2
        exact⟨hrv2 j v y e1 e3,λk hk=>by cases hk⟩) hsub hin rfl hH (.undef _ _) (by simp) has q1 q2 q3 q4 q5 q6
    exact fin ρ4 _ _ g4 hP
 exact(callsIn_wide (n:=0)).1 (callsIn_of_wp_marks hf hb trivial (key pre body _ ρ _ w hc (rq hN ha hh hA hX hvs hrv [] rfl) (hp E0 rfl rfl rfl)))
def seqK:List AK->AK->AK
 | [],y=>y
 | x::xs,y=>.seq x (seqK xs y)
theorem F1 (B:Nat) (y:AK):∀xs,(seqK xs y).erase B=seqA (xs.map (AK.erase B)) (y.erase B)
 | []=>rfl
 | x::xs=>by simp only[seqK,AK.erase,adi,seqA,F1 B y xs]
def nT (P:Program) (E:Env):List AK->KQ->St->Prop
 | [],Q,st=>Q.ap .normal st
 | x::xs,Q,st=>vcW P E x ⟨lf (λst=>nT P E xs Q st) Q.ap⟩ st
def KQ.sq (P:Program) (E:Env) (xs:List AK) (Q:KQ):KQ:=⟨lf (λst=>nT P E xs Q st) Q.ap⟩
theorem EP {P:Program} {E:Env} (hN:E.N<=1000000):∀(xs:List AK) {Q:KQ} {st:St},nT P E xs Q st->uq P E (xs.map (AK.erase E.B)) Q.ap st
 | [],Q,st,h=>h
 | x::xs,Q,st,h=>bN.mono (gk hN x h) (Gx (λst' h'=>EP hN xs h') (λ_ _ h=>h))
def KQ.gC (P:Program) (rs:List RVar) (m k g:Nat) (R:HP->AV->List AV->Prop):KQ:=⟨CK P rs m k g R⟩
def KQ.dC (P:Program) (N B:Nat) (rs:List RVar) (m g d:Nat) (caps:List AE) (y:AK) (R:HP->AV->List AV->Prop):KQ:=⟨wm P N B rs m g d caps (y.erase B) R⟩
section
variable {P:Program} {E:Env} {st:St} {Q:KQ} {rs:List RVar} {m k g d N B:Nat} {caps:List AE} {y:AK} {R:HP->AV->List AV->Prop}
theorem abE:nT P E [] Q st=Q.ap .normal st:=(rfl)
theorem abD {x:AK} {xs:List AK}:nT P E (x::xs) Q st=vcW P E x (KQ.sq P E xs Q) st:=(rfl)
theorem RI {xs:List AK}:(KQ.sq P E xs Q).ap .normal st=nT P E xs Q st:=(rfl)
theorem RJ {xs:List AK}:(KQ.sq P E xs Q).ap .ret st=Q.ap .ret st:=(rfl)
theorem RM {xs:List AK} {i:Nat}:(KQ.sq P E xs Q).ap (.exit i) st=Q.ap (.exit i) st:=(rfl)
theorem Q7:(KQ.gC P rs m k g R).ap .ret st=(KQ.post rs m R).ap .ret st:=(rfl)
theorem Q6:(KQ.gC P rs m k g R).ap .normal st=(KQ.post rs m R).ap .ret st:=(rfl)
theorem Q4:(KQ.dC P N B rs m g d caps y R).ap .ret st=(KQ.post rs m R).ap .ret st:=(rfl)
theorem wZ {V:Value} (h0 h':HP) {as:List AV} (has:hV st m k=as) (hS:pJ P g h0 as V h') (hin:kg h' h'=true) (hsub:dE st.h h0) (h:(KQ.post rs m R).ap .ret (l3 st m k h0 h')):(KQ.gC P rs m k g R).ap (.panic (bS V)) st:=
 ⟨V,h0,h',rfl,has▸hS,hin,λi W hi=>ki hsub i W hi,h⟩
theorem wi (h:∀E':Env,E'.N<=1000000->vcW P E' y (KQ.gC P rs m caps.length g R) ⟨numbered (2000000+m) (evL st caps)++(d,.undef)::st.s,st.h⟩) (hN:N<=1000000):(KQ.dC P N B rs m g d caps y R).ap .normal st:=
 λE' e1 e2 _=>by
  have hN':E'.N<=1000000:=acN;rw[<-e2];exact gk hN' y (h E' hN')
theorem Oz:hV st m k=evL st (ghL (2000000+m) k):=(rfl)
theorem HC {h0 h':HP}:l3 st m k h0 h'=iQ st h0 ((hV st m k).map .c) h' (hV st m k):=(rfl)
end
theorem Oy:(∀j,ghL j 0=[])/\(∀j k,ghL j (k+1)=.t j::ghL (j+1) k):=⟨λ_=>rfl,λ_ _=>rfl⟩
attribute [go_sem] abE abD RI RJ RM Q7 Q6 Q4 Oz HC Oy
def rL (P:Program) (pre:List AK) (y:AK) (g d:Nat) (caps:List AE) (B p:Nat) (rs:List RVar) (s:List (Nat×AV)) (h:HP) (Post:HP->AV->List AV->Prop):Prop:=
 ∀(E:Env) (R:HP->AV->List AV->Prop) (N:Nat),E.N<=1000000->N<=1000000->c7 Post R->nT P E pre (KQ.dC P N B rs p g d caps y R) ⟨s,h⟩
theorem za {P:Program} {f B p q g d:Nat} {x0:AK} {pre:List AK} {y:AK} {caps:List AE} {rs:List RVar} {h:HP} {args:List AV} {Post:HP->AV->List AV->Prop}
    (hf:jA P f B q (seqK (x0::pre) (.seq (.fH g (.c (.af [.int .i64 (d:Int)])::caps)) y)) rs) (hl:args.length=p) (hq:p<=q) (hd:d<q) (hI:lZ P g caps.length) (s:List (Nat×AV)) (hs:fe (jh args) s)
    (hp:rL P (x0::pre) y g d caps B p rs s h Post):Spec P f h args Post:=by
 obtain⟨fn,body,h1,h2,h3,h4,h5,h6⟩:=hf.out;rw[F1]at h3;refine ri (Z9 (pre:=(x0::pre).map (AK.erase B)) h1 h2 h3 h5 acN acN hI (λE hE hB hrd=>?_));have hN:E.N<=1000000:=by rw[hE];exact h5
 have this:=EP hN (x0::pre) (hp E _ fn.ntmps hN h5 wK);rw[hB]at this;rw[h4,hl];exact rW s hs this
open Go Go.Sem
def B4 (J:Nat->Act->World->Prop) (Q:Exit->Act->World->Prop):Exit->Act->World->Prop
 | .goto l,a,w=>J l a w
 | e,a,w=>Q e a w
theorem ab8 {F:Fence} {n:Nat} {P:Program} {a:Act} {w:World} {Q:Exit->Act->World->Prop} {c:Code} (J:Nat->Nat->Act->World->Prop)
    (first:c.wpIn F n P (B4 (λl a w=>∃m,J m l a w) Q) a w)
    (pass:∀m l a w,J m l a w->∃rest,findLabel c l=some rest/\rest.wpIn F n P (B4 (λl a w=>∃m',m'<m/\J m' l a w) Q) a w):(Code.scope c).wpIn F n P Q a w:=by
 intro b k cs hro hb hr;have h0:(lone (b.atR a (.code (.scope c)::k)) cs w).fenced P F:=fenced_calm hb hr rfl
 have fin:∀{m:Machine} (e:Exit) (a₁:Act) (w₁:World),Q e a₁ w₁->(∀l',e≠.goto l')->ArrivesIn (Machine.fenced P F) P m b (.inScope c::k) cs e a₁ w₁ ->
     ∃e a' w',Q e a' w'/\ArrivesIn (Machine.fenced P F) P m b k cs e a' w':=by
  intro m e a₁ w₁ hq' hne harr
  cases e with
  | normal=>exact⟨.normal,a₁,w₁,hq',StepsIn.trans harr (.one (fenced_calm hb hr rfl) aav)⟩
  | exit id=>
   have hx:exitTo id (.inScope c::k)=exitTo id k:=by simp[exitTo]
   exact⟨.exit id,a₁,w₁,hq',λk' hk=>harr.1 k' (by rw[hx];exact hk),λh1 h2=>harr.2 h1 (by rw[hx];exact h2)⟩
  | goto l'=>exact absurd rfl (hne l')
  | ret=>exact⟨_,a₁,w₁,hq',harr⟩
  | panic ch=>exact⟨_,a₁,w₁,hq',harr⟩
  | outgrown=>exact⟨_,a₁,w₁,hq',harr⟩
 have all:∀m l a w,J m l a w->∃rest,findLabel c l=some rest/\∃e a' w',Q e a' w'/\ArrivesIn (Machine.fenced P F) P (lone (b.atR a (.code rest::.inScope c::k)) cs w) b k cs e a' w':=by
  intro m
  induction m using Nat.strongRecOn with
  | _ m ih=>
   intro l a w hJ;obtain⟨rest,hf,hw⟩:=pass m l a w hJ;refine⟨rest,hf,?_⟩;obtain⟨e,a₁,w₁,hq,harr⟩:=hw b (.inScope c::k) cs hro hb hr;by_cases hgo:∃l',e=.goto l'
   ·obtain⟨l',rfl⟩:=hgo;obtain⟨m',hm,hJ'⟩:=hq;obtain⟨rest',hf',e₂,a₂,w₂,hq₂,harr₂⟩:=ih m' hm l' a₁ w₁ hJ';have hg:gotoIn l' (.inScope c::k)=some (.code rest'::.inScope c::k):=by simp[gotoIn,hf']
    exact⟨e₂,a₂,w₂,hq₂,.of_steps (harr.1 _ hg) harr₂⟩
   ·exact fin e a₁ w₁ (by cases e<;>first | exact hq | exact absurd ⟨_,rfl⟩ hgo) (λl' h=>hgo ⟨l',h⟩) harr
 obtain⟨e,a₁,w₁,hq,harr⟩:=first b (.inScope c::k) cs hro hb hr
 by_cases hgo:∃l',e=.goto l'
 ·obtain⟨l',rfl⟩:=hgo;obtain⟨m',hJ'⟩:=hq;obtain⟨rest',hf',e₂,a₂,w₂,hq₂,harr₂⟩:=all m' l' a₁ w₁ hJ';have hg:gotoIn l' (.inScope c::k)=some (.code rest'::.inScope c::k):=by simp[gotoIn,hf']
  exact⟨e₂,a₂,w₂,hq₂,.of_steps (.head h0 Gk (harr.1 _ hg)) harr₂⟩
 ·obtain⟨e₃,a₃,w₃,hq₃,harr₃⟩:=fin e a₁ w₁ (by cases e<;>first | exact hq | exact absurd ⟨_,rfl⟩ hgo) (λl' h=>hgo ⟨l',h⟩) harr
  exact⟨e₃,a₃,w₃,hq₃,.of_steps (.one h0 Gk) harr₃⟩
def xx (J:Nat->St->Prop) (Q:Exit->St->Prop):Exit->St->Prop
 | .goto l,st=>J l st
 | e,st=>Q e st
theorem I2 {P:Program} {E:Env} {st:St} {Q:Exit->St->Prop} {x:AC} (J:Nat->Nat->St->Prop) (first:bN P E x st (xx (λl st=>∃m,J m l st) Q))
    (pass:∀m l st,J m l st->∃y,findA x l=some y/\bN P E y st (xx (λl st=>∃m',m'<m/\J m' l st) Q)):bN P E (.scope x) st Q:=by
 intro n code hc a w hr;cases code<;>simp only[trCode]at hc<;>first | (cases hc;done) | (exact Bool.noConfusion (show false=true from gi hc)) | (split at hc<;>cases hc;done) | skip
 rename_i c
 injection hc with h1
 subst h1;refine ab8 (λm l a w=>∃st,Rel E st a w/\J m l st) (wpIn_mono (first n c rfl a w hr) ?_) ?_
 ·rintro e a' w' ⟨st',g1,g2⟩
  cases e with
  | goto l'=>obtain⟨m,h⟩:=g2;exact⟨m,st',g1,h⟩
  | normal=>exact⟨st',g1,g2⟩
  | exit id=>exact⟨st',g1,g2⟩
  | ret=>exact⟨st',g1,g2⟩
  | panic ch=>exact⟨st',g1,g2⟩
  | outgrown=>exact⟨st',g1,g2⟩
 ·rintro m l a w ⟨st',g1,g2⟩;obtain⟨y,hf,hy⟩:=pass m l st' g2;rw[wL]at hf;obtain⟨rest,hfl,rfl⟩:=acR.1 hf;refine⟨rest,hfl,wpIn_mono (hy n rest rfl a w g1) ?_⟩;rintro e a' w' ⟨st',g1,g2⟩
  cases e with
  | goto l'=>obtain⟨m',hm,h⟩:=g2;exact⟨m',hm,st',g1,h⟩
  | normal=>exact⟨st',g1,g2⟩
  | exit id=>exact⟨st',g1,g2⟩
  | ret=>exact⟨st',g1,g2⟩
  | panic ch=>exact⟨st',g1,g2⟩
  | outgrown=>exact⟨st',g1,g2⟩
def KQ.lC (R:Nat->KS) (Q:KQ):KQ:=⟨xx (λl=>(R l).ap) Q.ap⟩
theorem RN (R:Nat->KS) (Q:KQ) (st:St):(∀l,(KQ.lC R Q).ap (.goto l) st=(R l).ap st)/\(KQ.lC R Q).ap .normal st=Q.ap .normal st/\(∀i,(KQ.lC R Q).ap (.exit i) st=Q.ap (.exit i) st)/\(KQ.lC R Q).ap .ret st=Q.ap .ret st/\(∀ch,(KQ.lC R Q).ap (.panic ch) st=Q.ap (.panic ch) st):=
 ⟨λ_=>rfl,rfl,λ_=>rfl,rfl,λ_=>rfl⟩
theorem abR {P:Program} {E:Env} {x:AK} {Q:KQ} {st:St} {α:Type} (hN:E.N<=1000000) (f:Nat->α->St) (inv:Nat->α->Prop) (ms:Nat->α->Nat)
    (h1:∀R:Nat->KS,(∀l a st',inv l a->Wk st' (f l a)->(R l).ap st')->vcW P E x (KQ.lC R Q) st)
    (h2:∀l a,inv l a->∃y,findK x l=some y/\∀R:Nat->KS,(∀l' a' st',ms l' a'<ms l a->inv l' a'->Wk st' (f l' a')->(R l').ap st')->vcW P E y (KQ.lC R Q) (f l a)):vcW P E (.scope x) Q st:=by
 show bN P E (.scope (x.erase E.B)) st Q.ap
 refine I2 (λm l s=>∃a,inv l a/\ms l a=m/\Wk s (f l a)) (gk hN x (h1 (λl=>⟨λs=>∃m a,inv l a/\ms l a=m/\Wk s (f l a)⟩) (λl a st' g1 g2=>⟨_,a,g1,rfl,g2⟩))) ?_;rintro m l s ⟨a,g1,rfl,g2⟩;obtain⟨y,hy,hv⟩:=h2 l a g1;refine⟨y.erase E.B,by rw[sU,hy];rfl,rX g2 (gk hN y (hv (λl'=>⟨λs=>∃m',m'<ms l a/\∃a',inv l' a'/\ms l' a'=m'/\Wk s (f l' a')⟩) (λl' a' st' k1 k2 k3=>⟨_,k1,a',k2,rfl,k3⟩)))⟩
attribute [go_sem] RN
end Go.Proofs.YtoalcafkffmiiaaGreatDoor.Eng
