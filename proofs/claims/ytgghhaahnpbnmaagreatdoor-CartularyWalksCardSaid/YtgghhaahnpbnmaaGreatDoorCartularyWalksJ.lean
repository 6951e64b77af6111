/- The proof, part 10 of 51. -/
import Derived.Test.YtgghhaahnpbnmaaGreatDoorCartularyWalksG
import Derived.Test.YtgghhaahnpbnmaaGreatDoorCartularyWalksH
import Derived.Test.YtgghhaahnpbnmaaGreatDoorCartularyWalksI
import Derived.Below
set_option linter.all false
namespace Go.Proofs.YtgghhaahnpbnmaaGreatDoor.Eng
structure KS where
 ap:St->Prop
structure KQ where
 ap:Exit->St->Prop
inductive ROp where
 | v (d:Nat) (o:AO)
 | val (d:Nat) (q:Bool) (id:Nat) (o:AO)
 | eff (d:Nat) (q:Bool) (id:Nat) (o:AO)
 | lK (q:Bool) (id:Nat) (o:AO)
 | kA (d:Option Nat) (q:Bool) (id:Nat) (f:Nat) (args:List AE)
 | dyn (d:Option Nat) (q:Bool) (id:Nat) (x:AE) (args:List AE)
 | qw (d:Nat) (j:Nat) (want:Bool) (q:Bool) (id:Nat) (o:AO)
 | qp (d:Nat) (j:Nat) (want:Bool) (q:Bool) (id:Nat) (f:Nat) (args:List AE)
 | oB (d:Option Nat) (j:Nat) (want:Bool) (q:Bool) (id:Nat) (o:AO)
 | qs (d:Nat) (j:Nat) (want:Bool) (q:Bool) (id:Nat) (x:AE) (args:List AE)
def ROp.er (B:Nat):ROp->aO
 | .v d o=>⟨some d,none,false,B+d,o⟩
 | .val d q id o=>⟨some d,none,q,id,o⟩
 | .eff d q id o=>⟨some d,none,q,id,o⟩
 | .lK q id o=>⟨none,none,q,id,o⟩
 | .kA d q id f args=>⟨d,none,q,id,.call f args⟩
 | .dyn d q id x args=>⟨d,none,q,id,.dyn x args⟩
 | .qw d j want q id o=>⟨some d,some (j,want),q,id,o⟩
 | .qp d j want q id f args=>⟨some d,some (j,want),q,id,.call f args⟩
 | .oB d j want q id o=>⟨d,some (j,want),q,id,o⟩
 | .qs d j want q id x args=>⟨some d,some (j,want),q,id,.dyn x args⟩
def evL (st:St):List AE->List AV
 | []=>[]
 | x::r=>ev st x::evL st r
theorem jo (st:St):∀l,evL st l=l.map (ev st)
 | []=>rfl
 | x::r=>by simp[evL,jo st r]
def aopsW (P:Program):List ROp->St->KS->Prop
 | [],st,K=>K.ap st
 | .v d o::r,st,K=>(avalR true st o).To λv=>aopsW P r (put st (some d) v) K
 | .val d _ _ o::r,st,K=>(avalR true st o).To λv=>aopsW P r (put st (some d) v) K
 | .eff d _ id o::r,st,K=>(effR id st o).To λv st'=>aopsW P r (put st' (some d) v) K
 | .lK _ id o::r,st,K=>(effR id st o).To λ_ st'=>aopsW P r st' K
 | .kA d q _ f args::r,st,K=>fb P q st f args λv st'=>aopsW P r (put st' d v) K
 | .dyn d q _ x args::r,st,K=>adyn P q st (ev st x) args λv st'=>aopsW P r (put st' d v) K
 | .qw d j want _ _ o::r,st,K=>match grd (sget st.s j) want with
  | some γ=>(γ=false/\aopsW P r (put st (some d) (.gd false .undef)) K)\/(avalR γ st o).To λv=>aopsW P r (put st (some d) (.gd γ v)) K
  | none=>False
 | .qp d j want q _ f args::r,st,K=>match grd (sget st.s j) want with
  | some γ=>(γ=false/\aopsW P r (put st (some d) (.gd false .undef)) K)\/(γ=true/\fb P q st f args λv st'=>aopsW P r (put st' (some d) (.gd true v)) K)\/vW P q γ st f args λv=>aopsW P r (put st (some d) (.gd γ v)) K
  | none=>False
 | .oB d j want _ id o::r,st,K=>match grd (sget st.s j) want with
  | some γ=>(γ=false/\aopsW P r (put st d (.gd false .undef)) K)\/(γ=true/\(effR id st o).To λv st'=>aopsW P r (put st' d (.gd true v)) K)
  | none=>False
 | .qs d j want q _ x args::r,st,K=>match grd (sget st.s j) want with
  | some γ=>(γ=false/\aopsW P r (put st (some d) (.gd false .undef)) K)\/(γ=true/\adyn P q st (ev st x) args λv st'=>aopsW P r (put st' (some d) (.gd true v)) K)
  | none=>False
def qt (P:Program) (g:Option Bool) (d:Option Nat) (id:Nat) (o:AO) (r:List ROp) (st:St) (K:KS):Prop:=
 match g with
 | some γ=>(γ=false/\aopsW P r (put st d (.gd false .undef)) K)\/(γ=true/\(effR id st o).To λv st'=>aopsW P r (put st' d (.gd true v)) K)
 | none=>False
def geff2 (P:Program) (x:RS) (d:Option Nat) (r:List ROp) (K:KS):Prop:=
 match x with
 | .ok c v st=>c/\aopsW P r (put st d (.gd true v)) K
 | .fail=>False
def valW (P:Program) (x:Res) (d:Nat) (r:List ROp) (st:St) (K:KS):Prop:=
 match x with
 | .ok c v=>c/\aopsW P r ⟨(d,v)::st.s,st.h⟩ K
 | .fail=>False
def oh (P:Program) (x:RS) (d:Nat) (r:List ROp) (K:KS):Prop:=
 match x with
 | .ok c v st=>c/\aopsW P r ⟨(d,v)::st.s,st.h⟩ K
 | .fail=>False
def og (P:Program) (x:RS) (r:List ROp) (K:KS):Prop:=
 match x with
 | .ok c _ st=>c/\aopsW P r st K
 | .fail=>False
def iw (P:Program) (q:Bool) (st:St) (f:Nat) (args:List AE) (as:List AV) (d:Option Nat) (r:List ROp) (K:KS):Prop:=
 as=args.map (ev st)->fb P q st f args λv st'=>aopsW P r (put st' d v) K
def tH (P:Program) (g:Option Bool) (d:Nat) (o:AO) (r:List ROp) (st:St) (K:KS):Prop:=
 match g with
 | some γ=>(γ=false/\aopsW P r (put st (some d) (.gd false .undef)) K)\/(avalR γ st o).To λv=>aopsW P r (put st (some d) (.gd γ v)) K
 | none=>False
def tG (P:Program) (γ:Bool) (x:Res) (d:Nat) (r:List ROp) (st:St) (K:KS):Prop:=
 (γ=false/\aopsW P r ⟨(d,.gd false .undef)::st.s,st.h⟩ K)\/match x with
 | .ok c v=>c/\aopsW P r ⟨(d,.gd γ v)::st.s,st.h⟩ K
 | .fail=>False
def mX (P:Program) (γ:Bool) (d:Nat) (o:AO) (r:List ROp) (st:St) (K:KS):Prop:=tG P γ (avalR γ st o) d r st K
def xD (P:Program) (d:Nat) (o:AO) (r:List ROp) (st:St) (K:KS):Prop:=tG P false (avalR false st o) d r st K
def qq (P:Program) (q:Bool) (g:Option Bool) (st:St) (f:Nat) (args:List AE) (as:List AV) (d:Nat) (r:List ROp) (K:KS):Prop:=
 as=args.map (ev st)->match g with
 | some γ=>(γ=false/\aopsW P r (put st (some d) (.gd false .undef)) K)\/(γ=true/\fb P q st f args λv st'=>aopsW P r (put st' (some d) (.gd true v)) K)\/vW P q γ st f args λv=>aopsW P r (put st (some d) (.gd γ v)) K
 | none=>False
def tu (P:Program) (q:Bool) (g:Option Bool) (st:St) (v:AV) (args:List AE) (as:List AV) (d:Nat) (r:List ROp) (K:KS):Prop:=
 as=args.map (ev st)->match g with
 | some γ=>(γ=false/\aopsW P r (put st (some d) (.gd false .undef)) K)\/(γ=true/\adyn P q st v args λv st'=>aopsW P r (put st' (some d) (.gd true v)) K)
 | none=>False
def wC (P:Program) (q:Bool) (st:St) (f:Nat) (args:List AE) (as:List AV) (d:Nat) (r:List ROp) (K:KS):Prop:=
 as=args.map (ev st)->fb P q st f args λv st'=>aopsW P r (put st' (some d) (.gd true v)) K
section
variable {P:Program} {st:St} {K:KS} {r:List ROp} {q:Bool} {id d j:Nat} {o:AO}
theorem Iw:aopsW P [] st K=K.ap st:=(rfl)
theorem Iy:aopsW P (.val d q id o::r) st K=valW P (avalR true st o) d r st K:=by
 simp only[aopsW,valW];cases avalR true st o<;>rfl
theorem Ix:aopsW P (.v d o::r) st K=valW P (avalR true st o) d r st K:=by
 simp only[aopsW,valW];cases avalR true st o<;>rfl
theorem zw {c:Prop} {v:AV}:valW P (.ok c v) d r st K=(c/\aopsW P r ⟨(d,v)::st.s,st.h⟩ K):=(rfl)
theorem aa3:valW P .fail d r st K=False:=(rfl)
theorem Ip:aopsW P (.eff d q id o::r) st K=oh P (effR id st o) d r K:=by
 simp only[aopsW,oh];cases effR id st o<;>rfl
theorem w8 {c:Prop} {v:AV}:oh P (.ok c v st) d r K=(c/\aopsW P r ⟨(d,v)::st.s,st.h⟩ K):=(rfl)
theorem Nj:oh P .fail d r K=False:=(rfl)
theorem Iq:aopsW P (.lK q id o::r) st K=og P (effR id st o) r K:=by
 simp only[aopsW,og];cases effR id st o<;>rfl
theorem w7 {c:Prop} {v:AV}:og P (.ok c v st) r K=(c/\aopsW P r st K):=(rfl)
theorem Nb:og P .fail r K=False:=(rfl)
theorem wc {d:Option Nat} {f:Nat} {args:List AE}:aopsW P (.kA d q id f args::r) st K=iw P q st f args (evL st args) d r K:=by
 simp only[aopsW,iw,jo,forall_const]
def w6 (P:Program) (q:Bool) (st:St) (v:AV) (args:List AE) (as:List AV) (d:Option Nat) (r:List ROp) (K:KS):Prop:=
 as=args.map (ev st)->adyn P q st v args λv st'=>aopsW P r (put st' d v) K
theorem Io {d:Option Nat} {x:AE} {args:List AE}:aopsW P (.dyn d q id x args::r) st K=w6 P q st (ev st x) args (evL st args) d r K:=by
 simp only[aopsW,w6,jo,forall_const]
theorem It {w:Bool} {x:AE} {args:List AE}:aopsW P (.qs d j w q id x args::r) st K=tu P q (grd (sget st.s j) w) st (ev st x) args (evL st args) d r K:=by
 simp only[aopsW,tu,jo,forall_const]
theorem CN {f:Nat} {args:List AE} {as:List AV} (hf:callable P f=true) (h:wC P q st f args as d r K):tu P q (some true) st (.gd true (.lit (.func (.func f) #[] #[]))) args as d r K:=
 λe=>.inr ⟨rfl,⟨rfl,rfl⟩,hf,h e⟩
theorem CM {v:AV} {args:List AE} {as:List AV} (h:aopsW P r ⟨(d,.gd false .undef)::st.s,st.h⟩ K):tu P q (some false) st v args as d r K:=λ_=>.inl ⟨rfl,h⟩
theorem s8 {d:Option Nat} {f:Nat} {args:List AE} {as:List AV} (hf:callable P f=true) (h:iw P q st f args as d r K):w6 P q st (.lit (.func (.func f) #[] #[])) args as d r K:=
 λe=>⟨⟨rfl,rfl⟩,hf,h e⟩
theorem Iv {w:Bool}:aopsW P (.qw d j w q id o::r) st K=tH P (grd (sget st.s j) w) d o r st K:=(rfl)
theorem PK {γ:Bool}:tH P (some γ) d o r st K=mX P γ d o r st K:=by
 simp only[tH,mX,tG];cases avalR γ st o<;>rfl
def tF (P:Program) (γ:Bool) (x:Res) (d:Nat) (r:List ROp) (st:St) (K:KS):Prop:=
 match x with
 | .ok c v=>c/\aopsW P r ⟨(d,.gd γ v)::st.s,st.h⟩ K
 | .fail=>False
theorem PF {γ:Bool} {c:Prop} {v:AV}:tF P γ (.ok c v) d r st K=(c/\aopsW P r ⟨(d,.gd γ v)::st.s,st.h⟩ K):=(rfl)
theorem PG:mX P false d o r st K=xD P d o r st K:=by simp only[mX,xD]
theorem PH:mX P true d o r st K=tF P true (avalR true st o) d r st K:=by
 simp[mX,tG,tF]
theorem eJ (h:aopsW P r ⟨(d,.gd false .undef)::st.s,st.h⟩ K):xD P d o r st K:=.inl ⟨rfl,h⟩
theorem eI {γ:Bool} (h:tF P γ (avalR γ st o) d r st K):mX P γ d o r st K:=.inr h
theorem Ii {c p:Prop} (h:c):(c/\p)=p:=by simp[h]
theorem PJ:tH P none d o r st K=False:=(rfl)
theorem Iu {w:Bool} {d:Option Nat}:aopsW P (.oB d j w q id o::r) st K=qt P (grd (sget st.s j) w) d id o r st K:=(rfl)
theorem Pa {d:Option Nat}:qt P (some true) d id o r st K=geff2 P (effR id st o) d r K:=by
 simp only[qt,geff2,Bool.true_eq_false,false_and,false_or,true_and];cases effR id st o<;>rfl
theorem O9 {d:Option Nat}:qt P (some false) d id o r st K=aopsW P r (put st d (.gd false .undef)) K:=by
 simp[qt]
theorem O8 {d:Option Nat} {c:Prop} {v:AV}:geff2 P (.ok c v st) d r K=(c/\aopsW P r (put st d (.gd true v)) K):=(rfl)
theorem Ir {w:Bool} {f:Nat} {args:List AE}:aopsW P (.qp d j w q id f args::r) st K=qq P q (grd (sget st.s j) w) st f args (evL st args) d r K:=by
 simp only[aopsW,qq,jo,forall_const]
end
theorem Af {P:Program} {q:Bool} {st:St} {id:Nat} {o:AO} {K:AV->St->Prop} (h:(avalR true st o).To λv=>K v st):aop1 P q st id o K:=by
 have h':=Al h;cases o<;>first | exact h.elim | (simp only[aop1,isEff,acT,if_false];exact h')
theorem v8 {P:Program} {q:Bool} {st:St} {id:Nat} {o:AO} {K:AV->St->Prop} (h:(effR id st o).To K):aop1 P q st id o K:=by
 have h':=Nf h;cases o<;>first | exact h.elim | (simp only[aop1,isEff,if_true];exact h')
theorem Il {P:Program} {q γ:Bool} {st:St} {o:AO} {K:AV->Prop} (h:(avalR γ st o).To K):aopG P q γ st o K:=by
 have h':=Al h;cases o<;>first | exact h.elim | exact h'
theorem zX {P:Program} {q:Bool} {st:St} {v:AV} {args:List AE} {K K':AV->St->Prop} (hK:∀v st',K v st'->K' v st') (h:adyn P q st v args K):adyn P q st v args K':=by
 revert h
 unfold adyn;split
 ·rintro⟨e1,e2,h⟩;refine⟨e1,e2,λE ρ a w vs h1 h2 h3=>(h E ρ a w vs h1 h2 h3).mono ?_⟩;rintro e w' ⟨v,ρ',st',av,g1,g2,g3,g4,g5⟩;exact⟨v,ρ',st',av,g1,g2,g3,hK _ _ g4,g5⟩
 ·rintro⟨e1,e2,h⟩;refine⟨e1,e2,λE ρ a w vs h1 h2 h3=>(h E ρ a w vs h1 h2 h3).mono ?_⟩;rintro e w' ⟨v,ρ',st',av,g1,g2,g3,g4,g5⟩;exact⟨v,ρ',st',av,g1,g2,g3,hK _ _ g4,g5⟩
 ·rintro⟨e1,h⟩;refine⟨e1,λE ρ a w vs h1 h2 h3=>(h E ρ a w vs h1 h2 h3).mono ?_⟩;rintro e w' ⟨v,ρ',st',av,g1,g2,g3,g4,g5⟩;exact⟨v,ρ',st',av,g1,g2,g3,hK _ _ g4,g5⟩
 exact λh=>h
theorem dh {P:Program} {B:Nat} {K:KS} {K':St->Prop} (hK:∀st,K.ap st->K' st):∀(l:List ROp) {st:St},aopsW P l st K->aops P (l.map (ROp.er B)) st K'
 | [],st,h=>hK _ h
 | .v d o::r,st,h=>by
  refine Af ?_;simp only[aopsW]at h
  revert h
  cases avalR true st o with
  | ok c v=>exact λh=>⟨h.1,dh hK r h.2⟩
  | fail=>exact λh=>h
 | .val d q id o::r,st,h=>by
  refine Af ?_;simp only[aopsW]at h
  revert h
  cases avalR true st o with
  | ok c v=>exact λh=>⟨h.1,dh hK r h.2⟩
  | fail=>exact λh=>h
 | .eff d q id o::r,st,h=>by
  refine v8 ?_;simp only[aopsW]at h
  revert h
  cases effR id st o with
  | ok c v st'=>exact λh=>⟨h.1,dh hK r h.2⟩
  | fail=>exact λh=>h
 | .lK q id o::r,st,h=>by
  refine v8 ?_;simp only[aopsW]at h
  revert h
  cases effR id st o with
  | ok c v st'=>exact λh=>⟨h.1,dh hK r h.2⟩
  | fail=>exact λh=>h
 | .kA d q id f args::r,st,h=>by
  intro E ρ a w vs h1 h2 h3;refine(h E ρ a w vs h1 h2 h3).mono ?_;rintro e w' ⟨v,ρ',st',av,g1,g2,g3,g4,g5⟩
  exact⟨v,ρ',st',av,g1,g2,g3,dh hK r g4,g5⟩
 | .dyn d q id x args::r,st,h=>by
  simp only[aopsW]at h;simp only[adk,ROp.er,aops,aop1]
  exact zX (λv st' h=>dh hK r h) h
 | .qw d j want q id o::r,st,h=>by
  simp only[aopsW]at h;simp only[adk,ROp.er,aops]
  revert h
  cases grd (sget st.s j) want with
  | none=>exact λh=>h
  | some γ=>
   intro h;have h:(γ=false/\aopsW P r (put st (some d) (.gd false .undef)) K)\/(avalR γ st o).To λv=>aopsW P r (put st (some d) (.gd γ v)) K:=h;refine h.imp (λx=>⟨x.1,dh hK r x.2⟩) (λh=>.inr ?_);refine Il ?_
   revert h
   cases avalR γ st o with
   | ok c v=>exact λh=>⟨h.1,dh hK r h.2⟩
   | fail=>exact λh=>h
 | .qp d j want q id f args::r,st,h=>by
  simp only[aopsW]at h;simp only[adk,ROp.er,aops]
  revert h
  cases grd (sget st.s j) want with
  | none=>exact λh=>h
  | some γ=>
   rintro(x | x | ⟨v,h1,h2⟩);exact .inl ⟨x.1,dh hK r x.2⟩
   ·refine .inr (.inl ⟨x.1,λE ρ a w vs h1 h2 h3=>(x.2 E ρ a w vs h1 h2 h3).mono ?_⟩);rintro e w' ⟨v,ρ',st',av,g1,g2,g3,g4,g5⟩;exact⟨v,ρ',st',av,g1,g2,g3,dh hK r g4,g5⟩
   ·exact .inr (.inr ⟨v,h1,dh hK r h2⟩)
 | .oB d j want q id o::r,st,h=>by
  simp only[aopsW]at h;simp only[adk,ROp.er,aops]
  revert h
  cases grd (sget st.s j) want with
  | none=>exact λh=>h
  | some γ=>
   rintro(x | ⟨x,h⟩);exact .inl ⟨x.1,dh hK r x.2⟩
   ·refine .inr (.inl ⟨x,v8 ?_⟩)
    revert h
    cases effR id st o with
    | ok c v st'=>exact λh=>⟨h.1,dh hK r h.2⟩
    | fail=>exact λh=>h
 | .qs d j want q id x args::r,st,h=>by
  simp only[aopsW]at h;simp only[adk,ROp.er,aops]
  revert h
  cases grd (sget st.s j) want with
  | none=>exact λh=>h
  | some γ=>
   rintro(x | ⟨x,h⟩);exact .inl ⟨x.1,dh hK r x.2⟩;exact .inr (.inl ⟨x,zX (λv st' h=>dh hK r h) h⟩)
theorem mz {P:Program} {B:Nat} (l:List ROp) {st:St} {K:KS} (h:aopsW P l st K):aops P (l.map (ROp.er B)) st K.ap:=dh (λ_ h=>h) l h
def trim (s:List (Nat×AV)):List Nat->List (Nat×AV)
 | []=>[]
 | k::r=>match sget s k with
  | some v=>(k,v)::trim s r
  | none=>trim s r
def zr (o:Option AV) (k:Nat) (s:List (Nat×AV)) (r:List Nat):List (Nat×AV):=
 match o with
 | some v=>(k,v)::trim s r
 | none=>trim s r
theorem aaO (s:List (Nat×AV)) (k:Nat) (r:List Nat):trim s (k::r)=zr (sget s k) k s r:=(rfl)
theorem aaP (s:List (Nat×AV)):trim s []=[]:=(rfl)
theorem aaN (v:AV) (k:Nat) (s:List (Nat×AV)) (r:List Nat):zr (some v) k s r=(k,v)::trim s r:=(rfl)
theorem aaM (k:Nat) (s:List (Nat×AV)) (r:List Nat):zr none k s r=trim s r:=(rfl)
theorem ma (s:List (Nat×AV)):∀ks,dA s (trim s ks)
 | []=>trivial
 | k::r=>by
  unfold trim;split
  ·rename_i v hv;exact⟨hv,ma s r⟩
  exact ma s r
theorem nu {E:Env} {ρ:Loc} {st:St} {s':List (Nat×AV)} {a:Act} {w:World} (h:af E ρ st a w) (hs:dA st.s s'):af E ρ ⟨s',st.h⟩ a w:=
 ⟨h.defers,h.size,λk av hk=>h.aM k av (x5 hs k av hk),h.heap,h.base,h.ai,h.x0⟩
inductive DT where
 | die (o:ROp)
 | step (o:ROp) (t:DT)
 | br (x y:DT)
def DT.er (B:Nat):DT->AT aO
 | .die o=>.cons (o.er B) .nil
 | .step o t=>.cons (o.er B) (t.er B)
 | .br x y=>.br (x.er B) (y.er B)
def sV (o:ROp):Bool:=qi (o.er 0)
theorem BL (o:ROp) (B:Nat):qi (o.er B)=sV o:=by cases o<;>rfl
def DT.ok:DT->Bool
 | .die o=>sV o
 | .step o t=>!sV o&&t.ok
 | .br x y=>x.ok&&y.ok
def dieOpW (P:Program) (o:ROp) (st:St) (Q:KQ):Prop:=
 match o with
 | .kA _ _ _ f args=>r6 P st f args λV st'=>Q.ap (.panic (bC V)) st'
 | .lK _ _ (.gF x)=>∃t v,ev st x=.lit (.iface t v)/\Q.ap (.panic (bC (.iface t v))) st
 | _=>False
def dtW (P:Program):DT->St->KQ->Prop
 | .die o,st,Q=>dieOpW P o st Q
 | .step o t,st,Q=>aopsW P [o] st ⟨λst'=>dtW P t st' Q⟩
 | .br x y,st,Q=>dtW P x st Q/\dtW P y st Q
theorem wT {P:Program} {B:Nat} {o:ROp} {st:St} {Q:KQ} (h:dieOpW P o st Q):dieOp P (o.er B) st λV st'=>Q.ap (.panic (bC V)) st':=by
 unfold dieOpW at h;split at h;exact h;exact h;exact h.elim
theorem s7 {P:Program} {B:Nat} {Q:KQ}:∀(T:DT) {st:St},T.ok=true->dtW P T st Q->dieF P (T.er B) st λV st'=>Q.ap (.panic (bC V)) st'
 | .die o,st,hok,h=>by
  simp only[DT.er,dieF,BL,show sV o=true from hok,if_true]
  exact wT h
 | .step o t,st,hok,h=>by
  simp only[DT.ok,acN,aeL]at hok;simp only[DT.er,dieF,BL,hok.1,acT,if_false]
  exact dh (K:=⟨λst'=>dtW P t st' Q⟩) (λst' h'=>s7 t hok.2 h') [o] h
 | .br x y,st,hok,h=>by
  simp only[DT.ok,acN]at hok;exact⟨s7 x hok.1 h.1,s7 y hok.2 h.2⟩
theorem we (P:Program) (o:ROp) (r:List ROp) (st:St) (K:KS):aopsW P (o::r) st K=aopsW P [o] st ⟨λst'=>aopsW P r st' K⟩:=by cases o<;>rfl
theorem BJ {P:Program} {B:Nat} {K:KS} {K':St->Prop} {KD:Value->St->Prop} (hK:∀st,K.ap st->K' st):∀(l:List ROp) {st:St},aopsW P l st K->mN P (l.map (ROp.er B)) st K' KD
 | [],st,h=>hK _ h
 | o::r,st,h=>by
  rw[we]at h;exact .inr (dh (λst' h'=>BJ hK r h') [o] h)
theorem wY {P:Program} {B:Nat} {Q:KQ} {K:KS} {K':St->Prop} {o:ROp} {post:List ROp} (hK:∀st,K.ap st->K' st):∀(pre:List ROp) {st:St},aopsW P pre st ⟨λst'=>dieOpW P o st' Q\/aopsW P (o::post) st' K⟩ ->
    mN P ((pre++o::post).map (ROp.er B)) st K' λV st'=>Q.ap (.panic (bC V)) st'
 | [],st,h=>by
  rcases h with h | h;exact .inl (wT h)
  ·exact BJ hK (o::post) h
 | p::r,st,h=>by
  rw[we]at h;exact .inr (dh (λst' h'=>wY hK r h') [p] h)
theorem BQ {P:Program} {B:Nat} {Q:KQ} {K:KS} {K':St->Prop} {o o2:ROp} {ck post:List ROp} (hK:∀st,K.ap st->K' st):∀(pre:List ROp) {st:St},aopsW P pre st ⟨λst'=>dieOpW P o st' Q\/aopsW P (o::ck) st' ⟨λst''=>dieOpW P o2 st'' Q\/aopsW P (o2::post) st'' K⟩⟩ ->
    mN P ((pre++o::(ck++o2::post)).map (ROp.er B)) st K' λV st'=>Q.ap (.panic (bC V)) st'
 | [],st,h=>by
  rcases h with h | h;exact .inl (wT h)
  ·exact wY hK (o::ck) h
 | p::r,st,h=>by
  rw[we]at h;exact .inr (dh (λst' h'=>BQ hK r h') [p] h)
inductive RT where
 | leaf (ops:List ROp)
 | node (p:List ROp) (x y:RT)
def RT.er (B:Nat):RT->AT aO
 | .leaf ops=>AT.pre (ops.map (ROp.er B)) .nil
 | .node p x y=>AT.pre (p.map (ROp.er B)) (.br (x.er B) (y.er B))
def jF (P:Program):RT->St->KS->Prop
 | .leaf ops,st,K=>aopsW P ops st K
 | .node p x y,st,K=>aopsW P p st ⟨λst=>jF P x st K/\jF P y st K⟩
def KS.two (P:Program) (x y:RT) (K:KS):KS:=⟨λst=>jF P x st K/\jF P y st K⟩
theorem Yl {P:Program} {ops:List ROp} {st:St} {K:KS}:jF P (.leaf ops) st K=aopsW P ops st K:=(rfl)
theorem Ym {P:Program} {p:List ROp} {x y:RT} {st:St} {K:KS}:jF P (.node p x y) st K=aopsW P p st (KS.two P x y K):=(rfl)
theorem Tu {P:Program} {x y:RT} {st:St} {K:KS}:(KS.two P x y K).ap st=(jF P x st K/\jF P y st K):=(rfl)
theorem yU {P:Program} {B:Nat} {K:KS} {K':St->Prop} (hK:∀st,K.ap st->K' st):∀(T:RT) {st:St},jF P T st K->aopsT P (T.er B) st K'
 | .leaf ops,st,h=>by
  unfold RT.er;rw[yD]
  exact dh (B:=B) hK ops h
 | .node p x y,st,h=>by
  unfold RT.er;rw[yD];exact dh (B:=B) (λst h=>⟨yU hK x h.1,yU hK y h.2⟩) p h
inductive AK where
 | skip
 | bQ (ops:List ROp) (keep:List Nat)
 | seq (x y:AK)
 | cond (c:AE) (x y:AK)
 | block (id:Nat) (x:AK)
 | loop (x:AK)
 | exit (id:Nat)
 | ret
 | ck (x:AK)
 | scope (x:AK)
 | label (l:Nat)
 | goto (l:Nat)
 | split (ops:List ROp) (d f:Nat) (x:AE) (c:UInt8) (bk p q0:Nat) (body:AK)
 | back (ops:List ROp) (d f kx bk p1 p q0:Nat) (body:AK)
 | alt (p x y:List ROp) (keep:List Nat)
 | fB (T:RT) (keep:List Nat)
 | fx (pre:List ROp) (o:ROp) (post:List ROp) (keep:List Nat)
 | oZ (pre:List ROp) (o:ROp) (ck:List ROp) (o2:ROp) (post:List ROp) (keep:List Nat)
 | fe (p x y:List ROp) (keep:List Nat) (T:DT)
 | cS (f:Nat) (args:List AE)
 | bad
def AK.erase (B:Nat):AK->AC
 | .skip=>.skip
 | .bQ ops _=>.bQ (ops.map (ROp.er B))
 | .seq x y=>.seq (x.erase B) (y.erase B)
 | .cond c x y=>.cond c (x.erase B) (y.erase B)
 | .block id x=>.block id (x.erase B)
 | .loop x=>.loop (x.erase B)
 | .exit id=>.exit id
 | .ret=>.ret
 | .ck x=>(x.erase B)
 | .scope x=>.scope (x.erase B)
 | .label l=>.label l
 | .goto l=>.goto l
 | .split ops d f x c bk p q0 body=>.seq (.gi (ops.map (ROp.er B)++[⟨some d,none,false,B+d,.call f [x,.c (.str [c])]⟩])) (.block bk (.gl (.t d) [p] (.bQ [⟨some q0,none,false,B+q0,.fZ (.t p)⟩]) (body.erase B)))
 | .back ops d f kx bk p1 p q0 body=>.seq (.gi (ops.map (ROp.er B)++[⟨some d,none,false,B+d,.call f [.t kx]⟩])) (.block bk (.gl (.t d) [p1,p] (.bQ [⟨some q0,none,false,B+q0,.fZ (.t p)⟩]) (body.erase B)))
 | .alt p x y _=>.alt (p.map (ROp.er B)) (x.map (ROp.er B)) (y.map (ROp.er B))
 | .fB T _=>.fB (T.er B)
 | .fx pre o post _=>.fx ((pre++o::post).map (ROp.er B))
 | .oZ pre o md o2 post _=>.fx ((pre++o::(md++o2::post)).map (ROp.er B))
 | .fe p x y _ T=>.fe (p.map (ROp.er B)) (x.map (ROp.er B)) (y.map (ROp.er B)) (T.er B)
 | .cS f args=>.cS f args
 | .bad=>.bad
def vcW (P:Program) (E:Env):AK->KQ->St->Prop
 | .skip,Q,st=>Q.ap .normal st
 | .bQ ops ks,Q,st=>aopsW P ops st ⟨λst=>Q.ap .normal ⟨trim st.s ks,st.h⟩⟩
 | .seq x y,Q,st=>vcW P E x ⟨km (λst=>vcW P E y Q st) Q.ap⟩ st
 | .cond c x y,Q,st=>match ev st c with
  | .bool b=>(b=true->vcW P E x Q st)/\(b=false->vcW P E y Q st)
  | _=>False
 | .block id x,Q,st=>vcW P E x ⟨blockQ id Q.ap⟩ st
 | .loop x,Q,st=>bm P E (.loop (x.erase E.B)) st Q.ap
 | .exit id,Q,st=>Q.ap (.exit id) st
 | .ret,Q,st=>Q.ap .ret st
 | .ck x,Q,st=>bm P E (x.erase E.B) st Q.ap
 | .scope x,Q,st=>bm P E (.scope (x.erase E.B)) st Q.ap
 | .label _,Q,st=>Q.ap .normal st
 | .goto l,Q,st=>Q.ap (.goto l) st
 | .split ops d f x c bk p q0 body,Q,st=>aopsW P ops st ⟨splitK P E d f x c bk p q0 (body.erase E.B) Q.ap⟩
 | .back ops d f kx bk p1 p q0 body,Q,st=>aopsW P ops st ⟨pR P E d f kx bk p1 p q0 (body.erase E.B) Q.ap⟩
 | .alt p x y ks,Q,st=>aopsW P p st ⟨λst=>aopsW P x st ⟨λst=>Q.ap .normal ⟨trim st.s ks,st.h⟩⟩/\aopsW P y st ⟨λst=>Q.ap .normal ⟨trim st.s ks,st.h⟩⟩⟩
 | .fB T ks,Q,st=>jF P T st ⟨λst=>Q.ap .normal ⟨trim st.s ks,st.h⟩⟩
 | .fx pre o post ks,Q,st=>aopsW P pre st ⟨λst=>dieOpW P o st Q\/aopsW P (o::post) st ⟨λst=>Q.ap .normal ⟨trim st.s ks,st.h⟩⟩⟩
 | .oZ pre o md o2 post ks,Q,st=>aopsW P pre st ⟨λst=>dieOpW P o st Q\/aopsW P (o::md) st ⟨λst=>dieOpW P o2 st Q\/aopsW P (o2::post) st ⟨λst=>Q.ap .normal ⟨trim st.s ks,st.h⟩⟩⟩⟩
 | .fe p x y ks T,Q,st=>(aopsW P p st ⟨λst=>aopsW P x st ⟨λst=>Q.ap .normal ⟨trim st.s ks,st.h⟩⟩/\aopsW P y st ⟨λst=>Q.ap .normal ⟨trim st.s ks,st.h⟩⟩⟩)\/(T.ok=true/\dtW P T st Q)
 | .cS _ _,_,_=>False
 | .bad,_,_=>False
def KS.bQ (ks:List Nat) (Q:KQ):KS:=⟨λst=>Q.ap .normal ⟨trim st.s ks,st.h⟩⟩
def KS.alt (P:Program) (x y:List ROp) (ks:List Nat) (Q:KQ):KS:=⟨λst=>aopsW P x st (KS.bQ ks Q)/\aopsW P y st (KS.bQ ks Q)⟩
def oc (P:Program) (o:ROp) (post:List ROp) (ks:List Nat) (Q:KQ) (st:St):Prop:=dieOpW P o st Q\/aopsW P (o::post) st (KS.bQ ks Q)
def KS.sY (P:Program) (o:ROp) (post:List ROp) (ks:List Nat) (Q:KQ):KS:=⟨oc P o post ks Q⟩
def sW (P:Program) (o:ROp) (ck:List ROp) (o2:ROp) (post:List ROp) (ks:List Nat) (Q:KQ) (st:St):Prop:=dieOpW P o st Q\/aopsW P (o::ck) st (KS.sY P o2 post ks Q)
def KS.BP (P:Program) (o:ROp) (ck:List ROp) (o2:ROp) (post:List ROp) (ks:List Nat) (Q:KQ):KS:=⟨sW P o ck o2 post ks Q⟩
def KS.dt (P:Program) (T:DT) (Q:KQ):KS:=⟨λst=>dtW P T st Q⟩
def KQ.seq (P:Program) (E:Env) (y:AK) (Q:KQ):KQ:=⟨km (λst=>vcW P E y Q st) Q.ap⟩
def KQ.ff (id:Nat) (Q:KQ):KQ:=⟨blockQ id Q.ap⟩
def KQ.ke (R:KS) (Q:KQ):KQ:=⟨km R.ap Q.ap⟩
def KS.Gi (P:Program) (E:Env) (d f:Nat) (x:AE) (c:UInt8) (bk p q0:Nat) (body:AK) (Q:KQ):KS:=⟨splitK P E d f x c bk p q0 (body.erase E.B) Q.ap⟩
def Gl (P:Program) (E:Env) (d f:Nat) (x:AE) (c:UInt8) (bk p q0:Nat) (body:AK) (Q:KQ) (st:St):Prop:=splitK P E d f x c bk p q0 (body.erase E.B) Q.ap st
def KS.Aw (P:Program) (E:Env) (d f kx bk p1 p q0:Nat) (body:AK) (Q:KQ):KS:=⟨pR P E d f kx bk p1 p q0 (body.erase E.B) Q.ap⟩
def Au (P:Program) (E:Env) (d f kx bk p1 p q0:Nat) (body:AK) (Q:KQ) (st:St):Prop:=pR P E d f kx bk p1 p q0 (body.erase E.B) Q.ap st
def KQ.jmp (l:Nat) (R:KS) (Q:KQ):KQ:=⟨jumpQ l R.ap Q.ap⟩
def KQ.qU (Q:KQ):KQ:=⟨El Q.ap⟩
def findK:AK->Nat->Option AK
 | .seq a b,l=>match findK a l with
  | some r=>some (.seq r b)
  | none=>findK b l
 | .label l',l=>if l'==l then some .skip else none
 | .ck x,l=>findK x l
 | _,_=>none
theorem qm (B:Nat):∀(c:AK) (l:Nat),findA (c.erase B) l=(findK c l).map (AK.erase B)
 | .seq a b,l=>by
  simp only[AK.erase,findA,findK,qm B a l]
  cases findK a l with
  | some r=>rfl
  | none=>exact qm B b l
 | .label l',l=>by
  simp only[AK.erase,findA,findK]
  split<;>rfl
 | .ck x,l=>by simp only[AK.erase,findK,qm B x l]
 | .skip,_ | .bQ _ _,_ | .cond _ _ _,_ | .block _ _,_ | .loop _,_ | .exit _,_ | .ret,_ | .scope _,_ | .goto _,_ | .bad,_ | .alt _ _ _ _,_=>rfl
 | .split _ _ _ _ _ _ _ _ _,_=>rfl
 | .back _ _ _ _ _ _ _ _ _,_=>rfl
 | .fx _ _ _ _,_=>rfl
 | .oZ _ _ _ _ _ _,_=>rfl
 | .fB _ _,_=>rfl
 | .fe _ _ _ _ _,_=>rfl
 | .cS _ _,_=>rfl
def mZ (P:Program) (E:Env) (b:Bool) (x y:AK) (Q:KQ) (st:St):Prop:=(b=true->vcW P E x Q st)/\(b=false->vcW P E y Q st)
def wJ (P:Program) (E:Env) (v:AV) (x y:AK) (Q:KQ) (st:St):Prop:=
 match v with
 | .bool b=>mZ P E b x y Q st
 | _=>False
section
variable {P:Program} {E:Env} {st:St} {Q:KQ} {x y:AK} {R:KS}
theorem Ts {ks:List Nat}:(KS.bQ ks Q).ap st=Q.ap .normal ⟨trim st.s ks,st.h⟩:=(rfl)
theorem Tm {a b:List ROp} {ks:List Nat}:(KS.alt P a b ks Q).ap st=(aopsW P a st (KS.bQ ks Q)/\aopsW P b st (KS.bQ ks Q)):=(rfl)
theorem Td:(KQ.seq P E y Q).ap .normal st=vcW P E y Q st:=(rfl)
theorem Tf:(KQ.seq P E y Q).ap .ret st=Q.ap .ret st:=(rfl)
theorem Tg {i:Nat}:(KQ.seq P E y Q).ap (.exit i) st=Q.ap (.exit i) st:=(rfl)
theorem Sy {i:Nat}:(KQ.ff i Q).ap .normal st=Q.ap .normal st:=(rfl)
theorem SA {i:Nat}:(KQ.ff i Q).ap .ret st=Q.ap .ret st:=(rfl)
theorem SB {i j:Nat}:(KQ.ff i Q).ap (.exit j) st=if j=i then Q.ap .normal st else Q.ap (.exit j) st:=(rfl)
theorem Tc {i:Nat}:(KQ.seq P E y Q).ap (.goto i) st=Q.ap (.goto i) st:=(rfl)
theorem Sx {i j:Nat}:(KQ.ff i Q).ap (.goto j) st=Q.ap (.goto j) st:=(rfl)
theorem S7 {i:Nat}:(KQ.ke R Q).ap (.goto i) st=Q.ap (.goto i) st:=(rfl)
theorem SJ {l:Nat}:(KQ.jmp l R Q).ap .normal st=Q.ap .normal st:=(rfl)
theorem SL {l:Nat}:(KQ.jmp l R Q).ap .ret st=Q.ap .ret st:=(rfl)
theorem SM {l i:Nat}:(KQ.jmp l R Q).ap (.exit i) st=Q.ap (.exit i) st:=(rfl)
theorem SI {l:Nat}:(KQ.jmp l R Q).ap (.goto l) st=R.ap st:=by simp[KQ.jmp,jumpQ]
theorem Te {c:List PanicEntry}:(KQ.seq P E y Q).ap (.panic c) st=Q.ap (.panic c) st:=(rfl)
theorem Sz {i:Nat} {c:List PanicEntry}:(KQ.ff i Q).ap (.panic c) st=Q.ap (.panic c) st:=(rfl)
theorem S9 {c:List PanicEntry}:(KQ.ke R Q).ap (.panic c) st=Q.ap (.panic c) st:=(rfl)
theorem SK {l:Nat} {c:List PanicEntry}:(KQ.jmp l R Q).ap (.panic c) st=Q.ap (.panic c) st:=(rfl)
theorem SO {c:List PanicEntry}:(KQ.qU Q).ap (.panic c) st=Q.ap (.panic c) st:=(rfl)
theorem Tr {T:DT}:(KS.dt P T Q).ap st=dtW P T st Q:=(rfl)
theorem M8 {o:ROp} {T:DT}:dtW P (.step o T) st Q=aopsW P [o] st (KS.dt P T Q):=(rfl)
theorem M6 {T U:DT}:dtW P (.br T U) st Q=(dtW P T st Q/\dtW P U st Q):=(rfl)
def oa (P:Program) (st:St) (f:Nat) (args:List AE) (as:List AV) (Q:KQ):Prop:=as=evL st args->r6 P st f args λV st'=>Q.ap (.panic (bC V)) st'
def n9 (P:Program) (q:Bool) (st:St) (f:Nat) (args:List AE) (as:List AV) (d:Option Nat) (r:List ROp) (K:KS) (Q:KQ):Prop:=oa P st f args as Q\/iw P q st f args as d r K
theorem M7 {d:Option Nat} {q:Bool} {id f:Nat} {args:List AE}:dtW P (.die (.kA d q id f args)) st Q=oa P st f args (evL st args) Q:=by
 simp[dtW,dieOpW,oa]
theorem Tp {o o2:ROp} {ck post:List ROp} {ks:List Nat}:(KS.BP P o ck o2 post ks Q).ap st=sW P o ck o2 post ks Q st:=(rfl)
theorem Tq {o:ROp} {post:List ROp} {ks:List Nat}:(KS.sY P o post ks Q).ap st=oc P o post ks Q st:=(rfl)
theorem MN {d:Option Nat} {q:Bool} {id f:Nat} {args:List AE} {post:List ROp} {ks:List Nat}:oc P (.kA d q id f args) post ks Q st=n9 P q st f args (evL st args) d post (KS.bQ ks Q) Q:=by
 simp[oc,dieOpW,n9,oa,wc]
theorem MM {d:Option Nat} {q:Bool} {id f:Nat} {args:List AE} {o2:ROp} {ck post:List ROp} {ks:List Nat}:sW P (.kA d q id f args) ck o2 post ks Q st=n9 P q st f args (evL st args) d ck (KS.sY P o2 post ks Q) Q:=by
 simp[sW,dieOpW,n9,oa,wc]
def pncW (v:AV) (Q:KQ) (st:St):Prop:=
 match v with
 | .lit (.iface t x)=>Q.ap (.panic (bC (.iface t x))) st
 | _=>False
theorem WX {t:TypeId} {x:Value}:pncW (.lit (.iface t x)) Q st=Q.ap (.panic (bC (.iface t x))) st:=(rfl)
theorem MO {q:Bool} {id:Nat} {x:AE} {post:List ROp} {ks:List Nat}:oc P (.lK q id (.gF x)) post ks Q st=pncW (ev st x) Q st:=by
 apply propext;unfold oc dieOpW pncW;constructor
 ·rintro(⟨t,v,h1,h2⟩ | h)
  ·rw[h1];exact h2
  exact h.elim
 ·intro h;split at h
  ·rename_i t v e;exact .inl ⟨t,v,e,h⟩
  exact h.elim
theorem eD {d:Option Nat} {q:Bool} {f:Nat} {args:List AE} {as:List AV} {r:List ROp} {K:KS} (h:iw P q st f args as d r K):n9 P q st f args as d r K Q:=.inr h
theorem BD {f:Nat} {args:List AE} {as:List AV} {V:Value} (h0:HP) (hs:eA P f h0 as V) (hsub:dz st.h h0) (h:Q.ap (.panic (bC V)) (nS st h0)):oa P st f args as Q:=by
 rintro rfl;rw[jo]at hs;exact Hy h0 hs (λi W hi=>jz hsub i W hi) h
theorem fk {d:Option Nat} {q:Bool} {f:Nat} {args:List AE} {as:List AV} {r:List ROp} {K:KS} {V:Value} (h0:HP) (hs:eA P f h0 as V) (hsub:dz st.h h0) (h:Q.ap (.panic (bC V)) (nS st h0)):n9 P q st f args as d r K Q:=
 .inl (BD h0 hs hsub h)
theorem nT {h0:HP}:nS st h0=⟨killSI (dD h0) [] st.s,dropH (dD h0) [] st.h⟩:=(rfl)
theorem H9 {p x y:List ROp} {ks:List Nat} {T:DT} (h:aopsW P p st (KS.alt P x y ks Q)):vcW P E (.fe p x y ks T) Q st:=.inl h
theorem H8 {p x y:List ROp} {ks:List Nat} {T:DT} (hT:T.ok=true) (h:dtW P T st Q):vcW P E (.fe p x y ks T) Q st:=.inr ⟨hT,h⟩
theorem SN:(KQ.qU Q).ap .normal st=Q.ap .normal st:=(rfl)
theorem SP:(KQ.qU Q).ap .ret st=Q.ap .ret st:=(rfl)
theorem SQ {i:Nat}:(KQ.qU Q).ap (.exit i) st=Q.ap (.exit i) st:=(rfl)
theorem abf {i:Nat}:vcW P E (.label i) Q st=Q.ap .normal st:=(rfl)
theorem abe {i:Nat}:vcW P E (.goto i) Q st=Q.ap (.goto i) st:=(rfl)
theorem Tt {d f:Nat} {ae:AE} {c:UInt8} {bk p q0:Nat}:(KS.Gi P E d f ae c bk p q0 x Q).ap st=Gl P E d f ae c bk p q0 x Q st:=(rfl)
theorem Tn {d f kx bk p1 p q0:Nat}:(KS.Aw P E d f kx bk p1 p q0 x Q).ap st=Au P E d f kx bk p1 p q0 x Q st:=(rfl)
theorem S8:(KQ.ke R Q).ap .normal st=R.ap st:=(rfl)
theorem Ta:(KQ.ke R Q).ap .ret st=Q.ap .ret st:=(rfl)
theorem Tb {i:Nat}:(KQ.ke R Q).ap (.exit i) st=Q.ap (.exit i) st:=(rfl)
theorem abm:vcW P E .skip Q st=Q.ap .normal st:=(rfl)
theorem abj:vcW P E .ret Q st=Q.ap .ret st:=(rfl)
theorem abd {i:Nat}:vcW P E (.exit i) Q st=Q.ap (.exit i) st:=(rfl)
theorem G0 {ops:List ROp} {ks:List Nat}:vcW P E (.bQ ops ks) Q st=aopsW P ops st (KS.bQ ks Q):=(rfl)
theorem abl:vcW P E (.seq x y) Q st=vcW P E x (KQ.seq P E y Q) st:=(rfl)
theorem abb {i:Nat}:vcW P E (.block i x) Q st=vcW P E x (KQ.ff i Q) st:=(rfl)
theorem abc {c:AE}:vcW P E (.cond c x y) Q st=wJ P E (ev st c) x y Q st:=by
 simp only[vcW,wJ];cases ev st c<;>rfl
theorem Ly {b:Bool}:wJ P E (.bool b) x y Q st=mZ P E b x y Q st:=(rfl)
theorem QF:mZ P E true x y Q st=vcW P E x Q st:=by simp[mZ]
theorem QE:mZ P E false x y Q st=vcW P E y Q st:=by simp[mZ]
end
theorem GB {K K':St->Prop} {Q Q':Exit->St->Prop} (hK:∀st,K st->K' st) (hQ:∀e st,Q e st->Q' e st):∀e st,km K Q e st->km K' Q' e st:=by
 intro e st h;cases e<;>first | exact hK st h | exact hQ _ st h
theorem dV {P:Program} {E:Env} (hN:E.N<=1000000):∀(c:AK) {st:St} {Q:KQ},vcW P E c Q st->bm P E (c.erase E.B) st Q.ap
 | .skip,st,Q,h=>Jm h
 | .bQ ops ks,st,Q,h=>by
  have h':=mz (B:=E.B) ops h;intro n code hc a w hr
  exact yN hN hc h' hr (λst' a' w' h1 ⟨ρ2,h2⟩=>⟨_,⟨ρ2,nu h2 (ma _ ks)⟩,h1⟩)
 | .seq x y,st,Q,h=>Jl (bm.mono (dV hN x h) (GB (λst' h'=>dV hN y h') (λ_ _ h=>h)))
 | .cond c x y,st,Q,h=>by
  simp only[vcW]at h;split at h
  ·rename_i b hb;exact Jd hb (λe=>dV hN x (h.1 e)) (λe=>dV hN y (h.2 e))
  ·exact h.elim
 | .block id x,st,Q,h=>Jc (dV hN x h)
 | .loop x,st,Q,h=>h
 | .exit id,st,Q,h=>Je h
 | .ret,st,Q,h=>Ji h
 | .ck x,st,Q,h=>h
 | .scope x,st,Q,h=>h
 | .label l,st,Q,h=>Jg h
 | .goto l,st,Q,h=>Jf h
 | .split ops d f x c bk p q0 body,st,Q,h=>Jn hN (mz (B:=E.B) ops h)
 | .back ops d f kx bk p1 p q0 body,st,Q,h=>Jb hN (mz (B:=E.B) ops h)
 | .alt p x y ks,st,Q,h=>by
  intro n code hc a w hr;refine Ic hN hc (K:=λst=>Q.ap .normal ⟨trim st.s ks,st.h⟩) ?_ hr (λst' a' w' h1 ⟨ρ2,h2⟩=>⟨_,⟨ρ2,nu h2 (ma _ ks)⟩,h1⟩)
  exact dh (B:=E.B) (λst h=>⟨mz (B:=E.B) x h.1,mz (B:=E.B) y h.2⟩) p h
 | .fB T ks,st,Q,h=>by
  intro n code hc a w hr;refine Ib hN hc (K:=λst=>Q.ap .normal ⟨trim st.s ks,st.h⟩) ?_ hr (λst' a' w' h1 ⟨ρ2,h2⟩=>⟨_,⟨ρ2,nu h2 (ma _ ks)⟩,h1⟩)
  exact yU (B:=E.B) (λ_ h=>h) T h
 | .fx pre o post ks,st,Q,h=>by
  intro n code hc a w hr
  exact Ft hN hc hr (K:=λst=>Q.ap .normal ⟨trim st.s ks,st.h⟩) (λst' a' w' h1 ⟨ρ2,h2⟩=>⟨_,⟨ρ2,nu h2 (ma _ ks)⟩,h1⟩) (λV st' a' w' h1 h2=>⟨st',h2,h1⟩) (wY (B:=E.B) (λ_ h=>h) pre h)
 | .oZ pre o md o2 post ks,st,Q,h=>by
  intro n code hc a w hr
  exact Ft hN hc hr (K:=λst=>Q.ap .normal ⟨trim st.s ks,st.h⟩) (λst' a' w' h1 ⟨ρ2,h2⟩=>⟨_,⟨ρ2,nu h2 (ma _ ks)⟩,h1⟩) (λV st' a' w' h1 h2=>⟨st',h2,h1⟩) (BQ (B:=E.B) (λ_ h=>h) pre h)
 | .fe p x y ks T,st,Q,h=>by
  intro n code hc a w hr;refine Ia hN hc hr (K:=λst=>Q.ap .normal ⟨trim st.s ks,st.h⟩) (KD:=λV st=>Q.ap (.panic (bC V)) st) (λst' a' w' h1 ⟨ρ2,h2⟩=>⟨_,⟨ρ2,nu h2 (ma _ ks)⟩,h1⟩) (λV st' a' w' h1 h2=>⟨st',h2,h1⟩) ?_;rcases h with h | h;exact .inl (dh (B:=E.B) (λst h=>⟨mz (B:=E.B) x h.1,mz (B:=E.B) y h.2⟩) p h)
  ·exact .inr (s7 T h.1 h.2)
 | .cS _ _,st,Q,h=>h.elim
 | .bad,st,Q,h=>h.elim
theorem TS {s s':List (Nat×AV)} {h h':HP}:DM ⟨s,h⟩ ⟨s',h'⟩=(dA s s'/\dz h h'):=(rfl)
theorem TQ {s:List (Nat×AV)}:dA s []=True:=(rfl)
theorem TP {s r:List (Nat×AV)} {k:Nat} {v:AV}:dA s ((k,v)::r)=(sget s k=some v/\dA s r):=(rfl)
theorem TM {s:HP}:dz s []=True:=(rfl)
theorem TK {s r:HP} {k:Nat} {v:aC}:dz s ((k,v)::r)=(hget s k=some v/\dz s r):=(rfl)
theorem aJ {P:Program} {E:Env} {x:AK} {Q:KQ} {st:St} {α:Type} (hN:E.N<=1000000) (f:α->St) (inv:α->Prop) (ms:α->Nat) (a0:α) (h0:Wk st (f a0)) (hi:inv a0)
    (round:∀a (R:KS),inv a->(∀b st',ms b<ms a->inv b->Wk st' (f b)->R.ap st')->vcW P E x (KQ.ke R Q) (f a)):vcW P E (.loop x) Q st:=by
 show bm P E (.loop (x.erase E.B)) st Q.ap
 refine Jh (λn s=>∃a,inv a/\n=ms a/\Wk s (f a)) (ms a0) ⟨a0,hi,rfl,h0⟩ ?_;rintro n s ⟨a,h1,rfl,hle⟩;refine pP hle (bm.mono (dV hN x (round a ⟨λs=>∃m,m<ms a/\∃a,inv a/\m=ms a/\Wk s (f a)⟩ h1 (λb st' g1 g2 g3=>⟨ms b,g1,b,g2,rfl,g3⟩))) ?_);intro e s h;exact h
theorem gn {P:Program} {E:Env} {x y:AK} {Q:KQ} {st:St} {α:Type} (hN:E.N<=1000000) (f:α->St) (inv:α->Prop)
    (h1:∀R:KS,(∀a st',inv a->Wk st' (f a)->R.ap st')->vcW P E x (KQ.ke R Q) st) (h2:∀a,inv a->vcW P E y Q (f a)):vcW P E (.seq x (.ck y)) Q st:=
 h1 ⟨λst=>bm P E (y.erase E.B) st Q.ap⟩ (λa st' g1 g2=>pP g2 (dV hN y (h2 a g1)))
theorem ZE {P:Program} {E:Env} {d f bk p q0:Nat} {x:AE} {c:UInt8} {body:AK} {Q:KQ} {st:St} (hN:E.N<=1000000) (hrd:E.rd=none) (hS:vR P f) (hq0:q0<1000000) {s:List UInt8} (hx:ev st x=.str s) (hlen:s.length<=9223372036854775807)
    {α:Type} (s0:List (Nat×AV)) (H:α->HP) (inv:Nat->α->Prop) (x0:α) (h0:Wk st ⟨s0,H x0⟩) (hi:inv 0 x0) (hd0:sget s0 d=none) (hk0:s0.all (λq=>decide (q.1<3000000))=true)
    (round:∀(E2:Env) k y (R:KQ),E2.N<=1000000->inv k y->k<(splitB c s).length->(∀y' st',inv (k+1) y'->Wk st' ⟨ghost s0,H y'⟩->R.ap .normal st')->(∀st' h',Wk st' ⟨ghost s0,h'⟩->Q.ap .ret ⟨s0,h'⟩->R.ap .ret st') ->
     (∀i st' h',Wk st' ⟨ghost s0,h'⟩->(KQ.ff bk Q).ap (.exit i) ⟨s0,h'⟩->R.ap (.exit i) st')->vcW P E2 body R ⟨(q0,.str ((splitB c s).getD k []))::(p,.str ((splitB c s).getD k []))::(s0++ghost s0),H y⟩)
    (done:∀y,inv (splitB c s).length y->Q.ap .normal ⟨s0,H y⟩):Gl P E d f x c bk p q0 body Q st:=by
 intro n ops o b a w hd hdN hg hnd htr hb hr;refine ZF (body:=body.erase E.B) hN hrd hq0 hS hx hlen s0 H inv x0 h0 hi hd0 (λk v hk=>?_) (λE2 k y h1 h2 h3 h4=>?_) done hd hg hnd htr hdN hb hr
 ·have key:∀(l:List (Nat×AV)),l.all (λq=>decide (q.1<3000000))=true->sget l k=some v->k<3000000:=by
   intro l
   induction l with
   | nil=>intro _ h;simp[sget]at h
   | cons q r ih=>
    obtain⟨j,u⟩:=q;intro hl h;simp only[aeh,acN,decide_eq_true_eq]at hl;simp only[sget]at h;split at h
    ·rename_i e;omega
    exact ih hl.2 h
  exact key s0 hk0 hk
 ·rw[<-h2];exact dV acB body (round E2 k y ⟨uV (λst'=>∃y',inv (k+1) y'/\Wk st' ⟨ghost s0,H y'⟩) s0 (blockQ bk Q.ap)⟩ acB h3 h4 (λy' st' g1 g2=>⟨y',g1,g2⟩) (λst' h' g1 g2=>⟨h',g1,g2⟩) (λi st' h' g1 g2=>⟨h',g1,g2⟩))
theorem JE {P:Program} {E:Env} {d f kx bk p1 p q0:Nat} {body:AK} {Q:KQ} {st:St} (hN:E.N<=1000000) (hrd:E.rd=none) (hS:vK P f) (hq0:q0<1000000) {xs:List (List UInt8)} (hlen:xs.length<=9223372036854775807)
    {α:Type} (s0:List (Nat×AV)) (H:α->HP) (inv:Nat->α->Prop) (x0:α) (h0:Wk st ⟨s0,H x0⟩) (hi:inv 0 x0) (hd0:sget s0 d=none) (hp1:sget s0 p1=none) (hkx:sget s0 kx=some (.ro 1 (xs.map .str))) (hkN:kx<d) (hpp:p1≠p) (hk0:s0.all (λq=>decide (q.1<3000000))=true)
    (round:∀(E2:Env) k y (R:KQ),E2.N<=1000000->inv k y->k<xs.length->(∀y' st',inv (k+1) y'->Wk st' ⟨ghost s0,H y'⟩->R.ap .normal st')->(∀st' h',Wk st' ⟨ghost s0,h'⟩->Q.ap .ret ⟨s0,h'⟩->R.ap .ret st') ->
     (∀i st' h',Wk st' ⟨ghost s0,h'⟩->(KQ.ff bk Q).ap (.exit i) ⟨s0,h'⟩->R.ap (.exit i) st')->vcW P E2 body R ⟨(q0,.str (xs.getD (xs.length-1-k) []))::(p,.str (xs.getD (xs.length-1-k) []))::(s0++ghost s0),H y⟩)
    (done:∀y,inv xs.length y->Q.ap .normal ⟨s0,H y⟩):Au P E d f kx bk p1 p q0 body Q st:=by
 intro n ops o b a w hd hdN hg hnd htr hb hr;refine JG (body:=body.erase E.B) hN hrd hq0 hS hlen s0 H inv x0 h0 hi hd0 hp1 hkx (Nat.lt_trans hkN hdN) hpp (λk v hk=>?_) (λE2 k y h1 h2 h3 h4=>?_) done hd hg hnd htr hdN hb hr
 ·have key:∀(l:List (Nat×AV)),l.all (λq=>decide (q.1<3000000))=true->sget l k=some v->k<3000000:=by
   intro l
   induction l with
   | nil=>intro _ h;simp[sget]at h
   | cons q r ih=>
    obtain⟨j,u⟩:=q;intro hl h;simp only[aeh,acN,decide_eq_true_eq]at hl;simp only[sget]at h;split at h
    ·rename_i e;omega
    exact ih hl.2 h
  exact key s0 hk0 hk
 ·rw[<-h2];exact dV acB body (round E2 k y ⟨uV (λst'=>∃y',inv (k+1) y'/\Wk st' ⟨ghost s0,H y'⟩) s0 (blockQ bk Q.ap)⟩ acB h3 h4 (λy' st' g1 g2=>⟨y',g1,g2⟩) (λst' h' g1 g2=>⟨h',g1,g2⟩) (λi st' h' g1 g2=>⟨h',g1,g2⟩))
theorem G3 {P:Program} {E:Env} {x y:AK} {Q:KQ} {st:St} {α:Type} (hN:E.N<=1000000) (l:Nat) (hf:findK x l=some y) (f:α->St) (inv:α->Prop)
    (h1:∀R:KS,(∀a st',inv a->Wk st' (f a)->R.ap st')->vcW P E x (KQ.jmp l R Q) st) (h2:∀a,inv a->vcW P E y (KQ.qU Q) (f a)):vcW P E (.scope x) Q st:=by
 show bm P E (.scope (x.erase E.B)) st Q.ap
 refine Jj l (y:=y.erase E.B) (by rw[qm,hf];rfl) (λs=>∃a,inv a/\Wk s (f a)) (dV hN x (h1 ⟨λs=>∃a,inv a/\Wk s (f a)⟩ (λa st' g1 g2=>⟨a,g1,g2⟩))) ?_;rintro s ⟨a,g1,g2⟩;exact pP g2 (dV hN y (h2 a g1))
theorem dU {P:Program} {E:Env} {x:AK} {Q:KQ} {st:St} (hN:E.N<=1000000) (h:vcW P E x Q st):vcW P E (.ck x) Q st:=dV hN x h
theorem rO {P:Program} {E:Env} {x:AK} {Q:KQ} {st:St} (hN:E.N<=1000000) (st':St) (hle:Wk st st') (h:vcW P E x Q st'):vcW P E (.ck x) Q st:=pP hle (dV hN x h)
section
variable {P:Program} {q:Bool} {st:St} {f:Nat} {args:List AE} {as:List AV} {d:Option Nat} {r:List ROp} {K:KS} {Post:HP->AV->List AV->Prop}
def aw (P:Program) (f:Nat) (as:List AV) (v:AV):Prop:=Spec P f [] as (λh r _=>h=[]/\r=v)
theorem aj {v:AV} (hs:aw P f as v) (hn:as.all bF=true) (hv:dP v=true) (h:aopsW P r (put st d v) K):iw P q st f args as d r K:=by
 rintro rfl;refine zS hs (by simpa using hn) ?_;rintro h' r' as' ⟨rfl,rfl⟩;exact⟨rfl,hv,h⟩
theorem dJ (hs:Spec P f [] as Post) (hn:as.all bF=true) (h:∀h' v as',Post h' v as'->h'=[]/\dP v=true/\aopsW P r (put st d v) K):iw P q st f args as d r K:=by
 rintro rfl;exact zS hs (by simpa using hn) h
def borL (h:HP):List AV->List AV
 | []=>[]
 | x::r=>borrow h x::borL h r
theorem wz (h:HP):∀l,borL h l=l.map (borrow h)
 | []=>rfl
 | x::r=>by simp[borL,wz h r]
theorem A9 {v:AV} {bs:List AV} (hb:borL st.h as=bs) (hs:aw P f bs v) (hv:cZ v=true) (h:aopsW P r (put st d v) K):iw P q st f args as d r K:=by
 rintro rfl;subst hb;refine Hz (Post:=λh r _=>h=[]/\r=v) (by rw[wz,adD]at hs;exact hs) ?_;rintro h' r' as' ⟨rfl,rfl⟩;exact⟨rfl,hv,h⟩
theorem aN (h0:HP) (hs:Spec P f h0 as Post) (hsub:dz st.h h0) (hq:q=true->h0=[])
    (h:∀h' v as',Post h' v as'->jw h' h'=true/\dw h' v=true/\aopsW P r (put (gU st h0 args h' as') d v) K):iw P q st f args as d r K:=by
 rintro rfl;exact HE h0 hs (λi W hi=>jz hsub i W hi) hq h
def mD (h0 h:HP):List AV->List AV
 | []=>[]
 | x::r=>bor h0 h x::mD h0 h r
theorem AU (h0 h:HP):∀l,mD h0 h l=l.map (bor h0 h)
 | []=>rfl
 | x::r=>by simp[mD,AU h0 h r]
theorem sA (h0:HP) {bs:List AV} (hb:mD h0 st.h as=bs) (hs:Spec P f h0 bs Post) (hsub:dz st.h h0) (hq:q=true->h0=[])
    (h:∀h' v as',Post h' v as'->flH h' h'=true/\eG h' v=true/\aopsW P r (put (gU st h0 args h' as') d v) K):iw P q st f args as d r K:=by
 rintro rfl;subst hb;rw[AU,adD]at hs;exact Hw h0 hs (λi W hi=>jz hsub i W hi) hq h
def mf:List AV->List AV
 | []=>[]
 | x::r=>stripV x::mf r
def my:List AV->Prop
 | []=>True
 | x::r=>aq true x/\my r
theorem zd:∀l,mf l=l.map stripV
 | []=>rfl
 | x::r=>by simp[mf,zd r]
theorem vZ:∀{l:List AV},my l->∀x∈l,aq true x
 | [],_,x,hx=>by cases hx
 | y::r,h,x,hx=>by
  rcases acW.1 hx with rfl | hx;exact h.1;exact vZ h.2 x hx
theorem RV.strip {X:Nat->Prop} {w:World} {ρ:Loc} {v:Value} {x:AV} (h:RV X w ρ v x) (hc:aq true x):RV X w ρ v (stripV x):=by
 cases x with
 | gd b y=>exact h.mW (hc rfl)
 | _=>exact h
theorem HC {q:Bool} {st:St} {f:Nat} {args:List AE} {K:AV->St->Prop} {Post:HP->AV->List AV->Prop} (hs:Spec P f [] (args.map λx=>borrow st.h (stripV (ev st x))) Post) (hc:∀x∈args,aq true (ev st x))
    (hK:∀h' r as,Post h' r as->h'=[]/\cZ r=true/\K r st):fb P q st f args K:=by
 intro E ρ a w vs h hvs hrv;refine(hs E.X0 aW w vs (lT _ _ _) (h.cn.mono λ_ hb=>(fI hb).elim) (λb hb=>h.x0 b hb) (by simpa using hvs) (λj v x e1 e2=>?_)).mono ?_
 ·rw[List.getElem?_map]at e2;obtain⟨y,g1,rfl⟩:=acE.1 e2;exact(A1 h ((hrv j v y e1 g1).1.strip (hc y (acS g1))) aW).mono (λ_ _ _=>rfl) (λb _ hb=>λhx=>hb (nI.1 hx)) _ (λ_ _ h=>h)
 ·rintro e w' ⟨v,h',r,ρ',as,rfl,hP,_,g2,_,_,g3,g4,g5,g6,g7,_⟩;obtain⟨rfl,q1,q2⟩:=hK h' r as hP;have hsame:az w w':=⟨g3,g4,g5,g6,λb hb=>g7 b hb fI⟩;exact⟨v,ρ,st,r,rfl,h.same hsame,g2.cZ q1,q2,λ_=>hsame⟩
theorem iv {d:Nat} {v:AV} {bs:List AV} (hb:mf as=bs) (hs:aw P f bs v) (hc:my as) (hn:bs.all bF=true) (hv:dP v=true) (h:aopsW P r ⟨(d,.gd true v)::st.s,st.h⟩ K):wC P q st f args as d r K:=by
 rintro rfl;subst hb;rw[zd,adD]at hs hn;intro E ρ a w vs h1 hvs hrv
 have hlt:∀b,XX E.X0 ρ st.h b->b<w.heap.size:=by
  intro b hb;rcases hb with hb | hb;exact h1.x0 b hb;exact gT h1 hb
 refine(hs (XX E.X0 ρ st.h) aW w vs (lT _ _ _) (h1.cn.mono λ_ hb=>(fI hb).elim) hlt (by simpa using hvs) (λj v x e1 e2=>?_)).mono ?_
 ·rw[List.getElem?_map]at e2;obtain⟨y,g1,rfl⟩:=acE.1 e2;have hy:=(hrv j v y e1 g1).1.strip (vZ hc _ (List.mem_map_of_mem (acS g1)));have hm:(stripV (ev st y))∈args.map (stripV∘ev st):=adu.2 ⟨y,acS g1,rfl⟩;exact(hy.vo (acI.1 hn _ hm) aW).mono (λ_ _ _=>rfl) (λb _ hb=>λhx=>hb (nI.1 hx)) _ (λ_ _ h=>h)
 ·rintro e w' ⟨v,h',r,ρ',as,rfl,⟨rfl,rfl⟩,_,g2,_,_,g3,g4,g5,g6,g7,_⟩;have hsame:az w w':=⟨g3,g4,g5,g6,λb hb=>g7 b hb fI⟩;exact⟨v,ρ,st,_,rfl,h1.same hsame,(g2.GC hv ρ).mono (λ_ _ _=>rfl) (λb _ hb=>λhx=>hb (nI.2 hx)) ρ (λ_ _ h=>h),h,λ_=>hsame⟩
theorem jt {d:Nat} (h:wC P q st f args as d r K):qq P q (some true) st f args as d r K:=λe=>.inr (.inl ⟨rfl,h e⟩)
theorem eH {d:Nat} (h:aopsW P r ⟨(d,.gd false .undef)::st.s,st.h⟩ K):qq P q (some false) st f args as d r K:=λ_=>.inl ⟨rfl,h⟩
theorem O5 {γ:Bool} {d:Nat} {v:AV} {bs:List AV} (hb:borL st.h (mf as)=bs) (hs:γ=true->aw P f bs v) (hc:γ=true->my as) (hv:cZ v=true) (h:aopsW P r ⟨(d,.gd γ v)::st.s,st.h⟩ K):qq P q (some γ) st f args as d r K:=by
 rintro rfl;subst hb;refine .inr (.inr ⟨v,λhγ=>?_,h⟩);refine HC (Post:=λh r _=>h=[]/\r=v) (by have:=hs hγ;rw[wz,zd,adD,adD]at this;exact this) (λx hx=>vZ (hc hγ) _ (List.mem_map_of_mem hx)) ?_;rintro h' r' as' ⟨rfl,rfl⟩;exact⟨rfl,hv,rfl,rfl⟩
end
def cM (Post R:HP->AV->List AV->Prop):Prop:=∀h' r' ar' h r ar,ar'.length=ar.length->Wk ⟨(0,r)::numbered 1 ar,h⟩ ⟨(0,r')::numbered 1 ar',h'⟩->Post h' r' ar'->R h r ar
theorem x6 {s:List (Nat×AV)}:∀{s':List (Nat×AV)},(∀k v,(k,v)∈s'->sget s k=some v)->dA s s'
 | [],_=>trivial
 | (k,v)::r,h=>⟨h k v (acU ..),x6 (λk' v' hm=>h k' v' (acV _ hm))⟩
theorem yf:∀{l:List AV} {k j:Nat} {x:AV},(j,x)∈numbered k l->k<=j/\l[j-k]?=some x
 | [],k,j,x,h=>by simp[numbered]at h
 | y::r,k,j,x,h=>by
  simp only[numbered,acW,Prod.mk.injEq]at h;rcases h with⟨rfl,rfl⟩ | h;exact⟨acG _,by simp⟩
  ·obtain⟨h1,h2⟩:=yf h;exact⟨acB,by rw[show j-k=(j-(k+1))+1 by omega];simpa using h2⟩
theorem TN (r:AV) (ar:List AV):dA ((0,r)::numbered 1 ar) ((0,r)::numbered 1 ar):=by
 refine x6 λk v hm=>?_;rcases acW.1 hm with h | h
 ·injection h with h1 h2;subst h1;subst h2;simp[sget]
 ·obtain⟨h1,h2⟩:=yf h;simp only[sget];rw[if_neg acB];have:=o7 ar 1 (k-1) v h2
  rwa[show 1+(k-1)=k by omega]at this
theorem TR (r r':AV) (ar:List AV):dA ((0,r')::(0,r)::numbered 1 ar) ((0,r')::numbered 1 ar):=by
 refine x6 λk v hm=>?_;rcases acW.1 hm with h | h
 ·injection h with h1 h2;subst h1;subst h2;simp[sget]
 ·obtain⟨h1,h2⟩:=yf h;simp only[sget];rw[if_neg acB,if_neg acB];have:=o7 ar 1 (k-1) v h2
  rwa[show 1+(k-1)=k by omega]at this
section
variable {Post R:HP->AV->List AV->Prop}
theorem cM.le (hF:cM Post R) {h h':HP} {r:AV} {ar:List AV} (hl:dz h h') (hp:Post h' r ar):R h r ar:=hF h' r ar h r ar rfl (.le ⟨TN r ar,hl⟩) hp
theorem cM.ro (hF:cM Post R) {h:HP} {r:AV} {ar:List AV} (hp:Post [] r ar):R h r ar:=cM.le (h':=[]) hF trivial hp
theorem cM.val (hF:cM Post R) {h:HP} {r r':AV} {ar:List AV} (hv:pI r r') (hp:Post [] r' ar):R h r ar:=
 hF [] r' ar h r ar rfl (.val 0 r r' rfl hv (.le ⟨TR r r' ar,trivial⟩)) hp
theorem cM.wk (hF:cM Post R) {h':HP} {r':AV} {ar':List AV} {h:HP} {r:AV} {ar:List AV} (hlen:ar'.length=ar.length) (hw:Wk ⟨(0,r)::numbered 1 ar,h⟩ ⟨(0,r')::numbered 1 ar',h'⟩) (hp:Post h' r' ar'):R h r ar:=hF h' r' ar' h r ar hlen hw hp
theorem tf:cM Post (λh r ar=>∃h2 r2 as2,as2.length=ar.length/\Wk ⟨(0,r)::numbered 1 ar,h⟩ ⟨(0,r2)::numbered 1 as2,h2⟩/\Post h2 r2 as2):=
 λh' r' ar' _ _ _ h1 h2 h3=>⟨h',r',ar',h1,h2,h3⟩
end
theorem RV.Z2 {X:Nat->Prop} {w:World} {ρ:Loc} {v:Value} {s:List UInt8} (h:RV X w ρ v (.str s)):v=.string ⟨s.toArray⟩:=by cases h;rfl
theorem RV.J7 {X:Nat->Prop} {w:World} {ρ:Loc} {v:Value} {b:Bool} (h:RV X w ρ v (.bool b)):v=.bool b:=by cases h;rfl
theorem RV.T3 {X:Nat->Prop} {w:World} {ρ:Loc} {v x:Value} (h:RV X w ρ v (.lit x)):v=x:=by cases h;rfl
def valOf:AV->Value
 | .bool b=>.bool b
 | .int k n=>.int k n
 | .fl k b=>.float k b
 | .cx k a b=>.complex k a b
 | .str s=>.string ⟨s.toArray⟩
 | .an=>.slice none 0 0
 | .lit x=>x
 | _=>undef
def isVal:AV->Bool
 | .bool _ | .int _ _ | .fl _ _ | .cx _ _ _ | .str _ | .an | .lit _=>true
 | _=>false
theorem RV.valOf {X:Nat->Prop} {w:World} {ρ:Loc} {v:Value} {x:AV} (h:RV X w ρ v x) (hx:isVal x=true):v=valOf x:=by
 cases h<;>first | rfl | cases hx
theorem eS {X:Nat->Prop} {w:World} {ρ:Loc} {x:AV} (hx:isVal x=true):RV X w ρ (valOf x) x:=by
 cases x<;>first | (cases hx;done) | skip
 exact .bool _ _;exact .int _ _ _;exact .fl _ _ _;exact .cx _ _ _ _;exact .str _ _;exact .lit _ _;exact .an _
def qC:AV->Bool
 | .ab vs=>vs.all isVal
 | x=>isVal x
def rN:AV->Value
 | .ab vs=>.tuple (vs.map valOf).toArray
 | x=>valOf x
theorem aa2 {X:Nat->Prop} {w:World} {ρ:Loc} {x:AV} (hx:qC x=true):RV X w ρ (rN x) x:=by
 cases x with
 | ab vs=>
  refine .ab _ _ _ (by simp) (λj v a h1 h2=>?_);simp only[List.getElem?_toArray,List.getElem?_map,h2,ac7,Option.some.injEq]at h1;subst h1
  exact eS (acI.1 hx a (acS h2))
 | bool b=>exact eS (x:=.bool b) hx
 | int k n=>exact eS (x:=.int k n) hx
 | fl k b=>exact eS (x:=.fl k b) hx
 | cx k a b=>exact eS (x:=.cx k a b) hx
 | str s=>exact eS (x:=.str s) hx
 | lit x=>exact eS (x:=.lit x) hx
 | an=>exact eS (x:=.an) hx
 | undef=>exact eS (x:=.undef) hx
 | ro sz es=>exact eS (x:=.ro sz es) hx
 | ao x=>exact eS (x:=.ao x) hx
 | sl i o n=>exact eS (x:=.sl i o n) hx
 | ptr i j f=>exact eS (x:=.ptr i j f) hx
 | aa i f=>exact eS (x:=.aa i f) hx
 | agg cs=>exact eS (x:=.agg cs) hx
 | gd b x=>exact eS (x:=.gd b x) hx
 | aA f cs=>exact eS (x:=.aA f cs) hx
theorem Gg {P:Program} {f:Nat} {as:List AV} {Q:AV->Prop} (ha:as.all isVal=true)
    (h:∀w:World,iH w->Calls P f (as.map valOf).toArray w λe w'=>∃v,Q v/\qC v=true/\e=.returned (rN v)/\Go.RowKit.Below w.heap.size w w'):Spec P f [] as (λh r _=>h=[]/\Q r):=by
 intro X0 ρ w vs h1 hA h2 h3 h4
 have hvs:vs=(as.map valOf).toArray:=by
  apply Array.ext (by simpa using h3);intro j g1 g2;have hj:j<as.length:=acB;have:=(h4 j _ as[j] (Array.getElem?_eq_getElem g1) (List.getElem?_eq_getElem hj)).valOf (acI.1 ha _ (adK hj));rw[this];simp
 rw[hvs];refine(h w hA.1).mono ?_;rintro e w' ⟨v,hQ,hv,rfl,hb⟩;refine⟨_,[],v,ρ,as,rfl,⟨rfl,hQ⟩,lT _ _ _,aa2 hv,rfl,λj u x e1 e2=>?_,hb.os,hb.tape,hb.output,hb.size,λb hb' _=>hb.block b hb',λb hb'=>(fI hb').elim⟩;rw[hvs]at h4;have:=(h4 j u x e1 e2).valOf (acI.1 ha _ (acS e2));rw[this];exact eS (acI.1 ha _ (acS e2))
theorem y8 {P:Program} {f:Nat} {as:List AV} {v:AV} (ha:as.all isVal=true) (hv:qC v=true)
    (h:∀w:World,iH w->Calls P f (as.map valOf).toArray w λe w'=>e=.returned (rN v)/\Go.RowKit.Below w.heap.size w w'):aw P f as v:=
 Gg (Q:=λr=>r=v) ha (λw hA=>(h w hA).mono (λe w' ⟨h1,h2⟩=>⟨v,rfl,hv,h1,h2⟩))
theorem y7 {P:Program} {f:Nat} {as:List AV} {v:AV} (ha:as.all isVal=true) (hv:qC v=true)
    (h:∀w:World,Calls P f (as.map valOf).toArray w λe w'=>e=.returned (rN v)/\Go.RowKit.Below w.heap.size w w'):aw P f as v:=y8 ha hv (λw _=>h w)
theorem lj {P:Program} {f:Nat} {as:List AV} {v:AV} (ha:as.all isVal=true) (hv:qC v=true)
    (h:∀w:World,Calls P f (as.map valOf).toArray w λe w'=>e=.returned (rN v)/\w'=w):aw P f as v:=
 y7 ha hv (λw=>(h w).mono (λe w' ⟨h1,h2⟩=>⟨h1,by rw[h2];exact .refl _ _⟩))
def KQ.post (rs:List RVar) (m:Nat) (R:HP->AV->List AV->Prop):KQ:=⟨postQ rs m R⟩
theorem pO {P:Program} {E:Env} {c:AC} {st:St} {Q:Exit->St->Prop} (s':List (Nat×AV)) (hs:dA st.s s') (h:bm P E c ⟨s',st.h⟩ Q):bm P E c st Q:=
 λn code hc a w hr=>h n code hc a w (by obtain⟨ρ,hr⟩:=hr;exact⟨ρ,nu hr hs⟩)
theorem XI {st:St} {t:Nat} (ht:t<2000000):resOf st [.tmp t]=some (ev st (.t t)):=by simp[resOf,resAV,trE,ht]
theorem XK {st:St} {t u:Nat} (ht:t<2000000) (hu:u<2000000):resOf st [.tmp t,.tmp u]=some (.ab [ev st (.t t),ev st (.t u)]):=by simp[resOf,resAV,trE,ht,hu]
theorem XJ {st:St} {t u v:Nat} (ht:t<2000000) (hu:u<2000000) (hv:v<2000000):resOf st [.tmp t,.tmp u,.tmp v]=some (.ab [ev st (.t t),ev st (.t u),ev st (.t v)]):=by simp[resOf,resAV,trE,ht,hu,hv]
theorem XH {st:St} {t u v x:Nat} (ht:t<2000000) (hu:u<2000000) (hv:v<2000000) (hx:x<2000000):resOf st [.tmp t,.tmp u,.tmp v,.tmp x]=some (.ab [ev st (.t t),ev st (.t u),ev st (.t v),ev st (.t x)]):=by simp[resOf,resAV,trE,ht,hu,hv,hx]
section
variable {m:Nat} {R:HP->AV->List AV->Prop} {st:St} {t u v x:Nat}
theorem SY:(KQ.post [] m R).ap .ret st=R st.h (.ab []) (argsAgain st 0 m):=by simp[KQ.post,postQ,resOf,resAV]
theorem SX:(KQ.post [] m R).ap .normal st=R st.h (.ab []) (argsAgain st 0 m):=by simp[KQ.post,postQ,resOf,resAV]
theorem SZ (ht:t<2000000):(KQ.post [.tmp t] m R).ap .ret st=R st.h (ev st (.t t)) (argsAgain st 0 m):=by simp[KQ.post,postQ,XI ht]
theorem S4 (ht:t<2000000) (hu:u<2000000):(KQ.post [.tmp t,.tmp u] m R).ap .ret st=R st.h (.ab [ev st (.t t),ev st (.t u)]) (argsAgain st 0 m):=by simp[KQ.post,postQ,XK ht hu]
theorem S5 (ht:t<2000000) (hu:u<2000000) (hv:v<2000000):(KQ.post [.tmp t,.tmp u,.tmp v] m R).ap .ret st=R st.h (.ab [ev st (.t t),ev st (.t u),ev st (.t v)]) (argsAgain st 0 m):=by simp[KQ.post,postQ,XJ ht hu hv]
theorem S6 (ht:t<2000000) (hu:u<2000000) (hv:v<2000000) (hx:x<2000000):(KQ.post [.tmp t,.tmp u,.tmp v,.tmp x] m R).ap .ret st=R st.h (.ab [ev st (.t t),ev st (.t u),ev st (.t v),ev st (.t x)]) (argsAgain st 0 m):=by simp[KQ.post,postQ,XH ht hu hv hx]
end
def KQ.dies (V:Value):KQ:=⟨wU V⟩
theorem lW {V:Value} {st:St}:(KQ.dies V).ap (.panic (bC V)) st=True:=by simp[KQ.dies,wU]
def KQ.guard (rs:List RVar) (m:Nat) (V:Value) (zA:AV) (R:HP->AV->List AV->Prop):KQ:=⟨CZ rs m V zA R⟩
def guardP2 (rs:List RVar) (m:Nat) (zA:AV) (R:HP->AV->List AV->Prop) (st:St) (id:Nat):Option aC->Prop
 | some (.var [_])=>(KQ.post rs m R).ap .ret ⟨st.s,bo st.h id (.var [zA])⟩
 | _=>False
def guardP (rs:List RVar) (m:Nat) (zA:AV) (R:HP->AV->List AV->Prop) (st:St):Option AV->Prop
 | some (.aa id 0)=>guardP2 rs m zA R st id (hget st.h id)
 | _=>False
theorem CY {rs:List RVar} {m id:Nat} {zA:AV} {R:HP->AV->List AV->Prop} {st:St}:guardP rs m zA R st (some (.aa id 0))=guardP2 rs m zA R st id (hget st.h id):=(rfl)
theorem PB {rs:List RVar} {m id:Nat} {zA c:AV} {R:HP->AV->List AV->Prop} {st:St}:guardP2 rs m zA R st id (some (.var [c]))=(KQ.post rs m R).ap .ret ⟨st.s,bo st.h id (.var [zA])⟩:=(rfl)
theorem SH {rs:List RVar} {m:Nat} {V:Value} {zA:AV} {R:HP->AV->List AV->Prop} {st:St}:(KQ.guard rs m V zA R).ap .ret st=(KQ.post rs m R).ap .ret st:=(rfl)
theorem SG {rs:List RVar} {m:Nat} {V:Value} {zA:AV} {R:HP->AV->List AV->Prop} {st:St}:(KQ.guard rs m V zA R).ap (.panic (bC V)) st=guardP rs m zA R st (sget st.s (2000000+m)):=by
 apply propext;constructor
 ·rintro⟨_,id,c,h1,h2,h3⟩;rw[h1,CY,h2];exact h3
 ·intro h;unfold guardP at h;split at h
  ·rename_i id h1;unfold guardP2 at h;split at h
   ·rename_i c h2;exact⟨rfl,id,c,h1,h2,h⟩
   exact h.elim
  exact h.elim
def KQ.cS (P:Program) (k m:Nat) (y:AK) (rs:List RVar) (V:Value) (zA:AV) (R:HP->AV->List AV->Prop):KQ:=
 ⟨λe st=>e=.normal/\∃id,ev st (.t k)=.aa id 0/\∀E':Env,E'.N<=1000000->vcW P E' y (KQ.guard rs m V zA R) ⟨(2000000+m,.aa id 0)::st.s,st.h⟩⟩
theorem SD {P:Program} {k m id:Nat} {y:AK} {rs:List RVar} {V:Value} {zA:AV} {R:HP->AV->List AV->Prop} {st:St} (h1:ev st (.t k)=.aa id 0)
    (h:∀E':Env,E'.N<=1000000->vcW P E' y (KQ.guard rs m V zA R) ⟨(2000000+m,.aa id 0)::st.s,st.h⟩):(KQ.cS P k m y rs V zA R).ap .normal st:=⟨rfl,id,h1,h⟩
theorem ZA {P:Program} {f g k:Nat} {fn:Func} {body:Code} {h:HP} {args:List AV} {Post:HP->AV->List AV->Prop} {x y:AK} {V:Value} {t:TypeId} {q:IntKind} {z:Int} (hf:P.funcs[f]?=some fn) (hb:fn.body=some body) {B:Nat}
    (hc:trCode P fn.ntmps B body=.seq (x.erase B) (.seq (.cS g [.t k]) (y.erase B))) (hN:fn.ntmps<=1000000) (ha:args.length<=fn.ntmps) (hG:pC P g V t (.int q z)) (ht:bP P t=some 1) {rs:List RVar} (hrs:fn.results.toList.map (trRes P)=rs)
    (s:List (Nat×AV)) (hs:dA (fN args) s) (hp:∀(E:Env) (R:HP->AV->List AV->Prop),E.N<=1000000->cM Post R->vcW P E x (KQ.cS P k args.length y rs V (.int q z) R) ⟨s,h⟩):Spec P f h args Post:=by
 refine zb (Zy hf hb hc hN ha hG ht (λE hE hB hrd=>?_));have hEN:E.N<=1000000:=by rw[hE];exact hN
 have h1:=dV hEN x (hp E _ hEN tf);rw[hB]at h1;refine pO s hs (bm.mono h1 ?_);rintro e st ⟨rfl,id,h2,h3⟩;refine⟨rfl,id,h2,λE' hE' hB' hrd'=>?_⟩;have hEN':E'.N<=1000000:=by rw[hE'];exact hN
 have h4:=dV hEN' y (h3 E' hEN');rw[hB']at h4;rw[hrs];exact h4
theorem Zt {P:Program} {f:Nat} {fn:Func} {body:Code} {h:HP} {args:List AV} {x:AK} {V:Value} (hf:P.funcs[f]?=some fn) (hb:fn.body=some body) {B:Nat}
    (hc:trCode P fn.ntmps B body=x.erase B) (hN:fn.ntmps<=1000000) (ha:args.length<=fn.ntmps) (s:List (Nat×AV)) (hs:dA (fN args) s)
    (hp:∀(E:Env),E.N<=1000000->vcW P E x (KQ.dies V) ⟨s,h⟩):eA P f h args V:=by
 refine Zu hf hb hc hN ha (λE hE hB hrd=>?_);have hEN:E.N<=1000000:=by rw[hE];exact hN
 have h1:=dV hEN x (hp E hEN);rw[hB]at h1;exact pO s hs h1
def retCC (o p:Option AV) (R:HP->AV->List AV->Prop) (h:HP) (as:List AV):Prop:=
 match o,p with
 | some x,some y=>R h (.ab [x,y]) as
 | _,_=>False
theorem XO {x y:AV} {R:HP->AV->List AV->Prop} {h:HP} {as:List AV}:retCC (some x) (some y) R h as=R h (.ab [x,y]) as:=(rfl)
theorem SV {m n t u k:Nat} {ag bg:Bool} {R:HP->AV->List AV->Prop} {st:St}:(KQ.post [.cell t ag n,.cell u bg k] m R).ap .ret st=retCC (resC st ag n (sget st.s t)) (resC st bg k (sget st.s u)) R st.h (argsAgain st 0 m):=by
 simp only[KQ.post,postQ,resOf,resAV];cases resC st ag n (sget st.s t)<;>cases resC st bg k (sget st.s u)<;>simp[consO,retCC]
def retC (o:Option AV) (ys:List AV) (R:HP->AV->List AV->Prop) (h:HP) (as:List AV):Prop:=
 match o,ys with
 | some x,[]=>R h x as
 | some x,ys=>R h (.ab (x::ys)) as
 | none,_=>False
theorem Pn:ghost []=[]:=(rfl)
theorem Pm {k:Nat} {v:AV} {r:List (Nat×AV)}:ghost ((k,v)::r)=(3000000+k,v)::ghost r:=(rfl)
theorem XP {x:AV} {R:HP->AV->List AV->Prop} {h:HP} {as:List AV}:retC (some x) [] R h as=R h x as:=(rfl)
theorem XQ {x y:AV} {R:HP->AV->List AV->Prop} {h:HP} {as:List AV}:retC (some x) [y] R h as=R h (.ab [x,y]) as:=(rfl)
theorem SR {m n t:Nat} {ag:Bool} {R:HP->AV->List AV->Prop} {st:St}:(KQ.post [.cell t ag n] m R).ap .ret st=retC (resC st ag n (sget st.s t)) [] R st.h (argsAgain st 0 m):=by
 simp only[KQ.post,postQ,resOf,resAV];cases resC st ag n (sget st.s t)<;>simp[consO,retC]
theorem SU {m n t u:Nat} {ag:Bool} {R:HP->AV->List AV->Prop} {st:St} (hu:u<2000000):(KQ.post [.cell t ag n,.tmp u] m R).ap .ret st=retC (resC st ag n (sget st.s t)) [ev st (.t u)] R st.h (argsAgain st 0 m):=by
 simp only[KQ.post,postQ,resOf,resAV];cases resC st ag n (sget st.s t)<;>simp[consO,retC,trE,hu]
theorem XG {st:St} {ag:Bool} {n id f:Nat}:resC st ag n (some (.aa id f))=resW ag n f (hget st.h id):=(rfl)
theorem XL {ag:Bool} {n f:Nat} {cs:List AV}:resW ag n f (some (.var cs))=ldO ag n (cs.drop f):=(rfl)
theorem TF {n:Nat} {cs:List AV} (h:n<=cs.length):ldO true n cs=some (.agg (cs.take n)):=by simp[ldO,h]
theorem TE {n:Nat} {c:AV} {cs:List AV}:ldO false n (c::cs)=some c:=(rfl)
def uS (b:Bool) (id' i:Nat):Nat:=match b with
 | true=>id'
 | false=>i
theorem X7 {id id' i:Nat}:rn id id' i=uS (i==id) id' i:=by unfold rn uS;cases i==id<;>rfl
theorem X6 {id' i:Nat}:uS true id' i=id':=(rfl)
theorem X5 {id' i:Nat}:uS false id' i=i:=(rfl)
def uZ (b:Bool) (v:AV) (r:List (Nat×AV)) (i:Nat):Option AV:=bif b then some v else sget r i
theorem YU {i:Nat}:sget [] i=none:=(rfl)
theorem YT {k i:Nat} {v:AV} {r:List (Nat×AV)}:sget ((k,v)::r) i=uZ (i==k) v r i:=by
 simp only[sget,uZ,cond_eq_ite,beq_iff_eq]
theorem YS {v:AV} {r:List (Nat×AV)} {i:Nat}:uZ true v r i=some v:=(rfl)
theorem YR {v:AV} {r:List (Nat×AV)} {i:Nat}:uZ false v r i=sget r i:=(rfl)
def tK (b:Bool) (v:aC) (r:HP) (i:Nat):Option aC:=bif b then some v else hget r i
theorem Qe {i:Nat}:hget [] i=none:=(rfl)
theorem Qd {k i:Nat} {v:aC} {r:HP}:hget ((k,v)::r) i=tK (i==k) v r i:=by
 simp only[hget,tK,cond_eq_ite,beq_iff_eq]
theorem Qc {v:aC} {r:HP} {i:Nat}:tK true v r i=some v:=(rfl)
theorem Qb {v:aC} {r:HP} {i:Nat}:tK false v r i=hget r i:=(rfl)
def tI (b:Bool) (k:Nat) (v:aC) (r:HP) (i:Nat):HP:=bif b then hdel i r else(k,v)::hdel i r
theorem P5 {i:Nat}:hdel i []=[]:=(rfl)
theorem P4 {k i:Nat} {v:aC} {r:HP}:hdel i ((k,v)::r)=tI (i==k) k v r i:=by
 simp only[hdel,tI,cond_eq_ite,beq_iff_eq]
theorem P3 {k:Nat} {v:aC} {r:HP} {i:Nat}:tI true k v r i=hdel i r:=(rfl)
theorem P2 {k:Nat} {v:aC} {r:HP} {i:Nat}:tI false k v r i=(k,v)::hdel i r:=(rfl)
theorem Ql {h:HP} {id:Nat} {W:aC}:bo h id W=(id,W)::hdel id h:=(rfl)
def um (b:Bool) (i:Nat) (r:List Nat):Bool:=bif b then true else memN i r
theorem Ur {i:Nat}:memN i []=false:=(rfl)
theorem Uq {i k:Nat} {r:List Nat}:memN i (k::r)=um (i==k) i r:=by
 simp only[memN,um,cond_eq_ite,beq_iff_eq]
theorem Up {i:Nat} {r:List Nat}:um true i r=true:=(rfl)
theorem Uo {i:Nat} {r:List Nat}:um false i r=memN i r:=(rfl)
def sZ (b:Bool) (k:Nat) (W:aC) (ids keep:List Nat) (r:HP):HP:=bif b then dropH ids keep r else(k,kO ids keep W)::dropH ids keep r
theorem MS {ids keep:List Nat}:dropH ids keep []=[]:=(rfl)
theorem MR {ids keep:List Nat} {k:Nat} {W:aC} {r:HP}:dropH ids keep ((k,W)::r)=sZ (memN k ids) k W ids keep r:=by
 simp only[dropH,sZ,cond_eq_ite]
theorem MQ {ids keep:List Nat} {k:Nat} {W:aC} {r:HP}:sZ true k W ids keep r=dropH ids keep r:=(rfl)
theorem MP {ids keep:List Nat} {k:Nat} {W:aC} {r:HP}:sZ false k W ids keep r=(k,kO ids keep W)::dropH ids keep r:=(rfl)
theorem Sk {id:Nat}:killS id []=[]:=(rfl)
theorem Sj {id k:Nat} {v:AV} {r:List (Nat×AV)}:killS id ((k,v)::r)=(k,kill id v)::killS id r:=(rfl)
theorem Se {id:Nat}:fE id []=[]:=(rfl)
theorem Sd {id k:Nat} {v:aC} {r:HP}:fE id ((k,v)::r)=(k,lV id v)::fE id r:=(rfl)
theorem Si {ids keep:List Nat}:killSI ids keep []=[]:=(rfl)
theorem Sf {ids keep:List Nat} {k:Nat} {v:AV} {r:List (Nat×AV)}:killSI ids keep ((k,v)::r)=(k,kI ids keep v)::killSI ids keep r:=(rfl)
theorem OY {id sz:Nat} {es:List AV}:frzS id sz es []=[]:=(rfl)
theorem OX {id sz k:Nat} {es:List AV} {v:AV} {r:List (Nat×AV)}:frzS id sz es ((k,v)::r)=(k,bn id sz es v)::frzS id sz es r:=(rfl)
theorem OV {id sz:Nat} {es:List AV}:frzH id sz es []=[]:=(rfl)
theorem OU {id sz k:Nat} {es:List AV} {v:aC} {r:HP}:frzH id sz es ((k,v)::r)=(k,mV id sz es v)::frzH id sz es r:=(rfl)
def frzO (st:St) (id:Nat) (o:Option aC):St:=
 match o with
 | some (.arr sz es)=>⟨frzS id sz es st.s,frzH id sz es (hdel id st.h)⟩
 | _=>st
theorem OM {st:St} {id:Nat}:freeze st id=frzO st id (hget st.h id):=by
 unfold freeze frzO;split<;>simp_all
theorem OW {st:St} {id sz:Nat} {es:List AV}:frzO st id (some (.arr sz es))=⟨frzS id sz es st.s,frzH id sz es (hdel id st.h)⟩:=(rfl)
def wv (b:Bool) (Q:KQ) (j:Nat) (st:St):Prop:=match b with
 | true=>Q.ap .normal st
 | false=>Q.ap (.exit j) st
theorem Sw {Q:KQ} {i j:Nat} {st:St}:(KQ.ff i Q).ap (.exit j) st=wv (j==i) Q j st:=by
 rw[SB];by_cases h:j=i
 ·subst h;rw[if_pos rfl,show(j==j)=true by simp];rfl
 ·rw[if_neg h,show(j==i)=false by simp[h]];rfl
theorem JV {Q:KQ} {j:Nat} {st:St}:wv true Q j st=Q.ap .normal st:=(rfl)
theorem JU {Q:KQ} {j:Nat} {st:St}:wv false Q j st=Q.ap (.exit j) st:=(rfl)
abbrev ints (xs:List Int):List AV:=xs.map (AV.int .i64)
theorem Q2 (xs:List Int):ints xs=xs.map (AV.int .i64):=(rfl)
theorem Vf {f:Int->AV} {xs:List Int} {i:Nat} (h:i<xs.length):nth (xs.map f) i=f (xs.getD i 0):=by
 simp[nth,acC,h]
theorem Ve {f:UInt8->AV} {xs:List UInt8} {i:Nat} (h:i<xs.length):nth (xs.map f) i=f (xs.getD i 0):=by
 simp[nth,acC,h]
theorem Vg {α:Type} {f:List α->AV} {xs:List (List α)} {i:Nat} (h:i<xs.length):nth (xs.map f) i=f (xs.getD i []):=by
 simp[nth,acC,h]
theorem Er {α:Type} [Inhabited α] {f:α->AV} {xs:List α} {i:Nat} (h:i<xs.length):nth (xs.map f) i=f (xs.getD i default):=by
 simp[nth,acC,h]
theorem aae {α:Type} {f:α->AV} {xs:List α} {o n:Nat}:aB (xs.map f) o n=((xs.drop o).take n).map f:=by
 simp[aB]
theorem aag {x:AV} {r:List AV} {o n:Nat}:aB (x::r) (o+1) n=aB r o n:=by simp[aB]
theorem aad {x:AV} {r:List AV} {n:Nat}:aB (x::r) 0 (n+1)=x::aB r 0 n:=by simp[aB]
theorem aah {r:List AV}:aB r 0 0=[]:=by simp[aB]
theorem aaf {o n:Nat}:aB [] o n=[]:=by simp[aB]
theorem mg {α:Type} {xs:List α} {n:Nat} (h:xs.length<=n):xs.take n=xs:=acF h
theorem MT {α:Type} {xs:List α} {n:Nat} (h:xs.length<=n):xs.drop n=[]:=List.drop_eq_nil_of_le h
theorem YO {α:Type} {f:α->AV} {xs:List α} {i:Nat} {y:α}:(xs.map f).set i (f y)=(xs.set i y).map f:=by rw[afq]
theorem Iz {α:Type} {f:α->AV} {xs:List α} {y:α}:xs.map f++[f y]=(xs++[y]).map f:=by simp
theorem IE {α:Type} {f:α->AV} {xs ys:List α}:xs.map f++ys.map f=(xs++ys).map f:=by simp
theorem K3 {k:IntKind} {xs:List Int}:(xs.map (AV.int k)).all aD=true:=by simp[aD,cellsOf,isCell]
theorem Oo {k:IntKind} {xs:List Int}:(xs.map (AV.int k)).all flA=true:=by simp[flA,flC]
theorem Om {xs:List UInt8}:(xs.map ub).all flA=true:=by simp[flA,flC,ub]
theorem Oq {xs:List (List UInt8)}:(xs.map AV.str).all flA=true:=by simp[flA,flC]
theorem K1 {xs:List UInt8}:(xs.map ub).all aD=true:=by simp[aD,cellsOf,isCell,ub]
theorem K6 {xs:List (List UInt8)}:(xs.map AV.str).all aD=true:=by simp[aD,cellsOf,isCell]
theorem K5 {α:Type} {sz:Nat} {f:α->List AV} {xs:List α}:(xs.map λx=>AV.ro sz (f x)).all aD=true:=by simp[aD,cellsOf,isCell]
def uY (b:Bool) (e v:AV):AV:=
 match b with
 | true=>v
 | false=>.agg (bV (cellsOf e) 0 (cellsOf v))
theorem YM {e v:AV}:jG e 0 v=uY ((cellsOf v).length==(cellsOf e).length) e v:=by
 unfold jG uY;by_cases h:(cellsOf v).length=(cellsOf e).length
 ·rw[if_pos ⟨rfl,h⟩,show((cellsOf v).length==(cellsOf e).length)=true by simp[h]]
 ·rw[if_neg (λx=>h x.2),show((cellsOf v).length==(cellsOf e).length)=false by simp[h]]
theorem YJ {e v:AV}:uY true e v=v:=(rfl)
theorem YI {e v:AV}:uY false e v=.agg (bV (cellsOf e) 0 (cellsOf v)):=(rfl)
theorem YL {e v:AV} {f:Nat} (h:f≠0):jG e f v=.agg (bV (cellsOf e) f (cellsOf v)):=by
 unfold jG;rw[if_neg (λx=>h x.1)]
theorem aaS (b:UInt8):ub b=.int .u8 b.toNat:=(rfl)
theorem KY:cellsOf AV.undef=[AV.undef]:=(rfl)
theorem KK (b:Bool):cellsOf (.bool b)=[.bool b]:=(rfl)
theorem KP (k:IntKind) (n:Int):cellsOf (.int k n)=[.int k n]:=(rfl)
theorem KO (k:FloatKind) (n:Nat):cellsOf (.fl k n)=[.fl k n]:=(rfl)
theorem KL (k:FloatKind) (a b:Nat):cellsOf (.cx k a b)=[.cx k a b]:=(rfl)
theorem KX (l:List UInt8):cellsOf (.str l)=[.str l]:=(rfl)
theorem KR (x:Value):cellsOf (.lit x)=[.lit x]:=(rfl)
theorem KV (sz:Nat) (es:List AV):cellsOf (.ro sz es)=[.ro sz es]:=(rfl)
theorem KM (x:AV):cellsOf (.ao x)=[.ao x]:=(rfl)
theorem KW (i o n:Nat):cellsOf (.sl i o n)=[.sl i o n]:=(rfl)
theorem KU (i j f:Nat):cellsOf (.ptr i j f)=[.ptr i j f]:=(rfl)
theorem KZ (i f:Nat):cellsOf (.aa i f)=[.aa i f]:=(rfl)
theorem KT:cellsOf .an=[.an]:=(rfl)
theorem KJ (cs:List AV):cellsOf (.agg cs)=cs:=(rfl)
theorem YN {α:Type} (xs:List α) (a b:α):(xs++[a]).set xs.length b=xs++[b]:=by simp
theorem WN {a b:Bool}:(if a=true then true else b)=(a||b):=by cases a<;>rfl
theorem WL {a b:Bool}:(if a=true then b else false)=(a&&b):=by cases a<;>rfl
theorem WQ {p:Prop} [Decidable p] {b:Bool}:(if p then true else b)=(decide p||b):=by by_cases h:p<;>simp[h]
theorem WM {p:Prop} [Decidable p] {b:Bool}:(if p then b else false)=(decide p&&b):=by by_cases h:p<;>simp[h]
theorem Mt {b:Bool}:decide (b=true)=b:=by cases b<;>rfl
theorem Q1 {a b:Int} (h:a=b):(a=b)=True:=eq_true h
theorem UY {a b:Nat} (h:a=b):(a=b)=True:=eq_true h
theorem Mx {p q:Prop} [Decidable p] [Decidable q]:(decide p||decide q)=decide (p\/q):=by simp
theorem Mr {p q:Prop} [Decidable p] [Decidable q]:(decide p&&decide q)=decide (p/\q):=by simp
theorem Mw {p:Prop} [Decidable p]:(!decide p)=decide (¬p):=by simp
theorem JJ {a b:List UInt8}:(a==b)=decide (a=b):=by
 by_cases h:a=b<;>simp[h]
theorem JK {a:Bool}:(a==false)=!a:=by cases a<;>rfl
theorem JL {a:Bool}:(a==true)=a:=by cases a<;>rfl
theorem od {α:Type} (d:α) (xs:List α) {k:Nat} (h:k<xs.length):xs.drop k=xs.getD k d::xs.drop (k+1):=by
 rw[adl h,acC,List.getElem?_eq_getElem h];rfl
theorem vm {α:Type} (d:α) (xs:List α) {k:Nat} (h:k<xs.length):xs.take (k+1)=xs.take k++[xs.getD k d]:=by
 rw[List.take_succ_eq_append_getElem h,acC,List.getElem?_eq_getElem h];rfl
theorem qu {α:Type} (d:α) (xs:List α) {k:Nat} (h:k<xs.length):xs.getD k d∈xs:=by
 rw[acC,List.getElem?_eq_getElem h];exact adK h
theorem GP {n:Int} (h:0<=n/\n<=255):ub (UInt8.ofNat n.toNat)=.int .u8 n:=by
 simp only[ub,ada]
 congr 1
 omega
theorem YQ {xs:List UInt8} {i:Nat} {n:Int} (h:0<=n/\n<=255):(xs.map ub).set i (.int .u8 n)=(xs.set i (UInt8.ofNat n.toNat)).map ub:=by
 rw[<-GP h,afq]
theorem IH {xs:List UInt8} {n:Int} (h:0<=n/\n<=255):xs.map ub++[.int .u8 n]=(xs++[UInt8.ofNat n.toNat]).map ub:=by
 rw[<-GP h];simp
theorem Kv {xs:List UInt8}:bytesOf (xs.map ub)=xs:=by
 simp only[bytesOf,adD]
 conv=>rhs;rw[<-List.map_id xs]
 refine adN λx _=>?_;simp[byteOfAV,ub]
theorem H0 {xs:List UInt8}:gw (xs.map ub)=true:=by simp[gw,jy,ub]
theorem UT {a b:Int}:(if b > a then b else a)=max a b:=acB
theorem UJ {a b:Int}:(if b<a then b else a)=min a b:=acB
theorem aay {k:Nat}:((k:Int)-1).toNat=k-1:=acB
theorem aax {k:Nat}:((k:Int)+1).toNat=k+1:=acB
theorem toNat_add {k m:Nat}:((k:Int)+(m:Int)).toNat=k+m:=acB
theorem toNat_sub {k m:Nat}:((k:Int)-(m:Int)).toNat=k-m:=acB
theorem NH (st:St):evL st []=[]/\(∀x r,evL st (x::r)=ev st x::evL st r):=⟨rfl,λ_ _=>rfl⟩
theorem Kb (h:HP):borL h []=[]/\(∀x r,borL h (x::r)=borrow h x::borL h r):=⟨rfl,λ_ _=>rfl⟩
theorem Kd (h0 h:HP):mD h0 h []=[]/\(∀x r,mD h0 h (x::r)=bor h0 h x::mD h0 h r):=⟨rfl,λ_ _=>rfl⟩
theorem ZJ:mf []=[]/\(∀x r,mf (x::r)=stripV x::mf r):=⟨rfl,λ_ _=>rfl⟩
theorem H2:my []=True/\(∀x r,my (x::r)=(aq true x/\my r)):=⟨rfl,λ_ _=>rfl⟩
theorem IL (st:St) (k:Nat):argsAgain st k 0=[]/\(∀n,argsAgain st k (n+1)=(sget st.s (2000000+k)).getD .undef::argsAgain st (k+1) n):=⟨rfl,λ_=>rfl⟩
theorem gq {n:Int} (h:-9223372036854775808<=n/\n<=9223372036854775807):IntKind.i64.wrap n=n:=IntWalk.i64_in n h
theorem drop_cons (xs:List Int) {k:Nat} (h:k<xs.length):xs.drop k=xs.getD k 0::xs.drop (k+1):=by
 rw[adl h,acC,List.getElem?_eq_getElem h];rfl
theorem My {p:Prop} [Decidable p] (h:p):decide p=true:=decide_eq_true h
theorem Mu {p:Prop} [Decidable p] (h:¬p):decide p=false:=decide_eq_false h
section
variable {P:Program} {st:St} {K:KS} {r:List ROp} {d:Nat} {c:Prop} {v:AV} {γ:Bool}
theorem aa5:valW P (.ok True v) d r st K=aopsW P r ⟨(d,v)::st.s,st.h⟩ K:=by simp only[zw,true_and]
theorem aa4 (h:c):valW P (.ok c v) d r st K=aopsW P r ⟨(d,v)::st.s,st.h⟩ K:=by simp only[zw,h,true_and]
theorem Nl:oh P (.ok True v st) d r K=aopsW P r ⟨(d,v)::st.s,st.h⟩ K:=by simp only[w8,true_and]
theorem Nk (h:c):oh P (.ok c v st) d r K=aopsW P r ⟨(d,v)::st.s,st.h⟩ K:=by simp only[w8,h,true_and]
theorem Nd:og P (.ok True v st) r K=aopsW P r st K:=by simp only[w7,true_and]
theorem Nc (h:c):og P (.ok c v st) r K=aopsW P r st K:=by simp only[w7,h,true_and]
end
theorem abQ {n:Int} (h:-128<=n/\n<=127):IntKind.i8.wrap n=n:=IntWalk.i8_in n h
theorem abP {n:Int} (h:-32768<=n/\n<=32767):IntKind.i16.wrap n=n:=IntWalk.i16_in n h
theorem wrap_i32 {n:Int} (h:-2147483648<=n/\n<=2147483647):IntKind.i32.wrap n=n:=IntWalk.i32_in n h
theorem wrap_u8 {n:Int} (h:0<=n/\n<=255):IntKind.u8.wrap n=n:=IntWalk.u8_in n h
theorem wrap_u16 {n:Int} (h:0<=n/\n<=65535):IntKind.u16.wrap n=n:=IntWalk.u16_in n h
theorem wrap_u32 {n:Int} (h:0<=n/\n<=4294967295):IntKind.u32.wrap n=n:=IntWalk.u32_in n h
theorem wrap_u64 {n:Int} (h:0<=n/\n<=18446744073709551615):IntKind.u64.wrap n=n:=IntWalk.u64_in n h
section
variable {P:Program} {E:Env} {st:St} {Q:KQ} {x y:AK}
theorem kK {p:Prop} [Decidable p] (h1:p->vcW P E x Q st) (h2:¬p->vcW P E y Q st):mZ P E (decide p) x y Q st:=
 ⟨λh=>h1 (of_decide_eq_true h),λh=>h2 (of_decide_eq_false h)⟩
end
attribute [go_sem] Te Sz S9 SK SO Tr M8 M6 M7 Tq Tp MM MN MO WX nT lW CY PB SH SG XO SV Tt Tn Tm Pn Pm XP XQ SR SU XG XL TF TE Tc Sx S7 SJ SL SM SI SN SP SQ abf abe NH Kb Kd ZJ H2 IL Iw Ix Iy aa3 Ip Nj Iq Nb wc Io Iv PK PJ PH PF Iu Pa O9 O8 Ir It Ts Td Tf Tg Sy SA Sw JV JU S8 Ta Tb abm abj abd Ly QF QE aaO aaP aaN aaM TS TQ TP TM TK SY SX SZ S4 S5 S6 RZ RY YU YT YS YR Qe Qd Qc Qb Ql P5 P4 P3 P2 Ur Uq Up Uo MS MR MQ MP KY KK KP KO KL KX KR KV KM KW KU KZ KT KJ Sk Sj Si Sf OY OX OV OU OM OW Se Sd X7 X6 X5 adF adw aaS acT adM adz Bool.and_true aeU Bool.and_false Bool.false_and Bool.or_true afb Bool.true_or Bool.false_or if_true if_false ads afe ac7 adH adi ac8 acZ adf adk aef aeh List.all_nil acH ac9 aeB adP adp ad3 decide_true decide_false WN WL WQ WM Mt Q1 UY Mx Mr Mw JJ JK JL imp_self implies_true decide_eq_true_eq decide_eq_false_iff_not eq_self Int.natCast_add Int.cast_ofNat_Int adr adA Int.add_zero Int.zero_add Bool.and_self ae3 true_and and_true false_and and_false not_true_eq_false not_false_eq_true Option.some.injEq aC.arr.injEq aC.var.injEq AV.int.injEq AV.bool.injEq AV.str.injEq AV.ro.injEq AV.sl.injEq AV.ao.injEq AV.agg.injEq AV.ab.injEq AV.fl.injEq AV.cx.injEq AV.aa.injEq AV.ptr.injEq List.cons.injEq Prod.mk.injEq false_imp_iff true_imp_iff forall_const aeM Q2 Vf Ve Vg aae aaf aag aad aah mg MT List.set_cons_zero List.set_cons_succ aay aax toNat_add toNat_sub UT UJ YO YQ IH Kv H0 YN Iz IE Oo Om Oq K3 K1 K6 K5 acY acD ad5 ae8 ac3 adn YM YJ YI YL
attribute [go_sem high] PG aa5 Nl Nd
attribute [go_sem] aa4 Nk Nc gq abQ abP wrap_i32 wrap_u8 wrap_u16 wrap_u32 wrap_u64 My Mu
theorem zp {a b:Int} (h:0<=a):a.tdiv b=a/b:=adT h
theorem pg {a b:Int} (h:0<=a):a.tmod b=a%b:=adU h
attribute [go_sem] zp pg
attribute [go_sem low] Er
attribute [go_sem low] Ii zw w8 w7
theorem Lx:(∀{α:Type} (a b:List α),(a++b).length=a.length+b.length)/\(∀{α:Type} (x:α) (a:List α),(x::a).length=a.length+1)/\(∀{α:Type},([]:List α).length=0)/\(∀{α:Type} (a:List α) (i:Nat) (x:α),(a.set i x).length=a.length) /\
    (∀{α β:Type} (f:α->β) (a:List α),(a.map f).length=a.length)/\(∀{α:Type} (i:Nat) (a:List α),(a.take i).length=min i a.length)/\(∀{α:Type} (i:Nat) (a:List α),(a.drop i).length=a.length-i)/\(∀n:Nat,(List.range n).length=n) /\
    (∀{α:Type} (n:Nat) (x:α),(List.replicate n x).length=n)/\(∀{α:Type} (a:List α),a.reverse.length=a.length):=
 ⟨λ_ _=>acD,λ_ _=>acH,ac9,λ_ _ _=>ad5,λ_ _=>acY _,λ_ _=>acJ,λ_ _=>acK,λ_=>ae8,λ_ _=>ac3,λ_=>adn⟩
theorem vV {p:Prop} (h:p:=by simp(disch:=first | omega | (simp only[Lx];omega))only[go_sem,simprocAttr]):p:=h
theorem wW {a b:Prop} (k:b) (h:b->a:=by intro h;simp(disch:=first | omega | (simp only[Lx];omega))only[go_sem,simprocAttr];exact h):a:=h k
theorem gG {a b:Prop} (k:b) (h:b->a:=by intro h;(repeat(first | (with_reducible refine eJ ?_) | (with_reducible refine eH ?_) | (with_reducible refine eI ?_))<;>simp(disch:=first | omega | (simp only[Lx];omega))only[go_sem,simprocAttr]);exact h):a:=h k
theorem eY {E0:Prop} {p:Prop} (e0:E0) (h:E0->p:=by intro e0;simp(disch:=first | omega | (simp only[Lx];omega))only[go_sem,simprocAttr,e0]):p:=h e0
theorem ah {E0:Prop} {a b:Prop} (e0:E0) (k:b) (h:E0->b->a:=by intro e0 h;simp(disch:=first | omega | (simp only[Lx];omega))only[go_sem,simprocAttr,e0];exact h):a:=h e0 k
theorem cB {E0:Prop} {a b:Prop} (e0:E0) (k:b) (h:E0->b->a:=by intro e0 h;(repeat(first | (with_reducible refine eJ ?_) | (with_reducible refine eH ?_) | (with_reducible refine eI ?_))<;>simp(disch:=first | omega | (simp only[Lx];omega))only[go_sem,simprocAttr,e0]);exact h):a:=h e0 k
theorem lv {E0 E1:Prop} {p:Prop} (e0:E0) (e1:E1) (h:E0->E1->p:=by intro e0 e1;simp(disch:=first | omega | (simp only[Lx];omega))only[go_sem,simprocAttr,e0,e1]):p:=h e0 e1
theorem aV {E0 E1:Prop} {a b:Prop} (e0:E0) (e1:E1) (k:b) (h:E0->E1->b->a:=by intro e0 e1 h;simp(disch:=first | omega | (simp only[Lx];omega))only[go_sem,simprocAttr,e0,e1];exact h):a:=h e0 e1 k
theorem gX {E0 E1:Prop} {a b:Prop} (e0:E0) (e1:E1) (k:b) (h:E0->E1->b->a:=by intro e0 e1 h;(repeat(first | (with_reducible refine eJ ?_) | (with_reducible refine eH ?_) | (with_reducible refine eI ?_))<;>simp(disch:=first | omega | (simp only[Lx];omega))only[go_sem,simprocAttr,e0,e1]);exact h):a:=h e0 e1 k
theorem GZ {E0 E1 E2:Prop} {p:Prop} (e0:E0) (e1:E1) (e2:E2) (h:E0->E1->E2->p:=by intro e0 e1 e2;simp(disch:=first | omega | (simp only[Lx];omega))only[go_sem,simprocAttr,e0,e1,e2]):p:=h e0 e1 e2
theorem cI {E0 E1 E2:Prop} {a b:Prop} (e0:E0) (e1:E1) (e2:E2) (k:b) (h:E0->E1->E2->b->a:=by intro e0 e1 e2 h;simp(disch:=first | omega | (simp only[Lx];omega))only[go_sem,simprocAttr,e0,e1,e2];exact h):a:=h e0 e1 e2 k
theorem lP {E0 E1 E2:Prop} {a b:Prop} (e0:E0) (e1:E1) (e2:E2) (k:b) (h:E0->E1->E2->b->a:=by intro e0 e1 e2 h;(repeat(first | (with_reducible refine eJ ?_) | (with_reducible refine eH ?_) | (with_reducible refine eI ?_))<;>simp(disch:=first | omega | (simp only[Lx];omega))only[go_sem,simprocAttr,e0,e1,e2]);exact h):a:=h e0 e1 e2 k
theorem cW {E0 E1 E2 E3:Prop} {a b:Prop} (e0:E0) (e1:E1) (e2:E2) (e3:E3) (k:b) (h:E0->E1->E2->E3->b->a:=by intro e0 e1 e2 e3 h;simp(disch:=first | omega | (simp only[Lx];omega))only[go_sem,simprocAttr,e0,e1,e2,e3];exact h):a:=h e0 e1 e2 e3 k
theorem tt {E0 E1 E2 E3:Prop} {a b:Prop} (e0:E0) (e1:E1) (e2:E2) (e3:E3) (k:b) (h:E0->E1->E2->E3->b->a:=by intro e0 e1 e2 e3 h;(repeat(first | (with_reducible refine eJ ?_) | (with_reducible refine eH ?_) | (with_reducible refine eI ?_))<;>simp(disch:=first | omega | (simp only[Lx];omega))only[go_sem,simprocAttr,e0,e1,e2,e3]);exact h):a:=h e0 e1 e2 e3 k
theorem gP {E0 E1 E2 E3 E4:Prop} {a b:Prop} (e0:E0) (e1:E1) (e2:E2) (e3:E3) (e4:E4) (k:b) (h:E0->E1->E2->E3->E4->b->a:=by intro e0 e1 e2 e3 e4 h;simp(disch:=first | omega | (simp only[Lx];omega))only[go_sem,simprocAttr,e0,e1,e2,e3,e4];exact h):a:=h e0 e1 e2 e3 e4 k
theorem oA {E0 E1 E2 E3 E4:Prop} {a b:Prop} (e0:E0) (e1:E1) (e2:E2) (e3:E3) (e4:E4) (k:b) (h:E0->E1->E2->E3->E4->b->a:=by intro e0 e1 e2 e3 e4 h;(repeat(first | (with_reducible refine eJ ?_) | (with_reducible refine eH ?_) | (with_reducible refine eI ?_))<;>simp(disch:=first | omega | (simp only[Lx];omega))only[go_sem,simprocAttr,e0,e1,e2,e3,e4]);exact h):a:=h e0 e1 e2 e3 e4 k
theorem rQ {E0 E1 E2 E3 E4 E5:Prop} {a b:Prop} (e0:E0) (e1:E1) (e2:E2) (e3:E3) (e4:E4) (e5:E5) (k:b) (h:E0->E1->E2->E3->E4->E5->b->a:=by intro e0 e1 e2 e3 e4 e5 h;simp(disch:=first | omega | (simp only[Lx];omega))only[go_sem,simprocAttr,e0,e1,e2,e3,e4,e5];exact h):a:=h e0 e1 e2 e3 e4 e5 k
inductive ly:AV->AV->Prop where
 | refl (a:AV):ly a a
 | nil (sz:Nat):ly .an (.ro sz [])
inductive eZ:List AV->List AV->Prop where
 | nil:eZ [] []
 | cons {a b:AV} {as bs:List AV} (h:ly a b) (hs:eZ as bs):eZ (a::as) (b::bs)
inductive mo:AV->AV->Prop where
 | one {a b:AV} (h:ly a b):mo a b
 | ro {sz:Nat} {as bs:List AV} (h:eZ as bs):mo (.ro sz as) (.ro sz bs)
 | agg {as bs:List AV} (h:eZ as bs):mo (.agg as) (.agg bs)
inductive nJ:List AV->List AV->Prop where
 | nil:nJ [] []
 | cons {a b:AV} {as bs:List AV} (h:mo a b) (hs:nJ as bs):nJ (a::as) (b::bs)
theorem eZ.refl:∀l:List AV,eZ l l
 | []=>.nil
 | x::r=>.cons (.refl x) (eZ.refl r)
theorem B1 {a b:AV} (h:ly a b):eZ (cellsOf a) (cellsOf b):=by
 cases h with
 | refl=>exact eZ.refl _
 | nil sz=>exact .cons (.nil sz) .nil
theorem Np {a b c d:List AV} (h:eZ a b) (k:eZ c d):eZ (a++c) (b++d):=by
 induction h with
 | nil=>exact k
 | cons h _ ih=>exact .cons h ih
theorem B3 {as bs:List AV} (h:eZ as bs):eZ (flat as) (flat bs):=by
 induction h with
 | nil=>exact .nil
 | cons h _ ih=>
  simp only[flat,List.flatMap_cons];exact Np (B1 h) ih
theorem qj {as bs:List AV} (h:eZ as bs):as.length=bs.length:=by
 induction h with
 | nil=>rfl
 | cons h _ ih=>simp[ih]
theorem w9 {as bs:List AV} (h:eZ as bs):∀(j:Nat) (b:AV),bs[j]?=some b->∃a,as[j]?=some a/\ly a b:=by
 induction h with
 | nil=>intro j b hb;simp at hb
 | cons h _ ih=>
  intro j b hb
  cases j with
  | zero=>simp at hb;subst hb;exact⟨_,rfl,h⟩
  | succ j=>exact ih j b (by simpa using hb)
theorem Nq {as bs:List AV} (h:eZ as bs):∀b∈bs,∃a∈as,ly a b:=by
 intro b hb;obtain⟨j,hj⟩:=List.mem_iff_getElem?.1 hb;obtain⟨a,h1,h2⟩:=w9 h j b hj;exact⟨a,acS h1,h2⟩
theorem RV.s9 {X:Nat->Prop} {w:World} {ρ:Loc} {v:Value} {a b:AV} (h:RV X w ρ v a) (k:ly a b):RV X w ρ v b:=by
 cases k with
 | refl=>exact h
 | nil sz=>cases h;exact .ro ρ none 0 sz [] [] (acG _) (λe he=>by cases he) rfl (λj hj=>by simp at hj) (λj v a h1 _=>by simp at h1)
theorem RV.HZ {X:Nat->Prop} {w:World} {ρ:Loc} {v:Value} {a b:AV} (h:RV X w ρ v a) (k:mo a b):RV X w ρ v b:=by
 cases k with
 | one k=>exact h.s9 k
 | ro k=>
  cases h with
  | ro _ A c sz es vs hc au hlen hcell hrel=>
   rw[qj k];refine .ro ρ A c _ _ vs (by rw[<-qj k];exact hc) (λe he=>?_) (by rw[hlen,qj (B3 k)]) hcell (λj v b h1 h2=>?_)
   ·obtain⟨a,ha,hab⟩:=Nq k e he;rw[<-qj (B1 hab)];exact au a ha
   ·obtain⟨a,h3,h4⟩:=w9 (B3 k) j b h2
    exact(hrel j v a h1 h3).s9 h4
 | agg k=>
  cases h with
  | agg _ vs _ hlen hrel=>
   refine .agg ρ vs _ (by rw[hlen,qj k]) (λj v b h1 h2=>?_);obtain⟨a,h3,h4⟩:=w9 k j b h2;exact(hrel j v a h1 h3).s9 h4
theorem H6 {as bs:List AV} (h:nJ as bs):as.length=bs.length/\∀(j:Nat) (a:AV),as[j]?=some a->∃b,bs[j]?=some b/\mo a b:=by
 induction h with
 | nil=>exact⟨rfl,λj b hb=>by simp at hb⟩
 | cons h _ ih=>
  refine⟨by simp[ih.1],λj b hb=>?_⟩
  cases j with
  | zero=>simp at hb;subst hb;exact⟨_,rfl,h⟩
  | succ j=>exact ih.2 j b (by simpa using hb)
theorem H7 {as bs:List AV} (h:nJ as bs):∀(j:Nat) (b:AV),bs[j]?=some b->∃a,as[j]?=some a/\mo a b:=by
 induction h with
 | nil=>intro j b hb;simp at hb
 | cons h _ ih=>
  intro j b hb
  cases j with
  | zero=>simp at hb;subst hb;exact⟨_,rfl,h⟩
  | succ j=>exact ih j b (by simpa using hb)
theorem Gh {P:Program} {f:Nat} {h:HP} {as bs:List AV} {Post:HP->AV->List AV->Prop} (k:nJ as bs) (hs:Spec P f h bs Post):Spec P f h as Post:=by
 intro X0 ρ w vs h1 hA h2 h3 h4;have hl:=(H6 k).1;rw[hl]
 exact hs X0 ρ w vs h1 hA h2 (by rw[h3,hl]) (λj v b e1 e2=>by
  obtain⟨a,e3,e4⟩:=H7 k j b e2
  exact(h4 j v a e1 e3).HZ e4)
def Ah:AE->Bool
 | .t _=>true
 | .c v=>flA v
theorem HF {P:Program} {q:Bool} {st st':St} {f:Nat} {args:List AE} {K:AV->St->Prop} (hw:Wk st st') (hc:args.all Ah=true) (h:fb P q st' f args K):fb P q st f args K:=by
 intro E ρ a w vs hr au hrv;obtain⟨ρ',hr'⟩:=jK hw hr;refine h E ρ' a w vs hr' au (λj v x e1 e2=>⟨?_,(hrv j v x e1 e2).2⟩);obtain⟨g1,g2⟩:=hrv j v x e1 e2
 cases x with
 | t k=>
  obtain⟨g3,g4⟩:=g2 k rfl;have:=a6 hr' (.tmp k);simp only[trE,g3,if_true]at this;rw[g4]
  exact this
 | c c=>
  have:=acI.1 hc _ (acS e2);exact RV.flA (show RV _ w ρ v c from g1) this
theorem lE {P:Program} {q:Bool} {st:St} {f:Nat} {args:List AE} {as:List AV} {d:Option Nat} {r:List ROp} {K:KS} (st':St) (hw:Wk st st') (hc:args.all Ah=true) (h:iw P q st' f args (evL st' args) d r K):iw P q st f args as d r K:=by
 rintro rfl;exact HF hw hc (h (jo st' args))
end Go.Proofs.YtgghhaahnpbnmaaGreatDoor.Eng
namespace Go.Proofs.YtgghhaahnpbnmaaGreatDoor.Eng
def jQ (P:Program) (f n:Nat) (h:HP) (args:List AV) (Post:HP->AV->List AV->Prop):Prop:=
 ∀(X0:Nat->Prop) (ρ:Loc) (w:World) (vs:Array Value),cD X0 ρ h w->jO (aE ρ h) w->(∀b,X0 b->b<w.heap.size)->vs.size=args.length ->
  (∀(j:Nat) v x,vs[j]?=some v->args[j]?=some x->RV (XX X0 ρ h) w ρ v x) ->
  Calls P f (vs.extract 0 n) w λe w'=>∃v h' r ρ' as,e=.returned v/\Post h' r as/\cD X0 ρ' h' w'/\RV (XX X0 ρ' h') w' ρ' v r /\
   as.length=args.length/\(∀(j:Nat) v x,vs[j]?=some v->as[j]?=some x->RV (XX X0 ρ' h') w' ρ' v x) /\
   w'.os=w.os/\w'.tape=w.tape/\w'.output=w.output/\w.heap.size<=w'.heap.size/\(∀b,b<w.heap.size->¬aE ρ h b->w'.heap[b]?=w.heap[b]?) /\
   (∀b,aE ρ' h' b->w.heap.size<=b\/aE ρ h b)
def vd (n:Nat) (args:List AV):List (Nat×AV):=numbered 0 (args.take n)++numbered 2000000 args
theorem Zq {P:Program} {f:Nat} {fn:Func} {body:Code} {h:HP} {args:List AV} {Post:HP->AV->List AV->Prop} {c:AC} (hf:P.funcs[f]?=some fn) (hb:fn.body=some body) {B n:Nat} (hc:trCode P fn.ntmps B body=c)
    (hN:fn.ntmps<=1000000) (hn:n<=args.length) (ha:n<=fn.ntmps) (hp:∀E:Env,E.N=fn.ntmps->E.B=B->E.rd=none->bm P E c ⟨vd n args,h⟩ (postQ (fn.results.toList.map (trRes P)) args.length Post)):jQ P f n h args Post:=by
 intro X0 ρ w vs hh hA hX hvs hrv
 let E:Env:=⟨w,aE ρ h,X0,fn.ntmps,B,λk=>vs.getD (k-2000000) undef,none,w.heap.size,acG _,[]⟩
 refine(callsIn_wide (n:=0)).1 (callsIn_of_wp_marks hf hb trivial (wpIn_mono (hp E rfl rfl rfl 0 body hc _ w ⟨ρ,?_⟩) ?_))
 ·have hex:∀k,k<n->(vs.extract 0 n)[k]?=vs[k]?:=λk hk=>by
   rw[Array.getElem?_extract];simp;omega
  refine⟨fQ.nil _ _,by simp[E];omega,λk av hk=>?_,hh,λid W L b h1 h2 h3=>.inr ⟨id,W,L,h1,h2,h3⟩,⟨rfl,rfl,rfl,acG _,λ_ _ _=>rfl,hA⟩,hX⟩;simp only[vd,kh]at hk
  cases h0:sget (numbered 0 (args.take n)) k with
  | some av0=>
   rw[h0]at hk;obtain rfl:=Option.some.inj hk;obtain⟨_,h2⟩:=ki (args.take n) 0 k _ h0
   have hlt:k<n:=by
    have:=(List.getElem?_eq_some_iff.1 h2).1;simp at this;omega
   have h2:args[k]?=some av0:=by
    rw[ae3,List.getElem?_take_of_lt hlt]at h2;exact h2
   have hlt2:k<E.N:=by simp only[E];omega
   refine⟨.inl hlt2,?_⟩;have hv:vs[k]?=some (vs[k]' acB):=Array.getElem?_eq_getElem _;unfold aP;rw[if_pos hlt2,acO,Array.getElem?_append_left (by simp;omega),hex k hlt,hv]
   exact hrv k _ _ hv h2
  | none=>
   rw[h0]at hk;obtain⟨h1,h2⟩:=ki args 2000000 k av hk;have hlt:k-2000000<args.length:=(List.getElem?_eq_some_iff.1 h2).1;refine⟨.inr h1,?_⟩;have hv:vs[k-2000000]?=some (vs[k-2000000]' acB):=Array.getElem?_eq_getElem _;unfold aP;rw[if_neg (by simp only[E];omega)];simp only[E,acO,hv];exact hrv _ _ av hv h2
 ·rintro e a' w' ⟨st',⟨ρ',g0⟩,q⟩
  have fin:∀r,resOf st' (fn.results.toList.map (trRes P))=some r->Post st'.h r (argsAgain st' 0 args.length)->bodyPostM Fence.wide 0 P fn (λe w'=>∃v h' r ρ' as,e=.returned v/\Post h' r as/\cD X0 ρ' h' w'/\RV (XX X0 ρ' h') w' ρ' v r /\
   as.length=args.length/\(∀(j:Nat) v x,vs[j]?=some v->as[j]?=some x->RV (XX X0 ρ' h') w' ρ' v x) /\
   w'.os=w.os/\w'.tape=w.tape/\w'.output=w.output/\w.heap.size<=w'.heap.size/\(∀b,b<w.heap.size->¬aE ρ h b->w'.heap[b]?=w.heap[b]?) /\
   (∀b,aE ρ' h' b->w.heap.size<=b\/aE ρ h b)) .ret a' w':=by
   intro r hr hP;obtain⟨⟨Ds,hDs⟩,_⟩:=g0.defers
   show LeavesInM Fence.wide 0 P fn a'.tmps _ a'.defers .returning w'
   rw[hDs];refine jA (E:=E) (ρ:=ρ') (st:=st') (a:=a') (by simp) (λw' g=>?_) rfl rfl Ds w' (by rw[<-hDs];exact g0);obtain⟨v,g1,g2⟩:=uQ (P:=P) g hr;refine⟨v,g1,v,st'.h,r,ρ',_,rfl,hP,g.heap,g2,mA _ _ _,λj v x e1 e2=>?_,g.ai.os,g.ai.tape,g.ai.output,g.ai.size,g.ai.block,λb ⟨id,W,L,h1,h2,h3⟩=>g.base id W L b h1 h2 h3⟩;have:=pM st' _ _ j x e2;rw[adr]at this
   cases hs:sget st'.s (2000000+j)with
   | none=>rw[hs]at this;subst this;exact .undef _ _
   | some av=>
    rw[hs]at this;obtain rfl:x=av:=this;have hr2:=(g.aM _ _ hs).2;unfold aP at hr2;rw[if_neg (by simp only[E];omega)]at hr2;simp only[E,adv,acO,e1]at hr2;exact hr2
  cases e with
  | normal=>obtain⟨r,hr,hP⟩:=q;exact fin r hr hP
  | ret=>obtain⟨r,hr,hP⟩:=q;exact fin r hr hP
  | exit id=>exact q.elim
  | goto l=>exact q.elim
  | panic ch=>exact q.elim
  | outgrown=>exact q.elim
theorem Zr {P:Program} {f n:Nat} {h:HP} {args:List AV} {Post:HP->AV->List AV->Prop}
    (hs:jQ P f n h args (λh' r as=>∃h2 r2 as2,as2.length=as.length/\Wk ⟨(0,r)::numbered 1 as,h'⟩ ⟨(0,r2)::numbered 1 as2,h2⟩/\Post h2 r2 as2)):jQ P f n h args Post:=by
 intro X0 ρ w vs h1 hA h2 h3 h4;refine(hs X0 ρ w vs h1 hA h2 h3 h4).mono ?_;rintro e w' ⟨v,h',r,ρ',as,rfl,⟨h2',r2,as2,hlen,hwk,hP⟩,g3,g4,g5,g6,g7,g8,g9,g10,g11,g12⟩
 let E:Env:=⟨w',λb=>w.heap.size<=b\/aE ρ h b,X0,vs.size+1,0,λ_=>undef,none,0,ac5 _,[]⟩
 let a:Act:={tmps:=#[v]++vs,defers:=[]}
 have hsv:∀j,j<vs.size->aP E a (1+j)=vs.getD j undef:=by
  intro j hj;unfold aP;rw[if_pos (show 1+j<vs.size+1 by omega)];simp only[a,acO];rw[Array.getElem?_append_right (by simp)];simp
 have hr:af E ρ' ⟨(0,r)::numbered 1 as,h'⟩ a w':=by
  refine⟨fQ.nil _ _,by simp[a,E];omega,λk av hk=>?_,g3,λid W L b e1 e2 e3=>.inr (g12 b ⟨id,W,L,e1,e2,e3⟩),⟨rfl,rfl,rfl,acG _,λ_ _ _=>rfl,hA.1.stays (λb _ _ _ hb _=>g11 b (hA.1.lt hb) (hA.2 b hb)),λb hb hx=>hx.elim (λg=>by have:=hA.1.lt hb;omega) (hA.2 b hb)⟩,λb hb=>acR (h2 b hb) g10⟩;simp only[sget]at hk;split at hk
  ·rename_i e;subst e;obtain rfl:=Option.some.inj hk;refine⟨.inl (show 0<vs.size+1 by omega),?_⟩
   have:aP E a 0=v:=by
    unfold aP;rw[if_pos (show 0<vs.size+1 by omega)];simp only[a];exact tx v vs
   rw[this];exact g4
  ·obtain⟨e1,e2⟩:=ki as 1 k av hk;have hlt:=(List.getElem?_eq_some_iff.1 e2).1;obtain⟨j,rfl⟩:∃j,k=1+j:=⟨k-1,acB⟩;have hj:j<vs.size:=acB;refine⟨.inl (show 1+j<vs.size+1 by omega),?_⟩;rw[hsv j hj];have hv:vs[j]?=some (vs.getD j undef):=by rw[acO,Array.getElem?_eq_getElem hj];rfl
   exact g6 j _ av hv (by rw[adv]at e2;exact e2)
 obtain⟨ρ2,hr2⟩:=jK hwk hr;refine⟨v,h2',r2,ρ2,as2,rfl,hP,hr2.heap,?_,acB,λj u x e1 e2=>?_,g7,g8,g9,g10,g11,λb ⟨id,W,L,e1,e2,e3⟩=>?_⟩
 ·have:=(hr2.aM 0 r2 (by simp[sget])).2
  have e:aP E a 0=v:=by
   unfold aP;rw[if_pos (show 0<vs.size+1 by omega)];simp only[a];exact tx v vs
  rw[e]at this;exact this
 ·have hj:=(Array.getElem?_eq_some_iff.1 e1).1
  have hs2:sget ((0,r2)::numbered 1 as2) (1+j)=some x:=by
   simp only[sget];rw[if_neg acB];exact o7 as2 1 j x e2
  have:=(hr2.aM (1+j) x hs2).2;rw[hsv j hj,acO,e1]at this;exact this
 ·rcases hr2.base id W L b e1 e2 e3 with g | g;exact .inl (adt g10 g);exact g
def fltB (b:Bool) (k:Nat) (v:AV) (r:List (Nat×AV)):List (Nat×AV):=
 match b with
 | true=>(k,v)::r
 | false=>r
def fltO (o:Option AV) (k:Nat) (r:List (Nat×AV)):List (Nat×AV):=
 match o with
 | some v=>fltB (flA v) k v r
 | none=>r
def fltS (s0:List (Nat×AV)):List (Nat×AV)->List (Nat×AV)
 | []=>[]
 | (k,_)::r=>fltO (sget s0 k) k (fltS s0 r)
def getL (s:List (Nat×AV)):List Nat->List AV
 | []=>[]
 | k::r=>(sget s k).getD .undef::getL s r
def zipS:List Nat->List AV->List (Nat×AV)
 | k::ks,v::vs=>(k,v)::zipS ks vs
 | _,_=>[]
theorem CP (s:List (Nat×AV)):∀ks,(getL s ks).length=ks.length
 | []=>rfl
 | k::r=>by simp[getL,CP s r]
theorem CO (s:List (Nat×AV)):∀(ks:List Nat) (j k:Nat),ks[j]?=some k->(getL s ks)[j]?=some ((sget s k).getD .undef)
 | [],j,k,h=>by simp at h
 | q::r,0,k,h=>by simp at h;subst h;rfl
 | q::r,j+1,k,h=>by simpa[getL]using CO s r j k (by simpa using h)
theorem Hh:∀{ks:List Nat} {vs:List AV} {k:Nat} {v:AV},sget (zipS ks vs) k=some v->∃j:Nat,ks[j]?=some k/\vs[j]?=some v
 | [],vs,k,v,h=>by simp[zipS,sget]at h
 | q::ks,[],k,v,h=>by simp[zipS,sget]at h
 | q::ks,u::vs,k,v,h=>by
  simp only[zipS,sget]at h;split at h
  ·rename_i e;obtain rfl:=Option.some.inj h;exact⟨0,by rw[e];rfl,rfl⟩
  ·obtain⟨j,h1,h2⟩:=Hh h;exact⟨j+1,by simpa using h1,by simpa using h2⟩
theorem tq {s0:List (Nat×AV)}:∀{s:List (Nat×AV)} {k:Nat} {v:AV},sget (fltS s0 s) k=some v->sget s0 k=some v/\flA v=true
 | [],k,v,h=>by simp[fltS,sget]at h
 | (q,u)::s,k,v,h=>by
  unfold fltS at h
  cases hq:sget s0 q with
  | none=>rw[hq]at h;exact tq (s:=s) h
  | some x=>
   rw[hq]at h;simp only[fltO]at h
   cases hu:flA x with
   | true=>
    rw[hu]at h;simp only[fltB,sget]at h;split at h
    ·rename_i e;subst e;obtain rfl:=Option.some.inj h;exact⟨hq,hu⟩
    ·exact tq h
   | false=>
    rw[hu]at h;exact tq (s:=s) h
def pJ (st:St) (ks:List Nat) (h':HP) (gs:List AV):St:=⟨zipS ks gs++fltS st.s st.s,h'⟩
theorem Hv {P:Program} {st:St} {f:Nat} {args:List AE} {K:AV->St->Prop} {Post:HP->AV->List AV->Prop} (ks:List Nat) (hks:ks.all (λk=>(sget st.s k).isSome)=true)
    (hs:jQ P f args.length st.h (args.map (ev st)++getL st.s ks) Post)
    (hK:∀h' r as,Post h' r as->K r (pJ st ks h' (as.drop args.length))):fb P false st f args K:=by
 intro E ρ a w vs h hvs hrv
 let us:Array Value:=(ks.map (aP E a)).toArray
 have hus:us.size=ks.length:=by simp[us]
 have hex:(vs++us).extract 0 args.length=vs:=by
  rw[<-hvs];simp
 have:=hs E.X0 ρ w (vs++us) h.heap h.cn h.x0 (by simp[hvs,hus,CP]) (λj v x e1 e2=>?_)
 ·rw[hex]at this;refine this.mono ?_;rintro e w' ⟨v,h',r,ρ',as,rfl,hP,hH,hr,hal,has,q1,q2,q3,q4,q5,q6⟩;refine⟨v,ρ',pJ st ks h' (as.drop args.length),r,rfl,⟨h.defers.turn (λb hb=>q5 b (Array.getElem?_eq_some_iff.1 hb).1 (λhx=>j8 h.heap hb hx)),h.size,λk av hk=>?_,hH,λid W L b e1 e2 e3=>?_,?_,λb hb=>acR (h.x0 b hb) q4⟩,hr,hK h' r as hP,λhq=>by cases hq⟩
  ·simp only[pJ,kh]at hk
   cases hz:sget (zipS ks (as.drop args.length)) k with
   | some av1=>
    rw[hz]at hk;obtain rfl:av1=av:=Option.some.inj hk;obtain⟨j,g1,g2⟩:=Hh hz;have hk1:=acI.1 hks k (acS g1);obtain⟨av0,hav0⟩:=adX.1 hk1;refine⟨(h.aM k av0 hav0).1,?_⟩;rw[List.getElem?_drop]at g2;refine has (args.length+j) (aP E a k) av1 ?_ g2;rw[Array.getElem?_append_right acB,hvs,adv]
    simp[us,g1]
   | none=>
    rw[hz,ad2]at hk;obtain⟨g1,g2⟩:=tq hk;exact⟨(h.aM k av g1).1,(h.aM k av g1).2.flA g2⟩
  ·rcases q6 b ⟨id,W,L,e1,e2,e3⟩with g | ⟨id',W',L',f1,f2,f3⟩;exact .inl (adt h.ai.size g);exact h.base id' W' L' b f1 f2 f3
  ·refine⟨q1.trans h.ai.os,q2.trans h.ai.tape,q3.trans h.ai.output,adt h.ai.size q4,λb hb hF=>(q5 b (acR hb h.ai.size) ?_).trans (h.ai.block b hb hF),h.ai.cn⟩;rintro⟨id',W',L',f1,f2,f3⟩;rcases h.base id' W' L' b f1 f2 f3 with g | g;omega
   exact hF g
 ·by_cases hj:j<args.length
  ·rw[Array.getElem?_append_left acB]at e1;rw[List.getElem?_append_left (by simpa using hj),List.getElem?_map]at e2;obtain⟨y,g1,rfl⟩:=acE.1 e2;exact(hrv j v y e1 g1).1
  ·rw[Array.getElem?_append_right acB,hvs]at e1;rw[List.getElem?_append_right (by simpa using hj),acY]at e2;simp only[us,List.getElem?_toArray,List.getElem?_map]at e1;obtain⟨k,g1,rfl⟩:=acE.1 e1;rw[CO _ _ _ _ g1]at e2;obtain rfl:=Option.some.inj e2;obtain⟨av0,hav0⟩:=adX.1 (acI.1 hks k (acS g1));rw[hav0];exact(h.aM k av0 hav0).2
section
variable {P:Program} {st:St} {f n:Nat} {args:List AE} {as bs:List AV} {d:Option Nat} {r:List ROp} {K:KS} {Post:HP->AV->List AV->Prop}
theorem A8 (ks:List Nat) (hks:ks.all (λk=>(sget st.s k).isSome)=true) (hb:as++getL st.s ks=bs) (hn:args.length=n) (hs:jQ P f n st.h bs Post)
    (h:∀h' v as',Post h' v as'->aopsW P r (put (pJ st ks h' (as'.drop n)) d v) K):iw P false st f args as d r K:=by
 rintro rfl;subst hb;subst hn;exact Hv ks hks hs h
end
theorem OE (s0:List (Nat×AV)):fltS s0 []=[]:=(rfl)
theorem OD (s0:List (Nat×AV)) (k:Nat) (v:AV) (r:List (Nat×AV)):fltS s0 ((k,v)::r)=fltO (sget s0 k) k (fltS s0 r):=(rfl)
theorem OC (v:AV) (k:Nat) (r:List (Nat×AV)):fltO (some v) k r=fltB (flA v) k v r:=(rfl)
theorem OB (v:AV) (k:Nat) (r:List (Nat×AV)):fltB true k v r=(k,v)::r:=(rfl)
theorem OA (v:AV) (k:Nat) (r:List (Nat×AV)):fltB false k v r=r:=(rfl)
theorem Pc (s:List (Nat×AV)):getL s []=[]:=(rfl)
theorem Pb (s:List (Nat×AV)) (k:Nat) (r:List Nat):getL s (k::r)=(sget s k).getD .undef::getL s r:=(rfl)
theorem ack (vs:List AV):zipS [] vs=[]:=(rfl)
theorem acj (k:Nat) (ks:List Nat) (v:AV) (vs:List AV):zipS (k::ks) (v::vs)=(k,v)::zipS ks vs:=(rfl)
theorem H3 (st:St) (ks:List Nat) (h':HP) (gs:List AV):pJ st ks h' gs=⟨zipS ks gs++fltS st.s st.s,h'⟩:=(rfl)
attribute [go_sem] OE OD OC OB OA Pc Pb ack acj H3
end Go.Proofs.YtgghhaahnpbnmaaGreatDoor.Eng
namespace Go.Proofs.YtgghhaahnpbnmaaGreatDoor.Eng
namespace Kz
abbrev m (d k:Nat):ROp:=.v d (.fZ (.t k))
abbrev k (d:Nat) (x:AE):ROp:=.v d (.fZ x)
abbrev b (d:Nat) (op:BinOp) (x y:Nat):ROp:=.v d (.bin op (.t x) (.t y))
abbrev u (id d:Nat) (o:AO):ROp:=.val d true id o
end Kz
section
variable {P:Program} {E:Env} {st:St} {Q:KQ}
theorem abg {pre post:List ROp} {o:ROp} {ks:List Nat}:vcW P E (.fx pre o post ks) Q st=aopsW P pre st (KS.sY P o post ks Q):=(rfl)
theorem abh {pre ck post:List ROp} {o o2:ROp} {ks:List Nat}:vcW P E (.oZ pre o ck o2 post ks) Q st=aopsW P pre st (KS.BP P o ck o2 post ks Q):=(rfl)
theorem aa8 {p x y:List ROp} {ks:List Nat}:vcW P E (.alt p x y ks) Q st=aopsW P p st (KS.alt P x y ks Q):=(rfl)
theorem aa9 {T:RT} {ks:List Nat}:vcW P E (.fB T ks) Q st=jF P T st (KS.bQ ks Q):=(rfl)
theorem abn {ops:List ROp} {d f bk p q0:Nat} {x:AE} {c:UInt8} {body:AK}:vcW P E (.split ops d f x c bk p q0 body) Q st=aopsW P ops st (KS.Gi P E d f x c bk p q0 body Q):=(rfl)
theorem aba {ops:List ROp} {d f kx bk p1 p q0:Nat} {body:AK}:vcW P E (.back ops d f kx bk p1 p q0 body) Q st=aopsW P ops st (KS.Aw P E d f kx bk p1 p q0 body Q):=(rfl)
end
attribute [go_sem] abl G0 abc abb abg abh aa8 abn aba aa9 Yl Ym Tu
def fnChk (P:Program) (fn:Func) (B p:Nat):Option (AC×List RVar):=
 match fn.body with
 | some b=>bif Nat.ble fn.ntmps 1000000&&Nat.ble p fn.ntmps then some (trCode P fn.ntmps B b,fn.results.toList.map (trRes P))else none
 | none=>none
def gS (P:Program) (f B p:Nat) (x:AK) (rs:List RVar):Prop:=∃fn,P.funcs[f]?=some fn/\fnChk P fn B p=some (x.erase B,rs)
theorem gS.out {P:Program} {f B p:Nat} {x:AK} {rs:List RVar} (h:gS P f B p x rs):∃fn body,P.funcs[f]?=some fn/\fn.body=some body/\trCode P fn.ntmps B body=x.erase B/\fn.results.toList.map (trRes P)=rs/\fn.ntmps<=1000000/\p<=fn.ntmps:=by
 obtain⟨fn,h1,h2⟩:=h;unfold fnChk at h2;split at h2
 ·rename_i body hb
  cases hc:(Nat.ble fn.ntmps 1000000&&Nat.ble p fn.ntmps)with
  | false=>rw[hc]at h2;cases h2
  | true=>
   rw[hc]at h2;have h3:=Option.some.inj h2
   injection h3 with h4 h5
   simp only[acN,Nat.ble_eq]at hc;exact⟨fn,body,h1,hb,h4,h5,hc.1,hc.2⟩
 ·cases h2
def gu (P:Program) (x:AK) (rs:List RVar) (p:Nat) (s:List (Nat×AV)) (h:HP) (Post:HP->AV->List AV->Prop):Prop:=
 ∀(E:Env) (R:HP->AV->List AV->Prop),E.N<=1000000->cM Post R->vcW P E x (KQ.post rs p R) ⟨s,h⟩
def nM (P:Program) (x:AK) (rs:List RVar) (p:Nat) (s:List (Nat×AV)) (h:HP) (Post:HP->AV->List AV->Prop):Prop:=
 ∀(E:Env) (R:HP->AV->List AV->Prop),E.N<=1000000->E.rd=none->cM Post R->vcW P E x (KQ.post rs p R) ⟨s,h⟩
def rW (P:Program) (x:AK) (V:Value) (s:List (Nat×AV)) (h:HP):Prop:=∀(E:Env),E.N<=1000000->vcW P E x (KQ.dies V) ⟨s,h⟩
def zN (P:Program) (x:AK) (k:Nat) (y:AK) (p:Nat) (rs:List RVar) (V:Value) (q:IntKind) (z:Int) (s:List (Nat×AV)) (h:HP) (Post:HP->AV->List AV->Prop):Prop:=
 ∀(E:Env) (R:HP->AV->List AV->Prop),E.N<=1000000->cM Post R->vcW P E x (KQ.cS P k p y rs V (.int q z) R) ⟨s,h⟩
section
variable {P:Program} {f B p:Nat} {x:AK} {rs:List RVar} {h:HP} {args:List AV} {Post:HP->AV->List AV->Prop}
theorem rB (hf:gS P f B p x rs) (hl:args.length=p) (s:List (Nat×AV)) (hs:dA (fN args) s) (hp:nM P x rs p s h Post):Spec P f h args Post:=by
 obtain⟨fn,body,h1,h2,h3,h4,h5,h6⟩:=hf.out;refine zb (ZB h1 h2 h3 h5 acB (λE hE hB hrd=>?_));have hN:E.N<=1000000:=by rw[hE];exact h5
 rw[h4,<-hB,hl];exact pO s hs (dV hN _ (hp E _ hN hrd tf))
theorem jc (hf:gS P f B p x rs) (hl:args.length=p) (s:List (Nat×AV)) (hs:dA (fN args) s) (hp:gu P x rs p s h Post):Spec P f h args Post:=
 rB hf hl s hs (λE R h1 _ h2=>hp E R h1 h2)
theorem za {V:Value} (hf:gS P f B p x rs) (hl:args.length=p) (s:List (Nat×AV)) (hs:dA (fN args) s) (hp:rW P x V s h):eA P f h args V:=by
 obtain⟨fn,body,h1,h2,h3,h4,h5,h6⟩:=hf.out;exact Zt h1 h2 h3 h5 acB s hs hp
theorem Zv {g k:Nat} {x y:AK} {V:Value} {t:TypeId} {q:IntKind} {z:Int} (hf:gS P f B p (.seq x (.seq (.cS g [.t k]) y)) rs) (hl:args.length=p) (hG:pC P g V t (.int q z)) (ht:bP P t=some 1)
    (s:List (Nat×AV)) (hs:dA (fN args) s) (hp:zN P x k y p rs V q z s h Post):Spec P f h args Post:=by
 obtain⟨fn,body,h1,h2,h3,h4,h5,h6⟩:=hf.out;refine ZA h1 h2 h3 h5 acB hG ht h4 s hs (λE R e1 e2=>?_);rw[hl];exact hp E R e1 e2
theorem Zx {n:Nat} (hf:gS P f B n x rs) (hl:n<=args.length) (s:List (Nat×AV)) (hs:dA (vd n args) s) (hp:nM P x rs args.length s h Post):jQ P f n h args Post:=by
 obtain⟨fn,body,h1,h2,h3,h4,h5,h6⟩:=hf.out;refine Zr (Zq h1 h2 h3 h5 hl acB (λE hE hB hrd=>?_));have hN:E.N<=1000000:=by rw[hE];exact h5
 rw[h4,<-hB];exact pO s hs (dV hN _ (hp E _ hN hrd tf))
theorem Zw {n:Nat} (hf:gS P f B n x rs) (hl:n<=args.length) (s:List (Nat×AV)) (hs:dA (vd n args) s) (hp:gu P x rs args.length s h Post):jQ P f n h args Post:=
 Zx hf hl s hs (λE R h1 _ h2=>hp E R h1 h2)
end
end Go.Proofs.YtgghhaahnpbnmaaGreatDoor.Eng
namespace Go.Proofs.YtgghhaahnpbnmaaGreatDoor.Eng
def pH (P:Program) (g:Nat) (h:HP) (args:List AV) (V:Value) (h':HP):Prop:=
 ∀(X0:Nat->Prop) (ρ:Loc) (w:World) (vs:Array Value),cD X0 ρ h w->jO (aE ρ h) w->(∀b,X0 b->b<w.heap.size)->vs.size=args.length ->
  (∀(j:Nat) v x,vs[j]?=some v->args[j]?=some x->RV (XX X0 ρ h) w ρ v x) ->
  CallsDIn Fence.wide 0 P g vs (.panicking (bC V)) w λe u' w'=>(∃v,e=.returned v)/\u'=.panicking [{v:=V,recovered:=true}]/\∃ρ',cD X0 ρ' h' w' /\
   (∀(j:Nat) v x,vs[j]?=some v->args[j]?=some x->RV (XX X0 ρ' h') w' ρ' v x) /\
   w'.os=w.os/\w'.tape=w.tape/\w'.output=w.output/\w.heap.size<=w'.heap.size/\(∀b,b<w.heap.size->¬aE ρ h b->w'.heap[b]?=w.heap[b]?) /\
   (∀b,aE ρ' h' b->w.heap.size<=b\/aE ρ h b)
def lz (P:Program) (g k:Nat):Prop:=∀(vs:Array Value) (w:World),vs.size=k->CallsDIn Fence.wide 0 P g vs .returning w λe u' w'=>(∃v,e=.returned v)/\u'=.returning/\w'=w
def ghL:Nat->Nat->List AE
 | _,0=>[]
 | j,k+1=>.t j::ghL (j+1) k
def xC (m k:Nat):List AE:=ghL (2000000+m) k
theorem CT:∀k j,(ghL j k).length=k
 | 0,_=>rfl
 | k+1,j=>by simp[ghL,CT k]
theorem CS:∀k j i,i<k->(ghL j k)[i]?=some (.t (j+i))
 | 0,_,_,h=>by omega
 | k+1,j,0,_=>rfl
 | k+1,j,i+1,h=>by
  simp only[ghL,List.getElem?_cons_succ];rw[CS k (j+1) i acB,show j+1+i=j+(i+1)by omega]
def fW (st:St) (m k:Nat):List AV:=evL st (xC m k)
def lB (st:St) (m k:Nat) (h0 h':HP):St:=gU st h0 ((fW st m k).map .c) h' (fW st m k)
def CX (P:Program) (rs:List RVar) (m k g:Nat) (R:HP->AV->List AV->Prop):Exit->St->Prop
 | .normal,st | .ret,st=>∃r,resOf st rs=some r/\R st.h r (argsAgain st 0 m)
 | .panic ch,st=>∃V h0 h',ch=bC V/\pH P g h0 (fW st m k) V h'/\jw h' h'=true/\(∀i W,hget h0 i=some W->hget st.h i=some W) /\
     ∃r,resOf (lB st m k h0 h') rs=some r/\R (lB st m k h0 h').h r (argsAgain (lB st m k h0 h') 0 m)
 | _,_=>False
def seqA:List AC->AC->AC
 | [],y=>y
 | x::xs,y=>.seq x (seqA xs y)
def uJ (P:Program) (E:Env):List AC->(Exit->St->Prop)->St->Prop
 | [],Q,st=>Q .normal st
 | x::xs,Q,st=>bm P E x st (km (uJ P E xs Q) Q)
def wS (P:Program) (N B:Nat) (rs:List RVar) (m g d:Nat) (caps:List AE) (c1:AC) (R:HP->AV->List AV->Prop):Exit->St->Prop
 | .normal,st=>∀E':Env,E'.N=N->E'.B=B->E'.rd=none->bm P E' c1 ⟨numbered (2000000+m) (evL st caps)++(d,.undef)::st.s,st.h⟩ (CX P rs m caps.length g R)
 | .ret,st=>∃r,resOf st rs=some r/\R st.h r (argsAgain st 0 m)
 | _,_=>False
theorem Yq {o:Oper} {f:Nat} {cap:Array Operand} (ho:o.op=.makeFunc (.func f) #[] cap) (a:Act) (P:Program) (w:World):(execOp a.eval o).run P w=.ok (.value (.func (.func f) #[] (cap.map a.eval))) w:=by
 simp[execOp,ho,Instr.makeFunc]
theorem Zz {P:Program} {f g d:Nat} {fn:Func} {body:Code} {h:HP} {args:List AV} {Post:HP->AV->List AV->Prop} {pre:List AC} {c1:AC} {caps:List AE} (hf:P.funcs[f]?=some fn) (hb:fn.body=some body) {B:Nat}
    (hc:trCode P fn.ntmps B body=seqA pre (.seq (.cS g (.c (.ab [.int .i64 (d:Int)])::caps)) c1)) (hN:fn.ntmps<=1000000) (ha:args.length<=fn.ntmps) (hd:d<fn.ntmps) (hI:lz P g caps.length)
    (hp:∀E:Env,E.N=fn.ntmps->E.B=B->E.rd=none->uJ P E pre (wS P fn.ntmps B (fn.results.toList.map (trRes P)) args.length g d caps c1 Post) ⟨fN args,h⟩):Spec P f h args Post:=by
 intro X0 ρ w vs hh hA hX hvs hrv
 let gv0:Nat->Value:=λk=>vs.getD (k-2000000) undef
 let E0:Env:=⟨w,aE ρ h,X0,fn.ntmps,B,gv0,none,w.heap.size,acG _,[]⟩
 let RR:Ending->World->Prop:=λe w'=>∃v h' r ρ' as,e=.returned v/\Post h' r as/\cD X0 ρ' h' w'/\RV (XX X0 ρ' h') w' ρ' v r /\
     as.length=args.length/\(∀(j:Nat) v x,vs[j]?=some v->as[j]?=some x->RV (XX X0 ρ' h') w' ρ' v x) /\
     w'.os=w.os/\w'.tape=w.tape/\w'.output=w.output/\w.heap.size<=w'.heap.size/\(∀b,b<w.heap.size->¬aE ρ h b->w'.heap[b]?=w.heap[b]?) /\
     (∀b,aE ρ' h' b->w.heap.size<=b\/aE ρ h b)
 have fin0:∀(E:Env) (ρ':Loc) (st'':St) (a':Act) (w'':World),E.w0=w->E.F=aE ρ h->E.X0=X0->E.N=fn.ntmps->(∀j,j<args.length->E.gv (2000000+j)=gv0 (2000000+j))->af E ρ' st'' a' w'' ->
     (∃r,resOf st'' (fn.results.toList.map (trRes P))=some r/\Post st''.h r (argsAgain st'' 0 args.length))->∃v,(results fn a'.tmps).run P w''=.ok v w''/\RR (.returned v) w'':=by
  rintro E ρ' st'' a' w'' e1 e2 e3 e4 e5 g ⟨r,hr,hP⟩;obtain⟨v,q1,q2⟩:=uQ (P:=P) g hr;have gx:=g.heap;rw[e3]at gx q2
  refine⟨v,q1,v,st''.h,r,ρ',_,rfl,hP,gx,q2,mA _ _ _,λj v x g1 g2=>?_,by rw[g.ai.os,e1],by rw[g.ai.tape,e1],by rw[g.ai.output,e1],by have:=g.ai.size;rwa[e1]at this,λb hb hF=>by
   have:=g.ai.block b (by rw[e1];exact hb) (by rw[e2];exact hF)
   rwa[e1]at this,λb ⟨id,W,L,h1,h2,h3⟩=>by have:=g.base id W L b h1 h2 h3;rwa[e1,e2]at this⟩
  have hjl:j<args.length:=by
   have:=(List.getElem?_eq_some_iff.1 g2).1
   rwa[mA]at this
  have:=pM st'' _ _ j x g2;rw[adr]at this
  cases hs:sget st''.s (2000000+j)with
  | none=>rw[hs]at this;subst this;exact .undef _ _
  | some av=>
   rw[hs]at this;obtain rfl:x=av:=this;have hr2:=(g.aM _ _ hs).2;unfold aP at hr2;rw[if_neg (by rw[e4];omega),e5 j hjl,e3]at hr2;simp only[gv0,adv,acO,g1]at hr2;exact hr2
 have key:∀(pre:List AC) (body:Code) (st1:St) (ρ1:Loc) (a1:Act) (w1:World),trCode P fn.ntmps B body=seqA pre (.seq (.cS g (.c (.ab [.int .i64 (d:Int)])::caps)) c1)->af E0 ρ1 st1 a1 w1 ->
     uJ P E0 pre (wS P fn.ntmps B (fn.results.toList.map (trRes P)) args.length g d caps c1 Post) st1->body.wpIn Fence.wide 0 P (bodyPostM Fence.wide 0 P fn RR) a1 w1:=by
  intro pre
  induction pre with
  | cons x xs ih=>
   intro body st1 ρ1 a1 w1 hc g1 hp;obtain⟨b0,b',rfl,h0,hb'⟩:=vq hc;refine wpIn_seq (wpIn_mono (hp 0 b0 h0 a1 w1 ⟨ρ1,g1⟩) ?_);rintro e a' w' ⟨st',⟨ρ',g'⟩,q⟩
   cases e with
   | normal=>exact ih b' st' ρ' a' w' hb' g' q
   | ret=>
    show LeavesInM Fence.wide 0 P fn a'.tmps _ a'.defers .returning w'
    obtain⟨⟨Ds,hDs⟩,_⟩:=g'.defers;rw[hDs];refine jA (E:=E0) (ρ:=ρ') (st:=st') (a:=a') (by simp) (λw' gg=>?_) rfl rfl Ds w' (by rw[<-hDs];exact g');obtain⟨v,q1,q2⟩:=fin0 E0 ρ' st' _ w' rfl rfl rfl rfl (λ_ _=>rfl) gg q
    exact⟨v,q1,q2⟩
   | exit id=>exact q.elim
   | goto l=>exact q.elim
   | panic ch=>exact q.elim
   | outgrown=>exact q.elim
  | nil=>
   intro body st1 ρ1 a1 w1 hc g1 hp;obtain⟨bd,b1,rfl,hbd,h1⟩:=vq hc;obtain⟨id,ops,draw,o1,o2,cap,cl,rfl,hops,ho1,hg1,hd1,ho2,hg2,hd2,hcl,hca,hcal,hcaps,hdraw⟩:=aaC hbd
   have hoa:ops=#[o1,o2]:=by
    apply Array.toList_inj.1;simpa using hops
   let us:Array Value:=cap.map a1.eval
   have husz:us.size=caps.length:=by rw[hcaps];simp[us]
   let dd:Deferred:={target:=.fn (.func g) us,args:=#[]}
   let a2:Act:=a1.put (some d) (.func (.func g) #[] us)
   let a3:Act:={a2 with defers:=dd::a2.defers}
   have hev2:a2.eval (.tmp d)=.func (.func g) #[] us:=by
    show(a1.put (some d) (.func (.func g) #[] us)).tmps.getD d undef=_
    rw[qv a1 d d _ (by rw[g1.size];exact hd),if_pos rfl]
   have region:∀(Q:Exit->Act->World->Prop),(∀w2,az w1 w2->Q .normal a3 w2)->(Code.region id ops draw).wpIn Fence.wide 0 P Q a1 w1:=by
    intro Q hQ;have r1:∀w2,(execOp a1.eval o1).run P w2=.ok (.value (.func (.func g) #[] us)) w2:=λw2=>Yq ho1 a1 P w2
    have r2:∀w2,(execOp a2.eval o2).run P w2=.ok (.defer dd) w2:=by
     intro w2;unfold execOp;simp[ho2,resolve,hcl,hev2,Deferred.ofValue,hca,dd]
    have s1:∀w2 (next:Act->World->Prop),next a2 w2->o1.wpIn Fence.wide 0 P a1 w2 next Q:=by
     intro w2 next hn
     refine⟨λ_ _=>trivial,?_⟩;rw[show Fence.wide.round=none from rfl,Oper.semAt_none,r1]
     show next (a1.put o1.dst _) w2
     rw[hd1];exact hn
    have s2:∀w2 (next:Act->World->Prop),next a3 w2->o2.wpIn Fence.wide 0 P a2 w2 next Q:=by
     intro w2 next hn
     refine⟨λ_ _=>trivial,?_⟩;rw[show Fence.wide.round=none from rfl,Oper.semAt_none,r2]
     show next (({a2 with defers:=dd::a2.defers}:Act).put o2.dst undef) w2
     rw[hd2];exact hn
    have hw:∀(o:Oper) (l:Nat->Option Bool),o.guard=none->Region.wanted o l=true:=by
     intro o l h;simp[Region.wanted,h]
    cases draw with
    | false=>
     refine wpIn_region_list ?_;rw[hops]
     exact wpListIn_plain hg1 (λnext hnext=>s1 _ _ (hnext _ _ (wpListIn_plain hg2 (λnext hnext=>s2 _ _ (hnext _ _ (hQ w1 (az.refl w1)))))))
    | true=>
     obtain⟨hm,e0,e1,e2⟩:=hdraw rfl;subst hoa;refine wpIn_region_any hm ?_;have hs:az w1 {w1 with drawn:=w1.drawn+1}:=az.drew w1;refine⟨λe=>?_,λi hi=>?_⟩
     ·have:Region.ready .any #[o1,o2] #[false,false]=[]:=e;rw[e0]at this;cases this
     ·have hi':i∈Region.ready .any #[o1,o2] #[false,false]:=hi;rw[e0,ac0]at hi';subst hi';unfold wpOpIn;simp only[List.getElem?_toArray,List.getElem?_cons_zero,hw o1 _ hg1,if_true];refine s1 _ _ ?_;refine⟨λe=>?_,λi hi=>?_⟩
      ·have:Region.ready .any #[o1,o2] #[true,false]=[]:=e;rw[e1]at this;cases this
      ·have hi':i∈Region.ready .any #[o1,o2] #[true,false]:=hi;rw[e1,ac0]at hi';subst hi';unfold wpOpIn;simp only[List.getElem?_toArray,List.getElem?_cons_succ,List.getElem?_cons_zero,hw o2 _ hg2,if_true];refine s2 _ _ ?_;exact⟨e2,hQ _ hs⟩
   refine wpIn_seq (region _ (λw2 hs2=>?_))
   show b1.wpIn Fence.wide 0 P (bodyPostM Fence.wide 0 P fn RR) a3 w2
   let m:=args.length
   let E1:Env:=⟨w,aE ρ h,X0,fn.ntmps,B,λj=>if 2000000+m<=j/\j<2000000+m+caps.length then us.getD (j-(2000000+m)) undef else gv0 j,none,w.heap.size,acG _,dd::a1.defers⟩
   obtain⟨⟨Ds0,hDs0⟩,hnd0,hmk0⟩:=(g1.same hs2).defers;have hDs0:a1.defers=Ds0.map kS:=by rw[hDs0];simp[E0]
   have gput:=(g1.same hs2).put d hd (v:=.func (.func g) #[] us) (av:=.undef) (.undef _ _)
   have hcv:∀(j:Nat) x,(evL st1 caps)[j]?=some x->∃v,us[j]?=some v/\RV (XX E0.X0 ρ1 st1.h) w2 ρ1 v x:=by
    intro j x hj;rw[jo,hcaps,adD,List.getElem?_map,Array.getElem?_toList]at hj;obtain⟨y,e1,rfl⟩:=acE.1 hj;exact⟨a1.eval y,by simp[us,e1],a6 (g1.same hs2) y⟩
   have g2:af E1 ρ1 ⟨numbered (2000000+m) (evL st1 caps)++(d,.undef)::st1.s,st1.h⟩ a3 w2:=by
    refine⟨⟨⟨[],rfl⟩,hnd0,hmk0⟩,gput.size,λk av hk=>?_,(g1.same hs2).heap,g1.base,⟨(g1.same hs2).ai.os,(g1.same hs2).ai.tape,(g1.same hs2).ai.output,(g1.same hs2).ai.size,(g1.same hs2).ai.block,g1.ai.cn⟩,(g1.same hs2).x0⟩;simp only[kh]at hk
    cases hz:sget (numbered (2000000+m) (evL st1 caps)) k with
    | some av1=>
     rw[hz]at hk;obtain rfl:av1=av:=Option.some.inj hk;obtain⟨e1,e2⟩:=ki _ _ _ _ hz;obtain⟨v,e3,e4⟩:=hcv _ _ e2;refine⟨.inr acB,?_⟩
     have:aP E1 a3 k=v:=by
      unfold aP;rw[if_neg (by simp only[E1];omega)];have e5:k-(2000000+m)<us.size:=(Array.getElem?_eq_some_iff.1 e3).1;simp only[E1,if_pos (show 2000000+m<=k/\k<2000000+m+caps.length by omega),acO,e3];rfl
     rw[this];exact e4
    | none=>
     rw[hz,ad2]at hk;obtain⟨r1,r2⟩:=gput.aM k av hk;refine⟨r1,?_⟩
     have hkm:¬(2000000+m<=k/\k<2000000+m+caps.length):=by
      intro hk2;have hl:k-(2000000+m)<(evL st1 caps).length:=by rw[jo];simp;omega
      have:=o7 (evL st1 caps) (2000000+m) (k-(2000000+m)) _ (List.getElem?_eq_getElem hl);rw[show 2000000+m+(k-(2000000+m))=k by omega,hz]at this;cases this
     have:aP E1 a3 k=aP E0 (a1.put (some d) (.func (.func g) #[] us)) k:=by
      unfold aP;simp only[E1,E0,if_neg hkm];rfl
     rw[this];exact r2
   refine wpIn_mono (hp E1 rfl rfl rfl 0 b1 h1 _ w2 ⟨ρ1,g2⟩) ?_;rintro e a' w' ⟨st',⟨ρ',g0⟩,q⟩;obtain⟨⟨Ds,hDs⟩,_⟩:=g0.defers
   have fin:∀(ρ'':Loc) (st'':St) (w'':World),af E1 ρ'' st'' {a' with defers:=dd::a1.defers} w''->(∃r,resOf st'' (fn.results.toList.map (trRes P))=some r/\Post st''.h r (argsAgain st'' 0 args.length)) ->
       LeavesInM Fence.wide 0 P fn a'.tmps RR a1.defers .returning w'':=by
    intro ρ'' st'' w'' gg hP
    have gg':af {E1 with df:=[]} ρ'' st'' {a' with defers:=Ds0.map kS++[]} w'':=by
     refine gg.df rfl rfl rfl rfl rfl ⟨⟨Ds0,rfl⟩,?_⟩;have:=gg.defers.2;rw[adx,<-hDs0];exact this
    have:=jA (P:=P) (fn:=fn) (E:={E1 with df:=[]}) (ρ:=ρ'') (st:=st'') (a:=a') (u:=.returning) (rest:=[]) (R:=RR) (by simp) (λw' g=>?_) rfl rfl Ds0 w'' gg'
    ·rw[adx,<-hDs0]at this;exact this
    ·obtain⟨v,q1,q2⟩:=fin0 _ ρ'' st'' _ w' rfl rfl rfl rfl (λj hj=>by
      show(if _ then _ else _)=_
      rw[if_neg acB]) g hP
     exact⟨v,q1,q2⟩
   have hinv:∀w,(invoke (.fn (.func g) us) #[]).run P w=.ok (.enter g us) w:=by
    intro w;unfold callable at hcal;split at hcal
    ·rename_i fn h2;simp only[acN,bne_iff_ne]at hcal;have h5:¬fn.name = "runtime.NumGoroutine" := by simpa using hcal.2
     have h6:¬fn.body=none:=by intro e;rw[e]at hcal;cases hcal.1
     simp[invoke,callFunc,h2,h5,h6]
    ·cases hcal
   have ret:(∃r,resOf st' (fn.results.toList.map (trRes P))=some r/\Post st'.h r (argsAgain st' 0 args.length))->LeavesInM Fence.wide 0 P fn a'.tmps RR a'.defers .returning w':=by
    intro hq;rw[hDs];refine jA (E:=E1) (ρ:=ρ') (st:=st') (a:=a') (by simp) (λw' gg=>?_) rfl rfl Ds w' (by rw[<-hDs];exact g0);refine⟨by simp,.inr ⟨λhh=>(by cases hh),.func g,us,g,_,rfl,hinv w',λ_ _=>trivial,(hI us w' husz).mono ?_⟩⟩;rintro e u' w2 ⟨⟨v,rfl⟩,rfl,rfl⟩;exact fin ρ' st' _ gg hq
   cases e with
   | normal=>exact ret q
   | ret=>exact ret q
   | exit id=>exact q.elim
   | goto l=>exact q.elim
   | outgrown=>exact q.elim
   | panic ch=>
    obtain⟨V,h0,h',rfl,hS,hin,hsub,hP⟩:=q
    show LeavesInM Fence.wide 0 P fn a'.tmps _ a'.defers (.panicking (bC V)) w'
    rw[hDs];refine jA (E:=E1) (ρ:=ρ') (st:=st') (a:=a') (by simp) (λw' gg=>?_) rfl rfl Ds w' (by rw[<-hDs];exact g0);have hgl:(fW st' m caps.length).length=caps.length:=by simp[fW,jo,xC,CT]
    have hrv2:∀(j:Nat) v x,us[j]?=some v->(fW st' m caps.length)[j]?=some x->RV (XX X0 ρ' st'.h) w' ρ' v x:=by
     intro j v x e1 e2;have hj:j<caps.length:=by have:=(List.getElem?_eq_some_iff.1 e2).1;omega
     simp only[fW,jo,xC,List.getElem?_map,CS _ _ _ hj,ac7,Option.some.injEq]at e2;subst e2
     show RV _ _ _ _ ((sget st'.s (2000000+m+j)).getD .undef)
     cases hs:sget st'.s (2000000+m+j)with
     | none=>exact .undef _ _
     | some av=>
      have hr2:=(gg.aM _ _ hs).2;unfold aP at hr2;rw[if_neg (by simp only[E1];omega)]at hr2;simp only[E1,if_pos (show 2000000+m<=2000000+m+j/\2000000+m+j<2000000+m+caps.length by omega),show 2000000+m+j-(2000000+m)=j by omega,acO,e1]at hr2;exact hr2
    have hx1:=qZ (E:=E1) (ρ:=ρ') hsub
    refine⟨by simp,.inr ⟨λhh=>(by cases hh),.func g,us,g,_,rfl,hinv w',λ_ _=>trivial,
     (hS (kX E1 ρ' st' h0) ρ' w' us (zG gg hsub) (gg.cn.mono λb ⟨id,W,L,g1,g2,g3⟩=>⟨id,W,L,hsub _ _ g1,g2,g3⟩) (λb hb=>vU gg b (hx1 b (.inl hb))) (by rw[hgl,husz])
      (λj v x e1 e2=>(hrv2 j v x e1 e2).mono (λ_ _ _=>rfl) (λb _ hb hx=>hb (hx1 b hx)) _ (λ_ _ h=>h))).mono ?_⟩⟩
    rintro e u' w3 ⟨⟨v,rfl⟩,rfl,ρ3,hH,has,q1,q2,q3,q4,q5,q6⟩
    obtain⟨ρ4,g4,_⟩:=zF (ρ':=ρ3) (h':=h') (v:=undef) (r:=.undef) (args:=(fW st' m caps.length).map .c) (as:=fW st' m caps.length) gg (by simp[hgl,husz]) (λj v x e1 e2=>by
        rw[List.getElem?_map]at e2;obtain⟨y,e3,rfl⟩:=acE.1 e2
        exact⟨hrv2 j v y e1 e3,λk hk=>by cases hk⟩) hsub hin rfl hH (.undef _ _) (by simp) has q1 q2 q3 q4 q5 q6
    exact fin ρ4 _ _ g4 hP
 exact(callsIn_wide (n:=0)).1 (callsIn_of_wp_marks hf hb trivial (key pre body _ ρ _ w hc (pc hN ha hh hA hX hvs hrv [] rfl) (hp E0 rfl rfl rfl)))
def seqK:List AK->AK->AK
 | [],y=>y
 | x::xs,y=>.seq x (seqK xs y)
theorem FV (B:Nat) (y:AK):∀xs,(seqK xs y).erase B=seqA (xs.map (AK.erase B)) (y.erase B)
 | []=>rfl
 | x::xs=>by simp only[seqK,AK.erase,adk,seqA,FV B y xs]
def nF (P:Program) (E:Env):List AK->KQ->St->Prop
 | [],Q,st=>Q.ap .normal st
 | x::xs,Q,st=>vcW P E x ⟨km (λst=>nF P E xs Q st) Q.ap⟩ st
def KQ.sq (P:Program) (E:Env) (xs:List AK) (Q:KQ):KQ:=⟨km (λst=>nF P E xs Q st) Q.ap⟩
theorem Fe {P:Program} {E:Env} (hN:E.N<=1000000):∀(xs:List AK) {Q:KQ} {st:St},nF P E xs Q st->uJ P E (xs.map (AK.erase E.B)) Q.ap st
 | [],Q,st,h=>h
 | x::xs,Q,st,h=>bm.mono (dV hN x h) (GB (λst' h'=>Fe hN xs h') (λ_ _ h=>h))
def KQ.gC (P:Program) (rs:List RVar) (m k g:Nat) (R:HP->AV->List AV->Prop):KQ:=⟨CX P rs m k g R⟩
def KQ.dC (P:Program) (N B:Nat) (rs:List RVar) (m g d:Nat) (caps:List AE) (y:AK) (R:HP->AV->List AV->Prop):KQ:=⟨wS P N B rs m g d caps (y.erase B) R⟩
section
variable {P:Program} {E:Env} {st:St} {Q:KQ} {rs:List RVar} {m k g d N B:Nat} {caps:List AE} {y:AK} {R:HP->AV->List AV->Prop}
theorem aa7:nF P E [] Q st=Q.ap .normal st:=(rfl)
theorem aa6 {x:AK} {xs:List AK}:nF P E (x::xs) Q st=vcW P E x (KQ.sq P E xs Q) st:=(rfl)
theorem Th {xs:List AK}:(KQ.sq P E xs Q).ap .normal st=nF P E xs Q st:=(rfl)
theorem Tj {xs:List AK}:(KQ.sq P E xs Q).ap .ret st=Q.ap .ret st:=(rfl)
theorem Tk {xs:List AK} {i:Nat}:(KQ.sq P E xs Q).ap (.exit i) st=Q.ap (.exit i) st:=(rfl)
theorem SF:(KQ.gC P rs m k g R).ap .ret st=(KQ.post rs m R).ap .ret st:=(rfl)
theorem SE:(KQ.gC P rs m k g R).ap .normal st=(KQ.post rs m R).ap .ret st:=(rfl)
theorem SC:(KQ.dC P N B rs m g d caps y R).ap .ret st=(KQ.post rs m R).ap .ret st:=(rfl)
theorem xx {V:Value} (h0 h':HP) {as:List AV} (has:fW st m k=as) (hS:pH P g h0 as V h') (hin:jw h' h'=true) (hsub:dz st.h h0) (h:(KQ.post rs m R).ap .ret (lB st m k h0 h')):(KQ.gC P rs m k g R).ap (.panic (bC V)) st:=
 ⟨V,h0,h',rfl,has▸hS,hin,λi W hi=>jz hsub i W hi,h⟩
theorem wQ (h:∀E':Env,E'.N<=1000000->vcW P E' y (KQ.gC P rs m caps.length g R) ⟨numbered (2000000+m) (evL st caps)++(d,.undef)::st.s,st.h⟩) (hN:N<=1000000):(KQ.dC P N B rs m g d caps y R).ap .normal st:=
 λE' e1 e2 _=>by
  have hN':E'.N<=1000000:=acB;rw[<-e2];exact dV hN' y (h E' hN')
theorem Pj:fW st m k=evL st (ghL (2000000+m) k):=(rfl)
theorem HV {h0 h':HP}:lB st m k h0 h'=gU st h0 ((fW st m k).map .c) h' (fW st m k):=(rfl)
end
theorem Ph:(∀j,ghL j 0=[])/\(∀j k,ghL j (k+1)=.t j::ghL (j+1) k):=⟨λ_=>rfl,λ_ _=>rfl⟩
attribute [go_sem] aa7 aa6 Th Tj Tk SF SE SC Pj HV Ph
def rV (P:Program) (pre:List AK) (y:AK) (g d:Nat) (caps:List AE) (B p:Nat) (rs:List RVar) (s:List (Nat×AV)) (h:HP) (Post:HP->AV->List AV->Prop):Prop:=
 ∀(E:Env) (R:HP->AV->List AV->Prop) (N:Nat),E.N<=1000000->N<=1000000->cM Post R->nF P E pre (KQ.dC P N B rs p g d caps y R) ⟨s,h⟩
theorem y9 {P:Program} {f B p q g d:Nat} {x0:AK} {pre:List AK} {y:AK} {caps:List AE} {rs:List RVar} {h:HP} {args:List AV} {Post:HP->AV->List AV->Prop}
    (hf:gS P f B q (seqK (x0::pre) (.seq (.cS g (.c (.ab [.int .i64 (d:Int)])::caps)) y)) rs) (hl:args.length=p) (hq:p<=q) (hd:d<q) (hI:lz P g caps.length) (s:List (Nat×AV)) (hs:dA (fN args) s)
    (hp:rV P (x0::pre) y g d caps B p rs s h Post):Spec P f h args Post:=by
 obtain⟨fn,body,h1,h2,h3,h4,h5,h6⟩:=hf.out;rw[FV]at h3;refine zb (Zz (pre:=(x0::pre).map (AK.erase B)) h1 h2 h3 h5 acB acB hI (λE hE hB hrd=>?_));have hN:E.N<=1000000:=by rw[hE];exact h5
 have this:=Fe hN (x0::pre) (hp E _ fn.ntmps hN h5 tf);rw[hB]at this;rw[h4,hl];exact pO s hs this
open Go Go.Sem
def Cf (J:Nat->Act->World->Prop) (Q:Exit->Act->World->Prop):Exit->Act->World->Prop
 | .goto l,a,w=>J l a w
 | e,a,w=>Q e a w
theorem abN {F:Fence} {n:Nat} {P:Program} {a:Act} {w:World} {Q:Exit->Act->World->Prop} {c:Code} (J:Nat->Nat->Act->World->Prop)
    (first:c.wpIn F n P (Cf (λl a w=>∃m,J m l a w) Q) a w)
    (pass:∀m l a w,J m l a w->∃rest,findLabel c l=some rest/\rest.wpIn F n P (Cf (λl a w=>∃m',m'<m/\J m' l a w) Q) a w):(Code.scope c).wpIn F n P Q a w:=by
 intro b k cs hro hb hr;have h0:(lone (b.atR a (.code (.scope c)::k)) cs w).fenced P F:=fenced_calm hb hr rfl
 have fin:∀{m:Machine} (e:Exit) (a₁:Act) (w₁:World),Q e a₁ w₁->(∀l',e≠.goto l')->ArrivesIn (Machine.fenced P F) P m b (.inScope c::k) cs e a₁ w₁ ->
     ∃e a' w',Q e a' w'/\ArrivesIn (Machine.fenced P F) P m b k cs e a' w':=by
  intro m e a₁ w₁ hq' hne harr
  cases e with
  | normal=>exact⟨.normal,a₁,w₁,hq',StepsIn.trans harr (.one (fenced_calm hb hr rfl) Gn)⟩
  | exit id=>
   have hx:exitTo id (.inScope c::k)=exitTo id k:=by simp[exitTo]
   exact⟨.exit id,a₁,w₁,hq',λk' hk=>harr.1 k' (by rw[hx];exact hk),λh1 h2=>harr.2 h1 (by rw[hx];exact h2)⟩
  | goto l'=>exact absurd rfl (hne l')
  | ret=>exact⟨_,a₁,w₁,hq',harr⟩
  | panic ch=>exact⟨_,a₁,w₁,hq',harr⟩
  | outgrown=>exact⟨_,a₁,w₁,hq',harr⟩
 have all:∀m l a w,J m l a w->∃rest,findLabel c l=some rest/\∃e a' w',Q e a' w'/\ArrivesIn (Machine.fenced P F) P (lone (b.atR a (.code rest::.inScope c::k)) cs w) b k cs e a' w':=by
  intro m
  induction m using Nat.strongRecOn with
  | _ m ih=>
   intro l a w hJ;obtain⟨rest,hf,hw⟩:=pass m l a w hJ;refine⟨rest,hf,?_⟩;obtain⟨e,a₁,w₁,hq,harr⟩:=hw b (.inScope c::k) cs hro hb hr;by_cases hgo:∃l',e=.goto l'
   ·obtain⟨l',rfl⟩:=hgo;obtain⟨m',hm,hJ'⟩:=hq;obtain⟨rest',hf',e₂,a₂,w₂,hq₂,harr₂⟩:=ih m' hm l' a₁ w₁ hJ';have hg:gotoIn l' (.inScope c::k)=some (.code rest'::.inScope c::k):=by simp[gotoIn,hf']
    exact⟨e₂,a₂,w₂,hq₂,.of_steps (harr.1 _ hg) harr₂⟩
   ·exact fin e a₁ w₁ (by cases e<;>first | exact hq | exact absurd ⟨_,rfl⟩ hgo) (λl' h=>hgo ⟨l',h⟩) harr
 obtain⟨e,a₁,w₁,hq,harr⟩:=first b (.inScope c::k) cs hro hb hr
 by_cases hgo:∃l',e=.goto l'
 ·obtain⟨l',rfl⟩:=hgo;obtain⟨m',hJ'⟩:=hq;obtain⟨rest',hf',e₂,a₂,w₂,hq₂,harr₂⟩:=all m' l' a₁ w₁ hJ';have hg:gotoIn l' (.inScope c::k)=some (.code rest'::.inScope c::k):=by simp[gotoIn,hf']
  exact⟨e₂,a₂,w₂,hq₂,.of_steps (.head h0 ve (harr.1 _ hg)) harr₂⟩
 ·obtain⟨e₃,a₃,w₃,hq₃,harr₃⟩:=fin e a₁ w₁ (by cases e<;>first | exact hq | exact absurd ⟨_,rfl⟩ hgo) (λl' h=>hgo ⟨l',h⟩) harr
  exact⟨e₃,a₃,w₃,hq₃,.of_steps (.one h0 ve) harr₃⟩
def xQ (J:Nat->St->Prop) (Q:Exit->St->Prop):Exit->St->Prop
 | .goto l,st=>J l st
 | e,st=>Q e st
theorem Jk {P:Program} {E:Env} {st:St} {Q:Exit->St->Prop} {x:AC} (J:Nat->Nat->St->Prop) (first:bm P E x st (xQ (λl st=>∃m,J m l st) Q))
    (pass:∀m l st,J m l st->∃y,findA x l=some y/\bm P E y st (xQ (λl st=>∃m',m'<m/\J m' l st) Q)):bm P E (.scope x) st Q:=by
 intro n code hc a w hr;cases code<;>simp only[trCode]at hc<;>first | (cases hc;done) | (exact Bool.noConfusion (show false=true from eX hc)) | (split at hc<;>cases hc;done) | skip
 rename_i c
 injection hc with h1
 subst h1;refine abN (λm l a w=>∃st,Rel E st a w/\J m l st) (wpIn_mono (first n c rfl a w hr) ?_) ?_
 ·rintro e a' w' ⟨st',g1,g2⟩
  cases e with
  | goto l'=>obtain⟨m,h⟩:=g2;exact⟨m,st',g1,h⟩
  | normal=>exact⟨st',g1,g2⟩
  | exit id=>exact⟨st',g1,g2⟩
  | ret=>exact⟨st',g1,g2⟩
  | panic ch=>exact⟨st',g1,g2⟩
  | outgrown=>exact⟨st',g1,g2⟩
 ·rintro m l a w ⟨st',g1,g2⟩;obtain⟨y,hf,hy⟩:=pass m l st' g2;rw[tg]at hf;obtain⟨rest,hfl,rfl⟩:=acE.1 hf;refine⟨rest,hfl,wpIn_mono (hy n rest rfl a w g1) ?_⟩;rintro e a' w' ⟨st',g1,g2⟩
  cases e with
  | goto l'=>obtain⟨m',hm,h⟩:=g2;exact⟨m',hm,st',g1,h⟩
  | normal=>exact⟨st',g1,g2⟩
  | exit id=>exact⟨st',g1,g2⟩
  | ret=>exact⟨st',g1,g2⟩
  | panic ch=>exact⟨st',g1,g2⟩
  | outgrown=>exact⟨st',g1,g2⟩
def KQ.kN (R:Nat->KS) (Q:KQ):KQ:=⟨xQ (λl=>(R l).ap) Q.ap⟩
theorem Tl (R:Nat->KS) (Q:KQ) (st:St):(∀l,(KQ.kN R Q).ap (.goto l) st=(R l).ap st)/\(KQ.kN R Q).ap .normal st=Q.ap .normal st/\(∀i,(KQ.kN R Q).ap (.exit i) st=Q.ap (.exit i) st)/\(KQ.kN R Q).ap .ret st=Q.ap .ret st/\(∀ch,(KQ.kN R Q).ap (.panic ch) st=Q.ap (.panic ch) st):=
 ⟨λ_=>rfl,rfl,λ_=>rfl,rfl,λ_=>rfl⟩
theorem abk {P:Program} {E:Env} {x:AK} {Q:KQ} {st:St} {α:Type} (hN:E.N<=1000000) (f:Nat->α->St) (inv:Nat->α->Prop) (ms:Nat->α->Nat)
    (h1:∀R:Nat->KS,(∀l a st',inv l a->Wk st' (f l a)->(R l).ap st')->vcW P E x (KQ.kN R Q) st)
    (h2:∀l a,inv l a->∃y,findK x l=some y/\∀R:Nat->KS,(∀l' a' st',ms l' a'<ms l a->inv l' a'->Wk st' (f l' a')->(R l').ap st')->vcW P E y (KQ.kN R Q) (f l a)):vcW P E (.scope x) Q st:=by
 show bm P E (.scope (x.erase E.B)) st Q.ap
 refine Jk (λm l s=>∃a,inv l a/\ms l a=m/\Wk s (f l a)) (dV hN x (h1 (λl=>⟨λs=>∃m a,inv l a/\ms l a=m/\Wk s (f l a)⟩) (λl a st' g1 g2=>⟨_,a,g1,rfl,g2⟩))) ?_;rintro m l s ⟨a,g1,rfl,g2⟩;obtain⟨y,hy,hv⟩:=h2 l a g1;refine⟨y.erase E.B,by rw[qm,hy];rfl,pP g2 (dV hN y (hv (λl'=>⟨λs=>∃m',m'<ms l a/\∃a',inv l' a'/\ms l' a'=m'/\Wk s (f l' a')⟩) (λl' a' st' k1 k2 k3=>⟨_,k1,a',k2,rfl,k3⟩)))⟩
attribute [go_sem] Tl
end Go.Proofs.YtgghhaahnpbnmaaGreatDoor.Eng
