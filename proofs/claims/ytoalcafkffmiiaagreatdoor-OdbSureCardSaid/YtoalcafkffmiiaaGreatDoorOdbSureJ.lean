/- The proof, part 10 of 42. -/
import Derived.Test.YtoalcafkffmiiaaGreatDoorOdbSureG
import Derived.Test.YtoalcafkffmiiaaGreatDoorOdbSureH
import Derived.Test.YtoalcafkffmiiaaGreatDoorOdbSureI
import Derived.Below
set_option linter.all false
namespace Go.Proofs.YtoalcafkffmiiaaGreatDoor.Eng
structure KS where
 ap:St→Prop
structure KQ where
 ap:Exit→St→Prop
inductive ROp where
 | v (d:Nat) (o:AO)
 | val (d:Nat) (q:Bool) (id:Nat) (o:AO)
 | eff (d:Nat) (q:Bool) (id:Nat) (o:AO)
 | an (q:Bool) (id:Nat) (o:AO)
 | ao (d:Option Nat) (q:Bool) (id:Nat) (f:Nat) (args:List AE)
 | dyn (d:Option Nat) (q:Bool) (id:Nat) (x:AE) (args:List AE)
 | ah (d:Nat) (j:Nat) (want:Bool) (q:Bool) (id:Nat) (o:AO)
 | iQ (d:Nat) (j:Nat) (want:Bool) (q:Bool) (id:Nat) (f:Nat) (args:List AE)
 | p6 (d:Option Nat) (j:Nat) (want:Bool) (q:Bool) (id:Nat) (o:AO)
 | mj (d:Nat) (j:Nat) (want:Bool) (q:Bool) (id:Nat) (x:AE) (args:List AE)
def ROp.er (B:Nat):ROp→bm
 | .v d o=>⟨some d,none,false,B+d,o⟩
 | .val d q id o=>⟨some d,none,q,id,o⟩
 | .eff d q id o=>⟨some d,none,q,id,o⟩
 | .an q id o=>⟨none,none,q,id,o⟩
 | .ao d q id f args=>⟨d,none,q,id,.call f args⟩
 | .dyn d q id x args=>⟨d,none,q,id,.dyn x args⟩
 | .ah d j want q id o=>⟨some d,some (j,want),q,id,o⟩
 | .iQ d j want q id f args=>⟨some d,some (j,want),q,id,.call f args⟩
 | .p6 d j want q id o=>⟨d,some (j,want),q,id,o⟩
 | .mj d j want q id x args=>⟨some d,some (j,want),q,id,.dyn x args⟩
def evL (st:St):List AE→List AV
 | []=>[]
 | x::r=>ev st x::evL st r
theorem gX (st:St):∀l,evL st l=l.map (ev st)
 | []=>rfl
 | x::r=>by simp[evL,gX st r]
def aopsW (P:Program):List ROp→St→KS→Prop
 | [],st,K=>K.ap st
 | .v d o::r,st,K=>(avalR true st o).To fun v=>aopsW P r (put st (some d) v) K
 | .val d _ _ o::r,st,K=>(avalR true st o).To fun v=>aopsW P r (put st (some d) v) K
 | .eff d _ id o::r,st,K=>(effR id st o).To fun v st'=>aopsW P r (put st' (some d) v) K
 | .an _ id o::r,st,K=>(effR id st o).To fun _ st'=>aopsW P r st' K
 | .ao d q _ f args::r,st,K=>eM P q st f args fun v st'=>aopsW P r (put st' d v) K
 | .dyn d q _ x args::r,st,K=>adyn P q st (ev st x) args fun v st'=>aopsW P r (put st' d v) K
 | .ah d j want _ _ o::r,st,K=>match grd (sget st.s j) want with
  | some γ=>(γ=false∧aopsW P r (put st (some d) (.gd false .undef)) K)∨(avalR γ st o).To fun v=>aopsW P r (put st (some d) (.gd γ v)) K
  | none=>False
 | .iQ d j want q _ f args::r,st,K=>match grd (sget st.s j) want with
  | some γ=>(γ=false∧aopsW P r (put st (some d) (.gd false .undef)) K)∨(γ=true∧eM P q st f args fun v st'=>aopsW P r (put st' (some d) (.gd true v)) K)∨rQ P q γ st f args fun v=>aopsW P r (put st (some d) (.gd γ v)) K
  | none=>False
 | .p6 d j want _ id o::r,st,K=>match grd (sget st.s j) want with
  | some γ=>(γ=false∧aopsW P r (put st d (.gd false .undef)) K)∨(γ=true∧(effR id st o).To fun v st'=>aopsW P r (put st' d (.gd true v)) K)
  | none=>False
 | .mj d j want q _ x args::r,st,K=>match grd (sget st.s j) want with
  | some γ=>(γ=false∧aopsW P r (put st (some d) (.gd false .undef)) K)∨(γ=true∧adyn P q st (ev st x) args fun v st'=>aopsW P r (put st' (some d) (.gd true v)) K)
  | none=>False
def nB (P:Program) (g:Option Bool) (d:Option Nat) (id:Nat) (o:AO) (r:List ROp) (st:St) (K:KS):Prop:=
 match g with
 | some γ=>(γ=false∧aopsW P r (put st d (.gd false .undef)) K)∨(γ=true∧(effR id st o).To fun v st'=>aopsW P r (put st' d (.gd true v)) K)
 | none=>False
def geff2 (P:Program) (x:RS) (d:Option Nat) (r:List ROp) (K:KS):Prop:=
 match x with
 | .ok c v st=>c∧aopsW P r (put st d (.gd true v)) K
 | .fail=>False
def valW (P:Program) (x:Res) (d:Nat) (r:List ROp) (st:St) (K:KS):Prop:=
 match x with
 | .ok c v=>c∧aopsW P r ⟨(d,v)::st.s,st.h⟩ K
 | .fail=>False
def l7 (P:Program) (x:RS) (d:Nat) (r:List ROp) (K:KS):Prop:=
 match x with
 | .ok c v st=>c∧aopsW P r ⟨(d,v)::st.s,st.h⟩ K
 | .fail=>False
def l6 (P:Program) (x:RS) (r:List ROp) (K:KS):Prop:=
 match x with
 | .ok c _ st=>c∧aopsW P r st K
 | .fail=>False
def fT (P:Program) (q:Bool) (st:St) (f:Nat) (args:List AE) (as:List AV) (d:Option Nat) (r:List ROp) (K:KS):Prop:=
 as=args.map (ev st)→eM P q st f args fun v st'=>aopsW P r (put st' d v) K
def qc (P:Program) (g:Option Bool) (d:Nat) (o:AO) (r:List ROp) (st:St) (K:KS):Prop:=
 match g with
 | some γ=>(γ=false∧aopsW P r (put st (some d) (.gd false .undef)) K)∨(avalR γ st o).To fun v=>aopsW P r (put st (some d) (.gd γ v)) K
 | none=>False
def qb (P:Program) (γ:Bool) (x:Res) (d:Nat) (r:List ROp) (st:St) (K:KS):Prop:=
 (γ=false∧aopsW P r ⟨(d,.gd false .undef)::st.s,st.h⟩ K)∨match x with
 | .ok c v=>c∧aopsW P r ⟨(d,.gd γ v)::st.s,st.h⟩ K
 | .fail=>False
def kY (P:Program) (γ:Bool) (d:Nat) (o:AO) (r:List ROp) (st:St) (K:KS):Prop:=qb P γ (avalR γ st o) d r st K
def tk (P:Program) (d:Nat) (o:AO) (r:List ROp) (st:St) (K:KS):Prop:=qb P false (avalR false st o) d r st K
def p4 (P:Program) (q:Bool) (g:Option Bool) (st:St) (f:Nat) (args:List AE) (as:List AV) (d:Nat) (r:List ROp) (K:KS):Prop:=
 as=args.map (ev st)→match g with
 | some γ=>(γ=false∧aopsW P r (put st (some d) (.gd false .undef)) K)∨(γ=true∧eM P q st f args fun v st'=>aopsW P r (put st' (some d) (.gd true v)) K)∨rQ P q γ st f args fun v=>aopsW P r (put st (some d) (.gd γ v)) K
 | none=>False
def p5 (P:Program) (q:Bool) (g:Option Bool) (st:St) (v:AV) (args:List AE) (as:List AV) (d:Nat) (r:List ROp) (K:KS):Prop:=
 as=args.map (ev st)→match g with
 | some γ=>(γ=false∧aopsW P r (put st (some d) (.gd false .undef)) K)∨(γ=true∧adyn P q st v args fun v st'=>aopsW P r (put st' (some d) (.gd true v)) K)
 | none=>False
def sj (P:Program) (q:Bool) (st:St) (f:Nat) (args:List AE) (as:List AV) (d:Nat) (r:List ROp) (K:KS):Prop:=
 as=args.map (ev st)→eM P q st f args fun v st'=>aopsW P r (put st' (some d) (.gd true v)) K
section
variable {P:Program} {st:St} {K:KS} {r:List ROp} {q:Bool} {id d j:Nat} {o:AO}
theorem Fq:aopsW P [] st K=K.ap st:=(rfl)
theorem Ft:aopsW P (.val d q id o::r) st K=valW P (avalR true st o) d r st K:=by
 simp only[aopsW,valW];cases avalR true st o<;>rfl
theorem Fs:aopsW P (.v d o::r) st K=valW P (avalR true st o) d r st K:=by
 simp only[aopsW,valW];cases avalR true st o<;>rfl
theorem vo {c:Prop} {v:AV}:valW P (.ok c v) d r st K=(c∧aopsW P r ⟨(d,v)::st.s,st.h⟩ K):=(rfl)
theorem aqh:valW P .fail d r st K=False:=(rfl)
theorem Fj:aopsW P (.eff d q id o::r) st K=l7 P (effR id st o) d r K:=by
 simp only[aopsW,l7];cases effR id st o<;>rfl
theorem sQ {c:Prop} {v:AV}:l7 P (.ok c v st) d r K=(c∧aopsW P r ⟨(d,v)::st.s,st.h⟩ K):=(rfl)
theorem Nv:l7 P .fail d r K=False:=(rfl)
theorem Fk:aopsW P (.an q id o::r) st K=l6 P (effR id st o) r K:=by
 simp only[aopsW,l6];cases effR id st o<;>rfl
theorem sP {c:Prop} {v:AV}:l6 P (.ok c v st) r K=(c∧aopsW P r st K):=(rfl)
theorem Nn:l6 P .fail r K=False:=(rfl)
theorem rW {d:Option Nat} {f:Nat} {args:List AE}:aopsW P (.ao d q id f args::r) st K=fT P q st f args (evL st args) d r K:=by
 simp only[aopsW,fT,gX,forall_const]
def sN (P:Program) (q:Bool) (st:St) (v:AV) (args:List AE) (as:List AV) (d:Option Nat) (r:List ROp) (K:KS):Prop:=
 as=args.map (ev st)→adyn P q st v args fun v st'=>aopsW P r (put st' d v) K
theorem Fh {d:Option Nat} {x:AE} {args:List AE}:aopsW P (.dyn d q id x args::r) st K=sN P q st (ev st x) args (evL st args) d r K:=by
 simp only[aopsW,sN,gX,forall_const]
theorem Fm {w:Bool} {x:AE} {args:List AE}:aopsW P (.mj d j w q id x args::r) st K=p5 P q (grd (sget st.s j) w) st (ev st x) args (evL st args) d r K:=by
 simp only[aopsW,p5,gX,forall_const]
theorem yQ {f:Nat} {args:List AE} {as:List AV} (hf:callable P f=true) (h:sj P q st f args as d r K):p5 P q (some true) st (.gd true (.lit (.func (.func f) #[] #[]))) args as d r K:=
 fun e=>.inr ⟨rfl,⟨rfl,rfl⟩,hf,h e⟩
theorem yP {v:AV} {args:List AE} {as:List AV} (h:aopsW P r ⟨(d,.gd false .undef)::st.s,st.h⟩ K):p5 P q (some false) st v args as d r K:=fun _=>.inl ⟨rfl,h⟩
theorem sO {d:Option Nat} {f:Nat} {args:List AE} {as:List AV} (hf:callable P f=true) (h:fT P q st f args as d r K):sN P q st (.lit (.func (.func f) #[] #[])) args as d r K:=
 fun e=>⟨⟨rfl,rfl⟩,hf,h e⟩
theorem Fp {w:Bool}:aopsW P (.ah d j w q id o::r) st K=qc P (grd (sget st.s j) w) d o r st K:=(rfl)
theorem Qj {γ:Bool}:qc P (some γ) d o r st K=kY P γ d o r st K:=by
 simp only[qc,kY,qb];cases avalR γ st o<;>rfl
def qa (P:Program) (γ:Bool) (x:Res) (d:Nat) (r:List ROp) (st:St) (K:KS):Prop:=
 match x with
 | .ok c v=>c∧aopsW P r ⟨(d,.gd γ v)::st.s,st.h⟩ K
 | .fail=>False
theorem Qf {γ:Bool} {c:Prop} {v:AV}:qa P γ (.ok c v) d r st K=(c∧aopsW P r ⟨(d,.gd γ v)::st.s,st.h⟩ K):=(rfl)
theorem Qg:kY P false d o r st K=tk P d o r st K:=by simp only[kY,tk]
theorem Qh:kY P true d o r st K=qa P true (avalR true st o) d r st K:=by
 simp[kY,qb,qa]
theorem du (h:aopsW P r ⟨(d,.gd false .undef)::st.s,st.h⟩ K):tk P d o r st K:=.inl ⟨rfl,h⟩
theorem dr {γ:Bool} (h:qa P γ (avalR γ st o) d r st K):kY P γ d o r st K:=.inr h
theorem Fe {c p:Prop} (h:c):(c∧p)=p:=by simp[h]
theorem Qi:qc P none d o r st K=False:=(rfl)
theorem Fo {w:Bool} {d:Option Nat}:aopsW P (.p6 d j w q id o::r) st K=nB P (grd (sget st.s j) w) d id o r st K:=(rfl)
theorem PY {d:Option Nat}:nB P (some true) d id o r st K=geff2 P (effR id st o) d r K:=by
 simp only[nB,geff2,Bool.true_eq_false,false_and,false_or,true_and];cases effR id st o<;>rfl
theorem PX {d:Option Nat}:nB P (some false) d id o r st K=aopsW P r (put st d (.gd false .undef)) K:=by
 simp[nB]
theorem PW {d:Option Nat} {c:Prop} {v:AV}:geff2 P (.ok c v st) d r K=(c∧aopsW P r (put st d (.gd true v)) K):=(rfl)
theorem Fl {w:Bool} {f:Nat} {args:List AE}:aopsW P (.iQ d j w q id f args::r) st K=p4 P q (grd (sget st.s j) w) st f args (evL st args) d r K:=by
 simp only[aopsW,p4,gX,forall_const]
end
theorem vX {P:Program} {q:Bool} {st:St} {id:Nat} {o:AO} {K:AV→St→Prop} (h:(avalR true st o).To fun v=>K v st):aop1 P q st id o K:=by
 have h':=we h
 cases o<;>first | exact h.elim | (simp only[aop1,isEff,Bool.false_eq_true,if_false];exact h')
theorem rT {P:Program} {q:Bool} {st:St} {id:Nat} {o:AO} {K:AV→St→Prop} (h:(effR id st o).To K):aop1 P q st id o K:=by
 have h':=Nr h
 cases o<;>first | exact h.elim | (simp only[aop1,isEff,if_true];exact h')
theorem Ff {P:Program} {q γ:Bool} {st:St} {o:AO} {K:AV→Prop} (h:(avalR γ st o).To K):aopG P q γ st o K:=by
 have h':=we h
 cases o<;>first | exact h.elim | exact h'
theorem vQ {P:Program} {q:Bool} {st:St} {v:AV} {args:List AE} {K K':AV→St→Prop} (hK:∀v st',K v st'→K' v st') (h:adyn P q st v args K):adyn P q st v args K':=by
 revert h
 unfold adyn
 split
 ·rintro⟨e1,e2,h⟩
  refine⟨e1,e2,fun E ρ a w vs h1 h2 h3=>(h E ρ a w vs h1 h2 h3).mono ?_⟩
  rintro e w' ⟨v,ρ',st',av,g1,g2,g3,g4,g5⟩
  exact⟨v,ρ',st',av,g1,g2,g3,hK _ _ g4,g5⟩
 ·rintro⟨e1,e2,h⟩
  refine⟨e1,e2,fun E ρ a w vs h1 h2 h3=>(h E ρ a w vs h1 h2 h3).mono ?_⟩
  rintro e w' ⟨v,ρ',st',av,g1,g2,g3,g4,g5⟩
  exact⟨v,ρ',st',av,g1,g2,g3,hK _ _ g4,g5⟩
 ·rintro⟨e1,h⟩
  refine⟨e1,fun E ρ a w vs h1 h2 h3=>(h E ρ a w vs h1 h2 h3).mono ?_⟩
  rintro e w' ⟨v,ρ',st',av,g1,g2,g3,g4,g5⟩
  exact⟨v,ρ',st',av,g1,g2,g3,hK _ _ g4,g5⟩
 ·exact fun h=>h
theorem cS {P:Program} {B:Nat} {K:KS} {K':St→Prop} (hK:∀st,K.ap st→K' st):∀(l:List ROp) {st:St},aopsW P l st K→aops P (l.map (ROp.er B)) st K'
 | [],st,h=>hK _ h
 | .v d o::r,st,h=>by
  refine vX ?_
  simp only[aopsW]at h
  revert h
  cases avalR true st o with
  | ok c v=>exact fun h=>⟨h.1,cS hK r h.2⟩
  | fail=>exact fun h=>h
 | .val d q id o::r,st,h=>by
  refine vX ?_
  simp only[aopsW]at h
  revert h
  cases avalR true st o with
  | ok c v=>exact fun h=>⟨h.1,cS hK r h.2⟩
  | fail=>exact fun h=>h
 | .eff d q id o::r,st,h=>by
  refine rT ?_
  simp only[aopsW]at h
  revert h
  cases effR id st o with
  | ok c v st'=>exact fun h=>⟨h.1,cS hK r h.2⟩
  | fail=>exact fun h=>h
 | .an q id o::r,st,h=>by
  refine rT ?_
  simp only[aopsW]at h
  revert h
  cases effR id st o with
  | ok c v st'=>exact fun h=>⟨h.1,cS hK r h.2⟩
  | fail=>exact fun h=>h
 | .ao d q id f args::r,st,h=>by
  intro E ρ a w vs h1 h2 h3
  refine(h E ρ a w vs h1 h2 h3).mono ?_
  rintro e w' ⟨v,ρ',st',av,g1,g2,g3,g4,g5⟩
  exact⟨v,ρ',st',av,g1,g2,g3,cS hK r g4,g5⟩
 | .dyn d q id x args::r,st,h=>by
  simp only[aopsW]at h
  simp only[List.map_cons,ROp.er,aops,aop1]
  exact vQ (fun v st' h=>cS hK r h) h
 | .ah d j want q id o::r,st,h=>by
  simp only[aopsW]at h
  simp only[List.map_cons,ROp.er,aops]
  revert h
  cases grd (sget st.s j) want with
  | none=>exact fun h=>h
  | some γ=>
   intro h
   have h:(γ=false∧aopsW P r (put st (some d) (.gd false .undef)) K)∨(avalR γ st o).To fun v=>aopsW P r (put st (some d) (.gd γ v)) K:=h
   refine h.imp (fun x=>⟨x.1,cS hK r x.2⟩) (fun h=>.inr ?_)
   refine Ff ?_
   revert h
   cases avalR γ st o with
   | ok c v=>exact fun h=>⟨h.1,cS hK r h.2⟩
   | fail=>exact fun h=>h
 | .iQ d j want q id f args::r,st,h=>by
  simp only[aopsW]at h
  simp only[List.map_cons,ROp.er,aops]
  revert h
  cases grd (sget st.s j) want with
  | none=>exact fun h=>h
  | some γ=>
   rintro(x | x | ⟨v,h1,h2⟩)
   ·exact .inl ⟨x.1,cS hK r x.2⟩
   ·refine .inr (.inl ⟨x.1,fun E ρ a w vs h1 h2 h3=>(x.2 E ρ a w vs h1 h2 h3).mono ?_⟩)
    rintro e w' ⟨v,ρ',st',av,g1,g2,g3,g4,g5⟩
    exact⟨v,ρ',st',av,g1,g2,g3,cS hK r g4,g5⟩
   ·exact .inr (.inr ⟨v,h1,cS hK r h2⟩)
 | .p6 d j want q id o::r,st,h=>by
  simp only[aopsW]at h
  simp only[List.map_cons,ROp.er,aops]
  revert h
  cases grd (sget st.s j) want with
  | none=>exact fun h=>h
  | some γ=>
   rintro(x | ⟨x,h⟩)
   ·exact .inl ⟨x.1,cS hK r x.2⟩
   ·refine .inr (.inl ⟨x,rT ?_⟩)
    revert h
    cases effR id st o with
    | ok c v st'=>exact fun h=>⟨h.1,cS hK r h.2⟩
    | fail=>exact fun h=>h
 | .mj d j want q id x args::r,st,h=>by
  simp only[aopsW]at h
  simp only[List.map_cons,ROp.er,aops]
  revert h
  cases grd (sget st.s j) want with
  | none=>exact fun h=>h
  | some γ=>
   rintro(x | ⟨x,h⟩)
   ·exact .inl ⟨x.1,cS hK r x.2⟩
   ·exact .inr (.inl ⟨x,vQ (fun v st' h=>cS hK r h) h⟩)
theorem kH {P:Program} {B:Nat} (l:List ROp) {st:St} {K:KS} (h:aopsW P l st K):aops P (l.map (ROp.er B)) st K.ap:=cS (fun _ h=>h) l h
def trim (s:List (Nat×AV)):List Nat→List (Nat×AV)
 | []=>[]
 | k::r=>match sget s k with
  | some v=>(k,v)::trim s r
  | none=>trim s r
def vg (o:Option AV) (k:Nat) (s:List (Nat×AV)) (r:List Nat):List (Nat×AV):=
 match o with
 | some v=>(k,v)::trim s r
 | none=>trim s r
theorem apo (s:List (Nat×AV)) (k:Nat) (r:List Nat):trim s (k::r)=vg (sget s k) k s r:=(rfl)
theorem apq (s:List (Nat×AV)):trim s []=[]:=(rfl)
theorem apn (v:AV) (k:Nat) (s:List (Nat×AV)) (r:List Nat):vg (some v) k s r=(k,v)::trim s r:=(rfl)
theorem apm (k:Nat) (s:List (Nat×AV)) (r:List Nat):vg none k s r=trim s r:=(rfl)
theorem km (s:List (Nat×AV)):∀ks,dF s (trim s ks)
 | []=>trivial
 | k::r=>by
  unfold trim
  split
  ·rename_i v hv;exact⟨hv,km s r⟩
  ·exact km s r
theorem lu {E:Env} {ρ:Loc} {st:St} {s':List (Nat×AV)} {a:Act} {w:World} (h:al E ρ st a w) (hs:dF st.s s'):al E ρ ⟨s',st.h⟩ a w:=
 ⟨h.defers,h.size,fun k av hk=>h.aV k av (tS hs k av hk),h.heap,h.base,h.aw,h.x0⟩
inductive DT where
 | die (o:ROp)
 | step (o:ROp) (t:DT)
 | br (x y:DT)
def DT.er (B:Nat):DT→AT bm
 | .die o=>.cons (o.er B) .nil
 | .step o t=>.cons (o.er B) (t.er B)
 | .br x y=>.br (x.er B) (y.er B)
def pL (o:ROp):Bool:=sI (o.er 0)
theorem xN (o:ROp) (B:Nat):sI (o.er B)=pL o:=by cases o<;>rfl
def DT.ok:DT→Bool
 | .die o=>pL o
 | .step o t=>!pL o&&t.ok
 | .br x y=>x.ok&&y.ok
def dieOpW (P:Program) (o:ROp) (st:St) (Q:KQ):Prop:=
 match o with
 | .ao _ _ _ f args=>oW P st f args fun V st'=>Q.ap (.panic (bK V)) st'
 | .an _ _ (.dQ x)=>∃t v,ev st x=.lit (.iface t v)∧Q.ap (.panic (bK (.iface t v))) st
 | _=>False
def dtW (P:Program):DT→St→KQ→Prop
 | .die o,st,Q=>dieOpW P o st Q
 | .step o t,st,Q=>aopsW P [o] st ⟨fun st'=>dtW P t st' Q⟩
 | .br x y,st,Q=>dtW P x st Q∧dtW P y st Q
theorem sJ {P:Program} {B:Nat} {o:ROp} {st:St} {Q:KQ} (h:dieOpW P o st Q):dieOp P (o.er B) st fun V st'=>Q.ap (.panic (bK V)) st':=by
 unfold dieOpW at h
 split at h
 ·exact h
 ·exact h
 ·exact h.elim
theorem pR {P:Program} {B:Nat} {Q:KQ}:∀(T:DT) {st:St},T.ok=true→dtW P T st Q→dieF P (T.er B) st fun V st'=>Q.ap (.panic (bK V)) st'
 | .die o,st,hok,h=>by
  simp only[DT.er,dieF,xN,show pL o=true from hok,if_true]
  exact sJ h
 | .step o t,st,hok,h=>by
  simp only[DT.ok,Bool.and_eq_true,Bool.not_eq_true']at hok
  simp only[DT.er,dieF,xN,hok.1,Bool.false_eq_true,if_false]
  exact cS (K:=⟨fun st'=>dtW P t st' Q⟩) (fun st' h'=>pR t hok.2 h') [o] h
 | .br x y,st,hok,h=>by
  simp only[DT.ok,Bool.and_eq_true]at hok
  exact⟨pR x hok.1 h.1,pR y hok.2 h.2⟩
theorem rX (P:Program) (o:ROp) (r:List ROp) (st:St) (K:KS):aopsW P (o::r) st K=aopsW P [o] st ⟨fun st'=>aopsW P r st' K⟩:=by cases o<;>rfl
theorem xL {P:Program} {B:Nat} {K:KS} {K':St→Prop} {KD:Value→St→Prop} (hK:∀st,K.ap st→K' st):∀(l:List ROp) {st:St},aopsW P l st K→kQ P (l.map (ROp.er B)) st K' KD
 | [],st,h=>hK _ h
 | o::r,st,h=>by
  rw[rX]at h
  exact .inr (cS (fun st' h'=>xL hK r h') [o] h)
theorem sM {P:Program} {B:Nat} {Q:KQ} {K:KS} {K':St→Prop} {o:ROp} {post:List ROp} (hK:∀st,K.ap st→K' st):∀(pre:List ROp) {st:St},aopsW P pre st ⟨fun st'=>dieOpW P o st' Q∨aopsW P (o::post) st' K⟩ →
    kQ P ((pre++o::post).map (ROp.er B)) st K' fun V st'=>Q.ap (.panic (bK V)) st'
 | [],st,h=>by
  rcases h with h | h
  ·exact .inl (sJ h)
  ·exact xL hK (o::post) h
 | p::r,st,h=>by
  rw[rX]at h
  exact .inr (cS (fun st' h'=>sM hK r h') [p] h)
theorem xT {P:Program} {B:Nat} {Q:KQ} {K:KS} {K':St→Prop} {o o2:ROp} {bl post:List ROp} (hK:∀st,K.ap st→K' st):∀(pre:List ROp) {st:St},aopsW P pre st ⟨fun st'=>dieOpW P o st' Q∨aopsW P (o::bl) st' ⟨fun st''=>dieOpW P o2 st'' Q∨aopsW P (o2::post) st'' K⟩⟩ →
    kQ P ((pre++o::(bl++o2::post)).map (ROp.er B)) st K' fun V st'=>Q.ap (.panic (bK V)) st'
 | [],st,h=>by
  rcases h with h | h
  ·exact .inl (sJ h)
  ·exact sM hK (o::bl) h
 | p::r,st,h=>by
  rw[rX]at h
  exact .inr (cS (fun st' h'=>xT hK r h') [p] h)
inductive RT where
 | leaf (ops:List ROp)
 | node (p:List ROp) (x y:RT)
def RT.er (B:Nat):RT→AT bm
 | .leaf ops=>AT.pre (ops.map (ROp.er B)) .nil
 | .node p x y=>AT.pre (p.map (ROp.er B)) (.br (x.er B) (y.er B))
def iv (P:Program):RT→St→KS→Prop
 | .leaf ops,st,K=>aopsW P ops st K
 | .node p x y,st,K=>aopsW P p st ⟨fun st=>iv P x st K∧iv P y st K⟩
def KS.two (P:Program) (x y:RT) (K:KS):KS:=⟨fun st=>iv P x st K∧iv P y st K⟩
theorem ak7 {P:Program} {ops:List ROp} {st:St} {K:KS}:iv P (.leaf ops) st K=aopsW P ops st K:=(rfl)
theorem ak8 {P:Program} {p:List ROp} {x y:RT} {st:St} {K:KS}:iv P (.node p x y) st K=aopsW P p st (KS.two P x y K):=(rfl)
theorem ZG {P:Program} {x y:RT} {st:St} {K:KS}:(KS.two P x y K).ap st=(iv P x st K∧iv P y st K):=(rfl)
theorem uQ {P:Program} {B:Nat} {K:KS} {K':St→Prop} (hK:∀st,K.ap st→K' st):∀(T:RT) {st:St},iv P T st K→aopsT P (T.er B) st K'
 | .leaf ops,st,h=>by
  unfold RT.er
  rw[uy]
  exact cS (B:=B) hK ops h
 | .node p x y,st,h=>by
  unfold RT.er
  rw[uy]
  exact cS (B:=B) (fun st h=>⟨uQ hK x h.1,uQ hK y h.2⟩) p h
inductive AK where
 | skip
 | aa (ops:List ROp) (keep:List Nat)
 | seq (x y:AK)
 | cond (c:AE) (x y:AK)
 | block (id:Nat) (x:AK)
 | loop (x:AK)
 | exit (id:Nat)
 | ret
 | bl (x:AK)
 | scope (x:AK)
 | label (l:Nat)
 | goto (l:Nat)
 | split (ops:List ROp) (d f:Nat) (x:AE) (c:UInt8) (bk p q0:Nat) (body:AK)
 | back (ops:List ROp) (d f kx bk p1 p q0:Nat) (body:AK)
 | alt (p x y:List ROp) (keep:List Nat)
 | gk (T:RT) (keep:List Nat)
 | cd (pre:List ROp) (o:ROp) (post:List ROp) (keep:List Nat)
 | mH (pre:List ROp) (o:ROp) (bl:List ROp) (o2:ROp) (post:List ROp) (keep:List Nat)
 | iJ (p x y:List ROp) (keep:List Nat) (T:DT)
 | eD (f:Nat) (args:List AE)
 | bad
def AK.erase (B:Nat):AK→AC
 | .skip=>.skip
 | .aa ops _=>.aa (ops.map (ROp.er B))
 | .seq x y=>.seq (x.erase B) (y.erase B)
 | .cond c x y=>.cond c (x.erase B) (y.erase B)
 | .block id x=>.block id (x.erase B)
 | .loop x=>.loop (x.erase B)
 | .exit id=>.exit id
 | .ret=>.ret
 | .bl x=>(x.erase B)
 | .scope x=>.scope (x.erase B)
 | .label l=>.label l
 | .goto l=>.goto l
 | .split ops d f x c bk p q0 body=>.seq (.lr (ops.map (ROp.er B)++[⟨some d,none,false,B+d,.call f [x,.c (.str [c])]⟩])) (.block bk (.jJ (.t d) [p] (.aa [⟨some q0,none,false,B+q0,.af (.t p)⟩]) (body.erase B)))
 | .back ops d f kx bk p1 p q0 body=>.seq (.lr (ops.map (ROp.er B)++[⟨some d,none,false,B+d,.call f [.t kx]⟩])) (.block bk (.jJ (.t d) [p1,p] (.aa [⟨some q0,none,false,B+q0,.af (.t p)⟩]) (body.erase B)))
 | .alt p x y _=>.alt (p.map (ROp.er B)) (x.map (ROp.er B)) (y.map (ROp.er B))
 | .gk T _=>.gk (T.er B)
 | .cd pre o post _=>.cd ((pre++o::post).map (ROp.er B))
 | .mH pre o md o2 post _=>.cd ((pre++o::(md++o2::post)).map (ROp.er B))
 | .iJ p x y _ T=>.iJ (p.map (ROp.er B)) (x.map (ROp.er B)) (y.map (ROp.er B)) (T.er B)
 | .eD f args=>.eD f args
 | .bad=>.bad
def vcW (P:Program) (E:Env):AK→KQ→St→Prop
 | .skip,Q,st=>Q.ap .normal st
 | .aa ops ks,Q,st=>aopsW P ops st ⟨fun st=>Q.ap .normal ⟨trim st.s ks,st.h⟩⟩
 | .seq x y,Q,st=>vcW P E x ⟨jl (fun st=>vcW P E y Q st) Q.ap⟩ st
 | .cond c x y,Q,st=>match ev st c with
  | .bool b=>(b=true→vcW P E x Q st)∧(b=false→vcW P E y Q st)
  | _=>False
 | .block id x,Q,st=>vcW P E x ⟨blockQ id Q.ap⟩ st
 | .loop x,Q,st=>bC P E (.loop (x.erase E.B)) st Q.ap
 | .exit id,Q,st=>Q.ap (.exit id) st
 | .ret,Q,st=>Q.ap .ret st
 | .bl x,Q,st=>bC P E (x.erase E.B) st Q.ap
 | .scope x,Q,st=>bC P E (.scope (x.erase E.B)) st Q.ap
 | .label _,Q,st=>Q.ap .normal st
 | .goto l,Q,st=>Q.ap (.goto l) st
 | .split ops d f x c bk p q0 body,Q,st=>aopsW P ops st ⟨splitK P E d f x c bk p q0 (body.erase E.B) Q.ap⟩
 | .back ops d f kx bk p1 p q0 body,Q,st=>aopsW P ops st ⟨ni P E d f kx bk p1 p q0 (body.erase E.B) Q.ap⟩
 | .alt p x y ks,Q,st=>aopsW P p st ⟨fun st=>aopsW P x st ⟨fun st=>Q.ap .normal ⟨trim st.s ks,st.h⟩⟩∧aopsW P y st ⟨fun st=>Q.ap .normal ⟨trim st.s ks,st.h⟩⟩⟩
 | .gk T ks,Q,st=>iv P T st ⟨fun st=>Q.ap .normal ⟨trim st.s ks,st.h⟩⟩
 | .cd pre o post ks,Q,st=>aopsW P pre st ⟨fun st=>dieOpW P o st Q∨aopsW P (o::post) st ⟨fun st=>Q.ap .normal ⟨trim st.s ks,st.h⟩⟩⟩
 | .mH pre o md o2 post ks,Q,st=>aopsW P pre st ⟨fun st=>dieOpW P o st Q∨aopsW P (o::md) st ⟨fun st=>dieOpW P o2 st Q∨aopsW P (o2::post) st ⟨fun st=>Q.ap .normal ⟨trim st.s ks,st.h⟩⟩⟩⟩
 | .iJ p x y ks T,Q,st=>(aopsW P p st ⟨fun st=>aopsW P x st ⟨fun st=>Q.ap .normal ⟨trim st.s ks,st.h⟩⟩∧aopsW P y st ⟨fun st=>Q.ap .normal ⟨trim st.s ks,st.h⟩⟩⟩)∨(T.ok=true∧dtW P T st Q)
 | .eD _ _,_,_=>False
 | .bad,_,_=>False
def KS.aa (ks:List Nat) (Q:KQ):KS:=⟨fun st=>Q.ap .normal ⟨trim st.s ks,st.h⟩⟩
def KS.alt (P:Program) (x y:List ROp) (ks:List Nat) (Q:KQ):KS:=⟨fun st=>aopsW P x st (KS.aa ks Q)∧aopsW P y st (KS.aa ks Q)⟩
def l5 (P:Program) (o:ROp) (post:List ROp) (ks:List Nat) (Q:KQ) (st:St):Prop:=dieOpW P o st Q∨aopsW P (o::post) st (KS.aa ks Q)
def KS.pO (P:Program) (o:ROp) (post:List ROp) (ks:List Nat) (Q:KQ):KS:=⟨l5 P o post ks Q⟩
def pM (P:Program) (o:ROp) (bl:List ROp) (o2:ROp) (post:List ROp) (ks:List Nat) (Q:KQ) (st:St):Prop:=dieOpW P o st Q∨aopsW P (o::bl) st (KS.pO P o2 post ks Q)
def KS.xS (P:Program) (o:ROp) (bl:List ROp) (o2:ROp) (post:List ROp) (ks:List Nat) (Q:KQ):KS:=⟨pM P o bl o2 post ks Q⟩
def KS.dt (P:Program) (T:DT) (Q:KQ):KS:=⟨fun st=>dtW P T st Q⟩
def KQ.seq (P:Program) (E:Env) (y:AK) (Q:KQ):KQ:=⟨jl (fun st=>vcW P E y Q st) Q.ap⟩
def KQ.c8 (id:Nat) (Q:KQ):KQ:=⟨blockQ id Q.ap⟩
def KQ.gH (R:KS) (Q:KQ):KQ:=⟨jl R.ap Q.ap⟩
def KS.CX (P:Program) (E:Env) (d f:Nat) (x:AE) (c:UInt8) (bk p q0:Nat) (body:AK) (Q:KQ):KS:=⟨splitK P E d f x c bk p q0 (body.erase E.B) Q.ap⟩
def CY (P:Program) (E:Env) (d f:Nat) (x:AE) (c:UInt8) (bk p q0:Nat) (body:AK) (Q:KQ) (st:St):Prop:=splitK P E d f x c bk p q0 (body.erase E.B) Q.ap st
def KS.wu (P:Program) (E:Env) (d f kx bk p1 p q0:Nat) (body:AK) (Q:KQ):KS:=⟨ni P E d f kx bk p1 p q0 (body.erase E.B) Q.ap⟩
def wq (P:Program) (E:Env) (d f kx bk p1 p q0:Nat) (body:AK) (Q:KQ) (st:St):Prop:=ni P E d f kx bk p1 p q0 (body.erase E.B) Q.ap st
def KQ.jmp (l:Nat) (R:KS) (Q:KQ):KQ:=⟨jumpQ l R.ap Q.ap⟩
def KQ.qC (Q:KQ):KQ:=⟨acg Q.ap⟩
def findK:AK→Nat→Option AK
 | .seq a b,l=>match findK a l with
  | some r=>some (.seq r b)
  | none=>findK b l
 | .label l',l=>if l'==l then some .skip else none
 | .bl x,l=>findK x l
 | _,_=>none
theorem pT (B:Nat):∀(c:AK) (l:Nat),findA (c.erase B) l=(findK c l).map (AK.erase B)
 | .seq a b,l=>by
  simp only[AK.erase,findA,findK,pT B a l]
  cases findK a l with
  | some r=>rfl
  | none=>exact pT B b l
 | .label l',l=>by
  simp only[AK.erase,findA,findK]
  split<;>rfl
 | .bl x,l=>by simp only[AK.erase,findK,pT B x l]
 | .skip,_ | .aa _ _,_ | .cond _ _ _,_ | .block _ _,_ | .loop _,_ | .exit _,_ | .ret,_ | .scope _,_ | .goto _,_ | .bad,_ | .alt _ _ _ _,_=>rfl
 | .split _ _ _ _ _ _ _ _ _,_=>rfl
 | .back _ _ _ _ _ _ _ _ _,_=>rfl
 | .cd _ _ _ _,_=>rfl
 | .mH _ _ _ _ _ _,_=>rfl
 | .gk _ _,_=>rfl
 | .iJ _ _ _ _ _,_=>rfl
 | .eD _ _,_=>rfl
def k8 (P:Program) (E:Env) (b:Bool) (x y:AK) (Q:KQ) (st:St):Prop:=(b=true→vcW P E x Q st)∧(b=false→vcW P E y Q st)
def su (P:Program) (E:Env) (v:AV) (x y:AK) (Q:KQ) (st:St):Prop:=
 match v with
 | .bool b=>k8 P E b x y Q st
 | _=>False
section
variable {P:Program} {E:Env} {st:St} {Q:KQ} {x y:AK} {R:KS}
theorem ZE {ks:List Nat}:(KS.aa ks Q).ap st=Q.ap .normal ⟨trim st.s ks,st.h⟩:=(rfl)
theorem Zz {a b:List ROp} {ks:List Nat}:(KS.alt P a b ks Q).ap st=(aopsW P a st (KS.aa ks Q)∧aopsW P b st (KS.aa ks Q)):=(rfl)
theorem Zr:(KQ.seq P E y Q).ap .normal st=vcW P E y Q st:=(rfl)
theorem Zt:(KQ.seq P E y Q).ap .ret st=Q.ap .ret st:=(rfl)
theorem Zu {i:Nat}:(KQ.seq P E y Q).ap (.exit i) st=Q.ap (.exit i) st:=(rfl)
theorem YU {i:Nat}:(KQ.c8 i Q).ap .normal st=Q.ap .normal st:=(rfl)
theorem YW {i:Nat}:(KQ.c8 i Q).ap .ret st=Q.ap .ret st:=(rfl)
theorem YX {i j:Nat}:(KQ.c8 i Q).ap (.exit j) st=if j=i then Q.ap .normal st else Q.ap (.exit j) st:=(rfl)
theorem Zq {i:Nat}:(KQ.seq P E y Q).ap (.goto i) st=Q.ap (.goto i) st:=(rfl)
theorem YT {i j:Nat}:(KQ.c8 i Q).ap (.goto j) st=Q.ap (.goto j) st:=(rfl)
theorem Zl {i:Nat}:(KQ.gH R Q).ap (.goto i) st=Q.ap (.goto i) st:=(rfl)
theorem Y4 {l:Nat}:(KQ.jmp l R Q).ap .normal st=Q.ap .normal st:=(rfl)
theorem Y6 {l:Nat}:(KQ.jmp l R Q).ap .ret st=Q.ap .ret st:=(rfl)
theorem Y7 {l i:Nat}:(KQ.jmp l R Q).ap (.exit i) st=Q.ap (.exit i) st:=(rfl)
theorem Y3 {l:Nat}:(KQ.jmp l R Q).ap (.goto l) st=R.ap st:=by simp[KQ.jmp,jumpQ]
theorem Zs {c:List PanicEntry}:(KQ.seq P E y Q).ap (.panic c) st=Q.ap (.panic c) st:=(rfl)
theorem YV {i:Nat} {c:List PanicEntry}:(KQ.c8 i Q).ap (.panic c) st=Q.ap (.panic c) st:=(rfl)
theorem Zn {c:List PanicEntry}:(KQ.gH R Q).ap (.panic c) st=Q.ap (.panic c) st:=(rfl)
theorem Y5 {l:Nat} {c:List PanicEntry}:(KQ.jmp l R Q).ap (.panic c) st=Q.ap (.panic c) st:=(rfl)
theorem Y9 {c:List PanicEntry}:(KQ.qC Q).ap (.panic c) st=Q.ap (.panic c) st:=(rfl)
theorem ZD {T:DT}:(KS.dt P T Q).ap st=dtW P T st Q:=(rfl)
theorem Nj {o:ROp} {T:DT}:dtW P (.step o T) st Q=aopsW P [o] st (KS.dt P T Q):=(rfl)
theorem Nh {T U:DT}:dtW P (.br T U) st Q=(dtW P T st Q∧dtW P U st Q):=(rfl)
def lY (P:Program) (st:St) (f:Nat) (args:List AE) (as:List AV) (Q:KQ):Prop:=as=evL st args→oW P st f args fun V st'=>Q.ap (.panic (bK V)) st'
def lX (P:Program) (q:Bool) (st:St) (f:Nat) (args:List AE) (as:List AV) (d:Option Nat) (r:List ROp) (K:KS) (Q:KQ):Prop:=lY P st f args as Q∨fT P q st f args as d r K
theorem Ni {d:Option Nat} {q:Bool} {id f:Nat} {args:List AE}:dtW P (.die (.ao d q id f args)) st Q=lY P st f args (evL st args) Q:=by
 simp[dtW,dieOpW,lY]
theorem ZB {o o2:ROp} {bl post:List ROp} {ks:List Nat}:(KS.xS P o bl o2 post ks Q).ap st=pM P o bl o2 post ks Q st:=(rfl)
theorem ZC {o:ROp} {post:List ROp} {ks:List Nat}:(KS.pO P o post ks Q).ap st=l5 P o post ks Q st:=(rfl)
theorem MJ {d:Option Nat} {q:Bool} {id f:Nat} {args:List AE} {post:List ROp} {ks:List Nat}:l5 P (.ao d q id f args) post ks Q st=lX P q st f args (evL st args) d post (KS.aa ks Q) Q:=by
 simp[l5,dieOpW,lX,lY,rW]
theorem MI {d:Option Nat} {q:Bool} {id f:Nat} {args:List AE} {o2:ROp} {bl post:List ROp} {ks:List Nat}:pM P (.ao d q id f args) bl o2 post ks Q st=lX P q st f args (evL st args) d bl (KS.pO P o2 post ks Q) Q:=by
 simp[pM,dieOpW,lX,lY,rW]
def pncW (v:AV) (Q:KQ) (st:St):Prop:=
 match v with
 | .lit (.iface t x)=>Q.ap (.panic (bK (.iface t x))) st
 | _=>False
theorem ahj {t:TypeId} {x:Value}:pncW (.lit (.iface t x)) Q st=Q.ap (.panic (bK (.iface t x))) st:=(rfl)
theorem ML {q:Bool} {id:Nat} {x:AE} {post:List ROp} {ks:List Nat}:l5 P (.an q id (.dQ x)) post ks Q st=pncW (ev st x) Q st:=by
 apply propext
 unfold l5 dieOpW pncW
 constructor
 ·rintro(⟨t,v,h1,h2⟩ | h)
  ·rw[h1];exact h2
  ·exact h.elim
 ·intro h
  split at h
  ·rename_i t v e
   exact .inl ⟨t,v,e,h⟩
  ·exact h.elim
theorem fy {d:Option Nat} {q:Bool} {f:Nat} {args:List AE} {as:List AV} {r:List ROp} {K:KS} (h:fT P q st f args as d r K):lX P q st f args as d r K Q:=.inr h
theorem Lq {f:Nat} {args:List AE} {as:List AV} {V:Value} (h0:HP) (hs:dX P f h0 as V) (hsub:dh st.h h0) (h:Q.ap (.panic (bK V)) (lO st h0)):lY P st f args as Q:=by
 rintro rfl
 rw[gX]at hs
 exact Ec h0 hs (fun i W hi=>ic hsub i W hi) h
theorem gW {d:Option Nat} {q:Bool} {f:Nat} {args:List AE} {as:List AV} {r:List ROp} {K:KS} {V:Value} (h0:HP) (hs:dX P f h0 as V) (hsub:dh st.h h0) (h:Q.ap (.panic (bK V)) (lO st h0)):lX P q st f args as d r K Q:=
 .inl (Lq h0 hs hsub h)
theorem lP {h0:HP}:lO st h0=⟨killSI (di h0) [] st.s,dropH (di h0) [] st.h⟩:=(rfl)
theorem Y8:(KQ.qC Q).ap .normal st=Q.ap .normal st:=(rfl)
theorem Za:(KQ.qC Q).ap .ret st=Q.ap .ret st:=(rfl)
theorem Zb {i:Nat}:(KQ.qC Q).ap (.exit i) st=Q.ap (.exit i) st:=(rfl)
theorem aqt {i:Nat}:vcW P E (.label i) Q st=Q.ap .normal st:=(rfl)
theorem aqs {i:Nat}:vcW P E (.goto i) Q st=Q.ap (.goto i) st:=(rfl)
theorem ZF {d f:Nat} {ae:AE} {c:UInt8} {bk p q0:Nat}:(KS.CX P E d f ae c bk p q0 x Q).ap st=CY P E d f ae c bk p q0 x Q st:=(rfl)
theorem ZA {d f kx bk p1 p q0:Nat}:(KS.wu P E d f kx bk p1 p q0 x Q).ap st=wq P E d f kx bk p1 p q0 x Q st:=(rfl)
theorem Zm:(KQ.gH R Q).ap .normal st=R.ap st:=(rfl)
theorem Zo:(KQ.gH R Q).ap .ret st=Q.ap .ret st:=(rfl)
theorem Zp {i:Nat}:(KQ.gH R Q).ap (.exit i) st=Q.ap (.exit i) st:=(rfl)
theorem aqA:vcW P E .skip Q st=Q.ap .normal st:=(rfl)
theorem aqx:vcW P E .ret Q st=Q.ap .ret st:=(rfl)
theorem aqr {i:Nat}:vcW P E (.exit i) Q st=Q.ap (.exit i) st:=(rfl)
theorem aqu {ops:List ROp} {ks:List Nat}:vcW P E (.aa ops ks) Q st=aopsW P ops st (KS.aa ks Q):=(rfl)
theorem aqz:vcW P E (.seq x y) Q st=vcW P E x (KQ.seq P E y Q) st:=(rfl)
theorem aqp {i:Nat}:vcW P E (.block i x) Q st=vcW P E x (KQ.c8 i Q) st:=(rfl)
theorem aqq {c:AE}:vcW P E (.cond c x y) Q st=su P E (ev st c) x y Q st:=by
 simp only[vcW,su];cases ev st c<;>rfl
theorem JE {b:Bool}:su P E (.bool b) x y Q st=k8 P E b x y Q st:=(rfl)
theorem Ty:k8 P E true x y Q st=vcW P E x Q st:=by simp[k8]
theorem Tx:k8 P E false x y Q st=vcW P E y Q st:=by simp[k8]
end
theorem Dg {K K':St→Prop} {Q Q':Exit→St→Prop} (hK:∀st,K st→K' st) (hQ:∀e st,Q e st→Q' e st):∀e st,jl K Q e st→jl K' Q' e st:=by
 intro e st h
 cases e<;>first | exact hK st h | exact hQ _ st h
theorem eK {P:Program} {E:Env} (hN:E.N≤1000000):∀(c:AK) {st:St} {Q:KQ},vcW P E c Q st→bC P E (c.erase E.B) st Q.ap
 | .skip,st,Q,h=>Gx h
 | .aa ops ks,st,Q,h=>by
  have h':=kH (B:=E.B) ops h
  intro n code hc a w hr
  exact uE hN hc h' hr (fun st' a' w' h1 ⟨ρ2,h2⟩=>⟨_,⟨ρ2,lu h2 (km _ ks)⟩,h1⟩)
 | .seq x y,st,Q,h=>Gw (bC.mono (eK hN x h) (Dg (fun st' h'=>eK hN y h') (fun _ _ h=>h)))
 | .cond c x y,st,Q,h=>by
  simp only[vcW]at h
  split at h
  ·rename_i b hb
   exact Gp hb (fun e=>eK hN x (h.1 e)) (fun e=>eK hN y (h.2 e))
  ·exact h.elim
 | .block id x,st,Q,h=>Gn (eK hN x h)
 | .loop x,st,Q,h=>h
 | .exit id,st,Q,h=>Gq h
 | .ret,st,Q,h=>Gu h
 | .bl x,st,Q,h=>h
 | .scope x,st,Q,h=>h
 | .label l,st,Q,h=>Gs h
 | .goto l,st,Q,h=>Gr h
 | .split ops d f x c bk p q0 body,st,Q,h=>Gy hN (kH (B:=E.B) ops h)
 | .back ops d f kx bk p1 p q0 body,st,Q,h=>Gm hN (kH (B:=E.B) ops h)
 | .alt p x y ks,st,Q,h=>by
  intro n code hc a w hr
  refine E8 hN hc (K:=fun st=>Q.ap .normal ⟨trim st.s ks,st.h⟩) ?_ hr (fun st' a' w' h1 ⟨ρ2,h2⟩=>⟨_,⟨ρ2,lu h2 (km _ ks)⟩,h1⟩)
  exact cS (B:=E.B) (fun st h=>⟨kH (B:=E.B) x h.1,kH (B:=E.B) y h.2⟩) p h
 | .gk T ks,st,Q,h=>by
  intro n code hc a w hr
  refine E7 hN hc (K:=fun st=>Q.ap .normal ⟨trim st.s ks,st.h⟩) ?_ hr (fun st' a' w' h1 ⟨ρ2,h2⟩=>⟨_,⟨ρ2,lu h2 (km _ ks)⟩,h1⟩)
  exact uQ (B:=E.B) (fun _ h=>h) T h
 | .cd pre o post ks,st,Q,h=>by
  intro n code hc a w hr
  exact BU hN hc hr (K:=fun st=>Q.ap .normal ⟨trim st.s ks,st.h⟩) (fun st' a' w' h1 ⟨ρ2,h2⟩=>⟨_,⟨ρ2,lu h2 (km _ ks)⟩,h1⟩) (fun V st' a' w' h1 h2=>⟨st',h2,h1⟩) (sM (B:=E.B) (fun _ h=>h) pre h)
 | .mH pre o md o2 post ks,st,Q,h=>by
  intro n code hc a w hr
  exact BU hN hc hr (K:=fun st=>Q.ap .normal ⟨trim st.s ks,st.h⟩) (fun st' a' w' h1 ⟨ρ2,h2⟩=>⟨_,⟨ρ2,lu h2 (km _ ks)⟩,h1⟩) (fun V st' a' w' h1 h2=>⟨st',h2,h1⟩) (xT (B:=E.B) (fun _ h=>h) pre h)
 | .iJ p x y ks T,st,Q,h=>by
  intro n code hc a w hr
  refine E6 hN hc hr (K:=fun st=>Q.ap .normal ⟨trim st.s ks,st.h⟩) (KD:=fun V st=>Q.ap (.panic (bK V)) st) (fun st' a' w' h1 ⟨ρ2,h2⟩=>⟨_,⟨ρ2,lu h2 (km _ ks)⟩,h1⟩) (fun V st' a' w' h1 h2=>⟨st',h2,h1⟩) ?_
  rcases h with h | h
  ·exact .inl (cS (B:=E.B) (fun st h=>⟨kH (B:=E.B) x h.1,kH (B:=E.B) y h.2⟩) p h)
  ·exact .inr (pR T h.1 h.2)
 | .eD _ _,st,Q,h=>h.elim
 | .bad,st,Q,h=>h.elim
theorem Z7 {s s':List (Nat×AV)} {h h':HP}:Af ⟨s,h⟩ ⟨s',h'⟩=(dF s s'∧dh h h'):=(rfl)
theorem Z5 {s:List (Nat×AV)}:dF s []=True:=(rfl)
theorem Z4 {s r:List (Nat×AV)} {k:Nat} {v:AV}:dF s ((k,v)::r)=(sget s k=some v∧dF s r):=(rfl)
theorem Z2 {s:HP}:dh s []=True:=(rfl)
theorem Z1 {s r:HP} {k:Nat} {v:aG}:dh s ((k,v)::r)=(hget s k=some v∧dh s r):=(rfl)
theorem ba {P:Program} {E:Env} {x:AK} {Q:KQ} {st:St} {α:Type} (hN:E.N≤1000000) (f:α→St) (inv:α→Prop) (ms:α→Nat) (a0:α) (h0:Wk st (f a0)) (hi:inv a0)
    (round:∀a (R:KS),inv a→(∀b st',ms b<ms a→inv b→Wk st' (f b)→R.ap st')→vcW P E x (KQ.gH R Q) (f a)):vcW P E (.loop x) Q st:=by
 show bC P E (.loop (x.erase E.B)) st Q.ap
 refine Gt (fun n s=>∃a,inv a∧n=ms a∧Wk s (f a)) (ms a0) ⟨a0,hi,rfl,h0⟩ ?_
 rintro n s ⟨a,h1,rfl,hle⟩
 refine o9 hle (bC.mono (eK hN x (round a ⟨fun s=>∃m,m<ms a∧∃a,inv a∧m=ms a∧Wk s (f a)⟩ h1 (fun b st' g1 g2 g3=>⟨ms b,g1,b,g2,rfl,g3⟩))) ?_)
 intro e s h
 exact h
theorem gK {P:Program} {E:Env} {x y:AK} {Q:KQ} {st:St} {α:Type} (hN:E.N≤1000000) (f:α→St) (inv:α→Prop)
    (h1:∀R:KS,(∀a st',inv a→Wk st' (f a)→R.ap st')→vcW P E x (KQ.gH R Q) st) (h2:∀a,inv a→vcW P E y Q (f a)):vcW P E (.seq x (.bl y)) Q st:=
 h1 ⟨fun st=>bC P E (y.erase E.B) st Q.ap⟩ (fun a st' g1 g2=>o9 g2 (eK hN y (h2 a g1)))
theorem aob {P:Program} {E:Env} {d f bk p q0:Nat} {x:AE} {c:UInt8} {body:AK} {Q:KQ} {st:St} (hN:E.N≤1000000) (hrd:E.rd=none) (hS:rN P f) (hq0:q0<1000000) {s:List UInt8} (hx:ev st x=.str s) (hlen:s.length≤9223372036854775807)
    {α:Type} (s0:List (Nat×AV)) (H:α→HP) (inv:Nat→α→Prop) (x0:α) (h0:Wk st ⟨s0,H x0⟩) (hi:inv 0 x0) (hd0:sget s0 d=none) (hk0:s0.all (fun q=>decide (q.1<3000000))=true)
    (round:∀(E2:Env) k y (R:KQ),E2.N≤1000000→inv k y→k<(splitB c s).length→(∀y' st',inv (k+1) y'→Wk st' ⟨ghost s0,H y'⟩→R.ap .normal st')→(∀st' h',Wk st' ⟨ghost s0,h'⟩→Q.ap .ret ⟨s0,h'⟩→R.ap .ret st') →
     (∀i st' h',Wk st' ⟨ghost s0,h'⟩→(KQ.c8 bk Q).ap (.exit i) ⟨s0,h'⟩→R.ap (.exit i) st')→vcW P E2 body R ⟨(q0,.str ((splitB c s).getD k []))::(p,.str ((splitB c s).getD k []))::(s0++ghost s0),H y⟩)
    (done:∀y,inv (splitB c s).length y→Q.ap .normal ⟨s0,H y⟩):CY P E d f x c bk p q0 body Q st:=by
 intro n ops o b a w hd hdN hg hnd htr hb hr
 refine aoc (body:=body.erase E.B) hN hrd hq0 hS hx hlen s0 H inv x0 h0 hi hd0 (fun k v hk=>?_) (fun E2 k y h1 h2 h3 h4=>?_) done hd hg hnd htr hdN hb hr
 ·have key:∀(l:List (Nat×AV)),l.all (fun q=>decide (q.1<3000000))=true→sget l k=some v→k<3000000:=by
   intro l
   induction l with
   | nil=>intro _ h;simp[sget]at h
   | cons q r ih=>
    obtain⟨j,u⟩:=q
    intro hl h
    simp only[List.all_cons,Bool.and_eq_true,decide_eq_true_eq]at hl
    simp only[sget]at h
    split at h
    ·rename_i e;omega
    ·exact ih hl.2 h
  exact key s0 hk0 hk
 ·rw[←h2]
  exact eK (by omega) body (round E2 k y ⟨qZ (fun st'=>∃y',inv (k+1) y'∧Wk st' ⟨ghost s0,H y'⟩) s0 (blockQ bk Q.ap)⟩ (by omega) h3 h4 (fun y' st' g1 g2=>⟨y',g1,g2⟩) (fun st' h' g1 g2=>⟨h',g1,g2⟩) (fun i st' h' g1 g2=>⟨h',g1,g2⟩))
theorem GP {P:Program} {E:Env} {d f kx bk p1 p q0:Nat} {body:AK} {Q:KQ} {st:St} (hN:E.N≤1000000) (hrd:E.rd=none) (hS:rI P f) (hq0:q0<1000000) {xs:List (List UInt8)} (hlen:xs.length≤9223372036854775807)
    {α:Type} (s0:List (Nat×AV)) (H:α→HP) (inv:Nat→α→Prop) (x0:α) (h0:Wk st ⟨s0,H x0⟩) (hi:inv 0 x0) (hd0:sget s0 d=none) (hp1:sget s0 p1=none) (hkx:sget s0 kx=some (.ro 1 (xs.map .str))) (hkN:kx<d) (hpp:p1≠p) (hk0:s0.all (fun q=>decide (q.1<3000000))=true)
    (round:∀(E2:Env) k y (R:KQ),E2.N≤1000000→inv k y→k<xs.length→(∀y' st',inv (k+1) y'→Wk st' ⟨ghost s0,H y'⟩→R.ap .normal st')→(∀st' h',Wk st' ⟨ghost s0,h'⟩→Q.ap .ret ⟨s0,h'⟩→R.ap .ret st') →
     (∀i st' h',Wk st' ⟨ghost s0,h'⟩→(KQ.c8 bk Q).ap (.exit i) ⟨s0,h'⟩→R.ap (.exit i) st')→vcW P E2 body R ⟨(q0,.str (xs.getD (xs.length-1-k) []))::(p,.str (xs.getD (xs.length-1-k) []))::(s0++ghost s0),H y⟩)
    (done:∀y,inv xs.length y→Q.ap .normal ⟨s0,H y⟩):wq P E d f kx bk p1 p q0 body Q st:=by
 intro n ops o b a w hd hdN hg hnd htr hb hr
 refine GR (body:=body.erase E.B) hN hrd hq0 hS hlen s0 H inv x0 h0 hi hd0 hp1 hkx (Nat.lt_trans hkN hdN) hpp (fun k v hk=>?_) (fun E2 k y h1 h2 h3 h4=>?_) done hd hg hnd htr hdN hb hr
 ·have key:∀(l:List (Nat×AV)),l.all (fun q=>decide (q.1<3000000))=true→sget l k=some v→k<3000000:=by
   intro l
   induction l with
   | nil=>intro _ h;simp[sget]at h
   | cons q r ih=>
    obtain⟨j,u⟩:=q
    intro hl h
    simp only[List.all_cons,Bool.and_eq_true,decide_eq_true_eq]at hl
    simp only[sget]at h
    split at h
    ·rename_i e;omega
    ·exact ih hl.2 h
  exact key s0 hk0 hk
 ·rw[←h2]
  exact eK (by omega) body (round E2 k y ⟨qZ (fun st'=>∃y',inv (k+1) y'∧Wk st' ⟨ghost s0,H y'⟩) s0 (blockQ bk Q.ap)⟩ (by omega) h3 h4 (fun y' st' g1 g2=>⟨y',g1,g2⟩) (fun st' h' g1 g2=>⟨h',g1,g2⟩) (fun i st' h' g1 g2=>⟨h',g1,g2⟩))
theorem fR {P:Program} {E:Env} {x:AK} {Q:KQ} {st:St} (hN:E.N≤1000000) (h:vcW P E x Q st):vcW P E (.bl x) Q st:=eK hN x h
theorem lH {P:Program} {E:Env} {x:AK} {Q:KQ} {st:St} (hN:E.N≤1000000) (st':St) (hle:Wk st st') (h:vcW P E x Q st'):vcW P E (.bl x) Q st:=o9 hle (eK hN x h)
section
variable {P:Program} {q:Bool} {st:St} {f:Nat} {args:List AE} {as:List AV} {d:Option Nat} {r:List ROp} {K:KS} {Post:HP→AV→List AV→Prop}
def aN (P:Program) (f:Nat) (as:List AV) (v:AV):Prop:=Spec P f [] as (fun h r _=>h=[]∧r=v)
theorem aC {v:AV} (hs:aN P f as v) (hn:as.all bA=true) (hv:dv v=true) (h:aopsW P r (put st d v) K):fT P q st f args as d r K:=by
 rintro rfl
 refine vL hs (by simpa using hn) ?_
 rintro h' r' as' ⟨rfl,rfl⟩
 exact⟨rfl,hv,h⟩
theorem gS (hs:Spec P f [] as Post) (hn:as.all bA=true) (h:∀h' v as',Post h' v as'→h'=[]∧dv v=true∧aopsW P r (put st d v) K):fT P q st f args as d r K:=by
 rintro rfl
 exact vL hs (by simpa using hn) h
def borL (h:HP):List AV→List AV
 | []=>[]
 | x::r=>borrow h x::borL h r
theorem wR (h:HP):∀l,borL h l=l.map (borrow h)
 | []=>rfl
 | x::r=>by simp[borL,wR h r]
theorem Iw {v:AV} {bs:List AV} (hb:borL st.h as=bs) (hs:aN P f bs v) (hv:dp v=true) (h:aopsW P r (put st d v) K):fT P q st f args as d r K:=by
 rintro rfl
 subst hb
 refine Ed (Post:=fun h r _=>h=[]∧r=v) (by rw[wR,List.map_map]at hs;exact hs) ?_
 rintro h' r' as' ⟨rfl,rfl⟩
 exact⟨rfl,hv,h⟩
theorem bj (h0:HP) (hs:Spec P f h0 as Post) (hsub:dh st.h h0) (hq:q=true→h0=[])
    (h:∀h' v as',Post h' v as'→ia h' h'=true∧de h' v=true∧aopsW P r (put (fv st h0 args h' as') d v) K):fT P q st f args as d r K:=by
 rintro rfl
 exact Ee h0 hs (fun i W hi=>ic hsub i W hi) hq h
def kL (h0 h:HP):List AV→List AV
 | []=>[]
 | x::r=>bor h0 h x::kL h0 h r
theorem wS (h0 h:HP):∀l,kL h0 h l=l.map (bor h0 h)
 | []=>rfl
 | x::r=>by simp[kL,wS h0 h r]
theorem nq (h0:HP) {bs:List AV} (hb:kL h0 st.h as=bs) (hs:Spec P f h0 bs Post) (hsub:dh st.h h0) (hq:q=true→h0=[])
    (h:∀h' v as',Post h' v as'→flH h' h'=true∧dM h' v=true∧aopsW P r (put (fv st h0 args h' as') d v) K):fT P q st f args as d r K:=by
 rintro rfl
 subst hb
 rw[wS,List.map_map]at hs
 exact Eb h0 hs (fun i W hi=>ic hsub i W hi) hq h
def ly:List AV→List AV
 | []=>[]
 | x::r=>stripV x::ly r
def lQ:List AV→Prop
 | []=>True
 | x::r=>aB true x∧lQ r
theorem C0:∀l,ly l=l.map stripV
 | []=>rfl
 | x::r=>by simp[ly,C0 r]
theorem vT:∀{l:List AV},lQ l→∀x∈l,aB true x
 | [],_,x,hx=>by cases hx
 | y::r,h,x,hx=>by
  rcases List.mem_cons.1 hx with rfl | hx
  ·exact h.1
  ·exact vT h.2 x hx
theorem RV.strip {X:Nat→Prop} {w:World} {ρ:Loc} {v:Value} {x:AV} (h:RV X w ρ v x) (hc:aB true x):RV X w ρ v (stripV x):=by
 cases x with
 | gd b y=>exact h.kW (hc rfl)
 | _=>exact h
theorem jU {d:Nat} {v:AV} {bs:List AV} (hb:ly as=bs) (hs:aN P f bs v) (hc:lQ as) (hn:bs.all bA=true) (hv:dv v=true) (h:aopsW P r ⟨(d,.gd true v)::st.s,st.h⟩ K):sj P q st f args as d r K:=by
 rintro rfl
 subst hb
 rw[C0,List.map_map]at hs hn
 intro E ρ a w vs h1 hvs hrv
 have hlt:∀b,XX E.X0 ρ st.h b→b<w.heap.size:=by
  intro b hb
  rcases hb with hb | hb
  ·exact h1.x0 b hb
  ·exact fu h1 hb
 refine(hs (XX E.X0 ρ st.h) aZ w vs (mo _ _ _) (h1.ct.mono fun _ hb=>(fZ hb).elim) hlt (by simpa using hvs) (fun j v x e1 e2=>?_)).mono ?_
 ·rw[List.getElem?_map]at e2
  obtain⟨y,g1,rfl⟩:=Option.map_eq_some_iff.1 e2
  have hy:=(hrv j v y e1 g1).1.strip (vT hc _ (List.mem_map_of_mem (List.mem_of_getElem? g1)))
  have hm:(stripV (ev st y))∈args.map (stripV∘ev st):=List.mem_map.2 ⟨y,List.mem_of_getElem? g1,rfl⟩
  exact(hy.rB (List.all_eq_true.1 hn _ hm) aZ).mono (fun _ _ _=>rfl) (fun b _ hb=>fun hx=>hb (mT.1 hx)) _ (fun _ _ h=>h)
 ·rintro e w' ⟨v,h',r,ρ',as,rfl,⟨rfl,rfl⟩,_,g2,_,_,g3,g4,g5,g6,g7,_⟩
  have hsame:aL w w':=⟨g3,g4,g5,g6,fun b hb=>g7 b hb fZ⟩
  exact⟨v,ρ,st,_,rfl,h1.same hsame,(g2.Dh hv ρ).mono (fun _ _ _=>rfl) (fun b _ hb=>fun hx=>hb (mT.2 hx)) ρ (fun _ _ h=>h),h,fun _=>hsame⟩
theorem mi {d:Nat} (h:sj P q st f args as d r K):p4 P q (some true) st f args as d r K:=fun e=>.inr (.inl ⟨rfl,h e⟩)
theorem dq {d:Nat} (h:aopsW P r ⟨(d,.gd false .undef)::st.s,st.h⟩ K):p4 P q (some false) st f args as d r K:=fun _=>.inl ⟨rfl,h⟩
end
def cP (Post R:HP→AV→List AV→Prop):Prop:=∀h' r' ar' h r ar,ar'.length=ar.length→Wk ⟨(0,r)::numbered 1 ar,h⟩ ⟨(0,r')::numbered 1 ar',h'⟩→Post h' r' ar'→R h r ar
theorem tT {s:List (Nat×AV)}:∀{s':List (Nat×AV)},(∀k v,(k,v)∈s'→sget s k=some v)→dF s s'
 | [],_=>trivial
 | (k,v)::r,h=>⟨h k v (List.mem_cons_self ..),tT (fun k' v' hm=>h k' v' (List.mem_cons_of_mem _ hm))⟩
theorem ua:∀{l:List AV} {k j:Nat} {x:AV},(j,x)∈numbered k l→k≤j∧l[j-k]?=some x
 | [],k,j,x,h=>by simp[numbered]at h
 | y::r,k,j,x,h=>by
  simp only[numbered,List.mem_cons,Prod.mk.injEq]at h
  rcases h with⟨rfl,rfl⟩ | h
  ·exact⟨Nat.le_refl _,by simp⟩
  ·obtain⟨h1,h2⟩:=ua h
   exact⟨by omega,by rw[show j-k=(j-(k+1))+1 by omega];simpa using h2⟩
theorem Z3 (r:AV) (ar:List AV):dF ((0,r)::numbered 1 ar) ((0,r)::numbered 1 ar):=by
 refine tT fun k v hm=>?_
 rcases List.mem_cons.1 hm with h | h
 ·injection h with h1 h2;subst h1;subst h2;simp[sget]
 ·obtain⟨h1,h2⟩:=ua h
  simp only[sget]
  rw[if_neg (by omega)]
  have:=mL ar 1 (k-1) v h2
  rwa[show 1+(k-1)=k by omega]at this
theorem Z6 (r r':AV) (ar:List AV):dF ((0,r')::(0,r)::numbered 1 ar) ((0,r')::numbered 1 ar):=by
 refine tT fun k v hm=>?_
 rcases List.mem_cons.1 hm with h | h
 ·injection h with h1 h2;subst h1;subst h2;simp[sget]
 ·obtain⟨h1,h2⟩:=ua h
  simp only[sget]
  rw[if_neg (by omega),if_neg (by omega)]
  have:=mL ar 1 (k-1) v h2
  rwa[show 1+(k-1)=k by omega]at this
section
variable {Post R:HP→AV→List AV→Prop}
theorem cP.le (hF:cP Post R) {h h':HP} {r:AV} {ar:List AV} (hl:dh h h') (hp:Post h' r ar):R h r ar:=hF h' r ar h r ar rfl (.le ⟨Z3 r ar,hl⟩) hp
theorem cP.ro (hF:cP Post R) {h:HP} {r:AV} {ar:List AV} (hp:Post [] r ar):R h r ar:=cP.le (h':=[]) hF trivial hp
theorem cP.val (hF:cP Post R) {h:HP} {r r':AV} {ar:List AV} (hv:mY r r') (hp:Post [] r' ar):R h r ar:=
 hF [] r' ar h r ar rfl (.val 0 r r' rfl hv (.le ⟨Z6 r r' ar,trivial⟩)) hp
theorem cP.wk (hF:cP Post R) {h':HP} {r':AV} {ar':List AV} {h:HP} {r:AV} {ar:List AV} (hlen:ar'.length=ar.length) (hw:Wk ⟨(0,r)::numbered 1 ar,h⟩ ⟨(0,r')::numbered 1 ar',h'⟩) (hp:Post h' r' ar'):R h r ar:=hF h' r' ar' h r ar hlen hw hp
theorem sX:cP Post (fun h r ar=>∃h2 r2 as2,as2.length=ar.length∧Wk ⟨(0,r)::numbered 1 ar,h⟩ ⟨(0,r2)::numbered 1 as2,h2⟩∧Post h2 r2 as2):=
 fun h' r' ar' _ _ _ h1 h2 h3=>⟨h',r',ar',h1,h2,h3⟩
end
theorem RV.C4 {X:Nat→Prop} {w:World} {ρ:Loc} {v:Value} {s:List UInt8} (h:RV X w ρ v (.str s)):v=.string ⟨s.toArray⟩:=by cases h;rfl
theorem RV.HO {X:Nat→Prop} {w:World} {ρ:Loc} {v:Value} {b:Bool} (h:RV X w ρ v (.bool b)):v=.bool b:=by cases h;rfl
theorem RV.aan {X:Nat→Prop} {w:World} {ρ:Loc} {v x:Value} (h:RV X w ρ v (.lit x)):v=x:=by cases h;rfl
def valOf:AV→Value
 | .bool b=>.bool b
 | .int k n=>.int k n
 | .fl k b=>.float k b
 | .cx k a b=>.complex k a b
 | .str s=>.string ⟨s.toArray⟩
 | .aq=>.slice none 0 0
 | .lit x=>x
 | _=>undef
def isVal:AV→Bool
 | .bool _ | .int _ _ | .fl _ _ | .cx _ _ _ | .str _ | .aq | .lit _=>true
 | _=>false
theorem RV.valOf {X:Nat→Prop} {w:World} {ρ:Loc} {v:Value} {x:AV} (h:RV X w ρ v x) (hx:isVal x=true):v=valOf x:=by
 cases h<;>first | rfl | cases hx
theorem eJ {X:Nat→Prop} {w:World} {ρ:Loc} {x:AV} (hx:isVal x=true):RV X w ρ (valOf x) x:=by
 cases x<;>first | (cases hx;done) | skip
 ·exact .bool _ _
 ·exact .int _ _ _
 ·exact .fl _ _ _
 ·exact .cx _ _ _ _
 ·exact .str _ _
 ·exact .lit _ _
 ·exact .aq _
def nG:AV→Bool
 | .ai vs=>vs.all isVal
 | x=>isVal x
def oJ:AV→Value
 | .ai vs=>.tuple (vs.map valOf).toArray
 | x=>valOf x
theorem aqg {X:Nat→Prop} {w:World} {ρ:Loc} {x:AV} (hx:nG x=true):RV X w ρ (oJ x) x:=by
 cases x with
 | ai vs=>
  refine .ai _ _ _ (by simp) (fun j v a h1 h2=>?_)
  simp only[List.getElem?_toArray,List.getElem?_map,h2,Option.map_some,Option.some.injEq]at h1
  subst h1
  exact eJ (List.all_eq_true.1 hx a (List.mem_of_getElem? h2))
 | bool b=>exact eJ (x:=.bool b) hx
 | int k n=>exact eJ (x:=.int k n) hx
 | fl k b=>exact eJ (x:=.fl k b) hx
 | cx k a b=>exact eJ (x:=.cx k a b) hx
 | str s=>exact eJ (x:=.str s) hx
 | lit x=>exact eJ (x:=.lit x) hx
 | aq=>exact eJ (x:=.aq) hx
 | undef=>exact eJ (x:=.undef) hx
 | ro sz es=>exact eJ (x:=.ro sz es) hx
 | aA x=>exact eJ (x:=.aA x) hx
 | sl i o n=>exact eJ (x:=.sl i o n) hx
 | ptr i j f=>exact eJ (x:=.ptr i j f) hx
 | ab i f=>exact eJ (x:=.ab i f) hx
 | agg cs=>exact eJ (x:=.agg cs) hx
 | gd b x=>exact eJ (x:=.gd b x) hx
 | aK f cs=>exact eJ (x:=.aK f cs) hx
theorem CU {P:Program} {f:Nat} {as:List AV} {Q:AV→Prop} (ha:as.all isVal=true)
    (h:∀w:World,iD w→Calls P f (as.map valOf).toArray w fun e w'=>∃v,Q v∧nG v=true∧e=.returned (oJ v)∧Go.RowKit.Below w.heap.size w w'):Spec P f [] as (fun h r _=>h=[]∧Q r):=by
 intro X0 ρ w vs h1 hA h2 h3 h4
 have hvs:vs=(as.map valOf).toArray:=by
  apply Array.ext (by simpa using h3)
  intro j g1 g2
  have hj:j<as.length:=by omega
  have:=(h4 j _ as[j] (Array.getElem?_eq_getElem g1) (List.getElem?_eq_getElem hj)).valOf (List.all_eq_true.1 ha _ (List.getElem_mem hj))
  rw[this];simp
 rw[hvs]
 refine(h w hA.1).mono ?_
 rintro e w' ⟨v,hQ,hv,rfl,hb⟩
 refine⟨_,[],v,ρ,as,rfl,⟨rfl,hQ⟩,mo _ _ _,aqg hv,rfl,fun j u x e1 e2=>?_,hb.os,hb.tape,hb.output,hb.size,fun b hb' _=>hb.block b hb',fun b hb'=>(fZ hb').elim⟩
 rw[hvs]at h4
 have:=(h4 j u x e1 e2).valOf (List.all_eq_true.1 ha _ (List.mem_of_getElem? e2))
 rw[this]
 exact eJ (List.all_eq_true.1 ha _ (List.mem_of_getElem? e2))
theorem u0 {P:Program} {f:Nat} {as:List AV} {v:AV} (ha:as.all isVal=true) (hv:nG v=true)
    (h:∀w:World,iD w→Calls P f (as.map valOf).toArray w fun e w'=>e=.returned (oJ v)∧Go.RowKit.Below w.heap.size w w'):aN P f as v:=
 CU (Q:=fun r=>r=v) ha (fun w hA=>(h w hA).mono (fun e w' ⟨h1,h2⟩=>⟨v,rfl,hv,h1,h2⟩))
theorem CV {P:Program} {f:Nat} {as:List AV} {v:AV} (ha:as.all isVal=true) (hv:nG v=true)
    (h:∀w:World,Calls P f (as.map valOf).toArray w fun e w'=>e=.returned (oJ v)∧Go.RowKit.Below w.heap.size w w'):aN P f as v:=u0 ha hv (fun w _=>h w)
theorem u5 {P:Program} {f:Nat} {as:List AV} {v:AV} (ha:as.all isVal=true) (hv:nG v=true)
    (h:∀w:World,Calls P f (as.map valOf).toArray w fun e w'=>e=.returned (oJ v)∧w'=w):aN P f as v:=
 CV ha hv (fun w=>(h w).mono (fun e w' ⟨h1,h2⟩=>⟨h1,by rw[h2];exact .refl _ _⟩))
def KQ.post (rs:List RVar) (m:Nat) (R:HP→AV→List AV→Prop):KQ:=⟨postQ rs m R⟩
theorem o8 {P:Program} {E:Env} {c:AC} {st:St} {Q:Exit→St→Prop} (s':List (Nat×AV)) (hs:dF st.s s') (h:bC P E c ⟨s',st.h⟩ Q):bC P E c st Q:=
 fun n code hc a w hr=>h n code hc a w (by obtain⟨ρ,hr⟩:=hr;exact⟨ρ,lu hr hs⟩)
theorem aiJ {st:St} {t:Nat} (ht:t<2000000):resOf st [.tmp t]=some (ev st (.t t)):=by simp[resOf,resAV,trE,ht]
theorem aiL {st:St} {t u:Nat} (ht:t<2000000) (hu:u<2000000):resOf st [.tmp t,.tmp u]=some (.ai [ev st (.t t),ev st (.t u)]):=by simp[resOf,resAV,trE,ht,hu]
theorem aiK {st:St} {t u v:Nat} (ht:t<2000000) (hu:u<2000000) (hv:v<2000000):resOf st [.tmp t,.tmp u,.tmp v]=some (.ai [ev st (.t t),ev st (.t u),ev st (.t v)]):=by simp[resOf,resAV,trE,ht,hu,hv]
theorem aiI {st:St} {t u v x:Nat} (ht:t<2000000) (hu:u<2000000) (hv:v<2000000) (hx:x<2000000):resOf st [.tmp t,.tmp u,.tmp v,.tmp x]=some (.ai [ev st (.t t),ev st (.t u),ev st (.t v),ev st (.t x)]):=by simp[resOf,resAV,trE,ht,hu,hv,hx]
section
variable {m:Nat} {R:HP→AV→List AV→Prop} {st:St} {t u v x:Nat}
theorem Zg:(KQ.post [] m R).ap .ret st=R st.h (.ai []) (argsAgain st 0 m):=by simp[KQ.post,postQ,resOf,resAV]
theorem Zf:(KQ.post [] m R).ap .normal st=R st.h (.ai []) (argsAgain st 0 m):=by simp[KQ.post,postQ,resOf,resAV]
theorem Zh (ht:t<2000000):(KQ.post [.tmp t] m R).ap .ret st=R st.h (ev st (.t t)) (argsAgain st 0 m):=by simp[KQ.post,postQ,aiJ ht]
theorem Zi (ht:t<2000000) (hu:u<2000000):(KQ.post [.tmp t,.tmp u] m R).ap .ret st=R st.h (.ai [ev st (.t t),ev st (.t u)]) (argsAgain st 0 m):=by simp[KQ.post,postQ,aiL ht hu]
theorem Zj (ht:t<2000000) (hu:u<2000000) (hv:v<2000000):(KQ.post [.tmp t,.tmp u,.tmp v] m R).ap .ret st=R st.h (.ai [ev st (.t t),ev st (.t u),ev st (.t v)]) (argsAgain st 0 m):=by simp[KQ.post,postQ,aiK ht hu hv]
theorem Zk (ht:t<2000000) (hu:u<2000000) (hv:v<2000000) (hx:x<2000000):(KQ.post [.tmp t,.tmp u,.tmp v,.tmp x] m R).ap .ret st=R st.h (.ai [ev st (.t t),ev st (.t u),ev st (.t v),ev st (.t x)]) (argsAgain st 0 m):=by simp[KQ.post,postQ,aiI ht hu hv hx]
end
def KQ.dies (V:Value):KQ:=⟨sK V⟩
theorem k9 {V:Value} {st:St}:(KQ.dies V).ap (.panic (bK V)) st=True:=by simp[KQ.dies,sK]
def KQ.guard (rs:List RVar) (m:Nat) (V:Value) (zA:AV) (R:HP→AV→List AV→Prop):KQ:=⟨Qe rs m V zA R⟩
def guardP2 (rs:List RVar) (m:Nat) (zA:AV) (R:HP→AV→List AV→Prop) (st:St) (id:Nat):Option aG→Prop
 | some (.var [_])=>(KQ.post rs m R).ap .ret ⟨st.s,bx st.h id (.var [zA])⟩
 | _=>False
def guardP (rs:List RVar) (m:Nat) (zA:AV) (R:HP→AV→List AV→Prop) (st:St):Option AV→Prop
 | some (.ab id 0)=>guardP2 rs m zA R st id (hget st.h id)
 | _=>False
theorem yZ {rs:List RVar} {m id:Nat} {zA:AV} {R:HP→AV→List AV→Prop} {st:St}:guardP rs m zA R st (some (.ab id 0))=guardP2 rs m zA R st id (hget st.h id):=(rfl)
theorem Qd {rs:List RVar} {m id:Nat} {zA c:AV} {R:HP→AV→List AV→Prop} {st:St}:guardP2 rs m zA R st id (some (.var [c]))=(KQ.post rs m R).ap .ret ⟨st.s,bx st.h id (.var [zA])⟩:=(rfl)
theorem Y2 {rs:List RVar} {m:Nat} {V:Value} {zA:AV} {R:HP→AV→List AV→Prop} {st:St}:(KQ.guard rs m V zA R).ap .ret st=(KQ.post rs m R).ap .ret st:=(rfl)
theorem Y1 {rs:List RVar} {m:Nat} {V:Value} {zA:AV} {R:HP→AV→List AV→Prop} {st:St}:(KQ.guard rs m V zA R).ap (.panic (bK V)) st=guardP rs m zA R st (sget st.s (2000000+m)):=by
 apply propext
 constructor
 ·rintro⟨_,id,c,h1,h2,h3⟩
  rw[h1,yZ,h2]
  exact h3
 ·intro h
  unfold guardP at h
  split at h
  ·rename_i id h1
   unfold guardP2 at h
   split at h
   ·rename_i c h2
    exact⟨rfl,id,c,h1,h2,h⟩
   ·exact h.elim
  ·exact h.elim
def KQ.eD (P:Program) (k m:Nat) (y:AK) (rs:List RVar) (V:Value) (zA:AV) (R:HP→AV→List AV→Prop):KQ:=
 ⟨fun e st=>e=.normal∧∃id,ev st (.t k)=.ab id 0∧∀E':Env,E'.N≤1000000→vcW P E' y (KQ.guard rs m V zA R) ⟨(2000000+m,.ab id 0)::st.s,st.h⟩⟩
theorem an3 {P:Program} {f:Nat} {fn:Func} {body:Code} {h:HP} {args:List AV} {x:AK} {V:Value} (hf:P.funcs[f]?=some fn) (hb:fn.body=some body) {B:Nat}
    (hc:trCode P fn.ntmps B body=x.erase B) (hN:fn.ntmps≤1000000) (ha:args.length≤fn.ntmps) (s:List (Nat×AV)) (hs:dF (fL args) s)
    (hp:∀(E:Env),E.N≤1000000→vcW P E x (KQ.dies V) ⟨s,h⟩):dX P f h args V:=by
 refine an4 hf hb hc hN ha (fun E hE hB hrd=>?_)
 have hEN:E.N≤1000000:=by rw[hE];exact hN
 have h1:=eK hEN x (hp E hEN)
 rw[hB]at h1
 exact o8 s hs h1
def retCC (o p:Option AV) (R:HP→AV→List AV→Prop) (h:HP) (as:List AV):Prop:=
 match o,p with
 | some x,some y=>R h (.ai [x,y]) as
 | _,_=>False
theorem aiP {x y:AV} {R:HP→AV→List AV→Prop} {h:HP} {as:List AV}:retCC (some x) (some y) R h as=R h (.ai [x,y]) as:=(rfl)
theorem Ze {m n t u k:Nat} {ag bg:Bool} {R:HP→AV→List AV→Prop} {st:St}:(KQ.post [.cell t ag n,.cell u bg k] m R).ap .ret st=retCC (resC st ag n (sget st.s t)) (resC st bg k (sget st.s u)) R st.h (argsAgain st 0 m):=by
 simp only[KQ.post,postQ,resOf,resAV]
 cases resC st ag n (sget st.s t)<;>cases resC st bg k (sget st.s u)<;>simp[consO,retCC]
def retC (o:Option AV) (ys:List AV) (R:HP→AV→List AV→Prop) (h:HP) (as:List AV):Prop:=
 match o,ys with
 | some x,[]=>R h x as
 | some x,ys=>R h (.ai (x::ys)) as
 | none,_=>False
theorem P4:ghost []=[]:=(rfl)
theorem P3 {k:Nat} {v:AV} {r:List (Nat×AV)}:ghost ((k,v)::r)=(3000000+k,v)::ghost r:=(rfl)
theorem aiQ {x:AV} {R:HP→AV→List AV→Prop} {h:HP} {as:List AV}:retC (some x) [] R h as=R h x as:=(rfl)
theorem aiR {x y:AV} {R:HP→AV→List AV→Prop} {h:HP} {as:List AV}:retC (some x) [y] R h as=R h (.ai [x,y]) as:=(rfl)
theorem Zc {m n t:Nat} {ag:Bool} {R:HP→AV→List AV→Prop} {st:St}:(KQ.post [.cell t ag n] m R).ap .ret st=retC (resC st ag n (sget st.s t)) [] R st.h (argsAgain st 0 m):=by
 simp only[KQ.post,postQ,resOf,resAV]
 cases resC st ag n (sget st.s t)<;>simp[consO,retC]
theorem Zd {m n t u:Nat} {ag:Bool} {R:HP→AV→List AV→Prop} {st:St} (hu:u<2000000):(KQ.post [.cell t ag n,.tmp u] m R).ap .ret st=retC (resC st ag n (sget st.s t)) [ev st (.t u)] R st.h (argsAgain st 0 m):=by
 simp only[KQ.post,postQ,resOf,resAV]
 cases resC st ag n (sget st.s t)<;>simp[consO,retC,trE,hu]
theorem aiH {st:St} {ag:Bool} {n id f:Nat}:resC st ag n (some (.ab id f))=resW ag n f (hget st.h id):=(rfl)
theorem aiM {ag:Bool} {n f:Nat} {cs:List AV}:resW ag n f (some (.var cs))=ldO ag n (cs.drop f):=(rfl)
theorem ZW {n:Nat} {cs:List AV} (h:n≤cs.length):ldO true n cs=some (.agg (cs.take n)):=by simp[ldO,h]
theorem ZV {n:Nat} {c:AV} {cs:List AV}:ldO false n (c::cs)=some c:=(rfl)
def qW (b:Bool) (id' i:Nat):Nat:=match b with
 | true=>id'
 | false=>i
theorem ajm {id id' i:Nat}:rn id id' i=qW (i==id) id' i:=by unfold rn qW;cases i==id<;>rfl
theorem ajl {id' i:Nat}:qW true id' i=id':=(rfl)
theorem ajk {id' i:Nat}:qW false id' i=i:=(rfl)
def rf (b:Bool) (v:AV) (r:List (Nat×AV)) (i:Nat):Option AV:=bif b then some v else sget r i
theorem ama {i:Nat}:sget [] i=none:=(rfl)
theorem al9 {k i:Nat} {v:AV} {r:List (Nat×AV)}:sget ((k,v)::r) i=rf (i==k) v r i:=by
 simp only[sget,rf,cond_eq_ite,beq_iff_eq]
theorem al8 {v:AV} {r:List (Nat×AV)} {i:Nat}:rf true v r i=some v:=(rfl)
theorem al7 {v:AV} {r:List (Nat×AV)} {i:Nat}:rf false v r i=sget r i:=(rfl)
def qe (b:Bool) (v:aG) (r:HP) (i:Nat):Option aG:=bif b then some v else hget r i
theorem QU {i:Nat}:hget [] i=none:=(rfl)
theorem QS {k i:Nat} {v:aG} {r:HP}:hget ((k,v)::r) i=qe (i==k) v r i:=by
 simp only[hget,qe,cond_eq_ite,beq_iff_eq]
theorem QQ {v:aG} {r:HP} {i:Nat}:qe true v r i=some v:=(rfl)
theorem QP {v:aG} {r:HP} {i:Nat}:qe false v r i=hget r i:=(rfl)
def qd (b:Bool) (k:Nat) (v:aG) (r:HP) (i:Nat):HP:=bif b then hdel i r else(k,v)::hdel i r
theorem Qw {i:Nat}:hdel i []=[]:=(rfl)
theorem Qv {k i:Nat} {v:aG} {r:HP}:hdel i ((k,v)::r)=qd (i==k) k v r i:=by
 simp only[hdel,qd,cond_eq_ite,beq_iff_eq]
theorem Qu {k:Nat} {v:aG} {r:HP} {i:Nat}:qd true k v r i=hdel i r:=(rfl)
theorem Qt {k:Nat} {v:aG} {r:HP} {i:Nat}:qd false k v r i=(k,v)::hdel i r:=(rfl)
theorem Sp {h:HP} {id:Nat} {W:aG}:bx h id W=(id,W)::hdel id h:=(rfl)
def qw (b:Bool) (i:Nat) (r:List Nat):Bool:=bif b then true else memN i r
theorem abx {i:Nat}:memN i []=false:=(rfl)
theorem abw {i k:Nat} {r:List Nat}:memN i (k::r)=qw (i==k) i r:=by
 simp only[memN,qw,cond_eq_ite,beq_iff_eq]
theorem abv {i:Nat} {r:List Nat}:qw true i r=true:=(rfl)
theorem abu {i:Nat} {r:List Nat}:qw false i r=memN i r:=(rfl)
def pP (b:Bool) (k:Nat) (W:aG) (ids keep:List Nat) (r:HP):HP:=bif b then dropH ids keep r else(k,jx ids keep W)::dropH ids keep r
theorem MP {ids keep:List Nat}:dropH ids keep []=[]:=(rfl)
theorem MO {ids keep:List Nat} {k:Nat} {W:aG} {r:HP}:dropH ids keep ((k,W)::r)=pP (memN k ids) k W ids keep r:=by
 simp only[dropH,pP,cond_eq_ite]
theorem MN {ids keep:List Nat} {k:Nat} {W:aG} {r:HP}:pP true k W ids keep r=dropH ids keep r:=(rfl)
theorem MM {ids keep:List Nat} {k:Nat} {W:aG} {r:HP}:pP false k W ids keep r=(k,jx ids keep W)::dropH ids keep r:=(rfl)
theorem Yy {id:Nat}:killS id []=[]:=(rfl)
theorem Yx {id k:Nat} {v:AV} {r:List (Nat×AV)}:killS id ((k,v)::r)=(k,kill id v)::killS id r:=(rfl)
theorem Yu {id:Nat}:eQ id []=[]:=(rfl)
theorem Yt {id k:Nat} {v:aG} {r:HP}:eQ id ((k,v)::r)=(k,j7 id v)::eQ id r:=(rfl)
theorem Yw {ids keep:List Nat}:killSI ids keep []=[]:=(rfl)
theorem Yv {ids keep:List Nat} {k:Nat} {v:AV} {r:List (Nat×AV)}:killSI ids keep ((k,v)::r)=(k,kI ids keep v)::killSI ids keep r:=(rfl)
theorem PS {id sz:Nat} {es:List AV}:frzS id sz es []=[]:=(rfl)
theorem PR {id sz k:Nat} {es:List AV} {v:AV} {r:List (Nat×AV)}:frzS id sz es ((k,v)::r)=(k,bH id sz es v)::frzS id sz es r:=(rfl)
theorem PO {id sz:Nat} {es:List AV}:frzH id sz es []=[]:=(rfl)
theorem PN {id sz k:Nat} {es:List AV} {v:aG} {r:HP}:frzH id sz es ((k,v)::r)=(k,kV id sz es v)::frzH id sz es r:=(rfl)
def frzO (st:St) (id:Nat) (o:Option aG):St:=
 match o with
 | some (.arr sz es)=>⟨frzS id sz es st.s,frzH id sz es (hdel id st.h)⟩
 | _=>st
theorem Pd {st:St} {id:Nat}:freeze st id=frzO st id (hget st.h id):=by
 unfold freeze frzO;split<;>simp_all
theorem PQ {st:St} {id sz:Nat} {es:List AV}:frzO st id (some (.arr sz es))=⟨frzS id sz es st.s,frzH id sz es (hdel id st.h)⟩:=(rfl)
def sd (b:Bool) (Q:KQ) (j:Nat) (st:St):Prop:=match b with
 | true=>Q.ap .normal st
 | false=>Q.ap (.exit j) st
theorem YS {Q:KQ} {i j:Nat} {st:St}:(KQ.c8 i Q).ap (.exit j) st=sd (j==i) Q j st:=by
 rw[YX]
 by_cases h:j=i
 ·subst h;rw[if_pos rfl,show(j==j)=true by simp];rfl
 ·rw[if_neg h,show(j==i)=false by simp[h]];rfl
theorem G7 {Q:KQ} {j:Nat} {st:St}:sd true Q j st=Q.ap .normal st:=(rfl)
theorem G6 {Q:KQ} {j:Nat} {st:St}:sd false Q j st=Q.ap (.exit j) st:=(rfl)
abbrev ints (xs:List Int):List AV:=xs.map (AV.int .i64)
theorem UL (xs:List Int):ints xs=xs.map (AV.int .i64):=(rfl)
theorem acj {f:Int→AV} {xs:List Int} {i:Nat} (h:i<xs.length):nth (xs.map f) i=f (xs.getD i 0):=by
 simp[nth,List.getD_eq_getElem?_getD,h]
theorem ach {f:UInt8→AV} {xs:List UInt8} {i:Nat} (h:i<xs.length):nth (xs.map f) i=f (xs.getD i 0):=by
 simp[nth,List.getD_eq_getElem?_getD,h]
theorem ack {α:Type} {f:List α→AV} {xs:List (List α)} {i:Nat} (h:i<xs.length):nth (xs.map f) i=f (xs.getD i []):=by
 simp[nth,List.getD_eq_getElem?_getD,h]
theorem aci {α:Type} [Inhabited α] {f:α→AV} {xs:List α} {i:Nat} (h:i<xs.length):nth (xs.map f) i=f (xs.getD i default):=by
 simp[nth,List.getD_eq_getElem?_getD,h]
theorem aoL {α:Type} {f:α→AV} {xs:List α} {o n:Nat}:aI (xs.map f) o n=((xs.drop o).take n).map f:=by
 simp[aI]
theorem aoN {x:AV} {r:List AV} {o n:Nat}:aI (x::r) (o+1) n=aI r o n:=by simp[aI]
theorem aoK {x:AV} {r:List AV} {n:Nat}:aI (x::r) 0 (n+1)=x::aI r 0 n:=by simp[aI]
theorem aoO {r:List AV}:aI r 0 0=[]:=by simp[aI]
theorem aoM {o n:Nat}:aI [] o n=[]:=by simp[aI]
theorem Dd {α:Type} {xs:List α} {n:Nat} (h:xs.length≤n):xs.take n=xs:=List.take_of_length_le h
theorem MQ {α:Type} {xs:List α} {n:Nat} (h:xs.length≤n):xs.drop n=[]:=List.drop_eq_nil_of_le h
theorem al5 {α:Type} {f:α→AV} {xs:List α} {i:Nat} {y:α}:(xs.map f).set i (f y)=(xs.set i y).map f:=by rw[List.map_set]
theorem Fu {α:Type} {f:α→AV} {xs:List α} {y:α}:xs.map f++[f y]=(xs++[y]).map f:=by simp
theorem Fy {α:Type} {f:α→AV} {xs ys:List α}:xs.map f++ys.map f=(xs++ys).map f:=by simp
theorem IZ {k:IntKind} {xs:List Int}:(xs.map (AV.int k)).all aP=true:=by simp[aP,cellsOf,isCell]
theorem OT {k:IntKind} {xs:List Int}:(xs.map (AV.int k)).all flA=true:=by simp[flA,flC]
theorem OS {xs:List UInt8}:(xs.map ub).all flA=true:=by simp[flA,flC,ub]
theorem OU {xs:List (List UInt8)}:(xs.map AV.str).all flA=true:=by simp[flA,flC]
theorem IX {xs:List UInt8}:(xs.map ub).all aP=true:=by simp[aP,cellsOf,isCell,ub]
theorem I2 {xs:List (List UInt8)}:(xs.map AV.str).all aP=true:=by simp[aP,cellsOf,isCell]
theorem I1 {α:Type} {sz:Nat} {f:α→List AV} {xs:List α}:(xs.map fun x=>AV.ro sz (f x)).all aP=true:=by simp[aP,cellsOf,isCell]
def rb (b:Bool) (e v:AV):AV:=
 match b with
 | true=>v
 | false=>.agg (bW (cellsOf e) 0 (cellsOf v))
theorem al3 {e v:AV}:iw e 0 v=rb ((cellsOf v).length==(cellsOf e).length) e v:=by
 unfold iw rb
 by_cases h:(cellsOf v).length=(cellsOf e).length
 ·rw[if_pos ⟨rfl,h⟩,show((cellsOf v).length==(cellsOf e).length)=true by simp[h]]
 ·rw[if_neg (fun x=>h x.2),show((cellsOf v).length==(cellsOf e).length)=false by simp[h]]
theorem al0 {e v:AV}:rb true e v=v:=(rfl)
theorem alZ {e v:AV}:rb false e v=.agg (bW (cellsOf e) 0 (cellsOf v)):=(rfl)
theorem al2 {e v:AV} {f:Nat} (h:f≠0):iw e f v=.agg (bW (cellsOf e) f (cellsOf v)):=by
 unfold iw;rw[if_neg (fun x=>h x.1)]
theorem aps (b:UInt8):ub b=.int .u8 b.toNat:=(rfl)
theorem IU:cellsOf AV.undef=[AV.undef]:=(rfl)
theorem ID (b:Bool):cellsOf (.bool b)=[.bool b]:=(rfl)
theorem II (k:IntKind) (n:Int):cellsOf (.int k n)=[.int k n]:=(rfl)
theorem IH (k:FloatKind) (n:Nat):cellsOf (.fl k n)=[.fl k n]:=(rfl)
theorem IE (k:FloatKind) (a b:Nat):cellsOf (.cx k a b)=[.cx k a b]:=(rfl)
theorem IQ (l:List UInt8):cellsOf (.str l)=[.str l]:=(rfl)
theorem IJ (x:Value):cellsOf (.lit x)=[.lit x]:=(rfl)
theorem IM (sz:Nat) (es:List AV):cellsOf (.ro sz es)=[.ro sz es]:=(rfl)
theorem IG (x:AV):cellsOf (.aA x)=[.aA x]:=(rfl)
theorem IP (i o n:Nat):cellsOf (.sl i o n)=[.sl i o n]:=(rfl)
theorem IL (i j f:Nat):cellsOf (.ptr i j f)=[.ptr i j f]:=(rfl)
theorem IV (i f:Nat):cellsOf (.ab i f)=[.ab i f]:=(rfl)
theorem IK:cellsOf .aq=[.aq]:=(rfl)
theorem IC (cs:List AV):cellsOf (.agg cs)=cs:=(rfl)
theorem al4 {α:Type} (xs:List α) (a b:α):(xs++[a]).set xs.length b=xs++[b]:=by simp
theorem ahd {a b:Bool}:(if a=true then true else b)=(a||b):=by cases a<;>rfl
theorem ahb {a b:Bool}:(if a=true then b else false)=(a&&b):=by cases a<;>rfl
theorem ahe {p:Prop} [Decidable p] {b:Bool}:(if p then true else b)=(decide p||b):=by by_cases h:p<;>simp[h]
theorem ahc {p:Prop} [Decidable p] {b:Bool}:(if p then b else false)=(decide p&&b):=by by_cases h:p<;>simp[h]
theorem LV {b:Bool}:decide (b=true)=b:=by cases b<;>rfl
theorem UJ {a b:Int} (h:a=b):(a=b)=True:=eq_true h
theorem ab2 {a b:Nat} (h:a=b):(a=b)=True:=eq_true h
theorem L4 {p q:Prop} [Decidable p] [Decidable q]:(decide p||decide q)=decide (p∨q):=by simp
theorem LU {p q:Prop} [Decidable p] [Decidable q]:(decide p&&decide q)=decide (p∧q):=by simp
theorem L3 {p:Prop} [Decidable p]:(!decide p)=decide (¬p):=by simp
theorem GW {a b:List UInt8}:(a==b)=decide (a=b):=by
 by_cases h:a=b<;>simp[h]
theorem GX {a:Bool}:(a==false)=!a:=by cases a<;>rfl
theorem GY {a:Bool}:(a==true)=a:=by cases a<;>rfl
theorem Dv {n:Int} (h:0≤n∧n≤255):ub (UInt8.ofNat n.toNat)=.int .u8 n:=by
 simp only[ub,UInt8.toNat_ofNat']
 congr 1
 omega
theorem al6 {xs:List UInt8} {i:Nat} {n:Int} (h:0≤n∧n≤255):(xs.map ub).set i (.int .u8 n)=(xs.set i (UInt8.ofNat n.toNat)).map ub:=by
 rw[←Dv h,List.map_set]
theorem FA {xs:List UInt8} {n:Int} (h:0≤n∧n≤255):xs.map ub++[.int .u8 n]=(xs++[UInt8.ofNat n.toNat]).map ub:=by
 rw[←Dv h];simp
theorem Iu {xs:List UInt8}:bytesOf (xs.map ub)=xs:=by
 simp only[bytesOf,List.map_map]
 conv=>rhs;rw[←List.map_id xs]
 refine List.map_congr_left fun x _=>?_
 simp[byteOfAV,ub]
theorem EU {xs:List UInt8}:gO (xs.map ub)=true:=by simp[gO,jt,ub]
theorem abX {a b:Int}:(if b > a then b else a)=max a b:=by omega
theorem abO {a b:Int}:(if b<a then b else a)=min a b:=by omega
theorem ao8 {k:Nat}:((k:Int)-1).toNat=k-1:=by omega
theorem ao7 {k:Nat}:((k:Int)+1).toNat=k+1:=by omega
theorem toNat_add {k m:Nat}:((k:Int)+(m:Int)).toNat=k+m:=by omega
theorem toNat_sub {k m:Nat}:((k:Int)-(m:Int)).toNat=k-m:=by omega
theorem NX (st:St):evL st []=[]∧(∀x r,evL st (x::r)=ev st x::evL st r):=⟨rfl,fun _ _=>rfl⟩
theorem HR (h:HP):borL h []=[]∧(∀x r,borL h (x::r)=borrow h x::borL h r):=⟨rfl,fun _ _=>rfl⟩
theorem HS (h0 h:HP):kL h0 h []=[]∧(∀x r,kL h0 h (x::r)=bor h0 h x::kL h0 h r):=⟨rfl,fun _ _=>rfl⟩
theorem aog:ly []=[]∧(∀x r,ly (x::r)=stripV x::ly r):=⟨rfl,fun _ _=>rfl⟩
theorem EV:lQ []=True∧(∀x r,lQ (x::r)=(aB true x∧lQ r)):=⟨rfl,fun _ _=>rfl⟩
theorem FE (st:St) (k:Nat):argsAgain st k 0=[]∧(∀n,argsAgain st k (n+1)=(sget st.s (2000000+k)).getD .undef::argsAgain st (k+1) n):=⟨rfl,fun _=>rfl⟩
theorem eW {n:Int} (h:-9223372036854775808≤n∧n≤9223372036854775807):IntKind.i64.wrap n=n:=IntWalk.i64_in n h
theorem L5 {p:Prop} [Decidable p] (h:p):decide p=true:=decide_eq_true h
theorem LY {p:Prop} [Decidable p] (h:¬p):decide p=false:=decide_eq_false h
section
variable {P:Program} {st:St} {K:KS} {r:List ROp} {d:Nat} {c:Prop} {v:AV} {γ:Bool}
theorem aqj:valW P (.ok True v) d r st K=aopsW P r ⟨(d,v)::st.s,st.h⟩ K:=by simp only[vo,true_and]
theorem aqi (h:c):valW P (.ok c v) d r st K=aopsW P r ⟨(d,v)::st.s,st.h⟩ K:=by simp only[vo,h,true_and]
theorem Nx:l7 P (.ok True v st) d r K=aopsW P r ⟨(d,v)::st.s,st.h⟩ K:=by simp only[sQ,true_and]
theorem Nw (h:c):l7 P (.ok c v st) d r K=aopsW P r ⟨(d,v)::st.s,st.h⟩ K:=by simp only[sQ,h,true_and]
theorem Nq:l6 P (.ok True v st) r K=aopsW P r st K:=by simp only[sP,true_and]
theorem Np (h:c):l6 P (.ok c v st) r K=aopsW P r st K:=by simp only[sP,h,true_and]
end
theorem aqW {n:Int} (h:-128≤n∧n≤127):IntKind.i8.wrap n=n:=IntWalk.i8_in n h
theorem aqV {n:Int} (h:-32768≤n∧n≤32767):IntKind.i16.wrap n=n:=IntWalk.i16_in n h
theorem wrap_i32 {n:Int} (h:-2147483648≤n∧n≤2147483647):IntKind.i32.wrap n=n:=IntWalk.i32_in n h
theorem wrap_u8 {n:Int} (h:0≤n∧n≤255):IntKind.u8.wrap n=n:=IntWalk.u8_in n h
theorem wrap_u16 {n:Int} (h:0≤n∧n≤65535):IntKind.u16.wrap n=n:=IntWalk.u16_in n h
theorem wrap_u32 {n:Int} (h:0≤n∧n≤4294967295):IntKind.u32.wrap n=n:=IntWalk.u32_in n h
theorem wrap_u64 {n:Int} (h:0≤n∧n≤18446744073709551615):IntKind.u64.wrap n=n:=IntWalk.u64_in n h
section
variable {P:Program} {E:Env} {st:St} {Q:KQ} {x y:AK}
theorem tz {p:Prop} [Decidable p] (h1:p→vcW P E x Q st) (h2:¬p→vcW P E y Q st):k8 P E (decide p) x y Q st:=
 ⟨fun h=>h1 (of_decide_eq_true h),fun h=>h2 (of_decide_eq_false h)⟩
end
attribute [go_sem] Zs YV Zn Y5 Y9 ZD Nj Nh Ni ZC ZB MI MJ ML ahj lP k9 yZ Qd Y2 Y1 aiP Ze ZF ZA Zz P4 P3 aiQ aiR Zc Zd aiH aiM ZW ZV Zq YT Zl Y4 Y6 Y7 Y3 Y8 Za Zb aqt aqs NX HR HS aog EV FE Fq Fs Ft aqh Fj Nv Fk Nn rW Fh Fp Qj Qi Qh Qf Fo PY PX PW Fl Fm ZE Zr Zt Zu YU YW YS G7 G6 Zm Zo Zp aqA aqx aqr JE Ty Tx apo apq apn apm Z7 Z5 Z4 Z2 Z1 Zg Zf Zh Zi Zj Zk Yl Yk ama al9 al8 al7 QU QS QQ QP Sp Qw Qv Qu Qt abx abw abv abu MP MO MN MM IU ID II IH IE IQ IJ IM IG IP IL IV IK IC Yy Yx Yw Yv PS PR PO PN Pd PQ Yu Yt ajm ajl ajk List.take_succ_cons List.drop_succ_cons aps Bool.false_eq_true Bool.not_true Bool.not_false Bool.and_true Bool.true_and Bool.and_false Bool.false_and Bool.or_true Bool.or_false Bool.true_or Bool.false_or if_true if_false Option.getD_some Option.getD_none Option.map_some Option.map_none Option.isSome_some Option.isSome_none List.cons_append List.nil_append List.map_cons List.map_nil List.all_cons List.all_nil List.length_cons List.length_nil List.getD_cons_zero List.getD_cons_succ List.drop_zero List.take_zero decide_true decide_false ahd ahb ahe ahc LV UJ ab2 L4 LU L3 GW GX GY imp_self implies_true decide_eq_true_eq decide_eq_false_iff_not eq_self Int.natCast_add Int.cast_ofNat_Int Nat.zero_add Nat.add_zero Int.add_zero Int.zero_add Bool.and_self Nat.sub_zero true_and and_true false_and and_false not_true_eq_false not_false_eq_true Option.some.injEq aG.arr.injEq aG.var.injEq AV.int.injEq AV.bool.injEq AV.str.injEq AV.ro.injEq AV.sl.injEq AV.aA.injEq AV.agg.injEq AV.ai.injEq AV.fl.injEq AV.cx.injEq AV.ab.injEq AV.ptr.injEq List.cons.injEq Prod.mk.injEq false_imp_iff true_imp_iff forall_const Int.toNat_natCast UL acj ach ack aoL aoM aoN aoK aoO Dd MQ List.set_cons_zero List.set_cons_succ ao8 ao7 toNat_add toNat_sub abX abO al5 al6 FA Iu EU al4 Fu Fy OT OS OU IZ IX I2 I1 List.length_map List.length_append List.length_set List.length_range List.length_replicate List.length_reverse al3 al0 alZ al2
attribute [go_sem high] Qg aqj Nx Nq
attribute [go_sem] aqi Nw Np eW aqW aqV wrap_i32 wrap_u8 wrap_u16 wrap_u32 wrap_u64 L5 LY
theorem ve {a b:Int} (h:0≤a):a.tdiv b=a/b:=Int.tdiv_eq_ediv_of_nonneg h
theorem mQ {a b:Int} (h:0≤a):a.tmod b=a%b:=Int.tmod_eq_emod_of_nonneg h
attribute [go_sem] ve mQ
attribute [go_sem low] aci
attribute [go_sem low] Fe vo sQ sP
theorem Lx:(∀{α:Type} (a b:List α),(a++b).length=a.length+b.length)∧(∀{α:Type} (x:α) (a:List α),(x::a).length=a.length+1)∧(∀{α:Type},([]:List α).length=0)∧(∀{α:Type} (a:List α) (i:Nat) (x:α),(a.set i x).length=a.length) ∧
    (∀{α β:Type} (f:α→β) (a:List α),(a.map f).length=a.length)∧(∀{α:Type} (i:Nat) (a:List α),(a.take i).length=min i a.length)∧(∀{α:Type} (i:Nat) (a:List α),(a.drop i).length=a.length-i)∧(∀n:Nat,(List.range n).length=n) ∧
    (∀{α:Type} (n:Nat) (x:α),(List.replicate n x).length=n)∧(∀{α:Type} (a:List α),a.reverse.length=a.length):=
 ⟨fun _ _=>List.length_append,fun _ _=>List.length_cons,List.length_nil,fun _ _ _=>List.length_set,fun _ _=>List.length_map _,fun _ _=>List.length_take,fun _ _=>List.length_drop,fun _=>List.length_range,fun _ _=>List.length_replicate,fun _=>List.length_reverse⟩
theorem vV {p:Prop} (h:p:=by simp(disch:=first | omega | (simp only[Lx];omega))only[go_sem,simprocAttr]):p:=h
theorem wW {a b:Prop} (k:b) (h:b→a:=by intro h;simp(disch:=first | omega | (simp only[Lx];omega))only[go_sem,simprocAttr];exact h):a:=h k
theorem gG {a b:Prop} (k:b) (h:b→a:=by intro h;(repeat(first | (with_reducible refine du ?_) | (with_reducible refine dq ?_) | (with_reducible refine dr ?_))<;>simp(disch:=first | omega | (simp only[Lx];omega))only[go_sem,simprocAttr]);exact h):a:=h k
theorem eV {E0:Prop} {p:Prop} (e0:E0) (h:E0→p:=by intro e0;simp(disch:=first | omega | (simp only[Lx];omega))only[go_sem,simprocAttr,e0]):p:=h e0
theorem az {E0:Prop} {a b:Prop} (e0:E0) (k:b) (h:E0→b→a:=by intro e0 h;simp(disch:=first | omega | (simp only[Lx];omega))only[go_sem,simprocAttr,e0];exact h):a:=h e0 k
theorem cm {E0:Prop} {a b:Prop} (e0:E0) (k:b) (h:E0→b→a:=by intro e0 h;(repeat(first | (with_reducible refine du ?_) | (with_reducible refine dq ?_) | (with_reducible refine dr ?_))<;>simp(disch:=first | omega | (simp only[Lx];omega))only[go_sem,simprocAttr,e0]);exact h):a:=h e0 k
theorem oI {E0 E1:Prop} {p:Prop} (e0:E0) (e1:E1) (h:E0→E1→p:=by intro e0 e1;simp(disch:=first | omega | (simp only[Lx];omega))only[go_sem,simprocAttr,e0,e1]):p:=h e0 e1
theorem bc {E0 E1:Prop} {a b:Prop} (e0:E0) (e1:E1) (k:b) (h:E0→E1→b→a:=by intro e0 e1 h;simp(disch:=first | omega | (simp only[Lx];omega))only[go_sem,simprocAttr,e0,e1];exact h):a:=h e0 e1 k
theorem gB {E0 E1:Prop} {a b:Prop} (e0:E0) (e1:E1) (k:b) (h:E0→E1→b→a:=by intro e0 e1 h;(repeat(first | (with_reducible refine du ?_) | (with_reducible refine dq ?_) | (with_reducible refine dr ?_))<;>simp(disch:=first | omega | (simp only[Lx];omega))only[go_sem,simprocAttr,e0,e1]);exact h):a:=h e0 e1 k
theorem aqe {E0 E1 E2:Prop} {p:Prop} (e0:E0) (e1:E1) (e2:E2) (h:E0→E1→E2→p:=by intro e0 e1 e2;simp(disch:=first | omega | (simp only[Lx];omega))only[go_sem,simprocAttr,e0,e1,e2]):p:=h e0 e1 e2
theorem dy {E0 E1 E2:Prop} {a b:Prop} (e0:E0) (e1:E1) (e2:E2) (k:b) (h:E0→E1→E2→b→a:=by intro e0 e1 e2 h;simp(disch:=first | omega | (simp only[Lx];omega))only[go_sem,simprocAttr,e0,e1,e2];exact h):a:=h e0 e1 e2 k
theorem jY {E0 E1 E2:Prop} {a b:Prop} (e0:E0) (e1:E1) (e2:E2) (k:b) (h:E0→E1→E2→b→a:=by intro e0 e1 e2 h;(repeat(first | (with_reducible refine du ?_) | (with_reducible refine dq ?_) | (with_reducible refine dr ?_))<;>simp(disch:=first | omega | (simp only[Lx];omega))only[go_sem,simprocAttr,e0,e1,e2]);exact h):a:=h e0 e1 e2 k
theorem eo {E0 E1 E2 E3:Prop} {a b:Prop} (e0:E0) (e1:E1) (e2:E2) (e3:E3) (k:b) (h:E0→E1→E2→E3→b→a:=by intro e0 e1 e2 e3 h;simp(disch:=first | omega | (simp only[Lx];omega))only[go_sem,simprocAttr,e0,e1,e2,e3];exact h):a:=h e0 e1 e2 e3 k
theorem pZ {E0 E1 E2 E3:Prop} {a b:Prop} (e0:E0) (e1:E1) (e2:E2) (e3:E3) (k:b) (h:E0→E1→E2→E3→b→a:=by intro e0 e1 e2 e3 h;(repeat(first | (with_reducible refine du ?_) | (with_reducible refine dq ?_) | (with_reducible refine dr ?_))<;>simp(disch:=first | omega | (simp only[Lx];omega))only[go_sem,simprocAttr,e0,e1,e2,e3]);exact h):a:=h e0 e1 e2 e3 k
theorem dz {E0 E1 E2 E3 E4:Prop} {a b:Prop} (e0:E0) (e1:E1) (e2:E2) (e3:E3) (e4:E4) (k:b) (h:E0→E1→E2→E3→E4→b→a:=by intro e0 e1 e2 e3 e4 h;simp(disch:=first | omega | (simp only[Lx];omega))only[go_sem,simprocAttr,e0,e1,e2,e3,e4];exact h):a:=h e0 e1 e2 e3 e4 k
theorem tf {E0 E1 E2 E3 E4:Prop} {a b:Prop} (e0:E0) (e1:E1) (e2:E2) (e3:E3) (e4:E4) (k:b) (h:E0→E1→E2→E3→E4→b→a:=by intro e0 e1 e2 e3 e4 h;(repeat(first | (with_reducible refine du ?_) | (with_reducible refine dq ?_) | (with_reducible refine dr ?_))<;>simp(disch:=first | omega | (simp only[Lx];omega))only[go_sem,simprocAttr,e0,e1,e2,e3,e4]);exact h):a:=h e0 e1 e2 e3 e4 k
theorem oK {E0 E1 E2 E3 E4 E5:Prop} {a b:Prop} (e0:E0) (e1:E1) (e2:E2) (e3:E3) (e4:E4) (e5:E5) (k:b) (h:E0→E1→E2→E3→E4→E5→b→a:=by intro e0 e1 e2 e3 e4 e5 h;simp(disch:=first | omega | (simp only[Lx];omega))only[go_sem,simprocAttr,e0,e1,e2,e3,e4,e5];exact h):a:=h e0 e1 e2 e3 e4 e5 k
inductive jQ:AV→AV→Prop where
 | refl (a:AV):jQ a a
 | nil (sz:Nat):jQ .aq (.ro sz [])
inductive eu:List AV→List AV→Prop where
 | nil:eu [] []
 | cons {a b:AV} {as bs:List AV} (h:jQ a b) (hs:eu as bs):eu (a::as) (b::bs)
inductive ky:AV→AV→Prop where
 | one {a b:AV} (h:jQ a b):ky a b
 | ro {sz:Nat} {as bs:List AV} (h:eu as bs):ky (.ro sz as) (.ro sz bs)
 | agg {as bs:List AV} (h:eu as bs):ky (.agg as) (.agg bs)
inductive lK:List AV→List AV→Prop where
 | nil:lK [] []
 | cons {a b:AV} {as bs:List AV} (h:ky a b) (hs:lK as bs):lK (a::as) (b::bs)
theorem eu.refl:∀l:List AV,eu l l
 | []=>.nil
 | x::r=>.cons (.refl x) (eu.refl r)
theorem yc {a b:AV} (h:jQ a b):eu (cellsOf a) (cellsOf b):=by
 cases h with
 | refl=>exact eu.refl _
 | nil sz=>exact .cons (.nil sz) .nil
theorem Nz {a b c d:List AV} (h:eu a b) (k:eu c d):eu (a++c) (b++d):=by
 induction h with
 | nil=>exact k
 | cons h _ ih=>exact .cons h ih
theorem yg {as bs:List AV} (h:eu as bs):eu (flat as) (flat bs):=by
 induction h with
 | nil=>exact .nil
 | cons h _ ih=>
  simp only[flat,List.flatMap_cons]
  exact Nz (yc h) ih
theorem nz {as bs:List AV} (h:eu as bs):as.length=bs.length:=by
 induction h with
 | nil=>rfl
 | cons h _ ih=>simp[ih]
theorem sR {as bs:List AV} (h:eu as bs):∀(j:Nat) (b:AV),bs[j]?=some b→∃a,as[j]?=some a∧jQ a b:=by
 induction h with
 | nil=>intro j b hb;simp at hb
 | cons h _ ih=>
  intro j b hb
  cases j with
  | zero=>simp at hb;subst hb;exact⟨_,rfl,h⟩
  | succ j=>exact ih j b (by simpa using hb)
theorem NA {as bs:List AV} (h:eu as bs):∀b∈bs,∃a∈as,jQ a b:=by
 intro b hb
 obtain⟨j,hj⟩:=List.mem_iff_getElem?.1 hb
 obtain⟨a,h1,h2⟩:=sR h j b hj
 exact⟨a,List.mem_of_getElem? h1,h2⟩
theorem RV.pS {X:Nat→Prop} {w:World} {ρ:Loc} {v:Value} {a b:AV} (h:RV X w ρ v a) (k:jQ a b):RV X w ρ v b:=by
 cases k with
 | refl=>exact h
 | nil sz=>cases h;exact .ro ρ none 0 sz [] [] (Nat.le_refl _) (fun e he=>by cases he) rfl (fun j hj=>by simp at hj) (fun j v a h1 _=>by simp at h1)
theorem RV.ET {X:Nat→Prop} {w:World} {ρ:Loc} {v:Value} {a b:AV} (h:RV X w ρ v a) (k:ky a b):RV X w ρ v b:=by
 cases k with
 | one k=>exact h.pS k
 | ro k=>
  cases h with
  | ro _ A c sz es vs hc aE hlen hcell hrel=>
   rw[nz k]
   refine .ro ρ A c _ _ vs (by rw[←nz k];exact hc) (fun e he=>?_) (by rw[hlen,nz (yg k)]) hcell (fun j v b h1 h2=>?_)
   ·obtain⟨a,ha,hab⟩:=NA k e he
    rw[←nz (yc hab)];exact aE a ha
   ·obtain⟨a,h3,h4⟩:=sR (yg k) j b h2
    exact(hrel j v a h1 h3).pS h4
 | agg k=>
  cases h with
  | agg _ vs _ hlen hrel=>
   refine .agg ρ vs _ (by rw[hlen,nz k]) (fun j v b h1 h2=>?_)
   obtain⟨a,h3,h4⟩:=sR k j b h2
   exact(hrel j v a h1 h3).pS h4
theorem EY {as bs:List AV} (h:lK as bs):as.length=bs.length∧∀(j:Nat) (a:AV),as[j]?=some a→∃b,bs[j]?=some b∧ky a b:=by
 induction h with
 | nil=>exact⟨rfl,fun j b hb=>by simp at hb⟩
 | cons h _ ih=>
  refine⟨by simp[ih.1],fun j b hb=>?_⟩
  cases j with
  | zero=>simp at hb;subst hb;exact⟨_,rfl,h⟩
  | succ j=>exact ih.2 j b (by simpa using hb)
theorem EZ {as bs:List AV} (h:lK as bs):∀(j:Nat) (b:AV),bs[j]?=some b→∃a,as[j]?=some a∧ky a b:=by
 induction h with
 | nil=>intro j b hb;simp at hb
 | cons h _ ih=>
  intro j b hb
  cases j with
  | zero=>simp at hb;subst hb;exact⟨_,rfl,h⟩
  | succ j=>exact ih j b (by simpa using hb)
theorem an1 {P:Program} {f:Nat} {h:HP} {as bs:List AV} {Post:HP→AV→List AV→Prop} (k:lK as bs) (hs:Spec P f h bs Post):Spec P f h as Post:=by
 intro X0 ρ w vs h1 hA h2 h3 h4
 have hl:=(EY k).1
 rw[hl]
 exact hs X0 ρ w vs h1 hA h2 (by rw[h3,hl]) (fun j v b e1 e2=>by
  obtain⟨a,e3,e4⟩:=EZ k j b e2
  exact(h4 j v a e1 e3).ET e4)
def v8:AE→Bool
 | .t _=>true
 | .c v=>flA v
theorem Ef {P:Program} {q:Bool} {st st':St} {f:Nat} {args:List AE} {K:AV→St→Prop} (hw:Wk st st') (hc:args.all v8=true) (h:eM P q st' f args K):eM P q st f args K:=by
 intro E ρ a w vs hr aE hrv
 obtain⟨ρ',hr'⟩:=iB hw hr
 refine h E ρ' a w vs hr' aE (fun j v x e1 e2=>⟨?_,(hrv j v x e1 e2).2⟩)
 obtain⟨g1,g2⟩:=hrv j v x e1 e2
 cases x with
 | t k=>
  obtain⟨g3,g4⟩:=g2 k rfl
  have:=bf hr' (.tmp k)
  simp only[trE,g3,if_true]at this
  rw[g4]
  exact this
 | c c=>
  have:=List.all_eq_true.1 hc _ (List.mem_of_getElem? e2)
  exact RV.flA (show RV _ w ρ v c from g1) this
theorem kM {P:Program} {q:Bool} {st:St} {f:Nat} {args:List AE} {as:List AV} {d:Option Nat} {r:List ROp} {K:KS} (st':St) (hw:Wk st st') (hc:args.all v8=true) (h:fT P q st' f args (evL st' args) d r K):fT P q st f args as d r K:=by
 rintro rfl
 exact Ef hw hc (h (gX st' args))
end Go.Proofs.YtoalcafkffmiiaaGreatDoor.Eng
namespace Go.Proofs.YtoalcafkffmiiaaGreatDoor.Eng
def fS (P:Program) (f n:Nat) (h:HP) (args:List AV) (Post:HP→AV→List AV→Prop):Prop:=
 ∀(X0:Nat→Prop) (ρ:Loc) (w:World) (vs:Array Value),cH X0 ρ h w→iE (aW ρ h) w→(∀b,X0 b→b<w.heap.size)→vs.size=args.length →
  (∀(j:Nat) v x,vs[j]?=some v→args[j]?=some x→RV (XX X0 ρ h) w ρ v x) →
  Calls P f (vs.extract 0 n) w fun e w'=>∃v h' r ρ' as,e=.returned v∧Post h' r as∧cH X0 ρ' h' w'∧RV (XX X0 ρ' h') w' ρ' v r ∧
   as.length=args.length∧(∀(j:Nat) v x,vs[j]?=some v→as[j]?=some x→RV (XX X0 ρ' h') w' ρ' v x) ∧
   w'.os=w.os∧w'.tape=w.tape∧w'.output=w.output∧w.heap.size≤w'.heap.size∧(∀b,b<w.heap.size→¬aW ρ h b→w'.heap[b]?=w.heap[b]?) ∧
   (∀b,aW ρ' h' b→w.heap.size≤b∨aW ρ h b)
def ru (n:Nat) (args:List AV):List (Nat×AV):=numbered 0 (args.take n)++numbered 2000000 args
theorem anZ {P:Program} {f:Nat} {fn:Func} {body:Code} {h:HP} {args:List AV} {Post:HP→AV→List AV→Prop} {c:AC} (hf:P.funcs[f]?=some fn) (hb:fn.body=some body) {B n:Nat} (hc:trCode P fn.ntmps B body=c)
    (hN:fn.ntmps≤1000000) (hn:n≤args.length) (ha:n≤fn.ntmps) (hp:∀E:Env,E.N=fn.ntmps→E.B=B→E.rd=none→bC P E c ⟨ru n args,h⟩ (postQ (fn.results.toList.map (trRes P)) args.length Post)):fS P f n h args Post:=by
 intro X0 ρ w vs hh hA hX hvs hrv
 let E:Env:=⟨w,aW ρ h,X0,fn.ntmps,B,fun k=>vs.getD (k-2000000) undef,none,w.heap.size,Nat.le_refl _,[]⟩
 refine(callsIn_wide (n:=0)).1 (callsIn_of_wp_marks hf hb trivial (wpIn_mono (hp E rfl rfl rfl 0 body hc _ w ⟨ρ,?_⟩) ?_))
 ·have hex:∀k,k<n→(vs.extract 0 n)[k]?=vs[k]?:=fun k hk=>by
   rw[Array.getElem?_extract];simp;omega
  refine⟨eX.nil _ _,by simp[E];omega,fun k av hk=>?_,hh,fun id W L b h1 h2 h3=>.inr ⟨id,W,L,h1,h2,h3⟩,⟨rfl,rfl,rfl,Nat.le_refl _,fun _ _ _=>rfl,hA⟩,hX⟩
  simp only[ru,ji]at hk
  cases h0:sget (numbered 0 (args.take n)) k with
  | some av0=>
   rw[h0]at hk
   obtain rfl:=Option.some.inj hk
   obtain⟨_,h2⟩:=jj (args.take n) 0 k _ h0
   have hlt:k<n:=by
    have:=(List.getElem?_eq_some_iff.1 h2).1
    simp at this;omega
   have h2:args[k]?=some av0:=by
    rw[Nat.sub_zero,List.getElem?_take_of_lt hlt]at h2;exact h2
   have hlt2:k<E.N:=by simp only[E];omega
   refine⟨.inl hlt2,?_⟩
   have hv:vs[k]?=some (vs[k]'(by omega)):=Array.getElem?_eq_getElem _
   unfold a6
   rw[if_pos hlt2,Array.getD_eq_getD_getElem?,Array.getElem?_append_left (by simp;omega),hex k hlt,hv]
   exact hrv k _ _ hv h2
  | none=>
   rw[h0]at hk
   obtain⟨h1,h2⟩:=jj args 2000000 k av hk
   have hlt:k-2000000<args.length:=(List.getElem?_eq_some_iff.1 h2).1
   refine⟨.inr h1,?_⟩
   have hv:vs[k-2000000]?=some (vs[k-2000000]'(by omega)):=Array.getElem?_eq_getElem _
   unfold a6
   rw[if_neg (by simp only[E];omega)]
   simp only[E,Array.getD_eq_getD_getElem?,hv]
   exact hrv _ _ av hv h2
 ·rintro e a' w' ⟨st',⟨ρ',g0⟩,q⟩
  have fin:∀r,resOf st' (fn.results.toList.map (trRes P))=some r→Post st'.h r (argsAgain st' 0 args.length)→bodyPostM Fence.wide 0 P fn (fun e w'=>∃v h' r ρ' as,e=.returned v∧Post h' r as∧cH X0 ρ' h' w'∧RV (XX X0 ρ' h') w' ρ' v r ∧
   as.length=args.length∧(∀(j:Nat) v x,vs[j]?=some v→as[j]?=some x→RV (XX X0 ρ' h') w' ρ' v x) ∧
   w'.os=w.os∧w'.tape=w.tape∧w'.output=w.output∧w.heap.size≤w'.heap.size∧(∀b,b<w.heap.size→¬aW ρ h b→w'.heap[b]?=w.heap[b]?) ∧
   (∀b,aW ρ' h' b→w.heap.size≤b∨aW ρ h b)) .ret a' w':=by
   intro r hr hP
   obtain⟨⟨Ds,hDs⟩,_⟩:=g0.defers
   show LeavesInM Fence.wide 0 P fn a'.tmps _ a'.defers .returning w'
   rw[hDs]
   refine j9 (E:=E) (ρ:=ρ') (st:=st') (a:=a') (by simp) (fun w' g=>?_) rfl rfl Ds w' (by rw[←hDs];exact g0)
   obtain⟨v,g1,g2⟩:=uG (P:=P) g hr
   refine⟨v,g1,v,st'.h,r,ρ',_,rfl,hP,g.heap,g2,ng _ _ _,fun j v x e1 e2=>?_,g.aw.os,g.aw.tape,g.aw.output,g.aw.size,g.aw.block,fun b ⟨id,W,L,h1,h2,h3⟩=>g.base id W L b h1 h2 h3⟩
   have:=o5 st' _ _ j x e2
   rw[Nat.zero_add]at this
   cases hs:sget st'.s (2000000+j)with
   | none=>rw[hs]at this;subst this;exact .undef _ _
   | some av=>
    rw[hs]at this
    obtain rfl:x=av:=this
    have hr2:=(g.aV _ _ hs).2
    unfold a6 at hr2
    rw[if_neg (by simp only[E];omega)]at hr2
    simp only[E,Nat.add_sub_cancel_left,Array.getD_eq_getD_getElem?,e1]at hr2
    exact hr2
  cases e with
  | normal=>obtain⟨r,hr,hP⟩:=q;exact fin r hr hP
  | ret=>obtain⟨r,hr,hP⟩:=q;exact fin r hr hP
  | exit id=>exact q.elim
  | goto l=>exact q.elim
  | panic ch=>exact q.elim
  | outgrown=>exact q.elim
theorem an0 {P:Program} {f n:Nat} {h:HP} {args:List AV} {Post:HP→AV→List AV→Prop}
    (hs:fS P f n h args (fun h' r as=>∃h2 r2 as2,as2.length=as.length∧Wk ⟨(0,r)::numbered 1 as,h'⟩ ⟨(0,r2)::numbered 1 as2,h2⟩∧Post h2 r2 as2)):fS P f n h args Post:=by
 intro X0 ρ w vs h1 hA h2 h3 h4
 refine(hs X0 ρ w vs h1 hA h2 h3 h4).mono ?_
 rintro e w' ⟨v,h',r,ρ',as,rfl,⟨h2',r2,as2,hlen,hwk,hP⟩,g3,g4,g5,g6,g7,g8,g9,g10,g11,g12⟩
 let E:Env:=⟨w',fun b=>w.heap.size≤b∨aW ρ h b,X0,vs.size+1,0,fun _=>undef,none,0,Nat.zero_le _,[]⟩
 let a:Act:={tmps:=#[v]++vs,defers:=[]}
 have hsv:∀j,j<vs.size→a6 E a (1+j)=vs.getD j undef:=by
  intro j hj
  unfold a6
  rw[if_pos (show 1+j<vs.size+1 by omega)]
  simp only[a,Array.getD_eq_getD_getElem?]
  rw[Array.getElem?_append_right (by simp)]
  simp
 have hr:al E ρ' ⟨(0,r)::numbered 1 as,h'⟩ a w':=by
  refine⟨eX.nil _ _,by simp[a,E];omega,fun k av hk=>?_,g3,fun id W L b e1 e2 e3=>.inr (g12 b ⟨id,W,L,e1,e2,e3⟩),⟨rfl,rfl,rfl,Nat.le_refl _,fun _ _ _=>rfl,hA.1.stays (fun b _ _ _ hb _=>g11 b (hA.1.lt hb) (hA.2 b hb)),fun b hb hx=>hx.elim (fun g=>by have:=hA.1.lt hb;omega) (hA.2 b hb)⟩,fun b hb=>Nat.lt_of_lt_of_le (h2 b hb) g10⟩
  simp only[sget]at hk
  split at hk
  ·rename_i e;subst e
   obtain rfl:=Option.some.inj hk
   refine⟨.inl (show 0<vs.size+1 by omega),?_⟩
   have:a6 E a 0=v:=by
    unfold a6
    rw[if_pos (show 0<vs.size+1 by omega)]
    simp only[a];exact p7 v vs
   rw[this];exact g4
  ·obtain⟨e1,e2⟩:=jj as 1 k av hk
   have hlt:=(List.getElem?_eq_some_iff.1 e2).1
   obtain⟨j,rfl⟩:∃j,k=1+j:=⟨k-1,by omega⟩
   have hj:j<vs.size:=by omega
   refine⟨.inl (show 1+j<vs.size+1 by omega),?_⟩
   rw[hsv j hj]
   have hv:vs[j]?=some (vs.getD j undef):=by rw[Array.getD_eq_getD_getElem?,Array.getElem?_eq_getElem hj];rfl
   exact g6 j _ av hv (by rw[Nat.add_sub_cancel_left]at e2;exact e2)
 obtain⟨ρ2,hr2⟩:=iB hwk hr
 refine⟨v,h2',r2,ρ2,as2,rfl,hP,hr2.heap,?_,by omega,fun j u x e1 e2=>?_,g7,g8,g9,g10,g11,fun b ⟨id,W,L,e1,e2,e3⟩=>?_⟩
 ·have:=(hr2.aV 0 r2 (by simp[sget])).2
  have e:a6 E a 0=v:=by
   unfold a6
   rw[if_pos (show 0<vs.size+1 by omega)]
   simp only[a];exact p7 v vs
  rw[e]at this;exact this
 ·have hj:=(Array.getElem?_eq_some_iff.1 e1).1
  have hs2:sget ((0,r2)::numbered 1 as2) (1+j)=some x:=by
   simp only[sget]
   rw[if_neg (by omega)]
   exact mL as2 1 j x e2
  have:=(hr2.aV (1+j) x hs2).2
  rw[hsv j hj,Array.getD_eq_getD_getElem?,e1]at this
  exact this
 ·rcases hr2.base id W L b e1 e2 e3 with g | g
  ·exact .inl (Nat.le_trans g10 g)
  ·exact g
def fltB (b:Bool) (k:Nat) (v:AV) (r:List (Nat×AV)):List (Nat×AV):=
 match b with
 | true=>(k,v)::r
 | false=>r
def fltO (o:Option AV) (k:Nat) (r:List (Nat×AV)):List (Nat×AV):=
 match o with
 | some v=>fltB (flA v) k v r
 | none=>r
def fltS (s0:List (Nat×AV)):List (Nat×AV)→List (Nat×AV)
 | []=>[]
 | (k,_)::r=>fltO (sget s0 k) k (fltS s0 r)
def getL (s:List (Nat×AV)):List Nat→List AV
 | []=>[]
 | k::r=>(sget s k).getD .undef::getL s r
def zipS:List Nat→List AV→List (Nat×AV)
 | k::ks,v::vs=>(k,v)::zipS ks vs
 | _,_=>[]
theorem yS (s:List (Nat×AV)):∀ks,(getL s ks).length=ks.length
 | []=>rfl
 | k::r=>by simp[getL,yS s r]
theorem yR (s:List (Nat×AV)):∀(ks:List Nat) (j k:Nat),ks[j]?=some k→(getL s ks)[j]?=some ((sget s k).getD .undef)
 | [],j,k,h=>by simp at h
 | q::r,0,k,h=>by simp at h;subst h;rfl
 | q::r,j+1,k,h=>by simpa[getL]using yR s r j k (by simpa using h)
theorem DY:∀{ks:List Nat} {vs:List AV} {k:Nat} {v:AV},sget (zipS ks vs) k=some v→∃j:Nat,ks[j]?=some k∧vs[j]?=some v
 | [],vs,k,v,h=>by simp[zipS,sget]at h
 | q::ks,[],k,v,h=>by simp[zipS,sget]at h
 | q::ks,u::vs,k,v,h=>by
  simp only[zipS,sget]at h
  split at h
  ·rename_i e
   obtain rfl:=Option.some.inj h
   exact⟨0,by rw[e];rfl,rfl⟩
  ·obtain⟨j,h1,h2⟩:=DY h
   exact⟨j+1,by simpa using h1,by simpa using h2⟩
theorem pY {s0:List (Nat×AV)}:∀{s:List (Nat×AV)} {k:Nat} {v:AV},sget (fltS s0 s) k=some v→sget s0 k=some v∧flA v=true
 | [],k,v,h=>by simp[fltS,sget]at h
 | (q,u)::s,k,v,h=>by
  unfold fltS at h
  cases hq:sget s0 q with
  | none=>rw[hq]at h;exact pY (s:=s) h
  | some x=>
   rw[hq]at h
   simp only[fltO]at h
   cases hu:flA x with
   | true=>
    rw[hu]at h
    simp only[fltB,sget]at h
    split at h
    ·rename_i e
     subst e
     obtain rfl:=Option.some.inj h
     exact⟨hq,hu⟩
    ·exact pY h
   | false=>
    rw[hu]at h
    exact pY (s:=s) h
def na (st:St) (ks:List Nat) (h':HP) (gs:List AV):St:=⟨zipS ks gs++fltS st.s st.s,h'⟩
theorem Ea {P:Program} {st:St} {f:Nat} {args:List AE} {K:AV→St→Prop} {Post:HP→AV→List AV→Prop} (ks:List Nat) (hks:ks.all (fun k=>(sget st.s k).isSome)=true)
    (hs:fS P f args.length st.h (args.map (ev st)++getL st.s ks) Post)
    (hK:∀h' r as,Post h' r as→K r (na st ks h' (as.drop args.length))):eM P false st f args K:=by
 intro E ρ a w vs h hvs hrv
 let us:Array Value:=(ks.map (a6 E a)).toArray
 have hus:us.size=ks.length:=by simp[us]
 have hex:(vs++us).extract 0 args.length=vs:=by
  rw[←hvs];simp
 have:=hs E.X0 ρ w (vs++us) h.heap h.ct h.x0 (by simp[hvs,hus,yS]) (fun j v x e1 e2=>?_)
 ·rw[hex]at this
  refine this.mono ?_
  rintro e w' ⟨v,h',r,ρ',as,rfl,hP,hH,hr,hal,has,q1,q2,q3,q4,q5,q6⟩
  refine⟨v,ρ',na st ks h' (as.drop args.length),r,rfl,⟨h.defers.turn (fun b hb=>q5 b (Array.getElem?_eq_some_iff.1 hb).1 (fun hx=>jc h.heap hb hx)),h.size,fun k av hk=>?_,hH,fun id W L b e1 e2 e3=>?_,?_,fun b hb=>Nat.lt_of_lt_of_le (h.x0 b hb) q4⟩,hr,hK h' r as hP,fun hq=>by cases hq⟩
  ·simp only[na,ji]at hk
   cases hz:sget (zipS ks (as.drop args.length)) k with
   | some av1=>
    rw[hz]at hk
    obtain rfl:av1=av:=Option.some.inj hk
    obtain⟨j,g1,g2⟩:=DY hz
    have hk1:=List.all_eq_true.1 hks k (List.mem_of_getElem? g1)
    obtain⟨av0,hav0⟩:=Option.isSome_iff_exists.1 hk1
    refine⟨(h.aV k av0 hav0).1,?_⟩
    rw[List.getElem?_drop]at g2
    refine has (args.length+j) (a6 E a k) av1 ?_ g2
    rw[Array.getElem?_append_right (by omega),hvs,Nat.add_sub_cancel_left]
    simp[us,g1]
   | none=>
    rw[hz,Option.none_or]at hk
    obtain⟨g1,g2⟩:=pY hk
    exact⟨(h.aV k av g1).1,(h.aV k av g1).2.flA g2⟩
  ·rcases q6 b ⟨id,W,L,e1,e2,e3⟩with g | ⟨id',W',L',f1,f2,f3⟩
   ·exact .inl (Nat.le_trans h.aw.size g)
   ·exact h.base id' W' L' b f1 f2 f3
  ·refine⟨q1.trans h.aw.os,q2.trans h.aw.tape,q3.trans h.aw.output,Nat.le_trans h.aw.size q4,fun b hb hF=>(q5 b (Nat.lt_of_lt_of_le hb h.aw.size) ?_).trans (h.aw.block b hb hF),h.aw.ct⟩
   rintro⟨id',W',L',f1,f2,f3⟩
   rcases h.base id' W' L' b f1 f2 f3 with g | g
   ·omega
   ·exact hF g
 ·by_cases hj:j<args.length
  ·rw[Array.getElem?_append_left (by omega)]at e1
   rw[List.getElem?_append_left (by simpa using hj),List.getElem?_map]at e2
   obtain⟨y,g1,rfl⟩:=Option.map_eq_some_iff.1 e2
   exact(hrv j v y e1 g1).1
  ·rw[Array.getElem?_append_right (by omega),hvs]at e1
   rw[List.getElem?_append_right (by simpa using hj),List.length_map]at e2
   simp only[us,List.getElem?_toArray,List.getElem?_map]at e1
   obtain⟨k,g1,rfl⟩:=Option.map_eq_some_iff.1 e1
   rw[yR _ _ _ _ g1]at e2
   obtain rfl:=Option.some.inj e2
   obtain⟨av0,hav0⟩:=Option.isSome_iff_exists.1 (List.all_eq_true.1 hks k (List.mem_of_getElem? g1))
   rw[hav0]
   exact(h.aV k av0 hav0).2
section
variable {P:Program} {st:St} {f n:Nat} {args:List AE} {as bs:List AV} {d:Option Nat} {r:List ROp} {K:KS} {Post:HP→AV→List AV→Prop}
theorem pq (ks:List Nat) (hks:ks.all (fun k=>(sget st.s k).isSome)=true) (hb:as++getL st.s ks=bs) (hn:args.length=n) (hs:fS P f n st.h bs Post)
    (h:∀h' v as',Post h' v as'→aopsW P r (put (na st ks h' (as'.drop n)) d v) K):fT P false st f args as d r K:=by
 rintro rfl
 subst hb
 subst hn
 exact Ea ks hks hs h
end
theorem O7 (s0:List (Nat×AV)):fltS s0 []=[]:=(rfl)
theorem O6 (s0:List (Nat×AV)) (k:Nat) (v:AV) (r:List (Nat×AV)):fltS s0 ((k,v)::r)=fltO (sget s0 k) k (fltS s0 r):=(rfl)
theorem O5 (v:AV) (k:Nat) (r:List (Nat×AV)):fltO (some v) k r=fltB (flA v) k v r:=(rfl)
theorem O4 (v:AV) (k:Nat) (r:List (Nat×AV)):fltB true k v r=(k,v)::r:=(rfl)
theorem O3 (v:AV) (k:Nat) (r:List (Nat×AV)):fltB false k v r=r:=(rfl)
theorem P0 (s:List (Nat×AV)):getL s []=[]:=(rfl)
theorem PZ (s:List (Nat×AV)) (k:Nat) (r:List Nat):getL s (k::r)=(sget s k).getD .undef::getL s r:=(rfl)
theorem atf (vs:List AV):zipS [] vs=[]:=(rfl)
theorem ate (k:Nat) (ks:List Nat) (v:AV) (vs:List AV):zipS (k::ks) (v::vs)=(k,v)::zipS ks vs:=(rfl)
theorem EW (st:St) (ks:List Nat) (h':HP) (gs:List AV):na st ks h' gs=⟨zipS ks gs++fltS st.s st.s,h'⟩:=(rfl)
attribute [go_sem] O7 O6 O5 O4 O3 P0 PZ atf ate EW
end Go.Proofs.YtoalcafkffmiiaaGreatDoor.Eng
namespace Go.Proofs.YtoalcafkffmiiaaGreatDoor.Eng
namespace Kz
abbrev ci (n:Int):AE:=.c (.int .i64 n)
abbrev m (d k:Nat):ROp:=.v d (.af (.t k))
abbrev k (d:Nat) (x:AE):ROp:=.v d (.af x)
abbrev b (d:Nat) (op:BinOp) (x y:Nat):ROp:=.v d (.bin op (.t x) (.t y))
abbrev bi (d:Nat) (op:BinOp) (x:Nat) (n:Int):ROp:=.v d (.bin op (.t x) (ci n))
abbrev u (id d:Nat) (o:AO):ROp:=.val d true id o
end Kz
section
variable {P:Program} {E:Env} {st:St} {Q:KQ}
theorem aqv {pre post:List ROp} {o:ROp} {ks:List Nat}:vcW P E (.cd pre o post ks) Q st=aopsW P pre st (KS.pO P o post ks Q):=(rfl)
theorem aqw {pre bl post:List ROp} {o o2:ROp} {ks:List Nat}:vcW P E (.mH pre o bl o2 post ks) Q st=aopsW P pre st (KS.xS P o bl o2 post ks Q):=(rfl)
theorem aqm {p x y:List ROp} {ks:List Nat}:vcW P E (.alt p x y ks) Q st=aopsW P p st (KS.alt P x y ks Q):=(rfl)
theorem aqn {T:RT} {ks:List Nat}:vcW P E (.gk T ks) Q st=iv P T st (KS.aa ks Q):=(rfl)
theorem aqB {ops:List ROp} {d f bk p q0:Nat} {x:AE} {c:UInt8} {body:AK}:vcW P E (.split ops d f x c bk p q0 body) Q st=aopsW P ops st (KS.CX P E d f x c bk p q0 body Q):=(rfl)
theorem aqo {ops:List ROp} {d f kx bk p1 p q0:Nat} {body:AK}:vcW P E (.back ops d f kx bk p1 p q0 body) Q st=aopsW P ops st (KS.wu P E d f kx bk p1 p q0 body Q):=(rfl)
end
attribute [go_sem] aqz aqu aqq aqp aqv aqw aqm aqB aqo aqn ak7 ak8 ZG
def fnChk (P:Program) (fn:Func) (B p:Nat):Option (AC×List RVar):=
 match fn.body with
 | some b=>bif Nat.ble fn.ntmps 1000000&&Nat.ble p fn.ntmps then some (trCode P fn.ntmps B b,fn.results.toList.map (trRes P))else none
 | none=>none
def aD (P:Program) (f B p:Nat) (x:AK) (rs:List RVar):Prop:=∃fn,P.funcs[f]?=some fn∧fnChk P fn B p=some (x.erase B,rs)
theorem aD.out {P:Program} {f B p:Nat} {x:AK} {rs:List RVar} (h:aD P f B p x rs):∃fn body,P.funcs[f]?=some fn∧fn.body=some body∧trCode P fn.ntmps B body=x.erase B∧fn.results.toList.map (trRes P)=rs∧fn.ntmps≤1000000∧p≤fn.ntmps:=by
 obtain⟨fn,h1,h2⟩:=h
 unfold fnChk at h2
 split at h2
 ·rename_i body hb
  cases hc:(Nat.ble fn.ntmps 1000000&&Nat.ble p fn.ntmps)with
  | false=>rw[hc]at h2;cases h2
  | true=>
   rw[hc]at h2
   have h3:=Option.some.inj h2
   injection h3 with h4 h5
   simp only[Bool.and_eq_true,Nat.ble_eq]at hc
   exact⟨fn,body,h1,hb,h4,h5,hc.1,hc.2⟩
 ·cases h2
def aF (P:Program) (x:AK) (rs:List RVar) (p:Nat) (s:List (Nat×AV)) (h:HP) (Post:HP→AV→List AV→Prop):Prop:=
 ∀(E:Env) (R:HP→AV→List AV→Prop),E.N≤1000000→cP Post R→vcW P E x (KQ.post rs p R) ⟨s,h⟩
def oU (P:Program) (x:AK) (rs:List RVar) (p:Nat) (s:List (Nat×AV)) (h:HP) (Post:HP→AV→List AV→Prop):Prop:=
 ∀(E:Env) (R:HP→AV→List AV→Prop),E.N≤1000000→E.rd=none→cP Post R→vcW P E x (KQ.post rs p R) ⟨s,h⟩
def kC (P:Program) (x:AK) (V:Value) (s:List (Nat×AV)) (h:HP):Prop:=∀(E:Env),E.N≤1000000→vcW P E x (KQ.dies V) ⟨s,h⟩
section
variable {P:Program} {f B p:Nat} {x:AK} {rs:List RVar} {h:HP} {args:List AV} {Post:HP→AV→List AV→Prop}
theorem u4 (hf:aD P f B p x rs) (hl:args.length=p) (s:List (Nat×AV)) (hs:dF (fL args) s) (hp:oU P x rs p s h Post):Spec P f h args Post:=by
 obtain⟨fn,body,h1,h2,h3,h4,h5,h6⟩:=hf.out
 refine CW (an8 h1 h2 h3 h5 (by omega) (fun E hE hB hrd=>?_))
 have hN:E.N≤1000000:=by rw[hE];exact h5
 rw[h4,←hB,hl]
 exact o8 s hs (eK hN _ (hp E _ hN hrd sX))
theorem aJ (hf:aD P f B p x rs) (hl:args.length=p) (s:List (Nat×AV)) (hs:dF (fL args) s) (hp:aF P x rs p s h Post):Spec P f h args Post:=
 u4 hf hl s hs (fun E R h1 _ h2=>hp E R h1 h2)
theorem mN {V:Value} (hf:aD P f B p x rs) (hl:args.length=p) (s:List (Nat×AV)) (hs:dF (fL args) s) (hp:kC P x V s h):dX P f h args V:=by
 obtain⟨fn,body,h1,h2,h3,h4,h5,h6⟩:=hf.out
 exact an3 h1 h2 h3 h5 (by omega) s hs hp
theorem an6 {n:Nat} (hf:aD P f B n x rs) (hl:n≤args.length) (s:List (Nat×AV)) (hs:dF (ru n args) s) (hp:oU P x rs args.length s h Post):fS P f n h args Post:=by
 obtain⟨fn,body,h1,h2,h3,h4,h5,h6⟩:=hf.out
 refine an0 (anZ h1 h2 h3 h5 hl (by omega) (fun E hE hB hrd=>?_))
 have hN:E.N≤1000000:=by rw[hE];exact h5
 rw[h4,←hB]
 exact o8 s hs (eK hN _ (hp E _ hN hrd sX))
theorem an5 {n:Nat} (hf:aD P f B n x rs) (hl:n≤args.length) (s:List (Nat×AV)) (hs:dF (ru n args) s) (hp:aF P x rs args.length s h Post):fS P f n h args Post:=
 an6 hf hl s hs (fun E R h1 _ h2=>hp E R h1 h2)
end
end Go.Proofs.YtoalcafkffmiiaaGreatDoor.Eng
namespace Go.Proofs.YtoalcafkffmiiaaGreatDoor.Eng
def mX (P:Program) (g:Nat) (h:HP) (args:List AV) (V:Value) (h':HP):Prop:=
 ∀(X0:Nat→Prop) (ρ:Loc) (w:World) (vs:Array Value),cH X0 ρ h w→iE (aW ρ h) w→(∀b,X0 b→b<w.heap.size)→vs.size=args.length →
  (∀(j:Nat) v x,vs[j]?=some v→args[j]?=some x→RV (XX X0 ρ h) w ρ v x) →
  CallsDIn Fence.wide 0 P g vs (.panicking (bK V)) w fun e u' w'=>(∃v,e=.returned v)∧u'=.panicking [{v:=V,recovered:=true}]∧∃ρ',cH X0 ρ' h' w' ∧
   (∀(j:Nat) v x,vs[j]?=some v→args[j]?=some x→RV (XX X0 ρ' h') w' ρ' v x) ∧
   w'.os=w.os∧w'.tape=w.tape∧w'.output=w.output∧w.heap.size≤w'.heap.size∧(∀b,b<w.heap.size→¬aW ρ h b→w'.heap[b]?=w.heap[b]?) ∧
   (∀b,aW ρ' h' b→w.heap.size≤b∨aW ρ h b)
def jR (P:Program) (g k:Nat):Prop:=∀(vs:Array Value) (w:World),vs.size=k→CallsDIn Fence.wide 0 P g vs .returning w fun e u' w'=>(∃v,e=.returned v)∧u'=.returning∧w'=w
def ghL:Nat→Nat→List AE
 | _,0=>[]
 | j,k+1=>.t j::ghL (j+1) k
def tj (m k:Nat):List AE:=ghL (2000000+m) k
theorem yV:∀k j,(ghL j k).length=k
 | 0,_=>rfl
 | k+1,j=>by simp[ghL,yV k]
theorem yU:∀k j i,i<k→(ghL j k)[i]?=some (.t (j+i))
 | 0,_,_,h=>by omega
 | k+1,j,0,_=>rfl
 | k+1,j,i+1,h=>by
  simp only[ghL,List.getElem?_cons_succ]
  rw[yU k (j+1) i (by omega),show j+1+i=j+(i+1)by omega]
def fe (st:St) (m k:Nat):List AV:=evL st (tj m k)
def jS (st:St) (m k:Nat) (h0 h':HP):St:=fv st h0 ((fe st m k).map .c) h' (fe st m k)
def yY (P:Program) (rs:List RVar) (m k g:Nat) (R:HP→AV→List AV→Prop):Exit→St→Prop
 | .normal,st | .ret,st=>∃r,resOf st rs=some r∧R st.h r (argsAgain st 0 m)
 | .panic ch,st=>∃V h0 h',ch=bK V∧mX P g h0 (fe st m k) V h'∧ia h' h'=true∧(∀i W,hget h0 i=some W→hget st.h i=some W) ∧
     ∃r,resOf (jS st m k h0 h') rs=some r∧R (jS st m k h0 h').h r (argsAgain (jS st m k h0 h') 0 m)
 | _,_=>False
def seqA:List AC→AC→AC
 | [],y=>y
 | x::xs,y=>.seq x (seqA xs y)
def qR (P:Program) (E:Env):List AC→(Exit→St→Prop)→St→Prop
 | [],Q,st=>Q .normal st
 | x::xs,Q,st=>bC P E x st (jl (qR P E xs Q) Q)
def sG (P:Program) (N B:Nat) (rs:List RVar) (m g d:Nat) (caps:List AE) (c1:AC) (R:HP→AV→List AV→Prop):Exit→St→Prop
 | .normal,st=>∀E':Env,E'.N=N→E'.B=B→E'.rd=none→bC P E' c1 ⟨numbered (2000000+m) (evL st caps)++(d,.undef)::st.s,st.h⟩ (yY P rs m caps.length g R)
 | .ret,st=>∃r,resOf st rs=some r∧R st.h r (argsAgain st 0 m)
 | _,_=>False
theorem aln {o:Oper} {f:Nat} {cap:Array Operand} (ho:o.op=.makeFunc (.func f) #[] cap) (a:Act) (P:Program) (w:World):(execOp a.eval o).run P w=.ok (.value (.func (.func f) #[] (cap.map a.eval))) w:=by
 simp[execOp,ho,Instr.makeFunc]
theorem an7 {P:Program} {f g d:Nat} {fn:Func} {body:Code} {h:HP} {args:List AV} {Post:HP→AV→List AV→Prop} {pre:List AC} {c1:AC} {caps:List AE} (hf:P.funcs[f]?=some fn) (hb:fn.body=some body) {B:Nat}
    (hc:trCode P fn.ntmps B body=seqA pre (.seq (.eD g (.c (.ai [.int .i64 (d:Int)])::caps)) c1)) (hN:fn.ntmps≤1000000) (ha:args.length≤fn.ntmps) (hd:d<fn.ntmps) (hI:jR P g caps.length)
    (hp:∀E:Env,E.N=fn.ntmps→E.B=B→E.rd=none→qR P E pre (sG P fn.ntmps B (fn.results.toList.map (trRes P)) args.length g d caps c1 Post) ⟨fL args,h⟩):Spec P f h args Post:=by
 intro X0 ρ w vs hh hA hX hvs hrv
 let gv0:Nat→Value:=fun k=>vs.getD (k-2000000) undef
 let E0:Env:=⟨w,aW ρ h,X0,fn.ntmps,B,gv0,none,w.heap.size,Nat.le_refl _,[]⟩
 let RR:Ending→World→Prop:=fun e w'=>∃v h' r ρ' as,e=.returned v∧Post h' r as∧cH X0 ρ' h' w'∧RV (XX X0 ρ' h') w' ρ' v r ∧
     as.length=args.length∧(∀(j:Nat) v x,vs[j]?=some v→as[j]?=some x→RV (XX X0 ρ' h') w' ρ' v x) ∧
     w'.os=w.os∧w'.tape=w.tape∧w'.output=w.output∧w.heap.size≤w'.heap.size∧(∀b,b<w.heap.size→¬aW ρ h b→w'.heap[b]?=w.heap[b]?) ∧
     (∀b,aW ρ' h' b→w.heap.size≤b∨aW ρ h b)
 -- what is reached at the end,the aV of the arguments as they came in
 have fin0:∀(E:Env) (ρ':Loc) (st'':St) (a':Act) (w'':World),E.w0=w→E.F=aW ρ h→E.X0=X0→E.N=fn.ntmps→(∀j,j<args.length→E.gv (2000000+j)=gv0 (2000000+j))→al E ρ' st'' a' w'' →
     (∃r,resOf st'' (fn.results.toList.map (trRes P))=some r∧Post st''.h r (argsAgain st'' 0 args.length))→∃v,(results fn a'.tmps).run P w''=.ok v w''∧RR (.returned v) w'':=by
  rintro E ρ' st'' a' w'' e1 e2 e3 e4 e5 g ⟨r,hr,hP⟩
  obtain⟨v,q1,q2⟩:=uG (P:=P) g hr
  have gx:=g.heap
  rw[e3]at gx q2
  refine⟨v,q1,v,st''.h,r,ρ',_,rfl,hP,gx,q2,ng _ _ _,fun j v x g1 g2=>?_,by rw[g.aw.os,e1],by rw[g.aw.tape,e1],by rw[g.aw.output,e1],by have:=g.aw.size;rwa[e1]at this,fun b hb hF=>by
   have:=g.aw.block b (by rw[e1];exact hb) (by rw[e2];exact hF)
   rwa[e1]at this,fun b ⟨id,W,L,h1,h2,h3⟩=>by have:=g.base id W L b h1 h2 h3;rwa[e1,e2]at this⟩
  have hjl:j<args.length:=by
   have:=(List.getElem?_eq_some_iff.1 g2).1
   rwa[ng]at this
  have:=o5 st'' _ _ j x g2
  rw[Nat.zero_add]at this
  cases hs:sget st''.s (2000000+j)with
  | none=>rw[hs]at this;subst this;exact .undef _ _
  | some av=>
   rw[hs]at this
   obtain rfl:x=av:=this
   have hr2:=(g.aV _ _ hs).2
   unfold a6 at hr2
   rw[if_neg (by rw[e4];omega),e5 j hjl,e3]at hr2
   simp only[gv0,Nat.add_sub_cancel_left,Array.getD_eq_getD_getElem?,g1]at hr2
   exact hr2
 have key:∀(pre:List AC) (body:Code) (st1:St) (ρ1:Loc) (a1:Act) (w1:World),trCode P fn.ntmps B body=seqA pre (.seq (.eD g (.c (.ai [.int .i64 (d:Int)])::caps)) c1)→al E0 ρ1 st1 a1 w1 →
     qR P E0 pre (sG P fn.ntmps B (fn.results.toList.map (trRes P)) args.length g d caps c1 Post) st1→body.wpIn Fence.wide 0 P (bodyPostM Fence.wide 0 P fn RR) a1 w1:=by
  intro pre
  induction pre with
  | cons x xs ih=>
   intro body st1 ρ1 a1 w1 hc g1 hp
   obtain⟨b0,b',rfl,h0,hb'⟩:=Dj hc
   refine wpIn_seq (wpIn_mono (hp 0 b0 h0 a1 w1 ⟨ρ1,g1⟩) ?_)
   rintro e a' w' ⟨st',⟨ρ',g'⟩,q⟩
   cases e with
   | normal=>exact ih b' st' ρ' a' w' hb' g' q
   | ret=>
    show LeavesInM Fence.wide 0 P fn a'.tmps _ a'.defers .returning w'
    obtain⟨⟨Ds,hDs⟩,_⟩:=g'.defers
    rw[hDs]
    refine j9 (E:=E0) (ρ:=ρ') (st:=st') (a:=a') (by simp) (fun w' gg=>?_) rfl rfl Ds w' (by rw[←hDs];exact g')
    obtain⟨v,q1,q2⟩:=fin0 E0 ρ' st' _ w' rfl rfl rfl rfl (fun _ _=>rfl) gg q
    exact⟨v,q1,q2⟩
   | exit id=>exact q.elim
   | goto l=>exact q.elim
   | panic ch=>exact q.elim
   | outgrown=>exact q.elim
  | nil=>
   intro body st1 ρ1 a1 w1 hc g1 hp
   obtain⟨bd,b1,rfl,hbd,h1⟩:=Dj hc
   obtain⟨id,ops,draw,o1,o2,cap,cl,rfl,hops,ho1,hg1,hd1,ho2,hg2,hd2,hcl,hca,hcal,hcaps,hdraw⟩:=apc hbd
   have hoa:ops=#[o1,o2]:=by
    apply Array.toList_inj.1
    simpa using hops
   let us:Array Value:=cap.map a1.eval
   have husz:us.size=caps.length:=by rw[hcaps];simp[us]
   let dd:Deferred:={target:=.fn (.func g) us,args:=#[]}
   let a2:Act:=a1.put (some d) (.func (.func g) #[] us)
   let a3:Act:={a2 with defers:=dd::a2.defers}
   have hev2:a2.eval (.tmp d)=.func (.func g) #[] us:=by
    show(a1.put (some d) (.func (.func g) #[] us)).tmps.getD d undef=_
    rw[nC a1 d d _ (by rw[g1.size];exact hd),if_pos rfl]
   -- the region of two operations
   have region:∀(Q:Exit→Act→World→Prop),(∀w2,aL w1 w2→Q .normal a3 w2)→(Code.region id ops draw).wpIn Fence.wide 0 P Q a1 w1:=by
    intro Q hQ
    have r1:∀w2,(execOp a1.eval o1).run P w2=.ok (.value (.func (.func g) #[] us)) w2:=fun w2=>aln ho1 a1 P w2
    have r2:∀w2,(execOp a2.eval o2).run P w2=.ok (.defer dd) w2:=by
     intro w2
     unfold execOp
     simp[ho2,resolve,hcl,hev2,Deferred.ofValue,hca,dd]
    have s1:∀w2 (next:Act→World→Prop),next a2 w2→o1.wpIn Fence.wide 0 P a1 w2 next Q:=by
     intro w2 next hn
     refine⟨fun _ _=>trivial,?_⟩
     rw[show Fence.wide.round=none from rfl,Oper.semAt_none,r1]
     show next (a1.put o1.dst _) w2
     rw[hd1];exact hn
    have s2:∀w2 (next:Act→World→Prop),next a3 w2→o2.wpIn Fence.wide 0 P a2 w2 next Q:=by
     intro w2 next hn
     refine⟨fun _ _=>trivial,?_⟩
     rw[show Fence.wide.round=none from rfl,Oper.semAt_none,r2]
     show next (({a2 with defers:=dd::a2.defers}:Act).put o2.dst undef) w2
     rw[hd2];exact hn
    have hw:∀(o:Oper) (l:Nat→Option Bool),o.guard=none→Region.wanted o l=true:=by
     intro o l h
     simp[Region.wanted,h]
    cases draw with
    | false=>
     refine wpIn_region_list ?_
     rw[hops]
     exact wpListIn_plain hg1 (fun next hnext=>s1 _ _ (hnext _ _ (wpListIn_plain hg2 (fun next hnext=>s2 _ _ (hnext _ _ (hQ w1 (aL.refl w1)))))))
    | true=>
     obtain⟨hm,e0,e1,e2⟩:=hdraw rfl
     subst hoa
     refine wpIn_region_any hm ?_
     have hs:aL w1 {w1 with drawn:=w1.drawn+1}:=aL.drew w1
     refine⟨fun e=>?_,fun i hi=>?_⟩
     ·have:Region.ready .any #[o1,o2] #[false,false]=[]:=e
      rw[e0]at this;cases this
     ·have hi':i∈Region.ready .any #[o1,o2] #[false,false]:=hi
      rw[e0,List.mem_singleton]at hi'
      subst hi'
      unfold wpOpIn
      simp only[List.getElem?_toArray,List.getElem?_cons_zero,hw o1 _ hg1,if_true]
      refine s1 _ _ ?_
      refine⟨fun e=>?_,fun i hi=>?_⟩
      ·have:Region.ready .any #[o1,o2] #[true,false]=[]:=e
       rw[e1]at this;cases this
      ·have hi':i∈Region.ready .any #[o1,o2] #[true,false]:=hi
       rw[e1,List.mem_singleton]at hi'
       subst hi'
       unfold wpOpIn
       simp only[List.getElem?_toArray,List.getElem?_cons_succ,List.getElem?_cons_zero,hw o2 _ hg2,if_true]
       refine s2 _ _ ?_
       exact⟨e2,hQ _ hs⟩
   refine wpIn_seq (region _ (fun w2 hs2=>?_))
   show b1.wpIn Fence.wide 0 P (bodyPostM Fence.wide 0 P fn RR) a3 w2
   let m:=args.length
   let E1:Env:=⟨w,aW ρ h,X0,fn.ntmps,B,fun j=>if 2000000+m≤j∧j<2000000+m+caps.length then us.getD (j-(2000000+m)) undef else gv0 j,none,w.heap.size,Nat.le_refl _,dd::a1.defers⟩
   obtain⟨⟨Ds0,hDs0⟩,hnd0,hmk0⟩:=(g1.same hs2).defers
   have hDs0:a1.defers=Ds0.map lg:=by rw[hDs0];simp[E0]
   have gput:=(g1.same hs2).put d hd (v:=.func (.func g) #[] us) (av:=.undef) (.undef _ _)
   have hcv:∀(j:Nat) x,(evL st1 caps)[j]?=some x→∃v,us[j]?=some v∧RV (XX E0.X0 ρ1 st1.h) w2 ρ1 v x:=by
    intro j x hj
    rw[gX,hcaps,List.map_map,List.getElem?_map,Array.getElem?_toList]at hj
    obtain⟨y,e1,rfl⟩:=Option.map_eq_some_iff.1 hj
    exact⟨a1.eval y,by simp[us,e1],bf (g1.same hs2) y⟩
   have g2:al E1 ρ1 ⟨numbered (2000000+m) (evL st1 caps)++(d,.undef)::st1.s,st1.h⟩ a3 w2:=by
    refine⟨⟨⟨[],rfl⟩,hnd0,hmk0⟩,gput.size,fun k av hk=>?_,(g1.same hs2).heap,g1.base,⟨(g1.same hs2).aw.os,(g1.same hs2).aw.tape,(g1.same hs2).aw.output,(g1.same hs2).aw.size,(g1.same hs2).aw.block,g1.aw.ct⟩,(g1.same hs2).x0⟩
    simp only[ji]at hk
    cases hz:sget (numbered (2000000+m) (evL st1 caps)) k with
    | some av1=>
     rw[hz]at hk
     obtain rfl:av1=av:=Option.some.inj hk
     obtain⟨e1,e2⟩:=jj _ _ _ _ hz
     obtain⟨v,e3,e4⟩:=hcv _ _ e2
     refine⟨.inr (by omega),?_⟩
     have:a6 E1 a3 k=v:=by
      unfold a6
      rw[if_neg (by simp only[E1];omega)]
      have e5:k-(2000000+m)<us.size:=(Array.getElem?_eq_some_iff.1 e3).1
      simp only[E1,if_pos (show 2000000+m≤k∧k<2000000+m+caps.length by omega),Array.getD_eq_getD_getElem?,e3];rfl
     rw[this];exact e4
    | none=>
     rw[hz,Option.none_or]at hk
     obtain⟨r1,r2⟩:=gput.aV k av hk
     refine⟨r1,?_⟩
     have hkm:¬(2000000+m≤k∧k<2000000+m+caps.length):=by
      intro hk2
      have hl:k-(2000000+m)<(evL st1 caps).length:=by rw[gX];simp;omega
      have:=mL (evL st1 caps) (2000000+m) (k-(2000000+m)) _ (List.getElem?_eq_getElem hl)
      rw[show 2000000+m+(k-(2000000+m))=k by omega,hz]at this
      cases this
     have:a6 E1 a3 k=a6 E0 (a1.put (some d) (.func (.func g) #[] us)) k:=by
      unfold a6
      simp only[E1,E0,if_neg hkm];rfl
     rw[this]
     exact r2
   refine wpIn_mono (hp E1 rfl rfl rfl 0 b1 h1 _ w2 ⟨ρ1,g2⟩) ?_
   rintro e a' w' ⟨st',⟨ρ',g0⟩,q⟩
   obtain⟨⟨Ds,hDs⟩,_⟩:=g0.defers
   have fin:∀(ρ'':Loc) (st'':St) (w'':World),al E1 ρ'' st'' {a' with defers:=dd::a1.defers} w''→(∃r,resOf st'' (fn.results.toList.map (trRes P))=some r∧Post st''.h r (argsAgain st'' 0 args.length)) →
       LeavesInM Fence.wide 0 P fn a'.tmps RR a1.defers .returning w'':=by
    intro ρ'' st'' w'' gg hP
    have gg':al {E1 with df:=[]} ρ'' st'' {a' with defers:=Ds0.map lg++[]} w'':=by
     refine gg.df rfl rfl rfl rfl rfl ⟨⟨Ds0,rfl⟩,?_⟩
     have:=gg.defers.2
     rw[List.append_nil,←hDs0]
     exact this
    have:=j9 (P:=P) (fn:=fn) (E:={E1 with df:=[]}) (ρ:=ρ'') (st:=st'') (a:=a') (u:=.returning) (rest:=[]) (R:=RR) (by simp) (fun w' g=>?_) rfl rfl Ds0 w'' gg'
    ·rw[List.append_nil,←hDs0]at this
     exact this
    ·obtain⟨v,q1,q2⟩:=fin0 _ ρ'' st'' _ w' rfl rfl rfl rfl (fun j hj=>by
      show(if _ then _ else _)=_
      rw[if_neg (by omega)]) g hP
     exact⟨v,q1,q2⟩
   have hinv:∀w,(invoke (.fn (.func g) us) #[]).run P w=.ok (.enter g us) w:=by
    intro w
    unfold callable at hcal
    split at hcal
    ·rename_i fn h2
     simp only[Bool.and_eq_true,bne_iff_ne]at hcal
     have h5:¬fn.name = "runtime.NumGoroutine" := by simpa using hcal.2
     have h6:¬fn.body=none:=by intro e;rw[e]at hcal;cases hcal.1
     simp[invoke,callFunc,h2,h5,h6]
    ·cases hcal
   have ret:(∃r,resOf st' (fn.results.toList.map (trRes P))=some r∧Post st'.h r (argsAgain st' 0 args.length))→LeavesInM Fence.wide 0 P fn a'.tmps RR a'.defers .returning w':=by
    intro hq
    rw[hDs]
    refine j9 (E:=E1) (ρ:=ρ') (st:=st') (a:=a') (by simp) (fun w' gg=>?_) rfl rfl Ds w' (by rw[←hDs];exact g0)
    refine⟨by simp,.inr ⟨fun hh=>(by cases hh),.func g,us,g,_,rfl,hinv w',fun _ _=>trivial,(hI us w' husz).mono ?_⟩⟩
    rintro e u' w2 ⟨⟨v,rfl⟩,rfl,rfl⟩
    exact fin ρ' st' _ gg hq
   cases e with
   | normal=>exact ret q
   | ret=>exact ret q
   | exit id=>exact q.elim
   | goto l=>exact q.elim
   | outgrown=>exact q.elim
   | panic ch=>
    obtain⟨V,h0,h',rfl,hS,hin,hsub,hP⟩:=q
    show LeavesInM Fence.wide 0 P fn a'.tmps _ a'.defers (.panicking (bK V)) w'
    rw[hDs]
    refine j9 (E:=E1) (ρ:=ρ') (st:=st') (a:=a') (by simp) (fun w' gg=>?_) rfl rfl Ds w' (by rw[←hDs];exact g0)
    have hgl:(fe st' m caps.length).length=caps.length:=by simp[fe,gX,tj,yV]
    have hrv2:∀(j:Nat) v x,us[j]?=some v→(fe st' m caps.length)[j]?=some x→RV (XX X0 ρ' st'.h) w' ρ' v x:=by
     intro j v x e1 e2
     have hj:j<caps.length:=by have:=(List.getElem?_eq_some_iff.1 e2).1;omega
     simp only[fe,gX,tj,List.getElem?_map,yU _ _ _ hj,Option.map_some,Option.some.injEq]at e2
     subst e2
     show RV _ _ _ _ ((sget st'.s (2000000+m+j)).getD .undef)
     cases hs:sget st'.s (2000000+m+j)with
     | none=>exact .undef _ _
     | some av=>
      have hr2:=(gg.aV _ _ hs).2
      unfold a6 at hr2
      rw[if_neg (by simp only[E1];omega)]at hr2
      simp only[E1,if_pos (show 2000000+m≤2000000+m+j∧2000000+m+j<2000000+m+caps.length by omega),show 2000000+m+j-(2000000+m)=j by omega,Array.getD_eq_getD_getElem?,e1]at hr2
      exact hr2
    have hx1:=nX (E:=E1) (ρ:=ρ') hsub
    refine⟨by simp,.inr ⟨fun hh=>(by cases hh),.func g,us,g,_,rfl,hinv w',fun _ _=>trivial,
     (hS (jE E1 ρ' st' h0) ρ' w' us (vD gg hsub) (gg.ct.mono fun b ⟨id,W,L,g1,g2,g3⟩=>⟨id,W,L,hsub _ _ g1,g2,g3⟩) (fun b hb=>rP gg b (hx1 b (.inl hb))) (by rw[hgl,husz])
      (fun j v x e1 e2=>(hrv2 j v x e1 e2).mono (fun _ _ _=>rfl) (fun b _ hb hx=>hb (hx1 b hx)) _ (fun _ _ h=>h))).mono ?_⟩⟩
    rintro e u' w3 ⟨⟨v,rfl⟩,rfl,ρ3,hH,has,q1,q2,q3,q4,q5,q6⟩
    obtain⟨ρ4,g4,_⟩:=vC (ρ':=ρ3) (h':=h') (v:=undef) (r:=.undef) (args:=(fe st' m caps.length).map .c) (as:=fe st' m caps.length) gg (by simp[hgl,husz]) (fun j v x e1 e2=>by
        rw[List.getElem?_map]at e2
        obtain⟨y,e3,rfl⟩:=Option.map_eq_some_iff.1 e2
        exact⟨hrv2 j v y e1 e3,fun k hk=>by cases hk⟩) hsub hin rfl hH (.undef _ _) (by simp) has q1 q2 q3 q4 q5 q6
    exact fin ρ4 _ _ g4 hP
 exact(callsIn_wide (n:=0)).1 (callsIn_of_wp_marks hf hb trivial (key pre body _ ρ _ w hc (oz hN ha hh hA hX hvs hrv [] rfl) (hp E0 rfl rfl rfl)))
def seqK:List AK→AK→AK
 | [],y=>y
 | x::xs,y=>.seq x (seqK xs y)
theorem CB (B:Nat) (y:AK):∀xs,(seqK xs y).erase B=seqA (xs.map (AK.erase B)) (y.erase B)
 | []=>rfl
 | x::xs=>by simp only[seqK,AK.erase,List.map_cons,seqA,CB B y xs]
def lG (P:Program) (E:Env):List AK→KQ→St→Prop
 | [],Q,st=>Q.ap .normal st
 | x::xs,Q,st=>vcW P E x ⟨jl (fun st=>lG P E xs Q st) Q.ap⟩ st
def KQ.sq (P:Program) (E:Env) (xs:List AK) (Q:KQ):KQ:=⟨jl (fun st=>lG P E xs Q st) Q.ap⟩
theorem BB {P:Program} {E:Env} (hN:E.N≤1000000):∀(xs:List AK) {Q:KQ} {st:St},lG P E xs Q st→qR P E (xs.map (AK.erase E.B)) Q.ap st
 | [],Q,st,h=>h
 | x::xs,Q,st,h=>bC.mono (eK hN x h) (Dg (fun st' h'=>BB hN xs h') (fun _ _ h=>h))
def KQ.gC (P:Program) (rs:List RVar) (m k g:Nat) (R:HP→AV→List AV→Prop):KQ:=⟨yY P rs m k g R⟩
def KQ.dC (P:Program) (N B:Nat) (rs:List RVar) (m g d:Nat) (caps:List AE) (y:AK) (R:HP→AV→List AV→Prop):KQ:=⟨sG P N B rs m g d caps (y.erase B) R⟩
section
variable {P:Program} {E:Env} {st:St} {Q:KQ} {rs:List RVar} {m k g d N B:Nat} {caps:List AE} {y:AK} {R:HP→AV→List AV→Prop}
theorem aql:lG P E [] Q st=Q.ap .normal st:=(rfl)
theorem aqk {x:AK} {xs:List AK}:lG P E (x::xs) Q st=vcW P E x (KQ.sq P E xs Q) st:=(rfl)
theorem Zv {xs:List AK}:(KQ.sq P E xs Q).ap .normal st=lG P E xs Q st:=(rfl)
theorem Zw {xs:List AK}:(KQ.sq P E xs Q).ap .ret st=Q.ap .ret st:=(rfl)
theorem Zx {xs:List AK} {i:Nat}:(KQ.sq P E xs Q).ap (.exit i) st=Q.ap (.exit i) st:=(rfl)
theorem Y0:(KQ.gC P rs m k g R).ap .ret st=(KQ.post rs m R).ap .ret st:=(rfl)
theorem YZ:(KQ.gC P rs m k g R).ap .normal st=(KQ.post rs m R).ap .ret st:=(rfl)
theorem YY:(KQ.dC P N B rs m g d caps y R).ap .ret st=(KQ.post rs m R).ap .ret st:=(rfl)
theorem td {V:Value} (h0 h':HP) {as:List AV} (has:fe st m k=as) (hS:mX P g h0 as V h') (hin:ia h' h'=true) (hsub:dh st.h h0) (h:(KQ.post rs m R).ap .ret (jS st m k h0 h')):(KQ.gC P rs m k g R).ap (.panic (bK V)) st:=
 ⟨V,h0,h',rfl,has▸hS,hin,fun i W hi=>ic hsub i W hi,h⟩
theorem sD (h:∀E':Env,E'.N≤1000000→vcW P E' y (KQ.gC P rs m caps.length g R) ⟨numbered (2000000+m) (evL st caps)++(d,.undef)::st.s,st.h⟩) (hN:N≤1000000):(KQ.dC P N B rs m g d caps y R).ap .normal st:=
 fun E' e1 e2 _=>by
  have hN':E'.N≤1000000:=by omega
  rw[←e2]
  exact eK hN' y (h E' hN')
theorem P2:fe st m k=evL st (ghL (2000000+m) k):=(rfl)
theorem EN {h0 h':HP}:jS st m k h0 h'=fv st h0 ((fe st m k).map .c) h' (fe st m k):=(rfl)
end
theorem P1:(∀j,ghL j 0=[])∧(∀j k,ghL j (k+1)=.t j::ghL (j+1) k):=⟨fun _=>rfl,fun _ _=>rfl⟩
attribute [go_sem] aql aqk Zv Zw Zx Y0 YZ YY P2 EN P1
def oT (P:Program) (pre:List AK) (y:AK) (g d:Nat) (caps:List AE) (B p:Nat) (rs:List RVar) (s:List (Nat×AV)) (h:HP) (Post:HP→AV→List AV→Prop):Prop:=
 ∀(E:Env) (R:HP→AV→List AV→Prop) (N:Nat),E.N≤1000000→N≤1000000→cP Post R→lG P E pre (KQ.dC P N B rs p g d caps y R) ⟨s,h⟩
theorem u3 {P:Program} {f B p q g d:Nat} {x0:AK} {pre:List AK} {y:AK} {caps:List AE} {rs:List RVar} {h:HP} {args:List AV} {Post:HP→AV→List AV→Prop}
    (hf:aD P f B q (seqK (x0::pre) (.seq (.eD g (.c (.ai [.int .i64 (d:Int)])::caps)) y)) rs) (hl:args.length=p) (hq:p≤q) (hd:d<q) (hI:jR P g caps.length) (s:List (Nat×AV)) (hs:dF (fL args) s)
    (hp:oT P (x0::pre) y g d caps B p rs s h Post):Spec P f h args Post:=by
 obtain⟨fn,body,h1,h2,h3,h4,h5,h6⟩:=hf.out
 rw[CB]at h3
 refine CW (an7 (pre:=(x0::pre).map (AK.erase B)) h1 h2 h3 h5 (by omega) (by omega) hI (fun E hE hB hrd=>?_))
 have hN:E.N≤1000000:=by rw[hE];exact h5
 have this:=BB hN (x0::pre) (hp E _ fn.ntmps hN h5 sX)
 rw[hB]at this
 rw[h4,hl]
 exact o8 s hs this
open Go Go.Sem
def yt (J:Nat→Act→World→Prop) (Q:Exit→Act→World→Prop):Exit→Act→World→Prop
 | .goto l,a,w=>J l a w
 | e,a,w=>Q e a w
theorem aqT {F:Fence} {n:Nat} {P:Program} {a:Act} {w:World} {Q:Exit→Act→World→Prop} {c:Code} (J:Nat→Nat→Act→World→Prop)
    (first:c.wpIn F n P (yt (fun l a w=>∃m,J m l a w) Q) a w)
    (pass:∀m l a w,J m l a w→∃rest,findLabel c l=some rest∧rest.wpIn F n P (yt (fun l a w=>∃m',m'<m∧J m' l a w) Q) a w):(Code.scope c).wpIn F n P Q a w:=by
 intro b k cs hro hb hr
 have h0:(lone (b.atR a (.code (.scope c)::k)) cs w).fenced P F:=fenced_calm hb hr rfl
 have fin:∀{m:Machine} (e:Exit) (a₁:Act) (w₁:World),Q e a₁ w₁→(∀l',e≠.goto l')→ArrivesIn (Machine.fenced P F) P m b (.inScope c::k) cs e a₁ w₁ →
     ∃e a' w',Q e a' w'∧ArrivesIn (Machine.fenced P F) P m b k cs e a' w':=by
  intro m e a₁ w₁ hq' hne harr
  cases e with
  | normal=>exact⟨.normal,a₁,w₁,hq',StepsIn.trans harr (.one (fenced_calm hb hr rfl) aow)⟩
  | exit id=>
   have hx:exitTo id (.inScope c::k)=exitTo id k:=by simp[exitTo]
   exact⟨.exit id,a₁,w₁,hq',fun k' hk=>harr.1 k' (by rw[hx];exact hk),fun h1 h2=>harr.2 h1 (by rw[hx];exact h2)⟩
  | goto l'=>exact absurd rfl (hne l')
  | ret=>exact⟨_,a₁,w₁,hq',harr⟩
  | panic ch=>exact⟨_,a₁,w₁,hq',harr⟩
  | outgrown=>exact⟨_,a₁,w₁,hq',harr⟩
 have all:∀m l a w,J m l a w→∃rest,findLabel c l=some rest∧∃e a' w',Q e a' w'∧ArrivesIn (Machine.fenced P F) P (lone (b.atR a (.code rest::.inScope c::k)) cs w) b k cs e a' w':=by
  intro m
  induction m using Nat.strongRecOn with
  | _ m ih=>
   intro l a w hJ
   obtain⟨rest,hf,hw⟩:=pass m l a w hJ
   refine⟨rest,hf,?_⟩
   obtain⟨e,a₁,w₁,hq,harr⟩:=hw b (.inScope c::k) cs hro hb hr
   by_cases hgo:∃l',e=.goto l'
   ·obtain⟨l',rfl⟩:=hgo
    obtain⟨m',hm,hJ'⟩:=hq
    obtain⟨rest',hf',e₂,a₂,w₂,hq₂,harr₂⟩:=ih m' hm l' a₁ w₁ hJ'
    have hg:gotoIn l' (.inScope c::k)=some (.code rest'::.inScope c::k):=by simp[gotoIn,hf']
    exact⟨e₂,a₂,w₂,hq₂,.of_steps (harr.1 _ hg) harr₂⟩
   ·exact fin e a₁ w₁ (by cases e<;>first | exact hq | exact absurd ⟨_,rfl⟩ hgo) (fun l' h=>hgo ⟨l',h⟩) harr
 obtain⟨e,a₁,w₁,hq,harr⟩:=first b (.inScope c::k) cs hro hb hr
 by_cases hgo:∃l',e=.goto l'
 ·obtain⟨l',rfl⟩:=hgo
  obtain⟨m',hJ'⟩:=hq
  obtain⟨rest',hf',e₂,a₂,w₂,hq₂,harr₂⟩:=all m' l' a₁ w₁ hJ'
  have hg:gotoIn l' (.inScope c::k)=some (.code rest'::.inScope c::k):=by simp[gotoIn,hf']
  exact⟨e₂,a₂,w₂,hq₂,.of_steps (.head h0 C3 (harr.1 _ hg)) harr₂⟩
 ·obtain⟨e₃,a₃,w₃,hq₃,harr₃⟩:=fin e a₁ w₁ (by cases e<;>first | exact hq | exact absurd ⟨_,rfl⟩ hgo) (fun l' h=>hgo ⟨l',h⟩) harr
  exact⟨e₃,a₃,w₃,hq₃,.of_steps (.one h0 C3) harr₃⟩
def tJ (J:Nat→St→Prop) (Q:Exit→St→Prop):Exit→St→Prop
 | .goto l,st=>J l st
 | e,st=>Q e st
theorem Gv {P:Program} {E:Env} {st:St} {Q:Exit→St→Prop} {x:AC} (J:Nat→Nat→St→Prop) (first:bC P E x st (tJ (fun l st=>∃m,J m l st) Q))
    (pass:∀m l st,J m l st→∃y,findA x l=some y∧bC P E y st (tJ (fun l st=>∃m',m'<m∧J m' l st) Q)):bC P E (.scope x) st Q:=by
 intro n code hc a w hr
 cases code<;>simp only[trCode]at hc<;>first | (cases hc;done) | (exact Bool.noConfusion (show false=true from eI hc)) | (split at hc<;>cases hc;done) | skip
 rename_i c
 injection hc with h1
 subst h1
 refine aqT (fun m l a w=>∃st,Rel E st a w∧J m l st) (wpIn_mono (first n c rfl a w hr) ?_) ?_
 ·rintro e a' w' ⟨st',g1,g2⟩
  cases e with
  | goto l'=>obtain⟨m,h⟩:=g2;exact⟨m,st',g1,h⟩
  | normal=>exact⟨st',g1,g2⟩
  | exit id=>exact⟨st',g1,g2⟩
  | ret=>exact⟨st',g1,g2⟩
  | panic ch=>exact⟨st',g1,g2⟩
  | outgrown=>exact⟨st',g1,g2⟩
 ·rintro m l a w ⟨st',g1,g2⟩
  obtain⟨y,hf,hy⟩:=pass m l st' g2
  rw[sY]at hf
  obtain⟨rest,hfl,rfl⟩:=Option.map_eq_some_iff.1 hf
  refine⟨rest,hfl,wpIn_mono (hy n rest rfl a w g1) ?_⟩
  rintro e a' w' ⟨st',g1,g2⟩
  cases e with
  | goto l'=>obtain⟨m',hm,h⟩:=g2;exact⟨m',hm,st',g1,h⟩
  | normal=>exact⟨st',g1,g2⟩
  | exit id=>exact⟨st',g1,g2⟩
  | ret=>exact⟨st',g1,g2⟩
  | panic ch=>exact⟨st',g1,g2⟩
  | outgrown=>exact⟨st',g1,g2⟩
def KQ.jw (R:Nat→KS) (Q:KQ):KQ:=⟨tJ (fun l=>(R l).ap) Q.ap⟩
theorem Zy (R:Nat→KS) (Q:KQ) (st:St):(∀l,(KQ.jw R Q).ap (.goto l) st=(R l).ap st)∧(KQ.jw R Q).ap .normal st=Q.ap .normal st∧(∀i,(KQ.jw R Q).ap (.exit i) st=Q.ap (.exit i) st)∧(KQ.jw R Q).ap .ret st=Q.ap .ret st∧(∀ch,(KQ.jw R Q).ap (.panic ch) st=Q.ap (.panic ch) st):=
 ⟨fun _=>rfl,rfl,fun _=>rfl,rfl,fun _=>rfl⟩
theorem aqy {P:Program} {E:Env} {x:AK} {Q:KQ} {st:St} {α:Type} (hN:E.N≤1000000) (f:Nat→α→St) (inv:Nat→α→Prop) (ms:Nat→α→Nat)
    (h1:∀R:Nat→KS,(∀l a st',inv l a→Wk st' (f l a)→(R l).ap st')→vcW P E x (KQ.jw R Q) st)
    (h2:∀l a,inv l a→∃y,findK x l=some y∧∀R:Nat→KS,(∀l' a' st',ms l' a'<ms l a→inv l' a'→Wk st' (f l' a')→(R l').ap st')→vcW P E y (KQ.jw R Q) (f l a)):vcW P E (.scope x) Q st:=by
 show bC P E (.scope (x.erase E.B)) st Q.ap
 refine Gv (fun m l s=>∃a,inv l a∧ms l a=m∧Wk s (f l a)) (eK hN x (h1 (fun l=>⟨fun s=>∃m a,inv l a∧ms l a=m∧Wk s (f l a)⟩) (fun l a st' g1 g2=>⟨_,a,g1,rfl,g2⟩))) ?_
 rintro m l s ⟨a,g1,rfl,g2⟩
 obtain⟨y,hy,hv⟩:=h2 l a g1
 refine⟨y.erase E.B,by rw[pT,hy];rfl,o9 g2 (eK hN y (hv (fun l'=>⟨fun s=>∃m',m'<ms l a∧∃a',inv l' a'∧ms l' a'=m'∧Wk s (f l' a')⟩) (fun l' a' st' k1 k2 k3=>⟨_,k1,a',k2,rfl,k3⟩)))⟩
attribute [go_sem] Zy
end Go.Proofs.YtoalcafkffmiiaaGreatDoor.Eng
