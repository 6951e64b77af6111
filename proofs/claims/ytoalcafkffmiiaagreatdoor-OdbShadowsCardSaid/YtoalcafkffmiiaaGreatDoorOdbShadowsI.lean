/- The proof, part 9 of 43. -/
import Derived.Test.YtoalcafkffmiiaaGreatDoorOdbShadowsF
import Derived.RecoverIn
set_option linter.all false
namespace Go.Proofs.YtoalcafkffmiiaaGreatDoor.Eng
section
variable {P:Program} {E:Env} {ρ:Loc} {st:St} {a:Act} {w:World}
def dR (V:Value):List PanicEntry:=[{v:=V,recovered:=false}]
def rI (P:Program) (st:St) (f:Nat) (args:List AE) (K:Value->St->Prop):Prop:=
 ∀(E:Env) (ρ:Loc) (a:Act) (w:World) (vs:Array Value),ao E ρ st a w->vs.size=args.length ->
  (∀(j:Nat) v x,vs[j]?=some v->args[j]?=some x->RV (XX E.X0 ρ st.h) w ρ v (ev st x)/\∀k,x=.t k->k<2000000/\v=a.tmps.getD k undef) ->
  Calls P f vs w λe w'=>∃V ρ' st',e=.panicked (dR V)/\ao E ρ' st' a w'/\K V st'
def dieOp (P:Program) (o:bC) (st:St) (K:Value->St->Prop):Prop:=
 match o with
 | ⟨_,none,_,_,.call f args⟩=>rI P st f args K
 | ⟨_,none,_,_,.jt x⟩=>∃t v,ev st x=.lit (.iface t v)/\K (.iface t v) st
 | _=>False
def la (P:Program):List bC->St->(St->Prop)->(Value->St->Prop)->Prop
 | [],st,K,_=>K st
 | o::r,st,K,KD=>dieOp P o st KD\/aops P [o] st λst'=>la P r st' K KD
def su (o:bC):Bool:=
 match o.o with
 | .call f _=>xr.contains f
 | _=>false
def dieF (P:Program):AT bC->St->(Value->St->Prop)->Prop
 | .nil,_,_=>False
 | .cons o t,st,K=>if su o then dieOp P o st K else aops P [o] st λst'=>dieF P t st' K
 | .br x y,st,K=>dieF P x st K/\dieF P y st K
theorem awV {o:Oper} {x:AE} (h:trOp P o=.jt x):∃y,o.op=.panic y/\x=trE y:=by
 have h1:∀(op:BinOp) t u v,trEq P t op u v=.jt x->False:=by
  intro op t u v h;unfold trEq at h;split at h<;>cases h
 have h2:∀s d u,trConv P s d u=.jt x->False:=by
  intro s d u h;unfold trConv at h
  (repeat' (first | (cases h;done) | split at h))
 have h3:∀c,trCall P c=.jt x->False:=by
  intro c h;unfold trCall at h
  (repeat' (first | (cases h;done) | split at h))
 unfold trOp at h;split at h
 all_goals first | (exact⟨_,by assumption,(AO.jt.inj h).symm⟩) | (exfalso;exact h3 _ h) | (exfalso;exact h2 _ _ _ h) | (exfalso;(repeat' (first | (cases h;done) | exact h1 _ _ _ _ h | split at h)))
theorem pt {B:Nat} {ops:Array Oper} {q:Bool} {o:Oper} (h:ao E ρ st a w) {K:Value->St->Prop} (hk:dieOp P (eA P B ops q o) st K) {next:Act->World->Prop} {Q:Exit->Act->World->Prop}
    (hQ:∀V st' ρ' w',K V st'->ao E ρ' st' a w'->Q (.panic (dR V)) a w'):o.guard=none/\o.wp P a w next Q:=by
 unfold eA at hk
 cases hg:o.guard with
 | some g=>rw[hg]at hk;exact hk.elim
 | none=>
  rw[hg]at hk;refine⟨rfl,?_⟩;unfold dieOp at hk;split at hk
  ·rename_i f args heq;simp only[aBZ,bC.mk.injEq,true_and]at heq;obtain⟨_,_,_,ho⟩:=heq;obtain⟨vs,h1,h2,h3⟩:=oZ ho a w;unfold Oper.wp;rw[h1,Oper.upon_enter];refine(hk E ρ a w vs h h2 (λj v x e1 e2=>?_)).mono ?_
   ·obtain⟨y,rfl,rfl⟩:=h3 j v x e1 e2;exact⟨cJ h y,λk hk=>mc y hk⟩
   ·rintro e w' ⟨V,ρ',st',rfl,g1,g2⟩;exact hQ V st' ρ' w' g2 g1
  ·rename_i x heq;simp only[aBZ,bC.mk.injEq,true_and]at heq;obtain⟨_,_,_,ho⟩:=heq;obtain⟨y,hy,rfl⟩:=awV ho;obtain⟨t,v,h1,h2⟩:=hk;have h3:=cJ h y;rw[h1]at h3
   have h4:a.eval y=.iface t v:=by
    generalize a.eval y=z at h3;cases h3;rfl
   unfold Oper.wp
   have:(execOp a.eval o).run P w=.halt (.panic (.iface t v)) w:=by
    simp[execOp,hy,h4,Instr.panic,goPanic]
   rw[this];exact hQ _ _ ρ w h2 h
  ·exact hk.elim
theorem xu (hN:E.N<=1000000) (ops:Array Oper) {Q:Exit->Act->World->Prop} {KN:St->Prop} {K:Value->St->Prop} {r:Option Nat} {n:Nat} (hQN:∀st' a' w',KN st'->Rel E st' a' w'->Q .normal a' w')
    (hQ:∀V st' a' w',K V st'->Rel E st' a' w'->Q (.panic (dR V)) a' w') :
    ∀(l:List Oper) {ρ:Loc} {st:St} {a:Act} {w:World},(∀o∈l,fits E.N o=true)->ao E ρ st a w->la P (l.map (eA P E.B ops false)) st KN K->wpListIn (di r) n P ops Q l a w
 | [],ρ,st,a,w,_,h,hk=>hQN st a w hk ⟨ρ,h⟩
 | o::l,ρ,st,a,w,hf,h,hk=>by
  rcases hk with hk | hk
  ·obtain⟨hg,_⟩:=pt (next:=λ_ _=>True) h hk (λV st' ρ' w' h1 h2=>hQ V st' a w' h1 ⟨ρ',h2⟩)
   exact wpListIn_plain hg (λnext hnext=>jw (ik (hf o (aBn ..))) (pt (next:=next) h hk (λV st' ρ' w' h1 h2=>hQ V st' a w' h1 ⟨ρ',h2⟩)).2)
  ·exact j6 hN ops l (K:=λst'=>la P (l.map (eA P E.B ops false)) st' KN K) (λst' a' w' h1 ⟨ρ',h2⟩=>xu hN ops hQN hQ l (λx hx=>hf x (aBu _ hx)) h2 h1)
    [o] (λx hx=>hf x (by rw[aBs.1 hx];exact aBn ..)) h hk
theorem FQ (hN:E.N<=1000000) (ops:Array Oper) {o:Oper} {q:Bool} {i:Nat} (hi:ops[i]?=some o) (hf:fits E.N o=true) {K:St->Prop} {next:Act->World->Prop} {Q:Exit->Act->World->Prop} {r:Option Nat} {n:Nat}
    (h:ao E ρ st a w) (hk:aops P [eA P E.B ops q o] st K) (hn:∀st' ρ' a' w',K st'->ao E ρ' st' a' w'->next a' w'):wpOpIn (di r) n P ops Q i next a w:=by
 have hd:=me hf;have hnd:=ik hf;unfold wpOpIn;rw[hi];simp only[eA]at hk
 cases hg:o.guard with
 | none=>
  simp only[hg,aBZ,aops]at hk;simp only[Region.wanted,hg,if_true]
  exact jw hnd (oG h hd hk (λav st' ρ' a' w' h1 h2 _=>hn _ _ _ _ h1 h2))
 | some g=>
  obtain⟨j,want⟩:=g;simp only[hg,aBv,aops]at hk;split at hk
  ·rename_i γ hγ;have hy:=pT h hγ hN;have hw:Region.wanted o (yielded ops a.tmps)=γ:=by simp only[Region.wanted,hg];exact hy
   simp only[hw]
   cases γ with
   | true=>
    rw[if_pos rfl];rcases hk with hk | hk | hk
    ·cases hk.1
    ·exact jw hnd (rO h hd hk.2 (λav st' ρ' a' w' h1 h2 _=>hn _ _ _ _ h1 h2))
    ·exact jw hnd (rP h hd hk rfl (λav ρ' a' w' h1 h2 _=>hn _ _ _ _ h1 h2))
   | false=>
    rw[if_neg (by simp)];have hk:∃v,K (put st o.dst (.gd false v)):=hk.elim (λx=>⟨_,x.2⟩) (λx=>x.elim (λy=>by cases y.1) oH);obtain⟨v,hv⟩:=hk;exact⟨λ_ _=>trivial,hn _ _ _ _ hv (gi h hd (.gd _ _ _ _ (λh=>by cases h) (λ_=>rfl)))⟩
  ·exact hk.elim
theorem wO {f:Nat->Option (AT Nat)} {g:Nat->Option bC} {K:Value->St->Prop}:∀(l:List Nat) (T:AT Nat),brL (l.map f)=some T->l≠[]/\∀i∈l,∃Ti,f i=some Ti/\(dieF P (T.fm g) st K->dieF P (Ti.fm g) st K)
 | [],T,h=>by cases h
 | [i],T,h=>by
  refine⟨by simp,λj hj=>?_⟩;rw[aBs]at hj;subst hj
  exact⟨T,h,id⟩
 | i::j::r,T,h=>by
  refine⟨by simp,?_⟩;rw[aBE,aBE,brL.eq_def]at h;simp only at h;split at h
  ·rename_i x y hx hy;cases h;obtain⟨_,ih⟩:=wO (j::r) y hy;intro k hk;rcases aBo.1 hk with rfl | hk
   ·exact⟨x,hx,λh=>h.1⟩
   ·obtain⟨Ti,g1,g2⟩:=ih k hk;exact⟨Ti,g1,λh=>g2 h.2⟩
  ·cases h
theorem xx (hN:E.N<=1000000) (ops:Array Oper) (hf:∀o∈ops.toList,fits E.N o=true) {Q:Exit->Act->World->Prop} {K:Value->St->Prop} {r:Option Nat} {n:Nat} (hQ:∀V st' a' w',K V st'->Rel E st' a' w'->Q (.panic (dR V)) a' w') :
    ∀(fuel:Nat) (listed:Array Bool) (T:AT Nat) {ρ:Loc} {st:St} {a:Act} {w:World},l4 P ops fuel listed=some T->ao E ρ st a w->dieF P (T.fm (eL P E.B ops)) st K->wpAnyIn (di r) n P .any ops Q fuel listed a w
 | 0,listed,T,ρ,st,a,w,hT,h,hk=>by cases hT
 | f+1,listed,T,ρ,st,a,w,hT,h,hk=>by
  simp only[l4]at hT;obtain⟨hne,hall⟩:=wO (P:=P) (st:=st) (g:=eL P E.B ops) (K:=K) _ T hT;refine⟨λe=>absurd e hne,λi hi=>?_⟩;obtain⟨Ti,hTi,hdie⟩:=hall i hi;have hd:=hdie hk;split at hTi
  ·rename_i o ho
   have hom:o∈ops.toList:=by
    have:=aCK ho;simpa using this
   have htr:eL P E.B ops i=some (eA P E.B ops (mf P ops i o) o):=by simp[eL,ho]
   have one:∀T',(T'=.nil\/l4 P ops f (listed.setIfInBounds i true)=some T')->dieF P (AT.fm (eL P E.B ops) (.cons i T')) st K ->
       wpOpIn (di r) n P ops Q i (wpAnyIn (di r) n P .any ops Q f (listed.setIfInBounds i true)) a w:=by
    intro T' hT' hd;simp only[AT.fm,htr,dieF]at hd;split at hd
    ·obtain⟨hg,_⟩:=pt (next:=λ_ _=>True) h hd (λV st' ρ' w' h1 h2=>hQ V st' a w' h1 ⟨ρ',h2⟩)
     unfold wpOpIn;rw[ho];simp only[Region.wanted,hg,if_true];exact jw (ik (hf o hom)) (pt h hd (λV st' ρ' w' h1 h2=>hQ V st' a w' h1 ⟨ρ',h2⟩)).2
    ·refine FQ hN ops ho (hf o hom) h hd (λst' ρ' a' w' h1 h2=>?_);rcases hT' with rfl | hT'
     ·exact h1.elim
     ·exact xx hN ops hf hQ f _ T' hT' h2 h1
   split at hTi
   ·cases hTi;exact one _ (.inl rfl) hd
   ·split at hTi
    ·obtain⟨T',hT',rfl⟩:=aA6.1 hTi;exact one _ (.inr hT') hd
    ·cases hTi
  ·cases hTi
theorem Cx (hN:E.N<=1000000) {ops:List bC} {code:Code} (hc:trCode P E.N E.B code=.ix ops) {K:St->Prop} {KD:Value->St->Prop} {a:Act} {w:World} (hr:Rel E st a w)
    {Q:Exit->Act->World->Prop} (hQ:∀st' a' w',K st'->Rel E st' a' w'->Q .normal a' w') (hQD:∀V st' a' w',KD V st'->Rel E st' a' w'->Q (.panic (dR V)) a' w') (hk:la P ops st K KD) {n:Nat}:code.wpIn (di E.rd) n P Q a w:=by
 cases code<;>simp only[trCode]at hc<;>first | (cases hc;done) | skip
 ·rename_i id ops' draw;obtain⟨ρ,hρ⟩:=hr;obtain⟨hl,rfl⟩:=aw0 hc;unfold kr at hl;split at hl
  ·rename_i hf;have hf':∀o∈ops'.toList,fits E.N o=true:=λo ho=>aBc.1 hf o ho;simp only[aBe,if_false,Option.some.injEq]at hl;subst hl;refine wpIn_region_list ?_;exact xu hN ops' hQ hQD ops'.toList hf' hρ hk
  ·cases hl
 ·split at hc<;>cases hc
theorem FD (hN:E.N<=1000000) {p x y:List bC} {T:AT bC} {code:Code} (hc:trCode P E.N E.B code=.jh p x y T) {K:St->Prop} {KD:Value->St->Prop} {a:Act} {w:World} (hr:Rel E st a w)
    {Q:Exit->Act->World->Prop} (hQ:∀st' a' w',K st'->Rel E st' a' w'->Q .normal a' w') (hQD:∀V st' a' w',KD V st'->Rel E st' a' w'->Q (.panic (dR V)) a' w')
    (hk:(aops P p st λst'=>aops P x st' K/\aops P y st' K)\/dieF P T st KD) {n:Nat}:code.wpIn (di E.rd) n P Q a w:=by
 cases code<;>simp only[trCode]at hc<;>first | (cases hc;done) | skip
 ·rename_i id ops' draw;obtain⟨ρ,hρ⟩:=hr;obtain⟨hl,rfl,T',hT,rfl⟩:=awX hc;unfold nQ at hl;split at hl
  ·rename_i hf;have hf':∀o∈ops'.toList,fits E.N o=true:=λo ho=>aBc.1 hf o ho;rw[if_pos rfl]at hl;split at hl
   ·rename_i hm;simp only[aBd]at hm;have hρ':=hρ.same (w':={w with drawn:=w.drawn+1}) (aU.drew w);rcases hk with hk | hk
    ·obtain⟨L,hL,halt⟩:=aC1.1 hl;rw[<-rM P _ _ _ _ halt]at hk;refine wpIn_mono (wpIn_region_any hm.1 (ow (λo ho=>ik (hf' o ho)) (λh=>by obtain⟨a,w,h⟩:=h;cases h.1) _ _ _ _ (iW hN ops' hm.2 hf' _ _ L hL hρ' hk))) ?_;rintro e a' w' ⟨rfl,st',h1,h2⟩;exact hQ st' a' w' h2 h1
    ·exact wpIn_region_any hm.1 (xx hN ops' hf' hQD _ _ T' hT hρ' hk)
   ·cases hl
  ·cases hl
 ·split at hc<;>cases hc
end
def xv (V:Value):Exit->St->Prop:=λe _=>e=.panic (dR V)
def Fo (st:St) (h0:HP):St:=⟨killSI (dP h0) [] st.s,dropH (dP h0) [] st.h⟩
def O9 (rs:List RVar) (n:Nat) (V:Value) (zA:AV) (Post:HP->AV->List AV->Prop):Exit->St->Prop
 | .normal,st | .ret,st=>∃r,resOf st rs=some r/\Post st.h r (argsAgain st 0 n)
 | .panic ch,st=>ch=dR V/\∃id c,sget st.s (2000000+n)=some (.ab id 0)/\hget st.h id=some (.var [c]) /\
     ∃r,resOf ⟨st.s,bU st.h id (.var [zA])⟩ rs=some r/\Post (bU st.h id (.var [zA])) r (argsAgain ⟨st.s,bU st.h id (.var [zA])⟩ 0 n)
 | _,_=>False
theorem ao.df {E E':Env} {ρ:Loc} {st:St} {a:Act} {w:World} {ds:List Deferred} (h:ao E ρ st a w) (e1:E'.w0=E.w0) (e2:E'.F=E.F) (e3:E'.X0=E.X0) (e4:E'.N=E.N) (e5:E'.gv=E.gv) (hd:gn E'.dn E'.df ds w) :
    ao E' ρ st {a with defers:=ds} w:=by
 obtain⟨w0,F,X0,N,B,gv,rd,dn,yQ,df⟩:=E;obtain⟨w0',F',X0',N',B',gv',rd',dn',hdn',df'⟩:=E';simp only at e1 e2 e3 e4 e5;subst e1;subst e2;subst e3;subst e4;subst e5;exact⟨hd,h.size,λk av hk=>⟨(h.bo k av hk).1,(h.bo k av hk).2⟩,h.heap,h.base,⟨h.aE.os,h.aE.tape,h.aE.output,h.aE.size,h.aE.block,h.aE.cS⟩,h.x0⟩
end Go.Proofs.YtoalcafkffmiiaaGreatDoor.Eng
