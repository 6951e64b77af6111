/- The proof, part 9 of 43. -/
import Derived.Test.YtoalcafkffmiiaaGreatDoorOdbGetsF
import Derived.RecoverIn
set_option linter.all false
namespace Go.Proofs.YtoalcafkffmiiaaGreatDoor.Eng
section
variable {P:Program} {E:Env} {ρ:Loc} {st:St} {a:Act} {w:World}
def bS (V:Value):List PanicEntry:=[{v:=V,recovered:=false}]
def rO (P:Program) (st:St) (f:Nat) (args:List AE) (K:Value->St->Prop):Prop:=
 ∀(E:Env) (ρ:Loc) (a:Act) (w:World) (vs:Array Value),ai E ρ st a w->vs.size=args.length ->
  (∀(j:Nat) v x,vs[j]?=some v->args[j]?=some x->RV (XX E.X0 ρ st.h) w ρ v (ev st x)/\∀k,x=.t k->k<2000000/\v=a.tmps.getD k undef) ->
  Calls P f vs w λe w'=>∃V ρ' st',e=.panicked (bS V)/\ai E ρ' st' a w'/\K V st'
def dieOp (P:Program) (o:aY) (st:St) (K:Value->St->Prop):Prop:=
 match o with
 | ⟨_,none,_,_,.call f args⟩=>rO P st f args K
 | ⟨_,none,_,_,.iJ x⟩=>∃t v,ev st x=.lit (.iface t v)/\K (.iface t v) st
 | _=>False
def mX (P:Program):List aY->St->(St->Prop)->(Value->St->Prop)->Prop
 | [],st,K,_=>K st
 | o::r,st,K,KD=>dieOp P o st KD\/aops P [o] st λst'=>mX P r st' K KD
def qe (o:aY):Bool:=
 match o.o with
 | .call f _=>Bz.contains f
 | _=>false
def dieF (P:Program):AT aY->St->(Value->St->Prop)->Prop
 | .nil,_,_=>False
 | .cons o t,st,K=>if qe o then dieOp P o st K else aops P [o] st λst'=>dieF P t st' K
 | .br x y,st,K=>dieF P x st K/\dieF P y st K
theorem aa8 {o:Oper} {x:AE} (h:trOp P o=.iJ x):∃y,o.op=.panic y/\x=trE y:=by
 have h1:∀(op:BinOp) t u v,trEq P t op u v=.iJ x->False:=by
  intro op t u v h;unfold trEq at h;split at h<;>cases h
 have h2:∀s d u,trConv P s d u=.iJ x->False:=by
  intro s d u h;unfold trConv at h
  (repeat' (first | (cases h;done) | split at h))
 have h3:∀c,trCall P c=.iJ x->False:=by
  intro c h;unfold trCall at h
  (repeat' (first | (cases h;done) | split at h))
 unfold trOp at h;split at h
 all_goals first | (exact⟨_,by assumption,(AO.iJ.inj h).symm⟩) | (exfalso;exact h3 _ h) | (exfalso;exact h2 _ _ _ h) | (exfalso;(repeat' (first | (cases h;done) | exact h1 _ _ _ _ h | split at h)))
theorem sI {B:Nat} {ops:Array Oper} {q:Bool} {o:Oper} (h:ai E ρ st a w) {K:Value->St->Prop} (hk:dieOp P (fF P B ops q o) st K) {next:Act->World->Prop} {Q:Exit->Act->World->Prop}
    (hQ:∀V st' ρ' w',K V st'->ai E ρ' st' a w'->Q (.panic (bS V)) a w'):o.guard=none/\o.wp P a w next Q:=by
 unfold fF at hk
 cases hg:o.guard with
 | some g=>rw[hg]at hk;exact hk.elim
 | none=>
  rw[hg]at hk;refine⟨rfl,?_⟩;unfold dieOp at hk;split at hk
  ·rename_i f args heq;simp only[adT,aY.mk.injEq,true_and]at heq;obtain⟨_,_,_,ho⟩:=heq;obtain⟨vs,h1,h2,h3⟩:=pY ho a w;unfold Oper.wp;rw[h1,Oper.upon_enter];refine(hk E ρ a w vs h h2 (λj v x e1 e2=>?_)).mono ?_
   ·obtain⟨y,rfl,rfl⟩:=h3 j v x e1 e2;exact⟨bn h y,λk hk=>oG y hk⟩
   ·rintro e w' ⟨V,ρ',st',rfl,g1,g2⟩;exact hQ V st' ρ' w' g2 g1
  ·rename_i x heq;simp only[adT,aY.mk.injEq,true_and]at heq;obtain⟨_,_,_,ho⟩:=heq;obtain⟨y,hy,rfl⟩:=aa8 ho;obtain⟨t,v,h1,h2⟩:=hk;have h3:=bn h y;rw[h1]at h3
   have h4:a.eval y=.iface t v:=by
    generalize a.eval y=z at h3;cases h3;rfl
   unfold Oper.wp
   have:(execOp a.eval o).run P w=.halt (.panic (.iface t v)) w:=by
    simp[execOp,hy,h4,Instr.panic,goPanic]
   rw[this];exact hQ _ _ ρ w h2 h
  exact hk.elim
theorem BB (hN:E.N<=1000000) (ops:Array Oper) {Q:Exit->Act->World->Prop} {KN:St->Prop} {K:Value->St->Prop} {r:Option Nat} {n:Nat} (hQN:∀st' a' w',KN st'->Rel E st' a' w'->Q .normal a' w')
    (hQ:∀V st' a' w',K V st'->Rel E st' a' w'->Q (.panic (bS V)) a' w') :
    ∀(l:List Oper) {ρ:Loc} {st:St} {a:Act} {w:World},(∀o∈l,fits E.N o=true)->ai E ρ st a w->mX P (l.map (fF P E.B ops false)) st KN K->wpListIn (du r) n P ops Q l a w
 | [],ρ,st,a,w,_,h,hk=>hQN st a w hk ⟨ρ,h⟩
 | o::l,ρ,st,a,w,hf,h,hk=>by
  rcases hk with hk | hk
  ·obtain⟨hg,_⟩:=sI (next:=λ_ _=>True) h hk (λV st' ρ' w' h1 h2=>hQ V st' a w' h1 ⟨ρ',h2⟩)
   exact wpListIn_plain hg (λnext hnext=>kz (jF (hf o (ac6 ..))) (sI (next:=next) h hk (λV st' ρ' w' h1 h2=>hQ V st' a w' h1 ⟨ρ',h2⟩)).2)
  ·exact l4 hN ops l (K:=λst'=>mX P (l.map (fF P E.B ops false)) st' KN K) (λst' a' w' h1 ⟨ρ',h2⟩=>BB hN ops hQN hQ l (λx hx=>hf x (ada _ hx)) h2 h1)
    [o] (λx hx=>hf x (by rw[ac8.1 hx];exact ac6 ..)) h hk
theorem H3 (hN:E.N<=1000000) (ops:Array Oper) {o:Oper} {q:Bool} {i:Nat} (hi:ops[i]?=some o) (hf:fits E.N o=true) {K:St->Prop} {next:Act->World->Prop} {Q:Exit->Act->World->Prop} {r:Option Nat} {n:Nat}
    (h:ai E ρ st a w) (hk:aops P [fF P E.B ops q o] st K) (hn:∀st' ρ' a' w',K st'->ai E ρ' st' a' w'->next a' w'):wpOpIn (du r) n P ops Q i next a w:=by
 have hd:=oK hf;have hnd:=jF hf;unfold wpOpIn;rw[hi];simp only[fF]at hk
 cases hg:o.guard with
 | none=>
  simp only[hg,adT,aops]at hk;simp only[Region.wanted,hg,if_true]
  exact kz hnd (rR h hd hk (λav st' ρ' a' w' h1 h2 _=>hn _ _ _ _ h1 h2))
 | some g=>
  obtain⟨j,want⟩:=g;simp only[hg,adm,aops]at hk;split at hk
  ·rename_i γ hγ;have hy:=td h hγ hN;have hw:Region.wanted o (yielded ops a.tmps)=γ:=by simp only[Region.wanted,hg];exact hy
   simp only[hw]
   cases γ with
   | true=>
    rw[if_pos rfl];rcases hk with hk | hk | hk
    ·cases hk.1
    exact kz hnd (vw h hd hk.2 (λav st' ρ' a' w' h1 h2 _=>hn _ _ _ _ h1 h2))
    ·exact kz hnd (vz h hd hk rfl (λav ρ' a' w' h1 h2 _=>hn _ _ _ _ h1 h2))
   | false=>
    rw[if_neg (by simp)];have hk:∃v,K (put st o.dst (.gd false v)):=hk.elim (λx=>⟨_,x.2⟩) (λx=>x.elim (λy=>by cases y.1) rS);obtain⟨v,hv⟩:=hk;exact⟨λ_ _=>trivial,hn _ _ _ _ hv (iK h hd (.gd _ _ _ _ (λh=>by cases h) (λ_=>rfl)))⟩
  exact hk.elim
theorem AX {f:Nat->Option (AT Nat)} {g:Nat->Option aY} {K:Value->St->Prop}:∀(l:List Nat) (T:AT Nat),brL (l.map f)=some T->l≠[]/\∀i∈l,∃Ti,f i=some Ti/\(dieF P (T.fm g) st K->dieF P (Ti.fm g) st K)
 | [],T,h=>by cases h
 | [i],T,h=>by
  refine⟨by simp,λj hj=>?_⟩;rw[ac8]at hj;subst hj
  exact⟨T,h,id⟩
 | i::j::r,T,h=>by
  refine⟨by simp,?_⟩;rw[adi,adi,brL.eq_def]at h;simp only at h;split at h
  ·rename_i x y hx hy;cases h;obtain⟨_,ih⟩:=AX (j::r) y hy;intro k hk;rcases adg.1 hk with rfl | hk;exact⟨x,hx,λh=>h.1⟩
   ·obtain⟨Ti,g1,g2⟩:=ih k hk;exact⟨Ti,g1,λh=>g2 h.2⟩
  ·cases h
theorem BD (hN:E.N<=1000000) (ops:Array Oper) (hf:∀o∈ops.toList,fits E.N o=true) {Q:Exit->Act->World->Prop} {K:Value->St->Prop} {r:Option Nat} {n:Nat} (hQ:∀V st' a' w',K V st'->Rel E st' a' w'->Q (.panic (bS V)) a' w') :
    ∀(fuel:Nat) (listed:Array Bool) (T:AT Nat) {ρ:Loc} {st:St} {a:Act} {w:World},oA P ops fuel listed=some T->ai E ρ st a w->dieF P (T.fm (fP P E.B ops)) st K->wpAnyIn (du r) n P .any ops Q fuel listed a w
 | 0,listed,T,ρ,st,a,w,hT,h,hk=>by cases hT
 | f+1,listed,T,ρ,st,a,w,hT,h,hk=>by
  simp only[oA]at hT;obtain⟨hne,hall⟩:=AX (P:=P) (st:=st) (g:=fP P E.B ops) (K:=K) _ T hT;refine⟨λe=>absurd e hne,λi hi=>?_⟩;obtain⟨Ti,hTi,hdie⟩:=hall i hi;have hd:=hdie hk;split at hTi
  ·rename_i o ho
   have hom:o∈ops.toList:=by
    have:=aeK ho;simpa using this
   have htr:fP P E.B ops i=some (fF P E.B ops (oL P ops i o) o):=by simp[fP,ho]
   have one:∀T',(T'=.nil\/oA P ops f (listed.setIfInBounds i true)=some T')->dieF P (AT.fm (fP P E.B ops) (.cons i T')) st K ->
       wpOpIn (du r) n P ops Q i (wpAnyIn (du r) n P .any ops Q f (listed.setIfInBounds i true)) a w:=by
    intro T' hT' hd;simp only[AT.fm,htr,dieF]at hd;split at hd
    ·obtain⟨hg,_⟩:=sI (next:=λ_ _=>True) h hd (λV st' ρ' w' h1 h2=>hQ V st' a w' h1 ⟨ρ',h2⟩)
     unfold wpOpIn;rw[ho];simp only[Region.wanted,hg,if_true];exact kz (jF (hf o hom)) (sI h hd (λV st' ρ' w' h1 h2=>hQ V st' a w' h1 ⟨ρ',h2⟩)).2
    ·refine H3 hN ops ho (hf o hom) h hd (λst' ρ' a' w' h1 h2=>?_);rcases hT' with rfl | hT';exact h1.elim;exact BD hN ops hf hQ f _ T' hT' h2 h1
   split at hTi
   ·cases hTi;exact one _ (.inl rfl) hd
   ·split at hTi
    ·obtain⟨T',hT',rfl⟩:=acR.1 hTi;exact one _ (.inr hT') hd
    ·cases hTi
  ·cases hTi
theorem Fs (hN:E.N<=1000000) {ops:List aY} {code:Code} (hc:trCode P E.N E.B code=.ga ops) {K:St->Prop} {KD:Value->St->Prop} {a:Act} {w:World} (hr:Rel E st a w)
    {Q:Exit->Act->World->Prop} (hQ:∀st' a' w',K st'->Rel E st' a' w'->Q .normal a' w') (hQD:∀V st' a' w',KD V st'->Rel E st' a' w'->Q (.panic (bS V)) a' w') (hk:mX P ops st K KD) {n:Nat}:code.wpIn (du E.rd) n P Q a w:=by
 cases code<;>simp only[trCode]at hc<;>first | (cases hc;done) | skip
 ·rename_i id ops' draw;obtain⟨ρ,hρ⟩:=hr;obtain⟨hl,rfl⟩:=abe hc;unfold mu at hl;split at hl
  ·rename_i hf;have hf':∀o∈ops'.toList,fits E.N o=true:=λo ho=>acZ.1 hf o ho;simp only[ac5,if_false,Option.some.injEq]at hl;subst hl;refine wpIn_region_list ?_;exact BB hN ops' hQ hQD ops'.toList hf' hρ hk
  ·cases hl
 ·split at hc<;>cases hc
theorem HR (hN:E.N<=1000000) {p x y:List aY} {T:AT aY} {code:Code} (hc:trCode P E.N E.B code=.gV p x y T) {K:St->Prop} {KD:Value->St->Prop} {a:Act} {w:World} (hr:Rel E st a w)
    {Q:Exit->Act->World->Prop} (hQ:∀st' a' w',K st'->Rel E st' a' w'->Q .normal a' w') (hQD:∀V st' a' w',KD V st'->Rel E st' a' w'->Q (.panic (bS V)) a' w')
    (hk:(aops P p st λst'=>aops P x st' K/\aops P y st' K)\/dieF P T st KD) {n:Nat}:code.wpIn (du E.rd) n P Q a w:=by
 cases code<;>simp only[trCode]at hc<;>first | (cases hc;done) | skip
 ·rename_i id ops' draw;obtain⟨ρ,hρ⟩:=hr;obtain⟨hl,rfl,T',hT,rfl⟩:=aba hc;unfold qP at hl;split at hl
  ·rename_i hf;have hf':∀o∈ops'.toList,fits E.N o=true:=λo ho=>acZ.1 hf o ho;rw[if_pos rfl]at hl;split at hl
   ·rename_i hm;simp only[acX]at hm;have hρ':=hρ.same (w':={w with drawn:=w.drawn+1}) (aN.drew w);rcases hk with hk | hk
    ·obtain⟨L,hL,halt⟩:=ae1.1 hl;rw[<-vt P _ _ _ _ halt]at hk;refine wpIn_mono (wpIn_region_any hm.1 (rH (λo ho=>jF (hf' o ho)) (λh=>by obtain⟨a,w,h⟩:=h;cases h.1) _ _ _ _ (kj hN ops' hm.2 hf' _ _ L hL hρ' hk))) ?_;rintro e a' w' ⟨rfl,st',h1,h2⟩;exact hQ st' a' w' h2 h1
    exact wpIn_region_any hm.1 (BD hN ops' hf' hQD _ _ T' hT hρ' hk)
   ·cases hl
  ·cases hl
 ·split at hc<;>cases hc
end
def gT (P:Program) (f:Nat) (h:HP) (args:List AV) (V:Value):Prop:=
 ∀(X0:Nat->Prop) (ρ:Loc) (w:World) (vs:Array Value),dI X0 ρ h w->kD (aW ρ h) w->(∀b,X0 b->b<w.heap.size)->vs.size=args.length ->
  (∀(j:Nat) v x,vs[j]?=some v->args[j]?=some x->RV (XX X0 ρ h) w ρ v x) ->
  Calls P f vs w λe w'=>e=.panicked (bS V)/\w'.os=w.os/\w'.tape=w.tape/\w'.output=w.output/\w.heap.size<=w'.heap.size/\(∀b,b<w.heap.size->¬aW ρ h b->w'.heap[b]?=w.heap[b]?)
def wq (V:Value):Exit->St->Prop:=λe _=>e=.panic (bS V)
theorem rq {fn:Func} {h:HP} {args:List AV} {X0:Nat->Prop} {ρ:Loc} {w:World} {vs:Array Value} {B:Nat} (hN1:fn.ntmps<=1000000) (ha:args.length<=fn.ntmps) (hh:dI X0 ρ h w) (hA:kD (aW ρ h) w) (hX:∀b,X0 b->b<w.heap.size) (hvs:vs.size=args.length)
    (hrv:∀(j:Nat) v x,vs[j]?=some v->args[j]?=some x->RV (XX X0 ρ h) w ρ v x) (df:List Deferred) (hdf:df=[]) :
    ai ⟨w,aW ρ h,X0,fn.ntmps,B,λk=>vs.getD (k-2000000) undef,none,w.heap.size,acT _,df⟩ ρ ⟨jh args,h⟩ {tmps:=vs++Array.replicate (fn.ntmps-vs.size) undef,defers:=[]} w:=by
 subst hdf;refine⟨gQ.nil _ _,by simp;omega,λk av hk=>?_,hh,λid W L b h1 h2 h3=>.inr ⟨id,W,L,h1,h2,h3⟩,⟨rfl,rfl,rfl,acT _,λ_ _ _=>rfl,hA⟩,hX⟩;simp only[jh,kZ]at hk
 cases h0:sget (numbered 0 args) k with
 | some av0=>
  rw[h0]at hk;obtain rfl:=Option.some.inj hk;obtain⟨_,h2⟩:=k8 args 0 k _ h0;have hlt:k<args.length:=(List.getElem?_eq_some_iff.1 h2).1;have hlt2:k<fn.ntmps:=acN;refine⟨.inl hlt2,?_⟩;have hv:vs[k]?=some (vs[k]' acN):=Array.getElem?_eq_getElem _;unfold bl;rw[if_pos hlt2,ac0,Array.getElem?_append_left acN,hv]
  exact hrv k _ _ hv h2
 | none=>
  rw[h0]at hk;obtain⟨h1,h2⟩:=k8 args 2000000 k av hk;have hlt:k-2000000<args.length:=(List.getElem?_eq_some_iff.1 h2).1;refine⟨.inr h1,?_⟩;have hv:vs[k-2000000]?=some (vs[k-2000000]' acN):=Array.getElem?_eq_getElem _;unfold bl;have hnlt:¬k<fn.ntmps\/k<fn.ntmps:=acN;by_cases hlt3:k<fn.ntmps;exact absurd hlt3 (by have:=hN1;omega)
  ·rw[if_neg hlt3];simp only[ac0,hv];exact hrv _ _ av hv h2
theorem Z6 {P:Program} {f:Nat} {fn:Func} {body:Code} {h:HP} {args:List AV} {V:Value} {c:AC} (hf:P.funcs[f]?=some fn) (hb:fn.body=some body) {B:Nat} (hc:trCode P fn.ntmps B body=c)
    (hN:fn.ntmps<=1000000) (ha:args.length<=fn.ntmps) (hp:∀E:Env,E.N=fn.ntmps->E.B=B->E.rd=none->bN P E c ⟨jh args,h⟩ (wq V)):gT P f h args V:=by
 intro X0 ρ w vs hh hA hX hvs hrv;refine(callsIn_wide (n:=0)).1 (callsIn_of_wp_marks hf hb trivial (wpIn_mono (hp ⟨w,aW ρ h,X0,fn.ntmps,B,λk=>vs.getD (k-2000000) undef,none,w.heap.size,acT _,[]⟩ rfl rfl rfl 0 body hc _ w ⟨ρ,rq hN ha hh hA hX hvs hrv [] rfl⟩) ?_));rintro e a' w' ⟨st',⟨ρ',g0⟩,q⟩;obtain rfl:e=.panic (bS V):=q
 show LeavesInM Fence.wide 0 P fn a'.tmps _ a'.defers (.panicking (bS V)) w'
 obtain⟨⟨Ds,hDs⟩,_⟩:=g0.defers;rw[hDs];refine mh (ρ:=ρ') (st:=st') (a:=a') (by simp) (λw' g=>?_) rfl rfl Ds w' (by rw[<-hDs];exact g0);exact⟨rfl,g.an.os,g.an.tape,g.an.output,g.an.size,g.an.block⟩
def oe (st:St) (h0:HP):St:=⟨killSI (eK h0) [] st.s,dropH (eK h0) [] st.h⟩
theorem Dj:∀(l:List AV) (n:Nat),keepL2 l (List.replicate n .undef)=[]
 | [],n=>by cases n<;>rfl
 | x::l,0=>by cases x<;>rfl
 | x::l,n+1=>by
  rw[ad3];have:=Dj l n;cases x<;>simpa[keepL2]using this
theorem Al (s:List (Nat×AV)) (h':HP):∀(l:List AE) (n:Nat),backS s h' l (List.replicate n .undef)=[]
 | [],n=>by cases n<;>rfl
 | x::l,0=>by cases x<;>rfl
 | x::l,n+1=>by
  rw[ad3];have:=Al s h' l n;cases x<;>simpa[backS]using this
theorem HB (st:St) (h0:HP) (args:List AE) (n:Nat):iQ st h0 args [] (List.replicate n .undef)=oe st h0:=by
 unfold iQ oe;rw[Dj,Al];simp[eK]
theorem Hm {P:Program} {st:St} {f:Nat} {args:List AE} {V:Value} {K:Value->St->Prop} (h0:HP) (hs:gT P f h0 (args.map (ev st)) V) (hsub:∀i W,hget h0 i=some W->hget st.h i=some W)
    (hK:K V (oe st h0)):rO P st f args K:=by
 intro E ρ a w vs h hvs hrv;have hx1:=qL (E:=E) (ρ:=ρ) hsub;refine(hs (lK E ρ st h0) ρ w vs (zK h hsub) (h.cT.mono λb ⟨id,W,L,g1,g2,g3⟩=>⟨id,W,L,hsub _ _ g1,g2,g3⟩) (λb hb=>vn h b (hx1 b (.inl hb))) (by simpa using hvs) (λj v x e1 e2=>?_)).mono ?_
 ·rw[List.getElem?_map]at e2;obtain⟨y,g1,rfl⟩:=acR.1 e2;exact(hrv j v y e1 g1).1.mono (λ_ _ _=>rfl) (λb _ hb hx=>hb (hx1 b hx)) _ (λ_ _ h=>h)
 ·rintro e w' ⟨rfl,q1,q2,q3,q4,q5⟩
  obtain⟨ρ2,g1,_⟩:=zJ (ρ':=ρ) (h':=[]) (v:=undef) (r:=.undef) (as:=List.replicate args.length .undef) h hvs hrv hsub rfl rfl (nj _ _ _) (.undef _ _) (by simp)
   (λj v x e1 e2=>by rw[List.getElem?_replicate]at e2;split at e2<;>cases e2;exact .undef _ _) q1 q2 q3 q4 q5 (λb hb=>(iI hb).elim)
  rw[HB]at g1;exact⟨V,ρ2,_,rfl,g1,hK⟩
def OL (rs:List RVar) (n:Nat) (V:Value) (zA:AV) (Post:HP->AV->List AV->Prop):Exit->St->Prop
 | .normal,st | .ret,st=>∃r,resOf st rs=some r/\Post st.h r (argsAgain st 0 n)
 | .panic ch,st=>ch=bS V/\∃id c,sget st.s (2000000+n)=some (.aa id 0)/\hget st.h id=some (.var [c]) /\
     ∃r,resOf ⟨st.s,bD st.h id (.var [zA])⟩ rs=some r/\Post (bD st.h id (.var [zA])) r (argsAgain ⟨st.s,bD st.h id (.var [zA])⟩ 0 n)
 | _,_=>False
theorem GC {P:Program} {N B:Nat} {c:Code} {x y:AC} (h:trCode P N B c=.seq x y):∃a b,c=.seq a b/\trCode P N B a=x/\trCode P N B b=y:=by
 have hc:=h;cases c<;>simp only[trCode]at hc<;>first | (cases hc;done) | (exact Bool.noConfusion (show false=true from gi hc)) | (split at hc<;>cases hc;done) | skip
 injection hc with h1 h2
 exact⟨_,_,rfl,h1,h2⟩
theorem aa6 (x:Operand) (l:List AV):trE x≠.c (.af l):=by
 cases x with
 | tmp t=>simp only[trE];split<;>(intro h;cases h)
 | const v=>
  intro h;simp only[trE,AE.c.injEq]at h;unfold constAV at h;split at h
  ·cases h
  ·unfold constC at h
   split at h<;>cases h
 | func f=>intro h;simp only[trE]at h;cases h
 | global g=>intro h;simp only[trE]at h;cases h
theorem aa4 {P:Program} {N B:Nat} {c:Code} {g:Nat} {args:List AE} (h:trCode P N B c=.fH g args):∃id ops draw,c=.region id ops draw/\dfrOf P ops draw=some (g,args):=by
 have hc:=h;cases c<;>simp only[trCode]at hc<;>first | (cases hc;done) | skip
 ·rename_i id ops draw;exact⟨id,ops,draw,rfl,abc hc⟩
 ·split at hc<;>cases hc
theorem aa5 {P:Program} {N B:Nat} {c:Code} {g d:Nat} {caps:List AE} (h:trCode P N B c=.fH g (.c (.af [.int .i64 (d:Int)])::caps)) :
    ∃id ops draw o1 o2 cap cl,c=.region id ops draw/\ops.toList=[o1,o2]/\o1.op=.makeFunc (.func g) #[] cap/\o1.guard=none/\o1.dst=some d/\o2.op=.defer cl/\o2.guard=none/\o2.dst=none /\
     cl.callee=.value (.tmp d)/\cl.args=#[]/\callable P g=true/\caps=cap.toList.map trE /\
     (draw=true->P.follows .mixedOrders=true/\Region.ready .any ops #[false,false]=[0]/\Region.ready .any ops #[true,false]=[1]/\Region.ready .any ops #[true,true]=[]):=by
 obtain⟨id,ops,draw,rfl,hd⟩:=aa4 h;unfold dfrOf at hd;split at hd
 ·rename_i o ho;split at hd
  ·rename_i cl h1 h2 h3;split at hd
   ·split at hd
    ·simp only[Option.some.injEq,Prod.mk.injEq]at hd;have h2:=hd.2
     cases hc:cl.args.toList with
     | nil=>rw[hc]at h2;cases h2
     | cons x r=>
      rw[hc]at h2;simp only[adi,List.cons.injEq]at h2;exact(aa6 x _ h2.1).elim
    ·cases hd
   ·cases hd
  ·cases hd
 ·rename_i draw' o1 o2 ho;split at hd
  ·rename_i f first cap d cl h1 h2 h3 h4 h5 h6
   split at hd
   ·rename_i d' hcal hargs;split at hd
    ·rename_i hcond;simp only[Option.some.injEq,Prod.mk.injEq,List.cons.injEq,AE.c.injEq,AV.af.injEq,AV.int.injEq,true_and,and_true]at hd;obtain⟨rfl,hdd,rfl⟩:=hd;obtain rfl:=Int.ofNat.inj hdd;simp only[acX,beq_iff_eq,aex,ae4]at hcond;obtain⟨⟨⟨c1,c2⟩,c3⟩,c4⟩:=hcond;subst c1;have hf:first=#[]:=by simpa using c2
     subst hf;refine⟨id,ops,_,o1,o2,cap,cl,rfl,ho,h1,h2,h3,h4,h5,h6,hcal,by simpa using hargs,c3,rfl,λhdr=>?_⟩;rcases c4 with c4 | c4
     ·rw[hdr]at c4;cases c4
     exact⟨c4.1.1.1.1,c4.1.1.2,c4.1.2,c4.2⟩
    ·cases hd
   ·cases hd
  ·cases hd
 ·cases hd
theorem ai.df {E E':Env} {ρ:Loc} {st:St} {a:Act} {w:World} {ds:List Deferred} (h:ai E ρ st a w) (e1:E'.w0=E.w0) (e2:E'.F=E.F) (e3:E'.X0=E.X0) (e4:E'.N=E.N) (e5:E'.gv=E.gv) (hd:gQ E'.dn E'.df ds w) :
    ai E' ρ st {a with defers:=ds} w:=by
 obtain⟨w0,F,X0,N,B,gv,rd,dn,xf,df⟩:=E;obtain⟨w0',F',X0',N',B',gv',rd',dn',hdn',df'⟩:=E';simp only at e1 e2 e3 e4 e5;subst e1;subst e2;subst e3;subst e4;subst e5;exact⟨hd,h.size,λk av hk=>⟨(h.aX k av hk).1,(h.aX k av hk).2⟩,h.heap,h.base,⟨h.an.os,h.an.tape,h.an.output,h.an.size,h.an.block,h.an.cT⟩,h.x0⟩
end Go.Proofs.YtoalcafkffmiiaaGreatDoor.Eng
