/- The proof, part 9 of 51. -/
import Derived.Test.YtgghhaahnpbnmaaGreatDoorCartularyWalksF
import Derived.RecoverIn
set_option linter.all false
namespace Go.Proofs.YtgghhaahnpbnmaaGreatDoor.Eng
section
variable {P:Program} {E:Env} {ρ:Loc} {st:St} {a:Act} {w:World}
def bC (V:Value):List PanicEntry:=[{v:=V,recovered:=false}]
def r6 (P:Program) (st:St) (f:Nat) (args:List AE) (K:Value->St->Prop):Prop:=
 ∀(E:Env) (ρ:Loc) (a:Act) (w:World) (vs:Array Value),af E ρ st a w->vs.size=args.length ->
  (∀(j:Nat) v x,vs[j]?=some v->args[j]?=some x->RV (XX E.X0 ρ st.h) w ρ v (ev st x)/\∀k,x=.t k->k<2000000/\v=a.tmps.getD k undef) ->
  Calls P f vs w λe w'=>∃V ρ' st',e=.panicked (bC V)/\af E ρ' st' a w'/\K V st'
def dieOp (P:Program) (o:aO) (st:St) (K:Value->St->Prop):Prop:=
 match o with
 | ⟨_,none,_,_,.call f args⟩=>r6 P st f args K
 | ⟨_,none,_,_,.gF x⟩=>∃t v,ev st x=.lit (.iface t v)/\K (.iface t v) st
 | _=>False
def mN (P:Program):List aO->St->(St->Prop)->(Value->St->Prop)->Prop
 | [],st,K,_=>K st
 | o::r,st,K,KD=>dieOp P o st KD\/aops P [o] st λst'=>mN P r st' K KD
def qi (o:aO):Bool:=
 match o.o with
 | .call f _=>BI.contains f
 | _=>false
def dieF (P:Program):AT aO->St->(Value->St->Prop)->Prop
 | .nil,_,_=>False
 | .cons o t,st,K=>if qi o then dieOp P o st K else aops P [o] st λst'=>dieF P t st' K
 | .br x y,st,K=>dieF P x st K/\dieF P y st K
theorem aaF {o:Oper} {x:AE} (h:trOp P o=.gF x):∃y,o.op=.panic y/\x=trE y:=by
 have h1:∀(op:BinOp) t u v,trEq P t op u v=.gF x->False:=by
  intro op t u v h;unfold trEq at h;split at h<;>cases h
 have h2:∀s d u,trConv P s d u=.gF x->False:=by
  intro s d u h;unfold trConv at h
  (repeat' (first | (cases h;done) | split at h))
 have h3:∀c,trCall P c=.gF x->False:=by
  intro c h;unfold trCall at h
  (repeat' (first | (cases h;done) | split at h))
 unfold trOp at h;split at h
 all_goals first | (exact⟨_,by assumption,(AO.gF.inj h).symm⟩) | (exfalso;exact h3 _ h) | (exfalso;exact h2 _ _ _ h) | (exfalso;(repeat' (first | (cases h;done) | exact h1 _ _ _ _ h | split at h)))
theorem sU {B:Nat} {ops:Array Oper} {q:Bool} {o:Oper} (h:af E ρ st a w) {K:Value->St->Prop} (hk:dieOp P (eP P B ops q o) st K) {next:Act->World->Prop} {Q:Exit->Act->World->Prop}
    (hQ:∀V st' ρ' w',K V st'->af E ρ' st' a w'->Q (.panic (bC V)) a w'):o.guard=none/\o.wp P a w next Q:=by
 unfold eP at hk
 cases hg:o.guard with
 | some g=>rw[hg]at hk;exact hk.elim
 | none=>
  rw[hg]at hk;refine⟨rfl,?_⟩;unfold dieOp at hk;split at hk
  ·rename_i f args heq;simp only[adH,aO.mk.injEq,true_and]at heq;obtain⟨_,_,_,ho⟩:=heq;obtain⟨vs,h1,h2,h3⟩:=pZ ho a w;unfold Oper.wp;rw[h1,Oper.upon_enter];refine(hk E ρ a w vs h h2 (λj v x e1 e2=>?_)).mono ?_
   ·obtain⟨y,rfl,rfl⟩:=h3 j v x e1 e2;exact⟨a6 h y,λk hk=>ot y hk⟩
   ·rintro e w' ⟨V,ρ',st',rfl,g1,g2⟩;exact hQ V st' ρ' w' g2 g1
  ·rename_i x heq;simp only[adH,aO.mk.injEq,true_and]at heq;obtain⟨_,_,_,ho⟩:=heq;obtain⟨y,hy,rfl⟩:=aaF ho;obtain⟨t,v,h1,h2⟩:=hk;have h3:=a6 h y;rw[h1]at h3
   have h4:a.eval y=.iface t v:=by
    generalize a.eval y=z at h3;cases h3;rfl
   unfold Oper.wp
   have:(execOp a.eval o).run P w=.halt (.panic (.iface t v)) w:=by
    simp[execOp,hy,h4,Instr.panic,goPanic]
   rw[this];exact hQ _ _ ρ w h2 h
  exact hk.elim
theorem BK (hN:E.N<=1000000) (ops:Array Oper) {Q:Exit->Act->World->Prop} {KN:St->Prop} {K:Value->St->Prop} {r:Option Nat} {n:Nat} (hQN:∀st' a' w',KN st'->Rel E st' a' w'->Q .normal a' w')
    (hQ:∀V st' a' w',K V st'->Rel E st' a' w'->Q (.panic (bC V)) a' w') :
    ∀(l:List Oper) {ρ:Loc} {st:St} {a:Act} {w:World},(∀o∈l,fits E.N o=true)->af E ρ st a w->mN P (l.map (eP P E.B ops false)) st KN K->wpListIn (cG r) n P ops Q l a w
 | [],ρ,st,a,w,_,h,hk=>hQN st a w hk ⟨ρ,h⟩
 | o::l,ρ,st,a,w,hf,h,hk=>by
  rcases hk with hk | hk
  ·obtain⟨hg,_⟩:=sU (next:=λ_ _=>True) h hk (λV st' ρ' w' h1 h2=>hQ V st' a w' h1 ⟨ρ',h2⟩)
   exact wpListIn_plain hg (λnext hnext=>jL (iO (hf o (acU ..))) (sU (next:=next) h hk (λV st' ρ' w' h1 h2=>hQ V st' a w' h1 ⟨ρ',h2⟩)).2)
  ·exact lC hN ops l (K:=λst'=>mN P (l.map (eP P E.B ops false)) st' KN K) (λst' a' w' h1 ⟨ρ',h2⟩=>BK hN ops hQN hQ l (λx hx=>hf x (acV _ hx)) h2 h1)
    [o] (λx hx=>hf x (by rw[ac0.1 hx];exact acU ..)) h hk
theorem Im (hN:E.N<=1000000) (ops:Array Oper) {o:Oper} {q:Bool} {i:Nat} (hi:ops[i]?=some o) (hf:fits E.N o=true) {K:St->Prop} {next:Act->World->Prop} {Q:Exit->Act->World->Prop} {r:Option Nat} {n:Nat}
    (h:af E ρ st a w) (hk:aops P [eP P E.B ops q o] st K) (hn:∀st' ρ' a' w',K st'->af E ρ' st' a' w'->next a' w'):wpOpIn (cG r) n P ops Q i next a w:=by
 have hd:=ow hf;have hnd:=iO hf;unfold wpOpIn;rw[hi];simp only[eP]at hk
 cases hg:o.guard with
 | none=>
  simp only[hg,adH,aops]at hk;simp only[Region.wanted,hg,if_true]
  exact jL hnd (sd h hd hk (λav st' ρ' a' w' h1 h2 _=>hn _ _ _ _ h1 h2))
 | some g=>
  obtain⟨j,want⟩:=g;simp only[hg,ac7,aops]at hk;split at hk
  ·rename_i γ hγ;have hy:=tD h hγ hN;have hw:Region.wanted o (yielded ops a.tmps)=γ:=by simp only[Region.wanted,hg];exact hy
   simp only[hw]
   cases γ with
   | true=>
    rw[if_pos rfl];rcases hk with hk | hk | hk
    ·cases hk.1
    exact jL hnd (wa h hd hk.2 (λav st' ρ' a' w' h1 h2 _=>hn _ _ _ _ h1 h2))
    ·exact jL hnd (wb h hd hk rfl (λav ρ' a' w' h1 h2 _=>hn _ _ _ _ h1 h2))
   | false=>
    rw[if_neg (by simp)];have hk:∃v,K (put st o.dst (.gd false v)):=hk.elim (λx=>⟨_,x.2⟩) (λx=>x.elim (λy=>by cases y.1) se);obtain⟨v,hv⟩:=hk;exact⟨λ_ _=>trivial,hn _ _ _ _ hv (gI h hd (.gd _ _ _ _ (λh=>by cases h) (λ_=>rfl)))⟩
  exact hk.elim
theorem A2 {f:Nat->Option (AT Nat)} {g:Nat->Option aO} {K:Value->St->Prop}:∀(l:List Nat) (T:AT Nat),brL (l.map f)=some T->l≠[]/\∀i∈l,∃Ti,f i=some Ti/\(dieF P (T.fm g) st K->dieF P (Ti.fm g) st K)
 | [],T,h=>by cases h
 | [i],T,h=>by
  refine⟨by simp,λj hj=>?_⟩;rw[ac0]at hj;subst hj
  exact⟨T,h,id⟩
 | i::j::r,T,h=>by
  refine⟨by simp,?_⟩;rw[adk,adk,brL.eq_def]at h;simp only at h;split at h
  ·rename_i x y hx hy;cases h;obtain⟨_,ih⟩:=A2 (j::r) y hy;intro k hk;rcases acW.1 hk with rfl | hk;exact⟨x,hx,λh=>h.1⟩
   ·obtain⟨Ti,g1,g2⟩:=ih k hk;exact⟨Ti,g1,λh=>g2 h.2⟩
  ·cases h
theorem BM (hN:E.N<=1000000) (ops:Array Oper) (hf:∀o∈ops.toList,fits E.N o=true) {Q:Exit->Act->World->Prop} {K:Value->St->Prop} {r:Option Nat} {n:Nat} (hQ:∀V st' a' w',K V st'->Rel E st' a' w'->Q (.panic (bC V)) a' w') :
    ∀(fuel:Nat) (listed:Array Bool) (T:AT Nat) {ρ:Loc} {st:St} {a:Act} {w:World},ob P ops fuel listed=some T->af E ρ st a w->dieF P (T.fm (eW P E.B ops)) st K->wpAnyIn (cG r) n P .any ops Q fuel listed a w
 | 0,listed,T,ρ,st,a,w,hT,h,hk=>by cases hT
 | f+1,listed,T,ρ,st,a,w,hT,h,hk=>by
  simp only[ob]at hT;obtain⟨hne,hall⟩:=A2 (P:=P) (st:=st) (g:=eW P E.B ops) (K:=K) _ T hT;refine⟨λe=>absurd e hne,λi hi=>?_⟩;obtain⟨Ti,hTi,hdie⟩:=hall i hi;have hd:=hdie hk;split at hTi
  ·rename_i o ho
   have hom:o∈ops.toList:=by
    have:=aep ho;simpa using this
   have htr:eW P E.B ops i=some (eP P E.B ops (ox P ops i o) o):=by simp[eW,ho]
   have one:∀T',(T'=.nil\/ob P ops f (listed.setIfInBounds i true)=some T')->dieF P (AT.fm (eW P E.B ops) (.cons i T')) st K ->
       wpOpIn (cG r) n P ops Q i (wpAnyIn (cG r) n P .any ops Q f (listed.setIfInBounds i true)) a w:=by
    intro T' hT' hd;simp only[AT.fm,htr,dieF]at hd;split at hd
    ·obtain⟨hg,_⟩:=sU (next:=λ_ _=>True) h hd (λV st' ρ' w' h1 h2=>hQ V st' a w' h1 ⟨ρ',h2⟩)
     unfold wpOpIn;rw[ho];simp only[Region.wanted,hg,if_true];exact jL (iO (hf o hom)) (sU h hd (λV st' ρ' w' h1 h2=>hQ V st' a w' h1 ⟨ρ',h2⟩)).2
    ·refine Im hN ops ho (hf o hom) h hd (λst' ρ' a' w' h1 h2=>?_);rcases hT' with rfl | hT';exact h1.elim;exact BM hN ops hf hQ f _ T' hT' h2 h1
   split at hTi
   ·cases hTi;exact one _ (.inl rfl) hd
   ·split at hTi
    ·obtain⟨T',hT',rfl⟩:=acE.1 hTi;exact one _ (.inr hT') hd
    ·cases hTi
  ·cases hTi
theorem Ft (hN:E.N<=1000000) {ops:List aO} {code:Code} (hc:trCode P E.N E.B code=.fx ops) {K:St->Prop} {KD:Value->St->Prop} {a:Act} {w:World} (hr:Rel E st a w)
    {Q:Exit->Act->World->Prop} (hQ:∀st' a' w',K st'->Rel E st' a' w'->Q .normal a' w') (hQD:∀V st' a' w',KD V st'->Rel E st' a' w'->Q (.panic (bC V)) a' w') (hk:mN P ops st K KD) {n:Nat}:code.wpIn (cG E.rd) n P Q a w:=by
 cases code<;>simp only[trCode]at hc<;>first | (cases hc;done) | skip
 ·rename_i id ops' draw;obtain⟨ρ,hρ⟩:=hr;obtain⟨hl,rfl⟩:=aaL hc;unfold l6 at hl;split at hl
  ·rename_i hf;have hf':∀o∈ops'.toList,fits E.N o=true:=λo ho=>acI.1 hf o ho;simp only[acT,if_false,Option.some.injEq]at hl;subst hl;refine wpIn_region_list ?_;exact BK hN ops' hQ hQD ops'.toList hf' hρ hk
  ·cases hl
 ·split at hc<;>cases hc
theorem Ia (hN:E.N<=1000000) {p x y:List aO} {T:AT aO} {code:Code} (hc:trCode P E.N E.B code=.fe p x y T) {K:St->Prop} {KD:Value->St->Prop} {a:Act} {w:World} (hr:Rel E st a w)
    {Q:Exit->Act->World->Prop} (hQ:∀st' a' w',K st'->Rel E st' a' w'->Q .normal a' w') (hQD:∀V st' a' w',KD V st'->Rel E st' a' w'->Q (.panic (bC V)) a' w')
    (hk:(aops P p st λst'=>aops P x st' K/\aops P y st' K)\/dieF P T st KD) {n:Nat}:code.wpIn (cG E.rd) n P Q a w:=by
 cases code<;>simp only[trCode]at hc<;>first | (cases hc;done) | skip
 ·rename_i id ops' draw;obtain⟨ρ,hρ⟩:=hr;obtain⟨hl,rfl,T',hT,rfl⟩:=aaH hc;unfold rf at hl;split at hl
  ·rename_i hf;have hf':∀o∈ops'.toList,fits E.N o=true:=λo ho=>acI.1 hf o ho;rw[if_pos rfl]at hl;split at hl
   ·rename_i hm;simp only[acN]at hm;have hρ':=hρ.same (w':={w with drawn:=w.drawn+1}) (az.drew w);rcases hk with hk | hk
    ·obtain⟨L,hL,halt⟩:=aeG.1 hl;rw[<-v7 P _ _ _ _ halt]at hk;refine wpIn_mono (wpIn_region_any hm.1 (rR (λo ho=>iO (hf' o ho)) (λh=>by obtain⟨a,w,h⟩:=h;cases h.1) _ _ _ _ (jC hN ops' hm.2 hf' _ _ L hL hρ' hk))) ?_;rintro e a' w' ⟨rfl,st',h1,h2⟩;exact hQ st' a' w' h2 h1
    exact wpIn_region_any hm.1 (BM hN ops' hf' hQD _ _ T' hT hρ' hk)
   ·cases hl
  ·cases hl
 ·split at hc<;>cases hc
end
def eA (P:Program) (f:Nat) (h:HP) (args:List AV) (V:Value):Prop:=
 ∀(X0:Nat->Prop) (ρ:Loc) (w:World) (vs:Array Value),cD X0 ρ h w->jO (aE ρ h) w->(∀b,X0 b->b<w.heap.size)->vs.size=args.length ->
  (∀(j:Nat) v x,vs[j]?=some v->args[j]?=some x->RV (XX X0 ρ h) w ρ v x) ->
  Calls P f vs w λe w'=>e=.panicked (bC V)/\w'.os=w.os/\w'.tape=w.tape/\w'.output=w.output/\w.heap.size<=w'.heap.size/\(∀b,b<w.heap.size->¬aE ρ h b->w'.heap[b]?=w.heap[b]?)
def wU (V:Value):Exit->St->Prop:=λe _=>e=.panic (bC V)
theorem pc {fn:Func} {h:HP} {args:List AV} {X0:Nat->Prop} {ρ:Loc} {w:World} {vs:Array Value} {B:Nat} (hN1:fn.ntmps<=1000000) (ha:args.length<=fn.ntmps) (hh:cD X0 ρ h w) (hA:jO (aE ρ h) w) (hX:∀b,X0 b->b<w.heap.size) (hvs:vs.size=args.length)
    (hrv:∀(j:Nat) v x,vs[j]?=some v->args[j]?=some x->RV (XX X0 ρ h) w ρ v x) (df:List Deferred) (hdf:df=[]) :
    af ⟨w,aE ρ h,X0,fn.ntmps,B,λk=>vs.getD (k-2000000) undef,none,w.heap.size,acG _,df⟩ ρ ⟨fN args,h⟩ {tmps:=vs++Array.replicate (fn.ntmps-vs.size) undef,defers:=[]} w:=by
 subst hdf;refine⟨fQ.nil _ _,by simp;omega,λk av hk=>?_,hh,λid W L b h1 h2 h3=>.inr ⟨id,W,L,h1,h2,h3⟩,⟨rfl,rfl,rfl,acG _,λ_ _ _=>rfl,hA⟩,hX⟩;simp only[fN,kh]at hk
 cases h0:sget (numbered 0 args) k with
 | some av0=>
  rw[h0]at hk;obtain rfl:=Option.some.inj hk;obtain⟨_,h2⟩:=ki args 0 k _ h0;have hlt:k<args.length:=(List.getElem?_eq_some_iff.1 h2).1;have hlt2:k<fn.ntmps:=acB;refine⟨.inl hlt2,?_⟩;have hv:vs[k]?=some (vs[k]' acB):=Array.getElem?_eq_getElem _;unfold aP;rw[if_pos hlt2,acO,Array.getElem?_append_left acB,hv]
  exact hrv k _ _ hv h2
 | none=>
  rw[h0]at hk;obtain⟨h1,h2⟩:=ki args 2000000 k av hk;have hlt:k-2000000<args.length:=(List.getElem?_eq_some_iff.1 h2).1;refine⟨.inr h1,?_⟩;have hv:vs[k-2000000]?=some (vs[k-2000000]' acB):=Array.getElem?_eq_getElem _;unfold aP;have hnlt:¬k<fn.ntmps\/k<fn.ntmps:=acB;by_cases hlt3:k<fn.ntmps;exact absurd hlt3 (by have:=hN1;omega)
  ·rw[if_neg hlt3];simp only[acO,hv];exact hrv _ _ av hv h2
theorem Zu {P:Program} {f:Nat} {fn:Func} {body:Code} {h:HP} {args:List AV} {V:Value} {c:AC} (hf:P.funcs[f]?=some fn) (hb:fn.body=some body) {B:Nat} (hc:trCode P fn.ntmps B body=c)
    (hN:fn.ntmps<=1000000) (ha:args.length<=fn.ntmps) (hp:∀E:Env,E.N=fn.ntmps->E.B=B->E.rd=none->bm P E c ⟨fN args,h⟩ (wU V)):eA P f h args V:=by
 intro X0 ρ w vs hh hA hX hvs hrv;refine(callsIn_wide (n:=0)).1 (callsIn_of_wp_marks hf hb trivial (wpIn_mono (hp ⟨w,aE ρ h,X0,fn.ntmps,B,λk=>vs.getD (k-2000000) undef,none,w.heap.size,acG _,[]⟩ rfl rfl rfl 0 body hc _ w ⟨ρ,pc hN ha hh hA hX hvs hrv [] rfl⟩) ?_));rintro e a' w' ⟨st',⟨ρ',g0⟩,q⟩;obtain rfl:e=.panic (bC V):=q
 show LeavesInM Fence.wide 0 P fn a'.tmps _ a'.defers (.panicking (bC V)) w'
 obtain⟨⟨Ds,hDs⟩,_⟩:=g0.defers;rw[hDs];refine jA (ρ:=ρ') (st:=st') (a:=a') (by simp) (λw' g=>?_) rfl rfl Ds w' (by rw[<-hDs];exact g0);exact⟨rfl,g.ai.os,g.ai.tape,g.ai.output,g.ai.size,g.ai.block⟩
def nS (st:St) (h0:HP):St:=⟨killSI (dD h0) [] st.s,dropH (dD h0) [] st.h⟩
theorem DE:∀(l:List AV) (n:Nat),keepL2 l (List.replicate n .undef)=[]
 | [],n=>by cases n<;>rfl
 | x::l,0=>by cases x<;>rfl
 | x::l,n+1=>by
  rw[adO];have:=DE l n;cases x<;>simpa[keepL2]using this
theorem Ar (s:List (Nat×AV)) (h':HP):∀(l:List AE) (n:Nat),backS s h' l (List.replicate n .undef)=[]
 | [],n=>by cases n<;>rfl
 | x::l,0=>by cases x<;>rfl
 | x::l,n+1=>by
  rw[adO];have:=Ar s h' l n;cases x<;>simpa[backS]using this
theorem HU (st:St) (h0:HP) (args:List AE) (n:Nat):gU st h0 args [] (List.replicate n .undef)=nS st h0:=by
 unfold gU nS;rw[DE,Ar];simp[dD]
theorem Hy {P:Program} {st:St} {f:Nat} {args:List AE} {V:Value} {K:Value->St->Prop} (h0:HP) (hs:eA P f h0 (args.map (ev st)) V) (hsub:∀i W,hget h0 i=some W->hget st.h i=some W)
    (hK:K V (nS st h0)):r6 P st f args K:=by
 intro E ρ a w vs h hvs hrv;have hx1:=qZ (E:=E) (ρ:=ρ) hsub;refine(hs (kX E ρ st h0) ρ w vs (zG h hsub) (h.cn.mono λb ⟨id,W,L,g1,g2,g3⟩=>⟨id,W,L,hsub _ _ g1,g2,g3⟩) (λb hb=>vU h b (hx1 b (.inl hb))) (by simpa using hvs) (λj v x e1 e2=>?_)).mono ?_
 ·rw[List.getElem?_map]at e2;obtain⟨y,g1,rfl⟩:=acE.1 e2;exact(hrv j v y e1 g1).1.mono (λ_ _ _=>rfl) (λb _ hb hx=>hb (hx1 b hx)) _ (λ_ _ h=>h)
 ·rintro e w' ⟨rfl,q1,q2,q3,q4,q5⟩
  obtain⟨ρ2,g1,_⟩:=zF (ρ':=ρ) (h':=[]) (v:=undef) (r:=.undef) (as:=List.replicate args.length .undef) h hvs hrv hsub rfl rfl (lT _ _ _) (.undef _ _) (by simp)
   (λj v x e1 e2=>by rw[List.getElem?_replicate]at e2;split at e2<;>cases e2;exact .undef _ _) q1 q2 q3 q4 q5 (λb hb=>(fI hb).elim)
  rw[HU]at g1;exact⟨V,ρ2,_,rfl,g1,hK⟩
structure pC (P:Program) (g:Nat) (V:Value) (t:TypeId) (z:Value):Prop where
 idle:∀(ad:Addr) (w:World),CallsDIn Fence.wide 0 P g #[.pointer (some ad)] .returning w λe u' w'=>(∃v,e=.returned v)/\u'=.returning/\w'=w
 Xv:∀(ad:Addr) (w:World),(∀w1,az w w1->∃w2,(Instr.storeAt t (.pointer (some ad)) z).run P w1=.ok () w2) ->
  CallsDIn Fence.wide 0 P g #[.pointer (some ad)] (.panicking (bC V)) w λe u' w'=>(∃v,e=.returned v)/\u'=.panicking [{v:=V,recovered:=true}]/\∃w1,az w w1/\(Instr.storeAt t (.pointer (some ad)) z).run P w1=.ok () w'
def CZ (rs:List RVar) (n:Nat) (V:Value) (zA:AV) (Post:HP->AV->List AV->Prop):Exit->St->Prop
 | .normal,st | .ret,st=>∃r,resOf st rs=some r/\Post st.h r (argsAgain st 0 n)
 | .panic ch,st=>ch=bC V/\∃id c,sget st.s (2000000+n)=some (.aa id 0)/\hget st.h id=some (.var [c]) /\
     ∃r,resOf ⟨st.s,bo st.h id (.var [zA])⟩ rs=some r/\Post (bo st.h id (.var [zA])) r (argsAgain ⟨st.s,bo st.h id (.var [zA])⟩ 0 n)
 | _,_=>False
theorem vq {P:Program} {N B:Nat} {c:Code} {x y:AC} (h:trCode P N B c=.seq x y):∃a b,c=.seq a b/\trCode P N B a=x/\trCode P N B b=y:=by
 have hc:=h;cases c<;>simp only[trCode]at hc<;>first | (cases hc;done) | (exact Bool.noConfusion (show false=true from eX hc)) | (split at hc<;>cases hc;done) | skip
 injection hc with h1 h2
 exact⟨_,_,rfl,h1,h2⟩
theorem aaD (x:Operand) (l:List AV):trE x≠.c (.ab l):=by
 cases x with
 | tmp t=>simp only[trE];split<;>(intro h;cases h)
 | const v=>
  intro h;simp only[trE,AE.c.injEq]at h;unfold constAV at h;split at h
  ·cases h
  ·unfold constC at h
   split at h<;>cases h
 | func f=>intro h;simp only[trE]at h;cases h
 | global g=>intro h;simp only[trE]at h;cases h
theorem GF {P:Program} {N B:Nat} {c:Code} {g:Nat} {args:List AE} (h:trCode P N B c=.cS g args):∃id ops draw,c=.region id ops draw/\dfrOf P ops draw=some (g,args):=by
 have hc:=h;cases c<;>simp only[trCode]at hc<;>first | (cases hc;done) | skip
 ·rename_i id ops draw;exact⟨id,ops,draw,rfl,aaJ hc⟩
 ·split at hc<;>cases hc
theorem aaB {P:Program} {N B:Nat} {c:Code} {g:Nat} {args:List AE} (h:trCode P N B c=.cS g args) (hne:∀q l,args≠.c (.ab q)::l) :
    ∃id ops o cl,c=.region id ops false/\ops.toList=[o]/\o.op=.defer cl/\o.guard=none/\o.dst=none/\cl.callee=.value (.func g)/\callable P g=true/\args=cl.args.toList.map trE:=by
 obtain⟨id,ops,draw,rfl,hd⟩:=GF h;unfold dfrOf at hd;split at hd
 ·rename_i o ho;split at hd
  ·rename_i cl h1 h2 h3;split at hd
   ·rename_i f hf;split at hd
    ·rename_i hcal;simp only[Option.some.injEq,Prod.mk.injEq]at hd;obtain⟨rfl,rfl⟩:=hd;exact⟨id,ops,o,cl,rfl,ho,h1,h2,h3,hf,hcal,rfl⟩
    ·cases hd
   ·cases hd
  ·cases hd
 ·split at hd
  ·split at hd
   ·split at hd
    ·simp only[Option.some.injEq,Prod.mk.injEq]at hd;exact(hne _ _ hd.2.symm).elim
    ·cases hd
   ·cases hd
  ·cases hd
 ·cases hd
theorem aaC {P:Program} {N B:Nat} {c:Code} {g d:Nat} {caps:List AE} (h:trCode P N B c=.cS g (.c (.ab [.int .i64 (d:Int)])::caps)) :
    ∃id ops draw o1 o2 cap cl,c=.region id ops draw/\ops.toList=[o1,o2]/\o1.op=.makeFunc (.func g) #[] cap/\o1.guard=none/\o1.dst=some d/\o2.op=.defer cl/\o2.guard=none/\o2.dst=none /\
     cl.callee=.value (.tmp d)/\cl.args=#[]/\callable P g=true/\caps=cap.toList.map trE /\
     (draw=true->P.follows .mixedOrders=true/\Region.ready .any ops #[false,false]=[0]/\Region.ready .any ops #[true,false]=[1]/\Region.ready .any ops #[true,true]=[]):=by
 obtain⟨id,ops,draw,rfl,hd⟩:=GF h;unfold dfrOf at hd;split at hd
 ·rename_i o ho;split at hd
  ·rename_i cl h1 h2 h3;split at hd
   ·split at hd
    ·simp only[Option.some.injEq,Prod.mk.injEq]at hd;have h2:=hd.2
     cases hc:cl.args.toList with
     | nil=>rw[hc]at h2;cases h2
     | cons x r=>
      rw[hc]at h2;simp only[adk,List.cons.injEq]at h2;exact(aaD x _ h2.1).elim
    ·cases hd
   ·cases hd
  ·cases hd
 ·rename_i draw' o1 o2 ho;split at hd
  ·rename_i f first cap d cl h1 h2 h3 h4 h5 h6
   split at hd
   ·rename_i d' hcal hargs;split at hd
    ·rename_i hcond;simp only[Option.some.injEq,Prod.mk.injEq,List.cons.injEq,AE.c.injEq,AV.ab.injEq,AV.int.injEq,true_and,and_true]at hd;obtain⟨rfl,hdd,rfl⟩:=hd;obtain rfl:=Int.ofNat.inj hdd;simp only[acN,beq_iff_eq,aee,aeL]at hcond;obtain⟨⟨⟨c1,c2⟩,c3⟩,c4⟩:=hcond;subst c1;have hf:first=#[]:=by simpa using c2
     subst hf;refine⟨id,ops,_,o1,o2,cap,cl,rfl,ho,h1,h2,h3,h4,h5,h6,hcal,by simpa using hargs,c3,rfl,λhdr=>?_⟩;rcases c4 with c4 | c4
     ·rw[hdr]at c4;cases c4
     exact⟨c4.1.1.1.1,c4.1.1.2,c4.1.2,c4.2⟩
    ·cases hd
   ·cases hd
  ·cases hd
 ·cases hd
theorem Ky {P:Program} {g:Nat} (h:callable P g=true) (vs:Array Value) (w:World):(invoke (.fn (.func g) #[]) vs).run P w=.ok (.enter g vs) w:=by
 unfold callable at h;split at h
 ·rename_i fn h2;simp only[acN,bne_iff_ne]at h;have h5:¬fn.name = "runtime.NumGoroutine" := by simpa using h.2
  have h6:¬fn.body=none:=by intro e;rw[e]at h;cases h.1
  simp[invoke,callFunc,h2,h5,h6]
 ·cases h
theorem af.df {E E':Env} {ρ:Loc} {st:St} {a:Act} {w:World} {ds:List Deferred} (h:af E ρ st a w) (e1:E'.w0=E.w0) (e2:E'.F=E.F) (e3:E'.X0=E.X0) (e4:E'.N=E.N) (e5:E'.gv=E.gv) (hd:fQ E'.dn E'.df ds w) :
    af E' ρ st {a with defers:=ds} w:=by
 obtain⟨w0,F,X0,N,B,gv,rd,dn,qx,df⟩:=E;obtain⟨w0',F',X0',N',B',gv',rd',dn',hdn',df'⟩:=E';simp only at e1 e2 e3 e4 e5;subst e1;subst e2;subst e3;subst e4;subst e5;exact⟨hd,h.size,λk av hk=>⟨(h.aM k av hk).1,(h.aM k av hk).2⟩,h.heap,h.base,⟨h.ai.os,h.ai.tape,h.ai.output,h.ai.size,h.ai.block,h.ai.cn⟩,h.x0⟩
theorem Zy {P:Program} {f g k:Nat} {fn:Func} {body:Code} {h:HP} {args:List AV} {Post:HP->AV->List AV->Prop} {c0 c1:AC} {V:Value} {t:TypeId} {q:IntKind} {z:Int} (hf:P.funcs[f]?=some fn) (hb:fn.body=some body) {B:Nat}
    (hc:trCode P fn.ntmps B body=.seq c0 (.seq (.cS g [.t k]) c1)) (hN:fn.ntmps<=1000000) (ha:args.length<=fn.ntmps) (hG:pC P g V t (.int q z)) (ht:bP P t=some 1)
    (hp:∀E:Env,E.N=fn.ntmps->E.B=B->E.rd=none->bm P E c0 ⟨fN args,h⟩ (λe st=>e=.normal/\∃id,ev st (.t k)=.aa id 0 /\
     ∀E':Env,E'.N=fn.ntmps->E'.B=B->E'.rd=none->bm P E' c1 ⟨(2000000+args.length,.aa id 0)::st.s,st.h⟩ (CZ (fn.results.toList.map (trRes P)) args.length V (.int q z) Post))):Spec P f h args Post:=by
 intro X0 ρ w vs hh hA hX hvs hrv;obtain⟨b0,b',rfl,h0,hb'⟩:=vq hc;obtain⟨bd,b1,rfl,hbd,h1⟩:=vq hb';obtain⟨id,ops,o,cl,rfl,hops,hod,hog,hodst,hcl,hcal,hargs⟩:=aaB hbd (λq l h=>by cases h);have hlen:cl.args.toList.length=1:=by rw[<-acY (f:=trE),<-hargs];rfl
 obtain⟨y,hy⟩:=afj.1 hlen;rw[hy]at hargs;have hyk:trE y=.t k:=by simpa using hargs.symm
 have hcargs:cl.args=#[y]:=by
  apply Array.toList_inj.1;simpa using hy
 let gv0:Nat->Value:=λk=>vs.getD (k-2000000) undef
 let E0:Env:=⟨w,aE ρ h,X0,fn.ntmps,B,gv0,none,w.heap.size,acG _,[]⟩
 refine(callsIn_wide (n:=0)).1 (callsIn_of_wp_marks hf hb trivial (wpIn_seq (wpIn_mono (hp E0 rfl rfl rfl 0 b0 h0 _ w ⟨ρ,pc hN ha hh hA hX hvs hrv [] rfl⟩) ?_)));rintro e a1 w1 ⟨st1,⟨ρ1,g1⟩,rfl,pid,hpid,hp1⟩;refine wpIn_seq (wpIn_region_list ?_);rw[hops];refine wpListIn_plain hog (λnext hnext=>⟨λ_ _=>trivial,?_⟩)
 have hptr:=a6 g1 y;rw[hyk,hpid]at hptr
 obtain⟨ad,had⟩:∃ad,a1.eval y=.pointer (some ad):=by
  generalize a1.eval y=vy at hptr;cases hptr;exact⟨_,rfl⟩
 let d:Deferred:={target:=.fn (.func g) #[],args:=#[.pointer (some ad)]}
 have hrun:(execOp a1.eval o).run P w1=.ok (.defer d) w1:=by
  have hfg:a1.eval (.func g)=.func (.func g) #[] #[]:=rfl;unfold execOp;simp[hod,resolve,hcl,hfg,Deferred.ofValue,hcargs,d,had]
 rw[show Fence.wide.round=none from rfl,Oper.semAt_none,hrun]
 show next (({a1 with defers:=d::a1.defers}:Act).put o.dst undef) w1
 rw[hodst];refine hnext _ _ ?_
 let E1:Env:=⟨w,aE ρ h,X0,fn.ntmps,B,λj=>if j=2000000+args.length then .pointer (some ad)else gv0 j,none,w.heap.size,acG _,d::a1.defers⟩
 have hN':(2000000+args.length:Nat)>=fn.ntmps:=acB;obtain⟨⟨Ds0,hDs0⟩,hnd0⟩:=g1.defers;have hDs0:a1.defers=Ds0.map kS:=by rw[hDs0];simp[E0]
 have g2:af E1 ρ1 ⟨(2000000+args.length,.aa pid 0)::st1.s,st1.h⟩ {a1 with defers:=d::a1.defers} w1:=by
  refine⟨⟨⟨[],rfl⟩,hnd0⟩,g1.size,λk av hk=>?_,g1.heap,g1.base,⟨g1.ai.os,g1.ai.tape,g1.ai.output,g1.ai.size,g1.ai.block,g1.ai.cn⟩,g1.x0⟩;simp only[sget]at hk;split at hk
  ·rename_i hk0;obtain rfl:=Option.some.inj hk;refine⟨.inr acB,?_⟩
   have:aP E1 {a1 with defers:=d::a1.defers} k=.pointer (some ad):=by
    unfold aP;rw[if_neg (by simp only[E1];omega)];simp only[E1,hk0,if_true]
   rw[this,<-had];exact hptr
  ·rename_i hk0;obtain⟨r1,r2⟩:=g1.aM k av hk;refine⟨r1,?_⟩
   have:aP E1 {a1 with defers:=d::a1.defers} k=aP E0 a1 k:=by
    unfold aP;simp only[E1,E0,if_neg hk0]
   rw[this];exact r2
 refine wpIn_mono (hp1 E1 rfl rfl rfl 0 b1 h1 _ w1 ⟨ρ1,g2⟩) ?_;rintro e a' w' ⟨st',⟨ρ',g0⟩,q⟩;obtain⟨⟨Ds,hDs⟩,_⟩:=g0.defers
 have fin:∀st'' w'',af E1 ρ' st'' {a' with defers:=d::a1.defers} w''->(∃r,resOf st'' (fn.results.toList.map (trRes P))=some r/\Post st''.h r (argsAgain st'' 0 args.length)) ->
     LeavesInM Fence.wide 0 P fn a'.tmps (λe w'=>∃v h' r ρ' as,e=.returned v/\Post h' r as/\cD X0 ρ' h' w'/\RV (XX X0 ρ' h') w' ρ' v r /\
     as.length=args.length/\(∀(j:Nat) v x,vs[j]?=some v->as[j]?=some x->RV (XX X0 ρ' h') w' ρ' v x) /\
     w'.os=w.os/\w'.tape=w.tape/\w'.output=w.output/\w.heap.size<=w'.heap.size/\(∀b,b<w.heap.size->¬aE ρ h b->w'.heap[b]?=w.heap[b]?) /\
     (∀b,aE ρ' h' b->w.heap.size<=b\/aE ρ h b)) a1.defers .returning w'':=by
  rintro st'' w'' gg ⟨r,hr,hP⟩
  have gg':af {E1 with df:=[]} ρ' st'' {a' with defers:=Ds0.map kS++[]} w'':=by
   refine gg.df rfl rfl rfl rfl rfl ⟨⟨Ds0,rfl⟩,?_⟩;have:=gg.defers.2;rw[adx,<-hDs0];exact this
  have:=jA (P:=P) (fn:=fn) (E:={E1 with df:=[]}) (ρ:=ρ') (st:=st'') (a:=a') (u:=.returning) (rest:=[]) (R:=λe w'=>∃v h' r ρ' as,e=.returned v/\Post h' r as/\cD X0 ρ' h' w'/\RV (XX X0 ρ' h') w' ρ' v r /\
   as.length=args.length/\(∀(j:Nat) v x,vs[j]?=some v->as[j]?=some x->RV (XX X0 ρ' h') w' ρ' v x) /\
   w'.os=w.os/\w'.tape=w.tape/\w'.output=w.output/\w.heap.size<=w'.heap.size/\(∀b,b<w.heap.size->¬aE ρ h b->w'.heap[b]?=w.heap[b]?) /\
   (∀b,aE ρ' h' b->w.heap.size<=b\/aE ρ h b)) (by simp) (λw' g=>?_) rfl rfl Ds0 w'' gg'
  ·rw[adx,<-hDs0]at this;exact this
  ·obtain⟨v,q1,q2⟩:=uQ (P:=P) g hr;refine⟨v,q1,v,st''.h,r,ρ',_,rfl,hP,g.heap,q2,mA _ _ _,λj v x e1 e2=>?_,g.ai.os,g.ai.tape,g.ai.output,g.ai.size,g.ai.block,λb ⟨id,W,L,h1,h2,h3⟩=>g.base id W L b h1 h2 h3⟩
   have hjl:j<args.length:=by
    have:=(List.getElem?_eq_some_iff.1 e2).1
    rwa[mA]at this
   have:=pM st'' _ _ j x e2;rw[adr]at this
   cases hs:sget st''.s (2000000+j)with
   | none=>rw[hs]at this;subst this;exact .undef _ _
   | some av=>
    rw[hs]at this;obtain rfl:x=av:=this;have hr2:=(g.aM _ _ hs).2;unfold aP at hr2;rw[if_neg (by simp only[E1];omega)]at hr2;have hne:¬2000000+j=2000000+args.length:=acB;simp only[E1,if_neg hne,gv0,adv,acO,e1]at hr2;exact hr2
 have hinv:=λw=>Ky (P:=P) hcal #[.pointer (some ad)] w
 have ret:(∃r,resOf st' (fn.results.toList.map (trRes P))=some r/\Post st'.h r (argsAgain st' 0 args.length))->LeavesInM Fence.wide 0 P fn a'.tmps (λe w'=>∃v h' r ρ' as,e=.returned v/\Post h' r as/\cD X0 ρ' h' w'/\RV (XX X0 ρ' h') w' ρ' v r /\
     as.length=args.length/\(∀(j:Nat) v x,vs[j]?=some v->as[j]?=some x->RV (XX X0 ρ' h') w' ρ' v x) /\
     w'.os=w.os/\w'.tape=w.tape/\w'.output=w.output/\w.heap.size<=w'.heap.size/\(∀b,b<w.heap.size->¬aE ρ h b->w'.heap[b]?=w.heap[b]?) /\
     (∀b,aE ρ' h' b->w.heap.size<=b\/aE ρ h b)) a'.defers .returning w':=by
  intro hq;rw[hDs];refine jA (E:=E1) (ρ:=ρ') (st:=st') (a:=a') (by simp) (λw' gg=>?_) rfl rfl Ds w' (by rw[<-hDs];exact g0);refine⟨by simp,.inr ⟨λhh=>(by cases hh),.func g,#[],g,_,rfl,hinv w',λ_ _=>trivial,(hG.idle ad w').mono ?_⟩⟩;rintro e u' w2 ⟨⟨v,rfl⟩,rfl,rfl⟩;exact fin st' _ gg hq
 cases e with
 | normal=>exact ret q
 | ret=>exact ret q
 | exit id=>exact q.elim
 | goto l=>exact q.elim
 | outgrown=>exact q.elim
 | panic ch=>
  obtain⟨rfl,wid,cc,hs,hw,r,hr,hP⟩:=q
  show LeavesInM Fence.wide 0 P fn a'.tmps _ a'.defers (.panicking (bC V)) w'
  rw[hDs];refine jA (E:=E1) (ρ:=ρ') (st:=st') (a:=a') (by simp) (λw' gg=>?_) rfl rfl Ds w' (by rw[<-hDs];exact g0)
  have hval:∀{w2:World} (gg:af E1 ρ' st' {a' with defers:=d::a1.defers} w2),∃w3 ρ'' st'',(Instr.storeAt t (.pointer (some ad)) (.int q z)).run P w2=.ok () w3/\af E1 ρ'' st'' {a' with defers:=d::a1.defers} w3/\(ρ''=ρ'/\st''=⟨st'.s,bo st'.h wid (.var [.int q z])⟩):=by
   intro w2 gg;have hr2:=(gg.aM _ _ hs).2;unfold aP at hr2;rw[if_neg (by simp only[E1];omega)]at hr2;simp only[E1,if_true]at hr2
   cases hr2 with
   | aa _ _ _ L b hL hb=>
    obtain⟨cur,te,fz,k1,k2,k3,k4,k5⟩:=vz gg hw hL hb;refine⟨_,ρ',_,yW (P:=P) ht (by simp[Value.cells]) k1 k2 (by simpa using k3) (by simp[Value.cells,Value.oneCell']),?_,rfl,rfl⟩;refine gg.modify wid L _ _ hw hL ⟨rfl,rfl,rfl,by simp,λk hk hne=>setRow_other w2 b k _ (λe=>by subst e;exact hne _ L hw hL hb)⟩ ?_;have hsl:=nv (l:=cur.toList) (k:=L.o+0) (s:=(Value.int q z).cells.toList) (by simp[Value.cells];simpa using k3);refine⟨b,hb,_,te,fz,setRow_heap w2 b cur _ te fz k1,?_,?_,acG _,?_⟩
    ·intro j hj;simp only[adm,hsl]at hj;exact k2 j (by simpa using hj)
    ·simp only[adm,hsl];simpa using k3
    ·intro j u y e1 e2;simp only[List.getElem?_toArray]at e1;rw[rl (by simp[Value.cells];simpa using k3)]at e1
     cases j with
     | zero=>
      simp[Value.cells]at e1 e2;subst e1;subst e2
      exact .int _ _ _
     | succ j=>simp at e2
  refine⟨by simp,.inr ⟨λhh=>(by cases hh),.func g,#[],g,_,rfl,hinv w',λ_ _=>trivial,(hG.Xv ad w' (λw1 hs1=>?_)).mono ?_⟩⟩
  ·obtain⟨w3,_,_,h3,_⟩:=hval (gg.same hs1);exact⟨w3,h3⟩
  ·rintro e u' w2 ⟨⟨v,rfl⟩,rfl,w3,hs3,hst⟩;obtain⟨w4,_,_,h4,h5,rfl,rfl⟩:=hval (gg.same hs3);rw[hst]at h4;cases h4;exact fin _ _ h5 ⟨r,hr,hP⟩
end Go.Proofs.YtgghhaahnpbnmaaGreatDoor.Eng
