/- The proof, part 9 of 42. -/
import Derived.Test.YtoalcafkffmiiaaGreatDoorOdbKindsF
import Derived.RecoverIn
set_option linter.all false
namespace Go.Proofs.YtoalcafkffmiiaaGreatDoor.Eng
section
variable {P:Program} {E:Env} {ρ:Loc} {st:St} {a:Act} {w:World}
def bJ (V:Value):List PanicEntry:=[{v:=V,recovered:=false}]
def oB (P:Program) (st:St) (f:Nat) (args:List AE) (K:Value→St→Prop):Prop:=
 ∀(E:Env) (ρ:Loc) (a:Act) (w:World) (vs:Array Value),al E ρ st a w→vs.size=args.length →
  (∀(j:Nat) v x,vs[j]?=some v→args[j]?=some x→RV (XX E.X0 ρ st.h) w ρ v (ev st x)∧∀k,x=.t k→k<2000000∧v=a.tmps.getD k undef) →
  Calls P f vs w fun e w'=>∃V ρ' st',e=.panicked (bJ V)∧al E ρ' st' a w'∧K V st'
def dieOp (P:Program) (o:bj) (st:St) (K:Value→St→Prop):Prop:=
 match o with
 | ⟨_,none,_,_,.call f args⟩=>oB P st f args K
 | ⟨_,none,_,_,.dJ x⟩=>∃t v,ev st x=.lit (.iface t v)∧K (.iface t v) st
 | _=>False
def kE (P:Program):List bj→St→(St→Prop)→(Value→St→Prop)→Prop
 | [],st,K,_=>K st
 | o::r,st,K,KD=>dieOp P o st KD∨aops P [o] st fun st'=>kE P r st' K KD
def sw (o:bj):Bool:=
 match o.o with
 | .call f _=>xo.contains f
 | _=>false
def dieF (P:Program):AT bj→St→(Value→St→Prop)→Prop
 | .nil,_,_=>False
 | .cons o t,st,K=>if sw o then dieOp P o st K else aops P [o] st fun st'=>dieF P t st' K
 | .br x y,st,K=>dieF P x st K∧dieF P y st K
theorem am6 {o:Oper} {x:AE} (h:trOp P o=.dJ x):∃y,o.op=.panic y∧x=trE y:=by
 have h1:∀(op:BinOp) t u v,trEq P t op u v=.dJ x→False:=by
  intro op t u v h
  unfold trEq at h
  split at h<;>cases h
 have h2:∀s d u,trConv P s d u=.dJ x→False:=by
  intro s d u h
  unfold trConv at h
  (repeat' (first | (cases h;done) | split at h))
 have h3:∀c,trCall P c=.dJ x→False:=by
  intro c h
  unfold trCall at h
  (repeat' (first | (cases h;done) | split at h))
 unfold trOp at h
 split at h
 all_goals first | (exact⟨_,by assumption,(AO.dJ.inj h).symm⟩) | (exfalso;exact h3 _ h) | (exfalso;exact h2 _ _ _ h) | (exfalso;(repeat' (first | (cases h;done) | exact h1 _ _ _ _ h | split at h)))
theorem pr {B:Nat} {ops:Array Oper} {q:Bool} {o:Oper} (h:al E ρ st a w) {K:Value→St→Prop} (hk:dieOp P (dM P B ops q o) st K) {next:Act→World→Prop} {Q:Exit→Act→World→Prop}
    (hQ:∀V st' ρ' w',K V st'→al E ρ' st' a w'→Q (.panic (bJ V)) a w'):o.guard=none∧o.wp P a w next Q:=by
 unfold dM at hk
 cases hg:o.guard with
 | some g=>rw[hg]at hk;exact hk.elim
 | none=>
  rw[hg]at hk
  refine⟨rfl,?_⟩
  unfold dieOp at hk
  split at hk
  ·rename_i f args heq
   simp only[Option.map_none,bj.mk.injEq,true_and]at heq
   obtain⟨_,_,_,ho⟩:=heq
   obtain⟨vs,h1,h2,h3⟩:=mV ho a w
   unfold Oper.wp
   rw[h1,Oper.upon_enter]
   refine(hk E ρ a w vs h h2 (fun j v x e1 e2=>?_)).mono ?_
   ·obtain⟨y,rfl,rfl⟩:=h3 j v x e1 e2
    exact⟨a8 h y,fun k hk=>lT y hk⟩
   ·rintro e w' ⟨V,ρ',st',rfl,g1,g2⟩
    exact hQ V st' ρ' w' g2 g1
  ·rename_i x heq
   simp only[Option.map_none,bj.mk.injEq,true_and]at heq
   obtain⟨_,_,_,ho⟩:=heq
   obtain⟨y,hy,rfl⟩:=am6 ho
   obtain⟨t,v,h1,h2⟩:=hk
   have h3:=a8 h y
   rw[h1]at h3
   have h4:a.eval y=.iface t v:=by
    generalize a.eval y=z at h3
    cases h3;rfl
   unfold Oper.wp
   have:(execOp a.eval o).run P w=.halt (.panic (.iface t v)) w:=by
    simp[execOp,hy,h4,Instr.panic,goPanic]
   rw[this]
   exact hQ _ _ ρ w h2 h
  ·exact hk.elim
theorem xq (hN:E.N≤1000000) (ops:Array Oper) {Q:Exit→Act→World→Prop} {KN:St→Prop} {K:Value→St→Prop} {r:Option Nat} {n:Nat} (hQN:∀st' a' w',KN st'→Rel E st' a' w'→Q .normal a' w')
    (hQ:∀V st' a' w',K V st'→Rel E st' a' w'→Q (.panic (bJ V)) a' w') :
    ∀(l:List Oper) {ρ:Loc} {st:St} {a:Act} {w:World},(∀o∈l,fits E.N o=true)→al E ρ st a w→kE P (l.map (dM P E.B ops false)) st KN K→wpListIn (cw r) n P ops Q l a w
 | [],ρ,st,a,w,_,h,hk=>hQN st a w hk ⟨ρ,h⟩
 | o::l,ρ,st,a,w,hf,h,hk=>by
  rcases hk with hk | hk
  ·obtain⟨hg,_⟩:=pr (next:=fun _ _=>True) h hk (fun V st' ρ' w' h1 h2=>hQ V st' a w' h1 ⟨ρ',h2⟩)
   exact wpListIn_plain hg (fun next hnext=>ij (gh (hf o (List.mem_cons_self ..))) (pr (next:=next) h hk (fun V st' ρ' w' h1 h2=>hQ V st' a w' h1 ⟨ρ',h2⟩)).2)
  ·exact jI hN ops l (K:=fun st'=>kE P (l.map (dM P E.B ops false)) st' KN K) (fun st' a' w' h1 ⟨ρ',h2⟩=>xq hN ops hQN hQ l (fun x hx=>hf x (List.mem_cons_of_mem _ hx)) h2 h1)
    [o] (fun x hx=>hf x (by rw[List.mem_singleton.1 hx];exact List.mem_cons_self ..)) h hk
theorem Ev (hN:E.N≤1000000) (ops:Array Oper) {o:Oper} {q:Bool} {i:Nat} (hi:ops[i]?=some o) (hf:fits E.N o=true) {K:St→Prop} {next:Act→World→Prop} {Q:Exit→Act→World→Prop} {r:Option Nat} {n:Nat}
    (h:al E ρ st a w) (hk:aops P [dM P E.B ops q o] st K) (hn:∀st' ρ' a' w',K st'→al E ρ' st' a' w'→next a' w'):wpOpIn (cw r) n P ops Q i next a w:=by
 have hd:=lW hf
 have hnd:=gh hf
 unfold wpOpIn
 rw[hi]
 simp only[dM]at hk
 cases hg:o.guard with
 | none=>
  simp only[hg,Option.map_none,aops]at hk
  simp only[Region.wanted,hg,if_true]
  exact ij hnd (oE h hd hk (fun av st' ρ' a' w' h1 h2 _=>hn _ _ _ _ h1 h2))
 | some g=>
  obtain⟨j,want⟩:=g
  simp only[hg,Option.map_some,aops]at hk
  split at hk
  ·rename_i γ hγ
   have hy:=pP h hγ hN
   have hw:Region.wanted o (yielded ops a.tmps)=γ:=by simp only[Region.wanted,hg];exact hy
   simp only[hw]
   cases γ with
   | true=>
    rw[if_pos rfl]
    rcases hk with hk | hk | hk
    ·cases hk.1
    ·exact ij hnd (rL h hd hk.2 (fun av st' ρ' a' w' h1 h2 _=>hn _ _ _ _ h1 h2))
    ·exact ij hnd (rM h hd hk rfl (fun av ρ' a' w' h1 h2 _=>hn _ _ _ _ h1 h2))
   | false=>
    rw[if_neg (by simp)]
    have hk:∃v,K (put st o.dst (.gd false v)):=hk.elim (fun x=>⟨_,x.2⟩) (fun x=>x.elim (fun y=>by cases y.1) oG)
    obtain⟨v,hv⟩:=hk
    exact⟨fun _ _=>trivial,hn _ _ _ _ hv (fe h hd (.gd _ _ _ _ (fun h=>by cases h) (fun _=>rfl)))⟩
  ·exact hk.elim
theorem wF {f:Nat→Option (AT Nat)} {g:Nat→Option bj} {K:Value→St→Prop}:∀(l:List Nat) (T:AT Nat),brL (l.map f)=some T→l≠[]∧∀i∈l,∃Ti,f i=some Ti∧(dieF P (T.fm g) st K→dieF P (Ti.fm g) st K)
 | [],T,h=>by cases h
 | [i],T,h=>by
  refine⟨by simp,fun j hj=>?_⟩
  rw[List.mem_singleton]at hj
  subst hj
  exact⟨T,h,id⟩
 | i::j::r,T,h=>by
  refine⟨by simp,?_⟩
  rw[List.map_cons,List.map_cons,brL.eq_def]at h
  simp only at h
  split at h
  ·rename_i x y hx hy
   cases h
   obtain⟨_,ih⟩:=wF (j::r) y hy
   intro k hk
   rcases List.mem_cons.1 hk with rfl | hk
   ·exact⟨x,hx,fun h=>h.1⟩
   ·obtain⟨Ti,g1,g2⟩:=ih k hk
    exact⟨Ti,g1,fun h=>g2 h.2⟩
  ·cases h
theorem xt (hN:E.N≤1000000) (ops:Array Oper) (hf:∀o∈ops.toList,fits E.N o=true) {Q:Exit→Act→World→Prop} {K:Value→St→Prop} {r:Option Nat} {n:Nat} (hQ:∀V st' a' w',K V st'→Rel E st' a' w'→Q (.panic (bJ V)) a' w') :
    ∀(fuel:Nat) (listed:Array Bool) (T:AT Nat) {ρ:Loc} {st:St} {a:Act} {w:World},lN P ops fuel listed=some T→al E ρ st a w→dieF P (T.fm (dV P E.B ops)) st K→wpAnyIn (cw r) n P .any ops Q fuel listed a w
 | 0,listed,T,ρ,st,a,w,hT,h,hk=>by cases hT
 | f+1,listed,T,ρ,st,a,w,hT,h,hk=>by
  simp only[lN]at hT
  obtain⟨hne,hall⟩:=wF (P:=P) (st:=st) (g:=dV P E.B ops) (K:=K) _ T hT
  refine⟨fun e=>absurd e hne,fun i hi=>?_⟩
  obtain⟨Ti,hTi,hdie⟩:=hall i hi
  have hd:=hdie hk
  split at hTi
  ·rename_i o ho
   have hom:o∈ops.toList:=by
    have:=Array.mem_of_getElem? ho
    simpa using this
   have htr:dV P E.B ops i=some (dM P E.B ops (lX P ops i o) o):=by simp[dV,ho]
   have one:∀T',(T'=.nil∨lN P ops f (listed.setIfInBounds i true)=some T')→dieF P (AT.fm (dV P E.B ops) (.cons i T')) st K →
       wpOpIn (cw r) n P ops Q i (wpAnyIn (cw r) n P .any ops Q f (listed.setIfInBounds i true)) a w:=by
    intro T' hT' hd
    simp only[AT.fm,htr,dieF]at hd
    split at hd
    ·obtain⟨hg,_⟩:=pr (next:=fun _ _=>True) h hd (fun V st' ρ' w' h1 h2=>hQ V st' a w' h1 ⟨ρ',h2⟩)
     unfold wpOpIn
     rw[ho]
     simp only[Region.wanted,hg,if_true]
     exact ij (gh (hf o hom)) (pr h hd (fun V st' ρ' w' h1 h2=>hQ V st' a w' h1 ⟨ρ',h2⟩)).2
    ·refine Ev hN ops ho (hf o hom) h hd (fun st' ρ' a' w' h1 h2=>?_)
     rcases hT' with rfl | hT'
     ·exact h1.elim
     ·exact xt hN ops hf hQ f _ T' hT' h2 h1
   split at hTi
   ·cases hTi
    exact one _ (.inl rfl) hd
   ·split at hTi
    ·obtain⟨T',hT',rfl⟩:=Option.map_eq_some_iff.1 hTi
     exact one _ (.inr hT') hd
    ·cases hTi
  ·cases hTi
theorem BD (hN:E.N≤1000000) {ops:List bj} {code:Code} (hc:trCode P E.N E.B code=.cc ops) {K:St→Prop} {KD:Value→St→Prop} {a:Act} {w:World} (hr:Rel E st a w)
    {Q:Exit→Act→World→Prop} (hQ:∀st' a' w',K st'→Rel E st' a' w'→Q .normal a' w') (hQD:∀V st' a' w',KD V st'→Rel E st' a' w'→Q (.panic (bJ V)) a' w') (hk:kE P ops st K KD) {n:Nat}:code.wpIn (cw E.rd) n P Q a w:=by
 cases code<;>simp only[trCode]at hc<;>first | (cases hc;done) | skip
 ·rename_i id ops' draw
  obtain⟨ρ,hρ⟩:=hr
  obtain⟨hl,rfl⟩:=anc hc
  unfold jZ at hl
  split at hl
  ·rename_i hf
   have hf':∀o∈ops'.toList,fits E.N o=true:=fun o ho=>List.all_eq_true.1 hf o ho
   simp only[Bool.false_eq_true,if_false,Option.some.injEq]at hl
   subst hl
   refine wpIn_region_list ?_
   exact xq hN ops' hQ hQD ops'.toList hf' hρ hk
  ·cases hl
 ·split at hc<;>cases hc
theorem Ek (hN:E.N≤1000000) {p x y:List bj} {T:AT bj} {code:Code} (hc:trCode P E.N E.B code=.iu p x y T) {K:St→Prop} {KD:Value→St→Prop} {a:Act} {w:World} (hr:Rel E st a w)
    {Q:Exit→Act→World→Prop} (hQ:∀st' a' w',K st'→Rel E st' a' w'→Q .normal a' w') (hQD:∀V st' a' w',KD V st'→Rel E st' a' w'→Q (.panic (bJ V)) a' w')
    (hk:(aops P p st fun st'=>aops P x st' K∧aops P y st' K)∨dieF P T st KD) {n:Nat}:code.wpIn (cw E.rd) n P Q a w:=by
 cases code<;>simp only[trCode]at hc<;>first | (cases hc;done) | skip
 ·rename_i id ops' draw
  obtain⟨ρ,hρ⟩:=hr
  obtain⟨hl,rfl,T',hT,rfl⟩:=am8 hc
  unfold nL at hl
  split at hl
  ·rename_i hf
   have hf':∀o∈ops'.toList,fits E.N o=true:=fun o ho=>List.all_eq_true.1 hf o ho
   rw[if_pos rfl]at hl
   split at hl
   ·rename_i hm
    simp only[Bool.and_eq_true]at hm
    have hρ':=hρ.same (w':={w with drawn:=w.drawn+1}) (aM.drew w)
    rcases hk with hk | hk
    ·obtain⟨L,hL,halt⟩:=Option.bind_eq_some_iff.1 hl
     rw[←rJ P _ _ _ _ halt]at hk
     refine wpIn_mono (wpIn_region_any hm.1 (ot (fun o ho=>gh (hf' o ho)) (fun h=>by obtain⟨a,w,h⟩:=h;cases h.1) _ _ _ _ (gU hN ops' hm.2 hf' _ _ L hL hρ' hk))) ?_
     rintro e a' w' ⟨rfl,st',h1,h2⟩
     exact hQ st' a' w' h2 h1
    ·exact wpIn_region_any hm.1 (xt hN ops' hf' hQD _ _ T' hT hρ' hk)
   ·cases hl
  ·cases hl
 ·split at hc<;>cases hc
end
def dQ (P:Program) (f:Nat) (h:HP) (args:List AV) (V:Value):Prop:=
 ∀(X0:Nat→Prop) (ρ:Loc) (w:World) (vs:Array Value),cD X0 ρ h w→il (aV ρ h) w→(∀b,X0 b→b<w.heap.size)→vs.size=args.length →
  (∀(j:Nat) v x,vs[j]?=some v→args[j]?=some x→RV (XX X0 ρ h) w ρ v x) →
  Calls P f vs w fun e w'=>e=.panicked (bJ V)∧w'.os=w.os∧w'.tape=w.tape∧w'.output=w.output∧w.heap.size≤w'.heap.size∧(∀b,b<w.heap.size→¬aV ρ h b→w'.heap[b]?=w.heap[b]?)
def sA (V:Value):Exit→St→Prop:=fun e _=>e=.panic (bJ V)
theorem nZ {fn:Func} {h:HP} {args:List AV} {X0:Nat→Prop} {ρ:Loc} {w:World} {vs:Array Value} {B:Nat} (hN1:fn.ntmps≤1000000) (ha:args.length≤fn.ntmps) (hh:cD X0 ρ h w) (hA:il (aV ρ h) w) (hX:∀b,X0 b→b<w.heap.size) (hvs:vs.size=args.length)
    (hrv:∀(j:Nat) v x,vs[j]?=some v→args[j]?=some x→RV (XX X0 ρ h) w ρ v x) (df:List Deferred) (hdf:df=[]) :
    al ⟨w,aV ρ h,X0,fn.ntmps,B,fun k=>vs.getD (k-2000000) undef,none,w.heap.size,Nat.le_refl _,df⟩ ρ ⟨fG args,h⟩ {tmps:=vs++Array.replicate (fn.ntmps-vs.size) undef,defers:=[]} w:=by
 subst hdf
 refine⟨eK.nil _ _,by simp;omega,fun k av hk=>?_,hh,fun id W L b h1 h2 h3=>.inr ⟨id,W,L,h1,h2,h3⟩,⟨rfl,rfl,rfl,Nat.le_refl _,fun _ _ _=>rfl,hA⟩,hX⟩
 simp only[fG,iU]at hk
 cases h0:sget (numbered 0 args) k with
 | some av0=>
  rw[h0]at hk
  obtain rfl:=Option.some.inj hk
  obtain⟨_,h2⟩:=iV args 0 k _ h0
  have hlt:k<args.length:=(List.getElem?_eq_some_iff.1 h2).1
  have hlt2:k<fn.ntmps:=by omega
  refine⟨.inl hlt2,?_⟩
  have hv:vs[k]?=some (vs[k]'(by omega)):=Array.getElem?_eq_getElem _
  unfold aZ
  rw[if_pos hlt2,Array.getD_eq_getD_getElem?,Array.getElem?_append_left (by omega),hv]
  exact hrv k _ _ hv h2
 | none=>
  rw[h0]at hk
  obtain⟨h1,h2⟩:=iV args 2000000 k av hk
  have hlt:k-2000000<args.length:=(List.getElem?_eq_some_iff.1 h2).1
  refine⟨.inr h1,?_⟩
  have hv:vs[k-2000000]?=some (vs[k-2000000]'(by omega)):=Array.getElem?_eq_getElem _
  unfold aZ
  have hnlt:¬k<fn.ntmps∨k<fn.ntmps:=by omega
  by_cases hlt3:k<fn.ntmps
  ·exact absurd hlt3 (by have:=hN1;omega)
  ·rw[if_neg hlt3]
   simp only[Array.getD_eq_getD_getElem?,hv]
   exact hrv _ _ av hv h2
theorem alR {P:Program} {f:Nat} {fn:Func} {body:Code} {h:HP} {args:List AV} {V:Value} {c:AC} (hf:P.funcs[f]?=some fn) (hb:fn.body=some body) {B:Nat} (hc:trCode P fn.ntmps B body=c)
    (hN:fn.ntmps≤1000000) (ha:args.length≤fn.ntmps) (hp:∀E:Env,E.N=fn.ntmps→E.B=B→E.rd=none→bC P E c ⟨fG args,h⟩ (sA V)):dQ P f h args V:=by
 intro X0 ρ w vs hh hA hX hvs hrv
 refine(callsIn_wide (n:=0)).1 (callsIn_of_wp_marks hf hb trivial (wpIn_mono (hp ⟨w,aV ρ h,X0,fn.ntmps,B,fun k=>vs.getD (k-2000000) undef,none,w.heap.size,Nat.le_refl _,[]⟩ rfl rfl rfl 0 body hc _ w ⟨ρ,nZ hN ha hh hA hX hvs hrv [] rfl⟩) ?_))
 rintro e a' w' ⟨st',⟨ρ',g0⟩,q⟩
 obtain rfl:e=.panic (bJ V):=q
 show LeavesInM Fence.wide 0 P fn a'.tmps _ a'.defers (.panicking (bJ V)) w'
 obtain⟨⟨Ds,hDs⟩,_⟩:=g0.defers
 rw[hDs]
 refine jU (ρ:=ρ') (st:=st') (a:=a') (by simp) (fun w' g=>?_) rfl rfl Ds w' (by rw[←hDs];exact g0)
 exact⟨rfl,g.az.os,g.az.tape,g.az.output,g.az.size,g.az.block⟩
def lB (st:St) (h0:HP):St:=⟨killSI (da h0) [] st.s,dropH (da h0) [] st.h⟩
theorem zG:∀(l:List AV) (n:Nat),keepL2 l (List.replicate n .undef)=[]
 | [],n=>by cases n<;>rfl
 | x::l,0=>by cases x<;>rfl
 | x::l,n+1=>by
  rw[List.replicate_succ]
  have:=zG l n
  cases x<;>simpa[keepL2]using this
theorem vU (s:List (Nat×AV)) (h':HP):∀(l:List AE) (n:Nat),backS s h' l (List.replicate n .undef)=[]
 | [],n=>by cases n<;>rfl
 | x::l,0=>by cases x<;>rfl
 | x::l,n+1=>by
  rw[List.replicate_succ]
  have:=vU s h' l n
  cases x<;>simpa[backS]using this
theorem D6 (st:St) (h0:HP) (args:List AE) (n:Nat):fi st h0 args [] (List.replicate n .undef)=lB st h0:=by
 unfold fi lB
 rw[zG,vU]
 simp[da]
theorem Dy {P:Program} {st:St} {f:Nat} {args:List AE} {V:Value} {K:Value→St→Prop} (h0:HP) (hs:dQ P f h0 (args.map (ev st)) V) (hsub:∀i W,hget h0 i=some W→hget st.h i=some W)
    (hK:K V (lB st h0)):oB P st f args K:=by
 intro E ρ a w vs h hvs hrv
 have hx1:=nG (E:=E) (ρ:=ρ) hsub
 refine(hs (jr E ρ st h0) ρ w vs (vh h hsub) (h.ct.mono fun b ⟨id,W,L,g1,g2,g3⟩=>⟨id,W,L,hsub _ _ g1,g2,g3⟩) (fun b hb=>rG h b (hx1 b (.inl hb))) (by simpa using hvs) (fun j v x e1 e2=>?_)).mono ?_
 ·rw[List.getElem?_map]at e2
  obtain⟨y,g1,rfl⟩:=Option.map_eq_some_iff.1 e2
  exact(hrv j v y e1 g1).1.mono (fun _ _ _=>rfl) (fun b _ hb hx=>hb (hx1 b hx)) _ (fun _ _ h=>h)
 ·rintro e w' ⟨rfl,q1,q2,q3,q4,q5⟩
  obtain⟨ρ2,g1,_⟩:=vg (ρ':=ρ) (h':=[]) (v:=undef) (r:=.undef) (as:=List.replicate args.length .undef) h hvs hrv hsub rfl rfl (np _ _ _) (.undef _ _) (by simp)
   (fun j v x e1 e2=>by rw[List.getElem?_replicate]at e2;split at e2<;>cases e2;exact .undef _ _) q1 q2 q3 q4 q5 (fun b hb=>(gX hb).elim)
  rw[D6]at g1
  exact⟨V,ρ2,_,rfl,g1,hK⟩
def Px (rs:List RVar) (n:Nat) (V:Value) (zA:AV) (Post:HP→AV→List AV→Prop):Exit→St→Prop
 | .normal,st | .ret,st=>∃r,resOf st rs=some r∧Post st.h r (argsAgain st 0 n)
 | .panic ch,st=>ch=bJ V∧∃id c,sget st.s (2000000+n)=some (.ab id 0)∧hget st.h id=some (.var [c]) ∧
     ∃r,resOf ⟨st.s,bz st.h id (.var [zA])⟩ rs=some r∧Post (bz st.h id (.var [zA])) r (argsAgain ⟨st.s,bz st.h id (.var [zA])⟩ 0 n)
 | _,_=>False
theorem CF {P:Program} {N B:Nat} {c:Code} {x y:AC} (h:trCode P N B c=.seq x y):∃a b,c=.seq a b∧trCode P N B a=x∧trCode P N B b=y:=by
 have hc:=h
 cases c<;>simp only[trCode]at hc<;>first | (cases hc;done) | (exact Bool.noConfusion (show false=true from eA hc)) | (split at hc<;>cases hc;done) | skip
 injection hc with h1 h2
 exact⟨_,_,rfl,h1,h2⟩
theorem am4 (x:Operand) (l:List AV):trE x≠.c (.ai l):=by
 cases x with
 | tmp t=>simp only[trE];split<;>(intro h;cases h)
 | const v=>
  intro h
  simp only[trE,AE.c.injEq]at h
  unfold constAV at h
  split at h
  ·cases h
  ·unfold constC at h
   split at h<;>cases h
 | func f=>intro h;simp only[trE]at h;cases h
 | global g=>intro h;simp only[trE]at h;cases h
theorem am2 {P:Program} {N B:Nat} {c:Code} {g:Nat} {args:List AE} (h:trCode P N B c=.eo g args):∃id ops draw,c=.region id ops draw∧dfrOf P ops draw=some (g,args):=by
 have hc:=h
 cases c<;>simp only[trCode]at hc<;>first | (cases hc;done) | skip
 ·rename_i id ops draw
  exact⟨id,ops,draw,rfl,ana hc⟩
 ·split at hc<;>cases hc
theorem am3 {P:Program} {N B:Nat} {c:Code} {g d:Nat} {caps:List AE} (h:trCode P N B c=.eo g (.c (.ai [.int .i64 (d:Int)])::caps)) :
    ∃id ops draw o1 o2 cap cl,c=.region id ops draw∧ops.toList=[o1,o2]∧o1.op=.makeFunc (.func g) #[] cap∧o1.guard=none∧o1.dst=some d∧o2.op=.defer cl∧o2.guard=none∧o2.dst=none ∧
     cl.callee=.value (.tmp d)∧cl.args=#[]∧callable P g=true∧caps=cap.toList.map trE ∧
     (draw=true→P.follows .mixedOrders=true∧Region.ready .any ops #[false,false]=[0]∧Region.ready .any ops #[true,false]=[1]∧Region.ready .any ops #[true,true]=[]):=by
 obtain⟨id,ops,draw,rfl,hd⟩:=am2 h
 unfold dfrOf at hd
 split at hd
 ·rename_i o ho
  split at hd
  ·rename_i cl h1 h2 h3
   split at hd
   ·split at hd
    ·simp only[Option.some.injEq,Prod.mk.injEq]at hd
     have h2:=hd.2
     cases hc:cl.args.toList with
     | nil=>rw[hc]at h2;cases h2
     | cons x r=>
      rw[hc]at h2
      simp only[List.map_cons,List.cons.injEq]at h2
      exact(am4 x _ h2.1).elim
    ·cases hd
   ·cases hd
  ·cases hd
 ·rename_i draw' o1 o2 ho
  split at hd
  ·rename_i f first cap d cl h1 h2 h3 h4 h5 h6
   split at hd
   ·rename_i d' hcal hargs
    split at hd
    ·rename_i hcond
     simp only[Option.some.injEq,Prod.mk.injEq,List.cons.injEq,AE.c.injEq,AV.ai.injEq,AV.int.injEq,true_and,and_true]at hd
     obtain⟨rfl,hdd,rfl⟩:=hd
     obtain rfl:=Int.ofNat.inj hdd
     simp only[Bool.and_eq_true,beq_iff_eq,Bool.or_eq_true,Bool.not_eq_true']at hcond
     obtain⟨⟨⟨c1,c2⟩,c3⟩,c4⟩:=hcond
     subst c1
     have hf:first=#[]:=by simpa using c2
     subst hf
     refine⟨id,ops,_,o1,o2,cap,cl,rfl,ho,h1,h2,h3,h4,h5,h6,hcal,by simpa using hargs,c3,rfl,fun hdr=>?_⟩
     rcases c4 with c4 | c4
     ·rw[hdr]at c4;cases c4
     ·exact⟨c4.1.1.1.1,c4.1.1.2,c4.1.2,c4.2⟩
    ·cases hd
   ·cases hd
  ·cases hd
 ·cases hd
theorem al.df {E E':Env} {ρ:Loc} {st:St} {a:Act} {w:World} {ds:List Deferred} (h:al E ρ st a w) (e1:E'.w0=E.w0) (e2:E'.F=E.F) (e3:E'.X0=E.X0) (e4:E'.N=E.N) (e5:E'.gv=E.gv) (hd:eK E'.dn E'.df ds w) :
    al E' ρ st {a with defers:=ds} w:=by
 obtain⟨w0,F,X0,N,B,gv,rd,dn,ta,df⟩:=E
 obtain⟨w0',F',X0',N',B',gv',rd',dn',hdn',df'⟩:=E'
 simp only at e1 e2 e3 e4 e5
 subst e1;subst e2;subst e3;subst e4;subst e5
 exact⟨hd,h.size,fun k av hk=>⟨(h.aU k av hk).1,(h.aU k av hk).2⟩,h.heap,h.base,⟨h.az.os,h.az.tape,h.az.output,h.az.size,h.az.block,h.az.ct⟩,h.x0⟩
end Go.Proofs.YtoalcafkffmiiaaGreatDoor.Eng
