/- The proof, part 9 of 32. -/
import Derived.Test.YthmkimlfnkghmaaGreatDoorOdbUniqueF
import Derived.RecoverIn
set_option linter.all false
namespace Go.Proofs.YthmkimlfnkghmaaGreatDoor.Eng
section
variable {P:Program} {E:Env} {ρ:Loc} {st:St} {a:Act} {w:World}
def pan (V:Value):List PanicEntry:=[{v:=V,recovered:=false}]
def acallDie (P:Program) (st:St) (f:Nat) (args:List AE) (K:Value→St→Prop):Prop:=
 ∀(E:Env) (ρ:Loc) (a:Act) (w:World) (vs:Array Value),RelAt E ρ st a w→vs.size=args.length →
  (∀(j:Nat) v x,vs[j]?=some v→args[j]?=some x→RV (XX E.X0 ρ st.h) w ρ v (ev st x)∧∀k,x=.t k→k<2000000∧v=a.tmps.getD k undef) →
  Calls P f vs w fun e w'=>∃V ρ' st',e=.panicked (pan V)∧RelAt E ρ' st' a w'∧K V st'
def dieOp (P:Program) (o:AOp) (st:St) (K:Value→St→Prop):Prop:=
 match o with
 | ⟨_,none,_,_,.call f args⟩=>acallDie P st f args K
 | ⟨_,none,_,_,.pnc x⟩=>∃t v,ev st x=.lit (.iface t v)∧K (.iface t v) st
 | _=>False
def dieL (P:Program):List AOp→St→(St→Prop)→(Value→St→Prop)→Prop
 | [],st,K,_=>K st
 | o::r,st,K,KD=>dieOp P o st KD∨aops P [o] st fun st'=>dieL P r st' K KD
def dieA (o:AOp):Bool:=
 match o.o with
 | .call f _=>dieFns.contains f
 | _=>false
def dieF (P:Program):AT AOp→St→(Value→St→Prop)→Prop
 | .nil,_,_=>False
 | .cons o t,st,K=>if dieA o then dieOp P o st K else aops P [o] st fun st'=>dieF P t st' K
 | .br x y,st,K=>dieF P x st K∧dieF P y st K
theorem trOp_pnc {o:Oper} {x:AE} (h:trOp P o=.pnc x):∃y,o.op=.panic y∧x=trE y:=by
 have h1:∀(op:BinOp) t u v,trEq P t op u v=.pnc x→False:=by
  intro op t u v h
  unfold trEq at h
  split at h<;>cases h
 have h2:∀s d u,trConv P s d u=.pnc x→False:=by
  intro s d u h
  unfold trConv at h
  (repeat' (first | (cases h;done) | split at h))
 have h3:∀c,trCall P c=.pnc x→False:=by
  intro c h
  unfold trCall at h
  (repeat' (first | (cases h;done) | split at h))
 unfold trOp at h
 split at h
 all_goals first | (exact⟨_,by assumption,(AO.pnc.inj h).symm⟩) | (exfalso;exact h3 _ h) | (exfalso;exact h2 _ _ _ h) | (exfalso;(repeat' (first | (cases h;done) | exact h1 _ _ _ _ h | split at h)))
theorem dieOp_sound {B:Nat} {ops:Array Oper} {q:Bool} {o:Oper} (h:RelAt E ρ st a w) {K:Value→St→Prop} (hk:dieOp P (trO P B ops q o) st K) {next:Act→World→Prop} {Q:Exit→Act→World→Prop}
    (hQ:∀V st' ρ' w',K V st'→RelAt E ρ' st' a w'→Q (.panic (pan V)) a w'):o.guard=none∧o.wp P a w next Q:=by
 unfold trO at hk
 cases hg:o.guard with
 | some g=>rw[hg]at hk;exact hk.elim
 | none=>
  rw[hg]at hk
  refine⟨rfl,?_⟩
  unfold dieOp at hk
  split at hk
  ·rename_i f args heq
   simp only[Option.map_none,AOp.mk.injEq,true_and]at heq
   obtain⟨_,_,_,ho⟩:=heq
   obtain⟨vs,h1,h2,h3⟩:=call_run ho a w
   unfold Oper.wp
   rw[h1,Oper.upon_enter]
   refine(hk E ρ a w vs h h2 (fun j v x e1 e2=>?_)).mono ?_
   ·obtain⟨y,rfl,rfl⟩:=h3 j v x e1 e2
    exact⟨evalRV h y,fun k hk=>evalT y hk⟩
   ·rintro e w' ⟨V,ρ',st',rfl,g1,g2⟩
    exact hQ V st' ρ' w' g2 g1
  ·rename_i x heq
   simp only[Option.map_none,AOp.mk.injEq,true_and]at heq
   obtain⟨_,_,_,ho⟩:=heq
   obtain⟨y,hy,rfl⟩:=trOp_pnc ho
   obtain⟨t,v,h1,h2⟩:=hk
   have h3:=evalRV h y
   rw[h1]at h3
   have h4:a.eval y=.iface t v:=by
    generalize a.eval y=z at h3
    cases h3;rfl
   unfold Oper.wp
   have:(execOp a.eval o).run P w=.halt (.panic (.iface t v)) w:=by
    simp[execOp,hy,h4,Instr.panic,goPanic]
   rw[this]
   exact hQ _ _ ρ w h2 h
  ·exact hk.elim
theorem dieL_sound (hN:E.N≤1000000) (ops:Array Oper) {Q:Exit→Act→World→Prop} {KN:St→Prop} {K:Value→St→Prop} {r:Option Nat} {n:Nat} (hQN:∀st' a' w',KN st'→Rel E st' a' w'→Q .normal a' w')
    (hQ:∀V st' a' w',K V st'→Rel E st' a' w'→Q (.panic (pan V)) a' w') :
    ∀(l:List Oper) {ρ:Loc} {st:St} {a:Act} {w:World},(∀o∈l,fits E.N o=true)→RelAt E ρ st a w→dieL P (l.map (trO P E.B ops false)) st KN K→wpListIn (rdF r) n P ops Q l a w
 | [],ρ,st,a,w,_,h,hk=>hQN st a w hk ⟨ρ,h⟩
 | o::l,ρ,st,a,w,hf,h,hk=>by
  rcases hk with hk | hk
  ·obtain⟨hg,_⟩:=dieOp_sound (next:=fun _ _=>True) h hk (fun V st' ρ' w' h1 h2=>hQ V st' a w' h1 ⟨ρ',h2⟩)
   exact wpListIn_plain hg (fun next hnext=>wp_in (fits_nd (hf o (List.mem_cons_self ..))) (dieOp_sound (next:=next) h hk (fun V st' ρ' w' h1 h2=>hQ V st' a w' h1 ⟨ρ',h2⟩)).2)
  ·exact aops_sound hN ops l (K:=fun st'=>dieL P (l.map (trO P E.B ops false)) st' KN K) (fun st' a' w' h1 ⟨ρ',h2⟩=>dieL_sound hN ops hQN hQ l (fun x hx=>hf x (List.mem_cons_of_mem _ hx)) h2 h1)
    [o] (fun x hx=>hf x (by rw[List.mem_singleton.1 hx];exact List.mem_cons_self ..)) h hk
theorem aop_one (hN:E.N≤1000000) (ops:Array Oper) {o:Oper} {q:Bool} {i:Nat} (hi:ops[i]?=some o) (hf:fits E.N o=true) {K:St→Prop} {next:Act→World→Prop} {Q:Exit→Act→World→Prop} {r:Option Nat} {n:Nat}
    (h:RelAt E ρ st a w) (hk:aops P [trO P E.B ops q o] st K) (hn:∀st' ρ' a' w',K st'→RelAt E ρ' st' a' w'→next a' w'):wpOpIn (rdF r) n P ops Q i next a w:=by
 have hd:=fits_lt hf
 have hnd:=fits_nd hf
 unfold wpOpIn
 rw[hi]
 simp only[trO]at hk
 cases hg:o.guard with
 | none=>
  simp only[hg,Option.map_none,aops]at hk
  simp only[Region.wanted,hg,if_true]
  exact wp_in hnd (aop1_sound h hd hk (fun av st' ρ' a' w' h1 h2 _=>hn _ _ _ _ h1 h2))
 | some g=>
  obtain⟨j,want⟩:=g
  simp only[hg,Option.map_some,aops]at hk
  split at hk
  ·rename_i γ hγ
   have hy:=grd_sound h hγ hN
   have hw:Region.wanted o (yielded ops a.tmps)=γ:=by simp only[Region.wanted,hg];exact hy
   simp only[hw]
   cases γ with
   | true=>
    rw[if_pos rfl]
    rcases hk with hk | hk | hk
    ·cases hk.1
    ·exact wp_in hnd (aop1_soundG h hd hk.2 (fun av st' ρ' a' w' h1 h2 _=>hn _ _ _ _ h1 h2))
    ·exact wp_in hnd (aopG_sound h hd hk rfl (fun av ρ' a' w' h1 h2 _=>hn _ _ _ _ h1 h2))
   | false=>
    rw[if_neg (by simp)]
    have hk:∃v,K (put st o.dst (.gd false v)):=hk.elim (fun x=>⟨_,x.2⟩) (fun x=>x.elim (fun y=>by cases y.1) aopG_ex)
    obtain⟨v,hv⟩:=hk
    exact⟨fun _ _=>trivial,hn _ _ _ _ hv (relAt_put h hd (.gd _ _ _ _ (fun h=>by cases h) (fun _=>rfl)))⟩
  ·exact hk.elim
theorem brL_mem {f:Nat→Option (AT Nat)} {g:Nat→Option AOp} {K:Value→St→Prop}:∀(l:List Nat) (T:AT Nat),brL (l.map f)=some T→l≠[]∧∀i∈l,∃Ti,f i=some Ti∧(dieF P (T.fm g) st K→dieF P (Ti.fm g) st K)
 | [],T,h=>by cases h
 | [i],T,h=>by
  refine⟨by simp,fun j hj=>?_⟩
  rw[List.mem_singleton]at hj
  subst hj
  exact⟨T,h,id⟩
 | i::j::r,T,h=>by
  refine⟨by simp,?_⟩
  rw[List.map_cons,List.map_cons,brL.eq_def]at h
  simp only at h
  split at h
  ·rename_i x y hx hy
   cases h
   obtain⟨_,ih⟩:=brL_mem (j::r) y hy
   intro k hk
   rcases List.mem_cons.1 hk with rfl | hk
   ·exact⟨x,hx,fun h=>h.1⟩
   ·obtain⟨Ti,g1,g2⟩:=ih k hk
    exact⟨Ti,g1,fun h=>g2 h.2⟩
  ·cases h
theorem dieT_sound (hN:E.N≤1000000) (ops:Array Oper) (hf:∀o∈ops.toList,fits E.N o=true) {Q:Exit→Act→World→Prop} {K:Value→St→Prop} {r:Option Nat} {n:Nat} (hQ:∀V st' a' w',K V st'→Rel E st' a' w'→Q (.panic (pan V)) a' w') :
    ∀(fuel:Nat) (listed:Array Bool) (T:AT Nat) {ρ:Loc} {st:St} {a:Act} {w:World},dieT P ops fuel listed=some T→RelAt E ρ st a w→dieF P (T.fm (trI P E.B ops)) st K→wpAnyIn (rdF r) n P .any ops Q fuel listed a w
 | 0,listed,T,ρ,st,a,w,hT,h,hk=>by cases hT
 | f+1,listed,T,ρ,st,a,w,hT,h,hk=>by
  simp only[dieT]at hT
  obtain⟨hne,hall⟩:=brL_mem (P:=P) (st:=st) (g:=trI P E.B ops) (K:=K) _ T hT
  refine⟨fun e=>absurd e hne,fun i hi=>?_⟩
  obtain⟨Ti,hTi,hdie⟩:=hall i hi
  have hd:=hdie hk
  split at hTi
  ·rename_i o ho
   have hom:o∈ops.toList:=by
    have:=Array.mem_of_getElem? ho
    simpa using this
   have htr:trI P E.B ops i=some (trO P E.B ops (flagQ P ops i o) o):=by simp[trI,ho]
   have one:∀T',(T'=.nil∨dieT P ops f (listed.setIfInBounds i true)=some T')→dieF P (AT.fm (trI P E.B ops) (.cons i T')) st K →
       wpOpIn (rdF r) n P ops Q i (wpAnyIn (rdF r) n P .any ops Q f (listed.setIfInBounds i true)) a w:=by
    intro T' hT' hd
    simp only[AT.fm,htr,dieF]at hd
    split at hd
    ·obtain⟨hg,_⟩:=dieOp_sound (next:=fun _ _=>True) h hd (fun V st' ρ' w' h1 h2=>hQ V st' a w' h1 ⟨ρ',h2⟩)
     unfold wpOpIn
     rw[ho]
     simp only[Region.wanted,hg,if_true]
     exact wp_in (fits_nd (hf o hom)) (dieOp_sound h hd (fun V st' ρ' w' h1 h2=>hQ V st' a w' h1 ⟨ρ',h2⟩)).2
    ·refine aop_one hN ops ho (hf o hom) h hd (fun st' ρ' a' w' h1 h2=>?_)
     rcases hT' with rfl | hT'
     ·exact h1.elim
     ·exact dieT_sound hN ops hf hQ f _ T' hT' h2 h1
   split at hTi
   ·cases hTi
    exact one _ (.inl rfl) hd
   ·split at hTi
    ·obtain⟨T',hT',rfl⟩:=Option.map_eq_some_iff.1 hTi
     exact one _ (.inr hT') hd
    ·cases hTi
  ·cases hTi
theorem regD_wp (hN:E.N≤1000000) {ops:List AOp} {code:Code} (hc:trCode P E.N E.B code=.regD ops) {K:St→Prop} {KD:Value→St→Prop} {a:Act} {w:World} (hr:Rel E st a w)
    {Q:Exit→Act→World→Prop} (hQ:∀st' a' w',K st'→Rel E st' a' w'→Q .normal a' w') (hQD:∀V st' a' w',KD V st'→Rel E st' a' w'→Q (.panic (pan V)) a' w') (hk:dieL P ops st K KD) {n:Nat}:code.wpIn (rdF E.rd) n P Q a w:=by
 cases code<;>simp only[trCode]at hc<;>first | (cases hc;done) | skip
 ·rename_i id ops' draw
  obtain⟨ρ,hρ⟩:=hr
  obtain⟨hl,rfl⟩:=trReg_regD hc
  unfold regOps at hl
  split at hl
  ·rename_i hf
   have hf':∀o∈ops'.toList,fits E.N o=true:=fun o ho=>List.all_eq_true.1 hf o ho
   simp only[Bool.false_eq_true,if_false,Option.some.injEq]at hl
   subst hl
   refine wpIn_region_list ?_
   exact dieL_sound hN ops' hQ hQD ops'.toList hf' hρ hk
  ·cases hl
 ·split at hc<;>cases hc
theorem altD_wp (hN:E.N≤1000000) {p x y:List AOp} {T:AT AOp} {code:Code} (hc:trCode P E.N E.B code=.altD p x y T) {K:St→Prop} {KD:Value→St→Prop} {a:Act} {w:World} (hr:Rel E st a w)
    {Q:Exit→Act→World→Prop} (hQ:∀st' a' w',K st'→Rel E st' a' w'→Q .normal a' w') (hQD:∀V st' a' w',KD V st'→Rel E st' a' w'→Q (.panic (pan V)) a' w')
    (hk:(aops P p st fun st'=>aops P x st' K∧aops P y st' K)∨dieF P T st KD) {n:Nat}:code.wpIn (rdF E.rd) n P Q a w:=by
 cases code<;>simp only[trCode]at hc<;>first | (cases hc;done) | skip
 ·rename_i id ops' draw
  obtain⟨ρ,hρ⟩:=hr
  obtain⟨hl,rfl,T',hT,rfl⟩:=trReg_altD hc
  unfold regAlt at hl
  split at hl
  ·rename_i hf
   have hf':∀o∈ops'.toList,fits E.N o=true:=fun o ho=>List.all_eq_true.1 hf o ho
   rw[if_pos rfl]at hl
   split at hl
   ·rename_i hm
    simp only[Bool.and_eq_true]at hm
    have hρ':=hρ.same (w':={w with drawn:=w.drawn+1}) (Same.drew w)
    rcases hk with hk | hk
    ·obtain⟨L,hL,halt⟩:=Option.bind_eq_some_iff.1 hl
     rw[←alt_eq P _ _ _ _ halt]at hk
     refine wpIn_mono (wpIn_region_any hm.1 (wpAnyIn_of_R (fun o ho=>fits_nd (hf' o ho)) (fun h=>by obtain⟨a,w,h⟩:=h;cases h.1) _ _ _ _ (lin_sound hN ops' hm.2 hf' _ _ L hL hρ' hk))) ?_
     rintro e a' w' ⟨rfl,st',h1,h2⟩
     exact hQ st' a' w' h2 h1
    ·exact wpIn_region_any hm.1 (dieT_sound hN ops' hf' hQD _ _ T' hT hρ' hk)
   ·cases hl
  ·cases hl
 ·split at hc<;>cases hc
end
def dieQ (V:Value):Exit→St→Prop:=fun e _=>e=.panic (pan V)
def afterD (st:St) (h0:HP):St:=⟨killSI (namesH h0) [] st.s,dropH (namesH h0) [] st.h⟩
def guardQ (rs:List RVar) (n:Nat) (V:Value) (zA:AV) (Post:HP→AV→List AV→Prop):Exit→St→Prop
 | .normal,st | .ret,st=>∃r,resOf st rs=some r∧Post st.h r (argsAgain st 0 n)
 | .panic ch,st=>ch=pan V∧∃id c,sget st.s (2000000+n)=some (.vptr id 0)∧hget st.h id=some (.var [c]) ∧
     ∃r,resOf ⟨st.s,hset st.h id (.var [zA])⟩ rs=some r∧Post (hset st.h id (.var [zA])) r (argsAgain ⟨st.s,hset st.h id (.var [zA])⟩ 0 n)
 | _,_=>False
theorem RelAt.df {E E':Env} {ρ:Loc} {st:St} {a:Act} {w:World} {ds:List Deferred} (h:RelAt E ρ st a w) (e1:E'.w0=E.w0) (e2:E'.F=E.F) (e3:E'.X0=E.X0) (e4:E'.N=E.N) (e5:E'.gv=E.gv) (hd:DfOK E'.dn E'.df ds w) :
    RelAt E' ρ st {a with defers:=ds} w:=by
 obtain⟨w0,F,X0,N,B,gv,rd,dn,hdn,df⟩:=E
 obtain⟨w0',F',X0',N',B',gv',rd',dn',hdn',df'⟩:=E'
 simp only at e1 e2 e3 e4 e5
 subst e1;subst e2;subst e3;subst e4;subst e5
 exact⟨hd,h.size,fun k av hk=>⟨(h.slots k av hk).1,(h.slots k av hk).2⟩,h.heap,h.base,⟨h.frm.os,h.frm.tape,h.frm.output,h.frm.size,h.frm.block,h.frm.amb⟩,h.x0⟩
end Go.Proofs.YthmkimlfnkghmaaGreatDoor.Eng
