/- The proof, part 2 of 51. -/
import Derived.Test.YtgghhaahnpbnmaaGreatDoorCartularyWalksA
import Derived.WalkKit
import Derived.WalkSpells
import Derived.WalkLawsBesides
import Derived.Deep.LoopGhost
set_option linter.all false
namespace Go.Proofs.YtgghhaahnpbnmaaGreatDoor.Eng
inductive AV where
 | undef
 | bool (b:Bool)
 | int (k:IntKind) (n:Int)
 | fl (k:FloatKind) (b:Nat)
 | cx (k:FloatKind) (re im:Nat)
 | str (s:List UInt8)
 | lit (x:Value)
 | an
 | ro (sz:Nat) (es:List AV)
 | ao (x:AV)
 | sl (id off n:Nat)
 | ptr (id i f:Nat)
 | aa (id f:Nat)
 | aA (f:Nat) (cs:List AV)
 | agg (cs:List AV)
 | ab (vs:List AV)
 | gd (b:Bool) (x:AV)
 deriving Inhabited
def cellsOf:AV->List AV
 | .agg cs=>cs
 | x=>[x]
def flat (es:List AV):List AV:=es.flatMap cellsOf
def isCell:AV->Bool
 | .bool _ | .int _ _ | .fl _ _ | .cx _ _ _ | .str _ | .an | .ro _ _ | .ao _ | .sl _ _ _ | .ptr _ _ _ | .aa _ _=>true
 | .lit x=>x.oneCell'
 | _=>false
structure LW where
 b:Option Nat
 o:Nat
 sz:Nat
 fh:Nat
 cap:Nat
abbrev Loc:=Nat->Option LW
def aW:Loc:=λ_=>none
inductive RV (X:Nat->Prop) (w:World):Loc->Value->AV->Prop
 | undef (ρ:Loc) (v:Value):RV X w ρ v .undef
 | bool (ρ:Loc) (b:Bool):RV X w ρ (.bool b) (.bool b)
 | int (ρ:Loc) (k:IntKind) (n:Int):RV X w ρ (.int k n) (.int k n)
 | fl (ρ:Loc) (k:FloatKind) (b:Nat):RV X w ρ (.float k b) (.fl k b)
 | cx (ρ:Loc) (k:FloatKind) (re im:Nat):RV X w ρ (.complex k re im) (.cx k re im)
 | str (ρ:Loc) (s:List UInt8):RV X w ρ (.string ⟨s.toArray⟩) (.str s)
 | lit (ρ:Loc) (x:Value):RV X w ρ x (.lit x)
 | an (ρ:Loc):RV X w ρ (.slice none 0 0) .an
 | ro (ρ:Loc) (A:Option Addr) (c sz:Nat) (es:List AV) (vs:List Value) (hc:es.length<=c)
     (au:∀e∈es,(cellsOf e).length=sz) (hlen:vs.length=(flat es).length)
     (hcell:∀j,j<vs.length->∃ad,A=some ad/\ad.spot=none/\¬X ad.block/\w.cell? (ad.add j)=vs[j]?)
     (hrel:∀(j:Nat) v a,vs[j]?=some v->(flat es)[j]?=some a->RV X w aW v a):RV X w ρ (.slice A es.length c) (.ro sz es)
 | ao (ρ:Loc) (ad:Addr) (x:AV) (vs:List Value) (hsp:ad.spot=none) (hlen:vs.length=(cellsOf x).length)
     (hcell:∀j,j<vs.length->¬X ad.block/\w.cell? (ad.add j)=vs[j]?)
     (hrel:∀(j:Nat) v a,vs[j]?=some v->(cellsOf x)[j]?=some a->RV X w aW v a):RV X w ρ (.pointer (some ad)) (.ao x)
 | sl (ρ:Loc) (id off n c:Nat) (L:LW) (A:Option Addr) (hL:ρ id=some L) (h1:off+n<=L.fh) (h2:n<=c) (h3:off+c<=L.cap)
     (hA:c=0\/A=L.b.map λb=>⟨b,L.o+off*L.sz,none⟩):RV X w ρ (.slice A n c) (.sl id off n)
 | ptr (ρ:Loc) (id i f:Nat) (L:LW) (b:Nat) (hL:ρ id=some L) (hb:L.b=some b) (hi:i<L.fh) (hf:f<L.sz) :
     RV X w ρ (.pointer (some ⟨b,L.o+i*L.sz+f,none⟩)) (.ptr id i f)
 | aa (ρ:Loc) (id f:Nat) (L:LW) (b:Nat) (hL:ρ id=some L) (hb:L.b=some b) :
     RV X w ρ (.pointer (some ⟨b,L.o+f,none⟩)) (.aa id f)
 | dk (ρ:Loc) (id:Nat) (L:LW) (b:Nat) (hL:ρ id=some L) (hb:L.b=some b) (hm:L.cap<L.fh) (hz:L.sz=0):RV X w ρ (.map (some b)) (.ptr id 0 0)
 | agg (ρ:Loc) (vs:Array Value) (cs:List AV) (hlen:vs.size=cs.length)
     (hrel:∀(j:Nat) v a,vs[j]?=some v->cs[j]?=some a->RV X w ρ v a):RV X w ρ (.agg vs) (.agg cs)
 | ab (ρ:Loc) (vs:Array Value) (cs:List AV) (hlen:vs.size=cs.length)
     (hrel:∀(j:Nat) v a,vs[j]?=some v->cs[j]?=some a->RV X w ρ v a):RV X w ρ (.tuple vs) (.ab cs)
 | aA (ρ:Loc) (f:Nat) (vs:Array Value) (cs:List AV) (hlen:vs.size=cs.length)
     (hrel:∀(j:Nat) v a,vs[j]?=some v->cs[j]?=some a->RV X w ρ v a):RV X w ρ (.func (.func f) #[] vs) (.aA f cs)
 | gd (ρ:Loc) (b:Bool) (x:AV) (v:Value) (h:b=true->RV X w ρ v x) (h':b=false->v=Go.undef):RV X w ρ v (.gd b x)
theorem sC {w:World} {a:Addr} {v:Value} (h:w.cell? a=some v):a.block<w.heap.size:=World.block_lt_of_cell? w a h
theorem block_add (a:Addr) (n:Nat):(a.add n).block=a.block:=by unfold Addr.add;split<;>rfl
theorem rC (a:Addr) (n:Nat) (h:a.spot=none):(a.add n).spot=none:=by unfold Addr.add;split<;>simp_all
theorem add_eq (a:Addr) (n:Nat) (h:a.spot=none):a.add n=⟨a.block,a.off+n,none⟩:=by
 unfold Addr.add;split
 ·rename_i h0;subst h0;cases a;simp_all
 ·simp
theorem add_add (a:Addr) (m n:Nat) (h:a.spot=none):(a.add m).add n=a.add (m+n):=by
 rw[add_eq a m h,add_eq a (m+n) h,add_eq _ n rfl,adC]
theorem p5 {w w':World} {a:Addr} (h:w'.heap[a.block]?=w.heap[a.block]?):w'.cell? a=w.cell? a:=World.cell?_of_block h
theorem RV.mono {X X':Nat->Prop} {w w':World} {ρ:Loc} {v:Value} {a:AV} (h:RV X w ρ v a)
    (hw:∀b,¬X b->b<w.heap.size->w'.heap[b]?=w.heap[b]?) (hX:∀b,b<w.heap.size->¬X b->¬X' b) :
    ∀ρ',(∀id L,ρ id=some L->ρ' id=some L)->RV X' w' ρ' v a:=by
 induction h with
 | undef ρ v=>intro ρ' _;exact .undef _ _
 | bool ρ b=>intro ρ' _;exact .bool _ _
 | int ρ k n=>intro ρ' _;exact .int _ _ _
 | fl ρ k b=>intro ρ' _;exact .fl _ _ _
 | cx ρ k re im=>intro ρ' _;exact .cx _ _ _ _
 | str ρ s=>intro ρ' _;exact .str _ _
 | lit ρ x=>intro ρ' _;exact .lit _ _
 | an ρ=>intro ρ' _;exact .an _
 | ro ρ A c sz es vs hc au hlen hcell hrel ih=>
  intro ρ' _;refine .ro _ _ _ _ _ vs hc au hlen (λj hj=>?_) (λj v a h1 h2=>ih j v a h1 h2 aW (λ_ _ h=>by simp[aW]at h));obtain⟨ad,h1,h2,h3,h4⟩:=hcell j hj;have hv:w.cell? (ad.add j)=some vs[j]:=by rw[h4];exact List.getElem?_eq_getElem hj
  have hlt:=sC hv;rw[block_add]at hlt
  exact⟨ad,h1,h2,hX _ hlt h3,(p5 (w:=w) (by rw[block_add];exact hw _ h3 hlt)).trans h4⟩
 | ao ρ ad x vs hsp hlen hcell hrel ih=>
  intro ρ' _;refine .ao _ _ _ vs hsp hlen (λj hj=>?_) (λj v a h1 h2=>ih j v a h1 h2 aW (λ_ _ h=>by simp[aW]at h));obtain⟨h3,h4⟩:=hcell j hj;have hv:w.cell? (ad.add j)=some vs[j]:=by rw[h4];exact List.getElem?_eq_getElem hj
  have hlt:=sC hv;rw[block_add]at hlt
  exact⟨hX _ hlt h3,(p5 (w:=w) (by rw[block_add];exact hw _ h3 hlt)).trans h4⟩
 | sl ρ id off n c L A hL h1 h2 h3 hA=>intro ρ' hρ;exact .sl _ _ _ _ _ L A (hρ _ _ hL) h1 h2 h3 hA
 | ptr ρ id i f L b hL hb hi hf=>intro ρ' hρ;exact .ptr _ _ _ _ L b (hρ _ _ hL) hb hi hf
 | aa ρ id f L b hL hb=>intro ρ' hρ;exact .aa _ _ _ L b (hρ _ _ hL) hb
 | dk ρ id L b hL hb hm hz=>intro ρ' hρ;exact .dk _ _ L b (hρ _ _ hL) hb hm hz
 | agg ρ vs cs hlen hrel ih=>intro ρ' hρ;exact .agg _ _ _ hlen (λj v a h1 h2=>ih j v a h1 h2 ρ' hρ)
 | ab ρ vs cs hlen hrel ih=>intro ρ' hρ;exact .ab _ _ _ hlen (λj v a h1 h2=>ih j v a h1 h2 ρ' hρ)
 | aA ρ f vs cs hlen hrel ih=>intro ρ' hρ;exact .aA _ _ _ _ hlen (λj v a h1 h2=>ih j v a h1 h2 ρ' hρ)
 | gd ρ b x v h h' ih=>intro ρ' hρ;exact .gd _ _ _ _ (λhb=>ih hb ρ' hρ) h'
inductive MK where
 | s (b:List UInt8)
 | i (k:IntKind) (n:Int)
 deriving DecidableEq
def MK.val:MK->Value
 | .s b=>.string ⟨b.toArray⟩
 | .i k n=>.int k n
def MK.ok:Option IntKind->MK->Prop
 | none,.s _=>True
 | some k,.i k' _=>k'=k
 | _,_=>False
inductive aC where
 | arr (sz:Nat) (es:List AV)
 | var (cs:List AV)
 | mp (kd:Option IntKind) (l:List (MK×AV))
structure St where
 s:List (Nat×AV)
 h:List (Nat×aC)
def sget:List (Nat×AV)->Nat->Option AV
 | [],_=>none
 | (k,v)::r,i=>if i=k then some v else sget r i
def hget:List (Nat×aC)->Nat->Option aC
 | [],_=>none
 | (k,v)::r,i=>if i=k then some v else hget r i
def hdel (id:Nat):List (Nat×aC)->List (Nat×aC)
 | []=>[]
 | (k,v)::r=>if id=k then hdel id r else(k,v)::hdel id r
def bo (h:List (Nat×aC)) (id:Nat) (W:aC):List (Nat×aC):=(id,W)::hdel id h
theorem jv (id j:Nat):∀h,hget (hdel id h) j=if j=id then none else hget h j
 | []=>by simp[hdel,hget]
 | (k,v)::r=>by
  unfold hdel;by_cases hk:id=k
  ·subst hk;simp only[if_true,jv id j r,hget];split<;>rfl
  ·simp only[hk,if_false,hget,jv id j r];by_cases hj:j=k
   ·subst hj;simp[Ne.symm hk]
   ·simp[hj]
theorem xE (h:List (Nat×aC)) (id j:Nat) (W:aC):hget (bo h id W) j=if j=id then some W else hget h j:=by
 simp only[bo,hget,jv];split<;>simp_all
def killC (id:Nat):AV->AV
 | .sl i o n=>if i=id then .undef else .sl i o n
 | .ptr i j f=>if i=id then .undef else .ptr i j f
 | .aa i f=>if i=id then .undef else .aa i f
 | .agg _=>.undef
 | .ab _=>.undef
 | .gd _ _=>.undef
 | .aA _ _=>.undef
 | x=>x
def killA (id:Nat):AV->AV
 | .agg cs=>.agg (cs.map (killC id))
 | .aA f cs=>.aA f (cs.map (killC id))
 | x=>killC id x
def kill (id:Nat):AV->AV
 | .ab cs=>.ab (cs.map (killA id))
 | .gd b x=>.gd b (killA id x)
 | x=>killA id x
def killS (id:Nat):List (Nat×AV)->List (Nat×AV)
 | []=>[]
 | (k,v)::r=>(k,kill id v)::killS id r
def lV (id:Nat):aC->aC
 | .arr sz es=>.arr sz es
 | .var cs=>.var (cs.map (killC id))
 | .mp kd l=>.mp kd l
def fE (id:Nat):List (Nat×aC)->List (Nat×aC)
 | []=>[]
 | (k,v)::r=>(k,lV id v)::fE id r
theorem F2 (id j:Nat):∀s,sget (killS id s) j=(sget s j).map (kill id)
 | []=>rfl
 | (k,v)::r=>by
  simp only[killS,sget,F2 id j r];split<;>simp
theorem xF (id j:Nat):∀s,hget (fE id s) j=(hget s j).map (lV id)
 | []=>rfl
 | (k,v)::r=>by
  simp only[fE,hget,xF id j r];split<;>simp
def bu (ρ:Loc) (id:Nat) (L:LW):Loc:=λj=>if j=id then some L else ρ j
section
variable {X:Nat->Prop} {w:World}
theorem RV.killC {ρ:Loc} {v:Value} {a:AV} (h:RV X w ρ v a) (id:Nat) (L:LW):RV X w (bu ρ id L) v (killC id a):=by
 cases h with
 | undef _ v=>exact .undef _ _
 | bool _ b=>exact .bool _ _
 | int _ k n=>exact .int _ _ _
 | fl _ k b=>exact .fl _ _ _
 | cx _ k re im=>exact .cx _ _ _ _
 | str _ s=>exact .str _ _
 | lit _ x=>exact .lit _ _
 | an _=>exact .an _
 | ro _ A c sz es vs hc au hlen hcell hrel=>exact .ro _ _ _ _ _ vs hc au hlen hcell hrel
 | ao _ ad x vs hsp hlen hcell hrel=>exact .ao _ _ _ vs hsp hlen hcell hrel
 | sl _ i off n c L' A hL h1 h2 h3 hA=>
  show RV X w _ _ (if i=id then .undef else .sl i off n)
  split;exact .undef _ _
  ·rename_i hne;exact .sl _ _ _ _ _ L' A (by simp[bu,hne,hL]) h1 h2 h3 hA
 | ptr _ i j f L' b hL hb hi hf=>
  show RV X w _ _ (if i=id then .undef else .ptr i j f)
  split;exact .undef _ _
  ·rename_i hne;exact .ptr _ _ _ _ L' b (by simp[bu,hne,hL]) hb hi hf
 | dk _ i L' b hL hb hm hz=>
  show RV X w _ _ (if i=id then .undef else .ptr i 0 0)
  split;exact .undef _ _
  ·rename_i hne;exact .dk _ _ L' b (by simp[bu,hne,hL]) hb hm hz
 | aa _ i f L' b hL hb=>
  show RV X w _ _ (if i=id then .undef else .aa i f)
  split;exact .undef _ _
  ·rename_i hne;exact .aa _ _ _ L' b (by simp[bu,hne,hL]) hb
 | agg _ vs cs hlen hrel=>exact .undef _ _
 | ab _ vs cs hlen hrel=>exact .undef _ _
 | gd _ b x v h h'=>exact .undef _ _
 | aA _ f vs cs hlen hrel=>exact .undef _ _
theorem RV.killA {ρ:Loc} {v:Value} {a:AV} (h:RV X w ρ v a) (id:Nat) (L:LW):RV X w (bu ρ id L) v (killA id a):=by
 cases a with
 | agg cs=>
  cases h with
  | agg _ vs _ hlen hrel=>
   refine .agg _ _ _ (by simpa using hlen) (λj v a h1 h2=>?_);rw[List.getElem?_map]at h2;obtain⟨a',h3,rfl⟩:=acE.1 h2
   exact(hrel j v a' h1 h3).killC id L
 | aA f cs=>
  cases h with
  | aA _ _ vs _ hlen hrel=>
   refine .aA _ _ _ _ (by simpa using hlen) (λj v a h1 h2=>?_);rw[List.getElem?_map]at h2;obtain⟨a',h3,rfl⟩:=acE.1 h2
   exact(hrel j v a' h1 h3).killC id L
 | _=>exact h.killC id L
theorem RV.kill {ρ:Loc} {v:Value} {a:AV} (h:RV X w ρ v a) (id:Nat) (L:LW):RV X w (bu ρ id L) v (kill id a):=by
 cases a with
 | ab cs=>
  cases h with
  | ab _ vs _ hlen hrel=>
   refine .ab _ _ _ (by simpa using hlen) (λj v a h1 h2=>?_);rw[List.getElem?_map]at h2;obtain⟨a',h3,rfl⟩:=acE.1 h2
   exact(hrel j v a' h1 h3).killA id L
 | gd b x=>
  cases h with
  | gd _ _ _ _ h h'=>exact .gd _ _ _ _ (λhb=>(h hb).killA id L) h'
 | _=>exact h.killA id L
end
def aE (ρ:Loc) (h:List (Nat×aC)) (b:Nat):Prop:=∃id W L,hget h id=some W/\ρ id=some L/\L.b=some b
def XX (X0:Nat->Prop) (ρ:Loc) (h:List (Nat×aC)) (b:Nat):Prop:=X0 b\/aE ρ h b
def gr (X:Nat->Prop) (w:World) (ρ:Loc) (b o cap:Nat) (cs:List AV):Prop:=
 ∃cur t fz,w.heap[b]?=some (.cells cur t fz)/\(∀j,j<cur.size->¬(fz.1<=j/\j<fz.2))/\o+cap<=cur.size/\cs.length<=cap /\
  ∀(j:Nat) v a,cur[o+j]?=some v->cs[j]?=some a->RV X w ρ v a
def MapAt (X:Nat->Prop) (w w':World) (b:Nat) (kd:Option IntKind) (l:List (MK×AV)):Prop:=
 ∃es clock,w'.heap[b]?=some (.map es clock)/\es.size=l.length/\(∀p∈l,MK.ok kd p.1)/\∀(j:Nat) e p,es[j]?=some e->l[j]?=some p->e.key=p.1.val/\RV X w aW e.val p.2
def jf (X:Nat->Prop) (w:World) (ρ:Loc) (L:LW):aC->Prop
 | .arr sz es=>L.sz=sz/\L.fh=es.length/\L.fh<=L.cap/\(∀e∈es,(cellsOf e).length=sz) /\
     match L.b with
     | none=>L.cap=0
     | some b=>gr X w aW b L.o (L.cap*sz) (flat es)
 | .var cs=>∃b,L.b=some b/\gr X w ρ b L.o cs.length cs
 | .mp kd l=>∃b,L.b=some b/\L.cap<L.fh/\L.sz=0/\MapAt X w w b kd l
structure cD (X0:Nat->Prop) (ρ:Loc) (h:List (Nat×aC)) (w:World):Prop where
 win:∀id W,hget h id=some W->∃L,ρ id=some L/\jf (XX X0 ρ h) w ρ L W
 cw:∀id id' W W' L L' b,hget h id=some W->hget h id'=some W'->ρ id=some L->ρ id'=some L'->L.b=some b->L'.b=some b->id=id'
 out:∀id W L b,hget h id=some W->ρ id=some L->L.b=some b->¬X0 b
structure Env where
 w0:World
 F:Nat->Prop
 X0:Nat->Prop
 N:Nat
 B:Nat
 gv:Nat->Value
 rd:Option Nat
 dn:Nat
 qx:dn<=w0.heap.size
 df:List Deferred
def aP (E:Env) (a:Act) (k:Nat):Value:=if k<E.N then a.tmps.getD k undef else E.gv k
structure rU (E:Env) (w:World):Prop where
 os:w.os=E.w0.os
 tape:w.tape=E.w0.tape
 output:w.output=E.w0.output
 size:E.w0.heap.size<=w.heap.size
 block:∀b,b<E.w0.heap.size->¬E.F b->w.heap[b]?=E.w0.heap[b]?
 cn:jO E.F E.w0
def marksOf:List Deferred->List Nat
 | []=>[]
 | ⟨.collected D,_⟩::r=>D::marksOf r
 | _::r=>marksOf r
def kS (D:Nat):Deferred:={target:=.collected D,args:=#[]}
def fQ (n0:Nat) (df ds:List Deferred) (w:World):Prop:=
 (∃Ds:List Nat,ds=Ds.map kS++df)/\(marksOf ds).Nodup/\∀D∈marksOf ds,n0<=D/\w.heap[D]?=some (.deferred (some []))
theorem fQ.nil (n0:Nat) (w:World):fQ n0 [] [] w:=⟨⟨[],rfl⟩,List.nodup_nil,λ_ h=>by cases h⟩
theorem fQ.turn {n0:Nat} {df ds:List Deferred} {w w':World} (h:fQ n0 df ds w) (hw:∀(b:Nat),w.heap[b]?=some (.deferred (some []))->w'.heap[b]?=w.heap[b]?):fQ n0 df ds w':=by
 obtain⟨h1,h2,h3⟩:=h;exact⟨h1,h2,λD hD=>⟨(h3 D hD).1,(hw D (h3 D hD).2).trans (h3 D hD).2⟩⟩
structure af (E:Env) (ρ:Loc) (st:St) (a:Act) (w:World):Prop where
 defers:fQ E.dn E.df a.defers w
 size:a.tmps.size=E.N
 aM:∀k av,sget st.s k=some av->(k<E.N\/2000000<=k)/\RV (XX E.X0 ρ st.h) w ρ (aP E a k) av
 heap:cD E.X0 ρ st.h w
 base:∀id W L b,hget st.h id=some W->ρ id=some L->L.b=some b->E.w0.heap.size<=b\/E.F b
 ai:rU E w
 x0:∀b,E.X0 b->b<w.heap.size
def Rel (E:Env) (st:St) (a:Act) (w:World):Prop:=∃ρ,af E ρ st a w
structure az (w w':World):Prop where
 os:w'.os=w.os
 tape:w'.tape=w.tape
 output:w'.output=w.output
 size:w.heap.size<=w'.heap.size
 block:∀b,b<w.heap.size->w'.heap[b]?=w.heap[b]?
theorem az.refl (w:World):az w w:=⟨rfl,rfl,rfl,acG _,λ_ _=>rfl⟩
theorem az.drew (w:World):az w w.drew:=⟨rfl,rfl,rfl,acG _,λ_ _=>rfl⟩
theorem az.trans {a b c:World} (h:az a b) (k:az b c):az a c:=
 ⟨k.os.trans h.os,k.tape.trans h.tape,k.output.trans h.output,adt h.size k.size,λi hi=>(k.block i (acR hi h.size)).trans (h.block i hi)⟩
def fa {α:Type} (P:Program) (w:World) (s:Sem α) (v:α):Prop:=∀w',az w w'->s.run P w'=.ok v w'
theorem fa.here {α:Type} {P:Program} {w:World} {s:Sem α} {v:α} (h:fa P w s v):s.run P w=.ok v w:=h w (az.refl w)
theorem az.alloc (w:World) (o:Obj):az w (w.alloc o):=⟨rfl,rfl,rfl,by simp,λk hk=>RowKit.Below.heap_alloc w o k hk⟩
theorem gT {E:Env} {ρ:Loc} {st:St} {a:Act} {w:World} (h:af E ρ st a w) {b:Nat} (hb:aE ρ st.h b):b<w.heap.size:=by
 obtain⟨id,W,L,h1,h2,h3⟩:=hb;obtain⟨L',h4,h5⟩:=h.heap.win id W h1;rw[h2]at h4;obtain rfl:=Option.some.inj h4
 cases W with
 | arr sz es=>
  obtain⟨_,_,_,_,h6⟩:=h5;rw[h3]at h6;obtain⟨cur,t,fz,h7,_⟩:=h6
  exact(Array.getElem?_eq_some_iff.1 h7).1
 | var cs=>
  obtain⟨b',h6,cur,t,fz,h7,_⟩:=h5;rw[h3]at h6;obtain rfl:=Option.some.inj h6
  exact(Array.getElem?_eq_some_iff.1 h7).1
 | mp kd l=>
  obtain⟨b',h6,_,_,es,c,h7,_⟩:=h5;rw[h3]at h6;obtain rfl:=Option.some.inj h6;exact(Array.getElem?_eq_some_iff.1 h7).1
def nL (w:World) (b:Nat):Prop:=(∃cur t fz,w.heap[b]?=some (.cells cur t fz))\/∃es c,w.heap[b]?=some (.map es c)
theorem yw {X:Nat->Prop} {ρ:Loc} {h:List (Nat×aC)} {w:World} (hh:cD X ρ h w) {b:Nat} (hb:aE ρ h b):nL w b:=by
 obtain⟨id,W,L,h1,h2,h3⟩:=hb;obtain⟨L',h4,h5⟩:=hh.win id W h1;rw[h2]at h4;obtain rfl:=Option.some.inj h4
 cases W with
 | arr sz es=>
  obtain⟨_,_,_,_,h6⟩:=h5;rw[h3]at h6;obtain⟨cur,t,fz,h7,_⟩:=h6
  exact .inl ⟨cur,t,fz,h7⟩
 | var cs=>
  obtain⟨b',h6,cur,t,fz,h7,_⟩:=h5;rw[h3]at h6;obtain rfl:=Option.some.inj h6
  exact .inl ⟨cur,t,fz,h7⟩
 | mp kd l=>
  obtain⟨b',h6,_,_,es,c,h7,_⟩:=h5;rw[h3]at h6;obtain rfl:=Option.some.inj h6;exact .inr ⟨es,c,h7⟩
theorem j8 {X:Nat->Prop} {ρ:Loc} {h:List (Nat×aC)} {w:World} (hh:cD X ρ h w) {b:Nat} {o:Option (List Deferred)} (hb:w.heap[b]?=some (.deferred o)):¬aE ρ h b:=λhx=>by
 rcases yw hh hx with⟨_,_,_,h1⟩ | ⟨_,_,h1⟩<;>(rw[h1]at hb;cases hb)
theorem qv (a:Act) (d k:Nat) (v:Value) (hd:d<a.tmps.size):(a.put (some d) v).tmps.getD k undef=if k=d then v else a.tmps.getD k undef:=by
 simp only[Act.put,acO,Array.getElem?_setIfInBounds];by_cases h:d=k
 ·subst h;simp[hd]
 ·simp[h,Ne.symm h]
theorem af.put {E:Env} {ρ:Loc} {st:St} {a:Act} {w:World} (h:af E ρ st a w) (d:Nat) (hd:d<E.N) {v:Value} {av:AV} (hv:RV (XX E.X0 ρ st.h) w ρ v av) :
    af E ρ ⟨(d,av)::st.s,st.h⟩ (a.put (some d) v) w where
 defers:=h.defers
 size:=by simp[Act.put,h.size]
 aM:=λk av' hk=>by
  simp only[sget]at hk;have hp:=qv a d k v (by rw[h.size];exact hd);split at hk
  ·rename_i hkd;subst hkd;refine⟨.inl hd,?_⟩;unfold aP;rw[if_pos hd,hp,if_pos rfl,<-Option.some.inj hk];exact hv
  ·rename_i hkd;obtain⟨h1,h2⟩:=h.aM k av' hk;refine⟨h1,?_⟩;unfold aP at h2 |-;split
   ·rename_i hlt;rw[if_pos hlt]at h2;rw[hp,if_neg hkd];exact h2
   ·rename_i hlt;rw[if_neg hlt]at h2;exact h2
 heap:=h.heap
 base:=h.base
 ai:=h.ai
 x0:=h.x0
theorem gr.mono {X X':Nat->Prop} {w w':World} {ρ ρ':Loc} {b o cap:Nat} {cs:List AV} (h:gr X w ρ b o cap cs)
    (hb:w'.heap[b]?=w.heap[b]?)
    (hw:∀b,¬X b->b<w.heap.size->w'.heap[b]?=w.heap[b]?) (hX:∀b,b<w.heap.size->¬X b->¬X' b) (hρ:∀id L,ρ id=some L->ρ' id=some L):gr X' w' ρ' b o cap cs:=by
 obtain⟨cur,t,fz,h1,h2,h3,h4,h5⟩:=h;exact⟨cur,t,fz,hb.trans h1,h2,h3,h4,λj v a e1 e2=>(h5 j v a e1 e2).mono hw hX ρ' hρ⟩
theorem MapAt.up {X X':Nat->Prop} {w w1 w' w2:World} {b:Nat} {kd:Option IntKind} {l:List (MK×AV)} (h:MapAt X w w1 b kd l) (hb:w2.heap[b]?=w1.heap[b]?)
    (hw:∀b,¬X b->b<w.heap.size->w'.heap[b]?=w.heap[b]?) (hX:∀b,b<w.heap.size->¬X b->¬X' b):MapAt X' w' w2 b kd l:=by
 obtain⟨es,clock,h1,h2,h3,h4⟩:=h;exact⟨es,clock,hb.trans h1,h2,h3,λj e p e1 e2=>⟨(h4 j e p e1 e2).1,(h4 j e p e1 e2).2.mono hw hX aW (λ_ _ h=>h)⟩⟩
theorem jf.mono {X X':Nat->Prop} {w w':World} {ρ ρ':Loc} {L:LW} {W:aC} (h:jf X w ρ L W)
    (hb:∀b,L.b=some b->w'.heap[b]?=w.heap[b]?)
    (hw:∀b,¬X b->b<w.heap.size->w'.heap[b]?=w.heap[b]?) (hX:∀b,b<w.heap.size->¬X b->¬X' b) (hρ:∀id L,ρ id=some L->ρ' id=some L):jf X' w' ρ' L W:=by
 cases W with
 | arr sz es=>
  obtain⟨h1,h2,h3,h4,h5⟩:=h;refine⟨h1,h2,h3,h4,?_⟩
  cases hLb:L.b with
  | none=>rw[hLb]at h5;exact h5
  | some b=>rw[hLb]at h5;exact h5.mono (hb b hLb) hw hX (λ_ _ h=>h)
 | var cs=>
  obtain⟨b,h1,h2⟩:=h
  exact⟨b,h1,h2.mono (hb b h1) hw hX hρ⟩
 | mp kd l=>
  obtain⟨b,h1,h2,h3,h4⟩:=h;exact⟨b,h1,h2,h3,h4.up (hb b h1) hw hX⟩
theorem rU.same {E:Env} {w w':World} (h:rU E w) (k:az w w'):rU E w':=
 ⟨k.os.trans h.os,k.tape.trans h.tape,k.output.trans h.output,adt h.size k.size,λb hb hF=>(k.block b (acR hb h.size)).trans (h.block b hb hF),h.cn⟩
theorem af.same {E:Env} {ρ:Loc} {st:St} {a:Act} {w w':World} (h:af E ρ st a w) (k:az w w'):af E ρ st a w' where
 defers:=h.defers.turn (λb hb=>k.block b (Array.getElem?_eq_some_iff.1 hb).1)
 size:=h.size
 aM:=λi av hi=>⟨(h.aM i av hi).1,(h.aM i av hi).2.mono (λb _ hb=>k.block b hb) (λb _ hb=>hb) ρ (λ_ _ h=>h)⟩
 heap:={
  win:=λid W hW=>by
   obtain⟨L,h1,h2⟩:=h.heap.win id W hW;exact⟨L,h1,h2.mono (λb hb=>k.block b (gT h ⟨id,W,L,hW,h1,hb⟩)) (λb _ hb=>k.block b hb) (λb _ hb=>hb) (λ_ _ h=>h)⟩
  cw:=h.heap.cw
  out:=h.heap.out}
 base:=h.base
 ai:=h.ai.same k
 x0:=λb hb=>acR (h.x0 b hb) k.size
def rT (X:Nat->Prop) (w w':World) (ρ:Loc) (b o cap:Nat) (cs:List AV):Prop:=
 ∃cur t fz,w'.heap[b]?=some (.cells cur t fz)/\(∀j,j<cur.size->¬(fz.1<=j/\j<fz.2))/\o+cap<=cur.size/\cs.length<=cap /\
  ∀(j:Nat) v a,cur[o+j]?=some v->cs[j]?=some a->RV X w ρ v a
def rZ (X:Nat->Prop) (w w':World) (ρ:Loc) (L:LW):aC->Prop
 | .arr sz es=>L.sz=sz/\L.fh=es.length/\L.fh<=L.cap/\(∀e∈es,(cellsOf e).length=sz) /\
     match L.b with
     | none=>L.cap=0
     | some b=>rT X w w' aW b L.o (L.cap*sz) (flat es)
 | .var cs=>∃b,L.b=some b/\rT X w w' ρ b L.o cs.length cs
 | .mp kd l=>∃b,L.b=some b/\L.cap<L.fh/\L.sz=0/\MapAt X w w' b kd l
theorem rT.up {X X':Nat->Prop} {w w':World} {ρ ρ':Loc} {b o cap:Nat} {cs:List AV} (h:rT X w w' ρ b o cap cs)
    (hw:∀b,¬X b->b<w.heap.size->w'.heap[b]?=w.heap[b]?) (hX:∀b,b<w.heap.size->¬X b->¬X' b) (hρ:∀id L,ρ id=some L->ρ' id=some L):gr X' w' ρ' b o cap cs:=by
 obtain⟨cur,t,fz,h1,h2,h3,h4,h5⟩:=h;exact⟨cur,t,fz,h1,h2,h3,h4,λj v a e1 e2=>(h5 j v a e1 e2).mono hw hX ρ' hρ⟩
theorem rZ.up {X X':Nat->Prop} {w w':World} {ρ ρ':Loc} {L:LW} {W:aC} (h:rZ X w w' ρ L W)
    (hw:∀b,¬X b->b<w.heap.size->w'.heap[b]?=w.heap[b]?) (hX:∀b,b<w.heap.size->¬X b->¬X' b) (hρ:∀id L,ρ id=some L->ρ' id=some L):jf X' w' ρ' L W:=by
 cases W with
 | arr sz es=>
  obtain⟨h1,h2,h3,h4,h5⟩:=h;refine⟨h1,h2,h3,h4,?_⟩
  cases hLb:L.b with
  | none=>rw[hLb]at h5;exact h5
  | some b=>rw[hLb]at h5;exact h5.up hw hX (λ_ _ h=>h)
 | var cs=>
  obtain⟨b,h1,h2⟩:=h
  exact⟨b,h1,h2.up hw hX hρ⟩
 | mp kd l=>
  obtain⟨b,h1,h2,h3,h4⟩:=h;exact⟨b,h1,h2,h3,h4.up rfl hw hX⟩
theorem aC.Sn {X:Nat->Prop} {w:World} {ρ:Loc} {L:LW} {W:aC} (h:jf X w ρ L W) (id:Nat) (L':LW):jf X w (bu ρ id L') L (lV id W):=by
 cases W with
 | arr sz es=>exact h
 | var cs=>
  obtain⟨b,h1,cur,t,fz,h2,h3,h4,h5,h6⟩:=h;refine⟨b,h1,cur,t,fz,h2,h3,by simpa using h4,by simp,λj v a e1 e2=>?_⟩;rw[List.getElem?_map]at e2;obtain⟨a',h7,rfl⟩:=acE.1 e2
  exact(h6 j v a' e1 h7).killC id L'
 | mp kd l=>exact h
theorem af.cn {E:Env} {ρ:Loc} {st:St} {a:Act} {w:World} (h:af E ρ st a w):jO (aE ρ st.h) w:=by
 refine⟨h.ai.cn.1.stays (λb cs t fz hb _=>h.ai.block b (h.ai.cn.1.lt hb) (h.ai.cn.2 b hb)),λb hb ⟨id,W,L,h1,h2,h3⟩=>?_⟩;rcases h.base id W L b h1 h2 h3 with g | g
 ·have:=h.ai.cn.1.lt hb;omega
 exact h.ai.cn.2 b hb g
structure vT (ρ:Loc) (h:List (Nat×aC)) (id:Nat) (w w':World):Prop where
 os:w'.os=w.os
 tape:w'.tape=w.tape
 output:w'.output=w.output
 size:w.heap.size<=w'.heap.size
 block:∀b,b<w.heap.size->(∀W L,hget h id=some W->ρ id=some L->L.b≠some b)->w'.heap[b]?=w.heap[b]?
theorem af.fresh {E:Env} {ρ:Loc} {st:St} {a:Act} {w w':World} (h:af E ρ st a w) (id:Nat) (L:LW) (W:aC) (ht:vT ρ st.h id w w')
    (hg:∀g,L.b=some g->w.heap.size<=g\/∃W0 L0,hget st.h id=some W0/\ρ id=some L0/\L0.b=some g)
    (hW:rZ (XX E.X0 ρ st.h) w w' (bu ρ id L) L W) :
    af E (bu ρ id L) ⟨killS id st.s,bo (fE id st.h) id W⟩ a w':=by
 have hget':∀j W',hget (bo (fE id st.h) id W) j=some W'->(j=id/\W'=W)\/(j≠id/\∃W0,hget st.h j=some W0/\W'=lV id W0):=by
  intro j W' hj;rw[xE]at hj;split at hj
  ·rename_i e;exact .inl ⟨e,(Option.some.inj hj).symm⟩
  ·rename_i e;rw[xF]at hj;obtain⟨W0,h1,h2⟩:=acE.1 hj;exact .inr ⟨e,W0,h1,h2.symm⟩
 have hX:∀b,b<w.heap.size->¬XX E.X0 ρ st.h b->¬XX E.X0 (bu ρ id L) (bo (fE id st.h) id W) b:=by
  intro b hb hn hx;rcases hx with hx | ⟨j,W',L',h1,h2,h3⟩;exact hn (.inl hx)
  ·rcases hget' j W' h1 with⟨rfl,rfl⟩ | ⟨hne,W0,h4,_⟩
   ·simp only[bu,if_true]at h2;obtain rfl:=Option.some.inj h2;rcases hg b h3 with h5 | ⟨W0,L0,h5,h6,h7⟩;omega
    exact hn (.inr ⟨_,W0,L0,h5,h6,h7⟩)
   ·simp only[bu,hne,if_false]at h2;exact hn (.inr ⟨_,W0,L',h4,h2,h3⟩)
 have hw:∀b,¬XX E.X0 ρ st.h b->b<w.heap.size->w'.heap[b]?=w.heap[b]?:=λb hn hb=>
  ht.block b hb (λW0 L0 h1 h2 h3=>hn (.inr ⟨id,W0,L0,h1,h2,h3⟩))
 have hdis:∀j W' L' b,j≠id->hget st.h j=some W'->ρ j=some L'->L'.b=some b->L.b≠some b:=by
  intro j W' L' b hne h1 h2 h3 h4;rcases hg b h4 with h5 | ⟨W0,L0,h5,h6,h7⟩
  ·have:=gT h ⟨j,W',L',h1,h2,h3⟩;omega
  exact hne (h.heap.cw j id W' W0 L' L0 b h1 h5 h2 h6 h3 h7)
 refine⟨h.defers.turn (λb hb=>ht.block b (Array.getElem?_eq_some_iff.1 hb).1 (λW0 L0 e1 e2 e3=>j8 h.heap hb ⟨id,W0,L0,e1,e2,e3⟩)),h.size,λk av hk=>?_,⟨λj W' hj=>?_,λi j W1 W2 L1 L2 b h1 h2 h3 h4 h5 h6=>?_,λj W' L' b h1 h2 h3 hx=>?_⟩,λj W' L' b h1 h2 h3=>?_,?_,λb hb=>acR (h.x0 b hb) ht.size⟩
 ·simp only at hk;rw[F2]at hk;obtain⟨av0,h1,rfl⟩:=acE.1 hk;obtain⟨h2,h3⟩:=h.aM k av0 h1;exact⟨h2,(h3.kill id L).mono hw hX _ (λ_ _ h=>h)⟩
 ·rcases hget' j W' hj with⟨rfl,rfl⟩ | ⟨hne,W0,h4,rfl⟩;exact⟨L,by simp[bu],hW.up hw hX (λ_ _ h=>h)⟩
  ·obtain⟨L0,h5,h6⟩:=h.heap.win j W0 h4;refine⟨L0,by simp[bu,hne,h5],(aC.Sn h6 id L).mono (λb hb=>?_) hw hX (λ_ _ h=>h)⟩;exact ht.block b (gT h ⟨j,W0,L0,h4,h5,hb⟩) (λW1 L1 e1 e2 e3=>hne (h.heap.cw j id W0 W1 L0 L1 b h4 e1 h5 e2 hb e3))
 ·rcases hget' i W1 h1 with⟨rfl,rfl⟩ | ⟨hne,W0,h7,rfl⟩
  ·rcases hget' j W2 h2 with⟨rfl,rfl⟩ | ⟨hne',W0',h7',rfl⟩;rfl
   ·simp only[bu,if_true]at h3;simp only[bu,hne',if_false]at h4;obtain rfl:=Option.some.inj h3;exact absurd h5 (hdis j W0' L2 b hne' h7' h4 h6)
  ·rcases hget' j W2 h2 with⟨rfl,rfl⟩ | ⟨hne',W0',h7',rfl⟩
   ·simp only[bu,if_true]at h4;simp only[bu,hne,if_false]at h3;obtain rfl:=Option.some.inj h4;exact absurd h6 (hdis i W0 L1 b hne h7 h3 h5)
   ·simp only[bu,hne,if_false]at h3;simp only[bu,hne',if_false]at h4;exact h.heap.cw i j W0 W0' L1 L2 b h7 h7' h3 h4 h5 h6
 ·rcases hget' j W' h1 with⟨rfl,rfl⟩ | ⟨hne,W0,h7,rfl⟩
  ·simp only[bu,if_true]at h2;obtain rfl:=Option.some.inj h2;rcases hg b h3 with h5 | ⟨W0,L0,h5,h6,h7⟩
   ·have:=h.x0 b hx;have:=h.ai.size;omega
   exact h.heap.out _ W0 L0 b h5 h6 h7 hx
  ·simp only[bu,hne,if_false]at h2;exact h.heap.out j W0 L' b h7 h2 h3 hx
 ·rcases hget' j W' h1 with⟨rfl,rfl⟩ | ⟨hne,W0,h7,rfl⟩
  ·simp only[bu,if_true]at h2;obtain rfl:=Option.some.inj h2;rcases hg b h3 with h5 | ⟨W0,L0,h5,h6,h7⟩
   ·have:=h.ai.size;exact .inl acB
   exact h.base _ W0 L0 b h5 h6 h7
  ·simp only[bu,hne,if_false]at h2;exact h.base j W0 L' b h7 h2 h3
 ·refine⟨ht.os.trans h.ai.os,ht.tape.trans h.ai.tape,ht.output.trans h.ai.output,adt h.ai.size ht.size,λb hb hF=>?_,h.ai.cn⟩;refine(ht.block b (acR hb h.ai.size) (λW0 L0 h1 h2 h3=>?_)).trans (h.ai.block b hb hF);rcases h.base id W0 L0 b h1 h2 h3 with h4 | h4;omega
  exact hF h4
theorem af.modify {E:Env} {ρ:Loc} {st:St} {a:Act} {w w':World} (h:af E ρ st a w) (id:Nat) (L:LW) (W0 W:aC) (h0:hget st.h id=some W0) (hL:ρ id=some L)
    (ht:vT ρ st.h id w w') (hW:rZ (XX E.X0 ρ st.h) w w' ρ L W) :
    af E ρ ⟨st.s,bo st.h id W⟩ a w':=by
 have hget':∀j W',hget (bo st.h id W) j=some W'->(j=id/\W'=W)\/(j≠id/\hget st.h j=some W'):=by
  intro j W' hj;rw[xE]at hj;split at hj
  ·rename_i e;exact .inl ⟨e,(Option.some.inj hj).symm⟩
  ·rename_i e;exact .inr ⟨e,hj⟩
 have back:∀j W',hget (bo st.h id W) j=some W'->∃W1,hget st.h j=some W1:=by
  intro j W' hj;rcases hget' j W' hj with⟨rfl,_⟩ | ⟨_,h1⟩;exact⟨W0,h0⟩;exact⟨W',h1⟩
 have hX:∀b,b<w.heap.size->¬XX E.X0 ρ st.h b->¬XX E.X0 ρ (bo st.h id W) b:=by
  intro b hb hn hx;rcases hx with hx | ⟨j,W',L',h1,h2,h3⟩;exact hn (.inl hx)
  ·obtain⟨W1,h4⟩:=back j W' h1;exact hn (.inr ⟨j,W1,L',h4,h2,h3⟩)
 have hw:∀b,¬XX E.X0 ρ st.h b->b<w.heap.size->w'.heap[b]?=w.heap[b]?:=λb hn hb=>
  ht.block b hb (λW0 L0 h1 h2 h3=>hn (.inr ⟨id,W0,L0,h1,h2,h3⟩))
 refine⟨h.defers.turn (λb hb=>ht.block b (Array.getElem?_eq_some_iff.1 hb).1 (λW0 L0 e1 e2 e3=>j8 h.heap hb ⟨id,W0,L0,e1,e2,e3⟩)),h.size,λk av hk=>?_,⟨λj W' hj=>?_,λi j W1 W2 L1 L2 b h1 h2 h3 h4 h5 h6=>?_,λj W' L' b h1 h2 h3 hx=>?_⟩,λj W' L' b h1 h2 h3=>?_,?_,λb hb=>acR (h.x0 b hb) ht.size⟩
 ·obtain⟨h2,h3⟩:=h.aM k av hk;exact⟨h2,h3.mono hw hX _ (λ_ _ h=>h)⟩
 ·rcases hget' j W' hj with⟨rfl,rfl⟩ | ⟨hne,h4⟩;exact⟨L,hL,hW.up hw hX (λ_ _ h=>h)⟩
  ·obtain⟨L0,h5,h6⟩:=h.heap.win j W' h4;refine⟨L0,h5,h6.mono (λb hb=>?_) hw hX (λ_ _ h=>h)⟩;exact ht.block b (gT h ⟨j,W',L0,h4,h5,hb⟩) (λW1 L1 e1 e2 e3=>hne (h.heap.cw j id W' W1 L0 L1 b h4 e1 h5 e2 hb e3))
 ·obtain⟨V1,g1⟩:=back i W1 h1;obtain⟨V2,g2⟩:=back j W2 h2;exact h.heap.cw i j V1 V2 L1 L2 b g1 g2 h3 h4 h5 h6
 ·obtain⟨V1,g1⟩:=back j W' h1;exact h.heap.out j V1 L' b g1 h2 h3 hx
 ·obtain⟨V1,g1⟩:=back j W' h1;exact h.base j V1 L' b g1 h2 h3
 ·refine⟨ht.os.trans h.ai.os,ht.tape.trans h.ai.tape,ht.output.trans h.ai.output,adt h.ai.size ht.size,λb hb hF=>?_,h.ai.cn⟩;refine(ht.block b (acR hb h.ai.size) (λW0 L0 h1 h2 h3=>?_)).trans (h.ai.block b hb hF);rcases h.base id W0 L0 b h1 h2 h3 with h4 | h4;omega
  exact hF h4
def dA (s:List (Nat×AV)):List (Nat×AV)->Prop
 | []=>True
 | (k,v)::r=>sget s k=some v/\dA s r
def dz (h:List (Nat×aC)):List (Nat×aC)->Prop
 | []=>True
 | (k,v)::r=>hget h k=some v/\dz h r
theorem x5 {s:List (Nat×AV)}:∀{s'},dA s s'->∀k v,sget s' k=some v->sget s k=some v
 | [],_,k,v,h=>by simp[sget]at h
 | (k0,v0)::r,hl,k,v,h=>by
  simp only[sget]at h;split at h
  ·rename_i e;subst e;rw[<-Option.some.inj h];exact hl.1
  exact x5 hl.2 k v h
theorem jz {s:List (Nat×aC)}:∀{s'},dz s s'->∀k v,hget s' k=some v->hget s k=some v
 | [],_,k,v,h=>by simp[hget]at h
 | (k0,v0)::r,hl,k,v,h=>by
  simp only[hget]at h;split at h
  ·rename_i e;subst e;rw[<-Option.some.inj h];exact hl.1
  exact jz hl.2 k v h
theorem af.weaken {E:Env} {ρ:Loc} {st st':St} {a:Act} {w:World} (h:af E ρ st a w) (hs:dA st.s st'.s) (hh:dz st.h st'.h):af E ρ st' a w:=by
 have hX:∀b,¬XX E.X0 ρ st.h b->¬XX E.X0 ρ st'.h b:=by
  intro b hn hx;rcases hx with hx | ⟨j,W',L',h1,h2,h3⟩;exact hn (.inl hx);exact hn (.inr ⟨j,W',L',jz hh j W' h1,h2,h3⟩)
 refine⟨h.defers,h.size,λk av hk=>?_,⟨λj W' hj=>?_,λi j W1 W2 L1 L2 b h1 h2 h3 h4 h5 h6=>?_,λj W' L' b h1 h2 h3 hx=>?_⟩,λj W' L' b h1 h2 h3=>?_,h.ai,h.x0⟩
 ·obtain⟨h2,h3⟩:=h.aM k av (x5 hs k av hk);exact⟨h2,h3.mono (λ_ _ _=>rfl) (λb _ hb=>hX b hb) _ (λ_ _ h=>h)⟩
 ·obtain⟨L,h1,h2⟩:=h.heap.win j W' (jz hh j W' hj);exact⟨L,h1,h2.mono (λ_ _=>rfl) (λ_ _ _=>rfl) (λb _ hb=>hX b hb) (λ_ _ h=>h)⟩
 exact h.heap.cw i j W1 W2 L1 L2 b (jz hh _ _ h1) (jz hh _ _ h2) h3 h4 h5 h6;exact h.heap.out j W' L' b (jz hh _ _ h1) h2 h3 hx;exact h.base j W' L' b (jz hh _ _ h1) h2 h3
end Go.Proofs.YtgghhaahnpbnmaaGreatDoor.Eng
namespace Go.Proofs.YtgghhaahnpbnmaaGreatDoor.Eng
inductive AE where
 | t (n:Nat)
 | c (v:AV)
inductive AO where
 | fZ (x:AE)
 | pick (c x y:AE)
 | bin (op:BinOp) (x y:AE)
 | beq (neg:Bool) (x y:AE)
 | nR (neg:Bool) (ks:List Nat) (x y:AE)
 | un (op:UnOp) (x:AE)
 | qf (k:IntKind) (x:AE)
 | p7 (k:FloatKind) (x:AE)
 | p6 (k:IntKind) (x:AE)
 | qd (x:AE)
 | pY (x:AE)
 | nz (x:AE)
 | qb (x y:AE)
 | re (x:AE)
 | im (x:AE)
 | len (str:Bool) (x:AE)
 | mm (mx:Bool) (x y:AE)
 | ext (x:AE) (i:Nat)
 | qT (x:AE)
 | eL (sz:Nat) (x i:AE)
 | rp (x i:AE)
 | ld (ag:Bool) (n:Nat) (x:AE)
 | st (n:Nat) (x v:AE)
 | rz (x:AE) (lo hi:Option AE)
 | ru (sz:Nat) (x:AE) (lo hi:Option AE)
 | mE (sz:Nat) (parts:List AE)
 | alloc (zero:List AV)
 | box (n:Nat) (x:AE)
 | nW (zero:List AV) (parts:List (Nat×Nat×AE))
 | qo (ag:Bool) (off n:Nat) (x:AE)
 | qn (ag:Bool) (off n:Nat) (x:AE)
 | app (sz bytes:Nat) (s x:AE)
 | ni (sz bytes:Nat) (zero:List AV) (l c:AE)
 | wM (sz:Nat) (d x:AE)
 | call (f:Nat) (args:List AE)
 | qA (len sz:Nat) (x i:AE)
 | qB (len:Nat) (x i:AE)
 | o9 (neg:Bool) (x:AE)
 | oI (neg:Bool) (x:AE)
 | oU (neg:Bool) (x:AE)
 | dyn (x:AE) (args:List AE)
 | qL (t:TypeId) (x:AE)
 | qg (x:AE)
 | qK (f:Nat) (xs:List AE)
 | gF (x:AE)
 | nh (kd:Option IntKind)
 | qM (kd:Option IntKind) (ok:Bool) (z:AV) (x i:AE)
 | nj (kd:Option IntKind) (x k v:AE)
 | bad
def constC:Value->AV
 | .bool b=>.bool b
 | .int k n=>.int k n
 | .float k b=>.fl k b
 | .complex k r i=>.cx k r i
 | .string s=>.str s.data.toList
 | .slice none 0 0=>.an
 | .pointer none=>.lit (.pointer none)
 | .nilFunc=>.lit .nilFunc
 | .nilIface=>.lit .nilIface
 | .map none=>.lit (.map none)
 | _=>.undef
def constAV:Value->AV
 | .agg cs=>.agg (cs.toList.map constC)
 | x=>constC x
def trE:Operand->AE
 | .tmp t=>if t<2000000 then .t t else .c .undef
 | .const v=>.c (constAV v)
 | .func f=>.c (.lit (.func (.func f) #[] #[]))
 | .global _=>.c .undef
def ev (st:St):AE->AV
 | .t k=>(sget st.s k).getD .undef
 | .c v=>v
section
variable {X:Nat->Prop} {w:World} {ρ:Loc}
theorem RV.constC (v:Value):RV X w ρ v (constC v):=by
 unfold Eng.constC;split;exact .bool _ _;exact .int _ _ _;exact .fl _ _ _;exact .cx _ _ _ _
 ·rename_i s;have:=RV.str (X:=X) (w:=w) ρ s.data.toList;simpa using this
 exact .an _;exact .lit _ _;exact .lit _ _;exact .lit _ _;exact .lit _ _;exact .undef _ _
theorem RV.constAV (v:Value):RV X w ρ v (constAV v):=by
 unfold Eng.constAV;split
 ·rename_i cs;refine .agg _ _ _ (by simp) (λj v a h1 h2=>?_);rw[List.getElem?_map,Array.getElem?_toList,h1]at h2;simp at h2;subst h2;exact RV.constC v
 exact RV.constC _
theorem a6 {E:Env} {st:St} {a:Act} (h:af E ρ st a w) (x:Operand):RV (XX E.X0 ρ st.h) w ρ (a.eval x) (ev st (trE x)):=by
 cases x with
 | tmp t=>
  simp only[trE];split
  ·rename_i ht
   show RV _ w ρ (a.tmps.getD t undef) ((sget st.s t).getD .undef)
   cases hs:sget st.s t with
   | none=>exact .undef _ _
   | some av=>
    obtain⟨h1,h2⟩:=h.aM t av hs;have hlt:t<E.N:=h1.resolve_right (afo.2 ht);unfold aP at h2;rw[if_pos hlt]at h2;exact h2
  ·exact .undef _ _
 | const v=>exact RV.constAV v
 | func f=>exact .lit _ _
 | global g=>exact .undef _ _
end
def strip (γ:Bool) (v:AV) (K:AV->Prop):Prop:=
 match v with
 | .gd b x=>(γ=true->b=true)/\K x
 | v=>K v
def a7 (γ:Bool) (st:St) (x:AE) (K:AV->Prop):Prop:=strip γ (ev st x) K
theorem Z9 {X:Nat->Prop} {w:World} {ρ:Loc} {γ:Bool} {v:Value} {av:AV} {K:AV->Prop} (h:RV X w ρ v av) (hs:strip γ av K) (hγ:γ=true):∃av',RV X w ρ v av'/\K av':=by
 cases h with
 | gd _ b x v h h'=>exact⟨x,h (hs.1 hγ),hs.2⟩
 | undef _ v=>exact⟨_,.undef _ _,hs⟩
 | bool _ b=>exact⟨_,.bool _ _,hs⟩
 | int _ k n=>exact⟨_,.int _ _ _,hs⟩
 | fl _ k b=>exact⟨_,.fl _ _ _,hs⟩
 | cx _ k re im=>exact⟨_,.cx _ _ _ _,hs⟩
 | str _ s=>exact⟨_,.str _ _,hs⟩
 | lit _ x=>exact⟨_,.lit _ _,hs⟩
 | an _=>exact⟨_,.an _,hs⟩
 | ro _ A c sz es vs hc au hlen hcell hrel=>exact⟨_,.ro _ _ _ _ _ vs hc au hlen hcell hrel,hs⟩
 | ao _ ad x vs hsp hlen hcell hrel=>exact⟨_,.ao _ _ _ vs hsp hlen hcell hrel,hs⟩
 | sl _ i off n c L' A hL h1 h2 h3 hA=>exact⟨_,.sl _ _ _ _ _ L' A hL h1 h2 h3 hA,hs⟩
 | ptr _ i j f L' b hL hb hi hf=>exact⟨_,.ptr _ _ _ _ L' b hL hb hi hf,hs⟩
 | dk _ i L' b hL hb hm hz=>exact⟨_,.dk _ _ L' b hL hb hm hz,hs⟩
 | aa _ i f L' b hL hb=>exact⟨_,.aa _ _ _ L' b hL hb,hs⟩
 | agg _ vs cs hlen hrel=>exact⟨_,.agg _ _ _ hlen hrel,hs⟩
 | ab _ vs cs hlen hrel=>exact⟨_,.ab _ _ _ hlen hrel,hs⟩
 | aA _ f vs cs hlen hrel=>exact⟨_,.aA _ _ _ _ hlen hrel,hs⟩
theorem aQ {E:Env} {ρ:Loc} {st:St} {a:Act} {w:World} (h:af E ρ st a w) {γ:Bool} {x:Operand} {K:AV->Prop} (hx:a7 γ st (trE x) K) (hγ:γ=true) :
    ∃av,RV (XX E.X0 ρ st.h) w ρ (a.eval x) av/\K av:=Z9 (a6 h x) hx hγ
def intBin (γ:Bool) (op:BinOp) (k k':IntKind) (x y:Int) (K:AV->Prop):Prop:=
 match op with
 | .shl=>(γ=true->0<=y)/\K (.int k (k.wrap (x*2^(min y.toNat k.bits))))
 | .shr=>(γ=true->0<=y)/\K (.int k (x.fdiv (2^(min y.toNat k.bits))))
 | .add=>k=k'/\K (.int k (k.wrap (x+y)))
 | .sub=>k=k'/\K (.int k (k.wrap (x-y)))
 | .mul=>k=k'/\K (.int k (k.wrap (x*y)))
 | .quo=>k=k'/\(γ=true->y≠0)/\K (.int k (k.wrap (x.tdiv y)))
 | .rem=>k=k'/\(γ=true->y≠0)/\K (.int k (x.tmod y))
 | .and=>k=k'/\K (.int k (bits .and k x y))
 | .or=>k=k'/\K (.int k (bits .or k x y))
 | .xor=>k=k'/\K (.int k (bits .xor k x y))
 | .andNot=>k=k'/\K (.int k (bits .andNot k x y))
 | .eql=>k=k'/\K (.bool (decide (x=y)))
 | .neq=>k=k'/\K (.bool (!decide (x=y)))
 | .lss=>k=k'/\K (.bool (decide (x<y)))
 | .leq=>k=k'/\K (.bool (decide (x<=y)))
 | .gtr=>k=k'/\K (.bool (decide (y<x)))
 | .geq=>k=k'/\K (.bool (decide (y<=x)))
def strBin (γ:Bool) (op:BinOp) (x y:List UInt8) (K:AV->Prop):Prop:=
 match op with
 | .add=>(γ=true->x.length+y.length<=9223372036854775807)/\K (.str (x++y))
 | .eql=>K (.bool (x==y))
 | .neq=>K (.bool (!(x==y)))
 | .lss=>K (.bool (Op.bytesLess x y))
 | .leq=>K (.bool (Op.bytesLess x y||x==y))
 | .gtr=>K (.bool (!(Op.bytesLess x y||x==y)))
 | .geq=>K (.bool (!Op.bytesLess x y))
 | _=>False
def xq (op:BinOp) (k k':FloatKind) (x y:Nat) (K:AV->Prop):Prop:=
 k=k'/\match op with
 | .add=>∃r,k.format.add x y=some r/\K (.fl k r)
 | .sub=>∃r,k.format.sub x y=some r/\K (.fl k r)
 | .mul=>∃r,k.format.mul x y=some r/\K (.fl k r)
 | .eql=>K (.bool (k.format.order x y==some .eq))
 | .neq=>K (.bool (k.format.order x y != some .eq))
 | .lss=>K (.bool (k.format.order x y==some .lt))
 | .gtr=>K (.bool (k.format.order x y==some .gt))
 | .leq=>K (.bool (k.format.order x y==some .lt||k.format.order x y==some .eq))
 | .geq=>K (.bool (k.format.order x y==some .gt||k.format.order x y==some .eq))
 | _=>False
def wP (op:BinOp) (k k':FloatKind) (a b c d:Nat) (K:AV->Prop):Prop:=
 k=k'/\match op with
 | .add=>∃r i,k.format.add a c=some r/\k.format.add b d=some i/\K (.cx k r i)
 | .sub=>∃r i,k.format.sub a c=some r/\k.format.sub b d=some i/\K (.cx k r i)
 | .eql=>K (.bool (k.format.order a c==some .eq&&k.format.order b d==some .eq))
 | .neq=>K (.bool (!(k.format.order a c==some .eq&&k.format.order b d==some .eq)))
 | _=>False
def abin (γ:Bool) (op:BinOp) (x y:AV) (K:AV->Prop):Prop:=
 match x,y with
 | .int k a,.int k' b=>intBin γ op k k' a b K
 | .str a,.str b=>strBin γ op a b K
 | .fl k a,.fl k' b=>xq op k k' a b K
 | .cx k a b,.cx k' c d=>wP op k k' a b c d K
 | _,_=>False
section
variable {P:Program} {X:Nat->Prop} {w:World} {ρ:Loc} {γ:Bool} {K:AV->Prop}
def pB (P:Program) (X:Nat->Prop) (w:World) (ρ:Loc) (s:Sem Value) (K:AV->Prop):Prop:=∃v av,fa P w s v/\RV X w ρ v av/\K av
theorem QY {op:BinOp} {k k':IntKind} {x y:Int} {t:TypeId} (h:intBin γ op k k' x y K) (hγ:γ=true):pB P X w ρ (binOp op t (.int k x) (.int k' y)) K:=by
 cases op<;>simp only[intBin]at h
 case shl=>have h1:=h.1 hγ;exact⟨.int k (k.wrap (x*2^(min y.toNat k.bits))),_,λw' _=>by simp[binOp,Op.shift,Int.not_lt.2 h1],.int _ _ _,h.2⟩
 case shr=>have h1:=h.1 hγ;exact⟨.int k (x.fdiv (2^(min y.toNat k.bits))),_,λw' _=>by simp[binOp,Op.shift,Int.not_lt.2 h1],.int _ _ _,h.2⟩
 case quo=>obtain⟨rfl,h1,h2⟩:=h;have h1:=h1 hγ;exact⟨.int k (k.wrap (x.tdiv y)),_,λw' _=>by simp[binOp,Op.intDiv,h1],.int _ _ _,h2⟩
 case rem=>obtain⟨rfl,h1,h2⟩:=h;have h1:=h1 hγ;exact⟨.int k (x.tmod y),_,λw' _=>by simp[binOp,Op.intDiv,h1],.int _ _ _,h2⟩
 case eql=>obtain⟨rfl,h2⟩:=h;exact⟨.bool (decide (x=y)),_,λw' _=>by simp[binOp,Op.intCmp];rfl,.bool _ _,h2⟩
 case neq=>obtain⟨rfl,h2⟩:=h;exact⟨.bool (!decide (x=y)),_,λw' _=>by simp[binOp,Op.intCmp];rfl,.bool _ _,h2⟩
 case and=>obtain⟨rfl,h2⟩:=h;exact⟨.int k (bits .and k x y),_,λw' _=>by simp only[binOp,ne_eq,not_true_eq_false,if_false,intBits_and,Sem.run_pure],.int _ _ _,h2⟩
 case or=>obtain⟨rfl,h2⟩:=h;exact⟨.int k (bits .or k x y),_,λw' _=>by simp only[binOp,ne_eq,not_true_eq_false,if_false,intBits_or,Sem.run_pure],.int _ _ _,h2⟩
 case xor=>obtain⟨rfl,h2⟩:=h;exact⟨.int k (bits .xor k x y),_,λw' _=>by simp only[binOp,ne_eq,not_true_eq_false,if_false,intBits_xor,Sem.run_pure],.int _ _ _,h2⟩
 case andNot=>obtain⟨rfl,h2⟩:=h;exact⟨.int k (bits .andNot k x y),_,λw' _=>by simp only[binOp,ne_eq,not_true_eq_false,if_false,intBits_andNot,Sem.run_pure],.int _ _ _,h2⟩
 all_goals (obtain⟨rfl,h2⟩:=h;exact⟨_,_,λw' _=>by simp[binOp,Op.intArith,Op.intCmp];rfl,by first | exact .int _ _ _ | exact .bool _ _,h2⟩)
theorem Ju (x:List UInt8):(⟨x.toArray⟩:ByteArray).toList=x:=by simp[ByteArray.toList_eq]
theorem Js (x y:List UInt8):(⟨x.toArray⟩:ByteArray)++⟨y.toArray⟩=⟨(x++y).toArray⟩:=by
 apply ByteArray.ext;simp[ByteArray.data_append]
theorem ZZ {op:BinOp} {x y:List UInt8} {t:TypeId} (h:strBin γ op x y K) (hγ:γ=true):pB P X w ρ (binOp op t (.string ⟨x.toArray⟩) (.string ⟨y.toArray⟩)) K:=by
 cases op<;>simp only[strBin]at h
 case add=>
  have h1:=h.1 hγ;refine⟨.string ⟨(x++y).toArray⟩,_,λw' _=>?_,.str _ _,h.2⟩;have:¬((((⟨x.toArray⟩:ByteArray).size+(⟨y.toArray⟩:ByteArray).size:Nat):Int) > IntKind.i64.max):=by simp[ByteArray.size];omega
  simp only[binOp,Op.stringOp,if_neg this,Sem.run_pure,Js]
 all_goals first | exact False.elim h | (refine⟨_,_,λw' _=>?_,.bool _ _,h⟩;simp[binOp,Op.stringOp,Ju])
theorem Oc {op:BinOp} {k k':FloatKind} {x y:Nat} {t:TypeId} (h:xq op k k' x y K):pB P X w ρ (binOp op t (.float k x) (.float k' y)) K:=by
 obtain⟨rfl,h⟩:=h;cases op<;>simp only at h
 case add=>obtain⟨r,h1,h2⟩:=h;exact⟨.float k r,_,λw' _=>by simp[binOp,Op.floatArith,h1],.fl _ _ _,h2⟩
 case sub=>obtain⟨r,h1,h2⟩:=h;exact⟨.float k r,_,λw' _=>by simp[binOp,Op.floatArith,h1],.fl _ _ _,h2⟩
 case mul=>obtain⟨r,h1,h2⟩:=h;exact⟨.float k r,_,λw' _=>by simp[binOp,Op.floatArith,h1],.fl _ _ _,h2⟩
 all_goals first | exact False.elim h | (refine⟨_,_,λw' _=>?_,.bool _ _,h⟩;simp[binOp,Op.floatCmp])
theorem L6 {op:BinOp} {k k':FloatKind} {a b c d:Nat} {t:TypeId} (h:wP op k k' a b c d K):pB P X w ρ (binOp op t (.complex k a b) (.complex k' c d)) K:=by
 obtain⟨rfl,h⟩:=h;cases op<;>simp only at h
 case add=>obtain⟨r,i,h1,h2,h3⟩:=h;exact⟨.complex k r i,_,λw' _=>by simp[binOp,Op.complexOp,Op.Complex.arith,Op.floatArith,h1,h2],.cx _ _ _ _,h3⟩
 case sub=>obtain⟨r,i,h1,h2,h3⟩:=h;exact⟨.complex k r i,_,λw' _=>by simp[binOp,Op.complexOp,Op.Complex.arith,Op.floatArith,h1,h2],.cx _ _ _ _,h3⟩
 all_goals first | exact False.elim h | (refine⟨_,_,λw' _=>?_,.bool _ _,h⟩;simp[binOp,Op.complexOp,Op.Complex.cmp,Op.floatCmp,asBool])
theorem Hu {op:BinOp} {v1 v2:Value} {x y:AV} {t:TypeId} (h1:RV X w ρ v1 x) (h2:RV X w ρ v2 y) (h:abin γ op x y K) (hγ:γ=true) :
    pB P X w ρ (binOp op t v1 v2) K/\∀x y,eqGuard op t x y v1 v2=pure ():=by
 cases h1<;>cases h2<;>simp only[abin]at h
 exact⟨QY h hγ,λx y=>eqGuard_at_int _ _ _ _ _ _ _⟩;exact⟨Oc h,λx y=>eqGuard_at_float _ _ _ _ _ _ _⟩;exact⟨L6 h,λx y=>eqGuard_at_complex _ _ _ _ _ _ _ _⟩;exact⟨ZZ h hγ,λx y=>eqGuard_at_string _ _ _ _ _ _⟩
end
end Go.Proofs.YtgghhaahnpbnmaaGreatDoor.Eng
