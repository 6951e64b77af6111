/- The proof, part 2 of 43. -/
import Derived.Test.YtoalcafkffmiiaaGreatDoorOdbGetsA
import Derived.WalkKit
import Derived.WalkSpells
import Derived.WalkLawsBesides
import Derived.Deep.LoopGhost
set_option linter.all false
namespace Go.Proofs.YtoalcafkffmiiaaGreatDoor.Eng
inductive AV where
 | undef
 | bool (b:Bool)
 | int (k:IntKind) (n:Int)
 | fl (k:FloatKind) (b:Nat)
 | cx (k:FloatKind) (re im:Nat)
 | str (s:List UInt8)
 | lit (x:Value)
 | al
 | ro (sz:Nat) (es:List AV)
 | aq (x:AV)
 | sl (id off n:Nat)
 | ptr (id i f:Nat)
 | aa (id f:Nat)
 | aK (f:Nat) (cs:List AV)
 | agg (cs:List AV)
 | af (vs:List AV)
 | gd (b:Bool) (x:AV)
 deriving Inhabited
def cellsOf:AV->List AV
 | .agg cs=>cs
 | x=>[x]
def flat (es:List AV):List AV:=es.flatMap cellsOf
def isCell:AV->Bool
 | .bool _ | .int _ _ | .fl _ _ | .cx _ _ _ | .str _ | .al | .ro _ _ | .aq _ | .sl _ _ _ | .ptr _ _ _ | .aa _ _=>true
 | .lit x=>x.oneCell'
 | _=>false
structure LW where
 b:Option Nat
 o:Nat
 sz:Nat
 fV:Nat
 cap:Nat
abbrev Loc:=Nat->Option LW
def ba:Loc:=λ_=>none
inductive RV (X:Nat->Prop) (w:World):Loc->Value->AV->Prop
 | undef (ρ:Loc) (v:Value):RV X w ρ v .undef
 | bool (ρ:Loc) (b:Bool):RV X w ρ (.bool b) (.bool b)
 | int (ρ:Loc) (k:IntKind) (n:Int):RV X w ρ (.int k n) (.int k n)
 | fl (ρ:Loc) (k:FloatKind) (b:Nat):RV X w ρ (.float k b) (.fl k b)
 | cx (ρ:Loc) (k:FloatKind) (re im:Nat):RV X w ρ (.complex k re im) (.cx k re im)
 | str (ρ:Loc) (s:List UInt8):RV X w ρ (.string ⟨s.toArray⟩) (.str s)
 | lit (ρ:Loc) (x:Value):RV X w ρ x (.lit x)
 | al (ρ:Loc):RV X w ρ (.slice none 0 0) .al
 | ro (ρ:Loc) (A:Option Addr) (c sz:Nat) (es:List AV) (vs:List Value) (hc:es.length<=c)
     (aA:∀e∈es,(cellsOf e).length=sz) (hlen:vs.length=(flat es).length)
     (hcell:∀j,j<vs.length->∃ad,A=some ad/\ad.spot=none/\¬X ad.block/\w.cell? (ad.add j)=vs[j]?)
     (hrel:∀(j:Nat) v a,vs[j]?=some v->(flat es)[j]?=some a->RV X w ba v a):RV X w ρ (.slice A es.length c) (.ro sz es)
 | aq (ρ:Loc) (ad:Addr) (x:AV) (vs:List Value) (hsp:ad.spot=none) (hlen:vs.length=(cellsOf x).length)
     (hcell:∀j,j<vs.length->¬X ad.block/\w.cell? (ad.add j)=vs[j]?)
     (hrel:∀(j:Nat) v a,vs[j]?=some v->(cellsOf x)[j]?=some a->RV X w ba v a):RV X w ρ (.pointer (some ad)) (.aq x)
 | sl (ρ:Loc) (id off n c:Nat) (L:LW) (A:Option Addr) (hL:ρ id=some L) (h1:off+n<=L.fV) (h2:n<=c) (h3:off+c<=L.cap)
     (hA:c=0\/A=L.b.map λb=>⟨b,L.o+off*L.sz,none⟩):RV X w ρ (.slice A n c) (.sl id off n)
 | ptr (ρ:Loc) (id i f:Nat) (L:LW) (b:Nat) (hL:ρ id=some L) (hb:L.b=some b) (hi:i<L.fV) (hf:f<L.sz) :
     RV X w ρ (.pointer (some ⟨b,L.o+i*L.sz+f,none⟩)) (.ptr id i f)
 | aa (ρ:Loc) (id f:Nat) (L:LW) (b:Nat) (hL:ρ id=some L) (hb:L.b=some b) :
     RV X w ρ (.pointer (some ⟨b,L.o+f,none⟩)) (.aa id f)
 | eA (ρ:Loc) (id:Nat) (L:LW) (b:Nat) (hL:ρ id=some L) (hb:L.b=some b) (hm:L.cap<L.fV) (hz:L.sz=0):RV X w ρ (.map (some b)) (.ptr id 0 0)
 | agg (ρ:Loc) (vs:Array Value) (cs:List AV) (hlen:vs.size=cs.length)
     (hrel:∀(j:Nat) v a,vs[j]?=some v->cs[j]?=some a->RV X w ρ v a):RV X w ρ (.agg vs) (.agg cs)
 | af (ρ:Loc) (vs:Array Value) (cs:List AV) (hlen:vs.size=cs.length)
     (hrel:∀(j:Nat) v a,vs[j]?=some v->cs[j]?=some a->RV X w ρ v a):RV X w ρ (.tuple vs) (.af cs)
 | aK (ρ:Loc) (f:Nat) (vs:Array Value) (cs:List AV) (hlen:vs.size=cs.length)
     (hrel:∀(j:Nat) v a,vs[j]?=some v->cs[j]?=some a->RV X w ρ v a):RV X w ρ (.func (.func f) #[] vs) (.aK f cs)
 | gd (ρ:Loc) (b:Bool) (x:AV) (v:Value) (h:b=true->RV X w ρ v x) (h':b=false->v=Go.undef):RV X w ρ v (.gd b x)
theorem sr {w:World} {a:Addr} {v:Value} (h:w.cell? a=some v):a.block<w.heap.size:=World.block_lt_of_cell? w a h
theorem block_add (a:Addr) (n:Nat):(a.add n).block=a.block:=by unfold Addr.add;split<;>rfl
theorem rj (a:Addr) (n:Nat) (h:a.spot=none):(a.add n).spot=none:=by unfold Addr.add;split<;>simp_all
theorem add_eq (a:Addr) (n:Nat) (h:a.spot=none):a.add n=⟨a.block,a.off+n,none⟩:=by
 unfold Addr.add;split
 ·rename_i h0;subst h0;cases a;simp_all
 ·simp
theorem add_add (a:Addr) (m n:Nat) (h:a.spot=none):(a.add m).add n=a.add (m+n):=by
 rw[add_eq a m h,add_eq a (m+n) h,add_eq _ n rfl,adX]
theorem pZ {w w':World} {a:Addr} (h:w'.heap[a.block]?=w.heap[a.block]?):w'.cell? a=w.cell? a:=World.cell?_of_block h
theorem RV.mono {X X':Nat->Prop} {w w':World} {ρ:Loc} {v:Value} {a:AV} (h:RV X w ρ v a)
    (hw:∀b,¬X b->b<w.heap.size->w'.heap[b]?=w.heap[b]?) (hX:∀b,b<w.heap.size->¬X b->¬X' b) :
    ∀ρ',(∀id L,ρ id=some L->ρ' id=some L)->RV X' w' ρ' v a:=by
 induction h with
 | undef ρ v=>intro ρ' _;exact .undef _ _
 | bool ρ b=>intro ρ' _;exact .bool _ _
 | int ρ k n=>intro ρ' _;exact .int _ _ _
 | fl ρ k b=>intro ρ' _;exact .fl _ _ _
 | cx ρ k re im=>intro ρ' _;exact .cx _ _ _ _
 | str ρ s=>intro ρ' _;exact .str _ _
 | lit ρ x=>intro ρ' _;exact .lit _ _
 | al ρ=>intro ρ' _;exact .al _
 | ro ρ A c sz es vs hc aA hlen hcell hrel ih=>
  intro ρ' _;refine .ro _ _ _ _ _ vs hc aA hlen (λj hj=>?_) (λj v a h1 h2=>ih j v a h1 h2 ba (λ_ _ h=>by simp[ba]at h));obtain⟨ad,h1,h2,h3,h4⟩:=hcell j hj;have hv:w.cell? (ad.add j)=some vs[j]:=by rw[h4];exact List.getElem?_eq_getElem hj
  have hlt:=sr hv;rw[block_add]at hlt
  exact⟨ad,h1,h2,hX _ hlt h3,(pZ (w:=w) (by rw[block_add];exact hw _ h3 hlt)).trans h4⟩
 | aq ρ ad x vs hsp hlen hcell hrel ih=>
  intro ρ' _;refine .aq _ _ _ vs hsp hlen (λj hj=>?_) (λj v a h1 h2=>ih j v a h1 h2 ba (λ_ _ h=>by simp[ba]at h));obtain⟨h3,h4⟩:=hcell j hj;have hv:w.cell? (ad.add j)=some vs[j]:=by rw[h4];exact List.getElem?_eq_getElem hj
  have hlt:=sr hv;rw[block_add]at hlt
  exact⟨hX _ hlt h3,(pZ (w:=w) (by rw[block_add];exact hw _ h3 hlt)).trans h4⟩
 | sl ρ id off n c L A hL h1 h2 h3 hA=>intro ρ' hρ;exact .sl _ _ _ _ _ L A (hρ _ _ hL) h1 h2 h3 hA
 | ptr ρ id i f L b hL hb hi hf=>intro ρ' hρ;exact .ptr _ _ _ _ L b (hρ _ _ hL) hb hi hf
 | aa ρ id f L b hL hb=>intro ρ' hρ;exact .aa _ _ _ L b (hρ _ _ hL) hb
 | eA ρ id L b hL hb hm hz=>intro ρ' hρ;exact .eA _ _ L b (hρ _ _ hL) hb hm hz
 | agg ρ vs cs hlen hrel ih=>intro ρ' hρ;exact .agg _ _ _ hlen (λj v a h1 h2=>ih j v a h1 h2 ρ' hρ)
 | af ρ vs cs hlen hrel ih=>intro ρ' hρ;exact .af _ _ _ hlen (λj v a h1 h2=>ih j v a h1 h2 ρ' hρ)
 | aK ρ f vs cs hlen hrel ih=>intro ρ' hρ;exact .aK _ _ _ _ hlen (λj v a h1 h2=>ih j v a h1 h2 ρ' hρ)
 | gd ρ b x v h h' ih=>intro ρ' hρ;exact .gd _ _ _ _ (λhb=>ih hb ρ' hρ) h'
inductive MK where
 | s (b:List UInt8)
 | i (k:IntKind) (n:Int)
 deriving DecidableEq
def MK.val:MK->Value
 | .s b=>.string ⟨b.toArray⟩
 | .i k n=>.int k n
def MK.ok:Option IntKind->MK->Prop
 | none,.s _=>True
 | some k,.i k' _=>k'=k
 | _,_=>False
inductive aG where
 | arr (sz:Nat) (es:List AV)
 | var (cs:List AV)
 | mp (kd:Option IntKind) (l:List (MK×AV))
structure St where
 s:List (Nat×AV)
 h:List (Nat×aG)
def sget:List (Nat×AV)->Nat->Option AV
 | [],_=>none
 | (k,v)::r,i=>if i=k then some v else sget r i
def hget:List (Nat×aG)->Nat->Option aG
 | [],_=>none
 | (k,v)::r,i=>if i=k then some v else hget r i
def hdel (id:Nat):List (Nat×aG)->List (Nat×aG)
 | []=>[]
 | (k,v)::r=>if id=k then hdel id r else(k,v)::hdel id r
def bD (h:List (Nat×aG)) (id:Nat) (W:aG):List (Nat×aG):=(id,W)::hdel id h
theorem ke (id j:Nat):∀h,hget (hdel id h) j=if j=id then none else hget h j
 | []=>by simp[hdel,hget]
 | (k,v)::r=>by
  unfold hdel;by_cases hk:id=k
  ·subst hk;simp only[if_true,ke id j r,hget];split<;>rfl
  ·simp only[hk,if_false,hget,ke id j r];by_cases hj:j=k
   ·subst hj;simp[Ne.symm hk]
   ·simp[hj]
theorem xh (h:List (Nat×aG)) (id j:Nat) (W:aG):hget (bD h id W) j=if j=id then some W else hget h j:=by
 simp only[bD,hget,ke];split<;>simp_all
def killC (id:Nat):AV->AV
 | .sl i o n=>if i=id then .undef else .sl i o n
 | .ptr i j f=>if i=id then .undef else .ptr i j f
 | .aa i f=>if i=id then .undef else .aa i f
 | .agg _=>.undef
 | .af _=>.undef
 | .gd _ _=>.undef
 | .aK _ _=>.undef
 | x=>x
def killA (id:Nat):AV->AV
 | .agg cs=>.agg (cs.map (killC id))
 | .aK f cs=>.aK f (cs.map (killC id))
 | x=>killC id x
def kill (id:Nat):AV->AV
 | .af cs=>.af (cs.map (killA id))
 | .gd b x=>.gd b (killA id x)
 | x=>killA id x
def killS (id:Nat):List (Nat×AV)->List (Nat×AV)
 | []=>[]
 | (k,v)::r=>(k,kill id v)::killS id r
def mg (id:Nat):aG->aG
 | .arr sz es=>.arr sz es
 | .var cs=>.var (cs.map (killC id))
 | .mp kd l=>.mp kd l
def gB (id:Nat):List (Nat×aG)->List (Nat×aG)
 | []=>[]
 | (k,v)::r=>(k,mg id v)::gB id r
theorem F5 (id j:Nat):∀s,sget (killS id s) j=(sget s j).map (kill id)
 | []=>rfl
 | (k,v)::r=>by
  simp only[killS,sget,F5 id j r];split<;>simp
theorem xi (id j:Nat):∀s,hget (gB id s) j=(hget s j).map (mg id)
 | []=>rfl
 | (k,v)::r=>by
  simp only[gB,hget,xi id j r];split<;>simp
def bB (ρ:Loc) (id:Nat) (L:LW):Loc:=λj=>if j=id then some L else ρ j
section
variable {X:Nat->Prop} {w:World}
theorem RV.killC {ρ:Loc} {v:Value} {a:AV} (h:RV X w ρ v a) (id:Nat) (L:LW):RV X w (bB ρ id L) v (killC id a):=by
 cases h with
 | undef _ v=>exact .undef _ _
 | bool _ b=>exact .bool _ _
 | int _ k n=>exact .int _ _ _
 | fl _ k b=>exact .fl _ _ _
 | cx _ k re im=>exact .cx _ _ _ _
 | str _ s=>exact .str _ _
 | lit _ x=>exact .lit _ _
 | al _=>exact .al _
 | ro _ A c sz es vs hc aA hlen hcell hrel=>exact .ro _ _ _ _ _ vs hc aA hlen hcell hrel
 | aq _ ad x vs hsp hlen hcell hrel=>exact .aq _ _ _ vs hsp hlen hcell hrel
 | sl _ i off n c L' A hL h1 h2 h3 hA=>
  show RV X w _ _ (if i=id then .undef else .sl i off n)
  split;exact .undef _ _
  ·rename_i hne;exact .sl _ _ _ _ _ L' A (by simp[bB,hne,hL]) h1 h2 h3 hA
 | ptr _ i j f L' b hL hb hi hf=>
  show RV X w _ _ (if i=id then .undef else .ptr i j f)
  split;exact .undef _ _
  ·rename_i hne;exact .ptr _ _ _ _ L' b (by simp[bB,hne,hL]) hb hi hf
 | eA _ i L' b hL hb hm hz=>
  show RV X w _ _ (if i=id then .undef else .ptr i 0 0)
  split;exact .undef _ _
  ·rename_i hne;exact .eA _ _ L' b (by simp[bB,hne,hL]) hb hm hz
 | aa _ i f L' b hL hb=>
  show RV X w _ _ (if i=id then .undef else .aa i f)
  split;exact .undef _ _
  ·rename_i hne;exact .aa _ _ _ L' b (by simp[bB,hne,hL]) hb
 | agg _ vs cs hlen hrel=>exact .undef _ _
 | af _ vs cs hlen hrel=>exact .undef _ _
 | gd _ b x v h h'=>exact .undef _ _
 | aK _ f vs cs hlen hrel=>exact .undef _ _
theorem RV.killA {ρ:Loc} {v:Value} {a:AV} (h:RV X w ρ v a) (id:Nat) (L:LW):RV X w (bB ρ id L) v (killA id a):=by
 cases a with
 | agg cs=>
  cases h with
  | agg _ vs _ hlen hrel=>
   refine .agg _ _ _ (by simpa using hlen) (λj v a h1 h2=>?_);rw[List.getElem?_map]at h2;obtain⟨a',h3,rfl⟩:=acR.1 h2
   exact(hrel j v a' h1 h3).killC id L
 | aK f cs=>
  cases h with
  | aK _ _ vs _ hlen hrel=>
   refine .aK _ _ _ _ (by simpa using hlen) (λj v a h1 h2=>?_);rw[List.getElem?_map]at h2;obtain⟨a',h3,rfl⟩:=acR.1 h2
   exact(hrel j v a' h1 h3).killC id L
 | _=>exact h.killC id L
theorem RV.kill {ρ:Loc} {v:Value} {a:AV} (h:RV X w ρ v a) (id:Nat) (L:LW):RV X w (bB ρ id L) v (kill id a):=by
 cases a with
 | af cs=>
  cases h with
  | af _ vs _ hlen hrel=>
   refine .af _ _ _ (by simpa using hlen) (λj v a h1 h2=>?_);rw[List.getElem?_map]at h2;obtain⟨a',h3,rfl⟩:=acR.1 h2
   exact(hrel j v a' h1 h3).killA id L
 | gd b x=>
  cases h with
  | gd _ _ _ _ h h'=>exact .gd _ _ _ _ (λhb=>(h hb).killA id L) h'
 | _=>exact h.killA id L
end
def aW (ρ:Loc) (h:List (Nat×aG)) (b:Nat):Prop:=∃id W L,hget h id=some W/\ρ id=some L/\L.b=some b
def XX (X0:Nat->Prop) (ρ:Loc) (h:List (Nat×aG)) (b:Nat):Prop:=X0 b\/aW ρ h b
def fR (X:Nat->Prop) (w:World) (ρ:Loc) (b o cap:Nat) (cs:List AV):Prop:=
 ∃cur t fz,w.heap[b]?=some (.cells cur t fz)/\(∀j,j<cur.size->¬(fz.1<=j/\j<fz.2))/\o+cap<=cur.size/\cs.length<=cap /\
  ∀(j:Nat) v a,cur[o+j]?=some v->cs[j]?=some a->RV X w ρ v a
def MapAt (X:Nat->Prop) (w w':World) (b:Nat) (kd:Option IntKind) (l:List (MK×AV)):Prop:=
 ∃es clock,w'.heap[b]?=some (.map es clock)/\es.size=l.length/\(∀p∈l,MK.ok kd p.1)/\∀(j:Nat) e p,es[j]?=some e->l[j]?=some p->e.key=p.1.val/\RV X w ba e.val p.2
def jT (X:Nat->Prop) (w:World) (ρ:Loc) (L:LW):aG->Prop
 | .arr sz es=>L.sz=sz/\L.fV=es.length/\L.fV<=L.cap/\(∀e∈es,(cellsOf e).length=sz) /\
     match L.b with
     | none=>L.cap=0
     | some b=>fR X w ba b L.o (L.cap*sz) (flat es)
 | .var cs=>∃b,L.b=some b/\fR X w ρ b L.o cs.length cs
 | .mp kd l=>∃b,L.b=some b/\L.cap<L.fV/\L.sz=0/\MapAt X w w b kd l
structure dI (X0:Nat->Prop) (ρ:Loc) (h:List (Nat×aG)) (w:World):Prop where
 win:∀id W,hget h id=some W->∃L,ρ id=some L/\jT (XX X0 ρ h) w ρ L W
 cW:∀id id' W W' L L' b,hget h id=some W->hget h id'=some W'->ρ id=some L->ρ id'=some L'->L.b=some b->L'.b=some b->id=id'
 out:∀id W L b,hget h id=some W->ρ id=some L->L.b=some b->¬X0 b
structure Env where
 w0:World
 F:Nat->Prop
 X0:Nat->Prop
 N:Nat
 B:Nat
 gv:Nat->Value
 rd:Option Nat
 dn:Nat
 xf:dn<=w0.heap.size
 df:List Deferred
def bl (E:Env) (a:Act) (k:Nat):Value:=if k<E.N then a.tmps.getD k undef else E.gv k
structure rK (E:Env) (w:World):Prop where
 os:w.os=E.w0.os
 tape:w.tape=E.w0.tape
 output:w.output=E.w0.output
 size:E.w0.heap.size<=w.heap.size
 block:∀b,b<E.w0.heap.size->¬E.F b->w.heap[b]?=E.w0.heap[b]?
 cT:kD E.F E.w0
def marksOf:List Deferred->List Nat
 | []=>[]
 | ⟨.collected D,_⟩::r=>D::marksOf r
 | _::r=>marksOf r
def nu (D:Nat):Deferred:={target:=.collected D,args:=#[]}
def gQ (n0:Nat) (df ds:List Deferred) (w:World):Prop:=
 (∃Ds:List Nat,ds=Ds.map nu++df)/\(marksOf ds).Nodup/\∀D∈marksOf ds,n0<=D/\w.heap[D]?=some (.deferred (some []))
theorem gQ.nil (n0:Nat) (w:World):gQ n0 [] [] w:=⟨⟨[],rfl⟩,List.nodup_nil,λ_ h=>by cases h⟩
theorem gQ.turn {n0:Nat} {df ds:List Deferred} {w w':World} (h:gQ n0 df ds w) (hw:∀(b:Nat),w.heap[b]?=some (.deferred (some []))->w'.heap[b]?=w.heap[b]?):gQ n0 df ds w':=by
 obtain⟨h1,h2,h3⟩:=h;exact⟨h1,h2,λD hD=>⟨(h3 D hD).1,(hw D (h3 D hD).2).trans (h3 D hD).2⟩⟩
structure ai (E:Env) (ρ:Loc) (st:St) (a:Act) (w:World):Prop where
 defers:gQ E.dn E.df a.defers w
 size:a.tmps.size=E.N
 aX:∀k av,sget st.s k=some av->(k<E.N\/2000000<=k)/\RV (XX E.X0 ρ st.h) w ρ (bl E a k) av
 heap:dI E.X0 ρ st.h w
 base:∀id W L b,hget st.h id=some W->ρ id=some L->L.b=some b->E.w0.heap.size<=b\/E.F b
 an:rK E w
 x0:∀b,E.X0 b->b<w.heap.size
def Rel (E:Env) (st:St) (a:Act) (w:World):Prop:=∃ρ,ai E ρ st a w
structure aN (w w':World):Prop where
 os:w'.os=w.os
 tape:w'.tape=w.tape
 output:w'.output=w.output
 size:w.heap.size<=w'.heap.size
 block:∀b,b<w.heap.size->w'.heap[b]?=w.heap[b]?
theorem aN.refl (w:World):aN w w:=⟨rfl,rfl,rfl,acT _,λ_ _=>rfl⟩
theorem aN.drew (w:World):aN w w.drew:=⟨rfl,rfl,rfl,acT _,λ_ _=>rfl⟩
theorem aN.trans {a b c:World} (h:aN a b) (k:aN b c):aN a c:=
 ⟨k.os.trans h.os,k.tape.trans h.tape,k.output.trans h.output,adM h.size k.size,λi hi=>(k.block i (ac3 hi h.size)).trans (h.block i hi)⟩
def fT {α:Type} (P:Program) (w:World) (s:Sem α) (v:α):Prop:=∀w',aN w w'->s.run P w'=.ok v w'
theorem fT.here {α:Type} {P:Program} {w:World} {s:Sem α} {v:α} (h:fT P w s v):s.run P w=.ok v w:=h w (aN.refl w)
theorem aN.alloc (w:World) (o:Obj):aN w (w.alloc o):=⟨rfl,rfl,rfl,by simp,λk hk=>RowKit.Below.heap_alloc w o k hk⟩
theorem iP {E:Env} {ρ:Loc} {st:St} {a:Act} {w:World} (h:ai E ρ st a w) {b:Nat} (hb:aW ρ st.h b):b<w.heap.size:=by
 obtain⟨id,W,L,h1,h2,h3⟩:=hb;obtain⟨L',h4,h5⟩:=h.heap.win id W h1;rw[h2]at h4;obtain rfl:=Option.some.inj h4
 cases W with
 | arr sz es=>
  obtain⟨_,_,_,_,h6⟩:=h5;rw[h3]at h6;obtain⟨cur,t,fz,h7,_⟩:=h6
  exact(Array.getElem?_eq_some_iff.1 h7).1
 | var cs=>
  obtain⟨b',h6,cur,t,fz,h7,_⟩:=h5;rw[h3]at h6;obtain rfl:=Option.some.inj h6
  exact(Array.getElem?_eq_some_iff.1 h7).1
 | mp kd l=>
  obtain⟨b',h6,_,_,es,c,h7,_⟩:=h5;rw[h3]at h6;obtain rfl:=Option.some.inj h6;exact(Array.getElem?_eq_some_iff.1 h7).1
def n9 (w:World) (b:Nat):Prop:=(∃cur t fz,w.heap[b]?=some (.cells cur t fz))\/∃es c,w.heap[b]?=some (.map es c)
theorem yg {X:Nat->Prop} {ρ:Loc} {h:List (Nat×aG)} {w:World} (hh:dI X ρ h w) {b:Nat} (hb:aW ρ h b):n9 w b:=by
 obtain⟨id,W,L,h1,h2,h3⟩:=hb;obtain⟨L',h4,h5⟩:=hh.win id W h1;rw[h2]at h4;obtain rfl:=Option.some.inj h4
 cases W with
 | arr sz es=>
  obtain⟨_,_,_,_,h6⟩:=h5;rw[h3]at h6;obtain⟨cur,t,fz,h7,_⟩:=h6
  exact .inl ⟨cur,t,fz,h7⟩
 | var cs=>
  obtain⟨b',h6,cur,t,fz,h7,_⟩:=h5;rw[h3]at h6;obtain rfl:=Option.some.inj h6
  exact .inl ⟨cur,t,fz,h7⟩
 | mp kd l=>
  obtain⟨b',h6,_,_,es,c,h7,_⟩:=h5;rw[h3]at h6;obtain rfl:=Option.some.inj h6;exact .inr ⟨es,c,h7⟩
theorem kV {X:Nat->Prop} {ρ:Loc} {h:List (Nat×aG)} {w:World} (hh:dI X ρ h w) {b:Nat} {o:Option (List Deferred)} (hb:w.heap[b]?=some (.deferred o)):¬aW ρ h b:=λhx=>by
 rcases yg hh hx with⟨_,_,_,h1⟩ | ⟨_,_,h1⟩<;>(rw[h1]at hb;cases hb)
theorem qp (a:Act) (d k:Nat) (v:Value) (hd:d<a.tmps.size):(a.put (some d) v).tmps.getD k undef=if k=d then v else a.tmps.getD k undef:=by
 simp only[Act.put,ac0,Array.getElem?_setIfInBounds];by_cases h:d=k
 ·subst h;simp[hd]
 ·simp[h,Ne.symm h]
theorem ai.put {E:Env} {ρ:Loc} {st:St} {a:Act} {w:World} (h:ai E ρ st a w) (d:Nat) (hd:d<E.N) {v:Value} {av:AV} (hv:RV (XX E.X0 ρ st.h) w ρ v av) :
    ai E ρ ⟨(d,av)::st.s,st.h⟩ (a.put (some d) v) w where
 defers:=h.defers
 size:=by simp[Act.put,h.size]
 aX:=λk av' hk=>by
  simp only[sget]at hk;have hp:=qp a d k v (by rw[h.size];exact hd);split at hk
  ·rename_i hkd;subst hkd;refine⟨.inl hd,?_⟩;unfold bl;rw[if_pos hd,hp,if_pos rfl,<-Option.some.inj hk];exact hv
  ·rename_i hkd;obtain⟨h1,h2⟩:=h.aX k av' hk;refine⟨h1,?_⟩;unfold bl at h2 |-;split
   ·rename_i hlt;rw[if_pos hlt]at h2;rw[hp,if_neg hkd];exact h2
   ·rename_i hlt;rw[if_neg hlt]at h2;exact h2
 heap:=h.heap
 base:=h.base
 an:=h.an
 x0:=h.x0
theorem fR.mono {X X':Nat->Prop} {w w':World} {ρ ρ':Loc} {b o cap:Nat} {cs:List AV} (h:fR X w ρ b o cap cs)
    (hb:w'.heap[b]?=w.heap[b]?)
    (hw:∀b,¬X b->b<w.heap.size->w'.heap[b]?=w.heap[b]?) (hX:∀b,b<w.heap.size->¬X b->¬X' b) (hρ:∀id L,ρ id=some L->ρ' id=some L):fR X' w' ρ' b o cap cs:=by
 obtain⟨cur,t,fz,h1,h2,h3,h4,h5⟩:=h;exact⟨cur,t,fz,hb.trans h1,h2,h3,h4,λj v a e1 e2=>(h5 j v a e1 e2).mono hw hX ρ' hρ⟩
theorem MapAt.up {X X':Nat->Prop} {w w1 w' w2:World} {b:Nat} {kd:Option IntKind} {l:List (MK×AV)} (h:MapAt X w w1 b kd l) (hb:w2.heap[b]?=w1.heap[b]?)
    (hw:∀b,¬X b->b<w.heap.size->w'.heap[b]?=w.heap[b]?) (hX:∀b,b<w.heap.size->¬X b->¬X' b):MapAt X' w' w2 b kd l:=by
 obtain⟨es,clock,h1,h2,h3,h4⟩:=h;exact⟨es,clock,hb.trans h1,h2,h3,λj e p e1 e2=>⟨(h4 j e p e1 e2).1,(h4 j e p e1 e2).2.mono hw hX ba (λ_ _ h=>h)⟩⟩
theorem jT.mono {X X':Nat->Prop} {w w':World} {ρ ρ':Loc} {L:LW} {W:aG} (h:jT X w ρ L W)
    (hb:∀b,L.b=some b->w'.heap[b]?=w.heap[b]?)
    (hw:∀b,¬X b->b<w.heap.size->w'.heap[b]?=w.heap[b]?) (hX:∀b,b<w.heap.size->¬X b->¬X' b) (hρ:∀id L,ρ id=some L->ρ' id=some L):jT X' w' ρ' L W:=by
 cases W with
 | arr sz es=>
  obtain⟨h1,h2,h3,h4,h5⟩:=h;refine⟨h1,h2,h3,h4,?_⟩
  cases hLb:L.b with
  | none=>rw[hLb]at h5;exact h5
  | some b=>rw[hLb]at h5;exact h5.mono (hb b hLb) hw hX (λ_ _ h=>h)
 | var cs=>
  obtain⟨b,h1,h2⟩:=h
  exact⟨b,h1,h2.mono (hb b h1) hw hX hρ⟩
 | mp kd l=>
  obtain⟨b,h1,h2,h3,h4⟩:=h;exact⟨b,h1,h2,h3,h4.up (hb b h1) hw hX⟩
theorem rK.same {E:Env} {w w':World} (h:rK E w) (k:aN w w'):rK E w':=
 ⟨k.os.trans h.os,k.tape.trans h.tape,k.output.trans h.output,adM h.size k.size,λb hb hF=>(k.block b (ac3 hb h.size)).trans (h.block b hb hF),h.cT⟩
theorem ai.same {E:Env} {ρ:Loc} {st:St} {a:Act} {w w':World} (h:ai E ρ st a w) (k:aN w w'):ai E ρ st a w' where
 defers:=h.defers.turn (λb hb=>k.block b (Array.getElem?_eq_some_iff.1 hb).1)
 size:=h.size
 aX:=λi av hi=>⟨(h.aX i av hi).1,(h.aX i av hi).2.mono (λb _ hb=>k.block b hb) (λb _ hb=>hb) ρ (λ_ _ h=>h)⟩
 heap:={
  win:=λid W hW=>by
   obtain⟨L,h1,h2⟩:=h.heap.win id W hW;exact⟨L,h1,h2.mono (λb hb=>k.block b (iP h ⟨id,W,L,hW,h1,hb⟩)) (λb _ hb=>k.block b hb) (λb _ hb=>hb) (λ_ _ h=>h)⟩
  cW:=h.heap.cW
  out:=h.heap.out}
 base:=h.base
 an:=h.an.same k
 x0:=λb hb=>ac3 (h.x0 b hb) k.size
def rJ (X:Nat->Prop) (w w':World) (ρ:Loc) (b o cap:Nat) (cs:List AV):Prop:=
 ∃cur t fz,w'.heap[b]?=some (.cells cur t fz)/\(∀j,j<cur.size->¬(fz.1<=j/\j<fz.2))/\o+cap<=cur.size/\cs.length<=cap /\
  ∀(j:Nat) v a,cur[o+j]?=some v->cs[j]?=some a->RV X w ρ v a
def rN (X:Nat->Prop) (w w':World) (ρ:Loc) (L:LW):aG->Prop
 | .arr sz es=>L.sz=sz/\L.fV=es.length/\L.fV<=L.cap/\(∀e∈es,(cellsOf e).length=sz) /\
     match L.b with
     | none=>L.cap=0
     | some b=>rJ X w w' ba b L.o (L.cap*sz) (flat es)
 | .var cs=>∃b,L.b=some b/\rJ X w w' ρ b L.o cs.length cs
 | .mp kd l=>∃b,L.b=some b/\L.cap<L.fV/\L.sz=0/\MapAt X w w' b kd l
theorem rJ.up {X X':Nat->Prop} {w w':World} {ρ ρ':Loc} {b o cap:Nat} {cs:List AV} (h:rJ X w w' ρ b o cap cs)
    (hw:∀b,¬X b->b<w.heap.size->w'.heap[b]?=w.heap[b]?) (hX:∀b,b<w.heap.size->¬X b->¬X' b) (hρ:∀id L,ρ id=some L->ρ' id=some L):fR X' w' ρ' b o cap cs:=by
 obtain⟨cur,t,fz,h1,h2,h3,h4,h5⟩:=h;exact⟨cur,t,fz,h1,h2,h3,h4,λj v a e1 e2=>(h5 j v a e1 e2).mono hw hX ρ' hρ⟩
theorem rN.up {X X':Nat->Prop} {w w':World} {ρ ρ':Loc} {L:LW} {W:aG} (h:rN X w w' ρ L W)
    (hw:∀b,¬X b->b<w.heap.size->w'.heap[b]?=w.heap[b]?) (hX:∀b,b<w.heap.size->¬X b->¬X' b) (hρ:∀id L,ρ id=some L->ρ' id=some L):jT X' w' ρ' L W:=by
 cases W with
 | arr sz es=>
  obtain⟨h1,h2,h3,h4,h5⟩:=h;refine⟨h1,h2,h3,h4,?_⟩
  cases hLb:L.b with
  | none=>rw[hLb]at h5;exact h5
  | some b=>rw[hLb]at h5;exact h5.up hw hX (λ_ _ h=>h)
 | var cs=>
  obtain⟨b,h1,h2⟩:=h
  exact⟨b,h1,h2.up hw hX hρ⟩
 | mp kd l=>
  obtain⟨b,h1,h2,h3,h4⟩:=h;exact⟨b,h1,h2,h3,h4.up rfl hw hX⟩
theorem aG.QU {X:Nat->Prop} {w:World} {ρ:Loc} {L:LW} {W:aG} (h:jT X w ρ L W) (id:Nat) (L':LW):jT X w (bB ρ id L') L (mg id W):=by
 cases W with
 | arr sz es=>exact h
 | var cs=>
  obtain⟨b,h1,cur,t,fz,h2,h3,h4,h5,h6⟩:=h;refine⟨b,h1,cur,t,fz,h2,h3,by simpa using h4,by simp,λj v a e1 e2=>?_⟩;rw[List.getElem?_map]at e2;obtain⟨a',h7,rfl⟩:=acR.1 e2
  exact(h6 j v a' e1 h7).killC id L'
 | mp kd l=>exact h
theorem ai.cT {E:Env} {ρ:Loc} {st:St} {a:Act} {w:World} (h:ai E ρ st a w):kD (aW ρ st.h) w:=by
 refine⟨h.an.cT.1.stays (λb cs t fz hb _=>h.an.block b (h.an.cT.1.lt hb) (h.an.cT.2 b hb)),λb hb ⟨id,W,L,h1,h2,h3⟩=>?_⟩;rcases h.base id W L b h1 h2 h3 with g | g
 ·have:=h.an.cT.1.lt hb;omega
 exact h.an.cT.2 b hb g
structure vm (ρ:Loc) (h:List (Nat×aG)) (id:Nat) (w w':World):Prop where
 os:w'.os=w.os
 tape:w'.tape=w.tape
 output:w'.output=w.output
 size:w.heap.size<=w'.heap.size
 block:∀b,b<w.heap.size->(∀W L,hget h id=some W->ρ id=some L->L.b≠some b)->w'.heap[b]?=w.heap[b]?
theorem ai.fresh {E:Env} {ρ:Loc} {st:St} {a:Act} {w w':World} (h:ai E ρ st a w) (id:Nat) (L:LW) (W:aG) (ht:vm ρ st.h id w w')
    (hg:∀g,L.b=some g->w.heap.size<=g\/∃W0 L0,hget st.h id=some W0/\ρ id=some L0/\L0.b=some g)
    (hW:rN (XX E.X0 ρ st.h) w w' (bB ρ id L) L W) :
    ai E (bB ρ id L) ⟨killS id st.s,bD (gB id st.h) id W⟩ a w':=by
 have hget':∀j W',hget (bD (gB id st.h) id W) j=some W'->(j=id/\W'=W)\/(j≠id/\∃W0,hget st.h j=some W0/\W'=mg id W0):=by
  intro j W' hj;rw[xh]at hj;split at hj
  ·rename_i e;exact .inl ⟨e,(Option.some.inj hj).symm⟩
  ·rename_i e;rw[xi]at hj;obtain⟨W0,h1,h2⟩:=acR.1 hj;exact .inr ⟨e,W0,h1,h2.symm⟩
 have hX:∀b,b<w.heap.size->¬XX E.X0 ρ st.h b->¬XX E.X0 (bB ρ id L) (bD (gB id st.h) id W) b:=by
  intro b hb hn hx;rcases hx with hx | ⟨j,W',L',h1,h2,h3⟩;exact hn (.inl hx)
  ·rcases hget' j W' h1 with⟨rfl,rfl⟩ | ⟨hne,W0,h4,_⟩
   ·simp only[bB,if_true]at h2;obtain rfl:=Option.some.inj h2;rcases hg b h3 with h5 | ⟨W0,L0,h5,h6,h7⟩;omega
    exact hn (.inr ⟨_,W0,L0,h5,h6,h7⟩)
   ·simp only[bB,hne,if_false]at h2;exact hn (.inr ⟨_,W0,L',h4,h2,h3⟩)
 have hw:∀b,¬XX E.X0 ρ st.h b->b<w.heap.size->w'.heap[b]?=w.heap[b]?:=λb hn hb=>
  ht.block b hb (λW0 L0 h1 h2 h3=>hn (.inr ⟨id,W0,L0,h1,h2,h3⟩))
 have hdis:∀j W' L' b,j≠id->hget st.h j=some W'->ρ j=some L'->L'.b=some b->L.b≠some b:=by
  intro j W' L' b hne h1 h2 h3 h4;rcases hg b h4 with h5 | ⟨W0,L0,h5,h6,h7⟩
  ·have:=iP h ⟨j,W',L',h1,h2,h3⟩;omega
  exact hne (h.heap.cW j id W' W0 L' L0 b h1 h5 h2 h6 h3 h7)
 refine⟨h.defers.turn (λb hb=>ht.block b (Array.getElem?_eq_some_iff.1 hb).1 (λW0 L0 e1 e2 e3=>kV h.heap hb ⟨id,W0,L0,e1,e2,e3⟩)),h.size,λk av hk=>?_,⟨λj W' hj=>?_,λi j W1 W2 L1 L2 b h1 h2 h3 h4 h5 h6=>?_,λj W' L' b h1 h2 h3 hx=>?_⟩,λj W' L' b h1 h2 h3=>?_,?_,λb hb=>ac3 (h.x0 b hb) ht.size⟩
 ·simp only at hk;rw[F5]at hk;obtain⟨av0,h1,rfl⟩:=acR.1 hk;obtain⟨h2,h3⟩:=h.aX k av0 h1;exact⟨h2,(h3.kill id L).mono hw hX _ (λ_ _ h=>h)⟩
 ·rcases hget' j W' hj with⟨rfl,rfl⟩ | ⟨hne,W0,h4,rfl⟩;exact⟨L,by simp[bB],hW.up hw hX (λ_ _ h=>h)⟩
  ·obtain⟨L0,h5,h6⟩:=h.heap.win j W0 h4;refine⟨L0,by simp[bB,hne,h5],(aG.QU h6 id L).mono (λb hb=>?_) hw hX (λ_ _ h=>h)⟩;exact ht.block b (iP h ⟨j,W0,L0,h4,h5,hb⟩) (λW1 L1 e1 e2 e3=>hne (h.heap.cW j id W0 W1 L0 L1 b h4 e1 h5 e2 hb e3))
 ·rcases hget' i W1 h1 with⟨rfl,rfl⟩ | ⟨hne,W0,h7,rfl⟩
  ·rcases hget' j W2 h2 with⟨rfl,rfl⟩ | ⟨hne',W0',h7',rfl⟩;rfl
   ·simp only[bB,if_true]at h3;simp only[bB,hne',if_false]at h4;obtain rfl:=Option.some.inj h3;exact absurd h5 (hdis j W0' L2 b hne' h7' h4 h6)
  ·rcases hget' j W2 h2 with⟨rfl,rfl⟩ | ⟨hne',W0',h7',rfl⟩
   ·simp only[bB,if_true]at h4;simp only[bB,hne,if_false]at h3;obtain rfl:=Option.some.inj h4;exact absurd h6 (hdis i W0 L1 b hne h7 h3 h5)
   ·simp only[bB,hne,if_false]at h3;simp only[bB,hne',if_false]at h4;exact h.heap.cW i j W0 W0' L1 L2 b h7 h7' h3 h4 h5 h6
 ·rcases hget' j W' h1 with⟨rfl,rfl⟩ | ⟨hne,W0,h7,rfl⟩
  ·simp only[bB,if_true]at h2;obtain rfl:=Option.some.inj h2;rcases hg b h3 with h5 | ⟨W0,L0,h5,h6,h7⟩
   ·have:=h.x0 b hx;have:=h.an.size;omega
   exact h.heap.out _ W0 L0 b h5 h6 h7 hx
  ·simp only[bB,hne,if_false]at h2;exact h.heap.out j W0 L' b h7 h2 h3 hx
 ·rcases hget' j W' h1 with⟨rfl,rfl⟩ | ⟨hne,W0,h7,rfl⟩
  ·simp only[bB,if_true]at h2;obtain rfl:=Option.some.inj h2;rcases hg b h3 with h5 | ⟨W0,L0,h5,h6,h7⟩
   ·have:=h.an.size;exact .inl acN
   exact h.base _ W0 L0 b h5 h6 h7
  ·simp only[bB,hne,if_false]at h2;exact h.base j W0 L' b h7 h2 h3
 ·refine⟨ht.os.trans h.an.os,ht.tape.trans h.an.tape,ht.output.trans h.an.output,adM h.an.size ht.size,λb hb hF=>?_,h.an.cT⟩;refine(ht.block b (ac3 hb h.an.size) (λW0 L0 h1 h2 h3=>?_)).trans (h.an.block b hb hF);rcases h.base id W0 L0 b h1 h2 h3 with h4 | h4;omega
  exact hF h4
theorem ai.modify {E:Env} {ρ:Loc} {st:St} {a:Act} {w w':World} (h:ai E ρ st a w) (id:Nat) (L:LW) (W0 W:aG) (h0:hget st.h id=some W0) (hL:ρ id=some L)
    (ht:vm ρ st.h id w w') (hW:rN (XX E.X0 ρ st.h) w w' ρ L W) :
    ai E ρ ⟨st.s,bD st.h id W⟩ a w':=by
 have hget':∀j W',hget (bD st.h id W) j=some W'->(j=id/\W'=W)\/(j≠id/\hget st.h j=some W'):=by
  intro j W' hj;rw[xh]at hj;split at hj
  ·rename_i e;exact .inl ⟨e,(Option.some.inj hj).symm⟩
  ·rename_i e;exact .inr ⟨e,hj⟩
 have back:∀j W',hget (bD st.h id W) j=some W'->∃W1,hget st.h j=some W1:=by
  intro j W' hj;rcases hget' j W' hj with⟨rfl,_⟩ | ⟨_,h1⟩;exact⟨W0,h0⟩;exact⟨W',h1⟩
 have hX:∀b,b<w.heap.size->¬XX E.X0 ρ st.h b->¬XX E.X0 ρ (bD st.h id W) b:=by
  intro b hb hn hx;rcases hx with hx | ⟨j,W',L',h1,h2,h3⟩;exact hn (.inl hx)
  ·obtain⟨W1,h4⟩:=back j W' h1;exact hn (.inr ⟨j,W1,L',h4,h2,h3⟩)
 have hw:∀b,¬XX E.X0 ρ st.h b->b<w.heap.size->w'.heap[b]?=w.heap[b]?:=λb hn hb=>
  ht.block b hb (λW0 L0 h1 h2 h3=>hn (.inr ⟨id,W0,L0,h1,h2,h3⟩))
 refine⟨h.defers.turn (λb hb=>ht.block b (Array.getElem?_eq_some_iff.1 hb).1 (λW0 L0 e1 e2 e3=>kV h.heap hb ⟨id,W0,L0,e1,e2,e3⟩)),h.size,λk av hk=>?_,⟨λj W' hj=>?_,λi j W1 W2 L1 L2 b h1 h2 h3 h4 h5 h6=>?_,λj W' L' b h1 h2 h3 hx=>?_⟩,λj W' L' b h1 h2 h3=>?_,?_,λb hb=>ac3 (h.x0 b hb) ht.size⟩
 ·obtain⟨h2,h3⟩:=h.aX k av hk;exact⟨h2,h3.mono hw hX _ (λ_ _ h=>h)⟩
 ·rcases hget' j W' hj with⟨rfl,rfl⟩ | ⟨hne,h4⟩;exact⟨L,hL,hW.up hw hX (λ_ _ h=>h)⟩
  ·obtain⟨L0,h5,h6⟩:=h.heap.win j W' h4;refine⟨L0,h5,h6.mono (λb hb=>?_) hw hX (λ_ _ h=>h)⟩;exact ht.block b (iP h ⟨j,W',L0,h4,h5,hb⟩) (λW1 L1 e1 e2 e3=>hne (h.heap.cW j id W' W1 L0 L1 b h4 e1 h5 e2 hb e3))
 ·obtain⟨V1,g1⟩:=back i W1 h1;obtain⟨V2,g2⟩:=back j W2 h2;exact h.heap.cW i j V1 V2 L1 L2 b g1 g2 h3 h4 h5 h6
 ·obtain⟨V1,g1⟩:=back j W' h1;exact h.heap.out j V1 L' b g1 h2 h3 hx
 ·obtain⟨V1,g1⟩:=back j W' h1;exact h.base j V1 L' b g1 h2 h3
 ·refine⟨ht.os.trans h.an.os,ht.tape.trans h.an.tape,ht.output.trans h.an.output,adM h.an.size ht.size,λb hb hF=>?_,h.an.cT⟩;refine(ht.block b (ac3 hb h.an.size) (λW0 L0 h1 h2 h3=>?_)).trans (h.an.block b hb hF);rcases h.base id W0 L0 b h1 h2 h3 with h4 | h4;omega
  exact hF h4
def fe (s:List (Nat×AV)):List (Nat×AV)->Prop
 | []=>True
 | (k,v)::r=>sget s k=some v/\fe s r
def dE (h:List (Nat×aG)):List (Nat×aG)->Prop
 | []=>True
 | (k,v)::r=>hget h k=some v/\dE h r
theorem xH {s:List (Nat×AV)}:∀{s'},fe s s'->∀k v,sget s' k=some v->sget s k=some v
 | [],_,k,v,h=>by simp[sget]at h
 | (k0,v0)::r,hl,k,v,h=>by
  simp only[sget]at h;split at h
  ·rename_i e;subst e;rw[<-Option.some.inj h];exact hl.1
  exact xH hl.2 k v h
theorem ki {s:List (Nat×aG)}:∀{s'},dE s s'->∀k v,hget s' k=some v->hget s k=some v
 | [],_,k,v,h=>by simp[hget]at h
 | (k0,v0)::r,hl,k,v,h=>by
  simp only[hget]at h;split at h
  ·rename_i e;subst e;rw[<-Option.some.inj h];exact hl.1
  exact ki hl.2 k v h
theorem ai.weaken {E:Env} {ρ:Loc} {st st':St} {a:Act} {w:World} (h:ai E ρ st a w) (hs:fe st.s st'.s) (hh:dE st.h st'.h):ai E ρ st' a w:=by
 have hX:∀b,¬XX E.X0 ρ st.h b->¬XX E.X0 ρ st'.h b:=by
  intro b hn hx;rcases hx with hx | ⟨j,W',L',h1,h2,h3⟩;exact hn (.inl hx);exact hn (.inr ⟨j,W',L',ki hh j W' h1,h2,h3⟩)
 refine⟨h.defers,h.size,λk av hk=>?_,⟨λj W' hj=>?_,λi j W1 W2 L1 L2 b h1 h2 h3 h4 h5 h6=>?_,λj W' L' b h1 h2 h3 hx=>?_⟩,λj W' L' b h1 h2 h3=>?_,h.an,h.x0⟩
 ·obtain⟨h2,h3⟩:=h.aX k av (xH hs k av hk);exact⟨h2,h3.mono (λ_ _ _=>rfl) (λb _ hb=>hX b hb) _ (λ_ _ h=>h)⟩
 ·obtain⟨L,h1,h2⟩:=h.heap.win j W' (ki hh j W' hj);exact⟨L,h1,h2.mono (λ_ _=>rfl) (λ_ _ _=>rfl) (λb _ hb=>hX b hb) (λ_ _ h=>h)⟩
 exact h.heap.cW i j W1 W2 L1 L2 b (ki hh _ _ h1) (ki hh _ _ h2) h3 h4 h5 h6;exact h.heap.out j W' L' b (ki hh _ _ h1) h2 h3 hx;exact h.base j W' L' b (ki hh _ _ h1) h2 h3
end Go.Proofs.YtoalcafkffmiiaaGreatDoor.Eng
namespace Go.Proofs.YtoalcafkffmiiaaGreatDoor.Eng
inductive AE where
 | t (n:Nat)
 | c (v:AV)
inductive AO where
 | ij (x:AE)
 | pick (c x y:AE)
 | bin (op:BinOp) (x y:AE)
 | beq (neg:Bool) (x y:AE)
 | od (neg:Bool) (ks:List Nat) (x y:AE)
 | un (op:UnOp) (x:AE)
 | qb (k:IntKind) (x:AE)
 | p5 (k:FloatKind) (x:AE)
 | p4 (k:IntKind) (x:AE)
 | p9 (x:AE)
 | pW (x:AE)
 | nN (x:AE)
 | p8 (x y:AE)
 | re (x:AE)
 | im (x:AE)
 | len (str:Bool) (x:AE)
 | mm (mx:Bool) (x y:AE)
 | ext (x:AE) (i:Nat)
 | qH (x:AE)
 | eT (sz:Nat) (x i:AE)
 | qX (x i:AE)
 | ld (ag:Bool) (n:Nat) (x:AE)
 | st (n:Nat) (x v:AE)
 | ra (x:AE) (lo hi:Option AE)
 | q7 (sz:Nat) (x:AE) (lo hi:Option AE)
 | mU (sz:Nat) (parts:List AE)
 | alloc (zero:List AV)
 | box (n:Nat) (x:AE)
 | ot (zero:List AV) (parts:List (Nat×Nat×AE))
 | qk (ag:Bool) (off n:Nat) (x:AE)
 | qj (ag:Bool) (off n:Nat) (x:AE)
 | app (sz bytes:Nat) (s x:AE)
 | nw (sz bytes:Nat) (zero:List AV) (l c:AE)
 | wb (sz:Nat) (d x:AE)
 | call (f:Nat) (args:List AE)
 | qt (len sz:Nat) (x i:AE)
 | qu (len:Nat) (x i:AE)
 | px (neg:Bool) (x:AE)
 | oW (neg:Bool) (x:AE)
 | pc (neg:Bool) (x:AE)
 | dyn (x:AE) (args:List AE)
 | qC (t:TypeId) (x:AE)
 | qc (x:AE)
 | qB (f:Nat) (xs:List AE)
 | iJ (x:AE)
 | nv (kd:Option IntKind)
 | qD (kd:Option IntKind) (ok:Bool) (z:AV) (x i:AE)
 | nz (kd:Option IntKind) (x k v:AE)
 | bad
def constC:Value->AV
 | .bool b=>.bool b
 | .int k n=>.int k n
 | .float k b=>.fl k b
 | .complex k r i=>.cx k r i
 | .string s=>.str s.data.toList
 | .slice none 0 0=>.al
 | .pointer none=>.lit (.pointer none)
 | .nilFunc=>.lit .nilFunc
 | .nilIface=>.lit .nilIface
 | .map none=>.lit (.map none)
 | _=>.undef
def constAV:Value->AV
 | .agg cs=>.agg (cs.toList.map constC)
 | x=>constC x
def trE:Operand->AE
 | .tmp t=>if t<2000000 then .t t else .c .undef
 | .const v=>.c (constAV v)
 | .func f=>.c (.lit (.func (.func f) #[] #[]))
 | .global _=>.c .undef
def ev (st:St):AE->AV
 | .t k=>(sget st.s k).getD .undef
 | .c v=>v
section
variable {X:Nat->Prop} {w:World} {ρ:Loc}
theorem RV.constC (v:Value):RV X w ρ v (constC v):=by
 unfold Eng.constC;split;exact .bool _ _;exact .int _ _ _;exact .fl _ _ _;exact .cx _ _ _ _
 ·rename_i s;have:=RV.str (X:=X) (w:=w) ρ s.data.toList;simpa using this
 exact .al _;exact .lit _ _;exact .lit _ _;exact .lit _ _;exact .lit _ _;exact .undef _ _
theorem RV.constAV (v:Value):RV X w ρ v (constAV v):=by
 unfold Eng.constAV;split
 ·rename_i cs;refine .agg _ _ _ (by simp) (λj v a h1 h2=>?_);rw[List.getElem?_map,Array.getElem?_toList,h1]at h2;simp at h2;subst h2;exact RV.constC v
 exact RV.constC _
theorem bn {E:Env} {st:St} {a:Act} (h:ai E ρ st a w) (x:Operand):RV (XX E.X0 ρ st.h) w ρ (a.eval x) (ev st (trE x)):=by
 cases x with
 | tmp t=>
  simp only[trE];split
  ·rename_i ht
   show RV _ w ρ (a.tmps.getD t undef) ((sget st.s t).getD .undef)
   cases hs:sget st.s t with
   | none=>exact .undef _ _
   | some av=>
    obtain⟨h1,h2⟩:=h.aX t av hs;have hlt:t<E.N:=h1.resolve_right (afK.2 ht);unfold bl at h2;rw[if_pos hlt]at h2;exact h2
  ·exact .undef _ _
 | const v=>exact RV.constAV v
 | func f=>exact .lit _ _
 | global g=>exact .undef _ _
end
def strip (γ:Bool) (v:AV) (K:AV->Prop):Prop:=
 match v with
 | .gd b x=>(γ=true->b=true)/\K x
 | v=>K v
def bo (γ:Bool) (st:St) (x:AE) (K:AV->Prop):Prop:=strip γ (ev st x) K
theorem aaF {X:Nat->Prop} {w:World} {ρ:Loc} {γ:Bool} {v:Value} {av:AV} {K:AV->Prop} (h:RV X w ρ v av) (hs:strip γ av K) (hγ:γ=true):∃av',RV X w ρ v av'/\K av':=by
 cases h with
 | gd _ b x v h h'=>exact⟨x,h (hs.1 hγ),hs.2⟩
 | undef _ v=>exact⟨_,.undef _ _,hs⟩
 | bool _ b=>exact⟨_,.bool _ _,hs⟩
 | int _ k n=>exact⟨_,.int _ _ _,hs⟩
 | fl _ k b=>exact⟨_,.fl _ _ _,hs⟩
 | cx _ k re im=>exact⟨_,.cx _ _ _ _,hs⟩
 | str _ s=>exact⟨_,.str _ _,hs⟩
 | lit _ x=>exact⟨_,.lit _ _,hs⟩
 | al _=>exact⟨_,.al _,hs⟩
 | ro _ A c sz es vs hc aA hlen hcell hrel=>exact⟨_,.ro _ _ _ _ _ vs hc aA hlen hcell hrel,hs⟩
 | aq _ ad x vs hsp hlen hcell hrel=>exact⟨_,.aq _ _ _ vs hsp hlen hcell hrel,hs⟩
 | sl _ i off n c L' A hL h1 h2 h3 hA=>exact⟨_,.sl _ _ _ _ _ L' A hL h1 h2 h3 hA,hs⟩
 | ptr _ i j f L' b hL hb hi hf=>exact⟨_,.ptr _ _ _ _ L' b hL hb hi hf,hs⟩
 | eA _ i L' b hL hb hm hz=>exact⟨_,.eA _ _ L' b hL hb hm hz,hs⟩
 | aa _ i f L' b hL hb=>exact⟨_,.aa _ _ _ L' b hL hb,hs⟩
 | agg _ vs cs hlen hrel=>exact⟨_,.agg _ _ _ hlen hrel,hs⟩
 | af _ vs cs hlen hrel=>exact⟨_,.af _ _ _ hlen hrel,hs⟩
 | aK _ f vs cs hlen hrel=>exact⟨_,.aK _ _ _ _ hlen hrel,hs⟩
theorem bc {E:Env} {ρ:Loc} {st:St} {a:Act} {w:World} (h:ai E ρ st a w) {γ:Bool} {x:Operand} {K:AV->Prop} (hx:bo γ st (trE x) K) (hγ:γ=true) :
    ∃av,RV (XX E.X0 ρ st.h) w ρ (a.eval x) av/\K av:=aaF (bn h x) hx hγ
def intBin (γ:Bool) (op:BinOp) (k k':IntKind) (x y:Int) (K:AV->Prop):Prop:=
 match op with
 | .shl=>(γ=true->0<=y)/\K (.int k (k.wrap (x*2^(min y.toNat k.bits))))
 | .shr=>(γ=true->0<=y)/\K (.int k (x.fdiv (2^(min y.toNat k.bits))))
 | .add=>k=k'/\K (.int k (k.wrap (x+y)))
 | .sub=>k=k'/\K (.int k (k.wrap (x-y)))
 | .mul=>k=k'/\K (.int k (k.wrap (x*y)))
 | .quo=>k=k'/\(γ=true->y≠0)/\K (.int k (k.wrap (x.tdiv y)))
 | .rem=>k=k'/\(γ=true->y≠0)/\K (.int k (x.tmod y))
 | .and=>k=k'/\K (.int k (bits .and k x y))
 | .or=>k=k'/\K (.int k (bits .or k x y))
 | .xor=>k=k'/\K (.int k (bits .xor k x y))
 | .andNot=>k=k'/\K (.int k (bits .andNot k x y))
 | .eql=>k=k'/\K (.bool (decide (x=y)))
 | .neq=>k=k'/\K (.bool (!decide (x=y)))
 | .lss=>k=k'/\K (.bool (decide (x<y)))
 | .leq=>k=k'/\K (.bool (decide (x<=y)))
 | .gtr=>k=k'/\K (.bool (decide (y<x)))
 | .geq=>k=k'/\K (.bool (decide (y<=x)))
def strBin (γ:Bool) (op:BinOp) (x y:List UInt8) (K:AV->Prop):Prop:=
 match op with
 | .add=>(γ=true->x.length+y.length<=9223372036854775807)/\K (.str (x++y))
 | .eql=>K (.bool (x==y))
 | .neq=>K (.bool (!(x==y)))
 | .lss=>K (.bool (Op.bytesLess x y))
 | .leq=>K (.bool (Op.bytesLess x y||x==y))
 | .gtr=>K (.bool (!(Op.bytesLess x y||x==y)))
 | .geq=>K (.bool (!Op.bytesLess x y))
 | _=>False
def wP (op:BinOp) (k k':FloatKind) (x y:Nat) (K:AV->Prop):Prop:=
 k=k'/\match op with
 | .add=>∃r,k.format.add x y=some r/\K (.fl k r)
 | .sub=>∃r,k.format.sub x y=some r/\K (.fl k r)
 | .mul=>∃r,k.format.mul x y=some r/\K (.fl k r)
 | .eql=>K (.bool (k.format.order x y==some .eq))
 | .neq=>K (.bool (k.format.order x y != some .eq))
 | .lss=>K (.bool (k.format.order x y==some .lt))
 | .gtr=>K (.bool (k.format.order x y==some .gt))
 | .leq=>K (.bool (k.format.order x y==some .lt||k.format.order x y==some .eq))
 | .geq=>K (.bool (k.format.order x y==some .gt||k.format.order x y==some .eq))
 | _=>False
def wh (op:BinOp) (k k':FloatKind) (a b c d:Nat) (K:AV->Prop):Prop:=
 k=k'/\match op with
 | .add=>∃r i,k.format.add a c=some r/\k.format.add b d=some i/\K (.cx k r i)
 | .sub=>∃r i,k.format.sub a c=some r/\k.format.sub b d=some i/\K (.cx k r i)
 | .eql=>K (.bool (k.format.order a c==some .eq&&k.format.order b d==some .eq))
 | .neq=>K (.bool (!(k.format.order a c==some .eq&&k.format.order b d==some .eq)))
 | _=>False
def abin (γ:Bool) (op:BinOp) (x y:AV) (K:AV->Prop):Prop:=
 match x,y with
 | .int k a,.int k' b=>intBin γ op k k' a b K
 | .str a,.str b=>strBin γ op a b K
 | .fl k a,.fl k' b=>wP op k k' a b K
 | .cx k a b,.cx k' c d=>wh op k k' a b c d K
 | _,_=>False
section
variable {P:Program} {X:Nat->Prop} {w:World} {ρ:Loc} {γ:Bool} {K:AV->Prop}
def pG (P:Program) (X:Nat->Prop) (w:World) (ρ:Loc) (s:Sem Value) (K:AV->Prop):Prop:=∃v av,fT P w s v/\RV X w ρ v av/\K av
theorem PS {op:BinOp} {k k':IntKind} {x y:Int} {t:TypeId} (h:intBin γ op k k' x y K) (hγ:γ=true):pG P X w ρ (binOp op t (.int k x) (.int k' y)) K:=by
 cases op<;>simp only[intBin]at h
 case shl=>have h1:=h.1 hγ;exact⟨.int k (k.wrap (x*2^(min y.toNat k.bits))),_,λw' _=>by simp[binOp,Op.shift,Int.not_lt.2 h1],.int _ _ _,h.2⟩
 case shr=>have h1:=h.1 hγ;exact⟨.int k (x.fdiv (2^(min y.toNat k.bits))),_,λw' _=>by simp[binOp,Op.shift,Int.not_lt.2 h1],.int _ _ _,h.2⟩
 case quo=>obtain⟨rfl,h1,h2⟩:=h;have h1:=h1 hγ;exact⟨.int k (k.wrap (x.tdiv y)),_,λw' _=>by simp[binOp,Op.intDiv,h1],.int _ _ _,h2⟩
 case rem=>obtain⟨rfl,h1,h2⟩:=h;have h1:=h1 hγ;exact⟨.int k (x.tmod y),_,λw' _=>by simp[binOp,Op.intDiv,h1],.int _ _ _,h2⟩
 case eql=>obtain⟨rfl,h2⟩:=h;exact⟨.bool (decide (x=y)),_,λw' _=>by simp[binOp,Op.intCmp];rfl,.bool _ _,h2⟩
 case neq=>obtain⟨rfl,h2⟩:=h;exact⟨.bool (!decide (x=y)),_,λw' _=>by simp[binOp,Op.intCmp];rfl,.bool _ _,h2⟩
 case and=>obtain⟨rfl,h2⟩:=h;exact⟨.int k (bits .and k x y),_,λw' _=>by simp only[binOp,ne_eq,not_true_eq_false,if_false,intBits_and,Sem.run_pure],.int _ _ _,h2⟩
 case or=>obtain⟨rfl,h2⟩:=h;exact⟨.int k (bits .or k x y),_,λw' _=>by simp only[binOp,ne_eq,not_true_eq_false,if_false,intBits_or,Sem.run_pure],.int _ _ _,h2⟩
 case xor=>obtain⟨rfl,h2⟩:=h;exact⟨.int k (bits .xor k x y),_,λw' _=>by simp only[binOp,ne_eq,not_true_eq_false,if_false,intBits_xor,Sem.run_pure],.int _ _ _,h2⟩
 case andNot=>obtain⟨rfl,h2⟩:=h;exact⟨.int k (bits .andNot k x y),_,λw' _=>by simp only[binOp,ne_eq,not_true_eq_false,if_false,intBits_andNot,Sem.run_pure],.int _ _ _,h2⟩
 all_goals (obtain⟨rfl,h2⟩:=h;exact⟨_,_,λw' _=>by simp[binOp,Op.intArith,Op.intCmp];rfl,by first | exact .int _ _ _ | exact .bool _ _,h2⟩)
theorem Jc (x:List UInt8):(⟨x.toArray⟩:ByteArray).toList=x:=by simp[ByteArray.toList_eq]
theorem Ja (x y:List UInt8):(⟨x.toArray⟩:ByteArray)++⟨y.toArray⟩=⟨(x++y).toArray⟩:=by
 apply ByteArray.ext;simp[ByteArray.data_append]
theorem aax {op:BinOp} {x y:List UInt8} {t:TypeId} (h:strBin γ op x y K) (hγ:γ=true):pG P X w ρ (binOp op t (.string ⟨x.toArray⟩) (.string ⟨y.toArray⟩)) K:=by
 cases op<;>simp only[strBin]at h
 case add=>
  have h1:=h.1 hγ;refine⟨.string ⟨(x++y).toArray⟩,_,λw' _=>?_,.str _ _,h.2⟩;have:¬((((⟨x.toArray⟩:ByteArray).size+(⟨y.toArray⟩:ByteArray).size:Nat):Int) > IntKind.i64.max):=by simp[ByteArray.size];omega
  simp only[binOp,Op.stringOp,if_neg this,Sem.run_pure,Ja]
 all_goals first | exact False.elim h | (refine⟨_,_,λw' _=>?_,.bool _ _,h⟩;simp[binOp,Op.stringOp,Jc])
theorem Ny {op:BinOp} {k k':FloatKind} {x y:Nat} {t:TypeId} (h:wP op k k' x y K):pG P X w ρ (binOp op t (.float k x) (.float k' y)) K:=by
 obtain⟨rfl,h⟩:=h;cases op<;>simp only at h
 case add=>obtain⟨r,h1,h2⟩:=h;exact⟨.float k r,_,λw' _=>by simp[binOp,Op.floatArith,h1],.fl _ _ _,h2⟩
 case sub=>obtain⟨r,h1,h2⟩:=h;exact⟨.float k r,_,λw' _=>by simp[binOp,Op.floatArith,h1],.fl _ _ _,h2⟩
 case mul=>obtain⟨r,h1,h2⟩:=h;exact⟨.float k r,_,λw' _=>by simp[binOp,Op.floatArith,h1],.fl _ _ _,h2⟩
 all_goals first | exact False.elim h | (refine⟨_,_,λw' _=>?_,.bool _ _,h⟩;simp[binOp,Op.floatCmp])
theorem Lp {op:BinOp} {k k':FloatKind} {a b c d:Nat} {t:TypeId} (h:wh op k k' a b c d K):pG P X w ρ (binOp op t (.complex k a b) (.complex k' c d)) K:=by
 obtain⟨rfl,h⟩:=h;cases op<;>simp only at h
 case add=>obtain⟨r,i,h1,h2,h3⟩:=h;exact⟨.complex k r i,_,λw' _=>by simp[binOp,Op.complexOp,Op.Complex.arith,Op.floatArith,h1,h2],.cx _ _ _ _,h3⟩
 case sub=>obtain⟨r,i,h1,h2,h3⟩:=h;exact⟨.complex k r i,_,λw' _=>by simp[binOp,Op.complexOp,Op.Complex.arith,Op.floatArith,h1,h2],.cx _ _ _ _,h3⟩
 all_goals first | exact False.elim h | (refine⟨_,_,λw' _=>?_,.bool _ _,h⟩;simp[binOp,Op.complexOp,Op.Complex.cmp,Op.floatCmp,asBool])
theorem Hj {op:BinOp} {v1 v2:Value} {x y:AV} {t:TypeId} (h1:RV X w ρ v1 x) (h2:RV X w ρ v2 y) (h:abin γ op x y K) (hγ:γ=true) :
    pG P X w ρ (binOp op t v1 v2) K/\∀x y,eqGuard op t x y v1 v2=pure ():=by
 cases h1<;>cases h2<;>simp only[abin]at h
 exact⟨PS h hγ,λx y=>eqGuard_at_int _ _ _ _ _ _ _⟩;exact⟨Ny h,λx y=>eqGuard_at_float _ _ _ _ _ _ _⟩;exact⟨Lp h,λx y=>eqGuard_at_complex _ _ _ _ _ _ _ _⟩;exact⟨aax h hγ,λx y=>eqGuard_at_string _ _ _ _ _ _⟩
end
end Go.Proofs.YtoalcafkffmiiaaGreatDoor.Eng
