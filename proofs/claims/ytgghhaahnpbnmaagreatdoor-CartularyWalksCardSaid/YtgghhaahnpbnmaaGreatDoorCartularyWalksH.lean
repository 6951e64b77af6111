/- The proof, part 8 of 51. -/
import Derived.Test.YtgghhaahnpbnmaaGreatDoorCartularyWalksF
import Derived.RangeFuncSeq
import Derived.RangeFuncIn
import Derived.RangeFuncBox
set_option linter.all false
namespace Go.Proofs.YtgghhaahnpbnmaaGreatDoor.Eng
open Go.RowKit
def splitB (c:UInt8):List UInt8->List (List UInt8)
 | []=>[[]]
 | x::r=>if x=c then[]::splitB c r else match splitB c r with
  | []=>[[x]]
  | p::ps=>(x::p)::ps
def Ptr (b:Nat):Value:=.pointer (some ⟨b,0,none⟩)
def OneCell (W:World) (b:Nat) (v:Value):Prop:=∃t,W.heap[b]?=some (Obj.cells #[v] t (0,0))
structure vL (b:Nat) (W W':World):Prop where
 os:W'.os=W.os
 tape:W'.tape=W.tape
 output:W'.output=W.output
 size:W.heap.size<=W'.heap.size
 block:∀k,k<W.heap.size->k≠b->W'.heap[k]?=W.heap[k]?
 cells:∀cur t fz,W.heap[b]?=some (Obj.cells cur t fz)->∃cur t fz,W'.heap[b]?=some (Obj.cells cur t fz)
def zO (P:Program) (gf b1 b2 b3:Nat) (c:UInt8):Prop:=
 ∀(l:Nat) (s:List UInt8) (J:Nat->World->Prop) (Jx:World->Prop) (W:World),s.length<=9223372036854775807 ->
  OneCell W b1 (.string ⟨#[c]⟩)->OneCell W b2 (.string ⟨s.toArray⟩)->OneCell W b3 (.int .i64 0)->(∀k W W',J k W->vL b2 W W'->J k W') ->
  (∀k W1,J k W1->k<(splitB c s).length->YieldAt Fence.wide 0 P l #[.string ⟨((splitB c s).getD k []).toArray⟩] W1 λe W'=>
   (e=.returned (.bool true)/\J (k+1) W'/\∀b v,b=b1\/b=b2\/b=b3->OneCell W1 b v->OneCell W' b v)\/(e=.returned (.bool false)/\Jx W')) ->
  J 0 W->Calls P gf #[.func (.yield l) #[] #[],Ptr b1,Ptr b2,Ptr b3] W λe W'=>(∃v,e=.returned v)/\(J (splitB c s).length W'\/Jx W')
def vR (P:Program) (f:Nat):Prop:=
 ∀(s:List UInt8) (c:UInt8) (w:World),s.length<=9223372036854775807->Calls P f #[.string ⟨s.toArray⟩,.string ⟨#[c]⟩] w λe w'=>
  ∃gf b1 b2 b3,e=.returned (.func (.func gf) #[] #[Ptr b1,Ptr b2,Ptr b3])/\az w w'/\(w.heap.size<=b1/\w.heap.size<=b2/\w.heap.size<=b3) /\
   OneCell w' b1 (.string ⟨#[c]⟩)/\OneCell w' b2 (.string ⟨s.toArray⟩)/\OneCell w' b3 (.int .i64 0)/\(∀args w,(callFunc gf args).run P w=.ok (.enter gf args) w)/\zO P gf b1 b2 b3 c
theorem OneCell.lt {W:World} {b:Nat} {v:Value} (h:OneCell W b v):b<W.heap.size:=by
 obtain⟨t,h⟩:=h;exact(Array.getElem?_eq_some_iff.1 h).1
theorem OneCell.turn {W W':World} {b:Nat} {v:Value} (h:OneCell W b v) (hb:W'.heap[b]?=W.heap[b]?):OneCell W' b v:=by
 obtain⟨t,h1⟩:=h;exact⟨t,hb.trans h1⟩
theorem OneCell.cell {W:World} {b:Nat} {v:Value} (h:OneCell W b v):W.cell? ⟨b,0,none⟩=some v:=by
 obtain⟨t,h⟩:=h;exact Boxed.cell h
theorem OneCell.frozen {W:World} {b:Nat} {v:Value} (h:OneCell W b v):W.frozen? ⟨b,0,none⟩=false:=by
 obtain⟨t,h⟩:=h;exact Boxed.frozen h
theorem OneCell.set {W:World} {b:Nat} {v:Value} (v':Value) (h:OneCell W b v):OneCell (W.setCell ⟨b,0,none⟩ v') b v':=by
 obtain⟨t,h⟩:=h;exact⟨t,Boxed.set v' h⟩
theorem OneCell.other {W:World} {b b':Nat} {v:Value} (h:OneCell W b v) (hne:b≠b') (v':Value):OneCell (W.setCell ⟨b',0,none⟩ v') b v:=h.turn (Below.heap_setCell _ _ _ b hne)
theorem Px {W:World} {b:Nat} {v:Value} (v':Value) (h:OneCell W b v):vL b W (W.setCell ⟨b,0,none⟩ v'):=
 ⟨rfl,rfl,rfl,(KeepsWalks.setCell W _ v').size,λk _ hk=>Below.heap_setCell _ _ _ k hk,λcur t fz _=>by
  obtain⟨t',h'⟩:=h.set v'
  exact⟨_,t',_,h'⟩⟩
def DN (W:World) (b:Nat):Nat:=match W.cell? ⟨b,0,none⟩with
 | some (.string s)=>s.size
 | _=>0
def ghost:List (Nat×AV)->List (Nat×AV)
 | []=>[]
 | (k,v)::r=>(3000000+k,v)::ghost r
theorem F1:∀(s:List (Nat×AV)) (k:Nat),sget (ghost s) (3000000+k)=sget s k
 | [],k=>rfl
 | (j,v)::r,k=>by
  simp only[ghost,sget,F1 r k];by_cases h:k=j
  ·subst h;simp
  ·rw[if_neg acB,if_neg h]
theorem u3:∀(s:List (Nat×AV)) (k:Nat) (v:AV),sget (ghost s) k=some v->3000000<=k/\sget s (k-3000000)=some v
 | [],k,v,h=>by simp[ghost,sget]at h
 | (j,u)::r,k,v,h=>by
  simp only[ghost,sget]at h;split at h
  ·rename_i e;subst e;refine⟨acB,?_⟩;rw[show 3000000+j-3000000=j by omega];simpa[sget]using h
  ·obtain⟨h1,h2⟩:=u3 r k v h;refine⟨h1,?_⟩;simp only[sget];rw[if_neg acB];exact h2
section
variable {E:Env} {ρ:Loc} {st:St} {a:Act} {w:World}
theorem af.apart (h:af E ρ st a w) {w1:World} (hs:az w w1) (Y:Nat->Prop) (hY:∀b,Y b->w.heap.size<=b/\b<w1.heap.size):af {E with X0:=λb=>E.X0 b\/Y b} ρ st a w1:=by
 have hX:∀b,b<w.heap.size->¬XX E.X0 ρ st.h b->¬XX (λb=>E.X0 b\/Y b) ρ st.h b:=by
  intro b hb hn hx;rcases hx with(hx | hx) | hx;exact hn (.inl hx)
  ·have:=(hY b hx).1;omega
  exact hn (.inr hx)
 refine⟨h.defers.turn (λb hb=>hs.block b (Array.getElem?_eq_some_iff.1 hb).1),h.size,λk av hk=>⟨(h.aM k av hk).1,(h.aM k av hk).2.mono (λb _ hb=>hs.block b hb) hX ρ (λ_ _ h=>h)⟩,⟨λid W hW=>?_,h.heap.cw,λid W L b h1 h2 h3 hx=>?_⟩,h.base,⟨hs.os.trans h.ai.os,hs.tape.trans h.ai.tape,hs.output.trans h.ai.output,adt h.ai.size hs.size,λb hb hF=>(hs.block b (acR hb h.ai.size)).trans (h.ai.block b hb hF),h.ai.cn⟩,λb hb=>?_⟩
 ·obtain⟨L,h1,h2⟩:=h.heap.win id W hW;exact⟨L,h1,h2.mono (λb hb=>hs.block b (gT h ⟨id,W,L,hW,h1,hb⟩)) (λb _ hb=>hs.block b hb) hX (λ_ _ h=>h)⟩
 ·rcases hx with hx | hx;exact h.heap.out id W L b h1 h2 h3 hx
  ·have:=gT h ⟨id,W,L,h1,h2,h3⟩;have:=(hY b hx).1;omega
 ·rcases hb with hb | hb;exact acR (h.x0 b hb) hs.size;exact(hY b hb).2
theorem af.less {X':Nat->Prop} (h:af {E with X0:=X'} ρ st a w) (hX:∀b,E.X0 b->X' b):af E ρ st a w:=by
 have hX':∀b,¬XX X' ρ st.h b->¬XX E.X0 ρ st.h b:=λb hn hx=>hn (hx.imp (hX b) id);refine⟨h.defers,h.size,λk av hk=>⟨(h.aM k av hk).1,(h.aM k av hk).2.mono (λb _ _=>rfl) (λb _ hb=>hX' b hb) ρ (λ_ _ h=>h)⟩,⟨λid W hW=>?_,h.heap.cw,λid W L b h1 h2 h3 hx=>h.heap.out id W L b h1 h2 h3 (hX b hx)⟩,h.base,⟨h.ai.os,h.ai.tape,h.ai.output,h.ai.size,h.ai.block,h.ai.cn⟩,λb hb=>h.x0 b (hX b hb)⟩;obtain⟨L,h1,h2⟩:=h.heap.win id W hW;exact⟨L,h1,h2.mono (λ_ _=>rfl) (λ_ _ _=>rfl) (λb _ hb=>hX' b hb) (λ_ _ h=>h)⟩
theorem af.uM (h:af E ρ st a w) (d:Nat) (v:Value) (hd:sget st.s d=none):af E ρ st (a.put (some d) v) w:=by
 refine⟨h.defers,by simp[Act.put,h.size],λk av hk=>?_,h.heap,h.base,h.ai,h.x0⟩;obtain⟨h1,h2⟩:=h.aM k av hk;refine⟨h1,?_⟩;have hne:k≠d:=λe=>by subst e;rw[hd]at hk;cases hk
 unfold aP at h2 |-
 have:(a.put (some d) v).tmps.getD k undef=a.tmps.getD k undef:=by
  simp only[Act.put,acO,Array.getElem?_setIfInBounds_ne (Ne.symm hne)]
 rw[this];exact h2
theorem af.grow (h:af E ρ st a w) {b:Nat} {w':World} (g:vL b w w') (hb:E.X0 b) (hw:E.w0.heap.size<=b) (hc:∃cur t fz,w.heap[b]?=some (Obj.cells cur t fz)):af E ρ st a w':=by
 have hsame:∀k,¬XX E.X0 ρ st.h k->k<w.heap.size->w'.heap[k]?=w.heap[k]?:=λk hn hk=>g.block k hk (λe=>hn (.inl (e▸hb)));refine⟨h.defers.turn (λk hk=>g.block k (Array.getElem?_eq_some_iff.1 hk).1 (λe=>by subst e;obtain⟨cur,t,fz,hc⟩:=hc;rw[hc]at hk;cases hk)),h.size,λk av hk=>⟨(h.aM k av hk).1,(h.aM k av hk).2.mono hsame (λb _ hb=>hb) ρ (λ_ _ h=>h)⟩,⟨λid W hW=>?_,h.heap.cw,h.heap.out⟩,h.base,⟨g.os.trans h.ai.os,g.tape.trans h.ai.tape,g.output.trans h.ai.output,adt h.ai.size g.size,λk hk hF=>(g.block k (acR hk h.ai.size) acB).trans (h.ai.block k hk hF),h.ai.cn⟩,λb hb=>acR (h.x0 b hb) g.size⟩;obtain⟨L,h1,h2⟩:=h.heap.win id W hW;exact⟨L,h1,h2.mono (λk hk=>g.block k (gT h ⟨id,W,L,hW,h1,hk⟩) (λe=>h.heap.out id W L k hW h1 hk (e▸hb))) hsame (λb _ hb=>hb) (λ_ _ h=>h)⟩
def gJ (E:Env) (a:Act) (W:World) (F:Nat->Prop) (l:Nat):Env:=⟨W,F,E.X0,E.N,E.B,λj=>if 3000000<=j then aP E a (j-3000000)else E.gv j,some l,0,ac5 _,[]⟩
theorem af.enter (h:af E ρ st a w) (hN:E.N<=1000000) (hk0:∀k v,sget st.s k=some v->k<3000000) (l p:Nat) (hp:p<E.N) (part:List UInt8) :
    af (gJ E a w (aE ρ st.h) l) ρ ⟨(p,.str part)::(st.s++ghost st.s),st.h⟩ {tmps:=a.tmps.setIfInBounds p (.string ⟨part.toArray⟩),defers:=[]} w:=by
 refine⟨fQ.nil _ _,by simpa[gJ]using h.size,λk av hk=>?_,h.heap,λid W L b h1 h2 h3=>.inr ⟨id,W,L,h1,h2,h3⟩,⟨rfl,rfl,rfl,acG _,λ_ _ _=>rfl,h.cn⟩,h.x0⟩;simp only[sget]at hk;have au:p<a.tmps.size:=by rw[h.size];exact hp
 split at hk
 ·rename_i e;subst e;obtain rfl:=Option.some.inj hk;refine⟨.inl hp,?_⟩;unfold aP;rw[if_pos (show k<(gJ E a w (aE ρ st.h) l).N from hp)]
  have:(a.tmps.setIfInBounds k (.string ⟨part.toArray⟩)).getD k undef=.string ⟨part.toArray⟩:=by
   simp[acO,Array.getElem?_setIfInBounds,au]
  rw[this];exact .str _ _
 ·rename_i hne;rw[kh]at hk
  cases hs:sget st.s k with
  | some av0=>
   rw[hs]at hk;obtain rfl:=Option.some.inj hk;obtain⟨h1,h2⟩:=h.aM k av0 hs;refine⟨h1,?_⟩;unfold aP at h2 |-;by_cases hkN:k<E.N
   ·rw[if_pos hkN]at h2;rw[if_pos (show k<(gJ E a w (aE ρ st.h) l).N from hkN)]
    have:(a.tmps.setIfInBounds p (.string ⟨part.toArray⟩)).getD k undef=a.tmps.getD k undef:=by
     simp only[acO,Array.getElem?_setIfInBounds_ne (Ne.symm hne)]
    rw[this];exact h2
   ·rw[if_neg hkN]at h2;rw[if_neg (show ¬k<(gJ E a w (aE ρ st.h) l).N from hkN)];have:=hk0 k _ hs;simp only[gJ];rw[if_neg acB]
    exact h2
  | none=>
   rw[hs,ad2]at hk;obtain⟨h3,h4⟩:=u3 _ _ _ hk;obtain⟨h1,h2⟩:=h.aM _ av h4;refine⟨.inr acB,?_⟩
   have e:aP (gJ E a w (aE ρ st.h) l) {tmps:=a.tmps.setIfInBounds p (.string ⟨part.toArray⟩),defers:=[]} k=aP E a (k-3000000):=by
    show(if k<E.N then _ else(if 3000000<=k then aP E a (k-3000000)else E.gv k))=_
    rw[if_neg acB,if_pos h3]
   rw[e];exact h2
theorem af.leave {s0:List (Nat×AV)} {h0 h':List (Nat×aC)} {W:World} {l:Nat} {a3:Act} {ρ':Loc} (h:af E ρ ⟨s0,h0⟩ a W) (hN:E.N<=1000000) (k:af (gJ E a W (aE ρ h0) l) ρ' ⟨ghost s0,h'⟩ a3 w) :
    af E ρ' ⟨s0,h'⟩ a w:=by
 have hfrm:∀b,b<W.heap.size->¬aE ρ h0 b->w.heap[b]?=W.heap[b]?:=λb hb hn=>k.ai.block b hb hn;refine⟨h.defers.turn (λb hb=>hfrm b (Array.getElem?_eq_some_iff.1 hb).1 (j8 h.heap hb)),h.size,λj av hj=>?_,k.heap,λid W0 L b h1 h2 h3=>?_,⟨k.ai.os.trans h.ai.os,k.ai.tape.trans h.ai.tape,k.ai.output.trans h.ai.output,adt h.ai.size k.ai.size,λb hb hF=>(hfrm b (acR hb h.ai.size) (λ⟨id,W0,L,e1,e2,e3⟩=>?_)).trans (h.ai.block b hb hF),h.ai.cn⟩,k.x0⟩
 ·have hg:=F1 s0 j;simp only at hj;rw[hj]at hg;obtain⟨g1,g2⟩:=k.aM _ av hg;refine⟨(h.aM j av hj).1,?_⟩
  have e:aP (gJ E a W (aE ρ h0) l) a3 (3000000+j)=aP E a j:=by
   show(if 3000000+j<E.N then _ else(if 3000000<=3000000+j then aP E a (3000000+j-3000000)else E.gv (3000000+j)))=_
   rw[if_neg acB,if_pos acB,adv]
  rw[e]at g2;exact g2
 ·rcases k.base id W0 L b h1 h2 h3 with g | ⟨id',W1,L1,e1,e2,e3⟩
  ·have:W.heap.size<=b:=g;have:=h.ai.size;exact .inl acB
  exact h.base id' W1 L1 b e1 e2 e3
 ·rcases h.base id W0 L b e1 e2 e3 with g | g;omega
  exact hF g
theorem af.Fs {l:Nat} {W w2:World} {F:Nat->Prop} {a0:Act} (h:af (gJ E a0 W F l) ρ st a w) (au:w.heap.size<=w2.heap.size) (hw:∀b,nL w b->w2.heap[b]?=w.heap[b]?)
    (hdf:∀b:Nat,w.heap[b]?=some (.deferred (some []))->w2.heap[b]?=w.heap[b]?):af (gJ E a0 w2 (aE ρ st.h) l) ρ st a w2:=
 ⟨h.defers.turn hdf,h.size,λk av hk=>⟨(h.aM k av hk).1,(h.aM k av hk).2.other (λb cur t fz _ hc=>hw b (.inl ⟨cur,t,fz,hc⟩))⟩,h.heap.other hw,λid W L b h1 h2 h3=>.inr ⟨id,W,L,h1,h2,h3⟩,⟨rfl,rfl,rfl,acG _,λ_ _ _=>rfl,h.cn.1.stays (λb cs t fz _ hc=>hw b (.inl ⟨cs,t,fz,hc⟩)),h.cn.2⟩,λb hb=>acR (h.x0 b hb) au⟩
end
def uV (R:St->Prop) (s0:List (Nat×AV)) (Q:Exit->St->Prop):Exit->St->Prop
 | .normal,st=>R st
 | .ret,st=>∃h',Wk st ⟨ghost s0,h'⟩/\Q .ret ⟨s0,h'⟩
 | .exit i,st=>∃h',Wk st ⟨ghost s0,h'⟩/\Q (.exit i) ⟨s0,h'⟩
 | _,_=>False
theorem yb {E:Env} {a:Act} {w:World} {s t:St} (h:Rel E s a w) (k:Wk s t):Rel E t a w:=by
 obtain⟨ρ,h⟩:=h;exact jK k h
theorem zq {x:Operand} {d:Nat} (h:trE x=.t d):x=.tmp d:=by
 cases x with
 | tmp t=>
  simp only[trE]at h;split at h
  ·injection h with h;rw[h]
  ·cases h
 | const v=>cases h
 | func f=>cases h
 | global g=>cases h
theorem acm (p:Nat) (v:Value) (T:Array Value):Array.foldl (λtmps x=>match x with | (t,a)=>tmps.setIfInBounds t a) T (#[p].zip #[v])=T.setIfInBounds p v:=by
 rw[show #[p].zip #[v]=#[(p,v)]from by simp];rfl
section
variable {P:Program} {E:Env} {Q:Exit->St->Prop} {st:St}
theorem ZF {d f bk p q0:Nat} {x:AE} {c:UInt8} {body:AC} (hN:E.N<=1000000) (hrd:E.rd=none) (hq0:q0<1000000) (hS:vR P f) {s:List UInt8} (hx:ev st x=.str s) (hlen:s.length<=9223372036854775807) {α:Type} (s0:List (Nat×AV)) (H:α->HP)
    (inv:Nat->α->Prop) (x0:α) (h0:Wk st ⟨s0,H x0⟩) (hi:inv 0 x0) (hd0:sget s0 d=none) (hk0:∀k v,sget s0 k=some v->k<3000000)
    (round:∀(E2:Env) k y,E2.N=E.N->E2.B=E.B->inv k y->k<(splitB c s).length ->
     bm P E2 body ⟨(q0,.str ((splitB c s).getD k []))::(p,.str ((splitB c s).getD k []))::(s0++ghost s0),H y⟩ (uV (λst'=>∃y',inv (k+1) y'/\Wk st' ⟨ghost s0,H y'⟩) s0 (blockQ bk Q)))
    (done:∀y,inv (splitB c s).length y->Q .normal ⟨s0,H y⟩)
    {n:Nat} {ops:Array Oper} {o:Oper} {b:Code} {a:Act} {w:World} (hd:o.dst=some d) (hg:o.guard=none) (hnd:kV o.op=true) (htr:trOp P o=.call f [x,.c (.str [c])])
    (hdN:d<E.N) (hb:trCode P E.N E.B b=.block bk (.gl (.t d) [p] (.bQ [⟨some q0,none,false,E.B+q0,.fZ (.t p)⟩]) body)) (hr:Rel E st a w) :
    wpListIn (cG E.rd) n P ops (Exit.then (b.wpIn (cG E.rd) n P (lift E Q)) (lift E Q)) [o] a w:=by
 refine wpListIn_plain hg (λnext hnext=>jL hnd ?_)
 obtain⟨vs,h1,h2,h3⟩:=pZ htr a w;unfold Oper.wp;rw[h1,Oper.upon_enter];have h2:vs.size=2:=h2
 have hv0:vs[0]?=some (.string ⟨s.toArray⟩):=by
  have e0:vs[0]?=some vs[0]:=Array.getElem?_eq_getElem acB;obtain⟨y,e1,e2⟩:=h3 0 _ _ e0 rfl;obtain⟨ρ,hρ⟩:=hr;have:=a6 hρ y;rw[<-e2,hx,<-e1]at this;rw[e0,RV.lp this]
 have hv1:vs[1]?=some (.string ⟨#[c]⟩):=by
  have e0:vs[1]?=some vs[1]:=Array.getElem?_eq_getElem acB;obtain⟨y,e1,e2⟩:=h3 1 _ _ e0 rfl;obtain⟨ρ,hρ⟩:=hr;have:=a6 hρ y;rw[<-e2,<-e1]at this;rw[e0,RV.lp this]
 have hvs:vs=#[.string ⟨s.toArray⟩,.string ⟨#[c]⟩]:=by
  apply ae4;intro i;rcases i with _ | _ | i;exact hv0;exact hv1
  ·simp[Array.getElem?_eq_none (show vs.size<=i+1+1 by omega)]
 rw[hvs];refine(hS s c w hlen).mono ?_;rintro e w1 ⟨gf,b1,b2,b3,rfl,hsame,⟨hb1,hb2,hb3⟩,c1,c2,c3,hcf,hit⟩;refine hnext _ _ ?_
 show b.wpIn (cG E.rd) n P (lift E Q) (a.put o.dst (.func (.func gf) #[] #[Ptr b1,Ptr b2,Ptr b3])) w1
 rw[hd,hrd];cases b<;>simp only[trCode]at hb<;>first | (cases hb;done) | (exact Bool.noConfusion (show false=true from eX hb)) | (split at hb<;>cases hb;done) | skip
 rename_i id' cb
 injection hb with hb0 hb1'
 subst hb0;cases cb<;>simp only[trCode]at hb1'<;>first | (cases hb1';done) | (exact Bool.noConfusion (show false=true from eX hb1')) | (split at hb1'<;>cases hb1';done) | skip
 rename_i g ps asg bd;split at hb1';rotate_left
 ·cases hb1'
 rename_i hpsN
 injection hb1' with hg0 hps hasg hbody
 obtain rfl:=zq hg0
 have hps':ps=#[p]:=by
  have:=congrArg List.toArray hps;simpa using this
 subst hps';have hp:p<E.N:=by simpa using hpsN
 refine wpIn_block ?_;refine wpIn_rangeFunc (λfn hfn=>?_);obtain⟨ρ0,hR0⟩:=yb hr h0
 let Y:Nat->Prop:=λb=>b=b1\/b=b2\/b=b3
 let Ei:Env:={E with X0:=λb=>E.X0 b\/Y b}
 obtain⟨a1,ha1⟩:∃a1,a1=a.put (some d) (.func (.func gf) #[] #[Ptr b1,Ptr b2,Ptr b3]):=⟨_,rfl⟩;have au:a.tmps.size=E.N:=hR0.size
 have hR1:af Ei ρ0 ⟨s0,H x0⟩ a1 w1:=by
  rw[ha1];exact(hR0.apart hsame Y (λb hb=>by rcases hb with rfl | rfl | rfl<;>exact⟨by assumption,OneCell.lt (by assumption)⟩)).uM d _ hd0
 rw[<-ha1];have hdom':∀(D':Nat),D'∈marksOf a1.defers->D'<w1.heap.size:=λD' hm=>(Array.getElem?_eq_some_iff.1 (hR1.defers.2.2 D' hm).2).1;have hw0:E.w0.heap.size<=w.heap.size:=hR0.ai.size;have hlt2:b2<w1.heap.size:=c2.lt;obtain⟨rec,hrec⟩:∃rec:LoopState->Option Code->Loop,rec=λst pe=>{state:=st,pending:=pe,fn,tmps:=a1.tmps,params:=#[p],assign:=asg,body:=bd,defers:=w1.heap.size}:=⟨_,rfl⟩;obtain⟨W1,hW1⟩:∃W1,(w1.alloc (.deferred (some []))).alloc (.loop (rec .ready none))=W1:=⟨_,rfl⟩;have hS1:az w1 W1:=by rw[<-hW1];exact(az.alloc _ _).trans (az.alloc _ _)
 have hL1:W1.heap[w1.heap.size+1]?=some (.loop (rec .ready none)):=by
  rw[<-hW1];have:=World.alloc_heap_new (w1.alloc (.deferred (some []))) (.loop (rec .ready none));rwa[World.size_alloc]at this
 have hK1:W1.heap[w1.heap.size]?=some (.deferred (some [])):=by
  rw[<-hW1];exact(Below.heap_alloc _ _ _ (by simp)).trans (World.alloc_heap_new w1 _)
 obtain⟨L,hL⟩:∃L,L=w1.heap.size+1:=⟨_,rfl⟩;obtain⟨D,hD⟩:∃D,D=w1.heap.size:=⟨_,rfl⟩;rw[<-hL]at hL1;rw[<-hD]at hK1
 have hev:a1.eval (.tmp d)=.func (.func gf) #[] #[Ptr b1,Ptr b2,Ptr b3]:=by
  rw[ha1]
  show(a.put (some d) _).tmps.getD d undef=_
  rw[qv _ _ _ _ (by rw[au];exact hdN),if_pos rfl]
 have hne:∀(W:World) (o':Obj) (k:Nat),k≠L->(W.putObj L o').heap[k]?=W.heap[k]?:=λW o' k hk=>World.putObj_heap_other hk
 have up:∀{W:World} {h':HP} {ρ:Loc} {r:Loop} (o':Obj),af Ei ρ ⟨s0,h'⟩ a1 W->W.heap[L]?=some (.loop r)->af Ei ρ ⟨s0,h'⟩ a1 (W.putObj L o'):=by
  intro W h' ρ r o' hR hl;have hcell:∀b,nL W b->(W.putObj L o').heap[b]?=W.heap[b]?:=λb hc=>hne _ _ _ (λe=>by subst e;rcases hc with⟨_,_,_,hc⟩ | ⟨_,_,hc⟩<;>(rw[hl]at hc;cases hc))
  exact hR.other rfl rfl rfl (by simp) hcell (λb hb _=>hne _ _ _ (by have:b<E.w0.heap.size:=hb;have:=hsame.size;omega)) (hR.defers.turn (λb hb=>hne _ _ _ (λe=>by rw[e,hl]at hb;cases hb)))
 refine⟨L,[{target:=.collected D,args:=#[]}],W1,{target:=.fn (.func gf) #[Ptr b1,Ptr b2,Ptr b3],args:=#[.func (.yield L) #[] #[]]},W1,gf,
  #[.func (.yield L) #[] #[]]++#[Ptr b1,Ptr b2,Ptr b3],W1,?_,?_,λ_ _=>trivial,?_,λh=>(by cases h),?_⟩
 ·rw[<-hW1,hrec,hL,hD];exact run_enterLoop_outer _ _ _ _ _
 ·simp only[resolve,hev];simp[go_sem]
 ·simp[invoke,go_sem,hcf]
 ·refine wD ((hit L s (λk W=>W.heap[L]?=some (.loop (rec .ready none))/\W.heap[D]?=some (.deferred (some []))/\(∃cur t fz,W.heap[b2]?=some (Obj.cells cur t fz))/\∃y,inv k y/\∃ρ,af Ei ρ ⟨s0,H y⟩ a1 W)
   (λW=>∃cj e,((cj=Code.ret/\e=Exit.ret)\/∃i,cj=Code.exit i/\e=Exit.exit i)/\W.heap[L]?=some (.loop (rec .done (some cj)))/\W.heap[D]?=some (.deferred (some []))/\∃h',blockQ id' Q e ⟨s0,h'⟩/\∃ρ,af Ei ρ ⟨s0,h'⟩ a1 W)
   W1 hlen (c1.turn (hS1.block _ c1.lt)) (c2.turn (hS1.block _ c2.lt)) (c3.turn (hS1.block _ c3.lt)) ?_ ?_ ⟨hL1,hK1,?_,x0,hi,ρ0,hR1.same hS1⟩).mono ?_)
  ·rintro k W W' ⟨hl,hk,hc,y,hy,ρ,hR⟩ g;refine⟨(g.block _ (Array.getElem?_eq_some_iff.1 hl).1 acB).trans hl,(g.block _ (Array.getElem?_eq_some_iff.1 hk).1 acB).trans hk,?_,y,hy,ρ,hR.grow g (.inr (.inr (.inl rfl))) (by show E.w0.heap.size<=b2;omega) hc⟩;obtain⟨cur,t,fz,hc⟩:=hc;exact g.cells cur t fz hc
  ·rintro k W ⟨hl,hk,hc,y,hy,ρ,hR⟩ hlt;have hyl:=run_yield (P:=P) (args:=#[.string ⟨((splitB c s).getD k []).toArray⟩]) hl (by rw[hrec];rfl);rw[hrec]at hyl;simp only at hyl;rw[acm]at hyl;refine⟨fn,_,asg,bd,hyl,roundIn_of_wpIn hfn ?_⟩;have hen:=hR.enter hN hk0 L p hp ((splitB c s).getD k [])
   have hnoL:∀{W:World} {h':HP} {ρ:Loc} {X:Nat->Prop} {r:Loop},cD X ρ h' W->W.heap[L]?=some (.loop r)->¬aE ρ h' L:=by
    intro W h' ρ X r hh hl hx;rcases yw hh hx with⟨_,_,_,hcc⟩ | ⟨_,_,hcc⟩<;>(rw[hl]at hcc;cases hcc)
   refine yN (E:=gJ Ei a1 W (aE ρ (H y)) L) (st:=⟨(p,.str ((splitB c s).getD k []))::(s0++ghost s0),H y⟩) hN hasg
    (K:=λst'=>st'=⟨(q0,.str ((splitB c s).getD k []))::(p,.str ((splitB c s).getD k []))::(s0++ghost s0),H y⟩) (by simp[aops,aop1,isEff,aval,a7,strip,ev,sget,put]) ⟨ρ,hen⟩ ?_
   rintro st' a' w' rfl ⟨ρ1,hr1⟩;have hl':w'.heap[L]?=some (.loop (rec .ready none)):=(hr1.ai.block L (Array.getElem?_eq_some_iff.1 hl).1 (hnoL hR.heap hl)).trans hl;have hk':w'.heap[D]?=some (.deferred (some [])):=(hr1.ai.block D (Array.getElem?_eq_some_iff.1 hk).1 (j8 hR.heap hk)).trans hk
   have hRo:af Ei ρ1 ⟨s0,H y⟩ a1 w':=by
    refine hR.leave hN (hr1.vF (st':=⟨ghost s0,H y⟩) (λj v hj=>?_) (λj v hj=>hj));obtain⟨g1,g2⟩:=u3 s0 j v hj;simp only[sget];rw[if_neg acB,if_neg acB,kh]
    cases hsj:sget s0 j with
    | some u=>have:=hk0 j u hsj;omega
    | none=>rw[ad2];exact hj
   refine⟨w'.putObj L (.loop {rec .ready none with state:=.busy}),run_beginRound hl' (by rw[hrec]),?_⟩;have hl2:(w'.putObj L (.loop {rec .ready none with state:=.busy})).heap[L]?=some (.loop {rec .ready none with state:=.busy}):=World.putObj_heap_same (Array.getElem?_eq_some_iff.1 hl').1;have hRo2:=up (.loop {rec .ready none with state:=.busy}) hRo hl';have hrb:=hr1.Fs (w2:=w'.putObj L (.loop {rec .ready none with state:=.busy})) (by simp) (λb hcc=>hne _ _ _ (λe=>by subst e;rcases hcc with⟨_,_,_,hcc⟩ | ⟨_,_,hcc⟩<;>(rw[hl']at hcc;cases hcc))) (λb hb=>hne _ _ _ (λe=>by rw[e,hl']at hb;cases hb))
   obtain⟨w2,hw2⟩:∃w2,w2=w'.putObj L (.loop {rec .ready none with state:=.busy}):=⟨_,rfl⟩;have hk2:w2.heap[D]?=some (.deferred (some [])):=by rw[hw2];exact(hne _ _ _ acB).trans hk'
   rw[<-hw2]at hl2 hRo2 hrb |-;have hbod:=round (gJ Ei a1 w2 (aE ρ1 (H y)) L) k y rfl rfl hy hlt 0 bd hbody a' w2 ⟨ρ1,hrb⟩;refine wpIn_mono hbod ?_;rintro e a3 w3 ⟨st3,⟨ρ3,hr3⟩,hq⟩;have hl3:w3.heap[L]?=some (.loop {rec .ready none with state:=.busy}):=(hr3.ai.block L (Array.getElem?_eq_some_iff.1 hl2).1 (hnoL hRo2.heap hl2)).trans hl2;have hk3:w3.heap[D]?=some (.deferred (some [])):=(hr3.ai.block D (Array.getElem?_eq_some_iff.1 hk2).1 (j8 hRo2.heap hk2)).trans hk2;have hYn:∀{W:World} {h':HP} {ρ:Loc},cD Ei.X0 ρ h' W->∀b,b=b1\/b=b2\/b=b3->¬aE ρ h' b:=λhh b hb ⟨id',W',L',e1,e2,e3⟩=>hh.out id' W' L' b e1 e2 e3 (.inr hb)
   have hcells:∀b v,b=b1\/b=b2\/b=b3->OneCell W b v->OneCell w3 b v:=by
    intro b v hb ho;have e1:=ho.turn (hr1.ai.block b ho.lt (hYn hR.heap b hb));have e2:OneCell w2 b v:=e1.turn (by rw[hw2];refine hne _ _ _ ?_;rcases hb with rfl | rfl | rfl<;>(have:=c1.lt;have:=c3.lt;omega))
    exact e2.turn (hr3.ai.block b e2.lt (hYn hRo2.heap b hb))
   have hput:∀(o':Obj) b v,b=b1\/b=b2\/b=b3->OneCell w3 b v->OneCell (w3.putObj L o') b v:=by
    intro o' b v hb ho;refine ho.turn (hne _ _ _ ?_);rcases hb with rfl | rfl | rfl<;>(have:=c1.lt;have:=c3.lt;omega)
   have hc3:∃cur t fz,w3.heap[b2]?=some (Obj.cells cur t fz):=by
    obtain⟨cur,t,fz,hcc⟩:=hc;have e1:w'.heap[b2]?=some (Obj.cells cur t fz):=(hr1.ai.block b2 (Array.getElem?_eq_some_iff.1 hcc).1 (hYn hR.heap b2 (.inr (.inl rfl)))).trans hcc;have e2:w2.heap[b2]?=some (Obj.cells cur t fz):=by rw[hw2];exact(hne _ _ _ acB).trans e1
    exact⟨cur,t,fz,(hr3.ai.block b2 (Array.getElem?_eq_some_iff.1 e2).1 (hYn hRo2.heap b2 (.inr (.inl rfl)))).trans e2⟩
   have hLlt:=(Array.getElem?_eq_some_iff.1 hl3).1
   cases e with
   | normal=>
    obtain⟨y',hy',hwk⟩:=hq;obtain⟨ρ4,hr4⟩:=jK hwk hr3;have hR4:=hRo2.leave hN hr4;refine⟨_,_,run_endRound (P:=P) none hl3,.inl ⟨rfl,⟨?_,(hne _ _ _ acB).trans hk3,?_,y',hy',ρ4,up _ hR4 hl3⟩,λb v hb ho=>hput _ b v hb (hcells b v hb ho)⟩⟩
    ·rw[hrec];exact World.putObj_heap_same hLlt
    ·obtain⟨cur,t,fz,hcc⟩:=hc3
     exact⟨cur,t,fz,(hne _ _ _ acB).trans hcc⟩
   | ret=>
    obtain⟨h',hwk,hq'⟩:=hq;obtain⟨ρ4,hr4⟩:=jK hwk hr3;have hR4:=hRo2.leave hN hr4;refine⟨_,_,run_endRound (P:=P) (some .ret) hl3,.inr ⟨rfl,.ret,.ret,.inl ⟨rfl,rfl⟩,?_,(hne _ _ _ acB).trans hk3,h',hq',ρ4,up _ hR4 hl3⟩⟩
    rw[hrec];exact World.putObj_heap_same hLlt
   | exit i=>
    obtain⟨h',hwk,hq'⟩:=hq;obtain⟨ρ4,hr4⟩:=jK hwk hr3;have hR4:=hRo2.leave hN hr4;refine⟨_,_,run_endRound (P:=P) (some (.exit i)) hl3,.inr ⟨rfl,.exit i,.exit i,.inr ⟨i,rfl,rfl⟩,?_,(hne _ _ _ acB).trans hk3,h',hq',ρ4,up _ hR4 hl3⟩⟩
    rw[hrec];exact World.putObj_heap_same hLlt
   | goto _=>exact hq.elim
   | panic _=>exact hq.elim
   | outgrown=>exact hq.elim
  ·obtain⟨t,hcc⟩:=c2;exact⟨_,t,_,(hS1.block _ hlt2).trans hcc⟩
  ·have fin:∀{W2:World} {h':HP} {ρ:Loc} {r:Loop} (o':Obj),af Ei ρ ⟨s0,h'⟩ a1 W2->W2.heap[L]?=some (.loop r)->W2.heap[D]?=some (.deferred (some [])) ->
       af E ρ ⟨s0,h'⟩ {a1 with defers:=[{target:=.collected D,args:=#[]}]++a1.defers} (W2.putObj L o'):=by
    intro W2 h' ρ r o' hR hl hk;have h1:=up o' hR hl;have hk':(W2.putObj L o').heap[D]?=some (.deferred (some [])):=(hne _ _ _ acB).trans hk
    have hdf:fQ Ei.dn Ei.df ([{target:=.collected D,args:=#[]}]++a1.defers) (W2.putObj L o'):=by
     obtain⟨⟨Ds,e0⟩,e2,e3⟩:=h1.defers;refine⟨⟨D::Ds,by rw[e0];rfl⟩,aer.2 ⟨λhm=>?_,e2⟩,λD' hm=>?_⟩
     ·have:=hdom' D hm;omega
     ·rcases acW.1 hm with rfl | hm
      ·have:=E.qx;have:=hsame.size;refine⟨?_,hk'⟩
       show E.dn<=D'
       omega
      exact e3 D' hm
    exact(h1.other (w':=W2.putObj L o') rfl rfl rfl (acG _) (λ_ _=>rfl) (λ_ _ _=>rfl) hdf).less (λb hb=>.inl hb)
   rintro e W2 ⟨⟨v,rfl⟩,(⟨hl,hk,_,y,hy,ρ,hR⟩ | ⟨cj,e,hcj,hl,hk,h',hq,ρ,hR⟩)⟩;exact⟨none,_,by have:=run_endLoop (P:=P) hl (by rw[hrec];simp);rw[hrec]at this;exact this,⟨s0,H y⟩,⟨ρ,fin _ hR hl hk⟩,done y hy⟩
   ·refine⟨some cj,_,by have:=run_endLoop (P:=P) hl (by rw[hrec];simp);rw[hrec]at this;exact this,?_⟩;rcases hcj with⟨rfl,rfl⟩ | ⟨i,rfl,rfl⟩;exact wpIn_ret ⟨⟨s0,h'⟩,⟨ρ,fin _ hR hl hk⟩,hq⟩
    ·refine wpIn_exit ?_;simp only[blockQ]at hq;simp only[Exit.inBlock];split at hq
     ·rename_i hi;rw[if_pos hi];exact⟨⟨s0,h'⟩,⟨ρ,fin _ hR hl hk⟩,hq⟩
     ·rename_i hi;rw[if_neg hi];exact⟨⟨s0,h'⟩,⟨ρ,fin _ hR hl hk⟩,hq⟩
def splitK (P:Program) (E:Env) (d f:Nat) (x:AE) (c:UInt8) (bk p q0:Nat) (body:AC) (Q:Exit->St->Prop) (st:St):Prop:=
 ∀(n:Nat) (ops:Array Oper) (o:Oper) (b:Code) (a:Act) (w:World),o.dst=some d->d<E.N->o.guard=none->kV o.op=true->trOp P o=.call f [x,.c (.str [c])] ->
  trCode P E.N E.B b=.block bk (.gl (.t d) [p] (.bQ [⟨some q0,none,false,E.B+q0,.fZ (.t p)⟩]) body)->Rel E st a w ->
   wpListIn (cG E.rd) n P ops (Exit.then (b.wpIn (cG E.rd) n P (lift E Q)) (lift E Q)) [o] a w
theorem Jn {ops:List aO} {d f bk p q0:Nat} {x:AE} {c:UInt8} {body:AC} (hN:E.N<=1000000) (h:aops P ops st (splitK P E d f x c bk p q0 body Q)) :
    bm P E (.seq (.gi (ops++[⟨some d,none,false,E.B+d,.call f [x,.c (.str [c])]⟩])) (.block bk (.gl (.t d) [p] (.bQ [⟨some q0,none,false,E.B+q0,.fZ (.t p)⟩]) body))) st Q:=by
 intro n code hc a w hr;cases code<;>simp only[trCode]at hc<;>first | (cases hc;done) | (exact Bool.noConfusion (show false=true from eX hc)) | (split at hc<;>cases hc;done) | skip
 rename_i c1 c2
 injection hc with hc1 hc2
 refine wpIn_seq ?_;cases c1<;>simp only[trCode]at hc1<;>first | (cases hc1;done) | skip
 ·rename_i id ops' draw;obtain⟨hl,hd⟩:=GI hc1
  ··subst hd;unfold l6 at hl;split at hl
    ·rename_i hf;have hf':∀o∈ops'.toList,fits E.N o=true:=λo ho=>acI.1 hf o ho;simp only[acT,if_false,Option.some.injEq]at hl;obtain⟨pre,suf,e1,e2,e3⟩:=afk.1 hl;obtain⟨o,suf',e4,e5,e6⟩:=List.map_eq_cons_iff.1 e3;obtain rfl:=List.map_eq_nil_iff.1 e6;rw[e4]at e1;obtain⟨ρ,hρ⟩:=hr;have hom:o∈ops'.toList:=by rw[e1];simp
     have hfo:=hf' o hom;simp only[eP,aO.mk.injEq,true_and]at e5;obtain⟨g1,g2,g3,g4⟩:=e5;refine wpIn_region_list ?_;rw[e1];refine lC hN ops' (K:=splitK P E d f x c bk p q0 body Q) [o] (λst' a' w' hk hr'=>?_) pre (λo ho=>hf' o (by rw[e1];exact ad1 _ ho)) hρ (by rw[e2];exact h);exact hk n ops' o c2 a' w' g1 (ow hfo d g1) (by simpa using g2) (iO hfo) g4 hc2 hr'
    ·cases hl
 ·split at hc1<;>cases hc1
end
end Go.Proofs.YtgghhaahnpbnmaaGreatDoor.Eng
namespace Go.Proofs.YtgghhaahnpbnmaaGreatDoor.Eng
open Go.RowKit
def zM (W:World) (sv:Value) (xs:List (List UInt8)):Prop:=
 ∃A c,sv=.slice A xs.length c/\xs.length<=c/\∀j,j<xs.length->∃ad,A=some ad/\ad.spot=none/\W.cell? (ad.add j)=some (.string ⟨(xs.getD j []).toArray⟩)
def zL (P:Program) (gf b1:Nat) (sv:Value):Prop:=
 ∀(l:Nat) (xs:List (List UInt8)) (J:Nat->World->Prop) (Jx:World->Prop) (W:World),xs.length<=9223372036854775807 ->
  (∀k W1,J k W1->OneCell W1 b1 sv/\zM W1 sv xs) ->
  (∀k W1,J k W1->k<xs.length->YieldAt Fence.wide 0 P l #[.int .i64 ((xs.length-1-k:Nat):Int),.string ⟨(xs.getD (xs.length-1-k) []).toArray⟩] W1 λe W'=>
   (e=.returned (.bool true)/\J (k+1) W')\/(e=.returned (.bool false)/\Jx W')) ->
  J 0 W->Calls P gf #[.func (.yield l) #[] #[],Ptr b1] W λe W'=>(∃v,e=.returned v)/\(J xs.length W'\/Jx W')
def vK (P:Program) (f:Nat):Prop:=
 ∀(A:Option Addr) (n c:Nat) (w:World),Calls P f #[.slice A n c] w λe w'=>∃gf b1,e=.returned (.func (.func gf) #[] #[Ptr b1])/\az w w'/\w.heap.size<=b1/\OneCell w' b1 (.slice A n c)/\(∀args w,(callFunc gf args).run P w=.ok (.enter gf args) w)/\zL P gf b1 (.slice A n c)
theorem B2 {X:Nat->Prop} {w:World} {ρ:Loc} {sv:Value} {xs:List (List UInt8)} (h:RV X w ρ sv (.ro 1 (xs.map .str))):zM w sv xs:=by
 have hfl:∀l:List (List UInt8),flat (l.map AV.str)=l.map AV.str:=λl=>by
  induction l with
  | nil=>rfl
  | cons x r ih => 
   have:flat ((x::r).map AV.str)=AV.str x::flat (r.map AV.str):=rfl;rw[this,ih];rfl
 cases h with
 | ro _ A c _ _ vs hc au hlen hcell hrel=>
  rw[hfl,acY]at hlen;rw[acY]at hc;refine⟨A,c,by rw[acY],hc,λj hj=>?_⟩;obtain⟨ad,e1,e2,e3,e4⟩:=hcell j acB;refine⟨ad,e1,e2,?_⟩;have ev:vs[j]?=some vs[j]:=List.getElem?_eq_getElem acB
  have ea:(flat (xs.map AV.str))[j]?=some (.str (xs.getD j [])):=by
   rw[hfl,List.getElem?_map,List.getElem?_eq_getElem hj,acC,List.getElem?_eq_getElem hj];rfl
  have:=hrel j _ _ ev ea;rw[e4,ev,RV.lp this]
theorem acn (p1 p:Nat) (v1 v:Value) (T:Array Value):Array.foldl (λtmps x=>match x with | (t,a)=>tmps.setIfInBounds t a) T (#[p1,p].zip #[v1,v])=(T.setIfInBounds p1 v1).setIfInBounds p v:=by
 rw[show #[p1,p].zip #[v1,v]=#[(p1,v1),(p,v)]from by simp];rfl
theorem Xg (a:Act) (p:Nat) (v:Value) (h:p<a.tmps.size):(a.put (some p) v).put (some p) (a.tmps.getD p undef)=a:=by
 cases a with
 | mk tmps defers=>
  simp only[Act.put]
  congr 1
  apply ae4;intro i;simp only[Array.getElem?_setIfInBounds,ae7];have h:p<tmps.size:=h;by_cases hi:p=i
  ·subst hi;simp[h,acO]
  ·simp[hi]
section
variable {P:Program} {E:Env} {Q:Exit->St->Prop} {st:St}
theorem JG {d f bk p1 p q0 kx:Nat} {body:AC} (hN:E.N<=1000000) (hrd:E.rd=none) (hq0:q0<1000000) (hS:vK P f) {xs:List (List UInt8)} (hlen:xs.length<=9223372036854775807) {α:Type} (s0:List (Nat×AV)) (H:α->HP)
    (inv:Nat->α->Prop) (x0:α) (h0:Wk st ⟨s0,H x0⟩) (hi:inv 0 x0) (hd0:sget s0 d=none) (hp1:sget s0 p1=none) (hkx:sget s0 kx=some (.ro 1 (xs.map .str))) (hkN:kx<E.N) (hpp:p1≠p) (hk0:∀k v,sget s0 k=some v->k<3000000)
    (round:∀(E2:Env) k y,E2.N=E.N->E2.B=E.B->inv k y->k<xs.length ->
     bm P E2 body ⟨(q0,.str (xs.getD (xs.length-1-k) []))::(p,.str (xs.getD (xs.length-1-k) []))::(s0++ghost s0),H y⟩ (uV (λst'=>∃y',inv (k+1) y'/\Wk st' ⟨ghost s0,H y'⟩) s0 (blockQ bk Q)))
    (done:∀y,inv xs.length y->Q .normal ⟨s0,H y⟩)
    {n:Nat} {ops:Array Oper} {o:Oper} {b:Code} {a:Act} {w:World} (hd:o.dst=some d) (hg:o.guard=none) (hnd:kV o.op=true) (htr:trOp P o=.call f [.t kx])
    (hdN:d<E.N) (hb:trCode P E.N E.B b=.block bk (.gl (.t d) [p1,p] (.bQ [⟨some q0,none,false,E.B+q0,.fZ (.t p)⟩]) body)) (hr:Rel E st a w) :
    wpListIn (cG E.rd) n P ops (Exit.then (b.wpIn (cG E.rd) n P (lift E Q)) (lift E Q)) [o] a w:=by
 refine wpListIn_plain hg (λnext hnext=>jL hnd ?_)
 obtain⟨vs,h1,h2,h3⟩:=pZ htr a w;unfold Oper.wp;rw[h1,Oper.upon_enter];have h2:vs.size=1:=h2;have hkd:kx≠d:=λe=>by rw[e,hd0]at hkx;cases hkx
 obtain⟨sv,hsv⟩:∃sv,sv=a.eval (.tmp kx):=⟨_,rfl⟩
 have hv0:vs[0]?=some sv:=by
  have e0:vs[0]?=some vs[0]:=Array.getElem?_eq_getElem acB;obtain⟨y,e1,e2⟩:=h3 0 _ _ e0 rfl;obtain rfl:=zq e2.symm;rw[e0,hsv,e1]
 have hvs:vs=#[sv]:=by
  apply ae4;intro i;rcases i with _ | i;exact hv0
  ·simp[Array.getElem?_eq_none (show vs.size<=i+1 by omega)]
 rw[hvs]
 obtain⟨A,c,hsl⟩:∃A c,sv=.slice A xs.length c:=by
  obtain⟨ρ9,h9⟩:=yb hr h0;have h10:=(h9.aM kx _ hkx).2
  have e10:aP E a kx=sv:=by
   unfold aP;rw[if_pos hkN,hsv];rfl
  rw[e10]at h10;obtain⟨A,c,h11,_⟩:=B2 h10;exact⟨A,c,h11⟩
 rw[hsl];refine(hS A xs.length c w).mono ?_;rintro e w1 ⟨gf,b1,rfl,hsame,hb1,c1,hcf,hit⟩;rw[<-hsl]at c1 hit;refine hnext _ _ ?_
 show b.wpIn (cG E.rd) n P (lift E Q) (a.put o.dst (.func (.func gf) #[] #[Ptr b1])) w1
 rw[hd,hrd];cases b<;>simp only[trCode]at hb<;>first | (cases hb;done) | (exact Bool.noConfusion (show false=true from eX hb)) | (split at hb<;>cases hb;done) | skip
 rename_i id' cb
 injection hb with hb0 hb1'
 subst hb0;cases cb<;>simp only[trCode]at hb1'<;>first | (cases hb1';done) | (exact Bool.noConfusion (show false=true from eX hb1')) | (split at hb1'<;>cases hb1';done) | skip
 rename_i g ps asg bd;split at hb1';rotate_left
 ·cases hb1'
 rename_i hpsN
 injection hb1' with hg0 hps hasg hbody
 obtain rfl:=zq hg0
 have hps':ps=#[p1,p]:=by
  have:=congrArg List.toArray hps;simpa using this
 subst hps';have hpN:p1<E.N/\p<E.N:=by simpa using hpsN
 have hp:=hpN.2;refine wpIn_block ?_;refine wpIn_rangeFunc (λfn hfn=>?_);obtain⟨ρ0,hR0⟩:=yb hr h0
 let Y:Nat->Prop:=λb=>b=b1
 let Ei:Env:={E with X0:=λb=>E.X0 b\/Y b}
 obtain⟨a1,ha1⟩:∃a1,a1=a.put (some d) (.func (.func gf) #[] #[Ptr b1]):=⟨_,rfl⟩;have au:a.tmps.size=E.N:=hR0.size
 have hR1:af Ei ρ0 ⟨s0,H x0⟩ a1 w1:=by
  rw[ha1];exact(hR0.apart hsame Y (λb hb=>by obtain rfl:b=b1:=hb;exact⟨hb1,c1.lt⟩)).uM d _ hd0
 rw[<-ha1];have hdom':∀(D':Nat),D'∈marksOf a1.defers->D'<w1.heap.size:=λD' hm=>(Array.getElem?_eq_some_iff.1 (hR1.defers.2.2 D' hm).2).1;have hw0:E.w0.heap.size<=w.heap.size:=hR0.ai.size;have hlt1:b1<w1.heap.size:=c1.lt
 have hsv1:aP E a1 kx=sv:=by
  unfold aP;rw[if_pos hkN,ha1]
  show(a.put (some d) _).tmps.getD kx undef=sv
  rw[qv _ _ _ _ (by rw[au];exact hdN),if_neg hkd,hsv];rfl
 obtain⟨rec,hrec⟩:∃rec:LoopState->Option Code->Loop,rec=λst pe=>{state:=st,pending:=pe,fn,tmps:=a1.tmps,params:=#[p1,p],assign:=asg,body:=bd,defers:=w1.heap.size}:=⟨_,rfl⟩;obtain⟨W1,hW1⟩:∃W1,(w1.alloc (.deferred (some []))).alloc (.loop (rec .ready none))=W1:=⟨_,rfl⟩;have hS1:az w1 W1:=by rw[<-hW1];exact(az.alloc _ _).trans (az.alloc _ _)
 have hL1:W1.heap[w1.heap.size+1]?=some (.loop (rec .ready none)):=by
  rw[<-hW1];have:=World.alloc_heap_new (w1.alloc (.deferred (some []))) (.loop (rec .ready none));rwa[World.size_alloc]at this
 have hK1:W1.heap[w1.heap.size]?=some (.deferred (some [])):=by
  rw[<-hW1];exact(Below.heap_alloc _ _ _ (by simp)).trans (World.alloc_heap_new w1 _)
 obtain⟨L,hL⟩:∃L,L=w1.heap.size+1:=⟨_,rfl⟩;obtain⟨D,hD⟩:∃D,D=w1.heap.size:=⟨_,rfl⟩;rw[<-hL]at hL1;rw[<-hD]at hK1
 have hev:a1.eval (.tmp d)=.func (.func gf) #[] #[Ptr b1]:=by
  rw[ha1]
  show(a.put (some d) _).tmps.getD d undef=_
  rw[qv _ _ _ _ (by rw[au];exact hdN),if_pos rfl]
 have hne:∀(W:World) (o':Obj) (k:Nat),k≠L->(W.putObj L o').heap[k]?=W.heap[k]?:=λW o' k hk=>World.putObj_heap_other hk
 have up:∀{A:Act} {W:World} {h':HP} {ρ:Loc} {r:Loop} (o':Obj),af Ei ρ ⟨s0,h'⟩ A W->W.heap[L]?=some (.loop r)->af Ei ρ ⟨s0,h'⟩ A (W.putObj L o'):=by
  intro A W h' ρ r o' hR hl;have hcell:∀b,nL W b->(W.putObj L o').heap[b]?=W.heap[b]?:=λb hc=>hne _ _ _ (λe=>by subst e;rcases hc with⟨_,_,_,hc⟩ | ⟨_,_,hc⟩<;>(rw[hl]at hc;cases hc))
  exact hR.other rfl rfl rfl (by simp) hcell (λb hb _=>hne _ _ _ (by have:b<E.w0.heap.size:=hb;have:=hsame.size;omega)) (hR.defers.turn (λb hb=>hne _ _ _ (λe=>by rw[e,hl]at hb;cases hb)))
 refine⟨L,[{target:=.collected D,args:=#[]}],W1,{target:=.fn (.func gf) #[Ptr b1],args:=#[.func (.yield L) #[] #[]]},W1,gf,
  #[.func (.yield L) #[] #[]]++#[Ptr b1],W1,?_,?_,λ_ _=>trivial,?_,λh=>(by cases h),?_⟩
 ·rw[<-hW1,hrec,hL,hD];exact run_enterLoop_outer _ _ _ _ _
 ·simp only[resolve,hev];simp[go_sem]
 ·simp[invoke,go_sem,hcf]
 ·refine wD ((hit L xs (λk W=>W.heap[L]?=some (.loop (rec .ready none))/\W.heap[D]?=some (.deferred (some []))/\OneCell W b1 sv/\∃y,inv k y/\∃ρ,af Ei ρ ⟨s0,H y⟩ a1 W)
   (λW=>∃cj e,((cj=Code.ret/\e=Exit.ret)\/∃i,cj=Code.exit i/\e=Exit.exit i)/\W.heap[L]?=some (.loop (rec .done (some cj)))/\W.heap[D]?=some (.deferred (some []))/\∃h',blockQ id' Q e ⟨s0,h'⟩/\∃ρ,af Ei ρ ⟨s0,h'⟩ a1 W)
   W1 hlen ?_ ?_ ⟨hL1,hK1,c1.turn (hS1.block _ c1.lt),x0,hi,ρ0,hR1.same hS1⟩).mono ?_)
  ·rintro k W ⟨hl,hk,hc,y,hy,ρ,hR⟩;have:=(hR.aM kx _ hkx).2;rw[show aP Ei a1 kx=sv from hsv1]at this;exact⟨hc,B2 this⟩
  ·rintro k W ⟨hl,hk,hc,y,hy,ρ,hR⟩ hlt;have hyl:=run_yield (P:=P) (args:=#[.int .i64 ((xs.length-1-k:Nat):Int),.string ⟨(xs.getD (xs.length-1-k) []).toArray⟩]) hl (by rw[hrec];rfl);rw[hrec]at hyl;simp only at hyl;rw[acn]at hyl;refine⟨fn,_,asg,bd,hyl,roundIn_of_wpIn hfn ?_⟩;obtain⟨ak,hak⟩:∃ak,ak=a1.put (some p1) (.int .i64 ((xs.length-1-k:Nat):Int)):=⟨_,rfl⟩;have hback:ak.put (some p1) (a1.tmps.getD p1 undef)=a1:=by rw[hak];exact Xg a1 p1 _ (by rw[hR.size];exact hpN.1)
   have hRk:af Ei ρ ⟨s0,H y⟩ ak W:=by rw[hak];exact hR.uM p1 _ hp1
   have hen:=hRk.enter hN hk0 L p hp (xs.getD (xs.length-1-k) []);have htm:ak.tmps=a1.tmps.setIfInBounds p1 (.int .i64 ((xs.length-1-k:Nat):Int)):=by rw[hak];rfl
   rw[htm]at hen
   have hnoL:∀{W:World} {h':HP} {ρ:Loc} {X:Nat->Prop} {r:Loop},cD X ρ h' W->W.heap[L]?=some (.loop r)->¬aE ρ h' L:=by
    intro W h' ρ X r hh hl hx;rcases yw hh hx with⟨_,_,_,hcc⟩ | ⟨_,_,hcc⟩<;>(rw[hl]at hcc;cases hcc)
   refine yN (E:=gJ Ei ak W (aE ρ (H y)) L) (st:=⟨(p,.str (xs.getD (xs.length-1-k) []))::(s0++ghost s0),H y⟩) hN hasg
    (K:=λst'=>st'=⟨(q0,.str (xs.getD (xs.length-1-k) []))::(p,.str (xs.getD (xs.length-1-k) []))::(s0++ghost s0),H y⟩) (by simp[aops,aop1,isEff,aval,a7,strip,ev,sget,put]) ⟨ρ,hen⟩ ?_
   rintro st' a' w' rfl ⟨ρ1,hr1⟩;have hl':w'.heap[L]?=some (.loop (rec .ready none)):=(hr1.ai.block L (Array.getElem?_eq_some_iff.1 hl).1 (hnoL hR.heap hl)).trans hl;have hk':w'.heap[D]?=some (.deferred (some [])):=(hr1.ai.block D (Array.getElem?_eq_some_iff.1 hk).1 (j8 hR.heap hk)).trans hk
   have hRo:af Ei ρ1 ⟨s0,H y⟩ ak w':=by
    refine hRk.leave hN (hr1.vF (st':=⟨ghost s0,H y⟩) (λj v hj=>?_) (λj v hj=>hj));obtain⟨g1,g2⟩:=u3 s0 j v hj;simp only[sget];rw[if_neg acB,if_neg acB,kh]
    cases hsj:sget s0 j with
    | some u=>have:=hk0 j u hsj;omega
    | none=>rw[ad2];exact hj
   refine⟨w'.putObj L (.loop {rec .ready none with state:=.busy}),run_beginRound hl' (by rw[hrec]),?_⟩;have hl2:(w'.putObj L (.loop {rec .ready none with state:=.busy})).heap[L]?=some (.loop {rec .ready none with state:=.busy}):=World.putObj_heap_same (Array.getElem?_eq_some_iff.1 hl').1;have hRo2:=up (.loop {rec .ready none with state:=.busy}) hRo hl';have hrb:=hr1.Fs (w2:=w'.putObj L (.loop {rec .ready none with state:=.busy})) (by simp) (λb hcc=>hne _ _ _ (λe=>by subst e;rcases hcc with⟨_,_,_,hcc⟩ | ⟨_,_,hcc⟩<;>(rw[hl']at hcc;cases hcc))) (λb hb=>hne _ _ _ (λe=>by rw[e,hl']at hb;cases hb))
   obtain⟨w2,hw2⟩:∃w2,w2=w'.putObj L (.loop {rec .ready none with state:=.busy}):=⟨_,rfl⟩;have hk2:w2.heap[D]?=some (.deferred (some [])):=by rw[hw2];exact(hne _ _ _ acB).trans hk'
   rw[<-hw2]at hl2 hRo2 hrb |-;have hbod:=round (gJ Ei ak w2 (aE ρ1 (H y)) L) k y rfl rfl hy hlt 0 bd hbody a' w2 ⟨ρ1,hrb⟩;refine wpIn_mono hbod ?_;rintro e a3 w3 ⟨st3,⟨ρ3,hr3⟩,hq⟩;have hl3:w3.heap[L]?=some (.loop {rec .ready none with state:=.busy}):=(hr3.ai.block L (Array.getElem?_eq_some_iff.1 hl2).1 (hnoL hRo2.heap hl2)).trans hl2;have hk3:w3.heap[D]?=some (.deferred (some [])):=(hr3.ai.block D (Array.getElem?_eq_some_iff.1 hk2).1 (j8 hRo2.heap hk2)).trans hk2;have hYn:∀{W:World} {h':HP} {ρ:Loc},cD Ei.X0 ρ h' W->¬aE ρ h' b1:=λhh ⟨id',W',L',e1,e2,e3⟩=>hh.out id' W' L' b1 e1 e2 e3 (.inr rfl)
   have hcell3:OneCell w3 b1 sv:=by
    have e1:=hc.turn (hr1.ai.block b1 hc.lt (hYn hR.heap));have e2:OneCell w2 b1 sv:=e1.turn (by rw[hw2];exact hne _ _ _ acB);exact e2.turn (hr3.ai.block b1 e2.lt (hYn hRo2.heap))
   have hput:∀(o':Obj),OneCell (w3.putObj L o') b1 sv:=λo'=>hcell3.turn (hne _ _ _ acB)
   have unk:∀{h':HP} {ρ:Loc} {W:World},af Ei ρ ⟨s0,h'⟩ ak W->af Ei ρ ⟨s0,h'⟩ a1 W:=λh=>by
    have:=h.uM p1 (a1.tmps.getD p1 undef) hp1
    rwa[hback]at this
   have hLlt:=(Array.getElem?_eq_some_iff.1 hl3).1
   cases e with
   | normal=>
    obtain⟨y',hy',hwk⟩:=hq;obtain⟨ρ4,hr4⟩:=jK hwk hr3;have hR4:=hRo2.leave hN hr4;refine⟨_,_,run_endRound (P:=P) none hl3,.inl ⟨rfl,⟨?_,(hne _ _ _ acB).trans hk3,hput _,y',hy',ρ4,unk (up _ hR4 hl3)⟩⟩⟩
    rw[hrec];exact World.putObj_heap_same hLlt
   | ret=>
    obtain⟨h',hwk,hq'⟩:=hq;obtain⟨ρ4,hr4⟩:=jK hwk hr3;have hR4:=hRo2.leave hN hr4;refine⟨_,_,run_endRound (P:=P) (some .ret) hl3,.inr ⟨rfl,.ret,.ret,.inl ⟨rfl,rfl⟩,?_,(hne _ _ _ acB).trans hk3,h',hq',ρ4,unk (up _ hR4 hl3)⟩⟩
    rw[hrec];exact World.putObj_heap_same hLlt
   | exit i=>
    obtain⟨h',hwk,hq'⟩:=hq;obtain⟨ρ4,hr4⟩:=jK hwk hr3;have hR4:=hRo2.leave hN hr4;refine⟨_,_,run_endRound (P:=P) (some (.exit i)) hl3,.inr ⟨rfl,.exit i,.exit i,.inr ⟨i,rfl,rfl⟩,?_,(hne _ _ _ acB).trans hk3,h',hq',ρ4,unk (up _ hR4 hl3)⟩⟩
    rw[hrec];exact World.putObj_heap_same hLlt
   | goto _=>exact hq.elim
   | panic _=>exact hq.elim
   | outgrown=>exact hq.elim
  ·have fin:∀{W2:World} {h':HP} {ρ:Loc} {r:Loop} (o':Obj),af Ei ρ ⟨s0,h'⟩ a1 W2->W2.heap[L]?=some (.loop r)->W2.heap[D]?=some (.deferred (some [])) ->
       af E ρ ⟨s0,h'⟩ {a1 with defers:=[{target:=.collected D,args:=#[]}]++a1.defers} (W2.putObj L o'):=by
    intro W2 h' ρ r o' hR hl hk;have h1:=up o' hR hl;have hk':(W2.putObj L o').heap[D]?=some (.deferred (some [])):=(hne _ _ _ acB).trans hk
    have hdf:fQ Ei.dn Ei.df ([{target:=.collected D,args:=#[]}]++a1.defers) (W2.putObj L o'):=by
     obtain⟨⟨Ds,e0⟩,e2,e3⟩:=h1.defers;refine⟨⟨D::Ds,by rw[e0];rfl⟩,aer.2 ⟨λhm=>?_,e2⟩,λD' hm=>?_⟩
     ·have:=hdom' D hm;omega
     ·rcases acW.1 hm with rfl | hm
      ·have:=E.qx;have:=hsame.size;refine⟨?_,hk'⟩
       show E.dn<=D'
       omega
      exact e3 D' hm
    exact(h1.other (w':=W2.putObj L o') rfl rfl rfl (acG _) (λ_ _=>rfl) (λ_ _ _=>rfl) hdf).less (λb hb=>.inl hb)
   rintro e W2 ⟨⟨v,rfl⟩,(⟨hl,hk,_,y,hy,ρ,hR⟩ | ⟨cj,e,hcj,hl,hk,h',hq,ρ,hR⟩)⟩;exact⟨none,_,by have:=run_endLoop (P:=P) hl (by rw[hrec];simp);rw[hrec]at this;exact this,⟨s0,H y⟩,⟨ρ,fin _ hR hl hk⟩,done y hy⟩
   ·refine⟨some cj,_,by have:=run_endLoop (P:=P) hl (by rw[hrec];simp);rw[hrec]at this;exact this,?_⟩;rcases hcj with⟨rfl,rfl⟩ | ⟨i,rfl,rfl⟩;exact wpIn_ret ⟨⟨s0,h'⟩,⟨ρ,fin _ hR hl hk⟩,hq⟩
    ·refine wpIn_exit ?_;simp only[blockQ]at hq;simp only[Exit.inBlock];split at hq
     ·rename_i hi;rw[if_pos hi];exact⟨⟨s0,h'⟩,⟨ρ,fin _ hR hl hk⟩,hq⟩
     ·rename_i hi;rw[if_neg hi];exact⟨⟨s0,h'⟩,⟨ρ,fin _ hR hl hk⟩,hq⟩
def pR (P:Program) (E:Env) (d f kx bk p1 p q0:Nat) (body:AC) (Q:Exit->St->Prop) (st:St):Prop:=
 ∀(n:Nat) (ops:Array Oper) (o:Oper) (b:Code) (a:Act) (w:World),o.dst=some d->d<E.N->o.guard=none->kV o.op=true->trOp P o=.call f [.t kx] ->
  trCode P E.N E.B b=.block bk (.gl (.t d) [p1,p] (.bQ [⟨some q0,none,false,E.B+q0,.fZ (.t p)⟩]) body)->Rel E st a w ->
   wpListIn (cG E.rd) n P ops (Exit.then (b.wpIn (cG E.rd) n P (lift E Q)) (lift E Q)) [o] a w
theorem Jb {ops:List aO} {d f kx bk p1 p q0:Nat} {body:AC} (hN:E.N<=1000000) (h:aops P ops st (pR P E d f kx bk p1 p q0 body Q)) :
    bm P E (.seq (.gi (ops++[⟨some d,none,false,E.B+d,.call f [.t kx]⟩])) (.block bk (.gl (.t d) [p1,p] (.bQ [⟨some q0,none,false,E.B+q0,.fZ (.t p)⟩]) body))) st Q:=by
 intro n code hc a w hr;cases code<;>simp only[trCode]at hc<;>first | (cases hc;done) | (exact Bool.noConfusion (show false=true from eX hc)) | (split at hc<;>cases hc;done) | skip
 rename_i c1 c2
 injection hc with hc1 hc2
 refine wpIn_seq ?_;cases c1<;>simp only[trCode]at hc1<;>first | (cases hc1;done) | skip
 ·rename_i id ops' draw;obtain⟨hl,hd⟩:=GI hc1
  ··subst hd;unfold l6 at hl;split at hl
    ·rename_i hf;have hf':∀o∈ops'.toList,fits E.N o=true:=λo ho=>acI.1 hf o ho;simp only[acT,if_false,Option.some.injEq]at hl;obtain⟨pre,suf,e1,e2,e3⟩:=afk.1 hl;obtain⟨o,suf',e4,e5,e6⟩:=List.map_eq_cons_iff.1 e3;obtain rfl:=List.map_eq_nil_iff.1 e6;rw[e4]at e1;obtain⟨ρ,hρ⟩:=hr;have hom:o∈ops'.toList:=by rw[e1];simp
     have hfo:=hf' o hom;simp only[eP,aO.mk.injEq,true_and]at e5;obtain⟨g1,g2,g3,g4⟩:=e5;refine wpIn_region_list ?_;rw[e1];refine lC hN ops' (K:=pR P E d f kx bk p1 p q0 body Q) [o] (λst' a' w' hk hr'=>?_) pre (λo ho=>hf' o (by rw[e1];exact ad1 _ ho)) hρ (by rw[e2];exact h);exact hk n ops' o c2 a' w' g1 (ow hfo d g1) (by simpa using g2) (iO hfo) g4 hc2 hr'
    ·cases hl
 ·split at hc1<;>cases hc1
end
end Go.Proofs.YtgghhaahnpbnmaaGreatDoor.Eng
