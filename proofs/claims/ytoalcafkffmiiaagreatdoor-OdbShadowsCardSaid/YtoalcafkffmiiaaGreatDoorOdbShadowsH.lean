/- The proof, part 8 of 43. -/
import Derived.Test.YtoalcafkffmiiaaGreatDoorOdbShadowsF
import Derived.RangeFuncSeq
import Derived.RangeFuncIn
import Derived.RangeFuncBox
set_option linter.all false
namespace Go.Proofs.YtoalcafkffmiiaaGreatDoor.Eng
open Go.RowKit
def splitB (c:UInt8):List UInt8->List (List UInt8)
 | []=>[[]]
 | x::r=>if x=c then[]::splitB c r else match splitB c r with
  | []=>[[x]]
  | p::ps=>(x::p)::ps
def Ptr (b:Nat):Value:=.pointer (some ⟨b,0,none⟩)
def OneCell (W:World) (b:Nat) (v:Value):Prop:=∃t,W.heap[b]?=some (Obj.cells #[v] t (0,0))
structure rA (b:Nat) (W W':World):Prop where
 os:W'.os=W.os
 tape:W'.tape=W.tape
 output:W'.output=W.output
 size:W.heap.size<=W'.heap.size
 block:∀k,k<W.heap.size->k≠b->W'.heap[k]?=W.heap[k]?
 cells:∀cur t fz,W.heap[b]?=some (Obj.cells cur t fz)->∃cur t fz,W'.heap[b]?=some (Obj.cells cur t fz)
def vB (P:Program) (gf b1 b2 b3:Nat) (c:UInt8):Prop:=
 ∀(l:Nat) (s:List UInt8) (J:Nat->World->Prop) (Jx:World->Prop) (W:World),s.length<=9223372036854775807 ->
  OneCell W b1 (.string ⟨#[c]⟩)->OneCell W b2 (.string ⟨s.toArray⟩)->OneCell W b3 (.int .i64 0)->(∀k W W',J k W->rA b2 W W'->J k W') ->
  (∀k W1,J k W1->k<(splitB c s).length->YieldAt Fence.wide 0 P l #[.string ⟨((splitB c s).getD k []).toArray⟩] W1 λe W'=>
   (e=.returned (.bool true)/\J (k+1) W'/\∀b v,b=b1\/b=b2\/b=b3->OneCell W1 b v->OneCell W' b v)\/(e=.returned (.bool false)/\Jx W')) ->
  J 0 W->Calls P gf #[.func (.yield l) #[] #[],Ptr b1,Ptr b2,Ptr b3] W λe W'=>(∃v,e=.returned v)/\(J (splitB c s).length W'\/Jx W')
def rG (P:Program) (f:Nat):Prop:=
 ∀(s:List UInt8) (c:UInt8) (w:World),s.length<=9223372036854775807->Calls P f #[.string ⟨s.toArray⟩,.string ⟨#[c]⟩] w λe w'=>
  ∃gf b1 b2 b3,e=.returned (.func (.func gf) #[] #[Ptr b1,Ptr b2,Ptr b3])/\aU w w'/\(w.heap.size<=b1/\w.heap.size<=b2/\w.heap.size<=b3) /\
   OneCell w' b1 (.string ⟨#[c]⟩)/\OneCell w' b2 (.string ⟨s.toArray⟩)/\OneCell w' b3 (.int .i64 0)/\(∀args w,(callFunc gf args).run P w=.ok (.enter gf args) w)/\vB P gf b1 b2 b3 c
theorem OneCell.lt {W:World} {b:Nat} {v:Value} (h:OneCell W b v):b<W.heap.size:=by
 obtain⟨t,h⟩:=h;exact(Array.getElem?_eq_some_iff.1 h).1
theorem OneCell.turn {W W':World} {b:Nat} {v:Value} (h:OneCell W b v) (hb:W'.heap[b]?=W.heap[b]?):OneCell W' b v:=by
 obtain⟨t,h1⟩:=h;exact⟨t,hb.trans h1⟩
theorem OneCell.cell {W:World} {b:Nat} {v:Value} (h:OneCell W b v):W.cell? ⟨b,0,none⟩=some v:=by
 obtain⟨t,h⟩:=h;exact Boxed.cell h
theorem OneCell.frozen {W:World} {b:Nat} {v:Value} (h:OneCell W b v):W.frozen? ⟨b,0,none⟩=false:=by
 obtain⟨t,h⟩:=h;exact Boxed.frozen h
theorem OneCell.set {W:World} {b:Nat} {v:Value} (v':Value) (h:OneCell W b v):OneCell (W.setCell ⟨b,0,none⟩ v') b v':=by
 obtain⟨t,h⟩:=h;exact⟨t,Boxed.set v' h⟩
theorem OneCell.other {W:World} {b b':Nat} {v:Value} (h:OneCell W b v) (hne:b≠b') (v':Value):OneCell (W.setCell ⟨b',0,none⟩ v') b v:=h.turn (Below.heap_setCell _ _ _ b hne)
theorem O5 {W:World} {b:Nat} {v:Value} (v':Value) (h:OneCell W b v):rA b W (W.setCell ⟨b,0,none⟩ v'):=
 ⟨rfl,rfl,rfl,(KeepsWalks.setCell W _ v').size,λk _ hk=>Below.heap_setCell _ _ _ k hk,λcur t fz _=>by
  obtain⟨t',h'⟩:=h.set v'
  exact⟨_,t',_,h'⟩⟩
def zW (W:World) (b:Nat):Nat:=match W.cell? ⟨b,0,none⟩with
 | some (.string s)=>s.size
 | _=>0
def ghost:List (Nat×AV)->List (Nat×AV)
 | []=>[]
 | (k,v)::r=>(3000000+k,v)::ghost r
theorem Dh:∀(s:List (Nat×AV)) (k:Nat),sget (ghost s) (3000000+k)=sget s k
 | [],k=>rfl
 | (j,v)::r,k=>by
  simp only[ghost,sget,Dh r k];by_cases h:k=j
  ·subst h;simp
  ·rw[if_neg aA4,if_neg h]
theorem uJ:∀(s:List (Nat×AV)) (k:Nat) (v:AV),sget (ghost s) k=some v->3000000<=k/\sget s (k-3000000)=some v
 | [],k,v,h=>by simp[ghost,sget]at h
 | (j,u)::r,k,v,h=>by
  simp only[ghost,sget]at h;split at h
  ·rename_i e;subst e;refine⟨aA4,?_⟩;rw[show 3000000+j-3000000=j by omega];simpa[sget]using h
  ·obtain⟨h1,h2⟩:=uJ r k v h;refine⟨h1,?_⟩;simp only[sget];rw[if_neg aA4];exact h2
section
variable {E:Env} {ρ:Loc} {st:St} {a:Act} {w:World}
theorem ao.apart (h:ao E ρ st a w) {w1:World} (hs:aU w w1) (Y:Nat->Prop) (hY:∀b,Y b->w.heap.size<=b/\b<w1.heap.size):ao {E with X0:=λb=>E.X0 b\/Y b} ρ st a w1:=by
 have hX:∀b,b<w.heap.size->¬XX E.X0 ρ st.h b->¬XX (λb=>E.X0 b\/Y b) ρ st.h b:=by
  intro b hb hn hx;rcases hx with(hx | hx) | hx
  ·exact hn (.inl hx)
  ·have:=(hY b hx).1;omega
  ·exact hn (.inr hx)
 refine⟨h.defers.turn (λb hb=>hs.block b (Array.getElem?_eq_some_iff.1 hb).1),h.size,λk av hk=>⟨(h.bo k av hk).1,(h.bo k av hk).2.mono (λb _ hb=>hs.block b hb) hX ρ (λ_ _ h=>h)⟩,⟨λid W hW=>?_,h.heap.cD,λid W L b h1 h2 h3 hx=>?_⟩,h.base,⟨hs.os.trans h.aE.os,hs.tape.trans h.aE.tape,hs.output.trans h.aE.output,aBN h.aE.size hs.size,λb hb hF=>(hs.block b (aBi hb h.aE.size)).trans (h.aE.block b hb hF),h.aE.cS⟩,λb hb=>?_⟩
 ·obtain⟨L,h1,h2⟩:=h.heap.win id W hW;exact⟨L,h1,h2.mono (λb hb=>hs.block b (gp h ⟨id,W,L,hW,h1,hb⟩)) (λb _ hb=>hs.block b hb) hX (λ_ _ h=>h)⟩
 ·rcases hx with hx | hx
  ·exact h.heap.out id W L b h1 h2 h3 hx
  ·have:=gp h ⟨id,W,L,h1,h2,h3⟩;have:=(hY b hx).1;omega
 ·rcases hb with hb | hb
  ·exact aBi (h.x0 b hb) hs.size
  ·exact(hY b hb).2
theorem ao.less {X':Nat->Prop} (h:ao {E with X0:=X'} ρ st a w) (hX:∀b,E.X0 b->X' b):ao E ρ st a w:=by
 have hX':∀b,¬XX X' ρ st.h b->¬XX E.X0 ρ st.h b:=λb hn hx=>hn (hx.imp (hX b) id);refine⟨h.defers,h.size,λk av hk=>⟨(h.bo k av hk).1,(h.bo k av hk).2.mono (λb _ _=>rfl) (λb _ hb=>hX' b hb) ρ (λ_ _ h=>h)⟩,⟨λid W hW=>?_,h.heap.cD,λid W L b h1 h2 h3 hx=>h.heap.out id W L b h1 h2 h3 (hX b hx)⟩,h.base,⟨h.aE.os,h.aE.tape,h.aE.output,h.aE.size,h.aE.block,h.aE.cS⟩,λb hb=>h.x0 b (hX b hb)⟩;obtain⟨L,h1,h2⟩:=h.heap.win id W hW;exact⟨L,h1,h2.mono (λ_ _=>rfl) (λ_ _ _=>rfl) (λb _ hb=>hX' b hb) (λ_ _ h=>h)⟩
theorem ao.afJ (h:ao E ρ st a w) (d:Nat) (v:Value) (hd:sget st.s d=none):ao E ρ st (a.put (some d) v) w:=by
 refine⟨h.defers,by simp[Act.put,h.size],λk av hk=>?_,h.heap,h.base,h.aE,h.x0⟩;obtain⟨h1,h2⟩:=h.bo k av hk;refine⟨h1,?_⟩;have hne:k≠d:=λe=>by subst e;rw[hd]at hk;cases hk
 unfold bS at h2 |-
 have:(a.put (some d) v).tmps.getD k undef=a.tmps.getD k undef:=by
  simp only[Act.put,aBj,Array.getElem?_setIfInBounds_ne (Ne.symm hne)]
 rw[this];exact h2
theorem ao.grow (h:ao E ρ st a w) {b:Nat} {w':World} (g:rA b w w') (hb:E.X0 b) (hw:E.w0.heap.size<=b) (hc:∃cur t fz,w.heap[b]?=some (Obj.cells cur t fz)):ao E ρ st a w':=by
 have hsame:∀k,¬XX E.X0 ρ st.h k->k<w.heap.size->w'.heap[k]?=w.heap[k]?:=λk hn hk=>g.block k hk (λe=>hn (.inl (e▸hb)));refine⟨h.defers.turn (λk hk=>g.block k (Array.getElem?_eq_some_iff.1 hk).1 (λe=>by subst e;obtain⟨cur,t,fz,hc⟩:=hc;rw[hc]at hk;cases hk)),h.size,λk av hk=>⟨(h.bo k av hk).1,(h.bo k av hk).2.mono hsame (λb _ hb=>hb) ρ (λ_ _ h=>h)⟩,⟨λid W hW=>?_,h.heap.cD,h.heap.out⟩,h.base,⟨g.os.trans h.aE.os,g.tape.trans h.aE.tape,g.output.trans h.aE.output,aBN h.aE.size g.size,λk hk hF=>(g.block k (aBi hk h.aE.size) aA4).trans (h.aE.block k hk hF),h.aE.cS⟩,λb hb=>aBi (h.x0 b hb) g.size⟩;obtain⟨L,h1,h2⟩:=h.heap.win id W hW;exact⟨L,h1,h2.mono (λk hk=>g.block k (gp h ⟨id,W,L,hW,h1,hk⟩) (λe=>h.heap.out id W L k hW h1 hk (e▸hb))) hsame (λb _ hb=>hb) (λ_ _ h=>h)⟩
def gY (E:Env) (a:Act) (W:World) (F:Nat->Prop) (l:Nat):Env:=⟨W,F,E.X0,E.N,E.B,λj=>if 3000000<=j then bS E a (j-3000000)else E.gv j,some l,0,aBB _,[]⟩
theorem ao.enter (h:ao E ρ st a w) (hN:E.N<=1000000) (hk0:∀k v,sget st.s k=some v->k<3000000) (l p:Nat) (hp:p<E.N) (part:List UInt8) :
    ao (gY E a w (bx ρ st.h) l) ρ ⟨(p,.str part)::(st.s++ghost st.s),st.h⟩ {tmps:=a.tmps.setIfInBounds p (.string ⟨part.toArray⟩),defers:=[]} w:=by
 refine⟨gn.nil _ _,by simpa[gY]using h.size,λk av hk=>?_,h.heap,λid W L b h1 h2 h3=>.inr ⟨id,W,L,h1,h2,h3⟩,⟨rfl,rfl,rfl,aA9 _,λ_ _ _=>rfl,h.cS⟩,h.x0⟩;simp only[sget]at hk;have aO:p<a.tmps.size:=by rw[h.size];exact hp
 split at hk
 ·rename_i e;subst e;obtain rfl:=Option.some.inj hk;refine⟨.inl hp,?_⟩;unfold bS;rw[if_pos (show k<(gY E a w (bx ρ st.h) l).N from hp)]
  have:(a.tmps.setIfInBounds k (.string ⟨part.toArray⟩)).getD k undef=.string ⟨part.toArray⟩:=by
   simp[aBj,Array.getElem?_setIfInBounds,aO]
  rw[this];exact .str _ _
 ·rename_i hne;rw[lF]at hk
  cases hs:sget st.s k with
  | some av0=>
   rw[hs]at hk;obtain rfl:=Option.some.inj hk;obtain⟨h1,h2⟩:=h.bo k av0 hs;refine⟨h1,?_⟩;unfold bS at h2 |-;by_cases hkN:k<E.N
   ·rw[if_pos hkN]at h2;rw[if_pos (show k<(gY E a w (bx ρ st.h) l).N from hkN)]
    have:(a.tmps.setIfInBounds p (.string ⟨part.toArray⟩)).getD k undef=a.tmps.getD k undef:=by
     simp only[aBj,Array.getElem?_setIfInBounds_ne (Ne.symm hne)]
    rw[this];exact h2
   ·rw[if_neg hkN]at h2;rw[if_neg (show ¬k<(gY E a w (bx ρ st.h) l).N from hkN)];have:=hk0 k _ hs;simp only[gY];rw[if_neg aA4]
    exact h2
  | none=>
   rw[hs,aCE]at hk;obtain⟨h3,h4⟩:=uJ _ _ _ hk;obtain⟨h1,h2⟩:=h.bo _ av h4;refine⟨.inr aA4,?_⟩
   have e:bS (gY E a w (bx ρ st.h) l) {tmps:=a.tmps.setIfInBounds p (.string ⟨part.toArray⟩),defers:=[]} k=bS E a (k-3000000):=by
    show(if k<E.N then _ else(if 3000000<=k then bS E a (k-3000000)else E.gv k))=_
    rw[if_neg aA4,if_pos h3]
   rw[e];exact h2
theorem ao.leave {s0:List (Nat×AV)} {h0 h':List (Nat×aK)} {W:World} {l:Nat} {a3:Act} {ρ':Loc} (h:ao E ρ ⟨s0,h0⟩ a W) (hN:E.N<=1000000) (k:ao (gY E a W (bx ρ h0) l) ρ' ⟨ghost s0,h'⟩ a3 w) :
    ao E ρ' ⟨s0,h'⟩ a w:=by
 have hfrm:∀b,b<W.heap.size->¬bx ρ h0 b->w.heap[b]?=W.heap[b]?:=λb hb hn=>k.aE.block b hb hn;refine⟨h.defers.turn (λb hb=>hfrm b (Array.getElem?_eq_some_iff.1 hb).1 (kq h.heap hb)),h.size,λj av hj=>?_,k.heap,λid W0 L b h1 h2 h3=>?_,⟨k.aE.os.trans h.aE.os,k.aE.tape.trans h.aE.tape,k.aE.output.trans h.aE.output,aBN h.aE.size k.aE.size,λb hb hF=>(hfrm b (aBi hb h.aE.size) (λ⟨id,W0,L,e1,e2,e3⟩=>?_)).trans (h.aE.block b hb hF),h.aE.cS⟩,k.x0⟩
 ·have hg:=Dh s0 j;simp only at hj;rw[hj]at hg;obtain⟨g1,g2⟩:=k.bo _ av hg;refine⟨(h.bo j av hj).1,?_⟩
  have e:bS (gY E a W (bx ρ h0) l) a3 (3000000+j)=bS E a j:=by
   show(if 3000000+j<E.N then _ else(if 3000000<=3000000+j then bS E a (3000000+j-3000000)else E.gv (3000000+j)))=_
   rw[if_neg aA4,if_pos aA4,aB6]
  rw[e]at g2;exact g2
 ·rcases k.base id W0 L b h1 h2 h3 with g | ⟨id',W1,L1,e1,e2,e3⟩
  ·have:W.heap.size<=b:=g;have:=h.aE.size;exact .inl aA4
  ·exact h.base id' W1 L1 b e1 e2 e3
 ·rcases h.base id W0 L b e1 e2 e3 with g | g
  ·omega
  ·exact hF g
theorem ao.apO {l:Nat} {W w2:World} {F:Nat->Prop} {a0:Act} (h:ao (gY E a0 W F l) ρ st a w) (aO:w.heap.size<=w2.heap.size) (hw:∀b,mQ w b->w2.heap[b]?=w.heap[b]?)
    (hdf:∀b:Nat,w.heap[b]?=some (.deferred (some []))->w2.heap[b]?=w.heap[b]?):ao (gY E a0 w2 (bx ρ st.h) l) ρ st a w2:=
 ⟨h.defers.turn hdf,h.size,λk av hk=>⟨(h.bo k av hk).1,(h.bo k av hk).2.other (λb cur t fz _ hc=>hw b (.inl ⟨cur,t,fz,hc⟩))⟩,h.heap.other hw,λid W L b h1 h2 h3=>.inr ⟨id,W,L,h1,h2,h3⟩,⟨rfl,rfl,rfl,aA9 _,λ_ _ _=>rfl,h.cS.1.stays (λb cs t fz _ hc=>hw b (.inl ⟨cs,t,fz,hc⟩)),h.cS.2⟩,λb hb=>aBi (h.x0 b hb) aO⟩
end
def CK (R:St->Prop) (s0:List (Nat×AV)) (Q:Exit->St->Prop):Exit->St->Prop
 | .normal,st=>R st
 | .ret,st=>∃h',Wk st ⟨ghost s0,h'⟩/\Q .ret ⟨s0,h'⟩
 | .exit i,st=>∃h',Wk st ⟨ghost s0,h'⟩/\Q (.exit i) ⟨s0,h'⟩
 | _,_=>False
theorem Zp {E:Env} {a:Act} {w:World} {s t:St} (h:Rel E s a w) (k:Wk s t):Rel E t a w:=by
 obtain⟨ρ,h⟩:=h;exact kO k h
theorem awT {x:Operand} {d:Nat} (h:trE x=.t d):x=.tmp d:=by
 cases x with
 | tmp t=>
  simp only[trE]at h;split at h
  ·injection h with h;rw[h]
  ·cases h
 | const v=>cases h
 | func f=>cases h
 | global g=>cases h
theorem aAB (p:Nat) (v:Value) (T:Array Value):Array.foldl (λtmps x=>match x with | (t,a)=>tmps.setIfInBounds t a) T (#[p].zip #[v])=T.setIfInBounds p v:=by
 rw[show #[p].zip #[v]=#[(p,v)]from by simp];rfl
section
variable {P:Program} {E:Env} {Q:Exit->St->Prop} {st:St}
theorem avS {d f bk p q0:Nat} {x:AE} {c:UInt8} {body:AC} (hN:E.N<=1000000) (hrd:E.rd=none) (hq0:q0<1000000) (hS:rG P f) {s:List UInt8} (hx:ev st x=.str s) (hlen:s.length<=9223372036854775807) {α:Type} (s0:List (Nat×AV)) (H:α->HP)
    (inv:Nat->α->Prop) (x0:α) (h0:Wk st ⟨s0,H x0⟩) (hi:inv 0 x0) (hd0:sget s0 d=none) (hk0:∀k v,sget s0 k=some v->k<3000000)
    (round:∀(E2:Env) k y,E2.N=E.N->E2.B=E.B->inv k y->k<(splitB c s).length ->
     bV P E2 body ⟨(q0,.str ((splitB c s).getD k []))::(p,.str ((splitB c s).getD k []))::(s0++ghost s0),H y⟩ (CK (λst'=>∃y',inv (k+1) y'/\Wk st' ⟨ghost s0,H y'⟩) s0 (blockQ bk Q)))
    (done:∀y,inv (splitB c s).length y->Q .normal ⟨s0,H y⟩)
    {n:Nat} {ops:Array Oper} {o:Oper} {b:Code} {a:Act} {w:World} (hd:o.dst=some d) (hg:o.guard=none) (hnd:ko o.op=true) (htr:trOp P o=.call f [x,.c (.str [c])])
    (hdN:d<E.N) (hb:trCode P E.N E.B b=.block bk (.kv (.t d) [p] (.aa [⟨some q0,none,false,E.B+q0,.ah (.t p)⟩]) body)) (hr:Rel E st a w) :
    wpListIn (di E.rd) n P ops (Exit.then (b.wpIn (di E.rd) n P (lift E Q)) (lift E Q)) [o] a w:=by
 refine wpListIn_plain hg (λnext hnext=>jw hnd ?_)
 obtain⟨vs,h1,h2,h3⟩:=oZ htr a w;unfold Oper.wp;rw[h1,Oper.upon_enter];have h2:vs.size=2:=h2
 have hv0:vs[0]?=some (.string ⟨s.toArray⟩):=by
  have e0:vs[0]?=some vs[0]:=Array.getElem?_eq_getElem aA4;obtain⟨y,e1,e2⟩:=h3 0 _ _ e0 rfl;obtain⟨ρ,hρ⟩:=hr;have:=cJ hρ y;rw[<-e2,hx,<-e1]at this;rw[e0,RV.kJ this]
 have hv1:vs[1]?=some (.string ⟨#[c]⟩):=by
  have e0:vs[1]?=some vs[1]:=Array.getElem?_eq_getElem aA4;obtain⟨y,e1,e2⟩:=h3 1 _ _ e0 rfl;obtain⟨ρ,hρ⟩:=hr;have:=cJ hρ y;rw[<-e2,<-e1]at this;rw[e0,RV.kJ this]
 have hvs:vs=#[.string ⟨s.toArray⟩,.string ⟨#[c]⟩]:=by
  apply Array.ext_getElem?;intro i;rcases i with _ | _ | i
  ·exact hv0
  ·exact hv1
  ·simp[Array.getElem?_eq_none (show vs.size<=i+1+1 by omega)]
 rw[hvs];refine(hS s c w hlen).mono ?_;rintro e w1 ⟨gf,b1,b2,b3,rfl,hsame,⟨hb1,hb2,hb3⟩,c1,c2,c3,hcf,hit⟩;refine hnext _ _ ?_
 show b.wpIn (di E.rd) n P (lift E Q) (a.put o.dst (.func (.func gf) #[] #[Ptr b1,Ptr b2,Ptr b3])) w1
 rw[hd,hrd]
 -- the code
 cases b<;>simp only[trCode]at hb<;>first | (cases hb;done) | (exact Bool.noConfusion (show false=true from gl hb)) | (split at hb<;>cases hb;done) | skip
 rename_i id' cb
 injection hb with hb0 hb1'
 subst hb0;cases cb<;>simp only[trCode]at hb1'<;>first | (cases hb1';done) | (exact Bool.noConfusion (show false=true from gl hb1')) | (split at hb1'<;>cases hb1';done) | skip
 rename_i g ps asg bd;split at hb1';rotate_left
 ·cases hb1'
 rename_i hpsN
 injection hb1' with hg0 hps hasg hbody
 obtain rfl:=awT hg0
 have hps':ps=#[p]:=by
  have:=congrArg List.toArray hps;simpa using this
 subst hps';have hp:p<E.N:=by simpa using hpsN
 refine wpIn_block ?_;refine wpIn_rangeFunc (λfn hfn=>?_)
 -- the state at the loop's head
 obtain⟨ρ0,hR0⟩:=Zp hr h0
 let Y:Nat->Prop:=λb=>b=b1\/b=b2\/b=b3
 let Ei:Env:={E with X0:=λb=>E.X0 b\/Y b}
 obtain⟨a1,ha1⟩:∃a1,a1=a.put (some d) (.func (.func gf) #[] #[Ptr b1,Ptr b2,Ptr b3]):=⟨_,rfl⟩;have aO:a.tmps.size=E.N:=hR0.size
 have hR1:ao Ei ρ0 ⟨s0,H x0⟩ a1 w1:=by
  rw[ha1];exact(hR0.apart hsame Y (λb hb=>by rcases hb with rfl | rfl | rfl<;>exact⟨by assumption,OneCell.lt (by assumption)⟩)).afJ d _ hd0
 rw[<-ha1];have hdom':∀(D':Nat),D'∈marksOf a1.defers->D'<w1.heap.size:=λD' hm=>(Array.getElem?_eq_some_iff.1 (hR1.defers.2.2 D' hm).2).1;have hw0:E.w0.heap.size<=w.heap.size:=hR0.aE.size;have hlt2:b2<w1.heap.size:=c2.lt;obtain⟨rec,hrec⟩:∃rec:LoopState->Option Code->Loop,rec=λst pe=>{state:=st,pending:=pe,fn,tmps:=a1.tmps,params:=#[p],assign:=asg,body:=bd,defers:=w1.heap.size}:=⟨_,rfl⟩;obtain⟨W1,hW1⟩:∃W1,(w1.alloc (.deferred (some []))).alloc (.loop (rec .ready none))=W1:=⟨_,rfl⟩;have hS1:aU w1 W1:=by rw[<-hW1];exact(aU.alloc _ _).trans (aU.alloc _ _)
 have hL1:W1.heap[w1.heap.size+1]?=some (.loop (rec .ready none)):=by
  rw[<-hW1];have:=World.alloc_heap_new (w1.alloc (.deferred (some []))) (.loop (rec .ready none));rwa[World.size_alloc]at this
 have hK1:W1.heap[w1.heap.size]?=some (.deferred (some [])):=by
  rw[<-hW1];exact(Below.heap_alloc _ _ _ (by simp)).trans (World.alloc_heap_new w1 _)
 obtain⟨L,hL⟩:∃L,L=w1.heap.size+1:=⟨_,rfl⟩;obtain⟨D,hD⟩:∃D,D=w1.heap.size:=⟨_,rfl⟩;rw[<-hL]at hL1;rw[<-hD]at hK1
 have hev:a1.eval (.tmp d)=.func (.func gf) #[] #[Ptr b1,Ptr b2,Ptr b3]:=by
  rw[ha1]
  show(a.put (some d) _).tmps.getD d undef=_
  rw[yF _ _ _ _ (by rw[aO];exact hdN),if_pos rfl]
 have hne:∀(W:World) (o':Obj) (k:Nat),k≠L->(W.putObj L o').heap[k]?=W.heap[k]?:=λW o' k hk=>World.putObj_heap_other hk
 have up:∀{W:World} {h':HP} {ρ:Loc} {r:Loop} (o':Obj),ao Ei ρ ⟨s0,h'⟩ a1 W->W.heap[L]?=some (.loop r)->ao Ei ρ ⟨s0,h'⟩ a1 (W.putObj L o'):=by
  intro W h' ρ r o' hR hl;have hcell:∀b,mQ W b->(W.putObj L o').heap[b]?=W.heap[b]?:=λb hc=>hne _ _ _ (λe=>by subst e;rcases hc with⟨_,_,_,hc⟩ | ⟨_,_,hc⟩<;>(rw[hl]at hc;cases hc))
  exact hR.other rfl rfl rfl (by simp) hcell (λb hb _=>hne _ _ _ (by have:b<E.w0.heap.size:=hb;have:=hsame.size;omega)) (hR.defers.turn (λb hb=>hne _ _ _ (λe=>by rw[e,hl]at hb;cases hb)))
 refine⟨L,[{target:=.collected D,args:=#[]}],W1,{target:=.fn (.func gf) #[Ptr b1,Ptr b2,Ptr b3],args:=#[.func (.yield L) #[] #[]]},W1,gf,
  #[.func (.yield L) #[] #[]]++#[Ptr b1,Ptr b2,Ptr b3],W1,?_,?_,λ_ _=>trivial,?_,λh=>(by cases h),?_⟩
 ·rw[<-hW1,hrec,hL,hD];exact run_enterLoop_outer _ _ _ _ _
 ·simp only[resolve,hev];simp[go_sem]
 ·simp[invoke,go_sem,hcf]
 ·refine wV ((hit L s (λk W=>W.heap[L]?=some (.loop (rec .ready none))/\W.heap[D]?=some (.deferred (some []))/\(∃cur t fz,W.heap[b2]?=some (Obj.cells cur t fz))/\∃y,inv k y/\∃ρ,ao Ei ρ ⟨s0,H y⟩ a1 W)
   (λW=>∃cj e,((cj=Code.ret/\e=Exit.ret)\/∃i,cj=Code.exit i/\e=Exit.exit i)/\W.heap[L]?=some (.loop (rec .done (some cj)))/\W.heap[D]?=some (.deferred (some []))/\∃h',blockQ id' Q e ⟨s0,h'⟩/\∃ρ,ao Ei ρ ⟨s0,h'⟩ a1 W)
   W1 hlen (c1.turn (hS1.block _ c1.lt)) (c2.turn (hS1.block _ c2.lt)) (c3.turn (hS1.block _ c3.lt)) ?_ ?_ ⟨hL1,hK1,?_,x0,hi,ρ0,hR1.same hS1⟩).mono ?_)
  ·rintro k W W' ⟨hl,hk,hc,y,hy,ρ,hR⟩ g;refine⟨(g.block _ (Array.getElem?_eq_some_iff.1 hl).1 aA4).trans hl,(g.block _ (Array.getElem?_eq_some_iff.1 hk).1 aA4).trans hk,?_,y,hy,ρ,hR.grow g (.inr (.inr (.inl rfl))) (by show E.w0.heap.size<=b2;omega) hc⟩;obtain⟨cur,t,fz,hc⟩:=hc;exact g.cells cur t fz hc
  ·rintro k W ⟨hl,hk,hc,y,hy,ρ,hR⟩ hlt;have hyl:=run_yield (P:=P) (args:=#[.string ⟨((splitB c s).getD k []).toArray⟩]) hl (by rw[hrec];rfl);rw[hrec]at hyl;simp only at hyl;rw[aAB]at hyl;refine⟨fn,_,asg,bd,hyl,roundIn_of_wpIn hfn ?_⟩;have hen:=hR.enter hN hk0 L p hp ((splitB c s).getD k [])
   have hnoL:∀{W:World} {h':HP} {ρ:Loc} {X:Nat->Prop} {r:Loop},dT X ρ h' W->W.heap[L]?=some (.loop r)->¬bx ρ h' L:=by
    intro W h' ρ X r hh hl hx;rcases Be hh hx with⟨_,_,_,hcc⟩ | ⟨_,_,hcc⟩<;>(rw[hl]at hcc;cases hcc)
   refine Cy (E:=gY Ei a1 W (bx ρ (H y)) L) (st:=⟨(p,.str ((splitB c s).getD k []))::(s0++ghost s0),H y⟩) hN hasg
    (K:=λst'=>st'=⟨(q0,.str ((splitB c s).getD k []))::(p,.str ((splitB c s).getD k []))::(s0++ghost s0),H y⟩) (by simp[aops,aop1,isEff,aval,bp,strip,ev,sget,put]) ⟨ρ,hen⟩ ?_
   rintro st' a' w' rfl ⟨ρ1,hr1⟩;have hl':w'.heap[L]?=some (.loop (rec .ready none)):=(hr1.aE.block L (Array.getElem?_eq_some_iff.1 hl).1 (hnoL hR.heap hl)).trans hl;have hk':w'.heap[D]?=some (.deferred (some [])):=(hr1.aE.block D (Array.getElem?_eq_some_iff.1 hk).1 (kq hR.heap hk)).trans hk
   have hRo:ao Ei ρ1 ⟨s0,H y⟩ a1 w':=by
    refine hR.leave hN (hr1.vu (st':=⟨ghost s0,H y⟩) (λj v hj=>?_) (λj v hj=>hj));obtain⟨g1,g2⟩:=uJ s0 j v hj;simp only[sget];rw[if_neg aA4,if_neg aA4,lF]
    cases hsj:sget s0 j with
    | some u=>have:=hk0 j u hsj;omega
    | none=>rw[aCE];exact hj
   refine⟨w'.putObj L (.loop {rec .ready none with state:=.busy}),run_beginRound hl' (by rw[hrec]),?_⟩;have hl2:(w'.putObj L (.loop {rec .ready none with state:=.busy})).heap[L]?=some (.loop {rec .ready none with state:=.busy}):=World.putObj_heap_same (Array.getElem?_eq_some_iff.1 hl').1;have hRo2:=up (.loop {rec .ready none with state:=.busy}) hRo hl';have hrb:=hr1.apO (w2:=w'.putObj L (.loop {rec .ready none with state:=.busy})) (by simp) (λb hcc=>hne _ _ _ (λe=>by subst e;rcases hcc with⟨_,_,_,hcc⟩ | ⟨_,_,hcc⟩<;>(rw[hl']at hcc;cases hcc))) (λb hb=>hne _ _ _ (λe=>by rw[e,hl']at hb;cases hb))
   obtain⟨w2,hw2⟩:∃w2,w2=w'.putObj L (.loop {rec .ready none with state:=.busy}):=⟨_,rfl⟩;have hk2:w2.heap[D]?=some (.deferred (some [])):=by rw[hw2];exact(hne _ _ _ aA4).trans hk'
   rw[<-hw2]at hl2 hRo2 hrb |-;have hbod:=round (gY Ei a1 w2 (bx ρ1 (H y)) L) k y rfl rfl hy hlt 0 bd hbody a' w2 ⟨ρ1,hrb⟩;refine wpIn_mono hbod ?_;rintro e a3 w3 ⟨st3,⟨ρ3,hr3⟩,hq⟩;have hl3:w3.heap[L]?=some (.loop {rec .ready none with state:=.busy}):=(hr3.aE.block L (Array.getElem?_eq_some_iff.1 hl2).1 (hnoL hRo2.heap hl2)).trans hl2;have hk3:w3.heap[D]?=some (.deferred (some [])):=(hr3.aE.block D (Array.getElem?_eq_some_iff.1 hk2).1 (kq hRo2.heap hk2)).trans hk2;have hYn:∀{W:World} {h':HP} {ρ:Loc},dT Ei.X0 ρ h' W->∀b,b=b1\/b=b2\/b=b3->¬bx ρ h' b:=λhh b hb ⟨id',W',L',e1,e2,e3⟩=>hh.out id' W' L' b e1 e2 e3 (.inr hb)
   have hcells:∀b v,b=b1\/b=b2\/b=b3->OneCell W b v->OneCell w3 b v:=by
    intro b v hb ho;have e1:=ho.turn (hr1.aE.block b ho.lt (hYn hR.heap b hb));have e2:OneCell w2 b v:=e1.turn (by rw[hw2];refine hne _ _ _ ?_;rcases hb with rfl | rfl | rfl<;>(have:=c1.lt;have:=c3.lt;omega))
    exact e2.turn (hr3.aE.block b e2.lt (hYn hRo2.heap b hb))
   have hput:∀(o':Obj) b v,b=b1\/b=b2\/b=b3->OneCell w3 b v->OneCell (w3.putObj L o') b v:=by
    intro o' b v hb ho;refine ho.turn (hne _ _ _ ?_);rcases hb with rfl | rfl | rfl<;>(have:=c1.lt;have:=c3.lt;omega)
   have hc3:∃cur t fz,w3.heap[b2]?=some (Obj.cells cur t fz):=by
    obtain⟨cur,t,fz,hcc⟩:=hc;have e1:w'.heap[b2]?=some (Obj.cells cur t fz):=(hr1.aE.block b2 (Array.getElem?_eq_some_iff.1 hcc).1 (hYn hR.heap b2 (.inr (.inl rfl)))).trans hcc;have e2:w2.heap[b2]?=some (Obj.cells cur t fz):=by rw[hw2];exact(hne _ _ _ aA4).trans e1
    exact⟨cur,t,fz,(hr3.aE.block b2 (Array.getElem?_eq_some_iff.1 e2).1 (hYn hRo2.heap b2 (.inr (.inl rfl)))).trans e2⟩
   have hLlt:=(Array.getElem?_eq_some_iff.1 hl3).1
   cases e with
   | normal=>
    obtain⟨y',hy',hwk⟩:=hq;obtain⟨ρ4,hr4⟩:=kO hwk hr3;have hR4:=hRo2.leave hN hr4;refine⟨_,_,run_endRound (P:=P) none hl3,.inl ⟨rfl,⟨?_,(hne _ _ _ aA4).trans hk3,?_,y',hy',ρ4,up _ hR4 hl3⟩,λb v hb ho=>hput _ b v hb (hcells b v hb ho)⟩⟩
    ·rw[hrec];exact World.putObj_heap_same hLlt
    ·obtain⟨cur,t,fz,hcc⟩:=hc3
     exact⟨cur,t,fz,(hne _ _ _ aA4).trans hcc⟩
   | ret=>
    obtain⟨h',hwk,hq'⟩:=hq;obtain⟨ρ4,hr4⟩:=kO hwk hr3;have hR4:=hRo2.leave hN hr4;refine⟨_,_,run_endRound (P:=P) (some .ret) hl3,.inr ⟨rfl,.ret,.ret,.inl ⟨rfl,rfl⟩,?_,(hne _ _ _ aA4).trans hk3,h',hq',ρ4,up _ hR4 hl3⟩⟩
    rw[hrec];exact World.putObj_heap_same hLlt
   | exit i=>
    obtain⟨h',hwk,hq'⟩:=hq;obtain⟨ρ4,hr4⟩:=kO hwk hr3;have hR4:=hRo2.leave hN hr4;refine⟨_,_,run_endRound (P:=P) (some (.exit i)) hl3,.inr ⟨rfl,.exit i,.exit i,.inr ⟨i,rfl,rfl⟩,?_,(hne _ _ _ aA4).trans hk3,h',hq',ρ4,up _ hR4 hl3⟩⟩
    rw[hrec];exact World.putObj_heap_same hLlt
   | goto _=>exact hq.elim
   | panic _=>exact hq.elim
   | outgrown=>exact hq.elim
  ·obtain⟨t,hcc⟩:=c2;exact⟨_,t,_,(hS1.block _ hlt2).trans hcc⟩
  ·have fin:∀{W2:World} {h':HP} {ρ:Loc} {r:Loop} (o':Obj),ao Ei ρ ⟨s0,h'⟩ a1 W2->W2.heap[L]?=some (.loop r)->W2.heap[D]?=some (.deferred (some [])) ->
       ao E ρ ⟨s0,h'⟩ {a1 with defers:=[{target:=.collected D,args:=#[]}]++a1.defers} (W2.putObj L o'):=by
    intro W2 h' ρ r o' hR hl hk;have h1:=up o' hR hl;have hk':(W2.putObj L o').heap[D]?=some (.deferred (some [])):=(hne _ _ _ aA4).trans hk
    have hdf:gn Ei.dn Ei.df ([{target:=.collected D,args:=#[]}]++a1.defers) (W2.putObj L o'):=by
     obtain⟨⟨Ds,e0⟩,e2,e3⟩:=h1.defers;refine⟨⟨D::Ds,by rw[e0];rfl⟩,List.nodup_cons.2 ⟨λhm=>?_,e2⟩,λD' hm=>?_⟩
     ·have:=hdom' D hm;omega
     ·rcases aBo.1 hm with rfl | hm
      ·have:=E.yQ;have:=hsame.size;refine⟨?_,hk'⟩
       show E.dn<=D'
       omega
      ·exact e3 D' hm
    exact(h1.other (w':=W2.putObj L o') rfl rfl rfl (aA9 _) (λ_ _=>rfl) (λ_ _ _=>rfl) hdf).less (λb hb=>.inl hb)
   rintro e W2 ⟨⟨v,rfl⟩,(⟨hl,hk,_,y,hy,ρ,hR⟩ | ⟨cj,e,hcj,hl,hk,h',hq,ρ,hR⟩)⟩
   ·exact⟨none,_,by have:=run_endLoop (P:=P) hl (by rw[hrec];simp);rw[hrec]at this;exact this,⟨s0,H y⟩,⟨ρ,fin _ hR hl hk⟩,done y hy⟩
   ·refine⟨some cj,_,by have:=run_endLoop (P:=P) hl (by rw[hrec];simp);rw[hrec]at this;exact this,?_⟩;rcases hcj with⟨rfl,rfl⟩ | ⟨i,rfl,rfl⟩
    ·exact wpIn_ret ⟨⟨s0,h'⟩,⟨ρ,fin _ hR hl hk⟩,hq⟩
    ·refine wpIn_exit ?_;simp only[blockQ]at hq;simp only[Exit.inBlock];split at hq
     ·rename_i hi;rw[if_pos hi];exact⟨⟨s0,h'⟩,⟨ρ,fin _ hR hl hk⟩,hq⟩
     ·rename_i hi;rw[if_neg hi];exact⟨⟨s0,h'⟩,⟨ρ,fin _ hR hl hk⟩,hq⟩
def splitK (P:Program) (E:Env) (d f:Nat) (x:AE) (c:UInt8) (bk p q0:Nat) (body:AC) (Q:Exit->St->Prop) (st:St):Prop:=
 ∀(n:Nat) (ops:Array Oper) (o:Oper) (b:Code) (a:Act) (w:World),o.dst=some d->d<E.N->o.guard=none->ko o.op=true->trOp P o=.call f [x,.c (.str [c])] ->
  trCode P E.N E.B b=.block bk (.kv (.t d) [p] (.aa [⟨some q0,none,false,E.B+q0,.ah (.t p)⟩]) body)->Rel E st a w ->
   wpListIn (di E.rd) n P ops (Exit.then (b.wpIn (di E.rd) n P (lift E Q)) (lift E Q)) [o] a w
theorem G7 {ops:List bC} {d f bk p q0:Nat} {x:AE} {c:UInt8} {body:AC} (hN:E.N<=1000000) (h:aops P ops st (splitK P E d f x c bk p q0 body Q)) :
    bV P E (.seq (.lD (ops++[⟨some d,none,false,E.B+d,.call f [x,.c (.str [c])]⟩])) (.block bk (.kv (.t d) [p] (.aa [⟨some q0,none,false,E.B+q0,.ah (.t p)⟩]) body))) st Q:=by
 intro n code hc a w hr;cases code<;>simp only[trCode]at hc<;>first | (cases hc;done) | (exact Bool.noConfusion (show false=true from gl hc)) | (split at hc<;>cases hc;done) | skip
 rename_i c1 c2
 injection hc with hc1 hc2
 refine wpIn_seq ?_;cases c1<;>simp only[trCode]at hc1<;>first | (cases hc1;done) | skip
 ·rename_i id ops' draw;obtain⟨hl,hd⟩:=D2 hc1
  ··subst hd;unfold kr at hl;split at hl
    ·rename_i hf;have hf':∀o∈ops'.toList,fits E.N o=true:=λo ho=>aBc.1 hf o ho;simp only[aBe,if_false,Option.some.injEq]at hl;obtain⟨pre,suf,e1,e2,e3⟩:=aDv.1 hl;obtain⟨o,suf',e4,e5,e6⟩:=List.map_eq_cons_iff.1 e3;obtain rfl:=List.map_eq_nil_iff.1 e6;rw[e4]at e1;obtain⟨ρ,hρ⟩:=hr;have hom:o∈ops'.toList:=by rw[e1];simp
     have hfo:=hf' o hom;simp only[eA,bC.mk.injEq,true_and]at e5;obtain⟨g1,g2,g3,g4⟩:=e5;refine wpIn_region_list ?_;rw[e1];refine j6 hN ops' (K:=splitK P E d f x c bk p q0 body Q) [o] (λst' a' w' hk hr'=>?_) pre (λo ho=>hf' o (by rw[e1];exact List.mem_append_left _ ho)) hρ (by rw[e2];exact h);exact hk n ops' o c2 a' w' g1 (me hfo d g1) (by simpa using g2) (ik hfo) g4 hc2 hr'
    ·cases hl
 ·split at hc1<;>cases hc1
end
end Go.Proofs.YtoalcafkffmiiaaGreatDoor.Eng
namespace Go.Proofs.YtoalcafkffmiiaaGreatDoor.Eng
open Go.RowKit
section
variable {P:Program} {E:Env} {Q:Exit->St->Prop} {st:St}
def mX (P:Program) (E:Env) (d f kx bk p1 p q0:Nat) (body:AC) (Q:Exit->St->Prop) (st:St):Prop:=
 ∀(n:Nat) (ops:Array Oper) (o:Oper) (b:Code) (a:Act) (w:World),o.dst=some d->d<E.N->o.guard=none->ko o.op=true->trOp P o=.call f [.t kx] ->
  trCode P E.N E.B b=.block bk (.kv (.t d) [p1,p] (.aa [⟨some q0,none,false,E.B+q0,.ah (.t p)⟩]) body)->Rel E st a w ->
   wpListIn (di E.rd) n P ops (Exit.then (b.wpIn (di E.rd) n P (lift E Q)) (lift E Q)) [o] a w
theorem GU {ops:List bC} {d f kx bk p1 p q0:Nat} {body:AC} (hN:E.N<=1000000) (h:aops P ops st (mX P E d f kx bk p1 p q0 body Q)) :
    bV P E (.seq (.lD (ops++[⟨some d,none,false,E.B+d,.call f [.t kx]⟩])) (.block bk (.kv (.t d) [p1,p] (.aa [⟨some q0,none,false,E.B+q0,.ah (.t p)⟩]) body))) st Q:=by
 intro n code hc a w hr;cases code<;>simp only[trCode]at hc<;>first | (cases hc;done) | (exact Bool.noConfusion (show false=true from gl hc)) | (split at hc<;>cases hc;done) | skip
 rename_i c1 c2
 injection hc with hc1 hc2
 refine wpIn_seq ?_;cases c1<;>simp only[trCode]at hc1<;>first | (cases hc1;done) | skip
 ·rename_i id ops' draw;obtain⟨hl,hd⟩:=D2 hc1
  ··subst hd;unfold kr at hl;split at hl
    ·rename_i hf;have hf':∀o∈ops'.toList,fits E.N o=true:=λo ho=>aBc.1 hf o ho;simp only[aBe,if_false,Option.some.injEq]at hl;obtain⟨pre,suf,e1,e2,e3⟩:=aDv.1 hl;obtain⟨o,suf',e4,e5,e6⟩:=List.map_eq_cons_iff.1 e3;obtain rfl:=List.map_eq_nil_iff.1 e6;rw[e4]at e1;obtain⟨ρ,hρ⟩:=hr;have hom:o∈ops'.toList:=by rw[e1];simp
     have hfo:=hf' o hom;simp only[eA,bC.mk.injEq,true_and]at e5;obtain⟨g1,g2,g3,g4⟩:=e5;refine wpIn_region_list ?_;rw[e1];refine j6 hN ops' (K:=mX P E d f kx bk p1 p q0 body Q) [o] (λst' a' w' hk hr'=>?_) pre (λo ho=>hf' o (by rw[e1];exact List.mem_append_left _ ho)) hρ (by rw[e2];exact h);exact hk n ops' o c2 a' w' g1 (me hfo d g1) (by simpa using g2) (ik hfo) g4 hc2 hr'
    ·cases hl
 ·split at hc1<;>cases hc1
end
end Go.Proofs.YtoalcafkffmiiaaGreatDoor.Eng
