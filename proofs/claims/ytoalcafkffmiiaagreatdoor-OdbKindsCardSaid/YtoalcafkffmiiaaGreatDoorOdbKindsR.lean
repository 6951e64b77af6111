/- The proof, part 18 of 42. -/
import Derived.Test.YtoalcafkffmiiaaGreatDoorOdbKindsM
import Derived.Test.YtoalcafkffmiiaaGreatDoorOdbKindsP
import Derived.Test.YtoalcafkffmiiaaGreatDoorOdbKindsQ
set_option linter.all false
namespace Go.Proofs.YtoalcafkffmiiaaGreatDoor.Ls
open Eng
set_option maxRecDepth 10000
theorem si (a b:Bs):aO Tryz.prog 66 [.str a,.str b] (.int .i64 (Lib.compareBytes a b)):=
 uN rfl rfl (fun w=>Tryz.strings_Compare ⟨a.toArray⟩ ⟨b.toArray⟩ w)
theorem wJ (x y:Fi):aO Tryz.prog 26 [dh x,dh y] (.int .i64 (b7 x y)):=by
 refine Cod.HK (fun E R hN hR=>?_)
 simp(disch:=omega)only[go_sem,simprocAttr,dh]
 refine aC (si x.1 y.1) rfl rfl ?_
 refine wW ?_
 exact hR.ro ⟨rfl,rfl⟩
abbrev wN:Value:=.func (.func 26) #[] #[]
abbrev gO (t:Bs) (L:List Fi):AV:=.ai [.int .i64 (posF t L:Nat),.bool (decide (posF t L<L.length∧(L.getD (posF t L) aW).1=t))]
theorem wG (L:List Fi) (t:Bs) (hs:du L) (hl:L.length≤100000):aO Tryz.prog 70 [.ro 2 (bn L),.agg [.str t,.str []],.lit wN] (gO t L):=by
 refine Cod.HC (fun E R hN hR=>?_)
 have hp:=nH t L
 refine aw @bT ?_
 refine bm hN (fun p:Nat×Nat=>⟨[(0,.ro 2 (bn L)),(2,.lit wN),(4,.ab 201004 0),(8,.int .i64 L.length),(9,.int .i64 p.1),(10,.int .i64 p.2)],[(201004,.var [.str t,.str []])]⟩) (fun p=>p.1≤posF t L∧posF t L≤p.2∧p.2≤L.length) (fun p=>p.2-p.1) (0,L.length) (.le vV) ⟨Nat.zero_le _,hp,Nat.le_refl _⟩ ?_
 rintro⟨i,j⟩ R1 ⟨h1,h2,h3⟩ hR1
 simp only at h1 h2 h3
 by_cases hlt:i<j
 ·have hm:IntKind.i64.wrap (((i:Int)+(j:Int)).fdiv (2^min 1 64))=(((i+j)/2:Nat):Int):=by
   rw[show(2:Int)^min 1 64=2 from rfl,Int.fdiv_eq_ediv_of_nonneg _ (by decide)]
   rw[eU ⟨by omega,by omega⟩]
   omega
  have hk:(i+j)/2<L.length:=by omega
  have hpi:=uh t hs hk
  obtain⟨k,hk0⟩:∃k,k=(i+j)/2:=⟨_,rfl⟩
  rw[←hk0]at hm hk hpi
  have hik:i≤k:=by omega
  have hkj:k<j:=by omega
  clear hk0
  refine dz @bT hm @fA ?_
  refine sD (by kernel_rfl) ?_
  refine aC (wJ (L.getD k aW) (t,[])) rfl rfl ?_
  unfold b7
  generalize Lib.compareBytes (L.getD k aW).1 t=c at *
  by_cases hc:c<0
  ·refine aw hc ?_
   exact hR1 (k+1,j) _ (by simp only;omega) ⟨by simp only;omega,by simp only;omega,h3⟩ (.le vV)
  ·refine aw hc ?_
   exact hR1 (i,k) _ (by simp only;omega) ⟨h1,by simp only;omega,by simp only;omega⟩ (.le vV)
 ·obtain rfl:i=j:=by omega
  obtain rfl:i=posF t L:=by omega
  by_cases hlt:posF t L<L.length
  ·have hi:((posF t L:Nat):Int)<(L.length:Int):=by omega
   have hz:∀a:Bs,(Lib.compareBytes a t=0)↔a=t:=fun a=>⟨kC,fun e=>by rw[e];exact lH t⟩
   have hz:=hz (L.getD (posF t L) aW).1
   refine dz @bT hi @fA ?_
   refine jN @bT hi @fA ?_
   refine yw (by kernel_rfl) ?_
   refine jJ (by simp(disch:=omega)only[go_sem,simprocAttr,dh]) (wJ (L.getD (posF t L) aW) (t,[])) vV rfl rfl ?_
   unfold b7
   generalize Lib.compareBytes (L.getD (posF t L) aW).1 t=c at *
   by_cases hc:c=0
   ·refine aw hc ?_
    refine bW hc ?_
    exact hR.ro ⟨rfl,by unfold gO;rw[decide_eq_true (⟨hlt,hz.1 hc⟩:_∧_)]⟩
   ·refine aw hc ?_
    refine bW hc ?_
    exact hR.ro ⟨rfl,by unfold gO;rw[decide_eq_false (fun h:_∧_=>hc (hz.2 h.2))]⟩
  ·refine bc @bT hlt ?_
   refine ft @bT hlt ?_
   refine yv ?_
   refine aw hlt ?_
   refine bW hlt ?_
   exact hR.ro ⟨rfl,by unfold gO;rw[decide_eq_false (fun h:_∧_=>hlt h.1)]⟩
open Eng
set_option maxRecDepth 10000
theorem ZD (s t:Bs) (hs:s.length≤9223372036854775807) (ht:t.length≤9223372036854775807):aO Tryz.prog 77 [.str s,.str t] (.bool (bw t s)):=by
 refine Cod.ZE (fun E R hN hR=>?_)
 by_cases h:t.length≤s.length
 ·have hi:(t.length:Int)≤(s.length:Int):=by omega
  refine aw hi ?_
  refine bW hi ?_
  refine hR.ro ⟨rfl,?_⟩
  simp[bw,h]
 ·have hi:¬(t.length:Int)≤(s.length:Int):=by omega
  refine aw hi ?_
  refine bW hi ?_
  exact hR.ro ⟨rfl,by simp[bw,h]⟩
theorem uE (s t:Bs) (hs:s.length≤9223372036854775807) (ht:t.length≤9223372036854775807):aO Tryz.prog 40 [.str s,.str t] (.bool (bw t s)):=by
 refine Cod.aj4 (fun E R hN hR=>?_)
 refine wW ?_
 refine aC (ZD s t hs ht) rfl rfl ?_
 refine wW ?_
 exact hR.ro ⟨rfl,rfl⟩
theorem uZ {α:Type} (d:α) {p:α→Bool}:∀{l:List α} {k:Nat},(l.take k).all p=true→(l.length≤k∨p (l.getD k d)=false)→l.takeWhile p=l.take k
 | [],k,_,_=>by simp
 | x::r,0,_,h=>by
  rcases h with h | h
  ·simp at h
  ·rw[List.getD_cons_zero]at h
   simp[List.takeWhile_cons,h]
 | x::r,k+1,h1,h2=>by
  rw[List.take_succ_cons,List.all_cons,Bool.and_eq_true]at h1
  rw[List.takeWhile_cons,if_pos h1.1,List.take_succ_cons,uZ d h1.2 (h2.imp (fun h=>by simpa using h) (fun h=>by simpa using h))]
theorem eT {α:Type} (d:α):∀(l:List α) {k:Nat},k<l.length→l.take (k+1)=l.take k++[l.getD k d]
 | [],k,h=>by simp at h
 | x::r,0,h=>by simp
 | x::r,k+1,h=>by
  rw[List.take_succ_cons,eT d r (by simpa using h)];simp
theorem xB {α:Type} (d:α) (l:List α) (o k:Nat):(l.drop o).getD k d=l.getD (o+k) d:=by
 rw[List.getD_eq_getElem?_getD,List.getElem?_drop,←List.getD_eq_getElem?_getD]
abbrev dK (L:List Fi) (n:Nat):AV:=.aA (.agg [.ro 2 (bn L),.int .i64 n])
theorem eE {α:Type} {l:List α} {k:Nat} (d:α) (h:k<l.length):l.getD k d∈l:=by
 rw[List.getD_eq_getElem?_getD,List.getElem?_eq_getElem h];exact List.getElem_mem h
set_option maxHeartbeats 1000000 in
theorem u3 (L:List Fi) (n:Nat) (t:Bs) (hs:du L) (hl:L.length≤100000) (ht:t.length≤9223372036854775807) (hp:∀f∈L,f.1.length≤9223372036854775807) :
    aO Tryz.prog 28 [dK L n,.str t] (.ro 1 (aL (bS t L))):=by
 refine Cod.anJ (fun E R hN hR=>?_)
 refine wW ?_
 refine aC (wG L t hs hl) rfl rfl ?_
 have hpl:=nH t L
 obtain⟨o,ho⟩:∃o,o=posF t L:=⟨_,rfl⟩
 unfold bS at hR
 rw[←ho]at hpl hR
 simp(disch:=omega)only[go_sem,simprocAttr,←ho]
 obtain⟨D,hD⟩:∃D,D=L.drop o:=⟨_,rfl⟩
 have hDl:D.length=L.length-o:=by rw[hD,List.length_drop]
 rw[←hD]at hR
 refine bm hN (fun k:Nat=>⟨[(0,dK L n),(1,.str t),(5,.sl 204049 0 (D.take k).length),(6,.int .i64 ((o+k:Nat):Int))],[(204049,.arr 1 (aL ((D.take k).map (·.1))))]⟩)
  (fun k=>k≤D.length∧(D.take k).all (fun f=>bw t f.1)=true) (fun k=>D.length-k) 0 (.nil 5 204049 1 rfl (.le (by simp(disch:=omega)only[go_sem,simprocAttr,ob,List.take_zero,List.map_nil,List.length_nil,Nat.add_zero]))) ⟨Nat.zero_le _,by simp⟩ ?_
 rintro k R1 ⟨hk,hall⟩ hR1
 have htl:(D.take k).length=k:=by rw[List.length_take];omega
 have hsub:aG (aL ((D.take k).map (·.1))) 0 k=aL ((D.take k).map (·.1)):=by
  unfold aG
  rw[List.drop_zero,List.take_of_length_le (by rw[bO,List.length_map,htl];omega)]
 have fin:(D.length≤k∨bw t (D.getD k aW).1=false)→D.takeWhile (fun f=>bw t f.1)=D.take k:=fun h=>uZ aW hall h
 by_cases hlt:k<D.length
 ·have hsn:=eT aW D hlt
  have hgd:L.getD (o+k) aW=D.getD k aW:=by rw[hD,xB]
  have hmem:(L.getD (o+k) aW).1.length≤9223372036854775807:=hp _ (eE aW (by omega))
  rw[hgd]at hmem
  have hi:((o+k:Nat):Int)<(L.length:Int):=by omega
  rw[htl]
  refine dW @bT hi @fA hgd ?_
  refine pJ @bT hi @fA hgd ?_
  refine l3 (jJ vV (uE _ t hmem ht) vV rfl rfl ?_)
  generalize hx:D.getD k aW=x at *
  by_cases hb:bw t x.1=true
  ·simp(disch:=omega)only[go_sem,simprocAttr,hb,bT,fA,hgd,bO,List.length_map,htl]
   rw[hsub,oa]
   refine⟨⟨fI,by omega⟩,hR1 (k+1) _ (by omega) ⟨by omega,by rw[hsn,List.all_append,hall];simp[hb]⟩ (.le ?_)⟩
   rw[hsn,List.length_append,htl,List.map_append]
   simp(disch:=omega)only[go_sem,simprocAttr,List.map_cons,List.map_nil,List.length_singleton]
  ·have hb:bw t x.1=false:=by simpa using hb
   rw[fin (.inr hb)]at hR
   refine aw hb ?_
   exact hR.wk (h':=[]) (r':=.ro 1 (aL ((D.take k).map (·.1)))) (ar':=[.undef,.undef]) rfl (.bG 204049 (.le (by simp(disch:=omega)only[go_sem,simprocAttr,bO,List.length_map,htl,fI,hsub]))) ⟨rfl,rfl⟩
 ·have hi:¬((o+k:Nat):Int)<(L.length:Int):=by omega
  rw[fin (.inl (by omega))]at hR
  have hDk:D.take k=D:=List.take_of_length_le (by omega)
  rw[hDk]at hsub hR htl
  rw[hDk,htl]
  refine bc @bT hi ?_
  refine ft @bT hi ?_
  exact hR.wk (h':=[]) (r':=.ro 1 (aL (D.map (·.1)))) (ar':=[.undef,.undef]) rfl (.bG 204049 (.le (by simp(disch:=omega)only[go_sem,simprocAttr,bO,List.length_map,htl,fI,hsub]))) ⟨rfl,rfl⟩
theorem qX (L:List Fi) (n:Nat) (p:Bs) (hs:du L) (hl:L.length≤100000):aO Tryz.prog 33 [dK L n,.str p] (match getF p L with
    | some d=>.ai [.str d,.int .i64 0]
    | none=>.ai [.str [],.int .i64 7]):=by
 refine Cod.alF (fun E R hN hR=>?_)
 rw[yz]at hR
 refine wW ?_
 refine aC (wG L p hs hl) rfl rfl ?_
 by_cases h:posF p L<L.length∧(L.getD (posF p L) aW).1=p
 ·rw[if_pos h]at hR
  have h1:=h.1
  unfold gO
  rw[decide_eq_true h]
  refine bc @bT @fA ?_
  exact hR.ro ⟨rfl,rfl⟩
 ·rw[if_neg h]at hR
  unfold gO
  rw[decide_eq_false h]
  refine wW ?_
  exact hR.ro ⟨rfl,rfl⟩
end Go.Proofs.YtoalcafkffmiiaaGreatDoor.Ls
