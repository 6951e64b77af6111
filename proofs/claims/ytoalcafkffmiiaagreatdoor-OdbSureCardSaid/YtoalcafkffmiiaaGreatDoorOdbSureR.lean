/- The proof, part 18 of 42. -/
import Derived.Test.YtoalcafkffmiiaaGreatDoorOdbSureM
import Derived.Test.YtoalcafkffmiiaaGreatDoorOdbSureP
import Derived.Test.YtoalcafkffmiiaaGreatDoorOdbSureQ
set_option linter.all false
namespace Go.Proofs.YtoalcafkffmiiaaGreatDoor.Ls
open Eng
set_option maxRecDepth 10000
theorem sA (a b:Bs):aN Tryz.prog 66 [.str a,.str b] (.int .i64 (Lib.compareBytes a b)):=
 u5 rfl rfl (fun w=>Tryz.strings_Compare ⟨a.toArray⟩ ⟨b.toArray⟩ w)
theorem w9 (x y:Fi):aN Tryz.prog 26 [dm x,dm y] (.int .i64 (b7 x y)):=by
 refine Cod.Ir (fun E R hN hR=>?_)
 simp(disch:=omega)only[go_sem,simprocAttr,dm]
 refine aC (sA x.1 y.1) rfl rfl ?_
 refine wW ?_
 exact hR.ro ⟨rfl,rfl⟩
abbrev xi:Value:=.func (.func 26) #[] #[]
abbrev hU (t:Bs) (L:List Fi):AV:=.ai [.int .i64 (posF t L:Nat),.bool (decide (posF t L<L.length∧(L.getD (posF t L) aX).1=t))]
theorem w6 (L:List Fi) (t:Bs) (hs:dY L) (hl:L.length≤100000):aN Tryz.prog 70 [.ro 2 (bo L),.agg [.str t,.str []],.lit xi] (hU t L):=by
 refine Cod.Ii (fun E R hN hR=>?_)
 have hp:=nY t L
 refine az @bV ?_
 refine ba hN (fun p:Nat×Nat=>⟨[(0,.ro 2 (bo L)),(2,.lit xi),(4,.ab 201004 0),(8,.int .i64 L.length),(9,.int .i64 p.1),(10,.int .i64 p.2)],[(201004,.var [.str t,.str []])]⟩) (fun p=>p.1≤posF t L∧posF t L≤p.2∧p.2≤L.length) (fun p=>p.2-p.1) (0,L.length) (.le vV) ⟨Nat.zero_le _,hp,Nat.le_refl _⟩ ?_
 rintro⟨i,j⟩ R1 ⟨h1,h2,h3⟩ hR1
 simp only at h1 h2 h3
 by_cases hlt:i<j
 ·have hm:IntKind.i64.wrap (((i:Int)+(j:Int)).fdiv (2^min 1 64))=(((i+j)/2:Nat):Int):=by
   rw[show(2:Int)^min 1 64=2 from rfl,Int.fdiv_eq_ediv_of_nonneg _ (by decide)]
   rw[eW ⟨by omega,by omega⟩]
   omega
  have hk:(i+j)/2<L.length:=by omega
  have hpi:=ux t hs hk
  obtain⟨k,hk0⟩:∃k,k=(i+j)/2:=⟨_,rfl⟩
  rw[←hk0]at hm hk hpi
  have hik:i≤k:=by omega
  have hkj:k<j:=by omega
  clear hk0
  refine dy @bV hm @fH ?_
  refine sO (by kernel_rfl) ?_
  refine aC (w9 (L.getD k aX) (t,[])) rfl rfl ?_
  unfold b7
  generalize Lib.compareBytes (L.getD k aX).1 t=c at *
  by_cases hc:c<0
  ·refine az hc ?_
   exact hR1 (k+1,j) _ (by simp only;omega) ⟨by simp only;omega,by simp only;omega,h3⟩ (.le vV)
  ·refine az hc ?_
   exact hR1 (i,k) _ (by simp only;omega) ⟨h1,by simp only;omega,by simp only;omega⟩ (.le vV)
 ·obtain rfl:i=j:=by omega
  obtain rfl:i=posF t L:=by omega
  by_cases hlt:posF t L<L.length
  ·have hi:((posF t L:Nat):Int)<(L.length:Int):=by omega
   have hz:∀a:Bs,(Lib.compareBytes a t=0)↔a=t:=fun a=>⟨kO,fun e=>by rw[e];exact lU t⟩
   have hz:=hz (L.getD (posF t L) aX).1
   refine dy @bV hi @fH ?_
   refine jY @bV hi @fH ?_
   refine yQ (by kernel_rfl) ?_
   refine jU (by simp(disch:=omega)only[go_sem,simprocAttr,dm]) (w9 (L.getD (posF t L) aX) (t,[])) vV rfl rfl ?_
   unfold b7
   generalize Lib.compareBytes (L.getD (posF t L) aX).1 t=c at *
   by_cases hc:c=0
   ·refine az hc ?_
    refine cm hc ?_
    exact hR.ro ⟨rfl,by unfold hU;rw[decide_eq_true (⟨hlt,hz.1 hc⟩:_∧_)]⟩
   ·refine az hc ?_
    refine cm hc ?_
    exact hR.ro ⟨rfl,by unfold hU;rw[decide_eq_false (fun h:_∧_=>hc (hz.2 h.2))]⟩
  ·refine bc @bV hlt ?_
   refine gB @bV hlt ?_
   refine yP ?_
   refine az hlt ?_
   refine cm hlt ?_
   exact hR.ro ⟨rfl,by unfold hU;rw[decide_eq_false (fun h:_∧_=>hlt h.1)]⟩
open Eng
set_option maxRecDepth 10000
theorem aah (s t:Bs) (hs:s.length≤9223372036854775807) (ht:t.length≤9223372036854775807):aN Tryz.prog 77 [.str s,.str t] (.bool (bw t s)):=by
 refine Cod.aai (fun E R hN hR=>?_)
 by_cases h:t.length≤s.length
 ·have hi:(t.length:Int)≤(s.length:Int):=by omega
  refine az hi ?_
  refine cm hi ?_
  refine hR.ro ⟨rfl,?_⟩
  simp[bw,h]
 ·have hi:¬(t.length:Int)≤(s.length:Int):=by omega
  refine az hi ?_
  refine cm hi ?_
  exact hR.ro ⟨rfl,by simp[bw,h]⟩
theorem uU (s t:Bs) (hs:s.length≤9223372036854775807) (ht:t.length≤9223372036854775807):aN Tryz.prog 40 [.str s,.str t] (.bool (bw t s)):=by
 refine Cod.ami (fun E R hN hR=>?_)
 refine wW ?_
 refine aC (aah s t hs ht) rfl rfl ?_
 refine wW ?_
 exact hR.ro ⟨rfl,rfl⟩
theorem vh {α:Type} (d:α) {p:α→Bool}:∀{l:List α} {k:Nat},(l.take k).all p=true→(l.length≤k∨p (l.getD k d)=false)→l.takeWhile p=l.take k
 | [],k,_,_=>by simp
 | x::r,0,_,h=>by
  rcases h with h | h
  ·simp at h
  ·rw[List.getD_cons_zero]at h
   simp[List.takeWhile_cons,h]
 | x::r,k+1,h1,h2=>by
  rw[List.take_succ_cons,List.all_cons,Bool.and_eq_true]at h1
  rw[List.takeWhile_cons,if_pos h1.1,List.take_succ_cons,vh d h1.2 (h2.imp (fun h=>by simpa using h) (fun h=>by simpa using h))]
theorem fh {α:Type} (d:α):∀(l:List α) {k:Nat},k<l.length→l.take (k+1)=l.take k++[l.getD k d]
 | [],k,h=>by simp at h
 | x::r,0,h=>by simp
 | x::r,k+1,h=>by
  rw[List.take_succ_cons,fh d r (by simpa using h)];simp
theorem xV {α:Type} (d:α) (l:List α) (o k:Nat):(l.drop o).getD k d=l.getD (o+k) d:=by
 rw[List.getD_eq_getElem?_getD,List.getElem?_drop,←List.getD_eq_getElem?_getD]
abbrev dR (L:List Fi) (n:Nat):AV:=.aA (.agg [.ro 2 (bo L),.int .i64 n])
theorem eP {α:Type} {l:List α} {k:Nat} (d:α) (h:k<l.length):l.getD k d∈l:=by
 rw[List.getD_eq_getElem?_getD,List.getElem?_eq_getElem h];exact List.getElem_mem h
set_option maxHeartbeats 1000000 in
theorem vm (L:List Fi) (n:Nat) (t:Bs) (hs:dY L) (hl:L.length≤100000) (ht:t.length≤9223372036854775807) (hp:∀f∈L,f.1.length≤9223372036854775807) :
    aN Tryz.prog 28 [dR L n,.str t] (.ro 1 (aO (bU t L))):=by
 refine Cod.apR (fun E R hN hR=>?_)
 refine wW ?_
 refine aC (w6 L t hs hl) rfl rfl ?_
 have hpl:=nY t L
 obtain⟨o,ho⟩:∃o,o=posF t L:=⟨_,rfl⟩
 unfold bU at hR
 rw[←ho]at hpl hR
 simp(disch:=omega)only[go_sem,simprocAttr,←ho]
 obtain⟨D,hD⟩:∃D,D=L.drop o:=⟨_,rfl⟩
 have hDl:D.length=L.length-o:=by rw[hD,List.length_drop]
 rw[←hD]at hR
 refine ba hN (fun k:Nat=>⟨[(0,dR L n),(1,.str t),(5,.sl 204049 0 (D.take k).length),(6,.int .i64 ((o+k:Nat):Int))],[(204049,.arr 1 (aO ((D.take k).map (·.1))))]⟩)
  (fun k=>k≤D.length∧(D.take k).all (fun f=>bw t f.1)=true) (fun k=>D.length-k) 0 (.nil 5 204049 1 rfl (.le (by simp(disch:=omega)only[go_sem,simprocAttr,oB,List.take_zero,List.map_nil,List.length_nil,Nat.add_zero]))) ⟨Nat.zero_le _,by simp⟩ ?_
 rintro k R1 ⟨hk,hall⟩ hR1
 have htl:(D.take k).length=k:=by rw[List.length_take];omega
 have hsub:aI (aO ((D.take k).map (·.1))) 0 k=aO ((D.take k).map (·.1)):=by
  unfold aI
  rw[List.drop_zero,List.take_of_length_le (by rw[bQ,List.length_map,htl];omega)]
 have fin:(D.length≤k∨bw t (D.getD k aX).1=false)→D.takeWhile (fun f=>bw t f.1)=D.take k:=fun h=>vh aX hall h
 by_cases hlt:k<D.length
 ·have hsn:=fh aX D hlt
  have hgd:L.getD (o+k) aX=D.getD k aX:=by rw[hD,xV]
  have hmem:(L.getD (o+k) aX).1.length≤9223372036854775807:=hp _ (eP aX (by omega))
  rw[hgd]at hmem
  have hi:((o+k:Nat):Int)<(L.length:Int):=by omega
  rw[htl]
  refine eo @bV hi @fH hgd ?_
  refine pZ @bV hi @fH hgd ?_
  refine mi (jU vV (uU _ t hmem ht) vV rfl rfl ?_)
  generalize hx:D.getD k aX=x at *
  by_cases hb:bw t x.1=true
  ·simp(disch:=omega)only[go_sem,simprocAttr,hb,bV,fH,hgd,bQ,List.length_map,htl]
   rw[hsub,mO]
   refine⟨⟨fN,by omega⟩,hR1 (k+1) _ (by omega) ⟨by omega,by rw[hsn,List.all_append,hall];simp[hb]⟩ (.le ?_)⟩
   rw[hsn,List.length_append,htl,List.map_append]
   simp(disch:=omega)only[go_sem,simprocAttr,List.map_cons,List.map_nil,List.length_singleton]
  ·have hb:bw t x.1=false:=by simpa using hb
   rw[fin (.inr hb)]at hR
   refine az hb ?_
   exact hR.wk (h':=[]) (r':=.ro 1 (aO ((D.take k).map (·.1)))) (ar':=[.undef,.undef]) rfl (.bH 204049 (.le (by simp(disch:=omega)only[go_sem,simprocAttr,bQ,List.length_map,htl,fN,hsub]))) ⟨rfl,rfl⟩
 ·have hi:¬((o+k:Nat):Int)<(L.length:Int):=by omega
  rw[fin (.inl (by omega))]at hR
  have hDk:D.take k=D:=List.take_of_length_le (by omega)
  rw[hDk]at hsub hR htl
  rw[hDk,htl]
  refine bc @bV hi ?_
  refine gB @bV hi ?_
  exact hR.wk (h':=[]) (r':=.ro 1 (aO (D.map (·.1)))) (ar':=[.undef,.undef]) rfl (.bH 204049 (.le (by simp(disch:=omega)only[go_sem,simprocAttr,bQ,List.length_map,htl,fN,hsub]))) ⟨rfl,rfl⟩
theorem rk (L:List Fi) (n:Nat) (p:Bs) (hs:dY L) (hl:L.length≤100000):aN Tryz.prog 33 [dR L n,.str p] (match getF p L with
    | some d=>.ai [.str d,.int .i64 0]
    | none=>.ai [.str [],.int .i64 7]):=by
 refine Cod.anS (fun E R hN hR=>?_)
 rw[yT]at hR
 refine wW ?_
 refine aC (w6 L p hs hl) rfl rfl ?_
 by_cases h:posF p L<L.length∧(L.getD (posF p L) aX).1=p
 ·rw[if_pos h]at hR
  have h1:=h.1
  unfold hU
  rw[decide_eq_true h]
  refine bc @bV @fH ?_
  exact hR.ro ⟨rfl,rfl⟩
 ·rw[if_neg h]at hR
  unfold hU
  rw[decide_eq_false h]
  refine wW ?_
  exact hR.ro ⟨rfl,rfl⟩
end Go.Proofs.YtoalcafkffmiiaaGreatDoor.Ls
