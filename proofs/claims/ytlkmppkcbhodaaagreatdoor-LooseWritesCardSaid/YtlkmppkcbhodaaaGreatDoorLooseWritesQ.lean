/- The proof, part 17 of 34. -/
import Derived.Test.YtlkmppkcbhodaaaGreatDoorLooseWritesM
import Derived.Test.YtlkmppkcbhodaaaGreatDoorLooseWritesO
import Derived.Test.YtlkmppkcbhodaaaGreatDoorLooseWritesP
set_option linter.all false
namespace Go.Proofs.YtlkmppkcbhodaaaGreatDoor.Ls
open Eng
set_option maxRecDepth 10000
theorem Ij (a b:Bs):aP Tryz.prog 56 [.str a,.str b] (.int .i64 (Lib.compareBytes a b)):=
 BG rfl rfl (fun w=>Tryz.strings_Compare ⟨a.toArray⟩ ⟨b.toArray⟩ w)
theorem vf (x y:Fi):aP Tryz.prog 31 [dD x,dD y] (.int .i64 (cz x y)):=by
 refine Cod.G0 (fun E R hN hR=>?_)
 simp(disch:=omega)only[go_sem,simprocAttr,dD]
 refine aE (Ij x.1 y.1) rfl rfl ?_
 refine wW ?_
 exact hR.ro ⟨rfl,rfl⟩
abbrev vw:Value:=.func (.func 31) #[] #[]
abbrev lu (t:Bs) (L:List Fi):AV:=.aj [.int .i64 (posF t L:Nat),.bool (decide (posF t L<L.length∧(L.getD (posF t L) bf).1=t))]
theorem vc (L:List Fi) (t:Bs) (hs:gO L) (hl:L.length≤100000):aP Tryz.prog 60 [.ro 2 (bx L),.agg [.str t,.str []],.lit vw] (lu t L):=by
 refine Cod.GR (fun E R hN hR=>?_)
 have hp:=sP t L
 refine aw @cc ?_
 refine a7 hN (fun p:Nat×Nat=>⟨[(0,.ro 2 (bx L)),(2,.lit vw),(4,.ab 201004 0),(8,.int .i64 L.length),(9,.int .i64 p.1),(10,.int .i64 p.2)],[(201004,.var [.str t,.str []])]⟩) (fun p=>p.1≤posF t L∧posF t L≤p.2∧p.2≤L.length) (fun p=>p.2-p.1) (0,L.length) (.le vV) ⟨Nat.zero_le _,hp,Nat.le_refl _⟩ ?_
 rintro⟨i,j⟩ R1 ⟨h1,h2,h3⟩ hR1
 simp only at h1 h2 h3
 by_cases hlt:i<j
 ·have hm:IntKind.i64.wrap (((i:Int)+(j:Int)).fdiv (2^min 1 64))=(((i+j)/2:Nat):Int):=by
   rw[show(2:Int)^min 1 64=2 from rfl,Int.fdiv_eq_ediv_of_nonneg _ (by decide)]
   rw[jt ⟨by omega,by omega⟩]
   omega
  have hk:(i+j)/2<L.length:=by omega
  have hpi:=zn t hs hk
  obtain⟨k,hk0⟩:∃k,k=(i+j)/2:=⟨_,rfl⟩
  rw[←hk0]at hm hk hpi
  have hik:i≤k:=by omega
  have hkj:k<j:=by omega
  clear hk0
  refine cL @cc hm @fP ?_
  refine rz (by kernel_rfl) ?_
  refine aE (vf (L.getD k bf) (t,[])) rfl rfl ?_
  unfold cz
  generalize Lib.compareBytes (L.getD k bf).1 t=c at *
  by_cases hc:c<0
  ·refine aw hc ?_
   exact hR1 (k+1,j) _ (by simp only;omega) ⟨by simp only;omega,by simp only;omega,h3⟩ (.le vV)
  ·refine aw hc ?_
   exact hR1 (i,k) _ (by simp only;omega) ⟨h1,by simp only;omega,by simp only;omega⟩ (.le vV)
 ·obtain rfl:i=j:=by omega
  obtain rfl:i=posF t L:=by omega
  by_cases hlt:posF t L<L.length
  ·have hi:((posF t L:Nat):Int)<(L.length:Int):=by omega
   have hz:∀a:Bs,(Lib.compareBytes a t=0)↔a=t:=fun a=>⟨mi,fun e=>by rw[e];exact oa t⟩
   have hz:=hz (L.getD (posF t L) bf).1
   refine cL @cc hi @fP ?_
   refine fM @cc hi @fP ?_
   refine L9 (by kernel_rfl) ?_
   refine ka (by simp(disch:=omega)only[go_sem,simprocAttr,dD]) (vf (L.getD (posF t L) bf) (t,[])) vV rfl rfl ?_
   unfold cz
   generalize Lib.compareBytes (L.getD (posF t L) bf).1 t=c at *
   by_cases hc:c=0
   ·refine aw hc ?_
    refine bQ hc ?_
    exact hR.ro ⟨rfl,by unfold lu;rw[decide_eq_true (⟨hlt,hz.1 hc⟩:_∧_)]⟩
   ·refine aw hc ?_
    refine bQ hc ?_
    exact hR.ro ⟨rfl,by unfold lu;rw[decide_eq_false (fun h:_∧_=>hc (hz.2 h.2))]⟩
  ·refine bH @cc hlt ?_
   refine dY @cc hlt ?_
   refine L8 ?_
   refine aw hlt ?_
   refine bQ hlt ?_
   exact hR.ro ⟨rfl,by unfold lu;rw[decide_eq_false (fun h:_∧_=>hlt h.1)]⟩
open Eng
set_option maxRecDepth 10000
theorem Yi (s t:Bs) (hs:s.length≤9223372036854775807) (ht:t.length≤9223372036854775807):aP Tryz.prog 115 [.str s,.str t] (.bool (fK t s)):=by
 refine Cod.Yj (fun E R hN hR=>?_)
 by_cases h:t.length≤s.length
 ·have hi:(t.length:Int)≤(s.length:Int):=by omega
  refine aw hi ?_
  refine bQ hi ?_
  refine hR.ro ⟨rfl,?_⟩
  simp[fK,h]
 ·have hi:¬(t.length:Int)≤(s.length:Int):=by omega
  refine aw hi ?_
  refine bQ hi ?_
  exact hR.ro ⟨rfl,by simp[fK,h]⟩
theorem aoF (s t:Bs) (hs:s.length≤9223372036854775807) (ht:t.length≤9223372036854775807):aP Tryz.prog 61 [.str s,.str t] (.bool (fK t s)):=by
 refine Cod.aoG (fun E R hN hR=>?_)
 refine wW ?_
 refine aE (Yi s t hs ht) rfl rfl ?_
 refine wW ?_
 exact hR.ro ⟨rfl,rfl⟩
theorem B8 {α:Type} (d:α) {p:α→Bool}:∀{l:List α} {k:Nat},(l.take k).all p=true→(l.length≤k∨p (l.getD k d)=false)→l.takeWhile p=l.take k
 | [],k,_,_=>by simp
 | x::r,0,_,h=>by
  rcases h with h | h
  ·simp at h
  ·rw[List.getD_cons_zero]at h
   simp[List.takeWhile_cons,h]
 | x::r,k+1,h1,h2=>by
  rw[List.take_succ_cons,List.all_cons,Bool.and_eq_true]at h1
  rw[List.takeWhile_cons,if_pos h1.1,List.take_succ_cons,B8 d h1.2 (h2.imp (fun h=>by simpa using h) (fun h=>by simpa using h))]
theorem dU {α:Type} (d:α):∀(l:List α) {k:Nat},k<l.length→l.take (k+1)=l.take k++[l.getD k d]
 | [],k,h=>by simp at h
 | x::r,0,h=>by simp
 | x::r,k+1,h=>by
  rw[List.take_succ_cons,dU d r (by simpa using h)];simp
theorem Jv {α:Type} (d:α) (l:List α) (o k:Nat):(l.drop o).getD k d=l.getD (o+k) d:=by
 rw[List.getD_eq_getElem?_getD,List.getElem?_drop,←List.getD_eq_getElem?_getD]
abbrev ic (L:List Fi) (n:Nat):AV:=.au (.agg [.ro 2 (bx L),.int .i64 n])
theorem iY {α:Type} {l:List α} {k:Nat} (d:α) (h:k<l.length):l.getD k d∈l:=by
 rw[List.getD_eq_getElem?_getD,List.getElem?_eq_getElem h];exact List.getElem_mem h
set_option maxHeartbeats 1000000 in
theorem asu (L:List Fi) (n:Nat) (t:Bs) (hs:gO L) (hl:L.length≤100000) (ht:t.length≤9223372036854775807) (hp:∀f∈L,f.1.length≤9223372036854775807) :
    aP Tryz.prog 33 [ic L n,.str t] (.ro 1 (fW (iO t L))):=by
 refine Cod.asv (fun E R hN hR=>?_)
 refine wW ?_
 refine aE (vc L t hs hl) rfl rfl ?_
 have hpl:=sP t L
 obtain⟨o,ho⟩:∃o,o=posF t L:=⟨_,rfl⟩
 unfold iO at hR
 rw[←ho]at hpl hR
 simp(disch:=omega)only[go_sem,simprocAttr,←ho]
 obtain⟨D,hD⟩:∃D,D=L.drop o:=⟨_,rfl⟩
 have hDl:D.length=L.length-o:=by rw[hD,List.length_drop]
 rw[←hD]at hR
 refine a7 hN (fun k:Nat=>⟨[(0,ic L n),(1,.str t),(5,.sl 204049 0 (D.take k).length),(6,.int .i64 ((o+k:Nat):Int))],[(204049,.arr 1 (fW ((D.take k).map (·.1))))]⟩)
  (fun k=>k≤D.length∧(D.take k).all (fun f=>fK t f.1)=true) (fun k=>D.length-k) 0 (.nil 5 204049 1 rfl (.le (by simp(disch:=omega)only[go_sem,simprocAttr,arl,List.take_zero,List.map_nil,List.length_nil,Nat.add_zero]))) ⟨Nat.zero_le _,by simp⟩ ?_
 rintro k R1 ⟨hk,hall⟩ hR1
 have htl:(D.take k).length=k:=by rw[List.length_take];omega
 have hsub:aL (fW ((D.take k).map (·.1))) 0 k=fW ((D.take k).map (·.1)):=by
  unfold aL
  rw[List.drop_zero,List.take_of_length_le (by rw[lX,List.length_map,htl];omega)]
 have fin:(D.length≤k∨fK t (D.getD k bf).1=false)→D.takeWhile (fun f=>fK t f.1)=D.take k:=fun h=>B8 bf hall h
 by_cases hlt:k<D.length
 ·have hsn:=dU bf D hlt
  have hgd:L.getD (o+k) bf=D.getD k bf:=by rw[hD,Jv]
  have hmem:(L.getD (o+k) bf).1.length≤9223372036854775807:=hp _ (iY bf (by omega))
  rw[hgd]at hmem
  have hi:((o+k:Nat):Int)<(L.length:Int):=by omega
  rw[htl]
  refine ea @cc hi @fP hgd ?_
  refine lv @cc hi @fP hgd ?_
  refine gj (ka vV (aoF _ t hmem ht) vV rfl rfl ?_)
  generalize hx:D.getD k bf=x at *
  by_cases hb:fK t x.1=true
  ·simp(disch:=omega)only[go_sem,simprocAttr,hb,cc,fP,hgd,lX,List.length_map,htl]
   rw[hsub,ark]
   refine⟨⟨tz,by omega⟩,hR1 (k+1) _ (by omega) ⟨by omega,by rw[hsn,List.all_append,hall];simp[hb]⟩ (.le ?_)⟩
   rw[hsn,List.length_append,htl,List.map_append]
   simp(disch:=omega)only[go_sem,simprocAttr,List.map_cons,List.map_nil,List.length_singleton]
  ·have hb:fK t x.1=false:=by simpa using hb
   rw[fin (.inr hb)]at hR
   refine aw hb ?_
   exact hR.wk (h':=[]) (r':=.ro 1 (fW ((D.take k).map (·.1)))) (ar':=[.undef,.undef]) rfl (.bK 204049 (.le (by simp(disch:=omega)only[go_sem,simprocAttr,lX,List.length_map,htl,tz,hsub]))) ⟨rfl,rfl⟩
 ·have hi:¬((o+k:Nat):Int)<(L.length:Int):=by omega
  rw[fin (.inl (by omega))]at hR
  have hDk:D.take k=D:=List.take_of_length_le (by omega)
  rw[hDk]at hsub hR htl
  rw[hDk,htl]
  refine bH @cc hi ?_
  refine dY @cc hi ?_
  exact hR.wk (h':=[]) (r':=.ro 1 (fW (D.map (·.1)))) (ar':=[.undef,.undef]) rfl (.bK 204049 (.le (by simp(disch:=omega)only[go_sem,simprocAttr,lX,List.length_map,htl,tz,hsub]))) ⟨rfl,rfl⟩
theorem aqv (L:List Fi) (n:Nat) (p:Bs) (hs:gO L) (hl:L.length≤100000):aP Tryz.prog 35 [ic L n,.str p] (match getF p L with
    | some d=>.aj [.str d,.int .i64 0]
    | none=>.aj [.str [],.int .i64 7]):=by
 refine Cod.aqw (fun E R hN hR=>?_)
 rw[wZ]at hR
 refine wW ?_
 refine aE (vc L p hs hl) rfl rfl ?_
 by_cases h:posF p L<L.length∧(L.getD (posF p L) bf).1=p
 ·rw[if_pos h]at hR
  have h1:=h.1
  unfold lu
  rw[decide_eq_true h]
  refine bH @cc @fP ?_
  exact hR.ro ⟨rfl,rfl⟩
 ·rw[if_neg h]at hR
  unfold lu
  rw[decide_eq_false h]
  refine wW ?_
  exact hR.ro ⟨rfl,rfl⟩
end Go.Proofs.YtlkmppkcbhodaaaGreatDoor.Ls
