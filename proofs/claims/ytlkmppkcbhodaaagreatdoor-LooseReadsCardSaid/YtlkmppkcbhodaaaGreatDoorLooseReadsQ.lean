/- The proof, part 17 of 32. -/
import Derived.Test.YtlkmppkcbhodaaaGreatDoorLooseReadsM
import Derived.Test.YtlkmppkcbhodaaaGreatDoorLooseReadsO
import Derived.Test.YtlkmppkcbhodaaaGreatDoorLooseReadsP
set_option linter.all false
namespace Go.Proofs.YtlkmppkcbhodaaaGreatDoor.Ls
open Eng
set_option maxRecDepth 10000
theorem Hc (a b:Bs):aM Tryz.prog 56 [.str a,.str b] (.int .i64 (Lib.compareBytes a b)):=
 AZ rfl rfl (fun w=>Tryz.strings_Compare ⟨a.toArray⟩ ⟨b.toArray⟩ w)
theorem uD (x y:Fi):aM Tryz.prog 31 [dx x,dx y] (.int .i64 (cg x y)):=by
 refine Cod.FU (fun E R hN hR=>?_)
 simp(disch:=omega)only[go_sem,simprocAttr,dx]
 refine aA (Hc x.1 y.1) rfl rfl ?_
 refine wW ?_
 exact hR.ro ⟨rfl,rfl⟩
abbrev uL:Value:=.func (.func 31) #[] #[]
abbrev kQ (t:Bs) (L:List Fi):AV:=.ai [.int .i64 (posF t L:Nat),.bool (decide (posF t L<L.length∧(L.getD (posF t L) aX).1=t))]
theorem uA (L:List Fi) (t:Bs) (hs:gn L) (hl:L.length≤100000):aM Tryz.prog 60 [.ro 2 (bn L),.agg [.str t,.str []],.lit uL] (kQ t L):=by
 refine Cod.FI (fun E R hN hR=>?_)
 have hp:=rW t L
 refine au @bR ?_
 refine aZ hN (fun p:Nat×Nat=>⟨[(0,.ro 2 (bn L)),(2,.lit uL),(4,.ab 201004 0),(8,.int .i64 L.length),(9,.int .i64 p.1),(10,.int .i64 p.2)],[(201004,.var [.str t,.str []])]⟩) (fun p=>p.1≤posF t L∧posF t L≤p.2∧p.2≤L.length) (fun p=>p.2-p.1) (0,L.length) (.le vV) ⟨Nat.zero_le _,hp,Nat.le_refl _⟩ ?_
 rintro⟨i,j⟩ R1 ⟨h1,h2,h3⟩ hR1
 simp only at h1 h2 h3
 by_cases hlt:i<j
 ·have hm:IntKind.i64.wrap (((i:Int)+(j:Int)).fdiv (2^min 1 64))=(((i+j)/2:Nat):Int):=by
   rw[show(2:Int)^min 1 64=2 from rfl,Int.fdiv_eq_ediv_of_nonneg _ (by decide)]
   rw[ji ⟨by omega,by omega⟩]
   omega
  have hk:(i+j)/2<L.length:=by omega
  have hpi:=yw t hs hk
  obtain⟨k,hk0⟩:∃k,k=(i+j)/2:=⟨_,rfl⟩
  rw[←hk0]at hm hk hpi
  have hik:i≤k:=by omega
  have hkj:k<j:=by omega
  clear hk0
  refine cN @bR hm @fj ?_
  refine ve (by kernel_rfl) ?_
  refine aA (uD (L.getD k aX) (t,[])) rfl rfl ?_
  unfold cg
  generalize Lib.compareBytes (L.getD k aX).1 t=c at *
  by_cases hc:c<0
  ·refine au hc ?_
   exact hR1 (k+1,j) _ (by simp only;omega) ⟨by simp only;omega,by simp only;omega,h3⟩ (.le vV)
  ·refine au hc ?_
   exact hR1 (i,k) _ (by simp only;omega) ⟨h1,by simp only;omega,by simp only;omega⟩ (.le vV)
 ·obtain rfl:i=j:=by omega
  obtain rfl:i=posF t L:=by omega
  by_cases hlt:posF t L<L.length
  ·have hi:((posF t L:Nat):Int)<(L.length:Int):=by omega
   have hz:∀a:Bs,(Lib.compareBytes a t=0)↔a=t:=fun a=>⟨jS,fun e=>by rw[e];exact lL t⟩
   have hz:=hz (L.getD (posF t L) aX).1
   refine cN @bR hi @fj ?_
   refine fK @bR hi @fj ?_
   refine Lf (by kernel_rfl) ?_
   refine cP (by simp(disch:=omega)only[go_sem,simprocAttr,dx]) (uD (L.getD (posF t L) aX) (t,[])) vV rfl rfl ?_
   unfold cg
   generalize Lib.compareBytes (L.getD (posF t L) aX).1 t=c at *
   by_cases hc:c=0
   ·refine au hc ?_
    refine bF hc ?_
    exact hR.ro ⟨rfl,by unfold kQ;rw[decide_eq_true (⟨hlt,hz.1 hc⟩:_∧_)]⟩
   ·refine au hc ?_
    refine bF hc ?_
    exact hR.ro ⟨rfl,by unfold kQ;rw[decide_eq_false (fun h:_∧_=>hc (hz.2 h.2))]⟩
  ·refine bo @bR hlt ?_
   refine dS @bR hlt ?_
   refine Le ?_
   refine au hlt ?_
   refine bF hlt ?_
   exact hR.ro ⟨rfl,by unfold kQ;rw[decide_eq_false (fun h:_∧_=>hlt h.1)]⟩
open Eng
set_option maxRecDepth 10000
theorem VV (s t:Bs) (hs:s.length≤9223372036854775807) (ht:t.length≤9223372036854775807):aM Tryz.prog 115 [.str s,.str t] (.bool (bH t s)):=by
 refine Cod.VW (fun E R hN hR=>?_)
 by_cases h:t.length≤s.length
 ·have hi:(t.length:Int)≤(s.length:Int):=by omega
  refine au hi ?_
  refine bF hi ?_
  refine hR.ro ⟨rfl,?_⟩
  simp[bH,h]
 ·have hi:¬(t.length:Int)≤(s.length:Int):=by omega
  refine au hi ?_
  refine bF hi ?_
  exact hR.ro ⟨rfl,by simp[bH,h]⟩
theorem aoX (s t:Bs) (hs:s.length≤9223372036854775807) (ht:t.length≤9223372036854775807):aM Tryz.prog 61 [.str s,.str t] (.bool (bH t s)):=by
 refine Cod.aoY (fun E R hN hR=>?_)
 refine wW ?_
 refine aA (VV s t hs ht) rfl rfl ?_
 refine wW ?_
 exact hR.ro ⟨rfl,rfl⟩
theorem Br {α:Type} (d:α) {p:α→Bool}:∀{l:List α} {k:Nat},(l.take k).all p=true→(l.length≤k∨p (l.getD k d)=false)→l.takeWhile p=l.take k
 | [],k,_,_=>by simp
 | x::r,0,_,h=>by
  rcases h with h | h
  ·simp at h
  ·rw[List.getD_cons_zero]at h
   simp[List.takeWhile_cons,h]
 | x::r,k+1,h1,h2=>by
  rw[List.take_succ_cons,List.all_cons,Bool.and_eq_true]at h1
  rw[List.takeWhile_cons,if_pos h1.1,List.take_succ_cons,Br d h1.2 (h2.imp (fun h=>by simpa using h) (fun h=>by simpa using h))]
theorem dp {α:Type} (d:α):∀(l:List α) {k:Nat},k<l.length→l.take (k+1)=l.take k++[l.getD k d]
 | [],k,h=>by simp at h
 | x::r,0,h=>by simp
 | x::r,k+1,h=>by
  rw[List.take_succ_cons,dp d r (by simpa using h)];simp
theorem Io {α:Type} (d:α) (l:List α) (o k:Nat):(l.drop o).getD k d=l.getD (o+k) d:=by
 rw[List.getD_eq_getElem?_getD,List.getElem?_drop,←List.getD_eq_getElem?_getD]
abbrev iD (L:List Fi) (n:Nat):AV:=.aw (.agg [.ro 2 (bn L),.int .i64 n])
theorem gV {α:Type} {l:List α} {k:Nat} (d:α) (h:k<l.length):l.getD k d∈l:=by
 rw[List.getD_eq_getElem?_getD,List.getElem?_eq_getElem h];exact List.getElem_mem h
set_option maxHeartbeats 1000000 in
theorem BC (L:List Fi) (n:Nat) (t:Bs) (hs:gn L) (hl:L.length≤100000) (ht:t.length≤9223372036854775807) (hp:∀f∈L,f.1.length≤9223372036854775807) :
    aM Tryz.prog 33 [iD L n,.str t] (.ro 1 (bc (cF t L))):=by
 refine Cod.asv (fun E R hN hR=>?_)
 refine wW ?_
 refine aA (uA L t hs hl) rfl rfl ?_
 have hpl:=rW t L
 obtain⟨o,ho⟩:∃o,o=posF t L:=⟨_,rfl⟩
 unfold cF at hR
 rw[←ho]at hpl hR
 simp(disch:=omega)only[go_sem,simprocAttr,←ho]
 obtain⟨D,hD⟩:∃D,D=L.drop o:=⟨_,rfl⟩
 have hDl:D.length=L.length-o:=by rw[hD,List.length_drop]
 rw[←hD]at hR
 refine aZ hN (fun k:Nat=>⟨[(0,iD L n),(1,.str t),(5,.sl 204049 0 (D.take k).length),(6,.int .i64 ((o+k:Nat):Int))],[(204049,.arr 1 (bc ((D.take k).map (·.1))))]⟩)
  (fun k=>k≤D.length∧(D.take k).all (fun f=>bH t f.1)=true) (fun k=>D.length-k) 0 (.nil 5 204049 1 rfl (.le (by simp(disch:=omega)only[go_sem,simprocAttr,mK,List.take_zero,List.map_nil,List.length_nil,Nat.add_zero]))) ⟨Nat.zero_le _,by simp⟩ ?_
 rintro k R1 ⟨hk,hall⟩ hR1
 have htl:(D.take k).length=k:=by rw[List.length_take];omega
 have hsub:aI (bc ((D.take k).map (·.1))) 0 k=bc ((D.take k).map (·.1)):=by
  unfold aI
  rw[List.drop_zero,List.take_of_length_le (by rw[cE,List.length_map,htl];omega)]
 have fin:(D.length≤k∨bH t (D.getD k aX).1=false)→D.takeWhile (fun f=>bH t f.1)=D.take k:=fun h=>Br aX hall h
 by_cases hlt:k<D.length
 ·have hsn:=dp aX D hlt
  have hgd:L.getD (o+k) aX=D.getD k aX:=by rw[hD,Io]
  have hmem:(L.getD (o+k) aX).1.length≤9223372036854775807:=hp _ (gV aX (by omega))
  rw[hgd]at hmem
  have hi:((o+k:Nat):Int)<(L.length:Int):=by omega
  rw[htl]
  refine dE @bR hi @fj hgd ?_
  refine kR @bR hi @fj hgd ?_
  refine cn (cP vV (aoX _ t hmem ht) vV rfl rfl ?_)
  generalize hx:D.getD k aX=x at *
  by_cases hb:bH t x.1=true
  ·simp(disch:=omega)only[go_sem,simprocAttr,hb,bR,fj,hgd,cE,List.length_map,htl]
   rw[hsub,iG]
   refine⟨⟨gF,by omega⟩,hR1 (k+1) _ (by omega) ⟨by omega,by rw[hsn,List.all_append,hall];simp[hb]⟩ (.le ?_)⟩
   rw[hsn,List.length_append,htl,List.map_append]
   simp(disch:=omega)only[go_sem,simprocAttr,List.map_cons,List.map_nil,List.length_singleton]
  ·have hb:bH t x.1=false:=by simpa using hb
   rw[fin (.inr hb)]at hR
   refine au hb ?_
   exact hR.wk (h':=[]) (r':=.ro 1 (bc ((D.take k).map (·.1)))) (ar':=[.undef,.undef]) rfl (.bw 204049 (.le (by simp(disch:=omega)only[go_sem,simprocAttr,cE,List.length_map,htl,gF,hsub]))) ⟨rfl,rfl⟩
 ·have hi:¬((o+k:Nat):Int)<(L.length:Int):=by omega
  rw[fin (.inl (by omega))]at hR
  have hDk:D.take k=D:=List.take_of_length_le (by omega)
  rw[hDk]at hsub hR htl
  rw[hDk,htl]
  refine bo @bR hi ?_
  refine dS @bR hi ?_
  exact hR.wk (h':=[]) (r':=.ro 1 (bc (D.map (·.1)))) (ar':=[.undef,.undef]) rfl (.bw 204049 (.le (by simp(disch:=omega)only[go_sem,simprocAttr,cE,List.length_map,htl,gF,hsub]))) ⟨rfl,rfl⟩
theorem aqv (L:List Fi) (n:Nat) (p:Bs) (hs:gn L) (hl:L.length≤100000):aM Tryz.prog 35 [iD L n,.str p] (match getF p L with
    | some d=>.ai [.str d,.int .i64 0]
    | none=>.ai [.str [],.int .i64 7]):=by
 refine Cod.aqw (fun E R hN hR=>?_)
 rw[v8]at hR
 refine wW ?_
 refine aA (uA L p hs hl) rfl rfl ?_
 by_cases h:posF p L<L.length∧(L.getD (posF p L) aX).1=p
 ·rw[if_pos h]at hR
  have h1:=h.1
  unfold kQ
  rw[decide_eq_true h]
  refine bo @bR @fj ?_
  exact hR.ro ⟨rfl,rfl⟩
 ·rw[if_neg h]at hR
  unfold kQ
  rw[decide_eq_false h]
  refine wW ?_
  exact hR.ro ⟨rfl,rfl⟩
end Go.Proofs.YtlkmppkcbhodaaaGreatDoor.Ls
