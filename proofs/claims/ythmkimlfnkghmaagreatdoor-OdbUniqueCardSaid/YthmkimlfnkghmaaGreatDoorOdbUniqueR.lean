/- The proof, part 18 of 32. -/
import Derived.Test.YthmkimlfnkghmaaGreatDoorOdbUniqueM
import Derived.Test.YthmkimlfnkghmaaGreatDoorOdbUniqueP
import Derived.Test.YthmkimlfnkghmaaGreatDoorOdbUniqueQ
set_option linter.all false
namespace Go.Proofs.YthmkimlfnkghmaaGreatDoor.Ls
open Eng
set_option maxRecDepth 10000
theorem compare_ok (a b:Bs):SpecR Tryz.prog 34 [.str a,.str b] (.int .i64 (Lib.compareBytes a b)):=
 spec_same rfl rfl (fun w=>Tryz.strings_Compare ⟨a.toArray⟩ ⟨b.toArray⟩ w)
theorem bypath_ok (x y:Fi):SpecR Tryz.prog 12 [fileA x,fileA y] (.int .i64 (fcmp x y)):=by
 refine Cod.bypath_spec (fun E R hN hR=>?_)
 simp(disch:=omega)only[go_sem,simprocAttr,fileA]
 refine call_ro (compare_ok x.1 y.1) rfl rfl ?_
 simp(disch:=omega)only[go_sem,simprocAttr]
 exact hR.ro ⟨rfl,rfl⟩
abbrev cmpV:Value:=.func (.func 12) #[] #[]
abbrev foundA (t:Bs) (L:List Fi):AV:=.tup [.int .i64 (posF t L:Nat),.bool (decide (posF t L<L.length∧(L.getD (posF t L) noF).1=t))]
theorem bsearch_ok (L:List Fi) (t:Bs) (hs:Srt L) (hl:L.length≤100000):SpecR Tryz.prog 38 [.ro 2 (filesA L),.agg [.str t,.str []],.lit cmpV] (foundA t L):=by
 refine Cod.bsearch_spec (fun E R hN hR=>?_)
 have hp:=pos_le t L
 simp(disch:=omega)only[go_sem,simprocAttr,filesA_len]
 refine vcW_loop hN (fun p:Nat×Nat=>⟨[(0,.ro 2 (filesA L)),(2,.lit cmpV),(4,.vptr 201004 0),(8,.int .i64 L.length),(9,.int .i64 p.1),(10,.int .i64 p.2)],[(201004,.var [.str t,.str []])]⟩) (fun p=>p.1≤posF t L∧posF t L≤p.2∧p.2≤L.length) (fun p=>p.2-p.1) (0,L.length) (.le (by simp(disch:=omega)only[go_sem,simprocAttr])) ⟨Nat.zero_le _,hp,Nat.le_refl _⟩ ?_
 rintro⟨i,j⟩ R1 ⟨h1,h2,h3⟩ hR1
 simp only at h1 h2 h3
 by_cases hlt:i<j
 ·have hm:IntKind.i64.wrap (((i:Int)+(j:Int)).fdiv (2^min 1 64))=(((i+j)/2:Nat):Int):=by
   rw[show(2:Int)^min 1 64=2 from rfl,Int.fdiv_eq_ediv_of_nonneg _ (by decide)]
   rw[wrap_id ⟨by omega,by omega⟩]
   omega
  have hk:(i+j)/2<L.length:=by omega
  have hpi:=pos_iff t hs hk
  obtain⟨k,hk0⟩:∃k,k=(i+j)/2:=⟨_,rfl⟩
  rw[←hk0]at hm hk hpi
  have hik:i≤k:=by omega
  have hkj:k<j:=by omega
  clear hk0
  simp(disch:=omega)only[go_sem,simprocAttr,filesA_len,hm,nth_files]
  refine dyn_to (by kernel_rfl) ?_
  refine call_ro (bypath_ok (L.getD k noF) (t,[])) rfl rfl ?_
  unfold fcmp
  generalize Lib.compareBytes (L.getD k noF).1 t=c at *
  by_cases hc:c<0
  ·simp(disch:=omega)only[go_sem,simprocAttr,hc]
   exact hR1 (k+1,j) _ (by simp only;omega) ⟨by simp only;omega,by simp only;omega,h3⟩ (.le (by simp(disch:=omega)only[go_sem,simprocAttr]))
  ·simp(disch:=omega)only[go_sem,simprocAttr,hc]
   exact hR1 (i,k) _ (by simp only;omega) ⟨h1,by simp only;omega,by simp only;omega⟩ (.le (by simp(disch:=omega)only[go_sem,simprocAttr]))
 ·obtain rfl:i=j:=by omega
  obtain rfl:i=posF t L:=by omega
  by_cases hlt:posF t L<L.length
  ·have hi:((posF t L:Nat):Int)<(L.length:Int):=by omega
   have hz:∀a:Bs,(Lib.compareBytes a t=0)↔a=t:=fun a=>⟨cb_zero,fun e=>by rw[e];exact cb_refl t⟩
   have hz:=hz (L.getD (posF t L) noF).1
   simp(disch:=omega)only[go_sem,simprocAttr,filesA_len,hi,nth_files]
   (repeat(first | refine gskip_of ?_ | refine gcskip_of ?_ | refine gopen_of ?_)<;>simp(disch:=omega)only[go_sem,simprocAttr,filesA_len,hi,nth_files])
   refine gdyes_of (by kernel_rfl) ?_
   refine callT_ro (by simp(disch:=omega)only[go_sem,simprocAttr,fileA]) (bypath_ok (L.getD (posF t L) noF) (t,[])) (by simp(disch:=omega)only[go_sem,simprocAttr]) rfl rfl ?_
   unfold fcmp
   generalize Lib.compareBytes (L.getD (posF t L) noF).1 t=c at *
   by_cases hc:c=0
   ·simp(disch:=omega)only[go_sem,simprocAttr,hc]
    (repeat(first | refine gskip_of ?_ | refine gcskip_of ?_ | refine gopen_of ?_)<;>simp(disch:=omega)only[go_sem,simprocAttr,hc])
    exact hR.ro ⟨rfl,by unfold foundA;rw[decide_eq_true (⟨hlt,hz.1 hc⟩:_∧_)]⟩
   ·simp(disch:=omega)only[go_sem,simprocAttr,hc]
    (repeat(first | refine gskip_of ?_ | refine gcskip_of ?_ | refine gopen_of ?_)<;>simp(disch:=omega)only[go_sem,simprocAttr,hc])
    exact hR.ro ⟨rfl,by unfold foundA;rw[decide_eq_false (fun h:_∧_=>hc (hz.2 h.2))]⟩
  ·simp(disch:=omega)only[go_sem,simprocAttr,filesA_len,hlt]
   (repeat(first | refine gskip_of ?_ | refine gcskip_of ?_ | refine gopen_of ?_)<;>simp(disch:=omega)only[go_sem,simprocAttr,filesA_len,hlt])
   refine gdskip_of ?_
   simp(disch:=omega)only[go_sem,simprocAttr,hlt]
   (repeat(first | refine gskip_of ?_ | refine gcskip_of ?_ | refine gopen_of ?_)<;>simp(disch:=omega)only[go_sem,simprocAttr,hlt])
   exact hR.ro ⟨rfl,by unfold foundA;rw[decide_eq_false (fun h:_∧_=>hlt h.1)]⟩
end Go.Proofs.YthmkimlfnkghmaaGreatDoor.Ls
namespace Go.Proofs.YthmkimlfnkghmaaGreatDoor.Ls
open Eng
set_option maxRecDepth 10000
theorem lhasprefix_ok (s t:Bs) (hs:s.length≤9223372036854775807) (ht:t.length≤9223372036854775807):SpecR Tryz.prog 48 [.str s,.str t] (.bool (begB t s)):=by
 refine Cod.lhasprefix_spec (fun E R hN hR=>?_)
 by_cases h:t.length≤s.length
 ·have hi:(t.length:Int)≤(s.length:Int):=by omega
  simp(disch:=omega)only[go_sem,simprocAttr,hi]
  (repeat(first | refine gskip_of ?_ | refine gcskip_of ?_ | refine gopen_of ?_)<;>simp(disch:=omega)only[go_sem,simprocAttr,hi])
  refine hR.ro ⟨rfl,?_⟩
  simp[begB,h]
 ·have hi:¬(t.length:Int)≤(s.length:Int):=by omega
  simp(disch:=omega)only[go_sem,simprocAttr,hi]
  (repeat(first | refine gskip_of ?_ | refine gcskip_of ?_ | refine gopen_of ?_)<;>simp(disch:=omega)only[go_sem,simprocAttr,hi])
  exact hR.ro ⟨rfl,by simp[begB,h]⟩
theorem shasprefix_ok (s t:Bs) (hs:s.length≤9223372036854775807) (ht:t.length≤9223372036854775807):SpecR Tryz.prog 27 [.str s,.str t] (.bool (begB t s)):=by
 refine Cod.shasprefix_spec (fun E R hN hR=>?_)
 simp(disch:=omega)only[go_sem,simprocAttr]
 refine call_ro (lhasprefix_ok s t hs ht) rfl rfl ?_
 simp(disch:=omega)only[go_sem,simprocAttr]
 exact hR.ro ⟨rfl,rfl⟩
theorem tw_take {α:Type} (d:α) {p:α→Bool}:∀{l:List α} {k:Nat},(l.take k).all p=true→(l.length≤k∨p (l.getD k d)=false)→l.takeWhile p=l.take k
 | [],k,_,_=>by simp
 | x::r,0,_,h=>by
  rcases h with h | h
  ·simp at h
  ·rw[List.getD_cons_zero]at h
   simp[List.takeWhile_cons,h]
 | x::r,k+1,h1,h2=>by
  rw[List.take_succ_cons,List.all_cons,Bool.and_eq_true]at h1
  rw[List.takeWhile_cons,if_pos h1.1,List.take_succ_cons,tw_take d h1.2 (h2.imp (fun h=>by simpa using h) (fun h=>by simpa using h))]
theorem take_snoc {α:Type} (d:α):∀(l:List α) {k:Nat},k<l.length→l.take (k+1)=l.take k++[l.getD k d]
 | [],k,h=>by simp at h
 | x::r,0,h=>by simp
 | x::r,k+1,h=>by
  rw[List.take_succ_cons,take_snoc d r (by simpa using h)];simp
theorem drop_getD {α:Type} (d:α) (l:List α) (o k:Nat):(l.drop o).getD k d=l.getD (o+k) d:=by
 rw[List.getD_eq_getElem?_getD,List.getElem?_drop,←List.getD_eq_getElem?_getD]
abbrev snapA (L:List Fi) (n:Nat):AV:=.elt (.agg [.ro 2 (filesA L),.int .i64 n])
theorem getD_mem {α:Type} {l:List α} {k:Nat} (d:α) (h:k<l.length):l.getD k d∈l:=by
 rw[List.getD_eq_getElem?_getD,List.getElem?_eq_getElem h];exact List.getElem_mem h
set_option maxHeartbeats 1000000 in
theorem under_ok (L:List Fi) (n:Nat) (t:Bs) (hs:Srt L) (hl:L.length≤100000) (ht:t.length≤9223372036854775807) (hp:∀f∈L,f.1.length≤9223372036854775807) :
    SpecR Tryz.prog 14 [snapA L n,.str t] (.ro 1 (strsA (underF t L))):=by
 refine Cod.under_spec (fun E R hN hR=>?_)
 simp(disch:=omega)only[go_sem,simprocAttr]
 refine call_ro (bsearch_ok L t hs hl) rfl rfl ?_
 have hpl:=pos_le t L
 obtain⟨o,ho⟩:∃o,o=posF t L:=⟨_,rfl⟩
 unfold underF at hR
 rw[←ho]at hpl hR
 simp(disch:=omega)only[go_sem,simprocAttr,←ho]
 obtain⟨D,hD⟩:∃D,D=L.drop o:=⟨_,rfl⟩
 have hDl:D.length=L.length-o:=by rw[hD,List.length_drop]
 rw[←hD]at hR
 refine vcW_loop hN (fun k:Nat=>⟨[(0,snapA L n),(1,.str t),(5,.sl 204049 0 (D.take k).length),(6,.int .i64 ((o+k:Nat):Int))],[(204049,.arr 1 (strsA ((D.take k).map (·.1))))]⟩)
  (fun k=>k≤D.length∧(D.take k).all (fun f=>begB t f.1)=true) (fun k=>D.length-k) 0 (.nil 5 204049 1 rfl (.le (by simp(disch:=omega)only[go_sem,simprocAttr,strs_nil,List.take_zero,List.map_nil,List.length_nil,Nat.add_zero]))) ⟨Nat.zero_le _,by simp⟩ ?_
 rintro k R1 ⟨hk,hall⟩ hR1
 have htl:(D.take k).length=k:=by rw[List.length_take];omega
 have hsub:sub3 (strsA ((D.take k).map (·.1))) 0 k=strsA ((D.take k).map (·.1)):=by
  unfold sub3
  rw[List.drop_zero,List.take_of_length_le (by rw[strs_len,List.length_map,htl];omega)]
 have fin:(D.length≤k∨begB t (D.getD k noF).1=false)→D.takeWhile (fun f=>begB t f.1)=D.take k:=fun h=>tw_take noF hall h
 by_cases hlt:k<D.length
 ·have hsn:=take_snoc noF D hlt
  have hgd:L.getD (o+k) noF=D.getD k noF:=by rw[hD,drop_getD]
  have hmem:(L.getD (o+k) noF).1.length≤9223372036854775807:=hp _ (getD_mem noF (by omega))
  rw[hgd]at hmem
  have hi:((o+k:Nat):Int)<(L.length:Int):=by omega
  rw[htl]
  simp(disch:=omega)only[go_sem,simprocAttr,filesA_len,hi,nth_files,hgd]
  (repeat(first | refine gskip_of ?_ | refine gcskip_of ?_ | refine gopen_of ?_)<;>simp(disch:=omega)only[go_sem,simprocAttr,filesA_len,hi,nth_files,hgd])
  refine gcyes_of (callT_ro (by simp(disch:=omega)only[go_sem,simprocAttr]) (shasprefix_ok _ t hmem ht) (by simp(disch:=omega)only[go_sem,simprocAttr]) rfl rfl ?_)
  generalize hx:D.getD k noF=x at *
  by_cases hb:begB t x.1=true
  ·simp(disch:=omega)only[go_sem,simprocAttr,hb,filesA_len,nth_files,hgd,strs_len,List.length_map,htl]
   rw[hsub,strs_app]
   refine⟨⟨strs_cells,by omega⟩,hR1 (k+1) _ (by omega) ⟨by omega,by rw[hsn,List.all_append,hall];simp[hb]⟩ (.le ?_)⟩
   rw[hsn,List.length_append,htl,List.map_append]
   simp(disch:=omega)only[go_sem,simprocAttr,List.map_cons,List.map_nil,List.length_singleton]
  ·have hb:begB t x.1=false:=by simpa using hb
   rw[fin (.inr hb)]at hR
   simp(disch:=omega)only[go_sem,simprocAttr,hb]
   exact hR.wk (h':=[]) (r':=.ro 1 (strsA ((D.take k).map (·.1)))) (ar':=[.undef,.undef]) rfl (.frz 204049 (.le (by simp(disch:=omega)only[go_sem,simprocAttr,strs_len,List.length_map,htl,strs_cells,hsub]))) ⟨rfl,rfl⟩
 ·have hi:¬((o+k:Nat):Int)<(L.length:Int):=by omega
  rw[fin (.inl (by omega))]at hR
  have hDk:D.take k=D:=List.take_of_length_le (by omega)
  rw[hDk]at hsub hR htl
  rw[hDk,htl]
  simp(disch:=omega)only[go_sem,simprocAttr,filesA_len,hi]
  (repeat(first | refine gskip_of ?_ | refine gcskip_of ?_ | refine gopen_of ?_)<;>simp(disch:=omega)only[go_sem,simprocAttr,filesA_len,hi])
  exact hR.wk (h':=[]) (r':=.ro 1 (strsA (D.map (·.1)))) (ar':=[.undef,.undef]) rfl (.frz 204049 (.le (by simp(disch:=omega)only[go_sem,simprocAttr,strs_len,List.length_map,htl,strs_cells,hsub]))) ⟨rfl,rfl⟩
theorem snget_ok (L:List Fi) (n:Nat) (p:Bs) (hs:Srt L) (hl:L.length≤100000):SpecR Tryz.prog 20 [snapA L n,.str p] (match getF p L with
    | some d=>.tup [.str d,.int .i64 0]
    | none=>.tup [.str [],.int .i64 7]):=by
 refine Cod.snget_spec (fun E R hN hR=>?_)
 rw[get_pos]at hR
 simp(disch:=omega)only[go_sem,simprocAttr]
 refine call_ro (bsearch_ok L p hs hl) rfl rfl ?_
 by_cases h:posF p L<L.length∧(L.getD (posF p L) noF).1=p
 ·rw[if_pos h]at hR
  have h1:=h.1
  unfold foundA
  rw[decide_eq_true h]
  simp(disch:=omega)only[go_sem,simprocAttr,filesA_len,nth_files]
  exact hR.ro ⟨rfl,rfl⟩
 ·rw[if_neg h]at hR
  unfold foundA
  rw[decide_eq_false h]
  simp(disch:=omega)only[go_sem,simprocAttr]
  exact hR.ro ⟨rfl,rfl⟩
end Go.Proofs.YthmkimlfnkghmaaGreatDoor.Ls
