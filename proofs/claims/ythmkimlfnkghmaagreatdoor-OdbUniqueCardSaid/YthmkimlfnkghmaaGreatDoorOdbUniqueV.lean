/- The proof, part 22 of 32. -/
import Derived.Test.YthmkimlfnkghmaaGreatDoorOdbUniqueM
import Derived.Lib.SlicesCompact
set_option linter.all false
namespace Go.Proofs.YthmkimlfnkghmaaGreatDoor.Ls
open Eng
set_option maxRecDepth 10000
theorem lt_cb:∀x y:Bs,x<y↔Lib.compareBytes x y<0
 | [],[]=>by simp[Lib.compareBytes]
 | [],_::_=>by simp[Lib.compareBytes]
 | _::_,[]=>by simp[Lib.compareBytes]
 | a::x,b::y=>by
  rw[List.cons_lt_cons_iff,lt_cb x y]
  simp only[Lib.compareBytes]
  by_cases h1:a<b
  ·simp[h1]
  ·by_cases h2:b<a
   ·have:¬a=b:=fun e=>by subst e;exact h1 h2
    simp[h1,h2,this]
   ·have:a=b:=by
     simp only[UInt8.lt_iff_toNat_lt]at h1 h2
     exact UInt8.toNat.inj (by omega)
    simp[this]
theorem le_cb (x y:Bs):x≤y↔Lib.compareBytes x y≤0:=by
 have h:x≤y↔¬y<x:=Iff.rfl
 rw[h,lt_cb]
 have:=cb_anti x y
 omega
abbrev sortB (l:List Bs):List Bs:=l.mergeSort fun x y=>decide (x≤y)
theorem sortB_srt (l:List Bs):(sortB l).Pairwise (fun a b=>Lib.compareBytes a b≤0):=by
 have h:=List.pairwise_mergeSort (le:=fun x y:Bs=>decide (x≤y))
  (fun a b c h1 h2=>by
   rw[decide_eq_true_eq,le_cb]at *
   exact cb_trans a b c h1 h2)
  (fun a b=>by
   rw[Bool.or_eq_true,decide_eq_true_eq,decide_eq_true_eq,le_cb,le_cb]
   have:=cb_anti a b
   omega) l
 exact h.imp (fun h=>by rwa[decide_eq_true_eq,le_cb]at h)
theorem arr_getB (l:List Bs) (i:Nat):(l.toArray[i]!)=l.getD i []:=by
 rw[List.getD_eq_getElem?_getD,getElem!_def]
 simp only[List.getElem?_toArray]
 cases l[i]?<;>rfl
theorem srt_get {l:List Bs} (h:l.Pairwise (fun a b=>Lib.compareBytes a b≤0)) {i j:Nat} (hij:i<j) (hj:j<l.length):Lib.compareBytes (l.getD i []) (l.getD j [])≤0:=by
 have:=List.pairwise_iff_getElem.1 h i j (by omega) hj hij
 rwa[List.getD_eq_getElem?_getD,List.getD_eq_getElem?_getD,List.getElem?_eq_getElem hj,List.getElem?_eq_getElem (by omega:i<l.length)]
theorem compact_upto {l:List Bs} (h:l.Pairwise (fun a b=>Lib.compareBytes a b≤0)):∀m,m≤l.length→StrictB (Lib.compactUpTo l.toArray m)∧(∀x,x∈Lib.compactUpTo l.toArray m↔x∈l.take m)∧∀x∈Lib.compactUpTo l.toArray m,0<m∧Lib.compareBytes x (l.getD (m-1) [])≤0
 | 0,_=>⟨.nil,fun x=>by simp[Lib.compactUpTo],fun x hx=>by simp[Lib.compactUpTo]at hx⟩
 | m+1,hm=>by
  obtain⟨h1,h2,h3⟩:=compact_upto h m (by omega)
  have hsn:l.take (m+1)=l.take m++[l.getD m []]:=by
   rw[List.take_succ,List.getD_eq_getElem?_getD,List.getElem?_eq_getElem (by omega:m<l.length)];rfl
  rw[Lib.compactUpTo_succ,arr_getB]
  have hk:Lib.keeps l.toArray m=decide (m=0∨l.getD m []≠l.getD (m-1) []):=by
   unfold Lib.keeps
   rw[arr_getB,arr_getB]
  by_cases hkm:m=0∨l.getD m []≠l.getD (m-1) []
  ·rw[hk,decide_eq_true hkm,if_pos rfl]
   refine⟨?_,fun x=>?_,fun x hx=>⟨by omega,?_⟩⟩
   ·unfold StrictB
    rw[List.pairwise_append]
    refine⟨h1,List.pairwise_singleton _ _,fun x hx y hy=>?_⟩
    rw[List.mem_singleton]at hy
    subst hy
    obtain⟨h4,h5⟩:=h3 x hx
    have h6:=srt_get h (i:=m-1) (j:=m) (by omega) (by omega)
    have h7:Lib.compareBytes (l.getD (m-1) []) (l.getD m [])≠0:=fun e=>by
     rcases hkm with h0 | h0
     ·omega
     ·exact h0 (cb_zero e).symm
    exact cb_lt h5 (by omega)
   ·rw[hsn,List.mem_append,List.mem_append,h2]
   ·rw[show m+1-1=m by omega]
    rcases List.mem_append.1 hx with hx | hx
    ·obtain⟨h4,h5⟩:=h3 x hx
     exact cb_trans _ _ _ h5 (srt_get h (by omega) (by omega))
    ·rw[List.mem_singleton]at hx
     rw[hx,cb_refl];omega
  ·rw[hk,decide_eq_false hkm,if_neg (by simp),List.append_nil]
   have h0:m≠0:=fun e=>hkm (.inl e)
   have he:l.getD m []=l.getD (m-1) []:=Decidable.not_not.1 (fun e=>hkm (.inr e))
   refine⟨h1,fun x=>?_,fun x hx=>⟨by omega,?_⟩⟩
   ·rw[h2,hsn,List.mem_append,List.mem_singleton]
    constructor
    ·exact .inl
    ·rintro(hx | rfl)
     ·exact hx
     ·rw[he]
      have hl:m-1<(l.take m).length:=by rw[List.length_take];omega
      have h:=List.getElem_mem hl
      have e:(l.take m)[m-1]=l.getD (m-1) []:=by
       rw[List.getElem_take,List.getD_eq_getElem?_getD,List.getElem?_eq_getElem (by omega:m-1<l.length)];rfl
      rwa[e]at h
   ·rw[show m+1-1=m by omega,he]
    exact(h3 x hx).2
theorem compact_strict {l:List Bs} (h:l.Pairwise (fun a b=>Lib.compareBytes a b≤0)):StrictB (Lib.compact l)∧∀x,x∈Lib.compact l↔x∈l:=by
 obtain⟨h1,h2,_⟩:=compact_upto h l.length (Nat.le_refl _)
 refine⟨h1,fun x=>?_⟩
 have:=h2 x
 rwa[List.take_of_length_le (Nat.le_refl _)]at this
def onceL (l:List Bs):List Bs:=Lib.compact (sortB l)
theorem once_strict (l:List Bs):StrictB (onceL l):=(compact_strict (sortB_srt l)).1
theorem once_mem (l:List Bs) (x:Bs):x∈onceL l↔x∈l:=((compact_strict (sortB_srt l)).2 x).trans List.mem_mergeSort
theorem once_filter (p:Bs→Bool) (l:List Bs):onceL (l.filter p)=(onceL l).filter p:=
 strict_ext (once_strict _) ((once_strict l).filter _) (fun x=>by rw[once_mem,List.mem_filter,List.mem_filter,once_mem])
theorem strict_get {l:List Bs} (h:StrictB l) {i j:Nat} (hij:i<j) (hj:j<l.length):Lib.compareBytes (l.getD i []) (l.getD j [])<0:=by
 have:=List.pairwise_iff_getElem.1 h i j (by omega) hj hij
 rwa[List.getD_eq_getElem?_getD,List.getD_eq_getElem?_getD,List.getElem?_eq_getElem hj,List.getElem?_eq_getElem (by omega:i<l.length)]
theorem filter_one {α:Type} (d:α) {p:α→Bool}:∀{l:List α} {i:Nat},i<l.length→p (l.getD i d)=true→(∀j,j<l.length→j≠i→p (l.getD j d)=false)→l.filter p=[l.getD i d]
 | [],_,h,_,_=>absurd h (by simp)
 | x::r,0,_,h1,h2=>by
  rw[List.getD_cons_zero]at h1 ⊢
  rw[List.filter_cons_of_pos h1]
  congr 1
  rw[List.filter_eq_nil_iff]
  intro y hy
  obtain⟨j,hj,rfl⟩:=List.mem_iff_getElem.1 hy
  have:=h2 (j+1) (by simpa using hj) (by omega)
  rw[List.getD_cons_succ,List.getD_eq_getElem?_getD,List.getElem?_eq_getElem hj]at this
  simpa using this
 | x::r,i+1,h,h1,h2=>by
  have h0:=h2 0 (by simp) (by omega)
  rw[List.getD_cons_zero]at h0
  rw[List.filter_cons_of_neg (by rw[h0];simp),List.getD_cons_succ]
  rw[List.getD_cons_succ]at h1
  exact filter_one d (by simpa using h) h1 (fun j hj hji=>by
   have:=h2 (j+1) (by simpa using hj) (by omega)
   rwa[List.getD_cons_succ]at this)
theorem filter_more {α:Type} (d:α) {p:α→Bool}:∀{l:List α} {i j:Nat},i<j→j<l.length→p (l.getD i d)=true→p (l.getD j d)=true→2≤(l.filter p).length
 | [],_,_,_,h,_,_=>absurd h (by simp)
 | x::r,0,j+1,_,hj,h1,h2=>by
  rw[List.getD_cons_zero]at h1
  rw[List.getD_cons_succ]at h2
  rw[List.filter_cons_of_pos h1,List.length_cons]
  have hm:r.getD j d∈r.filter p:=List.mem_filter.2 ⟨by rw[List.getD_eq_getElem?_getD,List.getElem?_eq_getElem (by simpa using hj)];exact List.getElem_mem _,h2⟩
  have:=List.length_pos_of_mem hm
  omega
 | x::r,i+1,j+1,hij,hj,h1,h2=>by
  rw[List.getD_cons_succ]at h1 h2
  have:=filter_more d (l:=r) (by omega) (by simpa using hj) h1 h2
  by_cases hx:p x=true
  ·rw[List.filter_cons_of_pos hx,List.length_cons];omega
  ·rw[List.filter_cons_of_neg hx];exact this
end Go.Proofs.YthmkimlfnkghmaaGreatDoor.Ls
