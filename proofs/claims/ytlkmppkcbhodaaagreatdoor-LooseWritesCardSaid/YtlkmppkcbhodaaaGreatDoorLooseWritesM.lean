/- The proof, part 13 of 34. -/
import Derived.Test.YtlkmppkcbhodaaaGreatDoorLooseWritesJ
import Derived.Lib.Bytealg
set_option linter.all false
namespace Go.Proofs.YtlkmppkcbhodaaaGreatDoor.Ls
open Eng
set_option maxRecDepth 10000
abbrev Bs:=List UInt8
theorem kb:∀a b:Bs,Lib.compareBytes b a =-Lib.compareBytes a b
 | [],[]=>rfl
 | [],_::_=>rfl
 | _::_,[]=>rfl
 | x::r,y::t=>by
  simp only[Lib.compareBytes]
  have ih:=kb r t
  by_cases h1:x<y
  ·have h2:¬y<x:=by simp only[UInt8.lt_iff_toNat_lt]at *;omega
   simp[h1,h2]
  ·by_cases h2:y<x
   ·simp[h1,h2]
   ·simp[h1,h2,ih]
theorem mi:∀{a b:Bs},Lib.compareBytes a b=0→a=b
 | [],[],_=>rfl
 | [],_::_,h=>by simp[Lib.compareBytes]at h
 | _::_,[],h=>by simp[Lib.compareBytes]at h
 | x::r,y::t,h=>by
  simp only[Lib.compareBytes]at h
  split at h
  ·omega
  ·split at h
   ·omega
   ·rename_i h1 h2
    have:x=y:=by
     simp only[UInt8.lt_iff_toNat_lt]at h1 h2
     exact UInt8.toNat.inj (by omega)
    rw[this,mi h]
theorem oa:∀a:Bs,Lib.compareBytes a a=0
 | []=>rfl
 | x::r=>by
  have:¬x<x:=by simp only[UInt8.lt_iff_toNat_lt];omega
  simp[Lib.compareBytes,this,oa r]
theorem ob:∀a b c:Bs,Lib.compareBytes a b≤0→Lib.compareBytes b c≤0→Lib.compareBytes a c≤0
 | [],_,[],_,_=>by simp[Lib.compareBytes]
 | [],_,_::_,_,_=>by simp[Lib.compareBytes]
 | _::_,[],_,h,_=>by simp[Lib.compareBytes]at h
 | _::_,_::_,[],_,h=>by simp[Lib.compareBytes]at h
 | x::r,y::t,z::u,h1,h2=>by
  simp only[Lib.compareBytes,UInt8.lt_iff_toNat_lt]at h1 h2 ⊢
  have ih:=ob r t u
  split at h1
  ·split at h2
   ·rw[if_pos (by omega)];omega
   ·split at h2
    ·omega
    ·rw[if_pos (by omega)];omega
  ·split at h1
   ·omega
   ·split at h2
    ·rw[if_pos (by omega)];omega
    ·split at h2
     ·omega
     ·rw[if_neg (by omega),if_neg (by omega)]
      exact ih h1 h2
theorem vq {a b c:Bs} (h1:Lib.compareBytes a b≤0) (h2:Lib.compareBytes b c<0):Lib.compareBytes a c<0:=by
 have h:=ob a b c h1 (by omega)
 by_cases h0:Lib.compareBytes a c=0
 ·have e:=mi h0
  subst e
  have:=kb a b
  omega
 ·omega
theorem Ha {a b c:Bs} (h1:Lib.compareBytes a b<0) (h2:Lib.compareBytes b c≤0):Lib.compareBytes a c<0:=by
 have h:=ob a b c (by omega) h2
 by_cases h0:Lib.compareBytes a c=0
 ·have e:=mi h0
  subst e
  have:=kb a b
  omega
 ·omega
abbrev Fi:=Bs×Bs
def dD (f:Fi):AV:=.agg [.str f.1,.str f.2]
def cz (a b:Fi):Int:=Lib.compareBytes a.1 b.1
def gO (L:List Fi):Prop:=L.Pairwise (fun a b=>cz a b≤0)
def bf:Fi:=([],[])
def posF (t:Bs):List Fi→Nat
 | []=>0
 | x::r=>if Lib.compareBytes x.1 t<0 then posF t r+1 else 0
theorem sP (t:Bs):∀L:List Fi,posF t L≤L.length
 | []=>Nat.le_refl _
 | x::r=>by
  have:=sP t r
  simp only[posF,List.length_cons]
  split<;>omega
theorem zn (t:Bs):∀{L:List Fi} {k:Nat},gO L→k<L.length→(Lib.compareBytes (L.getD k bf).1 t<0↔k<posF t L)
 | [],k,_,h=>absurd h (by simp)
 | x::r,0,_,_=>by
  simp only[posF,List.getD_cons_zero]
  split<;>omega
 | x::r,k+1,hs,h=>by
  have h':k<r.length:=by simpa using h
  have hs':=List.pairwise_cons.1 hs
  have ih:=zn t hs'.2 h'
  simp only[posF,List.getD_cons_succ]
  split
  ·omega
  ·rename_i hx
   have hm:r.getD k bf∈r:=by rw[List.getD_eq_getElem?_getD,List.getElem?_eq_getElem h'];exact List.getElem_mem h'
   have h1:cz x (r.getD k bf)≤0:=hs'.1 _ hm
   have:¬Lib.compareBytes (r.getD k bf).1 t<0:=fun h2=>hx (vq h1 h2)
   omega
theorem oO (L:List Fi):(flat (L.map dD)).length=2*L.length:=by
 induction L with
 | nil=>rfl
 | cons x r ih=>
  have:flat ((x::r).map dD)=[.str x.1,.str x.2]++flat (r.map dD):=rfl
  rw[this,List.length_append,ih];simp;omega
theorem rM:∀(L:List Fi) (j:Nat),j<2*L.length→(flat (L.map dD))[j]?=some (.str (if j%2=0 then(L.getD (j/2) bf).1 else(L.getD (j/2) bf).2))
 | [],j,h=>absurd h (by simp)
 | x::r,0,_=>rfl
 | x::r,1,_=>rfl
 | x::r,j+2,h=>by
  have e:flat ((x::r).map dD)=[.str x.1,.str x.2]++flat (r.map dD):=rfl
  have h':j<2*r.length:=by simp at h;omega
  rw[e,show([AV.str x.1,AV.str x.2]++flat (r.map dD))[j+2]?=(flat (r.map dD))[j]? from rfl,rM r j h',show(j+2)/2=j/2+1 by omega,show(j+2)%2=j%2 by omega,List.getD_cons_succ]
def bx (L:List Fi):List AV:=L.map dD
theorem fP {L:List Fi} {i:Nat} (h:i<L.length):nth (bx L) i=.agg [.str (L.getD i bf).1,.str (L.getD i bf).2]:=by
 simp[nth,bx,dD,List.getD_eq_getElem?_getD,h]
theorem cc (L:List Fi):(bx L).length=L.length:=by simp[bx]
theorem kh {L:List Fi}:(bx L).all ba=true:=by simp[bx,dD,ba,cellsOf,isCell]
theorem oH {L:List Fi}:(bx L).all flA=true:=by simp[bx,dD,flA,flC]
theorem wx {L:List Fi} {f:Fi}:bx L++[.agg [.str f.1,.str f.2]]=bx (L++[f]):=by simp[bx,dD]
theorem KF {L:List Fi} {o n:Nat}:aL (bx L) o n=bx ((L.drop o).take n):=by simp[bx,aL]
def fW (l:List Bs):List AV:=l.map AV.str
theorem lX (l:List Bs):(fW l).length=l.length:=by simp[fW]
theorem tz {l:List Bs}:(fW l).all ba=true:=by simp[fW,ba,cellsOf,isCell]
theorem ark {l:List Bs} {s:Bs}:fW l++[.str s]=fW (l++[s]):=by simp[fW]
theorem arl:fW []=[]:=(rfl)
open Eng
set_option maxRecDepth 10000
def jw (L:List Fi):Prop:=L.Pairwise (fun a b=>cz a b<0)
def getF (p:Bs):List Fi→Option Bs
 | []=>none
 | x::r=>if Lib.compareBytes x.1 p<0 then getF p r else if x.1=p then some x.2 else none
theorem wZ (p:Bs):∀L:List Fi,getF p L=if posF p L<L.length∧(L.getD (posF p L) bf).1=p then some (L.getD (posF p L) bf).2 else none
 | []=>by simp[getF]
 | x::r=>by
  have ih:=wZ p r
  unfold getF posF
  split
  ·rw[ih,List.getD_cons_succ,List.length_cons]
   by_cases h:posF p r<r.length∧(r.getD (posF p r) bf).1=p
   ·rw[if_pos h,if_pos ⟨by omega,h.2⟩]
   ·rw[if_neg h,if_neg (fun h'=>h ⟨by omega,h'.2⟩)]
  ·rw[List.getD_cons_zero]
   by_cases h:x.1=p
   ·rw[if_pos h,if_pos ⟨by simp,h⟩]
   ·rw[if_neg h,if_neg (fun h'=>h h'.2)]
theorem vr {a b:Bs} (h:Lib.compareBytes a b<0):a≠b:=fun e=>by subst e;rw[oa]at h;omega
theorem wB (p:Bs):∀{L:List Fi},jw L→L.filter (fun f=>decide (f.1=p))=match getF p L with
    | none=>[]
    | some d=>[(p,d)]
 | [],_=>rfl
 | x::r,h=>by
  have h':=List.pairwise_cons.1 h
  have ih:=wB p h'.2
  have none_of:¬Lib.compareBytes x.1 p<0→r.filter (fun f=>decide (f.1=p))=[]:=fun hx=>by
   rw[List.filter_eq_nil_iff]
   intro y hy e
   have e:y.1=p:=by simpa using e
   have h1:cz x y<0:=h'.1 y hy
   unfold cz at h1
   rw[e]at h1
   exact hx h1
  unfold getF
  by_cases hx:Lib.compareBytes x.1 p<0
  ·rw[if_pos hx,List.filter_cons_of_neg (by simpa using vr hx)];exact ih
  ·rw[if_neg hx]
   by_cases he:x.1=p
   ·rw[if_pos he,List.filter_cons_of_pos (by simpa using he),none_of hx,←he]
   ·rw[if_neg he,List.filter_cons_of_neg (by simpa using he),none_of hx]
theorem abq {fs L:List Fi} (hp:L.Perm fs) (h:jw L) (p:Bs):fs.filter (fun f=>decide (f.1=p))=match getF p L with
    | none=>[]
    | some d=>[(p,d)]:=by
 have h1:=hp.symm.filter (fun f=>decide (f.1=p))
 rw[wB p h]at h1
 cases hg:getF p L with
 | none=>rw[hg]at h1;exact h1.eq_nil
 | some d=>rw[hg]at h1;exact List.perm_singleton.1 h1
theorem get_mem {p d:Bs}:∀{L:List Fi},getF p L=some d→(p,d)∈L
 | [],h=>by simp[getF]at h
 | x::r,h=>by
  unfold getF at h
  split at h
  ·exact List.mem_cons_of_mem _ (get_mem h)
  ·split at h
   ·rename_i e
    obtain rfl:=Option.some.inj h
    rw[←e];exact List.mem_cons_self ..
   ·cases h
def fK (t s:Bs):Bool:=decide (t.length≤s.length∧s.take t.length=t)
def iO (t:Bs) (L:List Fi):List Bs:=((L.drop (posF t L)).takeWhile (fun f=>fK t f.1)).map (·.1)
theorem ast (t:Bs) (L:List Fi):(iO t L).length≤L.length:=by
 unfold iO
 rw[List.length_map]
 have:=(List.takeWhile_sublist (l:=L.drop (posF t L)) (fun f=>fK t f.1)).length_le
 rw[List.length_drop]at this;omega
end Go.Proofs.YtlkmppkcbhodaaaGreatDoor.Ls
