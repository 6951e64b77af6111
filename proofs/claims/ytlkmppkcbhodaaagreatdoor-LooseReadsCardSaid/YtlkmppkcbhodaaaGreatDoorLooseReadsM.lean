/- The proof, part 13 of 32. -/
import Derived.Test.YtlkmppkcbhodaaaGreatDoorLooseReadsJ
import Derived.Lib.Bytealg
set_option linter.all false
namespace Go.Proofs.YtlkmppkcbhodaaaGreatDoor.Ls
open Eng
set_option maxRecDepth 10000
abbrev Bs:=List UInt8
theorem ga:∀a b:Bs,Lib.compareBytes b a =-Lib.compareBytes a b
 | [],[]=>rfl
 | [],_::_=>rfl
 | _::_,[]=>rfl
 | x::r,y::t=>by
  simp only[Lib.compareBytes]
  have ih:=ga r t
  by_cases h1:x<y
  ·have h2:¬y<x:=by simp only[UInt8.lt_iff_toNat_lt]at *;omega
   simp[h1,h2]
  ·by_cases h2:y<x
   ·simp[h1,h2]
   ·simp[h1,h2,ih]
theorem qv:∀a b:Bs,-1≤Lib.compareBytes a b∧Lib.compareBytes a b≤1
 | [],[]=>by simp[Lib.compareBytes]
 | [],_::_=>by simp[Lib.compareBytes]
 | _::_,[]=>by simp[Lib.compareBytes]
 | x::r,y::t=>by
  simp only[Lib.compareBytes]
  split
  ·omega
  ·split
   ·omega
   ·exact qv r t
theorem jS:∀{a b:Bs},Lib.compareBytes a b=0→a=b
 | [],[],_=>rfl
 | [],_::_,h=>by simp[Lib.compareBytes]at h
 | _::_,[],h=>by simp[Lib.compareBytes]at h
 | x::r,y::t,h=>by
  simp only[Lib.compareBytes]at h
  split at h
  ·omega
  ·split at h
   ·omega
   ·rename_i h1 h2
    have:x=y:=by
     simp only[UInt8.lt_iff_toNat_lt]at h1 h2
     exact UInt8.toNat.inj (by omega)
    rw[this,jS h]
theorem lL:∀a:Bs,Lib.compareBytes a a=0
 | []=>rfl
 | x::r=>by
  have:¬x<x:=by simp only[UInt8.lt_iff_toNat_lt];omega
  simp[Lib.compareBytes,this,lL r]
theorem lM:∀a b c:Bs,Lib.compareBytes a b≤0→Lib.compareBytes b c≤0→Lib.compareBytes a c≤0
 | [],_,[],_,_=>by simp[Lib.compareBytes]
 | [],_,_::_,_,_=>by simp[Lib.compareBytes]
 | _::_,[],_,h,_=>by simp[Lib.compareBytes]at h
 | _::_,_::_,[],_,h=>by simp[Lib.compareBytes]at h
 | x::r,y::t,z::u,h1,h2=>by
  simp only[Lib.compareBytes,UInt8.lt_iff_toNat_lt]at h1 h2 ⊢
  have ih:=lM r t u
  split at h1
  ·split at h2
   ·rw[if_pos (by omega)];omega
   ·split at h2
    ·omega
    ·rw[if_pos (by omega)];omega
  ·split at h1
   ·omega
   ·split at h2
    ·rw[if_pos (by omega)];omega
    ·split at h2
     ·omega
     ·rw[if_neg (by omega),if_neg (by omega)]
      exact ih h1 h2
theorem qu {a b c:Bs} (h1:Lib.compareBytes a b≤0) (h2:Lib.compareBytes b c<0):Lib.compareBytes a c<0:=by
 have h:=lM a b c h1 (by omega)
 by_cases h0:Lib.compareBytes a c=0
 ·have e:=jS h0
  subst e
  have:=ga a b
  omega
 ·omega
theorem F2 {a b c:Bs} (h1:Lib.compareBytes a b<0) (h2:Lib.compareBytes b c≤0):Lib.compareBytes a c<0:=by
 have h:=lM a b c (by omega) h2
 by_cases h0:Lib.compareBytes a c=0
 ·have e:=jS h0
  subst e
  have:=ga a b
  omega
 ·omega
abbrev Fi:=Bs×Bs
def dx (f:Fi):AV:=.agg [.str f.1,.str f.2]
def cg (a b:Fi):Int:=Lib.compareBytes a.1 b.1
def gn (L:List Fi):Prop:=L.Pairwise (fun a b=>cg a b≤0)
def aX:Fi:=([],[])
def posF (t:Bs):List Fi→Nat
 | []=>0
 | x::r=>if Lib.compareBytes x.1 t<0 then posF t r+1 else 0
theorem rW (t:Bs):∀L:List Fi,posF t L≤L.length
 | []=>Nat.le_refl _
 | x::r=>by
  have:=rW t r
  simp only[posF,List.length_cons]
  split<;>omega
theorem yw (t:Bs):∀{L:List Fi} {k:Nat},gn L→k<L.length→(Lib.compareBytes (L.getD k aX).1 t<0↔k<posF t L)
 | [],k,_,h=>absurd h (by simp)
 | x::r,0,_,_=>by
  simp only[posF,List.getD_cons_zero]
  split<;>omega
 | x::r,k+1,hs,h=>by
  have h':k<r.length:=by simpa using h
  have hs':=List.pairwise_cons.1 hs
  have ih:=yw t hs'.2 h'
  simp only[posF,List.getD_cons_succ]
  split
  ·omega
  ·rename_i hx
   have hm:r.getD k aX∈r:=by rw[List.getD_eq_getElem?_getD,List.getElem?_eq_getElem h'];exact List.getElem_mem h'
   have h1:cg x (r.getD k aX)≤0:=hs'.1 _ hm
   have:¬Lib.compareBytes (r.getD k aX).1 t<0:=fun h2=>hx (qu h1 h2)
   omega
theorem oc (L:List Fi):(flat (L.map dx)).length=2*L.length:=by
 induction L with
 | nil=>rfl
 | cons x r ih=>
  have:flat ((x::r).map dx)=[.str x.1,.str x.2]++flat (r.map dx):=rfl
  rw[this,List.length_append,ih];simp;omega
theorem qR:∀(L:List Fi) (j:Nat),j<2*L.length→(flat (L.map dx))[j]?=some (.str (if j%2=0 then(L.getD (j/2) aX).1 else(L.getD (j/2) aX).2))
 | [],j,h=>absurd h (by simp)
 | x::r,0,_=>rfl
 | x::r,1,_=>rfl
 | x::r,j+2,h=>by
  have e:flat ((x::r).map dx)=[.str x.1,.str x.2]++flat (r.map dx):=rfl
  have h':j<2*r.length:=by simp at h;omega
  rw[e,show([AV.str x.1,AV.str x.2]++flat (r.map dx))[j+2]?=(flat (r.map dx))[j]? from rfl,qR r j h',show(j+2)/2=j/2+1 by omega,show(j+2)%2=j%2 by omega,List.getD_cons_succ]
def bn (L:List Fi):List AV:=L.map dx
theorem fj {L:List Fi} {i:Nat} (h:i<L.length):nth (bn L) i=.agg [.str (L.getD i aX).1,.str (L.getD i aX).2]:=by
 simp[nth,bn,dx,List.getD_eq_getElem?_getD,h]
theorem bR (L:List Fi):(bn L).length=L.length:=by simp[bn]
theorem kO {L:List Fi}:(bn L).all aY=true:=by simp[bn,dx,aY,cellsOf,isCell]
theorem qL {L:List Fi}:(bn L).all flA=true:=by simp[bn,dx,flA,flC]
theorem JA {L:List Fi} {o n:Nat}:aI (bn L) o n=bn ((L.drop o).take n):=by simp[bn,aI]
def bc (l:List Bs):List AV:=l.map AV.str
theorem cE (l:List Bs):(bc l).length=l.length:=by simp[bc]
theorem gj {l:List Bs} {i:Nat} (h:i<l.length):nth (bc l) i=.str (l.getD i []):=by
 simp[nth,bc,List.getD_eq_getElem?_getD,h]
theorem gF {l:List Bs}:(bc l).all aY=true:=by simp[bc,aY,cellsOf,isCell]
theorem iG {l:List Bs} {s:Bs}:bc l++[.str s]=bc (l++[s]):=by simp[bc]
theorem mK:bc []=[]:=(rfl)
open Eng
set_option maxRecDepth 10000
def gL (L:List Fi):Prop:=L.Pairwise (fun a b=>cg a b<0)
def getF (p:Bs):List Fi→Option Bs
 | []=>none
 | x::r=>if Lib.compareBytes x.1 p<0 then getF p r else if x.1=p then some x.2 else none
theorem v8 (p:Bs):∀L:List Fi,getF p L=if posF p L<L.length∧(L.getD (posF p L) aX).1=p then some (L.getD (posF p L) aX).2 else none
 | []=>by simp[getF]
 | x::r=>by
  have ih:=v8 p r
  unfold getF posF
  split
  ·rw[ih,List.getD_cons_succ,List.length_cons]
   by_cases h:posF p r<r.length∧(r.getD (posF p r) aX).1=p
   ·rw[if_pos h,if_pos ⟨by omega,h.2⟩]
   ·rw[if_neg h,if_neg (fun h'=>h ⟨by omega,h'.2⟩)]
  ·rw[List.getD_cons_zero]
   by_cases h:x.1=p
   ·rw[if_pos h,if_pos ⟨by simp,h⟩]
   ·rw[if_neg h,if_neg (fun h'=>h h'.2)]
theorem uI {a b:Bs} (h:Lib.compareBytes a b<0):a≠b:=fun e=>by subst e;rw[lL]at h;omega
theorem vC (p:Bs):∀{L:List Fi},gL L→L.filter (fun f=>decide (f.1=p))=match getF p L with
    | none=>[]
    | some d=>[(p,d)]
 | [],_=>rfl
 | x::r,h=>by
  have h':=List.pairwise_cons.1 h
  have ih:=vC p h'.2
  have none_of:¬Lib.compareBytes x.1 p<0→r.filter (fun f=>decide (f.1=p))=[]:=fun hx=>by
   rw[List.filter_eq_nil_iff]
   intro y hy e
   have e:y.1=p:=by simpa using e
   have h1:cg x y<0:=h'.1 y hy
   unfold cg at h1
   rw[e]at h1
   exact hx h1
  unfold getF
  by_cases hx:Lib.compareBytes x.1 p<0
  ·rw[if_pos hx,List.filter_cons_of_neg (by simpa using uI hx)];exact ih
  ·rw[if_neg hx]
   by_cases he:x.1=p
   ·rw[if_pos he,List.filter_cons_of_pos (by simpa using he),none_of hx,←he]
   ·rw[if_neg he,List.filter_cons_of_neg (by simpa using he),none_of hx]
theorem Zj {fs L:List Fi} (hp:L.Perm fs) (h:gL L) (p:Bs):fs.filter (fun f=>decide (f.1=p))=match getF p L with
    | none=>[]
    | some d=>[(p,d)]:=by
 have h1:=hp.symm.filter (fun f=>decide (f.1=p))
 rw[vC p h]at h1
 cases hg:getF p L with
 | none=>rw[hg]at h1;exact h1.eq_nil
 | some d=>rw[hg]at h1;exact List.perm_singleton.1 h1
theorem get_mem {p d:Bs}:∀{L:List Fi},getF p L=some d→(p,d)∈L
 | [],h=>by simp[getF]at h
 | x::r,h=>by
  unfold getF at h
  split at h
  ·exact List.mem_cons_of_mem _ (get_mem h)
  ·split at h
   ·rename_i e
    obtain rfl:=Option.some.inj h
    rw[←e];exact List.mem_cons_self ..
   ·cases h
def bH (t s:Bs):Bool:=decide (t.length≤s.length∧s.take t.length=t)
def cF (t:Bs) (L:List Fi):List Bs:=((L.drop (posF t L)).takeWhile (fun f=>bH t f.1)).map (·.1)
theorem Bq {α:Type} {p:α→Bool} {x:α}:∀{l:List α},x∈l.takeWhile p→p x=true
 | [],h=>by simp at h
 | y::r,h=>by
  rw[List.takeWhile_cons]at h
  split at h
  ·rename_i hy
   rcases List.mem_cons.1 h with rfl | h
   ·exact hy
   ·exact Bq h
  ·simp at h
theorem BB {t p:Bs} {L:List Fi} (h:p∈cF t L):bH t p=true∧∃f∈L,f.1=p:=by
 unfold cF at h
 obtain⟨f,hf,rfl⟩:=List.mem_map.1 h
 exact⟨Bq (p:=fun f:Fi=>bH t f.1) hf,f,List.mem_of_mem_drop ((List.takeWhile_sublist _).subset hf),rfl⟩
theorem D4 {t s:Bs} (h:bH t s=true):t.length≤s.length:=(of_decide_eq_true h).1
theorem pP (t:Bs) (L:List Fi):(cF t L).length≤L.length:=by
 unfold cF
 rw[List.length_map]
 have:=(List.takeWhile_sublist (l:=L.drop (posF t L)) (fun f=>bH t f.1)).length_le
 rw[List.length_drop]at this;omega
end Go.Proofs.YtlkmppkcbhodaaaGreatDoor.Ls
