/- The proof, part 13 of 42. -/
import Derived.Test.YtoalcafkffmiiaaGreatDoorOdbKindsJ
import Derived.Lib.Bytealg
set_option linter.all false
namespace Go.Proofs.YtoalcafkffmiiaaGreatDoor.Ls
open Eng
set_option maxRecDepth 10000
abbrev Bs:=List UInt8
theorem gH:∀a b:Bs,Lib.compareBytes b a =-Lib.compareBytes a b
 | [],[]=>rfl
 | [],_::_=>rfl
 | _::_,[]=>rfl
 | x::r,y::t=>by
  simp only[Lib.compareBytes]
  have ih:=gH r t
  by_cases h1:x<y
  ·have h2:¬y<x:=by simp only[UInt8.lt_iff_toNat_lt]at *;omega
   simp[h1,h2]
  ·by_cases h2:y<x
   ·simp[h1,h2]
   ·simp[h1,h2,ih]
theorem kC:∀{a b:Bs},Lib.compareBytes a b=0→a=b
 | [],[],_=>rfl
 | [],_::_,h=>by simp[Lib.compareBytes]at h
 | _::_,[],h=>by simp[Lib.compareBytes]at h
 | x::r,y::t,h=>by
  simp only[Lib.compareBytes]at h
  split at h
  ·omega
  ·split at h
   ·omega
   ·rename_i h1 h2
    have:x=y:=by
     simp only[UInt8.lt_iff_toNat_lt]at h1 h2
     exact UInt8.toNat.inj (by omega)
    rw[this,kC h]
theorem lH:∀a:Bs,Lib.compareBytes a a=0
 | []=>rfl
 | x::r=>by
  have:¬x<x:=by simp only[UInt8.lt_iff_toNat_lt];omega
  simp[Lib.compareBytes,this,lH r]
theorem kz:∀a b c:Bs,Lib.compareBytes a b≤0→Lib.compareBytes b c≤0→Lib.compareBytes a c≤0
 | [],_,[],_,_=>by simp[Lib.compareBytes]
 | [],_,_::_,_,_=>by simp[Lib.compareBytes]
 | _::_,[],_,h,_=>by simp[Lib.compareBytes]at h
 | _::_,_::_,[],_,h=>by simp[Lib.compareBytes]at h
 | x::r,y::t,z::u,h1,h2=>by
  simp only[Lib.compareBytes,UInt8.lt_iff_toNat_lt]at h1 h2 ⊢
  have ih:=kz r t u
  split at h1
  ·split at h2
   ·rw[if_pos (by omega)];omega
   ·split at h2
    ·omega
    ·rw[if_pos (by omega)];omega
  ·split at h1
   ·omega
   ·split at h2
    ·rw[if_pos (by omega)];omega
    ·split at h2
     ·omega
     ·rw[if_neg (by omega),if_neg (by omega)]
      exact ih h1 h2
theorem sb {a b c:Bs} (h1:Lib.compareBytes a b≤0) (h2:Lib.compareBytes b c<0):Lib.compareBytes a c<0:=by
 have h:=kz a b c h1 (by omega)
 by_cases h0:Lib.compareBytes a c=0
 ·have e:=kC h0
  subst e
  have:=gH a b
  omega
 ·omega
theorem wK {a b c:Bs} (h1:Lib.compareBytes a b<0) (h2:Lib.compareBytes b c≤0):Lib.compareBytes a c<0:=by
 have h:=kz a b c (by omega) h2
 by_cases h0:Lib.compareBytes a c=0
 ·have e:=kC h0
  subst e
  have:=gH a b
  omega
 ·omega
abbrev Fi:=Bs×Bs
def dh (f:Fi):AV:=.agg [.str f.1,.str f.2]
def b7 (a b:Fi):Int:=Lib.compareBytes a.1 b.1
def du (L:List Fi):Prop:=L.Pairwise (fun a b=>b7 a b≤0)
def aW:Fi:=([],[])
def posF (t:Bs):List Fi→Nat
 | []=>0
 | x::r=>if Lib.compareBytes x.1 t<0 then posF t r+1 else 0
theorem nH (t:Bs):∀L:List Fi,posF t L≤L.length
 | []=>Nat.le_refl _
 | x::r=>by
  have:=nH t r
  simp only[posF,List.length_cons]
  split<;>omega
theorem uh (t:Bs):∀{L:List Fi} {k:Nat},du L→k<L.length→(Lib.compareBytes (L.getD k aW).1 t<0↔k<posF t L)
 | [],k,_,h=>absurd h (by simp)
 | x::r,0,_,_=>by
  simp only[posF,List.getD_cons_zero]
  split<;>omega
 | x::r,k+1,hs,h=>by
  have h':k<r.length:=by simpa using h
  have hs':=List.pairwise_cons.1 hs
  have ih:=uh t hs'.2 h'
  simp only[posF,List.getD_cons_succ]
  split
  ·omega
  ·rename_i hx
   have hm:r.getD k aW∈r:=by rw[List.getD_eq_getElem?_getD,List.getElem?_eq_getElem h'];exact List.getElem_mem h'
   have h1:b7 x (r.getD k aW)≤0:=hs'.1 _ hm
   have:¬Lib.compareBytes (r.getD k aW).1 t<0:=fun h2=>hx (sb h1 h2)
   omega
theorem pE (L:List Fi):(flat (L.map dh)).length=2*L.length:=by
 induction L with
 | nil=>rfl
 | cons x r ih=>
  have:flat ((x::r).map dh)=[.str x.1,.str x.2]++flat (r.map dh):=rfl
  rw[this,List.length_append,ih];simp;omega
theorem sV:∀(L:List Fi) (j:Nat),j<2*L.length→(flat (L.map dh))[j]?=some (.str (if j%2=0 then(L.getD (j/2) aW).1 else(L.getD (j/2) aW).2))
 | [],j,h=>absurd h (by simp)
 | x::r,0,_=>rfl
 | x::r,1,_=>rfl
 | x::r,j+2,h=>by
  have e:flat ((x::r).map dh)=[.str x.1,.str x.2]++flat (r.map dh):=rfl
  have h':j<2*r.length:=by simp at h;omega
  rw[e,show([AV.str x.1,AV.str x.2]++flat (r.map dh))[j+2]?=(flat (r.map dh))[j]? from rfl,sV r j h',show(j+2)/2=j/2+1 by omega,show(j+2)%2=j%2 by omega,List.getD_cons_succ]
def bn (L:List Fi):List AV:=L.map dh
theorem fA {L:List Fi} {i:Nat} (h:i<L.length):nth (bn L) i=.agg [.str (L.getD i aW).1,.str (L.getD i aW).2]:=by
 simp[nth,bn,dh,List.getD_eq_getElem?_getD,h]
theorem bT (L:List Fi):(bn L).length=L.length:=by simp[bn]
theorem lU {L:List Fi}:(bn L).all aQ=true:=by simp[bn,dh,aQ,cellsOf,isCell]
theorem sM {L:List Fi}:(bn L).all flA=true:=by simp[bn,dh,flA,flC]
theorem NG {L:List Fi} {o n:Nat}:aG (bn L) o n=bn ((L.drop o).take n):=by simp[bn,aG]
def aL (l:List Bs):List AV:=l.map AV.str
theorem bO (l:List Bs):(aL l).length=l.length:=by simp[aL]
theorem nC {l:List Bs} {i:Nat} (h:i<l.length):nth (aL l) i=.str (l.getD i []):=by
 simp[nth,aL,List.getD_eq_getElem?_getD,h]
theorem fI {l:List Bs}:(aL l).all aQ=true:=by simp[aL,aQ,cellsOf,isCell]
theorem amx {l:List Bs}:(aL l).all flA=true:=by simp[aL,flA,flC]
theorem oa {l:List Bs} {s:Bs}:aL l++[.str s]=aL (l++[s]):=by simp[aL]
theorem ob:aL []=[]:=(rfl)
open Eng
set_option maxRecDepth 10000
def ir (L:List Fi):Prop:=L.Pairwise (fun a b=>b7 a b<0)
theorem ir.nW {L:List Fi} (h:ir L):du L:=List.Pairwise.imp (fun h=>by omega) h
def getF (p:Bs):List Fi→Option Bs
 | []=>none
 | x::r=>if Lib.compareBytes x.1 p<0 then getF p r else if x.1=p then some x.2 else none
theorem yz (p:Bs):∀L:List Fi,getF p L=if posF p L<L.length∧(L.getD (posF p L) aW).1=p then some (L.getD (posF p L) aW).2 else none
 | []=>by simp[getF]
 | x::r=>by
  have ih:=yz p r
  unfold getF posF
  split
  ·rw[ih,List.getD_cons_succ,List.length_cons]
   by_cases h:posF p r<r.length∧(r.getD (posF p r) aW).1=p
   ·rw[if_pos h,if_pos ⟨by omega,h.2⟩]
   ·rw[if_neg h,if_neg (fun h'=>h ⟨by omega,h'.2⟩)]
  ·rw[List.getD_cons_zero]
   by_cases h:x.1=p
   ·rw[if_pos h,if_pos ⟨by simp,h⟩]
   ·rw[if_neg h,if_neg (fun h'=>h h'.2)]
theorem HR {a b:Bs} (h:Lib.compareBytes a b<0):a≠b:=fun e=>by subst e;rw[lH]at h;omega
theorem get_mem {p d:Bs}:∀{L:List Fi},getF p L=some d→(p,d)∈L
 | [],h=>by simp[getF]at h
 | x::r,h=>by
  unfold getF at h
  split at h
  ·exact List.mem_cons_of_mem _ (get_mem h)
  ·split at h
   ·rename_i e
    obtain rfl:=Option.some.inj h
    rw[←e];exact List.mem_cons_self ..
   ·cases h
def bw (t s:Bs):Bool:=decide (t.length≤s.length∧s.take t.length=t)
def bS (t:Bs) (L:List Fi):List Bs:=((L.drop (posF t L)).takeWhile (fun f=>bw t f.1)).map (·.1)
theorem CL {α:Type} {p:α→Bool} {x:α}:∀{l:List α},x∈l.takeWhile p→p x=true
 | [],h=>by simp at h
 | y::r,h=>by
  rw[List.takeWhile_cons]at h
  split at h
  ·rename_i hy
   rcases List.mem_cons.1 h with rfl | h
   ·exact hy
   ·exact CL h
  ·simp at h
theorem u0 {t p:Bs} {L:List Fi} (h:p∈bS t L):bw t p=true∧∃f∈L,f.1=p:=by
 unfold bS at h
 obtain⟨f,hf,rfl⟩:=List.mem_map.1 h
 exact⟨CL (p:=fun f:Fi=>bw t f.1) hf,f,List.mem_of_mem_drop ((List.takeWhile_sublist _).subset hf),rfl⟩
theorem rU {t s:Bs} (h:bw t s=true):t.length≤s.length:=(of_decide_eq_true h).1
theorem lp (t:Bs) (L:List Fi):(bS t L).length≤L.length:=by
 unfold bS
 rw[List.length_map]
 have:=(List.takeWhile_sublist (l:=L.drop (posF t L)) (fun f=>bw t f.1)).length_le
 rw[List.length_drop]at this;omega
theorem anI (p d:Bs):bS (p++[47]) [(p,d)]=[]:=by
 rw[List.eq_nil_iff_forall_not_mem]
 intro q hq
 obtain⟨h1,f,hf,h2⟩:=u0 hq
 rw[List.mem_singleton]at hf
 subst hf
 have:=rU h1
 rw[←h2,List.length_append,List.length_singleton]at this
 simp only at this
 omega
end Go.Proofs.YtoalcafkffmiiaaGreatDoor.Ls
