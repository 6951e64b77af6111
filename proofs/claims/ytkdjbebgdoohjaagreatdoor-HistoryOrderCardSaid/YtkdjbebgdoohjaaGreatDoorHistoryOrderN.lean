/- The proof, part 14 of 50. -/
import Derived.Test.YtkdjbebgdoohjaaGreatDoorHistoryOrderJ
import Derived.Lib.Bytealg
set_option linter.all false
namespace Go.Proofs.YtkdjbebgdoohjaaGreatDoor.Ls
open Eng
set_option maxRecDepth 10000
abbrev Bs:=List UInt8
theorem fi:∀a b:Bs,Lib.compareBytes b a =-Lib.compareBytes a b
 | [],[]=>rfl
 | [],_::_=>rfl
 | _::_,[]=>rfl
 | x::r,y::t=>by
  simp only[Lib.compareBytes];have ih:=fi r t;by_cases h1:x<y
  ·have h2:¬y<x:=by simp only[aat]at *;omega
   simp[h1,h2]
  ·by_cases h2:y<x
   ·simp[h1,h2]
   ·simp[h1,h2,ih]
theorem uP:∀a b:Bs,-1<=Lib.compareBytes a b/\Lib.compareBytes a b<=1
 | [],[]=>by simp[Lib.compareBytes]
 | [],_::_=>by simp[Lib.compareBytes]
 | _::_,[]=>by simp[Lib.compareBytes]
 | x::r,y::t=>by
  simp only[Lib.compareBytes];split;omega
  ·split;omega
   exact uP r t
theorem jA:∀{a b:Bs},Lib.compareBytes a b=0->a=b
 | [],[],_=>rfl
 | [],_::_,h=>by simp[Lib.compareBytes]at h
 | _::_,[],h=>by simp[Lib.compareBytes]at h
 | x::r,y::t,h=>by
  simp only[Lib.compareBytes]at h;split at h;omega
  ·split at h;omega
   ·rename_i h1 h2
    have:x=y:=by
     simp only[aat]at h1 h2;exact UInt8.toNat.inj ZG
    rw[this,jA h]
theorem j9:∀a:Bs,Lib.compareBytes a a=0
 | []=>rfl
 | x::r=>by
  have:¬x<x:=by simp only[aat];omega
  simp[Lib.compareBytes,this,j9 r]
theorem oK:∀a b c:Bs,Lib.compareBytes a b<=0->Lib.compareBytes b c<=0->Lib.compareBytes a c<=0
 | [],_,[],_,_=>by simp[Lib.compareBytes]
 | [],_,_::_,_,_=>by simp[Lib.compareBytes]
 | _::_,[],_,h,_=>by simp[Lib.compareBytes]at h
 | _::_,_::_,[],_,h=>by simp[Lib.compareBytes]at h
 | x::r,y::t,z::u,h1,h2=>by
  simp only[Lib.compareBytes,aat]at h1 h2 |-;have ih:=oK r t u;split at h1
  ·split at h2
   ·rw[if_pos ZG];omega
   ·split at h2;omega
    ·rw[if_pos ZG];omega
  ·split at h1;omega
   ·split at h2
    ·rw[if_pos ZG];omega
    ·split at h2;omega
     ·rw[if_neg ZG,if_neg ZG];exact ih h1 h2
theorem qU {a b c:Bs} (h1:Lib.compareBytes a b<=0) (h2:Lib.compareBytes b c<0):Lib.compareBytes a c<0:=by
 have h:=oK a b c h1 ZG;by_cases h0:Lib.compareBytes a c=0
 ·have e:=jA h0;subst e;have:=fi a b;omega
 omega
theorem uO {a b c:Bs} (h1:Lib.compareBytes a b<0) (h2:Lib.compareBytes b c<=0):Lib.compareBytes a c<0:=by
 have h:=oK a b c ZG h2;by_cases h0:Lib.compareBytes a c=0
 ·have e:=jA h0;subst e;have:=fi a b;omega
 omega
abbrev Fi:=Bs×Bs
def dH (f:Fi):AV:=.agg [.str f.1,.str f.2]
def bM (a b:Fi):Int:=Lib.compareBytes a.1 b.1
def dE (L:List Fi):Prop:=L.Pairwise (λa b=>bM a b<=0)
def aJ:Fi:=([],[])
def posF (t:Bs):List Fi->Nat
 | []=>0
 | x::r=>if Lib.compareBytes x.1 t<0 then posF t r+1 else 0
theorem sP (t:Bs):∀L:List Fi,posF t L<=L.length
 | []=>ZM _
 | x::r=>by
  have:=sP t r;simp only[posF,Z0];split<;>omega
theorem xg (t:Bs):∀{L:List Fi} {k:Nat},dE L->k<L.length->(Lib.compareBytes (L.getD k aJ).1 t<0↔k<posF t L)
 | [],k,_,h=>absurd h (by simp)
 | x::r,0,_,_=>by
  simp only[posF,abw]
  split<;>omega
 | x::r,k+1,hs,h=>by
  have h':k<r.length:=by simpa using h
  have hs':=Z2.1 hs;have ih:=xg t hs'.2 h';simp only[posF,aaX];split;omega
  ·rename_i hx;have hm:r.getD k aJ∈r:=by rw[ZH,List.getElem?_eq_getElem h'];exact aaP h'
   have h1:bM x (r.getD k aJ)<=0:=hs'.1 _ hm;have:¬Lib.compareBytes (r.getD k aJ).1 t<0:=λh2=>hx (qU h1 h2);omega
theorem rA (L:List Fi):(flat (L.map dH)).length=2*L.length:=by
 induction L with
 | nil=>rfl
 | cons x r ih=>
  have:flat ((x::r).map dH)=[.str x.1,.str x.2]++flat (r.map dH):=rfl;rw[this,ZJ,ih];simp;omega
theorem vA:∀(L:List Fi) (j:Nat),j<2*L.length->(flat (L.map dH))[j]?=some (.str (if j%2=0 then(L.getD (j/2) aJ).1 else(L.getD (j/2) aJ).2))
 | [],j,h=>absurd h (by simp)
 | x::r,0,_=>rfl
 | x::r,1,_=>rfl
 | x::r,j+2,h=>by
  have e:flat ((x::r).map dH)=[.str x.1,.str x.2]++flat (r.map dH):=rfl;have h':j<2*r.length:=by simp at h;omega
  rw[e,show([AV.str x.1,AV.str x.2]++flat (r.map dH))[j+2]?=(flat (r.map dH))[j]? from rfl,vA r j h',show(j+2)/2=j/2+1 by omega,show(j+2)%2=j%2 by omega,aaX]
def aQ (L:List Fi):List AV:=L.map dH
theorem fN {L:List Fi} {i:Nat} (h:i<L.length):nth (aQ L) i=.agg [.str (L.getD i aJ).1,.str (L.getD i aJ).2]:=by
 simp[nth,aQ,dH,ZH,h]
theorem bD (L:List Fi):(aQ L).length=L.length:=by simp[aQ]
theorem lW {L:List Fi}:(aQ L).all aD=true:=by simp[aQ,dH,aD,cellsOf,isCell]
theorem rv {L:List Fi}:(aQ L).all flA=true:=by simp[aQ,dH,flA,flC]
theorem Lj {L:List Fi} {o n:Nat}:az (aQ L) o n=aQ ((L.drop o).take n):=by simp[aQ,az]
def aL (l:List Bs):List AV:=l.map AV.str
theorem bz (l:List Bs):(aL l).length=l.length:=by simp[aL]
theorem fv {l:List Bs} {i:Nat} (h:i<l.length):nth (aL l) i=.str (l.getD i []):=by
 simp[nth,aL,ZH,h]
theorem gL {l:List Bs}:(aL l).all aD=true:=by simp[aL,aD,cellsOf,isCell]
theorem jT {l:List Bs} {s:Bs}:aL l++[.str s]=aL (l++[s]):=by simp[aL]
theorem tC:aL []=[]:=(rfl)
open Eng
set_option maxRecDepth 10000
def dX (L:List Fi):Prop:=L.Pairwise (λa b=>bM a b<0)
theorem dX.tr {L:List Fi} (h:dX L):dE L:=List.Pairwise.imp (λh=>by omega) h
def getF (p:Bs):List Fi->Option Bs
 | []=>none
 | x::r=>if Lib.compareBytes x.1 p<0 then getF p r else if x.1=p then some x.2 else none
theorem Bc (p:Bs):∀L:List Fi,getF p L=if posF p L<L.length/\(L.getD (posF p L) aJ).1=p then some (L.getD (posF p L) aJ).2 else none
 | []=>by simp[getF]
 | x::r=>by
  have ih:=Bc p r;unfold getF posF;split
  ·rw[ih,aaX,Z0];by_cases h:posF p r<r.length/\(r.getD (posF p r) aJ).1=p
   ·rw[if_pos h,if_pos ⟨ZG,h.2⟩]
   ·rw[if_neg h,if_neg (λh'=>h ⟨ZG,h'.2⟩)]
  ·rw[abw];by_cases h:x.1=p
   ·rw[if_pos h,if_pos ⟨by simp,h⟩]
   ·rw[if_neg h,if_neg (λh'=>h h'.2)]
theorem zD {a b:Bs} (h:Lib.compareBytes a b<0):a≠b:=λe=>by subst e;rw[j9]at h;omega
theorem AN (p:Bs):∀{L:List Fi},dX L->L.filter (λf=>decide (f.1=p))=match getF p L with
    | none=>[]
    | some d=>[(p,d)]
 | [],_=>rfl
 | x::r,h=>by
  have h':=Z2.1 h;have ih:=AN p h'.2
  have none_of:¬Lib.compareBytes x.1 p<0->r.filter (λf=>decide (f.1=p))=[]:=λhx=>by
   rw[acd];intro y hy e;have e:y.1=p:=by simpa using e
   have h1:bM x y<0:=h'.1 y hy;unfold bM at h1;rw[e]at h1;exact hx h1
  unfold getF;by_cases hx:Lib.compareBytes x.1 p<0
  ·rw[if_pos hx,aaB (by simpa using zD hx)];exact ih
  ·rw[if_neg hx];by_cases he:x.1=p
   ·rw[if_pos he,aaS (by simpa using he),none_of hx,<-he]
   ·rw[if_neg he,aaB (by simpa using he),none_of hx]
theorem SP {fs L:List Fi} (hp:L.Perm fs) (h:dX L) (p:Bs):fs.filter (λf=>decide (f.1=p))=match getF p L with
    | none=>[]
    | some d=>[(p,d)]:=by
 have h1:=hp.symm.filter (λf=>decide (f.1=p));rw[AN p h]at h1
 cases hg:getF p L with
 | none=>rw[hg]at h1;exact h1.eq_nil
 | some d=>rw[hg]at h1;exact List.perm_singleton.1 h1
theorem get_mem {p d:Bs}:∀{L:List Fi},getF p L=some d->(p,d)∈L
 | [],h=>by simp[getF]at h
 | x::r,h=>by
  unfold getF at h;split at h;exact Z4 _ (get_mem h)
  ·split at h
   ·rename_i e;obtain rfl:=Option.some.inj h;rw[<-e];exact Z1 ..
   ·cases h
def bu (t s:Bs):Bool:=decide (t.length<=s.length/\s.take t.length=t)
def cY (t:Bs) (L:List Fi):List Bs:=((L.drop (posF t L)).takeWhile (λf=>bu t f.1)).map (·.1)
theorem ED {α:Type} {p:α->Bool} {x:α}:∀{l:List α},x∈l.takeWhile p->p x=true
 | [],h=>by simp at h
 | y::r,h=>by
  rw[abz]at h;split at h
  ·rename_i hy;rcases ZW.1 h with rfl | h;exact hy;exact ED h
  ·simp at h
theorem x9 {t p:Bs} {L:List Fi} (h:p∈cY t L):bu t p=true/\∃f∈L,f.1=p:=by
 unfold cY at h;obtain⟨f,hf,rfl⟩:=aaL.1 h;exact⟨ED (p:=λf:Fi=>bu t f.1) hf,f,abL ((ace _).subset hf),rfl⟩
theorem uE {t s:Bs} (h:bu t s=true):t.length<=s.length:=(of_decide_eq_true h).1
theorem qn (t:Bs) (L:List Fi):(cY t L).length<=L.length:=by
 unfold cY;rw[Z3];have:=(ace (l:=L.drop (posF t L)) (λf=>bu t f.1)).length_le;rw[ZN]at this;omega
end Go.Proofs.YtkdjbebgdoohjaaGreatDoor.Ls
