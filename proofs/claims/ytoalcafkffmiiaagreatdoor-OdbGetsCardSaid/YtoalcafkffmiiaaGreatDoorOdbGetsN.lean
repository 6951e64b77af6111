/- The proof, part 14 of 43. -/
import Derived.Test.YtoalcafkffmiiaaGreatDoorOdbGetsJ
import Derived.Lib.Bytealg
set_option linter.all false
namespace Go.Proofs.YtoalcafkffmiiaaGreatDoor.Ls
open Eng
set_option maxRecDepth 10000
abbrev Bs:=List UInt8
theorem gr:∀a b:Bs,Lib.compareBytes b a =-Lib.compareBytes a b
 | [],[]=>rfl
 | [],_::_=>rfl
 | _::_,[]=>rfl
 | x::r,y::t=>by
  simp only[Lib.compareBytes];have ih:=gr r t;by_cases h1:x<y
  ·have h2:¬y<x:=by simp only[adF]at *;omega
   simp[h1,h2]
  ·by_cases h2:y<x
   ·simp[h1,h2]
   ·simp[h1,h2,ih]
theorem vU:∀a b:Bs,-1<=Lib.compareBytes a b/\Lib.compareBytes a b<=1
 | [],[]=>by simp[Lib.compareBytes]
 | [],_::_=>by simp[Lib.compareBytes]
 | _::_,[]=>by simp[Lib.compareBytes]
 | x::r,y::t=>by
  simp only[Lib.compareBytes];split;omega
  ·split;omega
   exact vU r t
theorem lp:∀{a b:Bs},Lib.compareBytes a b=0->a=b
 | [],[],_=>rfl
 | [],_::_,h=>by simp[Lib.compareBytes]at h
 | _::_,[],h=>by simp[Lib.compareBytes]at h
 | x::r,y::t,h=>by
  simp only[Lib.compareBytes]at h;split at h;omega
  ·split at h;omega
   ·rename_i h1 h2
    have:x=y:=by
     simp only[adF]at h1 h2;exact UInt8.toNat.inj acN
    rw[this,lp h]
theorem l7:∀a:Bs,Lib.compareBytes a a=0
 | []=>rfl
 | x::r=>by
  have:¬x<x:=by simp only[adF];omega
  simp[Lib.compareBytes,this,l7 r]
theorem l8:∀a b c:Bs,Lib.compareBytes a b<=0->Lib.compareBytes b c<=0->Lib.compareBytes a c<=0
 | [],_,[],_,_=>by simp[Lib.compareBytes]
 | [],_,_::_,_,_=>by simp[Lib.compareBytes]
 | _::_,[],_,h,_=>by simp[Lib.compareBytes]at h
 | _::_,_::_,[],_,h=>by simp[Lib.compareBytes]at h
 | x::r,y::t,z::u,h1,h2=>by
  simp only[Lib.compareBytes,adF]at h1 h2 |-;have ih:=l8 r t u;split at h1
  ·split at h2
   ·rw[if_pos acN];omega
   ·split at h2;omega
    ·rw[if_pos acN];omega
  ·split at h1;omega
   ·split at h2
    ·rw[if_pos acN];omega
    ·split at h2;omega
     ·rw[if_neg acN,if_neg acN];exact ih h1 h2
theorem sn {a b c:Bs} (h1:Lib.compareBytes a b<=0) (h2:Lib.compareBytes b c<0):Lib.compareBytes a c<0:=by
 have h:=l8 a b c h1 acN;by_cases h0:Lib.compareBytes a c=0
 ·have e:=lp h0;subst e;have:=gr a b;omega
 omega
theorem A4 {a b c:Bs} (h1:Lib.compareBytes a b<0) (h2:Lib.compareBytes b c<=0):Lib.compareBytes a c<0:=by
 have h:=l8 a b c acN h2;by_cases h0:Lib.compareBytes a c=0
 ·have e:=lp h0;subst e;have:=gr a b;omega
 omega
abbrev Fi:=Bs×Bs
def eS (f:Fi):AV:=.agg [.str f.1,.str f.2]
def cv (a b:Fi):Int:=Lib.compareBytes a.1 b.1
def eO (L:List Fi):Prop:=L.Pairwise (λa b=>cv a b<=0)
def aP:Fi:=([],[])
def posF (t:Bs):List Fi->Nat
 | []=>0
 | x::r=>if Lib.compareBytes x.1 t<0 then posF t r+1 else 0
theorem qM (t:Bs):∀L:List Fi,posF t L<=L.length
 | []=>acT _
 | x::r=>by
  have:=qM t r;simp only[posF,adb];split<;>omega
theorem yl (t:Bs):∀{L:List Fi} {k:Nat},eO L->k<L.length->(Lib.compareBytes (L.getD k aP).1 t<0↔k<posF t L)
 | [],k,_,h=>absurd h (by simp)
 | x::r,0,_,_=>by
  simp only[posF,aei]
  split<;>omega
 | x::r,k+1,hs,h=>by
  have h':k<r.length:=by simpa using h
  have hs':=adp.1 hs;have ih:=yl t hs'.2 h';simp only[posF,aej];split;omega
  ·rename_i hx;have hm:r.getD k aP∈r:=by rw[acO,List.getElem?_eq_getElem h'];exact adB h'
   have h1:cv x (r.getD k aP)<=0:=hs'.1 _ hm;have:¬Lib.compareBytes (r.getD k aP).1 t<0:=λh2=>hx (sn h1 h2);omega
theorem sW (L:List Fi):(flat (L.map eS)).length=2*L.length:=by
 induction L with
 | nil=>rfl
 | cons x r ih=>
  have:flat ((x::r).map eS)=[.str x.1,.str x.2]++flat (r.map eS):=rfl;rw[this,acQ,ih];simp;omega
theorem wR:∀(L:List Fi) (j:Nat),j<2*L.length->(flat (L.map eS))[j]?=some (.str (if j%2=0 then(L.getD (j/2) aP).1 else(L.getD (j/2) aP).2))
 | [],j,h=>absurd h (by simp)
 | x::r,0,_=>rfl
 | x::r,1,_=>rfl
 | x::r,j+2,h=>by
  have e:flat ((x::r).map eS)=[.str x.1,.str x.2]++flat (r.map eS):=rfl;have h':j<2*r.length:=by simp at h;omega
  rw[e,show([AV.str x.1,AV.str x.2]++flat (r.map eS))[j+2]?=(flat (r.map eS))[j]? from rfl,wR r j h',show(j+2)/2=j/2+1 by omega,show(j+2)%2=j%2 by omega,aej]
def a8 (L:List Fi):List AV:=L.map eS
theorem iq {L:List Fi} {i:Nat} (h:i<L.length):nth (a8 L) i=.agg [.str (L.getD i aP).1,.str (L.getD i aP).2]:=by
 simp[nth,a8,eS,acO,h]
theorem bX (L:List Fi):(a8 L).length=L.length:=by simp[a8]
theorem oJ {L:List Fi}:(a8 L).all aL=true:=by simp[a8,eS,aL,cellsOf,isCell]
theorem wJ {L:List Fi}:(a8 L).all flA=true:=by simp[a8,eS,flA,flC]
theorem Nn {L:List Fi} {o n:Nat}:aB (a8 L) o n=a8 ((L.drop o).take n):=by simp[a8,aB]
def au (l:List Bs):List AV:=l.map AV.str
theorem aZ (l:List Bs):(au l).length=l.length:=by simp[au]
theorem fA {l:List Bs} {i:Nat} (h:i<l.length):nth (au l) i=.str (l.getD i []):=by
 simp[nth,au,acO,h]
theorem dM {l:List Bs}:(au l).all aL=true:=by simp[au,aL,cellsOf,isCell]
theorem Gp {l:List Bs}:(au l).all flA=true:=by simp[au,flA,flC]
theorem ji {l:List Bs} {s:Bs}:au l++[.str s]=au (l++[s]):=by simp[au]
theorem lT:au []=[]:=(rfl)
open Eng
set_option maxRecDepth 10000
def fi (L:List Fi):Prop:=L.Pairwise (λa b=>cv a b<0)
theorem fi.rk {L:List Fi} (h:fi L):eO L:=List.Pairwise.imp (λh=>by omega) h
def getF (p:Bs):List Fi->Option Bs
 | []=>none
 | x::r=>if Lib.compareBytes x.1 p<0 then getF p r else if x.1=p then some x.2 else none
theorem CE (p:Bs):∀L:List Fi,getF p L=if posF p L<L.length/\(L.getD (posF p L) aP).1=p then some (L.getD (posF p L) aP).2 else none
 | []=>by simp[getF]
 | x::r=>by
  have ih:=CE p r;unfold getF posF;split
  ·rw[ih,aej,adb];by_cases h:posF p r<r.length/\(r.getD (posF p r) aP).1=p
   ·rw[if_pos h,if_pos ⟨acN,h.2⟩]
   ·rw[if_neg h,if_neg (λh'=>h ⟨acN,h'.2⟩)]
  ·rw[aei];by_cases h:x.1=p
   ·rw[if_pos h,if_pos ⟨by simp,h⟩]
   ·rw[if_neg h,if_neg (λh'=>h h'.2)]
theorem A5 {a b:Bs} (h:Lib.compareBytes a b<0):a≠b:=λe=>by subst e;rw[l7]at h;omega
theorem Ca (p:Bs):∀{L:List Fi},fi L->L.filter (λf=>decide (f.1=p))=match getF p L with
    | none=>[]
    | some d=>[(p,d)]
 | [],_=>rfl
 | x::r,h=>by
  have h':=adp.1 h;have ih:=Ca p h'.2
  have none_of:¬Lib.compareBytes x.1 p<0->r.filter (λf=>decide (f.1=p))=[]:=λhx=>by
   rw[ae3];intro y hy e;have e:y.1=p:=by simpa using e
   have h1:cv x y<0:=h'.1 y hy;unfold cv at h1;rw[e]at h1;exact hx h1
  unfold getF;by_cases hx:Lib.compareBytes x.1 p<0
  ·rw[if_pos hx,adj (by simpa using A5 hx)];exact ih
  ·rw[if_neg hx];by_cases he:x.1=p
   ·rw[if_pos he,adw (by simpa using he),none_of hx,<-he]
   ·rw[if_neg he,adj (by simpa using he),none_of hx]
theorem U4 {fs L:List Fi} (hp:L.Perm fs) (h:fi L) (p:Bs):fs.filter (λf=>decide (f.1=p))=match getF p L with
    | none=>[]
    | some d=>[(p,d)]:=by
 have h1:=hp.symm.filter (λf=>decide (f.1=p));rw[Ca p h]at h1
 cases hg:getF p L with
 | none=>rw[hg]at h1;exact h1.eq_nil
 | some d=>rw[hg]at h1;exact List.perm_singleton.1 h1
theorem get_mem {p d:Bs}:∀{L:List Fi},getF p L=some d->(p,d)∈L
 | [],h=>by simp[getF]at h
 | x::r,h=>by
  unfold getF at h;split at h;exact ada _ (get_mem h)
  ·split at h
   ·rename_i e;obtain rfl:=Option.some.inj h;rw[<-e];exact ac6 ..
   ·cases h
def aJ (t s:Bs):Bool:=decide (t.length<=s.length/\s.take t.length=t)
def bU (t:Bs) (L:List Fi):List Bs:=((L.drop (posF t L)).takeWhile (λf=>aJ t f.1)).map (·.1)
theorem GK {α:Type} {p:α->Bool} {x:α}:∀{l:List α},x∈l.takeWhile p->p x=true
 | [],h=>by simp at h
 | y::r,h=>by
  rw[aeC]at h;split at h
  ·rename_i hy;rcases adg.1 h with rfl | h;exact hy;exact GK h
  ·simp at h
theorem pA {t p:Bs} {L:List Fi} (h:p∈bU t L):aJ t p=true/\∃f∈L,f.1=p:=by
 unfold bU at h;obtain⟨f,hf,rfl⟩:=adN.1 h;exact⟨GK (p:=λf:Fi=>aJ t f.1) hf,f,afe ((afA _).subset hf),rfl⟩
theorem r9 {t s:Bs} (h:aJ t s=true):t.length<=s.length:=(of_decide_eq_true h).1
theorem mF (t:Bs) (L:List Fi):(bU t L).length<=L.length:=by
 unfold bU;rw[ac7];have:=(afA (l:=L.drop (posF t L)) (λf=>aJ t f.1)).length_le;rw[acU]at this;omega
theorem abt (p d:Bs):bU (p++[47]) [(p,d)]=[]:=by
 rw[List.eq_nil_iff_forall_not_mem];intro q hq;obtain⟨h1,f,hf,h2⟩:=pA hq;rw[ac8]at hf;subst hf;have:=r9 h1;rw[<-h2,acQ,acW]at this;simp only at this;omega
end Go.Proofs.YtoalcafkffmiiaaGreatDoor.Ls
