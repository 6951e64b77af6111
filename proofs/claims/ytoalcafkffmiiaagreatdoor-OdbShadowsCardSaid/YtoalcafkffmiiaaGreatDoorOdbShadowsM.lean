/- The proof, part 13 of 43. -/
import Derived.Test.YtoalcafkffmiiaaGreatDoorOdbShadowsJ
import Derived.Lib.Bytealg
set_option linter.all false
namespace Go.Proofs.YtoalcafkffmiiaaGreatDoor.Ls
open Eng
set_option maxRecDepth 10000
abbrev Bs:=List UInt8
theorem fV:∀a b:Bs,Lib.compareBytes b a =-Lib.compareBytes a b
 | [],[]=>rfl
 | [],_::_=>rfl
 | _::_,[]=>rfl
 | x::r,y::t=>by
  simp only[Lib.compareBytes];have ih:=fV r t;by_cases h1:x<y
  ·have h2:¬y<x:=by simp only[aBL]at *;omega
   simp[h1,h2]
  ·by_cases h2:y<x
   ·simp[h1,h2]
   ·simp[h1,h2,ih]
theorem wZ:∀a b:Bs,-1<=Lib.compareBytes a b/\Lib.compareBytes a b<=1
 | [],[]=>by simp[Lib.compareBytes]
 | [],_::_=>by simp[Lib.compareBytes]
 | _::_,[]=>by simp[Lib.compareBytes]
 | x::r,y::t=>by
  simp only[Lib.compareBytes];split
  ·omega
  ·split
   ·omega
   ·exact wZ r t
theorem j9:∀{a b:Bs},Lib.compareBytes a b=0->a=b
 | [],[],_=>rfl
 | [],_::_,h=>by simp[Lib.compareBytes]at h
 | _::_,[],h=>by simp[Lib.compareBytes]at h
 | x::r,y::t,h=>by
  simp only[Lib.compareBytes]at h;split at h
  ·omega
  ·split at h
   ·omega
   ·rename_i h1 h2
    have:x=y:=by
     simp only[aBL]at h1 h2;exact UInt8.toNat.inj aA4
    rw[this,j9 h]
theorem k8:∀a:Bs,Lib.compareBytes a a=0
 | []=>rfl
 | x::r=>by
  have:¬x<x:=by simp only[aBL];omega
  simp[Lib.compareBytes,this,k8 r]
theorem j8:∀a b c:Bs,Lib.compareBytes a b<=0->Lib.compareBytes b c<=0->Lib.compareBytes a c<=0
 | [],_,[],_,_=>by simp[Lib.compareBytes]
 | [],_,_::_,_,_=>by simp[Lib.compareBytes]
 | _::_,[],_,h,_=>by simp[Lib.compareBytes]at h
 | _::_,_::_,[],_,h=>by simp[Lib.compareBytes]at h
 | x::r,y::t,z::u,h1,h2=>by
  simp only[Lib.compareBytes,aBL]at h1 h2 |-;have ih:=j8 r t u;split at h1
  ·split at h2
   ·rw[if_pos aA4];omega
   ·split at h2
    ·omega
    ·rw[if_pos aA4];omega
  ·split at h1
   ·omega
   ·split at h2
    ·rw[if_pos aA4];omega
    ·split at h2
     ·omega
     ·rw[if_neg aA4,if_neg aA4];exact ih h1 h2
theorem o0 {a b c:Bs} (h1:Lib.compareBytes a b<=0) (h2:Lib.compareBytes b c<0):Lib.compareBytes a c<0:=by
 have h:=j8 a b c h1 aA4;by_cases h0:Lib.compareBytes a c=0
 ·have e:=j9 h0;subst e;have:=fV a b;omega
 ·omega
theorem wX {a b c:Bs} (h1:Lib.compareBytes a b<0) (h2:Lib.compareBytes b c<=0):Lib.compareBytes a c<0:=by
 have h:=j8 a b c aA4 h2;by_cases h0:Lib.compareBytes a c=0
 ·have e:=j9 h0;subst e;have:=fV a b;omega
 ·omega
abbrev Fi:=Bs×Bs
def dw (f:Fi):AV:=.agg [.str f.1,.str f.2]
def cg (a b:Fi):Int:=Lib.compareBytes a.1 b.1
def eQ (L:List Fi):Prop:=L.Pairwise (λa b=>cg a b<=0)
def aX:Fi:=([],[])
def posF (t:Bs):List Fi->Nat
 | []=>0
 | x::r=>if Lib.compareBytes x.1 t<0 then posF t r+1 else 0
theorem nL (t:Bs):∀L:List Fi,posF t L<=L.length
 | []=>aA9 _
 | x::r=>by
  have:=nL t r;simp only[posF,aBr];split<;>omega
theorem tY (t:Bs):∀{L:List Fi} {k:Nat},eQ L->k<L.length->(Lib.compareBytes (L.getD k aX).1 t<0↔k<posF t L)
 | [],k,_,h=>absurd h (by simp)
 | x::r,0,_,_=>by
  simp only[posF,aCq]
  split<;>omega
 | x::r,k+1,hs,h=>by
  have h':k<r.length:=by simpa using h
  have hs':=aBw.1 hs;have ih:=tY t hs'.2 h';simp only[posF,aCz];split
  ·omega
  ·rename_i hx;have hm:r.getD k aX∈r:=by rw[aA5,List.getElem?_eq_getElem h'];exact aBJ h'
   have h1:cg x (r.getD k aX)<=0:=hs'.1 _ hm;have:¬Lib.compareBytes (r.getD k aX).1 t<0:=λh2=>hx (o0 h1 h2);omega
theorem pJ (L:List Fi):(flat (L.map dw)).length=2*L.length:=by
 induction L with
 | nil=>rfl
 | cons x r ih=>
  have:flat ((x::r).map dw)=[.str x.1,.str x.2]++flat (r.map dw):=rfl;rw[this,aA8,ih];simp;omega
theorem sU:∀(L:List Fi) (j:Nat),j<2*L.length->(flat (L.map dw))[j]?=some (.str (if j%2=0 then(L.getD (j/2) aX).1 else(L.getD (j/2) aX).2))
 | [],j,h=>absurd h (by simp)
 | x::r,0,_=>rfl
 | x::r,1,_=>rfl
 | x::r,j+2,h=>by
  have e:flat ((x::r).map dw)=[.str x.1,.str x.2]++flat (r.map dw):=rfl;have h':j<2*r.length:=by simp at h;omega
  rw[e,show([AV.str x.1,AV.str x.2]++flat (r.map dw))[j+2]?=(flat (r.map dw))[j]? from rfl,sU r j h',show(j+2)/2=j/2+1 by omega,show(j+2)%2=j%2 by omega,aCz]
def bm (L:List Fi):List AV:=L.map dw
theorem fS {L:List Fi} {i:Nat} (h:i<L.length):nth (bm L) i=.agg [.str (L.getD i aX).1,.str (L.getD i aX).2]:=by
 simp[nth,bm,dw,aA5,h]
theorem bR (L:List Fi):(bm L).length=L.length:=by simp[bm]
theorem kg {L:List Fi}:(bm L).all a6=true:=by simp[bm,dw,a6,cellsOf,isCell]
theorem pF {L:List Fi}:(bm L).all flA=true:=by simp[bm,dw,flA,flC]
theorem M5 {L:List Fi} {f:Fi}:bm L++[.agg [.str f.1,.str f.2]]=bm (L++[f]):=by simp[bm,dw]
theorem M6 {L:List Fi} {o n:Nat}:aI (bm L) o n=bm ((L.drop o).take n):=by simp[bm,aI]
def aV (l:List Bs):List AV:=l.map AV.str
theorem b5 (l:List Bs):(aV l).length=l.length:=by simp[aV]
theorem qt {l:List Bs} {i:Nat} (h:i<l.length):nth (aV l) i=.str (l.getD i []):=by
 simp[nth,aV,aA5,h]
theorem iB {l:List Bs}:(aV l).all a6=true:=by simp[aV,a6,cellsOf,isCell]
theorem awp {l:List Bs}:(aV l).all flA=true:=by simp[aV,flA,flC]
theorem rb {l:List Bs} {s:Bs}:aV l++[.str s]=aV (l++[s]):=by simp[aV]
theorem rf:aV []=[]:=(rfl)
open Eng
set_option maxRecDepth 10000
def dG (L:List Fi):Prop:=L.Pairwise (λa b=>cg a b<0)
theorem dG.srt {L:List Fi} (h:dG L):eQ L:=List.Pairwise.imp (λh=>by omega) h
def getF (p:Bs):List Fi->Option Bs
 | []=>none
 | x::r=>if Lib.compareBytes x.1 p<0 then getF p r else if x.1=p then some x.2 else none
theorem yJ (p:Bs):∀L:List Fi,getF p L=if posF p L<L.length/\(L.getD (posF p L) aX).1=p then some (L.getD (posF p L) aX).2 else none
 | []=>by simp[getF]
 | x::r=>by
  have ih:=yJ p r;unfold getF posF;split
  ·rw[ih,aCz,aBr];by_cases h:posF p r<r.length/\(r.getD (posF p r) aX).1=p
   ·rw[if_pos h,if_pos ⟨aA4,h.2⟩]
   ·rw[if_neg h,if_neg (λh'=>h ⟨aA4,h'.2⟩)]
  ·rw[aCq];by_cases h:x.1=p
   ·rw[if_pos h,if_pos ⟨by simp,h⟩]
   ·rw[if_neg h,if_neg (λh'=>h h'.2)]
theorem wY {a b:Bs} (h:Lib.compareBytes a b<0):a≠b:=λe=>by subst e;rw[k8]at h;omega
theorem yf (p:Bs):∀{L:List Fi},dG L->L.filter (λf=>decide (f.1=p))=match getF p L with
    | none=>[]
    | some d=>[(p,d)]
 | [],_=>rfl
 | x::r,h=>by
  have h':=aBw.1 h;have ih:=yf p h'.2
  have none_of:¬Lib.compareBytes x.1 p<0->r.filter (λf=>decide (f.1=p))=[]:=λhx=>by
   rw[aC3];intro y hy e;have e:y.1=p:=by simpa using e
   have h1:cg x y<0:=h'.1 y hy;unfold cg at h1;rw[e]at h1;exact hx h1
  unfold getF;by_cases hx:Lib.compareBytes x.1 p<0
  ·rw[if_pos hx,aBx (by simpa using wY hx)];exact ih
  ·rw[if_neg hx];by_cases he:x.1=p
   ·rw[if_pos he,aBT (by simpa using he),none_of hx,<-he]
   ·rw[if_neg he,aBx (by simpa using he),none_of hx]
theorem aeY {fs L:List Fi} (hp:L.Perm fs) (h:dG L) (p:Bs):fs.filter (λf=>decide (f.1=p))=match getF p L with
    | none=>[]
    | some d=>[(p,d)]:=by
 have h1:=hp.symm.filter (λf=>decide (f.1=p));rw[yf p h]at h1
 cases hg:getF p L with
 | none=>rw[hg]at h1;exact h1.eq_nil
 | some d=>rw[hg]at h1;exact List.perm_singleton.1 h1
theorem get_mem {p d:Bs}:∀{L:List Fi},getF p L=some d->(p,d)∈L
 | [],h=>by simp[getF]at h
 | x::r,h=>by
  unfold getF at h;split at h
  ·exact aBu _ (get_mem h)
  ·split at h
   ·rename_i e;obtain rfl:=Option.some.inj h;rw[<-e];exact aBn ..
   ·cases h
def a7 (t s:Bs):Bool:=decide (t.length<=s.length/\s.take t.length=t)
def bL (t:Bs) (L:List Fi):List Bs:=((L.drop (posF t L)).takeWhile (λf=>a7 t f.1)).map (·.1)
theorem D6 {α:Type} {p:α->Bool} {x:α}:∀{l:List α},x∈l.takeWhile p->p x=true
 | [],h=>by simp at h
 | y::r,h=>by
  rw[aCA]at h;split at h
  ·rename_i hy;rcases aBo.1 h with rfl | h
   ·exact hy
   ·exact D6 h
  ·simp at h
theorem rp {t p:Bs} {L:List Fi} (h:p∈bL t L):a7 t p=true/\∃f∈L,f.1=p:=by
 unfold bL at h;obtain⟨f,hf,rfl⟩:=aBH.1 h;exact⟨D6 (p:=λf:Fi=>a7 t f.1) hf,f,aDd ((aDw _).subset hf),rfl⟩
theorem r4 {t s:Bs} (h:a7 t s=true):t.length<=s.length:=(of_decide_eq_true h).1
theorem lM (t:Bs) (L:List Fi):(bL t L).length<=L.length:=by
 unfold bL;rw[aBp];have:=(aDw (l:=L.drop (posF t L)) (λf=>a7 t f.1)).length_le;rw[aBb]at this;omega
theorem axv (p d:Bs):bL (p++[47]) [(p,d)]=[]:=by
 rw[List.eq_nil_iff_forall_not_mem];intro q hq;obtain⟨h1,f,hf,h2⟩:=rp hq;rw[aBs]at hf;subst hf;have:=r4 h1;rw[<-h2,aA8,aBk]at this;simp only at this;omega
end Go.Proofs.YtoalcafkffmiiaaGreatDoor.Ls
