/- The proof, part 14 of 51. -/
import Derived.Test.YtgghhaahnpbnmaaGreatDoorCartularyWalksJ
import Derived.Lib.Bytealg
set_option linter.all false
namespace Go.Proofs.YtgghhaahnpbnmaaGreatDoor.Ls
open Eng
set_option maxRecDepth 10000
abbrev Bs:=List UInt8
theorem mG:∀a b:Bs,Lib.compareBytes b a =-Lib.compareBytes a b
 | [],[]=>rfl
 | [],_::_=>rfl
 | _::_,[]=>rfl
 | x::r,y::t=>by
  simp only[Lib.compareBytes];have ih:=mG r t;by_cases h1:x<y
  ·have h2:¬y<x:=by simp only[aes]at *;omega
   simp[h1,h2]
  ·by_cases h2:y<x
   ·simp[h1,h2]
   ·simp[h1,h2,ih]
theorem mH:∀{a b:Bs},Lib.compareBytes a b=0->a=b
 | [],[],_=>rfl
 | [],_::_,h=>by simp[Lib.compareBytes]at h
 | _::_,[],h=>by simp[Lib.compareBytes]at h
 | x::r,y::t,h=>by
  simp only[Lib.compareBytes]at h;split at h;omega
  ·split at h;omega
   ·rename_i h1 h2
    have:x=y:=by
     simp only[aes]at h1 h2;exact UInt8.toNat.inj acB
    rw[this,mH h]
theorem p4:∀a:Bs,Lib.compareBytes a a=0
 | []=>rfl
 | x::r=>by
  have:¬x<x:=by simp only[aes];omega
  simp[Lib.compareBytes,this,p4 r]
theorem sB:∀a b c:Bs,Lib.compareBytes a b<=0->Lib.compareBytes b c<=0->Lib.compareBytes a c<=0
 | [],_,[],_,_=>by simp[Lib.compareBytes]
 | [],_,_::_,_,_=>by simp[Lib.compareBytes]
 | _::_,[],_,h,_=>by simp[Lib.compareBytes]at h
 | _::_,_::_,[],_,h=>by simp[Lib.compareBytes]at h
 | x::r,y::t,z::u,h1,h2=>by
  simp only[Lib.compareBytes,aes]at h1 h2 |-;have ih:=sB r t u;split at h1
  ·split at h2
   ·rw[if_pos acB];omega
   ·split at h2;omega
    ·rw[if_pos acB];omega
  ·split at h1;omega
   ·split at h2
    ·rw[if_pos acB];omega
    ·split at h2;omega
     ·rw[if_neg acB,if_neg acB];exact ih h1 h2
theorem Bc {a b c:Bs} (h1:Lib.compareBytes a b<=0) (h2:Lib.compareBytes b c<0):Lib.compareBytes a c<0:=by
 have h:=sB a b c h1 acB;by_cases h0:Lib.compareBytes a c=0
 ·have e:=mH h0;subst e;have:=mG a b;omega
 omega
theorem KF {a b c:Bs} (h1:Lib.compareBytes a b<0) (h2:Lib.compareBytes b c<=0):Lib.compareBytes a c<0:=by
 have h:=sB a b c acB h2;by_cases h0:Lib.compareBytes a c=0
 ·have e:=mH h0;subst e;have:=mG a b;omega
 omega
abbrev Fi:=Bs×Bs
def eF (f:Fi):AV:=.agg [.str f.1,.str f.2]
def b5 (a b:Fi):Int:=Lib.compareBytes a.1 b.1
def eB (L:List Fi):Prop:=L.Pairwise (λa b=>b5 a b<=0)
def bc:Fi:=([],[])
def posF (t:Bs):List Fi->Nat
 | []=>0
 | x::r=>if Lib.compareBytes x.1 t<0 then posF t r+1 else 0
theorem uI (t:Bs):∀L:List Fi,posF t L<=L.length
 | []=>acG _
 | x::r=>by
  have:=uI t r;simp only[posF,acH];split<;>omega
theorem yC (t:Bs):∀{L:List Fi} {k:Nat},eB L->k<L.length->(Lib.compareBytes (L.getD k bc).1 t<0↔k<posF t L)
 | [],k,_,h=>absurd h (by simp)
 | x::r,0,_,_=>by
  simp only[posF,aeB]
  split<;>omega
 | x::r,k+1,hs,h=>by
  have h':k<r.length:=by simpa using h
  have hs':=aen.1 hs;have ih:=yC t hs'.2 h';simp only[posF,adP];split;omega
  ·rename_i hx;have hm:r.getD k bc∈r:=by rw[acC,List.getElem?_eq_getElem h'];exact adK h'
   have h1:b5 x (r.getD k bc)<=0:=hs'.1 _ hm;have:¬Lib.compareBytes (r.getD k bc).1 t<0:=λh2=>hx (Bc h1 h2);omega
theorem tk (L:List Fi):(flat (L.map eF)).length=2*L.length:=by
 induction L with
 | nil=>rfl
 | cons x r ih=>
  have:flat ((x::r).map eF)=[.str x.1,.str x.2]++flat (r.map eF):=rfl;rw[this,acD,ih];simp;omega
theorem xt:∀(L:List Fi) (j:Nat),j<2*L.length->(flat (L.map eF))[j]?=some (.str (if j%2=0 then(L.getD (j/2) bc).1 else(L.getD (j/2) bc).2))
 | [],j,h=>absurd h (by simp)
 | x::r,0,_=>rfl
 | x::r,1,_=>rfl
 | x::r,j+2,h=>by
  have e:flat ((x::r).map eF)=[.str x.1,.str x.2]++flat (r.map eF):=rfl;have h':j<2*r.length:=by simp at h;omega
  rw[e,show([AV.str x.1,AV.str x.2]++flat (r.map eF))[j+2]?=(flat (r.map eF))[j]? from rfl,xt r j h',show(j+2)/2=j/2+1 by omega,show(j+2)%2=j%2 by omega,adP]
def bK (L:List Fi):List AV:=L.map eF
theorem iX {L:List Fi} {i:Nat} (h:i<L.length):nth (bK L) i=.agg [.str (L.getD i bc).1,.str (L.getD i bc).2]:=by
 simp[nth,bK,eF,acC,h]
theorem cF (L:List Fi):(bK L).length=L.length:=by simp[bK]
theorem td {L:List Fi}:(bK L).all aD=true:=by simp[bK,eF,aD,cellsOf,isCell]
theorem N4 {L:List Fi}:(bK L).all flA=true:=by simp[bK,eF,flA,flC]
theorem N3 {L:List Fi} {f:Fi}:bK L++[.agg [.str f.1,.str f.2]]=bK (L++[f]):=by simp[bK,eF]
def aR (l:List Bs):List AV:=l.map AV.str
theorem bJ (l:List Bs):(aR l).length=l.length:=by simp[aR]
theorem hV {l:List Bs} {i:Nat} (h:i<l.length):nth (aR l) i=.str (l.getD i []):=by
 simp[nth,aR,acC,h]
theorem kl {l:List Bs}:(aR l).all aD=true:=by simp[aR,aD,cellsOf,isCell]
theorem vf {l:List Bs} {s:Bs}:aR l++[.str s]=aR (l++[s]):=by simp[aR]
theorem zh:aR []=[]:=(rfl)
open Eng
set_option maxRecDepth 10000
def iq (L:List Fi):Prop:=L.Pairwise (λa b=>b5 a b<0)
theorem iq.zc {L:List Fi} (h:iq L):eB L:=List.Pairwise.imp (λh=>by omega) h
def getF (p:Bs):List Fi->Option Bs
 | []=>none
 | x::r=>if Lib.compareBytes x.1 p<0 then getF p r else if x.1=p then some x.2 else none
theorem CR (p:Bs):∀L:List Fi,getF p L=if posF p L<L.length/\(L.getD (posF p L) bc).1=p then some (L.getD (posF p L) bc).2 else none
 | []=>by simp[getF]
 | x::r=>by
  have ih:=CR p r;unfold getF posF;split
  ·rw[ih,adP,acH];by_cases h:posF p r<r.length/\(r.getD (posF p r) bc).1=p
   ·rw[if_pos h,if_pos ⟨acB,h.2⟩]
   ·rw[if_neg h,if_neg (λh'=>h ⟨acB,h'.2⟩)]
  ·rw[aeB];by_cases h:x.1=p
   ·rw[if_pos h,if_pos ⟨by simp,h⟩]
   ·rw[if_neg h,if_neg (λh'=>h h'.2)]
theorem Bd {a b:Bs} (h:Lib.compareBytes a b<0):a≠b:=λe=>by subst e;rw[p4]at h;omega
theorem Cv (p:Bs):∀{L:List Fi},iq L->L.filter (λf=>decide (f.1=p))=match getF p L with
    | none=>[]
    | some d=>[(p,d)]
 | [],_=>rfl
 | x::r,h=>by
  have h':=aen.1 h;have ih:=Cv p h'.2
  have none_of:¬Lib.compareBytes x.1 p<0->r.filter (λf=>decide (f.1=p))=[]:=λhx=>by
   rw[List.filter_eq_nil_iff];intro y hy e;have e:y.1=p:=by simpa using e
   have h1:b5 x y<0:=h'.1 y hy;unfold b5 at h1;rw[e]at h1;exact hx h1
  unfold getF;by_cases hx:Lib.compareBytes x.1 p<0
  ·rw[if_pos hx,afc (by simpa using Bd hx)];exact ih
  ·rw[if_neg hx];by_cases he:x.1=p
   ·rw[if_pos he,List.filter_cons_of_pos (by simpa using he),none_of hx,<-he]
   ·rw[if_neg he,afc (by simpa using he),none_of hx]
theorem VY {fs L:List Fi} (hp:L.Perm fs) (h:iq L) (p:Bs):fs.filter (λf=>decide (f.1=p))=match getF p L with
    | none=>[]
    | some d=>[(p,d)]:=by
 have h1:=hp.symm.filter (λf=>decide (f.1=p));rw[Cv p h]at h1
 cases hg:getF p L with
 | none=>rw[hg]at h1;exact h1.eq_nil
 | some d=>rw[hg]at h1;exact List.perm_singleton.1 h1
theorem get_mem {p d:Bs}:∀{L:List Fi},getF p L=some d->(p,d)∈L
 | [],h=>by simp[getF]at h
 | x::r,h=>by
  unfold getF at h;split at h;exact acV _ (get_mem h)
  ·split at h
   ·rename_i e;obtain rfl:=Option.some.inj h;rw[<-e];exact acU ..
   ·cases h
def gV (t s:Bs):Bool:=decide (t.length<=s.length/\s.take t.length=t)
def fA (t:Bs) (L:List Fi):List Bs:=((L.drop (posF t L)).takeWhile (λf=>gV t f.1)).map (·.1)
theorem GK {α:Type} {p:α->Bool} {x:α}:∀{l:List α},x∈l.takeWhile p->p x=true
 | [],h=>by simp at h
 | y::r,h=>by
  rw[ae0]at h;split at h
  ·rename_i hy;rcases acW.1 h with rfl | h;exact hy;exact GK h
  ·simp at h
theorem zt {t p:Bs} {L:List Fi} (h:p∈fA t L):gV t p=true/\∃f∈L,f.1=p:=by
 unfold fA at h;obtain⟨f,hf,rfl⟩:=adu.1 h;exact⟨GK (p:=λf:Fi=>gV t f.1) hf,f,aeb ((afl _).subset hf),rfl⟩
theorem Ay {t s:Bs} (h:gV t s=true):t.length<=s.length:=(of_decide_eq_true h).1
theorem GR (t:Bs) (L:List Fi):(fA t L).length<=L.length:=by
 unfold fA;rw[acY];have:=(afl (l:=L.drop (posF t L)) (λf=>gV t f.1)).length_le;rw[acK]at this;omega
end Go.Proofs.YtgghhaahnpbnmaaGreatDoor.Ls
