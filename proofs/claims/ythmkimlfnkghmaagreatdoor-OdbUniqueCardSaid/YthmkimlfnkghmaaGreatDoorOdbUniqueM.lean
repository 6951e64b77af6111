/- The proof, part 13 of 32. -/
import Derived.Test.YthmkimlfnkghmaaGreatDoorOdbUniqueJ
import Derived.Lib.Bytealg
set_option linter.all false
namespace Go.Proofs.YthmkimlfnkghmaaGreatDoor.Ls
open Eng
set_option maxRecDepth 10000
abbrev Bs:=List UInt8
theorem cb_anti:∀a b:Bs,Lib.compareBytes b a =-Lib.compareBytes a b
 | [],[]=>rfl
 | [],_::_=>rfl
 | _::_,[]=>rfl
 | x::r,y::t=>by
  simp only[Lib.compareBytes]
  have ih:=cb_anti r t
  by_cases h1:x<y
  ·have h2:¬y<x:=by simp only[UInt8.lt_iff_toNat_lt]at *;omega
   simp[h1,h2]
  ·by_cases h2:y<x
   ·simp[h1,h2]
   ·simp[h1,h2,ih]
theorem cb_unit:∀a b:Bs,-1≤Lib.compareBytes a b∧Lib.compareBytes a b≤1
 | [],[]=>by simp[Lib.compareBytes]
 | [],_::_=>by simp[Lib.compareBytes]
 | _::_,[]=>by simp[Lib.compareBytes]
 | x::r,y::t=>by
  simp only[Lib.compareBytes]
  split
  ·omega
  ·split
   ·omega
   ·exact cb_unit r t
theorem cb_zero:∀{a b:Bs},Lib.compareBytes a b=0→a=b
 | [],[],_=>rfl
 | [],_::_,h=>by simp[Lib.compareBytes]at h
 | _::_,[],h=>by simp[Lib.compareBytes]at h
 | x::r,y::t,h=>by
  simp only[Lib.compareBytes]at h
  split at h
  ·omega
  ·split at h
   ·omega
   ·rename_i h1 h2
    have:x=y:=by
     simp only[UInt8.lt_iff_toNat_lt]at h1 h2
     exact UInt8.toNat.inj (by omega)
    rw[this,cb_zero h]
theorem cb_refl:∀a:Bs,Lib.compareBytes a a=0
 | []=>rfl
 | x::r=>by
  have:¬x<x:=by simp only[UInt8.lt_iff_toNat_lt];omega
  simp[Lib.compareBytes,this,cb_refl r]
theorem cb_trans:∀a b c:Bs,Lib.compareBytes a b≤0→Lib.compareBytes b c≤0→Lib.compareBytes a c≤0
 | [],_,[],_,_=>by simp[Lib.compareBytes]
 | [],_,_::_,_,_=>by simp[Lib.compareBytes]
 | _::_,[],_,h,_=>by simp[Lib.compareBytes]at h
 | _::_,_::_,[],_,h=>by simp[Lib.compareBytes]at h
 | x::r,y::t,z::u,h1,h2=>by
  simp only[Lib.compareBytes,UInt8.lt_iff_toNat_lt]at h1 h2 ⊢
  have ih:=cb_trans r t u
  split at h1
  ·split at h2
   ·rw[if_pos (by omega)];omega
   ·split at h2
    ·omega
    ·rw[if_pos (by omega)];omega
  ·split at h1
   ·omega
   ·split at h2
    ·rw[if_pos (by omega)];omega
    ·split at h2
     ·omega
     ·rw[if_neg (by omega),if_neg (by omega)]
      exact ih h1 h2
theorem cb_lt {a b c:Bs} (h1:Lib.compareBytes a b≤0) (h2:Lib.compareBytes b c<0):Lib.compareBytes a c<0:=by
 have h:=cb_trans a b c h1 (by omega)
 by_cases h0:Lib.compareBytes a c=0
 ·have e:=cb_zero h0
  subst e
  have:=cb_anti a b
  omega
 ·omega
theorem cb_lt' {a b c:Bs} (h1:Lib.compareBytes a b<0) (h2:Lib.compareBytes b c≤0):Lib.compareBytes a c<0:=by
 have h:=cb_trans a b c (by omega) h2
 by_cases h0:Lib.compareBytes a c=0
 ·have e:=cb_zero h0
  subst e
  have:=cb_anti a b
  omega
 ·omega
abbrev Fi:=Bs×Bs
def fileA (f:Fi):AV:=.agg [.str f.1,.str f.2]
def fcmp (a b:Fi):Int:=Lib.compareBytes a.1 b.1
def Srt (L:List Fi):Prop:=L.Pairwise (fun a b=>fcmp a b≤0)
def noF:Fi:=([],[])
def posF (t:Bs):List Fi→Nat
 | []=>0
 | x::r=>if Lib.compareBytes x.1 t<0 then posF t r+1 else 0
theorem pos_le (t:Bs):∀L:List Fi,posF t L≤L.length
 | []=>Nat.le_refl _
 | x::r=>by
  have:=pos_le t r
  simp only[posF,List.length_cons]
  split<;>omega
theorem pos_iff (t:Bs):∀{L:List Fi} {k:Nat},Srt L→k<L.length→(Lib.compareBytes (L.getD k noF).1 t<0↔k<posF t L)
 | [],k,_,h=>absurd h (by simp)
 | x::r,0,_,_=>by
  simp only[posF,List.getD_cons_zero]
  split<;>omega
 | x::r,k+1,hs,h=>by
  have h':k<r.length:=by simpa using h
  have hs':=List.pairwise_cons.1 hs
  have ih:=pos_iff t hs'.2 h'
  simp only[posF,List.getD_cons_succ]
  split
  ·omega
  ·rename_i hx
   have hm:r.getD k noF∈r:=by rw[List.getD_eq_getElem?_getD,List.getElem?_eq_getElem h'];exact List.getElem_mem h'
   have h1:fcmp x (r.getD k noF)≤0:=hs'.1 _ hm
   have:¬Lib.compareBytes (r.getD k noF).1 t<0:=fun h2=>hx (cb_lt h1 h2)
   omega
theorem flat_files (L:List Fi):(flat (L.map fileA)).length=2*L.length:=by
 induction L with
 | nil=>rfl
 | cons x r ih=>
  have:flat ((x::r).map fileA)=[.str x.1,.str x.2]++flat (r.map fileA):=rfl
  rw[this,List.length_append,ih];simp;omega
theorem flat_file:∀(L:List Fi) (j:Nat),j<2*L.length→(flat (L.map fileA))[j]?=some (.str (if j%2=0 then(L.getD (j/2) noF).1 else(L.getD (j/2) noF).2))
 | [],j,h=>absurd h (by simp)
 | x::r,0,_=>rfl
 | x::r,1,_=>rfl
 | x::r,j+2,h=>by
  have e:flat ((x::r).map fileA)=[.str x.1,.str x.2]++flat (r.map fileA):=rfl
  have h':j<2*r.length:=by simp at h;omega
  rw[e,show([AV.str x.1,AV.str x.2]++flat (r.map fileA))[j+2]?=(flat (r.map fileA))[j]? from rfl,flat_file r j h',show(j+2)/2=j/2+1 by omega,show(j+2)%2=j%2 by omega,List.getD_cons_succ]
def filesA (L:List Fi):List AV:=L.map fileA
theorem nth_files {L:List Fi} {i:Nat} (h:i<L.length):nth (filesA L) i=.agg [.str (L.getD i noF).1,.str (L.getD i noF).2]:=by
 simp[nth,filesA,fileA,List.getD_eq_getElem?_getD,h]
theorem filesA_len (L:List Fi):(filesA L).length=L.length:=by simp[filesA]
theorem filesA_cells {L:List Fi}:(filesA L).all cellsOK=true:=by simp[filesA,fileA,cellsOK,cellsOf,isCell]
theorem filesA_fl {L:List Fi}:(filesA L).all flA=true:=by simp[filesA,fileA,flA,flC]
theorem filesA_sub {L:List Fi} {o n:Nat}:sub3 (filesA L) o n=filesA ((L.drop o).take n):=by simp[filesA,sub3]
def strsA (l:List Bs):List AV:=l.map AV.str
theorem strs_len (l:List Bs):(strsA l).length=l.length:=by simp[strsA]
theorem nth_strs {l:List Bs} {i:Nat} (h:i<l.length):nth (strsA l) i=.str (l.getD i []):=by
 simp[nth,strsA,List.getD_eq_getElem?_getD,h]
theorem strs_cells {l:List Bs}:(strsA l).all cellsOK=true:=by simp[strsA,cellsOK,cellsOf,isCell]
theorem strs_fl {l:List Bs}:(strsA l).all flA=true:=by simp[strsA,flA,flC]
theorem strs_app {l:List Bs} {s:Bs}:strsA l++[.str s]=strsA (l++[s]):=by simp[strsA]
theorem strs_nil:strsA []=[]:=(rfl)
end Go.Proofs.YthmkimlfnkghmaaGreatDoor.Ls
namespace Go.Proofs.YthmkimlfnkghmaaGreatDoor.Ls
open Eng
set_option maxRecDepth 10000
def StrictF (L:List Fi):Prop:=L.Pairwise (fun a b=>fcmp a b<0)
theorem StrictF.srt {L:List Fi} (h:StrictF L):Srt L:=List.Pairwise.imp (fun h=>by omega) h
def getF (p:Bs):List Fi→Option Bs
 | []=>none
 | x::r=>if Lib.compareBytes x.1 p<0 then getF p r else if x.1=p then some x.2 else none
theorem get_pos (p:Bs):∀L:List Fi,getF p L=if posF p L<L.length∧(L.getD (posF p L) noF).1=p then some (L.getD (posF p L) noF).2 else none
 | []=>by simp[getF]
 | x::r=>by
  have ih:=get_pos p r
  unfold getF posF
  split
  ·rw[ih,List.getD_cons_succ,List.length_cons]
   by_cases h:posF p r<r.length∧(r.getD (posF p r) noF).1=p
   ·rw[if_pos h,if_pos ⟨by omega,h.2⟩]
   ·rw[if_neg h,if_neg (fun h'=>h ⟨by omega,h'.2⟩)]
  ·rw[List.getD_cons_zero]
   by_cases h:x.1=p
   ·rw[if_pos h,if_pos ⟨by simp,h⟩]
   ·rw[if_neg h,if_neg (fun h'=>h h'.2)]
theorem cb_ne {a b:Bs} (h:Lib.compareBytes a b<0):a≠b:=fun e=>by subst e;rw[cb_refl]at h;omega
theorem get_mem {p d:Bs}:∀{L:List Fi},getF p L=some d→(p,d)∈L
 | [],h=>by simp[getF]at h
 | x::r,h=>by
  unfold getF at h
  split at h
  ·exact List.mem_cons_of_mem _ (get_mem h)
  ·split at h
   ·rename_i e
    obtain rfl:=Option.some.inj h
    rw[←e];exact List.mem_cons_self ..
   ·cases h
def begB (t s:Bs):Bool:=decide (t.length≤s.length∧s.take t.length=t)
def underF (t:Bs) (L:List Fi):List Bs:=((L.drop (posF t L)).takeWhile (fun f=>begB t f.1)).map (·.1)
theorem tw_mem {α:Type} {p:α→Bool} {x:α}:∀{l:List α},x∈l.takeWhile p→p x=true
 | [],h=>by simp at h
 | y::r,h=>by
  rw[List.takeWhile_cons]at h
  split at h
  ·rename_i hy
   rcases List.mem_cons.1 h with rfl | h
   ·exact hy
   ·exact tw_mem h
  ·simp at h
theorem under_mem {t p:Bs} {L:List Fi} (h:p∈underF t L):begB t p=true∧∃f∈L,f.1=p:=by
 unfold underF at h
 obtain⟨f,hf,rfl⟩:=List.mem_map.1 h
 exact⟨tw_mem (p:=fun f:Fi=>begB t f.1) hf,f,List.mem_of_mem_drop ((List.takeWhile_sublist _).subset hf),rfl⟩
theorem beg_len {t s:Bs} (h:begB t s=true):t.length≤s.length:=(of_decide_eq_true h).1
theorem under_len (t:Bs) (L:List Fi):(underF t L).length≤L.length:=by
 unfold underF
 rw[List.length_map]
 have:=(List.takeWhile_sublist (l:=L.drop (posF t L)) (fun f=>begB t f.1)).length_le
 rw[List.length_drop]at this;omega
theorem under_one (p d:Bs):underF (p++[47]) [(p,d)]=[]:=by
 rw[List.eq_nil_iff_forall_not_mem]
 intro q hq
 obtain⟨h1,f,hf,h2⟩:=under_mem hq
 rw[List.mem_singleton]at hf
 subst hf
 have:=beg_len h1
 rw[←h2,List.length_append,List.length_singleton]at this
 simp only at this
 omega
end Go.Proofs.YthmkimlfnkghmaaGreatDoor.Ls
namespace Go.Proofs.YthmkimlfnkghmaaGreatDoor.Ls
open Eng
set_option maxRecDepth 10000
def StrictB (l:List Bs):Prop:=l.Pairwise (fun a b=>Lib.compareBytes a b<0)
theorem strict_ext:∀{a b:List Bs},StrictB a→StrictB b→(∀x,x∈a↔x∈b)→a=b
 | [],[],_,_,_=>rfl
 | [],y::b,_,_,h=>by have:=(h y).2 (List.mem_cons_self ..);simp at this
 | x::a,[],_,_,h=>by have:=(h x).1 (List.mem_cons_self ..);simp at this
 | x::a,y::b,ha,hb,h=>by
  have ha':=List.pairwise_cons.1 ha
  have hb':=List.pairwise_cons.1 hb
  have hxy:x=y:=by
   rcases List.mem_cons.1 ((h x).1 (List.mem_cons_self ..))with e | h1
   ·exact e
   ·rcases List.mem_cons.1 ((h y).2 (List.mem_cons_self ..))with e | h2
    ·exact e.symm
    ·have e1:=hb'.1 x h1
     have e2:=ha'.1 y h2
     have:=cb_anti x y
     omega
  subst hxy
  have hno:∀{l:List Bs},(∀z∈l,Lib.compareBytes x z<0)→x∉l:=fun h1 h2=>by
   have:=h1 x h2
   rw[cb_refl]at this
   omega
  rw[strict_ext ha'.2 hb'.2 (fun z=>by
   have hz:=h z
   rw[List.mem_cons,List.mem_cons]at hz
   constructor
   ·intro hm
    rcases hz.1 (.inr hm)with e | h1
    ·exact absurd (e▸hm) (hno ha'.1)
    ·exact h1
   ·intro hm
    rcases hz.2 (.inr hm)with e | h1
    ·exact absurd (e▸hm) (hno hb'.1)
    ·exact h1)]
theorem beg_cons (a b:UInt8) (t s:Bs):begB (a::t) (b::s)=(decide (a=b)&&begB t s):=by
 unfold begB
 by_cases h:a=b
 ·subst h
  simp
 ·have h':¬b=a:=fun e=>h e.symm
  simp[h,h']
theorem beg_nil (s:Bs):begB [] s=true:=by simp[begB]
theorem beg_no (a:UInt8) (t:Bs):begB (a::t) []=false:=by simp[begB]
theorem beg_ge:∀{t s:Bs},begB t s=true→Lib.compareBytes t s≤0
 | [],[],_=>by simp[Lib.compareBytes]
 | [],_::_,_=>by simp[Lib.compareBytes]
 | a::t,[],h=>by rw[beg_no]at h;cases h
 | a::t,b::s,h=>by
  rw[beg_cons,Bool.and_eq_true,decide_eq_true_eq]at h
  obtain⟨rfl,h⟩:=h
  have:=beg_ge h
  simpa[Lib.compareBytes,UInt8.lt_iff_toNat_lt]using this
theorem beg_between:∀{t y z:Bs},Lib.compareBytes t y≤0→Lib.compareBytes y z≤0→begB t z=true→begB t y=true
 | [],y,_,_,_,_=>beg_nil y
 | a::t,y,[],_,_,h=>by rw[beg_no]at h;cases h
 | a::t,[],z::zs,h,_,_=>by simp[Lib.compareBytes]at h
 | a::t,c::y,b::z,h1,h2,h3=>by
  rw[beg_cons,Bool.and_eq_true,decide_eq_true_eq]at h3
  obtain⟨rfl,h3⟩:=h3
  simp only[Lib.compareBytes,UInt8.lt_iff_toNat_lt]at h1 h2
  by_cases hc:a.toNat=c.toNat
  ·have hc:=UInt8.toNat.inj hc
   subst hc
   simp only[Nat.lt_irrefl,if_false]at h1 h2
   rw[beg_cons,decide_eq_true rfl,Bool.true_and]
   exact beg_between h1 h2 h3
  ·exfalso
   split at h1
   ·rename_i h
    rw[if_neg (by omega),if_pos h]at h2
    omega
   ·rw[if_pos (by omega)]at h1
    omega
end Go.Proofs.YthmkimlfnkghmaaGreatDoor.Ls
