/- The proof, part 15 of 25. -/
import Derived.Test.YtjoefngnjoofeaaGreatDoorPackBuildsM
import Derived.Test.YtjoefngnjoofeaaGreatDoorPackBuildsN
import Derived.Test.YtjoefngnjoofeaaGreatDoorProg
import Derived.KernelRfl
set_option linter.all false
namespace Go.Proofs.YtjoefngnjoofeaaGreatDoor.Pk
open Eng
set_option maxRecDepth 10000
def RD:Nat:=40014
attribute [go_sem] RD
def a8 (s:Bs) (a hv fr:Nat):List AV:=[.str s,.int .i64 a,.int .u64 (numAt s (8*a-hv) hv:Nat),.int .i64 hv,.int .i64 fr]
theorem cG {p:Prop} (h:p:=by simp(disch:=first | omega | (simp only[Lx];omega))only[go_sem,simprocAttr,a8]):p:=h
theorem iX {a b:Prop} (k:b) (h:b→a:=by intro h;simp(disch:=first | omega | (simp only[Lx];omega))only[go_sem,simprocAttr,a8];exact h):a:=h k
theorem aAu {E0:Prop} {a b:Prop} (e0:E0) (k:b) (h:E0→b→a:=by intro e0 h;simp(disch:=first | omega | (simp only[Lx];omega))only[go_sem,simprocAttr,a8,e0];exact h):a:=h e0 k
theorem uV {E0 E1:Prop} {a b:Prop} (e0:E0) (e1:E1) (k:b) (h:E0→E1→b→a:=by intro e0 e1 h;simp(disch:=first | omega | (simp only[Lx];omega))only[go_sem,simprocAttr,a8,e0,e1];exact h):a:=h e0 e1 k
theorem aAv {E0 E1 E2:Prop} {a b:Prop} (e0:E0) (e1:E1) (e2:E2) (k:b) (h:E0→E1→E2→b→a:=by intro e0 e1 e2 h;simp(disch:=first | omega | (simp only[Lx];omega))only[go_sem,simprocAttr,a8,e0,e1,e2];exact h):a:=h e0 e1 e2 k
structure bL (s:Bs) (a hv p:Nat):Prop where
 h1:hv≤39
 h2:a≤s.length
 h3:p+hv=8*a
theorem tH {x k b:Nat} (hx:x<2^k) (hk:k≤56) (hb:b<256):bits .or .u64 (x:Int) (IntKind.u64.wrap ((b:Int)*2^min k 64))=((x+b*2^k:Nat):Int):=by
 have hp:2^k≤2^56:=Nat.pow_le_pow_right (by decide) hk
 have h2:b*2^k<2^64:=Nat.lt_of_le_of_lt (Nat.mul_le_mul (show b≤255 by omega) hp) (by decide)
 have h3:x+b*2^k<2^64:=by
  have:(b+1)*2^k≤256*2^56:=Nat.mul_le_mul (by omega) hp
  rw[Nat.add_mul]at this
  omega
 have e:IntKind.u64.wrap ((b:Int)*2^min k 64)=((b*2^k:Nat):Int):=by
  rw[Nat.min_eq_left (by omega),show((b:Int)*2^k)=((b*2^k:Nat):Int)by push_cast;rfl]
  exact wrap_u64 (by omega)
 rw[e]
 show IntKind.u64.wrap ((BitVec.ofInt 64 (x:Int) ||| BitVec.ofInt 64 ((b*2^k:Nat):Int)).toNat:Int)=_
 rw[BitVec.ofInt_natCast,BitVec.ofInt_natCast,BitVec.toNat_or,BitVec.toNat_ofNat,BitVec.toNat_ofNat,Nat.mod_eq_of_lt (by omega),Nat.mod_eq_of_lt h2,Nat.or_comm,←Nat.shiftLeft_eq,←Nat.shiftLeft_add_eq_or_of_lt hx,Nat.shiftLeft_eq,Nat.add_comm]
 exact wrap_u64 (by omega)
theorem xI (s:Bs) (a hv fr p n:Nat) (hs:s.length≤1000000000000) (h:bL s a hv p) (hn:n≤32):Eng.Spec Tryz.prog 128 [(RD,.var (a8 s a hv fr))] [.ab RD 0,.int .i64 n]
    (fun h' v ar=>∃a' hv',bL s a' hv' p∧(n≤hv'∨a'=s.length)∧h'=[(RD,.var (a8 s a' hv' fr))]∧v=.ak []∧ar=[.ab RD 0,.int .i64 n]):=by
 refine Cod.Nj (fun E R hN hR=>?_)
 refine wW ?_
 refine aK hN (fun q:Nat×Nat=>⟨[(0,.ab RD 0),(1,.int .i64 n),(2000000,.ab RD 0),(2000001,.int .i64 n)],[(RD,.var (a8 s q.1 q.2 fr))]⟩) (fun q=>bL s q.1 q.2 p) (fun q=>s.length-q.1) (a,hv) (.le cG) h ?_
 rintro⟨a,hv⟩ R1 ⟨h1,h2,h3⟩ hR1
 simp only at h1 h2 h3
 by_cases hlt:hv<n
 ·by_cases hat:a<s.length
  ·have hb:=(s.getD a 0).toNat_lt
   have ho:=tH (fX s (8*a-hv) hv) (show hv≤56 by omega) (b:=(s.getD a 0).toNat) (by omega)
   have hf:=abF s a hv (by omega)
   rw[←hf]at ho
   refine iX ?_
   refine gG ?_
   rw[ho]
   exact hR1 (a+1,hv+8) _ (by simp only;omega) ⟨by simp only;omega,by simp only;omega,by simp only;omega⟩ (.le (by simp(disch:=omega)only[go_sem,simprocAttr,a8,show 8*(a+1)-(hv+8)=8*a-hv by omega]))
  ·refine iX ?_
   refine gG ?_
   exact hR.le cG ⟨a,hv,⟨h1,h2,h3⟩,.inr (by omega),rfl,rfl,rfl⟩
 ·refine iX ?_
  refine gG ?_
  exact hR.le cG ⟨a,hv,⟨h1,h2,h3⟩,.inl (by omega),rfl,rfl,rfl⟩
theorem vq (x n:Nat) (hx:x<2^64) (hn:n≤32):bits .and .u64 (x:Int) (IntKind.u64.wrap (IntKind.u64.wrap (1*2^min n 64)-1))=((x%2^n:Nat):Int):=by
 have hp:2^n≤2^32:=Nat.pow_le_pow_right (by decide) hn
 have hp1:0<2^n:=Nat.pow_pos (by decide)
 have e:IntKind.u64.wrap (IntKind.u64.wrap (1*2^min n 64)-1)=((2^n-1:Nat):Int):=by
  have e1:IntKind.u64.wrap (1*2^n)=((2^n:Nat):Int):=by
   rw[show((1:Int)*2^n)=((2^n:Nat):Int)by rw[Int.one_mul];push_cast;rfl]
   exact wrap_u64 (by omega)
  rw[Nat.min_eq_left (by omega),e1,show(((2^n:Nat):Int)-1)=((2^n-1:Nat):Int)by omega]
  exact wrap_u64 (by omega)
 rw[e]
 show IntKind.u64.wrap ((BitVec.ofInt 64 (x:Int) &&& BitVec.ofInt 64 ((2^n-1:Nat):Int)).toNat:Int)=_
 rw[BitVec.ofInt_natCast,BitVec.ofInt_natCast,BitVec.toNat_and,BitVec.toNat_ofNat,BitVec.toNat_ofNat,Nat.mod_eq_of_lt hx,Nat.mod_eq_of_lt (by omega),Nat.and_two_pow_sub_one_eq_mod]
 have:=Nat.mod_lt x hp1
 exact wrap_u64 (by omega)
def dD (s:Bs) (p:Nat):Nat:=8*s.length-p
theorem afu (s:Bs) (a hv fr p n:Nat) (hs:s.length≤1000000000000) (h:bL s a hv p) (hn:n≤32):Eng.Spec Tryz.prog 119 [(RD,.var (a8 s a hv fr))] [.ab RD 0,.int .i64 n]
    (fun h' v ar=>∃a' hv',bL s a' hv' p∧(n≤hv'∨a'=s.length)∧h'=[(RD,.var (a8 s a' hv' fr))]∧v=.ak [.int .u32 (numAt s p (min n hv'):Nat),.int .i64 (min n hv':Nat)]∧ar=[.ab RD 0,.int .i64 n]):=by
 refine Cod.afv (fun E R hN hR=>?_)
 refine wW ?_
 refine gG ?_
 refine aI [(RD,.var (a8 s a hv fr))] (xI s a hv fr p n hs h hn) vV nofun ?_
 rintro h' v ar ⟨a',hv',⟨h1,h2,h3⟩,hor,rfl,rfl,rfl⟩
 refine⟨cG,rfl,?_⟩
 have hx:=fX s p hv'
 have hx2:numAt s p hv'<2^64:=Nat.lt_of_lt_of_le hx (Nat.pow_le_pow_right (by decide) (by omega))
 have ha:=vq (numAt s p hv') n hx2 hn
 have e1:numAt s p hv'%2^n=numAt s p (min n hv'):=by
  by_cases hh:n≤hv'
  ·rw[Nat.min_eq_left hh,lp s p hh]
  ·rw[Nat.min_eq_right (by omega),Nat.mod_eq_of_lt (Nat.lt_of_lt_of_le hx (Nat.pow_le_pow_right (by decide) (by omega)))]
 rw[e1]at ha
 have hx3:numAt s p (min n hv')<2^32:=Nat.lt_of_lt_of_le (fX s p _) (Nat.pow_le_pow_right (by decide) (by omega))
 have ew:IntKind.u32.wrap ((numAt s p (min n hv'):Nat):Int)=(numAt s p (min n hv'):Nat):=wrap_u32 (by omega)
 have em:min (n:Int) (hv':Int)=((min n hv':Nat):Int):=by omega
 simp(disch:=omega)only[go_sem,simprocAttr,a8,show 8*a'-hv'=p by omega,ha,ew,em]
 exact hR.le (by simp(disch:=omega)only[go_sem,simprocAttr,a8,show 8*a'-hv'=p by omega]) ⟨a',hv',⟨h1,h2,h3⟩,hor,rfl,rfl,rfl⟩
theorem axH (s:Bs) (a hv fr p n:Nat) (hs:s.length≤1000000000000) (h:bL s a hv p) (hn:n≤32):Eng.Spec Tryz.prog 120 [(RD,.var (a8 s a hv fr))] [.ab RD 0,.int .i64 n]
    (fun h' v ar=>∃a' hv',bL s a' hv' (if n≤dD s p then p+n else p)∧h'=[(RD,.var (a8 s a' hv' fr))]∧v=.bool (decide (n≤dD s p))∧ar=[.ab RD 0,.int .i64 n]):=by
 refine Cod.axI (fun E R hN hR=>?_)
 refine wW ?_
 refine gG ?_
 refine aI [(RD,.var (a8 s a hv fr))] (xI s a hv fr p n hs h hn) vV nofun ?_
 rintro h' v ar ⟨a',hv',⟨h1,h2,h3⟩,hor,rfl,rfl,rfl⟩
 refine⟨cG,rfl,?_⟩
 by_cases hlt:hv'<n
 ·have hno:¬n≤dD s p:=by unfold dD;rcases hor with ho | ho<;>omega
  refine iX ?_
  exact hR.le cG ⟨a',hv',by rw[if_neg hno];exact⟨h1,h2,h3⟩,rfl,by rw[decide_eq_false hno],rfl⟩
 ·have hyes:n≤dD s p:=by unfold dD;omega
  have hd:((numAt s p hv':Nat):Int).fdiv (2^min n 64)=((numAt s (p+n) (hv'-n):Nat):Int):=by
   rw[Nat.min_eq_left (by omega),←lj s p (show n≤hv' by omega),Int.fdiv_eq_ediv_of_nonneg _ (Int.pow_nonneg (by decide)),Int.natCast_ediv,Int.natCast_pow];rfl
  simp(disch:=omega)only[go_sem,simprocAttr,a8,show 8*a'-hv'=p by omega,hd]
  refine hR.le ?_ ⟨a',hv'-n,by rw[if_pos hyes];exact⟨by omega,h2,by omega⟩,rfl,by rw[decide_eq_true hyes],rfl⟩
  rw[show((hv':Int)-(n:Int))=((hv'-n:Nat):Int)by omega]
  simp(disch:=omega)only[go_sem,simprocAttr,a8,show 8*a'-(hv'-n)=p+n by omega]
theorem qu (s:Bs) (a hv fr p n:Nat) (hs:s.length≤1000000000000) (h:bL s a hv p) (hn:n≤32):Eng.Spec Tryz.prog 103 [(RD,.var (a8 s a hv fr))] [.ab RD 0,.int .i64 n]
    (fun h' v ar=>∃a' hv',bL s a' hv' (if n≤dD s p then p+n else p)∧h'=[(RD,.var (a8 s a' hv' fr))]∧v=.ak [.int .u32 (if n≤dD s p then numAt s p n else 0:Nat),.bool (decide (n≤dD s p))]∧ar=[.ab RD 0,.int .i64 n]):=by
 refine Cod.aqV (fun E R hN hR=>?_)
 refine wW ?_
 refine aI [(RD,.var (a8 s a hv fr))] (afu s a hv fr p n hs h hn) vV nofun ?_
 rintro h' v ar ⟨a',hv',h1,hor,rfl,rfl,rfl⟩
 refine⟨cG,rfl,?_⟩
 refine wW ?_
 refine aI [(RD,.var (a8 s a' hv' fr))] (axH s a' hv' fr p n hs h1 hn) vV nofun ?_
 rintro h' v ar ⟨a2,hv2,h2,rfl,rfl,rfl⟩
 refine⟨cG,rfl,?_⟩
 by_cases hyes:n≤dD s p
 ·have hm:min n hv'=n:=by
   have:=h1.h3;have:=h1.h2
   unfold dD at hyes
   rcases hor with ho | ho<;>omega
  refine bm hyes hm ?_
  exact hR.le vV ⟨a2,hv2,h2,rfl,by rw[if_pos hyes,decide_eq_true hyes],rfl⟩
 ·refine aw hyes ?_
  exact hR.le vV ⟨a2,hv2,h2,rfl,by rw[if_neg hyes,decide_eq_false hyes];rfl,rfl⟩
def cS (p:Nat):Nat:=(p+7)/8*8
theorem DE {a hv p:Nat} (h:p+hv=8*a):cS p=8*(a-hv/8):=by unfold cS;omega
theorem apV (s:Bs) (a hv fr p:Nat) (hs:s.length≤1000000000000) (h:bL s a hv p):Eng.Spec Tryz.prog 129 [(RD,.var (a8 s a hv fr))] [.ab RD 0]
    (fun h' v ar=>∃hv',bL s a hv' (cS p)∧hv'=8*(hv/8)∧h'=[(RD,.var (a8 s a hv' fr))]∧v=.ak []∧ar=[.ab RD 0]):=by
 refine Cod.apW (fun E R hN hR=>?_)
 obtain⟨h1,h2,h3⟩:=h
 have hp:8*a-hv=p:=by omega
 have em:(hv:Int).tmod 8=((hv%8:Nat):Int):=by rw[fQ (by omega)];omega
 have hd:((numAt s p hv:Nat):Int).fdiv (2^min (hv%8) 64)=((numAt s (p+hv%8) (hv-hv%8):Nat):Int):=by
  rw[Nat.min_eq_left (by omega),←lj s p (show hv%8≤hv by omega),Int.fdiv_eq_ediv_of_nonneg _ (Int.pow_nonneg (by decide)),Int.natCast_ediv,Int.natCast_pow];rfl
 refine aAv em hp hd ?_
 refine hR.le ?_ ⟨8*(hv/8),⟨by omega,h2,by unfold cS;omega⟩,rfl,rfl,rfl,rfl⟩
 rw[show((hv:Int)-((hv%8:Nat):Int))=((8*(hv/8):Nat):Int)by omega,show hv-hv%8=8*(hv/8)by omega]
 simp(disch:=omega)only[go_sem,simprocAttr,a8,show 8*a-8*(hv/8)=p+hv%8 by omega]
theorem tZ (s:Bs) (a hv fr p:Nat) (n:Nat) (hs:s.length≤1000000000000) (hn:n≤1000000000000) (h:bL s a hv p):Eng.Spec Tryz.prog 121 [(RD,.var (a8 s a hv fr))] [.ab RD 0,.int .i64 n]
    (fun h' v ar=>∃a' hv',bL s a' hv' (if n≤s.length-cS p/8 then cS p+8*n else cS p)∧(n≤s.length-cS p/8→hv'=0)∧h'=[(RD,.var (a8 s a' hv' fr))] ∧
     v=.ak [.str (if n≤s.length-cS p/8 then(s.drop (cS p/8)).take n else[]),.bool (decide (n≤s.length-cS p/8))]∧ar=[.ab RD 0,.int .i64 n]):=by
 refine Cod.aq5 (fun E R hN hR=>?_)
 refine wW ?_
 refine aI [(RD,.var (a8 s a hv fr))] (apV s a hv fr p hs h) vV nofun ?_
 rintro h' v ar ⟨hv',⟨h1,h2,h3⟩,rfl,rfl,rfl,rfl⟩
 refine⟨cG,rfl,?_⟩
 have hub:cS p/8=a-hv/8:=by rw[DE h.h3];omega
 have hle:=h.h3
 have eq:(((8*(hv/8):Nat):Int)).tdiv 8=((hv/8:Nat):Int):=by rw[jV (by omega)];omega
 have ef:((a:Int)-((hv/8:Nat):Int))=((a-hv/8:Nat):Int):=by omega
 rw[hub]at hR
 generalize hf:a-hv/8=f at *
 have hfl:f≤s.length:=by omega
 by_cases hyes:n≤s.length-f
 ·have e1:((f:Int)+(n:Int)-(f:Int)).toNat=n:=by omega
  have e2:f+n-f=n:=by omega
  refine uV eq ef ?_
  refine gG ?_
  refine aw e2 ?_
  exact hR.le (by simp(disch:=omega)only[go_sem,simprocAttr,a8,numAt]) ⟨f+n,0,by rw[if_pos hyes];exact⟨by omega,by omega,by rw[DE h.h3,hf];omega⟩,fun _=>rfl,rfl,by rw[if_pos hyes,decide_eq_true hyes],rfl⟩
 ·refine uV eq ef ?_
  refine gG ?_
  exact hR.le cG ⟨a,8*(hv/8),by rw[if_neg hyes];exact⟨h1,h2,h3⟩,fun hh=>absurd hh hyes,rfl,by rw[if_neg hyes,decide_eq_false hyes],rfl⟩
open Eng
set_option maxRecDepth 10000
def an (xs:List Nat):List AV:=xs.map fun n:Nat=>AV.int .i64 n
theorem bU (xs:List Nat):(an xs).length=xs.length:=by simp[an]
theorem dQ {xs:List Nat} {i:Nat} (h:i<xs.length):nth (an xs) i=.int .i64 (xs.getD i 0:Nat):=by
 simp[nth,an,List.getD_eq_getElem?_getD,h]
theorem eG {xs:List Nat}:(an xs).all bb=true:=by simp[an,bb,cellsOf,isCell]
theorem eF {xs:List Nat} {n:Nat}:an xs++[.int .i64 (n:Int)]=an (xs++[n]):=by simp[an]
theorem eV {xs:List Nat} {o n:Nat}:aM (an xs) o n=an ((xs.drop o).take n):=by simp[an,aM]
theorem gZ:an []=[]:=(rfl)
def dA (l:List Nat):List AV:=(List.range 16).map fun n=>AV.int .i64 (bj l n:Nat)
theorem jC (l:List Nat):(dA l).length=16:=by simp[dA]
theorem kM (l:List Nat) {n:Nat} (h:n<16):(dA l).getD n .undef=.int .i64 (bj l n:Nat):=by
 unfold dA
 rw[List.getD_eq_getElem?_getD,List.getElem?_map,List.getElem?_range h];rfl
theorem I6 (l:List Nat) {x:Nat} (h:x<16):(dA l).set x (.int .i64 ((bj l x:Int)+1))=dA (l++[x]):=by
 apply List.ext_getElem?
 intro j
 rw[List.getElem?_set,jC]
 unfold dA
 rw[List.getElem?_map,List.getElem?_map]
 by_cases hx:x=j
 ·subst hx
  rw[if_pos rfl,if_pos h,List.getElem?_range h]
  simp only[Option.map_some,jB,if_true]
  rfl
 ·rw[if_neg hx]
  by_cases hj:j<16
  ·rw[List.getElem?_range hj]
   simp only[Option.map_some,jB,if_neg hx,Nat.add_zero]
  ·rw[List.getElem?_eq_none (by simp;omega)];rfl
theorem wN {id:Nat} {l:List Nat}:(dA l).map (killC id)=dA l:=by simp[dA,killC]
theorem I4 {id sz:Nat} {es:List AV} {l:List Nat}:(dA l).map (cD id sz es)=dA l:=by simp[dA,cD]
theorem I5 {l:List Nat}:(dA l).all noRefC=true:=by simp[dA,noRefC]
theorem lY (l:List Nat) (n:Nat):bj l n≤l.length:=List.countP_le_length
theorem tM (l:List Nat):∀n,bx l n≤l.length*n
 | 0=>by simp[bx]
 | 1=>by simp[bx]
 | n+2=>by
  have:=tM l (n+1)
  have:=lY l (n+1)
  simp only[bx]
  rw[show n+2=(n+1)+1 by omega,Nat.mul_succ l.length (n+1)]
  omega
def jU (l:List Nat) (n k:Nat):List Nat:=(List.range k).filter fun s=>l.getD s 0==n
theorem ay4 (l:List Nat) (n k:Nat):(jU l n k).length≤k:=by
 have:=List.length_filter_le (fun s=>l.getD s 0==n) (List.range k)
 simpa[jU]using this
theorem ay5 (l:List Nat) (n k:Nat):jU l n (k+1)=jU l n k++if l.getD k 0=n then[k]else[]:=by
 unfold jU
 rw[List.range_succ,List.filter_append]
 congr 1
 by_cases h:l.getD k 0=n<;>simp[-List.getD_eq_getElem?_getD,h]
theorem ay3 (l:List Nat) (n:Nat):jU l n l.length=qN l n:=(rfl)
theorem tn {a b:AV} {xs:List AV} {i:Nat} (h:i<xs.length):((a::(xs++[b])).drop (1+i)).getD 0 .undef=xs.getD i .undef:=by
 rw[Nat.add_comm,List.drop_succ_cons,List.getD_eq_getElem?_getD,List.getElem?_drop,Nat.add_zero,List.getElem?_append_left h,List.getD_eq_getElem?_getD]
theorem zJ {a b:AV} {xs:List AV} {i:Nat} (h:i<xs.length):0<((a::(xs++[b])).drop (1+i)).length:=by simp;omega
theorem aaX {a b v:AV} {xs:List AV} {i:Nat} (h:i<xs.length):dm (a::(xs++[b])) (1+i) [v]=a::(xs.set i v++[b]):=by
 unfold dm
 rw[Nat.add_comm 1 i,List.take_succ_cons,show i+1+[v].length=(i+1)+1 by simp,List.drop_succ_cons,List.take_append_of_le_length (by omega),List.drop_append_of_le_length (by omega),List.set_eq_take_append_cons_drop,if_pos h]
 simp
theorem MJ {a b v:AV} {xs:List AV} (h:xs.length=16):dm (a::(xs++[b])) 17 [v]=a::(xs++[v]):=by
 unfold dm
 rw[List.take_succ_cons,show 17+[v].length=17+1 by rfl,List.drop_succ_cons,List.take_left' h,List.drop_append]
 simp[h]
theorem ML {a b v:AV} {xs:List AV} (h:xs.length=16):(a::(xs++[b])).set 17 v=a::(xs++[v]):=by
 rw[List.set_cons_succ,List.set_append_right _ _ (by omega),h];rfl
theorem MI {a b:AV} {xs:List AV} (h:xs.length=16):(a::(xs++[b]))[17]?=some b:=by
 rw[List.getElem?_cons_succ,List.getElem?_append_right (by omega),h];rfl
theorem xy {a b:AV} {xs:List AV} (h:xs.length=16):(a::(xs++[b])).drop 17=[b]:=by
 rw[List.drop_succ_cons,List.drop_left' h]
def eN (l:List Nat):List AV:=.ro 1 (an l)::(dA l++[.ro 1 (an (sortL l 15))])
def bq (l:List Nat):AV:=.az (.agg (eN l))
def gw (l:List Nat) (m:Nat):Int:=if m=0 then 1 else(2^m:Nat)-((fstL l m+bj l m:Nat):Int)
theorem atX (l:List Nat) (m:Nat):gw l (m+1)=2*gw l m-(bj l (m+1):Int):=by
 unfold gw
 cases m with
 | zero=>simp[fstL]
 | succ m=>
  rw[if_neg (by omega),if_neg (by omega)]
  simp only[fstL]
  rw[Nat.pow_succ 2 (m+1)]
  omega
theorem room_le (l:List Nat) {m:Nat} (h:m≤15):gw l m≤32768:=by
 unfold gw
 have:(2:Nat)^m≤2^15:=Nat.pow_le_pow_right (by decide) h
 split<;>omega
theorem atW (l:List Nat) {m:Nat} (h1:1≤m) (h2:m≤15) (h:gw l m<0):32768<cn l:=by
 refine Nat.lt_of_not_le fun hc=>?_
 have:=pW hc h1 h2
 unfold gw at h
 rw[if_neg (by omega)]at h
 omega
theorem atV (l:List Nat):gw l 15=32768-(cn l:Int):=by
 unfold gw cn
 rw[if_neg (by omega)]
 rfl
theorem pR (l:List Nat) (hl:∀n∈l,n≤15) (hn:l.length≤320):Eng.Spec Tryz.prog 115 [] [.ro 1 (an l)] (fun h r _=>h=[]∧r=if bo l then .ak [bq l,.int .i64 0]else .ak [.lit (.pointer none),.int .i64 4]):=by
 refine Cod.Q4 (fun E R hN hR=>?_)
 have hnl:=bU l
 refine bm @bU @eG ?_
 refine gG ?_
 refine aK hN (fun k:Nat=>⟨[(0,.ro 1 (an l)),(4,.ab 49018 0),(19,.ro 1 (an l)),(20,.int .i64 l.length),(21,.int .i64 k)],[(49018,.var (.sl 49016 0 l.length::(dA (l.take k)++[.al]))),(49016,.arr 1 (an l))]⟩) (fun k=>k≤l.length) (fun k=>l.length-k) 0 (.le (by simp(disch:=first | omega | (simp only[Lx];omega))only[go_sem,simprocAttr,bU];rfl)) (by omega) ?_
 rintro k R1 hk hR1
 have hcl:=jC (l.take k)
 by_cases hlt:k<l.length
 ·have hx:=gV hl k
  have htk:=gy l 0 hlt
  have hcs:=I6 (l.take k) (x:=l.getD k 0) (by omega)
  have hcb:=lY (l.take k) (l.getD k 0)
  rw[List.length_take]at hcb
  rw[←htk]at hcs
  generalize hc:l.getD k 0=x at *
  simp(disch:=first | omega | (simp only[Lx];omega))only[go_sem,simprocAttr,bU,dQ,hc,tn,zJ,kM,aaX,Nat.mul_one]
  refine gG ?_
  rw[hcs]
  exact hR1 (k+1) _ (by omega) (by omega) (.le vV)
 ·obtain rfl:k=l.length:=by omega
  refine aw @bU ?_
  have hcl:=jC l
  refine aK hN (fun m:Nat=>⟨[(0,.ro 1 (an l)),(4,.ab 49018 0),(7,.int .i64 (gw l m)),(8,.int .i64 (bx l (m+1):Nat)),(9,.int .i64 ((m:Int)+1))],
   [(49018,.var (.sl 49016 0 l.length::(dA l++[.sl 49082 0 (sortL l m).length]))),(49016,.arr 1 (an l)),(49082,.arr 1 (an (sortL l m)))]⟩) (fun m=>m≤15∧0≤gw l m) (fun m=>15-m) 0
   (.jK 49018 17 49082 1 (.sl 49016 0 l.length::(dA l++[.al])) rfl (MI hcl) rfl (.le (by simp(disch:=first | omega | (simp only[Lx];omega))only[go_sem,simprocAttr,List.map_append,wN,ML,sortL,gZ,gw,bx]))) ⟨by omega,by show(0:Int)≤1;decide⟩ ?_
  rintro m R2 ⟨hm,hr⟩ hR2
  by_cases hlt:m<15
  ·have hst:=atX l m
   have hrl:=room_le l hm
   have hcb:=lY l (m+1)
   have hpb:=tM l (m+1)
   have hpb2:l.length*(m+1)≤320*16:=Nat.mul_le_mul hn (by omega)
   have hsl:=kp l m
   refine cM @bU @tn @zJ @kM @Nat.mul_one ?_
   rw[←hst]
   refine yK (fun hneg=>?_) (fun hneg=>?_)
   ·have hbad:=atW l (by omega) (by omega) hneg
    have hck:bo l=false:=by unfold bo;rw[decide_eq_false (by omega)];rfl
    refine aw hck ?_
    exact hR.ro ⟨rfl,by rw[hck];rfl⟩
   ·refine aw @bU ?_
    refine aK hN (fun k:Nat=>⟨[(0,.ro 1 (an l)),(4,.ab 49018 0),(7,.int .i64 (gw l (m+1))),(8,.int .i64 (bx l (m+2):Nat)),(9,.int .i64 ((m:Int)+1)),(65,.ro 1 (an l)),(66,.int .i64 l.length),(67,.int .i64 k)],
     [(49018,.var (.sl 49016 0 l.length::(dA l++[.sl 49082 0 (sortL l m++jU l (m+1) k).length]))),(49016,.arr 1 (an l)),(49082,.arr 1 (an (sortL l m++jU l (m+1) k)))]⟩) (fun k=>k≤l.length) (fun k=>l.length-k) 0
     (.le (by simp(disch:=first | omega | (simp only[Lx];omega))only[go_sem,simprocAttr,jU,List.range_zero,List.filter_nil,List.append_nil,bx])) (by omega) ?_
    rintro k R3 hk hR3
    by_cases hlt3:k<l.length
    ·have htl:=ay4 l (m+1) k
     have hsu:=ay5 l (m+1) k
     by_cases hx:l.getD k 0=m+1
     ·rw[if_pos hx]at hsu
      simp(disch:=first | omega | (simp only[Lx];omega))only[go_sem,simprocAttr,bU,dQ,hx,xy,eG,eV,List.map_append,wN,MJ]
      refine hR3 (k+1) _ (by omega) (by omega) (.le ?_)
      rw[hsu,←List.append_assoc,←eF]
      exact cW @bU
     ·rw[if_neg hx,List.append_nil]at hsu
      refine cM @bU @dQ @xy @eG @eV ?_
      exact hR3 (k+1) _ (by omega) (by omega) (.le (by rw[hsu];exact vV))
    ·obtain rfl:k=l.length:=by omega
     refine aw @bU ?_
     refine hR2 (m+1) _ (by omega) ⟨by omega,by omega⟩ (.le ?_)
     rw[ay3]
     simp(disch:=first | omega | (simp only[Lx];omega))only[go_sem,simprocAttr,sortL]
  ·obtain rfl:m=15:=by omega
   have hre:=atV l
   have hpn:=qs l hl
   have hsl:=kp l 15
   have yes:bo l=true→R [(49018,.var (.sl 49016 0 l.length::(dA l++[.sl 49082 0 (sortL l 15).length]))),(49016,.arr 1 (an l)),(49082,.arr 1 (an (sortL l 15)))] (.ak [.ab 49018 0,.int .i64 0]) [.undef]:=by
    intro hck
    rw[hck]at hR
    refine hR.wk (h':=[]) (r':=.ak [bq l,.int .i64 0]) (ar':=[.undef]) rfl (.bF 49016 (.bF 49082 (.pB 0 0 49018 [.ab 49018 0,.int .i64 0] (eN l) vV (by rfl) ?_ ?_ (.le ?_)))) ⟨rfl,by rfl⟩
    ·simp(disch:=first | omega | (simp only[Lx];omega))only[go_sem,simprocAttr,List.map_append,I4,eV,bU,fP,eN]
    ·simp[eN,noRefC,I5]
    ·simp(disch:=first | omega | (simp only[Lx];omega))only[go_sem,simprocAttr,bq]
   have no:bo l=false→∀h,R h (.ak [.lit (.pointer none),.int .i64 4]) [.undef]:=by
    intro hck h
    rw[hck]at hR
    exact hR.ro ⟨rfl,rfl⟩
   have hp16:bx l (15+1)=cB l:=hpn
   have hone:∀x,((dA l++[x]).drop 1).getD 0 .undef=.int .i64 (bj l 1:Nat):=fun x=>by
    have:=tn (a:=.undef) (b:=x) (xs:=dA l) (i:=1) (by omega)
    rw[kM l (by omega)]at this
    exact this
   have honl:∀x,0<((dA l++[x]).drop 1).length:=fun x=>by simp;omega
   by_cases ha:0<gw l 15
   ·by_cases hb:cB l=0
    ·have hck:bo l=true:=by unfold bo;rw[decide_eq_true (show cn l≤32768 by omega),decide_eq_true hb];simp
     refine bm hp16 hb ?_
     refine gG ?_
     exact yes hck
    ·by_cases hc:cB l=1
     ·by_cases hd:bj l 1=1
      ·have hck:bo l=true:=by unfold bo;rw[decide_eq_true (show cn l≤32768 by omega),decide_eq_true hc,decide_eq_true hd];simp
       refine cM hp16 hc hone honl hd ?_
       refine gS hone honl hd ?_
       exact yes hck
      ·have hck:bo l=false:=by unfold bo;rw[decide_eq_false (show ¬cn l=32768 by omega),decide_eq_false hb,decide_eq_false hd];simp
       refine eC hp16 hc hone honl ?_
       refine eL hone honl ?_
       exact no hck _
     ·have hck:bo l=false:=by unfold bo;rw[decide_eq_false (show ¬cn l=32768 by omega),decide_eq_false hb,decide_eq_false hc];simp
      refine aw hp16 ?_
      refine gG ?_
      exact no hck _
   ·have hck:bo l=true:=by unfold bo;rw[decide_eq_true (show cn l≤32768 by omega),decide_eq_true (show cn l=32768 by omega)];simp
    refine aw hp16 ?_
    refine gG ?_
    exact yes hck
theorem ar4 {l:List Nat} (h:cB l=0) (b:List Bool):readL (aQ l) b=(0,0,3):=by
 have h0:∀s,s<l.length→l.getD s 0=0:=by
  intro s hs
  refine Nat.eq_zero_of_not_pos fun hp=>?_
  unfold cB at h
  have:=List.countP_eq_zero.1 h (l.getD s 0) (by rw[List.getD_eq_getElem?_getD,List.getElem?_eq_getElem hs];exact List.getElem_mem hs)
  simp[-List.getD_eq_getElem?_getD]at this
  omega
 unfold readL
 rw[ss (fun s hs=>sT (h0 s hs))]
 simp only
 rw[if_pos]
 rw[List.all_eq_true]
 intro c hc
 obtain⟨s,hs,rfl⟩:=List.mem_map.1 hc
 unfold a7
 rw[if_pos (h0 s (List.mem_range.1 hs))];rfl
theorem or_bit {c b:Nat} (hc:c<32768) (hb:b≤1):bits .or .i64 (IntKind.i64.wrap ((c:Int)*2^min 1 64)) (b:Int)=((2*c+b:Nat):Int):=by
 rw[show((c:Int)*2^min 1 64)=((c*2:Nat):Int)by push_cast;rfl,ib (by omega)]
 show IntKind.i64.wrap ((BitVec.ofInt 64 ((c*2:Nat):Int) ||| BitVec.ofInt 64 (b:Int)).toNat:Int)=_
 rw[BitVec.ofInt_natCast,BitVec.ofInt_natCast,BitVec.toNat_or,BitVec.toNat_ofNat,BitVec.toNat_ofNat,Nat.mod_eq_of_lt (by omega),Nat.mod_eq_of_lt (by omega)]
 have h1:c*2 ||| b=2*c+b:=by
  have:=Nat.shiftLeft_add_eq_or_of_lt (b:=b) (i:=1) (by omega) c
  rw[Nat.shiftLeft_eq]at this
  rw[show c*2=c*2^1 by rfl,←this]
  omega
 rw[h1]
 exact ib (by omega)
theorem qP (l:List Nat):((eN l).drop 1).take 16=dA l:=by
 unfold eN
 rw[List.drop_succ_cons,List.drop_zero,List.take_left' (jC l)]
theorem Dl (l:List Nat):(eN l).getD 17 .undef=.ro 1 (an (sortL l 15)):=by
 unfold eN
 rw[List.getD_cons_succ,List.getD_eq_getElem?_getD,List.getElem?_append_right (by rw[jC];omega),jC];rfl
theorem Dk (l:List Nat):(eN l).length=18:=by simp[eN,jC]
set_option maxHeartbeats 1000000 in
theorem sU (l:List Nat) (hl:∀n∈l,n≤15) (hll:l.length≤320) (hck:bo l=true) (s:Bs) (a hv fr p:Nat) (hs:s.length≤1000000000000) (h:bL s a hv p):Eng.Spec Tryz.prog 106 [(RD,.var (a8 s a hv fr))] [bq l,.ab RD 0]
    (fun h' v ar=>∃a' hv' p' k,bL s a' hv' p'∧h'=[(RD,.var (a8 s a' hv' fr))]∧v=.ak [.int .i64 (k:Nat),.int .i64 ((readL (aQ l) (aX s p)).2.2:Nat)] ∧
     ((readL (aQ l) (aX s p)).2.2=0→k=(readL (aQ l) (aX s p)).1∧p'=p+(readL (aQ l) (aX s p)).2.1)∧ar=[bq l,.ab RD 0]):=by
 have hc:cn l≤32768:=by unfold bo at hck;simp at hck;exact hck.1
 refine Cod.Rx (fun E R hN hR=>?_)
 have hsl:=kp l 15
 have hpn:=qs l hl
 have hp16:bx l (15+1)=cB l:=hpn
 have htl:=Dk l
 have hnum:cB l≤l.length:=List.countP_le_length
 have hts:=Dl l
 have hnl:=bU (sortL l 15)
 have hso:∃so,sortL l 15=so:=⟨_,rfl⟩
 obtain⟨so,hso⟩:=hso
 rw[hso]at hsl hts hnl
 by_cases h0:cB l=0
 ·have hr:=ar4 h0 (aX s p)
  rw[hr]at hR
  simp(disch:=omega)only[go_sem,simprocAttr,bq,htl,hts,hnl,hsl,hp16,h0]
  exact hR.le vV ⟨a,hv,p,0,h,rfl,rfl,fun e=>by simp at e,rfl⟩
 ·simp(disch:=omega)only[go_sem,simprocAttr,bq,htl,hts,hnl,hsl,hp16,h0]
  have hbl:=gu s p
  generalize hb:aX s p=b at *
  refine aK hN (fun q:Nat×Nat×Nat=>⟨[(0,.az (.agg (eN l))),(1,.ab 40014 0),(6,.int .i64 (msb (b.take q.1):Nat)),(7,.int .i64 (fstL l (q.1+1):Nat)),(8,.int .i64 (bx l (q.1+1):Nat)),(9,.int .i64 ((q.1:Int)+1)),
   (2000000,.az (.agg (eN l))),(2000001,.ab 40014 0)],[(40014,.var (a8 s q.2.1 q.2.2 fr))]⟩)
   (fun q=>q.1<15∧bL s q.2.1 q.2.2 (p+q.1)∧q.1≤dD s p∧lP l b (q.1+1)∧fstL l (q.1+1)≤2*msb (b.take q.1)∧bx l (q.1+1)<cB l) (fun q=>15-q.1) (0,a,hv)
   (.le (by simp(disch:=omega)only[go_sem,simprocAttr,msb,List.foldl_nil,fstL,bx])) ⟨by omega,h,by omega,fun s _ h1 h2=>by omega,by simp[fstL],by simp only[bx];omega⟩ ?_
  rintro⟨n,a,hv⟩ R1 ⟨hn,hrd,hlb,hno,hj,hpre⟩ hR1
  simp only at hn hrd hlb hno hj hpre
  have hmt:=zN (b.take n)
  have hmt2:2^(b.take n).length≤2^15:=Nat.pow_le_pow_right (by decide) (by rw[List.length_take];omega)
  have hkr:=pW hc (n:=n+1) (by omega) (by omega)
  have hk2:2^(n+1)≤2^15:=Nat.pow_le_pow_right (by decide) (by omega)
  simp(disch:=omega)only[go_sem,simprocAttr,bq]
  refine aI [(RD,.var (a8 s a hv fr))] (qu s a hv fr (p+n) 1 hs hrd (by omega)) vV nofun ?_
  rintro h' v ar ⟨a',hv',hrd',rfl,rfl,rfl⟩
  refine⟨cG,rfl,?_⟩
  unfold dD at hlb
  by_cases hbit:1≤dD s (p+n)
  ·rw[if_pos hbit]at hrd'
   have hbit2:=hbit
   unfold dD at hbit2
   have hbn:n<b.length:=by omega
   have hget:b.getD n false=fw s (p+n):=by rw[←hb];exact Ci s p (by omega)
   have hms:=tq b n hbn
   rw[hget,←abG]at hms
   have hx1:=fX s (p+n) 1
   have hle:=aas hbn hj
   have hob:=or_bit (c:=msb (b.take n)) (b:=numAt s (p+n) 1) (by omega) (by omega)
   rw[←hms]at hob
   have hcl:=jC l
   have hpb:=tM l (n+1)
   have hpm:=mA l (n+2) (16-(n+2))
   rw[show n+2+(16-(n+2))=16 by omega,hpn]at hpm
   have hps:bx l (n+2)=bx l (n+1)+bj l (n+1):=rfl
   have hfs:fstL l (n+2)=2*(fstL l (n+1)+bj l (n+1)):=rfl
   refine n8 hbit hob @qP htl hcl @kM ?_
   refine yK (fun hk=>?_) (fun hk=>?_)
   ·obtain⟨k,hke⟩:∃k,msb (b.take (n+1))=fstL l (n+1)+k:=⟨msb (b.take (n+1))-fstL l (n+1),by omega⟩
    obtain⟨sy,g1,g2,g3⟩:=aav hc hl hn hbn hno hj hke (by omega)
    rw[hso]at g1
    rw[g3]at hR
    have ei:((bx l (n+1):Nat):Int)+(((msb (b.take (n+1)):Nat):Int)-((fstL l (n+1):Nat):Int))=((bx l (n+1)+k:Nat):Int):=by omega
    simp(disch:=omega)only[go_sem,simprocAttr,hts,htl,hnl,hsl,hp16,ei,dQ,g1]
    exact hR.le (by simp(disch:=omega)only[go_sem,simprocAttr,bq]) ⟨a',hv',p+n+1,sy,hrd',rfl,rfl,fun _=>⟨rfl,by show _=p+(n+1);omega⟩,rfl⟩
   ·obtain⟨g1,g2⟩:=aat hc hl hn hbn hno (by omega)
    have hw2:(((fstL l (n+1):Nat):Int)+((bj l (n+1):Nat):Int))*2^min 1 64=((fstL l (n+2):Nat):Int):=by
     rw[hfs,show(2:Int)^min 1 64=2 by decide];push_cast;omega
    have ha2:((bx l (n+1):Nat):Int)+((bj l (n+1):Nat):Int)=((bx l (n+2):Nat):Int):=by rw[hps];push_cast;rfl
    by_cases hend:bx l (n+2)=cB l
    ·have hr:=aau (b:=b) hl (n:=n+1) (by omega) (by omega) hend (by omega) g1
     rw[hr]at hR
     simp(disch:=omega)only[go_sem,simprocAttr,qP,hts,htl,hcl,kM,hw2,ha2,hnl,hsl,hp16,hend]
     exact hR.le (by simp(disch:=omega)only[go_sem,simprocAttr,bq]) ⟨a',hv',p+n+1,0,hrd',rfl,rfl,fun e=>by simp at e,rfl⟩
    ·have hne:¬((bx l (n+2):Nat):Int)=((cB l:Nat):Int):=by omega
     have hn15:n+1<15:=by
      refine Nat.lt_of_not_le fun hh=>?_
      have:n=14:=by omega
      subst this
      exact hend hpn
     simp(disch:=omega)only[go_sem,simprocAttr,qP,hts,htl,hcl,kM,hw2,ha2,hnl,hsl,hp16,hne]
     exact hR1 (n+1,a',hv') _ (by simp only;omega) ⟨hn15,hrd',by simp only[dD];omega,g1,g2,by show bx l (n+2)<_;omega⟩ (.le vV)
  ·have hbn:b.length=n:=by unfold dD at hbit;omega
   rw[if_neg hbit]at hrd'
   have hr:=aar (b:=b) hl hck (by omega) (by rw[hbn];exact hpre) (by rw[hbn];exact hno) (by rw[List.take_of_length_le (by omega)]at hj;rw[hbn];exact hj)
   rw[hr]at hR
   refine aw hbit ?_
   exact hR.le vV ⟨a',hv',p+n,0,hrd',rfl,rfl,fun e=>by simp at e,rfl⟩
def cp (xs:List Bool):List AV:=xs.map AV.bool
theorem jb (xs:List Bool):(cp xs).length=xs.length:=by simp[cp]
theorem tx {xs:List Bool} {i:Nat} (h:i<xs.length):nth (cp xs) i=.bool (xs.getD i false):=by
 simp[nth,cp,List.getD_eq_getElem?_getD,h]
theorem wi {xs:List Bool}:(cp xs).all bb=true:=by simp[cp,bb,cellsOf,isCell]
theorem H6 {xs:List Bool} {c:Bool}:cp xs++[.bool c]=cp (xs++[c]):=by simp[cp]
theorem H7 {xs:List Bool} {c:Bool}:.bool c::cp xs=cp (c::xs):=by simp[cp]
theorem kJ {xs:List Bool} {o n:Nat}:aM (cp xs) o n=cp ((xs.drop o).take n):=by simp[cp,aM]
theorem wj:cp []=[]:=(rfl)
def iw (s:Bs) (n:Nat):List Bool:=(List.range n).map (fw s)
theorem Hd (s:Bs) (n:Nat):(iw s n).length=n:=by simp[iw]
theorem Hf (s:Bs) (n:Nat):iw s (n+1)=iw s n++[fw s n]:=by simp[iw,List.range_succ]
theorem He (s:Bs):iw s (8*s.length)=aX s 0:=by simp[iw,aX]
theorem Hb (c:UInt8) (k:Nat) (hk:k<8):decide (bits .and .u8 ((c.toNat:Int).fdiv (2^min k 64)) 1=1)=c.toNat.testBit k:=by
 have hc:=c.toNat_lt
 have e1:(c.toNat:Int).fdiv (2^min k 64)=((c.toNat/2^k:Nat):Int):=by
  rw[Nat.min_eq_left (by omega),Int.fdiv_eq_ediv_of_nonneg _ (Int.pow_nonneg (by decide)),Int.natCast_ediv,Int.natCast_pow];rfl
 have hd:c.toNat/2^k<256:=Nat.lt_of_le_of_lt (Nat.div_le_self _ _) (by omega)
 have e2:bits .and .u8 ((c.toNat/2^k:Nat):Int) 1=((c.toNat/2^k%2:Nat):Int):=by
  show IntKind.u8.wrap ((BitVec.ofInt 8 ((c.toNat/2^k:Nat):Int) &&& BitVec.ofInt 8 1).toNat:Int)=_
  rw[BitVec.ofInt_natCast,BitVec.toNat_and,BitVec.toNat_ofNat,Nat.mod_eq_of_lt (by omega),show(BitVec.ofInt 8 1).toNat=2^1-1 by decide,Nat.and_two_pow_sub_one_eq_mod]
  exact wrap_u8 (by omega)
 rw[e1,e2,Nat.testBit_eq_decide_div_mod_eq]
 exact decide_eq_decide.2 (by omega)
theorem Hc (c:UInt8) (k:Nat) (hk:k<8):(decide (bits .and .u8 ((c.toNat:Int).fdiv (2^min k 8)) 1=1))=c.toNat.testBit k:=by
 have:=Hb c k hk
 rw[Nat.min_eq_left (by omega)]at this ⊢
 exact this
theorem aiM (s:Bs) (hs:s.length≤1000000):aZ Tryz.prog 81 [.str s] (.ro 1 (cp (aX s 0))):=by
 refine Cod.aiN (fun E R hN hR=>?_)
 refine wW ?_
 refine aK hN (fun k:Nat=>⟨[(0,.str s),(3,.sl 51006 0 (8*k)),(4,.int .i64 k)],[(51006,.arr 1 (cp (iw s (8*k))))]⟩) (fun k=>k≤s.length) (fun k=>s.length-k) 0 (.le (by simp(disch:=omega)only[go_sem,simprocAttr,iw,List.range_zero,wj])) (by omega) ?_
 rintro k R1 hk hR1
 by_cases hlt:k<s.length
 ·refine wW ?_
  refine aK hN (fun j:Nat=>⟨[(0,.str s),(3,.sl 51006 0 (8*k+j)),(4,.int .i64 k),(5,.int .i64 j)],[(51006,.arr 1 (cp (iw s (8*k+j))))]⟩) (fun j=>j≤8) (fun j=>8-j) 0 (.le vV) (by omega) ?_
  rintro j R2 hj hR2
  have hbl:=Hd s (8*k+j)
  have hbl2:=jb (iw s (8*k+j))
  by_cases hj8:j<8
  ·have hb:=Hc (s.getD k 0) j hj8
   have hbt:fw s (8*k+j)=(s.getD k 0).toNat.testBit j:=by unfold fw;rw[show(8*k+j)/8=k by omega,show(8*k+j)%8=j by omega]
   rw[←hbt]at hb
   refine cM @kJ @wi @fP hb @H6 ?_
   refine hR2 (j+1) _ (by omega) (by omega) (.le ?_)
   rw[show 8*k+(j+1)=8*k+j+1 by omega,Hf]
   exact vV
  ·obtain rfl:j=8:=by omega
   refine wW ?_
   exact hR1 (k+1) _ (by omega) (by omega) (.le (by rw[show 8*(k+1)=8*k+8 by omega];exact vV))
 ·obtain rfl:k=s.length:=by omega
  have ht:(aX s 0).take (8*s.length)=aX s 0:=List.take_of_length_le (by rw[gu];omega)
  refine wW ?_
  exact hR.wk (h':=[]) (r':=.ro 1 (cp (aX s 0))) (ar':=[.undef]) rfl (.bF 51006 (.le (uL @kJ @He ht))) ⟨rfl,rfl⟩
def bA (b:List Bool):Nat:=b.foldr (fun c a=>2*a+c.toNat) 0
theorem lh (b:List Bool):bA b<2^b.length:=by
 induction b with
 | nil=>simp[bA]
 | cons c b ih=>
  have h1:bA (c::b)=2*bA b+c.toNat:=rfl
  have:c.toNat≤1:=by cases c<;>decide
  rw[h1,List.length_cons,Nat.pow_succ];omega
theorem z8 (b:List Bool) (c:Bool):bA (b++[c])=bA b+if c then 2^b.length else 0:=by
 induction b with
 | nil=>cases c<;>rfl
 | cons d b ih=>
  have h1:∀b,bA (d::b)=2*bA b+d.toNat:=fun _=>rfl
  rw[List.cons_append,h1,h1,ih,List.length_cons,Nat.pow_succ]
  split<;>omega
theorem qe (s:Bs) (p:Nat):∀n,p+n≤8*s.length→bA ((aX s p).take n)=numAt s p n
 | 0,_=>rfl
 | n+1,h=>by
  have hl:=gu s p
  rw[gy (aX s p) false (by omega),z8,qe s p n (by omega),Ci s p (by omega),List.length_take,hl,Nat.min_eq_left (by omega)]
  rfl
theorem ai2 (b:List Bool) (hb:b.length≤31):aZ Tryz.prog 109 [.ro 1 (cp b)] (.int .u32 (bA b:Nat)):=by
 refine Cod.ai3 (fun E R hN hR=>?_)
 have hbl:=jb b
 refine aw hbl ?_
 refine aK hN (fun k:Nat=>⟨[(0,.ro 1 (cp b)),(3,.int .u32 (bA (b.drop k):Nat)),(4,.int .i64 ((k:Int)-1))],[]⟩) (fun k=>k≤b.length) (fun k=>k) b.length (.le (by simp(disch:=omega)only[go_sem,simprocAttr,xp,bA,List.foldr_nil])) (by omega) ?_
 rintro k R1 hk hR1
 cases k with
 | zero=>
  refine wW ?_
  exact hR.ro ⟨rfl,rfl⟩
 | succ k=>
  have hx:=lh (b.drop (k+1))
  have hx2:2^(b.drop (k+1)).length≤2^30:=Nat.pow_le_pow_right (by decide) (by rw[List.length_drop];omega)
  have hd:bA (b.drop k)=2*bA (b.drop (k+1))+(b.getD k false).toNat:=by rw[LS false b (by omega)];rfl
  have ek:(k:Int)+1-1=(k:Int):=by omega
  refine ck ek @tx hbl ?_
  cases hc:b.getD k false with
  | false=>
   rw[hc]at hd
   refine wW ?_
   exact hR1 k _ (by omega) (by omega) (.le (by rw[hd];simp(disch:=omega)only[go_sem,simprocAttr];push_cast;rfl))
  | true=>
   rw[hc]at hd
   refine wW ?_
   exact hR1 k _ (by omega) (by omega) (.le (by rw[hd];simp(disch:=omega)only[go_sem,simprocAttr];push_cast;rfl))
theorem adX (i:Nat) (h:i<15):(((32768/2^i:Nat):Int)).tdiv 2=((32768/2^(i+1):Nat):Int):=by
 rw[Nat.pow_succ,←Nat.div_div_eq_div_mul]
 generalize 32768/2^i=q
 rw[jV (by omega)];omega
theorem adW (n:Nat) (h:n≤15):32768/2^n=2^(15-n):=by
 have h1:32768=2^(15-n)*2^n:=by rw[←Nat.pow_add,show 15-n+n=15 by omega]
 rw[h1,Nat.mul_div_cancel _ (Nat.pow_pos (by decide))]
theorem abH (l:List Nat) (x:Nat):cB (l++[x])=cB l+if 0<x then 1 else 0:=by
 simp only[cB,List.countP_append,List.countP_singleton,decide_eq_true_eq]
theorem azc (l:List Nat):cn l≤32768*l.length:=by
 refine uB (p:=fun l=>cn l≤32768*l.length) (by simp[cn,fstL,bj]) (fun l x h=>?_) l
 rw[Dr,List.length_append,List.length_singleton]
 have:(2:Nat)^(15-x)≤2^15:=Nat.pow_le_pow_right (by decide) (by omega)
 split<;>omega
set_option maxHeartbeats 1000000 in
theorem tP (l:List Nat) (hl:∀n∈l,n≤15) (hn:l.length≤320):aZ Tryz.prog 114 [.ro 1 (an l)] (.int .i64 (if bo l then 0 else 4:Nat)):=by
 refine Cod.ajZ (fun E R hN hR=>?_)
 have hnl:=bU l
 refine aw hnl ?_
 refine aK hN (fun k:Nat=>⟨[(3,.int .i64 (cn (l.take k):Nat)),(4,.int .i64 (cB (l.take k):Nat)),(5,.int .i64 (bj (l.take k) 1:Nat)),(13,.ro 1 (an l)),(14,.int .i64 l.length),(15,.int .i64 k)],[]⟩) (fun k=>k≤l.length) (fun k=>l.length-k) 0 (.le (by simp(disch:=omega)only[go_sem,simprocAttr,cn,cB,bj,fstL];simp)) (by omega) ?_
 rintro k R1 hk hR1
 have ht:=azc (l.take k)
 have hc1:=lY (l.take k) 1
 have hnm:cB (l.take k)≤(l.take k).length:=List.countP_le_length
 rw[List.length_take]at ht hc1 hnm
 have hmin:32768*min k l.length≤32768*320:=Nat.mul_le_mul_left _ (by omega)
 by_cases hlt:k<l.length
 ·have hx:=gV hl k
  have htk:=gy l 0 hlt
  have hts:=Dr (l.take k) (l.getD k 0)
  have hns:=abH (l.take k) (l.getD k 0)
  have hcs:=jB (l.take k) (l.getD k 0) 1
  rw[←htk]at hts hns hcs
  generalize hc:l.getD k 0=x at *
  have next:(∀t c o:Nat,t=cn (l.take (k+1))→c=cB (l.take (k+1))→o=bj (l.take (k+1)) 1→∀s,s=[(3,AV.int .i64 (t:Int)),(4,.int .i64 (c:Int)),(5,.int .i64 (o:Int)),(13,.ro 1 (an l)),(14,.int .i64 l.length),(15,.int .i64 ((k:Int)+1))]→R1.ap ⟨s,[]⟩):=by
   rintro t c o rfl rfl rfl s rfl
   exact hR1 (k+1) _ (by omega) (by omega) (.le vV)
  by_cases h0:0<x
  ·rw[if_pos ⟨by omega,hx⟩]at hts
   rw[if_pos h0]at hns
   refine ck hnl @dQ hc ?_
   refine gG ?_
   refine aK hN (fun i:Nat=>⟨[(3,.int .i64 (cn (l.take k):Nat)),(4,.int .i64 ((cB (l.take k):Nat)+1)),(5,.int .i64 (bj (l.take k) 1:Nat)),(7,.int .i64 x),(8,.int .i64 (32768/2^i:Nat)),(9,.int .i64 i),(13,.ro 1 (an l)),(14,.int .i64 l.length),(15,.int .i64 k)],[]⟩) (fun i=>i≤x) (fun i=>x-i) 0 (.le vV) (by omega) ?_
   rintro i R2 hi hR2
   by_cases hix:i<x
   ·have hp:=adX i (by omega)
    have hpl:32768/2^i≤32768:=Nat.div_le_self _ _
    have hpl2:32768/2^(i+1)≤32768:=Nat.div_le_self _ _
    have hR3:=hR2 (i+1)
    generalize 32768/2^(i+1)=q2 at *
    generalize 32768/2^i=q at *
    refine aw hp ?_
    exact hR3 _ (by omega) (by omega) (.le vV)
   ·obtain rfl:i=x:=by omega
    have hp:=adW i (by omega)
    have hp2:(2:Nat)^(15-i)≤2^15:=Nat.pow_le_pow_right (by decide) (by omega)
    rw[hp]at *
    generalize 2^(15-i)=q at *
    by_cases h1:i=1
    ·rw[if_pos h1]at hcs
     refine aw h1 ?_
     exact next (cn (l.take k)+q) (cB (l.take k)+1) (bj (l.take k) 1+1) (by omega) (by omega) (by omega) _ vV
    ·rw[if_neg h1]at hcs
     refine wW ?_
     exact next (cn (l.take k)+q) (cB (l.take k)+1) (bj (l.take k) 1) (by omega) (by omega) (by omega) _ vV
  ·rw[if_neg (by omega)]at hts
   rw[if_neg h0]at hns
   rw[if_neg (by omega)]at hcs
   refine ck hnl @dQ hc ?_
   refine gG ?_
   exact next (cn (l.take k)) (cB (l.take k)) (bj (l.take k) 1) (by omega) (by omega) (by omega) _ rfl
 ·obtain rfl:k=l.length:=by omega
  rw[List.take_of_length_le (Nat.le_refl _)]at ht hc1 hnm ⊢
  have go:∀b:Bool,bo l=b→∀h,R h (.int .i64 (if b then 0 else 4:Nat)) [.undef]:=fun b hb h=>hR.ro ⟨rfl,by rw[hb]⟩
  unfold bo at go
  by_cases h1:cn l≤32768
  ·rw[decide_eq_true h1]at go
   by_cases h2:cn l=32768
   ·rw[decide_eq_true h2]at go
    refine aw hnl ?_
    refine gG ?_
    exact go true (by simp) _
   ·rw[decide_eq_false h2]at go
    by_cases h3:cB l=0
    ·rw[decide_eq_true h3]at go
     refine bm hnl h3 ?_
     refine gG ?_
     exact go true (by simp) _
    ·rw[decide_eq_false h3]at go
     by_cases h4:cB l=1
     ·rw[decide_eq_true h4]at go
      by_cases h5:bj l 1=1
      ·rw[decide_eq_true h5]at go
       refine ck hnl h4 h5 ?_
       refine gG ?_
       exact go true (by simp) _
      ·rw[decide_eq_false h5]at go
       refine bm hnl h4 ?_
       refine gG ?_
       exact go false (by simp) _
     ·rw[decide_eq_false h4]at go
      refine aw hnl ?_
      refine gG ?_
      exact go false (by simp) _
  ·rw[decide_eq_false h1]at go
   refine aw hnl ?_
   refine gG ?_
   exact go false (by simp) _
def cK (x n:Nat):List Bool:=(List.range n).map x.testBit
theorem fC (x n:Nat):(cK x n).length=n:=by simp[cK]
theorem tB (c:Bool) (b:List Bool):bA (c::b)=2*bA b+c.toNat:=by simp[bA]
theorem nA:∀(a b:List Bool),bA (a++b)=bA a+2^a.length*bA b
 | [],b=>by simp[bA]
 | c::a,b=>by
  rw[List.cons_append,tB,tB,nA a b,List.length_cons,Nat.pow_succ]
  generalize 2^a.length=q
  rw[Nat.mul_add,show q*2*bA b=2*(q*bA b)by rw[Nat.mul_comm q 2,Nat.mul_assoc]]
  omega
theorem abE (l:List Bool) (m:Nat):bA (l.take m)=bA l%2^m:=by
 by_cases h:m≤l.length
 ·have e:bA l=bA (l.take m)+2^m*bA (l.drop m):=by
   have:=nA (l.take m) (l.drop m)
   rwa[List.take_append_drop,List.length_take,Nat.min_eq_left h]at this
  have h1:=lh (l.take m)
  rw[List.length_take,Nat.min_eq_left h]at h1
  rw[e,Nat.add_mul_mod_self_left,Nat.mod_eq_of_lt h1]
 ·rw[List.take_of_length_le (by omega),Nat.mod_eq_of_lt]
  exact Nat.lt_of_lt_of_le (lh l) (Nat.pow_le_pow_right (by decide) (by omega))
theorem abD (l:List Bool) (m:Nat):bA (l.drop m)=bA l/2^m:=by
 by_cases h:m≤l.length
 ·have e:bA l=bA (l.take m)+2^m*bA (l.drop m):=by
   have:=nA (l.take m) (l.drop m)
   rwa[List.take_append_drop,List.length_take,Nat.min_eq_left h]at this
  have h1:=lh (l.take m)
  rw[List.length_take,Nat.min_eq_left h]at h1
  rw[e,Nat.add_mul_div_left _ _ (Nat.pow_pos (by decide)),Nat.div_eq_of_lt h1,Nat.zero_add]
 ·rw[List.drop_of_length_le (by omega),Nat.div_eq_of_lt]
  ·rfl
  ·exact Nat.lt_of_lt_of_le (lh l) (Nat.pow_le_pow_right (by decide) (by omega))
theorem tC (x:Nat):∀n,bA (cK x n)=x%2^n
 | 0=>by simp[cK,bA,Nat.mod_one]
 | n+1=>by
  have e:cK x (n+1)=cK x n++[x.testBit n]:=by simp[cK,List.range_succ]
  rw[e,z8,tC x n,fC,De]
def gO (bs:List Bool) (i:Nat):UInt8:=UInt8.ofNat (bA (bs.drop (8*i)))
def dE (bs:List Bool) (k:Nat):Bs:=(List.range k).map (gO bs)
theorem jN (bs:List Bool) (k:Nat):(dE bs k).length=k:=by simp[dE]
theorem Az (bs:List Bool) (k:Nat):dE bs (k+1)=dE bs k++[gO bs k]:=by simp[dE,List.range_succ]
theorem Ax (bs xs:List Bool) (k:Nat) (h:8*k≤bs.length):dE (bs++xs) k=dE bs k:=by
 unfold dE
 refine List.map_congr_left (fun i hi=>?_)
 have hi:=List.mem_range.1 hi
 unfold gO
 rw[List.drop_append_of_le_length (by omega),nA]
 apply UInt8.toNat_inj.1
 rw[UInt8.toNat_ofNat',UInt8.toNat_ofNat']
 have:2^(bs.drop (8*i)).length=256*2^((bs.drop (8*i)).length-8):=by
  rw[show(256:Nat)=2^8 by decide,←Nat.pow_add]
  congr 1
  rw[List.length_drop];omega
 rw[this,Nat.mul_assoc]
 omega
def WR:Nat:=160900
def WO:Nat:=160901
attribute [go_sem] WR WO
def cZ (bs:List Bool) (k:Nat):List AV:=[.sl WO 0 k,.int .u64 (bA (bs.drop (8*k)):Nat),.int .i64 (bs.length-8*k:Nat)]
def c7 (bs:List Bool) (k:Nat):HP:=[(WR,.var (cZ bs k)),(WO,.arr 1 ((dE bs k).map ub))]
def bz (bs:List Bool):HP:=c7 bs (bs.length/8)
theorem dR {p:Prop} (h:p:=by simp(disch:=first | omega | (simp only[Lx];omega))only[go_sem,simprocAttr,bz,c7,cZ]):p:=h
theorem DI {a b:Prop} (k:b) (h:b→a:=by intro h;simp(disch:=first | omega | (simp only[Lx];omega))only[go_sem,simprocAttr,bz,c7,cZ];exact h):a:=h k
theorem qU {E0:Prop} {p:Prop} (e0:E0) (h:E0→p:=by intro e0;simp(disch:=first | omega | (simp only[Lx];omega))only[go_sem,simprocAttr,bz,c7,cZ,e0]):p:=h e0
theorem DJ {E0:Prop} {a b:Prop} (e0:E0) (k:b) (h:E0→b→a:=by intro e0 h;simp(disch:=first | omega | (simp only[Lx];omega))only[go_sem,simprocAttr,bz,c7,cZ,e0];exact h):a:=h e0 k
theorem aAt {E0 E1 E2 E3 E4:Prop} {a b:Prop} (e0:E0) (e1:E1) (e2:E2) (e3:E3) (e4:E4) (k:b) (h:E0→E1→E2→E3→E4→b→a:=by intro e0 e1 e2 e3 e4 h;simp(disch:=first | omega | (simp only[Lx];omega))only[go_sem,simprocAttr,bz,c7,cZ,e0,e1,e2,e3,e4];exact h):a:=h e0 e1 e2 e3 e4 k
theorem wG (bs:List Bool) (k:Nat):AV.int .u8 (IntKind.u8.wrap ((bA (bs.drop (8*k)):Nat):Int))=ub (gO bs k):=by
 unfold ub gO
 rw[UInt8.toNat_ofNat']
 congr 1
theorem axt (x:Nat):((x:Nat):Int).fdiv (2^min 8 64)=((x/2^8:Nat):Int):=by
 rw[show(2:Int)^min 8 64=((2^8:Nat):Int)by decide]
 rw[Int.fdiv_eq_ediv_of_nonneg _ (by omega)]
 rfl
theorem acC {x k b:Nat} (hx:x<2^k) (hk:k≤7) (hb:b<2^32):bits .or .u64 (x:Int) (IntKind.u64.wrap ((b:Int)*2^min k 64))=((x+2^k*b:Nat):Int):=by
 have hp:2^k≤2^7:=Nat.pow_le_pow_right (by decide) hk
 have h2:b*2^k≤(2^32-1)*2^7:=Nat.mul_le_mul (by omega) hp
 have e:IntKind.u64.wrap ((b:Int)*2^min k 64)=((b*2^k:Nat):Int):=by
  rw[Nat.min_eq_left (by omega),show((b:Int)*2^k)=((b*2^k:Nat):Int)by push_cast;rfl]
  exact wrap_u64 (by omega)
 rw[e]
 show IntKind.u64.wrap ((BitVec.ofInt 64 (x:Int) ||| BitVec.ofInt 64 ((b*2^k:Nat):Int)).toNat:Int)=_
 rw[BitVec.ofInt_natCast,BitVec.ofInt_natCast,BitVec.toNat_or,BitVec.toNat_ofNat,BitVec.toNat_ofNat,Nat.mod_eq_of_lt (by omega),Nat.mod_eq_of_lt (by omega),Nat.or_comm,←Nat.shiftLeft_eq,←Nat.shiftLeft_add_eq_or_of_lt hx,Nat.shiftLeft_eq,Nat.add_comm,Nat.mul_comm]
 exact wrap_u64 (by rw[Nat.mul_comm];omega)
theorem mK (bs:List Bool) (x n:Nat) (hx:x<2^32) (hn:n≤32) (hb:bs.length≤1000000000000):Eng.Spec Tryz.prog 92 (bz bs) [.ab WR 0,.int .u32 x,.int .i64 n]
    (fun h' v ar=>h'=bz (bs++cK x n)∧v=.ak []∧ar=[.ab WR 0,.int .u32 x,.int .i64 n]):=by
 refine Cod.aAN (fun E R hN hR=>?_)
 generalize hbs:bs++cK x n=cs at *
 have hl:cs.length=bs.length+n:=by rw[←hbs,List.length_append,fC]
 have hhv:(bs.length-8*(bs.length/8))≤7:=by omega
 have hlt:bA (bs.drop (8*(bs.length/8)))<2^(bs.length-8*(bs.length/8)):=by have:=lh (bs.drop (8*(bs.length/8)));rwa[List.length_drop]at this
 have hand:=vq x n (by omega) hn
 have hxm:x%2^n<2^32:=Nat.lt_of_le_of_lt (Nat.mod_le _ _) hx
 have hor:=acC hlt hhv hxm
 have hnum:bA (cs.drop (8*(bs.length/8)))=bA (bs.drop (8*(bs.length/8)))+2^(bs.length-8*(bs.length/8))*(x%2^n):=by
  rw[←hbs,List.drop_append_of_le_length (by omega),nA,tC,List.length_drop]
 rw[←hnum]at hor
 have hpk:dE bs (bs.length/8)=dE cs (bs.length/8):=by rw[←hbs,Ax _ _ _ (by omega)]
 refine DI ?_
 refine gG ?_
 rw[hand,hor,hpk]
 refine aK hN (fun k:Nat=>⟨[(0,.ab WR 0),(2000000,.ab WR 0),(2000001,.int .u32 x),(2000002,.int .i64 n)],c7 cs k⟩) (fun k=>8*k≤cs.length∧cs.length-8*k≤39) (fun k=>cs.length-8*k) (bs.length/8) (.le ?_) ⟨by omega,by omega⟩ ?_
 ·simp(disch:=omega)only[go_sem,simprocAttr,c7,cZ,show cs.length-8*(bs.length/8)=bs.length-8*(bs.length/8)+n by omega]
 rintro k R1 ⟨hk,hk2⟩ hR1
 have hnl:bA (cs.drop (8*k))<2^39:=by
  have:=lh (cs.drop (8*k))
  rw[List.length_drop]at this
  exact Nat.lt_of_lt_of_le this (Nat.pow_le_pow_right (by decide) hk2)
 by_cases h8:8≤cs.length-8*k
 ·have hd:bA (cs.drop (8*(k+1)))=bA (cs.drop (8*k))/2^8:=by
   rw[show 8*(k+1)=8*k+8 by omega,←List.drop_drop,abD]
  have hby:=wG cs k
  have hps:=Az cs k
  have hpl:=jN cs k
  simp(disch:=omega)only[go_sem,simprocAttr,c7,cZ,fP,hpl]
  rw[axt,←hd]
  refine hR1 (k+1) _ (by omega) ⟨by omega,by omega⟩ (.le ?_)
  simp(disch:=omega)only[go_sem,simprocAttr,c7,cZ,hps,show cs.length-8*(k+1)=cs.length-8*k-8 by omega]
  rw[hby]
  simp
 ·have e:k=cs.length/8:=by omega
  subst e
  simp(disch:=omega)only[go_sem,simprocAttr,c7,cZ]
  exact hR.le dR ⟨rfl,rfl,rfl⟩
def cA (c:List Bool):AV:=
 match c with
 | []=>.al
 | x::r=>.ro 1 (cp (x::r))
theorem oT {c:List Bool} (h:0<c.length):cA c=.ro 1 (cp c):=by
 cases c with
 | nil=>simp at h
 | cons x r=>rfl
def bH (cs:List (List Bool)):List AV:=cs.map cA
theorem rY (cs:List (List Bool)):(bH cs).length=cs.length:=by simp[bH]
theorem mr {cs:List (List Bool)} {i:Nat} (h:i<cs.length):nth (bH cs) i=cA (cs.getD i []):=by
 simp[nth,bH,List.getD_eq_getElem?_getD,h]
theorem Iw (c:List Bool):isCell (cA c)=true:=by cases c<;>rfl
theorem wH (c:List Bool):cellsOf (cA c)=[cA c]:=by cases c<;>rfl
theorem I7 {cs:List (List Bool)}:(bH cs).all bb=true:=by
 simp only[bH,List.all_map,List.all_eq_true,Function.comp,bb]
 intro c _
 rw[wH];simp[Iw]
theorem I8 {cs:List (List Bool)} {i:Nat} {c:List Bool}:(bH cs).set i (cA c)=bH (cs.set i c):=by simp[bH,List.map_set]
def eH (l:List Nat) (n k:Nat):List (List Bool):=(List.range l.length).map fun j=>if l.getD j 0≠0∧(l.getD j 0<n∨(l.getD j 0=n∧j<k))then a7 l j else[]
theorem qg (l:List Nat) (n k:Nat):(eH l n k).length=l.length:=by simp[eH]
theorem acI (l:List Nat):eH l 1 0=List.replicate l.length []:=by
 unfold eH
 rw[List.map_congr_left (g:=fun _=>[]) (fun j _=>by rw[if_neg];omega),List.map_const',List.length_range]
theorem acF (l:List Nat) (n:Nat):eH l n l.length=eH l (n+1) 0:=by
 unfold eH
 refine List.map_congr_left fun j hj=>?_
 have:=List.mem_range.1 hj
 by_cases h:l.getD j 0≠0∧(l.getD j 0<n∨(l.getD j 0=n∧j<l.length))
 ·rw[if_pos h,if_pos ⟨h.1,by omega⟩]
 ·rw[if_neg h,if_neg (by omega)]
theorem acE (l:List Nat) (hl:∀n∈l,n≤15):eH l 16 0=aQ l:=by
 unfold eH aQ
 refine List.map_congr_left fun j _=>?_
 have:=gV hl j
 by_cases h:l.getD j 0≠0
 ·rw[if_pos ⟨h,.inl (by omega)⟩]
 ·rw[if_neg (fun g=>h g.1)]
  unfold a7
  rw[if_pos (by omega)]
theorem acH (l:List Nat) (n k:Nat) (h:l.getD k 0≠n):eH l n (k+1)=eH l n k:=by
 unfold eH
 refine List.map_congr_left fun j _=>?_
 by_cases hj:j=k
 ·subst hj
  by_cases h1:l.getD j 0≠0∧l.getD j 0<n
  ·rw[if_pos ⟨h1.1,.inl h1.2⟩,if_pos ⟨h1.1,.inl h1.2⟩]
  ·rw[if_neg (by omega),if_neg (by omega)]
 ·by_cases h1:l.getD j 0≠0∧(l.getD j 0<n∨(l.getD j 0=n∧j<k))
  ·rw[if_pos h1,if_pos ⟨h1.1,by omega⟩]
  ·rw[if_neg h1,if_neg (by omega)]
theorem acG (l:List Nat) (n k:Nat) (hk:k<l.length) (h0:n≠0) (h:l.getD k 0=n):(eH l n k).set k (a7 l k)=eH l n (k+1):=by
 apply List.ext_getElem?
 intro j
 rw[List.getElem?_set,qg]
 by_cases hj:k=j
 ·subst hj
  rw[if_pos rfl,if_pos hk]
  unfold eH
  rw[List.getElem?_map,List.getElem?_range hk]
  simp only[Option.map_some]
  rw[if_pos ⟨by omega,.inr ⟨h,by omega⟩⟩]
 ·rw[if_neg hj]
  by_cases hjl:j<l.length
  ·unfold eH
   rw[List.getElem?_map,List.getElem?_map,List.getElem?_range hjl]
   simp only[Option.map_some]
   by_cases h1:l.getD j 0≠0∧(l.getD j 0<n∨(l.getD j 0=n∧j<k))
   ·rw[if_pos h1,if_pos ⟨h1.1,by omega⟩]
   ·rw[if_neg h1,if_neg (by omega)]
  ·rw[List.getElem?_eq_none (by rw[qg];omega),List.getElem?_eq_none (by rw[qg];omega)]
def kP (l:List Nat) (m:Nat):Nat:=if m=0 then 0 else fstL l m+bj l m
theorem MH (l:List Nat) (m:Nat):2*kP l m=fstL l (m+1):=by
 unfold kP
 cases m with
 | zero=>rfl
 | succ m=>rw[if_neg (by omega)];rfl
theorem vR:∀(i x:Nat),bitsM x (i+1)=(x/2^i%2==1)::bitsM x i
 | 0,x=>by simp[bitsM]
 | i+1,x=>by
  show bitsM (x/2) (i+1)++[x%2==1]=_
  rw[vR i (x/2)]
  have:x/2/2^i=x/2^(i+1):=by rw[Nat.pow_succ,Nat.mul_comm,Nat.div_div_eq_div_mul]
  rw[this];rfl
theorem x5 (l:List Nat):∀n,fstL l (n+1)+bj l (n+1)+l.length≤l.length*2^(n+1)
 | 0=>by have:=lY l 1;simp[fstL];omega
 | n+1=>by
  have h1:=x5 l n
  have h2:=lY l (n+2)
  have h3:bj l (n+1+1)=bj l (n+2):=rfl
  simp only[fstL]
  rw[Nat.pow_succ 2 (n+1),←Nat.mul_assoc]
  omega
theorem Ot (l:List Nat) (hn:l.length≤320) {n:Nat} (h1:1≤n) (h:n≤16):fstL l n+bj l n≤20971520:=by
 obtain⟨m,rfl⟩:∃m,n=m+1:=⟨n-1,by omega⟩
 have h2:=x5 l m
 have h3:l.length*2^(m+1)≤320*2^16:=Nat.mul_le_mul hn (Nat.pow_le_pow_right (by decide) h)
 omega
set_option maxHeartbeats 1000000 in
theorem tQ (l:List Nat) (hl:∀n∈l,n≤15) (hn:l.length≤320):aZ Tryz.prog 111 [.ro 1 (an l)] (.ro 1 (bH (aQ l))):=by
 refine Cod.akH (fun E R hN hR=>?_)
 have hnl:=bU l
 refine aw hnl ?_
 refine aK hN (fun k:Nat=>⟨[(0,.ro 1 (an l)),(3,.sl 55011 0 k),(13,.int .i64 l.length),(14,.int .i64 k)],[(55011,.arr 1 (List.replicate k .al))]⟩) (fun k=>k≤l.length) (fun k=>l.length-k) 0 (.le (by simp(disch:=omega)only[go_sem,simprocAttr,List.replicate_zero])) (by omega) ?_
 rintro k R1 hk hR1
 by_cases hlt:k<l.length
 ·have hrc:(List.replicate k AV.al).all bb=true:=by rw[List.all_replicate];split<;>rfl
  have hrl:(List.replicate k AV.al).length=k:=List.length_replicate
  have hrs:aM (List.replicate k AV.al) 0 k=List.replicate k AV.al:=by simp[aM]
  refine eC hnl hrc hrl hrs ?_
  exact hR1 (k+1) _ (by omega) (by omega) (.le (by rw[List.replicate_succ'];exact vV))
 ·obtain rfl:k=l.length:=by omega
  refine aw hnl ?_
  have hz:List.replicate l.length AV.al=bH (eH l 1 0):=by rw[acI];simp[bH,cA]
  refine aK hN (fun m:Nat=>⟨[(0,.ro 1 (an l)),(3,.sl 55011 0 l.length),(4,.int .i64 (kP l m:Nat)),(5,.int .i64 ((m:Int)+1))],[(55011,.arr 1 (bH (eH l (m+1) 0)))]⟩) (fun m=>m≤15) (fun m=>15-m) 0 (.le (by rw[hz,show kP l 0=0 from rfl];exact vV)) (by omega) ?_
  rintro m R2 hm hR2
  by_cases hlt2:m<15
  ·have he2:=MH l m
   have hfl:=Ot l hn (n:=m+1) (by omega) (by omega)
   have he3:2*((kP l m:Nat):Int)=((fstL l (m+1):Nat):Int):=by omega
   have hle:kP l m≤20971520:=by omega
   refine bm hnl he3 ?_
   refine aK hN (fun k:Nat=>⟨[(0,.ro 1 (an l)),(3,.sl 55011 0 l.length),(4,.int .i64 (fstL l (m+1)+bj (l.take k) (m+1):Nat)),(5,.int .i64 ((m:Int)+1)),(26,.ro 1 (an l)),(27,.int .i64 l.length),(28,.int .i64 k)],[(55011,.arr 1 (bH (eH l (m+1) k)))]⟩) (fun k=>k≤l.length) (fun k=>l.length-k) 0 (.le (by simp(disch:=omega)only[go_sem,simprocAttr,bj,List.countP_nil])) (by omega) ?_
   rintro k R3 hk hR3
   have hcl:=rX l k (m+1)
   by_cases hlt3:k<l.length
   ·have hcs:=jB (l.take k) (l.getD k 0) (m+1)
    rw[←gy l 0 hlt3]at hcs
    by_cases hx:l.getD k 0=m+1
    ·rw[if_pos hx]at hcs
     have hcw:cI l k=fstL l (m+1)+bj (l.take k) (m+1):=by unfold cI fG;rw[hx]
     have cc:=acG l (m+1) k hlt3 (by omega) hx
     have hcd:a7 l k=bitsM (cI l k) (m+1):=by unfold a7;rw[if_neg (by omega),hx]
     have hol:=qg l (m+1) k
     have hoc:=rY (eH l (m+1) k)
     generalize hw:fstL l (m+1)+bj (l.take k) (m+1)=cw at *
     have hcwl:cw≤20971520:=by omega
     refine ck hnl @dQ hx ?_
     refine aK hN (fun i:Nat=>⟨[(0,.ro 1 (an l)),(3,.sl 55011 0 l.length),(4,.int .i64 cw),(5,.int .i64 ((m:Int)+1)),(6,.int .i64 k),(8,.sl 55036 0 i),(9,.int .i64 (cw/2^i:Nat)),(10,.int .i64 i),(26,.ro 1 (an l)),(27,.int .i64 l.length),(28,.int .i64 k)],
      [(55011,.arr 1 (bH (eH l (m+1) k))),(55036,.arr 1 (cp (bitsM cw i)))]⟩) (fun i=>i≤m+1) (fun i=>m+1-i) 0 (.le (by simp(disch:=omega)only[go_sem,simprocAttr,bitsM,wj])) (by omega) ?_
     rintro i R4 hi hR4
     have hbl:=oL i cw
     have hbl2:=jb (bitsM cw i)
     by_cases hi2:i<m+1
     ·have hbc:=vR i cw
      have hR5:=hR4 (i+1)
      have hq2:cw/2^(i+1)=cw/2^i/2:=by rw[Nat.pow_succ,Nat.div_div_eq_div_mul]
      rw[hq2]at hR5
      have hql:cw/2^i≤cw:=Nat.div_le_self _ _
      generalize cw/2^i=q at *
      have e1:((q:Nat):Int).tdiv 2=((q/2:Nat):Int):=by rw[jV (by omega)];omega
      have e2:decide ((q:Int)%2=1)=(q%2==1):=by
       rw[show(q%2==1)=decide (q%2=1)by rfl]
       exact decide_eq_decide.2 (by omega)
      refine cM e1 e2 @kJ @fP @wi ?_
      refine hR5 _ (by omega) (by omega) (.drop 55036 (.fF 55046 55036 rfl vV (.le ?_)))
      rw[hbc]
      refine wW ?_
      rw[H7]
     ·obtain rfl:i=m+1:=by omega
      have hcp:=oT (c:=bitsM cw (m+1)) (by omega)
      rw[hcd,hcw]at cc
      simp(disch:=omega)only[go_sem,simprocAttr,kJ,fP,hol,hoc,I7,mr,wH,←hcp,I8,cc]
      refine hR3 (k+1) _ (by omega) (by omega) (.le ?_)
      rw[hcs,←Nat.add_assoc,hw]
      exact vV
    ·have hos:=acH l (m+1) k hx
     rw[if_neg hx,Nat.add_zero]at hcs
     refine ck hnl @dQ hx ?_
     refine hR3 (k+1) _ (by omega) (by omega) (.le ?_)
     rw[hos,hcs]
     exact vV
   ·obtain rfl:k=l.length:=by omega
    rw[List.take_of_length_le (Nat.le_refl _)]at *
    refine aw hnl ?_
    refine hR2 (m+1) _ (by omega) (by omega) (.le ?_)
    rw[acF,show kP l (m+1)=fstL l (m+1)+bj l (m+1)from if_neg (by omega)]
    exact vV
  ·obtain rfl:m=15:=by omega
   have hcl:=rY (aQ l)
   have hcl2:(aQ l).length=l.length:=by simp[aQ]
   have htk:(bH (aQ l)).take l.length=bH (aQ l):=List.take_of_length_le (by omega)
   have hoe:=acE l hl
   refine wW ?_
   rw[hoe]
   exact hR.wk (h':=[]) (r':=.ro 1 (bH (aQ l))) (ar':=[.undef]) rfl (.bF 55011 (.le (by simp(disch:=omega)only[go_sem,simprocAttr,aM,htk,List.drop_zero]))) ⟨rfl,rfl⟩
theorem af3 (a b:List Bool) (h:b.length<a.length):a.isPrefixOf b=false:=by
 cases hh:a.isPrefixOf b with
 | false=>rfl
 | true=>have:=(List.isPrefixOf_iff_prefix.1 hh).length_le;omega
theorem Bp (b a:List Bool) (hb:b.length≤1000000000) (ha:a.length≤1000000000):aZ Tryz.prog 130 [.ro 1 (cp b),.ro 1 (cp a)] (.bool (a.isPrefixOf b)):=by
 refine Cod.ajo (fun E R hN hR=>?_)
 have hbl:=jb b
 have hal:=jb a
 by_cases hlt:b.length<a.length
 ·have hp:=af3 a b hlt
  refine bm hbl hal ?_
  exact hR.ro ⟨rfl,by rw[hp]⟩
 ·refine bm hbl hal ?_
  refine aK hN (fun i:Nat=>⟨[(0,.ro 1 (cp b)),(1,.ro 1 (cp a)),(12,.int .i64 a.length),(13,.int .i64 i)],[]⟩) (fun i=>i≤a.length∧a.take i=b.take i) (fun i=>a.length-i) 0 (.le vV) ⟨by omega,by simp⟩ ?_
  rintro i R1 ⟨hi,he⟩ hR1
  by_cases hil:i<a.length
  ·have hta:=gy a false hil
   have htb:=gy b false (show i<b.length by omega)
   have hR2:=hR1 (i+1)
   generalize hx:a.getD i false=x at *
   generalize hy:b.getD i false=y at *
   by_cases hxy:x=y
   ·subst hxy
    refine cM hbl hal @tx hx hy ?_
    have hd:(!(x==x))=false:=by simp
    refine aw hd ?_
    exact hR2 _ (by omega) ⟨by omega,by rw[hta,htb,he]⟩ (.le vV)
   ·have hd:(!(x==y))=true:=by simp[hxy]
    have hp:a.isPrefixOf b=false:=by
     cases hh:a.isPrefixOf b with
     | false=>rfl
     | true=>
      obtain⟨r,hr⟩:=List.isPrefixOf_iff_prefix.1 hh
      refine(hxy ?_).elim
      rw[←hx,←hy,←hr,List.getD_eq_getElem?_getD,List.getD_eq_getElem?_getD,List.getElem?_append_left hil]
    refine cM hbl hal @tx hx hy ?_
    refine aw hd ?_
    exact hR.ro ⟨rfl,by rw[hp]⟩
  ·obtain rfl:i=a.length:=by omega
   have hp:a.isPrefixOf b=true:=by
    rw[List.isPrefixOf_iff_prefix,List.prefix_iff_eq_take]
    rw[List.take_length]at he
    exact he
   refine bm hbl hal ?_
   exact hR.ro ⟨rfl,by rw[hp]⟩
theorem Nk {α:Type} {p:α→Bool} {cs:List α} (d:α) (h:∀j,j<cs.length→p (cs.getD j d)=false):cs.findIdx? p=none:=by
 rw[List.findIdx?_eq_none_iff]
 intro c hc
 obtain⟨j,hj,rfl⟩:=List.getElem_of_mem hc
 have:=h j hj
 rw[List.getD_eq_getElem?_getD,List.getElem?_eq_getElem hj]at this
 exact this
theorem Nl {α:Type} {p:α→Bool} {cs:List α} (d:α) {i:Nat} (hi:i<cs.length) (h1:p (cs.getD i d)=true) (h:∀j,j<i→p (cs.getD j d)=false):cs.findIdx? p=some i:=by
 rw[List.findIdx?_eq_some_iff_getElem]
 rw[List.getD_eq_getElem?_getD,List.getElem?_eq_getElem hi]at h1
 refine⟨hi,h1,fun j hj hh=>?_⟩
 have:=h j hj
 rw[List.getD_eq_getElem?_getD,List.getElem?_eq_getElem (by omega)]at this
 simp[hh]at this
theorem ET {α:Type} {p:α→Bool} {cs:List α} (d:α) (h:∀j,j<cs.length→p (cs.getD j d)=true):cs.all p=true:=by
 rw[List.all_eq_true]
 intro c hc
 obtain⟨j,hj,rfl⟩:=List.getElem_of_mem hc
 have:=h j hj
 rw[List.getD_eq_getElem?_getD,List.getElem?_eq_getElem hj]at this
 exact this
theorem Fb {α:Type} {p:α→Bool} {cs:List α} (d:α) {i:Nat} (hi:i<cs.length) (h1:p (cs.getD i d)=true):cs.any p=true:=by
 rw[List.any_eq_true]
 rw[List.getD_eq_getElem?_getD,List.getElem?_eq_getElem hi]at h1
 exact⟨_,List.getElem_mem hi,h1⟩
theorem Fa {α:Type} {p:α→Bool} {cs:List α} (d:α) (h:∀j,j<cs.length→p (cs.getD j d)=false):cs.any p=false:=by
 rw[List.any_eq_false]
 intro c hc
 obtain⟨j,hj,rfl⟩:=List.getElem_of_mem hc
 have:=h j hj
 rw[List.getD_eq_getElem?_getD,List.getElem?_eq_getElem hj]at this
 simp only[Option.getD_some]at this
 rw[this];simp
theorem ES {α:Type} {p:α→Bool} {cs:List α} (d:α) {i:Nat} (hi:i<cs.length) (h1:p (cs.getD i d)=false):cs.all p=false:=by
 rw[List.all_eq_false]
 rw[List.getD_eq_getElem?_getD,List.getElem?_eq_getElem hi]at h1
 refine⟨_,List.getElem_mem hi,?_⟩
 simp only[Option.getD_some]at h1
 rw[h1];simp
set_option maxHeartbeats 1000000 in
theorem alb (cs:List (List Bool)) (b:List Bool) (hcs:cs.length≤100000) (hcl:∀c∈cs,c.length≤1000000) (hb:b.length≤1000000000) :
    aZ Tryz.prog 125 [.ro 1 (bH cs),.ro 1 (cp b)] (.ak [.int .i64 ((readL cs b).1:Nat),.int .i64 ((readL cs b).2.1:Nat),.int .i64 ((readL cs b).2.2:Nat)]):=by
 refine Cod.alc (fun E R hN hR=>?_)
 have hbl:=jb b
 have hcsl:=rY cs
 have hgl:∀i,(cs.getD i []).length≤1000000:=by
  intro i
  by_cases hi:i<cs.length
  ·rw[List.getD_eq_getElem?_getD,List.getElem?_eq_getElem hi];exact hcl _ (List.getElem_mem hi)
  ·rw[List.getD_eq_getElem?_getD,List.getElem?_eq_none (by omega)];simp
 refine aw hcsl ?_
 refine aK hN (fun q:Nat×Bool=>⟨[(0,.ro 1 (bH cs)),(1,.ro 1 (cp b)),(7,.bool q.2),(12,.ro 1 (bH cs)),(13,.int .i64 cs.length),(14,.int .i64 q.1)],[]⟩)
  (fun q=>q.1≤cs.length∧(∀j,j<q.1→cJ b (cs.getD j [])=false)∧(if q.2 then ∃j,j<q.1∧(cs.getD j []).isEmpty=false else ∀j,j<q.1→(cs.getD j []).isEmpty=true)) (fun q=>cs.length-q.1) (0,false) (.le vV) ⟨by omega,fun j h=>by omega,fun j h=>by simp only at h;omega⟩ ?_
 rintro⟨i,sm⟩ R1 ⟨hi,hno,hsm⟩ hR1
 simp only at hi hno hsm
 by_cases hil:i<cs.length
 ·have hg:=hgl i
  by_cases h0:0<(cs.getD i []).length
  ·have hca:=oT h0
   have hne:(cs.getD i []).isEmpty=false:=by cases hh:cs.getD i []with
    | nil=>rw[hh]at h0;simp at h0
    | cons=>rfl
   have hbg:=Bp b (cs.getD i []) hb (by omega)
   have hcb:=jb (cs.getD i [])
   have hhit:cJ b (cs.getD i [])=(cs.getD i []).isPrefixOf b:=by unfold cJ;rw[hne];rfl
   refine eC hcsl @mr hca hcb ?_
   refine aG hbg rfl rfl ?_
   cases hp:(cs.getD i []).isPrefixOf b with
   | true=>
    rw[hp]at hhit
    have hr:readL cs b=(i,(cs.getD i []).length,0):=by unfold readL;rw[Nl [] hil hhit hno]
    rw[hr]at hR
    refine aw hcb ?_
    exact hR.ro ⟨rfl,rfl⟩
   | false=>
    rw[hp]at hhit
    refine wW ?_
    refine hR1 (i+1,true) _ (by simp only;omega) ⟨by simp only;omega,fun j hj=>?_,by simp only[if_true];exact⟨i,by omega,hne⟩⟩ (.le vV)
    simp only at hj
    by_cases hji:j=i
    ·rw[hji];exact hhit
    ·exact hno j (by omega)
  ·have hci:cs.getD i []=[]:=List.length_eq_zero_iff.1 (by omega)
   have hca:cA (cs.getD i [])=.al:=by rw[hci];rfl
   refine ck hcsl @mr hca ?_
   refine hR1 (i+1,sm) _ (by simp only;omega) ⟨by simp only;omega,fun j hj=>?_,?_⟩ (.le vV)
   ·simp only at hj
    by_cases hji:j=i
    ·rw[hji,hci];rfl
    ·exact hno j (by omega)
   ·cases sm with
    | true=>
     simp only[if_true]at hsm ⊢
     obtain⟨j,h1,h2⟩:=hsm
     exact⟨j,by omega,h2⟩
    | false=>
     intro j hj
     simp only at hj
     by_cases hji:j=i
     ·rw[hji,hci];rfl
     ·exact hsm j (by omega)
 ·obtain rfl:i=cs.length:=by omega
  have hfn:=Nk (p:=cJ b) [] hno
  unfold readL at hR
  rw[hfn]at hR
  simp only at hR
  cases sm with
  | false=>
   have hae:cs.all (·.isEmpty)=true:=ET [] hsm
   rw[hae,if_pos rfl]at hR
   refine aw hcsl ?_
   exact hR.ro ⟨rfl,rfl⟩
  | true=>
   obtain⟨j,hj,hje⟩:=hsm
   have hae:cs.all (·.isEmpty)=false:=ES [] hj hje
   rw[hae,if_neg (by simp)]at hR
   refine aw hcsl ?_
   refine aK hN (fun i:Nat=>⟨[(1,.ro 1 (cp b)),(31,.ro 1 (bH cs)),(32,.int .i64 cs.length),(33,.int .i64 i)],[]⟩)
    (fun i=>i≤cs.length∧∀j,j<i→(decide (b.length<(cs.getD j []).length)&&b.isPrefixOf (cs.getD j []))=false) (fun i=>cs.length-i) 0 (.le vV) ⟨by omega,fun j h=>by omega⟩ ?_
   rintro i R2 ⟨hi,hno2⟩ hR2
   by_cases hil:i<cs.length
   ·have hg:=hgl i
    have go:(decide (b.length<(cs.getD i []).length)&&b.isPrefixOf (cs.getD i []))=false→R2.ap ⟨[(1,.ro 1 (cp b)),(31,.ro 1 (bH cs)),(32,.int .i64 cs.length),(33,.int .i64 ((i:Int)+1))],[]⟩:=by
     intro h
     refine hR2 (i+1) _ (by omega) ⟨by omega,fun j hj=>?_⟩ (.le vV)
     by_cases hji:j=i
     ·rw[hji];exact h
     ·exact hno2 j (by omega)
    by_cases hlt:b.length<(cs.getD i []).length
    ·have hca:=oT (c:=cs.getD i []) (by omega)
     have hcb:=jb (cs.getD i [])
     have hbg:=Bp (cs.getD i []) b (by omega) hb
     refine cM hcsl @mr hca hcb hbl ?_
     refine gG ?_
     refine fL (jA vV hbg vV rfl rfl ?_)
     cases hp:b.isPrefixOf (cs.getD i [])with
     | true=>
      rw[if_pos (Fb [] hil (by rw[hp,decide_eq_true hlt];rfl))]at hR
      refine wW ?_
      exact hR.ro ⟨rfl,rfl⟩
     | false=>
      refine wW ?_
      exact go (by rw[hp,Bool.and_false])
    ·have hgo:=go (by rw[decide_eq_false hlt];rfl)
     by_cases h0:0<(cs.getD i []).length
     ·have hca:=oT h0
      have hcb:=jb (cs.getD i [])
      refine cM hcsl @mr hca hcb hbl ?_
      refine gG ?_
      exact hgo
     ·have hci:cs.getD i []=[]:=List.length_eq_zero_iff.1 (by omega)
      have hca:cA (cs.getD i [])=.al:=by rw[hci];rfl
      refine eC hcsl @mr hca hbl ?_
      refine gG ?_
      exact hgo
   ·obtain rfl:i=cs.length:=by omega
    rw[if_neg (by rw[Fa [] hno2];simp)]at hR
    refine aw hcsl ?_
    exact hR.ro ⟨rfl,rfl⟩
theorem Bn (n:Nat) (h:n≤10000000000000):aZ Tryz.prog 88 [.int .i64 n] (.int .i64 (cS n:Nat)):=by
 refine Cod.ai7 (fun E R hN hR=>?_)
 have e:((n:Int)+7)/8*8=((cS n:Nat):Int):=by unfold cS;omega
 refine aw e ?_
 exact hR.ro ⟨rfl,rfl⟩
end Go.Proofs.YtjoefngnjoofeaaGreatDoor.Pk
namespace Go.Proofs.YtjoefngnjoofeaaGreatDoor.Cod
open Eng Eng.Kz
set_option maxRecDepth 100000
abbrev U1:AK:=.seq (.aa [k 4 (ci 0)] [4,2000000,2000001]) .ret
abbrev U0:AK:=.seq (.aa [m 15 0,m 16 0,.v 17 (.ao (.t 16)),.v 18 (.ai false 1 1 (.t 17)),.v 19 (.ld false 1 (.t 18)),m 20 1,.eff 21 false 60021 (.aW 1 [(.t 20)]),.eff 22 false 60022 (.app 1 1 (.t 19) (.t 21)),.v 23 (.ao (.t 15)),.v 24 (.ai false 1 1 (.t 23)),.aH false 60000 (.st 1 (.t 24) (.t 22))] [2000000,2000001]) U1
abbrev U3:AK:=.seq (.aa [k 4 (ci 2)] [4,2000000,2000001]) .ret
abbrev U2:AK:=.seq (.aa [u 60005 5 (.ah (.t 0)),u 60006 6 (.ao (.t 5)),u 60007 7 (.ai false 1 1 (.t 6)),u 60008 8 (.ld false 1 (.t 7)),u 60009 9 (.len false (.t 8)),u 60010 10 (.ah (.t 0)),u 60011 11 (.ao (.t 10)),u 60012 12 (.ai false 2 1 (.t 11)),u 60013 13 (.ld false 1 (.t 12)),b 14 .eql 9 13] [0,1,14,2000000,2000001]) (.cond (.t 14) U3 .skip)
abbrev UZ:AK:=.seq U2 U0
abbrev UY:AK:=.seq (.aa [k 4 (ci 0)] [0,1,2000000,2000001]) UZ
abbrev yU:AK:=UY
theorem U4:aA Tryz.prog 107 60000 2 yU [.tmp 4]:=⟨_,Tryz.func107,by kernel_rfl⟩
theorem U5 {h a0 a1 Post} (hp:aD Tryz.prog yU [.tmp 4] 2 [(0,a0),(1,a1),(2000000,a0),(2000001,a1)] h Post):Eng.Spec Tryz.prog 107 h [a0,a1] Post:=aE U4 rfl [(0,a0),(1,a1),(2000000,a0),(2000001,a1)] ⟨rfl,rfl,rfl,rfl,trivial⟩ hp
abbrev WC:AK:=.seq (.aa [k 2 (ci 0)] [2,2000000]) .ret
abbrev WE:AK:=.seq (.aa [k 2 (ci 6)] [2,2000000]) .ret
abbrev WD:AK:=.seq (.aa [m 75 4,.v 76 (.un .not (.t 75))] [76,2000000]) (.cond (.t 76) WE .skip)
abbrev WX:AK:=.seq WD WC
abbrev WW:AK:=.seq (.aa [m 66 0,m 67 0,.v 68 (.ao (.t 67)),.v 69 (.ai false 1 1 (.t 68)),.v 70 (.ld false 1 (.t 69)),m 71 6,.eff 72 false 61072 (.app 1 1 (.t 70) (.t 71)),.v 73 (.ao (.t 66)),.v 74 (.ai false 1 1 (.t 73)),.aH false 61000 (.st 1 (.t 74) (.t 72))] [4,2000000]) WX
abbrev WH:AK:=.seq (.aa [k 2 (ci 2)] [2,2000000]) .ret
abbrev WG:AK:=.seq (.aa [u 61053 53 (.ah (.t 6)),u 61054 54 (.len true (.t 53)),u 61055 55 (.ah (.t 0)),u 61056 56 (.ao (.t 55)),u 61057 57 (.ai false 2 1 (.t 56)),u 61058 58 (.ld false 1 (.t 57)),u 61059 59 (.ah (.t 0)),u 61060 60 (.ao (.t 59)),u 61061 61 (.ai false 1 1 (.t 60)),u 61062 62 (.ld false 1 (.t 61)),u 61063 63 (.len false (.t 62)),u 61064 64 (.bin .sub (.t 58) (.t 63)),b 65 .gtr 54 64] [0,4,6,65,2000000]) (.cond (.t 65) WH .skip)
abbrev WV:AK:=.seq WG WW
abbrev WJ:AK:=.aa [u 61040 40 (.ah (.t 0)),u 61041 41 (.ao (.t 40)),u 61042 42 (.ai false 0 1 (.t 41)),u 61043 43 (.ld false 1 (.t 42)),u 61044 44 (.ah (.t 0)),u 61045 45 (.ao (.t 44)),u 61046 46 (.ai false 0 1 (.t 45)),u 61047 47 (.ld false 1 (.t 46)),.aj (some 48) true 61048 123 [(.t 47)],u 61049 49 (.bin .quo (.t 48) (ci 8)),.aj (some 50) false 61050 121 [(.t 43),(.t 49)],m 39 50,u 61051 51 (.ext (.t 39) 0),u 61052 52 (.ext (.t 39) 1),u 61006 6 (.ah (.t 51))] [0,4,6,2000000]
abbrev WI:AK:=.seq (.aa [m 37 4,.v 38 (.un .not (.t 37))] [0,4,6,38,2000000]) (.cond (.t 38) WJ .skip)
def za:AK:=.seq WI (.bc WV)
abbrev WU:AK:=.seq (.aa [m 29 0,.v 30 (.ao (.t 29)),.v 31 (.ai false 0 1 (.t 30)),.v 32 (.ld false 1 (.t 31)),m 33 5,.aj (some 34) false 61034 121 [(.t 32),(.t 33)],m 28 34,.v 35 (.ext (.t 28) 0),.v 36 (.ext (.t 28) 1),m 6 35,m 4 36] [0,4,6,2000000]) za
abbrev WM:AK:=.seq (.aa [k 2 (ci 3)] [2,2000000]) .ret
abbrev WL:AK:=.seq (.aa [m 21 5,bi 22 .xor 21 65535,m 23 3,.v 24 (.bK (.t 23) (some (ci 2)) none),.aj (some 25) false 61025 122 [(.t 24)],.v 26 (.aV .i64 (.t 25)),b 27 .neq 22 26] [0,5,27,2000000]) (.cond (.t 27) WM .skip)
abbrev WT:AK:=.seq WL WU
abbrev WS:AK:=.seq (.aa [m 17 3,.v 18 (.bK (.t 17) none (some (ci 2))),.aj (some 19) false 61019 122 [(.t 18)],.v 20 (.aV .i64 (.t 19)),m 5 20] [0,3,5,2000000]) WT
abbrev WQ:AK:=.seq (.aa [k 2 (ci 6)] [2,2000000]) .ret
abbrev WN:AK:=.seq (.aa [m 15 4,.v 16 (.un .not (.t 15))] [0,3,16,2000000]) (.cond (.t 16) WQ .skip)
abbrev WK:AK:=.seq WN WS
abbrev WB:AK:=.seq (.aa [m 8 0,.v 9 (.ao (.t 8)),.v 10 (.ai false 0 1 (.t 9)),.v 11 (.ld false 1 (.t 10)),.aj (some 12) false 61012 121 [(.t 11),(ci 4)],m 7 12,.v 13 (.ext (.t 7) 0),.v 14 (.ext (.t 7) 1),m 3 13,m 4 14] [0,3,4,2000000]) WK
abbrev WA:AK:=.seq (.aa [k 2 (ci 0)] [0,2000000]) WB
abbrev y9:AK:=WA
theorem WY:aA Tryz.prog 104 61000 1 y9 [.tmp 2]:=⟨_,Tryz.func104,by kernel_rfl⟩
theorem W3 {h a0 Post} (hp:aD Tryz.prog y9 [.tmp 2] 1 [(0,a0),(2000000,a0)] h Post):Eng.Spec Tryz.prog 104 h [a0] Post:=aE WY rfl [(0,a0),(2000000,a0)] ⟨rfl,rfl,trivial⟩ hp
abbrev Xm:AK:=.seq (.aa [m 184 24,m 185 26,m 2 184,m 3 185,k 4 (ci 0)] [2,3,4,2000000]) .ret
abbrev Xo:AK:=.seq (.aa [k 2 (.c (.lit (.pointer none))),k 3 (.c (.lit (.pointer none))),k 4 (ci 3)] [2,3,4,2000000]) .ret
abbrev Xn:AK:=.seq (.aa [m 172 16,.v 173 (.aO 1 (.t 172) (ci 256)),.v 174 (.ld false 1 (.t 173)),bi 175 .eql 174 0,m 176 175,.af 177 176 false false 62177 (.ah (.t 25)),.af 178 176 false false 62178 (.bin .neq (.t 177) (ci 0)),.v 179 (.pick (.t 176) (.c (.bool true)) (.t 178)),m 180 179,.af 181 180 false false 62181 (.ah (.t 27)),.af 182 180 false false 62182 (.bin .neq (.t 181) (ci 0)),.v 183 (.pick (.t 180) (.c (.bool true)) (.t 182))] [24,26,183,2000000]) (.cond (.t 183) Xo .skip)
abbrev Xl:AK:=.seq Xn Xm
abbrev Xk:AK:=.seq (.aa [m 166 16,m 167 7,.v 168 (.fI 1 (.t 166) (some (.t 167)) none),.aj (some 169) false 62169 115 [(.t 168)],m 165 169,.v 170 (.ext (.t 165) 0),.v 171 (.ext (.t 165) 1),m 26 170,m 27 171] [16,24,25,26,27,2000000]) Xl
abbrev ta:AK:=.seq (.aa [m 159 16,m 160 7,.v 161 (.fI 1 (.t 159) none (some (.t 160))),.aj (some 162) false 62162 115 [(.t 161)],m 158 162,.v 163 (.ext (.t 158) 0),.v 164 (.ext (.t 158) 1),m 24 163,m 25 164] [7,16,24,25,2000000]) Xk
abbrev XD:AK:=.aa [bi 157 .add 151 1,m 151 157] [0,7,8,14,16,21,150,151,2000000]
abbrev XE:AK:=.aa [m 153 16,m 154 21,.eff 155 false 62155 (.aW 1 [(.t 154)]),.eff 156 false 62156 (.app 1 8 (.t 153) (.t 155)),m 16 156] [0,7,8,14,16,21,150,151,2000000]
abbrev XC:AK:=.seq (.block 6 XE) XD
abbrev XB:AK:=.seq (.cond (.t 152) .skip (.exit 5)) XC
abbrev XA:AK:=.seq (.aa [b 152 .lss 151 150] [0,7,8,14,16,21,150,151,152,2000000]) XB
abbrev Yl:AK:=.loop XA
abbrev Xy:AK:=.seq (.aa [m 147 20,m 148 22,.v 149 (.aV .i64 (.t 148)),b 150 .add 147 149,k 151 (ci 0)] [0,7,8,14,16,21,150,151,2000000]) (.block 5 Yl)
abbrev XH:AK:=.seq (.aa [k 2 (.c (.lit (.pointer none))),k 3 (.c (.lit (.pointer none))),k 4 (ci 3)] [2,3,4,2000000]) .ret
abbrev XF:AK:=.seq (.aa [m 136 16,.v 137 (.len false (.t 136)),m 138 20,b 139 .add 137 138,m 140 22,.v 141 (.aV .i64 (.t 140)),b 142 .add 139 141,m 143 7,m 144 8,b 145 .add 143 144,b 146 .gtr 142 145] [0,7,8,14,16,20,21,22,146,2000000]) (.cond (.t 146) XH .skip)
abbrev Xx:AK:=.seq XF Xy
abbrev XJ:AK:=.seq (.aa [k 2 (.c (.lit (.pointer none))),k 3 (.c (.lit (.pointer none))),k 4 (ci 6)] [2,3,4,2000000]) .ret
abbrev XI:AK:=.seq (.aa [m 134 23,.v 135 (.un .not (.t 134))] [0,7,8,14,16,20,21,22,135,2000000]) (.cond (.t 135) XJ .skip)
abbrev Xw:AK:=.seq XI Xx
abbrev tb:AK:=.seq (.aa [m 126 0,.v 127 (.ao (.t 126)),.v 128 (.ai false 0 1 (.t 127)),.v 129 (.ld false 1 (.t 128)),m 130 19,.aj (some 131) false 62131 103 [(.t 129),(.t 130)],m 125 131,.v 132 (.ext (.t 125) 0),.v 133 (.ext (.t 125) 1),m 22 132,m 23 133] [0,7,8,14,16,20,21,22,23,2000000]) Xw
abbrev XN:AK:=.aa [m 117 16,m 118 16,.v 119 (.len false (.t 118)),bi 120 .sub 119 1,.v 121 (.aO 1 (.t 117) (.t 120)),.v 122 (.ld false 1 (.t 121)),m 21 122] [0,7,8,14,16,19,20,21,2000000]
abbrev XQ:AK:=.seq (.aa [k 2 (.c (.lit (.pointer none))),k 3 (.c (.lit (.pointer none))),k 4 (ci 3)] [2,3,4,2000000]) .ret
abbrev XP:AK:=.seq (.aa [m 114 16,.v 115 (.len false (.t 114)),bi 116 .eql 115 0] [0,7,8,14,16,19,20,116,2000000]) (.cond (.t 116) XQ .skip)
abbrev XM:AK:=.seq XP XN
abbrev XS:AK:=.aa [k 19 (ci 3)] [0,7,8,14,16,19,20,21,2000000]
abbrev XT:AK:=.aa [k 19 (ci 7),k 20 (ci 11)] [0,7,8,14,16,19,20,21,2000000]
abbrev XR:AK:=.seq (.aa [bi 124 .eql 111 17,m 123 124] [0,7,8,14,16,20,21,123,2000000]) (.cond (.t 123) XS XT)
abbrev XL:AK:=.seq (.aa [bi 113 .eql 111 16,m 112 113] [0,7,8,14,16,19,20,21,111,112,2000000]) (.cond (.t 112) XM XR)
abbrev XK:AK:=.seq (.aa [m 111 17] [0,7,8,14,16,19,20,21,111,2000000]) (.block 4 XL)
def Xv:AK:=.seq XK (.bc tb)
abbrev Xu:AK:=.seq (.aa [k 19 (ci 2),k 20 (ci 3),k 21 (ci 0)] [0,7,8,14,16,17,19,20,21,2000000]) Xv
abbrev XV:AK:=.seq (.aa [m 107 16,m 108 17,.eff 109 false 62109 (.aW 1 [(.t 108)]),.eff 110 false 62110 (.app 1 8 (.t 107) (.t 109)),m 16 110] [0,7,8,14,16,2000000]) (.exit 3)
abbrev XU:AK:=.seq (.aa [m 105 17,bi 106 .lss 105 16] [0,7,8,14,16,17,106,2000000]) (.cond (.t 106) XV .skip)
abbrev Xt:AK:=.seq XU Xu
abbrev XY:AK:=.seq (.aa [m 104 18,k 2 (.c (.lit (.pointer none))),k 3 (.c (.lit (.pointer none))),m 4 104] [2,3,4,2000000]) .ret
abbrev XW:AK:=.seq (.aa [m 102 18,bi 103 .neq 102 0] [0,7,8,14,16,17,18,103,2000000]) (.cond (.t 103) XY .skip)
abbrev Xs:AK:=.seq XW Xt
abbrev Xr:AK:=.seq (.aa [m 94 14,m 95 0,.v 96 (.ao (.t 95)),.v 97 (.ai false 0 1 (.t 96)),.v 98 (.ld false 1 (.t 97)),.aj (some 99) false 62099 106 [(.t 94),(.t 98)],m 93 99,.v 100 (.ext (.t 93) 0),.v 101 (.ext (.t 93) 1),m 17 100,m 18 101] [0,7,8,14,16,17,18,2000000]) Xs
abbrev XZ:AK:=.seq (.aa [m 87 16,.v 88 (.len false (.t 87)),m 89 7,m 90 8,b 91 .add 89 90,b 92 .lss 88 91] [0,7,8,14,16,92,2000000]) (.cond (.t 92) .skip (.exit 2))
abbrev Xp:AK:=.seq XZ (.block 3 Xr)
abbrev Yk:AK:=.loop Xp
def ze:AK:=.seq (.block 2 Yk) (.bc ta)
abbrev Yj:AK:=.seq (.aa [k 16 (.c (.al))] [0,7,8,14,16,2000000]) ze
abbrev X2:AK:=.seq (.aa [k 2 (.c (.lit (.pointer none))),k 3 (.c (.lit (.pointer none))),k 4 (ci 3)] [2,3,4,2000000]) .ret
abbrev X1:AK:=.seq (.aa [m 85 15,bi 86 .neq 85 0] [0,7,8,14,86,2000000]) (.cond (.t 86) X2 .skip)
abbrev Yd:AK:=.seq X1 Yj
abbrev zg:AK:=.seq (.aa [m 81 10,.aj (some 82) false 62082 115 [(.t 81)],m 80 82,.v 83 (.ext (.t 80) 0),.v 84 (.ext (.t 80) 1),m 14 83,m 15 84] [0,7,8,14,15,2000000]) Yd
abbrev X7:AK:=.aa [bi 79 .add 59 1,m 59 79] [0,7,8,10,58,59,2000000]
abbrev Yb:AK:=.aa [m 72 10,.aj (some 73) false 62073 124 [],m 74 11,.v 75 (.me 19 (.t 73) (.t 74)),m 76 12,.v 77 (.aV .i64 (.t 76)),.v 78 (.aO 1 (.t 72) (.t 75)),.aH false 62000 (.st 1 (.t 78) (.t 77))] [0,7,8,10,58,59,2000000]
abbrev Ye:AK:=.seq (.aa [k 2 (.c (.lit (.pointer none))),k 3 (.c (.lit (.pointer none))),k 4 (ci 6)] [2,3,4,2000000]) .ret
abbrev Yc:AK:=.seq (.aa [m 70 13,.v 71 (.un .not (.t 70))] [0,7,8,10,11,12,58,59,71,2000000]) (.cond (.t 71) Ye .skip)
abbrev Ya:AK:=.seq Yc Yb
abbrev X9:AK:=.seq (.aa [m 63 0,.v 64 (.ao (.t 63)),.v 65 (.ai false 0 1 (.t 64)),.v 66 (.ld false 1 (.t 65)),.aj (some 67) false 62067 103 [(.t 66),(ci 3)],m 62 67,.v 68 (.ext (.t 62) 0),.v 69 (.ext (.t 62) 1),m 12 68,m 13 69] [0,7,8,10,11,12,13,58,59,2000000]) Ya
abbrev X8:AK:=.seq (.aa [m 61 59,m 11 61] [0,7,8,10,11,58,59,2000000]) X9
abbrev X6:AK:=.seq (.block 1 X8) X7
abbrev X5:AK:=.seq (.cond (.t 60) .skip (.exit 0)) X6
abbrev X4:AK:=.seq (.aa [b 60 .lss 59 58] [0,7,8,10,58,59,60,2000000]) X5
abbrev Ym:AK:=.loop X4
abbrev X3:AK:=.seq (.aa [m 58 9,k 59 (ci 0)] [0,7,8,10,58,59,2000000]) (.block 0 Ym)
def zf:AK:=.seq X3 (.bc zg)
abbrev XO:AK:=.seq (.aa [.eff 57 false 62057 (.ki 1 8 [.int .i64 0] (ci 19) (ci 19)),m 10 57] [0,7,8,9,10,2000000]) zf
abbrev Yg:AK:=.seq (.aa [k 2 (.c (.lit (.pointer none))),k 3 (.c (.lit (.pointer none))),k 4 (ci 3)] [2,3,4,2000000]) .ret
abbrev Yf:AK:=.seq (.aa [m 51 7,bi 52 .gtr 51 286,m 53 52,.af 54 53 false false 62054 (.ah (.t 8)),.af 55 53 false false 62055 (.bin .gtr (.t 54) (ci 30)),.v 56 (.pick (.t 53) (.c (.bool true)) (.t 55))] [0,7,8,9,56,2000000]) (.cond (.t 56) Yg .skip)
abbrev XG:AK:=.seq Yf XO
abbrev Xz:AK:=.seq (.aa [m 38 5,.v 39 (.bin .and (.t 38) (.c (.int .u32 31))),.v 40 (.aV .i64 (.t 39)),bi 41 .add 40 257,m 42 5,.v 43 (.bin .shr (.t 42) (.c (.int .u64 5))),.v 44 (.bin .and (.t 43) (.c (.int .u32 31))),.v 45 (.aV .i64 (.t 44)),bi 46 .add 45 1,m 47 5,.v 48 (.bin .shr (.t 47) (.c (.int .u64 10))),.v 49 (.aV .i64 (.t 48)),bi 50 .add 49 4,m 7 41,m 8 46,m 9 50] [0,7,8,9,2000000]) XG
abbrev Yi:AK:=.seq (.aa [k 2 (.c (.lit (.pointer none))),k 3 (.c (.lit (.pointer none))),k 4 (ci 6)] [2,3,4,2000000]) .ret
abbrev Yh:AK:=.seq (.aa [m 36 6,.v 37 (.un .not (.t 36))] [0,5,37,2000000]) (.cond (.t 37) Yi .skip)
abbrev Xq:AK:=.seq Yh Xz
abbrev Xj:AK:=.seq (.aa [m 29 0,.v 30 (.ao (.t 29)),.v 31 (.ai false 0 1 (.t 30)),.v 32 (.ld false 1 (.t 31)),.aj (some 33) false 62033 103 [(.t 32),(ci 14)],m 28 33,.v 34 (.ext (.t 28) 0),.v 35 (.ext (.t 28) 1),m 5 34,m 6 35] [0,5,6,2000000]) Xq
abbrev Xi:AK:=.seq (.aa [k 2 (.c (.lit (.pointer none))),k 3 (.c (.lit (.pointer none))),k 4 (ci 0)] [0,2000000]) Xj
abbrev zd:AK:=Xi
theorem Yn:aA Tryz.prog 105 62000 1 zd [.tmp 2,.tmp 3,.tmp 4]:=⟨_,Tryz.func105,by kernel_rfl⟩
theorem Yp {h a0 Post} (hp:aD Tryz.prog zd [.tmp 2,.tmp 3,.tmp 4] 1 [(0,a0),(2000000,a0)] h Post):Eng.Spec Tryz.prog 105 h [a0] Post:=aE Yn rfl [(0,a0),(2000000,a0)] ⟨rfl,rfl,trivial⟩ hp
abbrev Vd:AK:=.seq (.aa [k 6 (ci 0)] [6,2000000,2000001,2000002]) .ret
abbrev Vj:AK:=.aa [bi 100 .add 80 1,m 80 100] [0,13,79,80,2000000,2000001,2000002]
abbrev Vm:AK:=.seq (.aa [m 99 14,m 6 99] [6,2000000,2000001,2000002]) .ret
abbrev Vl:AK:=.seq (.aa [m 97 14,bi 98 .neq 97 0] [0,13,14,79,80,98,2000000,2000001,2000002]) (.cond (.t 98) Vm .skip)
abbrev Vk:AK:=.seq (.aa [u 63082 82 (.ah (.t 0)),u 63083 83 (.ah (.t 0)),u 63084 84 (.ao (.t 83)),u 63085 85 (.ai false 1 1 (.t 84)),u 63086 86 (.ld false 1 (.t 85)),u 63087 87 (.ah (.t 0)),u 63088 88 (.ao (.t 87)),u 63089 89 (.ai false 1 1 (.t 88)),u 63090 90 (.ld false 1 (.t 89)),u 63091 91 (.len false (.t 90)),u 63092 92 (.ah (.t 13)),u 63093 93 (.bin .sub (.t 91) (.t 92)),.v 94 (.aO 1 (.t 86) (.t 93)),.v 95 (.ld false 1 (.t 94)),.aj (some 96) false 63096 107 [(.t 82),(.t 95)],m 14 96] [0,13,14,79,80,2000000,2000001,2000002]) Vl
abbrev Vi:AK:=.seq (.block 1 Vk) Vj
abbrev Vg:AK:=.seq (.cond (.t 81) .skip (.exit 0)) Vi
abbrev Vf:AK:=.seq (.aa [b 81 .lss 80 79] [0,13,79,80,81,2000000,2000001,2000002]) Vg
abbrev VG:AK:=.loop Vf
abbrev Ve:AK:=.seq (.aa [m 79 7,k 80 (ci 0)] [0,13,79,80,2000000,2000001,2000002]) (.block 0 VG)
abbrev Vc:AK:=.seq Ve Vd
abbrev Vp:AK:=.seq (.aa [k 6 (ci 3)] [6,2000000,2000001,2000002]) .ret
abbrev Vn:AK:=.seq (.aa [m 72 13,m 73 0,.v 74 (.ao (.t 73)),.v 75 (.ai false 1 1 (.t 74)),.v 76 (.ld false 1 (.t 75)),.v 77 (.len false (.t 76)),b 78 .gtr 72 77] [0,7,13,78,2000000,2000001,2000002]) (.cond (.t 78) Vp .skip)
abbrev Vb:AK:=.seq Vn Vc
abbrev Va:AK:=.seq (.aa [m 68 13,m 69 9,.v 70 (.aV .i64 (.t 69)),b 71 .add 68 70,m 13 71] [0,7,13,2000000,2000001,2000002]) Vb
abbrev Vr:AK:=.seq (.aa [k 6 (ci 6)] [6,2000000,2000001,2000002]) .ret
abbrev Vq:AK:=.seq (.aa [m 66 10,.v 67 (.un .not (.t 66))] [0,7,9,13,67,2000000,2000001,2000002]) (.cond (.t 67) Vr .skip)
abbrev U9:AK:=.seq Vq Va
abbrev U8:AK:=.seq (.aa [m 58 0,.v 59 (.ao (.t 58)),.v 60 (.ai false 0 1 (.t 59)),.v 61 (.ld false 1 (.t 60)),m 62 8,.aj (some 63) false 63063 103 [(.t 61),(.t 62)],m 57 63,.v 64 (.ext (.t 57) 0),.v 65 (.ext (.t 57) 1),m 9 64,m 10 65] [0,7,9,10,13,2000000,2000001,2000002]) U9
abbrev VF:AK:=.seq (.aa [m 53 11,.aj (some 54) false 63054 97 [(.t 53)],m 52 54,.v 55 (.ext (.t 52) 0),.v 56 (.ext (.t 52) 1),m 13 55,m 8 56] [0,7,8,13,2000000,2000001,2000002]) U8
abbrev Vt:AK:=.seq (.aa [k 6 (ci 3)] [6,2000000,2000001,2000002]) .ret
abbrev Vs:AK:=.seq (.aa [m 50 11,bi 51 .gtr 50 29] [0,7,11,51,2000000,2000001,2000002]) (.cond (.t 51) Vt .skip)
abbrev VE:AK:=.seq Vs VF
abbrev Vv:AK:=.seq (.aa [m 49 12,m 6 49] [6,2000000,2000001,2000002]) .ret
abbrev Vu:AK:=.seq (.aa [m 47 12,bi 48 .neq 47 0] [0,7,11,12,48,2000000,2000001,2000002]) (.cond (.t 48) Vv .skip)
abbrev VD:AK:=.seq Vu VE
abbrev VC:AK:=.seq (.aa [m 39 2,m 40 0,.v 41 (.ao (.t 40)),.v 42 (.ai false 0 1 (.t 41)),.v 43 (.ld false 1 (.t 42)),.aj (some 44) false 63044 106 [(.t 39),(.t 43)],m 38 44,.v 45 (.ext (.t 38) 0),.v 46 (.ext (.t 38) 1),m 11 45,m 12 46] [0,7,11,12,2000000,2000001,2000002]) VD
abbrev VB:AK:=.seq (.aa [m 34 7,m 35 9,.v 36 (.aV .i64 (.t 35)),b 37 .add 34 36,m 7 37] [0,2,7,2000000,2000001,2000002]) VC
abbrev Vy:AK:=.seq (.aa [k 6 (ci 6)] [6,2000000,2000001,2000002]) .ret
abbrev Vx:AK:=.seq (.aa [m 32 10,.v 33 (.un .not (.t 32))] [0,2,7,9,33,2000000,2000001,2000002]) (.cond (.t 33) Vy .skip)
abbrev Vw:AK:=.seq Vx VB
abbrev Vo:AK:=.seq (.aa [m 24 0,.v 25 (.ao (.t 24)),.v 26 (.ai false 0 1 (.t 25)),.v 27 (.ld false 1 (.t 26)),m 28 8,.aj (some 29) false 63029 103 [(.t 27),(.t 28)],m 23 29,.v 30 (.ext (.t 23) 0),.v 31 (.ext (.t 23) 1),m 9 30,m 10 31] [0,2,7,9,10,2000000,2000001,2000002]) Vw
abbrev Vh:AK:=.seq (.aa [m 18 1,bi 19 .sub 18 257,.aj (some 20) false 63020 96 [(.t 19)],m 17 20,.v 21 (.ext (.t 17) 0),.v 22 (.ext (.t 17) 1),m 7 21,m 8 22] [0,2,7,8,2000000,2000001,2000002]) Vo
abbrev VA:AK:=.seq (.aa [k 6 (ci 3)] [6,2000000,2000001,2000002]) .ret
abbrev Vz:AK:=.seq (.aa [m 15 1,bi 16 .gtr 15 285] [0,1,2,16,2000000,2000001,2000002]) (.cond (.t 16) VA .skip)
abbrev U7:AK:=.seq Vz Vh
abbrev U6:AK:=.seq (.aa [k 6 (ci 0)] [0,1,2,2000000,2000001,2000002]) U7
abbrev yW:AK:=U6
theorem VH:aA Tryz.prog 108 63000 3 yW [.tmp 6]:=⟨_,Tryz.func108,by kernel_rfl⟩
theorem VJ {h a0 a1 a2 Post} (hp:aD Tryz.prog yW [.tmp 6] 3 [(0,a0),(1,a1),(2,a2),(2000000,a0),(2000001,a1),(2000002,a2)] h Post):Eng.Spec Tryz.prog 108 h [a0,a1,a2] Post:=aE VH rfl [(0,a0),(1,a1),(2,a2),(2000000,a0),(2000001,a1),(2000002,a2)] ⟨rfl,rfl,rfl,rfl,rfl,rfl,trivial⟩ hp
abbrev VR:AK:=.seq (.aa [k 2 (ci 0)] [2,2000000]) .ret
abbrev VS:AK:=.seq (.aa [m 72 3,.v 73 (.bin .and (.t 72) (.c (.int .u32 1))),.v 74 (.bin .eql (.t 73) (.c (.int .u32 0)))] [0,74,2000000]) (.cond (.t 74) (.goto 0) .skip)
abbrev yZ:AK:=.seq VS VR
abbrev VQ:AK:=.seq (.label 1) yZ
abbrev VU:AK:=.seq (.aa [m 71 5,m 2 71] [2,2000000]) .ret
abbrev VP:AK:=.seq VU VQ
abbrev VV:AK:=.seq (.aa [m 69 5,bi 70 .eql 69 0] [0,3,5,7,8,70,2000000]) (.cond (.t 70) (.goto 2) .skip)
abbrev yY:AK:=.seq VV VP
abbrev VX:AK:=.aa [m 61 0,m 62 6,.v 63 (.aV .u8 (.t 62)),.aj (some 64) false 64064 107 [(.t 61),(.t 63)],m 5 64] [0,3,5,7,8,2000000]
abbrev VY:AK:=.aa [m 65 0,m 66 6,m 67 8,.aj (some 68) false 64068 108 [(.t 65),(.t 66),(.t 67)],m 5 68] [0,3,5,7,8,2000000]
abbrev VW:AK:=.seq (.aa [m 59 6,bi 60 .lss 59 256] [0,3,6,7,8,60,2000000]) (.cond (.t 60) VX VY)
def VO:AK:=.seq VW (.bc yY)
abbrev VZ:AK:=.seq (.aa [m 57 6,bi 58 .eql 57 256] [0,3,6,7,8,58,2000000]) (.cond (.t 58) (.goto 1) .skip)
abbrev VN:AK:=.seq VZ VO
abbrev V5:AK:=.seq (.aa [m 56 5,m 2 56] [2,2000000]) .ret
abbrev V4:AK:=.seq (.aa [m 54 5,bi 55 .neq 54 0] [0,3,5,6,7,8,55,2000000]) (.cond (.t 55) V5 .skip)
abbrev V3:AK:=.seq (.aa [m 46 7,m 47 0,.v 48 (.ao (.t 47)),.v 49 (.ai false 0 1 (.t 48)),.v 50 (.ld false 1 (.t 49)),.aj (some 51) false 64051 106 [(.t 46),(.t 50)],m 45 51,.v 52 (.ext (.t 45) 0),.v 53 (.ext (.t 45) 1),m 6 52,m 5 53] [0,3,5,6,7,8,2000000]) V4
abbrev s7:AK:=.seq V3 VN
abbrev VM:AK:=.seq (.label 2) s7
abbrev V6:AK:=.seq (.aa [k 2 (ci 3)] [2,2000000]) .ret
abbrev Ws:AK:=.seq V6 VM
abbrev Wd:AK:=.seq (.aa [m 27 5,m 2 27] [2,2000000]) .ret
abbrev Wc:AK:=.seq (.aa [m 25 5,bi 26 .neq 25 0] [0,3,5,26,2000000]) (.cond (.t 26) Wd .skip)
abbrev Wb:AK:=.seq (.aa [m 23 0,.aj (some 24) false 64024 104 [(.t 23)],m 5 24] [0,3,5,2000000]) Wc
abbrev V9:AK:=.seq Wb (.goto 1)
abbrev Wf:AK:=.seq (.aa [.aj (some 31) false 64031 91 [],m 30 31,.v 32 (.ext (.t 30) 0),.v 33 (.ext (.t 30) 1),m 7 32,m 8 33] [0,3,7,8,2000000]) (.goto 2)
abbrev Wm:AK:=.seq (.aa [m 44 5,m 2 44] [2,2000000]) .ret
abbrev Wl:AK:=.seq (.aa [m 42 5,bi 43 .neq 42 0] [0,3,5,7,8,43,2000000]) (.cond (.t 43) Wm .skip)
abbrev Wj:AK:=.seq (.aa [m 37 0,.aj (some 38) false 64038 105 [(.t 37)],m 36 38,.v 39 (.ext (.t 36) 0),.v 40 (.ext (.t 36) 1),.v 41 (.ext (.t 36) 2),m 7 39,m 8 40,m 5 41] [0,3,5,7,8,2000000]) Wl
abbrev Wh:AK:=.seq Wj (.goto 2)
abbrev Wg:AK:=.seq (.aa [.v 35 (.bin .eql (.t 20) (.c (.int .u32 2))),m 34 35] [0,3,34,2000000]) (.cond (.t 34) Wh .skip)
abbrev We:AK:=.seq (.aa [.v 29 (.bin .eql (.t 20) (.c (.int .u32 1))),m 28 29] [0,3,20,28,2000000]) (.cond (.t 28) Wf Wg)
abbrev V8:AK:=.seq (.aa [.v 22 (.bin .eql (.t 20) (.c (.int .u32 0))),m 21 22] [0,3,20,21,2000000]) (.cond (.t 21) V9 We)
abbrev V7:AK:=.seq (.aa [m 19 3,.v 20 (.bin .shr (.t 19) (.c (.int .u64 1)))] [0,3,20,2000000]) (.block 0 V8)
abbrev Wr:AK:=.seq V7 Ws
abbrev Wp:AK:=.seq (.aa [k 2 (ci 6)] [2,2000000]) .ret
abbrev Wo:AK:=.seq (.aa [m 17 4,.v 18 (.un .not (.t 17))] [0,3,18,2000000]) (.cond (.t 18) Wp .skip)
abbrev Wn:AK:=.seq (.aa [m 10 0,.v 11 (.ao (.t 10)),.v 12 (.ai false 0 1 (.t 11)),.v 13 (.ld false 1 (.t 12)),.aj (some 14) false 64014 103 [(.t 13),(ci 3)],m 9 14,.v 15 (.ext (.t 9) 0),.v 16 (.ext (.t 9) 1),m 3 15,m 4 16] [0,3,4,2000000]) Wo
abbrev pS:AK:=.seq Wn Wr
def Wq:AK:=.seq (.label 0) (.bc pS)
abbrev Wi:AK:=.seq (.aa [k 7 (.c (.lit (.pointer none))),k 8 (.c (.lit (.pointer none)))] [0,2000000]) Wq
abbrev Wa:AK:=.seq (.aa [k 6 (ci 0)] [0,2000000]) Wi
abbrev V0:AK:=.seq (.aa [k 5 (ci 0)] [0,2000000]) Wa
abbrev VT:AK:=.seq (.aa [k 4 (.c (.bool false))] [0,2000000]) V0
abbrev VL:AK:=.seq (.aa [k 3 (.c (.int .u32 0))] [0,2000000]) VT
abbrev Wt:AK:=.scope VL
abbrev VK:AK:=.seq (.aa [k 2 (ci 0)] [0,2000000]) Wt
abbrev yX:AK:=VK
theorem Wu:aA Tryz.prog 77 64000 1 yX [.tmp 2]:=⟨_,Tryz.func77,by kernel_rfl⟩
theorem Wx {h a0 Post} (hp:aD Tryz.prog yX [.tmp 2] 1 [(0,a0),(2000000,a0)] h Post):Eng.Spec Tryz.prog 77 h [a0] Post:=aE Wu rfl [(0,a0),(2000000,a0)] ⟨rfl,rfl,trivial⟩ hp
abbrev UC:AK:=.seq (.aa [u 65038 38 (.ah (.t 9)),u 65039 39 (.ao (.t 38)),u 65040 40 (.ai false 1 1 (.t 39)),u 65041 41 (.ld false 1 (.t 40)),u 65042 42 (.dL (.t 41)),u 65043 43 (.ah (.t 9)),u 65044 44 (.ao (.t 43)),u 65045 45 (.ai false 0 1 (.t 44)),u 65046 46 (.ld false 1 (.t 45)),.aj (some 47) true 65047 78 [(.t 46)],m 6 42,m 7 47,k 8 (ci 0)] [6,7,8]) .ret
abbrev UF:AK:=.seq (.aa [m 37 10,k 6 (.c (.str [])),k 7 (ci 0),m 8 37] [6,7,8]) .ret
abbrev UE:AK:=.seq (.aa [m 35 10,bi 36 .neq 35 0] [9,10,36]) (.cond (.t 36) UF .skip)
abbrev UD:AK:=.seq (.aa [m 33 9,.aj (some 34) false 65034 77 [(.t 33)],m 10 34] [9,10]) UE
abbrev UB:AK:=.seq UD UC
abbrev UA:AK:=.seq (.aa [m 27 0,m 28 1,.aj (some 29) false 65029 76 [(.t 27),(.t 28)],m 30 2,.v 31 (.dK [.lit (.pointer none),.al,.int .i64 0] [(0,1,(.t 29)),(2,1,(.t 30))]),.eff 32 false 65032 (.box 3 (.t 31)),m 9 32] [9]) UB
abbrev Uz:AK:=.seq (.aa [k 6 (.c (.str [])),k 7 (ci 0),k 8 (ci 1)] [6,7,8]) .ret
abbrev UG:AK:=.seq (.aa [m 11 1,bi 12 .lss 11 0,m 13 12,.af 14 13 false false 65014 (.ah (.t 1)),.af 15 13 false false 65015 (.ah (.t 0)),.af 16 13 false false 65016 (.len true (.t 15)),.af 17 13 false false 65017 (.bin .gtr (.t 14) (.t 16)),.v 18 (.pick (.t 13) (.c (.bool true)) (.t 17)),m 19 18,.af 20 19 false false 65020 (.ah (.t 2)),.af 21 19 false false 65021 (.bin .lss (.t 20) (ci 0)),.v 22 (.pick (.t 19) (.c (.bool true)) (.t 21)),m 23 22,.af 24 23 false false 65024 (.ah (.t 2)),.af 25 23 false false 65025 (.bin .gtr (.t 24) (ci 65536)),.v 26 (.pick (.t 23) (.c (.bool true)) (.t 25))] [0,1,2,26]) (.cond (.t 26) Uz .skip)
abbrev Uy:AK:=.seq UG UA
abbrev Ux:AK:=.seq (.aa [k 6 (.c (.str [])),k 7 (ci 0),k 8 (ci 0)] [0,1,2]) Uy
abbrev inflate:AK:=Ux
theorem UH:aA Tryz.prog 53 65000 3 inflate [.tmp 6,.tmp 7,.tmp 8]:=⟨_,Tryz.func53,by kernel_rfl⟩
theorem UJ {h a0 a1 a2 Post} (hp:aD Tryz.prog inflate [.tmp 6,.tmp 7,.tmp 8] 3 [(0,a0),(1,a1),(2,a2)] h Post):Eng.Spec Tryz.prog 53 h [a0,a1,a2] Post:=aE UH rfl [(0,a0),(1,a1),(2,a2)] ⟨rfl,rfl,rfl,trivial⟩ hp
abbrev T9:AK:=.seq (.aa [m 46 5,m 47 7,m 0 46,m 1 47] [0,1]) .ret
abbrev T8:AK:=.seq (.aa [m 42 3,.aj (some 43) false 66043 115 [(.t 42)],m 41 43,.v 44 (.ext (.t 41) 0),.v 45 (.ext (.t 41) 1),m 7 44,m 8 45] [5,7]) T9
abbrev T7:AK:=.seq (.aa [m 37 2,.aj (some 38) false 66038 115 [(.t 37)],m 36 38,.v 39 (.ext (.t 36) 0),.v 40 (.ext (.t 36) 1),m 5 39,m 6 40] [3,5]) T8
abbrev TQ:AK:=.aa [bi 35 .add 30 1,m 30 35] [2,3,30]
abbrev TR:AK:=.aa [m 32 3,.eff 33 false 66033 (.aW 1 [(ci 5)]),.eff 34 false 66034 (.app 1 8 (.t 32) (.t 33)),m 3 34] [2,3,30]
abbrev TP:AK:=.seq (.block 4 TR) TQ
abbrev TN:AK:=.seq (.cond (.t 31) .skip (.exit 3)) TP
abbrev Ub:AK:=.seq (.aa [bi 31 .lss 30 32] [2,3,30,31]) TN
abbrev Uc:AK:=.loop Ub
abbrev Ua:AK:=.seq (.aa [k 30 (ci 0)] [2,3,30]) (.block 3 Uc)
abbrev T2:AK:=.seq Ua T7
abbrev TX:AK:=.aa [bi 29 .add 9 1,m 9 29] [2,3,9]
abbrev T0:AK:=.aa [m 20 2,.eff 21 false 66021 (.aW 1 [(ci 8)]),.eff 22 false 66022 (.app 1 8 (.t 20) (.t 21)),m 2 22] [2,3,9]
abbrev T3:AK:=.aa [m 26 2,.eff 27 false 66027 (.aW 1 [(ci 9)]),.eff 28 false 66028 (.app 1 8 (.t 26) (.t 27)),m 2 28] [2,3,9]
abbrev T4:AK:=.aa [m 12 2,.eff 13 false 66013 (.aW 1 [(ci 7)]),.eff 14 false 66014 (.app 1 8 (.t 12) (.t 13)),m 2 14] [2,3,9]
abbrev T1:AK:=.seq (.aa [m 24 4,bi 25 .lss 24 256,m 23 25] [2,3,9,23]) (.cond (.t 23) T3 T4)
abbrev T6:AK:=.aa [m 18 4,bi 19 .geq 18 280,m 15 19] [2,3,4,9,15]
abbrev T5:AK:=.seq (.aa [m 16 4,bi 17 .lss 16 144,m 15 17] [2,3,4,9,15]) (.cond (.t 15) .skip T6)
def TZ:AK:=.seq T5 (.bc (.cond (.t 15) T0 T1))
abbrev TY:AK:=.seq (.aa [m 11 9,m 4 11] [2,3,4,9]) (.block 2 TZ)
abbrev TW:AK:=.seq (.block 1 TY) TX
abbrev TU:AK:=.seq (.cond (.t 10) .skip (.exit 0)) TW
abbrev TT:AK:=.seq (.aa [bi 10 .lss 9 288] [2,3,9,10]) TU
abbrev Ud:AK:=.loop TT
abbrev TS:AK:=.seq (.aa [k 9 (ci 0)] [2,3,9]) (.block 0 Ud)
abbrev TV:AK:=.seq TS T2
abbrev TM:AK:=.seq (.aa [k 2 (.c (.al)),k 3 (.c (.al))] [2,3]) TV
abbrev TK:AK:=.seq (.aa [k 0 (.c (.lit (.pointer none))),k 1 (.c (.lit (.pointer none)))] []) TM
abbrev yL:AK:=TK
theorem Ue:aA Tryz.prog 91 66000 0 yL [.tmp 0,.tmp 1]:=⟨_,Tryz.func91,by kernel_rfl⟩
theorem Uf {h Post} (hp:aD Tryz.prog yL [.tmp 0,.tmp 1] 0 [] h Post):Eng.Spec Tryz.prog 91 h [] Post:=aE Ue rfl [] trivial hp
abbrev UT:AK:=.seq (.aa [.v 1 (.dK [.int .i64 0,.int .i64 0,.int .i64 0,.int .i64 0,.int .i64 0,.int .i64 0,.int .i64 0,.int .i64 0,.int .i64 0,.int .i64 0,.int .i64 0,.int .i64 0,.int .i64 0,.int .i64 0,.int .i64 0,.int .i64 0,.int .i64 0,.int .i64 0,.int .i64 0] [(0,1,(ci 16)),(1,1,(ci 17)),(2,1,(ci 18)),(3,1,(ci 0)),(4,1,(ci 8)),(5,1,(ci 7)),(6,1,(ci 9)),(7,1,(ci 6)),(8,1,(ci 10)),(9,1,(ci 5)),(10,1,(ci 11)),(11,1,(ci 4)),(12,1,(ci 12)),(13,1,(ci 3)),(14,1,(ci 13)),(15,1,(ci 2)),(16,1,(ci 14)),(17,1,(ci 1)),(18,1,(ci 15))]),.aH false 67000 (.st 19 (.t 0) (.t 1))] [0]) .ret
abbrev US:AK:=.seq (.aa [.eff 0 false 67000 (.alloc [.int .i64 0,.int .i64 0,.int .i64 0,.int .i64 0,.int .i64 0,.int .i64 0,.int .i64 0,.int .i64 0,.int .i64 0,.int .i64 0,.int .i64 0,.int .i64 0,.int .i64 0,.int .i64 0,.int .i64 0,.int .i64 0,.int .i64 0,.int .i64 0,.int .i64 0])] [0]) UT
abbrev yT:AK:=US
theorem UU:aA Tryz.prog 124 67000 0 yT [.cell 0 true 19]:=⟨_,Tryz.func124,by kernel_rfl⟩
theorem UX {h Post} (hp:aD Tryz.prog yT [.cell 0 true 19] 0 [] h Post):Eng.Spec Tryz.prog 124 h [] Post:=aE UU rfl [] trivial hp
abbrev Um:AK:=.seq (.aa [m 14 0,bi 15 .rem 14 4,.v 16 (.bin .add (ci 4) (.t 15)),m 17 4,b 18 .shl 16 17,.v 19 (.bin .add (ci 3) (.t 18)),m 20 4,m 2 19,m 3 20] [2,3]) .ret
abbrev Ul:AK:=.seq (.aa [m 11 0,bi 12 .quo 11 4,bi 13 .sub 12 1,m 4 13] [0,4]) Um
abbrev Uo:AK:=.seq (.aa [m 9 0,.v 10 (.bin .add (ci 3) (.t 9)),m 2 10,k 3 (ci 0)] [2,3]) .ret
abbrev Un:AK:=.seq (.aa [m 7 0,bi 8 .lss 7 8] [0,8]) (.cond (.t 8) Uo .skip)
abbrev Uk:AK:=.seq Un Ul
abbrev Uj:AK:=.seq (.aa [k 2 (ci 258),k 3 (ci 0)] [2,3]) .ret
abbrev Up:AK:=.seq (.aa [m 5 0,bi 6 .eql 5 28] [0,6]) (.cond (.t 6) Uj .skip)
abbrev Ui:AK:=.seq Up Uk
abbrev Uh:AK:=.seq (.aa [k 2 (ci 0),k 3 (ci 0)] [0]) Ui
abbrev yN:AK:=Uh
theorem Uq:aA Tryz.prog 96 68000 1 yN [.tmp 2,.tmp 3]:=⟨_,Tryz.func96,by kernel_rfl⟩
theorem Ur {h a0 Post} (hp:aD Tryz.prog yN [.tmp 2,.tmp 3] 1 [(0,a0)] h Post):Eng.Spec Tryz.prog 96 h [a0] Post:=aE Uq rfl [(0,a0)] ⟨rfl,trivial⟩ hp
abbrev Tt:AK:=.seq (.aa [m 12 0,bi 13 .rem 12 2,.v 14 (.bin .add (ci 2) (.t 13)),m 15 4,b 16 .shl 14 15,.v 17 (.bin .add (ci 1) (.t 16)),m 18 4,m 2 17,m 3 18] [2,3]) .ret
abbrev Ts:AK:=.seq (.aa [m 9 0,bi 10 .quo 9 2,bi 11 .sub 10 1,m 4 11] [0,4]) Tt
abbrev Tv:AK:=.seq (.aa [m 7 0,.v 8 (.bin .add (ci 1) (.t 7)),m 2 8,k 3 (ci 0)] [2,3]) .ret
abbrev Tu:AK:=.seq (.aa [m 5 0,bi 6 .lss 5 4] [0,6]) (.cond (.t 6) Tv .skip)
abbrev Tr:AK:=.seq Tu Ts
abbrev Tq:AK:=.seq (.aa [k 2 (ci 0),k 3 (ci 0)] [0]) Tr
abbrev yI:AK:=Tq
theorem Tw:aA Tryz.prog 97 69000 1 yI [.tmp 2,.tmp 3]:=⟨_,Tryz.func97,by kernel_rfl⟩
theorem Tx {h a0 Post} (hp:aD Tryz.prog yI [.tmp 2,.tmp 3] 1 [(0,a0)] h Post):Eng.Spec Tryz.prog 97 h [a0] Post:=aE Tw rfl [(0,a0)] ⟨rfl,trivial⟩ hp
abbrev amh:AK:=.aa [m 9 0,m 10 1,.v 11 (.ao (.t 9)),.v 12 (.ai false 4 1 (.t 11)),.aH false 70000 (.st 1 (.t 12) (.t 10))] [2000000,2000001]
abbrev amg:AK:=.seq (.aa [m 4 0,.v 5 (.ao (.t 4)),.v 6 (.ai false 4 1 (.t 5)),.v 7 (.ld false 1 (.t 6)),bi 8 .eql 7 0] [0,1,8,2000000,2000001]) (.cond (.t 8) amh .skip)
abbrev BB:AK:=amg
theorem ami:aA Tryz.prog 82 70000 2 BB []:=⟨_,Tryz.func82,by kernel_rfl⟩
theorem amj {h a0 a1 Post} (hp:aD Tryz.prog BB [] 2 [(0,a0),(1,a1),(2000000,a0),(2000001,a1)] h Post):Eng.Spec Tryz.prog 82 h [a0,a1] Post:=aE ami rfl [(0,a0),(1,a1),(2000000,a0),(2000001,a1)] ⟨rfl,rfl,rfl,rfl,trivial⟩ hp
abbrev an4:AK:=.seq (.aa [m 50 5,m 4 50] [4,2000000,2000001]) .ret
abbrev an3:AK:=.seq (.aa [m 42 0,.v 43 (.ao (.t 42)),.v 44 (.ai false 1 1 (.t 43)),.v 45 (.ld false 1 (.t 44)),m 46 1,b 47 .add 45 46,.v 48 (.ao (.t 42)),.v 49 (.ai false 1 1 (.t 48)),.aH false 71000 (.st 1 (.t 49) (.t 47))] [5,2000000,2000001]) an4
abbrev an2:AK:=.seq (.aa [u 71025 25 (.ah (.t 0)),u 71026 26 (.ao (.t 25)),u 71027 27 (.ai false 0 1 (.t 26)),u 71028 28 (.ld false 1 (.t 27)),u 71029 29 (.ah (.t 0)),u 71030 30 (.ao (.t 29)),u 71031 31 (.ai false 1 1 (.t 30)),u 71032 32 (.ld false 1 (.t 31)),u 71033 33 (.ah (.t 0)),u 71034 34 (.ao (.t 33)),u 71035 35 (.ai false 1 1 (.t 34)),u 71036 36 (.ld false 1 (.t 35)),u 71037 37 (.ah (.t 1)),u 71038 38 (.bin .add (.t 36) (.t 37)),.v 39 (.fI 1 (.t 28) (some (.t 32)) (some (.t 38))),.aj (some 40) false 71040 109 [(.t 39)],.v 41 (.aV .i64 (.t 40)),m 5 41] [0,1,5,2000000,2000001]) an3
abbrev an7:AK:=.seq (.aa [k 4 (ci 0)] [4,2000000,2000001]) .ret
abbrev an6:AK:=.seq (.aa [m 23 0,.aj (some 24) false 71024 82 [(.t 23),(ci 6)]] [2000000,2000001]) an7
abbrev an5:AK:=.seq (.aa [u 71011 11 (.ah (.t 0)),u 71012 12 (.ao (.t 11)),u 71013 13 (.ai false 1 1 (.t 12)),u 71014 14 (.ld false 1 (.t 13)),u 71015 15 (.ah (.t 1)),u 71016 16 (.bin .add (.t 14) (.t 15)),u 71017 17 (.ah (.t 0)),u 71018 18 (.ao (.t 17)),u 71019 19 (.ai false 0 1 (.t 18)),u 71020 20 (.ld false 1 (.t 19)),u 71021 21 (.len false (.t 20)),b 22 .gtr 16 21] [0,1,22,2000000,2000001]) (.cond (.t 22) an6 .skip)
abbrev an1:AK:=.seq an5 an2
abbrev an0:AK:=.seq (.aa [k 4 (ci 0)] [4,2000000,2000001]) .ret
abbrev anZ:AK:=.seq (.aa [m 6 0,.v 7 (.ao (.t 6)),.v 8 (.ai false 4 1 (.t 7)),.v 9 (.ld false 1 (.t 8)),bi 10 .neq 9 0] [0,1,10,2000000,2000001]) (.cond (.t 10) an0 .skip)
abbrev anY:AK:=.seq anZ an1
abbrev anX:AK:=.seq (.aa [k 4 (ci 0)] [0,1,2000000,2000001]) anY
abbrev BH:AK:=anX
theorem an8:aA Tryz.prog 83 71000 2 BH [.tmp 4]:=⟨_,Tryz.func83,by kernel_rfl⟩
theorem an9 {h a0 a1 Post} (hp:aD Tryz.prog BH [.tmp 4] 2 [(0,a0),(1,a1),(2000000,a0),(2000001,a1)] h Post):Eng.Spec Tryz.prog 83 h [a0,a1] Post:=aE an8 rfl [(0,a0),(1,a1),(2000000,a0),(2000001,a1)] ⟨rfl,rfl,rfl,rfl,trivial⟩ hp
abbrev ao1:AK:=.seq (.aa [m 52 5,m 4 52] [4,2000000,2000001]) .ret
abbrev ao0:AK:=.seq (.aa [m 44 0,.v 45 (.ao (.t 44)),.v 46 (.ai false 1 1 (.t 45)),.v 47 (.ld false 1 (.t 46)),m 48 6,b 49 .add 47 48,.v 50 (.ao (.t 44)),.v 51 (.ai false 1 1 (.t 50)),.aH false 72000 (.st 1 (.t 51) (.t 49))] [5,2000000,2000001]) ao1
abbrev ao4:AK:=.seq (.aa [k 4 (ci 0)] [4,2000000,2000001]) .ret
abbrev ao3:AK:=.seq (.aa [m 41 0,m 42 7,.aj (some 43) false 72043 82 [(.t 41),(.t 42)]] [2000000,2000001]) ao4
abbrev ao2:AK:=.seq (.aa [m 39 7,bi 40 .neq 39 0] [0,5,6,7,40,2000000,2000001]) (.cond (.t 40) ao3 .skip)
abbrev aoZ:AK:=.seq ao2 ao0
abbrev aoY:AK:=.seq (.aa [u 72014 14 (.ah (.t 1)),u 72015 15 (.ah (.t 0)),u 72016 16 (.ao (.t 15)),u 72017 17 (.ai false 0 1 (.t 16)),u 72018 18 (.ld false 1 (.t 17)),u 72019 19 (.ah (.t 0)),u 72020 20 (.ao (.t 19)),u 72021 21 (.ai false 1 1 (.t 20)),u 72022 22 (.ld false 1 (.t 21)),u 72023 23 (.ah (.t 0)),u 72024 24 (.ao (.t 23)),u 72025 25 (.ai false 1 1 (.t 24)),u 72026 26 (.ld false 1 (.t 25)),u 72027 27 (.bin .add (.t 26) (ci 16)),u 72028 28 (.ah (.t 0)),u 72029 29 (.ao (.t 28)),u 72030 30 (.ai false 0 1 (.t 29)),u 72031 31 (.ld false 1 (.t 30)),u 72032 32 (.len false (.t 31)),u 72033 33 (.mm false (.t 27) (.t 32)),.v 34 (.fI 1 (.t 18) (some (.t 22)) (some (.t 33))),.aj (some 35) false 72035 125 [(.t 14),(.t 34)],m 13 35,u 72036 36 (.ext (.t 13) 0),u 72037 37 (.ext (.t 13) 1),u 72038 38 (.ext (.t 13) 2),u 72005 5 (.ah (.t 36)),u 72006 6 (.ah (.t 37)),m 7 38] [0,5,6,7,2000000,2000001]) aoZ
abbrev aoX:AK:=.seq (.aa [k 4 (ci 0)] [4,2000000,2000001]) .ret
abbrev aoW:AK:=.seq (.aa [m 8 0,.v 9 (.ao (.t 8)),.v 10 (.ai false 4 1 (.t 9)),.v 11 (.ld false 1 (.t 10)),bi 12 .neq 11 0] [0,1,12,2000000,2000001]) (.cond (.t 12) aoX .skip)
abbrev aoV:AK:=.seq aoW aoY
abbrev aoU:AK:=.seq (.aa [k 4 (ci 0)] [0,1,2000000,2000001]) aoV
abbrev B0:AK:=aoU
theorem ao5:aA Tryz.prog 113 72000 2 B0 [.tmp 4]:=⟨_,Tryz.func113,by kernel_rfl⟩
theorem ao6 {h a0 a1 Post} (hp:aD Tryz.prog B0 [.tmp 4] 2 [(0,a0),(1,a1),(2000000,a0),(2000001,a1)] h Post):Eng.Spec Tryz.prog 113 h [a0,a1] Post:=aE ao5 rfl [(0,a0),(1,a1),(2000000,a0),(2000001,a1)] ⟨rfl,rfl,rfl,rfl,trivial⟩ hp
abbrev aoz:AK:=.aa [m 28 0,m 29 0,.v 30 (.ao (.t 29)),.v 31 (.ai false 2 1 (.t 30)),.v 32 (.ld false 1 (.t 31)),m 33 1,.eff 34 false 73034 (.aW 1 [(.t 33)]),.eff 35 false 73035 (.app 1 1 (.t 32) (.t 34)),.v 36 (.ao (.t 28)),.v 37 (.ai false 2 1 (.t 36)),.aH false 73000 (.st 1 (.t 37) (.t 35))] [2000000,2000001]
abbrev BW:AK:=.seq (.aa [m 23 0,.v 24 (.ao (.t 23)),.v 25 (.ai false 4 1 (.t 24)),.v 26 (.ld false 1 (.t 25)),bi 27 .eql 26 0] [0,1,27,2000000,2000001]) (.cond (.t 27) aoz .skip)
abbrev aoA:AK:=.aa [m 21 0,.aj (some 22) false 73022 82 [(.t 21),(ci 2)]] [0,1,2000000,2000001]
abbrev BX:AK:=.seq (.aa [m 4 0,.v 5 (.ao (.t 4)),.v 6 (.ai false 4 1 (.t 5)),.v 7 (.ld false 1 (.t 6)),bi 8 .eql 7 0,m 9 8,.af 10 9 true true 73010 (.ah (.t 0)),.af 11 9 true true 73011 (.ao (.t 10)),.af 12 9 true true 73012 (.ai false 2 1 (.t 11)),.af 13 9 true true 73013 (.ld false 1 (.t 12)),.af 14 9 true true 73014 (.len false (.t 13)),.af 15 9 true true 73015 (.ah (.t 0)),.af 16 9 true true 73016 (.ao (.t 15)),.af 17 9 true true 73017 (.ai false 3 1 (.t 16)),.af 18 9 true true 73018 (.ld false 1 (.t 17)),.af 19 9 true false 73019 (.bin .geq (.t 14) (.t 18)),.v 20 (.pick (.t 9) (.t 19) (.c (.bool false)))] [0,1,20,2000000,2000001]) (.cond (.t 20) aoA .skip)
def BV:AK:=.seq BX (.bc BW)
abbrev BU:AK:=BV
theorem tV (P:Program) (E:Env) (Q:KQ) (st:St) :
 (vcW P E BV Q st=vcW P E BX (KQ.seq P E (.bc BW) Q) st):=
 rfl
theorem aoB:aA Tryz.prog 110 73000 2 BU []:=⟨_,Tryz.func110,by kernel_rfl⟩
theorem aoC {h a0 a1 Post} (hp:aD Tryz.prog BU [] 2 [(0,a0),(1,a1),(2000000,a0),(2000001,a1)] h Post):Eng.Spec Tryz.prog 110 h [a0,a1] Post:=aE aoB rfl [(0,a0),(1,a1),(2000000,a0),(2000001,a1)] ⟨rfl,rfl,rfl,rfl,trivial⟩ hp
abbrev aoP:AK:=.aa [m 41 4,bi 42 .add 41 1,m 4 42] [0,2,4,2000000]
abbrev aoG:AK:=.aa [m 45 0,m 46 5,.v 47 (.aV .u8 (.t 46)),.aj (some 48) false 74048 110 [(.t 45),(.t 47)]] [0,2,4,2000000]
abbrev aoF:AK:=.seq (.aa [m 43 0,.aj (some 44) false 74044 83 [(.t 43),(ci 8)],m 5 44] [0,2,4,5,2000000]) aoG
abbrev aoO:AK:=.seq (.block 1 aoF) aoP
abbrev aoH:AK:=.seq (.aa [m 31 4,m 32 2,b 33 .lss 31 32,m 34 33,.af 35 34 true false 74035 (.ah (.t 0)),.af 36 34 true false 74036 (.ao (.t 35)),.af 37 34 true false 74037 (.ai false 4 1 (.t 36)),.af 38 34 true false 74038 (.ld false 1 (.t 37)),.af 39 34 true false 74039 (.bin .eql (.t 38) (ci 0)),.v 40 (.pick (.t 34) (.t 39) (.c (.bool false)))] [0,2,4,40,2000000]) (.cond (.t 40) .skip (.exit 0))
abbrev aoN:AK:=.seq aoH aoO
abbrev aoQ:AK:=.loop aoN
abbrev aoM:AK:=.seq (.aa [k 4 (ci 0)] [0,2,4,2000000]) (.block 0 aoQ)
abbrev aoJ:AK:=.aa [m 29 0,.aj (some 30) false 74030 82 [(.t 29),(ci 3)]] [0,2,2000000]
abbrev aoI:AK:=.seq (.aa [m 18 0,.v 19 (.ao (.t 18)),.v 20 (.ai false 4 1 (.t 19)),.v 21 (.ld false 1 (.t 20)),bi 22 .eql 21 0,m 23 22,.af 24 23 true false 74024 (.ah (.t 2)),.af 25 23 true false 74025 (.ah (.t 3)),.af 26 23 true false 74026 (.bin .add (.t 24) (.t 25)),.af 27 23 true false 74027 (.bin .neq (.t 26) (ci 65535)),.v 28 (.pick (.t 23) (.t 27) (.c (.bool false)))] [0,2,28,2000000]) (.cond (.t 28) aoJ .skip)
def aoL:AK:=.seq aoI (.bc aoM)
abbrev aoK:AK:=.seq (.aa [m 16 0,.aj (some 17) false 74017 83 [(.t 16),(ci 16)],m 3 17] [0,2,3,2000000]) aoL
abbrev aoE:AK:=.seq (.aa [m 14 0,.aj (some 15) false 74015 83 [(.t 14),(ci 16)],m 2 15] [0,2,2000000]) aoK
abbrev aoD:AK:=.seq (.aa [m 6 0,m 7 0,.v 8 (.ao (.t 7)),.v 9 (.ai false 1 1 (.t 8)),.v 10 (.ld false 1 (.t 9)),.aj (some 11) false 74011 88 [(.t 10)],.v 12 (.ao (.t 6)),.v 13 (.ai false 1 1 (.t 12)),.aH false 74000 (.st 1 (.t 13) (.t 11))] [0,2000000]) aoE
abbrev BZ:AK:=aoD
theorem aoR:aA Tryz.prog 84 74000 1 BZ []:=⟨_,Tryz.func84,by kernel_rfl⟩
theorem aoT {h a0 Post} (hp:aD Tryz.prog BZ [] 1 [(0,a0),(2000000,a0)] h Post):Eng.Spec Tryz.prog 84 h [a0] Post:=aE aoR rfl [(0,a0),(2000000,a0)] ⟨rfl,rfl,trivial⟩ hp
abbrev alh:AK:=.seq (.aa [m 197 11,m 198 4,.v 199 (.fI 1 (.t 197) none (some (.t 198))),m 200 11,m 201 4,.v 202 (.fI 1 (.t 200) (some (.t 201)) none),m 2 199,m 3 202] [2,3,2000000]) .ret
abbrev alk:AK:=.seq (.aa [k 2 (.c (.al)),k 3 (.c (.al))] [2,3,2000000]) .ret
abbrev alj:AK:=.seq (.aa [m 195 0,.aj (some 196) false 75196 82 [(.t 195),(ci 3)]] [2000000]) alk
abbrev ali:AK:=.seq (.aa [m 177 11,.v 178 (.aO 1 (.t 177) (ci 256)),.v 179 (.ld false 1 (.t 178)),bi 180 .eql 179 0,m 181 180,.af 182 181 false false 75182 (.ah (.t 11)),.af 183 181 false false 75183 (.ah (.t 4)),.af 184 181 false false 75184 (.fI 1 (.t 182) none (some (.t 183))),.iE 185 181 false false 75185 114 [(.t 184)],.af 186 181 false false 75186 (.bin .neq (.t 185) (ci 0)),.v 187 (.pick (.t 181) (.c (.bool true)) (.t 186)),m 188 187,.af 189 188 false false 75189 (.ah (.t 11)),.af 190 188 false false 75190 (.ah (.t 4)),.af 191 188 false false 75191 (.fI 1 (.t 189) (some (.t 190)) none),.iE 192 188 false false 75192 114 [(.t 191)],.af 193 188 false false 75193 (.bin .neq (.t 192) (ci 0)),.v 194 (.pick (.t 188) (.c (.bool true)) (.t 193))] [0,4,11,194,2000000]) (.cond (.t 194) alj .skip)
abbrev alg:AK:=.seq ali alh
abbrev alo:AK:=.seq (.aa [k 2 (.c (.al)),k 3 (.c (.al))] [2,3,2000000]) .ret
abbrev alm:AK:=.seq (.aa [m 172 0,.v 173 (.ao (.t 172)),.v 174 (.ai false 4 1 (.t 173)),.v 175 (.ld false 1 (.t 174)),bi 176 .neq 175 0] [0,4,11,176,2000000]) (.cond (.t 176) alo .skip)
abbrev tR:AK:=.seq alm alg
abbrev aly:AK:=.aa [m 166 15,bi 167 .add 166 1,m 15 167] [0,4,5,10,11,13,14,15,2000000]
abbrev alz:AK:=.aa [m 168 11,m 169 14,.eff 170 false 75170 (.aW 1 [(.t 169)]),.eff 171 false 75171 (.app 1 8 (.t 168) (.t 170)),m 11 171] [0,4,5,10,11,13,14,15,2000000]
abbrev alx:AK:=.seq (.block 6 alz) aly
abbrev alA:AK:=.seq (.aa [m 156 15,m 157 13,b 158 .lss 156 157,m 159 158,.af 160 159 true false 75160 (.ah (.t 0)),.af 161 159 true false 75161 (.ao (.t 160)),.af 162 159 true false 75162 (.ai false 4 1 (.t 161)),.af 163 159 true false 75163 (.ld false 1 (.t 162)),.af 164 159 true false 75164 (.bin .eql (.t 163) (ci 0)),.v 165 (.pick (.t 159) (.t 164) (.c (.bool false)))] [0,4,5,10,11,13,14,15,165,2000000]) (.cond (.t 165) .skip (.exit 5))
abbrev alw:AK:=.seq alA alx
abbrev ama:AK:=.loop alw
abbrev alu:AK:=.seq (.aa [k 15 (ci 0)] [0,4,5,10,11,13,14,15,2000000]) (.block 5 ama)
abbrev alD:AK:=.aa [m 154 0,.aj (some 155) false 75155 82 [(.t 154),(ci 3)]] [0,4,5,10,11,13,14,2000000]
abbrev alC:AK:=.seq (.aa [m 139 0,.v 140 (.ao (.t 139)),.v 141 (.ai false 4 1 (.t 140)),.v 142 (.ld false 1 (.t 141)),bi 143 .eql 142 0,m 144 143,.af 145 144 true false 75145 (.ah (.t 11)),.af 146 144 true false 75146 (.len false (.t 145)),.af 147 144 true false 75147 (.ah (.t 13)),.af 148 144 true false 75148 (.bin .add (.t 146) (.t 147)),.af 149 144 true false 75149 (.ah (.t 4)),.af 150 144 true false 75150 (.ah (.t 5)),.af 151 144 true false 75151 (.bin .add (.t 149) (.t 150)),.af 152 144 true false 75152 (.bin .gtr (.t 148) (.t 151)),.v 153 (.pick (.t 144) (.t 152) (.c (.bool false)))] [0,4,5,10,11,13,14,153,2000000]) (.cond (.t 153) alD .skip)
def Bw:AK:=.seq alC (.bc alu)
abbrev alH:AK:=.aa [m 126 0,.aj (some 127) false 75127 83 [(.t 126),(ci 2)],.v 128 (.bin .add (ci 3) (.t 127)),m 13 128] [0,4,5,10,11,13,14,2000000]
abbrev alG:AK:=.seq (.aa [m 120 11,m 121 11,.v 122 (.len false (.t 121)),bi 123 .sub 122 1,.v 124 (.aO 1 (.t 120) (.t 123)),.v 125 (.ld false 1 (.t 124)),m 14 125] [0,4,5,10,11,14,2000000]) alH
abbrev alL:AK:=.seq (.aa [k 2 (.c (.al)),k 3 (.c (.al))] [2,3,2000000]) .ret
abbrev alK:AK:=.seq (.aa [m 118 0,.aj (some 119) false 75119 82 [(.t 118),(ci 3)]] [2000000]) alL
abbrev alI:AK:=.seq (.aa [m 115 11,.v 116 (.len false (.t 115)),bi 117 .eql 116 0] [0,4,5,10,11,117,2000000]) (.cond (.t 117) alK .skip)
abbrev alF:AK:=.seq alI alG
abbrev alO:AK:=.aa [m 131 0,.aj (some 132) false 75132 83 [(.t 131),(ci 3)],.v 133 (.bin .add (ci 3) (.t 132)),m 13 133] [0,4,5,10,11,13,14,2000000]
abbrev alN:AK:=.seq (.aa [k 14 (ci 0)] [0,4,5,10,11,14,2000000]) alO
abbrev alR:AK:=.aa [m 136 0,.aj (some 137) false 75137 83 [(.t 136),(ci 7)],.v 138 (.bin .add (ci 11) (.t 137)),m 13 138] [0,4,5,10,11,13,14,2000000]
abbrev alQ:AK:=.seq (.aa [k 14 (ci 0)] [0,4,5,10,11,14,2000000]) alR
abbrev alP:AK:=.seq (.aa [bi 135 .eql 112 18,m 134 135] [0,4,5,10,11,13,14,134,2000000]) (.cond (.t 134) alQ .skip)
abbrev alM:AK:=.seq (.aa [bi 130 .eql 112 17,m 129 130] [0,4,5,10,11,13,14,112,129,2000000]) (.cond (.t 129) alN alP)
abbrev alE:AK:=.seq (.aa [bi 114 .eql 112 16,m 113 114] [0,4,5,10,11,13,14,112,113,2000000]) (.cond (.t 113) alF alM)
abbrev Bz:AK:=.seq (.aa [m 112 12] [0,4,5,10,11,13,14,112,2000000]) (.block 4 alE)
def als:AK:=.seq Bz (.bc Bw)
abbrev alr:AK:=.seq (.aa [m 111 12,k 13 (ci 1),m 14 111] [0,4,5,10,11,12,13,14,2000000]) als
abbrev alq:AK:=.seq (.aa [m 108 0,m 109 10,.aj (some 110) false 75110 113 [(.t 108),(.t 109)],m 12 110] [0,4,5,10,11,12,2000000]) alr
abbrev alT:AK:=.seq (.aa [m 95 11,.v 96 (.len false (.t 95)),m 97 4,m 98 5,b 99 .add 97 98,b 100 .lss 96 99,m 101 100,.af 102 101 true false 75102 (.ah (.t 0)),.af 103 101 true false 75103 (.ao (.t 102)),.af 104 101 true false 75104 (.ai false 4 1 (.t 103)),.af 105 101 true false 75105 (.ld false 1 (.t 104)),.af 106 101 true false 75106 (.bin .eql (.t 105) (ci 0)),.v 107 (.pick (.t 101) (.t 106) (.c (.bool false)))] [0,4,5,10,11,107,2000000]) (.cond (.t 107) .skip (.exit 2))
abbrev alp:AK:=.seq alT (.block 3 alq)
abbrev al9:AK:=.loop alp
def Bv:AK:=.seq (.block 2 al9) (.bc tR)
abbrev alf:AK:=.seq (.aa [.eff 94 false 75094 (.aW 1 []),m 11 94] [0,4,5,10,11,2000000]) Bv
abbrev al8:AK:=.seq (.aa [m 92 7,.aj (some 93) false 75093 111 [(.t 92)],m 10 93] [0,4,5,10,2000000]) alf
abbrev alV:AK:=.seq (.aa [k 2 (.c (.al)),k 3 (.c (.al))] [2,3,2000000]) .ret
abbrev alU:AK:=.seq (.aa [m 87 0,.v 88 (.ao (.t 87)),.v 89 (.ai false 4 1 (.t 88)),.v 90 (.ld false 1 (.t 89)),bi 91 .neq 90 0] [0,4,5,7,91,2000000]) (.cond (.t 91) alV .skip)
abbrev BA:AK:=.seq alU al8
abbrev alX:AK:=.aa [m 85 0,.aj (some 86) false 75086 82 [(.t 85),(ci 3)]] [0,4,5,7,2000000]
abbrev alW:AK:=.seq (.aa [m 75 0,.v 76 (.ao (.t 75)),.v 77 (.ai false 4 1 (.t 76)),.v 78 (.ld false 1 (.t 77)),bi 79 .eql 78 0,m 80 79,.af 81 80 true false 75081 (.ah (.t 7)),.iE 82 80 true false 75082 114 [(.t 81)],.af 83 80 true false 75083 (.bin .neq (.t 82) (ci 0)),.v 84 (.pick (.t 80) (.t 83) (.c (.bool false)))] [0,4,5,7,84,2000000]) (.cond (.t 84) alX .skip)
def tS:AK:=.seq alW (.bc BA)
abbrev al1:AK:=.aa [m 65 9,bi 66 .add 65 1,m 9 66] [0,4,5,6,7,8,9,2000000]
abbrev al2:AK:=.alt [u 75067 67 (.ah (.t 7)),m 68 8,m 69 9,.v 70 (.aO 1 (.t 68) (.t 69)),u 75072 72 (.ah (.t 0))] [.v 71 (.ld false 1 (.t 70)),.aj (some 73) false 75073 83 [(.t 72),(ci 3)],.v 74 (.aO 1 (.t 67) (.t 71)),.aH false 75000 (.st 1 (.t 74) (.t 73))] [.aj (some 73) false 75073 83 [(.t 72),(ci 3)],.v 71 (.ld false 1 (.t 70)),.v 74 (.aO 1 (.t 67) (.t 71)),.aH false 75000 (.st 1 (.t 74) (.t 73))] [0,4,5,6,7,8,9,2000000]
abbrev al0:AK:=.seq (.block 1 al2) al1
abbrev al3:AK:=.seq (.aa [m 55 9,m 56 6,b 57 .lss 55 56,m 58 57,.af 59 58 true false 75059 (.ah (.t 0)),.af 60 58 true false 75060 (.ao (.t 59)),.af 61 58 true false 75061 (.ai false 4 1 (.t 60)),.af 62 58 true false 75062 (.ld false 1 (.t 61)),.af 63 58 true false 75063 (.bin .eql (.t 62) (ci 0)),.v 64 (.pick (.t 58) (.t 63) (.c (.bool false)))] [0,4,5,6,7,8,9,64,2000000]) (.cond (.t 64) .skip (.exit 0))
abbrev alZ:AK:=.seq al3 al0
abbrev amc:AK:=.loop alZ
abbrev alY:AK:=.seq (.aa [k 9 (ci 0)] [0,4,5,6,7,8,9,2000000]) (.block 0 amc)
abbrev alS:AK:=.seq alY tS
abbrev alJ:AK:=.seq (.aa [.eff 54 false 75054 (.aW 1 [(ci 16),(ci 17),(ci 18),(ci 0),(ci 8),(ci 7),(ci 9),(ci 6),(ci 10),(ci 5),(ci 11),(ci 4),(ci 12),(ci 3),(ci 13),(ci 2),(ci 14),(ci 1),(ci 15)]),m 8 54] [0,4,5,6,7,8,2000000]) alS
abbrev Bx:AK:=.seq (.aa [.eff 53 false 75053 (.ki 1 8 [.int .i64 0] (ci 19) (ci 19)),m 7 53] [0,4,5,6,7,2000000]) alJ
abbrev al5:AK:=.aa [m 51 0,.aj (some 52) false 75052 82 [(.t 51),(ci 3)]] [0,4,5,6,2000000]
abbrev al4:AK:=.seq (.aa [m 45 4,bi 46 .gtr 45 286,m 47 46,.af 48 47 false false 75048 (.ah (.t 5)),.af 49 47 false false 75049 (.bin .gtr (.t 48) (ci 30)),.v 50 (.pick (.t 47) (.c (.bool true)) (.t 49))] [0,4,5,6,50,2000000]) (.cond (.t 50) al5 .skip)
def alv:AK:=.seq al4 (.bc Bx)
abbrev aln:AK:=.seq (.aa [m 36 0,.aj (some 37) false 75037 83 [(.t 36),(ci 5)],bi 38 .add 37 257,m 39 0,.aj (some 40) false 75040 83 [(.t 39),(ci 5)],bi 41 .add 40 1,m 42 0,.aj (some 43) false 75043 83 [(.t 42),(ci 4)],bi 44 .add 43 4,m 4 38,m 5 41,m 6 44] [0,4,5,6,2000000]) alv
abbrev al7:AK:=.aa [m 34 0,.aj (some 35) false 75035 82 [(.t 34),(ci 6)]] [0,2000000]
abbrev al6:AK:=.seq (.aa [m 16 0,.v 17 (.ao (.t 16)),.v 18 (.ai false 4 1 (.t 17)),.v 19 (.ld false 1 (.t 18)),bi 20 .eql 19 0,m 21 20,.af 22 21 true true 75022 (.ah (.t 0)),.af 23 21 true true 75023 (.ao (.t 22)),.af 24 21 true true 75024 (.ai false 0 1 (.t 23)),.af 25 21 true true 75025 (.ld false 1 (.t 24)),.af 26 21 true true 75026 (.len false (.t 25)),.af 27 21 true true 75027 (.ah (.t 0)),.af 28 21 true true 75028 (.ao (.t 27)),.af 29 21 true true 75029 (.ai false 1 1 (.t 28)),.af 30 21 true true 75030 (.ld false 1 (.t 29)),.af 31 21 true false 75031 (.bin .sub (.t 26) (.t 30)),.af 32 21 true false 75032 (.bin .lss (.t 31) (ci 14)),.v 33 (.pick (.t 21) (.t 32) (.c (.bool false)))] [0,33,2000000]) (.cond (.t 33) al7 .skip)
def ale:AK:=.seq al6 (.bc aln)
abbrev ald:AK:=.seq (.aa [k 2 (.c (.al)),k 3 (.c (.al))] [0,2000000]) ale
abbrev Bu:AK:=ald
theorem amd:aA Tryz.prog 87 75000 1 Bu [.tmp 2,.tmp 3]:=⟨_,Tryz.func87,by kernel_rfl⟩
theorem amf {h a0 Post} (hp:aD Tryz.prog Bu [.tmp 2,.tmp 3] 1 [(0,a0),(2000000,a0)] h Post):Eng.Spec Tryz.prog 87 h [a0] Post:=aE amd rfl [(0,a0),(2000000,a0)] ⟨rfl,rfl,trivial⟩ hp
abbrev aoe:AK:=.aa [m 123 16,bi 124 .add 123 1,m 16 124] [0,6,7,8,9,10,11,13,15,16,2000000,2000001,2000002]
abbrev aof:AK:=.aa [u 76125 125 (.ah (.t 0)),u 76126 126 (.ah (.t 0)),u 76127 127 (.ao (.t 126)),u 76128 128 (.ai false 2 1 (.t 127)),u 76129 129 (.ld false 1 (.t 128)),u 76130 130 (.ah (.t 0)),u 76131 131 (.ao (.t 130)),u 76132 132 (.ai false 2 1 (.t 131)),u 76133 133 (.ld false 1 (.t 132)),u 76134 134 (.len false (.t 133)),u 76135 135 (.ah (.t 15)),u 76136 136 (.bin .sub (.t 134) (.t 135)),.v 137 (.aO 1 (.t 129) (.t 136)),.v 138 (.ld false 1 (.t 137)),.aj (some 139) false 76139 110 [(.t 125),(.t 138)]] [0,6,7,8,9,10,11,13,15,16,2000000,2000001,2000002]
abbrev aod:AK:=.seq (.block 3 aof) aoe
abbrev aog:AK:=.seq (.aa [m 113 16,m 114 13,b 115 .lss 113 114,m 116 115,.af 117 116 true false 76117 (.ah (.t 0)),.af 118 116 true false 76118 (.ao (.t 117)),.af 119 116 true false 76119 (.ai false 4 1 (.t 118)),.af 120 116 true false 76120 (.ld false 1 (.t 119)),.af 121 116 true false 76121 (.bin .eql (.t 120) (ci 0)),.v 122 (.pick (.t 116) (.t 121) (.c (.bool false)))] [0,6,7,8,9,10,11,13,15,16,122,2000000,2000001,2000002]) (.cond (.t 122) .skip (.exit 2))
abbrev aoc:AK:=.seq aog aod
abbrev aow:AK:=.loop aoc
abbrev tU:AK:=.seq (.aa [k 16 (ci 0)] [0,6,7,8,9,10,11,13,15,16,2000000,2000001,2000002]) (.block 2 aow)
abbrev aoh:AK:=.aa [m 111 0,.aj (some 112) false 76112 82 [(.t 111),(ci 3)]] [0,6,7,8,9,10,11,13,15,2000000,2000001,2000002]
abbrev BN:AK:=.seq (.aa [m 97 0,.v 98 (.ao (.t 97)),.v 99 (.ai false 4 1 (.t 98)),.v 100 (.ld false 1 (.t 99)),bi 101 .eql 100 0,m 102 101,.af 103 102 true false 76103 (.ah (.t 15)),.af 104 102 true false 76104 (.ah (.t 0)),.af 105 102 true false 76105 (.ao (.t 104)),.af 106 102 true false 76106 (.ai false 2 1 (.t 105)),.af 107 102 true false 76107 (.ld false 1 (.t 106)),.af 108 102 true false 76108 (.len false (.t 107)),.af 109 102 true false 76109 (.bin .gtr (.t 103) (.t 108)),.v 110 (.pick (.t 102) (.t 109) (.c (.bool false)))] [0,6,7,8,9,10,11,13,15,110,2000000,2000001,2000002]) (.cond (.t 110) aoh .skip)
def tT:AK:=.seq BN (.bc tU)
abbrev BO:AK:=.alt [u 76086 86 (.ah (.t 10)),u 76087 87 (.ah (.t 14)),u 76088 88 (.aO 1 (.t 86) (.t 87)),u 76090 90 (.ah (.t 0)),u 76091 91 (.ah (.t 11)),u 76092 92 (.ah (.t 14)),u 76093 93 (.aO 1 (.t 91) (.t 92)),u 76094 94 (.ld false 1 (.t 93))] [u 76089 89 (.ld false 1 (.t 88)),.aj (some 95) false 76095 83 [(.t 90),(.t 94)],b 96 .add 89 95,m 15 96] [.aj (some 95) false 76095 83 [(.t 90),(.t 94)],u 76089 89 (.ld false 1 (.t 88)),b 96 .add 89 95,m 15 96] [0,6,7,8,9,10,11,13,15,2000000,2000001,2000002]
def BM:AK:=.seq BO (.bc tT)
abbrev aoi:AK:=.seq (.aa [m 81 0,.v 82 (.ao (.t 81)),.v 83 (.ai false 4 1 (.t 82)),.v 84 (.ld false 1 (.t 83)),bi 85 .neq 84 0] [0,6,7,8,9,10,11,13,14,85,2000000,2000001,2000002]) (.cond (.t 85) .ret .skip)
abbrev BL:AK:=.seq aoi BM
abbrev aok:AK:=.aa [m 79 0,.aj (some 80) false 76080 82 [(.t 79),(ci 3)]] [0,6,7,8,9,10,11,13,14,2000000,2000001,2000002]
abbrev BP:AK:=.seq (.aa [m 70 0,.v 71 (.ao (.t 70)),.v 72 (.ai false 4 1 (.t 71)),.v 73 (.ld false 1 (.t 72)),bi 74 .eql 73 0,m 75 74,.af 76 75 true false 76076 (.ah (.t 14)),.af 77 75 true false 76077 (.bin .gtr (.t 76) (ci 29)),.v 78 (.pick (.t 75) (.t 77) (.c (.bool false)))] [0,6,7,8,9,10,11,13,14,78,2000000,2000001,2000002]) (.cond (.t 78) aok .skip)
def BK:AK:=.seq BP (.bc BL)
abbrev BJ:AK:=.seq (.aa [m 67 0,m 68 7,.aj (some 69) false 76069 113 [(.t 67),(.t 68)],m 14 69] [0,6,7,8,9,10,11,13,14,2000000,2000001,2000002]) BK
abbrev BQ:AK:=.alt [u 76054 54 (.ah (.t 8)),u 76055 55 (.ah (.t 12)),u 76056 56 (.bin .sub (.t 55) (ci 257)),u 76057 57 (.aO 1 (.t 54) (.t 56)),u 76059 59 (.ah (.t 0)),u 76060 60 (.ah (.t 9)),u 76061 61 (.ah (.t 12)),u 76062 62 (.bin .sub (.t 61) (ci 257)),u 76063 63 (.aO 1 (.t 60) (.t 62)),u 76064 64 (.ld false 1 (.t 63))] [u 76058 58 (.ld false 1 (.t 57)),.aj (some 65) false 76065 83 [(.t 59),(.t 64)],b 66 .add 58 65,m 13 66] [.aj (some 65) false 76065 83 [(.t 59),(.t 64)],u 76058 58 (.ld false 1 (.t 57)),b 66 .add 58 65,m 13 66] [0,6,7,8,9,10,11,13,2000000,2000001,2000002]
def BS:AK:=.seq BQ (.bc BJ)
abbrev aom:AK:=.seq (.aa [m 52 0,.aj (some 53) false 76053 82 [(.t 52),(ci 3)]] [2000000,2000001,2000002]) .ret
abbrev aol:AK:=.seq (.aa [m 50 12,bi 51 .gtr 50 285] [0,6,7,8,9,10,11,12,51,2000000,2000001,2000002]) (.cond (.t 51) aom .skip)
abbrev aou:AK:=.seq aol BS
abbrev aoo:AK:=.seq (.aa [m 46 0,m 47 12,.v 48 (.aV .u8 (.t 47)),.aj (some 49) false 76049 110 [(.t 46),(.t 48)]] [0,6,7,8,9,10,11,2000000,2000001,2000002]) (.exit 1)
abbrev aon:AK:=.seq (.aa [m 44 12,bi 45 .lss 44 256] [0,6,7,8,9,10,11,12,45,2000000,2000001,2000002]) (.cond (.t 45) aoo .skip)
abbrev aot:AK:=.seq aon aou
abbrev aop:AK:=.seq (.aa [m 35 0,.v 36 (.ao (.t 35)),.v 37 (.ai false 4 1 (.t 36)),.v 38 (.ld false 1 (.t 37)),bi 39 .neq 38 0,m 40 39,.af 41 40 false false 76041 (.ah (.t 12)),.af 42 40 false false 76042 (.bin .eql (.t 41) (ci 256)),.v 43 (.pick (.t 40) (.c (.bool true)) (.t 42))] [0,6,7,8,9,10,11,12,43,2000000,2000001,2000002]) (.cond (.t 43) .ret .skip)
abbrev aos:AK:=.seq aop aot
abbrev aor:AK:=.seq (.aa [m 32 0,m 33 6,.aj (some 34) false 76034 113 [(.t 32),(.t 33)],m 12 34] [0,6,7,8,9,10,11,12,2000000,2000001,2000002]) aos
abbrev aoq:AK:=.seq (.aa [m 27 0,.v 28 (.ao (.t 27)),.v 29 (.ai false 4 1 (.t 28)),.v 30 (.ld false 1 (.t 29)),bi 31 .eql 30 0] [0,6,7,8,9,10,11,31,2000000,2000001,2000002]) (.cond (.t 31) .skip (.exit 0))
abbrev aoj:AK:=.seq aoq (.block 1 aor)
abbrev aov:AK:=.loop aoj
abbrev aob:AK:=.seq (.aa [.aj (some 22) false 76022 112 [],m 21 22,.v 23 (.ext (.t 21) 0),.v 24 (.ext (.t 21) 1),.v 25 (.ext (.t 21) 2),.v 26 (.ext (.t 21) 3),m 8 23,m 9 24,m 10 25,m 11 26] [0,6,7,8,9,10,11,2000000,2000001,2000002]) (.block 0 aov)
abbrev aoa:AK:=.seq (.aa [m 17 1,.aj (some 18) false 76018 111 [(.t 17)],m 19 2,.aj (some 20) false 76020 111 [(.t 19)],m 6 18,m 7 20] [0,6,7,2000000,2000001,2000002]) aob
abbrev BI:AK:=aoa
theorem nG (P:Program) (E:Env) (Q:KQ) (st:St) :
 (vcW P E tT Q st=vcW P E BN (KQ.seq P E (.bc tU) Q) st) ∧
 (vcW P E BM Q st=vcW P E BO (KQ.seq P E (.bc tT) Q) st) ∧
 (vcW P E BK Q st=vcW P E BP (KQ.seq P E (.bc BL) Q) st) ∧
 (vcW P E BS Q st=vcW P E BQ (KQ.seq P E (.bc BJ) Q) st):=
 ⟨rfl,rfl,rfl,rfl⟩
theorem aox:aA Tryz.prog 86 76000 3 BI []:=⟨_,Tryz.func86,by kernel_rfl⟩
theorem aoy {h a0 a1 a2 Post} (hp:aD Tryz.prog BI [] 3 [(0,a0),(1,a1),(2,a2),(2000000,a0),(2000001,a1),(2000002,a2)] h Post):Eng.Spec Tryz.prog 86 h [a0,a1,a2] Post:=aE aox rfl [(0,a0),(1,a1),(2,a2),(2000000,a0),(2000001,a1),(2000002,a2)] ⟨rfl,rfl,rfl,rfl,rfl,rfl,trivial⟩ hp
abbrev amD:AK:=.seq (.aa [m 36 2,m 37 3,m 0 36,m 1 37] [0,1]) .ret
abbrev amH:AK:=.aa [m 31 6,bi 32 .add 31 1,m 6 32] [2,3,6]
abbrev amm:AK:=.aa [m 33 3,.eff 34 false 77034 (.aW 1 [(ci 5)]),.eff 35 false 77035 (.app 1 8 (.t 33) (.t 34)),m 3 35] [2,3,6]
abbrev amG:AK:=.seq (.block 3 amm) amH
abbrev amn:AK:=.seq (.aa [m 29 6,bi 30 .lss 29 32] [2,3,6,30]) (.cond (.t 30) .skip (.exit 2))
abbrev amF:AK:=.seq amn amG
abbrev amI:AK:=.loop amF
abbrev amE:AK:=.seq (.aa [k 6 (ci 0)] [2,3,6]) (.block 2 amI)
abbrev amB:AK:=.seq amE amD
abbrev amr:AK:=.aa [m 11 4,bi 12 .add 11 1,m 4 12] [2,3,4]
abbrev amw:AK:=.aa [m 25 2,m 26 5,.eff 27 false 77027 (.aW 1 [(.t 26)]),.eff 28 false 77028 (.app 1 8 (.t 25) (.t 27)),m 2 28] [2,3,4]
abbrev amy:AK:=.aa [k 5 (ci 7)] [2,3,4,5]
abbrev amx:AK:=.seq (.aa [m 19 4,bi 20 .geq 19 256,m 21 20,.af 22 21 true false 77022 (.ah (.t 4)),.af 23 21 true false 77023 (.bin .lss (.t 22) (ci 280)),.v 24 (.pick (.t 21) (.t 23) (.c (.bool false)))] [2,3,4,5,24]) (.cond (.t 24) amy .skip)
abbrev amv:AK:=.seq amx amw
abbrev amA:AK:=.aa [k 5 (ci 9)] [2,3,4,5]
abbrev amz:AK:=.seq (.aa [m 13 4,bi 14 .geq 13 144,m 15 14,.af 16 15 true false 77016 (.ah (.t 4)),.af 17 15 true false 77017 (.bin .lss (.t 16) (ci 256)),.v 18 (.pick (.t 15) (.t 17) (.c (.bool false)))] [2,3,4,5,18]) (.cond (.t 18) amA .skip)
def amu:AK:=.seq amz (.bc amv)
abbrev amt:AK:=.seq (.aa [k 5 (ci 8)] [2,3,4,5]) amu
abbrev amq:AK:=.seq (.block 1 amt) amr
abbrev amC:AK:=.seq (.aa [m 9 4,bi 10 .lss 9 288] [2,3,4,10]) (.cond (.t 10) .skip (.exit 0))
abbrev amp:AK:=.seq amC amq
abbrev amJ:AK:=.loop amp
abbrev amo:AK:=.seq (.aa [k 4 (ci 0)] [2,3,4]) (.block 0 amJ)
abbrev ams:AK:=.seq amo amB
abbrev aml:AK:=.seq (.aa [.eff 7 false 77007 (.aW 1 []),.eff 8 false 77008 (.aW 1 []),m 2 7,m 3 8] [2,3]) ams
abbrev amk:AK:=.seq (.aa [k 0 (.c (.al)),k 1 (.c (.al))] []) aml
abbrev BC:AK:=amk
theorem amK:aA Tryz.prog 85 77000 0 BC [.tmp 0,.tmp 1]:=⟨_,Tryz.func85,by kernel_rfl⟩
theorem amM {h Post} (hp:aD Tryz.prog BC [.tmp 0,.tmp 1] 0 [] h Post):Eng.Spec Tryz.prog 85 h [] Post:=aE amK rfl [] trivial hp
abbrev anR:AK:=.seq (.aa [m 65 4,m 66 5,m 67 9,m 68 10,m 0 65,m 1 66,m 2 67,m 3 68] [0,1,2,3]) .ret
abbrev ano:AK:=.aa [m 46 11,bi 47 .add 46 1,m 11 47] [4,5,6,9,10,11]
abbrev anu:AK:=.aa [m 61 6,m 62 12,.v 63 (.bin .shl (ci 1) (.t 62)),b 64 .add 61 63,m 6 64] [4,5,6,9,10,11]
abbrev ans:AK:=.seq (.aa [m 57 10,m 58 12,.eff 59 false 78059 (.aW 1 [(.t 58)]),.eff 60 false 78060 (.app 1 8 (.t 57) (.t 59)),m 10 60] [4,5,6,9,10,11,12]) anu
abbrev anr:AK:=.seq (.aa [m 53 9,m 54 6,.eff 55 false 78055 (.aW 1 [(.t 54)]),.eff 56 false 78056 (.app 1 8 (.t 53) (.t 55)),m 9 56] [4,5,6,9,10,11,12]) ans
abbrev anw:AK:=.aa [m 50 11,bi 51 .quo 50 2,bi 52 .sub 51 1,m 12 52] [4,5,6,9,10,11,12]
abbrev anv:AK:=.seq (.aa [m 48 11,bi 49 .geq 48 4] [4,5,6,9,10,11,12,49]) (.cond (.t 49) anw .skip)
def anq:AK:=.seq anv (.bc anr)
abbrev anp:AK:=.seq (.aa [k 12 (ci 0)] [4,5,6,9,10,11,12]) anq
abbrev ann:AK:=.seq (.block 3 anp) ano
abbrev anx:AK:=.seq (.aa [m 44 11,bi 45 .lss 44 30] [4,5,6,9,10,11,45]) (.cond (.t 45) .skip (.exit 2))
abbrev anm:AK:=.seq anx ann
abbrev anS:AK:=.loop anm
abbrev anl:AK:=.seq (.aa [k 11 (ci 0)] [4,5,6,9,10,11]) (.block 2 anS)
abbrev anQ:AK:=.seq anl anR
abbrev anP:AK:=.seq (.aa [k 6 (ci 1)] [4,5,6,9,10]) anQ
abbrev anO:AK:=.seq (.aa [.eff 42 false 78042 (.aW 1 []),.eff 43 false 78043 (.aW 1 []),m 9 42,m 10 43] [4,5,9,10]) anP
abbrev anN:AK:=.seq (.aa [m 39 5,.eff 40 false 78040 (.aW 1 [(ci 0)]),.eff 41 false 78041 (.app 1 8 (.t 39) (.t 40)),m 5 41] [4,5]) anO
abbrev anL:AK:=.seq (.aa [m 36 4,.eff 37 false 78037 (.aW 1 [(ci 258)]),.eff 38 false 78038 (.app 1 8 (.t 36) (.t 37)),m 4 38] [4,5]) anN
abbrev anD:AK:=.aa [m 17 7,bi 18 .add 17 1,m 7 18] [4,5,6,7]
abbrev anI:AK:=.aa [m 32 6,m 33 8,.v 34 (.bin .shl (ci 1) (.t 33)),b 35 .add 32 34,m 6 35] [4,5,6,7]
abbrev anH:AK:=.seq (.aa [m 28 5,m 29 8,.eff 30 false 78030 (.aW 1 [(.t 29)]),.eff 31 false 78031 (.app 1 8 (.t 28) (.t 30)),m 5 31] [4,5,6,7,8]) anI
abbrev anG:AK:=.seq (.aa [m 24 4,m 25 6,.eff 26 false 78026 (.aW 1 [(.t 25)]),.eff 27 false 78027 (.app 1 8 (.t 24) (.t 26)),m 4 27] [4,5,6,7,8]) anH
abbrev anK:AK:=.aa [m 21 7,bi 22 .quo 21 4,bi 23 .sub 22 1,m 8 23] [4,5,6,7,8]
abbrev anJ:AK:=.seq (.aa [m 19 7,bi 20 .geq 19 8] [4,5,6,7,8,20]) (.cond (.t 20) anK .skip)
def anF:AK:=.seq anJ (.bc anG)
abbrev anE:AK:=.seq (.aa [k 8 (ci 0)] [4,5,6,7,8]) anF
abbrev anB:AK:=.seq (.block 1 anE) anD
abbrev anM:AK:=.seq (.aa [m 15 7,bi 16 .lss 15 28] [4,5,6,7,16]) (.cond (.t 16) .skip (.exit 0))
abbrev anA:AK:=.seq anM anB
abbrev anT:AK:=.loop anA
abbrev anz:AK:=.seq (.aa [k 7 (ci 0)] [4,5,6,7]) (.block 0 anT)
abbrev anC:AK:=.seq anz anL
abbrev ant:AK:=.seq (.aa [k 6 (ci 3)] [4,5,6]) anC
abbrev ank:AK:=.seq (.aa [.eff 13 false 78013 (.aW 1 []),.eff 14 false 78014 (.aW 1 []),m 4 13,m 5 14] [4,5]) ant
abbrev anj:AK:=.seq (.aa [k 0 (.c (.al)),k 1 (.c (.al)),k 2 (.c (.al)),k 3 (.c (.al))] []) ank
abbrev BG:AK:=anj
theorem anU:aA Tryz.prog 112 78000 0 BG [.tmp 0,.tmp 1,.tmp 2,.tmp 3]:=⟨_,Tryz.func112,by kernel_rfl⟩
theorem anW {h Post} (hp:aD Tryz.prog BG [.tmp 0,.tmp 1,.tmp 2,.tmp 3] 0 [] h Post):Eng.Spec Tryz.prog 112 h [] Post:=aE anU rfl [] trivial hp
abbrev BF:AK:=.seq (.aa [m 121 9,.v 122 (.ao (.t 121)),.v 123 (.ai false 4 1 (.t 122)),.v 124 (.ld false 1 (.t 123)),u 79006 6 (.ah (.c (.str []))),u 79007 7 (.ah (ci 0)),m 8 124] [6,7,8]) .ret
abbrev amR:AK:=.seq (.aa [u 79110 110 (.ah (.t 9)),u 79111 111 (.ao (.t 110)),u 79112 112 (.ai false 2 1 (.t 111)),u 79113 113 (.ld false 1 (.t 112)),u 79114 114 (.dL (.t 113)),u 79115 115 (.ah (.t 9)),u 79116 116 (.ao (.t 115)),u 79117 117 (.ai false 1 1 (.t 116)),u 79118 118 (.ld false 1 (.t 117)),.aj (some 119) true 79119 88 [(.t 118)],u 79120 120 (.bin .quo (.t 119) (ci 8)),u 79006 6 (.ah (.t 114)),m 7 120,k 8 (ci 0)] [6,7,8]) .ret
abbrev amQ:AK:=.seq (.aa [m 101 9,.v 102 (.ao (.t 101)),.v 103 (.ai false 4 1 (.t 102)),.v 104 (.ld false 1 (.t 103)),bi 105 .eql 104 0,m 106 105,.af 107 106 true false 79107 (.ah (.t 10)),.af 108 106 true false 79108 (.bin .eql (.t 107) (ci 1)),.v 109 (.pick (.t 106) (.t 108) (.c (.bool false)))] [9,109]) (.cond (.t 109) amR .skip)
abbrev amV:AK:=.aa [m 69 9,.aj (some 70) false 79070 84 [(.t 69)]] [9,10]
abbrev amY:AK:=.aa [m 77 9,m 78 12,m 79 13,.aj (some 80) false 79080 86 [(.t 77),(.t 78),(.t 79)]] [9,10]
abbrev amX:AK:=.seq (.aa [.aj (some 74) false 79074 85 [],m 73 74,.v 75 (.ext (.t 73) 0),.v 76 (.ext (.t 73) 1),m 12 75,m 13 76] [9,10,12,13]) amY
abbrev am3:AK:=.aa [m 93 9,m 94 14,m 95 15,.aj (some 96) false 79096 86 [(.t 93),(.t 94),(.t 95)]] [9,10]
abbrev am1:AK:=.seq (.aa [m 88 9,.v 89 (.ao (.t 88)),.v 90 (.ai false 4 1 (.t 89)),.v 91 (.ld false 1 (.t 90)),bi 92 .eql 91 0] [9,10,14,15,92]) (.cond (.t 92) am3 .skip)
abbrev am0:AK:=.seq (.aa [m 84 9,.aj (some 85) false 79085 87 [(.t 84)],m 83 85,.v 86 (.ext (.t 83) 0),.v 87 (.ext (.t 83) 1),m 14 86,m 15 87] [9,10,14,15]) am1
abbrev am5:AK:=.aa [m 99 9,.aj (some 100) false 79100 82 [(.t 99),(ci 3)]] [9,10]
abbrev am4:AK:=.seq (.aa [bi 98 .eql 66 3,m 97 98] [9,10,97]) (.cond (.t 97) am5 .skip)
abbrev amZ:AK:=.seq (.aa [bi 82 .eql 66 2,m 81 82] [9,10,66,81]) (.cond (.t 81) am0 am4)
abbrev amW:AK:=.seq (.aa [bi 72 .eql 66 1,m 71 72] [9,10,66,71]) (.cond (.t 71) amX amZ)
abbrev amT:AK:=.seq (.aa [bi 68 .eql 66 0,m 67 68] [9,10,66,67]) (.cond (.t 67) amV amW)
abbrev amS:AK:=.seq (.aa [m 66 11] [9,10,66]) (.block 2 amT)
abbrev BE:AK:=.seq (.aa [m 61 9,.v 62 (.ao (.t 61)),.v 63 (.ai false 4 1 (.t 62)),.v 64 (.ld false 1 (.t 63)),bi 65 .eql 64 0] [9,10,11,65]) (.cond (.t 65) amS .skip)
def amP:AK:=.seq BE (.bc amQ)
abbrev ane:AK:=.seq (.aa [m 57 9,.aj (some 58) false 79058 83 [(.t 57),(ci 1)],m 59 9,.aj (some 60) false 79060 83 [(.t 59),(ci 2)],m 10 58,m 11 60] [9,10,11]) amP
abbrev am7:AK:=.aa [m 55 9,.aj (some 56) false 79056 82 [(.t 55),(ci 6)]] [9]
abbrev am6:AK:=.seq (.aa [u 79044 44 (.ah (.t 9)),u 79045 45 (.ao (.t 44)),u 79046 46 (.ai false 0 1 (.t 45)),u 79047 47 (.ld false 1 (.t 46)),u 79048 48 (.len false (.t 47)),u 79049 49 (.ah (.t 9)),u 79050 50 (.ao (.t 49)),u 79051 51 (.ai false 1 1 (.t 50)),u 79052 52 (.ld false 1 (.t 51)),b 53 .sub 48 52,bi 54 .lss 53 3] [9,54]) (.cond (.t 54) am7 .skip)
def anc:AK:=.seq am6 (.bc ane)
abbrev am8:AK:=.seq (.aa [m 39 9,.v 40 (.ao (.t 39)),.v 41 (.ai false 4 1 (.t 40)),.v 42 (.ld false 1 (.t 41)),bi 43 .eql 42 0] [9,43]) (.cond (.t 43) .skip (.exit 0))
abbrev anb:AK:=.seq am8 (.block 1 anc)
abbrev anf:AK:=.loop anb
abbrev am2:AK:=.seq (.block 0 anf) BF
abbrev amU:AK:=.seq (.aa [m 32 0,m 33 1,.v 34 (.bK (.t 32) (some (.t 33)) none),.aj (some 35) false 79035 81 [(.t 34)],m 36 2,.v 37 (.dK [.al,.int .i64 0,.al,.int .i64 0,.int .i64 0] [(0,1,(.t 35)),(3,1,(.t 36))]),.eff 38 false 79038 (.box 5 (.t 37)),m 9 38] [9]) am2
abbrev ana:AK:=.seq (.aa [k 6 (.c (.str [])),k 7 (ci 0),k 8 (ci 1)] [6,7,8]) .ret
abbrev am9:AK:=.seq (.aa [m 16 1,bi 17 .lss 16 0,m 18 17,.af 19 18 false false 79019 (.ah (.t 1)),.af 20 18 false false 79020 (.ah (.t 0)),.af 21 18 false false 79021 (.len true (.t 20)),.af 22 18 false false 79022 (.bin .gtr (.t 19) (.t 21)),.v 23 (.pick (.t 18) (.c (.bool true)) (.t 22)),m 24 23,.af 25 24 false false 79025 (.ah (.t 2)),.af 26 24 false false 79026 (.bin .lss (.t 25) (ci 0)),.v 27 (.pick (.t 24) (.c (.bool true)) (.t 26)),m 28 27,.af 29 28 false false 79029 (.ah (.t 2)),.af 30 28 false false 79030 (.bin .gtr (.t 29) (ci 65536)),.v 31 (.pick (.t 28) (.c (.bool true)) (.t 30))] [0,1,2,31]) (.cond (.t 31) ana .skip)
abbrev amO:AK:=.seq am9 amU
abbrev amN:AK:=.seq (.aa [k 6 (.c (.str [])),k 7 (ci 0),k 8 (ci 0)] [0,1,2]) amO
abbrev BD:AK:=amN
theorem ang:aA Tryz.prog 58 79000 3 BD [.tmp 6,.tmp 7,.tmp 8]:=⟨_,Tryz.func58,by kernel_rfl⟩
theorem ani {h a0 a1 a2 Post} (hp:aD Tryz.prog BD [.tmp 6,.tmp 7,.tmp 8] 3 [(0,a0),(1,a1),(2,a2)] h Post):Eng.Spec Tryz.prog 58 h [a0,a1,a2] Post:=aE ang rfl [(0,a0),(1,a1),(2,a2)] ⟨rfl,rfl,rfl,trivial⟩ hp
abbrev N6:AK:=.seq (.aa [m 21 3,m 2 21] [2]) .ret
abbrev Ob:AK:=.aa [bi 20 .add 8 1,m 8 20] [0,3,7,8]
abbrev N4:AK:=.aa [m 11 3,m 12 0,m 13 4,.v 14 (.bV (.t 12) (.t 13)),.v 15 (.aV .u64 (.t 14)),m 16 4,.v 17 (.bin .mul (ci 8) (.t 16)),b 18 .shl 15 17,b 19 .or 11 18,m 3 19] [0,3,7,8]
abbrev N3:AK:=.seq (.aa [m 10 8,m 4 10] [0,3,4,7,8]) N4
abbrev Oa:AK:=.seq (.block 1 N3) Ob
abbrev N9:AK:=.seq (.cond (.t 9) .skip (.exit 0)) Oa
abbrev N8:AK:=.seq (.aa [b 9 .lss 8 7] [0,3,7,8,9]) N9
abbrev Oc:AK:=.loop N8
abbrev N7:AK:=.seq (.aa [m 5 0,.v 6 (.len true (.t 5)),.v 7 (.mm false (.t 6) (ci 8)),k 8 (ci 0)] [0,3,7,8]) (.block 0 Oc)
abbrev N5:AK:=.seq N7 N6
abbrev N2:AK:=.seq (.aa [k 3 (.c (.int .u64 0))] [0,3]) N5
abbrev N1:AK:=.seq (.aa [k 2 (.c (.int .u64 0))] [0]) N2
abbrev xZ:AK:=N1
theorem Od:aA Tryz.prog 122 80000 1 xZ [.tmp 2]:=⟨_,Tryz.func122,by kernel_rfl⟩
theorem Oe {h a0 Post} (hp:aD Tryz.prog xZ [.tmp 2] 1 [(0,a0)] h Post):Eng.Spec Tryz.prog 122 h [a0] Post:=aE Od rfl [(0,a0)] ⟨rfl,trivial⟩ hp
end Go.Proofs.YtjoefngnjoofeaaGreatDoor.Cod
namespace Go.Proofs.YtjoefngnjoofeaaGreatDoor.Pk
open Eng
set_option maxRecDepth 10000
def fu:Nat:=79038
def rb:Nat:=73035
attribute [go_sem] fu rb
def aC (t:Bs) (most:Nat) (S:SS):HP:=[(fu,.var [.ro 1 (cp (aX t 0)),.int .i64 S.p,.sl rb 0 S.out.length,.int .i64 most,.int .i64 S.err]),(rb,.arr 1 (S.out.map ub))]
theorem aF {p:Prop} (h:p:=by simp(disch:=first | omega | (simp only[Lx];omega))only[go_sem,simprocAttr,aC]):p:=h
theorem bB {a b:Prop} (k:b) (h:b→a:=by intro h;simp(disch:=first | omega | (simp only[Lx];omega))only[go_sem,simprocAttr,aC];exact h):a:=h k
theorem bX {E0:Prop} {p:Prop} (e0:E0) (h:E0→p:=by intro e0;simp(disch:=first | omega | (simp only[Lx];omega))only[go_sem,simprocAttr,aC,e0]):p:=h e0
theorem cj {E0:Prop} {a b:Prop} (e0:E0) (k:b) (h:E0→b→a:=by intro e0 h;simp(disch:=first | omega | (simp only[Lx];omega))only[go_sem,simprocAttr,aC,e0];exact h):a:=h e0 k
theorem DF {E0 E1:Prop} {p:Prop} (e0:E0) (e1:E1) (h:E0→E1→p:=by intro e0 e1;simp(disch:=first | omega | (simp only[Lx];omega))only[go_sem,simprocAttr,aC,e0,e1]):p:=h e0 e1
theorem gK {E0 E1:Prop} {a b:Prop} (e0:E0) (e1:E1) (k:b) (h:E0→E1→b→a:=by intro e0 e1 h;simp(disch:=first | omega | (simp only[Lx];omega))only[go_sem,simprocAttr,aC,e0,e1];exact h):a:=h e0 e1 k
theorem iV {E0 E1 E2:Prop} {a b:Prop} (e0:E0) (e1:E1) (e2:E2) (k:b) (h:E0→E1→E2→b→a:=by intro e0 e1 e2 h;simp(disch:=first | omega | (simp only[Lx];omega))only[go_sem,simprocAttr,aC,e0,e1,e2];exact h):a:=h e0 e1 e2 k
theorem az4 {E0 E1 E2 E3:Prop} {p:Prop} (e0:E0) (e1:E1) (e2:E2) (e3:E3) (h:E0→E1→E2→E3→p:=by intro e0 e1 e2 e3;simp(disch:=first | omega | (simp only[Lx];omega))only[go_sem,simprocAttr,aC,e0,e1,e2,e3]):p:=h e0 e1 e2 e3
theorem uQ {E0 E1 E2 E3:Prop} {a b:Prop} (e0:E0) (e1:E1) (e2:E2) (e3:E3) (k:b) (h:E0→E1→E2→E3→b→a:=by intro e0 e1 e2 e3 h;simp(disch:=first | omega | (simp only[Lx];omega))only[go_sem,simprocAttr,aC,e0,e1,e2,e3];exact h):a:=h e0 e1 e2 e3 k
theorem qV {E0 E1 E2 E3 E4:Prop} {a b:Prop} (e0:E0) (e1:E1) (e2:E2) (e3:E3) (e4:E4) (k:b) (h:E0→E1→E2→E3→E4→b→a:=by intro e0 e1 e2 e3 e4 h;simp(disch:=first | omega | (simp only[Lx];omega))only[go_sem,simprocAttr,aC,e0,e1,e2,e3,e4];exact h):a:=h e0 e1 e2 e3 e4 k
theorem uR {E0 E1 E2 E3 E4 E5:Prop} {a b:Prop} (e0:E0) (e1:E1) (e2:E2) (e3:E3) (e4:E4) (e5:E5) (k:b) (h:E0→E1→E2→E3→E4→E5→b→a:=by intro e0 e1 e2 e3 e4 e5 h;simp(disch:=first | omega | (simp only[Lx];omega))only[go_sem,simprocAttr,aC,e0,e1,e2,e3,e4,e5];exact h):a:=h e0 e1 e2 e3 e4 e5 k
structure bP (t:Bs) (most:Nat) (S:SS):Prop where
 tl:t.length≤1000000
 ml:most≤1000000
 pl:S.p≤8*t.length
 ol:S.out.length≤most
theorem bP.mv {t:Bs} {most:Nat} {S S':SS} (h:bP t most S) (k:Mv t most S S'):bP t most S':=⟨h.tl,h.ml,k.q h.pl,k.o h.ol⟩
theorem oM (t:Bs):(cp (aX t 0)).length=8*t.length:=by rw[jb,gu];omega
theorem ug (t:Bs) (p:Nat):(aX t 0).drop p=aX t p:=by
 apply List.ext_getElem?
 intro j
 rw[List.getElem?_drop]
 unfold aX
 rw[List.getElem?_map,List.getElem?_map]
 by_cases h:p+j<8*t.length
 ·rw[List.getElem?_range (by omega),List.getElem?_range (by omega)]
  simp only[Option.map_some,Nat.zero_add]
 ·rw[List.getElem?_eq_none (by simp;omega),List.getElem?_eq_none (by simp;omega)];rfl
theorem fp (t:Bs) (most:Nat) (S:SS) (e:Nat):Eng.Spec Tryz.prog 82 (aC t most S) [.ab fu 0,.int .i64 e] (fun h' v ar=>h'=aC t most (cr e S)∧v=.ak []∧ar=[.ab fu 0,.int .i64 e]):=by
 refine Cod.amj (fun E R hN hR=>?_)
 unfold cr at hR
 by_cases h:S.err=0
 ·rw[if_pos h]at hR
  refine cj h ?_
  exact hR.le aF ⟨rfl,rfl,rfl⟩
 ·rw[if_neg h]at hR
  have hi:¬((S.err:Int)=0):=by omega
  refine cj hi ?_
  exact hR.le aF ⟨rfl,rfl,rfl⟩
theorem gq (t:Bs) (most:Nat) (S:SS) (h:bP t most S) (n:Nat) (hn:n≤31):Eng.Spec Tryz.prog 83 (aC t most S) [.ab fu 0,.int .i64 n]
    (fun h' v ar=>h'=aC t most (aJ t n S).2∧v=.int .i64 ((aJ t n S).1:Nat)∧ar=[.ab fu 0,.int .i64 n]):=by
 refine Cod.an9 (fun E R hN hR=>?_)
 obtain⟨h1,h2,h3,h4⟩:=h
 have hbl:=oM t
 by_cases he:S.err=0
 ·by_cases hl:8*t.length<S.p+n
  ·rw[kl he hl]at hR
   refine gK he hbl ?_
   refine aI (aC t most S) (fp t most S 6) (bX he) nofun ?_
   rintro h' v ar ⟨rfl,rfl,rfl⟩
   refine⟨aF,rfl,?_⟩
   rw[fh he]
   refine bB ?_
   exact hR.le aF ⟨rfl,rfl,rfl⟩
  ·rw[eW he (by omega)]at hR
   have hnb:=qe t S.p n (by omega)
   have hnl:=fX t S.p n
   have hn2:2^n≤2^31:=Nat.pow_le_pow_right (by decide) hn
   have hr3:=ai2 ((aX t S.p).take n) (by rw[List.length_take];omega)
   rw[hnb]at hr3
   have es:S.p+n-S.p=n:=by omega
   refine qV he hbl @kJ @ug es ?_
   refine aG hr3 rfl rfl ?_
   refine wW ?_
   exact hR.le aF ⟨rfl,rfl,rfl⟩
 ·rw[ln he]at hR
  have hi:¬((S.err:Int)=0):=by omega
  refine cj hi ?_
  exact hR.le aF ⟨rfl,rfl,rfl⟩
theorem tX (t:Bs) (most:Nat) (S:SS) (h:bP t most S) (l:List Nat) (hl:∀n∈l,n≤15) (hll:l.length≤320):Eng.Spec Tryz.prog 113 (aC t most S) [.ab fu 0,.ro 1 (bH (aQ l))]
    (fun h' v ar=>h'=aC t most (aY t l S).2∧v=.int .i64 ((aY t l S).1:Nat)∧ar=[.ab fu 0,.ro 1 (bH (aQ l))]):=by
 refine Cod.ao6 (fun E R hN hR=>?_)
 obtain⟨h1,h2,h3,h4⟩:=h
 have hbl:=oM t
 by_cases he:S.err=0
 ·have hcl:(aQ l).length=l.length:=by simp[aQ]
  have hr4:=alb (aQ l) ((aX t S.p).take 16) (by omega) (fun c hc=>by
   obtain⟨s,_,rfl⟩:=List.mem_map.1 hc
   rw[iy]
   have:=gV hl s
   omega) (by rw[List.length_take];omega)
  rw[ar5 hl]at hr4
  have hrb:=mB (aQ l) (aX t S.p)
  rw[gu,hcl]at hrb
  have em:(aX t S.p).take (min (S.p+16) (8*t.length)-S.p)=(aX t S.p).take 16:=by
   by_cases hh:S.p+16≤8*t.length
   ·rw[Nat.min_eq_left hh,show S.p+16-S.p=16 by omega]
   ·rw[Nat.min_eq_right (by omega),List.take_of_length_le (by rw[gu];omega),List.take_of_length_le (by rw[gu];omega)]
  have emi:min ((S.p:Int)+16) ((8*t.length:Nat):Int)=((min (S.p+16) (8*t.length):Nat):Int):=by omega
  by_cases hr:(readL (aQ l) (aX t S.p)).2.2=0
  ·rw[mH he hr]at hR
   obtain⟨g1,g2,g3⟩:=hrb hr
   rw[hr]at hr4
   generalize readL (aQ l) (aX t S.p)=rr at *
   refine uR he hbl @kJ @ug emi em ?_
   refine aG hr4 rfl rfl ?_
   refine wW ?_
   exact hR.le aF ⟨rfl,rfl,rfl⟩
  ·rw[nY he hr]at hR
   have hi:¬(((readL (aQ l) (aX t S.p)).2.2:Int)=0):=by omega
   generalize readL (aQ l) (aX t S.p)=rr at *
   refine uR he hbl @kJ @ug emi em ?_
   refine aG hr4 rfl rfl ?_
   refine aw hi ?_
   refine aI (aC t most S) (fp t most S rr.2.2) (bX he) nofun ?_
   rintro h' v ar ⟨rfl,rfl,rfl⟩
   refine⟨aF,rfl,?_⟩
   rw[fh he]
   refine bB ?_
   exact hR.le aF ⟨rfl,rfl,rfl⟩
 ·rw[Df he]at hR
  have hi:¬((S.err:Int)=0):=by omega
  refine cj hi ?_
  exact hR.le aF ⟨rfl,rfl,rfl⟩
theorem tW (t:Bs) (most:Nat) (S:SS) (h:bP t most S) (c:UInt8):Eng.Spec Tryz.prog 110 (aC t most S) [.ab fu 0,.int .u8 (c.toNat:Int)]
    (fun h' v ar=>h'=aC t most (dk most c S)∧v=.ak []∧ar=[.ab fu 0,.int .u8 (c.toNat:Int)]):=by
 refine Cod.aoC (fun E R hN hR=>?_)
 obtain⟨h1,h2,h3,h4⟩:=h
 unfold dk at hR
 have hc:=c.toNat_lt
 by_cases he:S.err=0
 ·rw[if_neg (by simpa using he)]at hR
  by_cases hf:most≤S.out.length
  ·rw[if_pos hf]at hR
   refine gK he @Cod.tV ?_
   refine gG ?_
   refine aI (aC t most S) (fp t most S 2) (bX he) nofun ?_
   rintro h' v ar ⟨rfl,rfl,rfl⟩
   refine⟨aF,rfl,?_⟩
   rw[fh he]
   refine bB ?_
   refine dw hN ?_
   refine wW ?_
   exact hR.le aF ⟨rfl,rfl,rfl⟩
  ·rw[if_neg hf]at hR
   refine gK he @Cod.tV ?_
   refine gG ?_
   refine dw hN ?_
   refine aw he ?_
   refine hR.le ?_ ⟨rfl,rfl,rfl⟩
   refine cj he ?_
   rw[UInt8.ofNat_toNat]
 ·rw[if_pos he]at hR
  have hi:¬((S.err:Int)=0):=by omega
  refine gK hi @Cod.tV ?_
  (repeat(first | refine dW ?_ | refine dU ?_ | refine dV ?_)<;>simp(disch:=omega)only[go_sem,simprocAttr,aC,hi])
  refine dw hN ?_
  refine aw hi ?_
  exact hR.le aF ⟨rfl,rfl,rfl⟩
theorem tY (t:Bs) (most n:Nat) (S:SS):rawS t most (n+1) S=if S.err≠0 then S else rawS t most n (dk most (UInt8.ofNat (aJ t 8 S).1) (aJ t 8 S).2):=rfl
theorem nB {t:Bs} {most n:Nat} {S:SS} (h:bP t most S):bP t most (aJ t n S).2:=h.mv fj
theorem Af {c:Nat} (h:c<256):(UInt8.ofNat c).toNat=c:=by rw[UInt8.toNat_ofNat'];omega
theorem aoS (t:Bs) (most:Nat) (S:SS) (h:bP t most S):Eng.Spec Tryz.prog 84 (aC t most S) [.ab fu 0]
    (fun h' v ar=>h'=aC t most (eJ t most S)∧v=.ak []∧ar=[.ab fu 0]):=by
 refine Cod.aoT (fun E R hN hR=>?_)
 unfold eJ at hR
 simp only at hR
 have hup:=Bn S.p (by have:=h.pl;have:=h.tl;omega)
 have h1:bP t most (gJ S):=h.mv zX
 have hp1:(gJ S).p=cS S.p:=rfl
 have ho1:(gJ S).out=S.out:=rfl
 have he1:(gJ S).err=S.err:=rfl
 refine bB ?_
 refine aG hup rfl rfl ?_
 refine wW ?_
 generalize hS1:gJ S=S1 at *
 rw[←hp1,←ho1,←he1]
 refine aI (aC t most S1) (gq t most S1 h1 16 (by omega)) aF nofun ?_
 rintro h' v ar ⟨rfl,rfl,rfl⟩
 have h2:=nB (n:=16) h1
 have hn1:=fD (t:=t) (S:=S1) (n:=16)
 generalize aJ t 16 S1=a at *
 refine⟨aF,rfl,?_⟩
 refine bB ?_
 refine aI (aC t most a.2) (gq t most a.2 h2 16 (by omega)) aF nofun ?_
 rintro h' v ar ⟨rfl,rfl,rfl⟩
 have h3:=nB (n:=16) h2
 have hn2:=fD (t:=t) (S:=a.2) (n:=16)
 generalize aJ t 16 a.2=b at *
 refine⟨aF,rfl,?_⟩
 refine bB ?_
 generalize hS4:(if a.1+b.1≠65535 then cr 3 b.2 else b.2)=S4 at hR
 have h4:bP t most S4:=by
  rw[←hS4]
  split
  ·exact h3.mv jo
  ·exact h3
 refine cH hN (fun _:Unit=>⟨[(0,.ab 79038 0),(2,.int .i64 (a.1:Nat)),(2000000,.ab 79038 0)],aC t most S4⟩) (fun _=>True) (fun R1 hR1=>?_) (fun _ _=>?_)
 ·by_cases he:b.2.err=0
  ·by_cases jF:a.1+b.1=65535
   ·rw[if_neg (by simpa using jF)]at hS4
    have hsi:(a.1:Int)+(b.1:Int)=65535:=by omega
    refine bm he hsi ?_
    refine eL he hsi ?_
    exact hR1 () _ trivial (.le (by rw[←hS4];exact bX he))
   ·rw[if_pos jF]at hS4
    have hsi:¬((a.1:Int)+(b.1:Int)=65535):=by omega
    refine aw he ?_
    refine eL he hsi ?_
    refine aI (aC t most b.2) (fp t most b.2 3) (bX he) nofun ?_
    rintro h' v ar ⟨rfl,rfl,rfl⟩
    refine⟨aF,rfl,?_⟩
    rw[hS4]
    refine bB ?_
    exact hR1 () _ trivial (.le aF)
  ·have hi:¬((b.2.err:Int)=0):=by omega
   have hS:S4=b.2:=by rw[←hS4];unfold cr;rw[if_neg he,ite_self]
   refine aw hi ?_
   refine ct hi ?_
   exact hR1 () _ trivial (.le (by rw[hS];exact aF))
 ·refine wW ?_
  refine aK hN (fun q:Nat×SS=>⟨[(0,.ab 79038 0),(2,.int .i64 (a.1:Nat)),(4,.int .i64 q.1),(2000000,.ab 79038 0)],aC t most q.2⟩) (fun q=>q.1≤a.1∧bP t most q.2∧rawS t most (a.1-q.1) q.2=rawS t most a.1 S4) (fun q=>a.1-q.1) (0,S4) (.le aF) ⟨by omega,h4,rfl⟩ ?_
  rintro⟨i,S⟩ R1 ⟨hi,hok,hraw⟩ hR1
  simp only at hi hok hraw
  rw[←hraw]at hR
  by_cases hlt:i<a.1
  ·obtain⟨k,hk⟩:∃k,a.1-i=k+1:=⟨a.1-i-1,by omega⟩
   rw[hk,tY]at hraw hR
   by_cases he:S.err=0
   ·rw[if_neg (by simpa using he)]at hraw hR
    refine cj he ?_
    refine ct he ?_
    refine aI (aC t most S) (gq t most S hok 8 (by omega)) (bX he) nofun ?_
    rintro h' v ar ⟨rfl,rfl,rfl⟩
    have hok2:=nB (n:=8) hok
    have hn8:=fD (t:=t) (S:=S) (n:=8)
    generalize aJ t 8 S=c at *
    have hof:=Af hn8
    have hput:=tW t most c.2 hok2 (UInt8.ofNat c.1)
    rw[hof]at hput
    refine⟨aF,rfl,?_⟩
    refine bB ?_
    refine aI (aC t most c.2) hput aF nofun ?_
    rintro h' v ar ⟨rfl,rfl,rfl⟩
    refine⟨aF,rfl,?_⟩
    refine bB ?_
    exact hR1 (i+1,dk most (UInt8.ofNat c.1) c.2) _ (by simp only;omega) ⟨by simp only;omega,hok2.mv kj,by simp only;rw[show a.1-(i+1)=k by omega];exact hraw⟩ (.le aF)
   ·rw[if_pos he]at hraw hR
    have hi2:¬((S.err:Int)=0):=by omega
    refine bB ?_
    refine ct hi2 ?_
    exact hR.le aF ⟨rfl,rfl,rfl⟩
  ·rw[show a.1-i=0 by omega]at hR
   refine bB ?_
   refine gG ?_
   exact hR.le (by simp(disch:=omega)only[go_sem,simprocAttr,aC,rawS]) ⟨rfl,rfl,rfl⟩
open Eng
set_option maxRecDepth 10000
def bI (f:Nat→Nat) (n:Nat):List Nat:=(List.range n).map f
theorem gz (f:Nat→Nat) (n:Nat):(bI f n).length=n:=by simp[bI]
theorem ku (f:Nat→Nat) (n:Nat):bI f (n+1)=bI f n++[f n]:=by simp[bI,List.range_succ]
theorem mI (f:Nat→Nat):bI f 0=[]:=(rfl)
theorem qS (f:Nat→Nat) {n i:Nat} (h:i<n):(bI f n).getD i 0=f i:=by simp[bI,List.getD_eq_getElem?_getD,h]
theorem fN {xs:List Nat}:aM (an xs) 0 xs.length=an xs:=by simp[aM,an,List.take_of_length_le]
def fixF (i:Nat):Nat:=if 256≤i∧i<280 then 7 else if 144≤i∧i<256 then 9 else 8
theorem xO:bI fixF 288=bl:=by decide +kernel
theorem xN:bI (fun _=>5) 32=bR:=by decide +kernel
theorem jh:(∀n∈bl,n≤15)∧bl.length=288∧bo bl=true:=by decide +kernel
theorem jg:(∀n∈bR,n≤15)∧bR.length=32∧bo bR=true:=by decide +kernel
set_option maxHeartbeats 1000000 in
theorem amL:aZ Tryz.prog 85 [] (.ak [.ro 1 (an bl),.ro 1 (an bR)]):=by
 refine Cod.amM (fun E R hN hR=>?_)
 refine wW ?_
 refine aK hN (fun i:Nat=>⟨[(2,.sl 77007 0 i),(3,.sl 77008 0 0),(4,.int .i64 i)],[(77007,.arr 1 (an (bI fixF i))),(77008,.arr 1 [])]⟩) (fun i=>i≤288) (fun i=>288-i) 0 (.le (ia @mI @gZ)) (by omega) ?_
 rintro i R1 hi hR1
 have hul:=gz fixF i
 have hnl:=bU (bI fixF i)
 by_cases hlt:i<288
 ·have hus:=ku fixF i
  refine wW ?_
  refine cH hN (fun _:Unit=>⟨[(2,.sl 77007 0 i),(3,.sl 77008 0 0),(4,.int .i64 i),(5,.int .i64 (if 144≤i∧i<256 then 9 else 8:Nat))],[(77007,.arr 1 (an (bI fixF i))),(77008,.arr 1 [])]⟩) (fun _=>True) (fun R2 hR2=>?_) (fun _ _=>?_)
  ·by_cases h1:144≤i
   ·by_cases h2:i<256
    ·refine wW ?_
     refine gG ?_
     exact hR2 () _ trivial (.le (by rw[if_pos ⟨h1,h2⟩];exact vV))
    ·refine wW ?_
     refine gG ?_
     exact hR2 () _ trivial (.le (by rw[if_neg (by omega)];exact vV))
   ·refine wW ?_
    refine gG ?_
    exact hR2 () _ trivial (.le (by rw[if_neg (by omega)];exact vV))
  ·by_cases h1:256≤i
   ·by_cases h2:i<280
    ·have hf:fixF i=7:=if_pos ⟨h1,h2⟩
     rw[hf]at hus
     refine ck @eG @eV @fP ?_
     exact hR1 (i+1) _ (by omega) (by omega) (.le (by rw[hus,←eF];exact vV))
    ·have hf:fixF i=8:=by unfold fixF;rw[if_neg (by omega),if_neg (by omega)]
     rw[hf]at hus
     rw[if_neg (by omega)]
     refine ck @eG @eV @fP ?_
     exact hR1 (i+1) _ (by omega) (by omega) (.le (by rw[hus,←eF];exact vV))
   ·have hf:fixF i=if 144≤i∧i<256 then 9 else 8:=by unfold fixF;rw[if_neg (by omega)]
    rw[hf]at hus
    refine wW ?_
    refine gS @eG @eV @fP ?_
    exact hR1 (i+1) _ (by omega) (by omega) (.le (by rw[hus,←eF];exact vV))
 ·obtain rfl:i=288:=by omega
  refine wW ?_
  refine aK hN (fun i:Nat=>⟨[(2,.sl 77007 0 288),(3,.sl 77008 0 i),(6,.int .i64 i)],[(77007,.arr 1 (an (bI fixF 288))),(77008,.arr 1 (an (bI (fun _=>5) i)))]⟩) (fun i=>i≤32) (fun i=>32-i) 0 (.le (ia @mI @gZ)) (by omega) ?_
  rintro i R2 hi hR2
  have hul2:=gz (fun _=>5) i
  have hnl2:=bU (bI (fun _=>5) i)
  by_cases hlt:i<32
  ·have hus:=ku (fun _=>5) i
   refine ck @eG @eV @fP ?_
   exact hR2 (i+1) _ (by omega) (by omega) (.le (by rw[hus,←eF];exact vV))
  ·obtain rfl:i=32:=by omega
   rw[xO]at *
   rw[xN]at *
   have e1:aM (an bl) 0 288=an bl:=by rw[←jh.2.1];exact fN
   have e2:aM (an bR) 0 32=an bR:=by rw[←jg.2.1];exact fN
   refine wW ?_
   refine hR.wk (h':=[]) (r':=.ak [.ro 1 (an bl),.ro 1 (an bR)]) (ar':=[]) rfl (.bF 77007 (.bF 77008 (.le (ia e1 e2)))) ⟨rfl,rfl⟩
def gW (i:Nat):Nat:=if i<8 then 3+i else 3+(4+i%4)*2^(i/4-1)
def gn (i:Nat):Nat:=if i<8 then 0 else i/4-1
def gD (i:Nat):Nat:=if i<4 then 1+i else 1+(2+i%2)*2^(i/2-1)
def gl (i:Nat):Nat:=if i<4 then 0 else i/2-1
theorem Z4:∀i,i<28→gW (i+1)=gW i+2^gn i∧gW i=(aU i).1∧gn i=(aU i).2∧gW i≤300∧gn i≤8:=by decide +kernel
theorem KP:∀i,i<30→gD (i+1)=gD i+2^gl i∧gD i=(bt i).1∧gl i=(bt i).2∧gD i≤40000∧gl i≤15∧1≤gD i:=by decide +kernel
def eT:List Nat:=bI (fun i=>(aU i).1) 29
def eU:List Nat:=bI (fun i=>(aU i).2) 29
def fS:List Nat:=bI (fun i=>(bt i).1) 30
def fT:List Nat:=bI (fun i=>(bt i).2) 30
theorem Z5:bI gW 28++[258]=eT∧bI gn 28++[0]=eU∧bI gD 30=fS∧bI gl 30=fT:=by decide +kernel
theorem Ai (k:Nat) (h:k≤30):IntKind.i64.wrap (1*2^min k 64)=((2^k:Nat):Int):=by
 have hk:2^k≤2^30:=Nat.pow_le_pow_right (by decide) h
 rw[Nat.min_eq_left (by omega),show((1:Int)*2^k)=((2^k:Nat):Int)by rw[Int.one_mul];push_cast;rfl]
 generalize 2^k=q at hk ⊢
 exact ib (by omega)
set_option maxHeartbeats 2000000 in
theorem anV:aZ Tryz.prog 112 [] (.ak [.ro 1 (an eT),.ro 1 (an eU),.ro 1 (an fS),.ro 1 (an fT)]):=by
 refine Cod.anW (fun E R hN hR=>?_)
 refine wW ?_
 refine aK hN (fun i:Nat=>⟨[(4,.sl 78013 0 i),(5,.sl 78014 0 i),(6,.int .i64 (gW i:Nat)),(7,.int .i64 i)],[(78013,.arr 1 (an (bI gW i))),(78014,.arr 1 (an (bI gn i)))]⟩) (fun i=>i≤28) (fun i=>28-i) 0 (.le (by simp(disch:=omega)only[go_sem,simprocAttr,mI,gZ];rfl)) (by omega) ?_
 rintro i R1 hi hR1
 have hul:=gz gW i
 have hul2:=gz gn i
 have hnl:=bU (bI gW i)
 have hnl2:=bU (bI gn i)
 by_cases hlt:i<28
 ·obtain⟨t1,_,_,t4,t5⟩:=Z4 i hlt
  have hus:=ku gW i
  have hus2:=ku gn i
  have hsh:=Ai (gn i) (by omega)
  have hpk:2^gn i≤2^8:=Nat.pow_le_pow_right (by decide) t5
  refine wW ?_
  refine cH hN (fun _:Unit=>⟨[(4,.sl 78013 0 i),(5,.sl 78014 0 i),(6,.int .i64 (gW i:Nat)),(7,.int .i64 i),(8,.int .i64 (gn i:Nat))],[(78013,.arr 1 (an (bI gW i))),(78014,.arr 1 (an (bI gn i)))]⟩) (fun _=>True) (fun R2 hR2=>?_) (fun _ _=>?_)
  ·by_cases h1:8≤i
   ·have hk:gn i=i/4-1:=if_neg (by omega)
    have e4:(i:Int)/4-1=((i/4-1:Nat):Int):=by omega
    refine aw e4 ?_
    exact hR2 () _ trivial (.le (by rw[hk];exact vV))
   ·have hk:gn i=0:=if_pos (by omega)
    refine wW ?_
    exact hR2 () _ trivial (.le (by rw[hk];exact vV))
  ·refine eC @eG @eV @fP hsh ?_
   exact hR1 (i+1) _ (by omega) (by omega) (.le (by rw[hus,hus2,←eF,←eF,t1];exact vV))
 ·obtain rfl:i=28:=by omega
  obtain⟨w1,w2,w3,w4⟩:=Z5
  have hl1:eT.length=29:=gz _ _
  have hl2:eU.length=29:=gz _ _
  refine ck @eG @eV @fP ?_
  rw[show(AV.int .i64 258)=.int .i64 ((258:Nat):Int)from rfl,show(AV.int .i64 0)=.int .i64 ((0:Nat):Int)from rfl,eF,eF,w1,w2]
  have hn1:=bU eT
  have hn2:=bU eU
  refine aK hN (fun i:Nat=>⟨[(4,.sl 78013 0 29),(5,.sl 78014 0 29),(6,.int .i64 (gD i:Nat)),(9,.sl 78042 0 i),(10,.sl 78043 0 i),(11,.int .i64 i)],[(78013,.arr 1 (an eT)),(78014,.arr 1 (an eU)),(78042,.arr 1 (an (bI gD i))),(78043,.arr 1 (an (bI gl i)))]⟩) (fun i=>i≤30) (fun i=>30-i) 0 (.le (by simp(disch:=omega)only[go_sem,simprocAttr,mI,gZ];rfl)) (by omega) ?_
  rintro i R2 hi hR2
  have hul:=gz gD i
  have hul2:=gz gl i
  have hnl:=bU (bI gD i)
  have hnl2:=bU (bI gl i)
  by_cases hlt:i<30
  ·obtain⟨t1,_,_,t4,t5,_⟩:=KP i hlt
   have hus:=ku gD i
   have hus2:=ku gl i
   have hsh:=Ai (gl i) (by omega)
   have hpk:2^gl i≤2^15:=Nat.pow_le_pow_right (by decide) t5
   refine wW ?_
   refine cH hN (fun _:Unit=>⟨[(4,.sl 78013 0 29),(5,.sl 78014 0 29),(6,.int .i64 (gD i:Nat)),(9,.sl 78042 0 i),(10,.sl 78043 0 i),(11,.int .i64 i),(12,.int .i64 (gl i:Nat))],[(78013,.arr 1 (an eT)),(78014,.arr 1 (an eU)),(78042,.arr 1 (an (bI gD i))),(78043,.arr 1 (an (bI gl i)))]⟩) (fun _=>True) (fun R3 hR3=>?_) (fun _ _=>?_)
   ·by_cases h1:4≤i
    ·have hk:gl i=i/2-1:=if_neg (by omega)
     have e4:(i:Int)/2-1=((i/2-1:Nat):Int):=by omega
     refine aw e4 ?_
     exact hR3 () _ trivial (.le (by rw[hk];exact vV))
    ·have hk:gl i=0:=if_pos (by omega)
     refine wW ?_
     exact hR3 () _ trivial (.le (by rw[hk];exact vV))
   ·refine eC @eG @eV @fP hsh ?_
    exact hR2 (i+1) _ (by omega) (by omega) (.le (by rw[hus,hus2,←eF,←eF,t1];exact vV))
  ·obtain rfl:i=30:=by omega
   rw[w3]at *
   rw[w4]at *
   have e1:aM (an eT) 0 29=an eT:=by rw[←hl1];exact fN
   have e2:aM (an eU) 0 29=an eU:=by rw[←hl2];exact fN
   have e3:aM (an fS) 0 30=an fS:=by rw[←hul];exact fN
   have e4:aM (an fT) 0 30=an fT:=by rw[←hul2];exact fN
   refine wW ?_
   exact hR.wk (h':=[]) (r':=.ak [.ro 1 (an eT),.ro 1 (an eU),.ro 1 (an fS),.ro 1 (an fT)]) (ar':=[]) rfl (.bF 78013 (.bF 78014 (.bF 78042 (.bF 78043 (.le (az5 e1 e2 e3 e4)))))) ⟨rfl,rfl⟩
theorem vM (most back n:Nat) (S:SS):backS most back (n+1) S=if S.err≠0 then S else backS most back n (dk most (S.out.getD (S.out.length-back) 0) S):=rfl
theorem Gt {most back:Nat} {S:SS} (h:S.err≠0):∀n,backS most back n S=S
 | 0=>rfl
 | n+1=>by rw[vM,if_pos h]
theorem Aw {t:Bs} {most:Nat} {l d:List Nat} {S:SS} (h:S.err≠0):da t most l d S=S:=qj _ h
theorem acP {t:Bs} {most:Nat} {l d:List Nat} {S:SS} (h0:S.p≤8*t.length) (h:S.err=0):da t most l d S=if(dH t most l d S).1 then(dH t most l d S).2 else da t most l d (dH t most l d S).2:=by
 rw[nF h0,if_neg (by simpa using h)]
def p6 (t:Bs) (S:SS):Nat:=if S.err=0 then 8*t.length+1-S.p else 0
theorem zL {t:Bs} {most:Nat} {S S':SS} (h:bP t most S) (he:S.err=0) (k:S'.err≠0∨S.p<S'.p):p6 t S'<p6 t S:=by
 have:=h.pl
 unfold p6
 rw[if_pos he]
 split
 ·rcases k with k | k
  ·exact absurd (by assumption) k
  ·omega
 ·omega
theorem Oz (S:SS) (i:Nat) (h:i<S.out.length):nth (S.out.map ub) i=.int .u8 ((S.out.getD i 0).toNat:Int):=by
 simp[nth,ub,List.getD_eq_getElem?_getD,h]
set_option maxHeartbeats 4000000 in
theorem BT (t:Bs) (most:Nat) (S0:SS) (h0:bP t most S0) (l d:List Nat) (hl:∀n∈l,n≤15) (hll:l.length≤320) (hd:∀n∈d,n≤15) (hdl:d.length≤320) :
    Eng.Spec Tryz.prog 86 (aC t most S0) [.ab fu 0,.ro 1 (an l),.ro 1 (an d)] (fun h' v ar=>h'=aC t most (da t most l d S0)∧v=.ak []∧ar=[.ab fu 0,.ro 1 (an l),.ro 1 (an d)]):=by
 refine Cod.aoy (fun E R hN hR=>?_)
 have hc1:=tQ l hl hll
 have hc2:=tQ d hd hdl
 have hl1:eT.length=29:=gz _ _
 have hl2:eU.length=29:=gz _ _
 have hl3:fS.length=30:=gz _ _
 have hl4:fT.length=30:=gz _ _
 have hn1:=bU eT
 have hn2:=bU eU
 have hn3:=bU fS
 have hn4:=bU fT
 refine wW ?_
 refine aG hc1 rfl rfl ?_
 refine wW ?_
 refine aG hc2 rfl rfl ?_
 refine wW ?_
 refine aG anV rfl rfl ?_
 refine wW ?_
 generalize hF:da t most l d S0=F at hR
 have fin:∀S1,S1=F→R (aC t most S1) (.ak []) [.ab 79038 0,.ro 1 (an l),.ro 1 (an d)]:=fun S1 e=>hR.le (by rw[e];exact aF) ⟨rfl,rfl,rfl⟩
 refine aK hN (fun S:SS=>⟨[(0,.ab 79038 0),(6,.ro 1 (bH (aQ l))),(7,.ro 1 (bH (aQ d))),(8,.ro 1 (an eT)),(9,.ro 1 (an eU)),(10,.ro 1 (an fS)),(11,.ro 1 (an fT)),(2000000,.ab 79038 0),(2000001,.ro 1 (an l)),(2000002,.ro 1 (an d))],aC t most S⟩)
  (fun S=>bP t most S∧da t most l d S=F) (fun S=>p6 t S) S0 (.le aF) ⟨h0,hF⟩ ?_
 rintro S R1 ⟨hok,hpk⟩ hR1
 by_cases he:S.err=0
 ·have hpk0:=hpk
  rw[acP hok.pl he]at hpk
  have hsu:=Db (t:=t) (most:=most) (l:=l) (d:=d) he
  have hms:=mj (t:=t) (most:=most) (l:=l) (d:=d) (S:=S)
  have hst:dH t most l d S=if(aY t l S).2.err≠0 then(true,(aY t l S).2)else if(aY t l S).1=256 then(true,(aY t l S).2)else if(aY t l S).1<256 then(false,dk most (UInt8.ofNat (aY t l S).1) (aY t l S).2)else(false,du t most d (aY t l S).1 (aY t l S).2):=rfl
  have hsl:=qM (t:=t) (l:=l) he
  refine cj he ?_
  refine aI (aC t most S) (tX t most S hok l hl hll) (bX he) nofun ?_
  rintro h' v ar ⟨rfl,rfl,rfl⟩
  have hok2:bP t most (aY t l S).2:=hok.mv jJ
  generalize aY t l S=a at *
  refine⟨aF,rfl,?_⟩
  by_cases hae:a.2.err=0
  ·obtain⟨hup,hlt⟩:=hsl hae
   rw[if_neg (by simpa using hae)]at hst
   by_cases h256:a.1=256
   ·rw[if_pos h256]at hst
    rw[hst]at hpk
    simp only[if_true]at hpk
    refine gK hae h256 ?_
    refine eL hae h256 ?_
    have:=fin a.2 hpk
    simp only[aC,hae]at this
    simp(disch:=omega)only[go_sem,simprocAttr]at this
    exact this
   ·rw[if_neg h256]at hst
    have hi256:¬((a.1:Int)=256):=by omega
    by_cases hlit:a.1<256
    ·rw[if_pos hlit]at hst
     rw[hst]at hpk hsu
     simp only[Bool.false_eq_true,if_false]at hpk hsu
     have hput:=tW t most a.2 hok2 (UInt8.ofNat a.1)
     rw[Af hlit]at hput
     refine cj hae ?_
     refine eL hae hi256 ?_
     refine aI (aC t most a.2) hput (bX hae) nofun ?_
     rintro h' v ar ⟨rfl,rfl,rfl⟩
     refine⟨aF,rfl,?_⟩
     refine bB ?_
     refine hR1 (dk most (UInt8.ofNat a.1) a.2) _ (zL hok he ?_) ⟨hok2.mv kj,hpk⟩ (.le aF)
     by_cases hpe:(dk most (UInt8.ofNat a.1) a.2).err=0
     ·exact .inr (hsu hpe)
     ·exact .inl hpe
    ·rw[if_neg hlit]at hst
     rw[hst]at hpk hsu
     simp only[Bool.false_eq_true,if_false]at hpk hsu
     have next:∀S' st',bP t most S'→S'=du t most d a.1 a.2→Wk st' ⟨[(0,.ab 79038 0),(6,.ro 1 (bH (aQ l))),(7,.ro 1 (bH (aQ d))),(8,.ro 1 (an eT)),(9,.ro 1 (an eU)),(10,.ro 1 (an fS)),(11,.ro 1 (an fT)),(2000000,.ab 79038 0),(2000001,.ro 1 (an l)),(2000002,.ro 1 (an d))],aC t most S'⟩→R1.ap st':=by
      intro S' st' ho e hw
      refine hR1 S' _ (zL hok he ?_) ⟨ho,by rw[e];exact hpk⟩ hw
      rw[e]
      by_cases hpe:(du t most d a.1 a.2).err=0
      ·exact .inr (hsu hpe)
      ·exact .inl hpe
     have stop:∀S',S'=du t most d a.1 a.2→S'.err≠0→R (aC t most S') (.ak []) [.ab 79038 0,.ro 1 (an l),.ro 1 (an d)]:=fun S' e h=>fin S' (by rw[←e,Aw h]at hpk;exact hpk)
     refine cj hae ?_
     refine eL hae hi256 ?_
     by_cases h285:285<a.1
     ·have hrep:cr 3 a.2=du t most d a.1 a.2:=by unfold du;rw[if_pos h285]
      have:=stop _ hrep (iC (by omega))
      simp only[aC]at this
      simp(disch:=omega)only[go_sem,simprocAttr]at this
      refine wW ?_
      refine aI (aC t most a.2) (fp t most a.2 3) (bX hae) nofun ?_
      rintro h' v ar ⟨rfl,rfl,rfl⟩
      refine⟨aF,rfl,?_⟩
      refine bB ?_
      exact this
     ·have hrep:du t most d a.1 a.2=if(aY t d (aJ t (aU (a.1-257)).2 a.2).2).2.err≠0 then(aY t d (aJ t (aU (a.1-257)).2 a.2).2).2 else if 29<(aY t d (aJ t (aU (a.1-257)).2 a.2).2).1 then cr 3 (aY t d (aJ t (aU (a.1-257)).2 a.2).2).2 else
          (if(aJ t (bt (aY t d (aJ t (aU (a.1-257)).2 a.2).2).1).2 (aY t d (aJ t (aU (a.1-257)).2 a.2).2).2).2.err≠0 then(aJ t (bt (aY t d (aJ t (aU (a.1-257)).2 a.2).2).1).2 (aY t d (aJ t (aU (a.1-257)).2 a.2).2).2).2
          else if(aJ t (bt (aY t d (aJ t (aU (a.1-257)).2 a.2).2).1).2 (aY t d (aJ t (aU (a.1-257)).2 a.2).2).2).2.out.length<(bt (aY t d (aJ t (aU (a.1-257)).2 a.2).2).1).1+(aJ t (bt (aY t d (aJ t (aU (a.1-257)).2 a.2).2).1).2 (aY t d (aJ t (aU (a.1-257)).2 a.2).2).2).1
          then cr 3 (aJ t (bt (aY t d (aJ t (aU (a.1-257)).2 a.2).2).1).2 (aY t d (aJ t (aU (a.1-257)).2 a.2).2).2).2
          else backS most ((bt (aY t d (aJ t (aU (a.1-257)).2 a.2).2).1).1+(aJ t (bt (aY t d (aJ t (aU (a.1-257)).2 a.2).2).1).2 (aY t d (aJ t (aU (a.1-257)).2 a.2).2).2).1) ((aU (a.1-257)).1+(aJ t (aU (a.1-257)).2 a.2).1) (aJ t (bt (aY t d (aJ t (aU (a.1-257)).2 a.2).2).1).2 (aY t d (aJ t (aU (a.1-257)).2 a.2).2).2).2):=by
       unfold du;rw[if_neg h285]
      have hg1:eT.getD (a.1-257) 0=(aU (a.1-257)).1:=qS _ (by omega)
      have hg2:eU.getD (a.1-257) 0=(aU (a.1-257)).2:=qS _ (by omega)
      have hlb:(aU (a.1-257)).1≤300∧(aU (a.1-257)).2≤8:=(by decide +kernel:∀i,i<29→(aU i).1≤300∧(aU i).2≤8) _ (by omega)
      obtain⟨hlb1,hlb2⟩:=hlb
      generalize hB:aU (a.1-257)=lb at *
      have ei:(a.1:Int)-257=((a.1-257:Nat):Int):=by omega
      have hnum:=gq t most a.2 hok2 lb.2 (by omega)
      have hb1:=fD (t:=t) (S:=a.2) (n:=lb.2)
      have hb2:2^lb.2≤2^8:=Nat.pow_le_pow_right (by decide) hlb2
      have hok3:=nB (n:=lb.2) hok2
      refine wW ?_
      refine cH hN (fun _:Unit=>⟨[(0,.ab 79038 0),(6,.ro 1 (bH (aQ l))),(7,.ro 1 (bH (aQ d))),(8,.ro 1 (an eT)),(9,.ro 1 (an eU)),(10,.ro 1 (an fS)),(11,.ro 1 (an fT)),(13,.int .i64 (lb.1+(aJ t lb.2 a.2).1:Nat)),(2000000,.ab 79038 0),(2000001,.ro 1 (an l)),(2000002,.ro 1 (an d))],aC t most (aJ t lb.2 a.2).2⟩) (fun _=>True) (fun R2 hR2=>?_) (fun _ _=>?_)
      ·simp(disch:=omega)only[go_sem,simprocAttr,ei,hn1,hn2,hl1,hl2,dQ,hg1,hg2]
       refine⟨?_,?_⟩
       ·refine aI (aC t most a.2) hnum (bX hae) nofun ?_
        rintro h' v ar ⟨rfl,rfl,rfl⟩
        refine⟨aF,rfl,?_⟩
        refine bB ?_
        exact hR2 () _ trivial (.le aF)
       ·refine aI (aC t most a.2) hnum (bX hae) nofun ?_
        rintro h' v ar ⟨rfl,rfl,rfl⟩
        refine⟨aF,rfl,?_⟩
        refine bB ?_
        exact hR2 () _ trivial (.le aF)
      generalize aJ t lb.2 a.2=b at *
      refine bB ?_
      refine aI (aC t most b.2) (tX t most b.2 hok3 d hd hdl) aF nofun ?_
      rintro h' v ar ⟨rfl,rfl,rfl⟩
      have hok4:bP t most (aY t d b.2).2:=hok3.mv jJ
      generalize aY t d b.2=k at *
      refine⟨aF,rfl,?_⟩
      by_cases hke:k.2.err=0
      ·rw[if_neg (by simpa using hke)]at hrep
       by_cases hk29:29<k.1
       ·rw[if_pos hk29]at hrep
        have:=stop _ hrep.symm (iC (by omega))
        simp only[aC]at this
        simp(disch:=omega)only[go_sem,simprocAttr]at this
        have hfe:¬(((cr 3 k.2).err:Int)=0):=by have:=iC (S:=k.2) (e:=3) (by omega);omega
        refine gK hke @Cod.nG ?_
        refine ct hke ?_
        refine aI (aC t most k.2) (fp t most k.2 3) (bX hke) nofun ?_
        rintro h' v ar ⟨rfl,rfl,rfl⟩
        refine⟨aF,rfl,?_⟩
        refine bB ?_
        refine dw hN ?_
        refine bm hfe @Cod.nG ?_
        exact this
       ·rw[if_neg hk29]at hrep
        have hg3:fS.getD k.1 0=(bt k.1).1:=qS _ (by omega)
        have hg4:fT.getD k.1 0=(bt k.1).2:=qS _ (by omega)
        have hdb:(bt k.1).1≤40000∧(bt k.1).2≤15∧1≤(bt k.1).1:=(by decide +kernel:∀i,i<30→(bt i).1≤40000∧(bt i).2≤15∧1≤(bt i).1) _ (by omega)
        obtain⟨hdb1,hdb2,hdb3⟩:=hdb
        generalize bt k.1=db at *
        have hnum:=gq t most k.2 hok4 db.2 (by omega)
        have hc1:=fD (t:=t) (S:=k.2) (n:=db.2)
        have hc2:2^db.2≤2^15:=Nat.pow_le_pow_right (by decide) hdb2
        have hok5:=nB (n:=db.2) hok4
        refine gK hke @Cod.nG ?_
        refine ct hke ?_
        refine dw hN ?_
        refine aw hke ?_
        refine cH hN (fun _:Unit=>⟨[(0,.ab 79038 0),(6,.ro 1 (bH (aQ l))),(7,.ro 1 (bH (aQ d))),(8,.ro 1 (an eT)),(9,.ro 1 (an eU)),(10,.ro 1 (an fS)),(11,.ro 1 (an fT)),(13,.int .i64 (lb.1+b.1:Nat)),(15,.int .i64 (db.1+(aJ t db.2 k.2).1:Nat)),(2000000,.ab 79038 0),(2000001,.ro 1 (an l)),(2000002,.ro 1 (an d))],aC t most (aJ t db.2 k.2).2⟩) (fun _=>True) (fun R2 hR2=>?_) (fun _ _=>?_)
        ·simp(disch:=omega)only[go_sem,simprocAttr,hke,hn3,hn4,hl3,hl4,dQ,hg3,hg4]
         refine⟨?_,?_⟩
         ·refine aI (aC t most k.2) hnum (bX hke) nofun ?_
          rintro h' v ar ⟨rfl,rfl,rfl⟩
          refine⟨aF,rfl,?_⟩
          refine bB ?_
          exact hR2 () _ trivial (.le aF)
         ·refine aI (aC t most k.2) hnum (bX hke) nofun ?_
          rintro h' v ar ⟨rfl,rfl,rfl⟩
          refine⟨aF,rfl,?_⟩
          refine bB ?_
          exact hR2 () _ trivial (.le aF)
        generalize aJ t db.2 k.2=c at *
        -- is the place ahead of all that came out?
        have copy:∀S1,bP t most S1→(S1.err≠0→S1=du t most d a.1 a.2)→(S1.err=0→db.1+c.1≤S1.out.length∧backS most (db.1+c.1) (lb.1+b.1) S1=du t most d a.1 a.2) →
            vcW Tryz.prog E Cod.tU (KQ.de 1 (KQ.fq R1 (KQ.de 0 (KQ.post [] 3 R)))) ⟨[(0,.ab 79038 0),(6,.ro 1 (bH (aQ l))),(7,.ro 1 (bH (aQ d))),(8,.ro 1 (an eT)),(9,.ro 1 (an eU)),(10,.ro 1 (an fS)),(11,.ro 1 (an fT)),(13,.int .i64 (lb.1+b.1:Nat)),(15,.int .i64 (db.1+c.1:Nat)),(2000000,.ab 79038 0),(2000001,.ro 1 (an l)),(2000002,.ro 1 (an d))],aC t most S1⟩:=by
         intro S1 ho1 hbad hgood
         refine wW ?_
         refine aK hN (fun q:Nat×SS=>⟨[(0,.ab 79038 0),(6,.ro 1 (bH (aQ l))),(7,.ro 1 (bH (aQ d))),(8,.ro 1 (an eT)),(9,.ro 1 (an eU)),(10,.ro 1 (an fS)),(11,.ro 1 (an fT)),(13,.int .i64 (lb.1+b.1:Nat)),(15,.int .i64 (db.1+c.1:Nat)),(16,.int .i64 q.1),(2000000,.ab 79038 0),(2000001,.ro 1 (an l)),(2000002,.ro 1 (an d))],aC t most q.2⟩)
          (fun q=>q.1≤lb.1+b.1∧bP t most q.2∧(q.2.err≠0→q.2=du t most d a.1 a.2)∧(q.2.err=0→db.1+c.1≤q.2.out.length∧backS most (db.1+c.1) (lb.1+b.1-q.1) q.2=du t most d a.1 a.2)) (fun q=>lb.1+b.1-q.1) (0,S1) (.le aF) ⟨by omega,ho1,hbad,hgood⟩ ?_
         rintro⟨i,S2⟩ R2 ⟨hi,ho2,hbad2,hgood2⟩ hR2
         simp only at hi ho2 hbad2 hgood2
         by_cases he2:S2.err=0
         ·obtain⟨hbl,hbk⟩:=hgood2 he2
          by_cases hlt2:i<lb.1+b.1
          ·obtain⟨q,hq⟩:∃q,lb.1+b.1-i=q+1:=⟨lb.1+b.1-i-1,by omega⟩
           rw[hq,vM,if_neg (by simpa using he2)]at hbk
           have ej:(S2.out.length:Int)-((db.1:Int)+(c.1:Int))=((S2.out.length-(db.1+c.1):Nat):Int):=by omega
           have hgo:=Oz S2 (S2.out.length-(db.1+c.1)) (by omega)
           have hput:=tW t most S2 ho2 (S2.out.getD (S2.out.length-(db.1+c.1)) 0)
           generalize S2.out.getD (S2.out.length-(db.1+c.1)) 0=ch at *
           have hml:S2.out.length≤1000000:=Nat.le_trans ho2.ol ho2.ml
           refine iV he2 ej hgo ?_
           refine gS he2 ej hgo ?_
           refine aI (aC t most S2) hput (bX he2) nofun ?_
           rintro h' v ar ⟨rfl,rfl,rfl⟩
           refine⟨aF,rfl,?_⟩
           refine bB ?_
           refine hR2 (i+1,dk most ch S2) _ (by simp only;omega) ⟨by simp only;omega,ho2.mv kj,fun hpe=>?_,fun hpe=>?_⟩ (.le aF)
           ·simp only at hpe ⊢
            rw[Gt hpe]at hbk
            exact hbk
           ·simp only at hpe ⊢
            refine⟨?_,by rw[show lb.1+b.1-(i+1)=q by omega];exact hbk⟩
            unfold dk at hpe ⊢
            rw[if_neg (by simpa using he2)]at hpe ⊢
            split at hpe
            ·cases hpe
            ·rename_i hf
             rw[if_neg hf]
             simp only[List.length_append];omega
          ·rw[show lb.1+b.1-i=0 by omega]at hbk
           refine cj he2 ?_
           refine ct he2 ?_
           exact next S2 _ ho2 hbk (.le (bX he2))
         ·have hi2:¬((S2.err:Int)=0):=by omega
          have hb2:=hbad2 he2
          by_cases hlt2:i<lb.1+b.1
          ·refine cj hi2 ?_
           refine ct hi2 ?_
           exact next S2 _ ho2 hb2 (.le aF)
          ·refine cj hi2 ?_
           refine ct hi2 ?_
           exact next S2 _ ho2 hb2 (.le aF)
        refine cH hN (fun S1:SS=>⟨[(0,.ab 79038 0),(6,.ro 1 (bH (aQ l))),(7,.ro 1 (bH (aQ d))),(8,.ro 1 (an eT)),(9,.ro 1 (an eU)),(10,.ro 1 (an fS)),(11,.ro 1 (an fT)),(13,.int .i64 (lb.1+b.1:Nat)),(15,.int .i64 (db.1+c.1:Nat)),(2000000,.ab 79038 0),(2000001,.ro 1 (an l)),(2000002,.ro 1 (an d))],aC t most S1⟩) (fun S1=>bP t most S1∧(S1.err≠0→S1=du t most d a.1 a.2)∧(S1.err=0→db.1+c.1≤S1.out.length∧backS most (db.1+c.1) (lb.1+b.1) S1=du t most d a.1 a.2)) (fun R2 hR2=>?_) (fun S1 h=>copy S1 h.1 h.2.1 h.2.2)
        by_cases hce:c.2.err=0
        ·rw[if_neg (by simpa using hce)]at hrep
         by_cases hfar:c.2.out.length<db.1+c.1
         ·rw[if_pos hfar]at hrep
          refine cj hce ?_
          refine ct hce ?_
          refine aI (aC t most c.2) (fp t most c.2 3) (bX hce) nofun ?_
          rintro h' v ar ⟨rfl,rfl,rfl⟩
          refine⟨aF,rfl,?_⟩
          refine bB ?_
          exact hR2 (cr 3 c.2) _ ⟨hok5.mv jo,fun _=>hrep.symm,fun e=>absurd e (iC (by omega))⟩ (.le aF)
         ·rw[if_neg hfar]at hrep
          refine cj hce ?_
          refine ct hce ?_
          exact hR2 c.2 _ ⟨hok5,fun e=>absurd hce e,fun _=>⟨by omega,hrep.symm⟩⟩ (.le (bX hce))
        ·rw[if_pos hce]at hrep
         have hi:¬((c.2.err:Int)=0):=by omega
         refine cj hi ?_
         refine ct hi ?_
         exact hR2 c.2 _ ⟨hok5,fun _=>hrep.symm,fun e=>absurd e hce⟩ (.le aF)
      ·rw[if_pos hke]at hrep
       have:=stop _ hrep.symm hke
       simp only[aC]at this
       simp(disch:=omega)only[go_sem,simprocAttr]at this
       have hi:¬((k.2.err:Int)=0):=by omega
       refine gK hi @Cod.nG ?_
       refine ct hi ?_
       refine dw hN ?_
       refine bm hi @Cod.nG ?_
       exact this
  ·rw[if_pos hae]at hst
   rw[hst]at hpk
   simp only[if_true]at hpk
   have hi:¬((a.2.err:Int)=0):=by omega
   refine cj hi ?_
   refine ct hi ?_
   have:=fin a.2 hpk
   simp only[aC]at this
   simp(disch:=omega)only[go_sem,simprocAttr]at this
   exact this
 ·have hi:¬((S.err:Int)=0):=by omega
  rw[Aw he]at hpk
  refine cj hi ?_
  have:=fin S hpk
  simp only[aC]at this
  simp(disch:=omega)only[go_sem,simprocAttr]at this
  exact this
abbrev Q5 (R:HP→AV→List AV→Prop):KQ:=KQ.post [.tmp 2,.tmp 3] 1 R
def l6 (t:Bs) (most:Nat) (F:(List Nat×List Nat)×SS) (h':HP) (v:AV) (ar:List AV):Prop:=
 h'=aC t most F.2∧v=(if F.2.err=0 then .ak [.ro 1 (an F.1.1),.ro 1 (an F.1.2)]else .ak [.al,.al])∧ar=[.ab fu 0]
theorem nk {t:Bs} {most:Nat} {F:(List Nat×List Nat)×SS} {R:HP→AV→List AV→Prop} (hR:dx (l6 t most F) R) {S:SS} (hF:F=(([],[]),S)) (he:S.err≠0) {h:HP} (hh:dZ h (aC t most S)) :
    R h (.ak [.al,.al]) [.ab 79038 0]:=by
 subst hF
 exact hR.le hh ⟨rfl,(if_neg he).symm,rfl⟩
theorem qO {l:List Nat} (h:∀n∈l,n≤15) (k:Nat):∀n∈l.take k,n≤15:=fun n hn=>h n (List.mem_of_mem_take hn)
theorem pc {l:List Nat} (h:∀n∈l,n≤15) (k:Nat):∀n∈l.drop k,n≤15:=fun n hn=>h n (List.mem_of_mem_drop hn)
set_option maxHeartbeats 2000000 in
theorem Mh (t:Bs) (most:Nat) (F:(List Nat×List Nat)×SS) (S:SS) (l:List Nat) (nl nd:Nat) {E:Env} {R:HP→AV→List AV→Prop} (hN:E.N≤1000000) (hR:dx (l6 t most F) R) (hl:∀n∈l,n≤15)
    (hbad:S.err≠0→F=(([],[]),S)) (hgood:S.err=0→l.length=nl+nd∧257≤nl∧nl≤286∧nd≤30∧F=if l.getD 256 0=0∨bo (l.take nl)=false∨bo (l.drop nl)=false then(([],[]),{S with err:=3})else((l.take nl,l.drop nl),S)) :
    vcW Tryz.prog E Cod.tR (Q5 R) ⟨[(0,.ab 79038 0),(4,.int .i64 nl),(11,.sl 75094 0 l.length),(2000000,.ab 79038 0)],aC t most S++[(75094,.arr 1 (an l))]⟩:=by
 have hnl:=bU l
 by_cases he:S.err=0
 ·obtain⟨h1,h2,h3,h4,hF⟩:=hgood he
  have ht1:(l.take nl).length=nl:=by rw[List.length_take];omega
  have hd1:(l.drop nl).length=nd:=by rw[List.length_drop];omega
  have hck1:=tP (l.take nl) (qO hl nl) (by omega)
  have hck2:=tP (l.drop nl) (pc hl nl) (by omega)
  have es:(nl:Int)-0=nl:=by omega
  have en:l.length-nl=nd:=by omega
  have etd:(l.drop nl).take nd=l.drop nl:=List.take_of_length_le (by omega)
  have etk:(l.drop 0).take nl=l.take nl:=rfl
  have bad:F=(([],[]),{S with err:=3})→∀h,dZ h (aC t most {S with err:=3})→R h (.ak [.al,.al]) [.ab 79038 0]:=fun hF h hh=>nk hR hF (by simp) hh
  by_cases h256:l.getD 256 0=0
  ·rw[if_pos (.inl h256)]at hF
   refine uQ he @dQ hnl h256 ?_
   refine gG ?_
   refine aI (aC t most S) (fp t most S 3) (bX he) nofun ?_
   rintro h' v ar ⟨rfl,rfl,rfl⟩
   refine⟨aF,rfl,?_⟩
   rw[fh he]
   refine bB ?_
   exact bad hF _ aF
  ·have hi256:¬((l.getD 256 0:Nat):Int)=0:=by omega
   generalize hx:l.getD 256 0=x256 at *
   cases hc1:bo (l.take nl)with
   | false=>
    rw[if_pos (.inr (.inl hc1))]at hF
    rw[hc1]at hck1
    refine qV he @dQ hnl hx hi256 ?_
    refine gG ?_
    refine fL (kL (cW @eV) hck1 vV rfl ?_)
    refine wW ?_
    refine gG ?_
    refine aI (aC t most S) (fp t most S 3) (bX he) nofun ?_
    rintro h' v ar ⟨rfl,rfl,rfl⟩
    refine⟨aF,rfl,?_⟩
    rw[fh he]
    refine bB ?_
    exact bad hF _ aF
   | true=>
    rw[hc1]at hck1
    cases hc2:bo (l.drop nl)with
    | false=>
     rw[if_pos (.inr (.inr hc2))]at hF
     rw[hc2]at hck2
     refine qV he @dQ hnl hx hi256 ?_
     refine gG ?_
     refine fL (kL (cW @eV) hck1 vV rfl ?_)
     refine wW ?_
     refine gG ?_
     refine fL (kL (uL @eV en etd) hck2 vV rfl ?_)
     refine wW ?_
     refine gG ?_
     refine aI (aC t most S) (fp t most S 3) (bX he) nofun ?_
     rintro h' v ar ⟨rfl,rfl,rfl⟩
     refine⟨aF,rfl,?_⟩
     rw[fh he]
     refine bB ?_
     exact bad hF _ aF
    | true=>
     rw[if_neg (by simp[hc1,hc2];omega)]at hF
     rw[hc2]at hck2
     subst hF
     refine qV he @dQ hnl hx hi256 ?_
     refine gG ?_
     refine fL (kL (cW @eV) hck1 vV rfl ?_)
     refine wW ?_
     refine gG ?_
     refine fL (kL (uL @eV en etd) hck2 vV rfl ?_)
     refine wW ?_
     refine gG ?_
     exact hR.wk (h':=aC t most S) (r':=.ak [.ro 1 (an (l.take nl)),.ro 1 (an (l.drop nl))]) (ar':=[.ab fu 0]) rfl (.bF 75094 (.le (az4 he @eV en etd))) ⟨rfl,(if_pos he).symm,rfl⟩
 ·have hi:¬((S.err:Int)=0):=by omega
  refine cj hi ?_
  exact nk hR (hbad he) he aF
theorem mi (t:Bs) (fl:List Nat) (N k:Nat) (l:List Nat) (S:SS):dj t fl N (k+1) l S=if N≤l.length∨S.err≠0 then(l,S)else
    if(cC N l (bO t l (aY t fl S).1 (aY t fl S).2)).err≠0 then(l,cC N l (bO t l (aY t fl S).1 (aY t fl S).2))
    else dj t fl N k (l++List.replicate (bO t l (aY t fl S).1 (aY t fl S).2).1 (bO t l (aY t fl S).1 (aY t fl S).2).2.1) (cC N l (bO t l (aY t fl S).1 (aY t fl S).2)):=rfl
theorem zZ (l:List Nat) (k x:Nat):an (l++List.replicate k x)++[.int .i64 (x:Int)]=an (l++List.replicate (k+1) x):=by
 rw[eF,List.append_assoc,←List.replicate_succ']
theorem abj {t:Bs} {most N:Nat} {l:List Nat} {b:Nat×Nat×SS}:Mv t most b.2.2 (cC N l b):=by
 unfold cC
 split
 ·exact jo
 ·exact .refl
abbrev vb (R1 RX:KS) (R:HP→AV→List AV→Prop):KQ:=KQ.de 3 (KQ.fq R1 (KQ.de 2 (KQ.fq RX (Q5 R))))
set_option maxHeartbeats 1000000 in
theorem Mp (t:Bs) (most:Nat) (l fl:List Nat) (nl nd:Nat) (s:Nat) (S:SS) {E:Env} {R1 R2 RX:KS} {R:HP→AV→List AV→Prop} (hN:E.N≤1000000) (h0:bP t most S) (hs:s<19) (hl:∀n∈l,n≤15) (hll:l.length≤400)
    (hnil:s=16→l=[]→∀h,dZ h (aC t most (cr 3 S))→R h (.ak [.al,.al]) [.ab 79038 0])
    (hR2:∀st',Wk st' ⟨[(0,.ab 79038 0),(4,.int .i64 nl),(5,.int .i64 nd),(10,.ro 1 (bH (aQ fl))),(11,.sl 75094 0 l.length),(13,.int .i64 ((bO t l s S).1:Nat)),(14,.int .i64 ((bO t l s S).2.1:Nat)),(2000000,.ab 79038 0)],aC t most (bO t l s S).2.2++[(75094,.arr 1 (an l))]⟩→R2.ap st') :
    vcW Tryz.prog E Cod.Bz (KQ.fq R2 (vb R1 RX R)) ⟨[(0,.ab 79038 0),(4,.int .i64 nl),(5,.int .i64 nd),(10,.ro 1 (bH (aQ fl))),(11,.sl 75094 0 l.length),(12,.int .i64 s),(13,.int .i64 1),(14,.int .i64 s),(2000000,.ab 79038 0)],aC t most S++[(75094,.arr 1 (an l))]⟩:=by
 have hnl:=bU l
 unfold bO at hR2
 by_cases h16:s=16
 ·rw[if_pos h16]at hR2
  by_cases hle:l=[]
  ·have hn:=hnil h16 hle
   subst hle
   subst h16
   refine cj @gZ ?_
   refine gG ?_
   refine aI (aC t most S) (fp t most S 3) aF nofun ?_
   rintro h' v ar ⟨rfl,rfl,rfl⟩
   generalize cr 3 S=S1 at *
   refine⟨aF,rfl,?_⟩
   refine bB ?_
   exact hn _ aF
  ·rw[if_neg hle]at hR2
   have hl0:0<l.length:=by cases l with | nil=>exact absurd rfl hle | cons=>simp
   have el:(l.length:Int)-1=((l.length-1:Nat):Int):=by omega
   have hz:¬((l.length:Int)=0):=by omega
   have hx:nth (an l) (l.length-1)=.int .i64 (l.getD (l.length-1) 0:Nat):=dQ (by omega)
   subst h16
   refine uQ hz el hnl hx ?_
   have hnlt:=fD (t:=t) (n:=2) (S:=S)
   refine aI (aC t most S) (gq t most S h0 2 (by decide)) aF nofun ?_
   rintro h' v ar ⟨rfl,rfl,rfl⟩
   generalize aJ t 2 S=a at *
   refine⟨aF,rfl,?_⟩
   refine bB ?_
   exact hR2 _ (.le aF)
 ·rw[if_neg h16]at hR2
  by_cases h17:s=17
  ·rw[if_pos h17]at hR2
   subst h17
   refine bB ?_
   refine gG ?_
   have hnlt:=fD (t:=t) (n:=3) (S:=S)
   refine aI (aC t most S) (gq t most S h0 3 (by decide)) aF nofun ?_
   rintro h' v ar ⟨rfl,rfl,rfl⟩
   generalize aJ t 3 S=a at *
   refine⟨aF,rfl,?_⟩
   refine bB ?_
   exact hR2 _ (.le aF)
  ·rw[if_neg h17]at hR2
   by_cases h18:s=18
   ·rw[if_pos h18]at hR2
    subst h18
    refine bB ?_
    refine gG ?_
    have hnlt:=fD (t:=t) (n:=7) (S:=S)
    refine aI (aC t most S) (gq t most S h0 7 (by decide)) aF nofun ?_
    rintro h' v ar ⟨rfl,rfl,rfl⟩
    generalize aJ t 7 S=a at *
    refine⟨aF,rfl,?_⟩
    refine bB ?_
    exact hR2 _ (.le aF)
   ·rw[if_neg h18]at hR2
    have e16:¬((s:Int)=16):=by omega
    have e17:¬((s:Int)=17):=by omega
    have e18:¬((s:Int)=18):=by omega
    refine iV e16 e17 e18 ?_
    exact hR2 _ (.le aF)
set_option maxHeartbeats 1000000 in
theorem Mi (t:Bs) (most N:Nat) (l fl:List Nat) (nl nd:Nat) (b:Nat×Nat×SS) {E:Env} {R1 RX:KS} {R:HP→AV→List AV→Prop} (hN:E.N≤1000000) (hNN:nl+nd=N) (hN1:N≤400) (hll:l.length≤N) (hb1:b.1≤200) (hb2:b.2.1≤15)
    (hR1:∀st',Wk st' ⟨[(0,.ab 79038 0),(4,.int .i64 nl),(5,.int .i64 nd),(10,.ro 1 (bH (aQ fl))),(11,.sl 75094 0 (if(cC N l b).err=0 then l++List.replicate b.1 b.2.1 else l).length),(2000000,.ab 79038 0)],aC t most (cC N l b)++[(75094,.arr 1 (an (if(cC N l b).err=0 then l++List.replicate b.1 b.2.1 else l)))]⟩→R1.ap st') :
    vcW Tryz.prog E Cod.Bw (vb R1 RX R) ⟨[(0,.ab 79038 0),(4,.int .i64 nl),(5,.int .i64 nd),(10,.ro 1 (bH (aQ fl))),(11,.sl 75094 0 l.length),(13,.int .i64 b.1),(14,.int .i64 b.2.1),(2000000,.ab 79038 0)],aC t most b.2.2++[(75094,.arr 1 (an l))]⟩:=by
 obtain⟨k,x,S⟩:=b
 simp only at hb1 hb2 hR1 ⊢
 have esum:(nl:Int)+(nd:Int)=(N:Int):=by omega
 refine cH hN (fun _:Unit=>⟨[(0,.ab 79038 0),(4,.int .i64 nl),(5,.int .i64 nd),(10,.ro 1 (bH (aQ fl))),(11,.sl 75094 0 l.length),(13,.int .i64 k),(14,.int .i64 x),(2000000,.ab 79038 0)],aC t most (cC N l (k,x,S))++[(75094,.arr 1 (an l))]⟩) (fun _=>True) (fun R2 hR2=>?_) (fun _ _=>?_)
 ·unfold cC at hR2
  simp only at hR2
  by_cases he:S.err=0
  ·by_cases hov:N<l.length+k
   ·have hov':(N:Int)<(l.length:Int)+(k:Int):=by omega
    rw[if_pos hov]at hR2
    refine iV he esum hov' ?_
    refine aI (aC t most S) (fp t most S 3) (bX he) nofun ?_
    rintro h' v ar ⟨rfl,rfl,rfl⟩
    generalize cr 3 S=S1 at *
    refine⟨aF,rfl,?_⟩
    refine bB ?_
    exact hR2 () _ trivial (.le aF)
   ·have hov':¬((N:Int)<(l.length:Int)+(k:Int)):=by omega
    rw[if_neg hov]at hR2
    refine iV he esum hov' ?_
    exact hR2 () _ trivial (.le (bX he))
  ·have hi:¬((S.err:Int)=0):=by omega
   have e:cr 3 S=S:=if_neg he
   rw[e,ite_self]at hR2
   refine gK hi esum ?_
   refine eL hi esum ?_
   exact hR2 () _ trivial (.le aF)
 ·generalize cC N l (k,x,S)=S1 at *
  refine bB ?_
  refine aK hN (fun j:Nat=>⟨[(0,.ab 79038 0),(4,.int .i64 nl),(5,.int .i64 nd),(10,.ro 1 (bH (aQ fl))),(11,.sl 75094 0 (l.length+j:Nat)),(13,.int .i64 k),(14,.int .i64 x),(15,.int .i64 j),(2000000,.ab 79038 0)],aC t most S1++[(75094,.arr 1 (an (l++List.replicate j x)))]⟩) (fun j=>j≤k∧(S1.err≠0→j=0)) (fun j=>k-j) 0
   (.le (by simp(disch:=omega)only[go_sem,simprocAttr,aC];simp)) ⟨by omega,fun _=>rfl⟩ ?_
  rintro j R2 ⟨hj,hj0⟩ hR2
  have hnl:=bU (l++List.replicate j x)
  have hlr:(l++List.replicate j x).length=l.length+j:=by simp
  have hnr:=zZ l j x
  have hsb:aM (an (l++List.replicate j x)) 0 (l.length+j)=an (l++List.replicate j x):=by rw[←hlr];exact fN
  by_cases he:S1.err=0
  ·by_cases hjk:j<k
   ·refine iV he hsb @eG ?_
    exact hR2 (j+1) _ (by omega) ⟨by omega,fun h=>absurd he h⟩ (.le (DF he hnr))
   ·obtain rfl:j=k:=by omega
    rw[if_pos he,hlr]at hR1
    refine cj he ?_
    refine ct he ?_
    exact hR1 _ (.le (bX he))
  ·obtain rfl:=hj0 he
   rw[if_neg he]at hR1
   have hi:¬((S1.err:Int)=0):=by omega
   have er:l++List.replicate 0 x=l:=by simp
   rw[er]
   by_cases hjk:0<k
   ·refine cj hi ?_
    refine ct hi ?_
    exact hR1 _ (.le aF)
   ·obtain rfl:k=0:=by omega
    refine cj hi ?_
    refine ct hi ?_
    exact hR1 _ (.le aF)
theorem Dp {t:Bs} {l:List Nat} {S:SS} {s:Nat} (hl:∀n∈l,n≤15) (hs:s<19):(bO t l s S).1≤200∧(bO t l s S).2.1≤15:=by
 have h2:=fD (t:=t) (n:=2) (S:=S)
 have h3:=fD (t:=t) (n:=3) (S:=S)
 have h7:=fD (t:=t) (n:=7) (S:=S)
 unfold bO
 split
 ·split
  ·exact⟨by simp,by simp⟩
  ·rename_i hle
   refine⟨by simp only;omega,?_⟩
   have:l.length-1<l.length:=by cases l with | nil=>exact absurd rfl hle | cons=>simp
   simp only[List.getD_eq_getElem?_getD,List.getElem?_eq_getElem this,Option.getD_some]
   exact hl _ (List.getElem_mem this)
 ·split
  ·exact⟨by simp only;omega,by simp⟩
  ·split
   ·exact⟨by simp only;omega,by simp⟩
   ·exact⟨by simp,by simp only;omega⟩
theorem ay9 {t:Bs} {l:List Nat} {S:SS} {s:Nat} (h:(bO t l s S).2.2.err=0) (h0:S.err=0):1≤(bO t l s S).1:=by
 unfold bO at h ⊢
 split
 ·rename_i hs
  rw[if_pos hs]at h
  split
  ·rename_i hle
   rw[if_pos hle]at h
   exact absurd h (iC (by decide))
  ·simp only;omega
 ·split
  ·simp only;omega
  ·split
   ·simp only;omega
   ·simp
theorem Au {N:Nat} {l:List Nat} {b:Nat×Nat×SS} (h:(cC N l b).err=0):b.2.2.err=0∧cC N l b=b.2.2∧l.length+b.1≤N:=by
 unfold cC at h ⊢
 by_cases hlt:N<l.length+b.1
 ·rw[if_pos hlt]at h
  exact absurd h (iC (by decide))
 ·rw[if_neg hlt]at h ⊢
  exact⟨h,rfl,by omega⟩
set_option maxHeartbeats 4000000 in
theorem Mg (t:Bs) (most:Nat) (F:(List Nat×List Nat)×SS) (S0:SS) (fl:List Nat) (nl nd:Nat) {E:Env} {R:HP→AV→List AV→Prop} (hN:E.N≤1000000) (hR:dx (l6 t most F) R) (h0:bP t most S0) (he0:S0.err=0)
    (hfl:∀n∈fl,n≤15) (hfn:fl.length=19) (h1:257≤nl) (h2:nl≤286) (h3:1≤nd) (h4:nd≤30)
    (hbad:(dj t fl (nl+nd) (nl+nd) [] S0).2.err≠0→F=(([],[]),(dj t fl (nl+nd) (nl+nd) [] S0).2))
    (hgood:(dj t fl (nl+nd) (nl+nd) [] S0).2.err=0→F=if(dj t fl (nl+nd) (nl+nd) [] S0).1.getD 256 0=0∨bo ((dj t fl (nl+nd) (nl+nd) [] S0).1.take nl)=false∨bo ((dj t fl (nl+nd) (nl+nd) [] S0).1.drop nl)=false
     then(([],[]),{(dj t fl (nl+nd) (nl+nd) [] S0).2 with err:=3})else(((dj t fl (nl+nd) (nl+nd) [] S0).1.take nl,(dj t fl (nl+nd) (nl+nd) [] S0).1.drop nl),(dj t fl (nl+nd) (nl+nd) [] S0).2)) :
    vcW Tryz.prog E Cod.Bv (Q5 R) ⟨[(0,.ab 79038 0),(4,.int .i64 nl),(5,.int .i64 nd),(10,.ro 1 (bH (aQ fl))),(11,.sl 75094 0 0),(2000000,.ab 79038 0)],(75094,.arr 1 [])::aC t most S0⟩:=by
 generalize hG:dj t fl (nl+nd) (nl+nd) [] S0=G at hbad hgood
 have hN0:nl+nd<400:=by omega
 have hN1:1≤nl+nd:=by omega
 generalize hNN:nl+nd=N at *
 have hcc:=fun(h1':∀n∈G.1,n≤15) (h2':G.2.err=0→G.1.length=N)=>Mh t most F G.2 G.1 nl nd (E:=E) (R:=R) hN hR h1' hbad (fun h=>⟨(h2' h).trans hNN.symm,h1,h2,h4,hgood h⟩)
 refine cH (y:=Cod.tR) hN (fun _:Unit=>⟨[(0,.ab 79038 0),(4,.int .i64 nl),(11,.sl 75094 0 G.1.length),(2000000,.ab 79038 0)],aC t most G.2++[(75094,.arr 1 (an G.1))]⟩) (fun _=>(∀n∈G.1,n≤15)∧(G.2.err=0→G.1.length=N)) (fun RX hRX=>?_)
  (fun _ hx=>hcc hx.1 hx.2)
 have hnil0:∀S',G=([],S')→S'.err≠0→∀h,dZ h (aC t most S')→R h (.ak [.al,.al]) [.ab 79038 0]:=by
  rintro S' rfl he' h hh
  exact nk hR (hbad he') he' hh
 clear hcc hbad hgood hR
 refine wW ?_
 refine aK hN (fun q:List Nat×SS=>⟨[(0,.ab 79038 0),(4,.int .i64 nl),(5,.int .i64 nd),(10,.ro 1 (bH (aQ fl))),(11,.sl 75094 0 q.1.length),(2000000,.ab 79038 0)],aC t most q.2++[(75094,.arr 1 (an q.1))]⟩)
  (fun q=>bP t most q.2∧(∀n∈q.1,n≤15)∧q.1.length≤N∧(q.2.err≠0→G=q)∧(q.2.err=0→∃k,N-q.1.length≤k∧dj t fl N k q.1 q.2=G)) (fun q=>if q.2.err=0 then N+1-q.1.length else 0) ([],S0)
  (.le (bX @gZ)) ⟨h0,by simp,by simp,fun h=>absurd he0 h,fun _=>⟨N,by simp,hG⟩⟩ ?_
 rintro⟨l,S⟩ R1 ⟨hok,hl,hll,hb,hg⟩ hR1
 simp only at hok hl hll hb hg
 have hnl:=bU l
 have esum:(nl:Int)+(nd:Int)=(N:Int):=by omega
 by_cases he:S.err=0
 ·by_cases hlt:l.length<N
  ·obtain⟨k,hk,hk2⟩:=hg he
   obtain⟨k,rfl⟩:∃k',k=k'+1:=⟨k-1,by omega⟩
   rw[mi,if_neg (by omega)]at hk2
   have hsu:=qM (t:=t) (l:=fl) he
   refine gK he esum ?_
   refine eL he esum ?_
   refine aI (aC t most S) (tX t most S hok fl hfl (by omega)) (bX he) nofun ?_
   rintro h' v ar ⟨rfl,rfl,rfl⟩
   have hok2:bP t most (aY t fl S).2:=hok.mv jJ
   have hs0:(aY t fl S).2.err≠0→(aY t fl S).1=0:=by
    intro h
    unfold aY at h ⊢
    split at h
    ·rename_i hh;rw[if_pos hh]
    ·rename_i hh
     rw[if_neg hh]
     split at h
     ·rename_i hh;rw[if_pos hh]
     ·exact absurd he h
   generalize aY t fl S=a at *
   have hs19:a.1<19:=by
    by_cases h:a.2.err=0
    ·have:=(hsu h).2;omega
    ·rw[hs0 h];omega
   refine⟨aF,rfl,?_⟩
   refine bB ?_
   have hmt:Mv t most a.2 (bO t l a.1 a.2).2.2:=zW
   have hok3:=hok2.mv hmt
   have hmo:Mv t most (bO t l a.1 a.2).2.2 (cC N l (bO t l a.1 a.2)):=abj
   have hok4:=hok3.mv hmo
   refine cH hN (fun _:Unit=>⟨[(0,.ab 79038 0),(4,.int .i64 nl),(5,.int .i64 nd),(10,.ro 1 (bH (aQ fl))),(11,.sl 75094 0 l.length),(13,.int .i64 ((bO t l a.1 a.2).1:Nat)),(14,.int .i64 ((bO t l a.1 a.2).2.1:Nat)),(2000000,.ab 79038 0)],aC t most (bO t l a.1 a.2).2.2++[(75094,.arr 1 (an l))]⟩)
    (fun _=>True) (fun R2 hR2=>?_) (fun _ _=>?_)
   ·have hnilG:a.1=16→l=[]→G=([],cr 3 a.2):=by
     intro h16 hle
     subst hle
     have ht:bO t [] a.1 a.2=(0,0,cr 3 a.2):=by unfold bO;rw[if_pos h16,if_pos rfl]
     have ho:cC N [] (0,0,cr 3 a.2)=cr 3 a.2:=if_neg (by simp)
     rw[ht,ho,if_pos (iC (by decide))]at hk2
     exact hk2.symm
    have hsw:=Mp t most l fl nl nd a.1 a.2 (E:=E) (R1:=R1) (R2:=R2) (RX:=RX) (R:=R) hN hok2 hs19 hl (by omega) (fun h16 hle=>hnil0 _ (hnilG h16 hle) (iC (by decide))) (fun st' hw=>hR2 () _ trivial hw)
    simp only[aC]at hsw
    exact hsw
   ·have hb12:=Dp (t:=t) (l:=l) (S:=a.2) (s:=a.1) hl hs19
    refine Mi t most N l fl nl nd (bO t l a.1 a.2) hN hNN (by omega) hll hb12.1 hb12.2 (fun st' hw=>?_)
    generalize hbb:bO t l a.1 a.2=b at *
    generalize hcc:cC N l b=c at *
    by_cases hce:c.err=0
    ·rw[if_pos hce]at hw
     rw[if_neg (by simpa using hce)]at hk2
     obtain⟨hbe,hcb,hov⟩:=Au (N:=N) (l:=l) (b:=b) (by rw[hcc];exact hce)
     have hae:a.2.err=0:=by
      by_cases h:a.2.err=0
      ·exact h
      ·have h1:=hs0 h
       have ht:bO t l a.1 a.2=(1,a.1,a.2):=by unfold bO;rw[if_neg (by omega),if_neg (by omega),if_neg (by omega)]
       rw[←hbb,ht]at hbe
       exact absurd hbe h
     have hb1:=ay9 (t:=t) (l:=l) (S:=a.2) (s:=a.1) (by rw[hbb];exact hbe) hae
     rw[hbb]at hb1
     have hlr:(l++List.replicate b.1 b.2.1).length=l.length+b.1:=by simp
     refine hR1 (l++List.replicate b.1 b.2.1,c) _ ?_ ⟨hok4,?_,?_,?_,?_⟩ hw
     ·simp only[if_pos hce,if_pos he,hlr]
      omega
     ·intro n hn
      rcases List.mem_append.1 hn with hn | hn
      ·exact hl n hn
      ·rw[(List.mem_replicate.1 hn).2]
       exact hb12.2
     ·simp only[hlr]
      exact hov
     ·intro h
      exact absurd hce h
     ·intro _
      refine⟨k,?_,hk2⟩
      simp only[hlr]
      omega
    ·rw[if_neg hce]at hw
     rw[if_pos hce]at hk2
     refine hR1 (l,c) _ ?_ ⟨hok4,hl,hll,fun _=>hk2.symm,fun h=>absurd h hce⟩ hw
     simp only[if_neg hce,if_pos he]
     omega
  ·obtain⟨k,hk,hk2⟩:=hg he
   have hGe:G=(l,S):=by
    rw[←hk2]
    cases k with
    | zero=>rfl
    | succ k=>rw[mi,if_pos (.inl (by omega))]
   subst hGe
   have hlt':¬((l.length:Int)<(N:Int)):=by omega
   refine iV he esum hlt' ?_
   refine eL he esum ?_
   exact hRX () _ ⟨hl,fun _=>by simp only;omega⟩ (.le (bX he))
 ·have hGe:=hb he
  subst hGe
  have hi:¬((S.err:Int)=0):=by omega
  by_cases hlt:l.length<N
  ·refine gK hi esum ?_
   refine eL hi esum ?_
   exact hRX () _ ⟨hl,fun h=>absurd h he⟩ (.le aF)
  ·have hlt':¬((l.length:Int)<(N:Int)):=by omega
   refine iV hi esum hlt' ?_
   refine eL hi esum ?_
   exact hRX () _ ⟨hl,fun h=>absurd h he⟩ (.le aF)
def kZ (t:Bs) (nl nd:Nat) (b:List Nat×SS):(List Nat×List Nat)×SS:=
 if b.2.err≠0 then(([],[]),b.2)else
 if b.1.getD 256 0=0∨bo (b.1.take nl)=false∨bo (b.1.drop nl)=false then(([],[]),{b.2 with err:=3})else((b.1.take nl,b.1.drop nl),b.2)
def fA (t:Bs) (nl nd:Nat) (a:List Nat×SS):(List Nat×List Nat)×SS:=
 if a.2.err≠0 then(([],[]),a.2)else if bo a.1=false then(([],[]),{a.2 with err:=3})else kZ t nl nd (dj t a.1 (nl+nd) (nl+nd) [] a.2)
theorem pf (t:Bs) (S:SS):cy t S=if 8*t.length<S.p+14 then(([],[]),{S with err:=6})else if 286<numAt t S.p 5+257∨30<numAt t (S.p+5) 5+1 then(([],[]),{S with p:=S.p+14,err:=3})else
    fA t (numAt t S.p 5+257) (numAt t (S.p+5) 5+1) (firstS t (numAt t (S.p+10) 4+4) (numAt t (S.p+10) 4+4) (List.replicate 19 0) {S with p:=S.p+14}):=rfl
def lq:aP:=.arr 1 (an eX)
set_option maxHeartbeats 1000000 in
theorem Mj (t:Bs) (most:Nat) (S:SS) (fl:List Nat) (nl nd nc:Nat) (x9:AV) {E:Env} {R:HP→AV→List AV→Prop} (hN:E.N≤1000000) (hR:dx (l6 t most (fA t nl nd (fl,S))) R) (h0:bP t most S)
    (hfl:∀n∈fl,n≤15) (hfn:fl.length=19) (hb:S.err=0→257≤nl∧nl≤286∧1≤nd∧nd≤30) :
    vcW Tryz.prog E Cod.tS (Q5 R) ⟨[(0,.ab 79038 0),(4,.int .i64 nl),(5,.int .i64 nd),(6,.int .i64 nc),(7,.sl 75053 0 19),(8,.sl 75054 0 19),(9,x9),(64,.bool false),(2000000,.ab 79038 0)],aC t most S++[(75053,.arr 1 (an fl)),(75054,lq)]⟩:=by
 have hnl:=bU fl
 have hck:=tP fl hfl (by omega)
 have hsub:aM (an fl) 0 19=an fl:=by rw[←hfn];exact fN
 refine cH (y:=Cod.BA) hN (fun _:Unit=>⟨[(0,.ab 79038 0),(4,.int .i64 nl),(5,.int .i64 nd),(7,.ro 1 (an fl)),(2000000,.ab 79038 0)],aC t most (if S.err=0∧bo fl=false then {S with err:=3} else S)⟩) (fun _=>True) (fun R2 hR2=>?_) (fun _ _=>?_)
 ·clear hR
  by_cases he:S.err=0
  ·cases hc:bo fl with
   | false=>
    rw[hc]at hck
    rw[if_pos ⟨he,hc⟩]at hR2
    refine cj he ?_
    refine gG ?_
    refine fL (kL (cW hsub) hck vV rfl ?_)
    refine wW ?_
    refine gG ?_
    refine aI (aC t most S) (fp t most S 3) (bX he) nofun ?_
    rintro h' v ar ⟨rfl,rfl,rfl⟩
    refine⟨aF,rfl,?_⟩
    rw[fh he]
    refine bB ?_
    exact hR2 () _ trivial (.bF 75053 (.le (bX hsub)))
   | true=>
    rw[hc]at hck
    rw[if_neg (by simp[hc])]at hR2
    refine cj he ?_
    refine gG ?_
    refine fL (kL (cW hsub) hck vV rfl ?_)
    refine wW ?_
    refine gG ?_
    exact hR2 () _ trivial (.bF 75053 (.le (DF he hsub)))
  ·have hi:¬((S.err:Int)=0):=by omega
   rw[if_neg (fun h=>he h.1)]at hR2
   refine cj hi ?_
   refine ct hi ?_
   exact hR2 () _ trivial (.bF 75053 (.le (bX hsub)))
 ·by_cases he:S.err=0
  ·by_cases hc:bo fl=false
   ·rw[if_pos ⟨he,hc⟩]
    have hF:fA t nl nd (fl,S)=(([],[]),{S with err:=3}):=by unfold fA;rw[if_neg (by simpa using he),if_pos hc]
    refine bB ?_
    exact nk hR hF (by simp) aF
   ·rw[if_neg (fun h=>hc h.2)]
    obtain⟨h1,h2,h3,h4⟩:=hb he
    have hcod:=tQ fl hfl (by omega)
    have hF:fA t nl nd (fl,S)=kZ t nl nd (dj t fl (nl+nd) (nl+nd) [] S):=by unfold fA;rw[if_neg (by simpa using he),if_neg hc]
    rw[hF]at hR
    have hbb:=Mg t most _ S fl nl nd (E:=E) (R:=R) hN hR h0 he hfl hfn h1 h2 h3 h4 (fun h=>if_pos h) (fun h=>if_neg (by simpa using h))
    clear hR
    refine cj he ?_
    refine aG hcod rfl rfl ?_
    refine wW ?_
    simp only[aC,he]at hbb
    exact hbb
  ·rw[if_neg (fun h=>he h.1)]
   have hi:¬((S.err:Int)=0):=by omega
   have hF:fA t nl nd (fl,S)=(([],[]),S):=if_pos he
   refine cj hi ?_
   exact nk hR hF he aF
theorem np (t:Bs) (nc k:Nat) (l:List Nat) (S:SS):firstS t nc (k+1) l S=if S.err≠0 then(l,S)else firstS t nc k (l.set (eX.getD (nc-(k+1)) 0) (aJ t 3 S).1) (aJ t 3 S).2:=rfl
theorem pr (t:Bs) (nc k:Nat) (l:List Nat) (S:SS) (h:S.err≠0):firstS t nc k l S=(l,S):=by
 cases k with
 | zero=>rfl
 | succ k=>rw[np,if_pos h]
theorem AY:∀j,j<19→eX.getD j 0<19:=by decide
theorem tw {l:List Nat} {i x:Nat}:(an l).set i (.int .i64 (x:Int))=an (l.set i x):=by simp[an,List.map_set]
set_option maxHeartbeats 1000000 in
theorem Mk (t:Bs) (most:Nat) (S0:SS) (nl nd nc:Nat) {E:Env} {R:HP→AV→List AV→Prop} (hN:E.N≤1000000) (h0:bP t most S0) (hc:nc≤19)
    (hR:dx (l6 t most (fA t nl nd (firstS t nc nc (List.replicate 19 0) S0))) R) (hb:S0.err=0→257≤nl∧nl≤286∧1≤nd∧nd≤30) :
    vcW Tryz.prog E Cod.Bx (Q5 R) ⟨[(0,.ab 79038 0),(4,.int .i64 nl),(5,.int .i64 nd),(6,.int .i64 nc),(2000000,.ab 79038 0)],aC t most S0⟩:=by
 generalize hG:firstS t nc nc (List.replicate 19 0) S0=G at hR
 refine bB ?_
 refine aK hN (fun q:Nat×List Nat×SS=>⟨[(0,.ab 79038 0),(4,.int .i64 nl),(5,.int .i64 nd),(6,.int .i64 nc),(7,.sl 75053 0 19),(8,.sl 75054 0 19),(9,.int .i64 q.1),(2000000,.ab 79038 0)],aC t most q.2.2++[(75053,.arr 1 (an q.2.1)),(75054,lq)]⟩)
  (fun q=>bP t most q.2.2∧(∀n∈q.2.1,n≤15)∧q.2.1.length=19∧q.1≤nc∧(q.2.2.err=0→S0.err=0)∧firstS t nc (nc-q.1) q.2.1 q.2.2=G) (fun q=>nc-q.1) (0,List.replicate 19 0,S0)
  (.le (by simp(disch:=omega)only[go_sem,simprocAttr,aC,lq];exact⟨rfl,rfl⟩)) ⟨h0,by simp,by simp,by simp,fun h=>h,hG⟩ ?_
 rintro⟨j,l,S⟩ R1 ⟨hok,hl,hll,hj,he0,hg⟩ hR1
 simp only at hok hl hll hj hg he0
 have hnl:=bU l
 have fin:(l,S)=G→vcW Tryz.prog E Cod.tS (Q5 R) ⟨[(0,.ab 79038 0),(4,.int .i64 nl),(5,.int .i64 nd),(6,.int .i64 nc),(7,.sl 75053 0 19),(8,.sl 75054 0 19),(9,.int .i64 j),(64,.bool false),(2000000,.ab 79038 0)],aC t most S++[(75053,.arr 1 (an l)),(75054,lq)]⟩:=by
  intro h
  subst h
  exact Mj t most S l nl nd nc _ hN hR hok hl hll (fun h=>hb (he0 h))
 clear hR
 by_cases he:S.err=0
 ·by_cases hlt:j<nc
  ·clear fin
   obtain⟨m,hm⟩:∃m,nc-j=m+1:=⟨nc-j-1,by omega⟩
   rw[hm,np,if_neg (by simpa using he),show nc-(m+1)=j by omega]at hg
   have hpl:=AY j (by omega)
   have hx:nth (an eX) j=.int .i64 (eX.getD j 0:Nat):=dQ (by have:eX.length=19:=rfl;omega)
   have hpn:(an eX).length=19:=rfl
   generalize eX.getD j 0=pj at *
   have hnlt:=fD (t:=t) (n:=3) (S:=S)
   have hnum:=gq t most S hok 3 (by decide)
   have hok2:bP t most (aJ t 3 S).2:=hok.mv fj
   have hxl:nth (an l) pj=.int .i64 (l.getD pj 0:Nat):=dQ (by omega)
   have hnx:∀x,x<8→∀n∈l.set pj x,n≤15:=by
    intro x hx n hn
    rcases List.mem_or_eq_of_mem_set hn with hn | hn
    ·exact hl n hn
    ·omega
   simp(disch:=omega)only[go_sem,simprocAttr,aC,he,lq,hpn]
   refine ct he ?_
   refine⟨?_,?_⟩
   ·refine bm hx hpn ?_
    refine aI (aC t most S) hnum (bX he) nofun ?_
    rintro h' v ar ⟨rfl,rfl,rfl⟩
    generalize aJ t 3 S=a at *
    refine⟨aF,rfl,?_⟩
    refine uQ hnl hll hxl @tw ?_
    exact hR1 (j+1,l.set pj a.1,a.2) _ (by simp only;omega) ⟨hok2,hnx _ hnlt,by simp[hll],hlt,fun _=>he0 he,by simp only;rw[show nc-(j+1)=m by omega];exact hg⟩ (.le (by simp(disch:=omega)only[go_sem,simprocAttr,aC,lq]))
   ·refine aI (aC t most S) hnum (bX he) nofun ?_
    rintro h' v ar ⟨rfl,rfl,rfl⟩
    generalize aJ t 3 S=a at *
    refine⟨aF,rfl,?_⟩
    refine uR hnl hll hx hxl hpn @tw ?_
    exact hR1 (j+1,l.set pj a.1,a.2) _ (by simp only;omega) ⟨hok2,hnx _ hnlt,by simp[hll],hlt,fun _=>he0 he,by simp only;rw[show nc-(j+1)=m by omega];exact hg⟩ (.le (by simp(disch:=omega)only[go_sem,simprocAttr,aC,lq]))
  ·obtain rfl:j=nc:=by omega
   rw[Nat.sub_self]at hg
   have fin:=fin hg
   simp only[aC,he]at fin
   refine cj he ?_
   refine ct he ?_
   exact fin
 ·rw[pr _ _ _ _ _ he]at hg
  have fin:=fin hg
  simp only[aC]at fin
  have hi:¬((S.err:Int)=0):=by omega
  by_cases hlt:j<nc
  ·refine cj hi ?_
   refine ct hi ?_
   exact fin
  ·refine cj hi ?_
   refine ct hi ?_
   exact fin
theorem abC (t:Bs) (S:SS) (he:S.err=0) (h:¬8*t.length<S.p+14):aJ t 5 S=(numAt t S.p 5,{S with p:=S.p+5})∧aJ t 5 {S with p:=S.p+5}=(numAt t (S.p+5) 5,{S with p:=S.p+10})∧aJ t 4 {S with p:=S.p+10}=(numAt t (S.p+10) 4,{S with p:=S.p+14}):=
 ⟨eW he (by omega),eW he (by simp only;omega),eW he (by simp only;omega)⟩
set_option maxHeartbeats 1000000 in
theorem ame (t:Bs) (most:Nat) (S:SS) (h0:bP t most S) (he:S.err=0):Eng.Spec Tryz.prog 87 (aC t most S) [.ab fu 0] (l6 t most (cy t S)):=by
 refine Cod.amf (fun E R hN hR=>?_)
 have hbl:=oM t
 obtain⟨q1,q2,q3,q4⟩:=h0
 have h0:bP t most S:=⟨q1,q2,q3,q4⟩
 rw[pf]at hR
 generalize hS1:(if 8*t.length<S.p+14 then {S with err:=6} else S)=S1
 have hok1:bP t most S1:=by rw[←hS1];split;exact h0.mv gY;exact h0
 refine bB ?_
 refine cH hN (fun _:Unit=>⟨[(0,.ab 79038 0),(2000000,.ab 79038 0)],aC t most S1⟩) (fun _=>True) (fun R2 hR2=>?_) (fun _ _=>?_)
 ·subst hS1
  by_cases hlt:8*t.length<S.p+14
  ·rw[if_pos hlt]at hR2
   have hi:((8*t.length:Nat):Int)-(S.p:Int)<14:=by omega
   refine iV he hbl hi ?_
   refine gS he hbl hi ?_
   refine aI (aC t most S) (fp t most S 6) (bX he) nofun ?_
   rintro h' v ar ⟨rfl,rfl,rfl⟩
   refine⟨aF,rfl,?_⟩
   rw[fh he]
   refine bB ?_
   exact hR2 () _ trivial (.le aF)
  ·rw[if_neg hlt]at hR2
   have hi:¬((8*t.length:Nat):Int)-(S.p:Int)<14:=by omega
   refine iV he hbl hi ?_
   refine gS he hbl hi ?_
   exact hR2 () _ trivial (.le (bX he))
 ·generalize hF:(if 8*t.length<S.p+14 then((([]:List Nat),([]:List Nat)),{S with err:=6})else if 286<numAt t S.p 5+257∨30<numAt t (S.p+5) 5+1 then(([],[]),{S with p:=S.p+14,err:=3})else
   fA t (numAt t S.p 5+257) (numAt t (S.p+5) 5+1) (firstS t (numAt t (S.p+10) 4+4) (numAt t (S.p+10) 4+4) (List.replicate 19 0) {S with p:=S.p+14}))=F at hR
  have ha:=gq t most S1 hok1 5 (by decide)
  have hoka:bP t most (aJ t 5 S1).2:=hok1.mv fj
  have hla:=fD (t:=t) (n:=5) (S:=S1)
  generalize hea:aJ t 5 S1=a at *
  have hb:=gq t most a.2 hoka 5 (by decide)
  have hokb:bP t most (aJ t 5 a.2).2:=hoka.mv fj
  have hlb:=fD (t:=t) (n:=5) (S:=a.2)
  generalize heb:aJ t 5 a.2=b at *
  have hc:=gq t most b.2 hokb 4 (by decide)
  have hokc:bP t most (aJ t 4 b.2).2:=hokb.mv fj
  have hlc:=fD (t:=t) (n:=4) (S:=b.2)
  generalize hec:aJ t 4 b.2=c at *
  refine bB ?_
  refine aI (aC t most S1) ha aF nofun ?_
  rintro h' v ar ⟨rfl,rfl,rfl⟩
  refine⟨aF,rfl,?_⟩
  refine bB ?_
  refine aI (aC t most a.2) hb aF nofun ?_
  rintro h' v ar ⟨rfl,rfl,rfl⟩
  refine⟨aF,rfl,?_⟩
  refine bB ?_
  refine aI (aC t most b.2) hc aF nofun ?_
  rintro h' v ar ⟨rfl,rfl,rfl⟩
  refine⟨aF,rfl,?_⟩
  refine bB ?_
  generalize hS2:(if 286<a.1+257∨30<b.1+1 then cr 3 c.2 else c.2)=S2
  have hok2:bP t most S2:=by rw[←hS2];split;exact hokc.mv jo;exact hokc
  refine cH hN (fun _:Unit=>⟨[(0,.ab 79038 0),(4,.int .i64 ((a.1+257:Nat):Int)),(5,.int .i64 ((b.1+1:Nat):Int)),(6,.int .i64 ((c.1+4:Nat):Int)),(2000000,.ab 79038 0)],aC t most S2⟩) (fun _=>True) (fun R2 hR2=>?_) (fun _ _=>?_)
  ·subst hS2
   by_cases hx1:286<a.1+257
   ·have hx1':=hx1
    rw[if_pos (.inl hx1)]at hR2
    refine wW ?_
    refine gG ?_
    refine aI (aC t most c.2) (fp t most c.2 3) aF nofun ?_
    rintro h' v ar ⟨rfl,rfl,rfl⟩
    generalize cr 3 c.2=S3 at *
    refine⟨aF,rfl,?_⟩
    refine bB ?_
    exact hR2 () _ trivial (.le aF)
   ·by_cases hx2:30<b.1+1
    ·have hx2':=hx2
     rw[if_pos (.inr hx2)]at hR2
     refine wW ?_
     refine gG ?_
     refine aI (aC t most c.2) (fp t most c.2 3) aF nofun ?_
     rintro h' v ar ⟨rfl,rfl,rfl⟩
     generalize cr 3 c.2=S3 at *
     refine⟨aF,rfl,?_⟩
     refine bB ?_
     exact hR2 () _ trivial (.le aF)
    ·rw[if_neg (by omega)]at hR2
     refine wW ?_
     refine gG ?_
     exact hR2 () _ trivial (.le aF)
  ·have hfin:F=fA t (a.1+257) (b.1+1) (firstS t (c.1+4) (c.1+4) (List.replicate 19 0) S2):=by
    rw[←hF]
    by_cases hlt:8*t.length<S.p+14
    ·rw[if_pos hlt]at hS1 ⊢
     have h1:S1.err≠0:=by rw[←hS1];simp
     rw[ln h1]at hea
     subst hea
     rw[ln h1]at heb
     subst heb
     rw[ln h1]at hec
     subst hec
     rw[if_neg (by simp)]at hS2
     simp only at hS2
     subst hS2
     rw[pr _ _ _ _ _ h1]
     unfold fA
     rw[if_pos h1,hS1]
    ·rw[if_neg hlt]at hS1 ⊢
     subst hS1
     obtain⟨w1,w2,w3⟩:=abC t S he hlt
     rw[w1]at hea
     subst hea
     simp only at heb
     rw[w2]at heb
     subst heb
     simp only at hec
     rw[w3]at hec
     subst hec
     simp only at hS2 ⊢
     by_cases hx:286<numAt t S.p 5+257∨30<numAt t (S.p+5) 5+1
     ·rw[if_pos hx]at hS2 ⊢
      rw[fh (by exact he)]at hS2
      subst hS2
      rw[pr _ _ _ _ _ (by simp)]
      unfold fA
      rw[if_pos (by simp)]
     ·rw[if_neg hx]at hS2 ⊢
      rw[hS2]
   rw[hfin]at hR
   refine Mk t most S2 (a.1+257) (b.1+1) (c.1+4) hN hok2 (by omega) hR (fun h=>?_)
   rw[←hS2]at h
   split at h
   ·exact absurd h (iC (by decide))
   ·omega
theorem zw {t:Bs} {fl:List Nat} {N:Nat} (hfn:fl.length=19):∀(k:Nat) (l:List Nat) (S:SS),(∀n∈l,n≤15)→l.length≤N→(∀n∈(dj t fl N k l S).1,n≤15)∧(dj t fl N k l S).1.length≤N
 | 0,l,S,h1,h2=>⟨h1,h2⟩
 | k+1,l,S,h1,h2=>by
  rw[mi]
  split
  ·exact⟨h1,h2⟩
  ·rename_i hn
   have he:S.err=0:=by omega
   have hs:(aY t fl S).1<19:=by
    by_cases h:(aY t fl S).2.err=0
    ·have:=(qM he h).2;omega
    ·unfold aY at h ⊢
     split at h
     ·rename_i hh;rw[if_pos hh];simp
     ·rename_i hh
      rw[if_neg hh]
      split at h
      ·rename_i hh;rw[if_pos hh];simp
      ·exact absurd he h
   have hb:=Dp (t:=t) (S:=(aY t fl S).2) h1 hs
   split
   ·exact⟨h1,h2⟩
   ·rename_i hc
    have ho:=Au (N:=N) (l:=l) (b:=bO t l (aY t fl S).1 (aY t fl S).2) (by omega)
    refine zw hfn k _ _ ?_ (by simp only[List.length_append,List.length_replicate];exact ho.2.2)
    intro n hn
    rcases List.mem_append.1 hn with hn | hn
    ·exact h1 n hn
    ·rw[(List.mem_replicate.1 hn).2]
     exact hb.2
theorem xL {t:Bs} {nc:Nat}:∀(k:Nat) (l:List Nat) (S:SS),(firstS t nc k l S).1.length=l.length
 | 0,l,S=>rfl
 | k+1,l,S=>by
  rw[np]
  split
  ·rfl
  ·rw[xL k];simp
theorem Ml {t:Bs} {S:SS} (h:(cy t S).2.err=0):(∀n∈(cy t S).1.1,n≤15)∧(cy t S).1.1.length≤320∧(∀n∈(cy t S).1.2,n≤15)∧(cy t S).1.2.length≤320:=by
 rw[pf]at h ⊢
 split
 ·simp
 ·rename_i h1
  rw[if_neg h1]at h
  split
  ·simp
  ·rename_i h2
   rw[if_neg h2]at h
   have hfl:=xL (t:=t) (nc:=numAt t (S.p+10) 4+4) (numAt t (S.p+10) 4+4) (List.replicate 19 0) {S with p:=S.p+14}
   generalize firstS t (numAt t (S.p+10) 4+4) (numAt t (S.p+10) 4+4) (List.replicate 19 0) {S with p:=S.p+14}=a at *
   generalize numAt t S.p 5+257=nl at *
   generalize numAt t (S.p+5) 5+1=nd at *
   rw[List.length_replicate]at hfl
   unfold fA
   split
   ·simp
   ·split
    ·simp
    ·have hg:=zw (t:=t) (fl:=a.1) (N:=nl+nd) hfl (nl+nd) [] a.2 (by simp) (by simp)
     unfold kZ
     generalize dj t a.1 (nl+nd) (nl+nd) [] a.2=b at *
     split
     ·simp
     ·split
      ·simp
      ·refine⟨qO hg.1 nl,?_,pc hg.1 nl,?_⟩
       ·simp only[List.length_take];omega
       ·simp only[List.length_drop];omega
theorem HU {t:Bs} {S:SS} (he:S.err=0) (h:¬8*t.length<S.p+3) :
    aJ t 1 S=(numAt t S.p 1,{S with p:=S.p+1})∧aJ t 2 {S with p:=S.p+1}=(numAt t (S.p+1) 2,{S with p:=S.p+3}):=
 ⟨eW he (by omega),eW he (by simp only;omega)⟩
theorem up8 (n:Nat):cS n/8=(n+7)/8:=by unfold cS;omega
def mh (t:Bs) (most k:Nat) (S:SS):SS:=
 if S.err≠0 then S else if k=0 then eJ t most S else if k=1 then da t most bl bR S
  else if k=2 then(if(cy t S).2.err≠0 then(cy t S).2 else da t most (cy t S).1.1 (cy t S).1.2 (cy t S).2)else {S with err:=3}
set_option maxHeartbeats 2000000 in
theorem YT (t:Bs) (most k:Nat) (S:SS) (fin:Nat) {E:Env} {Q:KQ} {R2:KS} (hN:E.N≤1000000) (hok:bP t most S) (hk:k<4)
    (hR2:∀st',Wk st' ⟨[(9,.ab 79038 0),(10,.int .i64 fin)],aC t most (mh t most k S)⟩→R2.ap st') :
    vcW Tryz.prog E Cod.BE (KQ.fq R2 Q) ⟨[(9,.ab 79038 0),(10,.int .i64 fin),(11,.int .i64 k)],aC t most S⟩:=by
 unfold mh at hR2
 by_cases he:S.err=0
 ·rw[if_neg (by simpa using he)]at hR2
  by_cases h0:k=0
  ·rw[if_pos h0]at hR2
   subst h0
   refine cj he ?_
   refine gG ?_
   refine aI (aC t most S) (aoS t most S hok) (bX he) nofun ?_
   rintro h' v ar ⟨rfl,rfl,rfl⟩
   generalize eJ t most S=S3 at *
   refine⟨aF,rfl,?_⟩
   refine bB ?_
   exact hR2 _ (.le aF)
  ·rw[if_neg h0]at hR2
   have i0:¬((k:Int)=0):=by omega
   by_cases h1:k=1
   ·rw[if_pos h1]at hR2
    subst h1
    have hp:=BT t most S hok bl bR jh.1 (by rw[jh.2.1];decide) jg.1 (by rw[jg.2.1];decide)
    have hfx:=amL
    generalize bl=l at *
    generalize bR=d at *
    generalize hF:da t most l d S=F at *
    refine cj he ?_
    refine gG ?_
    refine aG hfx rfl rfl ?_
    refine wW ?_
    refine aI (aC t most S) hp (bX he) nofun ?_
    rintro h' v ar ⟨rfl,rfl,rfl⟩
    refine⟨aF,rfl,?_⟩
    refine bB ?_
    exact hR2 _ (.le aF)
   ·rw[if_neg h1]at hR2
    have i1:¬((k:Int)=1):=by omega
    by_cases h2:k=2
    ·rw[if_pos h2]at hR2
     subst h2
     have hd:=ame t most S hok he
     have hg:=Ml (t:=t) (S:=S)
     have hokd:bP t most (cy t S).2:=hok.mv p8
     generalize cy t S=D at *
     refine cj he ?_
     refine gG ?_
     refine aI (aC t most S) hd (bX he) nofun ?_
     rintro h' v ar ⟨rfl,rfl,rfl⟩
     by_cases hde:D.2.err=0
     ·rw[if_neg (by simpa using hde)]at hR2
      rw[if_pos hde]
      obtain⟨g1,g2,g3,g4⟩:=hg hde
      have hp:=BT t most D.2 hokd D.1.1 D.1.2 g1 g2 g3 g4
      generalize da t most D.1.1 D.1.2 D.2=F at *
      refine⟨aF,vV,?_⟩
      refine cj hde ?_
      refine aI (aC t most D.2) hp (bX hde) nofun ?_
      rintro h' v ar ⟨rfl,rfl,rfl⟩
      refine⟨aF,rfl,?_⟩
      refine bB ?_
      exact hR2 _ (.le aF)
     ·rw[if_pos hde]at hR2
      rw[if_neg hde]
      have hi:¬((D.2.err:Int)=0):=by omega
      refine⟨aF,vV,?_⟩
      refine cj hi ?_
      refine ct hi ?_
      exact hR2 _ (.le aF)
    ·rw[if_neg h2]at hR2
     obtain rfl:k=3:=by omega
     refine cj he ?_
     refine gG ?_
     refine aI (aC t most S) (fp t most S 3) (bX he) nofun ?_
     rintro h' v ar ⟨rfl,rfl,rfl⟩
     refine⟨aF,rfl,?_⟩
     rw[fh he]
     refine bB ?_
     exact hR2 _ (.le aF)
 ·have hi:¬((S.err:Int)=0):=by omega
  rw[if_pos he]at hR2
  refine cj hi ?_
  exact hR2 _ (.le aF)
theorem HV {t:Bs} {most:Nat} {S:SS} (he:S.err=0) (h:¬8*t.length<S.p+3) :
    dy t most S=(decide (numAt t S.p 1=1),mh t most (numAt t (S.p+1) 2) {S with p:=S.p+3}):=by
 have hk:∀k,mh t most k {S with p:=S.p+3}=if k=0 then eJ t most {S with p:=S.p+3} else if k=1 then da t most bl bR {S with p:=S.p+3}
  else if k=2 then(if(cy t {S with p:=S.p+3}).2.err≠0 then(cy t {S with p:=S.p+3}).2 else da t most (cy t {S with p:=S.p+3}).1.1 (cy t {S with p:=S.p+3}).1.2 (cy t {S with p:=S.p+3}).2)else {S with p:=S.p+3,err:=3}:=fun k=>if_neg (by simpa using he)
 rw[hk]
 exact if_neg h
set_option maxHeartbeats 2000000 in
theorem anh (x:Bs) (o most:Nat) (ho:o≤x.length) (ht:(x.drop o).length≤1000000) (hx:x.length≤4000000000000000000) (hm:most≤65536) :
    aZ Tryz.prog 58 [.str x,.int .i64 o,.int .i64 most] (.ak [.str (dY (x.drop o) most).1,.int .i64 ((dY (x.drop o) most).2.1:Nat),.int .i64 ((dY (x.drop o) most).2.2:Nat)]):=by
 refine Cod.ani (fun E R hN hR=>?_)
 have c1:¬((o:Int)<0):=by omega
 have c2:¬((x.length:Int)<(o:Int)):=by omega
 have c3:¬((most:Int)<0):=by omega
 have c4:¬((65536:Int)<(most:Int)):=by omega
 have hbits:=aiM (x.drop o) ht
 refine eC c1 c2 c3 c4 ?_
 refine x7 c1 c2 c3 c4 ?_
 generalize x.drop o=t at *
 have hbl:=oM t
 refine aG hbits rfl rfl ?_
 refine wW ?_
 unfold dY at hR
 simp only at hR
 generalize hRS:fH t most ⟨0,[],0⟩=RS at hR
 refine aK hN (fun S:SS=>⟨[(9,.ab 79038 0)],aC t most S⟩) (fun S=>bP t most S∧(S.err=0→fH t most S=RS)∧(S.err≠0→RS=S)) (fun S=>if S.err=0 then 8*t.length+1-S.p else 0) ⟨0,[],0⟩
  (.jK 79038 2 73035 1 [.ro 1 (cp (aX t 0)),.int .i64 0,.al,.int .i64 most,.int .i64 0] vV rfl rfl (.le aF)) ⟨⟨ht,by omega,by simp,by simp⟩,fun _=>hRS,fun h=>absurd rfl h⟩ ?_
 rintro S R1 ⟨hok,hg,hb⟩ hR1
 by_cases he:S.err=0
 ·have hg:=hg he
  rw[run_eq hok.pl]at hg
  have hmb:=lg (t:=t) (most:=most) (S:=S)
  have hokb:bP t most (dy t most S).2:=hok.mv hmb.1
  generalize hS1:(if 8*t.length<S.p+3 then {S with err:=6} else S)=S1
  have hok1:bP t most S1:=by rw[←hS1];split;exact hok.mv gY;exact hok
  have hpl:=hok.pl
  have htl:=hok.tl
  refine cj he ?_
  refine cH hN (fun _:Unit=>⟨[(9,.ab 79038 0)],aC t most S1⟩) (fun _=>True) (fun R2 hR2=>?_) (fun _ _=>?_)
  ·subst hS1
   clear hR hR1
   by_cases hlt:8*t.length<S.p+3
   ·rw[if_pos hlt]at hR2
    have hi:((8*t.length:Nat):Int)-(S.p:Int)<3:=by omega
    refine iV he hbl hi ?_
    refine gS he hbl hi ?_
    refine aI (aC t most S) (fp t most S 6) (bX he) nofun ?_
    rintro h' v ar ⟨rfl,rfl,rfl⟩
    refine⟨aF,rfl,?_⟩
    rw[fh he]
    refine bB ?_
    exact hR2 () _ trivial (.le aF)
   ·rw[if_neg hlt]at hR2
    have hi:¬((8*t.length:Nat):Int)-(S.p:Int)<3:=by omega
    refine iV he hbl hi ?_
    refine gS he hbl hi ?_
    exact hR2 () _ trivial (.le (bX he))
  ·have ha:=gq t most S1 hok1 1 (by decide)
   have hoka:bP t most (aJ t 1 S1).2:=hok1.mv fj
   have hla:=fD (t:=t) (n:=1) (S:=S1)
   generalize hea:aJ t 1 S1=a at *
   have hbn:=gq t most a.2 hoka 2 (by decide)
   have hokb2:bP t most (aJ t 2 a.2).2:=hoka.mv fj
   have hlb:=fD (t:=t) (n:=2) (S:=a.2)
   generalize heb:aJ t 2 a.2=b at *
   have hkk:(dy t most S).2=mh t most b.1 b.2∧((dy t most S).2.err=0→((dy t most S).1=true↔a.1=1)):=by
    by_cases hlt:8*t.length<S.p+3
    ·rw[if_pos hlt]at hS1
     have h1:S1.err≠0:=by rw[←hS1];simp
     rw[ln h1]at hea
     subst hea
     rw[ln h1]at heb
     subst heb
     have hbk:dy t most S=(true,{S with err:=6}):=if_pos hlt
     rw[hbk]
     refine⟨?_,fun h=>absurd h (by simp)⟩
     unfold mh
     rw[if_pos h1,hS1]
    ·rw[if_neg hlt]at hS1
     subst hS1
     obtain⟨w1,w2⟩:=HU he hlt
     rw[w1]at hea
     subst hea
     simp only at heb
     rw[w2]at heb
     subst heb
     rw[HV he hlt]
     exact⟨rfl,fun _=>by simp⟩
   obtain⟨hk1,hk2⟩:=hkk
   generalize dy t most S=B at *
   refine bB ?_
   refine aI (aC t most S1) ha aF nofun ?_
   rintro h' v ar ⟨rfl,rfl,rfl⟩
   refine⟨aF,rfl,?_⟩
   refine bB ?_
   refine aI (aC t most a.2) hbn aF nofun ?_
   rintro h' v ar ⟨rfl,rfl,rfl⟩
   refine⟨aF,rfl,?_⟩
   refine bB ?_
   refine cH hN (fun _:Unit=>⟨[(9,.ab 79038 0),(10,.int .i64 a.1)],aC t most B.2⟩) (fun _=>True) (fun R2 hR2=>?_) (fun _ _=>?_)
   ·have hkd:=YT t most b.1 b.2 a.1 (E:=E) (R2:=R2) (Q:=KQ.de 1 (KQ.fq R1 (KQ.de 0 (KQ.seq Tryz.prog E Cod.BF (KQ.post [RVar.tmp 6,RVar.tmp 7,RVar.tmp 8] 3 R))))) hN hokb2 hlb (fun st' hw=>hR2 () _ trivial (by rw[hk1];exact hw))
    simp only[aC]at hkd
    exact hkd
   ·by_cases hBe:B.2.err=0
    ·by_cases ha1:a.1=1
     ·have hB1:=(hk2 hBe).2 ha1
      rw[if_pos (.inr hB1)]at hg
      subst hg
      rw[if_neg (by simpa using hBe)]at hR
      have hup:=Bn B.2.p (by have:=hokb.pl;omega)
      have hi:((a.1:Nat):Int)=1:=by omega
      have hup2:=up8 B.2.p
      have hub:cS B.2.p≤B.2.p+8:=by unfold cS;omega
      have:=hokb.pl
      have:=hokb.ol
      refine gK hBe hi ?_
      refine eL hBe hi ?_
      refine aG hup rfl rfl ?_
      generalize cS B.2.p=ub at *
      have e8:(ub:Int)/8=(((B.2.p+7)/8:Nat):Int):=by omega
      refine aw e8 ?_
      exact hR.wk (h':=[]) (r':=.ak [.str B.2.out,.int .i64 ((B.2.p+7)/8:Nat),.int .i64 (0:Nat)]) (ar':=[.undef,.undef,.undef]) rfl (.le vV) ⟨rfl,rfl⟩
     ·have hB1:¬B.1=true:=fun h=>ha1 ((hk2 hBe).1 h)
      have hi:¬((a.1:Nat):Int)=1:=by omega
      rw[if_neg (fun h=>h.elim (fun h=>h hBe) hB1)]at hg
      refine gK hBe hi ?_
      refine eL hBe hi ?_
      exact hR1 B.2 _ (by simp only[if_pos hBe,if_pos he];have:=hmb.2 hBe;omega) ⟨hokb,fun _=>hg,fun h=>absurd hBe h⟩ (.le (bX hBe))
    ·rw[if_pos (.inl hBe)]at hg
     have hi:¬((B.2.err:Int)=0):=by omega
     refine cj hi ?_
     refine ct hi ?_
     exact hR1 B.2 _ (by simp only[if_neg hBe,if_pos he];omega) ⟨hokb,fun h=>absurd h hBe,fun _=>hg.symm⟩ (.le aF)
 ·obtain rfl:=hb he
  rw[if_pos he]at hR
  have hi:¬((RS.err:Int)=0):=by omega
  refine cj hi ?_
  refine ct hi ?_
  exact hR.wk (h':=[]) (r':=.ak [.str [],.int .i64 (0:Nat),.int .i64 (RS.err:Nat)]) (ar':=[.undef,.undef,.undef]) rfl (.le vV) ⟨rfl,rfl⟩
theorem iT (x k:Nat) (hk:k≤31):((x:Nat):Int).fdiv (2^min k 32)=((x/2^k:Nat):Int):=by
 rw[Nat.min_eq_left (by omega),show(2:Int)^k=((2^k:Nat):Int)by push_cast;rfl,Int.fdiv_eq_ediv_of_nonneg _ (Int.natCast_nonneg _)]
 rfl
theorem aaa (x:Nat):cK x 1=[x%2==1]:=by
 simp[cK,Nat.testBit_zero]
 rw[Bool.eq_iff_iff];simp
theorem aA3 (bs:List Bool) (x n:Nat) (hx:x<2^32) (hn:n≤32) (hb:bs.length≤100000000000):Eng.Spec Tryz.prog 94 (bz bs) [.ab WR 0,.int .u32 x,.int .i64 n]
    (fun h' v ar=>h'=bz (bs++bitsM x n)∧v=.ak []∧ar=[.ab WR 0,.int .u32 x,.int .i64 n]):=by
 refine Cod.aA4 (fun E R hN hR=>?_)
 by_cases h0:n=0
 ·subst h0
  rw[show bs++bitsM x 0=bs by simp[bitsM]]at hR
  refine wW ?_
  refine gG ?_
  exact hR.le (h':=bz bs) dR ⟨rfl,rfl,rfl⟩
 ·refine wW ?_
  refine gG ?_
  refine aK hN (fun j:Nat=>⟨[(0,.ab WR 0),(1,.int .u32 x),(6,.int .i64 ((j:Int)-1)),(2000000,.ab WR 0),(2000001,.int .u32 x),(2000002,.int .i64 n)],bz (bs++bitsM (x/2^j) (n-j))⟩) (fun j=>j≤n) (fun j=>j) n (.le (by simp(disch:=omega)only[go_sem,simprocAttr,show n-n=0 by omega,bitsM,List.append_nil,bz,c7,cZ])) (by omega) ?_
  rintro j R1 hj hR1
  cases j with
  | zero=>
   rw[show x/2^0=x by simp,Nat.sub_zero]
   refine wW ?_
   exact hR.le dR ⟨rfl,rfl,rfl⟩
  | succ j=>
   have hs:=iT x j (by omega)
   have hq:x/2^j<2^32:=Nat.lt_of_le_of_lt (Nat.div_le_self _ _) hx
   have hc:=mK (bs++bitsM (x/2^(j+1)) (n-(j+1))) (x/2^j) 1 hq (by omega) (by rw[List.length_append,oL];omega)
   have e:bs++bitsM (x/2^(j+1)) (n-(j+1))++cK (x/2^j) 1=bs++bitsM (x/2^j) (n-j):=by
    rw[List.append_assoc,aaa,show n-j=(n-(j+1))+1 by omega,bitsM,Nat.div_div_eq_div_mul,Nat.pow_succ]
   rw[e,show((1:Nat):Int)=1 from rfl]at hc
   simp(disch:=omega)only[go_sem,simprocAttr,show(j:Int)+1-1=j by omega,hs]
   refine aI (bz (bs++bitsM (x/2^(j+1)) (n-(j+1)))) hc dR nofun ?_
   rintro h' v ar ⟨rfl,rfl,rfl⟩
   refine⟨dR,rfl,?_⟩
   refine wW ?_
   exact hR1 j _ (by omega) (by omega) (.le dR)
def eg (bs:List Bool):List Bool:=bs++List.replicate ((8-bs.length%8)%8) false
theorem ov (bs:List Bool):(eg bs).length=8*((bs.length+7)/8):=by
 simp only[eg,List.length_append,List.length_replicate];omega
theorem aab (n:Nat):cK 0 n=List.replicate n false:=by
 unfold cK
 rw[List.map_congr_left (g:=fun _=>false) (fun i _=>Nat.zero_testBit i)]
 simp[List.map_const']
theorem aAA (bs:List Bool) (hb:bs.length≤100000000000):Eng.Spec Tryz.prog 126 (bz bs) [.ab WR 0]
    (fun h' v ar=>h'=bz (eg bs)∧v=.ak []∧ar=[.ab WR 0]):=by
 refine Cod.aAB (fun E R hN hR=>?_)
 have e8:bs.length-8*(bs.length/8)=bs.length%8:=by omega
 by_cases h0:bs.length%8=0
 ·have e:eg bs=bs:=by simp[eg,h0]
  rw[e]at hR
  refine DJ e8 ?_
  exact hR.le (qU e8) ⟨rfl,rfl,rfl⟩
 ·have hc:=mK bs 0 (8-bs.length%8) (by decide) (by omega) (by omega)
  have e:bs++cK 0 (8-bs.length%8)=eg bs:=by rw[aab,eg,Nat.mod_eq_of_lt (show 8-bs.length%8<8 by omega)]
  rw[e]at hc
  have ei:((8-bs.length%8:Nat):Int)=8-((bs.length%8:Nat):Int):=by omega
  rw[ei,show((0:Nat):Int)=0 from rfl]at hc
  have hg:(0:Int)<((bs.length%8:Nat):Int):=by omega
  refine DJ e8 ?_
  refine aI (bz bs) hc (qU e8) nofun ?_
  rintro h' v ar ⟨rfl,rfl,rfl⟩
  refine⟨dR,rfl,?_⟩
  refine wW ?_
  exact hR.le dR ⟨rfl,rfl,rfl⟩
theorem Iq (a:List Bool) (s:Bs) (k i:Nat) (ha:a.length=8*k) (hi:i<s.length):gO (a++aX s 0) (k+i)=s.getD i 0:=by
 unfold gO
 apply UInt8.toNat_inj.1
 rw[UInt8.toNat_ofNat',List.drop_append,List.drop_of_length_le (by omega),List.nil_append,show 8*(k+i)-a.length=8*i by omega]
 have h1:(aX s 0).drop (8*i)=aX s (8*i):=by
  unfold aX
  apply List.ext_getElem?
  intro j
  simp only[List.getElem?_drop,List.getElem?_map,List.getElem?_range',Nat.sub_zero,Nat.zero_add]
  by_cases h:8*i+j<8*s.length
  ·rw[List.getElem?_range h,List.getElem?_range (by omega)];rfl
  ·rw[List.getElem?_eq_none (by simp;omega),List.getElem?_eq_none (by simp;omega)];rfl
 rw[h1,←abE,qe s (8*i) 8 (by omega),jL]
theorem Ay (a:List Bool) (s:Bs) (k:Nat) (ha:a.length=8*k):dE (a++aX s 0) (k+s.length)=dE a k++s:=by
 apply List.ext_getElem?
 intro j
 by_cases hj:j<k
 ·rw[List.getElem?_append_left (by rw[jN];exact hj)]
  have:=congrArg (fun l=>l[j]?) (Ax a (aX s 0) k (by omega))
  rw[←this]
  unfold dE
  rw[List.getElem?_map,List.getElem?_map,List.getElem?_range (by omega),List.getElem?_range hj]
 ·rw[List.getElem?_append_right (by rw[jN];omega),jN]
  unfold dE
  by_cases hj2:j<k+s.length
  ·rw[List.getElem?_map,List.getElem?_range hj2,Option.map_some,show j=k+(j-k)by omega,Iq a s k (j-k) ha (by omega),List.getD_eq_getElem?_getD,List.getElem?_eq_getElem (by omega),show k+(j-k)-k=j-k by omega,List.getElem?_eq_getElem (by omega)]
   rfl
  ·rw[List.getElem?_eq_none (by simp;omega),List.getElem?_eq_none (by omega)]
theorem aAR (bs:List Bool) (s:Bs) (hb:bs.length≤10000000000) (hs:s.length≤1000000000):Eng.Spec Tryz.prog 116 (bz bs) [.ab WR 0,.str s]
    (fun h' v ar=>h'=bz (eg bs++aX s 0)∧v=.ak []∧ar=[.ab WR 0,.str s]):=by
 refine Cod.aAS (fun E R hN hR=>?_)
 have hal:=ov bs
 have hrl:=gu s 0
 generalize hk:(bs.length+7)/8=k at *
 have ek:(eg bs).length/8=k:=by omega
 have hl:(eg bs++aX s 0).length=8*(k+s.length):=by rw[List.length_append,hal,hrl];omega
 have el:(eg bs++aX s 0).length/8=k+s.length:=by omega
 have hpb:=Ay (eg bs) s k hal
 have hn1:bA ((eg bs).drop (8*k))=0:=by rw[List.drop_of_length_le (by omega)];rfl
 have hn2:bA ((eg bs++aX s 0).drop (8*(k+s.length)))=0:=by rw[List.drop_of_length_le (by omega)];rfl
 have hpl:=jN (eg bs) k
 refine wW ?_
 refine aI (bz bs) (aAA bs (by omega)) dR nofun ?_
 rintro h' v ar ⟨rfl,rfl,rfl⟩
 refine⟨dR,rfl,?_⟩
 simp(disch:=omega)only[go_sem,simprocAttr,bz,c7,cZ,ek,fP,hpl,show(eg bs).length-8*k=0 by omega,hn1]
 refine hR.le ?_ ⟨rfl,rfl,rfl⟩
 simp(disch:=omega)only[go_sem,simprocAttr,bz,c7,cZ,el,show(eg bs++aX s 0).length-8*(k+s.length)=0 by omega,hn2]
 rw[←List.length_append,el,hpb]
def eZ (bs:List Bool):Bs:=dE bs ((bs.length+7)/8)
theorem j4 (l:Bs):bytesOf (l.map ub)=l:=by
 simp[bytesOf,List.map_map]
 refine(List.map_congr_left (fun c _=>?_)).trans (List.map_id l)
 simp[ub,byteOfAV]
theorem j0 (l:Bs):gf (l.map ub)=true:=by simp[gf,ub,jk]
theorem D1 (bs:List Bool) (hb:bs.length≤100000000000):Eng.Spec Tryz.prog 98 (bz bs) [.ab WR 0]
    (fun h' v ar=>h'=bz bs∧v=.str (eZ bs)∧ar=[.ab WR 0]):=by
 refine Cod.aBI (fun E R hN hR=>?_)
 have e8:bs.length-8*(bs.length/8)=bs.length%8:=by omega
 have hpl:=jN bs (bs.length/8)
 have hbp:=j4 (dE bs (bs.length/8))
 have hba:=j0 (dE bs (bs.length/8))
 by_cases h0:bs.length%8=0
 ·have e:eZ bs=dE bs (bs.length/8):=by unfold eZ;congr 1;omega
  rw[e]at hR
  refine aAt e8 @fP hpl hbp hba ?_
  exact hR.le (qU e8) ⟨rfl,rfl,rfl⟩
 ·have e:eZ bs=dE bs (bs.length/8)++[gO bs (bs.length/8)]:=by unfold eZ;rw[show(bs.length+7)/8=bs.length/8+1 by omega,Az]
  rw[e]at hR
  have hg:(0:Int)<((bs.length%8:Nat):Int):=by omega
  have hby:=wG bs (bs.length/8)
  have hb1:bytesOf [.int .u8 ((gO bs (bs.length/8)).toNat:Int)]=[gO bs (bs.length/8)]:=j4 [_]
  have hb2:gf [.int .u8 ((gO bs (bs.length/8)).toNat:Int)]=true:=j0 [_]
  simp(disch:=omega)only[go_sem,simprocAttr,bz,c7,cZ,e8,fP,hpl,hbp,hba,hby,hb1,hb2]
  exact hR.le (qU e8) ⟨rfl,rfl,rfl⟩
def fJ:Nat:=65032
def rf:Nat:=60022
attribute [go_sem] fJ rf
def a6 (s:Bs) (o most a hv:Nat) (out:Bs):HP:=[(fJ,.var [.ab RD 0,.sl rf 0 out.length,.int .i64 most]),(rf,.arr 1 (out.map ub)),(RD,.var (a8 s a hv o))]
theorem n7 {p:Prop} (h:p:=by simp(disch:=first | omega | (simp only[Lx];omega))only[go_sem,simprocAttr,a6,a8,bq]):p:=h
theorem uS {a b:Prop} (k:b) (h:b→a:=by intro h;simp(disch:=first | omega | (simp only[Lx];omega))only[go_sem,simprocAttr,a6,a8,bq];exact h):a:=h k
theorem qT {E0:Prop} {p:Prop} (e0:E0) (h:E0→p:=by intro e0;simp(disch:=first | omega | (simp only[Lx];omega))only[go_sem,simprocAttr,a6,a8,bq,e0]):p:=h e0
theorem bE {p:Prop} (h:p:=by simp(disch:=first | omega | (simp only[Lx];omega))only[go_sem,simprocAttr,a6,a8]):p:=h
theorem jX {a b:Prop} (k:b) (h:b→a:=by intro h;simp(disch:=first | omega | (simp only[Lx];omega))only[go_sem,simprocAttr,a6,a8];exact h):a:=h k
theorem DG {E0:Prop} {p:Prop} (e0:E0) (h:E0→p:=by intro e0;simp(disch:=first | omega | (simp only[Lx];omega))only[go_sem,simprocAttr,a6,a8,e0]):p:=h e0
theorem uT {E0:Prop} {a b:Prop} (e0:E0) (k:b) (h:E0→b→a:=by intro e0 h;simp(disch:=first | omega | (simp only[Lx];omega))only[go_sem,simprocAttr,a6,a8,e0];exact h):a:=h e0 k
theorem vVJ {p:Prop} (h:p:=by simp(disch:=first | omega | (simp only[Lx];omega))only[go_sem,simprocAttr,a6]):p:=h
theorem iW {a b:Prop} (k:b) (h:b→a:=by intro h;simp(disch:=first | omega | (simp only[Lx];omega))only[go_sem,simprocAttr,a6];exact h):a:=h k
theorem uU {E0 E1:Prop} {a b:Prop} (e0:E0) (e1:E1) (k:b) (h:E0→E1→b→a:=by intro e0 e1 h;simp(disch:=first | omega | (simp only[Lx];omega))only[go_sem,simprocAttr,a6,e0,e1];exact h):a:=h e0 e1 k
theorem yV (s:Bs) (o most a hv:Nat) (out:Bs) (hm:most≤1000000) (ho:out.length≤most) (c:UInt8):Eng.Spec Tryz.prog 107 (a6 s o most a hv out) [.ab fJ 0,.int .u8 (c.toNat:Int)]
    (fun h' v ar=>h'=a6 s o most a hv (if out.length=most then out else out++[c])∧v=.int .i64 (if out.length=most then 2 else 0:Nat)∧ar=[.ab fJ 0,.int .u8 (c.toNat:Int)]):=by
 refine Cod.U5 (fun E R hN hR=>?_)
 have hc:=c.toNat_lt
 by_cases hf:out.length=most
 ·rw[if_pos hf,if_pos hf]at hR
  refine jX ?_
  refine gG ?_
  exact hR.le bE ⟨rfl,rfl,rfl⟩
 ·rw[if_neg hf,if_neg hf]at hR
  refine jX ?_
  refine gG ?_
  refine hR.le ?_ ⟨rfl,rfl,rfl⟩
  refine jX ?_
  rw[UInt8.ofNat_toNat]
theorem Z6:∀i:Nat,i<28→8≤i→IntKind.i64.wrap (3+IntKind.i64.wrap ((4+(i:Int)%4)*2^min ((i:Int)/4-1).toNat 64))=((3+(4+i%4)*2^(i/4-1):Nat):Int)∧(i:Int)/4-1=((i/4-1:Nat):Int):=by decide +kernel
theorem KR:∀i:Nat,i<30→4≤i→IntKind.i64.wrap (1+IntKind.i64.wrap ((2+(i:Int)%2)*2^min ((i:Int)/2-1).toNat 64))=((1+(2+i%2)*2^(i/2-1):Nat):Int)∧(i:Int)/2-1=((i/2-1:Nat):Int):=by decide +kernel
theorem yO (i:Nat) (hi:i≤28):aZ Tryz.prog 96 [.int .i64 i] (.ak [.int .i64 ((aU i).1:Nat),.int .i64 ((aU i).2:Nat)]):=by
 refine Cod.Ur (fun E R hN hR=>?_)
 by_cases h28:i=28
 ·subst h28
  refine wW ?_
  exact hR.le vV ⟨rfl,rfl⟩
 ·by_cases h8:i<8
  ·have e:aU i=(3+i,0):=by unfold aU;rw[if_neg h28,if_pos h8]
   rw[e]at hR
   refine wW ?_
   refine gG ?_
   exact hR.le vV ⟨rfl,rfl⟩
  ·have e:aU i=(3+(4+i%4)*2^(i/4-1),i/4-1):=by unfold aU;rw[if_neg h28,if_neg h8]
   rw[e]at hR
   refine wW ?_
   refine gG ?_
   obtain⟨w1,w2⟩:=Z6 i (by omega) (by omega)
   rw[w1,w2]
   exact hR.le vV ⟨rfl,rfl⟩
theorem yJ (i:Nat) (hi:i≤29):aZ Tryz.prog 97 [.int .i64 i] (.ak [.int .i64 ((bt i).1:Nat),.int .i64 ((bt i).2:Nat)]):=by
 refine Cod.Tx (fun E R hN hR=>?_)
 by_cases h4:i<4
 ·have e:bt i=(1+i,0):=by unfold bt;rw[if_pos h4]
  rw[e]at hR
  refine wW ?_
  refine gG ?_
  exact hR.le vV ⟨rfl,rfl⟩
 ·have e:bt i=(1+(2+i%2)*2^(i/2-1),i/2-1):=by unfold bt;rw[if_neg h4]
  rw[e]at hR
  refine wW ?_
  refine gG ?_
  obtain⟨w1,w2⟩:=KR i (by omega) (by omega)
  rw[w1,w2]
  exact hR.le vV ⟨rfl,rfl⟩
def PI (s:Bs) (o most:Nat) (F:SS) (h':HP) (v:AV):Prop:=
 ∃a' hv' out',h'=a6 s o most a' hv' out'∧v=.int .i64 (F.err:Nat)∧(F.err=0→out'=F.out∧bL s a' hv' (8*o+F.p))
theorem jq {s:Bs} {o most:Nat} {F:SS} {h':HP} {v:AV} (h:∃a' hv' S',h'=a6 s o most a' hv' S'.out∧bL s a' hv' (8*o+S'.p)∧S'.out.length≤most∧v=.int .i64 (F.err:Nat)∧(F.err=0→S'=F)):PI s o most F h' v:=by
 obtain⟨a',hv',S',h1,h2,_,h4,h5⟩:=h
 exact⟨a',hv',S'.out,h1,h4,fun he=>by obtain rfl:=h5 he;exact⟨rfl,h2⟩⟩
theorem tk (s:Bs) (o p:Nat):dD s (8*o+p)=8*(s.drop o).length-p:=by unfold dD;rw[List.length_drop];omega
theorem xq (s:Bs) (q:Nat) (h:q+2≤s.length):(s.drop q).take 2=[s.getD q 0,s.getD (q+1) 0]:=by
 have h1:q<s.length:=by omega
 have h2:q+1<s.length:=by omega
 rw[List.drop_eq_getElem_cons h1,List.drop_eq_getElem_cons h2,List.getD_eq_getElem?_getD,List.getD_eq_getElem?_getD,List.getElem?_eq_getElem h1,List.getElem?_eq_getElem h2]
 rfl
theorem zy (x y:UInt8):aZ Tryz.prog 122 [.str [x,y]] (.int .u64 ((x.toNat+y.toNat*2^8:Nat):Int)):=by
 refine Cod.Oe (fun E R hN hR=>?_)
 have hx:=x.toNat_lt
 have hy:=y.toNat_lt
 refine wW ?_
 refine aK hN (fun i:Nat=>⟨[(0,.str [x,y]),(3,.int .u64 (if i=0 then 0 else if i=1 then x.toNat else x.toNat+y.toNat*2^8:Nat)),(7,.int .i64 2),(8,.int .i64 i)],[]⟩) (fun i=>i≤2) (fun i=>2-i) 0 (.le vV) (by omega) ?_
 rintro i R1 hi hR1
 obtain rfl | rfl | rfl:i=0∨i=1∨i=2:=by omega
 ·have e0:bits .or .u64 0 (IntKind.u64.wrap ((x.toNat:Int)*2^min 0 64))=((x.toNat:Nat):Int):=(tH (x:=0) (k:=0) (b:=x.toNat) (by decide) (by decide) hx).trans (by rw[Nat.zero_add,Nat.pow_zero,Nat.mul_one])
  refine aw e0 ?_
  exact hR1 1 _ (by omega) (by omega) (.le vV)
 ·have e1:bits .or .u64 (x.toNat:Int) (IntKind.u64.wrap ((y.toNat:Int)*2^min 8 64))=((x.toNat+y.toNat*2^8:Nat):Int):=tH (k:=8) hx (by decide) hy
  refine aw e1 ?_
  exact hR1 2 _ (by omega) (by omega) (.le vV)
 ·refine wW ?_
  exact hR.le vV ⟨rfl,rfl⟩
end Go.Proofs.YtjoefngnjoofeaaGreatDoor.Pk
