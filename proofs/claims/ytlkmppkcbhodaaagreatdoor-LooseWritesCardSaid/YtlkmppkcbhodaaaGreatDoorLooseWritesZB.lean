/- The proof, part 28 of 34. -/
import Derived.Test.YtlkmppkcbhodaaaGreatDoorLooseWritesZ
import Derived.Test.YtlkmppkcbhodaaaGreatDoorLooseWritesZA
import Derived.Test.YtlkmppkcbhodaaaGreatDoorProg
import Derived.KernelRfl
set_option linter.all false
namespace Go.Proofs.YtlkmppkcbhodaaaGreatDoor.Pk
open Eng
set_option maxRecDepth 10000
def RD:Nat:=40014
attribute [go_sem] RD
def aZ (s:Bs) (a hv fr:Nat):List AV:=[.str s,.int .i64 a,.int .u64 (numAt s (8*a-hv) hv:Nat),.int .i64 hv,.int .i64 fr]
theorem cn {p:Prop} (h:p:=by simp(disch:=first | omega | (simp only[Lx];omega))only[go_sem,simprocAttr,aZ]):p:=h
theorem iq {a b:Prop} (k:b) (h:b→a:=by intro h;simp(disch:=first | omega | (simp only[Lx];omega))only[go_sem,simprocAttr,aZ];exact h):a:=h k
theorem ati {E0:Prop} {a b:Prop} (e0:E0) (k:b) (h:E0→b→a:=by intro e0 h;simp(disch:=first | omega | (simp only[Lx];omega))only[go_sem,simprocAttr,aZ,e0];exact h):a:=h e0 k
theorem tN {E0 E1:Prop} {a b:Prop} (e0:E0) (e1:E1) (k:b) (h:E0→E1→b→a:=by intro e0 e1 h;simp(disch:=first | omega | (simp only[Lx];omega))only[go_sem,simprocAttr,aZ,e0,e1];exact h):a:=h e0 e1 k
theorem atj {E0 E1 E2:Prop} {a b:Prop} (e0:E0) (e1:E1) (e2:E2) (k:b) (h:E0→E1→E2→b→a:=by intro e0 e1 e2 h;simp(disch:=first | omega | (simp only[Lx];omega))only[go_sem,simprocAttr,aZ,e0,e1,e2];exact h):a:=h e0 e1 e2 k
structure bO (s:Bs) (a hv p:Nat):Prop where
 h1:hv≤39
 h2:a≤s.length
 h3:p+hv=8*a
theorem sM {x k b:Nat} (hx:x<2^k) (hk:k≤56) (hb:b<256):bits .or .u64 (x:Int) (IntKind.u64.wrap ((b:Int)*2^min k 64))=((x+b*2^k:Nat):Int):=by
 have hp:2^k≤2^56:=Nat.pow_le_pow_right (by decide) hk
 have h2:b*2^k<2^64:=Nat.lt_of_le_of_lt (Nat.mul_le_mul (show b≤255 by omega) hp) (by decide)
 have h3:x+b*2^k<2^64:=by
  have:(b+1)*2^k≤256*2^56:=Nat.mul_le_mul (by omega) hp
  rw[Nat.add_mul]at this
  omega
 have e:IntKind.u64.wrap ((b:Int)*2^min k 64)=((b*2^k:Nat):Int):=by
  rw[Nat.min_eq_left (by omega),show((b:Int)*2^k)=((b*2^k:Nat):Int)by push_cast;rfl]
  exact wrap_u64 (by omega)
 rw[e]
 show IntKind.u64.wrap ((BitVec.ofInt 64 (x:Int) ||| BitVec.ofInt 64 ((b*2^k:Nat):Int)).toNat:Int)=_
 rw[BitVec.ofInt_natCast,BitVec.ofInt_natCast,BitVec.toNat_or,BitVec.toNat_ofNat,BitVec.toNat_ofNat,Nat.mod_eq_of_lt (by omega),Nat.mod_eq_of_lt h2,Nat.or_comm,←Nat.shiftLeft_eq,←Nat.shiftLeft_add_eq_or_of_lt hx,Nat.shiftLeft_eq,Nat.add_comm]
 exact wrap_u64 (by omega)
theorem wz (s:Bs) (a hv fr p n:Nat) (hs:s.length≤1000000000000) (h:bO s a hv p) (hn:n≤32):Eng.Spec Tryz.prog 202 [(RD,.var (aZ s a hv fr))] [.ab RD 0,.int .i64 n]
    (fun h' v ar=>∃a' hv',bO s a' hv' p∧(n≤hv'∨a'=s.length)∧h'=[(RD,.var (aZ s a' hv' fr))]∧v=.aj []∧ar=[.ab RD 0,.int .i64 n]):=by
 refine Cod.KP (fun E R hN hR=>?_)
 refine wW ?_
 refine a7 hN (fun q:Nat×Nat=>⟨[(0,.ab RD 0),(1,.int .i64 n),(2000000,.ab RD 0),(2000001,.int .i64 n)],[(RD,.var (aZ s q.1 q.2 fr))]⟩) (fun q=>bO s q.1 q.2 p) (fun q=>s.length-q.1) (a,hv) (.le cn) h ?_
 rintro⟨a,hv⟩ R1 ⟨h1,h2,h3⟩ hR1
 simp only at h1 h2 h3
 by_cases hlt:hv<n
 ·by_cases hat:a<s.length
  ·have hb:=(s.getD a 0).toNat_lt
   have ho:=sM (fE s (8*a-hv) hv) (show hv≤56 by omega) (b:=(s.getD a 0).toNat) (by omega)
   have hf:=aaB s a hv (by omega)
   rw[←hf]at ho
   refine iq ?_
   refine gG ?_
   rw[ho]
   exact hR1 (a+1,hv+8) _ (by simp only;omega) ⟨by simp only;omega,by simp only;omega,by simp only;omega⟩ (.le (by simp(disch:=omega)only[go_sem,simprocAttr,aZ,show 8*(a+1)-(hv+8)=8*a-hv by omega]))
  ·refine iq ?_
   refine gG ?_
   exact hR.le cn ⟨a,hv,⟨h1,h2,h3⟩,.inr (by omega),rfl,rfl,rfl⟩
 ·refine iq ?_
  refine gG ?_
  exact hR.le cn ⟨a,hv,⟨h1,h2,h3⟩,.inl (by omega),rfl,rfl,rfl⟩
theorem uj (x n:Nat) (hx:x<2^64) (hn:n≤32):bits .and .u64 (x:Int) (IntKind.u64.wrap (IntKind.u64.wrap (1*2^min n 64)-1))=((x%2^n:Nat):Int):=by
 have hp:2^n≤2^32:=Nat.pow_le_pow_right (by decide) hn
 have hp1:0<2^n:=Nat.pow_pos (by decide)
 have e:IntKind.u64.wrap (IntKind.u64.wrap (1*2^min n 64)-1)=((2^n-1:Nat):Int):=by
  have e1:IntKind.u64.wrap (1*2^n)=((2^n:Nat):Int):=by
   rw[show((1:Int)*2^n)=((2^n:Nat):Int)by rw[Int.one_mul];push_cast;rfl]
   exact wrap_u64 (by omega)
  rw[Nat.min_eq_left (by omega),e1,show(((2^n:Nat):Int)-1)=((2^n-1:Nat):Int)by omega]
  exact wrap_u64 (by omega)
 rw[e]
 show IntKind.u64.wrap ((BitVec.ofInt 64 (x:Int) &&& BitVec.ofInt 64 ((2^n-1:Nat):Int)).toNat:Int)=_
 rw[BitVec.ofInt_natCast,BitVec.ofInt_natCast,BitVec.toNat_and,BitVec.toNat_ofNat,BitVec.toNat_ofNat,Nat.mod_eq_of_lt hx,Nat.mod_eq_of_lt (by omega),Nat.and_two_pow_sub_one_eq_mod]
 have:=Nat.mod_lt x hp1
 exact wrap_u64 (by omega)
def dj (s:Bs) (p:Nat):Nat:=8*s.length-p
theorem abF (s:Bs) (a hv fr p n:Nat) (hs:s.length≤1000000000000) (h:bO s a hv p) (hn:n≤32):Eng.Spec Tryz.prog 183 [(RD,.var (aZ s a hv fr))] [.ab RD 0,.int .i64 n]
    (fun h' v ar=>∃a' hv',bO s a' hv' p∧(n≤hv'∨a'=s.length)∧h'=[(RD,.var (aZ s a' hv' fr))]∧v=.aj [.int .u32 (numAt s p (min n hv'):Nat),.int .i64 (min n hv':Nat)]∧ar=[.ab RD 0,.int .i64 n]):=by
 refine Cod.abG (fun E R hN hR=>?_)
 refine wW ?_
 refine gG ?_
 refine aJ [(RD,.var (aZ s a hv fr))] (wz s a hv fr p n hs h hn) vV nofun ?_
 rintro h' v ar ⟨a',hv',⟨h1,h2,h3⟩,hor,rfl,rfl,rfl⟩
 refine⟨cn,rfl,?_⟩
 have hx:=fE s p hv'
 have hx2:numAt s p hv'<2^64:=Nat.lt_of_lt_of_le hx (Nat.pow_le_pow_right (by decide) (by omega))
 have ha:=uj (numAt s p hv') n hx2 hn
 have e1:numAt s p hv'%2^n=numAt s p (min n hv'):=by
  by_cases hh:n≤hv'
  ·rw[Nat.min_eq_left hh,kF s p hh]
  ·rw[Nat.min_eq_right (by omega),Nat.mod_eq_of_lt (Nat.lt_of_lt_of_le hx (Nat.pow_le_pow_right (by decide) (by omega)))]
 rw[e1]at ha
 have hx3:numAt s p (min n hv')<2^32:=Nat.lt_of_lt_of_le (fE s p _) (Nat.pow_le_pow_right (by decide) (by omega))
 have ew:IntKind.u32.wrap ((numAt s p (min n hv'):Nat):Int)=(numAt s p (min n hv'):Nat):=wrap_u32 (by omega)
 have em:min (n:Int) (hv':Int)=((min n hv':Nat):Int):=by omega
 simp(disch:=omega)only[go_sem,simprocAttr,aZ,show 8*a'-hv'=p by omega,ha,ew,em]
 exact hR.le (by simp(disch:=omega)only[go_sem,simprocAttr,aZ,show 8*a'-hv'=p by omega]) ⟨a',hv',⟨h1,h2,h3⟩,hor,rfl,rfl,rfl⟩
theorem api (s:Bs) (a hv fr p n:Nat) (hs:s.length≤1000000000000) (h:bO s a hv p) (hn:n≤32):Eng.Spec Tryz.prog 184 [(RD,.var (aZ s a hv fr))] [.ab RD 0,.int .i64 n]
    (fun h' v ar=>∃a' hv',bO s a' hv' (if n≤dj s p then p+n else p)∧h'=[(RD,.var (aZ s a' hv' fr))]∧v=.bool (decide (n≤dj s p))∧ar=[.ab RD 0,.int .i64 n]):=by
 refine Cod.apj (fun E R hN hR=>?_)
 refine wW ?_
 refine gG ?_
 refine aJ [(RD,.var (aZ s a hv fr))] (wz s a hv fr p n hs h hn) vV nofun ?_
 rintro h' v ar ⟨a',hv',⟨h1,h2,h3⟩,hor,rfl,rfl,rfl⟩
 refine⟨cn,rfl,?_⟩
 by_cases hlt:hv'<n
 ·have hno:¬n≤dj s p:=by unfold dj;rcases hor with ho | ho<;>omega
  refine iq ?_
  exact hR.le cn ⟨a',hv',by rw[if_neg hno];exact⟨h1,h2,h3⟩,rfl,by rw[decide_eq_false hno],rfl⟩
 ·have hyes:n≤dj s p:=by unfold dj;omega
  have hd:((numAt s p hv':Nat):Int).fdiv (2^min n 64)=((numAt s (p+n) (hv'-n):Nat):Int):=by
   rw[Nat.min_eq_left (by omega),←kD s p (show n≤hv' by omega),Int.fdiv_eq_ediv_of_nonneg _ (Int.pow_nonneg (by decide)),Int.natCast_ediv,Int.natCast_pow];rfl
  simp(disch:=omega)only[go_sem,simprocAttr,aZ,show 8*a'-hv'=p by omega,hd]
  refine hR.le ?_ ⟨a',hv'-n,by rw[if_pos hyes];exact⟨by omega,h2,by omega⟩,rfl,by rw[decide_eq_true hyes],rfl⟩
  rw[show((hv':Int)-(n:Int))=((hv'-n:Nat):Int)by omega]
  simp(disch:=omega)only[go_sem,simprocAttr,aZ,show 8*a'-(hv'-n)=p+n by omega]
theorem pX (s:Bs) (a hv fr p n:Nat) (hs:s.length≤1000000000000) (h:bO s a hv p) (hn:n≤32):Eng.Spec Tryz.prog 161 [(RD,.var (aZ s a hv fr))] [.ab RD 0,.int .i64 n]
    (fun h' v ar=>∃a' hv',bO s a' hv' (if n≤dj s p then p+n else p)∧h'=[(RD,.var (aZ s a' hv' fr))]∧v=.aj [.int .u32 (if n≤dj s p then numAt s p n else 0:Nat),.bool (decide (n≤dj s p))]∧ar=[.ab RD 0,.int .i64 n]):=by
 refine Cod.akx (fun E R hN hR=>?_)
 refine wW ?_
 refine aJ [(RD,.var (aZ s a hv fr))] (abF s a hv fr p n hs h hn) vV nofun ?_
 rintro h' v ar ⟨a',hv',h1,hor,rfl,rfl,rfl⟩
 refine⟨cn,rfl,?_⟩
 refine wW ?_
 refine aJ [(RD,.var (aZ s a' hv' fr))] (api s a' hv' fr p n hs h1 hn) vV nofun ?_
 rintro h' v ar ⟨a2,hv2,h2,rfl,rfl,rfl⟩
 refine⟨cn,rfl,?_⟩
 by_cases hyes:n≤dj s p
 ·have hm:min n hv'=n:=by
   have:=h1.h3;have:=h1.h2
   unfold dj at hyes
   rcases hor with ho | ho<;>omega
  refine bH hyes hm ?_
  exact hR.le vV ⟨a2,hv2,h2,rfl,by rw[if_pos hyes,decide_eq_true hyes],rfl⟩
 ·refine aw hyes ?_
  exact hR.le vV ⟨a2,hv2,h2,rfl,by rw[if_neg hyes,decide_eq_false hyes];rfl,rfl⟩
def cH (p:Nat):Nat:=(p+7)/8*8
theorem Cf {a hv p:Nat} (h:p+hv=8*a):cH p=8*(a-hv/8):=by unfold cH;omega
theorem akk (s:Bs) (a hv fr p:Nat) (hs:s.length≤1000000000000) (h:bO s a hv p):Eng.Spec Tryz.prog 203 [(RD,.var (aZ s a hv fr))] [.ab RD 0]
    (fun h' v ar=>∃hv',bO s a hv' (cH p)∧hv'=8*(hv/8)∧h'=[(RD,.var (aZ s a hv' fr))]∧v=.aj []∧ar=[.ab RD 0]):=by
 refine Cod.akl (fun E R hN hR=>?_)
 obtain⟨h1,h2,h3⟩:=h
 have hp:8*a-hv=p:=by omega
 have em:(hv:Int).tmod 8=((hv%8:Nat):Int):=by rw[gM (by omega)];omega
 have hd:((numAt s p hv:Nat):Int).fdiv (2^min (hv%8) 64)=((numAt s (p+hv%8) (hv-hv%8):Nat):Int):=by
  rw[Nat.min_eq_left (by omega),←kD s p (show hv%8≤hv by omega),Int.fdiv_eq_ediv_of_nonneg _ (Int.pow_nonneg (by decide)),Int.natCast_ediv,Int.natCast_pow];rfl
 refine atj em hp hd ?_
 refine hR.le ?_ ⟨8*(hv/8),⟨by omega,h2,by unfold cH;omega⟩,rfl,rfl,rfl,rfl⟩
 rw[show((hv:Int)-((hv%8:Nat):Int))=((8*(hv/8):Nat):Int)by omega,show hv-hv%8=8*(hv/8)by omega]
 simp(disch:=omega)only[go_sem,simprocAttr,aZ,show 8*a-8*(hv/8)=p+hv%8 by omega]
theorem s5 (s:Bs) (a hv fr p:Nat) (n:Nat) (hs:s.length≤1000000000000) (hn:n≤1000000000000) (h:bO s a hv p):Eng.Spec Tryz.prog 185 [(RD,.var (aZ s a hv fr))] [.ab RD 0,.int .i64 n]
    (fun h' v ar=>∃a' hv',bO s a' hv' (if n≤s.length-cH p/8 then cH p+8*n else cH p)∧(n≤s.length-cH p/8→hv'=0)∧h'=[(RD,.var (aZ s a' hv' fr))] ∧
     v=.aj [.str (if n≤s.length-cH p/8 then(s.drop (cH p/8)).take n else[]),.bool (decide (n≤s.length-cH p/8))]∧ar=[.ab RD 0,.int .i64 n]):=by
 refine Cod.akH (fun E R hN hR=>?_)
 refine wW ?_
 refine aJ [(RD,.var (aZ s a hv fr))] (akk s a hv fr p hs h) vV nofun ?_
 rintro h' v ar ⟨hv',⟨h1,h2,h3⟩,rfl,rfl,rfl,rfl⟩
 refine⟨cn,rfl,?_⟩
 have hub:cH p/8=a-hv/8:=by rw[Cf h.h3];omega
 have hle:=h.h3
 have eq:(((8*(hv/8):Nat):Int)).tdiv 8=((hv/8:Nat):Int):=by rw[jT (by omega)];omega
 have ef:((a:Int)-((hv/8:Nat):Int))=((a-hv/8:Nat):Int):=by omega
 rw[hub]at hR
 generalize hf:a-hv/8=f at *
 have hfl:f≤s.length:=by omega
 by_cases hyes:n≤s.length-f
 ·have e1:((f:Int)+(n:Int)-(f:Int)).toNat=n:=by omega
  have e2:f+n-f=n:=by omega
  refine tN eq ef ?_
  refine gG ?_
  refine aw e2 ?_
  exact hR.le (by simp(disch:=omega)only[go_sem,simprocAttr,aZ,numAt]) ⟨f+n,0,by rw[if_pos hyes];exact⟨by omega,by omega,by rw[Cf h.h3,hf];omega⟩,fun _=>rfl,rfl,by rw[if_pos hyes,decide_eq_true hyes],rfl⟩
 ·refine tN eq ef ?_
  refine gG ?_
  exact hR.le cn ⟨a,8*(hv/8),by rw[if_neg hyes];exact⟨h1,h2,h3⟩,fun hh=>absurd hh hyes,rfl,by rw[if_neg hyes,decide_eq_false hyes],rfl⟩
open Eng
set_option maxRecDepth 10000
def an (xs:List Nat):List AV:=xs.map fun n:Nat=>AV.int .i64 n
theorem bV (xs:List Nat):(an xs).length=xs.length:=by simp[an]
theorem dG {xs:List Nat} {i:Nat} (h:i<xs.length):nth (an xs) i=.int .i64 (xs.getD i 0:Nat):=by
 simp[nth,an,List.getD_eq_getElem?_getD,h]
theorem fe {xs:List Nat}:(an xs).all ba=true:=by simp[an,ba,cellsOf,isCell]
theorem fc {xs:List Nat} {n:Nat}:an xs++[.int .i64 (n:Int)]=an (xs++[n]):=by simp[an]
theorem eO {xs:List Nat} {o n:Nat}:aL (an xs) o n=an ((xs.drop o).take n):=by simp[an,aL]
theorem hU:an []=[]:=(rfl)
def dh (l:List Nat):List AV:=(List.range 16).map fun n=>AV.int .i64 (bj l n:Nat)
theorem iV (l:List Nat):(dh l).length=16:=by simp[dh]
theorem kc (l:List Nat) {n:Nat} (h:n<16):(dh l).getD n .undef=.int .i64 (bj l n:Nat):=by
 unfold dh
 rw[List.getD_eq_getElem?_getD,List.getElem?_map,List.getElem?_range h];rfl
theorem Ig (l:List Nat) {x:Nat} (h:x<16):(dh l).set x (.int .i64 ((bj l x:Int)+1))=dh (l++[x]):=by
 apply List.ext_getElem?
 intro j
 rw[List.getElem?_set,iV]
 unfold dh
 rw[List.getElem?_map,List.getElem?_map]
 by_cases hx:x=j
 ·subst hx
  rw[if_pos rfl,if_pos h,List.getElem?_range h]
  simp only[Option.map_some,iU,if_true]
  rfl
 ·rw[if_neg hx]
  by_cases hj:j<16
  ·rw[List.getElem?_range hj]
   simp only[Option.map_some,iU,if_neg hx,Nat.add_zero]
  ·rw[List.getElem?_eq_none (by simp;omega)];rfl
theorem vz {id:Nat} {l:List Nat}:(dh l).map (killC id)=dh l:=by simp[dh,killC]
theorem Ic {id sz:Nat} {es:List AV} {l:List Nat}:(dh l).map (cm id sz es)=dh l:=by simp[dh,cm]
theorem Ie {l:List Nat}:(dh l).all noRefC=true:=by simp[dh,noRefC]
theorem la (l:List Nat) (n:Nat):bj l n≤l.length:=List.countP_le_length
theorem sR (l:List Nat):∀n,bz l n≤l.length*n
 | 0=>by simp[bz]
 | 1=>by simp[bz]
 | n+2=>by
  have:=sR l (n+1)
  have:=la l (n+1)
  simp only[bz]
  rw[show n+2=(n+1)+1 by omega,Nat.mul_succ l.length (n+1)]
  omega
def jm (l:List Nat) (n k:Nat):List Nat:=(List.range k).filter fun s=>l.getD s 0==n
theorem arC (l:List Nat) (n k:Nat):(jm l n k).length≤k:=by
 have:=List.length_filter_le (fun s=>l.getD s 0==n) (List.range k)
 simpa[jm]using this
theorem arD (l:List Nat) (n k:Nat):jm l n (k+1)=jm l n k++if l.getD k 0=n then[k]else[]:=by
 unfold jm
 rw[List.range_succ,List.filter_append]
 congr 1
 by_cases h:l.getD k 0=n<;>simp[-List.getD_eq_getElem?_getD,h]
theorem arB (l:List Nat) (n:Nat):jm l n l.length=qm l n:=(rfl)
theorem sx {a b:AV} {xs:List AV} {i:Nat} (h:i<xs.length):((a::(xs++[b])).drop (1+i)).getD 0 .undef=xs.getD i .undef:=by
 rw[Nat.add_comm,List.drop_succ_cons,List.getD_eq_getElem?_getD,List.getElem?_drop,Nat.add_zero,List.getElem?_append_left h,List.getD_eq_getElem?_getD]
theorem yz {a b:AV} {xs:List AV} {i:Nat} (h:i<xs.length):0<((a::(xs++[b])).drop (1+i)).length:=by simp;omega
theorem ZO {a b v:AV} {xs:List AV} {i:Nat} (h:i<xs.length):dm (a::(xs++[b])) (1+i) [v]=a::(xs.set i v++[b]):=by
 unfold dm
 rw[Nat.add_comm 1 i,List.take_succ_cons,show i+1+[v].length=(i+1)+1 by simp,List.drop_succ_cons,List.take_append_of_le_length (by omega),List.drop_append_of_le_length (by omega),List.set_eq_take_append_cons_drop,if_pos h]
 simp
theorem Kb {a b v:AV} {xs:List AV} (h:xs.length=16):dm (a::(xs++[b])) 17 [v]=a::(xs++[v]):=by
 unfold dm
 rw[List.take_succ_cons,show 17+[v].length=17+1 by rfl,List.drop_succ_cons,List.take_left' h,List.drop_append]
 simp[h]
theorem Kc {a b v:AV} {xs:List AV} (h:xs.length=16):(a::(xs++[b])).set 17 v=a::(xs++[v]):=by
 rw[List.set_cons_succ,List.set_append_right _ _ (by omega),h];rfl
theorem Ka {a b:AV} {xs:List AV} (h:xs.length=16):(a::(xs++[b]))[17]?=some b:=by
 rw[List.getElem?_cons_succ,List.getElem?_append_right (by omega),h];rfl
theorem wg {a b:AV} {xs:List AV} (h:xs.length=16):(a::(xs++[b])).drop 17=[b]:=by
 rw[List.drop_succ_cons,List.drop_left' h]
def dZ (l:List Nat):List AV:=.ro 1 (an l)::(dh l++[.ro 1 (an (sortL l 15))])
def bn (l:List Nat):AV:=.au (.agg (dZ l))
def fT (l:List Nat) (m:Nat):Int:=if m=0 then 1 else(2^m:Nat)-((fstL l m+bj l m:Nat):Int)
theorem amf (l:List Nat) (m:Nat):fT l (m+1)=2*fT l m-(bj l (m+1):Int):=by
 unfold fT
 cases m with
 | zero=>simp[fstL]
 | succ m=>
  rw[if_neg (by omega),if_neg (by omega)]
  simp only[fstL]
  rw[Nat.pow_succ 2 (m+1)]
  omega
theorem room_le (l:List Nat) {m:Nat} (h:m≤15):fT l m≤32768:=by
 unfold fT
 have:(2:Nat)^m≤2^15:=Nat.pow_le_pow_right (by decide) h
 split<;>omega
theorem ame (l:List Nat) {m:Nat} (h1:1≤m) (h2:m≤15) (h:fT l m<0):32768<b6 l:=by
 refine Nat.lt_of_not_le fun hc=>?_
 have:=pr hc h1 h2
 unfold fT at h
 rw[if_neg (by omega)]at h
 omega
theorem room_end (l:List Nat):fT l 15=32768-(b6 l:Int):=by
 unfold fT b6
 rw[if_neg (by omega)]
 rfl
theorem pg (l:List Nat) (hl:∀n∈l,n≤15) (hn:l.length≤320):Eng.Spec Tryz.prog 176 [] [.ro 1 (an l)] (fun h r _=>h=[]∧r=if bm l then .aj [bn l,.int .i64 0]else .aj [.lit (.pointer none),.int .i64 4]):=by
 refine Cod.Ow (fun E R hN hR=>?_)
 have hnl:=bV l
 refine bH @bV @fe ?_
 refine gG ?_
 refine a7 hN (fun k:Nat=>⟨[(0,.ro 1 (an l)),(4,.ab 49018 0),(19,.ro 1 (an l)),(20,.int .i64 l.length),(21,.int .i64 k)],[(49018,.var (.sl 49016 0 l.length::(dh (l.take k)++[.al]))),(49016,.arr 1 (an l))]⟩) (fun k=>k≤l.length) (fun k=>l.length-k) 0 (.le (by simp(disch:=first | omega | (simp only[Lx];omega))only[go_sem,simprocAttr,bV];rfl)) (by omega) ?_
 rintro k R1 hk hR1
 have hcl:=iV (l.take k)
 by_cases hlt:k<l.length
 ·have hx:=gF hl k
  have htk:=dU l 0 hlt
  have hcs:=Ig (l.take k) (x:=l.getD k 0) (by omega)
  have hcb:=la (l.take k) (l.getD k 0)
  rw[List.length_take]at hcb
  rw[←htk]at hcs
  generalize hc:l.getD k 0=x at *
  simp(disch:=first | omega | (simp only[Lx];omega))only[go_sem,simprocAttr,bV,dG,hc,sx,yz,kc,ZO,Nat.mul_one]
  refine gG ?_
  rw[hcs]
  exact hR1 (k+1) _ (by omega) (by omega) (.le vV)
 ·obtain rfl:k=l.length:=by omega
  refine aw @bV ?_
  have hcl:=iV l
  refine a7 hN (fun m:Nat=>⟨[(0,.ro 1 (an l)),(4,.ab 49018 0),(7,.int .i64 (fT l m)),(8,.int .i64 (bz l (m+1):Nat)),(9,.int .i64 ((m:Int)+1))],
   [(49018,.var (.sl 49016 0 l.length::(dh l++[.sl 49082 0 (sortL l m).length]))),(49016,.arr 1 (an l)),(49082,.arr 1 (an (sortL l m)))]⟩) (fun m=>m≤15∧0≤fT l m) (fun m=>15-m) 0
   (.jI 49018 17 49082 1 (.sl 49016 0 l.length::(dh l++[.al])) rfl (Ka hcl) rfl (.le (by simp(disch:=first | omega | (simp only[Lx];omega))only[go_sem,simprocAttr,List.map_append,vz,Kc,sortL,hU,fT,bz]))) ⟨by omega,by show(0:Int)≤1;decide⟩ ?_
  rintro m R2 ⟨hm,hr⟩ hR2
  by_cases hlt:m<15
  ·have hst:=amf l m
   have hrl:=room_le l hm
   have hcb:=la l (m+1)
   have hpb:=sR l (m+1)
   have hpb2:l.length*(m+1)≤320*16:=Nat.mul_le_mul hn (by omega)
   have hsl:=jQ l m
   refine cO @bV @sx @yz @kc @Nat.mul_one ?_
   rw[←hst]
   refine r4 (fun hneg=>?_) (fun hneg=>?_)
   ·have hbad:=ame l (by omega) (by omega) hneg
    have hck:bm l=false:=by unfold bm;rw[decide_eq_false (by omega)];rfl
    refine aw hck ?_
    exact hR.ro ⟨rfl,by rw[hck];rfl⟩
   ·refine aw @bV ?_
    refine a7 hN (fun k:Nat=>⟨[(0,.ro 1 (an l)),(4,.ab 49018 0),(7,.int .i64 (fT l (m+1))),(8,.int .i64 (bz l (m+2):Nat)),(9,.int .i64 ((m:Int)+1)),(65,.ro 1 (an l)),(66,.int .i64 l.length),(67,.int .i64 k)],
     [(49018,.var (.sl 49016 0 l.length::(dh l++[.sl 49082 0 (sortL l m++jm l (m+1) k).length]))),(49016,.arr 1 (an l)),(49082,.arr 1 (an (sortL l m++jm l (m+1) k)))]⟩) (fun k=>k≤l.length) (fun k=>l.length-k) 0
     (.le (by simp(disch:=first | omega | (simp only[Lx];omega))only[go_sem,simprocAttr,jm,List.range_zero,List.filter_nil,List.append_nil,bz])) (by omega) ?_
    rintro k R3 hk hR3
    by_cases hlt3:k<l.length
    ·have htl:=arC l (m+1) k
     have hsu:=arD l (m+1) k
     by_cases hx:l.getD k 0=m+1
     ·rw[if_pos hx]at hsu
      simp(disch:=first | omega | (simp only[Lx];omega))only[go_sem,simprocAttr,bV,dG,hx,wg,fe,eO,List.map_append,vz,Kb]
      refine hR3 (k+1) _ (by omega) (by omega) (.le ?_)
      rw[hsu,←List.append_assoc,←fc]
      exact fv @bV
     ·rw[if_neg hx,List.append_nil]at hsu
      refine cO @bV @dG @wg @fe @eO ?_
      exact hR3 (k+1) _ (by omega) (by omega) (.le (by rw[hsu];exact vV))
    ·obtain rfl:k=l.length:=by omega
     refine aw @bV ?_
     refine hR2 (m+1) _ (by omega) ⟨by omega,by omega⟩ (.le ?_)
     rw[arB]
     simp(disch:=first | omega | (simp only[Lx];omega))only[go_sem,simprocAttr,sortL]
  ·obtain rfl:m=15:=by omega
   have hre:=room_end l
   have hpn:=pV l hl
   have hsl:=jQ l 15
   have yes:bm l=true→R [(49018,.var (.sl 49016 0 l.length::(dh l++[.sl 49082 0 (sortL l 15).length]))),(49016,.arr 1 (an l)),(49082,.arr 1 (an (sortL l 15)))] (.aj [.ab 49018 0,.int .i64 0]) [.undef]:=by
    intro hck
    rw[hck]at hR
    refine hR.wk (h':=[]) (r':=.aj [bn l,.int .i64 0]) (ar':=[.undef]) rfl (.bK 49016 (.bK 49082 (.oV 0 0 49018 [.ab 49018 0,.int .i64 0] (dZ l) vV (by rfl) ?_ ?_ (.le ?_)))) ⟨rfl,by rfl⟩
    ·simp(disch:=first | omega | (simp only[Lx];omega))only[go_sem,simprocAttr,List.map_append,Ic,eO,bV,fu,dZ]
    ·simp[dZ,noRefC,Ie]
    ·simp(disch:=first | omega | (simp only[Lx];omega))only[go_sem,simprocAttr,bn]
   have no:bm l=false→∀h,R h (.aj [.lit (.pointer none),.int .i64 4]) [.undef]:=by
    intro hck h
    rw[hck]at hR
    exact hR.ro ⟨rfl,rfl⟩
   have hp16:bz l (15+1)=cg l:=hpn
   have hone:∀x,((dh l++[x]).drop 1).getD 0 .undef=.int .i64 (bj l 1:Nat):=fun x=>by
    have:=sx (a:=.undef) (b:=x) (xs:=dh l) (i:=1) (by omega)
    rw[kc l (by omega)]at this
    exact this
   have honl:∀x,0<((dh l++[x]).drop 1).length:=fun x=>by simp;omega
   by_cases ha:0<fT l 15
   ·by_cases hb:cg l=0
    ·have hck:bm l=true:=by unfold bm;rw[decide_eq_true (show b6 l≤32768 by omega),decide_eq_true hb];simp
     refine bH hp16 hb ?_
     refine gG ?_
     exact yes hck
    ·by_cases hc:cg l=1
     ·by_cases hd:bj l 1=1
      ·have hck:bm l=true:=by unfold bm;rw[decide_eq_true (show b6 l≤32768 by omega),decide_eq_true hc,decide_eq_true hd];simp
       refine cO hp16 hc hone honl hd ?_
       refine fM hone honl hd ?_
       exact yes hck
      ·have hck:bm l=false:=by unfold bm;rw[decide_eq_false (show ¬b6 l=32768 by omega),decide_eq_false hb,decide_eq_false hd];simp
       refine ea hp16 hc hone honl ?_
       refine dY hone honl ?_
       exact no hck _
     ·have hck:bm l=false:=by unfold bm;rw[decide_eq_false (show ¬b6 l=32768 by omega),decide_eq_false hb,decide_eq_false hc];simp
      refine aw hp16 ?_
      refine gG ?_
      exact no hck _
   ·have hck:bm l=true:=by unfold bm;rw[decide_eq_true (show b6 l≤32768 by omega),decide_eq_true (show b6 l=32768 by omega)];simp
    refine aw hp16 ?_
    refine gG ?_
    exact yes hck
theorem akX {l:List Nat} (h:cg l=0) (b:List Bool):readL (aO l) b=(0,0,3):=by
 have h0:∀s,s<l.length→l.getD s 0=0:=by
  intro s hs
  refine Nat.eq_zero_of_not_pos fun hp=>?_
  unfold cg at h
  have:=List.countP_eq_zero.1 h (l.getD s 0) (by rw[List.getD_eq_getElem?_getD,List.getElem?_eq_getElem hs];exact List.getElem_mem hs)
  simp[-List.getD_eq_getElem?_getD]at this
  omega
 unfold readL
 rw[rG (fun s hs=>rV (h0 s hs))]
 simp only
 rw[if_pos]
 rw[List.all_eq_true]
 intro c hc
 obtain⟨s,hs,rfl⟩:=List.mem_map.1 hc
 unfold aX
 rw[if_pos (h0 s (List.mem_range.1 hs))];rfl
theorem or_bit {c b:Nat} (hc:c<32768) (hb:b≤1):bits .or .i64 (IntKind.i64.wrap ((c:Int)*2^min 1 64)) (b:Int)=((2*c+b:Nat):Int):=by
 rw[show((c:Int)*2^min 1 64)=((c*2:Nat):Int)by push_cast;rfl,jt (by omega)]
 show IntKind.i64.wrap ((BitVec.ofInt 64 ((c*2:Nat):Int) ||| BitVec.ofInt 64 (b:Int)).toNat:Int)=_
 rw[BitVec.ofInt_natCast,BitVec.ofInt_natCast,BitVec.toNat_or,BitVec.toNat_ofNat,BitVec.toNat_ofNat,Nat.mod_eq_of_lt (by omega),Nat.mod_eq_of_lt (by omega)]
 have h1:c*2 ||| b=2*c+b:=by
  have:=Nat.shiftLeft_add_eq_or_of_lt (b:=b) (i:=1) (by omega) c
  rw[Nat.shiftLeft_eq]at this
  rw[show c*2=c*2^1 by rfl,←this]
  omega
 rw[h1]
 exact jt (by omega)
theorem qo (l:List Nat):((dZ l).drop 1).take 16=dh l:=by
 unfold dZ
 rw[List.drop_succ_cons,List.drop_zero,List.take_left' (iV l)]
theorem BZ (l:List Nat):(dZ l).getD 17 .undef=.ro 1 (an (sortL l 15)):=by
 unfold dZ
 rw[List.getD_cons_succ,List.getD_eq_getElem?_getD,List.getElem?_append_right (by rw[iV];omega),iV];rfl
theorem BX (l:List Nat):(dZ l).length=18:=by simp[dZ,iV]
set_option maxHeartbeats 1000000 in
theorem rW (l:List Nat) (hl:∀n∈l,n≤15) (hll:l.length≤320) (hck:bm l=true) (s:Bs) (a hv fr p:Nat) (hs:s.length≤1000000000000) (h:bO s a hv p):Eng.Spec Tryz.prog 164 [(RD,.var (aZ s a hv fr))] [bn l,.ab RD 0]
    (fun h' v ar=>∃a' hv' p' k,bO s a' hv' p'∧h'=[(RD,.var (aZ s a' hv' fr))]∧v=.aj [.int .i64 (k:Nat),.int .i64 ((readL (aO l) (aR s p)).2.2:Nat)] ∧
     ((readL (aO l) (aR s p)).2.2=0→k=(readL (aO l) (aR s p)).1∧p'=p+(readL (aO l) (aR s p)).2.1)∧ar=[bn l,.ab RD 0]):=by
 have hc:b6 l≤32768:=by unfold bm at hck;simp at hck;exact hck.1
 refine Cod.O1 (fun E R hN hR=>?_)
 have hsl:=jQ l 15
 have hpn:=pV l hl
 have hp16:bz l (15+1)=cg l:=hpn
 have htl:=BX l
 have hnum:cg l≤l.length:=List.countP_le_length
 have hts:=BZ l
 have hnl:=bV (sortL l 15)
 have hso:∃so,sortL l 15=so:=⟨_,rfl⟩
 obtain⟨so,hso⟩:=hso
 rw[hso]at hsl hts hnl
 by_cases h0:cg l=0
 ·have hr:=akX h0 (aR s p)
  rw[hr]at hR
  simp(disch:=omega)only[go_sem,simprocAttr,bn,htl,hts,hnl,hsl,hp16,h0]
  exact hR.le vV ⟨a,hv,p,0,h,rfl,rfl,fun e=>by simp at e,rfl⟩
 ·simp(disch:=omega)only[go_sem,simprocAttr,bn,htl,hts,hnl,hsl,hp16,h0]
  have hbl:=fS s p
  generalize hb:aR s p=b at *
  refine a7 hN (fun q:Nat×Nat×Nat=>⟨[(0,.au (.agg (dZ l))),(1,.ab 40014 0),(6,.int .i64 (msb (b.take q.1):Nat)),(7,.int .i64 (fstL l (q.1+1):Nat)),(8,.int .i64 (bz l (q.1+1):Nat)),(9,.int .i64 ((q.1:Int)+1)),
   (2000000,.au (.agg (dZ l))),(2000001,.ab 40014 0)],[(40014,.var (aZ s q.2.1 q.2.2 fr))]⟩)
   (fun q=>q.1<15∧bO s q.2.1 q.2.2 (p+q.1)∧q.1≤dj s p∧kX l b (q.1+1)∧fstL l (q.1+1)≤2*msb (b.take q.1)∧bz l (q.1+1)<cg l) (fun q=>15-q.1) (0,a,hv)
   (.le (by simp(disch:=omega)only[go_sem,simprocAttr,msb,List.foldl_nil,fstL,bz])) ⟨by omega,h,by omega,fun s _ h1 h2=>by omega,by simp[fstL],by simp only[bz];omega⟩ ?_
  rintro⟨n,a,hv⟩ R1 ⟨hn,hrd,hlb,hno,hj,hpre⟩ hR1
  simp only at hn hrd hlb hno hj hpre
  have hmt:=yD (b.take n)
  have hmt2:2^(b.take n).length≤2^15:=Nat.pow_le_pow_right (by decide) (by rw[List.length_take];omega)
  have hkr:=pr hc (n:=n+1) (by omega) (by omega)
  have hk2:2^(n+1)≤2^15:=Nat.pow_le_pow_right (by decide) (by omega)
  simp(disch:=omega)only[go_sem,simprocAttr,bn]
  refine aJ [(RD,.var (aZ s a hv fr))] (pX s a hv fr (p+n) 1 hs hrd (by omega)) vV nofun ?_
  rintro h' v ar ⟨a',hv',hrd',rfl,rfl,rfl⟩
  refine⟨cn,rfl,?_⟩
  unfold dj at hlb
  by_cases hbit:1≤dj s (p+n)
  ·rw[if_pos hbit]at hrd'
   have hbit2:=hbit
   unfold dj at hbit2
   have hbn:n<b.length:=by omega
   have hget:b.getD n false=eU s (p+n):=by rw[←hb];exact AB s p (by omega)
   have hms:=sA b n hbn
   rw[hget,←aaC]at hms
   have hx1:=fE s (p+n) 1
   have hle:=Zu hbn hj
   have hob:=or_bit (c:=msb (b.take n)) (b:=numAt s (p+n) 1) (by omega) (by omega)
   rw[←hms]at hob
   have hcl:=iV l
   have hpb:=sR l (n+1)
   have hpm:=lQ l (n+2) (16-(n+2))
   rw[show n+2+(16-(n+2))=16 by omega,hpn]at hpm
   have hps:bz l (n+2)=bz l (n+1)+bj l (n+1):=rfl
   have hfs:fstL l (n+2)=2*(fstL l (n+1)+bj l (n+1)):=rfl
   refine qw hbit hob @qo htl hcl @kc ?_
   refine r4 (fun hk=>?_) (fun hk=>?_)
   ·obtain⟨k,hke⟩:∃k,msb (b.take (n+1))=fstL l (n+1)+k:=⟨msb (b.take (n+1))-fstL l (n+1),by omega⟩
    obtain⟨sy,g1,g2,g3⟩:=Zx hc hl hn hbn hno hj hke (by omega)
    rw[hso]at g1
    rw[g3]at hR
    have ei:((bz l (n+1):Nat):Int)+(((msb (b.take (n+1)):Nat):Int)-((fstL l (n+1):Nat):Int))=((bz l (n+1)+k:Nat):Int):=by omega
    simp(disch:=omega)only[go_sem,simprocAttr,hts,htl,hnl,hsl,hp16,ei,dG,g1]
    exact hR.le (by simp(disch:=omega)only[go_sem,simprocAttr,bn]) ⟨a',hv',p+n+1,sy,hrd',rfl,rfl,fun _=>⟨rfl,by show _=p+(n+1);omega⟩,rfl⟩
   ·obtain⟨g1,g2⟩:=Zv hc hl hn hbn hno (by omega)
    have hw2:(((fstL l (n+1):Nat):Int)+((bj l (n+1):Nat):Int))*2^min 1 64=((fstL l (n+2):Nat):Int):=by
     rw[hfs,show(2:Int)^min 1 64=2 by decide];push_cast;omega
    have ha2:((bz l (n+1):Nat):Int)+((bj l (n+1):Nat):Int)=((bz l (n+2):Nat):Int):=by rw[hps];push_cast;rfl
    by_cases hend:bz l (n+2)=cg l
    ·have hr:=Zw (b:=b) hl (n:=n+1) (by omega) (by omega) hend (by omega) g1
     rw[hr]at hR
     simp(disch:=omega)only[go_sem,simprocAttr,qo,hts,htl,hcl,kc,hw2,ha2,hnl,hsl,hp16,hend]
     exact hR.le (by simp(disch:=omega)only[go_sem,simprocAttr,bn]) ⟨a',hv',p+n+1,0,hrd',rfl,rfl,fun e=>by simp at e,rfl⟩
    ·have hne:¬((bz l (n+2):Nat):Int)=((cg l:Nat):Int):=by omega
     have hn15:n+1<15:=by
      refine Nat.lt_of_not_le fun hh=>?_
      have:n=14:=by omega
      subst this
      exact hend hpn
     simp(disch:=omega)only[go_sem,simprocAttr,qo,hts,htl,hcl,kc,hw2,ha2,hnl,hsl,hp16,hne]
     exact hR1 (n+1,a',hv') _ (by simp only;omega) ⟨hn15,hrd',by simp only[dj];omega,g1,g2,by show bz l (n+2)<_;omega⟩ (.le vV)
  ·have hbn:b.length=n:=by unfold dj at hbit;omega
   rw[if_neg hbit]at hrd'
   have hr:=Zt (b:=b) hl hck (by omega) (by rw[hbn];exact hpre) (by rw[hbn];exact hno) (by rw[List.take_of_length_le (by omega)]at hj;rw[hbn];exact hj)
   rw[hr]at hR
   refine aw hbit ?_
   exact hR.le vV ⟨a',hv',p+n,0,hrd',rfl,rfl,fun e=>by simp at e,rfl⟩
def b7 (xs:List Bool):List AV:=xs.map AV.bool
theorem ix (xs:List Bool):(b7 xs).length=xs.length:=by simp[b7]
theorem sG {xs:List Bool} {i:Nat} (h:i<xs.length):nth (b7 xs) i=.bool (xs.getD i false):=by
 simp[nth,b7,List.getD_eq_getElem?_getD,h]
theorem uY {xs:List Bool}:(b7 xs).all ba=true:=by simp[b7,ba,cellsOf,isCell]
theorem Gr {xs:List Bool} {c:Bool}:b7 xs++[.bool c]=b7 (xs++[c]):=by simp[b7]
theorem Gs {xs:List Bool} {c:Bool}:.bool c::b7 xs=b7 (c::xs):=by simp[b7]
theorem j7 {xs:List Bool} {o n:Nat}:aL (b7 xs) o n=b7 ((xs.drop o).take n):=by simp[b7,aL]
theorem uZ:b7 []=[]:=(rfl)
def gR (s:Bs) (n:Nat):List Bool:=(List.range n).map (eU s)
theorem Fv (s:Bs) (n:Nat):(gR s n).length=n:=by simp[gR]
theorem Fx (s:Bs) (n:Nat):gR s (n+1)=gR s n++[eU s n]:=by simp[gR,List.range_succ]
theorem Fw (s:Bs):gR s (8*s.length)=aR s 0:=by simp[gR,aR]
theorem Ft (c:UInt8) (k:Nat) (hk:k<8):decide (bits .and .u8 ((c.toNat:Int).fdiv (2^min k 64)) 1=1)=c.toNat.testBit k:=by
 have hc:=c.toNat_lt
 have e1:(c.toNat:Int).fdiv (2^min k 64)=((c.toNat/2^k:Nat):Int):=by
  rw[Nat.min_eq_left (by omega),Int.fdiv_eq_ediv_of_nonneg _ (Int.pow_nonneg (by decide)),Int.natCast_ediv,Int.natCast_pow];rfl
 have hd:c.toNat/2^k<256:=Nat.lt_of_le_of_lt (Nat.div_le_self _ _) (by omega)
 have e2:bits .and .u8 ((c.toNat/2^k:Nat):Int) 1=((c.toNat/2^k%2:Nat):Int):=by
  show IntKind.u8.wrap ((BitVec.ofInt 8 ((c.toNat/2^k:Nat):Int) &&& BitVec.ofInt 8 1).toNat:Int)=_
  rw[BitVec.ofInt_natCast,BitVec.toNat_and,BitVec.toNat_ofNat,Nat.mod_eq_of_lt (by omega),show(BitVec.ofInt 8 1).toNat=2^1-1 by decide,Nat.and_two_pow_sub_one_eq_mod]
  exact wrap_u8 (by omega)
 rw[e1,e2,Nat.testBit_eq_decide_div_mod_eq]
 exact decide_eq_decide.2 (by omega)
theorem Fu (c:UInt8) (k:Nat) (hk:k<8):(decide (bits .and .u8 ((c.toNat:Int).fdiv (2^min k 8)) 1=1))=c.toNat.testBit k:=by
 have:=Ft c k hk
 rw[Nat.min_eq_left (by omega)]at this ⊢
 exact this
theorem acM (s:Bs) (hs:s.length≤1000000):aP Tryz.prog 92 [.str s] (.ro 1 (b7 (aR s 0))):=by
 refine Cod.acN (fun E R hN hR=>?_)
 refine wW ?_
 refine a7 hN (fun k:Nat=>⟨[(0,.str s),(3,.sl 51006 0 (8*k)),(4,.int .i64 k)],[(51006,.arr 1 (b7 (gR s (8*k))))]⟩) (fun k=>k≤s.length) (fun k=>s.length-k) 0 (.le (by simp(disch:=omega)only[go_sem,simprocAttr,gR,List.range_zero,uZ])) (by omega) ?_
 rintro k R1 hk hR1
 by_cases hlt:k<s.length
 ·refine wW ?_
  refine a7 hN (fun j:Nat=>⟨[(0,.str s),(3,.sl 51006 0 (8*k+j)),(4,.int .i64 k),(5,.int .i64 j)],[(51006,.arr 1 (b7 (gR s (8*k+j))))]⟩) (fun j=>j≤8) (fun j=>8-j) 0 (.le vV) (by omega) ?_
  rintro j R2 hj hR2
  have hbl:=Fv s (8*k+j)
  have hbl2:=ix (gR s (8*k+j))
  by_cases hj8:j<8
  ·have hb:=Fu (s.getD k 0) j hj8
   have hbt:eU s (8*k+j)=(s.getD k 0).toNat.testBit j:=by unfold eU;rw[show(8*k+j)/8=k by omega,show(8*k+j)%8=j by omega]
   rw[←hbt]at hb
   refine cO @j7 @uY @fu hb @Gr ?_
   refine hR2 (j+1) _ (by omega) (by omega) (.le ?_)
   rw[show 8*k+(j+1)=8*k+j+1 by omega,Fx]
   exact vV
  ·obtain rfl:j=8:=by omega
   refine wW ?_
   exact hR1 (k+1) _ (by omega) (by omega) (.le (by rw[show 8*(k+1)=8*k+8 by omega];exact vV))
 ·obtain rfl:k=s.length:=by omega
  have ht:(aR s 0).take (8*s.length)=aR s 0:=List.take_of_length_le (by rw[fS];omega)
  refine wW ?_
  exact hR.wk (h':=[]) (r':=.ro 1 (b7 (aR s 0))) (ar':=[.undef]) rfl (.bK 51006 (.le (tD @j7 @Fw ht))) ⟨rfl,rfl⟩
def bB (b:List Bool):Nat:=b.foldr (fun c a=>2*a+c.toNat) 0
theorem kC (b:List Bool):bB b<2^b.length:=by
 induction b with
 | nil=>simp[bB]
 | cons c b ih=>
  have h1:bB (c::b)=2*bB b+c.toNat:=rfl
  have:c.toNat≤1:=by cases c<;>decide
  rw[h1,List.length_cons,Nat.pow_succ];omega
theorem yQ (b:List Bool) (c:Bool):bB (b++[c])=bB b+if c then 2^b.length else 0:=by
 induction b with
 | nil=>cases c<;>rfl
 | cons d b ih=>
  have h1:∀b,bB (d::b)=2*bB b+d.toNat:=fun _=>rfl
  rw[List.cons_append,h1,h1,ih,List.length_cons,Nat.pow_succ]
  split<;>omega
theorem pM (s:Bs) (p:Nat):∀n,p+n≤8*s.length→bB ((aR s p).take n)=numAt s p n
 | 0,_=>rfl
 | n+1,h=>by
  have hl:=fS s p
  rw[dU (aR s p) false (by omega),yQ,pM s p n (by omega),AB s p (by omega),List.length_take,hl,Nat.min_eq_left (by omega)]
  rfl
theorem ac2 (b:List Bool) (hb:b.length≤31):aP Tryz.prog 143 [.ro 1 (b7 b)] (.int .u32 (bB b:Nat)):=by
 refine Cod.ac3 (fun E R hN hR=>?_)
 have hbl:=ix b
 refine aw hbl ?_
 refine a7 hN (fun k:Nat=>⟨[(0,.ro 1 (b7 b)),(3,.int .u32 (bB (b.drop k):Nat)),(4,.int .i64 ((k:Int)-1))],[]⟩) (fun k=>k≤b.length) (fun k=>k) b.length (.le (by simp(disch:=omega)only[go_sem,simprocAttr,vY,bB,List.foldr_nil])) (by omega) ?_
 rintro k R1 hk hR1
 cases k with
 | zero=>
  refine wW ?_
  exact hR.ro ⟨rfl,rfl⟩
 | succ k=>
  have hx:=kC (b.drop (k+1))
  have hx2:2^(b.drop (k+1)).length≤2^30:=Nat.pow_le_pow_right (by decide) (by rw[List.length_drop];omega)
  have hd:bB (b.drop k)=2*bB (b.drop (k+1))+(b.getD k false).toNat:=by rw[Ju false b (by omega)];rfl
  have ek:(k:Int)+1-1=(k:Int):=by omega
  refine cL ek @sG hbl ?_
  cases hc:b.getD k false with
  | false=>
   rw[hc]at hd
   refine wW ?_
   exact hR1 k _ (by omega) (by omega) (.le (by rw[hd];simp(disch:=omega)only[go_sem,simprocAttr];push_cast;rfl))
  | true=>
   rw[hc]at hd
   refine wW ?_
   exact hR1 k _ (by omega) (by omega) (.le (by rw[hd];simp(disch:=omega)only[go_sem,simprocAttr];push_cast;rfl))
theorem abx (i:Nat) (h:i<15):(((32768/2^i:Nat):Int)).tdiv 2=((32768/2^(i+1):Nat):Int):=by
 rw[Nat.pow_succ,←Nat.div_div_eq_div_mul]
 generalize 32768/2^i=q
 rw[jT (by omega)];omega
theorem abw (n:Nat) (h:n≤15):32768/2^n=2^(15-n):=by
 have h1:32768=2^(15-n)*2^n:=by rw[←Nat.pow_add,show 15-n+n=15 by omega]
 rw[h1,Nat.mul_div_cancel _ (Nat.pow_pos (by decide))]
theorem aaD (l:List Nat) (x:Nat):cg (l++[x])=cg l+if 0<x then 1 else 0:=by
 simp only[cg,List.countP_append,List.countP_singleton,decide_eq_true_eq]
theorem arL (l:List Nat):b6 l≤32768*l.length:=by
 refine tt (p:=fun l=>b6 l≤32768*l.length) (by simp[b6,fstL,bj]) (fun l x h=>?_) l
 rw[B3,List.length_append,List.length_singleton]
 have:(2:Nat)^(15-x)≤2^15:=Nat.pow_le_pow_right (by decide) (by omega)
 split<;>omega
set_option maxHeartbeats 1000000 in
theorem sS (l:List Nat) (hl:∀n∈l,n≤15) (hn:l.length≤320):aP Tryz.prog 148 [.ro 1 (an l)] (.int .i64 (if bm l then 0 else 4:Nat)):=by
 refine Cod.ad1 (fun E R hN hR=>?_)
 have hnl:=bV l
 refine aw hnl ?_
 refine a7 hN (fun k:Nat=>⟨[(3,.int .i64 (b6 (l.take k):Nat)),(4,.int .i64 (cg (l.take k):Nat)),(5,.int .i64 (bj (l.take k) 1:Nat)),(13,.ro 1 (an l)),(14,.int .i64 l.length),(15,.int .i64 k)],[]⟩) (fun k=>k≤l.length) (fun k=>l.length-k) 0 (.le (by simp(disch:=omega)only[go_sem,simprocAttr,b6,cg,bj,fstL];simp)) (by omega) ?_
 rintro k R1 hk hR1
 have ht:=arL (l.take k)
 have hc1:=la (l.take k) 1
 have hnm:cg (l.take k)≤(l.take k).length:=List.countP_le_length
 rw[List.length_take]at ht hc1 hnm
 have hmin:32768*min k l.length≤32768*320:=Nat.mul_le_mul_left _ (by omega)
 by_cases hlt:k<l.length
 ·have hx:=gF hl k
  have htk:=dU l 0 hlt
  have hts:=B3 (l.take k) (l.getD k 0)
  have hns:=aaD (l.take k) (l.getD k 0)
  have hcs:=iU (l.take k) (l.getD k 0) 1
  rw[←htk]at hts hns hcs
  generalize hc:l.getD k 0=x at *
  have next:(∀t c o:Nat,t=b6 (l.take (k+1))→c=cg (l.take (k+1))→o=bj (l.take (k+1)) 1→∀s,s=[(3,AV.int .i64 (t:Int)),(4,.int .i64 (c:Int)),(5,.int .i64 (o:Int)),(13,.ro 1 (an l)),(14,.int .i64 l.length),(15,.int .i64 ((k:Int)+1))]→R1.ap ⟨s,[]⟩):=by
   rintro t c o rfl rfl rfl s rfl
   exact hR1 (k+1) _ (by omega) (by omega) (.le vV)
  by_cases h0:0<x
  ·rw[if_pos ⟨by omega,hx⟩]at hts
   rw[if_pos h0]at hns
   refine cL hnl @dG hc ?_
   refine gG ?_
   refine a7 hN (fun i:Nat=>⟨[(3,.int .i64 (b6 (l.take k):Nat)),(4,.int .i64 ((cg (l.take k):Nat)+1)),(5,.int .i64 (bj (l.take k) 1:Nat)),(7,.int .i64 x),(8,.int .i64 (32768/2^i:Nat)),(9,.int .i64 i),(13,.ro 1 (an l)),(14,.int .i64 l.length),(15,.int .i64 k)],[]⟩) (fun i=>i≤x) (fun i=>x-i) 0 (.le vV) (by omega) ?_
   rintro i R2 hi hR2
   by_cases hix:i<x
   ·have hp:=abx i (by omega)
    have hpl:32768/2^i≤32768:=Nat.div_le_self _ _
    have hpl2:32768/2^(i+1)≤32768:=Nat.div_le_self _ _
    have hR3:=hR2 (i+1)
    generalize 32768/2^(i+1)=q2 at *
    generalize 32768/2^i=q at *
    refine aw hp ?_
    exact hR3 _ (by omega) (by omega) (.le vV)
   ·obtain rfl:i=x:=by omega
    have hp:=abw i (by omega)
    have hp2:(2:Nat)^(15-i)≤2^15:=Nat.pow_le_pow_right (by decide) (by omega)
    rw[hp]at *
    generalize 2^(15-i)=q at *
    by_cases h1:i=1
    ·rw[if_pos h1]at hcs
     refine aw h1 ?_
     exact next (b6 (l.take k)+q) (cg (l.take k)+1) (bj (l.take k) 1+1) (by omega) (by omega) (by omega) _ vV
    ·rw[if_neg h1]at hcs
     refine wW ?_
     exact next (b6 (l.take k)+q) (cg (l.take k)+1) (bj (l.take k) 1) (by omega) (by omega) (by omega) _ vV
  ·rw[if_neg (by omega)]at hts
   rw[if_neg h0]at hns
   rw[if_neg (by omega)]at hcs
   refine cL hnl @dG hc ?_
   refine gG ?_
   exact next (b6 (l.take k)) (cg (l.take k)) (bj (l.take k) 1) (by omega) (by omega) (by omega) _ rfl
 ·obtain rfl:k=l.length:=by omega
  rw[List.take_of_length_le (Nat.le_refl _)]at ht hc1 hnm ⊢
  have go:∀b:Bool,bm l=b→∀h,R h (.int .i64 (if b then 0 else 4:Nat)) [.undef]:=fun b hb h=>hR.ro ⟨rfl,by rw[hb]⟩
  unfold bm at go
  by_cases h1:b6 l≤32768
  ·rw[decide_eq_true h1]at go
   by_cases h2:b6 l=32768
   ·rw[decide_eq_true h2]at go
    refine aw hnl ?_
    refine gG ?_
    exact go true (by simp) _
   ·rw[decide_eq_false h2]at go
    by_cases h3:cg l=0
    ·rw[decide_eq_true h3]at go
     refine bH hnl h3 ?_
     refine gG ?_
     exact go true (by simp) _
    ·rw[decide_eq_false h3]at go
     by_cases h4:cg l=1
     ·rw[decide_eq_true h4]at go
      by_cases h5:bj l 1=1
      ·rw[decide_eq_true h5]at go
       refine cL hnl h4 h5 ?_
       refine gG ?_
       exact go true (by simp) _
      ·rw[decide_eq_false h5]at go
       refine bH hnl h4 ?_
       refine gG ?_
       exact go false (by simp) _
     ·rw[decide_eq_false h4]at go
      refine aw hnl ?_
      refine gG ?_
      exact go false (by simp) _
  ·rw[decide_eq_false h1]at go
   refine aw hnl ?_
   refine gG ?_
   exact go false (by simp) _
def cA (c:List Bool):AV:=
 match c with
 | []=>.al
 | x::r=>.ro 1 (b7 (x::r))
theorem nY {c:List Bool} (h:0<c.length):cA c=.ro 1 (b7 c):=by
 cases c with
 | nil=>simp at h
 | cons x r=>rfl
def bI (cs:List (List Bool)):List AV:=cs.map cA
theorem ri (cs:List (List Bool)):(bI cs).length=cs.length:=by simp[bI]
theorem lK {cs:List (List Bool)} {i:Nat} (h:i<cs.length):nth (bI cs) i=cA (cs.getD i []):=by
 simp[nth,bI,List.getD_eq_getElem?_getD,h]
theorem G7 (c:List Bool):isCell (cA c)=true:=by cases c<;>rfl
theorem vm (c:List Bool):cellsOf (cA c)=[cA c]:=by cases c<;>rfl
theorem Ih {cs:List (List Bool)}:(bI cs).all ba=true:=by
 simp only[bI,List.all_map,List.all_eq_true,Function.comp,ba]
 intro c _
 rw[vm];simp[G7]
theorem Ii {cs:List (List Bool)} {i:Nat} {c:List Bool}:(bI cs).set i (cA c)=bI (cs.set i c):=by simp[bI,List.map_set]
def dR (l:List Nat) (n k:Nat):List (List Bool):=(List.range l.length).map fun j=>if l.getD j 0≠0∧(l.getD j 0<n∨(l.getD j 0=n∧j<k))then aX l j else[]
theorem pO (l:List Nat) (n k:Nat):(dR l n k).length=l.length:=by simp[dR]
theorem abp (l:List Nat):dR l 1 0=List.replicate l.length []:=by
 unfold dR
 rw[List.map_congr_left (g:=fun _=>[]) (fun j _=>by rw[if_neg];omega),List.map_const',List.length_range]
theorem abm (l:List Nat) (n:Nat):dR l n l.length=dR l (n+1) 0:=by
 unfold dR
 refine List.map_congr_left fun j hj=>?_
 have:=List.mem_range.1 hj
 by_cases h:l.getD j 0≠0∧(l.getD j 0<n∨(l.getD j 0=n∧j<l.length))
 ·rw[if_pos h,if_pos ⟨h.1,by omega⟩]
 ·rw[if_neg h,if_neg (by omega)]
theorem abl (l:List Nat) (hl:∀n∈l,n≤15):dR l 16 0=aO l:=by
 unfold dR aO
 refine List.map_congr_left fun j _=>?_
 have:=gF hl j
 by_cases h:l.getD j 0≠0
 ·rw[if_pos ⟨h,.inl (by omega)⟩]
 ·rw[if_neg (fun g=>h g.1)]
  unfold aX
  rw[if_pos (by omega)]
theorem abo (l:List Nat) (n k:Nat) (h:l.getD k 0≠n):dR l n (k+1)=dR l n k:=by
 unfold dR
 refine List.map_congr_left fun j _=>?_
 by_cases hj:j=k
 ·subst hj
  by_cases h1:l.getD j 0≠0∧l.getD j 0<n
  ·rw[if_pos ⟨h1.1,.inl h1.2⟩,if_pos ⟨h1.1,.inl h1.2⟩]
  ·rw[if_neg (by omega),if_neg (by omega)]
 ·by_cases h1:l.getD j 0≠0∧(l.getD j 0<n∨(l.getD j 0=n∧j<k))
  ·rw[if_pos h1,if_pos ⟨h1.1,by omega⟩]
  ·rw[if_neg h1,if_neg (by omega)]
theorem abn (l:List Nat) (n k:Nat) (hk:k<l.length) (h0:n≠0) (h:l.getD k 0=n):(dR l n k).set k (aX l k)=dR l n (k+1):=by
 apply List.ext_getElem?
 intro j
 rw[List.getElem?_set,pO]
 by_cases hj:k=j
 ·subst hj
  rw[if_pos rfl,if_pos hk]
  unfold dR
  rw[List.getElem?_map,List.getElem?_range hk]
  simp only[Option.map_some]
  rw[if_pos ⟨by omega,.inr ⟨h,by omega⟩⟩]
 ·rw[if_neg hj]
  by_cases hjl:j<l.length
  ·unfold dR
   rw[List.getElem?_map,List.getElem?_map,List.getElem?_range hjl]
   simp only[Option.map_some]
   by_cases h1:l.getD j 0≠0∧(l.getD j 0<n∨(l.getD j 0=n∧j<k))
   ·rw[if_pos h1,if_pos ⟨h1.1,by omega⟩]
   ·rw[if_neg h1,if_neg (by omega)]
  ·rw[List.getElem?_eq_none (by rw[pO];omega),List.getElem?_eq_none (by rw[pO];omega)]
def kg (l:List Nat) (m:Nat):Nat:=if m=0 then 0 else fstL l m+bj l m
theorem J9 (l:List Nat) (m:Nat):2*kg l m=fstL l (m+1):=by
 unfold kg
 cases m with
 | zero=>rfl
 | succ m=>rw[if_neg (by omega)];rfl
theorem uK:∀(i x:Nat),bitsM x (i+1)=(x/2^i%2==1)::bitsM x i
 | 0,x=>by simp[bitsM]
 | i+1,x=>by
  show bitsM (x/2) (i+1)++[x%2==1]=_
  rw[uK i (x/2)]
  have:x/2/2^i=x/2^(i+1):=by rw[Nat.pow_succ,Nat.mul_comm,Nat.div_div_eq_div_mul]
  rw[this];rfl
theorem wS (l:List Nat):∀n,fstL l (n+1)+bj l (n+1)+l.length≤l.length*2^(n+1)
 | 0=>by have:=la l 1;simp[fstL];omega
 | n+1=>by
  have h1:=wS l n
  have h2:=la l (n+2)
  have h3:bj l (n+1+1)=bj l (n+2):=rfl
  simp only[fstL]
  rw[Nat.pow_succ 2 (n+1),←Nat.mul_assoc]
  omega
theorem L7 (l:List Nat) (hn:l.length≤320) {n:Nat} (h1:1≤n) (h:n≤16):fstL l n+bj l n≤20971520:=by
 obtain⟨m,rfl⟩:∃m,n=m+1:=⟨n-1,by omega⟩
 have h2:=wS l m
 have h3:l.length*2^(m+1)≤320*2^16:=Nat.mul_le_mul hn (Nat.pow_le_pow_right (by decide) h)
 omega
set_option maxHeartbeats 1000000 in
theorem sT (l:List Nat) (hl:∀n∈l,n≤15) (hn:l.length≤320):aP Tryz.prog 145 [.ro 1 (an l)] (.ro 1 (bI (aO l))):=by
 refine Cod.aeK (fun E R hN hR=>?_)
 have hnl:=bV l
 refine aw hnl ?_
 refine a7 hN (fun k:Nat=>⟨[(0,.ro 1 (an l)),(3,.sl 55011 0 k),(13,.int .i64 l.length),(14,.int .i64 k)],[(55011,.arr 1 (List.replicate k .al))]⟩) (fun k=>k≤l.length) (fun k=>l.length-k) 0 (.le (by simp(disch:=omega)only[go_sem,simprocAttr,List.replicate_zero])) (by omega) ?_
 rintro k R1 hk hR1
 by_cases hlt:k<l.length
 ·have hrc:(List.replicate k AV.al).all ba=true:=by rw[List.all_replicate];split<;>rfl
  have hrl:(List.replicate k AV.al).length=k:=List.length_replicate
  have hrs:aL (List.replicate k AV.al) 0 k=List.replicate k AV.al:=by simp[aL]
  refine ea hnl hrc hrl hrs ?_
  exact hR1 (k+1) _ (by omega) (by omega) (.le (by rw[List.replicate_succ'];exact vV))
 ·obtain rfl:k=l.length:=by omega
  refine aw hnl ?_
  have hz:List.replicate l.length AV.al=bI (dR l 1 0):=by rw[abp];simp[bI,cA]
  refine a7 hN (fun m:Nat=>⟨[(0,.ro 1 (an l)),(3,.sl 55011 0 l.length),(4,.int .i64 (kg l m:Nat)),(5,.int .i64 ((m:Int)+1))],[(55011,.arr 1 (bI (dR l (m+1) 0)))]⟩) (fun m=>m≤15) (fun m=>15-m) 0 (.le (by rw[hz,show kg l 0=0 from rfl];exact vV)) (by omega) ?_
  rintro m R2 hm hR2
  by_cases hlt2:m<15
  ·have he2:=J9 l m
   have hfl:=L7 l hn (n:=m+1) (by omega) (by omega)
   have he3:2*((kg l m:Nat):Int)=((fstL l (m+1):Nat):Int):=by omega
   have hle:kg l m≤20971520:=by omega
   refine bH hnl he3 ?_
   refine a7 hN (fun k:Nat=>⟨[(0,.ro 1 (an l)),(3,.sl 55011 0 l.length),(4,.int .i64 (fstL l (m+1)+bj (l.take k) (m+1):Nat)),(5,.int .i64 ((m:Int)+1)),(26,.ro 1 (an l)),(27,.int .i64 l.length),(28,.int .i64 k)],[(55011,.arr 1 (bI (dR l (m+1) k)))]⟩) (fun k=>k≤l.length) (fun k=>l.length-k) 0 (.le (by simp(disch:=omega)only[go_sem,simprocAttr,bj,List.countP_nil])) (by omega) ?_
   rintro k R3 hk hR3
   have hcl:=rh l k (m+1)
   by_cases hlt3:k<l.length
   ·have hcs:=iU (l.take k) (l.getD k 0) (m+1)
    rw[←dU l 0 hlt3]at hcs
    by_cases hx:l.getD k 0=m+1
    ·rw[if_pos hx]at hcs
     have hcw:cp l k=fstL l (m+1)+bj (l.take k) (m+1):=by unfold cp fh;rw[hx]
     have bX:=abn l (m+1) k hlt3 (by omega) hx
     have hcd:aX l k=bitsM (cp l k) (m+1):=by unfold aX;rw[if_neg (by omega),hx]
     have hol:=pO l (m+1) k
     have hoc:=ri (dR l (m+1) k)
     generalize hw:fstL l (m+1)+bj (l.take k) (m+1)=cw at *
     have hcwl:cw≤20971520:=by omega
     refine cL hnl @dG hx ?_
     refine a7 hN (fun i:Nat=>⟨[(0,.ro 1 (an l)),(3,.sl 55011 0 l.length),(4,.int .i64 cw),(5,.int .i64 ((m:Int)+1)),(6,.int .i64 k),(8,.sl 55036 0 i),(9,.int .i64 (cw/2^i:Nat)),(10,.int .i64 i),(26,.ro 1 (an l)),(27,.int .i64 l.length),(28,.int .i64 k)],
      [(55011,.arr 1 (bI (dR l (m+1) k))),(55036,.arr 1 (b7 (bitsM cw i)))]⟩) (fun i=>i≤m+1) (fun i=>m+1-i) 0 (.le (by simp(disch:=omega)only[go_sem,simprocAttr,bitsM,uZ])) (by omega) ?_
     rintro i R4 hi hR4
     have hbl:=nS i cw
     have hbl2:=ix (bitsM cw i)
     by_cases hi2:i<m+1
     ·have hbc:=uK i cw
      have hR5:=hR4 (i+1)
      have hq2:cw/2^(i+1)=cw/2^i/2:=by rw[Nat.pow_succ,Nat.div_div_eq_div_mul]
      rw[hq2]at hR5
      have hql:cw/2^i≤cw:=Nat.div_le_self _ _
      generalize cw/2^i=q at *
      have e1:((q:Nat):Int).tdiv 2=((q/2:Nat):Int):=by rw[jT (by omega)];omega
      have e2:decide ((q:Int)%2=1)=(q%2==1):=by
       rw[show(q%2==1)=decide (q%2=1)by rfl]
       exact decide_eq_decide.2 (by omega)
      refine cO e1 e2 @j7 @fu @uY ?_
      refine hR5 _ (by omega) (by omega) (.drop 55036 (.gK 55046 55036 rfl vV (.le ?_)))
      rw[hbc]
      refine wW ?_
      rw[Gs]
     ·obtain rfl:i=m+1:=by omega
      have hcp:=nY (c:=bitsM cw (m+1)) (by omega)
      rw[hcd,hcw]at bX
      simp(disch:=omega)only[go_sem,simprocAttr,j7,fu,hol,hoc,Ih,lK,vm,←hcp,Ii,bX]
      refine hR3 (k+1) _ (by omega) (by omega) (.le ?_)
      rw[hcs,←Nat.add_assoc,hw]
      exact vV
    ·have hos:=abo l (m+1) k hx
     rw[if_neg hx,Nat.add_zero]at hcs
     refine cL hnl @dG hx ?_
     refine hR3 (k+1) _ (by omega) (by omega) (.le ?_)
     rw[hos,hcs]
     exact vV
   ·obtain rfl:k=l.length:=by omega
    rw[List.take_of_length_le (Nat.le_refl _)]at *
    refine aw hnl ?_
    refine hR2 (m+1) _ (by omega) (by omega) (.le ?_)
    rw[abm,show kg l (m+1)=fstL l (m+1)+bj l (m+1)from if_neg (by omega)]
    exact vV
  ·obtain rfl:m=15:=by omega
   have hcl:=ri (aO l)
   have hcl2:(aO l).length=l.length:=by simp[aO]
   have htk:(bI (aO l)).take l.length=bI (aO l):=List.take_of_length_le (by omega)
   have hoe:=abl l hl
   refine wW ?_
   rw[hoe]
   exact hR.wk (h':=[]) (r':=.ro 1 (bI (aO l))) (ar':=[.undef]) rfl (.bK 55011 (.le (by simp(disch:=omega)only[go_sem,simprocAttr,aL,htk,List.drop_zero]))) ⟨rfl,rfl⟩
theorem abV (a b:List Bool) (h:b.length<a.length):a.isPrefixOf b=false:=by
 cases hh:a.isPrefixOf b with
 | false=>rfl
 | true=>have:=(List.isPrefixOf_iff_prefix.1 hh).length_le;omega
theorem zy (b a:List Bool) (hb:b.length≤1000000000) (ha:a.length≤1000000000):aP Tryz.prog 201 [.ro 1 (b7 b),.ro 1 (b7 a)] (.bool (a.isPrefixOf b)):=by
 refine Cod.adq (fun E R hN hR=>?_)
 have hbl:=ix b
 have hal:=ix a
 by_cases hlt:b.length<a.length
 ·have hp:=abV a b hlt
  refine bH hbl hal ?_
  exact hR.ro ⟨rfl,by rw[hp]⟩
 ·refine bH hbl hal ?_
  refine a7 hN (fun i:Nat=>⟨[(0,.ro 1 (b7 b)),(1,.ro 1 (b7 a)),(12,.int .i64 a.length),(13,.int .i64 i)],[]⟩) (fun i=>i≤a.length∧a.take i=b.take i) (fun i=>a.length-i) 0 (.le vV) ⟨by omega,by simp⟩ ?_
  rintro i R1 ⟨hi,he⟩ hR1
  by_cases hil:i<a.length
  ·have hta:=dU a false hil
   have htb:=dU b false (show i<b.length by omega)
   have hR2:=hR1 (i+1)
   generalize hx:a.getD i false=x at *
   generalize hy:b.getD i false=y at *
   by_cases hxy:x=y
   ·subst hxy
    refine cO hbl hal @sG hx hy ?_
    have hd:(!(x==x))=false:=by simp
    refine aw hd ?_
    exact hR2 _ (by omega) ⟨by omega,by rw[hta,htb,he]⟩ (.le vV)
   ·have hd:(!(x==y))=true:=by simp[hxy]
    have hp:a.isPrefixOf b=false:=by
     cases hh:a.isPrefixOf b with
     | false=>rfl
     | true=>
      obtain⟨r,hr⟩:=List.isPrefixOf_iff_prefix.1 hh
      refine(hxy ?_).elim
      rw[←hx,←hy,←hr,List.getD_eq_getElem?_getD,List.getD_eq_getElem?_getD,List.getElem?_append_left hil]
    refine cO hbl hal @sG hx hy ?_
    refine aw hd ?_
    exact hR.ro ⟨rfl,by rw[hp]⟩
  ·obtain rfl:i=a.length:=by omega
   have hp:a.isPrefixOf b=true:=by
    rw[List.isPrefixOf_iff_prefix,List.prefix_iff_eq_take]
    rw[List.take_length]at he
    exact he
   refine bH hbl hal ?_
   exact hR.ro ⟨rfl,by rw[hp]⟩
theorem KR {α:Type} {p:α→Bool} {cs:List α} (d:α) (h:∀j,j<cs.length→p (cs.getD j d)=false):cs.findIdx? p=none:=by
 rw[List.findIdx?_eq_none_iff]
 intro c hc
 obtain⟨j,hj,rfl⟩:=List.getElem_of_mem hc
 have:=h j hj
 rw[List.getD_eq_getElem?_getD,List.getElem?_eq_getElem hj]at this
 exact this
theorem KT {α:Type} {p:α→Bool} {cs:List α} (d:α) {i:Nat} (hi:i<cs.length) (h1:p (cs.getD i d)=true) (h:∀j,j<i→p (cs.getD j d)=false):cs.findIdx? p=some i:=by
 rw[List.findIdx?_eq_some_iff_getElem]
 rw[List.getD_eq_getElem?_getD,List.getElem?_eq_getElem hi]at h1
 refine⟨hi,h1,fun j hj hh=>?_⟩
 have:=h j hj
 rw[List.getD_eq_getElem?_getD,List.getElem?_eq_getElem (by omega)]at this
 simp[hh]at this
theorem Dr {α:Type} {p:α→Bool} {cs:List α} (d:α) (h:∀j,j<cs.length→p (cs.getD j d)=true):cs.all p=true:=by
 rw[List.all_eq_true]
 intro c hc
 obtain⟨j,hj,rfl⟩:=List.getElem_of_mem hc
 have:=h j hj
 rw[List.getD_eq_getElem?_getD,List.getElem?_eq_getElem hj]at this
 exact this
theorem DC {α:Type} {p:α→Bool} {cs:List α} (d:α) {i:Nat} (hi:i<cs.length) (h1:p (cs.getD i d)=true):cs.any p=true:=by
 rw[List.any_eq_true]
 rw[List.getD_eq_getElem?_getD,List.getElem?_eq_getElem hi]at h1
 exact⟨_,List.getElem_mem hi,h1⟩
theorem DB {α:Type} {p:α→Bool} {cs:List α} (d:α) (h:∀j,j<cs.length→p (cs.getD j d)=false):cs.any p=false:=by
 rw[List.any_eq_false]
 intro c hc
 obtain⟨j,hj,rfl⟩:=List.getElem_of_mem hc
 have:=h j hj
 rw[List.getD_eq_getElem?_getD,List.getElem?_eq_getElem hj]at this
 simp only[Option.getD_some]at this
 rw[this];simp
theorem Dq {α:Type} {p:α→Bool} {cs:List α} (d:α) {i:Nat} (hi:i<cs.length) (h1:p (cs.getD i d)=false):cs.all p=false:=by
 rw[List.all_eq_false]
 rw[List.getD_eq_getElem?_getD,List.getElem?_eq_getElem hi]at h1
 refine⟨_,List.getElem_mem hi,?_⟩
 simp only[Option.getD_some]at h1
 rw[h1];simp
set_option maxHeartbeats 1000000 in
theorem afe (cs:List (List Bool)) (b:List Bool) (hcs:cs.length≤100000) (hcl:∀c∈cs,c.length≤1000000) (hb:b.length≤1000000000) :
    aP Tryz.prog 179 [.ro 1 (bI cs),.ro 1 (b7 b)] (.aj [.int .i64 ((readL cs b).1:Nat),.int .i64 ((readL cs b).2.1:Nat),.int .i64 ((readL cs b).2.2:Nat)]):=by
 refine Cod.aff (fun E R hN hR=>?_)
 have hbl:=ix b
 have hcsl:=ri cs
 have hgl:∀i,(cs.getD i []).length≤1000000:=by
  intro i
  by_cases hi:i<cs.length
  ·rw[List.getD_eq_getElem?_getD,List.getElem?_eq_getElem hi];exact hcl _ (List.getElem_mem hi)
  ·rw[List.getD_eq_getElem?_getD,List.getElem?_eq_none (by omega)];simp
 refine aw hcsl ?_
 refine a7 hN (fun q:Nat×Bool=>⟨[(0,.ro 1 (bI cs)),(1,.ro 1 (b7 b)),(7,.bool q.2),(12,.ro 1 (bI cs)),(13,.int .i64 cs.length),(14,.int .i64 q.1)],[]⟩)
  (fun q=>q.1≤cs.length∧(∀j,j<q.1→cq b (cs.getD j [])=false)∧(if q.2 then ∃j,j<q.1∧(cs.getD j []).isEmpty=false else ∀j,j<q.1→(cs.getD j []).isEmpty=true)) (fun q=>cs.length-q.1) (0,false) (.le vV) ⟨by omega,fun j h=>by omega,fun j h=>by simp only at h;omega⟩ ?_
 rintro⟨i,sm⟩ R1 ⟨hi,hno,hsm⟩ hR1
 simp only at hi hno hsm
 by_cases hil:i<cs.length
 ·have hg:=hgl i
  by_cases h0:0<(cs.getD i []).length
  ·have hca:=nY h0
   have hne:(cs.getD i []).isEmpty=false:=by cases hh:cs.getD i []with
    | nil=>rw[hh]at h0;simp at h0
    | cons=>rfl
   have hbg:=zy b (cs.getD i []) hb (by omega)
   have hcb:=ix (cs.getD i [])
   have hhit:cq b (cs.getD i [])=(cs.getD i []).isPrefixOf b:=by unfold cq;rw[hne];rfl
   refine ea hcsl @lK hca hcb ?_
   refine aE hbg rfl rfl ?_
   cases hp:(cs.getD i []).isPrefixOf b with
   | true=>
    rw[hp]at hhit
    have hr:readL cs b=(i,(cs.getD i []).length,0):=by unfold readL;rw[KT [] hil hhit hno]
    rw[hr]at hR
    refine aw hcb ?_
    exact hR.ro ⟨rfl,rfl⟩
   | false=>
    rw[hp]at hhit
    refine wW ?_
    refine hR1 (i+1,true) _ (by simp only;omega) ⟨by simp only;omega,fun j hj=>?_,by simp only[if_true];exact⟨i,by omega,hne⟩⟩ (.le vV)
    simp only at hj
    by_cases hji:j=i
    ·rw[hji];exact hhit
    ·exact hno j (by omega)
  ·have hci:cs.getD i []=[]:=List.length_eq_zero_iff.1 (by omega)
   have hca:cA (cs.getD i [])=.al:=by rw[hci];rfl
   refine cL hcsl @lK hca ?_
   refine hR1 (i+1,sm) _ (by simp only;omega) ⟨by simp only;omega,fun j hj=>?_,?_⟩ (.le vV)
   ·simp only at hj
    by_cases hji:j=i
    ·rw[hji,hci];rfl
    ·exact hno j (by omega)
   ·cases sm with
    | true=>
     simp only[if_true]at hsm ⊢
     obtain⟨j,h1,h2⟩:=hsm
     exact⟨j,by omega,h2⟩
    | false=>
     intro j hj
     simp only at hj
     by_cases hji:j=i
     ·rw[hji,hci];rfl
     ·exact hsm j (by omega)
 ·obtain rfl:i=cs.length:=by omega
  have hfn:=KR (p:=cq b) [] hno
  unfold readL at hR
  rw[hfn]at hR
  simp only at hR
  cases sm with
  | false=>
   have hae:cs.all (·.isEmpty)=true:=Dr [] hsm
   rw[hae,if_pos rfl]at hR
   refine aw hcsl ?_
   exact hR.ro ⟨rfl,rfl⟩
  | true=>
   obtain⟨j,hj,hje⟩:=hsm
   have hae:cs.all (·.isEmpty)=false:=Dq [] hj hje
   rw[hae,if_neg (by simp)]at hR
   refine aw hcsl ?_
   refine a7 hN (fun i:Nat=>⟨[(1,.ro 1 (b7 b)),(31,.ro 1 (bI cs)),(32,.int .i64 cs.length),(33,.int .i64 i)],[]⟩)
    (fun i=>i≤cs.length∧∀j,j<i→(decide (b.length<(cs.getD j []).length)&&b.isPrefixOf (cs.getD j []))=false) (fun i=>cs.length-i) 0 (.le vV) ⟨by omega,fun j h=>by omega⟩ ?_
   rintro i R2 ⟨hi,hno2⟩ hR2
   by_cases hil:i<cs.length
   ·have hg:=hgl i
    have go:(decide (b.length<(cs.getD i []).length)&&b.isPrefixOf (cs.getD i []))=false→R2.ap ⟨[(1,.ro 1 (b7 b)),(31,.ro 1 (bI cs)),(32,.int .i64 cs.length),(33,.int .i64 ((i:Int)+1))],[]⟩:=by
     intro h
     refine hR2 (i+1) _ (by omega) ⟨by omega,fun j hj=>?_⟩ (.le vV)
     by_cases hji:j=i
     ·rw[hji];exact h
     ·exact hno2 j (by omega)
    by_cases hlt:b.length<(cs.getD i []).length
    ·have hca:=nY (c:=cs.getD i []) (by omega)
     have hcb:=ix (cs.getD i [])
     have hbg:=zy (cs.getD i []) b (by omega) hb
     refine cO hcsl @lK hca hcb hbl ?_
     refine gG ?_
     refine gj (ka vV hbg vV rfl rfl ?_)
     cases hp:b.isPrefixOf (cs.getD i [])with
     | true=>
      rw[if_pos (DC [] hil (by rw[hp,decide_eq_true hlt];rfl))]at hR
      refine wW ?_
      exact hR.ro ⟨rfl,rfl⟩
     | false=>
      refine wW ?_
      exact go (by rw[hp,Bool.and_false])
    ·have hgo:=go (by rw[decide_eq_false hlt];rfl)
     by_cases h0:0<(cs.getD i []).length
     ·have hca:=nY h0
      have hcb:=ix (cs.getD i [])
      refine cO hcsl @lK hca hcb hbl ?_
      refine gG ?_
      exact hgo
     ·have hci:cs.getD i []=[]:=List.length_eq_zero_iff.1 (by omega)
      have hca:cA (cs.getD i [])=.al:=by rw[hci];rfl
      refine ea hcsl @lK hca hbl ?_
      refine gG ?_
      exact hgo
   ·obtain rfl:i=cs.length:=by omega
    rw[if_neg (by rw[DB [] hno2];simp)]at hR
    refine aw hcsl ?_
    exact hR.ro ⟨rfl,rfl⟩
theorem zw (n:Nat) (h:n≤10000000000000):aP Tryz.prog 99 [.int .i64 n] (.int .i64 (cH n:Nat)):=by
 refine Cod.ac7 (fun E R hN hR=>?_)
 have e:((n:Int)+7)/8*8=((cH n:Nat):Int):=by unfold cH;omega
 refine aw e ?_
 exact hR.ro ⟨rfl,rfl⟩
end Go.Proofs.YtlkmppkcbhodaaaGreatDoor.Pk
namespace Go.Proofs.YtlkmppkcbhodaaaGreatDoor.Cod
open Eng Eng.Kz
set_option maxRecDepth 100000
abbrev Ss:AK:=.seq (.aa [k 4 (ci 0)] [4,2000000,2000001]) .ret
abbrev Sr:AK:=.seq (.aa [m 15 0,m 16 0,.v 17 (.ao (.t 16)),.v 18 (.ak false 1 1 (.t 17)),.v 19 (.ld false 1 (.t 18)),m 20 1,.eff 21 false 60021 (.a8 1 [(.t 20)]),.eff 22 false 60022 (.app 1 1 (.t 19) (.t 21)),.v 23 (.ao (.t 15)),.v 24 (.ak false 1 1 (.t 23)),.aM false 60000 (.st 1 (.t 24) (.t 22))] [2000000,2000001]) Ss
abbrev Sw:AK:=.seq (.aa [k 4 (ci 2)] [4,2000000,2000001]) .ret
abbrev Su:AK:=.seq (.aa [u 60005 5 (.ah (.t 0)),u 60006 6 (.ao (.t 5)),u 60007 7 (.ak false 1 1 (.t 6)),u 60008 8 (.ld false 1 (.t 7)),u 60009 9 (.len false (.t 8)),u 60010 10 (.ah (.t 0)),u 60011 11 (.ao (.t 10)),u 60012 12 (.ak false 2 1 (.t 11)),u 60013 13 (.ld false 1 (.t 12)),b 14 .eql 9 13] [0,1,14,2000000,2000001]) (.cond (.t 14) Sw .skip)
abbrev Sq:AK:=.seq Su Sr
abbrev Sp:AK:=.seq (.aa [k 4 (ci 0)] [0,1,2000000,2000001]) Sq
abbrev xJ:AK:=Sp
theorem Sx:aB Tryz.prog 165 60000 2 xJ [.tmp 4]:=⟨_,Tryz.func165,by kernel_rfl⟩
theorem Sy {h a0 a1 Post} (hp:aD Tryz.prog xJ [.tmp 4] 2 [(0,a0),(1,a1),(2000000,a0),(2000001,a1)] h Post):Eng.Spec Tryz.prog 165 h [a0,a1] Post:=aG Sx rfl [(0,a0),(1,a1),(2000000,a0),(2000001,a1)] ⟨rfl,rfl,rfl,rfl,trivial⟩ hp
abbrev Ug:AK:=.seq (.aa [k 2 (ci 0)] [2,2000000]) .ret
abbrev Ui:AK:=.seq (.aa [k 2 (ci 6)] [2,2000000]) .ret
abbrev Uh:AK:=.seq (.aa [m 75 4,.v 76 (.un .not (.t 75))] [76,2000000]) (.cond (.t 76) Ui .skip)
abbrev Ux:AK:=.seq Uh Ug
abbrev Uw:AK:=.seq (.aa [m 66 0,m 67 0,.v 68 (.ao (.t 67)),.v 69 (.ak false 1 1 (.t 68)),.v 70 (.ld false 1 (.t 69)),m 71 6,.eff 72 false 61072 (.app 1 1 (.t 70) (.t 71)),.v 73 (.ao (.t 66)),.v 74 (.ak false 1 1 (.t 73)),.aM false 61000 (.st 1 (.t 74) (.t 72))] [4,2000000]) Ux
abbrev Uk:AK:=.seq (.aa [k 2 (ci 2)] [2,2000000]) .ret
abbrev Uj:AK:=.seq (.aa [u 61053 53 (.ah (.t 6)),u 61054 54 (.len true (.t 53)),u 61055 55 (.ah (.t 0)),u 61056 56 (.ao (.t 55)),u 61057 57 (.ak false 2 1 (.t 56)),u 61058 58 (.ld false 1 (.t 57)),u 61059 59 (.ah (.t 0)),u 61060 60 (.ao (.t 59)),u 61061 61 (.ak false 1 1 (.t 60)),u 61062 62 (.ld false 1 (.t 61)),u 61063 63 (.len false (.t 62)),u 61064 64 (.bin .sub (.t 58) (.t 63)),b 65 .gtr 54 64] [0,4,6,65,2000000]) (.cond (.t 65) Uk .skip)
abbrev Uv:AK:=.seq Uj Uw
abbrev Um:AK:=.aa [u 61040 40 (.ah (.t 0)),u 61041 41 (.ao (.t 40)),u 61042 42 (.ak false 0 1 (.t 41)),u 61043 43 (.ld false 1 (.t 42)),u 61044 44 (.ah (.t 0)),u 61045 45 (.ao (.t 44)),u 61046 46 (.ak false 0 1 (.t 45)),u 61047 47 (.ld false 1 (.t 46)),.ai (some 48) true 61048 187 [(.t 47)],u 61049 49 (.bin .quo (.t 48) (ci 8)),.ai (some 50) false 61050 185 [(.t 43),(.t 49)],m 39 50,u 61051 51 (.ext (.t 39) 0),u 61052 52 (.ext (.t 39) 1),u 61006 6 (.ah (.t 51))] [0,4,6,2000000]
abbrev Ul:AK:=.seq (.aa [m 37 4,.v 38 (.un .not (.t 37))] [0,4,6,38,2000000]) (.cond (.t 38) Um .skip)
def xV:AK:=.seq Ul (.bq Uv)
abbrev Uu:AK:=.seq (.aa [m 29 0,.v 30 (.ao (.t 29)),.v 31 (.ak false 0 1 (.t 30)),.v 32 (.ld false 1 (.t 31)),m 33 5,.ai (some 34) false 61034 185 [(.t 32),(.t 33)],m 28 34,.v 35 (.ext (.t 28) 0),.v 36 (.ext (.t 28) 1),m 6 35,m 4 36] [0,4,6,2000000]) xV
abbrev Up:AK:=.seq (.aa [k 2 (ci 3)] [2,2000000]) .ret
abbrev Uo:AK:=.seq (.aa [m 21 5,bi 22 .xor 21 65535,m 23 3,.v 24 (.cy (.t 23) (some (ci 2)) none),.ai (some 25) false 61025 186 [(.t 24)],.v 26 (.a6 .i64 (.t 25)),b 27 .neq 22 26] [0,5,27,2000000]) (.cond (.t 27) Up .skip)
abbrev Ut:AK:=.seq Uo Uu
abbrev Us:AK:=.seq (.aa [m 17 3,.v 18 (.cy (.t 17) none (some (ci 2))),.ai (some 19) false 61019 186 [(.t 18)],.v 20 (.a6 .i64 (.t 19)),m 5 20] [0,3,5,2000000]) Ut
abbrev Ur:AK:=.seq (.aa [k 2 (ci 6)] [2,2000000]) .ret
abbrev Uq:AK:=.seq (.aa [m 15 4,.v 16 (.un .not (.t 15))] [0,3,16,2000000]) (.cond (.t 16) Ur .skip)
abbrev Un:AK:=.seq Uq Us
abbrev Uf:AK:=.seq (.aa [m 8 0,.v 9 (.ao (.t 8)),.v 10 (.ak false 0 1 (.t 9)),.v 11 (.ld false 1 (.t 10)),.ai (some 12) false 61012 185 [(.t 11),(ci 4)],m 7 12,.v 13 (.ext (.t 7) 0),.v 14 (.ext (.t 7) 1),m 3 13,m 4 14] [0,3,4,2000000]) Un
abbrev Ue:AK:=.seq (.aa [k 2 (ci 0)] [0,2000000]) Uf
abbrev xU:AK:=Ue
theorem Uy:aB Tryz.prog 162 61000 1 xU [.tmp 2]:=⟨_,Tryz.func162,by kernel_rfl⟩
theorem UA {h a0 Post} (hp:aD Tryz.prog xU [.tmp 2] 1 [(0,a0),(2000000,a0)] h Post):Eng.Spec Tryz.prog 162 h [a0] Post:=aG Uy rfl [(0,a0),(2000000,a0)] ⟨rfl,rfl,trivial⟩ hp
abbrev UT:AK:=.seq (.aa [m 184 24,m 185 26,m 2 184,m 3 185,k 4 (ci 0)] [2,3,4,2000000]) .ret
abbrev UW:AK:=.seq (.aa [k 2 (.c (.lit (.pointer none))),k 3 (.c (.lit (.pointer none))),k 4 (ci 3)] [2,3,4,2000000]) .ret
abbrev UU:AK:=.seq (.aa [m 172 16,.v 173 (.aY 1 (.t 172) (ci 256)),.v 174 (.ld false 1 (.t 173)),bi 175 .eql 174 0,m 176 175,.af 177 176 false false 62177 (.ah (.t 25)),.af 178 176 false false 62178 (.bin .neq (.t 177) (ci 0)),.v 179 (.pick (.t 176) (.c (.bool true)) (.t 178)),m 180 179,.af 181 180 false false 62181 (.ah (.t 27)),.af 182 180 false false 62182 (.bin .neq (.t 181) (ci 0)),.v 183 (.pick (.t 180) (.c (.bool true)) (.t 182))] [24,26,183,2000000]) (.cond (.t 183) UW .skip)
abbrev US:AK:=.seq UU UT
abbrev UR:AK:=.seq (.aa [m 166 16,m 167 7,.v 168 (.fU 1 (.t 166) (some (.t 167)) none),.ai (some 169) false 62169 176 [(.t 168)],m 165 169,.v 170 (.ext (.t 165) 0),.v 171 (.ext (.t 165) 1),m 26 170,m 27 171] [16,24,25,26,27,2000000]) US
abbrev sa:AK:=.seq (.aa [m 159 16,m 160 7,.v 161 (.fU 1 (.t 159) none (some (.t 160))),.ai (some 162) false 62162 176 [(.t 161)],m 158 162,.v 163 (.ext (.t 158) 0),.v 164 (.ext (.t 158) 1),m 24 163,m 25 164] [7,16,24,25,2000000]) UR
abbrev Vb:AK:=.aa [bi 157 .add 151 1,m 151 157] [0,7,8,14,16,21,150,151,2000000]
abbrev Vc:AK:=.aa [m 153 16,m 154 21,.eff 155 false 62155 (.a8 1 [(.t 154)]),.eff 156 false 62156 (.app 1 8 (.t 153) (.t 155)),m 16 156] [0,7,8,14,16,21,150,151,2000000]
abbrev Va:AK:=.seq (.block 6 Vc) Vb
abbrev U9:AK:=.seq (.cond (.t 152) .skip (.exit 5)) Va
abbrev U8:AK:=.seq (.aa [b 152 .lss 151 150] [0,7,8,14,16,21,150,151,152,2000000]) U9
abbrev VR:AK:=.loop U8
abbrev U6:AK:=.seq (.aa [m 147 20,m 148 22,.v 149 (.a6 .i64 (.t 148)),b 150 .add 147 149,k 151 (ci 0)] [0,7,8,14,16,21,150,151,2000000]) (.block 5 VR)
abbrev Vf:AK:=.seq (.aa [k 2 (.c (.lit (.pointer none))),k 3 (.c (.lit (.pointer none))),k 4 (ci 3)] [2,3,4,2000000]) .ret
abbrev Vd:AK:=.seq (.aa [m 136 16,.v 137 (.len false (.t 136)),m 138 20,b 139 .add 137 138,m 140 22,.v 141 (.a6 .i64 (.t 140)),b 142 .add 139 141,m 143 7,m 144 8,b 145 .add 143 144,b 146 .gtr 142 145] [0,7,8,14,16,20,21,22,146,2000000]) (.cond (.t 146) Vf .skip)
abbrev U5:AK:=.seq Vd U6
abbrev Vh:AK:=.seq (.aa [k 2 (.c (.lit (.pointer none))),k 3 (.c (.lit (.pointer none))),k 4 (ci 6)] [2,3,4,2000000]) .ret
abbrev Vg:AK:=.seq (.aa [m 134 23,.v 135 (.un .not (.t 134))] [0,7,8,14,16,20,21,22,135,2000000]) (.cond (.t 135) Vh .skip)
abbrev U4:AK:=.seq Vg U5
abbrev sb:AK:=.seq (.aa [m 126 0,.v 127 (.ao (.t 126)),.v 128 (.ak false 0 1 (.t 127)),.v 129 (.ld false 1 (.t 128)),m 130 19,.ai (some 131) false 62131 161 [(.t 129),(.t 130)],m 125 131,.v 132 (.ext (.t 125) 0),.v 133 (.ext (.t 125) 1),m 22 132,m 23 133] [0,7,8,14,16,20,21,22,23,2000000]) U4
abbrev Vl:AK:=.aa [m 117 16,m 118 16,.v 119 (.len false (.t 118)),bi 120 .sub 119 1,.v 121 (.aY 1 (.t 117) (.t 120)),.v 122 (.ld false 1 (.t 121)),m 21 122] [0,7,8,14,16,19,20,21,2000000]
abbrev Vo:AK:=.seq (.aa [k 2 (.c (.lit (.pointer none))),k 3 (.c (.lit (.pointer none))),k 4 (ci 3)] [2,3,4,2000000]) .ret
abbrev Vn:AK:=.seq (.aa [m 114 16,.v 115 (.len false (.t 114)),bi 116 .eql 115 0] [0,7,8,14,16,19,20,116,2000000]) (.cond (.t 116) Vo .skip)
abbrev Vk:AK:=.seq Vn Vl
abbrev Vq:AK:=.aa [k 19 (ci 3)] [0,7,8,14,16,19,20,21,2000000]
abbrev Vr:AK:=.aa [k 19 (ci 7),k 20 (ci 11)] [0,7,8,14,16,19,20,21,2000000]
abbrev Vp:AK:=.seq (.aa [bi 124 .eql 111 17,m 123 124] [0,7,8,14,16,20,21,123,2000000]) (.cond (.t 123) Vq Vr)
abbrev Vj:AK:=.seq (.aa [bi 113 .eql 111 16,m 112 113] [0,7,8,14,16,19,20,21,111,112,2000000]) (.cond (.t 112) Vk Vp)
abbrev Vi:AK:=.seq (.aa [m 111 17] [0,7,8,14,16,19,20,21,111,2000000]) (.block 4 Vj)
def U3:AK:=.seq Vi (.bq sb)
abbrev U2:AK:=.seq (.aa [k 19 (ci 2),k 20 (ci 3),k 21 (ci 0)] [0,7,8,14,16,17,19,20,21,2000000]) U3
abbrev Vt:AK:=.seq (.aa [m 107 16,m 108 17,.eff 109 false 62109 (.a8 1 [(.t 108)]),.eff 110 false 62110 (.app 1 8 (.t 107) (.t 109)),m 16 110] [0,7,8,14,16,2000000]) (.exit 3)
abbrev Vs:AK:=.seq (.aa [m 105 17,bi 106 .lss 105 16] [0,7,8,14,16,17,106,2000000]) (.cond (.t 106) Vt .skip)
abbrev U1:AK:=.seq Vs U2
abbrev Vv:AK:=.seq (.aa [m 104 18,k 2 (.c (.lit (.pointer none))),k 3 (.c (.lit (.pointer none))),m 4 104] [2,3,4,2000000]) .ret
abbrev Vu:AK:=.seq (.aa [m 102 18,bi 103 .neq 102 0] [0,7,8,14,16,17,18,103,2000000]) (.cond (.t 103) Vv .skip)
abbrev U0:AK:=.seq Vu U1
abbrev UZ:AK:=.seq (.aa [m 94 14,m 95 0,.v 96 (.ao (.t 95)),.v 97 (.ak false 0 1 (.t 96)),.v 98 (.ld false 1 (.t 97)),.ai (some 99) false 62099 164 [(.t 94),(.t 98)],m 93 99,.v 100 (.ext (.t 93) 0),.v 101 (.ext (.t 93) 1),m 17 100,m 18 101] [0,7,8,14,16,17,18,2000000]) U0
abbrev Vw:AK:=.seq (.aa [m 87 16,.v 88 (.len false (.t 87)),m 89 7,m 90 8,b 91 .add 89 90,b 92 .lss 88 91] [0,7,8,14,16,92,2000000]) (.cond (.t 92) .skip (.exit 2))
abbrev UX:AK:=.seq Vw (.block 3 UZ)
abbrev VQ:AK:=.loop UX
def xZ:AK:=.seq (.block 2 VQ) (.bq sa)
abbrev VP:AK:=.seq (.aa [k 16 (.c (.al))] [0,7,8,14,16,2000000]) xZ
abbrev Vy:AK:=.seq (.aa [k 2 (.c (.lit (.pointer none))),k 3 (.c (.lit (.pointer none))),k 4 (ci 3)] [2,3,4,2000000]) .ret
abbrev Vx:AK:=.seq (.aa [m 85 15,bi 86 .neq 85 0] [0,7,8,14,86,2000000]) (.cond (.t 86) Vy .skip)
abbrev VJ:AK:=.seq Vx VP
abbrev x5:AK:=.seq (.aa [m 81 10,.ai (some 82) false 62082 176 [(.t 81)],m 80 82,.v 83 (.ext (.t 80) 0),.v 84 (.ext (.t 80) 1),m 14 83,m 15 84] [0,7,8,14,15,2000000]) VJ
abbrev VD:AK:=.aa [bi 79 .add 59 1,m 59 79] [0,7,8,10,58,59,2000000]
abbrev VH:AK:=.aa [m 72 10,.ai (some 73) false 62073 188 [],m 74 11,.v 75 (.lB 19 (.t 73) (.t 74)),m 76 12,.v 77 (.a6 .i64 (.t 76)),.v 78 (.aY 1 (.t 72) (.t 75)),.aM false 62000 (.st 1 (.t 78) (.t 77))] [0,7,8,10,58,59,2000000]
abbrev VK:AK:=.seq (.aa [k 2 (.c (.lit (.pointer none))),k 3 (.c (.lit (.pointer none))),k 4 (ci 6)] [2,3,4,2000000]) .ret
abbrev VI:AK:=.seq (.aa [m 70 13,.v 71 (.un .not (.t 70))] [0,7,8,10,11,12,58,59,71,2000000]) (.cond (.t 71) VK .skip)
abbrev VG:AK:=.seq VI VH
abbrev VF:AK:=.seq (.aa [m 63 0,.v 64 (.ao (.t 63)),.v 65 (.ak false 0 1 (.t 64)),.v 66 (.ld false 1 (.t 65)),.ai (some 67) false 62067 161 [(.t 66),(ci 3)],m 62 67,.v 68 (.ext (.t 62) 0),.v 69 (.ext (.t 62) 1),m 12 68,m 13 69] [0,7,8,10,11,12,13,58,59,2000000]) VG
abbrev VE:AK:=.seq (.aa [m 61 59,m 11 61] [0,7,8,10,11,58,59,2000000]) VF
abbrev VC:AK:=.seq (.block 1 VE) VD
abbrev VB:AK:=.seq (.cond (.t 60) .skip (.exit 0)) VC
abbrev VA:AK:=.seq (.aa [b 60 .lss 59 58] [0,7,8,10,58,59,60,2000000]) VB
abbrev VS:AK:=.loop VA
abbrev Vz:AK:=.seq (.aa [m 58 9,k 59 (ci 0)] [0,7,8,10,58,59,2000000]) (.block 0 VS)
def x4:AK:=.seq Vz (.bq x5)
abbrev Vm:AK:=.seq (.aa [.eff 57 false 62057 (.jG 1 8 [.int .i64 0] (ci 19) (ci 19)),m 10 57] [0,7,8,9,10,2000000]) x4
abbrev VM:AK:=.seq (.aa [k 2 (.c (.lit (.pointer none))),k 3 (.c (.lit (.pointer none))),k 4 (ci 3)] [2,3,4,2000000]) .ret
abbrev VL:AK:=.seq (.aa [m 51 7,bi 52 .gtr 51 286,m 53 52,.af 54 53 false false 62054 (.ah (.t 8)),.af 55 53 false false 62055 (.bin .gtr (.t 54) (ci 30)),.v 56 (.pick (.t 53) (.c (.bool true)) (.t 55))] [0,7,8,9,56,2000000]) (.cond (.t 56) VM .skip)
abbrev Ve:AK:=.seq VL Vm
abbrev U7:AK:=.seq (.aa [m 38 5,.v 39 (.bin .and (.t 38) (.c (.int .u32 31))),.v 40 (.a6 .i64 (.t 39)),bi 41 .add 40 257,m 42 5,.v 43 (.bin .shr (.t 42) (.c (.int .u64 5))),.v 44 (.bin .and (.t 43) (.c (.int .u32 31))),.v 45 (.a6 .i64 (.t 44)),bi 46 .add 45 1,m 47 5,.v 48 (.bin .shr (.t 47) (.c (.int .u64 10))),.v 49 (.a6 .i64 (.t 48)),bi 50 .add 49 4,m 7 41,m 8 46,m 9 50] [0,7,8,9,2000000]) Ve
abbrev VO:AK:=.seq (.aa [k 2 (.c (.lit (.pointer none))),k 3 (.c (.lit (.pointer none))),k 4 (ci 6)] [2,3,4,2000000]) .ret
abbrev VN:AK:=.seq (.aa [m 36 6,.v 37 (.un .not (.t 36))] [0,5,37,2000000]) (.cond (.t 37) VO .skip)
abbrev UY:AK:=.seq VN U7
abbrev UQ:AK:=.seq (.aa [m 29 0,.v 30 (.ao (.t 29)),.v 31 (.ak false 0 1 (.t 30)),.v 32 (.ld false 1 (.t 31)),.ai (some 33) false 62033 161 [(.t 32),(ci 14)],m 28 33,.v 34 (.ext (.t 28) 0),.v 35 (.ext (.t 28) 1),m 5 34,m 6 35] [0,5,6,2000000]) UY
abbrev UP:AK:=.seq (.aa [k 2 (.c (.lit (.pointer none))),k 3 (.c (.lit (.pointer none))),k 4 (ci 0)] [0,2000000]) UQ
abbrev xY:AK:=UP
theorem VT:aB Tryz.prog 163 62000 1 xY [.tmp 2,.tmp 3,.tmp 4]:=⟨_,Tryz.func163,by kernel_rfl⟩
theorem VV {h a0 Post} (hp:aD Tryz.prog xY [.tmp 2,.tmp 3,.tmp 4] 1 [(0,a0),(2000000,a0)] h Post):Eng.Spec Tryz.prog 163 h [a0] Post:=aG VT rfl [(0,a0),(2000000,a0)] ⟨rfl,rfl,trivial⟩ hp
abbrev SG:AK:=.seq (.aa [k 6 (ci 0)] [6,2000000,2000001,2000002]) .ret
abbrev SM:AK:=.aa [bi 100 .add 80 1,m 80 100] [0,13,79,80,2000000,2000001,2000002]
abbrev SP:AK:=.seq (.aa [m 99 14,m 6 99] [6,2000000,2000001,2000002]) .ret
abbrev SO:AK:=.seq (.aa [m 97 14,bi 98 .neq 97 0] [0,13,14,79,80,98,2000000,2000001,2000002]) (.cond (.t 98) SP .skip)
abbrev SN:AK:=.seq (.aa [u 63082 82 (.ah (.t 0)),u 63083 83 (.ah (.t 0)),u 63084 84 (.ao (.t 83)),u 63085 85 (.ak false 1 1 (.t 84)),u 63086 86 (.ld false 1 (.t 85)),u 63087 87 (.ah (.t 0)),u 63088 88 (.ao (.t 87)),u 63089 89 (.ak false 1 1 (.t 88)),u 63090 90 (.ld false 1 (.t 89)),u 63091 91 (.len false (.t 90)),u 63092 92 (.ah (.t 13)),u 63093 93 (.bin .sub (.t 91) (.t 92)),.v 94 (.aY 1 (.t 86) (.t 93)),.v 95 (.ld false 1 (.t 94)),.ai (some 96) false 63096 165 [(.t 82),(.t 95)],m 14 96] [0,13,14,79,80,2000000,2000001,2000002]) SO
abbrev SL:AK:=.seq (.block 1 SN) SM
abbrev SJ:AK:=.seq (.cond (.t 81) .skip (.exit 0)) SL
abbrev SI:AK:=.seq (.aa [b 81 .lss 80 79] [0,13,79,80,81,2000000,2000001,2000002]) SJ
abbrev Th:AK:=.loop SI
abbrev SH:AK:=.seq (.aa [m 79 7,k 80 (ci 0)] [0,13,79,80,2000000,2000001,2000002]) (.block 0 Th)
abbrev SF:AK:=.seq SH SG
abbrev SU:AK:=.seq (.aa [k 6 (ci 3)] [6,2000000,2000001,2000002]) .ret
abbrev SQ:AK:=.seq (.aa [m 72 13,m 73 0,.v 74 (.ao (.t 73)),.v 75 (.ak false 1 1 (.t 74)),.v 76 (.ld false 1 (.t 75)),.v 77 (.len false (.t 76)),b 78 .gtr 72 77] [0,7,13,78,2000000,2000001,2000002]) (.cond (.t 78) SU .skip)
abbrev SE:AK:=.seq SQ SF
abbrev SD:AK:=.seq (.aa [m 68 13,m 69 9,.v 70 (.a6 .i64 (.t 69)),b 71 .add 68 70,m 13 71] [0,7,13,2000000,2000001,2000002]) SE
abbrev SX:AK:=.seq (.aa [k 6 (ci 6)] [6,2000000,2000001,2000002]) .ret
abbrev SV:AK:=.seq (.aa [m 66 10,.v 67 (.un .not (.t 66))] [0,7,9,13,67,2000000,2000001,2000002]) (.cond (.t 67) SX .skip)
abbrev SC:AK:=.seq SV SD
abbrev SB:AK:=.seq (.aa [m 58 0,.v 59 (.ao (.t 58)),.v 60 (.ak false 0 1 (.t 59)),.v 61 (.ld false 1 (.t 60)),m 62 8,.ai (some 63) false 63063 161 [(.t 61),(.t 62)],m 57 63,.v 64 (.ext (.t 57) 0),.v 65 (.ext (.t 57) 1),m 9 64,m 10 65] [0,7,9,10,13,2000000,2000001,2000002]) SC
abbrev Tg:AK:=.seq (.aa [m 53 11,.ai (some 54) false 63054 140 [(.t 53)],m 52 54,.v 55 (.ext (.t 52) 0),.v 56 (.ext (.t 52) 1),m 13 55,m 8 56] [0,7,8,13,2000000,2000001,2000002]) SB
abbrev SZ:AK:=.seq (.aa [k 6 (ci 3)] [6,2000000,2000001,2000002]) .ret
abbrev SY:AK:=.seq (.aa [m 50 11,bi 51 .gtr 50 29] [0,7,11,51,2000000,2000001,2000002]) (.cond (.t 51) SZ .skip)
abbrev Tf:AK:=.seq SY Tg
abbrev S6:AK:=.seq (.aa [m 49 12,m 6 49] [6,2000000,2000001,2000002]) .ret
abbrev S5:AK:=.seq (.aa [m 47 12,bi 48 .neq 47 0] [0,7,11,12,48,2000000,2000001,2000002]) (.cond (.t 48) S6 .skip)
abbrev Te:AK:=.seq S5 Tf
abbrev Td:AK:=.seq (.aa [m 39 2,m 40 0,.v 41 (.ao (.t 40)),.v 42 (.ak false 0 1 (.t 41)),.v 43 (.ld false 1 (.t 42)),.ai (some 44) false 63044 164 [(.t 39),(.t 43)],m 38 44,.v 45 (.ext (.t 38) 0),.v 46 (.ext (.t 38) 1),m 11 45,m 12 46] [0,7,11,12,2000000,2000001,2000002]) Te
abbrev Tc:AK:=.seq (.aa [m 34 7,m 35 9,.v 36 (.a6 .i64 (.t 35)),b 37 .add 34 36,m 7 37] [0,2,7,2000000,2000001,2000002]) Td
abbrev S9:AK:=.seq (.aa [k 6 (ci 6)] [6,2000000,2000001,2000002]) .ret
abbrev S8:AK:=.seq (.aa [m 32 10,.v 33 (.un .not (.t 32))] [0,2,7,9,33,2000000,2000001,2000002]) (.cond (.t 33) S9 .skip)
abbrev S7:AK:=.seq S8 Tc
abbrev SR:AK:=.seq (.aa [m 24 0,.v 25 (.ao (.t 24)),.v 26 (.ak false 0 1 (.t 25)),.v 27 (.ld false 1 (.t 26)),m 28 8,.ai (some 29) false 63029 161 [(.t 27),(.t 28)],m 23 29,.v 30 (.ext (.t 23) 0),.v 31 (.ext (.t 23) 1),m 9 30,m 10 31] [0,2,7,9,10,2000000,2000001,2000002]) S7
abbrev SK:AK:=.seq (.aa [m 18 1,bi 19 .sub 18 257,.ai (some 20) false 63020 139 [(.t 19)],m 17 20,.v 21 (.ext (.t 17) 0),.v 22 (.ext (.t 17) 1),m 7 21,m 8 22] [0,2,7,8,2000000,2000001,2000002]) SR
abbrev Tb:AK:=.seq (.aa [k 6 (ci 3)] [6,2000000,2000001,2000002]) .ret
abbrev Ta:AK:=.seq (.aa [m 15 1,bi 16 .gtr 15 285] [0,1,2,16,2000000,2000001,2000002]) (.cond (.t 16) Tb .skip)
abbrev SA:AK:=.seq Ta SK
abbrev Sz:AK:=.seq (.aa [k 6 (ci 0)] [0,1,2,2000000,2000001,2000002]) SA
abbrev xL:AK:=Sz
theorem Tj:aB Tryz.prog 166 63000 3 xL [.tmp 6]:=⟨_,Tryz.func166,by kernel_rfl⟩
theorem Tl {h a0 a1 a2 Post} (hp:aD Tryz.prog xL [.tmp 6] 3 [(0,a0),(1,a1),(2,a2),(2000000,a0),(2000001,a1),(2000002,a2)] h Post):Eng.Spec Tryz.prog 166 h [a0,a1,a2] Post:=aG Tj rfl [(0,a0),(1,a1),(2,a2),(2000000,a0),(2000001,a1),(2000002,a2)] ⟨rfl,rfl,rfl,rfl,rfl,rfl,trivial⟩ hp
abbrev Tu:AK:=.seq (.aa [k 2 (ci 0)] [2,2000000]) .ret
abbrev Tv:AK:=.seq (.aa [m 72 3,.v 73 (.bin .and (.t 72) (.c (.int .u32 1))),.v 74 (.bin .eql (.t 73) (.c (.int .u32 0)))] [0,74,2000000]) (.cond (.t 74) (.goto 0) .skip)
abbrev xO:AK:=.seq Tv Tu
abbrev Tt:AK:=.seq (.label 1) xO
abbrev Tx:AK:=.seq (.aa [m 71 5,m 2 71] [2,2000000]) .ret
abbrev Ts:AK:=.seq Tx Tt
abbrev Ty:AK:=.seq (.aa [m 69 5,bi 70 .eql 69 0] [0,3,5,7,8,70,2000000]) (.cond (.t 70) (.goto 2) .skip)
abbrev xN:AK:=.seq Ty Ts
abbrev TA:AK:=.aa [m 61 0,m 62 6,.v 63 (.a6 .u8 (.t 62)),.ai (some 64) false 64064 165 [(.t 61),(.t 63)],m 5 64] [0,3,5,7,8,2000000]
abbrev TC:AK:=.aa [m 65 0,m 66 6,m 67 8,.ai (some 68) false 64068 166 [(.t 65),(.t 66),(.t 67)],m 5 68] [0,3,5,7,8,2000000]
abbrev Tz:AK:=.seq (.aa [m 59 6,bi 60 .lss 59 256] [0,3,6,7,8,60,2000000]) (.cond (.t 60) TA TC)
def Tr:AK:=.seq Tz (.bq xN)
abbrev TE:AK:=.seq (.aa [m 57 6,bi 58 .eql 57 256] [0,3,6,7,8,58,2000000]) (.cond (.t 58) (.goto 1) .skip)
abbrev Tq:AK:=.seq TE Tr
abbrev TI:AK:=.seq (.aa [m 56 5,m 2 56] [2,2000000]) .ret
abbrev TH:AK:=.seq (.aa [m 54 5,bi 55 .neq 54 0] [0,3,5,6,7,8,55,2000000]) (.cond (.t 55) TI .skip)
abbrev TG:AK:=.seq (.aa [m 46 7,m 47 0,.v 48 (.ao (.t 47)),.v 49 (.ak false 0 1 (.t 48)),.v 50 (.ld false 1 (.t 49)),.ai (some 51) false 64051 164 [(.t 46),(.t 50)],m 45 51,.v 52 (.ext (.t 45) 0),.v 53 (.ext (.t 45) 1),m 6 52,m 5 53] [0,3,5,6,7,8,2000000]) TH
abbrev r8:AK:=.seq TG Tq
abbrev Tp:AK:=.seq (.label 2) r8
abbrev TJ:AK:=.seq (.aa [k 2 (ci 3)] [2,2000000]) .ret
abbrev T6:AK:=.seq TJ Tp
abbrev TS:AK:=.seq (.aa [m 27 5,m 2 27] [2,2000000]) .ret
abbrev TR:AK:=.seq (.aa [m 25 5,bi 26 .neq 25 0] [0,3,5,26,2000000]) (.cond (.t 26) TS .skip)
abbrev TQ:AK:=.seq (.aa [m 23 0,.ai (some 24) false 64024 162 [(.t 23)],m 5 24] [0,3,5,2000000]) TR
abbrev TN:AK:=.seq TQ (.goto 1)
abbrev TU:AK:=.seq (.aa [.ai (some 31) false 64031 134 [],m 30 31,.v 32 (.ext (.t 30) 0),.v 33 (.ext (.t 30) 1),m 7 32,m 8 33] [0,3,7,8,2000000]) (.goto 2)
abbrev T0:AK:=.seq (.aa [m 44 5,m 2 44] [2,2000000]) .ret
abbrev TZ:AK:=.seq (.aa [m 42 5,bi 43 .neq 42 0] [0,3,5,7,8,43,2000000]) (.cond (.t 43) T0 .skip)
abbrev TY:AK:=.seq (.aa [m 37 0,.ai (some 38) false 64038 163 [(.t 37)],m 36 38,.v 39 (.ext (.t 36) 0),.v 40 (.ext (.t 36) 1),.v 41 (.ext (.t 36) 2),m 7 39,m 8 40,m 5 41] [0,3,5,7,8,2000000]) TZ
abbrev TW:AK:=.seq TY (.goto 2)
abbrev TV:AK:=.seq (.aa [.v 35 (.bin .eql (.t 20) (.c (.int .u32 2))),m 34 35] [0,3,34,2000000]) (.cond (.t 34) TW .skip)
abbrev TT:AK:=.seq (.aa [.v 29 (.bin .eql (.t 20) (.c (.int .u32 1))),m 28 29] [0,3,20,28,2000000]) (.cond (.t 28) TU TV)
abbrev TM:AK:=.seq (.aa [.v 22 (.bin .eql (.t 20) (.c (.int .u32 0))),m 21 22] [0,3,20,21,2000000]) (.cond (.t 21) TN TT)
abbrev TK:AK:=.seq (.aa [m 19 3,.v 20 (.bin .shr (.t 19) (.c (.int .u64 1)))] [0,3,20,2000000]) (.block 0 TM)
abbrev T5:AK:=.seq TK T6
abbrev T3:AK:=.seq (.aa [k 2 (ci 6)] [2,2000000]) .ret
abbrev T2:AK:=.seq (.aa [m 17 4,.v 18 (.un .not (.t 17))] [0,3,18,2000000]) (.cond (.t 18) T3 .skip)
abbrev T1:AK:=.seq (.aa [m 10 0,.v 11 (.ao (.t 10)),.v 12 (.ak false 0 1 (.t 11)),.v 13 (.ld false 1 (.t 12)),.ai (some 14) false 64014 161 [(.t 13),(ci 3)],m 9 14,.v 15 (.ext (.t 9) 0),.v 16 (.ext (.t 9) 1),m 3 15,m 4 16] [0,3,4,2000000]) T2
abbrev po:AK:=.seq T1 T5
def T4:AK:=.seq (.label 0) (.bq po)
abbrev TX:AK:=.seq (.aa [k 7 (.c (.lit (.pointer none))),k 8 (.c (.lit (.pointer none)))] [0,2000000]) T4
abbrev TP:AK:=.seq (.aa [k 6 (ci 0)] [0,2000000]) TX
abbrev TF:AK:=.seq (.aa [k 5 (ci 0)] [0,2000000]) TP
abbrev Tw:AK:=.seq (.aa [k 4 (.c (.bool false))] [0,2000000]) TF
abbrev Tn:AK:=.seq (.aa [k 3 (.c (.int .u32 0))] [0,2000000]) Tw
abbrev T7:AK:=.scope Tn
abbrev Tm:AK:=.seq (.aa [k 2 (ci 0)] [0,2000000]) T7
abbrev xM:AK:=Tm
theorem T8:aB Tryz.prog 120 64000 1 xM [.tmp 2]:=⟨_,Tryz.func120,by kernel_rfl⟩
theorem Ub {h a0 Post} (hp:aD Tryz.prog xM [.tmp 2] 1 [(0,a0),(2000000,a0)] h Post):Eng.Spec Tryz.prog 120 h [a0] Post:=aG T8 rfl [(0,a0),(2000000,a0)] ⟨rfl,rfl,trivial⟩ hp
abbrev RW:AK:=.seq (.aa [u 65038 38 (.ah (.t 9)),u 65039 39 (.ao (.t 38)),u 65040 40 (.ak false 1 1 (.t 39)),u 65041 41 (.ld false 1 (.t 40)),u 65042 42 (.dK (.t 41)),u 65043 43 (.ah (.t 9)),u 65044 44 (.ao (.t 43)),u 65045 45 (.ak false 0 1 (.t 44)),u 65046 46 (.ld false 1 (.t 45)),.ai (some 47) true 65047 121 [(.t 46)],m 6 42,m 7 47,k 8 (ci 0)] [6,7,8]) .ret
abbrev R5:AK:=.seq (.aa [m 37 10,k 6 (.c (.str [])),k 7 (ci 0),m 8 37] [6,7,8]) .ret
abbrev RZ:AK:=.seq (.aa [m 35 10,bi 36 .neq 35 0] [9,10,36]) (.cond (.t 36) R5 .skip)
abbrev RY:AK:=.seq (.aa [m 33 9,.ai (some 34) false 65034 120 [(.t 33)],m 10 34] [9,10]) RZ
abbrev RU:AK:=.seq RY RW
abbrev RR:AK:=.seq (.aa [m 27 0,m 28 1,.ai (some 29) false 65029 119 [(.t 27),(.t 28)],m 30 2,.v 31 (.cM [.lit (.pointer none),.al,.int .i64 0] [(0,1,(.t 29)),(2,1,(.t 30))]),.eff 32 false 65032 (.box 3 (.t 31)),m 9 32] [9]) RU
abbrev RQ:AK:=.seq (.aa [k 6 (.c (.str [])),k 7 (ci 0),k 8 (ci 1)] [6,7,8]) .ret
abbrev R6:AK:=.seq (.aa [m 11 1,bi 12 .lss 11 0,m 13 12,.af 14 13 false false 65014 (.ah (.t 1)),.af 15 13 false false 65015 (.ah (.t 0)),.af 16 13 false false 65016 (.len true (.t 15)),.af 17 13 false false 65017 (.bin .gtr (.t 14) (.t 16)),.v 18 (.pick (.t 13) (.c (.bool true)) (.t 17)),m 19 18,.af 20 19 false false 65020 (.ah (.t 2)),.af 21 19 false false 65021 (.bin .lss (.t 20) (ci 0)),.v 22 (.pick (.t 19) (.c (.bool true)) (.t 21)),m 23 22,.af 24 23 false false 65024 (.ah (.t 2)),.af 25 23 false false 65025 (.bin .gtr (.t 24) (ci 65536)),.v 26 (.pick (.t 23) (.c (.bool true)) (.t 25))] [0,1,2,26]) (.cond (.t 26) RQ .skip)
abbrev RP:AK:=.seq R6 RR
abbrev RO:AK:=.seq (.aa [k 6 (.c (.str [])),k 7 (ci 0),k 8 (ci 0)] [0,1,2]) RP
abbrev inflate:AK:=RO
theorem R7:aB Tryz.prog 70 65000 3 inflate [.tmp 6,.tmp 7,.tmp 8]:=⟨_,Tryz.func70,by kernel_rfl⟩
theorem R9 {h a0 a1 a2 Post} (hp:aD Tryz.prog inflate [.tmp 6,.tmp 7,.tmp 8] 3 [(0,a0),(1,a1),(2,a2)] h Post):Eng.Spec Tryz.prog 70 h [a0,a1,a2] Post:=aG R7 rfl [(0,a0),(1,a1),(2,a2)] ⟨rfl,rfl,rfl,trivial⟩ hp
abbrev Rj:AK:=.seq (.aa [m 46 5,m 47 7,m 0 46,m 1 47] [0,1]) .ret
abbrev Ri:AK:=.seq (.aa [m 42 3,.ai (some 43) false 66043 176 [(.t 42)],m 41 43,.v 44 (.ext (.t 41) 0),.v 45 (.ext (.t 41) 1),m 7 44,m 8 45] [5,7]) Rj
abbrev Rh:AK:=.seq (.aa [m 37 2,.ai (some 38) false 66038 176 [(.t 37)],m 36 38,.v 39 (.ext (.t 36) 0),.v 40 (.ext (.t 36) 1),m 5 39,m 6 40] [3,5]) Ri
abbrev QX:AK:=.aa [bi 35 .add 30 1,m 30 35] [2,3,30]
abbrev QY:AK:=.aa [m 32 3,.eff 33 false 66033 (.a8 1 [(ci 5)]),.eff 34 false 66034 (.app 1 8 (.t 32) (.t 33)),m 3 34] [2,3,30]
abbrev QW:AK:=.seq (.block 4 QY) QX
abbrev QV:AK:=.seq (.cond (.t 31) .skip (.exit 3)) QW
abbrev Rl:AK:=.seq (.aa [bi 31 .lss 30 32] [2,3,30,31]) QV
abbrev Rm:AK:=.loop Rl
abbrev Rk:AK:=.seq (.aa [k 30 (ci 0)] [2,3,30]) (.block 3 Rm)
abbrev Ra:AK:=.seq Rk Rh
abbrev Q4:AK:=.aa [bi 29 .add 9 1,m 9 29] [2,3,9]
abbrev Q8:AK:=.aa [m 20 2,.eff 21 false 66021 (.a8 1 [(ci 8)]),.eff 22 false 66022 (.app 1 8 (.t 20) (.t 21)),m 2 22] [2,3,9]
abbrev Rb:AK:=.aa [m 26 2,.eff 27 false 66027 (.a8 1 [(ci 9)]),.eff 28 false 66028 (.app 1 8 (.t 26) (.t 27)),m 2 28] [2,3,9]
abbrev Rc:AK:=.aa [m 12 2,.eff 13 false 66013 (.a8 1 [(ci 7)]),.eff 14 false 66014 (.app 1 8 (.t 12) (.t 13)),m 2 14] [2,3,9]
abbrev Q9:AK:=.seq (.aa [m 24 4,bi 25 .lss 24 256,m 23 25] [2,3,9,23]) (.cond (.t 23) Rb Rc)
abbrev Rf:AK:=.aa [m 18 4,bi 19 .geq 18 280,m 15 19] [2,3,4,9,15]
abbrev Re:AK:=.seq (.aa [m 16 4,bi 17 .lss 16 144,m 15 17] [2,3,4,9,15]) (.cond (.t 15) .skip Rf)
def Q7:AK:=.seq Re (.bq (.cond (.t 15) Q8 Q9))
abbrev Q6:AK:=.seq (.aa [m 11 9,m 4 11] [2,3,4,9]) (.block 2 Q7)
abbrev Q3:AK:=.seq (.block 1 Q6) Q4
abbrev Q1:AK:=.seq (.cond (.t 10) .skip (.exit 0)) Q3
abbrev Q0:AK:=.seq (.aa [bi 10 .lss 9 288] [2,3,9,10]) Q1
abbrev Rn:AK:=.loop Q0
abbrev QZ:AK:=.seq (.aa [k 9 (ci 0)] [2,3,9]) (.block 0 Rn)
abbrev Q2:AK:=.seq QZ Ra
abbrev QU:AK:=.seq (.aa [k 2 (.c (.al)),k 3 (.c (.al))] [2,3]) Q2
abbrev QS:AK:=.seq (.aa [k 0 (.c (.lit (.pointer none))),k 1 (.c (.lit (.pointer none)))] []) QU
abbrev xB:AK:=QS
theorem Ro:aB Tryz.prog 134 66000 0 xB [.tmp 0,.tmp 1]:=⟨_,Tryz.func134,by kernel_rfl⟩
theorem Rp {h Post} (hp:aD Tryz.prog xB [.tmp 0,.tmp 1] 0 [] h Post):Eng.Spec Tryz.prog 134 h [] Post:=aG Ro rfl [] trivial hp
abbrev Sk:AK:=.seq (.aa [.v 1 (.cM [.int .i64 0,.int .i64 0,.int .i64 0,.int .i64 0,.int .i64 0,.int .i64 0,.int .i64 0,.int .i64 0,.int .i64 0,.int .i64 0,.int .i64 0,.int .i64 0,.int .i64 0,.int .i64 0,.int .i64 0,.int .i64 0,.int .i64 0,.int .i64 0,.int .i64 0] [(0,1,(ci 16)),(1,1,(ci 17)),(2,1,(ci 18)),(3,1,(ci 0)),(4,1,(ci 8)),(5,1,(ci 7)),(6,1,(ci 9)),(7,1,(ci 6)),(8,1,(ci 10)),(9,1,(ci 5)),(10,1,(ci 11)),(11,1,(ci 4)),(12,1,(ci 12)),(13,1,(ci 3)),(14,1,(ci 13)),(15,1,(ci 2)),(16,1,(ci 14)),(17,1,(ci 1)),(18,1,(ci 15))]),.aM false 67000 (.st 19 (.t 0) (.t 1))] [0]) .ret
abbrev Sj:AK:=.seq (.aa [.eff 0 false 67000 (.alloc [.int .i64 0,.int .i64 0,.int .i64 0,.int .i64 0,.int .i64 0,.int .i64 0,.int .i64 0,.int .i64 0,.int .i64 0,.int .i64 0,.int .i64 0,.int .i64 0,.int .i64 0,.int .i64 0,.int .i64 0,.int .i64 0,.int .i64 0,.int .i64 0,.int .i64 0])] [0]) Sk
abbrev xI:AK:=Sj
theorem Sl:aB Tryz.prog 188 67000 0 xI [.cell 0 true 19]:=⟨_,Tryz.func188,by kernel_rfl⟩
theorem Sn {h Post} (hp:aD Tryz.prog xI [.cell 0 true 19] 0 [] h Post):Eng.Spec Tryz.prog 188 h [] Post:=aG Sl rfl [] trivial hp
abbrev Rw:AK:=.seq (.aa [m 14 0,bi 15 .rem 14 4,.v 16 (.bin .add (ci 4) (.t 15)),m 17 4,b 18 .shl 16 17,.v 19 (.bin .add (ci 3) (.t 18)),m 20 4,m 2 19,m 3 20] [2,3]) .ret
abbrev Rv:AK:=.seq (.aa [m 11 0,bi 12 .quo 11 4,bi 13 .sub 12 1,m 4 13] [0,4]) Rw
abbrev Ry:AK:=.seq (.aa [m 9 0,.v 10 (.bin .add (ci 3) (.t 9)),m 2 10,k 3 (ci 0)] [2,3]) .ret
abbrev Rx:AK:=.seq (.aa [m 7 0,bi 8 .lss 7 8] [0,8]) (.cond (.t 8) Ry .skip)
abbrev Ru:AK:=.seq Rx Rv
abbrev Rt:AK:=.seq (.aa [k 2 (ci 258),k 3 (ci 0)] [2,3]) .ret
abbrev Rz:AK:=.seq (.aa [m 5 0,bi 6 .eql 5 28] [0,6]) (.cond (.t 6) Rt .skip)
abbrev Rs:AK:=.seq Rz Ru
abbrev Rr:AK:=.seq (.aa [k 2 (ci 0),k 3 (ci 0)] [0]) Rs
abbrev xD:AK:=Rr
theorem RA:aB Tryz.prog 139 68000 1 xD [.tmp 2,.tmp 3]:=⟨_,Tryz.func139,by kernel_rfl⟩
theorem RC {h a0 Post} (hp:aD Tryz.prog xD [.tmp 2,.tmp 3] 1 [(0,a0)] h Post):Eng.Spec Tryz.prog 139 h [a0] Post:=aG RA rfl [(0,a0)] ⟨rfl,trivial⟩ hp
abbrev QC:AK:=.seq (.aa [m 12 0,bi 13 .rem 12 2,.v 14 (.bin .add (ci 2) (.t 13)),m 15 4,b 16 .shl 14 15,.v 17 (.bin .add (ci 1) (.t 16)),m 18 4,m 2 17,m 3 18] [2,3]) .ret
abbrev QB:AK:=.seq (.aa [m 9 0,bi 10 .quo 9 2,bi 11 .sub 10 1,m 4 11] [0,4]) QC
abbrev QE:AK:=.seq (.aa [m 7 0,.v 8 (.bin .add (ci 1) (.t 7)),m 2 8,k 3 (ci 0)] [2,3]) .ret
abbrev QD:AK:=.seq (.aa [m 5 0,bi 6 .lss 5 4] [0,6]) (.cond (.t 6) QE .skip)
abbrev QA:AK:=.seq QD QB
abbrev Qz:AK:=.seq (.aa [k 2 (ci 0),k 3 (ci 0)] [0]) QA
abbrev xy:AK:=Qz
theorem QF:aB Tryz.prog 140 69000 1 xy [.tmp 2,.tmp 3]:=⟨_,Tryz.func140,by kernel_rfl⟩
theorem QG {h a0 Post} (hp:aD Tryz.prog xy [.tmp 2,.tmp 3] 1 [(0,a0)] h Post):Eng.Spec Tryz.prog 140 h [a0] Post:=aG QF rfl [(0,a0)] ⟨rfl,trivial⟩ hp
abbrev agh:AK:=.aa [m 9 0,m 10 1,.v 11 (.ao (.t 9)),.v 12 (.ak false 4 1 (.t 11)),.aM false 70000 (.st 1 (.t 12) (.t 10))] [2000000,2000001]
abbrev agf:AK:=.seq (.aa [m 4 0,.v 5 (.ao (.t 4)),.v 6 (.ak false 4 1 (.t 5)),.v 7 (.ld false 1 (.t 6)),bi 8 .eql 7 0] [0,1,8,2000000,2000001]) (.cond (.t 8) agh .skip)
abbrev zJ:AK:=agf
theorem agi:aB Tryz.prog 93 70000 2 zJ []:=⟨_,Tryz.func93,by kernel_rfl⟩
theorem agj {h a0 a1 Post} (hp:aD Tryz.prog zJ [] 2 [(0,a0),(1,a1),(2000000,a0),(2000001,a1)] h Post):Eng.Spec Tryz.prog 93 h [a0,a1] Post:=aG agi rfl [(0,a0),(1,a1),(2000000,a0),(2000001,a1)] ⟨rfl,rfl,rfl,rfl,trivial⟩ hp
abbrev ah2:AK:=.seq (.aa [m 50 5,m 4 50] [4,2000000,2000001]) .ret
abbrev ah1:AK:=.seq (.aa [m 42 0,.v 43 (.ao (.t 42)),.v 44 (.ak false 1 1 (.t 43)),.v 45 (.ld false 1 (.t 44)),m 46 1,b 47 .add 45 46,.v 48 (.ao (.t 42)),.v 49 (.ak false 1 1 (.t 48)),.aM false 71000 (.st 1 (.t 49) (.t 47))] [5,2000000,2000001]) ah2
abbrev ah0:AK:=.seq (.aa [u 71025 25 (.ah (.t 0)),u 71026 26 (.ao (.t 25)),u 71027 27 (.ak false 0 1 (.t 26)),u 71028 28 (.ld false 1 (.t 27)),u 71029 29 (.ah (.t 0)),u 71030 30 (.ao (.t 29)),u 71031 31 (.ak false 1 1 (.t 30)),u 71032 32 (.ld false 1 (.t 31)),u 71033 33 (.ah (.t 0)),u 71034 34 (.ao (.t 33)),u 71035 35 (.ak false 1 1 (.t 34)),u 71036 36 (.ld false 1 (.t 35)),u 71037 37 (.ah (.t 1)),u 71038 38 (.bin .add (.t 36) (.t 37)),.v 39 (.fU 1 (.t 28) (some (.t 32)) (some (.t 38))),.ai (some 40) false 71040 143 [(.t 39)],.v 41 (.a6 .i64 (.t 40)),m 5 41] [0,1,5,2000000,2000001]) ah1
abbrev ah5:AK:=.seq (.aa [k 4 (ci 0)] [4,2000000,2000001]) .ret
abbrev ah4:AK:=.seq (.aa [m 23 0,.ai (some 24) false 71024 93 [(.t 23),(ci 6)]] [2000000,2000001]) ah5
abbrev ah3:AK:=.seq (.aa [u 71011 11 (.ah (.t 0)),u 71012 12 (.ao (.t 11)),u 71013 13 (.ak false 1 1 (.t 12)),u 71014 14 (.ld false 1 (.t 13)),u 71015 15 (.ah (.t 1)),u 71016 16 (.bin .add (.t 14) (.t 15)),u 71017 17 (.ah (.t 0)),u 71018 18 (.ao (.t 17)),u 71019 19 (.ak false 0 1 (.t 18)),u 71020 20 (.ld false 1 (.t 19)),u 71021 21 (.len false (.t 20)),b 22 .gtr 16 21] [0,1,22,2000000,2000001]) (.cond (.t 22) ah4 .skip)
abbrev ahZ:AK:=.seq ah3 ah0
abbrev ahY:AK:=.seq (.aa [k 4 (ci 0)] [4,2000000,2000001]) .ret
abbrev ahX:AK:=.seq (.aa [m 6 0,.v 7 (.ao (.t 6)),.v 8 (.ak false 4 1 (.t 7)),.v 9 (.ld false 1 (.t 8)),bi 10 .neq 9 0] [0,1,10,2000000,2000001]) (.cond (.t 10) ahY .skip)
abbrev ahW:AK:=.seq ahX ahZ
abbrev ahV:AK:=.seq (.aa [k 4 (ci 0)] [0,1,2000000,2000001]) ahW
abbrev zP:AK:=ahV
theorem ah6:aB Tryz.prog 94 71000 2 zP [.tmp 4]:=⟨_,Tryz.func94,by kernel_rfl⟩
theorem ah7 {h a0 a1 Post} (hp:aD Tryz.prog zP [.tmp 4] 2 [(0,a0),(1,a1),(2000000,a0),(2000001,a1)] h Post):Eng.Spec Tryz.prog 94 h [a0,a1] Post:=aG ah6 rfl [(0,a0),(1,a1),(2000000,a0),(2000001,a1)] ⟨rfl,rfl,rfl,rfl,trivial⟩ hp
abbrev ajd:AK:=.seq (.aa [m 52 5,m 4 52] [4,2000000,2000001]) .ret
abbrev ajc:AK:=.seq (.aa [m 44 0,.v 45 (.ao (.t 44)),.v 46 (.ak false 1 1 (.t 45)),.v 47 (.ld false 1 (.t 46)),m 48 6,b 49 .add 47 48,.v 50 (.ao (.t 44)),.v 51 (.ak false 1 1 (.t 50)),.aM false 72000 (.st 1 (.t 51) (.t 49))] [5,2000000,2000001]) ajd
abbrev ajg:AK:=.seq (.aa [k 4 (ci 0)] [4,2000000,2000001]) .ret
abbrev ajf:AK:=.seq (.aa [m 41 0,m 42 7,.ai (some 43) false 72043 93 [(.t 41),(.t 42)]] [2000000,2000001]) ajg
abbrev aje:AK:=.seq (.aa [m 39 7,bi 40 .neq 39 0] [0,5,6,7,40,2000000,2000001]) (.cond (.t 40) ajf .skip)
abbrev ajb:AK:=.seq aje ajc
abbrev aja:AK:=.seq (.aa [u 72014 14 (.ah (.t 1)),u 72015 15 (.ah (.t 0)),u 72016 16 (.ao (.t 15)),u 72017 17 (.ak false 0 1 (.t 16)),u 72018 18 (.ld false 1 (.t 17)),u 72019 19 (.ah (.t 0)),u 72020 20 (.ao (.t 19)),u 72021 21 (.ak false 1 1 (.t 20)),u 72022 22 (.ld false 1 (.t 21)),u 72023 23 (.ah (.t 0)),u 72024 24 (.ao (.t 23)),u 72025 25 (.ak false 1 1 (.t 24)),u 72026 26 (.ld false 1 (.t 25)),u 72027 27 (.bin .add (.t 26) (ci 16)),u 72028 28 (.ah (.t 0)),u 72029 29 (.ao (.t 28)),u 72030 30 (.ak false 0 1 (.t 29)),u 72031 31 (.ld false 1 (.t 30)),u 72032 32 (.len false (.t 31)),u 72033 33 (.mm false (.t 27) (.t 32)),.v 34 (.fU 1 (.t 18) (some (.t 22)) (some (.t 33))),.ai (some 35) false 72035 179 [(.t 14),(.t 34)],m 13 35,u 72036 36 (.ext (.t 13) 0),u 72037 37 (.ext (.t 13) 1),u 72038 38 (.ext (.t 13) 2),u 72005 5 (.ah (.t 36)),u 72006 6 (.ah (.t 37)),m 7 38] [0,5,6,7,2000000,2000001]) ajb
abbrev ai9:AK:=.seq (.aa [k 4 (ci 0)] [4,2000000,2000001]) .ret
abbrev ai8:AK:=.seq (.aa [m 8 0,.v 9 (.ao (.t 8)),.v 10 (.ak false 4 1 (.t 9)),.v 11 (.ld false 1 (.t 10)),bi 12 .neq 11 0] [0,1,12,2000000,2000001]) (.cond (.t 12) ai9 .skip)
abbrev ai7:AK:=.seq ai8 aja
abbrev ai6:AK:=.seq (.aa [k 4 (ci 0)] [0,1,2000000,2000001]) ai7
abbrev Af:AK:=ai6
theorem ajh:aB Tryz.prog 147 72000 2 Af [.tmp 4]:=⟨_,Tryz.func147,by kernel_rfl⟩
theorem aji {h a0 a1 Post} (hp:aD Tryz.prog Af [.tmp 4] 2 [(0,a0),(1,a1),(2000000,a0),(2000001,a1)] h Post):Eng.Spec Tryz.prog 147 h [a0,a1] Post:=aG ajh rfl [(0,a0),(1,a1),(2000000,a0),(2000001,a1)] ⟨rfl,rfl,rfl,rfl,trivial⟩ hp
abbrev aiy:AK:=.aa [m 28 0,m 29 0,.v 30 (.ao (.t 29)),.v 31 (.ak false 2 1 (.t 30)),.v 32 (.ld false 1 (.t 31)),m 33 1,.eff 34 false 73034 (.a8 1 [(.t 33)]),.eff 35 false 73035 (.app 1 1 (.t 32) (.t 34)),.v 36 (.ao (.t 28)),.v 37 (.ak false 2 1 (.t 36)),.aM false 73000 (.st 1 (.t 37) (.t 35))] [2000000,2000001]
abbrev Ab:AK:=.seq (.aa [m 23 0,.v 24 (.ao (.t 23)),.v 25 (.ak false 4 1 (.t 24)),.v 26 (.ld false 1 (.t 25)),bi 27 .eql 26 0] [0,1,27,2000000,2000001]) (.cond (.t 27) aiy .skip)
abbrev aiz:AK:=.aa [m 21 0,.ai (some 22) false 73022 93 [(.t 21),(ci 2)]] [0,1,2000000,2000001]
abbrev Ac:AK:=.seq (.aa [m 4 0,.v 5 (.ao (.t 4)),.v 6 (.ak false 4 1 (.t 5)),.v 7 (.ld false 1 (.t 6)),bi 8 .eql 7 0,m 9 8,.af 10 9 true true 73010 (.ah (.t 0)),.af 11 9 true true 73011 (.ao (.t 10)),.af 12 9 true true 73012 (.ak false 2 1 (.t 11)),.af 13 9 true true 73013 (.ld false 1 (.t 12)),.af 14 9 true true 73014 (.len false (.t 13)),.af 15 9 true true 73015 (.ah (.t 0)),.af 16 9 true true 73016 (.ao (.t 15)),.af 17 9 true true 73017 (.ak false 3 1 (.t 16)),.af 18 9 true true 73018 (.ld false 1 (.t 17)),.af 19 9 true false 73019 (.bin .geq (.t 14) (.t 18)),.v 20 (.pick (.t 9) (.t 19) (.c (.bool false)))] [0,1,20,2000000,2000001]) (.cond (.t 20) aiz .skip)
def Aa:AK:=.seq Ac (.bq Ab)
abbrev z8:AK:=Aa
theorem sY (P:Program) (E:Env) (Q:KQ) (st:St) :
 (vcW P E Aa Q st=vcW P E Ac (KQ.seq P E (.bq Ab) Q) st):=
 rfl
theorem aiA:aB Tryz.prog 144 73000 2 z8 []:=⟨_,Tryz.func144,by kernel_rfl⟩
theorem aiB {h a0 a1 Post} (hp:aD Tryz.prog z8 [] 2 [(0,a0),(1,a1),(2000000,a0),(2000001,a1)] h Post):Eng.Spec Tryz.prog 144 h [a0,a1] Post:=aG aiA rfl [(0,a0),(1,a1),(2000000,a0),(2000001,a1)] ⟨rfl,rfl,rfl,rfl,trivial⟩ hp
abbrev ai1:AK:=.aa [m 41 4,bi 42 .add 41 1,m 4 42] [0,2,4,2000000]
abbrev aiS:AK:=.aa [m 45 0,m 46 5,.v 47 (.a6 .u8 (.t 46)),.ai (some 48) false 74048 144 [(.t 45),(.t 47)]] [0,2,4,2000000]
abbrev aiR:AK:=.seq (.aa [m 43 0,.ai (some 44) false 74044 94 [(.t 43),(ci 8)],m 5 44] [0,2,4,5,2000000]) aiS
abbrev ai0:AK:=.seq (.block 1 aiR) ai1
abbrev aiT:AK:=.seq (.aa [m 31 4,m 32 2,b 33 .lss 31 32,m 34 33,.af 35 34 true false 74035 (.ah (.t 0)),.af 36 34 true false 74036 (.ao (.t 35)),.af 37 34 true false 74037 (.ak false 4 1 (.t 36)),.af 38 34 true false 74038 (.ld false 1 (.t 37)),.af 39 34 true false 74039 (.bin .eql (.t 38) (ci 0)),.v 40 (.pick (.t 34) (.t 39) (.c (.bool false)))] [0,2,4,40,2000000]) (.cond (.t 40) .skip (.exit 0))
abbrev aiZ:AK:=.seq aiT ai0
abbrev ai2:AK:=.loop aiZ
abbrev aiY:AK:=.seq (.aa [k 4 (ci 0)] [0,2,4,2000000]) (.block 0 ai2)
abbrev aiV:AK:=.aa [m 29 0,.ai (some 30) false 74030 93 [(.t 29),(ci 3)]] [0,2,2000000]
abbrev aiU:AK:=.seq (.aa [m 18 0,.v 19 (.ao (.t 18)),.v 20 (.ak false 4 1 (.t 19)),.v 21 (.ld false 1 (.t 20)),bi 22 .eql 21 0,m 23 22,.af 24 23 true false 74024 (.ah (.t 2)),.af 25 23 true false 74025 (.ah (.t 3)),.af 26 23 true false 74026 (.bin .add (.t 24) (.t 25)),.af 27 23 true false 74027 (.bin .neq (.t 26) (ci 65535)),.v 28 (.pick (.t 23) (.t 27) (.c (.bool false)))] [0,2,28,2000000]) (.cond (.t 28) aiV .skip)
def aiX:AK:=.seq aiU (.bq aiY)
abbrev aiW:AK:=.seq (.aa [m 16 0,.ai (some 17) false 74017 94 [(.t 16),(ci 16)],m 3 17] [0,2,3,2000000]) aiX
abbrev aiQ:AK:=.seq (.aa [m 14 0,.ai (some 15) false 74015 94 [(.t 14),(ci 16)],m 2 15] [0,2,2000000]) aiW
abbrev aiP:AK:=.seq (.aa [m 6 0,m 7 0,.v 8 (.ao (.t 7)),.v 9 (.ak false 1 1 (.t 8)),.v 10 (.ld false 1 (.t 9)),.ai (some 11) false 74011 99 [(.t 10)],.v 12 (.ao (.t 6)),.v 13 (.ak false 1 1 (.t 12)),.aM false 74000 (.st 1 (.t 13) (.t 11))] [0,2000000]) aiQ
abbrev Ad:AK:=aiP
theorem ai3:aB Tryz.prog 95 74000 1 Ad []:=⟨_,Tryz.func95,by kernel_rfl⟩
theorem ai5 {h a0 Post} (hp:aD Tryz.prog Ad [] 1 [(0,a0),(2000000,a0)] h Post):Eng.Spec Tryz.prog 95 h [a0] Post:=aG ai3 rfl [(0,a0),(2000000,a0)] ⟨rfl,rfl,trivial⟩ hp
abbrev afk:AK:=.seq (.aa [m 197 11,m 198 4,.v 199 (.fU 1 (.t 197) none (some (.t 198))),m 200 11,m 201 4,.v 202 (.fU 1 (.t 200) (some (.t 201)) none),m 2 199,m 3 202] [2,3,2000000]) .ret
abbrev afn:AK:=.seq (.aa [k 2 (.c (.al)),k 3 (.c (.al))] [2,3,2000000]) .ret
abbrev afm:AK:=.seq (.aa [m 195 0,.ai (some 196) false 75196 93 [(.t 195),(ci 3)]] [2000000]) afn
abbrev afl:AK:=.seq (.aa [m 177 11,.v 178 (.aY 1 (.t 177) (ci 256)),.v 179 (.ld false 1 (.t 178)),bi 180 .eql 179 0,m 181 180,.af 182 181 false false 75182 (.ah (.t 11)),.af 183 181 false false 75183 (.ah (.t 4)),.af 184 181 false false 75184 (.fU 1 (.t 182) none (some (.t 183))),.gi 185 181 false false 75185 148 [(.t 184)],.af 186 181 false false 75186 (.bin .neq (.t 185) (ci 0)),.v 187 (.pick (.t 181) (.c (.bool true)) (.t 186)),m 188 187,.af 189 188 false false 75189 (.ah (.t 11)),.af 190 188 false false 75190 (.ah (.t 4)),.af 191 188 false false 75191 (.fU 1 (.t 189) (some (.t 190)) none),.gi 192 188 false false 75192 148 [(.t 191)],.af 193 188 false false 75193 (.bin .neq (.t 192) (ci 0)),.v 194 (.pick (.t 188) (.c (.bool true)) (.t 193))] [0,4,11,194,2000000]) (.cond (.t 194) afm .skip)
abbrev afj:AK:=.seq afl afk
abbrev afq:AK:=.seq (.aa [k 2 (.c (.al)),k 3 (.c (.al))] [2,3,2000000]) .ret
abbrev afo:AK:=.seq (.aa [m 172 0,.v 173 (.ao (.t 172)),.v 174 (.ak false 4 1 (.t 173)),.v 175 (.ld false 1 (.t 174)),bi 176 .neq 175 0] [0,4,11,176,2000000]) (.cond (.t 176) afq .skip)
abbrev sU:AK:=.seq afo afj
abbrev afz:AK:=.aa [m 166 15,bi 167 .add 166 1,m 15 167] [0,4,5,10,11,13,14,15,2000000]
abbrev afA:AK:=.aa [m 168 11,m 169 14,.eff 170 false 75170 (.a8 1 [(.t 169)]),.eff 171 false 75171 (.app 1 8 (.t 168) (.t 170)),m 11 171] [0,4,5,10,11,13,14,15,2000000]
abbrev afy:AK:=.seq (.block 6 afA) afz
abbrev afB:AK:=.seq (.aa [m 156 15,m 157 13,b 158 .lss 156 157,m 159 158,.af 160 159 true false 75160 (.ah (.t 0)),.af 161 159 true false 75161 (.ao (.t 160)),.af 162 159 true false 75162 (.ak false 4 1 (.t 161)),.af 163 159 true false 75163 (.ld false 1 (.t 162)),.af 164 159 true false 75164 (.bin .eql (.t 163) (ci 0)),.v 165 (.pick (.t 159) (.t 164) (.c (.bool false)))] [0,4,5,10,11,13,14,15,165,2000000]) (.cond (.t 165) .skip (.exit 5))
abbrev afx:AK:=.seq afB afy
abbrev aga:AK:=.loop afx
abbrev afv:AK:=.seq (.aa [k 15 (ci 0)] [0,4,5,10,11,13,14,15,2000000]) (.block 5 aga)
abbrev afD:AK:=.aa [m 154 0,.ai (some 155) false 75155 93 [(.t 154),(ci 3)]] [0,4,5,10,11,13,14,2000000]
abbrev afC:AK:=.seq (.aa [m 139 0,.v 140 (.ao (.t 139)),.v 141 (.ak false 4 1 (.t 140)),.v 142 (.ld false 1 (.t 141)),bi 143 .eql 142 0,m 144 143,.af 145 144 true false 75145 (.ah (.t 11)),.af 146 144 true false 75146 (.len false (.t 145)),.af 147 144 true false 75147 (.ah (.t 13)),.af 148 144 true false 75148 (.bin .add (.t 146) (.t 147)),.af 149 144 true false 75149 (.ah (.t 4)),.af 150 144 true false 75150 (.ah (.t 5)),.af 151 144 true false 75151 (.bin .add (.t 149) (.t 150)),.af 152 144 true false 75152 (.bin .gtr (.t 148) (.t 151)),.v 153 (.pick (.t 144) (.t 152) (.c (.bool false)))] [0,4,5,10,11,13,14,153,2000000]) (.cond (.t 153) afD .skip)
def zF:AK:=.seq afC (.bq afv)
abbrev afH:AK:=.aa [m 126 0,.ai (some 127) false 75127 94 [(.t 126),(ci 2)],.v 128 (.bin .add (ci 3) (.t 127)),m 13 128] [0,4,5,10,11,13,14,2000000]
abbrev afG:AK:=.seq (.aa [m 120 11,m 121 11,.v 122 (.len false (.t 121)),bi 123 .sub 122 1,.v 124 (.aY 1 (.t 120) (.t 123)),.v 125 (.ld false 1 (.t 124)),m 14 125] [0,4,5,10,11,14,2000000]) afH
abbrev afL:AK:=.seq (.aa [k 2 (.c (.al)),k 3 (.c (.al))] [2,3,2000000]) .ret
abbrev afK:AK:=.seq (.aa [m 118 0,.ai (some 119) false 75119 93 [(.t 118),(ci 3)]] [2000000]) afL
abbrev afI:AK:=.seq (.aa [m 115 11,.v 116 (.len false (.t 115)),bi 117 .eql 116 0] [0,4,5,10,11,117,2000000]) (.cond (.t 117) afK .skip)
abbrev afF:AK:=.seq afI afG
abbrev afO:AK:=.aa [m 131 0,.ai (some 132) false 75132 94 [(.t 131),(ci 3)],.v 133 (.bin .add (ci 3) (.t 132)),m 13 133] [0,4,5,10,11,13,14,2000000]
abbrev afN:AK:=.seq (.aa [k 14 (ci 0)] [0,4,5,10,11,14,2000000]) afO
abbrev afR:AK:=.aa [m 136 0,.ai (some 137) false 75137 94 [(.t 136),(ci 7)],.v 138 (.bin .add (ci 11) (.t 137)),m 13 138] [0,4,5,10,11,13,14,2000000]
abbrev afQ:AK:=.seq (.aa [k 14 (ci 0)] [0,4,5,10,11,14,2000000]) afR
abbrev afP:AK:=.seq (.aa [bi 135 .eql 112 18,m 134 135] [0,4,5,10,11,13,14,134,2000000]) (.cond (.t 134) afQ .skip)
abbrev afM:AK:=.seq (.aa [bi 130 .eql 112 17,m 129 130] [0,4,5,10,11,13,14,112,129,2000000]) (.cond (.t 129) afN afP)
abbrev afE:AK:=.seq (.aa [bi 114 .eql 112 16,m 113 114] [0,4,5,10,11,13,14,112,113,2000000]) (.cond (.t 113) afF afM)
abbrev zH:AK:=.seq (.aa [m 112 12] [0,4,5,10,11,13,14,112,2000000]) (.block 4 afE)
def afu:AK:=.seq zH (.bq zF)
abbrev aft:AK:=.seq (.aa [m 111 12,k 13 (ci 1),m 14 111] [0,4,5,10,11,12,13,14,2000000]) afu
abbrev afs:AK:=.seq (.aa [m 108 0,m 109 10,.ai (some 110) false 75110 147 [(.t 108),(.t 109)],m 12 110] [0,4,5,10,11,12,2000000]) aft
abbrev afT:AK:=.seq (.aa [m 95 11,.v 96 (.len false (.t 95)),m 97 4,m 98 5,b 99 .add 97 98,b 100 .lss 96 99,m 101 100,.af 102 101 true false 75102 (.ah (.t 0)),.af 103 101 true false 75103 (.ao (.t 102)),.af 104 101 true false 75104 (.ak false 4 1 (.t 103)),.af 105 101 true false 75105 (.ld false 1 (.t 104)),.af 106 101 true false 75106 (.bin .eql (.t 105) (ci 0)),.v 107 (.pick (.t 101) (.t 106) (.c (.bool false)))] [0,4,5,10,11,107,2000000]) (.cond (.t 107) .skip (.exit 2))
abbrev afr:AK:=.seq afT (.block 3 afs)
abbrev af9:AK:=.loop afr
def zE:AK:=.seq (.block 2 af9) (.bq sU)
abbrev afi:AK:=.seq (.aa [.eff 94 false 75094 (.a8 1 []),m 11 94] [0,4,5,10,11,2000000]) zE
abbrev af8:AK:=.seq (.aa [m 92 7,.ai (some 93) false 75093 145 [(.t 92)],m 10 93] [0,4,5,10,2000000]) afi
abbrev afV:AK:=.seq (.aa [k 2 (.c (.al)),k 3 (.c (.al))] [2,3,2000000]) .ret
abbrev afU:AK:=.seq (.aa [m 87 0,.v 88 (.ao (.t 87)),.v 89 (.ak false 4 1 (.t 88)),.v 90 (.ld false 1 (.t 89)),bi 91 .neq 90 0] [0,4,5,7,91,2000000]) (.cond (.t 91) afV .skip)
abbrev zI:AK:=.seq afU af8
abbrev afX:AK:=.aa [m 85 0,.ai (some 86) false 75086 93 [(.t 85),(ci 3)]] [0,4,5,7,2000000]
abbrev afW:AK:=.seq (.aa [m 75 0,.v 76 (.ao (.t 75)),.v 77 (.ak false 4 1 (.t 76)),.v 78 (.ld false 1 (.t 77)),bi 79 .eql 78 0,m 80 79,.af 81 80 true false 75081 (.ah (.t 7)),.gi 82 80 true false 75082 148 [(.t 81)],.af 83 80 true false 75083 (.bin .neq (.t 82) (ci 0)),.v 84 (.pick (.t 80) (.t 83) (.c (.bool false)))] [0,4,5,7,84,2000000]) (.cond (.t 84) afX .skip)
def sV:AK:=.seq afW (.bq zI)
abbrev af1:AK:=.aa [m 65 9,bi 66 .add 65 1,m 9 66] [0,4,5,6,7,8,9,2000000]
abbrev af2:AK:=.alt [u 75067 67 (.ah (.t 7)),m 68 8,m 69 9,.v 70 (.aY 1 (.t 68) (.t 69)),u 75072 72 (.ah (.t 0))] [.v 71 (.ld false 1 (.t 70)),.ai (some 73) false 75073 94 [(.t 72),(ci 3)],.v 74 (.aY 1 (.t 67) (.t 71)),.aM false 75000 (.st 1 (.t 74) (.t 73))] [.ai (some 73) false 75073 94 [(.t 72),(ci 3)],.v 71 (.ld false 1 (.t 70)),.v 74 (.aY 1 (.t 67) (.t 71)),.aM false 75000 (.st 1 (.t 74) (.t 73))] [0,4,5,6,7,8,9,2000000]
abbrev af0:AK:=.seq (.block 1 af2) af1
abbrev af3:AK:=.seq (.aa [m 55 9,m 56 6,b 57 .lss 55 56,m 58 57,.af 59 58 true false 75059 (.ah (.t 0)),.af 60 58 true false 75060 (.ao (.t 59)),.af 61 58 true false 75061 (.ak false 4 1 (.t 60)),.af 62 58 true false 75062 (.ld false 1 (.t 61)),.af 63 58 true false 75063 (.bin .eql (.t 62) (ci 0)),.v 64 (.pick (.t 58) (.t 63) (.c (.bool false)))] [0,4,5,6,7,8,9,64,2000000]) (.cond (.t 64) .skip (.exit 0))
abbrev afZ:AK:=.seq af3 af0
abbrev agb:AK:=.loop afZ
abbrev afY:AK:=.seq (.aa [k 9 (ci 0)] [0,4,5,6,7,8,9,2000000]) (.block 0 agb)
abbrev afS:AK:=.seq afY sV
abbrev afJ:AK:=.seq (.aa [.eff 54 false 75054 (.a8 1 [(ci 16),(ci 17),(ci 18),(ci 0),(ci 8),(ci 7),(ci 9),(ci 6),(ci 10),(ci 5),(ci 11),(ci 4),(ci 12),(ci 3),(ci 13),(ci 2),(ci 14),(ci 1),(ci 15)]),m 8 54] [0,4,5,6,7,8,2000000]) afS
abbrev zG:AK:=.seq (.aa [.eff 53 false 75053 (.jG 1 8 [.int .i64 0] (ci 19) (ci 19)),m 7 53] [0,4,5,6,7,2000000]) afJ
abbrev af5:AK:=.aa [m 51 0,.ai (some 52) false 75052 93 [(.t 51),(ci 3)]] [0,4,5,6,2000000]
abbrev af4:AK:=.seq (.aa [m 45 4,bi 46 .gtr 45 286,m 47 46,.af 48 47 false false 75048 (.ah (.t 5)),.af 49 47 false false 75049 (.bin .gtr (.t 48) (ci 30)),.v 50 (.pick (.t 47) (.c (.bool true)) (.t 49))] [0,4,5,6,50,2000000]) (.cond (.t 50) af5 .skip)
def afw:AK:=.seq af4 (.bq zG)
abbrev afp:AK:=.seq (.aa [m 36 0,.ai (some 37) false 75037 94 [(.t 36),(ci 5)],bi 38 .add 37 257,m 39 0,.ai (some 40) false 75040 94 [(.t 39),(ci 5)],bi 41 .add 40 1,m 42 0,.ai (some 43) false 75043 94 [(.t 42),(ci 4)],bi 44 .add 43 4,m 4 38,m 5 41,m 6 44] [0,4,5,6,2000000]) afw
abbrev af7:AK:=.aa [m 34 0,.ai (some 35) false 75035 93 [(.t 34),(ci 6)]] [0,2000000]
abbrev af6:AK:=.seq (.aa [m 16 0,.v 17 (.ao (.t 16)),.v 18 (.ak false 4 1 (.t 17)),.v 19 (.ld false 1 (.t 18)),bi 20 .eql 19 0,m 21 20,.af 22 21 true true 75022 (.ah (.t 0)),.af 23 21 true true 75023 (.ao (.t 22)),.af 24 21 true true 75024 (.ak false 0 1 (.t 23)),.af 25 21 true true 75025 (.ld false 1 (.t 24)),.af 26 21 true true 75026 (.len false (.t 25)),.af 27 21 true true 75027 (.ah (.t 0)),.af 28 21 true true 75028 (.ao (.t 27)),.af 29 21 true true 75029 (.ak false 1 1 (.t 28)),.af 30 21 true true 75030 (.ld false 1 (.t 29)),.af 31 21 true false 75031 (.bin .sub (.t 26) (.t 30)),.af 32 21 true false 75032 (.bin .lss (.t 31) (ci 14)),.v 33 (.pick (.t 21) (.t 32) (.c (.bool false)))] [0,33,2000000]) (.cond (.t 33) af7 .skip)
def afh:AK:=.seq af6 (.bq afp)
abbrev afg:AK:=.seq (.aa [k 2 (.c (.al)),k 3 (.c (.al))] [0,2000000]) afh
abbrev zD:AK:=afg
theorem agc:aB Tryz.prog 98 75000 1 zD [.tmp 2,.tmp 3]:=⟨_,Tryz.func98,by kernel_rfl⟩
theorem age {h a0 Post} (hp:aD Tryz.prog zD [.tmp 2,.tmp 3] 1 [(0,a0),(2000000,a0)] h Post):Eng.Spec Tryz.prog 98 h [a0] Post:=aG agc rfl [(0,a0),(2000000,a0)] ⟨rfl,rfl,trivial⟩ hp
abbrev aic:AK:=.aa [m 123 16,bi 124 .add 123 1,m 16 124] [0,6,7,8,9,10,11,13,15,16,2000000,2000001,2000002]
abbrev aid:AK:=.aa [u 76125 125 (.ah (.t 0)),u 76126 126 (.ah (.t 0)),u 76127 127 (.ao (.t 126)),u 76128 128 (.ak false 2 1 (.t 127)),u 76129 129 (.ld false 1 (.t 128)),u 76130 130 (.ah (.t 0)),u 76131 131 (.ao (.t 130)),u 76132 132 (.ak false 2 1 (.t 131)),u 76133 133 (.ld false 1 (.t 132)),u 76134 134 (.len false (.t 133)),u 76135 135 (.ah (.t 15)),u 76136 136 (.bin .sub (.t 134) (.t 135)),.v 137 (.aY 1 (.t 129) (.t 136)),.v 138 (.ld false 1 (.t 137)),.ai (some 139) false 76139 144 [(.t 125),(.t 138)]] [0,6,7,8,9,10,11,13,15,16,2000000,2000001,2000002]
abbrev aib:AK:=.seq (.block 3 aid) aic
abbrev aie:AK:=.seq (.aa [m 113 16,m 114 13,b 115 .lss 113 114,m 116 115,.af 117 116 true false 76117 (.ah (.t 0)),.af 118 116 true false 76118 (.ao (.t 117)),.af 119 116 true false 76119 (.ak false 4 1 (.t 118)),.af 120 116 true false 76120 (.ld false 1 (.t 119)),.af 121 116 true false 76121 (.bin .eql (.t 120) (ci 0)),.v 122 (.pick (.t 116) (.t 121) (.c (.bool false)))] [0,6,7,8,9,10,11,13,15,16,122,2000000,2000001,2000002]) (.cond (.t 122) .skip (.exit 2))
abbrev aia:AK:=.seq aie aib
abbrev aiv:AK:=.loop aia
abbrev sX:AK:=.seq (.aa [k 16 (ci 0)] [0,6,7,8,9,10,11,13,15,16,2000000,2000001,2000002]) (.block 2 aiv)
abbrev aif:AK:=.aa [m 111 0,.ai (some 112) false 76112 93 [(.t 111),(ci 3)]] [0,6,7,8,9,10,11,13,15,2000000,2000001,2000002]
abbrev zW:AK:=.seq (.aa [m 97 0,.v 98 (.ao (.t 97)),.v 99 (.ak false 4 1 (.t 98)),.v 100 (.ld false 1 (.t 99)),bi 101 .eql 100 0,m 102 101,.af 103 102 true false 76103 (.ah (.t 15)),.af 104 102 true false 76104 (.ah (.t 0)),.af 105 102 true false 76105 (.ao (.t 104)),.af 106 102 true false 76106 (.ak false 2 1 (.t 105)),.af 107 102 true false 76107 (.ld false 1 (.t 106)),.af 108 102 true false 76108 (.len false (.t 107)),.af 109 102 true false 76109 (.bin .gtr (.t 103) (.t 108)),.v 110 (.pick (.t 102) (.t 109) (.c (.bool false)))] [0,6,7,8,9,10,11,13,15,110,2000000,2000001,2000002]) (.cond (.t 110) aif .skip)
def sW:AK:=.seq zW (.bq sX)
abbrev zX:AK:=.alt [u 76086 86 (.ah (.t 10)),u 76087 87 (.ah (.t 14)),u 76088 88 (.aY 1 (.t 86) (.t 87)),u 76090 90 (.ah (.t 0)),u 76091 91 (.ah (.t 11)),u 76092 92 (.ah (.t 14)),u 76093 93 (.aY 1 (.t 91) (.t 92)),u 76094 94 (.ld false 1 (.t 93))] [u 76089 89 (.ld false 1 (.t 88)),.ai (some 95) false 76095 94 [(.t 90),(.t 94)],b 96 .add 89 95,m 15 96] [.ai (some 95) false 76095 94 [(.t 90),(.t 94)],u 76089 89 (.ld false 1 (.t 88)),b 96 .add 89 95,m 15 96] [0,6,7,8,9,10,11,13,15,2000000,2000001,2000002]
def zU:AK:=.seq zX (.bq sW)
abbrev aih:AK:=.seq (.aa [m 81 0,.v 82 (.ao (.t 81)),.v 83 (.ak false 4 1 (.t 82)),.v 84 (.ld false 1 (.t 83)),bi 85 .neq 84 0] [0,6,7,8,9,10,11,13,14,85,2000000,2000001,2000002]) (.cond (.t 85) .ret .skip)
abbrev zT:AK:=.seq aih zU
abbrev aij:AK:=.aa [m 79 0,.ai (some 80) false 76080 93 [(.t 79),(ci 3)]] [0,6,7,8,9,10,11,13,14,2000000,2000001,2000002]
abbrev zY:AK:=.seq (.aa [m 70 0,.v 71 (.ao (.t 70)),.v 72 (.ak false 4 1 (.t 71)),.v 73 (.ld false 1 (.t 72)),bi 74 .eql 73 0,m 75 74,.af 76 75 true false 76076 (.ah (.t 14)),.af 77 75 true false 76077 (.bin .gtr (.t 76) (ci 29)),.v 78 (.pick (.t 75) (.t 77) (.c (.bool false)))] [0,6,7,8,9,10,11,13,14,78,2000000,2000001,2000002]) (.cond (.t 78) aij .skip)
def zS:AK:=.seq zY (.bq zT)
abbrev zR:AK:=.seq (.aa [m 67 0,m 68 7,.ai (some 69) false 76069 147 [(.t 67),(.t 68)],m 14 69] [0,6,7,8,9,10,11,13,14,2000000,2000001,2000002]) zS
abbrev zZ:AK:=.alt [u 76054 54 (.ah (.t 8)),u 76055 55 (.ah (.t 12)),u 76056 56 (.bin .sub (.t 55) (ci 257)),u 76057 57 (.aY 1 (.t 54) (.t 56)),u 76059 59 (.ah (.t 0)),u 76060 60 (.ah (.t 9)),u 76061 61 (.ah (.t 12)),u 76062 62 (.bin .sub (.t 61) (ci 257)),u 76063 63 (.aY 1 (.t 60) (.t 62)),u 76064 64 (.ld false 1 (.t 63))] [u 76058 58 (.ld false 1 (.t 57)),.ai (some 65) false 76065 94 [(.t 59),(.t 64)],b 66 .add 58 65,m 13 66] [.ai (some 65) false 76065 94 [(.t 59),(.t 64)],u 76058 58 (.ld false 1 (.t 57)),b 66 .add 58 65,m 13 66] [0,6,7,8,9,10,11,13,2000000,2000001,2000002]
def z6:AK:=.seq zZ (.bq zR)
abbrev ail:AK:=.seq (.aa [m 52 0,.ai (some 53) false 76053 93 [(.t 52),(ci 3)]] [2000000,2000001,2000002]) .ret
abbrev aik:AK:=.seq (.aa [m 50 12,bi 51 .gtr 50 285] [0,6,7,8,9,10,11,12,51,2000000,2000001,2000002]) (.cond (.t 51) ail .skip)
abbrev ait:AK:=.seq aik z6
abbrev ain:AK:=.seq (.aa [m 46 0,m 47 12,.v 48 (.a6 .u8 (.t 47)),.ai (some 49) false 76049 144 [(.t 46),(.t 48)]] [0,6,7,8,9,10,11,2000000,2000001,2000002]) (.exit 1)
abbrev aim:AK:=.seq (.aa [m 44 12,bi 45 .lss 44 256] [0,6,7,8,9,10,11,12,45,2000000,2000001,2000002]) (.cond (.t 45) ain .skip)
abbrev ais:AK:=.seq aim ait
abbrev aio:AK:=.seq (.aa [m 35 0,.v 36 (.ao (.t 35)),.v 37 (.ak false 4 1 (.t 36)),.v 38 (.ld false 1 (.t 37)),bi 39 .neq 38 0,m 40 39,.af 41 40 false false 76041 (.ah (.t 12)),.af 42 40 false false 76042 (.bin .eql (.t 41) (ci 256)),.v 43 (.pick (.t 40) (.c (.bool true)) (.t 42))] [0,6,7,8,9,10,11,12,43,2000000,2000001,2000002]) (.cond (.t 43) .ret .skip)
abbrev air:AK:=.seq aio ais
abbrev aiq:AK:=.seq (.aa [m 32 0,m 33 6,.ai (some 34) false 76034 147 [(.t 32),(.t 33)],m 12 34] [0,6,7,8,9,10,11,12,2000000,2000001,2000002]) air
abbrev aip:AK:=.seq (.aa [m 27 0,.v 28 (.ao (.t 27)),.v 29 (.ak false 4 1 (.t 28)),.v 30 (.ld false 1 (.t 29)),bi 31 .eql 30 0] [0,6,7,8,9,10,11,31,2000000,2000001,2000002]) (.cond (.t 31) .skip (.exit 0))
abbrev aii:AK:=.seq aip (.block 1 aiq)
abbrev aiu:AK:=.loop aii
abbrev ah9:AK:=.seq (.aa [.ai (some 22) false 76022 146 [],m 21 22,.v 23 (.ext (.t 21) 0),.v 24 (.ext (.t 21) 1),.v 25 (.ext (.t 21) 2),.v 26 (.ext (.t 21) 3),m 8 23,m 9 24,m 10 25,m 11 26] [0,6,7,8,9,10,11,2000000,2000001,2000002]) (.block 0 aiu)
abbrev ah8:AK:=.seq (.aa [m 17 1,.ai (some 18) false 76018 145 [(.t 17)],m 19 2,.ai (some 20) false 76020 145 [(.t 19)],m 6 18,m 7 20] [0,6,7,2000000,2000001,2000002]) ah9
abbrev zQ:AK:=ah8
theorem mQ (P:Program) (E:Env) (Q:KQ) (st:St) :
 (vcW P E sW Q st=vcW P E zW (KQ.seq P E (.bq sX) Q) st) ∧
 (vcW P E zU Q st=vcW P E zX (KQ.seq P E (.bq sW) Q) st) ∧
 (vcW P E zS Q st=vcW P E zY (KQ.seq P E (.bq zT) Q) st) ∧
 (vcW P E z6 Q st=vcW P E zZ (KQ.seq P E (.bq zR) Q) st):=
 ⟨rfl,rfl,rfl,rfl⟩
theorem aiw:aB Tryz.prog 97 76000 3 zQ []:=⟨_,Tryz.func97,by kernel_rfl⟩
theorem aix {h a0 a1 a2 Post} (hp:aD Tryz.prog zQ [] 3 [(0,a0),(1,a1),(2,a2),(2000000,a0),(2000001,a1),(2000002,a2)] h Post):Eng.Spec Tryz.prog 97 h [a0,a1,a2] Post:=aG aiw rfl [(0,a0),(1,a1),(2,a2),(2000000,a0),(2000001,a1),(2000002,a2)] ⟨rfl,rfl,rfl,rfl,rfl,rfl,trivial⟩ hp
abbrev agD:AK:=.seq (.aa [m 36 2,m 37 3,m 0 36,m 1 37] [0,1]) .ret
abbrev agH:AK:=.aa [m 31 6,bi 32 .add 31 1,m 6 32] [2,3,6]
abbrev agm:AK:=.aa [m 33 3,.eff 34 false 77034 (.a8 1 [(ci 5)]),.eff 35 false 77035 (.app 1 8 (.t 33) (.t 34)),m 3 35] [2,3,6]
abbrev agG:AK:=.seq (.block 3 agm) agH
abbrev agn:AK:=.seq (.aa [m 29 6,bi 30 .lss 29 32] [2,3,6,30]) (.cond (.t 30) .skip (.exit 2))
abbrev agF:AK:=.seq agn agG
abbrev agI:AK:=.loop agF
abbrev agE:AK:=.seq (.aa [k 6 (ci 0)] [2,3,6]) (.block 2 agI)
abbrev agB:AK:=.seq agE agD
abbrev agr:AK:=.aa [m 11 4,bi 12 .add 11 1,m 4 12] [2,3,4]
abbrev agw:AK:=.aa [m 25 2,m 26 5,.eff 27 false 77027 (.a8 1 [(.t 26)]),.eff 28 false 77028 (.app 1 8 (.t 25) (.t 27)),m 2 28] [2,3,4]
abbrev agy:AK:=.aa [k 5 (ci 7)] [2,3,4,5]
abbrev agx:AK:=.seq (.aa [m 19 4,bi 20 .geq 19 256,m 21 20,.af 22 21 true false 77022 (.ah (.t 4)),.af 23 21 true false 77023 (.bin .lss (.t 22) (ci 280)),.v 24 (.pick (.t 21) (.t 23) (.c (.bool false)))] [2,3,4,5,24]) (.cond (.t 24) agy .skip)
abbrev agv:AK:=.seq agx agw
abbrev agA:AK:=.aa [k 5 (ci 9)] [2,3,4,5]
abbrev agz:AK:=.seq (.aa [m 13 4,bi 14 .geq 13 144,m 15 14,.af 16 15 true false 77016 (.ah (.t 4)),.af 17 15 true false 77017 (.bin .lss (.t 16) (ci 256)),.v 18 (.pick (.t 15) (.t 17) (.c (.bool false)))] [2,3,4,5,18]) (.cond (.t 18) agA .skip)
def agu:AK:=.seq agz (.bq agv)
abbrev agt:AK:=.seq (.aa [k 5 (ci 8)] [2,3,4,5]) agu
abbrev agq:AK:=.seq (.block 1 agt) agr
abbrev agC:AK:=.seq (.aa [m 9 4,bi 10 .lss 9 288] [2,3,4,10]) (.cond (.t 10) .skip (.exit 0))
abbrev agp:AK:=.seq agC agq
abbrev agJ:AK:=.loop agp
abbrev ago:AK:=.seq (.aa [k 4 (ci 0)] [2,3,4]) (.block 0 agJ)
abbrev ags:AK:=.seq ago agB
abbrev agl:AK:=.seq (.aa [.eff 7 false 77007 (.a8 1 []),.eff 8 false 77008 (.a8 1 []),m 2 7,m 3 8] [2,3]) ags
abbrev agk:AK:=.seq (.aa [k 0 (.c (.al)),k 1 (.c (.al))] []) agl
abbrev zK:AK:=agk
theorem agK:aB Tryz.prog 96 77000 0 zK [.tmp 0,.tmp 1]:=⟨_,Tryz.func96,by kernel_rfl⟩
theorem agM {h Post} (hp:aD Tryz.prog zK [.tmp 0,.tmp 1] 0 [] h Post):Eng.Spec Tryz.prog 96 h [] Post:=aG agK rfl [] trivial hp
abbrev ahP:AK:=.seq (.aa [m 65 4,m 66 5,m 67 9,m 68 10,m 0 65,m 1 66,m 2 67,m 3 68] [0,1,2,3]) .ret
abbrev ahn:AK:=.aa [m 46 11,bi 47 .add 46 1,m 11 47] [4,5,6,9,10,11]
abbrev aht:AK:=.aa [m 61 6,m 62 12,.v 63 (.bin .shl (ci 1) (.t 62)),b 64 .add 61 63,m 6 64] [4,5,6,9,10,11]
abbrev ahr:AK:=.seq (.aa [m 57 10,m 58 12,.eff 59 false 78059 (.a8 1 [(.t 58)]),.eff 60 false 78060 (.app 1 8 (.t 57) (.t 59)),m 10 60] [4,5,6,9,10,11,12]) aht
abbrev ahq:AK:=.seq (.aa [m 53 9,m 54 6,.eff 55 false 78055 (.a8 1 [(.t 54)]),.eff 56 false 78056 (.app 1 8 (.t 53) (.t 55)),m 9 56] [4,5,6,9,10,11,12]) ahr
abbrev ahv:AK:=.aa [m 50 11,bi 51 .quo 50 2,bi 52 .sub 51 1,m 12 52] [4,5,6,9,10,11,12]
abbrev ahu:AK:=.seq (.aa [m 48 11,bi 49 .geq 48 4] [4,5,6,9,10,11,12,49]) (.cond (.t 49) ahv .skip)
def ahp:AK:=.seq ahu (.bq ahq)
abbrev aho:AK:=.seq (.aa [k 12 (ci 0)] [4,5,6,9,10,11,12]) ahp
abbrev ahm:AK:=.seq (.block 3 aho) ahn
abbrev ahw:AK:=.seq (.aa [m 44 11,bi 45 .lss 44 30] [4,5,6,9,10,11,45]) (.cond (.t 45) .skip (.exit 2))
abbrev ahl:AK:=.seq ahw ahm
abbrev ahQ:AK:=.loop ahl
abbrev ahk:AK:=.seq (.aa [k 11 (ci 0)] [4,5,6,9,10,11]) (.block 2 ahQ)
abbrev ahO:AK:=.seq ahk ahP
abbrev ahN:AK:=.seq (.aa [k 6 (ci 1)] [4,5,6,9,10]) ahO
abbrev ahM:AK:=.seq (.aa [.eff 42 false 78042 (.a8 1 []),.eff 43 false 78043 (.a8 1 []),m 9 42,m 10 43] [4,5,9,10]) ahN
abbrev ahL:AK:=.seq (.aa [m 39 5,.eff 40 false 78040 (.a8 1 [(ci 0)]),.eff 41 false 78041 (.app 1 8 (.t 39) (.t 40)),m 5 41] [4,5]) ahM
abbrev ahJ:AK:=.seq (.aa [m 36 4,.eff 37 false 78037 (.a8 1 [(ci 258)]),.eff 38 false 78038 (.app 1 8 (.t 36) (.t 37)),m 4 38] [4,5]) ahL
abbrev ahB:AK:=.aa [m 17 7,bi 18 .add 17 1,m 7 18] [4,5,6,7]
abbrev ahG:AK:=.aa [m 32 6,m 33 8,.v 34 (.bin .shl (ci 1) (.t 33)),b 35 .add 32 34,m 6 35] [4,5,6,7]
abbrev ahF:AK:=.seq (.aa [m 28 5,m 29 8,.eff 30 false 78030 (.a8 1 [(.t 29)]),.eff 31 false 78031 (.app 1 8 (.t 28) (.t 30)),m 5 31] [4,5,6,7,8]) ahG
abbrev ahE:AK:=.seq (.aa [m 24 4,m 25 6,.eff 26 false 78026 (.a8 1 [(.t 25)]),.eff 27 false 78027 (.app 1 8 (.t 24) (.t 26)),m 4 27] [4,5,6,7,8]) ahF
abbrev ahI:AK:=.aa [m 21 7,bi 22 .quo 21 4,bi 23 .sub 22 1,m 8 23] [4,5,6,7,8]
abbrev ahH:AK:=.seq (.aa [m 19 7,bi 20 .geq 19 8] [4,5,6,7,8,20]) (.cond (.t 20) ahI .skip)
def ahD:AK:=.seq ahH (.bq ahE)
abbrev ahC:AK:=.seq (.aa [k 8 (ci 0)] [4,5,6,7,8]) ahD
abbrev ahz:AK:=.seq (.block 1 ahC) ahB
abbrev ahK:AK:=.seq (.aa [m 15 7,bi 16 .lss 15 28] [4,5,6,7,16]) (.cond (.t 16) .skip (.exit 0))
abbrev ahy:AK:=.seq ahK ahz
abbrev ahR:AK:=.loop ahy
abbrev ahx:AK:=.seq (.aa [k 7 (ci 0)] [4,5,6,7]) (.block 0 ahR)
abbrev ahA:AK:=.seq ahx ahJ
abbrev ahs:AK:=.seq (.aa [k 6 (ci 3)] [4,5,6]) ahA
abbrev ahj:AK:=.seq (.aa [.eff 13 false 78013 (.a8 1 []),.eff 14 false 78014 (.a8 1 []),m 4 13,m 5 14] [4,5]) ahs
abbrev ahi:AK:=.seq (.aa [k 0 (.c (.al)),k 1 (.c (.al)),k 2 (.c (.al)),k 3 (.c (.al))] []) ahj
abbrev zO:AK:=ahi
theorem ahS:aB Tryz.prog 146 78000 0 zO [.tmp 0,.tmp 1,.tmp 2,.tmp 3]:=⟨_,Tryz.func146,by kernel_rfl⟩
theorem ahU {h Post} (hp:aD Tryz.prog zO [.tmp 0,.tmp 1,.tmp 2,.tmp 3] 0 [] h Post):Eng.Spec Tryz.prog 146 h [] Post:=aG ahS rfl [] trivial hp
abbrev zN:AK:=.seq (.aa [m 121 9,.v 122 (.ao (.t 121)),.v 123 (.ak false 4 1 (.t 122)),.v 124 (.ld false 1 (.t 123)),u 79006 6 (.ah (.c (.str []))),u 79007 7 (.ah (ci 0)),m 8 124] [6,7,8]) .ret
abbrev agR:AK:=.seq (.aa [u 79110 110 (.ah (.t 9)),u 79111 111 (.ao (.t 110)),u 79112 112 (.ak false 2 1 (.t 111)),u 79113 113 (.ld false 1 (.t 112)),u 79114 114 (.dK (.t 113)),u 79115 115 (.ah (.t 9)),u 79116 116 (.ao (.t 115)),u 79117 117 (.ak false 1 1 (.t 116)),u 79118 118 (.ld false 1 (.t 117)),.ai (some 119) true 79119 99 [(.t 118)],u 79120 120 (.bin .quo (.t 119) (ci 8)),u 79006 6 (.ah (.t 114)),m 7 120,k 8 (ci 0)] [6,7,8]) .ret
abbrev agQ:AK:=.seq (.aa [m 101 9,.v 102 (.ao (.t 101)),.v 103 (.ak false 4 1 (.t 102)),.v 104 (.ld false 1 (.t 103)),bi 105 .eql 104 0,m 106 105,.af 107 106 true false 79107 (.ah (.t 10)),.af 108 106 true false 79108 (.bin .eql (.t 107) (ci 1)),.v 109 (.pick (.t 106) (.t 108) (.c (.bool false)))] [9,109]) (.cond (.t 109) agR .skip)
abbrev agV:AK:=.aa [m 69 9,.ai (some 70) false 79070 95 [(.t 69)]] [9,10]
abbrev agY:AK:=.aa [m 77 9,m 78 12,m 79 13,.ai (some 80) false 79080 97 [(.t 77),(.t 78),(.t 79)]] [9,10]
abbrev agX:AK:=.seq (.aa [.ai (some 74) false 79074 96 [],m 73 74,.v 75 (.ext (.t 73) 0),.v 76 (.ext (.t 73) 1),m 12 75,m 13 76] [9,10,12,13]) agY
abbrev ag3:AK:=.aa [m 93 9,m 94 14,m 95 15,.ai (some 96) false 79096 97 [(.t 93),(.t 94),(.t 95)]] [9,10]
abbrev ag1:AK:=.seq (.aa [m 88 9,.v 89 (.ao (.t 88)),.v 90 (.ak false 4 1 (.t 89)),.v 91 (.ld false 1 (.t 90)),bi 92 .eql 91 0] [9,10,14,15,92]) (.cond (.t 92) ag3 .skip)
abbrev ag0:AK:=.seq (.aa [m 84 9,.ai (some 85) false 79085 98 [(.t 84)],m 83 85,.v 86 (.ext (.t 83) 0),.v 87 (.ext (.t 83) 1),m 14 86,m 15 87] [9,10,14,15]) ag1
abbrev ag5:AK:=.aa [m 99 9,.ai (some 100) false 79100 93 [(.t 99),(ci 3)]] [9,10]
abbrev ag4:AK:=.seq (.aa [bi 98 .eql 66 3,m 97 98] [9,10,97]) (.cond (.t 97) ag5 .skip)
abbrev agZ:AK:=.seq (.aa [bi 82 .eql 66 2,m 81 82] [9,10,66,81]) (.cond (.t 81) ag0 ag4)
abbrev agW:AK:=.seq (.aa [bi 72 .eql 66 1,m 71 72] [9,10,66,71]) (.cond (.t 71) agX agZ)
abbrev agT:AK:=.seq (.aa [bi 68 .eql 66 0,m 67 68] [9,10,66,67]) (.cond (.t 67) agV agW)
abbrev agS:AK:=.seq (.aa [m 66 11] [9,10,66]) (.block 2 agT)
abbrev zM:AK:=.seq (.aa [m 61 9,.v 62 (.ao (.t 61)),.v 63 (.ak false 4 1 (.t 62)),.v 64 (.ld false 1 (.t 63)),bi 65 .eql 64 0] [9,10,11,65]) (.cond (.t 65) agS .skip)
def agP:AK:=.seq zM (.bq agQ)
abbrev ahd:AK:=.seq (.aa [m 57 9,.ai (some 58) false 79058 94 [(.t 57),(ci 1)],m 59 9,.ai (some 60) false 79060 94 [(.t 59),(ci 2)],m 10 58,m 11 60] [9,10,11]) agP
abbrev ag7:AK:=.aa [m 55 9,.ai (some 56) false 79056 93 [(.t 55),(ci 6)]] [9]
abbrev ag6:AK:=.seq (.aa [u 79044 44 (.ah (.t 9)),u 79045 45 (.ao (.t 44)),u 79046 46 (.ak false 0 1 (.t 45)),u 79047 47 (.ld false 1 (.t 46)),u 79048 48 (.len false (.t 47)),u 79049 49 (.ah (.t 9)),u 79050 50 (.ao (.t 49)),u 79051 51 (.ak false 1 1 (.t 50)),u 79052 52 (.ld false 1 (.t 51)),b 53 .sub 48 52,bi 54 .lss 53 3] [9,54]) (.cond (.t 54) ag7 .skip)
def ahc:AK:=.seq ag6 (.bq ahd)
abbrev ag8:AK:=.seq (.aa [m 39 9,.v 40 (.ao (.t 39)),.v 41 (.ak false 4 1 (.t 40)),.v 42 (.ld false 1 (.t 41)),bi 43 .eql 42 0] [9,43]) (.cond (.t 43) .skip (.exit 0))
abbrev ahb:AK:=.seq ag8 (.block 1 ahc)
abbrev ahe:AK:=.loop ahb
abbrev ag2:AK:=.seq (.block 0 ahe) zN
abbrev agU:AK:=.seq (.aa [m 32 0,m 33 1,.v 34 (.cy (.t 32) (some (.t 33)) none),.ai (some 35) false 79035 92 [(.t 34)],m 36 2,.v 37 (.cM [.al,.int .i64 0,.al,.int .i64 0,.int .i64 0] [(0,1,(.t 35)),(3,1,(.t 36))]),.eff 38 false 79038 (.box 5 (.t 37)),m 9 38] [9]) ag2
abbrev aha:AK:=.seq (.aa [k 6 (.c (.str [])),k 7 (ci 0),k 8 (ci 1)] [6,7,8]) .ret
abbrev ag9:AK:=.seq (.aa [m 16 1,bi 17 .lss 16 0,m 18 17,.af 19 18 false false 79019 (.ah (.t 1)),.af 20 18 false false 79020 (.ah (.t 0)),.af 21 18 false false 79021 (.len true (.t 20)),.af 22 18 false false 79022 (.bin .gtr (.t 19) (.t 21)),.v 23 (.pick (.t 18) (.c (.bool true)) (.t 22)),m 24 23,.af 25 24 false false 79025 (.ah (.t 2)),.af 26 24 false false 79026 (.bin .lss (.t 25) (ci 0)),.v 27 (.pick (.t 24) (.c (.bool true)) (.t 26)),m 28 27,.af 29 28 false false 79029 (.ah (.t 2)),.af 30 28 false false 79030 (.bin .gtr (.t 29) (ci 65536)),.v 31 (.pick (.t 28) (.c (.bool true)) (.t 30))] [0,1,2,31]) (.cond (.t 31) aha .skip)
abbrev agO:AK:=.seq ag9 agU
abbrev agN:AK:=.seq (.aa [k 6 (.c (.str [])),k 7 (ci 0),k 8 (ci 0)] [0,1,2]) agO
abbrev zL:AK:=agN
theorem ahf:aB Tryz.prog 50 79000 3 zL [.tmp 6,.tmp 7,.tmp 8]:=⟨_,Tryz.func50,by kernel_rfl⟩
theorem ahh {h a0 a1 a2 Post} (hp:aD Tryz.prog zL [.tmp 6,.tmp 7,.tmp 8] 3 [(0,a0),(1,a1),(2,a2)] h Post):Eng.Spec Tryz.prog 50 h [a0,a1,a2] Post:=aG ahf rfl [(0,a0),(1,a1),(2,a2)] ⟨rfl,rfl,rfl,trivial⟩ hp
abbrev LK:AK:=.seq (.aa [m 21 3,m 2 21] [2]) .ret
abbrev LP:AK:=.aa [bi 20 .add 8 1,m 8 20] [0,3,7,8]
abbrev LI:AK:=.aa [m 11 3,m 12 0,m 13 4,.v 14 (.cv (.t 12) (.t 13)),.v 15 (.a6 .u64 (.t 14)),m 16 4,.v 17 (.bin .mul (ci 8) (.t 16)),b 18 .shl 15 17,b 19 .or 11 18,m 3 19] [0,3,7,8]
abbrev LH:AK:=.seq (.aa [m 10 8,m 4 10] [0,3,4,7,8]) LI
abbrev LO:AK:=.seq (.block 1 LH) LP
abbrev LN:AK:=.seq (.cond (.t 9) .skip (.exit 0)) LO
abbrev LM:AK:=.seq (.aa [b 9 .lss 8 7] [0,3,7,8,9]) LN
abbrev LQ:AK:=.loop LM
abbrev LL:AK:=.seq (.aa [m 5 0,.v 6 (.len true (.t 5)),.v 7 (.mm false (.t 6) (ci 8)),k 8 (ci 0)] [0,3,7,8]) (.block 0 LQ)
abbrev LJ:AK:=.seq LL LK
abbrev LG:AK:=.seq (.aa [k 3 (.c (.int .u64 0))] [0,3]) LJ
abbrev LF:AK:=.seq (.aa [k 2 (.c (.int .u64 0))] [0]) LG
abbrev wR:AK:=LF
theorem LR:aB Tryz.prog 186 80000 1 wR [.tmp 2]:=⟨_,Tryz.func186,by kernel_rfl⟩
theorem LS {h a0 Post} (hp:aD Tryz.prog wR [.tmp 2] 1 [(0,a0)] h Post):Eng.Spec Tryz.prog 186 h [a0] Post:=aG LR rfl [(0,a0)] ⟨rfl,trivial⟩ hp
end Go.Proofs.YtlkmppkcbhodaaaGreatDoor.Cod
namespace Go.Proofs.YtlkmppkcbhodaaaGreatDoor.Pk
open Eng
set_option maxRecDepth 10000
def eS:Nat:=79038
def qC:Nat:=73035
attribute [go_sem] eS qC
def aA (t:Bs) (most:Nat) (S:SS):HP:=[(eS,.var [.ro 1 (b7 (aR t 0)),.int .i64 S.p,.sl qC 0 S.out.length,.int .i64 most,.int .i64 S.err]),(qC,.arr 1 (S.out.map ub))]
theorem aF {p:Prop} (h:p:=by simp(disch:=first | omega | (simp only[Lx];omega))only[go_sem,simprocAttr,aA]):p:=h
theorem bC {a b:Prop} (k:b) (h:b→a:=by intro h;simp(disch:=first | omega | (simp only[Lx];omega))only[go_sem,simprocAttr,aA];exact h):a:=h k
theorem bW {E0:Prop} {p:Prop} (e0:E0) (h:E0→p:=by intro e0;simp(disch:=first | omega | (simp only[Lx];omega))only[go_sem,simprocAttr,aA,e0]):p:=h e0
theorem b4 {E0:Prop} {a b:Prop} (e0:E0) (k:b) (h:E0→b→a:=by intro e0 h;simp(disch:=first | omega | (simp only[Lx];omega))only[go_sem,simprocAttr,aA,e0];exact h):a:=h e0 k
theorem Cg {E0 E1:Prop} {p:Prop} (e0:E0) (e1:E1) (h:E0→E1→p:=by intro e0 e1;simp(disch:=first | omega | (simp only[Lx];omega))only[go_sem,simprocAttr,aA,e0,e1]):p:=h e0 e1
theorem gp {E0 E1:Prop} {a b:Prop} (e0:E0) (e1:E1) (k:b) (h:E0→E1→b→a:=by intro e0 e1 h;simp(disch:=first | omega | (simp only[Lx];omega))only[go_sem,simprocAttr,aA,e0,e1];exact h):a:=h e0 e1 k
theorem ij {E0 E1 E2:Prop} {a b:Prop} (e0:E0) (e1:E1) (e2:E2) (k:b) (h:E0→E1→E2→b→a:=by intro e0 e1 e2 h;simp(disch:=first | omega | (simp only[Lx];omega))only[go_sem,simprocAttr,aA,e0,e1,e2];exact h):a:=h e0 e1 e2 k
theorem asS {E0 E1 E2 E3:Prop} {p:Prop} (e0:E0) (e1:E1) (e2:E2) (e3:E3) (h:E0→E1→E2→E3→p:=by intro e0 e1 e2 e3;simp(disch:=first | omega | (simp only[Lx];omega))only[go_sem,simprocAttr,aA,e0,e1,e2,e3]):p:=h e0 e1 e2 e3
theorem tI {E0 E1 E2 E3:Prop} {a b:Prop} (e0:E0) (e1:E1) (e2:E2) (e3:E3) (k:b) (h:E0→E1→E2→E3→b→a:=by intro e0 e1 e2 e3 h;simp(disch:=first | omega | (simp only[Lx];omega))only[go_sem,simprocAttr,aA,e0,e1,e2,e3];exact h):a:=h e0 e1 e2 e3 k
theorem qv {E0 E1 E2 E3 E4:Prop} {a b:Prop} (e0:E0) (e1:E1) (e2:E2) (e3:E3) (e4:E4) (k:b) (h:E0→E1→E2→E3→E4→b→a:=by intro e0 e1 e2 e3 e4 h;simp(disch:=first | omega | (simp only[Lx];omega))only[go_sem,simprocAttr,aA,e0,e1,e2,e3,e4];exact h):a:=h e0 e1 e2 e3 e4 k
theorem tJ {E0 E1 E2 E3 E4 E5:Prop} {a b:Prop} (e0:E0) (e1:E1) (e2:E2) (e3:E3) (e4:E4) (e5:E5) (k:b) (h:E0→E1→E2→E3→E4→E5→b→a:=by intro e0 e1 e2 e3 e4 e5 h;simp(disch:=first | omega | (simp only[Lx];omega))only[go_sem,simprocAttr,aA,e0,e1,e2,e3,e4,e5];exact h):a:=h e0 e1 e2 e3 e4 e5 k
structure bS (t:Bs) (most:Nat) (S:SS):Prop where
 tl:t.length≤1000000
 ml:most≤1000000
 pl:S.p≤8*t.length
 ol:S.out.length≤most
theorem bS.mv {t:Bs} {most:Nat} {S S':SS} (h:bS t most S) (k:Mv t most S S'):bS t most S':=⟨h.tl,h.ml,k.q h.pl,k.o h.ol⟩
theorem nT (t:Bs):(b7 (aR t 0)).length=8*t.length:=by rw[ix,fS];omega
theorem ta (t:Bs) (p:Nat):(aR t 0).drop p=aR t p:=by
 apply List.ext_getElem?
 intro j
 rw[List.getElem?_drop]
 unfold aR
 rw[List.getElem?_map,List.getElem?_map]
 by_cases h:p+j<8*t.length
 ·rw[List.getElem?_range (by omega),List.getElem?_range (by omega)]
  simp only[Option.map_some,Nat.zero_add]
 ·rw[List.getElem?_eq_none (by simp;omega),List.getElem?_eq_none (by simp;omega)];rfl
theorem eP (t:Bs) (most:Nat) (S:SS) (e:Nat):Eng.Spec Tryz.prog 93 (aA t most S) [.ab eS 0,.int .i64 e] (fun h' v ar=>h'=aA t most (b9 e S)∧v=.aj []∧ar=[.ab eS 0,.int .i64 e]):=by
 refine Cod.agj (fun E R hN hR=>?_)
 unfold b9 at hR
 by_cases h:S.err=0
 ·rw[if_pos h]at hR
  refine b4 h ?_
  exact hR.le aF ⟨rfl,rfl,rfl⟩
 ·rw[if_neg h]at hR
  have hi:¬((S.err:Int)=0):=by omega
  refine b4 hi ?_
  exact hR.le aF ⟨rfl,rfl,rfl⟩
theorem fR (t:Bs) (most:Nat) (S:SS) (h:bS t most S) (n:Nat) (hn:n≤31):Eng.Spec Tryz.prog 94 (aA t most S) [.ab eS 0,.int .i64 n]
    (fun h' v ar=>h'=aA t most (aH t n S).2∧v=.int .i64 ((aH t n S).1:Nat)∧ar=[.ab eS 0,.int .i64 n]):=by
 refine Cod.ah7 (fun E R hN hR=>?_)
 obtain⟨h1,h2,h3,h4⟩:=h
 have hbl:=nT t
 by_cases he:S.err=0
 ·by_cases hl:8*t.length<S.p+n
  ·rw[jJ he hl]at hR
   refine gp he hbl ?_
   refine aJ (aA t most S) (eP t most S 6) (bW he) nofun ?_
   rintro h' v ar ⟨rfl,rfl,rfl⟩
   refine⟨aF,rfl,?_⟩
   rw[eJ he]
   refine bC ?_
   exact hR.le aF ⟨rfl,rfl,rfl⟩
  ·rw[ez he (by omega)]at hR
   have hnb:=pM t S.p n (by omega)
   have hnl:=fE t S.p n
   have hn2:2^n≤2^31:=Nat.pow_le_pow_right (by decide) hn
   have hr3:=ac2 ((aR t S.p).take n) (by rw[List.length_take];omega)
   rw[hnb]at hr3
   have es:S.p+n-S.p=n:=by omega
   refine qv he hbl @j7 @ta es ?_
   refine aE hr3 rfl rfl ?_
   refine wW ?_
   exact hR.le aF ⟨rfl,rfl,rfl⟩
 ·rw[kE he]at hR
  have hi:¬((S.err:Int)=0):=by omega
  refine b4 hi ?_
  exact hR.le aF ⟨rfl,rfl,rfl⟩
theorem s3 (t:Bs) (most:Nat) (S:SS) (h:bS t most S) (l:List Nat) (hl:∀n∈l,n≤15) (hll:l.length≤320):Eng.Spec Tryz.prog 147 (aA t most S) [.ab eS 0,.ro 1 (bI (aO l))]
    (fun h' v ar=>h'=aA t most (aU t l S).2∧v=.int .i64 ((aU t l S).1:Nat)∧ar=[.ab eS 0,.ro 1 (bI (aO l))]):=by
 refine Cod.aji (fun E R hN hR=>?_)
 obtain⟨h1,h2,h3,h4⟩:=h
 have hbl:=nT t
 by_cases he:S.err=0
 ·have hcl:(aO l).length=l.length:=by simp[aO]
  have hr4:=afe (aO l) ((aR t S.p).take 16) (by omega) (fun c hc=>by
   obtain⟨s,_,rfl⟩:=List.mem_map.1 hc
   rw[gT]
   have:=gF hl s
   omega) (by rw[List.length_take];omega)
  rw[akY hl]at hr4
  have hrb:=lR (aO l) (aR t S.p)
  rw[fS,hcl]at hrb
  have em:(aR t S.p).take (min (S.p+16) (8*t.length)-S.p)=(aR t S.p).take 16:=by
   by_cases hh:S.p+16≤8*t.length
   ·rw[Nat.min_eq_left hh,show S.p+16-S.p=16 by omega]
   ·rw[Nat.min_eq_right (by omega),List.take_of_length_le (by rw[fS];omega),List.take_of_length_le (by rw[fS];omega)]
  have emi:min ((S.p:Int)+16) ((8*t.length:Nat):Int)=((min (S.p+16) (8*t.length):Nat):Int):=by omega
  by_cases hr:(readL (aO l) (aR t S.p)).2.2=0
  ·rw[lY he hr]at hR
   obtain⟨g1,g2,g3⟩:=hrb hr
   rw[hr]at hr4
   generalize readL (aO l) (aR t S.p)=rr at *
   refine tJ he hbl @j7 @ta emi em ?_
   refine aE hr4 rfl rfl ?_
   refine wW ?_
   exact hR.le aF ⟨rfl,rfl,rfl⟩
  ·rw[nr he hr]at hR
   have hi:¬(((readL (aO l) (aR t S.p)).2.2:Int)=0):=by omega
   generalize readL (aO l) (aR t S.p)=rr at *
   refine tJ he hbl @j7 @ta emi em ?_
   refine aE hr4 rfl rfl ?_
   refine aw hi ?_
   refine aJ (aA t most S) (eP t most S rr.2.2) (bW he) nofun ?_
   rintro h' v ar ⟨rfl,rfl,rfl⟩
   refine⟨aF,rfl,?_⟩
   rw[eJ he]
   refine bC ?_
   exact hR.le aF ⟨rfl,rfl,rfl⟩
 ·rw[BS he]at hR
  have hi:¬((S.err:Int)=0):=by omega
  refine b4 hi ?_
  exact hR.le aF ⟨rfl,rfl,rfl⟩
theorem sZ (t:Bs) (most:Nat) (S:SS) (h:bS t most S) (c:UInt8):Eng.Spec Tryz.prog 144 (aA t most S) [.ab eS 0,.int .u8 (c.toNat:Int)]
    (fun h' v ar=>h'=aA t most (cZ most c S)∧v=.aj []∧ar=[.ab eS 0,.int .u8 (c.toNat:Int)]):=by
 refine Cod.aiB (fun E R hN hR=>?_)
 obtain⟨h1,h2,h3,h4⟩:=h
 unfold cZ at hR
 have hc:=c.toNat_lt
 by_cases he:S.err=0
 ·rw[if_neg (by simpa using he)]at hR
  by_cases hf:most≤S.out.length
  ·rw[if_pos hf]at hR
   refine gp he @Cod.sY ?_
   refine gG ?_
   refine aJ (aA t most S) (eP t most S 2) (bW he) nofun ?_
   rintro h' v ar ⟨rfl,rfl,rfl⟩
   refine⟨aF,rfl,?_⟩
   rw[eJ he]
   refine bC ?_
   refine dV hN ?_
   refine wW ?_
   exact hR.le aF ⟨rfl,rfl,rfl⟩
  ·rw[if_neg hf]at hR
   refine gp he @Cod.sY ?_
   refine gG ?_
   refine dV hN ?_
   refine aw he ?_
   refine hR.le ?_ ⟨rfl,rfl,rfl⟩
   refine b4 he ?_
   rw[UInt8.ofNat_toNat]
 ·rw[if_pos he]at hR
  have hi:¬((S.err:Int)=0):=by omega
  refine gp hi @Cod.sY ?_
  (repeat(first | refine eY ?_ | refine eW ?_ | refine eX ?_)<;>simp(disch:=omega)only[go_sem,simprocAttr,aA,hi])
  refine dV hN ?_
  refine aw hi ?_
  exact hR.le aF ⟨rfl,rfl,rfl⟩
theorem s4 (t:Bs) (most n:Nat) (S:SS):rawS t most (n+1) S=if S.err≠0 then S else rawS t most n (cZ most (UInt8.ofNat (aH t 8 S).1) (aH t 8 S).2):=rfl
theorem mL {t:Bs} {most n:Nat} {S:SS} (h:bS t most S):bS t most (aH t n S).2:=h.mv eN
theorem yU {c:Nat} (h:c<256):(UInt8.ofNat c).toNat=c:=by rw[UInt8.toNat_ofNat'];omega
theorem ai4 (t:Bs) (most:Nat) (S:SS) (h:bS t most S):Eng.Spec Tryz.prog 95 (aA t most S) [.ab eS 0]
    (fun h' v ar=>h'=aA t most (dT t most S)∧v=.aj []∧ar=[.ab eS 0]):=by
 refine Cod.ai5 (fun E R hN hR=>?_)
 unfold dT at hR
 simp only at hR
 have hup:=zw S.p (by have:=h.pl;have:=h.tl;omega)
 have h1:bS t most (gn S):=h.mv yM
 have hp1:(gn S).p=cH S.p:=rfl
 have ho1:(gn S).out=S.out:=rfl
 have he1:(gn S).err=S.err:=rfl
 refine bC ?_
 refine aE hup rfl rfl ?_
 refine wW ?_
 generalize hS1:gn S=S1 at *
 rw[←hp1,←ho1,←he1]
 refine aJ (aA t most S1) (fR t most S1 h1 16 (by omega)) aF nofun ?_
 rintro h' v ar ⟨rfl,rfl,rfl⟩
 have h2:=mL (n:=16) h1
 have hn1:=fg (t:=t) (S:=S1) (n:=16)
 generalize aH t 16 S1=a at *
 refine⟨aF,rfl,?_⟩
 refine bC ?_
 refine aJ (aA t most a.2) (fR t most a.2 h2 16 (by omega)) aF nofun ?_
 rintro h' v ar ⟨rfl,rfl,rfl⟩
 have h3:=mL (n:=16) h2
 have hn2:=fg (t:=t) (S:=a.2) (n:=16)
 generalize aH t 16 a.2=b at *
 refine⟨aF,rfl,?_⟩
 refine bC ?_
 generalize hS4:(if a.1+b.1≠65535 then b9 3 b.2 else b.2)=S4 at hR
 have h4:bS t most S4:=by
  rw[←hS4]
  split
  ·exact h3.mv iI
  ·exact h3
 refine da hN (fun _:Unit=>⟨[(0,.ab 79038 0),(2,.int .i64 (a.1:Nat)),(2000000,.ab 79038 0)],aA t most S4⟩) (fun _=>True) (fun R1 hR1=>?_) (fun _ _=>?_)
 ·by_cases he:b.2.err=0
  ·by_cases mB:a.1+b.1=65535
   ·rw[if_neg (by simpa using mB)]at hS4
    have hsi:(a.1:Int)+(b.1:Int)=65535:=by omega
    refine bH he hsi ?_
    refine dY he hsi ?_
    exact hR1 () _ trivial (.le (by rw[←hS4];exact bW he))
   ·rw[if_pos mB]at hS4
    have hsi:¬((a.1:Int)+(b.1:Int)=65535):=by omega
    refine aw he ?_
    refine dY he hsi ?_
    refine aJ (aA t most b.2) (eP t most b.2 3) (bW he) nofun ?_
    rintro h' v ar ⟨rfl,rfl,rfl⟩
    refine⟨aF,rfl,?_⟩
    rw[hS4]
    refine bC ?_
    exact hR1 () _ trivial (.le aF)
  ·have hi:¬((b.2.err:Int)=0):=by omega
   have hS:S4=b.2:=by rw[←hS4];unfold b9;rw[if_neg he,ite_self]
   refine aw hi ?_
   refine bQ hi ?_
   exact hR1 () _ trivial (.le (by rw[hS];exact aF))
 ·refine wW ?_
  refine a7 hN (fun q:Nat×SS=>⟨[(0,.ab 79038 0),(2,.int .i64 (a.1:Nat)),(4,.int .i64 q.1),(2000000,.ab 79038 0)],aA t most q.2⟩) (fun q=>q.1≤a.1∧bS t most q.2∧rawS t most (a.1-q.1) q.2=rawS t most a.1 S4) (fun q=>a.1-q.1) (0,S4) (.le aF) ⟨by omega,h4,rfl⟩ ?_
  rintro⟨i,S⟩ R1 ⟨hi,hok,hraw⟩ hR1
  simp only at hi hok hraw
  rw[←hraw]at hR
  by_cases hlt:i<a.1
  ·obtain⟨k,hk⟩:∃k,a.1-i=k+1:=⟨a.1-i-1,by omega⟩
   rw[hk,s4]at hraw hR
   by_cases he:S.err=0
   ·rw[if_neg (by simpa using he)]at hraw hR
    refine b4 he ?_
    refine bQ he ?_
    refine aJ (aA t most S) (fR t most S hok 8 (by omega)) (bW he) nofun ?_
    rintro h' v ar ⟨rfl,rfl,rfl⟩
    have hok2:=mL (n:=8) hok
    have hn8:=fg (t:=t) (S:=S) (n:=8)
    generalize aH t 8 S=c at *
    have hof:=yU hn8
    have hput:=sZ t most c.2 hok2 (UInt8.ofNat c.1)
    rw[hof]at hput
    refine⟨aF,rfl,?_⟩
    refine bC ?_
    refine aJ (aA t most c.2) hput aF nofun ?_
    rintro h' v ar ⟨rfl,rfl,rfl⟩
    refine⟨aF,rfl,?_⟩
    refine bC ?_
    exact hR1 (i+1,cZ most (UInt8.ofNat c.1) c.2) _ (by simp only;omega) ⟨by simp only;omega,hok2.mv jH,by simp only;rw[show a.1-(i+1)=k by omega];exact hraw⟩ (.le aF)
   ·rw[if_pos he]at hraw hR
    have hi2:¬((S.err:Int)=0):=by omega
    refine bC ?_
    refine bQ hi2 ?_
    exact hR.le aF ⟨rfl,rfl,rfl⟩
  ·rw[show a.1-i=0 by omega]at hR
   refine bC ?_
   refine gG ?_
   exact hR.le (by simp(disch:=omega)only[go_sem,simprocAttr,aA,rawS]) ⟨rfl,rfl,rfl⟩
open Eng
set_option maxRecDepth 10000
def bN (f:Nat→Nat) (n:Nat):List Nat:=(List.range n).map f
theorem fY (f:Nat→Nat) (n:Nat):(bN f n).length=n:=by simp[bN]
theorem jU (f:Nat→Nat) (n:Nat):bN f (n+1)=bN f n++[f n]:=by simp[bN,List.range_succ]
theorem lZ (f:Nat→Nat):bN f 0=[]:=(rfl)
theorem qs (f:Nat→Nat) {n i:Nat} (h:i<n):(bN f n).getD i 0=f i:=by simp[bN,List.getD_eq_getElem?_getD,h]
theorem ft {xs:List Nat}:aL (an xs) 0 xs.length=an xs:=by simp[aL,an,List.take_of_length_le]
def fixF (i:Nat):Nat:=if 256≤i∧i<280 then 7 else if 144≤i∧i<256 then 9 else 8
theorem wH:bN fixF 288=bl:=by decide +kernel
theorem wG:bN (fun _=>5) 32=bT:=by decide +kernel
theorem iA:(∀n∈bl,n≤15)∧bl.length=288∧bm bl=true:=by decide +kernel
theorem iy:(∀n∈bT,n≤15)∧bT.length=32∧bm bT=true:=by decide +kernel
set_option maxHeartbeats 1000000 in
theorem agL:aP Tryz.prog 96 [] (.aj [.ro 1 (an bl),.ro 1 (an bT)]):=by
 refine Cod.agM (fun E R hN hR=>?_)
 refine wW ?_
 refine a7 hN (fun i:Nat=>⟨[(2,.sl 77007 0 i),(3,.sl 77008 0 0),(4,.int .i64 i)],[(77007,.arr 1 (an (bN fixF i))),(77008,.arr 1 [])]⟩) (fun i=>i≤288) (fun i=>288-i) 0 (.le (jq @lZ @hU)) (by omega) ?_
 rintro i R1 hi hR1
 have hul:=fY fixF i
 have hnl:=bV (bN fixF i)
 by_cases hlt:i<288
 ·have hus:=jU fixF i
  refine wW ?_
  refine da hN (fun _:Unit=>⟨[(2,.sl 77007 0 i),(3,.sl 77008 0 0),(4,.int .i64 i),(5,.int .i64 (if 144≤i∧i<256 then 9 else 8:Nat))],[(77007,.arr 1 (an (bN fixF i))),(77008,.arr 1 [])]⟩) (fun _=>True) (fun R2 hR2=>?_) (fun _ _=>?_)
  ·by_cases h1:144≤i
   ·by_cases h2:i<256
    ·refine wW ?_
     refine gG ?_
     exact hR2 () _ trivial (.le (by rw[if_pos ⟨h1,h2⟩];exact vV))
    ·refine wW ?_
     refine gG ?_
     exact hR2 () _ trivial (.le (by rw[if_neg (by omega)];exact vV))
   ·refine wW ?_
    refine gG ?_
    exact hR2 () _ trivial (.le (by rw[if_neg (by omega)];exact vV))
  ·by_cases h1:256≤i
   ·by_cases h2:i<280
    ·have hf:fixF i=7:=if_pos ⟨h1,h2⟩
     rw[hf]at hus
     refine cL @fe @eO @fu ?_
     exact hR1 (i+1) _ (by omega) (by omega) (.le (by rw[hus,←fc];exact vV))
    ·have hf:fixF i=8:=by unfold fixF;rw[if_neg (by omega),if_neg (by omega)]
     rw[hf]at hus
     rw[if_neg (by omega)]
     refine cL @fe @eO @fu ?_
     exact hR1 (i+1) _ (by omega) (by omega) (.le (by rw[hus,←fc];exact vV))
   ·have hf:fixF i=if 144≤i∧i<256 then 9 else 8:=by unfold fixF;rw[if_neg (by omega)]
    rw[hf]at hus
    refine wW ?_
    refine fM @fe @eO @fu ?_
    exact hR1 (i+1) _ (by omega) (by omega) (.le (by rw[hus,←fc];exact vV))
 ·obtain rfl:i=288:=by omega
  refine wW ?_
  refine a7 hN (fun i:Nat=>⟨[(2,.sl 77007 0 288),(3,.sl 77008 0 i),(6,.int .i64 i)],[(77007,.arr 1 (an (bN fixF 288))),(77008,.arr 1 (an (bN (fun _=>5) i)))]⟩) (fun i=>i≤32) (fun i=>32-i) 0 (.le (jq @lZ @hU)) (by omega) ?_
  rintro i R2 hi hR2
  have hul2:=fY (fun _=>5) i
  have hnl2:=bV (bN (fun _=>5) i)
  by_cases hlt:i<32
  ·have hus:=jU (fun _=>5) i
   refine cL @fe @eO @fu ?_
   exact hR2 (i+1) _ (by omega) (by omega) (.le (by rw[hus,←fc];exact vV))
  ·obtain rfl:i=32:=by omega
   rw[wH]at *
   rw[wG]at *
   have e1:aL (an bl) 0 288=an bl:=by rw[←iA.2.1];exact ft
   have e2:aL (an bT) 0 32=an bT:=by rw[←iy.2.1];exact ft
   refine wW ?_
   refine hR.wk (h':=[]) (r':=.aj [.ro 1 (an bl),.ro 1 (an bT)]) (ar':=[]) rfl (.bK 77007 (.bK 77008 (.le (jq e1 e2)))) ⟨rfl,rfl⟩
def gH (i:Nat):Nat:=if i<8 then 3+i else 3+(4+i%4)*2^(i/4-1)
def fO (i:Nat):Nat:=if i<8 then 0 else i/4-1
def gg (i:Nat):Nat:=if i<4 then 1+i else 1+(2+i%2)*2^(i/2-1)
def fL (i:Nat):Nat:=if i<4 then 0 else i/2-1
theorem Yc:∀i,i<28→gH (i+1)=gH i+2^fO i∧gH i=(aQ i).1∧fO i=(aQ i).2∧gH i≤300∧fO i≤8:=by decide +kernel
theorem Jm:∀i,i<30→gg (i+1)=gg i+2^fL i∧gg i=(bu i).1∧fL i=(bu i).2∧gg i≤40000∧fL i≤15∧1≤gg i:=by decide +kernel
def eo:List Nat:=bN (fun i=>(aQ i).1) 29
def eu:List Nat:=bN (fun i=>(aQ i).2) 29
def fA:List Nat:=bN (fun i=>(bu i).1) 30
def fB:List Nat:=bN (fun i=>(bu i).2) 30
theorem Yd:bN gH 28++[258]=eo∧bN fO 28++[0]=eu∧bN gg 30=fA∧bN fL 30=fB:=by decide +kernel
theorem yX (k:Nat) (h:k≤30):IntKind.i64.wrap (1*2^min k 64)=((2^k:Nat):Int):=by
 have hk:2^k≤2^30:=Nat.pow_le_pow_right (by decide) h
 rw[Nat.min_eq_left (by omega),show((1:Int)*2^k)=((2^k:Nat):Int)by rw[Int.one_mul];push_cast;rfl]
 generalize 2^k=q at hk ⊢
 exact jt (by omega)
set_option maxHeartbeats 2000000 in
theorem ahT:aP Tryz.prog 146 [] (.aj [.ro 1 (an eo),.ro 1 (an eu),.ro 1 (an fA),.ro 1 (an fB)]):=by
 refine Cod.ahU (fun E R hN hR=>?_)
 refine wW ?_
 refine a7 hN (fun i:Nat=>⟨[(4,.sl 78013 0 i),(5,.sl 78014 0 i),(6,.int .i64 (gH i:Nat)),(7,.int .i64 i)],[(78013,.arr 1 (an (bN gH i))),(78014,.arr 1 (an (bN fO i)))]⟩) (fun i=>i≤28) (fun i=>28-i) 0 (.le (by simp(disch:=omega)only[go_sem,simprocAttr,lZ,hU];rfl)) (by omega) ?_
 rintro i R1 hi hR1
 have hul:=fY gH i
 have hul2:=fY fO i
 have hnl:=bV (bN gH i)
 have hnl2:=bV (bN fO i)
 by_cases hlt:i<28
 ·obtain⟨t1,_,_,t4,t5⟩:=Yc i hlt
  have hus:=jU gH i
  have hus2:=jU fO i
  have hsh:=yX (fO i) (by omega)
  have hpk:2^fO i≤2^8:=Nat.pow_le_pow_right (by decide) t5
  refine wW ?_
  refine da hN (fun _:Unit=>⟨[(4,.sl 78013 0 i),(5,.sl 78014 0 i),(6,.int .i64 (gH i:Nat)),(7,.int .i64 i),(8,.int .i64 (fO i:Nat))],[(78013,.arr 1 (an (bN gH i))),(78014,.arr 1 (an (bN fO i)))]⟩) (fun _=>True) (fun R2 hR2=>?_) (fun _ _=>?_)
  ·by_cases h1:8≤i
   ·have hk:fO i=i/4-1:=if_neg (by omega)
    have e4:(i:Int)/4-1=((i/4-1:Nat):Int):=by omega
    refine aw e4 ?_
    exact hR2 () _ trivial (.le (by rw[hk];exact vV))
   ·have hk:fO i=0:=if_pos (by omega)
    refine wW ?_
    exact hR2 () _ trivial (.le (by rw[hk];exact vV))
  ·refine ea @fe @eO @fu hsh ?_
   exact hR1 (i+1) _ (by omega) (by omega) (.le (by rw[hus,hus2,←fc,←fc,t1];exact vV))
 ·obtain rfl:i=28:=by omega
  obtain⟨w1,w2,w3,w4⟩:=Yd
  have hl1:eo.length=29:=fY _ _
  have hl2:eu.length=29:=fY _ _
  refine cL @fe @eO @fu ?_
  rw[show(AV.int .i64 258)=.int .i64 ((258:Nat):Int)from rfl,show(AV.int .i64 0)=.int .i64 ((0:Nat):Int)from rfl,fc,fc,w1,w2]
  have hn1:=bV eo
  have hn2:=bV eu
  refine a7 hN (fun i:Nat=>⟨[(4,.sl 78013 0 29),(5,.sl 78014 0 29),(6,.int .i64 (gg i:Nat)),(9,.sl 78042 0 i),(10,.sl 78043 0 i),(11,.int .i64 i)],[(78013,.arr 1 (an eo)),(78014,.arr 1 (an eu)),(78042,.arr 1 (an (bN gg i))),(78043,.arr 1 (an (bN fL i)))]⟩) (fun i=>i≤30) (fun i=>30-i) 0 (.le (by simp(disch:=omega)only[go_sem,simprocAttr,lZ,hU];rfl)) (by omega) ?_
  rintro i R2 hi hR2
  have hul:=fY gg i
  have hul2:=fY fL i
  have hnl:=bV (bN gg i)
  have hnl2:=bV (bN fL i)
  by_cases hlt:i<30
  ·obtain⟨t1,_,_,t4,t5,_⟩:=Jm i hlt
   have hus:=jU gg i
   have hus2:=jU fL i
   have hsh:=yX (fL i) (by omega)
   have hpk:2^fL i≤2^15:=Nat.pow_le_pow_right (by decide) t5
   refine wW ?_
   refine da hN (fun _:Unit=>⟨[(4,.sl 78013 0 29),(5,.sl 78014 0 29),(6,.int .i64 (gg i:Nat)),(9,.sl 78042 0 i),(10,.sl 78043 0 i),(11,.int .i64 i),(12,.int .i64 (fL i:Nat))],[(78013,.arr 1 (an eo)),(78014,.arr 1 (an eu)),(78042,.arr 1 (an (bN gg i))),(78043,.arr 1 (an (bN fL i)))]⟩) (fun _=>True) (fun R3 hR3=>?_) (fun _ _=>?_)
   ·by_cases h1:4≤i
    ·have hk:fL i=i/2-1:=if_neg (by omega)
     have e4:(i:Int)/2-1=((i/2-1:Nat):Int):=by omega
     refine aw e4 ?_
     exact hR3 () _ trivial (.le (by rw[hk];exact vV))
    ·have hk:fL i=0:=if_pos (by omega)
     refine wW ?_
     exact hR3 () _ trivial (.le (by rw[hk];exact vV))
   ·refine ea @fe @eO @fu hsh ?_
    exact hR2 (i+1) _ (by omega) (by omega) (.le (by rw[hus,hus2,←fc,←fc,t1];exact vV))
  ·obtain rfl:i=30:=by omega
   rw[w3]at *
   rw[w4]at *
   have e1:aL (an eo) 0 29=an eo:=by rw[←hl1];exact ft
   have e2:aL (an eu) 0 29=an eu:=by rw[←hl2];exact ft
   have e3:aL (an fA) 0 30=an fA:=by rw[←hul];exact ft
   have e4:aL (an fB) 0 30=an fB:=by rw[←hul2];exact ft
   refine wW ?_
   exact hR.wk (h':=[]) (r':=.aj [.ro 1 (an eo),.ro 1 (an eu),.ro 1 (an fA),.ro 1 (an fB)]) (ar':=[]) rfl (.bK 78013 (.bK 78014 (.bK 78042 (.bK 78043 (.le (asT e1 e2 e3 e4)))))) ⟨rfl,rfl⟩
theorem uF (most back n:Nat) (S:SS):backS most back (n+1) S=if S.err≠0 then S else backS most back n (cZ most (S.out.getD (S.out.length-back) 0) S):=rfl
theorem ES {most back:Nat} {S:SS} (h:S.err≠0):∀n,backS most back n S=S
 | 0=>rfl
 | n+1=>by rw[uF,if_pos h]
theorem zc {t:Bs} {most:Nat} {l d:List Nat} {S:SS} (h:S.err≠0):cT t most l d S=S:=pR _ h
theorem abu {t:Bs} {most:Nat} {l d:List Nat} {S:SS} (h0:S.p≤8*t.length) (h:S.err=0):cT t most l d S=if(dp t most l d S).1 then(dp t most l d S).2 else cT t most l d (dp t most l d S).2:=by
 rw[mO h0,if_neg (by simpa using h)]
def pF (t:Bs) (S:SS):Nat:=if S.err=0 then 8*t.length+1-S.p else 0
theorem yB {t:Bs} {most:Nat} {S S':SS} (h:bS t most S) (he:S.err=0) (k:S'.err≠0∨S.p<S'.p):pF t S'<pF t S:=by
 have:=h.pl
 unfold pF
 rw[if_pos he]
 split
 ·rcases k with k | k
  ·exact absurd (by assumption) k
  ·omega
 ·omega
theorem Mf (S:SS) (i:Nat) (h:i<S.out.length):nth (S.out.map ub) i=.int .u8 ((S.out.getD i 0).toNat:Int):=by
 simp[nth,ub,List.getD_eq_getElem?_getD,h]
set_option maxHeartbeats 4000000 in
theorem z7 (t:Bs) (most:Nat) (S0:SS) (h0:bS t most S0) (l d:List Nat) (hl:∀n∈l,n≤15) (hll:l.length≤320) (hd:∀n∈d,n≤15) (hdl:d.length≤320) :
    Eng.Spec Tryz.prog 97 (aA t most S0) [.ab eS 0,.ro 1 (an l),.ro 1 (an d)] (fun h' v ar=>h'=aA t most (cT t most l d S0)∧v=.aj []∧ar=[.ab eS 0,.ro 1 (an l),.ro 1 (an d)]):=by
 refine Cod.aix (fun E R hN hR=>?_)
 have hc1:=sT l hl hll
 have hc2:=sT d hd hdl
 have hl1:eo.length=29:=fY _ _
 have hl2:eu.length=29:=fY _ _
 have hl3:fA.length=30:=fY _ _
 have hl4:fB.length=30:=fY _ _
 have hn1:=bV eo
 have hn2:=bV eu
 have hn3:=bV fA
 have hn4:=bV fB
 refine wW ?_
 refine aE hc1 rfl rfl ?_
 refine wW ?_
 refine aE hc2 rfl rfl ?_
 refine wW ?_
 refine aE ahT rfl rfl ?_
 refine wW ?_
 generalize hF:cT t most l d S0=F at hR
 have fin:∀S1,S1=F→R (aA t most S1) (.aj []) [.ab 79038 0,.ro 1 (an l),.ro 1 (an d)]:=fun S1 e=>hR.le (by rw[e];exact aF) ⟨rfl,rfl,rfl⟩
 refine a7 hN (fun S:SS=>⟨[(0,.ab 79038 0),(6,.ro 1 (bI (aO l))),(7,.ro 1 (bI (aO d))),(8,.ro 1 (an eo)),(9,.ro 1 (an eu)),(10,.ro 1 (an fA)),(11,.ro 1 (an fB)),(2000000,.ab 79038 0),(2000001,.ro 1 (an l)),(2000002,.ro 1 (an d))],aA t most S⟩)
  (fun S=>bS t most S∧cT t most l d S=F) (fun S=>pF t S) S0 (.le aF) ⟨h0,hF⟩ ?_
 rintro S R1 ⟨hok,hpk⟩ hR1
 by_cases he:S.err=0
 ·have hpk0:=hpk
  rw[abu hok.pl he]at hpk
  have hsu:=BM (t:=t) (most:=most) (l:=l) (d:=d) he
  have hms:=lH (t:=t) (most:=most) (l:=l) (d:=d) (S:=S)
  have hst:dp t most l d S=if(aU t l S).2.err≠0 then(true,(aU t l S).2)else if(aU t l S).1=256 then(true,(aU t l S).2)else if(aU t l S).1<256 then(false,cZ most (UInt8.ofNat (aU t l S).1) (aU t l S).2)else(false,c8 t most d (aU t l S).1 (aU t l S).2):=rfl
  have hsl:=ql (t:=t) (l:=l) he
  refine b4 he ?_
  refine aJ (aA t most S) (s3 t most S hok l hl hll) (bW he) nofun ?_
  rintro h' v ar ⟨rfl,rfl,rfl⟩
  have hok2:bS t most (aU t l S).2:=hok.mv jf
  generalize aU t l S=a at *
  refine⟨aF,rfl,?_⟩
  by_cases hae:a.2.err=0
  ·obtain⟨hup,hlt⟩:=hsl hae
   rw[if_neg (by simpa using hae)]at hst
   by_cases h256:a.1=256
   ·rw[if_pos h256]at hst
    rw[hst]at hpk
    simp only[if_true]at hpk
    refine gp hae h256 ?_
    refine dY hae h256 ?_
    have:=fin a.2 hpk
    simp only[aA,hae]at this
    simp(disch:=omega)only[go_sem,simprocAttr]at this
    exact this
   ·rw[if_neg h256]at hst
    have hi256:¬((a.1:Int)=256):=by omega
    by_cases hlit:a.1<256
    ·rw[if_pos hlit]at hst
     rw[hst]at hpk hsu
     simp only[Bool.false_eq_true,if_false]at hpk hsu
     have hput:=sZ t most a.2 hok2 (UInt8.ofNat a.1)
     rw[yU hlit]at hput
     refine b4 hae ?_
     refine dY hae hi256 ?_
     refine aJ (aA t most a.2) hput (bW hae) nofun ?_
     rintro h' v ar ⟨rfl,rfl,rfl⟩
     refine⟨aF,rfl,?_⟩
     refine bC ?_
     refine hR1 (cZ most (UInt8.ofNat a.1) a.2) _ (yB hok he ?_) ⟨hok2.mv jH,hpk⟩ (.le aF)
     by_cases hpe:(cZ most (UInt8.ofNat a.1) a.2).err=0
     ·exact .inr (hsu hpe)
     ·exact .inl hpe
    ·rw[if_neg hlit]at hst
     rw[hst]at hpk hsu
     simp only[Bool.false_eq_true,if_false]at hpk hsu
     have next:∀S' st',bS t most S'→S'=c8 t most d a.1 a.2→Wk st' ⟨[(0,.ab 79038 0),(6,.ro 1 (bI (aO l))),(7,.ro 1 (bI (aO d))),(8,.ro 1 (an eo)),(9,.ro 1 (an eu)),(10,.ro 1 (an fA)),(11,.ro 1 (an fB)),(2000000,.ab 79038 0),(2000001,.ro 1 (an l)),(2000002,.ro 1 (an d))],aA t most S'⟩→R1.ap st':=by
      intro S' st' ho e hw
      refine hR1 S' _ (yB hok he ?_) ⟨ho,by rw[e];exact hpk⟩ hw
      rw[e]
      by_cases hpe:(c8 t most d a.1 a.2).err=0
      ·exact .inr (hsu hpe)
      ·exact .inl hpe
     have stop:∀S',S'=c8 t most d a.1 a.2→S'.err≠0→R (aA t most S') (.aj []) [.ab 79038 0,.ro 1 (an l),.ro 1 (an d)]:=fun S' e h=>fin S' (by rw[←e,zc h]at hpk;exact hpk)
     refine b4 hae ?_
     refine dY hae hi256 ?_
     by_cases h285:285<a.1
     ·have hrep:b9 3 a.2=c8 t most d a.1 a.2:=by unfold c8;rw[if_pos h285]
      have:=stop _ hrep (gV (by omega))
      simp only[aA]at this
      simp(disch:=omega)only[go_sem,simprocAttr]at this
      refine wW ?_
      refine aJ (aA t most a.2) (eP t most a.2 3) (bW hae) nofun ?_
      rintro h' v ar ⟨rfl,rfl,rfl⟩
      refine⟨aF,rfl,?_⟩
      refine bC ?_
      exact this
     ·have hrep:c8 t most d a.1 a.2=if(aU t d (aH t (aQ (a.1-257)).2 a.2).2).2.err≠0 then(aU t d (aH t (aQ (a.1-257)).2 a.2).2).2 else if 29<(aU t d (aH t (aQ (a.1-257)).2 a.2).2).1 then b9 3 (aU t d (aH t (aQ (a.1-257)).2 a.2).2).2 else
          (if(aH t (bu (aU t d (aH t (aQ (a.1-257)).2 a.2).2).1).2 (aU t d (aH t (aQ (a.1-257)).2 a.2).2).2).2.err≠0 then(aH t (bu (aU t d (aH t (aQ (a.1-257)).2 a.2).2).1).2 (aU t d (aH t (aQ (a.1-257)).2 a.2).2).2).2
          else if(aH t (bu (aU t d (aH t (aQ (a.1-257)).2 a.2).2).1).2 (aU t d (aH t (aQ (a.1-257)).2 a.2).2).2).2.out.length<(bu (aU t d (aH t (aQ (a.1-257)).2 a.2).2).1).1+(aH t (bu (aU t d (aH t (aQ (a.1-257)).2 a.2).2).1).2 (aU t d (aH t (aQ (a.1-257)).2 a.2).2).2).1
          then b9 3 (aH t (bu (aU t d (aH t (aQ (a.1-257)).2 a.2).2).1).2 (aU t d (aH t (aQ (a.1-257)).2 a.2).2).2).2
          else backS most ((bu (aU t d (aH t (aQ (a.1-257)).2 a.2).2).1).1+(aH t (bu (aU t d (aH t (aQ (a.1-257)).2 a.2).2).1).2 (aU t d (aH t (aQ (a.1-257)).2 a.2).2).2).1) ((aQ (a.1-257)).1+(aH t (aQ (a.1-257)).2 a.2).1) (aH t (bu (aU t d (aH t (aQ (a.1-257)).2 a.2).2).1).2 (aU t d (aH t (aQ (a.1-257)).2 a.2).2).2).2):=by
       unfold c8;rw[if_neg h285]
      have hg1:eo.getD (a.1-257) 0=(aQ (a.1-257)).1:=qs _ (by omega)
      have hg2:eu.getD (a.1-257) 0=(aQ (a.1-257)).2:=qs _ (by omega)
      have hlb:(aQ (a.1-257)).1≤300∧(aQ (a.1-257)).2≤8:=(by decide +kernel:∀i,i<29→(aQ i).1≤300∧(aQ i).2≤8) _ (by omega)
      obtain⟨hlb1,hlb2⟩:=hlb
      generalize hB:aQ (a.1-257)=lb at *
      have ei:(a.1:Int)-257=((a.1-257:Nat):Int):=by omega
      have hnum:=fR t most a.2 hok2 lb.2 (by omega)
      have hb1:=fg (t:=t) (S:=a.2) (n:=lb.2)
      have hb2:2^lb.2≤2^8:=Nat.pow_le_pow_right (by decide) hlb2
      have hok3:=mL (n:=lb.2) hok2
      refine wW ?_
      refine da hN (fun _:Unit=>⟨[(0,.ab 79038 0),(6,.ro 1 (bI (aO l))),(7,.ro 1 (bI (aO d))),(8,.ro 1 (an eo)),(9,.ro 1 (an eu)),(10,.ro 1 (an fA)),(11,.ro 1 (an fB)),(13,.int .i64 (lb.1+(aH t lb.2 a.2).1:Nat)),(2000000,.ab 79038 0),(2000001,.ro 1 (an l)),(2000002,.ro 1 (an d))],aA t most (aH t lb.2 a.2).2⟩) (fun _=>True) (fun R2 hR2=>?_) (fun _ _=>?_)
      ·simp(disch:=omega)only[go_sem,simprocAttr,ei,hn1,hn2,hl1,hl2,dG,hg1,hg2]
       refine⟨?_,?_⟩
       ·refine aJ (aA t most a.2) hnum (bW hae) nofun ?_
        rintro h' v ar ⟨rfl,rfl,rfl⟩
        refine⟨aF,rfl,?_⟩
        refine bC ?_
        exact hR2 () _ trivial (.le aF)
       ·refine aJ (aA t most a.2) hnum (bW hae) nofun ?_
        rintro h' v ar ⟨rfl,rfl,rfl⟩
        refine⟨aF,rfl,?_⟩
        refine bC ?_
        exact hR2 () _ trivial (.le aF)
      generalize aH t lb.2 a.2=b at *
      refine bC ?_
      refine aJ (aA t most b.2) (s3 t most b.2 hok3 d hd hdl) aF nofun ?_
      rintro h' v ar ⟨rfl,rfl,rfl⟩
      have hok4:bS t most (aU t d b.2).2:=hok3.mv jf
      generalize aU t d b.2=k at *
      refine⟨aF,rfl,?_⟩
      by_cases hke:k.2.err=0
      ·rw[if_neg (by simpa using hke)]at hrep
       by_cases hk29:29<k.1
       ·rw[if_pos hk29]at hrep
        have:=stop _ hrep.symm (gV (by omega))
        simp only[aA]at this
        simp(disch:=omega)only[go_sem,simprocAttr]at this
        have hfe:¬(((b9 3 k.2).err:Int)=0):=by have:=gV (S:=k.2) (e:=3) (by omega);omega
        refine gp hke @Cod.mQ ?_
        refine bQ hke ?_
        refine aJ (aA t most k.2) (eP t most k.2 3) (bW hke) nofun ?_
        rintro h' v ar ⟨rfl,rfl,rfl⟩
        refine⟨aF,rfl,?_⟩
        refine bC ?_
        refine dV hN ?_
        refine bH hfe @Cod.mQ ?_
        exact this
       ·rw[if_neg hk29]at hrep
        have hg3:fA.getD k.1 0=(bu k.1).1:=qs _ (by omega)
        have hg4:fB.getD k.1 0=(bu k.1).2:=qs _ (by omega)
        have hdb:(bu k.1).1≤40000∧(bu k.1).2≤15∧1≤(bu k.1).1:=(by decide +kernel:∀i,i<30→(bu i).1≤40000∧(bu i).2≤15∧1≤(bu i).1) _ (by omega)
        obtain⟨hdb1,hdb2,hdb3⟩:=hdb
        generalize bu k.1=db at *
        have hnum:=fR t most k.2 hok4 db.2 (by omega)
        have hc1:=fg (t:=t) (S:=k.2) (n:=db.2)
        have hc2:2^db.2≤2^15:=Nat.pow_le_pow_right (by decide) hdb2
        have hok5:=mL (n:=db.2) hok4
        refine gp hke @Cod.mQ ?_
        refine bQ hke ?_
        refine dV hN ?_
        refine aw hke ?_
        refine da hN (fun _:Unit=>⟨[(0,.ab 79038 0),(6,.ro 1 (bI (aO l))),(7,.ro 1 (bI (aO d))),(8,.ro 1 (an eo)),(9,.ro 1 (an eu)),(10,.ro 1 (an fA)),(11,.ro 1 (an fB)),(13,.int .i64 (lb.1+b.1:Nat)),(15,.int .i64 (db.1+(aH t db.2 k.2).1:Nat)),(2000000,.ab 79038 0),(2000001,.ro 1 (an l)),(2000002,.ro 1 (an d))],aA t most (aH t db.2 k.2).2⟩) (fun _=>True) (fun R2 hR2=>?_) (fun _ _=>?_)
        ·simp(disch:=omega)only[go_sem,simprocAttr,hke,hn3,hn4,hl3,hl4,dG,hg3,hg4]
         refine⟨?_,?_⟩
         ·refine aJ (aA t most k.2) hnum (bW hke) nofun ?_
          rintro h' v ar ⟨rfl,rfl,rfl⟩
          refine⟨aF,rfl,?_⟩
          refine bC ?_
          exact hR2 () _ trivial (.le aF)
         ·refine aJ (aA t most k.2) hnum (bW hke) nofun ?_
          rintro h' v ar ⟨rfl,rfl,rfl⟩
          refine⟨aF,rfl,?_⟩
          refine bC ?_
          exact hR2 () _ trivial (.le aF)
        generalize aH t db.2 k.2=c at *
        -- is the place ahead of all that came out?
        have copy:∀S1,bS t most S1→(S1.err≠0→S1=c8 t most d a.1 a.2)→(S1.err=0→db.1+c.1≤S1.out.length∧backS most (db.1+c.1) (lb.1+b.1) S1=c8 t most d a.1 a.2) →
            vcW Tryz.prog E Cod.sX (KQ.cS 1 (KQ.eQ R1 (KQ.cS 0 (KQ.post [] 3 R)))) ⟨[(0,.ab 79038 0),(6,.ro 1 (bI (aO l))),(7,.ro 1 (bI (aO d))),(8,.ro 1 (an eo)),(9,.ro 1 (an eu)),(10,.ro 1 (an fA)),(11,.ro 1 (an fB)),(13,.int .i64 (lb.1+b.1:Nat)),(15,.int .i64 (db.1+c.1:Nat)),(2000000,.ab 79038 0),(2000001,.ro 1 (an l)),(2000002,.ro 1 (an d))],aA t most S1⟩:=by
         intro S1 ho1 hbad hgood
         refine wW ?_
         refine a7 hN (fun q:Nat×SS=>⟨[(0,.ab 79038 0),(6,.ro 1 (bI (aO l))),(7,.ro 1 (bI (aO d))),(8,.ro 1 (an eo)),(9,.ro 1 (an eu)),(10,.ro 1 (an fA)),(11,.ro 1 (an fB)),(13,.int .i64 (lb.1+b.1:Nat)),(15,.int .i64 (db.1+c.1:Nat)),(16,.int .i64 q.1),(2000000,.ab 79038 0),(2000001,.ro 1 (an l)),(2000002,.ro 1 (an d))],aA t most q.2⟩)
          (fun q=>q.1≤lb.1+b.1∧bS t most q.2∧(q.2.err≠0→q.2=c8 t most d a.1 a.2)∧(q.2.err=0→db.1+c.1≤q.2.out.length∧backS most (db.1+c.1) (lb.1+b.1-q.1) q.2=c8 t most d a.1 a.2)) (fun q=>lb.1+b.1-q.1) (0,S1) (.le aF) ⟨by omega,ho1,hbad,hgood⟩ ?_
         rintro⟨i,S2⟩ R2 ⟨hi,ho2,hbad2,hgood2⟩ hR2
         simp only at hi ho2 hbad2 hgood2
         by_cases he2:S2.err=0
         ·obtain⟨hbl,hbk⟩:=hgood2 he2
          by_cases hlt2:i<lb.1+b.1
          ·obtain⟨q,hq⟩:∃q,lb.1+b.1-i=q+1:=⟨lb.1+b.1-i-1,by omega⟩
           rw[hq,uF,if_neg (by simpa using he2)]at hbk
           have ej:(S2.out.length:Int)-((db.1:Int)+(c.1:Int))=((S2.out.length-(db.1+c.1):Nat):Int):=by omega
           have hgo:=Mf S2 (S2.out.length-(db.1+c.1)) (by omega)
           have hput:=sZ t most S2 ho2 (S2.out.getD (S2.out.length-(db.1+c.1)) 0)
           generalize S2.out.getD (S2.out.length-(db.1+c.1)) 0=ch at *
           have hml:S2.out.length≤1000000:=Nat.le_trans ho2.ol ho2.ml
           refine ij he2 ej hgo ?_
           refine fM he2 ej hgo ?_
           refine aJ (aA t most S2) hput (bW he2) nofun ?_
           rintro h' v ar ⟨rfl,rfl,rfl⟩
           refine⟨aF,rfl,?_⟩
           refine bC ?_
           refine hR2 (i+1,cZ most ch S2) _ (by simp only;omega) ⟨by simp only;omega,ho2.mv jH,fun hpe=>?_,fun hpe=>?_⟩ (.le aF)
           ·simp only at hpe ⊢
            rw[ES hpe]at hbk
            exact hbk
           ·simp only at hpe ⊢
            refine⟨?_,by rw[show lb.1+b.1-(i+1)=q by omega];exact hbk⟩
            unfold cZ at hpe ⊢
            rw[if_neg (by simpa using he2)]at hpe ⊢
            split at hpe
            ·cases hpe
            ·rename_i hf
             rw[if_neg hf]
             simp only[List.length_append];omega
          ·rw[show lb.1+b.1-i=0 by omega]at hbk
           refine b4 he2 ?_
           refine bQ he2 ?_
           exact next S2 _ ho2 hbk (.le (bW he2))
         ·have hi2:¬((S2.err:Int)=0):=by omega
          have hb2:=hbad2 he2
          by_cases hlt2:i<lb.1+b.1
          ·refine b4 hi2 ?_
           refine bQ hi2 ?_
           exact next S2 _ ho2 hb2 (.le aF)
          ·refine b4 hi2 ?_
           refine bQ hi2 ?_
           exact next S2 _ ho2 hb2 (.le aF)
        refine da hN (fun S1:SS=>⟨[(0,.ab 79038 0),(6,.ro 1 (bI (aO l))),(7,.ro 1 (bI (aO d))),(8,.ro 1 (an eo)),(9,.ro 1 (an eu)),(10,.ro 1 (an fA)),(11,.ro 1 (an fB)),(13,.int .i64 (lb.1+b.1:Nat)),(15,.int .i64 (db.1+c.1:Nat)),(2000000,.ab 79038 0),(2000001,.ro 1 (an l)),(2000002,.ro 1 (an d))],aA t most S1⟩) (fun S1=>bS t most S1∧(S1.err≠0→S1=c8 t most d a.1 a.2)∧(S1.err=0→db.1+c.1≤S1.out.length∧backS most (db.1+c.1) (lb.1+b.1) S1=c8 t most d a.1 a.2)) (fun R2 hR2=>?_) (fun S1 h=>copy S1 h.1 h.2.1 h.2.2)
        by_cases hce:c.2.err=0
        ·rw[if_neg (by simpa using hce)]at hrep
         by_cases hfar:c.2.out.length<db.1+c.1
         ·rw[if_pos hfar]at hrep
          refine b4 hce ?_
          refine bQ hce ?_
          refine aJ (aA t most c.2) (eP t most c.2 3) (bW hce) nofun ?_
          rintro h' v ar ⟨rfl,rfl,rfl⟩
          refine⟨aF,rfl,?_⟩
          refine bC ?_
          exact hR2 (b9 3 c.2) _ ⟨hok5.mv iI,fun _=>hrep.symm,fun e=>absurd e (gV (by omega))⟩ (.le aF)
         ·rw[if_neg hfar]at hrep
          refine b4 hce ?_
          refine bQ hce ?_
          exact hR2 c.2 _ ⟨hok5,fun e=>absurd hce e,fun _=>⟨by omega,hrep.symm⟩⟩ (.le (bW hce))
        ·rw[if_pos hce]at hrep
         have hi:¬((c.2.err:Int)=0):=by omega
         refine b4 hi ?_
         refine bQ hi ?_
         exact hR2 c.2 _ ⟨hok5,fun _=>hrep.symm,fun e=>absurd e hce⟩ (.le aF)
      ·rw[if_pos hke]at hrep
       have:=stop _ hrep.symm hke
       simp only[aA]at this
       simp(disch:=omega)only[go_sem,simprocAttr]at this
       have hi:¬((k.2.err:Int)=0):=by omega
       refine gp hi @Cod.mQ ?_
       refine bQ hi ?_
       refine dV hN ?_
       refine bH hi @Cod.mQ ?_
       exact this
  ·rw[if_pos hae]at hst
   rw[hst]at hpk
   simp only[if_true]at hpk
   have hi:¬((a.2.err:Int)=0):=by omega
   refine b4 hi ?_
   refine bQ hi ?_
   have:=fin a.2 hpk
   simp only[aA]at this
   simp(disch:=omega)only[go_sem,simprocAttr]at this
   exact this
 ·have hi:¬((S.err:Int)=0):=by omega
  rw[zc he]at hpk
  refine b4 hi ?_
  have:=fin S hpk
  simp only[aA]at this
  simp(disch:=omega)only[go_sem,simprocAttr]at this
  exact this
abbrev Q5 (R:HP→AV→List AV→Prop):KQ:=KQ.post [.tmp 2,.tmp 3] 1 R
def lj (t:Bs) (most:Nat) (F:(List Nat×List Nat)×SS) (h':HP) (v:AV) (ar:List AV):Prop:=
 h'=aA t most F.2∧v=(if F.2.err=0 then .aj [.ro 1 (an F.1.1),.ro 1 (an F.1.2)]else .aj [.al,.al])∧ar=[.ab eS 0]
theorem mr {t:Bs} {most:Nat} {F:(List Nat×List Nat)×SS} {R:HP→AV→List AV→Prop} (hR:cV (lj t most F) R) {S:SS} (hF:F=(([],[]),S)) (he:S.err≠0) {h:HP} (hh:eL h (aA t most S)) :
    R h (.aj [.al,.al]) [.ab 79038 0]:=by
 subst hF
 exact hR.le hh ⟨rfl,(if_neg he).symm,rfl⟩
theorem qn {l:List Nat} (h:∀n∈l,n≤15) (k:Nat):∀n∈l.take k,n≤15:=fun n hn=>h n (List.mem_of_mem_take hn)
theorem oB {l:List Nat} (h:∀n∈l,n≤15) (k:Nat):∀n∈l.drop k,n≤15:=fun n hn=>h n (List.mem_of_mem_drop hn)
set_option maxHeartbeats 2000000 in
theorem JD (t:Bs) (most:Nat) (F:(List Nat×List Nat)×SS) (S:SS) (l:List Nat) (nl nd:Nat) {E:Env} {R:HP→AV→List AV→Prop} (hN:E.N≤1000000) (hR:cV (lj t most F) R) (hl:∀n∈l,n≤15)
    (hbad:S.err≠0→F=(([],[]),S)) (hgood:S.err=0→l.length=nl+nd∧257≤nl∧nl≤286∧nd≤30∧F=if l.getD 256 0=0∨bm (l.take nl)=false∨bm (l.drop nl)=false then(([],[]),{S with err:=3})else((l.take nl,l.drop nl),S)) :
    vcW Tryz.prog E Cod.sU (Q5 R) ⟨[(0,.ab 79038 0),(4,.int .i64 nl),(11,.sl 75094 0 l.length),(2000000,.ab 79038 0)],aA t most S++[(75094,.arr 1 (an l))]⟩:=by
 have hnl:=bV l
 by_cases he:S.err=0
 ·obtain⟨h1,h2,h3,h4,hF⟩:=hgood he
  have ht1:(l.take nl).length=nl:=by rw[List.length_take];omega
  have hd1:(l.drop nl).length=nd:=by rw[List.length_drop];omega
  have hck1:=sS (l.take nl) (qn hl nl) (by omega)
  have hck2:=sS (l.drop nl) (oB hl nl) (by omega)
  have es:(nl:Int)-0=nl:=by omega
  have en:l.length-nl=nd:=by omega
  have etd:(l.drop nl).take nd=l.drop nl:=List.take_of_length_le (by omega)
  have etk:(l.drop 0).take nl=l.take nl:=rfl
  have bad:F=(([],[]),{S with err:=3})→∀h,eL h (aA t most {S with err:=3})→R h (.aj [.al,.al]) [.ab 79038 0]:=fun hF h hh=>mr hR hF (by simp) hh
  by_cases h256:l.getD 256 0=0
  ·rw[if_pos (.inl h256)]at hF
   refine tI he @dG hnl h256 ?_
   refine gG ?_
   refine aJ (aA t most S) (eP t most S 3) (bW he) nofun ?_
   rintro h' v ar ⟨rfl,rfl,rfl⟩
   refine⟨aF,rfl,?_⟩
   rw[eJ he]
   refine bC ?_
   exact bad hF _ aF
  ·have hi256:¬((l.getD 256 0:Nat):Int)=0:=by omega
   generalize hx:l.getD 256 0=x256 at *
   cases hc1:bm (l.take nl)with
   | false=>
    rw[if_pos (.inr (.inl hc1))]at hF
    rw[hc1]at hck1
    refine qv he @dG hnl hx hi256 ?_
    refine gG ?_
    refine gj (j9 (fv @eO) hck1 vV rfl ?_)
    refine wW ?_
    refine gG ?_
    refine aJ (aA t most S) (eP t most S 3) (bW he) nofun ?_
    rintro h' v ar ⟨rfl,rfl,rfl⟩
    refine⟨aF,rfl,?_⟩
    rw[eJ he]
    refine bC ?_
    exact bad hF _ aF
   | true=>
    rw[hc1]at hck1
    cases hc2:bm (l.drop nl)with
    | false=>
     rw[if_pos (.inr (.inr hc2))]at hF
     rw[hc2]at hck2
     refine qv he @dG hnl hx hi256 ?_
     refine gG ?_
     refine gj (j9 (fv @eO) hck1 vV rfl ?_)
     refine wW ?_
     refine gG ?_
     refine gj (j9 (tD @eO en etd) hck2 vV rfl ?_)
     refine wW ?_
     refine gG ?_
     refine aJ (aA t most S) (eP t most S 3) (bW he) nofun ?_
     rintro h' v ar ⟨rfl,rfl,rfl⟩
     refine⟨aF,rfl,?_⟩
     rw[eJ he]
     refine bC ?_
     exact bad hF _ aF
    | true=>
     rw[if_neg (by simp[hc1,hc2];omega)]at hF
     rw[hc2]at hck2
     subst hF
     refine qv he @dG hnl hx hi256 ?_
     refine gG ?_
     refine gj (j9 (fv @eO) hck1 vV rfl ?_)
     refine wW ?_
     refine gG ?_
     refine gj (j9 (tD @eO en etd) hck2 vV rfl ?_)
     refine wW ?_
     refine gG ?_
     exact hR.wk (h':=aA t most S) (r':=.aj [.ro 1 (an (l.take nl)),.ro 1 (an (l.drop nl))]) (ar':=[.ab eS 0]) rfl (.bK 75094 (.le (asS he @eO en etd))) ⟨rfl,(if_pos he).symm,rfl⟩
 ·have hi:¬((S.err:Int)=0):=by omega
  refine b4 hi ?_
  exact mr hR (hbad he) he aF
theorem lF (t:Bs) (fl:List Nat) (N k:Nat) (l:List Nat) (S:SS):cY t fl N (k+1) l S=if N≤l.length∨S.err≠0 then(l,S)else
    if(ck N l (bR t l (aU t fl S).1 (aU t fl S).2)).err≠0 then(l,ck N l (bR t l (aU t fl S).1 (aU t fl S).2))
    else cY t fl N k (l++List.replicate (bR t l (aU t fl S).1 (aU t fl S).2).1 (bR t l (aU t fl S).1 (aU t fl S).2).2.1) (ck N l (bR t l (aU t fl S).1 (aU t fl S).2)):=rfl
theorem yN (l:List Nat) (k x:Nat):an (l++List.replicate k x)++[.int .i64 (x:Int)]=an (l++List.replicate (k+1) x):=by
 rw[fc,List.append_assoc,←List.replicate_succ']
theorem aaa {t:Bs} {most N:Nat} {l:List Nat} {b:Nat×Nat×SS}:Mv t most b.2.2 (ck N l b):=by
 unfold ck
 split
 ·exact iI
 ·exact .refl
abbrev tW (R1 RX:KS) (R:HP→AV→List AV→Prop):KQ:=KQ.cS 3 (KQ.eQ R1 (KQ.cS 2 (KQ.eQ RX (Q5 R))))
set_option maxHeartbeats 1000000 in
theorem JK (t:Bs) (most:Nat) (l fl:List Nat) (nl nd:Nat) (s:Nat) (S:SS) {E:Env} {R1 R2 RX:KS} {R:HP→AV→List AV→Prop} (hN:E.N≤1000000) (h0:bS t most S) (hs:s<19) (hl:∀n∈l,n≤15) (hll:l.length≤400)
    (hnil:s=16→l=[]→∀h,eL h (aA t most (b9 3 S))→R h (.aj [.al,.al]) [.ab 79038 0])
    (hR2:∀st',Wk st' ⟨[(0,.ab 79038 0),(4,.int .i64 nl),(5,.int .i64 nd),(10,.ro 1 (bI (aO fl))),(11,.sl 75094 0 l.length),(13,.int .i64 ((bR t l s S).1:Nat)),(14,.int .i64 ((bR t l s S).2.1:Nat)),(2000000,.ab 79038 0)],aA t most (bR t l s S).2.2++[(75094,.arr 1 (an l))]⟩→R2.ap st') :
    vcW Tryz.prog E Cod.zH (KQ.eQ R2 (tW R1 RX R)) ⟨[(0,.ab 79038 0),(4,.int .i64 nl),(5,.int .i64 nd),(10,.ro 1 (bI (aO fl))),(11,.sl 75094 0 l.length),(12,.int .i64 s),(13,.int .i64 1),(14,.int .i64 s),(2000000,.ab 79038 0)],aA t most S++[(75094,.arr 1 (an l))]⟩:=by
 have hnl:=bV l
 unfold bR at hR2
 by_cases h16:s=16
 ·rw[if_pos h16]at hR2
  by_cases hle:l=[]
  ·have hn:=hnil h16 hle
   subst hle
   subst h16
   refine b4 @hU ?_
   refine gG ?_
   refine aJ (aA t most S) (eP t most S 3) aF nofun ?_
   rintro h' v ar ⟨rfl,rfl,rfl⟩
   generalize b9 3 S=S1 at *
   refine⟨aF,rfl,?_⟩
   refine bC ?_
   exact hn _ aF
  ·rw[if_neg hle]at hR2
   have hl0:0<l.length:=by cases l with | nil=>exact absurd rfl hle | cons=>simp
   have el:(l.length:Int)-1=((l.length-1:Nat):Int):=by omega
   have hz:¬((l.length:Int)=0):=by omega
   have hx:nth (an l) (l.length-1)=.int .i64 (l.getD (l.length-1) 0:Nat):=dG (by omega)
   subst h16
   refine tI hz el hnl hx ?_
   have hnlt:=fg (t:=t) (n:=2) (S:=S)
   refine aJ (aA t most S) (fR t most S h0 2 (by decide)) aF nofun ?_
   rintro h' v ar ⟨rfl,rfl,rfl⟩
   generalize aH t 2 S=a at *
   refine⟨aF,rfl,?_⟩
   refine bC ?_
   exact hR2 _ (.le aF)
 ·rw[if_neg h16]at hR2
  by_cases h17:s=17
  ·rw[if_pos h17]at hR2
   subst h17
   refine bC ?_
   refine gG ?_
   have hnlt:=fg (t:=t) (n:=3) (S:=S)
   refine aJ (aA t most S) (fR t most S h0 3 (by decide)) aF nofun ?_
   rintro h' v ar ⟨rfl,rfl,rfl⟩
   generalize aH t 3 S=a at *
   refine⟨aF,rfl,?_⟩
   refine bC ?_
   exact hR2 _ (.le aF)
  ·rw[if_neg h17]at hR2
   by_cases h18:s=18
   ·rw[if_pos h18]at hR2
    subst h18
    refine bC ?_
    refine gG ?_
    have hnlt:=fg (t:=t) (n:=7) (S:=S)
    refine aJ (aA t most S) (fR t most S h0 7 (by decide)) aF nofun ?_
    rintro h' v ar ⟨rfl,rfl,rfl⟩
    generalize aH t 7 S=a at *
    refine⟨aF,rfl,?_⟩
    refine bC ?_
    exact hR2 _ (.le aF)
   ·rw[if_neg h18]at hR2
    have e16:¬((s:Int)=16):=by omega
    have e17:¬((s:Int)=17):=by omega
    have e18:¬((s:Int)=18):=by omega
    refine ij e16 e17 e18 ?_
    exact hR2 _ (.le aF)
set_option maxHeartbeats 1000000 in
theorem JE (t:Bs) (most N:Nat) (l fl:List Nat) (nl nd:Nat) (b:Nat×Nat×SS) {E:Env} {R1 RX:KS} {R:HP→AV→List AV→Prop} (hN:E.N≤1000000) (hNN:nl+nd=N) (hN1:N≤400) (hll:l.length≤N) (hb1:b.1≤200) (hb2:b.2.1≤15)
    (hR1:∀st',Wk st' ⟨[(0,.ab 79038 0),(4,.int .i64 nl),(5,.int .i64 nd),(10,.ro 1 (bI (aO fl))),(11,.sl 75094 0 (if(ck N l b).err=0 then l++List.replicate b.1 b.2.1 else l).length),(2000000,.ab 79038 0)],aA t most (ck N l b)++[(75094,.arr 1 (an (if(ck N l b).err=0 then l++List.replicate b.1 b.2.1 else l)))]⟩→R1.ap st') :
    vcW Tryz.prog E Cod.zF (tW R1 RX R) ⟨[(0,.ab 79038 0),(4,.int .i64 nl),(5,.int .i64 nd),(10,.ro 1 (bI (aO fl))),(11,.sl 75094 0 l.length),(13,.int .i64 b.1),(14,.int .i64 b.2.1),(2000000,.ab 79038 0)],aA t most b.2.2++[(75094,.arr 1 (an l))]⟩:=by
 obtain⟨k,x,S⟩:=b
 simp only at hb1 hb2 hR1 ⊢
 have esum:(nl:Int)+(nd:Int)=(N:Int):=by omega
 refine da hN (fun _:Unit=>⟨[(0,.ab 79038 0),(4,.int .i64 nl),(5,.int .i64 nd),(10,.ro 1 (bI (aO fl))),(11,.sl 75094 0 l.length),(13,.int .i64 k),(14,.int .i64 x),(2000000,.ab 79038 0)],aA t most (ck N l (k,x,S))++[(75094,.arr 1 (an l))]⟩) (fun _=>True) (fun R2 hR2=>?_) (fun _ _=>?_)
 ·unfold ck at hR2
  simp only at hR2
  by_cases he:S.err=0
  ·by_cases hov:N<l.length+k
   ·have hov':(N:Int)<(l.length:Int)+(k:Int):=by omega
    rw[if_pos hov]at hR2
    refine ij he esum hov' ?_
    refine aJ (aA t most S) (eP t most S 3) (bW he) nofun ?_
    rintro h' v ar ⟨rfl,rfl,rfl⟩
    generalize b9 3 S=S1 at *
    refine⟨aF,rfl,?_⟩
    refine bC ?_
    exact hR2 () _ trivial (.le aF)
   ·have hov':¬((N:Int)<(l.length:Int)+(k:Int)):=by omega
    rw[if_neg hov]at hR2
    refine ij he esum hov' ?_
    exact hR2 () _ trivial (.le (bW he))
  ·have hi:¬((S.err:Int)=0):=by omega
   have e:b9 3 S=S:=if_neg he
   rw[e,ite_self]at hR2
   refine gp hi esum ?_
   refine dY hi esum ?_
   exact hR2 () _ trivial (.le aF)
 ·generalize ck N l (k,x,S)=S1 at *
  refine bC ?_
  refine a7 hN (fun j:Nat=>⟨[(0,.ab 79038 0),(4,.int .i64 nl),(5,.int .i64 nd),(10,.ro 1 (bI (aO fl))),(11,.sl 75094 0 (l.length+j:Nat)),(13,.int .i64 k),(14,.int .i64 x),(15,.int .i64 j),(2000000,.ab 79038 0)],aA t most S1++[(75094,.arr 1 (an (l++List.replicate j x)))]⟩) (fun j=>j≤k∧(S1.err≠0→j=0)) (fun j=>k-j) 0
   (.le (by simp(disch:=omega)only[go_sem,simprocAttr,aA];simp)) ⟨by omega,fun _=>rfl⟩ ?_
  rintro j R2 ⟨hj,hj0⟩ hR2
  have hnl:=bV (l++List.replicate j x)
  have hlr:(l++List.replicate j x).length=l.length+j:=by simp
  have hnr:=yN l j x
  have hsb:aL (an (l++List.replicate j x)) 0 (l.length+j)=an (l++List.replicate j x):=by rw[←hlr];exact ft
  by_cases he:S1.err=0
  ·by_cases hjk:j<k
   ·refine ij he hsb @fe ?_
    exact hR2 (j+1) _ (by omega) ⟨by omega,fun h=>absurd he h⟩ (.le (Cg he hnr))
   ·obtain rfl:j=k:=by omega
    rw[if_pos he,hlr]at hR1
    refine b4 he ?_
    refine bQ he ?_
    exact hR1 _ (.le (bW he))
  ·obtain rfl:=hj0 he
   rw[if_neg he]at hR1
   have hi:¬((S1.err:Int)=0):=by omega
   have er:l++List.replicate 0 x=l:=by simp
   rw[er]
   by_cases hjk:0<k
   ·refine b4 hi ?_
    refine bQ hi ?_
    exact hR1 _ (.le aF)
   ·obtain rfl:k=0:=by omega
    refine b4 hi ?_
    refine bQ hi ?_
    exact hR1 _ (.le aF)
theorem B1 {t:Bs} {l:List Nat} {S:SS} {s:Nat} (hl:∀n∈l,n≤15) (hs:s<19):(bR t l s S).1≤200∧(bR t l s S).2.1≤15:=by
 have h2:=fg (t:=t) (n:=2) (S:=S)
 have h3:=fg (t:=t) (n:=3) (S:=S)
 have h7:=fg (t:=t) (n:=7) (S:=S)
 unfold bR
 split
 ·split
  ·exact⟨by simp,by simp⟩
  ·rename_i hle
   refine⟨by simp only;omega,?_⟩
   have:l.length-1<l.length:=by cases l with | nil=>exact absurd rfl hle | cons=>simp
   simp only[List.getD_eq_getElem?_getD,List.getElem?_eq_getElem this,Option.getD_some]
   exact hl _ (List.getElem_mem this)
 ·split
  ·exact⟨by simp only;omega,by simp⟩
  ·split
   ·exact⟨by simp only;omega,by simp⟩
   ·exact⟨by simp,by simp only;omega⟩
theorem arI {t:Bs} {l:List Nat} {S:SS} {s:Nat} (h:(bR t l s S).2.2.err=0) (h0:S.err=0):1≤(bR t l s S).1:=by
 unfold bR at h ⊢
 split
 ·rename_i hs
  rw[if_pos hs]at h
  split
  ·rename_i hle
   rw[if_pos hle]at h
   exact absurd h (gV (by decide))
  ·simp only;omega
 ·split
  ·simp only;omega
  ·split
   ·simp only;omega
   ·simp
theorem y9 {N:Nat} {l:List Nat} {b:Nat×Nat×SS} (h:(ck N l b).err=0):b.2.2.err=0∧ck N l b=b.2.2∧l.length+b.1≤N:=by
 unfold ck at h ⊢
 by_cases hlt:N<l.length+b.1
 ·rw[if_pos hlt]at h
  exact absurd h (gV (by decide))
 ·rw[if_neg hlt]at h ⊢
  exact⟨h,rfl,by omega⟩
set_option maxHeartbeats 4000000 in
theorem JC (t:Bs) (most:Nat) (F:(List Nat×List Nat)×SS) (S0:SS) (fl:List Nat) (nl nd:Nat) {E:Env} {R:HP→AV→List AV→Prop} (hN:E.N≤1000000) (hR:cV (lj t most F) R) (h0:bS t most S0) (he0:S0.err=0)
    (hfl:∀n∈fl,n≤15) (hfn:fl.length=19) (h1:257≤nl) (h2:nl≤286) (h3:1≤nd) (h4:nd≤30)
    (hbad:(cY t fl (nl+nd) (nl+nd) [] S0).2.err≠0→F=(([],[]),(cY t fl (nl+nd) (nl+nd) [] S0).2))
    (hgood:(cY t fl (nl+nd) (nl+nd) [] S0).2.err=0→F=if(cY t fl (nl+nd) (nl+nd) [] S0).1.getD 256 0=0∨bm ((cY t fl (nl+nd) (nl+nd) [] S0).1.take nl)=false∨bm ((cY t fl (nl+nd) (nl+nd) [] S0).1.drop nl)=false
     then(([],[]),{(cY t fl (nl+nd) (nl+nd) [] S0).2 with err:=3})else(((cY t fl (nl+nd) (nl+nd) [] S0).1.take nl,(cY t fl (nl+nd) (nl+nd) [] S0).1.drop nl),(cY t fl (nl+nd) (nl+nd) [] S0).2)) :
    vcW Tryz.prog E Cod.zE (Q5 R) ⟨[(0,.ab 79038 0),(4,.int .i64 nl),(5,.int .i64 nd),(10,.ro 1 (bI (aO fl))),(11,.sl 75094 0 0),(2000000,.ab 79038 0)],(75094,.arr 1 [])::aA t most S0⟩:=by
 generalize hG:cY t fl (nl+nd) (nl+nd) [] S0=G at hbad hgood
 have hN0:nl+nd<400:=by omega
 have hN1:1≤nl+nd:=by omega
 generalize hNN:nl+nd=N at *
 have hcc:=fun(h1':∀n∈G.1,n≤15) (h2':G.2.err=0→G.1.length=N)=>JD t most F G.2 G.1 nl nd (E:=E) (R:=R) hN hR h1' hbad (fun h=>⟨(h2' h).trans hNN.symm,h1,h2,h4,hgood h⟩)
 refine da (y:=Cod.sU) hN (fun _:Unit=>⟨[(0,.ab 79038 0),(4,.int .i64 nl),(11,.sl 75094 0 G.1.length),(2000000,.ab 79038 0)],aA t most G.2++[(75094,.arr 1 (an G.1))]⟩) (fun _=>(∀n∈G.1,n≤15)∧(G.2.err=0→G.1.length=N)) (fun RX hRX=>?_)
  (fun _ hx=>hcc hx.1 hx.2)
 have hnil0:∀S',G=([],S')→S'.err≠0→∀h,eL h (aA t most S')→R h (.aj [.al,.al]) [.ab 79038 0]:=by
  rintro S' rfl he' h hh
  exact mr hR (hbad he') he' hh
 clear hcc hbad hgood hR
 refine wW ?_
 refine a7 hN (fun q:List Nat×SS=>⟨[(0,.ab 79038 0),(4,.int .i64 nl),(5,.int .i64 nd),(10,.ro 1 (bI (aO fl))),(11,.sl 75094 0 q.1.length),(2000000,.ab 79038 0)],aA t most q.2++[(75094,.arr 1 (an q.1))]⟩)
  (fun q=>bS t most q.2∧(∀n∈q.1,n≤15)∧q.1.length≤N∧(q.2.err≠0→G=q)∧(q.2.err=0→∃k,N-q.1.length≤k∧cY t fl N k q.1 q.2=G)) (fun q=>if q.2.err=0 then N+1-q.1.length else 0) ([],S0)
  (.le (bW @hU)) ⟨h0,by simp,by simp,fun h=>absurd he0 h,fun _=>⟨N,by simp,hG⟩⟩ ?_
 rintro⟨l,S⟩ R1 ⟨hok,hl,hll,hb,hg⟩ hR1
 simp only at hok hl hll hb hg
 have hnl:=bV l
 have esum:(nl:Int)+(nd:Int)=(N:Int):=by omega
 by_cases he:S.err=0
 ·by_cases hlt:l.length<N
  ·obtain⟨k,hk,hk2⟩:=hg he
   obtain⟨k,rfl⟩:∃k',k=k'+1:=⟨k-1,by omega⟩
   rw[lF,if_neg (by omega)]at hk2
   have hsu:=ql (t:=t) (l:=fl) he
   refine gp he esum ?_
   refine dY he esum ?_
   refine aJ (aA t most S) (s3 t most S hok fl hfl (by omega)) (bW he) nofun ?_
   rintro h' v ar ⟨rfl,rfl,rfl⟩
   have hok2:bS t most (aU t fl S).2:=hok.mv jf
   have hs0:(aU t fl S).2.err≠0→(aU t fl S).1=0:=by
    intro h
    unfold aU at h ⊢
    split at h
    ·rename_i hh;rw[if_pos hh]
    ·rename_i hh
     rw[if_neg hh]
     split at h
     ·rename_i hh;rw[if_pos hh]
     ·exact absurd he h
   generalize aU t fl S=a at *
   have hs19:a.1<19:=by
    by_cases h:a.2.err=0
    ·have:=(hsu h).2;omega
    ·rw[hs0 h];omega
   refine⟨aF,rfl,?_⟩
   refine bC ?_
   have hmt:Mv t most a.2 (bR t l a.1 a.2).2.2:=yL
   have hok3:=hok2.mv hmt
   have hmo:Mv t most (bR t l a.1 a.2).2.2 (ck N l (bR t l a.1 a.2)):=aaa
   have hok4:=hok3.mv hmo
   refine da hN (fun _:Unit=>⟨[(0,.ab 79038 0),(4,.int .i64 nl),(5,.int .i64 nd),(10,.ro 1 (bI (aO fl))),(11,.sl 75094 0 l.length),(13,.int .i64 ((bR t l a.1 a.2).1:Nat)),(14,.int .i64 ((bR t l a.1 a.2).2.1:Nat)),(2000000,.ab 79038 0)],aA t most (bR t l a.1 a.2).2.2++[(75094,.arr 1 (an l))]⟩)
    (fun _=>True) (fun R2 hR2=>?_) (fun _ _=>?_)
   ·have hnilG:a.1=16→l=[]→G=([],b9 3 a.2):=by
     intro h16 hle
     subst hle
     have ht:bR t [] a.1 a.2=(0,0,b9 3 a.2):=by unfold bR;rw[if_pos h16,if_pos rfl]
     have ho:ck N [] (0,0,b9 3 a.2)=b9 3 a.2:=if_neg (by simp)
     rw[ht,ho,if_pos (gV (by decide))]at hk2
     exact hk2.symm
    have hsw:=JK t most l fl nl nd a.1 a.2 (E:=E) (R1:=R1) (R2:=R2) (RX:=RX) (R:=R) hN hok2 hs19 hl (by omega) (fun h16 hle=>hnil0 _ (hnilG h16 hle) (gV (by decide))) (fun st' hw=>hR2 () _ trivial hw)
    simp only[aA]at hsw
    exact hsw
   ·have hb12:=B1 (t:=t) (l:=l) (S:=a.2) (s:=a.1) hl hs19
    refine JE t most N l fl nl nd (bR t l a.1 a.2) hN hNN (by omega) hll hb12.1 hb12.2 (fun st' hw=>?_)
    generalize hbb:bR t l a.1 a.2=b at *
    generalize hcc:ck N l b=c at *
    by_cases hce:c.err=0
    ·rw[if_pos hce]at hw
     rw[if_neg (by simpa using hce)]at hk2
     obtain⟨hbe,hcb,hov⟩:=y9 (N:=N) (l:=l) (b:=b) (by rw[hcc];exact hce)
     have hae:a.2.err=0:=by
      by_cases h:a.2.err=0
      ·exact h
      ·have h1:=hs0 h
       have ht:bR t l a.1 a.2=(1,a.1,a.2):=by unfold bR;rw[if_neg (by omega),if_neg (by omega),if_neg (by omega)]
       rw[←hbb,ht]at hbe
       exact absurd hbe h
     have hb1:=arI (t:=t) (l:=l) (S:=a.2) (s:=a.1) (by rw[hbb];exact hbe) hae
     rw[hbb]at hb1
     have hlr:(l++List.replicate b.1 b.2.1).length=l.length+b.1:=by simp
     refine hR1 (l++List.replicate b.1 b.2.1,c) _ ?_ ⟨hok4,?_,?_,?_,?_⟩ hw
     ·simp only[if_pos hce,if_pos he,hlr]
      omega
     ·intro n hn
      rcases List.mem_append.1 hn with hn | hn
      ·exact hl n hn
      ·rw[(List.mem_replicate.1 hn).2]
       exact hb12.2
     ·simp only[hlr]
      exact hov
     ·intro h
      exact absurd hce h
     ·intro _
      refine⟨k,?_,hk2⟩
      simp only[hlr]
      omega
    ·rw[if_neg hce]at hw
     rw[if_pos hce]at hk2
     refine hR1 (l,c) _ ?_ ⟨hok4,hl,hll,fun _=>hk2.symm,fun h=>absurd h hce⟩ hw
     simp only[if_neg hce,if_pos he]
     omega
  ·obtain⟨k,hk,hk2⟩:=hg he
   have hGe:G=(l,S):=by
    rw[←hk2]
    cases k with
    | zero=>rfl
    | succ k=>rw[lF,if_pos (.inl (by omega))]
   subst hGe
   have hlt':¬((l.length:Int)<(N:Int)):=by omega
   refine ij he esum hlt' ?_
   refine dY he esum ?_
   exact hRX () _ ⟨hl,fun _=>by simp only;omega⟩ (.le (bW he))
 ·have hGe:=hb he
  subst hGe
  have hi:¬((S.err:Int)=0):=by omega
  by_cases hlt:l.length<N
  ·refine gp hi esum ?_
   refine dY hi esum ?_
   exact hRX () _ ⟨hl,fun h=>absurd h he⟩ (.le aF)
  ·have hlt':¬((l.length:Int)<(N:Int)):=by omega
   refine ij hi esum hlt' ?_
   refine dY hi esum ?_
   exact hRX () _ ⟨hl,fun h=>absurd h he⟩ (.le aF)
def ku (t:Bs) (nl nd:Nat) (b:List Nat×SS):(List Nat×List Nat)×SS:=
 if b.2.err≠0 then(([],[]),b.2)else
 if b.1.getD 256 0=0∨bm (b.1.take nl)=false∨bm (b.1.drop nl)=false then(([],[]),{b.2 with err:=3})else((b.1.take nl,b.1.drop nl),b.2)
def eK (t:Bs) (nl nd:Nat) (a:List Nat×SS):(List Nat×List Nat)×SS:=
 if a.2.err≠0 then(([],[]),a.2)else if bm a.1=false then(([],[]),{a.2 with err:=3})else ku t nl nd (cY t a.1 (nl+nd) (nl+nd) [] a.2)
theorem oE (t:Bs) (S:SS):cf t S=if 8*t.length<S.p+14 then(([],[]),{S with err:=6})else if 286<numAt t S.p 5+257∨30<numAt t (S.p+5) 5+1 then(([],[]),{S with p:=S.p+14,err:=3})else
    eK t (numAt t S.p 5+257) (numAt t (S.p+5) 5+1) (firstS t (numAt t (S.p+10) 4+4) (numAt t (S.p+10) 4+4) (List.replicate 19 0) {S with p:=S.p+14}):=rfl
def kG:aI:=.arr 1 (an eA)
set_option maxHeartbeats 1000000 in
theorem JF (t:Bs) (most:Nat) (S:SS) (fl:List Nat) (nl nd nc:Nat) (x9:AV) {E:Env} {R:HP→AV→List AV→Prop} (hN:E.N≤1000000) (hR:cV (lj t most (eK t nl nd (fl,S))) R) (h0:bS t most S)
    (hfl:∀n∈fl,n≤15) (hfn:fl.length=19) (hb:S.err=0→257≤nl∧nl≤286∧1≤nd∧nd≤30) :
    vcW Tryz.prog E Cod.sV (Q5 R) ⟨[(0,.ab 79038 0),(4,.int .i64 nl),(5,.int .i64 nd),(6,.int .i64 nc),(7,.sl 75053 0 19),(8,.sl 75054 0 19),(9,x9),(64,.bool false),(2000000,.ab 79038 0)],aA t most S++[(75053,.arr 1 (an fl)),(75054,kG)]⟩:=by
 have hnl:=bV fl
 have hck:=sS fl hfl (by omega)
 have hsub:aL (an fl) 0 19=an fl:=by rw[←hfn];exact ft
 refine da (y:=Cod.zI) hN (fun _:Unit=>⟨[(0,.ab 79038 0),(4,.int .i64 nl),(5,.int .i64 nd),(7,.ro 1 (an fl)),(2000000,.ab 79038 0)],aA t most (if S.err=0∧bm fl=false then {S with err:=3} else S)⟩) (fun _=>True) (fun R2 hR2=>?_) (fun _ _=>?_)
 ·clear hR
  by_cases he:S.err=0
  ·cases hc:bm fl with
   | false=>
    rw[hc]at hck
    rw[if_pos ⟨he,hc⟩]at hR2
    refine b4 he ?_
    refine gG ?_
    refine gj (j9 (fv hsub) hck vV rfl ?_)
    refine wW ?_
    refine gG ?_
    refine aJ (aA t most S) (eP t most S 3) (bW he) nofun ?_
    rintro h' v ar ⟨rfl,rfl,rfl⟩
    refine⟨aF,rfl,?_⟩
    rw[eJ he]
    refine bC ?_
    exact hR2 () _ trivial (.bK 75053 (.le (bW hsub)))
   | true=>
    rw[hc]at hck
    rw[if_neg (by simp[hc])]at hR2
    refine b4 he ?_
    refine gG ?_
    refine gj (j9 (fv hsub) hck vV rfl ?_)
    refine wW ?_
    refine gG ?_
    exact hR2 () _ trivial (.bK 75053 (.le (Cg he hsub)))
  ·have hi:¬((S.err:Int)=0):=by omega
   rw[if_neg (fun h=>he h.1)]at hR2
   refine b4 hi ?_
   refine bQ hi ?_
   exact hR2 () _ trivial (.bK 75053 (.le (bW hsub)))
 ·by_cases he:S.err=0
  ·by_cases hc:bm fl=false
   ·rw[if_pos ⟨he,hc⟩]
    have hF:eK t nl nd (fl,S)=(([],[]),{S with err:=3}):=by unfold eK;rw[if_neg (by simpa using he),if_pos hc]
    refine bC ?_
    exact mr hR hF (by simp) aF
   ·rw[if_neg (fun h=>hc h.2)]
    obtain⟨h1,h2,h3,h4⟩:=hb he
    have hcod:=sT fl hfl (by omega)
    have hF:eK t nl nd (fl,S)=ku t nl nd (cY t fl (nl+nd) (nl+nd) [] S):=by unfold eK;rw[if_neg (by simpa using he),if_neg hc]
    rw[hF]at hR
    have hbb:=JC t most _ S fl nl nd (E:=E) (R:=R) hN hR h0 he hfl hfn h1 h2 h3 h4 (fun h=>if_pos h) (fun h=>if_neg (by simpa using h))
    clear hR
    refine b4 he ?_
    refine aE hcod rfl rfl ?_
    refine wW ?_
    simp only[aA,he]at hbb
    exact hbb
  ·rw[if_neg (fun h=>he h.1)]
   have hi:¬((S.err:Int)=0):=by omega
   have hF:eK t nl nd (fl,S)=(([],[]),S):=if_pos he
   refine b4 hi ?_
   exact mr hR hF he aF
theorem mu (t:Bs) (nc k:Nat) (l:List Nat) (S:SS):firstS t nc (k+1) l S=if S.err≠0 then(l,S)else firstS t nc k (l.set (eA.getD (nc-(k+1)) 0) (aH t 3 S).1) (aH t 3 S).2:=rfl
theorem oJ (t:Bs) (nc k:Nat) (l:List Nat) (S:SS) (h:S.err≠0):firstS t nc k l S=(l,S):=by
 cases k with
 | zero=>rfl
 | succ k=>rw[mu,if_pos h]
theorem zk:∀j,j<19→eA.getD j 0<19:=by decide
theorem sE {l:List Nat} {i x:Nat}:(an l).set i (.int .i64 (x:Int))=an (l.set i x):=by simp[an,List.map_set]
set_option maxHeartbeats 1000000 in
theorem JG (t:Bs) (most:Nat) (S0:SS) (nl nd nc:Nat) {E:Env} {R:HP→AV→List AV→Prop} (hN:E.N≤1000000) (h0:bS t most S0) (hc:nc≤19)
    (hR:cV (lj t most (eK t nl nd (firstS t nc nc (List.replicate 19 0) S0))) R) (hb:S0.err=0→257≤nl∧nl≤286∧1≤nd∧nd≤30) :
    vcW Tryz.prog E Cod.zG (Q5 R) ⟨[(0,.ab 79038 0),(4,.int .i64 nl),(5,.int .i64 nd),(6,.int .i64 nc),(2000000,.ab 79038 0)],aA t most S0⟩:=by
 generalize hG:firstS t nc nc (List.replicate 19 0) S0=G at hR
 refine bC ?_
 refine a7 hN (fun q:Nat×List Nat×SS=>⟨[(0,.ab 79038 0),(4,.int .i64 nl),(5,.int .i64 nd),(6,.int .i64 nc),(7,.sl 75053 0 19),(8,.sl 75054 0 19),(9,.int .i64 q.1),(2000000,.ab 79038 0)],aA t most q.2.2++[(75053,.arr 1 (an q.2.1)),(75054,kG)]⟩)
  (fun q=>bS t most q.2.2∧(∀n∈q.2.1,n≤15)∧q.2.1.length=19∧q.1≤nc∧(q.2.2.err=0→S0.err=0)∧firstS t nc (nc-q.1) q.2.1 q.2.2=G) (fun q=>nc-q.1) (0,List.replicate 19 0,S0)
  (.le (by simp(disch:=omega)only[go_sem,simprocAttr,aA,kG];exact⟨rfl,rfl⟩)) ⟨h0,by simp,by simp,by simp,fun h=>h,hG⟩ ?_
 rintro⟨j,l,S⟩ R1 ⟨hok,hl,hll,hj,he0,hg⟩ hR1
 simp only at hok hl hll hj hg he0
 have hnl:=bV l
 have fin:(l,S)=G→vcW Tryz.prog E Cod.sV (Q5 R) ⟨[(0,.ab 79038 0),(4,.int .i64 nl),(5,.int .i64 nd),(6,.int .i64 nc),(7,.sl 75053 0 19),(8,.sl 75054 0 19),(9,.int .i64 j),(64,.bool false),(2000000,.ab 79038 0)],aA t most S++[(75053,.arr 1 (an l)),(75054,kG)]⟩:=by
  intro h
  subst h
  exact JF t most S l nl nd nc _ hN hR hok hl hll (fun h=>hb (he0 h))
 clear hR
 by_cases he:S.err=0
 ·by_cases hlt:j<nc
  ·clear fin
   obtain⟨m,hm⟩:∃m,nc-j=m+1:=⟨nc-j-1,by omega⟩
   rw[hm,mu,if_neg (by simpa using he),show nc-(m+1)=j by omega]at hg
   have hpl:=zk j (by omega)
   have hx:nth (an eA) j=.int .i64 (eA.getD j 0:Nat):=dG (by have:eA.length=19:=rfl;omega)
   have hpn:(an eA).length=19:=rfl
   generalize eA.getD j 0=pj at *
   have hnlt:=fg (t:=t) (n:=3) (S:=S)
   have hnum:=fR t most S hok 3 (by decide)
   have hok2:bS t most (aH t 3 S).2:=hok.mv eN
   have hxl:nth (an l) pj=.int .i64 (l.getD pj 0:Nat):=dG (by omega)
   have hnx:∀x,x<8→∀n∈l.set pj x,n≤15:=by
    intro x hx n hn
    rcases List.mem_or_eq_of_mem_set hn with hn | hn
    ·exact hl n hn
    ·omega
   simp(disch:=omega)only[go_sem,simprocAttr,aA,he,kG,hpn]
   refine bQ he ?_
   refine⟨?_,?_⟩
   ·refine bH hx hpn ?_
    refine aJ (aA t most S) hnum (bW he) nofun ?_
    rintro h' v ar ⟨rfl,rfl,rfl⟩
    generalize aH t 3 S=a at *
    refine⟨aF,rfl,?_⟩
    refine tI hnl hll hxl @sE ?_
    exact hR1 (j+1,l.set pj a.1,a.2) _ (by simp only;omega) ⟨hok2,hnx _ hnlt,by simp[hll],hlt,fun _=>he0 he,by simp only;rw[show nc-(j+1)=m by omega];exact hg⟩ (.le (by simp(disch:=omega)only[go_sem,simprocAttr,aA,kG]))
   ·refine aJ (aA t most S) hnum (bW he) nofun ?_
    rintro h' v ar ⟨rfl,rfl,rfl⟩
    generalize aH t 3 S=a at *
    refine⟨aF,rfl,?_⟩
    refine tJ hnl hll hx hxl hpn @sE ?_
    exact hR1 (j+1,l.set pj a.1,a.2) _ (by simp only;omega) ⟨hok2,hnx _ hnlt,by simp[hll],hlt,fun _=>he0 he,by simp only;rw[show nc-(j+1)=m by omega];exact hg⟩ (.le (by simp(disch:=omega)only[go_sem,simprocAttr,aA,kG]))
  ·obtain rfl:j=nc:=by omega
   rw[Nat.sub_self]at hg
   have fin:=fin hg
   simp only[aA,he]at fin
   refine b4 he ?_
   refine bQ he ?_
   exact fin
 ·rw[oJ _ _ _ _ _ he]at hg
  have fin:=fin hg
  simp only[aA]at fin
  have hi:¬((S.err:Int)=0):=by omega
  by_cases hlt:j<nc
  ·refine b4 hi ?_
   refine bQ hi ?_
   exact fin
  ·refine b4 hi ?_
   refine bQ hi ?_
   exact fin
theorem aav (t:Bs) (S:SS) (he:S.err=0) (h:¬8*t.length<S.p+14):aH t 5 S=(numAt t S.p 5,{S with p:=S.p+5})∧aH t 5 {S with p:=S.p+5}=(numAt t (S.p+5) 5,{S with p:=S.p+10})∧aH t 4 {S with p:=S.p+10}=(numAt t (S.p+10) 4,{S with p:=S.p+14}):=
 ⟨ez he (by omega),ez he (by simp only;omega),ez he (by simp only;omega)⟩
set_option maxHeartbeats 1000000 in
theorem agd (t:Bs) (most:Nat) (S:SS) (h0:bS t most S) (he:S.err=0):Eng.Spec Tryz.prog 98 (aA t most S) [.ab eS 0] (lj t most (cf t S)):=by
 refine Cod.age (fun E R hN hR=>?_)
 have hbl:=nT t
 obtain⟨q1,q2,q3,q4⟩:=h0
 have h0:bS t most S:=⟨q1,q2,q3,q4⟩
 rw[oE]at hR
 generalize hS1:(if 8*t.length<S.p+14 then {S with err:=6} else S)=S1
 have hok1:bS t most S1:=by rw[←hS1];split;exact h0.mv gI;exact h0
 refine bC ?_
 refine da hN (fun _:Unit=>⟨[(0,.ab 79038 0),(2000000,.ab 79038 0)],aA t most S1⟩) (fun _=>True) (fun R2 hR2=>?_) (fun _ _=>?_)
 ·subst hS1
  by_cases hlt:8*t.length<S.p+14
  ·rw[if_pos hlt]at hR2
   have hi:((8*t.length:Nat):Int)-(S.p:Int)<14:=by omega
   refine ij he hbl hi ?_
   refine fM he hbl hi ?_
   refine aJ (aA t most S) (eP t most S 6) (bW he) nofun ?_
   rintro h' v ar ⟨rfl,rfl,rfl⟩
   refine⟨aF,rfl,?_⟩
   rw[eJ he]
   refine bC ?_
   exact hR2 () _ trivial (.le aF)
  ·rw[if_neg hlt]at hR2
   have hi:¬((8*t.length:Nat):Int)-(S.p:Int)<14:=by omega
   refine ij he hbl hi ?_
   refine fM he hbl hi ?_
   exact hR2 () _ trivial (.le (bW he))
 ·generalize hF:(if 8*t.length<S.p+14 then((([]:List Nat),([]:List Nat)),{S with err:=6})else if 286<numAt t S.p 5+257∨30<numAt t (S.p+5) 5+1 then(([],[]),{S with p:=S.p+14,err:=3})else
   eK t (numAt t S.p 5+257) (numAt t (S.p+5) 5+1) (firstS t (numAt t (S.p+10) 4+4) (numAt t (S.p+10) 4+4) (List.replicate 19 0) {S with p:=S.p+14}))=F at hR
  have ha:=fR t most S1 hok1 5 (by decide)
  have hoka:bS t most (aH t 5 S1).2:=hok1.mv eN
  have hla:=fg (t:=t) (n:=5) (S:=S1)
  generalize hea:aH t 5 S1=a at *
  have hb:=fR t most a.2 hoka 5 (by decide)
  have hokb:bS t most (aH t 5 a.2).2:=hoka.mv eN
  have hlb:=fg (t:=t) (n:=5) (S:=a.2)
  generalize heb:aH t 5 a.2=b at *
  have hc:=fR t most b.2 hokb 4 (by decide)
  have hokc:bS t most (aH t 4 b.2).2:=hokb.mv eN
  have hlc:=fg (t:=t) (n:=4) (S:=b.2)
  generalize hec:aH t 4 b.2=c at *
  refine bC ?_
  refine aJ (aA t most S1) ha aF nofun ?_
  rintro h' v ar ⟨rfl,rfl,rfl⟩
  refine⟨aF,rfl,?_⟩
  refine bC ?_
  refine aJ (aA t most a.2) hb aF nofun ?_
  rintro h' v ar ⟨rfl,rfl,rfl⟩
  refine⟨aF,rfl,?_⟩
  refine bC ?_
  refine aJ (aA t most b.2) hc aF nofun ?_
  rintro h' v ar ⟨rfl,rfl,rfl⟩
  refine⟨aF,rfl,?_⟩
  refine bC ?_
  generalize hS2:(if 286<a.1+257∨30<b.1+1 then b9 3 c.2 else c.2)=S2
  have hok2:bS t most S2:=by rw[←hS2];split;exact hokc.mv iI;exact hokc
  refine da hN (fun _:Unit=>⟨[(0,.ab 79038 0),(4,.int .i64 ((a.1+257:Nat):Int)),(5,.int .i64 ((b.1+1:Nat):Int)),(6,.int .i64 ((c.1+4:Nat):Int)),(2000000,.ab 79038 0)],aA t most S2⟩) (fun _=>True) (fun R2 hR2=>?_) (fun _ _=>?_)
  ·subst hS2
   by_cases hx1:286<a.1+257
   ·have hx1':=hx1
    rw[if_pos (.inl hx1)]at hR2
    refine wW ?_
    refine gG ?_
    refine aJ (aA t most c.2) (eP t most c.2 3) aF nofun ?_
    rintro h' v ar ⟨rfl,rfl,rfl⟩
    generalize b9 3 c.2=S3 at *
    refine⟨aF,rfl,?_⟩
    refine bC ?_
    exact hR2 () _ trivial (.le aF)
   ·by_cases hx2:30<b.1+1
    ·have hx2':=hx2
     rw[if_pos (.inr hx2)]at hR2
     refine wW ?_
     refine gG ?_
     refine aJ (aA t most c.2) (eP t most c.2 3) aF nofun ?_
     rintro h' v ar ⟨rfl,rfl,rfl⟩
     generalize b9 3 c.2=S3 at *
     refine⟨aF,rfl,?_⟩
     refine bC ?_
     exact hR2 () _ trivial (.le aF)
    ·rw[if_neg (by omega)]at hR2
     refine wW ?_
     refine gG ?_
     exact hR2 () _ trivial (.le aF)
  ·have hfin:F=eK t (a.1+257) (b.1+1) (firstS t (c.1+4) (c.1+4) (List.replicate 19 0) S2):=by
    rw[←hF]
    by_cases hlt:8*t.length<S.p+14
    ·rw[if_pos hlt]at hS1 ⊢
     have h1:S1.err≠0:=by rw[←hS1];simp
     rw[kE h1]at hea
     subst hea
     rw[kE h1]at heb
     subst heb
     rw[kE h1]at hec
     subst hec
     rw[if_neg (by simp)]at hS2
     simp only at hS2
     subst hS2
     rw[oJ _ _ _ _ _ h1]
     unfold eK
     rw[if_pos h1,hS1]
    ·rw[if_neg hlt]at hS1 ⊢
     subst hS1
     obtain⟨w1,w2,w3⟩:=aav t S he hlt
     rw[w1]at hea
     subst hea
     simp only at heb
     rw[w2]at heb
     subst heb
     simp only at hec
     rw[w3]at hec
     subst hec
     simp only at hS2 ⊢
     by_cases hx:286<numAt t S.p 5+257∨30<numAt t (S.p+5) 5+1
     ·rw[if_pos hx]at hS2 ⊢
      rw[eJ (by exact he)]at hS2
      subst hS2
      rw[oJ _ _ _ _ _ (by simp)]
      unfold eK
      rw[if_pos (by simp)]
     ·rw[if_neg hx]at hS2 ⊢
      rw[hS2]
   rw[hfin]at hR
   refine JG t most S2 (a.1+257) (b.1+1) (c.1+4) hN hok2 (by omega) hR (fun h=>?_)
   rw[←hS2]at h
   split at h
   ·exact absurd h (gV (by decide))
   ·omega
theorem yi {t:Bs} {fl:List Nat} {N:Nat} (hfn:fl.length=19):∀(k:Nat) (l:List Nat) (S:SS),(∀n∈l,n≤15)→l.length≤N→(∀n∈(cY t fl N k l S).1,n≤15)∧(cY t fl N k l S).1.length≤N
 | 0,l,S,h1,h2=>⟨h1,h2⟩
 | k+1,l,S,h1,h2=>by
  rw[lF]
  split
  ·exact⟨h1,h2⟩
  ·rename_i hn
   have he:S.err=0:=by omega
   have hs:(aU t fl S).1<19:=by
    by_cases h:(aU t fl S).2.err=0
    ·have:=(ql he h).2;omega
    ·unfold aU at h ⊢
     split at h
     ·rename_i hh;rw[if_pos hh];simp
     ·rename_i hh
      rw[if_neg hh]
      split at h
      ·rename_i hh;rw[if_pos hh];simp
      ·exact absurd he h
   have hb:=B1 (t:=t) (S:=(aU t fl S).2) h1 hs
   split
   ·exact⟨h1,h2⟩
   ·rename_i hc
    have ho:=y9 (N:=N) (l:=l) (b:=bR t l (aU t fl S).1 (aU t fl S).2) (by omega)
    refine yi hfn k _ _ ?_ (by simp only[List.length_append,List.length_replicate];exact ho.2.2)
    intro n hn
    rcases List.mem_append.1 hn with hn | hn
    ·exact h1 n hn
    ·rw[(List.mem_replicate.1 hn).2]
     exact hb.2
theorem wE {t:Bs} {nc:Nat}:∀(k:Nat) (l:List Nat) (S:SS),(firstS t nc k l S).1.length=l.length
 | 0,l,S=>rfl
 | k+1,l,S=>by
  rw[mu]
  split
  ·rfl
  ·rw[wE k];simp
theorem JH {t:Bs} {S:SS} (h:(cf t S).2.err=0):(∀n∈(cf t S).1.1,n≤15)∧(cf t S).1.1.length≤320∧(∀n∈(cf t S).1.2,n≤15)∧(cf t S).1.2.length≤320:=by
 rw[oE]at h ⊢
 split
 ·simp
 ·rename_i h1
  rw[if_neg h1]at h
  split
  ·simp
  ·rename_i h2
   rw[if_neg h2]at h
   have hfl:=wE (t:=t) (nc:=numAt t (S.p+10) 4+4) (numAt t (S.p+10) 4+4) (List.replicate 19 0) {S with p:=S.p+14}
   generalize firstS t (numAt t (S.p+10) 4+4) (numAt t (S.p+10) 4+4) (List.replicate 19 0) {S with p:=S.p+14}=a at *
   generalize numAt t S.p 5+257=nl at *
   generalize numAt t (S.p+5) 5+1=nd at *
   rw[List.length_replicate]at hfl
   unfold eK
   split
   ·simp
   ·split
    ·simp
    ·have hg:=yi (t:=t) (fl:=a.1) (N:=nl+nd) hfl (nl+nd) [] a.2 (by simp) (by simp)
     unfold ku
     generalize cY t a.1 (nl+nd) (nl+nd) [] a.2=b at *
     split
     ·simp
     ·split
      ·simp
      ·refine⟨qn hg.1 nl,?_,oB hg.1 nl,?_⟩
       ·simp only[List.length_take];omega
       ·simp only[List.length_drop];omega
theorem Gg {t:Bs} {S:SS} (he:S.err=0) (h:¬8*t.length<S.p+3) :
    aH t 1 S=(numAt t S.p 1,{S with p:=S.p+1})∧aH t 2 {S with p:=S.p+1}=(numAt t (S.p+1) 2,{S with p:=S.p+3}):=
 ⟨ez he (by omega),ez he (by simp only;omega)⟩
theorem up8 (n:Nat):cH n/8=(n+7)/8:=by unfold cH;omega
def lE (t:Bs) (most k:Nat) (S:SS):SS:=
 if S.err≠0 then S else if k=0 then dT t most S else if k=1 then cT t most bl bT S
  else if k=2 then(if(cf t S).2.err≠0 then(cf t S).2 else cT t most (cf t S).1.1 (cf t S).1.2 (cf t S).2)else {S with err:=3}
set_option maxHeartbeats 2000000 in
theorem sg (t:Bs) (most k:Nat) (S:SS) (fin:Nat) {E:Env} {Q:KQ} {R2:KS} (hN:E.N≤1000000) (hok:bS t most S) (hk:k<4)
    (hR2:∀st',Wk st' ⟨[(9,.ab 79038 0),(10,.int .i64 fin)],aA t most (lE t most k S)⟩→R2.ap st') :
    vcW Tryz.prog E Cod.zM (KQ.eQ R2 Q) ⟨[(9,.ab 79038 0),(10,.int .i64 fin),(11,.int .i64 k)],aA t most S⟩:=by
 unfold lE at hR2
 by_cases he:S.err=0
 ·rw[if_neg (by simpa using he)]at hR2
  by_cases h0:k=0
  ·rw[if_pos h0]at hR2
   subst h0
   refine b4 he ?_
   refine gG ?_
   refine aJ (aA t most S) (ai4 t most S hok) (bW he) nofun ?_
   rintro h' v ar ⟨rfl,rfl,rfl⟩
   generalize dT t most S=S3 at *
   refine⟨aF,rfl,?_⟩
   refine bC ?_
   exact hR2 _ (.le aF)
  ·rw[if_neg h0]at hR2
   have i0:¬((k:Int)=0):=by omega
   by_cases h1:k=1
   ·rw[if_pos h1]at hR2
    subst h1
    have hp:=z7 t most S hok bl bT iA.1 (by rw[iA.2.1];decide) iy.1 (by rw[iy.2.1];decide)
    have hfx:=agL
    generalize bl=l at *
    generalize bT=d at *
    generalize hF:cT t most l d S=F at *
    refine b4 he ?_
    refine gG ?_
    refine aE hfx rfl rfl ?_
    refine wW ?_
    refine aJ (aA t most S) hp (bW he) nofun ?_
    rintro h' v ar ⟨rfl,rfl,rfl⟩
    refine⟨aF,rfl,?_⟩
    refine bC ?_
    exact hR2 _ (.le aF)
   ·rw[if_neg h1]at hR2
    have i1:¬((k:Int)=1):=by omega
    by_cases h2:k=2
    ·rw[if_pos h2]at hR2
     subst h2
     have hd:=agd t most S hok he
     have hg:=JH (t:=t) (S:=S)
     have hokd:bS t most (cf t S).2:=hok.mv pH
     generalize cf t S=D at *
     refine b4 he ?_
     refine gG ?_
     refine aJ (aA t most S) hd (bW he) nofun ?_
     rintro h' v ar ⟨rfl,rfl,rfl⟩
     by_cases hde:D.2.err=0
     ·rw[if_neg (by simpa using hde)]at hR2
      rw[if_pos hde]
      obtain⟨g1,g2,g3,g4⟩:=hg hde
      have hp:=z7 t most D.2 hokd D.1.1 D.1.2 g1 g2 g3 g4
      generalize cT t most D.1.1 D.1.2 D.2=F at *
      refine⟨aF,vV,?_⟩
      refine b4 hde ?_
      refine aJ (aA t most D.2) hp (bW hde) nofun ?_
      rintro h' v ar ⟨rfl,rfl,rfl⟩
      refine⟨aF,rfl,?_⟩
      refine bC ?_
      exact hR2 _ (.le aF)
     ·rw[if_pos hde]at hR2
      rw[if_neg hde]
      have hi:¬((D.2.err:Int)=0):=by omega
      refine⟨aF,vV,?_⟩
      refine b4 hi ?_
      refine bQ hi ?_
      exact hR2 _ (.le aF)
    ·rw[if_neg h2]at hR2
     obtain rfl:k=3:=by omega
     refine b4 he ?_
     refine gG ?_
     refine aJ (aA t most S) (eP t most S 3) (bW he) nofun ?_
     rintro h' v ar ⟨rfl,rfl,rfl⟩
     refine⟨aF,rfl,?_⟩
     rw[eJ he]
     refine bC ?_
     exact hR2 _ (.le aF)
 ·have hi:¬((S.err:Int)=0):=by omega
  rw[if_pos he]at hR2
  refine b4 hi ?_
  exact hR2 _ (.le aF)
theorem Gh {t:Bs} {most:Nat} {S:SS} (he:S.err=0) (h:¬8*t.length<S.p+3) :
    de t most S=(decide (numAt t S.p 1=1),lE t most (numAt t (S.p+1) 2) {S with p:=S.p+3}):=by
 have hk:∀k,lE t most k {S with p:=S.p+3}=if k=0 then dT t most {S with p:=S.p+3} else if k=1 then cT t most bl bT {S with p:=S.p+3}
  else if k=2 then(if(cf t {S with p:=S.p+3}).2.err≠0 then(cf t {S with p:=S.p+3}).2 else cT t most (cf t {S with p:=S.p+3}).1.1 (cf t {S with p:=S.p+3}).1.2 (cf t {S with p:=S.p+3}).2)else {S with p:=S.p+3,err:=3}:=fun k=>if_neg (by simpa using he)
 rw[hk]
 exact if_neg h
set_option maxHeartbeats 2000000 in
theorem ahg (x:Bs) (o most:Nat) (ho:o≤x.length) (ht:(x.drop o).length≤1000000) (hx:x.length≤4000000000000000000) (hm:most≤65536) :
    aP Tryz.prog 50 [.str x,.int .i64 o,.int .i64 most] (.aj [.str (dF (x.drop o) most).1,.int .i64 ((dF (x.drop o) most).2.1:Nat),.int .i64 ((dF (x.drop o) most).2.2:Nat)]):=by
 refine Cod.ahh (fun E R hN hR=>?_)
 have c1:¬((o:Int)<0):=by omega
 have c2:¬((x.length:Int)<(o:Int)):=by omega
 have c3:¬((most:Int)<0):=by omega
 have c4:¬((65536:Int)<(most:Int)):=by omega
 have hbits:=acM (x.drop o) ht
 refine ea c1 c2 c3 c4 ?_
 refine lv c1 c2 c3 c4 ?_
 generalize x.drop o=t at *
 have hbl:=nT t
 refine aE hbits rfl rfl ?_
 refine wW ?_
 unfold dF at hR
 simp only at hR
 generalize hRS:fi t most ⟨0,[],0⟩=RS at hR
 refine a7 hN (fun S:SS=>⟨[(9,.ab 79038 0)],aA t most S⟩) (fun S=>bS t most S∧(S.err=0→fi t most S=RS)∧(S.err≠0→RS=S)) (fun S=>if S.err=0 then 8*t.length+1-S.p else 0) ⟨0,[],0⟩
  (.jI 79038 2 73035 1 [.ro 1 (b7 (aR t 0)),.int .i64 0,.al,.int .i64 most,.int .i64 0] vV rfl rfl (.le aF)) ⟨⟨ht,by omega,by simp,by simp⟩,fun _=>hRS,fun h=>absurd rfl h⟩ ?_
 rintro S R1 ⟨hok,hg,hb⟩ hR1
 by_cases he:S.err=0
 ·have hg:=hg he
  rw[run_eq hok.pl]at hg
  have hmb:=kz (t:=t) (most:=most) (S:=S)
  have hokb:bS t most (de t most S).2:=hok.mv hmb.1
  generalize hS1:(if 8*t.length<S.p+3 then {S with err:=6} else S)=S1
  have hok1:bS t most S1:=by rw[←hS1];split;exact hok.mv gI;exact hok
  have hpl:=hok.pl
  have htl:=hok.tl
  refine b4 he ?_
  refine da hN (fun _:Unit=>⟨[(9,.ab 79038 0)],aA t most S1⟩) (fun _=>True) (fun R2 hR2=>?_) (fun _ _=>?_)
  ·subst hS1
   clear hR hR1
   by_cases hlt:8*t.length<S.p+3
   ·rw[if_pos hlt]at hR2
    have hi:((8*t.length:Nat):Int)-(S.p:Int)<3:=by omega
    refine ij he hbl hi ?_
    refine fM he hbl hi ?_
    refine aJ (aA t most S) (eP t most S 6) (bW he) nofun ?_
    rintro h' v ar ⟨rfl,rfl,rfl⟩
    refine⟨aF,rfl,?_⟩
    rw[eJ he]
    refine bC ?_
    exact hR2 () _ trivial (.le aF)
   ·rw[if_neg hlt]at hR2
    have hi:¬((8*t.length:Nat):Int)-(S.p:Int)<3:=by omega
    refine ij he hbl hi ?_
    refine fM he hbl hi ?_
    exact hR2 () _ trivial (.le (bW he))
  ·have ha:=fR t most S1 hok1 1 (by decide)
   have hoka:bS t most (aH t 1 S1).2:=hok1.mv eN
   have hla:=fg (t:=t) (n:=1) (S:=S1)
   generalize hea:aH t 1 S1=a at *
   have hbn:=fR t most a.2 hoka 2 (by decide)
   have hokb2:bS t most (aH t 2 a.2).2:=hoka.mv eN
   have hlb:=fg (t:=t) (n:=2) (S:=a.2)
   generalize heb:aH t 2 a.2=b at *
   have hkk:(de t most S).2=lE t most b.1 b.2∧((de t most S).2.err=0→((de t most S).1=true↔a.1=1)):=by
    by_cases hlt:8*t.length<S.p+3
    ·rw[if_pos hlt]at hS1
     have h1:S1.err≠0:=by rw[←hS1];simp
     rw[kE h1]at hea
     subst hea
     rw[kE h1]at heb
     subst heb
     have hbk:de t most S=(true,{S with err:=6}):=if_pos hlt
     rw[hbk]
     refine⟨?_,fun h=>absurd h (by simp)⟩
     unfold lE
     rw[if_pos h1,hS1]
    ·rw[if_neg hlt]at hS1
     subst hS1
     obtain⟨w1,w2⟩:=Gg he hlt
     rw[w1]at hea
     subst hea
     simp only at heb
     rw[w2]at heb
     subst heb
     rw[Gh he hlt]
     exact⟨rfl,fun _=>by simp⟩
   obtain⟨hk1,hk2⟩:=hkk
   generalize de t most S=B at *
   refine bC ?_
   refine aJ (aA t most S1) ha aF nofun ?_
   rintro h' v ar ⟨rfl,rfl,rfl⟩
   refine⟨aF,rfl,?_⟩
   refine bC ?_
   refine aJ (aA t most a.2) hbn aF nofun ?_
   rintro h' v ar ⟨rfl,rfl,rfl⟩
   refine⟨aF,rfl,?_⟩
   refine bC ?_
   refine da hN (fun _:Unit=>⟨[(9,.ab 79038 0),(10,.int .i64 a.1)],aA t most B.2⟩) (fun _=>True) (fun R2 hR2=>?_) (fun _ _=>?_)
   ·have hkd:=sg t most b.1 b.2 a.1 (E:=E) (R2:=R2) (Q:=KQ.cS 1 (KQ.eQ R1 (KQ.cS 0 (KQ.seq Tryz.prog E Cod.zN (KQ.post [RVar.tmp 6,RVar.tmp 7,RVar.tmp 8] 3 R))))) hN hokb2 hlb (fun st' hw=>hR2 () _ trivial (by rw[hk1];exact hw))
    simp only[aA]at hkd
    exact hkd
   ·by_cases hBe:B.2.err=0
    ·by_cases ha1:a.1=1
     ·have hB1:=(hk2 hBe).2 ha1
      rw[if_pos (.inr hB1)]at hg
      subst hg
      rw[if_neg (by simpa using hBe)]at hR
      have hup:=zw B.2.p (by have:=hokb.pl;omega)
      have hi:((a.1:Nat):Int)=1:=by omega
      have hup2:=up8 B.2.p
      have hub:cH B.2.p≤B.2.p+8:=by unfold cH;omega
      have:=hokb.pl
      have:=hokb.ol
      refine gp hBe hi ?_
      refine dY hBe hi ?_
      refine aE hup rfl rfl ?_
      generalize cH B.2.p=ub at *
      have e8:(ub:Int)/8=(((B.2.p+7)/8:Nat):Int):=by omega
      refine aw e8 ?_
      exact hR.wk (h':=[]) (r':=.aj [.str B.2.out,.int .i64 ((B.2.p+7)/8:Nat),.int .i64 (0:Nat)]) (ar':=[.undef,.undef,.undef]) rfl (.le vV) ⟨rfl,rfl⟩
     ·have hB1:¬B.1=true:=fun h=>ha1 ((hk2 hBe).1 h)
      have hi:¬((a.1:Nat):Int)=1:=by omega
      rw[if_neg (fun h=>h.elim (fun h=>h hBe) hB1)]at hg
      refine gp hBe hi ?_
      refine dY hBe hi ?_
      exact hR1 B.2 _ (by simp only[if_pos hBe,if_pos he];have:=hmb.2 hBe;omega) ⟨hokb,fun _=>hg,fun h=>absurd hBe h⟩ (.le (bW hBe))
    ·rw[if_pos (.inl hBe)]at hg
     have hi:¬((B.2.err:Int)=0):=by omega
     refine b4 hi ?_
     refine bQ hi ?_
     exact hR1 B.2 _ (by simp only[if_neg hBe,if_pos he];omega) ⟨hokb,fun h=>absurd h hBe,fun _=>hg.symm⟩ (.le aF)
 ·obtain rfl:=hb he
  rw[if_pos he]at hR
  have hi:¬((RS.err:Int)=0):=by omega
  refine b4 hi ?_
  refine bQ hi ?_
  exact hR.wk (h':=[]) (r':=.aj [.str [],.int .i64 (0:Nat),.int .i64 (RS.err:Nat)]) (ar':=[.undef,.undef,.undef]) rfl (.le vV) ⟨rfl,rfl⟩
def fk:Nat:=65032
def qD:Nat:=60022
attribute [go_sem] fk qD
def aW (s:Bs) (o most a hv:Nat) (out:Bs):HP:=[(fk,.var [.ab RD 0,.sl qD 0 out.length,.int .i64 most]),(qD,.arr 1 (out.map ub)),(RD,.var (aZ s a hv o))]
theorem nt {p:Prop} (h:p:=by simp(disch:=first | omega | (simp only[Lx];omega))only[go_sem,simprocAttr,aW,aZ,bn]):p:=h
theorem tK {a b:Prop} (k:b) (h:b→a:=by intro h;simp(disch:=first | omega | (simp only[Lx];omega))only[go_sem,simprocAttr,aW,aZ,bn];exact h):a:=h k
theorem qt {E0:Prop} {p:Prop} (e0:E0) (h:E0→p:=by intro e0;simp(disch:=first | omega | (simp only[Lx];omega))only[go_sem,simprocAttr,aW,aZ,bn,e0]):p:=h e0
theorem bD {p:Prop} (h:p:=by simp(disch:=first | omega | (simp only[Lx];omega))only[go_sem,simprocAttr,aW,aZ]):p:=h
theorem jr {a b:Prop} (k:b) (h:b→a:=by intro h;simp(disch:=first | omega | (simp only[Lx];omega))only[go_sem,simprocAttr,aW,aZ];exact h):a:=h k
theorem Ch {E0:Prop} {p:Prop} (e0:E0) (h:E0→p:=by intro e0;simp(disch:=first | omega | (simp only[Lx];omega))only[go_sem,simprocAttr,aW,aZ,e0]):p:=h e0
theorem tL {E0:Prop} {a b:Prop} (e0:E0) (k:b) (h:E0→b→a:=by intro e0 h;simp(disch:=first | omega | (simp only[Lx];omega))only[go_sem,simprocAttr,aW,aZ,e0];exact h):a:=h e0 k
theorem vVJ {p:Prop} (h:p:=by simp(disch:=first | omega | (simp only[Lx];omega))only[go_sem,simprocAttr,aW]):p:=h
theorem ik {a b:Prop} (k:b) (h:b→a:=by intro h;simp(disch:=first | omega | (simp only[Lx];omega))only[go_sem,simprocAttr,aW];exact h):a:=h k
theorem tM {E0 E1:Prop} {a b:Prop} (e0:E0) (e1:E1) (k:b) (h:E0→E1→b→a:=by intro e0 e1 h;simp(disch:=first | omega | (simp only[Lx];omega))only[go_sem,simprocAttr,aW,e0,e1];exact h):a:=h e0 e1 k
theorem xK (s:Bs) (o most a hv:Nat) (out:Bs) (hm:most≤1000000) (ho:out.length≤most) (c:UInt8):Eng.Spec Tryz.prog 165 (aW s o most a hv out) [.ab fk 0,.int .u8 (c.toNat:Int)]
    (fun h' v ar=>h'=aW s o most a hv (if out.length=most then out else out++[c])∧v=.int .i64 (if out.length=most then 2 else 0:Nat)∧ar=[.ab fk 0,.int .u8 (c.toNat:Int)]):=by
 refine Cod.Sy (fun E R hN hR=>?_)
 have hc:=c.toNat_lt
 by_cases hf:out.length=most
 ·rw[if_pos hf,if_pos hf]at hR
  refine jr ?_
  refine gG ?_
  exact hR.le bD ⟨rfl,rfl,rfl⟩
 ·rw[if_neg hf,if_neg hf]at hR
  refine jr ?_
  refine gG ?_
  refine hR.le ?_ ⟨rfl,rfl,rfl⟩
  refine jr ?_
  rw[UInt8.ofNat_toNat]
theorem Ye:∀i:Nat,i<28→8≤i→IntKind.i64.wrap (3+IntKind.i64.wrap ((4+(i:Int)%4)*2^min ((i:Int)/4-1).toNat 64))=((3+(4+i%4)*2^(i/4-1):Nat):Int)∧(i:Int)/4-1=((i/4-1:Nat):Int):=by decide +kernel
theorem Jn:∀i:Nat,i<30→4≤i→IntKind.i64.wrap (1+IntKind.i64.wrap ((2+(i:Int)%2)*2^min ((i:Int)/2-1).toNat 64))=((1+(2+i%2)*2^(i/2-1):Nat):Int)∧(i:Int)/2-1=((i/2-1:Nat):Int):=by decide +kernel
theorem xE (i:Nat) (hi:i≤28):aP Tryz.prog 139 [.int .i64 i] (.aj [.int .i64 ((aQ i).1:Nat),.int .i64 ((aQ i).2:Nat)]):=by
 refine Cod.RC (fun E R hN hR=>?_)
 by_cases h28:i=28
 ·subst h28
  refine wW ?_
  exact hR.le vV ⟨rfl,rfl⟩
 ·by_cases h8:i<8
  ·have e:aQ i=(3+i,0):=by unfold aQ;rw[if_neg h28,if_pos h8]
   rw[e]at hR
   refine wW ?_
   refine gG ?_
   exact hR.le vV ⟨rfl,rfl⟩
  ·have e:aQ i=(3+(4+i%4)*2^(i/4-1),i/4-1):=by unfold aQ;rw[if_neg h28,if_neg h8]
   rw[e]at hR
   refine wW ?_
   refine gG ?_
   obtain⟨w1,w2⟩:=Ye i (by omega) (by omega)
   rw[w1,w2]
   exact hR.le vV ⟨rfl,rfl⟩
theorem xz (i:Nat) (hi:i≤29):aP Tryz.prog 140 [.int .i64 i] (.aj [.int .i64 ((bu i).1:Nat),.int .i64 ((bu i).2:Nat)]):=by
 refine Cod.QG (fun E R hN hR=>?_)
 by_cases h4:i<4
 ·have e:bu i=(1+i,0):=by unfold bu;rw[if_pos h4]
  rw[e]at hR
  refine wW ?_
  refine gG ?_
  exact hR.le vV ⟨rfl,rfl⟩
 ·have e:bu i=(1+(2+i%2)*2^(i/2-1),i/2-1):=by unfold bu;rw[if_neg h4]
  rw[e]at hR
  refine wW ?_
  refine gG ?_
  obtain⟨w1,w2⟩:=Jn i (by omega) (by omega)
  rw[w1,w2]
  exact hR.le vV ⟨rfl,rfl⟩
def PI (s:Bs) (o most:Nat) (F:SS) (h':HP) (v:AV):Prop:=
 ∃a' hv' out',h'=aW s o most a' hv' out'∧v=.int .i64 (F.err:Nat)∧(F.err=0→out'=F.out∧bO s a' hv' (8*o+F.p))
theorem iJ {s:Bs} {o most:Nat} {F:SS} {h':HP} {v:AV} (h:∃a' hv' S',h'=aW s o most a' hv' S'.out∧bO s a' hv' (8*o+S'.p)∧S'.out.length≤most∧v=.int .i64 (F.err:Nat)∧(F.err=0→S'=F)):PI s o most F h' v:=by
 obtain⟨a',hv',S',h1,h2,_,h4,h5⟩:=h
 exact⟨a',hv',S'.out,h1,h4,fun he=>by obtain rfl:=h5 he;exact⟨rfl,h2⟩⟩
theorem su (s:Bs) (o p:Nat):dj s (8*o+p)=8*(s.drop o).length-p:=by unfold dj;rw[List.length_drop];omega
theorem v7 (s:Bs) (q:Nat) (h:q+2≤s.length):(s.drop q).take 2=[s.getD q 0,s.getD (q+1) 0]:=by
 have h1:q<s.length:=by omega
 have h2:q+1<s.length:=by omega
 rw[List.drop_eq_getElem_cons h1,List.drop_eq_getElem_cons h2,List.getD_eq_getElem?_getD,List.getD_eq_getElem?_getD,List.getElem?_eq_getElem h1,List.getElem?_eq_getElem h2]
 rfl
theorem yl (x y:UInt8):aP Tryz.prog 186 [.str [x,y]] (.int .u64 ((x.toNat+y.toNat*2^8:Nat):Int)):=by
 refine Cod.LS (fun E R hN hR=>?_)
 have hx:=x.toNat_lt
 have hy:=y.toNat_lt
 refine wW ?_
 refine a7 hN (fun i:Nat=>⟨[(0,.str [x,y]),(3,.int .u64 (if i=0 then 0 else if i=1 then x.toNat else x.toNat+y.toNat*2^8:Nat)),(7,.int .i64 2),(8,.int .i64 i)],[]⟩) (fun i=>i≤2) (fun i=>2-i) 0 (.le vV) (by omega) ?_
 rintro i R1 hi hR1
 obtain rfl | rfl | rfl:i=0∨i=1∨i=2:=by omega
 ·have e0:bits .or .u64 0 (IntKind.u64.wrap ((x.toNat:Int)*2^min 0 64))=((x.toNat:Nat):Int):=(sM (x:=0) (k:=0) (b:=x.toNat) (by decide) (by decide) hx).trans (by rw[Nat.zero_add,Nat.pow_zero,Nat.mul_one])
  refine aw e0 ?_
  exact hR1 1 _ (by omega) (by omega) (.le vV)
 ·have e1:bits .or .u64 (x.toNat:Int) (IntKind.u64.wrap ((y.toNat:Int)*2^min 8 64))=((x.toNat+y.toNat*2^8:Nat):Int):=sM (k:=8) hx (by decide) hy
  refine aw e1 ?_
  exact hR1 2 _ (by omega) (by omega) (.le vV)
 ·refine wW ?_
  exact hR.le vV ⟨rfl,rfl⟩
theorem mR (t:Bs) (most:Nat) {S:SS} (h:S.err≠0):∀n,rawS t most n S=S
 | 0=>rfl
 | n+1=>by rw[s4,if_pos h]
theorem Ao (t:Bs) (most:Nat):∀(n:Nat) (S:SS) (q:Nat),S.err=0→S.p=8*q→q≤t.length→S.out.length≤most →
    (rawS t most n S).err=(if most<S.out.length+min n (t.length-q)then 2 else if t.length<q+n then 6 else 0)∧((rawS t most n S).err=0→rawS t most n S=⟨8*(q+n),S.out++(t.drop q).take n,0⟩)
 | 0,S,q,he,hp,hq,ho=>by
  refine⟨?_,fun _=>?_⟩
  ·rw[if_neg (by omega),if_neg (by omega)];exact he
  ·obtain⟨p,out,err⟩:=S
   simp only at he hp
   subst he hp
   simp[rawS]
 | n+1,S,q,he,hp,hq,ho=>by
  rw[s4,if_neg (by simpa using he)]
  by_cases hq1:q=t.length
  ·have hn:=jJ (n:=8) he (t:=t) (by omega)
   rw[hn]
   have hput:cZ most (UInt8.ofNat (0,{S with err:=6}).1) (0,{S with err:=6}).2={S with err:=6}:=if_pos (by simp)
   rw[hput,mR _ _ (by simp)]
   refine⟨?_,fun h=>absurd h (by simp)⟩
   rw[if_neg (by omega),if_pos (by omega)]
  ·have hn:=ez (n:=8) he (t:=t) (by omega)
   rw[hn]
   simp only
   rw[hp,jg,UInt8.ofNat_toNat]
   unfold cZ
   rw[if_neg (by simpa using he)]
   by_cases hf:most≤S.out.length
   ·simp only[if_pos hf]
    rw[mR _ _ (by simp)]
    refine⟨?_,fun h=>absurd h (by simp)⟩
    rw[if_pos (by omega)]
   ·simp only[if_neg hf]
    obtain⟨h1,h2⟩:=Ao t most n {p:=8*q+8,out:=S.out++[t.getD q 0],err:=S.err} (q+1) he (by simp only;omega) (by omega) (by simp only[List.length_append,List.length_singleton];omega)
    refine⟨?_,fun h=>?_⟩
    ·rw[h1]
     simp only[List.length_append,List.length_singleton]
     rw[show S.out.length+1+min n (t.length-(q+1))=S.out.length+min (n+1) (t.length-q)by omega,show q+1+n=q+(n+1)by omega]
    ·rw[h2 h]
     have hlt:q<t.length:=by omega
     rw[List.drop_eq_getElem_cons hlt,List.take_succ_cons,List.getD_eq_getElem?_getD,List.getElem?_eq_getElem hlt,show q+1+n=q+(n+1)by omega]
     simp
theorem aq8 (t:Bs) (most:Nat) (S:SS) (he:S.err=0) (hp:S.p≤8*t.length) (ho:S.out.length≤most) (q:Nat) (hq:cH S.p=8*q) :
    if t.length<q+4 then(dT t most S).err=6 else
     if(t.getD q 0).toNat+(t.getD (q+1) 0).toNat*2^8+((t.getD (q+2) 0).toNat+(t.getD (q+3) 0).toNat*2^8)≠65535 then(dT t most S).err=3 else
     (dT t most S).err=(if most<S.out.length+min ((t.getD q 0).toNat+(t.getD (q+1) 0).toNat*2^8) (t.length-(q+4))then 2 else if t.length<q+4+((t.getD q 0).toNat+(t.getD (q+1) 0).toNat*2^8)then 6 else 0) ∧
     ((dT t most S).err=0→dT t most S=⟨8*(q+4+((t.getD q 0).toNat+(t.getD (q+1) 0).toNat*2^8)),S.out++(t.drop (q+4)).take ((t.getD q 0).toNat+(t.getD (q+1) 0).toNat*2^8),0⟩):=by
 have hn16:∀i,numAt t (8*i) 16=(t.getD i 0).toNat+(t.getD (i+1) 0).toNat*2^8:=by
  intro i
  rw[show(16:Nat)=8+8 from rfl,yT,jg,show 8*i+8=8*(i+1)by omega,jg]
 have hup:gn S={S with p:=8*q}:=by unfold gn;unfold cH at hq;rw[hq]
 have hq2:q≤t.length:=by unfold cH at hq;omega
 unfold dT
 simp only
 rw[hup]
 by_cases h4:t.length<q+4
 ·rw[if_pos h4]
  by_cases h2:t.length<q+2
  ·rw[jJ (by exact he) (by simp only;omega)]
   simp only
   rw[kE (by simp)]
   simp only
   rw[if_pos (by decide)]
   rw[mR _ _ (gV (by decide))]
   rfl
  ·rw[ez (by exact he) (by simp only;omega)]
   simp only
   rw[jJ (by exact he) (by simp only;omega)]
   simp only
   have hfe:b9 3 {p:=8*q+16,out:=S.out,err:=6}=({p:=8*q+16,out:=S.out,err:=6}:SS):=if_neg (by simp)
   rw[hfe,ite_self,mR _ _ (by simp)]
 ·rw[if_neg h4]
  rw[ez (by exact he) (by simp only;omega)]
  simp only
  rw[ez (by exact he) (by simp only;omega)]
  simp only
  rw[show 8*q+16=8*(q+2)by omega,hn16,hn16]
  by_cases hx:(t.getD q 0).toNat+(t.getD (q+1) 0).toNat*2^8+((t.getD (q+2) 0).toNat+(t.getD (q+2+1) 0).toNat*2^8)≠65535
  ·rw[if_pos hx,if_pos hx,mR _ _ (gV (by decide)),eJ (by exact he)]
  ·rw[if_neg hx,if_neg hx]
   exact Ao t most _ _ (q+4) he (by simp only;omega) (by omega) ho
theorem anU (s:Bs) (a hv fr p:Nat) (hs:s.length≤1000000000000) (h:bO s a hv p) (hfr:8*fr≤p):Eng.Spec Tryz.prog 121 [] [.au (.agg (aZ s a hv fr))] (fun h' v ar=>h'=[]∧v=.int .i64 ((p+7)/8-fr:Nat)∧ar=[.au (.agg (aZ s a hv fr))]):=by
 refine Cod.anW (fun E R hN hR=>?_)
 obtain⟨h1,h2,h3⟩:=h
 have eq:(hv:Int).tdiv 8=((hv/8:Nat):Int):=by rw[jT (by omega)];omega
 have e2:(a:Int)-((hv/8:Nat):Int)-(fr:Int)=(((p+7)/8-fr:Nat):Int):=by omega
 refine tN eq e2 ?_
 exact hR.le vV ⟨rfl,rfl,rfl⟩
theorem alL (s:Bs) (a hv fr p:Nat) (hs:s.length≤1000000000000) (h:bO s a hv p):Eng.Spec Tryz.prog 187 [] [.au (.agg (aZ s a hv fr))] (fun h' v ar=>h'=[]∧v=.int .i64 (dj s p:Nat)∧ar=[.au (.agg (aZ s a hv fr))]):=by
 refine Cod.alN (fun E R hN hR=>?_)
 obtain⟨h1,h2,h3⟩:=h
 have e2:8*((s.length:Int)-(a:Int))+(hv:Int)=((dj s p:Nat):Int):=by unfold dj;omega
 refine ati e2 ?_
 exact hR.le vV ⟨rfl,rfl,rfl⟩
theorem arG (s:Bs) (q:Nat) (h:q+4≤s.length):(s.drop q).take 4=[s.getD q 0,s.getD (q+1) 0,s.getD (q+2) 0,s.getD (q+3) 0]:=by
 have e:(s.drop q).take 4=(s.drop q).take 2++(s.drop (q+2)).take 2:=by rw[show(4:Nat)=2+2 from rfl,List.take_add,List.drop_drop]
 rw[e,v7 s q (by omega),v7 s (q+2) (by omega)]
 rfl
theorem auF {n:Nat} (h:n<65536):n ^^^ 65535=65535-n:=by
 have h1:(BitVec.ofNat 16 n ^^^ BitVec.allOnes 16).toNat=(~~~ (BitVec.ofNat 16 n)).toNat:=by rw[BitVec.xor_allOnes]
 rw[BitVec.toNat_xor,BitVec.toNat_not,BitVec.toNat_ofNat,BitVec.toNat_allOnes,Nat.mod_eq_of_lt (by omega)]at h1
 omega
set_option maxHeartbeats 1000000 in
theorem Uz (s:Bs) (o most a hv:Nat) (S:SS) (hs:s.length≤1000000000) (ho:o≤s.length) (hm:most≤1000000) (hr:bO s a hv (8*o+S.p)) (hol:S.out.length≤most) (he:S.err=0) :
    Eng.Spec Tryz.prog 162 (aW s o most a hv S.out) [.ab fk 0] (fun h' v ar=>PI s o most (dT (s.drop o) most S) h' v∧ar=[.ab fk 0]):=by
 refine Cod.UA (fun E R hN hR=>?_)
 obtain⟨q,hq⟩:∃q,cH S.p=8*q:=⟨(S.p+7)/8,by unfold cH;omega⟩
 have hr':=hr
 obtain⟨r1,r2,r3⟩:=hr'
 have hpl:S.p≤8*(s.drop o).length:=by rw[List.length_drop];omega
 have hup:cH (8*o+S.p)=8*(o+q):=by unfold cH at hq ⊢;omega
 have hud:cH (8*o+S.p)/8=o+q:=by omega
 have law:=aq8 (s.drop o) most S he hpl hol q hq
 generalize dT (s.drop o) most S=F at *
 have gd:∀i,(s.drop o).getD i 0=s.getD (o+i) 0:=fun i=>by rw[List.getD_eq_getElem?_getD,List.getElem?_drop,←List.getD_eq_getElem?_getD]
 rw[gd,gd,gd,gd,List.length_drop,List.drop_drop]at law
 have hb:=s5 s a hv o (8*o+S.p) 4 (by omega) (by decide) hr
 rw[hud]at hb
 refine ik ?_
 refine aJ [(RD,.var (aZ s a hv o))] hb vV nofun ?_
 rintro h' v ar ⟨a1,hv1,hr1,hz1,rfl,rfl,rfl⟩
 by_cases h4:s.length<o+q+4
 ·rw[if_neg (by omega)]at hr1
  rw[if_neg (by omega),decide_eq_false (by omega)]
  rw[if_pos (by omega)]at law
  refine⟨cn,rfl,?_⟩
  refine iq ?_
  exact hR.le (h':=aW s o most a1 hv1 S.out) bD ⟨iJ ⟨a1,hv1,{S with p:=8*q,err:=6},rfl,by simp only;rw[show 8*o+8*q=8*(o+q)by omega,←hup];exact hr1,hol,by rw[law];rfl,fun h=>absurd h (by rw[law];decide)⟩,rfl⟩
 ·rw[if_pos (by omega)]at hr1
  rw[if_pos (by omega),decide_eq_true (by omega),arG s (o+q) (by omega)]
  rw[if_neg (by omega)]at law
  generalize s.getD (o+q) 0=c0 at *
  generalize s.getD (o+(q+1)) 0=c1 at *
  generalize s.getD (o+(q+2)) 0=c2 at *
  generalize s.getD (o+(q+3)) 0=c3 at *
  have hc0:=c0.toNat_lt
  have hc1:=c1.toNat_lt
  have hc2:=c2.toNat_lt
  have hc3:=c3.toNat_lt
  have l1:=yl c0 c1
  have l2:=yl c2 c3
  generalize hn:c0.toNat+c1.toNat*2^8=n at *
  generalize hk:c2.toNat+c3.toNat*2^8=k at *
  have hn6:n<65536:=by omega
  have hk6:k<65536:=by omega
  refine⟨cn,rfl,?_⟩
  refine iq ?_
  refine aE l1 rfl rfl ?_
  refine wW ?_
  refine aE l2 rfl rfl ?_
  have ex:bits .xor .i64 (n:Int) 65535=((65535-n:Nat):Int):=by
   show IntKind.i64.wrap ((BitVec.ofInt 64 (n:Int) ^^^ BitVec.ofInt 64 ((65535:Nat):Int)).toNat:Int)=_
   rw[BitVec.ofInt_natCast,BitVec.ofInt_natCast,BitVec.toNat_xor,BitVec.toNat_ofNat,BitVec.toNat_ofNat,Nat.mod_eq_of_lt (by omega),Nat.mod_eq_of_lt (by decide),auF hn6]
   exact jt (by omega)
  refine aw ex ?_
  by_cases hx:n+k≠65535
  ·rw[if_pos hx]at law
   have hne:¬((65535-n:Nat):Int)=(k:Int):=by omega
   refine aw hne ?_
   exact hR.le (h':=aW s o most a1 hv1 S.out) bD ⟨iJ ⟨a1,hv1,{S with p:=8*(q+4),err:=3},rfl,by simp only;rw[hup]at hr1;rw[show 8*o+8*(q+4)=8*(o+q)+8*4 by omega];exact hr1,hol,by rw[law];rfl,fun h=>absurd h (by rw[law];decide)⟩,rfl⟩
  ·rw[if_neg hx]at law
   have heq:((65535-n:Nat):Int)=(k:Int):=by omega
   obtain⟨law1,law2⟩:=law
   have hr1':bO s a1 hv1 (8*(o+q+4)):=by rw[hup]at hr1;rw[show 8*(o+q+4)=8*(o+q)+8*4 by omega];exact hr1
   have hup1:cH (8*(o+q+4))=8*(o+q+4):=by unfold cH;omega
   have hb2:=s5 s a1 hv1 o (8*(o+q+4)) n (by omega) (by omega) hr1'
   rw[hup1,Nat.mul_div_cancel_left _ (by decide)]at hb2
   refine aw heq ?_
   refine aJ [(RD,.var (aZ s a1 hv1 o))] hb2 cn nofun ?_
   rintro h' v ar ⟨a2,hv2,hr2,hz2,rfl,rfl,rfl⟩
   have key:∀(ok:Bool) (x:Bs),ok=decide (n≤s.length-(o+q+4))→x=(if n≤s.length-(o+q+4)then(s.drop (o+q+4)).take n else[]) →
    vcW Tryz.prog E Cod.xV (KQ.post [RVar.tmp 2] 1 R) ⟨[(0,.ab 65032 0),(4,.bool ok),(6,.str x),(2000000,.ab 65032 0)],[(40014,.var (aZ s a2 hv2 o)),(65032,.var [.ab 40014 0,.sl 60022 0 S.out.length,.int .i64 most]),(60022,.arr 1 (S.out.map ub))]⟩:=by
    intro ok x hok hv4
    refine da hN (fun z:Nat×Nat=>⟨[(0,.ab fk 0),(4,.bool ok),(6,.str ((s.drop (o+q+4)).take n)),(2000000,.ab fk 0)],aW s o most z.1 z.2 S.out⟩) (fun z=>bO s z.1 z.2 (8*(o+q+4+min n (s.length-(o+q+4))))) (fun R2 hR2=>?_) (fun z hz=>?_)
    ·clear hR
     subst hok
     subst hv4
     by_cases hfit:n≤s.length-(o+q+4)
     ·rw[if_pos hfit]at hr2
      rw[if_pos hfit,decide_eq_true hfit]
      refine jr ?_
      refine hR2 (a2,hv2) _ (by simp only;rw[Nat.min_eq_left hfit,show 8*(o+q+4+n)=8*(o+q+4)+8*n by omega];exact hr2) (.le ?_)
      exact bD
     ·rw[if_neg hfit]at hr2
      rw[if_neg hfit,decide_eq_false hfit]
      have hlb:=alL s a2 hv2 o _ (by omega) hr2
      have el:dj s (8*(o+q+4))/8=s.length-(o+q+4):=by unfold dj;omega
      have hb3:=s5 s a2 hv2 o _ (s.length-(o+q+4)) (by omega) (by omega) hr2
      rw[hup1,Nat.mul_div_cancel_left _ (by decide),if_pos (Nat.le_refl _)]at hb3
      generalize dj s (8*(o+q+4))=lb at *
      have elb:(lb:Int)/8=((s.length-(o+q+4):Nat):Int):=by omega
      simp only[aZ]at hlb
      refine iq ?_
      refine gG ?_
      refine mh [] vV hlb trivial (fun _=>rfl) ?_
      rintro h' v ar ⟨rfl,rfl,rfl⟩
      refine⟨rfl,rfl,?_⟩
      refine aw elb ?_
      refine aJ [(RD,.var (aZ s a2 hv2 o))] hb3 cn nofun ?_
      rintro h' v ar ⟨a3,hv3,hr3,hz3,rfl,rfl,rfl⟩
      rw[if_pos (Nat.le_refl _),decide_eq_true (Nat.le_refl _)]
      have etk:(s.drop (o+q+4)).take (s.length-(o+q+4))=(s.drop (o+q+4)).take n:=by
       rw[List.take_of_length_le (by rw[List.length_drop];omega),List.take_of_length_le (by rw[List.length_drop];omega)]
      refine⟨cn,rfl,?_⟩
      refine iq ?_
      refine hR2 (a3,hv3) _ (by simp only;rw[Nat.min_eq_right (by omega),show 8*(o+q+4+(s.length-(o+q+4)))=8*(o+q+4)+8*(s.length-(o+q+4))by omega];exact hr3) (.le ?_)
      exact Ch etk
    ·obtain⟨a3,hv3⟩:=z
     simp only at hz ⊢
     have hbl:((s.drop (o+q+4)).take n).length=min n (s.length-(o+q+4)):=by rw[List.length_take,List.length_drop]
     generalize hbb:(s.drop (o+q+4)).take n=b at *
     by_cases hbig:most-S.out.length<b.length
     ·have hbi:(most:Int)-(S.out.length:Int)<(b.length:Int):=by omega
      rw[if_pos (by omega)]at law1
      refine tL hbi ?_
      exact hR.le (h':=aW s o most a3 hv3 S.out) bD ⟨iJ ⟨a3,hv3,{S with p:=8*(q+4+min n (s.length-(o+q+4))),err:=2},rfl,by simp only;rw[show 8*o+8*(q+4+min n (s.length-(o+q+4)))=8*(o+q+4+min n (s.length-(o+q+4)))by omega];exact hz,hol,by rw[law1];rfl,fun h=>absurd h (by rw[law1];decide)⟩,rfl⟩
     ·have hbi:¬(most:Int)-(S.out.length:Int)<(b.length:Int):=by omega
      rw[if_neg (by omega)]at law1
      by_cases hfit:n≤s.length-(o+q+4)
      ·rw[decide_eq_true hfit]at hok
       subst hok
       rw[if_neg (by omega)]at law1
       have law2:=law2 law1
       refine tL hbi ?_
       exact hR.le (h':=aW s o most a3 hv3 (S.out++b)) bD ⟨iJ ⟨a3,hv3,F,by rw[law2],by rw[law2];simp only;rw[Nat.min_eq_left hfit]at hz;rw[show 8*o+8*(q+4+n)=8*(o+q+4+n)by omega];exact hz,by rw[law2];simp only[List.length_append];omega,by rw[law1];rfl,fun _=>rfl⟩,rfl⟩
      ·rw[decide_eq_false hfit]at hok
       subst hok
       rw[if_pos (by omega)]at law1
       refine tL hbi ?_
       exact hR.le (h':=aW s o most a3 hv3 (S.out++b)) bD ⟨iJ ⟨a3,hv3,⟨8*(q+4+min n (s.length-(o+q+4))),S.out++b,6⟩,rfl,by simp only;rw[show 8*o+8*(q+4+min n (s.length-(o+q+4)))=8*(o+q+4+min n (s.length-(o+q+4)))by omega];exact hz,by simp only[List.length_append];omega,by rw[law1];rfl,fun h=>absurd h (by rw[law1];decide)⟩,rfl⟩
   by_cases hfit:n≤s.length-(o+q+4)
   ·have key:=key true _ (by rw[decide_eq_true hfit]) rfl
    rw[if_pos hfit]at key
    rw[if_pos hfit,decide_eq_true hfit]
    refine⟨cn,rfl,?_⟩
    simp only[aZ]at key
    refine iq ?_
    exact key
   ·have key:=key false _ (by rw[decide_eq_false hfit]) rfl
    rw[if_neg hfit]at key
    rw[if_neg hfit,decide_eq_false hfit]
    refine⟨cn,rfl,?_⟩
    simp only[aZ]at key
    refine iq ?_
    exact key
end Go.Proofs.YtlkmppkcbhodaaaGreatDoor.Pk
