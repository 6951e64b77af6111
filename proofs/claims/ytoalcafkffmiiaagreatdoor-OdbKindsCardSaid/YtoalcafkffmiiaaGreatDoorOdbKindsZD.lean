/- The proof, part 30 of 42. -/
import Derived.Test.YtoalcafkffmiiaaGreatDoorOdbKindsZB
import Derived.Test.YtoalcafkffmiiaaGreatDoorOdbKindsZC
import Derived.Test.YtoalcafkffmiiaaGreatDoorProg
import Derived.KernelRfl
set_option linter.all false
namespace Go.Proofs.YtoalcafkffmiiaaGreatDoor.Pk
open Eng
set_option maxRecDepth 10000
def RD:Nat:=40014
attribute [go_sem] RD
def aP (s:Bs) (a hv fr:Nat):List AV:=[.str s,.int .i64 a,.int .u64 (numAt s (8*a-hv) hv:Nat),.int .i64 hv,.int .i64 fr]
theorem bV {p:Prop} (h:p:=by simp(disch:=first | omega | (simp only[Lx];omega))only[go_sem,simprocAttr,aP]):p:=h
theorem ic {a b:Prop} (k:b) (h:b→a:=by intro h;simp(disch:=first | omega | (simp only[Lx];omega))only[go_sem,simprocAttr,aP];exact h):a:=h k
theorem aox {E0:Prop} {a b:Prop} (e0:E0) (k:b) (h:E0→b→a:=by intro e0 h;simp(disch:=first | omega | (simp only[Lx];omega))only[go_sem,simprocAttr,aP,e0];exact h):a:=h e0 k
theorem vf {E0 E1:Prop} {a b:Prop} (e0:E0) (e1:E1) (k:b) (h:E0→E1→b→a:=by intro e0 e1 h;simp(disch:=first | omega | (simp only[Lx];omega))only[go_sem,simprocAttr,aP,e0,e1];exact h):a:=h e0 e1 k
theorem aoy {E0 E1 E2:Prop} {a b:Prop} (e0:E0) (e1:E1) (e2:E2) (k:b) (h:E0→E1→E2→b→a:=by intro e0 e1 e2 h;simp(disch:=first | omega | (simp only[Lx];omega))only[go_sem,simprocAttr,aP,e0,e1,e2];exact h):a:=h e0 e1 e2 k
structure bA (s:Bs) (a hv p:Nat):Prop where
 h1:hv≤39
 h2:a≤s.length
 h3:p+hv=8*a
theorem ua {x k b:Nat} (hx:x<2^k) (hk:k≤56) (hb:b<256):bits .or .u64 (x:Int) (IntKind.u64.wrap ((b:Int)*2^min k 64))=((x+b*2^k:Nat):Int):=by
 have hp:2^k≤2^56:=Nat.pow_le_pow_right (by decide) hk
 have h2:b*2^k<2^64:=Nat.lt_of_le_of_lt (Nat.mul_le_mul (show b≤255 by omega) hp) (by decide)
 have h3:x+b*2^k<2^64:=by
  have:(b+1)*2^k≤256*2^56:=Nat.mul_le_mul (by omega) hp
  rw[Nat.add_mul]at this
  omega
 have e:IntKind.u64.wrap ((b:Int)*2^min k 64)=((b*2^k:Nat):Int):=by
  rw[Nat.min_eq_left (by omega),show((b:Int)*2^k)=((b*2^k:Nat):Int)by push_cast;rfl]
  exact wrap_u64 (by omega)
 rw[e]
 show IntKind.u64.wrap ((BitVec.ofInt 64 (x:Int) ||| BitVec.ofInt 64 ((b*2^k:Nat):Int)).toNat:Int)=_
 rw[BitVec.ofInt_natCast,BitVec.ofInt_natCast,BitVec.toNat_or,BitVec.toNat_ofNat,BitVec.toNat_ofNat,Nat.mod_eq_of_lt (by omega),Nat.mod_eq_of_lt h2,Nat.or_comm,←Nat.shiftLeft_eq,←Nat.shiftLeft_add_eq_or_of_lt hx,Nat.shiftLeft_eq,Nat.add_comm]
 exact wrap_u64 (by omega)
theorem yc (s:Bs) (a hv fr p n:Nat) (hs:s.length≤1000000000000) (h:bA s a hv p) (hn:n≤32):Eng.Spec Tryz.prog 260 [(RD,.var (aP s a hv fr))] [.ab RD 0,.int .i64 n]
    (fun h' v ar=>∃a' hv',bA s a' hv' p∧(n≤hv'∨a'=s.length)∧h'=[(RD,.var (aP s a' hv' fr))]∧v=.ai []∧ar=[.ab RD 0,.int .i64 n]):=by
 refine Cod.NR (fun E R hN hR=>?_)
 refine wW ?_
 refine bm hN (fun q:Nat×Nat=>⟨[(0,.ab RD 0),(1,.int .i64 n),(2000000,.ab RD 0),(2000001,.int .i64 n)],[(RD,.var (aP s q.1 q.2 fr))]⟩) (fun q=>bA s q.1 q.2 p) (fun q=>s.length-q.1) (a,hv) (.le bV) h ?_
 rintro⟨a,hv⟩ R1 ⟨h1,h2,h3⟩ hR1
 simp only at h1 h2 h3
 by_cases hlt:hv<n
 ·by_cases hat:a<s.length
  ·have hb:=(s.getD a 0).toNat_lt
   have ho:=ua (fQ s (8*a-hv) hv) (show hv≤56 by omega) (b:=(s.getD a 0).toNat) (by omega)
   have hf:=abJ s a hv (by omega)
   rw[←hf]at ho
   refine ic ?_
   refine gG ?_
   rw[ho]
   exact hR1 (a+1,hv+8) _ (by simp only;omega) ⟨by simp only;omega,by simp only;omega,by simp only;omega⟩ (.le (by simp(disch:=omega)only[go_sem,simprocAttr,aP,show 8*(a+1)-(hv+8)=8*a-hv by omega]))
  ·refine ic ?_
   refine gG ?_
   exact hR.le bV ⟨a,hv,⟨h1,h2,h3⟩,.inr (by omega),rfl,rfl,rfl⟩
 ·refine ic ?_
  refine gG ?_
  exact hR.le bV ⟨a,hv,⟨h1,h2,h3⟩,.inl (by omega),rfl,rfl,rfl⟩
theorem Es (x n:Nat) (hx:x<2^64) (hn:n≤32):bits .and .u64 (x:Int) (IntKind.u64.wrap (IntKind.u64.wrap (1*2^min n 64)-1))=((x%2^n:Nat):Int):=by
 have hp:2^n≤2^32:=Nat.pow_le_pow_right (by decide) hn
 have hp1:0<2^n:=Nat.pow_pos (by decide)
 have e:IntKind.u64.wrap (IntKind.u64.wrap (1*2^min n 64)-1)=((2^n-1:Nat):Int):=by
  have e1:IntKind.u64.wrap (1*2^n)=((2^n:Nat):Int):=by
   rw[show((1:Int)*2^n)=((2^n:Nat):Int)by rw[Int.one_mul];push_cast;rfl]
   exact wrap_u64 (by omega)
  rw[Nat.min_eq_left (by omega),e1,show(((2^n:Nat):Int)-1)=((2^n-1:Nat):Int)by omega]
  exact wrap_u64 (by omega)
 rw[e]
 show IntKind.u64.wrap ((BitVec.ofInt 64 (x:Int) &&& BitVec.ofInt 64 ((2^n-1:Nat):Int)).toNat:Int)=_
 rw[BitVec.ofInt_natCast,BitVec.ofInt_natCast,BitVec.toNat_and,BitVec.toNat_ofNat,BitVec.toNat_ofNat,Nat.mod_eq_of_lt hx,Nat.mod_eq_of_lt (by omega),Nat.and_two_pow_sub_one_eq_mod]
 have:=Nat.mod_lt x hp1
 exact wrap_u64 (by omega)
def cM (s:Bs) (p:Nat):Nat:=8*s.length-p
theorem agw (s:Bs) (a hv fr p n:Nat) (hs:s.length≤1000000000000) (h:bA s a hv p) (hn:n≤32):Eng.Spec Tryz.prog 241 [(RD,.var (aP s a hv fr))] [.ab RD 0,.int .i64 n]
    (fun h' v ar=>∃a' hv',bA s a' hv' p∧(n≤hv'∨a'=s.length)∧h'=[(RD,.var (aP s a' hv' fr))]∧v=.ai [.int .u32 (numAt s p (min n hv'):Nat),.int .i64 (min n hv':Nat)]∧ar=[.ab RD 0,.int .i64 n]):=by
 refine Cod.agx (fun E R hN hR=>?_)
 refine wW ?_
 refine gG ?_
 refine bf [(RD,.var (aP s a hv fr))] (yc s a hv fr p n hs h hn) vV nofun ?_
 rintro h' v ar ⟨a',hv',⟨h1,h2,h3⟩,hor,rfl,rfl,rfl⟩
 refine⟨bV,rfl,?_⟩
 have hx:=fQ s p hv'
 have hx2:numAt s p hv'<2^64:=Nat.lt_of_lt_of_le hx (Nat.pow_le_pow_right (by decide) (by omega))
 have ha:=Es (numAt s p hv') n hx2 hn
 have e1:numAt s p hv'%2^n=numAt s p (min n hv'):=by
  by_cases hh:n≤hv'
  ·rw[Nat.min_eq_left hh,qu s p hh]
  ·rw[Nat.min_eq_right (by omega),Nat.mod_eq_of_lt (Nat.lt_of_lt_of_le hx (Nat.pow_le_pow_right (by decide) (by omega)))]
 rw[e1]at ha
 have hx3:numAt s p (min n hv')<2^32:=Nat.lt_of_lt_of_le (fQ s p _) (Nat.pow_le_pow_right (by decide) (by omega))
 have ew:IntKind.u32.wrap ((numAt s p (min n hv'):Nat):Int)=(numAt s p (min n hv'):Nat):=wrap_u32 (by omega)
 have em:min (n:Int) (hv':Int)=((min n hv':Nat):Int):=by omega
 simp(disch:=omega)only[go_sem,simprocAttr,aP,show 8*a'-hv'=p by omega,ha,ew,em]
 exact hR.le (by simp(disch:=omega)only[go_sem,simprocAttr,aP,show 8*a'-hv'=p by omega]) ⟨a',hv',⟨h1,h2,h3⟩,hor,rfl,rfl,rfl⟩
theorem akG (s:Bs) (a hv fr p n:Nat) (hs:s.length≤1000000000000) (h:bA s a hv p) (hn:n≤32):Eng.Spec Tryz.prog 242 [(RD,.var (aP s a hv fr))] [.ab RD 0,.int .i64 n]
    (fun h' v ar=>∃a' hv',bA s a' hv' (if n≤cM s p then p+n else p)∧h'=[(RD,.var (aP s a' hv' fr))]∧v=.bool (decide (n≤cM s p))∧ar=[.ab RD 0,.int .i64 n]):=by
 refine Cod.akH (fun E R hN hR=>?_)
 refine wW ?_
 refine gG ?_
 refine bf [(RD,.var (aP s a hv fr))] (yc s a hv fr p n hs h hn) vV nofun ?_
 rintro h' v ar ⟨a',hv',⟨h1,h2,h3⟩,hor,rfl,rfl,rfl⟩
 refine⟨bV,rfl,?_⟩
 by_cases hlt:hv'<n
 ·have hno:¬n≤cM s p:=by unfold cM;rcases hor with ho | ho<;>omega
  refine ic ?_
  exact hR.le bV ⟨a',hv',by rw[if_neg hno];exact⟨h1,h2,h3⟩,rfl,by rw[decide_eq_false hno],rfl⟩
 ·have hyes:n≤cM s p:=by unfold cM;omega
  have hd:((numAt s p hv':Nat):Int).fdiv (2^min n 64)=((numAt s (p+n) (hv'-n):Nat):Int):=by
   rw[Nat.min_eq_left (by omega),←nD s p (show n≤hv' by omega),Int.fdiv_eq_ediv_of_nonneg _ (Int.pow_nonneg (by decide)),Int.natCast_ediv,Int.natCast_pow];rfl
  simp(disch:=omega)only[go_sem,simprocAttr,aP,show 8*a'-hv'=p by omega,hd]
  refine hR.le ?_ ⟨a',hv'-n,by rw[if_pos hyes];exact⟨by omega,h2,by omega⟩,rfl,by rw[decide_eq_true hyes],rfl⟩
  rw[show((hv':Int)-(n:Int))=((hv'-n:Nat):Int)by omega]
  simp(disch:=omega)only[go_sem,simprocAttr,aP,show 8*a'-(hv'-n)=p+n by omega]
theorem qH (s:Bs) (a hv fr p n:Nat) (hs:s.length≤1000000000000) (h:bA s a hv p) (hn:n≤32):Eng.Spec Tryz.prog 230 [(RD,.var (aP s a hv fr))] [.ab RD 0,.int .i64 n]
    (fun h' v ar=>∃a' hv',bA s a' hv' (if n≤cM s p then p+n else p)∧h'=[(RD,.var (aP s a' hv' fr))]∧v=.ai [.int .u32 (if n≤cM s p then numAt s p n else 0:Nat),.bool (decide (n≤cM s p))]∧ar=[.ab RD 0,.int .i64 n]):=by
 refine Cod.ah5 (fun E R hN hR=>?_)
 refine wW ?_
 refine bf [(RD,.var (aP s a hv fr))] (agw s a hv fr p n hs h hn) vV nofun ?_
 rintro h' v ar ⟨a',hv',h1,hor,rfl,rfl,rfl⟩
 refine⟨bV,rfl,?_⟩
 refine wW ?_
 refine bf [(RD,.var (aP s a' hv' fr))] (akG s a' hv' fr p n hs h1 hn) vV nofun ?_
 rintro h' v ar ⟨a2,hv2,h2,rfl,rfl,rfl⟩
 refine⟨bV,rfl,?_⟩
 by_cases hyes:n≤cM s p
 ·have hm:min n hv'=n:=by
   have:=h1.h3;have:=h1.h2
   unfold cM at hyes
   rcases hor with ho | ho<;>omega
  refine bc hyes hm ?_
  exact hR.le vV ⟨a2,hv2,h2,rfl,by rw[if_pos hyes,decide_eq_true hyes],rfl⟩
 ·refine aw hyes ?_
  exact hR.le vV ⟨a2,hv2,h2,rfl,by rw[if_neg hyes,decide_eq_false hyes];rfl,rfl⟩
def dq (p:Nat):Nat:=(p+7)/8*8
theorem CW {a hv p:Nat} (h:p+hv=8*a):dq p=8*(a-hv/8):=by unfold dq;omega
theorem ahW (s:Bs) (a hv fr p:Nat) (hs:s.length≤1000000000000) (h:bA s a hv p):Eng.Spec Tryz.prog 261 [(RD,.var (aP s a hv fr))] [.ab RD 0]
    (fun h' v ar=>∃hv',bA s a hv' (dq p)∧hv'=8*(hv/8)∧h'=[(RD,.var (aP s a hv' fr))]∧v=.ai []∧ar=[.ab RD 0]):=by
 refine Cod.ahX (fun E R hN hR=>?_)
 obtain⟨h1,h2,h3⟩:=h
 have hp:8*a-hv=p:=by omega
 have em:(hv:Int).tmod 8=((hv%8:Nat):Int):=by rw[mz (by omega)];omega
 have hd:((numAt s p hv:Nat):Int).fdiv (2^min (hv%8) 64)=((numAt s (p+hv%8) (hv-hv%8):Nat):Int):=by
  rw[Nat.min_eq_left (by omega),←nD s p (show hv%8≤hv by omega),Int.fdiv_eq_ediv_of_nonneg _ (Int.pow_nonneg (by decide)),Int.natCast_ediv,Int.natCast_pow];rfl
 refine aoy em hp hd ?_
 refine hR.le ?_ ⟨8*(hv/8),⟨by omega,h2,by unfold dq;omega⟩,rfl,rfl,rfl,rfl⟩
 rw[show((hv:Int)-((hv%8:Nat):Int))=((8*(hv/8):Nat):Int)by omega,show hv-hv%8=8*(hv/8)by omega]
 simp(disch:=omega)only[go_sem,simprocAttr,aP,show 8*a-8*(hv/8)=p+hv%8 by omega]
theorem um (s:Bs) (a hv fr p:Nat) (n:Nat) (hs:s.length≤1000000000000) (hn:n≤1000000000000) (h:bA s a hv p):Eng.Spec Tryz.prog 243 [(RD,.var (aP s a hv fr))] [.ab RD 0,.int .i64 n]
    (fun h' v ar=>∃a' hv',bA s a' hv' (if n≤s.length-dq p/8 then dq p+8*n else dq p)∧(n≤s.length-dq p/8→hv'=0)∧h'=[(RD,.var (aP s a' hv' fr))] ∧
     v=.ai [.str (if n≤s.length-dq p/8 then(s.drop (dq p/8)).take n else[]),.bool (decide (n≤s.length-dq p/8))]∧ar=[.ab RD 0,.int .i64 n]):=by
 refine Cod.aif (fun E R hN hR=>?_)
 refine wW ?_
 refine bf [(RD,.var (aP s a hv fr))] (ahW s a hv fr p hs h) vV nofun ?_
 rintro h' v ar ⟨hv',⟨h1,h2,h3⟩,rfl,rfl,rfl,rfl⟩
 refine⟨bV,rfl,?_⟩
 have hub:dq p/8=a-hv/8:=by rw[CW h.h3];omega
 have hle:=h.h3
 have eq:(((8*(hv/8):Nat):Int)).tdiv 8=((hv/8:Nat):Int):=by rw[uW (by omega)];omega
 have ef:((a:Int)-((hv/8:Nat):Int))=((a-hv/8:Nat):Int):=by omega
 rw[hub]at hR
 generalize hf:a-hv/8=f at *
 have hfl:f≤s.length:=by omega
 by_cases hyes:n≤s.length-f
 ·have e1:((f:Int)+(n:Int)-(f:Int)).toNat=n:=by omega
  have e2:f+n-f=n:=by omega
  refine vf eq ef ?_
  refine gG ?_
  refine aw e2 ?_
  exact hR.le (by simp(disch:=omega)only[go_sem,simprocAttr,aP,numAt]) ⟨f+n,0,by rw[if_pos hyes];exact⟨by omega,by omega,by rw[CW h.h3,hf];omega⟩,fun _=>rfl,rfl,by rw[if_pos hyes,decide_eq_true hyes],rfl⟩
 ·refine vf eq ef ?_
  refine gG ?_
  exact hR.le bV ⟨a,8*(hv/8),by rw[if_neg hyes];exact⟨h1,h2,h3⟩,fun hh=>absurd hh hyes,rfl,by rw[if_neg hyes,decide_eq_false hyes],rfl⟩
open Eng
set_option maxRecDepth 10000
def aR (xs:List Nat):List AV:=xs.map fun n:Nat=>AV.int .i64 n
theorem dH (xs:List Nat):(aR xs).length=xs.length:=by simp[aR]
theorem jW {xs:List Nat} {i:Nat} (h:i<xs.length):nth (aR xs) i=.int .i64 (xs.getD i 0:Nat):=by
 simp[nth,aR,List.getD_eq_getElem?_getD,h]
theorem jl {xs:List Nat}:(aR xs).all aQ=true:=by simp[aR,aQ,cellsOf,isCell]
theorem kX {xs:List Nat} {n:Nat}:aR xs++[.int .i64 (n:Int)]=aR (xs++[n]):=by simp[aR]
theorem nB {xs:List Nat} {o n:Nat}:aG (aR xs) o n=aR ((xs.drop o).take n):=by simp[aR,aG]
theorem nA:aR []=[]:=(rfl)
def cK (l:List Nat):List AV:=(List.range 16).map fun n=>AV.int .i64 (bI l n:Nat)
theorem jK (l:List Nat):(cK l).length=16:=by simp[cK]
theorem lI (l:List Nat) {n:Nat} (h:n<16):(cK l).getD n .undef=.int .i64 (bI l n:Nat):=by
 unfold cK
 rw[List.getD_eq_getElem?_getD,List.getElem?_map,List.getElem?_range h];rfl
theorem I6 (l:List Nat) {x:Nat} (h:x<16):(cK l).set x (.int .i64 ((bI l x:Int)+1))=cK (l++[x]):=by
 apply List.ext_getElem?
 intro j
 rw[List.getElem?_set,jK]
 unfold cK
 rw[List.getElem?_map,List.getElem?_map]
 by_cases hx:x=j
 ·subst hx
  rw[if_pos rfl,if_pos h,List.getElem?_range h]
  simp only[Option.map_some,o7,if_true]
  rfl
 ·rw[if_neg hx]
  by_cases hj:j<16
  ·rw[List.getElem?_range hj]
   simp only[Option.map_some,o7,if_neg hx,Nat.add_zero]
  ·rw[List.getElem?_eq_none (by simp;omega)];rfl
theorem wO {id:Nat} {l:List Nat}:(cK l).map (killC id)=cK l:=by simp[cK,killC]
theorem I4 {id sz:Nat} {es:List AV} {l:List Nat}:(cK l).map (bQ id sz es)=cK l:=by simp[cK,bQ]
theorem I5 {l:List Nat}:(cK l).all noRefC=true:=by simp[cK,noRefC]
theorem sf (l:List Nat) (n:Nat):bI l n≤l.length:=List.countP_le_length
theorem uj (l:List Nat):∀n,bE l n≤l.length*n
 | 0=>by simp[bE]
 | 1=>by simp[bE]
 | n+2=>by
  have:=uj l (n+1)
  have:=sf l (n+1)
  simp only[bE]
  rw[show n+2=(n+1)+1 by omega,Nat.mul_succ l.length (n+1)]
  omega
def jz (l:List Nat) (n k:Nat):List Nat:=(List.range k).filter fun s=>l.getD s 0==n
theorem amP (l:List Nat) (n k:Nat):(jz l n k).length≤k:=by
 have:=List.length_filter_le (fun s=>l.getD s 0==n) (List.range k)
 simpa[jz]using this
theorem amQ (l:List Nat) (n k:Nat):jz l n (k+1)=jz l n k++if l.getD k 0=n then[k]else[]:=by
 unfold jz
 rw[List.range_succ,List.filter_append]
 congr 1
 by_cases h:l.getD k 0=n<;>simp[-List.getD_eq_getElem?_getD,h]
theorem amO (l:List Nat) (n:Nat):jz l n l.length=rf l n:=(rfl)
theorem tR {a b:AV} {xs:List AV} {i:Nat} (h:i<xs.length):((a::(xs++[b])).drop (1+i)).getD 0 .undef=xs.getD i .undef:=by
 rw[Nat.add_comm,List.drop_succ_cons,List.getD_eq_getElem?_getD,List.getElem?_drop,Nat.add_zero,List.getElem?_append_left h,List.getD_eq_getElem?_getD]
theorem Ac {a b:AV} {xs:List AV} {i:Nat} (h:i<xs.length):0<((a::(xs++[b])).drop (1+i)).length:=by simp;omega
theorem aaT {a b v:AV} {xs:List AV} {i:Nat} (h:i<xs.length):bU (a::(xs++[b])) (1+i) [v]=a::(xs.set i v++[b]):=by
 unfold bU
 rw[Nat.add_comm 1 i,List.take_succ_cons,show i+1+[v].length=(i+1)+1 by simp,List.drop_succ_cons,List.take_append_of_le_length (by omega),List.drop_append_of_le_length (by omega),List.set_eq_take_append_cons_drop,if_pos h]
 simp
theorem M5 {a b v:AV} {xs:List AV} (h:xs.length=16):bU (a::(xs++[b])) 17 [v]=a::(xs++[v]):=by
 unfold bU
 rw[List.take_succ_cons,show 17+[v].length=17+1 by rfl,List.drop_succ_cons,List.take_left' h,List.drop_append]
 simp[h]
theorem M6 {a b v:AV} {xs:List AV} (h:xs.length=16):(a::(xs++[b])).set 17 v=a::(xs++[v]):=by
 rw[List.set_cons_succ,List.set_append_right _ _ (by omega),h];rfl
theorem M4 {a b:AV} {xs:List AV} (h:xs.length=16):(a::(xs++[b]))[17]?=some b:=by
 rw[List.getElem?_cons_succ,List.getElem?_append_right (by omega),h];rfl
theorem xS {a b:AV} {xs:List AV} (h:xs.length=16):(a::(xs++[b])).drop 17=[b]:=by
 rw[List.drop_succ_cons,List.drop_left' h]
def fU (l:List Nat):List AV:=.ro 1 (aR l)::(cK l++[.ro 1 (aR (sortL l 15))])
def ba (l:List Nat):AV:=.aA (.agg (fU l))
def fF (l:List Nat) (m:Nat):Int:=if m=0 then 1 else(2^m:Nat)-((fstL l m+bI l m:Nat):Int)
theorem aiV (l:List Nat) (m:Nat):fF l (m+1)=2*fF l m-(bI l (m+1):Int):=by
 unfold fF
 cases m with
 | zero=>simp[fstL]
 | succ m=>
  rw[if_neg (by omega),if_neg (by omega)]
  simp only[fstL]
  rw[Nat.pow_succ 2 (m+1)]
  omega
theorem room_le (l:List Nat) {m:Nat} (h:m≤15):fF l m≤32768:=by
 unfold fF
 have:(2:Nat)^m≤2^15:=Nat.pow_le_pow_right (by decide) h
 split<;>omega
theorem aiU (l:List Nat) {m:Nat} (h1:1≤m) (h2:m≤15) (h:fF l m<0):32768<dL l:=by
 refine Nat.lt_of_not_le fun hc=>?_
 have:=tD hc h1 h2
 unfold fF at h
 rw[if_neg (by omega)]at h
 omega
theorem room_end (l:List Nat):fF l 15=32768-(dL l:Int):=by
 unfold fF dL
 rw[if_neg (by omega)]
 rfl
theorem p0 (l:List Nat) (hl:∀n∈l,n≤15) (hn:l.length≤320):Eng.Spec Tryz.prog 246 [] [.ro 1 (aR l)] (fun h r _=>h=[]∧r=if bK l then .ai [ba l,.int .i64 0]else .ai [.lit (.pointer none),.int .i64 4]):=by
 refine Cod.QZ (fun E R hN hR=>?_)
 have hnl:=dH l
 refine bc @dH @jl ?_
 refine gG ?_
 refine bm hN (fun k:Nat=>⟨[(0,.ro 1 (aR l)),(4,.ab 49018 0),(19,.ro 1 (aR l)),(20,.int .i64 l.length),(21,.int .i64 k)],[(49018,.var (.sl 49016 0 l.length::(cK (l.take k)++[.aq]))),(49016,.arr 1 (aR l))]⟩) (fun k=>k≤l.length) (fun k=>l.length-k) 0 (.le (by simp(disch:=first | omega | (simp only[Lx];omega))only[go_sem,simprocAttr,dH];rfl)) (by omega) ?_
 rintro k R1 hk hR1
 have hcl:=jK (l.take k)
 by_cases hlt:k<l.length
 ·have hx:=tK hl k
  have htk:=eT l 0 hlt
  have hcs:=I6 (l.take k) (x:=l.getD k 0) (by omega)
  have hcb:=sf (l.take k) (l.getD k 0)
  rw[List.length_take]at hcb
  rw[←htk]at hcs
  generalize hc:l.getD k 0=x at *
  simp(disch:=first | omega | (simp only[Lx];omega))only[go_sem,simprocAttr,dH,jW,hc,tR,Ac,lI,aaT,Nat.mul_one]
  refine gG ?_
  rw[hcs]
  exact hR1 (k+1) _ (by omega) (by omega) (.le vV)
 ·obtain rfl:k=l.length:=by omega
  refine aw @dH ?_
  have hcl:=jK l
  refine bm hN (fun m:Nat=>⟨[(0,.ro 1 (aR l)),(4,.ab 49018 0),(7,.int .i64 (fF l m)),(8,.int .i64 (bE l (m+1):Nat)),(9,.int .i64 ((m:Int)+1))],
   [(49018,.var (.sl 49016 0 l.length::(cK l++[.sl 49082 0 (sortL l m).length]))),(49016,.arr 1 (aR l)),(49082,.arr 1 (aR (sortL l m)))]⟩) (fun m=>m≤15∧0≤fF l m) (fun m=>15-m) 0
   (.kY 49018 17 49082 1 (.sl 49016 0 l.length::(cK l++[.aq])) rfl (M4 hcl) rfl (.le (by simp(disch:=first | omega | (simp only[Lx];omega))only[go_sem,simprocAttr,List.map_append,wO,M6,sortL,nA,fF,bE]))) ⟨by omega,by show(0:Int)≤1;decide⟩ ?_
  rintro m R2 ⟨hm,hr⟩ hR2
  by_cases hlt:m<15
  ·have hst:=aiV l m
   have hrl:=room_le l hm
   have hcb:=sf l (m+1)
   have hpb:=uj l (m+1)
   have hpb2:l.length*(m+1)≤320*16:=Nat.mul_le_mul hn (by omega)
   have hsl:=lh l m
   refine jD @dH @tR @Ac @lI @Nat.mul_one ?_
   rw[←hst]
   refine tj (fun hneg=>?_) (fun hneg=>?_)
   ·have hbad:=aiU l (by omega) (by omega) hneg
    have hck:bK l=false:=by unfold bK;rw[decide_eq_false (by omega)];rfl
    refine aw hck ?_
    exact hR.ro ⟨rfl,by rw[hck];rfl⟩
   ·refine aw @dH ?_
    refine bm hN (fun k:Nat=>⟨[(0,.ro 1 (aR l)),(4,.ab 49018 0),(7,.int .i64 (fF l (m+1))),(8,.int .i64 (bE l (m+2):Nat)),(9,.int .i64 ((m:Int)+1)),(65,.ro 1 (aR l)),(66,.int .i64 l.length),(67,.int .i64 k)],
     [(49018,.var (.sl 49016 0 l.length::(cK l++[.sl 49082 0 (sortL l m++jz l (m+1) k).length]))),(49016,.arr 1 (aR l)),(49082,.arr 1 (aR (sortL l m++jz l (m+1) k)))]⟩) (fun k=>k≤l.length) (fun k=>l.length-k) 0
     (.le (by simp(disch:=first | omega | (simp only[Lx];omega))only[go_sem,simprocAttr,jz,List.range_zero,List.filter_nil,List.append_nil,bE])) (by omega) ?_
    rintro k R3 hk hR3
    by_cases hlt3:k<l.length
    ·have htl:=amP l (m+1) k
     have hsu:=amQ l (m+1) k
     by_cases hx:l.getD k 0=m+1
     ·rw[if_pos hx]at hsu
      simp(disch:=first | omega | (simp only[Lx];omega))only[go_sem,simprocAttr,dH,jW,hx,xS,jl,nB,List.map_append,wO,M5]
      refine hR3 (k+1) _ (by omega) (by omega) (.le ?_)
      rw[hsu,←List.append_assoc,←kX]
      exact fL @dH
     ·rw[if_neg hx,List.append_nil]at hsu
      refine jD @dH @jW @xS @jl @nB ?_
      exact hR3 (k+1) _ (by omega) (by omega) (.le (by rw[hsu];exact vV))
    ·obtain rfl:k=l.length:=by omega
     refine aw @dH ?_
     refine hR2 (m+1) _ (by omega) ⟨by omega,by omega⟩ (.le ?_)
     rw[amO]
     simp(disch:=first | omega | (simp only[Lx];omega))only[go_sem,simprocAttr,sortL]
  ·obtain rfl:m=15:=by omega
   have hre:=room_end l
   have hpn:=uk l hl
   have hsl:=lh l 15
   have yes:bK l=true→R [(49018,.var (.sl 49016 0 l.length::(cK l++[.sl 49082 0 (sortL l 15).length]))),(49016,.arr 1 (aR l)),(49082,.arr 1 (aR (sortL l 15)))] (.ai [.ab 49018 0,.int .i64 0]) [.undef]:=by
    intro hck
    rw[hck]at hR
    refine hR.wk (h':=[]) (r':=.ai [ba l,.int .i64 0]) (ar':=[.undef]) rfl (.bG 49016 (.bG 49082 (.lZ 0 0 49018 [.ab 49018 0,.int .i64 0] (fU l) vV (by rfl) ?_ ?_ (.le ?_)))) ⟨rfl,by rfl⟩
    ·simp(disch:=first | omega | (simp only[Lx];omega))only[go_sem,simprocAttr,List.map_append,I4,nB,dH,CA,fU]
    ·simp[fU,noRefC,I5]
    ·simp(disch:=first | omega | (simp only[Lx];omega))only[go_sem,simprocAttr,ba]
   have no:bK l=false→∀h,R h (.ai [.lit (.pointer none),.int .i64 4]) [.undef]:=by
    intro hck h
    rw[hck]at hR
    exact hR.ro ⟨rfl,rfl⟩
   have hp16:bE l (15+1)=dp l:=hpn
   have hone:∀x,((cK l++[x]).drop 1).getD 0 .undef=.int .i64 (bI l 1:Nat):=fun x=>by
    have:=tR (a:=.undef) (b:=x) (xs:=cK l) (i:=1) (by omega)
    rw[lI l (by omega)]at this
    exact this
   have honl:∀x,0<((cK l++[x]).drop 1).length:=fun x=>by simp;omega
   by_cases ha:0<fF l 15
   ·by_cases hb:dp l=0
    ·have hck:bK l=true:=by unfold bK;rw[decide_eq_true (show dL l≤32768 by omega),decide_eq_true hb];simp
     refine bc hp16 hb ?_
     refine gG ?_
     exact yes hck
    ·by_cases hc:dp l=1
     ·by_cases hd:bI l 1=1
      ·have hck:bK l=true:=by unfold bK;rw[decide_eq_true (show dL l≤32768 by omega),decide_eq_true hc,decide_eq_true hd];simp
       refine jD hp16 hc hone honl hd ?_
       refine jN hone honl hd ?_
       exact yes hck
      ·have hck:bK l=false:=by unfold bK;rw[decide_eq_false (show ¬dL l=32768 by omega),decide_eq_false hb,decide_eq_false hd];simp
       refine dW hp16 hc hone honl ?_
       refine ft hone honl ?_
       exact no hck _
     ·have hck:bK l=false:=by unfold bK;rw[decide_eq_false (show ¬dL l=32768 by omega),decide_eq_false hb,decide_eq_false hc];simp
      refine aw hp16 ?_
      refine gG ?_
      exact no hck _
   ·have hck:bK l=true:=by unfold bK;rw[decide_eq_true (show dL l≤32768 by omega),decide_eq_true (show dL l=32768 by omega)];simp
    refine aw hp16 ?_
    refine gG ?_
    exact yes hck
theorem aii {l:List Nat} (h:dp l=0) (b:List Bool):readL (bF l) b=(0,0,3):=by
 have h0:∀s,s<l.length→l.getD s 0=0:=by
  intro s hs
  refine Nat.eq_zero_of_not_pos fun hp=>?_
  unfold dp at h
  have:=List.countP_eq_zero.1 h (l.getD s 0) (by rw[List.getD_eq_getElem?_getD,List.getElem?_eq_getElem hs];exact List.getElem_mem hs)
  simp[-List.getD_eq_getElem?_getD]at this
  omega
 unfold readL
 rw[sP (fun s hs=>td (h0 s hs))]
 simp only
 rw[if_pos]
 rw[List.all_eq_true]
 intro c hc
 obtain⟨s,hs,rfl⟩:=List.mem_map.1 hc
 unfold cE
 rw[if_pos (h0 s (List.mem_range.1 hs))];rfl
theorem or_bit {c b:Nat} (hc:c<32768) (hb:b≤1):bits .or .i64 (IntKind.i64.wrap ((c:Int)*2^min 1 64)) (b:Int)=((2*c+b:Nat):Int):=by
 rw[show((c:Int)*2^min 1 64)=((c*2:Nat):Int)by push_cast;rfl,eU (by omega)]
 show IntKind.i64.wrap ((BitVec.ofInt 64 ((c*2:Nat):Int) ||| BitVec.ofInt 64 (b:Int)).toNat:Int)=_
 rw[BitVec.ofInt_natCast,BitVec.ofInt_natCast,BitVec.toNat_or,BitVec.toNat_ofNat,BitVec.toNat_ofNat,Nat.mod_eq_of_lt (by omega),Nat.mod_eq_of_lt (by omega)]
 have h1:c*2 ||| b=2*c+b:=by
  have:=Nat.shiftLeft_add_eq_or_of_lt (b:=b) (i:=1) (by omega) c
  rw[Nat.shiftLeft_eq]at this
  rw[show c*2=c*2^1 by rfl,←this]
  omega
 rw[h1]
 exact eU (by omega)
theorem uV (l:List Nat):((fU l).drop 1).take 16=cK l:=by
 unfold fU
 rw[List.drop_succ_cons,List.drop_zero,List.take_left' (jK l)]
theorem amW (l:List Nat):(fU l).getD 17 .undef=.ro 1 (aR (sortL l 15)):=by
 unfold fU
 rw[List.getD_cons_succ,List.getD_eq_getElem?_getD,List.getElem?_append_right (by rw[jK];omega),jK];rfl
theorem amV (l:List Nat):(fU l).length=18:=by simp[fU,jK]
set_option maxHeartbeats 1000000 in
theorem tf (l:List Nat) (hl:∀n∈l,n≤15) (hll:l.length≤320) (hck:bK l=true) (s:Bs) (a hv fr p:Nat) (hs:s.length≤1000000000000) (h:bA s a hv p):Eng.Spec Tryz.prog 234 [(RD,.var (aP s a hv fr))] [ba l,.ab RD 0]
    (fun h' v ar=>∃a' hv' p' k,bA s a' hv' p'∧h'=[(RD,.var (aP s a' hv' fr))]∧v=.ai [.int .i64 (k:Nat),.int .i64 ((readL (bF l) (ck s p)).2.2:Nat)] ∧
     ((readL (bF l) (ck s p)).2.2=0→k=(readL (bF l) (ck s p)).1∧p'=p+(readL (bF l) (ck s p)).2.1)∧ar=[ba l,.ab RD 0]):=by
 have hc:dL l≤32768:=by unfold bK at hck;simp at hck;exact hck.1
 refine Cod.Ru (fun E R hN hR=>?_)
 have hsl:=lh l 15
 have hpn:=uk l hl
 have hp16:bE l (15+1)=dp l:=hpn
 have htl:=amV l
 have hnum:dp l≤l.length:=List.countP_le_length
 have hts:=amW l
 have hnl:=dH (sortL l 15)
 have hso:∃so,sortL l 15=so:=⟨_,rfl⟩
 obtain⟨so,hso⟩:=hso
 rw[hso]at hsl hts hnl
 by_cases h0:dp l=0
 ·have hr:=aii h0 (ck s p)
  rw[hr]at hR
  simp(disch:=omega)only[go_sem,simprocAttr,ba,htl,hts,hnl,hsl,hp16,h0]
  exact hR.le vV ⟨a,hv,p,0,h,rfl,rfl,fun e=>by simp at e,rfl⟩
 ·simp(disch:=omega)only[go_sem,simprocAttr,ba,htl,hts,hnl,hsl,hp16,h0]
  have hbl:=uw s p
  generalize hb:ck s p=b at *
  refine bm hN (fun q:Nat×Nat×Nat=>⟨[(0,.aA (.agg (fU l))),(1,.ab 40014 0),(6,.int .i64 (msb (b.take q.1):Nat)),(7,.int .i64 (fstL l (q.1+1):Nat)),(8,.int .i64 (bE l (q.1+1):Nat)),(9,.int .i64 ((q.1:Int)+1)),
   (2000000,.aA (.agg (fU l))),(2000001,.ab 40014 0)],[(40014,.var (aP s q.2.1 q.2.2 fr))]⟩)
   (fun q=>q.1<15∧bA s q.2.1 q.2.2 (p+q.1)∧q.1≤cM s p∧lA l b (q.1+1)∧fstL l (q.1+1)≤2*msb (b.take q.1)∧bE l (q.1+1)<dp l) (fun q=>15-q.1) (0,a,hv)
   (.le (by simp(disch:=omega)only[go_sem,simprocAttr,msb,List.foldl_nil,fstL,bE])) ⟨by omega,h,by omega,fun s _ h1 h2=>by omega,by simp[fstL],by simp only[bE];omega⟩ ?_
  rintro⟨n,a,hv⟩ R1 ⟨hn,hrd,hlb,hno,hj,hpre⟩ hR1
  simp only at hn hrd hlb hno hj hpre
  have hmt:=Af (b.take n)
  have hmt2:2^(b.take n).length≤2^15:=Nat.pow_le_pow_right (by decide) (by rw[List.length_take];omega)
  have hkr:=tD hc (n:=n+1) (by omega) (by omega)
  have hk2:2^(n+1)≤2^15:=Nat.pow_le_pow_right (by decide) (by omega)
  simp(disch:=omega)only[go_sem,simprocAttr,ba]
  refine bf [(RD,.var (aP s a hv fr))] (qH s a hv fr (p+n) 1 hs hrd (by omega)) vV nofun ?_
  rintro h' v ar ⟨a',hv',hrd',rfl,rfl,rfl⟩
  refine⟨bV,rfl,?_⟩
  unfold cM at hlb
  by_cases hbit:1≤cM s (p+n)
  ·rw[if_pos hbit]at hrd'
   have hbit2:=hbit
   unfold cM at hbit2
   have hbn:n<b.length:=by omega
   have hget:b.getD n false=iw s (p+n):=by rw[←hb];exact aiw s p (by omega)
   have hms:=tS b n hbn
   rw[hget,←abK]at hms
   have hx1:=fQ s (p+n) 1
   have hle:=aaI hbn hj
   have hob:=or_bit (c:=msb (b.take n)) (b:=numAt s (p+n) 1) (by omega) (by omega)
   rw[←hms]at hob
   have hcl:=jK l
   have hpb:=uj l (n+1)
   have hpm:=nI l (n+2) (16-(n+2))
   rw[show n+2+(16-(n+2))=16 by omega,hpn]at hpm
   have hps:bE l (n+2)=bE l (n+1)+bI l (n+1):=rfl
   have hfs:fstL l (n+2)=2*(fstL l (n+1)+bI l (n+1)):=rfl
   refine rl hbit hob @uV htl hcl @lI ?_
   refine tj (fun hk=>?_) (fun hk=>?_)
   ·obtain⟨k,hke⟩:∃k,msb (b.take (n+1))=fstL l (n+1)+k:=⟨msb (b.take (n+1))-fstL l (n+1),by omega⟩
    obtain⟨sy,g1,g2,g3⟩:=aaL hc hl hn hbn hno hj hke (by omega)
    rw[hso]at g1
    rw[g3]at hR
    have ei:((bE l (n+1):Nat):Int)+(((msb (b.take (n+1)):Nat):Int)-((fstL l (n+1):Nat):Int))=((bE l (n+1)+k:Nat):Int):=by omega
    simp(disch:=omega)only[go_sem,simprocAttr,hts,htl,hnl,hsl,hp16,ei,jW,g1]
    exact hR.le (by simp(disch:=omega)only[go_sem,simprocAttr,ba]) ⟨a',hv',p+n+1,sy,hrd',rfl,rfl,fun _=>⟨rfl,by show _=p+(n+1);omega⟩,rfl⟩
   ·obtain⟨g1,g2⟩:=aaJ hc hl hn hbn hno (by omega)
    have hw2:(((fstL l (n+1):Nat):Int)+((bI l (n+1):Nat):Int))*2^min 1 64=((fstL l (n+2):Nat):Int):=by
     rw[hfs,show(2:Int)^min 1 64=2 by decide];push_cast;omega
    have ha2:((bE l (n+1):Nat):Int)+((bI l (n+1):Nat):Int)=((bE l (n+2):Nat):Int):=by rw[hps];push_cast;rfl
    by_cases hend:bE l (n+2)=dp l
    ·have hr:=aaK (b:=b) hl (n:=n+1) (by omega) (by omega) hend (by omega) g1
     rw[hr]at hR
     simp(disch:=omega)only[go_sem,simprocAttr,uV,hts,htl,hcl,lI,hw2,ha2,hnl,hsl,hp16,hend]
     exact hR.le (by simp(disch:=omega)only[go_sem,simprocAttr,ba]) ⟨a',hv',p+n+1,0,hrd',rfl,rfl,fun e=>by simp at e,rfl⟩
    ·have hne:¬((bE l (n+2):Nat):Int)=((dp l:Nat):Int):=by omega
     have hn15:n+1<15:=by
      refine Nat.lt_of_not_le fun hh=>?_
      have:n=14:=by omega
      subst this
      exact hend hpn
     simp(disch:=omega)only[go_sem,simprocAttr,uV,hts,htl,hcl,lI,hw2,ha2,hnl,hsl,hp16,hne]
     exact hR1 (n+1,a',hv') _ (by simp only;omega) ⟨hn15,hrd',by simp only[cM];omega,g1,g2,by show bE l (n+2)<_;omega⟩ (.le vV)
  ·have hbn:b.length=n:=by unfold cM at hbit;omega
   rw[if_neg hbit]at hrd'
   have hr:=aaH (b:=b) hl hck (by omega) (by rw[hbn];exact hpre) (by rw[hbn];exact hno) (by rw[List.take_of_length_le (by omega)]at hj;rw[hbn];exact hj)
   rw[hr]at hR
   refine aw hbit ?_
   exact hR.le vV ⟨a',hv',p+n,0,hrd',rfl,rfl,fun e=>by simp at e,rfl⟩
end Go.Proofs.YtoalcafkffmiiaaGreatDoor.Pk
namespace Go.Proofs.YtoalcafkffmiiaaGreatDoor.Cod
open Eng Eng.Kz
set_option maxRecDepth 100000
abbrev Ug:AK:=.seq (.aa [k 4 (ci 0)] [4,2000000,2000001]) .ret
abbrev Uf:AK:=.seq (.aa [m 15 0,m 16 0,.v 17 (.au (.t 16)),.v 18 (.aj false 1 1 (.t 17)),.v 19 (.ld false 1 (.t 18)),m 20 1,.eff 21 false 60021 (.cm 1 [(.t 20)]),.eff 22 false 60022 (.app 1 1 (.t 19) (.t 21)),.v 23 (.au (.t 15)),.v 24 (.aj false 1 1 (.t 23)),.an false 60000 (.st 1 (.t 24) (.t 22))] [2000000,2000001]) Ug
abbrev Ui:AK:=.seq (.aa [k 4 (ci 2)] [4,2000000,2000001]) .ret
abbrev Uh:AK:=.seq (.aa [u 60005 5 (.ah (.t 0)),u 60006 6 (.au (.t 5)),u 60007 7 (.aj false 1 1 (.t 6)),u 60008 8 (.ld false 1 (.t 7)),u 60009 9 (.len false (.t 8)),u 60010 10 (.ah (.t 0)),u 60011 11 (.au (.t 10)),u 60012 12 (.aj false 2 1 (.t 11)),u 60013 13 (.ld false 1 (.t 12)),b 14 .eql 9 13] [0,1,14,2000000,2000001]) (.cond (.t 14) Ui .skip)
abbrev Ue:AK:=.seq Uh Uf
abbrev Ud:AK:=.seq (.aa [k 4 (ci 0)] [0,1,2000000,2000001]) Ue
abbrev zj:AK:=Ud
theorem Uj:aD Tryz.prog 235 60000 2 zj [.tmp 4]:=⟨_,Tryz.func235,by kernel_rfl⟩
theorem Uk {h a0 a1 Post} (hp:aI Tryz.prog zj [.tmp 4] 2 [(0,a0),(1,a1),(2000000,a0),(2000001,a1)] h Post):Eng.Spec Tryz.prog 235 h [a0,a1] Post:=aK Uj rfl [(0,a0),(1,a1),(2000000,a0),(2000001,a1)] ⟨rfl,rfl,rfl,rfl,trivial⟩ hp
abbrev VP:AK:=.seq (.aa [k 2 (ci 0)] [2,2000000]) .ret
abbrev VR:AK:=.seq (.aa [k 2 (ci 6)] [2,2000000]) .ret
abbrev VQ:AK:=.seq (.aa [m 75 4,.v 76 (.un .not (.t 75))] [76,2000000]) (.cond (.t 76) VR .skip)
abbrev V8:AK:=.seq VQ VP
abbrev V7:AK:=.seq (.aa [m 66 0,m 67 0,.v 68 (.au (.t 67)),.v 69 (.aj false 1 1 (.t 68)),.v 70 (.ld false 1 (.t 69)),m 71 6,.eff 72 false 61072 (.app 1 1 (.t 70) (.t 71)),.v 73 (.au (.t 66)),.v 74 (.aj false 1 1 (.t 73)),.an false 61000 (.st 1 (.t 74) (.t 72))] [4,2000000]) V8
abbrev VT:AK:=.seq (.aa [k 2 (ci 2)] [2,2000000]) .ret
abbrev VS:AK:=.seq (.aa [u 61053 53 (.ah (.t 6)),u 61054 54 (.len true (.t 53)),u 61055 55 (.ah (.t 0)),u 61056 56 (.au (.t 55)),u 61057 57 (.aj false 2 1 (.t 56)),u 61058 58 (.ld false 1 (.t 57)),u 61059 59 (.ah (.t 0)),u 61060 60 (.au (.t 59)),u 61061 61 (.aj false 1 1 (.t 60)),u 61062 62 (.ld false 1 (.t 61)),u 61063 63 (.len false (.t 62)),u 61064 64 (.bin .sub (.t 58) (.t 63)),b 65 .gtr 54 64] [0,4,6,65,2000000]) (.cond (.t 65) VT .skip)
abbrev V6:AK:=.seq VS V7
abbrev VV:AK:=.aa [u 61040 40 (.ah (.t 0)),u 61041 41 (.au (.t 40)),u 61042 42 (.aj false 0 1 (.t 41)),u 61043 43 (.ld false 1 (.t 42)),u 61044 44 (.ah (.t 0)),u 61045 45 (.au (.t 44)),u 61046 46 (.aj false 0 1 (.t 45)),u 61047 47 (.ld false 1 (.t 46)),.ao (some 48) true 61048 245 [(.t 47)],u 61049 49 (.bin .quo (.t 48) (ci 8)),.ao (some 50) false 61050 243 [(.t 43),(.t 49)],m 39 50,u 61051 51 (.ext (.t 39) 0),u 61052 52 (.ext (.t 39) 1),u 61006 6 (.ah (.t 51))] [0,4,6,2000000]
abbrev VU:AK:=.seq (.aa [m 37 4,.v 38 (.un .not (.t 37))] [0,4,6,38,2000000]) (.cond (.t 38) VV .skip)
def zy:AK:=.seq VU (.bq V6)
abbrev V5:AK:=.seq (.aa [m 29 0,.v 30 (.au (.t 29)),.v 31 (.aj false 0 1 (.t 30)),.v 32 (.ld false 1 (.t 31)),m 33 5,.ao (some 34) false 61034 243 [(.t 32),(.t 33)],m 28 34,.v 35 (.ext (.t 28) 0),.v 36 (.ext (.t 28) 1),m 6 35,m 4 36] [0,4,6,2000000]) zy
abbrev VY:AK:=.seq (.aa [k 2 (ci 3)] [2,2000000]) .ret
abbrev VX:AK:=.seq (.aa [m 21 5,bi 22 .xor 21 65535,m 23 3,.v 24 (.bH (.t 23) (some (ci 2)) none),.ao (some 25) false 61025 244 [(.t 24)],.v 26 (.bh .i64 (.t 25)),b 27 .neq 22 26] [0,5,27,2000000]) (.cond (.t 27) VY .skip)
abbrev V4:AK:=.seq VX V5
abbrev V3:AK:=.seq (.aa [m 17 3,.v 18 (.bH (.t 17) none (some (ci 2))),.ao (some 19) false 61019 244 [(.t 18)],.v 20 (.bh .i64 (.t 19)),m 5 20] [0,3,5,2000000]) V4
abbrev V0:AK:=.seq (.aa [k 2 (ci 6)] [2,2000000]) .ret
abbrev VZ:AK:=.seq (.aa [m 15 4,.v 16 (.un .not (.t 15))] [0,3,16,2000000]) (.cond (.t 16) V0 .skip)
abbrev VW:AK:=.seq VZ V3
abbrev VO:AK:=.seq (.aa [m 8 0,.v 9 (.au (.t 8)),.v 10 (.aj false 0 1 (.t 9)),.v 11 (.ld false 1 (.t 10)),.ao (some 12) false 61012 243 [(.t 11),(ci 4)],m 7 12,.v 13 (.ext (.t 7) 0),.v 14 (.ext (.t 7) 1),m 3 13,m 4 14] [0,3,4,2000000]) VW
abbrev VN:AK:=.seq (.aa [k 2 (ci 0)] [0,2000000]) VO
abbrev zx:AK:=VN
theorem V9:aD Tryz.prog 231 61000 1 zx [.tmp 2]:=⟨_,Tryz.func231,by kernel_rfl⟩
theorem Wb {h a0 Post} (hp:aI Tryz.prog zx [.tmp 2] 1 [(0,a0),(2000000,a0)] h Post):Eng.Spec Tryz.prog 231 h [a0] Post:=aK V9 rfl [(0,a0),(2000000,a0)] ⟨rfl,rfl,trivial⟩ hp
abbrev Wl:AK:=.seq (.aa [m 184 24,m 185 26,m 2 184,m 3 185,k 4 (ci 0)] [2,3,4,2000000]) .ret
abbrev Wn:AK:=.seq (.aa [k 2 (.c (.lit (.pointer none))),k 3 (.c (.lit (.pointer none))),k 4 (ci 3)] [2,3,4,2000000]) .ret
abbrev Wm:AK:=.seq (.aa [m 172 16,.v 173 (.aX 1 (.t 172) (ci 256)),.v 174 (.ld false 1 (.t 173)),bi 175 .eql 174 0,m 176 175,.af 177 176 false false 62177 (.ah (.t 25)),.af 178 176 false false 62178 (.bin .neq (.t 177) (ci 0)),.v 179 (.pick (.t 176) (.c (.bool true)) (.t 178)),m 180 179,.af 181 180 false false 62181 (.ah (.t 27)),.af 182 180 false false 62182 (.bin .neq (.t 181) (ci 0)),.v 183 (.pick (.t 180) (.c (.bool true)) (.t 182))] [24,26,183,2000000]) (.cond (.t 183) Wn .skip)
abbrev Wj:AK:=.seq Wm Wl
abbrev Wi:AK:=.seq (.aa [m 166 16,m 167 7,.v 168 (.lg 1 (.t 166) (some (.t 167)) none),.ao (some 169) false 62169 246 [(.t 168)],m 165 169,.v 170 (.ext (.t 165) 0),.v 171 (.ext (.t 165) 1),m 26 170,m 27 171] [16,24,25,26,27,2000000]) Wj
abbrev tr:AK:=.seq (.aa [m 159 16,m 160 7,.v 161 (.lg 1 (.t 159) none (some (.t 160))),.ao (some 162) false 62162 246 [(.t 161)],m 158 162,.v 163 (.ext (.t 158) 0),.v 164 (.ext (.t 158) 1),m 24 163,m 25 164] [7,16,24,25,2000000]) Wi
abbrev WC:AK:=.aa [bi 157 .add 151 1,m 151 157] [0,7,8,14,16,21,150,151,2000000]
abbrev WD:AK:=.aa [m 153 16,m 154 21,.eff 155 false 62155 (.cm 1 [(.t 154)]),.eff 156 false 62156 (.app 1 8 (.t 153) (.t 155)),m 16 156] [0,7,8,14,16,21,150,151,2000000]
abbrev WB:AK:=.seq (.block 6 WD) WC
abbrev WA:AK:=.seq (.cond (.t 152) .skip (.exit 5)) WB
abbrev Wz:AK:=.seq (.aa [b 152 .lss 151 150] [0,7,8,14,16,21,150,151,152,2000000]) WA
abbrev Xn:AK:=.loop Wz
abbrev Wx:AK:=.seq (.aa [m 147 20,m 148 22,.v 149 (.bh .i64 (.t 148)),b 150 .add 147 149,k 151 (ci 0)] [0,7,8,14,16,21,150,151,2000000]) (.block 5 Xn)
abbrev WH:AK:=.seq (.aa [k 2 (.c (.lit (.pointer none))),k 3 (.c (.lit (.pointer none))),k 4 (ci 3)] [2,3,4,2000000]) .ret
abbrev WE:AK:=.seq (.aa [m 136 16,.v 137 (.len false (.t 136)),m 138 20,b 139 .add 137 138,m 140 22,.v 141 (.bh .i64 (.t 140)),b 142 .add 139 141,m 143 7,m 144 8,b 145 .add 143 144,b 146 .gtr 142 145] [0,7,8,14,16,20,21,22,146,2000000]) (.cond (.t 146) WH .skip)
abbrev Ww:AK:=.seq WE Wx
abbrev WJ:AK:=.seq (.aa [k 2 (.c (.lit (.pointer none))),k 3 (.c (.lit (.pointer none))),k 4 (ci 6)] [2,3,4,2000000]) .ret
abbrev WI:AK:=.seq (.aa [m 134 23,.v 135 (.un .not (.t 134))] [0,7,8,14,16,20,21,22,135,2000000]) (.cond (.t 135) WJ .skip)
abbrev Wv:AK:=.seq WI Ww
abbrev tt:AK:=.seq (.aa [m 126 0,.v 127 (.au (.t 126)),.v 128 (.aj false 0 1 (.t 127)),.v 129 (.ld false 1 (.t 128)),m 130 19,.ao (some 131) false 62131 230 [(.t 129),(.t 130)],m 125 131,.v 132 (.ext (.t 125) 0),.v 133 (.ext (.t 125) 1),m 22 132,m 23 133] [0,7,8,14,16,20,21,22,23,2000000]) Wv
abbrev WN:AK:=.aa [m 117 16,m 118 16,.v 119 (.len false (.t 118)),bi 120 .sub 119 1,.v 121 (.aX 1 (.t 117) (.t 120)),.v 122 (.ld false 1 (.t 121)),m 21 122] [0,7,8,14,16,19,20,21,2000000]
abbrev WR:AK:=.seq (.aa [k 2 (.c (.lit (.pointer none))),k 3 (.c (.lit (.pointer none))),k 4 (ci 3)] [2,3,4,2000000]) .ret
abbrev WQ:AK:=.seq (.aa [m 114 16,.v 115 (.len false (.t 114)),bi 116 .eql 115 0] [0,7,8,14,16,19,20,116,2000000]) (.cond (.t 116) WR .skip)
abbrev WM:AK:=.seq WQ WN
abbrev WT:AK:=.aa [k 19 (ci 3)] [0,7,8,14,16,19,20,21,2000000]
abbrev WU:AK:=.aa [k 19 (ci 7),k 20 (ci 11)] [0,7,8,14,16,19,20,21,2000000]
abbrev WS:AK:=.seq (.aa [bi 124 .eql 111 17,m 123 124] [0,7,8,14,16,20,21,123,2000000]) (.cond (.t 123) WT WU)
abbrev WL:AK:=.seq (.aa [bi 113 .eql 111 16,m 112 113] [0,7,8,14,16,19,20,21,111,112,2000000]) (.cond (.t 112) WM WS)
abbrev WK:AK:=.seq (.aa [m 111 17] [0,7,8,14,16,19,20,21,111,2000000]) (.block 4 WL)
def Wu:AK:=.seq WK (.bq tt)
abbrev Wt:AK:=.seq (.aa [k 19 (ci 2),k 20 (ci 3),k 21 (ci 0)] [0,7,8,14,16,17,19,20,21,2000000]) Wu
abbrev WW:AK:=.seq (.aa [m 107 16,m 108 17,.eff 109 false 62109 (.cm 1 [(.t 108)]),.eff 110 false 62110 (.app 1 8 (.t 107) (.t 109)),m 16 110] [0,7,8,14,16,2000000]) (.exit 3)
abbrev WV:AK:=.seq (.aa [m 105 17,bi 106 .lss 105 16] [0,7,8,14,16,17,106,2000000]) (.cond (.t 106) WW .skip)
abbrev Ws:AK:=.seq WV Wt
abbrev WY:AK:=.seq (.aa [m 104 18,k 2 (.c (.lit (.pointer none))),k 3 (.c (.lit (.pointer none))),m 4 104] [2,3,4,2000000]) .ret
abbrev WX:AK:=.seq (.aa [m 102 18,bi 103 .neq 102 0] [0,7,8,14,16,17,18,103,2000000]) (.cond (.t 103) WY .skip)
abbrev Wr:AK:=.seq WX Ws
abbrev Wq:AK:=.seq (.aa [m 94 14,m 95 0,.v 96 (.au (.t 95)),.v 97 (.aj false 0 1 (.t 96)),.v 98 (.ld false 1 (.t 97)),.ao (some 99) false 62099 234 [(.t 94),(.t 98)],m 93 99,.v 100 (.ext (.t 93) 0),.v 101 (.ext (.t 93) 1),m 17 100,m 18 101] [0,7,8,14,16,17,18,2000000]) Wr
abbrev WZ:AK:=.seq (.aa [m 87 16,.v 88 (.len false (.t 87)),m 89 7,m 90 8,b 91 .add 89 90,b 92 .lss 88 91] [0,7,8,14,16,92,2000000]) (.cond (.t 92) .skip (.exit 2))
abbrev Wo:AK:=.seq WZ (.block 3 Wq)
abbrev Xm:AK:=.loop Wo
def zC:AK:=.seq (.block 2 Xm) (.bq tr)
abbrev Xl:AK:=.seq (.aa [k 16 (.c (.aq))] [0,7,8,14,16,2000000]) zC
abbrev W4:AK:=.seq (.aa [k 2 (.c (.lit (.pointer none))),k 3 (.c (.lit (.pointer none))),k 4 (ci 3)] [2,3,4,2000000]) .ret
abbrev W3:AK:=.seq (.aa [m 85 15,bi 86 .neq 85 0] [0,7,8,14,86,2000000]) (.cond (.t 86) W4 .skip)
abbrev Xf:AK:=.seq W3 Xl
abbrev zE:AK:=.seq (.aa [m 81 10,.ao (some 82) false 62082 246 [(.t 81)],m 80 82,.v 83 (.ext (.t 80) 0),.v 84 (.ext (.t 80) 1),m 14 83,m 15 84] [0,7,8,14,15,2000000]) Xf
abbrev W9:AK:=.aa [bi 79 .add 59 1,m 59 79] [0,7,8,10,58,59,2000000]
abbrev Xd:AK:=.aa [m 72 10,.ao (some 73) false 62073 247 [],m 74 11,.v 75 (.l7 19 (.t 73) (.t 74)),m 76 12,.v 77 (.bh .i64 (.t 76)),.v 78 (.aX 1 (.t 72) (.t 75)),.an false 62000 (.st 1 (.t 78) (.t 77))] [0,7,8,10,58,59,2000000]
abbrev Xg:AK:=.seq (.aa [k 2 (.c (.lit (.pointer none))),k 3 (.c (.lit (.pointer none))),k 4 (ci 6)] [2,3,4,2000000]) .ret
abbrev Xe:AK:=.seq (.aa [m 70 13,.v 71 (.un .not (.t 70))] [0,7,8,10,11,12,58,59,71,2000000]) (.cond (.t 71) Xg .skip)
abbrev Xc:AK:=.seq Xe Xd
abbrev Xb:AK:=.seq (.aa [m 63 0,.v 64 (.au (.t 63)),.v 65 (.aj false 0 1 (.t 64)),.v 66 (.ld false 1 (.t 65)),.ao (some 67) false 62067 230 [(.t 66),(ci 3)],m 62 67,.v 68 (.ext (.t 62) 0),.v 69 (.ext (.t 62) 1),m 12 68,m 13 69] [0,7,8,10,11,12,13,58,59,2000000]) Xc
abbrev Xa:AK:=.seq (.aa [m 61 59,m 11 61] [0,7,8,10,11,58,59,2000000]) Xb
abbrev W8:AK:=.seq (.block 1 Xa) W9
abbrev W7:AK:=.seq (.cond (.t 60) .skip (.exit 0)) W8
abbrev W6:AK:=.seq (.aa [b 60 .lss 59 58] [0,7,8,10,58,59,60,2000000]) W7
abbrev Xo:AK:=.loop W6
abbrev W5:AK:=.seq (.aa [m 58 9,k 59 (ci 0)] [0,7,8,10,58,59,2000000]) (.block 0 Xo)
def zD:AK:=.seq W5 (.bq zE)
abbrev WO:AK:=.seq (.aa [.eff 57 false 62057 (.kW 1 8 [.int .i64 0] (ci 19) (ci 19)),m 10 57] [0,7,8,9,10,2000000]) zD
abbrev Xi:AK:=.seq (.aa [k 2 (.c (.lit (.pointer none))),k 3 (.c (.lit (.pointer none))),k 4 (ci 3)] [2,3,4,2000000]) .ret
abbrev Xh:AK:=.seq (.aa [m 51 7,bi 52 .gtr 51 286,m 53 52,.af 54 53 false false 62054 (.ah (.t 8)),.af 55 53 false false 62055 (.bin .gtr (.t 54) (ci 30)),.v 56 (.pick (.t 53) (.c (.bool true)) (.t 55))] [0,7,8,9,56,2000000]) (.cond (.t 56) Xi .skip)
abbrev WG:AK:=.seq Xh WO
abbrev Wy:AK:=.seq (.aa [m 38 5,.v 39 (.bin .and (.t 38) (.c (.int .u32 31))),.v 40 (.bh .i64 (.t 39)),bi 41 .add 40 257,m 42 5,.v 43 (.bin .shr (.t 42) (.c (.int .u64 5))),.v 44 (.bin .and (.t 43) (.c (.int .u32 31))),.v 45 (.bh .i64 (.t 44)),bi 46 .add 45 1,m 47 5,.v 48 (.bin .shr (.t 47) (.c (.int .u64 10))),.v 49 (.bh .i64 (.t 48)),bi 50 .add 49 4,m 7 41,m 8 46,m 9 50] [0,7,8,9,2000000]) WG
abbrev Xk:AK:=.seq (.aa [k 2 (.c (.lit (.pointer none))),k 3 (.c (.lit (.pointer none))),k 4 (ci 6)] [2,3,4,2000000]) .ret
abbrev Xj:AK:=.seq (.aa [m 36 6,.v 37 (.un .not (.t 36))] [0,5,37,2000000]) (.cond (.t 37) Xk .skip)
abbrev Wp:AK:=.seq Xj Wy
abbrev Wh:AK:=.seq (.aa [m 29 0,.v 30 (.au (.t 29)),.v 31 (.aj false 0 1 (.t 30)),.v 32 (.ld false 1 (.t 31)),.ao (some 33) false 62033 230 [(.t 32),(ci 14)],m 28 33,.v 34 (.ext (.t 28) 0),.v 35 (.ext (.t 28) 1),m 5 34,m 6 35] [0,5,6,2000000]) Wp
abbrev Wg:AK:=.seq (.aa [k 2 (.c (.lit (.pointer none))),k 3 (.c (.lit (.pointer none))),k 4 (ci 0)] [0,2000000]) Wh
abbrev zB:AK:=Wg
theorem Xp:aD Tryz.prog 233 62000 1 zB [.tmp 2,.tmp 3,.tmp 4]:=⟨_,Tryz.func233,by kernel_rfl⟩
theorem Xr {h a0 Post} (hp:aI Tryz.prog zB [.tmp 2,.tmp 3,.tmp 4] 1 [(0,a0),(2000000,a0)] h Post):Eng.Spec Tryz.prog 233 h [a0] Post:=aK Xp rfl [(0,a0),(2000000,a0)] ⟨rfl,rfl,trivial⟩ hp
abbrev Us:AK:=.seq (.aa [k 6 (ci 0)] [6,2000000,2000001,2000002]) .ret
abbrev Uy:AK:=.aa [bi 100 .add 80 1,m 80 100] [0,13,79,80,2000000,2000001,2000002]
abbrev UB:AK:=.seq (.aa [m 99 14,m 6 99] [6,2000000,2000001,2000002]) .ret
abbrev UA:AK:=.seq (.aa [m 97 14,bi 98 .neq 97 0] [0,13,14,79,80,98,2000000,2000001,2000002]) (.cond (.t 98) UB .skip)
abbrev Uz:AK:=.seq (.aa [u 63082 82 (.ah (.t 0)),u 63083 83 (.ah (.t 0)),u 63084 84 (.au (.t 83)),u 63085 85 (.aj false 1 1 (.t 84)),u 63086 86 (.ld false 1 (.t 85)),u 63087 87 (.ah (.t 0)),u 63088 88 (.au (.t 87)),u 63089 89 (.aj false 1 1 (.t 88)),u 63090 90 (.ld false 1 (.t 89)),u 63091 91 (.len false (.t 90)),u 63092 92 (.ah (.t 13)),u 63093 93 (.bin .sub (.t 91) (.t 92)),.v 94 (.aX 1 (.t 86) (.t 93)),.v 95 (.ld false 1 (.t 94)),.ao (some 96) false 63096 235 [(.t 82),(.t 95)],m 14 96] [0,13,14,79,80,2000000,2000001,2000002]) UA
abbrev Ux:AK:=.seq (.block 1 Uz) Uy
abbrev Uv:AK:=.seq (.cond (.t 81) .skip (.exit 0)) Ux
abbrev Uu:AK:=.seq (.aa [b 81 .lss 80 79] [0,13,79,80,81,2000000,2000001,2000002]) Uv
abbrev UW:AK:=.loop Uu
abbrev Ut:AK:=.seq (.aa [m 79 7,k 80 (ci 0)] [0,13,79,80,2000000,2000001,2000002]) (.block 0 UW)
abbrev Ur:AK:=.seq Ut Us
abbrev UE:AK:=.seq (.aa [k 6 (ci 3)] [6,2000000,2000001,2000002]) .ret
abbrev UC:AK:=.seq (.aa [m 72 13,m 73 0,.v 74 (.au (.t 73)),.v 75 (.aj false 1 1 (.t 74)),.v 76 (.ld false 1 (.t 75)),.v 77 (.len false (.t 76)),b 78 .gtr 72 77] [0,7,13,78,2000000,2000001,2000002]) (.cond (.t 78) UE .skip)
abbrev Uq:AK:=.seq UC Ur
abbrev Up:AK:=.seq (.aa [m 68 13,m 69 9,.v 70 (.bh .i64 (.t 69)),b 71 .add 68 70,m 13 71] [0,7,13,2000000,2000001,2000002]) Uq
abbrev UG:AK:=.seq (.aa [k 6 (ci 6)] [6,2000000,2000001,2000002]) .ret
abbrev UF:AK:=.seq (.aa [m 66 10,.v 67 (.un .not (.t 66))] [0,7,9,13,67,2000000,2000001,2000002]) (.cond (.t 67) UG .skip)
abbrev Uo:AK:=.seq UF Up
abbrev Un:AK:=.seq (.aa [m 58 0,.v 59 (.au (.t 58)),.v 60 (.aj false 0 1 (.t 59)),.v 61 (.ld false 1 (.t 60)),m 62 8,.ao (some 63) false 63063 230 [(.t 61),(.t 62)],m 57 63,.v 64 (.ext (.t 57) 0),.v 65 (.ext (.t 57) 1),m 9 64,m 10 65] [0,7,9,10,13,2000000,2000001,2000002]) Uo
abbrev UU:AK:=.seq (.aa [m 53 11,.ao (some 54) false 63054 249 [(.t 53)],m 52 54,.v 55 (.ext (.t 52) 0),.v 56 (.ext (.t 52) 1),m 13 55,m 8 56] [0,7,8,13,2000000,2000001,2000002]) Un
abbrev UI:AK:=.seq (.aa [k 6 (ci 3)] [6,2000000,2000001,2000002]) .ret
abbrev UH:AK:=.seq (.aa [m 50 11,bi 51 .gtr 50 29] [0,7,11,51,2000000,2000001,2000002]) (.cond (.t 51) UI .skip)
abbrev UT:AK:=.seq UH UU
abbrev UK:AK:=.seq (.aa [m 49 12,m 6 49] [6,2000000,2000001,2000002]) .ret
abbrev UJ:AK:=.seq (.aa [m 47 12,bi 48 .neq 47 0] [0,7,11,12,48,2000000,2000001,2000002]) (.cond (.t 48) UK .skip)
abbrev US:AK:=.seq UJ UT
abbrev UR:AK:=.seq (.aa [m 39 2,m 40 0,.v 41 (.au (.t 40)),.v 42 (.aj false 0 1 (.t 41)),.v 43 (.ld false 1 (.t 42)),.ao (some 44) false 63044 234 [(.t 39),(.t 43)],m 38 44,.v 45 (.ext (.t 38) 0),.v 46 (.ext (.t 38) 1),m 11 45,m 12 46] [0,7,11,12,2000000,2000001,2000002]) US
abbrev UQ:AK:=.seq (.aa [m 34 7,m 35 9,.v 36 (.bh .i64 (.t 35)),b 37 .add 34 36,m 7 37] [0,2,7,2000000,2000001,2000002]) UR
abbrev UN:AK:=.seq (.aa [k 6 (ci 6)] [6,2000000,2000001,2000002]) .ret
abbrev UM:AK:=.seq (.aa [m 32 10,.v 33 (.un .not (.t 32))] [0,2,7,9,33,2000000,2000001,2000002]) (.cond (.t 33) UN .skip)
abbrev UL:AK:=.seq UM UQ
abbrev UD:AK:=.seq (.aa [m 24 0,.v 25 (.au (.t 24)),.v 26 (.aj false 0 1 (.t 25)),.v 27 (.ld false 1 (.t 26)),m 28 8,.ao (some 29) false 63029 230 [(.t 27),(.t 28)],m 23 29,.v 30 (.ext (.t 23) 0),.v 31 (.ext (.t 23) 1),m 9 30,m 10 31] [0,2,7,9,10,2000000,2000001,2000002]) UL
abbrev Uw:AK:=.seq (.aa [m 18 1,bi 19 .sub 18 257,.ao (some 20) false 63020 248 [(.t 19)],m 17 20,.v 21 (.ext (.t 17) 0),.v 22 (.ext (.t 17) 1),m 7 21,m 8 22] [0,2,7,8,2000000,2000001,2000002]) UD
abbrev UP:AK:=.seq (.aa [k 6 (ci 3)] [6,2000000,2000001,2000002]) .ret
abbrev UO:AK:=.seq (.aa [m 15 1,bi 16 .gtr 15 285] [0,1,2,16,2000000,2000001,2000002]) (.cond (.t 16) UP .skip)
abbrev Um:AK:=.seq UO Uw
abbrev Ul:AK:=.seq (.aa [k 6 (ci 0)] [0,1,2,2000000,2000001,2000002]) Um
abbrev zm:AK:=Ul
theorem UX:aD Tryz.prog 236 63000 3 zm [.tmp 6]:=⟨_,Tryz.func236,by kernel_rfl⟩
theorem UZ {h a0 a1 a2 Post} (hp:aI Tryz.prog zm [.tmp 6] 3 [(0,a0),(1,a1),(2,a2),(2000000,a0),(2000001,a1),(2000002,a2)] h Post):Eng.Spec Tryz.prog 236 h [a0,a1,a2] Post:=aK UX rfl [(0,a0),(1,a1),(2,a2),(2000000,a0),(2000001,a1),(2000002,a2)] ⟨rfl,rfl,rfl,rfl,rfl,rfl,trivial⟩ hp
abbrev U7:AK:=.seq (.aa [k 2 (ci 0)] [2,2000000]) .ret
abbrev U8:AK:=.seq (.aa [m 72 3,.v 73 (.bin .and (.t 72) (.c (.int .u32 1))),.v 74 (.bin .eql (.t 73) (.c (.int .u32 0)))] [0,74,2000000]) (.cond (.t 74) (.goto 0) .skip)
abbrev zp:AK:=.seq U8 U7
abbrev U6:AK:=.seq (.label 1) zp
abbrev Va:AK:=.seq (.aa [m 71 5,m 2 71] [2,2000000]) .ret
abbrev U5:AK:=.seq Va U6
abbrev Vb:AK:=.seq (.aa [m 69 5,bi 70 .eql 69 0] [0,3,5,7,8,70,2000000]) (.cond (.t 70) (.goto 2) .skip)
abbrev zo:AK:=.seq Vb U5
abbrev Vd:AK:=.aa [m 61 0,m 62 6,.v 63 (.bh .u8 (.t 62)),.ao (some 64) false 64064 235 [(.t 61),(.t 63)],m 5 64] [0,3,5,7,8,2000000]
abbrev Ve:AK:=.aa [m 65 0,m 66 6,m 67 8,.ao (some 68) false 64068 236 [(.t 65),(.t 66),(.t 67)],m 5 68] [0,3,5,7,8,2000000]
abbrev Vc:AK:=.seq (.aa [m 59 6,bi 60 .lss 59 256] [0,3,6,7,8,60,2000000]) (.cond (.t 60) Vd Ve)
def U4:AK:=.seq Vc (.bq zo)
abbrev Vf:AK:=.seq (.aa [m 57 6,bi 58 .eql 57 256] [0,3,6,7,8,58,2000000]) (.cond (.t 58) (.goto 1) .skip)
abbrev U3:AK:=.seq Vf U4
abbrev Vj:AK:=.seq (.aa [m 56 5,m 2 56] [2,2000000]) .ret
abbrev Vi:AK:=.seq (.aa [m 54 5,bi 55 .neq 54 0] [0,3,5,6,7,8,55,2000000]) (.cond (.t 55) Vj .skip)
abbrev Vh:AK:=.seq (.aa [m 46 7,m 47 0,.v 48 (.au (.t 47)),.v 49 (.aj false 0 1 (.t 48)),.v 50 (.ld false 1 (.t 49)),.ao (some 51) false 64051 234 [(.t 46),(.t 50)],m 45 51,.v 52 (.ext (.t 45) 0),.v 53 (.ext (.t 45) 1),m 6 52,m 5 53] [0,3,5,6,7,8,2000000]) Vi
abbrev tp:AK:=.seq Vh U3
abbrev U2:AK:=.seq (.label 2) tp
abbrev Vk:AK:=.seq (.aa [k 2 (ci 3)] [2,2000000]) .ret
abbrev VF:AK:=.seq Vk U2
abbrev Vr:AK:=.seq (.aa [m 27 5,m 2 27] [2,2000000]) .ret
abbrev Vq:AK:=.seq (.aa [m 25 5,bi 26 .neq 25 0] [0,3,5,26,2000000]) (.cond (.t 26) Vr .skip)
abbrev Vp:AK:=.seq (.aa [m 23 0,.ao (some 24) false 64024 231 [(.t 23)],m 5 24] [0,3,5,2000000]) Vq
abbrev Vn:AK:=.seq Vp (.goto 1)
abbrev Vt:AK:=.seq (.aa [.ao (some 31) false 64031 232 [],m 30 31,.v 32 (.ext (.t 30) 0),.v 33 (.ext (.t 30) 1),m 7 32,m 8 33] [0,3,7,8,2000000]) (.goto 2)
abbrev Vz:AK:=.seq (.aa [m 44 5,m 2 44] [2,2000000]) .ret
abbrev Vy:AK:=.seq (.aa [m 42 5,bi 43 .neq 42 0] [0,3,5,7,8,43,2000000]) (.cond (.t 43) Vz .skip)
abbrev Vx:AK:=.seq (.aa [m 37 0,.ao (some 38) false 64038 233 [(.t 37)],m 36 38,.v 39 (.ext (.t 36) 0),.v 40 (.ext (.t 36) 1),.v 41 (.ext (.t 36) 2),m 7 39,m 8 40,m 5 41] [0,3,5,7,8,2000000]) Vy
abbrev Vv:AK:=.seq Vx (.goto 2)
abbrev Vu:AK:=.seq (.aa [.v 35 (.bin .eql (.t 20) (.c (.int .u32 2))),m 34 35] [0,3,34,2000000]) (.cond (.t 34) Vv .skip)
abbrev Vs:AK:=.seq (.aa [.v 29 (.bin .eql (.t 20) (.c (.int .u32 1))),m 28 29] [0,3,20,28,2000000]) (.cond (.t 28) Vt Vu)
abbrev Vm:AK:=.seq (.aa [.v 22 (.bin .eql (.t 20) (.c (.int .u32 0))),m 21 22] [0,3,20,21,2000000]) (.cond (.t 21) Vn Vs)
abbrev Vl:AK:=.seq (.aa [m 19 3,.v 20 (.bin .shr (.t 19) (.c (.int .u64 1)))] [0,3,20,2000000]) (.block 0 Vm)
abbrev VE:AK:=.seq Vl VF
abbrev VC:AK:=.seq (.aa [k 2 (ci 6)] [2,2000000]) .ret
abbrev VB:AK:=.seq (.aa [m 17 4,.v 18 (.un .not (.t 17))] [0,3,18,2000000]) (.cond (.t 18) VC .skip)
abbrev VA:AK:=.seq (.aa [m 10 0,.v 11 (.au (.t 10)),.v 12 (.aj false 0 1 (.t 11)),.v 13 (.ld false 1 (.t 12)),.ao (some 14) false 64014 230 [(.t 13),(ci 3)],m 9 14,.v 15 (.ext (.t 9) 0),.v 16 (.ext (.t 9) 1),m 3 15,m 4 16] [0,3,4,2000000]) VB
abbrev p6:AK:=.seq VA VE
def VD:AK:=.seq (.label 0) (.bq p6)
abbrev Vw:AK:=.seq (.aa [k 7 (.c (.lit (.pointer none))),k 8 (.c (.lit (.pointer none)))] [0,2000000]) VD
abbrev Vo:AK:=.seq (.aa [k 6 (ci 0)] [0,2000000]) Vw
abbrev Vg:AK:=.seq (.aa [k 5 (ci 0)] [0,2000000]) Vo
abbrev U9:AK:=.seq (.aa [k 4 (.c (.bool false))] [0,2000000]) Vg
abbrev U1:AK:=.seq (.aa [k 3 (.c (.int .u32 0))] [0,2000000]) U9
abbrev VG:AK:=.scope U1
abbrev U0:AK:=.seq (.aa [k 2 (ci 0)] [0,2000000]) VG
abbrev zn:AK:=U0
theorem VH:aD Tryz.prog 215 64000 1 zn [.tmp 2]:=⟨_,Tryz.func215,by kernel_rfl⟩
theorem VK {h a0 Post} (hp:aI Tryz.prog zn [.tmp 2] 1 [(0,a0),(2000000,a0)] h Post):Eng.Spec Tryz.prog 215 h [a0] Post:=aK VH rfl [(0,a0),(2000000,a0)] ⟨rfl,rfl,trivial⟩ hp
abbrev TS:AK:=.seq (.aa [u 65038 38 (.ah (.t 9)),u 65039 39 (.au (.t 38)),u 65040 40 (.aj false 1 1 (.t 39)),u 65041 41 (.ld false 1 (.t 40)),u 65042 42 (.ix (.t 41)),u 65043 43 (.ah (.t 9)),u 65044 44 (.au (.t 43)),u 65045 45 (.aj false 0 1 (.t 44)),u 65046 46 (.ld false 1 (.t 45)),.ao (some 47) true 65047 216 [(.t 46)],m 6 42,m 7 47,k 8 (ci 0)] [6,7,8]) .ret
abbrev TV:AK:=.seq (.aa [m 37 10,k 6 (.c (.str [])),k 7 (ci 0),m 8 37] [6,7,8]) .ret
abbrev TU:AK:=.seq (.aa [m 35 10,bi 36 .neq 35 0] [9,10,36]) (.cond (.t 36) TV .skip)
abbrev TT:AK:=.seq (.aa [m 33 9,.ao (some 34) false 65034 215 [(.t 33)],m 10 34] [9,10]) TU
abbrev TR:AK:=.seq TT TS
abbrev TQ:AK:=.seq (.aa [m 27 0,m 28 1,.ao (some 29) false 65029 214 [(.t 27),(.t 28)],m 30 2,.v 31 (.bD [.lit (.pointer none),.aq,.int .i64 0] [(0,1,(.t 29)),(2,1,(.t 30))]),.eff 32 false 65032 (.box 3 (.t 31)),m 9 32] [9]) TR
abbrev TP:AK:=.seq (.aa [k 6 (.c (.str [])),k 7 (ci 0),k 8 (ci 1)] [6,7,8]) .ret
abbrev TW:AK:=.seq (.aa [m 11 1,bi 12 .lss 11 0,m 13 12,.af 14 13 false false 65014 (.ah (.t 1)),.af 15 13 false false 65015 (.ah (.t 0)),.af 16 13 false false 65016 (.len true (.t 15)),.af 17 13 false false 65017 (.bin .gtr (.t 14) (.t 16)),.v 18 (.pick (.t 13) (.c (.bool true)) (.t 17)),m 19 18,.af 20 19 false false 65020 (.ah (.t 2)),.af 21 19 false false 65021 (.bin .lss (.t 20) (ci 0)),.v 22 (.pick (.t 19) (.c (.bool true)) (.t 21)),m 23 22,.af 24 23 false false 65024 (.ah (.t 2)),.af 25 23 false false 65025 (.bin .gtr (.t 24) (ci 65536)),.v 26 (.pick (.t 23) (.c (.bool true)) (.t 25))] [0,1,2,26]) (.cond (.t 26) TP .skip)
abbrev TN:AK:=.seq TW TQ
abbrev TM:AK:=.seq (.aa [k 6 (.c (.str [])),k 7 (ci 0),k 8 (ci 0)] [0,1,2]) TN
abbrev inflate:AK:=TM
theorem TX:aD Tryz.prog 180 65000 3 inflate [.tmp 6,.tmp 7,.tmp 8]:=⟨_,Tryz.func180,by kernel_rfl⟩
theorem TZ {h a0 a1 a2 Post} (hp:aI Tryz.prog inflate [.tmp 6,.tmp 7,.tmp 8] 3 [(0,a0),(1,a1),(2,a2)] h Post):Eng.Spec Tryz.prog 180 h [a0,a1,a2] Post:=aK TX rfl [(0,a0),(1,a1),(2,a2)] ⟨rfl,rfl,rfl,trivial⟩ hp
abbrev Tg:AK:=.seq (.aa [m 46 5,m 47 7,m 0 46,m 1 47] [0,1]) .ret
abbrev Tf:AK:=.seq (.aa [m 42 3,.ao (some 43) false 66043 246 [(.t 42)],m 41 43,.v 44 (.ext (.t 41) 0),.v 45 (.ext (.t 41) 1),m 7 44,m 8 45] [5,7]) Tg
abbrev Te:AK:=.seq (.aa [m 37 2,.ao (some 38) false 66038 246 [(.t 37)],m 36 38,.v 39 (.ext (.t 36) 0),.v 40 (.ext (.t 36) 1),m 5 39,m 6 40] [3,5]) Tf
abbrev SR:AK:=.aa [bi 35 .add 30 1,m 30 35] [2,3,30]
abbrev SU:AK:=.aa [m 32 3,.eff 33 false 66033 (.cm 1 [(ci 5)]),.eff 34 false 66034 (.app 1 8 (.t 32) (.t 33)),m 3 34] [2,3,30]
abbrev SQ:AK:=.seq (.block 4 SU) SR
abbrev SP:AK:=.seq (.cond (.t 31) .skip (.exit 3)) SQ
abbrev Tj:AK:=.seq (.aa [bi 31 .lss 30 32] [2,3,30,31]) SP
abbrev Tk:AK:=.loop Tj
abbrev Th:AK:=.seq (.aa [k 30 (ci 0)] [2,3,30]) (.block 3 Tk)
abbrev S9:AK:=.seq Th Te
abbrev S4:AK:=.aa [bi 29 .add 9 1,m 9 29] [2,3,9]
abbrev S7:AK:=.aa [m 20 2,.eff 21 false 66021 (.cm 1 [(ci 8)]),.eff 22 false 66022 (.app 1 8 (.t 20) (.t 21)),m 2 22] [2,3,9]
abbrev Ta:AK:=.aa [m 26 2,.eff 27 false 66027 (.cm 1 [(ci 9)]),.eff 28 false 66028 (.app 1 8 (.t 26) (.t 27)),m 2 28] [2,3,9]
abbrev Tb:AK:=.aa [m 12 2,.eff 13 false 66013 (.cm 1 [(ci 7)]),.eff 14 false 66014 (.app 1 8 (.t 12) (.t 13)),m 2 14] [2,3,9]
abbrev S8:AK:=.seq (.aa [m 24 4,bi 25 .lss 24 256,m 23 25] [2,3,9,23]) (.cond (.t 23) Ta Tb)
abbrev Td:AK:=.aa [m 18 4,bi 19 .geq 18 280,m 15 19] [2,3,4,9,15]
abbrev Tc:AK:=.seq (.aa [m 16 4,bi 17 .lss 16 144,m 15 17] [2,3,4,9,15]) (.cond (.t 15) .skip Td)
def S6:AK:=.seq Tc (.bq (.cond (.t 15) S7 S8))
abbrev S5:AK:=.seq (.aa [m 11 9,m 4 11] [2,3,4,9]) (.block 2 S6)
abbrev S0:AK:=.seq (.block 1 S5) S4
abbrev SY:AK:=.seq (.cond (.t 10) .skip (.exit 0)) S0
abbrev SX:AK:=.seq (.aa [bi 10 .lss 9 288] [2,3,9,10]) SY
abbrev Tl:AK:=.loop SX
abbrev SV:AK:=.seq (.aa [k 9 (ci 0)] [2,3,9]) (.block 0 Tl)
abbrev SZ:AK:=.seq SV S9
abbrev SO:AK:=.seq (.aa [k 2 (.c (.aq)),k 3 (.c (.aq))] [2,3]) SZ
abbrev SN:AK:=.seq (.aa [k 0 (.c (.lit (.pointer none))),k 1 (.c (.lit (.pointer none)))] []) SO
abbrev zc:AK:=SN
theorem Tm:aD Tryz.prog 232 66000 0 zc [.tmp 0,.tmp 1]:=⟨_,Tryz.func232,by kernel_rfl⟩
theorem Tp {h Post} (hp:aI Tryz.prog zc [.tmp 0,.tmp 1] 0 [] h Post):Eng.Spec Tryz.prog 232 h [] Post:=aK Tm rfl [] trivial hp
abbrev T9:AK:=.seq (.aa [.v 1 (.bD [.int .i64 0,.int .i64 0,.int .i64 0,.int .i64 0,.int .i64 0,.int .i64 0,.int .i64 0,.int .i64 0,.int .i64 0,.int .i64 0,.int .i64 0,.int .i64 0,.int .i64 0,.int .i64 0,.int .i64 0,.int .i64 0,.int .i64 0,.int .i64 0,.int .i64 0] [(0,1,(ci 16)),(1,1,(ci 17)),(2,1,(ci 18)),(3,1,(ci 0)),(4,1,(ci 8)),(5,1,(ci 7)),(6,1,(ci 9)),(7,1,(ci 6)),(8,1,(ci 10)),(9,1,(ci 5)),(10,1,(ci 11)),(11,1,(ci 4)),(12,1,(ci 12)),(13,1,(ci 3)),(14,1,(ci 13)),(15,1,(ci 2)),(16,1,(ci 14)),(17,1,(ci 1)),(18,1,(ci 15))]),.an false 67000 (.st 19 (.t 0) (.t 1))] [0]) .ret
abbrev T8:AK:=.seq (.aa [.eff 0 false 67000 (.alloc [.int .i64 0,.int .i64 0,.int .i64 0,.int .i64 0,.int .i64 0,.int .i64 0,.int .i64 0,.int .i64 0,.int .i64 0,.int .i64 0,.int .i64 0,.int .i64 0,.int .i64 0,.int .i64 0,.int .i64 0,.int .i64 0,.int .i64 0,.int .i64 0,.int .i64 0])] [0]) T9
abbrev zi:AK:=T8
theorem Ua:aD Tryz.prog 247 67000 0 zi [.cell 0 true 19]:=⟨_,Tryz.func247,by kernel_rfl⟩
theorem Uc {h Post} (hp:aI Tryz.prog zi [.cell 0 true 19] 0 [] h Post):Eng.Spec Tryz.prog 247 h [] Post:=aK Ua rfl [] trivial hp
abbrev Tw:AK:=.seq (.aa [m 14 0,bi 15 .rem 14 4,.v 16 (.bin .add (ci 4) (.t 15)),m 17 4,b 18 .shl 16 17,.v 19 (.bin .add (ci 3) (.t 18)),m 20 4,m 2 19,m 3 20] [2,3]) .ret
abbrev Tv:AK:=.seq (.aa [m 11 0,bi 12 .quo 11 4,bi 13 .sub 12 1,m 4 13] [0,4]) Tw
abbrev Ty:AK:=.seq (.aa [m 9 0,.v 10 (.bin .add (ci 3) (.t 9)),m 2 10,k 3 (ci 0)] [2,3]) .ret
abbrev Tx:AK:=.seq (.aa [m 7 0,bi 8 .lss 7 8] [0,8]) (.cond (.t 8) Ty .skip)
abbrev Tu:AK:=.seq Tx Tv
abbrev Tt:AK:=.seq (.aa [k 2 (ci 258),k 3 (ci 0)] [2,3]) .ret
abbrev Tz:AK:=.seq (.aa [m 5 0,bi 6 .eql 5 28] [0,6]) (.cond (.t 6) Tt .skip)
abbrev Ts:AK:=.seq Tz Tu
abbrev Tr:AK:=.seq (.aa [k 2 (ci 0),k 3 (ci 0)] [0]) Ts
abbrev zd:AK:=Tr
theorem TA:aD Tryz.prog 248 68000 1 zd [.tmp 2,.tmp 3]:=⟨_,Tryz.func248,by kernel_rfl⟩
theorem TD {h a0 Post} (hp:aI Tryz.prog zd [.tmp 2,.tmp 3] 1 [(0,a0)] h Post):Eng.Spec Tryz.prog 248 h [a0] Post:=aK TA rfl [(0,a0)] ⟨rfl,trivial⟩ hp
abbrev Sx:AK:=.seq (.aa [m 12 0,bi 13 .rem 12 2,.v 14 (.bin .add (ci 2) (.t 13)),m 15 4,b 16 .shl 14 15,.v 17 (.bin .add (ci 1) (.t 16)),m 18 4,m 2 17,m 3 18] [2,3]) .ret
abbrev Sw:AK:=.seq (.aa [m 9 0,bi 10 .quo 9 2,bi 11 .sub 10 1,m 4 11] [0,4]) Sx
abbrev Sz:AK:=.seq (.aa [m 7 0,.v 8 (.bin .add (ci 1) (.t 7)),m 2 8,k 3 (ci 0)] [2,3]) .ret
abbrev Sy:AK:=.seq (.aa [m 5 0,bi 6 .lss 5 4] [0,6]) (.cond (.t 6) Sz .skip)
abbrev Su:AK:=.seq Sy Sw
abbrev Ss:AK:=.seq (.aa [k 2 (ci 0),k 3 (ci 0)] [0]) Su
abbrev za:AK:=Ss
theorem SA:aD Tryz.prog 249 69000 1 za [.tmp 2,.tmp 3]:=⟨_,Tryz.func249,by kernel_rfl⟩
theorem SC {h a0 Post} (hp:aI Tryz.prog za [.tmp 2,.tmp 3] 1 [(0,a0)] h Post):Eng.Spec Tryz.prog 249 h [a0] Post:=aK SA rfl [(0,a0)] ⟨rfl,trivial⟩ hp
abbrev OU:AK:=.seq (.aa [m 21 3,m 2 21] [2]) .ret
abbrev OZ:AK:=.aa [bi 20 .add 8 1,m 8 20] [0,3,7,8]
abbrev OS:AK:=.aa [m 11 3,m 12 0,m 13 4,.v 14 (.cI (.t 12) (.t 13)),.v 15 (.bh .u64 (.t 14)),m 16 4,.v 17 (.bin .mul (ci 8) (.t 16)),b 18 .shl 15 17,b 19 .or 11 18,m 3 19] [0,3,7,8]
abbrev OQ:AK:=.seq (.aa [m 10 8,m 4 10] [0,3,4,7,8]) OS
abbrev OY:AK:=.seq (.block 1 OQ) OZ
abbrev OX:AK:=.seq (.cond (.t 9) .skip (.exit 0)) OY
abbrev OW:AK:=.seq (.aa [b 9 .lss 8 7] [0,3,7,8,9]) OX
abbrev O0:AK:=.loop OW
abbrev OV:AK:=.seq (.aa [m 5 0,.v 6 (.len true (.t 5)),.v 7 (.mm false (.t 6) (ci 8)),k 8 (ci 0)] [0,3,7,8]) (.block 0 O0)
abbrev OT:AK:=.seq OV OU
abbrev OP:AK:=.seq (.aa [k 3 (.c (.int .u64 0))] [0,3]) OT
abbrev OO:AK:=.seq (.aa [k 2 (.c (.int .u64 0))] [0]) OP
abbrev yt:AK:=OO
theorem O1:aD Tryz.prog 244 80000 1 yt [.tmp 2]:=⟨_,Tryz.func244,by kernel_rfl⟩
theorem O2 {h a0 Post} (hp:aI Tryz.prog yt [.tmp 2] 1 [(0,a0)] h Post):Eng.Spec Tryz.prog 244 h [a0] Post:=aK O1 rfl [(0,a0)] ⟨rfl,trivial⟩ hp
end Go.Proofs.YtoalcafkffmiiaaGreatDoor.Cod
namespace Go.Proofs.YtoalcafkffmiiaaGreatDoor.Pk
open Eng
set_option maxRecDepth 10000
def Dt:Nat:=79038
def Dq:Nat:=73035
attribute [go_sem] Dt Dq
theorem Bw (t:Bs) (most n:Nat) (S:SS):rawS t most (n+1) S=if S.err≠0 then S else rawS t most n (fb most (UInt8.ofNat (bM t 8 S).1) (bM t 8 S).2):=rfl
open Eng
set_option maxRecDepth 10000
def dN (f:Nat→Nat) (n:Nat):List Nat:=(List.range n).map f
theorem CT (f:Nat→Nat) (n:Nat):(dN f n).length=n:=by simp[dN]
theorem CU (f:Nat→Nat) (n:Nat):dN f (n+1)=dN f n++[f n]:=by simp[dN,List.range_succ]
theorem CV (f:Nat→Nat):dN f 0=[]:=(rfl)
theorem jV {xs:List Nat}:aG (aR xs) 0 xs.length=aR xs:=by simp[aG,aR,List.take_of_length_le]
def fixF (i:Nat):Nat:=if 256≤i∧i<280 then 7 else if 144≤i∧i<256 then 9 else 8
theorem NV:dN fixF 288=gj:=by decide +kernel
theorem NU:dN (fun _=>5) 32=gi:=by decide +kernel
theorem kJ:(∀n∈gj,n≤15)∧gj.length=288∧bK gj=true:=by decide +kernel
theorem kH:(∀n∈gi,n≤15)∧gi.length=32∧bK gi=true:=by decide +kernel
theorem Cz {l:List Nat} (h:∀n∈l,n≤15) (k:Nat):∀n∈l.take k,n≤15:=fun n hn=>h n (List.mem_of_mem_take hn)
theorem xA {l:List Nat} (h:∀n∈l,n≤15) (k:Nat):∀n∈l.drop k,n≤15:=fun n hn=>h n (List.mem_of_mem_drop hn)
theorem tL (t:Bs) (fl:List Nat) (N k:Nat) (l:List Nat) (S:SS):gT t fl N (k+1) l S=if N≤l.length∨S.err≠0 then(l,S)else
    if(dx N l (dy t l (bP t fl S).1 (bP t fl S).2)).err≠0 then(l,dx N l (dy t l (bP t fl S).1 (bP t fl S).2))
    else gT t fl N k (l++List.replicate (dy t l (bP t fl S).1 (bP t fl S).2).1 (dy t l (bP t fl S).1 (bP t fl S).2).2.1) (dx N l (dy t l (bP t fl S).1 (bP t fl S).2)):=rfl
theorem abn (l:List Nat) (k x:Nat):aR (l++List.replicate k x)++[.int .i64 (x:Int)]=aR (l++List.replicate (k+1) x):=by
 rw[kX,List.append_assoc,←List.replicate_succ']
def ns (t:Bs) (nl nd:Nat) (b:List Nat×SS):(List Nat×List Nat)×SS:=
 if b.2.err≠0 then(([],[]),b.2)else
 if b.1.getD 256 0=0∨bK (b.1.take nl)=false∨bK (b.1.drop nl)=false then(([],[]),{b.2 with err:=3})else((b.1.take nl,b.1.drop nl),b.2)
def lV (t:Bs) (nl nd:Nat) (a:List Nat×SS):(List Nat×List Nat)×SS:=
 if a.2.err≠0 then(([],[]),a.2)else if bK a.1=false then(([],[]),{a.2 with err:=3})else ns t nl nd (gT t a.1 (nl+nd) (nl+nd) [] a.2)
theorem xK (t:Bs) (S:SS):eD t S=if 8*t.length<S.p+14 then(([],[]),{S with err:=6})else if 286<numAt t S.p 5+257∨30<numAt t (S.p+5) 5+1 then(([],[]),{S with p:=S.p+14,err:=3})else
    lV t (numAt t S.p 5+257) (numAt t (S.p+5) 5+1) (firstS t (numAt t (S.p+10) 4+4) (numAt t (S.p+10) 4+4) (List.replicate 19 0) {S with p:=S.p+14}):=rfl
theorem sS (t:Bs) (nc k:Nat) (l:List Nat) (S:SS):firstS t nc (k+1) l S=if S.err≠0 then(l,S)else firstS t nc k (l.set (fS.getD (nc-(k+1)) 0) (bM t 3 S).1) (bM t 3 S).2:=rfl
theorem NT (t:Bs) (nc k:Nat) (l:List Nat) (S:SS) (h:S.err≠0):firstS t nc k l S=(l,S):=by
 cases k with
 | zero=>rfl
 | succ k=>rw[sS,if_pos h]
theorem ag3:∀j,j<19→fS.getD j 0<19:=by decide
theorem abo {l:List Nat} {i x:Nat}:(aR l).set i (.int .i64 (x:Int))=aR (l.set i x):=by simp[aR,List.map_set]
def eL:Nat:=65032
def rB:Nat:=60022
attribute [go_sem] eL rB
def aN (s:Bs) (o most a hv:Nat) (out:Bs):HP:=[(eL,.var [.ab RD 0,.sl rB 0 out.length,.int .i64 most]),(rB,.arr 1 (out.map ub)),(RD,.var (aP s a hv o))]
theorem oh {p:Prop} (h:p:=by simp(disch:=first | omega | (simp only[Lx];omega))only[go_sem,simprocAttr,aN,aP,ba]):p:=h
theorem va {a b:Prop} (k:b) (h:b→a:=by intro h;simp(disch:=first | omega | (simp only[Lx];omega))only[go_sem,simprocAttr,aN,aP,ba];exact h):a:=h k
theorem rj {E0:Prop} {p:Prop} (e0:E0) (h:E0→p:=by intro e0;simp(disch:=first | omega | (simp only[Lx];omega))only[go_sem,simprocAttr,aN,aP,ba,e0]):p:=h e0
theorem bl {p:Prop} (h:p:=by simp(disch:=first | omega | (simp only[Lx];omega))only[go_sem,simprocAttr,aN,aP]):p:=h
theorem jC {a b:Prop} (k:b) (h:b→a:=by intro h;simp(disch:=first | omega | (simp only[Lx];omega))only[go_sem,simprocAttr,aN,aP];exact h):a:=h k
theorem CX {E0:Prop} {p:Prop} (e0:E0) (h:E0→p:=by intro e0;simp(disch:=first | omega | (simp only[Lx];omega))only[go_sem,simprocAttr,aN,aP,e0]):p:=h e0
theorem vd {E0:Prop} {a b:Prop} (e0:E0) (k:b) (h:E0→b→a:=by intro e0 h;simp(disch:=first | omega | (simp only[Lx];omega))only[go_sem,simprocAttr,aN,aP,e0];exact h):a:=h e0 k
theorem vVJ {p:Prop} (h:p:=by simp(disch:=first | omega | (simp only[Lx];omega))only[go_sem,simprocAttr,aN]):p:=h
theorem ib {a b:Prop} (k:b) (h:b→a:=by intro h;simp(disch:=first | omega | (simp only[Lx];omega))only[go_sem,simprocAttr,aN];exact h):a:=h k
theorem ve {E0 E1:Prop} {a b:Prop} (e0:E0) (e1:E1) (k:b) (h:E0→E1→b→a:=by intro e0 e1 h;simp(disch:=first | omega | (simp only[Lx];omega))only[go_sem,simprocAttr,aN,e0,e1];exact h):a:=h e0 e1 k
theorem zk (s:Bs) (o most a hv:Nat) (out:Bs) (hm:most≤1000000) (ho:out.length≤most) (c:UInt8):Eng.Spec Tryz.prog 235 (aN s o most a hv out) [.ab eL 0,.int .u8 (c.toNat:Int)]
    (fun h' v ar=>h'=aN s o most a hv (if out.length=most then out else out++[c])∧v=.int .i64 (if out.length=most then 2 else 0:Nat)∧ar=[.ab eL 0,.int .u8 (c.toNat:Int)]):=by
 refine Cod.Uk (fun E R hN hR=>?_)
 have hc:=c.toNat_lt
 by_cases hf:out.length=most
 ·rw[if_pos hf,if_pos hf]at hR
  refine jC ?_
  refine gG ?_
  exact hR.le bl ⟨rfl,rfl,rfl⟩
 ·rw[if_neg hf,if_neg hf]at hR
  refine jC ?_
  refine gG ?_
  refine hR.le ?_ ⟨rfl,rfl,rfl⟩
  refine jC ?_
  rw[UInt8.ofNat_toNat]
theorem Zy:∀i:Nat,i<28→8≤i→IntKind.i64.wrap (3+IntKind.i64.wrap ((4+(i:Int)%4)*2^min ((i:Int)/4-1).toNat 64))=((3+(4+i%4)*2^(i/4-1):Nat):Int)∧(i:Int)/4-1=((i/4-1:Nat):Int):=by decide +kernel
theorem LY:∀i:Nat,i<30→4≤i→IntKind.i64.wrap (1+IntKind.i64.wrap ((2+(i:Int)%2)*2^min ((i:Int)/2-1).toNat 64))=((1+(2+i%2)*2^(i/2-1):Nat):Int)∧(i:Int)/2-1=((i/2-1:Nat):Int):=by decide +kernel
theorem TC (i:Nat) (hi:i≤28):aO Tryz.prog 248 [.int .i64 i] (.ai [.int .i64 ((cW i).1:Nat),.int .i64 ((cW i).2:Nat)]):=by
 refine Cod.TD (fun E R hN hR=>?_)
 by_cases h28:i=28
 ·subst h28
  refine wW ?_
  exact hR.le vV ⟨rfl,rfl⟩
 ·by_cases h8:i<8
  ·have e:cW i=(3+i,0):=by unfold cW;rw[if_neg h28,if_pos h8]
   rw[e]at hR
   refine wW ?_
   refine gG ?_
   exact hR.le vV ⟨rfl,rfl⟩
  ·have e:cW i=(3+(4+i%4)*2^(i/4-1),i/4-1):=by unfold cW;rw[if_neg h28,if_neg h8]
   rw[e]at hR
   refine wW ?_
   refine gG ?_
   obtain⟨w1,w2⟩:=Zy i (by omega) (by omega)
   rw[w1,w2]
   exact hR.le vV ⟨rfl,rfl⟩
theorem SB (i:Nat) (hi:i≤29):aO Tryz.prog 249 [.int .i64 i] (.ai [.int .i64 ((fq i).1:Nat),.int .i64 ((fq i).2:Nat)]):=by
 refine Cod.SC (fun E R hN hR=>?_)
 by_cases h4:i<4
 ·have e:fq i=(1+i,0):=by unfold fq;rw[if_pos h4]
  rw[e]at hR
  refine wW ?_
  refine gG ?_
  exact hR.le vV ⟨rfl,rfl⟩
 ·have e:fq i=(1+(2+i%2)*2^(i/2-1),i/2-1):=by unfold fq;rw[if_neg h4]
  rw[e]at hR
  refine wW ?_
  refine gG ?_
  obtain⟨w1,w2⟩:=LY i (by omega) (by omega)
  rw[w1,w2]
  exact hR.le vV ⟨rfl,rfl⟩
def PI (s:Bs) (o most:Nat) (F:SS) (h':HP) (v:AV):Prop:=
 ∃a' hv' out',h'=aN s o most a' hv' out'∧v=.int .i64 (F.err:Nat)∧(F.err=0→out'=F.out∧bA s a' hv' (8*o+F.p))
theorem iO {s:Bs} {o most:Nat} {F:SS} {h':HP} {v:AV} (h:∃a' hv' S',h'=aN s o most a' hv' S'.out∧bA s a' hv' (8*o+S'.p)∧S'.out.length≤most∧v=.int .i64 (F.err:Nat)∧(F.err=0→S'=F)):PI s o most F h' v:=by
 obtain⟨a',hv',S',h1,h2,_,h4,h5⟩:=h
 exact⟨a',hv',S'.out,h1,h4,fun he=>by obtain rfl:=h5 he;exact⟨rfl,h2⟩⟩
theorem tJ (s:Bs) (o p:Nat):cM s (8*o+p)=8*(s.drop o).length-p:=by unfold cM;rw[List.length_drop];omega
theorem xD (s:Bs) (q:Nat) (h:q+2≤s.length):(s.drop q).take 2=[s.getD q 0,s.getD (q+1) 0]:=by
 have h1:q<s.length:=by omega
 have h2:q+1<s.length:=by omega
 rw[List.drop_eq_getElem_cons h1,List.drop_eq_getElem_cons h2,List.getD_eq_getElem?_getD,List.getD_eq_getElem?_getD,List.getElem?_eq_getElem h1,List.getElem?_eq_getElem h2]
 rfl
theorem zR (x y:UInt8):aO Tryz.prog 244 [.str [x,y]] (.int .u64 ((x.toNat+y.toNat*2^8:Nat):Int)):=by
 refine Cod.O2 (fun E R hN hR=>?_)
 have hx:=x.toNat_lt
 have hy:=y.toNat_lt
 refine wW ?_
 refine bm hN (fun i:Nat=>⟨[(0,.str [x,y]),(3,.int .u64 (if i=0 then 0 else if i=1 then x.toNat else x.toNat+y.toNat*2^8:Nat)),(7,.int .i64 2),(8,.int .i64 i)],[]⟩) (fun i=>i≤2) (fun i=>2-i) 0 (.le vV) (by omega) ?_
 rintro i R1 hi hR1
 obtain rfl | rfl | rfl:i=0∨i=1∨i=2:=by omega
 ·have e0:bits .or .u64 0 (IntKind.u64.wrap ((x.toNat:Int)*2^min 0 64))=((x.toNat:Nat):Int):=(ua (x:=0) (k:=0) (b:=x.toNat) (by decide) (by decide) hx).trans (by rw[Nat.zero_add,Nat.pow_zero,Nat.mul_one])
  refine aw e0 ?_
  exact hR1 1 _ (by omega) (by omega) (.le vV)
 ·have e1:bits .or .u64 (x.toNat:Int) (IntKind.u64.wrap ((y.toNat:Int)*2^min 8 64))=((x.toNat+y.toNat*2^8:Nat):Int):=ua (k:=8) hx (by decide) hy
  refine aw e1 ?_
  exact hR1 2 _ (by omega) (by omega) (.le vV)
 ·refine wW ?_
  exact hR.le vV ⟨rfl,rfl⟩
theorem nJ (t:Bs) (most:Nat) {S:SS} (h:S.err≠0):∀n,rawS t most n S=S
 | 0=>rfl
 | n+1=>by rw[Bw,if_pos h]
theorem Bv (t:Bs) (most:Nat):∀(n:Nat) (S:SS) (q:Nat),S.err=0→S.p=8*q→q≤t.length→S.out.length≤most →
    (rawS t most n S).err=(if most<S.out.length+min n (t.length-q)then 2 else if t.length<q+n then 6 else 0)∧((rawS t most n S).err=0→rawS t most n S=⟨8*(q+n),S.out++(t.drop q).take n,0⟩)
 | 0,S,q,he,hp,hq,ho=>by
  refine⟨?_,fun _=>?_⟩
  ·rw[if_neg (by omega),if_neg (by omega)];exact he
  ·obtain⟨p,out,err⟩:=S
   simp only at he hp
   subst he hp
   simp[rawS]
 | n+1,S,q,he,hp,hq,ho=>by
  rw[Bw,if_neg (by simpa using he)]
  by_cases hq1:q=t.length
  ·have hn:=kZ (n:=8) he (t:=t) (by omega)
   rw[hn]
   have hput:fb most (UInt8.ofNat (0,{S with err:=6}).1) (0,{S with err:=6}).2={S with err:=6}:=if_pos (by simp)
   rw[hput,nJ _ _ (by simp)]
   refine⟨?_,fun h=>absurd h (by simp)⟩
   rw[if_neg (by omega),if_pos (by omega)]
  ·have hn:=jn (n:=8) he (t:=t) (by omega)
   rw[hn]
   simp only
   rw[hp,qs,UInt8.ofNat_toNat]
   unfold fb
   rw[if_neg (by simpa using he)]
   by_cases hf:most≤S.out.length
   ·simp only[if_pos hf]
    rw[nJ _ _ (by simp)]
    refine⟨?_,fun h=>absurd h (by simp)⟩
    rw[if_pos (by omega)]
   ·simp only[if_neg hf]
    obtain⟨h1,h2⟩:=Bv t most n {p:=8*q+8,out:=S.out++[t.getD q 0],err:=S.err} (q+1) he (by simp only;omega) (by omega) (by simp only[List.length_append,List.length_singleton];omega)
    refine⟨?_,fun h=>?_⟩
    ·rw[h1]
     simp only[List.length_append,List.length_singleton]
     rw[show S.out.length+1+min n (t.length-(q+1))=S.out.length+min (n+1) (t.length-q)by omega,show q+1+n=q+(n+1)by omega]
    ·rw[h2 h]
     have hlt:q<t.length:=by omega
     rw[List.drop_eq_getElem_cons hlt,List.take_succ_cons,List.getD_eq_getElem?_getD,List.getElem?_eq_getElem hlt,show q+1+n=q+(n+1)by omega]
     simp
theorem amm (t:Bs) (most:Nat) (S:SS) (he:S.err=0) (hp:S.p≤8*t.length) (ho:S.out.length≤most) (q:Nat) (hq:dq S.p=8*q) :
    if t.length<q+4 then(fH t most S).err=6 else
     if(t.getD q 0).toNat+(t.getD (q+1) 0).toNat*2^8+((t.getD (q+2) 0).toNat+(t.getD (q+3) 0).toNat*2^8)≠65535 then(fH t most S).err=3 else
     (fH t most S).err=(if most<S.out.length+min ((t.getD q 0).toNat+(t.getD (q+1) 0).toNat*2^8) (t.length-(q+4))then 2 else if t.length<q+4+((t.getD q 0).toNat+(t.getD (q+1) 0).toNat*2^8)then 6 else 0) ∧
     ((fH t most S).err=0→fH t most S=⟨8*(q+4+((t.getD q 0).toNat+(t.getD (q+1) 0).toNat*2^8)),S.out++(t.drop (q+4)).take ((t.getD q 0).toNat+(t.getD (q+1) 0).toNat*2^8),0⟩):=by
 have hn16:∀i,numAt t (8*i) 16=(t.getD i 0).toNat+(t.getD (i+1) 0).toNat*2^8:=by
  intro i
  rw[show(16:Nat)=8+8 from rfl,abL,qs,show 8*i+8=8*(i+1)by omega,qs]
 have hup:lr S={S with p:=8*q}:=by unfold lr;unfold dq at hq;rw[hq]
 have hq2:q≤t.length:=by unfold dq at hq;omega
 unfold fH
 simp only
 rw[hup]
 by_cases h4:t.length<q+4
 ·rw[if_pos h4]
  by_cases h2:t.length<q+2
  ·rw[kZ (by exact he) (by simp only;omega)]
   simp only
   rw[abI (by simp)]
   simp only
   rw[if_pos (by decide)]
   rw[nJ _ _ (x5 (by decide))]
   rfl
  ·rw[jn (by exact he) (by simp only;omega)]
   simp only
   rw[kZ (by exact he) (by simp only;omega)]
   simp only
   have hfe:eP 3 {p:=8*q+16,out:=S.out,err:=6}=({p:=8*q+16,out:=S.out,err:=6}:SS):=if_neg (by simp)
   rw[hfe,ite_self,nJ _ _ (by simp)]
 ·rw[if_neg h4]
  rw[jn (by exact he) (by simp only;omega)]
  simp only
  rw[jn (by exact he) (by simp only;omega)]
  simp only
  rw[show 8*q+16=8*(q+2)by omega,hn16,hn16]
  by_cases hx:(t.getD q 0).toNat+(t.getD (q+1) 0).toNat*2^8+((t.getD (q+2) 0).toNat+(t.getD (q+2+1) 0).toNat*2^8)≠65535
  ·rw[if_pos hx,if_pos hx,nJ _ _ (x5 (by decide)),kG (by exact he)]
  ·rw[if_neg hx,if_neg hx]
   exact Bv t most _ _ (q+4) he (by simp only;omega) (by omega) ho
theorem ajy (s:Bs) (a hv fr p:Nat) (hs:s.length≤1000000000000) (h:bA s a hv p) (hfr:8*fr≤p):Eng.Spec Tryz.prog 216 [] [.aA (.agg (aP s a hv fr))] (fun h' v ar=>h'=[]∧v=.int .i64 ((p+7)/8-fr:Nat)∧ar=[.aA (.agg (aP s a hv fr))]):=by
 refine Cod.ajA (fun E R hN hR=>?_)
 obtain⟨h1,h2,h3⟩:=h
 have eq:(hv:Int).tdiv 8=((hv/8:Nat):Int):=by rw[uW (by omega)];omega
 have e2:(a:Int)-((hv/8:Nat):Int)-(fr:Int)=(((p+7)/8-fr:Nat):Int):=by omega
 refine vf eq e2 ?_
 exact hR.le vV ⟨rfl,rfl,rfl⟩
theorem aiG (s:Bs) (a hv fr p:Nat) (hs:s.length≤1000000000000) (h:bA s a hv p):Eng.Spec Tryz.prog 245 [] [.aA (.agg (aP s a hv fr))] (fun h' v ar=>h'=[]∧v=.int .i64 (cM s p:Nat)∧ar=[.aA (.agg (aP s a hv fr))]):=by
 refine Cod.aiI (fun E R hN hR=>?_)
 obtain⟨h1,h2,h3⟩:=h
 have e2:8*((s.length:Int)-(a:Int))+(hv:Int)=((cM s p:Nat):Int):=by unfold cM;omega
 refine aox e2 ?_
 exact hR.le vV ⟨rfl,rfl,rfl⟩
theorem amU (s:Bs) (q:Nat) (h:q+4≤s.length):(s.drop q).take 4=[s.getD q 0,s.getD (q+1) 0,s.getD (q+2) 0,s.getD (q+3) 0]:=by
 have e:(s.drop q).take 4=(s.drop q).take 2++(s.drop (q+2)).take 2:=by rw[show(4:Nat)=2+2 from rfl,List.take_add,List.drop_drop]
 rw[e,xD s q (by omega),xD s (q+2) (by omega)]
 rfl
theorem apJ {n:Nat} (h:n<65536):n ^^^ 65535=65535-n:=by
 have h1:(BitVec.ofNat 16 n ^^^ BitVec.allOnes 16).toNat=(~~~ (BitVec.ofNat 16 n)).toNat:=by rw[BitVec.xor_allOnes]
 rw[BitVec.toNat_xor,BitVec.toNat_not,BitVec.toNat_ofNat,BitVec.toNat_allOnes,Nat.mod_eq_of_lt (by omega)]at h1
 omega
set_option maxHeartbeats 1000000 in
theorem Wa (s:Bs) (o most a hv:Nat) (S:SS) (hs:s.length≤1000000000) (ho:o≤s.length) (hm:most≤1000000) (hr:bA s a hv (8*o+S.p)) (hol:S.out.length≤most) (he:S.err=0) :
    Eng.Spec Tryz.prog 231 (aN s o most a hv S.out) [.ab eL 0] (fun h' v ar=>PI s o most (fH (s.drop o) most S) h' v∧ar=[.ab eL 0]):=by
 refine Cod.Wb (fun E R hN hR=>?_)
 obtain⟨q,hq⟩:∃q,dq S.p=8*q:=⟨(S.p+7)/8,by unfold dq;omega⟩
 have hr':=hr
 obtain⟨r1,r2,r3⟩:=hr'
 have hpl:S.p≤8*(s.drop o).length:=by rw[List.length_drop];omega
 have hup:dq (8*o+S.p)=8*(o+q):=by unfold dq at hq ⊢;omega
 have hud:dq (8*o+S.p)/8=o+q:=by omega
 have law:=amm (s.drop o) most S he hpl hol q hq
 generalize fH (s.drop o) most S=F at *
 have gd:∀i,(s.drop o).getD i 0=s.getD (o+i) 0:=fun i=>by rw[List.getD_eq_getElem?_getD,List.getElem?_drop,←List.getD_eq_getElem?_getD]
 rw[gd,gd,gd,gd,List.length_drop,List.drop_drop]at law
 have hb:=um s a hv o (8*o+S.p) 4 (by omega) (by decide) hr
 rw[hud]at hb
 refine ib ?_
 refine bf [(RD,.var (aP s a hv o))] hb vV nofun ?_
 rintro h' v ar ⟨a1,hv1,hr1,hz1,rfl,rfl,rfl⟩
 by_cases h4:s.length<o+q+4
 ·rw[if_neg (by omega)]at hr1
  rw[if_neg (by omega),decide_eq_false (by omega)]
  rw[if_pos (by omega)]at law
  refine⟨bV,rfl,?_⟩
  refine ic ?_
  exact hR.le (h':=aN s o most a1 hv1 S.out) bl ⟨iO ⟨a1,hv1,{S with p:=8*q,err:=6},rfl,by simp only;rw[show 8*o+8*q=8*(o+q)by omega,←hup];exact hr1,hol,by rw[law];rfl,fun h=>absurd h (by rw[law];decide)⟩,rfl⟩
 ·rw[if_pos (by omega)]at hr1
  rw[if_pos (by omega),decide_eq_true (by omega),amU s (o+q) (by omega)]
  rw[if_neg (by omega)]at law
  generalize s.getD (o+q) 0=c0 at *
  generalize s.getD (o+(q+1)) 0=c1 at *
  generalize s.getD (o+(q+2)) 0=c2 at *
  generalize s.getD (o+(q+3)) 0=c3 at *
  have hc0:=c0.toNat_lt
  have hc1:=c1.toNat_lt
  have hc2:=c2.toNat_lt
  have hc3:=c3.toNat_lt
  have l1:=zR c0 c1
  have l2:=zR c2 c3
  generalize hn:c0.toNat+c1.toNat*2^8=n at *
  generalize hk:c2.toNat+c3.toNat*2^8=k at *
  have hn6:n<65536:=by omega
  have hk6:k<65536:=by omega
  refine⟨bV,rfl,?_⟩
  refine ic ?_
  refine aC l1 rfl rfl ?_
  refine wW ?_
  refine aC l2 rfl rfl ?_
  have ex:bits .xor .i64 (n:Int) 65535=((65535-n:Nat):Int):=by
   show IntKind.i64.wrap ((BitVec.ofInt 64 (n:Int) ^^^ BitVec.ofInt 64 ((65535:Nat):Int)).toNat:Int)=_
   rw[BitVec.ofInt_natCast,BitVec.ofInt_natCast,BitVec.toNat_xor,BitVec.toNat_ofNat,BitVec.toNat_ofNat,Nat.mod_eq_of_lt (by omega),Nat.mod_eq_of_lt (by decide),apJ hn6]
   exact eU (by omega)
  refine aw ex ?_
  by_cases hx:n+k≠65535
  ·rw[if_pos hx]at law
   have hne:¬((65535-n:Nat):Int)=(k:Int):=by omega
   refine aw hne ?_
   exact hR.le (h':=aN s o most a1 hv1 S.out) bl ⟨iO ⟨a1,hv1,{S with p:=8*(q+4),err:=3},rfl,by simp only;rw[hup]at hr1;rw[show 8*o+8*(q+4)=8*(o+q)+8*4 by omega];exact hr1,hol,by rw[law];rfl,fun h=>absurd h (by rw[law];decide)⟩,rfl⟩
  ·rw[if_neg hx]at law
   have heq:((65535-n:Nat):Int)=(k:Int):=by omega
   obtain⟨law1,law2⟩:=law
   have hr1':bA s a1 hv1 (8*(o+q+4)):=by rw[hup]at hr1;rw[show 8*(o+q+4)=8*(o+q)+8*4 by omega];exact hr1
   have hup1:dq (8*(o+q+4))=8*(o+q+4):=by unfold dq;omega
   have hb2:=um s a1 hv1 o (8*(o+q+4)) n (by omega) (by omega) hr1'
   rw[hup1,Nat.mul_div_cancel_left _ (by decide)]at hb2
   refine aw heq ?_
   refine bf [(RD,.var (aP s a1 hv1 o))] hb2 bV nofun ?_
   rintro h' v ar ⟨a2,hv2,hr2,hz2,rfl,rfl,rfl⟩
   have key:∀(ok:Bool) (x:Bs),ok=decide (n≤s.length-(o+q+4))→x=(if n≤s.length-(o+q+4)then(s.drop (o+q+4)).take n else[]) →
    vcW Tryz.prog E Cod.zy (KQ.post [RVar.tmp 2] 1 R) ⟨[(0,.ab 65032 0),(4,.bool ok),(6,.str x),(2000000,.ab 65032 0)],[(40014,.var (aP s a2 hv2 o)),(65032,.var [.ab 40014 0,.sl 60022 0 S.out.length,.int .i64 most]),(60022,.arr 1 (S.out.map ub))]⟩:=by
    intro ok x hok hv4
    refine fV hN (fun z:Nat×Nat=>⟨[(0,.ab eL 0),(4,.bool ok),(6,.str ((s.drop (o+q+4)).take n)),(2000000,.ab eL 0)],aN s o most z.1 z.2 S.out⟩) (fun z=>bA s z.1 z.2 (8*(o+q+4+min n (s.length-(o+q+4))))) (fun R2 hR2=>?_) (fun z hz=>?_)
    ·clear hR
     subst hok
     subst hv4
     by_cases hfit:n≤s.length-(o+q+4)
     ·rw[if_pos hfit]at hr2
      rw[if_pos hfit,decide_eq_true hfit]
      refine jC ?_
      refine hR2 (a2,hv2) _ (by simp only;rw[Nat.min_eq_left hfit,show 8*(o+q+4+n)=8*(o+q+4)+8*n by omega];exact hr2) (.le ?_)
      exact bl
     ·rw[if_neg hfit]at hr2
      rw[if_neg hfit,decide_eq_false hfit]
      have hlb:=aiG s a2 hv2 o _ (by omega) hr2
      have el:cM s (8*(o+q+4))/8=s.length-(o+q+4):=by unfold cM;omega
      have hb3:=um s a2 hv2 o _ (s.length-(o+q+4)) (by omega) (by omega) hr2
      rw[hup1,Nat.mul_div_cancel_left _ (by decide),if_pos (Nat.le_refl _)]at hb3
      generalize cM s (8*(o+q+4))=lb at *
      have elb:(lb:Int)/8=((s.length-(o+q+4):Nat):Int):=by omega
      simp only[aP]at hlb
      refine ic ?_
      refine gG ?_
      refine oY [] vV hlb trivial (fun _=>rfl) ?_
      rintro h' v ar ⟨rfl,rfl,rfl⟩
      refine⟨rfl,rfl,?_⟩
      refine aw elb ?_
      refine bf [(RD,.var (aP s a2 hv2 o))] hb3 bV nofun ?_
      rintro h' v ar ⟨a3,hv3,hr3,hz3,rfl,rfl,rfl⟩
      rw[if_pos (Nat.le_refl _),decide_eq_true (Nat.le_refl _)]
      have etk:(s.drop (o+q+4)).take (s.length-(o+q+4))=(s.drop (o+q+4)).take n:=by
       rw[List.take_of_length_le (by rw[List.length_drop];omega),List.take_of_length_le (by rw[List.length_drop];omega)]
      refine⟨bV,rfl,?_⟩
      refine ic ?_
      refine hR2 (a3,hv3) _ (by simp only;rw[Nat.min_eq_right (by omega),show 8*(o+q+4+(s.length-(o+q+4)))=8*(o+q+4)+8*(s.length-(o+q+4))by omega];exact hr3) (.le ?_)
      exact CX etk
    ·obtain⟨a3,hv3⟩:=z
     simp only at hz ⊢
     have hbl:((s.drop (o+q+4)).take n).length=min n (s.length-(o+q+4)):=by rw[List.length_take,List.length_drop]
     generalize hbb:(s.drop (o+q+4)).take n=b at *
     by_cases hbig:most-S.out.length<b.length
     ·have hbi:(most:Int)-(S.out.length:Int)<(b.length:Int):=by omega
      rw[if_pos (by omega)]at law1
      refine vd hbi ?_
      exact hR.le (h':=aN s o most a3 hv3 S.out) bl ⟨iO ⟨a3,hv3,{S with p:=8*(q+4+min n (s.length-(o+q+4))),err:=2},rfl,by simp only;rw[show 8*o+8*(q+4+min n (s.length-(o+q+4)))=8*(o+q+4+min n (s.length-(o+q+4)))by omega];exact hz,hol,by rw[law1];rfl,fun h=>absurd h (by rw[law1];decide)⟩,rfl⟩
     ·have hbi:¬(most:Int)-(S.out.length:Int)<(b.length:Int):=by omega
      rw[if_neg (by omega)]at law1
      by_cases hfit:n≤s.length-(o+q+4)
      ·rw[decide_eq_true hfit]at hok
       subst hok
       rw[if_neg (by omega)]at law1
       have law2:=law2 law1
       refine vd hbi ?_
       exact hR.le (h':=aN s o most a3 hv3 (S.out++b)) bl ⟨iO ⟨a3,hv3,F,by rw[law2],by rw[law2];simp only;rw[Nat.min_eq_left hfit]at hz;rw[show 8*o+8*(q+4+n)=8*(o+q+4+n)by omega];exact hz,by rw[law2];simp only[List.length_append];omega,by rw[law1];rfl,fun _=>rfl⟩,rfl⟩
      ·rw[decide_eq_false hfit]at hok
       subst hok
       rw[if_pos (by omega)]at law1
       refine vd hbi ?_
       exact hR.le (h':=aN s o most a3 hv3 (S.out++b)) bl ⟨iO ⟨a3,hv3,⟨8*(q+4+min n (s.length-(o+q+4))),S.out++b,6⟩,rfl,by simp only;rw[show 8*o+8*(q+4+min n (s.length-(o+q+4)))=8*(o+q+4+min n (s.length-(o+q+4)))by omega];exact hz,by simp only[List.length_append];omega,by rw[law1];rfl,fun h=>absurd h (by rw[law1];decide)⟩,rfl⟩
   by_cases hfit:n≤s.length-(o+q+4)
   ·have key:=key true _ (by rw[decide_eq_true hfit]) rfl
    rw[if_pos hfit]at key
    rw[if_pos hfit,decide_eq_true hfit]
    refine⟨bV,rfl,?_⟩
    simp only[aP]at key
    refine ic ?_
    exact key
   ·have key:=key false _ (by rw[decide_eq_false hfit]) rfl
    rw[if_neg hfit]at key
    rw[if_neg hfit,decide_eq_false hfit]
    refine⟨bV,rfl,?_⟩
    simp only[aP]at key
    refine ic ?_
    exact key
theorem vT (most back n:Nat) (S:SS):backS most back (n+1) S=if S.err≠0 then S else backS most back n (fb most (S.out.getD (S.out.length-back) 0) S):=rfl
theorem F8 (most back:Nat) {S:SS} (h:S.err≠0):∀n,backS most back n S=S
 | 0=>rfl
 | n+1=>by rw[vT,if_pos h]
theorem Zv:∀i,i≤28→(cW i).1≤300∧(cW i).2≤8:=by decide +kernel
theorem LX:∀i,i≤29→(fq i).1≤40000∧(fq i).2≤15∧1≤(fq i).1:=by decide +kernel
set_option maxHeartbeats 2000000 in
theorem UY (s:Bs) (o most a hv:Nat) (S:SS) (d:List Nat) (sy:Nat) (hs:s.length≤1000000000) (ho:o≤s.length) (hm:most≤1000000) (hr:bA s a hv (8*o+S.p)) (hol:S.out.length≤most) (he:S.err=0)
    (hd:∀n∈d,n≤15) (hdl:d.length≤320) (hdc:bK d=true) (hsy:257≤sy) (hsy2:sy≤400) :
    Eng.Spec Tryz.prog 236 (aN s o most a hv S.out) [.ab eL 0,.int .i64 sy,ba d] (fun h' v ar=>PI s o most (hU (s.drop o) most d sy S) h' v∧ar=[.ab eL 0,.int .i64 sy,ba d]):=by
 refine Cod.UZ (fun E R hN hR=>?_)
 have htl:(s.drop o).length=s.length-o:=List.length_drop
 by_cases h285:285<sy
 ·have hF:hU (s.drop o) most d sy S={S with err:=3}:=by unfold hU;rw[if_pos h285,kG he]
  rw[hF]at hR
  refine jC ?_
  refine gG ?_
  exact hR.le (h':=aN s o most a hv S.out) bl ⟨iO ⟨a,hv,S,rfl,hr,hol,rfl,fun h=>absurd h (by simp)⟩,rfl⟩
 ·have elen:(sy:Int)-257=((sy-257:Nat):Int):=by omega
  have hlt:=Zv (sy-257) (by omega)
  have hlenb:=TC (sy-257) (by omega)
  have hrep:hU (s.drop o) most d sy S=(let a:=bM (s.drop o) (cW (sy-257)).2 S
   let k:=bP (s.drop o) d a.2
   if k.2.err≠0 then k.2 else if 29<k.1 then eP 3 k.2 else
   let b:=bM (s.drop o) (fq k.1).2 k.2
   let back:=(fq k.1).1+b.1
   if b.2.err≠0 then b.2 else if b.2.out.length<back then eP 3 b.2 else backS most back ((cW (sy-257)).1+a.1) b.2):=by unfold hU;rw[if_neg h285]
  rw[hrep]at hR
  clear hrep
  simp only at hR
  generalize cW (sy-257)=lb at *
  simp(disch:=omega)only[go_sem,simprocAttr,aN,ba,elen]
  refine bW elen ?_
  refine aC hlenb rfl rfl ?_
  refine wW ?_
  have hbits:=qH s a hv o (8*o+S.p) lb.2 (by omega) hr (by omega)
  rw[tJ,←qt]at hbits
  refine bf [(RD,.var (aP s a hv o))] hbits vV nofun ?_
  rintro h' v ar ⟨a1,hv1,hr1,rfl,rfl,rfl⟩
  by_cases hf1:lb.2≤8*(s.drop o).length-S.p
  ·rw[if_pos hf1]at hr1
   rw[if_pos hf1,decide_eq_true hf1]
   have hpl:S.p+lb.2≤8*(s.drop o).length:=by have:=hr.h2;have:=hr.h3;omega
   rw[jn he hpl]at hR
   simp only at hR
   have hnl:=fQ (s.drop o) S.p lb.2
   have hn256:2^lb.2≤2^8:=Nat.pow_le_pow_right (by decide) hlt.2
   generalize numAt (s.drop o) S.p lb.2=x1 at *
   refine⟨bV,rfl,?_⟩
   have cT:=tf d hd hdl hdc s a1 hv1 o (8*o+S.p+lb.2) (by omega) hr1
   rw[Nat.add_assoc,←uv]at cT
   simp only[ba]at cT
   generalize hre:readL (bF d) (ck (s.drop o) (S.p+lb.2))=re at *
   refine wW ?_
   refine bf [(RD,.var (aP s a1 hv1 o))] cT vV nofun ?_
   rintro h' v ar ⟨a2,hv2,p2,k,hr2,rfl,rfl,hk,rfl⟩
   refine⟨bV,rfl,?_⟩
   by_cases hre2:re.2.2=0
   ·obtain⟨rfl,rfl⟩:=hk hre2
    have hsym:bP (s.drop o) d {S with p:=S.p+lb.2}=(re.1,{S with p:=S.p+lb.2+re.2.1}):=by rw[←hre];exact rb he (by rw[hre];exact hre2)
    rw[hsym]at hR
    simp only at hR
    rw[if_neg (by simpa using he)]at hR
    have hr2':bA s a2 hv2 (8*o+(S.p+lb.2+re.2.1)):=by rw[show 8*o+(S.p+lb.2+re.2.1)=8*o+(S.p+lb.2)+re.2.1 by omega];exact hr2
    generalize hp2:S.p+lb.2+re.2.1=p2 at *
    have hklt:re.1≤400:=by
     have:=nK (bF d) (ck (s.drop o) (S.p+lb.2)) (by rw[hre];exact hre2)
     rw[hre]at this
     have hcl:(bF d).length=d.length:=by simp[bF]
     omega
    generalize re.1=k at *
    by_cases h29:29<k
    ·rw[if_pos h29,kG (by exact he)]at hR
     refine aw hre2 ?_
     exact hR.le (h':=aN s o most a2 hv2 S.out) bl ⟨iO ⟨a2,hv2,{S with p:=p2},rfl,hr2',hol,rfl,fun h=>absurd h (by simp)⟩,rfl⟩
    ·rw[if_neg h29]at hR
     have hdt:=LX k (by omega)
     have hdb:=SB k (by omega)
     generalize fq k=db at *
     have hbits2:=qH s a2 hv2 o (8*o+p2) db.2 (by omega) hr2' (by omega)
     rw[tJ,←qt]at hbits2
     refine aw hre2 ?_
     refine aC hdb rfl rfl ?_
     refine wW ?_
     refine bf [(RD,.var (aP s a2 hv2 o))] hbits2 vV nofun ?_
     rintro h' v ar ⟨a3,hv3,hr3,rfl,rfl,rfl⟩
     by_cases hf2:db.2≤8*(s.drop o).length-p2
     ·rw[if_pos hf2]at hr3
      rw[if_pos hf2,decide_eq_true hf2]
      have hpl2:p2+db.2≤8*(s.drop o).length:=by have:=hr2'.h2;have:=hr2'.h3;omega
      rw[jn (by exact he) hpl2]at hR
      simp only at hR
      rw[if_neg (by simpa using he)]at hR
      have hn2:=fQ (s.drop o) p2 db.2
      have hn15:2^db.2≤2^15:=Nat.pow_le_pow_right (by decide) hdt.2.1
      generalize numAt (s.drop o) p2 db.2=x2 at *
      refine⟨bV,rfl,?_⟩
      refine wW ?_
      by_cases hbk:S.out.length<db.1+x2
      ·have hbi:(S.out.length:Int)<(db.1:Int)+(x2:Int):=by omega
       rw[if_pos (by exact hbk),kG (by exact he)]at hR
       refine aw hbi ?_
       exact hR.le (h':=aN s o most a3 hv3 S.out) bl ⟨iO ⟨a3,hv3,{S with p:=p2+db.2},rfl,by show bA s a3 hv3 (8*o+(p2+db.2));rw[←Nat.add_assoc];exact hr3,hol,rfl,fun h=>absurd h (by simp)⟩,rfl⟩
      ·have hbi:¬(S.out.length:Int)<(db.1:Int)+(x2:Int):=by omega
       rw[if_neg (by exact hbk)]at hR
       generalize hbb:db.1+x2=back at *
       have hb1:1≤back:=by omega
       have ebk:(db.1:Int)+(x2:Int)=(back:Int):=by omega
       have eln:(lb.1:Int)+(x1:Int)=((lb.1+x1:Nat):Int):=by omega
       have hln:lb.1+x1≤1000:=by omega
       rw[ebk,eln]
       generalize lb.1+x1=n at *
       rw[ebk]at hbi
       refine aw hbi ?_
       refine bm hN (fun z:Nat×Bs=>⟨[(0,.ab 65032 0),(13,.int .i64 back),(79,.int .i64 n),(80,.int .i64 z.1),(2000000,.ab 65032 0),(2000001,.int .i64 sy),(2000002,.aA (.agg (fU d)))],aN s o most a3 hv3 z.2⟩)
        (fun z=>z.1≤n∧z.2.length≤most∧back≤z.2.length∧backS most back (n-z.1) ⟨p2+db.2,z.2,S.err⟩=backS most back n ⟨p2+db.2,S.out,S.err⟩) (fun z=>n-z.1) (0,S.out) (.le bl) ⟨by simp,hol,by simp only;omega,rfl⟩ ?_
       rintro⟨j,out⟩ R1 ⟨hj,hjo,hjb,hjF⟩ hR1
       simp only at hj hjo hjb hjF
       by_cases hjn:j<n
       ·have ej:n-j=(n-j-1)+1:=by omega
        rw[ej,vT,if_neg (by simpa using he)]at hjF
        unfold fb at hjF
        rw[if_neg (by simpa using he)]at hjF
        simp only at hjF
        have eidx:(out.length:Int)-(back:Int)=((out.length-back:Nat):Int):=by omega
        generalize hcc:out.getD (out.length-back) 0=c at *
        have hput:=zk s o most a3 hv3 out hm hjo c
        refine jC ?_
        rw[hcc]
        refine bf (aN s o most a3 hv3 out) hput bl nofun ?_
        rintro h' v ar ⟨rfl,rfl,rfl⟩
        refine⟨bl,rfl,?_⟩
        by_cases hfull:out.length=most
        ·rw[if_pos hfull,if_pos hfull]
         rw[if_pos (by omega),F8 _ _ (by simp)]at hjF
         rw[←hjF]at hR
         refine jC ?_
         exact hR.le (h':=aN s o most a3 hv3 out) bl ⟨⟨a3,hv3,out,rfl,rfl,fun h=>absurd h (by simp)⟩,rfl⟩
        ·rw[if_neg hfull,if_neg hfull]
         rw[if_neg (by omega)]at hjF
         refine jC ?_
         exact hR1 (j+1,out++[c]) _ (by simp only;omega) ⟨by simp only;omega,by simp only[List.length_append,List.length_singleton];omega,by simp only[List.length_append,List.length_singleton];omega,by simp only;rw[show n-(j+1)=n-j-1 by omega];exact hjF⟩ (.le bl)
       ·obtain rfl:j=n:=by omega
        rw[Nat.sub_self]at hjF
        rw[←hjF]at hR
        refine jC ?_
        exact hR.le (h':=aN s o most a3 hv3 out) bl ⟨⟨a3,hv3,out,rfl,by show _=AV.int .i64 ((S.err:Nat):Int);rw[he];rfl,fun _=>⟨rfl,by show bA s a3 hv3 (8*o+(p2+db.2));rw[←Nat.add_assoc];exact hr3⟩⟩,rfl⟩
     ·rw[if_neg hf2]at hr3
      rw[if_neg hf2,decide_eq_false hf2]
      rw[kZ (by exact he) (by simp only;omega)]at hR
      simp only at hR
      rw[if_pos (by decide)]at hR
      refine⟨bV,rfl,?_⟩
      refine wW ?_
      exact hR.le (h':=aN s o most a3 hv3 S.out) bl ⟨iO ⟨a3,hv3,{S with p:=p2},rfl,hr3,hol,rfl,fun h=>absurd h (by simp)⟩,rfl⟩
   ·have hsym:bP (s.drop o) d {S with p:=S.p+lb.2}=(0,{S with p:=S.p+lb.2,err:=re.2.2}):=by rw[←hre];exact ra he (by rw[hre];exact hre2)
    rw[hsym]at hR
    simp only at hR
    rw[if_pos hre2]at hR
    have hi:¬((re.2.2:Nat):Int)=0:=by omega
    refine aw hi ?_
    exact hR.le (h':=aN s o most a2 hv2 S.out) bl ⟨⟨a2,hv2,S.out,rfl,rfl,fun h=>absurd h hre2⟩,rfl⟩
  ·rw[if_neg hf1]at hr1
   rw[if_neg hf1,decide_eq_false hf1]
   rw[kZ he (by omega)]at hR
   simp only at hR
   rw[amM (by simp)]at hR
   simp only at hR
   rw[if_pos (by decide)]at hR
   refine⟨bV,rfl,?_⟩
   refine wW ?_
   exact hR.le (h':=aN s o most a1 hv1 S.out) bl ⟨iO ⟨a1,hv1,S,rfl,hr1,hol,rfl,fun h=>absurd h (by simp)⟩,rfl⟩
set_option maxHeartbeats 2000000 in
theorem Tn:aO Tryz.prog 232 [] (.ai [ba gj,ba gi]):=by
 refine Cod.Tp (fun E R hN hR=>?_)
 refine wW ?_
 refine bm hN (fun i:Nat=>⟨[(2,.sl 66022 0 i),(3,.aq),(9,.int .i64 i)],[(66022,.arr 1 (aR (dN fixF i)))]⟩) (fun i=>i≤288) (fun i=>288-i) 0 (.nil 2 66022 1 rfl (.le (om @CV @nA))) (by omega) ?_
 rintro i R1 hi hR1
 have hul:=CT fixF i
 have hnl:=dH (dN fixF i)
 by_cases hlt:i<288
 ·have hus:=CU fixF i
  have hsb:aG (aR (dN fixF i)) 0 i=aR (dN fixF i):=by
   have:=jV (xs:=dN fixF i);rw[hul]at this;exact this
  refine wW ?_
  refine fV hN (fun _:Unit=>⟨[(2,.sl 66022 0 i),(3,.aq),(4,.int .i64 i),(9,.int .i64 i),(15,.bool (decide (i<144∨280≤i)))],[(66022,.arr 1 (aR (dN fixF i)))]⟩) (fun _=>True) (fun R2 hR2=>?_) (fun _ _=>?_)
  ·by_cases h1:i<144
   ·rw[decide_eq_true (.inl h1)]at hR2
    refine wW ?_
    refine gG ?_
    exact hR2 () _ trivial (.le vV)
   ·by_cases h2:280≤i
    ·rw[decide_eq_true (.inr h2)]at hR2
     refine wW ?_
     refine gG ?_
     exact hR2 () _ trivial (.le vV)
    ·rw[decide_eq_false (by omega)]at hR2
     refine wW ?_
     refine gG ?_
     exact hR2 () _ trivial (.le vV)
  ·by_cases h8:i<144∨280≤i
   ·have hf:fixF i=8:=by unfold fixF;rw[if_neg (by omega),if_neg (by omega)]
    rw[hf]at hus
    rw[decide_eq_true h8]
    refine bc @jl hsb ?_
    exact hR1 (i+1) _ (by omega) (by omega) (.le (by rw[hus,←kX];exact vV))
   ·rw[decide_eq_false h8]
    by_cases h9:i<256
    ·have hf:fixF i=9:=by unfold fixF;rw[if_neg (by omega),if_pos (by omega)]
     rw[hf]at hus
     refine bc @jl hsb ?_
     exact hR1 (i+1) _ (by omega) (by omega) (.le (by rw[hus,←kX];exact vV))
    ·have hf:fixF i=7:=by unfold fixF;rw[if_pos (by omega)]
     rw[hf]at hus
     refine bc @jl hsb ?_
     exact hR1 (i+1) _ (by omega) (by omega) (.le (by rw[hus,←kX];exact vV))
 ·obtain rfl:i=288:=by omega
  refine wW ?_
  refine bm hN (fun i:Nat=>⟨[(2,.sl 66022 0 288),(3,.sl 66034 0 i),(30,.int .i64 i)],[(66022,.arr 1 (aR (dN fixF 288))),(66034,.arr 1 (aR (dN (fun _=>5) i)))]⟩) (fun i=>i≤32) (fun i=>32-i) 0 (.nil 3 66034 1 rfl (.le (om @CV @nA))) (by omega) ?_
  rintro i R2 hi hR2
  have hul2:=CT (fun _=>5) i
  have hnl2:=dH (dN (fun _=>5) i)
  by_cases hlt:i<32
  ·have hus:=CU (fun _=>5) i
   have hsb:aG (aR (dN (fun _=>5) i)) 0 i=aR (dN (fun _=>5) i):=by
    have:=jV (xs:=dN (fun _=>5) i);rw[hul2]at this;exact this
   refine bc @jl hsb ?_
   exact hR2 (i+1) _ (by omega) (by omega) (.le (by rw[hus,←kX];exact vV))
  ·obtain rfl:i=32:=by omega
   rw[NV]at *
   rw[NU]at *
   have e1:aG (aR gj) 0 288=aR gj:=by rw[←kJ.2.1];exact jV
   have e2:aG (aR gi) 0 32=aR gi:=by rw[←kH.2.1];exact jV
   have n1:=p0 gj kJ.1 (by rw[kJ.2.1];decide)
   have n2:=p0 gi kH.1 (by rw[kH.2.1];decide)
   rw[if_pos kJ.2.2]at n1
   rw[if_pos kH.2.2]at n2
   generalize gj=l at *
   generalize gi=d at *
   refine wW ?_
   refine ky ⟨[(37,.ro 1 (aR l)),(3,.ro 1 (aR d))],[]⟩ (.bG 66022 (.bG 66034 (.le (om e1 e2)))) rfl ?_
   refine wW ?_
   refine gF n1 rfl ?_
   rintro h' v as' ⟨rfl,rfl⟩
   refine⟨rfl,rfl,?_⟩
   simp(disch:=omega)only[go_sem,simprocAttr,ba]
   refine gF n2 rfl ?_
   rintro h' v as' ⟨rfl,rfl⟩
   refine⟨rfl,rfl,?_⟩
   simp(disch:=omega)only[go_sem,simprocAttr,ba]
   exact hR.le vV ⟨rfl,rfl⟩
def AU:AV:=.agg (aR fS)
theorem Ub:aO Tryz.prog 247 [] AU:=by
 refine Cod.Uc (fun E R hN hR=>?_)
 refine wW ?_
 exact hR.le vV ⟨rfl,rfl⟩
end Go.Proofs.YtoalcafkffmiiaaGreatDoor.Pk
namespace Go.Proofs.YtoalcafkffmiiaaGreatDoor.Pk
section
variable {t:Bs} {S:SS}
theorem AX {e:Nat}:(eP e S).out=S.out:=by unfold eP;split<;>rfl
theorem qw {n:Nat}:(bM t n S).2.out=S.out:=by
 unfold bM
 split
 ·rfl
 ·split<;>rfl
theorem AZ {l:List Nat}:(bP t l S).2.out=S.out:=by
 unfold bP
 split
 ·rfl
 ·split<;>rfl
theorem A0 {l:List Nat} {s:Nat}:(dy t l s S).2.2.out=S.out:=by
 unfold dy
 split
 ·split
  ·exact AX
  ·exact qw
 ·split
  ·exact qw
  ·split
   ·exact qw
   ·rfl
theorem AY {N:Nat} {l:List Nat} {b:Nat×Nat×SS}:(dx N l b).out=b.2.2.out:=by
 unfold dx
 split
 ·exact AX
 ·rfl
end
theorem mh {t:Bs} {nc:Nat}:∀(k:Nat) (l:List Nat) (S:SS),(firstS t nc k l S).2.out=S.out
 | 0,_,_=>rfl
 | k+1,l,S=>by
  rw[sS]
  split
  ·rfl
  ·rw[mh k,qw]
theorem qv {t:Bs} {fl:List Nat} {N:Nat}:∀(k:Nat) (l:List Nat) (S:SS),(gT t fl N k l S).2.out=S.out
 | 0,_,_=>rfl
 | k+1,l,S=>by
  rw[tL]
  split
  ·rfl
  ·split
   ·simp only;rw[AY,A0,AZ]
   ·rw[qv k,AY,A0,AZ]
theorem ME (t:Bs) (S:SS):(eD t S).2.out=S.out:=by
 rw[xK]
 split
 ·rfl
 ·split
  ·rfl
  ·unfold lV
   split
   ·simp only;rw[mh]
   ·split
    ·simp only;rw[mh]
    ·unfold ns
     split
     ·simp only;rw[qv,mh]
     ·split
      ·simp only;rw[qv,mh]
      ·simp only;rw[qv,mh]
open Eng
set_option maxRecDepth 10000
def uU:AV:=.lit (.pointer none)
def PT (s:Bs) (o most:Nat) (out:Bs) (D:(List Nat×List Nat)×SS) (h':HP) (v:AV):Prop:=
 ∃a' hv',h'=aN s o most a' hv' out∧(D.2.err≠0→v=.ai [uU,uU,.int .i64 (D.2.err:Nat)]) ∧
  (D.2.err=0→v=.ai [ba D.1.1,ba D.1.2,.int .i64 (0:Nat)]∧bA s a' hv' (8*o+D.2.p)∧bK D.1.1=true∧bK D.1.2=true∧(∀n∈D.1.1,n≤15)∧(∀n∈D.1.2,n≤15)∧D.1.1.length≤286∧D.1.2.length≤320)
abbrev QT (R:HP→AV→List AV→Prop):KQ:=KQ.post [.tmp 2,.tmp 3,.tmp 4] 1 R
abbrev Dr (R1 RX:KS) (R:HP→AV→List AV→Prop):KQ:=KQ.ed 3 (KQ.iQ R1 (KQ.ed 2 (KQ.iQ RX (QT R))))
abbrev mI (s:Bs) (o most:Nat) (out:Bs) (D:(List Nat×List Nat)×SS):HP→AV→List AV→Prop:=fun h' v ar=>PT s o most out D h' v∧ar=[.ab eL 0]
theorem jv {s:Bs} {o most:Nat} {out:Bs} {D:(List Nat×List Nat)×SS} {R:HP→AV→List AV→Prop} (hR:cN (mI s o most out D) R) (e:Nat) (he:D.2.err=e) (hne:e≠0) (a' hv':Nat) {h:HP} (hh:c7 h (aN s o most a' hv' out)) :
    R h (.ai [.lit (.pointer none),.lit (.pointer none),.int .i64 (e:Nat)]) [.ab 65032 0]:=
 hR.le (h':=aN s o most a' hv' out) hh ⟨⟨a',hv',rfl,fun _=>by rw[he];rfl,fun h=>absurd h (by rw[he];exact hne)⟩,rfl⟩
theorem qG (s:Bs) (o p a hv n:Nat) (hs:s.length≤1000000000) (h:bA s a hv (8*o+p)) (hn:n≤32):Eng.Spec Tryz.prog 230 [(RD,.var (aP s a hv o))] [.ab RD 0,.int .i64 n]
    (fun h' v ar=>∃a' hv',bA s a' hv' (8*o+(if n≤8*(s.drop o).length-p then p+n else p))∧h'=[(RD,.var (aP s a' hv' o))]∧v=.ai [.int .u32 (if n≤8*(s.drop o).length-p then numAt (s.drop o) p n else 0:Nat),.bool (decide (n≤8*(s.drop o).length-p))]∧ar=[.ab RD 0,.int .i64 n]):=by
 have hb:=qH s a hv o (8*o+p) n (by omega) h hn
 rw[tJ,←qt]at hb
 rw[show 8*o+(if n≤8*(s.drop o).length-p then p+n else p)=(if n≤8*(s.drop o).length-p then 8*o+p+n else 8*o+p)by split<;>omega]
 exact hb
theorem yS (l:List Nat) (hl:∀n∈l,n≤15) (hn:l.length≤320):∃(x:AV) (e:Nat),Eng.Spec Tryz.prog 246 [] [.ro 1 (aR l)] (fun h r _=>h=[]∧r=.ai [x,.int .i64 (e:Nat)])∧((bK l=true∧x=ba l∧e=0)∨(bK l=false∧x=.lit (.pointer none)∧e=4)):=by
 have n1:=p0 l hl hn
 by_cases hc:bK l=true
 ·rw[if_pos hc]at n1
  exact⟨_,0,n1,.inl ⟨hc,rfl,rfl⟩⟩
 ·rw[if_neg hc]at n1
  exact⟨_,4,n1,.inr ⟨by simpa using hc,rfl,rfl⟩⟩
set_option maxHeartbeats 2000000 in
theorem We (s:Bs) (o most a hv:Nat) (out:Bs) (l:List Nat) (nl p:Nat) (D:(List Nat×List Nat)×SS) {E:Env} {R:HP→AV→List AV→Prop} (hN:E.N≤1000000) (hR:cN (mI s o most out D) R) (hl:∀n∈l,n≤15) (h1:257≤nl) (h2:nl≤286) (h3:l.length≤320) (h4:nl≤l.length)
    (hr:bA s a hv (8*o+p))
    (hD:D=if l.getD 256 0=0∨bK (l.take nl)=false∨bK (l.drop nl)=false then(([],[]),⟨p,out,3⟩)else((l.take nl,l.drop nl),⟨p,out,0⟩)) :
    vcW Tryz.prog E Cod.tr (QT R) ⟨[(0,.ab 65032 0),(7,.int .i64 nl),(16,.ro 1 (aR l)),(2000000,.ab 65032 0)],aN s o most a hv out⟩:=by
 have hnl:=dH l
 have ht1:(l.take nl).length=nl:=by rw[List.length_take];omega
 have hd1:(l.drop nl).length=l.length-nl:=List.length_drop
 obtain⟨x1,e1,n1,c1⟩:=yS (l.take nl) (Cz hl nl) (by omega)
 obtain⟨x2,e2,n2,c2⟩:=yS (l.drop nl) (xA hl nl) (by omega)
 have hx:nth (aR l) 256=.int .i64 (l.getD 256 0:Nat):=jW (by omega)
 have etd:(l.drop nl).take (l.length-nl)=l.drop nl:=List.take_of_length_le (by omega)
 generalize hy:l.getD 256 0=y at *
 have bad:D=(([],[]),⟨p,out,3⟩)→∀h,c7 h (aN s o most a hv out)→R h (.ai [.lit (.pointer none),.lit (.pointer none),.int .i64 3]) [.ab 65032 0]:=fun hd h hh=>jv hR 3 (by rw[hd]) (by decide) a hv hh
 refine ve hnl @nB ?_
 rcases c1 with⟨hc1,rfl,rfl⟩ | ⟨hc1,rfl,rfl⟩<;>rcases c2 with⟨hc2,rfl,rfl⟩ | ⟨hc2,rfl,rfl⟩<;>by_cases h0:y=0
 all_goals
  refine gF n1 rfl ?_
  rintro h' v as' ⟨rfl,rfl⟩
  refine⟨rfl,rfl,?_⟩
  simp(disch:=omega)only[go_sem,simprocAttr,hnl,nB,etd,ba]
  refine gF n2 rfl ?_
  rintro h' v as' ⟨rfl,rfl⟩
  refine⟨rfl,rfl,?_⟩
 rotate_left
 ·rw[if_neg (by rw[hc1,hc2];simp[h0])]at hD
  subst hD
  have hi:¬((y:Nat):Int)=0:=by omega
  simp(disch:=omega)only[go_sem,simprocAttr,hnl,hx,hi,ba]
  refine jN hnl hx hi ?_
  exact hR.le (h':=aN s o most a hv out) bl ⟨⟨a,hv,rfl,fun h=>absurd rfl h,fun _=>⟨rfl,hr,hc1,hc2,Cz hl nl,xA hl nl,by rw[ht1];exact h2,by rw[hd1];omega⟩⟩,rfl⟩
 all_goals
  rw[if_pos (by first | exact .inl h0 | exact .inr (.inl hc1) | exact .inr (.inr hc2))]at hD
  have bad:=bad hD
 all_goals first
  |have hi:((y:Nat):Int)=0:=by omega
   simp(disch:=omega)only[go_sem,simprocAttr,hnl,hx,hi,ba]
   (try(repeat(first | refine dk ?_ | refine di ?_ | refine dj ?_)<;>simp(disch:=omega)only[go_sem,simprocAttr,hnl,hx,hi]))
   exact bad _ bl
  |have hi:¬((y:Nat):Int)=0:=by omega
   simp(disch:=omega)only[go_sem,simprocAttr,hnl,hx,hi,ba]
   (try(repeat(first | refine dk ?_ | refine di ?_ | refine dj ?_)<;>simp(disch:=omega)only[go_sem,simprocAttr,hnl,hx,hi]))
   exact bad _ bl
set_option maxHeartbeats 1000000 in
theorem Wd (s:Bs) (o most a hv N:Nat) (out:Bs) (l fl:List Nat) (nl nd p nb least what:Nat) (D:(List Nat×List Nat)×SS) {E:Env} {R1 RX:KS} {R:HP→AV→List AV→Prop} (hN:E.N≤1000000) (hs:s.length≤1000000000) (ho:o≤s.length)
    (hR:cN (mI s o most out D) R) (hr:bA s a hv (8*o+p)) (hbits:nb≤7) (hleast:least≤11) (hNN:nl+nd=N) (hN1:N≤400) (hll:l.length≤N)
    (hbad:(dx N l (least+(bM (s.drop o) nb ⟨p,out,0⟩).1,what,(bM (s.drop o) nb ⟨p,out,0⟩).2)).err≠0→D.2.err=(dx N l (least+(bM (s.drop o) nb ⟨p,out,0⟩).1,what,(bM (s.drop o) nb ⟨p,out,0⟩).2)).err)
    (hR1:∀n a' hv' st',n=numAt (s.drop o) p nb→p+nb≤8*(s.drop o).length→l.length+(least+n)≤N→bA s a' hv' (8*o+(p+nb)) →
     Wk st' ⟨[(0,.ab 65032 0),(7,.int .i64 nl),(8,.int .i64 nd),(14,ba fl),(16,.sl 62110 0 (l++List.replicate (least+n) what).length),(2000000,.ab 65032 0)],aN s o most a' hv' out++[(62110,.arr 1 (aR (l++List.replicate (least+n) what)))]⟩→R1.ap st') :
    vcW Tryz.prog E Cod.tt (Dr R1 RX R) ⟨[(0,.ab 65032 0),(7,.int .i64 nl),(8,.int .i64 nd),(14,ba fl),(16,.sl 62110 0 l.length),(19,.int .i64 nb),(20,.int .i64 least),(21,.int .i64 what),(2000000,.ab 65032 0)],aN s o most a hv out++[(62110,.arr 1 (aR l))]⟩:=by
 have htl:(s.drop o).length=s.length-o:=List.length_drop
 have hnl:=dH l
 have hb:=qG s o p a hv nb hs hr (by omega)
 refine ib ?_
 refine bf [(RD,.var (aP s a hv o))] hb vV nofun ?_
 rintro h' v ar ⟨a1,hv1,hr1,rfl,rfl,rfl⟩
 by_cases hf:nb≤8*(s.drop o).length-p
 ·rw[if_pos hf]at hr1
  rw[if_pos hf,decide_eq_true hf]
  have hpl:p+nb≤8*(s.drop o).length:=by have:=hr.h2;have:=hr.h3;omega
  rw[jn rfl hpl]at hbad
  simp only at hbad
  have hlt:=fQ (s.drop o) p nb
  have hp7:2^nb≤2^7:=Nat.pow_le_pow_right (by decide) hbits
  have hR1:=fun st'=>hR1 _ a1 hv1 st' rfl hpl
  generalize numAt (s.drop o) p nb=n at *
  refine⟨bV,rfl,?_⟩
  by_cases hov:N<l.length+(least+n)
  ·have ho2:((nl:Int)+(nd:Int))<(l.length:Int)+(least:Int)+(n:Int):=by omega
   have hbad:=hbad (by unfold dx;rw[if_pos hov,kG rfl];simp)
   unfold dx at hbad
   rw[if_pos hov,kG rfl]at hbad
   refine bc hnl ho2 ?_
   exact jv hR 3 hbad (by decide) a1 hv1 bl
  ·have ho2:¬((nl:Int)+(nd:Int))<(l.length:Int)+(least:Int)+(n:Int):=by omega
   have eln:(least:Int)+(n:Int)=((least+n:Nat):Int):=by omega
   clear hbad
   refine bc hnl ho2 ?_
   generalize hk:least+n=k at *
   rw[eln]
   refine bm hN (fun j:Nat=>⟨[(0,.ab 65032 0),(7,.int .i64 nl),(8,.int .i64 nd),(14,ba fl),(16,.sl 62110 0 (l.length+j:Nat)),(21,.int .i64 what),(150,.int .i64 k),(151,.int .i64 j),(2000000,.ab 65032 0)],aN s o most a1 hv1 out++[(62110,.arr 1 (aR (l++List.replicate j what)))]⟩) (fun j=>j≤k) (fun j=>k-j) 0
    (.le (by simp(disch:=omega)only[go_sem,simprocAttr,aN,aP,ba];simp)) (by omega) ?_
   rintro j R2 hj hR2
   have hnl:=dH (l++List.replicate j what)
   have hlr:(l++List.replicate j what).length=l.length+j:=by simp
   have hnr:=abn l j what
   have hsb:aG (aR (l++List.replicate j what)) 0 (l.length+j)=aR (l++List.replicate j what):=by rw[←hlr];exact jV
   by_cases hjk:j<k
   ·refine ve hsb @jl ?_
    exact hR2 (j+1) _ (by omega) (by omega) (.le (rj hnr))
   ·obtain rfl:j=k:=by omega
    refine ib ?_
    exact hR1 _ (by omega) hr1 (.le (rj hlr))
 ·rw[if_neg hf]at hr1
  rw[if_neg hf,decide_eq_false hf]
  rw[kZ rfl (by simp only;omega)]at hbad
  have hover:∀k,(dx N l (k,what,{p:=p,out:=out,err:=6})).err=6:=by
   intro k
   unfold dx
   split
   ·rfl
   ·rfl
  simp only at hbad
  rw[hover]at hbad
  refine⟨bV,rfl,?_⟩
  refine wW ?_
  exact jv hR 6 (hbad (by decide)) (by decide) a1 hv1 bl
set_option maxHeartbeats 2000000 in
theorem Wc (s:Bs) (o most a hv:Nat) (out:Bs) (fl:List Nat) (nl nd p:Nat) (D:(List Nat×List Nat)×SS) {E:Env} {R:HP→AV→List AV→Prop} (hN:E.N≤1000000) (hs:s.length≤1000000000) (ho:o≤s.length)
    (hR:cN (mI s o most out D) R) (hr:bA s a hv (8*o+p)) (hfl:∀n∈fl,n≤15) (hfn:fl.length=19) (hfc:bK fl=true) (h1:257≤nl) (h2:nl≤286) (h3:1≤nd) (h4:nd≤30)
    (hD:D=ns (s.drop o) nl nd (gT (s.drop o) fl (nl+nd) (nl+nd) [] ⟨p,out,0⟩)) :
    vcW Tryz.prog E Cod.zC (QT R) ⟨[(0,.ab 65032 0),(7,.int .i64 nl),(8,.int .i64 nd),(14,ba fl),(16,.aq),(2000000,.ab 65032 0)],aN s o most a hv out⟩:=by
 generalize hG:gT (s.drop o) fl (nl+nd) (nl+nd) [] ⟨p,out,0⟩=G at hD
 have hN1:nl+nd≤400:=by omega
 generalize hNN:nl+nd=N at *
 have hbadG:G.2.err≠0→D.2.err=G.2.err:=by
  intro h
  rw[hD]
  unfold ns
  rw[if_pos h]
 refine fV (y:=Cod.tr) hN (fun z:Nat×Nat=>⟨[(0,.ab 65032 0),(7,.int .i64 nl),(16,.ro 1 (aR G.1)),(2000000,.ab 65032 0)],aN s o most z.1 z.2 out⟩)
  (fun z=>bA s z.1 z.2 (8*o+G.2.p)∧G.2=⟨G.2.p,out,0⟩∧(∀n∈G.1,n≤15)∧G.1.length=N) (fun RX hRX=>?_) (fun z hz=>?_)
 ·refine wW ?_
  refine bm hN (fun q:List Nat×Nat×Nat×Nat=>⟨[(0,.ab 65032 0),(7,.int .i64 nl),(8,.int .i64 nd),(14,ba fl),(16,.sl 62110 0 q.1.length),(2000000,.ab 65032 0)],aN s o most q.2.1 q.2.2.1 out++[(62110,.arr 1 (aR q.1))]⟩)
   (fun q=>(∀n∈q.1,n≤15)∧q.1.length≤N∧bA s q.2.1 q.2.2.1 (8*o+q.2.2.2)∧∃k,N-q.1.length≤k∧gT (s.drop o) fl N k q.1 ⟨q.2.2.2,out,0⟩=G) (fun q=>N-q.1.length) ([],a,hv,p)
   (.nil 16 62110 1 rfl (.le (rj @nA))) ⟨by simp,by simp,hr,N,by simp,hG⟩ ?_
  clear hr hG
  rintro⟨l,a,hv,p⟩ R1 ⟨hl,hll,hr,k,hk,hg⟩ hR1
  simp only at hl hll hr hk hg
  have hnl:=dH l
  have htl:(s.drop o).length=s.length-o:=List.length_drop
  by_cases hlt:l.length<N
  ·have hlt2:(l.length:Int)<(nl:Int)+(nd:Int):=by omega
   obtain⟨k,rfl⟩:∃k',k=k'+1:=⟨k-1,by omega⟩
   rw[tL,if_neg (by simp only;omega)]at hg
   have cT:=tf fl hfl (by omega) hfc s a hv o (8*o+p) (by omega) hr
   rw[←uv]at cT
   simp only[ba]at cT
   generalize hre:readL (bF fl) (ck (s.drop o) p)=re at *
   simp(disch:=omega)only[go_sem,simprocAttr,aN,ba,hnl,hlt2]
   refine bf [(RD,.var (aP s a hv o))] cT vV nofun ?_
   rintro h' v ar ⟨a2,hv2,p2,sy,hr2,rfl,rfl,hk2,rfl⟩
   refine⟨bV,rfl,?_⟩
   by_cases hre2:re.2.2=0
   ·obtain⟨rfl,rfl⟩:=hk2 hre2
    have hsym:bP (s.drop o) fl ⟨p,out,0⟩=(re.1,⟨p+re.2.1,out,0⟩):=by
     have:=rb (t:=s.drop o) (l:=fl) (S:=⟨p,out,0⟩) rfl (by simp only;rw[hre];exact hre2)
     simp only[hre]at this
     exact this
    rw[hsym]at hg
    simp only at hg
    have hslt:re.1<19:=by
     have:=nK (bF fl) (ck (s.drop o) p) (by rw[hre];exact hre2)
     rw[hre]at this
     have hcl:(bF fl).length=fl.length:=by simp[bF]
     omega
    rw[show 8*o+p+re.2.1=8*o+(p+re.2.1)by omega]at hr2
    generalize p+re.2.1=p2 at *
    generalize re.1=sy at *
    by_cases h16:sy<16
    ·have ht:dy (s.drop o) l sy ⟨p2,out,0⟩=(1,sy,⟨p2,out,0⟩):=by unfold dy;rw[if_neg (by omega),if_neg (by omega),if_neg (by omega)]
     have hov:dx N l (1,sy,⟨p2,out,0⟩)=⟨p2,out,0⟩:=by unfold dx;rw[if_neg (by simp only;omega)]
     rw[ht,hov,if_neg (by simp)]at hg
     simp only at hg
     have hsb:aG (aR l) 0 l.length=aR l:=jV
     refine dW hre2 hnl hsb @jl ?_
     refine hR1 (l++[sy],a2,hv2,p2) _ (by simp only[List.length_append,List.length_singleton];omega) ⟨?_,?_,hr2,k,?_,hg⟩ (.le (by rw[kX];simp(disch:=omega)only[go_sem,simprocAttr,aN,aP,ba,List.length_append,List.length_singleton]))
     ·intro n hn
      rcases List.mem_append.1 hn with hn | hn
      ·exact hl n hn
      ·rw[List.mem_singleton.1 hn];omega
     ·simp only[List.length_append,List.length_singleton];omega
     ·simp only[List.length_append,List.length_singleton];omega
    ·refine aw hre2 ?_
     refine fV (y:=Cod.tt) hN (fun z:Nat×Nat×Nat=>⟨[(0,.ab 65032 0),(7,.int .i64 nl),(8,.int .i64 nd),(14,ba fl),(16,.sl 62110 0 l.length),(19,.int .i64 z.1),(20,.int .i64 z.2.1),(21,.int .i64 z.2.2),(2000000,.ab 65032 0)],aN s o most a2 hv2 out++[(62110,.arr 1 (aR l))]⟩)
      (fun z=>z.1≤7∧1≤z.2.1∧z.2.1≤11∧z.2.2≤15∧dy (s.drop o) l sy ⟨p2,out,0⟩=(z.2.1+(bM (s.drop o) z.1 ⟨p2,out,0⟩).1,z.2.2,(bM (s.drop o) z.1 ⟨p2,out,0⟩).2)) (fun R2 hR2=>?_) (fun z hz=>?_)
     ·by_cases e16:sy=16
      ·subst e16
       by_cases hle:l=[]
       ·subst hle
        have ht:dy (s.drop o) [] 16 ⟨p2,out,0⟩=(0,0,⟨p2,out,3⟩):=by unfold dy;rw[if_pos rfl,if_pos rfl,kG rfl]
        have hov:dx N [] (0,0,⟨p2,out,3⟩)=⟨p2,out,3⟩:=if_neg (by simp)
        rw[ht,hov,if_pos (by simp)]at hg
        refine aw @nA ?_
        exact jv hR 3 (by rw[hbadG (by rw[←hg];simp),←hg]) (by decide) a2 hv2 bl
       ·have hl0:0<l.length:=by cases l with | nil=>exact absurd rfl hle | cons=>simp
        have el:(l.length:Int)-1=((l.length-1:Nat):Int):=by omega
        have hz:¬((l.length:Int)=0):=by omega
        have hx:nth (aR l) (l.length-1)=.int .i64 (l.getD (l.length-1) 0:Nat):=jW (by omega)
        have hx15:l.getD (l.length-1) 0≤15:=tK hl _
        have ht:dy (s.drop o) l 16 ⟨p2,out,0⟩=(3+(bM (s.drop o) 2 ⟨p2,out,0⟩).1,l.getD (l.length-1) 0,(bM (s.drop o) 2 ⟨p2,out,0⟩).2):=by unfold dy;rw[if_pos rfl,if_neg hle]
        generalize l.getD (l.length-1) 0=x at *
        refine dW hnl hz el hx ?_
        exact hR2 (2,3,x) _ ⟨by simp,by simp,by simp,hx15,ht⟩ (.le oh)
      ·by_cases e17:sy=17
       ·subst e17
        refine wW ?_
        exact hR2 (3,3,0) _ ⟨by decide,by decide,by decide,by decide,rfl⟩ (.le oh)
       ·obtain rfl:sy=18:=by omega
        refine wW ?_
        exact hR2 (7,11,0) _ ⟨by decide,by decide,by decide,by decide,rfl⟩ (.le oh)
     ·obtain⟨nb,least,what⟩:=z
      simp only at hz ⊢
      obtain⟨g1,g0,g2,g3,g4⟩:=hz
      rw[g4]at hg
      refine Wd s o most a2 hv2 N out l fl nl nd p2 nb least what D hN hs ho hR hr2 g1 g2 hNN hN1 hll (fun h=>?_) (fun n a' hv' st' hn hpl hlo hr3 hw=>?_)
      ·rw[if_pos h]at hg
       rw[hbadG (by rw[←hg];exact h),←hg]
      ·rw[jn rfl hpl]at hg
       simp only at hg
       rw[←hn]at hg
       have hov:dx N l (least+n,what,⟨p2+nb,out,0⟩)=⟨p2+nb,out,0⟩:=by unfold dx;rw[if_neg (by simp only;omega)]
       rw[hov,if_neg (by simp)]at hg
       refine hR1 (l++List.replicate (least+n) what,a',hv',p2+nb) _ (by simp only[List.length_append,List.length_replicate];omega) ⟨?_,?_,hr3,k,?_,hg⟩ hw
       ·intro n hn
        rcases List.mem_append.1 hn with hn | hn
        ·exact hl n hn
        ·rw[(List.mem_replicate.1 hn).2];exact g3
       ·simp only[List.length_append,List.length_replicate];omega
       ·simp only[List.length_append,List.length_replicate];omega
   ·have hsym:bP (s.drop o) fl ⟨p,out,0⟩=(0,⟨p,out,re.2.2⟩):=by
     have:=ra (t:=s.drop o) (l:=fl) (S:=⟨p,out,0⟩) rfl (by simp only;rw[hre];exact hre2)
     simp only[hre]at this
     exact this
    rw[hsym]at hg
    simp only at hg
    have ht:dy (s.drop o) l 0 ⟨p,out,re.2.2⟩=(1,0,⟨p,out,re.2.2⟩):=by unfold dy;rw[if_neg (by omega),if_neg (by omega),if_neg (by omega)]
    have hov:dx N l (1,0,⟨p,out,re.2.2⟩)=⟨p,out,re.2.2⟩:=by unfold dx;rw[if_neg (by simp only;omega)]
    rw[ht,hov,if_pos (by simpa using hre2)]at hg
    have hi:¬((re.2.2:Nat):Int)=0:=by omega
    refine aw hi ?_
    exact jv hR re.2.2 (by rw[hbadG (by rw[←hg];exact hre2),←hg]) hre2 a2 hv2 bl
  ·have hlt2:¬(l.length:Int)<(nl:Int)+(nd:Int):=by omega
   have hGe:(l,(⟨p,out,0⟩:SS))=G:=by
    rw[←hg]
    cases k with
    | zero=>rfl
    | succ k=>rw[tL,if_pos (.inl (by omega))]
   subst hGe
   have hsb:aG (aR l) 0 l.length=aR l:=jV
   refine ve hnl hlt2 ?_
   exact hRX (a,hv) _ ⟨hr,rfl,hl,by simp only;omega⟩ (.bG 62110 (.le (rj hsb)))
 ·obtain⟨a',hv'⟩:=z
  obtain⟨g1,g2,g3,g4⟩:=hz
  refine We s o most a' hv' out G.1 nl G.2.p D hN hR g3 h1 h2 (by omega) (by omega) g1 ?_
  rw[hD]
  unfold ns
  rw[if_neg (by rw[g2];simp)]
  obtain⟨G1,G2⟩:=G
  simp only at g2
  rw[g2]
set_option maxHeartbeats 2000000 in
theorem Wf (s:Bs) (o most a hv:Nat) (out:Bs) (nl nd nc p:Nat) (D:(List Nat×List Nat)×SS) {E:Env} {R:HP→AV→List AV→Prop} (hN:E.N≤1000000) (hs:s.length≤1000000000) (ho:o≤s.length)
    (hR:cN (mI s o most out D) R) (hr:bA s a hv (8*o+p)) (h1:257≤nl) (h2:nl≤286) (h3:1≤nd) (h4:nd≤30) (hc:nc≤19)
    (hD:D=lV (s.drop o) nl nd (firstS (s.drop o) nc nc (List.replicate 19 0) ⟨p,out,0⟩)) :
    vcW Tryz.prog E Cod.zD (QT R) ⟨[(0,.ab 65032 0),(7,.int .i64 nl),(8,.int .i64 nd),(9,.int .i64 nc),(10,.sl 62057 0 19),(2000000,.ab 65032 0)],[(62057,.arr 1 (aR (List.replicate 19 0))),(40014,.var (aP s a hv o)),(65032,.var [.ab 40014 0,.sl 60022 0 out.length,.int .i64 most]),(60022,.arr 1 (out.map ub))]⟩:=by
 generalize hG:firstS (s.drop o) nc nc (List.replicate 19 0) ⟨p,out,0⟩=G at hD
 have htl:(s.drop o).length=s.length-o:=List.length_drop
 have hbadG:G.2.err≠0→D.2.err=G.2.err:=by
  intro h
  rw[hD]
  unfold lV
  rw[if_pos h]
 refine fV (y:=Cod.zE) hN (fun z:Nat×Nat=>⟨[(0,.ab 65032 0),(7,.int .i64 nl),(8,.int .i64 nd),(10,.ro 1 (aR G.1)),(2000000,.ab 65032 0)],aN s o most z.1 z.2 out⟩)
  (fun z=>bA s z.1 z.2 (8*o+G.2.p)∧G.2=⟨G.2.p,out,0⟩∧(∀n∈G.1,n≤15)∧G.1.length=19) (fun RX hRX=>?_) (fun z hz=>?_)
 ·refine ib ?_
  refine bm hN (fun q:Nat×List Nat×Nat×Nat×Nat=>⟨[(0,.ab 65032 0),(7,.int .i64 nl),(8,.int .i64 nd),(10,.sl 62057 0 19),(58,.int .i64 nc),(59,.int .i64 q.1),(2000000,.ab 65032 0)],aN s o most q.2.2.1 q.2.2.2.1 out++[(62057,.arr 1 (aR q.2.1))]⟩)
   (fun q=>q.1≤nc∧(∀n∈q.2.1,n≤15)∧q.2.1.length=19∧bA s q.2.2.1 q.2.2.2.1 (8*o+q.2.2.2.2)∧firstS (s.drop o) nc (nc-q.1) q.2.1 ⟨q.2.2.2.2,out,0⟩=G) (fun q=>nc-q.1) (0,List.replicate 19 0,a,hv,p)
   (.le vVJ) ⟨by simp,by simp,by simp,hr,hG⟩ ?_
  clear hr hG
  rintro⟨j,l,a,hv,p⟩ R1 ⟨hj,hl,hll,hr,hg⟩ hR1
  simp only at hj hl hll hr hg
  have hnl:=dH l
  by_cases hlt:j<nc
  ·obtain⟨m,hm⟩:∃m,nc-j=m+1:=⟨nc-j-1,by omega⟩
   rw[hm,sS,if_neg (by simp),show nc-(m+1)=j by omega]at hg
   have hpl:=ag3 j (by omega)
   have hx:nth (aR fS) j=.int .i64 (fS.getD j 0:Nat):=jW (by have:fS.length=19:=rfl;omega)
   have hpn:(aR fS).length=19:=rfl
   have hx2:(aR fS).getD j .undef=.int .i64 (fS.getD j 0:Nat):=by
    have hl:j<fS.length:=by have:fS.length=19:=rfl;omega
    simp[aR,List.getD_eq_getElem?_getD,hl]
   have hord:=Ub
   unfold AU at hord
   generalize fS.getD j 0=pj at *
   have hb:=qG s o p a hv 3 hs hr (by omega)
   have hxl:nth (aR l) pj=.int .i64 (l.getD pj 0:Nat):=jW (by omega)
   refine ib ?_
   refine bf [(RD,.var (aP s a hv o))] hb vV nofun ?_
   rintro h' v ar ⟨a1,hv1,hr1,rfl,rfl,rfl⟩
   by_cases hf:3≤8*(s.drop o).length-p
   ·rw[if_pos hf]at hr1
    rw[if_pos hf,decide_eq_true hf]
    rw[jn rfl (by simp only;omega)]at hg
    simp only at hg
    have hlt3:=fQ (s.drop o) p 3
    generalize numAt (s.drop o) p 3=x at *
    refine⟨bV,rfl,?_⟩
    refine wW ?_
    refine aC hord rfl rfl ?_
    refine rl hx2 hpn hnl hll hxl @abo ?_
    refine hR1 (j+1,l.set pj x,a1,hv1,p+3) _ (by simp only;omega) ⟨hlt,?_,by simp[hll],hr1,by simp only;rw[show nc-(j+1)=m by omega];exact hg⟩ (.le bl)
    intro n hn
    rcases List.mem_or_eq_of_mem_set hn with hn | hn
    ·exact hl n hn
    ·omega
   ·rw[if_neg hf]at hr1
    rw[if_neg hf,decide_eq_false hf]
    rw[kZ rfl (by simp only;omega)]at hg
    simp only at hg
    rw[NT _ _ _ _ _ (by simp)]at hg
    refine⟨bV,rfl,?_⟩
    refine wW ?_
    exact jv hR 6 (by rw[hbadG (by rw[←hg];simp),←hg]) (by decide) a1 hv1 bl
  ·obtain rfl:j=nc:=by omega
   rw[Nat.sub_self]at hg
   have hGe:(l,(⟨p,out,0⟩:SS))=G:=hg
   subst hGe
   have hsub:aG (aR l) 0 19=aR l:=by rw[←hll];exact jV
   refine ib ?_
   exact hRX (a,hv) _ ⟨hr,rfl,hl,hll⟩ (.bG 62057 (.le (CX hsub)))
 ·obtain⟨a',hv'⟩:=z
  obtain⟨g1,g2,g3,g4⟩:=hz
  simp only at g1 g2 g3 g4 ⊢
  have n1:=p0 G.1 g3 (by omega)
  unfold lV at hD
  rw[if_neg (by rw[g2];simp)]at hD
  cases hck:bK G.1 with
  | false=>
   rw[hck,if_neg (by decide)]at n1
   rw[if_pos hck]at hD
   refine ib ?_
   refine gF n1 rfl ?_
   rintro h' v as' ⟨rfl,rfl⟩
   refine⟨rfl,rfl,?_⟩
   refine wW ?_
   exact jv hR 3 (by rw[hD]) (by decide) a' hv' bl
  | true=>
   rw[hck,if_pos rfl]at n1
   rw[if_neg (by rw[hck];decide),g2]at hD
   have hb:=Wc s o most a' hv' out G.1 nl nd G.2.p D (E:=E) (R:=R) hN hs ho hR g1 g3 g4 hck h1 h2 h3 h4 hD
   refine ib ?_
   refine gF n1 rfl ?_
   rintro h' v as' ⟨rfl,rfl⟩
   refine⟨rfl,rfl,?_⟩
   simp only[aN,ba]at hb
   simp(disch:=omega)only[go_sem,simprocAttr,ba]
   exact hb
theorem oD {n:Nat} (h:n<65536):bits .and .u32 (n:Int) 31=((n%32:Nat):Int):=by
 show IntKind.u32.wrap ((BitVec.ofInt 32 (n:Int) &&& BitVec.ofInt 32 ((31:Nat):Int)).toNat:Int)=_
 rw[BitVec.ofInt_natCast,BitVec.ofInt_natCast,BitVec.toNat_and,BitVec.toNat_ofNat,BitVec.toNat_ofNat,Nat.mod_eq_of_lt (by omega),Nat.mod_eq_of_lt (by decide),show(31:Nat)=2^5-1 from rfl,Nat.and_two_pow_sub_one_eq_mod]
 exact wrap_u32 (by omega)
theorem fdiv_pow (x k:Nat) (h:k≤32):(x:Int).fdiv (2^min k 32)=((x/2^k:Nat):Int):=by
 rw[Nat.min_eq_left h,Int.fdiv_eq_ediv_of_nonneg _ (by exact_mod_cast Nat.zero_le (2^k))]
 norm_cast
set_option maxHeartbeats 1000000 in
theorem Xq (s:Bs) (o most a hv:Nat) (S:SS) (hs:s.length≤1000000000) (ho:o≤s.length) (hm:most≤1000000) (hr:bA s a hv (8*o+S.p)) (hol:S.out.length≤most) (he:S.err=0) :
    Eng.Spec Tryz.prog 233 (aN s o most a hv S.out) [.ab eL 0] (fun h' v ar=>PT s o most S.out (eD (s.drop o) S) h' v∧ar=[.ab eL 0]):=by
 refine Cod.Xr (fun E R hN hR=>?_)
 have htl:(s.drop o).length=s.length-o:=List.length_drop
 have hb:=qG s o S.p a hv 14 hs hr (by omega)
 rw[xK]at hR
 obtain⟨p,out,err⟩:=S
 simp only at he hr hol hb hR ⊢
 subst he
 refine ib ?_
 refine bf [(RD,.var (aP s a hv o))] hb vV nofun ?_
 rintro h' v ar ⟨a1,hv1,hr1,rfl,rfl,rfl⟩
 by_cases h14:14≤8*(s.drop o).length-p
 ·rw[if_pos h14]at hr1
  rw[if_pos h14,decide_eq_true h14]
  rw[if_neg (by omega)]at hR
  refine⟨bV,rfl,?_⟩
  have hlt:=fQ (s.drop o) p 14
  have m5:=qu (s.drop o) p (m:=5) (n:=14) (by decide)
  have d5:=nD (s.drop o) p (m:=5) (n:=14) (by decide)
  have d10:=nD (s.drop o) p (m:=10) (n:=14) (by decide)
  have m55:=qu (s.drop o) (p+5) (m:=5) (n:=9) (by decide)
  generalize numAt (s.drop o) p 14=x at *
  have f5:=fdiv_pow x 5 (by decide)
  have f10:=fdiv_pow x 10 (by decide)
  have c1:=oD (n:=x) (by omega)
  have c2:=oD (n:=x/2^5) (by omega)
  have w1:x%32=numAt (s.drop o) p 5:=m5
  have w2:x/2^5%32=numAt (s.drop o) (p+5) 5:=by rw[d5];exact m55
  have w3:x/2^10=numAt (s.drop o) (p+10) 4:=d10
  rw[←w1,←w2,←w3]at hR
  have b1:x%32<32:=Nat.mod_lt _ (by decide)
  have b2:x/2^5%32<32:=Nat.mod_lt _ (by decide)
  have b3:x/2^10<16:=by omega
  generalize x%32=y1 at *
  generalize x/2^5%32=y2 at *
  generalize x/2^10=y3 at *
  have bad:(286<y1+257∨30<y2+1)→R [(40014,aF.var (aP s a1 hv1 o)),(65032,aF.var [AV.ab 40014 0,AV.sl 60022 0 (List.length out),AV.int IntKind.i64 ↑most]),(60022,aF.arr 1 (List.map ub out))] (.ai [.lit (.pointer none),.lit (.pointer none),.int .i64 3]) [.ab 65032 0]:=by
   intro hx
   rw[if_pos hx]at hR
   exact jv hR 3 rfl (by decide) a1 hv1 bl
  by_cases hx1:286<y1+257
  ·have bad:=bad (.inl hx1)
   refine dW f5 f10 c1 c2 ?_
   refine gG ?_
   exact bad
  ·by_cases hx2:30<y2+1
   ·have bad:=bad (.inr hx2)
    refine dW f5 f10 c1 c2 ?_
    refine gG ?_
    exact bad
   ·rw[if_neg (by omega)]at hR
    clear bad
    have hf:=Wf s o most a1 hv1 out (y1+257) (y2+1) (y3+4) (p+14) _ (E:=E) (R:=R) hN hs ho hR hr1 (by omega) (by omega) (by omega) (by omega) (by omega) rfl
    clear hR
    refine dW f5 f10 c1 c2 ?_
    refine gG ?_
    simp only[aP]at hf
    refine ic ?_
    exact hf
 ·rw[if_neg h14]at hr1
  rw[if_neg h14,decide_eq_false h14]
  rw[if_pos (by omega)]at hR
  refine⟨bV,rfl,?_⟩
  refine wW ?_
  exact jv hR 6 rfl (by decide) a1 hv1 bl
theorem and1 {n:Nat} (h:n<65536):bits .and .u32 (n:Int) 1=((n%2:Nat):Int):=by
 show IntKind.u32.wrap ((BitVec.ofInt 32 (n:Int) &&& BitVec.ofInt 32 ((1:Nat):Int)).toNat:Int)=_
 rw[BitVec.ofInt_natCast,BitVec.ofInt_natCast,BitVec.toNat_and,BitVec.toNat_ofNat,BitVec.toNat_ofNat,Nat.mod_eq_of_lt (by omega),Nat.mod_eq_of_lt (by decide),show(1:Nat)=2^1-1 from rfl,Nat.and_two_pow_sub_one_eq_mod]
 exact wrap_u32 (by omega)
abbrev QR (R:HP→AV→List AV→Prop):KQ:=KQ.post [.tmp 2] 1 R
abbrev rD (s:Bs) (o most:Nat) (G:SS):HP→AV→List AV→Prop:=fun h' v ar=>PI s o most G h' v∧ar=[.ab eL 0]
theorem mi {s:Bs} {o most:Nat} {G:SS} {R:HP→AV→List AV→Prop} (hR:cN (rD s o most G) R) (e:Nat) (he:G.err=e) (hne:e≠0) (a' hv':Nat) (out:Bs) {h:HP} (hh:c7 h (aN s o most a' hv' out)) :
    R h (.int .i64 (e:Nat)) [.ab 65032 0]:=
 hR.le (h':=aN s o most a' hv' out) hh ⟨⟨a',hv',out,rfl,by rw[he],fun h=>absurd h (by rw[he];exact hne)⟩,rfl⟩
def px (t:Bs) (most h:Nat) (S G:SS):Prop:=if h%2=1 then S=G else fT t most S=G
def gI (t:Bs) (most h:Nat) (S G:SS):Prop:=if S.err≠0 then G.err=S.err else px t most h S G
structure km where
 h:Nat
 l:List Nat
 d:List Nat
 a:Nat
 hv:Nat
 S:SS
def gm (s:Bs) (o most:Nat) (l:Nat) (z:km):St:=
 if l=0 then⟨[(0,.ab 65032 0),(2000000,.ab 65032 0)],aN s o most z.a z.hv z.S.out⟩
 else if l=1 then⟨[(0,.ab 65032 0),(3,.int .u32 z.h),(2000000,.ab 65032 0)],aN s o most z.a z.hv z.S.out⟩
 else⟨[(0,.ab 65032 0),(3,.int .u32 z.h),(7,ba z.l),(8,ba z.d),(2000000,.ab 65032 0)],aN s o most z.a z.hv z.S.out⟩
structure RB (s:Bs) (o most:Nat) (z:km):Prop where
 r:bA s z.a z.hv (8*o+z.S.p)
 e:z.S.err=0
 ol:z.S.out.length≤most
 hl:z.h<8
structure TB (l d:List Nat):Prop where
 Y3:∀n∈l,n≤15
 d15:∀n∈d,n≤15
 ll:l.length≤320
 dl:d.length≤320
 lc:bK l=true
 dc:bK d=true
def tn (s:Bs) (o most:Nat) (G:SS) (l:Nat) (z:km):Prop:=
 RB s o most z∧(if l=0 then fT (s.drop o) most z.S=G else if l=1 then px (s.drop o) most z.h z.S G else if l=2 then TB z.l z.d∧gI (s.drop o) most z.h (fR (s.drop o) most z.l z.d z.S) G else False)
def gR (s:Bs) (o l:Nat) (z:km):Nat:=4*(8*(s.drop o).length+1-z.S.p)+min l 2
theorem RB.pl {s:Bs} {o most:Nat} {z:km} (h:RB s o most z):z.S.p≤8*(s.drop o).length:=by
 have:=h.r.h2;have:=h.r.h3
 rw[List.length_drop];omega
set_option maxHeartbeats 2000000 in
theorem zq (s:Bs) (o most:Nat) (G:SS) (z:km) {E:Env} {R:Nat→KS} {R0:HP→AV→List AV→Prop} (hN:E.N≤1000000) (hs:s.length≤1000000000) (ho:o≤s.length) (hm:most≤1000000) (hR:cN (rD s o most G) R0) (hz:RB s o most z) (hg:fT (s.drop o) most z.S=G)
    (hJ:∀l' z' st',gR s o l' z'<gR s o 0 z→tn s o most G l' z'→Wk st' (gm s o most l' z')→(R l').ap st') :
    vcW Tryz.prog E Cod.p6 (KQ.ji R (QR R0)) ⟨[(0,.ab 65032 0),(2000000,.ab 65032 0)],aN s o most z.a z.hv z.S.out⟩:=by
 have hpl:=hz.pl
 obtain⟨h,l,d,a,hv,S⟩:=z
 obtain⟨hr,he,hol,hh⟩:=hz
 simp only at hr he hol hh hg hpl ⊢
 rw[run_eq hpl]at hg
 have htl:(s.drop o).length=s.length-o:=List.length_drop
 have hb:=qG s o S.p a hv 3 hs hr (by omega)
 refine ib ?_
 refine bf [(RD,.var (aP s a hv o))] hb vV nofun ?_
 rintro h' v ar ⟨a1,hv1,hr1,rfl,rfl,rfl⟩
 by_cases h3:3≤8*(s.drop o).length-S.p
 ·rw[if_pos h3]at hr1
  rw[if_pos h3,decide_eq_true h3]
  have hbk:fj (s.drop o) most S=_:=if_neg (show ¬8*(s.drop o).length<S.p+3 by omega)
  rw[hbk]at hg
  clear hbk
  have m1:=qu (s.drop o) S.p (m:=1) (n:=3) (by decide)
  have d1:=nD (s.drop o) S.p (m:=1) (n:=3) (by decide)
  have hlt:=fQ (s.drop o) S.p 3
  simp only at hg
  rw[←m1,show(2:Nat)=3-1 from rfl,←d1]at hg
  generalize numAt (s.drop o) S.p 3=x at *
  have f1:=fdiv_pow x 1 (by decide)
  refine⟨bV,rfl,?_⟩
  have hx1:x%2^1=x%2:=rfl
  have hx2:x/2^1=x/2:=rfl
  rw[hx1,hx2]at hg
  rw[hx2]at f1
  have hxl:x/2<4:=by omega
  -- the end of a block
  have hdone:∀S':SS,(if x/2=0 then fH (s.drop o) most {S with p:=S.p+3} else if x/2=1 then fR (s.drop o) most gj gi {S with p:=S.p+3}
      else if x/2=2 then(if(eD (s.drop o) {S with p:=S.p+3}).2.err≠0 then(eD (s.drop o) {S with p:=S.p+3}).2 else fR (s.drop o) most (eD (s.drop o) {S with p:=S.p+3}).1.1 (eD (s.drop o) {S with p:=S.p+3}).1.2 (eD (s.drop o) {S with p:=S.p+3}).2)else {S with p:=S.p+3,err:=3})=S' →
      gI (s.drop o) most x S' G:=by
   intro S' hS'
   rw[hS']at hg
   unfold gI
   by_cases hSe:S'.err=0
   ·rw[if_neg (by simpa using hSe)]
    unfold px
    by_cases hx:x%2=1
    ·rw[if_pos (.inr (by simpa using hx))]at hg
     rw[if_pos hx];exact hg
    ·rw[if_neg (fun h=>h.elim (fun h=>h hSe) (fun h=>hx (by simpa using h)))]at hg
     rw[if_neg hx];exact hg
   ·rw[if_pos (.inl hSe)]at hg
    rw[if_pos hSe,hg]
  clear hg
  have hr1':bA s a1 hv1 (8*o+(S.p+3)):=hr1
  refine aw f1 ?_
  obtain hk | hk | hk | hk:x/2=0∨x/2=1∨x/2=2∨x/2=3:=by omega
  ·rw[hk]
   have hst:=Wa s o most a1 hv1 {S with p:=S.p+3} hs ho hm hr1' hol he
   have hc:=hdone _ (if_pos hk)
   have hmv:Mv (s.drop o) most {S with p:=S.p+3} (fH (s.drop o) most {S with p:=S.p+3}):=An
   generalize fH (s.drop o) most {S with p:=S.p+3}=F at *
   refine wW ?_
   refine bf (aN s o most a1 hv1 S.out) hst bl nofun ?_
   rintro h' v ar ⟨⟨a2,hv2,out2,rfl,rfl,hF⟩,rfl⟩
   refine⟨bl,rfl,?_⟩
   unfold gI at hc
   by_cases hFe:F.err=0
   ·obtain⟨rfl,hr2⟩:=hF hFe
    rw[if_neg (by simpa using hFe)]at hc
    refine aw hFe ?_
    have h1:=hmv.p
    simp only at h1
    exact hJ 1 ⟨x,[],[],a2,hv2,F⟩ _ (by simp only[gR];omega) ⟨⟨hr2,hFe,hmv.o hol,by simp only;omega⟩,by rw[if_neg (by decide),if_pos rfl];exact hc⟩ (.le (by simp(disch:=omega)only[go_sem,simprocAttr,gm,aN,aP]))
   ·rw[if_pos hFe]at hc
    have hi:¬((F.err:Nat):Int)=0:=by omega
    refine aw hi ?_
    exact mi hR F.err hc hFe a2 hv2 out2 bl
  ·rw[hk]
   have hc:=hdone _ ((if_neg (by omega)).trans (if_pos hk))
   refine wW ?_
   refine aC Tn rfl rfl ?_
   simp(disch:=omega)only[go_sem,simprocAttr,ba]
   refine hJ 2 ⟨x,gj,gi,a1,hv1,{S with p:=S.p+3}⟩ _ (by simp only[gR];omega) ⟨⟨hr1',he,hol,by simp only;omega⟩,?_⟩ (.le ?_)
   ·rw[if_neg (by decide),if_neg (by decide),if_pos rfl]
    exact⟨⟨kJ.1,kH.1,by simp only;rw[kJ.2.1];decide,by simp only;rw[kH.2.1];decide,kJ.2.2,kH.2.2⟩,hc⟩
   ·simp(disch:=omega)only[go_sem,simprocAttr,gm,aN,aP,ba]
  ·rw[hk]
   have hit:=Xq s o most a1 hv1 {S with p:=S.p+3} hs ho hm hr1' hol he
   have hc:=hdone _ ((if_neg (by omega)).trans ((if_neg (by omega)).trans (if_pos hk)))
   have hmv:Mv (s.drop o) most {S with p:=S.p+3} (eD (s.drop o) {S with p:=S.p+3}).2:=tT
   have hdo:=ME (s.drop o) {S with p:=S.p+3}
   generalize eD (s.drop o) {S with p:=S.p+3}=D at *
   refine wW ?_
   refine bf (aN s o most a1 hv1 S.out) hit bl nofun ?_
   rintro h' v ar ⟨⟨a2,hv2,rfl,hbad,hgood⟩,rfl⟩
   by_cases hDe:D.2.err=0
   ·obtain⟨rfl,hr2,hc1,hc2,hl1,hl2,hn1,hn2⟩:=hgood hDe
    rw[if_neg (by simpa using hDe)]at hc
    refine⟨bl,rfl,?_⟩
    refine va ?_
    have h1:=hmv.p
    simp only at h1 hdo
    refine hJ 2 ⟨x,D.1.1,D.1.2,a2,hv2,D.2⟩ _ (by simp only[gR];omega) ⟨⟨hr2,hDe,by simp only;rw[hdo];exact hol,by simp only;omega⟩,?_⟩ (.le ?_)
    ·rw[if_neg (by decide),if_neg (by decide),if_pos rfl]
     exact⟨⟨hl1,hl2,by simp only;omega,hn2,hc1,hc2⟩,hc⟩
    ·simp(disch:=omega)only[go_sem,simprocAttr,gm,aN,aP,ba,hdo]
   ·obtain rfl:=hbad hDe
    rw[if_pos hDe]at hc
    unfold gI at hc
    rw[if_pos hDe]at hc
    refine⟨bl,rfl,?_⟩
    have hi:¬((D.2.err:Nat):Int)=0:=by omega
    simp(disch:=omega)only[go_sem,simprocAttr,hi,uU]
    exact mi hR D.2.err hc hDe a2 hv2 S.out bl
  ·rw[hk]
   have hc:=hdone _ ((if_neg (by omega)).trans ((if_neg (by omega)).trans (if_neg (by omega))))
   unfold gI at hc
   rw[if_pos (by simp)]at hc
   refine wW ?_
   exact mi hR 3 hc (by decide) a1 hv1 S.out bl
 ·rw[if_neg h3]at hr1
  rw[if_neg h3,decide_eq_false h3]
  have hbk:fj (s.drop o) most S=(true,{S with err:=6}):=if_pos (show 8*(s.drop o).length<S.p+3 by omega)
  rw[hbk,if_pos (.inl (by simp))]at hg
  refine⟨bV,rfl,?_⟩
  refine wW ?_
  exact mi hR 6 (by rw[←hg]) (by decide) a1 hv1 S.out bl
set_option maxHeartbeats 2000000 in
theorem VJ (s:Bs) (o most:Nat) (G:SS) (z:km) {E:Env} {R:Nat→KS} {R0:HP→AV→List AV→Prop} (hN:E.N≤1000000) (hs:s.length≤1000000000) (ho:o≤s.length) (hm:most≤1000000) (hR:cN (rD s o most G) R0) (hz:RB s o most z) (ht:TB z.l z.d) (hg:gI (s.drop o) most z.h (fR (s.drop o) most z.l z.d z.S) G)
    (hJ:∀l' z' st',gR s o l' z'<gR s o 2 z→tn s o most G l' z'→Wk st' (gm s o most l' z')→(R l').ap st') :
    vcW Tryz.prog E (.seq .skip Cod.tp) (KQ.ji R (QR R0)) ⟨[(0,.ab 65032 0),(3,.int .u32 z.h),(7,ba z.l),(8,ba z.d),(2000000,.ab 65032 0)],aN s o most z.a z.hv z.S.out⟩:=by
 have hpl:=hz.pl
 obtain⟨h,l,d,a,hv,S⟩:=z
 obtain⟨hr,he,hol,hh⟩:=hz
 simp only at hr he hol hh hg hpl ht ⊢
 rw[afO hpl,if_neg (by simpa using he)]at hg
 have htl:(s.drop o).length=s.length-o:=List.length_drop
 have cT:=tf l ht.Y3 ht.ll ht.lc s a hv o (8*o+S.p) (by omega) hr
 rw[←uv]at cT
 simp only[ba]at cT
 generalize hre:readL (bF l) (ck (s.drop o) S.p)=re at *
 simp(disch:=omega)only[go_sem,simprocAttr,aN,ba]
 refine bf [(RD,.var (aP s a hv o))] cT vV nofun ?_
 rintro h' v ar ⟨a2,hv2,p2,sy,hr2,rfl,rfl,hk2,rfl⟩
 refine⟨bV,rfl,?_⟩
 by_cases hre2:re.2.2=0
 ·obtain⟨rfl,rfl⟩:=hk2 hre2
  have hsym:bP (s.drop o) l S=(re.1,{S with p:=S.p+re.2.1}):=by
   have:=rb (t:=s.drop o) (l:=l) (S:=S) he (by rw[hre];exact hre2)
   simp only[hre]at this
   exact this
  have hrb:=nK (bF l) (ck (s.drop o) S.p) (by rw[hre];exact hre2)
  rw[hre,uw]at hrb
  have hcl:(bF l).length=l.length:=by simp[bF]
  have hll:=ht.ll
  rw[show 8*o+S.p+re.2.1=8*o+(S.p+re.2.1)by omega]at hr2
  have hst:eS (s.drop o) most l d S=(if re.1=256 then(true,{S with p:=S.p+re.2.1})else if re.1<256 then(false,fb most (UInt8.ofNat re.1) {S with p:=S.p+re.2.1})else(false,hU (s.drop o) most d re.1 {S with p:=S.p+re.2.1})):=by
   unfold eS
   rw[hsym]
   exact if_neg (by simpa using he)
  rw[hst]at hg
  have hp2:S.p<S.p+re.2.1∧S.p+re.2.1≤8*(s.drop o).length:=by omega
  generalize S.p+re.2.1=p2 at *
  have hsy:re.1≤320:=by omega
  generalize re.1=sy at *
  by_cases h256:sy=256
  ·rw[if_pos h256,if_pos rfl]at hg
   unfold gI at hg
   rw[if_neg (by simpa using he)]at hg
   refine bc hre2 h256 ?_
   refine hJ 1 ⟨h,[],[],a2,hv2,{S with p:=p2}⟩ _ (by simp only[gR];omega) ⟨⟨hr2,he,hol,hh⟩,?_⟩ (.le ?_)
   ·rw[if_neg (by decide),if_pos rfl];exact hg
   ·simp(disch:=omega)only[go_sem,simprocAttr,gm,aN,aP]
  ·rw[if_neg h256]at hg
   have hi:¬((sy:Nat):Int)=256:=by omega
   refine bc hre2 hi ?_
   -- behind the symbol
   refine fV (y:=Cod.zo) hN (fun y:Nat×Nat×Bs×SS=>⟨[(0,.ab 65032 0),(3,.int .u32 h),(5,.int .i64 y.2.2.2.err),(7,ba l),(8,ba d),(2000000,.ab 65032 0)],aN s o most y.1 y.2.1 y.2.2.1⟩)
    (fun y=>Mv (s.drop o) most {S with p:=p2} y.2.2.2∧gI (s.drop o) most h (fR (s.drop o) most l d y.2.2.2) G∧(y.2.2.2.err=0→y.2.2.1=y.2.2.2.out∧bA s y.1 y.2.1 (8*o+y.2.2.2.p))) (fun R2 hR2=>?_) (fun y hy=>?_)
   ·by_cases hlt:sy<256
    ·rw[if_pos hlt,if_neg (by simp)]at hg
     simp only at hg
     have hput:=zk s o most a2 hv2 S.out hm hol (UInt8.ofNat sy)
     have hmv:Mv (s.drop o) most {S with p:=p2} (fb most (UInt8.ofNat sy) {S with p:=p2}):=nw
     have hF:fb most (UInt8.ofNat sy) {S with p:=p2}=⟨p2,if S.out.length=most then S.out else S.out++[UInt8.ofNat sy],if S.out.length=most then 2 else 0⟩:=by
      unfold fb
      rw[if_neg (by simpa using he)]
      simp only
      by_cases hf:S.out.length=most
      ·rw[if_pos (by omega),if_pos hf,if_pos hf]
      ·rw[if_neg (by omega),if_neg hf,if_neg hf,he]
     have hb:((UInt8.ofNat sy).toNat:Int)=(sy:Int):=by rw[UInt8.toNat_ofNat'];omega
     rw[hb]at hput
     generalize fb most (UInt8.ofNat sy) {S with p:=p2}=F at *
     have hF1:F.out=(if S.out.length=most then S.out else S.out++[UInt8.ofNat sy]):=by rw[hF]
     have hF2:F.err=(if S.out.length=most then 2 else 0):=by rw[hF]
     have hF3:F.p=p2:=by rw[hF]
     rw[←hF1,←hF2]at hput
     clear hF hF1
     have hlt2:((sy:Nat):Int)<256:=by omega
     refine aw hlt2 ?_
     refine bf (aN s o most a2 hv2 S.out) hput bl nofun ?_
     rintro h' v ar ⟨rfl,rfl,rfl⟩
     refine⟨bl,rfl,?_⟩
     refine va ?_
     exact hR2 (a2,hv2,F.out,F) _ ⟨hmv,hg,fun _=>⟨rfl,by rw[hF3];exact hr2⟩⟩ (.le oh)
    ·rw[if_neg hlt,if_neg (by simp)]at hg
     simp only at hg
     have hrp:=UY s o most a2 hv2 {S with p:=p2} d sy hs ho hm hr2 hol he ht.d15 ht.dl ht.dc (by omega) (by omega)
     have hmv:Mv (s.drop o) most {S with p:=p2} (hU (s.drop o) most d sy {S with p:=p2}):=tU
     generalize hU (s.drop o) most d sy {S with p:=p2}=F at *
     have hlt2:¬((sy:Nat):Int)<256:=by omega
     simp only[ba]at hrp
     simp(disch:=omega)only[go_sem,simprocAttr,hlt2,ba]
     refine bf (aN s o most a2 hv2 S.out) hrp bl nofun ?_
     rintro h' v ar ⟨⟨a3,hv3,out3,rfl,rfl,hF⟩,rfl⟩
     refine⟨bl,rfl,?_⟩
     refine va ?_
     exact hR2 (a3,hv3,out3,F) _ ⟨hmv,hg,hF⟩ (.le oh)
   ·obtain⟨a3,hv3,out3,F⟩:=y
    obtain⟨g1,g2,g3⟩:=hy
    simp only at g1 g2 g3 ⊢
    by_cases hFe:F.err=0
    ·obtain⟨rfl,hr3⟩:=g3 hFe
     simp(disch:=omega)only[go_sem,simprocAttr,hFe,ba]
     have h1:=g1.p
     have h2:=g1.q hp2.2
     simp only at h1
     refine hJ 2 ⟨h,l,d,a3,hv3,F⟩ _ (by simp only[gR];omega) ⟨⟨hr3,hFe,g1.o hol,hh⟩,?_⟩ (.le ?_)
     ·rw[if_neg (by decide),if_neg (by decide),if_pos rfl]
      exact⟨ht,g2⟩
     ·simp(disch:=omega)only[go_sem,simprocAttr,gm,aN,aP,ba]
    ·rw[show fR (s.drop o) most l d F=F from ue _ hFe]at g2
     unfold gI at g2
     rw[if_pos hFe]at g2
     have hi:¬((F.err:Nat):Int)=0:=by omega
     simp(disch:=omega)only[go_sem,simprocAttr,hi,ba]
     exact mi hR F.err g2 hFe a3 hv3 out3 bl
 ·have hsym:bP (s.drop o) l S=(0,{S with err:=re.2.2}):=by
   have:=ra (t:=s.drop o) (l:=l) (S:=S) he (by rw[hre];exact hre2)
   simp only[hre]at this
   exact this
  have hst:eS (s.drop o) most l d S=(true,{S with err:=re.2.2}):=by
   unfold eS
   rw[hsym]
   exact if_pos hre2
  rw[hst,if_pos rfl]at hg
  unfold gI at hg
  rw[if_pos hre2]at hg
  have hi:¬((re.2.2:Nat):Int)=0:=by omega
  refine aw hi ?_
  exact mi hR re.2.2 hg hre2 a2 hv2 S.out bl
set_option maxHeartbeats 1000000 in
theorem VI (s:Bs) (o most a hv:Nat) (S:SS) (hs:s.length≤1000000000) (ho:o≤s.length) (hm:most≤1000000) (hr:bA s a hv (8*o+S.p)) (hol:S.out.length≤most) (he:S.err=0) :
    Eng.Spec Tryz.prog 215 (aN s o most a hv S.out) [.ab eL 0] (fun h' v ar=>PI s o most (fT (s.drop o) most S) h' v∧ar=[.ab eL 0]):=by
 refine Cod.VK (fun E R hN hR=>?_)
 generalize hG:fT (s.drop o) most S=G at *
 refine ib ?_
 refine aor hN (gm s o most) (tn s o most G) (gR s o) (fun R1 hR1=>?_) (fun l z hz=>?_)
 ·refine wW ?_
  refine fV (y:=Cod.p6) hN (fun _:Unit=>⟨[(0,.ab 65032 0),(2000000,.ab 65032 0)],aN s o most a hv S.out⟩) (fun _=>True) (fun R2 hR2=>?_) (fun _ _=>?_)
  ·refine wW ?_
   exact hR2 () _ trivial (.le bl)
  ·exact zq s o most G ⟨0,[],[],a,hv,S⟩ hN hs ho hm hR ⟨hr,he,hol,by simp⟩ hG (fun l' z' st' _ h1 h2=>hR1 l' z' st' h1 h2)
 ·obtain⟨h1,h2⟩:=hz
  by_cases l0:l=0
  ·subst l0
   rw[if_pos rfl]at h2
   refine⟨.seq .skip (.bq Cod.p6),rfl,fun R1 hR1=>?_⟩
   simp(disch:=omega)only[go_sem,simprocAttr,gm]
   refine mA hN ?_
   exact zq s o most G z hN hs ho hm hR h1 h2 hR1
  ·rw[if_neg l0]at h2
   by_cases l1:l=1
   ·subst l1
    rw[if_pos rfl]at h2
    refine⟨.seq .skip Cod.zp,rfl,fun R1 hR1=>?_⟩
    have ha:=and1 (n:=z.h) (by have:=h1.hl;omega)
    unfold px at h2
    by_cases hx:z.h%2=1
    ·rw[if_pos hx]at h2
     have hi:¬((z.h%2:Nat):Int)=0:=by omega
     simp(disch:=omega)only[go_sem,simprocAttr,gm,ha,hi,aN]
     refine hR.le (h':=aN s o most z.a z.hv z.S.out) bl ⟨⟨z.a,z.hv,z.S.out,rfl,?_,fun _=>by rw[←h2];exact⟨rfl,h1.r⟩⟩,rfl⟩
     rw[←h2,h1.e];rfl
    ·rw[if_neg hx]at h2
     have hi:((z.h%2:Nat):Int)=0:=by omega
     simp(disch:=omega)only[go_sem,simprocAttr,gm,ha,hi,aN]
     refine hR1 0 z _ (by simp only[gR];omega) ⟨h1,by rw[if_pos rfl];exact h2⟩ (.le ?_)
     simp(disch:=omega)only[go_sem,simprocAttr,gm,aN,aP]
   ·rw[if_neg l1]at h2
    by_cases l2:l=2
    ·subst l2
     rw[if_pos rfl]at h2
     exact⟨.seq .skip Cod.tp,rfl,fun R1 hR1=>VJ s o most G z hN hs ho hm hR h1 h2.1 h2.2 hR1⟩
    ·rw[if_neg l2]at h2
     exact h2.elim
theorem Hb (s:Bs) (a:Nat) (hs:s.length≤1000000000000) (ha:a≤s.length):Eng.Spec Tryz.prog 214 [] [.str s,.int .i64 a] (fun h r ar=>h=[(RD,.var (aP s a 0 a))]∧r=.ab RD 0∧ar=[.undef,.undef]):=by
 refine Cod.Hc (fun E R hN hR=>?_)
 have e:max (0:Int) (min (a:Int) (s.length:Int))=a:=by omega
 refine aw e ?_
 exact hR.le (by simp(disch:=omega)only[go_sem,simprocAttr,aP,numAt]) ⟨rfl,rfl,rfl⟩
set_option maxHeartbeats 1000000 in
theorem TY (s:Bs) (o most:Nat) (hs:s.length≤1000000000) (ho:o≤s.length) (hm:most≤65536) :
    aO Tryz.prog 180 [.str s,.int .i64 o,.int .i64 most] (.ai [.str (eV (s.drop o) most).1,.int .i64 ((eV (s.drop o) most).2.1:Nat),.int .i64 ((eV (s.drop o) most).2.2:Nat)]):=by
 refine Cod.TZ (fun E R hN hR=>?_)
 have htl:(s.drop o).length=s.length-o:=List.length_drop
 have pZ:=Hb s o (by omega) ho
 have hr0:bA s o 0 (8*o+0):=⟨by omega,ho,by omega⟩
 have hrun:=VI s o most o 0 ⟨0,[],0⟩ hs ho (by omega) hr0 (by simp) rfl
 unfold eV at hR
 simp only at hR
 generalize hF:fT (s.drop o) most ⟨0,[],0⟩=F at *
 refine wW ?_
 refine gG ?_
 refine bf [] pZ trivial (fun _=>rfl) ?_
 rintro h' v as' ⟨rfl,rfl,rfl⟩
 refine⟨bV,rfl,?_⟩
 refine wW ?_
 refine ky ⟨[(33,.ab 65032 0),(9,.ab 65032 0)],aN s o most o 0 []⟩ (.kY 65032 1 60022 1 [.ab 40014 0,.aq,.int .i64 most] rfl rfl rfl (.le ?_)) rfl ?_
 ·exact bl
 refine bf (aN s o most o 0 []) hrun bl nofun ?_
 rintro h' v ar ⟨⟨a3,hv3,out3,rfl,rfl,hPI⟩,rfl⟩
 refine⟨bl,rfl,?_⟩
 by_cases he:F.err=0
 ·obtain⟨rfl,hr3⟩:=hPI he
  rw[if_neg (by simpa using he)]at hR
  have hu:=ajy s a3 hv3 o (8*o+F.p) (by omega) hr3 (by omega)
  have e1:(8*o+F.p+7)/8-o=(F.p+7)/8:=by omega
  rw[e1]at hu
  simp only[aP]at hu
  simp(disch:=omega)only[go_sem,simprocAttr,he,aN,aP]
  refine oY [] vV hu trivial (fun _=>rfl) ?_
  rintro h' v ar ⟨rfl,rfl,rfl⟩
  refine⟨rfl,rfl,?_⟩
  refine wW ?_
  exact hR.wk (h':=[]) (r':=.ai [.str F.out,.int .i64 ((F.p+7)/8:Nat),.int .i64 (0:Nat)]) (ar':=[.undef,.undef,.undef]) rfl (.le vV) ⟨rfl,rfl⟩
 ·rw[if_pos he]at hR
  have hi:¬((F.err:Nat):Int)=0:=by omega
  refine aw hi ?_
  exact hR.wk (h':=[]) (r':=.ai [.str [],.int .i64 (0:Nat),.int .i64 (F.err:Nat)]) (ar':=[.undef,.undef,.undef]) rfl (.le vV) ⟨rfl,rfl⟩
open Eng Sh
set_option maxRecDepth 10000
theorem Am {t:Bs} {most:Nat}:∀(k:Nat) (S:SS),Mv t most S (mo t most k S)
 | 0,_=>.refl
 | k+1,S=>by
  unfold mo
  split
  ·exact mb.1
  ·exact mb.1.trans (Am k _)
theorem zg (t:Bs) (most:Nat):(eV t most).1.length≤most∧(eV t most).2.1≤t.length:=by
 unfold eV
 simp only
 have h:=Am (t:=t) (most:=most) (8*t.length+1-0) ⟨0,[],0⟩
 have h1:(fT t most ⟨0,[],0⟩).p≤8*t.length:=h.q (by simp)
 have h2:(fT t most ⟨0,[],0⟩).out.length≤most:=h.o (by simp)
 split
 ·exact⟨by simp,by simp⟩
 ·exact⟨h2,by simp only;omega⟩
def dP (t:Bs) (most:Nat):Bs×Nat×Nat:=
 if t.length<2 then([],0,6)else if nk (t.getD 0 0).toNat (t.getD 1 0).toNat=false then([],0,3)else
 if(eV (t.drop 2) most).2.2≠0 then([],0,(eV (t.drop 2) most).2.2)else
 if t.length-(2+(eV (t.drop 2) most).2.1)<4 then([],0,6)else
 if fX ((t.drop (2+(eV (t.drop 2) most).2.1)).take 4)≠ko (eV (t.drop 2) most).1 then([],0,5)else((eV (t.drop 2) most).1,(eV (t.drop 2) most).2.1+6,0)
theorem ry (t:Bs) (most:Nat):(dP t most).1.length≤most∧(dP t most).2.1≤t.length:=by
 have h:=zg (t.drop 2) most
 rw[List.length_drop]at h
 unfold dP
 split
 ·exact⟨by simp,by simp⟩
 ·split
  ·exact⟨by simp,by simp⟩
  ·split
   ·exact⟨by simp,by simp⟩
   ·split
    ·exact⟨by simp,by simp⟩
    ·split
     ·exact⟨by simp,by simp⟩
     ·exact⟨h.1,by simp only;omega⟩
abbrev zV (Z:Bs×Nat×Nat):AV:=.ai [.str Z.1,.int .i64 (Z.2.1:Nat),.int .i64 (Z.2.2:Nat)]
set_option maxHeartbeats 1000000 in
theorem Dj (s:Bs) (o most:Nat) (hs:s.length≤1000000) (ho:o≤s.length) (hm:most≤65536):aO Tryz.prog 132 [.str s,.int .i64 o,.int .i64 most] (zV (dP (s.drop o) most)):=by
 refine Cod.arq (fun E R hN hR=>?_)
 unfold dP at hR
 have hdl:(s.drop o).length=s.length-o:=List.length_drop
 rw[hdl]at hR
 by_cases h2:s.length-o<2
 ·rw[if_pos h2]at hR
  have hi:(s.length:Int)-(o:Int)<2:=by omega
  refine aw hi ?_
  refine bW hi ?_
  exact hR.ro ⟨rfl,rfl⟩
 ·rw[if_neg h2]at hR
  have hi:¬(s.length:Int)-(o:Int)<2:=by omega
  have gd:∀i,(s.drop o).getD i 0=s.getD (o+i) 0:=fun i=>by rw[List.getD_eq_getElem?_getD,List.getElem?_drop,←List.getD_eq_getElem?_getD]
  rw[gd,gd,Nat.add_zero]at hR
  have hh:=aqT (s.getD o 0) (s.getD (o+1) 0)
  by_cases hb:nk (s.getD o 0).toNat (s.getD (o+1) 0).toNat=false
  ·rw[if_pos hb]at hR
   rw[hb]at hh
   refine aw hi ?_
   refine bW hi ?_
   refine aC hh rfl rfl ?_
   refine wW ?_
   exact hR.ro ⟨rfl,rfl⟩
  ·rw[if_neg hb]at hR
   rw[show nk (s.getD o 0).toNat (s.getD (o+1) 0).toNat=true by simpa using hb]at hh
   have hinf:=TY s (o+2) most (by omega) (by omega) hm
   have hil:=zg (s.drop (o+2)) most
   rw[List.drop_drop]at hR
   generalize eV (s.drop (o+2)) most=I at *
   rw[List.length_drop]at hil
   refine aw hi ?_
   refine bW hi ?_
   refine aC hh rfl rfl ?_
   refine wW ?_
   refine aC hinf rfl rfl ?_
   by_cases he:I.2.2=0
   ·rw[if_neg (by simpa using he)]at hR
    by_cases h4:s.length-o-(2+I.2.1)<4
    ·rw[if_pos h4]at hR
     have hj:(s.length:Int)-((o:Int)+2+(I.2.1:Int))<4:=by omega
     refine bc he hj ?_
     exact hR.ro ⟨rfl,rfl⟩
    ·rw[if_neg h4]at hR
     have hj:¬(s.length:Int)-((o:Int)+2+(I.2.1:Int))<4:=by omega
     rw[List.drop_drop]at hR
     have e1:o+(2+I.2.1)=o+2+I.2.1:=by omega
     rw[e1]at hR
     generalize hu:(s.drop (o+2+I.2.1)).take 4=u at *
     have hul:u.length=4:=by rw[←hu,List.length_take,List.length_drop];omega
     have hfb:=OL u (by omega)
     have had:=DK I.1 (by omega)
     have hal:=DE I.1
     have hbl:fX u<4294967296:=by
      have:=rW u 4 (by omega)
      rw[List.take_of_length_le (by omega)]at this
      exact this
     have et:((o:Int)+2+(I.2.1:Int)).toNat=o+2+I.2.1:=by omega
     have et4:((o:Int)+2+(I.2.1:Int)+4).toNat-(o+2+I.2.1)=4:=by omega
     refine jD he hj et et4 hu ?_
     refine aC hfb rfl rfl ?_
     refine wW ?_
     refine aC had rfl rfl ?_
     generalize fX u=x at *
     generalize ko I.1=y at *
     by_cases hxy:x=y
     ·rw[if_neg (by simpa using hxy)]at hR
      have hi:((x:Nat):Int)=(y:Int):=by omega
      refine aw hi ?_
      exact hR.ro ⟨rfl,rfl⟩
     ·rw[if_pos hxy]at hR
      have hi:¬((x:Nat):Int)=(y:Int):=by omega
      refine aw hi ?_
      exact hR.ro ⟨rfl,rfl⟩
   ·rw[if_pos he]at hR
    have hj:¬((I.2.2:Nat):Int)=0:=by omega
    refine aw hj ?_
    exact hR.ro ⟨rfl,rfl⟩
end Go.Proofs.YtoalcafkffmiiaaGreatDoor.Pk
namespace Go.Proofs.YtoalcafkffmiiaaGreatDoor.Cod
open Eng Eng.Kz
set_option maxRecDepth 100000
abbrev agk:AK:=.seq (.aa [u 140021 21 (.ah (.t 0)),u 140022 22 (.au (.t 21)),u 140023 23 (.aj false 0 1 (.t 22)),u 140024 24 (.ld false 1 (.t 23)),u 140025 25 (.ah (.t 0)),u 140026 26 (.au (.t 25)),u 140027 27 (.aj false 1 1 (.t 26)),u 140028 28 (.ld false 1 (.t 27)),u 140029 29 (.bin .sub (.t 28) (ci 1)),.v 30 (.cI (.t 24) (.t 29)),.v 31 (.bh .i64 (.t 30)),m 2 31] [2,2000000]) .ret
abbrev agj:AK:=.seq (.aa [m 14 0,.v 15 (.au (.t 14)),.v 16 (.aj false 1 1 (.t 15)),.v 17 (.ld false 1 (.t 16)),bi 18 .add 17 1,.v 19 (.au (.t 14)),.v 20 (.aj false 1 1 (.t 19)),.an false 140000 (.st 1 (.t 20) (.t 18))] [0,2000000]) agk
abbrev agm:AK:=.cc [.v 13 (.fx 189 (ci 6))] (.an false 140000 (.dJ (.t 13))) [] [0,2000000]
abbrev agl:AK:=.seq (.aa [u 140003 3 (.ah (.t 0)),u 140004 4 (.au (.t 3)),u 140005 5 (.aj false 1 1 (.t 4)),u 140006 6 (.ld false 1 (.t 5)),u 140007 7 (.ah (.t 0)),u 140008 8 (.au (.t 7)),u 140009 9 (.aj false 0 1 (.t 8)),u 140010 10 (.ld false 1 (.t 9)),u 140011 11 (.len true (.t 10)),b 12 .geq 6 11] [0,2,12,2000000]) (.cond (.t 12) agm .skip)
abbrev agi:AK:=.seq agl agj
abbrev agh:AK:=.seq (.aa [k 2 (ci 0)] [0,2,2000000]) agi
abbrev pbyte:AK:=agh
theorem Bd:aD Tryz.prog 188 140000 1 pbyte [.tmp 2]:=⟨_,Tryz.func188,by kernel_rfl⟩
theorem agn {h:HP} {a0:AV} {V:Value} (hp:kl Tryz.prog pbyte V [(0,a0),(2000000,a0)] h):Eng.dQ Tryz.prog 188 h [a0] V:=mv Bd rfl [(0,a0),(2000000,a0)] ⟨rfl,rfl,trivial⟩ hp
theorem ago {h a0 Post} (hp:aI Tryz.prog pbyte [.tmp 2] 1 [(0,a0),(2000000,a0)] h Post):Eng.Spec Tryz.prog 188 h [a0] Post:=aK Bd rfl [(0,a0),(2000000,a0)] ⟨rfl,rfl,trivial⟩ hp
abbrev agL:AK:=.seq (.aa [m 30 5,m 31 6,m 2 30,m 3 31] [2,3,2000000]) .ret
abbrev agD:AK:=.aa [m 28 7,bi 29 .add 28 7,m 7 29] [0,2,3,4,5,6,7,2000000]
abbrev agC:AK:=.seq (.aa [m 22 6,m 23 4,bi 24 .and 23 127,m 25 7,b 26 .shl 24 25,b 27 .or 22 26,m 6 27] [0,2,3,4,5,6,7,2000000]) agD
abbrev agF:AK:=.cc [.v 21 (.fx 189 (ci 3))] (.an false 141000 (.dJ (.t 21))) [] [0,2,3,4,5,6,7,2000000]
abbrev agE:AK:=.seq (.aa [m 19 7,bi 20 .gtr 19 25] [0,2,3,4,5,6,7,20,2000000]) (.cond (.t 20) agF .skip)
abbrev agO:AK:=.seq agE agC
abbrev agG:AK:=.cc [m 17 0] (.ao (some 18) false 141018 188 [(.t 17)]) [m 4 18] [0,2,3,4,5,6,7,2000000]
abbrev agN:AK:=.seq agG agO
abbrev agH:AK:=.seq (.aa [m 15 4,bi 16 .geq 15 128] [0,2,3,5,6,7,16,2000000]) (.cond (.t 16) .skip (.exit 0))
abbrev agM:AK:=.seq agH (.block 1 agN)
abbrev agP:AK:=.loop agM
abbrev agK:AK:=.seq (.block 0 agP) agL
abbrev agJ:AK:=.seq (.aa [m 10 4,.v 11 (.bin .shr (.t 10) (.c (.int .u64 4))),bi 12 .and 11 7,m 13 4,bi 14 .and 13 15,m 5 12,m 6 14,k 7 (ci 4)] [0,2,3,4,5,6,7,2000000]) agK
abbrev agI:AK:=.cc [m 8 0] (.ao (some 9) false 141009 188 [(.t 8)]) [m 4 9] [0,2,3,4,2000000]
abbrev agB:AK:=.seq agI agJ
abbrev agA:AK:=.seq (.aa [k 2 (ci 0),k 3 (ci 0)] [0,2,3,2000000]) agB
abbrev qD:AK:=agA
theorem Bf:aD Tryz.prog 136 141000 1 qD [.tmp 2,.tmp 3]:=⟨_,Tryz.func136,by kernel_rfl⟩
theorem agR {h:HP} {a0:AV} {V:Value} (hp:kl Tryz.prog qD V [(0,a0),(2000000,a0)] h):Eng.dQ Tryz.prog 136 h [a0] V:=mv Bf rfl [(0,a0),(2000000,a0)] ⟨rfl,rfl,trivial⟩ hp
theorem agT {h a0 Post} (hp:aI Tryz.prog qD [.tmp 2,.tmp 3] 1 [(0,a0),(2000000,a0)] h Post):Eng.Spec Tryz.prog 136 h [a0] Post:=aK Bf rfl [(0,a0),(2000000,a0)] ⟨rfl,rfl,trivial⟩ hp
abbrev af7:AK:=.seq (.aa [m 22 4,m 2 22] [2,2000000]) .ret
abbrev afZ:AK:=.aa [m 16 4,bi 17 .add 16 1,.v 18 (.bin .shl (.t 17) (.c (.int .u64 7))),m 19 3,bi 20 .and 19 127,b 21 .or 18 20,m 4 21] [0,2,3,4,2000000]
abbrev af0:AK:=.cc [m 14 0] (.ao (some 15) false 142015 188 [(.t 14)]) [m 3 15] [0,2,3,4,2000000]
abbrev aga:AK:=.seq af0 afZ
abbrev af2:AK:=.cc [.v 13 (.fx 189 (ci 3))] (.an false 142000 (.dJ (.t 13))) [] [0,2,4,2000000]
abbrev af1:AK:=.seq (.aa [m 11 4,bi 12 .gtr 11 16777216] [0,2,4,12,2000000]) (.cond (.t 12) af2 .skip)
abbrev af9:AK:=.seq af1 aga
abbrev af3:AK:=.seq (.aa [m 9 3,bi 10 .geq 9 128] [0,2,4,10,2000000]) (.cond (.t 10) .skip (.exit 0))
abbrev af8:AK:=.seq af3 (.block 1 af9)
abbrev agb:AK:=.loop af8
abbrev af6:AK:=.seq (.block 0 agb) af7
abbrev af5:AK:=.seq (.aa [m 7 3,bi 8 .and 7 127,m 4 8] [0,2,3,4,2000000]) af6
abbrev af4:AK:=.cc [m 5 0] (.ao (some 6) false 142006 188 [(.t 5)]) [m 3 6] [0,2,3,2000000]
abbrev afY:AK:=.seq af4 af5
abbrev afX:AK:=.seq (.aa [k 2 (ci 0)] [0,2,2000000]) afY
abbrev qA:AK:=afX
theorem A9:aD Tryz.prog 137 142000 1 qA [.tmp 2]:=⟨_,Tryz.func137,by kernel_rfl⟩
theorem agd {h:HP} {a0:AV} {V:Value} (hp:kl Tryz.prog qA V [(0,a0),(2000000,a0)] h):Eng.dQ Tryz.prog 137 h [a0] V:=mv A9 rfl [(0,a0),(2000000,a0)] ⟨rfl,rfl,trivial⟩ hp
theorem agf {h a0 Post} (hp:aI Tryz.prog qA [.tmp 2] 1 [(0,a0),(2000000,a0)] h Post):Eng.Spec Tryz.prog 137 h [a0] Post:=aK A9 rfl [(0,a0),(2000000,a0)] ⟨rfl,rfl,trivial⟩ hp
abbrev Bk:AK:=.aa [.eff 4 false 143004 (.alloc [.int .i64 0,.int .i64 0,.int .i64 0,.str [],.int .i64 0,.str [],.int .u32 0]),.eff 5 false 143005 (.alloc [.int .i64 0])] [0,1,4,5,2000002,2000003]
abbrev aho:AK:=.seq (.aa [.v 22 (.bD [.int .i64 0,.int .i64 0,.int .i64 0,.str [],.int .i64 0,.str [],.int .u32 0] []),.an false 143000 (.st 7 (.t 4) (.t 22)),.an false 143000 (.st 1 (.t 5) (ci 1))] [4,5,2000002,2000003]) .ret
abbrev Bl:AK:=.seq (.aa [m 13 1,bi 14 .lss 13 12,m 15 14,.af 16 15 false false 143016 (.ah (.t 1)),.af 17 15 false false 143017 (.ah (.t 0)),.af 18 15 false false 143018 (.len true (.t 17)),.af 19 15 false false 143019 (.bin .sub (.t 18) (ci 20)),.af 20 15 false false 143020 (.bin .gtr (.t 16) (.t 19)),.v 21 (.pick (.t 15) (.c (.bool true)) (.t 20))] [0,1,4,5,21,2000002,2000003]) (.cond (.t 21) aho .skip)
abbrev ahf:AK:=.seq (.aa [.v 143 (.ld true 7 (.t 4)),.an false 143000 (.st 7 (.t 4) (.t 143)),.an false 143000 (.st 1 (.t 5) (ci 0))] [4,5,2000002,2000003]) .ret
abbrev ahe:AK:=.seq (.aa [m 136 6,m 137 1,.v 138 (.aj false 1 1 (.t 4)),.v 139 (.ld false 1 (.t 138)),.v 140 (.bH (.t 136) (some (.t 137)) (some (.t 139))),.ao (some 141) false 143141 138 [(.t 140)],.v 142 (.aj false 6 1 (.t 4)),.an false 143000 (.st 1 (.t 142) (.t 141))] [4,5,2000002,2000003]) ahf
abbrev ahd:AK:=.seq (.aa [m 129 7,.v 130 (.au (.t 129)),.v 131 (.aj false 1 1 (.t 130)),.v 132 (.ld false 1 (.t 131)),m 133 12,b 134 .add 132 133,.v 135 (.aj false 1 1 (.t 4)),.an false 143000 (.st 1 (.t 135) (.t 134))] [1,4,5,6,2000002,2000003]) ahe
abbrev ahc:AK:=.seq (.aa [m 127 11,.v 128 (.aj false 3 1 (.t 4)),.an false 143000 (.st 1 (.t 128) (.t 127))] [1,4,5,6,7,12,2000002,2000003]) ahd
abbrev ahh:AK:=.cc [.v 125 (.ld false 1 (.t 5)),.v 126 (.fx 189 (.t 125))] (.an false 143000 (.dJ (.t 126))) [] [1,4,5,6,7,11,12,2000002,2000003]
abbrev ahg:AK:=.seq (.aa [.v 123 (.ld false 1 (.t 5)),bi 124 .neq 123 0] [1,4,5,6,7,11,12,124,2000002,2000003]) (.cond (.t 124) ahh .skip)
abbrev Bn:AK:=.seq ahg ahc
abbrev ahj:AK:=.aa [.an false 143000 (.st 1 (.t 5) (ci 3))] [1,4,5,6,7,11,12,2000002,2000003]
abbrev ahi:AK:=.seq (.aa [.v 111 (.ld false 1 (.t 5)),bi 112 .eql 111 2,m 113 112,.af 114 113 false false 143114 (.ld false 1 (.t 5)),.af 115 113 false false 143115 (.bin .eql (.t 114) (ci 0)),.af 116 113 false false 143116 (.ah (.t 115)),.af 117 116 true false 143117 (.ah (.t 11)),.af 118 116 true false 143118 (.len true (.t 117)),.af 119 116 true false 143119 (.ah (.t 9)),.af 120 116 true false 143120 (.bin .lss (.t 118) (.t 119)),.af 121 113 false false 143121 (.pick (.t 116) (.t 120) (.c (.bool false))),.v 122 (.pick (.t 113) (.c (.bool true)) (.t 121))] [1,4,5,6,7,11,12,122,2000002,2000003]) (.cond (.t 122) ahj .skip)
def ahb:AK:=.seq ahi (.bq Bn)
abbrev aha:AK:=.seq (.aa [m 101 6,m 102 7,.v 103 (.au (.t 102)),.v 104 (.aj false 1 1 (.t 103)),.v 105 (.ld false 1 (.t 104)),m 106 9,.ao (some 107) false 143107 132 [(.t 101),(.t 105),(.t 106)],m 100 107,.v 108 (.ext (.t 100) 0),.v 109 (.ext (.t 100) 1),.v 110 (.ext (.t 100) 2),m 11 108,m 12 109,.an false 143000 (.st 1 (.t 5) (.t 110))] [1,4,5,6,7,9,11,12,2000002,2000003]) ahb
abbrev ahl:AK:=.cc [.v 99 (.fx 189 (ci 2))] (.an false 143000 (.dJ (.t 99))) [] [1,4,5,6,7,9,2000002,2000003]
abbrev ahk:AK:=.seq (.aa [m 97 9,bi 98 .gtr 97 65000] [1,4,5,6,7,9,98,2000002,2000003]) (.cond (.t 98) ahl .skip)
abbrev Bm:AK:=.seq ahk aha
abbrev ahr:AK:=.aa [m 62 1,m 63 10,b 64 .sub 62 63,.v 65 (.aj false 4 1 (.t 4)),.an false 143000 (.st 1 (.t 65) (.t 64))] [1,4,5,6,7,9,2000002,2000003]
abbrev aht:AK:=.cc [.v 61 (.fx 189 (ci 3))] (.an false 143000 (.dJ (.t 61))) [] [1,4,5,6,7,9,10,2000002,2000003]
abbrev ahs:AK:=.seq (.aa [m 53 10,bi 54 .lss 53 1,m 55 54,.af 56 55 false false 143056 (.ah (.t 10)),.af 57 55 false false 143057 (.ah (.t 1)),.af 58 55 false false 143058 (.bin .sub (.t 57) (ci 12)),.af 59 55 false false 143059 (.bin .gtr (.t 56) (.t 58)),.v 60 (.pick (.t 55) (.c (.bool true)) (.t 59))] [1,4,5,6,7,9,10,60,2000002,2000003]) (.cond (.t 60) aht .skip)
abbrev ahq:AK:=.seq ahs ahr
abbrev ahu:AK:=.cc [m 51 7] (.ao (some 52) false 143052 137 [(.t 51)]) [m 10 52] [1,4,5,6,7,9,10,2000002,2000003]
abbrev ahp:AK:=.seq ahu ahq
abbrev ahy:AK:=.aa [m 90 7,.v 91 (.au (.t 90)),.v 92 (.aj false 1 1 (.t 91)),.v 93 (.ld false 1 (.t 92)),bi 94 .add 93 20,.v 95 (.au (.t 90)),.v 96 (.aj false 1 1 (.t 95)),.an false 143000 (.st 1 (.t 96) (.t 94))] [1,4,5,6,7,9,2000002,2000003]
abbrev ahx:AK:=.seq (.aa [u 143077 77 (.ah (.t 6)),u 143078 78 (.ah (.t 7)),u 143079 79 (.au (.t 78)),u 143080 80 (.aj false 1 1 (.t 79)),u 143081 81 (.ld false 1 (.t 80)),u 143082 82 (.ah (.t 7)),u 143083 83 (.au (.t 82)),u 143084 84 (.aj false 1 1 (.t 83)),u 143085 85 (.ld false 1 (.t 84)),u 143086 86 (.bin .add (.t 85) (ci 20)),.v 87 (.bH (.t 77) (some (.t 81)) (some (.t 86))),.ao (some 88) false 143088 37 [(.t 87)],.v 89 (.aj false 5 1 (.t 4)),.an false 143000 (.st 1 (.t 89) (.t 88))] [1,4,5,6,7,9,2000002,2000003]) ahy
abbrev ahA:AK:=.cc [.v 76 (.fx 189 (ci 6))] (.an false 143000 (.dJ (.t 76))) [] [1,4,5,6,7,9,2000002,2000003]
abbrev ahz:AK:=.seq (.aa [m 68 6,.v 69 (.len true (.t 68)),m 70 7,.v 71 (.au (.t 70)),.v 72 (.aj false 1 1 (.t 71)),.v 73 (.ld false 1 (.t 72)),b 74 .sub 69 73,bi 75 .lss 74 20] [1,4,5,6,7,9,75,2000002,2000003]) (.cond (.t 75) ahA .skip)
abbrev ahw:AK:=.seq ahz ahx
abbrev ahB:AK:=.cc [.v 43 (.fx 189 (ci 10))] (.an false 143000 (.dJ (.t 43))) [] [1,4,5,6,7,9,2000002,2000003]
abbrev ahv:AK:=.seq (.aa [bi 67 .eql 42 7,m 66 67] [1,4,5,6,7,9,66,2000002,2000003]) (.cond (.t 66) ahw ahB)
abbrev Bo:AK:=.seq (.aa [bi 50 .eql 42 6,m 49 50] [1,4,5,6,7,9,42,49,2000002,2000003]) (.cond (.t 49) ahp ahv)
abbrev ahG:AK:=.aa [bi 48 .eql 42 4,m 44 48] [1,4,5,6,7,9,42,44,2000002,2000003]
abbrev ahF:AK:=.seq (.aa [bi 47 .eql 42 3,m 44 47] [1,4,5,6,7,9,42,44,2000002,2000003]) (.cond (.t 44) .skip ahG)
abbrev ahE:AK:=.seq (.aa [bi 46 .eql 42 2,m 44 46] [1,4,5,6,7,9,42,44,2000002,2000003]) (.cond (.t 44) .skip ahF)
abbrev ahC:AK:=.seq (.aa [bi 45 .eql 42 1,m 44 45] [1,4,5,6,7,9,42,44,2000002,2000003]) (.cond (.t 44) .skip ahE)
def ahn:AK:=.seq ahC (.bq (.cond (.t 44) .skip Bo))
abbrev ahm:AK:=.seq (.aa [m 42 8] [1,4,5,6,7,9,42,2000002,2000003]) (.block 0 ahn)
def ahL:AK:=.seq ahm (.bq Bm)
abbrev ahK:AK:=.seq (.aa [m 40 8,.v 41 (.aj false 2 1 (.t 4)),.an false 143000 (.st 1 (.t 41) (.t 40))] [1,4,5,6,7,8,9,2000002,2000003]) ahL
abbrev ahH:AK:=.cc [m 36 7] (.ao (some 37) false 143037 136 [(.t 36)]) [m 35 37,.v 38 (.ext (.t 35) 0),.v 39 (.ext (.t 35) 1),m 8 38,m 9 39] [1,4,5,6,7,8,9,2000002,2000003]
abbrev ahJ:AK:=.seq ahH ahK
abbrev ahI:AK:=.seq (.aa [m 33 1,.v 34 (.aj false 0 1 (.t 4)),.an false 143000 (.st 1 (.t 34) (.t 33))] [1,4,5,6,7,2000002,2000003]) ahJ
abbrev ahD:AK:=.seq (.aa [m 29 6,m 30 1,.v 31 (.bD [.str [],.int .i64 0] [(0,1,(.t 29)),(1,1,(.t 30))]),.eff 32 false 143032 (.box 2 (.t 31)),m 7 32] [1,4,5,6,7,2000002,2000003]) ahI
abbrev Bp:AK:=.seq (.aa [m 24 0,m 25 0,.v 26 (.len true (.t 25)),bi 27 .sub 26 20,.v 28 (.bH (.t 24) none (some (.t 27))),m 6 28] [1,4,5,6,2000002,2000003]) ahD
abbrev pread:AK:=seqK [Bk,Bl] (.seq (.eo 135 [(.c (.ai [.int .i64 23])),(.t 4),(.t 5)]) Bp)
theorem ahM:aD Tryz.prog 85 143000 24 pread [.cell 4 true 7,.cell 5 false 1]:=⟨_,Tryz.func85,by kernel_rfl⟩
theorem ahN {h a0 a1 Post} (hI:jF Tryz.prog 135 2) (hp:oy Tryz.prog [Bk,Bl] Bp 135 23 [(.t 4),(.t 5)] 143000 2 [.cell 4 true 7,.cell 5 false 1] [(0,a0),(1,a1)] h Post):Eng.Spec Tryz.prog 85 h [a0,a1] Post:=uL ahM rfl (Nat.le_of_ble_eq_true rfl) (Nat.le_of_ble_eq_true rfl) hI [(0,a0),(1,a1)] ⟨rfl,rfl,trivial⟩ hp
end Go.Proofs.YtoalcafkffmiiaaGreatDoor.Cod
