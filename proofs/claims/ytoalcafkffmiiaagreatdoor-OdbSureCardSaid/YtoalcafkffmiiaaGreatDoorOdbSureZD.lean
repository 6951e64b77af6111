/- The proof, part 30 of 42. -/
import Derived.Test.YtoalcafkffmiiaaGreatDoorOdbSureZB
import Derived.Test.YtoalcafkffmiiaaGreatDoorOdbSureZC
import Derived.Test.YtoalcafkffmiiaaGreatDoorProg
import Derived.KernelRfl
set_option linter.all false
namespace Go.Proofs.YtoalcafkffmiiaaGreatDoor.Pk
open Eng
set_option maxRecDepth 10000
def RD:Nat:=40014
attribute [go_sem] RD
def aR (s:Bs) (a hv fr:Nat):List AV:=[.str s,.int .i64 a,.int .u64 (numAt s (8*a-hv) hv:Nat),.int .i64 hv,.int .i64 fr]
theorem bX {p:Prop} (h:p:=by simp(disch:=first | omega | (simp only[Lx];omega))only[go_sem,simprocAttr,aR]):p:=h
theorem iA {a b:Prop} (k:b) (h:b→a:=by intro h;simp(disch:=first | omega | (simp only[Lx];omega))only[go_sem,simprocAttr,aR];exact h):a:=h k
theorem aqE {E0:Prop} {a b:Prop} (e0:E0) (k:b) (h:E0→b→a:=by intro e0 h;simp(disch:=first | omega | (simp only[Lx];omega))only[go_sem,simprocAttr,aR,e0];exact h):a:=h e0 k
theorem vB {E0 E1:Prop} {a b:Prop} (e0:E0) (e1:E1) (k:b) (h:E0→E1→b→a:=by intro e0 e1 h;simp(disch:=first | omega | (simp only[Lx];omega))only[go_sem,simprocAttr,aR,e0,e1];exact h):a:=h e0 e1 k
theorem aqF {E0 E1 E2:Prop} {a b:Prop} (e0:E0) (e1:E1) (e2:E2) (k:b) (h:E0→E1→E2→b→a:=by intro e0 e1 e2 h;simp(disch:=first | omega | (simp only[Lx];omega))only[go_sem,simprocAttr,aR,e0,e1,e2];exact h):a:=h e0 e1 e2 k
structure bz (s:Bs) (a hv p:Nat):Prop where
 h1:hv≤39
 h2:a≤s.length
 h3:p+hv=8*a
theorem um {x k b:Nat} (hx:x<2^k) (hk:k≤56) (hb:b<256):bits .or .u64 (x:Int) (IntKind.u64.wrap ((b:Int)*2^min k 64))=((x+b*2^k:Nat):Int):=by
 have hp:2^k≤2^56:=Nat.pow_le_pow_right (by decide) hk
 have h2:b*2^k<2^64:=Nat.lt_of_le_of_lt (Nat.mul_le_mul (show b≤255 by omega) hp) (by decide)
 have h3:x+b*2^k<2^64:=by
  have:(b+1)*2^k≤256*2^56:=Nat.mul_le_mul (by omega) hp
  rw[Nat.add_mul]at this
  omega
 have e:IntKind.u64.wrap ((b:Int)*2^min k 64)=((b*2^k:Nat):Int):=by
  rw[Nat.min_eq_left (by omega),show((b:Int)*2^k)=((b*2^k:Nat):Int)by push_cast;rfl]
  exact wrap_u64 (by omega)
 rw[e]
 show IntKind.u64.wrap ((BitVec.ofInt 64 (x:Int) ||| BitVec.ofInt 64 ((b*2^k:Nat):Int)).toNat:Int)=_
 rw[BitVec.ofInt_natCast,BitVec.ofInt_natCast,BitVec.toNat_or,BitVec.toNat_ofNat,BitVec.toNat_ofNat,Nat.mod_eq_of_lt (by omega),Nat.mod_eq_of_lt h2,Nat.or_comm,←Nat.shiftLeft_eq,←Nat.shiftLeft_add_eq_or_of_lt hx,Nat.shiftLeft_eq,Nat.add_comm]
 exact wrap_u64 (by omega)
theorem yA (s:Bs) (a hv fr p n:Nat) (hs:s.length≤1000000000000) (h:bz s a hv p) (hn:n≤32):Eng.Spec Tryz.prog 260 [(RD,.var (aR s a hv fr))] [.ab RD 0,.int .i64 n]
    (fun h' v ar=>∃a' hv',bz s a' hv' p∧(n≤hv'∨a'=s.length)∧h'=[(RD,.var (aR s a' hv' fr))]∧v=.ai []∧ar=[.ab RD 0,.int .i64 n]):=by
 refine Cod.OB (fun E R hN hR=>?_)
 refine wW ?_
 refine ba hN (fun q:Nat×Nat=>⟨[(0,.ab RD 0),(1,.int .i64 n),(2000000,.ab RD 0),(2000001,.int .i64 n)],[(RD,.var (aR s q.1 q.2 fr))]⟩) (fun q=>bz s q.1 q.2 p) (fun q=>s.length-q.1) (a,hv) (.le bX) h ?_
 rintro⟨a,hv⟩ R1 ⟨h1,h2,h3⟩ hR1
 simp only at h1 h2 h3
 by_cases hlt:hv<n
 ·by_cases hat:a<s.length
  ·have hb:=(s.getD a 0).toNat_lt
   have ho:=um (fY s (8*a-hv) hv) (show hv≤56 by omega) (b:=(s.getD a 0).toNat) (by omega)
   have hf:=acp s a hv (by omega)
   rw[←hf]at ho
   refine iA ?_
   refine gG ?_
   rw[ho]
   exact hR1 (a+1,hv+8) _ (by simp only;omega) ⟨by simp only;omega,by simp only;omega,by simp only;omega⟩ (.le (by simp(disch:=omega)only[go_sem,simprocAttr,aR,show 8*(a+1)-(hv+8)=8*a-hv by omega]))
  ·refine iA ?_
   refine gG ?_
   exact hR.le bX ⟨a,hv,⟨h1,h2,h3⟩,.inr (by omega),rfl,rfl,rfl⟩
 ·refine iA ?_
  refine gG ?_
  exact hR.le bX ⟨a,hv,⟨h1,h2,h3⟩,.inl (by omega),rfl,rfl,rfl⟩
theorem Fc (x n:Nat) (hx:x<2^64) (hn:n≤32):bits .and .u64 (x:Int) (IntKind.u64.wrap (IntKind.u64.wrap (1*2^min n 64)-1))=((x%2^n:Nat):Int):=by
 have hp:2^n≤2^32:=Nat.pow_le_pow_right (by decide) hn
 have hp1:0<2^n:=Nat.pow_pos (by decide)
 have e:IntKind.u64.wrap (IntKind.u64.wrap (1*2^min n 64)-1)=((2^n-1:Nat):Int):=by
  have e1:IntKind.u64.wrap (1*2^n)=((2^n:Nat):Int):=by
   rw[show((1:Int)*2^n)=((2^n:Nat):Int)by rw[Int.one_mul];push_cast;rfl]
   exact wrap_u64 (by omega)
  rw[Nat.min_eq_left (by omega),e1,show(((2^n:Nat):Int)-1)=((2^n-1:Nat):Int)by omega]
  exact wrap_u64 (by omega)
 rw[e]
 show IntKind.u64.wrap ((BitVec.ofInt 64 (x:Int) &&& BitVec.ofInt 64 ((2^n-1:Nat):Int)).toNat:Int)=_
 rw[BitVec.ofInt_natCast,BitVec.ofInt_natCast,BitVec.toNat_and,BitVec.toNat_ofNat,BitVec.toNat_ofNat,Nat.mod_eq_of_lt hx,Nat.mod_eq_of_lt (by omega),Nat.and_two_pow_sub_one_eq_mod]
 have:=Nat.mod_lt x hp1
 exact wrap_u64 (by omega)
def cO (s:Bs) (p:Nat):Nat:=8*s.length-p
theorem agL (s:Bs) (a hv fr p n:Nat) (hs:s.length≤1000000000000) (h:bz s a hv p) (hn:n≤32):Eng.Spec Tryz.prog 241 [(RD,.var (aR s a hv fr))] [.ab RD 0,.int .i64 n]
    (fun h' v ar=>∃a' hv',bz s a' hv' p∧(n≤hv'∨a'=s.length)∧h'=[(RD,.var (aR s a' hv' fr))]∧v=.ai [.int .u32 (numAt s p (min n hv'):Nat),.int .i64 (min n hv':Nat)]∧ar=[.ab RD 0,.int .i64 n]):=by
 refine Cod.agM (fun E R hN hR=>?_)
 refine wW ?_
 refine gG ?_
 refine bj [(RD,.var (aR s a hv fr))] (yA s a hv fr p n hs h hn) vV nofun ?_
 rintro h' v ar ⟨a',hv',⟨h1,h2,h3⟩,hor,rfl,rfl,rfl⟩
 refine⟨bX,rfl,?_⟩
 have hx:=fY s p hv'
 have hx2:numAt s p hv'<2^64:=Nat.lt_of_lt_of_le hx (Nat.pow_le_pow_right (by decide) (by omega))
 have ha:=Fc (numAt s p hv') n hx2 hn
 have e1:numAt s p hv'%2^n=numAt s p (min n hv'):=by
  by_cases hh:n≤hv'
  ·rw[Nat.min_eq_left hh,qH s p hh]
  ·rw[Nat.min_eq_right (by omega),Nat.mod_eq_of_lt (Nat.lt_of_lt_of_le hx (Nat.pow_le_pow_right (by decide) (by omega)))]
 rw[e1]at ha
 have hx3:numAt s p (min n hv')<2^32:=Nat.lt_of_lt_of_le (fY s p _) (Nat.pow_le_pow_right (by decide) (by omega))
 have ew:IntKind.u32.wrap ((numAt s p (min n hv'):Nat):Int)=(numAt s p (min n hv'):Nat):=wrap_u32 (by omega)
 have em:min (n:Int) (hv':Int)=((min n hv':Nat):Int):=by omega
 simp(disch:=omega)only[go_sem,simprocAttr,aR,show 8*a'-hv'=p by omega,ha,ew,em]
 exact hR.le (by simp(disch:=omega)only[go_sem,simprocAttr,aR,show 8*a'-hv'=p by omega]) ⟨a',hv',⟨h1,h2,h3⟩,hor,rfl,rfl,rfl⟩
theorem amU (s:Bs) (a hv fr p n:Nat) (hs:s.length≤1000000000000) (h:bz s a hv p) (hn:n≤32):Eng.Spec Tryz.prog 242 [(RD,.var (aR s a hv fr))] [.ab RD 0,.int .i64 n]
    (fun h' v ar=>∃a' hv',bz s a' hv' (if n≤cO s p then p+n else p)∧h'=[(RD,.var (aR s a' hv' fr))]∧v=.bool (decide (n≤cO s p))∧ar=[.ab RD 0,.int .i64 n]):=by
 refine Cod.amV (fun E R hN hR=>?_)
 refine wW ?_
 refine gG ?_
 refine bj [(RD,.var (aR s a hv fr))] (yA s a hv fr p n hs h hn) vV nofun ?_
 rintro h' v ar ⟨a',hv',⟨h1,h2,h3⟩,hor,rfl,rfl,rfl⟩
 refine⟨bX,rfl,?_⟩
 by_cases hlt:hv'<n
 ·have hno:¬n≤cO s p:=by unfold cO;rcases hor with ho | ho<;>omega
  refine iA ?_
  exact hR.le bX ⟨a',hv',by rw[if_neg hno];exact⟨h1,h2,h3⟩,rfl,by rw[decide_eq_false hno],rfl⟩
 ·have hyes:n≤cO s p:=by unfold cO;omega
  have hd:((numAt s p hv':Nat):Int).fdiv (2^min n 64)=((numAt s (p+n) (hv'-n):Nat):Int):=by
   rw[Nat.min_eq_left (by omega),←nU s p (show n≤hv' by omega),Int.fdiv_eq_ediv_of_nonneg _ (Int.pow_nonneg (by decide)),Int.natCast_ediv,Int.natCast_pow];rfl
  simp(disch:=omega)only[go_sem,simprocAttr,aR,show 8*a'-hv'=p by omega,hd]
  refine hR.le ?_ ⟨a',hv'-n,by rw[if_pos hyes];exact⟨by omega,h2,by omega⟩,rfl,by rw[decide_eq_true hyes],rfl⟩
  rw[show((hv':Int)-(n:Int))=((hv'-n:Nat):Int)by omega]
  simp(disch:=omega)only[go_sem,simprocAttr,aR,show 8*a'-(hv'-n)=p+n by omega]
theorem qU (s:Bs) (a hv fr p n:Nat) (hs:s.length≤1000000000000) (h:bz s a hv p) (hn:n≤32):Eng.Spec Tryz.prog 230 [(RD,.var (aR s a hv fr))] [.ab RD 0,.int .i64 n]
    (fun h' v ar=>∃a' hv',bz s a' hv' (if n≤cO s p then p+n else p)∧h'=[(RD,.var (aR s a' hv' fr))]∧v=.ai [.int .u32 (if n≤cO s p then numAt s p n else 0:Nat),.bool (decide (n≤cO s p))]∧ar=[.ab RD 0,.int .i64 n]):=by
 refine Cod.ail (fun E R hN hR=>?_)
 refine wW ?_
 refine bj [(RD,.var (aR s a hv fr))] (agL s a hv fr p n hs h hn) vV nofun ?_
 rintro h' v ar ⟨a',hv',h1,hor,rfl,rfl,rfl⟩
 refine⟨bX,rfl,?_⟩
 refine wW ?_
 refine bj [(RD,.var (aR s a' hv' fr))] (amU s a' hv' fr p n hs h1 hn) vV nofun ?_
 rintro h' v ar ⟨a2,hv2,h2,rfl,rfl,rfl⟩
 refine⟨bX,rfl,?_⟩
 by_cases hyes:n≤cO s p
 ·have hm:min n hv'=n:=by
   have:=h1.h3;have:=h1.h2
   unfold cO at hyes
   rcases hor with ho | ho<;>omega
  refine bc hyes hm ?_
  exact hR.le vV ⟨a2,hv2,h2,rfl,by rw[if_pos hyes,decide_eq_true hyes],rfl⟩
 ·refine az hyes ?_
  exact hR.le vV ⟨a2,hv2,h2,rfl,by rw[if_neg hyes,decide_eq_false hyes];rfl,rfl⟩
def dx (p:Nat):Nat:=(p+7)/8*8
theorem DC {a hv p:Nat} (h:p+hv=8*a):dx p=8*(a-hv/8):=by unfold dx;omega
theorem aib (s:Bs) (a hv fr p:Nat) (hs:s.length≤1000000000000) (h:bz s a hv p):Eng.Spec Tryz.prog 261 [(RD,.var (aR s a hv fr))] [.ab RD 0]
    (fun h' v ar=>∃hv',bz s a hv' (dx p)∧hv'=8*(hv/8)∧h'=[(RD,.var (aR s a hv' fr))]∧v=.ai []∧ar=[.ab RD 0]):=by
 refine Cod.aic (fun E R hN hR=>?_)
 obtain⟨h1,h2,h3⟩:=h
 have hp:8*a-hv=p:=by omega
 have em:(hv:Int).tmod 8=((hv%8:Nat):Int):=by rw[mQ (by omega)];omega
 have hd:((numAt s p hv:Nat):Int).fdiv (2^min (hv%8) 64)=((numAt s (p+hv%8) (hv-hv%8):Nat):Int):=by
  rw[Nat.min_eq_left (by omega),←nU s p (show hv%8≤hv by omega),Int.fdiv_eq_ediv_of_nonneg _ (Int.pow_nonneg (by decide)),Int.natCast_ediv,Int.natCast_pow];rfl
 refine aqF em hp hd ?_
 refine hR.le ?_ ⟨8*(hv/8),⟨by omega,h2,by unfold dx;omega⟩,rfl,rfl,rfl,rfl⟩
 rw[show((hv:Int)-((hv%8:Nat):Int))=((8*(hv/8):Nat):Int)by omega,show hv-hv%8=8*(hv/8)by omega]
 simp(disch:=omega)only[go_sem,simprocAttr,aR,show 8*a-8*(hv/8)=p+hv%8 by omega]
theorem uB (s:Bs) (a hv fr p:Nat) (n:Nat) (hs:s.length≤1000000000000) (hn:n≤1000000000000) (h:bz s a hv p):Eng.Spec Tryz.prog 243 [(RD,.var (aR s a hv fr))] [.ab RD 0,.int .i64 n]
    (fun h' v ar=>∃a' hv',bz s a' hv' (if n≤s.length-dx p/8 then dx p+8*n else dx p)∧(n≤s.length-dx p/8→hv'=0)∧h'=[(RD,.var (aR s a' hv' fr))] ∧
     v=.ai [.str (if n≤s.length-dx p/8 then(s.drop (dx p/8)).take n else[]),.bool (decide (n≤s.length-dx p/8))]∧ar=[.ab RD 0,.int .i64 n]):=by
 refine Cod.aiv (fun E R hN hR=>?_)
 refine wW ?_
 refine bj [(RD,.var (aR s a hv fr))] (aib s a hv fr p hs h) vV nofun ?_
 rintro h' v ar ⟨hv',⟨h1,h2,h3⟩,rfl,rfl,rfl,rfl⟩
 refine⟨bX,rfl,?_⟩
 have hub:dx p/8=a-hv/8:=by rw[DC h.h3];omega
 have hle:=h.h3
 have eq:(((8*(hv/8):Nat):Int)).tdiv 8=((hv/8:Nat):Int):=by rw[ve (by omega)];omega
 have ef:((a:Int)-((hv/8:Nat):Int))=((a-hv/8:Nat):Int):=by omega
 rw[hub]at hR
 generalize hf:a-hv/8=f at *
 have hfl:f≤s.length:=by omega
 by_cases hyes:n≤s.length-f
 ·have e1:((f:Int)+(n:Int)-(f:Int)).toNat=n:=by omega
  have e2:f+n-f=n:=by omega
  refine vB eq ef ?_
  refine gG ?_
  refine az e2 ?_
  exact hR.le (by simp(disch:=omega)only[go_sem,simprocAttr,aR,numAt]) ⟨f+n,0,by rw[if_pos hyes];exact⟨by omega,by omega,by rw[DC h.h3,hf];omega⟩,fun _=>rfl,rfl,by rw[if_pos hyes,decide_eq_true hyes],rfl⟩
 ·refine vB eq ef ?_
  refine gG ?_
  exact hR.le bX ⟨a,8*(hv/8),by rw[if_neg hyes];exact⟨h1,h2,h3⟩,fun hh=>absurd hh hyes,rfl,by rw[if_neg hyes,decide_eq_false hyes],rfl⟩
open Eng
set_option maxRecDepth 10000
def aU (xs:List Nat):List AV:=xs.map fun n:Nat=>AV.int .i64 n
theorem dN (xs:List Nat):(aU xs).length=xs.length:=by simp[aU]
theorem kc {xs:List Nat} {i:Nat} (h:i<xs.length):nth (aU xs) i=.int .i64 (xs.getD i 0:Nat):=by
 simp[nth,aU,List.getD_eq_getElem?_getD,h]
theorem jz {xs:List Nat}:(aU xs).all aP=true:=by simp[aU,aP,cellsOf,isCell]
theorem lj {xs:List Nat} {n:Nat}:aU xs++[.int .i64 (n:Int)]=aU (xs++[n]):=by simp[aU]
theorem nS {xs:List Nat} {o n:Nat}:aI (aU xs) o n=aU ((xs.drop o).take n):=by simp[aU,aI]
theorem nR:aU []=[]:=(rfl)
def cN (l:List Nat):List AV:=(List.range 16).map fun n=>AV.int .i64 (bJ l n:Nat)
theorem jV (l:List Nat):(cN l).length=16:=by simp[cN]
theorem lV (l:List Nat) {n:Nat} (h:n<16):(cN l).getD n .undef=.int .i64 (bJ l n:Nat):=by
 unfold cN
 rw[List.getD_eq_getElem?_getD,List.getElem?_map,List.getElem?_range h];rfl
theorem JJ (l:List Nat) {x:Nat} (h:x<16):(cN l).set x (.int .i64 ((bJ l x:Int)+1))=cN (l++[x]):=by
 apply List.ext_getElem?
 intro j
 rw[List.getElem?_set,jV]
 unfold cN
 rw[List.getElem?_map,List.getElem?_map]
 by_cases hx:x=j
 ·subst hx
  rw[if_pos rfl,if_pos h,List.getElem?_range h]
  simp only[Option.map_some,pz,if_true]
  rfl
 ·rw[if_neg hx]
  by_cases hj:j<16
  ·rw[List.getElem?_range hj]
   simp only[Option.map_some,pz,if_neg hx,Nat.add_zero]
  ·rw[List.getElem?_eq_none (by simp;omega)];rfl
theorem xj {id:Nat} {l:List Nat}:(cN l).map (killC id)=cN l:=by simp[cN,killC]
theorem JH {id sz:Nat} {es:List AV} {l:List Nat}:(cN l).map (bS id sz es)=cN l:=by simp[cN,bS]
theorem JI {l:List Nat}:(cN l).all noRefC=true:=by simp[cN,noRefC]
theorem sw (l:List Nat) (n:Nat):bJ l n≤l.length:=List.countP_le_length
theorem uz (l:List Nat):∀n,bF l n≤l.length*n
 | 0=>by simp[bF]
 | 1=>by simp[bF]
 | n+2=>by
  have:=uz l (n+1)
  have:=sw l (n+1)
  simp only[bF]
  rw[show n+2=(n+1)+1 by omega,Nat.mul_succ l.length (n+1)]
  omega
def jM (l:List Nat) (n k:Nat):List Nat:=(List.range k).filter fun s=>l.getD s 0==n
theorem ao0 (l:List Nat) (n k:Nat):(jM l n k).length≤k:=by
 have:=List.length_filter_le (fun s=>l.getD s 0==n) (List.range k)
 simpa[jM]using this
theorem ao1 (l:List Nat) (n k:Nat):jM l n (k+1)=jM l n k++if l.getD k 0=n then[k]else[]:=by
 unfold jM
 rw[List.range_succ,List.filter_append]
 congr 1
 by_cases h:l.getD k 0=n<;>simp[-List.getD_eq_getElem?_getD,h]
theorem aoZ (l:List Nat) (n:Nat):jM l n l.length=rA l n:=(rfl)
theorem uc {a b:AV} {xs:List AV} {i:Nat} (h:i<xs.length):((a::(xs++[b])).drop (1+i)).getD 0 .undef=xs.getD i .undef:=by
 rw[Nat.add_comm,List.drop_succ_cons,List.getD_eq_getElem?_getD,List.getElem?_drop,Nat.add_zero,List.getElem?_append_left h,List.getD_eq_getElem?_getD]
theorem Az {a b:AV} {xs:List AV} {i:Nat} (h:i<xs.length):0<((a::(xs++[b])).drop (1+i)).length:=by simp;omega
theorem abz {a b v:AV} {xs:List AV} {i:Nat} (h:i<xs.length):bW (a::(xs++[b])) (1+i) [v]=a::(xs.set i v++[b]):=by
 unfold bW
 rw[Nat.add_comm 1 i,List.take_succ_cons,show i+1+[v].length=(i+1)+1 by simp,List.drop_succ_cons,List.take_append_of_le_length (by omega),List.drop_append_of_le_length (by omega),List.set_eq_take_append_cons_drop,if_pos h]
 simp
theorem NM {a b v:AV} {xs:List AV} (h:xs.length=16):bW (a::(xs++[b])) 17 [v]=a::(xs++[v]):=by
 unfold bW
 rw[List.take_succ_cons,show 17+[v].length=17+1 by rfl,List.drop_succ_cons,List.take_left' h,List.drop_append]
 simp[h]
theorem NN {a b v:AV} {xs:List AV} (h:xs.length=16):(a::(xs++[b])).set 17 v=a::(xs++[v]):=by
 rw[List.set_cons_succ,List.set_append_right _ _ (by omega),h];rfl
theorem NL {a b:AV} {xs:List AV} (h:xs.length=16):(a::(xs++[b]))[17]?=some b:=by
 rw[List.getElem?_cons_succ,List.getElem?_append_right (by omega),h];rfl
theorem yl {a b:AV} {xs:List AV} (h:xs.length=16):(a::(xs++[b])).drop 17=[b]:=by
 rw[List.drop_succ_cons,List.drop_left' h]
def gj (l:List Nat):List AV:=.ro 1 (aU l)::(cN l++[.ro 1 (aU (sortL l 15))])
def bh (l:List Nat):AV:=.aA (.agg (gj l))
def fK (l:List Nat) (m:Nat):Int:=if m=0 then 1 else(2^m:Nat)-((fstL l m+bJ l m:Nat):Int)
theorem ajw (l:List Nat) (m:Nat):fK l (m+1)=2*fK l m-(bJ l (m+1):Int):=by
 unfold fK
 cases m with
 | zero=>simp[fstL]
 | succ m=>
  rw[if_neg (by omega),if_neg (by omega)]
  simp only[fstL]
  rw[Nat.pow_succ 2 (m+1)]
  omega
theorem room_le (l:List Nat) {m:Nat} (h:m≤15):fK l m≤32768:=by
 unfold fK
 have:(2:Nat)^m≤2^15:=Nat.pow_le_pow_right (by decide) h
 split<;>omega
theorem ajv (l:List Nat) {m:Nat} (h1:1≤m) (h2:m≤15) (h:fK l m<0):32768<dS l:=by
 refine Nat.lt_of_not_le fun hc=>?_
 have:=tN hc h1 h2
 unfold fK at h
 rw[if_neg (by omega)]at h
 omega
theorem room_end (l:List Nat):fK l 15=32768-(dS l:Int):=by
 unfold fK dS
 rw[if_neg (by omega)]
 rfl
theorem qj (l:List Nat) (hl:∀n∈l,n≤15) (hn:l.length≤320):Eng.Spec Tryz.prog 246 [] [.ro 1 (aU l)] (fun h r _=>h=[]∧r=if bL l then .ai [bh l,.int .i64 0]else .ai [.lit (.pointer none),.int .i64 4]):=by
 refine Cod.RI (fun E R hN hR=>?_)
 have hnl:=dN l
 refine bc @dN @jz ?_
 refine gG ?_
 refine ba hN (fun k:Nat=>⟨[(0,.ro 1 (aU l)),(4,.ab 49018 0),(19,.ro 1 (aU l)),(20,.int .i64 l.length),(21,.int .i64 k)],[(49018,.var (.sl 49016 0 l.length::(cN (l.take k)++[.aq]))),(49016,.arr 1 (aU l))]⟩) (fun k=>k≤l.length) (fun k=>l.length-k) 0 (.le (by simp(disch:=first | omega | (simp only[Lx];omega))only[go_sem,simprocAttr,dN];rfl)) (by omega) ?_
 rintro k R1 hk hR1
 have hcl:=jV (l.take k)
 by_cases hlt:k<l.length
 ·have hx:=tV hl k
  have htk:=fh l 0 hlt
  have hcs:=JJ (l.take k) (x:=l.getD k 0) (by omega)
  have hcb:=sw (l.take k) (l.getD k 0)
  rw[List.length_take]at hcb
  rw[←htk]at hcs
  generalize hc:l.getD k 0=x at *
  simp(disch:=first | omega | (simp only[Lx];omega))only[go_sem,simprocAttr,dN,kc,hc,uc,Az,lV,abz,Nat.mul_one]
  refine gG ?_
  rw[hcs]
  exact hR1 (k+1) _ (by omega) (by omega) (.le vV)
 ·obtain rfl:k=l.length:=by omega
  refine az @dN ?_
  have hcl:=jV l
  refine ba hN (fun m:Nat=>⟨[(0,.ro 1 (aU l)),(4,.ab 49018 0),(7,.int .i64 (fK l m)),(8,.int .i64 (bF l (m+1):Nat)),(9,.int .i64 ((m:Int)+1))],
   [(49018,.var (.sl 49016 0 l.length::(cN l++[.sl 49082 0 (sortL l m).length]))),(49016,.arr 1 (aU l)),(49082,.arr 1 (aU (sortL l m)))]⟩) (fun m=>m≤15∧0≤fK l m) (fun m=>15-m) 0
   (.lk 49018 17 49082 1 (.sl 49016 0 l.length::(cN l++[.aq])) rfl (NL hcl) rfl (.le (by simp(disch:=first | omega | (simp only[Lx];omega))only[go_sem,simprocAttr,List.map_append,xj,NN,sortL,nR,fK,bF]))) ⟨by omega,by show(0:Int)≤1;decide⟩ ?_
  rintro m R2 ⟨hm,hr⟩ hR2
  by_cases hlt:m<15
  ·have hst:=ajw l m
   have hrl:=room_le l hm
   have hcb:=sw l (m+1)
   have hpb:=uz l (m+1)
   have hpb2:l.length*(m+1)≤320*16:=Nat.mul_le_mul hn (by omega)
   have hsl:=lx l m
   refine dz @dN @uc @Az @lV @Nat.mul_one ?_
   rw[←hst]
   refine tz (fun hneg=>?_) (fun hneg=>?_)
   ·have hbad:=ajv l (by omega) (by omega) hneg
    have hck:bL l=false:=by unfold bL;rw[decide_eq_false (by omega)];rfl
    refine az hck ?_
    exact hR.ro ⟨rfl,by rw[hck];rfl⟩
   ·refine az @dN ?_
    refine ba hN (fun k:Nat=>⟨[(0,.ro 1 (aU l)),(4,.ab 49018 0),(7,.int .i64 (fK l (m+1))),(8,.int .i64 (bF l (m+2):Nat)),(9,.int .i64 ((m:Int)+1)),(65,.ro 1 (aU l)),(66,.int .i64 l.length),(67,.int .i64 k)],
     [(49018,.var (.sl 49016 0 l.length::(cN l++[.sl 49082 0 (sortL l m++jM l (m+1) k).length]))),(49016,.arr 1 (aU l)),(49082,.arr 1 (aU (sortL l m++jM l (m+1) k)))]⟩) (fun k=>k≤l.length) (fun k=>l.length-k) 0
     (.le (by simp(disch:=first | omega | (simp only[Lx];omega))only[go_sem,simprocAttr,jM,List.range_zero,List.filter_nil,List.append_nil,bF])) (by omega) ?_
    rintro k R3 hk hR3
    by_cases hlt3:k<l.length
    ·have htl:=ao0 l (m+1) k
     have hsu:=ao1 l (m+1) k
     by_cases hx:l.getD k 0=m+1
     ·rw[if_pos hx]at hsu
      simp(disch:=first | omega | (simp only[Lx];omega))only[go_sem,simprocAttr,dN,kc,hx,yl,jz,nS,List.map_append,xj,NM]
      refine hR3 (k+1) _ (by omega) (by omega) (.le ?_)
      rw[hsu,←List.append_assoc,←lj]
      exact eV @dN
     ·rw[if_neg hx,List.append_nil]at hsu
      refine dz @dN @kc @yl @jz @nS ?_
      exact hR3 (k+1) _ (by omega) (by omega) (.le (by rw[hsu];exact vV))
    ·obtain rfl:k=l.length:=by omega
     refine az @dN ?_
     refine hR2 (m+1) _ (by omega) ⟨by omega,by omega⟩ (.le ?_)
     rw[aoZ]
     simp(disch:=first | omega | (simp only[Lx];omega))only[go_sem,simprocAttr,sortL]
  ·obtain rfl:m=15:=by omega
   have hre:=room_end l
   have hpn:=uA l hl
   have hsl:=lx l 15
   have yes:bL l=true→R [(49018,.var (.sl 49016 0 l.length::(cN l++[.sl 49082 0 (sortL l 15).length]))),(49016,.arr 1 (aU l)),(49082,.arr 1 (aU (sortL l 15)))] (.ai [.ab 49018 0,.int .i64 0]) [.undef]:=by
    intro hck
    rw[hck]at hR
    refine hR.wk (h':=[]) (r':=.ai [bh l,.int .i64 0]) (ar':=[.undef]) rfl (.bH 49016 (.bH 49082 (.mh 0 0 49018 [.ab 49018 0,.int .i64 0] (gj l) vV (by rfl) ?_ ?_ (.le ?_)))) ⟨rfl,by rfl⟩
    ·simp(disch:=first | omega | (simp only[Lx];omega))only[go_sem,simprocAttr,List.map_append,JH,nS,dN,Dd,gj]
    ·simp[gj,noRefC,JI]
    ·simp(disch:=first | omega | (simp only[Lx];omega))only[go_sem,simprocAttr,bh]
   have no:bL l=false→∀h,R h (.ai [.lit (.pointer none),.int .i64 4]) [.undef]:=by
    intro hck h
    rw[hck]at hR
    exact hR.ro ⟨rfl,rfl⟩
   have hp16:bF l (15+1)=dw l:=hpn
   have hone:∀x,((cN l++[x]).drop 1).getD 0 .undef=.int .i64 (bJ l 1:Nat):=fun x=>by
    have:=uc (a:=.undef) (b:=x) (xs:=cN l) (i:=1) (by omega)
    rw[lV l (by omega)]at this
    exact this
   have honl:∀x,0<((cN l++[x]).drop 1).length:=fun x=>by simp;omega
   by_cases ha:0<fK l 15
   ·by_cases hb:dw l=0
    ·have hck:bL l=true:=by unfold bL;rw[decide_eq_true (show dS l≤32768 by omega),decide_eq_true hb];simp
     refine bc hp16 hb ?_
     refine gG ?_
     exact yes hck
    ·by_cases hc:dw l=1
     ·by_cases hd:bJ l 1=1
      ·have hck:bL l=true:=by unfold bL;rw[decide_eq_true (show dS l≤32768 by omega),decide_eq_true hc,decide_eq_true hd];simp
       refine dz hp16 hc hone honl hd ?_
       refine jY hone honl hd ?_
       exact yes hck
      ·have hck:bL l=false:=by unfold bL;rw[decide_eq_false (show ¬dS l=32768 by omega),decide_eq_false hb,decide_eq_false hd];simp
       refine eo hp16 hc hone honl ?_
       refine gB hone honl ?_
       exact no hck _
     ·have hck:bL l=false:=by unfold bL;rw[decide_eq_false (show ¬dS l=32768 by omega),decide_eq_false hb,decide_eq_false hc];simp
      refine az hp16 ?_
      refine gG ?_
      exact no hck _
   ·have hck:bL l=true:=by unfold bL;rw[decide_eq_true (show dS l≤32768 by omega),decide_eq_true (show dS l=32768 by omega)];simp
    refine az hp16 ?_
    refine gG ?_
    exact yes hck
theorem aiz {l:List Nat} (h:dw l=0) (b:List Bool):readL (bG l) b=(0,0,3):=by
 have h0:∀s,s<l.length→l.getD s 0=0:=by
  intro s hs
  refine Nat.eq_zero_of_not_pos fun hp=>?_
  unfold dw at h
  have:=List.countP_eq_zero.1 h (l.getD s 0) (by rw[List.getD_eq_getElem?_getD,List.getElem?_eq_getElem hs];exact List.getElem_mem hs)
  simp[-List.getD_eq_getElem?_getD]at this
  omega
 unfold readL
 rw[sZ (fun s hs=>tr (h0 s hs))]
 simp only
 rw[if_pos]
 rw[List.all_eq_true]
 intro c hc
 obtain⟨s,hs,rfl⟩:=List.mem_map.1 hc
 unfold cI
 rw[if_pos (h0 s (List.mem_range.1 hs))];rfl
theorem or_bit {c b:Nat} (hc:c<32768) (hb:b≤1):bits .or .i64 (IntKind.i64.wrap ((c:Int)*2^min 1 64)) (b:Int)=((2*c+b:Nat):Int):=by
 rw[show((c:Int)*2^min 1 64)=((c*2:Nat):Int)by push_cast;rfl,eW (by omega)]
 show IntKind.i64.wrap ((BitVec.ofInt 64 ((c*2:Nat):Int) ||| BitVec.ofInt 64 (b:Int)).toNat:Int)=_
 rw[BitVec.ofInt_natCast,BitVec.ofInt_natCast,BitVec.toNat_or,BitVec.toNat_ofNat,BitVec.toNat_ofNat,Nat.mod_eq_of_lt (by omega),Nat.mod_eq_of_lt (by omega)]
 have h1:c*2 ||| b=2*c+b:=by
  have:=Nat.shiftLeft_add_eq_or_of_lt (b:=b) (i:=1) (by omega) c
  rw[Nat.shiftLeft_eq]at this
  rw[show c*2=c*2^1 by rfl,←this]
  omega
 rw[h1]
 exact eW (by omega)
theorem vd (l:List Nat):((gj l).drop 1).take 16=cN l:=by
 unfold gj
 rw[List.drop_succ_cons,List.drop_zero,List.take_left' (jV l)]
theorem ao6 (l:List Nat):(gj l).getD 17 .undef=.ro 1 (aU (sortL l 15)):=by
 unfold gj
 rw[List.getD_cons_succ,List.getD_eq_getElem?_getD,List.getElem?_append_right (by rw[jV];omega),jV];rfl
theorem ao5 (l:List Nat):(gj l).length=18:=by simp[gj,jV]
set_option maxHeartbeats 1000000 in
theorem tt (l:List Nat) (hl:∀n∈l,n≤15) (hll:l.length≤320) (hck:bL l=true) (s:Bs) (a hv fr p:Nat) (hs:s.length≤1000000000000) (h:bz s a hv p):Eng.Spec Tryz.prog 234 [(RD,.var (aR s a hv fr))] [bh l,.ab RD 0]
    (fun h' v ar=>∃a' hv' p' k,bz s a' hv' p'∧h'=[(RD,.var (aR s a' hv' fr))]∧v=.ai [.int .i64 (k:Nat),.int .i64 ((readL (bG l) (cp s p)).2.2:Nat)] ∧
     ((readL (bG l) (cp s p)).2.2=0→k=(readL (bG l) (cp s p)).1∧p'=p+(readL (bG l) (cp s p)).2.1)∧ar=[bh l,.ab RD 0]):=by
 have hc:dS l≤32768:=by unfold bL at hck;simp at hck;exact hck.1
 refine Cod.Sn (fun E R hN hR=>?_)
 have hsl:=lx l 15
 have hpn:=uA l hl
 have hp16:bF l (15+1)=dw l:=hpn
 have htl:=ao5 l
 have hnum:dw l≤l.length:=List.countP_le_length
 have hts:=ao6 l
 have hnl:=dN (sortL l 15)
 have hso:∃so,sortL l 15=so:=⟨_,rfl⟩
 obtain⟨so,hso⟩:=hso
 rw[hso]at hsl hts hnl
 by_cases h0:dw l=0
 ·have hr:=aiz h0 (cp s p)
  rw[hr]at hR
  simp(disch:=omega)only[go_sem,simprocAttr,bh,htl,hts,hnl,hsl,hp16,h0]
  exact hR.le vV ⟨a,hv,p,0,h,rfl,rfl,fun e=>by simp at e,rfl⟩
 ·simp(disch:=omega)only[go_sem,simprocAttr,bh,htl,hts,hnl,hsl,hp16,h0]
  have hbl:=uI s p
  generalize hb:cp s p=b at *
  refine ba hN (fun q:Nat×Nat×Nat=>⟨[(0,.aA (.agg (gj l))),(1,.ab 40014 0),(6,.int .i64 (msb (b.take q.1):Nat)),(7,.int .i64 (fstL l (q.1+1):Nat)),(8,.int .i64 (bF l (q.1+1):Nat)),(9,.int .i64 ((q.1:Int)+1)),
   (2000000,.aA (.agg (gj l))),(2000001,.ab 40014 0)],[(40014,.var (aR s q.2.1 q.2.2 fr))]⟩)
   (fun q=>q.1<15∧bz s q.2.1 q.2.2 (p+q.1)∧q.1≤cO s p∧lN l b (q.1+1)∧fstL l (q.1+1)≤2*msb (b.take q.1)∧bF l (q.1+1)<dw l) (fun q=>15-q.1) (0,a,hv)
   (.le (by simp(disch:=omega)only[go_sem,simprocAttr,msb,List.foldl_nil,fstL,bF])) ⟨by omega,h,by omega,fun s _ h1 h2=>by omega,by simp[fstL],by simp only[bF];omega⟩ ?_
  rintro⟨n,a,hv⟩ R1 ⟨hn,hrd,hlb,hno,hj,hpre⟩ hR1
  simp only at hn hrd hlb hno hj hpre
  have hmt:=AD (b.take n)
  have hmt2:2^(b.take n).length≤2^15:=Nat.pow_le_pow_right (by decide) (by rw[List.length_take];omega)
  have hkr:=tN hc (n:=n+1) (by omega) (by omega)
  have hk2:2^(n+1)≤2^15:=Nat.pow_le_pow_right (by decide) (by omega)
  simp(disch:=omega)only[go_sem,simprocAttr,bh]
  refine bj [(RD,.var (aR s a hv fr))] (qU s a hv fr (p+n) 1 hs hrd (by omega)) vV nofun ?_
  rintro h' v ar ⟨a',hv',hrd',rfl,rfl,rfl⟩
  refine⟨bX,rfl,?_⟩
  unfold cO at hlb
  by_cases hbit:1≤cO s (p+n)
  ·rw[if_pos hbit]at hrd'
   have hbit2:=hbit
   unfold cO at hbit2
   have hbn:n<b.length:=by omega
   have hget:b.getD n false=iL s (p+n):=by rw[←hb];exact aiN s p (by omega)
   have hms:=ud b n hbn
   rw[hget,←acq]at hms
   have hx1:=fY s (p+n) 1
   have hle:=abn hbn hj
   have hob:=or_bit (c:=msb (b.take n)) (b:=numAt s (p+n) 1) (by omega) (by omega)
   rw[←hms]at hob
   have hcl:=jV l
   have hpb:=uz l (n+1)
   have hpm:=nZ l (n+2) (16-(n+2))
   rw[show n+2+(16-(n+2))=16 by omega,hpn]at hpm
   have hps:bF l (n+2)=bF l (n+1)+bJ l (n+1):=rfl
   have hfs:fstL l (n+2)=2*(fstL l (n+1)+bJ l (n+1)):=rfl
   refine oK hbit hob @vd htl hcl @lV ?_
   refine tz (fun hk=>?_) (fun hk=>?_)
   ·obtain⟨k,hke⟩:∃k,msb (b.take (n+1))=fstL l (n+1)+k:=⟨msb (b.take (n+1))-fstL l (n+1),by omega⟩
    obtain⟨sy,g1,g2,g3⟩:=abq hc hl hn hbn hno hj hke (by omega)
    rw[hso]at g1
    rw[g3]at hR
    have ei:((bF l (n+1):Nat):Int)+(((msb (b.take (n+1)):Nat):Int)-((fstL l (n+1):Nat):Int))=((bF l (n+1)+k:Nat):Int):=by omega
    simp(disch:=omega)only[go_sem,simprocAttr,hts,htl,hnl,hsl,hp16,ei,kc,g1]
    exact hR.le (by simp(disch:=omega)only[go_sem,simprocAttr,bh]) ⟨a',hv',p+n+1,sy,hrd',rfl,rfl,fun _=>⟨rfl,by show _=p+(n+1);omega⟩,rfl⟩
   ·obtain⟨g1,g2⟩:=abo hc hl hn hbn hno (by omega)
    have hw2:(((fstL l (n+1):Nat):Int)+((bJ l (n+1):Nat):Int))*2^min 1 64=((fstL l (n+2):Nat):Int):=by
     rw[hfs,show(2:Int)^min 1 64=2 by decide];push_cast;omega
    have ha2:((bF l (n+1):Nat):Int)+((bJ l (n+1):Nat):Int)=((bF l (n+2):Nat):Int):=by rw[hps];push_cast;rfl
    by_cases hend:bF l (n+2)=dw l
    ·have hr:=abp (b:=b) hl (n:=n+1) (by omega) (by omega) hend (by omega) g1
     rw[hr]at hR
     simp(disch:=omega)only[go_sem,simprocAttr,vd,hts,htl,hcl,lV,hw2,ha2,hnl,hsl,hp16,hend]
     exact hR.le (by simp(disch:=omega)only[go_sem,simprocAttr,bh]) ⟨a',hv',p+n+1,0,hrd',rfl,rfl,fun e=>by simp at e,rfl⟩
    ·have hne:¬((bF l (n+2):Nat):Int)=((dw l:Nat):Int):=by omega
     have hn15:n+1<15:=by
      refine Nat.lt_of_not_le fun hh=>?_
      have:n=14:=by omega
      subst this
      exact hend hpn
     simp(disch:=omega)only[go_sem,simprocAttr,vd,hts,htl,hcl,lV,hw2,ha2,hnl,hsl,hp16,hne]
     exact hR1 (n+1,a',hv') _ (by simp only;omega) ⟨hn15,hrd',by simp only[cO];omega,g1,g2,by show bF l (n+2)<_;omega⟩ (.le vV)
  ·have hbn:b.length=n:=by unfold cO at hbit;omega
   rw[if_neg hbit]at hrd'
   have hr:=abm (b:=b) hl hck (by omega) (by rw[hbn];exact hpre) (by rw[hbn];exact hno) (by rw[List.take_of_length_le (by omega)]at hj;rw[hbn];exact hj)
   rw[hr]at hR
   refine az hbit ?_
   exact hR.le vV ⟨a',hv',p+n,0,hrd',rfl,rfl,fun e=>by simp at e,rfl⟩
end Go.Proofs.YtoalcafkffmiiaaGreatDoor.Pk
namespace Go.Proofs.YtoalcafkffmiiaaGreatDoor.Cod
open Eng Eng.Kz
set_option maxRecDepth 100000
abbrev UU:AK:=.seq (.aa [k 4 (ci 0)] [4,2000000,2000001]) .ret
abbrev UT:AK:=.seq (.aa [m 15 0,m 16 0,.v 17 (.au (.t 16)),.v 18 (.aj false 1 1 (.t 17)),.v 19 (.ld false 1 (.t 18)),m 20 1,.eff 21 false 60021 (.bI 1 [(.t 20)]),.eff 22 false 60022 (.app 1 1 (.t 19) (.t 21)),.v 23 (.au (.t 15)),.v 24 (.aj false 1 1 (.t 23)),.an false 60000 (.st 1 (.t 24) (.t 22))] [2000000,2000001]) UU
abbrev UX:AK:=.seq (.aa [k 4 (ci 2)] [4,2000000,2000001]) .ret
abbrev UW:AK:=.seq (.aa [u 60005 5 (.af (.t 0)),u 60006 6 (.au (.t 5)),u 60007 7 (.aj false 1 1 (.t 6)),u 60008 8 (.ld false 1 (.t 7)),u 60009 9 (.len false (.t 8)),u 60010 10 (.af (.t 0)),u 60011 11 (.au (.t 10)),u 60012 12 (.aj false 2 1 (.t 11)),u 60013 13 (.ld false 1 (.t 12)),b 14 .eql 9 13] [0,1,14,2000000,2000001]) (.cond (.t 14) UX .skip)
abbrev US:AK:=.seq UW UT
abbrev UR:AK:=.seq (.aa [k 4 (ci 0)] [0,1,2000000,2000001]) US
abbrev zI:AK:=UR
theorem UY:aD Tryz.prog 235 60000 2 zI [.tmp 4]:=⟨_,Tryz.func235,by kernel_rfl⟩
theorem UZ {h a0 a1 Post} (hp:aF Tryz.prog zI [.tmp 4] 2 [(0,a0),(1,a1),(2000000,a0),(2000001,a1)] h Post):Eng.Spec Tryz.prog 235 h [a0,a1] Post:=aJ UY rfl [(0,a0),(1,a1),(2000000,a0),(2000001,a1)] ⟨rfl,rfl,rfl,rfl,trivial⟩ hp
abbrev Ww:AK:=.seq (.aa [k 2 (ci 0)] [2,2000000]) .ret
abbrev Wy:AK:=.seq (.aa [k 2 (ci 6)] [2,2000000]) .ret
abbrev Wx:AK:=.seq (.aa [m 75 4,.v 76 (.un .not (.t 75))] [76,2000000]) (.cond (.t 76) Wy .skip)
abbrev WO:AK:=.seq Wx Ww
abbrev WN:AK:=.seq (.aa [m 66 0,m 67 0,.v 68 (.au (.t 67)),.v 69 (.aj false 1 1 (.t 68)),.v 70 (.ld false 1 (.t 69)),m 71 6,.eff 72 false 61072 (.app 1 1 (.t 70) (.t 71)),.v 73 (.au (.t 66)),.v 74 (.aj false 1 1 (.t 73)),.an false 61000 (.st 1 (.t 74) (.t 72))] [4,2000000]) WO
abbrev WA:AK:=.seq (.aa [k 2 (ci 2)] [2,2000000]) .ret
abbrev Wz:AK:=.seq (.aa [u 61053 53 (.af (.t 6)),u 61054 54 (.len true (.t 53)),u 61055 55 (.af (.t 0)),u 61056 56 (.au (.t 55)),u 61057 57 (.aj false 2 1 (.t 56)),u 61058 58 (.ld false 1 (.t 57)),u 61059 59 (.af (.t 0)),u 61060 60 (.au (.t 59)),u 61061 61 (.aj false 1 1 (.t 60)),u 61062 62 (.ld false 1 (.t 61)),u 61063 63 (.len false (.t 62)),u 61064 64 (.bin .sub (.t 58) (.t 63)),b 65 .gtr 54 64] [0,4,6,65,2000000]) (.cond (.t 65) WA .skip)
abbrev WM:AK:=.seq Wz WN
abbrev WC:AK:=.aa [u 61040 40 (.af (.t 0)),u 61041 41 (.au (.t 40)),u 61042 42 (.aj false 0 1 (.t 41)),u 61043 43 (.ld false 1 (.t 42)),u 61044 44 (.af (.t 0)),u 61045 45 (.au (.t 44)),u 61046 46 (.aj false 0 1 (.t 45)),u 61047 47 (.ld false 1 (.t 46)),.ao (some 48) true 61048 245 [(.t 47)],u 61049 49 (.bin .quo (.t 48) (ci 8)),.ao (some 50) false 61050 243 [(.t 43),(.t 49)],m 39 50,u 61051 51 (.ext (.t 39) 0),u 61052 52 (.ext (.t 39) 1),u 61006 6 (.af (.t 51))] [0,4,6,2000000]
abbrev WB:AK:=.seq (.aa [m 37 4,.v 38 (.un .not (.t 37))] [0,4,6,38,2000000]) (.cond (.t 38) WC .skip)
def zU:AK:=.seq WB (.bl WM)
abbrev WL:AK:=.seq (.aa [m 29 0,.v 30 (.au (.t 29)),.v 31 (.aj false 0 1 (.t 30)),.v 32 (.ld false 1 (.t 31)),m 33 5,.ao (some 34) false 61034 243 [(.t 32),(.t 33)],m 28 34,.v 35 (.ext (.t 28) 0),.v 36 (.ext (.t 28) 1),m 6 35,m 4 36] [0,4,6,2000000]) zU
abbrev WG:AK:=.seq (.aa [k 2 (ci 3)] [2,2000000]) .ret
abbrev WE:AK:=.seq (.aa [m 21 5,bi 22 .xor 21 65535,m 23 3,.v 24 (.bB (.t 23) (some (ci 2)) none),.ao (some 25) false 61025 244 [(.t 24)],.v 26 (.a7 .i64 (.t 25)),b 27 .neq 22 26] [0,5,27,2000000]) (.cond (.t 27) WG .skip)
abbrev WK:AK:=.seq WE WL
abbrev WJ:AK:=.seq (.aa [m 17 3,.v 18 (.bB (.t 17) none (some (ci 2))),.ao (some 19) false 61019 244 [(.t 18)],.v 20 (.a7 .i64 (.t 19)),m 5 20] [0,3,5,2000000]) WK
abbrev WI:AK:=.seq (.aa [k 2 (ci 6)] [2,2000000]) .ret
abbrev WH:AK:=.seq (.aa [m 15 4,.v 16 (.un .not (.t 15))] [0,3,16,2000000]) (.cond (.t 16) WI .skip)
abbrev WD:AK:=.seq WH WJ
abbrev Wv:AK:=.seq (.aa [m 8 0,.v 9 (.au (.t 8)),.v 10 (.aj false 0 1 (.t 9)),.v 11 (.ld false 1 (.t 10)),.ao (some 12) false 61012 243 [(.t 11),(ci 4)],m 7 12,.v 13 (.ext (.t 7) 0),.v 14 (.ext (.t 7) 1),m 3 13,m 4 14] [0,3,4,2000000]) WD
abbrev Wu:AK:=.seq (.aa [k 2 (ci 0)] [0,2000000]) Wv
abbrev zT:AK:=Wu
theorem WQ:aD Tryz.prog 231 61000 1 zT [.tmp 2]:=⟨_,Tryz.func231,by kernel_rfl⟩
theorem WS {h a0 Post} (hp:aF Tryz.prog zT [.tmp 2] 1 [(0,a0),(2000000,a0)] h Post):Eng.Spec Tryz.prog 231 h [a0] Post:=aJ WQ rfl [(0,a0),(2000000,a0)] ⟨rfl,rfl,trivial⟩ hp
abbrev W4:AK:=.seq (.aa [m 184 24,m 185 26,m 2 184,m 3 185,k 4 (ci 0)] [2,3,4,2000000]) .ret
abbrev W6:AK:=.seq (.aa [k 2 (.c (.lit (.pointer none))),k 3 (.c (.lit (.pointer none))),k 4 (ci 3)] [2,3,4,2000000]) .ret
abbrev W5:AK:=.seq (.aa [m 172 16,.v 173 (.aM 1 (.t 172) (ci 256)),.v 174 (.ld false 1 (.t 173)),bi 175 .eql 174 0,m 176 175,.ah 177 176 false false 62177 (.af (.t 25)),.ah 178 176 false false 62178 (.bin .neq (.t 177) (ci 0)),.v 179 (.pick (.t 176) (.c (.bool true)) (.t 178)),m 180 179,.ah 181 180 false false 62181 (.af (.t 27)),.ah 182 180 false false 62182 (.bin .neq (.t 181) (ci 0)),.v 183 (.pick (.t 180) (.c (.bool true)) (.t 182))] [24,26,183,2000000]) (.cond (.t 183) W6 .skip)
abbrev W3:AK:=.seq W5 W4
abbrev WZ:AK:=.seq (.aa [m 166 16,m 167 7,.v 168 (.kp 1 (.t 166) (some (.t 167)) none),.ao (some 169) false 62169 246 [(.t 168)],m 165 169,.v 170 (.ext (.t 165) 0),.v 171 (.ext (.t 165) 1),m 26 170,m 27 171] [16,24,25,26,27,2000000]) W3
abbrev tF:AK:=.seq (.aa [m 159 16,m 160 7,.v 161 (.kp 1 (.t 159) none (some (.t 160))),.ao (some 162) false 62162 246 [(.t 161)],m 158 162,.v 163 (.ext (.t 158) 0),.v 164 (.ext (.t 158) 1),m 24 163,m 25 164] [7,16,24,25,2000000]) WZ
abbrev Xl:AK:=.aa [bi 157 .add 151 1,m 151 157] [0,7,8,14,16,21,150,151,2000000]
abbrev Xm:AK:=.aa [m 153 16,m 154 21,.eff 155 false 62155 (.bI 1 [(.t 154)]),.eff 156 false 62156 (.app 1 8 (.t 153) (.t 155)),m 16 156] [0,7,8,14,16,21,150,151,2000000]
abbrev Xk:AK:=.seq (.block 6 Xm) Xl
abbrev Xj:AK:=.seq (.cond (.t 152) .skip (.exit 5)) Xk
abbrev Xi:AK:=.seq (.aa [b 152 .lss 151 150] [0,7,8,14,16,21,150,151,152,2000000]) Xj
abbrev X3:AK:=.loop Xi
abbrev Xg:AK:=.seq (.aa [m 147 20,m 148 22,.v 149 (.a7 .i64 (.t 148)),b 150 .add 147 149,k 151 (ci 0)] [0,7,8,14,16,21,150,151,2000000]) (.block 5 X3)
abbrev Xp:AK:=.seq (.aa [k 2 (.c (.lit (.pointer none))),k 3 (.c (.lit (.pointer none))),k 4 (ci 3)] [2,3,4,2000000]) .ret
abbrev Xn:AK:=.seq (.aa [m 136 16,.v 137 (.len false (.t 136)),m 138 20,b 139 .add 137 138,m 140 22,.v 141 (.a7 .i64 (.t 140)),b 142 .add 139 141,m 143 7,m 144 8,b 145 .add 143 144,b 146 .gtr 142 145] [0,7,8,14,16,20,21,22,146,2000000]) (.cond (.t 146) Xp .skip)
abbrev Xf:AK:=.seq Xn Xg
abbrev Xr:AK:=.seq (.aa [k 2 (.c (.lit (.pointer none))),k 3 (.c (.lit (.pointer none))),k 4 (ci 6)] [2,3,4,2000000]) .ret
abbrev Xq:AK:=.seq (.aa [m 134 23,.v 135 (.un .not (.t 134))] [0,7,8,14,16,20,21,22,135,2000000]) (.cond (.t 135) Xr .skip)
abbrev Xe:AK:=.seq Xq Xf
abbrev tG:AK:=.seq (.aa [m 126 0,.v 127 (.au (.t 126)),.v 128 (.aj false 0 1 (.t 127)),.v 129 (.ld false 1 (.t 128)),m 130 19,.ao (some 131) false 62131 230 [(.t 129),(.t 130)],m 125 131,.v 132 (.ext (.t 125) 0),.v 133 (.ext (.t 125) 1),m 22 132,m 23 133] [0,7,8,14,16,20,21,22,23,2000000]) Xe
abbrev Xv:AK:=.aa [m 117 16,m 118 16,.v 119 (.len false (.t 118)),bi 120 .sub 119 1,.v 121 (.aM 1 (.t 117) (.t 120)),.v 122 (.ld false 1 (.t 121)),m 21 122] [0,7,8,14,16,19,20,21,2000000]
abbrev Xy:AK:=.seq (.aa [k 2 (.c (.lit (.pointer none))),k 3 (.c (.lit (.pointer none))),k 4 (ci 3)] [2,3,4,2000000]) .ret
abbrev Xx:AK:=.seq (.aa [m 114 16,.v 115 (.len false (.t 114)),bi 116 .eql 115 0] [0,7,8,14,16,19,20,116,2000000]) (.cond (.t 116) Xy .skip)
abbrev Xu:AK:=.seq Xx Xv
abbrev XA:AK:=.aa [k 19 (ci 3)] [0,7,8,14,16,19,20,21,2000000]
abbrev XB:AK:=.aa [k 19 (ci 7),k 20 (ci 11)] [0,7,8,14,16,19,20,21,2000000]
abbrev Xz:AK:=.seq (.aa [bi 124 .eql 111 17,m 123 124] [0,7,8,14,16,20,21,123,2000000]) (.cond (.t 123) XA XB)
abbrev Xt:AK:=.seq (.aa [bi 113 .eql 111 16,m 112 113] [0,7,8,14,16,19,20,21,111,112,2000000]) (.cond (.t 112) Xu Xz)
abbrev Xs:AK:=.seq (.aa [m 111 17] [0,7,8,14,16,19,20,21,111,2000000]) (.block 4 Xt)
def Xd:AK:=.seq Xs (.bl tG)
abbrev Xc:AK:=.seq (.aa [k 19 (ci 2),k 20 (ci 3),k 21 (ci 0)] [0,7,8,14,16,17,19,20,21,2000000]) Xd
abbrev XD:AK:=.seq (.aa [m 107 16,m 108 17,.eff 109 false 62109 (.bI 1 [(.t 108)]),.eff 110 false 62110 (.app 1 8 (.t 107) (.t 109)),m 16 110] [0,7,8,14,16,2000000]) (.exit 3)
abbrev XC:AK:=.seq (.aa [m 105 17,bi 106 .lss 105 16] [0,7,8,14,16,17,106,2000000]) (.cond (.t 106) XD .skip)
abbrev Xb:AK:=.seq XC Xc
abbrev XF:AK:=.seq (.aa [m 104 18,k 2 (.c (.lit (.pointer none))),k 3 (.c (.lit (.pointer none))),m 4 104] [2,3,4,2000000]) .ret
abbrev XE:AK:=.seq (.aa [m 102 18,bi 103 .neq 102 0] [0,7,8,14,16,17,18,103,2000000]) (.cond (.t 103) XF .skip)
abbrev Xa:AK:=.seq XE Xb
abbrev W9:AK:=.seq (.aa [m 94 14,m 95 0,.v 96 (.au (.t 95)),.v 97 (.aj false 0 1 (.t 96)),.v 98 (.ld false 1 (.t 97)),.ao (some 99) false 62099 234 [(.t 94),(.t 98)],m 93 99,.v 100 (.ext (.t 93) 0),.v 101 (.ext (.t 93) 1),m 17 100,m 18 101] [0,7,8,14,16,17,18,2000000]) Xa
abbrev XG:AK:=.seq (.aa [m 87 16,.v 88 (.len false (.t 87)),m 89 7,m 90 8,b 91 .add 89 90,b 92 .lss 88 91] [0,7,8,14,16,92,2000000]) (.cond (.t 92) .skip (.exit 2))
abbrev W7:AK:=.seq XG (.block 3 W9)
abbrev X2:AK:=.loop W7
def zX:AK:=.seq (.block 2 X2) (.bl tF)
abbrev X1:AK:=.seq (.aa [k 16 (.c (.aq))] [0,7,8,14,16,2000000]) zX
abbrev XI:AK:=.seq (.aa [k 2 (.c (.lit (.pointer none))),k 3 (.c (.lit (.pointer none))),k 4 (ci 3)] [2,3,4,2000000]) .ret
abbrev XH:AK:=.seq (.aa [m 85 15,bi 86 .neq 85 0] [0,7,8,14,86,2000000]) (.cond (.t 86) XI .skip)
abbrev XT:AK:=.seq XH X1
abbrev zZ:AK:=.seq (.aa [m 81 10,.ao (some 82) false 62082 246 [(.t 81)],m 80 82,.v 83 (.ext (.t 80) 0),.v 84 (.ext (.t 80) 1),m 14 83,m 15 84] [0,7,8,14,15,2000000]) XT
abbrev XN:AK:=.aa [bi 79 .add 59 1,m 59 79] [0,7,8,10,58,59,2000000]
abbrev XR:AK:=.aa [m 72 10,.ao (some 73) false 62073 247 [],m 74 11,.v 75 (.mr 19 (.t 73) (.t 74)),m 76 12,.v 77 (.a7 .i64 (.t 76)),.v 78 (.aM 1 (.t 72) (.t 75)),.an false 62000 (.st 1 (.t 78) (.t 77))] [0,7,8,10,58,59,2000000]
abbrev XU:AK:=.seq (.aa [k 2 (.c (.lit (.pointer none))),k 3 (.c (.lit (.pointer none))),k 4 (ci 6)] [2,3,4,2000000]) .ret
abbrev XS:AK:=.seq (.aa [m 70 13,.v 71 (.un .not (.t 70))] [0,7,8,10,11,12,58,59,71,2000000]) (.cond (.t 71) XU .skip)
abbrev XQ:AK:=.seq XS XR
abbrev XP:AK:=.seq (.aa [m 63 0,.v 64 (.au (.t 63)),.v 65 (.aj false 0 1 (.t 64)),.v 66 (.ld false 1 (.t 65)),.ao (some 67) false 62067 230 [(.t 66),(ci 3)],m 62 67,.v 68 (.ext (.t 62) 0),.v 69 (.ext (.t 62) 1),m 12 68,m 13 69] [0,7,8,10,11,12,13,58,59,2000000]) XQ
abbrev XO:AK:=.seq (.aa [m 61 59,m 11 61] [0,7,8,10,11,58,59,2000000]) XP
abbrev XM:AK:=.seq (.block 1 XO) XN
abbrev XL:AK:=.seq (.cond (.t 60) .skip (.exit 0)) XM
abbrev XK:AK:=.seq (.aa [b 60 .lss 59 58] [0,7,8,10,58,59,60,2000000]) XL
abbrev X4:AK:=.loop XK
abbrev XJ:AK:=.seq (.aa [m 58 9,k 59 (ci 0)] [0,7,8,10,58,59,2000000]) (.block 0 X4)
def zY:AK:=.seq XJ (.bl zZ)
abbrev Xw:AK:=.seq (.aa [.eff 57 false 62057 (.lh 1 8 [.int .i64 0] (ci 19) (ci 19)),m 10 57] [0,7,8,9,10,2000000]) zY
abbrev XW:AK:=.seq (.aa [k 2 (.c (.lit (.pointer none))),k 3 (.c (.lit (.pointer none))),k 4 (ci 3)] [2,3,4,2000000]) .ret
abbrev XV:AK:=.seq (.aa [m 51 7,bi 52 .gtr 51 286,m 53 52,.ah 54 53 false false 62054 (.af (.t 8)),.ah 55 53 false false 62055 (.bin .gtr (.t 54) (ci 30)),.v 56 (.pick (.t 53) (.c (.bool true)) (.t 55))] [0,7,8,9,56,2000000]) (.cond (.t 56) XW .skip)
abbrev Xo:AK:=.seq XV Xw
abbrev Xh:AK:=.seq (.aa [m 38 5,.v 39 (.bin .and (.t 38) (.c (.int .u32 31))),.v 40 (.a7 .i64 (.t 39)),bi 41 .add 40 257,m 42 5,.v 43 (.bin .shr (.t 42) (.c (.int .u64 5))),.v 44 (.bin .and (.t 43) (.c (.int .u32 31))),.v 45 (.a7 .i64 (.t 44)),bi 46 .add 45 1,m 47 5,.v 48 (.bin .shr (.t 47) (.c (.int .u64 10))),.v 49 (.a7 .i64 (.t 48)),bi 50 .add 49 4,m 7 41,m 8 46,m 9 50] [0,7,8,9,2000000]) Xo
abbrev XZ:AK:=.seq (.aa [k 2 (.c (.lit (.pointer none))),k 3 (.c (.lit (.pointer none))),k 4 (ci 6)] [2,3,4,2000000]) .ret
abbrev XY:AK:=.seq (.aa [m 36 6,.v 37 (.un .not (.t 36))] [0,5,37,2000000]) (.cond (.t 37) XZ .skip)
abbrev W8:AK:=.seq XY Xh
abbrev WY:AK:=.seq (.aa [m 29 0,.v 30 (.au (.t 29)),.v 31 (.aj false 0 1 (.t 30)),.v 32 (.ld false 1 (.t 31)),.ao (some 33) false 62033 230 [(.t 32),(ci 14)],m 28 33,.v 34 (.ext (.t 28) 0),.v 35 (.ext (.t 28) 1),m 5 34,m 6 35] [0,5,6,2000000]) W8
abbrev WX:AK:=.seq (.aa [k 2 (.c (.lit (.pointer none))),k 3 (.c (.lit (.pointer none))),k 4 (ci 0)] [0,2000000]) WY
abbrev zW:AK:=WX
theorem X5:aD Tryz.prog 233 62000 1 zW [.tmp 2,.tmp 3,.tmp 4]:=⟨_,Tryz.func233,by kernel_rfl⟩
theorem X7 {h a0 Post} (hp:aF Tryz.prog zW [.tmp 2,.tmp 3,.tmp 4] 1 [(0,a0),(2000000,a0)] h Post):Eng.Spec Tryz.prog 233 h [a0] Post:=aJ X5 rfl [(0,a0),(2000000,a0)] ⟨rfl,rfl,trivial⟩ hp
abbrev U7:AK:=.seq (.aa [k 6 (ci 0)] [6,2000000,2000001,2000002]) .ret
abbrev Vd:AK:=.aa [bi 100 .add 80 1,m 80 100] [0,13,79,80,2000000,2000001,2000002]
abbrev Vg:AK:=.seq (.aa [m 99 14,m 6 99] [6,2000000,2000001,2000002]) .ret
abbrev Vf:AK:=.seq (.aa [m 97 14,bi 98 .neq 97 0] [0,13,14,79,80,98,2000000,2000001,2000002]) (.cond (.t 98) Vg .skip)
abbrev Ve:AK:=.seq (.aa [u 63082 82 (.af (.t 0)),u 63083 83 (.af (.t 0)),u 63084 84 (.au (.t 83)),u 63085 85 (.aj false 1 1 (.t 84)),u 63086 86 (.ld false 1 (.t 85)),u 63087 87 (.af (.t 0)),u 63088 88 (.au (.t 87)),u 63089 89 (.aj false 1 1 (.t 88)),u 63090 90 (.ld false 1 (.t 89)),u 63091 91 (.len false (.t 90)),u 63092 92 (.af (.t 13)),u 63093 93 (.bin .sub (.t 91) (.t 92)),.v 94 (.aM 1 (.t 86) (.t 93)),.v 95 (.ld false 1 (.t 94)),.ao (some 96) false 63096 235 [(.t 82),(.t 95)],m 14 96] [0,13,14,79,80,2000000,2000001,2000002]) Vf
abbrev Vc:AK:=.seq (.block 1 Ve) Vd
abbrev Va:AK:=.seq (.cond (.t 81) .skip (.exit 0)) Vc
abbrev U9:AK:=.seq (.aa [b 81 .lss 80 79] [0,13,79,80,81,2000000,2000001,2000002]) Va
abbrev VA:AK:=.loop U9
abbrev U8:AK:=.seq (.aa [m 79 7,k 80 (ci 0)] [0,13,79,80,2000000,2000001,2000002]) (.block 0 VA)
abbrev U6:AK:=.seq U8 U7
abbrev Vj:AK:=.seq (.aa [k 6 (ci 3)] [6,2000000,2000001,2000002]) .ret
abbrev Vh:AK:=.seq (.aa [m 72 13,m 73 0,.v 74 (.au (.t 73)),.v 75 (.aj false 1 1 (.t 74)),.v 76 (.ld false 1 (.t 75)),.v 77 (.len false (.t 76)),b 78 .gtr 72 77] [0,7,13,78,2000000,2000001,2000002]) (.cond (.t 78) Vj .skip)
abbrev U5:AK:=.seq Vh U6
abbrev U4:AK:=.seq (.aa [m 68 13,m 69 9,.v 70 (.a7 .i64 (.t 69)),b 71 .add 68 70,m 13 71] [0,7,13,2000000,2000001,2000002]) U5
abbrev Vl:AK:=.seq (.aa [k 6 (ci 6)] [6,2000000,2000001,2000002]) .ret
abbrev Vk:AK:=.seq (.aa [m 66 10,.v 67 (.un .not (.t 66))] [0,7,9,13,67,2000000,2000001,2000002]) (.cond (.t 67) Vl .skip)
abbrev U3:AK:=.seq Vk U4
abbrev U2:AK:=.seq (.aa [m 58 0,.v 59 (.au (.t 58)),.v 60 (.aj false 0 1 (.t 59)),.v 61 (.ld false 1 (.t 60)),m 62 8,.ao (some 63) false 63063 230 [(.t 61),(.t 62)],m 57 63,.v 64 (.ext (.t 57) 0),.v 65 (.ext (.t 57) 1),m 9 64,m 10 65] [0,7,9,10,13,2000000,2000001,2000002]) U3
abbrev Vz:AK:=.seq (.aa [m 53 11,.ao (some 54) false 63054 249 [(.t 53)],m 52 54,.v 55 (.ext (.t 52) 0),.v 56 (.ext (.t 52) 1),m 13 55,m 8 56] [0,7,8,13,2000000,2000001,2000002]) U2
abbrev Vn:AK:=.seq (.aa [k 6 (ci 3)] [6,2000000,2000001,2000002]) .ret
abbrev Vm:AK:=.seq (.aa [m 50 11,bi 51 .gtr 50 29] [0,7,11,51,2000000,2000001,2000002]) (.cond (.t 51) Vn .skip)
abbrev Vy:AK:=.seq Vm Vz
abbrev Vp:AK:=.seq (.aa [m 49 12,m 6 49] [6,2000000,2000001,2000002]) .ret
abbrev Vo:AK:=.seq (.aa [m 47 12,bi 48 .neq 47 0] [0,7,11,12,48,2000000,2000001,2000002]) (.cond (.t 48) Vp .skip)
abbrev Vx:AK:=.seq Vo Vy
abbrev Vw:AK:=.seq (.aa [m 39 2,m 40 0,.v 41 (.au (.t 40)),.v 42 (.aj false 0 1 (.t 41)),.v 43 (.ld false 1 (.t 42)),.ao (some 44) false 63044 234 [(.t 39),(.t 43)],m 38 44,.v 45 (.ext (.t 38) 0),.v 46 (.ext (.t 38) 1),m 11 45,m 12 46] [0,7,11,12,2000000,2000001,2000002]) Vx
abbrev Vv:AK:=.seq (.aa [m 34 7,m 35 9,.v 36 (.a7 .i64 (.t 35)),b 37 .add 34 36,m 7 37] [0,2,7,2000000,2000001,2000002]) Vw
abbrev Vs:AK:=.seq (.aa [k 6 (ci 6)] [6,2000000,2000001,2000002]) .ret
abbrev Vr:AK:=.seq (.aa [m 32 10,.v 33 (.un .not (.t 32))] [0,2,7,9,33,2000000,2000001,2000002]) (.cond (.t 33) Vs .skip)
abbrev Vq:AK:=.seq Vr Vv
abbrev Vi:AK:=.seq (.aa [m 24 0,.v 25 (.au (.t 24)),.v 26 (.aj false 0 1 (.t 25)),.v 27 (.ld false 1 (.t 26)),m 28 8,.ao (some 29) false 63029 230 [(.t 27),(.t 28)],m 23 29,.v 30 (.ext (.t 23) 0),.v 31 (.ext (.t 23) 1),m 9 30,m 10 31] [0,2,7,9,10,2000000,2000001,2000002]) Vq
abbrev Vb:AK:=.seq (.aa [m 18 1,bi 19 .sub 18 257,.ao (some 20) false 63020 248 [(.t 19)],m 17 20,.v 21 (.ext (.t 17) 0),.v 22 (.ext (.t 17) 1),m 7 21,m 8 22] [0,2,7,8,2000000,2000001,2000002]) Vi
abbrev Vu:AK:=.seq (.aa [k 6 (ci 3)] [6,2000000,2000001,2000002]) .ret
abbrev Vt:AK:=.seq (.aa [m 15 1,bi 16 .gtr 15 285] [0,1,2,16,2000000,2000001,2000002]) (.cond (.t 16) Vu .skip)
abbrev U1:AK:=.seq Vt Vb
abbrev U0:AK:=.seq (.aa [k 6 (ci 0)] [0,1,2,2000000,2000001,2000002]) U1
abbrev zK:AK:=U0
theorem VB:aD Tryz.prog 236 63000 3 zK [.tmp 6]:=⟨_,Tryz.func236,by kernel_rfl⟩
theorem VD {h a0 a1 a2 Post} (hp:aF Tryz.prog zK [.tmp 6] 3 [(0,a0),(1,a1),(2,a2),(2000000,a0),(2000001,a1),(2000002,a2)] h Post):Eng.Spec Tryz.prog 236 h [a0,a1,a2] Post:=aJ VB rfl [(0,a0),(1,a1),(2,a2),(2000000,a0),(2000001,a1),(2000002,a2)] ⟨rfl,rfl,rfl,rfl,rfl,rfl,trivial⟩ hp
abbrev VL:AK:=.seq (.aa [k 2 (ci 0)] [2,2000000]) .ret
abbrev VM:AK:=.seq (.aa [m 72 3,.v 73 (.bin .and (.t 72) (.c (.int .u32 1))),.v 74 (.bin .eql (.t 73) (.c (.int .u32 0)))] [0,74,2000000]) (.cond (.t 74) (.goto 0) .skip)
abbrev zN:AK:=.seq VM VL
abbrev VK:AK:=.seq (.label 1) zN
abbrev VO:AK:=.seq (.aa [m 71 5,m 2 71] [2,2000000]) .ret
abbrev VJ:AK:=.seq VO VK
abbrev VP:AK:=.seq (.aa [m 69 5,bi 70 .eql 69 0] [0,3,5,7,8,70,2000000]) (.cond (.t 70) (.goto 2) .skip)
abbrev zM:AK:=.seq VP VJ
abbrev VR:AK:=.aa [m 61 0,m 62 6,.v 63 (.a7 .u8 (.t 62)),.ao (some 64) false 64064 235 [(.t 61),(.t 63)],m 5 64] [0,3,5,7,8,2000000]
abbrev VS:AK:=.aa [m 65 0,m 66 6,m 67 8,.ao (some 68) false 64068 236 [(.t 65),(.t 66),(.t 67)],m 5 68] [0,3,5,7,8,2000000]
abbrev VQ:AK:=.seq (.aa [m 59 6,bi 60 .lss 59 256] [0,3,6,7,8,60,2000000]) (.cond (.t 60) VR VS)
def VI:AK:=.seq VQ (.bl zM)
abbrev VT:AK:=.seq (.aa [m 57 6,bi 58 .eql 57 256] [0,3,6,7,8,58,2000000]) (.cond (.t 58) (.goto 1) .skip)
abbrev VH:AK:=.seq VT VI
abbrev VX:AK:=.seq (.aa [m 56 5,m 2 56] [2,2000000]) .ret
abbrev VW:AK:=.seq (.aa [m 54 5,bi 55 .neq 54 0] [0,3,5,6,7,8,55,2000000]) (.cond (.t 55) VX .skip)
abbrev VV:AK:=.seq (.aa [m 46 7,m 47 0,.v 48 (.au (.t 47)),.v 49 (.aj false 0 1 (.t 48)),.v 50 (.ld false 1 (.t 49)),.ao (some 51) false 64051 234 [(.t 46),(.t 50)],m 45 51,.v 52 (.ext (.t 45) 0),.v 53 (.ext (.t 45) 1),m 6 52,m 5 53] [0,3,5,6,7,8,2000000]) VW
abbrev tD:AK:=.seq VV VH
abbrev VG:AK:=.seq (.label 2) tD
abbrev VY:AK:=.seq (.aa [k 2 (ci 3)] [2,2000000]) .ret
abbrev Wm:AK:=.seq VY VG
abbrev V7:AK:=.seq (.aa [m 27 5,m 2 27] [2,2000000]) .ret
abbrev V6:AK:=.seq (.aa [m 25 5,bi 26 .neq 25 0] [0,3,5,26,2000000]) (.cond (.t 26) V7 .skip)
abbrev V5:AK:=.seq (.aa [m 23 0,.ao (some 24) false 64024 231 [(.t 23)],m 5 24] [0,3,5,2000000]) V6
abbrev V3:AK:=.seq V5 (.goto 1)
abbrev V9:AK:=.seq (.aa [.ao (some 31) false 64031 232 [],m 30 31,.v 32 (.ext (.t 30) 0),.v 33 (.ext (.t 30) 1),m 7 32,m 8 33] [0,3,7,8,2000000]) (.goto 2)
abbrev Wf:AK:=.seq (.aa [m 44 5,m 2 44] [2,2000000]) .ret
abbrev We:AK:=.seq (.aa [m 42 5,bi 43 .neq 42 0] [0,3,5,7,8,43,2000000]) (.cond (.t 43) Wf .skip)
abbrev Wd:AK:=.seq (.aa [m 37 0,.ao (some 38) false 64038 233 [(.t 37)],m 36 38,.v 39 (.ext (.t 36) 0),.v 40 (.ext (.t 36) 1),.v 41 (.ext (.t 36) 2),m 7 39,m 8 40,m 5 41] [0,3,5,7,8,2000000]) We
abbrev Wb:AK:=.seq Wd (.goto 2)
abbrev Wa:AK:=.seq (.aa [.v 35 (.bin .eql (.t 20) (.c (.int .u32 2))),m 34 35] [0,3,34,2000000]) (.cond (.t 34) Wb .skip)
abbrev V8:AK:=.seq (.aa [.v 29 (.bin .eql (.t 20) (.c (.int .u32 1))),m 28 29] [0,3,20,28,2000000]) (.cond (.t 28) V9 Wa)
abbrev V0:AK:=.seq (.aa [.v 22 (.bin .eql (.t 20) (.c (.int .u32 0))),m 21 22] [0,3,20,21,2000000]) (.cond (.t 21) V3 V8)
abbrev VZ:AK:=.seq (.aa [m 19 3,.v 20 (.bin .shr (.t 19) (.c (.int .u64 1)))] [0,3,20,2000000]) (.block 0 V0)
abbrev Wl:AK:=.seq VZ Wm
abbrev Wi:AK:=.seq (.aa [k 2 (ci 6)] [2,2000000]) .ret
abbrev Wh:AK:=.seq (.aa [m 17 4,.v 18 (.un .not (.t 17))] [0,3,18,2000000]) (.cond (.t 18) Wi .skip)
abbrev Wg:AK:=.seq (.aa [m 10 0,.v 11 (.au (.t 10)),.v 12 (.aj false 0 1 (.t 11)),.v 13 (.ld false 1 (.t 12)),.ao (some 14) false 64014 230 [(.t 13),(ci 3)],m 9 14,.v 15 (.ext (.t 9) 0),.v 16 (.ext (.t 9) 1),m 3 15,m 4 16] [0,3,4,2000000]) Wh
abbrev qm:AK:=.seq Wg Wl
def Wj:AK:=.seq (.label 0) (.bl qm)
abbrev Wc:AK:=.seq (.aa [k 7 (.c (.lit (.pointer none))),k 8 (.c (.lit (.pointer none)))] [0,2000000]) Wj
abbrev V4:AK:=.seq (.aa [k 6 (ci 0)] [0,2000000]) Wc
abbrev VU:AK:=.seq (.aa [k 5 (ci 0)] [0,2000000]) V4
abbrev VN:AK:=.seq (.aa [k 4 (.c (.bool false))] [0,2000000]) VU
abbrev VF:AK:=.seq (.aa [k 3 (.c (.int .u32 0))] [0,2000000]) VN
abbrev Wn:AK:=.scope VF
abbrev VE:AK:=.seq (.aa [k 2 (ci 0)] [0,2000000]) Wn
abbrev zL:AK:=VE
theorem Wo:aD Tryz.prog 215 64000 1 zL [.tmp 2]:=⟨_,Tryz.func215,by kernel_rfl⟩
theorem Wr {h a0 Post} (hp:aF Tryz.prog zL [.tmp 2] 1 [(0,a0),(2000000,a0)] h Post):Eng.Spec Tryz.prog 215 h [a0] Post:=aJ Wo rfl [(0,a0),(2000000,a0)] ⟨rfl,rfl,trivial⟩ hp
abbrev Uw:AK:=.seq (.aa [u 65038 38 (.af (.t 9)),u 65039 39 (.au (.t 38)),u 65040 40 (.aj false 1 1 (.t 39)),u 65041 41 (.ld false 1 (.t 40)),u 65042 42 (.gR (.t 41)),u 65043 43 (.af (.t 9)),u 65044 44 (.au (.t 43)),u 65045 45 (.aj false 0 1 (.t 44)),u 65046 46 (.ld false 1 (.t 45)),.ao (some 47) true 65047 216 [(.t 46)],m 6 42,m 7 47,k 8 (ci 0)] [6,7,8]) .ret
abbrev Uz:AK:=.seq (.aa [m 37 10,k 6 (.c (.str [])),k 7 (ci 0),m 8 37] [6,7,8]) .ret
abbrev Uy:AK:=.seq (.aa [m 35 10,bi 36 .neq 35 0] [9,10,36]) (.cond (.t 36) Uz .skip)
abbrev Ux:AK:=.seq (.aa [m 33 9,.ao (some 34) false 65034 215 [(.t 33)],m 10 34] [9,10]) Uy
abbrev Uv:AK:=.seq Ux Uw
abbrev Uu:AK:=.seq (.aa [m 27 0,m 28 1,.ao (some 29) false 65029 214 [(.t 27),(.t 28)],m 30 2,.v 31 (.bE [.lit (.pointer none),.aq,.int .i64 0] [(0,1,(.t 29)),(2,1,(.t 30))]),.eff 32 false 65032 (.box 3 (.t 31)),m 9 32] [9]) Uv
abbrev Ut:AK:=.seq (.aa [k 6 (.c (.str [])),k 7 (ci 0),k 8 (ci 1)] [6,7,8]) .ret
abbrev UA:AK:=.seq (.aa [m 11 1,bi 12 .lss 11 0,m 13 12,.ah 14 13 false false 65014 (.af (.t 1)),.ah 15 13 false false 65015 (.af (.t 0)),.ah 16 13 false false 65016 (.len true (.t 15)),.ah 17 13 false false 65017 (.bin .gtr (.t 14) (.t 16)),.v 18 (.pick (.t 13) (.c (.bool true)) (.t 17)),m 19 18,.ah 20 19 false false 65020 (.af (.t 2)),.ah 21 19 false false 65021 (.bin .lss (.t 20) (ci 0)),.v 22 (.pick (.t 19) (.c (.bool true)) (.t 21)),m 23 22,.ah 24 23 false false 65024 (.af (.t 2)),.ah 25 23 false false 65025 (.bin .gtr (.t 24) (ci 65536)),.v 26 (.pick (.t 23) (.c (.bool true)) (.t 25))] [0,1,2,26]) (.cond (.t 26) Ut .skip)
abbrev Us:AK:=.seq UA Uu
abbrev Ur:AK:=.seq (.aa [k 6 (.c (.str [])),k 7 (ci 0),k 8 (ci 0)] [0,1,2]) Us
abbrev inflate:AK:=Ur
theorem UB:aD Tryz.prog 180 65000 3 inflate [.tmp 6,.tmp 7,.tmp 8]:=⟨_,Tryz.func180,by kernel_rfl⟩
theorem UD {h a0 a1 a2 Post} (hp:aF Tryz.prog inflate [.tmp 6,.tmp 7,.tmp 8] 3 [(0,a0),(1,a1),(2,a2)] h Post):Eng.Spec Tryz.prog 180 h [a0,a1,a2] Post:=aJ UB rfl [(0,a0),(1,a1),(2,a2)] ⟨rfl,rfl,rfl,trivial⟩ hp
abbrev TY:AK:=.seq (.aa [m 46 5,m 47 7,m 0 46,m 1 47] [0,1]) .ret
abbrev TX:AK:=.seq (.aa [m 42 3,.ao (some 43) false 66043 246 [(.t 42)],m 41 43,.v 44 (.ext (.t 41) 0),.v 45 (.ext (.t 41) 1),m 7 44,m 8 45] [5,7]) TY
abbrev TW:AK:=.seq (.aa [m 37 2,.ao (some 38) false 66038 246 [(.t 37)],m 36 38,.v 39 (.ext (.t 36) 0),.v 40 (.ext (.t 36) 1),m 5 39,m 6 40] [3,5]) TX
abbrev TE:AK:=.aa [bi 35 .add 30 1,m 30 35] [2,3,30]
abbrev TF:AK:=.aa [m 32 3,.eff 33 false 66033 (.bI 1 [(ci 5)]),.eff 34 false 66034 (.app 1 8 (.t 32) (.t 33)),m 3 34] [2,3,30]
abbrev TD:AK:=.seq (.block 4 TF) TE
abbrev TC:AK:=.seq (.cond (.t 31) .skip (.exit 3)) TD
abbrev T0:AK:=.seq (.aa [bi 31 .lss 30 32] [2,3,30,31]) TC
abbrev T1:AK:=.loop T0
abbrev TZ:AK:=.seq (.aa [k 30 (ci 0)] [2,3,30]) (.block 3 T1)
abbrev TR:AK:=.seq TZ TW
abbrev TL:AK:=.aa [bi 29 .add 9 1,m 9 29] [2,3,9]
abbrev TP:AK:=.aa [m 20 2,.eff 21 false 66021 (.bI 1 [(ci 8)]),.eff 22 false 66022 (.app 1 8 (.t 20) (.t 21)),m 2 22] [2,3,9]
abbrev TS:AK:=.aa [m 26 2,.eff 27 false 66027 (.bI 1 [(ci 9)]),.eff 28 false 66028 (.app 1 8 (.t 26) (.t 27)),m 2 28] [2,3,9]
abbrev TT:AK:=.aa [m 12 2,.eff 13 false 66013 (.bI 1 [(ci 7)]),.eff 14 false 66014 (.app 1 8 (.t 12) (.t 13)),m 2 14] [2,3,9]
abbrev TQ:AK:=.seq (.aa [m 24 4,bi 25 .lss 24 256,m 23 25] [2,3,9,23]) (.cond (.t 23) TS TT)
abbrev TV:AK:=.aa [m 18 4,bi 19 .geq 18 280,m 15 19] [2,3,4,9,15]
abbrev TU:AK:=.seq (.aa [m 16 4,bi 17 .lss 16 144,m 15 17] [2,3,4,9,15]) (.cond (.t 15) .skip TV)
def TN:AK:=.seq TU (.bl (.cond (.t 15) TP TQ))
abbrev TM:AK:=.seq (.aa [m 11 9,m 4 11] [2,3,4,9]) (.block 2 TN)
abbrev TK:AK:=.seq (.block 1 TM) TL
abbrev TI:AK:=.seq (.cond (.t 10) .skip (.exit 0)) TK
abbrev TH:AK:=.seq (.aa [bi 10 .lss 9 288] [2,3,9,10]) TI
abbrev T2:AK:=.loop TH
abbrev TG:AK:=.seq (.aa [k 9 (ci 0)] [2,3,9]) (.block 0 T2)
abbrev TJ:AK:=.seq TG TR
abbrev TA:AK:=.seq (.aa [k 2 (.c (.aq)),k 3 (.c (.aq))] [2,3]) TJ
abbrev Tz:AK:=.seq (.aa [k 0 (.c (.lit (.pointer none))),k 1 (.c (.lit (.pointer none)))] []) TA
abbrev zB:AK:=Tz
theorem T3:aD Tryz.prog 232 66000 0 zB [.tmp 0,.tmp 1]:=⟨_,Tryz.func232,by kernel_rfl⟩
theorem T5 {h Post} (hp:aF Tryz.prog zB [.tmp 0,.tmp 1] 0 [] h Post):Eng.Spec Tryz.prog 232 h [] Post:=aJ T3 rfl [] trivial hp
abbrev UN:AK:=.seq (.aa [.v 1 (.bE [.int .i64 0,.int .i64 0,.int .i64 0,.int .i64 0,.int .i64 0,.int .i64 0,.int .i64 0,.int .i64 0,.int .i64 0,.int .i64 0,.int .i64 0,.int .i64 0,.int .i64 0,.int .i64 0,.int .i64 0,.int .i64 0,.int .i64 0,.int .i64 0,.int .i64 0] [(0,1,(ci 16)),(1,1,(ci 17)),(2,1,(ci 18)),(3,1,(ci 0)),(4,1,(ci 8)),(5,1,(ci 7)),(6,1,(ci 9)),(7,1,(ci 6)),(8,1,(ci 10)),(9,1,(ci 5)),(10,1,(ci 11)),(11,1,(ci 4)),(12,1,(ci 12)),(13,1,(ci 3)),(14,1,(ci 13)),(15,1,(ci 2)),(16,1,(ci 14)),(17,1,(ci 1)),(18,1,(ci 15))]),.an false 67000 (.st 19 (.t 0) (.t 1))] [0]) .ret
abbrev UM:AK:=.seq (.aa [.eff 0 false 67000 (.alloc [.int .i64 0,.int .i64 0,.int .i64 0,.int .i64 0,.int .i64 0,.int .i64 0,.int .i64 0,.int .i64 0,.int .i64 0,.int .i64 0,.int .i64 0,.int .i64 0,.int .i64 0,.int .i64 0,.int .i64 0,.int .i64 0,.int .i64 0,.int .i64 0,.int .i64 0])] [0]) UN
abbrev zH:AK:=UM
theorem UO:aD Tryz.prog 247 67000 0 zH [.cell 0 true 19]:=⟨_,Tryz.func247,by kernel_rfl⟩
theorem UQ {h Post} (hp:aF Tryz.prog zH [.cell 0 true 19] 0 [] h Post):Eng.Spec Tryz.prog 247 h [] Post:=aJ UO rfl [] trivial hp
abbrev Uc:AK:=.seq (.aa [m 14 0,bi 15 .rem 14 4,.v 16 (.bin .add (ci 4) (.t 15)),m 17 4,b 18 .shl 16 17,.v 19 (.bin .add (ci 3) (.t 18)),m 20 4,m 2 19,m 3 20] [2,3]) .ret
abbrev Ub:AK:=.seq (.aa [m 11 0,bi 12 .quo 11 4,bi 13 .sub 12 1,m 4 13] [0,4]) Uc
abbrev Ue:AK:=.seq (.aa [m 9 0,.v 10 (.bin .add (ci 3) (.t 9)),m 2 10,k 3 (ci 0)] [2,3]) .ret
abbrev Ud:AK:=.seq (.aa [m 7 0,bi 8 .lss 7 8] [0,8]) (.cond (.t 8) Ue .skip)
abbrev Ua:AK:=.seq Ud Ub
abbrev T9:AK:=.seq (.aa [k 2 (ci 258),k 3 (ci 0)] [2,3]) .ret
abbrev Uf:AK:=.seq (.aa [m 5 0,bi 6 .eql 5 28] [0,6]) (.cond (.t 6) T9 .skip)
abbrev T8:AK:=.seq Uf Ua
abbrev T7:AK:=.seq (.aa [k 2 (ci 0),k 3 (ci 0)] [0]) T8
abbrev zC:AK:=T7
theorem Ug:aD Tryz.prog 248 68000 1 zC [.tmp 2,.tmp 3]:=⟨_,Tryz.func248,by kernel_rfl⟩
theorem Ui {h a0 Post} (hp:aF Tryz.prog zC [.tmp 2,.tmp 3] 1 [(0,a0)] h Post):Eng.Spec Tryz.prog 248 h [a0] Post:=aJ Ug rfl [(0,a0)] ⟨rfl,trivial⟩ hp
abbrev Th:AK:=.seq (.aa [m 12 0,bi 13 .rem 12 2,.v 14 (.bin .add (ci 2) (.t 13)),m 15 4,b 16 .shl 14 15,.v 17 (.bin .add (ci 1) (.t 16)),m 18 4,m 2 17,m 3 18] [2,3]) .ret
abbrev Tg:AK:=.seq (.aa [m 9 0,bi 10 .quo 9 2,bi 11 .sub 10 1,m 4 11] [0,4]) Th
abbrev Tk:AK:=.seq (.aa [m 7 0,.v 8 (.bin .add (ci 1) (.t 7)),m 2 8,k 3 (ci 0)] [2,3]) .ret
abbrev Tj:AK:=.seq (.aa [m 5 0,bi 6 .lss 5 4] [0,6]) (.cond (.t 6) Tk .skip)
abbrev Tf:AK:=.seq Tj Tg
abbrev Te:AK:=.seq (.aa [k 2 (ci 0),k 3 (ci 0)] [0]) Tf
abbrev zx:AK:=Te
theorem Tl:aD Tryz.prog 249 69000 1 zx [.tmp 2,.tmp 3]:=⟨_,Tryz.func249,by kernel_rfl⟩
theorem Tn {h a0 Post} (hp:aF Tryz.prog zx [.tmp 2,.tmp 3] 1 [(0,a0)] h Post):Eng.Spec Tryz.prog 249 h [a0] Post:=aJ Tl rfl [(0,a0)] ⟨rfl,trivial⟩ hp
abbrev PB:AK:=.seq (.aa [m 21 3,m 2 21] [2]) .ret
abbrev PG:AK:=.aa [bi 20 .add 8 1,m 8 20] [0,3,7,8]
abbrev Pz:AK:=.aa [m 11 3,m 12 0,m 13 4,.v 14 (.cG (.t 12) (.t 13)),.v 15 (.a7 .u64 (.t 14)),m 16 4,.v 17 (.bin .mul (ci 8) (.t 16)),b 18 .shl 15 17,b 19 .or 11 18,m 3 19] [0,3,7,8]
abbrev Py:AK:=.seq (.aa [m 10 8,m 4 10] [0,3,4,7,8]) Pz
abbrev PF:AK:=.seq (.block 1 Py) PG
abbrev PE:AK:=.seq (.cond (.t 9) .skip (.exit 0)) PF
abbrev PD:AK:=.seq (.aa [b 9 .lss 8 7] [0,3,7,8,9]) PE
abbrev PH:AK:=.loop PD
abbrev PC:AK:=.seq (.aa [m 5 0,.v 6 (.len true (.t 5)),.v 7 (.mm false (.t 6) (ci 8)),k 8 (ci 0)] [0,3,7,8]) (.block 0 PH)
abbrev PA:AK:=.seq PC PB
abbrev Px:AK:=.seq (.aa [k 3 (.c (.int .u64 0))] [0,3]) PA
abbrev Pw:AK:=.seq (.aa [k 2 (.c (.int .u64 0))] [0]) Px
abbrev yN:AK:=Pw
theorem PJ:aD Tryz.prog 244 80000 1 yN [.tmp 2]:=⟨_,Tryz.func244,by kernel_rfl⟩
theorem PK {h a0 Post} (hp:aF Tryz.prog yN [.tmp 2] 1 [(0,a0)] h Post):Eng.Spec Tryz.prog 244 h [a0] Post:=aJ PJ rfl [(0,a0)] ⟨rfl,trivial⟩ hp
end Go.Proofs.YtoalcafkffmiiaaGreatDoor.Cod
namespace Go.Proofs.YtoalcafkffmiiaaGreatDoor.Pk
open Eng
set_option maxRecDepth 10000
def D7:Nat:=79038
def D5:Nat:=73035
attribute [go_sem] D7 D5
theorem BN (t:Bs) (most n:Nat) (S:SS):rawS t most (n+1) S=if S.err≠0 then S else rawS t most n (fp most (UInt8.ofNat (bN t 8 S).1) (bN t 8 S).2):=rfl
open Eng
set_option maxRecDepth 10000
def dU (f:Nat→Nat) (n:Nat):List Nat:=(List.range n).map f
theorem Dz (f:Nat→Nat) (n:Nat):(dU f n).length=n:=by simp[dU]
theorem DA (f:Nat→Nat) (n:Nat):dU f (n+1)=dU f n++[f n]:=by simp[dU,List.range_succ]
theorem DB (f:Nat→Nat):dU f 0=[]:=(rfl)
theorem kb {xs:List Nat}:aI (aU xs) 0 xs.length=aU xs:=by simp[aI,aU,List.take_of_length_le]
def fixF (i:Nat):Nat:=if 256≤i∧i<280 then 7 else if 144≤i∧i<256 then 9 else 8
theorem OG:dU fixF 288=gy:=by decide +kernel
theorem OE:dU (fun _=>5) 32=gw:=by decide +kernel
theorem kT:(∀n∈gy,n≤15)∧gy.length=288∧bL gy=true:=by decide +kernel
theorem kS:(∀n∈gw,n≤15)∧gw.length=32∧bL gw=true:=by decide +kernel
theorem Dc {l:List Nat} (h:∀n∈l,n≤15) (k:Nat):∀n∈l.take k,n≤15:=fun n hn=>h n (List.mem_of_mem_take hn)
theorem xU {l:List Nat} (h:∀n∈l,n≤15) (k:Nat):∀n∈l.drop k,n≤15:=fun n hn=>h n (List.mem_of_mem_drop hn)
theorem tW (t:Bs) (fl:List Nat) (N k:Nat) (l:List Nat) (S:SS):ig t fl N (k+1) l S=if N≤l.length∨S.err≠0 then(l,S)else
    if(dH N l (dI t l (bR t fl S).1 (bR t fl S).2)).err≠0 then(l,dH N l (dI t l (bR t fl S).1 (bR t fl S).2))
    else ig t fl N k (l++List.replicate (dI t l (bR t fl S).1 (bR t fl S).2).1 (dI t l (bR t fl S).1 (bR t fl S).2).2.1) (dH N l (dI t l (bR t fl S).1 (bR t fl S).2)):=rfl
theorem ab3 (l:List Nat) (k x:Nat):aU (l++List.replicate k x)++[.int .i64 (x:Int)]=aU (l++List.replicate (k+1) x):=by
 rw[lj,List.append_assoc,←List.replicate_succ']
def nJ (t:Bs) (nl nd:Nat) (b:List Nat×SS):(List Nat×List Nat)×SS:=
 if b.2.err≠0 then(([],[]),b.2)else
 if b.1.getD 256 0=0∨bL (b.1.take nl)=false∨bL (b.1.drop nl)=false then(([],[]),{b.2 with err:=3})else((b.1.take nl,b.1.drop nl),b.2)
def mc (t:Bs) (nl nd:Nat) (a:List Nat×SS):(List Nat×List Nat)×SS:=
 if a.2.err≠0 then(([],[]),a.2)else if bL a.1=false then(([],[]),{a.2 with err:=3})else nJ t nl nd (ig t a.1 (nl+nd) (nl+nd) [] a.2)
theorem ya (t:Bs) (S:SS):eO t S=if 8*t.length<S.p+14 then(([],[]),{S with err:=6})else if 286<numAt t S.p 5+257∨30<numAt t (S.p+5) 5+1 then(([],[]),{S with p:=S.p+14,err:=3})else
    mc t (numAt t S.p 5+257) (numAt t (S.p+5) 5+1) (firstS t (numAt t (S.p+10) 4+4) (numAt t (S.p+10) 4+4) (List.replicate 19 0) {S with p:=S.p+14}):=rfl
theorem s5 (t:Bs) (nc k:Nat) (l:List Nat) (S:SS):firstS t nc (k+1) l S=if S.err≠0 then(l,S)else firstS t nc k (l.set (gh.getD (nc-(k+1)) 0) (bN t 3 S).1) (bN t 3 S).2:=rfl
theorem OD (t:Bs) (nc k:Nat) (l:List Nat) (S:SS) (h:S.err≠0):firstS t nc k l S=(l,S):=by
 cases k with
 | zero=>rfl
 | succ k=>rw[s5,if_pos h]
theorem ahi:∀j,j<19→gh.getD j 0<19:=by decide
theorem ab4 {l:List Nat} {i x:Nat}:(aU l).set i (.int .i64 (x:Int))=aU (l.set i x):=by simp[aU,List.map_set]
def eY:Nat:=65032
def rK:Nat:=60022
attribute [go_sem] eY rK
def aQ (s:Bs) (o most a hv:Nat) (out:Bs):HP:=[(eY,.var [.ab RD 0,.sl rK 0 out.length,.int .i64 most]),(rK,.arr 1 (out.map ub)),(RD,.var (aR s a hv o))]
theorem oH {p:Prop} (h:p:=by simp(disch:=first | omega | (simp only[Lx];omega))only[go_sem,simprocAttr,aQ,aR,bh]):p:=h
theorem vt {a b:Prop} (k:b) (h:b→a:=by intro h;simp(disch:=first | omega | (simp only[Lx];omega))only[go_sem,simprocAttr,aQ,aR,bh];exact h):a:=h k
theorem rD {E0:Prop} {p:Prop} (e0:E0) (h:E0→p:=by intro e0;simp(disch:=first | omega | (simp only[Lx];omega))only[go_sem,simprocAttr,aQ,aR,bh,e0]):p:=h e0
theorem bn {p:Prop} (h:p:=by simp(disch:=first | omega | (simp only[Lx];omega))only[go_sem,simprocAttr,aQ,aR]):p:=h
theorem jO {a b:Prop} (k:b) (h:b→a:=by intro h;simp(disch:=first | omega | (simp only[Lx];omega))only[go_sem,simprocAttr,aQ,aR];exact h):a:=h k
theorem DD {E0:Prop} {p:Prop} (e0:E0) (h:E0→p:=by intro e0;simp(disch:=first | omega | (simp only[Lx];omega))only[go_sem,simprocAttr,aQ,aR,e0]):p:=h e0
theorem vz {E0:Prop} {a b:Prop} (e0:E0) (k:b) (h:E0→b→a:=by intro e0 h;simp(disch:=first | omega | (simp only[Lx];omega))only[go_sem,simprocAttr,aQ,aR,e0];exact h):a:=h e0 k
theorem vVJ {p:Prop} (h:p:=by simp(disch:=first | omega | (simp only[Lx];omega))only[go_sem,simprocAttr,aQ]):p:=h
theorem iy {a b:Prop} (k:b) (h:b→a:=by intro h;simp(disch:=first | omega | (simp only[Lx];omega))only[go_sem,simprocAttr,aQ];exact h):a:=h k
theorem vA {E0 E1:Prop} {a b:Prop} (e0:E0) (e1:E1) (k:b) (h:E0→E1→b→a:=by intro e0 e1 h;simp(disch:=first | omega | (simp only[Lx];omega))only[go_sem,simprocAttr,aQ,e0,e1];exact h):a:=h e0 e1 k
theorem zJ (s:Bs) (o most a hv:Nat) (out:Bs) (hm:most≤1000000) (ho:out.length≤most) (c:UInt8):Eng.Spec Tryz.prog 235 (aQ s o most a hv out) [.ab eY 0,.int .u8 (c.toNat:Int)]
    (fun h' v ar=>h'=aQ s o most a hv (if out.length=most then out else out++[c])∧v=.int .i64 (if out.length=most then 2 else 0:Nat)∧ar=[.ab eY 0,.int .u8 (c.toNat:Int)]):=by
 refine Cod.UZ (fun E R hN hR=>?_)
 have hc:=c.toNat_lt
 by_cases hf:out.length=most
 ·rw[if_pos hf,if_pos hf]at hR
  refine jO ?_
  refine gG ?_
  exact hR.le bn ⟨rfl,rfl,rfl⟩
 ·rw[if_neg hf,if_neg hf]at hR
  refine jO ?_
  refine gG ?_
  refine hR.le ?_ ⟨rfl,rfl,rfl⟩
  refine jO ?_
  rw[UInt8.ofNat_toNat]
theorem aac:∀i:Nat,i<28→8≤i→IntKind.i64.wrap (3+IntKind.i64.wrap ((4+(i:Int)%4)*2^min ((i:Int)/4-1).toNat 64))=((3+(4+i%4)*2^(i/4-1):Nat):Int)∧(i:Int)/4-1=((i/4-1:Nat):Int):=by decide +kernel
theorem MH:∀i:Nat,i<30→4≤i→IntKind.i64.wrap (1+IntKind.i64.wrap ((2+(i:Int)%2)*2^min ((i:Int)/2-1).toNat 64))=((1+(2+i%2)*2^(i/2-1):Nat):Int)∧(i:Int)/2-1=((i/2-1:Nat):Int):=by decide +kernel
theorem Uh (i:Nat) (hi:i≤28):aN Tryz.prog 248 [.int .i64 i] (.ai [.int .i64 ((cc i).1:Nat),.int .i64 ((cc i).2:Nat)]):=by
 refine Cod.Ui (fun E R hN hR=>?_)
 by_cases h28:i=28
 ·subst h28
  refine wW ?_
  exact hR.le vV ⟨rfl,rfl⟩
 ·by_cases h8:i<8
  ·have e:cc i=(3+i,0):=by unfold cc;rw[if_neg h28,if_pos h8]
   rw[e]at hR
   refine wW ?_
   refine gG ?_
   exact hR.le vV ⟨rfl,rfl⟩
  ·have e:cc i=(3+(4+i%4)*2^(i/4-1),i/4-1):=by unfold cc;rw[if_neg h28,if_neg h8]
   rw[e]at hR
   refine wW ?_
   refine gG ?_
   obtain⟨w1,w2⟩:=aac i (by omega) (by omega)
   rw[w1,w2]
   exact hR.le vV ⟨rfl,rfl⟩
theorem Tm (i:Nat) (hi:i≤29):aN Tryz.prog 249 [.int .i64 i] (.ai [.int .i64 ((fA i).1:Nat),.int .i64 ((fA i).2:Nat)]):=by
 refine Cod.Tn (fun E R hN hR=>?_)
 by_cases h4:i<4
 ·have e:fA i=(1+i,0):=by unfold fA;rw[if_pos h4]
  rw[e]at hR
  refine wW ?_
  refine gG ?_
  exact hR.le vV ⟨rfl,rfl⟩
 ·have e:fA i=(1+(2+i%2)*2^(i/2-1),i/2-1):=by unfold fA;rw[if_neg h4]
  rw[e]at hR
  refine wW ?_
  refine gG ?_
  obtain⟨w1,w2⟩:=MH i (by omega) (by omega)
  rw[w1,w2]
  exact hR.le vV ⟨rfl,rfl⟩
def PI (s:Bs) (o most:Nat) (F:SS) (h':HP) (v:AV):Prop:=
 ∃a' hv' out',h'=aQ s o most a' hv' out'∧v=.int .i64 (F.err:Nat)∧(F.err=0→out'=F.out∧bz s a' hv' (8*o+F.p))
theorem jd {s:Bs} {o most:Nat} {F:SS} {h':HP} {v:AV} (h:∃a' hv' S',h'=aQ s o most a' hv' S'.out∧bz s a' hv' (8*o+S'.p)∧S'.out.length≤most∧v=.int .i64 (F.err:Nat)∧(F.err=0→S'=F)):PI s o most F h' v:=by
 obtain⟨a',hv',S',h1,h2,_,h4,h5⟩:=h
 exact⟨a',hv',S'.out,h1,h4,fun he=>by obtain rfl:=h5 he;exact⟨rfl,h2⟩⟩
theorem tU (s:Bs) (o p:Nat):cO s (8*o+p)=8*(s.drop o).length-p:=by unfold cO;rw[List.length_drop];omega
theorem xX (s:Bs) (q:Nat) (h:q+2≤s.length):(s.drop q).take 2=[s.getD q 0,s.getD (q+1) 0]:=by
 have h1:q<s.length:=by omega
 have h2:q+1<s.length:=by omega
 rw[List.drop_eq_getElem_cons h1,List.drop_eq_getElem_cons h2,List.getD_eq_getElem?_getD,List.getD_eq_getElem?_getD,List.getElem?_eq_getElem h1,List.getElem?_eq_getElem h2]
 rfl
theorem Ak (x y:UInt8):aN Tryz.prog 244 [.str [x,y]] (.int .u64 ((x.toNat+y.toNat*2^8:Nat):Int)):=by
 refine Cod.PK (fun E R hN hR=>?_)
 have hx:=x.toNat_lt
 have hy:=y.toNat_lt
 refine wW ?_
 refine ba hN (fun i:Nat=>⟨[(0,.str [x,y]),(3,.int .u64 (if i=0 then 0 else if i=1 then x.toNat else x.toNat+y.toNat*2^8:Nat)),(7,.int .i64 2),(8,.int .i64 i)],[]⟩) (fun i=>i≤2) (fun i=>2-i) 0 (.le vV) (by omega) ?_
 rintro i R1 hi hR1
 obtain rfl | rfl | rfl:i=0∨i=1∨i=2:=by omega
 ·have e0:bits .or .u64 0 (IntKind.u64.wrap ((x.toNat:Int)*2^min 0 64))=((x.toNat:Nat):Int):=(um (x:=0) (k:=0) (b:=x.toNat) (by decide) (by decide) hx).trans (by rw[Nat.zero_add,Nat.pow_zero,Nat.mul_one])
  refine az e0 ?_
  exact hR1 1 _ (by omega) (by omega) (.le vV)
 ·have e1:bits .or .u64 (x.toNat:Int) (IntKind.u64.wrap ((y.toNat:Int)*2^min 8 64))=((x.toNat+y.toNat*2^8:Nat):Int):=um (k:=8) hx (by decide) hy
  refine az e1 ?_
  exact hR1 2 _ (by omega) (by omega) (.le vV)
 ·refine wW ?_
  exact hR.le vV ⟨rfl,rfl⟩
theorem n9 (t:Bs) (most:Nat) {S:SS} (h:S.err≠0):∀n,rawS t most n S=S
 | 0=>rfl
 | n+1=>by rw[BN,if_pos h]
theorem BM (t:Bs) (most:Nat):∀(n:Nat) (S:SS) (q:Nat),S.err=0→S.p=8*q→q≤t.length→S.out.length≤most →
    (rawS t most n S).err=(if most<S.out.length+min n (t.length-q)then 2 else if t.length<q+n then 6 else 0)∧((rawS t most n S).err=0→rawS t most n S=⟨8*(q+n),S.out++(t.drop q).take n,0⟩)
 | 0,S,q,he,hp,hq,ho=>by
  refine⟨?_,fun _=>?_⟩
  ·rw[if_neg (by omega),if_neg (by omega)];exact he
  ·obtain⟨p,out,err⟩:=S
   simp only at he hp
   subst he hp
   simp[rawS]
 | n+1,S,q,he,hp,hq,ho=>by
  rw[BN,if_neg (by simpa using he)]
  by_cases hq1:q=t.length
  ·have hn:=ln (n:=8) he (t:=t) (by omega)
   rw[hn]
   have hput:fp most (UInt8.ofNat (0,{S with err:=6}).1) (0,{S with err:=6}).2={S with err:=6}:=if_pos (by simp)
   rw[hput,n9 _ _ (by simp)]
   refine⟨?_,fun h=>absurd h (by simp)⟩
   rw[if_neg (by omega),if_pos (by omega)]
  ·have hn:=jB (n:=8) he (t:=t) (by omega)
   rw[hn]
   simp only
   rw[hp,qF,UInt8.ofNat_toNat]
   unfold fp
   rw[if_neg (by simpa using he)]
   by_cases hf:most≤S.out.length
   ·simp only[if_pos hf]
    rw[n9 _ _ (by simp)]
    refine⟨?_,fun h=>absurd h (by simp)⟩
    rw[if_pos (by omega)]
   ·simp only[if_neg hf]
    obtain⟨h1,h2⟩:=BM t most n {p:=8*q+8,out:=S.out++[t.getD q 0],err:=S.err} (q+1) he (by simp only;omega) (by omega) (by simp only[List.length_append,List.length_singleton];omega)
    refine⟨?_,fun h=>?_⟩
    ·rw[h1]
     simp only[List.length_append,List.length_singleton]
     rw[show S.out.length+1+min n (t.length-(q+1))=S.out.length+min (n+1) (t.length-q)by omega,show q+1+n=q+(n+1)by omega]
    ·rw[h2 h]
     have hlt:q<t.length:=by omega
     rw[List.drop_eq_getElem_cons hlt,List.take_succ_cons,List.getD_eq_getElem?_getD,List.getElem?_eq_getElem hlt,show q+1+n=q+(n+1)by omega]
     simp
theorem aoy (t:Bs) (most:Nat) (S:SS) (he:S.err=0) (hp:S.p≤8*t.length) (ho:S.out.length≤most) (q:Nat) (hq:dx S.p=8*q) :
    if t.length<q+4 then(fM t most S).err=6 else
     if(t.getD q 0).toNat+(t.getD (q+1) 0).toNat*2^8+((t.getD (q+2) 0).toNat+(t.getD (q+3) 0).toNat*2^8)≠65535 then(fM t most S).err=3 else
     (fM t most S).err=(if most<S.out.length+min ((t.getD q 0).toNat+(t.getD (q+1) 0).toNat*2^8) (t.length-(q+4))then 2 else if t.length<q+4+((t.getD q 0).toNat+(t.getD (q+1) 0).toNat*2^8)then 6 else 0) ∧
     ((fM t most S).err=0→fM t most S=⟨8*(q+4+((t.getD q 0).toNat+(t.getD (q+1) 0).toNat*2^8)),S.out++(t.drop (q+4)).take ((t.getD q 0).toNat+(t.getD (q+1) 0).toNat*2^8),0⟩):=by
 have hn16:∀i,numAt t (8*i) 16=(t.getD i 0).toNat+(t.getD (i+1) 0).toNat*2^8:=by
  intro i
  rw[show(16:Nat)=8+8 from rfl,acr,qF,show 8*i+8=8*(i+1)by omega,qF]
 have hup:lF S={S with p:=8*q}:=by unfold lF;unfold dx at hq;rw[hq]
 have hq2:q≤t.length:=by unfold dx at hq;omega
 unfold fM
 simp only
 rw[hup]
 by_cases h4:t.length<q+4
 ·rw[if_pos h4]
  by_cases h2:t.length<q+2
  ·rw[ln (by exact he) (by simp only;omega)]
   simp only
   rw[aco (by simp)]
   simp only
   rw[if_pos (by decide)]
   rw[n9 _ _ (yu (by decide))]
   rfl
  ·rw[jB (by exact he) (by simp only;omega)]
   simp only
   rw[ln (by exact he) (by simp only;omega)]
   simp only
   have hfe:fb 3 {p:=8*q+16,out:=S.out,err:=6}=({p:=8*q+16,out:=S.out,err:=6}:SS):=if_neg (by simp)
   rw[hfe,ite_self,n9 _ _ (by simp)]
 ·rw[if_neg h4]
  rw[jB (by exact he) (by simp only;omega)]
  simp only
  rw[jB (by exact he) (by simp only;omega)]
  simp only
  rw[show 8*q+16=8*(q+2)by omega,hn16,hn16]
  by_cases hx:(t.getD q 0).toNat+(t.getD (q+1) 0).toNat*2^8+((t.getD (q+2) 0).toNat+(t.getD (q+2+1) 0).toNat*2^8)≠65535
  ·rw[if_pos hx,if_pos hx,n9 _ _ (yu (by decide)),kR (by exact he)]
  ·rw[if_neg hx,if_neg hx]
   exact BM t most _ _ (q+4) he (by simp only;omega) (by omega) ho
theorem alw (s:Bs) (a hv fr p:Nat) (hs:s.length≤1000000000000) (h:bz s a hv p) (hfr:8*fr≤p):Eng.Spec Tryz.prog 216 [] [.aA (.agg (aR s a hv fr))] (fun h' v ar=>h'=[]∧v=.int .i64 ((p+7)/8-fr:Nat)∧ar=[.aA (.agg (aR s a hv fr))]):=by
 refine Cod.aly (fun E R hN hR=>?_)
 obtain⟨h1,h2,h3⟩:=h
 have eq:(hv:Int).tdiv 8=((hv/8:Nat):Int):=by rw[ve (by omega)];omega
 have e2:(a:Int)-((hv/8:Nat):Int)-(fr:Int)=(((p+7)/8-fr:Nat):Int):=by omega
 refine vB eq e2 ?_
 exact hR.le vV ⟨rfl,rfl,rfl⟩
theorem ajh (s:Bs) (a hv fr p:Nat) (hs:s.length≤1000000000000) (h:bz s a hv p):Eng.Spec Tryz.prog 245 [] [.aA (.agg (aR s a hv fr))] (fun h' v ar=>h'=[]∧v=.int .i64 (cO s p:Nat)∧ar=[.aA (.agg (aR s a hv fr))]):=by
 refine Cod.ajj (fun E R hN hR=>?_)
 obtain⟨h1,h2,h3⟩:=h
 have e2:8*((s.length:Int)-(a:Int))+(hv:Int)=((cO s p:Nat):Int):=by unfold cO;omega
 refine aqE e2 ?_
 exact hR.le vV ⟨rfl,rfl,rfl⟩
theorem ao4 (s:Bs) (q:Nat) (h:q+4≤s.length):(s.drop q).take 4=[s.getD q 0,s.getD (q+1) 0,s.getD (q+2) 0,s.getD (q+3) 0]:=by
 have e:(s.drop q).take 4=(s.drop q).take 2++(s.drop (q+2)).take 2:=by rw[show(4:Nat)=2+2 from rfl,List.take_add,List.drop_drop]
 rw[e,xX s q (by omega),xX s (q+2) (by omega)]
 rfl
theorem arY {n:Nat} (h:n<65536):n ^^^ 65535=65535-n:=by
 have h1:(BitVec.ofNat 16 n ^^^ BitVec.allOnes 16).toNat=(~~~ (BitVec.ofNat 16 n)).toNat:=by rw[BitVec.xor_allOnes]
 rw[BitVec.toNat_xor,BitVec.toNat_not,BitVec.toNat_ofNat,BitVec.toNat_allOnes,Nat.mod_eq_of_lt (by omega)]at h1
 omega
set_option maxHeartbeats 1000000 in
theorem WR (s:Bs) (o most a hv:Nat) (S:SS) (hs:s.length≤1000000000) (ho:o≤s.length) (hm:most≤1000000) (hr:bz s a hv (8*o+S.p)) (hol:S.out.length≤most) (he:S.err=0) :
    Eng.Spec Tryz.prog 231 (aQ s o most a hv S.out) [.ab eY 0] (fun h' v ar=>PI s o most (fM (s.drop o) most S) h' v∧ar=[.ab eY 0]):=by
 refine Cod.WS (fun E R hN hR=>?_)
 obtain⟨q,hq⟩:∃q,dx S.p=8*q:=⟨(S.p+7)/8,by unfold dx;omega⟩
 have hr':=hr
 obtain⟨r1,r2,r3⟩:=hr'
 have hpl:S.p≤8*(s.drop o).length:=by rw[List.length_drop];omega
 have hup:dx (8*o+S.p)=8*(o+q):=by unfold dx at hq ⊢;omega
 have hud:dx (8*o+S.p)/8=o+q:=by omega
 have law:=aoy (s.drop o) most S he hpl hol q hq
 generalize fM (s.drop o) most S=F at *
 have gd:∀i,(s.drop o).getD i 0=s.getD (o+i) 0:=fun i=>by rw[List.getD_eq_getElem?_getD,List.getElem?_drop,←List.getD_eq_getElem?_getD]
 rw[gd,gd,gd,gd,List.length_drop,List.drop_drop]at law
 have hb:=uB s a hv o (8*o+S.p) 4 (by omega) (by decide) hr
 rw[hud]at hb
 refine iy ?_
 refine bj [(RD,.var (aR s a hv o))] hb vV nofun ?_
 rintro h' v ar ⟨a1,hv1,hr1,hz1,rfl,rfl,rfl⟩
 by_cases h4:s.length<o+q+4
 ·rw[if_neg (by omega)]at hr1
  rw[if_neg (by omega),decide_eq_false (by omega)]
  rw[if_pos (by omega)]at law
  refine⟨bX,rfl,?_⟩
  refine iA ?_
  exact hR.le (h':=aQ s o most a1 hv1 S.out) bn ⟨jd ⟨a1,hv1,{S with p:=8*q,err:=6},rfl,by simp only;rw[show 8*o+8*q=8*(o+q)by omega,←hup];exact hr1,hol,by rw[law];rfl,fun h=>absurd h (by rw[law];decide)⟩,rfl⟩
 ·rw[if_pos (by omega)]at hr1
  rw[if_pos (by omega),decide_eq_true (by omega),ao4 s (o+q) (by omega)]
  rw[if_neg (by omega)]at law
  generalize s.getD (o+q) 0=c0 at *
  generalize s.getD (o+(q+1)) 0=c1 at *
  generalize s.getD (o+(q+2)) 0=c2 at *
  generalize s.getD (o+(q+3)) 0=c3 at *
  have hc0:=c0.toNat_lt
  have hc1:=c1.toNat_lt
  have hc2:=c2.toNat_lt
  have hc3:=c3.toNat_lt
  have l1:=Ak c0 c1
  have l2:=Ak c2 c3
  generalize hn:c0.toNat+c1.toNat*2^8=n at *
  generalize hk:c2.toNat+c3.toNat*2^8=k at *
  have hn6:n<65536:=by omega
  have hk6:k<65536:=by omega
  refine⟨bX,rfl,?_⟩
  refine iA ?_
  refine aC l1 rfl rfl ?_
  refine wW ?_
  refine aC l2 rfl rfl ?_
  have ex:bits .xor .i64 (n:Int) 65535=((65535-n:Nat):Int):=by
   show IntKind.i64.wrap ((BitVec.ofInt 64 (n:Int) ^^^ BitVec.ofInt 64 ((65535:Nat):Int)).toNat:Int)=_
   rw[BitVec.ofInt_natCast,BitVec.ofInt_natCast,BitVec.toNat_xor,BitVec.toNat_ofNat,BitVec.toNat_ofNat,Nat.mod_eq_of_lt (by omega),Nat.mod_eq_of_lt (by decide),arY hn6]
   exact eW (by omega)
  refine az ex ?_
  by_cases hx:n+k≠65535
  ·rw[if_pos hx]at law
   have hne:¬((65535-n:Nat):Int)=(k:Int):=by omega
   refine az hne ?_
   exact hR.le (h':=aQ s o most a1 hv1 S.out) bn ⟨jd ⟨a1,hv1,{S with p:=8*(q+4),err:=3},rfl,by simp only;rw[hup]at hr1;rw[show 8*o+8*(q+4)=8*(o+q)+8*4 by omega];exact hr1,hol,by rw[law];rfl,fun h=>absurd h (by rw[law];decide)⟩,rfl⟩
  ·rw[if_neg hx]at law
   have heq:((65535-n:Nat):Int)=(k:Int):=by omega
   obtain⟨law1,law2⟩:=law
   have hr1':bz s a1 hv1 (8*(o+q+4)):=by rw[hup]at hr1;rw[show 8*(o+q+4)=8*(o+q)+8*4 by omega];exact hr1
   have hup1:dx (8*(o+q+4))=8*(o+q+4):=by unfold dx;omega
   have hb2:=uB s a1 hv1 o (8*(o+q+4)) n (by omega) (by omega) hr1'
   rw[hup1,Nat.mul_div_cancel_left _ (by decide)]at hb2
   refine az heq ?_
   refine bj [(RD,.var (aR s a1 hv1 o))] hb2 bX nofun ?_
   rintro h' v ar ⟨a2,hv2,hr2,hz2,rfl,rfl,rfl⟩
   have key:∀(ok:Bool) (x:Bs),ok=decide (n≤s.length-(o+q+4))→x=(if n≤s.length-(o+q+4)then(s.drop (o+q+4)).take n else[]) →
    vcW Tryz.prog E Cod.zU (KQ.post [RVar.tmp 2] 1 R) ⟨[(0,.ab 65032 0),(4,.bool ok),(6,.str x),(2000000,.ab 65032 0)],[(40014,.var (aR s a2 hv2 o)),(65032,.var [.ab 40014 0,.sl 60022 0 S.out.length,.int .i64 most]),(60022,.arr 1 (S.out.map ub))]⟩:=by
    intro ok x hok hv4
    refine gK hN (fun z:Nat×Nat=>⟨[(0,.ab eY 0),(4,.bool ok),(6,.str ((s.drop (o+q+4)).take n)),(2000000,.ab eY 0)],aQ s o most z.1 z.2 S.out⟩) (fun z=>bz s z.1 z.2 (8*(o+q+4+min n (s.length-(o+q+4))))) (fun R2 hR2=>?_) (fun z hz=>?_)
    ·clear hR
     subst hok
     subst hv4
     by_cases hfit:n≤s.length-(o+q+4)
     ·rw[if_pos hfit]at hr2
      rw[if_pos hfit,decide_eq_true hfit]
      refine jO ?_
      refine hR2 (a2,hv2) _ (by simp only;rw[Nat.min_eq_left hfit,show 8*(o+q+4+n)=8*(o+q+4)+8*n by omega];exact hr2) (.le ?_)
      exact bn
     ·rw[if_neg hfit]at hr2
      rw[if_neg hfit,decide_eq_false hfit]
      have hlb:=ajh s a2 hv2 o _ (by omega) hr2
      have el:cO s (8*(o+q+4))/8=s.length-(o+q+4):=by unfold cO;omega
      have hb3:=uB s a2 hv2 o _ (s.length-(o+q+4)) (by omega) (by omega) hr2
      rw[hup1,Nat.mul_div_cancel_left _ (by decide),if_pos (Nat.le_refl _)]at hb3
      generalize cO s (8*(o+q+4))=lb at *
      have elb:(lb:Int)/8=((s.length-(o+q+4):Nat):Int):=by omega
      simp only[aR]at hlb
      refine iA ?_
      refine gG ?_
      refine nq [] vV hlb trivial (fun _=>rfl) ?_
      rintro h' v ar ⟨rfl,rfl,rfl⟩
      refine⟨rfl,rfl,?_⟩
      refine az elb ?_
      refine bj [(RD,.var (aR s a2 hv2 o))] hb3 bX nofun ?_
      rintro h' v ar ⟨a3,hv3,hr3,hz3,rfl,rfl,rfl⟩
      rw[if_pos (Nat.le_refl _),decide_eq_true (Nat.le_refl _)]
      have etk:(s.drop (o+q+4)).take (s.length-(o+q+4))=(s.drop (o+q+4)).take n:=by
       rw[List.take_of_length_le (by rw[List.length_drop];omega),List.take_of_length_le (by rw[List.length_drop];omega)]
      refine⟨bX,rfl,?_⟩
      refine iA ?_
      refine hR2 (a3,hv3) _ (by simp only;rw[Nat.min_eq_right (by omega),show 8*(o+q+4+(s.length-(o+q+4)))=8*(o+q+4)+8*(s.length-(o+q+4))by omega];exact hr3) (.le ?_)
      exact DD etk
    ·obtain⟨a3,hv3⟩:=z
     simp only at hz ⊢
     have hbl:((s.drop (o+q+4)).take n).length=min n (s.length-(o+q+4)):=by rw[List.length_take,List.length_drop]
     generalize hbb:(s.drop (o+q+4)).take n=b at *
     by_cases hbig:most-S.out.length<b.length
     ·have hbi:(most:Int)-(S.out.length:Int)<(b.length:Int):=by omega
      rw[if_pos (by omega)]at law1
      refine vz hbi ?_
      exact hR.le (h':=aQ s o most a3 hv3 S.out) bn ⟨jd ⟨a3,hv3,{S with p:=8*(q+4+min n (s.length-(o+q+4))),err:=2},rfl,by simp only;rw[show 8*o+8*(q+4+min n (s.length-(o+q+4)))=8*(o+q+4+min n (s.length-(o+q+4)))by omega];exact hz,hol,by rw[law1];rfl,fun h=>absurd h (by rw[law1];decide)⟩,rfl⟩
     ·have hbi:¬(most:Int)-(S.out.length:Int)<(b.length:Int):=by omega
      rw[if_neg (by omega)]at law1
      by_cases hfit:n≤s.length-(o+q+4)
      ·rw[decide_eq_true hfit]at hok
       subst hok
       rw[if_neg (by omega)]at law1
       have law2:=law2 law1
       refine vz hbi ?_
       exact hR.le (h':=aQ s o most a3 hv3 (S.out++b)) bn ⟨jd ⟨a3,hv3,F,by rw[law2],by rw[law2];simp only;rw[Nat.min_eq_left hfit]at hz;rw[show 8*o+8*(q+4+n)=8*(o+q+4+n)by omega];exact hz,by rw[law2];simp only[List.length_append];omega,by rw[law1];rfl,fun _=>rfl⟩,rfl⟩
      ·rw[decide_eq_false hfit]at hok
       subst hok
       rw[if_pos (by omega)]at law1
       refine vz hbi ?_
       exact hR.le (h':=aQ s o most a3 hv3 (S.out++b)) bn ⟨jd ⟨a3,hv3,⟨8*(q+4+min n (s.length-(o+q+4))),S.out++b,6⟩,rfl,by simp only;rw[show 8*o+8*(q+4+min n (s.length-(o+q+4)))=8*(o+q+4+min n (s.length-(o+q+4)))by omega];exact hz,by simp only[List.length_append];omega,by rw[law1];rfl,fun h=>absurd h (by rw[law1];decide)⟩,rfl⟩
   by_cases hfit:n≤s.length-(o+q+4)
   ·have key:=key true _ (by rw[decide_eq_true hfit]) rfl
    rw[if_pos hfit]at key
    rw[if_pos hfit,decide_eq_true hfit]
    refine⟨bX,rfl,?_⟩
    simp only[aR]at key
    refine iA ?_
    exact key
   ·have key:=key false _ (by rw[decide_eq_false hfit]) rfl
    rw[if_neg hfit]at key
    rw[if_neg hfit,decide_eq_false hfit]
    refine⟨bX,rfl,?_⟩
    simp only[aR]at key
    refine iA ?_
    exact key
theorem wm (most back n:Nat) (S:SS):backS most back (n+1) S=if S.err≠0 then S else backS most back n (fp most (S.out.getD (S.out.length-back) 0) S):=rfl
theorem GM (most back:Nat) {S:SS} (h:S.err≠0):∀n,backS most back n S=S
 | 0=>rfl
 | n+1=>by rw[wm,if_pos h]
theorem Z9:∀i,i≤28→(cc i).1≤300∧(cc i).2≤8:=by decide +kernel
theorem MG:∀i,i≤29→(fA i).1≤40000∧(fA i).2≤15∧1≤(fA i).1:=by decide +kernel
set_option maxHeartbeats 2000000 in
theorem VC (s:Bs) (o most a hv:Nat) (S:SS) (d:List Nat) (sy:Nat) (hs:s.length≤1000000000) (ho:o≤s.length) (hm:most≤1000000) (hr:bz s a hv (8*o+S.p)) (hol:S.out.length≤most) (he:S.err=0)
    (hd:∀n∈d,n≤15) (hdl:d.length≤320) (hdc:bL d=true) (hsy:257≤sy) (hsy2:sy≤400) :
    Eng.Spec Tryz.prog 236 (aQ s o most a hv S.out) [.ab eY 0,.int .i64 sy,bh d] (fun h' v ar=>PI s o most (iu (s.drop o) most d sy S) h' v∧ar=[.ab eY 0,.int .i64 sy,bh d]):=by
 refine Cod.VD (fun E R hN hR=>?_)
 have htl:(s.drop o).length=s.length-o:=List.length_drop
 by_cases h285:285<sy
 ·have hF:iu (s.drop o) most d sy S={S with err:=3}:=by unfold iu;rw[if_pos h285,kR he]
  rw[hF]at hR
  refine jO ?_
  refine gG ?_
  exact hR.le (h':=aQ s o most a hv S.out) bn ⟨jd ⟨a,hv,S,rfl,hr,hol,rfl,fun h=>absurd h (by simp)⟩,rfl⟩
 ·have elen:(sy:Int)-257=((sy-257:Nat):Int):=by omega
  have hlt:=Z9 (sy-257) (by omega)
  have hlenb:=Uh (sy-257) (by omega)
  have hrep:iu (s.drop o) most d sy S=(let a:=bN (s.drop o) (cc (sy-257)).2 S
   let k:=bR (s.drop o) d a.2
   if k.2.err≠0 then k.2 else if 29<k.1 then fb 3 k.2 else
   let b:=bN (s.drop o) (fA k.1).2 k.2
   let back:=(fA k.1).1+b.1
   if b.2.err≠0 then b.2 else if b.2.out.length<back then fb 3 b.2 else backS most back ((cc (sy-257)).1+a.1) b.2):=by unfold iu;rw[if_neg h285]
  rw[hrep]at hR
  clear hrep
  simp only at hR
  generalize cc (sy-257)=lb at *
  simp(disch:=omega)only[go_sem,simprocAttr,aQ,bh,elen]
  refine cm elen ?_
  refine aC hlenb rfl rfl ?_
  refine wW ?_
  have hbits:=qU s a hv o (8*o+S.p) lb.2 (by omega) hr (by omega)
  rw[tU,←qG]at hbits
  refine bj [(RD,.var (aR s a hv o))] hbits vV nofun ?_
  rintro h' v ar ⟨a1,hv1,hr1,rfl,rfl,rfl⟩
  by_cases hf1:lb.2≤8*(s.drop o).length-S.p
  ·rw[if_pos hf1]at hr1
   rw[if_pos hf1,decide_eq_true hf1]
   have hpl:S.p+lb.2≤8*(s.drop o).length:=by have:=hr.h2;have:=hr.h3;omega
   rw[jB he hpl]at hR
   simp only at hR
   have hnl:=fY (s.drop o) S.p lb.2
   have hn256:2^lb.2≤2^8:=Nat.pow_le_pow_right (by decide) hlt.2
   generalize numAt (s.drop o) S.p lb.2=x1 at *
   refine⟨bX,rfl,?_⟩
   have cV:=tt d hd hdl hdc s a1 hv1 o (8*o+S.p+lb.2) (by omega) hr1
   rw[Nat.add_assoc,←uH]at cV
   simp only[bh]at cV
   generalize hre:readL (bG d) (cp (s.drop o) (S.p+lb.2))=re at *
   refine wW ?_
   refine bj [(RD,.var (aR s a1 hv1 o))] cV vV nofun ?_
   rintro h' v ar ⟨a2,hv2,p2,k,hr2,rfl,rfl,hk,rfl⟩
   refine⟨bX,rfl,?_⟩
   by_cases hre2:re.2.2=0
   ·obtain⟨rfl,rfl⟩:=hk hre2
    have hsym:bR (s.drop o) d {S with p:=S.p+lb.2}=(re.1,{S with p:=S.p+lb.2+re.2.1}):=by rw[←hre];exact rz he (by rw[hre];exact hre2)
    rw[hsym]at hR
    simp only at hR
    rw[if_neg (by simpa using he)]at hR
    have hr2':bz s a2 hv2 (8*o+(S.p+lb.2+re.2.1)):=by rw[show 8*o+(S.p+lb.2+re.2.1)=8*o+(S.p+lb.2)+re.2.1 by omega];exact hr2
    generalize hp2:S.p+lb.2+re.2.1=p2 at *
    have hklt:re.1≤400:=by
     have:=oa (bG d) (cp (s.drop o) (S.p+lb.2)) (by rw[hre];exact hre2)
     rw[hre]at this
     have hcl:(bG d).length=d.length:=by simp[bG]
     omega
    generalize re.1=k at *
    by_cases h29:29<k
    ·rw[if_pos h29,kR (by exact he)]at hR
     refine az hre2 ?_
     exact hR.le (h':=aQ s o most a2 hv2 S.out) bn ⟨jd ⟨a2,hv2,{S with p:=p2},rfl,hr2',hol,rfl,fun h=>absurd h (by simp)⟩,rfl⟩
    ·rw[if_neg h29]at hR
     have hdt:=MG k (by omega)
     have hdb:=Tm k (by omega)
     generalize fA k=db at *
     have hbits2:=qU s a2 hv2 o (8*o+p2) db.2 (by omega) hr2' (by omega)
     rw[tU,←qG]at hbits2
     refine az hre2 ?_
     refine aC hdb rfl rfl ?_
     refine wW ?_
     refine bj [(RD,.var (aR s a2 hv2 o))] hbits2 vV nofun ?_
     rintro h' v ar ⟨a3,hv3,hr3,rfl,rfl,rfl⟩
     by_cases hf2:db.2≤8*(s.drop o).length-p2
     ·rw[if_pos hf2]at hr3
      rw[if_pos hf2,decide_eq_true hf2]
      have hpl2:p2+db.2≤8*(s.drop o).length:=by have:=hr2'.h2;have:=hr2'.h3;omega
      rw[jB (by exact he) hpl2]at hR
      simp only at hR
      rw[if_neg (by simpa using he)]at hR
      have hn2:=fY (s.drop o) p2 db.2
      have hn15:2^db.2≤2^15:=Nat.pow_le_pow_right (by decide) hdt.2.1
      generalize numAt (s.drop o) p2 db.2=x2 at *
      refine⟨bX,rfl,?_⟩
      refine wW ?_
      by_cases hbk:S.out.length<db.1+x2
      ·have hbi:(S.out.length:Int)<(db.1:Int)+(x2:Int):=by omega
       rw[if_pos (by exact hbk),kR (by exact he)]at hR
       refine az hbi ?_
       exact hR.le (h':=aQ s o most a3 hv3 S.out) bn ⟨jd ⟨a3,hv3,{S with p:=p2+db.2},rfl,by show bz s a3 hv3 (8*o+(p2+db.2));rw[←Nat.add_assoc];exact hr3,hol,rfl,fun h=>absurd h (by simp)⟩,rfl⟩
      ·have hbi:¬(S.out.length:Int)<(db.1:Int)+(x2:Int):=by omega
       rw[if_neg (by exact hbk)]at hR
       generalize hbb:db.1+x2=back at *
       have hb1:1≤back:=by omega
       have ebk:(db.1:Int)+(x2:Int)=(back:Int):=by omega
       have eln:(lb.1:Int)+(x1:Int)=((lb.1+x1:Nat):Int):=by omega
       have hln:lb.1+x1≤1000:=by omega
       rw[ebk,eln]
       generalize lb.1+x1=n at *
       rw[ebk]at hbi
       refine az hbi ?_
       refine ba hN (fun z:Nat×Bs=>⟨[(0,.ab 65032 0),(13,.int .i64 back),(79,.int .i64 n),(80,.int .i64 z.1),(2000000,.ab 65032 0),(2000001,.int .i64 sy),(2000002,.aA (.agg (gj d)))],aQ s o most a3 hv3 z.2⟩)
        (fun z=>z.1≤n∧z.2.length≤most∧back≤z.2.length∧backS most back (n-z.1) ⟨p2+db.2,z.2,S.err⟩=backS most back n ⟨p2+db.2,S.out,S.err⟩) (fun z=>n-z.1) (0,S.out) (.le bn) ⟨by simp,hol,by simp only;omega,rfl⟩ ?_
       rintro⟨j,out⟩ R1 ⟨hj,hjo,hjb,hjF⟩ hR1
       simp only at hj hjo hjb hjF
       by_cases hjn:j<n
       ·have ej:n-j=(n-j-1)+1:=by omega
        rw[ej,wm,if_neg (by simpa using he)]at hjF
        unfold fp at hjF
        rw[if_neg (by simpa using he)]at hjF
        simp only at hjF
        have eidx:(out.length:Int)-(back:Int)=((out.length-back:Nat):Int):=by omega
        generalize hcc:out.getD (out.length-back) 0=c at *
        have hput:=zJ s o most a3 hv3 out hm hjo c
        refine jO ?_
        rw[hcc]
        refine bj (aQ s o most a3 hv3 out) hput bn nofun ?_
        rintro h' v ar ⟨rfl,rfl,rfl⟩
        refine⟨bn,rfl,?_⟩
        by_cases hfull:out.length=most
        ·rw[if_pos hfull,if_pos hfull]
         rw[if_pos (by omega),GM _ _ (by simp)]at hjF
         rw[←hjF]at hR
         refine jO ?_
         exact hR.le (h':=aQ s o most a3 hv3 out) bn ⟨⟨a3,hv3,out,rfl,rfl,fun h=>absurd h (by simp)⟩,rfl⟩
        ·rw[if_neg hfull,if_neg hfull]
         rw[if_neg (by omega)]at hjF
         refine jO ?_
         exact hR1 (j+1,out++[c]) _ (by simp only;omega) ⟨by simp only;omega,by simp only[List.length_append,List.length_singleton];omega,by simp only[List.length_append,List.length_singleton];omega,by simp only;rw[show n-(j+1)=n-j-1 by omega];exact hjF⟩ (.le bn)
       ·obtain rfl:j=n:=by omega
        rw[Nat.sub_self]at hjF
        rw[←hjF]at hR
        refine jO ?_
        exact hR.le (h':=aQ s o most a3 hv3 out) bn ⟨⟨a3,hv3,out,rfl,by show _=AV.int .i64 ((S.err:Nat):Int);rw[he];rfl,fun _=>⟨rfl,by show bz s a3 hv3 (8*o+(p2+db.2));rw[←Nat.add_assoc];exact hr3⟩⟩,rfl⟩
     ·rw[if_neg hf2]at hr3
      rw[if_neg hf2,decide_eq_false hf2]
      rw[ln (by exact he) (by simp only;omega)]at hR
      simp only at hR
      rw[if_pos (by decide)]at hR
      refine⟨bX,rfl,?_⟩
      refine wW ?_
      exact hR.le (h':=aQ s o most a3 hv3 S.out) bn ⟨jd ⟨a3,hv3,{S with p:=p2},rfl,hr3,hol,rfl,fun h=>absurd h (by simp)⟩,rfl⟩
   ·have hsym:bR (s.drop o) d {S with p:=S.p+lb.2}=(0,{S with p:=S.p+lb.2,err:=re.2.2}):=by rw[←hre];exact ry he (by rw[hre];exact hre2)
    rw[hsym]at hR
    simp only at hR
    rw[if_pos hre2]at hR
    have hi:¬((re.2.2:Nat):Int)=0:=by omega
    refine az hi ?_
    exact hR.le (h':=aQ s o most a2 hv2 S.out) bn ⟨⟨a2,hv2,S.out,rfl,rfl,fun h=>absurd h hre2⟩,rfl⟩
  ·rw[if_neg hf1]at hr1
   rw[if_neg hf1,decide_eq_false hf1]
   rw[ln he (by omega)]at hR
   simp only at hR
   rw[aoX (by simp)]at hR
   simp only at hR
   rw[if_pos (by decide)]at hR
   refine⟨bX,rfl,?_⟩
   refine wW ?_
   exact hR.le (h':=aQ s o most a1 hv1 S.out) bn ⟨jd ⟨a1,hv1,S,rfl,hr1,hol,rfl,fun h=>absurd h (by simp)⟩,rfl⟩
set_option maxHeartbeats 2000000 in
theorem T4:aN Tryz.prog 232 [] (.ai [bh gy,bh gw]):=by
 refine Cod.T5 (fun E R hN hR=>?_)
 refine wW ?_
 refine ba hN (fun i:Nat=>⟨[(2,.sl 66022 0 i),(3,.aq),(9,.int .i64 i)],[(66022,.arr 1 (aU (dU fixF i)))]⟩) (fun i=>i≤288) (fun i=>288-i) 0 (.nil 2 66022 1 rfl (.le (oI @DB @nR))) (by omega) ?_
 rintro i R1 hi hR1
 have hul:=Dz fixF i
 have hnl:=dN (dU fixF i)
 by_cases hlt:i<288
 ·have hus:=DA fixF i
  have hsb:aI (aU (dU fixF i)) 0 i=aU (dU fixF i):=by
   have:=kb (xs:=dU fixF i);rw[hul]at this;exact this
  refine wW ?_
  refine gK hN (fun _:Unit=>⟨[(2,.sl 66022 0 i),(3,.aq),(4,.int .i64 i),(9,.int .i64 i),(15,.bool (decide (i<144∨280≤i)))],[(66022,.arr 1 (aU (dU fixF i)))]⟩) (fun _=>True) (fun R2 hR2=>?_) (fun _ _=>?_)
  ·by_cases h1:i<144
   ·rw[decide_eq_true (.inl h1)]at hR2
    refine wW ?_
    refine gG ?_
    exact hR2 () _ trivial (.le vV)
   ·by_cases h2:280≤i
    ·rw[decide_eq_true (.inr h2)]at hR2
     refine wW ?_
     refine gG ?_
     exact hR2 () _ trivial (.le vV)
    ·rw[decide_eq_false (by omega)]at hR2
     refine wW ?_
     refine gG ?_
     exact hR2 () _ trivial (.le vV)
  ·by_cases h8:i<144∨280≤i
   ·have hf:fixF i=8:=by unfold fixF;rw[if_neg (by omega),if_neg (by omega)]
    rw[hf]at hus
    rw[decide_eq_true h8]
    refine bc @jz hsb ?_
    exact hR1 (i+1) _ (by omega) (by omega) (.le (by rw[hus,←lj];exact vV))
   ·rw[decide_eq_false h8]
    by_cases h9:i<256
    ·have hf:fixF i=9:=by unfold fixF;rw[if_neg (by omega),if_pos (by omega)]
     rw[hf]at hus
     refine bc @jz hsb ?_
     exact hR1 (i+1) _ (by omega) (by omega) (.le (by rw[hus,←lj];exact vV))
    ·have hf:fixF i=7:=by unfold fixF;rw[if_pos (by omega)]
     rw[hf]at hus
     refine bc @jz hsb ?_
     exact hR1 (i+1) _ (by omega) (by omega) (.le (by rw[hus,←lj];exact vV))
 ·obtain rfl:i=288:=by omega
  refine wW ?_
  refine ba hN (fun i:Nat=>⟨[(2,.sl 66022 0 288),(3,.sl 66034 0 i),(30,.int .i64 i)],[(66022,.arr 1 (aU (dU fixF 288))),(66034,.arr 1 (aU (dU (fun _=>5) i)))]⟩) (fun i=>i≤32) (fun i=>32-i) 0 (.nil 3 66034 1 rfl (.le (oI @DB @nR))) (by omega) ?_
  rintro i R2 hi hR2
  have hul2:=Dz (fun _=>5) i
  have hnl2:=dN (dU (fun _=>5) i)
  by_cases hlt:i<32
  ·have hus:=DA (fun _=>5) i
   have hsb:aI (aU (dU (fun _=>5) i)) 0 i=aU (dU (fun _=>5) i):=by
    have:=kb (xs:=dU (fun _=>5) i);rw[hul2]at this;exact this
   refine bc @jz hsb ?_
   exact hR2 (i+1) _ (by omega) (by omega) (.le (by rw[hus,←lj];exact vV))
  ·obtain rfl:i=32:=by omega
   rw[OG]at *
   rw[OE]at *
   have e1:aI (aU gy) 0 288=aU gy:=by rw[←kT.2.1];exact kb
   have e2:aI (aU gw) 0 32=aU gw:=by rw[←kS.2.1];exact kb
   have n1:=qj gy kT.1 (by rw[kT.2.1];decide)
   have n2:=qj gw kS.1 (by rw[kS.2.1];decide)
   rw[if_pos kT.2.2]at n1
   rw[if_pos kS.2.2]at n2
   generalize gy=l at *
   generalize gw=d at *
   refine wW ?_
   refine kM ⟨[(37,.ro 1 (aU l)),(3,.ro 1 (aU d))],[]⟩ (.bH 66022 (.bH 66034 (.le (oI e1 e2)))) rfl ?_
   refine wW ?_
   refine gS n1 rfl ?_
   rintro h' v as' ⟨rfl,rfl⟩
   refine⟨rfl,rfl,?_⟩
   simp(disch:=omega)only[go_sem,simprocAttr,bh]
   refine gS n2 rfl ?_
   rintro h' v as' ⟨rfl,rfl⟩
   refine⟨rfl,rfl,?_⟩
   simp(disch:=omega)only[go_sem,simprocAttr,bh]
   exact hR.le vV ⟨rfl,rfl⟩
def Bf:AV:=.agg (aU gh)
theorem UP:aN Tryz.prog 247 [] Bf:=by
 refine Cod.UQ (fun E R hN hR=>?_)
 refine wW ?_
 exact hR.le vV ⟨rfl,rfl⟩
end Go.Proofs.YtoalcafkffmiiaaGreatDoor.Pk
namespace Go.Proofs.YtoalcafkffmiiaaGreatDoor.Pk
section
variable {t:Bs} {S:SS}
theorem Bg {e:Nat}:(fb e S).out=S.out:=by unfold fb;split<;>rfl
theorem qJ {n:Nat}:(bN t n S).2.out=S.out:=by
 unfold bN
 split
 ·rfl
 ·split<;>rfl
theorem Bi {l:List Nat}:(bR t l S).2.out=S.out:=by
 unfold bR
 split
 ·rfl
 ·split<;>rfl
theorem Bj {l:List Nat} {s:Nat}:(dI t l s S).2.2.out=S.out:=by
 unfold dI
 split
 ·split
  ·exact Bg
  ·exact qJ
 ·split
  ·exact qJ
  ·split
   ·exact qJ
   ·rfl
theorem Bh {N:Nat} {l:List Nat} {b:Nat×Nat×SS}:(dH N l b).out=b.2.2.out:=by
 unfold dH
 split
 ·exact Bg
 ·rfl
end
theorem mF {t:Bs} {nc:Nat}:∀(k:Nat) (l:List Nat) (S:SS),(firstS t nc k l S).2.out=S.out
 | 0,_,_=>rfl
 | k+1,l,S=>by
  rw[s5]
  split
  ·rfl
  ·rw[mF k,qJ]
theorem qI {t:Bs} {fl:List Nat} {N:Nat}:∀(k:Nat) (l:List Nat) (S:SS),(ig t fl N k l S).2.out=S.out
 | 0,_,_=>rfl
 | k+1,l,S=>by
  rw[tW]
  split
  ·rfl
  ·split
   ·simp only;rw[Bh,Bj,Bi]
   ·rw[qI k,Bh,Bj,Bi]
theorem Nk (t:Bs) (S:SS):(eO t S).2.out=S.out:=by
 rw[ya]
 split
 ·rfl
 ·split
  ·rfl
  ·unfold mc
   split
   ·simp only;rw[mF]
   ·split
    ·simp only;rw[mF]
    ·unfold nJ
     split
     ·simp only;rw[qI,mF]
     ·split
      ·simp only;rw[qI,mF]
      ·simp only;rw[qI,mF]
open Eng
set_option maxRecDepth 10000
def vc:AV:=.lit (.pointer none)
def PT (s:Bs) (o most:Nat) (out:Bs) (D:(List Nat×List Nat)×SS) (h':HP) (v:AV):Prop:=
 ∃a' hv',h'=aQ s o most a' hv' out∧(D.2.err≠0→v=.ai [vc,vc,.int .i64 (D.2.err:Nat)]) ∧
  (D.2.err=0→v=.ai [bh D.1.1,bh D.1.2,.int .i64 (0:Nat)]∧bz s a' hv' (8*o+D.2.p)∧bL D.1.1=true∧bL D.1.2=true∧(∀n∈D.1.1,n≤15)∧(∀n∈D.1.2,n≤15)∧D.1.1.length≤286∧D.1.2.length≤320)
abbrev QT (R:HP→AV→List AV→Prop):KQ:=KQ.post [.tmp 2,.tmp 3,.tmp 4] 1 R
abbrev D6 (R1 RX:KS) (R:HP→AV→List AV→Prop):KQ:=KQ.c8 3 (KQ.gH R1 (KQ.c8 2 (KQ.gH RX (QT R))))
abbrev mW (s:Bs) (o most:Nat) (out:Bs) (D:(List Nat×List Nat)×SS):HP→AV→List AV→Prop:=fun h' v ar=>PT s o most out D h' v∧ar=[.ab eY 0]
theorem jI {s:Bs} {o most:Nat} {out:Bs} {D:(List Nat×List Nat)×SS} {R:HP→AV→List AV→Prop} (hR:cP (mW s o most out D) R) (e:Nat) (he:D.2.err=e) (hne:e≠0) (a' hv':Nat) {h:HP} (hh:dh h (aQ s o most a' hv' out)) :
    R h (.ai [.lit (.pointer none),.lit (.pointer none),.int .i64 (e:Nat)]) [.ab 65032 0]:=
 hR.le (h':=aQ s o most a' hv' out) hh ⟨⟨a',hv',rfl,fun _=>by rw[he];rfl,fun h=>absurd h (by rw[he];exact hne)⟩,rfl⟩
theorem qT (s:Bs) (o p a hv n:Nat) (hs:s.length≤1000000000) (h:bz s a hv (8*o+p)) (hn:n≤32):Eng.Spec Tryz.prog 230 [(RD,.var (aR s a hv o))] [.ab RD 0,.int .i64 n]
    (fun h' v ar=>∃a' hv',bz s a' hv' (8*o+(if n≤8*(s.drop o).length-p then p+n else p))∧h'=[(RD,.var (aR s a' hv' o))]∧v=.ai [.int .u32 (if n≤8*(s.drop o).length-p then numAt (s.drop o) p n else 0:Nat),.bool (decide (n≤8*(s.drop o).length-p))]∧ar=[.ab RD 0,.int .i64 n]):=by
 have hb:=qU s a hv o (8*o+p) n (by omega) h hn
 rw[tU,←qG]at hb
 rw[show 8*o+(if n≤8*(s.drop o).length-p then p+n else p)=(if n≤8*(s.drop o).length-p then 8*o+p+n else 8*o+p)by split<;>omega]
 exact hb
theorem zh (l:List Nat) (hl:∀n∈l,n≤15) (hn:l.length≤320):∃(x:AV) (e:Nat),Eng.Spec Tryz.prog 246 [] [.ro 1 (aU l)] (fun h r _=>h=[]∧r=.ai [x,.int .i64 (e:Nat)])∧((bL l=true∧x=bh l∧e=0)∨(bL l=false∧x=.lit (.pointer none)∧e=4)):=by
 have n1:=qj l hl hn
 by_cases hc:bL l=true
 ·rw[if_pos hc]at n1
  exact⟨_,0,n1,.inl ⟨hc,rfl,rfl⟩⟩
 ·rw[if_neg hc]at n1
  exact⟨_,4,n1,.inr ⟨by simpa using hc,rfl,rfl⟩⟩
set_option maxHeartbeats 2000000 in
theorem WV (s:Bs) (o most a hv:Nat) (out:Bs) (l:List Nat) (nl p:Nat) (D:(List Nat×List Nat)×SS) {E:Env} {R:HP→AV→List AV→Prop} (hN:E.N≤1000000) (hR:cP (mW s o most out D) R) (hl:∀n∈l,n≤15) (h1:257≤nl) (h2:nl≤286) (h3:l.length≤320) (h4:nl≤l.length)
    (hr:bz s a hv (8*o+p))
    (hD:D=if l.getD 256 0=0∨bL (l.take nl)=false∨bL (l.drop nl)=false then(([],[]),⟨p,out,3⟩)else((l.take nl,l.drop nl),⟨p,out,0⟩)) :
    vcW Tryz.prog E Cod.tF (QT R) ⟨[(0,.ab 65032 0),(7,.int .i64 nl),(16,.ro 1 (aU l)),(2000000,.ab 65032 0)],aQ s o most a hv out⟩:=by
 have hnl:=dN l
 have ht1:(l.take nl).length=nl:=by rw[List.length_take];omega
 have hd1:(l.drop nl).length=l.length-nl:=List.length_drop
 obtain⟨x1,e1,n1,c1⟩:=zh (l.take nl) (Dc hl nl) (by omega)
 obtain⟨x2,e2,n2,c2⟩:=zh (l.drop nl) (xU hl nl) (by omega)
 have hx:nth (aU l) 256=.int .i64 (l.getD 256 0:Nat):=kc (by omega)
 have etd:(l.drop nl).take (l.length-nl)=l.drop nl:=List.take_of_length_le (by omega)
 generalize hy:l.getD 256 0=y at *
 have bad:D=(([],[]),⟨p,out,3⟩)→∀h,dh h (aQ s o most a hv out)→R h (.ai [.lit (.pointer none),.lit (.pointer none),.int .i64 3]) [.ab 65032 0]:=fun hd h hh=>jI hR 3 (by rw[hd]) (by decide) a hv hh
 refine vA hnl @nS ?_
 rcases c1 with⟨hc1,rfl,rfl⟩ | ⟨hc1,rfl,rfl⟩<;>rcases c2 with⟨hc2,rfl,rfl⟩ | ⟨hc2,rfl,rfl⟩<;>by_cases h0:y=0
 all_goals
  refine gS n1 rfl ?_
  rintro h' v as' ⟨rfl,rfl⟩
  refine⟨rfl,rfl,?_⟩
  simp(disch:=omega)only[go_sem,simprocAttr,hnl,nS,etd,bh]
  refine gS n2 rfl ?_
  rintro h' v as' ⟨rfl,rfl⟩
  refine⟨rfl,rfl,?_⟩
 rotate_left
 ·rw[if_neg (by rw[hc1,hc2];simp[h0])]at hD
  subst hD
  have hi:¬((y:Nat):Int)=0:=by omega
  simp(disch:=omega)only[go_sem,simprocAttr,hnl,hx,hi,bh]
  refine jY hnl hx hi ?_
  exact hR.le (h':=aQ s o most a hv out) bn ⟨⟨a,hv,rfl,fun h=>absurd rfl h,fun _=>⟨rfl,hr,hc1,hc2,Dc hl nl,xU hl nl,by rw[ht1];exact h2,by rw[hd1];omega⟩⟩,rfl⟩
 all_goals
  rw[if_pos (by first | exact .inl h0 | exact .inr (.inl hc1) | exact .inr (.inr hc2))]at hD
  have bad:=bad hD
 all_goals first
  |have hi:((y:Nat):Int)=0:=by omega
   simp(disch:=omega)only[go_sem,simprocAttr,hnl,hx,hi,bh]
   (try(repeat(first | refine du ?_ | refine dq ?_ | refine dr ?_)<;>simp(disch:=omega)only[go_sem,simprocAttr,hnl,hx,hi]))
   exact bad _ bn
  |have hi:¬((y:Nat):Int)=0:=by omega
   simp(disch:=omega)only[go_sem,simprocAttr,hnl,hx,hi,bh]
   (try(repeat(first | refine du ?_ | refine dq ?_ | refine dr ?_)<;>simp(disch:=omega)only[go_sem,simprocAttr,hnl,hx,hi]))
   exact bad _ bn
set_option maxHeartbeats 1000000 in
theorem WU (s:Bs) (o most a hv N:Nat) (out:Bs) (l fl:List Nat) (nl nd p nb least what:Nat) (D:(List Nat×List Nat)×SS) {E:Env} {R1 RX:KS} {R:HP→AV→List AV→Prop} (hN:E.N≤1000000) (hs:s.length≤1000000000) (ho:o≤s.length)
    (hR:cP (mW s o most out D) R) (hr:bz s a hv (8*o+p)) (hbits:nb≤7) (hleast:least≤11) (hNN:nl+nd=N) (hN1:N≤400) (hll:l.length≤N)
    (hbad:(dH N l (least+(bN (s.drop o) nb ⟨p,out,0⟩).1,what,(bN (s.drop o) nb ⟨p,out,0⟩).2)).err≠0→D.2.err=(dH N l (least+(bN (s.drop o) nb ⟨p,out,0⟩).1,what,(bN (s.drop o) nb ⟨p,out,0⟩).2)).err)
    (hR1:∀n a' hv' st',n=numAt (s.drop o) p nb→p+nb≤8*(s.drop o).length→l.length+(least+n)≤N→bz s a' hv' (8*o+(p+nb)) →
     Wk st' ⟨[(0,.ab 65032 0),(7,.int .i64 nl),(8,.int .i64 nd),(14,bh fl),(16,.sl 62110 0 (l++List.replicate (least+n) what).length),(2000000,.ab 65032 0)],aQ s o most a' hv' out++[(62110,.arr 1 (aU (l++List.replicate (least+n) what)))]⟩→R1.ap st') :
    vcW Tryz.prog E Cod.tG (D6 R1 RX R) ⟨[(0,.ab 65032 0),(7,.int .i64 nl),(8,.int .i64 nd),(14,bh fl),(16,.sl 62110 0 l.length),(19,.int .i64 nb),(20,.int .i64 least),(21,.int .i64 what),(2000000,.ab 65032 0)],aQ s o most a hv out++[(62110,.arr 1 (aU l))]⟩:=by
 have htl:(s.drop o).length=s.length-o:=List.length_drop
 have hnl:=dN l
 have hb:=qT s o p a hv nb hs hr (by omega)
 refine iy ?_
 refine bj [(RD,.var (aR s a hv o))] hb vV nofun ?_
 rintro h' v ar ⟨a1,hv1,hr1,rfl,rfl,rfl⟩
 by_cases hf:nb≤8*(s.drop o).length-p
 ·rw[if_pos hf]at hr1
  rw[if_pos hf,decide_eq_true hf]
  have hpl:p+nb≤8*(s.drop o).length:=by have:=hr.h2;have:=hr.h3;omega
  rw[jB rfl hpl]at hbad
  simp only at hbad
  have hlt:=fY (s.drop o) p nb
  have hp7:2^nb≤2^7:=Nat.pow_le_pow_right (by decide) hbits
  have hR1:=fun st'=>hR1 _ a1 hv1 st' rfl hpl
  generalize numAt (s.drop o) p nb=n at *
  refine⟨bX,rfl,?_⟩
  by_cases hov:N<l.length+(least+n)
  ·have ho2:((nl:Int)+(nd:Int))<(l.length:Int)+(least:Int)+(n:Int):=by omega
   have hbad:=hbad (by unfold dH;rw[if_pos hov,kR rfl];simp)
   unfold dH at hbad
   rw[if_pos hov,kR rfl]at hbad
   refine bc hnl ho2 ?_
   exact jI hR 3 hbad (by decide) a1 hv1 bn
  ·have ho2:¬((nl:Int)+(nd:Int))<(l.length:Int)+(least:Int)+(n:Int):=by omega
   have eln:(least:Int)+(n:Int)=((least+n:Nat):Int):=by omega
   clear hbad
   refine bc hnl ho2 ?_
   generalize hk:least+n=k at *
   rw[eln]
   refine ba hN (fun j:Nat=>⟨[(0,.ab 65032 0),(7,.int .i64 nl),(8,.int .i64 nd),(14,bh fl),(16,.sl 62110 0 (l.length+j:Nat)),(21,.int .i64 what),(150,.int .i64 k),(151,.int .i64 j),(2000000,.ab 65032 0)],aQ s o most a1 hv1 out++[(62110,.arr 1 (aU (l++List.replicate j what)))]⟩) (fun j=>j≤k) (fun j=>k-j) 0
    (.le (by simp(disch:=omega)only[go_sem,simprocAttr,aQ,aR,bh];simp)) (by omega) ?_
   rintro j R2 hj hR2
   have hnl:=dN (l++List.replicate j what)
   have hlr:(l++List.replicate j what).length=l.length+j:=by simp
   have hnr:=ab3 l j what
   have hsb:aI (aU (l++List.replicate j what)) 0 (l.length+j)=aU (l++List.replicate j what):=by rw[←hlr];exact kb
   by_cases hjk:j<k
   ·refine vA hsb @jz ?_
    exact hR2 (j+1) _ (by omega) (by omega) (.le (rD hnr))
   ·obtain rfl:j=k:=by omega
    refine iy ?_
    exact hR1 _ (by omega) hr1 (.le (rD hlr))
 ·rw[if_neg hf]at hr1
  rw[if_neg hf,decide_eq_false hf]
  rw[ln rfl (by simp only;omega)]at hbad
  have hover:∀k,(dH N l (k,what,{p:=p,out:=out,err:=6})).err=6:=by
   intro k
   unfold dH
   split
   ·rfl
   ·rfl
  simp only at hbad
  rw[hover]at hbad
  refine⟨bX,rfl,?_⟩
  refine wW ?_
  exact jI hR 6 (hbad (by decide)) (by decide) a1 hv1 bn
set_option maxHeartbeats 2000000 in
theorem WT (s:Bs) (o most a hv:Nat) (out:Bs) (fl:List Nat) (nl nd p:Nat) (D:(List Nat×List Nat)×SS) {E:Env} {R:HP→AV→List AV→Prop} (hN:E.N≤1000000) (hs:s.length≤1000000000) (ho:o≤s.length)
    (hR:cP (mW s o most out D) R) (hr:bz s a hv (8*o+p)) (hfl:∀n∈fl,n≤15) (hfn:fl.length=19) (hfc:bL fl=true) (h1:257≤nl) (h2:nl≤286) (h3:1≤nd) (h4:nd≤30)
    (hD:D=nJ (s.drop o) nl nd (ig (s.drop o) fl (nl+nd) (nl+nd) [] ⟨p,out,0⟩)) :
    vcW Tryz.prog E Cod.zX (QT R) ⟨[(0,.ab 65032 0),(7,.int .i64 nl),(8,.int .i64 nd),(14,bh fl),(16,.aq),(2000000,.ab 65032 0)],aQ s o most a hv out⟩:=by
 generalize hG:ig (s.drop o) fl (nl+nd) (nl+nd) [] ⟨p,out,0⟩=G at hD
 have hN1:nl+nd≤400:=by omega
 generalize hNN:nl+nd=N at *
 have hbadG:G.2.err≠0→D.2.err=G.2.err:=by
  intro h
  rw[hD]
  unfold nJ
  rw[if_pos h]
 refine gK (y:=Cod.tF) hN (fun z:Nat×Nat=>⟨[(0,.ab 65032 0),(7,.int .i64 nl),(16,.ro 1 (aU G.1)),(2000000,.ab 65032 0)],aQ s o most z.1 z.2 out⟩)
  (fun z=>bz s z.1 z.2 (8*o+G.2.p)∧G.2=⟨G.2.p,out,0⟩∧(∀n∈G.1,n≤15)∧G.1.length=N) (fun RX hRX=>?_) (fun z hz=>?_)
 ·refine wW ?_
  refine ba hN (fun q:List Nat×Nat×Nat×Nat=>⟨[(0,.ab 65032 0),(7,.int .i64 nl),(8,.int .i64 nd),(14,bh fl),(16,.sl 62110 0 q.1.length),(2000000,.ab 65032 0)],aQ s o most q.2.1 q.2.2.1 out++[(62110,.arr 1 (aU q.1))]⟩)
   (fun q=>(∀n∈q.1,n≤15)∧q.1.length≤N∧bz s q.2.1 q.2.2.1 (8*o+q.2.2.2)∧∃k,N-q.1.length≤k∧ig (s.drop o) fl N k q.1 ⟨q.2.2.2,out,0⟩=G) (fun q=>N-q.1.length) ([],a,hv,p)
   (.nil 16 62110 1 rfl (.le (rD @nR))) ⟨by simp,by simp,hr,N,by simp,hG⟩ ?_
  clear hr hG
  rintro⟨l,a,hv,p⟩ R1 ⟨hl,hll,hr,k,hk,hg⟩ hR1
  simp only at hl hll hr hk hg
  have hnl:=dN l
  have htl:(s.drop o).length=s.length-o:=List.length_drop
  by_cases hlt:l.length<N
  ·have hlt2:(l.length:Int)<(nl:Int)+(nd:Int):=by omega
   obtain⟨k,rfl⟩:∃k',k=k'+1:=⟨k-1,by omega⟩
   rw[tW,if_neg (by simp only;omega)]at hg
   have cV:=tt fl hfl (by omega) hfc s a hv o (8*o+p) (by omega) hr
   rw[←uH]at cV
   simp only[bh]at cV
   generalize hre:readL (bG fl) (cp (s.drop o) p)=re at *
   simp(disch:=omega)only[go_sem,simprocAttr,aQ,bh,hnl,hlt2]
   refine bj [(RD,.var (aR s a hv o))] cV vV nofun ?_
   rintro h' v ar ⟨a2,hv2,p2,sy,hr2,rfl,rfl,hk2,rfl⟩
   refine⟨bX,rfl,?_⟩
   by_cases hre2:re.2.2=0
   ·obtain⟨rfl,rfl⟩:=hk2 hre2
    have hsym:bR (s.drop o) fl ⟨p,out,0⟩=(re.1,⟨p+re.2.1,out,0⟩):=by
     have:=rz (t:=s.drop o) (l:=fl) (S:=⟨p,out,0⟩) rfl (by simp only;rw[hre];exact hre2)
     simp only[hre]at this
     exact this
    rw[hsym]at hg
    simp only at hg
    have hslt:re.1<19:=by
     have:=oa (bG fl) (cp (s.drop o) p) (by rw[hre];exact hre2)
     rw[hre]at this
     have hcl:(bG fl).length=fl.length:=by simp[bG]
     omega
    rw[show 8*o+p+re.2.1=8*o+(p+re.2.1)by omega]at hr2
    generalize p+re.2.1=p2 at *
    generalize re.1=sy at *
    by_cases h16:sy<16
    ·have ht:dI (s.drop o) l sy ⟨p2,out,0⟩=(1,sy,⟨p2,out,0⟩):=by unfold dI;rw[if_neg (by omega),if_neg (by omega),if_neg (by omega)]
     have hov:dH N l (1,sy,⟨p2,out,0⟩)=⟨p2,out,0⟩:=by unfold dH;rw[if_neg (by simp only;omega)]
     rw[ht,hov,if_neg (by simp)]at hg
     simp only at hg
     have hsb:aI (aU l) 0 l.length=aU l:=kb
     refine eo hre2 hnl hsb @jz ?_
     refine hR1 (l++[sy],a2,hv2,p2) _ (by simp only[List.length_append,List.length_singleton];omega) ⟨?_,?_,hr2,k,?_,hg⟩ (.le (by rw[lj];simp(disch:=omega)only[go_sem,simprocAttr,aQ,aR,bh,List.length_append,List.length_singleton]))
     ·intro n hn
      rcases List.mem_append.1 hn with hn | hn
      ·exact hl n hn
      ·rw[List.mem_singleton.1 hn];omega
     ·simp only[List.length_append,List.length_singleton];omega
     ·simp only[List.length_append,List.length_singleton];omega
    ·refine az hre2 ?_
     refine gK (y:=Cod.tG) hN (fun z:Nat×Nat×Nat=>⟨[(0,.ab 65032 0),(7,.int .i64 nl),(8,.int .i64 nd),(14,bh fl),(16,.sl 62110 0 l.length),(19,.int .i64 z.1),(20,.int .i64 z.2.1),(21,.int .i64 z.2.2),(2000000,.ab 65032 0)],aQ s o most a2 hv2 out++[(62110,.arr 1 (aU l))]⟩)
      (fun z=>z.1≤7∧1≤z.2.1∧z.2.1≤11∧z.2.2≤15∧dI (s.drop o) l sy ⟨p2,out,0⟩=(z.2.1+(bN (s.drop o) z.1 ⟨p2,out,0⟩).1,z.2.2,(bN (s.drop o) z.1 ⟨p2,out,0⟩).2)) (fun R2 hR2=>?_) (fun z hz=>?_)
     ·by_cases e16:sy=16
      ·subst e16
       by_cases hle:l=[]
       ·subst hle
        have ht:dI (s.drop o) [] 16 ⟨p2,out,0⟩=(0,0,⟨p2,out,3⟩):=by unfold dI;rw[if_pos rfl,if_pos rfl,kR rfl]
        have hov:dH N [] (0,0,⟨p2,out,3⟩)=⟨p2,out,3⟩:=if_neg (by simp)
        rw[ht,hov,if_pos (by simp)]at hg
        refine az @nR ?_
        exact jI hR 3 (by rw[hbadG (by rw[←hg];simp),←hg]) (by decide) a2 hv2 bn
       ·have hl0:0<l.length:=by cases l with | nil=>exact absurd rfl hle | cons=>simp
        have el:(l.length:Int)-1=((l.length-1:Nat):Int):=by omega
        have hz:¬((l.length:Int)=0):=by omega
        have hx:nth (aU l) (l.length-1)=.int .i64 (l.getD (l.length-1) 0:Nat):=kc (by omega)
        have hx15:l.getD (l.length-1) 0≤15:=tV hl _
        have ht:dI (s.drop o) l 16 ⟨p2,out,0⟩=(3+(bN (s.drop o) 2 ⟨p2,out,0⟩).1,l.getD (l.length-1) 0,(bN (s.drop o) 2 ⟨p2,out,0⟩).2):=by unfold dI;rw[if_pos rfl,if_neg hle]
        generalize l.getD (l.length-1) 0=x at *
        refine eo hnl hz el hx ?_
        exact hR2 (2,3,x) _ ⟨by simp,by simp,by simp,hx15,ht⟩ (.le oH)
      ·by_cases e17:sy=17
       ·subst e17
        refine wW ?_
        exact hR2 (3,3,0) _ ⟨by decide,by decide,by decide,by decide,rfl⟩ (.le oH)
       ·obtain rfl:sy=18:=by omega
        refine wW ?_
        exact hR2 (7,11,0) _ ⟨by decide,by decide,by decide,by decide,rfl⟩ (.le oH)
     ·obtain⟨nb,least,what⟩:=z
      simp only at hz ⊢
      obtain⟨g1,g0,g2,g3,g4⟩:=hz
      rw[g4]at hg
      refine WU s o most a2 hv2 N out l fl nl nd p2 nb least what D hN hs ho hR hr2 g1 g2 hNN hN1 hll (fun h=>?_) (fun n a' hv' st' hn hpl hlo hr3 hw=>?_)
      ·rw[if_pos h]at hg
       rw[hbadG (by rw[←hg];exact h),←hg]
      ·rw[jB rfl hpl]at hg
       simp only at hg
       rw[←hn]at hg
       have hov:dH N l (least+n,what,⟨p2+nb,out,0⟩)=⟨p2+nb,out,0⟩:=by unfold dH;rw[if_neg (by simp only;omega)]
       rw[hov,if_neg (by simp)]at hg
       refine hR1 (l++List.replicate (least+n) what,a',hv',p2+nb) _ (by simp only[List.length_append,List.length_replicate];omega) ⟨?_,?_,hr3,k,?_,hg⟩ hw
       ·intro n hn
        rcases List.mem_append.1 hn with hn | hn
        ·exact hl n hn
        ·rw[(List.mem_replicate.1 hn).2];exact g3
       ·simp only[List.length_append,List.length_replicate];omega
       ·simp only[List.length_append,List.length_replicate];omega
   ·have hsym:bR (s.drop o) fl ⟨p,out,0⟩=(0,⟨p,out,re.2.2⟩):=by
     have:=ry (t:=s.drop o) (l:=fl) (S:=⟨p,out,0⟩) rfl (by simp only;rw[hre];exact hre2)
     simp only[hre]at this
     exact this
    rw[hsym]at hg
    simp only at hg
    have ht:dI (s.drop o) l 0 ⟨p,out,re.2.2⟩=(1,0,⟨p,out,re.2.2⟩):=by unfold dI;rw[if_neg (by omega),if_neg (by omega),if_neg (by omega)]
    have hov:dH N l (1,0,⟨p,out,re.2.2⟩)=⟨p,out,re.2.2⟩:=by unfold dH;rw[if_neg (by simp only;omega)]
    rw[ht,hov,if_pos (by simpa using hre2)]at hg
    have hi:¬((re.2.2:Nat):Int)=0:=by omega
    refine az hi ?_
    exact jI hR re.2.2 (by rw[hbadG (by rw[←hg];exact hre2),←hg]) hre2 a2 hv2 bn
  ·have hlt2:¬(l.length:Int)<(nl:Int)+(nd:Int):=by omega
   have hGe:(l,(⟨p,out,0⟩:SS))=G:=by
    rw[←hg]
    cases k with
    | zero=>rfl
    | succ k=>rw[tW,if_pos (.inl (by omega))]
   subst hGe
   have hsb:aI (aU l) 0 l.length=aU l:=kb
   refine vA hnl hlt2 ?_
   exact hRX (a,hv) _ ⟨hr,rfl,hl,by simp only;omega⟩ (.bH 62110 (.le (rD hsb)))
 ·obtain⟨a',hv'⟩:=z
  obtain⟨g1,g2,g3,g4⟩:=hz
  refine WV s o most a' hv' out G.1 nl G.2.p D hN hR g3 h1 h2 (by omega) (by omega) g1 ?_
  rw[hD]
  unfold nJ
  rw[if_neg (by rw[g2];simp)]
  obtain⟨G1,G2⟩:=G
  simp only at g2
  rw[g2]
set_option maxHeartbeats 2000000 in
theorem WW (s:Bs) (o most a hv:Nat) (out:Bs) (nl nd nc p:Nat) (D:(List Nat×List Nat)×SS) {E:Env} {R:HP→AV→List AV→Prop} (hN:E.N≤1000000) (hs:s.length≤1000000000) (ho:o≤s.length)
    (hR:cP (mW s o most out D) R) (hr:bz s a hv (8*o+p)) (h1:257≤nl) (h2:nl≤286) (h3:1≤nd) (h4:nd≤30) (hc:nc≤19)
    (hD:D=mc (s.drop o) nl nd (firstS (s.drop o) nc nc (List.replicate 19 0) ⟨p,out,0⟩)) :
    vcW Tryz.prog E Cod.zY (QT R) ⟨[(0,.ab 65032 0),(7,.int .i64 nl),(8,.int .i64 nd),(9,.int .i64 nc),(10,.sl 62057 0 19),(2000000,.ab 65032 0)],[(62057,.arr 1 (aU (List.replicate 19 0))),(40014,.var (aR s a hv o)),(65032,.var [.ab 40014 0,.sl 60022 0 out.length,.int .i64 most]),(60022,.arr 1 (out.map ub))]⟩:=by
 generalize hG:firstS (s.drop o) nc nc (List.replicate 19 0) ⟨p,out,0⟩=G at hD
 have htl:(s.drop o).length=s.length-o:=List.length_drop
 have hbadG:G.2.err≠0→D.2.err=G.2.err:=by
  intro h
  rw[hD]
  unfold mc
  rw[if_pos h]
 refine gK (y:=Cod.zZ) hN (fun z:Nat×Nat=>⟨[(0,.ab 65032 0),(7,.int .i64 nl),(8,.int .i64 nd),(10,.ro 1 (aU G.1)),(2000000,.ab 65032 0)],aQ s o most z.1 z.2 out⟩)
  (fun z=>bz s z.1 z.2 (8*o+G.2.p)∧G.2=⟨G.2.p,out,0⟩∧(∀n∈G.1,n≤15)∧G.1.length=19) (fun RX hRX=>?_) (fun z hz=>?_)
 ·refine iy ?_
  refine ba hN (fun q:Nat×List Nat×Nat×Nat×Nat=>⟨[(0,.ab 65032 0),(7,.int .i64 nl),(8,.int .i64 nd),(10,.sl 62057 0 19),(58,.int .i64 nc),(59,.int .i64 q.1),(2000000,.ab 65032 0)],aQ s o most q.2.2.1 q.2.2.2.1 out++[(62057,.arr 1 (aU q.2.1))]⟩)
   (fun q=>q.1≤nc∧(∀n∈q.2.1,n≤15)∧q.2.1.length=19∧bz s q.2.2.1 q.2.2.2.1 (8*o+q.2.2.2.2)∧firstS (s.drop o) nc (nc-q.1) q.2.1 ⟨q.2.2.2.2,out,0⟩=G) (fun q=>nc-q.1) (0,List.replicate 19 0,a,hv,p)
   (.le vVJ) ⟨by simp,by simp,by simp,hr,hG⟩ ?_
  clear hr hG
  rintro⟨j,l,a,hv,p⟩ R1 ⟨hj,hl,hll,hr,hg⟩ hR1
  simp only at hj hl hll hr hg
  have hnl:=dN l
  by_cases hlt:j<nc
  ·obtain⟨m,hm⟩:∃m,nc-j=m+1:=⟨nc-j-1,by omega⟩
   rw[hm,s5,if_neg (by simp),show nc-(m+1)=j by omega]at hg
   have hpl:=ahi j (by omega)
   have hx:nth (aU gh) j=.int .i64 (gh.getD j 0:Nat):=kc (by have:gh.length=19:=rfl;omega)
   have hpn:(aU gh).length=19:=rfl
   have hx2:(aU gh).getD j .undef=.int .i64 (gh.getD j 0:Nat):=by
    have hl:j<gh.length:=by have:gh.length=19:=rfl;omega
    simp[aU,List.getD_eq_getElem?_getD,hl]
   have hord:=UP
   unfold Bf at hord
   generalize gh.getD j 0=pj at *
   have hb:=qT s o p a hv 3 hs hr (by omega)
   have hxl:nth (aU l) pj=.int .i64 (l.getD pj 0:Nat):=kc (by omega)
   refine iy ?_
   refine bj [(RD,.var (aR s a hv o))] hb vV nofun ?_
   rintro h' v ar ⟨a1,hv1,hr1,rfl,rfl,rfl⟩
   by_cases hf:3≤8*(s.drop o).length-p
   ·rw[if_pos hf]at hr1
    rw[if_pos hf,decide_eq_true hf]
    rw[jB rfl (by simp only;omega)]at hg
    simp only at hg
    have hlt3:=fY (s.drop o) p 3
    generalize numAt (s.drop o) p 3=x at *
    refine⟨bX,rfl,?_⟩
    refine wW ?_
    refine aC hord rfl rfl ?_
    refine oK hx2 hpn hnl hll hxl @ab4 ?_
    refine hR1 (j+1,l.set pj x,a1,hv1,p+3) _ (by simp only;omega) ⟨hlt,?_,by simp[hll],hr1,by simp only;rw[show nc-(j+1)=m by omega];exact hg⟩ (.le bn)
    intro n hn
    rcases List.mem_or_eq_of_mem_set hn with hn | hn
    ·exact hl n hn
    ·omega
   ·rw[if_neg hf]at hr1
    rw[if_neg hf,decide_eq_false hf]
    rw[ln rfl (by simp only;omega)]at hg
    simp only at hg
    rw[OD _ _ _ _ _ (by simp)]at hg
    refine⟨bX,rfl,?_⟩
    refine wW ?_
    exact jI hR 6 (by rw[hbadG (by rw[←hg];simp),←hg]) (by decide) a1 hv1 bn
  ·obtain rfl:j=nc:=by omega
   rw[Nat.sub_self]at hg
   have hGe:(l,(⟨p,out,0⟩:SS))=G:=hg
   subst hGe
   have hsub:aI (aU l) 0 19=aU l:=by rw[←hll];exact kb
   refine iy ?_
   exact hRX (a,hv) _ ⟨hr,rfl,hl,hll⟩ (.bH 62057 (.le (DD hsub)))
 ·obtain⟨a',hv'⟩:=z
  obtain⟨g1,g2,g3,g4⟩:=hz
  simp only at g1 g2 g3 g4 ⊢
  have n1:=qj G.1 g3 (by omega)
  unfold mc at hD
  rw[if_neg (by rw[g2];simp)]at hD
  cases hck:bL G.1 with
  | false=>
   rw[hck,if_neg (by decide)]at n1
   rw[if_pos hck]at hD
   refine iy ?_
   refine gS n1 rfl ?_
   rintro h' v as' ⟨rfl,rfl⟩
   refine⟨rfl,rfl,?_⟩
   refine wW ?_
   exact jI hR 3 (by rw[hD]) (by decide) a' hv' bn
  | true=>
   rw[hck,if_pos rfl]at n1
   rw[if_neg (by rw[hck];decide),g2]at hD
   have hb:=WT s o most a' hv' out G.1 nl nd G.2.p D (E:=E) (R:=R) hN hs ho hR g1 g3 g4 hck h1 h2 h3 h4 hD
   refine iy ?_
   refine gS n1 rfl ?_
   rintro h' v as' ⟨rfl,rfl⟩
   refine⟨rfl,rfl,?_⟩
   simp only[aQ,bh]at hb
   simp(disch:=omega)only[go_sem,simprocAttr,bh]
   exact hb
theorem oY {n:Nat} (h:n<65536):bits .and .u32 (n:Int) 31=((n%32:Nat):Int):=by
 show IntKind.u32.wrap ((BitVec.ofInt 32 (n:Int) &&& BitVec.ofInt 32 ((31:Nat):Int)).toNat:Int)=_
 rw[BitVec.ofInt_natCast,BitVec.ofInt_natCast,BitVec.toNat_and,BitVec.toNat_ofNat,BitVec.toNat_ofNat,Nat.mod_eq_of_lt (by omega),Nat.mod_eq_of_lt (by decide),show(31:Nat)=2^5-1 from rfl,Nat.and_two_pow_sub_one_eq_mod]
 exact wrap_u32 (by omega)
theorem fdiv_pow (x k:Nat) (h:k≤32):(x:Int).fdiv (2^min k 32)=((x/2^k:Nat):Int):=by
 rw[Nat.min_eq_left h,Int.fdiv_eq_ediv_of_nonneg _ (by exact_mod_cast Nat.zero_le (2^k))]
 norm_cast
set_option maxHeartbeats 1000000 in
theorem X6 (s:Bs) (o most a hv:Nat) (S:SS) (hs:s.length≤1000000000) (ho:o≤s.length) (hm:most≤1000000) (hr:bz s a hv (8*o+S.p)) (hol:S.out.length≤most) (he:S.err=0) :
    Eng.Spec Tryz.prog 233 (aQ s o most a hv S.out) [.ab eY 0] (fun h' v ar=>PT s o most S.out (eO (s.drop o) S) h' v∧ar=[.ab eY 0]):=by
 refine Cod.X7 (fun E R hN hR=>?_)
 have htl:(s.drop o).length=s.length-o:=List.length_drop
 have hb:=qT s o S.p a hv 14 hs hr (by omega)
 rw[ya]at hR
 obtain⟨p,out,err⟩:=S
 simp only at he hr hol hb hR ⊢
 subst he
 refine iy ?_
 refine bj [(RD,.var (aR s a hv o))] hb vV nofun ?_
 rintro h' v ar ⟨a1,hv1,hr1,rfl,rfl,rfl⟩
 by_cases h14:14≤8*(s.drop o).length-p
 ·rw[if_pos h14]at hr1
  rw[if_pos h14,decide_eq_true h14]
  rw[if_neg (by omega)]at hR
  refine⟨bX,rfl,?_⟩
  have hlt:=fY (s.drop o) p 14
  have m5:=qH (s.drop o) p (m:=5) (n:=14) (by decide)
  have d5:=nU (s.drop o) p (m:=5) (n:=14) (by decide)
  have d10:=nU (s.drop o) p (m:=10) (n:=14) (by decide)
  have m55:=qH (s.drop o) (p+5) (m:=5) (n:=9) (by decide)
  generalize numAt (s.drop o) p 14=x at *
  have f5:=fdiv_pow x 5 (by decide)
  have f10:=fdiv_pow x 10 (by decide)
  have c1:=oY (n:=x) (by omega)
  have c2:=oY (n:=x/2^5) (by omega)
  have w1:x%32=numAt (s.drop o) p 5:=m5
  have w2:x/2^5%32=numAt (s.drop o) (p+5) 5:=by rw[d5];exact m55
  have w3:x/2^10=numAt (s.drop o) (p+10) 4:=d10
  rw[←w1,←w2,←w3]at hR
  have b1:x%32<32:=Nat.mod_lt _ (by decide)
  have b2:x/2^5%32<32:=Nat.mod_lt _ (by decide)
  have b3:x/2^10<16:=by omega
  generalize x%32=y1 at *
  generalize x/2^5%32=y2 at *
  generalize x/2^10=y3 at *
  have bad:(286<y1+257∨30<y2+1)→R [(40014,aG.var (aR s a1 hv1 o)),(65032,aG.var [AV.ab 40014 0,AV.sl 60022 0 (List.length out),AV.int IntKind.i64 ↑most]),(60022,aG.arr 1 (List.map ub out))] (.ai [.lit (.pointer none),.lit (.pointer none),.int .i64 3]) [.ab 65032 0]:=by
   intro hx
   rw[if_pos hx]at hR
   exact jI hR 3 rfl (by decide) a1 hv1 bn
  by_cases hx1:286<y1+257
  ·have bad:=bad (.inl hx1)
   refine eo f5 f10 c1 c2 ?_
   refine gG ?_
   exact bad
  ·by_cases hx2:30<y2+1
   ·have bad:=bad (.inr hx2)
    refine eo f5 f10 c1 c2 ?_
    refine gG ?_
    exact bad
   ·rw[if_neg (by omega)]at hR
    clear bad
    have hf:=WW s o most a1 hv1 out (y1+257) (y2+1) (y3+4) (p+14) _ (E:=E) (R:=R) hN hs ho hR hr1 (by omega) (by omega) (by omega) (by omega) (by omega) rfl
    clear hR
    refine eo f5 f10 c1 c2 ?_
    refine gG ?_
    simp only[aR]at hf
    refine iA ?_
    exact hf
 ·rw[if_neg h14]at hr1
  rw[if_neg h14,decide_eq_false h14]
  rw[if_pos (by omega)]at hR
  refine⟨bX,rfl,?_⟩
  refine wW ?_
  exact jI hR 6 rfl (by decide) a1 hv1 bn
theorem and1 {n:Nat} (h:n<65536):bits .and .u32 (n:Int) 1=((n%2:Nat):Int):=by
 show IntKind.u32.wrap ((BitVec.ofInt 32 (n:Int) &&& BitVec.ofInt 32 ((1:Nat):Int)).toNat:Int)=_
 rw[BitVec.ofInt_natCast,BitVec.ofInt_natCast,BitVec.toNat_and,BitVec.toNat_ofNat,BitVec.toNat_ofNat,Nat.mod_eq_of_lt (by omega),Nat.mod_eq_of_lt (by decide),show(1:Nat)=2^1-1 from rfl,Nat.and_two_pow_sub_one_eq_mod]
 exact wrap_u32 (by omega)
abbrev QR (R:HP→AV→List AV→Prop):KQ:=KQ.post [.tmp 2] 1 R
abbrev rM (s:Bs) (o most:Nat) (G:SS):HP→AV→List AV→Prop:=fun h' v ar=>PI s o most G h' v∧ar=[.ab eY 0]
theorem mG {s:Bs} {o most:Nat} {G:SS} {R:HP→AV→List AV→Prop} (hR:cP (rM s o most G) R) (e:Nat) (he:G.err=e) (hne:e≠0) (a' hv':Nat) (out:Bs) {h:HP} (hh:dh h (aQ s o most a' hv' out)) :
    R h (.int .i64 (e:Nat)) [.ab 65032 0]:=
 hR.le (h':=aQ s o most a' hv' out) hh ⟨⟨a',hv',out,rfl,by rw[he],fun h=>absurd h (by rw[he];exact hne)⟩,rfl⟩
def pN (t:Bs) (most h:Nat) (S G:SS):Prop:=if h%2=1 then S=G else gi t most S=G
def gU (t:Bs) (most h:Nat) (S G:SS):Prop:=if S.err≠0 then G.err=S.err else pN t most h S G
structure kE where
 h:Nat
 l:List Nat
 d:List Nat
 a:Nat
 hv:Nat
 S:SS
def gD (s:Bs) (o most:Nat) (l:Nat) (z:kE):St:=
 if l=0 then⟨[(0,.ab 65032 0),(2000000,.ab 65032 0)],aQ s o most z.a z.hv z.S.out⟩
 else if l=1 then⟨[(0,.ab 65032 0),(3,.int .u32 z.h),(2000000,.ab 65032 0)],aQ s o most z.a z.hv z.S.out⟩
 else⟨[(0,.ab 65032 0),(3,.int .u32 z.h),(7,bh z.l),(8,bh z.d),(2000000,.ab 65032 0)],aQ s o most z.a z.hv z.S.out⟩
structure RB (s:Bs) (o most:Nat) (z:kE):Prop where
 r:bz s z.a z.hv (8*o+z.S.p)
 e:z.S.err=0
 ol:z.S.out.length≤most
 hl:z.h<8
structure TB (l d:List Nat):Prop where
 ZH:∀n∈l,n≤15
 d15:∀n∈d,n≤15
 ll:l.length≤320
 dl:d.length≤320
 lc:bL l=true
 dc:bL d=true
def tC (s:Bs) (o most:Nat) (G:SS) (l:Nat) (z:kE):Prop:=
 RB s o most z∧(if l=0 then gi (s.drop o) most z.S=G else if l=1 then pN (s.drop o) most z.h z.S G else if l=2 then TB z.l z.d∧gU (s.drop o) most z.h (ga (s.drop o) most z.l z.d z.S) G else False)
def ib (s:Bs) (o l:Nat) (z:kE):Nat:=4*(8*(s.drop o).length+1-z.S.p)+min l 2
theorem RB.pl {s:Bs} {o most:Nat} {z:kE} (h:RB s o most z):z.S.p≤8*(s.drop o).length:=by
 have:=h.r.h2;have:=h.r.h3
 rw[List.length_drop];omega
set_option maxHeartbeats 2000000 in
theorem zO (s:Bs) (o most:Nat) (G:SS) (z:kE) {E:Env} {R:Nat→KS} {R0:HP→AV→List AV→Prop} (hN:E.N≤1000000) (hs:s.length≤1000000000) (ho:o≤s.length) (hm:most≤1000000) (hR:cP (rM s o most G) R0) (hz:RB s o most z) (hg:gi (s.drop o) most z.S=G)
    (hJ:∀l' z' st',ib s o l' z'<ib s o 0 z→tC s o most G l' z'→Wk st' (gD s o most l' z')→(R l').ap st') :
    vcW Tryz.prog E Cod.qm (KQ.jw R (QR R0)) ⟨[(0,.ab 65032 0),(2000000,.ab 65032 0)],aQ s o most z.a z.hv z.S.out⟩:=by
 have hpl:=hz.pl
 obtain⟨h,l,d,a,hv,S⟩:=z
 obtain⟨hr,he,hol,hh⟩:=hz
 simp only at hr he hol hh hg hpl ⊢
 rw[run_eq hpl]at hg
 have htl:(s.drop o).length=s.length-o:=List.length_drop
 have hb:=qT s o S.p a hv 3 hs hr (by omega)
 refine iy ?_
 refine bj [(RD,.var (aR s a hv o))] hb vV nofun ?_
 rintro h' v ar ⟨a1,hv1,hr1,rfl,rfl,rfl⟩
 by_cases h3:3≤8*(s.drop o).length-S.p
 ·rw[if_pos h3]at hr1
  rw[if_pos h3,decide_eq_true h3]
  have hbk:fw (s.drop o) most S=_:=if_neg (show ¬8*(s.drop o).length<S.p+3 by omega)
  rw[hbk]at hg
  clear hbk
  have m1:=qH (s.drop o) S.p (m:=1) (n:=3) (by decide)
  have d1:=nU (s.drop o) S.p (m:=1) (n:=3) (by decide)
  have hlt:=fY (s.drop o) S.p 3
  simp only at hg
  rw[←m1,show(2:Nat)=3-1 from rfl,←d1]at hg
  generalize numAt (s.drop o) S.p 3=x at *
  have f1:=fdiv_pow x 1 (by decide)
  refine⟨bX,rfl,?_⟩
  have hx1:x%2^1=x%2:=rfl
  have hx2:x/2^1=x/2:=rfl
  rw[hx1,hx2]at hg
  rw[hx2]at f1
  have hxl:x/2<4:=by omega
  -- the end of a block
  have hdone:∀S':SS,(if x/2=0 then fM (s.drop o) most {S with p:=S.p+3} else if x/2=1 then ga (s.drop o) most gy gw {S with p:=S.p+3}
      else if x/2=2 then(if(eO (s.drop o) {S with p:=S.p+3}).2.err≠0 then(eO (s.drop o) {S with p:=S.p+3}).2 else ga (s.drop o) most (eO (s.drop o) {S with p:=S.p+3}).1.1 (eO (s.drop o) {S with p:=S.p+3}).1.2 (eO (s.drop o) {S with p:=S.p+3}).2)else {S with p:=S.p+3,err:=3})=S' →
      gU (s.drop o) most x S' G:=by
   intro S' hS'
   rw[hS']at hg
   unfold gU
   by_cases hSe:S'.err=0
   ·rw[if_neg (by simpa using hSe)]
    unfold pN
    by_cases hx:x%2=1
    ·rw[if_pos (.inr (by simpa using hx))]at hg
     rw[if_pos hx];exact hg
    ·rw[if_neg (fun h=>h.elim (fun h=>h hSe) (fun h=>hx (by simpa using h)))]at hg
     rw[if_neg hx];exact hg
   ·rw[if_pos (.inl hSe)]at hg
    rw[if_pos hSe,hg]
  clear hg
  have hr1':bz s a1 hv1 (8*o+(S.p+3)):=hr1
  refine az f1 ?_
  obtain hk | hk | hk | hk:x/2=0∨x/2=1∨x/2=2∨x/2=3:=by omega
  ·rw[hk]
   have hst:=WR s o most a1 hv1 {S with p:=S.p+3} hs ho hm hr1' hol he
   have hc:=hdone _ (if_pos hk)
   have hmv:Mv (s.drop o) most {S with p:=S.p+3} (fM (s.drop o) most {S with p:=S.p+3}):=AP
   generalize fM (s.drop o) most {S with p:=S.p+3}=F at *
   refine wW ?_
   refine bj (aQ s o most a1 hv1 S.out) hst bn nofun ?_
   rintro h' v ar ⟨⟨a2,hv2,out2,rfl,rfl,hF⟩,rfl⟩
   refine⟨bn,rfl,?_⟩
   unfold gU at hc
   by_cases hFe:F.err=0
   ·obtain⟨rfl,hr2⟩:=hF hFe
    rw[if_neg (by simpa using hFe)]at hc
    refine az hFe ?_
    have h1:=hmv.p
    simp only at h1
    exact hJ 1 ⟨x,[],[],a2,hv2,F⟩ _ (by simp only[ib];omega) ⟨⟨hr2,hFe,hmv.o hol,by simp only;omega⟩,by rw[if_neg (by decide),if_pos rfl];exact hc⟩ (.le (by simp(disch:=omega)only[go_sem,simprocAttr,gD,aQ,aR]))
   ·rw[if_pos hFe]at hc
    have hi:¬((F.err:Nat):Int)=0:=by omega
    refine az hi ?_
    exact mG hR F.err hc hFe a2 hv2 out2 bn
  ·rw[hk]
   have hc:=hdone _ ((if_neg (by omega)).trans (if_pos hk))
   refine wW ?_
   refine aC T4 rfl rfl ?_
   simp(disch:=omega)only[go_sem,simprocAttr,bh]
   refine hJ 2 ⟨x,gy,gw,a1,hv1,{S with p:=S.p+3}⟩ _ (by simp only[ib];omega) ⟨⟨hr1',he,hol,by simp only;omega⟩,?_⟩ (.le ?_)
   ·rw[if_neg (by decide),if_neg (by decide),if_pos rfl]
    exact⟨⟨kT.1,kS.1,by simp only;rw[kT.2.1];decide,by simp only;rw[kS.2.1];decide,kT.2.2,kS.2.2⟩,hc⟩
   ·simp(disch:=omega)only[go_sem,simprocAttr,gD,aQ,aR,bh]
  ·rw[hk]
   have hit:=X6 s o most a1 hv1 {S with p:=S.p+3} hs ho hm hr1' hol he
   have hc:=hdone _ ((if_neg (by omega)).trans ((if_neg (by omega)).trans (if_pos hk)))
   have hmv:Mv (s.drop o) most {S with p:=S.p+3} (eO (s.drop o) {S with p:=S.p+3}).2:=ue
   have hdo:=Nk (s.drop o) {S with p:=S.p+3}
   generalize eO (s.drop o) {S with p:=S.p+3}=D at *
   refine wW ?_
   refine bj (aQ s o most a1 hv1 S.out) hit bn nofun ?_
   rintro h' v ar ⟨⟨a2,hv2,rfl,hbad,hgood⟩,rfl⟩
   by_cases hDe:D.2.err=0
   ·obtain⟨rfl,hr2,hc1,hc2,hl1,hl2,hn1,hn2⟩:=hgood hDe
    rw[if_neg (by simpa using hDe)]at hc
    refine⟨bn,rfl,?_⟩
    refine vt ?_
    have h1:=hmv.p
    simp only at h1 hdo
    refine hJ 2 ⟨x,D.1.1,D.1.2,a2,hv2,D.2⟩ _ (by simp only[ib];omega) ⟨⟨hr2,hDe,by simp only;rw[hdo];exact hol,by simp only;omega⟩,?_⟩ (.le ?_)
    ·rw[if_neg (by decide),if_neg (by decide),if_pos rfl]
     exact⟨⟨hl1,hl2,by simp only;omega,hn2,hc1,hc2⟩,hc⟩
    ·simp(disch:=omega)only[go_sem,simprocAttr,gD,aQ,aR,bh,hdo]
   ·obtain rfl:=hbad hDe
    rw[if_pos hDe]at hc
    unfold gU at hc
    rw[if_pos hDe]at hc
    refine⟨bn,rfl,?_⟩
    have hi:¬((D.2.err:Nat):Int)=0:=by omega
    simp(disch:=omega)only[go_sem,simprocAttr,hi,vc]
    exact mG hR D.2.err hc hDe a2 hv2 S.out bn
  ·rw[hk]
   have hc:=hdone _ ((if_neg (by omega)).trans ((if_neg (by omega)).trans (if_neg (by omega))))
   unfold gU at hc
   rw[if_pos (by simp)]at hc
   refine wW ?_
   exact mG hR 3 hc (by decide) a1 hv1 S.out bn
 ·rw[if_neg h3]at hr1
  rw[if_neg h3,decide_eq_false h3]
  have hbk:fw (s.drop o) most S=(true,{S with err:=6}):=if_pos (show 8*(s.drop o).length<S.p+3 by omega)
  rw[hbk,if_pos (.inl (by simp))]at hg
  refine⟨bX,rfl,?_⟩
  refine wW ?_
  exact mG hR 6 (by rw[←hg]) (by decide) a1 hv1 S.out bn
set_option maxHeartbeats 2000000 in
theorem Wq (s:Bs) (o most:Nat) (G:SS) (z:kE) {E:Env} {R:Nat→KS} {R0:HP→AV→List AV→Prop} (hN:E.N≤1000000) (hs:s.length≤1000000000) (ho:o≤s.length) (hm:most≤1000000) (hR:cP (rM s o most G) R0) (hz:RB s o most z) (ht:TB z.l z.d) (hg:gU (s.drop o) most z.h (ga (s.drop o) most z.l z.d z.S) G)
    (hJ:∀l' z' st',ib s o l' z'<ib s o 2 z→tC s o most G l' z'→Wk st' (gD s o most l' z')→(R l').ap st') :
    vcW Tryz.prog E (.seq .skip Cod.tD) (KQ.jw R (QR R0)) ⟨[(0,.ab 65032 0),(3,.int .u32 z.h),(7,bh z.l),(8,bh z.d),(2000000,.ab 65032 0)],aQ s o most z.a z.hv z.S.out⟩:=by
 have hpl:=hz.pl
 obtain⟨h,l,d,a,hv,S⟩:=z
 obtain⟨hr,he,hol,hh⟩:=hz
 simp only at hr he hol hh hg hpl ht ⊢
 rw[af2 hpl,if_neg (by simpa using he)]at hg
 have htl:(s.drop o).length=s.length-o:=List.length_drop
 have cV:=tt l ht.ZH ht.ll ht.lc s a hv o (8*o+S.p) (by omega) hr
 rw[←uH]at cV
 simp only[bh]at cV
 generalize hre:readL (bG l) (cp (s.drop o) S.p)=re at *
 simp(disch:=omega)only[go_sem,simprocAttr,aQ,bh]
 refine bj [(RD,.var (aR s a hv o))] cV vV nofun ?_
 rintro h' v ar ⟨a2,hv2,p2,sy,hr2,rfl,rfl,hk2,rfl⟩
 refine⟨bX,rfl,?_⟩
 by_cases hre2:re.2.2=0
 ·obtain⟨rfl,rfl⟩:=hk2 hre2
  have hsym:bR (s.drop o) l S=(re.1,{S with p:=S.p+re.2.1}):=by
   have:=rz (t:=s.drop o) (l:=l) (S:=S) he (by rw[hre];exact hre2)
   simp only[hre]at this
   exact this
  have hrb:=oa (bG l) (cp (s.drop o) S.p) (by rw[hre];exact hre2)
  rw[hre,uI]at hrb
  have hcl:(bG l).length=l.length:=by simp[bG]
  have hll:=ht.ll
  rw[show 8*o+S.p+re.2.1=8*o+(S.p+re.2.1)by omega]at hr2
  have hst:fg (s.drop o) most l d S=(if re.1=256 then(true,{S with p:=S.p+re.2.1})else if re.1<256 then(false,fp most (UInt8.ofNat re.1) {S with p:=S.p+re.2.1})else(false,iu (s.drop o) most d re.1 {S with p:=S.p+re.2.1})):=by
   unfold fg
   rw[hsym]
   exact if_neg (by simpa using he)
  rw[hst]at hg
  have hp2:S.p<S.p+re.2.1∧S.p+re.2.1≤8*(s.drop o).length:=by omega
  generalize S.p+re.2.1=p2 at *
  have hsy:re.1≤320:=by omega
  generalize re.1=sy at *
  by_cases h256:sy=256
  ·rw[if_pos h256,if_pos rfl]at hg
   unfold gU at hg
   rw[if_neg (by simpa using he)]at hg
   refine bc hre2 h256 ?_
   refine hJ 1 ⟨h,[],[],a2,hv2,{S with p:=p2}⟩ _ (by simp only[ib];omega) ⟨⟨hr2,he,hol,hh⟩,?_⟩ (.le ?_)
   ·rw[if_neg (by decide),if_pos rfl];exact hg
   ·simp(disch:=omega)only[go_sem,simprocAttr,gD,aQ,aR]
  ·rw[if_neg h256]at hg
   have hi:¬((sy:Nat):Int)=256:=by omega
   refine bc hre2 hi ?_
   -- behind the symbol
   refine gK (y:=Cod.zM) hN (fun y:Nat×Nat×Bs×SS=>⟨[(0,.ab 65032 0),(3,.int .u32 h),(5,.int .i64 y.2.2.2.err),(7,bh l),(8,bh d),(2000000,.ab 65032 0)],aQ s o most y.1 y.2.1 y.2.2.1⟩)
    (fun y=>Mv (s.drop o) most {S with p:=p2} y.2.2.2∧gU (s.drop o) most h (ga (s.drop o) most l d y.2.2.2) G∧(y.2.2.2.err=0→y.2.2.1=y.2.2.2.out∧bz s y.1 y.2.1 (8*o+y.2.2.2.p))) (fun R2 hR2=>?_) (fun y hy=>?_)
   ·by_cases hlt:sy<256
    ·rw[if_pos hlt,if_neg (by simp)]at hg
     simp only at hg
     have hput:=zJ s o most a2 hv2 S.out hm hol (UInt8.ofNat sy)
     have hmv:Mv (s.drop o) most {S with p:=p2} (fp most (UInt8.ofNat sy) {S with p:=p2}):=nN
     have hF:fp most (UInt8.ofNat sy) {S with p:=p2}=⟨p2,if S.out.length=most then S.out else S.out++[UInt8.ofNat sy],if S.out.length=most then 2 else 0⟩:=by
      unfold fp
      rw[if_neg (by simpa using he)]
      simp only
      by_cases hf:S.out.length=most
      ·rw[if_pos (by omega),if_pos hf,if_pos hf]
      ·rw[if_neg (by omega),if_neg hf,if_neg hf,he]
     have hb:((UInt8.ofNat sy).toNat:Int)=(sy:Int):=by rw[UInt8.toNat_ofNat'];omega
     rw[hb]at hput
     generalize fp most (UInt8.ofNat sy) {S with p:=p2}=F at *
     have hF1:F.out=(if S.out.length=most then S.out else S.out++[UInt8.ofNat sy]):=by rw[hF]
     have hF2:F.err=(if S.out.length=most then 2 else 0):=by rw[hF]
     have hF3:F.p=p2:=by rw[hF]
     rw[←hF1,←hF2]at hput
     clear hF hF1
     have hlt2:((sy:Nat):Int)<256:=by omega
     refine az hlt2 ?_
     refine bj (aQ s o most a2 hv2 S.out) hput bn nofun ?_
     rintro h' v ar ⟨rfl,rfl,rfl⟩
     refine⟨bn,rfl,?_⟩
     refine vt ?_
     exact hR2 (a2,hv2,F.out,F) _ ⟨hmv,hg,fun _=>⟨rfl,by rw[hF3];exact hr2⟩⟩ (.le oH)
    ·rw[if_neg hlt,if_neg (by simp)]at hg
     simp only at hg
     have hrp:=VC s o most a2 hv2 {S with p:=p2} d sy hs ho hm hr2 hol he ht.d15 ht.dl ht.dc (by omega) (by omega)
     have hmv:Mv (s.drop o) most {S with p:=p2} (iu (s.drop o) most d sy {S with p:=p2}):=uf
     generalize iu (s.drop o) most d sy {S with p:=p2}=F at *
     have hlt2:¬((sy:Nat):Int)<256:=by omega
     simp only[bh]at hrp
     simp(disch:=omega)only[go_sem,simprocAttr,hlt2,bh]
     refine bj (aQ s o most a2 hv2 S.out) hrp bn nofun ?_
     rintro h' v ar ⟨⟨a3,hv3,out3,rfl,rfl,hF⟩,rfl⟩
     refine⟨bn,rfl,?_⟩
     refine vt ?_
     exact hR2 (a3,hv3,out3,F) _ ⟨hmv,hg,hF⟩ (.le oH)
   ·obtain⟨a3,hv3,out3,F⟩:=y
    obtain⟨g1,g2,g3⟩:=hy
    simp only at g1 g2 g3 ⊢
    by_cases hFe:F.err=0
    ·obtain⟨rfl,hr3⟩:=g3 hFe
     simp(disch:=omega)only[go_sem,simprocAttr,hFe,bh]
     have h1:=g1.p
     have h2:=g1.q hp2.2
     simp only at h1
     refine hJ 2 ⟨h,l,d,a3,hv3,F⟩ _ (by simp only[ib];omega) ⟨⟨hr3,hFe,g1.o hol,hh⟩,?_⟩ (.le ?_)
     ·rw[if_neg (by decide),if_neg (by decide),if_pos rfl]
      exact⟨ht,g2⟩
     ·simp(disch:=omega)only[go_sem,simprocAttr,gD,aQ,aR,bh]
    ·rw[show ga (s.drop o) most l d F=F from uu _ hFe]at g2
     unfold gU at g2
     rw[if_pos hFe]at g2
     have hi:¬((F.err:Nat):Int)=0:=by omega
     simp(disch:=omega)only[go_sem,simprocAttr,hi,bh]
     exact mG hR F.err g2 hFe a3 hv3 out3 bn
 ·have hsym:bR (s.drop o) l S=(0,{S with err:=re.2.2}):=by
   have:=ry (t:=s.drop o) (l:=l) (S:=S) he (by rw[hre];exact hre2)
   simp only[hre]at this
   exact this
  have hst:fg (s.drop o) most l d S=(true,{S with err:=re.2.2}):=by
   unfold fg
   rw[hsym]
   exact if_pos hre2
  rw[hst,if_pos rfl]at hg
  unfold gU at hg
  rw[if_pos hre2]at hg
  have hi:¬((re.2.2:Nat):Int)=0:=by omega
  refine az hi ?_
  exact mG hR re.2.2 hg hre2 a2 hv2 S.out bn
set_option maxHeartbeats 1000000 in
theorem Wp (s:Bs) (o most a hv:Nat) (S:SS) (hs:s.length≤1000000000) (ho:o≤s.length) (hm:most≤1000000) (hr:bz s a hv (8*o+S.p)) (hol:S.out.length≤most) (he:S.err=0) :
    Eng.Spec Tryz.prog 215 (aQ s o most a hv S.out) [.ab eY 0] (fun h' v ar=>PI s o most (gi (s.drop o) most S) h' v∧ar=[.ab eY 0]):=by
 refine Cod.Wr (fun E R hN hR=>?_)
 generalize hG:gi (s.drop o) most S=G at *
 refine iy ?_
 refine aqy hN (gD s o most) (tC s o most G) (ib s o) (fun R1 hR1=>?_) (fun l z hz=>?_)
 ·refine wW ?_
  refine gK (y:=Cod.qm) hN (fun _:Unit=>⟨[(0,.ab 65032 0),(2000000,.ab 65032 0)],aQ s o most a hv S.out⟩) (fun _=>True) (fun R2 hR2=>?_) (fun _ _=>?_)
  ·refine wW ?_
   exact hR2 () _ trivial (.le bn)
  ·exact zO s o most G ⟨0,[],[],a,hv,S⟩ hN hs ho hm hR ⟨hr,he,hol,by simp⟩ hG (fun l' z' st' _ h1 h2=>hR1 l' z' st' h1 h2)
 ·obtain⟨h1,h2⟩:=hz
  by_cases l0:l=0
  ·subst l0
   rw[if_pos rfl]at h2
   refine⟨.seq .skip (.bl Cod.qm),rfl,fun R1 hR1=>?_⟩
   simp(disch:=omega)only[go_sem,simprocAttr,gD]
   refine fR hN ?_
   exact zO s o most G z hN hs ho hm hR h1 h2 hR1
  ·rw[if_neg l0]at h2
   by_cases l1:l=1
   ·subst l1
    rw[if_pos rfl]at h2
    refine⟨.seq .skip Cod.zN,rfl,fun R1 hR1=>?_⟩
    have ha:=and1 (n:=z.h) (by have:=h1.hl;omega)
    unfold pN at h2
    by_cases hx:z.h%2=1
    ·rw[if_pos hx]at h2
     have hi:¬((z.h%2:Nat):Int)=0:=by omega
     simp(disch:=omega)only[go_sem,simprocAttr,gD,ha,hi,aQ]
     refine hR.le (h':=aQ s o most z.a z.hv z.S.out) bn ⟨⟨z.a,z.hv,z.S.out,rfl,?_,fun _=>by rw[←h2];exact⟨rfl,h1.r⟩⟩,rfl⟩
     rw[←h2,h1.e];rfl
    ·rw[if_neg hx]at h2
     have hi:((z.h%2:Nat):Int)=0:=by omega
     simp(disch:=omega)only[go_sem,simprocAttr,gD,ha,hi,aQ]
     refine hR1 0 z _ (by simp only[ib];omega) ⟨h1,by rw[if_pos rfl];exact h2⟩ (.le ?_)
     simp(disch:=omega)only[go_sem,simprocAttr,gD,aQ,aR]
   ·rw[if_neg l1]at h2
    by_cases l2:l=2
    ·subst l2
     rw[if_pos rfl]at h2
     exact⟨.seq .skip Cod.tD,rfl,fun R1 hR1=>Wq s o most G z hN hs ho hm hR h1 h2.1 h2.2 hR1⟩
    ·rw[if_neg l2]at h2
     exact h2.elim
theorem HM (s:Bs) (a:Nat) (hs:s.length≤1000000000000) (ha:a≤s.length):Eng.Spec Tryz.prog 214 [] [.str s,.int .i64 a] (fun h r ar=>h=[(RD,.var (aR s a 0 a))]∧r=.ab RD 0∧ar=[.undef,.undef]):=by
 refine Cod.HN (fun E R hN hR=>?_)
 have e:max (0:Int) (min (a:Int) (s.length:Int))=a:=by omega
 refine az e ?_
 exact hR.le (by simp(disch:=omega)only[go_sem,simprocAttr,aR,numAt]) ⟨rfl,rfl,rfl⟩
set_option maxHeartbeats 1000000 in
theorem UC (s:Bs) (o most:Nat) (hs:s.length≤1000000000) (ho:o≤s.length) (hm:most≤65536) :
    aN Tryz.prog 180 [.str s,.int .i64 o,.int .i64 most] (.ai [.str (fi (s.drop o) most).1,.int .i64 ((fi (s.drop o) most).2.1:Nat),.int .i64 ((fi (s.drop o) most).2.2:Nat)]):=by
 refine Cod.UD (fun E R hN hR=>?_)
 have htl:(s.drop o).length=s.length-o:=List.length_drop
 have qi:=HM s o (by omega) ho
 have hr0:bz s o 0 (8*o+0):=⟨by omega,ho,by omega⟩
 have hrun:=Wp s o most o 0 ⟨0,[],0⟩ hs ho (by omega) hr0 (by simp) rfl
 unfold fi at hR
 simp only at hR
 generalize hF:gi (s.drop o) most ⟨0,[],0⟩=F at *
 refine wW ?_
 refine gG ?_
 refine bj [] qi trivial (fun _=>rfl) ?_
 rintro h' v as' ⟨rfl,rfl,rfl⟩
 refine⟨bX,rfl,?_⟩
 refine wW ?_
 refine kM ⟨[(33,.ab 65032 0),(9,.ab 65032 0)],aQ s o most o 0 []⟩ (.lk 65032 1 60022 1 [.ab 40014 0,.aq,.int .i64 most] rfl rfl rfl (.le ?_)) rfl ?_
 ·exact bn
 refine bj (aQ s o most o 0 []) hrun bn nofun ?_
 rintro h' v ar ⟨⟨a3,hv3,out3,rfl,rfl,hPI⟩,rfl⟩
 refine⟨bn,rfl,?_⟩
 by_cases he:F.err=0
 ·obtain⟨rfl,hr3⟩:=hPI he
  rw[if_neg (by simpa using he)]at hR
  have hu:=alw s a3 hv3 o (8*o+F.p) (by omega) hr3 (by omega)
  have e1:(8*o+F.p+7)/8-o=(F.p+7)/8:=by omega
  rw[e1]at hu
  simp only[aR]at hu
  simp(disch:=omega)only[go_sem,simprocAttr,he,aQ,aR]
  refine nq [] vV hu trivial (fun _=>rfl) ?_
  rintro h' v ar ⟨rfl,rfl,rfl⟩
  refine⟨rfl,rfl,?_⟩
  refine wW ?_
  exact hR.wk (h':=[]) (r':=.ai [.str F.out,.int .i64 ((F.p+7)/8:Nat),.int .i64 (0:Nat)]) (ar':=[.undef,.undef,.undef]) rfl (.le vV) ⟨rfl,rfl⟩
 ·rw[if_pos he]at hR
  have hi:¬((F.err:Nat):Int)=0:=by omega
  refine az hi ?_
  exact hR.wk (h':=[]) (r':=.ai [.str [],.int .i64 (0:Nat),.int .i64 (F.err:Nat)]) (ar':=[.undef,.undef,.undef]) rfl (.le vV) ⟨rfl,rfl⟩
open Eng Sh
set_option maxRecDepth 10000
theorem AN {t:Bs} {most:Nat}:∀(k:Nat) (S:SS),Mv t most S (mJ t most k S)
 | 0,_=>.refl
 | k+1,S=>by
  unfold mJ
  split
  ·exact my.1
  ·exact my.1.trans (AN k _)
theorem zF (t:Bs) (most:Nat):(fi t most).1.length≤most∧(fi t most).2.1≤t.length:=by
 unfold fi
 simp only
 have h:=AN (t:=t) (most:=most) (8*t.length+1-0) ⟨0,[],0⟩
 have h1:(gi t most ⟨0,[],0⟩).p≤8*t.length:=h.q (by simp)
 have h2:(gi t most ⟨0,[],0⟩).out.length≤most:=h.o (by simp)
 split
 ·exact⟨by simp,by simp⟩
 ·exact⟨h2,by simp only;omega⟩
def dW (t:Bs) (most:Nat):Bs×Nat×Nat:=
 if t.length<2 then([],0,6)else if nE (t.getD 0 0).toNat (t.getD 1 0).toNat=false then([],0,3)else
 if(fi (t.drop 2) most).2.2≠0 then([],0,(fi (t.drop 2) most).2.2)else
 if t.length-(2+(fi (t.drop 2) most).2.1)<4 then([],0,6)else
 if gl ((t.drop (2+(fi (t.drop 2) most).2.1)).take 4)≠kG (fi (t.drop 2) most).1 then([],0,5)else((fi (t.drop 2) most).1,(fi (t.drop 2) most).2.1+6,0)
theorem rH (t:Bs) (most:Nat):(dW t most).1.length≤most∧(dW t most).2.1≤t.length:=by
 have h:=zF (t.drop 2) most
 rw[List.length_drop]at h
 unfold dW
 split
 ·exact⟨by simp,by simp⟩
 ·split
  ·exact⟨by simp,by simp⟩
  ·split
   ·exact⟨by simp,by simp⟩
   ·split
    ·exact⟨by simp,by simp⟩
    ·split
     ·exact⟨by simp,by simp⟩
     ·exact⟨h.1,by simp only;omega⟩
abbrev zV (Z:Bs×Nat×Nat):AV:=.ai [.str Z.1,.int .i64 (Z.2.1:Nat),.int .i64 (Z.2.2:Nat)]
set_option maxHeartbeats 1000000 in
theorem D0 (s:Bs) (o most:Nat) (hs:s.length≤1000000) (ho:o≤s.length) (hm:most≤65536):aN Tryz.prog 132 [.str s,.int .i64 o,.int .i64 most] (zV (dW (s.drop o) most)):=by
 refine Cod.atG (fun E R hN hR=>?_)
 unfold dW at hR
 have hdl:(s.drop o).length=s.length-o:=List.length_drop
 rw[hdl]at hR
 by_cases h2:s.length-o<2
 ·rw[if_pos h2]at hR
  have hi:(s.length:Int)-(o:Int)<2:=by omega
  refine az hi ?_
  refine cm hi ?_
  exact hR.ro ⟨rfl,rfl⟩
 ·rw[if_neg h2]at hR
  have hi:¬(s.length:Int)-(o:Int)<2:=by omega
  have gd:∀i,(s.drop o).getD i 0=s.getD (o+i) 0:=fun i=>by rw[List.getD_eq_getElem?_getD,List.getElem?_drop,←List.getD_eq_getElem?_getD]
  rw[gd,gd,Nat.add_zero]at hR
  have hh:=atc (s.getD o 0) (s.getD (o+1) 0)
  by_cases hb:nE (s.getD o 0).toNat (s.getD (o+1) 0).toNat=false
  ·rw[if_pos hb]at hR
   rw[hb]at hh
   refine az hi ?_
   refine cm hi ?_
   refine aC hh rfl rfl ?_
   refine wW ?_
   exact hR.ro ⟨rfl,rfl⟩
  ·rw[if_neg hb]at hR
   rw[show nE (s.getD o 0).toNat (s.getD (o+1) 0).toNat=true by simpa using hb]at hh
   have hinf:=UC s (o+2) most (by omega) (by omega) hm
   have hil:=zF (s.drop (o+2)) most
   rw[List.drop_drop]at hR
   generalize fi (s.drop (o+2)) most=I at *
   rw[List.length_drop]at hil
   refine az hi ?_
   refine cm hi ?_
   refine aC hh rfl rfl ?_
   refine wW ?_
   refine aC hinf rfl rfl ?_
   by_cases he:I.2.2=0
   ·rw[if_neg (by simpa using he)]at hR
    by_cases h4:s.length-o-(2+I.2.1)<4
    ·rw[if_pos h4]at hR
     have hj:(s.length:Int)-((o:Int)+2+(I.2.1:Int))<4:=by omega
     refine bc he hj ?_
     exact hR.ro ⟨rfl,rfl⟩
    ·rw[if_neg h4]at hR
     have hj:¬(s.length:Int)-((o:Int)+2+(I.2.1:Int))<4:=by omega
     rw[List.drop_drop]at hR
     have e1:o+(2+I.2.1)=o+2+I.2.1:=by omega
     rw[e1]at hR
     generalize hu:(s.drop (o+2+I.2.1)).take 4=u at *
     have hul:u.length=4:=by rw[←hu,List.length_take,List.length_drop];omega
     have hfb:=Pu u (by omega)
     have had:=Es I.1 (by omega)
     have hal:=Ek I.1
     have hbl:gl u<4294967296:=by
      have:=sb u 4 (by omega)
      rw[List.take_of_length_le (by omega)]at this
      exact this
     have et:((o:Int)+2+(I.2.1:Int)).toNat=o+2+I.2.1:=by omega
     have et4:((o:Int)+2+(I.2.1:Int)+4).toNat-(o+2+I.2.1)=4:=by omega
     refine dz he hj et et4 hu ?_
     refine aC hfb rfl rfl ?_
     refine wW ?_
     refine aC had rfl rfl ?_
     generalize gl u=x at *
     generalize kG I.1=y at *
     by_cases hxy:x=y
     ·rw[if_neg (by simpa using hxy)]at hR
      have hi:((x:Nat):Int)=(y:Int):=by omega
      refine az hi ?_
      exact hR.ro ⟨rfl,rfl⟩
     ·rw[if_pos hxy]at hR
      have hi:¬((x:Nat):Int)=(y:Int):=by omega
      refine az hi ?_
      exact hR.ro ⟨rfl,rfl⟩
   ·rw[if_pos he]at hR
    have hj:¬((I.2.2:Nat):Int)=0:=by omega
    refine az hj ?_
    exact hR.ro ⟨rfl,rfl⟩
end Go.Proofs.YtoalcafkffmiiaaGreatDoor.Pk
namespace Go.Proofs.YtoalcafkffmiiaaGreatDoor.Cod
open Eng Eng.Kz
set_option maxRecDepth 100000
abbrev agz:AK:=.seq (.aa [u 140021 21 (.af (.t 0)),u 140022 22 (.au (.t 21)),u 140023 23 (.aj false 0 1 (.t 22)),u 140024 24 (.ld false 1 (.t 23)),u 140025 25 (.af (.t 0)),u 140026 26 (.au (.t 25)),u 140027 27 (.aj false 1 1 (.t 26)),u 140028 28 (.ld false 1 (.t 27)),u 140029 29 (.bin .sub (.t 28) (ci 1)),.v 30 (.cG (.t 24) (.t 29)),.v 31 (.a7 .i64 (.t 30)),m 2 31] [2,2000000]) .ret
abbrev agy:AK:=.seq (.aa [m 14 0,.v 15 (.au (.t 14)),.v 16 (.aj false 1 1 (.t 15)),.v 17 (.ld false 1 (.t 16)),bi 18 .add 17 1,.v 19 (.au (.t 14)),.v 20 (.aj false 1 1 (.t 19)),.an false 140000 (.st 1 (.t 20) (.t 18))] [0,2000000]) agz
abbrev agB:AK:=.cd [.v 13 (.fF 189 (ci 6))] (.an false 140000 (.dQ (.t 13))) [] [0,2000000]
abbrev agA:AK:=.seq (.aa [u 140003 3 (.af (.t 0)),u 140004 4 (.au (.t 3)),u 140005 5 (.aj false 1 1 (.t 4)),u 140006 6 (.ld false 1 (.t 5)),u 140007 7 (.af (.t 0)),u 140008 8 (.au (.t 7)),u 140009 9 (.aj false 0 1 (.t 8)),u 140010 10 (.ld false 1 (.t 9)),u 140011 11 (.len true (.t 10)),b 12 .geq 6 11] [0,2,12,2000000]) (.cond (.t 12) agB .skip)
abbrev agx:AK:=.seq agA agy
abbrev agw:AK:=.seq (.aa [k 2 (ci 0)] [0,2,2000000]) agx
abbrev pbyte:AK:=agw
theorem Bu:aD Tryz.prog 188 140000 1 pbyte [.tmp 2]:=⟨_,Tryz.func188,by kernel_rfl⟩
theorem agC {h:HP} {a0:AV} {V:Value} (hp:kC Tryz.prog pbyte V [(0,a0),(2000000,a0)] h):Eng.dX Tryz.prog 188 h [a0] V:=mN Bu rfl [(0,a0),(2000000,a0)] ⟨rfl,rfl,trivial⟩ hp
theorem agD {h a0 Post} (hp:aF Tryz.prog pbyte [.tmp 2] 1 [(0,a0),(2000000,a0)] h Post):Eng.Spec Tryz.prog 188 h [a0] Post:=aJ Bu rfl [(0,a0),(2000000,a0)] ⟨rfl,rfl,trivial⟩ hp
abbrev ag0:AK:=.seq (.aa [m 30 5,m 31 6,m 2 30,m 3 31] [2,3,2000000]) .ret
abbrev agS:AK:=.aa [m 28 7,bi 29 .add 28 7,m 7 29] [0,2,3,4,5,6,7,2000000]
abbrev agR:AK:=.seq (.aa [m 22 6,m 23 4,bi 24 .and 23 127,m 25 7,b 26 .shl 24 25,b 27 .or 22 26,m 6 27] [0,2,3,4,5,6,7,2000000]) agS
abbrev agU:AK:=.cd [.v 21 (.fF 189 (ci 3))] (.an false 141000 (.dQ (.t 21))) [] [0,2,3,4,5,6,7,2000000]
abbrev agT:AK:=.seq (.aa [m 19 7,bi 20 .gtr 19 25] [0,2,3,4,5,6,7,20,2000000]) (.cond (.t 20) agU .skip)
abbrev ag3:AK:=.seq agT agR
abbrev agV:AK:=.cd [m 17 0] (.ao (some 18) false 141018 188 [(.t 17)]) [m 4 18] [0,2,3,4,5,6,7,2000000]
abbrev ag2:AK:=.seq agV ag3
abbrev agW:AK:=.seq (.aa [m 15 4,bi 16 .geq 15 128] [0,2,3,5,6,7,16,2000000]) (.cond (.t 16) .skip (.exit 0))
abbrev ag1:AK:=.seq agW (.block 1 ag2)
abbrev ag4:AK:=.loop ag1
abbrev agZ:AK:=.seq (.block 0 ag4) ag0
abbrev agY:AK:=.seq (.aa [m 10 4,.v 11 (.bin .shr (.t 10) (.c (.int .u64 4))),bi 12 .and 11 7,m 13 4,bi 14 .and 13 15,m 5 12,m 6 14,k 7 (ci 4)] [0,2,3,4,5,6,7,2000000]) agZ
abbrev agX:AK:=.cd [m 8 0] (.ao (some 9) false 141009 188 [(.t 8)]) [m 4 9] [0,2,3,4,2000000]
abbrev agQ:AK:=.seq agX agY
abbrev agP:AK:=.seq (.aa [k 2 (ci 0),k 3 (ci 0)] [0,2,3,2000000]) agQ
abbrev qQ:AK:=agP
theorem Bw:aD Tryz.prog 136 141000 1 qQ [.tmp 2,.tmp 3]:=⟨_,Tryz.func136,by kernel_rfl⟩
theorem ag6 {h:HP} {a0:AV} {V:Value} (hp:kC Tryz.prog qQ V [(0,a0),(2000000,a0)] h):Eng.dX Tryz.prog 136 h [a0] V:=mN Bw rfl [(0,a0),(2000000,a0)] ⟨rfl,rfl,trivial⟩ hp
theorem ag8 {h a0 Post} (hp:aF Tryz.prog qQ [.tmp 2,.tmp 3] 1 [(0,a0),(2000000,a0)] h Post):Eng.Spec Tryz.prog 136 h [a0] Post:=aJ Bw rfl [(0,a0),(2000000,a0)] ⟨rfl,rfl,trivial⟩ hp
abbrev agn:AK:=.seq (.aa [m 22 4,m 2 22] [2,2000000]) .ret
abbrev age:AK:=.aa [m 16 4,bi 17 .add 16 1,.v 18 (.bin .shl (.t 17) (.c (.int .u64 7))),m 19 3,bi 20 .and 19 127,b 21 .or 18 20,m 4 21] [0,2,3,4,2000000]
abbrev agf:AK:=.cd [m 14 0] (.ao (some 15) false 142015 188 [(.t 14)]) [m 3 15] [0,2,3,4,2000000]
abbrev agq:AK:=.seq agf age
abbrev agi:AK:=.cd [.v 13 (.fF 189 (ci 3))] (.an false 142000 (.dQ (.t 13))) [] [0,2,4,2000000]
abbrev agh:AK:=.seq (.aa [m 11 4,bi 12 .gtr 11 16777216] [0,2,4,12,2000000]) (.cond (.t 12) agi .skip)
abbrev agp:AK:=.seq agh agq
abbrev agj:AK:=.seq (.aa [m 9 3,bi 10 .geq 9 128] [0,2,4,10,2000000]) (.cond (.t 10) .skip (.exit 0))
abbrev ago:AK:=.seq agj (.block 1 agp)
abbrev agr:AK:=.loop ago
abbrev agm:AK:=.seq (.block 0 agr) agn
abbrev agl:AK:=.seq (.aa [m 7 3,bi 8 .and 7 127,m 4 8] [0,2,3,4,2000000]) agm
abbrev agk:AK:=.cd [m 5 0] (.ao (some 6) false 142006 188 [(.t 5)]) [m 3 6] [0,2,3,2000000]
abbrev agd:AK:=.seq agk agl
abbrev agc:AK:=.seq (.aa [k 2 (ci 0)] [0,2,2000000]) agd
abbrev qN:AK:=agc
theorem Br:aD Tryz.prog 137 142000 1 qN [.tmp 2]:=⟨_,Tryz.func137,by kernel_rfl⟩
theorem agt {h:HP} {a0:AV} {V:Value} (hp:kC Tryz.prog qN V [(0,a0),(2000000,a0)] h):Eng.dX Tryz.prog 137 h [a0] V:=mN Br rfl [(0,a0),(2000000,a0)] ⟨rfl,rfl,trivial⟩ hp
theorem agv {h a0 Post} (hp:aF Tryz.prog qN [.tmp 2] 1 [(0,a0),(2000000,a0)] h Post):Eng.Spec Tryz.prog 137 h [a0] Post:=aJ Br rfl [(0,a0),(2000000,a0)] ⟨rfl,rfl,trivial⟩ hp
abbrev BC:AK:=.aa [.eff 4 false 143004 (.alloc [.int .i64 0,.int .i64 0,.int .i64 0,.str [],.int .i64 0,.str [],.int .u32 0]),.eff 5 false 143005 (.alloc [.int .i64 0])] [0,1,4,5,2000002,2000003]
abbrev ahD:AK:=.seq (.aa [.v 22 (.bE [.int .i64 0,.int .i64 0,.int .i64 0,.str [],.int .i64 0,.str [],.int .u32 0] []),.an false 143000 (.st 7 (.t 4) (.t 22)),.an false 143000 (.st 1 (.t 5) (ci 1))] [4,5,2000002,2000003]) .ret
abbrev BD:AK:=.seq (.aa [m 13 1,bi 14 .lss 13 12,m 15 14,.ah 16 15 false false 143016 (.af (.t 1)),.ah 17 15 false false 143017 (.af (.t 0)),.ah 18 15 false false 143018 (.len true (.t 17)),.ah 19 15 false false 143019 (.bin .sub (.t 18) (ci 20)),.ah 20 15 false false 143020 (.bin .gtr (.t 16) (.t 19)),.v 21 (.pick (.t 15) (.c (.bool true)) (.t 20))] [0,1,4,5,21,2000002,2000003]) (.cond (.t 21) ahD .skip)
abbrev ahu:AK:=.seq (.aa [.v 143 (.ld true 7 (.t 4)),.an false 143000 (.st 7 (.t 4) (.t 143)),.an false 143000 (.st 1 (.t 5) (ci 0))] [4,5,2000002,2000003]) .ret
abbrev aht:AK:=.seq (.aa [m 136 6,m 137 1,.v 138 (.aj false 1 1 (.t 4)),.v 139 (.ld false 1 (.t 138)),.v 140 (.bB (.t 136) (some (.t 137)) (some (.t 139))),.ao (some 141) false 143141 138 [(.t 140)],.v 142 (.aj false 6 1 (.t 4)),.an false 143000 (.st 1 (.t 142) (.t 141))] [4,5,2000002,2000003]) ahu
abbrev ahs:AK:=.seq (.aa [m 129 7,.v 130 (.au (.t 129)),.v 131 (.aj false 1 1 (.t 130)),.v 132 (.ld false 1 (.t 131)),m 133 12,b 134 .add 132 133,.v 135 (.aj false 1 1 (.t 4)),.an false 143000 (.st 1 (.t 135) (.t 134))] [1,4,5,6,2000002,2000003]) aht
abbrev ahr:AK:=.seq (.aa [m 127 11,.v 128 (.aj false 3 1 (.t 4)),.an false 143000 (.st 1 (.t 128) (.t 127))] [1,4,5,6,7,12,2000002,2000003]) ahs
abbrev ahw:AK:=.cd [.v 125 (.ld false 1 (.t 5)),.v 126 (.fF 189 (.t 125))] (.an false 143000 (.dQ (.t 126))) [] [1,4,5,6,7,11,12,2000002,2000003]
abbrev ahv:AK:=.seq (.aa [.v 123 (.ld false 1 (.t 5)),bi 124 .neq 123 0] [1,4,5,6,7,11,12,124,2000002,2000003]) (.cond (.t 124) ahw .skip)
abbrev BF:AK:=.seq ahv ahr
abbrev ahy:AK:=.aa [.an false 143000 (.st 1 (.t 5) (ci 3))] [1,4,5,6,7,11,12,2000002,2000003]
abbrev ahx:AK:=.seq (.aa [.v 111 (.ld false 1 (.t 5)),bi 112 .eql 111 2,m 113 112,.ah 114 113 false false 143114 (.ld false 1 (.t 5)),.ah 115 113 false false 143115 (.bin .eql (.t 114) (ci 0)),.ah 116 113 false false 143116 (.af (.t 115)),.ah 117 116 true false 143117 (.af (.t 11)),.ah 118 116 true false 143118 (.len true (.t 117)),.ah 119 116 true false 143119 (.af (.t 9)),.ah 120 116 true false 143120 (.bin .lss (.t 118) (.t 119)),.ah 121 113 false false 143121 (.pick (.t 116) (.t 120) (.c (.bool false))),.v 122 (.pick (.t 113) (.c (.bool true)) (.t 121))] [1,4,5,6,7,11,12,122,2000002,2000003]) (.cond (.t 122) ahy .skip)
def ahq:AK:=.seq ahx (.bl BF)
abbrev ahp:AK:=.seq (.aa [m 101 6,m 102 7,.v 103 (.au (.t 102)),.v 104 (.aj false 1 1 (.t 103)),.v 105 (.ld false 1 (.t 104)),m 106 9,.ao (some 107) false 143107 132 [(.t 101),(.t 105),(.t 106)],m 100 107,.v 108 (.ext (.t 100) 0),.v 109 (.ext (.t 100) 1),.v 110 (.ext (.t 100) 2),m 11 108,m 12 109,.an false 143000 (.st 1 (.t 5) (.t 110))] [1,4,5,6,7,9,11,12,2000002,2000003]) ahq
abbrev ahA:AK:=.cd [.v 99 (.fF 189 (ci 2))] (.an false 143000 (.dQ (.t 99))) [] [1,4,5,6,7,9,2000002,2000003]
abbrev ahz:AK:=.seq (.aa [m 97 9,bi 98 .gtr 97 65000] [1,4,5,6,7,9,98,2000002,2000003]) (.cond (.t 98) ahA .skip)
abbrev BE:AK:=.seq ahz ahp
abbrev ahG:AK:=.aa [m 62 1,m 63 10,b 64 .sub 62 63,.v 65 (.aj false 4 1 (.t 4)),.an false 143000 (.st 1 (.t 65) (.t 64))] [1,4,5,6,7,9,2000002,2000003]
abbrev ahI:AK:=.cd [.v 61 (.fF 189 (ci 3))] (.an false 143000 (.dQ (.t 61))) [] [1,4,5,6,7,9,10,2000002,2000003]
abbrev ahH:AK:=.seq (.aa [m 53 10,bi 54 .lss 53 1,m 55 54,.ah 56 55 false false 143056 (.af (.t 10)),.ah 57 55 false false 143057 (.af (.t 1)),.ah 58 55 false false 143058 (.bin .sub (.t 57) (ci 12)),.ah 59 55 false false 143059 (.bin .gtr (.t 56) (.t 58)),.v 60 (.pick (.t 55) (.c (.bool true)) (.t 59))] [1,4,5,6,7,9,10,60,2000002,2000003]) (.cond (.t 60) ahI .skip)
abbrev ahF:AK:=.seq ahH ahG
abbrev ahJ:AK:=.cd [m 51 7] (.ao (some 52) false 143052 137 [(.t 51)]) [m 10 52] [1,4,5,6,7,9,10,2000002,2000003]
abbrev ahE:AK:=.seq ahJ ahF
abbrev ahN:AK:=.aa [m 90 7,.v 91 (.au (.t 90)),.v 92 (.aj false 1 1 (.t 91)),.v 93 (.ld false 1 (.t 92)),bi 94 .add 93 20,.v 95 (.au (.t 90)),.v 96 (.aj false 1 1 (.t 95)),.an false 143000 (.st 1 (.t 96) (.t 94))] [1,4,5,6,7,9,2000002,2000003]
abbrev ahM:AK:=.seq (.aa [u 143077 77 (.af (.t 6)),u 143078 78 (.af (.t 7)),u 143079 79 (.au (.t 78)),u 143080 80 (.aj false 1 1 (.t 79)),u 143081 81 (.ld false 1 (.t 80)),u 143082 82 (.af (.t 7)),u 143083 83 (.au (.t 82)),u 143084 84 (.aj false 1 1 (.t 83)),u 143085 85 (.ld false 1 (.t 84)),u 143086 86 (.bin .add (.t 85) (ci 20)),.v 87 (.bB (.t 77) (some (.t 81)) (some (.t 86))),.ao (some 88) false 143088 37 [(.t 87)],.v 89 (.aj false 5 1 (.t 4)),.an false 143000 (.st 1 (.t 89) (.t 88))] [1,4,5,6,7,9,2000002,2000003]) ahN
abbrev ahP:AK:=.cd [.v 76 (.fF 189 (ci 6))] (.an false 143000 (.dQ (.t 76))) [] [1,4,5,6,7,9,2000002,2000003]
abbrev ahO:AK:=.seq (.aa [m 68 6,.v 69 (.len true (.t 68)),m 70 7,.v 71 (.au (.t 70)),.v 72 (.aj false 1 1 (.t 71)),.v 73 (.ld false 1 (.t 72)),b 74 .sub 69 73,bi 75 .lss 74 20] [1,4,5,6,7,9,75,2000002,2000003]) (.cond (.t 75) ahP .skip)
abbrev ahL:AK:=.seq ahO ahM
abbrev ahQ:AK:=.cd [.v 43 (.fF 189 (ci 10))] (.an false 143000 (.dQ (.t 43))) [] [1,4,5,6,7,9,2000002,2000003]
abbrev ahK:AK:=.seq (.aa [bi 67 .eql 42 7,m 66 67] [1,4,5,6,7,9,66,2000002,2000003]) (.cond (.t 66) ahL ahQ)
abbrev BG:AK:=.seq (.aa [bi 50 .eql 42 6,m 49 50] [1,4,5,6,7,9,42,49,2000002,2000003]) (.cond (.t 49) ahE ahK)
abbrev ahV:AK:=.aa [bi 48 .eql 42 4,m 44 48] [1,4,5,6,7,9,42,44,2000002,2000003]
abbrev ahU:AK:=.seq (.aa [bi 47 .eql 42 3,m 44 47] [1,4,5,6,7,9,42,44,2000002,2000003]) (.cond (.t 44) .skip ahV)
abbrev ahT:AK:=.seq (.aa [bi 46 .eql 42 2,m 44 46] [1,4,5,6,7,9,42,44,2000002,2000003]) (.cond (.t 44) .skip ahU)
abbrev ahR:AK:=.seq (.aa [bi 45 .eql 42 1,m 44 45] [1,4,5,6,7,9,42,44,2000002,2000003]) (.cond (.t 44) .skip ahT)
def ahC:AK:=.seq ahR (.bl (.cond (.t 44) .skip BG))
abbrev ahB:AK:=.seq (.aa [m 42 8] [1,4,5,6,7,9,42,2000002,2000003]) (.block 0 ahC)
def ah0:AK:=.seq ahB (.bl BE)
abbrev ahZ:AK:=.seq (.aa [m 40 8,.v 41 (.aj false 2 1 (.t 4)),.an false 143000 (.st 1 (.t 41) (.t 40))] [1,4,5,6,7,8,9,2000002,2000003]) ah0
abbrev ahW:AK:=.cd [m 36 7] (.ao (some 37) false 143037 136 [(.t 36)]) [m 35 37,.v 38 (.ext (.t 35) 0),.v 39 (.ext (.t 35) 1),m 8 38,m 9 39] [1,4,5,6,7,8,9,2000002,2000003]
abbrev ahY:AK:=.seq ahW ahZ
abbrev ahX:AK:=.seq (.aa [m 33 1,.v 34 (.aj false 0 1 (.t 4)),.an false 143000 (.st 1 (.t 34) (.t 33))] [1,4,5,6,7,2000002,2000003]) ahY
abbrev ahS:AK:=.seq (.aa [m 29 6,m 30 1,.v 31 (.bE [.str [],.int .i64 0] [(0,1,(.t 29)),(1,1,(.t 30))]),.eff 32 false 143032 (.box 2 (.t 31)),m 7 32] [1,4,5,6,7,2000002,2000003]) ahX
abbrev BH:AK:=.seq (.aa [m 24 0,m 25 0,.v 26 (.len true (.t 25)),bi 27 .sub 26 20,.v 28 (.bB (.t 24) none (some (.t 27))),m 6 28] [1,4,5,6,2000002,2000003]) ahS
abbrev pread:AK:=seqK [BC,BD] (.seq (.eD 135 [(.c (.ai [.int .i64 23])),(.t 4),(.t 5)]) BH)
theorem ah1:aD Tryz.prog 85 143000 24 pread [.cell 4 true 7,.cell 5 false 1]:=⟨_,Tryz.func85,by kernel_rfl⟩
theorem ah2 {h a0 a1 Post} (hI:jR Tryz.prog 135 2) (hp:oT Tryz.prog [BC,BD] BH 135 23 [(.t 4),(.t 5)] 143000 2 [.cell 4 true 7,.cell 5 false 1] [(0,a0),(1,a1)] h Post):Eng.Spec Tryz.prog 85 h [a0,a1] Post:=u3 ah1 rfl (Nat.le_of_ble_eq_true rfl) (Nat.le_of_ble_eq_true rfl) hI [(0,a0),(1,a1)] ⟨rfl,rfl,trivial⟩ hp
end Go.Proofs.YtoalcafkffmiiaaGreatDoor.Cod
