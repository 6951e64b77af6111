/- The proof, part 28 of 32. -/
import Derived.Test.YtlkmppkcbhodaaaGreatDoorLooseReadsZ
import Derived.Test.YtlkmppkcbhodaaaGreatDoorLooseReadsZA
import Derived.Test.YtlkmppkcbhodaaaGreatDoorProg
import Derived.KernelRfl
set_option linter.all false
namespace Go.Proofs.YtlkmppkcbhodaaaGreatDoor.Pk
open Eng
set_option maxRecDepth 10000
def RD:Nat:=40014
attribute [go_sem] RD
def aW (s:Bs) (a hv fr:Nat):List AV:=[.str s,.int .i64 a,.int .u64 (numAt s (8*a-hv) hv:Nat),.int .i64 hv,.int .i64 fr]
theorem cm {p:Prop} (h:p:=by simp(disch:=first | omega | (simp only[Lx];omega))only[go_sem,simprocAttr,aW]):p:=h
theorem ig {a b:Prop} (k:b) (h:b→a:=by intro h;simp(disch:=first | omega | (simp only[Lx];omega))only[go_sem,simprocAttr,aW];exact h):a:=h k
theorem atg {E0:Prop} {a b:Prop} (e0:E0) (k:b) (h:E0→b→a:=by intro e0 h;simp(disch:=first | omega | (simp only[Lx];omega))only[go_sem,simprocAttr,aW,e0];exact h):a:=h e0 k
theorem ta {E0 E1:Prop} {a b:Prop} (e0:E0) (e1:E1) (k:b) (h:E0→E1→b→a:=by intro e0 e1 h;simp(disch:=first | omega | (simp only[Lx];omega))only[go_sem,simprocAttr,aW,e0,e1];exact h):a:=h e0 e1 k
theorem ath {E0 E1 E2:Prop} {a b:Prop} (e0:E0) (e1:E1) (e2:E2) (k:b) (h:E0→E1→E2→b→a:=by intro e0 e1 e2 h;simp(disch:=first | omega | (simp only[Lx];omega))only[go_sem,simprocAttr,aW,e0,e1,e2];exact h):a:=h e0 e1 e2 k
structure bI (s:Bs) (a hv p:Nat):Prop where
 h1:hv≤39
 h2:a≤s.length
 h3:p+hv=8*a
theorem rT {x k b:Nat} (hx:x<2^k) (hk:k≤56) (hb:b<256):bits .or .u64 (x:Int) (IntKind.u64.wrap ((b:Int)*2^min k 64))=((x+b*2^k:Nat):Int):=by
 have hp:2^k≤2^56:=Nat.pow_le_pow_right (by decide) hk
 have h2:b*2^k<2^64:=Nat.lt_of_le_of_lt (Nat.mul_le_mul (show b≤255 by omega) hp) (by decide)
 have h3:x+b*2^k<2^64:=by
  have:(b+1)*2^k≤256*2^56:=Nat.mul_le_mul (by omega) hp
  rw[Nat.add_mul]at this
  omega
 have e:IntKind.u64.wrap ((b:Int)*2^min k 64)=((b*2^k:Nat):Int):=by
  rw[Nat.min_eq_left (by omega),show((b:Int)*2^k)=((b*2^k:Nat):Int)by push_cast;rfl]
  exact wrap_u64 (by omega)
 rw[e]
 show IntKind.u64.wrap ((BitVec.ofInt 64 (x:Int) ||| BitVec.ofInt 64 ((b*2^k:Nat):Int)).toNat:Int)=_
 rw[BitVec.ofInt_natCast,BitVec.ofInt_natCast,BitVec.toNat_or,BitVec.toNat_ofNat,BitVec.toNat_ofNat,Nat.mod_eq_of_lt (by omega),Nat.mod_eq_of_lt h2,Nat.or_comm,←Nat.shiftLeft_eq,←Nat.shiftLeft_add_eq_or_of_lt hx,Nat.shiftLeft_eq,Nat.add_comm]
 exact wrap_u64 (by omega)
theorem vA (s:Bs) (a hv fr p n:Nat) (hs:s.length≤1000000000000) (h:bI s a hv p) (hn:n≤32):Eng.Spec Tryz.prog 202 [(RD,.var (aW s a hv fr))] [.ab RD 0,.int .i64 n]
    (fun h' v ar=>∃a' hv',bI s a' hv' p∧(n≤hv'∨a'=s.length)∧h'=[(RD,.var (aW s a' hv' fr))]∧v=.ai []∧ar=[.ab RD 0,.int .i64 n]):=by
 refine Cod.JK (fun E R hN hR=>?_)
 refine wW ?_
 refine aZ hN (fun q:Nat×Nat=>⟨[(0,.ab RD 0),(1,.int .i64 n),(2000000,.ab RD 0),(2000001,.int .i64 n)],[(RD,.var (aW s q.1 q.2 fr))]⟩) (fun q=>bI s q.1 q.2 p) (fun q=>s.length-q.1) (a,hv) (.le cm) h ?_
 rintro⟨a,hv⟩ R1 ⟨h1,h2,h3⟩ hR1
 simp only at h1 h2 h3
 by_cases hlt:hv<n
 ·by_cases hat:a<s.length
  ·have hb:=(s.getD a 0).toNat_lt
   have ho:=rT (fy s (8*a-hv) hv) (show hv≤56 by omega) (b:=(s.getD a 0).toNat) (by omega)
   have hf:=Yu s a hv (by omega)
   rw[←hf]at ho
   refine ig ?_
   refine gG ?_
   rw[ho]
   exact hR1 (a+1,hv+8) _ (by simp only;omega) ⟨by simp only;omega,by simp only;omega,by simp only;omega⟩ (.le (by simp(disch:=omega)only[go_sem,simprocAttr,aW,show 8*(a+1)-(hv+8)=8*a-hv by omega]))
  ·refine ig ?_
   refine gG ?_
   exact hR.le cm ⟨a,hv,⟨h1,h2,h3⟩,.inr (by omega),rfl,rfl,rfl⟩
 ·refine ig ?_
  refine gG ?_
  exact hR.le cm ⟨a,hv,⟨h1,h2,h3⟩,.inl (by omega),rfl,rfl,rfl⟩
theorem CL (x n:Nat) (hx:x<2^64) (hn:n≤32):bits .and .u64 (x:Int) (IntKind.u64.wrap (IntKind.u64.wrap (1*2^min n 64)-1))=((x%2^n:Nat):Int):=by
 have hp:2^n≤2^32:=Nat.pow_le_pow_right (by decide) hn
 have hp1:0<2^n:=Nat.pow_pos (by decide)
 have e:IntKind.u64.wrap (IntKind.u64.wrap (1*2^min n 64)-1)=((2^n-1:Nat):Int):=by
  have e1:IntKind.u64.wrap (1*2^n)=((2^n:Nat):Int):=by
   rw[show((1:Int)*2^n)=((2^n:Nat):Int)by rw[Int.one_mul];push_cast;rfl]
   exact wrap_u64 (by omega)
  rw[Nat.min_eq_left (by omega),e1,show(((2^n:Nat):Int)-1)=((2^n-1:Nat):Int)by omega]
  exact wrap_u64 (by omega)
 rw[e]
 show IntKind.u64.wrap ((BitVec.ofInt 64 (x:Int) &&& BitVec.ofInt 64 ((2^n-1:Nat):Int)).toNat:Int)=_
 rw[BitVec.ofInt_natCast,BitVec.ofInt_natCast,BitVec.toNat_and,BitVec.toNat_ofNat,BitVec.toNat_ofNat,Nat.mod_eq_of_lt hx,Nat.mod_eq_of_lt (by omega),Nat.and_two_pow_sub_one_eq_mod]
 have:=Nat.mod_lt x hp1
 exact wrap_u64 (by omega)
def cY (s:Bs) (p:Nat):Nat:=8*s.length-p
theorem Zx (s:Bs) (a hv fr p n:Nat) (hs:s.length≤1000000000000) (h:bI s a hv p) (hn:n≤32):Eng.Spec Tryz.prog 183 [(RD,.var (aW s a hv fr))] [.ab RD 0,.int .i64 n]
    (fun h' v ar=>∃a' hv',bI s a' hv' p∧(n≤hv'∨a'=s.length)∧h'=[(RD,.var (aW s a' hv' fr))]∧v=.ai [.int .u32 (numAt s p (min n hv'):Nat),.int .i64 (min n hv':Nat)]∧ar=[.ab RD 0,.int .i64 n]):=by
 refine Cod.Zy (fun E R hN hR=>?_)
 refine wW ?_
 refine gG ?_
 refine aU [(RD,.var (aW s a hv fr))] (vA s a hv fr p n hs h hn) vV nofun ?_
 rintro h' v ar ⟨a',hv',⟨h1,h2,h3⟩,hor,rfl,rfl,rfl⟩
 refine⟨cm,rfl,?_⟩
 have hx:=fy s p hv'
 have hx2:numAt s p hv'<2^64:=Nat.lt_of_lt_of_le hx (Nat.pow_le_pow_right (by decide) (by omega))
 have ha:=CL (numAt s p hv') n hx2 hn
 have e1:numAt s p hv'%2^n=numAt s p (min n hv'):=by
  by_cases hh:n≤hv'
  ·rw[Nat.min_eq_left hh,pb s p hh]
  ·rw[Nat.min_eq_right (by omega),Nat.mod_eq_of_lt (Nat.lt_of_lt_of_le hx (Nat.pow_le_pow_right (by decide) (by omega)))]
 rw[e1]at ha
 have hx3:numAt s p (min n hv')<2^32:=Nat.lt_of_lt_of_le (fy s p _) (Nat.pow_le_pow_right (by decide) (by omega))
 have ew:IntKind.u32.wrap ((numAt s p (min n hv'):Nat):Int)=(numAt s p (min n hv'):Nat):=wrap_u32 (by omega)
 have em:min (n:Int) (hv':Int)=((min n hv':Nat):Int):=by omega
 simp(disch:=omega)only[go_sem,simprocAttr,aW,show 8*a'-hv'=p by omega,ha,ew,em]
 exact hR.le (by simp(disch:=omega)only[go_sem,simprocAttr,aW,show 8*a'-hv'=p by omega]) ⟨a',hv',⟨h1,h2,h3⟩,hor,rfl,rfl,rfl⟩
theorem apA (s:Bs) (a hv fr p n:Nat) (hs:s.length≤1000000000000) (h:bI s a hv p) (hn:n≤32):Eng.Spec Tryz.prog 184 [(RD,.var (aW s a hv fr))] [.ab RD 0,.int .i64 n]
    (fun h' v ar=>∃a' hv',bI s a' hv' (if n≤cY s p then p+n else p)∧h'=[(RD,.var (aW s a' hv' fr))]∧v=.bool (decide (n≤cY s p))∧ar=[.ab RD 0,.int .i64 n]):=by
 refine Cod.apB (fun E R hN hR=>?_)
 refine wW ?_
 refine gG ?_
 refine aU [(RD,.var (aW s a hv fr))] (vA s a hv fr p n hs h hn) vV nofun ?_
 rintro h' v ar ⟨a',hv',⟨h1,h2,h3⟩,hor,rfl,rfl,rfl⟩
 refine⟨cm,rfl,?_⟩
 by_cases hlt:hv'<n
 ·have hno:¬n≤cY s p:=by unfold cY;rcases hor with ho | ho<;>omega
  refine ig ?_
  exact hR.le cm ⟨a',hv',by rw[if_neg hno];exact⟨h1,h2,h3⟩,rfl,by rw[decide_eq_false hno],rfl⟩
 ·have hyes:n≤cY s p:=by unfold cY;omega
  have hd:((numAt s p hv':Nat):Int).fdiv (2^min n 64)=((numAt s (p+n) (hv'-n):Nat):Int):=by
   rw[Nat.min_eq_left (by omega),←mc s p (show n≤hv' by omega),Int.fdiv_eq_ediv_of_nonneg _ (Int.pow_nonneg (by decide)),Int.natCast_ediv,Int.natCast_pow];rfl
  simp(disch:=omega)only[go_sem,simprocAttr,aW,show 8*a'-hv'=p by omega,hd]
  refine hR.le ?_ ⟨a',hv'-n,by rw[if_pos hyes];exact⟨by omega,h2,by omega⟩,rfl,by rw[decide_eq_true hyes],rfl⟩
  rw[show((hv':Int)-(n:Int))=((hv'-n:Nat):Int)by omega]
  simp(disch:=omega)only[go_sem,simprocAttr,aW,show 8*a'-(hv'-n)=p+n by omega]
theorem pq (s:Bs) (a hv fr p n:Nat) (hs:s.length≤1000000000000) (h:bI s a hv p) (hn:n≤32):Eng.Spec Tryz.prog 161 [(RD,.var (aW s a hv fr))] [.ab RD 0,.int .i64 n]
    (fun h' v ar=>∃a' hv',bI s a' hv' (if n≤cY s p then p+n else p)∧h'=[(RD,.var (aW s a' hv' fr))]∧v=.ai [.int .u32 (if n≤cY s p then numAt s p n else 0:Nat),.bool (decide (n≤cY s p))]∧ar=[.ab RD 0,.int .i64 n]):=by
 refine Cod.akq (fun E R hN hR=>?_)
 refine wW ?_
 refine aU [(RD,.var (aW s a hv fr))] (Zx s a hv fr p n hs h hn) vV nofun ?_
 rintro h' v ar ⟨a',hv',h1,hor,rfl,rfl,rfl⟩
 refine⟨cm,rfl,?_⟩
 refine wW ?_
 refine aU [(RD,.var (aW s a' hv' fr))] (apA s a' hv' fr p n hs h1 hn) vV nofun ?_
 rintro h' v ar ⟨a2,hv2,h2,rfl,rfl,rfl⟩
 refine⟨cm,rfl,?_⟩
 by_cases hyes:n≤cY s p
 ·have hm:min n hv'=n:=by
   have:=h1.h3;have:=h1.h2
   unfold cY at hyes
   rcases hor with ho | ho<;>omega
  refine bo hyes hm ?_
  exact hR.le vV ⟨a2,hv2,h2,rfl,by rw[if_pos hyes,decide_eq_true hyes],rfl⟩
 ·refine au hyes ?_
  exact hR.le vV ⟨a2,hv2,h2,rfl,by rw[if_neg hyes,decide_eq_false hyes];rfl,rfl⟩
def cz (p:Nat):Nat:=(p+7)/8*8
theorem BF {a hv p:Nat} (h:p+hv=8*a):cz p=8*(a-hv/8):=by unfold cz;omega
theorem akc (s:Bs) (a hv fr p:Nat) (hs:s.length≤1000000000000) (h:bI s a hv p):Eng.Spec Tryz.prog 203 [(RD,.var (aW s a hv fr))] [.ab RD 0]
    (fun h' v ar=>∃hv',bI s a hv' (cz p)∧hv'=8*(hv/8)∧h'=[(RD,.var (aW s a hv' fr))]∧v=.ai []∧ar=[.ab RD 0]):=by
 refine Cod.akd (fun E R hN hR=>?_)
 obtain⟨h1,h2,h3⟩:=h
 have hp:8*a-hv=p:=by omega
 have em:(hv:Int).tmod 8=((hv%8:Nat):Int):=by rw[gI (by omega)];omega
 have hd:((numAt s p hv:Nat):Int).fdiv (2^min (hv%8) 64)=((numAt s (p+hv%8) (hv-hv%8):Nat):Int):=by
  rw[Nat.min_eq_left (by omega),←mc s p (show hv%8≤hv by omega),Int.fdiv_eq_ediv_of_nonneg _ (Int.pow_nonneg (by decide)),Int.natCast_ediv,Int.natCast_pow];rfl
 refine ath em hp hd ?_
 refine hR.le ?_ ⟨8*(hv/8),⟨by omega,h2,by unfold cz;omega⟩,rfl,rfl,rfl,rfl⟩
 rw[show((hv:Int)-((hv%8:Nat):Int))=((8*(hv/8):Nat):Int)by omega,show hv-hv%8=8*(hv/8)by omega]
 simp(disch:=omega)only[go_sem,simprocAttr,aW,show 8*a-8*(hv/8)=p+hv%8 by omega]
theorem sj (s:Bs) (a hv fr p:Nat) (n:Nat) (hs:s.length≤1000000000000) (hn:n≤1000000000000) (h:bI s a hv p):Eng.Spec Tryz.prog 185 [(RD,.var (aW s a hv fr))] [.ab RD 0,.int .i64 n]
    (fun h' v ar=>∃a' hv',bI s a' hv' (if n≤s.length-cz p/8 then cz p+8*n else cz p)∧(n≤s.length-cz p/8→hv'=0)∧h'=[(RD,.var (aW s a' hv' fr))] ∧
     v=.ai [.str (if n≤s.length-cz p/8 then(s.drop (cz p/8)).take n else[]),.bool (decide (n≤s.length-cz p/8))]∧ar=[.ab RD 0,.int .i64 n]):=by
 refine Cod.akA (fun E R hN hR=>?_)
 refine wW ?_
 refine aU [(RD,.var (aW s a hv fr))] (akc s a hv fr p hs h) vV nofun ?_
 rintro h' v ar ⟨hv',⟨h1,h2,h3⟩,rfl,rfl,rfl,rfl⟩
 refine⟨cm,rfl,?_⟩
 have hub:cz p/8=a-hv/8:=by rw[BF h.h3];omega
 have hle:=h.h3
 have eq:(((8*(hv/8):Nat):Int)).tdiv 8=((hv/8:Nat):Int):=by rw[jC (by omega)];omega
 have ef:((a:Int)-((hv/8:Nat):Int))=((a-hv/8:Nat):Int):=by omega
 rw[hub]at hR
 generalize hf:a-hv/8=f at *
 have hfl:f≤s.length:=by omega
 by_cases hyes:n≤s.length-f
 ·have e1:((f:Int)+(n:Int)-(f:Int)).toNat=n:=by omega
  have e2:f+n-f=n:=by omega
  refine ta eq ef ?_
  refine gG ?_
  refine au e2 ?_
  exact hR.le (by simp(disch:=omega)only[go_sem,simprocAttr,aW,numAt]) ⟨f+n,0,by rw[if_pos hyes];exact⟨by omega,by omega,by rw[BF h.h3,hf];omega⟩,fun _=>rfl,rfl,by rw[if_pos hyes,decide_eq_true hyes],rfl⟩
 ·refine ta eq ef ?_
  refine gG ?_
  exact hR.le cm ⟨a,8*(hv/8),by rw[if_neg hyes];exact⟨h1,h2,h3⟩,fun hh=>absurd hh hyes,rfl,by rw[if_neg hyes,decide_eq_false hyes],rfl⟩
open Eng
set_option maxRecDepth 10000
def ak (xs:List Nat):List AV:=xs.map fun n:Nat=>AV.int .i64 n
theorem bS (xs:List Nat):(ak xs).length=xs.length:=by simp[ak]
theorem dJ {xs:List Nat} {i:Nat} (h:i<xs.length):nth (ak xs) i=.int .i64 (xs.getD i 0:Nat):=by
 simp[nth,ak,List.getD_eq_getElem?_getD,h]
theorem eU {xs:List Nat}:(ak xs).all aY=true:=by simp[ak,aY,cellsOf,isCell]
theorem eT {xs:List Nat} {n:Nat}:ak xs++[.int .i64 (n:Int)]=ak (xs++[n]):=by simp[ak]
theorem eK {xs:List Nat} {o n:Nat}:aI (ak xs) o n=ak ((xs.drop o).take n):=by simp[ak,aI]
theorem hC:ak []=[]:=(rfl)
def cW (l:List Nat):List AV:=(List.range 16).map fun n=>AV.int .i64 (bf l n:Nat)
theorem jl (l:List Nat):(cW l).length=16:=by simp[cW]
theorem kE (l:List Nat) {n:Nat} (h:n<16):(cW l).getD n .undef=.int .i64 (bf l n:Nat):=by
 unfold cW
 rw[List.getD_eq_getElem?_getD,List.getElem?_map,List.getElem?_range h];rfl
theorem G8 (l:List Nat) {x:Nat} (h:x<16):(cW l).set x (.int .i64 ((bf l x:Int)+1))=cW (l++[x]):=by
 apply List.ext_getElem?
 intro j
 rw[List.getElem?_set,jl]
 unfold cW
 rw[List.getElem?_map,List.getElem?_map]
 by_cases hx:x=j
 ·subst hx
  rw[if_pos rfl,if_pos h,List.getElem?_range h]
  simp only[Option.map_some,jk,if_true]
  rfl
 ·rw[if_neg hx]
  by_cases hj:j<16
  ·rw[List.getElem?_range hj]
   simp only[Option.map_some,jk,if_neg hx,Nat.add_zero]
  ·rw[List.getElem?_eq_none (by simp;omega)];rfl
theorem uN {id:Nat} {l:List Nat}:(cW l).map (killC id)=cW l:=by simp[cW,killC]
theorem G6 {id sz:Nat} {es:List AV} {l:List Nat}:(cW l).map (ck id sz es)=cW l:=by simp[cW,ck]
theorem G7 {l:List Nat}:(cW l).all noRefC=true:=by simp[cW,noRefC]
theorem kD (l:List Nat) (n:Nat):bf l n≤l.length:=List.countP_le_length
theorem rY (l:List Nat):∀n,bK l n≤l.length*n
 | 0=>by simp[bK]
 | 1=>by simp[bK]
 | n+2=>by
  have:=rY l (n+1)
  have:=kD l (n+1)
  simp only[bK]
  rw[show n+2=(n+1)+1 by omega,Nat.mul_succ l.length (n+1)]
  omega
def jd (l:List Nat) (n k:Nat):List Nat:=(List.range k).filter fun s=>l.getD s 0==n
theorem arz (l:List Nat) (n k:Nat):(jd l n k).length≤k:=by
 have:=List.length_filter_le (fun s=>l.getD s 0==n) (List.range k)
 simpa[jd]using this
theorem arA (l:List Nat) (n k:Nat):jd l n (k+1)=jd l n k++if l.getD k 0=n then[k]else[]:=by
 unfold jd
 rw[List.range_succ,List.filter_append]
 congr 1
 by_cases h:l.getD k 0=n<;>simp[-List.getD_eq_getElem?_getD,h]
theorem ary (l:List Nat) (n:Nat):jd l n l.length=pL l n:=(rfl)
theorem rK {a b:AV} {xs:List AV} {i:Nat} (h:i<xs.length):((a::(xs++[b])).drop (1+i)).getD 0 .undef=xs.getD i .undef:=by
 rw[Nat.add_comm,List.drop_succ_cons,List.getD_eq_getElem?_getD,List.getElem?_drop,Nat.add_zero,List.getElem?_append_left h,List.getD_eq_getElem?_getD]
theorem xO {a b:AV} {xs:List AV} {i:Nat} (h:i<xs.length):0<((a::(xs++[b])).drop (1+i)).length:=by simp;omega
theorem XG {a b v:AV} {xs:List AV} {i:Nat} (h:i<xs.length):c7 (a::(xs++[b])) (1+i) [v]=a::(xs.set i v++[b]):=by
 unfold c7
 rw[Nat.add_comm 1 i,List.take_succ_cons,show i+1+[v].length=(i+1)+1 by simp,List.drop_succ_cons,List.take_append_of_le_length (by omega),List.drop_append_of_le_length (by omega),List.set_eq_take_append_cons_drop,if_pos h]
 simp
theorem I8 {a b v:AV} {xs:List AV} (h:xs.length=16):c7 (a::(xs++[b])) 17 [v]=a::(xs++[v]):=by
 unfold c7
 rw[List.take_succ_cons,show 17+[v].length=17+1 by rfl,List.drop_succ_cons,List.take_left' h,List.drop_append]
 simp[h]
theorem I9 {a b v:AV} {xs:List AV} (h:xs.length=16):(a::(xs++[b])).set 17 v=a::(xs++[v]):=by
 rw[List.set_cons_succ,List.set_append_right _ _ (by omega),h];rfl
theorem I7 {a b:AV} {xs:List AV} (h:xs.length=16):(a::(xs++[b]))[17]?=some b:=by
 rw[List.getElem?_cons_succ,List.getElem?_append_right (by omega),h];rfl
theorem vl {a b:AV} {xs:List AV} (h:xs.length=16):(a::(xs++[b])).drop 17=[b]:=by
 rw[List.drop_succ_cons,List.drop_left' h]
def gl (l:List Nat):List AV:=.ro 1 (ak l)::(cW l++[.ro 1 (ak (sortL l 15))])
def bm (l:List Nat):AV:=.aw (.agg (gl l))
def fR (l:List Nat) (m:Nat):Int:=if m=0 then 1 else(2^m:Nat)-((fstL l m+bf l m:Nat):Int)
theorem amy (l:List Nat) (m:Nat):fR l (m+1)=2*fR l m-(bf l (m+1):Int):=by
 unfold fR
 cases m with
 | zero=>simp[fstL]
 | succ m=>
  rw[if_neg (by omega),if_neg (by omega)]
  simp only[fstL]
  rw[Nat.pow_succ 2 (m+1)]
  omega
theorem room_le (l:List Nat) {m:Nat} (h:m≤15):fR l m≤32768:=by
 unfold fR
 have:(2:Nat)^m≤2^15:=Nat.pow_le_pow_right (by decide) h
 split<;>omega
theorem amx (l:List Nat) {m:Nat} (h1:1≤m) (h2:m≤15) (h:fR l m<0):32768<cf l:=by
 refine Nat.lt_of_not_le fun hc=>?_
 have:=rA hc h1 h2
 unfold fR at h
 rw[if_neg (by omega)]at h
 omega
theorem room_end (l:List Nat):fR l 15=32768-(cf l:Int):=by
 unfold fR cf
 rw[if_neg (by omega)]
 rfl
theorem oH (l:List Nat) (hl:∀n∈l,n≤15) (hn:l.length≤320):Eng.Spec Tryz.prog 176 [] [.ro 1 (ak l)] (fun h r _=>h=[]∧r=if bu l then .ai [bm l,.int .i64 0]else .ai [.lit (.pointer none),.int .i64 4]):=by
 refine Cod.M5 (fun E R hN hR=>?_)
 have hnl:=bS l
 refine bo @bS @eU ?_
 refine gG ?_
 refine aZ hN (fun k:Nat=>⟨[(0,.ro 1 (ak l)),(4,.ab 49018 0),(19,.ro 1 (ak l)),(20,.int .i64 l.length),(21,.int .i64 k)],[(49018,.var (.sl 49016 0 l.length::(cW (l.take k)++[.aj]))),(49016,.arr 1 (ak l))]⟩) (fun k=>k≤l.length) (fun k=>l.length-k) 0 (.le (by simp(disch:=first | omega | (simp only[Lx];omega))only[go_sem,simprocAttr,bS];rfl)) (by omega) ?_
 rintro k R1 hk hR1
 have hcl:=jl (l.take k)
 by_cases hlt:k<l.length
 ·have hx:=jq hl k
  have htk:=dp l 0 hlt
  have hcs:=G8 (l.take k) (x:=l.getD k 0) (by omega)
  have hcb:=kD (l.take k) (l.getD k 0)
  rw[List.length_take]at hcb
  rw[←htk]at hcs
  generalize hc:l.getD k 0=x at *
  simp(disch:=first | omega | (simp only[Lx];omega))only[go_sem,simprocAttr,bS,dJ,hc,rK,xO,kE,XG,Nat.mul_one]
  refine gG ?_
  rw[hcs]
  exact hR1 (k+1) _ (by omega) (by omega) (.le vV)
 ·obtain rfl:k=l.length:=by omega
  refine au @bS ?_
  have hcl:=jl l
  refine aZ hN (fun m:Nat=>⟨[(0,.ro 1 (ak l)),(4,.ab 49018 0),(7,.int .i64 (fR l m)),(8,.int .i64 (bK l (m+1):Nat)),(9,.int .i64 ((m:Int)+1))],
   [(49018,.var (.sl 49016 0 l.length::(cW l++[.sl 49082 0 (sortL l m).length]))),(49016,.arr 1 (ak l)),(49082,.arr 1 (ak (sortL l m)))]⟩) (fun m=>m≤15∧0≤fR l m) (fun m=>15-m) 0
   (.la 49018 17 49082 1 (.sl 49016 0 l.length::(cW l++[.aj])) rfl (I7 hcl) rfl (.le (by simp(disch:=first | omega | (simp only[Lx];omega))only[go_sem,simprocAttr,List.map_append,uN,I9,sortL,hC,fR,bK]))) ⟨by omega,by show(0:Int)≤1;decide⟩ ?_
  rintro m R2 ⟨hm,hr⟩ hR2
  by_cases hlt:m<15
  ·have hst:=amy l m
   have hrl:=room_le l hm
   have hcb:=kD l (m+1)
   have hpb:=rY l (m+1)
   have hpb2:l.length*(m+1)≤320*16:=Nat.mul_le_mul hn (by omega)
   have hsl:=ki l m
   refine cO @bS @rK @xO @kE @Nat.mul_one ?_
   rw[←hst]
   refine kW (fun hneg=>?_) (fun hneg=>?_)
   ·have hbad:=amx l (by omega) (by omega) hneg
    have hck:bu l=false:=by unfold bu;rw[decide_eq_false (by omega)];rfl
    refine au hck ?_
    exact hR.ro ⟨rfl,by rw[hck];rfl⟩
   ·refine au @bS ?_
    refine aZ hN (fun k:Nat=>⟨[(0,.ro 1 (ak l)),(4,.ab 49018 0),(7,.int .i64 (fR l (m+1))),(8,.int .i64 (bK l (m+2):Nat)),(9,.int .i64 ((m:Int)+1)),(65,.ro 1 (ak l)),(66,.int .i64 l.length),(67,.int .i64 k)],
     [(49018,.var (.sl 49016 0 l.length::(cW l++[.sl 49082 0 (sortL l m++jd l (m+1) k).length]))),(49016,.arr 1 (ak l)),(49082,.arr 1 (ak (sortL l m++jd l (m+1) k)))]⟩) (fun k=>k≤l.length) (fun k=>l.length-k) 0
     (.le (by simp(disch:=first | omega | (simp only[Lx];omega))only[go_sem,simprocAttr,jd,List.range_zero,List.filter_nil,List.append_nil,bK])) (by omega) ?_
    rintro k R3 hk hR3
    by_cases hlt3:k<l.length
    ·have htl:=arz l (m+1) k
     have hsu:=arA l (m+1) k
     by_cases hx:l.getD k 0=m+1
     ·rw[if_pos hx]at hsu
      simp(disch:=first | omega | (simp only[Lx];omega))only[go_sem,simprocAttr,bS,dJ,hx,vl,eU,eK,List.map_append,uN,I8]
      refine hR3 (k+1) _ (by omega) (by omega) (.le ?_)
      rw[hsu,←List.append_assoc,←eT]
      exact dA @bS
     ·rw[if_neg hx,List.append_nil]at hsu
      refine cO @bS @dJ @vl @eU @eK ?_
      exact hR3 (k+1) _ (by omega) (by omega) (.le (by rw[hsu];exact vV))
    ·obtain rfl:k=l.length:=by omega
     refine au @bS ?_
     refine hR2 (m+1) _ (by omega) ⟨by omega,by omega⟩ (.le ?_)
     rw[ary]
     simp(disch:=first | omega | (simp only[Lx];omega))only[go_sem,simprocAttr,sortL]
  ·obtain rfl:m=15:=by omega
   have hre:=room_end l
   have hpn:=rZ l hl
   have hsl:=ki l 15
   have yes:bu l=true→R [(49018,.var (.sl 49016 0 l.length::(cW l++[.sl 49082 0 (sortL l 15).length]))),(49016,.arr 1 (ak l)),(49082,.arr 1 (ak (sortL l 15)))] (.ai [.ab 49018 0,.int .i64 0]) [.undef]:=by
    intro hck
    rw[hck]at hR
    refine hR.wk (h':=[]) (r':=.ai [bm l,.int .i64 0]) (ar':=[.undef]) rfl (.bw 49016 (.bw 49082 (.om 0 0 49018 [.ab 49018 0,.int .i64 0] (gl l) vV (by rfl) ?_ ?_ (.le ?_)))) ⟨rfl,by rfl⟩
    ·simp(disch:=first | omega | (simp only[Lx];omega))only[go_sem,simprocAttr,List.map_append,G6,eK,bS,gH,gl]
    ·simp[gl,noRefC,G7]
    ·simp(disch:=first | omega | (simp only[Lx];omega))only[go_sem,simprocAttr,bm]
   have no:bu l=false→∀h,R h (.ai [.lit (.pointer none),.int .i64 4]) [.undef]:=by
    intro hck h
    rw[hck]at hR
    exact hR.ro ⟨rfl,rfl⟩
   have hp16:bK l (15+1)=cc l:=hpn
   have hone:∀x,((cW l++[x]).drop 1).getD 0 .undef=.int .i64 (bf l 1:Nat):=fun x=>by
    have:=rK (a:=.undef) (b:=x) (xs:=cW l) (i:=1) (by omega)
    rw[kE l (by omega)]at this
    exact this
   have honl:∀x,0<((cW l++[x]).drop 1).length:=fun x=>by simp;omega
   by_cases ha:0<fR l 15
   ·by_cases hb:cc l=0
    ·have hck:bu l=true:=by unfold bu;rw[decide_eq_true (show cf l≤32768 by omega),decide_eq_true hb];simp
     refine bo hp16 hb ?_
     refine gG ?_
     exact yes hck
    ·by_cases hc:cc l=1
     ·by_cases hd:bf l 1=1
      ·have hck:bu l=true:=by unfold bu;rw[decide_eq_true (show cf l≤32768 by omega),decide_eq_true hc,decide_eq_true hd];simp
       refine cO hp16 hc hone honl hd ?_
       refine fK hone honl hd ?_
       exact yes hck
      ·have hck:bu l=false:=by unfold bu;rw[decide_eq_false (show ¬cf l=32768 by omega),decide_eq_false hb,decide_eq_false hd];simp
       refine dE hp16 hc hone honl ?_
       refine dS hone honl ?_
       exact no hck _
     ·have hck:bu l=false:=by unfold bu;rw[decide_eq_false (show ¬cf l=32768 by omega),decide_eq_false hb,decide_eq_false hc];simp
      refine au hp16 ?_
      refine gG ?_
      exact no hck _
   ·have hck:bu l=true:=by unfold bu;rw[decide_eq_true (show cf l≤32768 by omega),decide_eq_true (show cf l=32768 by omega)];simp
    refine au hp16 ?_
    refine gG ?_
    exact yes hck
theorem ak3 {l:List Nat} (h:cc l=0) (b:List Bool):readL (aN l) b=(0,0,3):=by
 have h0:∀s,s<l.length→l.getD s 0=0:=by
  intro s hs
  refine Nat.eq_zero_of_not_pos fun hp=>?_
  unfold cc at h
  have:=List.countP_eq_zero.1 h (l.getD s 0) (by rw[List.getD_eq_getElem?_getD,List.getElem?_eq_getElem hs];exact List.getElem_mem hs)
  simp[-List.getD_eq_getElem?_getD]at this
  omega
 unfold readL
 rw[qN (fun s hs=>q7 (h0 s hs))]
 simp only
 rw[if_pos]
 rw[List.all_eq_true]
 intro c hc
 obtain⟨s,hs,rfl⟩:=List.mem_map.1 hc
 unfold cr
 rw[if_pos (h0 s (List.mem_range.1 hs))];rfl
theorem or_bit {c b:Nat} (hc:c<32768) (hb:b≤1):bits .or .i64 (IntKind.i64.wrap ((c:Int)*2^min 1 64)) (b:Int)=((2*c+b:Nat):Int):=by
 rw[show((c:Int)*2^min 1 64)=((c*2:Nat):Int)by push_cast;rfl,ji (by omega)]
 show IntKind.i64.wrap ((BitVec.ofInt 64 ((c*2:Nat):Int) ||| BitVec.ofInt 64 (b:Int)).toNat:Int)=_
 rw[BitVec.ofInt_natCast,BitVec.ofInt_natCast,BitVec.toNat_or,BitVec.toNat_ofNat,BitVec.toNat_ofNat,Nat.mod_eq_of_lt (by omega),Nat.mod_eq_of_lt (by omega)]
 have h1:c*2 ||| b=2*c+b:=by
  have:=Nat.shiftLeft_add_eq_or_of_lt (b:=b) (i:=1) (by omega) c
  rw[Nat.shiftLeft_eq]at this
  rw[show c*2=c*2^1 by rfl,←this]
  omega
 rw[h1]
 exact ji (by omega)
theorem sT (l:List Nat):((gl l).drop 1).take 16=cW l:=by
 unfold gl
 rw[List.drop_succ_cons,List.drop_zero,List.take_left' (jl l)]
theorem arF (l:List Nat):(gl l).getD 17 .undef=.ro 1 (ak (sortL l 15)):=by
 unfold gl
 rw[List.getD_cons_succ,List.getD_eq_getElem?_getD,List.getElem?_append_right (by rw[jl];omega),jl];rfl
theorem arE (l:List Nat):(gl l).length=18:=by simp[gl,jl]
set_option maxHeartbeats 1000000 in
theorem q8 (l:List Nat) (hl:∀n∈l,n≤15) (hll:l.length≤320) (hck:bu l=true) (s:Bs) (a hv fr p:Nat) (hs:s.length≤1000000000000) (h:bI s a hv p):Eng.Spec Tryz.prog 164 [(RD,.var (aW s a hv fr))] [bm l,.ab RD 0]
    (fun h' v ar=>∃a' hv' p' k,bI s a' hv' p'∧h'=[(RD,.var (aW s a' hv' fr))]∧v=.ai [.int .i64 (k:Nat),.int .i64 ((readL (aN l) (bq s p)).2.2:Nat)] ∧
     ((readL (aN l) (bq s p)).2.2=0→k=(readL (aN l) (bq s p)).1∧p'=p+(readL (aN l) (bq s p)).2.1)∧ar=[bm l,.ab RD 0]):=by
 have hc:cf l≤32768:=by unfold bu at hck;simp at hck;exact hck.1
 refine Cod.NA (fun E R hN hR=>?_)
 have hsl:=ki l 15
 have hpn:=rZ l hl
 have hp16:bK l (15+1)=cc l:=hpn
 have htl:=arE l
 have hnum:cc l≤l.length:=List.countP_le_length
 have hts:=arF l
 have hnl:=bS (sortL l 15)
 have hso:∃so,sortL l 15=so:=⟨_,rfl⟩
 obtain⟨so,hso⟩:=hso
 rw[hso]at hsl hts hnl
 by_cases h0:cc l=0
 ·have hr:=ak3 h0 (bq s p)
  rw[hr]at hR
  simp(disch:=omega)only[go_sem,simprocAttr,bm,htl,hts,hnl,hsl,hp16,h0]
  exact hR.le vV ⟨a,hv,p,0,h,rfl,rfl,fun e=>by simp at e,rfl⟩
 ·simp(disch:=omega)only[go_sem,simprocAttr,bm,htl,hts,hnl,hsl,hp16,h0]
  have hbl:=ja s p
  generalize hb:bq s p=b at *
  refine aZ hN (fun q:Nat×Nat×Nat=>⟨[(0,.aw (.agg (gl l))),(1,.ab 40014 0),(6,.int .i64 (msb (b.take q.1):Nat)),(7,.int .i64 (fstL l (q.1+1):Nat)),(8,.int .i64 (bK l (q.1+1):Nat)),(9,.int .i64 ((q.1:Int)+1)),
   (2000000,.aw (.agg (gl l))),(2000001,.ab 40014 0)],[(40014,.var (aW s q.2.1 q.2.2 fr))]⟩)
   (fun q=>q.1<15∧bI s q.2.1 q.2.2 (p+q.1)∧q.1≤cY s p∧kv l b (q.1+1)∧fstL l (q.1+1)≤2*msb (b.take q.1)∧bK l (q.1+1)<cc l) (fun q=>15-q.1) (0,a,hv)
   (.le (by simp(disch:=omega)only[go_sem,simprocAttr,msb,List.foldl_nil,fstL,bK])) ⟨by omega,h,by omega,fun s _ h1 h2=>by omega,by simp[fstL],by simp only[bK];omega⟩ ?_
  rintro⟨n,a,hv⟩ R1 ⟨hn,hrd,hlb,hno,hj,hpre⟩ hR1
  simp only at hn hrd hlb hno hj hpre
  have hmt:=xS (b.take n)
  have hmt2:2^(b.take n).length≤2^15:=Nat.pow_le_pow_right (by decide) (by rw[List.length_take];omega)
  have hkr:=rA hc (n:=n+1) (by omega) (by omega)
  have hk2:2^(n+1)≤2^15:=Nat.pow_le_pow_right (by decide) (by omega)
  simp(disch:=omega)only[go_sem,simprocAttr,bm]
  refine aU [(RD,.var (aW s a hv fr))] (pq s a hv fr (p+n) 1 hs hrd (by omega)) vV nofun ?_
  rintro h' v ar ⟨a',hv',hrd',rfl,rfl,rfl⟩
  refine⟨cm,rfl,?_⟩
  unfold cY at hlb
  by_cases hbit:1≤cY s (p+n)
  ·rw[if_pos hbit]at hrd'
   have hbit2:=hbit
   unfold cY at hbit2
   have hbn:n<b.length:=by omega
   have hget:b.getD n false=fH s (p+n):=by rw[←hb];exact zR s p (by omega)
   have hms:=rL b n hbn
   rw[hget,←Yv]at hms
   have hx1:=fy s (p+n) 1
   have hle:=Xx hbn hj
   have hob:=or_bit (c:=msb (b.take n)) (b:=numAt s (p+n) 1) (by omega) (by omega)
   rw[←hms]at hob
   have hcl:=jl l
   have hpb:=rY l (n+1)
   have hpm:=mj l (n+2) (16-(n+2))
   rw[show n+2+(16-(n+2))=16 by omega,hpn]at hpm
   have hps:bK l (n+2)=bK l (n+1)+bf l (n+1):=rfl
   have hfs:fstL l (n+2)=2*(fstL l (n+1)+bf l (n+1)):=rfl
   refine lz hbit hob @sT htl hcl @kE ?_
   refine kW (fun hk=>?_) (fun hk=>?_)
   ·obtain⟨k,hke⟩:∃k,msb (b.take (n+1))=fstL l (n+1)+k:=⟨msb (b.take (n+1))-fstL l (n+1),by omega⟩
    obtain⟨sy,g1,g2,g3⟩:=XA hc hl hn hbn hno hj hke (by omega)
    rw[hso]at g1
    rw[g3]at hR
    have ei:((bK l (n+1):Nat):Int)+(((msb (b.take (n+1)):Nat):Int)-((fstL l (n+1):Nat):Int))=((bK l (n+1)+k:Nat):Int):=by omega
    simp(disch:=omega)only[go_sem,simprocAttr,hts,htl,hnl,hsl,hp16,ei,dJ,g1]
    exact hR.le (by simp(disch:=omega)only[go_sem,simprocAttr,bm]) ⟨a',hv',p+n+1,sy,hrd',rfl,rfl,fun _=>⟨rfl,by show _=p+(n+1);omega⟩,rfl⟩
   ·obtain⟨g1,g2⟩:=Xy hc hl hn hbn hno (by omega)
    have hw2:(((fstL l (n+1):Nat):Int)+((bf l (n+1):Nat):Int))*2^min 1 64=((fstL l (n+2):Nat):Int):=by
     rw[hfs,show(2:Int)^min 1 64=2 by decide];push_cast;omega
    have ha2:((bK l (n+1):Nat):Int)+((bf l (n+1):Nat):Int)=((bK l (n+2):Nat):Int):=by rw[hps];push_cast;rfl
    by_cases hend:bK l (n+2)=cc l
    ·have hr:=Xz (b:=b) hl (n:=n+1) (by omega) (by omega) hend (by omega) g1
     rw[hr]at hR
     simp(disch:=omega)only[go_sem,simprocAttr,sT,hts,htl,hcl,kE,hw2,ha2,hnl,hsl,hp16,hend]
     exact hR.le (by simp(disch:=omega)only[go_sem,simprocAttr,bm]) ⟨a',hv',p+n+1,0,hrd',rfl,rfl,fun e=>by simp at e,rfl⟩
    ·have hne:¬((bK l (n+2):Nat):Int)=((cc l:Nat):Int):=by omega
     have hn15:n+1<15:=by
      refine Nat.lt_of_not_le fun hh=>?_
      have:n=14:=by omega
      subst this
      exact hend hpn
     simp(disch:=omega)only[go_sem,simprocAttr,sT,hts,htl,hcl,kE,hw2,ha2,hnl,hsl,hp16,hne]
     exact hR1 (n+1,a',hv') _ (by simp only;omega) ⟨hn15,hrd',by simp only[cY];omega,g1,g2,by show bK l (n+2)<_;omega⟩ (.le vV)
  ·have hbn:b.length=n:=by unfold cY at hbit;omega
   rw[if_neg hbit]at hrd'
   have hr:=Xw (b:=b) hl hck (by omega) (by rw[hbn];exact hpre) (by rw[hbn];exact hno) (by rw[List.take_of_length_le (by omega)]at hj;rw[hbn];exact hj)
   rw[hr]at hR
   refine au hbit ?_
   exact hR.le vV ⟨a',hv',p+n,0,hrd',rfl,rfl,fun e=>by simp at e,rfl⟩
def bZ (xs:List Bool):List AV:=xs.map AV.bool
theorem iq (xs:List Bool):(bZ xs).length=xs.length:=by simp[bZ]
theorem rQ {xs:List Bool} {i:Nat} (h:i<xs.length):nth (bZ xs) i=.bool (xs.getD i false):=by
 simp[nth,bZ,List.getD_eq_getElem?_getD,h]
theorem uj {xs:List Bool}:(bZ xs).all aY=true:=by simp[bZ,aY,cellsOf,isCell]
theorem Fg {xs:List Bool} {c:Bool}:bZ xs++[.bool c]=bZ (xs++[c]):=by simp[bZ]
theorem Fh {xs:List Bool} {c:Bool}:.bool c::bZ xs=bZ (c::xs):=by simp[bZ]
theorem jP {xs:List Bool} {o n:Nat}:aI (bZ xs) o n=bZ ((xs.drop o).take n):=by simp[bZ,aI]
theorem um:bZ []=[]:=(rfl)
def gQ (s:Bs) (n:Nat):List Bool:=(List.range n).map (fH s)
theorem Eg (s:Bs) (n:Nat):(gQ s n).length=n:=by simp[gQ]
theorem Ej (s:Bs) (n:Nat):gQ s (n+1)=gQ s n++[fH s n]:=by simp[gQ,List.range_succ]
theorem Eh (s:Bs):gQ s (8*s.length)=bq s 0:=by simp[gQ,bq]
theorem Ee (c:UInt8) (k:Nat) (hk:k<8):decide (bits .and .u8 ((c.toNat:Int).fdiv (2^min k 64)) 1=1)=c.toNat.testBit k:=by
 have hc:=c.toNat_lt
 have e1:(c.toNat:Int).fdiv (2^min k 64)=((c.toNat/2^k:Nat):Int):=by
  rw[Nat.min_eq_left (by omega),Int.fdiv_eq_ediv_of_nonneg _ (Int.pow_nonneg (by decide)),Int.natCast_ediv,Int.natCast_pow];rfl
 have hd:c.toNat/2^k<256:=Nat.lt_of_le_of_lt (Nat.div_le_self _ _) (by omega)
 have e2:bits .and .u8 ((c.toNat/2^k:Nat):Int) 1=((c.toNat/2^k%2:Nat):Int):=by
  show IntKind.u8.wrap ((BitVec.ofInt 8 ((c.toNat/2^k:Nat):Int) &&& BitVec.ofInt 8 1).toNat:Int)=_
  rw[BitVec.ofInt_natCast,BitVec.toNat_and,BitVec.toNat_ofNat,Nat.mod_eq_of_lt (by omega),show(BitVec.ofInt 8 1).toNat=2^1-1 by decide,Nat.and_two_pow_sub_one_eq_mod]
  exact wrap_u8 (by omega)
 rw[e1,e2,Nat.testBit_eq_decide_div_mod_eq]
 exact decide_eq_decide.2 (by omega)
theorem Ef (c:UInt8) (k:Nat) (hk:k<8):(decide (bits .and .u8 ((c.toNat:Int).fdiv (2^min k 8)) 1=1))=c.toNat.testBit k:=by
 have:=Ee c k hk
 rw[Nat.min_eq_left (by omega)]at this ⊢
 exact this
theorem aaB (s:Bs) (hs:s.length≤1000000):aM Tryz.prog 92 [.str s] (.ro 1 (bZ (bq s 0))):=by
 refine Cod.aaC (fun E R hN hR=>?_)
 refine wW ?_
 refine aZ hN (fun k:Nat=>⟨[(0,.str s),(3,.sl 51006 0 (8*k)),(4,.int .i64 k)],[(51006,.arr 1 (bZ (gQ s (8*k))))]⟩) (fun k=>k≤s.length) (fun k=>s.length-k) 0 (.le (by simp(disch:=omega)only[go_sem,simprocAttr,gQ,List.range_zero,um])) (by omega) ?_
 rintro k R1 hk hR1
 by_cases hlt:k<s.length
 ·refine wW ?_
  refine aZ hN (fun j:Nat=>⟨[(0,.str s),(3,.sl 51006 0 (8*k+j)),(4,.int .i64 k),(5,.int .i64 j)],[(51006,.arr 1 (bZ (gQ s (8*k+j))))]⟩) (fun j=>j≤8) (fun j=>8-j) 0 (.le vV) (by omega) ?_
  rintro j R2 hj hR2
  have hbl:=Eg s (8*k+j)
  have hbl2:=iq (gQ s (8*k+j))
  by_cases hj8:j<8
  ·have hb:=Ef (s.getD k 0) j hj8
   have hbt:fH s (8*k+j)=(s.getD k 0).toNat.testBit j:=by unfold fH;rw[show(8*k+j)/8=k by omega,show(8*k+j)%8=j by omega]
   rw[←hbt]at hb
   refine cO @jP @uj @gH hb @Fg ?_
   refine hR2 (j+1) _ (by omega) (by omega) (.le ?_)
   rw[show 8*k+(j+1)=8*k+j+1 by omega,Ej]
   exact vV
  ·obtain rfl:j=8:=by omega
   refine wW ?_
   exact hR1 (k+1) _ (by omega) (by omega) (.le (by rw[show 8*(k+1)=8*k+8 by omega];exact vV))
 ·obtain rfl:k=s.length:=by omega
  have ht:(bq s 0).take (8*s.length)=bq s 0:=List.take_of_length_le (by rw[ja];omega)
  refine wW ?_
  exact hR.wk (h':=[]) (r':=.ro 1 (bZ (bq s 0))) (ar':=[.undef]) rfl (.bw 51006 (.le (sV @jP @Eh ht))) ⟨rfl,rfl⟩
def fO (b:List Bool):Nat:=b.foldr (fun c a=>2*a+c.toNat) 0
theorem Yp (b:List Bool):fO b<2^b.length:=by
 induction b with
 | nil=>simp[fO]
 | cons c b ih=>
  have h1:fO (c::b)=2*fO b+c.toNat:=rfl
  have:c.toNat≤1:=by cases c<;>decide
  rw[h1,List.length_cons,Nat.pow_succ];omega
theorem Yq (b:List Bool) (c:Bool):fO (b++[c])=fO b+if c then 2^b.length else 0:=by
 induction b with
 | nil=>cases c<;>rfl
 | cons d b ih=>
  have h1:∀b,fO (d::b)=2*fO b+d.toNat:=fun _=>rfl
  rw[List.cons_append,h1,h1,ih,List.length_cons,Nat.pow_succ]
  split<;>omega
theorem yb (s:Bs) (p:Nat):∀n,p+n≤8*s.length→fO ((bq s p).take n)=numAt s p n
 | 0,_=>rfl
 | n+1,h=>by
  have hl:=ja s p
  rw[dp (bq s p) false (by omega),Yq,yb s p n (by omega),zR s p (by omega),List.length_take,hl,Nat.min_eq_left (by omega)]
  rfl
theorem aaR (b:List Bool) (hb:b.length≤31):aM Tryz.prog 143 [.ro 1 (bZ b)] (.int .u32 (fO b:Nat)):=by
 refine Cod.aaS (fun E R hN hR=>?_)
 have hbl:=iq b
 refine au hbl ?_
 refine aZ hN (fun k:Nat=>⟨[(0,.ro 1 (bZ b)),(3,.int .u32 (fO (b.drop k):Nat)),(4,.int .i64 ((k:Int)-1))],[]⟩) (fun k=>k≤b.length) (fun k=>k) b.length (.le (by simp(disch:=omega)only[go_sem,simprocAttr,va,fO,List.foldr_nil])) (by omega) ?_
 rintro k R1 hk hR1
 cases k with
 | zero=>
  refine wW ?_
  exact hR.ro ⟨rfl,rfl⟩
 | succ k=>
  have hx:=Yp (b.drop (k+1))
  have hx2:2^(b.drop (k+1)).length≤2^30:=Nat.pow_le_pow_right (by decide) (by rw[List.length_drop];omega)
  have hd:fO (b.drop k)=2*fO (b.drop (k+1))+(b.getD k false).toNat:=by rw[Im false b (by omega)];rfl
  have ek:(k:Int)+1-1=(k:Int):=by omega
  refine cN ek @rQ hbl ?_
  cases hc:b.getD k false with
  | false=>
   rw[hc]at hd
   refine wW ?_
   exact hR1 k _ (by omega) (by omega) (.le (by rw[hd];simp(disch:=omega)only[go_sem,simprocAttr];push_cast;rfl))
  | true=>
   rw[hc]at hd
   refine wW ?_
   exact hR1 k _ (by omega) (by omega) (.le (by rw[hd];simp(disch:=omega)only[go_sem,simprocAttr];push_cast;rfl))
theorem Zp (i:Nat) (h:i<15):(((32768/2^i:Nat):Int)).tdiv 2=((32768/2^(i+1):Nat):Int):=by
 rw[Nat.pow_succ,←Nat.div_div_eq_div_mul]
 generalize 32768/2^i=q
 rw[jC (by omega)];omega
theorem Zo (n:Nat) (h:n≤15):32768/2^n=2^(15-n):=by
 have h1:32768=2^(15-n)*2^n:=by rw[←Nat.pow_add,show 15-n+n=15 by omega]
 rw[h1,Nat.mul_div_cancel _ (Nat.pow_pos (by decide))]
theorem Yw (l:List Nat) (x:Nat):cc (l++[x])=cc l+if 0<x then 1 else 0:=by
 simp only[cc,List.countP_append,List.countP_singleton,decide_eq_true_eq]
theorem arK (l:List Nat):cf l≤32768*l.length:=by
 refine sK (p:=fun l=>cf l≤32768*l.length) (by simp[cf,fstL,bf]) (fun l x h=>?_) l
 rw[Bk,List.length_append,List.length_singleton]
 have:(2:Nat)^(15-x)≤2^15:=Nat.pow_le_pow_right (by decide) (by omega)
 split<;>omega
set_option maxHeartbeats 1000000 in
theorem r6 (l:List Nat) (hl:∀n∈l,n≤15) (hn:l.length≤320):aM Tryz.prog 148 [.ro 1 (ak l)] (.int .i64 (if bu l then 0 else 4:Nat)):=by
 refine Cod.abQ (fun E R hN hR=>?_)
 have hnl:=bS l
 refine au hnl ?_
 refine aZ hN (fun k:Nat=>⟨[(3,.int .i64 (cf (l.take k):Nat)),(4,.int .i64 (cc (l.take k):Nat)),(5,.int .i64 (bf (l.take k) 1:Nat)),(13,.ro 1 (ak l)),(14,.int .i64 l.length),(15,.int .i64 k)],[]⟩) (fun k=>k≤l.length) (fun k=>l.length-k) 0 (.le (by simp(disch:=omega)only[go_sem,simprocAttr,cf,cc,bf,fstL];simp)) (by omega) ?_
 rintro k R1 hk hR1
 have ht:=arK (l.take k)
 have hc1:=kD (l.take k) 1
 have hnm:cc (l.take k)≤(l.take k).length:=List.countP_le_length
 rw[List.length_take]at ht hc1 hnm
 have hmin:32768*min k l.length≤32768*320:=Nat.mul_le_mul_left _ (by omega)
 by_cases hlt:k<l.length
 ·have hx:=jq hl k
  have htk:=dp l 0 hlt
  have hts:=Bk (l.take k) (l.getD k 0)
  have hns:=Yw (l.take k) (l.getD k 0)
  have hcs:=jk (l.take k) (l.getD k 0) 1
  rw[←htk]at hts hns hcs
  generalize hc:l.getD k 0=x at *
  have next:(∀t c o:Nat,t=cf (l.take (k+1))→c=cc (l.take (k+1))→o=bf (l.take (k+1)) 1→∀s,s=[(3,AV.int .i64 (t:Int)),(4,.int .i64 (c:Int)),(5,.int .i64 (o:Int)),(13,.ro 1 (ak l)),(14,.int .i64 l.length),(15,.int .i64 ((k:Int)+1))]→R1.ap ⟨s,[]⟩):=by
   rintro t c o rfl rfl rfl s rfl
   exact hR1 (k+1) _ (by omega) (by omega) (.le vV)
  by_cases h0:0<x
  ·rw[if_pos ⟨by omega,hx⟩]at hts
   rw[if_pos h0]at hns
   refine cN hnl @dJ hc ?_
   refine gG ?_
   refine aZ hN (fun i:Nat=>⟨[(3,.int .i64 (cf (l.take k):Nat)),(4,.int .i64 ((cc (l.take k):Nat)+1)),(5,.int .i64 (bf (l.take k) 1:Nat)),(7,.int .i64 x),(8,.int .i64 (32768/2^i:Nat)),(9,.int .i64 i),(13,.ro 1 (ak l)),(14,.int .i64 l.length),(15,.int .i64 k)],[]⟩) (fun i=>i≤x) (fun i=>x-i) 0 (.le vV) (by omega) ?_
   rintro i R2 hi hR2
   by_cases hix:i<x
   ·have hp:=Zp i (by omega)
    have hpl:32768/2^i≤32768:=Nat.div_le_self _ _
    have hpl2:32768/2^(i+1)≤32768:=Nat.div_le_self _ _
    have hR3:=hR2 (i+1)
    generalize 32768/2^(i+1)=q2 at *
    generalize 32768/2^i=q at *
    refine au hp ?_
    exact hR3 _ (by omega) (by omega) (.le vV)
   ·obtain rfl:i=x:=by omega
    have hp:=Zo i (by omega)
    have hp2:(2:Nat)^(15-i)≤2^15:=Nat.pow_le_pow_right (by decide) (by omega)
    rw[hp]at *
    generalize 2^(15-i)=q at *
    by_cases h1:i=1
    ·rw[if_pos h1]at hcs
     refine au h1 ?_
     exact next (cf (l.take k)+q) (cc (l.take k)+1) (bf (l.take k) 1+1) (by omega) (by omega) (by omega) _ vV
    ·rw[if_neg h1]at hcs
     refine wW ?_
     exact next (cf (l.take k)+q) (cc (l.take k)+1) (bf (l.take k) 1) (by omega) (by omega) (by omega) _ vV
  ·rw[if_neg (by omega)]at hts
   rw[if_neg h0]at hns
   rw[if_neg (by omega)]at hcs
   refine cN hnl @dJ hc ?_
   refine gG ?_
   exact next (cf (l.take k)) (cc (l.take k)) (bf (l.take k) 1) (by omega) (by omega) (by omega) _ rfl
 ·obtain rfl:k=l.length:=by omega
  rw[List.take_of_length_le (Nat.le_refl _)]at ht hc1 hnm ⊢
  have go:∀b:Bool,bu l=b→∀h,R h (.int .i64 (if b then 0 else 4:Nat)) [.undef]:=fun b hb h=>hR.ro ⟨rfl,by rw[hb]⟩
  unfold bu at go
  by_cases h1:cf l≤32768
  ·rw[decide_eq_true h1]at go
   by_cases h2:cf l=32768
   ·rw[decide_eq_true h2]at go
    refine au hnl ?_
    refine gG ?_
    exact go true (by simp) _
   ·rw[decide_eq_false h2]at go
    by_cases h3:cc l=0
    ·rw[decide_eq_true h3]at go
     refine bo hnl h3 ?_
     refine gG ?_
     exact go true (by simp) _
    ·rw[decide_eq_false h3]at go
     by_cases h4:cc l=1
     ·rw[decide_eq_true h4]at go
      by_cases h5:bf l 1=1
      ·rw[decide_eq_true h5]at go
       refine cN hnl h4 h5 ?_
       refine gG ?_
       exact go true (by simp) _
      ·rw[decide_eq_false h5]at go
       refine bo hnl h4 ?_
       refine gG ?_
       exact go false (by simp) _
     ·rw[decide_eq_false h4]at go
      refine au hnl ?_
      refine gG ?_
      exact go false (by simp) _
  ·rw[decide_eq_false h1]at go
   refine au hnl ?_
   refine gG ?_
   exact go false (by simp) _
def cA (c:List Bool):AV:=
 match c with
 | []=>.aj
 | x::r=>.ro 1 (bZ (x::r))
theorem nB {c:List Bool} (h:0<c.length):cA c=.ro 1 (bZ c):=by
 cases c with
 | nil=>simp at h
 | cons x r=>rfl
def bD (cs:List (List Bool)):List AV:=cs.map cA
theorem qz (cs:List (List Bool)):(bD cs).length=cs.length:=by simp[bD]
theorem lg {cs:List (List Bool)} {i:Nat} (h:i<cs.length):nth (bD cs) i=cA (cs.getD i []):=by
 simp[nth,bD,List.getD_eq_getElem?_getD,h]
theorem FY (c:List Bool):isCell (cA c)=true:=by cases c<;>rfl
theorem uF (c:List Bool):cellsOf (cA c)=[cA c]:=by cases c<;>rfl
theorem G9 {cs:List (List Bool)}:(bD cs).all aY=true:=by
 simp only[bD,List.all_map,List.all_eq_true,Function.comp,aY]
 intro c _
 rw[uF];simp[FY]
theorem Ha {cs:List (List Bool)} {i:Nat} {c:List Bool}:(bD cs).set i (cA c)=bD (cs.set i c):=by simp[bD,List.map_set]
def dK (l:List Nat) (n k:Nat):List (List Bool):=(List.range l.length).map fun j=>if l.getD j 0≠0∧(l.getD j 0<n∨(l.getD j 0=n∧j<k))then cr l j else[]
theorem pc (l:List Nat) (n k:Nat):(dK l n k).length=l.length:=by simp[dK]
theorem Zi (l:List Nat):dK l 1 0=List.replicate l.length []:=by
 unfold dK
 rw[List.map_congr_left (g:=fun _=>[]) (fun j _=>by rw[if_neg];omega),List.map_const',List.length_range]
theorem Zf (l:List Nat) (n:Nat):dK l n l.length=dK l (n+1) 0:=by
 unfold dK
 refine List.map_congr_left fun j hj=>?_
 have:=List.mem_range.1 hj
 by_cases h:l.getD j 0≠0∧(l.getD j 0<n∨(l.getD j 0=n∧j<l.length))
 ·rw[if_pos h,if_pos ⟨h.1,by omega⟩]
 ·rw[if_neg h,if_neg (by omega)]
theorem Ze (l:List Nat) (hl:∀n∈l,n≤15):dK l 16 0=aN l:=by
 unfold dK aN
 refine List.map_congr_left fun j _=>?_
 have:=jq hl j
 by_cases h:l.getD j 0≠0
 ·rw[if_pos ⟨h,.inl (by omega)⟩]
 ·rw[if_neg (fun g=>h g.1)]
  unfold cr
  rw[if_pos (by omega)]
theorem Zh (l:List Nat) (n k:Nat) (h:l.getD k 0≠n):dK l n (k+1)=dK l n k:=by
 unfold dK
 refine List.map_congr_left fun j _=>?_
 by_cases hj:j=k
 ·subst hj
  by_cases h1:l.getD j 0≠0∧l.getD j 0<n
  ·rw[if_pos ⟨h1.1,.inl h1.2⟩,if_pos ⟨h1.1,.inl h1.2⟩]
  ·rw[if_neg (by omega),if_neg (by omega)]
 ·by_cases h1:l.getD j 0≠0∧(l.getD j 0<n∨(l.getD j 0=n∧j<k))
  ·rw[if_pos h1,if_pos ⟨h1.1,by omega⟩]
  ·rw[if_neg h1,if_neg (by omega)]
theorem Zg (l:List Nat) (n k:Nat) (hk:k<l.length) (h0:n≠0) (h:l.getD k 0=n):(dK l n k).set k (cr l k)=dK l n (k+1):=by
 apply List.ext_getElem?
 intro j
 rw[List.getElem?_set,pc]
 by_cases hj:k=j
 ·subst hj
  rw[if_pos rfl,if_pos hk]
  unfold dK
  rw[List.getElem?_map,List.getElem?_range hk]
  simp only[Option.map_some]
  rw[if_pos ⟨by omega,.inr ⟨h,by omega⟩⟩]
 ·rw[if_neg hj]
  by_cases hjl:j<l.length
  ·unfold dK
   rw[List.getElem?_map,List.getElem?_map,List.getElem?_range hjl]
   simp only[Option.map_some]
   by_cases h1:l.getD j 0≠0∧(l.getD j 0<n∨(l.getD j 0=n∧j<k))
   ·rw[if_pos h1,if_pos ⟨h1.1,by omega⟩]
   ·rw[if_neg h1,if_neg (by omega)]
  ·rw[List.getElem?_eq_none (by rw[pc];omega),List.getElem?_eq_none (by rw[pc];omega)]
def jU (l:List Nat) (m:Nat):Nat:=if m=0 then 0 else fstL l m+bf l m
theorem I6 (l:List Nat) (m:Nat):2*jU l m=fstL l (m+1):=by
 unfold jU
 cases m with
 | zero=>rfl
 | succ m=>rw[if_neg (by omega)];rfl
theorem tS:∀(i x:Nat),bitsM x (i+1)=(x/2^i%2==1)::bitsM x i
 | 0,x=>by simp[bitsM]
 | i+1,x=>by
  show bitsM (x/2) (i+1)++[x%2==1]=_
  rw[tS i (x/2)]
  have:x/2/2^i=x/2^(i+1):=by rw[Nat.pow_succ,Nat.mul_comm,Nat.div_div_eq_div_mul]
  rw[this];rfl
theorem vU (l:List Nat):∀n,fstL l (n+1)+bf l (n+1)+l.length≤l.length*2^(n+1)
 | 0=>by have:=kD l 1;simp[fstL];omega
 | n+1=>by
  have h1:=vU l n
  have h2:=kD l (n+2)
  have h3:bf l (n+1+1)=bf l (n+2):=rfl
  simp only[fstL]
  rw[Nat.pow_succ 2 (n+1),←Nat.mul_assoc]
  omega
theorem Ld (l:List Nat) (hn:l.length≤320) {n:Nat} (h1:1≤n) (h:n≤16):fstL l n+bf l n≤20971520:=by
 obtain⟨m,rfl⟩:∃m,n=m+1:=⟨n-1,by omega⟩
 have h2:=vU l m
 have h3:l.length*2^(m+1)≤320*2^16:=Nat.mul_le_mul hn (Nat.pow_le_pow_right (by decide) h)
 omega
set_option maxHeartbeats 1000000 in
theorem r7 (l:List Nat) (hl:∀n∈l,n≤15) (hn:l.length≤320):aM Tryz.prog 145 [.ro 1 (ak l)] (.ro 1 (bD (aN l))):=by
 refine Cod.acB (fun E R hN hR=>?_)
 have hnl:=bS l
 refine au hnl ?_
 refine aZ hN (fun k:Nat=>⟨[(0,.ro 1 (ak l)),(3,.sl 55011 0 k),(13,.int .i64 l.length),(14,.int .i64 k)],[(55011,.arr 1 (List.replicate k .aj))]⟩) (fun k=>k≤l.length) (fun k=>l.length-k) 0 (.le (by simp(disch:=omega)only[go_sem,simprocAttr,List.replicate_zero])) (by omega) ?_
 rintro k R1 hk hR1
 by_cases hlt:k<l.length
 ·have hrc:(List.replicate k AV.aj).all aY=true:=by rw[List.all_replicate];split<;>rfl
  have hrl:(List.replicate k AV.aj).length=k:=List.length_replicate
  have hrs:aI (List.replicate k AV.aj) 0 k=List.replicate k AV.aj:=by simp[aI]
  refine dE hnl hrc hrl hrs ?_
  exact hR1 (k+1) _ (by omega) (by omega) (.le (by rw[List.replicate_succ'];exact vV))
 ·obtain rfl:k=l.length:=by omega
  refine au hnl ?_
  have hz:List.replicate l.length AV.aj=bD (dK l 1 0):=by rw[Zi];simp[bD,cA]
  refine aZ hN (fun m:Nat=>⟨[(0,.ro 1 (ak l)),(3,.sl 55011 0 l.length),(4,.int .i64 (jU l m:Nat)),(5,.int .i64 ((m:Int)+1))],[(55011,.arr 1 (bD (dK l (m+1) 0)))]⟩) (fun m=>m≤15) (fun m=>15-m) 0 (.le (by rw[hz,show jU l 0=0 from rfl];exact vV)) (by omega) ?_
  rintro m R2 hm hR2
  by_cases hlt2:m<15
  ·have he2:=I6 l m
   have hfl:=Ld l hn (n:=m+1) (by omega) (by omega)
   have he3:2*((jU l m:Nat):Int)=((fstL l (m+1):Nat):Int):=by omega
   have hle:jU l m≤20971520:=by omega
   refine bo hnl he3 ?_
   refine aZ hN (fun k:Nat=>⟨[(0,.ro 1 (ak l)),(3,.sl 55011 0 l.length),(4,.int .i64 (fstL l (m+1)+bf (l.take k) (m+1):Nat)),(5,.int .i64 ((m:Int)+1)),(26,.ro 1 (ak l)),(27,.int .i64 l.length),(28,.int .i64 k)],[(55011,.arr 1 (bD (dK l (m+1) k)))]⟩) (fun k=>k≤l.length) (fun k=>l.length-k) 0 (.le (by simp(disch:=omega)only[go_sem,simprocAttr,bf,List.countP_nil])) (by omega) ?_
   rintro k R3 hk hR3
   have hcl:=uM l k (m+1)
   by_cases hlt3:k<l.length
   ·have hcs:=jk (l.take k) (l.getD k 0) (m+1)
    rw[←dp l 0 hlt3]at hcs
    by_cases hx:l.getD k 0=m+1
    ·rw[if_pos hx]at hcs
     have hcw:eQ l k=fstL l (m+1)+bf (l.take k) (m+1):=by unfold eQ jb;rw[hx]
     have bP:=Zg l (m+1) k hlt3 (by omega) hx
     have hcd:cr l k=bitsM (eQ l k) (m+1):=by unfold cr;rw[if_neg (by omega),hx]
     have hol:=pc l (m+1) k
     have hoc:=qz (dK l (m+1) k)
     generalize hw:fstL l (m+1)+bf (l.take k) (m+1)=cw at *
     have hcwl:cw≤20971520:=by omega
     refine cN hnl @dJ hx ?_
     refine aZ hN (fun i:Nat=>⟨[(0,.ro 1 (ak l)),(3,.sl 55011 0 l.length),(4,.int .i64 cw),(5,.int .i64 ((m:Int)+1)),(6,.int .i64 k),(8,.sl 55036 0 i),(9,.int .i64 (cw/2^i:Nat)),(10,.int .i64 i),(26,.ro 1 (ak l)),(27,.int .i64 l.length),(28,.int .i64 k)],
      [(55011,.arr 1 (bD (dK l (m+1) k))),(55036,.arr 1 (bZ (bitsM cw i)))]⟩) (fun i=>i≤m+1) (fun i=>m+1-i) 0 (.le (by simp(disch:=omega)only[go_sem,simprocAttr,bitsM,um])) (by omega) ?_
     rintro i R4 hi hR4
     have hbl:=ql i cw
     have hbl2:=iq (bitsM cw i)
     by_cases hi2:i<m+1
     ·have hbc:=tS i cw
      have hR5:=hR4 (i+1)
      have hq2:cw/2^(i+1)=cw/2^i/2:=by rw[Nat.pow_succ,Nat.div_div_eq_div_mul]
      rw[hq2]at hR5
      have hql:cw/2^i≤cw:=Nat.div_le_self _ _
      generalize cw/2^i=q at *
      have e1:((q:Nat):Int).tdiv 2=((q/2:Nat):Int):=by rw[jC (by omega)];omega
      have e2:decide ((q:Int)%2=1)=(q%2==1):=by
       rw[show(q%2==1)=decide (q%2=1)by rfl]
       exact decide_eq_decide.2 (by omega)
      refine cO e1 e2 @jP @gH @uj ?_
      refine hR5 _ (by omega) (by omega) (.drop 55036 (.iB 55046 55036 rfl vV (.le ?_)))
      rw[hbc]
      refine wW ?_
      rw[Fh]
     ·obtain rfl:i=m+1:=by omega
      have hcp:=nB (c:=bitsM cw (m+1)) (by omega)
      rw[hcd,hcw]at bP
      simp(disch:=omega)only[go_sem,simprocAttr,jP,gH,hol,hoc,G9,lg,uF,←hcp,Ha,bP]
      refine hR3 (k+1) _ (by omega) (by omega) (.le ?_)
      rw[hcs,←Nat.add_assoc,hw]
      exact vV
    ·have hos:=Zh l (m+1) k hx
     rw[if_neg hx,Nat.add_zero]at hcs
     refine cN hnl @dJ hx ?_
     refine hR3 (k+1) _ (by omega) (by omega) (.le ?_)
     rw[hos,hcs]
     exact vV
   ·obtain rfl:k=l.length:=by omega
    rw[List.take_of_length_le (Nat.le_refl _)]at *
    refine au hnl ?_
    refine hR2 (m+1) _ (by omega) (by omega) (.le ?_)
    rw[Zf,show jU l (m+1)=fstL l (m+1)+bf l (m+1)from if_neg (by omega)]
    exact vV
  ·obtain rfl:m=15:=by omega
   have hcl:=qz (aN l)
   have hcl2:(aN l).length=l.length:=by simp[aN]
   have htk:(bD (aN l)).take l.length=bD (aN l):=List.take_of_length_le (by omega)
   have hoe:=Ze l hl
   refine wW ?_
   rw[hoe]
   exact hR.wk (h':=[]) (r':=.ro 1 (bD (aN l))) (ar':=[.undef]) rfl (.bw 55011 (.le (by simp(disch:=omega)only[go_sem,simprocAttr,aI,htk,List.drop_zero]))) ⟨rfl,rfl⟩
theorem ZM (a b:List Bool) (h:b.length<a.length):a.isPrefixOf b=false:=by
 cases hh:a.isPrefixOf b with
 | false=>rfl
 | true=>have:=(List.isPrefixOf_iff_prefix.1 hh).length_le;omega
theorem yH (b a:List Bool) (hb:b.length≤1000000000) (ha:a.length≤1000000000):aM Tryz.prog 201 [.ro 1 (bZ b),.ro 1 (bZ a)] (.bool (a.isPrefixOf b)):=by
 refine Cod.abd (fun E R hN hR=>?_)
 have hbl:=iq b
 have hal:=iq a
 by_cases hlt:b.length<a.length
 ·have hp:=ZM a b hlt
  refine bo hbl hal ?_
  exact hR.ro ⟨rfl,by rw[hp]⟩
 ·refine bo hbl hal ?_
  refine aZ hN (fun i:Nat=>⟨[(0,.ro 1 (bZ b)),(1,.ro 1 (bZ a)),(12,.int .i64 a.length),(13,.int .i64 i)],[]⟩) (fun i=>i≤a.length∧a.take i=b.take i) (fun i=>a.length-i) 0 (.le vV) ⟨by omega,by simp⟩ ?_
  rintro i R1 ⟨hi,he⟩ hR1
  by_cases hil:i<a.length
  ·have hta:=dp a false hil
   have htb:=dp b false (show i<b.length by omega)
   have hR2:=hR1 (i+1)
   generalize hx:a.getD i false=x at *
   generalize hy:b.getD i false=y at *
   by_cases hxy:x=y
   ·subst hxy
    refine cO hbl hal @rQ hx hy ?_
    have hd:(!(x==x))=false:=by simp
    refine au hd ?_
    exact hR2 _ (by omega) ⟨by omega,by rw[hta,htb,he]⟩ (.le vV)
   ·have hd:(!(x==y))=true:=by simp[hxy]
    have hp:a.isPrefixOf b=false:=by
     cases hh:a.isPrefixOf b with
     | false=>rfl
     | true=>
      obtain⟨r,hr⟩:=List.isPrefixOf_iff_prefix.1 hh
      refine(hxy ?_).elim
      rw[←hx,←hy,←hr,List.getD_eq_getElem?_getD,List.getD_eq_getElem?_getD,List.getElem?_append_left hil]
    refine cO hbl hal @rQ hx hy ?_
    refine au hd ?_
    exact hR.ro ⟨rfl,by rw[hp]⟩
  ·obtain rfl:i=a.length:=by omega
   have hp:a.isPrefixOf b=true:=by
    rw[List.isPrefixOf_iff_prefix,List.prefix_iff_eq_take]
    rw[List.take_length]at he
    exact he
   refine bo hbl hal ?_
   exact hR.ro ⟨rfl,by rw[hp]⟩
theorem JL {α:Type} {p:α→Bool} {cs:List α} (d:α) (h:∀j,j<cs.length→p (cs.getD j d)=false):cs.findIdx? p=none:=by
 rw[List.findIdx?_eq_none_iff]
 intro c hc
 obtain⟨j,hj,rfl⟩:=List.getElem_of_mem hc
 have:=h j hj
 rw[List.getD_eq_getElem?_getD,List.getElem?_eq_getElem hj]at this
 exact this
theorem JN {α:Type} {p:α→Bool} {cs:List α} (d:α) {i:Nat} (hi:i<cs.length) (h1:p (cs.getD i d)=true) (h:∀j,j<i→p (cs.getD j d)=false):cs.findIdx? p=some i:=by
 rw[List.findIdx?_eq_some_iff_getElem]
 rw[List.getD_eq_getElem?_getD,List.getElem?_eq_getElem hi]at h1
 refine⟨hi,h1,fun j hj hh=>?_⟩
 have:=h j hj
 rw[List.getD_eq_getElem?_getD,List.getElem?_eq_getElem (by omega)]at this
 simp[hh]at this
theorem CD {α:Type} {p:α→Bool} {cs:List α} (d:α) (h:∀j,j<cs.length→p (cs.getD j d)=true):cs.all p=true:=by
 rw[List.all_eq_true]
 intro c hc
 obtain⟨j,hj,rfl⟩:=List.getElem_of_mem hc
 have:=h j hj
 rw[List.getD_eq_getElem?_getD,List.getElem?_eq_getElem hj]at this
 exact this
theorem CO {α:Type} {p:α→Bool} {cs:List α} (d:α) {i:Nat} (hi:i<cs.length) (h1:p (cs.getD i d)=true):cs.any p=true:=by
 rw[List.any_eq_true]
 rw[List.getD_eq_getElem?_getD,List.getElem?_eq_getElem hi]at h1
 exact⟨_,List.getElem_mem hi,h1⟩
theorem CN {α:Type} {p:α→Bool} {cs:List α} (d:α) (h:∀j,j<cs.length→p (cs.getD j d)=false):cs.any p=false:=by
 rw[List.any_eq_false]
 intro c hc
 obtain⟨j,hj,rfl⟩:=List.getElem_of_mem hc
 have:=h j hj
 rw[List.getD_eq_getElem?_getD,List.getElem?_eq_getElem hj]at this
 simp only[Option.getD_some]at this
 rw[this];simp
theorem CC {α:Type} {p:α→Bool} {cs:List α} (d:α) {i:Nat} (hi:i<cs.length) (h1:p (cs.getD i d)=false):cs.all p=false:=by
 rw[List.all_eq_false]
 rw[List.getD_eq_getElem?_getD,List.getElem?_eq_getElem hi]at h1
 refine⟨_,List.getElem_mem hi,?_⟩
 simp only[Option.getD_some]at h1
 rw[h1];simp
set_option maxHeartbeats 1000000 in
theorem ac5 (cs:List (List Bool)) (b:List Bool) (hcs:cs.length≤100000) (hcl:∀c∈cs,c.length≤1000000) (hb:b.length≤1000000000) :
    aM Tryz.prog 179 [.ro 1 (bD cs),.ro 1 (bZ b)] (.ai [.int .i64 ((readL cs b).1:Nat),.int .i64 ((readL cs b).2.1:Nat),.int .i64 ((readL cs b).2.2:Nat)]):=by
 refine Cod.ac6 (fun E R hN hR=>?_)
 have hbl:=iq b
 have hcsl:=qz cs
 have hgl:∀i,(cs.getD i []).length≤1000000:=by
  intro i
  by_cases hi:i<cs.length
  ·rw[List.getD_eq_getElem?_getD,List.getElem?_eq_getElem hi];exact hcl _ (List.getElem_mem hi)
  ·rw[List.getD_eq_getElem?_getD,List.getElem?_eq_none (by omega)];simp
 refine au hcsl ?_
 refine aZ hN (fun q:Nat×Bool=>⟨[(0,.ro 1 (bD cs)),(1,.ro 1 (bZ b)),(7,.bool q.2),(12,.ro 1 (bD cs)),(13,.int .i64 cs.length),(14,.int .i64 q.1)],[]⟩)
  (fun q=>q.1≤cs.length∧(∀j,j<q.1→cR b (cs.getD j [])=false)∧(if q.2 then ∃j,j<q.1∧(cs.getD j []).isEmpty=false else ∀j,j<q.1→(cs.getD j []).isEmpty=true)) (fun q=>cs.length-q.1) (0,false) (.le vV) ⟨by omega,fun j h=>by omega,fun j h=>by simp only at h;omega⟩ ?_
 rintro⟨i,sm⟩ R1 ⟨hi,hno,hsm⟩ hR1
 simp only at hi hno hsm
 by_cases hil:i<cs.length
 ·have hg:=hgl i
  by_cases h0:0<(cs.getD i []).length
  ·have hca:=nB h0
   have hne:(cs.getD i []).isEmpty=false:=by cases hh:cs.getD i []with
    | nil=>rw[hh]at h0;simp at h0
    | cons=>rfl
   have hbg:=yH b (cs.getD i []) hb (by omega)
   have hcb:=iq (cs.getD i [])
   have hhit:cR b (cs.getD i [])=(cs.getD i []).isPrefixOf b:=by unfold cR;rw[hne];rfl
   refine dE hcsl @lg hca hcb ?_
   refine aA hbg rfl rfl ?_
   cases hp:(cs.getD i []).isPrefixOf b with
   | true=>
    rw[hp]at hhit
    have hr:readL cs b=(i,(cs.getD i []).length,0):=by unfold readL;rw[JN [] hil hhit hno]
    rw[hr]at hR
    refine au hcb ?_
    exact hR.ro ⟨rfl,rfl⟩
   | false=>
    rw[hp]at hhit
    refine wW ?_
    refine hR1 (i+1,true) _ (by simp only;omega) ⟨by simp only;omega,fun j hj=>?_,by simp only[if_true];exact⟨i,by omega,hne⟩⟩ (.le vV)
    simp only at hj
    by_cases hji:j=i
    ·rw[hji];exact hhit
    ·exact hno j (by omega)
  ·have hci:cs.getD i []=[]:=List.length_eq_zero_iff.1 (by omega)
   have hca:cA (cs.getD i [])=.aj:=by rw[hci];rfl
   refine cN hcsl @lg hca ?_
   refine hR1 (i+1,sm) _ (by simp only;omega) ⟨by simp only;omega,fun j hj=>?_,?_⟩ (.le vV)
   ·simp only at hj
    by_cases hji:j=i
    ·rw[hji,hci];rfl
    ·exact hno j (by omega)
   ·cases sm with
    | true=>
     simp only[if_true]at hsm ⊢
     obtain⟨j,h1,h2⟩:=hsm
     exact⟨j,by omega,h2⟩
    | false=>
     intro j hj
     simp only at hj
     by_cases hji:j=i
     ·rw[hji,hci];rfl
     ·exact hsm j (by omega)
 ·obtain rfl:i=cs.length:=by omega
  have hfn:=JL (p:=cR b) [] hno
  unfold readL at hR
  rw[hfn]at hR
  simp only at hR
  cases sm with
  | false=>
   have hae:cs.all (·.isEmpty)=true:=CD [] hsm
   rw[hae,if_pos rfl]at hR
   refine au hcsl ?_
   exact hR.ro ⟨rfl,rfl⟩
  | true=>
   obtain⟨j,hj,hje⟩:=hsm
   have hae:cs.all (·.isEmpty)=false:=CC [] hj hje
   rw[hae,if_neg (by simp)]at hR
   refine au hcsl ?_
   refine aZ hN (fun i:Nat=>⟨[(1,.ro 1 (bZ b)),(31,.ro 1 (bD cs)),(32,.int .i64 cs.length),(33,.int .i64 i)],[]⟩)
    (fun i=>i≤cs.length∧∀j,j<i→(decide (b.length<(cs.getD j []).length)&&b.isPrefixOf (cs.getD j []))=false) (fun i=>cs.length-i) 0 (.le vV) ⟨by omega,fun j h=>by omega⟩ ?_
   rintro i R2 ⟨hi,hno2⟩ hR2
   by_cases hil:i<cs.length
   ·have hg:=hgl i
    have go:(decide (b.length<(cs.getD i []).length)&&b.isPrefixOf (cs.getD i []))=false→R2.ap ⟨[(1,.ro 1 (bZ b)),(31,.ro 1 (bD cs)),(32,.int .i64 cs.length),(33,.int .i64 ((i:Int)+1))],[]⟩:=by
     intro h
     refine hR2 (i+1) _ (by omega) ⟨by omega,fun j hj=>?_⟩ (.le vV)
     by_cases hji:j=i
     ·rw[hji];exact h
     ·exact hno2 j (by omega)
    by_cases hlt:b.length<(cs.getD i []).length
    ·have hca:=nB (c:=cs.getD i []) (by omega)
     have hcb:=iq (cs.getD i [])
     have hbg:=yH (cs.getD i []) b (by omega) hb
     refine cO hcsl @lg hca hcb hbl ?_
     refine gG ?_
     refine cn (cP vV hbg vV rfl rfl ?_)
     cases hp:b.isPrefixOf (cs.getD i [])with
     | true=>
      rw[if_pos (CO [] hil (by rw[hp,decide_eq_true hlt];rfl))]at hR
      refine wW ?_
      exact hR.ro ⟨rfl,rfl⟩
     | false=>
      refine wW ?_
      exact go (by rw[hp,Bool.and_false])
    ·have hgo:=go (by rw[decide_eq_false hlt];rfl)
     by_cases h0:0<(cs.getD i []).length
     ·have hca:=nB h0
      have hcb:=iq (cs.getD i [])
      refine cO hcsl @lg hca hcb hbl ?_
      refine gG ?_
      exact hgo
     ·have hci:cs.getD i []=[]:=List.length_eq_zero_iff.1 (by omega)
      have hca:cA (cs.getD i [])=.aj:=by rw[hci];rfl
      refine dE hcsl @lg hca hbl ?_
      refine gG ?_
      exact hgo
   ·obtain rfl:i=cs.length:=by omega
    rw[if_neg (by rw[CN [] hno2];simp)]at hR
    refine au hcsl ?_
    exact hR.ro ⟨rfl,rfl⟩
theorem yF (n:Nat) (h:n≤10000000000000):aM Tryz.prog 99 [.int .i64 n] (.int .i64 (cz n:Nat)):=by
 refine Cod.aaW (fun E R hN hR=>?_)
 have e:((n:Int)+7)/8*8=((cz n:Nat):Int):=by unfold cz;omega
 refine au e ?_
 exact hR.ro ⟨rfl,rfl⟩
end Go.Proofs.YtlkmppkcbhodaaaGreatDoor.Pk
namespace Go.Proofs.YtlkmppkcbhodaaaGreatDoor.Cod
open Eng Eng.Kz
set_option maxRecDepth 100000
abbrev Qb:AK:=.seq (.aa [k 4 (ci 0)] [4,2000000,2000001]) .ret
abbrev Qa:AK:=.seq (.aa [m 15 0,m 16 0,.v 17 (.aq (.t 16)),.v 18 (.an false 1 1 (.t 17)),.v 19 (.ld false 1 (.t 18)),m 20 1,.eff 21 false 60021 (.a6 1 [(.t 20)]),.eff 22 false 60022 (.app 1 1 (.t 19) (.t 21)),.v 23 (.aq (.t 15)),.v 24 (.an false 1 1 (.t 23)),.aO false 60000 (.st 1 (.t 24) (.t 22))] [2000000,2000001]) Qb
abbrev Qd:AK:=.seq (.aa [k 4 (ci 2)] [4,2000000,2000001]) .ret
abbrev Qc:AK:=.seq (.aa [u 60005 5 (.ah (.t 0)),u 60006 6 (.aq (.t 5)),u 60007 7 (.an false 1 1 (.t 6)),u 60008 8 (.ld false 1 (.t 7)),u 60009 9 (.len false (.t 8)),u 60010 10 (.ah (.t 0)),u 60011 11 (.aq (.t 10)),u 60012 12 (.an false 2 1 (.t 11)),u 60013 13 (.ld false 1 (.t 12)),b 14 .eql 9 13] [0,1,14,2000000,2000001]) (.cond (.t 14) Qd .skip)
abbrev P9:AK:=.seq Qc Qa
abbrev P8:AK:=.seq (.aa [k 4 (ci 0)] [0,1,2000000,2000001]) P9
abbrev wR:AK:=P8
theorem Qe:aD Tryz.prog 165 60000 2 wR [.tmp 4]:=⟨_,Tryz.func165,by kernel_rfl⟩
theorem Qf {h a0 a1 Post} (hp:aF Tryz.prog wR [.tmp 4] 2 [(0,a0),(1,a1),(2000000,a0),(2000001,a1)] h Post):Eng.Spec Tryz.prog 165 h [a0,a1] Post:=aG Qe rfl [(0,a0),(1,a1),(2000000,a0),(2000001,a1)] ⟨rfl,rfl,rfl,rfl,trivial⟩ hp
abbrev RU:AK:=.seq (.aa [k 2 (ci 0)] [2,2000000]) .ret
abbrev RY:AK:=.seq (.aa [k 2 (ci 6)] [2,2000000]) .ret
abbrev RW:AK:=.seq (.aa [m 75 4,.v 76 (.un .not (.t 75))] [76,2000000]) (.cond (.t 76) RY .skip)
abbrev Sj:AK:=.seq RW RU
abbrev Si:AK:=.seq (.aa [m 66 0,m 67 0,.v 68 (.aq (.t 67)),.v 69 (.an false 1 1 (.t 68)),.v 70 (.ld false 1 (.t 69)),m 71 6,.eff 72 false 61072 (.app 1 1 (.t 70) (.t 71)),.v 73 (.aq (.t 66)),.v 74 (.an false 1 1 (.t 73)),.aO false 61000 (.st 1 (.t 74) (.t 72))] [4,2000000]) Sj
abbrev R5:AK:=.seq (.aa [k 2 (ci 2)] [2,2000000]) .ret
abbrev RZ:AK:=.seq (.aa [u 61053 53 (.ah (.t 6)),u 61054 54 (.len true (.t 53)),u 61055 55 (.ah (.t 0)),u 61056 56 (.aq (.t 55)),u 61057 57 (.an false 2 1 (.t 56)),u 61058 58 (.ld false 1 (.t 57)),u 61059 59 (.ah (.t 0)),u 61060 60 (.aq (.t 59)),u 61061 61 (.an false 1 1 (.t 60)),u 61062 62 (.ld false 1 (.t 61)),u 61063 63 (.len false (.t 62)),u 61064 64 (.bin .sub (.t 58) (.t 63)),b 65 .gtr 54 64] [0,4,6,65,2000000]) (.cond (.t 65) R5 .skip)
abbrev Sg:AK:=.seq RZ Si
abbrev R7:AK:=.aa [u 61040 40 (.ah (.t 0)),u 61041 41 (.aq (.t 40)),u 61042 42 (.an false 0 1 (.t 41)),u 61043 43 (.ld false 1 (.t 42)),u 61044 44 (.ah (.t 0)),u 61045 45 (.aq (.t 44)),u 61046 46 (.an false 0 1 (.t 45)),u 61047 47 (.ld false 1 (.t 46)),.al (some 48) true 61048 187 [(.t 47)],u 61049 49 (.bin .quo (.t 48) (ci 8)),.al (some 50) false 61050 185 [(.t 43),(.t 49)],m 39 50,u 61051 51 (.ext (.t 39) 0),u 61052 52 (.ext (.t 39) 1),u 61006 6 (.ah (.t 51))] [0,4,6,2000000]
abbrev R6:AK:=.seq (.aa [m 37 4,.v 38 (.un .not (.t 37))] [0,4,6,38,2000000]) (.cond (.t 38) R7 .skip)
def xc:AK:=.seq R6 (.bp Sg)
abbrev Sf:AK:=.seq (.aa [m 29 0,.v 30 (.aq (.t 29)),.v 31 (.an false 0 1 (.t 30)),.v 32 (.ld false 1 (.t 31)),m 33 5,.al (some 34) false 61034 185 [(.t 32),(.t 33)],m 28 34,.v 35 (.ext (.t 28) 0),.v 36 (.ext (.t 28) 1),m 6 35,m 4 36] [0,4,6,2000000]) xc
abbrev Sa:AK:=.seq (.aa [k 2 (ci 3)] [2,2000000]) .ret
abbrev R9:AK:=.seq (.aa [m 21 5,bi 22 .xor 21 65535,m 23 3,.v 24 (.bX (.t 23) (some (ci 2)) none),.al (some 25) false 61025 186 [(.t 24)],.v 26 (.bh .i64 (.t 25)),b 27 .neq 22 26] [0,5,27,2000000]) (.cond (.t 27) Sa .skip)
abbrev Se:AK:=.seq R9 Sf
abbrev Sd:AK:=.seq (.aa [m 17 3,.v 18 (.bX (.t 17) none (some (ci 2))),.al (some 19) false 61019 186 [(.t 18)],.v 20 (.bh .i64 (.t 19)),m 5 20] [0,3,5,2000000]) Se
abbrev Sc:AK:=.seq (.aa [k 2 (ci 6)] [2,2000000]) .ret
abbrev Sb:AK:=.seq (.aa [m 15 4,.v 16 (.un .not (.t 15))] [0,3,16,2000000]) (.cond (.t 16) Sc .skip)
abbrev R8:AK:=.seq Sb Sd
abbrev RR:AK:=.seq (.aa [m 8 0,.v 9 (.aq (.t 8)),.v 10 (.an false 0 1 (.t 9)),.v 11 (.ld false 1 (.t 10)),.al (some 12) false 61012 185 [(.t 11),(ci 4)],m 7 12,.v 13 (.ext (.t 7) 0),.v 14 (.ext (.t 7) 1),m 3 13,m 4 14] [0,3,4,2000000]) R8
abbrev RQ:AK:=.seq (.aa [k 2 (ci 0)] [0,2000000]) RR
abbrev w9:AK:=RQ
theorem Sk:aD Tryz.prog 162 61000 1 w9 [.tmp 2]:=⟨_,Tryz.func162,by kernel_rfl⟩
theorem Sm {h a0 Post} (hp:aF Tryz.prog w9 [.tmp 2] 1 [(0,a0),(2000000,a0)] h Post):Eng.Spec Tryz.prog 162 h [a0] Post:=aG Sk rfl [(0,a0),(2000000,a0)] ⟨rfl,rfl,trivial⟩ hp
abbrev Sy:AK:=.seq (.aa [m 184 24,m 185 26,m 2 184,m 3 185,k 4 (ci 0)] [2,3,4,2000000]) .ret
abbrev SA:AK:=.seq (.aa [k 2 (.c (.lit (.pointer none))),k 3 (.c (.lit (.pointer none))),k 4 (ci 3)] [2,3,4,2000000]) .ret
abbrev Sz:AK:=.seq (.aa [m 172 16,.v 173 (.aP 1 (.t 172) (ci 256)),.v 174 (.ld false 1 (.t 173)),bi 175 .eql 174 0,m 176 175,.af 177 176 false false 62177 (.ah (.t 25)),.af 178 176 false false 62178 (.bin .neq (.t 177) (ci 0)),.v 179 (.pick (.t 176) (.c (.bool true)) (.t 178)),m 180 179,.af 181 180 false false 62181 (.ah (.t 27)),.af 182 180 false false 62182 (.bin .neq (.t 181) (ci 0)),.v 183 (.pick (.t 180) (.c (.bool true)) (.t 182))] [24,26,183,2000000]) (.cond (.t 183) SA .skip)
abbrev Sx:AK:=.seq Sz Sy
abbrev Sw:AK:=.seq (.aa [m 166 16,m 167 7,.v 168 (.fT 1 (.t 166) (some (.t 167)) none),.al (some 169) false 62169 176 [(.t 168)],m 165 169,.v 170 (.ext (.t 165) 0),.v 171 (.ext (.t 165) 1),m 26 170,m 27 171] [16,24,25,26,27,2000000]) Sx
abbrev rl:AK:=.seq (.aa [m 159 16,m 160 7,.v 161 (.fT 1 (.t 159) none (some (.t 160))),.al (some 162) false 62162 176 [(.t 161)],m 158 162,.v 163 (.ext (.t 158) 0),.v 164 (.ext (.t 158) 1),m 24 163,m 25 164] [7,16,24,25,2000000]) Sw
abbrev SP:AK:=.aa [bi 157 .add 151 1,m 151 157] [0,7,8,14,16,21,150,151,2000000]
abbrev SQ:AK:=.aa [m 153 16,m 154 21,.eff 155 false 62155 (.a6 1 [(.t 154)]),.eff 156 false 62156 (.app 1 8 (.t 153) (.t 155)),m 16 156] [0,7,8,14,16,21,150,151,2000000]
abbrev SO:AK:=.seq (.block 6 SQ) SP
abbrev SN:AK:=.seq (.cond (.t 152) .skip (.exit 5)) SO
abbrev SM:AK:=.seq (.aa [b 152 .lss 151 150] [0,7,8,14,16,21,150,151,152,2000000]) SN
abbrev TG:AK:=.loop SM
abbrev SK:AK:=.seq (.aa [m 147 20,m 148 22,.v 149 (.bh .i64 (.t 148)),b 150 .add 147 149,k 151 (ci 0)] [0,7,8,14,16,21,150,151,2000000]) (.block 5 TG)
abbrev SV:AK:=.seq (.aa [k 2 (.c (.lit (.pointer none))),k 3 (.c (.lit (.pointer none))),k 4 (ci 3)] [2,3,4,2000000]) .ret
abbrev SR:AK:=.seq (.aa [m 136 16,.v 137 (.len false (.t 136)),m 138 20,b 139 .add 137 138,m 140 22,.v 141 (.bh .i64 (.t 140)),b 142 .add 139 141,m 143 7,m 144 8,b 145 .add 143 144,b 146 .gtr 142 145] [0,7,8,14,16,20,21,22,146,2000000]) (.cond (.t 146) SV .skip)
abbrev SJ:AK:=.seq SR SK
abbrev SY:AK:=.seq (.aa [k 2 (.c (.lit (.pointer none))),k 3 (.c (.lit (.pointer none))),k 4 (ci 6)] [2,3,4,2000000]) .ret
abbrev SX:AK:=.seq (.aa [m 134 23,.v 135 (.un .not (.t 134))] [0,7,8,14,16,20,21,22,135,2000000]) (.cond (.t 135) SY .skip)
abbrev SI:AK:=.seq SX SJ
abbrev rp:AK:=.seq (.aa [m 126 0,.v 127 (.aq (.t 126)),.v 128 (.an false 0 1 (.t 127)),.v 129 (.ld false 1 (.t 128)),m 130 19,.al (some 131) false 62131 161 [(.t 129),(.t 130)],m 125 131,.v 132 (.ext (.t 125) 0),.v 133 (.ext (.t 125) 1),m 22 132,m 23 133] [0,7,8,14,16,20,21,22,23,2000000]) SI
abbrev S7:AK:=.aa [m 117 16,m 118 16,.v 119 (.len false (.t 118)),bi 120 .sub 119 1,.v 121 (.aP 1 (.t 117) (.t 120)),.v 122 (.ld false 1 (.t 121)),m 21 122] [0,7,8,14,16,19,20,21,2000000]
abbrev Ta:AK:=.seq (.aa [k 2 (.c (.lit (.pointer none))),k 3 (.c (.lit (.pointer none))),k 4 (ci 3)] [2,3,4,2000000]) .ret
abbrev S9:AK:=.seq (.aa [m 114 16,.v 115 (.len false (.t 114)),bi 116 .eql 115 0] [0,7,8,14,16,19,20,116,2000000]) (.cond (.t 116) Ta .skip)
abbrev S6:AK:=.seq S9 S7
abbrev Tc:AK:=.aa [k 19 (ci 3)] [0,7,8,14,16,19,20,21,2000000]
abbrev Td:AK:=.aa [k 19 (ci 7),k 20 (ci 11)] [0,7,8,14,16,19,20,21,2000000]
abbrev Tb:AK:=.seq (.aa [bi 124 .eql 111 17,m 123 124] [0,7,8,14,16,20,21,123,2000000]) (.cond (.t 123) Tc Td)
abbrev S5:AK:=.seq (.aa [bi 113 .eql 111 16,m 112 113] [0,7,8,14,16,19,20,21,111,112,2000000]) (.cond (.t 112) S6 Tb)
abbrev SZ:AK:=.seq (.aa [m 111 17] [0,7,8,14,16,19,20,21,111,2000000]) (.block 4 S5)
def SH:AK:=.seq SZ (.bp rp)
abbrev SG:AK:=.seq (.aa [k 19 (ci 2),k 20 (ci 3),k 21 (ci 0)] [0,7,8,14,16,17,19,20,21,2000000]) SH
abbrev Tf:AK:=.seq (.aa [m 107 16,m 108 17,.eff 109 false 62109 (.a6 1 [(.t 108)]),.eff 110 false 62110 (.app 1 8 (.t 107) (.t 109)),m 16 110] [0,7,8,14,16,2000000]) (.exit 3)
abbrev Te:AK:=.seq (.aa [m 105 17,bi 106 .lss 105 16] [0,7,8,14,16,17,106,2000000]) (.cond (.t 106) Tf .skip)
abbrev SF:AK:=.seq Te SG
abbrev Th:AK:=.seq (.aa [m 104 18,k 2 (.c (.lit (.pointer none))),k 3 (.c (.lit (.pointer none))),m 4 104] [2,3,4,2000000]) .ret
abbrev Tg:AK:=.seq (.aa [m 102 18,bi 103 .neq 102 0] [0,7,8,14,16,17,18,103,2000000]) (.cond (.t 103) Th .skip)
abbrev SE:AK:=.seq Tg SF
abbrev SD:AK:=.seq (.aa [m 94 14,m 95 0,.v 96 (.aq (.t 95)),.v 97 (.an false 0 1 (.t 96)),.v 98 (.ld false 1 (.t 97)),.al (some 99) false 62099 164 [(.t 94),(.t 98)],m 93 99,.v 100 (.ext (.t 93) 0),.v 101 (.ext (.t 93) 1),m 17 100,m 18 101] [0,7,8,14,16,17,18,2000000]) SE
abbrev Tj:AK:=.seq (.aa [m 87 16,.v 88 (.len false (.t 87)),m 89 7,m 90 8,b 91 .add 89 90,b 92 .lss 88 91] [0,7,8,14,16,92,2000000]) (.cond (.t 92) .skip (.exit 2))
abbrev SB:AK:=.seq Tj (.block 3 SD)
abbrev TF:AK:=.loop SB
def xg:AK:=.seq (.block 2 TF) (.bp rl)
abbrev TE:AK:=.seq (.aa [k 16 (.c (.aj))] [0,7,8,14,16,2000000]) xg
abbrev Tl:AK:=.seq (.aa [k 2 (.c (.lit (.pointer none))),k 3 (.c (.lit (.pointer none))),k 4 (ci 3)] [2,3,4,2000000]) .ret
abbrev Tk:AK:=.seq (.aa [m 85 15,bi 86 .neq 85 0] [0,7,8,14,86,2000000]) (.cond (.t 86) Tl .skip)
abbrev Tx:AK:=.seq Tk TE
abbrev xi:AK:=.seq (.aa [m 81 10,.al (some 82) false 62082 176 [(.t 81)],m 80 82,.v 83 (.ext (.t 80) 0),.v 84 (.ext (.t 80) 1),m 14 83,m 15 84] [0,7,8,14,15,2000000]) Tx
abbrev Tr:AK:=.aa [bi 79 .add 59 1,m 59 79] [0,7,8,10,58,59,2000000]
abbrev Tv:AK:=.aa [m 72 10,.al (some 73) false 62073 188 [],m 74 11,.v 75 (.kV 19 (.t 73) (.t 74)),m 76 12,.v 77 (.bh .i64 (.t 76)),.v 78 (.aP 1 (.t 72) (.t 75)),.aO false 62000 (.st 1 (.t 78) (.t 77))] [0,7,8,10,58,59,2000000]
abbrev Ty:AK:=.seq (.aa [k 2 (.c (.lit (.pointer none))),k 3 (.c (.lit (.pointer none))),k 4 (ci 6)] [2,3,4,2000000]) .ret
abbrev Tw:AK:=.seq (.aa [m 70 13,.v 71 (.un .not (.t 70))] [0,7,8,10,11,12,58,59,71,2000000]) (.cond (.t 71) Ty .skip)
abbrev Tu:AK:=.seq Tw Tv
abbrev Tt:AK:=.seq (.aa [m 63 0,.v 64 (.aq (.t 63)),.v 65 (.an false 0 1 (.t 64)),.v 66 (.ld false 1 (.t 65)),.al (some 67) false 62067 161 [(.t 66),(ci 3)],m 62 67,.v 68 (.ext (.t 62) 0),.v 69 (.ext (.t 62) 1),m 12 68,m 13 69] [0,7,8,10,11,12,13,58,59,2000000]) Tu
abbrev Ts:AK:=.seq (.aa [m 61 59,m 11 61] [0,7,8,10,11,58,59,2000000]) Tt
abbrev Tq:AK:=.seq (.block 1 Ts) Tr
abbrev Tp:AK:=.seq (.cond (.t 60) .skip (.exit 0)) Tq
abbrev Tn:AK:=.seq (.aa [b 60 .lss 59 58] [0,7,8,10,58,59,60,2000000]) Tp
abbrev TH:AK:=.loop Tn
abbrev Tm:AK:=.seq (.aa [m 58 9,k 59 (ci 0)] [0,7,8,10,58,59,2000000]) (.block 0 TH)
def xh:AK:=.seq Tm (.bp xi)
abbrev S8:AK:=.seq (.aa [.eff 57 false 62057 (.jr 1 8 [.int .i64 0] (ci 19) (ci 19)),m 10 57] [0,7,8,9,10,2000000]) xh
abbrev TA:AK:=.seq (.aa [k 2 (.c (.lit (.pointer none))),k 3 (.c (.lit (.pointer none))),k 4 (ci 3)] [2,3,4,2000000]) .ret
abbrev Tz:AK:=.seq (.aa [m 51 7,bi 52 .gtr 51 286,m 53 52,.af 54 53 false false 62054 (.ah (.t 8)),.af 55 53 false false 62055 (.bin .gtr (.t 54) (ci 30)),.v 56 (.pick (.t 53) (.c (.bool true)) (.t 55))] [0,7,8,9,56,2000000]) (.cond (.t 56) TA .skip)
abbrev SU:AK:=.seq Tz S8
abbrev SL:AK:=.seq (.aa [m 38 5,.v 39 (.bin .and (.t 38) (.c (.int .u32 31))),.v 40 (.bh .i64 (.t 39)),bi 41 .add 40 257,m 42 5,.v 43 (.bin .shr (.t 42) (.c (.int .u64 5))),.v 44 (.bin .and (.t 43) (.c (.int .u32 31))),.v 45 (.bh .i64 (.t 44)),bi 46 .add 45 1,m 47 5,.v 48 (.bin .shr (.t 47) (.c (.int .u64 10))),.v 49 (.bh .i64 (.t 48)),bi 50 .add 49 4,m 7 41,m 8 46,m 9 50] [0,7,8,9,2000000]) SU
abbrev TD:AK:=.seq (.aa [k 2 (.c (.lit (.pointer none))),k 3 (.c (.lit (.pointer none))),k 4 (ci 6)] [2,3,4,2000000]) .ret
abbrev TC:AK:=.seq (.aa [m 36 6,.v 37 (.un .not (.t 36))] [0,5,37,2000000]) (.cond (.t 37) TD .skip)
abbrev SC:AK:=.seq TC SL
abbrev Su:AK:=.seq (.aa [m 29 0,.v 30 (.aq (.t 29)),.v 31 (.an false 0 1 (.t 30)),.v 32 (.ld false 1 (.t 31)),.al (some 33) false 62033 161 [(.t 32),(ci 14)],m 28 33,.v 34 (.ext (.t 28) 0),.v 35 (.ext (.t 28) 1),m 5 34,m 6 35] [0,5,6,2000000]) SC
abbrev Ss:AK:=.seq (.aa [k 2 (.c (.lit (.pointer none))),k 3 (.c (.lit (.pointer none))),k 4 (ci 0)] [0,2000000]) Su
abbrev xf:AK:=Ss
theorem TI:aD Tryz.prog 163 62000 1 xf [.tmp 2,.tmp 3,.tmp 4]:=⟨_,Tryz.func163,by kernel_rfl⟩
theorem TK {h a0 Post} (hp:aF Tryz.prog xf [.tmp 2,.tmp 3,.tmp 4] 1 [(0,a0),(2000000,a0)] h Post):Eng.Spec Tryz.prog 163 h [a0] Post:=aG TI rfl [(0,a0),(2000000,a0)] ⟨rfl,rfl,trivial⟩ hp
abbrev Qn:AK:=.seq (.aa [k 6 (ci 0)] [6,2000000,2000001,2000002]) .ret
abbrev Qt:AK:=.aa [bi 100 .add 80 1,m 80 100] [0,13,79,80,2000000,2000001,2000002]
abbrev Qw:AK:=.seq (.aa [m 99 14,m 6 99] [6,2000000,2000001,2000002]) .ret
abbrev Qv:AK:=.seq (.aa [m 97 14,bi 98 .neq 97 0] [0,13,14,79,80,98,2000000,2000001,2000002]) (.cond (.t 98) Qw .skip)
abbrev Qu:AK:=.seq (.aa [u 63082 82 (.ah (.t 0)),u 63083 83 (.ah (.t 0)),u 63084 84 (.aq (.t 83)),u 63085 85 (.an false 1 1 (.t 84)),u 63086 86 (.ld false 1 (.t 85)),u 63087 87 (.ah (.t 0)),u 63088 88 (.aq (.t 87)),u 63089 89 (.an false 1 1 (.t 88)),u 63090 90 (.ld false 1 (.t 89)),u 63091 91 (.len false (.t 90)),u 63092 92 (.ah (.t 13)),u 63093 93 (.bin .sub (.t 91) (.t 92)),.v 94 (.aP 1 (.t 86) (.t 93)),.v 95 (.ld false 1 (.t 94)),.al (some 96) false 63096 165 [(.t 82),(.t 95)],m 14 96] [0,13,14,79,80,2000000,2000001,2000002]) Qv
abbrev Qs:AK:=.seq (.block 1 Qu) Qt
abbrev Qq:AK:=.seq (.cond (.t 81) .skip (.exit 0)) Qs
abbrev Qp:AK:=.seq (.aa [b 81 .lss 80 79] [0,13,79,80,81,2000000,2000001,2000002]) Qq
abbrev QQ:AK:=.loop Qp
abbrev Qo:AK:=.seq (.aa [m 79 7,k 80 (ci 0)] [0,13,79,80,2000000,2000001,2000002]) (.block 0 QQ)
abbrev Qm:AK:=.seq Qo Qn
abbrev Qz:AK:=.seq (.aa [k 6 (ci 3)] [6,2000000,2000001,2000002]) .ret
abbrev Qx:AK:=.seq (.aa [m 72 13,m 73 0,.v 74 (.aq (.t 73)),.v 75 (.an false 1 1 (.t 74)),.v 76 (.ld false 1 (.t 75)),.v 77 (.len false (.t 76)),b 78 .gtr 72 77] [0,7,13,78,2000000,2000001,2000002]) (.cond (.t 78) Qz .skip)
abbrev Ql:AK:=.seq Qx Qm
abbrev Qk:AK:=.seq (.aa [m 68 13,m 69 9,.v 70 (.bh .i64 (.t 69)),b 71 .add 68 70,m 13 71] [0,7,13,2000000,2000001,2000002]) Ql
abbrev QB:AK:=.seq (.aa [k 6 (ci 6)] [6,2000000,2000001,2000002]) .ret
abbrev QA:AK:=.seq (.aa [m 66 10,.v 67 (.un .not (.t 66))] [0,7,9,13,67,2000000,2000001,2000002]) (.cond (.t 67) QB .skip)
abbrev Qj:AK:=.seq QA Qk
abbrev Qi:AK:=.seq (.aa [m 58 0,.v 59 (.aq (.t 58)),.v 60 (.an false 0 1 (.t 59)),.v 61 (.ld false 1 (.t 60)),m 62 8,.al (some 63) false 63063 161 [(.t 61),(.t 62)],m 57 63,.v 64 (.ext (.t 57) 0),.v 65 (.ext (.t 57) 1),m 9 64,m 10 65] [0,7,9,10,13,2000000,2000001,2000002]) Qj
abbrev QP:AK:=.seq (.aa [m 53 11,.al (some 54) false 63054 140 [(.t 53)],m 52 54,.v 55 (.ext (.t 52) 0),.v 56 (.ext (.t 52) 1),m 13 55,m 8 56] [0,7,8,13,2000000,2000001,2000002]) Qi
abbrev QD:AK:=.seq (.aa [k 6 (ci 3)] [6,2000000,2000001,2000002]) .ret
abbrev QC:AK:=.seq (.aa [m 50 11,bi 51 .gtr 50 29] [0,7,11,51,2000000,2000001,2000002]) (.cond (.t 51) QD .skip)
abbrev QO:AK:=.seq QC QP
abbrev QF:AK:=.seq (.aa [m 49 12,m 6 49] [6,2000000,2000001,2000002]) .ret
abbrev QE:AK:=.seq (.aa [m 47 12,bi 48 .neq 47 0] [0,7,11,12,48,2000000,2000001,2000002]) (.cond (.t 48) QF .skip)
abbrev QN:AK:=.seq QE QO
abbrev QM:AK:=.seq (.aa [m 39 2,m 40 0,.v 41 (.aq (.t 40)),.v 42 (.an false 0 1 (.t 41)),.v 43 (.ld false 1 (.t 42)),.al (some 44) false 63044 164 [(.t 39),(.t 43)],m 38 44,.v 45 (.ext (.t 38) 0),.v 46 (.ext (.t 38) 1),m 11 45,m 12 46] [0,7,11,12,2000000,2000001,2000002]) QN
abbrev QL:AK:=.seq (.aa [m 34 7,m 35 9,.v 36 (.bh .i64 (.t 35)),b 37 .add 34 36,m 7 37] [0,2,7,2000000,2000001,2000002]) QM
abbrev QI:AK:=.seq (.aa [k 6 (ci 6)] [6,2000000,2000001,2000002]) .ret
abbrev QH:AK:=.seq (.aa [m 32 10,.v 33 (.un .not (.t 32))] [0,2,7,9,33,2000000,2000001,2000002]) (.cond (.t 33) QI .skip)
abbrev QG:AK:=.seq QH QL
abbrev Qy:AK:=.seq (.aa [m 24 0,.v 25 (.aq (.t 24)),.v 26 (.an false 0 1 (.t 25)),.v 27 (.ld false 1 (.t 26)),m 28 8,.al (some 29) false 63029 161 [(.t 27),(.t 28)],m 23 29,.v 30 (.ext (.t 23) 0),.v 31 (.ext (.t 23) 1),m 9 30,m 10 31] [0,2,7,9,10,2000000,2000001,2000002]) QG
abbrev Qr:AK:=.seq (.aa [m 18 1,bi 19 .sub 18 257,.al (some 20) false 63020 139 [(.t 19)],m 17 20,.v 21 (.ext (.t 17) 0),.v 22 (.ext (.t 17) 1),m 7 21,m 8 22] [0,2,7,8,2000000,2000001,2000002]) Qy
abbrev QK:AK:=.seq (.aa [k 6 (ci 3)] [6,2000000,2000001,2000002]) .ret
abbrev QJ:AK:=.seq (.aa [m 15 1,bi 16 .gtr 15 285] [0,1,2,16,2000000,2000001,2000002]) (.cond (.t 16) QK .skip)
abbrev Qh:AK:=.seq QJ Qr
abbrev Qg:AK:=.seq (.aa [k 6 (ci 0)] [0,1,2,2000000,2000001,2000002]) Qh
abbrev wT:AK:=Qg
theorem QS:aD Tryz.prog 166 63000 3 wT [.tmp 6]:=⟨_,Tryz.func166,by kernel_rfl⟩
theorem QV {h a0 a1 a2 Post} (hp:aF Tryz.prog wT [.tmp 6] 3 [(0,a0),(1,a1),(2,a2),(2000000,a0),(2000001,a1),(2000002,a2)] h Post):Eng.Spec Tryz.prog 166 h [a0,a1,a2] Post:=aG QS rfl [(0,a0),(1,a1),(2,a2),(2000000,a0),(2000001,a1),(2000002,a2)] ⟨rfl,rfl,rfl,rfl,rfl,rfl,trivial⟩ hp
abbrev Q3:AK:=.seq (.aa [k 2 (ci 0)] [2,2000000]) .ret
abbrev Q4:AK:=.seq (.aa [m 72 3,.v 73 (.bin .and (.t 72) (.c (.int .u32 1))),.v 74 (.bin .eql (.t 73) (.c (.int .u32 0)))] [0,74,2000000]) (.cond (.t 74) (.goto 0) .skip)
abbrev wX:AK:=.seq Q4 Q3
abbrev Q2:AK:=.seq (.label 1) wX
abbrev Q7:AK:=.seq (.aa [m 71 5,m 2 71] [2,2000000]) .ret
abbrev Q1:AK:=.seq Q7 Q2
abbrev Q8:AK:=.seq (.aa [m 69 5,bi 70 .eql 69 0] [0,3,5,7,8,70,2000000]) (.cond (.t 70) (.goto 2) .skip)
abbrev wV:AK:=.seq Q8 Q1
abbrev Ra:AK:=.aa [m 61 0,m 62 6,.v 63 (.bh .u8 (.t 62)),.al (some 64) false 64064 165 [(.t 61),(.t 63)],m 5 64] [0,3,5,7,8,2000000]
abbrev Rb:AK:=.aa [m 65 0,m 66 6,m 67 8,.al (some 68) false 64068 166 [(.t 65),(.t 66),(.t 67)],m 5 68] [0,3,5,7,8,2000000]
abbrev Q9:AK:=.seq (.aa [m 59 6,bi 60 .lss 59 256] [0,3,6,7,8,60,2000000]) (.cond (.t 60) Ra Rb)
def Q0:AK:=.seq Q9 (.bp wV)
abbrev Rc:AK:=.seq (.aa [m 57 6,bi 58 .eql 57 256] [0,3,6,7,8,58,2000000]) (.cond (.t 58) (.goto 1) .skip)
abbrev QZ:AK:=.seq Rc Q0
abbrev Ri:AK:=.seq (.aa [m 56 5,m 2 56] [2,2000000]) .ret
abbrev Rh:AK:=.seq (.aa [m 54 5,bi 55 .neq 54 0] [0,3,5,6,7,8,55,2000000]) (.cond (.t 55) Ri .skip)
abbrev Rf:AK:=.seq (.aa [m 46 7,m 47 0,.v 48 (.aq (.t 47)),.v 49 (.an false 0 1 (.t 48)),.v 50 (.ld false 1 (.t 49)),.al (some 51) false 64051 164 [(.t 46),(.t 50)],m 45 51,.v 52 (.ext (.t 45) 0),.v 53 (.ext (.t 45) 1),m 6 52,m 5 53] [0,3,5,6,7,8,2000000]) Rh
abbrev rj:AK:=.seq Rf QZ
abbrev QY:AK:=.seq (.label 2) rj
abbrev Rj:AK:=.seq (.aa [k 2 (ci 3)] [2,2000000]) .ret
abbrev RG:AK:=.seq Rj QY
abbrev Rq:AK:=.seq (.aa [m 27 5,m 2 27] [2,2000000]) .ret
abbrev Rp:AK:=.seq (.aa [m 25 5,bi 26 .neq 25 0] [0,3,5,26,2000000]) (.cond (.t 26) Rq .skip)
abbrev Ro:AK:=.seq (.aa [m 23 0,.al (some 24) false 64024 162 [(.t 23)],m 5 24] [0,3,5,2000000]) Rp
abbrev Rm:AK:=.seq Ro (.goto 1)
abbrev Rs:AK:=.seq (.aa [.al (some 31) false 64031 134 [],m 30 31,.v 32 (.ext (.t 30) 0),.v 33 (.ext (.t 30) 1),m 7 32,m 8 33] [0,3,7,8,2000000]) (.goto 2)
abbrev Ry:AK:=.seq (.aa [m 44 5,m 2 44] [2,2000000]) .ret
abbrev Rx:AK:=.seq (.aa [m 42 5,bi 43 .neq 42 0] [0,3,5,7,8,43,2000000]) (.cond (.t 43) Ry .skip)
abbrev Rw:AK:=.seq (.aa [m 37 0,.al (some 38) false 64038 163 [(.t 37)],m 36 38,.v 39 (.ext (.t 36) 0),.v 40 (.ext (.t 36) 1),.v 41 (.ext (.t 36) 2),m 7 39,m 8 40,m 5 41] [0,3,5,7,8,2000000]) Rx
abbrev Ru:AK:=.seq Rw (.goto 2)
abbrev Rt:AK:=.seq (.aa [.v 35 (.bin .eql (.t 20) (.c (.int .u32 2))),m 34 35] [0,3,34,2000000]) (.cond (.t 34) Ru .skip)
abbrev Rr:AK:=.seq (.aa [.v 29 (.bin .eql (.t 20) (.c (.int .u32 1))),m 28 29] [0,3,20,28,2000000]) (.cond (.t 28) Rs Rt)
abbrev Rl:AK:=.seq (.aa [.v 22 (.bin .eql (.t 20) (.c (.int .u32 0))),m 21 22] [0,3,20,21,2000000]) (.cond (.t 21) Rm Rr)
abbrev Rk:AK:=.seq (.aa [m 19 3,.v 20 (.bin .shr (.t 19) (.c (.int .u64 1)))] [0,3,20,2000000]) (.block 0 Rl)
abbrev RF:AK:=.seq Rk RG
abbrev RC:AK:=.seq (.aa [k 2 (ci 6)] [2,2000000]) .ret
abbrev RA:AK:=.seq (.aa [m 17 4,.v 18 (.un .not (.t 17))] [0,3,18,2000000]) (.cond (.t 18) RC .skip)
abbrev Rz:AK:=.seq (.aa [m 10 0,.v 11 (.aq (.t 10)),.v 12 (.an false 0 1 (.t 11)),.v 13 (.ld false 1 (.t 12)),.al (some 14) false 64014 161 [(.t 13),(ci 3)],m 9 14,.v 15 (.ext (.t 9) 0),.v 16 (.ext (.t 9) 1),m 3 15,m 4 16] [0,3,4,2000000]) RA
abbrev oJ:AK:=.seq Rz RF
def RE:AK:=.seq (.label 0) (.bp oJ)
abbrev Rv:AK:=.seq (.aa [k 7 (.c (.lit (.pointer none))),k 8 (.c (.lit (.pointer none)))] [0,2000000]) RE
abbrev Rn:AK:=.seq (.aa [k 6 (ci 0)] [0,2000000]) Rv
abbrev Re:AK:=.seq (.aa [k 5 (ci 0)] [0,2000000]) Rn
abbrev Q6:AK:=.seq (.aa [k 4 (.c (.bool false))] [0,2000000]) Re
abbrev QX:AK:=.seq (.aa [k 3 (.c (.int .u32 0))] [0,2000000]) Q6
abbrev RH:AK:=.scope QX
abbrev QW:AK:=.seq (.aa [k 2 (ci 0)] [0,2000000]) RH
abbrev wU:AK:=QW
theorem RI:aD Tryz.prog 120 64000 1 wU [.tmp 2]:=⟨_,Tryz.func120,by kernel_rfl⟩
theorem RN {h a0 Post} (hp:aF Tryz.prog wU [.tmp 2] 1 [(0,a0),(2000000,a0)] h Post):Eng.Spec Tryz.prog 120 h [a0] Post:=aG RI rfl [(0,a0),(2000000,a0)] ⟨rfl,rfl,trivial⟩ hp
abbrev PL:AK:=.seq (.aa [u 65038 38 (.ah (.t 9)),u 65039 39 (.aq (.t 38)),u 65040 40 (.an false 1 1 (.t 39)),u 65041 41 (.ld false 1 (.t 40)),u 65042 42 (.fZ (.t 41)),u 65043 43 (.ah (.t 9)),u 65044 44 (.aq (.t 43)),u 65045 45 (.an false 0 1 (.t 44)),u 65046 46 (.ld false 1 (.t 45)),.al (some 47) true 65047 121 [(.t 46)],m 6 42,m 7 47,k 8 (ci 0)] [6,7,8]) .ret
abbrev PO:AK:=.seq (.aa [m 37 10,k 6 (.c (.str [])),k 7 (ci 0),m 8 37] [6,7,8]) .ret
abbrev PN:AK:=.seq (.aa [m 35 10,bi 36 .neq 35 0] [9,10,36]) (.cond (.t 36) PO .skip)
abbrev PM:AK:=.seq (.aa [m 33 9,.al (some 34) false 65034 120 [(.t 33)],m 10 34] [9,10]) PN
abbrev PK:AK:=.seq PM PL
abbrev PJ:AK:=.seq (.aa [m 27 0,m 28 1,.al (some 29) false 65029 119 [(.t 27),(.t 28)],m 30 2,.v 31 (.bQ [.lit (.pointer none),.aj,.int .i64 0] [(0,1,(.t 29)),(2,1,(.t 30))]),.eff 32 false 65032 (.box 3 (.t 31)),m 9 32] [9]) PK
abbrev PH:AK:=.seq (.aa [k 6 (.c (.str [])),k 7 (ci 0),k 8 (ci 1)] [6,7,8]) .ret
abbrev PQ:AK:=.seq (.aa [m 11 1,bi 12 .lss 11 0,m 13 12,.af 14 13 false false 65014 (.ah (.t 1)),.af 15 13 false false 65015 (.ah (.t 0)),.af 16 13 false false 65016 (.len true (.t 15)),.af 17 13 false false 65017 (.bin .gtr (.t 14) (.t 16)),.v 18 (.pick (.t 13) (.c (.bool true)) (.t 17)),m 19 18,.af 20 19 false false 65020 (.ah (.t 2)),.af 21 19 false false 65021 (.bin .lss (.t 20) (ci 0)),.v 22 (.pick (.t 19) (.c (.bool true)) (.t 21)),m 23 22,.af 24 23 false false 65024 (.ah (.t 2)),.af 25 23 false false 65025 (.bin .gtr (.t 24) (ci 65536)),.v 26 (.pick (.t 23) (.c (.bool true)) (.t 25))] [0,1,2,26]) (.cond (.t 26) PH .skip)
abbrev PG:AK:=.seq PQ PJ
abbrev PF:AK:=.seq (.aa [k 6 (.c (.str [])),k 7 (ci 0),k 8 (ci 0)] [0,1,2]) PG
abbrev inflate:AK:=PF
theorem PR:aD Tryz.prog 70 65000 3 inflate [.tmp 6,.tmp 7,.tmp 8]:=⟨_,Tryz.func70,by kernel_rfl⟩
theorem PU {h a0 a1 a2 Post} (hp:aF Tryz.prog inflate [.tmp 6,.tmp 7,.tmp 8] 3 [(0,a0),(1,a1),(2,a2)] h Post):Eng.Spec Tryz.prog 70 h [a0,a1,a2] Post:=aG PR rfl [(0,a0),(1,a1),(2,a2)] ⟨rfl,rfl,rfl,trivial⟩ hp
abbrev Pa:AK:=.seq (.aa [m 46 5,m 47 7,m 0 46,m 1 47] [0,1]) .ret
abbrev O9:AK:=.seq (.aa [m 42 3,.al (some 43) false 66043 176 [(.t 42)],m 41 43,.v 44 (.ext (.t 41) 0),.v 45 (.ext (.t 41) 1),m 7 44,m 8 45] [5,7]) Pa
abbrev O8:AK:=.seq (.aa [m 37 2,.al (some 38) false 66038 176 [(.t 37)],m 36 38,.v 39 (.ext (.t 36) 0),.v 40 (.ext (.t 36) 1),m 5 39,m 6 40] [3,5]) O9
abbrev OQ:AK:=.aa [bi 35 .add 30 1,m 30 35] [2,3,30]
abbrev OS:AK:=.aa [m 32 3,.eff 33 false 66033 (.a6 1 [(ci 5)]),.eff 34 false 66034 (.app 1 8 (.t 32) (.t 33)),m 3 34] [2,3,30]
abbrev OP:AK:=.seq (.block 4 OS) OQ
abbrev OO:AK:=.seq (.cond (.t 31) .skip (.exit 3)) OP
abbrev Pc:AK:=.seq (.aa [bi 31 .lss 30 32] [2,3,30,31]) OO
abbrev Pd:AK:=.loop Pc
abbrev Pb:AK:=.seq (.aa [k 30 (ci 0)] [2,3,30]) (.block 3 Pd)
abbrev O3:AK:=.seq Pb O8
abbrev OY:AK:=.aa [bi 29 .add 9 1,m 9 29] [2,3,9]
abbrev O1:AK:=.aa [m 20 2,.eff 21 false 66021 (.a6 1 [(ci 8)]),.eff 22 false 66022 (.app 1 8 (.t 20) (.t 21)),m 2 22] [2,3,9]
abbrev O4:AK:=.aa [m 26 2,.eff 27 false 66027 (.a6 1 [(ci 9)]),.eff 28 false 66028 (.app 1 8 (.t 26) (.t 27)),m 2 28] [2,3,9]
abbrev O5:AK:=.aa [m 12 2,.eff 13 false 66013 (.a6 1 [(ci 7)]),.eff 14 false 66014 (.app 1 8 (.t 12) (.t 13)),m 2 14] [2,3,9]
abbrev O2:AK:=.seq (.aa [m 24 4,bi 25 .lss 24 256,m 23 25] [2,3,9,23]) (.cond (.t 23) O4 O5)
abbrev O7:AK:=.aa [m 18 4,bi 19 .geq 18 280,m 15 19] [2,3,4,9,15]
abbrev O6:AK:=.seq (.aa [m 16 4,bi 17 .lss 16 144,m 15 17] [2,3,4,9,15]) (.cond (.t 15) .skip O7)
def O0:AK:=.seq O6 (.bp (.cond (.t 15) O1 O2))
abbrev OZ:AK:=.seq (.aa [m 11 9,m 4 11] [2,3,4,9]) (.block 2 O0)
abbrev OX:AK:=.seq (.block 1 OZ) OY
abbrev OV:AK:=.seq (.cond (.t 10) .skip (.exit 0)) OX
abbrev OU:AK:=.seq (.aa [bi 10 .lss 9 288] [2,3,9,10]) OV
abbrev Pe:AK:=.loop OU
abbrev OT:AK:=.seq (.aa [k 9 (ci 0)] [2,3,9]) (.block 0 Pe)
abbrev OW:AK:=.seq OT O3
abbrev OM:AK:=.seq (.aa [k 2 (.c (.aj)),k 3 (.c (.aj))] [2,3]) OW
abbrev OL:AK:=.seq (.aa [k 0 (.c (.lit (.pointer none))),k 1 (.c (.lit (.pointer none)))] []) OM
abbrev wJ:AK:=OL
theorem Pf:aD Tryz.prog 134 66000 0 wJ [.tmp 0,.tmp 1]:=⟨_,Tryz.func134,by kernel_rfl⟩
theorem Ph {h Post} (hp:aF Tryz.prog wJ [.tmp 0,.tmp 1] 0 [] h Post):Eng.Spec Tryz.prog 134 h [] Post:=aG Pf rfl [] trivial hp
abbrev P4:AK:=.seq (.aa [.v 1 (.bQ [.int .i64 0,.int .i64 0,.int .i64 0,.int .i64 0,.int .i64 0,.int .i64 0,.int .i64 0,.int .i64 0,.int .i64 0,.int .i64 0,.int .i64 0,.int .i64 0,.int .i64 0,.int .i64 0,.int .i64 0,.int .i64 0,.int .i64 0,.int .i64 0,.int .i64 0] [(0,1,(ci 16)),(1,1,(ci 17)),(2,1,(ci 18)),(3,1,(ci 0)),(4,1,(ci 8)),(5,1,(ci 7)),(6,1,(ci 9)),(7,1,(ci 6)),(8,1,(ci 10)),(9,1,(ci 5)),(10,1,(ci 11)),(11,1,(ci 4)),(12,1,(ci 12)),(13,1,(ci 3)),(14,1,(ci 13)),(15,1,(ci 2)),(16,1,(ci 14)),(17,1,(ci 1)),(18,1,(ci 15))]),.aO false 67000 (.st 19 (.t 0) (.t 1))] [0]) .ret
abbrev P3:AK:=.seq (.aa [.eff 0 false 67000 (.alloc [.int .i64 0,.int .i64 0,.int .i64 0,.int .i64 0,.int .i64 0,.int .i64 0,.int .i64 0,.int .i64 0,.int .i64 0,.int .i64 0,.int .i64 0,.int .i64 0,.int .i64 0,.int .i64 0,.int .i64 0,.int .i64 0,.int .i64 0,.int .i64 0,.int .i64 0])] [0]) P4
abbrev wQ:AK:=P3
theorem P5:aD Tryz.prog 188 67000 0 wQ [.cell 0 true 19]:=⟨_,Tryz.func188,by kernel_rfl⟩
theorem P7 {h Post} (hp:aF Tryz.prog wQ [.cell 0 true 19] 0 [] h Post):Eng.Spec Tryz.prog 188 h [] Post:=aG P5 rfl [] trivial hp
abbrev Pr:AK:=.seq (.aa [m 14 0,bi 15 .rem 14 4,.v 16 (.bin .add (ci 4) (.t 15)),m 17 4,b 18 .shl 16 17,.v 19 (.bin .add (ci 3) (.t 18)),m 20 4,m 2 19,m 3 20] [2,3]) .ret
abbrev Pq:AK:=.seq (.aa [m 11 0,bi 12 .quo 11 4,bi 13 .sub 12 1,m 4 13] [0,4]) Pr
abbrev Pt:AK:=.seq (.aa [m 9 0,.v 10 (.bin .add (ci 3) (.t 9)),m 2 10,k 3 (ci 0)] [2,3]) .ret
abbrev Ps:AK:=.seq (.aa [m 7 0,bi 8 .lss 7 8] [0,8]) (.cond (.t 8) Pt .skip)
abbrev Pp:AK:=.seq Ps Pq
abbrev Po:AK:=.seq (.aa [k 2 (ci 258),k 3 (ci 0)] [2,3]) .ret
abbrev Pu:AK:=.seq (.aa [m 5 0,bi 6 .eql 5 28] [0,6]) (.cond (.t 6) Po .skip)
abbrev Pn:AK:=.seq Pu Pp
abbrev Pm:AK:=.seq (.aa [k 2 (ci 0),k 3 (ci 0)] [0]) Pn
abbrev wK:AK:=Pm
theorem Pv:aD Tryz.prog 139 68000 1 wK [.tmp 2,.tmp 3]:=⟨_,Tryz.func139,by kernel_rfl⟩
theorem Px {h a0 Post} (hp:aF Tryz.prog wK [.tmp 2,.tmp 3] 1 [(0,a0)] h Post):Eng.Spec Tryz.prog 139 h [a0] Post:=aG Pv rfl [(0,a0)] ⟨rfl,trivial⟩ hp
abbrev Ou:AK:=.seq (.aa [m 12 0,bi 13 .rem 12 2,.v 14 (.bin .add (ci 2) (.t 13)),m 15 4,b 16 .shl 14 15,.v 17 (.bin .add (ci 1) (.t 16)),m 18 4,m 2 17,m 3 18] [2,3]) .ret
abbrev Ot:AK:=.seq (.aa [m 9 0,bi 10 .quo 9 2,bi 11 .sub 10 1,m 4 11] [0,4]) Ou
abbrev Ow:AK:=.seq (.aa [m 7 0,.v 8 (.bin .add (ci 1) (.t 7)),m 2 8,k 3 (ci 0)] [2,3]) .ret
abbrev Ov:AK:=.seq (.aa [m 5 0,bi 6 .lss 5 4] [0,6]) (.cond (.t 6) Ow .skip)
abbrev Oq:AK:=.seq Ov Ot
abbrev Oo:AK:=.seq (.aa [k 2 (ci 0),k 3 (ci 0)] [0]) Oq
abbrev wH:AK:=Oo
theorem Ox:aD Tryz.prog 140 69000 1 wH [.tmp 2,.tmp 3]:=⟨_,Tryz.func140,by kernel_rfl⟩
theorem Oz {h a0 Post} (hp:aF Tryz.prog wH [.tmp 2,.tmp 3] 1 [(0,a0)] h Post):Eng.Spec Tryz.prog 140 h [a0] Post:=aG Ox rfl [(0,a0)] ⟨rfl,trivial⟩ hp
abbrev ad9:AK:=.aa [m 9 0,m 10 1,.v 11 (.aq (.t 9)),.v 12 (.an false 4 1 (.t 11)),.aO false 70000 (.st 1 (.t 12) (.t 10))] [2000000,2000001]
abbrev ad8:AK:=.seq (.aa [m 4 0,.v 5 (.aq (.t 4)),.v 6 (.an false 4 1 (.t 5)),.v 7 (.ld false 1 (.t 6)),bi 8 .eql 7 0] [0,1,8,2000000,2000001]) (.cond (.t 8) ad9 .skip)
abbrev yR:AK:=ad8
theorem aea:aD Tryz.prog 93 70000 2 yR []:=⟨_,Tryz.func93,by kernel_rfl⟩
theorem aeb {h a0 a1 Post} (hp:aF Tryz.prog yR [] 2 [(0,a0),(1,a1),(2000000,a0),(2000001,a1)] h Post):Eng.Spec Tryz.prog 93 h [a0,a1] Post:=aG aea rfl [(0,a0),(1,a1),(2000000,a0),(2000001,a1)] ⟨rfl,rfl,rfl,rfl,trivial⟩ hp
abbrev afV:AK:=.seq (.aa [m 50 5,m 4 50] [4,2000000,2000001]) .ret
abbrev afU:AK:=.seq (.aa [m 42 0,.v 43 (.aq (.t 42)),.v 44 (.an false 1 1 (.t 43)),.v 45 (.ld false 1 (.t 44)),m 46 1,b 47 .add 45 46,.v 48 (.aq (.t 42)),.v 49 (.an false 1 1 (.t 48)),.aO false 71000 (.st 1 (.t 49) (.t 47))] [5,2000000,2000001]) afV
abbrev afT:AK:=.seq (.aa [u 71025 25 (.ah (.t 0)),u 71026 26 (.aq (.t 25)),u 71027 27 (.an false 0 1 (.t 26)),u 71028 28 (.ld false 1 (.t 27)),u 71029 29 (.ah (.t 0)),u 71030 30 (.aq (.t 29)),u 71031 31 (.an false 1 1 (.t 30)),u 71032 32 (.ld false 1 (.t 31)),u 71033 33 (.ah (.t 0)),u 71034 34 (.aq (.t 33)),u 71035 35 (.an false 1 1 (.t 34)),u 71036 36 (.ld false 1 (.t 35)),u 71037 37 (.ah (.t 1)),u 71038 38 (.bin .add (.t 36) (.t 37)),.v 39 (.fT 1 (.t 28) (some (.t 32)) (some (.t 38))),.al (some 40) false 71040 143 [(.t 39)],.v 41 (.bh .i64 (.t 40)),m 5 41] [0,1,5,2000000,2000001]) afU
abbrev afY:AK:=.seq (.aa [k 4 (ci 0)] [4,2000000,2000001]) .ret
abbrev afX:AK:=.seq (.aa [m 23 0,.al (some 24) false 71024 93 [(.t 23),(ci 6)]] [2000000,2000001]) afY
abbrev afW:AK:=.seq (.aa [u 71011 11 (.ah (.t 0)),u 71012 12 (.aq (.t 11)),u 71013 13 (.an false 1 1 (.t 12)),u 71014 14 (.ld false 1 (.t 13)),u 71015 15 (.ah (.t 1)),u 71016 16 (.bin .add (.t 14) (.t 15)),u 71017 17 (.ah (.t 0)),u 71018 18 (.aq (.t 17)),u 71019 19 (.an false 0 1 (.t 18)),u 71020 20 (.ld false 1 (.t 19)),u 71021 21 (.len false (.t 20)),b 22 .gtr 16 21] [0,1,22,2000000,2000001]) (.cond (.t 22) afX .skip)
abbrev afS:AK:=.seq afW afT
abbrev afR:AK:=.seq (.aa [k 4 (ci 0)] [4,2000000,2000001]) .ret
abbrev afQ:AK:=.seq (.aa [m 6 0,.v 7 (.aq (.t 6)),.v 8 (.an false 4 1 (.t 7)),.v 9 (.ld false 1 (.t 8)),bi 10 .neq 9 0] [0,1,10,2000000,2000001]) (.cond (.t 10) afR .skip)
abbrev afP:AK:=.seq afQ afS
abbrev afO:AK:=.seq (.aa [k 4 (ci 0)] [0,1,2000000,2000001]) afP
abbrev yX:AK:=afO
theorem afZ:aD Tryz.prog 94 71000 2 yX [.tmp 4]:=⟨_,Tryz.func94,by kernel_rfl⟩
theorem af0 {h a0 a1 Post} (hp:aF Tryz.prog yX [.tmp 4] 2 [(0,a0),(1,a1),(2000000,a0),(2000001,a1)] h Post):Eng.Spec Tryz.prog 94 h [a0,a1] Post:=aG afZ rfl [(0,a0),(1,a1),(2000000,a0),(2000001,a1)] ⟨rfl,rfl,rfl,rfl,trivial⟩ hp
abbrev agT:AK:=.seq (.aa [m 52 5,m 4 52] [4,2000000,2000001]) .ret
abbrev agS:AK:=.seq (.aa [m 44 0,.v 45 (.aq (.t 44)),.v 46 (.an false 1 1 (.t 45)),.v 47 (.ld false 1 (.t 46)),m 48 6,b 49 .add 47 48,.v 50 (.aq (.t 44)),.v 51 (.an false 1 1 (.t 50)),.aO false 72000 (.st 1 (.t 51) (.t 49))] [5,2000000,2000001]) agT
abbrev agW:AK:=.seq (.aa [k 4 (ci 0)] [4,2000000,2000001]) .ret
abbrev agV:AK:=.seq (.aa [m 41 0,m 42 7,.al (some 43) false 72043 93 [(.t 41),(.t 42)]] [2000000,2000001]) agW
abbrev agU:AK:=.seq (.aa [m 39 7,bi 40 .neq 39 0] [0,5,6,7,40,2000000,2000001]) (.cond (.t 40) agV .skip)
abbrev agR:AK:=.seq agU agS
abbrev agQ:AK:=.seq (.aa [u 72014 14 (.ah (.t 1)),u 72015 15 (.ah (.t 0)),u 72016 16 (.aq (.t 15)),u 72017 17 (.an false 0 1 (.t 16)),u 72018 18 (.ld false 1 (.t 17)),u 72019 19 (.ah (.t 0)),u 72020 20 (.aq (.t 19)),u 72021 21 (.an false 1 1 (.t 20)),u 72022 22 (.ld false 1 (.t 21)),u 72023 23 (.ah (.t 0)),u 72024 24 (.aq (.t 23)),u 72025 25 (.an false 1 1 (.t 24)),u 72026 26 (.ld false 1 (.t 25)),u 72027 27 (.bin .add (.t 26) (ci 16)),u 72028 28 (.ah (.t 0)),u 72029 29 (.aq (.t 28)),u 72030 30 (.an false 0 1 (.t 29)),u 72031 31 (.ld false 1 (.t 30)),u 72032 32 (.len false (.t 31)),u 72033 33 (.mm false (.t 27) (.t 32)),.v 34 (.fT 1 (.t 18) (some (.t 22)) (some (.t 33))),.al (some 35) false 72035 179 [(.t 14),(.t 34)],m 13 35,u 72036 36 (.ext (.t 13) 0),u 72037 37 (.ext (.t 13) 1),u 72038 38 (.ext (.t 13) 2),u 72005 5 (.ah (.t 36)),u 72006 6 (.ah (.t 37)),m 7 38] [0,5,6,7,2000000,2000001]) agR
abbrev agP:AK:=.seq (.aa [k 4 (ci 0)] [4,2000000,2000001]) .ret
abbrev agO:AK:=.seq (.aa [m 8 0,.v 9 (.aq (.t 8)),.v 10 (.an false 4 1 (.t 9)),.v 11 (.ld false 1 (.t 10)),bi 12 .neq 11 0] [0,1,12,2000000,2000001]) (.cond (.t 12) agP .skip)
abbrev agN:AK:=.seq agO agQ
abbrev agM:AK:=.seq (.aa [k 4 (ci 0)] [0,1,2000000,2000001]) agN
abbrev zj:AK:=agM
theorem agX:aD Tryz.prog 147 72000 2 zj [.tmp 4]:=⟨_,Tryz.func147,by kernel_rfl⟩
theorem agY {h a0 a1 Post} (hp:aF Tryz.prog zj [.tmp 4] 2 [(0,a0),(1,a1),(2000000,a0),(2000001,a1)] h Post):Eng.Spec Tryz.prog 147 h [a0,a1] Post:=aG agX rfl [(0,a0),(1,a1),(2000000,a0),(2000001,a1)] ⟨rfl,rfl,rfl,rfl,trivial⟩ hp
abbrev agr:AK:=.aa [m 28 0,m 29 0,.v 30 (.aq (.t 29)),.v 31 (.an false 2 1 (.t 30)),.v 32 (.ld false 1 (.t 31)),m 33 1,.eff 34 false 73034 (.a6 1 [(.t 33)]),.eff 35 false 73035 (.app 1 1 (.t 32) (.t 34)),.v 36 (.aq (.t 28)),.v 37 (.an false 2 1 (.t 36)),.aO false 73000 (.st 1 (.t 37) (.t 35))] [2000000,2000001]
abbrev zg:AK:=.seq (.aa [m 23 0,.v 24 (.aq (.t 23)),.v 25 (.an false 4 1 (.t 24)),.v 26 (.ld false 1 (.t 25)),bi 27 .eql 26 0] [0,1,27,2000000,2000001]) (.cond (.t 27) agr .skip)
abbrev ags:AK:=.aa [m 21 0,.al (some 22) false 73022 93 [(.t 21),(ci 2)]] [0,1,2000000,2000001]
abbrev zh:AK:=.seq (.aa [m 4 0,.v 5 (.aq (.t 4)),.v 6 (.an false 4 1 (.t 5)),.v 7 (.ld false 1 (.t 6)),bi 8 .eql 7 0,m 9 8,.af 10 9 true true 73010 (.ah (.t 0)),.af 11 9 true true 73011 (.aq (.t 10)),.af 12 9 true true 73012 (.an false 2 1 (.t 11)),.af 13 9 true true 73013 (.ld false 1 (.t 12)),.af 14 9 true true 73014 (.len false (.t 13)),.af 15 9 true true 73015 (.ah (.t 0)),.af 16 9 true true 73016 (.aq (.t 15)),.af 17 9 true true 73017 (.an false 3 1 (.t 16)),.af 18 9 true true 73018 (.ld false 1 (.t 17)),.af 19 9 true false 73019 (.bin .geq (.t 14) (.t 18)),.v 20 (.pick (.t 9) (.t 19) (.c (.bool false)))] [0,1,20,2000000,2000001]) (.cond (.t 20) ags .skip)
def zf:AK:=.seq zh (.bp zg)
abbrev ze:AK:=zf
theorem sc (P:Program) (E:Env) (Q:KQ) (st:St) :
 (vcW P E zf Q st=vcW P E zh (KQ.seq P E (.bp zg) Q) st):=
 rfl
theorem agt:aD Tryz.prog 144 73000 2 ze []:=⟨_,Tryz.func144,by kernel_rfl⟩
theorem agu {h a0 a1 Post} (hp:aF Tryz.prog ze [] 2 [(0,a0),(1,a1),(2000000,a0),(2000001,a1)] h Post):Eng.Spec Tryz.prog 144 h [a0,a1] Post:=aG agt rfl [(0,a0),(1,a1),(2000000,a0),(2000001,a1)] ⟨rfl,rfl,rfl,rfl,trivial⟩ hp
abbrev agH:AK:=.aa [m 41 4,bi 42 .add 41 1,m 4 42] [0,2,4,2000000]
abbrev agy:AK:=.aa [m 45 0,m 46 5,.v 47 (.bh .u8 (.t 46)),.al (some 48) false 74048 144 [(.t 45),(.t 47)]] [0,2,4,2000000]
abbrev agx:AK:=.seq (.aa [m 43 0,.al (some 44) false 74044 94 [(.t 43),(ci 8)],m 5 44] [0,2,4,5,2000000]) agy
abbrev agG:AK:=.seq (.block 1 agx) agH
abbrev agz:AK:=.seq (.aa [m 31 4,m 32 2,b 33 .lss 31 32,m 34 33,.af 35 34 true false 74035 (.ah (.t 0)),.af 36 34 true false 74036 (.aq (.t 35)),.af 37 34 true false 74037 (.an false 4 1 (.t 36)),.af 38 34 true false 74038 (.ld false 1 (.t 37)),.af 39 34 true false 74039 (.bin .eql (.t 38) (ci 0)),.v 40 (.pick (.t 34) (.t 39) (.c (.bool false)))] [0,2,4,40,2000000]) (.cond (.t 40) .skip (.exit 0))
abbrev agF:AK:=.seq agz agG
abbrev agI:AK:=.loop agF
abbrev agE:AK:=.seq (.aa [k 4 (ci 0)] [0,2,4,2000000]) (.block 0 agI)
abbrev agB:AK:=.aa [m 29 0,.al (some 30) false 74030 93 [(.t 29),(ci 3)]] [0,2,2000000]
abbrev agA:AK:=.seq (.aa [m 18 0,.v 19 (.aq (.t 18)),.v 20 (.an false 4 1 (.t 19)),.v 21 (.ld false 1 (.t 20)),bi 22 .eql 21 0,m 23 22,.af 24 23 true false 74024 (.ah (.t 2)),.af 25 23 true false 74025 (.ah (.t 3)),.af 26 23 true false 74026 (.bin .add (.t 24) (.t 25)),.af 27 23 true false 74027 (.bin .neq (.t 26) (ci 65535)),.v 28 (.pick (.t 23) (.t 27) (.c (.bool false)))] [0,2,28,2000000]) (.cond (.t 28) agB .skip)
def agD:AK:=.seq agA (.bp agE)
abbrev agC:AK:=.seq (.aa [m 16 0,.al (some 17) false 74017 94 [(.t 16),(ci 16)],m 3 17] [0,2,3,2000000]) agD
abbrev agw:AK:=.seq (.aa [m 14 0,.al (some 15) false 74015 94 [(.t 14),(ci 16)],m 2 15] [0,2,2000000]) agC
abbrev agv:AK:=.seq (.aa [m 6 0,m 7 0,.v 8 (.aq (.t 7)),.v 9 (.an false 1 1 (.t 8)),.v 10 (.ld false 1 (.t 9)),.al (some 11) false 74011 99 [(.t 10)],.v 12 (.aq (.t 6)),.v 13 (.an false 1 1 (.t 12)),.aO false 74000 (.st 1 (.t 13) (.t 11))] [0,2000000]) agw
abbrev zi:AK:=agv
theorem agJ:aD Tryz.prog 95 74000 1 zi []:=⟨_,Tryz.func95,by kernel_rfl⟩
theorem agL {h a0 Post} (hp:aF Tryz.prog zi [] 1 [(0,a0),(2000000,a0)] h Post):Eng.Spec Tryz.prog 95 h [a0] Post:=aG agJ rfl [(0,a0),(2000000,a0)] ⟨rfl,rfl,trivial⟩ hp
abbrev adb:AK:=.seq (.aa [m 197 11,m 198 4,.v 199 (.fT 1 (.t 197) none (some (.t 198))),m 200 11,m 201 4,.v 202 (.fT 1 (.t 200) (some (.t 201)) none),m 2 199,m 3 202] [2,3,2000000]) .ret
abbrev adg:AK:=.seq (.aa [k 2 (.c (.aj)),k 3 (.c (.aj))] [2,3,2000000]) .ret
abbrev adf:AK:=.seq (.aa [m 195 0,.al (some 196) false 75196 93 [(.t 195),(ci 3)]] [2000000]) adg
abbrev ade:AK:=.seq (.aa [m 177 11,.v 178 (.aP 1 (.t 177) (ci 256)),.v 179 (.ld false 1 (.t 178)),bi 180 .eql 179 0,m 181 180,.af 182 181 false false 75182 (.ah (.t 11)),.af 183 181 false false 75183 (.ah (.t 4)),.af 184 181 false false 75184 (.fT 1 (.t 182) none (some (.t 183))),.dT 185 181 false false 75185 148 [(.t 184)],.af 186 181 false false 75186 (.bin .neq (.t 185) (ci 0)),.v 187 (.pick (.t 181) (.c (.bool true)) (.t 186)),m 188 187,.af 189 188 false false 75189 (.ah (.t 11)),.af 190 188 false false 75190 (.ah (.t 4)),.af 191 188 false false 75191 (.fT 1 (.t 189) (some (.t 190)) none),.dT 192 188 false false 75192 148 [(.t 191)],.af 193 188 false false 75193 (.bin .neq (.t 192) (ci 0)),.v 194 (.pick (.t 188) (.c (.bool true)) (.t 193))] [0,4,11,194,2000000]) (.cond (.t 194) adf .skip)
abbrev ada:AK:=.seq ade adb
abbrev adj:AK:=.seq (.aa [k 2 (.c (.aj)),k 3 (.c (.aj))] [2,3,2000000]) .ret
abbrev adh:AK:=.seq (.aa [m 172 0,.v 173 (.aq (.t 172)),.v 174 (.an false 4 1 (.t 173)),.v 175 (.ld false 1 (.t 174)),bi 176 .neq 175 0] [0,4,11,176,2000000]) (.cond (.t 176) adj .skip)
abbrev r8:AK:=.seq adh ada
abbrev ads:AK:=.aa [m 166 15,bi 167 .add 166 1,m 15 167] [0,4,5,10,11,13,14,15,2000000]
abbrev adt:AK:=.aa [m 168 11,m 169 14,.eff 170 false 75170 (.a6 1 [(.t 169)]),.eff 171 false 75171 (.app 1 8 (.t 168) (.t 170)),m 11 171] [0,4,5,10,11,13,14,15,2000000]
abbrev adr:AK:=.seq (.block 6 adt) ads
abbrev adu:AK:=.seq (.aa [m 156 15,m 157 13,b 158 .lss 156 157,m 159 158,.af 160 159 true false 75160 (.ah (.t 0)),.af 161 159 true false 75161 (.aq (.t 160)),.af 162 159 true false 75162 (.an false 4 1 (.t 161)),.af 163 159 true false 75163 (.ld false 1 (.t 162)),.af 164 159 true false 75164 (.bin .eql (.t 163) (ci 0)),.v 165 (.pick (.t 159) (.t 164) (.c (.bool false)))] [0,4,5,10,11,13,14,15,165,2000000]) (.cond (.t 165) .skip (.exit 5))
abbrev adq:AK:=.seq adu adr
abbrev ad3:AK:=.loop adq
abbrev ado:AK:=.seq (.aa [k 15 (ci 0)] [0,4,5,10,11,13,14,15,2000000]) (.block 5 ad3)
abbrev adw:AK:=.aa [m 154 0,.al (some 155) false 75155 93 [(.t 154),(ci 3)]] [0,4,5,10,11,13,14,2000000]
abbrev adv:AK:=.seq (.aa [m 139 0,.v 140 (.aq (.t 139)),.v 141 (.an false 4 1 (.t 140)),.v 142 (.ld false 1 (.t 141)),bi 143 .eql 142 0,m 144 143,.af 145 144 true false 75145 (.ah (.t 11)),.af 146 144 true false 75146 (.len false (.t 145)),.af 147 144 true false 75147 (.ah (.t 13)),.af 148 144 true false 75148 (.bin .add (.t 146) (.t 147)),.af 149 144 true false 75149 (.ah (.t 4)),.af 150 144 true false 75150 (.ah (.t 5)),.af 151 144 true false 75151 (.bin .add (.t 149) (.t 150)),.af 152 144 true false 75152 (.bin .gtr (.t 148) (.t 151)),.v 153 (.pick (.t 144) (.t 152) (.c (.bool false)))] [0,4,5,10,11,13,14,153,2000000]) (.cond (.t 153) adw .skip)
def yN:AK:=.seq adv (.bp ado)
abbrev adA:AK:=.aa [m 126 0,.al (some 127) false 75127 94 [(.t 126),(ci 2)],.v 128 (.bin .add (ci 3) (.t 127)),m 13 128] [0,4,5,10,11,13,14,2000000]
abbrev adz:AK:=.seq (.aa [m 120 11,m 121 11,.v 122 (.len false (.t 121)),bi 123 .sub 122 1,.v 124 (.aP 1 (.t 120) (.t 123)),.v 125 (.ld false 1 (.t 124)),m 14 125] [0,4,5,10,11,14,2000000]) adA
abbrev adE:AK:=.seq (.aa [k 2 (.c (.aj)),k 3 (.c (.aj))] [2,3,2000000]) .ret
abbrev adD:AK:=.seq (.aa [m 118 0,.al (some 119) false 75119 93 [(.t 118),(ci 3)]] [2000000]) adE
abbrev adB:AK:=.seq (.aa [m 115 11,.v 116 (.len false (.t 115)),bi 117 .eql 116 0] [0,4,5,10,11,117,2000000]) (.cond (.t 117) adD .skip)
abbrev ady:AK:=.seq adB adz
abbrev adH:AK:=.aa [m 131 0,.al (some 132) false 75132 94 [(.t 131),(ci 3)],.v 133 (.bin .add (ci 3) (.t 132)),m 13 133] [0,4,5,10,11,13,14,2000000]
abbrev adG:AK:=.seq (.aa [k 14 (ci 0)] [0,4,5,10,11,14,2000000]) adH
abbrev adK:AK:=.aa [m 136 0,.al (some 137) false 75137 94 [(.t 136),(ci 7)],.v 138 (.bin .add (ci 11) (.t 137)),m 13 138] [0,4,5,10,11,13,14,2000000]
abbrev adJ:AK:=.seq (.aa [k 14 (ci 0)] [0,4,5,10,11,14,2000000]) adK
abbrev adI:AK:=.seq (.aa [bi 135 .eql 112 18,m 134 135] [0,4,5,10,11,13,14,134,2000000]) (.cond (.t 134) adJ .skip)
abbrev adF:AK:=.seq (.aa [bi 130 .eql 112 17,m 129 130] [0,4,5,10,11,13,14,112,129,2000000]) (.cond (.t 129) adG adI)
abbrev adx:AK:=.seq (.aa [bi 114 .eql 112 16,m 113 114] [0,4,5,10,11,13,14,112,113,2000000]) (.cond (.t 113) ady adF)
abbrev yP:AK:=.seq (.aa [m 112 12] [0,4,5,10,11,13,14,112,2000000]) (.block 4 adx)
def adn:AK:=.seq yP (.bp yN)
abbrev adm:AK:=.seq (.aa [m 111 12,k 13 (ci 1),m 14 111] [0,4,5,10,11,12,13,14,2000000]) adn
abbrev adl:AK:=.seq (.aa [m 108 0,m 109 10,.al (some 110) false 75110 147 [(.t 108),(.t 109)],m 12 110] [0,4,5,10,11,12,2000000]) adm
abbrev adM:AK:=.seq (.aa [m 95 11,.v 96 (.len false (.t 95)),m 97 4,m 98 5,b 99 .add 97 98,b 100 .lss 96 99,m 101 100,.af 102 101 true false 75102 (.ah (.t 0)),.af 103 101 true false 75103 (.aq (.t 102)),.af 104 101 true false 75104 (.an false 4 1 (.t 103)),.af 105 101 true false 75105 (.ld false 1 (.t 104)),.af 106 101 true false 75106 (.bin .eql (.t 105) (ci 0)),.v 107 (.pick (.t 101) (.t 106) (.c (.bool false)))] [0,4,5,10,11,107,2000000]) (.cond (.t 107) .skip (.exit 2))
abbrev adk:AK:=.seq adM (.block 3 adl)
abbrev ad2:AK:=.loop adk
def yM:AK:=.seq (.block 2 ad2) (.bp r8)
abbrev ac9:AK:=.seq (.aa [.eff 94 false 75094 (.a6 1 []),m 11 94] [0,4,5,10,11,2000000]) yM
abbrev ad1:AK:=.seq (.aa [m 92 7,.al (some 93) false 75093 145 [(.t 92)],m 10 93] [0,4,5,10,2000000]) ac9
abbrev adO:AK:=.seq (.aa [k 2 (.c (.aj)),k 3 (.c (.aj))] [2,3,2000000]) .ret
abbrev adN:AK:=.seq (.aa [m 87 0,.v 88 (.aq (.t 87)),.v 89 (.an false 4 1 (.t 88)),.v 90 (.ld false 1 (.t 89)),bi 91 .neq 90 0] [0,4,5,7,91,2000000]) (.cond (.t 91) adO .skip)
abbrev yQ:AK:=.seq adN ad1
abbrev adQ:AK:=.aa [m 85 0,.al (some 86) false 75086 93 [(.t 85),(ci 3)]] [0,4,5,7,2000000]
abbrev adP:AK:=.seq (.aa [m 75 0,.v 76 (.aq (.t 75)),.v 77 (.an false 4 1 (.t 76)),.v 78 (.ld false 1 (.t 77)),bi 79 .eql 78 0,m 80 79,.af 81 80 true false 75081 (.ah (.t 7)),.dT 82 80 true false 75082 148 [(.t 81)],.af 83 80 true false 75083 (.bin .neq (.t 82) (ci 0)),.v 84 (.pick (.t 80) (.t 83) (.c (.bool false)))] [0,4,5,7,84,2000000]) (.cond (.t 84) adQ .skip)
def r9:AK:=.seq adP (.bp yQ)
abbrev adU:AK:=.aa [m 65 9,bi 66 .add 65 1,m 9 66] [0,4,5,6,7,8,9,2000000]
abbrev adV:AK:=.alt [u 75067 67 (.ah (.t 7)),m 68 8,m 69 9,.v 70 (.aP 1 (.t 68) (.t 69)),u 75072 72 (.ah (.t 0))] [.v 71 (.ld false 1 (.t 70)),.al (some 73) false 75073 94 [(.t 72),(ci 3)],.v 74 (.aP 1 (.t 67) (.t 71)),.aO false 75000 (.st 1 (.t 74) (.t 73))] [.al (some 73) false 75073 94 [(.t 72),(ci 3)],.v 71 (.ld false 1 (.t 70)),.v 74 (.aP 1 (.t 67) (.t 71)),.aO false 75000 (.st 1 (.t 74) (.t 73))] [0,4,5,6,7,8,9,2000000]
abbrev adT:AK:=.seq (.block 1 adV) adU
abbrev adW:AK:=.seq (.aa [m 55 9,m 56 6,b 57 .lss 55 56,m 58 57,.af 59 58 true false 75059 (.ah (.t 0)),.af 60 58 true false 75060 (.aq (.t 59)),.af 61 58 true false 75061 (.an false 4 1 (.t 60)),.af 62 58 true false 75062 (.ld false 1 (.t 61)),.af 63 58 true false 75063 (.bin .eql (.t 62) (ci 0)),.v 64 (.pick (.t 58) (.t 63) (.c (.bool false)))] [0,4,5,6,7,8,9,64,2000000]) (.cond (.t 64) .skip (.exit 0))
abbrev adS:AK:=.seq adW adT
abbrev ad4:AK:=.loop adS
abbrev adR:AK:=.seq (.aa [k 9 (ci 0)] [0,4,5,6,7,8,9,2000000]) (.block 0 ad4)
abbrev adL:AK:=.seq adR r9
abbrev adC:AK:=.seq (.aa [.eff 54 false 75054 (.a6 1 [(ci 16),(ci 17),(ci 18),(ci 0),(ci 8),(ci 7),(ci 9),(ci 6),(ci 10),(ci 5),(ci 11),(ci 4),(ci 12),(ci 3),(ci 13),(ci 2),(ci 14),(ci 1),(ci 15)]),m 8 54] [0,4,5,6,7,8,2000000]) adL
abbrev yO:AK:=.seq (.aa [.eff 53 false 75053 (.jr 1 8 [.int .i64 0] (ci 19) (ci 19)),m 7 53] [0,4,5,6,7,2000000]) adC
abbrev adY:AK:=.aa [m 51 0,.al (some 52) false 75052 93 [(.t 51),(ci 3)]] [0,4,5,6,2000000]
abbrev adX:AK:=.seq (.aa [m 45 4,bi 46 .gtr 45 286,m 47 46,.af 48 47 false false 75048 (.ah (.t 5)),.af 49 47 false false 75049 (.bin .gtr (.t 48) (ci 30)),.v 50 (.pick (.t 47) (.c (.bool true)) (.t 49))] [0,4,5,6,50,2000000]) (.cond (.t 50) adY .skip)
def adp:AK:=.seq adX (.bp yO)
abbrev adi:AK:=.seq (.aa [m 36 0,.al (some 37) false 75037 94 [(.t 36),(ci 5)],bi 38 .add 37 257,m 39 0,.al (some 40) false 75040 94 [(.t 39),(ci 5)],bi 41 .add 40 1,m 42 0,.al (some 43) false 75043 94 [(.t 42),(ci 4)],bi 44 .add 43 4,m 4 38,m 5 41,m 6 44] [0,4,5,6,2000000]) adp
abbrev ad0:AK:=.aa [m 34 0,.al (some 35) false 75035 93 [(.t 34),(ci 6)]] [0,2000000]
abbrev adZ:AK:=.seq (.aa [m 16 0,.v 17 (.aq (.t 16)),.v 18 (.an false 4 1 (.t 17)),.v 19 (.ld false 1 (.t 18)),bi 20 .eql 19 0,m 21 20,.af 22 21 true true 75022 (.ah (.t 0)),.af 23 21 true true 75023 (.aq (.t 22)),.af 24 21 true true 75024 (.an false 0 1 (.t 23)),.af 25 21 true true 75025 (.ld false 1 (.t 24)),.af 26 21 true true 75026 (.len false (.t 25)),.af 27 21 true true 75027 (.ah (.t 0)),.af 28 21 true true 75028 (.aq (.t 27)),.af 29 21 true true 75029 (.an false 1 1 (.t 28)),.af 30 21 true true 75030 (.ld false 1 (.t 29)),.af 31 21 true false 75031 (.bin .sub (.t 26) (.t 30)),.af 32 21 true false 75032 (.bin .lss (.t 31) (ci 14)),.v 33 (.pick (.t 21) (.t 32) (.c (.bool false)))] [0,33,2000000]) (.cond (.t 33) ad0 .skip)
def ac8:AK:=.seq adZ (.bp adi)
abbrev ac7:AK:=.seq (.aa [k 2 (.c (.aj)),k 3 (.c (.aj))] [0,2000000]) ac8
abbrev yL:AK:=ac7
theorem ad5:aD Tryz.prog 98 75000 1 yL [.tmp 2,.tmp 3]:=⟨_,Tryz.func98,by kernel_rfl⟩
theorem ad7 {h a0 Post} (hp:aF Tryz.prog yL [.tmp 2,.tmp 3] 1 [(0,a0),(2000000,a0)] h Post):Eng.Spec Tryz.prog 98 h [a0] Post:=aG ad5 rfl [(0,a0),(2000000,a0)] ⟨rfl,rfl,trivial⟩ hp
abbrev af5:AK:=.aa [m 123 16,bi 124 .add 123 1,m 16 124] [0,6,7,8,9,10,11,13,15,16,2000000,2000001,2000002]
abbrev af6:AK:=.aa [u 76125 125 (.ah (.t 0)),u 76126 126 (.ah (.t 0)),u 76127 127 (.aq (.t 126)),u 76128 128 (.an false 2 1 (.t 127)),u 76129 129 (.ld false 1 (.t 128)),u 76130 130 (.ah (.t 0)),u 76131 131 (.aq (.t 130)),u 76132 132 (.an false 2 1 (.t 131)),u 76133 133 (.ld false 1 (.t 132)),u 76134 134 (.len false (.t 133)),u 76135 135 (.ah (.t 15)),u 76136 136 (.bin .sub (.t 134) (.t 135)),.v 137 (.aP 1 (.t 129) (.t 136)),.v 138 (.ld false 1 (.t 137)),.al (some 139) false 76139 144 [(.t 125),(.t 138)]] [0,6,7,8,9,10,11,13,15,16,2000000,2000001,2000002]
abbrev af4:AK:=.seq (.block 3 af6) af5
abbrev af7:AK:=.seq (.aa [m 113 16,m 114 13,b 115 .lss 113 114,m 116 115,.af 117 116 true false 76117 (.ah (.t 0)),.af 118 116 true false 76118 (.aq (.t 117)),.af 119 116 true false 76119 (.an false 4 1 (.t 118)),.af 120 116 true false 76120 (.ld false 1 (.t 119)),.af 121 116 true false 76121 (.bin .eql (.t 120) (ci 0)),.v 122 (.pick (.t 116) (.t 121) (.c (.bool false)))] [0,6,7,8,9,10,11,13,15,16,122,2000000,2000001,2000002]) (.cond (.t 122) .skip (.exit 2))
abbrev af3:AK:=.seq af7 af4
abbrev ago:AK:=.loop af3
abbrev sb:AK:=.seq (.aa [k 16 (ci 0)] [0,6,7,8,9,10,11,13,15,16,2000000,2000001,2000002]) (.block 2 ago)
abbrev af8:AK:=.aa [m 111 0,.al (some 112) false 76112 93 [(.t 111),(ci 3)]] [0,6,7,8,9,10,11,13,15,2000000,2000001,2000002]
abbrev y8:AK:=.seq (.aa [m 97 0,.v 98 (.aq (.t 97)),.v 99 (.an false 4 1 (.t 98)),.v 100 (.ld false 1 (.t 99)),bi 101 .eql 100 0,m 102 101,.af 103 102 true false 76103 (.ah (.t 15)),.af 104 102 true false 76104 (.ah (.t 0)),.af 105 102 true false 76105 (.aq (.t 104)),.af 106 102 true false 76106 (.an false 2 1 (.t 105)),.af 107 102 true false 76107 (.ld false 1 (.t 106)),.af 108 102 true false 76108 (.len false (.t 107)),.af 109 102 true false 76109 (.bin .gtr (.t 103) (.t 108)),.v 110 (.pick (.t 102) (.t 109) (.c (.bool false)))] [0,6,7,8,9,10,11,13,15,110,2000000,2000001,2000002]) (.cond (.t 110) af8 .skip)
def sa:AK:=.seq y8 (.bp sb)
abbrev y9:AK:=.alt [u 76086 86 (.ah (.t 10)),u 76087 87 (.ah (.t 14)),u 76088 88 (.aP 1 (.t 86) (.t 87)),u 76090 90 (.ah (.t 0)),u 76091 91 (.ah (.t 11)),u 76092 92 (.ah (.t 14)),u 76093 93 (.aP 1 (.t 91) (.t 92)),u 76094 94 (.ld false 1 (.t 93))] [u 76089 89 (.ld false 1 (.t 88)),.al (some 95) false 76095 94 [(.t 90),(.t 94)],b 96 .add 89 95,m 15 96] [.al (some 95) false 76095 94 [(.t 90),(.t 94)],u 76089 89 (.ld false 1 (.t 88)),b 96 .add 89 95,m 15 96] [0,6,7,8,9,10,11,13,15,2000000,2000001,2000002]
def y7:AK:=.seq y9 (.bp sa)
abbrev af9:AK:=.seq (.aa [m 81 0,.v 82 (.aq (.t 81)),.v 83 (.an false 4 1 (.t 82)),.v 84 (.ld false 1 (.t 83)),bi 85 .neq 84 0] [0,6,7,8,9,10,11,13,14,85,2000000,2000001,2000002]) (.cond (.t 85) .ret .skip)
abbrev y5:AK:=.seq af9 y7
abbrev agb:AK:=.aa [m 79 0,.al (some 80) false 76080 93 [(.t 79),(ci 3)]] [0,6,7,8,9,10,11,13,14,2000000,2000001,2000002]
abbrev za:AK:=.seq (.aa [m 70 0,.v 71 (.aq (.t 70)),.v 72 (.an false 4 1 (.t 71)),.v 73 (.ld false 1 (.t 72)),bi 74 .eql 73 0,m 75 74,.af 76 75 true false 76076 (.ah (.t 14)),.af 77 75 true false 76077 (.bin .gtr (.t 76) (ci 29)),.v 78 (.pick (.t 75) (.t 77) (.c (.bool false)))] [0,6,7,8,9,10,11,13,14,78,2000000,2000001,2000002]) (.cond (.t 78) agb .skip)
def y0:AK:=.seq za (.bp y5)
abbrev yZ:AK:=.seq (.aa [m 67 0,m 68 7,.al (some 69) false 76069 147 [(.t 67),(.t 68)],m 14 69] [0,6,7,8,9,10,11,13,14,2000000,2000001,2000002]) y0
abbrev zb:AK:=.alt [u 76054 54 (.ah (.t 8)),u 76055 55 (.ah (.t 12)),u 76056 56 (.bin .sub (.t 55) (ci 257)),u 76057 57 (.aP 1 (.t 54) (.t 56)),u 76059 59 (.ah (.t 0)),u 76060 60 (.ah (.t 9)),u 76061 61 (.ah (.t 12)),u 76062 62 (.bin .sub (.t 61) (ci 257)),u 76063 63 (.aP 1 (.t 60) (.t 62)),u 76064 64 (.ld false 1 (.t 63))] [u 76058 58 (.ld false 1 (.t 57)),.al (some 65) false 76065 94 [(.t 59),(.t 64)],b 66 .add 58 65,m 13 66] [.al (some 65) false 76065 94 [(.t 59),(.t 64)],u 76058 58 (.ld false 1 (.t 57)),b 66 .add 58 65,m 13 66] [0,6,7,8,9,10,11,13,2000000,2000001,2000002]
def zc:AK:=.seq zb (.bp yZ)
abbrev agd:AK:=.seq (.aa [m 52 0,.al (some 53) false 76053 93 [(.t 52),(ci 3)]] [2000000,2000001,2000002]) .ret
abbrev agc:AK:=.seq (.aa [m 50 12,bi 51 .gtr 50 285] [0,6,7,8,9,10,11,12,51,2000000,2000001,2000002]) (.cond (.t 51) agd .skip)
abbrev agm:AK:=.seq agc zc
abbrev agf:AK:=.seq (.aa [m 46 0,m 47 12,.v 48 (.bh .u8 (.t 47)),.al (some 49) false 76049 144 [(.t 46),(.t 48)]] [0,6,7,8,9,10,11,2000000,2000001,2000002]) (.exit 1)
abbrev age:AK:=.seq (.aa [m 44 12,bi 45 .lss 44 256] [0,6,7,8,9,10,11,12,45,2000000,2000001,2000002]) (.cond (.t 45) agf .skip)
abbrev agl:AK:=.seq age agm
abbrev agh:AK:=.seq (.aa [m 35 0,.v 36 (.aq (.t 35)),.v 37 (.an false 4 1 (.t 36)),.v 38 (.ld false 1 (.t 37)),bi 39 .neq 38 0,m 40 39,.af 41 40 false false 76041 (.ah (.t 12)),.af 42 40 false false 76042 (.bin .eql (.t 41) (ci 256)),.v 43 (.pick (.t 40) (.c (.bool true)) (.t 42))] [0,6,7,8,9,10,11,12,43,2000000,2000001,2000002]) (.cond (.t 43) .ret .skip)
abbrev agk:AK:=.seq agh agl
abbrev agj:AK:=.seq (.aa [m 32 0,m 33 6,.al (some 34) false 76034 147 [(.t 32),(.t 33)],m 12 34] [0,6,7,8,9,10,11,12,2000000,2000001,2000002]) agk
abbrev agi:AK:=.seq (.aa [m 27 0,.v 28 (.aq (.t 27)),.v 29 (.an false 4 1 (.t 28)),.v 30 (.ld false 1 (.t 29)),bi 31 .eql 30 0] [0,6,7,8,9,10,11,31,2000000,2000001,2000002]) (.cond (.t 31) .skip (.exit 0))
abbrev aga:AK:=.seq agi (.block 1 agj)
abbrev agn:AK:=.loop aga
abbrev af2:AK:=.seq (.aa [.al (some 22) false 76022 146 [],m 21 22,.v 23 (.ext (.t 21) 0),.v 24 (.ext (.t 21) 1),.v 25 (.ext (.t 21) 2),.v 26 (.ext (.t 21) 3),m 8 23,m 9 24,m 10 25,m 11 26] [0,6,7,8,9,10,11,2000000,2000001,2000002]) (.block 0 agn)
abbrev af1:AK:=.seq (.aa [m 17 1,.al (some 18) false 76018 145 [(.t 17)],m 19 2,.al (some 20) false 76020 145 [(.t 19)],m 6 18,m 7 20] [0,6,7,2000000,2000001,2000002]) af2
abbrev yY:AK:=af1
theorem mn (P:Program) (E:Env) (Q:KQ) (st:St) :
 (vcW P E sa Q st=vcW P E y8 (KQ.seq P E (.bp sb) Q) st) ∧
 (vcW P E y7 Q st=vcW P E y9 (KQ.seq P E (.bp sa) Q) st) ∧
 (vcW P E y0 Q st=vcW P E za (KQ.seq P E (.bp y5) Q) st) ∧
 (vcW P E zc Q st=vcW P E zb (KQ.seq P E (.bp yZ) Q) st):=
 ⟨rfl,rfl,rfl,rfl⟩
theorem agp:aD Tryz.prog 97 76000 3 yY []:=⟨_,Tryz.func97,by kernel_rfl⟩
theorem agq {h a0 a1 a2 Post} (hp:aF Tryz.prog yY [] 3 [(0,a0),(1,a1),(2,a2),(2000000,a0),(2000001,a1),(2000002,a2)] h Post):Eng.Spec Tryz.prog 97 h [a0,a1,a2] Post:=aG agp rfl [(0,a0),(1,a1),(2,a2),(2000000,a0),(2000001,a1),(2000002,a2)] ⟨rfl,rfl,rfl,rfl,rfl,rfl,trivial⟩ hp
abbrev aew:AK:=.seq (.aa [m 36 2,m 37 3,m 0 36,m 1 37] [0,1]) .ret
abbrev aeA:AK:=.aa [m 31 6,bi 32 .add 31 1,m 6 32] [2,3,6]
abbrev aee:AK:=.aa [m 33 3,.eff 34 false 77034 (.a6 1 [(ci 5)]),.eff 35 false 77035 (.app 1 8 (.t 33) (.t 34)),m 3 35] [2,3,6]
abbrev aez:AK:=.seq (.block 3 aee) aeA
abbrev aef:AK:=.seq (.aa [m 29 6,bi 30 .lss 29 32] [2,3,6,30]) (.cond (.t 30) .skip (.exit 2))
abbrev aey:AK:=.seq aef aez
abbrev aeB:AK:=.loop aey
abbrev aex:AK:=.seq (.aa [k 6 (ci 0)] [2,3,6]) (.block 2 aeB)
abbrev aeu:AK:=.seq aex aew
abbrev aej:AK:=.aa [m 11 4,bi 12 .add 11 1,m 4 12] [2,3,4]
abbrev aeo:AK:=.aa [m 25 2,m 26 5,.eff 27 false 77027 (.a6 1 [(.t 26)]),.eff 28 false 77028 (.app 1 8 (.t 25) (.t 27)),m 2 28] [2,3,4]
abbrev aer:AK:=.aa [k 5 (ci 7)] [2,3,4,5]
abbrev aep:AK:=.seq (.aa [m 19 4,bi 20 .geq 19 256,m 21 20,.af 22 21 true false 77022 (.ah (.t 4)),.af 23 21 true false 77023 (.bin .lss (.t 22) (ci 280)),.v 24 (.pick (.t 21) (.t 23) (.c (.bool false)))] [2,3,4,5,24]) (.cond (.t 24) aer .skip)
abbrev aen:AK:=.seq aep aeo
abbrev aet:AK:=.aa [k 5 (ci 9)] [2,3,4,5]
abbrev aes:AK:=.seq (.aa [m 13 4,bi 14 .geq 13 144,m 15 14,.af 16 15 true false 77016 (.ah (.t 4)),.af 17 15 true false 77017 (.bin .lss (.t 16) (ci 256)),.v 18 (.pick (.t 15) (.t 17) (.c (.bool false)))] [2,3,4,5,18]) (.cond (.t 18) aet .skip)
def aem:AK:=.seq aes (.bp aen)
abbrev ael:AK:=.seq (.aa [k 5 (ci 8)] [2,3,4,5]) aem
abbrev aei:AK:=.seq (.block 1 ael) aej
abbrev aev:AK:=.seq (.aa [m 9 4,bi 10 .lss 9 288] [2,3,4,10]) (.cond (.t 10) .skip (.exit 0))
abbrev aeh:AK:=.seq aev aei
abbrev aeC:AK:=.loop aeh
abbrev aeg:AK:=.seq (.aa [k 4 (ci 0)] [2,3,4]) (.block 0 aeC)
abbrev aek:AK:=.seq aeg aeu
abbrev aed:AK:=.seq (.aa [.eff 7 false 77007 (.a6 1 []),.eff 8 false 77008 (.a6 1 []),m 2 7,m 3 8] [2,3]) aek
abbrev aec:AK:=.seq (.aa [k 0 (.c (.aj)),k 1 (.c (.aj))] []) aed
abbrev yS:AK:=aec
theorem aeD:aD Tryz.prog 96 77000 0 yS [.tmp 0,.tmp 1]:=⟨_,Tryz.func96,by kernel_rfl⟩
theorem aeF {h Post} (hp:aF Tryz.prog yS [.tmp 0,.tmp 1] 0 [] h Post):Eng.Spec Tryz.prog 96 h [] Post:=aG aeD rfl [] trivial hp
abbrev afI:AK:=.seq (.aa [m 65 4,m 66 5,m 67 9,m 68 10,m 0 65,m 1 66,m 2 67,m 3 68] [0,1,2,3]) .ret
abbrev afg:AK:=.aa [m 46 11,bi 47 .add 46 1,m 11 47] [4,5,6,9,10,11]
abbrev afm:AK:=.aa [m 61 6,m 62 12,.v 63 (.bin .shl (ci 1) (.t 62)),b 64 .add 61 63,m 6 64] [4,5,6,9,10,11]
abbrev afk:AK:=.seq (.aa [m 57 10,m 58 12,.eff 59 false 78059 (.a6 1 [(.t 58)]),.eff 60 false 78060 (.app 1 8 (.t 57) (.t 59)),m 10 60] [4,5,6,9,10,11,12]) afm
abbrev afj:AK:=.seq (.aa [m 53 9,m 54 6,.eff 55 false 78055 (.a6 1 [(.t 54)]),.eff 56 false 78056 (.app 1 8 (.t 53) (.t 55)),m 9 56] [4,5,6,9,10,11,12]) afk
abbrev afo:AK:=.aa [m 50 11,bi 51 .quo 50 2,bi 52 .sub 51 1,m 12 52] [4,5,6,9,10,11,12]
abbrev afn:AK:=.seq (.aa [m 48 11,bi 49 .geq 48 4] [4,5,6,9,10,11,12,49]) (.cond (.t 49) afo .skip)
def afi:AK:=.seq afn (.bp afj)
abbrev afh:AK:=.seq (.aa [k 12 (ci 0)] [4,5,6,9,10,11,12]) afi
abbrev aff:AK:=.seq (.block 3 afh) afg
abbrev afp:AK:=.seq (.aa [m 44 11,bi 45 .lss 44 30] [4,5,6,9,10,11,45]) (.cond (.t 45) .skip (.exit 2))
abbrev afe:AK:=.seq afp aff
abbrev afJ:AK:=.loop afe
abbrev afd:AK:=.seq (.aa [k 11 (ci 0)] [4,5,6,9,10,11]) (.block 2 afJ)
abbrev afH:AK:=.seq afd afI
abbrev afG:AK:=.seq (.aa [k 6 (ci 1)] [4,5,6,9,10]) afH
abbrev afF:AK:=.seq (.aa [.eff 42 false 78042 (.a6 1 []),.eff 43 false 78043 (.a6 1 []),m 9 42,m 10 43] [4,5,9,10]) afG
abbrev afE:AK:=.seq (.aa [m 39 5,.eff 40 false 78040 (.a6 1 [(ci 0)]),.eff 41 false 78041 (.app 1 8 (.t 39) (.t 40)),m 5 41] [4,5]) afF
abbrev afC:AK:=.seq (.aa [m 36 4,.eff 37 false 78037 (.a6 1 [(ci 258)]),.eff 38 false 78038 (.app 1 8 (.t 36) (.t 37)),m 4 38] [4,5]) afE
abbrev afu:AK:=.aa [m 17 7,bi 18 .add 17 1,m 7 18] [4,5,6,7]
abbrev afz:AK:=.aa [m 32 6,m 33 8,.v 34 (.bin .shl (ci 1) (.t 33)),b 35 .add 32 34,m 6 35] [4,5,6,7]
abbrev afy:AK:=.seq (.aa [m 28 5,m 29 8,.eff 30 false 78030 (.a6 1 [(.t 29)]),.eff 31 false 78031 (.app 1 8 (.t 28) (.t 30)),m 5 31] [4,5,6,7,8]) afz
abbrev afx:AK:=.seq (.aa [m 24 4,m 25 6,.eff 26 false 78026 (.a6 1 [(.t 25)]),.eff 27 false 78027 (.app 1 8 (.t 24) (.t 26)),m 4 27] [4,5,6,7,8]) afy
abbrev afB:AK:=.aa [m 21 7,bi 22 .quo 21 4,bi 23 .sub 22 1,m 8 23] [4,5,6,7,8]
abbrev afA:AK:=.seq (.aa [m 19 7,bi 20 .geq 19 8] [4,5,6,7,8,20]) (.cond (.t 20) afB .skip)
def afw:AK:=.seq afA (.bp afx)
abbrev afv:AK:=.seq (.aa [k 8 (ci 0)] [4,5,6,7,8]) afw
abbrev afs:AK:=.seq (.block 1 afv) afu
abbrev afD:AK:=.seq (.aa [m 15 7,bi 16 .lss 15 28] [4,5,6,7,16]) (.cond (.t 16) .skip (.exit 0))
abbrev afr:AK:=.seq afD afs
abbrev afK:AK:=.loop afr
abbrev afq:AK:=.seq (.aa [k 7 (ci 0)] [4,5,6,7]) (.block 0 afK)
abbrev aft:AK:=.seq afq afC
abbrev afl:AK:=.seq (.aa [k 6 (ci 3)] [4,5,6]) aft
abbrev afc:AK:=.seq (.aa [.eff 13 false 78013 (.a6 1 []),.eff 14 false 78014 (.a6 1 []),m 4 13,m 5 14] [4,5]) afl
abbrev afb:AK:=.seq (.aa [k 0 (.c (.aj)),k 1 (.c (.aj)),k 2 (.c (.aj)),k 3 (.c (.aj))] []) afc
abbrev yW:AK:=afb
theorem afL:aD Tryz.prog 146 78000 0 yW [.tmp 0,.tmp 1,.tmp 2,.tmp 3]:=⟨_,Tryz.func146,by kernel_rfl⟩
theorem afN {h Post} (hp:aF Tryz.prog yW [.tmp 0,.tmp 1,.tmp 2,.tmp 3] 0 [] h Post):Eng.Spec Tryz.prog 146 h [] Post:=aG afL rfl [] trivial hp
abbrev yV:AK:=.seq (.aa [m 121 9,.v 122 (.aq (.t 121)),.v 123 (.an false 4 1 (.t 122)),.v 124 (.ld false 1 (.t 123)),u 79006 6 (.ah (.c (.str []))),u 79007 7 (.ah (ci 0)),m 8 124] [6,7,8]) .ret
abbrev aeK:AK:=.seq (.aa [u 79110 110 (.ah (.t 9)),u 79111 111 (.aq (.t 110)),u 79112 112 (.an false 2 1 (.t 111)),u 79113 113 (.ld false 1 (.t 112)),u 79114 114 (.fZ (.t 113)),u 79115 115 (.ah (.t 9)),u 79116 116 (.aq (.t 115)),u 79117 117 (.an false 1 1 (.t 116)),u 79118 118 (.ld false 1 (.t 117)),.al (some 119) true 79119 99 [(.t 118)],u 79120 120 (.bin .quo (.t 119) (ci 8)),u 79006 6 (.ah (.t 114)),m 7 120,k 8 (ci 0)] [6,7,8]) .ret
abbrev aeJ:AK:=.seq (.aa [m 101 9,.v 102 (.aq (.t 101)),.v 103 (.an false 4 1 (.t 102)),.v 104 (.ld false 1 (.t 103)),bi 105 .eql 104 0,m 106 105,.af 107 106 true false 79107 (.ah (.t 10)),.af 108 106 true false 79108 (.bin .eql (.t 107) (ci 1)),.v 109 (.pick (.t 106) (.t 108) (.c (.bool false)))] [9,109]) (.cond (.t 109) aeK .skip)
abbrev aeO:AK:=.aa [m 69 9,.al (some 70) false 79070 95 [(.t 69)]] [9,10]
abbrev aeR:AK:=.aa [m 77 9,m 78 12,m 79 13,.al (some 80) false 79080 97 [(.t 77),(.t 78),(.t 79)]] [9,10]
abbrev aeQ:AK:=.seq (.aa [.al (some 74) false 79074 96 [],m 73 74,.v 75 (.ext (.t 73) 0),.v 76 (.ext (.t 73) 1),m 12 75,m 13 76] [9,10,12,13]) aeR
abbrev aeW:AK:=.aa [m 93 9,m 94 14,m 95 15,.al (some 96) false 79096 97 [(.t 93),(.t 94),(.t 95)]] [9,10]
abbrev aeU:AK:=.seq (.aa [m 88 9,.v 89 (.aq (.t 88)),.v 90 (.an false 4 1 (.t 89)),.v 91 (.ld false 1 (.t 90)),bi 92 .eql 91 0] [9,10,14,15,92]) (.cond (.t 92) aeW .skip)
abbrev aeT:AK:=.seq (.aa [m 84 9,.al (some 85) false 79085 98 [(.t 84)],m 83 85,.v 86 (.ext (.t 83) 0),.v 87 (.ext (.t 83) 1),m 14 86,m 15 87] [9,10,14,15]) aeU
abbrev aeY:AK:=.aa [m 99 9,.al (some 100) false 79100 93 [(.t 99),(ci 3)]] [9,10]
abbrev aeX:AK:=.seq (.aa [bi 98 .eql 66 3,m 97 98] [9,10,97]) (.cond (.t 97) aeY .skip)
abbrev aeS:AK:=.seq (.aa [bi 82 .eql 66 2,m 81 82] [9,10,66,81]) (.cond (.t 81) aeT aeX)
abbrev aeP:AK:=.seq (.aa [bi 72 .eql 66 1,m 71 72] [9,10,66,71]) (.cond (.t 71) aeQ aeS)
abbrev aeM:AK:=.seq (.aa [bi 68 .eql 66 0,m 67 68] [9,10,66,67]) (.cond (.t 67) aeO aeP)
abbrev aeL:AK:=.seq (.aa [m 66 11] [9,10,66]) (.block 2 aeM)
abbrev yU:AK:=.seq (.aa [m 61 9,.v 62 (.aq (.t 61)),.v 63 (.an false 4 1 (.t 62)),.v 64 (.ld false 1 (.t 63)),bi 65 .eql 64 0] [9,10,11,65]) (.cond (.t 65) aeL .skip)
def aeI:AK:=.seq yU (.bp aeJ)
abbrev ae6:AK:=.seq (.aa [m 57 9,.al (some 58) false 79058 94 [(.t 57),(ci 1)],m 59 9,.al (some 60) false 79060 94 [(.t 59),(ci 2)],m 10 58,m 11 60] [9,10,11]) aeI
abbrev ae0:AK:=.aa [m 55 9,.al (some 56) false 79056 93 [(.t 55),(ci 6)]] [9]
abbrev aeZ:AK:=.seq (.aa [u 79044 44 (.ah (.t 9)),u 79045 45 (.aq (.t 44)),u 79046 46 (.an false 0 1 (.t 45)),u 79047 47 (.ld false 1 (.t 46)),u 79048 48 (.len false (.t 47)),u 79049 49 (.ah (.t 9)),u 79050 50 (.aq (.t 49)),u 79051 51 (.an false 1 1 (.t 50)),u 79052 52 (.ld false 1 (.t 51)),b 53 .sub 48 52,bi 54 .lss 53 3] [9,54]) (.cond (.t 54) ae0 .skip)
def ae5:AK:=.seq aeZ (.bp ae6)
abbrev ae1:AK:=.seq (.aa [m 39 9,.v 40 (.aq (.t 39)),.v 41 (.an false 4 1 (.t 40)),.v 42 (.ld false 1 (.t 41)),bi 43 .eql 42 0] [9,43]) (.cond (.t 43) .skip (.exit 0))
abbrev ae4:AK:=.seq ae1 (.block 1 ae5)
abbrev ae7:AK:=.loop ae4
abbrev aeV:AK:=.seq (.block 0 ae7) yV
abbrev aeN:AK:=.seq (.aa [m 32 0,m 33 1,.v 34 (.bX (.t 32) (some (.t 33)) none),.al (some 35) false 79035 92 [(.t 34)],m 36 2,.v 37 (.bQ [.aj,.int .i64 0,.aj,.int .i64 0,.int .i64 0] [(0,1,(.t 35)),(3,1,(.t 36))]),.eff 38 false 79038 (.box 5 (.t 37)),m 9 38] [9]) aeV
abbrev ae3:AK:=.seq (.aa [k 6 (.c (.str [])),k 7 (ci 0),k 8 (ci 1)] [6,7,8]) .ret
abbrev ae2:AK:=.seq (.aa [m 16 1,bi 17 .lss 16 0,m 18 17,.af 19 18 false false 79019 (.ah (.t 1)),.af 20 18 false false 79020 (.ah (.t 0)),.af 21 18 false false 79021 (.len true (.t 20)),.af 22 18 false false 79022 (.bin .gtr (.t 19) (.t 21)),.v 23 (.pick (.t 18) (.c (.bool true)) (.t 22)),m 24 23,.af 25 24 false false 79025 (.ah (.t 2)),.af 26 24 false false 79026 (.bin .lss (.t 25) (ci 0)),.v 27 (.pick (.t 24) (.c (.bool true)) (.t 26)),m 28 27,.af 29 28 false false 79029 (.ah (.t 2)),.af 30 28 false false 79030 (.bin .gtr (.t 29) (ci 65536)),.v 31 (.pick (.t 28) (.c (.bool true)) (.t 30))] [0,1,2,31]) (.cond (.t 31) ae3 .skip)
abbrev aeH:AK:=.seq ae2 aeN
abbrev aeG:AK:=.seq (.aa [k 6 (.c (.str [])),k 7 (ci 0),k 8 (ci 0)] [0,1,2]) aeH
abbrev yT:AK:=aeG
theorem ae8:aD Tryz.prog 50 79000 3 yT [.tmp 6,.tmp 7,.tmp 8]:=⟨_,Tryz.func50,by kernel_rfl⟩
theorem afa {h a0 a1 a2 Post} (hp:aF Tryz.prog yT [.tmp 6,.tmp 7,.tmp 8] 3 [(0,a0),(1,a1),(2,a2)] h Post):Eng.Spec Tryz.prog 50 h [a0,a1,a2] Post:=aG ae8 rfl [(0,a0),(1,a1),(2,a2)] ⟨rfl,rfl,rfl,trivial⟩ hp
abbrev KV:AK:=.seq (.aa [m 21 3,m 2 21] [2]) .ret
abbrev K0:AK:=.aa [bi 20 .add 8 1,m 8 20] [0,3,7,8]
abbrev KT:AK:=.aa [m 11 3,m 12 0,m 13 4,.v 14 (.b7 (.t 12) (.t 13)),.v 15 (.bh .u64 (.t 14)),m 16 4,.v 17 (.bin .mul (ci 8) (.t 16)),b 18 .shl 15 17,b 19 .or 11 18,m 3 19] [0,3,7,8]
abbrev KR:AK:=.seq (.aa [m 10 8,m 4 10] [0,3,4,7,8]) KT
abbrev KZ:AK:=.seq (.block 1 KR) K0
abbrev KY:AK:=.seq (.cond (.t 9) .skip (.exit 0)) KZ
abbrev KX:AK:=.seq (.aa [b 9 .lss 8 7] [0,3,7,8,9]) KY
abbrev K1:AK:=.loop KX
abbrev KW:AK:=.seq (.aa [m 5 0,.v 6 (.len true (.t 5)),.v 7 (.mm false (.t 6) (ci 8)),k 8 (ci 0)] [0,3,7,8]) (.block 0 K1)
abbrev KU:AK:=.seq KW KV
abbrev KP:AK:=.seq (.aa [k 3 (.c (.int .u64 0))] [0,3]) KU
abbrev KO:AK:=.seq (.aa [k 2 (.c (.int .u64 0))] [0]) KP
abbrev vT:AK:=KO
theorem K2:aD Tryz.prog 186 80000 1 vT [.tmp 2]:=⟨_,Tryz.func186,by kernel_rfl⟩
theorem K3 {h a0 Post} (hp:aF Tryz.prog vT [.tmp 2] 1 [(0,a0)] h Post):Eng.Spec Tryz.prog 186 h [a0] Post:=aG K2 rfl [(0,a0)] ⟨rfl,trivial⟩ hp
end Go.Proofs.YtlkmppkcbhodaaaGreatDoor.Cod
namespace Go.Proofs.YtlkmppkcbhodaaaGreatDoor.Pk
open Eng
set_option maxRecDepth 10000
def eO:Nat:=79038
def pX:Nat:=73035
attribute [go_sem] eO pX
def aB (t:Bs) (most:Nat) (S:SS):HP:=[(eO,.var [.ro 1 (bZ (bq t 0)),.int .i64 S.p,.sl pX 0 S.out.length,.int .i64 most,.int .i64 S.err]),(pX,.arr 1 (S.out.map ub))]
theorem aE {p:Prop} (h:p:=by simp(disch:=first | omega | (simp only[Lx];omega))only[go_sem,simprocAttr,aB]):p:=h
theorem bx {a b:Prop} (k:b) (h:b→a:=by intro h;simp(disch:=first | omega | (simp only[Lx];omega))only[go_sem,simprocAttr,aB];exact h):a:=h k
theorem bO {E0:Prop} {p:Prop} (e0:E0) (h:E0→p:=by intro e0;simp(disch:=first | omega | (simp only[Lx];omega))only[go_sem,simprocAttr,aB,e0]):p:=h e0
theorem bV {E0:Prop} {a b:Prop} (e0:E0) (k:b) (h:E0→b→a:=by intro e0 h;simp(disch:=first | omega | (simp only[Lx];omega))only[go_sem,simprocAttr,aB,e0];exact h):a:=h e0 k
theorem BG {E0 E1:Prop} {p:Prop} (e0:E0) (e1:E1) (h:E0→E1→p:=by intro e0 e1;simp(disch:=first | omega | (simp only[Lx];omega))only[go_sem,simprocAttr,aB,e0,e1]):p:=h e0 e1
theorem gm {E0 E1:Prop} {a b:Prop} (e0:E0) (e1:E1) (k:b) (h:E0→E1→b→a:=by intro e0 e1 h;simp(disch:=first | omega | (simp only[Lx];omega))only[go_sem,simprocAttr,aB,e0,e1];exact h):a:=h e0 e1 k
theorem ib {E0 E1 E2:Prop} {a b:Prop} (e0:E0) (e1:E1) (e2:E2) (k:b) (h:E0→E1→E2→b→a:=by intro e0 e1 e2 h;simp(disch:=first | omega | (simp only[Lx];omega))only[go_sem,simprocAttr,aB,e0,e1,e2];exact h):a:=h e0 e1 e2 k
theorem asR {E0 E1 E2 E3:Prop} {p:Prop} (e0:E0) (e1:E1) (e2:E2) (e3:E3) (h:E0→E1→E2→E3→p:=by intro e0 e1 e2 e3;simp(disch:=first | omega | (simp only[Lx];omega))only[go_sem,simprocAttr,aB,e0,e1,e2,e3]):p:=h e0 e1 e2 e3
theorem s5 {E0 E1 E2 E3:Prop} {a b:Prop} (e0:E0) (e1:E1) (e2:E2) (e3:E3) (k:b) (h:E0→E1→E2→E3→b→a:=by intro e0 e1 e2 e3 h;simp(disch:=first | omega | (simp only[Lx];omega))only[go_sem,simprocAttr,aB,e0,e1,e2,e3];exact h):a:=h e0 e1 e2 e3 k
theorem pS {E0 E1 E2 E3 E4:Prop} {a b:Prop} (e0:E0) (e1:E1) (e2:E2) (e3:E3) (e4:E4) (k:b) (h:E0→E1→E2→E3→E4→b→a:=by intro e0 e1 e2 e3 e4 h;simp(disch:=first | omega | (simp only[Lx];omega))only[go_sem,simprocAttr,aB,e0,e1,e2,e3,e4];exact h):a:=h e0 e1 e2 e3 e4 k
theorem s6 {E0 E1 E2 E3 E4 E5:Prop} {a b:Prop} (e0:E0) (e1:E1) (e2:E2) (e3:E3) (e4:E4) (e5:E5) (k:b) (h:E0→E1→E2→E3→E4→E5→b→a:=by intro e0 e1 e2 e3 e4 e5 h;simp(disch:=first | omega | (simp only[Lx];omega))only[go_sem,simprocAttr,aB,e0,e1,e2,e3,e4,e5];exact h):a:=h e0 e1 e2 e3 e4 e5 k
structure bM (t:Bs) (most:Nat) (S:SS):Prop where
 tl:t.length≤1000000
 ml:most≤1000000
 pl:S.p≤8*t.length
 ol:S.out.length≤most
theorem bM.mv {t:Bs} {most:Nat} {S S':SS} (h:bM t most S) (k:Mv t most S S'):bM t most S':=⟨h.tl,h.ml,k.q h.pl,k.o h.ol⟩
theorem nu (t:Bs):(bZ (bq t 0)).length=8*t.length:=by rw[iq,ja];omega
theorem su (t:Bs) (p:Nat):(bq t 0).drop p=bq t p:=by
 apply List.ext_getElem?
 intro j
 rw[List.getElem?_drop]
 unfold bq
 rw[List.getElem?_map,List.getElem?_map]
 by_cases h:p+j<8*t.length
 ·rw[List.getElem?_range (by omega),List.getElem?_range (by omega)]
  simp only[Option.map_some,Nat.zero_add]
 ·rw[List.getElem?_eq_none (by simp;omega),List.getElem?_eq_none (by simp;omega)];rfl
theorem eL (t:Bs) (most:Nat) (S:SS) (e:Nat):Eng.Spec Tryz.prog 93 (aB t most S) [.ab eO 0,.int .i64 e] (fun h' v ar=>h'=aB t most (b5 e S)∧v=.ai []∧ar=[.ab eO 0,.int .i64 e]):=by
 refine Cod.aeb (fun E R hN hR=>?_)
 unfold b5 at hR
 by_cases h:S.err=0
 ·rw[if_pos h]at hR
  refine bV h ?_
  exact hR.le aE ⟨rfl,rfl,rfl⟩
 ·rw[if_neg h]at hR
  have hi:¬((S.err:Int)=0):=by omega
  refine bV hi ?_
  exact hR.le aE ⟨rfl,rfl,rfl⟩
theorem fQ (t:Bs) (most:Nat) (S:SS) (h:bM t most S) (n:Nat) (hn:n≤31):Eng.Spec Tryz.prog 94 (aB t most S) [.ab eO 0,.int .i64 n]
    (fun h' v ar=>h'=aB t most (aH t n S).2∧v=.int .i64 ((aH t n S).1:Nat)∧ar=[.ab eO 0,.int .i64 n]):=by
 refine Cod.af0 (fun E R hN hR=>?_)
 obtain⟨h1,h2,h3,h4⟩:=h
 have hbl:=nu t
 by_cases he:S.err=0
 ·by_cases hl:8*t.length<S.p+n
  ·rw[jt he hl]at hR
   refine gm he hbl ?_
   refine aU (aB t most S) (eL t most S 6) (bO he) nofun ?_
   rintro h' v ar ⟨rfl,rfl,rfl⟩
   refine⟨aE,rfl,?_⟩
   rw[eF he]
   refine bx ?_
   exact hR.le aE ⟨rfl,rfl,rfl⟩
  ·rw[fA he (by omega)]at hR
   have hnb:=yb t S.p n (by omega)
   have hnl:=fy t S.p n
   have hn2:2^n≤2^31:=Nat.pow_le_pow_right (by decide) hn
   have hr3:=aaR ((bq t S.p).take n) (by rw[List.length_take];omega)
   rw[hnb]at hr3
   have es:S.p+n-S.p=n:=by omega
   refine pS he hbl @jP @su es ?_
   refine aA hr3 rfl rfl ?_
   refine wW ?_
   exact hR.le aE ⟨rfl,rfl,rfl⟩
 ·rw[j9 he]at hR
  have hi:¬((S.err:Int)=0):=by omega
  refine bV hi ?_
  exact hR.le aE ⟨rfl,rfl,rfl⟩
theorem se (t:Bs) (most:Nat) (S:SS) (h:bM t most S) (l:List Nat) (hl:∀n∈l,n≤15) (hll:l.length≤320):Eng.Spec Tryz.prog 147 (aB t most S) [.ab eO 0,.ro 1 (bD (aN l))]
    (fun h' v ar=>h'=aB t most (aQ t l S).2∧v=.int .i64 ((aQ t l S).1:Nat)∧ar=[.ab eO 0,.ro 1 (bD (aN l))]):=by
 refine Cod.agY (fun E R hN hR=>?_)
 obtain⟨h1,h2,h3,h4⟩:=h
 have hbl:=nu t
 by_cases he:S.err=0
 ·have hcl:(aN l).length=l.length:=by simp[aN]
  have hr4:=ac5 (aN l) ((bq t S.p).take 16) (by omega) (fun c hc=>by
   obtain⟨s,_,rfl⟩:=List.mem_map.1 hc
   rw[jm]
   have:=jq hl s
   omega) (by rw[List.length_take];omega)
  rw[ak4 hl]at hr4
  have hrb:=lq (aN l) (bq t S.p)
  rw[ja,hcl]at hrb
  have em:(bq t S.p).take (min (S.p+16) (8*t.length)-S.p)=(bq t S.p).take 16:=by
   by_cases hh:S.p+16≤8*t.length
   ·rw[Nat.min_eq_left hh,show S.p+16-S.p=16 by omega]
   ·rw[Nat.min_eq_right (by omega),List.take_of_length_le (by rw[ja];omega),List.take_of_length_le (by rw[ja];omega)]
  have emi:min ((S.p:Int)+16) ((8*t.length:Nat):Int)=((min (S.p+16) (8*t.length):Nat):Int):=by omega
  by_cases hr:(readL (aN l) (bq t S.p)).2.2=0
  ·rw[mN he hr]at hR
   obtain⟨g1,g2,g3⟩:=hrb hr
   rw[hr]at hr4
   generalize readL (aN l) (bq t S.p)=rr at *
   refine s6 he hbl @jP @su emi em ?_
   refine aA hr4 rfl rfl ?_
   refine wW ?_
   exact hR.le aE ⟨rfl,rfl,rfl⟩
  ·rw[mM he hr]at hR
   have hi:¬(((readL (aN l) (bq t S.p)).2.2:Int)=0):=by omega
   generalize readL (aN l) (bq t S.p)=rr at *
   refine s6 he hbl @jP @su emi em ?_
   refine aA hr4 rfl rfl ?_
   refine au hi ?_
   refine aU (aB t most S) (eL t most S rr.2.2) (bO he) nofun ?_
   rintro h' v ar ⟨rfl,rfl,rfl⟩
   refine⟨aE,rfl,?_⟩
   rw[eF he]
   refine bx ?_
   exact hR.le aE ⟨rfl,rfl,rfl⟩
 ·rw[Bc he]at hR
  have hi:¬((S.err:Int)=0):=by omega
  refine bV hi ?_
  exact hR.le aE ⟨rfl,rfl,rfl⟩
theorem sd (t:Bs) (most:Nat) (S:SS) (h:bM t most S) (c:UInt8):Eng.Spec Tryz.prog 144 (aB t most S) [.ab eO 0,.int .u8 (c.toNat:Int)]
    (fun h' v ar=>h'=aB t most (dk most c S)∧v=.ai []∧ar=[.ab eO 0,.int .u8 (c.toNat:Int)]):=by
 refine Cod.agu (fun E R hN hR=>?_)
 obtain⟨h1,h2,h3,h4⟩:=h
 unfold dk at hR
 have hc:=c.toNat_lt
 by_cases he:S.err=0
 ·rw[if_neg (by simpa using he)]at hR
  by_cases hf:most≤S.out.length
  ·rw[if_pos hf]at hR
   refine gm he @Cod.sc ?_
   refine gG ?_
   refine aU (aB t most S) (eL t most S 2) (bO he) nofun ?_
   rintro h' v ar ⟨rfl,rfl,rfl⟩
   refine⟨aE,rfl,?_⟩
   rw[eF he]
   refine bx ?_
   refine c8 hN ?_
   refine wW ?_
   exact hR.le aE ⟨rfl,rfl,rfl⟩
  ·rw[if_neg hf]at hR
   refine gm he @Cod.sc ?_
   refine gG ?_
   refine c8 hN ?_
   refine au he ?_
   refine hR.le ?_ ⟨rfl,rfl,rfl⟩
   refine bV he ?_
   rw[UInt8.ofNat_toNat]
 ·rw[if_pos he]at hR
  have hi:¬((S.err:Int)=0):=by omega
  refine gm hi @Cod.sc ?_
  (repeat(first | refine ff ?_ | refine fc ?_ | refine fe ?_)<;>simp(disch:=omega)only[go_sem,simprocAttr,aB,hi])
  refine c8 hN ?_
  refine au hi ?_
  exact hR.le aE ⟨rfl,rfl,rfl⟩
theorem si (t:Bs) (most n:Nat) (S:SS):rawS t most (n+1) S=if S.err≠0 then S else rawS t most n (dk most (UInt8.ofNat (aH t 8 S).1) (aH t 8 S).2):=rfl
theorem me {t:Bs} {most n:Nat} {S:SS} (h:bM t most S):bM t most (aH t n S).2:=h.mv eJ
theorem yc {c:Nat} (h:c<256):(UInt8.ofNat c).toNat=c:=by rw[UInt8.toNat_ofNat'];omega
theorem agK (t:Bs) (most:Nat) (S:SS) (h:bM t most S):Eng.Spec Tryz.prog 95 (aB t most S) [.ab eO 0]
    (fun h' v ar=>h'=aB t most (ep t most S)∧v=.ai []∧ar=[.ab eO 0]):=by
 refine Cod.agL (fun E R hN hR=>?_)
 unfold ep at hR
 simp only at hR
 have hup:=yF S.p (by have:=h.pl;have:=h.tl;omega)
 have h1:bM t most (gJ S):=h.mv x6
 have hp1:(gJ S).p=cz S.p:=rfl
 have ho1:(gJ S).out=S.out:=rfl
 have he1:(gJ S).err=S.err:=rfl
 refine bx ?_
 refine aA hup rfl rfl ?_
 refine wW ?_
 generalize hS1:gJ S=S1 at *
 rw[←hp1,←ho1,←he1]
 refine aU (aB t most S1) (fQ t most S1 h1 16 (by omega)) aE nofun ?_
 rintro h' v ar ⟨rfl,rfl,rfl⟩
 have h2:=me (n:=16) h1
 have hn1:=eV (t:=t) (S:=S1) (n:=16)
 generalize aH t 16 S1=a at *
 refine⟨aE,rfl,?_⟩
 refine bx ?_
 refine aU (aB t most a.2) (fQ t most a.2 h2 16 (by omega)) aE nofun ?_
 rintro h' v ar ⟨rfl,rfl,rfl⟩
 have h3:=me (n:=16) h2
 have hn2:=eV (t:=t) (S:=a.2) (n:=16)
 generalize aH t 16 a.2=b at *
 refine⟨aE,rfl,?_⟩
 refine bx ?_
 generalize hS4:(if a.1+b.1≠65535 then b5 3 b.2 else b.2)=S4 at hR
 have h4:bM t most S4:=by
  rw[←hS4]
  split
  ·exact h3.mv ix
  ·exact h3
 refine dD hN (fun _:Unit=>⟨[(0,.ab 79038 0),(2,.int .i64 (a.1:Nat)),(2000000,.ab 79038 0)],aB t most S4⟩) (fun _=>True) (fun R1 hR1=>?_) (fun _ _=>?_)
 ·by_cases he:b.2.err=0
  ·by_cases lX:a.1+b.1=65535
   ·rw[if_neg (by simpa using lX)]at hS4
    have hsi:(a.1:Int)+(b.1:Int)=65535:=by omega
    refine bo he hsi ?_
    refine dS he hsi ?_
    exact hR1 () _ trivial (.le (by rw[←hS4];exact bO he))
   ·rw[if_pos lX]at hS4
    have hsi:¬((a.1:Int)+(b.1:Int)=65535):=by omega
    refine au he ?_
    refine dS he hsi ?_
    refine aU (aB t most b.2) (eL t most b.2 3) (bO he) nofun ?_
    rintro h' v ar ⟨rfl,rfl,rfl⟩
    refine⟨aE,rfl,?_⟩
    rw[hS4]
    refine bx ?_
    exact hR1 () _ trivial (.le aE)
  ·have hi:¬((b.2.err:Int)=0):=by omega
   have hS:S4=b.2:=by rw[←hS4];unfold b5;rw[if_neg he,ite_self]
   refine au hi ?_
   refine bF hi ?_
   exact hR1 () _ trivial (.le (by rw[hS];exact aE))
 ·refine wW ?_
  refine aZ hN (fun q:Nat×SS=>⟨[(0,.ab 79038 0),(2,.int .i64 (a.1:Nat)),(4,.int .i64 q.1),(2000000,.ab 79038 0)],aB t most q.2⟩) (fun q=>q.1≤a.1∧bM t most q.2∧rawS t most (a.1-q.1) q.2=rawS t most a.1 S4) (fun q=>a.1-q.1) (0,S4) (.le aE) ⟨by omega,h4,rfl⟩ ?_
  rintro⟨i,S⟩ R1 ⟨hi,hok,hraw⟩ hR1
  simp only at hi hok hraw
  rw[←hraw]at hR
  by_cases hlt:i<a.1
  ·obtain⟨k,hk⟩:∃k,a.1-i=k+1:=⟨a.1-i-1,by omega⟩
   rw[hk,si]at hraw hR
   by_cases he:S.err=0
   ·rw[if_neg (by simpa using he)]at hraw hR
    refine bV he ?_
    refine bF he ?_
    refine aU (aB t most S) (fQ t most S hok 8 (by omega)) (bO he) nofun ?_
    rintro h' v ar ⟨rfl,rfl,rfl⟩
    have hok2:=me (n:=8) hok
    have hn8:=eV (t:=t) (S:=S) (n:=8)
    generalize aH t 8 S=c at *
    have hof:=yc hn8
    have hput:=sd t most c.2 hok2 (UInt8.ofNat c.1)
    rw[hof]at hput
    refine⟨aE,rfl,?_⟩
    refine bx ?_
    refine aU (aB t most c.2) hput aE nofun ?_
    rintro h' v ar ⟨rfl,rfl,rfl⟩
    refine⟨aE,rfl,?_⟩
    refine bx ?_
    exact hR1 (i+1,dk most (UInt8.ofNat c.1) c.2) _ (by simp only;omega) ⟨by simp only;omega,hok2.mv js,by simp only;rw[show a.1-(i+1)=k by omega];exact hraw⟩ (.le aE)
   ·rw[if_pos he]at hraw hR
    have hi2:¬((S.err:Int)=0):=by omega
    refine bx ?_
    refine bF hi2 ?_
    exact hR.le aE ⟨rfl,rfl,rfl⟩
  ·rw[show a.1-i=0 by omega]at hR
   refine bx ?_
   refine gG ?_
   exact hR.le (by simp(disch:=omega)only[go_sem,simprocAttr,aB,rawS]) ⟨rfl,rfl,rfl⟩
open Eng
set_option maxRecDepth 10000
def bG (f:Nat→Nat) (n:Nat):List Nat:=(List.range n).map f
theorem fV (f:Nat→Nat) (n:Nat):(bG f n).length=n:=by simp[bG]
theorem jD (f:Nat→Nat) (n:Nat):bG f (n+1)=bG f n++[f n]:=by simp[bG,List.range_succ]
theorem ly (f:Nat→Nat):bG f 0=[]:=(rfl)
theorem pQ (f:Nat→Nat) {n i:Nat} (h:i<n):(bG f n).getD i 0=f i:=by simp[bG,List.getD_eq_getElem?_getD,h]
theorem fi {xs:List Nat}:aI (ak xs) 0 xs.length=ak xs:=by simp[aI,ak,List.take_of_length_le]
def fixF (i:Nat):Nat:=if 256≤i∧i<280 then 7 else if 144≤i∧i<256 then 9 else 8
theorem vH:bG fixF 288=dQ:=by decide +kernel
theorem vG:bG (fun _=>5) 32=dP:=by decide +kernel
theorem iu:(∀n∈dQ,n≤15)∧dQ.length=288∧bu dQ=true:=by decide +kernel
theorem ir:(∀n∈dP,n≤15)∧dP.length=32∧bu dP=true:=by decide +kernel
set_option maxHeartbeats 1000000 in
theorem aeE:aM Tryz.prog 96 [] (.ai [.ro 1 (ak dQ),.ro 1 (ak dP)]):=by
 refine Cod.aeF (fun E R hN hR=>?_)
 refine wW ?_
 refine aZ hN (fun i:Nat=>⟨[(2,.sl 77007 0 i),(3,.sl 77008 0 0),(4,.int .i64 i)],[(77007,.arr 1 (ak (bG fixF i))),(77008,.arr 1 [])]⟩) (fun i=>i≤288) (fun i=>288-i) 0 (.le (jE @ly @hC)) (by omega) ?_
 rintro i R1 hi hR1
 have hul:=fV fixF i
 have hnl:=bS (bG fixF i)
 by_cases hlt:i<288
 ·have hus:=jD fixF i
  refine wW ?_
  refine dD hN (fun _:Unit=>⟨[(2,.sl 77007 0 i),(3,.sl 77008 0 0),(4,.int .i64 i),(5,.int .i64 (if 144≤i∧i<256 then 9 else 8:Nat))],[(77007,.arr 1 (ak (bG fixF i))),(77008,.arr 1 [])]⟩) (fun _=>True) (fun R2 hR2=>?_) (fun _ _=>?_)
  ·by_cases h1:144≤i
   ·by_cases h2:i<256
    ·refine wW ?_
     refine gG ?_
     exact hR2 () _ trivial (.le (by rw[if_pos ⟨h1,h2⟩];exact vV))
    ·refine wW ?_
     refine gG ?_
     exact hR2 () _ trivial (.le (by rw[if_neg (by omega)];exact vV))
   ·refine wW ?_
    refine gG ?_
    exact hR2 () _ trivial (.le (by rw[if_neg (by omega)];exact vV))
  ·by_cases h1:256≤i
   ·by_cases h2:i<280
    ·have hf:fixF i=7:=if_pos ⟨h1,h2⟩
     rw[hf]at hus
     refine cN @eU @eK @gH ?_
     exact hR1 (i+1) _ (by omega) (by omega) (.le (by rw[hus,←eT];exact vV))
    ·have hf:fixF i=8:=by unfold fixF;rw[if_neg (by omega),if_neg (by omega)]
     rw[hf]at hus
     rw[if_neg (by omega)]
     refine cN @eU @eK @gH ?_
     exact hR1 (i+1) _ (by omega) (by omega) (.le (by rw[hus,←eT];exact vV))
   ·have hf:fixF i=if 144≤i∧i<256 then 9 else 8:=by unfold fixF;rw[if_neg (by omega)]
    rw[hf]at hus
    refine wW ?_
    refine fK @eU @eK @gH ?_
    exact hR1 (i+1) _ (by omega) (by omega) (.le (by rw[hus,←eT];exact vV))
 ·obtain rfl:i=288:=by omega
  refine wW ?_
  refine aZ hN (fun i:Nat=>⟨[(2,.sl 77007 0 288),(3,.sl 77008 0 i),(6,.int .i64 i)],[(77007,.arr 1 (ak (bG fixF 288))),(77008,.arr 1 (ak (bG (fun _=>5) i)))]⟩) (fun i=>i≤32) (fun i=>32-i) 0 (.le (jE @ly @hC)) (by omega) ?_
  rintro i R2 hi hR2
  have hul2:=fV (fun _=>5) i
  have hnl2:=bS (bG (fun _=>5) i)
  by_cases hlt:i<32
  ·have hus:=jD (fun _=>5) i
   refine cN @eU @eK @gH ?_
   exact hR2 (i+1) _ (by omega) (by omega) (.le (by rw[hus,←eT];exact vV))
  ·obtain rfl:i=32:=by omega
   rw[vH]at *
   rw[vG]at *
   have e1:aI (ak dQ) 0 288=ak dQ:=by rw[←iu.2.1];exact fi
   have e2:aI (ak dP) 0 32=ak dP:=by rw[←ir.2.1];exact fi
   refine wW ?_
   refine hR.wk (h':=[]) (r':=.ai [.ro 1 (ak dQ),.ro 1 (ak dP)]) (ar':=[]) rfl (.bw 77007 (.bw 77008 (.le (jE e1 e2)))) ⟨rfl,rfl⟩
def gB (i:Nat):Nat:=if i<8 then 3+i else 3+(4+i%4)*2^(i/4-1)
def fN (i:Nat):Nat:=if i<8 then 0 else i/4-1
def gg (i:Nat):Nat:=if i<4 then 1+i else 1+(2+i%2)*2^(i/2-1)
def fJ (i:Nat):Nat:=if i<4 then 0 else i/2-1
theorem VP:∀i,i<28→gB (i+1)=gB i+2^fN i∧gB i=(a8 i).1∧fN i=(a8 i).2∧gB i≤300∧fN i≤8:=by decide +kernel
theorem Ic:∀i,i<30→gg (i+1)=gg i+2^fJ i∧gg i=(b4 i).1∧fJ i=(b4 i).2∧gg i≤40000∧fJ i≤15∧1≤gg i:=by decide +kernel
def eb:List Nat:=bG (fun i=>(a8 i).1) 29
def ed:List Nat:=bG (fun i=>(a8 i).2) 29
def ft:List Nat:=bG (fun i=>(b4 i).1) 30
def fu:List Nat:=bG (fun i=>(b4 i).2) 30
theorem VQ:bG gB 28++[258]=eb∧bG fN 28++[0]=ed∧bG gg 30=ft∧bG fJ 30=fu:=by decide +kernel
theorem yf (k:Nat) (h:k≤30):IntKind.i64.wrap (1*2^min k 64)=((2^k:Nat):Int):=by
 have hk:2^k≤2^30:=Nat.pow_le_pow_right (by decide) h
 rw[Nat.min_eq_left (by omega),show((1:Int)*2^k)=((2^k:Nat):Int)by rw[Int.one_mul];push_cast;rfl]
 generalize 2^k=q at hk ⊢
 exact ji (by omega)
set_option maxHeartbeats 2000000 in
theorem afM:aM Tryz.prog 146 [] (.ai [.ro 1 (ak eb),.ro 1 (ak ed),.ro 1 (ak ft),.ro 1 (ak fu)]):=by
 refine Cod.afN (fun E R hN hR=>?_)
 refine wW ?_
 refine aZ hN (fun i:Nat=>⟨[(4,.sl 78013 0 i),(5,.sl 78014 0 i),(6,.int .i64 (gB i:Nat)),(7,.int .i64 i)],[(78013,.arr 1 (ak (bG gB i))),(78014,.arr 1 (ak (bG fN i)))]⟩) (fun i=>i≤28) (fun i=>28-i) 0 (.le (by simp(disch:=omega)only[go_sem,simprocAttr,ly,hC];rfl)) (by omega) ?_
 rintro i R1 hi hR1
 have hul:=fV gB i
 have hul2:=fV fN i
 have hnl:=bS (bG gB i)
 have hnl2:=bS (bG fN i)
 by_cases hlt:i<28
 ·obtain⟨t1,_,_,t4,t5⟩:=VP i hlt
  have hus:=jD gB i
  have hus2:=jD fN i
  have hsh:=yf (fN i) (by omega)
  have hpk:2^fN i≤2^8:=Nat.pow_le_pow_right (by decide) t5
  refine wW ?_
  refine dD hN (fun _:Unit=>⟨[(4,.sl 78013 0 i),(5,.sl 78014 0 i),(6,.int .i64 (gB i:Nat)),(7,.int .i64 i),(8,.int .i64 (fN i:Nat))],[(78013,.arr 1 (ak (bG gB i))),(78014,.arr 1 (ak (bG fN i)))]⟩) (fun _=>True) (fun R2 hR2=>?_) (fun _ _=>?_)
  ·by_cases h1:8≤i
   ·have hk:fN i=i/4-1:=if_neg (by omega)
    have e4:(i:Int)/4-1=((i/4-1:Nat):Int):=by omega
    refine au e4 ?_
    exact hR2 () _ trivial (.le (by rw[hk];exact vV))
   ·have hk:fN i=0:=if_pos (by omega)
    refine wW ?_
    exact hR2 () _ trivial (.le (by rw[hk];exact vV))
  ·refine dE @eU @eK @gH hsh ?_
   exact hR1 (i+1) _ (by omega) (by omega) (.le (by rw[hus,hus2,←eT,←eT,t1];exact vV))
 ·obtain rfl:i=28:=by omega
  obtain⟨w1,w2,w3,w4⟩:=VQ
  have hl1:eb.length=29:=fV _ _
  have hl2:ed.length=29:=fV _ _
  refine cN @eU @eK @gH ?_
  rw[show(AV.int .i64 258)=.int .i64 ((258:Nat):Int)from rfl,show(AV.int .i64 0)=.int .i64 ((0:Nat):Int)from rfl,eT,eT,w1,w2]
  have hn1:=bS eb
  have hn2:=bS ed
  refine aZ hN (fun i:Nat=>⟨[(4,.sl 78013 0 29),(5,.sl 78014 0 29),(6,.int .i64 (gg i:Nat)),(9,.sl 78042 0 i),(10,.sl 78043 0 i),(11,.int .i64 i)],[(78013,.arr 1 (ak eb)),(78014,.arr 1 (ak ed)),(78042,.arr 1 (ak (bG gg i))),(78043,.arr 1 (ak (bG fJ i)))]⟩) (fun i=>i≤30) (fun i=>30-i) 0 (.le (by simp(disch:=omega)only[go_sem,simprocAttr,ly,hC];rfl)) (by omega) ?_
  rintro i R2 hi hR2
  have hul:=fV gg i
  have hul2:=fV fJ i
  have hnl:=bS (bG gg i)
  have hnl2:=bS (bG fJ i)
  by_cases hlt:i<30
  ·obtain⟨t1,_,_,t4,t5,_⟩:=Ic i hlt
   have hus:=jD gg i
   have hus2:=jD fJ i
   have hsh:=yf (fJ i) (by omega)
   have hpk:2^fJ i≤2^15:=Nat.pow_le_pow_right (by decide) t5
   refine wW ?_
   refine dD hN (fun _:Unit=>⟨[(4,.sl 78013 0 29),(5,.sl 78014 0 29),(6,.int .i64 (gg i:Nat)),(9,.sl 78042 0 i),(10,.sl 78043 0 i),(11,.int .i64 i),(12,.int .i64 (fJ i:Nat))],[(78013,.arr 1 (ak eb)),(78014,.arr 1 (ak ed)),(78042,.arr 1 (ak (bG gg i))),(78043,.arr 1 (ak (bG fJ i)))]⟩) (fun _=>True) (fun R3 hR3=>?_) (fun _ _=>?_)
   ·by_cases h1:4≤i
    ·have hk:fJ i=i/2-1:=if_neg (by omega)
     have e4:(i:Int)/2-1=((i/2-1:Nat):Int):=by omega
     refine au e4 ?_
     exact hR3 () _ trivial (.le (by rw[hk];exact vV))
    ·have hk:fJ i=0:=if_pos (by omega)
     refine wW ?_
     exact hR3 () _ trivial (.le (by rw[hk];exact vV))
   ·refine dE @eU @eK @gH hsh ?_
    exact hR2 (i+1) _ (by omega) (by omega) (.le (by rw[hus,hus2,←eT,←eT,t1];exact vV))
  ·obtain rfl:i=30:=by omega
   rw[w3]at *
   rw[w4]at *
   have e1:aI (ak eb) 0 29=ak eb:=by rw[←hl1];exact fi
   have e2:aI (ak ed) 0 29=ak ed:=by rw[←hl2];exact fi
   have e3:aI (ak ft) 0 30=ak ft:=by rw[←hul];exact fi
   have e4:aI (ak fu) 0 30=ak fu:=by rw[←hul2];exact fi
   refine wW ?_
   exact hR.wk (h':=[]) (r':=.ai [.ro 1 (ak eb),.ro 1 (ak ed),.ro 1 (ak ft),.ro 1 (ak fu)]) (ar':=[]) rfl (.bw 78013 (.bw 78014 (.bw 78042 (.bw 78043 (.le (asS e1 e2 e3 e4)))))) ⟨rfl,rfl⟩
theorem tL (most back n:Nat) (S:SS):backS most back (n+1) S=if S.err≠0 then S else backS most back n (dk most (S.out.getD (S.out.length-back) 0) S):=rfl
theorem D2 {most back:Nat} {S:SS} (h:S.err≠0):∀n,backS most back n S=S
 | 0=>rfl
 | n+1=>by rw[tL,if_pos h]
theorem yp {t:Bs} {most:Nat} {l d:List Nat} {S:SS} (h:S.err≠0):cZ t most l d S=S:=pg _ h
theorem Zm {t:Bs} {most:Nat} {l d:List Nat} {S:SS} (h0:S.p≤8*t.length) (h:S.err=0):cZ t most l d S=if(dW t most l d S).1 then(dW t most l d S).2 else cZ t most l d (dW t most l d S).2:=by
 rw[yq h0,if_neg (by simpa using h)]
def oX (t:Bs) (S:SS):Nat:=if S.err=0 then 8*t.length+1-S.p else 0
theorem xQ {t:Bs} {most:Nat} {S S':SS} (h:bM t most S) (he:S.err=0) (k:S'.err≠0∨S.p<S'.p):oX t S'<oX t S:=by
 have:=h.pl
 unfold oX
 rw[if_pos he]
 split
 ·rcases k with k | k
  ·exact absurd (by assumption) k
  ·omega
 ·omega
theorem Lj (S:SS) (i:Nat) (h:i<S.out.length):nth (S.out.map ub) i=.int .u8 ((S.out.getD i 0).toNat:Int):=by
 simp[nth,ub,List.getD_eq_getElem?_getD,h]
set_option maxHeartbeats 4000000 in
theorem zd (t:Bs) (most:Nat) (S0:SS) (h0:bM t most S0) (l d:List Nat) (hl:∀n∈l,n≤15) (hll:l.length≤320) (hd:∀n∈d,n≤15) (hdl:d.length≤320) :
    Eng.Spec Tryz.prog 97 (aB t most S0) [.ab eO 0,.ro 1 (ak l),.ro 1 (ak d)] (fun h' v ar=>h'=aB t most (cZ t most l d S0)∧v=.ai []∧ar=[.ab eO 0,.ro 1 (ak l),.ro 1 (ak d)]):=by
 refine Cod.agq (fun E R hN hR=>?_)
 have hc1:=r7 l hl hll
 have hc2:=r7 d hd hdl
 have hl1:eb.length=29:=fV _ _
 have hl2:ed.length=29:=fV _ _
 have hl3:ft.length=30:=fV _ _
 have hl4:fu.length=30:=fV _ _
 have hn1:=bS eb
 have hn2:=bS ed
 have hn3:=bS ft
 have hn4:=bS fu
 refine wW ?_
 refine aA hc1 rfl rfl ?_
 refine wW ?_
 refine aA hc2 rfl rfl ?_
 refine wW ?_
 refine aA afM rfl rfl ?_
 refine wW ?_
 generalize hF:cZ t most l d S0=F at hR
 have fin:∀S1,S1=F→R (aB t most S1) (.ai []) [.ab 79038 0,.ro 1 (ak l),.ro 1 (ak d)]:=fun S1 e=>hR.le (by rw[e];exact aE) ⟨rfl,rfl,rfl⟩
 refine aZ hN (fun S:SS=>⟨[(0,.ab 79038 0),(6,.ro 1 (bD (aN l))),(7,.ro 1 (bD (aN d))),(8,.ro 1 (ak eb)),(9,.ro 1 (ak ed)),(10,.ro 1 (ak ft)),(11,.ro 1 (ak fu)),(2000000,.ab 79038 0),(2000001,.ro 1 (ak l)),(2000002,.ro 1 (ak d))],aB t most S⟩)
  (fun S=>bM t most S∧cZ t most l d S=F) (fun S=>oX t S) S0 (.le aE) ⟨h0,hF⟩ ?_
 rintro S R1 ⟨hok,hpk⟩ hR1
 by_cases he:S.err=0
 ·have hpk0:=hpk
  rw[Zm hok.pl he]at hpk
  have hsu:=A6 (t:=t) (most:=most) (l:=l) (d:=d) he
  have hms:=k9 (t:=t) (most:=most) (l:=l) (d:=d) (S:=S)
  have hst:dW t most l d S=if(aQ t l S).2.err≠0 then(true,(aQ t l S).2)else if(aQ t l S).1=256 then(true,(aQ t l S).2)else if(aQ t l S).1<256 then(false,dk most (UInt8.ofNat (aQ t l S).1) (aQ t l S).2)else(false,c6 t most d (aQ t l S).1 (aQ t l S).2):=rfl
  have hsl:=pK (t:=t) (l:=l) he
  refine bV he ?_
  refine aU (aB t most S) (se t most S hok l hl hll) (bO he) nofun ?_
  rintro h' v ar ⟨rfl,rfl,rfl⟩
  have hok2:bM t most (aQ t l S).2:=hok.mv iX
  generalize aQ t l S=a at *
  refine⟨aE,rfl,?_⟩
  by_cases hae:a.2.err=0
  ·obtain⟨hup,hlt⟩:=hsl hae
   rw[if_neg (by simpa using hae)]at hst
   by_cases h256:a.1=256
   ·rw[if_pos h256]at hst
    rw[hst]at hpk
    simp only[if_true]at hpk
    refine gm hae h256 ?_
    refine dS hae h256 ?_
    have:=fin a.2 hpk
    simp only[aB,hae]at this
    simp(disch:=omega)only[go_sem,simprocAttr]at this
    exact this
   ·rw[if_neg h256]at hst
    have hi256:¬((a.1:Int)=256):=by omega
    by_cases hlit:a.1<256
    ·rw[if_pos hlit]at hst
     rw[hst]at hpk hsu
     simp only[Bool.false_eq_true,if_false]at hpk hsu
     have hput:=sd t most a.2 hok2 (UInt8.ofNat a.1)
     rw[yc hlit]at hput
     refine bV hae ?_
     refine dS hae hi256 ?_
     refine aU (aB t most a.2) hput (bO hae) nofun ?_
     rintro h' v ar ⟨rfl,rfl,rfl⟩
     refine⟨aE,rfl,?_⟩
     refine bx ?_
     refine hR1 (dk most (UInt8.ofNat a.1) a.2) _ (xQ hok he ?_) ⟨hok2.mv js,hpk⟩ (.le aE)
     by_cases hpe:(dk most (UInt8.ofNat a.1) a.2).err=0
     ·exact .inr (hsu hpe)
     ·exact .inl hpe
    ·rw[if_neg hlit]at hst
     rw[hst]at hpk hsu
     simp only[Bool.false_eq_true,if_false]at hpk hsu
     have next:∀S' st',bM t most S'→S'=c6 t most d a.1 a.2→Wk st' ⟨[(0,.ab 79038 0),(6,.ro 1 (bD (aN l))),(7,.ro 1 (bD (aN d))),(8,.ro 1 (ak eb)),(9,.ro 1 (ak ed)),(10,.ro 1 (ak ft)),(11,.ro 1 (ak fu)),(2000000,.ab 79038 0),(2000001,.ro 1 (ak l)),(2000002,.ro 1 (ak d))],aB t most S'⟩→R1.ap st':=by
      intro S' st' ho e hw
      refine hR1 S' _ (xQ hok he ?_) ⟨ho,by rw[e];exact hpk⟩ hw
      rw[e]
      by_cases hpe:(c6 t most d a.1 a.2).err=0
      ·exact .inr (hsu hpe)
      ·exact .inl hpe
     have stop:∀S',S'=c6 t most d a.1 a.2→S'.err≠0→R (aB t most S') (.ai []) [.ab 79038 0,.ro 1 (ak l),.ro 1 (ak d)]:=fun S' e h=>fin S' (by rw[←e,yp h]at hpk;exact hpk)
     refine bV hae ?_
     refine dS hae hi256 ?_
     by_cases h285:285<a.1
     ·have hrep:b5 3 a.2=c6 t most d a.1 a.2:=by unfold c6;rw[if_pos h285]
      have:=stop _ hrep (gT (by omega))
      simp only[aB]at this
      simp(disch:=omega)only[go_sem,simprocAttr]at this
      refine wW ?_
      refine aU (aB t most a.2) (eL t most a.2 3) (bO hae) nofun ?_
      rintro h' v ar ⟨rfl,rfl,rfl⟩
      refine⟨aE,rfl,?_⟩
      refine bx ?_
      exact this
     ·have hrep:c6 t most d a.1 a.2=if(aQ t d (aH t (a8 (a.1-257)).2 a.2).2).2.err≠0 then(aQ t d (aH t (a8 (a.1-257)).2 a.2).2).2 else if 29<(aQ t d (aH t (a8 (a.1-257)).2 a.2).2).1 then b5 3 (aQ t d (aH t (a8 (a.1-257)).2 a.2).2).2 else
          (if(aH t (b4 (aQ t d (aH t (a8 (a.1-257)).2 a.2).2).1).2 (aQ t d (aH t (a8 (a.1-257)).2 a.2).2).2).2.err≠0 then(aH t (b4 (aQ t d (aH t (a8 (a.1-257)).2 a.2).2).1).2 (aQ t d (aH t (a8 (a.1-257)).2 a.2).2).2).2
          else if(aH t (b4 (aQ t d (aH t (a8 (a.1-257)).2 a.2).2).1).2 (aQ t d (aH t (a8 (a.1-257)).2 a.2).2).2).2.out.length<(b4 (aQ t d (aH t (a8 (a.1-257)).2 a.2).2).1).1+(aH t (b4 (aQ t d (aH t (a8 (a.1-257)).2 a.2).2).1).2 (aQ t d (aH t (a8 (a.1-257)).2 a.2).2).2).1
          then b5 3 (aH t (b4 (aQ t d (aH t (a8 (a.1-257)).2 a.2).2).1).2 (aQ t d (aH t (a8 (a.1-257)).2 a.2).2).2).2
          else backS most ((b4 (aQ t d (aH t (a8 (a.1-257)).2 a.2).2).1).1+(aH t (b4 (aQ t d (aH t (a8 (a.1-257)).2 a.2).2).1).2 (aQ t d (aH t (a8 (a.1-257)).2 a.2).2).2).1) ((a8 (a.1-257)).1+(aH t (a8 (a.1-257)).2 a.2).1) (aH t (b4 (aQ t d (aH t (a8 (a.1-257)).2 a.2).2).1).2 (aQ t d (aH t (a8 (a.1-257)).2 a.2).2).2).2):=by
       unfold c6;rw[if_neg h285]
      have hg1:eb.getD (a.1-257) 0=(a8 (a.1-257)).1:=pQ _ (by omega)
      have hg2:ed.getD (a.1-257) 0=(a8 (a.1-257)).2:=pQ _ (by omega)
      have hlb:(a8 (a.1-257)).1≤300∧(a8 (a.1-257)).2≤8:=(by decide +kernel:∀i,i<29→(a8 i).1≤300∧(a8 i).2≤8) _ (by omega)
      obtain⟨hlb1,hlb2⟩:=hlb
      generalize hB:a8 (a.1-257)=lb at *
      have ei:(a.1:Int)-257=((a.1-257:Nat):Int):=by omega
      have hnum:=fQ t most a.2 hok2 lb.2 (by omega)
      have hb1:=eV (t:=t) (S:=a.2) (n:=lb.2)
      have hb2:2^lb.2≤2^8:=Nat.pow_le_pow_right (by decide) hlb2
      have hok3:=me (n:=lb.2) hok2
      refine wW ?_
      refine dD hN (fun _:Unit=>⟨[(0,.ab 79038 0),(6,.ro 1 (bD (aN l))),(7,.ro 1 (bD (aN d))),(8,.ro 1 (ak eb)),(9,.ro 1 (ak ed)),(10,.ro 1 (ak ft)),(11,.ro 1 (ak fu)),(13,.int .i64 (lb.1+(aH t lb.2 a.2).1:Nat)),(2000000,.ab 79038 0),(2000001,.ro 1 (ak l)),(2000002,.ro 1 (ak d))],aB t most (aH t lb.2 a.2).2⟩) (fun _=>True) (fun R2 hR2=>?_) (fun _ _=>?_)
      ·simp(disch:=omega)only[go_sem,simprocAttr,ei,hn1,hn2,hl1,hl2,dJ,hg1,hg2]
       refine⟨?_,?_⟩
       ·refine aU (aB t most a.2) hnum (bO hae) nofun ?_
        rintro h' v ar ⟨rfl,rfl,rfl⟩
        refine⟨aE,rfl,?_⟩
        refine bx ?_
        exact hR2 () _ trivial (.le aE)
       ·refine aU (aB t most a.2) hnum (bO hae) nofun ?_
        rintro h' v ar ⟨rfl,rfl,rfl⟩
        refine⟨aE,rfl,?_⟩
        refine bx ?_
        exact hR2 () _ trivial (.le aE)
      generalize aH t lb.2 a.2=b at *
      refine bx ?_
      refine aU (aB t most b.2) (se t most b.2 hok3 d hd hdl) aE nofun ?_
      rintro h' v ar ⟨rfl,rfl,rfl⟩
      have hok4:bM t most (aQ t d b.2).2:=hok3.mv iX
      generalize aQ t d b.2=k at *
      refine⟨aE,rfl,?_⟩
      by_cases hke:k.2.err=0
      ·rw[if_neg (by simpa using hke)]at hrep
       by_cases hk29:29<k.1
       ·rw[if_pos hk29]at hrep
        have:=stop _ hrep.symm (gT (by omega))
        simp only[aB]at this
        simp(disch:=omega)only[go_sem,simprocAttr]at this
        have hfe:¬(((b5 3 k.2).err:Int)=0):=by have:=gT (S:=k.2) (e:=3) (by omega);omega
        refine gm hke @Cod.mn ?_
        refine bF hke ?_
        refine aU (aB t most k.2) (eL t most k.2 3) (bO hke) nofun ?_
        rintro h' v ar ⟨rfl,rfl,rfl⟩
        refine⟨aE,rfl,?_⟩
        refine bx ?_
        refine c8 hN ?_
        refine bo hfe @Cod.mn ?_
        exact this
       ·rw[if_neg hk29]at hrep
        have hg3:ft.getD k.1 0=(b4 k.1).1:=pQ _ (by omega)
        have hg4:fu.getD k.1 0=(b4 k.1).2:=pQ _ (by omega)
        have hdb:(b4 k.1).1≤40000∧(b4 k.1).2≤15∧1≤(b4 k.1).1:=(by decide +kernel:∀i,i<30→(b4 i).1≤40000∧(b4 i).2≤15∧1≤(b4 i).1) _ (by omega)
        obtain⟨hdb1,hdb2,hdb3⟩:=hdb
        generalize b4 k.1=db at *
        have hnum:=fQ t most k.2 hok4 db.2 (by omega)
        have hc1:=eV (t:=t) (S:=k.2) (n:=db.2)
        have hc2:2^db.2≤2^15:=Nat.pow_le_pow_right (by decide) hdb2
        have hok5:=me (n:=db.2) hok4
        refine gm hke @Cod.mn ?_
        refine bF hke ?_
        refine c8 hN ?_
        refine au hke ?_
        refine dD hN (fun _:Unit=>⟨[(0,.ab 79038 0),(6,.ro 1 (bD (aN l))),(7,.ro 1 (bD (aN d))),(8,.ro 1 (ak eb)),(9,.ro 1 (ak ed)),(10,.ro 1 (ak ft)),(11,.ro 1 (ak fu)),(13,.int .i64 (lb.1+b.1:Nat)),(15,.int .i64 (db.1+(aH t db.2 k.2).1:Nat)),(2000000,.ab 79038 0),(2000001,.ro 1 (ak l)),(2000002,.ro 1 (ak d))],aB t most (aH t db.2 k.2).2⟩) (fun _=>True) (fun R2 hR2=>?_) (fun _ _=>?_)
        ·simp(disch:=omega)only[go_sem,simprocAttr,hke,hn3,hn4,hl3,hl4,dJ,hg3,hg4]
         refine⟨?_,?_⟩
         ·refine aU (aB t most k.2) hnum (bO hke) nofun ?_
          rintro h' v ar ⟨rfl,rfl,rfl⟩
          refine⟨aE,rfl,?_⟩
          refine bx ?_
          exact hR2 () _ trivial (.le aE)
         ·refine aU (aB t most k.2) hnum (bO hke) nofun ?_
          rintro h' v ar ⟨rfl,rfl,rfl⟩
          refine⟨aE,rfl,?_⟩
          refine bx ?_
          exact hR2 () _ trivial (.le aE)
        generalize aH t db.2 k.2=c at *
        -- is the place ahead of all that came out?
        have copy:∀S1,bM t most S1→(S1.err≠0→S1=c6 t most d a.1 a.2)→(S1.err=0→db.1+c.1≤S1.out.length∧backS most (db.1+c.1) (lb.1+b.1) S1=c6 t most d a.1 a.2) →
            vcW Tryz.prog E Cod.sb (KQ.cG 1 (KQ.eM R1 (KQ.cG 0 (KQ.post [] 3 R)))) ⟨[(0,.ab 79038 0),(6,.ro 1 (bD (aN l))),(7,.ro 1 (bD (aN d))),(8,.ro 1 (ak eb)),(9,.ro 1 (ak ed)),(10,.ro 1 (ak ft)),(11,.ro 1 (ak fu)),(13,.int .i64 (lb.1+b.1:Nat)),(15,.int .i64 (db.1+c.1:Nat)),(2000000,.ab 79038 0),(2000001,.ro 1 (ak l)),(2000002,.ro 1 (ak d))],aB t most S1⟩:=by
         intro S1 ho1 hbad hgood
         refine wW ?_
         refine aZ hN (fun q:Nat×SS=>⟨[(0,.ab 79038 0),(6,.ro 1 (bD (aN l))),(7,.ro 1 (bD (aN d))),(8,.ro 1 (ak eb)),(9,.ro 1 (ak ed)),(10,.ro 1 (ak ft)),(11,.ro 1 (ak fu)),(13,.int .i64 (lb.1+b.1:Nat)),(15,.int .i64 (db.1+c.1:Nat)),(16,.int .i64 q.1),(2000000,.ab 79038 0),(2000001,.ro 1 (ak l)),(2000002,.ro 1 (ak d))],aB t most q.2⟩)
          (fun q=>q.1≤lb.1+b.1∧bM t most q.2∧(q.2.err≠0→q.2=c6 t most d a.1 a.2)∧(q.2.err=0→db.1+c.1≤q.2.out.length∧backS most (db.1+c.1) (lb.1+b.1-q.1) q.2=c6 t most d a.1 a.2)) (fun q=>lb.1+b.1-q.1) (0,S1) (.le aE) ⟨by omega,ho1,hbad,hgood⟩ ?_
         rintro⟨i,S2⟩ R2 ⟨hi,ho2,hbad2,hgood2⟩ hR2
         simp only at hi ho2 hbad2 hgood2
         by_cases he2:S2.err=0
         ·obtain⟨hbl,hbk⟩:=hgood2 he2
          by_cases hlt2:i<lb.1+b.1
          ·obtain⟨q,hq⟩:∃q,lb.1+b.1-i=q+1:=⟨lb.1+b.1-i-1,by omega⟩
           rw[hq,tL,if_neg (by simpa using he2)]at hbk
           have ej:(S2.out.length:Int)-((db.1:Int)+(c.1:Int))=((S2.out.length-(db.1+c.1):Nat):Int):=by omega
           have hgo:=Lj S2 (S2.out.length-(db.1+c.1)) (by omega)
           have hput:=sd t most S2 ho2 (S2.out.getD (S2.out.length-(db.1+c.1)) 0)
           generalize S2.out.getD (S2.out.length-(db.1+c.1)) 0=ch at *
           have hml:S2.out.length≤1000000:=Nat.le_trans ho2.ol ho2.ml
           refine ib he2 ej hgo ?_
           refine fK he2 ej hgo ?_
           refine aU (aB t most S2) hput (bO he2) nofun ?_
           rintro h' v ar ⟨rfl,rfl,rfl⟩
           refine⟨aE,rfl,?_⟩
           refine bx ?_
           refine hR2 (i+1,dk most ch S2) _ (by simp only;omega) ⟨by simp only;omega,ho2.mv js,fun hpe=>?_,fun hpe=>?_⟩ (.le aE)
           ·simp only at hpe ⊢
            rw[D2 hpe]at hbk
            exact hbk
           ·simp only at hpe ⊢
            refine⟨?_,by rw[show lb.1+b.1-(i+1)=q by omega];exact hbk⟩
            unfold dk at hpe ⊢
            rw[if_neg (by simpa using he2)]at hpe ⊢
            split at hpe
            ·cases hpe
            ·rename_i hf
             rw[if_neg hf]
             simp only[List.length_append];omega
          ·rw[show lb.1+b.1-i=0 by omega]at hbk
           refine bV he2 ?_
           refine bF he2 ?_
           exact next S2 _ ho2 hbk (.le (bO he2))
         ·have hi2:¬((S2.err:Int)=0):=by omega
          have hb2:=hbad2 he2
          by_cases hlt2:i<lb.1+b.1
          ·refine bV hi2 ?_
           refine bF hi2 ?_
           exact next S2 _ ho2 hb2 (.le aE)
          ·refine bV hi2 ?_
           refine bF hi2 ?_
           exact next S2 _ ho2 hb2 (.le aE)
        refine dD hN (fun S1:SS=>⟨[(0,.ab 79038 0),(6,.ro 1 (bD (aN l))),(7,.ro 1 (bD (aN d))),(8,.ro 1 (ak eb)),(9,.ro 1 (ak ed)),(10,.ro 1 (ak ft)),(11,.ro 1 (ak fu)),(13,.int .i64 (lb.1+b.1:Nat)),(15,.int .i64 (db.1+c.1:Nat)),(2000000,.ab 79038 0),(2000001,.ro 1 (ak l)),(2000002,.ro 1 (ak d))],aB t most S1⟩) (fun S1=>bM t most S1∧(S1.err≠0→S1=c6 t most d a.1 a.2)∧(S1.err=0→db.1+c.1≤S1.out.length∧backS most (db.1+c.1) (lb.1+b.1) S1=c6 t most d a.1 a.2)) (fun R2 hR2=>?_) (fun S1 h=>copy S1 h.1 h.2.1 h.2.2)
        by_cases hce:c.2.err=0
        ·rw[if_neg (by simpa using hce)]at hrep
         by_cases hfar:c.2.out.length<db.1+c.1
         ·rw[if_pos hfar]at hrep
          refine bV hce ?_
          refine bF hce ?_
          refine aU (aB t most c.2) (eL t most c.2 3) (bO hce) nofun ?_
          rintro h' v ar ⟨rfl,rfl,rfl⟩
          refine⟨aE,rfl,?_⟩
          refine bx ?_
          exact hR2 (b5 3 c.2) _ ⟨hok5.mv ix,fun _=>hrep.symm,fun e=>absurd e (gT (by omega))⟩ (.le aE)
         ·rw[if_neg hfar]at hrep
          refine bV hce ?_
          refine bF hce ?_
          exact hR2 c.2 _ ⟨hok5,fun e=>absurd hce e,fun _=>⟨by omega,hrep.symm⟩⟩ (.le (bO hce))
        ·rw[if_pos hce]at hrep
         have hi:¬((c.2.err:Int)=0):=by omega
         refine bV hi ?_
         refine bF hi ?_
         exact hR2 c.2 _ ⟨hok5,fun _=>hrep.symm,fun e=>absurd e hce⟩ (.le aE)
      ·rw[if_pos hke]at hrep
       have:=stop _ hrep.symm hke
       simp only[aB]at this
       simp(disch:=omega)only[go_sem,simprocAttr]at this
       have hi:¬((k.2.err:Int)=0):=by omega
       refine gm hi @Cod.mn ?_
       refine bF hi ?_
       refine c8 hN ?_
       refine bo hi @Cod.mn ?_
       exact this
  ·rw[if_pos hae]at hst
   rw[hst]at hpk
   simp only[if_true]at hpk
   have hi:¬((a.2.err:Int)=0):=by omega
   refine bV hi ?_
   refine bF hi ?_
   have:=fin a.2 hpk
   simp only[aB]at this
   simp(disch:=omega)only[go_sem,simprocAttr]at this
   exact this
 ·have hi:¬((S.err:Int)=0):=by omega
  rw[yp he]at hpk
  refine bV hi ?_
  have:=fin S hpk
  simp only[aB]at this
  simp(disch:=omega)only[go_sem,simprocAttr]at this
  exact this
abbrev Q5 (R:HP→AV→List AV→Prop):KQ:=KQ.post [.tmp 2,.tmp 3] 1 R
def kJ (t:Bs) (most:Nat) (F:(List Nat×List Nat)×SS) (h':HP) (v:AV) (ar:List AV):Prop:=
 h'=aB t most F.2∧v=(if F.2.err=0 then .ai [.ro 1 (ak F.1.1),.ro 1 (ak F.1.2)]else .ai [.aj,.aj])∧ar=[.ab eO 0]
theorem lR {t:Bs} {most:Nat} {F:(List Nat×List Nat)×SS} {R:HP→AV→List AV→Prop} (hR:cJ (kJ t most F) R) {S:SS} (hF:F=(([],[]),S)) (he:S.err≠0) {h:HP} (hh:eH h (aB t most S)) :
    R h (.ai [.aj,.aj]) [.ab 79038 0]:=by
 subst hF
 exact hR.le hh ⟨rfl,(if_neg he).symm,rfl⟩
theorem pM {l:List Nat} (h:∀n∈l,n≤15) (k:Nat):∀n∈l.take k,n≤15:=fun n hn=>h n (List.mem_of_mem_take hn)
theorem nX {l:List Nat} (h:∀n∈l,n≤15) (k:Nat):∀n∈l.drop k,n≤15:=fun n hn=>h n (List.mem_of_mem_drop hn)
set_option maxHeartbeats 2000000 in
theorem Iw (t:Bs) (most:Nat) (F:(List Nat×List Nat)×SS) (S:SS) (l:List Nat) (nl nd:Nat) {E:Env} {R:HP→AV→List AV→Prop} (hN:E.N≤1000000) (hR:cJ (kJ t most F) R) (hl:∀n∈l,n≤15)
    (hbad:S.err≠0→F=(([],[]),S)) (hgood:S.err=0→l.length=nl+nd∧257≤nl∧nl≤286∧nd≤30∧F=if l.getD 256 0=0∨bu (l.take nl)=false∨bu (l.drop nl)=false then(([],[]),{S with err:=3})else((l.take nl,l.drop nl),S)) :
    vcW Tryz.prog E Cod.r8 (Q5 R) ⟨[(0,.ab 79038 0),(4,.int .i64 nl),(11,.sl 75094 0 l.length),(2000000,.ab 79038 0)],aB t most S++[(75094,.arr 1 (ak l))]⟩:=by
 have hnl:=bS l
 by_cases he:S.err=0
 ·obtain⟨h1,h2,h3,h4,hF⟩:=hgood he
  have ht1:(l.take nl).length=nl:=by rw[List.length_take];omega
  have hd1:(l.drop nl).length=nd:=by rw[List.length_drop];omega
  have hck1:=r6 (l.take nl) (pM hl nl) (by omega)
  have hck2:=r6 (l.drop nl) (nX hl nl) (by omega)
  have es:(nl:Int)-0=nl:=by omega
  have en:l.length-nl=nd:=by omega
  have etd:(l.drop nl).take nd=l.drop nl:=List.take_of_length_le (by omega)
  have etk:(l.drop 0).take nl=l.take nl:=rfl
  have bad:F=(([],[]),{S with err:=3})→∀h,eH h (aB t most {S with err:=3})→R h (.ai [.aj,.aj]) [.ab 79038 0]:=fun hF h hh=>lR hR hF (by simp) hh
  by_cases h256:l.getD 256 0=0
  ·rw[if_pos (.inl h256)]at hF
   refine s5 he @dJ hnl h256 ?_
   refine gG ?_
   refine aU (aB t most S) (eL t most S 3) (bO he) nofun ?_
   rintro h' v ar ⟨rfl,rfl,rfl⟩
   refine⟨aE,rfl,?_⟩
   rw[eF he]
   refine bx ?_
   exact bad hF _ aE
  ·have hi256:¬((l.getD 256 0:Nat):Int)=0:=by omega
   generalize hx:l.getD 256 0=x256 at *
   cases hc1:bu (l.take nl)with
   | false=>
    rw[if_pos (.inr (.inl hc1))]at hF
    rw[hc1]at hck1
    refine pS he @dJ hnl hx hi256 ?_
    refine gG ?_
    refine cn (jR (dA @eK) hck1 vV rfl ?_)
    refine wW ?_
    refine gG ?_
    refine aU (aB t most S) (eL t most S 3) (bO he) nofun ?_
    rintro h' v ar ⟨rfl,rfl,rfl⟩
    refine⟨aE,rfl,?_⟩
    rw[eF he]
    refine bx ?_
    exact bad hF _ aE
   | true=>
    rw[hc1]at hck1
    cases hc2:bu (l.drop nl)with
    | false=>
     rw[if_pos (.inr (.inr hc2))]at hF
     rw[hc2]at hck2
     refine pS he @dJ hnl hx hi256 ?_
     refine gG ?_
     refine cn (jR (dA @eK) hck1 vV rfl ?_)
     refine wW ?_
     refine gG ?_
     refine cn (jR (sV @eK en etd) hck2 vV rfl ?_)
     refine wW ?_
     refine gG ?_
     refine aU (aB t most S) (eL t most S 3) (bO he) nofun ?_
     rintro h' v ar ⟨rfl,rfl,rfl⟩
     refine⟨aE,rfl,?_⟩
     rw[eF he]
     refine bx ?_
     exact bad hF _ aE
    | true=>
     rw[if_neg (by simp[hc1,hc2];omega)]at hF
     rw[hc2]at hck2
     subst hF
     refine pS he @dJ hnl hx hi256 ?_
     refine gG ?_
     refine cn (jR (dA @eK) hck1 vV rfl ?_)
     refine wW ?_
     refine gG ?_
     refine cn (jR (sV @eK en etd) hck2 vV rfl ?_)
     refine wW ?_
     refine gG ?_
     exact hR.wk (h':=aB t most S) (r':=.ai [.ro 1 (ak (l.take nl)),.ro 1 (ak (l.drop nl))]) (ar':=[.ab eO 0]) rfl (.bw 75094 (.le (asR he @eK en etd))) ⟨rfl,(if_pos he).symm,rfl⟩
 ·have hi:¬((S.err:Int)=0):=by omega
  refine bV hi ?_
  exact lR hR (hbad he) he aE
theorem k7 (t:Bs) (fl:List Nat) (N k:Nat) (l:List Nat) (S:SS):cT t fl N (k+1) l S=if N≤l.length∨S.err≠0 then(l,S)else
    if(cd N l (bL t l (aQ t fl S).1 (aQ t fl S).2)).err≠0 then(l,cd N l (bL t l (aQ t fl S).1 (aQ t fl S).2))
    else cT t fl N k (l++List.replicate (bL t l (aQ t fl S).1 (aQ t fl S).2).1 (bL t l (aQ t fl S).1 (aQ t fl S).2).2.1) (cd N l (bL t l (aQ t fl S).1 (aQ t fl S).2)):=rfl
theorem x7 (l:List Nat) (k x:Nat):ak (l++List.replicate k x)++[.int .i64 (x:Int)]=ak (l++List.replicate (k+1) x):=by
 rw[eT,List.append_assoc,←List.replicate_succ']
theorem X4 {t:Bs} {most N:Nat} {l:List Nat} {b:Nat×Nat×SS}:Mv t most b.2.2 (cd N l b):=by
 unfold cd
 split
 ·exact ix
 ·exact .refl
abbrev ti (R1 RX:KS) (R:HP→AV→List AV→Prop):KQ:=KQ.cG 3 (KQ.eM R1 (KQ.cG 2 (KQ.eM RX (Q5 R))))
set_option maxHeartbeats 1000000 in
theorem ID (t:Bs) (most:Nat) (l fl:List Nat) (nl nd:Nat) (s:Nat) (S:SS) {E:Env} {R1 R2 RX:KS} {R:HP→AV→List AV→Prop} (hN:E.N≤1000000) (h0:bM t most S) (hs:s<19) (hl:∀n∈l,n≤15) (hll:l.length≤400)
    (hnil:s=16→l=[]→∀h,eH h (aB t most (b5 3 S))→R h (.ai [.aj,.aj]) [.ab 79038 0])
    (hR2:∀st',Wk st' ⟨[(0,.ab 79038 0),(4,.int .i64 nl),(5,.int .i64 nd),(10,.ro 1 (bD (aN fl))),(11,.sl 75094 0 l.length),(13,.int .i64 ((bL t l s S).1:Nat)),(14,.int .i64 ((bL t l s S).2.1:Nat)),(2000000,.ab 79038 0)],aB t most (bL t l s S).2.2++[(75094,.arr 1 (ak l))]⟩→R2.ap st') :
    vcW Tryz.prog E Cod.yP (KQ.eM R2 (ti R1 RX R)) ⟨[(0,.ab 79038 0),(4,.int .i64 nl),(5,.int .i64 nd),(10,.ro 1 (bD (aN fl))),(11,.sl 75094 0 l.length),(12,.int .i64 s),(13,.int .i64 1),(14,.int .i64 s),(2000000,.ab 79038 0)],aB t most S++[(75094,.arr 1 (ak l))]⟩:=by
 have hnl:=bS l
 unfold bL at hR2
 by_cases h16:s=16
 ·rw[if_pos h16]at hR2
  by_cases hle:l=[]
  ·have hn:=hnil h16 hle
   subst hle
   subst h16
   refine bV @hC ?_
   refine gG ?_
   refine aU (aB t most S) (eL t most S 3) aE nofun ?_
   rintro h' v ar ⟨rfl,rfl,rfl⟩
   generalize b5 3 S=S1 at *
   refine⟨aE,rfl,?_⟩
   refine bx ?_
   exact hn _ aE
  ·rw[if_neg hle]at hR2
   have hl0:0<l.length:=by cases l with | nil=>exact absurd rfl hle | cons=>simp
   have el:(l.length:Int)-1=((l.length-1:Nat):Int):=by omega
   have hz:¬((l.length:Int)=0):=by omega
   have hx:nth (ak l) (l.length-1)=.int .i64 (l.getD (l.length-1) 0:Nat):=dJ (by omega)
   subst h16
   refine s5 hz el hnl hx ?_
   have hnlt:=eV (t:=t) (n:=2) (S:=S)
   refine aU (aB t most S) (fQ t most S h0 2 (by decide)) aE nofun ?_
   rintro h' v ar ⟨rfl,rfl,rfl⟩
   generalize aH t 2 S=a at *
   refine⟨aE,rfl,?_⟩
   refine bx ?_
   exact hR2 _ (.le aE)
 ·rw[if_neg h16]at hR2
  by_cases h17:s=17
  ·rw[if_pos h17]at hR2
   subst h17
   refine bx ?_
   refine gG ?_
   have hnlt:=eV (t:=t) (n:=3) (S:=S)
   refine aU (aB t most S) (fQ t most S h0 3 (by decide)) aE nofun ?_
   rintro h' v ar ⟨rfl,rfl,rfl⟩
   generalize aH t 3 S=a at *
   refine⟨aE,rfl,?_⟩
   refine bx ?_
   exact hR2 _ (.le aE)
  ·rw[if_neg h17]at hR2
   by_cases h18:s=18
   ·rw[if_pos h18]at hR2
    subst h18
    refine bx ?_
    refine gG ?_
    have hnlt:=eV (t:=t) (n:=7) (S:=S)
    refine aU (aB t most S) (fQ t most S h0 7 (by decide)) aE nofun ?_
    rintro h' v ar ⟨rfl,rfl,rfl⟩
    generalize aH t 7 S=a at *
    refine⟨aE,rfl,?_⟩
    refine bx ?_
    exact hR2 _ (.le aE)
   ·rw[if_neg h18]at hR2
    have e16:¬((s:Int)=16):=by omega
    have e17:¬((s:Int)=17):=by omega
    have e18:¬((s:Int)=18):=by omega
    refine ib e16 e17 e18 ?_
    exact hR2 _ (.le aE)
set_option maxHeartbeats 1000000 in
theorem Ix (t:Bs) (most N:Nat) (l fl:List Nat) (nl nd:Nat) (b:Nat×Nat×SS) {E:Env} {R1 RX:KS} {R:HP→AV→List AV→Prop} (hN:E.N≤1000000) (hNN:nl+nd=N) (hN1:N≤400) (hll:l.length≤N) (hb1:b.1≤200) (hb2:b.2.1≤15)
    (hR1:∀st',Wk st' ⟨[(0,.ab 79038 0),(4,.int .i64 nl),(5,.int .i64 nd),(10,.ro 1 (bD (aN fl))),(11,.sl 75094 0 (if(cd N l b).err=0 then l++List.replicate b.1 b.2.1 else l).length),(2000000,.ab 79038 0)],aB t most (cd N l b)++[(75094,.arr 1 (ak (if(cd N l b).err=0 then l++List.replicate b.1 b.2.1 else l)))]⟩→R1.ap st') :
    vcW Tryz.prog E Cod.yN (ti R1 RX R) ⟨[(0,.ab 79038 0),(4,.int .i64 nl),(5,.int .i64 nd),(10,.ro 1 (bD (aN fl))),(11,.sl 75094 0 l.length),(13,.int .i64 b.1),(14,.int .i64 b.2.1),(2000000,.ab 79038 0)],aB t most b.2.2++[(75094,.arr 1 (ak l))]⟩:=by
 obtain⟨k,x,S⟩:=b
 simp only at hb1 hb2 hR1 ⊢
 have esum:(nl:Int)+(nd:Int)=(N:Int):=by omega
 refine dD hN (fun _:Unit=>⟨[(0,.ab 79038 0),(4,.int .i64 nl),(5,.int .i64 nd),(10,.ro 1 (bD (aN fl))),(11,.sl 75094 0 l.length),(13,.int .i64 k),(14,.int .i64 x),(2000000,.ab 79038 0)],aB t most (cd N l (k,x,S))++[(75094,.arr 1 (ak l))]⟩) (fun _=>True) (fun R2 hR2=>?_) (fun _ _=>?_)
 ·unfold cd at hR2
  simp only at hR2
  by_cases he:S.err=0
  ·by_cases hov:N<l.length+k
   ·have hov':(N:Int)<(l.length:Int)+(k:Int):=by omega
    rw[if_pos hov]at hR2
    refine ib he esum hov' ?_
    refine aU (aB t most S) (eL t most S 3) (bO he) nofun ?_
    rintro h' v ar ⟨rfl,rfl,rfl⟩
    generalize b5 3 S=S1 at *
    refine⟨aE,rfl,?_⟩
    refine bx ?_
    exact hR2 () _ trivial (.le aE)
   ·have hov':¬((N:Int)<(l.length:Int)+(k:Int)):=by omega
    rw[if_neg hov]at hR2
    refine ib he esum hov' ?_
    exact hR2 () _ trivial (.le (bO he))
  ·have hi:¬((S.err:Int)=0):=by omega
   have e:b5 3 S=S:=if_neg he
   rw[e,ite_self]at hR2
   refine gm hi esum ?_
   refine dS hi esum ?_
   exact hR2 () _ trivial (.le aE)
 ·generalize cd N l (k,x,S)=S1 at *
  refine bx ?_
  refine aZ hN (fun j:Nat=>⟨[(0,.ab 79038 0),(4,.int .i64 nl),(5,.int .i64 nd),(10,.ro 1 (bD (aN fl))),(11,.sl 75094 0 (l.length+j:Nat)),(13,.int .i64 k),(14,.int .i64 x),(15,.int .i64 j),(2000000,.ab 79038 0)],aB t most S1++[(75094,.arr 1 (ak (l++List.replicate j x)))]⟩) (fun j=>j≤k∧(S1.err≠0→j=0)) (fun j=>k-j) 0
   (.le (by simp(disch:=omega)only[go_sem,simprocAttr,aB];simp)) ⟨by omega,fun _=>rfl⟩ ?_
  rintro j R2 ⟨hj,hj0⟩ hR2
  have hnl:=bS (l++List.replicate j x)
  have hlr:(l++List.replicate j x).length=l.length+j:=by simp
  have hnr:=x7 l j x
  have hsb:aI (ak (l++List.replicate j x)) 0 (l.length+j)=ak (l++List.replicate j x):=by rw[←hlr];exact fi
  by_cases he:S1.err=0
  ·by_cases hjk:j<k
   ·refine ib he hsb @eU ?_
    exact hR2 (j+1) _ (by omega) ⟨by omega,fun h=>absurd he h⟩ (.le (BG he hnr))
   ·obtain rfl:j=k:=by omega
    rw[if_pos he,hlr]at hR1
    refine bV he ?_
    refine bF he ?_
    exact hR1 _ (.le (bO he))
  ·obtain rfl:=hj0 he
   rw[if_neg he]at hR1
   have hi:¬((S1.err:Int)=0):=by omega
   have er:l++List.replicate 0 x=l:=by simp
   rw[er]
   by_cases hjk:0<k
   ·refine bV hi ?_
    refine bF hi ?_
    exact hR1 _ (.le aE)
   ·obtain rfl:k=0:=by omega
    refine bV hi ?_
    refine bF hi ?_
    exact hR1 _ (.le aE)
theorem Bi {t:Bs} {l:List Nat} {S:SS} {s:Nat} (hl:∀n∈l,n≤15) (hs:s<19):(bL t l s S).1≤200∧(bL t l s S).2.1≤15:=by
 have h2:=eV (t:=t) (n:=2) (S:=S)
 have h3:=eV (t:=t) (n:=3) (S:=S)
 have h7:=eV (t:=t) (n:=7) (S:=S)
 unfold bL
 split
 ·split
  ·exact⟨by simp,by simp⟩
  ·rename_i hle
   refine⟨by simp only;omega,?_⟩
   have:l.length-1<l.length:=by cases l with | nil=>exact absurd rfl hle | cons=>simp
   simp only[List.getD_eq_getElem?_getD,List.getElem?_eq_getElem this,Option.getD_some]
   exact hl _ (List.getElem_mem this)
 ·split
  ·exact⟨by simp only;omega,by simp⟩
  ·split
   ·exact⟨by simp only;omega,by simp⟩
   ·exact⟨by simp,by simp only;omega⟩
theorem arH {t:Bs} {l:List Nat} {S:SS} {s:Nat} (h:(bL t l s S).2.2.err=0) (h0:S.err=0):1≤(bL t l s S).1:=by
 unfold bL at h ⊢
 split
 ·rename_i hs
  rw[if_pos hs]at h
  split
  ·rename_i hle
   rw[if_pos hle]at h
   exact absurd h (gT (by decide))
  ·simp only;omega
 ·split
  ·simp only;omega
  ·split
   ·simp only;omega
   ·simp
theorem ym {N:Nat} {l:List Nat} {b:Nat×Nat×SS} (h:(cd N l b).err=0):b.2.2.err=0∧cd N l b=b.2.2∧l.length+b.1≤N:=by
 unfold cd at h ⊢
 by_cases hlt:N<l.length+b.1
 ·rw[if_pos hlt]at h
  exact absurd h (gT (by decide))
 ·rw[if_neg hlt]at h ⊢
  exact⟨h,rfl,by omega⟩
set_option maxHeartbeats 4000000 in
theorem Iv (t:Bs) (most:Nat) (F:(List Nat×List Nat)×SS) (S0:SS) (fl:List Nat) (nl nd:Nat) {E:Env} {R:HP→AV→List AV→Prop} (hN:E.N≤1000000) (hR:cJ (kJ t most F) R) (h0:bM t most S0) (he0:S0.err=0)
    (hfl:∀n∈fl,n≤15) (hfn:fl.length=19) (h1:257≤nl) (h2:nl≤286) (h3:1≤nd) (h4:nd≤30)
    (hbad:(cT t fl (nl+nd) (nl+nd) [] S0).2.err≠0→F=(([],[]),(cT t fl (nl+nd) (nl+nd) [] S0).2))
    (hgood:(cT t fl (nl+nd) (nl+nd) [] S0).2.err=0→F=if(cT t fl (nl+nd) (nl+nd) [] S0).1.getD 256 0=0∨bu ((cT t fl (nl+nd) (nl+nd) [] S0).1.take nl)=false∨bu ((cT t fl (nl+nd) (nl+nd) [] S0).1.drop nl)=false
     then(([],[]),{(cT t fl (nl+nd) (nl+nd) [] S0).2 with err:=3})else(((cT t fl (nl+nd) (nl+nd) [] S0).1.take nl,(cT t fl (nl+nd) (nl+nd) [] S0).1.drop nl),(cT t fl (nl+nd) (nl+nd) [] S0).2)) :
    vcW Tryz.prog E Cod.yM (Q5 R) ⟨[(0,.ab 79038 0),(4,.int .i64 nl),(5,.int .i64 nd),(10,.ro 1 (bD (aN fl))),(11,.sl 75094 0 0),(2000000,.ab 79038 0)],(75094,.arr 1 [])::aB t most S0⟩:=by
 generalize hG:cT t fl (nl+nd) (nl+nd) [] S0=G at hbad hgood
 have hN0:nl+nd<400:=by omega
 have hN1:1≤nl+nd:=by omega
 generalize hNN:nl+nd=N at *
 have hcc:=fun(h1':∀n∈G.1,n≤15) (h2':G.2.err=0→G.1.length=N)=>Iw t most F G.2 G.1 nl nd (E:=E) (R:=R) hN hR h1' hbad (fun h=>⟨(h2' h).trans hNN.symm,h1,h2,h4,hgood h⟩)
 refine dD (y:=Cod.r8) hN (fun _:Unit=>⟨[(0,.ab 79038 0),(4,.int .i64 nl),(11,.sl 75094 0 G.1.length),(2000000,.ab 79038 0)],aB t most G.2++[(75094,.arr 1 (ak G.1))]⟩) (fun _=>(∀n∈G.1,n≤15)∧(G.2.err=0→G.1.length=N)) (fun RX hRX=>?_)
  (fun _ hx=>hcc hx.1 hx.2)
 have hnil0:∀S',G=([],S')→S'.err≠0→∀h,eH h (aB t most S')→R h (.ai [.aj,.aj]) [.ab 79038 0]:=by
  rintro S' rfl he' h hh
  exact lR hR (hbad he') he' hh
 clear hcc hbad hgood hR
 refine wW ?_
 refine aZ hN (fun q:List Nat×SS=>⟨[(0,.ab 79038 0),(4,.int .i64 nl),(5,.int .i64 nd),(10,.ro 1 (bD (aN fl))),(11,.sl 75094 0 q.1.length),(2000000,.ab 79038 0)],aB t most q.2++[(75094,.arr 1 (ak q.1))]⟩)
  (fun q=>bM t most q.2∧(∀n∈q.1,n≤15)∧q.1.length≤N∧(q.2.err≠0→G=q)∧(q.2.err=0→∃k,N-q.1.length≤k∧cT t fl N k q.1 q.2=G)) (fun q=>if q.2.err=0 then N+1-q.1.length else 0) ([],S0)
  (.le (bO @hC)) ⟨h0,by simp,by simp,fun h=>absurd he0 h,fun _=>⟨N,by simp,hG⟩⟩ ?_
 rintro⟨l,S⟩ R1 ⟨hok,hl,hll,hb,hg⟩ hR1
 simp only at hok hl hll hb hg
 have hnl:=bS l
 have esum:(nl:Int)+(nd:Int)=(N:Int):=by omega
 by_cases he:S.err=0
 ·by_cases hlt:l.length<N
  ·obtain⟨k,hk,hk2⟩:=hg he
   obtain⟨k,rfl⟩:∃k',k=k'+1:=⟨k-1,by omega⟩
   rw[k7,if_neg (by omega)]at hk2
   have hsu:=pK (t:=t) (l:=fl) he
   refine gm he esum ?_
   refine dS he esum ?_
   refine aU (aB t most S) (se t most S hok fl hfl (by omega)) (bO he) nofun ?_
   rintro h' v ar ⟨rfl,rfl,rfl⟩
   have hok2:bM t most (aQ t fl S).2:=hok.mv iX
   have hs0:(aQ t fl S).2.err≠0→(aQ t fl S).1=0:=by
    intro h
    unfold aQ at h ⊢
    split at h
    ·rename_i hh;rw[if_pos hh]
    ·rename_i hh
     rw[if_neg hh]
     split at h
     ·rename_i hh;rw[if_pos hh]
     ·exact absurd he h
   generalize aQ t fl S=a at *
   have hs19:a.1<19:=by
    by_cases h:a.2.err=0
    ·have:=(hsu h).2;omega
    ·rw[hs0 h];omega
   refine⟨aE,rfl,?_⟩
   refine bx ?_
   have hmt:Mv t most a.2 (bL t l a.1 a.2).2.2:=x5
   have hok3:=hok2.mv hmt
   have hmo:Mv t most (bL t l a.1 a.2).2.2 (cd N l (bL t l a.1 a.2)):=X4
   have hok4:=hok3.mv hmo
   refine dD hN (fun _:Unit=>⟨[(0,.ab 79038 0),(4,.int .i64 nl),(5,.int .i64 nd),(10,.ro 1 (bD (aN fl))),(11,.sl 75094 0 l.length),(13,.int .i64 ((bL t l a.1 a.2).1:Nat)),(14,.int .i64 ((bL t l a.1 a.2).2.1:Nat)),(2000000,.ab 79038 0)],aB t most (bL t l a.1 a.2).2.2++[(75094,.arr 1 (ak l))]⟩)
    (fun _=>True) (fun R2 hR2=>?_) (fun _ _=>?_)
   ·have hnilG:a.1=16→l=[]→G=([],b5 3 a.2):=by
     intro h16 hle
     subst hle
     have ht:bL t [] a.1 a.2=(0,0,b5 3 a.2):=by unfold bL;rw[if_pos h16,if_pos rfl]
     have ho:cd N [] (0,0,b5 3 a.2)=b5 3 a.2:=if_neg (by simp)
     rw[ht,ho,if_pos (gT (by decide))]at hk2
     exact hk2.symm
    have hsw:=ID t most l fl nl nd a.1 a.2 (E:=E) (R1:=R1) (R2:=R2) (RX:=RX) (R:=R) hN hok2 hs19 hl (by omega) (fun h16 hle=>hnil0 _ (hnilG h16 hle) (gT (by decide))) (fun st' hw=>hR2 () _ trivial hw)
    simp only[aB]at hsw
    exact hsw
   ·have hb12:=Bi (t:=t) (l:=l) (S:=a.2) (s:=a.1) hl hs19
    refine Ix t most N l fl nl nd (bL t l a.1 a.2) hN hNN (by omega) hll hb12.1 hb12.2 (fun st' hw=>?_)
    generalize hbb:bL t l a.1 a.2=b at *
    generalize hcc:cd N l b=c at *
    by_cases hce:c.err=0
    ·rw[if_pos hce]at hw
     rw[if_neg (by simpa using hce)]at hk2
     obtain⟨hbe,hcb,hov⟩:=ym (N:=N) (l:=l) (b:=b) (by rw[hcc];exact hce)
     have hae:a.2.err=0:=by
      by_cases h:a.2.err=0
      ·exact h
      ·have h1:=hs0 h
       have ht:bL t l a.1 a.2=(1,a.1,a.2):=by unfold bL;rw[if_neg (by omega),if_neg (by omega),if_neg (by omega)]
       rw[←hbb,ht]at hbe
       exact absurd hbe h
     have hb1:=arH (t:=t) (l:=l) (S:=a.2) (s:=a.1) (by rw[hbb];exact hbe) hae
     rw[hbb]at hb1
     have hlr:(l++List.replicate b.1 b.2.1).length=l.length+b.1:=by simp
     refine hR1 (l++List.replicate b.1 b.2.1,c) _ ?_ ⟨hok4,?_,?_,?_,?_⟩ hw
     ·simp only[if_pos hce,if_pos he,hlr]
      omega
     ·intro n hn
      rcases List.mem_append.1 hn with hn | hn
      ·exact hl n hn
      ·rw[(List.mem_replicate.1 hn).2]
       exact hb12.2
     ·simp only[hlr]
      exact hov
     ·intro h
      exact absurd hce h
     ·intro _
      refine⟨k,?_,hk2⟩
      simp only[hlr]
      omega
    ·rw[if_neg hce]at hw
     rw[if_pos hce]at hk2
     refine hR1 (l,c) _ ?_ ⟨hok4,hl,hll,fun _=>hk2.symm,fun h=>absurd h hce⟩ hw
     simp only[if_neg hce,if_pos he]
     omega
  ·obtain⟨k,hk,hk2⟩:=hg he
   have hGe:G=(l,S):=by
    rw[←hk2]
    cases k with
    | zero=>rfl
    | succ k=>rw[k7,if_pos (.inl (by omega))]
   subst hGe
   have hlt':¬((l.length:Int)<(N:Int)):=by omega
   refine ib he esum hlt' ?_
   refine dS he esum ?_
   exact hRX () _ ⟨hl,fun _=>by simp only;omega⟩ (.le (bO he))
 ·have hGe:=hb he
  subst hGe
  have hi:¬((S.err:Int)=0):=by omega
  by_cases hlt:l.length<N
  ·refine gm hi esum ?_
   refine dS hi esum ?_
   exact hRX () _ ⟨hl,fun h=>absurd h he⟩ (.le aE)
  ·have hlt':¬((l.length:Int)<(N:Int)):=by omega
   refine ib hi esum hlt' ?_
   refine dS hi esum ?_
   exact hRX () _ ⟨hl,fun h=>absurd h he⟩ (.le aE)
def j4 (t:Bs) (nl nd:Nat) (b:List Nat×SS):(List Nat×List Nat)×SS:=
 if b.2.err≠0 then(([],[]),b.2)else
 if b.1.getD 256 0=0∨bu (b.1.take nl)=false∨bu (b.1.drop nl)=false then(([],[]),{b.2 with err:=3})else((b.1.take nl,b.1.drop nl),b.2)
def cH (t:Bs) (nl nd:Nat) (a:List Nat×SS):(List Nat×List Nat)×SS:=
 if a.2.err≠0 then(([],[]),a.2)else if bu a.1=false then(([],[]),{a.2 with err:=3})else j4 t nl nd (cT t a.1 (nl+nd) (nl+nd) [] a.2)
theorem n9 (t:Bs) (S:SS):b9 t S=if 8*t.length<S.p+14 then(([],[]),{S with err:=6})else if 286<numAt t S.p 5+257∨30<numAt t (S.p+5) 5+1 then(([],[]),{S with p:=S.p+14,err:=3})else
    cH t (numAt t S.p 5+257) (numAt t (S.p+5) 5+1) (firstS t (numAt t (S.p+10) 4+4) (numAt t (S.p+10) 4+4) (List.replicate 19 0) {S with p:=S.p+14}):=rfl
def ka:aJ:=.arr 1 (ak eh)
set_option maxHeartbeats 1000000 in
theorem Iy (t:Bs) (most:Nat) (S:SS) (fl:List Nat) (nl nd nc:Nat) (x9:AV) {E:Env} {R:HP→AV→List AV→Prop} (hN:E.N≤1000000) (hR:cJ (kJ t most (cH t nl nd (fl,S))) R) (h0:bM t most S)
    (hfl:∀n∈fl,n≤15) (hfn:fl.length=19) (hb:S.err=0→257≤nl∧nl≤286∧1≤nd∧nd≤30) :
    vcW Tryz.prog E Cod.r9 (Q5 R) ⟨[(0,.ab 79038 0),(4,.int .i64 nl),(5,.int .i64 nd),(6,.int .i64 nc),(7,.sl 75053 0 19),(8,.sl 75054 0 19),(9,x9),(64,.bool false),(2000000,.ab 79038 0)],aB t most S++[(75053,.arr 1 (ak fl)),(75054,ka)]⟩:=by
 have hnl:=bS fl
 have hck:=r6 fl hfl (by omega)
 have hsub:aI (ak fl) 0 19=ak fl:=by rw[←hfn];exact fi
 refine dD (y:=Cod.yQ) hN (fun _:Unit=>⟨[(0,.ab 79038 0),(4,.int .i64 nl),(5,.int .i64 nd),(7,.ro 1 (ak fl)),(2000000,.ab 79038 0)],aB t most (if S.err=0∧bu fl=false then {S with err:=3} else S)⟩) (fun _=>True) (fun R2 hR2=>?_) (fun _ _=>?_)
 ·clear hR
  by_cases he:S.err=0
  ·cases hc:bu fl with
   | false=>
    rw[hc]at hck
    rw[if_pos ⟨he,hc⟩]at hR2
    refine bV he ?_
    refine gG ?_
    refine cn (jR (dA hsub) hck vV rfl ?_)
    refine wW ?_
    refine gG ?_
    refine aU (aB t most S) (eL t most S 3) (bO he) nofun ?_
    rintro h' v ar ⟨rfl,rfl,rfl⟩
    refine⟨aE,rfl,?_⟩
    rw[eF he]
    refine bx ?_
    exact hR2 () _ trivial (.bw 75053 (.le (bO hsub)))
   | true=>
    rw[hc]at hck
    rw[if_neg (by simp[hc])]at hR2
    refine bV he ?_
    refine gG ?_
    refine cn (jR (dA hsub) hck vV rfl ?_)
    refine wW ?_
    refine gG ?_
    exact hR2 () _ trivial (.bw 75053 (.le (BG he hsub)))
  ·have hi:¬((S.err:Int)=0):=by omega
   rw[if_neg (fun h=>he h.1)]at hR2
   refine bV hi ?_
   refine bF hi ?_
   exact hR2 () _ trivial (.bw 75053 (.le (bO hsub)))
 ·by_cases he:S.err=0
  ·by_cases hc:bu fl=false
   ·rw[if_pos ⟨he,hc⟩]
    have hF:cH t nl nd (fl,S)=(([],[]),{S with err:=3}):=by unfold cH;rw[if_neg (by simpa using he),if_pos hc]
    refine bx ?_
    exact lR hR hF (by simp) aE
   ·rw[if_neg (fun h=>hc h.2)]
    obtain⟨h1,h2,h3,h4⟩:=hb he
    have hcod:=r7 fl hfl (by omega)
    have hF:cH t nl nd (fl,S)=j4 t nl nd (cT t fl (nl+nd) (nl+nd) [] S):=by unfold cH;rw[if_neg (by simpa using he),if_neg hc]
    rw[hF]at hR
    have hbb:=Iv t most _ S fl nl nd (E:=E) (R:=R) hN hR h0 he hfl hfn h1 h2 h3 h4 (fun h=>if_pos h) (fun h=>if_neg (by simpa using h))
    clear hR
    refine bV he ?_
    refine aA hcod rfl rfl ?_
    refine wW ?_
    simp only[aB,he]at hbb
    exact hbb
  ·rw[if_neg (fun h=>he h.1)]
   have hi:¬((S.err:Int)=0):=by omega
   have hF:cH t nl nd (fl,S)=(([],[]),S):=if_pos he
   refine bV hi ?_
   exact lR hR hF he aE
theorem lS (t:Bs) (nc k:Nat) (l:List Nat) (S:SS):firstS t nc (k+1) l S=if S.err≠0 then(l,S)else firstS t nc k (l.set (eh.getD (nc-(k+1)) 0) (aH t 3 S).1) (aH t 3 S).2:=rfl
theorem ob (t:Bs) (nc k:Nat) (l:List Nat) (S:SS) (h:S.err≠0):firstS t nc k l S=(l,S):=by
 cases k with
 | zero=>rfl
 | succ k=>rw[lS,if_pos h]
theorem yt:∀j,j<19→eh.getD j 0<19:=by decide
theorem rO {l:List Nat} {i x:Nat}:(ak l).set i (.int .i64 (x:Int))=ak (l.set i x):=by simp[ak,List.map_set]
set_option maxHeartbeats 1000000 in
theorem Iz (t:Bs) (most:Nat) (S0:SS) (nl nd nc:Nat) {E:Env} {R:HP→AV→List AV→Prop} (hN:E.N≤1000000) (h0:bM t most S0) (hc:nc≤19)
    (hR:cJ (kJ t most (cH t nl nd (firstS t nc nc (List.replicate 19 0) S0))) R) (hb:S0.err=0→257≤nl∧nl≤286∧1≤nd∧nd≤30) :
    vcW Tryz.prog E Cod.yO (Q5 R) ⟨[(0,.ab 79038 0),(4,.int .i64 nl),(5,.int .i64 nd),(6,.int .i64 nc),(2000000,.ab 79038 0)],aB t most S0⟩:=by
 generalize hG:firstS t nc nc (List.replicate 19 0) S0=G at hR
 refine bx ?_
 refine aZ hN (fun q:Nat×List Nat×SS=>⟨[(0,.ab 79038 0),(4,.int .i64 nl),(5,.int .i64 nd),(6,.int .i64 nc),(7,.sl 75053 0 19),(8,.sl 75054 0 19),(9,.int .i64 q.1),(2000000,.ab 79038 0)],aB t most q.2.2++[(75053,.arr 1 (ak q.2.1)),(75054,ka)]⟩)
  (fun q=>bM t most q.2.2∧(∀n∈q.2.1,n≤15)∧q.2.1.length=19∧q.1≤nc∧(q.2.2.err=0→S0.err=0)∧firstS t nc (nc-q.1) q.2.1 q.2.2=G) (fun q=>nc-q.1) (0,List.replicate 19 0,S0)
  (.le (by simp(disch:=omega)only[go_sem,simprocAttr,aB,ka];exact⟨rfl,rfl⟩)) ⟨h0,by simp,by simp,by simp,fun h=>h,hG⟩ ?_
 rintro⟨j,l,S⟩ R1 ⟨hok,hl,hll,hj,he0,hg⟩ hR1
 simp only at hok hl hll hj hg he0
 have hnl:=bS l
 have fin:(l,S)=G→vcW Tryz.prog E Cod.r9 (Q5 R) ⟨[(0,.ab 79038 0),(4,.int .i64 nl),(5,.int .i64 nd),(6,.int .i64 nc),(7,.sl 75053 0 19),(8,.sl 75054 0 19),(9,.int .i64 j),(64,.bool false),(2000000,.ab 79038 0)],aB t most S++[(75053,.arr 1 (ak l)),(75054,ka)]⟩:=by
  intro h
  subst h
  exact Iy t most S l nl nd nc _ hN hR hok hl hll (fun h=>hb (he0 h))
 clear hR
 by_cases he:S.err=0
 ·by_cases hlt:j<nc
  ·clear fin
   obtain⟨m,hm⟩:∃m,nc-j=m+1:=⟨nc-j-1,by omega⟩
   rw[hm,lS,if_neg (by simpa using he),show nc-(m+1)=j by omega]at hg
   have hpl:=yt j (by omega)
   have hx:nth (ak eh) j=.int .i64 (eh.getD j 0:Nat):=dJ (by have:eh.length=19:=rfl;omega)
   have hpn:(ak eh).length=19:=rfl
   generalize eh.getD j 0=pj at *
   have hnlt:=eV (t:=t) (n:=3) (S:=S)
   have hnum:=fQ t most S hok 3 (by decide)
   have hok2:bM t most (aH t 3 S).2:=hok.mv eJ
   have hxl:nth (ak l) pj=.int .i64 (l.getD pj 0:Nat):=dJ (by omega)
   have hnx:∀x,x<8→∀n∈l.set pj x,n≤15:=by
    intro x hx n hn
    rcases List.mem_or_eq_of_mem_set hn with hn | hn
    ·exact hl n hn
    ·omega
   simp(disch:=omega)only[go_sem,simprocAttr,aB,he,ka,hpn]
   refine bF he ?_
   refine⟨?_,?_⟩
   ·refine bo hx hpn ?_
    refine aU (aB t most S) hnum (bO he) nofun ?_
    rintro h' v ar ⟨rfl,rfl,rfl⟩
    generalize aH t 3 S=a at *
    refine⟨aE,rfl,?_⟩
    refine s5 hnl hll hxl @rO ?_
    exact hR1 (j+1,l.set pj a.1,a.2) _ (by simp only;omega) ⟨hok2,hnx _ hnlt,by simp[hll],hlt,fun _=>he0 he,by simp only;rw[show nc-(j+1)=m by omega];exact hg⟩ (.le (by simp(disch:=omega)only[go_sem,simprocAttr,aB,ka]))
   ·refine aU (aB t most S) hnum (bO he) nofun ?_
    rintro h' v ar ⟨rfl,rfl,rfl⟩
    generalize aH t 3 S=a at *
    refine⟨aE,rfl,?_⟩
    refine s6 hnl hll hx hxl hpn @rO ?_
    exact hR1 (j+1,l.set pj a.1,a.2) _ (by simp only;omega) ⟨hok2,hnx _ hnlt,by simp[hll],hlt,fun _=>he0 he,by simp only;rw[show nc-(j+1)=m by omega];exact hg⟩ (.le (by simp(disch:=omega)only[go_sem,simprocAttr,aB,ka]))
  ·obtain rfl:j=nc:=by omega
   rw[Nat.sub_self]at hg
   have fin:=fin hg
   simp only[aB,he]at fin
   refine bV he ?_
   refine bF he ?_
   exact fin
 ·rw[ob _ _ _ _ _ he]at hg
  have fin:=fin hg
  simp only[aB]at fin
  have hi:¬((S.err:Int)=0):=by omega
  by_cases hlt:j<nc
  ·refine bV hi ?_
   refine bF hi ?_
   exact fin
  ·refine bV hi ?_
   refine bF hi ?_
   exact fin
theorem Yo (t:Bs) (S:SS) (he:S.err=0) (h:¬8*t.length<S.p+14):aH t 5 S=(numAt t S.p 5,{S with p:=S.p+5})∧aH t 5 {S with p:=S.p+5}=(numAt t (S.p+5) 5,{S with p:=S.p+10})∧aH t 4 {S with p:=S.p+10}=(numAt t (S.p+10) 4,{S with p:=S.p+14}):=
 ⟨fA he (by omega),fA he (by simp only;omega),fA he (by simp only;omega)⟩
set_option maxHeartbeats 1000000 in
theorem ad6 (t:Bs) (most:Nat) (S:SS) (h0:bM t most S) (he:S.err=0):Eng.Spec Tryz.prog 98 (aB t most S) [.ab eO 0] (kJ t most (b9 t S)):=by
 refine Cod.ad7 (fun E R hN hR=>?_)
 have hbl:=nu t
 obtain⟨q1,q2,q3,q4⟩:=h0
 have h0:bM t most S:=⟨q1,q2,q3,q4⟩
 rw[n9]at hR
 generalize hS1:(if 8*t.length<S.p+14 then {S with err:=6} else S)=S1
 have hok1:bM t most S1:=by rw[←hS1];split;exact h0.mv gD;exact h0
 refine bx ?_
 refine dD hN (fun _:Unit=>⟨[(0,.ab 79038 0),(2000000,.ab 79038 0)],aB t most S1⟩) (fun _=>True) (fun R2 hR2=>?_) (fun _ _=>?_)
 ·subst hS1
  by_cases hlt:8*t.length<S.p+14
  ·rw[if_pos hlt]at hR2
   have hi:((8*t.length:Nat):Int)-(S.p:Int)<14:=by omega
   refine ib he hbl hi ?_
   refine fK he hbl hi ?_
   refine aU (aB t most S) (eL t most S 6) (bO he) nofun ?_
   rintro h' v ar ⟨rfl,rfl,rfl⟩
   refine⟨aE,rfl,?_⟩
   rw[eF he]
   refine bx ?_
   exact hR2 () _ trivial (.le aE)
  ·rw[if_neg hlt]at hR2
   have hi:¬((8*t.length:Nat):Int)-(S.p:Int)<14:=by omega
   refine ib he hbl hi ?_
   refine fK he hbl hi ?_
   exact hR2 () _ trivial (.le (bO he))
 ·generalize hF:(if 8*t.length<S.p+14 then((([]:List Nat),([]:List Nat)),{S with err:=6})else if 286<numAt t S.p 5+257∨30<numAt t (S.p+5) 5+1 then(([],[]),{S with p:=S.p+14,err:=3})else
   cH t (numAt t S.p 5+257) (numAt t (S.p+5) 5+1) (firstS t (numAt t (S.p+10) 4+4) (numAt t (S.p+10) 4+4) (List.replicate 19 0) {S with p:=S.p+14}))=F at hR
  have ha:=fQ t most S1 hok1 5 (by decide)
  have hoka:bM t most (aH t 5 S1).2:=hok1.mv eJ
  have hla:=eV (t:=t) (n:=5) (S:=S1)
  generalize hea:aH t 5 S1=a at *
  have hb:=fQ t most a.2 hoka 5 (by decide)
  have hokb:bM t most (aH t 5 a.2).2:=hoka.mv eJ
  have hlb:=eV (t:=t) (n:=5) (S:=a.2)
  generalize heb:aH t 5 a.2=b at *
  have hc:=fQ t most b.2 hokb 4 (by decide)
  have hokc:bM t most (aH t 4 b.2).2:=hokb.mv eJ
  have hlc:=eV (t:=t) (n:=4) (S:=b.2)
  generalize hec:aH t 4 b.2=c at *
  refine bx ?_
  refine aU (aB t most S1) ha aE nofun ?_
  rintro h' v ar ⟨rfl,rfl,rfl⟩
  refine⟨aE,rfl,?_⟩
  refine bx ?_
  refine aU (aB t most a.2) hb aE nofun ?_
  rintro h' v ar ⟨rfl,rfl,rfl⟩
  refine⟨aE,rfl,?_⟩
  refine bx ?_
  refine aU (aB t most b.2) hc aE nofun ?_
  rintro h' v ar ⟨rfl,rfl,rfl⟩
  refine⟨aE,rfl,?_⟩
  refine bx ?_
  generalize hS2:(if 286<a.1+257∨30<b.1+1 then b5 3 c.2 else c.2)=S2
  have hok2:bM t most S2:=by rw[←hS2];split;exact hokc.mv ix;exact hokc
  refine dD hN (fun _:Unit=>⟨[(0,.ab 79038 0),(4,.int .i64 ((a.1+257:Nat):Int)),(5,.int .i64 ((b.1+1:Nat):Int)),(6,.int .i64 ((c.1+4:Nat):Int)),(2000000,.ab 79038 0)],aB t most S2⟩) (fun _=>True) (fun R2 hR2=>?_) (fun _ _=>?_)
  ·subst hS2
   by_cases hx1:286<a.1+257
   ·have hx1':=hx1
    rw[if_pos (.inl hx1)]at hR2
    refine wW ?_
    refine gG ?_
    refine aU (aB t most c.2) (eL t most c.2 3) aE nofun ?_
    rintro h' v ar ⟨rfl,rfl,rfl⟩
    generalize b5 3 c.2=S3 at *
    refine⟨aE,rfl,?_⟩
    refine bx ?_
    exact hR2 () _ trivial (.le aE)
   ·by_cases hx2:30<b.1+1
    ·have hx2':=hx2
     rw[if_pos (.inr hx2)]at hR2
     refine wW ?_
     refine gG ?_
     refine aU (aB t most c.2) (eL t most c.2 3) aE nofun ?_
     rintro h' v ar ⟨rfl,rfl,rfl⟩
     generalize b5 3 c.2=S3 at *
     refine⟨aE,rfl,?_⟩
     refine bx ?_
     exact hR2 () _ trivial (.le aE)
    ·rw[if_neg (by omega)]at hR2
     refine wW ?_
     refine gG ?_
     exact hR2 () _ trivial (.le aE)
  ·have hfin:F=cH t (a.1+257) (b.1+1) (firstS t (c.1+4) (c.1+4) (List.replicate 19 0) S2):=by
    rw[←hF]
    by_cases hlt:8*t.length<S.p+14
    ·rw[if_pos hlt]at hS1 ⊢
     have h1:S1.err≠0:=by rw[←hS1];simp
     rw[j9 h1]at hea
     subst hea
     rw[j9 h1]at heb
     subst heb
     rw[j9 h1]at hec
     subst hec
     rw[if_neg (by simp)]at hS2
     simp only at hS2
     subst hS2
     rw[ob _ _ _ _ _ h1]
     unfold cH
     rw[if_pos h1,hS1]
    ·rw[if_neg hlt]at hS1 ⊢
     subst hS1
     obtain⟨w1,w2,w3⟩:=Yo t S he hlt
     rw[w1]at hea
     subst hea
     simp only at heb
     rw[w2]at heb
     subst heb
     simp only at hec
     rw[w3]at hec
     subst hec
     simp only at hS2 ⊢
     by_cases hx:286<numAt t S.p 5+257∨30<numAt t (S.p+5) 5+1
     ·rw[if_pos hx]at hS2 ⊢
      rw[eF (by exact he)]at hS2
      subst hS2
      rw[ob _ _ _ _ _ (by simp)]
      unfold cH
      rw[if_pos (by simp)]
     ·rw[if_neg hx]at hS2 ⊢
      rw[hS2]
   rw[hfin]at hR
   refine Iz t most S2 (a.1+257) (b.1+1) (c.1+4) hN hok2 (by omega) hR (fun h=>?_)
   rw[←hS2]at h
   split at h
   ·exact absurd h (gT (by decide))
   ·omega
theorem xx {t:Bs} {fl:List Nat} {N:Nat} (hfn:fl.length=19):∀(k:Nat) (l:List Nat) (S:SS),(∀n∈l,n≤15)→l.length≤N→(∀n∈(cT t fl N k l S).1,n≤15)∧(cT t fl N k l S).1.length≤N
 | 0,l,S,h1,h2=>⟨h1,h2⟩
 | k+1,l,S,h1,h2=>by
  rw[k7]
  split
  ·exact⟨h1,h2⟩
  ·rename_i hn
   have he:S.err=0:=by omega
   have hs:(aQ t fl S).1<19:=by
    by_cases h:(aQ t fl S).2.err=0
    ·have:=(pK he h).2;omega
    ·unfold aQ at h ⊢
     split at h
     ·rename_i hh;rw[if_pos hh];simp
     ·rename_i hh
      rw[if_neg hh]
      split at h
      ·rename_i hh;rw[if_pos hh];simp
      ·exact absurd he h
   have hb:=Bi (t:=t) (S:=(aQ t fl S).2) h1 hs
   split
   ·exact⟨h1,h2⟩
   ·rename_i hc
    have ho:=ym (N:=N) (l:=l) (b:=bL t l (aQ t fl S).1 (aQ t fl S).2) (by omega)
    refine xx hfn k _ _ ?_ (by simp only[List.length_append,List.length_replicate];exact ho.2.2)
    intro n hn
    rcases List.mem_append.1 hn with hn | hn
    ·exact h1 n hn
    ·rw[(List.mem_replicate.1 hn).2]
     exact hb.2
theorem vF {t:Bs} {nc:Nat}:∀(k:Nat) (l:List Nat) (S:SS),(firstS t nc k l S).1.length=l.length
 | 0,l,S=>rfl
 | k+1,l,S=>by
  rw[lS]
  split
  ·rfl
  ·rw[vF k];simp
theorem IA {t:Bs} {S:SS} (h:(b9 t S).2.err=0):(∀n∈(b9 t S).1.1,n≤15)∧(b9 t S).1.1.length≤320∧(∀n∈(b9 t S).1.2,n≤15)∧(b9 t S).1.2.length≤320:=by
 rw[n9]at h ⊢
 split
 ·simp
 ·rename_i h1
  rw[if_neg h1]at h
  split
  ·simp
  ·rename_i h2
   rw[if_neg h2]at h
   have hfl:=vF (t:=t) (nc:=numAt t (S.p+10) 4+4) (numAt t (S.p+10) 4+4) (List.replicate 19 0) {S with p:=S.p+14}
   generalize firstS t (numAt t (S.p+10) 4+4) (numAt t (S.p+10) 4+4) (List.replicate 19 0) {S with p:=S.p+14}=a at *
   generalize numAt t S.p 5+257=nl at *
   generalize numAt t (S.p+5) 5+1=nd at *
   rw[List.length_replicate]at hfl
   unfold cH
   split
   ·simp
   ·split
    ·simp
    ·have hg:=xx (t:=t) (fl:=a.1) (N:=nl+nd) hfl (nl+nd) [] a.2 (by simp) (by simp)
     unfold j4
     generalize cT t a.1 (nl+nd) (nl+nd) [] a.2=b at *
     split
     ·simp
     ·split
      ·simp
      ·refine⟨pM hg.1 nl,?_,nX hg.1 nl,?_⟩
       ·simp only[List.length_take];omega
       ·simp only[List.length_drop];omega
theorem EZ {t:Bs} {S:SS} (he:S.err=0) (h:¬8*t.length<S.p+3) :
    aH t 1 S=(numAt t S.p 1,{S with p:=S.p+1})∧aH t 2 {S with p:=S.p+1}=(numAt t (S.p+1) 2,{S with p:=S.p+3}):=
 ⟨fA he (by omega),fA he (by simp only;omega)⟩
theorem up8 (n:Nat):cz n/8=(n+7)/8:=by unfold cz;omega
def kZ (t:Bs) (most k:Nat) (S:SS):SS:=
 if S.err≠0 then S else if k=0 then ep t most S else if k=1 then cZ t most dQ dP S
  else if k=2 then(if(b9 t S).2.err≠0 then(b9 t S).2 else cZ t most (b9 t S).1.1 (b9 t S).1.2 (b9 t S).2)else {S with err:=3}
set_option maxHeartbeats 2000000 in
theorem rz (t:Bs) (most k:Nat) (S:SS) (fin:Nat) {E:Env} {Q:KQ} {R2:KS} (hN:E.N≤1000000) (hok:bM t most S) (hk:k<4)
    (hR2:∀st',Wk st' ⟨[(9,.ab 79038 0),(10,.int .i64 fin)],aB t most (kZ t most k S)⟩→R2.ap st') :
    vcW Tryz.prog E Cod.yU (KQ.eM R2 Q) ⟨[(9,.ab 79038 0),(10,.int .i64 fin),(11,.int .i64 k)],aB t most S⟩:=by
 unfold kZ at hR2
 by_cases he:S.err=0
 ·rw[if_neg (by simpa using he)]at hR2
  by_cases h0:k=0
  ·rw[if_pos h0]at hR2
   subst h0
   refine bV he ?_
   refine gG ?_
   refine aU (aB t most S) (agK t most S hok) (bO he) nofun ?_
   rintro h' v ar ⟨rfl,rfl,rfl⟩
   generalize ep t most S=S3 at *
   refine⟨aE,rfl,?_⟩
   refine bx ?_
   exact hR2 _ (.le aE)
  ·rw[if_neg h0]at hR2
   have i0:¬((k:Int)=0):=by omega
   by_cases h1:k=1
   ·rw[if_pos h1]at hR2
    subst h1
    have hp:=zd t most S hok dQ dP iu.1 (by rw[iu.2.1];decide) ir.1 (by rw[ir.2.1];decide)
    have hfx:=aeE
    generalize dQ=l at *
    generalize dP=d at *
    generalize hF:cZ t most l d S=F at *
    refine bV he ?_
    refine gG ?_
    refine aA hfx rfl rfl ?_
    refine wW ?_
    refine aU (aB t most S) hp (bO he) nofun ?_
    rintro h' v ar ⟨rfl,rfl,rfl⟩
    refine⟨aE,rfl,?_⟩
    refine bx ?_
    exact hR2 _ (.le aE)
   ·rw[if_neg h1]at hR2
    have i1:¬((k:Int)=1):=by omega
    by_cases h2:k=2
    ·rw[if_pos h2]at hR2
     subst h2
     have hd:=ad6 t most S hok he
     have hg:=IA (t:=t) (S:=S)
     have hokd:bM t most (b9 t S).2:=hok.mv oZ
     generalize b9 t S=D at *
     refine bV he ?_
     refine gG ?_
     refine aU (aB t most S) hd (bO he) nofun ?_
     rintro h' v ar ⟨rfl,rfl,rfl⟩
     by_cases hde:D.2.err=0
     ·rw[if_neg (by simpa using hde)]at hR2
      rw[if_pos hde]
      obtain⟨g1,g2,g3,g4⟩:=hg hde
      have hp:=zd t most D.2 hokd D.1.1 D.1.2 g1 g2 g3 g4
      generalize cZ t most D.1.1 D.1.2 D.2=F at *
      refine⟨aE,vV,?_⟩
      refine bV hde ?_
      refine aU (aB t most D.2) hp (bO hde) nofun ?_
      rintro h' v ar ⟨rfl,rfl,rfl⟩
      refine⟨aE,rfl,?_⟩
      refine bx ?_
      exact hR2 _ (.le aE)
     ·rw[if_pos hde]at hR2
      rw[if_neg hde]
      have hi:¬((D.2.err:Int)=0):=by omega
      refine⟨aE,vV,?_⟩
      refine bV hi ?_
      refine bF hi ?_
      exact hR2 _ (.le aE)
    ·rw[if_neg h2]at hR2
     obtain rfl:k=3:=by omega
     refine bV he ?_
     refine gG ?_
     refine aU (aB t most S) (eL t most S 3) (bO he) nofun ?_
     rintro h' v ar ⟨rfl,rfl,rfl⟩
     refine⟨aE,rfl,?_⟩
     rw[eF he]
     refine bx ?_
     exact hR2 _ (.le aE)
 ·have hi:¬((S.err:Int)=0):=by omega
  rw[if_pos he]at hR2
  refine bV hi ?_
  exact hR2 _ (.le aE)
theorem E6 {t:Bs} {most:Nat} {S:SS} (he:S.err=0) (h:¬8*t.length<S.p+3) :
    dG t most S=(decide (numAt t S.p 1=1),kZ t most (numAt t (S.p+1) 2) {S with p:=S.p+3}):=by
 have hk:∀k,kZ t most k {S with p:=S.p+3}=if k=0 then ep t most {S with p:=S.p+3} else if k=1 then cZ t most dQ dP {S with p:=S.p+3}
  else if k=2 then(if(b9 t {S with p:=S.p+3}).2.err≠0 then(b9 t {S with p:=S.p+3}).2 else cZ t most (b9 t {S with p:=S.p+3}).1.1 (b9 t {S with p:=S.p+3}).1.2 (b9 t {S with p:=S.p+3}).2)else {S with p:=S.p+3,err:=3}:=fun k=>if_neg (by simpa using he)
 rw[hk]
 exact if_neg h
set_option maxHeartbeats 2000000 in
theorem ae9 (x:Bs) (o most:Nat) (ho:o≤x.length) (ht:(x.drop o).length≤1000000) (hx:x.length≤4000000000000000000) (hm:most≤65536) :
    aM Tryz.prog 50 [.str x,.int .i64 o,.int .i64 most] (.ai [.str (dU (x.drop o) most).1,.int .i64 ((dU (x.drop o) most).2.1:Nat),.int .i64 ((dU (x.drop o) most).2.2:Nat)]):=by
 refine Cod.afa (fun E R hN hR=>?_)
 have c1:¬((o:Int)<0):=by omega
 have c2:¬((x.length:Int)<(o:Int)):=by omega
 have c3:¬((most:Int)<0):=by omega
 have c4:¬((65536:Int)<(most:Int)):=by omega
 have hbits:=aaB (x.drop o) ht
 refine dE c1 c2 c3 c4 ?_
 refine kR c1 c2 c3 c4 ?_
 generalize x.drop o=t at *
 have hbl:=nu t
 refine aA hbits rfl rfl ?_
 refine wW ?_
 unfold dU at hR
 simp only at hR
 generalize hRS:fC t most ⟨0,[],0⟩=RS at hR
 refine aZ hN (fun S:SS=>⟨[(9,.ab 79038 0)],aB t most S⟩) (fun S=>bM t most S∧(S.err=0→fC t most S=RS)∧(S.err≠0→RS=S)) (fun S=>if S.err=0 then 8*t.length+1-S.p else 0) ⟨0,[],0⟩
  (.la 79038 2 73035 1 [.ro 1 (bZ (bq t 0)),.int .i64 0,.aj,.int .i64 most,.int .i64 0] vV rfl rfl (.le aE)) ⟨⟨ht,by omega,by simp,by simp⟩,fun _=>hRS,fun h=>absurd rfl h⟩ ?_
 rintro S R1 ⟨hok,hg,hb⟩ hR1
 by_cases he:S.err=0
 ·have hg:=hg he
  rw[run_eq hok.pl]at hg
  have hmb:=j7 (t:=t) (most:=most) (S:=S)
  have hokb:bM t most (dG t most S).2:=hok.mv hmb.1
  generalize hS1:(if 8*t.length<S.p+3 then {S with err:=6} else S)=S1
  have hok1:bM t most S1:=by rw[←hS1];split;exact hok.mv gD;exact hok
  have hpl:=hok.pl
  have htl:=hok.tl
  refine bV he ?_
  refine dD hN (fun _:Unit=>⟨[(9,.ab 79038 0)],aB t most S1⟩) (fun _=>True) (fun R2 hR2=>?_) (fun _ _=>?_)
  ·subst hS1
   clear hR hR1
   by_cases hlt:8*t.length<S.p+3
   ·rw[if_pos hlt]at hR2
    have hi:((8*t.length:Nat):Int)-(S.p:Int)<3:=by omega
    refine ib he hbl hi ?_
    refine fK he hbl hi ?_
    refine aU (aB t most S) (eL t most S 6) (bO he) nofun ?_
    rintro h' v ar ⟨rfl,rfl,rfl⟩
    refine⟨aE,rfl,?_⟩
    rw[eF he]
    refine bx ?_
    exact hR2 () _ trivial (.le aE)
   ·rw[if_neg hlt]at hR2
    have hi:¬((8*t.length:Nat):Int)-(S.p:Int)<3:=by omega
    refine ib he hbl hi ?_
    refine fK he hbl hi ?_
    exact hR2 () _ trivial (.le (bO he))
  ·have ha:=fQ t most S1 hok1 1 (by decide)
   have hoka:bM t most (aH t 1 S1).2:=hok1.mv eJ
   have hla:=eV (t:=t) (n:=1) (S:=S1)
   generalize hea:aH t 1 S1=a at *
   have hbn:=fQ t most a.2 hoka 2 (by decide)
   have hokb2:bM t most (aH t 2 a.2).2:=hoka.mv eJ
   have hlb:=eV (t:=t) (n:=2) (S:=a.2)
   generalize heb:aH t 2 a.2=b at *
   have hkk:(dG t most S).2=kZ t most b.1 b.2∧((dG t most S).2.err=0→((dG t most S).1=true↔a.1=1)):=by
    by_cases hlt:8*t.length<S.p+3
    ·rw[if_pos hlt]at hS1
     have h1:S1.err≠0:=by rw[←hS1];simp
     rw[j9 h1]at hea
     subst hea
     rw[j9 h1]at heb
     subst heb
     have hbk:dG t most S=(true,{S with err:=6}):=if_pos hlt
     rw[hbk]
     refine⟨?_,fun h=>absurd h (by simp)⟩
     unfold kZ
     rw[if_pos h1,hS1]
    ·rw[if_neg hlt]at hS1
     subst hS1
     obtain⟨w1,w2⟩:=EZ he hlt
     rw[w1]at hea
     subst hea
     simp only at heb
     rw[w2]at heb
     subst heb
     rw[E6 he hlt]
     exact⟨rfl,fun _=>by simp⟩
   obtain⟨hk1,hk2⟩:=hkk
   generalize dG t most S=B at *
   refine bx ?_
   refine aU (aB t most S1) ha aE nofun ?_
   rintro h' v ar ⟨rfl,rfl,rfl⟩
   refine⟨aE,rfl,?_⟩
   refine bx ?_
   refine aU (aB t most a.2) hbn aE nofun ?_
   rintro h' v ar ⟨rfl,rfl,rfl⟩
   refine⟨aE,rfl,?_⟩
   refine bx ?_
   refine dD hN (fun _:Unit=>⟨[(9,.ab 79038 0),(10,.int .i64 a.1)],aB t most B.2⟩) (fun _=>True) (fun R2 hR2=>?_) (fun _ _=>?_)
   ·have hkd:=rz t most b.1 b.2 a.1 (E:=E) (R2:=R2) (Q:=KQ.cG 1 (KQ.eM R1 (KQ.cG 0 (KQ.seq Tryz.prog E Cod.yV (KQ.post [RVar.tmp 6,RVar.tmp 7,RVar.tmp 8] 3 R))))) hN hokb2 hlb (fun st' hw=>hR2 () _ trivial (by rw[hk1];exact hw))
    simp only[aB]at hkd
    exact hkd
   ·by_cases hBe:B.2.err=0
    ·by_cases ha1:a.1=1
     ·have hB1:=(hk2 hBe).2 ha1
      rw[if_pos (.inr hB1)]at hg
      subst hg
      rw[if_neg (by simpa using hBe)]at hR
      have hup:=yF B.2.p (by have:=hokb.pl;omega)
      have hi:((a.1:Nat):Int)=1:=by omega
      have hup2:=up8 B.2.p
      have hub:cz B.2.p≤B.2.p+8:=by unfold cz;omega
      have:=hokb.pl
      have:=hokb.ol
      refine gm hBe hi ?_
      refine dS hBe hi ?_
      refine aA hup rfl rfl ?_
      generalize cz B.2.p=ub at *
      have e8:(ub:Int)/8=(((B.2.p+7)/8:Nat):Int):=by omega
      refine au e8 ?_
      exact hR.wk (h':=[]) (r':=.ai [.str B.2.out,.int .i64 ((B.2.p+7)/8:Nat),.int .i64 (0:Nat)]) (ar':=[.undef,.undef,.undef]) rfl (.le vV) ⟨rfl,rfl⟩
     ·have hB1:¬B.1=true:=fun h=>ha1 ((hk2 hBe).1 h)
      have hi:¬((a.1:Nat):Int)=1:=by omega
      rw[if_neg (fun h=>h.elim (fun h=>h hBe) hB1)]at hg
      refine gm hBe hi ?_
      refine dS hBe hi ?_
      exact hR1 B.2 _ (by simp only[if_pos hBe,if_pos he];have:=hmb.2 hBe;omega) ⟨hokb,fun _=>hg,fun h=>absurd hBe h⟩ (.le (bO hBe))
    ·rw[if_pos (.inl hBe)]at hg
     have hi:¬((B.2.err:Int)=0):=by omega
     refine bV hi ?_
     refine bF hi ?_
     exact hR1 B.2 _ (by simp only[if_neg hBe,if_pos he];omega) ⟨hokb,fun h=>absurd h hBe,fun _=>hg.symm⟩ (.le aE)
 ·obtain rfl:=hb he
  rw[if_pos he]at hR
  have hi:¬((RS.err:Int)=0):=by omega
  refine bV hi ?_
  refine bF hi ?_
  exact hR.wk (h':=[]) (r':=.ai [.str [],.int .i64 (0:Nat),.int .i64 (RS.err:Nat)]) (ar':=[.undef,.undef,.undef]) rfl (.le vV) ⟨rfl,rfl⟩
def eX:Nat:=65032
def pY:Nat:=60022
attribute [go_sem] eX pY
def aV (s:Bs) (o most a hv:Nat) (out:Bs):HP:=[(eX,.var [.ab RD 0,.sl pY 0 out.length,.int .i64 most]),(pY,.arr 1 (out.map ub)),(RD,.var (aW s a hv o))]
theorem mP {p:Prop} (h:p:=by simp(disch:=first | omega | (simp only[Lx];omega))only[go_sem,simprocAttr,aV,aW,bm]):p:=h
theorem s7 {a b:Prop} (k:b) (h:b→a:=by intro h;simp(disch:=first | omega | (simp only[Lx];omega))only[go_sem,simprocAttr,aV,aW,bm];exact h):a:=h k
theorem pR {E0:Prop} {p:Prop} (e0:E0) (h:E0→p:=by intro e0;simp(disch:=first | omega | (simp only[Lx];omega))only[go_sem,simprocAttr,aV,aW,bm,e0]):p:=h e0
theorem bz {p:Prop} (h:p:=by simp(disch:=first | omega | (simp only[Lx];omega))only[go_sem,simprocAttr,aV,aW]):p:=h
theorem jg {a b:Prop} (k:b) (h:b→a:=by intro h;simp(disch:=first | omega | (simp only[Lx];omega))only[go_sem,simprocAttr,aV,aW];exact h):a:=h k
theorem BH {E0:Prop} {p:Prop} (e0:E0) (h:E0→p:=by intro e0;simp(disch:=first | omega | (simp only[Lx];omega))only[go_sem,simprocAttr,aV,aW,e0]):p:=h e0
theorem s8 {E0:Prop} {a b:Prop} (e0:E0) (k:b) (h:E0→b→a:=by intro e0 h;simp(disch:=first | omega | (simp only[Lx];omega))only[go_sem,simprocAttr,aV,aW,e0];exact h):a:=h e0 k
theorem vVJ {p:Prop} (h:p:=by simp(disch:=first | omega | (simp only[Lx];omega))only[go_sem,simprocAttr,aV]):p:=h
theorem ic {a b:Prop} (k:b) (h:b→a:=by intro h;simp(disch:=first | omega | (simp only[Lx];omega))only[go_sem,simprocAttr,aV];exact h):a:=h k
theorem s9 {E0 E1:Prop} {a b:Prop} (e0:E0) (e1:E1) (k:b) (h:E0→E1→b→a:=by intro e0 e1 h;simp(disch:=first | omega | (simp only[Lx];omega))only[go_sem,simprocAttr,aV,e0,e1];exact h):a:=h e0 e1 k
theorem wS (s:Bs) (o most a hv:Nat) (out:Bs) (hm:most≤1000000) (ho:out.length≤most) (c:UInt8):Eng.Spec Tryz.prog 165 (aV s o most a hv out) [.ab eX 0,.int .u8 (c.toNat:Int)]
    (fun h' v ar=>h'=aV s o most a hv (if out.length=most then out else out++[c])∧v=.int .i64 (if out.length=most then 2 else 0:Nat)∧ar=[.ab eX 0,.int .u8 (c.toNat:Int)]):=by
 refine Cod.Qf (fun E R hN hR=>?_)
 have hc:=c.toNat_lt
 by_cases hf:out.length=most
 ·rw[if_pos hf,if_pos hf]at hR
  refine jg ?_
  refine gG ?_
  exact hR.le bz ⟨rfl,rfl,rfl⟩
 ·rw[if_neg hf,if_neg hf]at hR
  refine jg ?_
  refine gG ?_
  refine hR.le ?_ ⟨rfl,rfl,rfl⟩
  refine jg ?_
  rw[UInt8.ofNat_toNat]
theorem VR:∀i:Nat,i<28→8≤i→IntKind.i64.wrap (3+IntKind.i64.wrap ((4+(i:Int)%4)*2^min ((i:Int)/4-1).toNat 64))=((3+(4+i%4)*2^(i/4-1):Nat):Int)∧(i:Int)/4-1=((i/4-1:Nat):Int):=by decide +kernel
theorem Ie:∀i:Nat,i<30→4≤i→IntKind.i64.wrap (1+IntKind.i64.wrap ((2+(i:Int)%2)*2^min ((i:Int)/2-1).toNat 64))=((1+(2+i%2)*2^(i/2-1):Nat):Int)∧(i:Int)/2-1=((i/2-1:Nat):Int):=by decide +kernel
theorem Pw (i:Nat) (hi:i≤28):aM Tryz.prog 139 [.int .i64 i] (.ai [.int .i64 ((a8 i).1:Nat),.int .i64 ((a8 i).2:Nat)]):=by
 refine Cod.Px (fun E R hN hR=>?_)
 by_cases h28:i=28
 ·subst h28
  refine wW ?_
  exact hR.le vV ⟨rfl,rfl⟩
 ·by_cases h8:i<8
  ·have e:a8 i=(3+i,0):=by unfold a8;rw[if_neg h28,if_pos h8]
   rw[e]at hR
   refine wW ?_
   refine gG ?_
   exact hR.le vV ⟨rfl,rfl⟩
  ·have e:a8 i=(3+(4+i%4)*2^(i/4-1),i/4-1):=by unfold a8;rw[if_neg h28,if_neg h8]
   rw[e]at hR
   refine wW ?_
   refine gG ?_
   obtain⟨w1,w2⟩:=VR i (by omega) (by omega)
   rw[w1,w2]
   exact hR.le vV ⟨rfl,rfl⟩
theorem Oy (i:Nat) (hi:i≤29):aM Tryz.prog 140 [.int .i64 i] (.ai [.int .i64 ((b4 i).1:Nat),.int .i64 ((b4 i).2:Nat)]):=by
 refine Cod.Oz (fun E R hN hR=>?_)
 by_cases h4:i<4
 ·have e:b4 i=(1+i,0):=by unfold b4;rw[if_pos h4]
  rw[e]at hR
  refine wW ?_
  refine gG ?_
  exact hR.le vV ⟨rfl,rfl⟩
 ·have e:b4 i=(1+(2+i%2)*2^(i/2-1),i/2-1):=by unfold b4;rw[if_neg h4]
  rw[e]at hR
  refine wW ?_
  refine gG ?_
  obtain⟨w1,w2⟩:=Ie i (by omega) (by omega)
  rw[w1,w2]
  exact hR.le vV ⟨rfl,rfl⟩
def PI (s:Bs) (o most:Nat) (F:SS) (h':HP) (v:AV):Prop:=
 ∃a' hv' out',h'=aV s o most a' hv' out'∧v=.int .i64 (F.err:Nat)∧(F.err=0→out'=F.out∧bI s a' hv' (8*o+F.p))
theorem iy {s:Bs} {o most:Nat} {F:SS} {h':HP} {v:AV} (h:∃a' hv' S',h'=aV s o most a' hv' S'.out∧bI s a' hv' (8*o+S'.p)∧S'.out.length≤most∧v=.int .i64 (F.err:Nat)∧(F.err=0→S'=F)):PI s o most F h' v:=by
 obtain⟨a',hv',S',h1,h2,_,h4,h5⟩:=h
 exact⟨a',hv',S'.out,h1,h4,fun he=>by obtain rfl:=h5 he;exact⟨rfl,h2⟩⟩
theorem rH (s:Bs) (o p:Nat):cY s (8*o+p)=8*(s.drop o).length-p:=by unfold cY;rw[List.length_drop];omega
theorem vc (s:Bs) (q:Nat) (h:q+2≤s.length):(s.drop q).take 2=[s.getD q 0,s.getD (q+1) 0]:=by
 have h1:q<s.length:=by omega
 have h2:q+1<s.length:=by omega
 rw[List.drop_eq_getElem_cons h1,List.drop_eq_getElem_cons h2,List.getD_eq_getElem?_getD,List.getD_eq_getElem?_getD,List.getElem?_eq_getElem h1,List.getElem?_eq_getElem h2]
 rfl
theorem xD (x y:UInt8):aM Tryz.prog 186 [.str [x,y]] (.int .u64 ((x.toNat+y.toNat*2^8:Nat):Int)):=by
 refine Cod.K3 (fun E R hN hR=>?_)
 have hx:=x.toNat_lt
 have hy:=y.toNat_lt
 refine wW ?_
 refine aZ hN (fun i:Nat=>⟨[(0,.str [x,y]),(3,.int .u64 (if i=0 then 0 else if i=1 then x.toNat else x.toNat+y.toNat*2^8:Nat)),(7,.int .i64 2),(8,.int .i64 i)],[]⟩) (fun i=>i≤2) (fun i=>2-i) 0 (.le vV) (by omega) ?_
 rintro i R1 hi hR1
 obtain rfl | rfl | rfl:i=0∨i=1∨i=2:=by omega
 ·have e0:bits .or .u64 0 (IntKind.u64.wrap ((x.toNat:Int)*2^min 0 64))=((x.toNat:Nat):Int):=(rT (x:=0) (k:=0) (b:=x.toNat) (by decide) (by decide) hx).trans (by rw[Nat.zero_add,Nat.pow_zero,Nat.mul_one])
  refine au e0 ?_
  exact hR1 1 _ (by omega) (by omega) (.le vV)
 ·have e1:bits .or .u64 (x.toNat:Int) (IntKind.u64.wrap ((y.toNat:Int)*2^min 8 64))=((x.toNat+y.toNat*2^8:Nat):Int):=rT (k:=8) hx (by decide) hy
  refine au e1 ?_
  exact hR1 2 _ (by omega) (by omega) (.le vV)
 ·refine wW ?_
  exact hR.le vV ⟨rfl,rfl⟩
theorem mq (t:Bs) (most:Nat) {S:SS} (h:S.err≠0):∀n,rawS t most n S=S
 | 0=>rfl
 | n+1=>by rw[si,if_pos h]
theorem zI (t:Bs) (most:Nat):∀(n:Nat) (S:SS) (q:Nat),S.err=0→S.p=8*q→q≤t.length→S.out.length≤most →
    (rawS t most n S).err=(if most<S.out.length+min n (t.length-q)then 2 else if t.length<q+n then 6 else 0)∧((rawS t most n S).err=0→rawS t most n S=⟨8*(q+n),S.out++(t.drop q).take n,0⟩)
 | 0,S,q,he,hp,hq,ho=>by
  refine⟨?_,fun _=>?_⟩
  ·rw[if_neg (by omega),if_neg (by omega)];exact he
  ·obtain⟨p,out,err⟩:=S
   simp only at he hp
   subst he hp
   simp[rawS]
 | n+1,S,q,he,hp,hq,ho=>by
  rw[si,if_neg (by simpa using he)]
  by_cases hq1:q=t.length
  ·have hn:=jt (n:=8) he (t:=t) (by omega)
   rw[hn]
   have hput:dk most (UInt8.ofNat (0,{S with err:=6}).1) (0,{S with err:=6}).2={S with err:=6}:=if_pos (by simp)
   rw[hput,mq _ _ (by simp)]
   refine⟨?_,fun h=>absurd h (by simp)⟩
   rw[if_neg (by omega),if_pos (by omega)]
  ·have hn:=fA (n:=8) he (t:=t) (by omega)
   rw[hn]
   simp only
   rw[hp,o8,UInt8.ofNat_toNat]
   unfold dk
   rw[if_neg (by simpa using he)]
   by_cases hf:most≤S.out.length
   ·simp only[if_pos hf]
    rw[mq _ _ (by simp)]
    refine⟨?_,fun h=>absurd h (by simp)⟩
    rw[if_pos (by omega)]
   ·simp only[if_neg hf]
    obtain⟨h1,h2⟩:=zI t most n {p:=8*q+8,out:=S.out++[t.getD q 0],err:=S.err} (q+1) he (by simp only;omega) (by omega) (by simp only[List.length_append,List.length_singleton];omega)
    refine⟨?_,fun h=>?_⟩
    ·rw[h1]
     simp only[List.length_append,List.length_singleton]
     rw[show S.out.length+1+min n (t.length-(q+1))=S.out.length+min (n+1) (t.length-q)by omega,show q+1+n=q+(n+1)by omega]
    ·rw[h2 h]
     have hlt:q<t.length:=by omega
     rw[List.drop_eq_getElem_cons hlt,List.take_succ_cons,List.getD_eq_getElem?_getD,List.getElem?_eq_getElem hlt,show q+1+n=q+(n+1)by omega]
     simp
theorem aq6 (t:Bs) (most:Nat) (S:SS) (he:S.err=0) (hp:S.p≤8*t.length) (ho:S.out.length≤most) (q:Nat) (hq:cz S.p=8*q) :
    if t.length<q+4 then(ep t most S).err=6 else
     if(t.getD q 0).toNat+(t.getD (q+1) 0).toNat*2^8+((t.getD (q+2) 0).toNat+(t.getD (q+3) 0).toNat*2^8)≠65535 then(ep t most S).err=3 else
     (ep t most S).err=(if most<S.out.length+min ((t.getD q 0).toNat+(t.getD (q+1) 0).toNat*2^8) (t.length-(q+4))then 2 else if t.length<q+4+((t.getD q 0).toNat+(t.getD (q+1) 0).toNat*2^8)then 6 else 0) ∧
     ((ep t most S).err=0→ep t most S=⟨8*(q+4+((t.getD q 0).toNat+(t.getD (q+1) 0).toNat*2^8)),S.out++(t.drop (q+4)).take ((t.getD q 0).toNat+(t.getD (q+1) 0).toNat*2^8),0⟩):=by
 have hn16:∀i,numAt t (8*i) 16=(t.getD i 0).toNat+(t.getD (i+1) 0).toNat*2^8:=by
  intro i
  rw[show(16:Nat)=8+8 from rfl,Yx,o8,show 8*i+8=8*(i+1)by omega,o8]
 have hup:gJ S={S with p:=8*q}:=by unfold gJ;unfold cz at hq;rw[hq]
 have hq2:q≤t.length:=by unfold cz at hq;omega
 unfold ep
 simp only
 rw[hup]
 by_cases h4:t.length<q+4
 ·rw[if_pos h4]
  by_cases h2:t.length<q+2
  ·rw[jt (by exact he) (by simp only;omega)]
   simp only
   rw[j9 (by simp)]
   simp only
   rw[if_pos (by decide)]
   rw[mq _ _ (gT (by decide))]
   rfl
  ·rw[fA (by exact he) (by simp only;omega)]
   simp only
   rw[jt (by exact he) (by simp only;omega)]
   simp only
   have hfe:b5 3 {p:=8*q+16,out:=S.out,err:=6}=({p:=8*q+16,out:=S.out,err:=6}:SS):=if_neg (by simp)
   rw[hfe,ite_self,mq _ _ (by simp)]
 ·rw[if_neg h4]
  rw[fA (by exact he) (by simp only;omega)]
  simp only
  rw[fA (by exact he) (by simp only;omega)]
  simp only
  rw[show 8*q+16=8*(q+2)by omega,hn16,hn16]
  by_cases hx:(t.getD q 0).toNat+(t.getD (q+1) 0).toNat*2^8+((t.getD (q+2) 0).toNat+(t.getD (q+2+1) 0).toNat*2^8)≠65535
  ·rw[if_pos hx,if_pos hx,mq _ _ (gT (by decide)),eF (by exact he)]
  ·rw[if_neg hx,if_neg hx]
   exact zI t most _ _ (q+4) he (by simp only;omega) (by omega) ho
theorem aoe (s:Bs) (a hv fr p:Nat) (hs:s.length≤1000000000000) (h:bI s a hv p) (hfr:8*fr≤p):Eng.Spec Tryz.prog 121 [] [.aw (.agg (aW s a hv fr))] (fun h' v ar=>h'=[]∧v=.int .i64 ((p+7)/8-fr:Nat)∧ar=[.aw (.agg (aW s a hv fr))]):=by
 refine Cod.aog (fun E R hN hR=>?_)
 obtain⟨h1,h2,h3⟩:=h
 have eq:(hv:Int).tdiv 8=((hv/8:Nat):Int):=by rw[jC (by omega)];omega
 have e2:(a:Int)-((hv/8:Nat):Int)-(fr:Int)=(((p+7)/8-fr:Nat):Int):=by omega
 refine ta eq e2 ?_
 exact hR.le vV ⟨rfl,rfl,rfl⟩
theorem al4 (s:Bs) (a hv fr p:Nat) (hs:s.length≤1000000000000) (h:bI s a hv p):Eng.Spec Tryz.prog 187 [] [.aw (.agg (aW s a hv fr))] (fun h' v ar=>h'=[]∧v=.int .i64 (cY s p:Nat)∧ar=[.aw (.agg (aW s a hv fr))]):=by
 refine Cod.al6 (fun E R hN hR=>?_)
 obtain⟨h1,h2,h3⟩:=h
 have e2:8*((s.length:Int)-(a:Int))+(hv:Int)=((cY s p:Nat):Int):=by unfold cY;omega
 refine atg e2 ?_
 exact hR.le vV ⟨rfl,rfl,rfl⟩
theorem arD (s:Bs) (q:Nat) (h:q+4≤s.length):(s.drop q).take 4=[s.getD q 0,s.getD (q+1) 0,s.getD (q+2) 0,s.getD (q+3) 0]:=by
 have e:(s.drop q).take 4=(s.drop q).take 2++(s.drop (q+2)).take 2:=by rw[show(4:Nat)=2+2 from rfl,List.take_add,List.drop_drop]
 rw[e,vc s q (by omega),vc s (q+2) (by omega)]
 rfl
theorem atG {n:Nat} (h:n<65536):n ^^^ 65535=65535-n:=by
 have h1:(BitVec.ofNat 16 n ^^^ BitVec.allOnes 16).toNat=(~~~ (BitVec.ofNat 16 n)).toNat:=by rw[BitVec.xor_allOnes]
 rw[BitVec.toNat_xor,BitVec.toNat_not,BitVec.toNat_ofNat,BitVec.toNat_allOnes,Nat.mod_eq_of_lt (by omega)]at h1
 omega
set_option maxHeartbeats 1000000 in
theorem Sl (s:Bs) (o most a hv:Nat) (S:SS) (hs:s.length≤1000000000) (ho:o≤s.length) (hm:most≤1000000) (hr:bI s a hv (8*o+S.p)) (hol:S.out.length≤most) (he:S.err=0) :
    Eng.Spec Tryz.prog 162 (aV s o most a hv S.out) [.ab eX 0] (fun h' v ar=>PI s o most (ep (s.drop o) most S) h' v∧ar=[.ab eX 0]):=by
 refine Cod.Sm (fun E R hN hR=>?_)
 obtain⟨q,hq⟩:∃q,cz S.p=8*q:=⟨(S.p+7)/8,by unfold cz;omega⟩
 have hr':=hr
 obtain⟨r1,r2,r3⟩:=hr'
 have hpl:S.p≤8*(s.drop o).length:=by rw[List.length_drop];omega
 have hup:cz (8*o+S.p)=8*(o+q):=by unfold cz at hq ⊢;omega
 have hud:cz (8*o+S.p)/8=o+q:=by omega
 have law:=aq6 (s.drop o) most S he hpl hol q hq
 generalize ep (s.drop o) most S=F at *
 have gd:∀i,(s.drop o).getD i 0=s.getD (o+i) 0:=fun i=>by rw[List.getD_eq_getElem?_getD,List.getElem?_drop,←List.getD_eq_getElem?_getD]
 rw[gd,gd,gd,gd,List.length_drop,List.drop_drop]at law
 have hb:=sj s a hv o (8*o+S.p) 4 (by omega) (by decide) hr
 rw[hud]at hb
 refine ic ?_
 refine aU [(RD,.var (aW s a hv o))] hb vV nofun ?_
 rintro h' v ar ⟨a1,hv1,hr1,hz1,rfl,rfl,rfl⟩
 by_cases h4:s.length<o+q+4
 ·rw[if_neg (by omega)]at hr1
  rw[if_neg (by omega),decide_eq_false (by omega)]
  rw[if_pos (by omega)]at law
  refine⟨cm,rfl,?_⟩
  refine ig ?_
  exact hR.le (h':=aV s o most a1 hv1 S.out) bz ⟨iy ⟨a1,hv1,{S with p:=8*q,err:=6},rfl,by simp only;rw[show 8*o+8*q=8*(o+q)by omega,←hup];exact hr1,hol,by rw[law];rfl,fun h=>absurd h (by rw[law];decide)⟩,rfl⟩
 ·rw[if_pos (by omega)]at hr1
  rw[if_pos (by omega),decide_eq_true (by omega),arD s (o+q) (by omega)]
  rw[if_neg (by omega)]at law
  generalize s.getD (o+q) 0=c0 at *
  generalize s.getD (o+(q+1)) 0=c1 at *
  generalize s.getD (o+(q+2)) 0=c2 at *
  generalize s.getD (o+(q+3)) 0=c3 at *
  have hc0:=c0.toNat_lt
  have hc1:=c1.toNat_lt
  have hc2:=c2.toNat_lt
  have hc3:=c3.toNat_lt
  have l1:=xD c0 c1
  have l2:=xD c2 c3
  generalize hn:c0.toNat+c1.toNat*2^8=n at *
  generalize hk:c2.toNat+c3.toNat*2^8=k at *
  have hn6:n<65536:=by omega
  have hk6:k<65536:=by omega
  refine⟨cm,rfl,?_⟩
  refine ig ?_
  refine aA l1 rfl rfl ?_
  refine wW ?_
  refine aA l2 rfl rfl ?_
  have ex:bits .xor .i64 (n:Int) 65535=((65535-n:Nat):Int):=by
   show IntKind.i64.wrap ((BitVec.ofInt 64 (n:Int) ^^^ BitVec.ofInt 64 ((65535:Nat):Int)).toNat:Int)=_
   rw[BitVec.ofInt_natCast,BitVec.ofInt_natCast,BitVec.toNat_xor,BitVec.toNat_ofNat,BitVec.toNat_ofNat,Nat.mod_eq_of_lt (by omega),Nat.mod_eq_of_lt (by decide),atG hn6]
   exact ji (by omega)
  refine au ex ?_
  by_cases hx:n+k≠65535
  ·rw[if_pos hx]at law
   have hne:¬((65535-n:Nat):Int)=(k:Int):=by omega
   refine au hne ?_
   exact hR.le (h':=aV s o most a1 hv1 S.out) bz ⟨iy ⟨a1,hv1,{S with p:=8*(q+4),err:=3},rfl,by simp only;rw[hup]at hr1;rw[show 8*o+8*(q+4)=8*(o+q)+8*4 by omega];exact hr1,hol,by rw[law];rfl,fun h=>absurd h (by rw[law];decide)⟩,rfl⟩
  ·rw[if_neg hx]at law
   have heq:((65535-n:Nat):Int)=(k:Int):=by omega
   obtain⟨law1,law2⟩:=law
   have hr1':bI s a1 hv1 (8*(o+q+4)):=by rw[hup]at hr1;rw[show 8*(o+q+4)=8*(o+q)+8*4 by omega];exact hr1
   have hup1:cz (8*(o+q+4))=8*(o+q+4):=by unfold cz;omega
   have hb2:=sj s a1 hv1 o (8*(o+q+4)) n (by omega) (by omega) hr1'
   rw[hup1,Nat.mul_div_cancel_left _ (by decide)]at hb2
   refine au heq ?_
   refine aU [(RD,.var (aW s a1 hv1 o))] hb2 cm nofun ?_
   rintro h' v ar ⟨a2,hv2,hr2,hz2,rfl,rfl,rfl⟩
   have key:∀(ok:Bool) (x:Bs),ok=decide (n≤s.length-(o+q+4))→x=(if n≤s.length-(o+q+4)then(s.drop (o+q+4)).take n else[]) →
    vcW Tryz.prog E Cod.xc (KQ.post [RVar.tmp 2] 1 R) ⟨[(0,.ab 65032 0),(4,.bool ok),(6,.str x),(2000000,.ab 65032 0)],[(40014,.var (aW s a2 hv2 o)),(65032,.var [.ab 40014 0,.sl 60022 0 S.out.length,.int .i64 most]),(60022,.arr 1 (S.out.map ub))]⟩:=by
    intro ok x hok hv4
    refine dD hN (fun z:Nat×Nat=>⟨[(0,.ab eX 0),(4,.bool ok),(6,.str ((s.drop (o+q+4)).take n)),(2000000,.ab eX 0)],aV s o most z.1 z.2 S.out⟩) (fun z=>bI s z.1 z.2 (8*(o+q+4+min n (s.length-(o+q+4))))) (fun R2 hR2=>?_) (fun z hz=>?_)
    ·clear hR
     subst hok
     subst hv4
     by_cases hfit:n≤s.length-(o+q+4)
     ·rw[if_pos hfit]at hr2
      rw[if_pos hfit,decide_eq_true hfit]
      refine jg ?_
      refine hR2 (a2,hv2) _ (by simp only;rw[Nat.min_eq_left hfit,show 8*(o+q+4+n)=8*(o+q+4)+8*n by omega];exact hr2) (.le ?_)
      exact bz
     ·rw[if_neg hfit]at hr2
      rw[if_neg hfit,decide_eq_false hfit]
      have hlb:=al4 s a2 hv2 o _ (by omega) hr2
      have el:cY s (8*(o+q+4))/8=s.length-(o+q+4):=by unfold cY;omega
      have hb3:=sj s a2 hv2 o _ (s.length-(o+q+4)) (by omega) (by omega) hr2
      rw[hup1,Nat.mul_div_cancel_left _ (by decide),if_pos (Nat.le_refl _)]at hb3
      generalize cY s (8*(o+q+4))=lb at *
      have elb:(lb:Int)/8=((s.length-(o+q+4):Nat):Int):=by omega
      simp only[aW]at hlb
      refine ig ?_
      refine gG ?_
      refine lK [] vV hlb trivial (fun _=>rfl) ?_
      rintro h' v ar ⟨rfl,rfl,rfl⟩
      refine⟨rfl,rfl,?_⟩
      refine au elb ?_
      refine aU [(RD,.var (aW s a2 hv2 o))] hb3 cm nofun ?_
      rintro h' v ar ⟨a3,hv3,hr3,hz3,rfl,rfl,rfl⟩
      rw[if_pos (Nat.le_refl _),decide_eq_true (Nat.le_refl _)]
      have etk:(s.drop (o+q+4)).take (s.length-(o+q+4))=(s.drop (o+q+4)).take n:=by
       rw[List.take_of_length_le (by rw[List.length_drop];omega),List.take_of_length_le (by rw[List.length_drop];omega)]
      refine⟨cm,rfl,?_⟩
      refine ig ?_
      refine hR2 (a3,hv3) _ (by simp only;rw[Nat.min_eq_right (by omega),show 8*(o+q+4+(s.length-(o+q+4)))=8*(o+q+4)+8*(s.length-(o+q+4))by omega];exact hr3) (.le ?_)
      exact BH etk
    ·obtain⟨a3,hv3⟩:=z
     simp only at hz ⊢
     have hbl:((s.drop (o+q+4)).take n).length=min n (s.length-(o+q+4)):=by rw[List.length_take,List.length_drop]
     generalize hbb:(s.drop (o+q+4)).take n=b at *
     by_cases hbig:most-S.out.length<b.length
     ·have hbi:(most:Int)-(S.out.length:Int)<(b.length:Int):=by omega
      rw[if_pos (by omega)]at law1
      refine s8 hbi ?_
      exact hR.le (h':=aV s o most a3 hv3 S.out) bz ⟨iy ⟨a3,hv3,{S with p:=8*(q+4+min n (s.length-(o+q+4))),err:=2},rfl,by simp only;rw[show 8*o+8*(q+4+min n (s.length-(o+q+4)))=8*(o+q+4+min n (s.length-(o+q+4)))by omega];exact hz,hol,by rw[law1];rfl,fun h=>absurd h (by rw[law1];decide)⟩,rfl⟩
     ·have hbi:¬(most:Int)-(S.out.length:Int)<(b.length:Int):=by omega
      rw[if_neg (by omega)]at law1
      by_cases hfit:n≤s.length-(o+q+4)
      ·rw[decide_eq_true hfit]at hok
       subst hok
       rw[if_neg (by omega)]at law1
       have law2:=law2 law1
       refine s8 hbi ?_
       exact hR.le (h':=aV s o most a3 hv3 (S.out++b)) bz ⟨iy ⟨a3,hv3,F,by rw[law2],by rw[law2];simp only;rw[Nat.min_eq_left hfit]at hz;rw[show 8*o+8*(q+4+n)=8*(o+q+4+n)by omega];exact hz,by rw[law2];simp only[List.length_append];omega,by rw[law1];rfl,fun _=>rfl⟩,rfl⟩
      ·rw[decide_eq_false hfit]at hok
       subst hok
       rw[if_pos (by omega)]at law1
       refine s8 hbi ?_
       exact hR.le (h':=aV s o most a3 hv3 (S.out++b)) bz ⟨iy ⟨a3,hv3,⟨8*(q+4+min n (s.length-(o+q+4))),S.out++b,6⟩,rfl,by simp only;rw[show 8*o+8*(q+4+min n (s.length-(o+q+4)))=8*(o+q+4+min n (s.length-(o+q+4)))by omega];exact hz,by simp only[List.length_append];omega,by rw[law1];rfl,fun h=>absurd h (by rw[law1];decide)⟩,rfl⟩
   by_cases hfit:n≤s.length-(o+q+4)
   ·have key:=key true _ (by rw[decide_eq_true hfit]) rfl
    rw[if_pos hfit]at key
    rw[if_pos hfit,decide_eq_true hfit]
    refine⟨cm,rfl,?_⟩
    simp only[aW]at key
    refine ig ?_
    exact key
   ·have key:=key false _ (by rw[decide_eq_false hfit]) rfl
    rw[if_neg hfit]at key
    rw[if_neg hfit,decide_eq_false hfit]
    refine⟨cm,rfl,?_⟩
    simp only[aW]at key
    refine ig ?_
    exact key
end Go.Proofs.YtlkmppkcbhodaaaGreatDoor.Pk
