/- The proof, part 28 of 30. -/
import Derived.Test.YtlkmppkcbhodaaaGreatDoorLooseSureZ
import Derived.Test.YtlkmppkcbhodaaaGreatDoorLooseSureZA
import Derived.Test.YtlkmppkcbhodaaaGreatDoorProg
import Derived.KernelRfl
set_option linter.all false
namespace Go.Proofs.YtlkmppkcbhodaaaGreatDoor.Pk
open Eng
set_option maxRecDepth 10000
def RD:Nat:=40014
attribute [go_sem] RD
def rdA (s:Bs) (a hv fr:Nat):List AV:=[.str s,.int .i64 a,.int .u64 (numAt s (8*a-hv) hv:Nat),.int .i64 hv,.int .i64 fr]
structure RdOK (s:Bs) (a hv p:Nat):Prop where
 h1:hv≤39
 h2:a≤s.length
 h3:p+hv=8*a
theorem or_fill {x k b:Nat} (hx:x<2^k) (hk:k≤56) (hb:b<256):bits .or .u64 (x:Int) (IntKind.u64.wrap ((b:Int)*2^min k 64))=((x+b*2^k:Nat):Int):=by
 have hp:2^k≤2^56:=Nat.pow_le_pow_right (by decide) hk
 have h2:b*2^k<2^64:=Nat.lt_of_le_of_lt (Nat.mul_le_mul (show b≤255 by omega) hp) (by decide)
 have h3:x+b*2^k<2^64:=by
  have:(b+1)*2^k≤256*2^56:=Nat.mul_le_mul (by omega) hp
  rw[Nat.add_mul]at this
  omega
 have e:IntKind.u64.wrap ((b:Int)*2^min k 64)=((b*2^k:Nat):Int):=by
  rw[Nat.min_eq_left (by omega),show((b:Int)*2^k)=((b*2^k:Nat):Int)by push_cast;rfl]
  exact wrap_u64 (by omega)
 rw[e]
 show IntKind.u64.wrap ((BitVec.ofInt 64 (x:Int) ||| BitVec.ofInt 64 ((b*2^k:Nat):Int)).toNat:Int)=_
 rw[BitVec.ofInt_natCast,BitVec.ofInt_natCast,BitVec.toNat_or,BitVec.toNat_ofNat,BitVec.toNat_ofNat,Nat.mod_eq_of_lt (by omega),Nat.mod_eq_of_lt h2,Nat.or_comm,←Nat.shiftLeft_eq,←Nat.shiftLeft_add_eq_or_of_lt hx,Nat.shiftLeft_eq,Nat.add_comm]
 exact wrap_u64 (by omega)
theorem fill_ok (s:Bs) (a hv fr p n:Nat) (hs:s.length≤1000000000000) (h:RdOK s a hv p) (hn:n≤32):Eng.Spec Tryz.prog 202 [(RD,.var (rdA s a hv fr))] [.vptr RD 0,.int .i64 n]
    (fun h' v ar=>∃a' hv',RdOK s a' hv' p∧(n≤hv'∨a'=s.length)∧h'=[(RD,.var (rdA s a' hv' fr))]∧v=.tup []∧ar=[.vptr RD 0,.int .i64 n]):=by
 refine Cod.fill_spec (fun E R hN hR=>?_)
 simp(disch:=omega)only[go_sem,simprocAttr]
 refine vcW_loop hN (fun q:Nat×Nat=>⟨[(0,.vptr RD 0),(1,.int .i64 n),(2000000,.vptr RD 0),(2000001,.int .i64 n)],[(RD,.var (rdA s q.1 q.2 fr))]⟩) (fun q=>RdOK s q.1 q.2 p) (fun q=>s.length-q.1) (a,hv) (.le (by simp(disch:=omega)only[go_sem,simprocAttr,rdA])) h ?_
 rintro⟨a,hv⟩ R1 ⟨h1,h2,h3⟩ hR1
 simp only at h1 h2 h3
 by_cases hlt:hv<n
 ·by_cases hat:a<s.length
  ·have hb:=(s.getD a 0).toNat_lt
   have ho:=or_fill (num_lt s (8*a-hv) hv) (show hv≤56 by omega) (b:=(s.getD a 0).toNat) (by omega)
   have hf:=num_fill s a hv (by omega)
   rw[←hf]at ho
   simp(disch:=omega)only[go_sem,simprocAttr,rdA]
   (repeat(first | refine gskip_of ?_ | refine gcskip_of ?_ | refine gopen_of ?_)<;>simp(disch:=omega)only[go_sem,simprocAttr])
   rw[ho]
   exact hR1 (a+1,hv+8) _ (by simp only;omega) ⟨by simp only;omega,by simp only;omega,by simp only;omega⟩ (.le (by simp(disch:=omega)only[go_sem,simprocAttr,rdA,show 8*(a+1)-(hv+8)=8*a-hv by omega]))
  ·simp(disch:=omega)only[go_sem,simprocAttr,rdA]
   (repeat(first | refine gskip_of ?_ | refine gcskip_of ?_ | refine gopen_of ?_)<;>simp(disch:=omega)only[go_sem,simprocAttr])
   exact hR.le (by simp(disch:=omega)only[go_sem,simprocAttr,rdA]) ⟨a,hv,⟨h1,h2,h3⟩,.inr (by omega),rfl,rfl,rfl⟩
 ·simp(disch:=omega)only[go_sem,simprocAttr,rdA]
  (repeat(first | refine gskip_of ?_ | refine gcskip_of ?_ | refine gopen_of ?_)<;>simp(disch:=omega)only[go_sem,simprocAttr])
  exact hR.le (by simp(disch:=omega)only[go_sem,simprocAttr,rdA]) ⟨a,hv,⟨h1,h2,h3⟩,.inl (by omega),rfl,rfl,rfl⟩
theorem and_mask (x n:Nat) (hx:x<2^64) (hn:n≤32):bits .and .u64 (x:Int) (IntKind.u64.wrap (IntKind.u64.wrap (1*2^min n 64)-1))=((x%2^n:Nat):Int):=by
 have hp:2^n≤2^32:=Nat.pow_le_pow_right (by decide) hn
 have hp1:0<2^n:=Nat.pow_pos (by decide)
 have e:IntKind.u64.wrap (IntKind.u64.wrap (1*2^min n 64)-1)=((2^n-1:Nat):Int):=by
  have e1:IntKind.u64.wrap (1*2^n)=((2^n:Nat):Int):=by
   rw[show((1:Int)*2^n)=((2^n:Nat):Int)by rw[Int.one_mul];push_cast;rfl]
   exact wrap_u64 (by omega)
  rw[Nat.min_eq_left (by omega),e1,show(((2^n:Nat):Int)-1)=((2^n-1:Nat):Int)by omega]
  exact wrap_u64 (by omega)
 rw[e]
 show IntKind.u64.wrap ((BitVec.ofInt 64 (x:Int) &&& BitVec.ofInt 64 ((2^n-1:Nat):Int)).toNat:Int)=_
 rw[BitVec.ofInt_natCast,BitVec.ofInt_natCast,BitVec.toNat_and,BitVec.toNat_ofNat,BitVec.toNat_ofNat,Nat.mod_eq_of_lt hx,Nat.mod_eq_of_lt (by omega),Nat.and_two_pow_sub_one_eq_mod]
 have:=Nat.mod_lt x hp1
 exact wrap_u64 (by omega)
def leftB (s:Bs) (p:Nat):Nat:=8*s.length-p
theorem peek_ok (s:Bs) (a hv fr p n:Nat) (hs:s.length≤1000000000000) (h:RdOK s a hv p) (hn:n≤32):Eng.Spec Tryz.prog 183 [(RD,.var (rdA s a hv fr))] [.vptr RD 0,.int .i64 n]
    (fun h' v ar=>∃a' hv',RdOK s a' hv' p∧(n≤hv'∨a'=s.length)∧h'=[(RD,.var (rdA s a' hv' fr))]∧v=.tup [.int .u32 (numAt s p (min n hv'):Nat),.int .i64 (min n hv':Nat)]∧ar=[.vptr RD 0,.int .i64 n]):=by
 refine Cod.peek_spec (fun E R hN hR=>?_)
 simp(disch:=omega)only[go_sem,simprocAttr]
 (repeat(first | refine gskip_of ?_ | refine gcskip_of ?_ | refine gopen_of ?_)<;>simp(disch:=omega)only[go_sem,simprocAttr])
 refine call_win [(RD,.var (rdA s a hv fr))] (fill_ok s a hv fr p n hs h hn) (by simp(disch:=omega)only[go_sem,simprocAttr]) nofun ?_
 rintro h' v ar ⟨a',hv',⟨h1,h2,h3⟩,hor,rfl,rfl,rfl⟩
 refine⟨by simp(disch:=omega)only[go_sem,simprocAttr,rdA],rfl,?_⟩
 have hx:=num_lt s p hv'
 have hx2:numAt s p hv'<2^64:=Nat.lt_of_lt_of_le hx (Nat.pow_le_pow_right (by decide) (by omega))
 have ha:=and_mask (numAt s p hv') n hx2 hn
 have e1:numAt s p hv'%2^n=numAt s p (min n hv'):=by
  by_cases hh:n≤hv'
  ·rw[Nat.min_eq_left hh,num_mod s p hh]
  ·rw[Nat.min_eq_right (by omega),Nat.mod_eq_of_lt (Nat.lt_of_lt_of_le hx (Nat.pow_le_pow_right (by decide) (by omega)))]
 rw[e1]at ha
 have hx3:numAt s p (min n hv')<2^32:=Nat.lt_of_lt_of_le (num_lt s p _) (Nat.pow_le_pow_right (by decide) (by omega))
 have ew:IntKind.u32.wrap ((numAt s p (min n hv'):Nat):Int)=(numAt s p (min n hv'):Nat):=wrap_u32 (by omega)
 have em:min (n:Int) (hv':Int)=((min n hv':Nat):Int):=by omega
 simp(disch:=omega)only[go_sem,simprocAttr,rdA,show 8*a'-hv'=p by omega,ha,ew,em]
 exact hR.le (by simp(disch:=omega)only[go_sem,simprocAttr,rdA,show 8*a'-hv'=p by omega]) ⟨a',hv',⟨h1,h2,h3⟩,hor,rfl,rfl,rfl⟩
theorem skip_ok (s:Bs) (a hv fr p n:Nat) (hs:s.length≤1000000000000) (h:RdOK s a hv p) (hn:n≤32):Eng.Spec Tryz.prog 184 [(RD,.var (rdA s a hv fr))] [.vptr RD 0,.int .i64 n]
    (fun h' v ar=>∃a' hv',RdOK s a' hv' (if n≤leftB s p then p+n else p)∧h'=[(RD,.var (rdA s a' hv' fr))]∧v=.bool (decide (n≤leftB s p))∧ar=[.vptr RD 0,.int .i64 n]):=by
 refine Cod.skip_spec (fun E R hN hR=>?_)
 simp(disch:=omega)only[go_sem,simprocAttr]
 (repeat(first | refine gskip_of ?_ | refine gcskip_of ?_ | refine gopen_of ?_)<;>simp(disch:=omega)only[go_sem,simprocAttr])
 refine call_win [(RD,.var (rdA s a hv fr))] (fill_ok s a hv fr p n hs h hn) (by simp(disch:=omega)only[go_sem,simprocAttr]) nofun ?_
 rintro h' v ar ⟨a',hv',⟨h1,h2,h3⟩,hor,rfl,rfl,rfl⟩
 refine⟨by simp(disch:=omega)only[go_sem,simprocAttr,rdA],rfl,?_⟩
 by_cases hlt:hv'<n
 ·have hno:¬n≤leftB s p:=by unfold leftB;rcases hor with ho | ho<;>omega
  simp(disch:=omega)only[go_sem,simprocAttr,rdA]
  exact hR.le (by simp(disch:=omega)only[go_sem,simprocAttr,rdA]) ⟨a',hv',by rw[if_neg hno];exact⟨h1,h2,h3⟩,rfl,by rw[decide_eq_false hno],rfl⟩
 ·have hyes:n≤leftB s p:=by unfold leftB;omega
  have hd:((numAt s p hv':Nat):Int).fdiv (2^min n 64)=((numAt s (p+n) (hv'-n):Nat):Int):=by
   rw[Nat.min_eq_left (by omega),←num_div s p (show n≤hv' by omega),Int.fdiv_eq_ediv_of_nonneg _ (Int.pow_nonneg (by decide)),Int.natCast_ediv,Int.natCast_pow];rfl
  simp(disch:=omega)only[go_sem,simprocAttr,rdA,show 8*a'-hv'=p by omega,hd]
  refine hR.le ?_ ⟨a',hv'-n,by rw[if_pos hyes];exact⟨by omega,h2,by omega⟩,rfl,by rw[decide_eq_true hyes],rfl⟩
  rw[show((hv':Int)-(n:Int))=((hv'-n:Nat):Int)by omega]
  simp(disch:=omega)only[go_sem,simprocAttr,rdA,show 8*a'-(hv'-n)=p+n by omega]
theorem rbits_ok (s:Bs) (a hv fr p n:Nat) (hs:s.length≤1000000000000) (h:RdOK s a hv p) (hn:n≤32):Eng.Spec Tryz.prog 161 [(RD,.var (rdA s a hv fr))] [.vptr RD 0,.int .i64 n]
    (fun h' v ar=>∃a' hv',RdOK s a' hv' (if n≤leftB s p then p+n else p)∧h'=[(RD,.var (rdA s a' hv' fr))]∧v=.tup [.int .u32 (if n≤leftB s p then numAt s p n else 0:Nat),.bool (decide (n≤leftB s p))]∧ar=[.vptr RD 0,.int .i64 n]):=by
 refine Cod.rbits_spec (fun E R hN hR=>?_)
 simp(disch:=omega)only[go_sem,simprocAttr]
 refine call_win [(RD,.var (rdA s a hv fr))] (peek_ok s a hv fr p n hs h hn) (by simp(disch:=omega)only[go_sem,simprocAttr]) nofun ?_
 rintro h' v ar ⟨a',hv',h1,hor,rfl,rfl,rfl⟩
 refine⟨by simp(disch:=omega)only[go_sem,simprocAttr,rdA],rfl,?_⟩
 simp(disch:=omega)only[go_sem,simprocAttr]
 refine call_win [(RD,.var (rdA s a' hv' fr))] (skip_ok s a' hv' fr p n hs h1 hn) (by simp(disch:=omega)only[go_sem,simprocAttr]) nofun ?_
 rintro h' v ar ⟨a2,hv2,h2,rfl,rfl,rfl⟩
 refine⟨by simp(disch:=omega)only[go_sem,simprocAttr,rdA],rfl,?_⟩
 by_cases hyes:n≤leftB s p
 ·have hm:min n hv'=n:=by
   have:=h1.h3;have:=h1.h2
   unfold leftB at hyes
   rcases hor with ho | ho<;>omega
  simp(disch:=omega)only[go_sem,simprocAttr,hyes,hm]
  exact hR.le (by simp(disch:=omega)only[go_sem,simprocAttr]) ⟨a2,hv2,h2,rfl,by rw[if_pos hyes,decide_eq_true hyes],rfl⟩
 ·simp(disch:=omega)only[go_sem,simprocAttr,hyes]
  exact hR.le (by simp(disch:=omega)only[go_sem,simprocAttr]) ⟨a2,hv2,h2,rfl,by rw[if_neg hyes,decide_eq_false hyes];rfl,rfl⟩
def upB (p:Nat):Nat:=(p+7)/8*8
theorem up_at {a hv p:Nat} (h:p+hv=8*a):upB p=8*(a-hv/8):=by unfold upB;omega
theorem ralign_ok (s:Bs) (a hv fr p:Nat) (hs:s.length≤1000000000000) (h:RdOK s a hv p):Eng.Spec Tryz.prog 203 [(RD,.var (rdA s a hv fr))] [.vptr RD 0]
    (fun h' v ar=>∃hv',RdOK s a hv' (upB p)∧hv'=8*(hv/8)∧h'=[(RD,.var (rdA s a hv' fr))]∧v=.tup []∧ar=[.vptr RD 0]):=by
 refine Cod.ralign_spec (fun E R hN hR=>?_)
 obtain⟨h1,h2,h3⟩:=h
 have hp:8*a-hv=p:=by omega
 have em:(hv:Int).tmod 8=((hv%8:Nat):Int):=by rw[tmod_pos (by omega)];omega
 have hd:((numAt s p hv:Nat):Int).fdiv (2^min (hv%8) 64)=((numAt s (p+hv%8) (hv-hv%8):Nat):Int):=by
  rw[Nat.min_eq_left (by omega),←num_div s p (show hv%8≤hv by omega),Int.fdiv_eq_ediv_of_nonneg _ (Int.pow_nonneg (by decide)),Int.natCast_ediv,Int.natCast_pow];rfl
 simp(disch:=omega)only[go_sem,simprocAttr,rdA,em,hp,hd]
 refine hR.le ?_ ⟨8*(hv/8),⟨by omega,h2,by unfold upB;omega⟩,rfl,rfl,rfl,rfl⟩
 rw[show((hv:Int)-((hv%8:Nat):Int))=((8*(hv/8):Nat):Int)by omega,show hv-hv%8=8*(hv/8)by omega]
 simp(disch:=omega)only[go_sem,simprocAttr,rdA,show 8*a-8*(hv/8)=p+hv%8 by omega]
theorem rbytes_ok (s:Bs) (a hv fr p:Nat) (n:Nat) (hs:s.length≤1000000000000) (hn:n≤1000000000000) (h:RdOK s a hv p):Eng.Spec Tryz.prog 185 [(RD,.var (rdA s a hv fr))] [.vptr RD 0,.int .i64 n]
    (fun h' v ar=>∃a' hv',RdOK s a' hv' (if n≤s.length-upB p/8 then upB p+8*n else upB p)∧(n≤s.length-upB p/8→hv'=0)∧h'=[(RD,.var (rdA s a' hv' fr))] ∧
     v=.tup [.str (if n≤s.length-upB p/8 then(s.drop (upB p/8)).take n else[]),.bool (decide (n≤s.length-upB p/8))]∧ar=[.vptr RD 0,.int .i64 n]):=by
 refine Cod.rbytes_spec (fun E R hN hR=>?_)
 simp(disch:=omega)only[go_sem,simprocAttr]
 refine call_win [(RD,.var (rdA s a hv fr))] (ralign_ok s a hv fr p hs h) (by simp(disch:=omega)only[go_sem,simprocAttr]) nofun ?_
 rintro h' v ar ⟨hv',⟨h1,h2,h3⟩,rfl,rfl,rfl,rfl⟩
 refine⟨by simp(disch:=omega)only[go_sem,simprocAttr,rdA],rfl,?_⟩
 have hub:upB p/8=a-hv/8:=by rw[up_at h.h3];omega
 have hle:=h.h3
 have eq:(((8*(hv/8):Nat):Int)).tdiv 8=((hv/8:Nat):Int):=by rw[tdiv_pos (by omega)];omega
 have ef:((a:Int)-((hv/8:Nat):Int))=((a-hv/8:Nat):Int):=by omega
 rw[hub]at hR
 generalize hf:a-hv/8=f at *
 have hfl:f≤s.length:=by omega
 by_cases hyes:n≤s.length-f
 ·have e1:((f:Int)+(n:Int)-(f:Int)).toNat=n:=by omega
  have e2:f+n-f=n:=by omega
  simp(disch:=omega)only[go_sem,simprocAttr,rdA,eq,ef]
  (repeat(first | refine gskip_of ?_ | refine gcskip_of ?_ | refine gopen_of ?_)<;>simp(disch:=omega)only[go_sem,simprocAttr])
  simp(disch:=omega)only[go_sem,simprocAttr,e2]
  exact hR.le (by simp(disch:=omega)only[go_sem,simprocAttr,rdA,numAt]) ⟨f+n,0,by rw[if_pos hyes];exact⟨by omega,by omega,by rw[up_at h.h3,hf];omega⟩,fun _=>rfl,rfl,by rw[if_pos hyes,decide_eq_true hyes],rfl⟩
 ·simp(disch:=omega)only[go_sem,simprocAttr,rdA,eq,ef]
  (repeat(first | refine gskip_of ?_ | refine gcskip_of ?_ | refine gopen_of ?_)<;>simp(disch:=omega)only[go_sem,simprocAttr])
  exact hR.le (by simp(disch:=omega)only[go_sem,simprocAttr,rdA]) ⟨a,8*(hv/8),by rw[if_neg hyes];exact⟨h1,h2,h3⟩,fun hh=>absurd hh hyes,rfl,by rw[if_neg hyes,decide_eq_false hyes],rfl⟩
end Go.Proofs.YtlkmppkcbhodaaaGreatDoor.Pk
namespace Go.Proofs.YtlkmppkcbhodaaaGreatDoor.Pk
open Eng
set_option maxRecDepth 10000
def nats (xs:List Nat):List AV:=xs.map fun n:Nat=>AV.int .i64 n
theorem nats_len (xs:List Nat):(nats xs).length=xs.length:=by simp[nats]
theorem nth_nats {xs:List Nat} {i:Nat} (h:i<xs.length):nth (nats xs) i=.int .i64 (xs.getD i 0:Nat):=by
 simp[nth,nats,List.getD_eq_getElem?_getD,h]
theorem nats_cells {xs:List Nat}:(nats xs).all cellsOK=true:=by simp[nats,cellsOK,cellsOf,isCell]
theorem nats_app {xs:List Nat} {n:Nat}:nats xs++[.int .i64 (n:Int)]=nats (xs++[n]):=by simp[nats]
theorem nats_sub {xs:List Nat} {o n:Nat}:sub3 (nats xs) o n=nats ((xs.drop o).take n):=by simp[nats,sub3]
theorem nats_nil:nats []=[]:=(rfl)
def cntsA (l:List Nat):List AV:=(List.range 16).map fun n=>AV.int .i64 (cntL l n:Nat)
theorem cnts_len (l:List Nat):(cntsA l).length=16:=by simp[cntsA]
theorem cnts_get (l:List Nat) {n:Nat} (h:n<16):(cntsA l).getD n .undef=.int .i64 (cntL l n:Nat):=by
 unfold cntsA
 rw[List.getD_eq_getElem?_getD,List.getElem?_map,List.getElem?_range h];rfl
theorem cnts_step (l:List Nat) {x:Nat} (h:x<16):(cntsA l).set x (.int .i64 ((cntL l x:Int)+1))=cntsA (l++[x]):=by
 apply List.ext_getElem?
 intro j
 rw[List.getElem?_set,cnts_len]
 unfold cntsA
 rw[List.getElem?_map,List.getElem?_map]
 by_cases hx:x=j
 ·subst hx
  rw[if_pos rfl,if_pos h,List.getElem?_range h]
  simp only[Option.map_some,cnt_snoc,if_true]
  rfl
 ·rw[if_neg hx]
  by_cases hj:j<16
  ·rw[List.getElem?_range hj]
   simp only[Option.map_some,cnt_snoc,if_neg hx,Nat.add_zero]
  ·rw[List.getElem?_eq_none (by simp;omega)];rfl
theorem cnts_kill {id:Nat} {l:List Nat}:(cntsA l).map (killC id)=cntsA l:=by simp[cntsA,killC]
theorem cnts_frz {id sz:Nat} {es:List AV} {l:List Nat}:(cntsA l).map (frzC id sz es)=cntsA l:=by simp[cntsA,frzC]
theorem cnts_ref {l:List Nat}:(cntsA l).all noRefC=true:=by simp[cntsA,noRefC]
theorem cnt_le (l:List Nat) (n:Nat):cntL l n≤l.length:=List.countP_le_length
theorem pre_le (l:List Nat):∀n,preL l n≤l.length*n
 | 0=>by simp[preL]
 | 1=>by simp[preL]
 | n+2=>by
  have:=pre_le l (n+1)
  have:=cnt_le l (n+1)
  simp only[preL]
  rw[show n+2=(n+1)+1 by omega,Nat.mul_succ l.length (n+1)]
  omega
def symsTo (l:List Nat) (n k:Nat):List Nat:=(List.range k).filter fun s=>l.getD s 0==n
theorem symsTo_len (l:List Nat) (n k:Nat):(symsTo l n k).length≤k:=by
 have:=List.length_filter_le (fun s=>l.getD s 0==n) (List.range k)
 simpa[symsTo]using this
theorem symsTo_succ (l:List Nat) (n k:Nat):symsTo l n (k+1)=symsTo l n k++if l.getD k 0=n then[k]else[]:=by
 unfold symsTo
 rw[List.range_succ,List.filter_append]
 congr 1
 by_cases h:l.getD k 0=n<;>simp[-List.getD_eq_getElem?_getD,h]
theorem symsTo_all (l:List Nat) (n:Nat):symsTo l n l.length=symsL l n:=(rfl)
theorem mid_drop {a b:AV} {xs:List AV} {i:Nat} (h:i<xs.length):((a::(xs++[b])).drop (1+i)).getD 0 .undef=xs.getD i .undef:=by
 rw[Nat.add_comm,List.drop_succ_cons,List.getD_eq_getElem?_getD,List.getElem?_drop,Nat.add_zero,List.getElem?_append_left h,List.getD_eq_getElem?_getD]
theorem mid_len {a b:AV} {xs:List AV} {i:Nat} (h:i<xs.length):0<((a::(xs++[b])).drop (1+i)).length:=by simp;omega
theorem mid_seg {a b v:AV} {xs:List AV} {i:Nat} (h:i<xs.length):seg (a::(xs++[b])) (1+i) [v]=a::(xs.set i v++[b]):=by
 unfold seg
 rw[Nat.add_comm 1 i,List.take_succ_cons,show i+1+[v].length=(i+1)+1 by simp,List.drop_succ_cons,List.take_append_of_le_length (by omega),List.drop_append_of_le_length (by omega),List.set_eq_take_append_cons_drop,if_pos h]
 simp
theorem end_seg {a b v:AV} {xs:List AV} (h:xs.length=16):seg (a::(xs++[b])) 17 [v]=a::(xs++[v]):=by
 unfold seg
 rw[List.take_succ_cons,show 17+[v].length=17+1 by rfl,List.drop_succ_cons,List.take_left' h,List.drop_append]
 simp[h]
theorem end_set {a b v:AV} {xs:List AV} (h:xs.length=16):(a::(xs++[b])).set 17 v=a::(xs++[v]):=by
 rw[List.set_cons_succ,List.set_append_right _ _ (by omega),h];rfl
theorem end_get {a b:AV} {xs:List AV} (h:xs.length=16):(a::(xs++[b]))[17]?=some b:=by
 rw[List.getElem?_cons_succ,List.getElem?_append_right (by omega),h];rfl
theorem end_drop {a b:AV} {xs:List AV} (h:xs.length=16):(a::(xs++[b])).drop 17=[b]:=by
 rw[List.drop_succ_cons,List.drop_left' h]
def tblC (l:List Nat):List AV:=.ro 1 (nats l)::(cntsA l++[.ro 1 (nats (sortL l 15))])
def tblA (l:List Nat):AV:=.elt (.agg (tblC l))
def roomL (l:List Nat) (m:Nat):Int:=if m=0 then 1 else(2^m:Nat)-((fstL l m+cntL l m:Nat):Int)
theorem room_step (l:List Nat) (m:Nat):roomL l (m+1)=2*roomL l m-(cntL l (m+1):Int):=by
 unfold roomL
 cases m with
 | zero=>simp[fstL]
 | succ m=>
  rw[if_neg (by omega),if_neg (by omega)]
  simp only[fstL]
  rw[Nat.pow_succ 2 (m+1)]
  omega
theorem room_le (l:List Nat) {m:Nat} (h:m≤15):roomL l m≤32768:=by
 unfold roomL
 have:(2:Nat)^m≤2^15:=Nat.pow_le_pow_right (by decide) h
 split<;>omega
theorem room_neg (l:List Nat) {m:Nat} (h1:1≤m) (h2:m≤15) (h:roomL l m<0):32768<totL l:=by
 refine Nat.lt_of_not_le fun hc=>?_
 have:=kraft hc h1 h2
 unfold roomL at h
 rw[if_neg (by omega)]at h
 omega
theorem room_end (l:List Nat):roomL l 15=32768-(totL l:Int):=by
 unfold roomL totL
 rw[if_neg (by omega)]
 rfl
theorem hnew_ok (l:List Nat) (hl:∀n∈l,n≤15) (hn:l.length≤320):Eng.Spec Tryz.prog 176 [] [.ro 1 (nats l)] (fun h r _=>h=[]∧r=if chkL l then .tup [tblA l,.int .i64 0]else .tup [.lit (.pointer none),.int .i64 4]):=by
 refine Cod.hnew_spec (fun E R hN hR=>?_)
 have hnl:=nats_len l
 simp(disch:=first | omega | (simp only[Lx];omega))only[go_sem,simprocAttr,nats_len,nats_cells]
 (repeat(first | refine gskip_of ?_ | refine gcskip_of ?_ | refine gopen_of ?_)<;>simp(disch:=first | omega | (simp only[Lx];omega))only[go_sem,simprocAttr])
 refine vcW_loop hN (fun k:Nat=>⟨[(0,.ro 1 (nats l)),(4,.vptr 49018 0),(19,.ro 1 (nats l)),(20,.int .i64 l.length),(21,.int .i64 k)],[(49018,.var (.sl 49016 0 l.length::(cntsA (l.take k)++[.nilsl]))),(49016,.arr 1 (nats l))]⟩) (fun k=>k≤l.length) (fun k=>l.length-k) 0 (.le (by simp(disch:=first | omega | (simp only[Lx];omega))only[go_sem,simprocAttr,nats_len];rfl)) (by omega) ?_
 rintro k R1 hk hR1
 have hcl:=cnts_len (l.take k)
 by_cases hlt:k<l.length
 ·have hx:=len15 hl k
  have htk:=take_snoc l 0 hlt
  have hcs:=cnts_step (l.take k) (x:=l.getD k 0) (by omega)
  have hcb:=cnt_le (l.take k) (l.getD k 0)
  rw[List.length_take]at hcb
  rw[←htk]at hcs
  generalize hc:l.getD k 0=x at *
  simp(disch:=first | omega | (simp only[Lx];omega))only[go_sem,simprocAttr,nats_len,nth_nats,hc,mid_drop,mid_len,cnts_get,mid_seg,Nat.mul_one]
  (repeat(first | refine gskip_of ?_ | refine gcskip_of ?_ | refine gopen_of ?_)<;>simp(disch:=first | omega | (simp only[Lx];omega))only[go_sem,simprocAttr])
  rw[hcs]
  exact hR1 (k+1) _ (by omega) (by omega) (.le (by simp(disch:=first | omega | (simp only[Lx];omega))only[go_sem,simprocAttr]))
 ·obtain rfl:k=l.length:=by omega
  simp(disch:=first | omega | (simp only[Lx];omega))only[go_sem,simprocAttr,nats_len]
  have hcl:=cnts_len l
  refine vcW_loop hN (fun m:Nat=>⟨[(0,.ro 1 (nats l)),(4,.vptr 49018 0),(7,.int .i64 (roomL l m)),(8,.int .i64 (preL l (m+1):Nat)),(9,.int .i64 ((m:Int)+1))],
   [(49018,.var (.sl 49016 0 l.length::(cntsA l++[.sl 49082 0 (sortL l m).length]))),(49016,.arr 1 (nats l)),(49082,.arr 1 (nats (sortL l m)))]⟩) (fun m=>m≤15∧0≤roomL l m) (fun m=>15-m) 0
   (.nilV 49018 17 49082 1 (.sl 49016 0 l.length::(cntsA l++[.nilsl])) rfl (end_get hcl) rfl (.le (by simp(disch:=first | omega | (simp only[Lx];omega))only[go_sem,simprocAttr,List.map_append,cnts_kill,end_set,sortL,nats_nil,roomL,preL]))) ⟨by omega,by show(0:Int)≤1;decide⟩ ?_
  rintro m R2 ⟨hm,hr⟩ hR2
  by_cases hlt:m<15
  ·have hst:=room_step l m
   have hrl:=room_le l hm
   have hcb:=cnt_le l (m+1)
   have hpb:=pre_le l (m+1)
   have hpb2:l.length*(m+1)≤320*16:=Nat.mul_le_mul hn (by omega)
   have hsl:=sort_len l m
   simp(disch:=first | omega | (simp only[Lx];omega))only[go_sem,simprocAttr,nats_len,mid_drop,mid_len,cnts_get,Nat.mul_one]
   rw[←hst]
   refine ifW_dec (fun hneg=>?_) (fun hneg=>?_)
   ·have hbad:=room_neg l (by omega) (by omega) hneg
    have hck:chkL l=false:=by unfold chkL;rw[decide_eq_false (by omega)];rfl
    simp(disch:=first | omega | (simp only[Lx];omega))only[go_sem,simprocAttr,hck]
    exact hR.ro ⟨rfl,by rw[hck];rfl⟩
   ·simp(disch:=first | omega | (simp only[Lx];omega))only[go_sem,simprocAttr,nats_len]
    refine vcW_loop hN (fun k:Nat=>⟨[(0,.ro 1 (nats l)),(4,.vptr 49018 0),(7,.int .i64 (roomL l (m+1))),(8,.int .i64 (preL l (m+2):Nat)),(9,.int .i64 ((m:Int)+1)),(65,.ro 1 (nats l)),(66,.int .i64 l.length),(67,.int .i64 k)],
     [(49018,.var (.sl 49016 0 l.length::(cntsA l++[.sl 49082 0 (sortL l m++symsTo l (m+1) k).length]))),(49016,.arr 1 (nats l)),(49082,.arr 1 (nats (sortL l m++symsTo l (m+1) k)))]⟩) (fun k=>k≤l.length) (fun k=>l.length-k) 0
     (.le (by simp(disch:=first | omega | (simp only[Lx];omega))only[go_sem,simprocAttr,symsTo,List.range_zero,List.filter_nil,List.append_nil,preL])) (by omega) ?_
    rintro k R3 hk hR3
    by_cases hlt3:k<l.length
    ·have htl:=symsTo_len l (m+1) k
     have hsu:=symsTo_succ l (m+1) k
     by_cases hx:l.getD k 0=m+1
     ·rw[if_pos hx]at hsu
      simp(disch:=first | omega | (simp only[Lx];omega))only[go_sem,simprocAttr,nats_len,nth_nats,hx,end_drop,nats_cells,nats_sub,List.map_append,cnts_kill,end_seg]
      refine hR3 (k+1) _ (by omega) (by omega) (.le ?_)
      rw[hsu,←List.append_assoc,←nats_app]
      simp(disch:=first | omega | (simp only[Lx];omega))only[go_sem,simprocAttr,nats_len]
     ·rw[if_neg hx,List.append_nil]at hsu
      simp(disch:=first | omega | (simp only[Lx];omega))only[go_sem,simprocAttr,nats_len,nth_nats,end_drop,nats_cells,nats_sub]
      exact hR3 (k+1) _ (by omega) (by omega) (.le (by rw[hsu];simp(disch:=first | omega | (simp only[Lx];omega))only[go_sem,simprocAttr]))
    ·obtain rfl:k=l.length:=by omega
     simp(disch:=first | omega | (simp only[Lx];omega))only[go_sem,simprocAttr,nats_len]
     refine hR2 (m+1) _ (by omega) ⟨by omega,by omega⟩ (.le ?_)
     rw[symsTo_all]
     simp(disch:=first | omega | (simp only[Lx];omega))only[go_sem,simprocAttr,sortL]
  ·obtain rfl:m=15:=by omega
   have hre:=room_end l
   have hpn:=pre_num l hl
   have hsl:=sort_len l 15
   have yes:chkL l=true→R [(49018,.var (.sl 49016 0 l.length::(cntsA l++[.sl 49082 0 (sortL l 15).length]))),(49016,.arr 1 (nats l)),(49082,.arr 1 (nats (sortL l 15)))] (.tup [.vptr 49018 0,.int .i64 0]) [.undef]:=by
    intro hck
    rw[hck]at hR
    refine hR.wk (h':=[]) (r':=.tup [tblA l,.int .i64 0]) (ar':=[.undef]) rfl (.frz 49016 (.frz 49082 (.frzT 0 0 49018 [.vptr 49018 0,.int .i64 0] (tblC l) (by simp(disch:=first | omega | (simp only[Lx];omega))only[go_sem,simprocAttr]) (by rfl) ?_ ?_ (.le ?_)))) ⟨rfl,by rfl⟩
    ·simp(disch:=first | omega | (simp only[Lx];omega))only[go_sem,simprocAttr,List.map_append,cnts_frz,nats_sub,nats_len,take_all,tblC]
    ·simp[tblC,noRefC,cnts_ref]
    ·simp(disch:=first | omega | (simp only[Lx];omega))only[go_sem,simprocAttr,tblA]
   have no:chkL l=false→∀h,R h (.tup [.lit (.pointer none),.int .i64 4]) [.undef]:=by
    intro hck h
    rw[hck]at hR
    exact hR.ro ⟨rfl,rfl⟩
   have hp16:preL l (15+1)=numL l:=hpn
   have hone:∀x,((cntsA l++[x]).drop 1).getD 0 .undef=.int .i64 (cntL l 1:Nat):=fun x=>by
    have:=mid_drop (a:=.undef) (b:=x) (xs:=cntsA l) (i:=1) (by omega)
    rw[cnts_get l (by omega)]at this
    exact this
   have honl:∀x,0<((cntsA l++[x]).drop 1).length:=fun x=>by simp;omega
   by_cases ha:0<roomL l 15
   ·by_cases hb:numL l=0
    ·have hck:chkL l=true:=by unfold chkL;rw[decide_eq_true (show totL l≤32768 by omega),decide_eq_true hb];simp
     simp(disch:=first | omega | (simp only[Lx];omega))only[go_sem,simprocAttr,hp16,hb]
     (repeat(first | refine gskip_of ?_ | refine gcskip_of ?_ | refine gopen_of ?_)<;>simp(disch:=first | omega | (simp only[Lx];omega))only[go_sem,simprocAttr])
     exact yes hck
    ·by_cases hc:numL l=1
     ·by_cases hd:cntL l 1=1
      ·have hck:chkL l=true:=by unfold chkL;rw[decide_eq_true (show totL l≤32768 by omega),decide_eq_true hc,decide_eq_true hd];simp
       simp(disch:=first | omega | (simp only[Lx];omega))only[go_sem,simprocAttr,hp16,hc,hone,honl,hd]
       (repeat(first | refine gskip_of ?_ | refine gcskip_of ?_ | refine gopen_of ?_)<;>simp(disch:=first | omega | (simp only[Lx];omega))only[go_sem,simprocAttr,hone,honl,hd])
       exact yes hck
      ·have hck:chkL l=false:=by unfold chkL;rw[decide_eq_false (show ¬totL l=32768 by omega),decide_eq_false hb,decide_eq_false hd];simp
       simp(disch:=first | omega | (simp only[Lx];omega))only[go_sem,simprocAttr,hp16,hc,hone,honl]
       (repeat(first | refine gskip_of ?_ | refine gcskip_of ?_ | refine gopen_of ?_)<;>simp(disch:=first | omega | (simp only[Lx];omega))only[go_sem,simprocAttr,hone,honl])
       exact no hck _
     ·have hck:chkL l=false:=by unfold chkL;rw[decide_eq_false (show ¬totL l=32768 by omega),decide_eq_false hb,decide_eq_false hc];simp
      simp(disch:=first | omega | (simp only[Lx];omega))only[go_sem,simprocAttr,hp16]
      (repeat(first | refine gskip_of ?_ | refine gcskip_of ?_ | refine gopen_of ?_)<;>simp(disch:=first | omega | (simp only[Lx];omega))only[go_sem,simprocAttr])
      exact no hck _
   ·have hck:chkL l=true:=by unfold chkL;rw[decide_eq_true (show totL l≤32768 by omega),decide_eq_true (show totL l=32768 by omega)];simp
    simp(disch:=first | omega | (simp only[Lx];omega))only[go_sem,simprocAttr,hp16]
    (repeat(first | refine gskip_of ?_ | refine gcskip_of ?_ | refine gopen_of ?_)<;>simp(disch:=first | omega | (simp only[Lx];omega))only[go_sem,simprocAttr])
    exact yes hck
theorem read_none {l:List Nat} (h:numL l=0) (b:List Bool):readL (codesL l) b=(0,0,3):=by
 have h0:∀s,s<l.length→l.getD s 0=0:=by
  intro s hs
  refine Nat.eq_zero_of_not_pos fun hp=>?_
  unfold numL at h
  have:=List.countP_eq_zero.1 h (l.getD s 0) (by rw[List.getD_eq_getElem?_getD,List.getElem?_eq_getElem hs];exact List.getElem_mem hs)
  simp[-List.getD_eq_getElem?_getD]at this
  omega
 unfold readL
 rw[findIdx_none (fun s hs=>hit_len (h0 s hs))]
 simp only
 rw[if_pos]
 rw[List.all_eq_true]
 intro c hc
 obtain⟨s,hs,rfl⟩:=List.mem_map.1 hc
 unfold codeL
 rw[if_pos (h0 s (List.mem_range.1 hs))];rfl
theorem or_bit {c b:Nat} (hc:c<32768) (hb:b≤1):bits .or .i64 (IntKind.i64.wrap ((c:Int)*2^min 1 64)) (b:Int)=((2*c+b:Nat):Int):=by
 rw[show((c:Int)*2^min 1 64)=((c*2:Nat):Int)by push_cast;rfl,wrap_id (by omega)]
 show IntKind.i64.wrap ((BitVec.ofInt 64 ((c*2:Nat):Int) ||| BitVec.ofInt 64 (b:Int)).toNat:Int)=_
 rw[BitVec.ofInt_natCast,BitVec.ofInt_natCast,BitVec.toNat_or,BitVec.toNat_ofNat,BitVec.toNat_ofNat,Nat.mod_eq_of_lt (by omega),Nat.mod_eq_of_lt (by omega)]
 have h1:c*2 ||| b=2*c+b:=by
  have:=Nat.shiftLeft_add_eq_or_of_lt (b:=b) (i:=1) (by omega) c
  rw[Nat.shiftLeft_eq]at this
  rw[show c*2=c*2^1 by rfl,←this]
  omega
 rw[h1]
 exact wrap_id (by omega)
theorem tbl_sub (l:List Nat):((tblC l).drop 1).take 16=cntsA l:=by
 unfold tblC
 rw[List.drop_succ_cons,List.drop_zero,List.take_left' (cnts_len l)]
theorem tbl_srt (l:List Nat):(tblC l).getD 17 .undef=.ro 1 (nats (sortL l 15)):=by
 unfold tblC
 rw[List.getD_cons_succ,List.getD_eq_getElem?_getD,List.getElem?_append_right (by rw[cnts_len];omega),cnts_len];rfl
theorem tbl_len (l:List Nat):(tblC l).length=18:=by simp[tblC,cnts_len]
set_option maxHeartbeats 1000000 in
theorem hread_ok (l:List Nat) (hl:∀n∈l,n≤15) (hll:l.length≤320) (hck:chkL l=true) (s:Bs) (a hv fr p:Nat) (hs:s.length≤1000000000000) (h:RdOK s a hv p):Eng.Spec Tryz.prog 164 [(RD,.var (rdA s a hv fr))] [tblA l,.vptr RD 0]
    (fun h' v ar=>∃a' hv' p' k,RdOK s a' hv' p'∧h'=[(RD,.var (rdA s a' hv' fr))]∧v=.tup [.int .i64 (k:Nat),.int .i64 ((readL (codesL l) (restB s p)).2.2:Nat)] ∧
     ((readL (codesL l) (restB s p)).2.2=0→k=(readL (codesL l) (restB s p)).1∧p'=p+(readL (codesL l) (restB s p)).2.1)∧ar=[tblA l,.vptr RD 0]):=by
 have hc:totL l≤32768:=by unfold chkL at hck;simp at hck;exact hck.1
 refine Cod.hread_spec (fun E R hN hR=>?_)
 have hsl:=sort_len l 15
 have hpn:=pre_num l hl
 have hp16:preL l (15+1)=numL l:=hpn
 have htl:=tbl_len l
 have hnum:numL l≤l.length:=List.countP_le_length
 have hts:=tbl_srt l
 have hnl:=nats_len (sortL l 15)
 have hso:∃so,sortL l 15=so:=⟨_,rfl⟩
 obtain⟨so,hso⟩:=hso
 rw[hso]at hsl hts hnl
 by_cases h0:numL l=0
 ·have hr:=read_none h0 (restB s p)
  rw[hr]at hR
  simp(disch:=omega)only[go_sem,simprocAttr,tblA,htl,hts,hnl,hsl,hp16,h0]
  exact hR.le (by simp(disch:=omega)only[go_sem,simprocAttr]) ⟨a,hv,p,0,h,rfl,rfl,fun e=>by simp at e,rfl⟩
 ·simp(disch:=omega)only[go_sem,simprocAttr,tblA,htl,hts,hnl,hsl,hp16,h0]
  have hbl:=rest_len s p
  generalize hb:restB s p=b at *
  refine vcW_loop hN (fun q:Nat×Nat×Nat=>⟨[(0,.elt (.agg (tblC l))),(1,.vptr 40014 0),(6,.int .i64 (msb (b.take q.1):Nat)),(7,.int .i64 (fstL l (q.1+1):Nat)),(8,.int .i64 (preL l (q.1+1):Nat)),(9,.int .i64 ((q.1:Int)+1)),
   (2000000,.elt (.agg (tblC l))),(2000001,.vptr 40014 0)],[(40014,.var (rdA s q.2.1 q.2.2 fr))]⟩)
   (fun q=>q.1<15∧RdOK s q.2.1 q.2.2 (p+q.1)∧q.1≤leftB s p∧NoHit l b (q.1+1)∧fstL l (q.1+1)≤2*msb (b.take q.1)∧preL l (q.1+1)<numL l) (fun q=>15-q.1) (0,a,hv)
   (.le (by simp(disch:=omega)only[go_sem,simprocAttr,msb,List.foldl_nil,fstL,preL])) ⟨by omega,h,by omega,fun s _ h1 h2=>by omega,by simp[fstL],by simp only[preL];omega⟩ ?_
  rintro⟨n,a,hv⟩ R1 ⟨hn,hrd,hlb,hno,hj,hpre⟩ hR1
  simp only at hn hrd hlb hno hj hpre
  have hmt:=msb_lt (b.take n)
  have hmt2:2^(b.take n).length≤2^15:=Nat.pow_le_pow_right (by decide) (by rw[List.length_take];omega)
  have hkr:=kraft hc (n:=n+1) (by omega) (by omega)
  have hk2:2^(n+1)≤2^15:=Nat.pow_le_pow_right (by decide) (by omega)
  simp(disch:=omega)only[go_sem,simprocAttr,tblA]
  refine call_win [(RD,.var (rdA s a hv fr))] (rbits_ok s a hv fr (p+n) 1 hs hrd (by omega)) (by simp(disch:=omega)only[go_sem,simprocAttr]) nofun ?_
  rintro h' v ar ⟨a',hv',hrd',rfl,rfl,rfl⟩
  refine⟨by simp(disch:=omega)only[go_sem,simprocAttr,rdA],rfl,?_⟩
  unfold leftB at hlb
  by_cases hbit:1≤leftB s (p+n)
  ·rw[if_pos hbit]at hrd'
   have hbit2:=hbit
   unfold leftB at hbit2
   have hbn:n<b.length:=by omega
   have hget:b.getD n false=bitB s (p+n):=by rw[←hb];exact rest_get s p (by omega)
   have hms:=msb_take b n hbn
   rw[hget,←num_one]at hms
   have hx1:=num_lt s (p+n) 1
   have hle:=lvl_le hbn hj
   have hob:=or_bit (c:=msb (b.take n)) (b:=numAt s (p+n) 1) (by omega) (by omega)
   rw[←hms]at hob
   have hcl:=cnts_len l
   have hpb:=pre_le l (n+1)
   have hpm:=pre_mono l (n+2) (16-(n+2))
   rw[show n+2+(16-(n+2))=16 by omega,hpn]at hpm
   have hps:preL l (n+2)=preL l (n+1)+cntL l (n+1):=rfl
   have hfs:fstL l (n+2)=2*(fstL l (n+1)+cntL l (n+1)):=rfl
   simp(disch:=omega)only[go_sem,simprocAttr,hbit,hob,tbl_sub,htl,hcl,cnts_get]
   refine ifW_dec (fun hk=>?_) (fun hk=>?_)
   ·obtain⟨k,hke⟩:∃k,msb (b.take (n+1))=fstL l (n+1)+k:=⟨msb (b.take (n+1))-fstL l (n+1),by omega⟩
    obtain⟨sy,g1,g2,g3⟩:=lvl_yes hc hl hn hbn hno hj hke (by omega)
    rw[hso]at g1
    rw[g3]at hR
    have ei:((preL l (n+1):Nat):Int)+(((msb (b.take (n+1)):Nat):Int)-((fstL l (n+1):Nat):Int))=((preL l (n+1)+k:Nat):Int):=by omega
    simp(disch:=omega)only[go_sem,simprocAttr,hts,htl,hnl,hsl,hp16,ei,nth_nats,g1]
    exact hR.le (by simp(disch:=omega)only[go_sem,simprocAttr,tblA]) ⟨a',hv',p+n+1,sy,hrd',rfl,rfl,fun _=>⟨rfl,by show _=p+(n+1);omega⟩,rfl⟩
   ·obtain⟨g1,g2⟩:=lvl_no hc hl hn hbn hno (by omega)
    have hw2:(((fstL l (n+1):Nat):Int)+((cntL l (n+1):Nat):Int))*2^min 1 64=((fstL l (n+2):Nat):Int):=by
     rw[hfs,show(2:Int)^min 1 64=2 by decide];push_cast;omega
    have ha2:((preL l (n+1):Nat):Int)+((cntL l (n+1):Nat):Int)=((preL l (n+2):Nat):Int):=by rw[hps];push_cast;rfl
    by_cases hend:preL l (n+2)=numL l
    ·have hr:=lvl_text (b:=b) hl (n:=n+1) (by omega) (by omega) hend (by omega) g1
     rw[hr]at hR
     simp(disch:=omega)only[go_sem,simprocAttr,tbl_sub,hts,htl,hcl,cnts_get,hw2,ha2,hnl,hsl,hp16,hend]
     exact hR.le (by simp(disch:=omega)only[go_sem,simprocAttr,tblA]) ⟨a',hv',p+n+1,0,hrd',rfl,rfl,fun e=>by simp at e,rfl⟩
    ·have hne:¬((preL l (n+2):Nat):Int)=((numL l:Nat):Int):=by omega
     have hn15:n+1<15:=by
      refine Nat.lt_of_not_le fun hh=>?_
      have:n=14:=by omega
      subst this
      exact hend hpn
     simp(disch:=omega)only[go_sem,simprocAttr,tbl_sub,hts,htl,hcl,cnts_get,hw2,ha2,hnl,hsl,hp16,hne]
     exact hR1 (n+1,a',hv') _ (by simp only;omega) ⟨hn15,hrd',by simp only[leftB];omega,g1,g2,by show preL l (n+2)<_;omega⟩ (.le (by simp(disch:=omega)only[go_sem,simprocAttr]))
  ·have hbn:b.length=n:=by unfold leftB at hbit;omega
   rw[if_neg hbit]at hrd'
   have hr:=lvl_end (b:=b) hl hck (by omega) (by rw[hbn];exact hpre) (by rw[hbn];exact hno) (by rw[List.take_of_length_le (by omega)]at hj;rw[hbn];exact hj)
   rw[hr]at hR
   simp(disch:=omega)only[go_sem,simprocAttr,hbit]
   exact hR.le (by simp(disch:=omega)only[go_sem,simprocAttr]) ⟨a',hv',p+n,0,hrd',rfl,rfl,fun e=>by simp at e,rfl⟩
end Go.Proofs.YtlkmppkcbhodaaaGreatDoor.Pk
namespace Go.Proofs.YtlkmppkcbhodaaaGreatDoor.Pk
open Eng
set_option maxRecDepth 10000
end Go.Proofs.YtlkmppkcbhodaaaGreatDoor.Pk
namespace Go.Proofs.YtlkmppkcbhodaaaGreatDoor.Pk
open Eng
set_option maxRecDepth 10000
end Go.Proofs.YtlkmppkcbhodaaaGreatDoor.Pk
namespace Go.Proofs.YtlkmppkcbhodaaaGreatDoor.Cod
open Eng Eng.Kz
set_option maxRecDepth 100000
abbrev iput_3:AK:=.seq (.reg [k 4 (ci 0)] [4,2000000,2000001]) .ret
abbrev iput_2:AK:=.seq (.reg [m 15 0,m 16 0,.v 17 (.nilc (.t 16)),.v 18 (.fldA false 1 1 (.t 17)),.v 19 (.ld false 1 (.t 18)),m 20 1,.eff 21 false 60021 (.bsl 1 [(.t 20)]),.eff 22 false 60022 (.app 1 1 (.t 19) (.t 21)),.v 23 (.nilc (.t 15)),.v 24 (.fldA false 1 1 (.t 23)),.effN false 60000 (.st 1 (.t 24) (.t 22))] [2000000,2000001]) iput_3
abbrev iput_6:AK:=.seq (.reg [k 4 (ci 2)] [4,2000000,2000001]) .ret
abbrev iput_4:AK:=.seq (.reg [u 60005 5 (.mov (.t 0)),u 60006 6 (.nilc (.t 5)),u 60007 7 (.fldA false 1 1 (.t 6)),u 60008 8 (.ld false 1 (.t 7)),u 60009 9 (.len false (.t 8)),u 60010 10 (.mov (.t 0)),u 60011 11 (.nilc (.t 10)),u 60012 12 (.fldA false 2 1 (.t 11)),u 60013 13 (.ld false 1 (.t 12)),b 14 .eql 9 13] [0,1,14,2000000,2000001]) (.cond (.t 14) iput_6 .skip)
abbrev iput_1:AK:=.seq iput_4 iput_2
abbrev iput_0:AK:=.seq (.reg [k 4 (ci 0)] [0,1,2000000,2000001]) iput_1
abbrev iput:AK:=iput_0
theorem iput_fn:FnOK Tryz.prog 165 60000 2 iput [.tmp 4]:=⟨_,Tryz.func165,by kernel_rfl⟩
theorem iput_spec {h:HP} {a0 a1:AV} {Post:HP→AV→List AV→Prop} (hp:HpN Tryz.prog iput [.tmp 4] 2 [(0,a0),(1,a1),(2000000,a0),(2000001,a1)] h Post):Eng.Spec Tryz.prog 165 h [a0,a1] Post:=spec_fn iput_fn rfl [(0,a0),(1,a1),(2000000,a0),(2000001,a1)] ⟨rfl,rfl,rfl,rfl,trivial⟩ hp
abbrev istored_10:AK:=.seq (.reg [k 2 (ci 0)] [2,2000000]) .ret
abbrev istored_13:AK:=.seq (.reg [k 2 (ci 6)] [2,2000000]) .ret
abbrev istored_11:AK:=.seq (.reg [m 75 4,.v 76 (.un .not (.t 75))] [76,2000000]) (.cond (.t 76) istored_13 .skip)
abbrev istored_9:AK:=.seq istored_11 istored_10
abbrev istored_8:AK:=.seq (.reg [m 66 0,m 67 0,.v 68 (.nilc (.t 67)),.v 69 (.fldA false 1 1 (.t 68)),.v 70 (.ld false 1 (.t 69)),m 71 6,.eff 72 false 61072 (.app 1 1 (.t 70) (.t 71)),.v 73 (.nilc (.t 66)),.v 74 (.fldA false 1 1 (.t 73)),.effN false 61000 (.st 1 (.t 74) (.t 72))] [4,2000000]) istored_9
abbrev istored_16:AK:=.seq (.reg [k 2 (ci 2)] [2,2000000]) .ret
abbrev istored_14:AK:=.seq (.reg [u 61053 53 (.mov (.t 6)),u 61054 54 (.len true (.t 53)),u 61055 55 (.mov (.t 0)),u 61056 56 (.nilc (.t 55)),u 61057 57 (.fldA false 2 1 (.t 56)),u 61058 58 (.ld false 1 (.t 57)),u 61059 59 (.mov (.t 0)),u 61060 60 (.nilc (.t 59)),u 61061 61 (.fldA false 1 1 (.t 60)),u 61062 62 (.ld false 1 (.t 61)),u 61063 63 (.len false (.t 62)),u 61064 64 (.bin .sub (.t 58) (.t 63)),b 65 .gtr 54 64] [0,4,6,65,2000000]) (.cond (.t 65) istored_16 .skip)
abbrev istored_7:AK:=.seq istored_14 istored_8
abbrev istored_19:AK:=.reg [u 61040 40 (.mov (.t 0)),u 61041 41 (.nilc (.t 40)),u 61042 42 (.fldA false 0 1 (.t 41)),u 61043 43 (.ld false 1 (.t 42)),u 61044 44 (.mov (.t 0)),u 61045 45 (.nilc (.t 44)),u 61046 46 (.fldA false 0 1 (.t 45)),u 61047 47 (.ld false 1 (.t 46)),.cal (some 48) true 61048 187 [(.t 47)],u 61049 49 (.bin .quo (.t 48) (ci 8)),.cal (some 50) false 61050 185 [(.t 43),(.t 49)],m 39 50,u 61051 51 (.ext (.t 39) 0),u 61052 52 (.ext (.t 39) 1),u 61006 6 (.mov (.t 51))] [0,4,6,2000000]
abbrev istored_17:AK:=.seq (.reg [m 37 4,.v 38 (.un .not (.t 37))] [0,4,6,38,2000000]) (.cond (.t 38) istored_19 .skip)
def istored_6:AK:=.seq istored_17 (.mid istored_7)
abbrev istored_5:AK:=.seq (.reg [m 29 0,.v 30 (.nilc (.t 29)),.v 31 (.fldA false 0 1 (.t 30)),.v 32 (.ld false 1 (.t 31)),m 33 5,.cal (some 34) false 61034 185 [(.t 32),(.t 33)],m 28 34,.v 35 (.ext (.t 28) 0),.v 36 (.ext (.t 28) 1),m 6 35,m 4 36] [0,4,6,2000000]) istored_6
abbrev istored_22:AK:=.seq (.reg [k 2 (ci 3)] [2,2000000]) .ret
abbrev istored_20:AK:=.seq (.reg [m 21 5,bi 22 .xor 21 65535,m 23 3,.v 24 (.slcS (.t 23) (some (ci 2)) none),.cal (some 25) false 61025 186 [(.t 24)],.v 26 (.cvi .i64 (.t 25)),b 27 .neq 22 26] [0,5,27,2000000]) (.cond (.t 27) istored_22 .skip)
abbrev istored_4:AK:=.seq istored_20 istored_5
abbrev istored_3:AK:=.seq (.reg [m 17 3,.v 18 (.slcS (.t 17) none (some (ci 2))),.cal (some 19) false 61019 186 [(.t 18)],.v 20 (.cvi .i64 (.t 19)),m 5 20] [0,3,5,2000000]) istored_4
abbrev istored_25:AK:=.seq (.reg [k 2 (ci 6)] [2,2000000]) .ret
abbrev istored_23:AK:=.seq (.reg [m 15 4,.v 16 (.un .not (.t 15))] [0,3,16,2000000]) (.cond (.t 16) istored_25 .skip)
abbrev istored_2:AK:=.seq istored_23 istored_3
abbrev istored_1:AK:=.seq (.reg [m 8 0,.v 9 (.nilc (.t 8)),.v 10 (.fldA false 0 1 (.t 9)),.v 11 (.ld false 1 (.t 10)),.cal (some 12) false 61012 185 [(.t 11),(ci 4)],m 7 12,.v 13 (.ext (.t 7) 0),.v 14 (.ext (.t 7) 1),m 3 13,m 4 14] [0,3,4,2000000]) istored_2
abbrev istored_0:AK:=.seq (.reg [k 2 (ci 0)] [0,2000000]) istored_1
abbrev istored:AK:=istored_0
theorem istored_fn:FnOK Tryz.prog 162 61000 1 istored [.tmp 2]:=⟨_,Tryz.func162,by kernel_rfl⟩
theorem istored_spec {h:HP} {a0:AV} {Post:HP→AV→List AV→Prop} (hp:HpN Tryz.prog istored [.tmp 2] 1 [(0,a0),(2000000,a0)] h Post):Eng.Spec Tryz.prog 162 h [a0] Post:=spec_fn istored_fn rfl [(0,a0),(2000000,a0)] ⟨rfl,rfl,trivial⟩ hp
abbrev itables_14:AK:=.seq (.reg [m 184 24,m 185 26,m 2 184,m 3 185,k 4 (ci 0)] [2,3,4,2000000]) .ret
abbrev itables_17:AK:=.seq (.reg [k 2 (.c (.lit (.pointer none))),k 3 (.c (.lit (.pointer none))),k 4 (ci 3)] [2,3,4,2000000]) .ret
abbrev itables_15:AK:=.seq (.reg [m 172 16,.v 173 (.idxA 1 (.t 172) (ci 256)),.v 174 (.ld false 1 (.t 173)),bi 175 .eql 174 0,m 176 175,.gval 177 176 false false 62177 (.mov (.t 25)),.gval 178 176 false false 62178 (.bin .neq (.t 177) (ci 0)),.v 179 (.pick (.t 176) (.c (.bool true)) (.t 178)),m 180 179,.gval 181 180 false false 62181 (.mov (.t 27)),.gval 182 180 false false 62182 (.bin .neq (.t 181) (ci 0)),.v 183 (.pick (.t 180) (.c (.bool true)) (.t 182))] [24,26,183,2000000]) (.cond (.t 183) itables_17 .skip)
abbrev itables_13:AK:=.seq itables_15 itables_14
abbrev itables_12:AK:=.seq (.reg [m 166 16,m 167 7,.v 168 (.slcA 1 (.t 166) (some (.t 167)) none),.cal (some 169) false 62169 176 [(.t 168)],m 165 169,.v 170 (.ext (.t 165) 0),.v 171 (.ext (.t 165) 1),m 26 170,m 27 171] [16,24,25,26,27,2000000]) itables_13
abbrev itables_11:AK:=.seq (.reg [m 159 16,m 160 7,.v 161 (.slcA 1 (.t 159) none (some (.t 160))),.cal (some 162) false 62162 176 [(.t 161)],m 158 162,.v 163 (.ext (.t 158) 0),.v 164 (.ext (.t 158) 1),m 24 163,m 25 164] [7,16,24,25,2000000]) itables_12
abbrev itables_34:AK:=.reg [bi 157 .add 151 1,m 151 157] [0,7,8,14,16,21,150,151,2000000]
abbrev itables_36:AK:=.reg [m 153 16,m 154 21,.eff 155 false 62155 (.bsl 1 [(.t 154)]),.eff 156 false 62156 (.app 1 8 (.t 153) (.t 155)),m 16 156] [0,7,8,14,16,21,150,151,2000000]
abbrev itables_33:AK:=.seq (.block 6 itables_36) itables_34
abbrev itables_32:AK:=.seq (.cond (.t 152) .skip (.exit 5)) itables_33
abbrev itables_31:AK:=.seq (.reg [b 152 .lss 151 150] [0,7,8,14,16,21,150,151,152,2000000]) itables_32
abbrev itables_L1:AK:=.loop itables_31
abbrev itables_29:AK:=.seq (.reg [m 147 20,m 148 22,.v 149 (.cvi .i64 (.t 148)),b 150 .add 147 149,k 151 (ci 0)] [0,7,8,14,16,21,150,151,2000000]) (.block 5 itables_L1)
abbrev itables_40:AK:=.seq (.reg [k 2 (.c (.lit (.pointer none))),k 3 (.c (.lit (.pointer none))),k 4 (ci 3)] [2,3,4,2000000]) .ret
abbrev itables_38:AK:=.seq (.reg [m 136 16,.v 137 (.len false (.t 136)),m 138 20,b 139 .add 137 138,m 140 22,.v 141 (.cvi .i64 (.t 140)),b 142 .add 139 141,m 143 7,m 144 8,b 145 .add 143 144,b 146 .gtr 142 145] [0,7,8,14,16,20,21,22,146,2000000]) (.cond (.t 146) itables_40 .skip)
abbrev itables_28:AK:=.seq itables_38 itables_29
abbrev itables_43:AK:=.seq (.reg [k 2 (.c (.lit (.pointer none))),k 3 (.c (.lit (.pointer none))),k 4 (ci 6)] [2,3,4,2000000]) .ret
abbrev itables_41:AK:=.seq (.reg [m 134 23,.v 135 (.un .not (.t 134))] [0,7,8,14,16,20,21,22,135,2000000]) (.cond (.t 135) itables_43 .skip)
abbrev itables_27:AK:=.seq itables_41 itables_28
abbrev itables_26:AK:=.seq (.reg [m 126 0,.v 127 (.nilc (.t 126)),.v 128 (.fldA false 0 1 (.t 127)),.v 129 (.ld false 1 (.t 128)),m 130 19,.cal (some 131) false 62131 161 [(.t 129),(.t 130)],m 125 131,.v 132 (.ext (.t 125) 0),.v 133 (.ext (.t 125) 1),m 22 132,m 23 133] [0,7,8,14,16,20,21,22,23,2000000]) itables_27
abbrev itables_49:AK:=.reg [m 117 16,m 118 16,.v 119 (.len false (.t 118)),bi 120 .sub 119 1,.v 121 (.idxA 1 (.t 117) (.t 120)),.v 122 (.ld false 1 (.t 121)),m 21 122] [0,7,8,14,16,19,20,21,2000000]
abbrev itables_52:AK:=.seq (.reg [k 2 (.c (.lit (.pointer none))),k 3 (.c (.lit (.pointer none))),k 4 (ci 3)] [2,3,4,2000000]) .ret
abbrev itables_50:AK:=.seq (.reg [m 114 16,.v 115 (.len false (.t 114)),bi 116 .eql 115 0] [0,7,8,14,16,19,20,116,2000000]) (.cond (.t 116) itables_52 .skip)
abbrev itables_48:AK:=.seq itables_50 itables_49
abbrev itables_55:AK:=.reg [k 19 (ci 3)] [0,7,8,14,16,19,20,21,2000000]
abbrev itables_56:AK:=.reg [k 19 (ci 7),k 20 (ci 11)] [0,7,8,14,16,19,20,21,2000000]
abbrev itables_53:AK:=.seq (.reg [bi 124 .eql 111 17,m 123 124] [0,7,8,14,16,20,21,123,2000000]) (.cond (.t 123) itables_55 itables_56)
abbrev itables_46:AK:=.seq (.reg [bi 113 .eql 111 16,m 112 113] [0,7,8,14,16,19,20,21,111,112,2000000]) (.cond (.t 112) itables_48 itables_53)
abbrev itables_44:AK:=.seq (.reg [m 111 17] [0,7,8,14,16,19,20,21,111,2000000]) (.block 4 itables_46)
def itables_25:AK:=.seq itables_44 (.mid itables_26)
abbrev itables_24:AK:=.seq (.reg [k 19 (ci 2),k 20 (ci 3),k 21 (ci 0)] [0,7,8,14,16,17,19,20,21,2000000]) itables_25
abbrev itables_59:AK:=.seq (.reg [m 107 16,m 108 17,.eff 109 false 62109 (.bsl 1 [(.t 108)]),.eff 110 false 62110 (.app 1 8 (.t 107) (.t 109)),m 16 110] [0,7,8,14,16,2000000]) (.exit 3)
abbrev itables_57:AK:=.seq (.reg [m 105 17,bi 106 .lss 105 16] [0,7,8,14,16,17,106,2000000]) (.cond (.t 106) itables_59 .skip)
abbrev itables_23:AK:=.seq itables_57 itables_24
abbrev itables_62:AK:=.seq (.reg [m 104 18,k 2 (.c (.lit (.pointer none))),k 3 (.c (.lit (.pointer none))),m 4 104] [2,3,4,2000000]) .ret
abbrev itables_60:AK:=.seq (.reg [m 102 18,bi 103 .neq 102 0] [0,7,8,14,16,17,18,103,2000000]) (.cond (.t 103) itables_62 .skip)
abbrev itables_22:AK:=.seq itables_60 itables_23
abbrev itables_21:AK:=.seq (.reg [m 94 14,m 95 0,.v 96 (.nilc (.t 95)),.v 97 (.fldA false 0 1 (.t 96)),.v 98 (.ld false 1 (.t 97)),.cal (some 99) false 62099 164 [(.t 94),(.t 98)],m 93 99,.v 100 (.ext (.t 93) 0),.v 101 (.ext (.t 93) 1),m 17 100,m 18 101] [0,7,8,14,16,17,18,2000000]) itables_22
abbrev itables_63:AK:=.seq (.reg [m 87 16,.v 88 (.len false (.t 87)),m 89 7,m 90 8,b 91 .add 89 90,b 92 .lss 88 91] [0,7,8,14,16,92,2000000]) (.cond (.t 92) .skip (.exit 2))
abbrev itables_19:AK:=.seq itables_63 (.block 3 itables_21)
abbrev itables_L0:AK:=.loop itables_19
def itables_10:AK:=.seq (.block 2 itables_L0) (.mid itables_11)
abbrev itables_9:AK:=.seq (.reg [k 16 (.c (.nilsl))] [0,7,8,14,16,2000000]) itables_10
abbrev itables_67:AK:=.seq (.reg [k 2 (.c (.lit (.pointer none))),k 3 (.c (.lit (.pointer none))),k 4 (ci 3)] [2,3,4,2000000]) .ret
abbrev itables_65:AK:=.seq (.reg [m 85 15,bi 86 .neq 85 0] [0,7,8,14,86,2000000]) (.cond (.t 86) itables_67 .skip)
abbrev itables_8:AK:=.seq itables_65 itables_9
abbrev itables_7:AK:=.seq (.reg [m 81 10,.cal (some 82) false 62082 176 [(.t 81)],m 80 82,.v 83 (.ext (.t 80) 0),.v 84 (.ext (.t 80) 1),m 14 83,m 15 84] [0,7,8,14,15,2000000]) itables_8
abbrev itables_73:AK:=.reg [bi 79 .add 59 1,m 59 79] [0,7,8,10,58,59,2000000]
abbrev itables_78:AK:=.reg [m 72 10,.cal (some 73) false 62073 188 [],m 74 11,.v 75 (.idxV 19 (.t 73) (.t 74)),m 76 12,.v 77 (.cvi .i64 (.t 76)),.v 78 (.idxA 1 (.t 72) (.t 75)),.effN false 62000 (.st 1 (.t 78) (.t 77))] [0,7,8,10,58,59,2000000]
abbrev itables_81:AK:=.seq (.reg [k 2 (.c (.lit (.pointer none))),k 3 (.c (.lit (.pointer none))),k 4 (ci 6)] [2,3,4,2000000]) .ret
abbrev itables_79:AK:=.seq (.reg [m 70 13,.v 71 (.un .not (.t 70))] [0,7,8,10,11,12,58,59,71,2000000]) (.cond (.t 71) itables_81 .skip)
abbrev itables_77:AK:=.seq itables_79 itables_78
abbrev itables_76:AK:=.seq (.reg [m 63 0,.v 64 (.nilc (.t 63)),.v 65 (.fldA false 0 1 (.t 64)),.v 66 (.ld false 1 (.t 65)),.cal (some 67) false 62067 161 [(.t 66),(ci 3)],m 62 67,.v 68 (.ext (.t 62) 0),.v 69 (.ext (.t 62) 1),m 12 68,m 13 69] [0,7,8,10,11,12,13,58,59,2000000]) itables_77
abbrev itables_75:AK:=.seq (.reg [m 61 59,m 11 61] [0,7,8,10,11,58,59,2000000]) itables_76
abbrev itables_72:AK:=.seq (.block 1 itables_75) itables_73
abbrev itables_71:AK:=.seq (.cond (.t 60) .skip (.exit 0)) itables_72
abbrev itables_70:AK:=.seq (.reg [b 60 .lss 59 58] [0,7,8,10,58,59,60,2000000]) itables_71
abbrev itables_L2:AK:=.loop itables_70
abbrev itables_68:AK:=.seq (.reg [m 58 9,k 59 (ci 0)] [0,7,8,10,58,59,2000000]) (.block 0 itables_L2)
def itables_6:AK:=.seq itables_68 (.mid itables_7)
abbrev itables_5:AK:=.seq (.reg [.eff 57 false 62057 (.mks 1 8 [.int .i64 0] (ci 19) (ci 19)),m 10 57] [0,7,8,9,10,2000000]) itables_6
abbrev itables_85:AK:=.seq (.reg [k 2 (.c (.lit (.pointer none))),k 3 (.c (.lit (.pointer none))),k 4 (ci 3)] [2,3,4,2000000]) .ret
abbrev itables_83:AK:=.seq (.reg [m 51 7,bi 52 .gtr 51 286,m 53 52,.gval 54 53 false false 62054 (.mov (.t 8)),.gval 55 53 false false 62055 (.bin .gtr (.t 54) (ci 30)),.v 56 (.pick (.t 53) (.c (.bool true)) (.t 55))] [0,7,8,9,56,2000000]) (.cond (.t 56) itables_85 .skip)
abbrev itables_4:AK:=.seq itables_83 itables_5
abbrev itables_3:AK:=.seq (.reg [m 38 5,.v 39 (.bin .and (.t 38) (.c (.int .u32 31))),.v 40 (.cvi .i64 (.t 39)),bi 41 .add 40 257,m 42 5,.v 43 (.bin .shr (.t 42) (.c (.int .u64 5))),.v 44 (.bin .and (.t 43) (.c (.int .u32 31))),.v 45 (.cvi .i64 (.t 44)),bi 46 .add 45 1,m 47 5,.v 48 (.bin .shr (.t 47) (.c (.int .u64 10))),.v 49 (.cvi .i64 (.t 48)),bi 50 .add 49 4,m 7 41,m 8 46,m 9 50] [0,7,8,9,2000000]) itables_4
abbrev itables_88:AK:=.seq (.reg [k 2 (.c (.lit (.pointer none))),k 3 (.c (.lit (.pointer none))),k 4 (ci 6)] [2,3,4,2000000]) .ret
abbrev itables_86:AK:=.seq (.reg [m 36 6,.v 37 (.un .not (.t 36))] [0,5,37,2000000]) (.cond (.t 37) itables_88 .skip)
abbrev itables_2:AK:=.seq itables_86 itables_3
abbrev itables_1:AK:=.seq (.reg [m 29 0,.v 30 (.nilc (.t 29)),.v 31 (.fldA false 0 1 (.t 30)),.v 32 (.ld false 1 (.t 31)),.cal (some 33) false 62033 161 [(.t 32),(ci 14)],m 28 33,.v 34 (.ext (.t 28) 0),.v 35 (.ext (.t 28) 1),m 5 34,m 6 35] [0,5,6,2000000]) itables_2
abbrev itables_0:AK:=.seq (.reg [k 2 (.c (.lit (.pointer none))),k 3 (.c (.lit (.pointer none))),k 4 (ci 0)] [0,2000000]) itables_1
abbrev itables:AK:=itables_0
theorem itables_fn:FnOK Tryz.prog 163 62000 1 itables [.tmp 2,.tmp 3,.tmp 4]:=⟨_,Tryz.func163,by kernel_rfl⟩
theorem itables_spec {h:HP} {a0:AV} {Post:HP→AV→List AV→Prop} (hp:HpN Tryz.prog itables [.tmp 2,.tmp 3,.tmp 4] 1 [(0,a0),(2000000,a0)] h Post):Eng.Spec Tryz.prog 163 h [a0] Post:=spec_fn itables_fn rfl [(0,a0),(2000000,a0)] ⟨rfl,rfl,trivial⟩ hp
abbrev irepeat_15:AK:=.seq (.reg [k 6 (ci 0)] [6,2000000,2000001,2000002]) .ret
abbrev irepeat_21:AK:=.reg [bi 100 .add 80 1,m 80 100] [0,13,79,80,2000000,2000001,2000002]
abbrev irepeat_26:AK:=.seq (.reg [m 99 14,m 6 99] [6,2000000,2000001,2000002]) .ret
abbrev irepeat_24:AK:=.seq (.reg [m 97 14,bi 98 .neq 97 0] [0,13,14,79,80,98,2000000,2000001,2000002]) (.cond (.t 98) irepeat_26 .skip)
abbrev irepeat_23:AK:=.seq (.reg [u 63082 82 (.mov (.t 0)),u 63083 83 (.mov (.t 0)),u 63084 84 (.nilc (.t 83)),u 63085 85 (.fldA false 1 1 (.t 84)),u 63086 86 (.ld false 1 (.t 85)),u 63087 87 (.mov (.t 0)),u 63088 88 (.nilc (.t 87)),u 63089 89 (.fldA false 1 1 (.t 88)),u 63090 90 (.ld false 1 (.t 89)),u 63091 91 (.len false (.t 90)),u 63092 92 (.mov (.t 13)),u 63093 93 (.bin .sub (.t 91) (.t 92)),.v 94 (.idxA 1 (.t 86) (.t 93)),.v 95 (.ld false 1 (.t 94)),.cal (some 96) false 63096 165 [(.t 82),(.t 95)],m 14 96] [0,13,14,79,80,2000000,2000001,2000002]) irepeat_24
abbrev irepeat_20:AK:=.seq (.block 1 irepeat_23) irepeat_21
abbrev irepeat_19:AK:=.seq (.cond (.t 81) .skip (.exit 0)) irepeat_20
abbrev irepeat_18:AK:=.seq (.reg [b 81 .lss 80 79] [0,13,79,80,81,2000000,2000001,2000002]) irepeat_19
abbrev irepeat_L0:AK:=.loop irepeat_18
abbrev irepeat_16:AK:=.seq (.reg [m 79 7,k 80 (ci 0)] [0,13,79,80,2000000,2000001,2000002]) (.block 0 irepeat_L0)
abbrev irepeat_14:AK:=.seq irepeat_16 irepeat_15
abbrev irepeat_30:AK:=.seq (.reg [k 6 (ci 3)] [6,2000000,2000001,2000002]) .ret
abbrev irepeat_28:AK:=.seq (.reg [m 72 13,m 73 0,.v 74 (.nilc (.t 73)),.v 75 (.fldA false 1 1 (.t 74)),.v 76 (.ld false 1 (.t 75)),.v 77 (.len false (.t 76)),b 78 .gtr 72 77] [0,7,13,78,2000000,2000001,2000002]) (.cond (.t 78) irepeat_30 .skip)
abbrev irepeat_13:AK:=.seq irepeat_28 irepeat_14
abbrev irepeat_12:AK:=.seq (.reg [m 68 13,m 69 9,.v 70 (.cvi .i64 (.t 69)),b 71 .add 68 70,m 13 71] [0,7,13,2000000,2000001,2000002]) irepeat_13
abbrev irepeat_33:AK:=.seq (.reg [k 6 (ci 6)] [6,2000000,2000001,2000002]) .ret
abbrev irepeat_31:AK:=.seq (.reg [m 66 10,.v 67 (.un .not (.t 66))] [0,7,9,13,67,2000000,2000001,2000002]) (.cond (.t 67) irepeat_33 .skip)
abbrev irepeat_11:AK:=.seq irepeat_31 irepeat_12
abbrev irepeat_10:AK:=.seq (.reg [m 58 0,.v 59 (.nilc (.t 58)),.v 60 (.fldA false 0 1 (.t 59)),.v 61 (.ld false 1 (.t 60)),m 62 8,.cal (some 63) false 63063 161 [(.t 61),(.t 62)],m 57 63,.v 64 (.ext (.t 57) 0),.v 65 (.ext (.t 57) 1),m 9 64,m 10 65] [0,7,9,10,13,2000000,2000001,2000002]) irepeat_11
abbrev irepeat_9:AK:=.seq (.reg [m 53 11,.cal (some 54) false 63054 140 [(.t 53)],m 52 54,.v 55 (.ext (.t 52) 0),.v 56 (.ext (.t 52) 1),m 13 55,m 8 56] [0,7,8,13,2000000,2000001,2000002]) irepeat_10
abbrev irepeat_36:AK:=.seq (.reg [k 6 (ci 3)] [6,2000000,2000001,2000002]) .ret
abbrev irepeat_34:AK:=.seq (.reg [m 50 11,bi 51 .gtr 50 29] [0,7,11,51,2000000,2000001,2000002]) (.cond (.t 51) irepeat_36 .skip)
abbrev irepeat_8:AK:=.seq irepeat_34 irepeat_9
abbrev irepeat_39:AK:=.seq (.reg [m 49 12,m 6 49] [6,2000000,2000001,2000002]) .ret
abbrev irepeat_37:AK:=.seq (.reg [m 47 12,bi 48 .neq 47 0] [0,7,11,12,48,2000000,2000001,2000002]) (.cond (.t 48) irepeat_39 .skip)
abbrev irepeat_7:AK:=.seq irepeat_37 irepeat_8
abbrev irepeat_6:AK:=.seq (.reg [m 39 2,m 40 0,.v 41 (.nilc (.t 40)),.v 42 (.fldA false 0 1 (.t 41)),.v 43 (.ld false 1 (.t 42)),.cal (some 44) false 63044 164 [(.t 39),(.t 43)],m 38 44,.v 45 (.ext (.t 38) 0),.v 46 (.ext (.t 38) 1),m 11 45,m 12 46] [0,7,11,12,2000000,2000001,2000002]) irepeat_7
abbrev irepeat_5:AK:=.seq (.reg [m 34 7,m 35 9,.v 36 (.cvi .i64 (.t 35)),b 37 .add 34 36,m 7 37] [0,2,7,2000000,2000001,2000002]) irepeat_6
abbrev irepeat_42:AK:=.seq (.reg [k 6 (ci 6)] [6,2000000,2000001,2000002]) .ret
abbrev irepeat_40:AK:=.seq (.reg [m 32 10,.v 33 (.un .not (.t 32))] [0,2,7,9,33,2000000,2000001,2000002]) (.cond (.t 33) irepeat_42 .skip)
abbrev irepeat_4:AK:=.seq irepeat_40 irepeat_5
abbrev irepeat_3:AK:=.seq (.reg [m 24 0,.v 25 (.nilc (.t 24)),.v 26 (.fldA false 0 1 (.t 25)),.v 27 (.ld false 1 (.t 26)),m 28 8,.cal (some 29) false 63029 161 [(.t 27),(.t 28)],m 23 29,.v 30 (.ext (.t 23) 0),.v 31 (.ext (.t 23) 1),m 9 30,m 10 31] [0,2,7,9,10,2000000,2000001,2000002]) irepeat_4
abbrev irepeat_2:AK:=.seq (.reg [m 18 1,bi 19 .sub 18 257,.cal (some 20) false 63020 139 [(.t 19)],m 17 20,.v 21 (.ext (.t 17) 0),.v 22 (.ext (.t 17) 1),m 7 21,m 8 22] [0,2,7,8,2000000,2000001,2000002]) irepeat_3
abbrev irepeat_45:AK:=.seq (.reg [k 6 (ci 3)] [6,2000000,2000001,2000002]) .ret
abbrev irepeat_43:AK:=.seq (.reg [m 15 1,bi 16 .gtr 15 285] [0,1,2,16,2000000,2000001,2000002]) (.cond (.t 16) irepeat_45 .skip)
abbrev irepeat_1:AK:=.seq irepeat_43 irepeat_2
abbrev irepeat_0:AK:=.seq (.reg [k 6 (ci 0)] [0,1,2,2000000,2000001,2000002]) irepeat_1
abbrev irepeat:AK:=irepeat_0
theorem irepeat_fn:FnOK Tryz.prog 166 63000 3 irepeat [.tmp 6]:=⟨_,Tryz.func166,by kernel_rfl⟩
theorem irepeat_spec {h:HP} {a0 a1 a2:AV} {Post:HP→AV→List AV→Prop} (hp:HpN Tryz.prog irepeat [.tmp 6] 3 [(0,a0),(1,a1),(2,a2),(2000000,a0),(2000001,a1),(2000002,a2)] h Post):Eng.Spec Tryz.prog 166 h [a0,a1,a2] Post:=spec_fn irepeat_fn rfl [(0,a0),(1,a1),(2,a2),(2000000,a0),(2000001,a1),(2000002,a2)] ⟨rfl,rfl,rfl,rfl,rfl,rfl,trivial⟩ hp
abbrev irun_18:AK:=.seq (.reg [k 2 (ci 0)] [2,2000000]) .ret
abbrev irun_19:AK:=.seq (.reg [m 72 3,.v 73 (.bin .and (.t 72) (.c (.int .u32 1))),.v 74 (.bin .eql (.t 73) (.c (.int .u32 0)))] [0,74,2000000]) (.cond (.t 74) (.goto 0) .skip)
abbrev irun_17:AK:=.seq irun_19 irun_18
abbrev irun_16:AK:=.seq (.label 1) irun_17
abbrev irun_21:AK:=.seq (.reg [m 71 5,m 2 71] [2,2000000]) .ret
abbrev irun_15:AK:=.seq irun_21 irun_16
abbrev irun_22:AK:=.seq (.reg [m 69 5,bi 70 .eql 69 0] [0,3,5,7,8,70,2000000]) (.cond (.t 70) (.goto 2) .skip)
abbrev irun_14:AK:=.seq irun_22 irun_15
abbrev irun_26:AK:=.reg [m 61 0,m 62 6,.v 63 (.cvi .u8 (.t 62)),.cal (some 64) false 64064 165 [(.t 61),(.t 63)],m 5 64] [0,3,5,7,8,2000000]
abbrev irun_27:AK:=.reg [m 65 0,m 66 6,m 67 8,.cal (some 68) false 64068 166 [(.t 65),(.t 66),(.t 67)],m 5 68] [0,3,5,7,8,2000000]
abbrev irun_24:AK:=.seq (.reg [m 59 6,bi 60 .lss 59 256] [0,3,6,7,8,60,2000000]) (.cond (.t 60) irun_26 irun_27)
def irun_13:AK:=.seq irun_24 (.mid irun_14)
abbrev irun_28:AK:=.seq (.reg [m 57 6,bi 58 .eql 57 256] [0,3,6,7,8,58,2000000]) (.cond (.t 58) (.goto 1) .skip)
abbrev irun_12:AK:=.seq irun_28 irun_13
abbrev irun_33:AK:=.seq (.reg [m 56 5,m 2 56] [2,2000000]) .ret
abbrev irun_31:AK:=.seq (.reg [m 54 5,bi 55 .neq 54 0] [0,3,5,6,7,8,55,2000000]) (.cond (.t 55) irun_33 .skip)
abbrev irun_30:AK:=.seq (.reg [m 46 7,m 47 0,.v 48 (.nilc (.t 47)),.v 49 (.fldA false 0 1 (.t 48)),.v 50 (.ld false 1 (.t 49)),.cal (some 51) false 64051 164 [(.t 46),(.t 50)],m 45 51,.v 52 (.ext (.t 45) 0),.v 53 (.ext (.t 45) 1),m 6 52,m 5 53] [0,3,5,6,7,8,2000000]) irun_31
abbrev irun_11:AK:=.seq irun_30 irun_12
abbrev irun_10:AK:=.seq (.label 2) irun_11
abbrev irun_34:AK:=.seq (.reg [k 2 (ci 3)] [2,2000000]) .ret
abbrev irun_9:AK:=.seq irun_34 irun_10
abbrev irun_43:AK:=.seq (.reg [m 27 5,m 2 27] [2,2000000]) .ret
abbrev irun_41:AK:=.seq (.reg [m 25 5,bi 26 .neq 25 0] [0,3,5,26,2000000]) (.cond (.t 26) irun_43 .skip)
abbrev irun_40:AK:=.seq (.reg [m 23 0,.cal (some 24) false 64024 162 [(.t 23)],m 5 24] [0,3,5,2000000]) irun_41
abbrev irun_39:AK:=.seq irun_40 (.goto 1)
abbrev irun_46:AK:=.seq (.reg [.cal (some 31) false 64031 134 [],m 30 31,.v 32 (.ext (.t 30) 0),.v 33 (.ext (.t 30) 1),m 7 32,m 8 33] [0,3,7,8,2000000]) (.goto 2)
abbrev irun_53:AK:=.seq (.reg [m 44 5,m 2 44] [2,2000000]) .ret
abbrev irun_51:AK:=.seq (.reg [m 42 5,bi 43 .neq 42 0] [0,3,5,7,8,43,2000000]) (.cond (.t 43) irun_53 .skip)
abbrev irun_50:AK:=.seq (.reg [m 37 0,.cal (some 38) false 64038 163 [(.t 37)],m 36 38,.v 39 (.ext (.t 36) 0),.v 40 (.ext (.t 36) 1),.v 41 (.ext (.t 36) 2),m 7 39,m 8 40,m 5 41] [0,3,5,7,8,2000000]) irun_51
abbrev irun_49:AK:=.seq irun_50 (.goto 2)
abbrev irun_47:AK:=.seq (.reg [.v 35 (.bin .eql (.t 20) (.c (.int .u32 2))),m 34 35] [0,3,34,2000000]) (.cond (.t 34) irun_49 .skip)
abbrev irun_44:AK:=.seq (.reg [.v 29 (.bin .eql (.t 20) (.c (.int .u32 1))),m 28 29] [0,3,20,28,2000000]) (.cond (.t 28) irun_46 irun_47)
abbrev irun_37:AK:=.seq (.reg [.v 22 (.bin .eql (.t 20) (.c (.int .u32 0))),m 21 22] [0,3,20,21,2000000]) (.cond (.t 21) irun_39 irun_44)
abbrev irun_35:AK:=.seq (.reg [m 19 3,.v 20 (.bin .shr (.t 19) (.c (.int .u64 1)))] [0,3,20,2000000]) (.block 0 irun_37)
abbrev irun_8:AK:=.seq irun_35 irun_9
abbrev irun_57:AK:=.seq (.reg [k 2 (ci 6)] [2,2000000]) .ret
abbrev irun_55:AK:=.seq (.reg [m 17 4,.v 18 (.un .not (.t 17))] [0,3,18,2000000]) (.cond (.t 18) irun_57 .skip)
abbrev irun_54:AK:=.seq (.reg [m 10 0,.v 11 (.nilc (.t 10)),.v 12 (.fldA false 0 1 (.t 11)),.v 13 (.ld false 1 (.t 12)),.cal (some 14) false 64014 161 [(.t 13),(ci 3)],m 9 14,.v 15 (.ext (.t 9) 0),.v 16 (.ext (.t 9) 1),m 3 15,m 4 16] [0,3,4,2000000]) irun_55
abbrev irun_7:AK:=.seq irun_54 irun_8
def irun_6:AK:=.seq (.label 0) (.mid irun_7)
abbrev irun_5:AK:=.seq (.reg [k 7 (.c (.lit (.pointer none))),k 8 (.c (.lit (.pointer none)))] [0,2000000]) irun_6
abbrev irun_4:AK:=.seq (.reg [k 6 (ci 0)] [0,2000000]) irun_5
abbrev irun_3:AK:=.seq (.reg [k 5 (ci 0)] [0,2000000]) irun_4
abbrev irun_2:AK:=.seq (.reg [k 4 (.c (.bool false))] [0,2000000]) irun_3
abbrev irun_1:AK:=.seq (.reg [k 3 (.c (.int .u32 0))] [0,2000000]) irun_2
abbrev irun_S:AK:=.scope irun_1
abbrev irun_0:AK:=.seq (.reg [k 2 (ci 0)] [0,2000000]) irun_S
abbrev irun:AK:=irun_0
theorem irun_fn:FnOK Tryz.prog 120 64000 1 irun [.tmp 2]:=⟨_,Tryz.func120,by kernel_rfl⟩
theorem irun_spec {h:HP} {a0:AV} {Post:HP→AV→List AV→Prop} (hp:HpN Tryz.prog irun [.tmp 2] 1 [(0,a0),(2000000,a0)] h Post):Eng.Spec Tryz.prog 120 h [a0] Post:=spec_fn irun_fn rfl [(0,a0),(2000000,a0)] ⟨rfl,rfl,trivial⟩ hp
abbrev inflate_4:AK:=.seq (.reg [u 65038 38 (.mov (.t 9)),u 65039 39 (.nilc (.t 38)),u 65040 40 (.fldA false 1 1 (.t 39)),u 65041 41 (.ld false 1 (.t 40)),u 65042 42 (.bts (.t 41)),u 65043 43 (.mov (.t 9)),u 65044 44 (.nilc (.t 43)),u 65045 45 (.fldA false 0 1 (.t 44)),u 65046 46 (.ld false 1 (.t 45)),.cal (some 47) true 65047 121 [(.t 46)],m 6 42,m 7 47,k 8 (ci 0)] [6,7,8]) .ret
abbrev inflate_8:AK:=.seq (.reg [m 37 10,k 6 (.c (.str [])),k 7 (ci 0),m 8 37] [6,7,8]) .ret
abbrev inflate_6:AK:=.seq (.reg [m 35 10,bi 36 .neq 35 0] [9,10,36]) (.cond (.t 36) inflate_8 .skip)
abbrev inflate_5:AK:=.seq (.reg [m 33 9,.cal (some 34) false 65034 120 [(.t 33)],m 10 34] [9,10]) inflate_6
abbrev inflate_3:AK:=.seq inflate_5 inflate_4
abbrev inflate_2:AK:=.seq (.reg [m 27 0,m 28 1,.cal (some 29) false 65029 119 [(.t 27),(.t 28)],m 30 2,.v 31 (.bld [.lit (.pointer none),.nilsl,.int .i64 0] [(0,1,(.t 29)),(2,1,(.t 30))]),.eff 32 false 65032 (.box 3 (.t 31)),m 9 32] [9]) inflate_3
abbrev inflate_11:AK:=.seq (.reg [k 6 (.c (.str [])),k 7 (ci 0),k 8 (ci 1)] [6,7,8]) .ret
abbrev inflate_9:AK:=.seq (.reg [m 11 1,bi 12 .lss 11 0,m 13 12,.gval 14 13 false false 65014 (.mov (.t 1)),.gval 15 13 false false 65015 (.mov (.t 0)),.gval 16 13 false false 65016 (.len true (.t 15)),.gval 17 13 false false 65017 (.bin .gtr (.t 14) (.t 16)),.v 18 (.pick (.t 13) (.c (.bool true)) (.t 17)),m 19 18,.gval 20 19 false false 65020 (.mov (.t 2)),.gval 21 19 false false 65021 (.bin .lss (.t 20) (ci 0)),.v 22 (.pick (.t 19) (.c (.bool true)) (.t 21)),m 23 22,.gval 24 23 false false 65024 (.mov (.t 2)),.gval 25 23 false false 65025 (.bin .gtr (.t 24) (ci 65536)),.v 26 (.pick (.t 23) (.c (.bool true)) (.t 25))] [0,1,2,26]) (.cond (.t 26) inflate_11 .skip)
abbrev inflate_1:AK:=.seq inflate_9 inflate_2
abbrev inflate_0:AK:=.seq (.reg [k 6 (.c (.str [])),k 7 (ci 0),k 8 (ci 0)] [0,1,2]) inflate_1
abbrev inflate:AK:=inflate_0
theorem inflate_fn:FnOK Tryz.prog 70 65000 3 inflate [.tmp 6,.tmp 7,.tmp 8]:=⟨_,Tryz.func70,by kernel_rfl⟩
theorem inflate_spec {h:HP} {a0 a1 a2:AV} {Post:HP→AV→List AV→Prop} (hp:HpN Tryz.prog inflate [.tmp 6,.tmp 7,.tmp 8] 3 [(0,a0),(1,a1),(2,a2)] h Post):Eng.Spec Tryz.prog 70 h [a0,a1,a2] Post:=spec_fn inflate_fn rfl [(0,a0),(1,a1),(2,a2)] ⟨rfl,rfl,rfl,trivial⟩ hp
abbrev ifixed_6:AK:=.seq (.reg [m 46 5,m 47 7,m 0 46,m 1 47] [0,1]) .ret
abbrev ifixed_5:AK:=.seq (.reg [m 42 3,.cal (some 43) false 66043 176 [(.t 42)],m 41 43,.v 44 (.ext (.t 41) 0),.v 45 (.ext (.t 41) 1),m 7 44,m 8 45] [5,7]) ifixed_6
abbrev ifixed_4:AK:=.seq (.reg [m 37 2,.cal (some 38) false 66038 176 [(.t 37)],m 36 38,.v 39 (.ext (.t 36) 0),.v 40 (.ext (.t 36) 1),m 5 39,m 6 40] [3,5]) ifixed_5
abbrev ifixed_12:AK:=.reg [bi 35 .add 30 1,m 30 35] [2,3,30]
abbrev ifixed_14:AK:=.reg [m 32 3,.eff 33 false 66033 (.bsl 1 [(ci 5)]),.eff 34 false 66034 (.app 1 8 (.t 32) (.t 33)),m 3 34] [2,3,30]
abbrev ifixed_11:AK:=.seq (.block 4 ifixed_14) ifixed_12
abbrev ifixed_10:AK:=.seq (.cond (.t 31) .skip (.exit 3)) ifixed_11
abbrev ifixed_9:AK:=.seq (.reg [bi 31 .lss 30 32] [2,3,30,31]) ifixed_10
abbrev ifixed_L0:AK:=.loop ifixed_9
abbrev ifixed_7:AK:=.seq (.reg [k 30 (ci 0)] [2,3,30]) (.block 3 ifixed_L0)
abbrev ifixed_3:AK:=.seq ifixed_7 ifixed_4
abbrev ifixed_21:AK:=.reg [bi 29 .add 9 1,m 9 29] [2,3,9]
abbrev ifixed_27:AK:=.reg [m 20 2,.eff 21 false 66021 (.bsl 1 [(ci 8)]),.eff 22 false 66022 (.app 1 8 (.t 20) (.t 21)),m 2 22] [2,3,9]
abbrev ifixed_30:AK:=.reg [m 26 2,.eff 27 false 66027 (.bsl 1 [(ci 9)]),.eff 28 false 66028 (.app 1 8 (.t 26) (.t 27)),m 2 28] [2,3,9]
abbrev ifixed_31:AK:=.reg [m 12 2,.eff 13 false 66013 (.bsl 1 [(ci 7)]),.eff 14 false 66014 (.app 1 8 (.t 12) (.t 13)),m 2 14] [2,3,9]
abbrev ifixed_28:AK:=.seq (.reg [m 24 4,bi 25 .lss 24 256,m 23 25] [2,3,9,23]) (.cond (.t 23) ifixed_30 ifixed_31)
abbrev ifixed_34:AK:=.reg [m 18 4,bi 19 .geq 18 280,m 15 19] [2,3,4,9,15]
abbrev ifixed_32:AK:=.seq (.reg [m 16 4,bi 17 .lss 16 144,m 15 17] [2,3,4,9,15]) (.cond (.t 15) .skip ifixed_34)
def ifixed_25:AK:=.seq ifixed_32 (.mid (.cond (.t 15) ifixed_27 ifixed_28))
abbrev ifixed_23:AK:=.seq (.reg [m 11 9,m 4 11] [2,3,4,9]) (.block 2 ifixed_25)
abbrev ifixed_20:AK:=.seq (.block 1 ifixed_23) ifixed_21
abbrev ifixed_19:AK:=.seq (.cond (.t 10) .skip (.exit 0)) ifixed_20
abbrev ifixed_18:AK:=.seq (.reg [bi 10 .lss 9 288] [2,3,9,10]) ifixed_19
abbrev ifixed_L1:AK:=.loop ifixed_18
abbrev ifixed_16:AK:=.seq (.reg [k 9 (ci 0)] [2,3,9]) (.block 0 ifixed_L1)
abbrev ifixed_2:AK:=.seq ifixed_16 ifixed_3
abbrev ifixed_1:AK:=.seq (.reg [k 2 (.c (.nilsl)),k 3 (.c (.nilsl))] [2,3]) ifixed_2
abbrev ifixed_0:AK:=.seq (.reg [k 0 (.c (.lit (.pointer none))),k 1 (.c (.lit (.pointer none)))] []) ifixed_1
abbrev ifixed:AK:=ifixed_0
theorem ifixed_fn:FnOK Tryz.prog 134 66000 0 ifixed [.tmp 0,.tmp 1]:=⟨_,Tryz.func134,by kernel_rfl⟩
theorem ifixed_spec {h:HP} {Post:HP→AV→List AV→Prop} (hp:HpN Tryz.prog ifixed [.tmp 0,.tmp 1] 0 [] h Post):Eng.Spec Tryz.prog 134 h [] Post:=spec_fn ifixed_fn rfl [] trivial hp
abbrev iorder_1:AK:=.seq (.reg [.v 1 (.bld [.int .i64 0,.int .i64 0,.int .i64 0,.int .i64 0,.int .i64 0,.int .i64 0,.int .i64 0,.int .i64 0,.int .i64 0,.int .i64 0,.int .i64 0,.int .i64 0,.int .i64 0,.int .i64 0,.int .i64 0,.int .i64 0,.int .i64 0,.int .i64 0,.int .i64 0] [(0,1,(ci 16)),(1,1,(ci 17)),(2,1,(ci 18)),(3,1,(ci 0)),(4,1,(ci 8)),(5,1,(ci 7)),(6,1,(ci 9)),(7,1,(ci 6)),(8,1,(ci 10)),(9,1,(ci 5)),(10,1,(ci 11)),(11,1,(ci 4)),(12,1,(ci 12)),(13,1,(ci 3)),(14,1,(ci 13)),(15,1,(ci 2)),(16,1,(ci 14)),(17,1,(ci 1)),(18,1,(ci 15))]),.effN false 67000 (.st 19 (.t 0) (.t 1))] [0]) .ret
abbrev iorder_0:AK:=.seq (.reg [.eff 0 false 67000 (.alloc [.int .i64 0,.int .i64 0,.int .i64 0,.int .i64 0,.int .i64 0,.int .i64 0,.int .i64 0,.int .i64 0,.int .i64 0,.int .i64 0,.int .i64 0,.int .i64 0,.int .i64 0,.int .i64 0,.int .i64 0,.int .i64 0,.int .i64 0,.int .i64 0,.int .i64 0])] [0]) iorder_1
abbrev iorder:AK:=iorder_0
theorem iorder_fn:FnOK Tryz.prog 188 67000 0 iorder [.cell 0 true 19]:=⟨_,Tryz.func188,by kernel_rfl⟩
theorem iorder_spec {h:HP} {Post:HP→AV→List AV→Prop} (hp:HpN Tryz.prog iorder [.cell 0 true 19] 0 [] h Post):Eng.Spec Tryz.prog 188 h [] Post:=spec_fn iorder_fn rfl [] trivial hp
abbrev ilenb_4:AK:=.seq (.reg [m 14 0,bi 15 .rem 14 4,.v 16 (.bin .add (ci 4) (.t 15)),m 17 4,b 18 .shl 16 17,.v 19 (.bin .add (ci 3) (.t 18)),m 20 4,m 2 19,m 3 20] [2,3]) .ret
abbrev ilenb_3:AK:=.seq (.reg [m 11 0,bi 12 .quo 11 4,bi 13 .sub 12 1,m 4 13] [0,4]) ilenb_4
abbrev ilenb_7:AK:=.seq (.reg [m 9 0,.v 10 (.bin .add (ci 3) (.t 9)),m 2 10,k 3 (ci 0)] [2,3]) .ret
abbrev ilenb_5:AK:=.seq (.reg [m 7 0,bi 8 .lss 7 8] [0,8]) (.cond (.t 8) ilenb_7 .skip)
abbrev ilenb_2:AK:=.seq ilenb_5 ilenb_3
abbrev ilenb_10:AK:=.seq (.reg [k 2 (ci 258),k 3 (ci 0)] [2,3]) .ret
abbrev ilenb_8:AK:=.seq (.reg [m 5 0,bi 6 .eql 5 28] [0,6]) (.cond (.t 6) ilenb_10 .skip)
abbrev ilenb_1:AK:=.seq ilenb_8 ilenb_2
abbrev ilenb_0:AK:=.seq (.reg [k 2 (ci 0),k 3 (ci 0)] [0]) ilenb_1
abbrev ilenb:AK:=ilenb_0
theorem ilenb_fn:FnOK Tryz.prog 139 68000 1 ilenb [.tmp 2,.tmp 3]:=⟨_,Tryz.func139,by kernel_rfl⟩
theorem ilenb_spec {h:HP} {a0:AV} {Post:HP→AV→List AV→Prop} (hp:HpN Tryz.prog ilenb [.tmp 2,.tmp 3] 1 [(0,a0)] h Post):Eng.Spec Tryz.prog 139 h [a0] Post:=spec_fn ilenb_fn rfl [(0,a0)] ⟨rfl,trivial⟩ hp
abbrev idisb_3:AK:=.seq (.reg [m 12 0,bi 13 .rem 12 2,.v 14 (.bin .add (ci 2) (.t 13)),m 15 4,b 16 .shl 14 15,.v 17 (.bin .add (ci 1) (.t 16)),m 18 4,m 2 17,m 3 18] [2,3]) .ret
abbrev idisb_2:AK:=.seq (.reg [m 9 0,bi 10 .quo 9 2,bi 11 .sub 10 1,m 4 11] [0,4]) idisb_3
abbrev idisb_6:AK:=.seq (.reg [m 7 0,.v 8 (.bin .add (ci 1) (.t 7)),m 2 8,k 3 (ci 0)] [2,3]) .ret
abbrev idisb_4:AK:=.seq (.reg [m 5 0,bi 6 .lss 5 4] [0,6]) (.cond (.t 6) idisb_6 .skip)
abbrev idisb_1:AK:=.seq idisb_4 idisb_2
abbrev idisb_0:AK:=.seq (.reg [k 2 (ci 0),k 3 (ci 0)] [0]) idisb_1
abbrev idisb:AK:=idisb_0
theorem idisb_fn:FnOK Tryz.prog 140 69000 1 idisb [.tmp 2,.tmp 3]:=⟨_,Tryz.func140,by kernel_rfl⟩
theorem idisb_spec {h:HP} {a0:AV} {Post:HP→AV→List AV→Prop} (hp:HpN Tryz.prog idisb [.tmp 2,.tmp 3] 1 [(0,a0)] h Post):Eng.Spec Tryz.prog 140 h [a0] Post:=spec_fn idisb_fn rfl [(0,a0)] ⟨rfl,trivial⟩ hp
abbrev fromlittle_3:AK:=.seq (.reg [m 21 3,m 2 21] [2]) .ret
abbrev fromlittle_9:AK:=.reg [bi 20 .add 8 1,m 8 20] [0,3,7,8]
abbrev fromlittle_12:AK:=.reg [m 11 3,m 12 0,m 13 4,.v 14 (.sidx (.t 12) (.t 13)),.v 15 (.cvi .u64 (.t 14)),m 16 4,.v 17 (.bin .mul (ci 8) (.t 16)),b 18 .shl 15 17,b 19 .or 11 18,m 3 19] [0,3,7,8]
abbrev fromlittle_11:AK:=.seq (.reg [m 10 8,m 4 10] [0,3,4,7,8]) fromlittle_12
abbrev fromlittle_8:AK:=.seq (.block 1 fromlittle_11) fromlittle_9
abbrev fromlittle_7:AK:=.seq (.cond (.t 9) .skip (.exit 0)) fromlittle_8
abbrev fromlittle_6:AK:=.seq (.reg [b 9 .lss 8 7] [0,3,7,8,9]) fromlittle_7
abbrev fromlittle_L0:AK:=.loop fromlittle_6
abbrev fromlittle_4:AK:=.seq (.reg [m 5 0,.v 6 (.len true (.t 5)),.v 7 (.mm false (.t 6) (ci 8)),k 8 (ci 0)] [0,3,7,8]) (.block 0 fromlittle_L0)
abbrev fromlittle_2:AK:=.seq fromlittle_4 fromlittle_3
abbrev fromlittle_1:AK:=.seq (.reg [k 3 (.c (.int .u64 0))] [0,3]) fromlittle_2
abbrev fromlittle_0:AK:=.seq (.reg [k 2 (.c (.int .u64 0))] [0]) fromlittle_1
abbrev fromlittle:AK:=fromlittle_0
theorem fromlittle_fn:FnOK Tryz.prog 186 80000 1 fromlittle [.tmp 2]:=⟨_,Tryz.func186,by kernel_rfl⟩
theorem fromlittle_spec {h:HP} {a0:AV} {Post:HP→AV→List AV→Prop} (hp:HpN Tryz.prog fromlittle [.tmp 2] 1 [(0,a0)] h Post):Eng.Spec Tryz.prog 186 h [a0] Post:=spec_fn fromlittle_fn rfl [(0,a0)] ⟨rfl,trivial⟩ hp
end Go.Proofs.YtlkmppkcbhodaaaGreatDoor.Cod
namespace Go.Proofs.YtlkmppkcbhodaaaGreatDoor.Pk
open Eng
set_option maxRecDepth 10000
def ST5:Nat:=79038
def OUT5:Nat:=73035
attribute [go_sem] ST5 OUT5
theorem raw_succ (t:Bs) (most n:Nat) (S:SS):rawS t most (n+1) S=if S.err≠0 then S else rawS t most n (putS most (UInt8.ofNat (numS t 8 S).1) (numS t 8 S).2):=rfl
end Go.Proofs.YtlkmppkcbhodaaaGreatDoor.Pk
namespace Go.Proofs.YtlkmppkcbhodaaaGreatDoor.Pk
open Eng
set_option maxRecDepth 10000
def upTo (f:Nat→Nat) (n:Nat):List Nat:=(List.range n).map f
theorem upTo_len (f:Nat→Nat) (n:Nat):(upTo f n).length=n:=by simp[upTo]
theorem upTo_succ (f:Nat→Nat) (n:Nat):upTo f (n+1)=upTo f n++[f n]:=by simp[upTo,List.range_succ]
theorem upTo_zero (f:Nat→Nat):upTo f 0=[]:=(rfl)
theorem nats_take {xs:List Nat}:sub3 (nats xs) 0 xs.length=nats xs:=by simp[sub3,nats,List.take_of_length_le]
def fixF (i:Nat):Nat:=if 256≤i∧i<280 then 7 else if 144≤i∧i<256 then 9 else 8
theorem fixL_eq:upTo fixF 288=fixL:=by decide +kernel
theorem fixD_eq:upTo (fun _=>5) 32=fixD:=by decide +kernel
theorem fixL_ok:(∀n∈fixL,n≤15)∧fixL.length=288∧chkL fixL=true:=by decide +kernel
theorem fixD_ok:(∀n∈fixD,n≤15)∧fixD.length=32∧chkL fixD=true:=by decide +kernel
end Go.Proofs.YtlkmppkcbhodaaaGreatDoor.Pk
namespace Go.Proofs.YtlkmppkcbhodaaaGreatDoor.Pk
open Eng
set_option maxRecDepth 10000
theorem take15 {l:List Nat} (h:∀n∈l,n≤15) (k:Nat):∀n∈l.take k,n≤15:=fun n hn=>h n (List.mem_of_mem_take hn)
theorem drop15 {l:List Nat} (h:∀n∈l,n≤15) (k:Nat):∀n∈l.drop k,n≤15:=fun n hn=>h n (List.mem_of_mem_drop hn)
theorem lens_succ (t:Bs) (fl:List Nat) (N k:Nat) (l:List Nat) (S:SS):lensS t fl N (k+1) l S=if N≤l.length∨S.err≠0 then(l,S)else
    if(overS N l (timesS t l (symS t fl S).1 (symS t fl S).2)).err≠0 then(l,overS N l (timesS t l (symS t fl S).1 (symS t fl S).2))
    else lensS t fl N k (l++List.replicate (timesS t l (symS t fl S).1 (symS t fl S).2).1 (timesS t l (symS t fl S).1 (symS t fl S).2).2.1) (overS N l (timesS t l (symS t fl S).1 (symS t fl S).2)):=rfl
theorem nats_rep (l:List Nat) (k x:Nat):nats (l++List.replicate k x)++[.int .i64 (x:Int)]=nats (l++List.replicate (k+1) x):=by
 rw[nats_app,List.append_assoc,←List.replicate_succ']
end Go.Proofs.YtlkmppkcbhodaaaGreatDoor.Pk
namespace Go.Proofs.YtlkmppkcbhodaaaGreatDoor.Pk
open Eng
set_option maxRecDepth 10000
end Go.Proofs.YtlkmppkcbhodaaaGreatDoor.Pk
namespace Go.Proofs.YtlkmppkcbhodaaaGreatDoor.Pk
open Eng
set_option maxRecDepth 10000
end Go.Proofs.YtlkmppkcbhodaaaGreatDoor.Pk
namespace Go.Proofs.YtlkmppkcbhodaaaGreatDoor.Pk
open Eng
set_option maxRecDepth 10000
def lensF (t:Bs) (nl nd:Nat) (b:List Nat×SS):(List Nat×List Nat)×SS:=
 if b.2.err≠0 then(([],[]),b.2)else
 if b.1.getD 256 0=0∨chkL (b.1.take nl)=false∨chkL (b.1.drop nl)=false then(([],[]),{b.2 with err:=3})else((b.1.take nl,b.1.drop nl),b.2)
def firstF (t:Bs) (nl nd:Nat) (a:List Nat×SS):(List Nat×List Nat)×SS:=
 if a.2.err≠0 then(([],[]),a.2)else if chkL a.1=false then(([],[]),{a.2 with err:=3})else lensF t nl nd (lensS t a.1 (nl+nd) (nl+nd) [] a.2)
theorem dynS_eq (t:Bs) (S:SS):dynS t S=if 8*t.length<S.p+14 then(([],[]),{S with err:=6})else if 286<numAt t S.p 5+257∨30<numAt t (S.p+5) 5+1 then(([],[]),{S with p:=S.p+14,err:=3})else
    firstF t (numAt t S.p 5+257) (numAt t (S.p+5) 5+1) (firstS t (numAt t (S.p+10) 4+4) (numAt t (S.p+10) 4+4) (List.replicate 19 0) {S with p:=S.p+14}):=rfl
theorem firstS_succ (t:Bs) (nc k:Nat) (l:List Nat) (S:SS):firstS t nc (k+1) l S=if S.err≠0 then(l,S)else firstS t nc k (l.set (placesL.getD (nc-(k+1)) 0) (numS t 3 S).1) (numS t 3 S).2:=rfl
theorem firstS_err (t:Bs) (nc k:Nat) (l:List Nat) (S:SS) (h:S.err≠0):firstS t nc k l S=(l,S):=by
 cases k with
 | zero=>rfl
 | succ k=>rw[firstS_succ,if_pos h]
theorem places_lt:∀j,j<19→placesL.getD j 0<19:=by decide
theorem nats_set {l:List Nat} {i x:Nat}:(nats l).set i (.int .i64 (x:Int))=nats (l.set i x):=by simp[nats,List.map_set]
end Go.Proofs.YtlkmppkcbhodaaaGreatDoor.Pk
namespace Go.Proofs.YtlkmppkcbhodaaaGreatDoor.Pk
open Eng
set_option maxRecDepth 10000
end Go.Proofs.YtlkmppkcbhodaaaGreatDoor.Pk
namespace Go.Proofs.YtlkmppkcbhodaaaGreatDoor.Pk
open Eng
set_option maxRecDepth 10000
def IST:Nat:=65032
def OUTI:Nat:=60022
attribute [go_sem] IST OUTI
def stI (s:Bs) (o most a hv:Nat) (out:Bs):HP:=[(IST,.var [.vptr RD 0,.sl OUTI 0 out.length,.int .i64 most]),(OUTI,.arr 1 (out.map ub)),(RD,.var (rdA s a hv o))]
theorem iput_ok (s:Bs) (o most a hv:Nat) (out:Bs) (hm:most≤1000000) (ho:out.length≤most) (c:UInt8):Eng.Spec Tryz.prog 165 (stI s o most a hv out) [.vptr IST 0,.int .u8 (c.toNat:Int)]
    (fun h' v ar=>h'=stI s o most a hv (if out.length=most then out else out++[c])∧v=.int .i64 (if out.length=most then 2 else 0:Nat)∧ar=[.vptr IST 0,.int .u8 (c.toNat:Int)]):=by
 refine Cod.iput_spec (fun E R hN hR=>?_)
 have hc:=c.toNat_lt
 by_cases hf:out.length=most
 ·rw[if_pos hf,if_pos hf]at hR
  simp(disch:=omega)only[go_sem,simprocAttr,stI,rdA]
  (repeat(first | refine gskip_of ?_ | refine gcskip_of ?_ | refine gopen_of ?_)<;>simp(disch:=omega)only[go_sem,simprocAttr])
  exact hR.le (by simp(disch:=omega)only[go_sem,simprocAttr,stI,rdA]) ⟨rfl,rfl,rfl⟩
 ·rw[if_neg hf,if_neg hf]at hR
  simp(disch:=omega)only[go_sem,simprocAttr,stI,rdA]
  (repeat(first | refine gskip_of ?_ | refine gcskip_of ?_ | refine gopen_of ?_)<;>simp(disch:=omega)only[go_sem,simprocAttr])
  refine hR.le ?_ ⟨rfl,rfl,rfl⟩
  simp(disch:=omega)only[go_sem,simprocAttr,stI,rdA]
  rw[UInt8.ofNat_toNat]
theorem len_wrap:∀i:Nat,i<28→8≤i→IntKind.i64.wrap (3+IntKind.i64.wrap ((4+(i:Int)%4)*2^min ((i:Int)/4-1).toNat 64))=((3+(4+i%4)*2^(i/4-1):Nat):Int)∧(i:Int)/4-1=((i/4-1:Nat):Int):=by decide +kernel
theorem dis_wrap:∀i:Nat,i<30→4≤i→IntKind.i64.wrap (1+IntKind.i64.wrap ((2+(i:Int)%2)*2^min ((i:Int)/2-1).toNat 64))=((1+(2+i%2)*2^(i/2-1):Nat):Int)∧(i:Int)/2-1=((i/2-1:Nat):Int):=by decide +kernel
theorem ilenb_ok (i:Nat) (hi:i≤28):SpecR Tryz.prog 139 [.int .i64 i] (.tup [.int .i64 ((lenB i).1:Nat),.int .i64 ((lenB i).2:Nat)]):=by
 refine Cod.ilenb_spec (fun E R hN hR=>?_)
 by_cases h28:i=28
 ·subst h28
  simp(disch:=omega)only[go_sem,simprocAttr]
  exact hR.le (by simp(disch:=omega)only[go_sem,simprocAttr]) ⟨rfl,rfl⟩
 ·by_cases h8:i<8
  ·have e:lenB i=(3+i,0):=by unfold lenB;rw[if_neg h28,if_pos h8]
   rw[e]at hR
   simp(disch:=omega)only[go_sem,simprocAttr]
   (repeat(first | refine gskip_of ?_ | refine gcskip_of ?_ | refine gopen_of ?_)<;>simp(disch:=omega)only[go_sem,simprocAttr])
   exact hR.le (by simp(disch:=omega)only[go_sem,simprocAttr]) ⟨rfl,rfl⟩
  ·have e:lenB i=(3+(4+i%4)*2^(i/4-1),i/4-1):=by unfold lenB;rw[if_neg h28,if_neg h8]
   rw[e]at hR
   simp(disch:=omega)only[go_sem,simprocAttr]
   (repeat(first | refine gskip_of ?_ | refine gcskip_of ?_ | refine gopen_of ?_)<;>simp(disch:=omega)only[go_sem,simprocAttr])
   obtain⟨w1,w2⟩:=len_wrap i (by omega) (by omega)
   rw[w1,w2]
   exact hR.le (by simp(disch:=omega)only[go_sem,simprocAttr]) ⟨rfl,rfl⟩
theorem idisb_ok (i:Nat) (hi:i≤29):SpecR Tryz.prog 140 [.int .i64 i] (.tup [.int .i64 ((disB i).1:Nat),.int .i64 ((disB i).2:Nat)]):=by
 refine Cod.idisb_spec (fun E R hN hR=>?_)
 by_cases h4:i<4
 ·have e:disB i=(1+i,0):=by unfold disB;rw[if_pos h4]
  rw[e]at hR
  simp(disch:=omega)only[go_sem,simprocAttr]
  (repeat(first | refine gskip_of ?_ | refine gcskip_of ?_ | refine gopen_of ?_)<;>simp(disch:=omega)only[go_sem,simprocAttr])
  exact hR.le (by simp(disch:=omega)only[go_sem,simprocAttr]) ⟨rfl,rfl⟩
 ·have e:disB i=(1+(2+i%2)*2^(i/2-1),i/2-1):=by unfold disB;rw[if_neg h4]
  rw[e]at hR
  simp(disch:=omega)only[go_sem,simprocAttr]
  (repeat(first | refine gskip_of ?_ | refine gcskip_of ?_ | refine gopen_of ?_)<;>simp(disch:=omega)only[go_sem,simprocAttr])
  obtain⟨w1,w2⟩:=dis_wrap i (by omega) (by omega)
  rw[w1,w2]
  exact hR.le (by simp(disch:=omega)only[go_sem,simprocAttr]) ⟨rfl,rfl⟩
def PI (s:Bs) (o most:Nat) (F:SS) (h':HP) (v:AV):Prop:=
 ∃a' hv' out',h'=stI s o most a' hv' out'∧v=.int .i64 (F.err:Nat)∧(F.err=0→out'=F.out∧RdOK s a' hv' (8*o+F.p))
theorem pi_of {s:Bs} {o most:Nat} {F:SS} {h':HP} {v:AV} (h:∃a' hv' S',h'=stI s o most a' hv' S'.out∧RdOK s a' hv' (8*o+S'.p)∧S'.out.length≤most∧v=.int .i64 (F.err:Nat)∧(F.err=0→S'=F)):PI s o most F h' v:=by
 obtain⟨a',hv',S',h1,h2,_,h4,h5⟩:=h
 exact⟨a',hv',S'.out,h1,h4,fun he=>by obtain rfl:=h5 he;exact⟨rfl,h2⟩⟩
theorem left_drop (s:Bs) (o p:Nat):leftB s (8*o+p)=8*(s.drop o).length-p:=by unfold leftB;rw[List.length_drop];omega
theorem drop_two (s:Bs) (q:Nat) (h:q+2≤s.length):(s.drop q).take 2=[s.getD q 0,s.getD (q+1) 0]:=by
 have h1:q<s.length:=by omega
 have h2:q+1<s.length:=by omega
 rw[List.drop_eq_getElem_cons h1,List.drop_eq_getElem_cons h2,List.getD_eq_getElem?_getD,List.getD_eq_getElem?_getD,List.getElem?_eq_getElem h1,List.getElem?_eq_getElem h2]
 rfl
theorem little_ok (x y:UInt8):SpecR Tryz.prog 186 [.str [x,y]] (.int .u64 ((x.toNat+y.toNat*2^8:Nat):Int)):=by
 refine Cod.fromlittle_spec (fun E R hN hR=>?_)
 have hx:=x.toNat_lt
 have hy:=y.toNat_lt
 simp(disch:=omega)only[go_sem,simprocAttr]
 refine vcW_loop hN (fun i:Nat=>⟨[(0,.str [x,y]),(3,.int .u64 (if i=0 then 0 else if i=1 then x.toNat else x.toNat+y.toNat*2^8:Nat)),(7,.int .i64 2),(8,.int .i64 i)],[]⟩) (fun i=>i≤2) (fun i=>2-i) 0 (.le (by simp(disch:=omega)only[go_sem,simprocAttr])) (by omega) ?_
 rintro i R1 hi hR1
 obtain rfl | rfl | rfl:i=0∨i=1∨i=2:=by omega
 ·have e0:bits .or .u64 0 (IntKind.u64.wrap ((x.toNat:Int)*2^min 0 64))=((x.toNat:Nat):Int):=(or_fill (x:=0) (k:=0) (b:=x.toNat) (by decide) (by decide) hx).trans (by rw[Nat.zero_add,Nat.pow_zero,Nat.mul_one])
  simp(disch:=omega)only[go_sem,simprocAttr,e0]
  exact hR1 1 _ (by omega) (by omega) (.le (by simp(disch:=omega)only[go_sem,simprocAttr]))
 ·have e1:bits .or .u64 (x.toNat:Int) (IntKind.u64.wrap ((y.toNat:Int)*2^min 8 64))=((x.toNat+y.toNat*2^8:Nat):Int):=or_fill (k:=8) hx (by decide) hy
  simp(disch:=omega)only[go_sem,simprocAttr,e1]
  exact hR1 2 _ (by omega) (by omega) (.le (by simp(disch:=omega)only[go_sem,simprocAttr]))
 ·simp(disch:=omega)only[go_sem,simprocAttr]
  exact hR.le (by simp(disch:=omega)only[go_sem,simprocAttr]) ⟨rfl,rfl⟩
end Go.Proofs.YtlkmppkcbhodaaaGreatDoor.Pk
namespace Go.Proofs.YtlkmppkcbhodaaaGreatDoor.Pk
open Eng
set_option maxRecDepth 10000
theorem raw_err (t:Bs) (most:Nat) {S:SS} (h:S.err≠0):∀n,rawS t most n S=S
 | 0=>rfl
 | n+1=>by rw[raw_succ,if_pos h]
theorem raw_law (t:Bs) (most:Nat):∀(n:Nat) (S:SS) (q:Nat),S.err=0→S.p=8*q→q≤t.length→S.out.length≤most →
    (rawS t most n S).err=(if most<S.out.length+min n (t.length-q)then 2 else if t.length<q+n then 6 else 0)∧((rawS t most n S).err=0→rawS t most n S=⟨8*(q+n),S.out++(t.drop q).take n,0⟩)
 | 0,S,q,he,hp,hq,ho=>by
  refine⟨?_,fun _=>?_⟩
  ·rw[if_neg (by omega),if_neg (by omega)];exact he
  ·obtain⟨p,out,err⟩:=S
   simp only at he hp
   subst he hp
   simp[rawS]
 | n+1,S,q,he,hp,hq,ho=>by
  rw[raw_succ,if_neg (by simpa using he)]
  by_cases hq1:q=t.length
  ·have hn:=num_no (n:=8) he (t:=t) (by omega)
   rw[hn]
   have hput:putS most (UInt8.ofNat (0,{S with err:=6}).1) (0,{S with err:=6}).2={S with err:=6}:=if_pos (by simp)
   rw[hput,raw_err _ _ (by simp)]
   refine⟨?_,fun h=>absurd h (by simp)⟩
   rw[if_neg (by omega),if_pos (by omega)]
  ·have hn:=num_ok (n:=8) he (t:=t) (by omega)
   rw[hn]
   simp only
   rw[hp,num_byte,UInt8.ofNat_toNat]
   unfold putS
   rw[if_neg (by simpa using he)]
   by_cases hf:most≤S.out.length
   ·simp only[if_pos hf]
    rw[raw_err _ _ (by simp)]
    refine⟨?_,fun h=>absurd h (by simp)⟩
    rw[if_pos (by omega)]
   ·simp only[if_neg hf]
    obtain⟨h1,h2⟩:=raw_law t most n {p:=8*q+8,out:=S.out++[t.getD q 0],err:=S.err} (q+1) he (by simp only;omega) (by omega) (by simp only[List.length_append,List.length_singleton];omega)
    refine⟨?_,fun h=>?_⟩
    ·rw[h1]
     simp only[List.length_append,List.length_singleton]
     rw[show S.out.length+1+min n (t.length-(q+1))=S.out.length+min (n+1) (t.length-q)by omega,show q+1+n=q+(n+1)by omega]
    ·rw[h2 h]
     have hlt:q<t.length:=by omega
     rw[List.drop_eq_getElem_cons hlt,List.take_succ_cons,List.getD_eq_getElem?_getD,List.getElem?_eq_getElem hlt,show q+1+n=q+(n+1)by omega]
     simp
theorem stored_law (t:Bs) (most:Nat) (S:SS) (he:S.err=0) (hp:S.p≤8*t.length) (ho:S.out.length≤most) (q:Nat) (hq:upB S.p=8*q) :
    if t.length<q+4 then(storedS t most S).err=6 else
     if(t.getD q 0).toNat+(t.getD (q+1) 0).toNat*2^8+((t.getD (q+2) 0).toNat+(t.getD (q+3) 0).toNat*2^8)≠65535 then(storedS t most S).err=3 else
     (storedS t most S).err=(if most<S.out.length+min ((t.getD q 0).toNat+(t.getD (q+1) 0).toNat*2^8) (t.length-(q+4))then 2 else if t.length<q+4+((t.getD q 0).toNat+(t.getD (q+1) 0).toNat*2^8)then 6 else 0) ∧
     ((storedS t most S).err=0→storedS t most S=⟨8*(q+4+((t.getD q 0).toNat+(t.getD (q+1) 0).toNat*2^8)),S.out++(t.drop (q+4)).take ((t.getD q 0).toNat+(t.getD (q+1) 0).toNat*2^8),0⟩):=by
 have hn16:∀i,numAt t (8*i) 16=(t.getD i 0).toNat+(t.getD (i+1) 0).toNat*2^8:=by
  intro i
  rw[show(16:Nat)=8+8 from rfl,num_two,num_byte,show 8*i+8=8*(i+1)by omega,num_byte]
 have hup:upS S={S with p:=8*q}:=by unfold upS;unfold upB at hq;rw[hq]
 have hq2:q≤t.length:=by unfold upB at hq;omega
 unfold storedS
 simp only
 rw[hup]
 by_cases h4:t.length<q+4
 ·rw[if_pos h4]
  by_cases h2:t.length<q+2
  ·rw[num_no (by exact he) (by simp only;omega)]
   simp only
   rw[num_err (by simp)]
   simp only
   rw[if_pos (by decide)]
   rw[raw_err _ _ (fail_err (by decide))]
   rfl
  ·rw[num_ok (by exact he) (by simp only;omega)]
   simp only
   rw[num_no (by exact he) (by simp only;omega)]
   simp only
   have hfe:failS 3 {p:=8*q+16,out:=S.out,err:=6}=({p:=8*q+16,out:=S.out,err:=6}:SS):=if_neg (by simp)
   rw[hfe,ite_self,raw_err _ _ (by simp)]
 ·rw[if_neg h4]
  rw[num_ok (by exact he) (by simp only;omega)]
  simp only
  rw[num_ok (by exact he) (by simp only;omega)]
  simp only
  rw[show 8*q+16=8*(q+2)by omega,hn16,hn16]
  by_cases hx:(t.getD q 0).toNat+(t.getD (q+1) 0).toNat*2^8+((t.getD (q+2) 0).toNat+(t.getD (q+2+1) 0).toNat*2^8)≠65535
  ·rw[if_pos hx,if_pos hx,raw_err _ _ (fail_err (by decide)),fail_of (by exact he)]
  ·rw[if_neg hx,if_neg hx]
   exact raw_law t most _ _ (q+4) he (by simp only;omega) (by omega) ho
end Go.Proofs.YtlkmppkcbhodaaaGreatDoor.Pk
namespace Go.Proofs.YtlkmppkcbhodaaaGreatDoor.Pk
open Eng
set_option maxRecDepth 10000
theorem rused_bor (s:Bs) (a hv fr p:Nat) (hs:s.length≤1000000000000) (h:RdOK s a hv p) (hfr:8*fr≤p):Eng.Spec Tryz.prog 121 [] [.elt (.agg (rdA s a hv fr))] (fun h' v ar=>h'=[]∧v=.int .i64 ((p+7)/8-fr:Nat)∧ar=[.elt (.agg (rdA s a hv fr))]):=by
 refine Cod.rused_spec (fun E R hN hR=>?_)
 obtain⟨h1,h2,h3⟩:=h
 have eq:(hv:Int).tdiv 8=((hv/8:Nat):Int):=by rw[tdiv_pos (by omega)];omega
 have e2:(a:Int)-((hv/8:Nat):Int)-(fr:Int)=(((p+7)/8-fr:Nat):Int):=by omega
 simp(disch:=omega)only[go_sem,simprocAttr,rdA,eq,e2]
 exact hR.le (by simp(disch:=omega)only[go_sem,simprocAttr]) ⟨rfl,rfl,rfl⟩
theorem rleft_bor (s:Bs) (a hv fr p:Nat) (hs:s.length≤1000000000000) (h:RdOK s a hv p):Eng.Spec Tryz.prog 187 [] [.elt (.agg (rdA s a hv fr))] (fun h' v ar=>h'=[]∧v=.int .i64 (leftB s p:Nat)∧ar=[.elt (.agg (rdA s a hv fr))]):=by
 refine Cod.rleft_spec (fun E R hN hR=>?_)
 obtain⟨h1,h2,h3⟩:=h
 have e2:8*((s.length:Int)-(a:Int))+(hv:Int)=((leftB s p:Nat):Int):=by unfold leftB;omega
 simp(disch:=omega)only[go_sem,simprocAttr,rdA,e2]
 exact hR.le (by simp(disch:=omega)only[go_sem,simprocAttr]) ⟨rfl,rfl,rfl⟩
theorem take4 (s:Bs) (q:Nat) (h:q+4≤s.length):(s.drop q).take 4=[s.getD q 0,s.getD (q+1) 0,s.getD (q+2) 0,s.getD (q+3) 0]:=by
 have e:(s.drop q).take 4=(s.drop q).take 2++(s.drop (q+2)).take 2:=by rw[show(4:Nat)=2+2 from rfl,List.take_add,List.drop_drop]
 rw[e,drop_two s q (by omega),drop_two s (q+2) (by omega)]
 rfl
theorem xor_all {n:Nat} (h:n<65536):n ^^^ 65535=65535-n:=by
 have h1:(BitVec.ofNat 16 n ^^^ BitVec.allOnes 16).toNat=(~~~ (BitVec.ofNat 16 n)).toNat:=by rw[BitVec.xor_allOnes]
 rw[BitVec.toNat_xor,BitVec.toNat_not,BitVec.toNat_ofNat,BitVec.toNat_allOnes,Nat.mod_eq_of_lt (by omega)]at h1
 omega
set_option maxHeartbeats 1000000 in
theorem istored_ok (s:Bs) (o most a hv:Nat) (S:SS) (hs:s.length≤1000000000) (ho:o≤s.length) (hm:most≤1000000) (hr:RdOK s a hv (8*o+S.p)) (hol:S.out.length≤most) (he:S.err=0) :
    Eng.Spec Tryz.prog 162 (stI s o most a hv S.out) [.vptr IST 0] (fun h' v ar=>PI s o most (storedS (s.drop o) most S) h' v∧ar=[.vptr IST 0]):=by
 refine Cod.istored_spec (fun E R hN hR=>?_)
 obtain⟨q,hq⟩:∃q,upB S.p=8*q:=⟨(S.p+7)/8,by unfold upB;omega⟩
 have hr':=hr
 obtain⟨r1,r2,r3⟩:=hr'
 have hpl:S.p≤8*(s.drop o).length:=by rw[List.length_drop];omega
 have hup:upB (8*o+S.p)=8*(o+q):=by unfold upB at hq ⊢;omega
 have hud:upB (8*o+S.p)/8=o+q:=by omega
 have law:=stored_law (s.drop o) most S he hpl hol q hq
 generalize storedS (s.drop o) most S=F at *
 have gd:∀i,(s.drop o).getD i 0=s.getD (o+i) 0:=fun i=>by rw[List.getD_eq_getElem?_getD,List.getElem?_drop,←List.getD_eq_getElem?_getD]
 rw[gd,gd,gd,gd,List.length_drop,List.drop_drop]at law
 have hb:=rbytes_ok s a hv o (8*o+S.p) 4 (by omega) (by decide) hr
 rw[hud]at hb
 simp(disch:=omega)only[go_sem,simprocAttr,stI]
 refine call_win [(RD,.var (rdA s a hv o))] hb (by simp(disch:=omega)only[go_sem,simprocAttr]) nofun ?_
 rintro h' v ar ⟨a1,hv1,hr1,hz1,rfl,rfl,rfl⟩
 by_cases h4:s.length<o+q+4
 ·rw[if_neg (by omega)]at hr1
  rw[if_neg (by omega),decide_eq_false (by omega)]
  rw[if_pos (by omega)]at law
  refine⟨by simp(disch:=omega)only[go_sem,simprocAttr,rdA],rfl,?_⟩
  simp(disch:=omega)only[go_sem,simprocAttr,rdA]
  exact hR.le (h':=stI s o most a1 hv1 S.out) (by simp(disch:=omega)only[go_sem,simprocAttr,stI,rdA]) ⟨pi_of ⟨a1,hv1,{S with p:=8*q,err:=6},rfl,by simp only;rw[show 8*o+8*q=8*(o+q)by omega,←hup];exact hr1,hol,by rw[law];rfl,fun h=>absurd h (by rw[law];decide)⟩,rfl⟩
 ·rw[if_pos (by omega)]at hr1
  rw[if_pos (by omega),decide_eq_true (by omega),take4 s (o+q) (by omega)]
  rw[if_neg (by omega)]at law
  generalize s.getD (o+q) 0=c0 at *
  generalize s.getD (o+(q+1)) 0=c1 at *
  generalize s.getD (o+(q+2)) 0=c2 at *
  generalize s.getD (o+(q+3)) 0=c3 at *
  have hc0:=c0.toNat_lt
  have hc1:=c1.toNat_lt
  have hc2:=c2.toNat_lt
  have hc3:=c3.toNat_lt
  have l1:=little_ok c0 c1
  have l2:=little_ok c2 c3
  generalize hn:c0.toNat+c1.toNat*2^8=n at *
  generalize hk:c2.toNat+c3.toNat*2^8=k at *
  have hn6:n<65536:=by omega
  have hk6:k<65536:=by omega
  refine⟨by simp(disch:=omega)only[go_sem,simprocAttr,rdA],rfl,?_⟩
  simp(disch:=omega)only[go_sem,simprocAttr,rdA]
  refine call_ro l1 rfl rfl ?_
  simp(disch:=omega)only[go_sem,simprocAttr]
  refine call_ro l2 rfl rfl ?_
  have ex:bits .xor .i64 (n:Int) 65535=((65535-n:Nat):Int):=by
   show IntKind.i64.wrap ((BitVec.ofInt 64 (n:Int) ^^^ BitVec.ofInt 64 ((65535:Nat):Int)).toNat:Int)=_
   rw[BitVec.ofInt_natCast,BitVec.ofInt_natCast,BitVec.toNat_xor,BitVec.toNat_ofNat,BitVec.toNat_ofNat,Nat.mod_eq_of_lt (by omega),Nat.mod_eq_of_lt (by decide),xor_all hn6]
   exact wrap_id (by omega)
  simp(disch:=omega)only[go_sem,simprocAttr,ex]
  by_cases hx:n+k≠65535
  ·rw[if_pos hx]at law
   have hne:¬((65535-n:Nat):Int)=(k:Int):=by omega
   simp(disch:=omega)only[go_sem,simprocAttr,hne]
   exact hR.le (h':=stI s o most a1 hv1 S.out) (by simp(disch:=omega)only[go_sem,simprocAttr,stI,rdA]) ⟨pi_of ⟨a1,hv1,{S with p:=8*(q+4),err:=3},rfl,by simp only;rw[hup]at hr1;rw[show 8*o+8*(q+4)=8*(o+q)+8*4 by omega];exact hr1,hol,by rw[law];rfl,fun h=>absurd h (by rw[law];decide)⟩,rfl⟩
  ·rw[if_neg hx]at law
   have heq:((65535-n:Nat):Int)=(k:Int):=by omega
   obtain⟨law1,law2⟩:=law
   have hr1':RdOK s a1 hv1 (8*(o+q+4)):=by rw[hup]at hr1;rw[show 8*(o+q+4)=8*(o+q)+8*4 by omega];exact hr1
   have hup1:upB (8*(o+q+4))=8*(o+q+4):=by unfold upB;omega
   have hb2:=rbytes_ok s a1 hv1 o (8*(o+q+4)) n (by omega) (by omega) hr1'
   rw[hup1,Nat.mul_div_cancel_left _ (by decide)]at hb2
   simp(disch:=omega)only[go_sem,simprocAttr,heq]
   refine call_win [(RD,.var (rdA s a1 hv1 o))] hb2 (by simp(disch:=omega)only[go_sem,simprocAttr,rdA]) nofun ?_
   rintro h' v ar ⟨a2,hv2,hr2,hz2,rfl,rfl,rfl⟩
   have key:∀(ok:Bool) (x:Bs),ok=decide (n≤s.length-(o+q+4))→x=(if n≤s.length-(o+q+4)then(s.drop (o+q+4)).take n else[]) →
    vcW Tryz.prog E Cod.istored_6 (KQ.post [RVar.tmp 2] 1 R) ⟨[(0,.vptr 65032 0),(4,.bool ok),(6,.str x),(2000000,.vptr 65032 0)],[(40014,.var (rdA s a2 hv2 o)),(65032,.var [.vptr 40014 0,.sl 60022 0 S.out.length,.int .i64 most]),(60022,.arr 1 (S.out.map ub))]⟩:=by
    intro ok x hok hv4
    refine vcW_cut hN (fun z:Nat×Nat=>⟨[(0,.vptr IST 0),(4,.bool ok),(6,.str ((s.drop (o+q+4)).take n)),(2000000,.vptr IST 0)],stI s o most z.1 z.2 S.out⟩) (fun z=>RdOK s z.1 z.2 (8*(o+q+4+min n (s.length-(o+q+4))))) (fun R2 hR2=>?_) (fun z hz=>?_)
    ·clear hR
     subst hok
     subst hv4
     by_cases hfit:n≤s.length-(o+q+4)
     ·rw[if_pos hfit]at hr2
      rw[if_pos hfit,decide_eq_true hfit]
      simp(disch:=omega)only[go_sem,simprocAttr,stI,rdA]
      refine hR2 (a2,hv2) _ (by simp only;rw[Nat.min_eq_left hfit,show 8*(o+q+4+n)=8*(o+q+4)+8*n by omega];exact hr2) (.le ?_)
      simp(disch:=omega)only[go_sem,simprocAttr,stI,rdA]
     ·rw[if_neg hfit]at hr2
      rw[if_neg hfit,decide_eq_false hfit]
      have hlb:=rleft_bor s a2 hv2 o _ (by omega) hr2
      have el:leftB s (8*(o+q+4))/8=s.length-(o+q+4):=by unfold leftB;omega
      have hb3:=rbytes_ok s a2 hv2 o _ (s.length-(o+q+4)) (by omega) (by omega) hr2
      rw[hup1,Nat.mul_div_cancel_left _ (by decide),if_pos (Nat.le_refl _)]at hb3
      generalize leftB s (8*(o+q+4))=lb at *
      have elb:(lb:Int)/8=((s.length-(o+q+4):Nat):Int):=by omega
      simp only[rdA]at hlb
      simp(disch:=omega)only[go_sem,simprocAttr,rdA]
      (repeat(first | refine gskip_of ?_ | refine gcskip_of ?_ | refine gopen_of ?_)<;>simp(disch:=omega)only[go_sem,simprocAttr])
      refine call_bor [] (by simp(disch:=omega)only[go_sem,simprocAttr]) hlb trivial (fun _=>rfl) ?_
      rintro h' v ar ⟨rfl,rfl,rfl⟩
      refine⟨rfl,rfl,?_⟩
      simp(disch:=omega)only[go_sem,simprocAttr,elb]
      refine call_win [(RD,.var (rdA s a2 hv2 o))] hb3 (by simp(disch:=omega)only[go_sem,simprocAttr,rdA]) nofun ?_
      rintro h' v ar ⟨a3,hv3,hr3,hz3,rfl,rfl,rfl⟩
      rw[if_pos (Nat.le_refl _),decide_eq_true (Nat.le_refl _)]
      have etk:(s.drop (o+q+4)).take (s.length-(o+q+4))=(s.drop (o+q+4)).take n:=by
       rw[List.take_of_length_le (by rw[List.length_drop];omega),List.take_of_length_le (by rw[List.length_drop];omega)]
      refine⟨by simp(disch:=omega)only[go_sem,simprocAttr,rdA],rfl,?_⟩
      simp(disch:=omega)only[go_sem,simprocAttr,rdA]
      refine hR2 (a3,hv3) _ (by simp only;rw[Nat.min_eq_right (by omega),show 8*(o+q+4+(s.length-(o+q+4)))=8*(o+q+4)+8*(s.length-(o+q+4))by omega];exact hr3) (.le ?_)
      simp(disch:=omega)only[go_sem,simprocAttr,stI,rdA,etk]
    ·obtain⟨a3,hv3⟩:=z
     simp only at hz ⊢
     have hbl:((s.drop (o+q+4)).take n).length=min n (s.length-(o+q+4)):=by rw[List.length_take,List.length_drop]
     generalize hbb:(s.drop (o+q+4)).take n=b at *
     by_cases hbig:most-S.out.length<b.length
     ·have hbi:(most:Int)-(S.out.length:Int)<(b.length:Int):=by omega
      rw[if_pos (by omega)]at law1
      simp(disch:=omega)only[go_sem,simprocAttr,stI,rdA,hbi]
      exact hR.le (h':=stI s o most a3 hv3 S.out) (by simp(disch:=omega)only[go_sem,simprocAttr,stI,rdA]) ⟨pi_of ⟨a3,hv3,{S with p:=8*(q+4+min n (s.length-(o+q+4))),err:=2},rfl,by simp only;rw[show 8*o+8*(q+4+min n (s.length-(o+q+4)))=8*(o+q+4+min n (s.length-(o+q+4)))by omega];exact hz,hol,by rw[law1];rfl,fun h=>absurd h (by rw[law1];decide)⟩,rfl⟩
     ·have hbi:¬(most:Int)-(S.out.length:Int)<(b.length:Int):=by omega
      rw[if_neg (by omega)]at law1
      by_cases hfit:n≤s.length-(o+q+4)
      ·rw[decide_eq_true hfit]at hok
       subst hok
       rw[if_neg (by omega)]at law1
       have law2:=law2 law1
       simp(disch:=omega)only[go_sem,simprocAttr,stI,rdA,hbi]
       exact hR.le (h':=stI s o most a3 hv3 (S.out++b)) (by simp(disch:=omega)only[go_sem,simprocAttr,stI,rdA]) ⟨pi_of ⟨a3,hv3,F,by rw[law2],by rw[law2];simp only;rw[Nat.min_eq_left hfit]at hz;rw[show 8*o+8*(q+4+n)=8*(o+q+4+n)by omega];exact hz,by rw[law2];simp only[List.length_append];omega,by rw[law1];rfl,fun _=>rfl⟩,rfl⟩
      ·rw[decide_eq_false hfit]at hok
       subst hok
       rw[if_pos (by omega)]at law1
       simp(disch:=omega)only[go_sem,simprocAttr,stI,rdA,hbi]
       exact hR.le (h':=stI s o most a3 hv3 (S.out++b)) (by simp(disch:=omega)only[go_sem,simprocAttr,stI,rdA]) ⟨pi_of ⟨a3,hv3,⟨8*(q+4+min n (s.length-(o+q+4))),S.out++b,6⟩,rfl,by simp only;rw[show 8*o+8*(q+4+min n (s.length-(o+q+4)))=8*(o+q+4+min n (s.length-(o+q+4)))by omega];exact hz,by simp only[List.length_append];omega,by rw[law1];rfl,fun h=>absurd h (by rw[law1];decide)⟩,rfl⟩
   by_cases hfit:n≤s.length-(o+q+4)
   ·have key:=key true _ (by rw[decide_eq_true hfit]) rfl
    rw[if_pos hfit]at key
    rw[if_pos hfit,decide_eq_true hfit]
    refine⟨by simp(disch:=omega)only[go_sem,simprocAttr,rdA],rfl,?_⟩
    simp only[rdA]at key
    simp(disch:=omega)only[go_sem,simprocAttr,rdA]
    exact key
   ·have key:=key false _ (by rw[decide_eq_false hfit]) rfl
    rw[if_neg hfit]at key
    rw[if_neg hfit,decide_eq_false hfit]
    refine⟨by simp(disch:=omega)only[go_sem,simprocAttr,rdA],rfl,?_⟩
    simp only[rdA]at key
    simp(disch:=omega)only[go_sem,simprocAttr,rdA]
    exact key
end Go.Proofs.YtlkmppkcbhodaaaGreatDoor.Pk
namespace Go.Proofs.YtlkmppkcbhodaaaGreatDoor.Pk
open Eng
set_option maxRecDepth 10000
theorem backS_succ (most back n:Nat) (S:SS):backS most back (n+1) S=if S.err≠0 then S else backS most back n (putS most (S.out.getD (S.out.length-back) 0) S):=rfl
theorem backS_err (most back:Nat) {S:SS} (h:S.err≠0):∀n,backS most back n S=S
 | 0=>rfl
 | n+1=>by rw[backS_succ,if_pos h]
theorem lenB_lt:∀i,i≤28→(lenB i).1≤300∧(lenB i).2≤8:=by decide +kernel
theorem disB_lt:∀i,i≤29→(disB i).1≤40000∧(disB i).2≤15∧1≤(disB i).1:=by decide +kernel
set_option maxHeartbeats 2000000 in
theorem irepeat_ok (s:Bs) (o most a hv:Nat) (S:SS) (d:List Nat) (sy:Nat) (hs:s.length≤1000000000) (ho:o≤s.length) (hm:most≤1000000) (hr:RdOK s a hv (8*o+S.p)) (hol:S.out.length≤most) (he:S.err=0)
    (hd:∀n∈d,n≤15) (hdl:d.length≤320) (hdc:chkL d=true) (hsy:257≤sy) (hsy2:sy≤400) :
    Eng.Spec Tryz.prog 166 (stI s o most a hv S.out) [.vptr IST 0,.int .i64 sy,tblA d] (fun h' v ar=>PI s o most (repS (s.drop o) most d sy S) h' v∧ar=[.vptr IST 0,.int .i64 sy,tblA d]):=by
 refine Cod.irepeat_spec (fun E R hN hR=>?_)
 have htl:(s.drop o).length=s.length-o:=List.length_drop
 by_cases h285:285<sy
 ·have hF:repS (s.drop o) most d sy S={S with err:=3}:=by unfold repS;rw[if_pos h285,fail_of he]
  rw[hF]at hR
  simp(disch:=omega)only[go_sem,simprocAttr,stI,rdA]
  (repeat(first | refine gskip_of ?_ | refine gcskip_of ?_ | refine gopen_of ?_)<;>simp(disch:=omega)only[go_sem,simprocAttr])
  exact hR.le (h':=stI s o most a hv S.out) (by simp(disch:=omega)only[go_sem,simprocAttr,stI,rdA]) ⟨pi_of ⟨a,hv,S,rfl,hr,hol,rfl,fun h=>absurd h (by simp)⟩,rfl⟩
 ·have elen:(sy:Int)-257=((sy-257:Nat):Int):=by omega
  have hlt:=lenB_lt (sy-257) (by omega)
  have hlenb:=ilenb_ok (sy-257) (by omega)
  have hrep:repS (s.drop o) most d sy S=(let a:=numS (s.drop o) (lenB (sy-257)).2 S
   let k:=symS (s.drop o) d a.2
   if k.2.err≠0 then k.2 else if 29<k.1 then failS 3 k.2 else
   let b:=numS (s.drop o) (disB k.1).2 k.2
   let back:=(disB k.1).1+b.1
   if b.2.err≠0 then b.2 else if b.2.out.length<back then failS 3 b.2 else backS most back ((lenB (sy-257)).1+a.1) b.2):=by unfold repS;rw[if_neg h285]
  rw[hrep]at hR
  clear hrep
  simp only at hR
  generalize lenB (sy-257)=lb at *
  simp(disch:=omega)only[go_sem,simprocAttr,stI,tblA,elen]
  (repeat(first | refine gskip_of ?_ | refine gcskip_of ?_ | refine gopen_of ?_)<;>simp(disch:=omega)only[go_sem,simprocAttr,elen])
  refine call_ro hlenb rfl rfl ?_
  simp(disch:=omega)only[go_sem,simprocAttr]
  have hbits:=rbits_ok s a hv o (8*o+S.p) lb.2 (by omega) hr (by omega)
  rw[left_drop,←num_drop]at hbits
  refine call_win [(RD,.var (rdA s a hv o))] hbits (by simp(disch:=omega)only[go_sem,simprocAttr]) nofun ?_
  rintro h' v ar ⟨a1,hv1,hr1,rfl,rfl,rfl⟩
  by_cases hf1:lb.2≤8*(s.drop o).length-S.p
  ·rw[if_pos hf1]at hr1
   rw[if_pos hf1,decide_eq_true hf1]
   have hpl:S.p+lb.2≤8*(s.drop o).length:=by have:=hr.h2;have:=hr.h3;omega
   rw[num_ok he hpl]at hR
   simp only at hR
   have hnl:=num_lt (s.drop o) S.p lb.2
   have hn256:2^lb.2≤2^8:=Nat.pow_le_pow_right (by decide) hlt.2
   generalize numAt (s.drop o) S.p lb.2=x1 at *
   refine⟨by simp(disch:=omega)only[go_sem,simprocAttr,rdA],rfl,?_⟩
   have hread:=hread_ok d hd hdl hdc s a1 hv1 o (8*o+S.p+lb.2) (by omega) hr1
   rw[Nat.add_assoc,←rest_drop]at hread
   simp only[tblA]at hread
   generalize hre:readL (codesL d) (restB (s.drop o) (S.p+lb.2))=re at *
   simp(disch:=omega)only[go_sem,simprocAttr]
   refine call_win [(RD,.var (rdA s a1 hv1 o))] hread (by simp(disch:=omega)only[go_sem,simprocAttr]) nofun ?_
   rintro h' v ar ⟨a2,hv2,p2,k,hr2,rfl,rfl,hk,rfl⟩
   refine⟨by simp(disch:=omega)only[go_sem,simprocAttr,rdA],rfl,?_⟩
   by_cases hre2:re.2.2=0
   ·obtain⟨rfl,rfl⟩:=hk hre2
    have hsym:symS (s.drop o) d {S with p:=S.p+lb.2}=(re.1,{S with p:=S.p+lb.2+re.2.1}):=by rw[←hre];exact sym_ok he (by rw[hre];exact hre2)
    rw[hsym]at hR
    simp only at hR
    rw[if_neg (by simpa using he)]at hR
    have hr2':RdOK s a2 hv2 (8*o+(S.p+lb.2+re.2.1)):=by rw[show 8*o+(S.p+lb.2+re.2.1)=8*o+(S.p+lb.2)+re.2.1 by omega];exact hr2
    generalize hp2:S.p+lb.2+re.2.1=p2 at *
    have hklt:re.1≤400:=by
     have:=read_bits (codesL d) (restB (s.drop o) (S.p+lb.2)) (by rw[hre];exact hre2)
     rw[hre]at this
     have hcl:(codesL d).length=d.length:=by simp[codesL]
     omega
    generalize re.1=k at *
    by_cases h29:29<k
    ·rw[if_pos h29,fail_of (by exact he)]at hR
     simp(disch:=omega)only[go_sem,simprocAttr,hre2]
     exact hR.le (h':=stI s o most a2 hv2 S.out) (by simp(disch:=omega)only[go_sem,simprocAttr,stI,rdA]) ⟨pi_of ⟨a2,hv2,{S with p:=p2},rfl,hr2',hol,rfl,fun h=>absurd h (by simp)⟩,rfl⟩
    ·rw[if_neg h29]at hR
     have hdt:=disB_lt k (by omega)
     have hdb:=idisb_ok k (by omega)
     generalize disB k=db at *
     have hbits2:=rbits_ok s a2 hv2 o (8*o+p2) db.2 (by omega) hr2' (by omega)
     rw[left_drop,←num_drop]at hbits2
     simp(disch:=omega)only[go_sem,simprocAttr,hre2]
     refine call_ro hdb rfl rfl ?_
     simp(disch:=omega)only[go_sem,simprocAttr]
     refine call_win [(RD,.var (rdA s a2 hv2 o))] hbits2 (by simp(disch:=omega)only[go_sem,simprocAttr]) nofun ?_
     rintro h' v ar ⟨a3,hv3,hr3,rfl,rfl,rfl⟩
     by_cases hf2:db.2≤8*(s.drop o).length-p2
     ·rw[if_pos hf2]at hr3
      rw[if_pos hf2,decide_eq_true hf2]
      have hpl2:p2+db.2≤8*(s.drop o).length:=by have:=hr2'.h2;have:=hr2'.h3;omega
      rw[num_ok (by exact he) hpl2]at hR
      simp only at hR
      rw[if_neg (by simpa using he)]at hR
      have hn2:=num_lt (s.drop o) p2 db.2
      have hn15:2^db.2≤2^15:=Nat.pow_le_pow_right (by decide) hdt.2.1
      generalize numAt (s.drop o) p2 db.2=x2 at *
      refine⟨by simp(disch:=omega)only[go_sem,simprocAttr,rdA],rfl,?_⟩
      simp(disch:=omega)only[go_sem,simprocAttr]
      by_cases hbk:S.out.length<db.1+x2
      ·have hbi:(S.out.length:Int)<(db.1:Int)+(x2:Int):=by omega
       rw[if_pos (by exact hbk),fail_of (by exact he)]at hR
       simp(disch:=omega)only[go_sem,simprocAttr,hbi]
       exact hR.le (h':=stI s o most a3 hv3 S.out) (by simp(disch:=omega)only[go_sem,simprocAttr,stI,rdA]) ⟨pi_of ⟨a3,hv3,{S with p:=p2+db.2},rfl,by show RdOK s a3 hv3 (8*o+(p2+db.2));rw[←Nat.add_assoc];exact hr3,hol,rfl,fun h=>absurd h (by simp)⟩,rfl⟩
      ·have hbi:¬(S.out.length:Int)<(db.1:Int)+(x2:Int):=by omega
       rw[if_neg (by exact hbk)]at hR
       generalize hbb:db.1+x2=back at *
       have hb1:1≤back:=by omega
       have ebk:(db.1:Int)+(x2:Int)=(back:Int):=by omega
       have eln:(lb.1:Int)+(x1:Int)=((lb.1+x1:Nat):Int):=by omega
       have hln:lb.1+x1≤1000:=by omega
       rw[ebk,eln]
       generalize lb.1+x1=n at *
       rw[ebk]at hbi
       simp(disch:=omega)only[go_sem,simprocAttr,hbi]
       refine vcW_loop hN (fun z:Nat×Bs=>⟨[(0,.vptr 65032 0),(13,.int .i64 back),(79,.int .i64 n),(80,.int .i64 z.1),(2000000,.vptr 65032 0),(2000001,.int .i64 sy),(2000002,.elt (.agg (tblC d)))],stI s o most a3 hv3 z.2⟩)
        (fun z=>z.1≤n∧z.2.length≤most∧back≤z.2.length∧backS most back (n-z.1) ⟨p2+db.2,z.2,S.err⟩=backS most back n ⟨p2+db.2,S.out,S.err⟩) (fun z=>n-z.1) (0,S.out) (.le (by simp(disch:=omega)only[go_sem,simprocAttr,stI,rdA])) ⟨by simp,hol,by simp only;omega,rfl⟩ ?_
       rintro⟨j,out⟩ R1 ⟨hj,hjo,hjb,hjF⟩ hR1
       simp only at hj hjo hjb hjF
       by_cases hjn:j<n
       ·have ej:n-j=(n-j-1)+1:=by omega
        rw[ej,backS_succ,if_neg (by simpa using he)]at hjF
        unfold putS at hjF
        rw[if_neg (by simpa using he)]at hjF
        simp only at hjF
        have eidx:(out.length:Int)-(back:Int)=((out.length-back:Nat):Int):=by omega
        generalize hcc:out.getD (out.length-back) 0=c at *
        have hput:=iput_ok s o most a3 hv3 out hm hjo c
        simp(disch:=omega)only[go_sem,simprocAttr,stI,rdA]
        rw[hcc]
        refine call_win (stI s o most a3 hv3 out) hput (by simp(disch:=omega)only[go_sem,simprocAttr,stI,rdA]) nofun ?_
        rintro h' v ar ⟨rfl,rfl,rfl⟩
        refine⟨by simp(disch:=omega)only[go_sem,simprocAttr,stI,rdA],rfl,?_⟩
        by_cases hfull:out.length=most
        ·rw[if_pos hfull,if_pos hfull]
         rw[if_pos (by omega),backS_err _ _ (by simp)]at hjF
         rw[←hjF]at hR
         simp(disch:=omega)only[go_sem,simprocAttr,stI,rdA]
         exact hR.le (h':=stI s o most a3 hv3 out) (by simp(disch:=omega)only[go_sem,simprocAttr,stI,rdA]) ⟨⟨a3,hv3,out,rfl,rfl,fun h=>absurd h (by simp)⟩,rfl⟩
        ·rw[if_neg hfull,if_neg hfull]
         rw[if_neg (by omega)]at hjF
         simp(disch:=omega)only[go_sem,simprocAttr,stI,rdA]
         exact hR1 (j+1,out++[c]) _ (by simp only;omega) ⟨by simp only;omega,by simp only[List.length_append,List.length_singleton];omega,by simp only[List.length_append,List.length_singleton];omega,by simp only;rw[show n-(j+1)=n-j-1 by omega];exact hjF⟩ (.le (by simp(disch:=omega)only[go_sem,simprocAttr,stI,rdA]))
       ·obtain rfl:j=n:=by omega
        rw[Nat.sub_self]at hjF
        rw[←hjF]at hR
        simp(disch:=omega)only[go_sem,simprocAttr,stI,rdA]
        exact hR.le (h':=stI s o most a3 hv3 out) (by simp(disch:=omega)only[go_sem,simprocAttr,stI,rdA]) ⟨⟨a3,hv3,out,rfl,by show _=AV.int .i64 ((S.err:Nat):Int);rw[he];rfl,fun _=>⟨rfl,by show RdOK s a3 hv3 (8*o+(p2+db.2));rw[←Nat.add_assoc];exact hr3⟩⟩,rfl⟩
     ·rw[if_neg hf2]at hr3
      rw[if_neg hf2,decide_eq_false hf2]
      rw[num_no (by exact he) (by simp only;omega)]at hR
      simp only at hR
      rw[if_pos (by decide)]at hR
      refine⟨by simp(disch:=omega)only[go_sem,simprocAttr,rdA],rfl,?_⟩
      simp(disch:=omega)only[go_sem,simprocAttr]
      exact hR.le (h':=stI s o most a3 hv3 S.out) (by simp(disch:=omega)only[go_sem,simprocAttr,stI,rdA]) ⟨pi_of ⟨a3,hv3,{S with p:=p2},rfl,hr3,hol,rfl,fun h=>absurd h (by simp)⟩,rfl⟩
   ·have hsym:symS (s.drop o) d {S with p:=S.p+lb.2}=(0,{S with p:=S.p+lb.2,err:=re.2.2}):=by rw[←hre];exact sym_no he (by rw[hre];exact hre2)
    rw[hsym]at hR
    simp only at hR
    rw[if_pos hre2]at hR
    have hi:¬((re.2.2:Nat):Int)=0:=by omega
    simp(disch:=omega)only[go_sem,simprocAttr,hi]
    exact hR.le (h':=stI s o most a2 hv2 S.out) (by simp(disch:=omega)only[go_sem,simprocAttr,stI,rdA]) ⟨⟨a2,hv2,S.out,rfl,rfl,fun h=>absurd h hre2⟩,rfl⟩
  ·rw[if_neg hf1]at hr1
   rw[if_neg hf1,decide_eq_false hf1]
   rw[num_no he (by omega)]at hR
   simp only at hR
   rw[sym_err (by simp)]at hR
   simp only at hR
   rw[if_pos (by decide)]at hR
   refine⟨by simp(disch:=omega)only[go_sem,simprocAttr,rdA],rfl,?_⟩
   simp(disch:=omega)only[go_sem,simprocAttr]
   exact hR.le (h':=stI s o most a1 hv1 S.out) (by simp(disch:=omega)only[go_sem,simprocAttr,stI,rdA]) ⟨pi_of ⟨a1,hv1,S,rfl,hr1,hol,rfl,fun h=>absurd h (by simp)⟩,rfl⟩
end Go.Proofs.YtlkmppkcbhodaaaGreatDoor.Pk
namespace Go.Proofs.YtlkmppkcbhodaaaGreatDoor.Pk
open Eng
set_option maxRecDepth 10000
set_option maxHeartbeats 2000000 in
theorem ifixed_ok:SpecR Tryz.prog 134 [] (.tup [tblA fixL,tblA fixD]):=by
 refine Cod.ifixed_spec (fun E R hN hR=>?_)
 simp(disch:=omega)only[go_sem,simprocAttr]
 refine vcW_loop hN (fun i:Nat=>⟨[(2,.sl 66022 0 i),(3,.nilsl),(9,.int .i64 i)],[(66022,.arr 1 (nats (upTo fixF i)))]⟩) (fun i=>i≤288) (fun i=>288-i) 0 (.nil 2 66022 1 rfl (.le (by simp(disch:=omega)only[go_sem,simprocAttr,upTo_zero,nats_nil]))) (by omega) ?_
 rintro i R1 hi hR1
 have hul:=upTo_len fixF i
 have hnl:=nats_len (upTo fixF i)
 by_cases hlt:i<288
 ·have hus:=upTo_succ fixF i
  have hsb:sub3 (nats (upTo fixF i)) 0 i=nats (upTo fixF i):=by
   have:=nats_take (xs:=upTo fixF i);rw[hul]at this;exact this
  simp(disch:=omega)only[go_sem,simprocAttr]
  refine vcW_cut hN (fun _:Unit=>⟨[(2,.sl 66022 0 i),(3,.nilsl),(4,.int .i64 i),(9,.int .i64 i),(15,.bool (decide (i<144∨280≤i)))],[(66022,.arr 1 (nats (upTo fixF i)))]⟩) (fun _=>True) (fun R2 hR2=>?_) (fun _ _=>?_)
  ·by_cases h1:i<144
   ·rw[decide_eq_true (.inl h1)]at hR2
    simp(disch:=omega)only[go_sem,simprocAttr]
    (repeat(first | refine gskip_of ?_ | refine gcskip_of ?_ | refine gopen_of ?_)<;>simp(disch:=omega)only[go_sem,simprocAttr])
    exact hR2 () _ trivial (.le (by simp(disch:=omega)only[go_sem,simprocAttr]))
   ·by_cases h2:280≤i
    ·rw[decide_eq_true (.inr h2)]at hR2
     simp(disch:=omega)only[go_sem,simprocAttr]
     (repeat(first | refine gskip_of ?_ | refine gcskip_of ?_ | refine gopen_of ?_)<;>simp(disch:=omega)only[go_sem,simprocAttr])
     exact hR2 () _ trivial (.le (by simp(disch:=omega)only[go_sem,simprocAttr]))
    ·rw[decide_eq_false (by omega)]at hR2
     simp(disch:=omega)only[go_sem,simprocAttr]
     (repeat(first | refine gskip_of ?_ | refine gcskip_of ?_ | refine gopen_of ?_)<;>simp(disch:=omega)only[go_sem,simprocAttr])
     exact hR2 () _ trivial (.le (by simp(disch:=omega)only[go_sem,simprocAttr]))
  ·by_cases h8:i<144∨280≤i
   ·have hf:fixF i=8:=by unfold fixF;rw[if_neg (by omega),if_neg (by omega)]
    rw[hf]at hus
    rw[decide_eq_true h8]
    simp(disch:=omega)only[go_sem,simprocAttr,nats_cells,hsb]
    exact hR1 (i+1) _ (by omega) (by omega) (.le (by rw[hus,←nats_app];simp(disch:=omega)only[go_sem,simprocAttr]))
   ·rw[decide_eq_false h8]
    by_cases h9:i<256
    ·have hf:fixF i=9:=by unfold fixF;rw[if_neg (by omega),if_pos (by omega)]
     rw[hf]at hus
     simp(disch:=omega)only[go_sem,simprocAttr,nats_cells,hsb]
     exact hR1 (i+1) _ (by omega) (by omega) (.le (by rw[hus,←nats_app];simp(disch:=omega)only[go_sem,simprocAttr]))
    ·have hf:fixF i=7:=by unfold fixF;rw[if_pos (by omega)]
     rw[hf]at hus
     simp(disch:=omega)only[go_sem,simprocAttr,nats_cells,hsb]
     exact hR1 (i+1) _ (by omega) (by omega) (.le (by rw[hus,←nats_app];simp(disch:=omega)only[go_sem,simprocAttr]))
 ·obtain rfl:i=288:=by omega
  simp(disch:=omega)only[go_sem,simprocAttr]
  refine vcW_loop hN (fun i:Nat=>⟨[(2,.sl 66022 0 288),(3,.sl 66034 0 i),(30,.int .i64 i)],[(66022,.arr 1 (nats (upTo fixF 288))),(66034,.arr 1 (nats (upTo (fun _=>5) i)))]⟩) (fun i=>i≤32) (fun i=>32-i) 0 (.nil 3 66034 1 rfl (.le (by simp(disch:=omega)only[go_sem,simprocAttr,upTo_zero,nats_nil]))) (by omega) ?_
  rintro i R2 hi hR2
  have hul2:=upTo_len (fun _=>5) i
  have hnl2:=nats_len (upTo (fun _=>5) i)
  by_cases hlt:i<32
  ·have hus:=upTo_succ (fun _=>5) i
   have hsb:sub3 (nats (upTo (fun _=>5) i)) 0 i=nats (upTo (fun _=>5) i):=by
    have:=nats_take (xs:=upTo (fun _=>5) i);rw[hul2]at this;exact this
   simp(disch:=omega)only[go_sem,simprocAttr,nats_cells,hsb]
   exact hR2 (i+1) _ (by omega) (by omega) (.le (by rw[hus,←nats_app];simp(disch:=omega)only[go_sem,simprocAttr]))
  ·obtain rfl:i=32:=by omega
   rw[fixL_eq]at *
   rw[fixD_eq]at *
   have e1:sub3 (nats fixL) 0 288=nats fixL:=by rw[←fixL_ok.2.1];exact nats_take
   have e2:sub3 (nats fixD) 0 32=nats fixD:=by rw[←fixD_ok.2.1];exact nats_take
   have n1:=hnew_ok fixL fixL_ok.1 (by rw[fixL_ok.2.1];decide)
   have n2:=hnew_ok fixD fixD_ok.1 (by rw[fixD_ok.2.1];decide)
   rw[if_pos fixL_ok.2.2]at n1
   rw[if_pos fixD_ok.2.2]at n2
   generalize fixL=l at *
   generalize fixD=d at *
   simp(disch:=omega)only[go_sem,simprocAttr]
   refine call_wk ⟨[(37,.ro 1 (nats l)),(3,.ro 1 (nats d))],[]⟩ (.frz 66022 (.frz 66034 (.le (by simp(disch:=omega)only[go_sem,simprocAttr,e1,e2])))) rfl ?_
   simp(disch:=omega)only[go_sem,simprocAttr]
   refine call_ro' n1 rfl ?_
   rintro h' v as' ⟨rfl,rfl⟩
   refine⟨rfl,rfl,?_⟩
   simp(disch:=omega)only[go_sem,simprocAttr,tblA]
   refine call_ro' n2 rfl ?_
   rintro h' v as' ⟨rfl,rfl⟩
   refine⟨rfl,rfl,?_⟩
   simp(disch:=omega)only[go_sem,simprocAttr,tblA]
   exact hR.le (by simp(disch:=omega)only[go_sem,simprocAttr]) ⟨rfl,rfl⟩
def ordA:AV:=.agg (nats placesL)
theorem iorder_ok:SpecR Tryz.prog 188 [] ordA:=by
 refine Cod.iorder_spec (fun E R hN hR=>?_)
 simp(disch:=omega)only[go_sem,simprocAttr]
 exact hR.le (by simp(disch:=omega)only[go_sem,simprocAttr]) ⟨rfl,rfl⟩
end Go.Proofs.YtlkmppkcbhodaaaGreatDoor.Pk
namespace Go.Proofs.YtlkmppkcbhodaaaGreatDoor.Pk
section
variable {t:Bs} {S:SS}
theorem out_fail {e:Nat}:(failS e S).out=S.out:=by unfold failS;split<;>rfl
theorem out_num {n:Nat}:(numS t n S).2.out=S.out:=by
 unfold numS
 split
 ·rfl
 ·split<;>rfl
theorem out_sym {l:List Nat}:(symS t l S).2.out=S.out:=by
 unfold symS
 split
 ·rfl
 ·split<;>rfl
theorem out_times {l:List Nat} {s:Nat}:(timesS t l s S).2.2.out=S.out:=by
 unfold timesS
 split
 ·split
  ·exact out_fail
  ·exact out_num
 ·split
  ·exact out_num
  ·split
   ·exact out_num
   ·rfl
theorem out_over {N:Nat} {l:List Nat} {b:Nat×Nat×SS}:(overS N l b).out=b.2.2.out:=by
 unfold overS
 split
 ·exact out_fail
 ·rfl
end
theorem out_first {t:Bs} {nc:Nat}:∀(k:Nat) (l:List Nat) (S:SS),(firstS t nc k l S).2.out=S.out
 | 0,_,_=>rfl
 | k+1,l,S=>by
  rw[firstS_succ]
  split
  ·rfl
  ·rw[out_first k,out_num]
theorem out_lens {t:Bs} {fl:List Nat} {N:Nat}:∀(k:Nat) (l:List Nat) (S:SS),(lensS t fl N k l S).2.out=S.out
 | 0,_,_=>rfl
 | k+1,l,S=>by
  rw[lens_succ]
  split
  ·rfl
  ·split
   ·simp only;rw[out_over,out_times,out_sym]
   ·rw[out_lens k,out_over,out_times,out_sym]
theorem dyn_out (t:Bs) (S:SS):(dynS t S).2.out=S.out:=by
 rw[dynS_eq]
 split
 ·rfl
 ·split
  ·rfl
  ·unfold firstF
   split
   ·simp only;rw[out_first]
   ·split
    ·simp only;rw[out_first]
    ·unfold lensF
     split
     ·simp only;rw[out_lens,out_first]
     ·split
      ·simp only;rw[out_lens,out_first]
      ·simp only;rw[out_lens,out_first]
end Go.Proofs.YtlkmppkcbhodaaaGreatDoor.Pk
namespace Go.Proofs.YtlkmppkcbhodaaaGreatDoor.Pk
open Eng
set_option maxRecDepth 10000
def tblN:AV:=.lit (.pointer none)
def PT (s:Bs) (o most:Nat) (out:Bs) (D:(List Nat×List Nat)×SS) (h':HP) (v:AV):Prop:=
 ∃a' hv',h'=stI s o most a' hv' out∧(D.2.err≠0→v=.tup [tblN,tblN,.int .i64 (D.2.err:Nat)]) ∧
  (D.2.err=0→v=.tup [tblA D.1.1,tblA D.1.2,.int .i64 (0:Nat)]∧RdOK s a' hv' (8*o+D.2.p)∧chkL D.1.1=true∧chkL D.1.2=true∧(∀n∈D.1.1,n≤15)∧(∀n∈D.1.2,n≤15)∧D.1.1.length≤286∧D.1.2.length≤320)
abbrev QT (R:HP→AV→List AV→Prop):KQ:=KQ.post [.tmp 2,.tmp 3,.tmp 4] 1 R
abbrev QTb (R1 RX:KS) (R:HP→AV→List AV→Prop):KQ:=KQ.blk 3 (KQ.rnd R1 (KQ.blk 2 (KQ.rnd RX (QT R))))
abbrev PTo (s:Bs) (o most:Nat) (out:Bs) (D:(List Nat×List Nat)×SS):HP→AV→List AV→Prop:=fun h' v ar=>PT s o most out D h' v∧ar=[.vptr IST 0]
theorem pt_bad {s:Bs} {o most:Nat} {out:Bs} {D:(List Nat×List Nat)×SS} {R:HP→AV→List AV→Prop} (hR:PostTo (PTo s o most out D) R) (e:Nat) (he:D.2.err=e) (hne:e≠0) (a' hv':Nat) {h:HP} (hh:leH h (stI s o most a' hv' out)) :
    R h (.tup [.lit (.pointer none),.lit (.pointer none),.int .i64 (e:Nat)]) [.vptr 65032 0]:=
 hR.le (h':=stI s o most a' hv' out) hh ⟨⟨a',hv',rfl,fun _=>by rw[he];rfl,fun h=>absurd h (by rw[he];exact hne)⟩,rfl⟩
theorem rbits_d (s:Bs) (o p a hv n:Nat) (hs:s.length≤1000000000) (h:RdOK s a hv (8*o+p)) (hn:n≤32):Eng.Spec Tryz.prog 161 [(RD,.var (rdA s a hv o))] [.vptr RD 0,.int .i64 n]
    (fun h' v ar=>∃a' hv',RdOK s a' hv' (8*o+(if n≤8*(s.drop o).length-p then p+n else p))∧h'=[(RD,.var (rdA s a' hv' o))]∧v=.tup [.int .u32 (if n≤8*(s.drop o).length-p then numAt (s.drop o) p n else 0:Nat),.bool (decide (n≤8*(s.drop o).length-p))]∧ar=[.vptr RD 0,.int .i64 n]):=by
 have hb:=rbits_ok s a hv o (8*o+p) n (by omega) h hn
 rw[left_drop,←num_drop]at hb
 rw[show 8*o+(if n≤8*(s.drop o).length-p then p+n else p)=(if n≤8*(s.drop o).length-p then 8*o+p+n else 8*o+p)by split<;>omega]
 exact hb
theorem hnew_two (l:List Nat) (hl:∀n∈l,n≤15) (hn:l.length≤320):∃(x:AV) (e:Nat),Eng.Spec Tryz.prog 176 [] [.ro 1 (nats l)] (fun h r _=>h=[]∧r=.tup [x,.int .i64 (e:Nat)])∧((chkL l=true∧x=tblA l∧e=0)∨(chkL l=false∧x=.lit (.pointer none)∧e=4)):=by
 have n1:=hnew_ok l hl hn
 by_cases hc:chkL l=true
 ·rw[if_pos hc]at n1
  exact⟨_,0,n1,.inl ⟨hc,rfl,rfl⟩⟩
 ·rw[if_neg hc]at n1
  exact⟨_,4,n1,.inr ⟨by simpa using hc,rfl,rfl⟩⟩
set_option maxHeartbeats 2000000 in
theorem it_d (s:Bs) (o most a hv:Nat) (out:Bs) (l:List Nat) (nl p:Nat) (D:(List Nat×List Nat)×SS) {E:Env} {R:HP→AV→List AV→Prop} (hN:E.N≤1000000) (hR:PostTo (PTo s o most out D) R) (hl:∀n∈l,n≤15) (h1:257≤nl) (h2:nl≤286) (h3:l.length≤320) (h4:nl≤l.length)
    (hr:RdOK s a hv (8*o+p))
    (hD:D=if l.getD 256 0=0∨chkL (l.take nl)=false∨chkL (l.drop nl)=false then(([],[]),⟨p,out,3⟩)else((l.take nl,l.drop nl),⟨p,out,0⟩)) :
    vcW Tryz.prog E Cod.itables_11 (QT R) ⟨[(0,.vptr 65032 0),(7,.int .i64 nl),(16,.ro 1 (nats l)),(2000000,.vptr 65032 0)],stI s o most a hv out⟩:=by
 have hnl:=nats_len l
 have ht1:(l.take nl).length=nl:=by rw[List.length_take];omega
 have hd1:(l.drop nl).length=l.length-nl:=List.length_drop
 obtain⟨x1,e1,n1,c1⟩:=hnew_two (l.take nl) (take15 hl nl) (by omega)
 obtain⟨x2,e2,n2,c2⟩:=hnew_two (l.drop nl) (drop15 hl nl) (by omega)
 have hx:nth (nats l) 256=.int .i64 (l.getD 256 0:Nat):=nth_nats (by omega)
 have etd:(l.drop nl).take (l.length-nl)=l.drop nl:=List.take_of_length_le (by omega)
 generalize hy:l.getD 256 0=y at *
 have bad:D=(([],[]),⟨p,out,3⟩)→∀h,leH h (stI s o most a hv out)→R h (.tup [.lit (.pointer none),.lit (.pointer none),.int .i64 3]) [.vptr 65032 0]:=fun hd h hh=>pt_bad hR 3 (by rw[hd]) (by decide) a hv hh
 simp(disch:=omega)only[go_sem,simprocAttr,stI,hnl,nats_sub]
 rcases c1 with⟨hc1,rfl,rfl⟩ | ⟨hc1,rfl,rfl⟩<;>rcases c2 with⟨hc2,rfl,rfl⟩ | ⟨hc2,rfl,rfl⟩<;>by_cases h0:y=0
 all_goals
  refine call_ro' n1 rfl ?_
  rintro h' v as' ⟨rfl,rfl⟩
  refine⟨rfl,rfl,?_⟩
  simp(disch:=omega)only[go_sem,simprocAttr,hnl,nats_sub,etd,tblA]
  refine call_ro' n2 rfl ?_
  rintro h' v as' ⟨rfl,rfl⟩
  refine⟨rfl,rfl,?_⟩
 rotate_left
 ·rw[if_neg (by rw[hc1,hc2];simp[h0])]at hD
  subst hD
  have hi:¬((y:Nat):Int)=0:=by omega
  simp(disch:=omega)only[go_sem,simprocAttr,hnl,hx,hi,tblA]
  (repeat(first | refine gskip_of ?_ | refine gcskip_of ?_ | refine gopen_of ?_)<;>simp(disch:=omega)only[go_sem,simprocAttr,hnl,hx,hi])
  exact hR.le (h':=stI s o most a hv out) (by simp(disch:=omega)only[go_sem,simprocAttr,stI,rdA]) ⟨⟨a,hv,rfl,fun h=>absurd rfl h,fun _=>⟨rfl,hr,hc1,hc2,take15 hl nl,drop15 hl nl,by rw[ht1];exact h2,by rw[hd1];omega⟩⟩,rfl⟩
 all_goals
  rw[if_pos (by first | exact .inl h0 | exact .inr (.inl hc1) | exact .inr (.inr hc2))]at hD
  have bad:=bad hD
 all_goals first
  |have hi:((y:Nat):Int)=0:=by omega
   simp(disch:=omega)only[go_sem,simprocAttr,hnl,hx,hi,tblA]
   (try(repeat(first | refine gskip_of ?_ | refine gcskip_of ?_ | refine gopen_of ?_)<;>simp(disch:=omega)only[go_sem,simprocAttr,hnl,hx,hi]))
   exact bad _ (by simp(disch:=omega)only[go_sem,simprocAttr,stI,rdA])
  |have hi:¬((y:Nat):Int)=0:=by omega
   simp(disch:=omega)only[go_sem,simprocAttr,hnl,hx,hi,tblA]
   (try(repeat(first | refine gskip_of ?_ | refine gcskip_of ?_ | refine gopen_of ?_)<;>simp(disch:=omega)only[go_sem,simprocAttr,hnl,hx,hi]))
   exact bad _ (by simp(disch:=omega)only[go_sem,simprocAttr,stI,rdA])
end Go.Proofs.YtlkmppkcbhodaaaGreatDoor.Pk
namespace Go.Proofs.YtlkmppkcbhodaaaGreatDoor.Pk
open Eng
set_option maxRecDepth 10000
set_option maxHeartbeats 1000000 in
theorem it_cp (s:Bs) (o most a hv N:Nat) (out:Bs) (l fl:List Nat) (nl nd p nb least what:Nat) (D:(List Nat×List Nat)×SS) {E:Env} {R1 RX:KS} {R:HP→AV→List AV→Prop} (hN:E.N≤1000000) (hs:s.length≤1000000000) (ho:o≤s.length)
    (hR:PostTo (PTo s o most out D) R) (hr:RdOK s a hv (8*o+p)) (hbits:nb≤7) (hleast:least≤11) (hNN:nl+nd=N) (hN1:N≤400) (hll:l.length≤N)
    (hbad:(overS N l (least+(numS (s.drop o) nb ⟨p,out,0⟩).1,what,(numS (s.drop o) nb ⟨p,out,0⟩).2)).err≠0→D.2.err=(overS N l (least+(numS (s.drop o) nb ⟨p,out,0⟩).1,what,(numS (s.drop o) nb ⟨p,out,0⟩).2)).err)
    (hR1:∀n a' hv' st',n=numAt (s.drop o) p nb→p+nb≤8*(s.drop o).length→l.length+(least+n)≤N→RdOK s a' hv' (8*o+(p+nb)) →
     Wk st' ⟨[(0,.vptr 65032 0),(7,.int .i64 nl),(8,.int .i64 nd),(14,tblA fl),(16,.sl 62110 0 (l++List.replicate (least+n) what).length),(2000000,.vptr 65032 0)],stI s o most a' hv' out++[(62110,.arr 1 (nats (l++List.replicate (least+n) what)))]⟩→R1.ap st') :
    vcW Tryz.prog E Cod.itables_26 (QTb R1 RX R) ⟨[(0,.vptr 65032 0),(7,.int .i64 nl),(8,.int .i64 nd),(14,tblA fl),(16,.sl 62110 0 l.length),(19,.int .i64 nb),(20,.int .i64 least),(21,.int .i64 what),(2000000,.vptr 65032 0)],stI s o most a hv out++[(62110,.arr 1 (nats l))]⟩:=by
 have htl:(s.drop o).length=s.length-o:=List.length_drop
 have hnl:=nats_len l
 have hb:=rbits_d s o p a hv nb hs hr (by omega)
 simp(disch:=omega)only[go_sem,simprocAttr,stI]
 refine call_win [(RD,.var (rdA s a hv o))] hb (by simp(disch:=omega)only[go_sem,simprocAttr]) nofun ?_
 rintro h' v ar ⟨a1,hv1,hr1,rfl,rfl,rfl⟩
 by_cases hf:nb≤8*(s.drop o).length-p
 ·rw[if_pos hf]at hr1
  rw[if_pos hf,decide_eq_true hf]
  have hpl:p+nb≤8*(s.drop o).length:=by have:=hr.h2;have:=hr.h3;omega
  rw[num_ok rfl hpl]at hbad
  simp only at hbad
  have hlt:=num_lt (s.drop o) p nb
  have hp7:2^nb≤2^7:=Nat.pow_le_pow_right (by decide) hbits
  have hR1:=fun st'=>hR1 _ a1 hv1 st' rfl hpl
  generalize numAt (s.drop o) p nb=n at *
  refine⟨by simp(disch:=omega)only[go_sem,simprocAttr,rdA],rfl,?_⟩
  by_cases hov:N<l.length+(least+n)
  ·have ho2:((nl:Int)+(nd:Int))<(l.length:Int)+(least:Int)+(n:Int):=by omega
   have hbad:=hbad (by unfold overS;rw[if_pos hov,fail_of rfl];simp)
   unfold overS at hbad
   rw[if_pos hov,fail_of rfl]at hbad
   simp(disch:=omega)only[go_sem,simprocAttr,hnl,ho2]
   exact pt_bad hR 3 hbad (by decide) a1 hv1 (by simp(disch:=omega)only[go_sem,simprocAttr,stI,rdA])
  ·have ho2:¬((nl:Int)+(nd:Int))<(l.length:Int)+(least:Int)+(n:Int):=by omega
   have eln:(least:Int)+(n:Int)=((least+n:Nat):Int):=by omega
   clear hbad
   simp(disch:=omega)only[go_sem,simprocAttr,hnl,ho2]
   generalize hk:least+n=k at *
   rw[eln]
   refine vcW_loop hN (fun j:Nat=>⟨[(0,.vptr 65032 0),(7,.int .i64 nl),(8,.int .i64 nd),(14,tblA fl),(16,.sl 62110 0 (l.length+j:Nat)),(21,.int .i64 what),(150,.int .i64 k),(151,.int .i64 j),(2000000,.vptr 65032 0)],stI s o most a1 hv1 out++[(62110,.arr 1 (nats (l++List.replicate j what)))]⟩) (fun j=>j≤k) (fun j=>k-j) 0
    (.le (by simp(disch:=omega)only[go_sem,simprocAttr,stI,rdA,tblA];simp)) (by omega) ?_
   rintro j R2 hj hR2
   have hnl:=nats_len (l++List.replicate j what)
   have hlr:(l++List.replicate j what).length=l.length+j:=by simp
   have hnr:=nats_rep l j what
   have hsb:sub3 (nats (l++List.replicate j what)) 0 (l.length+j)=nats (l++List.replicate j what):=by rw[←hlr];exact nats_take
   by_cases hjk:j<k
   ·simp(disch:=omega)only[go_sem,simprocAttr,stI,hsb,nats_cells]
    exact hR2 (j+1) _ (by omega) (by omega) (.le (by simp(disch:=omega)only[go_sem,simprocAttr,stI,rdA,tblA,hnr]))
   ·obtain rfl:j=k:=by omega
    simp(disch:=omega)only[go_sem,simprocAttr,stI]
    exact hR1 _ (by omega) hr1 (.le (by simp(disch:=omega)only[go_sem,simprocAttr,stI,rdA,tblA,hlr]))
 ·rw[if_neg hf]at hr1
  rw[if_neg hf,decide_eq_false hf]
  rw[num_no rfl (by simp only;omega)]at hbad
  have hover:∀k,(overS N l (k,what,{p:=p,out:=out,err:=6})).err=6:=by
   intro k
   unfold overS
   split
   ·rfl
   ·rfl
  simp only at hbad
  rw[hover]at hbad
  refine⟨by simp(disch:=omega)only[go_sem,simprocAttr,rdA],rfl,?_⟩
  simp(disch:=omega)only[go_sem,simprocAttr]
  exact pt_bad hR 6 (hbad (by decide)) (by decide) a1 hv1 (by simp(disch:=omega)only[go_sem,simprocAttr,stI,rdA])
set_option maxHeartbeats 2000000 in
theorem it_b (s:Bs) (o most a hv:Nat) (out:Bs) (fl:List Nat) (nl nd p:Nat) (D:(List Nat×List Nat)×SS) {E:Env} {R:HP→AV→List AV→Prop} (hN:E.N≤1000000) (hs:s.length≤1000000000) (ho:o≤s.length)
    (hR:PostTo (PTo s o most out D) R) (hr:RdOK s a hv (8*o+p)) (hfl:∀n∈fl,n≤15) (hfn:fl.length=19) (hfc:chkL fl=true) (h1:257≤nl) (h2:nl≤286) (h3:1≤nd) (h4:nd≤30)
    (hD:D=lensF (s.drop o) nl nd (lensS (s.drop o) fl (nl+nd) (nl+nd) [] ⟨p,out,0⟩)) :
    vcW Tryz.prog E Cod.itables_10 (QT R) ⟨[(0,.vptr 65032 0),(7,.int .i64 nl),(8,.int .i64 nd),(14,tblA fl),(16,.nilsl),(2000000,.vptr 65032 0)],stI s o most a hv out⟩:=by
 generalize hG:lensS (s.drop o) fl (nl+nd) (nl+nd) [] ⟨p,out,0⟩=G at hD
 have hN1:nl+nd≤400:=by omega
 generalize hNN:nl+nd=N at *
 have hbadG:G.2.err≠0→D.2.err=G.2.err:=by
  intro h
  rw[hD]
  unfold lensF
  rw[if_pos h]
 refine vcW_cut (y:=Cod.itables_11) hN (fun z:Nat×Nat=>⟨[(0,.vptr 65032 0),(7,.int .i64 nl),(16,.ro 1 (nats G.1)),(2000000,.vptr 65032 0)],stI s o most z.1 z.2 out⟩)
  (fun z=>RdOK s z.1 z.2 (8*o+G.2.p)∧G.2=⟨G.2.p,out,0⟩∧(∀n∈G.1,n≤15)∧G.1.length=N) (fun RX hRX=>?_) (fun z hz=>?_)
 ·simp(disch:=omega)only[go_sem,simprocAttr]
  refine vcW_loop hN (fun q:List Nat×Nat×Nat×Nat=>⟨[(0,.vptr 65032 0),(7,.int .i64 nl),(8,.int .i64 nd),(14,tblA fl),(16,.sl 62110 0 q.1.length),(2000000,.vptr 65032 0)],stI s o most q.2.1 q.2.2.1 out++[(62110,.arr 1 (nats q.1))]⟩)
   (fun q=>(∀n∈q.1,n≤15)∧q.1.length≤N∧RdOK s q.2.1 q.2.2.1 (8*o+q.2.2.2)∧∃k,N-q.1.length≤k∧lensS (s.drop o) fl N k q.1 ⟨q.2.2.2,out,0⟩=G) (fun q=>N-q.1.length) ([],a,hv,p)
   (.nil 16 62110 1 rfl (.le (by simp(disch:=omega)only[go_sem,simprocAttr,stI,rdA,tblA,nats_nil]))) ⟨by simp,by simp,hr,N,by simp,hG⟩ ?_
  clear hr hG
  rintro⟨l,a,hv,p⟩ R1 ⟨hl,hll,hr,k,hk,hg⟩ hR1
  simp only at hl hll hr hk hg
  have hnl:=nats_len l
  have htl:(s.drop o).length=s.length-o:=List.length_drop
  by_cases hlt:l.length<N
  ·have hlt2:(l.length:Int)<(nl:Int)+(nd:Int):=by omega
   obtain⟨k,rfl⟩:∃k',k=k'+1:=⟨k-1,by omega⟩
   rw[lens_succ,if_neg (by simp only;omega)]at hg
   have hread:=hread_ok fl hfl (by omega) hfc s a hv o (8*o+p) (by omega) hr
   rw[←rest_drop]at hread
   simp only[tblA]at hread
   generalize hre:readL (codesL fl) (restB (s.drop o) p)=re at *
   simp(disch:=omega)only[go_sem,simprocAttr,stI,tblA,hnl,hlt2]
   refine call_win [(RD,.var (rdA s a hv o))] hread (by simp(disch:=omega)only[go_sem,simprocAttr]) nofun ?_
   rintro h' v ar ⟨a2,hv2,p2,sy,hr2,rfl,rfl,hk2,rfl⟩
   refine⟨by simp(disch:=omega)only[go_sem,simprocAttr,rdA],rfl,?_⟩
   by_cases hre2:re.2.2=0
   ·obtain⟨rfl,rfl⟩:=hk2 hre2
    have hsym:symS (s.drop o) fl ⟨p,out,0⟩=(re.1,⟨p+re.2.1,out,0⟩):=by
     have:=sym_ok (t:=s.drop o) (l:=fl) (S:=⟨p,out,0⟩) rfl (by simp only;rw[hre];exact hre2)
     simp only[hre]at this
     exact this
    rw[hsym]at hg
    simp only at hg
    have hslt:re.1<19:=by
     have:=read_bits (codesL fl) (restB (s.drop o) p) (by rw[hre];exact hre2)
     rw[hre]at this
     have hcl:(codesL fl).length=fl.length:=by simp[codesL]
     omega
    rw[show 8*o+p+re.2.1=8*o+(p+re.2.1)by omega]at hr2
    generalize p+re.2.1=p2 at *
    generalize re.1=sy at *
    by_cases h16:sy<16
    ·have ht:timesS (s.drop o) l sy ⟨p2,out,0⟩=(1,sy,⟨p2,out,0⟩):=by unfold timesS;rw[if_neg (by omega),if_neg (by omega),if_neg (by omega)]
     have hov:overS N l (1,sy,⟨p2,out,0⟩)=⟨p2,out,0⟩:=by unfold overS;rw[if_neg (by simp only;omega)]
     rw[ht,hov,if_neg (by simp)]at hg
     simp only at hg
     have hsb:sub3 (nats l) 0 l.length=nats l:=nats_take
     simp(disch:=omega)only[go_sem,simprocAttr,hre2,hnl,hsb,nats_cells]
     refine hR1 (l++[sy],a2,hv2,p2) _ (by simp only[List.length_append,List.length_singleton];omega) ⟨?_,?_,hr2,k,?_,hg⟩ (.le (by rw[nats_app];simp(disch:=omega)only[go_sem,simprocAttr,stI,rdA,tblA,List.length_append,List.length_singleton]))
     ·intro n hn
      rcases List.mem_append.1 hn with hn | hn
      ·exact hl n hn
      ·rw[List.mem_singleton.1 hn];omega
     ·simp only[List.length_append,List.length_singleton];omega
     ·simp only[List.length_append,List.length_singleton];omega
    ·simp(disch:=omega)only[go_sem,simprocAttr,hre2]
     refine vcW_cut (y:=Cod.itables_26) hN (fun z:Nat×Nat×Nat=>⟨[(0,.vptr 65032 0),(7,.int .i64 nl),(8,.int .i64 nd),(14,tblA fl),(16,.sl 62110 0 l.length),(19,.int .i64 z.1),(20,.int .i64 z.2.1),(21,.int .i64 z.2.2),(2000000,.vptr 65032 0)],stI s o most a2 hv2 out++[(62110,.arr 1 (nats l))]⟩)
      (fun z=>z.1≤7∧1≤z.2.1∧z.2.1≤11∧z.2.2≤15∧timesS (s.drop o) l sy ⟨p2,out,0⟩=(z.2.1+(numS (s.drop o) z.1 ⟨p2,out,0⟩).1,z.2.2,(numS (s.drop o) z.1 ⟨p2,out,0⟩).2)) (fun R2 hR2=>?_) (fun z hz=>?_)
     ·by_cases e16:sy=16
      ·subst e16
       by_cases hle:l=[]
       ·subst hle
        have ht:timesS (s.drop o) [] 16 ⟨p2,out,0⟩=(0,0,⟨p2,out,3⟩):=by unfold timesS;rw[if_pos rfl,if_pos rfl,fail_of rfl]
        have hov:overS N [] (0,0,⟨p2,out,3⟩)=⟨p2,out,3⟩:=if_neg (by simp)
        rw[ht,hov,if_pos (by simp)]at hg
        simp(disch:=omega)only[go_sem,simprocAttr,nats_nil]
        exact pt_bad hR 3 (by rw[hbadG (by rw[←hg];simp),←hg]) (by decide) a2 hv2 (by simp(disch:=omega)only[go_sem,simprocAttr,stI,rdA])
       ·have hl0:0<l.length:=by cases l with | nil=>exact absurd rfl hle | cons=>simp
        have el:(l.length:Int)-1=((l.length-1:Nat):Int):=by omega
        have hz:¬((l.length:Int)=0):=by omega
        have hx:nth (nats l) (l.length-1)=.int .i64 (l.getD (l.length-1) 0:Nat):=nth_nats (by omega)
        have hx15:l.getD (l.length-1) 0≤15:=len15 hl _
        have ht:timesS (s.drop o) l 16 ⟨p2,out,0⟩=(3+(numS (s.drop o) 2 ⟨p2,out,0⟩).1,l.getD (l.length-1) 0,(numS (s.drop o) 2 ⟨p2,out,0⟩).2):=by unfold timesS;rw[if_pos rfl,if_neg hle]
        generalize l.getD (l.length-1) 0=x at *
        simp(disch:=omega)only[go_sem,simprocAttr,hnl,hz,el,hx]
        exact hR2 (2,3,x) _ ⟨by simp,by simp,by simp,hx15,ht⟩ (.le (by simp(disch:=omega)only[go_sem,simprocAttr,stI,rdA,tblA]))
      ·by_cases e17:sy=17
       ·subst e17
        simp(disch:=omega)only[go_sem,simprocAttr]
        exact hR2 (3,3,0) _ ⟨by decide,by decide,by decide,by decide,rfl⟩ (.le (by simp(disch:=omega)only[go_sem,simprocAttr,stI,rdA,tblA]))
       ·obtain rfl:sy=18:=by omega
        simp(disch:=omega)only[go_sem,simprocAttr]
        exact hR2 (7,11,0) _ ⟨by decide,by decide,by decide,by decide,rfl⟩ (.le (by simp(disch:=omega)only[go_sem,simprocAttr,stI,rdA,tblA]))
     ·obtain⟨nb,least,what⟩:=z
      simp only at hz ⊢
      obtain⟨g1,g0,g2,g3,g4⟩:=hz
      rw[g4]at hg
      refine it_cp s o most a2 hv2 N out l fl nl nd p2 nb least what D hN hs ho hR hr2 g1 g2 hNN hN1 hll (fun h=>?_) (fun n a' hv' st' hn hpl hlo hr3 hw=>?_)
      ·rw[if_pos h]at hg
       rw[hbadG (by rw[←hg];exact h),←hg]
      ·rw[num_ok rfl hpl]at hg
       simp only at hg
       rw[←hn]at hg
       have hov:overS N l (least+n,what,⟨p2+nb,out,0⟩)=⟨p2+nb,out,0⟩:=by unfold overS;rw[if_neg (by simp only;omega)]
       rw[hov,if_neg (by simp)]at hg
       refine hR1 (l++List.replicate (least+n) what,a',hv',p2+nb) _ (by simp only[List.length_append,List.length_replicate];omega) ⟨?_,?_,hr3,k,?_,hg⟩ hw
       ·intro n hn
        rcases List.mem_append.1 hn with hn | hn
        ·exact hl n hn
        ·rw[(List.mem_replicate.1 hn).2];exact g3
       ·simp only[List.length_append,List.length_replicate];omega
       ·simp only[List.length_append,List.length_replicate];omega
   ·have hsym:symS (s.drop o) fl ⟨p,out,0⟩=(0,⟨p,out,re.2.2⟩):=by
     have:=sym_no (t:=s.drop o) (l:=fl) (S:=⟨p,out,0⟩) rfl (by simp only;rw[hre];exact hre2)
     simp only[hre]at this
     exact this
    rw[hsym]at hg
    simp only at hg
    have ht:timesS (s.drop o) l 0 ⟨p,out,re.2.2⟩=(1,0,⟨p,out,re.2.2⟩):=by unfold timesS;rw[if_neg (by omega),if_neg (by omega),if_neg (by omega)]
    have hov:overS N l (1,0,⟨p,out,re.2.2⟩)=⟨p,out,re.2.2⟩:=by unfold overS;rw[if_neg (by simp only;omega)]
    rw[ht,hov,if_pos (by simpa using hre2)]at hg
    have hi:¬((re.2.2:Nat):Int)=0:=by omega
    simp(disch:=omega)only[go_sem,simprocAttr,hi]
    exact pt_bad hR re.2.2 (by rw[hbadG (by rw[←hg];exact hre2),←hg]) hre2 a2 hv2 (by simp(disch:=omega)only[go_sem,simprocAttr,stI,rdA])
  ·have hlt2:¬(l.length:Int)<(nl:Int)+(nd:Int):=by omega
   have hGe:(l,(⟨p,out,0⟩:SS))=G:=by
    rw[←hg]
    cases k with
    | zero=>rfl
    | succ k=>rw[lens_succ,if_pos (.inl (by omega))]
   subst hGe
   have hsb:sub3 (nats l) 0 l.length=nats l:=nats_take
   simp(disch:=omega)only[go_sem,simprocAttr,stI,hnl,hlt2]
   exact hRX (a,hv) _ ⟨hr,rfl,hl,by simp only;omega⟩ (.frz 62110 (.le (by simp(disch:=omega)only[go_sem,simprocAttr,stI,rdA,tblA,hsb])))
 ·obtain⟨a',hv'⟩:=z
  obtain⟨g1,g2,g3,g4⟩:=hz
  refine it_d s o most a' hv' out G.1 nl G.2.p D hN hR g3 h1 h2 (by omega) (by omega) g1 ?_
  rw[hD]
  unfold lensF
  rw[if_neg (by rw[g2];simp)]
  obtain⟨G1,G2⟩:=G
  simp only at g2
  rw[g2]
end Go.Proofs.YtlkmppkcbhodaaaGreatDoor.Pk
namespace Go.Proofs.YtlkmppkcbhodaaaGreatDoor.Pk
open Eng
set_option maxRecDepth 10000
set_option maxHeartbeats 2000000 in
theorem it_f (s:Bs) (o most a hv:Nat) (out:Bs) (nl nd nc p:Nat) (D:(List Nat×List Nat)×SS) {E:Env} {R:HP→AV→List AV→Prop} (hN:E.N≤1000000) (hs:s.length≤1000000000) (ho:o≤s.length)
    (hR:PostTo (PTo s o most out D) R) (hr:RdOK s a hv (8*o+p)) (h1:257≤nl) (h2:nl≤286) (h3:1≤nd) (h4:nd≤30) (hc:nc≤19)
    (hD:D=firstF (s.drop o) nl nd (firstS (s.drop o) nc nc (List.replicate 19 0) ⟨p,out,0⟩)) :
    vcW Tryz.prog E Cod.itables_6 (QT R) ⟨[(0,.vptr 65032 0),(7,.int .i64 nl),(8,.int .i64 nd),(9,.int .i64 nc),(10,.sl 62057 0 19),(2000000,.vptr 65032 0)],[(62057,.arr 1 (nats (List.replicate 19 0))),(40014,.var (rdA s a hv o)),(65032,.var [.vptr 40014 0,.sl 60022 0 out.length,.int .i64 most]),(60022,.arr 1 (out.map ub))]⟩:=by
 generalize hG:firstS (s.drop o) nc nc (List.replicate 19 0) ⟨p,out,0⟩=G at hD
 have htl:(s.drop o).length=s.length-o:=List.length_drop
 have hbadG:G.2.err≠0→D.2.err=G.2.err:=by
  intro h
  rw[hD]
  unfold firstF
  rw[if_pos h]
 refine vcW_cut (y:=Cod.itables_7) hN (fun z:Nat×Nat=>⟨[(0,.vptr 65032 0),(7,.int .i64 nl),(8,.int .i64 nd),(10,.ro 1 (nats G.1)),(2000000,.vptr 65032 0)],stI s o most z.1 z.2 out⟩)
  (fun z=>RdOK s z.1 z.2 (8*o+G.2.p)∧G.2=⟨G.2.p,out,0⟩∧(∀n∈G.1,n≤15)∧G.1.length=19) (fun RX hRX=>?_) (fun z hz=>?_)
 ·simp(disch:=omega)only[go_sem,simprocAttr,stI]
  refine vcW_loop hN (fun q:Nat×List Nat×Nat×Nat×Nat=>⟨[(0,.vptr 65032 0),(7,.int .i64 nl),(8,.int .i64 nd),(10,.sl 62057 0 19),(58,.int .i64 nc),(59,.int .i64 q.1),(2000000,.vptr 65032 0)],stI s o most q.2.2.1 q.2.2.2.1 out++[(62057,.arr 1 (nats q.2.1))]⟩)
   (fun q=>q.1≤nc∧(∀n∈q.2.1,n≤15)∧q.2.1.length=19∧RdOK s q.2.2.1 q.2.2.2.1 (8*o+q.2.2.2.2)∧firstS (s.drop o) nc (nc-q.1) q.2.1 ⟨q.2.2.2.2,out,0⟩=G) (fun q=>nc-q.1) (0,List.replicate 19 0,a,hv,p)
   (.le (by simp(disch:=omega)only[go_sem,simprocAttr,stI])) ⟨by simp,by simp,by simp,hr,hG⟩ ?_
  clear hr hG
  rintro⟨j,l,a,hv,p⟩ R1 ⟨hj,hl,hll,hr,hg⟩ hR1
  simp only at hj hl hll hr hg
  have hnl:=nats_len l
  by_cases hlt:j<nc
  ·obtain⟨m,hm⟩:∃m,nc-j=m+1:=⟨nc-j-1,by omega⟩
   rw[hm,firstS_succ,if_neg (by simp),show nc-(m+1)=j by omega]at hg
   have hpl:=places_lt j (by omega)
   have hx:nth (nats placesL) j=.int .i64 (placesL.getD j 0:Nat):=nth_nats (by have:placesL.length=19:=rfl;omega)
   have hpn:(nats placesL).length=19:=rfl
   have hx2:(nats placesL).getD j .undef=.int .i64 (placesL.getD j 0:Nat):=by
    have hl:j<placesL.length:=by have:placesL.length=19:=rfl;omega
    simp[nats,List.getD_eq_getElem?_getD,hl]
   have hord:=iorder_ok
   unfold ordA at hord
   generalize placesL.getD j 0=pj at *
   have hb:=rbits_d s o p a hv 3 hs hr (by omega)
   have hxl:nth (nats l) pj=.int .i64 (l.getD pj 0:Nat):=nth_nats (by omega)
   simp(disch:=omega)only[go_sem,simprocAttr,stI]
   refine call_win [(RD,.var (rdA s a hv o))] hb (by simp(disch:=omega)only[go_sem,simprocAttr]) nofun ?_
   rintro h' v ar ⟨a1,hv1,hr1,rfl,rfl,rfl⟩
   by_cases hf:3≤8*(s.drop o).length-p
   ·rw[if_pos hf]at hr1
    rw[if_pos hf,decide_eq_true hf]
    rw[num_ok rfl (by simp only;omega)]at hg
    simp only at hg
    have hlt3:=num_lt (s.drop o) p 3
    generalize numAt (s.drop o) p 3=x at *
    refine⟨by simp(disch:=omega)only[go_sem,simprocAttr,rdA],rfl,?_⟩
    simp(disch:=omega)only[go_sem,simprocAttr]
    refine call_ro hord rfl rfl ?_
    simp(disch:=omega)only[go_sem,simprocAttr,hx2,hpn,hnl,hll,hxl,nats_set]
    refine hR1 (j+1,l.set pj x,a1,hv1,p+3) _ (by simp only;omega) ⟨hlt,?_,by simp[hll],hr1,by simp only;rw[show nc-(j+1)=m by omega];exact hg⟩ (.le (by simp(disch:=omega)only[go_sem,simprocAttr,stI,rdA]))
    intro n hn
    rcases List.mem_or_eq_of_mem_set hn with hn | hn
    ·exact hl n hn
    ·omega
   ·rw[if_neg hf]at hr1
    rw[if_neg hf,decide_eq_false hf]
    rw[num_no rfl (by simp only;omega)]at hg
    simp only at hg
    rw[firstS_err _ _ _ _ _ (by simp)]at hg
    refine⟨by simp(disch:=omega)only[go_sem,simprocAttr,rdA],rfl,?_⟩
    simp(disch:=omega)only[go_sem,simprocAttr]
    exact pt_bad hR 6 (by rw[hbadG (by rw[←hg];simp),←hg]) (by decide) a1 hv1 (by simp(disch:=omega)only[go_sem,simprocAttr,stI,rdA])
  ·obtain rfl:j=nc:=by omega
   rw[Nat.sub_self]at hg
   have hGe:(l,(⟨p,out,0⟩:SS))=G:=hg
   subst hGe
   have hsub:sub3 (nats l) 0 19=nats l:=by rw[←hll];exact nats_take
   simp(disch:=omega)only[go_sem,simprocAttr,stI]
   exact hRX (a,hv) _ ⟨hr,rfl,hl,hll⟩ (.frz 62057 (.le (by simp(disch:=omega)only[go_sem,simprocAttr,stI,rdA,hsub])))
 ·obtain⟨a',hv'⟩:=z
  obtain⟨g1,g2,g3,g4⟩:=hz
  simp only at g1 g2 g3 g4 ⊢
  have n1:=hnew_ok G.1 g3 (by omega)
  unfold firstF at hD
  rw[if_neg (by rw[g2];simp)]at hD
  cases hck:chkL G.1 with
  | false=>
   rw[hck,if_neg (by decide)]at n1
   rw[if_pos hck]at hD
   simp(disch:=omega)only[go_sem,simprocAttr,stI]
   refine call_ro' n1 rfl ?_
   rintro h' v as' ⟨rfl,rfl⟩
   refine⟨rfl,rfl,?_⟩
   simp(disch:=omega)only[go_sem,simprocAttr]
   exact pt_bad hR 3 (by rw[hD]) (by decide) a' hv' (by simp(disch:=omega)only[go_sem,simprocAttr,stI,rdA])
  | true=>
   rw[hck,if_pos rfl]at n1
   rw[if_neg (by rw[hck];decide),g2]at hD
   have hb:=it_b s o most a' hv' out G.1 nl nd G.2.p D (E:=E) (R:=R) hN hs ho hR g1 g3 g4 hck h1 h2 h3 h4 hD
   simp(disch:=omega)only[go_sem,simprocAttr,stI]
   refine call_ro' n1 rfl ?_
   rintro h' v as' ⟨rfl,rfl⟩
   refine⟨rfl,rfl,?_⟩
   simp only[stI,tblA]at hb
   simp(disch:=omega)only[go_sem,simprocAttr,tblA]
   exact hb
theorem and31 {n:Nat} (h:n<65536):bits .and .u32 (n:Int) 31=((n%32:Nat):Int):=by
 show IntKind.u32.wrap ((BitVec.ofInt 32 (n:Int) &&& BitVec.ofInt 32 ((31:Nat):Int)).toNat:Int)=_
 rw[BitVec.ofInt_natCast,BitVec.ofInt_natCast,BitVec.toNat_and,BitVec.toNat_ofNat,BitVec.toNat_ofNat,Nat.mod_eq_of_lt (by omega),Nat.mod_eq_of_lt (by decide),show(31:Nat)=2^5-1 from rfl,Nat.and_two_pow_sub_one_eq_mod]
 exact wrap_u32 (by omega)
theorem fdiv_pow (x k:Nat) (h:k≤32):(x:Int).fdiv (2^min k 32)=((x/2^k:Nat):Int):=by
 rw[Nat.min_eq_left h,Int.fdiv_eq_ediv_of_nonneg _ (by exact_mod_cast Nat.zero_le (2^k))]
 norm_cast
set_option maxHeartbeats 1000000 in
theorem itables_ok (s:Bs) (o most a hv:Nat) (S:SS) (hs:s.length≤1000000000) (ho:o≤s.length) (hm:most≤1000000) (hr:RdOK s a hv (8*o+S.p)) (hol:S.out.length≤most) (he:S.err=0) :
    Eng.Spec Tryz.prog 163 (stI s o most a hv S.out) [.vptr IST 0] (fun h' v ar=>PT s o most S.out (dynS (s.drop o) S) h' v∧ar=[.vptr IST 0]):=by
 refine Cod.itables_spec (fun E R hN hR=>?_)
 have htl:(s.drop o).length=s.length-o:=List.length_drop
 have hb:=rbits_d s o S.p a hv 14 hs hr (by omega)
 rw[dynS_eq]at hR
 obtain⟨p,out,err⟩:=S
 simp only at he hr hol hb hR ⊢
 subst he
 simp(disch:=omega)only[go_sem,simprocAttr,stI]
 refine call_win [(RD,.var (rdA s a hv o))] hb (by simp(disch:=omega)only[go_sem,simprocAttr]) nofun ?_
 rintro h' v ar ⟨a1,hv1,hr1,rfl,rfl,rfl⟩
 by_cases h14:14≤8*(s.drop o).length-p
 ·rw[if_pos h14]at hr1
  rw[if_pos h14,decide_eq_true h14]
  rw[if_neg (by omega)]at hR
  refine⟨by simp(disch:=omega)only[go_sem,simprocAttr,rdA],rfl,?_⟩
  have hlt:=num_lt (s.drop o) p 14
  have m5:=num_mod (s.drop o) p (m:=5) (n:=14) (by decide)
  have d5:=num_div (s.drop o) p (m:=5) (n:=14) (by decide)
  have d10:=num_div (s.drop o) p (m:=10) (n:=14) (by decide)
  have m55:=num_mod (s.drop o) (p+5) (m:=5) (n:=9) (by decide)
  generalize numAt (s.drop o) p 14=x at *
  have f5:=fdiv_pow x 5 (by decide)
  have f10:=fdiv_pow x 10 (by decide)
  have c1:=and31 (n:=x) (by omega)
  have c2:=and31 (n:=x/2^5) (by omega)
  have w1:x%32=numAt (s.drop o) p 5:=m5
  have w2:x/2^5%32=numAt (s.drop o) (p+5) 5:=by rw[d5];exact m55
  have w3:x/2^10=numAt (s.drop o) (p+10) 4:=d10
  rw[←w1,←w2,←w3]at hR
  have b1:x%32<32:=Nat.mod_lt _ (by decide)
  have b2:x/2^5%32<32:=Nat.mod_lt _ (by decide)
  have b3:x/2^10<16:=by omega
  generalize x%32=y1 at *
  generalize x/2^5%32=y2 at *
  generalize x/2^10=y3 at *
  have bad:(286<y1+257∨30<y2+1)→R [(40014,Win.var (rdA s a1 hv1 o)),(65032,Win.var [AV.vptr 40014 0,AV.sl 60022 0 (List.length out),AV.int IntKind.i64 ↑most]),(60022,Win.arr 1 (List.map ub out))] (.tup [.lit (.pointer none),.lit (.pointer none),.int .i64 3]) [.vptr 65032 0]:=by
   intro hx
   rw[if_pos hx]at hR
   exact pt_bad hR 3 rfl (by decide) a1 hv1 (by simp(disch:=omega)only[go_sem,simprocAttr,stI,rdA])
  by_cases hx1:286<y1+257
  ·have bad:=bad (.inl hx1)
   simp(disch:=omega)only[go_sem,simprocAttr,f5,f10,c1,c2]
   (repeat(first | refine gskip_of ?_ | refine gcskip_of ?_ | refine gopen_of ?_)<;>simp(disch:=omega)only[go_sem,simprocAttr])
   exact bad
  ·by_cases hx2:30<y2+1
   ·have bad:=bad (.inr hx2)
    simp(disch:=omega)only[go_sem,simprocAttr,f5,f10,c1,c2]
    (repeat(first | refine gskip_of ?_ | refine gcskip_of ?_ | refine gopen_of ?_)<;>simp(disch:=omega)only[go_sem,simprocAttr])
    exact bad
   ·rw[if_neg (by omega)]at hR
    clear bad
    have hf:=it_f s o most a1 hv1 out (y1+257) (y2+1) (y3+4) (p+14) _ (E:=E) (R:=R) hN hs ho hR hr1 (by omega) (by omega) (by omega) (by omega) (by omega) rfl
    clear hR
    simp(disch:=omega)only[go_sem,simprocAttr,f5,f10,c1,c2]
    (repeat(first | refine gskip_of ?_ | refine gcskip_of ?_ | refine gopen_of ?_)<;>simp(disch:=omega)only[go_sem,simprocAttr])
    simp only[rdA]at hf
    simp(disch:=omega)only[go_sem,simprocAttr,rdA]
    exact hf
 ·rw[if_neg h14]at hr1
  rw[if_neg h14,decide_eq_false h14]
  rw[if_pos (by omega)]at hR
  refine⟨by simp(disch:=omega)only[go_sem,simprocAttr,rdA],rfl,?_⟩
  simp(disch:=omega)only[go_sem,simprocAttr]
  exact pt_bad hR 6 rfl (by decide) a1 hv1 (by simp(disch:=omega)only[go_sem,simprocAttr,stI,rdA])
end Go.Proofs.YtlkmppkcbhodaaaGreatDoor.Pk
namespace Go.Proofs.YtlkmppkcbhodaaaGreatDoor.Pk
open Eng
set_option maxRecDepth 10000
theorem and1 {n:Nat} (h:n<65536):bits .and .u32 (n:Int) 1=((n%2:Nat):Int):=by
 show IntKind.u32.wrap ((BitVec.ofInt 32 (n:Int) &&& BitVec.ofInt 32 ((1:Nat):Int)).toNat:Int)=_
 rw[BitVec.ofInt_natCast,BitVec.ofInt_natCast,BitVec.toNat_and,BitVec.toNat_ofNat,BitVec.toNat_ofNat,Nat.mod_eq_of_lt (by omega),Nat.mod_eq_of_lt (by decide),show(1:Nat)=2^1-1 from rfl,Nat.and_two_pow_sub_one_eq_mod]
 exact wrap_u32 (by omega)
abbrev QR (R:HP→AV→List AV→Prop):KQ:=KQ.post [.tmp 2] 1 R
abbrev PRo (s:Bs) (o most:Nat) (G:SS):HP→AV→List AV→Prop:=fun h' v ar=>PI s o most G h' v∧ar=[.vptr IST 0]
theorem pr_bad {s:Bs} {o most:Nat} {G:SS} {R:HP→AV→List AV→Prop} (hR:PostTo (PRo s o most G) R) (e:Nat) (he:G.err=e) (hne:e≠0) (a' hv':Nat) (out:Bs) {h:HP} (hh:leH h (stI s o most a' hv' out)) :
    R h (.int .i64 (e:Nat)) [.vptr 65032 0]:=
 hR.le (h':=stI s o most a' hv' out) hh ⟨⟨a',hv',out,rfl,by rw[he],fun h=>absurd h (by rw[he];exact hne)⟩,rfl⟩
def doneG (t:Bs) (most h:Nat) (S G:SS):Prop:=if h%2=1 then S=G else runS t most S=G
def contG (t:Bs) (most h:Nat) (S G:SS):Prop:=if S.err≠0 then G.err=S.err else doneG t most h S G
structure RSt where
 h:Nat
 l:List Nat
 d:List Nat
 a:Nat
 hv:Nat
 S:SS
def irF (s:Bs) (o most:Nat) (l:Nat) (z:RSt):St:=
 if l=0 then⟨[(0,.vptr 65032 0),(2000000,.vptr 65032 0)],stI s o most z.a z.hv z.S.out⟩
 else if l=1 then⟨[(0,.vptr 65032 0),(3,.int .u32 z.h),(2000000,.vptr 65032 0)],stI s o most z.a z.hv z.S.out⟩
 else⟨[(0,.vptr 65032 0),(3,.int .u32 z.h),(7,tblA z.l),(8,tblA z.d),(2000000,.vptr 65032 0)],stI s o most z.a z.hv z.S.out⟩
structure RB (s:Bs) (o most:Nat) (z:RSt):Prop where
 r:RdOK s z.a z.hv (8*o+z.S.p)
 e:z.S.err=0
 ol:z.S.out.length≤most
 hl:z.h<8
structure TB (l d:List Nat):Prop where
 l15:∀n∈l,n≤15
 d15:∀n∈d,n≤15
 ll:l.length≤320
 dl:d.length≤320
 lc:chkL l=true
 dc:chkL d=true
def irI (s:Bs) (o most:Nat) (G:SS) (l:Nat) (z:RSt):Prop:=
 RB s o most z∧(if l=0 then runS (s.drop o) most z.S=G else if l=1 then doneG (s.drop o) most z.h z.S G else if l=2 then TB z.l z.d∧contG (s.drop o) most z.h (packS (s.drop o) most z.l z.d z.S) G else False)
def irM (s:Bs) (o l:Nat) (z:RSt):Nat:=4*(8*(s.drop o).length+1-z.S.p)+min l 2
theorem RB.pl {s:Bs} {o most:Nat} {z:RSt} (h:RB s o most z):z.S.p≤8*(s.drop o).length:=by
 have:=h.r.h2;have:=h.r.h3
 rw[List.length_drop];omega
set_option maxHeartbeats 2000000 in
theorem irun_b (s:Bs) (o most:Nat) (G:SS) (z:RSt) {E:Env} {R:Nat→KS} {R0:HP→AV→List AV→Prop} (hN:E.N≤1000000) (hs:s.length≤1000000000) (ho:o≤s.length) (hm:most≤1000000) (hR:PostTo (PRo s o most G) R0) (hz:RB s o most z) (hg:runS (s.drop o) most z.S=G)
    (hJ:∀l' z' st',irM s o l' z'<irM s o 0 z→irI s o most G l' z'→Wk st' (irF s o most l' z')→(R l').ap st') :
    vcW Tryz.prog E Cod.irun_7 (KQ.jmps R (QR R0)) ⟨[(0,.vptr 65032 0),(2000000,.vptr 65032 0)],stI s o most z.a z.hv z.S.out⟩:=by
 have hpl:=hz.pl
 obtain⟨h,l,d,a,hv,S⟩:=z
 obtain⟨hr,he,hol,hh⟩:=hz
 simp only at hr he hol hh hg hpl ⊢
 rw[run_eq hpl]at hg
 have htl:(s.drop o).length=s.length-o:=List.length_drop
 have hb:=rbits_d s o S.p a hv 3 hs hr (by omega)
 simp(disch:=omega)only[go_sem,simprocAttr,stI]
 refine call_win [(RD,.var (rdA s a hv o))] hb (by simp(disch:=omega)only[go_sem,simprocAttr]) nofun ?_
 rintro h' v ar ⟨a1,hv1,hr1,rfl,rfl,rfl⟩
 by_cases h3:3≤8*(s.drop o).length-S.p
 ·rw[if_pos h3]at hr1
  rw[if_pos h3,decide_eq_true h3]
  have hbk:blockS (s.drop o) most S=_:=if_neg (show ¬8*(s.drop o).length<S.p+3 by omega)
  rw[hbk]at hg
  clear hbk
  have m1:=num_mod (s.drop o) S.p (m:=1) (n:=3) (by decide)
  have d1:=num_div (s.drop o) S.p (m:=1) (n:=3) (by decide)
  have hlt:=num_lt (s.drop o) S.p 3
  simp only at hg
  rw[←m1,show(2:Nat)=3-1 from rfl,←d1]at hg
  generalize numAt (s.drop o) S.p 3=x at *
  have f1:=fdiv_pow x 1 (by decide)
  refine⟨by simp(disch:=omega)only[go_sem,simprocAttr,rdA],rfl,?_⟩
  have hx1:x%2^1=x%2:=rfl
  have hx2:x/2^1=x/2:=rfl
  rw[hx1,hx2]at hg
  rw[hx2]at f1
  have hxl:x/2<4:=by omega
  -- the end of a block
  have hdone:∀S':SS,(if x/2=0 then storedS (s.drop o) most {S with p:=S.p+3} else if x/2=1 then packS (s.drop o) most fixL fixD {S with p:=S.p+3}
      else if x/2=2 then(if(dynS (s.drop o) {S with p:=S.p+3}).2.err≠0 then(dynS (s.drop o) {S with p:=S.p+3}).2 else packS (s.drop o) most (dynS (s.drop o) {S with p:=S.p+3}).1.1 (dynS (s.drop o) {S with p:=S.p+3}).1.2 (dynS (s.drop o) {S with p:=S.p+3}).2)else {S with p:=S.p+3,err:=3})=S' →
      contG (s.drop o) most x S' G:=by
   intro S' hS'
   rw[hS']at hg
   unfold contG
   by_cases hSe:S'.err=0
   ·rw[if_neg (by simpa using hSe)]
    unfold doneG
    by_cases hx:x%2=1
    ·rw[if_pos (.inr (by simpa using hx))]at hg
     rw[if_pos hx];exact hg
    ·rw[if_neg (fun h=>h.elim (fun h=>h hSe) (fun h=>hx (by simpa using h)))]at hg
     rw[if_neg hx];exact hg
   ·rw[if_pos (.inl hSe)]at hg
    rw[if_pos hSe,hg]
  clear hg
  have hr1':RdOK s a1 hv1 (8*o+(S.p+3)):=hr1
  simp(disch:=omega)only[go_sem,simprocAttr,f1]
  obtain hk | hk | hk | hk:x/2=0∨x/2=1∨x/2=2∨x/2=3:=by omega
  ·rw[hk]
   have hst:=istored_ok s o most a1 hv1 {S with p:=S.p+3} hs ho hm hr1' hol he
   have hc:=hdone _ (if_pos hk)
   have hmv:Mv (s.drop o) most {S with p:=S.p+3} (storedS (s.drop o) most {S with p:=S.p+3}):=mv_stored
   generalize storedS (s.drop o) most {S with p:=S.p+3}=F at *
   simp(disch:=omega)only[go_sem,simprocAttr]
   refine call_win (stI s o most a1 hv1 S.out) hst (by simp(disch:=omega)only[go_sem,simprocAttr,stI,rdA]) nofun ?_
   rintro h' v ar ⟨⟨a2,hv2,out2,rfl,rfl,hF⟩,rfl⟩
   refine⟨by simp(disch:=omega)only[go_sem,simprocAttr,stI,rdA],rfl,?_⟩
   unfold contG at hc
   by_cases hFe:F.err=0
   ·obtain⟨rfl,hr2⟩:=hF hFe
    rw[if_neg (by simpa using hFe)]at hc
    simp(disch:=omega)only[go_sem,simprocAttr,hFe]
    have h1:=hmv.p
    simp only at h1
    exact hJ 1 ⟨x,[],[],a2,hv2,F⟩ _ (by simp only[irM];omega) ⟨⟨hr2,hFe,hmv.o hol,by simp only;omega⟩,by rw[if_neg (by decide),if_pos rfl];exact hc⟩ (.le (by simp(disch:=omega)only[go_sem,simprocAttr,irF,stI,rdA]))
   ·rw[if_pos hFe]at hc
    have hi:¬((F.err:Nat):Int)=0:=by omega
    simp(disch:=omega)only[go_sem,simprocAttr,hi]
    exact pr_bad hR F.err hc hFe a2 hv2 out2 (by simp(disch:=omega)only[go_sem,simprocAttr,stI,rdA])
  ·rw[hk]
   have hc:=hdone _ ((if_neg (by omega)).trans (if_pos hk))
   simp(disch:=omega)only[go_sem,simprocAttr]
   refine call_ro ifixed_ok rfl rfl ?_
   simp(disch:=omega)only[go_sem,simprocAttr,tblA]
   refine hJ 2 ⟨x,fixL,fixD,a1,hv1,{S with p:=S.p+3}⟩ _ (by simp only[irM];omega) ⟨⟨hr1',he,hol,by simp only;omega⟩,?_⟩ (.le ?_)
   ·rw[if_neg (by decide),if_neg (by decide),if_pos rfl]
    exact⟨⟨fixL_ok.1,fixD_ok.1,by simp only;rw[fixL_ok.2.1];decide,by simp only;rw[fixD_ok.2.1];decide,fixL_ok.2.2,fixD_ok.2.2⟩,hc⟩
   ·simp(disch:=omega)only[go_sem,simprocAttr,irF,stI,rdA,tblA]
  ·rw[hk]
   have hit:=itables_ok s o most a1 hv1 {S with p:=S.p+3} hs ho hm hr1' hol he
   have hc:=hdone _ ((if_neg (by omega)).trans ((if_neg (by omega)).trans (if_pos hk)))
   have hmv:Mv (s.drop o) most {S with p:=S.p+3} (dynS (s.drop o) {S with p:=S.p+3}).2:=mv_dyn
   have hdo:=dyn_out (s.drop o) {S with p:=S.p+3}
   generalize dynS (s.drop o) {S with p:=S.p+3}=D at *
   simp(disch:=omega)only[go_sem,simprocAttr]
   refine call_win (stI s o most a1 hv1 S.out) hit (by simp(disch:=omega)only[go_sem,simprocAttr,stI,rdA]) nofun ?_
   rintro h' v ar ⟨⟨a2,hv2,rfl,hbad,hgood⟩,rfl⟩
   by_cases hDe:D.2.err=0
   ·obtain⟨rfl,hr2,hc1,hc2,hl1,hl2,hn1,hn2⟩:=hgood hDe
    rw[if_neg (by simpa using hDe)]at hc
    refine⟨by simp(disch:=omega)only[go_sem,simprocAttr,stI,rdA],rfl,?_⟩
    simp(disch:=omega)only[go_sem,simprocAttr,stI,rdA,tblA]
    have h1:=hmv.p
    simp only at h1 hdo
    refine hJ 2 ⟨x,D.1.1,D.1.2,a2,hv2,D.2⟩ _ (by simp only[irM];omega) ⟨⟨hr2,hDe,by simp only;rw[hdo];exact hol,by simp only;omega⟩,?_⟩ (.le ?_)
    ·rw[if_neg (by decide),if_neg (by decide),if_pos rfl]
     exact⟨⟨hl1,hl2,by simp only;omega,hn2,hc1,hc2⟩,hc⟩
    ·simp(disch:=omega)only[go_sem,simprocAttr,irF,stI,rdA,tblA,hdo]
   ·obtain rfl:=hbad hDe
    rw[if_pos hDe]at hc
    unfold contG at hc
    rw[if_pos hDe]at hc
    refine⟨by simp(disch:=omega)only[go_sem,simprocAttr,stI,rdA],rfl,?_⟩
    have hi:¬((D.2.err:Nat):Int)=0:=by omega
    simp(disch:=omega)only[go_sem,simprocAttr,hi,tblN]
    exact pr_bad hR D.2.err hc hDe a2 hv2 S.out (by simp(disch:=omega)only[go_sem,simprocAttr,stI,rdA])
  ·rw[hk]
   have hc:=hdone _ ((if_neg (by omega)).trans ((if_neg (by omega)).trans (if_neg (by omega))))
   unfold contG at hc
   rw[if_pos (by simp)]at hc
   simp(disch:=omega)only[go_sem,simprocAttr]
   exact pr_bad hR 3 hc (by decide) a1 hv1 S.out (by simp(disch:=omega)only[go_sem,simprocAttr,stI,rdA])
 ·rw[if_neg h3]at hr1
  rw[if_neg h3,decide_eq_false h3]
  have hbk:blockS (s.drop o) most S=(true,{S with err:=6}):=if_pos (show 8*(s.drop o).length<S.p+3 by omega)
  rw[hbk,if_pos (.inl (by simp))]at hg
  refine⟨by simp(disch:=omega)only[go_sem,simprocAttr,rdA],rfl,?_⟩
  simp(disch:=omega)only[go_sem,simprocAttr]
  exact pr_bad hR 6 (by rw[←hg]) (by decide) a1 hv1 S.out (by simp(disch:=omega)only[go_sem,simprocAttr,stI,rdA])
set_option maxHeartbeats 2000000 in
theorem irun_s (s:Bs) (o most:Nat) (G:SS) (z:RSt) {E:Env} {R:Nat→KS} {R0:HP→AV→List AV→Prop} (hN:E.N≤1000000) (hs:s.length≤1000000000) (ho:o≤s.length) (hm:most≤1000000) (hR:PostTo (PRo s o most G) R0) (hz:RB s o most z) (ht:TB z.l z.d) (hg:contG (s.drop o) most z.h (packS (s.drop o) most z.l z.d z.S) G)
    (hJ:∀l' z' st',irM s o l' z'<irM s o 2 z→irI s o most G l' z'→Wk st' (irF s o most l' z')→(R l').ap st') :
    vcW Tryz.prog E (.seq .skip Cod.irun_11) (KQ.jmps R (QR R0)) ⟨[(0,.vptr 65032 0),(3,.int .u32 z.h),(7,tblA z.l),(8,tblA z.d),(2000000,.vptr 65032 0)],stI s o most z.a z.hv z.S.out⟩:=by
 have hpl:=hz.pl
 obtain⟨h,l,d,a,hv,S⟩:=z
 obtain⟨hr,he,hol,hh⟩:=hz
 simp only at hr he hol hh hg hpl ht ⊢
 rw[pack_eq hpl,if_neg (by simpa using he)]at hg
 have htl:(s.drop o).length=s.length-o:=List.length_drop
 have hread:=hread_ok l ht.l15 ht.ll ht.lc s a hv o (8*o+S.p) (by omega) hr
 rw[←rest_drop]at hread
 simp only[tblA]at hread
 generalize hre:readL (codesL l) (restB (s.drop o) S.p)=re at *
 simp(disch:=omega)only[go_sem,simprocAttr,stI,tblA]
 refine call_win [(RD,.var (rdA s a hv o))] hread (by simp(disch:=omega)only[go_sem,simprocAttr]) nofun ?_
 rintro h' v ar ⟨a2,hv2,p2,sy,hr2,rfl,rfl,hk2,rfl⟩
 refine⟨by simp(disch:=omega)only[go_sem,simprocAttr,rdA],rfl,?_⟩
 by_cases hre2:re.2.2=0
 ·obtain⟨rfl,rfl⟩:=hk2 hre2
  have hsym:symS (s.drop o) l S=(re.1,{S with p:=S.p+re.2.1}):=by
   have:=sym_ok (t:=s.drop o) (l:=l) (S:=S) he (by rw[hre];exact hre2)
   simp only[hre]at this
   exact this
  have hrb:=read_bits (codesL l) (restB (s.drop o) S.p) (by rw[hre];exact hre2)
  rw[hre,rest_len]at hrb
  have hcl:(codesL l).length=l.length:=by simp[codesL]
  have hll:=ht.ll
  rw[show 8*o+S.p+re.2.1=8*o+(S.p+re.2.1)by omega]at hr2
  have hst:stepS (s.drop o) most l d S=(if re.1=256 then(true,{S with p:=S.p+re.2.1})else if re.1<256 then(false,putS most (UInt8.ofNat re.1) {S with p:=S.p+re.2.1})else(false,repS (s.drop o) most d re.1 {S with p:=S.p+re.2.1})):=by
   unfold stepS
   rw[hsym]
   exact if_neg (by simpa using he)
  rw[hst]at hg
  have hp2:S.p<S.p+re.2.1∧S.p+re.2.1≤8*(s.drop o).length:=by omega
  generalize S.p+re.2.1=p2 at *
  have hsy:re.1≤320:=by omega
  generalize re.1=sy at *
  by_cases h256:sy=256
  ·rw[if_pos h256,if_pos rfl]at hg
   unfold contG at hg
   rw[if_neg (by simpa using he)]at hg
   simp(disch:=omega)only[go_sem,simprocAttr,hre2,h256]
   refine hJ 1 ⟨h,[],[],a2,hv2,{S with p:=p2}⟩ _ (by simp only[irM];omega) ⟨⟨hr2,he,hol,hh⟩,?_⟩ (.le ?_)
   ·rw[if_neg (by decide),if_pos rfl];exact hg
   ·simp(disch:=omega)only[go_sem,simprocAttr,irF,stI,rdA]
  ·rw[if_neg h256]at hg
   have hi:¬((sy:Nat):Int)=256:=by omega
   simp(disch:=omega)only[go_sem,simprocAttr,hre2,hi]
   -- behind the symbol
   refine vcW_cut (y:=Cod.irun_14) hN (fun y:Nat×Nat×Bs×SS=>⟨[(0,.vptr 65032 0),(3,.int .u32 h),(5,.int .i64 y.2.2.2.err),(7,tblA l),(8,tblA d),(2000000,.vptr 65032 0)],stI s o most y.1 y.2.1 y.2.2.1⟩)
    (fun y=>Mv (s.drop o) most {S with p:=p2} y.2.2.2∧contG (s.drop o) most h (packS (s.drop o) most l d y.2.2.2) G∧(y.2.2.2.err=0→y.2.2.1=y.2.2.2.out∧RdOK s y.1 y.2.1 (8*o+y.2.2.2.p))) (fun R2 hR2=>?_) (fun y hy=>?_)
   ·by_cases hlt:sy<256
    ·rw[if_pos hlt,if_neg (by simp)]at hg
     simp only at hg
     have hput:=iput_ok s o most a2 hv2 S.out hm hol (UInt8.ofNat sy)
     have hmv:Mv (s.drop o) most {S with p:=p2} (putS most (UInt8.ofNat sy) {S with p:=p2}):=mv_put
     have hF:putS most (UInt8.ofNat sy) {S with p:=p2}=⟨p2,if S.out.length=most then S.out else S.out++[UInt8.ofNat sy],if S.out.length=most then 2 else 0⟩:=by
      unfold putS
      rw[if_neg (by simpa using he)]
      simp only
      by_cases hf:S.out.length=most
      ·rw[if_pos (by omega),if_pos hf,if_pos hf]
      ·rw[if_neg (by omega),if_neg hf,if_neg hf,he]
     have hb:((UInt8.ofNat sy).toNat:Int)=(sy:Int):=by rw[UInt8.toNat_ofNat'];omega
     rw[hb]at hput
     generalize putS most (UInt8.ofNat sy) {S with p:=p2}=F at *
     have hF1:F.out=(if S.out.length=most then S.out else S.out++[UInt8.ofNat sy]):=by rw[hF]
     have hF2:F.err=(if S.out.length=most then 2 else 0):=by rw[hF]
     have hF3:F.p=p2:=by rw[hF]
     rw[←hF1,←hF2]at hput
     clear hF hF1
     have hlt2:((sy:Nat):Int)<256:=by omega
     simp(disch:=omega)only[go_sem,simprocAttr,hlt2]
     refine call_win (stI s o most a2 hv2 S.out) hput (by simp(disch:=omega)only[go_sem,simprocAttr,stI,rdA]) nofun ?_
     rintro h' v ar ⟨rfl,rfl,rfl⟩
     refine⟨by simp(disch:=omega)only[go_sem,simprocAttr,stI,rdA],rfl,?_⟩
     simp(disch:=omega)only[go_sem,simprocAttr,stI,rdA,tblA]
     exact hR2 (a2,hv2,F.out,F) _ ⟨hmv,hg,fun _=>⟨rfl,by rw[hF3];exact hr2⟩⟩ (.le (by simp(disch:=omega)only[go_sem,simprocAttr,stI,rdA,tblA]))
    ·rw[if_neg hlt,if_neg (by simp)]at hg
     simp only at hg
     have hrp:=irepeat_ok s o most a2 hv2 {S with p:=p2} d sy hs ho hm hr2 hol he ht.d15 ht.dl ht.dc (by omega) (by omega)
     have hmv:Mv (s.drop o) most {S with p:=p2} (repS (s.drop o) most d sy {S with p:=p2}):=mv_rep
     generalize repS (s.drop o) most d sy {S with p:=p2}=F at *
     have hlt2:¬((sy:Nat):Int)<256:=by omega
     simp only[tblA]at hrp
     simp(disch:=omega)only[go_sem,simprocAttr,hlt2,tblA]
     refine call_win (stI s o most a2 hv2 S.out) hrp (by simp(disch:=omega)only[go_sem,simprocAttr,stI,rdA]) nofun ?_
     rintro h' v ar ⟨⟨a3,hv3,out3,rfl,rfl,hF⟩,rfl⟩
     refine⟨by simp(disch:=omega)only[go_sem,simprocAttr,stI,rdA],rfl,?_⟩
     simp(disch:=omega)only[go_sem,simprocAttr,stI,rdA,tblA]
     exact hR2 (a3,hv3,out3,F) _ ⟨hmv,hg,hF⟩ (.le (by simp(disch:=omega)only[go_sem,simprocAttr,stI,rdA,tblA]))
   ·obtain⟨a3,hv3,out3,F⟩:=y
    obtain⟨g1,g2,g3⟩:=hy
    simp only at g1 g2 g3 ⊢
    by_cases hFe:F.err=0
    ·obtain⟨rfl,hr3⟩:=g3 hFe
     simp(disch:=omega)only[go_sem,simprocAttr,hFe,tblA]
     have h1:=g1.p
     have h2:=g1.q hp2.2
     simp only at h1
     refine hJ 2 ⟨h,l,d,a3,hv3,F⟩ _ (by simp only[irM];omega) ⟨⟨hr3,hFe,g1.o hol,hh⟩,?_⟩ (.le ?_)
     ·rw[if_neg (by decide),if_neg (by decide),if_pos rfl]
      exact⟨ht,g2⟩
     ·simp(disch:=omega)only[go_sem,simprocAttr,irF,stI,rdA,tblA]
    ·rw[show packS (s.drop o) most l d F=F from pack_err _ hFe]at g2
     unfold contG at g2
     rw[if_pos hFe]at g2
     have hi:¬((F.err:Nat):Int)=0:=by omega
     simp(disch:=omega)only[go_sem,simprocAttr,hi,tblA]
     exact pr_bad hR F.err g2 hFe a3 hv3 out3 (by simp(disch:=omega)only[go_sem,simprocAttr,stI,rdA])
 ·have hsym:symS (s.drop o) l S=(0,{S with err:=re.2.2}):=by
   have:=sym_no (t:=s.drop o) (l:=l) (S:=S) he (by rw[hre];exact hre2)
   simp only[hre]at this
   exact this
  have hst:stepS (s.drop o) most l d S=(true,{S with err:=re.2.2}):=by
   unfold stepS
   rw[hsym]
   exact if_pos hre2
  rw[hst,if_pos rfl]at hg
  unfold contG at hg
  rw[if_pos hre2]at hg
  have hi:¬((re.2.2:Nat):Int)=0:=by omega
  simp(disch:=omega)only[go_sem,simprocAttr,hi]
  exact pr_bad hR re.2.2 hg hre2 a2 hv2 S.out (by simp(disch:=omega)only[go_sem,simprocAttr,stI,rdA])
set_option maxHeartbeats 1000000 in
theorem irun_ok (s:Bs) (o most a hv:Nat) (S:SS) (hs:s.length≤1000000000) (ho:o≤s.length) (hm:most≤1000000) (hr:RdOK s a hv (8*o+S.p)) (hol:S.out.length≤most) (he:S.err=0) :
    Eng.Spec Tryz.prog 120 (stI s o most a hv S.out) [.vptr IST 0] (fun h' v ar=>PI s o most (runS (s.drop o) most S) h' v∧ar=[.vptr IST 0]):=by
 refine Cod.irun_spec (fun E R hN hR=>?_)
 generalize hG:runS (s.drop o) most S=G at *
 simp(disch:=omega)only[go_sem,simprocAttr,stI]
 refine vcW_scopes hN (irF s o most) (irI s o most G) (irM s o) (fun R1 hR1=>?_) (fun l z hz=>?_)
 ·simp(disch:=omega)only[go_sem,simprocAttr]
  refine vcW_cut (y:=Cod.irun_7) hN (fun _:Unit=>⟨[(0,.vptr 65032 0),(2000000,.vptr 65032 0)],stI s o most a hv S.out⟩) (fun _=>True) (fun R2 hR2=>?_) (fun _ _=>?_)
  ·simp(disch:=omega)only[go_sem,simprocAttr]
   exact hR2 () _ trivial (.le (by simp(disch:=omega)only[go_sem,simprocAttr,stI,rdA]))
  ·exact irun_b s o most G ⟨0,[],[],a,hv,S⟩ hN hs ho hm hR ⟨hr,he,hol,by simp⟩ hG (fun l' z' st' _ h1 h2=>hR1 l' z' st' h1 h2)
 ·obtain⟨h1,h2⟩:=hz
  by_cases l0:l=0
  ·subst l0
   rw[if_pos rfl]at h2
   refine⟨.seq .skip (.mid Cod.irun_7),rfl,fun R1 hR1=>?_⟩
   simp(disch:=omega)only[go_sem,simprocAttr,irF]
   refine vcW_mid hN ?_
   exact irun_b s o most G z hN hs ho hm hR h1 h2 hR1
  ·rw[if_neg l0]at h2
   by_cases l1:l=1
   ·subst l1
    rw[if_pos rfl]at h2
    refine⟨.seq .skip Cod.irun_17,rfl,fun R1 hR1=>?_⟩
    have ha:=and1 (n:=z.h) (by have:=h1.hl;omega)
    unfold doneG at h2
    by_cases hx:z.h%2=1
    ·rw[if_pos hx]at h2
     have hi:¬((z.h%2:Nat):Int)=0:=by omega
     simp(disch:=omega)only[go_sem,simprocAttr,irF,ha,hi,stI]
     refine hR.le (h':=stI s o most z.a z.hv z.S.out) (by simp(disch:=omega)only[go_sem,simprocAttr,stI,rdA]) ⟨⟨z.a,z.hv,z.S.out,rfl,?_,fun _=>by rw[←h2];exact⟨rfl,h1.r⟩⟩,rfl⟩
     rw[←h2,h1.e];rfl
    ·rw[if_neg hx]at h2
     have hi:((z.h%2:Nat):Int)=0:=by omega
     simp(disch:=omega)only[go_sem,simprocAttr,irF,ha,hi,stI]
     refine hR1 0 z _ (by simp only[irM];omega) ⟨h1,by rw[if_pos rfl];exact h2⟩ (.le ?_)
     simp(disch:=omega)only[go_sem,simprocAttr,irF,stI,rdA]
   ·rw[if_neg l1]at h2
    by_cases l2:l=2
    ·subst l2
     rw[if_pos rfl]at h2
     exact⟨.seq .skip Cod.irun_11,rfl,fun R1 hR1=>irun_s s o most G z hN hs ho hm hR h1 h2.1 h2.2 hR1⟩
    ·rw[if_neg l2]at h2
     exact h2.elim
end Go.Proofs.YtlkmppkcbhodaaaGreatDoor.Pk
namespace Go.Proofs.YtlkmppkcbhodaaaGreatDoor.Pk
open Eng
set_option maxRecDepth 10000
theorem bnew_okR (s:Bs) (a:Nat) (hs:s.length≤1000000000000) (ha:a≤s.length):Eng.Spec Tryz.prog 119 [] [.str s,.int .i64 a] (fun h r ar=>h=[(RD,.var (rdA s a 0 a))]∧r=.vptr RD 0∧ar=[.undef,.undef]):=by
 refine Cod.bnew_spec (fun E R hN hR=>?_)
 have e:max (0:Int) (min (a:Int) (s.length:Int))=a:=by omega
 simp(disch:=omega)only[go_sem,simprocAttr,e]
 exact hR.le (by simp(disch:=omega)only[go_sem,simprocAttr,rdA,numAt]) ⟨rfl,rfl,rfl⟩
set_option maxHeartbeats 1000000 in
theorem inflate_ok (s:Bs) (o most:Nat) (hs:s.length≤1000000000) (ho:o≤s.length) (hm:most≤65536) :
    SpecR Tryz.prog 70 [.str s,.int .i64 o,.int .i64 most] (.tup [.str (inflS (s.drop o) most).1,.int .i64 ((inflS (s.drop o) most).2.1:Nat),.int .i64 ((inflS (s.drop o) most).2.2:Nat)]):=by
 refine Cod.inflate_spec (fun E R hN hR=>?_)
 have htl:(s.drop o).length=s.length-o:=List.length_drop
 have hnew:=bnew_okR s o (by omega) ho
 have hr0:RdOK s o 0 (8*o+0):=⟨by omega,ho,by omega⟩
 have hrun:=irun_ok s o most o 0 ⟨0,[],0⟩ hs ho (by omega) hr0 (by simp) rfl
 unfold inflS at hR
 simp only at hR
 generalize hF:runS (s.drop o) most ⟨0,[],0⟩=F at *
 simp(disch:=omega)only[go_sem,simprocAttr]
 (repeat(first | refine gskip_of ?_ | refine gcskip_of ?_ | refine gopen_of ?_)<;>simp(disch:=omega)only[go_sem,simprocAttr])
 refine call_win [] hnew trivial (fun _=>rfl) ?_
 rintro h' v as' ⟨rfl,rfl,rfl⟩
 refine⟨by simp(disch:=omega)only[go_sem,simprocAttr,rdA],rfl,?_⟩
 simp(disch:=omega)only[go_sem,simprocAttr]
 refine call_wk ⟨[(33,.vptr 65032 0),(9,.vptr 65032 0)],stI s o most o 0 []⟩ (.nilV 65032 1 60022 1 [.vptr 40014 0,.nilsl,.int .i64 most] rfl rfl rfl (.le ?_)) rfl ?_
 ·simp(disch:=omega)only[go_sem,simprocAttr,stI,rdA]
 refine call_win (stI s o most o 0 []) hrun (by simp(disch:=omega)only[go_sem,simprocAttr,stI,rdA]) nofun ?_
 rintro h' v ar ⟨⟨a3,hv3,out3,rfl,rfl,hPI⟩,rfl⟩
 refine⟨by simp(disch:=omega)only[go_sem,simprocAttr,stI,rdA],rfl,?_⟩
 by_cases he:F.err=0
 ·obtain⟨rfl,hr3⟩:=hPI he
  rw[if_neg (by simpa using he)]at hR
  have hu:=rused_bor s a3 hv3 o (8*o+F.p) (by omega) hr3 (by omega)
  have e1:(8*o+F.p+7)/8-o=(F.p+7)/8:=by omega
  rw[e1]at hu
  simp only[rdA]at hu
  simp(disch:=omega)only[go_sem,simprocAttr,he,stI,rdA]
  refine call_bor [] (by simp(disch:=omega)only[go_sem,simprocAttr]) hu trivial (fun _=>rfl) ?_
  rintro h' v ar ⟨rfl,rfl,rfl⟩
  refine⟨rfl,rfl,?_⟩
  simp(disch:=omega)only[go_sem,simprocAttr]
  exact hR.wk (h':=[]) (r':=.tup [.str F.out,.int .i64 ((F.p+7)/8:Nat),.int .i64 (0:Nat)]) (ar':=[.undef,.undef,.undef]) rfl (.le (by simp(disch:=omega)only[go_sem,simprocAttr])) ⟨rfl,rfl⟩
 ·rw[if_pos he]at hR
  have hi:¬((F.err:Nat):Int)=0:=by omega
  simp(disch:=omega)only[go_sem,simprocAttr,hi]
  exact hR.wk (h':=[]) (r':=.tup [.str [],.int .i64 (0:Nat),.int .i64 (F.err:Nat)]) (ar':=[.undef,.undef,.undef]) rfl (.le (by simp(disch:=omega)only[go_sem,simprocAttr])) ⟨rfl,rfl⟩
end Go.Proofs.YtlkmppkcbhodaaaGreatDoor.Pk
namespace Go.Proofs.YtlkmppkcbhodaaaGreatDoor.Pk
open Eng Sh
set_option maxRecDepth 10000
theorem mv_runF {t:Bs} {most:Nat}:∀(k:Nat) (S:SS),Mv t most S (runF t most k S)
 | 0,_=>.refl
 | k+1,S=>by
  unfold runF
  split
  ·exact mv_block.1
  ·exact mv_block.1.trans (mv_runF k _)
theorem inf_len (t:Bs) (most:Nat):(inflS t most).1.length≤most∧(inflS t most).2.1≤t.length:=by
 unfold inflS
 simp only
 have h:=mv_runF (t:=t) (most:=most) (8*t.length+1-0) ⟨0,[],0⟩
 have h1:(runS t most ⟨0,[],0⟩).p≤8*t.length:=h.q (by simp)
 have h2:(runS t most ⟨0,[],0⟩).out.length≤most:=h.o (by simp)
 split
 ·exact⟨by simp,by simp⟩
 ·exact⟨h2,by simp only;omega⟩
def zlibS (t:Bs) (most:Nat):Bs×Nat×Nat:=
 if t.length<2 then([],0,6)else if headB (t.getD 0 0).toNat (t.getD 1 0).toNat=false then([],0,3)else
 if(inflS (t.drop 2) most).2.2≠0 then([],0,(inflS (t.drop 2) most).2.2)else
 if t.length-(2+(inflS (t.drop 2) most).2.1)<4 then([],0,6)else
 if bigN ((t.drop (2+(inflS (t.drop 2) most).2.1)).take 4)≠adlV (inflS (t.drop 2) most).1 then([],0,5)else((inflS (t.drop 2) most).1,(inflS (t.drop 2) most).2.1+6,0)
theorem zlib_len (t:Bs) (most:Nat):(zlibS t most).1.length≤most∧(zlibS t most).2.1≤t.length:=by
 have h:=inf_len (t.drop 2) most
 rw[List.length_drop]at h
 unfold zlibS
 split
 ·exact⟨by simp,by simp⟩
 ·split
  ·exact⟨by simp,by simp⟩
  ·split
   ·exact⟨by simp,by simp⟩
   ·split
    ·exact⟨by simp,by simp⟩
    ·split
     ·exact⟨by simp,by simp⟩
     ·exact⟨h.1,by simp only;omega⟩
abbrev zV (Z:Bs×Nat×Nat):AV:=.tup [.str Z.1,.int .i64 (Z.2.1:Nat),.int .i64 (Z.2.2:Nat)]
set_option maxHeartbeats 1000000 in
theorem zread_ok (s:Bs) (o most:Nat) (hs:s.length≤1000000) (ho:o≤s.length) (hm:most≤65536):SpecR Tryz.prog 39 [.str s,.int .i64 o,.int .i64 most] (zV (zlibS (s.drop o) most)):=by
 refine Cod.zread_spec (fun E R hN hR=>?_)
 unfold zlibS at hR
 have hdl:(s.drop o).length=s.length-o:=List.length_drop
 rw[hdl]at hR
 by_cases h2:s.length-o<2
 ·rw[if_pos h2]at hR
  have hi:(s.length:Int)-(o:Int)<2:=by omega
  simp(disch:=omega)only[go_sem,simprocAttr,hi]
  (repeat(first | refine gskip_of ?_ | refine gcskip_of ?_ | refine gopen_of ?_)<;>simp(disch:=omega)only[go_sem,simprocAttr,hi])
  exact hR.ro ⟨rfl,rfl⟩
 ·rw[if_neg h2]at hR
  have hi:¬(s.length:Int)-(o:Int)<2:=by omega
  have gd:∀i,(s.drop o).getD i 0=s.getD (o+i) 0:=fun i=>by rw[List.getD_eq_getElem?_getD,List.getElem?_drop,←List.getD_eq_getElem?_getD]
  rw[gd,gd,Nat.add_zero]at hR
  have hh:=zhead_ok (s.getD o 0) (s.getD (o+1) 0)
  by_cases hb:headB (s.getD o 0).toNat (s.getD (o+1) 0).toNat=false
  ·rw[if_pos hb]at hR
   rw[hb]at hh
   simp(disch:=omega)only[go_sem,simprocAttr,hi]
   (repeat(first | refine gskip_of ?_ | refine gcskip_of ?_ | refine gopen_of ?_)<;>simp(disch:=omega)only[go_sem,simprocAttr,hi])
   refine call_ro hh rfl rfl ?_
   simp(disch:=omega)only[go_sem,simprocAttr]
   exact hR.ro ⟨rfl,rfl⟩
  ·rw[if_neg hb]at hR
   rw[show headB (s.getD o 0).toNat (s.getD (o+1) 0).toNat=true by simpa using hb]at hh
   have hinf:=inflate_ok s (o+2) most (by omega) (by omega) hm
   have hil:=inf_len (s.drop (o+2)) most
   rw[List.drop_drop]at hR
   generalize inflS (s.drop (o+2)) most=I at *
   rw[List.length_drop]at hil
   simp(disch:=omega)only[go_sem,simprocAttr,hi]
   (repeat(first | refine gskip_of ?_ | refine gcskip_of ?_ | refine gopen_of ?_)<;>simp(disch:=omega)only[go_sem,simprocAttr,hi])
   refine call_ro hh rfl rfl ?_
   simp(disch:=omega)only[go_sem,simprocAttr]
   refine call_ro hinf rfl rfl ?_
   by_cases he:I.2.2=0
   ·rw[if_neg (by simpa using he)]at hR
    by_cases h4:s.length-o-(2+I.2.1)<4
    ·rw[if_pos h4]at hR
     have hj:(s.length:Int)-((o:Int)+2+(I.2.1:Int))<4:=by omega
     simp(disch:=omega)only[go_sem,simprocAttr,he,hj]
     exact hR.ro ⟨rfl,rfl⟩
    ·rw[if_neg h4]at hR
     have hj:¬(s.length:Int)-((o:Int)+2+(I.2.1:Int))<4:=by omega
     rw[List.drop_drop]at hR
     have e1:o+(2+I.2.1)=o+2+I.2.1:=by omega
     rw[e1]at hR
     generalize hu:(s.drop (o+2+I.2.1)).take 4=u at *
     have hul:u.length=4:=by rw[←hu,List.length_take,List.length_drop];omega
     have hfb:=frombig_ok u (by omega)
     have had:=adler_ok I.1 (by omega)
     have hal:=adlV_lt I.1
     have hbl:bigN u<4294967296:=by
      have:=bigN_lt u 4 (by omega)
      rw[List.take_of_length_le (by omega)]at this
      exact this
     have et:((o:Int)+2+(I.2.1:Int)).toNat=o+2+I.2.1:=by omega
     have et4:((o:Int)+2+(I.2.1:Int)+4).toNat-(o+2+I.2.1)=4:=by omega
     simp(disch:=omega)only[go_sem,simprocAttr,he,hj,et,et4,hu]
     refine call_ro hfb rfl rfl ?_
     simp(disch:=omega)only[go_sem,simprocAttr]
     refine call_ro had rfl rfl ?_
     generalize bigN u=x at *
     generalize adlV I.1=y at *
     by_cases hxy:x=y
     ·rw[if_neg (by simpa using hxy)]at hR
      have hi:((x:Nat):Int)=(y:Int):=by omega
      simp(disch:=omega)only[go_sem,simprocAttr,hi]
      exact hR.ro ⟨rfl,rfl⟩
     ·rw[if_pos hxy]at hR
      have hi:¬((x:Nat):Int)=(y:Int):=by omega
      simp(disch:=omega)only[go_sem,simprocAttr,hi]
      exact hR.ro ⟨rfl,rfl⟩
   ·rw[if_pos he]at hR
    have hj:¬((I.2.2:Nat):Int)=0:=by omega
    simp(disch:=omega)only[go_sem,simprocAttr,hj]
    exact hR.ro ⟨rfl,rfl⟩
end Go.Proofs.YtlkmppkcbhodaaaGreatDoor.Pk
