/- The proof, part 23 of 25. -/
import Derived.Test.YtjoefngnjoofeaaGreatDoorPackBuildsU
import Derived.Test.YtjoefngnjoofeaaGreatDoorPackBuildsV
set_option linter.all false
namespace Go.Proofs.YtjoefngnjoofeaaGreatDoor.Pk
open Eng
set_option maxRecDepth 10000
def b6 (t s:Bs):Bs:=[120,1]++t++(bh (c8 s) 4).reverse
theorem u5 (s:Bs) (hs:s.length≤65535):Eng.Spec Tryz.prog 37 [] [.str s] (fun h r _=>h=[]∧∃t,ij s t∧r=.str (b6 t s)):=by
 refine Cod.aCw (fun E R hN hR=>?_)
 have hadl:=ou s
 refine wW ?_
 refine fg (Tn s hs) rfl ?_
 rintro h' v ar ⟨rfl,t,ht,rfl⟩
 refine⟨rfl,rfl,?_⟩
 have htl:=je ht
 have hfr:aZ Tryz.prog 62 [.str t,.str s] (.str (b6 t s)):=by
  refine Cod.aBV (fun E R hN hR=>?_)
  have ha:=vf s (by omega)
  have hb:=mV (c8 s) 4 (by omega) (by decide)
  have hll:=eA (c8 s) 4
  unfold b6 at hR
  rw[show((4:Nat):Int)=4 from rfl]at hb
  refine wW ?_
  refine aG ha rfl rfl ?_
  refine wW ?_
  refine aG hb rfl rfl ?_
  simp(disch:=omega)only[go_sem,simprocAttr,List.length_reverse,hll]
  exact hR.ro ⟨rfl,by simp⟩
 refine wW ?_
 refine aG hfr rfl rfl ?_
 refine wW ?_
 exact hR.ro ⟨rfl,t,ht,rfl⟩
def hdB:Nat→Nat→Nat→Bs
 | 0,c,_=>[UInt8.ofNat c]
 | f+1,c,m=>if m=0 then[UInt8.ofNat c]else UInt8.ofNat (c+128)::hdB f (m%128) (m/128)
def bS (kind n:Nat):Bs:=hdB 9 (16*kind+n%16) (n/16)
theorem yn:∀(f c m:Nat),m<128^f→hdB (f+1) c m=hdB f c m
 | 0,c,m,h=>by
  have:m=0:=by simpa using h
  simp[hdB,this]
 | f+1,c,m,h=>by
  have:=yn f (m%128) (m/128) (by rw[Nat.pow_succ]at h;omega)
  rw[hdB,this]
  rfl
theorem Am:∀x:Nat,x<128→bits .or .u8 (x:Int) 128=((x+128:Nat):Int):=by decide +kernel
theorem acx:∀x:Nat,x<256→bits .or .u8 (x:Int) 128=((x%128+128:Nat):Int):=by decide +kernel
theorem rC (n:Nat) (h:n<9223372036854775808):bits .and .i64 (n:Int) 127=((n%128:Nat):Int):=by
 show IntKind.i64.wrap ((BitVec.ofInt 64 (n:Int) &&& BitVec.ofInt 64 ((127:Nat):Int)).toNat:Int)=_
 rw[BitVec.ofInt_natCast,BitVec.ofInt_natCast,BitVec.toNat_and,BitVec.toNat_ofNat,BitVec.toNat_ofNat,Nat.mod_eq_of_lt (by omega),Nat.mod_eq_of_lt (by omega),show(127:Nat)=2^7-1 by decide,Nat.and_two_pow_sub_one_eq_mod]
 exact IntWalk.i64_in _ (by omega)
theorem E6 (n:Nat) (h:n<9223372036854775808):bits .and .i64 (n:Int) 15=((n%16:Nat):Int):=by
 show IntKind.i64.wrap ((BitVec.ofInt 64 (n:Int) &&& BitVec.ofInt 64 ((15:Nat):Int)).toNat:Int)=_
 rw[BitVec.ofInt_natCast,BitVec.ofInt_natCast,BitVec.toNat_and,BitVec.toNat_ofNat,BitVec.toNat_ofNat,Nat.mod_eq_of_lt (by omega),Nat.mod_eq_of_lt (by omega),show(15:Nat)=2^4-1 by decide,Nat.and_two_pow_sub_one_eq_mod]
 exact IntWalk.i64_in _ (by omega)
theorem lA (x k:Nat) (hk:k≤63):((x:Nat):Int).fdiv (2^min k 64)=((x/2^k:Nat):Int):=by
 rw[Nat.min_eq_left (by omega),show(2:Int)^k=((2^k:Nat):Int)by push_cast;rfl,Int.fdiv_eq_ediv_of_nonneg _ (Int.natCast_nonneg _)]
 rfl
theorem YU:∀k:Nat,k<8→∀n:Nat,n<16→IntKind.u8.wrap (bits .or .i64 (IntKind.i64.wrap ((k:Int)*2^min 4 64)) (n:Int))=((16*k+n:Nat):Int):=by decide +kernel
theorem sP (kind n:Nat) (hk:kind<8) (hn:n<1000000000):aZ Tryz.prog 36 [.int .i64 kind,.int .i64 n] (.ro 1 ((bS kind n).map ub)):=by
 refine Cod.PX (fun E R hN hR=>?_)
 have h15:=E6 n (by omega)
 have hko:=YU kind hk (n%16) (by omega)
 have hs4:=lA n 4 (by omega)
 refine aw h15 ?_
 refine bm hko hs4 ?_
 refine aK hN (fun q:Bs×UInt8×Nat=>⟨[(1,.int .i64 q.2.2),(5,.sl 175012 0 (q.1.length+1))],[(175012,.arr 1 ((q.1++[q.2.1]).map ub))]⟩) (fun q=>q.2.1.toNat<128∧q.2.2<1000000000∧q.1.length+q.2.2≤1000000100∧bS kind n=q.1++hdB 9 q.2.1.toNat q.2.2) (fun q=>q.2.2) ([],UInt8.ofNat (16*kind+n%16),n/2^4) (.le ?_) ⟨?_,by simp only;omega,by simp only[List.length_nil];omega,?_⟩ ?_
 ·have e:((UInt8.ofNat (16*kind+n%16)).toNat:Int)=((16*kind+n%16:Nat):Int):=by rw[UInt8.toNat_ofNat'];congr 1;omega
  simp(disch:=first | omega | (simp only[Lx];omega))only[go_sem,simprocAttr,List.length_nil,List.map_nil,List.nil_append,List.map_cons,e]
 ·rw[UInt8.toNat_ofNat'];omega
 ·simp only[List.nil_append]
  rw[UInt8.toNat_ofNat',Nat.mod_eq_of_lt (by omega)]
  rfl
 rintro⟨pre,c,m⟩ R1 ⟨hc,hm,hpl,hb⟩ hR1
 simp only at hc hm hb hpl
 have hall:∀l:Bs,aM (l.map ub) 0 l.length=l.map ub:=fun l=>by simp[aM,List.take_of_length_le]
 have hp1:=hall (pre++[c])
 rw[List.length_append,List.length_singleton]at hp1
 by_cases h0:m=0
 ·subst h0
  have e:hdB 9 c.toNat 0=[c]:=by show[UInt8.ofNat c.toNat]=_;rw[UInt8.ofNat_toNat]
  rw[e]at hb
  rw[hb]at hR
  refine wW ?_
  exact hR.wk (h':=[]) (r':=.ro 1 ((pre++[c]).map ub)) (ar':=[.undef,.undef]) rfl (.bF 175012 (.le (cW hp1))) ⟨rfl,rfl⟩
 ·have h127:=rC m (by omega)
  have h128:=Am c.toNat hc
  have hs7:=lA m 7 (by omega)
  have hg:(pre++[c]).getD pre.length 0=c:=by simp[List.getD_eq_getElem?_getD]
  have hst:((pre++[c]).map ub).set pre.length (.int .u8 ((c.toNat+128:Nat):Int))=(pre++[UInt8.ofNat (c.toNat+128)]).map ub:=by
   have e:((UInt8.ofNat (c.toNat+128)).toNat:Int)=((c.toNat+128:Nat):Int):=by rw[UInt8.toNat_ofNat'];congr 1;omega
   simp[ub]
   omega
  have ei:((pre.length:Int)+1-1).toNat=pre.length:=by omega
  have hmore:=yn 8 (m%128) (m/128) (by omega)
  have hstep:hdB 9 c.toNat m=UInt8.ofNat (c.toNat+128)::hdB 9 (m%128) (m/128):=by
   rw[hmore,hdB,if_neg h0]
  rw[hstep]at hb
  have hp2:=hall (pre++[UInt8.ofNat (c.toNat+128)])
  rw[List.length_append,List.length_singleton]at hp2
  have em:((m%128:Nat):Int)=((UInt8.ofNat (m%128)).toNat:Int):=by rw[UInt8.toNat_ofNat'];congr 1;omega
  simp(disch:=first | omega | (simp only[Lx];omega))only[go_sem,simprocAttr,ei,hg,h128,hst,hp2,h127,hs7,em]
  rw[show((c.toNat:Int)+128).toNat=c.toNat+128 by omega,UInt8.ofNat_toNat]
  refine hR1 (pre++[UInt8.ofNat (c.toNat+128)],UInt8.ofNat (m%128),m/128) _ (by simp only;omega) ⟨?_,by simp only;omega,by simp only[List.length_append,List.length_singleton];omega,?_⟩ (.le vV)
  ·simp only[UInt8.toNat_ofNat'];omega
  ·simp only
   rw[hb,UInt8.toNat_ofNat',Nat.mod_eq_of_lt (show m%128<2^8 by omega)]
   simp
open Eng
set_option maxRecDepth 10000
theorem jt (l:Bs):aM (l.map ub) 0 l.length=l.map ub:=by simp[aM,List.take_of_length_le]
theorem lG (n:Nat) (h:n<256):AV.int .u8 (n:Int)=ub (UInt8.ofNat n):=by
 unfold ub
 rw[UInt8.toNat_ofNat',Nat.mod_eq_of_lt (show n<2^8 by omega)]
def bkB:Nat→Bs→Nat→Bs
 | 0,acc,_=>acc
 | f+1,acc,m=>if m=0 then acc else bkB f (UInt8.ofNat ((m-1)%128+128)::acc) ((m-1)/128)
def dJ (n:Nat):Bs:=bkB 9 [UInt8.ofNat (n%128)] (n/128)
theorem vU:∀(f:Nat) (acc:Bs) (m:Nat),m<128^f→bkB (f+1) acc m=bkB f acc m
 | 0,acc,m,h=>by
  have:m=0:=by simpa using h
  simp[bkB,this]
 | f+1,acc,m,h=>by
  rw[bkB]
  by_cases h0:m=0
  ·simp[h0,bkB]
  ·rw[if_neg h0,vU f _ ((m-1)/128) (by rw[Nat.pow_succ]at h;omega)]
   conv=>rhs;rw[bkB,if_neg h0]
theorem GI (n:Nat) (hn:n<1000000000):aZ Tryz.prog 41 [.int .i64 n] (.ro 1 ((dJ n).map ub)):=by
 refine Cod.GJ (fun E R hN hR=>?_)
 have h127:=rC n (by omega)
 have hs7:=lA n 7 (by omega)
 have hu:=lG (n%128) (by omega)
 refine aw h127 ?_
 refine aw hs7 ?_
 refine aK hN (fun q:Bs×Nat=>⟨[(0,.int .i64 q.2),(3,.sl 176900 0 q.1.length)],[(176900,.arr 1 (q.1.map ub))]⟩) (fun q=>q.2<1000000000∧q.1.length+q.2≤1000000100∧dJ n=bkB 9 q.1 q.2) (fun q=>q.2) ([UInt8.ofNat (n%128)],n/2^7) (.fF 176007 176900 rfl rfl (.le ?_)) ⟨by simp only;omega,by simp only[List.length_singleton];omega,rfl⟩ ?_
 ·have e:((UInt8.ofNat (n%128)).toNat:Int)=((n%128:Nat):Int):=by rw[UInt8.toNat_ofNat'];congr 1;omega
  simp(disch:=omega)only[go_sem,simprocAttr,e,List.map_cons,List.map_nil,List.length_cons]
 rintro⟨acc,m⟩ R1 ⟨hm,hl,hb⟩ hR1
 simp only at hm hl hb
 have hsa:=jt acc
 by_cases h0:m=0
 ·subst h0
  have e:bkB 9 acc 0=acc:=rfl
  rw[hb,e]at hR
  refine wW ?_
  exact hR.wk (h':=[]) (r':=.ro 1 (acc.map ub)) (ar':=[.undef]) rfl (.bF 176900 (.le (cW hsa))) ⟨rfl,rfl⟩
 ·have h127:=rC (m-1) (by omega)
  have h128:=Am ((m-1)%128) (by omega)
  have hs7:=lA (m-1) 7 (by omega)
  have hstep:bkB 9 acc m=bkB 9 (UInt8.ofNat ((m-1)%128+128)::acc) ((m-1)/128):=by
   rw[vU 8 _ ((m-1)/128) (by omega),bkB,if_neg h0]
  rw[hstep]at hb
  have em:((m:Int)-1)=((m-1:Nat):Int):=by omega
  have e:((UInt8.ofNat ((m-1)%128+128)).toNat:Int)=(((m-1)%128+128:Nat):Int):=by rw[UInt8.toNat_ofNat'];congr 1;omega
  refine cM em h127 h128 hs7 hsa ?_
  exact hR1 (UInt8.ofNat ((m-1)%128+128)::acc,(m-1)/128) _ (by simp only;omega) ⟨by simp only;omega,by simp only[List.length_cons];omega,hb⟩ (.drop 176900 (.fF 176020 176900 rfl rfl (.le (by simp(disch:=omega)only[go_sem,simprocAttr,e,List.map_cons,List.length_cons,show 1+acc.length=acc.length+1 by omega]))))
def sizB:Nat→Nat→Bs
 | 0,n=>[UInt8.ofNat n]
 | f+1,n=>if 128≤n then UInt8.ofNat (n%128+128)::sizB f (n/128)else[UInt8.ofNat n]
theorem ux:∀(f n:Nat),n<128^(f+1)→sizB (f+1) n=sizB f n
 | 0,n,h=>by simp[sizB];omega
 | f+1,n,h=>by
  rw[sizB]
  by_cases h0:128≤n
  ·rw[if_pos h0,ux f (n/128) (by rw[Nat.pow_succ]at h;omega)]
   conv=>rhs;rw[sizB,if_pos h0]
  ·rw[if_neg h0]
   conv=>rhs;rw[sizB,if_neg h0]
theorem uw:∀(f n:Nat),(sizB f n).length≤f+1
 | 0,n=>by simp[sizB]
 | f+1,n=>by
  have:=uw f (n/128)
  rw[sizB]
  split<;>simp<;>omega
def eB (n:Nat):Bs:=sizB 9 n
theorem xt (n:Nat) (hn:n<1000000000):Eng.Spec Tryz.prog 64 [] [.int .i64 n] (fun h r ar=>h=[(171013,.arr 1 ((eB n).map ub))]∧r=.sl 171013 0 (eB n).length∧ar=[.undef]):=by
 refine Cod.Mc (fun E R hN hR=>?_)
 refine wW ?_
 refine aK hN (fun q:Bs×Nat=>⟨[(0,.int .i64 q.2),(3,.sl 171013 0 q.1.length)],[(171013,.arr 1 (q.1.map ub))]⟩) (fun q=>q.2<1000000000∧q.1.length+q.2≤1000000100∧eB n=q.1++sizB 9 q.2) (fun q=>q.2) ([],n) (.nil 3 171013 1 rfl (.le (by simp(disch:=omega)only[go_sem,simprocAttr,List.map_nil,List.length_nil]))) ⟨hn,by simp only[List.length_nil];omega,rfl⟩ ?_
 rintro⟨pre,m⟩ R1 ⟨hm,hl,hb⟩ hR1
 simp only at hm hl hb
 have hsa:=jt pre
 by_cases h0:128≤m
 ·have hw:IntKind.u8.wrap (m:Int)=((m%256:Nat):Int):=rfl
  have h128:=acx (m%256) (by omega)
  rw[show m%256%128=m%128 by omega]at h128
  have hs7:=lA m 7 (by omega)
  have hstep:sizB 9 m=UInt8.ofNat (m%128+128)::sizB 9 (m/128):=by
   rw[ux 8 (m/128) (by omega),sizB,if_pos h0]
  rw[hstep]at hb
  refine eC hw h128 hs7 hsa ?_
  rw[show(((m%128:Nat):Int)+128).toNat=m%128+128 by omega]
  exact hR1 (pre++[UInt8.ofNat (m%128+128)],m/128) _ (by simp only;omega) ⟨by simp only;omega,by simp only[List.length_append,List.length_singleton];omega,by rw[hb];simp⟩ (.le vV)
 ·have e:sizB 9 m=[UInt8.ofNat m]:=by rw[sizB,if_neg h0]
  have hu:=lG m (by omega)
  rw[hb,e,List.length_append,List.length_singleton]at hR
  refine aw hsa ?_
  exact hR.le vV ⟨rfl,rfl,rfl⟩
def eu (o n i:Nat):Nat:=if i<4 then o/2^(8*i)%256 else n/2^(8*(i-4))%256
def gi (o n i:Nat):Bool:=decide (eu o n i≠0)&&!(decide (i=6)&&decide (n=65536))
def cpP (o n:Nat):Nat→Nat×Bs
 | 0=>(128,[])
 | k+1=>if gi o n k then((cpP o n k).1+2^k,(cpP o n k).2++[UInt8.ofNat (eu o n k)])else cpP o n k
def j6 (o n:Nat):Bs:=UInt8.ofNat (cpP o n 7).1::(cpP o n 7).2
theorem ng (o n:Nat):∀k,128≤(cpP o n k).1∧(cpP o n k).1<128+2^k∧(cpP o n k).2.length≤k
 | 0=>by simp[cpP]
 | k+1=>by
  have:=ng o n k
  rw[cpP,Nat.pow_succ]
  split
  ·simp only[List.length_append,List.length_singleton];omega
  ·omega
theorem Je:∀k:Nat,k<7→∀q:Nat,q<128→q<2^k→bits .or .u8 ((128+q:Nat):Int) (IntKind.u8.wrap (1*2^min k 8))=((128+q+2^k:Nat):Int):=by decide +kernel
theorem vo (n:Nat) (h:n<9223372036854775808):bits .and .i64 (n:Int) 255=((n%256:Nat):Int):=by
 show IntKind.i64.wrap ((BitVec.ofInt 64 (n:Int) &&& BitVec.ofInt 64 ((255:Nat):Int)).toNat:Int)=_
 rw[BitVec.ofInt_natCast,BitVec.ofInt_natCast,BitVec.toNat_and,BitVec.toNat_ofNat,BitVec.toNat_ofNat,Nat.mod_eq_of_lt (by omega),Nat.mod_eq_of_lt (by omega),show(255:Nat)=2^8-1 by decide,Nat.and_two_pow_sub_one_eq_mod]
 exact IntWalk.i64_in _ (by omega)
theorem Ke (o n:Nat) (ho:o<1000000000) (hn:n≤65536):aZ Tryz.prog 66 [.int .i64 o,.int .i64 n] (.ro 1 ((j6 o n).map ub)):=by
 refine Cod.Kf (fun E R hN hR=>?_)
 refine wW ?_
 refine aK hN (fun k:Nat=>⟨[(0,.int .i64 o),(1,.int .i64 n),(5,.sl 172008 0 ((cpP o n k).2.length+1)),(9,.int .i64 k)],[(172008,.arr 1 ((UInt8.ofNat (cpP o n k).1::(cpP o n k).2).map ub))]⟩) (fun k=>k≤7) (fun k=>7-k) 0 (.le (by simp(disch:=omega)only[go_sem,simprocAttr,cpP,List.length_nil,List.map_nil,List.map_cons,show(UInt8.ofNat 128).toNat=128 from rfl])) (by omega) ?_
 rintro k R1 hk hR1
 obtain⟨hp1,hp2,hp3⟩:=ng o n k
 have hsa:=jt (UInt8.ofNat (cpP o n k).1::(cpP o n k).2)
 rw[List.length_cons]at hsa
 by_cases hlt:k<7
 ·have hstep:cpP o n (k+1)=if gi o n k then((cpP o n k).1+2^k,(cpP o n k).2++[UInt8.ofNat (eu o n k)])else cpP o n k:=rfl
  have hkp:2^k≤2^6:=Nat.pow_le_pow_right (by decide) (by omega)
  have e1:(8*(k:Int)).toNat=8*k:=by omega
  have hs1:=lA o (8*k) (by omega)
  have ha1:=vo (o/2^(8*k)) (Nat.lt_of_le_of_lt (Nat.div_le_self _ _) (by omega))
  refine aw e1 ?_
  rw[hs1,ha1]
  refine cH hN (fun _:Unit=>⟨[(0,.int .i64 o),(1,.int .i64 n),(5,.sl 172008 0 ((cpP o n k).2.length+1)),(6,.int .i64 k),(7,.int .i64 (eu o n k:Nat)),(9,.int .i64 k)],[(172008,.arr 1 ((UInt8.ofNat (cpP o n k).1::(cpP o n k).2).map ub))]⟩) (fun _=>True) (fun R2 hR2=>?_) ?_
  ·by_cases h4:k<4
   ·have e:eu o n k=o/2^(8*k)%256:=if_pos h4
    rw[e]at hR2
    refine wW ?_
    exact hR2 () _ trivial (.le vV)
   ·have e:eu o n k=n/2^(8*(k-4))%256:=if_neg h4
    rw[e]at hR2
    have e2:(8*((k:Int)-4)).toNat=8*(k-4):=by omega
    have hs2:=lA n (8*(k-4)) (by omega)
    have ha2:=vo (n/2^(8*(k-4))) (Nat.lt_of_le_of_lt (Nat.div_le_self _ _) (by omega))
    refine aw e2 ?_
    rw[hs2,ha2]
    exact hR2 () _ trivial (.le vV)
  ·rintro _ _
   have hx256:eu o n k<256:=by unfold eu;split<;>exact Nat.mod_lt _ (by decide)
   have hon:gi o n k=(decide (eu o n k≠0)&&!(decide (k=6)&&decide (n=65536))):=rfl
   generalize cpP o n k=pl at *
   obtain⟨p,l⟩:=pl
   simp only at hp1 hp2 hp3 hsa hstep
   generalize eu o n k=x at *
   have ep:(UInt8.ofNat p).toNat=p:=by rw[UInt8.toNat_ofNat'];omega
   have yes:gi o n k=true→∀st',Wk st' ⟨[(0,.int .i64 o),(1,.int .i64 n),(5,.sl 172008 0 (l.length+1+1)),(9,.int .i64 ((k+1:Nat):Int))],[(172008,.arr 1 (.int .u8 ((p+2^k:Nat):Int)::(l++[UInt8.ofNat x]).map ub))]⟩→R1.ap st':=fun h st' hw=>by
    rw[if_pos h]at hstep
    have e:((UInt8.ofNat (p+2^k)).toNat:Int)=((p+2^k:Nat):Int):=by rw[UInt8.toNat_ofNat',Nat.mod_eq_of_lt (show p+2^k<2^8 by omega)]
    have:=hR1 (k+1) st' (by omega) (by omega)
    rw[hstep]at this
    simp only[List.map_cons,List.length_append,List.length_singleton]at this
    rw[show ub (UInt8.ofNat (p+2^k))=.int .u8 ((p+2^k:Nat):Int)by unfold ub;rw[e]]at this
    exact this hw
   have no:gi o n k=false→R1.ap ⟨[(0,.int .i64 o),(1,.int .i64 n),(5,.sl 172008 0 (l.length+1)),(9,.int .i64 ((k:Int)+1))],[(172008,.arr 1 ((UInt8.ofNat p::l).map ub))]⟩:=fun h=>by
    rw[if_neg (by rw[h];decide)]at hstep
    refine hR1 (k+1) _ (by omega) (by omega) (.le ?_)
    rw[hstep]
    exact vV
   have ex:((x:Nat):Int)=0↔x=0:=by omega
   by_cases hx0:x=0
   ·have hno:gi o n k=false:=by rw[hon];simp[hx0]
    subst hx0
    refine wW ?_
    refine gG ?_
    exact no hno
   ·have hx0':¬((x:Nat):Int)=0:=by omega
    have ei:((k:Int)).toNat=k:=by omega
    have hor:=Je k hlt (p-128) (by omega) (by omega)
    rw[show 128+(p-128)=p by omega]at hor
    have cc:((UInt8.ofNat p::l).map ub).set 0 (.int .u8 ((p+2^k:Nat):Int))=(UInt8.ofNat (p+2^k)::l).map ub:=by
     have:(UInt8.ofNat (p+2^k)).toNat=p+2^k:=by rw[UInt8.toNat_ofNat'];omega
     show AV.int .u8 ((p+2^k:Nat):Int)::l.map ub=AV.int .u8 ((UInt8.ofNat (p+2^k)).toNat:Int)::l.map ub
     rw[this]
    have hsa2:=jt (UInt8.ofNat (p+2^k)::l)
    rw[List.length_cons]at hsa2
    have n0:∀(a:AV) (xs:List AV),nth (a::xs) 0=a:=fun _ _=>rfl
    have hs3:∀a:AV,aM (a::l.map ub) 0 (l.length+1)=a::l.map ub:=fun a=>by simp[aM,List.take_of_length_le]
    have hux:(UInt8.ofNat x).toNat=x:=by rw[UInt8.toNat_ofNat'];omega
    by_cases h6:k=6
    ·by_cases hnn:n=65536
     ·have hno:gi o n k=false:=by rw[hon];simp[h6,hnn]
      subst h6 hnn
      refine aw hx0' ?_
      refine gG ?_
      exact no hno
     ·have hyes:gi o n k=true:=by rw[hon];simp[hx0,hnn]
      have hn':¬((n:Nat):Int)=65536:=by omega
      have hgo:=yes hyes
      clear yes no hR1
      subst h6
      simp(disch:=omega)only[go_sem,simprocAttr,hx0',hn',n0,ep,hor,List.set_cons_zero,hs3]
      (repeat(first | refine dW ?_ | refine dU ?_ | refine dV ?_)<;>simp(disch:=omega)only[go_sem,simprocAttr,n0,ep,hor,List.set_cons_zero,hs3])
      exact hgo _ (.le vV)
    ·have hyes:gi o n k=true:=by rw[hon];simp[hx0,h6]
     have h6':¬((k:Nat):Int)=6:=by omega
     have hgo:=yes hyes
     clear yes no hR1
     simp(disch:=omega)only[go_sem,simprocAttr,hx0',h6',ei,n0,ep,hor,List.set_cons_zero,hs3]
     (repeat(first | refine dW ?_ | refine dU ?_ | refine dV ?_)<;>simp(disch:=omega)only[go_sem,simprocAttr,n0,ep,hor,List.set_cons_zero,hs3])
     exact hgo _ (.le vV)
 ·obtain rfl:k=7:=by omega
  unfold j6 at hR
  refine wW ?_
  exact hR.wk (h':=[]) (r':=.ro 1 ((UInt8.ofNat (cpP o n 7).1::(cpP o n 7).2).map ub)) (ar':=[.undef,.undef]) rfl (.bF 172008 (.le (cW hsa))) ⟨rfl,rfl⟩
def insF:Nat→Bs→Bs
 | 0,_=>[]
 | f+1,p=>if p=[]then[]else UInt8.ofNat (min p.length 127)::(p.take (min p.length 127)++insF f (p.drop (min p.length 127)))
def fU (p:Bs):Bs:=insF p.length p
theorem yR:∀(f g:Nat) (p:Bs),p.length≤f→p.length≤g→insF f p=insF g p
 | 0,g,p,h,_=>by
  have:p=[]:=List.length_eq_zero_iff.1 (by omega)
  subst this;cases g<;>simp[insF]
 | f+1,0,p,_,h=>by
  have:p=[]:=List.length_eq_zero_iff.1 (by omega)
  subst this;simp[insF]
 | f+1,g+1,p,h1,h2=>by
  by_cases h0:p=[]
  ·subst h0;simp[insF]
  ·have hp:0<p.length:=List.length_pos_iff.2 h0
   rw[insF,if_neg h0,insF,if_neg h0,yR f g _ (by rw[List.length_drop];omega) (by rw[List.length_drop];omega)]
theorem s5:fU []=[]:=rfl
theorem yS {p:Bs} (h:p≠[]):fU p=UInt8.ofNat (min p.length 127)::(p.take (min p.length 127)++fU (p.drop (min p.length 127))):=by
 have hp:0<p.length:=List.length_pos_iff.2 h
 obtain⟨m,hm⟩:∃m,p.length=m+1:=⟨p.length-1,by omega⟩
 unfold fU
 rw[hm,insF,if_neg h,hm,yR m _ _ (by rw[List.length_drop];omega) (Nat.le_refl _)]
theorem s4:∀(f:Nat) (p:Bs),p.length≤f→(insF f p).length≤2*p.length
 | 0,p,h=>by simp[insF]
 | f+1,p,h=>by
  by_cases h0:p=[]
  ·subst h0;simp[insF]
  ·have hp:0<p.length:=List.length_pos_iff.2 h0
   have:=s4 f (p.drop (min p.length 127)) (by rw[List.length_drop];omega)
   rw[List.length_drop]at this
   rw[insF,if_neg h0]
   simp only[List.length_cons,List.length_append,List.length_take]
   omega
def PB:Nat:=173010
def PW:Nat:=173900
def OB:Nat:=173005
def OW:Nat:=173901
attribute [go_sem] PB PW OB OW
def gR (pre pl out:Bs):HP:=[(PB,.var [.sl PW pre.length pl.length]),(PW,.arr 1 ((pre++pl).map ub)),(OB,.var [.sl OW 0 out.length]),(OW,.arr 1 (out.map ub))]
theorem Dc (a b:Bs) (k n:Nat) (h:k+n≤b.length):aM ((a++b).map ub) (a.length+k) n=((b.drop k).take n).map ub:=by
 simp only[aM,List.map_append,List.map_take,List.map_drop]
 rw[List.drop_append,List.drop_of_length_le (by simp),List.nil_append,List.length_map,Nat.add_sub_cancel_left]
set_option maxHeartbeats 1000000 in
theorem w8 (pre pl out:Bs) (hp:pre.length≤1000000) (hl:pl.length≤1000000) (ho:out.length≤10000000):Eng.Spec Tryz.prog 65 (gR pre pl out) [.ab PB 0,.ab OB 0]
    (fun h' v ar=>h'=gR (pre++pl) [] (out++fU pl)∧v=.ak []∧ar=[.ab PB 0,.ab OB 0]):=by
 refine Cod.Kw (fun E R hN hR=>?_)
 refine wW ?_
 refine aK hN (fun q:Nat×Bs=>⟨[(0,.ab PB 0),(1,.ab OB 0),(2000000,.ab PB 0),(2000001,.ab OB 0)],[(PB,.var [.sl PW (pre.length+q.1) (pl.length-q.1)]),(PW,.arr 1 ((pre++pl).map ub)),(OB,.var [.sl OW 0 q.2.length]),(OW,.arr 1 (q.2.map ub))]⟩) (fun q=>q.1≤pl.length∧q.2.length≤10000000+2*q.1∧out++fU pl=q.2++fU (pl.drop q.1)) (fun q=>pl.length-q.1) (0,out) (.le (by simp(disch:=first | omega | (simp only[Lx];omega))only[go_sem,simprocAttr,gR])) ⟨by omega,by omega,by simp⟩ ?_
 rintro⟨k,o⟩ R1 ⟨hk,hol,he⟩ hR1
 simp only at hk hol he
 by_cases hlt:k<pl.length
 ·have hne:pl.drop k≠[]:=fun e=>by have:=congrArg List.length e;rw[List.length_drop,List.length_nil]at this;omega
  rw[yS hne,List.length_drop,List.drop_drop]at he
  have hmi:min (((pl.length-k:Nat):Int)) 127=((min (pl.length-k) 127:Nat):Int):=by omega
  have hmp:0<min (pl.length-k) 127:=by omega
  have hmm:min (pl.length-k) 127≤127∧min (pl.length-k) 127≤pl.length-k:=by omega
  generalize min (pl.length-k) 127=m at *
  have hsm:=Dc pre pl k m (by omega)
  have hso:=jt o
  have hum:=lG m (by omega)
  have htl:((pl.drop k).take m).length=m:=by rw[List.length_take,List.length_drop];omega
  have e3:pre.length+k+m=pre.length+(k+m):=by omega
  have e4:pl.length-k-m=pl.length-(k+m):=by omega
  have fin:=hR1 (k+m,o++[UInt8.ofNat m]++(pl.drop k).take m)
  refine ck hmi hsm hso ?_
  refine⟨⟨?_,?_⟩,?_⟩<;>exact fin _ (by simp only;omega) ⟨by simp only;omega,by simp only[List.length_append,List.length_singleton,htl];omega,by rw[he];simp⟩ (.le (by simp(disch:=first | omega | (simp only[Lx];omega))only[go_sem,simprocAttr,e3,e4,htl,List.length_append,List.length_singleton]))
 ·obtain rfl:k=pl.length:=by omega
  rw[List.drop_length,s5,List.append_nil]at he
  rw[he]at hR
  refine wW ?_
  exact hR.le (by simp(disch:=first | omega | (simp only[Lx];omega))only[go_sem,simprocAttr,gR,List.append_nil,List.length_append,List.length_nil,Nat.sub_self]) ⟨rfl,rfl,rfl⟩
inductive ga (base:Bs):Bs→Bs→Prop
 | nil:ga base [] []
 | ins (t b c:Bs):ga base t b→1≤c.length→c.length≤127→ga base (t++c) (b++UInt8.ofNat c.length::c)
 | jD (t b:Bs) (o n:Nat):ga base t b→4≤n→n≤65536→o+n≤base.length→ga base (t++(base.drop o).take n) (b++j6 o n)
theorem tG {base:Bs}:∀(f:Nat) (p t b:Bs),p.length≤f→ga base t b→ga base (t++p) (b++fU p)
 | 0,p,t,b,h,ho=>by
  have:p=[]:=List.length_eq_zero_iff.1 (by omega)
  subst this
  rw[s5,List.append_nil,List.append_nil]
  exact ho
 | f+1,p,t,b,h,ho=>by
  by_cases h0:p=[]
  ·subst h0
   rw[s5,List.append_nil,List.append_nil]
   exact ho
  ·have hp:0<p.length:=List.length_pos_iff.2 h0
   have hl:(p.take (min p.length 127)).length=min p.length 127:=by rw[List.length_take];omega
   have h1:=ga.ins t b (p.take (min p.length 127)) ho (by omega) (by omega)
   have h2:=tG f (p.drop (min p.length 127)) _ _ (by rw[List.length_drop];omega) h1
   rw[yS h0]
   rw[List.append_assoc,List.take_append_drop,hl]at h2
   simpa using h2
def lN (base t d:Bs):Prop:=(∃b,ga base t b∧d=eB base.length++eB t.length++b)∧d.length≤20+2*t.length
theorem Jb (o n:Nat):(j6 o n).length≤8:=by
 have:=(ng o n 7).2.2
 simp only[j6,List.length_cons];omega
def SP:Nat:=173902
attribute [go_sem] SP
def rj (l:List (MK×AV)) (m:Nat):Prop:=∀kv∈l,∃n:Nat,kv.2=.int .i64 n∧n+4≤m
theorem adY {l:List (MK×AV)} {m n:Nat} {k:MK} (h:rj l m) (hn:n+4≤m):rj (mput l k (.int .i64 n)) m:=fun kv hk=>by
 rcases tK hk with hk | rfl
 ·exact h kv hk
 ·exact⟨n,rfl,hn⟩
theorem wM:callable Tryz.prog 65=true:=by kernel_rfl
set_option maxHeartbeats 4000000 in
theorem LK (base t:Bs) (hb:base.length≤65000) (ht:t.length≤65000):Eng.Spec Tryz.prog 38 [] [.str base,.str t] (fun h r _=>h=[]∧∃d,lN base t d∧r=.str d):=by
 refine Cod.LL (fun E R hN hR=>?_)
 have hs1:=xt base.length (by omega)
 have hs2:=xt t.length (by omega)
 have hl1:=uw 9 base.length
 have hl2:=uw 9 t.length
 change (eB base.length).length≤10 at hl1
 change (eB t.length).length≤10 at hl2
 unfold lN at hR
 generalize eB base.length=z1 at *
 generalize eB t.length=z2 at *
 have hsa1:=jt z1
 have hsa2:=jt z2
 refine wW ?_
 refine aI [] hs1 trivial (fun _=>rfl) ?_
 rintro h' v ar ⟨rfl,rfl,rfl⟩
 refine⟨vV,rfl,?_⟩
 refine wW ?_
 refine j5 ⟨[(0,.str base),(1,.str t),(20,.sl OW 0 z1.length),(22,.int .i64 t.length)],[(OW,.arr 1 (z1.map ub))]⟩ (.fF 171013 OW rfl rfl (.le ?_)) rfl ?_
 ·exact vV
 refine aI [] hs2 trivial (fun _=>rfl) ?_
 rintro h' v ar ⟨rfl,rfl,rfl⟩
 refine⟨vV,rfl,?_⟩
 refine bm hsa1 hsa2 ?_
 refine aK hN (fun q:Nat×List (MK×AV)=>⟨[(0,.str base),(1,.str t),(5,.ab OB 0),(6,.ptr 173025 0 0),(7,.int .i64 q.1)],[(OB,.var [.sl OW 0 (z1++z2).length]),(OW,.arr 1 ((z1++z2).map ub)),(173025,.mp none q.2)]⟩) (fun q=>q.1≤65000∧rj q.2 base.length) (fun q=>base.length-q.1) (0,[]) (.le ?_) ⟨by simp only;omega,fun kv hk=>by cases hk⟩ ?_
 ·simp(disch:=first | omega | (simp only[Lx];omega))only[go_sem,simprocAttr,List.length_append]
 rintro⟨i,l⟩ R1 ⟨hi,hpl⟩ hR1
 simp only at hi hpl
 by_cases hlt:i+4≤base.length
 ·cases hf:mfind l (MK.s (List.take (((i:Int)+4).toNat-i) (List.drop i base)))with
  | some v=>
   obtain⟨k',hk'⟩:=qp hf
   obtain⟨a,ha,hat⟩:=hpl _ hk'
   simp only at ha
   subst ha
   refine aw hf ?_
   exact hR1 (i+1,l) _ (by simp only;omega) ⟨by simp only;omega,hpl⟩ (.le vV)
  | none=>
   refine aw hf ?_
   exact hR1 (i+1,mput l (MK.s (List.take (((i:Int)+4).toNat-i) (List.drop i base))) (.int .i64 i)) _ (by simp only;omega) ⟨by simp only;omega,adY hpl hlt⟩ (.le vV)
 ·clear hR1
  generalize hz:z1++z2=z at *
  have hzl:z.length≤20:=by rw[←hz,List.length_append];omega
  refine wW ?_
  refine aK hN (fun q:Nat×Bs×Bs×Bs=>⟨[(0,.str base),(1,.str t),(5,.ab OB 0),(6,.ptr 173025 0 0),(10,.ab PB 0),(11,.aR 65 [.ab PB 0,.ab OB 0]),(12,.int .i64 q.1)],[(PB,.var [.sl PW q.2.1.length q.2.2.1.length]),(PW,.arr 1 ((q.2.1++q.2.2.1).map ub)),(OB,.var [.sl OW 0 (z++q.2.2.2).length]),(OW,.arr 1 ((z++q.2.2.2).map ub)),(173025,.mp none l)]⟩)
   (fun q=>q.1≤t.length∧q.2.1.length+q.2.2.1.length≤q.1∧q.2.2.2.length+2*q.2.2.1.length≤2*q.1∧∃t',ga base t' q.2.2.2∧t'++q.2.2.1=t.take q.1) (fun q=>t.length-q.1) (0,[],[],[]) (.jK PB 0 PW 1 [.al] rfl rfl rfl (.le ?_)) ⟨by simp only;omega,by simp,by simp,[],.nil,by simp⟩ ?_
  ·simp(disch:=first | omega | (simp only[Lx];omega))only[go_sem,simprocAttr,List.append_nil,List.length_nil,List.map_nil]
  rintro⟨i,pre,pl,ob⟩ R1 ⟨hi,hpr,hob,t',hops,htk⟩ hR1
  simp only at hi hpr hob hops htk
  have hsm:=Dc pre pl 0 pl.length (by omega)
  rw[Nat.add_zero,List.drop_zero,List.take_of_length_le (Nat.le_refl _)]at hsm
  by_cases hlt:i<t.length
  ·refine wW ?_
   refine cH hN (fun q:Nat×Bool=>⟨[(0,.str base),(1,.str t),(5,.ab OB 0),(6,.ptr 173025 0 0),(10,.ab PB 0),(11,.aR 65 [.ab PB 0,.ab OB 0]),(12,.int .i64 i),(13,.int .i64 0),(14,.int .i64 q.1),(15,.bool q.2)],[(PB,.var [.sl PW pre.length pl.length]),(PW,.arr 1 ((pre++pl).map ub)),(OB,.var [.sl OW 0 (z++ob).length]),(OW,.arr 1 ((z++ob).map ub)),(173025,.mp none l)]⟩) (fun q=>q.1≤65000) (fun R2 hR2=>?_) ?_
   ·by_cases h4:i+4≤t.length
    ·cases hf:mfind l (MK.s (List.take (((i:Int)+4).toNat-i) (List.drop i t)))with
     | some v=>
      obtain⟨k',hk'⟩:=qp hf
      obtain⟨a,ha,hat⟩:=hpl _ hk'
      simp only at ha
      subst ha
      refine aw hf ?_
      exact hR2 (a,true) _ (by simp only;omega) (.le vV)
     | none=>
      refine aw hf ?_
      exact hR2 (0,false) _ (by simp only;omega) (.le vV)
    ·refine wW ?_
     exact hR2 (0,false) _ (by simp only;omega) (.le vV)
   ·rintro⟨o,ok⟩ ho
    simp only at ho
    refine cH hN (fun n:Nat=>⟨[(0,.str base),(1,.str t),(5,.ab OB 0),(6,.ptr 173025 0 0),(10,.ab PB 0),(11,.aR 65 [.ab PB 0,.ab OB 0]),(12,.int .i64 i),(13,.int .i64 n),(14,.int .i64 o)],[(PB,.var [.sl PW pre.length pl.length]),(PW,.arr 1 ((pre++pl).map ub)),(OB,.var [.sl OW 0 (z++ob).length]),(OW,.arr 1 ((z++ob).map ub)),(173025,.mp none l)]⟩) (fun n=>n≤65536∧(n=0∨(o+n≤base.length∧i+n≤t.length))∧∀x,x<n→base.getD (o+x) 0=t.getD (i+x) 0) (fun R2 hR2=>?_) ?_
    ·refine wW ?_
     refine aK hN (fun n:Nat=>⟨[(0,.str base),(1,.str t),(5,.ab OB 0),(6,.ptr 173025 0 0),(10,.ab PB 0),(11,.aR 65 [.ab PB 0,.ab OB 0]),(12,.int .i64 i),(13,.int .i64 n),(14,.int .i64 o),(15,.bool ok)],[(PB,.var [.sl PW pre.length pl.length]),(PW,.arr 1 ((pre++pl).map ub)),(OB,.var [.sl OW 0 (z++ob).length]),(OW,.arr 1 ((z++ob).map ub)),(173025,.mp none l)]⟩) (fun n=>n≤65536∧(n=0∨(o+n≤base.length∧i+n≤t.length))∧∀x,x<n→base.getD (o+x) 0=t.getD (i+x) 0) (fun n=>65536-n) 0 (.le vV) ⟨by omega,.inl rfl,fun x hx=>by omega⟩ ?_
     rintro n R4 hinv hR4
     have fin:=hR2 n
     have ei1:((o:Int)+(n:Int)).toNat=o+n:=by omega
     have ei2:((i:Int)+(n:Int)).toNat=i+n:=by omega
     cases ok with
     | false=>
      refine wW ?_
      refine gG ?_
      exact fin _ hinv (.le vV)
     | true=>
      by_cases g1:n<65536
      ·by_cases g2:o+n<base.length
       ·by_cases g3:i+n<t.length
        ·by_cases g4:base.getD (o+n) 0=t.getD (i+n) 0
         ·have g4':((base.getD (o+n) 0).toNat:Int)=((t.getD (i+n) 0).toNat:Int):=by rw[g4]
          refine ck ei1 ei2 g4' ?_
          refine gG ?_
          exact hR4 (n+1) _ (by omega) ⟨by omega,.inr ⟨by omega,by omega⟩,fun x hx=>by
           by_cases e:x=n
           ·subst e;exact g4
           ·exact hinv.2.2 x (by omega)⟩ (.le vV)
         ·have g4':¬((base.getD (o+n) 0).toNat:Int)=((t.getD (i+n) 0).toNat:Int):=fun e=>g4 (UInt8.toNat_inj.1 (by omega))
          refine ck ei1 ei2 g4' ?_
          refine gG ?_
          exact fin _ hinv (.le vV)
        ·refine wW ?_
         refine gG ?_
         exact fin _ hinv (.le vV)
       ·refine wW ?_
        refine gG ?_
        exact fin _ hinv (.le vV)
      ·exfalso
       obtain⟨h1,h2,_⟩:=hinv
       omega
    ·rintro n ⟨hn1,hn2,hn3⟩
     by_cases hn:n<4
     ·have hgt:t.take (i+1)=t.take i++[t.getD i 0]:=gy t 0 hlt
      refine aw hsm ?_
      exact hR1 (i+1,[],pl++[t.getD i 0],ob) _ (by simp only;omega) ⟨by simp only;omega,by simp only[List.length_nil,List.length_append,List.length_singleton];omega,by simp only[List.length_append,List.length_singleton];omega,t',hops,by rw[hgt,←htk,List.append_assoc]⟩ (.le (by simp(disch:=first | omega | (simp only[Lx];omega))only[go_sem,simprocAttr,List.nil_append,List.length_nil];simp[ub]))
     ·obtain⟨hob1,hit⟩:o+n≤base.length∧i+n≤t.length:=hn2.resolve_left (by omega)
      have hfl:=w8 pre pl (z++ob) (by omega) (by omega) (by rw[List.length_append];omega)
      have hcp:=Ke o n (by omega) hn1
      have hil:=s4 pl.length pl (Nat.le_refl _)
      change (fU pl).length≤2*pl.length at hil
      have hcl:=Jb o n
      have hsa:=jt (z++ob++fU pl)
      rw[List.length_append,List.length_append]at hsa
      have hops2:=tG pl.length pl t' ob (Nat.le_refl _) hops
      rw[htk]at hops2
      have hops3:=ga.jD _ _ o n hops2 (by omega) hn1 hob1
      have heq:t.take i++(base.drop o).take n=t.take (i+n):=by
       apply List.ext_getElem?
       intro x
       have htl:(t.take i).length=i:=by rw[List.length_take];omega
       by_cases hx:x<i
       ·rw[List.getElem?_append_left (by omega),List.getElem?_take,List.getElem?_take,if_pos hx,if_pos (by omega)]
       ·rw[List.getElem?_append_right (by omega),htl,List.getElem?_take,List.getElem?_take,List.getElem?_drop]
        by_cases hx2:x-i<n
        ·have:=hn3 (x-i) hx2
         rw[if_pos hx2,if_pos (by omega)]
         rw[show i+(x-i)=x by omega]at this
         rw[List.getD_eq_getElem?_getD,List.getD_eq_getElem?_getD,List.getElem?_eq_getElem (by omega),List.getElem?_eq_getElem (by omega)]at this
         rw[List.getElem?_eq_getElem (by omega),List.getElem?_eq_getElem (by omega)]
         simpa using this
        ·rw[if_neg hx2,if_neg (by omega)]
      rw[heq]at hops3
      refine wW ?_
      refine xu (bargs:=[.c (.ab PB 0),.c (.ab OB 0)]) (bs:=[.ab PB 0,.ab OB 0]) wM rfl rfl ?_
      refine aI (gR pre pl (z++ob)) hfl (by simp(disch:=first | omega | (simp only[Lx];omega))only[go_sem,simprocAttr,gR,List.length_append]) nofun ?_
      rintro h' v ar ⟨rfl,rfl,rfl⟩
      refine⟨by simp(disch:=first | omega | (simp only[Lx];omega))only[go_sem,simprocAttr,gR],rfl,?_⟩
      simp(disch:=first | omega | (simp only[Lx];omega))only[go_sem,simprocAttr,gR]
      refine aG hcp rfl rfl ?_
      refine aw hsa ?_
      exact hR1 (i+n,pre++pl,[],ob++fU pl++j6 o n) _ (by simp only;omega) ⟨by simp only;omega,by simp only[List.length_nil,List.length_append];omega,by simp only[List.length_nil,List.length_append];omega,_,hops3,by simp⟩ (.le (by simp(disch:=first | omega | (simp only[Lx];omega))only[go_sem,simprocAttr,List.append_nil,List.length_nil,List.length_append,List.append_assoc,Nat.add_assoc]))
  ·obtain rfl:i=t.length:=by omega
   have hfl:=w8 pre pl (z++ob) (by omega) (by omega) (by rw[List.length_append];omega)
   have hil:=s4 pl.length pl (Nat.le_refl _)
   change (fU pl).length≤2*pl.length at hil
   have hops2:=tG pl.length pl t' ob (Nat.le_refl _) hops
   rw[htk,List.take_of_length_le (Nat.le_refl _)]at hops2
   have hsa:=jt (z++ob++fU pl)
   refine wW ?_
   refine xu (bargs:=[.c (.ab PB 0),.c (.ab OB 0)]) (bs:=[.ab PB 0,.ab OB 0]) wM rfl rfl ?_
   refine aI (gR pre pl (z++ob)) hfl (by simp(disch:=first | omega | (simp only[Lx];omega))only[go_sem,simprocAttr,gR,List.length_append]) nofun ?_
   rintro h' v ar ⟨rfl,rfl,rfl⟩
   refine⟨by simp(disch:=first | omega | (simp only[Lx];omega))only[go_sem,simprocAttr,gR],rfl,?_⟩
   generalize hOB:ob++fU pl=ob2 at *
   have hol2:ob2.length≤2*t.length:=by rw[←hOB,List.length_append];omega
   have eob:z++ob++fU pl=z++ob2:=by rw[List.append_assoc,hOB]
   rw[eob]at hsa ⊢
   clear hR1 htk hops
   simp(disch:=first | omega | (simp only[Lx];omega))only[go_sem,simprocAttr,gR]
   refine aI [] hs1 trivial (fun _=>rfl) ?_
   rintro h' v ar ⟨rfl,rfl,rfl⟩
   refine⟨vV,rfl,?_⟩
   refine wW ?_
   refine j5 ⟨[(0,.str base),(1,.str t),(5,.ab OB 0),(132,.sl SP 0 z1.length),(134,.int .i64 t.length)],[(SP,.arr 1 (z1.map ub)),(OB,.var [.sl OW 0 (z++ob2).length]),(OW,.arr 1 ((z++ob2).map ub))]⟩ (.fF 171013 SP rfl rfl (.le ?_)) rfl ?_
   ·simp(disch:=first | omega | (simp only[Lx];omega))only[go_sem,simprocAttr,List.length_append]
   refine aI [] hs2 trivial (fun _=>rfl) ?_
   rintro h' v ar ⟨rfl,rfl,rfl⟩
   refine⟨vV,rfl,?_⟩
   refine bm hsa1 hsa2 ?_
   refine aK hN (fun q:Nat×Bs=>⟨[(1,.str (t.drop q.1)),(5,.ab OB 0),(16,.sl SP 0 (z++q.2).length)],[(SP,.arr 1 ((z++q.2).map ub)),(OB,.var [.sl OW 0 (z++ob2).length]),(OW,.arr 1 ((z++ob2).map ub))]⟩) (fun q=>q.1≤t.length∧q.2.length≤2*q.1∧ga base (t.take q.1) q.2) (fun q=>t.length-q.1) (0,[]) (.le ?_) ⟨by simp only;omega,by simp,.nil⟩ ?_
   ·simp(disch:=first | omega | (simp only[Lx];omega))only[go_sem,simprocAttr,List.append_nil,←hz,List.length_append,List.drop_zero]
   rintro⟨k,sb⟩ R1 ⟨hk,hsbl,hops⟩ hR1
   simp only at hk hsbl hops
   have hdl:(t.drop k).length=t.length-k:=List.length_drop ..
   have aN:=jt (z++sb)
   by_cases hlt:k<t.length
   ·have hmi:min (((t.length-k:Nat):Int)) 127=((min (t.length-k) 127:Nat):Int):=by omega
    have hmp:0<min (t.length-k) 127:=by omega
    have hmm:min (t.length-k) 127≤127∧min (t.length-k) 127≤t.length-k:=by omega
    generalize min (t.length-k) 127=m at *
    have htl:((t.drop k).take m).length=m:=by rw[List.length_take,List.length_drop];omega
    have hops2:=ga.ins _ _ ((t.drop k).take m) hops (by omega) (by omega)
    rw[htl]at hops2
    have heq:t.take k++(t.drop k).take m=t.take (k+m):=by rw[List.take_add]
    rw[heq]at hops2
    have hum:=lG m (by omega)
    refine ck hdl hmi aN ?_
    refine hR1 (k+m,sb++UInt8.ofNat m::(t.drop k).take m) _ (by simp only;omega) ⟨by simp only;omega,by simp only[List.length_append,List.length_cons,htl];omega,hops2⟩ (.le ?_)
    have e1:z++(sb++UInt8.ofNat m::(t.drop k).take m)=z++sb++[UInt8.ofNat m]++(t.drop k).take m:=by simp
    rw[e1]
    simp(disch:=first | omega | (simp only[Lx];omega))only[go_sem,simprocAttr,htl,List.drop_drop,List.length_append,List.length_singleton]
   ·obtain rfl:k=t.length:=by omega
    rw[List.take_of_length_le (Nat.le_refl _)]at hops
    have hb1:=j4 (z++sb)
    have hb2:=j4 (z++ob2)
    have ha1:=j0 (z++sb)
    have ha2:=j0 (z++ob2)
    by_cases hc:sb.length<ob2.length
    ·simp(disch:=first | omega | (simp only[Lx];omega))only[go_sem,simprocAttr,hdl,aN,hsa,hb1,hb2,ha1,ha2]
     exact hR.ro ⟨rfl,_,⟨⟨sb,hops,rfl⟩,by rw[List.length_append];omega⟩,rfl⟩
    ·simp(disch:=first | omega | (simp only[Lx];omega))only[go_sem,simprocAttr,hdl,aN,hsa,hb1,hb2,ha1,ha2]
     exact hR.ro ⟨rfl,_,⟨⟨ob2,hops2,rfl⟩,by rw[List.length_append];omega⟩,rfl⟩
open Eng Sh
set_option maxRecDepth 10000
structure It where
 k:Int
 d:Bs
 dl:Bool
 bs:Int
 bn:Bool
def bC (x:It):AV:=.agg [.int .i64 x.k,.str x.d,.bool x.dl,.int .i64 x.bs,.bool x.bn]
def cd:It:=⟨0,[],false,0,false⟩
def cq (its:List It) (i:Nat) (x:It):Int:=
 if dz x.k x.d≠0 then dz x.k x.d
 else if x.dl=true∧(x.bs<0∨(i:Int)≤x.bs)then 1
 else if x.dl=true∧(its.getD x.bs.toNat cd).k≠x.k then 10
 else 0
def iH (n:Nat):Bs:=gp++(bh n 4).reverse
inductive BR (its:List It):Nat→Bs→List Nat→Prop
 | nil:BR its 0 (iH its.length) []
 | obj (i:Nat) (o:Bs) (l:List Nat) (x:It) (t:Bs):BR its i o l→its[i]?=some x→cq its i x=0→x.dl=false→ij x.d t→BR its (i+1) (o++(bS x.k.toNat x.d.length++b6 t x.d)) (l++[o.length])
 | mn (i:Nat) (o:Bs) (l:List Nat) (x:It) (d t:Bs):BR its i o l→its[i]?=some x→cq its i x=0→x.dl=true→x.bn=true→lN (its.getD x.bs.toNat cd).d x.d d→ij d t →
     BR its (i+1) (o++(bS 7 d.length++cF (eO (its.getD x.bs.toNat cd).k (its.getD x.bs.toNat cd).d)++b6 t d)) (l++[o.length])
 | off (i:Nat) (o:Bs) (l:List Nat) (x:It) (d t:Bs):BR its i o l→its[i]?=some x→cq its i x=0→x.dl=true→x.bn=false→lN (its.getD x.bs.toNat cd).d x.d d→ij d t →
     BR its (i+1) (o++(bS 6 d.length++dJ (o.length-l.getD x.bs.toNat 0)++b6 t d)) (l++[o.length])
def u6 (its:List It) (r:AV):Prop:=
 (∃o l,BR its its.length o l∧r=.ak [.str (o++cF o),.int .i64 0]) ∨
 ∃i o l x,BR its i o l∧its[i]?=some x∧cq its i x≠0∧r=.ak [.str [],.int .i64 (cq its i x)]
theorem ym:∀(f c m:Nat),(hdB f c m).length≤f+1
 | 0,c,m=>by simp[hdB]
 | f+1,c,m=>by
  have:=ym f (m%128) (m/128)
  rw[hdB];split<;>simp<;>omega
theorem vT:∀(f:Nat) (acc:Bs) (m:Nat),(bkB f acc m).length≤f+acc.length
 | 0,acc,m=>by simp[bkB]
 | f+1,acc,m=>by
  have:=vT f (UInt8.ofNat ((m-1)%128+128)::acc) ((m-1)/128)
  rw[bkB];split<;>simp at*<;> omega
theorem jw (t s:Bs):(b6 t s).length=t.length+6:=by
 have:=eA (c8 s) 4
 simp only[b6,List.length_append,List.length_reverse,List.length_cons,List.length_nil]
 omega
theorem Oy {its:List It} (hd:∀x∈its,x.d.length≤20000) (k:Nat):(its.getD k cd).d.length≤20000:=by
 rw[List.getD_eq_getElem?_getD]
 cases h:its[k]? with
 | none=>simp[cd]
 | some x=>exact hd x (List.mem_of_getElem? h)
theorem jE (k n:Nat):(bS k n).length≤10:=ym 9 _ _
theorem rJ (n:Nat):(dJ n).length≤10:=vT 9 _ _
theorem j3 {its:List It} (hd:∀x∈its,x.d.length≤20000):∀{i:Nat} {o:Bs} {l:List Nat},BR its i o l→o.length≤12+40200*i∧12≤o.length∧l.length=i∧(∀n∈l,n<o.length)∧i≤its.length:=by
 intro i o l h
 have snoc:∀{l:List Nat} {o z:Bs},(∀n∈l,n<o.length)→1≤z.length→∀n∈l++[o.length],n<(o++z).length:=by
  intro l o z h1 h2 n hn
  rw[List.length_append]
  rcases List.mem_append.1 hn with hn | hn
  ·have:=h1 n hn;omega
  ·have:=List.mem_singleton.1 hn;omega
 induction h with
 | nil=>
  have:=eA its.length 4
  refine⟨?_,?_,rfl,fun n hn=>(by cases hn),by omega⟩<;>simp[iH,gp,this]
 | obj i o l x t h hx he hdl hp ih=>
  obtain⟨h1,h2,h3,h4,h5⟩:=ih
  have hxd:=hd x (List.mem_of_getElem? hx)
  have hlt:=(List.getElem?_eq_some_iff.1 hx).1
  have g1:=jE x.k.toNat x.d.length
  have g2:=jw t x.d
  have g3:=je hp
  have hz:1≤(bS x.k.toNat x.d.length++b6 t x.d).length:=by rw[List.length_append];omega
  refine⟨?_,?_,by simp[h3],snoc h4 hz,by omega⟩<;>simp only[List.length_append]<;>omega
 | mn i o l x d t h hx he hdl hbn hde hp ih=>
  obtain⟨h1,h2,h3,h4,h5⟩:=ih
  have hxd:=hd x (List.mem_of_getElem? hx)
  have hlt:=(List.getElem?_eq_some_iff.1 hx).1
  have g1:=jE 7 d.length
  have g2:=jw t d
  have g3:=je hp
  have g4:=hde.2
  have g5:=gH (eO (its.getD x.bs.toNat cd).k (its.getD x.bs.toNat cd).d)
  refine⟨?_,?_,by simp[h3],snoc h4 (by simp only[List.length_append];omega),by omega⟩<;>simp only[List.length_append]<;>omega
 | off i o l x d t h hx he hdl hbn hde hp ih=>
  obtain⟨h1,h2,h3,h4,h5⟩:=ih
  have hxd:=hd x (List.mem_of_getElem? hx)
  have hlt:=(List.getElem?_eq_some_iff.1 hx).1
  have g1:=jE 6 d.length
  have g2:=jw t d
  have g3:=je hp
  have g4:=hde.2
  have g5:=rJ (o.length-l.getD x.bs.toNat 0)
  refine⟨?_,?_,by simp[h3],snoc h4 (by simp only[List.length_append];omega),by omega⟩<;>simp only[List.length_append]<;>omega
theorem wJ {k:Int} {d:Bs} (h:dz k d=0):1≤k∧k≤4∧d.length≤65000:=by
 refine⟨?_,?_,wK h⟩ <;>
 ·unfold dz at h
  split at h
  ·cases h
  ·rename_i hn
   unfold iO at hn
   by_cases h1:k=1
   ·omega
   by_cases h2:k=2
   ·omega
   by_cases h3:k=3
   ·omega
   by_cases h4:k=4
   ·omega
   simp[h1,h2,h3,h4]at hn
set_option maxHeartbeats 4000000 in
theorem aeX (its:List It) (hn:its.length≤20) (hd:∀x∈its,x.d.length≤20000):Eng.Spec Tryz.prog 15 [] [.ro 5 (its.map bC)] (fun h r _=>h=[]∧u6 its r):=by
 refine Cod.AM (fun E R hN hR=>?_)
 have h2:=mV 2 4 (by decide) (by decide)
 have h0:=mV its.length 4 (by omega) (by decide)
 have e2:(bh 2 4).reverse=[0,0,0,2]:=by decide
 rw[e2]at h2
 have hl4:=eA its.length 4
 have hil:(its.map bC).length=its.length:=List.length_map ..
 refine aw hil ?_
 refine aG h2 rfl rfl ?_
 refine aw hil ?_
 refine aG h0 rfl rfl ?_
 simp(disch:=omega)only[go_sem,simprocAttr,List.length_reverse,hl4]
 have ehd:(80::65::67::75::0::0::0::2::(bh its.length 4).reverse:Bs)=iH its.length:=rfl
 rw[ehd]
 refine aK hN (fun q:Nat×Bs×List Nat=>⟨[(0,.ro 5 (its.map bC)),(4,.str q.2.1),(5,.sl 146070 0 q.2.2.length),(25,.ro 5 (its.map bC)),(26,.int .i64 its.length),(27,.int .i64 q.1)],[(146070,.arr 1 (an q.2.2))]⟩) (fun q=>BR its q.1 q.2.1 q.2.2) (fun q=>its.length-q.1) (0,iH its.length,[]) (.nil 5 146070 1 rfl (.le (by simp(disch:=omega)only[go_sem,simprocAttr,List.length_nil,gZ]))) .nil ?_
 rintro⟨i,o,l⟩ R1 hbr hR1
 simp only at hbr
 obtain⟨hol,ho12,hll,hlm,hin⟩:=j3 hd hbr
 by_cases hlt:i<its.length
 ·have hxi:its[i]?=some its[i]:=List.getElem?_eq_getElem hlt
  generalize its[i]=x at *
  have hxd:=hd x (List.mem_of_getElem? hxi)
  have hnth:nth (its.map bC) i=bC x:=by simp[nth,List.getD_eq_getElem?_getD,hxi]
  have hck:=wL x.k x.d (by omega)
  have hR2:cq its i x≠0→∀h ar,R h (.ak [.str [],.int .i64 (cq its i x)]) ar:=fun he h ar=>hR.ro ⟨rfl,.inr ⟨i,o,l,x,hbr,hxi,he,rfl⟩⟩
  have hns:aM (an l) 0 i=an l:=by rw[eV,List.drop_zero,List.take_of_length_le (by omega)]
  have hlen2:(l++[o.length]).length=i+1:=by rw[List.length_append,List.length_singleton];omega
  unfold fO at hck
  simp(disch:=omega)only[go_sem,simprocAttr,hil,hnth,bC,hll]
  refine aG hck rfl rfl ?_
  by_cases hc:dz x.k x.d=0
  ·obtain⟨hk1,hk4,hk65⟩:=wJ hc
   cases hdl:x.dl with
   | false=>
    have he0:cq its i x=0:=by simp[cq,hc,hdl]
    have hh:=sP x.k.toNat x.d.length (by omega) (by omega)
    rw[show((x.k.toNat:Nat):Int)=x.k by omega]at hh
    have hb1:=j4 (bS x.k.toNat x.d.length)
    have ha1:=j0 (bS x.k.toNat x.d.length)
    have hhl:=jE x.k.toNat x.d.length
    refine cM hc hdl hns @eG @eF ?_
    refine gS hns @eG @eF ?_
    refine aG hh rfl rfl ?_
    refine bm hb1 ha1 ?_
    refine fg (u5 x.d (by omega)) rfl ?_
    rintro h' v ar ⟨rfl,t,ht,rfl⟩
    have hzl:=jw t x.d
    have htl:=je ht
    refine⟨rfl,rfl,?_⟩
    refine aw hzl ?_
    exact hR1 (i+1,_,l++[o.length]) _ (by simp only;omega) (.obj i o l x t hbr hxi he0 hdl ht) (.le (cW hlen2))
   | true=>
    by_cases hb:0≤x.bs∧x.bs<i
    ·obtain⟨hb0,hbi⟩:=hb
     have hgy:its[x.bs.toNat]?=some (its.getD x.bs.toNat cd):=by
      rw[List.getD_eq_getElem?_getD,List.getElem?_eq_getElem (by omega)];rfl
     have hyd:=Oy hd x.bs.toNat
     have hnr:¬(x.dl=true∧(x.bs<0∨(i:Int)≤x.bs)):=by omega
     have herr:cq its i x=if(its.getD x.bs.toNat cd).k≠x.k then 10 else 0:=by unfold cq;rw[if_neg (fun h=>h hc),if_neg hnr];simp only[hdl,true_and]
     have hynth:nth (its.map bC) x.bs.toNat=bC (its.getD x.bs.toNat cd):=by unfold nth;rw[List.getD_eq_getElem?_getD,List.getElem?_map,hgy];rfl
     have hnl2:nth (an (l++[o.length])) x.bs.toNat=.int .i64 (l.getD x.bs.toNat 0:Nat):=by
      rw[dQ (by omega),List.getD_eq_getElem?_getD,List.getElem?_append_left (by omega),←List.getD_eq_getElem?_getD]
     have hlg1:l.getD x.bs.toNat 0<o.length:=by
      rw[List.getD_eq_getElem?_getD,List.getElem?_eq_getElem (by omega)]
      exact hlm _ (List.getElem_mem _)
     have hyc:(its.getD x.bs.toNat cd).k=x.k→dz (its.getD x.bs.toNat cd).k (its.getD x.bs.toNat cd).d=0:=fun e=>by
      unfold dz at hc ⊢
      rw[e]
      split at hc
      ·cases hc
      ·rename_i hnn
       rw[if_neg hnn,if_neg (by omega)]
     have nams:=fun d t=>BR.mn i o l x d t hbr hxi
     have offs:=fun d t=>BR.off i o l x d t hbr hxi
     generalize its.getD x.bs.toNat cd=y at *
     generalize l.getD x.bs.toNat 0=ly at *
     by_cases hk:y.k=x.k
     ·have he0:cq its i x=0:=by rw[herr,if_neg (by simpa using hk)]
      have hyc:=hyc hk
      simp(disch:=omega)only[go_sem,simprocAttr,hc,hdl,hns,eG,eF,hynth,bC,hil]
      (repeat(first | refine dW ?_ | refine dU ?_ | refine dV ?_)<;>simp(disch:=omega)only[go_sem,simprocAttr,hns,eG,eF,hynth,bC,hil,hk])
      refine fg (LK y.d x.d (by omega) (by omega)) rfl ?_
      rintro h' v ar ⟨rfl,d,hdp,rfl⟩
      have hdl2:=hdp.2
      refine⟨rfl,rfl,?_⟩
      have hlo:((o.length:Nat):Int)-(ly:Int)=((o.length-ly:Nat):Int):=by omega
      cases hbn:x.bn with
      | true=>
       have hid:=Su y.k y.d (by omega)
       unfold sX fO at hid
       rw[if_pos hyc]at hid
       have hun:=az2 (cF (eO y.k y.d)) (by rw[gH];decide)
       have hsl:=gH (eO y.k y.d)
       have hh:=sP 7 d.length (by decide) (by omega)
       rw[show((7:Nat):Int)=7 from rfl]at hh
       have hb1:=j4 (bS 7 d.length)
       have ha1:=j0 (bS 7 d.length)
       have hhl:=jE 7 d.length
       have nams:=nams d
       refine aw hbn ?_
       refine aG hid rfl rfl ?_
       refine wW ?_
       refine aG hun rfl rfl ?_
       refine wW ?_
       refine aG hh rfl rfl ?_
       refine ck hb1 ha1 hsl ?_
       refine fg (u5 d (by omega)) rfl ?_
       rintro h' v ar ⟨rfl,t,ht,rfl⟩
       have hzl:=jw t d
       have htl:=je ht
       refine⟨rfl,rfl,?_⟩
       refine bm hzl hsl ?_
       exact hR1 (i+1,_,l++[o.length]) _ (by simp only;omega) (nams t he0 hdl hbn hdp ht) (.le (cW hlen2))
      | false=>
       have hh:=sP 6 d.length (by decide) (by omega)
       rw[show((6:Nat):Int)=6 from rfl]at hh
       have hb1:=j4 (bS 6 d.length)
       have ha1:=j0 (bS 6 d.length)
       have hhl:=jE 6 d.length
       have hbk:=GI (o.length-ly) (by omega)
       have hb2:=j4 (dJ (o.length-ly))
       have ha2:=j0 (dJ (o.length-ly))
       have hbl:=rJ (o.length-ly)
       have offs:=offs d
       refine ck hbn hnl2 hlo ?_
       refine aG hh rfl rfl ?_
       refine bm hb1 ha1 ?_
       refine aG hbk rfl rfl ?_
       refine bm hb2 ha2 ?_
       refine fg (u5 d (by omega)) rfl ?_
       rintro h' v ar ⟨rfl,t,ht,rfl⟩
       have hzl:=jw t d
       have htl:=je ht
       refine⟨rfl,rfl,?_⟩
       refine aw hzl ?_
       exact hR1 (i+1,_,l++[o.length]) _ (by simp only;omega) (offs t he0 hdl hbn hdp ht) (.le (cW hlen2))
     ·have he10:cq its i x=10:=by rw[herr,if_pos hk]
      rw[he10]at hR2
      simp(disch:=omega)only[go_sem,simprocAttr,hc,hdl,hynth,bC,hil]
      (repeat(first | refine dW ?_ | refine dU ?_ | refine dV ?_)<;>simp(disch:=omega)only[go_sem,simprocAttr,hynth,bC,hil,hk])
      exact hR2 (by decide) _ _
    ·have he1:cq its i x=1:=by
      have:x.bs<0∨(i:Int)≤x.bs:=by omega
      unfold cq
      rw[if_neg (fun h=>h hc),if_pos ⟨hdl,this⟩]
     rw[he1]at hR2
     by_cases hb0:x.bs<0
     ·refine bm hc hdl ?_
      refine gG ?_
      exact hR2 (by decide) _ _
     ·have hbi:(i:Int)≤x.bs:=by omega
      refine bm hc hdl ?_
      refine gG ?_
      exact hR2 (by decide) _ _
  ·have he:cq its i x=dz x.k x.d:=if_pos hc
   rw[he]at hR2
   refine aw hc ?_
   exact hR2 hc _ _
 ·obtain rfl:i=its.length:=by omega
  have hs:=qK o (by omega)
  have hsl:=gH o
  refine wW ?_
  refine aG hs rfl rfl ?_
  refine wW ?_
  exact hR.ro ⟨rfl,.inl ⟨o,l,hbr,rfl⟩⟩
theorem wD {its:List It} {D:Nat} (hd:∀x∈its,x.d.length≤D):∀{i:Nat} {o:Bs} {l:List Nat},BR its i o l→o.length≤12+(2*D+80)*i:=by
 intro i o l h
 have up:∀{i n z:Nat},n≤12+(2*D+80)*i→z≤2*D+80→n+z≤12+(2*D+80)*(i+1):=by
  intro i n z h1 h2
  rw[Nat.mul_succ]
  omega
 induction h with
 | nil=>
  have:=eA its.length 4
  simp[iH,gp,this]
 | obj i o l x t h hx he hdl hp ih=>
  have hxd:=hd x (List.mem_of_getElem? hx)
  have g1:=jE x.k.toNat x.d.length
  have g2:=jw t x.d
  have g3:=je hp
  rw[List.length_append]
  exact up ih (by simp only[List.length_append];omega)
 | mn i o l x d t h hx he hdl hbn hde hp ih=>
  have hxd:=hd x (List.mem_of_getElem? hx)
  have g1:=jE 7 d.length
  have g2:=jw t d
  have g3:=je hp
  have g4:=hde.2
  have g5:=gH (eO (its.getD x.bs.toNat cd).k (its.getD x.bs.toNat cd).d)
  rw[List.length_append]
  exact up ih (by simp only[List.length_append];omega)
 | off i o l x d t h hx he hdl hbn hde hp ih=>
  have hxd:=hd x (List.mem_of_getElem? hx)
  have g1:=jE 6 d.length
  have g2:=jw t d
  have g3:=je hp
  have g4:=hde.2
  have g5:=rJ (o.length-l.getD x.bs.toNat 0)
  rw[List.length_append]
  exact up ih (by simp only[List.length_append];omega)
def nh (x:It):It:={x with d:=x.d.take 400}
def dG (its:List It) (n:Nat):List It:=(its.take n).map nh
def mN (x:It):Prop:=x.d.length≤140737488351232
theorem axs (its:List It) (n:Nat):(dG its n).length≤n:=by simp[dG];omega
theorem axr (its:List It) (n:Nat):∀x∈dG its n,x.d.length≤400:=by
 intro x hx
 obtain⟨y,_,rfl⟩:=List.mem_map.1 hx
 simp only[nh,List.length_take];omega
theorem zC (its:List It) (n:Nat) (hb:∀x∈its,mN x) (hl:its.length*48≤140737488351232) (hn:n≤1000):aZ Tryz.prog 14 [.ro 5 (its.map bC),.int .i64 n] (.ro 5 ((dG its n).map bC)):=by
 refine Cod.aaq (fun E R hN hR=>?_)
 have hil:(its.map bC).length=its.length:=List.length_map ..
 refine wW ?_
 refine aK hN (fun k:Nat=>⟨[(0,.ro 5 (its.map bC)),(1,.int .i64 n),(5,.sl 184008 0 k),(6,.int .i64 k)],[(184008,.arr 5 ((dG its k).map bC))]⟩) (fun k=>k≤n∧k≤its.length) (fun k=>n-k) 0 (.le (by simp(disch:=omega)only[go_sem,simprocAttr,show dG its 0=[]from rfl,List.map_nil])) ⟨by omega,by omega⟩ ?_
 rintro k R1 ⟨hk,hki⟩ hR1
 have hsl:(dG its k).length=k:=by simp[dG];omega
 have hsa:aM ((dG its k).map bC) 0 k=(dG its k).map bC:=by
  unfold aM
  rw[List.drop_zero,List.take_of_length_le (by rw[List.length_map,hsl];exact Nat.le_refl _)]
 by_cases hlt:k<its.length
 ·by_cases hkn:k<n
  ·have hxi:its[k]?=some its[k]:=List.getElem?_eq_getElem hlt
   have hstep:dG its (k+1)=dG its k++[nh its[k]]:=by
    unfold dG
    rw[List.take_add_one,hxi,List.map_append]
    rfl
   have hxb:=hb _ (List.getElem_mem hlt)
   generalize its[k]=x at *
   unfold mN at hxb
   have hnth:nth (its.map bC) k=bC x:=by unfold nth;rw[List.getD_eq_getElem?_getD,List.getElem?_map,hxi];rfl
   have hf:=M9 x.d 400 (by omega) (by decide)
   rw[show((400:Nat):Int)=400 from rfl]at hf
   have hitc:∀l:List It,(l.map bC).all bb=true:=fun l=>by simp[bC,bb,cellsOf,isCell]
   have hitA:bC (nh x)=.agg [.int .i64 x.k,.str (x.d.take 400),.bool x.dl,.int .i64 x.bs,.bool x.bn]:=rfl
   simp(disch:=omega)only[go_sem,simprocAttr,hil,hnth,bC]
   (repeat(first | refine dW ?_ | refine dU ?_ | refine dV ?_)<;>simp(disch:=omega)only[go_sem,simprocAttr,hil,hnth,bC])
   refine aG hf rfl rfl ?_
   refine bm hsa hitc ?_
   refine hR1 (k+1) _ (by omega) ⟨by omega,by omega⟩ (.le ?_)
   rw[hstep,List.map_append,List.map_cons,List.map_nil,hitA]
   exact vV
  ·obtain rfl:k=n:=by omega
   refine aw hil ?_
   refine gG ?_
   exact hR.wk (h':=[]) (r':=.ro 5 ((dG its k).map bC)) (ar':=[.undef,.undef]) rfl (.bF 184008 (.le (cW hsa))) ⟨rfl,rfl⟩
 ·obtain rfl:k=its.length:=by omega
  have e:dG its n=dG its its.length:=by
   unfold dG
   rw[List.take_of_length_le hk,List.take_of_length_le (Nat.le_refl _)]
  rw[e]at hR
  refine aw hil ?_
  refine gG ?_
  exact hR.wk (h':=[]) (r':=.ro 5 ((dG its its.length).map bC)) (ar':=[.undef,.undef]) rfl (.bF 184008 (.le (cW hsa))) ⟨rfl,rfl⟩
theorem ME {s:Bs} {q:Nat} {bs:List Bool} (h:ik s q bs):∃B,bs=cK 3 3++B:=by
 induction h with
 | nil=>exact⟨[],by simp⟩
 | lit q bs h hq ih=>obtain⟨B,rfl⟩:=ih;exact⟨_,List.append_assoc ..⟩
 | rep q bs n b i j h h1 h2 ih=>obtain⟨B,rfl⟩:=ih;exact⟨_,List.append_assoc ..⟩
theorem ayJ (s:Bs):jT s=1::(bh s.length 2++bh (65535-s.length) 2++s):=by
 have h1:(eg (cK 1 3)).length=8*1:=by rw[ov,fC]
 have h2:=Ay (eg (cK 1 3)) (bh s.length 2++bh (65535-s.length) 2++s) 1 h1
 have h3:=gu (bh s.length 2++bh (65535-s.length) 2++s) 0
 have h4:dE (eg (cK 1 3)) 1=[1]:=by decide
 rw[h4]at h2
 unfold jT eZ lD
 rw[List.length_append,h1,h3,show(8*1+(8*(bh s.length 2++bh (65535-s.length) 2++s).length-0)+7)/8=1+(bh s.length 2++bh (65535-s.length) 2++s).length by omega,h2]
 rfl
theorem two_bytes (t:Bs) (a x:Nat) (h0:t.getD a 0=UInt8.ofNat (x%256)) (h1:t.getD (a+1) 0=UInt8.ofNat (x/256%256)) (hx:x<65536):numAt t (8*a) 16=x:=by
 rw[Ac t (8*a) 8 8,jL,show 8*a+8=8*(a+1)by omega,jL,h0,h1,UInt8.toNat_ofNat',UInt8.toNat_ofNat']
 omega
theorem B7 {s T:Bs} {most:Nat} (hm:s.length≤most) (hT:∀k,k<s.length→T.getD (5+k) 0=s.getD k 0) (hl:5+s.length≤T.length):∀(m k:Nat),k+m=s.length→rawS T most m ⟨40+8*k,s.take k,0⟩=⟨40+8*s.length,s,0⟩
 | 0,k,h=>by
  obtain rfl:k=s.length:=by omega
  rw[List.take_of_length_le (Nat.le_refl _)]
  rfl
 | m+1,k,h=>by
  have htl:(s.take k).length=k:=by rw[List.length_take];omega
  have hnum:aJ T 8 ⟨40+8*k,s.take k,0⟩=((s.getD k 0).toNat,⟨40+8*k+8,s.take k,0⟩):=by
   rw[eW rfl (by simp only;omega)]
   simp only
   rw[show 40+8*k=8*(5+k)by omega,jL,hT k (by omega)]
  have hsn:=gy s 0 (show k<s.length by omega)
  rw[rawS]
  simp only[hnum,dk,htl]
  rw[if_neg (by simp),if_neg (by simp),if_neg (by omega),UInt8.ofNat_toNat,←hsn,show 40+8*k+8=40+8*(k+1)by omega]
  exact B7 hm hT hl m (k+1) (by omega)
theorem Kn {s t:Bs} {most:Nat} (h:ij s t) (hs:s.length≤65535) (hm:s.length≤most) (r:Bs):dY (t++r) most=(s,t.length,0):=by
 rcases h with⟨bs,henc,rfl,_⟩ | rfl
 ·obtain⟨R,hR⟩:=asn (bs++a7 bl 256) r
  have htl:(eZ (bs++a7 bl 256)).length=((bs++a7 bl 256).length+7)/8:=jN _ _
  generalize hT:eZ (bs++a7 bl 256)++r=T at *
  have hTl:T.length=(eZ (bs++a7 bl 256)).length+r.length:=by rw[←hT,List.length_append]
  rw[List.append_assoc]at hR
  have hpk:=(MD hm (Nat.zero_le _) henc _ hR).2
  rw[List.take_of_length_le (Nat.le_refl _),Nat.zero_add,Nat.zero_add]at hpk
  obtain⟨B,hB⟩:=ME henc
  have hR2:aX T 0=cK 3 3++(B++(a7 bl 256++R)):=by rw[hR,hB,List.append_assoc]
  have hn3:=Ab hR2 (Nat.zero_le _) (by decide:3<2^3)
  have hr3:=jR hR2 (Nat.zero_le _)
  rw[fC]at hr3
  have hn1:numAt T 0 1=1:=by rw[←lp T 0 (show 1≤3 by decide),hn3]
  have hn2:numAt T 1 2=1:=by
   have:=lj T 0 (show 1≤3 by decide)
   rw[hn3]at this
   exact this.symm
  have hrb:=jR hR (Nat.zero_le _)
  rw[Nat.zero_add]at hrb
  have hon:=mD hR
  rw[Nat.zero_add]at hon
  have hsy:=qL (S:=⟨bs.length,s,0⟩) (s:=256) kQ j8 (by rw[j9];decide) (kR _ (by decide)) hon rfl
  have hend:da T most bl bR ⟨bs.length,s,0⟩=⟨bs.length+(a7 bl 256).length,s,0⟩:=by
   rw[nF (by simpa using hrb)]
   unfold dH
   simp only[hsy]
   simp
  have hblk:dy T most ⟨0,[],0⟩=(true,⟨bs.length+(a7 bl 256).length,s,0⟩):=by
   unfold dy
   simp only[Nat.zero_add]
   rw[if_neg (by omega),hn1,hn2,hpk,hend]
   simp
  have hrun:fH T most ⟨0,[],0⟩=⟨bs.length+(a7 bl 256).length,s,0⟩:=by
   rw[run_eq (Nat.zero_le _),hblk,if_pos (.inr rfl)]
  unfold dY
  rw[hrun]
  simp only
  rw[if_neg (by simp),htl,List.length_append]
 ·have hl:=uH s
  have he:=ayJ s
  have h2:=eA s.length 2
  have h3:=eA (65535-s.length) 2
  generalize hT:jT s++r=T at *
  have hTl:T.length=s.length+5+r.length:=by rw[←hT,List.length_append,hl]
  have get:∀k,k<s.length+5→T.getD k 0=(jT s).getD k 0:=fun k hk=>by
   rw[←hT,List.getD_eq_getElem?_getD,List.getElem?_append_left (by omega),←List.getD_eq_getElem?_getD]
  have l2:∀x:Nat,bh x 2=[UInt8.ofNat (x%256),UInt8.ofNat (x/256%256)]:=fun x=>by simp[bh,List.range_succ]
  rw[l2,l2]at he
  have g0:=get 0 (by omega)
  have g1:=get 1 (by omega)
  have g2:=get 2 (by omega)
  have g3:=get 3 (by omega)
  have g4:=get 4 (by omega)
  have gk:∀k,k<s.length→T.getD (5+k) 0=s.getD k 0:=fun k hk=>by
   rw[get (5+k) (by omega),he,show 5+k=k+4+1 by omega]
   simp
  rw[he]at g0 g1 g2 g3 g4
  have n0:numAt T 0 8=1:=by
   have:=jL T 0
   rw[g0]at this
   exact this
  have hn1:numAt T 0 1=1:=by rw[←lp T 0 (show 1≤8 by decide),n0]
  have hn2:numAt T 1 2=0:=by
   have h3:numAt T 0 3=1:=by rw[←lp T 0 (show 3≤8 by decide),n0]
   have:=lj T 0 (show 1≤3 by decide)
   rw[h3]at this
   exact this.symm
  have na:numAt T 8 16=s.length:=two_bytes T 1 s.length g1 g2 (by omega)
  have nb:numAt T 24 16=65535-s.length:=two_bytes T 3 (65535-s.length) g3 g4 (by omega)
  have hst:eJ T most ⟨3,[],0⟩=⟨40+8*s.length,s,0⟩:=by
   unfold eJ gJ
   simp only
   rw[eW (S:=⟨(3+7)/8*8,[],0⟩) rfl (by simp only;omega)]
   simp only[show(3+7)/8*8=8 from rfl,na]
   rw[eW (S:=⟨8+16,[],0⟩) rfl (by simp only;omega)]
   simp only[show 8+16=24 from rfl,nb]
   rw[if_neg (by omega)]
   exact B7 hm gk (by omega) s.length 0 (by omega)
  have hblk:dy T most ⟨0,[],0⟩=(true,⟨40+8*s.length,s,0⟩):=by
   unfold dy
   simp only[Nat.zero_add]
   rw[if_neg (by omega),hn1,hn2,hst]
   simp
  have hrun:fH T most ⟨0,[],0⟩=⟨40+8*s.length,s,0⟩:=by
   rw[run_eq (Nat.zero_le _),hblk,if_pos (.inr rfl)]
  unfold dY
  rw[hrun]
  simp only
  rw[if_neg (by simp),hl]
  congr 2
  omega
theorem u3 {s t:Bs} {most:Nat} (h:ij s t) (hs:s.length≤65535) (hm:s.length≤most) (r:Bs):fe (b6 t s++r) most=(s,(b6 t s).length,0):=by
 have hl:=eA (c8 s) 4
 have hz:=jw t s
 have hbk:=Kn h hs hm ((bh (c8 s) 4).reverse++r)
 have e:b6 t s++r=120::1::(t++((bh (c8 s) 4).reverse++r)):=by simp[b6]
 have hd:(120::1::(t++((bh (c8 s) 4).reverse++r)):Bs).drop 2=t++((bh (c8 s) 4).reverse++r):=rfl
 have hd2:(120::1::(t++((bh (c8 s) 4).reverse++r)):Bs).drop (2+t.length)=(bh (c8 s) 4).reverse++r:=by
  rw[←List.drop_drop,hd,List.drop_left]
 have ht4:((bh (c8 s) 4).reverse++r).take 4=(bh (c8 s) 4).reverse:=by
  rw[List.take_append_of_le_length (by rw[List.length_reverse,hl];exact Nat.le_refl _),List.take_of_length_le (by rw[List.length_reverse,hl];exact Nat.le_refl _)]
 have hbig:cT (bh (c8 s) 4).reverse=c8 s:=(oK _ (by rw[List.length_reverse,hl]) _ (ou s)).2 rfl
 unfold fe
 rw[e,hd,hbk,if_neg (by simp),if_neg (by show ¬(jj 120 1=false);decide)]
 simp only
 rw[if_neg (by simp),if_neg (by simp only[List.length_cons,List.length_append,List.length_reverse,hl];omega),hd2,ht4,hbig,if_neg (by simp),hz]
theorem sO (b:Bs) (rest:Bs):∀(k f fuel c m p size sh:Nat),c<128→m<128^k→k+1≤fuel→k≤f→b.drop p=hdB f c m++rest →
    headR b fuel p size sh=(size+(c+128*m)*2^sh,p+(hdB f c m).length,0)
 | k,f,0,c,m,p,size,sh,_,_,h,_,_=>by omega
 | 0,f,fuel+1,c,m,p,size,sh,hc,hm,_,_,hb=>by
  obtain rfl:m=0:=by simpa using hm
  have e:hdB f c 0=[UInt8.ofNat c]:=by cases f<;>rfl
  rw[e]at hb ⊢
  have hlt:p<b.length:=by
   have:=congrArg List.length hb
   rw[List.length_drop,List.length_append,List.length_singleton]at this
   omega
  have hg:b.getD p 0=UInt8.ofNat c:=by
   rw[List.getD_eq_getElem?_getD,←Nat.add_zero p,←List.getElem?_drop,hb];rfl
  have hcc:(UInt8.ofNat c).toNat=c:=by rw[UInt8.toNat_ofNat'];omega
  rw[headR,if_neg (by omega),hg,hcc,if_pos hc,Nat.mod_eq_of_lt hc]
  simp
 | k+1,0,fuel+1,c,m,p,size,sh,_,_,_,h,_=>by omega
 | k+1,f+1,fuel+1,c,m,p,size,sh,hc,hm,hf,hk,hb=>by
  by_cases h0:m=0
  ·have:=sO b rest 0 (f+1) (fuel+1) c m p size sh hc (by omega) (by omega) (by omega) hb
   exact this
  ·have e:hdB (f+1) c m=UInt8.ofNat (c+128)::hdB f (m%128) (m/128):=by rw[hdB,if_neg h0]
   rw[e]at hb ⊢
   have hlt:p<b.length:=by
    have:=congrArg List.length hb
    rw[List.length_drop,List.length_append,List.length_cons]at this
    omega
   have hg:b.getD p 0=UInt8.ofNat (c+128):=by
    rw[List.getD_eq_getElem?_getD,←Nat.add_zero p,←List.getElem?_drop,hb];rfl
   have hd:b.drop (p+1)=hdB f (m%128) (m/128)++rest:=by
    rw[←List.drop_drop,hb];rfl
   have hcc:(UInt8.ofNat (c+128)).toNat=c+128:=by rw[UInt8.toNat_ofNat'];omega
   have ih:=sO b rest k f fuel (m%128) (m/128) (p+1) (size+c*2^sh) (sh+7) (Nat.mod_lt _ (by decide)) (by rw[Nat.pow_succ]at hm;omega) (by omega) (by omega) hd
   rw[headR,if_neg (by omega),hg,hcc,if_neg (by omega),show(c+128)%128=c by omega,ih]
   have ep:(2:Nat)^(sh+7)=128*2^sh:=by rw[Nat.pow_add];omega
   have em:m%128+128*(m/128)=m:=Nat.mod_add_div m 128
   rw[ep,em]
   have e1:size+c*2^sh+m*(128*2^sh)=size+(c+128*m)*2^sh:=by
    rw[Nat.add_mul,←Nat.mul_assoc,Nat.mul_comm m 128,Nat.add_assoc]
   rw[e1]
   simp only[List.length_cons]
   rw[show p+1+(hdB f (m%128) (m/128)).length=p+((hdB f (m%128) (m/128)).length+1)by omega]
theorem sN (b rest:Bs) (p kind n:Nat) (hk:kind<8) (hn:n<16*128^3) (hb:b.drop p=bS kind n++rest):bT b p=(kind,n,p+(bS kind n).length,0):=by
 unfold bS at hb ⊢
 by_cases h0:n/16=0
 ·have e:hdB 9 (16*kind+n%16) (n/16)=[UInt8.ofNat (16*kind+n%16)]:=by rw[h0];rfl
  rw[e]at hb ⊢
  have hlt:p<b.length:=by
   have:=congrArg List.length hb
   rw[List.length_drop,List.length_append,List.length_singleton]at this
   omega
  have hg:b.getD p 0=UInt8.ofNat (16*kind+n%16):=by
   rw[List.getD_eq_getElem?_getD,←Nat.add_zero p,←List.getElem?_drop,hb];rfl
  have hcc:(UInt8.ofNat (16*kind+n%16)).toNat=16*kind+n%16:=by rw[UInt8.toNat_ofNat'];omega
  unfold bT
  rw[if_neg (by omega),hg,hcc,if_pos (by omega)]
  simp only[List.length_singleton,Prod.mk.injEq,and_true]
  omega
 ·have e:hdB 9 (16*kind+n%16) (n/16)=UInt8.ofNat (16*kind+n%16+128)::hdB 8 (n/16%128) (n/16/128):=by rw[hdB,if_neg h0]
  rw[e]at hb ⊢
  have hlt:p<b.length:=by
   have:=congrArg List.length hb
   rw[List.length_drop,List.length_append,List.length_cons]at this
   omega
  have hg:b.getD p 0=UInt8.ofNat (16*kind+n%16+128):=by
   rw[List.getD_eq_getElem?_getD,←Nat.add_zero p,←List.getElem?_drop,hb];rfl
  have hd:b.drop (p+1)=hdB 8 (n/16%128) (n/16/128)++rest:=by
   rw[←List.drop_drop,hb];rfl
  have hcc:(UInt8.ofNat (16*kind+n%16+128)).toNat=16*kind+n%16+128:=by rw[UInt8.toNat_ofNat'];omega
  have hm:=sO b rest 2 8 4 (n/16%128) (n/16/128) (p+1) (n%16) 4 (Nat.mod_lt _ (by decide)) (by omega) (by omega) (by omega) hd
  have em:n/16%128+128*(n/16/128)=n/16:=Nat.mod_add_div _ 128
  rw[em]at hm
  have en:n%16+n/16*2^4=n:=by omega
  rw[en]at hm
  unfold bT
  rw[if_neg (by omega),hg,hcc,if_neg (by omega),show(16*kind+n%16+128)%16=n%16 by omega,hm,if_neg (by simp)]
  simp only[List.length_cons,Prod.mk.injEq,and_true,true_and]
  omega
theorem MQ {b rest d t:Bs} {p k:Nat} (hk1:1≤k) (hk4:k≤4) (hd:d.length≤65000) (ht:ij d t) (hb:b.drop p=bS k d.length++(b6 t d++rest)) :
    ∃jc,hO b p=(⟨p,p+(bS k d.length).length+(b6 t d).length,k,d,0,[],jc⟩,0):=by
 have hh:=sN b (b6 t d++rest) p k d.length (by omega) (by omega) hb
 have hd2:b.drop (p+(bS k d.length).length)=b6 t d++rest:=by
  rw[←List.drop_drop,hb,List.drop_left]
 have hz:=u3 ht (by omega) (Nat.le_refl d.length) rest
 refine⟨jd ((b.drop p).take (p+(bS k d.length).length+(b6 t d).length-p)),?_⟩
 unfold hO
 rw[hh]
 simp only
 rw[if_neg (by simp)]
 unfold fW
 rw[if_pos ⟨hk1,hk4⟩]
 unfold iB
 simp only[hd2,hz]
 rw[if_neg (by simp),if_neg (by omega),if_neg (by simp),if_neg (by simp)]
inductive Dop where
 | ins (c:Bs)
 | jD (o n:Nat)
def Dop.enc:Dop→Bs
 | .ins c=>UInt8.ofNat c.length::c
 | .jD o n=>j6 o n
def Dop.dec (base:Bs):Dop→Bs
 | .ins c=>c
 | .jD o n=>(base.drop o).take n
def Dop.ok (base:Bs):Dop→Prop
 | .ins c=>1≤c.length∧c.length≤127
 | .jD o n=>4≤n∧n≤65536∧o+n≤base.length
theorem acw {base t b:Bs} (h:ga base t b):∃l:List Dop,(∀x∈l,x.ok base)∧b=l.flatMap Dop.enc∧t=l.flatMap (Dop.dec base):=by
 induction h with
 | nil=>exact⟨[],fun x hx=>(by cases hx),rfl,rfl⟩
 | ins t b c h h1 h2 ih=>
  obtain⟨l,g1,rfl,rfl⟩:=ih
  refine⟨l++[.ins c],fun x hx=>?_,by simp[Dop.enc],by simp[Dop.dec]⟩
  rcases List.mem_append.1 hx with hx | hx
  ·exact g1 x hx
  ·rw[List.mem_singleton.1 hx];exact⟨h1,h2⟩
 | jD t b o n h h1 h2 h3 ih=>
  obtain⟨l,g1,rfl,rfl⟩:=ih
  refine⟨l++[.jD o n],fun x hx=>?_,by simp[Dop.enc],by simp[Dop.dec]⟩
  rcases List.mem_append.1 hx with hx | hx
  ·exact g1 x hx
  ·rw[List.mem_singleton.1 hx];exact⟨h1,h2,h3⟩
theorem iG {d r:Bs} {p:Nat} {c:UInt8} (h:d.drop p=c::r):d.getD p 0=c∧p<d.length∧d.drop (p+1)=r:=by
 have hlt:p<d.length:=by
  have:=congrArg List.length h
  rw[List.length_drop,List.length_cons]at this
  omega
 refine⟨?_,hlt,?_⟩
 ·rw[List.getD_eq_getElem?_getD,←Nat.add_zero p,←List.getElem?_drop,h];rfl
 ·rw[←List.drop_drop,h];rfl
theorem Bh (d r:Bs) (at_ n:Nat) (hd:d.length≤1000000) (hn:n≤65000) (h:d.drop at_=eB n++r):aZ Tryz.prog 71 [.str d,.int .i64 at_] (.ak [.int .i64 n,.int .i64 (at_+(eB n).length:Nat),.int .i64 0]):=by
 refine Cod.ah1 (fun E R hN hR=>?_)
 refine wW ?_
 refine aK hN (fun q:Nat×Nat×Nat=>⟨[(0,.str d),(1,.int .i64 at_),(7,.int .i64 q.2.2),(8,.int .i64 (128^q.1:Nat)),(9,.int .i64 q.1)],[]⟩) (fun q=>q.1≤3∧128^q.1*q.2.1≤65000∧(q.1=0∨1≤q.2.1)∧q.2.2+128^q.1*q.2.1=n∧d.drop (at_+q.1)=sizB 9 q.2.1++r∧q.1+(sizB 9 q.2.1).length=(eB n).length) (fun q=>3-q.1) (0,n,0) (.le vV) ⟨by simp only;omega,by simp only;omega,.inl rfl,by simp only;omega,h,by simp only;exact Nat.zero_add _⟩ ?_
 rintro⟨i,m,acc⟩ R1 ⟨hi,hm,h1,hs,hdr,hl⟩ hR1
 simp only at hi hm h1 hs hdr hl
 have hi2:i≤2:=by
  rcases h1 with h1 | h1
  ·omega
  ·have hc:i=0∨i=1∨i=2∨i=3:=by omega
   rcases hc with rfl | rfl | rfl | rfl<;>omega
 have e5:¬(i:Int)=5:=by omega
 have ei:((at_:Int)+(i:Int)).toNat=at_+i:=by omega
 have hm65:m≤65000:=Nat.le_trans (Nat.le_mul_of_pos_left _ (Nat.pow_pos (by decide))) hm
 by_cases h128:128≤m
 ·have hstep:sizB 9 m=UInt8.ofNat (m%128+128)::sizB 9 (m/128):=by
   rw[ux 8 (m/128) (by omega),sizB,if_pos h128]
  rw[hstep]at hdr hl
  obtain⟨g1,g2,g3⟩:=iG hdr
  have hc:(UInt8.ofNat (m%128+128)).toNat=m%128+128:=by rw[UInt8.toNat_ofNat'];omega
  have hmod:(((m%128+128:Nat):Int))%128=((m%128:Nat):Int):=by omega
  rw[List.length_cons]at hl
  have g3':d.drop (at_+(i+1))=sizB 9 (m/128)++r:=g3
  have hR2:=fun a=>hR1 (i+1,m/128,a)
  have hi3:i=0∨i=1:=by
   rcases h1 with h1 | h1
   ·omega
   ·have hc:i=0∨i=1∨i=2:=by omega
    rcases hc with rfl | rfl | rfl<;>omega
  rcases hi3 with rfl | rfl
  ·have g1':d.getD at_ 0=UInt8.ofNat (m%128+128):=g1
   refine eC ei g1' hc hmod ?_
   have e1:(acc:Int)+(((m%128:Nat):Int)+128)%128*1=((acc+m%128:Nat):Int):=by omega
   rw[e1]
   exact hR2 (acc+m%128) _ (by simp only;omega) ⟨by simp only;omega,by simp only;omega,.inr (by simp only;omega),by simp only;omega,g3',by simp only;omega⟩ (.le vV)
  ·refine eC ei g1 hc hmod ?_
   have e1:(acc:Int)+(((m%128:Nat):Int)+128)%128*128=((acc+m%128*128:Nat):Int):=by omega
   rw[e1]
   exact hR2 (acc+m%128*128) _ (by simp only;omega) ⟨by simp only;omega,by simp only;omega,.inr (by simp only;omega),by simp only;omega,g3',by simp only;omega⟩ (.le vV)
 ·have hst:sizB 9 m=[UInt8.ofNat m]:=by rw[sizB,if_neg h128]
  rw[hst]at hdr hl
  obtain⟨g1,g2,g3⟩:=iG hdr
  have hc:(UInt8.ofNat m).toNat=m:=by rw[UInt8.toNat_ofNat'];omega
  rw[List.length_singleton]at hl
  rw[←hl]at hR
  have hi3:i=0∨i=1∨i=2:=by omega
  rcases hi3 with rfl | rfl | rfl
  ·have g1':d.getD at_ 0=UInt8.ofNat m:=g1
   refine ck ei g1' hc ?_
   have e1:(acc:Int)+(m:Int)%128*1=(n:Int):=by omega
   have e2:(at_:Int)+1=((at_+(0+1):Nat):Int):=by omega
   rw[e1,e2]
   exact hR.ro ⟨rfl,rfl⟩
  ·refine ck ei g1 hc ?_
   have e1:(acc:Int)+(m:Int)%128*128=(n:Int):=by omega
   have e2:(at_:Int)+1+1=((at_+(1+1):Nat):Int):=by omega
   rw[e1,e2]
   exact hR.ro ⟨rfl,rfl⟩
  ·have g1':d.getD ((at_:Int)+2).toNat 0=UInt8.ofNat m:=by rw[←g1];congr 1
   refine ck ei g1' hc ?_
   have e1:(acc:Int)+(m:Int)%128*16384=(n:Int):=by omega
   have e2:(at_:Int)+2+1=((at_+(2+1):Nat):Int):=by omega
   rw[e1,e2]
   exact hR.ro ⟨rfl,rfl⟩
theorem aid (d r:Bs) (a b:Nat) (hd:d.length≤1000000) (ha:a≤65000) (hb:b≤65000) (h:d=eB a++(eB b++r)):aZ Tryz.prog 44 [.str d] (.ak [.int .i64 a,.int .i64 b,.int .i64 ((eB a).length+(eB b).length:Nat),.int .i64 0]):=by
 refine Cod.aie (fun E R hN hR=>?_)
 have h1:aZ Tryz.prog 71 [.str d,.int .i64 0] _:=Bh d (eB b++r) 0 a hd ha h
 have h2:=Bh d r (eB a).length b hd hb (by rw[h,List.drop_left])
 rw[Nat.zero_add]at h1
 refine wW ?_
 refine aG h1 rfl rfl ?_
 refine wW ?_
 refine aG h2 rfl rfl ?_
 refine wW ?_
 exact hR.ro ⟨rfl,rfl⟩
def cpTl (o n:Nat):Nat→Nat→Bs
 | 0,_=>[]
 | m+1,i=>(if gi o n i then[UInt8.ofNat (eu o n i)]else[])++cpTl o n m (i+1)
theorem wR (o n:Nat):∀(m i:Nat),(cpP o n (i+m)).2=(cpP o n i).2++cpTl o n m i
 | 0,i=>by rw[cpTl,List.append_nil];rfl
 | m+1,i=>by
  rw[show i+(m+1)=(i+1)+m by omega,wR o n m (i+1),cpTl,cpP]
  split<;>simp
theorem Nx:∀k:Nat,k<7→∀q:Nat,q<128→q<2^k→(128+q+2^k)/2^k%2=1∧(128+q)/2^k%2=0∧∀i,i<k→(128+q+2^k)/2^i%2=(128+q)/2^i%2:=by decide +kernel
theorem wQ (o n:Nat):∀k:Nat,k≤7→∀i,i<k→(cpP o n k).1/2^i%2=if gi o n i then 1 else 0
 | 0,_,i,hi=>by omega
 | k+1,hk,i,hi=>by
  have ih:=wQ o n k (by omega) i
  obtain⟨g1,g2,_⟩:=ng o n k
  have hp:2^k≤2^6:=Nat.pow_le_pow_right (by decide) (by omega)
  obtain⟨f1,f2,f3⟩:=Nx k (by omega) ((cpP o n k).1-128) (by omega) (by omega)
  rw[show 128+((cpP o n k).1-128)=(cpP o n k).1 by omega]at f1 f2 f3
  rw[cpP]
  by_cases hik:i=k
  ·subst hik
   split
   ·exact f1
   ·exact f2
  ·split
   ·rw[show((cpP o n k).1+2^k,(cpP o n k).2++[UInt8.ofNat (eu o n k)]).1=(cpP o n k).1+2^k from rfl,f3 i (by omega)]
    exact ih (by omega)
   ·exact ih (by omega)
def cX (o n i:Nat):Nat:=if gi o n i then eu o n i else 0
theorem kN (o n i:Nat) (h:i≠6∨n≠65536):cX o n i=eu o n i:=by
 unfold cX gi
 by_cases h0:eu o n i=0
 ·simp[h0]
 ·rcases h with h | h<;>simp[h0,h]
theorem Jd (o n:Nat) (ho:o<4294967296):cX o n 0+256*cX o n 1+65536*cX o n 2+16777216*cX o n 3=o:=by
 rw[kN _ _ _ (.inl (by decide)),kN _ _ _ (.inl (by decide)),kN _ _ _ (.inl (by decide)),kN _ _ _ (.inl (by decide))]
 unfold eu
 rw[if_pos (by decide),if_pos (by decide),if_pos (by decide),if_pos (by decide)]
 omega
theorem Jc (o n:Nat) (hn:n≤65536):cX o n 4+256*cX o n 5+65536*cX o n 6=if n=65536 then 0 else n:=by
 rw[kN _ _ 4 (.inl (by decide)),kN _ _ 5 (.inl (by decide))]
 by_cases h:n=65536
 ·subst h
  rw[if_pos rfl]
  rfl
 ·rw[if_neg h,kN _ _ _ (.inr h)]
  unfold eu
  rw[if_neg (by decide),if_neg (by decide),if_neg (by decide)]
  omega
def xV (o n i:Nat):List AV:=(List.range i).map fun j=>.int .i64 (cX o n j:Nat)
theorem aBN (o n i:Nat):xV o n (i+1)=xV o n i++[.int .i64 (cX o n i:Nat)]:=by simp[xV,List.range_succ]
theorem qZ (o n i:Nat):(xV o n i).length=i:=by simp[xV]
theorem aBJ (o n i:Nat):(xV o n i).all bb=true:=by simp[xV,bb,cellsOf,isCell]
theorem aBM (o n i:Nat):aM (xV o n i) 0 i=xV o n i:=by
 have:=qZ o n i
 simp[aM,List.take_of_length_le,this]
theorem aBK (o n i:Nat) (v:AV):nth (xV o n i++[v]) i=v:=by
 have:=qZ o n i
 simp[nth,List.getD_eq_getElem?_getD,this]
theorem aBL (o n i:Nat) (v w:AV):(xV o n i++[v]).set i w=xV o n i++[w]:=by
 have:=qZ o n i
 rw[List.set_append_right _ _ (by omega),this,Nat.sub_self];rfl
set_option maxHeartbeats 1000000 in
theorem ahI (base t d:Bs) (most:Nat) (hb:base.length≤65000) (ht:t.length≤65000) (hm:t.length≤most) (hmm:most≤1000000) (h:lN base t d):aZ Tryz.prog 18 [.str base,.str d,.int .i64 most] (.ak [.str t,.int .i64 0]):=by
 obtain⟨⟨b,ho,hd⟩,hdl⟩:=h
 obtain⟨l,hl,rfl,ht2⟩:=acw ho
 have hz:=aid d (l.flatMap Dop.enc) base.length t.length (by omega) hb ht (by rw[hd,List.append_assoc])
 refine Cod.ahJ (fun E R hN hR=>?_)
 refine wW ?_
 refine aG hz rfl rfl ?_
 refine wW ?_
 refine gG ?_
 have fi:d.drop ((eB base.length).length+(eB t.length).length)=l.flatMap Dop.enc:=by
  rw[hd,←List.length_append,List.drop_left]
 refine aK hN (fun q:Nat×Nat=>⟨[(0,.str base),(1,.str d),(9,.int .i64 t.length),(10,.int .i64 q.2),(12,.str ((l.take q.1).flatMap (Dop.dec base)))],[]⟩) (fun q=>q.1≤l.length∧q.2≤d.length∧d.drop q.2=(l.drop q.1).flatMap Dop.enc) (fun q=>l.length-q.1) (0,(eB base.length).length+(eB t.length).length) (.le (by simp(disch:=omega)only[go_sem,simprocAttr,List.take_zero,List.flatMap_nil])) ⟨Nat.zero_le _,by simp only;rw[hd,List.length_append,List.length_append];omega,fi⟩ ?_
 rintro⟨k,at_⟩ R1 ⟨hk,hat,hdr⟩ hR1
 simp only at hk hat hdr
 by_cases hend:k=l.length
 ·have:at_=d.length:=by
   rw[hend,List.drop_length]at hdr
   have:=congrArg List.length hdr
   rw[List.length_drop]at this
   simp at this
   omega
  rw[hend,List.take_length,←ht2]
  refine wW ?_
  refine gG ?_
  exact hR.ro ⟨rfl,rfl⟩
 ·have hkl:k<l.length:=by omega
  rw[List.drop_eq_getElem_cons hkl,List.flatMap_cons]at hdr
  have hx:=hl l[k] (List.getElem_mem hkl)
  have htk:(l.take (k+1)).flatMap (Dop.dec base)=(l.take k).flatMap (Dop.dec base)++l[k].dec base:=by
   rw[List.take_succ_eq_append_getElem hkl,List.flatMap_append];simp
  have hlen:((l.take k).flatMap (Dop.dec base)).length+(l[k].dec base).length≤t.length:=by
   have:l=l.take (k+1)++l.drop (k+1):=(List.take_append_drop _ _).symm
   have h2:t.length=((l.take (k+1)).flatMap (Dop.dec base)).length+((l.drop (k+1)).flatMap (Dop.dec base)).length:=by
    rw[←List.length_append,←List.flatMap_append,List.take_append_drop,←ht2]
   rw[htk,List.length_append]at h2
   omega
  have hR2:=fun at'=>hR1 (k+1,at')
  clear hR1
  simp only at hR2 ⊢
  rw[htk]at hR2
  generalize l.take k=lk at *
  generalize (l.drop (k+1)).flatMap Dop.enc=rest at *
  generalize l[k]=x at *
  generalize lk.flatMap (Dop.dec base)=out at *
  cases x with
  | ins c=>
   obtain⟨c1,c2⟩:=hx
   simp only[Dop.enc,Dop.dec,List.cons_append]at hdr hlen hR2
   obtain⟨g1,g2,g3⟩:=iG hdr
   have hc:(UInt8.ofNat c.length).toNat=c.length:=by rw[UInt8.toNat_ofNat'];omega
   have hlc:at_+1+c.length≤d.length:=by
    have:=congrArg List.length g3
    rw[List.length_drop,List.length_append]at this
    omega
   have hpt:(d.drop (at_+1)).take c.length=c:=by rw[g3,List.take_left]
   refine bm g1 hc ?_
   refine gG ?_
   refine aw @Cod.tN ?_
   refine gG ?_
   have e1:((at_:Int)+1+(c.length:Int)).toNat-(at_+1)=c.length:=by omega
   rw[e1,hpt]
   refine dw hN ?_
   refine wW ?_
   refine gG ?_
   refine hR2 (at_+1+c.length) _ (by omega) ⟨by omega,by omega,?_⟩ (.le vV)
   rw[←List.drop_drop,g3,List.drop_left]
  | jD o n=>
   obtain⟨c1,c2,c3⟩:=hx
   simp only[Dop.enc,Dop.dec,j6,List.cons_append]at hdr hlen hR2
   obtain⟨g1,g2,g3⟩:=iG hdr
   obtain⟨f1,f2,f3⟩:=ng o n 7
   have hc:(UInt8.ofNat (cpP o n 7).1).toNat=(cpP o n 7).1:=by rw[UInt8.toNat_ofNat'];omega
   have htl:d.drop (at_+1)=cpTl o n 7 0++rest:=by rw[g3,←Nat.zero_add 7,wR o n 7 0];rfl
   refine bm g1 hc ?_
   refine gG ?_
   refine aw @Cod.tN ?_
   refine gG ?_
   refine aK hN (fun q:Nat×Nat=>⟨[(0,.str base),(1,.str d),(9,.int .i64 t.length),(10,.int .i64 q.2),(12,.str out),(13,.int .i64 ((cpP o n 7).1/2^q.1:Nat)),(15,.sl 197072 0 q.1),(16,.int .i64 q.1)],[(197072,.arr 1 (xV o n q.1))]⟩) (fun q=>q.1≤7∧q.2≤d.length∧d.drop q.2=cpTl o n (7-q.1) q.1++rest) (fun q=>7-q.1) (0,at_+1) (.fF 197065 197072 rfl rfl (.le (by simp(disch:=omega)only[go_sem,simprocAttr,xV,List.range_zero,List.map_nil,Nat.pow_zero,Nat.div_one]))) ⟨by simp only;omega,by simp only;omega,htl⟩ ?_
   rintro⟨i,aq⟩ R2 ⟨hi,haq,hdq⟩ hR3
   simp only at hi haq hdq
   have hxl:=qZ o n i
   have hR4:=fun a'=>hR3 (i+1,a')
   clear hR3
   simp only at hR4 ⊢
   by_cases h7:i=7
   ·subst h7
    rw[Nat.sub_self,cpTl,List.nil_append]at hdq
    have ho:=Jd o n (by omega)
    have hn:=Jc o n c2
    have cv:∀i,cX o n i<256:=fun i=>by
     unfold cX
     split
     ·unfold eu;split<;>exact Nat.mod_lt _ (by decide)
     ·decide
    have c0:=cv 0
    have c1':=cv 1
    have c2':=cv 2
    have c3':=cv 3
    have c4:=cv 4
    have c5:=cv 5
    have c6:=cv 6
    have n0:nth (xV o n 7) 0=.int .i64 (cX o n 0:Nat):=rfl
    have n1:nth (xV o n 7) 1=.int .i64 (cX o n 1:Nat):=rfl
    have n2:nth (xV o n 7) 2=.int .i64 (cX o n 2:Nat):=rfl
    have n3:nth (xV o n 7) 3=.int .i64 (cX o n 3:Nat):=rfl
    have n4:nth (xV o n 7) 4=.int .i64 (cX o n 4:Nat):=rfl
    have n5:nth (xV o n 7) 5=.int .i64 (cX o n 5:Nat):=rfl
    have n6:nth (xV o n 7) 6=.int .i64 (cX o n 6:Nat):=rfl
    generalize cX o n 0=v0 at *
    generalize cX o n 1=v1 at *
    generalize cX o n 2=v2 at *
    generalize cX o n 3=v3 at *
    generalize cX o n 4=v4 at *
    generalize cX o n 5=v5 at *
    generalize cX o n 6=v6 at *
    have eo:(v0:Int)+256*v1+65536*v2+16777216*v3=(o:Int):=by omega
    have ek:(v4:Int)+256*v5+65536*v6=((if n=65536 then 0 else n:Nat):Int):=by omega
    simp(disch:=omega)only[go_sem,simprocAttr,n0,n1,n2,n3,n4,n5,n6]
    rw[eo,ek]
    have hlb:((base.drop o).take n).length=n:=by rw[List.length_take,List.length_drop];omega
    rw[hlb]at hlen
    have e3:o+n-o=n:=by omega
    have h65:¬n=65536:=by omega
    rw[if_neg h65]
    have h0:¬(n:Int)=0:=by omega
    refine bm @Cod.tN h0 ?_
    refine dw hN ?_
    refine wW ?_
    refine gG ?_
    rw[e3]
    refine dw hN ?_
    refine wW ?_
    refine gG ?_
    exact hR2 aq _ (by omega) ⟨by omega,by omega,hdq⟩ (.le vV)
   ·have hm:7-i=(6-i)+1:=by omega
    have hfl:=wQ o n 7 (Nat.le_refl _) i (by omega)
    have h2i:(cpP o n 7).1/2^i/2=(cpP o n 7).1/2^(i+1):=by rw[Nat.pow_succ,Nat.div_div_eq_div_mul]
    have hxs:=aBN o n i
    have hxc:=aBJ o n i
    have hxb:=aBM o n i
    have hq1:(cpP o n 7).1/2^i<256:=Nat.lt_of_le_of_lt (Nat.div_le_self _ _) (by omega)
    rw[hm,cpTl]at hdq
    generalize (cpP o n 7).1/2^(i+1)=q2 at *
    generalize (cpP o n 7).1/2^i=q1 at *
    have ew:IntKind.i64.wrap ((q1:Int)/2)=(q2:Int):=by
     rw[show(q1:Int)/2=((q1/2:Nat):Int)by omega,h2i]
     exact IntWalk.i64_in _ (by omega)
    by_cases hon:gi o n i=true
    ·rw[if_pos hon]at hdq hfl
     have hv:cX o n i=eu o n i:=if_pos hon
     obtain⟨y1,y2,y3⟩:=iG hdq
     have hx6:eu o n i<256:=by unfold eu;split<;>exact Nat.mod_lt _ (by decide)
     have ey:IntKind.i64.wrap ((d.getD aq 0).toNat:Int)=(eu o n i:Int):=by
      rw[y1,UInt8.toNat_ofNat',Nat.mod_eq_of_lt hx6]
      exact IntWalk.i64_in _ (by omega)
     refine n8 hxb hxc ew ey @aBK @aBL ?_
     refine hR4 (aq+1) _ (by omega) ⟨by omega,by omega,?_⟩ (.le (ia hxs hv))
     rw[show 7-(i+1)=6-i by omega];exact y3
    ·rw[if_neg hon]at hdq hfl
     have hv:cX o n i=0:=if_neg hon
     refine ck hxb hxc ew ?_
     refine hR4 aq _ (by omega) ⟨by omega,by omega,?_⟩ (.le (ia hxs hv))
     rw[show 7-(i+1)=6-i by omega];exact hdq
theorem tE {n:Nat} (h:n<128):(UInt8.ofNat n).toNat=n:=by rw[UInt8.toNat_ofNat'];omega
theorem tD {n:Nat} (h:n<256):(UInt8.ofNat n).toNat=n:=by rw[UInt8.toNat_ofNat'];omega
theorem Gs {b rest:Bs} {p n:Nat} (hn:n≤100000) (hb:b.drop p=dJ n++rest):cm b p=(n,p+(dJ n).length,0):=by
 have hl:b.length-p=(dJ n).length+rest.length:=by
  rw[←List.length_drop,hb,List.length_append]
 unfold cm
 by_cases h1:n/128=0
 ·have e:dJ n=[UInt8.ofNat (n%128)]:=by unfold dJ;rw[h1];rfl
  rw[e]at hb hl ⊢
  obtain⟨g1,g2,g3⟩:=iG hb
  rw[show b.length+1-p=(b.length-p)+1 by omega,gN,if_neg (by omega),g1,tE (by omega),if_pos (by omega)]
  simp only[List.length_singleton,Prod.mk.injEq,and_true]
  omega
 ·by_cases h2:(n/128-1)/128=0
  ·have e:dJ n=[UInt8.ofNat ((n/128-1)%128+128),UInt8.ofNat (n%128)]:=by
    unfold dJ;rw[bkB,if_neg h1,h2];rfl
   rw[e]at hb hl ⊢
   obtain⟨g1,g2,g3⟩:=iG hb
   obtain⟨k1,k2,k3⟩:=iG g3
   rw[show b.length+1-p=(b.length-(p+2))+1+1+1 by simp only[List.length_cons,List.length_nil]at hl;omega,gN,if_neg (by omega),g1,tD (by omega),if_neg (by omega),if_neg (by omega),
    gN,if_neg (by omega),k1,tE (by omega),if_pos (by omega)]
   simp only[List.length_cons,List.length_nil,Prod.mk.injEq,and_true]
   omega
  ·have e:dJ n=[UInt8.ofNat (((n/128-1)/128-1)%128+128),UInt8.ofNat ((n/128-1)%128+128),UInt8.ofNat (n%128)]:=by
    have h3:((n/128-1)/128-1)/128=0:=by omega
    unfold dJ;rw[bkB,if_neg h1,bkB,if_neg h2,h3];rfl
   rw[e]at hb hl ⊢
   obtain⟨g1,g2,g3⟩:=iG hb
   obtain⟨k1,k2,k3⟩:=iG g3
   obtain⟨m1,m2,m3⟩:=iG k3
   rw[show b.length+1-p=(b.length-(p+3))+1+1+1+1 by simp only[List.length_cons,List.length_nil]at hl;omega,gN,if_neg (by omega),g1,tD (by omega),if_neg (by omega),if_neg (by omega),
    gN,if_neg (by omega),k1,tD (by omega),if_neg (by omega),if_neg (by omega),gN,if_neg (by omega),m1,tE (by omega),if_pos (by omega)]
   simp only[List.length_cons,List.length_nil,Prod.mk.injEq,and_true]
   omega
theorem MR {b rest d t:Bs} {p n:Nat} (hd:d.length≤65000) (hn:n≤100000) (hn1:1≤n) (hnp:n≤p-12) (ht:ij d t) (hb:b.drop p=bS 6 d.length++(dJ n++(b6 t d++rest))) :
    ∃q jc,hO b p=(⟨p,q,6,d,p-n,[],jc⟩,0)∧q=p+(bS 6 d.length).length+(dJ n).length+(b6 t d).length:=by
 have hh:=sN b _ p 6 d.length (by omega) (by omega) hb
 have hd1:b.drop (p+(bS 6 d.length).length)=dJ n++(b6 t d++rest):=by
  rw[←List.drop_drop,hb,List.drop_left]
 have hk:=Gs hn hd1
 have hd2:b.drop (p+(bS 6 d.length).length+(dJ n).length)=b6 t d++rest:=by
  rw[←List.drop_drop,hd1,List.drop_left]
 have hz:=u3 ht (by omega) (Nat.le_refl d.length) rest
 refine⟨_,jd ((b.drop p).take (p+(bS 6 d.length).length+(dJ n).length+(b6 t d).length-p)),?_,rfl⟩
 unfold hO
 rw[hh]
 simp only
 rw[if_neg (by simp)]
 unfold fW
 rw[if_neg (by omega),if_pos rfl,hk]
 simp only
 rw[if_neg (by simp),if_neg (by omega)]
 unfold iB
 simp only[hd2,hz]
 rw[if_neg (by simp),if_neg (by omega),if_neg (by simp),if_neg (by simp)]
theorem MP {b rest d t nm:Bs} {p:Nat} (hd:d.length≤65000) (hnm:nm.length=20) (ht:ij d t) (hb:b.drop p=bS 7 d.length++(nm++(b6 t d++rest))) :
    ∃q jc,hO b p=(⟨p,q,7,d,0,di nm,jc⟩,0)∧q=p+(bS 7 d.length).length+nm.length+(b6 t d).length:=by
 have hh:=sN b _ p 7 d.length (by omega) (by omega) hb
 have hd1:b.drop (p+(bS 7 d.length).length)=nm++(b6 t d++rest):=by
  rw[←List.drop_drop,hb,List.drop_left]
 have hd2:b.drop (p+(bS 7 d.length).length+20)=b6 t d++rest:=by
  rw[←List.drop_drop,hd1,←hnm,List.drop_left]
 have hl:b.length-(p+(bS 7 d.length).length)=20+(b6 t d++rest).length:=by
  rw[←List.length_drop,hd1,List.length_append,hnm]
 have hz:=u3 ht (by omega) (Nat.le_refl d.length) rest
 refine⟨_,jd ((b.drop p).take (p+(bS 7 d.length).length+20+(b6 t d).length-p)),?_,by rw[hnm]⟩
 unfold hO
 rw[hh]
 simp only
 rw[if_neg (by simp)]
 unfold fW
 rw[if_neg (by omega),if_neg (by omega),if_pos rfl,if_neg (by omega),hd1,show(nm++(b6 t d++rest)).take 20=nm by rw[←hnm,List.take_left]]
 unfold iB
 simp only[hd2,hz]
 rw[if_neg (by simp),if_neg (by omega),if_neg (by simp),if_neg (by simp)]
theorem vn (s:Bs) (e:En):∀(n p:Nat) (out es:List En) (q:Nat),allL s n p out=(es,q,0)→cQ s (q:Int)=(e,0)→allL s (n+1) p out=(es++[e],e.next,0)
 | 0,p,out,es,q,h,hr=>by
  simp only[allL,Prod.mk.injEq]at h
  obtain⟨rfl,rfl,_⟩:=h
  rw[allL,hr,if_neg (by simp),allL]
 | n+1,p,out,es,q,h,hr=>by
  rw[allL]at h ⊢
  by_cases h0:(cQ s p).2=0
  ·rw[if_neg (by simpa using h0)]at h ⊢
   exact vn s e n _ _ es q h hr
  ·rw[if_pos h0]at h
   simp only[Prod.mk.injEq]at h
   exact(h0 h.2.2).elim
def kA (its:List It) (l:List Nat) (x:It) (e:En):Prop:=
 (x.dl=false→(e.kind:Int)=x.k∧e.data=x.d) ∧
 (x.dl=true→lN (its.getD x.bs.toNat cd).d x.d e.data ∧
  (x.bn=true→e.kind=7∧e.id=di (cF (eO (its.getD x.bs.toNat cd).k (its.getD x.bs.toNat cd).d))) ∧
  (x.bn=false→e.kind=6∧e.base=l.getD x.bs.toNat 0))
theorem wB {its:List It} (hd:∀x∈its,x.d.length≤400):∀{i:Nat} {o:Bs} {l:List Nat},BR its i o l→(∀n∈l,12≤n)∧∃w,o=iH its.length++w:=by
 have hd':∀x∈its,x.d.length≤20000:=fun x hx=>Nat.le_trans (hd x hx) (by decide)
 intro i o l h
 induction h with
 | nil=>exact⟨fun n hn=>(by cases hn),[],by rw[List.append_nil]⟩
 | obj i o l x t h hx he hdl hp ih=>
  obtain⟨h1,w,h2⟩:=ih
  have hb:=(j3 hd' h).2.1
  refine⟨fun n hn=>?_,w++(bS x.k.toNat x.d.length++b6 t x.d),(congrArg (·++_) h2).trans (List.append_assoc _ _ _)⟩
  rcases List.mem_append.1 hn with hn | hn
  ·exact h1 n hn
  ·rw[List.mem_singleton.1 hn];exact hb
 | mn i o l x d t h hx he hdl hbn hde hp ih=>
  obtain⟨h1,w,h2⟩:=ih
  have hb:=(j3 hd' h).2.1
  refine⟨fun n hn=>?_,w++(bS 7 d.length++cF (eO (its.getD x.bs.toNat cd).k (its.getD x.bs.toNat cd).d)++b6 t d),(congrArg (·++_) h2).trans (List.append_assoc _ _ _)⟩
  rcases List.mem_append.1 hn with hn | hn
  ·exact h1 n hn
  ·rw[List.mem_singleton.1 hn];exact hb
 | off i o l x d t h hx he hdl hbn hde hp ih=>
  obtain⟨h1,w,h2⟩:=ih
  have hb:=(j3 hd' h).2.1
  refine⟨fun n hn=>?_,w++(bS 6 d.length++dJ (o.length-l.getD x.bs.toNat 0)++b6 t d),(congrArg (·++_) h2).trans (List.append_assoc _ _ _)⟩
  rcases List.mem_append.1 hn with hn | hn
  ·exact h1 n hn
  ·rw[List.mem_singleton.1 hn];exact hb
theorem sk {its:List It} {i:Nat} {x:It} (h:cq its i x=0):dz x.k x.d=0∧(x.dl=true→0≤x.bs∧x.bs<(i:Int)):=by
 unfold cq at h
 by_cases hc:dz x.k x.d=0
 ·refine⟨hc,fun hdl=>?_⟩
  rw[if_neg (fun h=>h hc)]at h
  by_cases hb:x.dl=true∧(x.bs<0∨(i:Int)≤x.bs)
  ·rw[if_pos hb]at h;cases h
  ·have:¬(x.bs<0∨(i:Int)≤x.bs):=fun h=>hb ⟨hdl,h⟩
   omega
 ·rw[if_pos hc]at h;exact(hc h).elim
theorem MN {its:List It} {l:List Nat} {a:Nat} {i:Nat} {x:It} {e:En} (hl:l.length=i) (hb:x.dl=true→0≤x.bs∧x.bs<(i:Int)) (h:kA its l x e):kA its (l++[a]) x e:=by
 refine⟨h.1,fun hdl=>⟨(h.2 hdl).1,(h.2 hdl).2.1,fun hbn=>?_⟩⟩
 have h1:=(h.2 hdl).2.2 hbn
 have h2:=hb hdl
 refine⟨h1.1,?_⟩
 rw[h1.2,List.getD_eq_getElem?_getD,List.getD_eq_getElem?_getD,List.getElem?_append_left (by omega)]
theorem rA {its:List It} {s o:Bs} {l:List Nat} {i:Nat} {x:It} {es:List En} {e:En} (hx:its[i]?=some x) (hi:es.length=i) (hl:l.length=i) (ha:allL s i 12 []=(es,o.length,0))
    (hE:∀j,j<i→∃x,its[j]?=some x∧(x.dl=true→0≤x.bs∧x.bs<(j:Int))∧kA its l x (es.getD j ez)∧(es.getD j ez).at_=l.getD j 0)
    (hr:cQ s (o.length:Int)=(e,0)) (hat:e.at_=o.length) (hb:x.dl=true→0≤x.bs∧x.bs<(i:Int)) (he:kA its (l++[o.length]) x e) :
    allL s (i+1) 12 []=(es++[e],e.next,0)∧(es++[e]).length=i+1∧∀j,j<i+1→∃x,its[j]?=some x∧(x.dl=true→0≤x.bs∧x.bs<(j:Int))∧kA its (l++[o.length]) x ((es++[e]).getD j ez)∧((es++[e]).getD j ez).at_=(l++[o.length]).getD j 0:=by
 refine⟨vn s e i 12 [] es o.length ha hr,by simp[hi],fun j hj=>?_⟩
 by_cases hji:j<i
 ·obtain⟨x',y1,y2,y3,y4⟩:=hE j hji
  have e1:(es++[e]).getD j ez=es.getD j ez:=by
   rw[List.getD_eq_getElem?_getD,List.getD_eq_getElem?_getD,List.getElem?_append_left (by omega)]
  have e2:(l++[o.length]).getD j 0=l.getD j 0:=by
   rw[List.getD_eq_getElem?_getD,List.getD_eq_getElem?_getD,List.getElem?_append_left (by omega)]
  rw[e1,e2]
  exact⟨x',y1,y2,MN hl (fun h=>⟨(y2 h).1,by have:=(y2 h).2;omega⟩) y3,y4⟩
 ·obtain rfl:j=i:=by omega
  have e1:(es++[e]).getD j ez=e:=by
   rw[List.getD_eq_getElem?_getD,List.getElem?_append_right (by omega),hi,Nat.sub_self];rfl
  have e2:(l++[o.length]).getD j 0=o.length:=by
   rw[List.getD_eq_getElem?_getD,List.getElem?_append_right (by omega),hl,Nat.sub_self];rfl
  rw[e1,e2]
  exact⟨x,hx,hb,he,hat⟩
theorem ua {s o z sm:Bs} (hs:s=(o++z)++sm) (hsm:sm.length=20) (h12:12≤o.length):cQ s (o.length:Int)=hO (o++z) o.length:=by
 unfold cQ
 have hl:s.length=o.length+z.length+20:=by rw[hs,List.length_append,List.length_append,hsm]
 rw[if_neg (by omega),Int.toNat_natCast,show s.length-20=(o++z).length by rw[List.length_append];omega,hs,List.take_left]
theorem Ii {its:List It} (hd:∀x∈its,x.d.length≤400) (hn:its.length≤20):∀{i:Nat} {o:Bs} {l:List Nat},BR its i o l→∀(s z sm:Bs),s=(o++z)++sm→sm.length=20 →
    ∃es,allL s i 12 []=(es,o.length,0)∧es.length=i∧∀j,j<i→∃x,its[j]?=some x∧(x.dl=true→0≤x.bs∧x.bs<(j:Int))∧kA its l x (es.getD j ez)∧(es.getD j ez).at_=l.getD j 0:=by
 have hd':∀x∈its,x.d.length≤20000:=fun x hx=>Nat.le_trans (hd x hx) (by decide)
 intro i o l h
 induction h with
 | nil=>
  intro s z sm _ _
  have:=eA its.length 4
  exact⟨[],by rw[allL];simp[iH,gp,this],rfl,fun j hj=>by omega⟩
 | obj i o l x t h hx he hdl hp ih=>
  intro s z sm hs hsm
  obtain⟨es,a1,a2,a3⟩:=ih s (bS x.k.toNat x.d.length++b6 t x.d++z) sm (by rw[hs];simp only[List.append_assoc]) hsm
  obtain⟨b1,b2,b3,b4,b5⟩:=j3 hd' h
  obtain⟨hc,hbs⟩:=sk he
  obtain⟨k1,k2,k3⟩:=wJ hc
  obtain⟨jc,hent⟩:=MQ (b:=o++(bS x.k.toNat x.d.length++b6 t x.d++z)) (rest:=z) (p:=o.length) (k:=x.k.toNat) (by omega) (by omega) k3 hp (by rw[List.drop_left];simp only[List.append_assoc])
  have hr:=ua (s:=s) (o:=o) (z:=bS x.k.toNat x.d.length++b6 t x.d++z) (sm:=sm) (by rw[hs];simp only[List.append_assoc]) hsm b2
  rw[hent]at hr
  obtain⟨c1,c2,c3⟩:=rA hx a2 b3 a1 a3 hr rfl hbs ⟨fun _=>⟨by simp only;omega,rfl⟩,fun h=>(by rw[hdl]at h;cases h)⟩
  exact⟨_,by rw[c1];simp only[List.length_append,Nat.add_assoc],c2,c3⟩
 | mn i o l x d t h hx he hdl hbn hde hp ih=>
  intro s z sm hs hsm
  have hxd:=hd x (List.mem_of_getElem? hx)
  have hdd:=hde.2
  generalize hnm:cF (eO (its.getD x.bs.toNat cd).k (its.getD x.bs.toNat cd).d)=nm at *
  have hnl:nm.length=20:=by rw[←hnm];exact gH _
  obtain⟨es,a1,a2,a3⟩:=ih s (bS 7 d.length++nm++b6 t d++z) sm (by rw[hs];simp only[List.append_assoc]) hsm
  obtain⟨b1,b2,b3,b4,b5⟩:=j3 hd' h
  obtain⟨hc,hbs⟩:=sk he
  obtain⟨q,jc,hent,hq⟩:=MP (b:=o++(bS 7 d.length++nm++b6 t d++z)) (rest:=z) (p:=o.length) (by omega) hnl hp (by rw[List.drop_left];simp only[List.append_assoc])
  have hr:=ua (s:=s) (o:=o) (z:=bS 7 d.length++nm++b6 t d++z) (sm:=sm) (by rw[hs];simp only[List.append_assoc]) hsm b2
  rw[hent]at hr
  obtain⟨c1,c2,c3⟩:=rA hx a2 b3 a1 a3 hr rfl hbs ⟨fun h=>(by rw[hdl]at h;cases h),fun _=>⟨hde,fun _=>⟨rfl,by rw[hnm]⟩,fun h=>(by rw[hbn]at h;cases h)⟩⟩
  exact⟨_,by rw[c1,hq];simp only[List.length_append,Nat.add_assoc],c2,c3⟩
 | off i o l x d t h hx he hdl hbn hde hp ih=>
  intro s z sm hs hsm
  have hxd:=hd x (List.mem_of_getElem? hx)
  have hdd:=hde.2
  obtain⟨b1,b2,b3,b4,b5⟩:=j3 hd' h
  have ho50:=wD hd h
  obtain⟨hc,hbs⟩:=sk he
  have hbs2:=hbs hdl
  have hm:l.getD x.bs.toNat 0∈l:=by
   rw[List.getD_eq_getElem?_getD,List.getElem?_eq_getElem (by omega)]
   exact List.getElem_mem _
  have h4:=b4 _ hm
  have h12:=(wB hd h).1 _ hm
  have hob:o.length≤100000:=by
   have:=Nat.mul_le_mul_left (2*400+80) (show i≤20 by omega)
   omega
  obtain⟨es,a1,a2,a3⟩:=ih s (bS 6 d.length++dJ (o.length-l.getD x.bs.toNat 0)++b6 t d++z) sm (by rw[hs];simp only[List.append_assoc]) hsm
  obtain⟨q,jc,hent,hq⟩:=MR (b:=o++(bS 6 d.length++dJ (o.length-l.getD x.bs.toNat 0)++b6 t d++z)) (rest:=z) (p:=o.length) (n:=o.length-l.getD x.bs.toNat 0) (by omega) (by omega) (by omega) (by omega) hp (by rw[List.drop_left];simp only[List.append_assoc])
  have hr:=ua (s:=s) (o:=o) (z:=bS 6 d.length++dJ (o.length-l.getD x.bs.toNat 0)++b6 t d++z) (sm:=sm) (by rw[hs];simp only[List.append_assoc]) hsm b2
  rw[hent]at hr
  have e2:(l++[o.length]).getD x.bs.toNat 0=l.getD x.bs.toNat 0:=by
   rw[List.getD_eq_getElem?_getD,List.getD_eq_getElem?_getD,List.getElem?_append_left (by omega)]
  obtain⟨c1,c2,c3⟩:=rA hx a2 b3 a1 a3 hr rfl hbs ⟨fun h=>(by rw[hdl]at h;cases h),fun _=>⟨hde,fun h=>(by rw[hbn]at h;cases h),fun _=>⟨rfl,by rw[e2];simp only;omega⟩⟩⟩
  exact⟨_,by rw[c1,hq];simp only[List.length_append,Nat.add_assoc],c2,c3⟩
theorem Py (n:Nat) (w:Bs):(iH n++w).take 8=gp∧((iH n++w).drop 8).take 4=(bh n 4).reverse:=by
 have hl:=eA n 4
 have e:iH n++w=gp++((bh n 4).reverse++w):=by simp[iH]
 have h8:gp.length=8:=rfl
 rw[e]
 refine⟨by rw[←h8,List.take_left],?_⟩
 rw[←h8,List.drop_left]
 exact List.take_left' (by rw[List.length_reverse,hl])
theorem Io {its:List It} (hd:∀x∈its,x.d.length≤400) (hn:its.length≤20) {o:Bs} {l:List Nat} (h:BR its its.length o l) :
    ∃es,j2 (o++cF o)=(es,0)∧es.length=its.length∧l.length=its.length∧(o++cF o).length≤50000∧∀j,j<its.length→∃x,its[j]?=some x∧(x.dl=true→0≤x.bs∧x.bs<(j:Int))∧kA its l x (es.getD j ez)∧(es.getD j ez).at_=l.getD j 0:=by
 have hd':∀x∈its,x.d.length≤20000:=fun x hx=>Nat.le_trans (hd x hx) (by decide)
 obtain⟨b1,b2,b3,b4,b5⟩:=j3 hd' h
 have hl20:=gH o
 have hl:(o++cF o).length=o.length+20:=by rw[List.length_append,hl20]
 obtain⟨es,a1,a2,a3⟩:=Ii hd hn h (o++cF o) [] (cF o) (by rw[List.append_nil]) hl20
 obtain⟨_,w,hw⟩:=wB hd h
 have hh:=Py its.length (w++cF o)
 rw[←List.append_assoc,←hw]at hh
 have hl4:=eA its.length 4
 have hbig:cT (bh its.length 4).reverse=its.length:=(oK _ (by rw[List.length_reverse,hl4]) _ (by omega)).2 rfl
 have hc:countP (o++cF o)=(its.length,0):=by
  unfold countP
  rw[if_neg (by omega),if_neg (fun h=>h hh.1),hh.2,hbig,if_neg (by omega),show(o++cF o).length-20=o.length by omega,List.take_left,List.drop_left,if_neg (fun h=>h rfl)]
 have hb50:o.length≤49000:=by
  have:=wD hd h
  have:=Nat.mul_le_mul_left (2*400+80) hn
  omega
 refine⟨es,?_,a2,b3,by omega,a3⟩
 unfold j2
 rw[hc,if_neg (by simp),a1,if_neg (by simp),if_neg (by simp only;omega)]
theorem w6 (n:Nat) (h:n<10):List.take (n+1-n) (List.drop n [48,49,50,51,52,53,54,55,56,57])=[dB n]:=by
 have:∀m:Fin 10,List.take (m.val+1-m.val) (List.drop m.val [48,49,50,51,52,53,54,55,56,57])=[dB m.val]:=by decide
 exact this ⟨n,h⟩
theorem ar0:∀(f n:Nat),n≤f→n≤9223372036854775807→aZ Tryz.prog 70 [.int .i64 (n:Int)] (.str (Lib.decDigits n)):=by
 intro f
 induction f with
 | zero=>
  intro n hn _
  obtain rfl:n=0:=by omega
  refine Cod.xl (fun E R hN hR=>?_)
  refine wW ?_
  refine gG ?_
  refine hR.ro ⟨rfl,?_⟩
  rw[nj (by omega)];rfl
 | succ f ih=>
  intro n hn hb
  refine Cod.xl (fun E R hN hR=>?_)
  by_cases h:n<10
  ·have:=w6 n h
   refine wW ?_
   refine gG ?_
   refine hR.ro ⟨rfl,?_⟩
   rw[nj h,←this]
  ·have:=w6 (n%10) (by omega)
   have ih:=ih (n/10) (by omega) (by omega)
   have hl:=pU ((n/10:Nat):Int) (by omega) (by omega)
   rw[Lib.itoa_nonneg]at hl
   have e1:((n:Int)%10+1).toNat=n%10+1:=by omega
   have e2:((n:Int)%10).toNat=n%10:=by omega
   have e3:(n:Int)/10=((n/10:Nat):Int):=by omega
   refine wW ?_
   refine gG ?_
   rw[e1,e2,this,e3]
   refine aG ih rfl rfl ?_
   refine wW ?_
   refine hR.ro ⟨rfl,?_⟩
   rw[o7 h]
theorem Ct (k:Int) (h0:-9223372036854775808≤k) (h1:k≤9223372036854775807):aZ Tryz.prog 69 [.int .i64 k] (.str (iO k)):=by
 refine Cod.atF (fun E R hN hR=>?_)
 unfold iO at hR
 by_cases a1:k<1
 ·rw[if_neg (by omega),if_neg (by omega),if_neg (by omega),if_neg (by omega)]at hR
  refine wW ?_
  refine gG ?_
  exact hR.ro ⟨rfl,rfl⟩
 by_cases a2:4<k
 ·rw[if_neg (by omega),if_neg (by omega),if_neg (by omega),if_neg (by omega)]at hR
  refine wW ?_
  refine gG ?_
  exact hR.ro ⟨rfl,rfl⟩
 have hk:k=1∨k=2∨k=3∨k=4:=by omega
 rcases hk with rfl | rfl | rfl | rfl
 all_goals
  refine bm @Sh.mq @Sh.mu ?_
  refine eL @Sh.mq @Sh.mu ?_
  first | exact hR.ro ⟨rfl,rfl⟩ | (exact hR.wk (h':=[]) (ar':=[.undef]) rfl (.le vV) ⟨rfl,rfl⟩)
theorem arh (k:Int) (d:Bs) (h0:-9223372036854775808≤k) (h1:k≤9223372036854775807) (hd:d.length≤9223372036854775807):aZ Tryz.prog 42 [fO k d] (.int .i64 (dz k d)):=by
 refine Cod.ari (fun E R hN hR=>?_)
 unfold dz at hR
 simp(disch:=omega)only[go_sem,simprocAttr,fO]
 refine aG (Ct k h0 h1) rfl rfl ?_
 by_cases h1:iO k=[]
 ·rw[if_pos h1]at hR
  refine aw h1 ?_
  exact hR.ro ⟨rfl,rfl⟩
 ·rw[if_neg h1]at hR
  by_cases h2:65000<d.length
  ·rw[if_pos h2]at hR
   refine aw h1 ?_
   exact hR.ro ⟨rfl,rfl⟩
  ·rw[if_neg h2]at hR
   refine aw h1 ?_
   exact hR.ro ⟨rfl,rfl⟩
theorem awe (k:Int) (d:Bs) (h0:-9223372036854775808≤k) (h1:k≤9223372036854775807) (hd:d.length≤65000):aZ Tryz.prog 43 [fO k d] (.str (eO k d)):=by
 refine Cod.awf (fun E R hN hR=>?_)
 have hnl:=tu k
 have hil:=pU d.length (by omega) (by omega)
 have hi:=ar0 d.length d.length (Nat.le_refl _) (by omega)
 rw[←Lib.itoa_nonneg]at hi
 simp(disch:=omega)only[go_sem,simprocAttr,fO]
 refine aG (Ct k h0 h1) rfl rfl ?_
 refine wW ?_
 refine aG hi rfl rfl ?_
 refine wW ?_
 refine hR.ro ⟨rfl,?_⟩
 simp[eO]
theorem as8 (k:Int) (d:Bs) (h0:-9223372036854775808≤k) (h1:k≤9223372036854775807) (hd:d.length≤65000):aZ Tryz.prog 17 [fO k d] (.str (Sh.di (Sh.cF (eO k d)))):=by
 refine Cod.as9 (fun E R hN hR=>?_)
 have hl:=Dm k hd
 have ht:=awe k d h0 h1 hd
 have hs:=Sh.CM (eO k d) (by omega)
 have hh:=Sh.Cn (Sh.cF (eO k d)) (by rw[Sh.gH];omega)
 simp(disch:=omega)only[go_sem,simprocAttr,fO]
 refine aG ht rfl rfl ?_
 refine wW ?_
 refine aG hs rfl rfl ?_
 refine wW ?_
 refine aG hh rfl rfl ?_
 refine wW ?_
 exact hR.ro ⟨rfl,rfl⟩
def wrongL (its:List It):List It→Nat→Int
 | [],_=>0
 | x::r,i=>if cq its i x≠0 then cq its i x else wrongL its r (i+1)
def ra (x:It):Prop:=(-9223372036854775808≤x.k∧x.k≤9223372036854775807) ∧ -9223372036854775808≤x.bs∧x.bs≤9223372036854775807
theorem qc {its:List It} {i:Nat} (h:i<its.length):nth (its.map bC) i=bC (its.getD i cd):=by
 simp[nth,List.getD_eq_getElem?_getD,h]
theorem aaQ (its:List It) (hn:its.length≤20) (hd:∀x∈its,x.d.length≤400) (hk:∀x∈its,ra x):aZ Tryz.prog 16 [.ro 5 (its.map bC)] (.int .i64 (wrongL its its 0)):=by
 refine Cod.aaR (fun E R hN hR=>?_)
 have hml:(its.map bC).length=its.length:=List.length_map ..
 refine aw hml ?_
 refine aK hN (fun k:Nat=>⟨[(0,.ro 5 (its.map bC)),(6,.ro 5 (its.map bC)),(7,.int .i64 its.length),(8,.int .i64 k)],[]⟩) (fun k=>k≤its.length∧wrongL its (its.drop k) k=wrongL its its 0) (fun k=>its.length-k) 0 (.le vV) ⟨Nat.zero_le _,rfl⟩ ?_
 rintro k R1 ⟨hk1,hw⟩ hR1
 by_cases hlt:k<its.length
 ·have hx:=qc hlt
  have hm:its.getD k cd∈its:=by
   rw[List.getD_eq_getElem?_getD,List.getElem?_eq_getElem hlt];exact List.getElem_mem hlt
  have hdr:its.drop k=its.getD k cd::its.drop (k+1):=by
   rw[List.drop_eq_getElem_cons hlt,List.getD_eq_getElem?_getD,List.getElem?_eq_getElem hlt];rfl
  have hd1:=hd _ hm
  obtain⟨⟨k1,k2⟩,b1,b2⟩:=hk _ hm
  rw[hdr,wrongL]at hw
  have hc:=arh (its.getD k cd).k (its.getD k cd).d k1 k2 (by omega)
  have hR2:=hR1 (k+1) 
  clear hR1
  generalize its.getD k cd=x at *
  obtain⟨xk,xd,dl,bs,bn⟩:=x
  simp only at hd1 k1 k2 b1 b2 hc
  simp(disch:=omega)only[go_sem,simprocAttr,hml,hx,bC]
  refine aG hc rfl rfl ?_
  by_cases hc0:dz xk xd=0
  ·cases dl with
   | false=>
    have he:cq its k ⟨xk,xd,false,bs,bn⟩=0:=by
     unfold cq
     rw[if_neg (fun h=>h hc0),if_neg (by simp),if_neg (by simp)]
    rw[if_neg (fun h=>h he)]at hw
    refine aw hc0 ?_
    refine gG ?_
    exact hR2 _ (by omega) ⟨by omega,hw⟩ (.le vV)
   | true=>
    by_cases hb0:bs<0
    ·have he:cq its k ⟨xk,xd,true,bs,bn⟩=1:=by
      unfold cq
      rw[if_neg (fun h=>h hc0),if_pos ⟨rfl,.inl hb0⟩]
     rw[he,if_pos (by decide)]at hw
     rw[←hw]at hR
     refine aw hc0 ?_
     refine gG ?_
     exact hR.ro ⟨rfl,rfl⟩
    ·by_cases hbk:(k:Int)≤bs
     ·have he:cq its k ⟨xk,xd,true,bs,bn⟩=1:=by
       unfold cq
       rw[if_neg (fun h=>h hc0),if_pos ⟨rfl,.inr hbk⟩]
      rw[he,if_pos (by decide)]at hw
      rw[←hw]at hR
      refine aw hc0 ?_
      refine gG ?_
      exact hR.ro ⟨rfl,rfl⟩
     ·have hbl:bs.toNat<its.length:=by omega
      have hy:=qc hbl
      have he:cq its k ⟨xk,xd,true,bs,bn⟩=if(its.getD bs.toNat cd).k≠xk then 10 else 0:=by
       unfold cq
       rw[if_neg (fun h=>h hc0),if_neg (fun h=>(by rcases h.2 with h | h<;>simp only at h<;>omega))]
       simp
      rw[he]at hw
      generalize its.getD bs.toNat cd=y at *
      by_cases hyk:y.k=xk
      ·rw[if_neg (show ¬(y.k≠xk)from fun h=>h hyk),if_neg (by decide)]at hw
       refine aw hc0 ?_
       refine gG ?_
       simp(disch:=omega)only[go_sem,simprocAttr,hy,bC,hyk]
       refine gG ?_
       exact hR2 _ (by omega) ⟨by omega,hw⟩ (.le vV)
      ·rw[if_pos (show y.k≠xk from hyk),if_pos (by decide)]at hw
       rw[←hw]at hR
       refine aw hc0 ?_
       refine gG ?_
       simp(disch:=omega)only[go_sem,simprocAttr,hy,bC,hyk]
       refine gG ?_
       exact hR.ro ⟨rfl,rfl⟩
  ·have he:cq its k ⟨xk,xd,dl,bs,bn⟩=dz xk xd:=by
    unfold cq
    rw[if_pos hc0]
   rw[he,if_pos hc0]at hw
   rw[←hw]at hR
   refine wW ?_
   exact hR.ro ⟨rfl,rfl⟩
 ·obtain rfl:k=its.length:=by omega
  rw[List.drop_length,wrongL]at hw
  rw[←hw]at hR
  refine aw hml ?_
  exact hR.ro ⟨rfl,rfl⟩
theorem wC {its:List It}:∀{i:Nat} {o:Bs} {l:List Nat},BR its i o l→∀j,j<i→∃x,its[j]?=some x∧cq its j x=0:=by
 intro i o l h
 have up:∀{i:Nat} {x:It},its[i]?=some x→cq its i x=0→(∀j,j<i→∃x,its[j]?=some x∧cq its j x=0)→∀j,j<i+1→∃x,its[j]?=some x∧cq its j x=0:=by
  intro i x hx he ih j hj
  by_cases hji:j<i
  ·exact ih j hji
  ·obtain rfl:j=i:=by omega
   exact⟨x,hx,he⟩
 induction h with
 | nil=>exact fun j hj=>by omega
 | obj i o l x t h hx he hdl hp ih=>exact up hx he ih
 | mn i o l x d t h hx he hdl hbn hde hp ih=>exact up hx he ih
 | off i o l x d t h hx he hdl hbn hde hp ih=>exact up hx he ih
theorem uY {its:List It}:∀i,i≤its.length→(∀j,j<i→∃x,its[j]?=some x∧cq its j x=0)→wrongL its its 0=wrongL its (its.drop i) i
 | 0,_,_=>rfl
 | i+1,hi,h=>by
  rw[uY i (by omega) (fun j hj=>h j (by omega))]
  obtain⟨x,hx,he⟩:=h i (by omega)
  obtain⟨hlt,rfl⟩:=List.getElem?_eq_some_iff.1 hx
  rw[List.drop_eq_getElem_cons hlt,wrongL,if_neg (fun h=>h he)]
theorem Ip {its:List It} (hd:∀x∈its,x.d.length≤400) {r:AV} (h:u6 its r) :
    (∃o l,BR its its.length o l∧wrongL its its 0=0∧r=.ak [.str (o++cF o),.int .i64 0])∨(wrongL its its 0≠0∧r=.ak [.str [],.int .i64 (wrongL its its 0)]):=by
 rcases h with⟨o,l,hb,rfl⟩ | ⟨i,o,l,x,hb,hx,he,rfl⟩
 ·refine .inl ⟨o,l,hb,?_,rfl⟩
  rw[uY its.length (Nat.le_refl _) (wC hb),List.drop_length,wrongL]
 ·obtain⟨hlt,rfl⟩:=List.getElem?_eq_some_iff.1 hx
  have e:wrongL its its 0=cq its i its[i]:=by
   rw[uY i (by omega) (wC hb),List.drop_eq_getElem_cons hlt,wrongL,if_pos he]
  refine .inr ⟨by rw[e];exact he,by rw[e]⟩
set_option maxHeartbeats 4000000 in
theorem ads (its0:List It) (hb:∀x∈its0,mN x) (hl:its0.length*48≤140737488351232) (hk0:∀x∈its0,ra x):aZ Tryz.prog 4 [.ro 5 (its0.map bC)] (.bool true):=by
 refine Cod.adt (fun E R hN hR=>?_)
 have hsh:=zC its0 20 hb hl (by decide)
 rw[show((20:Nat):Int)=20 from rfl]at hsh
 have hsl:=axs its0 20
 have hs4:=axr its0 20
 have hsh2:=zC (dG its0 20) 20 (fun x hx=>Nat.le_trans (hs4 x hx) (by decide)) (by omega) (by decide)
 rw[show((20:Nat):Int)=20 from rfl]at hsh2
 have h22:dG (dG its0 20) 20=dG its0 20:=by
  unfold dG
  rw[←List.map_take,List.map_map,List.take_take,Nat.min_self]
  refine List.map_congr_left fun x _=>?_
  simp[nh,List.take_take]
 rw[h22]at hsh2
 have hk:∀x∈dG its0 20,ra x:=fun x hx=>by
  obtain⟨y,hy,rfl⟩:=List.mem_map.1 hx
  exact hk0 y (List.mem_of_mem_take hy)
 refine wW ?_
 refine aG hsh rfl rfl ?_
 generalize dG its0 20=its at *
 have hbd:=aeX its hsl (fun x hx=>Nat.le_trans (hs4 x hx) (by decide))
 have hwr:=aaQ its hsl hs4 hk
 have haw:=F3
 refine wW ?_
 refine aG hsh2 rfl rfl ?_
 refine wW ?_
 refine fg hbd rfl ?_
 rintro h' v ar ⟨rfl,hbr⟩
 rcases Ip hs4 hbr with⟨o,l,hbr2,hw,rfl⟩ | ⟨hw,rfl⟩
 ·obtain⟨es,ha,hel,hll,hol,hes⟩:=Io hs4 hsl hbr2
  rw[hw]at hwr
  have hp:=adU (o++cF o) (by omega)
  have hr:=aqm (o++cF o) (by omega)
  rw[ha]at hp hr
  have hsm:=aw6 es (by omega)
  generalize o++cF o=s at *
  refine⟨rfl,rfl,?_⟩
  refine wW ?_
  refine aG hwr rfl rfl ?_
  refine wW ?_
  refine aG haw rfl rfl ?_
  refine wW ?_
  refine gG ?_
  refine fg hp rfl ?_
  rintro h' v ar ⟨rfl,X,rfl,hX⟩
  by_cases h0:its=[]
  ·subst h0
   obtain rfl:es=[]:=List.length_eq_zero_iff.1 hel
   rcases hX with rfl | ⟨_,rfl⟩
   ·refine⟨rfl,rfl,?_⟩
    refine wW ?_
    refine fg hr rfl ?_
    rintro h' v ar ⟨rfl,Y,rfl,hY⟩
    have hsm:=hsm _ Y (.inl rfl) hY
    rcases hY with rfl | ⟨_,rfl⟩
    ·refine⟨rfl,rfl,?_⟩
     refine wW ?_
     refine fL (jA vV hsm vV rfl rfl ?_)
     simp(disch:=omega)only[go_sem,simprocAttr,j7,List.length_nil]
     refine gG ?_
     refine aK hN (fun _:Unit=>⟨[(0,.ro 5 []),(6,.ro 7 (cY [])),(65,.ro 5 []),(66,.int .i64 0),(67,.int .i64 0)],[]⟩) (fun _=>True) (fun _=>0) () (.le vV) trivial ?_
     rintro _ R1 _ hR1
     refine wW ?_
     exact hR.ro ⟨rfl,rfl⟩
    ·refine⟨rfl,rfl,?_⟩
     refine wW ?_
     refine fL (jA vV hsm vV rfl rfl ?_)
     simp(disch:=omega)only[go_sem,simprocAttr,j7,List.length_nil]
     refine gG ?_
     refine aK hN (fun _:Unit=>⟨[(0,.ro 5 []),(6,.ro 7 (cY [])),(65,.ro 5 []),(66,.int .i64 0),(67,.int .i64 0)],[]⟩) (fun _=>True) (fun _=>0) () (.le vV) trivial ?_
     rintro _ R1 _ hR1
     refine wW ?_
     exact hR.ro ⟨rfl,rfl⟩
   ·refine⟨rfl,rfl,?_⟩
    refine wW ?_
    refine fg hr rfl ?_
    rintro h' v ar ⟨rfl,Y,rfl,hY⟩
    have hsm:=hsm _ Y (.inr ⟨rfl,rfl⟩) hY
    rcases hY with rfl | ⟨_,rfl⟩
    ·refine⟨rfl,rfl,?_⟩
     refine wW ?_
     refine fL (jA vV hsm vV rfl rfl ?_)
     simp(disch:=omega)only[go_sem,simprocAttr,j7,List.length_nil]
     refine gG ?_
     refine aK hN (fun _:Unit=>⟨[(0,.ro 5 []),(6,.al),(65,.ro 5 []),(66,.int .i64 0),(67,.int .i64 0)],[]⟩) (fun _=>True) (fun _=>0) () (.le vV) trivial ?_
     rintro _ R1 _ hR1
     refine wW ?_
     exact hR.ro ⟨rfl,rfl⟩
    ·refine⟨rfl,rfl,?_⟩
     refine wW ?_
     refine fL (jA vV hsm vV rfl rfl ?_)
     simp(disch:=omega)only[go_sem,simprocAttr,j7,List.length_nil]
     refine gG ?_
     refine aK hN (fun _:Unit=>⟨[(0,.ro 5 []),(6,.al),(65,.ro 5 []),(66,.int .i64 0),(67,.int .i64 0)],[]⟩) (fun _=>True) (fun _=>0) () (.le vV) trivial ?_
     rintro _ R1 _ hR1
     refine wW ?_
     exact hR.ro ⟨rfl,rfl⟩
  ·have hX':X=.ro 7 (cY es):=by
    rcases hX with h | ⟨h,_⟩
    ·exact h
    ·subst h;exact(h0 (List.length_eq_zero_iff.1 hel.symm)).elim
   subst hX'
   refine⟨rfl,rfl,?_⟩
   refine wW ?_
   refine fg hr rfl ?_
   rintro h' v ar ⟨rfl,Y,rfl,hY⟩
   have hY':Y=.ro 7 (cY es):=by
    rcases hY with h | ⟨h,_⟩
    ·exact h
    ·subst h;exact(h0 (List.length_eq_zero_iff.1 hel.symm)).elim
   subst hY'
   have hsm:=hsm _ _ (.inl rfl) (.inl rfl)
   have hen:=j7 es
   have hml:(its.map bC).length=its.length:=List.length_map ..
   refine⟨rfl,rfl,?_⟩
   refine wW ?_
   refine gG ?_
   refine fL (jA vV hsm vV rfl rfl ?_)
   refine ck hen hml hel ?_
   refine gG ?_
   refine aK hN (fun k:Nat=>⟨[(0,.ro 5 (its.map bC)),(6,.ro 7 (cY es)),(65,.ro 5 (its.map bC)),(66,.int .i64 its.length),(67,.int .i64 k)],[]⟩) (fun k=>k≤its.length) (fun k=>its.length-k) 0 (.le vV) (Nat.zero_le _) ?_
   rintro k R1 hk1 hR1
   by_cases hlt:k<its.length
   ·obtain⟨x,hx,hbx,hok,hat⟩:=hes k hlt
    have hgx:its.getD k cd=x:=by rw[List.getD_eq_getElem?_getD,hx];rfl
    have hnx:=qc hlt
    rw[hgx]at hnx
    have hny:=tz (show k<es.length by omega)
    have hm:=List.mem_of_getElem? hx
    have hd1:=hs4 _ hm
    have hR2:=hR1 (k+1)
    clear hR1
    obtain⟨o1,o2⟩:=hok
    generalize es.getD k ez=e at *
    obtain⟨eat,enx,ekd,edt,ebs,eid,ecrc⟩:=e
    obtain⟨xk,xd,dl,bs,bn⟩:=x
    simp only at hd1 hbx o1 o2 hat
    cases dl with
    | false=>
     obtain⟨rfl,rfl⟩:=o1 rfl
     simp(disch:=omega)only[go_sem,simprocAttr,hnx,hny,bC,eQ,hen,hml,hel]
     refine aw @Cod.tJ ?_
     refine gG ?_
     exact hR2 _ (by omega) (by omega) (.le vV)
    | true=>
     obtain⟨b1,b2⟩:=hbx rfl
     obtain⟨y1,y2,y3⟩:=o2 rfl
     have hbl:bs.toNat<its.length:=by omega
     have hnb:=qc hbl
     have hmb:its.getD bs.toNat cd∈its:=by
      rw[List.getD_eq_getElem?_getD,List.getElem?_eq_getElem hbl];exact List.getElem_mem hbl
     have hdb:=hs4 _ hmb
     obtain⟨kb1,kb2⟩:=(hk _ hmb).1
     have hap:=ahI (its.getD bs.toNat cd).d xd edt 400 (by omega) (by omega) (by omega) (by omega) y1
     rw[show((400:Nat):Int)=400 from rfl]at hap
     cases bn with
     | true=>
      obtain⟨rfl,rfl⟩:=y2 rfl
      have hid:=as8 (its.getD bs.toNat cd).k (its.getD bs.toNat cd).d kb1 kb2 (by omega)
      unfold fO at hid
      generalize its.getD bs.toNat cd=z at *
      simp(disch:=omega)only[go_sem,simprocAttr,hnx,hny,bC,eQ,hen,hml,hel]
      simp(disch:=omega)only[go_sem,simprocAttr,Cod.tJ,hnb,bC]
      refine gG ?_
      refine fL (jA vV hid vV rfl rfl ?_)
      refine wW ?_
      refine gG ?_
      refine dw hN ?_
      simp(disch:=omega)only[go_sem,simprocAttr,hnb,bC]
      refine aG hap rfl rfl ?_
      refine wW ?_
      refine gG ?_
      exact hR2 _ (by omega) (by omega) (.le vV)
     | false=>
      obtain⟨rfl,y4⟩:=y3 rfl
      obtain⟨_,_,_,_,hatb⟩:=hes bs.toNat hbl
      have hnyb:=tz (show bs.toNat<es.length by omega)
      generalize its.getD bs.toNat cd=z at *
      simp(disch:=omega)only[go_sem,simprocAttr,hnx,hny,bC,eQ,hen,hml,hel]
      simp(disch:=omega)only[go_sem,simprocAttr,Cod.tJ,hnb,hnyb,eQ,bC]
      refine gG ?_
      refine dw hN ?_
      simp(disch:=omega)only[go_sem,simprocAttr,hnb,bC]
      refine aG hap rfl rfl ?_
      refine wW ?_
      refine gG ?_
      exact hR2 _ (by omega) (by omega) (.le vV)
   ·obtain rfl:k=its.length:=by omega
    refine aw hml ?_
    exact hR.ro ⟨rfl,rfl⟩
 ·refine⟨rfl,rfl,?_⟩
  refine wW ?_
  refine aG hwr rfl rfl ?_
  refine wW ?_
  refine aG haw rfl rfl ?_
  refine wW ?_
  refine gG ?_
  exact hR.ro ⟨rfl,rfl⟩
end Go.Proofs.YtjoefngnjoofeaaGreatDoor.Pk
