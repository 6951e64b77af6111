/- The proof, part 25 of 32. -/
import Derived.Test.YtlkmppkcbhodaaaGreatDoorLooseReadsO
import Derived.Test.YtlkmppkcbhodaaaGreatDoorLooseReadsP
import Derived.Test.YtlkmppkcbhodaaaGreatDoorLooseReadsX
import Derived.Lib.AtoiTie
import Derived.Lib.ItoaMem
import Derived.Lib.AppendIntMem
import Derived.Lib.AtoiErrMem
set_option linter.all false
namespace Go.Proofs.YtlkmppkcbhodaaaGreatDoor.Ob
open Eng
set_option maxRecDepth 10000
abbrev Bs:=List UInt8
theorem arC {P:Program} {name:String} {g:Nat} {k:IntKind} {zs:List Int} {w:World} {cs:Array Value} {t:TypeId} {fz:Nat×Nat} (hg:P.globalNamed name=some g) (hw:w.heap[g]?=some (.cells cs t fz)) (he:cs=(zs.map fun z=>Value.int k z).toArray):Lib.TabIs P w name k zs:=by
 unfold Lib.TabIs World.var?
 rw[hg]
 simp only[Option.bind_some,hw,he]
theorem cell_of {w:World} {g:Nat} {v:Value} {t:TypeId} {fz:Nat×Nat} (hw:w.heap[g]?=some (.cells #[v] t fz)):w.cell? ⟨g,0,none⟩=some v:=by
 simp[World.cell?,hw]
theorem wI {v:Value} (h:isIfV v=true):v=.nilIface∨∃t p,v=.iface t p:=by
 cases v<;>simp[isIfV]at h
 ·exact .inr ⟨_,_,rfl⟩
 ·exact .inl rfl
theorem xj (n:Int) (h0:-9223372036854775808≤n) (h1:n≤9223372036854775807):aM Tryz.prog 89 [.int .i64 n] (.str (Lib.itoa n)):=by
 refine sM rfl rfl (fun w hA=>?_)
 obtain⟨cs,t,fz,g1,g2⟩:=hA (5,_) (by unfold jY;simp only[List.nil_append,List.cons_append,List.mem_cons];exact .inl rfl)
 refine(Any.strconv_Itoa Tryz.laysM171 n h0 h1 w (arC (by kernel_rfl) g1 g2)).mono ?_
 rintro e w' ⟨rfl,k,os,rfl⟩
 exact⟨rfl,Lib.below_grow _ _ (Nat.le_refl _) _ _⟩
def atoiA (s:Bs) (r:AV):Prop:=
 match Lib.atoiAll s with
 | .ok v=>r=.ai [.int .i64 v,.lit .nilIface]
 | _=>∃n t p,r=.ai [.int .i64 n,.lit (.iface t p)]
theorem Db (s:Bs) (hs:s.length≤140737488351232):Eng.Spec Tryz.prog 125 [] [.str s] (fun h r _=>h=[]∧atoiA s r):=by
 refine AW rfl (fun w hA=>?_)
 have hl:(⟨s.toArray⟩:ByteArray).size≤140737488351232:=by simpa[ByteArray.size]using hs
 unfold atoiA
 cases he:Lib.atoiAll s
 ·rename_i v
  refine(Any.strconv_Atoi_ok Tryz.laysC172 ⟨s.toArray⟩ (by omega) v he w).mono ?_
  rintro e w' ⟨rfl,hw⟩
  refine⟨_,rfl,rfl,rfl,?_⟩
  rcases hw with rfl | ⟨t,rfl⟩
  ·exact .refl _ _
  ·exact Lib.bytesWorld_below _ _ _
 ·obtain⟨cs,t,fz,g1,v,rfl,g3⟩:=hA (3,_) (by unfold jY;simp only[List.nil_append,List.cons_append,List.mem_cons];exact .inr (.inl rfl))
  refine(Any.strconv_Atoi_syntax Tryz.laysC172 ⟨s.toArray⟩ (by omega) he v w (cell_of g1) (wI g3)).mono ?_
  rintro e w' ⟨N,rfl,_,_,hb⟩
  exact⟨_,⟨_,_,_,rfl⟩,rfl,rfl,hb⟩
 ·obtain⟨cs,t,fz,g1,v,rfl,g3⟩:=hA (4,_) (by unfold jY;simp only[List.nil_append,List.cons_append,List.mem_cons];exact .inr (.inr (.inl rfl)))
  refine(Any.strconv_Atoi_range Tryz.laysC172 ⟨s.toArray⟩ (by omega) he v w (cell_of g1) (wI g3)).mono ?_
  rintro e w' ⟨N,rfl,_,_,hb⟩
  exact⟨_,⟨_,_,_,rfl⟩,rfl,rfl,hb⟩
theorem PE (s:Bs) (c:UInt8):aM Tryz.prog 130 [.str s,.str [c]] (.int .i64 (Lib.indexByte s c)):=
 AZ rfl rfl (fun w=>Tryz.stringslite_Index_one ⟨s.toArray⟩ c w)
def cutP (c:UInt8):Bs→Bs×Bs×Bool
 | []=>([],[],false)
 | x::r=>if x=c then([],r,true)else(x::(cutP c r).1,(cutP c r).2)
theorem nM (c:UInt8):∀s:Bs,(Lib.indexByte s c = -1∧cutP c s=(s,[],false))∨∃j:Nat,j<s.length∧Lib.indexByte s c=(j:Int)∧cutP c s=(s.take j,s.drop (j+1),true)
 | []=>.inl ⟨rfl,rfl⟩
 | x::r=>by
  by_cases hx:x=c
  ·subst hx
   exact .inr ⟨0,by simp,by simp[Lib.indexByte],by simp[cutP]⟩
  ·have hb:(x==c)=false:=by simp[hx]
   rcases nM c r with⟨h1,h2⟩ | ⟨j,h1,h2,h3⟩
   ·refine .inl ⟨by simp[Lib.indexByte,hb,h1],by simp[cutP,hx,h2]⟩
   ·refine .inr ⟨j+1,by simp;omega,?_,by simp[cutP,hx,h3]⟩
    have hne:(Lib.indexByte r c == -1)=false:=by rw[h2];simp
    simp[Lib.indexByte,hb,hne,h2]
def nL (q:Bs×Bs×Bool):AV:=.ai [.str q.1,.str q.2.1,.bool q.2.2]
theorem Vv (s:Bs) (c:UInt8) (hs:s.length≤9223372036854775807):aM Tryz.prog 124 [.str s,.str [c]] (nL (cutP c s)):=by
 refine Cod.Vw (fun E R hN hR=>?_)
 refine wW ?_
 refine aA (PE s c) rfl rfl ?_
 rcases nM c s with⟨h1,h2⟩ | ⟨j,h1,h2,h3⟩
 ·refine au h1 ?_
  exact hR.ro ⟨rfl,by rw[h2];rfl⟩
 ·refine au h2 ?_
  exact hR.ro ⟨rfl,by rw[h3];rfl⟩
theorem uP (s:Bs) (c:UInt8) (hs:s.length≤9223372036854775807):aM Tryz.prog 73 [.str s,.str [c]] (nL (cutP c s)):=by
 refine Cod.aoC (fun E R hN hR=>?_)
 refine wW ?_
 refine aA (Vv s c hs) rfl rfl ?_
 simp(disch:=omega)only[go_sem,simprocAttr,nL]
 exact hR.ro ⟨rfl,rfl⟩
theorem sR {α:Type} (d:α):∀(l:List α) {k:Nat},k<l.length→l.take (k+1)=l.take k++[l.getD k d]
 | [],k,h=>by simp at h
 | x::r,0,h=>by simp
 | x::r,k+1,h=>by
  rw[List.take_succ_cons,sR d r (by simpa using h)];simp
theorem wN {c:UInt8}:∀{s:Bs},c∉s→Lib.indexByte s c = -1
 | [],_=>rfl
 | x::r,h=>by
  simp only[List.mem_cons,not_or]at h
  have hb:(x==c)=false:=by simp only[beq_eq_false_iff_ne];exact fun e=>h.1 e.symm
  simp[Lib.indexByte,hb,wN h.2]
theorem wM {c:UInt8}:∀{s:Bs} {k:Nat},k<s.length→s.getD k 0=c→c∉s.take k→Lib.indexByte s c=(k:Int)
 | [],_,h,_,_=>by simp at h
 | x::r,0,_,h,_=>by
  have h:x=c:=by simpa using h
  simp[Lib.indexByte,h]
 | x::r,k+1,h1,h2,h3=>by
  simp only[List.take_succ_cons,List.mem_cons,not_or]at h3
  have hb:(x==c)=false:=by simp only[beq_eq_false_iff_ne];exact fun e=>h3.1 e.symm
  have ih:=wM (s:=r) (k:=k) (by simpa using h1) (by simpa using h2) h3.2
  have hne:(Lib.indexByte r c == -1)=false:=by rw[ih];simp
  simp[Lib.indexByte,hb,hne,ih]
theorem vE (s:Bs) (c:UInt8) (hs:s.length≤9223372036854775807):aM Tryz.prog 76 [.str s,.int .u8 (c.toNat:Int)] (.int .i64 (Lib.indexByte s c)):=by
 refine Cod.find_spec (fun E R hN hR=>?_)
 refine wW ?_
 refine aZ hN (fun k:Nat=>⟨[(0,.str s),(1,.int .u8 (c.toNat:Int)),(5,.int .i64 k)],[]⟩) (fun k=>k≤s.length∧c∉s.take k) (fun k=>s.length-k) 0 (.le vV) (by simp) ?_
 rintro k R1 ⟨hk,hno⟩ hR1
 by_cases hl:k<s.length
 ·have htk:=sR 0 s hl
  refine wW ?_
  refine kW (fun he=>?_) (fun he=>?_)
  ·refine wW ?_
   refine hR.ro ⟨rfl,?_⟩
   have hx:s.getD k 0=c:=UInt8.toNat.inj (by omega)
   rw[wM hl hx hno]
  ·refine wW ?_
   refine hR1 (k+1) _ (by omega) ⟨by omega,?_⟩ (.le vV)
   rw[htk]
   simp only[List.mem_append,List.mem_singleton,not_or]
   exact⟨hno,fun e=>he (by rw[←e])⟩
 ·obtain rfl:k=s.length:=by omega
  rw[List.take_of_length_le (Nat.le_refl _)]at hno
  refine wW ?_
  exact hR.ro ⟨rfl,by rw[wN hno]⟩
end Go.Proofs.YtlkmppkcbhodaaaGreatDoor.Ob
namespace Go.Proofs.YtlkmppkcbhodaaaGreatDoor.Ob
open Eng
set_option maxRecDepth 10000
def dB (k:Nat):UInt8:=UInt8.ofNat (48+k)
theorem eZ {n:Nat} (h:n<10):Lib.decDigits n=[dB n]:=by rw[Lib.decDigits,dif_pos h];rfl
theorem iL {n:Nat} (h:¬n<10):Lib.decDigits n=Lib.decDigits (n/10)++[dB (n%10)]:=by rw[Lib.decDigits,dif_neg h];rfl
theorem lQ {k:Nat} (h:k<10):(dB k).toNat=48+k:=by
 unfold dB;rw[UInt8.toNat_ofNat'];omega
theorem nT (n:Nat):Lib.decDigits n≠[]:=by
 by_cases h:n<10
 ·rw[eZ h];simp
 ·rw[iL h];simp
theorem qB:∀(f n:Nat),n≤f→∀b∈Lib.decDigits n,48≤b.toNat∧b.toNat≤57
 | 0,n,hf,b,hb=>by
  obtain rfl:n=0:=by omega
  rw[eZ (by omega)]at hb
  simp at hb;subst hb;decide
 | f+1,n,hf,b,hb=>by
  by_cases h:n<10
  ·rw[eZ h]at hb
   simp at hb;subst hb;rw[lQ h];omega
  ·rw[iL h]at hb
   rcases List.mem_append.1 hb with hb | hb
   ·exact qB f (n/10) (by omega) b hb
   ·simp at hb;subst hb;rw[lQ (by omega)];omega
theorem uT (b:UInt8):∀(l:Bs) (acc:Nat),Lib.decFrom acc (l++[b])=(Lib.decFrom acc l).bind fun m=>(Lib.digitVal b).map fun d=>m*10+d
 | [],acc=>by
  simp only[List.nil_append,Lib.decFrom,Option.bind_some]
  cases Lib.digitVal b<;>rfl
 | x::l,acc=>by
  simp only[List.cons_append,Lib.decFrom]
  cases Lib.digitVal x with
  | none=>rfl
  | some d=>exact uT b l _
theorem qD {k:Nat} (h:k<10):Lib.digitVal (dB k)=some k:=by
 unfold Lib.digitVal
 rw[lQ h,if_pos (by omega)]
 congr 1;omega
theorem uU:∀(f n:Nat),n≤f→Lib.decFrom 0 (Lib.decDigits n)=some n
 | 0,n,hf=>by
  obtain rfl:n=0:=by omega
  rw[eZ (by omega)]
  simp[Lib.decFrom,qD]
 | f+1,n,hf=>by
  by_cases h:n<10
  ·rw[eZ h]
   simp[Lib.decFrom,qD h]
  ·rw[iL h,uT,uU f (n/10) (by omega),qD (by omega)]
   simp;omega
theorem nS:∀(k n:Nat),n<10^(k+1)↔(Lib.decDigits n).length≤k+1
 | 0,n=>by
  by_cases h:n<10
  ·rw[eZ h];simp;omega
  ·rw[iL h]
   have:=List.length_pos_iff.2 (nT (n/10))
   simp only[List.length_append,List.length_singleton]
   omega
 | k+1,n=>by
  by_cases h:n<10
  ·rw[eZ h]
   have:10^1≤10^(k+1+1):=Nat.pow_le_pow_right (by decide) (by omega)
   simp only[List.length_singleton]
   omega
  ·rw[iL h]
   have ih:=nS k (n/10)
   have:n<10^(k+1+1)↔n/10<10^(k+1):=by rw[Nat.div_lt_iff_lt_mul (by decide),Nat.pow_succ 10 (k+1)]
   simp only[List.length_append,List.length_singleton]
   omega
theorem Ht {n:Nat} (h:(Lib.decDigits n).length≤18):Lib.atoiAll (Lib.decDigits n)=.ok n:=by
 rw[Lib.atoiAll_short _ h]
 have hf:=uU n n (Nat.le_refl _)
 have hd:=qB n n (Nat.le_refl _)
 cases hl:Lib.decDigits n with
 | nil=>exact absurd hl (nT n)
 | cons b r=>
  rw[hl]at hf hd
  have hb:=hd b (List.mem_cons_self ..)
  have h1:(b==45)=false:=by simp only[beq_eq_false_iff_ne];intro e;subst e;simp at hb
  have h2:(b==43)=false:=by simp only[beq_eq_false_iff_ne];intro e;subst e;simp at hb
  simp only[Lib.atoi,h1,h2,Lib.decNat,List.isEmpty_cons,Bool.false_eq_true,if_false,hf,Option.map_some]
  rfl
def dV (s:Bs):Option Nat:=
 match Lib.atoiAll s with
 | .ok v=>if 0≤v∧s.length≤9∧Lib.itoa v=s then some v.toNat else none
 | _=>none
theorem Yt {s:Bs} {y:Nat} (h:dV s=some y):Lib.itoa (y:Int)=s∧s.length≤9:=by
 unfold dV at h
 split at h
 ·split at h
  ·rename_i v _ hc
   obtain rfl:=Option.some.inj h
   obtain⟨h1,h2,h3⟩:=hc
   rw[show((v.toNat:Nat):Int)=v by omega]
   exact⟨h3,h2⟩
  ·cases h
 ·cases h
theorem Yr {n:Nat} (h:n≤999999999):dV (Lib.decDigits n)=some n:=by
 have hl:=(nS 8 n).1 (by omega)
 unfold dV
 rw[Ht (by omega)]
 simp only
 rw[if_pos ⟨by omega,hl,Lib.itoa_nonneg n⟩]
 simp
theorem l3 (n:Int) (h:n≤9223372036854775807) (h0:-9223372036854775808≤n):(Lib.itoa n).length≤20:=by
 unfold Lib.itoa
 split
 ·have:=(nS 18 n.natAbs).1 (by omega)
  simp only[List.length_cons];omega
 ·have:=(nS 18 n.toNat).1 (by omega)
  omega
def numA:Option Nat→AV
 | some n=>.ai [.int .i64 n,.bool true]
 | none=>.ai [.int .i64 0,.bool false]
theorem YF (s:Bs) (hs:s.length≤140737488351232):aM Tryz.prog 74 [.str s] (numA (dV s)):=by
 refine Cod.YG (fun E R hN hR=>?_)
 refine wW ?_
 refine iK (Db s hs) rfl ?_
 rintro h' v as' ⟨rfl,hv⟩
 unfold atoiA at hv
 unfold dV at hR
 cases he:Lib.atoiAll s
 ·rename_i n
  rw[he]at hv hR
  simp only at hv hR
  subst hv
  have hb:=Lib.atoiAll_bounds he
  refine⟨rfl,rfl,?_⟩
  by_cases h1:n<0
  ·rw[if_neg (by omega)]at hR
   refine wW ?_
   refine gG ?_
   exact hR.ro ⟨rfl,rfl⟩
  by_cases h2:s.length≤9
  ·refine wW ?_
   refine gG ?_
   refine cn (cP vV (xj n (by omega) (by omega)) vV rfl rfl ?_)
   by_cases h3:Lib.itoa n=s
   ·rw[if_pos ⟨by omega,h2,h3⟩]at hR
    refine au h3 ?_
    refine hR.ro ⟨rfl,?_⟩
    rw[numA,show((n.toNat:Nat):Int)=n by omega]
   ·rw[if_neg (fun h=>h3 h.2.2)]at hR
    refine au h3 ?_
    exact hR.ro ⟨rfl,rfl⟩
  ·rw[if_neg (fun h=>h2 h.2.1)]at hR
   refine wW ?_
   refine gG ?_
   exact hR.ro ⟨rfl,rfl⟩
 ·rw[he]at hv hR
  obtain⟨n,t,p,rfl⟩:=hv
  refine⟨rfl,rfl,?_⟩
  refine wW ?_
  refine gG ?_
  exact hR.ro ⟨rfl,rfl⟩
 ·rw[he]at hv hR
  obtain⟨n,t,p,rfl⟩:=hv
  refine⟨rfl,rfl,?_⟩
  refine wW ?_
  refine gG ?_
  exact hR.ro ⟨rfl,rfl⟩
theorem uV (n:Nat) (h:n<10):List.take (n+1-n) (List.drop n [48,49,50,51,52,53,54,55,56,57])=[dB n]:=by
 have:∀m:Fin 10,List.take (m.val+1-m.val) (List.drop m.val [48,49,50,51,52,53,54,55,56,57])=[dB m.val]:=by decide
 exact this ⟨n,h⟩
theorem sk:∀(f n:Nat),n≤f→n≤9223372036854775807→aM Tryz.prog 53 [.int .i64 (n:Int)] (.str (Lib.decDigits n)):=by
 intro f
 induction f with
 | zero=>
  intro n hn _
  obtain rfl:n=0:=by omega
  refine Cod.qE (fun E R hN hR=>?_)
  refine wW ?_
  refine gG ?_
  refine hR.ro ⟨rfl,?_⟩
  rw[eZ (by omega)];rfl
 | succ f ih=>
  intro n hn hb
  refine Cod.qE (fun E R hN hR=>?_)
  by_cases h:n<10
  ·have:=uV n h
   refine wW ?_
   refine gG ?_
   refine hR.ro ⟨rfl,?_⟩
   rw[eZ h,←this]
  ·have:=uV (n%10) (by omega)
   have ih:=ih (n/10) (by omega) (by omega)
   have hl:=l3 ((n/10:Nat):Int) (by omega) (by omega)
   rw[Lib.itoa_nonneg]at hl
   have e1:((n:Int)%10+1).toNat=n%10+1:=by omega
   have e2:((n:Int)%10).toNat=n%10:=by omega
   have e3:(n:Int)/10=((n/10:Nat):Int):=by omega
   refine wW ?_
   refine gG ?_
   rw[e1,e2,this,e3]
   refine aA ih rfl rfl ?_
   refine wW ?_
   refine hR.ro ⟨rfl,?_⟩
   rw[iL h]
theorem akZ:∀(f n:Nat),n≤f→1≤n→n≤9223372036854775808→aM Tryz.prog 53 [.int .i64 (-(n:Int))] (.str (45::Lib.decDigits n)):=by
 intro f
 induction f with
 | zero=>intro n hn h1;omega
 | succ f ih=>
  intro n hn h1 hb
  refine Cod.qE (fun E R hN hR=>?_)
  by_cases h:n<10
  ·have hd:=sk n n (Nat.le_refl _) (by omega)
   have e1:(0:Int) - -(n:Int)=(n:Int):=by omega
   have hl:(Lib.decDigits n).length≤1:=by rw[eZ h];simp
   refine wW ?_
   refine gG ?_
   rw[e1]
   refine aA hd rfl rfl ?_
   refine wW ?_
   exact hR.ro ⟨rfl,rfl⟩
  ·have e1:IntKind.i64.wrap ((-(n:Int)).tdiv 10) = -((n/10:Nat):Int):=by
    rw[Int.neg_tdiv,show(n:Int).tdiv 10=((n/10:Nat):Int)from rfl]
    exact ji (by omega)
   have e2:(0:Int)-(-(n:Int)).tmod 10=((n%10:Nat):Int):=by
    rw[Int.neg_tmod,show(n:Int).tmod 10=((n%10:Nat):Int)from rfl]
    omega
   have ih:=ih (n/10) (by omega) (by omega) (by omega)
   have hd:=sk (n%10) (n%10) (Nat.le_refl _) (by omega)
   have hl:=l3 (((n/10:Nat)):Int) (by omega) (by omega)
   rw[Lib.itoa_nonneg]at hl
   have hl2:(Lib.decDigits (n%10)).length≤1:=by rw[eZ (by omega)];simp
   have e3:=eZ (n:=n%10) (by omega)
   refine wW ?_
   refine gG ?_
   rw[e1]
   refine aA ih rfl rfl ?_
   refine au e2 ?_
   refine aA hd rfl rfl ?_
   refine wW ?_
   refine hR.ro ⟨rfl,?_⟩
   rw[iL h,e3]
theorem ak0 (n:Int) (h0:-9223372036854775808≤n) (h1:n≤9223372036854775807):aM Tryz.prog 53 [.int .i64 n] (.str (Lib.itoa n)):=by
 by_cases h:n<0
 ·have:=akZ n.natAbs n.natAbs (Nat.le_refl _) (by omega) (by omega)
  rw[show -((n.natAbs:Nat):Int)=n by omega]at this
  unfold Lib.itoa
  rw[if_pos h]
  exact this
 ·have:=sk n.toNat n.toNat (Nat.le_refl _) (by omega)
  rw[show((n.toNat:Nat):Int)=n by omega]at this
  unfold Lib.itoa
  rw[if_neg h]
  exact this
end Go.Proofs.YtlkmppkcbhodaaaGreatDoor.Ob
namespace Go.Proofs.YtlkmppkcbhodaaaGreatDoor.Ob
open Eng
set_option maxRecDepth 10000
def bt (k:Int):Bs:=if k=1 then[99,111,109,109,105,116]else if k=2 then[116,114,101,101]else if k=3 then[98,108,111,98]else if k=4 then[116,97,103]else[]
theorem rN (k:Int):aM Tryz.prog 88 [.int .i64 k] (.str (bt k)):=by
 refine Cod.Y3 (fun E R hN hR=>?_)
 unfold bt at hR
 by_cases h1:k=1
 ·subst h1
  refine wW ?_
  exact hR.ro ⟨rfl,rfl⟩
 by_cases h2:k=2
 ·subst h2
  refine wW ?_
  exact hR.ro ⟨rfl,rfl⟩
 by_cases h3:k=3
 ·subst h3
  refine wW ?_
  exact hR.ro ⟨rfl,rfl⟩
 by_cases h4:k=4
 ·subst h4
  refine wW ?_
  exact hR.ro ⟨rfl,rfl⟩
 rw[if_neg h1,if_neg h2,if_neg h3,if_neg h4]at hR
 refine wW ?_
 exact hR.ro ⟨rfl,rfl⟩
theorem mb (k:Int):(bt k).length≤6:=by
 unfold bt
 repeat' (first | (split) | simp)
def ee (k:Int) (d:Bs):AV:=.agg [.int .i64 k,.str d]
def eD (k:Int) (d:Bs):Int:=if bt k=[]then 10 else if 65000<d.length then 2 else 0
theorem GB (k:Int) (d:Bs) (hd:d.length≤9223372036854775807):aM Tryz.prog 87 [ee k d] (.int .i64 (eD k d)):=by
 refine Cod.GC (fun E R hN hR=>?_)
 unfold eD at hR
 simp(disch:=omega)only[go_sem,simprocAttr,ee]
 refine aA (rN k) rfl rfl ?_
 by_cases h1:bt k=[]
 ·rw[if_pos h1]at hR
  refine au h1 ?_
  exact hR.ro ⟨rfl,rfl⟩
 ·rw[if_neg h1]at hR
  by_cases h2:65000<d.length
  ·rw[if_pos h2]at hR
   refine au h1 ?_
   exact hR.ro ⟨rfl,rfl⟩
  ·rw[if_neg h2]at hR
   refine au h1 ?_
   exact hR.ro ⟨rfl,rfl⟩
def fD (k:Int) (d:Bs):Bs:=bt k++32::(Lib.itoa d.length++0::d)
def qI (k:Int) (d:Bs):AV:=if eD k d=0 then .ai [.str (fD k d),.int .i64 0]else .ai [.str [],.int .i64 (eD k d)]
theorem I4 (k:Int) (d:Bs) (hd:d.length≤9223372036854775807):aM Tryz.prog 46 [ee k d] (qI k d):=by
 refine Cod.I5 (fun E R hN hR=>?_)
 unfold qI at hR
 simp(disch:=omega)only[go_sem,simprocAttr,ee]
 refine aA (GB k d hd) rfl rfl ?_
 by_cases h:eD k d=0
 ·rw[if_pos h]at hR
  have hl:d.length≤65000:=by
   unfold eD at h
   split at h
   ·cases h
   ·split at h
    ·cases h
    ·omega
  have hnl:=mb k
  have hil:=l3 d.length (by omega) (by omega)
  have hi:=xj d.length (by omega) (by omega)
  refine au h ?_
  refine aA (rN k) rfl rfl ?_
  refine wW ?_
  refine aA hi rfl rfl ?_
  refine wW ?_
  refine hR.ro ⟨rfl,?_⟩
  simp[fD]
 ·rw[if_neg h]at hR
  refine au h ?_
  exact hR.ro ⟨rfl,rfl⟩
def rb (k:Int) (d:Bs):AV:=if eD k d=0 then .ai [.str (Sh.dI (Sh.fS (fD k d))),.int .i64 0]else .ai [.str [],.int .i64 (eD k d)]
theorem uK {k:Int} {d:Bs} (h:eD k d=0):d.length≤65000:=by
 unfold eD at h
 split at h
 ·cases h
 ·split at h
  ·cases h
  ·omega
theorem Bh (k:Int) {d:Bs} (h:d.length≤65000):(fD k d).length≤66000:=by
 have hnl:=mb k
 have hil:=l3 d.length (by omega) (by omega)
 unfold fD
 simp only[List.length_append,List.length_cons]
 omega
theorem Om (k:Int) (d:Bs) (hd:d.length≤9223372036854775807):aM Tryz.prog 36 [ee k d] (rb k d):=by
 refine Cod.YP (fun E R hN hR=>?_)
 have he:=I4 k d hd
 unfold qI at he
 unfold rb at hR
 by_cases h:eD k d=0
 ·rw[if_pos h]at hR he
  have hl:=Bh k (uK h)
  have hs:=Sh.aru (fD k d) (by omega)
  have hh:=Sh.Md (Sh.fS (fD k d)) (by rw[Sh.AG];omega)
  simp(disch:=omega)only[go_sem,simprocAttr,ee]
  refine aA he rfl rfl ?_
  refine wW ?_
  refine aA hs rfl rfl ?_
  refine wW ?_
  refine aA hh rfl rfl ?_
  refine wW ?_
  exact hR.ro ⟨rfl,rfl⟩
 ·rw[if_neg h]at hR he
  simp(disch:=omega)only[go_sem,simprocAttr,ee]
  refine aA he rfl rfl ?_
  refine au h ?_
  exact hR.ro ⟨rfl,rfl⟩
end Go.Proofs.YtlkmppkcbhodaaaGreatDoor.Ob
namespace Go.Proofs.YtlkmppkcbhodaaaGreatDoor.Ob
open Eng
set_option maxRecDepth 10000
def fM (b:UInt8):Bool:=decide (48≤b.toNat∧b.toNat≤57)
def fE (s:Bs):Nat:=s.foldl (fun n b=>10*n+(b.toNat-48)) 0
theorem sX (s:Bs) (b:UInt8):fE (s++[b])=10*fE s+(b.toNat-48):=by simp[fE]
theorem sW:∀(k:Nat) (s:Bs),s.length=k→s.all fM=true→fE s<10^k
 | 0,s,h,_=>by
  rw[List.eq_nil_of_length_eq_zero h];decide
 | k+1,s,h,hd=>by
  obtain⟨t,b,rfl⟩:∃t b,s=t++[b]:=⟨s.dropLast,s.getLast (by intro e;rw[e]at h;cases h),(List.dropLast_concat_getLast _).symm⟩
  rw[List.all_append]at hd
  simp only[Bool.and_eq_true,List.all_cons,List.all_nil,Bool.and_true]at hd
  have ih:=sW k t (by simpa using h) hd.1
  have hb:=hd.2
  unfold fM at hb
  rw[decide_eq_true_eq]at hb
  rw[sX,Nat.pow_succ]
  omega
theorem uR {b:UInt8} (h:fM b=true):dB (b.toNat-48)=b:=by
 unfold fM at h
 rw[decide_eq_true_eq]at h
 apply UInt8.toNat.inj
 rw[lQ (by omega)];omega
theorem canon:∀(k:Nat) (s:Bs),s.length=k+1→s.all fM=true→(1<s.length→s.getD 0 0≠48)→Lib.decDigits (fE s)=s
 | 0,s,h,hd,_=>by
  match s,h with
  | [b],_=>
   simp only[List.all_cons,List.all_nil,Bool.and_true]at hd
   have hb:=hd
   unfold fM at hb
   rw[decide_eq_true_eq]at hb
   have:fE [b]=b.toNat-48:=by simp[fE]
   rw[this,eZ (by omega),uR hd]
 | k+1,s,h,hd,h0=>by
  obtain⟨t,b,rfl⟩:∃t b,s=t++[b]:=⟨s.dropLast,s.getLast (by intro e;rw[e]at h;cases h),(List.dropLast_concat_getLast _).symm⟩
  rw[List.all_append]at hd
  simp only[Bool.and_eq_true,List.all_cons,List.all_nil,Bool.and_true]at hd
  have hl:t.length=k+1:=by simpa using h
  have hg:t.getD 0 0≠48:=by
   have:=h0 (by simp;omega)
   rwa[List.getD_eq_getElem?_getD,List.getElem?_append_left (by omega),←List.getD_eq_getElem?_getD]at this
  have ih:=canon k t hl hd.1 (fun _=>hg)
  have hb:=hd.2
  unfold fM at hb
  rw[decide_eq_true_eq]at hb
  have hpos:1≤fE t:=by
   rcases Nat.eq_zero_or_pos (fE t)with h1 | h1
   ·rw[h1,eZ (by omega)]at ih
    rw[←ih]at hg
    exact absurd rfl hg
   ·exact h1
  rw[sX,iL (by omega),show(10*fE t+(b.toNat-48))/10=fE t by omega,show(10*fE t+(b.toNat-48))%10=b.toNat-48 by omega,ih,uR hd.2]
def wa (s:Bs):Prop:=1≤s.length∧s.length≤9∧(1<s.length→s.getD 0 0≠48)∧s.all fM=true
theorem Hr (n:Nat):(Lib.decDigits n).all fM=true:=by
 rw[List.all_eq_true]
 intro b hb
 have:=qB n n (Nat.le_refl _) b hb
 unfold fM
 rw[decide_eq_true_eq];exact this
theorem Hw (n:Nat) (h:1<(Lib.decDigits n).length):(Lib.decDigits n).getD 0 0≠48:=by
 have key:∀(f n:Nat),n≤f→1≤n→(Lib.decDigits n).getD 0 0≠48:=by
  intro f
  induction f with
  | zero=>intro n h1 h2;omega
  | succ f ih=>
   intro n h1 h2
   by_cases hs:n<10
   ·rw[eZ hs]
    intro e
    have:=congrArg UInt8.toNat e
    simp only[List.getD_cons_zero]at this
    rw[lQ hs]at this
    have h48:(48:UInt8).toNat=48:=rfl
    omega
   ·rw[iL hs]
    have hn:=List.length_pos_iff.2 (nT (n/10))
    rw[List.getD_eq_getElem?_getD,List.getElem?_append_left hn,←List.getD_eq_getElem?_getD]
    exact ih (n/10) (by omega) (by omega)
 refine key n n (Nat.le_refl _) ?_
 rcases Nat.eq_zero_or_pos n with h1 | h1
 ·rw[h1,eZ (by omega)]at h
  simp at h
 ·exact h1
theorem Ys {s:Bs} (h:wa s):dV s=some (fE s):=by
 obtain⟨h1,h2,h3,h4⟩:=h
 have hc:=canon (s.length-1) s (by omega) h4 h3
 have hv:=sW s.length s rfl h4
 have h9:(10:Nat)^s.length≤10^9:=Nat.pow_le_pow_right (by decide) h2
 rw[←hc,Yr (by omega),hc]
theorem o7 {s:Bs} (h:¬wa s):dV s=none:=by
 cases hn:dV s with
 | none=>rfl
 | some y=>
  exfalso
  obtain⟨h1,h2⟩:=Yt hn
  rw[Lib.itoa_nonneg]at h1
  subst h1
  exact h ⟨List.length_pos_iff.2 (nT y),h2,Hw y,Hr y⟩
def iY (o:Option Nat):Int:=match o with
 | some n=>n
 | none=>-1
theorem aiZ (s:Bs) (hs:s.length≤9223372036854775807):aM Tryz.prog 77 [.str s] (.int .i64 (iY (dV s))):=by
 refine Cod.ai0 (fun E R hN hR=>?_)
 by_cases h1:s.length=0
 ·rw[o7 (fun h=>by have:=h.1;omega)]at hR
  refine wW ?_
  refine gG ?_
  exact hR.ro ⟨rfl,rfl⟩
 by_cases h9:9<s.length
 ·rw[o7 (fun h=>by have:=h.2.1;omega)]at hR
  refine wW ?_
  refine gG ?_
  exact hR.ro ⟨rfl,rfl⟩
 have rest:(1<s.length→s.getD 0 0≠48)→vcW Tryz.prog E Cod.zy (KQ.cG 0 (KQ.seq Tryz.prog E Cod.zx (KQ.post [.tmp 2] 1 R))) ⟨[(0,.str s),(3,.int .i64 0),(4,.int .i64 0)],[]⟩:=by
  intro h0
  have bad:∀k,k<s.length→fM (s.getD k 0)=false→dV s=none:=by
   intro k hk hd
   refine o7 (fun h=>?_)
   have:=List.all_eq_true.1 h.2.2.2 (s.getD k 0) (by rw[List.getD_eq_getElem?_getD,List.getElem?_eq_getElem hk];exact List.getElem_mem hk)
   rw[this]at hd;cases hd
  refine aZ hN (fun k:Nat=>⟨[(0,.str s),(3,.int .i64 (fE (s.take k))),(4,.int .i64 k)],[]⟩) (fun k=>k≤s.length∧(s.take k).all fM=true) (fun k=>s.length-k) 0 (.le (by simp(disch:=omega)only[go_sem,simprocAttr];rfl)) ⟨by omega,rfl⟩ ?_
  rintro k R1 ⟨hk,hall⟩ hR1
  by_cases hlt:k<s.length
  ·have htk:=sR 0 s hlt
   have hbd:=bad k hlt
   have hvl:=sW k (s.take k) (by rw[List.length_take];omega) hall
   have h8:(10:Nat)^k≤10^8:=Nat.pow_le_pow_right (by decide) (by omega)
   generalize hb:s.getD k 0=b at *
   generalize hn:fE (s.take k)=n at *
   have hb1:=b.toNat_lt
   unfold fM at hbd
   by_cases c1:b.toNat<48
   ·rw[hbd (decide_eq_false (by omega))]at hR
    refine au hb ?_
    refine gG ?_
    exact hR.ro ⟨rfl,rfl⟩
   by_cases c2:57<b.toNat
   ·rw[hbd (decide_eq_false (by omega))]at hR
    refine au hb ?_
    exact hR.ro ⟨rfl,rfl⟩
   refine au hb ?_
   refine hR1 (k+1) _ (by omega) ⟨by omega,?_⟩ (.le ?_)
   ·rw[htk,List.all_append,hall]
    simp[fM];omega
   ·rw[htk,sX,hn]
    exact vV
  ·obtain rfl:k=s.length:=by omega
   rw[List.take_of_length_le (by omega)]at hall ⊢
   rw[Ys ⟨by omega,by omega,h0,hall⟩]at hR
   refine wW ?_
   exact hR.ro ⟨rfl,rfl⟩
 by_cases hz:(s.getD 0 0).toNat=48
 ·by_cases hl:1<s.length
  ·rw[o7 (fun h=>h.2.2.1 hl (UInt8.toNat.inj hz))]at hR
   refine wW ?_
   refine gG ?_
   exact hR.ro ⟨rfl,rfl⟩
  ·refine wW ?_
   refine gG ?_
   exact rest (fun h=>absurd h hl)
 ·refine wW ?_
  refine gG ?_
  exact rest (fun _ e=>hz (by rw[e];rfl))
end Go.Proofs.YtlkmppkcbhodaaaGreatDoor.Ob
namespace Go.Proofs.YtlkmppkcbhodaaaGreatDoor.Ob
open Eng
set_option maxRecDepth 10000
theorem zZ (k:Int) (h0:-9223372036854775808≤k) (h1:k≤9223372036854775807):aM Tryz.prog 48 [.int .i64 k] (.str (bt k)):=by
 refine Cod.amw (fun E R hN hR=>?_)
 unfold bt at hR
 by_cases a1:k<1
 ·rw[if_neg (by omega),if_neg (by omega),if_neg (by omega),if_neg (by omega)]at hR
  refine wW ?_
  refine gG ?_
  exact hR.ro ⟨rfl,rfl⟩
 by_cases a2:4<k
 ·rw[if_neg (by omega),if_neg (by omega),if_neg (by omega),if_neg (by omega)]at hR
  refine wW ?_
  refine gG ?_
  exact hR.ro ⟨rfl,rfl⟩
 have hk:k=1∨k=2∨k=3∨k=4:=by omega
 rcases hk with rfl | rfl | rfl | rfl
 all_goals
  refine bo @Sh.lf @Sh.lh ?_
  refine dS @Sh.lf @Sh.lh ?_
  first | exact hR.ro ⟨rfl,rfl⟩ | (exact hR.wk (h':=[]) (ar':=[.undef]) rfl (.le vV) ⟨rfl,rfl⟩)
def fg (s:Bs):Int:=if bt 1=s then 1 else if bt 2=s then 2 else if bt 3=s then 3 else if bt 4=s then 4 else 0
theorem xq (s:Bs) (k:Nat) (h1:1≤k) (h4:k≤4) (hno:∀j:Nat,1≤j→j<k→bt j≠s) (hk:bt k=s):fg s=k:=by
 unfold fg
 have hc:k=1∨k=2∨k=3∨k=4:=by omega
 rcases hc with rfl | rfl | rfl | rfl
 ·rw[if_pos (show bt 1=s from hk)];rfl
 ·rw[if_neg (show bt 1≠s from hno 1 (by omega) (by omega)),if_pos (show bt 2=s from hk)];rfl
 ·rw[if_neg (show bt 1≠s from hno 1 (by omega) (by omega)),if_neg (show bt 2≠s from hno 2 (by omega) (by omega)),if_pos (show bt 3=s from hk)];rfl
 ·rw[if_neg (show bt 1≠s from hno 1 (by omega) (by omega)),if_neg (show bt 2≠s from hno 2 (by omega) (by omega)),if_neg (show bt 3≠s from hno 3 (by omega) (by omega)),if_pos (show bt 4=s from hk)];rfl
theorem xr (s:Bs) (hno:∀j:Nat,1≤j→j<5→bt j≠s):fg s=0:=by
 unfold fg
 rw[if_neg (show bt 1≠s from hno 1 (by omega) (by omega)),if_neg (show bt 2≠s from hno 2 (by omega) (by omega)),if_neg (show bt 3≠s from hno 3 (by omega) (by omega)),if_neg (show bt 4≠s from hno 4 (by omega) (by omega))]
theorem rz (s:Bs):aM Tryz.prog 75 [.str s] (.int .i64 (fg s)):=by
 refine Cod.Uu (fun E R hN hR=>?_)
 refine wW ?_
 refine aZ hN (fun k:Nat=>⟨[(0,.str s),(3,.int .i64 k)],[]⟩) (fun k=>1≤k∧k≤5∧∀j:Nat,1≤j→j<k→bt j≠s) (fun k=>5-k) 1 (.le vV) ⟨by omega,by omega,fun j h1 h2=>by omega⟩ ?_
 rintro k R1 ⟨h1,h5,hno⟩ hR1
 by_cases hlt:k≤4
 ·have hn:=rN k
  refine wW ?_
  refine aA hn rfl rfl ?_
  by_cases he:bt k=s
  ·refine au he ?_
   exact hR.ro ⟨rfl,by rw[xq s k h1 hlt hno he]⟩
  ·refine au he ?_
   refine hR1 (k+1) _ (by omega) ⟨by omega,by omega,fun j g1 g2=>?_⟩ (.le vV)
   by_cases hj:j=k
   ·subst hj;exact he
   ·exact hno j g1 (by omega)
 ·obtain rfl:k=5:=by omega
  refine wW ?_
  exact hR.ro ⟨rfl,by rw[xr s hno]⟩
theorem alY (s:Bs):aM Tryz.prog 78 [.str s] (.int .i64 (fg s)):=by
 refine Cod.alZ (fun E R hN hR=>?_)
 refine wW ?_
 refine aZ hN (fun k:Nat=>⟨[(0,.str s),(3,.int .i64 k)],[]⟩) (fun k=>1≤k∧k≤5∧∀j:Nat,1≤j→j<k→bt j≠s) (fun k=>5-k) 1 (.le vV) ⟨by omega,by omega,fun j h1 h2=>by omega⟩ ?_
 rintro k R1 ⟨h1,h5,hno⟩ hR1
 by_cases hlt:k≤4
 ·have hn:=zZ k (by omega) (by omega)
  refine wW ?_
  refine aA hn rfl rfl ?_
  by_cases he:bt k=s
  ·refine au he ?_
   exact hR.ro ⟨rfl,by rw[xq s k h1 hlt hno he]⟩
  ·refine au he ?_
   refine hR1 (k+1) _ (by omega) ⟨by omega,by omega,fun j g1 g2=>?_⟩ (.le vV)
   by_cases hj:j=k
   ·subst hj;exact he
   ·exact hno j g1 (by omega)
 ·obtain rfl:k=5:=by omega
  refine wW ?_
  exact hR.ro ⟨rfl,by rw[xr s hno]⟩
theorem anZ (k:Int) (d:Bs) (h0:-9223372036854775808≤k) (h1:k≤9223372036854775807) (hd:d.length≤65000):aM Tryz.prog 25 [ee k d] (.str (fD k d)):=by
 refine Cod.an0 (fun E R hN hR=>?_)
 have hnl:=mb k
 have hil:=l3 d.length (by omega) (by omega)
 have hi:=ak0 d.length (by omega) (by omega)
 simp(disch:=omega)only[go_sem,simprocAttr,ee]
 refine aA (zZ k h0 h1) rfl rfl ?_
 refine wW ?_
 refine aA hi rfl rfl ?_
 refine wW ?_
 refine hR.ro ⟨rfl,?_⟩
 simp[fD]
theorem alK (k:Int) (d:Bs) (h0:-9223372036854775808≤k) (h1:k≤9223372036854775807) (hd:d.length≤65000):aM Tryz.prog 12 [ee k d] (.str (Sh.dI (Sh.fS (fD k d)))):=by
 refine Cod.alL (fun E R hN hR=>?_)
 have hl:=Bh k hd
 have ht:=anZ k d h0 h1 hd
 have hs:=Sh.anS (fD k d) (by omega)
 have hh:=Sh.alF (Sh.fS (fD k d)) (by rw[Sh.AG];omega)
 simp(disch:=omega)only[go_sem,simprocAttr,ee]
 refine aA ht rfl rfl ?_
 refine wW ?_
 refine aA hs rfl rfl ?_
 refine wW ?_
 refine aA hh rfl rfl ?_
 refine wW ?_
 exact hR.ro ⟨rfl,rfl⟩
theorem nN (c:UInt8):∀s:Bs,(cutP c s).1.length≤s.length∧(cutP c s).2.1.length≤s.length
 | []=>by simp[cutP]
 | x::r=>by
  have:=nN c r
  unfold cutP
  split
  ·simp
  ·simp only[List.length_cons];omega
def fa (s:Bs):Int×Bs×Int:=
 if(cutP 0 s).2.2=false∨(cutP 32 (cutP 0 s).1).2.2=false∨dV (cutP 32 (cutP 0 s).1).2.1=none then(0,[],3)
 else if fg (cutP 32 (cutP 0 s).1).1=0 then(0,[],10)
 else if 65000<iY (dV (cutP 32 (cutP 0 s).1).2.1)then(0,[],2)
 else if((cutP 0 s).2.1.length:Int)<iY (dV (cutP 32 (cutP 0 s).1).2.1)then(0,[],6)
 else if iY (dV (cutP 32 (cutP 0 s).1).2.1)<((cutP 0 s).2.1.length:Int)then(0,[],3)
 else(fg (cutP 32 (cutP 0 s).1).1,(cutP 0 s).2.1,0)
def fI (x:Int×Bs×Int):AV:=.ai [ee x.1 x.2.1,.int .i64 x.2.2]
theorem HU (s:Bs) (hs:s.length≤140737488351232):aM Tryz.prog 40 [.str s] (fI (fa s)):=by
 refine Cod.HV (fun E R hN hR=>?_)
 have hl0:=nN 0 s
 have hc0:=uP s 0 (by omega)
 unfold fa at hR
 generalize hq:cutP 0 s=q at *
 obtain⟨head,data,ok⟩:=q
 simp only at *
 have hl1:=nN 32 head
 have hc1:=uP head 32 (by omega)
 generalize hq1:cutP 32 head=q1 at *
 obtain⟨name,size,blank⟩:=q1
 simp only at *
 have hn:=YF size (by omega)
 have hk:=rz name
 rw[nL]at hc0 hc1
 simp only at hc0 hc1
 refine wW ?_
 refine aA hc0 rfl rfl ?_
 refine wW ?_
 refine aA hc1 rfl rfl ?_
 refine wW ?_
 refine aA hn rfl (by cases dV size<;>rfl) ?_
 cases ok with
 | false=>
  rw[if_pos (.inl rfl)]at hR
  cases hO:dV size with
  | none=>
   simp(disch:=omega)only[go_sem,simprocAttr,numA]
   refine gG ?_
   exact hR.ro ⟨rfl,rfl⟩
  | some n=>
   simp(disch:=omega)only[go_sem,simprocAttr,numA]
   refine gG ?_
   exact hR.ro ⟨rfl,rfl⟩
 | true=>
  cases blank with
  | false=>
   rw[if_pos (.inr (.inl rfl))]at hR
   cases hO:dV size with
   | none=>
    simp(disch:=omega)only[go_sem,simprocAttr,numA]
    refine gG ?_
    exact hR.ro ⟨rfl,rfl⟩
   | some n=>
    simp(disch:=omega)only[go_sem,simprocAttr,numA]
    refine gG ?_
    exact hR.ro ⟨rfl,rfl⟩
  | true=>
   cases hO:dV size with
   | none=>
    rw[if_pos (.inr (.inr hO))]at hR
    simp(disch:=omega)only[go_sem,simprocAttr,numA]
    refine gG ?_
    exact hR.ro ⟨rfl,rfl⟩
   | some n=>
    rw[if_neg (by rw[hO];simp),hO,iY]at hR
    simp(disch:=omega)only[go_sem,simprocAttr,numA]
    refine aA hk rfl rfl ?_
    by_cases h1:fg name=0
    ·rw[if_pos h1]at hR
     refine au h1 ?_
     exact hR.ro ⟨rfl,rfl⟩
    rw[if_neg h1]at hR
    by_cases h2:65000<(n:Int)
    ·rw[if_pos h2]at hR
     refine au h1 ?_
     exact hR.ro ⟨rfl,rfl⟩
    rw[if_neg h2]at hR
    by_cases h3:(data.length:Int)<n
    ·rw[if_pos h3]at hR
     refine au h1 ?_
     exact hR.ro ⟨rfl,rfl⟩
    rw[if_neg h3]at hR
    by_cases h4:(n:Int)<data.length
    ·rw[if_pos h4]at hR
     refine au h1 ?_
     exact hR.ro ⟨rfl,rfl⟩
    rw[if_neg h4]at hR
    refine au h1 ?_
    refine aA hk rfl rfl ?_
    refine wW ?_
    exact hR.ro ⟨rfl,rfl⟩
theorem akX (s:Bs) (hs:s.length≤140737488351232):aM Tryz.prog 41 [.str s] (fI (fa s)):=by
 refine Cod.akY (fun E R hN hR=>?_)
 have hf0:=vE s 0 (by omega)
 unfold fa at hR
 rcases nM 0 s with⟨i0,c0⟩ | ⟨e,he,i0,c0⟩
 ·rw[c0]at hR
  rw[if_pos (.inl rfl)]at hR
  rw[i0]at hf0
  refine wW ?_
  refine aA hf0 rfl rfl ?_
  refine wW ?_
  exact hR.ro ⟨rfl,rfl⟩
 rw[c0]at hR
 rw[i0]at hf0
 simp only at hR
 have hht:(s.take e).length=e:=by rw[List.length_take];omega
 have hf1:=vE (s.take e) 32 (by omega)
 rcases nM 32 (s.take e)with⟨i1,c1⟩ | ⟨a,ha,i1,c1⟩
 ·rw[c1]at hR
  rw[if_pos (.inr (.inl rfl))]at hR
  rw[i1]at hf1
  refine wW ?_
  refine aA hf0 rfl rfl ?_
  refine wW ?_
  refine aA hf1 rfl rfl ?_
  refine wW ?_
  refine gG ?_
  exact hR.ro ⟨rfl,rfl⟩
 rw[c1]at hR
 rw[i1]at hf1
 simp only at hR
 rw[hht]at ha
 have ez:(s.drop (a+1)).take (e-(a+1))=(s.take e).drop (a+1):=List.drop_take.symm
 have en:(s.take a)=(s.take e).take a:=by rw[List.take_take,Nat.min_eq_left (by omega)]
 have hn:=aiZ ((s.take e).drop (a+1)) (by rw[List.length_drop];omega)
 have hk:=alY ((s.take e).take a)
 generalize aL:(s.take e).drop (a+1)=size at *
 generalize hnm:(s.take e).take a=name at *
 have hdl:(s.drop (e+1)).length+(e+1)=s.length:=by rw[List.length_drop];omega
 refine wW ?_
 refine aA hf0 rfl rfl ?_
 refine wW ?_
 refine aA hf1 rfl rfl ?_
 refine bo ez en ?_
 refine cn (cP vV hn vV rfl rfl ?_)
 cases hO:dV size with
 | none=>
  rw[if_pos (.inr (.inr hO))]at hR
  simp(disch:=omega)only[go_sem,simprocAttr,iY]
  exact hR.ro ⟨rfl,rfl⟩
 | some n=>
  rw[if_neg (by rw[hO];simp),hO,iY]at hR
  rw[hO,iY]at hn
  simp(disch:=omega)only[go_sem,simprocAttr,iY,ez]
  refine aA hn rfl rfl ?_
  generalize hda:s.drop (e+1)=data at *
  refine bo hda en ?_
  refine aA hk rfl rfl ?_
  by_cases h1:fg name=0
  ·rw[if_pos h1]at hR
   refine au h1 ?_
   exact hR.ro ⟨rfl,rfl⟩
  rw[if_neg h1]at hR
  by_cases h2:65000<(n:Int)
  ·rw[if_pos h2]at hR
   refine au h1 ?_
   exact hR.ro ⟨rfl,rfl⟩
  rw[if_neg h2]at hR
  by_cases h3:(data.length:Int)<n
  ·rw[if_pos h3]at hR
   refine au h1 ?_
   exact hR.ro ⟨rfl,rfl⟩
  rw[if_neg h3]at hR
  by_cases h4:(n:Int)<data.length
  ·rw[if_pos h4]at hR
   refine au h1 ?_
   exact hR.ro ⟨rfl,rfl⟩
  rw[if_neg h4]at hR
  refine bo h1 en ?_
  refine aA hk rfl rfl ?_
  refine wW ?_
  exact hR.ro ⟨rfl,rfl⟩
end Go.Proofs.YtlkmppkcbhodaaaGreatDoor.Ob
