/- The proof, part 25 of 34. -/
import Derived.Test.YtlkmppkcbhodaaaGreatDoorLooseWritesO
import Derived.Test.YtlkmppkcbhodaaaGreatDoorLooseWritesP
import Derived.Test.YtlkmppkcbhodaaaGreatDoorLooseWritesX
import Derived.Lib.AtoiTie
import Derived.Lib.ItoaMem
import Derived.Lib.AppendIntMem
import Derived.Lib.AtoiErrMem
set_option linter.all false
namespace Go.Proofs.YtlkmppkcbhodaaaGreatDoor.Ob
open Eng
set_option maxRecDepth 10000
abbrev Bs:=List UInt8
theorem arF {P:Program} {name:String} {g:Nat} {k:IntKind} {zs:List Int} {w:World} {cs:Array Value} {t:TypeId} {fz:Nat×Nat} (hg:P.globalNamed name=some g) (hw:w.heap[g]?=some (.cells cs t fz)) (he:cs=(zs.map fun z=>Value.int k z).toArray):Lib.TabIs P w name k zs:=by
 unfold Lib.TabIs World.var?
 rw[hg]
 simp only[Option.bind_some,hw,he]
theorem cell_of {w:World} {g:Nat} {v:Value} {t:TypeId} {fz:Nat×Nat} (hw:w.heap[g]?=some (.cells #[v] t fz)):w.cell? ⟨g,0,none⟩=some v:=by
 simp[World.cell?,hw]
theorem xA {v:Value} (h:isIfV v=true):v=.nilIface∨∃t p,v=.iface t p:=by
 cases v<;>simp[isIfV]at h
 ·exact .inr ⟨_,_,rfl⟩
 ·exact .inl rfl
theorem x6 (n:Int) (h0:-9223372036854775808≤n) (h1:n≤9223372036854775807):aP Tryz.prog 89 [.int .i64 n] (.str (Lib.itoa n)):=by
 refine BE rfl rfl (fun w hA=>?_)
 obtain⟨cs,t,fz,g1,g2⟩:=hA (5,_) (by unfold ly;simp only[List.nil_append,List.cons_append,List.mem_cons];exact .inl rfl)
 refine(Any.strconv_Itoa Tryz.laysM171 n h0 h1 w (arF (by kernel_rfl) g1 g2)).mono ?_
 rintro e w' ⟨rfl,k,os,rfl⟩
 exact⟨rfl,Lib.below_grow _ _ (Nat.le_refl _) _ _⟩
def atoiA (s:Bs) (r:AV):Prop:=
 match Lib.atoiAll s with
 | .ok v=>r=.aj [.int .i64 v,.lit .nilIface]
 | _=>∃n t p,r=.aj [.int .i64 n,.lit (.iface t p)]
theorem D2 (s:Bs) (hs:s.length≤140737488351232):Eng.Spec Tryz.prog 125 [] [.str s] (fun h r _=>h=[]∧atoiA s r):=by
 refine BC rfl (fun w hA=>?_)
 have hl:(⟨s.toArray⟩:ByteArray).size≤140737488351232:=by simpa[ByteArray.size]using hs
 unfold atoiA
 cases he:Lib.atoiAll s
 ·rename_i v
  refine(Any.strconv_Atoi_ok Tryz.laysC172 ⟨s.toArray⟩ (by omega) v he w).mono ?_
  rintro e w' ⟨rfl,hw⟩
  refine⟨_,rfl,rfl,rfl,?_⟩
  rcases hw with rfl | ⟨t,rfl⟩
  ·exact .refl _ _
  ·exact Lib.bytesWorld_below _ _ _
 ·obtain⟨cs,t,fz,g1,v,rfl,g3⟩:=hA (3,_) (by unfold ly;simp only[List.nil_append,List.cons_append,List.mem_cons];exact .inr (.inl rfl))
  refine(Any.strconv_Atoi_syntax Tryz.laysC172 ⟨s.toArray⟩ (by omega) he v w (cell_of g1) (xA g3)).mono ?_
  rintro e w' ⟨N,rfl,_,_,hb⟩
  exact⟨_,⟨_,_,_,rfl⟩,rfl,rfl,hb⟩
 ·obtain⟨cs,t,fz,g1,v,rfl,g3⟩:=hA (4,_) (by unfold ly;simp only[List.nil_append,List.cons_append,List.mem_cons];exact .inr (.inr (.inl rfl)))
  refine(Any.strconv_Atoi_range Tryz.laysC172 ⟨s.toArray⟩ (by omega) he v w (cell_of g1) (xA g3)).mono ?_
  rintro e w' ⟨N,rfl,_,_,hb⟩
  exact⟨_,⟨_,_,_,rfl⟩,rfl,rfl,hb⟩
theorem RM (s:Bs) (c:UInt8):aP Tryz.prog 130 [.str s,.str [c]] (.int .i64 (Lib.indexByte s c)):=
 BG rfl rfl (fun w=>Tryz.stringslite_Index_one ⟨s.toArray⟩ c w)
def cutP (c:UInt8):Bs→Bs×Bs×Bool
 | []=>([],[],false)
 | x::r=>if x=c then([],r,true)else(x::(cutP c r).1,(cutP c r).2)
theorem vC (c:UInt8):∀s:Bs,(Lib.indexByte s c = -1∧cutP c s=(s,[],false))∨∃j:Nat,j<s.length∧Lib.indexByte s c=(j:Int)∧cutP c s=(s.take j,s.drop (j+1),true)
 | []=>.inl ⟨rfl,rfl⟩
 | x::r=>by
  by_cases hx:x=c
  ·subst hx
   exact .inr ⟨0,by simp,by simp[Lib.indexByte],by simp[cutP]⟩
  ·have hb:(x==c)=false:=by simp[hx]
   rcases vC c r with⟨h1,h2⟩ | ⟨j,h1,h2,h3⟩
   ·refine .inl ⟨by simp[Lib.indexByte,hb,h1],by simp[cutP,hx,h2]⟩
   ·refine .inr ⟨j+1,by simp;omega,?_,by simp[cutP,hx,h3]⟩
    have hne:(Lib.indexByte r c == -1)=false:=by rw[h2];simp
    simp[Lib.indexByte,hb,hne,h2]
def oq (q:Bs×Bs×Bool):AV:=.aj [.str q.1,.str q.2.1,.bool q.2.2]
theorem XP (s:Bs) (c:UInt8) (hs:s.length≤9223372036854775807):aP Tryz.prog 124 [.str s,.str [c]] (oq (cutP c s)):=by
 refine Cod.XQ (fun E R hN hR=>?_)
 refine wW ?_
 refine aE (RM s c) rfl rfl ?_
 rcases vC c s with⟨h1,h2⟩ | ⟨j,h1,h2,h3⟩
 ·refine aw h1 ?_
  exact hR.ro ⟨rfl,by rw[h2];rfl⟩
 ·refine aw h2 ?_
  exact hR.ro ⟨rfl,by rw[h3];rfl⟩
theorem vD (s:Bs) (c:UInt8) (hs:s.length≤9223372036854775807):aP Tryz.prog 73 [.str s,.str [c]] (oq (cutP c s)):=by
 refine Cod.aok (fun E R hN hR=>?_)
 refine wW ?_
 refine aE (XP s c hs) rfl rfl ?_
 simp(disch:=omega)only[go_sem,simprocAttr,oq]
 exact hR.ro ⟨rfl,rfl⟩
theorem RN {c:UInt8}:∀{s:Bs},c∉s→Lib.indexByte s c = -1
 | [],_=>rfl
 | x::r,h=>by
  simp only[List.mem_cons,not_or]at h
  have hb:(x==c)=false:=by simp only[beq_eq_false_iff_ne];exact fun e=>h.1 e.symm
  simp[Lib.indexByte,hb,RN h.2]
end Go.Proofs.YtlkmppkcbhodaaaGreatDoor.Ob
namespace Go.Proofs.YtlkmppkcbhodaaaGreatDoor.Ob
open Eng
set_option maxRecDepth 10000
def dB (k:Nat):UInt8:=UInt8.ofNat (48+k)
theorem gA {n:Nat} (h:n<10):Lib.decDigits n=[dB n]:=by rw[Lib.decDigits,dif_pos h];rfl
theorem kf {n:Nat} (h:¬n<10):Lib.decDigits n=Lib.decDigits (n/10)++[dB (n%10)]:=by rw[Lib.decDigits,dif_neg h];rfl
theorem rl {k:Nat} (h:k<10):(dB k).toNat=48+k:=by
 unfold dB;rw[UInt8.toNat_ofNat'];omega
theorem vJ (n:Nat):Lib.decDigits n≠[]:=by
 by_cases h:n<10
 ·rw[gA h];simp
 ·rw[kf h];simp
theorem ox:∀(f n:Nat),n≤f→∀b∈Lib.decDigits n,48≤b.toNat∧b.toNat≤57
 | 0,n,hf,b,hb=>by
  obtain rfl:n=0:=by omega
  rw[gA (by omega)]at hb
  simp at hb;subst hb;decide
 | f+1,n,hf,b,hb=>by
  by_cases h:n<10
  ·rw[gA h]at hb
   simp at hb;subst hb;rw[rl h];omega
  ·rw[kf h]at hb
   rcases List.mem_append.1 hb with hb | hb
   ·exact ox f (n/10) (by omega) b hb
   ·simp at hb;subst hb;rw[rl (by omega)];omega
theorem vH (b:UInt8):∀(l:Bs) (acc:Nat),Lib.decFrom acc (l++[b])=(Lib.decFrom acc l).bind fun m=>(Lib.digitVal b).map fun d=>m*10+d
 | [],acc=>by
  simp only[List.nil_append,Lib.decFrom,Option.bind_some]
  cases Lib.digitVal b<;>rfl
 | x::l,acc=>by
  simp only[List.cons_append,Lib.decFrom]
  cases Lib.digitVal x with
  | none=>rfl
  | some d=>exact vH b l _
theorem rq {k:Nat} (h:k<10):Lib.digitVal (dB k)=some k:=by
 unfold Lib.digitVal
 rw[rl h,if_pos (by omega)]
 congr 1;omega
theorem vI:∀(f n:Nat),n≤f→Lib.decFrom 0 (Lib.decDigits n)=some n
 | 0,n,hf=>by
  obtain rfl:n=0:=by omega
  rw[gA (by omega)]
  simp[Lib.decFrom,rq]
 | f+1,n,hf=>by
  by_cases h:n<10
  ·rw[gA h]
   simp[Lib.decFrom,rq h]
  ·rw[kf h,vH,vI f (n/10) (by omega),rq (by omega)]
   simp;omega
theorem mq:∀(k n:Nat),n<10^(k+1)↔(Lib.decDigits n).length≤k+1
 | 0,n=>by
  by_cases h:n<10
  ·rw[gA h];simp;omega
  ·rw[kf h]
   have:=List.length_pos_iff.2 (vJ (n/10))
   simp only[List.length_append,List.length_singleton]
   omega
 | k+1,n=>by
  by_cases h:n<10
  ·rw[gA h]
   have:10^1≤10^(k+1+1):=Nat.pow_le_pow_right (by decide) (by omega)
   simp only[List.length_singleton]
   omega
  ·rw[kf h]
   have ih:=mq k (n/10)
   have:n<10^(k+1+1)↔n/10<10^(k+1):=by rw[Nat.div_lt_iff_lt_mul (by decide),Nat.pow_succ 10 (k+1)]
   simp only[List.length_append,List.length_singleton]
   omega
theorem Iz {n:Nat} (h:(Lib.decDigits n).length≤18):Lib.atoiAll (Lib.decDigits n)=.ok n:=by
 rw[Lib.atoiAll_short _ h]
 have hf:=vI n n (Nat.le_refl _)
 have hd:=ox n n (Nat.le_refl _)
 cases hl:Lib.decDigits n with
 | nil=>exact absurd hl (vJ n)
 | cons b r=>
  rw[hl]at hf hd
  have hb:=hd b (List.mem_cons_self ..)
  have h1:(b==45)=false:=by simp only[beq_eq_false_iff_ne];intro e;subst e;simp at hb
  have h2:(b==43)=false:=by simp only[beq_eq_false_iff_ne];intro e;subst e;simp at hb
  simp only[Lib.atoi,h1,h2,Lib.decNat,List.isEmpty_cons,Bool.false_eq_true,if_false,hf,Option.map_some]
  rfl
def ff (s:Bs):Option Nat:=
 match Lib.atoiAll s with
 | .ok v=>if 0≤v∧s.length≤9∧Lib.itoa v=s then some v.toNat else none
 | _=>none
theorem aaA {s:Bs} {y:Nat} (h:ff s=some y):Lib.itoa (y:Int)=s∧s.length≤9:=by
 unfold ff at h
 split at h
 ·split at h
  ·rename_i v _ hc
   obtain rfl:=Option.some.inj h
   obtain⟨h1,h2,h3⟩:=hc
   rw[show((v.toNat:Nat):Int)=v by omega]
   exact⟨h3,h2⟩
  ·cases h
 ·cases h
theorem aay {n:Nat} (h:n≤999999999):ff (Lib.decDigits n)=some n:=by
 have hl:=(mq 8 n).1 (by omega)
 unfold ff
 rw[Iz (by omega)]
 simp only
 rw[if_pos ⟨by omega,hl,Lib.itoa_nonneg n⟩]
 simp
theorem aaz (n:Int):ff (Lib.itoa n)=if 0≤n∧n≤999999999 then some n.toNat else none:=by
 by_cases h:0≤n∧n≤999999999
 ·rw[if_pos h]
  obtain⟨m,rfl⟩:=Int.eq_ofNat_of_zero_le h.1
  rw[Lib.itoa_nonneg,aay (by omega)];simp
 ·rw[if_neg h]
  cases hn:ff (Lib.itoa n)with
  | none=>rfl
  | some y=>
   obtain⟨h1,h2⟩:=aaA hn
   exfalso
   rw[Lib.itoa_nonneg]at h1
   by_cases h0:0≤n
   ·obtain⟨m,rfl⟩:=Int.eq_ofNat_of_zero_le h0
    rw[Lib.itoa_nonneg]at h1 h2
    have:=(mq 8 m).2 (by omega)
    omega
   ·have e:Lib.itoa n=45::Lib.decDigits n.natAbs:=by unfold Lib.itoa;rw[if_pos (by omega)]
    rw[e]at h1
    have:=ox y y (Nat.le_refl _) 45 (by rw[h1];exact List.mem_cons_self ..)
    simp at this
theorem kr (n:Int) (h:n≤9223372036854775807) (h0:-9223372036854775808≤n):(Lib.itoa n).length≤20:=by
 unfold Lib.itoa
 split
 ·have:=(mq 18 n.natAbs).1 (by omega)
  simp only[List.length_cons];omega
 ·have:=(mq 18 n.toNat).1 (by omega)
  omega
def numA:Option Nat→AV
 | some n=>.aj [.int .i64 n,.bool true]
 | none=>.aj [.int .i64 0,.bool false]
theorem aaL (s:Bs) (hs:s.length≤140737488351232):aP Tryz.prog 74 [.str s] (numA (ff s)):=by
 refine Cod.aaM (fun E R hN hR=>?_)
 refine wW ?_
 refine fy (D2 s hs) rfl ?_
 rintro h' v as' ⟨rfl,hv⟩
 unfold atoiA at hv
 unfold ff at hR
 cases he:Lib.atoiAll s
 ·rename_i n
  rw[he]at hv hR
  simp only at hv hR
  subst hv
  have hb:=Lib.atoiAll_bounds he
  refine⟨rfl,rfl,?_⟩
  by_cases h1:n<0
  ·rw[if_neg (by omega)]at hR
   refine wW ?_
   refine gG ?_
   exact hR.ro ⟨rfl,rfl⟩
  by_cases h2:s.length≤9
  ·refine wW ?_
   refine gG ?_
   refine gj (ka vV (x6 n (by omega) (by omega)) vV rfl rfl ?_)
   by_cases h3:Lib.itoa n=s
   ·rw[if_pos ⟨by omega,h2,h3⟩]at hR
    refine aw h3 ?_
    refine hR.ro ⟨rfl,?_⟩
    rw[numA,show((n.toNat:Nat):Int)=n by omega]
   ·rw[if_neg (fun h=>h3 h.2.2)]at hR
    refine aw h3 ?_
    exact hR.ro ⟨rfl,rfl⟩
  ·rw[if_neg (fun h=>h2 h.2.1)]at hR
   refine wW ?_
   refine gG ?_
   exact hR.ro ⟨rfl,rfl⟩
 ·rw[he]at hv hR
  obtain⟨n,t,p,rfl⟩:=hv
  refine⟨rfl,rfl,?_⟩
  refine wW ?_
  refine gG ?_
  exact hR.ro ⟨rfl,rfl⟩
 ·rw[he]at hv hR
  obtain⟨n,t,p,rfl⟩:=hv
  refine⟨rfl,rfl,?_⟩
  refine wW ?_
  refine gG ?_
  exact hR.ro ⟨rfl,rfl⟩
theorem vK (n:Nat) (h:n<10):List.take (n+1-n) (List.drop n [48,49,50,51,52,53,54,55,56,57])=[dB n]:=by
 have:∀m:Fin 10,List.take (m.val+1-m.val) (List.drop m.val [48,49,50,51,52,53,54,55,56,57])=[dB m.val]:=by decide
 exact this ⟨n,h⟩
theorem s6:∀(f n:Nat),n≤f→n≤9223372036854775807→aP Tryz.prog 53 [.int .i64 (n:Int)] (.str (Lib.decDigits n)):=by
 intro f
 induction f with
 | zero=>
  intro n hn _
  obtain rfl:n=0:=by omega
  refine Cod.ru (fun E R hN hR=>?_)
  refine wW ?_
  refine gG ?_
  refine hR.ro ⟨rfl,?_⟩
  rw[gA (by omega)];rfl
 | succ f ih=>
  intro n hn hb
  refine Cod.ru (fun E R hN hR=>?_)
  by_cases h:n<10
  ·have:=vK n h
   refine wW ?_
   refine gG ?_
   refine hR.ro ⟨rfl,?_⟩
   rw[gA h,←this]
  ·have:=vK (n%10) (by omega)
   have ih:=ih (n/10) (by omega) (by omega)
   have hl:=kr ((n/10:Nat):Int) (by omega) (by omega)
   rw[Lib.itoa_nonneg]at hl
   have e1:((n:Int)%10+1).toNat=n%10+1:=by omega
   have e2:((n:Int)%10).toNat=n%10:=by omega
   have e3:(n:Int)/10=((n/10:Nat):Int):=by omega
   refine wW ?_
   refine gG ?_
   rw[e1,e2,this,e3]
   refine aE ih rfl rfl ?_
   refine wW ?_
   refine hR.ro ⟨rfl,?_⟩
   rw[kf h]
theorem akT:∀(f n:Nat),n≤f→1≤n→n≤9223372036854775808→aP Tryz.prog 53 [.int .i64 (-(n:Int))] (.str (45::Lib.decDigits n)):=by
 intro f
 induction f with
 | zero=>intro n hn h1;omega
 | succ f ih=>
  intro n hn h1 hb
  refine Cod.ru (fun E R hN hR=>?_)
  by_cases h:n<10
  ·have hd:=s6 n n (Nat.le_refl _) (by omega)
   have e1:(0:Int) - -(n:Int)=(n:Int):=by omega
   have hl:(Lib.decDigits n).length≤1:=by rw[gA h];simp
   refine wW ?_
   refine gG ?_
   rw[e1]
   refine aE hd rfl rfl ?_
   refine wW ?_
   exact hR.ro ⟨rfl,rfl⟩
  ·have e1:IntKind.i64.wrap ((-(n:Int)).tdiv 10) = -((n/10:Nat):Int):=by
    rw[Int.neg_tdiv,show(n:Int).tdiv 10=((n/10:Nat):Int)from rfl]
    exact jt (by omega)
   have e2:(0:Int)-(-(n:Int)).tmod 10=((n%10:Nat):Int):=by
    rw[Int.neg_tmod,show(n:Int).tmod 10=((n%10:Nat):Int)from rfl]
    omega
   have ih:=ih (n/10) (by omega) (by omega) (by omega)
   have hd:=s6 (n%10) (n%10) (Nat.le_refl _) (by omega)
   have hl:=kr (((n/10:Nat)):Int) (by omega) (by omega)
   rw[Lib.itoa_nonneg]at hl
   have hl2:(Lib.decDigits (n%10)).length≤1:=by rw[gA (by omega)];simp
   have e3:=gA (n:=n%10) (by omega)
   refine wW ?_
   refine gG ?_
   rw[e1]
   refine aE ih rfl rfl ?_
   refine aw e2 ?_
   refine aE hd rfl rfl ?_
   refine wW ?_
   refine hR.ro ⟨rfl,?_⟩
   rw[kf h,e3]
theorem akU (n:Int) (h0:-9223372036854775808≤n) (h1:n≤9223372036854775807):aP Tryz.prog 53 [.int .i64 n] (.str (Lib.itoa n)):=by
 by_cases h:n<0
 ·have:=akT n.natAbs n.natAbs (Nat.le_refl _) (by omega) (by omega)
  rw[show -((n.natAbs:Nat):Int)=n by omega]at this
  unfold Lib.itoa
  rw[if_pos h]
  exact this
 ·have:=s6 n.toNat n.toNat (Nat.le_refl _) (by omega)
  rw[show((n.toNat:Nat):Int)=n by omega]at this
  unfold Lib.itoa
  rw[if_neg h]
  exact this
end Go.Proofs.YtlkmppkcbhodaaaGreatDoor.Ob
namespace Go.Proofs.YtlkmppkcbhodaaaGreatDoor.Ob
open Eng
set_option maxRecDepth 10000
def bL (k:Int):Bs:=if k=1 then[99,111,109,109,105,116]else if k=2 then[116,114,101,101]else if k=3 then[98,108,111,98]else if k=4 then[116,97,103]else[]
theorem sD (k:Int):aP Tryz.prog 88 [.int .i64 k] (.str (bL k)):=by
 refine Cod.aa9 (fun E R hN hR=>?_)
 unfold bL at hR
 by_cases h1:k=1
 ·subst h1
  refine wW ?_
  exact hR.ro ⟨rfl,rfl⟩
 by_cases h2:k=2
 ·subst h2
  refine wW ?_
  exact hR.ro ⟨rfl,rfl⟩
 by_cases h3:k=3
 ·subst h3
  refine wW ?_
  exact hR.ro ⟨rfl,rfl⟩
 by_cases h4:k=4
 ·subst h4
  refine wW ?_
  exact hR.ro ⟨rfl,rfl⟩
 rw[if_neg h1,if_neg h2,if_neg h3,if_neg h4]at hR
 refine wW ?_
 exact hR.ro ⟨rfl,rfl⟩
theorem lI (k:Int):(bL k).length≤6:=by
 unfold bL
 repeat' (first | (split) | simp)
def c7 (k:Int) (d:Bs):AV:=.agg [.int .i64 k,.str d]
def dr (k:Int) (d:Bs):Int:=if bL k=[]then 10 else if 65000<d.length then 2 else 0
theorem HH (k:Int) (d:Bs) (hd:d.length≤9223372036854775807):aP Tryz.prog 87 [c7 k d] (.int .i64 (dr k d)):=by
 refine Cod.HI (fun E R hN hR=>?_)
 unfold dr at hR
 simp(disch:=omega)only[go_sem,simprocAttr,c7]
 refine aE (sD k) rfl rfl ?_
 by_cases h1:bL k=[]
 ·rw[if_pos h1]at hR
  refine aw h1 ?_
  exact hR.ro ⟨rfl,rfl⟩
 ·rw[if_neg h1]at hR
  by_cases h2:65000<d.length
  ·rw[if_pos h2]at hR
   refine aw h1 ?_
   exact hR.ro ⟨rfl,rfl⟩
  ·rw[if_neg h2]at hR
   refine aw h1 ?_
   exact hR.ro ⟨rfl,rfl⟩
def bM (k:Int) (d:Bs):Bs:=bL k++32::(Lib.itoa d.length++0::d)
def oG (k:Int) (d:Bs):AV:=if dr k d=0 then .aj [.str (bM k d),.int .i64 0]else .aj [.str [],.int .i64 (dr k d)]
theorem wc (k:Int) (d:Bs) (hd:d.length≤9223372036854775807):aP Tryz.prog 46 [c7 k d] (oG k d):=by
 refine Cod.J8 (fun E R hN hR=>?_)
 unfold oG at hR
 simp(disch:=omega)only[go_sem,simprocAttr,c7]
 refine aE (HH k d hd) rfl rfl ?_
 by_cases h:dr k d=0
 ·rw[if_pos h]at hR
  have hl:d.length≤65000:=by
   unfold dr at h
   split at h
   ·cases h
   ·split at h
    ·cases h
    ·omega
  have hnl:=lI k
  have hil:=kr d.length (by omega) (by omega)
  have hi:=x6 d.length (by omega) (by omega)
  refine aw h ?_
  refine aE (sD k) rfl rfl ?_
  refine wW ?_
  refine aE hi rfl rfl ?_
  refine wW ?_
  refine hR.ro ⟨rfl,?_⟩
  simp[bM]
 ·rw[if_neg h]at hR
  refine aw h ?_
  exact hR.ro ⟨rfl,rfl⟩
def ph (k:Int) (d:Bs):AV:=if dr k d=0 then .aj [.str (Sh.cE (Sh.dN (bM k d))),.int .i64 0]else .aj [.str [],.int .i64 (dr k d)]
theorem vu {k:Int} {d:Bs} (h:dr k d=0):d.length≤65000:=by
 unfold dr at h
 split at h
 ·cases h
 ·split at h
  ·cases h
  ·omega
theorem B0 (k:Int) {d:Bs} (h:d.length≤65000):(bM k d).length≤66000:=by
 have hnl:=lI k
 have hil:=kr d.length (by omega) (by omega)
 unfold bM
 simp only[List.length_append,List.length_cons]
 omega
theorem xw (k:Int) (d:Bs) (hd:d.length≤9223372036854775807):aP Tryz.prog 36 [c7 k d] (ph k d):=by
 refine Cod.aaV (fun E R hN hR=>?_)
 have he:=wc k d hd
 unfold oG at he
 unfold ph at hR
 by_cases h:dr k d=0
 ·rw[if_pos h]at hR he
  have hl:=B0 k (vu h)
  have hs:=Sh.ary (bM k d) (by omega)
  have hh:=Sh.Nx (Sh.dN (bM k d)) (by rw[Sh.tn];omega)
  simp(disch:=omega)only[go_sem,simprocAttr,c7]
  refine aE he rfl rfl ?_
  refine wW ?_
  refine aE hs rfl rfl ?_
  refine wW ?_
  refine aE hh rfl rfl ?_
  refine wW ?_
  exact hR.ro ⟨rfl,rfl⟩
 ·rw[if_neg h]at hR he
  simp(disch:=omega)only[go_sem,simprocAttr,c7]
  refine aE he rfl rfl ?_
  refine aw h ?_
  exact hR.ro ⟨rfl,rfl⟩
end Go.Proofs.YtlkmppkcbhodaaaGreatDoor.Ob
namespace Go.Proofs.YtlkmppkcbhodaaaGreatDoor.Ob
open Eng
set_option maxRecDepth 10000
def mK (o:Option Nat):Int:=match o with
 | some n=>n
 | none=>-1
end Go.Proofs.YtlkmppkcbhodaaaGreatDoor.Ob
namespace Go.Proofs.YtlkmppkcbhodaaaGreatDoor.Ob
open Eng
set_option maxRecDepth 10000
theorem AN (k:Int) (h0:-9223372036854775808≤k) (h1:k≤9223372036854775807):aP Tryz.prog 48 [.int .i64 k] (.str (bL k)):=by
 refine Cod.amd (fun E R hN hR=>?_)
 unfold bL at hR
 by_cases a1:k<1
 ·rw[if_neg (by omega),if_neg (by omega),if_neg (by omega),if_neg (by omega)]at hR
  refine wW ?_
  refine gG ?_
  exact hR.ro ⟨rfl,rfl⟩
 by_cases a2:4<k
 ·rw[if_neg (by omega),if_neg (by omega),if_neg (by omega),if_neg (by omega)]at hR
  refine wW ?_
  refine gG ?_
  exact hR.ro ⟨rfl,rfl⟩
 have hk:k=1∨k=2∨k=3∨k=4:=by omega
 rcases hk with rfl | rfl | rfl | rfl
 all_goals
  refine bH @Sh.lJ @Sh.lL ?_
  refine dY @Sh.lJ @Sh.lL ?_
  first | exact hR.ro ⟨rfl,rfl⟩ | (exact hR.wk (h':=[]) (ar':=[.undef]) rfl (.le vV) ⟨rfl,rfl⟩)
def jc (s:Bs):Int:=if bL 1=s then 1 else if bL 2=s then 2 else if bL 3=s then 3 else if bL 4=s then 4 else 0
theorem Wu (s:Bs) (k:Nat) (h1:1≤k) (h4:k≤4) (hno:∀j:Nat,1≤j→j<k→bL j≠s) (hk:bL k=s):jc s=k:=by
 unfold jc
 have hc:k=1∨k=2∨k=3∨k=4:=by omega
 rcases hc with rfl | rfl | rfl | rfl
 ·rw[if_pos (show bL 1=s from hk)];rfl
 ·rw[if_neg (show bL 1≠s from hno 1 (by omega) (by omega)),if_pos (show bL 2=s from hk)];rfl
 ·rw[if_neg (show bL 1≠s from hno 1 (by omega) (by omega)),if_neg (show bL 2≠s from hno 2 (by omega) (by omega)),if_pos (show bL 3=s from hk)];rfl
 ·rw[if_neg (show bL 1≠s from hno 1 (by omega) (by omega)),if_neg (show bL 2≠s from hno 2 (by omega) (by omega)),if_neg (show bL 3≠s from hno 3 (by omega) (by omega)),if_pos (show bL 4=s from hk)];rfl
theorem Wv (s:Bs) (hno:∀j:Nat,1≤j→j<5→bL j≠s):jc s=0:=by
 unfold jc
 rw[if_neg (show bL 1≠s from hno 1 (by omega) (by omega)),if_neg (show bL 2≠s from hno 2 (by omega) (by omega)),if_neg (show bL 3≠s from hno 3 (by omega) (by omega)),if_neg (show bL 4≠s from hno 4 (by omega) (by omega))]
theorem sg (s:Bs):aP Tryz.prog 75 [.str s] (.int .i64 (jc s)):=by
 refine Cod.WJ (fun E R hN hR=>?_)
 refine wW ?_
 refine a7 hN (fun k:Nat=>⟨[(0,.str s),(3,.int .i64 k)],[]⟩) (fun k=>1≤k∧k≤5∧∀j:Nat,1≤j→j<k→bL j≠s) (fun k=>5-k) 1 (.le vV) ⟨by omega,by omega,fun j h1 h2=>by omega⟩ ?_
 rintro k R1 ⟨h1,h5,hno⟩ hR1
 by_cases hlt:k≤4
 ·have hn:=sD k
  refine wW ?_
  refine aE hn rfl rfl ?_
  by_cases he:bL k=s
  ·refine aw he ?_
   exact hR.ro ⟨rfl,by rw[Wu s k h1 hlt hno he]⟩
  ·refine aw he ?_
   refine hR1 (k+1) _ (by omega) ⟨by omega,by omega,fun j g1 g2=>?_⟩ (.le vV)
   by_cases hj:j=k
   ·subst hj;exact he
   ·exact hno j g1 (by omega)
 ·obtain rfl:k=5:=by omega
  refine wW ?_
  exact hR.ro ⟨rfl,by rw[Wv s hno]⟩
theorem akR (k:Int) (d:Bs) (h0:-9223372036854775808≤k) (h1:k≤9223372036854775807) (hd:d.length≤9223372036854775807):aP Tryz.prog 23 [c7 k d] (.int .i64 (dr k d)):=by
 refine Cod.akS (fun E R hN hR=>?_)
 unfold dr at hR
 simp(disch:=omega)only[go_sem,simprocAttr,c7]
 refine aE (AN k h0 h1) rfl rfl ?_
 by_cases h1:bL k=[]
 ·rw[if_pos h1]at hR
  refine aw h1 ?_
  exact hR.ro ⟨rfl,rfl⟩
 ·rw[if_neg h1]at hR
  by_cases h2:65000<d.length
  ·rw[if_pos h2]at hR
   refine aw h1 ?_
   exact hR.ro ⟨rfl,rfl⟩
  ·rw[if_neg h2]at hR
   refine aw h1 ?_
   exact hR.ro ⟨rfl,rfl⟩
theorem A7 (k:Int) (d:Bs) (h0:-9223372036854775808≤k) (h1:k≤9223372036854775807) (hd:d.length≤65000):aP Tryz.prog 25 [c7 k d] (.str (bM k d)):=by
 refine Cod.anG (fun E R hN hR=>?_)
 have hnl:=lI k
 have hil:=kr d.length (by omega) (by omega)
 have hi:=akU d.length (by omega) (by omega)
 simp(disch:=omega)only[go_sem,simprocAttr,c7]
 refine aE (AN k h0 h1) rfl rfl ?_
 refine wW ?_
 refine aE hi rfl rfl ?_
 refine wW ?_
 refine hR.ro ⟨rfl,?_⟩
 simp[bM]
theorem alF (k:Int) (d:Bs) (h0:-9223372036854775808≤k) (h1:k≤9223372036854775807) (hd:d.length≤65000):aP Tryz.prog 12 [c7 k d] (.str (Sh.cE (Sh.dN (bM k d)))):=by
 refine Cod.alG (fun E R hN hR=>?_)
 have hl:=B0 k hd
 have ht:=A7 k d h0 h1 hd
 have hs:=Sh.anz (bM k d) (by omega)
 have hh:=Sh.alz (Sh.dN (bM k d)) (by rw[Sh.tn];omega)
 simp(disch:=omega)only[go_sem,simprocAttr,c7]
 refine aE ht rfl rfl ?_
 refine wW ?_
 refine aE hs rfl rfl ?_
 refine wW ?_
 refine aE hh rfl rfl ?_
 refine wW ?_
 exact hR.ro ⟨rfl,rfl⟩
theorem ot (c:UInt8):∀s:Bs,(cutP c s).1.length≤s.length∧(cutP c s).2.1.length≤s.length
 | []=>by simp[cutP]
 | x::r=>by
  have:=ot c r
  unfold cutP
  split
  ·simp
  ·simp only[List.length_cons];omega
def jz (s:Bs):Int×Bs×Int:=
 if(cutP 0 s).2.2=false∨(cutP 32 (cutP 0 s).1).2.2=false∨ff (cutP 32 (cutP 0 s).1).2.1=none then(0,[],3)
 else if jc (cutP 32 (cutP 0 s).1).1=0 then(0,[],10)
 else if 65000<mK (ff (cutP 32 (cutP 0 s).1).2.1)then(0,[],2)
 else if((cutP 0 s).2.1.length:Int)<mK (ff (cutP 32 (cutP 0 s).1).2.1)then(0,[],6)
 else if mK (ff (cutP 32 (cutP 0 s).1).2.1)<((cutP 0 s).2.1.length:Int)then(0,[],3)
 else(jc (cutP 32 (cutP 0 s).1).1,(cutP 0 s).2.1,0)
def jy (x:Int×Bs×Int):AV:=.aj [c7 x.1 x.2.1,.int .i64 x.2.2]
theorem I3 (s:Bs) (hs:s.length≤140737488351232):aP Tryz.prog 40 [.str s] (jy (jz s)):=by
 refine Cod.I4 (fun E R hN hR=>?_)
 have hl0:=ot 0 s
 have hc0:=vD s 0 (by omega)
 unfold jz at hR
 generalize hq:cutP 0 s=q at *
 obtain⟨head,data,ok⟩:=q
 simp only at *
 have hl1:=ot 32 head
 have hc1:=vD head 32 (by omega)
 generalize hq1:cutP 32 head=q1 at *
 obtain⟨name,size,blank⟩:=q1
 simp only at *
 have hn:=aaL size (by omega)
 have hk:=sg name
 rw[oq]at hc0 hc1
 simp only at hc0 hc1
 refine wW ?_
 refine aE hc0 rfl rfl ?_
 refine wW ?_
 refine aE hc1 rfl rfl ?_
 refine wW ?_
 refine aE hn rfl (by cases ff size<;>rfl) ?_
 cases ok with
 | false=>
  rw[if_pos (.inl rfl)]at hR
  cases hO:ff size with
  | none=>
   simp(disch:=omega)only[go_sem,simprocAttr,numA]
   refine gG ?_
   exact hR.ro ⟨rfl,rfl⟩
  | some n=>
   simp(disch:=omega)only[go_sem,simprocAttr,numA]
   refine gG ?_
   exact hR.ro ⟨rfl,rfl⟩
 | true=>
  cases blank with
  | false=>
   rw[if_pos (.inr (.inl rfl))]at hR
   cases hO:ff size with
   | none=>
    simp(disch:=omega)only[go_sem,simprocAttr,numA]
    refine gG ?_
    exact hR.ro ⟨rfl,rfl⟩
   | some n=>
    simp(disch:=omega)only[go_sem,simprocAttr,numA]
    refine gG ?_
    exact hR.ro ⟨rfl,rfl⟩
  | true=>
   cases hO:ff size with
   | none=>
    rw[if_pos (.inr (.inr hO))]at hR
    simp(disch:=omega)only[go_sem,simprocAttr,numA]
    refine gG ?_
    exact hR.ro ⟨rfl,rfl⟩
   | some n=>
    rw[if_neg (by rw[hO];simp),hO,mK]at hR
    simp(disch:=omega)only[go_sem,simprocAttr,numA]
    refine aE hk rfl rfl ?_
    by_cases h1:jc name=0
    ·rw[if_pos h1]at hR
     refine aw h1 ?_
     exact hR.ro ⟨rfl,rfl⟩
    rw[if_neg h1]at hR
    by_cases h2:65000<(n:Int)
    ·rw[if_pos h2]at hR
     refine aw h1 ?_
     exact hR.ro ⟨rfl,rfl⟩
    rw[if_neg h2]at hR
    by_cases h3:(data.length:Int)<n
    ·rw[if_pos h3]at hR
     refine aw h1 ?_
     exact hR.ro ⟨rfl,rfl⟩
    rw[if_neg h3]at hR
    by_cases h4:(n:Int)<data.length
    ·rw[if_pos h4]at hR
     refine aw h1 ?_
     exact hR.ro ⟨rfl,rfl⟩
    rw[if_neg h4]at hR
    refine aw h1 ?_
    refine aE hk rfl rfl ?_
    refine wW ?_
    exact hR.ro ⟨rfl,rfl⟩
end Go.Proofs.YtlkmppkcbhodaaaGreatDoor.Ob
