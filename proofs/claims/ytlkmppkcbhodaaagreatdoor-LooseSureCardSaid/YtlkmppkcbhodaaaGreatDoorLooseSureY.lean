/- The proof, part 25 of 30. -/
import Derived.Test.YtlkmppkcbhodaaaGreatDoorLooseSureO
import Derived.Test.YtlkmppkcbhodaaaGreatDoorLooseSureP
import Derived.Test.YtlkmppkcbhodaaaGreatDoorLooseSureX
import Derived.Lib.AtoiTie
import Derived.Lib.ItoaMem
import Derived.Lib.AppendIntMem
import Derived.Lib.AtoiErrMem
set_option linter.all false
namespace Go.Proofs.YtlkmppkcbhodaaaGreatDoor.Ob
open Eng
set_option maxRecDepth 10000
abbrev Bs:=List UInt8
theorem tab_of {P:Program} {name:String} {g:Nat} {k:IntKind} {zs:List Int} {w:World} {cs:Array Value} {t:TypeId} {fz:Nat×Nat} (hg:P.globalNamed name=some g) (hw:w.heap[g]?=some (.cells cs t fz)) (he:cs=(zs.map fun z=>Value.int k z).toArray):Lib.TabIs P w name k zs:=by
 unfold Lib.TabIs World.var?
 rw[hg]
 simp only[Option.bind_some,hw,he]
theorem cell_of {w:World} {g:Nat} {v:Value} {t:TypeId} {fz:Nat×Nat} (hw:w.heap[g]?=some (.cells #[v] t fz)):w.cell? ⟨g,0,none⟩=some v:=by
 simp[World.cell?,hw]
theorem if_of {v:Value} (h:isIfV v=true):v=.nilIface∨∃t p,v=.iface t p:=by
 cases v<;>simp[isIfV]at h
 ·exact .inr ⟨_,_,rfl⟩
 ·exact .inl rfl
theorem itoa_ok (n:Int) (h0:-9223372036854775808≤n) (h1:n≤9223372036854775807):SpecR Tryz.prog 89 [.int .i64 n] (.str (Lib.itoa n)):=by
 refine spec_belowA rfl rfl (fun w hA=>?_)
 obtain⟨cs,t,fz,g1,g2⟩:=hA (5,_) (by unfold glist;simp only[List.nil_append,List.cons_append,List.mem_cons];exact .inl rfl)
 refine(Any.strconv_Itoa Tryz.laysM171 n h0 h1 w (tab_of (by kernel_rfl) g1 g2)).mono ?_
 rintro e w' ⟨rfl,k,os,rfl⟩
 exact⟨rfl,Lib.below_grow _ _ (Nat.le_refl _) _ _⟩
def atoiA (s:Bs) (r:AV):Prop:=
 match Lib.atoiAll s with
 | .ok v=>r=.tup [.int .i64 v,.lit .nilIface]
 | _=>∃n t p,r=.tup [.int .i64 n,.lit (.iface t p)]
theorem atoi_ok (s:Bs) (hs:s.length≤140737488351232):Eng.Spec Tryz.prog 125 [] [.str s] (fun h r _=>h=[]∧atoiA s r):=by
 refine specA rfl (fun w hA=>?_)
 have hl:(⟨s.toArray⟩:ByteArray).size≤140737488351232:=by simpa[ByteArray.size]using hs
 unfold atoiA
 cases he:Lib.atoiAll s
 ·rename_i v
  refine(Any.strconv_Atoi_ok Tryz.laysC172 ⟨s.toArray⟩ (by omega) v he w).mono ?_
  rintro e w' ⟨rfl,hw⟩
  refine⟨_,rfl,rfl,rfl,?_⟩
  rcases hw with rfl | ⟨t,rfl⟩
  ·exact .refl _ _
  ·exact Lib.bytesWorld_below _ _ _
 ·obtain⟨cs,t,fz,g1,v,rfl,g3⟩:=hA (3,_) (by unfold glist;simp only[List.nil_append,List.cons_append,List.mem_cons];exact .inr (.inl rfl))
  refine(Any.strconv_Atoi_syntax Tryz.laysC172 ⟨s.toArray⟩ (by omega) he v w (cell_of g1) (if_of g3)).mono ?_
  rintro e w' ⟨N,rfl,_,_,hb⟩
  exact⟨_,⟨_,_,_,rfl⟩,rfl,rfl,hb⟩
 ·obtain⟨cs,t,fz,g1,v,rfl,g3⟩:=hA (4,_) (by unfold glist;simp only[List.nil_append,List.cons_append,List.mem_cons];exact .inr (.inr (.inl rfl)))
  refine(Any.strconv_Atoi_range Tryz.laysC172 ⟨s.toArray⟩ (by omega) he v w (cell_of g1) (if_of g3)).mono ?_
  rintro e w' ⟨N,rfl,_,_,hb⟩
  exact⟨_,⟨_,_,_,rfl⟩,rfl,rfl,hb⟩
theorem index1_ok (s:Bs) (c:UInt8):SpecR Tryz.prog 130 [.str s,.str [c]] (.int .i64 (Lib.indexByte s c)):=
 spec_same rfl rfl (fun w=>Tryz.stringslite_Index_one ⟨s.toArray⟩ c w)
def cutP (c:UInt8):Bs→Bs×Bs×Bool
 | []=>([],[],false)
 | x::r=>if x=c then([],r,true)else(x::(cutP c r).1,(cutP c r).2)
theorem cutP_index (c:UInt8):∀s:Bs,(Lib.indexByte s c = -1∧cutP c s=(s,[],false))∨∃j:Nat,j<s.length∧Lib.indexByte s c=(j:Int)∧cutP c s=(s.take j,s.drop (j+1),true)
 | []=>.inl ⟨rfl,rfl⟩
 | x::r=>by
  by_cases hx:x=c
  ·subst hx
   exact .inr ⟨0,by simp,by simp[Lib.indexByte],by simp[cutP]⟩
  ·have hb:(x==c)=false:=by simp[hx]
   rcases cutP_index c r with⟨h1,h2⟩ | ⟨j,h1,h2,h3⟩
   ·refine .inl ⟨by simp[Lib.indexByte,hb,h1],by simp[cutP,hx,h2]⟩
   ·refine .inr ⟨j+1,by simp;omega,?_,by simp[cutP,hx,h3]⟩
    have hne:(Lib.indexByte r c == -1)=false:=by rw[h2];simp
    simp[Lib.indexByte,hb,hne,h2]
def cutA (q:Bs×Bs×Bool):AV:=.tup [.str q.1,.str q.2.1,.bool q.2.2]
theorem lcut_ok (s:Bs) (c:UInt8) (hs:s.length≤9223372036854775807):SpecR Tryz.prog 124 [.str s,.str [c]] (cutA (cutP c s)):=by
 refine Cod.lcut_spec (fun E R hN hR=>?_)
 simp(disch:=first | omega | (simp only[Lx];omega))only[go_sem,simprocAttr]
 refine call_ro (index1_ok s c) rfl rfl ?_
 rcases cutP_index c s with⟨h1,h2⟩ | ⟨j,h1,h2,h3⟩
 ·simp(disch:=first | omega | (simp only[Lx];omega))only[go_sem,simprocAttr,h1]
  exact hR.ro ⟨rfl,by rw[h2];rfl⟩
 ·simp(disch:=first | omega | (simp only[Lx];omega))only[go_sem,simprocAttr,h2]
  exact hR.ro ⟨rfl,by rw[h3];rfl⟩
theorem cut_ok (s:Bs) (c:UInt8) (hs:s.length≤9223372036854775807):SpecR Tryz.prog 73 [.str s,.str [c]] (cutA (cutP c s)):=by
 refine Cod.scut_spec (fun E R hN hR=>?_)
 simp(disch:=omega)only[go_sem,simprocAttr]
 refine call_ro (lcut_ok s c hs) rfl rfl ?_
 simp(disch:=omega)only[go_sem,simprocAttr,cutA]
 exact hR.ro ⟨rfl,rfl⟩
end Go.Proofs.YtlkmppkcbhodaaaGreatDoor.Ob
namespace Go.Proofs.YtlkmppkcbhodaaaGreatDoor.Ob
open Eng
set_option maxRecDepth 10000
def dB (k:Nat):UInt8:=UInt8.ofNat (48+k)
theorem dec_small {n:Nat} (h:n<10):Lib.decDigits n=[dB n]:=by rw[Lib.decDigits,dif_pos h];rfl
theorem dec_big {n:Nat} (h:¬n<10):Lib.decDigits n=Lib.decDigits (n/10)++[dB (n%10)]:=by rw[Lib.decDigits,dif_neg h];rfl
theorem dB_nat {k:Nat} (h:k<10):(dB k).toNat=48+k:=by
 unfold dB;rw[UInt8.toNat_ofNat'];omega
theorem dec_ne (n:Nat):Lib.decDigits n≠[]:=by
 by_cases h:n<10
 ·rw[dec_small h];simp
 ·rw[dec_big h];simp
theorem dec_digit:∀(f n:Nat),n≤f→∀b∈Lib.decDigits n,48≤b.toNat∧b.toNat≤57
 | 0,n,hf,b,hb=>by
  obtain rfl:n=0:=by omega
  rw[dec_small (by omega)]at hb
  simp at hb;subst hb;decide
 | f+1,n,hf,b,hb=>by
  by_cases h:n<10
  ·rw[dec_small h]at hb
   simp at hb;subst hb;rw[dB_nat h];omega
  ·rw[dec_big h]at hb
   rcases List.mem_append.1 hb with hb | hb
   ·exact dec_digit f (n/10) (by omega) b hb
   ·simp at hb;subst hb;rw[dB_nat (by omega)];omega
theorem dec_len:∀(k n:Nat),n<10^(k+1)↔(Lib.decDigits n).length≤k+1
 | 0,n=>by
  by_cases h:n<10
  ·rw[dec_small h];simp;omega
  ·rw[dec_big h]
   have:=List.length_pos_iff.2 (dec_ne (n/10))
   simp only[List.length_append,List.length_singleton]
   omega
 | k+1,n=>by
  by_cases h:n<10
  ·rw[dec_small h]
   have:10^1≤10^(k+1+1):=Nat.pow_le_pow_right (by decide) (by omega)
   simp only[List.length_singleton]
   omega
  ·rw[dec_big h]
   have ih:=dec_len k (n/10)
   have:n<10^(k+1+1)↔n/10<10^(k+1):=by rw[Nat.div_lt_iff_lt_mul (by decide),Nat.pow_succ 10 (k+1)]
   simp only[List.length_append,List.length_singleton]
   omega
def numO (s:Bs):Option Nat:=
 match Lib.atoiAll s with
 | .ok v=>if 0≤v∧s.length≤9∧Lib.itoa v=s then some v.toNat else none
 | _=>none
theorem itoa_len (n:Int) (h:n≤9223372036854775807) (h0:-9223372036854775808≤n):(Lib.itoa n).length≤20:=by
 unfold Lib.itoa
 split
 ·have:=(dec_len 18 n.natAbs).1 (by omega)
  simp only[List.length_cons];omega
 ·have:=(dec_len 18 n.toNat).1 (by omega)
  omega
def numA:Option Nat→AV
 | some n=>.tup [.int .i64 n,.bool true]
 | none=>.tup [.int .i64 0,.bool false]
theorem number_ok (s:Bs) (hs:s.length≤140737488351232):SpecR Tryz.prog 74 [.str s] (numA (numO s)):=by
 refine Cod.number_spec (fun E R hN hR=>?_)
 simp(disch:=omega)only[go_sem,simprocAttr]
 refine call_ro' (atoi_ok s hs) rfl ?_
 rintro h' v as' ⟨rfl,hv⟩
 unfold atoiA at hv
 unfold numO at hR
 cases he:Lib.atoiAll s
 ·rename_i n
  rw[he]at hv hR
  simp only at hv hR
  subst hv
  have hb:=Lib.atoiAll_bounds he
  refine⟨rfl,rfl,?_⟩
  by_cases h1:n<0
  ·rw[if_neg (by omega)]at hR
   simp(disch:=omega)only[go_sem,simprocAttr]
   (repeat(first | refine gskip_of ?_ | refine gcskip_of ?_ | refine gopen_of ?_)<;>simp(disch:=omega)only[go_sem,simprocAttr])
   exact hR.ro ⟨rfl,rfl⟩
  by_cases h2:s.length≤9
  ·simp(disch:=omega)only[go_sem,simprocAttr]
   (repeat(first | refine gskip_of ?_ | refine gcskip_of ?_ | refine gopen_of ?_)<;>simp(disch:=omega)only[go_sem,simprocAttr])
   refine gcyes_of (callT_ro (by simp(disch:=omega)only[go_sem,simprocAttr]) (itoa_ok n (by omega) (by omega)) (by simp(disch:=omega)only[go_sem,simprocAttr]) rfl rfl ?_)
   by_cases h3:Lib.itoa n=s
   ·rw[if_pos ⟨by omega,h2,h3⟩]at hR
    simp(disch:=omega)only[go_sem,simprocAttr,h3]
    refine hR.ro ⟨rfl,?_⟩
    rw[numA,show((n.toNat:Nat):Int)=n by omega]
   ·rw[if_neg (fun h=>h3 h.2.2)]at hR
    simp(disch:=omega)only[go_sem,simprocAttr,h3]
    exact hR.ro ⟨rfl,rfl⟩
  ·rw[if_neg (fun h=>h2 h.2.1)]at hR
   simp(disch:=omega)only[go_sem,simprocAttr]
   (repeat(first | refine gskip_of ?_ | refine gcskip_of ?_ | refine gopen_of ?_)<;>simp(disch:=omega)only[go_sem,simprocAttr])
   exact hR.ro ⟨rfl,rfl⟩
 ·rw[he]at hv hR
  obtain⟨n,t,p,rfl⟩:=hv
  refine⟨rfl,rfl,?_⟩
  simp(disch:=omega)only[go_sem,simprocAttr]
  (repeat(first | refine gskip_of ?_ | refine gcskip_of ?_ | refine gopen_of ?_)<;>simp(disch:=omega)only[go_sem,simprocAttr])
  exact hR.ro ⟨rfl,rfl⟩
 ·rw[he]at hv hR
  obtain⟨n,t,p,rfl⟩:=hv
  refine⟨rfl,rfl,?_⟩
  simp(disch:=omega)only[go_sem,simprocAttr]
  (repeat(first | refine gskip_of ?_ | refine gcskip_of ?_ | refine gopen_of ?_)<;>simp(disch:=omega)only[go_sem,simprocAttr])
  exact hR.ro ⟨rfl,rfl⟩
theorem dec_slice (n:Nat) (h:n<10):List.take (n+1-n) (List.drop n [48,49,50,51,52,53,54,55,56,57])=[dB n]:=by
 have:∀m:Fin 10,List.take (m.val+1-m.val) (List.drop m.val [48,49,50,51,52,53,54,55,56,57])=[dB m.val]:=by decide
 exact this ⟨n,h⟩
theorem rdig_nat:∀(f n:Nat),n≤f→n≤9223372036854775807→SpecR Tryz.prog 53 [.int .i64 (n:Int)] (.str (Lib.decDigits n)):=by
 intro f
 induction f with
 | zero=>
  intro n hn _
  obtain rfl:n=0:=by omega
  refine Cod.digits8_spec (fun E R hN hR=>?_)
  simp(disch:=omega)only[go_sem,simprocAttr]
  (repeat(first | refine gskip_of ?_ | refine gcskip_of ?_ | refine gopen_of ?_)<;>simp(disch:=omega)only[go_sem,simprocAttr])
  refine hR.ro ⟨rfl,?_⟩
  rw[dec_small (by omega)];rfl
 | succ f ih=>
  intro n hn hb
  refine Cod.digits8_spec (fun E R hN hR=>?_)
  by_cases h:n<10
  ·have:=dec_slice n h
   simp(disch:=omega)only[go_sem,simprocAttr]
   (repeat(first | refine gskip_of ?_ | refine gcskip_of ?_ | refine gopen_of ?_)<;>simp(disch:=omega)only[go_sem,simprocAttr])
   refine hR.ro ⟨rfl,?_⟩
   rw[dec_small h,←this]
  ·have:=dec_slice (n%10) (by omega)
   have ih:=ih (n/10) (by omega) (by omega)
   have hl:=itoa_len ((n/10:Nat):Int) (by omega) (by omega)
   rw[Lib.itoa_nonneg]at hl
   have e1:((n:Int)%10+1).toNat=n%10+1:=by omega
   have e2:((n:Int)%10).toNat=n%10:=by omega
   have e3:(n:Int)/10=((n/10:Nat):Int):=by omega
   simp(disch:=omega)only[go_sem,simprocAttr]
   (repeat(first | refine gskip_of ?_ | refine gcskip_of ?_ | refine gopen_of ?_)<;>simp(disch:=omega)only[go_sem,simprocAttr])
   rw[e1,e2,this,e3]
   refine call_ro ih rfl rfl ?_
   simp(disch:=omega)only[go_sem,simprocAttr]
   refine hR.ro ⟨rfl,?_⟩
   rw[dec_big h]
theorem rdig_neg:∀(f n:Nat),n≤f→1≤n→n≤9223372036854775808→SpecR Tryz.prog 53 [.int .i64 (-(n:Int))] (.str (45::Lib.decDigits n)):=by
 intro f
 induction f with
 | zero=>intro n hn h1;omega
 | succ f ih=>
  intro n hn h1 hb
  refine Cod.digits8_spec (fun E R hN hR=>?_)
  by_cases h:n<10
  ·have hd:=rdig_nat n n (Nat.le_refl _) (by omega)
   have e1:(0:Int) - -(n:Int)=(n:Int):=by omega
   have hl:(Lib.decDigits n).length≤1:=by rw[dec_small h];simp
   simp(disch:=omega)only[go_sem,simprocAttr]
   (repeat(first | refine gskip_of ?_ | refine gcskip_of ?_ | refine gopen_of ?_)<;>simp(disch:=omega)only[go_sem,simprocAttr])
   rw[e1]
   refine call_ro hd rfl rfl ?_
   simp(disch:=omega)only[go_sem,simprocAttr]
   exact hR.ro ⟨rfl,rfl⟩
  ·have e1:IntKind.i64.wrap ((-(n:Int)).tdiv 10) = -((n/10:Nat):Int):=by
    rw[Int.neg_tdiv,show(n:Int).tdiv 10=((n/10:Nat):Int)from rfl]
    exact wrap_id (by omega)
   have e2:(0:Int)-(-(n:Int)).tmod 10=((n%10:Nat):Int):=by
    rw[Int.neg_tmod,show(n:Int).tmod 10=((n%10:Nat):Int)from rfl]
    omega
   have ih:=ih (n/10) (by omega) (by omega) (by omega)
   have hd:=rdig_nat (n%10) (n%10) (Nat.le_refl _) (by omega)
   have hl:=itoa_len (((n/10:Nat)):Int) (by omega) (by omega)
   rw[Lib.itoa_nonneg]at hl
   have hl2:(Lib.decDigits (n%10)).length≤1:=by rw[dec_small (by omega)];simp
   have e3:=dec_small (n:=n%10) (by omega)
   simp(disch:=omega)only[go_sem,simprocAttr]
   (repeat(first | refine gskip_of ?_ | refine gcskip_of ?_ | refine gopen_of ?_)<;>simp(disch:=omega)only[go_sem,simprocAttr])
   rw[e1]
   refine call_ro ih rfl rfl ?_
   simp(disch:=omega)only[go_sem,simprocAttr,e2]
   refine call_ro hd rfl rfl ?_
   simp(disch:=omega)only[go_sem,simprocAttr]
   refine hR.ro ⟨rfl,?_⟩
   rw[dec_big h,e3]
theorem rdig_ok (n:Int) (h0:-9223372036854775808≤n) (h1:n≤9223372036854775807):SpecR Tryz.prog 53 [.int .i64 n] (.str (Lib.itoa n)):=by
 by_cases h:n<0
 ·have:=rdig_neg n.natAbs n.natAbs (Nat.le_refl _) (by omega) (by omega)
  rw[show -((n.natAbs:Nat):Int)=n by omega]at this
  unfold Lib.itoa
  rw[if_pos h]
  exact this
 ·have:=rdig_nat n.toNat n.toNat (Nat.le_refl _) (by omega)
  rw[show((n.toNat:Nat):Int)=n by omega]at this
  unfold Lib.itoa
  rw[if_neg h]
  exact this
end Go.Proofs.YtlkmppkcbhodaaaGreatDoor.Ob
namespace Go.Proofs.YtlkmppkcbhodaaaGreatDoor.Ob
open Eng
set_option maxRecDepth 10000
def nameP (k:Int):Bs:=if k=1 then[99,111,109,109,105,116]else if k=2 then[116,114,101,101]else if k=3 then[98,108,111,98]else if k=4 then[116,97,103]else[]
theorem name_ok (k:Int):SpecR Tryz.prog 88 [.int .i64 k] (.str (nameP k)):=by
 refine Cod.oname_spec (fun E R hN hR=>?_)
 unfold nameP at hR
 by_cases h1:k=1
 ·subst h1
  simp(disch:=omega)only[go_sem,simprocAttr]
  exact hR.ro ⟨rfl,rfl⟩
 by_cases h2:k=2
 ·subst h2
  simp(disch:=omega)only[go_sem,simprocAttr]
  exact hR.ro ⟨rfl,rfl⟩
 by_cases h3:k=3
 ·subst h3
  simp(disch:=omega)only[go_sem,simprocAttr]
  exact hR.ro ⟨rfl,rfl⟩
 by_cases h4:k=4
 ·subst h4
  simp(disch:=omega)only[go_sem,simprocAttr]
  exact hR.ro ⟨rfl,rfl⟩
 rw[if_neg h1,if_neg h2,if_neg h3,if_neg h4]at hR
 simp(disch:=omega)only[go_sem,simprocAttr]
 exact hR.ro ⟨rfl,rfl⟩
theorem name_len (k:Int):(nameP k).length≤6:=by
 unfold nameP
 repeat' (first | (split) | simp)
def objA (k:Int) (d:Bs):AV:=.agg [.int .i64 k,.str d]
def checkP (k:Int) (d:Bs):Int:=if nameP k=[]then 10 else if 65000<d.length then 2 else 0
theorem check_ok (k:Int) (d:Bs) (hd:d.length≤9223372036854775807):SpecR Tryz.prog 87 [objA k d] (.int .i64 (checkP k d)):=by
 refine Cod.check_spec (fun E R hN hR=>?_)
 unfold checkP at hR
 simp(disch:=omega)only[go_sem,simprocAttr,objA]
 refine call_ro (name_ok k) rfl rfl ?_
 by_cases h1:nameP k=[]
 ·rw[if_pos h1]at hR
  simp(disch:=omega)only[go_sem,simprocAttr,h1]
  exact hR.ro ⟨rfl,rfl⟩
 ·rw[if_neg h1]at hR
  by_cases h2:65000<d.length
  ·rw[if_pos h2]at hR
   simp(disch:=omega)only[go_sem,simprocAttr,h1]
   exact hR.ro ⟨rfl,rfl⟩
  ·rw[if_neg h2]at hR
   simp(disch:=omega)only[go_sem,simprocAttr,h1]
   exact hR.ro ⟨rfl,rfl⟩
def textP (k:Int) (d:Bs):Bs:=nameP k++32::(Lib.itoa d.length++0::d)
def encA (k:Int) (d:Bs):AV:=if checkP k d=0 then .tup [.str (textP k d),.int .i64 0]else .tup [.str [],.int .i64 (checkP k d)]
theorem encode_ok (k:Int) (d:Bs) (hd:d.length≤9223372036854775807):SpecR Tryz.prog 46 [objA k d] (encA k d):=by
 refine Cod.encode_spec (fun E R hN hR=>?_)
 unfold encA at hR
 simp(disch:=omega)only[go_sem,simprocAttr,objA]
 refine call_ro (check_ok k d hd) rfl rfl ?_
 by_cases h:checkP k d=0
 ·rw[if_pos h]at hR
  have hl:d.length≤65000:=by
   unfold checkP at h
   split at h
   ·cases h
   ·split at h
    ·cases h
    ·omega
  have hnl:=name_len k
  have hil:=itoa_len d.length (by omega) (by omega)
  have hi:=itoa_ok d.length (by omega) (by omega)
  simp(disch:=omega)only[go_sem,simprocAttr,h]
  refine call_ro (name_ok k) rfl rfl ?_
  simp(disch:=omega)only[go_sem,simprocAttr]
  refine call_ro hi rfl rfl ?_
  simp(disch:=omega)only[go_sem,simprocAttr]
  refine hR.ro ⟨rfl,?_⟩
  simp[textP]
 ·rw[if_neg h]at hR
  simp(disch:=omega)only[go_sem,simprocAttr,h]
  exact hR.ro ⟨rfl,rfl⟩
def idA (k:Int) (d:Bs):AV:=if checkP k d=0 then .tup [.str (Sh.hexOf (Sh.sha1 (textP k d))),.int .i64 0]else .tup [.str [],.int .i64 (checkP k d)]
theorem check_len {k:Int} {d:Bs} (h:checkP k d=0):d.length≤65000:=by
 unfold checkP at h
 split at h
 ·cases h
 ·split at h
  ·cases h
  ·omega
theorem text_len (k:Int) {d:Bs} (h:d.length≤65000):(textP k d).length≤66000:=by
 have hnl:=name_len k
 have hil:=itoa_len d.length (by omega) (by omega)
 unfold textP
 simp only[List.length_append,List.length_cons]
 omega
theorem id_ok (k:Int) (d:Bs) (hd:d.length≤9223372036854775807):SpecR Tryz.prog 36 [objA k d] (idA k d):=by
 refine Cod.oid_spec (fun E R hN hR=>?_)
 have he:=encode_ok k d hd
 unfold encA at he
 unfold idA at hR
 by_cases h:checkP k d=0
 ·rw[if_pos h]at hR he
  have hl:=text_len k (check_len h)
  have hs:=Sh.sum1_ok (textP k d) (by omega)
  have hh:=Sh.hex_ok (Sh.sha1 (textP k d)) (by rw[Sh.sha1_len];omega)
  simp(disch:=omega)only[go_sem,simprocAttr,objA]
  refine call_ro he rfl rfl ?_
  simp(disch:=omega)only[go_sem,simprocAttr]
  refine call_ro hs rfl rfl ?_
  simp(disch:=omega)only[go_sem,simprocAttr]
  refine call_ro hh rfl rfl ?_
  simp(disch:=omega)only[go_sem,simprocAttr]
  exact hR.ro ⟨rfl,rfl⟩
 ·rw[if_neg h]at hR he
  simp(disch:=omega)only[go_sem,simprocAttr,objA]
  refine call_ro he rfl rfl ?_
  simp(disch:=omega)only[go_sem,simprocAttr,h]
  exact hR.ro ⟨rfl,rfl⟩
end Go.Proofs.YtlkmppkcbhodaaaGreatDoor.Ob
namespace Go.Proofs.YtlkmppkcbhodaaaGreatDoor.Ob
open Eng
set_option maxRecDepth 10000
def numI (o:Option Nat):Int:=match o with
 | some n=>n
 | none=>-1
end Go.Proofs.YtlkmppkcbhodaaaGreatDoor.Ob
namespace Go.Proofs.YtlkmppkcbhodaaaGreatDoor.Ob
open Eng
set_option maxRecDepth 10000
theorem rname_ok (k:Int) (h0:-9223372036854775808≤k) (h1:k≤9223372036854775807):SpecR Tryz.prog 48 [.int .i64 k] (.str (nameP k)):=by
 refine Cod.rname_spec (fun E R hN hR=>?_)
 unfold nameP at hR
 by_cases a1:k<1
 ·rw[if_neg (by omega),if_neg (by omega),if_neg (by omega),if_neg (by omega)]at hR
  simp(disch:=omega)only[go_sem,simprocAttr]
  (repeat(first | refine gskip_of ?_ | refine gcskip_of ?_ | refine gopen_of ?_)<;>simp(disch:=omega)only[go_sem,simprocAttr])
  exact hR.ro ⟨rfl,rfl⟩
 by_cases a2:4<k
 ·rw[if_neg (by omega),if_neg (by omega),if_neg (by omega),if_neg (by omega)]at hR
  simp(disch:=omega)only[go_sem,simprocAttr]
  (repeat(first | refine gskip_of ?_ | refine gcskip_of ?_ | refine gopen_of ?_)<;>simp(disch:=omega)only[go_sem,simprocAttr])
  exact hR.ro ⟨rfl,rfl⟩
 have hk:k=1∨k=2∨k=3∨k=4:=by omega
 rcases hk with rfl | rfl | rfl | rfl
 all_goals
  simp(disch:=omega)only[go_sem,simprocAttr,Sh.nth_c0,Sh.nth_cs]
  (repeat(first | refine gskip_of ?_ | refine gcskip_of ?_ | refine gopen_of ?_)<;>simp(disch:=omega)only[go_sem,simprocAttr,Sh.nth_c0,Sh.nth_cs])
  first | exact hR.ro ⟨rfl,rfl⟩ | (exact hR.wk (h':=[]) (ar':=[.undef]) rfl (.le (by simp(disch:=omega)only[go_sem,simprocAttr])) ⟨rfl,rfl⟩)
def kindP (s:Bs):Int:=if nameP 1=s then 1 else if nameP 2=s then 2 else if nameP 3=s then 3 else if nameP 4=s then 4 else 0
theorem kindP_at (s:Bs) (k:Nat) (h1:1≤k) (h4:k≤4) (hno:∀j:Nat,1≤j→j<k→nameP j≠s) (hk:nameP k=s):kindP s=k:=by
 unfold kindP
 have hc:k=1∨k=2∨k=3∨k=4:=by omega
 rcases hc with rfl | rfl | rfl | rfl
 ·rw[if_pos (show nameP 1=s from hk)];rfl
 ·rw[if_neg (show nameP 1≠s from hno 1 (by omega) (by omega)),if_pos (show nameP 2=s from hk)];rfl
 ·rw[if_neg (show nameP 1≠s from hno 1 (by omega) (by omega)),if_neg (show nameP 2≠s from hno 2 (by omega) (by omega)),if_pos (show nameP 3=s from hk)];rfl
 ·rw[if_neg (show nameP 1≠s from hno 1 (by omega) (by omega)),if_neg (show nameP 2≠s from hno 2 (by omega) (by omega)),if_neg (show nameP 3≠s from hno 3 (by omega) (by omega)),if_pos (show nameP 4=s from hk)];rfl
theorem kindP_no (s:Bs) (hno:∀j:Nat,1≤j→j<5→nameP j≠s):kindP s=0:=by
 unfold kindP
 rw[if_neg (show nameP 1≠s from hno 1 (by omega) (by omega)),if_neg (show nameP 2≠s from hno 2 (by omega) (by omega)),if_neg (show nameP 3≠s from hno 3 (by omega) (by omega)),if_neg (show nameP 4≠s from hno 4 (by omega) (by omega))]
theorem kind_ok (s:Bs):SpecR Tryz.prog 75 [.str s] (.int .i64 (kindP s)):=by
 refine Cod.kind_spec (fun E R hN hR=>?_)
 simp(disch:=omega)only[go_sem,simprocAttr]
 refine vcW_loop hN (fun k:Nat=>⟨[(0,.str s),(3,.int .i64 k)],[]⟩) (fun k=>1≤k∧k≤5∧∀j:Nat,1≤j→j<k→nameP j≠s) (fun k=>5-k) 1 (.le (by simp(disch:=omega)only[go_sem,simprocAttr])) ⟨by omega,by omega,fun j h1 h2=>by omega⟩ ?_
 rintro k R1 ⟨h1,h5,hno⟩ hR1
 by_cases hlt:k≤4
 ·have hn:=name_ok k
  simp(disch:=omega)only[go_sem,simprocAttr]
  refine call_ro hn rfl rfl ?_
  by_cases he:nameP k=s
  ·simp(disch:=omega)only[go_sem,simprocAttr,he]
   exact hR.ro ⟨rfl,by rw[kindP_at s k h1 hlt hno he]⟩
  ·simp(disch:=omega)only[go_sem,simprocAttr,he]
   refine hR1 (k+1) _ (by omega) ⟨by omega,by omega,fun j g1 g2=>?_⟩ (.le (by simp(disch:=omega)only[go_sem,simprocAttr]))
   by_cases hj:j=k
   ·subst hj;exact he
   ·exact hno j g1 (by omega)
 ·obtain rfl:k=5:=by omega
  simp(disch:=omega)only[go_sem,simprocAttr]
  exact hR.ro ⟨rfl,by rw[kindP_no s hno]⟩
theorem rtext_ok (k:Int) (d:Bs) (h0:-9223372036854775808≤k) (h1:k≤9223372036854775807) (hd:d.length≤65000):SpecR Tryz.prog 25 [objA k d] (.str (textP k d)):=by
 refine Cod.rtext_spec (fun E R hN hR=>?_)
 have hnl:=name_len k
 have hil:=itoa_len d.length (by omega) (by omega)
 have hi:=rdig_ok d.length (by omega) (by omega)
 simp(disch:=omega)only[go_sem,simprocAttr,objA]
 refine call_ro (rname_ok k h0 h1) rfl rfl ?_
 simp(disch:=omega)only[go_sem,simprocAttr]
 refine call_ro hi rfl rfl ?_
 simp(disch:=omega)only[go_sem,simprocAttr]
 refine hR.ro ⟨rfl,?_⟩
 simp[textP]
theorem rid_ok (k:Int) (d:Bs) (h0:-9223372036854775808≤k) (h1:k≤9223372036854775807) (hd:d.length≤65000):SpecR Tryz.prog 12 [objA k d] (.str (Sh.hexOf (Sh.sha1 (textP k d)))):=by
 refine Cod.rid_spec (fun E R hN hR=>?_)
 have hl:=text_len k hd
 have ht:=rtext_ok k d h0 h1 hd
 have hs:=Sh.rsum1_ok (textP k d) (by omega)
 have hh:=Sh.rhex_ok (Sh.sha1 (textP k d)) (by rw[Sh.sha1_len];omega)
 simp(disch:=omega)only[go_sem,simprocAttr,objA]
 refine call_ro ht rfl rfl ?_
 simp(disch:=omega)only[go_sem,simprocAttr]
 refine call_ro hs rfl rfl ?_
 simp(disch:=omega)only[go_sem,simprocAttr]
 refine call_ro hh rfl rfl ?_
 simp(disch:=omega)only[go_sem,simprocAttr]
 exact hR.ro ⟨rfl,rfl⟩
theorem cutP_len (c:UInt8):∀s:Bs,(cutP c s).1.length≤s.length∧(cutP c s).2.1.length≤s.length
 | []=>by simp[cutP]
 | x::r=>by
  have:=cutP_len c r
  unfold cutP
  split
  ·simp
  ·simp only[List.length_cons];omega
def decodeP (s:Bs):Int×Bs×Int:=
 if(cutP 0 s).2.2=false∨(cutP 32 (cutP 0 s).1).2.2=false∨numO (cutP 32 (cutP 0 s).1).2.1=none then(0,[],3)
 else if kindP (cutP 32 (cutP 0 s).1).1=0 then(0,[],10)
 else if 65000<numI (numO (cutP 32 (cutP 0 s).1).2.1)then(0,[],2)
 else if((cutP 0 s).2.1.length:Int)<numI (numO (cutP 32 (cutP 0 s).1).2.1)then(0,[],6)
 else if numI (numO (cutP 32 (cutP 0 s).1).2.1)<((cutP 0 s).2.1.length:Int)then(0,[],3)
 else(kindP (cutP 32 (cutP 0 s).1).1,(cutP 0 s).2.1,0)
def decA (x:Int×Bs×Int):AV:=.tup [objA x.1 x.2.1,.int .i64 x.2.2]
theorem decode_ok (s:Bs) (hs:s.length≤140737488351232):SpecR Tryz.prog 40 [.str s] (decA (decodeP s)):=by
 refine Cod.decode_spec (fun E R hN hR=>?_)
 have hl0:=cutP_len 0 s
 have hc0:=cut_ok s 0 (by omega)
 unfold decodeP at hR
 generalize hq:cutP 0 s=q at *
 obtain⟨head,data,ok⟩:=q
 simp only at *
 have hl1:=cutP_len 32 head
 have hc1:=cut_ok head 32 (by omega)
 generalize hq1:cutP 32 head=q1 at *
 obtain⟨name,size,blank⟩:=q1
 simp only at *
 have hn:=number_ok size (by omega)
 have hk:=kind_ok name
 rw[cutA]at hc0 hc1
 simp only at hc0 hc1
 simp(disch:=omega)only[go_sem,simprocAttr]
 refine call_ro hc0 rfl rfl ?_
 simp(disch:=omega)only[go_sem,simprocAttr]
 refine call_ro hc1 rfl rfl ?_
 simp(disch:=omega)only[go_sem,simprocAttr]
 refine call_ro hn rfl (by cases numO size<;>rfl) ?_
 cases ok with
 | false=>
  rw[if_pos (.inl rfl)]at hR
  cases hO:numO size with
  | none=>
   simp(disch:=omega)only[go_sem,simprocAttr,numA]
   (repeat(first | refine gskip_of ?_ | refine gcskip_of ?_ | refine gopen_of ?_)<;>simp(disch:=omega)only[go_sem,simprocAttr])
   exact hR.ro ⟨rfl,rfl⟩
  | some n=>
   simp(disch:=omega)only[go_sem,simprocAttr,numA]
   (repeat(first | refine gskip_of ?_ | refine gcskip_of ?_ | refine gopen_of ?_)<;>simp(disch:=omega)only[go_sem,simprocAttr])
   exact hR.ro ⟨rfl,rfl⟩
 | true=>
  cases blank with
  | false=>
   rw[if_pos (.inr (.inl rfl))]at hR
   cases hO:numO size with
   | none=>
    simp(disch:=omega)only[go_sem,simprocAttr,numA]
    (repeat(first | refine gskip_of ?_ | refine gcskip_of ?_ | refine gopen_of ?_)<;>simp(disch:=omega)only[go_sem,simprocAttr])
    exact hR.ro ⟨rfl,rfl⟩
   | some n=>
    simp(disch:=omega)only[go_sem,simprocAttr,numA]
    (repeat(first | refine gskip_of ?_ | refine gcskip_of ?_ | refine gopen_of ?_)<;>simp(disch:=omega)only[go_sem,simprocAttr])
    exact hR.ro ⟨rfl,rfl⟩
  | true=>
   cases hO:numO size with
   | none=>
    rw[if_pos (.inr (.inr hO))]at hR
    simp(disch:=omega)only[go_sem,simprocAttr,numA]
    (repeat(first | refine gskip_of ?_ | refine gcskip_of ?_ | refine gopen_of ?_)<;>simp(disch:=omega)only[go_sem,simprocAttr])
    exact hR.ro ⟨rfl,rfl⟩
   | some n=>
    rw[if_neg (by rw[hO];simp),hO,numI]at hR
    simp(disch:=omega)only[go_sem,simprocAttr,numA]
    refine call_ro hk rfl rfl ?_
    by_cases h1:kindP name=0
    ·rw[if_pos h1]at hR
     simp(disch:=omega)only[go_sem,simprocAttr,h1]
     exact hR.ro ⟨rfl,rfl⟩
    rw[if_neg h1]at hR
    by_cases h2:65000<(n:Int)
    ·rw[if_pos h2]at hR
     simp(disch:=omega)only[go_sem,simprocAttr,h1]
     exact hR.ro ⟨rfl,rfl⟩
    rw[if_neg h2]at hR
    by_cases h3:(data.length:Int)<n
    ·rw[if_pos h3]at hR
     simp(disch:=omega)only[go_sem,simprocAttr,h1]
     exact hR.ro ⟨rfl,rfl⟩
    rw[if_neg h3]at hR
    by_cases h4:(n:Int)<data.length
    ·rw[if_pos h4]at hR
     simp(disch:=omega)only[go_sem,simprocAttr,h1]
     exact hR.ro ⟨rfl,rfl⟩
    rw[if_neg h4]at hR
    simp(disch:=omega)only[go_sem,simprocAttr,h1]
    refine call_ro hk rfl rfl ?_
    simp(disch:=omega)only[go_sem,simprocAttr]
    exact hR.ro ⟨rfl,rfl⟩
end Go.Proofs.YtlkmppkcbhodaaaGreatDoor.Ob
