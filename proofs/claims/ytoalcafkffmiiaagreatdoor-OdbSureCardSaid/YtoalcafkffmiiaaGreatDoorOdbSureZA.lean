/- The proof, part 27 of 42. -/
import Derived.Test.YtoalcafkffmiiaaGreatDoorOdbSureP
import Derived.Test.YtoalcafkffmiiaaGreatDoorOdbSureQ
import Derived.Test.YtoalcafkffmiiaaGreatDoorOdbSureT
import Derived.Lib.AtoiTie
import Derived.Lib.ItoaMem
import Derived.Lib.AppendIntMem
import Derived.Lib.AtoiErrMem
set_option linter.all false
namespace Go.Proofs.YtoalcafkffmiiaaGreatDoor.Ob
open Eng
set_option maxRecDepth 10000
abbrev Bs:=List UInt8
theorem ao3 {P:Program} {name:String} {g:Nat} {k:IntKind} {zs:List Int} {w:World} {cs:Array Value} {t:TypeId} {fz:Nat×Nat} (hg:P.globalNamed name=some g) (hw:w.heap[g]?=some (.cells cs t fz)) (he:cs=(zs.map fun z=>Value.int k z).toArray):Lib.TabIs P w name k zs:=by
 unfold Lib.TabIs World.var?
 rw[hg]
 simp only[Option.bind_some,hw,he]
theorem cell_of {w:World} {g:Nat} {v:Value} {t:TypeId} {fz:Nat×Nat} (hw:w.heap[g]?=some (.cells #[v] t fz)):w.cell? ⟨g,0,none⟩=some v:=by
 simp[World.cell?,hw]
theorem zy {v:Value} (h:isIfV v=true):v=.nilIface∨∃t p,v=.iface t p:=by
 cases v<;>simp[isIfV]at h
 ·exact .inr ⟨_,_,rfl⟩
 ·exact .inl rfl
theorem z6 (n:Int) (h0:-9223372036854775808≤n) (h1:n≤9223372036854775807):aN Tryz.prog 187 [.int .i64 n] (.str (Lib.itoa n)):=by
 refine u0 rfl rfl (fun w hA=>?_)
 obtain⟨cs,t,fz,g1,g2⟩:=hA (5,_) (by unfold kX;simp only[List.nil_append,List.cons_append,List.mem_cons];exact .inl rfl)
 refine(Any.strconv_Itoa Tryz.laysM171 n h0 h1 w (ao3 (by kernel_rfl) g1 g2)).mono ?_
 rintro e w' ⟨rfl,k,os,rfl⟩
 exact⟨rfl,Lib.below_grow _ _ (Nat.le_refl _) _ _⟩
def atoiA (s:Bs) (r:AV):Prop:=
 match Lib.atoiAll s with
 | .ok v=>r=.ai [.int .i64 v,.lit .nilIface]
 | _=>∃n t p,r=.ai [.int .i64 n,.lit (.iface t p)]
theorem FF (s:Bs) (hs:s.length≤140737488351232):Eng.Spec Tryz.prog 220 [] [.str s] (fun h r _=>h=[]∧atoiA s r):=by
 refine CU rfl (fun w hA=>?_)
 have hl:(⟨s.toArray⟩:ByteArray).size≤140737488351232:=by simpa[ByteArray.size]using hs
 unfold atoiA
 cases he:Lib.atoiAll s
 ·rename_i v
  refine(Any.strconv_Atoi_ok Tryz.laysC172 ⟨s.toArray⟩ (by omega) v he w).mono ?_
  rintro e w' ⟨rfl,hw⟩
  refine⟨_,rfl,rfl,rfl,?_⟩
  rcases hw with rfl | ⟨t,rfl⟩
  ·exact .refl _ _
  ·exact Lib.bytesWorld_below _ _ _
 ·obtain⟨cs,t,fz,g1,v,rfl,g3⟩:=hA (3,_) (by unfold kX;simp only[List.nil_append,List.cons_append,List.mem_cons];exact .inr (.inl rfl))
  refine(Any.strconv_Atoi_syntax Tryz.laysC172 ⟨s.toArray⟩ (by omega) he v w (cell_of g1) (zy g3)).mono ?_
  rintro e w' ⟨N,rfl,_,_,hb⟩
  exact⟨_,⟨_,_,_,rfl⟩,rfl,rfl,hb⟩
 ·obtain⟨cs,t,fz,g1,v,rfl,g3⟩:=hA (4,_) (by unfold kX;simp only[List.nil_append,List.cons_append,List.mem_cons];exact .inr (.inr (.inl rfl)))
  refine(Any.strconv_Atoi_range Tryz.laysC172 ⟨s.toArray⟩ (by omega) he v w (cell_of g1) (zy g3)).mono ?_
  rintro e w' ⟨N,rfl,_,_,hb⟩
  exact⟨_,⟨_,_,_,rfl⟩,rfl,rfl,hb⟩
theorem Uq (s:Bs) (c:UInt8):aN Tryz.prog 173 [.str s,.str [c]] (.int .i64 (Lib.indexByte s c)):=
 u5 rfl rfl (fun w=>Tryz.stringslite_Index_one ⟨s.toArray⟩ c w)
def cutP (c:UInt8):Bs→Bs×Bs×Bool
 | []=>([],[],false)
 | x::r=>if x=c then([],r,true)else(x::(cutP c r).1,(cutP c r).2)
theorem xu (c:UInt8):∀s:Bs,(Lib.indexByte s c = -1∧cutP c s=(s,[],false))∨∃j:Nat,j<s.length∧Lib.indexByte s c=(j:Int)∧cutP c s=(s.take j,s.drop (j+1),true)
 | []=>.inl ⟨rfl,rfl⟩
 | x::r=>by
  by_cases hx:x=c
  ·subst hx
   exact .inr ⟨0,by simp,by simp[Lib.indexByte],by simp[cutP]⟩
  ·have hb:(x==c)=false:=by simp[hx]
   rcases xu c r with⟨h1,h2⟩ | ⟨j,h1,h2,h3⟩
   ·refine .inl ⟨by simp[Lib.indexByte,hb,h1],by simp[cutP,hx,h2]⟩
   ·refine .inr ⟨j+1,by simp;omega,?_,by simp[cutP,hx,h3]⟩
    have hne:(Lib.indexByte r c == -1)=false:=by rw[h2];simp
    simp[Lib.indexByte,hb,hne,h2]
def pF (q:Bs×Bs×Bool):AV:=.ai [.str q.1,.str q.2.1,.bool q.2.2]
theorem ZS (s:Bs) (c:UInt8) (hs:s.length≤9223372036854775807):aN Tryz.prog 219 [.str s,.str [c]] (pF (cutP c s)):=by
 refine Cod.ZT (fun E R hN hR=>?_)
 refine wW ?_
 refine aC (Uq s c) rfl rfl ?_
 rcases xu c s with⟨h1,h2⟩ | ⟨j,h1,h2,h3⟩
 ·refine az h1 ?_
  exact hR.ro ⟨rfl,by rw[h2];rfl⟩
 ·refine az h2 ?_
  exact hR.ro ⟨rfl,by rw[h3];rfl⟩
theorem xv (s:Bs) (c:UInt8) (hs:s.length≤9223372036854775807):aN Tryz.prog 182 [.str s,.str [c]] (pF (cutP c s)):=by
 refine Cod.alU (fun E R hN hR=>?_)
 refine wW ?_
 refine aC (ZS s c hs) rfl rfl ?_
 simp(disch:=omega)only[go_sem,simprocAttr,pF]
 exact hR.ro ⟨rfl,rfl⟩
end Go.Proofs.YtoalcafkffmiiaaGreatDoor.Ob
namespace Go.Proofs.YtoalcafkffmiiaaGreatDoor.Ob
open Eng
set_option maxRecDepth 10000
def dB (k:Nat):UInt8:=UInt8.ofNat (48+k)
theorem iO {n:Nat} (h:n<10):Lib.decDigits n=[dB n]:=by rw[Lib.decDigits,dif_pos h];rfl
theorem lZ {n:Nat} (h:¬n<10):Lib.decDigits n=Lib.decDigits (n/10)++[dB (n%10)]:=by rw[Lib.decDigits,dif_neg h];rfl
theorem xx {k:Nat} (h:k<10):(dB k).toNat=48+k:=by
 unfold dB;rw[UInt8.toNat_ofNat'];omega
theorem LZ (n:Nat):Lib.decDigits n≠[]:=by
 by_cases h:n<10
 ·rw[iO h];simp
 ·rw[lZ h];simp
theorem LX:∀(f n:Nat),n≤f→∀b∈Lib.decDigits n,48≤b.toNat∧b.toNat≤57
 | 0,n,hf,b,hb=>by
  obtain rfl:n=0:=by omega
  rw[iO (by omega)]at hb
  simp at hb;subst hb;decide
 | f+1,n,hf,b,hb=>by
  by_cases h:n<10
  ·rw[iO h]at hb
   simp at hb;subst hb;rw[xx h];omega
  ·rw[lZ h]at hb
   rcases List.mem_append.1 hb with hb | hb
   ·exact LX f (n/10) (by omega) b hb
   ·simp at hb;subst hb;rw[xx (by omega)];omega
theorem sF:∀(k n:Nat),n<10^(k+1)↔(Lib.decDigits n).length≤k+1
 | 0,n=>by
  by_cases h:n<10
  ·rw[iO h];simp;omega
  ·rw[lZ h]
   have:=List.length_pos_iff.2 (LZ (n/10))
   simp only[List.length_append,List.length_singleton]
   omega
 | k+1,n=>by
  by_cases h:n<10
  ·rw[iO h]
   have:10^1≤10^(k+1+1):=Nat.pow_le_pow_right (by decide) (by omega)
   simp only[List.length_singleton]
   omega
  ·rw[lZ h]
   have ih:=sF k (n/10)
   have:n<10^(k+1+1)↔n/10<10^(k+1):=by rw[Nat.div_lt_iff_lt_mul (by decide),Nat.pow_succ 10 (k+1)]
   simp only[List.length_append,List.length_singleton]
   omega
def ja (s:Bs):Option Nat:=
 match Lib.atoiAll s with
 | .ok v=>if 0≤v∧s.length≤9∧Lib.itoa v=s then some v.toNat else none
 | _=>none
theorem nH (n:Int) (h:n≤9223372036854775807) (h0:-9223372036854775808≤n):(Lib.itoa n).length≤20:=by
 unfold Lib.itoa
 split
 ·have:=(sF 18 n.natAbs).1 (by omega)
  simp only[List.length_cons];omega
 ·have:=(sF 18 n.toNat).1 (by omega)
  omega
def numA:Option Nat→AV
 | some n=>.ai [.int .i64 n,.bool true]
 | none=>.ai [.int .i64 0,.bool false]
theorem acA (s:Bs) (hs:s.length≤140737488351232):aN Tryz.prog 183 [.str s] (numA (ja s)):=by
 refine Cod.acB (fun E R hN hR=>?_)
 refine wW ?_
 refine gS (FF s hs) rfl ?_
 rintro h' v as' ⟨rfl,hv⟩
 unfold atoiA at hv
 unfold ja at hR
 cases he:Lib.atoiAll s
 ·rename_i n
  rw[he]at hv hR
  simp only at hv hR
  subst hv
  have hb:=Lib.atoiAll_bounds he
  refine⟨rfl,rfl,?_⟩
  by_cases h1:n<0
  ·rw[if_neg (by omega)]at hR
   refine wW ?_
   refine gG ?_
   exact hR.ro ⟨rfl,rfl⟩
  by_cases h2:s.length≤9
  ·refine wW ?_
   refine gG ?_
   refine mi (jU vV (z6 n (by omega) (by omega)) vV rfl rfl ?_)
   by_cases h3:Lib.itoa n=s
   ·rw[if_pos ⟨by omega,h2,h3⟩]at hR
    refine az h3 ?_
    refine hR.ro ⟨rfl,?_⟩
    rw[numA,show((n.toNat:Nat):Int)=n by omega]
   ·rw[if_neg (fun h=>h3 h.2.2)]at hR
    refine az h3 ?_
    exact hR.ro ⟨rfl,rfl⟩
  ·rw[if_neg (fun h=>h2 h.2.1)]at hR
   refine wW ?_
   refine gG ?_
   exact hR.ro ⟨rfl,rfl⟩
 ·rw[he]at hv hR
  obtain⟨n,t,p,rfl⟩:=hv
  refine⟨rfl,rfl,?_⟩
  refine wW ?_
  refine gG ?_
  exact hR.ro ⟨rfl,rfl⟩
 ·rw[he]at hv hR
  obtain⟨n,t,p,rfl⟩:=hv
  refine⟨rfl,rfl,?_⟩
  refine wW ?_
  refine gG ?_
  exact hR.ro ⟨rfl,rfl⟩
theorem xJ (n:Nat) (h:n<10):List.take (n+1-n) (List.drop n [48,49,50,51,52,53,54,55,56,57])=[dB n]:=by
 have:∀m:Fin 10,List.take (m.val+1-m.val) (List.drop m.val [48,49,50,51,52,53,54,55,56,57])=[dB m.val]:=by decide
 exact this ⟨n,h⟩
theorem uC:∀(f n:Nat),n≤f→n≤9223372036854775807→aN Tryz.prog 92 [.int .i64 (n:Int)] (.str (Lib.decDigits n)):=by
 intro f
 induction f with
 | zero=>
  intro n hn _
  obtain rfl:n=0:=by omega
  refine Cod.sL (fun E R hN hR=>?_)
  refine wW ?_
  refine gG ?_
  refine hR.ro ⟨rfl,?_⟩
  rw[iO (by omega)];rfl
 | succ f ih=>
  intro n hn hb
  refine Cod.sL (fun E R hN hR=>?_)
  by_cases h:n<10
  ·have:=xJ n h
   refine wW ?_
   refine gG ?_
   refine hR.ro ⟨rfl,?_⟩
   rw[iO h,←this]
  ·have:=xJ (n%10) (by omega)
   have ih:=ih (n/10) (by omega) (by omega)
   have hl:=nH ((n/10:Nat):Int) (by omega) (by omega)
   rw[Lib.itoa_nonneg]at hl
   have e1:((n:Int)%10+1).toNat=n%10+1:=by omega
   have e2:((n:Int)%10).toNat=n%10:=by omega
   have e3:(n:Int)/10=((n/10:Nat):Int):=by omega
   refine wW ?_
   refine gG ?_
   rw[e1,e2,this,e3]
   refine aC ih rfl rfl ?_
   refine wW ?_
   refine hR.ro ⟨rfl,?_⟩
   rw[lZ h]
theorem aiw:∀(f n:Nat),n≤f→1≤n→n≤9223372036854775808→aN Tryz.prog 92 [.int .i64 (-(n:Int))] (.str (45::Lib.decDigits n)):=by
 intro f
 induction f with
 | zero=>intro n hn h1;omega
 | succ f ih=>
  intro n hn h1 hb
  refine Cod.sL (fun E R hN hR=>?_)
  by_cases h:n<10
  ·have hd:=uC n n (Nat.le_refl _) (by omega)
   have e1:(0:Int) - -(n:Int)=(n:Int):=by omega
   have hl:(Lib.decDigits n).length≤1:=by rw[iO h];simp
   refine wW ?_
   refine gG ?_
   rw[e1]
   refine aC hd rfl rfl ?_
   refine wW ?_
   exact hR.ro ⟨rfl,rfl⟩
  ·have e1:IntKind.i64.wrap ((-(n:Int)).tdiv 10) = -((n/10:Nat):Int):=by
    rw[Int.neg_tdiv,show(n:Int).tdiv 10=((n/10:Nat):Int)from rfl]
    exact eW (by omega)
   have e2:(0:Int)-(-(n:Int)).tmod 10=((n%10:Nat):Int):=by
    rw[Int.neg_tmod,show(n:Int).tmod 10=((n%10:Nat):Int)from rfl]
    omega
   have ih:=ih (n/10) (by omega) (by omega) (by omega)
   have hd:=uC (n%10) (n%10) (Nat.le_refl _) (by omega)
   have hl:=nH (((n/10:Nat)):Int) (by omega) (by omega)
   rw[Lib.itoa_nonneg]at hl
   have hl2:(Lib.decDigits (n%10)).length≤1:=by rw[iO (by omega)];simp
   have e3:=iO (n:=n%10) (by omega)
   refine wW ?_
   refine gG ?_
   rw[e1]
   refine aC ih rfl rfl ?_
   refine az e2 ?_
   refine aC hd rfl rfl ?_
   refine wW ?_
   refine hR.ro ⟨rfl,?_⟩
   rw[lZ h,e3]
theorem aix (n:Int) (h0:-9223372036854775808≤n) (h1:n≤9223372036854775807):aN Tryz.prog 92 [.int .i64 n] (.str (Lib.itoa n)):=by
 by_cases h:n<0
 ·have:=aiw n.natAbs n.natAbs (Nat.le_refl _) (by omega) (by omega)
  rw[show -((n.natAbs:Nat):Int)=n by omega]at this
  unfold Lib.itoa
  rw[if_pos h]
  exact this
 ·have:=uC n.toNat n.toNat (Nat.le_refl _) (by omega)
  rw[show((n.toNat:Nat):Int)=n by omega]at this
  unfold Lib.itoa
  rw[if_neg h]
  exact this
end Go.Proofs.YtoalcafkffmiiaaGreatDoor.Ob
namespace Go.Proofs.YtoalcafkffmiiaaGreatDoor.Ob
open Eng
set_option maxRecDepth 10000
def bu (k:Int):Bs:=if k=1 then[99,111,109,109,105,116]else if k=2 then[116,114,101,101]else if k=3 then[98,108,111,98]else if k=4 then[116,97,103]else[]
theorem ug (k:Int):aN Tryz.prog 186 [.int .i64 k] (.str (bu k)):=by
 refine Cod.aeg (fun E R hN hR=>?_)
 unfold bu at hR
 by_cases h1:k=1
 ·subst h1
  refine wW ?_
  exact hR.ro ⟨rfl,rfl⟩
 by_cases h2:k=2
 ·subst h2
  refine wW ?_
  exact hR.ro ⟨rfl,rfl⟩
 by_cases h3:k=3
 ·subst h3
  refine wW ?_
  exact hR.ro ⟨rfl,rfl⟩
 by_cases h4:k=4
 ·subst h4
  refine wW ?_
  exact hR.ro ⟨rfl,rfl⟩
 rw[if_neg h1,if_neg h2,if_neg h3,if_neg h4]at hR
 refine wW ?_
 exact hR.ro ⟨rfl,rfl⟩
theorem nQ (k:Int):(bu k).length≤6:=by
 unfold bu
 repeat' (first | (split) | simp)
def eF (k:Int) (d:Bs):AV:=.agg [.int .i64 k,.str d]
def dK (k:Int) (d:Bs):Int:=if bu k=[]then 10 else if 65000<d.length then 2 else 0
theorem Jc (k:Int) (d:Bs) (hd:d.length≤9223372036854775807):aN Tryz.prog 185 [eF k d] (.int .i64 (dK k d)):=by
 refine Cod.Je (fun E R hN hR=>?_)
 unfold dK at hR
 simp(disch:=omega)only[go_sem,simprocAttr,eF]
 refine aC (ug k) rfl rfl ?_
 by_cases h1:bu k=[]
 ·rw[if_pos h1]at hR
  refine az h1 ?_
  exact hR.ro ⟨rfl,rfl⟩
 ·rw[if_neg h1]at hR
  by_cases h2:65000<d.length
  ·rw[if_pos h2]at hR
   refine az h1 ?_
   exact hR.ro ⟨rfl,rfl⟩
  ·rw[if_neg h2]at hR
   refine az h1 ?_
   exact hR.ro ⟨rfl,rfl⟩
def fO (k:Int) (d:Bs):Bs:=bu k++32::(Lib.itoa d.length++0::d)
def sS (k:Int) (d:Bs):AV:=if dK k d=0 then .ai [.str (fO k d),.int .i64 0]else .ai [.str [],.int .i64 (dK k d)]
theorem NJ (k:Int) (d:Bs) (hd:d.length≤9223372036854775807):aN Tryz.prog 134 [eF k d] (sS k d):=by
 refine Cod.NK (fun E R hN hR=>?_)
 unfold sS at hR
 simp(disch:=omega)only[go_sem,simprocAttr,eF]
 refine aC (Jc k d hd) rfl rfl ?_
 by_cases h:dK k d=0
 ·rw[if_pos h]at hR
  have hl:d.length≤65000:=by
   unfold dK at h
   split at h
   ·cases h
   ·split at h
    ·cases h
    ·omega
  have hnl:=nQ k
  have hil:=nH d.length (by omega) (by omega)
  have hi:=z6 d.length (by omega) (by omega)
  refine az h ?_
  refine aC (ug k) rfl rfl ?_
  refine wW ?_
  refine aC hi rfl rfl ?_
  refine wW ?_
  refine hR.ro ⟨rfl,?_⟩
  simp[fO]
 ·rw[if_neg h]at hR
  refine az h ?_
  exact hR.ro ⟨rfl,rfl⟩
def qk (k:Int) (d:Bs):AV:=if dK k d=0 then .ai [.str (Sh.bP (Sh.eh (fO k d))),.int .i64 0]else .ai [.str [],.int .i64 (dK k d)]
theorem xh {k:Int} {d:Bs} (h:dK k d=0):d.length≤65000:=by
 unfold dK at h
 split at h
 ·cases h
 ·split at h
  ·cases h
  ·omega
theorem Df (k:Int) {d:Bs} (h:d.length≤65000):(fO k d).length≤66000:=by
 have hnl:=nQ k
 have hil:=nH d.length (by omega) (by omega)
 unfold fO
 simp only[List.length_append,List.length_cons]
 omega
theorem zw (k:Int) (d:Bs) (hd:d.length≤9223372036854775807):aN Tryz.prog 82 [eF k d] (qk k d):=by
 refine Cod.ad2 (fun E R hN hR=>?_)
 have he:=NJ k d hd
 unfold sS at he
 unfold qk at hR
 by_cases h:dK k d=0
 ·rw[if_pos h]at hR he
  have hl:=Df k (xh h)
  have hs:=Sh.vb (fO k d) (by omega)
  have hh:=Sh.nF (Sh.eh (fO k d)) (by rw[Sh.CH];omega)
  simp(disch:=omega)only[go_sem,simprocAttr,eF]
  refine aC he rfl rfl ?_
  refine wW ?_
  refine aC hs rfl rfl ?_
  refine wW ?_
  refine aC hh rfl rfl ?_
  refine wW ?_
  exact hR.ro ⟨rfl,rfl⟩
 ·rw[if_neg h]at hR he
  simp(disch:=omega)only[go_sem,simprocAttr,eF]
  refine aC he rfl rfl ?_
  refine az h ?_
  exact hR.ro ⟨rfl,rfl⟩
end Go.Proofs.YtoalcafkffmiiaaGreatDoor.Ob
namespace Go.Proofs.YtoalcafkffmiiaaGreatDoor.Ob
open Eng
set_option maxRecDepth 10000
def qE (o:Option Nat):Int:=match o with
 | some n=>n
 | none=>-1
end Go.Proofs.YtoalcafkffmiiaaGreatDoor.Ob
namespace Go.Proofs.YtoalcafkffmiiaaGreatDoor.Ob
open Eng
set_option maxRecDepth 10000
theorem ajt (k:Int) (h0:-9223372036854775808≤k) (h1:k≤9223372036854775807):aN Tryz.prog 17 [.int .i64 k] (.str (bu k)):=by
 refine Cod.aju (fun E R hN hR=>?_)
 unfold bu at hR
 by_cases a1:k<1
 ·rw[if_neg (by omega),if_neg (by omega),if_neg (by omega),if_neg (by omega)]at hR
  refine wW ?_
  refine gG ?_
  exact hR.ro ⟨rfl,rfl⟩
 by_cases a2:4<k
 ·rw[if_neg (by omega),if_neg (by omega),if_neg (by omega),if_neg (by omega)]at hR
  refine wW ?_
  refine gG ?_
  exact hR.ro ⟨rfl,rfl⟩
 have hk:k=1∨k=2∨k=3∨k=4:=by omega
 rcases hk with rfl | rfl | rfl | rfl
 all_goals
  refine bc @Sh.mB @Sh.mC ?_
  refine gB @Sh.mB @Sh.mC ?_
  first | exact hR.ro ⟨rfl,rfl⟩ | (exact hR.wk (h':=[]) (ar':=[.undef]) rfl (.le vV) ⟨rfl,rfl⟩)
def j8 (s:Bs):Int:=if bu 1=s then 1 else if bu 2=s then 2 else if bu 3=s then 3 else if bu 4=s then 4 else 0
theorem YC (s:Bs) (k:Nat) (h1:1≤k) (h4:k≤4) (hno:∀j:Nat,1≤j→j<k→bu j≠s) (hk:bu k=s):j8 s=k:=by
 unfold j8
 have hc:k=1∨k=2∨k=3∨k=4:=by omega
 rcases hc with rfl | rfl | rfl | rfl
 ·rw[if_pos (show bu 1=s from hk)];rfl
 ·rw[if_neg (show bu 1≠s from hno 1 (by omega) (by omega)),if_pos (show bu 2=s from hk)];rfl
 ·rw[if_neg (show bu 1≠s from hno 1 (by omega) (by omega)),if_neg (show bu 2≠s from hno 2 (by omega) (by omega)),if_pos (show bu 3=s from hk)];rfl
 ·rw[if_neg (show bu 1≠s from hno 1 (by omega) (by omega)),if_neg (show bu 2≠s from hno 2 (by omega) (by omega)),if_neg (show bu 3≠s from hno 3 (by omega) (by omega)),if_pos (show bu 4=s from hk)];rfl
theorem YD (s:Bs) (hno:∀j:Nat,1≤j→j<5→bu j≠s):j8 s=0:=by
 unfold j8
 rw[if_neg (show bu 1≠s from hno 1 (by omega) (by omega)),if_neg (show bu 2≠s from hno 2 (by omega) (by omega)),if_neg (show bu 3≠s from hno 3 (by omega) (by omega)),if_neg (show bu 4≠s from hno 4 (by omega) (by omega))]
theorem YQ (s:Bs):aN Tryz.prog 184 [.str s] (.int .i64 (j8 s)):=by
 refine Cod.YR (fun E R hN hR=>?_)
 refine wW ?_
 refine ba hN (fun k:Nat=>⟨[(0,.str s),(3,.int .i64 k)],[]⟩) (fun k=>1≤k∧k≤5∧∀j:Nat,1≤j→j<k→bu j≠s) (fun k=>5-k) 1 (.le vV) ⟨by omega,by omega,fun j h1 h2=>by omega⟩ ?_
 rintro k R1 ⟨h1,h5,hno⟩ hR1
 by_cases hlt:k≤4
 ·have hn:=ug k
  refine wW ?_
  refine aC hn rfl rfl ?_
  by_cases he:bu k=s
  ·refine az he ?_
   exact hR.ro ⟨rfl,by rw[YC s k h1 hlt hno he]⟩
  ·refine az he ?_
   refine hR1 (k+1) _ (by omega) ⟨by omega,by omega,fun j g1 g2=>?_⟩ (.le vV)
   by_cases hj:j=k
   ·subst hj;exact he
   ·exact hno j g1 (by omega)
 ·obtain rfl:k=5:=by omega
  refine wW ?_
  exact hR.ro ⟨rfl,by rw[YD s hno]⟩
theorem alc (k:Int) (d:Bs) (h0:-9223372036854775808≤k) (h1:k≤9223372036854775807) (hd:d.length≤65000):aN Tryz.prog 49 [eF k d] (.str (fO k d)):=by
 refine Cod.ald (fun E R hN hR=>?_)
 have hnl:=nQ k
 have hil:=nH d.length (by omega) (by omega)
 have hi:=aix d.length (by omega) (by omega)
 simp(disch:=omega)only[go_sem,simprocAttr,eF]
 refine aC (ajt k h0 h1) rfl rfl ?_
 refine wW ?_
 refine aC hi rfl rfl ?_
 refine wW ?_
 refine hR.ro ⟨rfl,?_⟩
 simp[fO]
theorem ajb (k:Int) (d:Bs) (h0:-9223372036854775808≤k) (h1:k≤9223372036854775807) (hd:d.length≤65000):aN Tryz.prog 13 [eF k d] (.str (Sh.bP (Sh.eh (fO k d)))):=by
 refine Cod.ajc (fun E R hN hR=>?_)
 have hl:=Df k hd
 have ht:=alc k d h0 h1 hd
 have hs:=Sh.ak5 (fO k d) (by omega)
 have hh:=Sh.ai6 (Sh.eh (fO k d)) (by rw[Sh.CH];omega)
 simp(disch:=omega)only[go_sem,simprocAttr,eF]
 refine aC ht rfl rfl ?_
 refine wW ?_
 refine aC hs rfl rfl ?_
 refine wW ?_
 refine aC hh rfl rfl ?_
 refine wW ?_
 exact hR.ro ⟨rfl,rfl⟩
theorem pG (c:UInt8):∀s:Bs,(cutP c s).1.length≤s.length∧(cutP c s).2.1.length≤s.length
 | []=>by simp[cutP]
 | x::r=>by
  have:=pG c r
  unfold cutP
  split
  ·simp
  ·simp only[List.length_cons];omega
def l3 (s:Bs):Int×Bs×Int:=
 if(cutP 0 s).2.2=false∨(cutP 32 (cutP 0 s).1).2.2=false∨ja (cutP 32 (cutP 0 s).1).2.1=none then(0,[],3)
 else if j8 (cutP 32 (cutP 0 s).1).1=0 then(0,[],10)
 else if 65000<qE (ja (cutP 32 (cutP 0 s).1).2.1)then(0,[],2)
 else if((cutP 0 s).2.1.length:Int)<qE (ja (cutP 32 (cutP 0 s).1).2.1)then(0,[],6)
 else if qE (ja (cutP 32 (cutP 0 s).1).2.1)<((cutP 0 s).2.1.length:Int)then(0,[],3)
 else(j8 (cutP 32 (cutP 0 s).1).1,(cutP 0 s).2.1,0)
def gq (x:Int×Bs×Int):AV:=.ai [eF x.1 x.2.1,.int .i64 x.2.2]
theorem Mq (s:Bs) (hs:s.length≤140737488351232):aN Tryz.prog 133 [.str s] (gq (l3 s)):=by
 refine Cod.Mr (fun E R hN hR=>?_)
 have hl0:=pG 0 s
 have hc0:=xv s 0 (by omega)
 unfold l3 at hR
 generalize hq:cutP 0 s=q at *
 obtain⟨head,data,ok⟩:=q
 simp only at *
 have hl1:=pG 32 head
 have hc1:=xv head 32 (by omega)
 generalize hq1:cutP 32 head=q1 at *
 obtain⟨name,size,blank⟩:=q1
 simp only at *
 have hn:=acA size (by omega)
 have hk:=YQ name
 rw[pF]at hc0 hc1
 simp only at hc0 hc1
 refine wW ?_
 refine aC hc0 rfl rfl ?_
 refine wW ?_
 refine aC hc1 rfl rfl ?_
 refine wW ?_
 refine aC hn rfl (by cases ja size<;>rfl) ?_
 cases ok with
 | false=>
  rw[if_pos (.inl rfl)]at hR
  cases hO:ja size with
  | none=>
   simp(disch:=omega)only[go_sem,simprocAttr,numA]
   refine gG ?_
   exact hR.ro ⟨rfl,rfl⟩
  | some n=>
   simp(disch:=omega)only[go_sem,simprocAttr,numA]
   refine gG ?_
   exact hR.ro ⟨rfl,rfl⟩
 | true=>
  cases blank with
  | false=>
   rw[if_pos (.inr (.inl rfl))]at hR
   cases hO:ja size with
   | none=>
    simp(disch:=omega)only[go_sem,simprocAttr,numA]
    refine gG ?_
    exact hR.ro ⟨rfl,rfl⟩
   | some n=>
    simp(disch:=omega)only[go_sem,simprocAttr,numA]
    refine gG ?_
    exact hR.ro ⟨rfl,rfl⟩
  | true=>
   cases hO:ja size with
   | none=>
    rw[if_pos (.inr (.inr hO))]at hR
    simp(disch:=omega)only[go_sem,simprocAttr,numA]
    refine gG ?_
    exact hR.ro ⟨rfl,rfl⟩
   | some n=>
    rw[if_neg (by rw[hO];simp),hO,qE]at hR
    simp(disch:=omega)only[go_sem,simprocAttr,numA]
    refine aC hk rfl rfl ?_
    by_cases h1:j8 name=0
    ·rw[if_pos h1]at hR
     refine az h1 ?_
     exact hR.ro ⟨rfl,rfl⟩
    rw[if_neg h1]at hR
    by_cases h2:65000<(n:Int)
    ·rw[if_pos h2]at hR
     refine az h1 ?_
     exact hR.ro ⟨rfl,rfl⟩
    rw[if_neg h2]at hR
    by_cases h3:(data.length:Int)<n
    ·rw[if_pos h3]at hR
     refine az h1 ?_
     exact hR.ro ⟨rfl,rfl⟩
    rw[if_neg h3]at hR
    by_cases h4:(n:Int)<data.length
    ·rw[if_pos h4]at hR
     refine az h1 ?_
     exact hR.ro ⟨rfl,rfl⟩
    rw[if_neg h4]at hR
    refine az h1 ?_
    refine aC hk rfl rfl ?_
    refine wW ?_
    exact hR.ro ⟨rfl,rfl⟩
end Go.Proofs.YtoalcafkffmiiaaGreatDoor.Ob
