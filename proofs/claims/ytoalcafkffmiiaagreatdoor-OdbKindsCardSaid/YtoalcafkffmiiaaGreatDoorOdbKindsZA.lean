/- The proof, part 27 of 42. -/
import Derived.Test.YtoalcafkffmiiaaGreatDoorOdbKindsP
import Derived.Test.YtoalcafkffmiiaaGreatDoorOdbKindsQ
import Derived.Test.YtoalcafkffmiiaaGreatDoorOdbKindsT
import Derived.Lib.AtoiTie
import Derived.Lib.ItoaMem
import Derived.Lib.AppendIntMem
import Derived.Lib.AtoiErrMem
set_option linter.all false
namespace Go.Proofs.YtoalcafkffmiiaaGreatDoor.Ob
open Eng
set_option maxRecDepth 10000
abbrev Bs:=List UInt8
theorem amS {P:Program} {name:String} {g:Nat} {k:IntKind} {zs:List Int} {w:World} {cs:Array Value} {t:TypeId} {fz:Nat×Nat} (hg:P.globalNamed name=some g) (hw:w.heap[g]?=some (.cells cs t fz)) (he:cs=(zs.map fun z=>Value.int k z).toArray):Lib.TabIs P w name k zs:=by
 unfold Lib.TabIs World.var?
 rw[hg]
 simp only[Option.bind_some,hw,he]
theorem cell_of {w:World} {g:Nat} {v:Value} {t:TypeId} {fz:Nat×Nat} (hw:w.heap[g]?=some (.cells #[v] t fz)):w.cell? ⟨g,0,none⟩=some v:=by
 simp[World.cell?,hw]
theorem zb {v:Value} (h:isIfV v=true):v=.nilIface∨∃t p,v=.iface t p:=by
 cases v<;>simp[isIfV]at h
 ·exact .inr ⟨_,_,rfl⟩
 ·exact .inl rfl
theorem zF (n:Int) (h0:-9223372036854775808≤n) (h1:n≤9223372036854775807):aO Tryz.prog 187 [.int .i64 n] (.str (Lib.itoa n)):=by
 refine uK rfl rfl (fun w hA=>?_)
 obtain⟨cs,t,fz,g1,g2⟩:=hA (5,_) (by unfold kN;simp only[List.nil_append,List.cons_append,List.mem_cons];exact .inl rfl)
 refine(Any.strconv_Itoa Tryz.laysM171 n h0 h1 w (amS (by kernel_rfl) g1 g2)).mono ?_
 rintro e w' ⟨rfl,k,os,rfl⟩
 exact⟨rfl,Lib.below_grow _ _ (Nat.le_refl _) _ _⟩
def atoiA (s:Bs) (r:AV):Prop:=
 match Lib.atoiAll s with
 | .ok v=>r=.ai [.int .i64 v,.lit .nilIface]
 | _=>∃n t p,r=.ai [.int .i64 n,.lit (.iface t p)]
theorem ET (s:Bs) (hs:s.length≤140737488351232):Eng.Spec Tryz.prog 220 [] [.str s] (fun h r _=>h=[]∧atoiA s r):=by
 refine Ck rfl (fun w hA=>?_)
 have hl:(⟨s.toArray⟩:ByteArray).size≤140737488351232:=by simpa[ByteArray.size]using hs
 unfold atoiA
 cases he:Lib.atoiAll s
 ·rename_i v
  refine(Any.strconv_Atoi_ok Tryz.laysC172 ⟨s.toArray⟩ (by omega) v he w).mono ?_
  rintro e w' ⟨rfl,hw⟩
  refine⟨_,rfl,rfl,rfl,?_⟩
  rcases hw with rfl | ⟨t,rfl⟩
  ·exact .refl _ _
  ·exact Lib.bytesWorld_below _ _ _
 ·obtain⟨cs,t,fz,g1,v,rfl,g3⟩:=hA (3,_) (by unfold kN;simp only[List.nil_append,List.cons_append,List.mem_cons];exact .inr (.inl rfl))
  refine(Any.strconv_Atoi_syntax Tryz.laysC172 ⟨s.toArray⟩ (by omega) he v w (cell_of g1) (zb g3)).mono ?_
  rintro e w' ⟨N,rfl,_,_,hb⟩
  exact⟨_,⟨_,_,_,rfl⟩,rfl,rfl,hb⟩
 ·obtain⟨cs,t,fz,g1,v,rfl,g3⟩:=hA (4,_) (by unfold kN;simp only[List.nil_append,List.cons_append,List.mem_cons];exact .inr (.inr (.inl rfl)))
  refine(Any.strconv_Atoi_range Tryz.laysC172 ⟨s.toArray⟩ (by omega) he v w (cell_of g1) (zb g3)).mono ?_
  rintro e w' ⟨N,rfl,_,_,hb⟩
  exact⟨_,⟨_,_,_,rfl⟩,rfl,rfl,hb⟩
theorem TL (s:Bs) (c:UInt8):aO Tryz.prog 173 [.str s,.str [c]] (.int .i64 (Lib.indexByte s c)):=
 uN rfl rfl (fun w=>Tryz.stringslite_Index_one ⟨s.toArray⟩ c w)
def cutP (c:UInt8):Bs→Bs×Bs×Bool
 | []=>([],[],false)
 | x::r=>if x=c then([],r,true)else(x::(cutP c r).1,(cutP c r).2)
theorem wY (c:UInt8):∀s:Bs,(Lib.indexByte s c = -1∧cutP c s=(s,[],false))∨∃j:Nat,j<s.length∧Lib.indexByte s c=(j:Int)∧cutP c s=(s.take j,s.drop (j+1),true)
 | []=>.inl ⟨rfl,rfl⟩
 | x::r=>by
  by_cases hx:x=c
  ·subst hx
   exact .inr ⟨0,by simp,by simp[Lib.indexByte],by simp[cutP]⟩
  ·have hb:(x==c)=false:=by simp[hx]
   rcases wY c r with⟨h1,h2⟩ | ⟨j,h1,h2,h3⟩
   ·refine .inl ⟨by simp[Lib.indexByte,hb,h1],by simp[cutP,hx,h2]⟩
   ·refine .inr ⟨j+1,by simp;omega,?_,by simp[cutP,hx,h3]⟩
    have hne:(Lib.indexByte r c == -1)=false:=by rw[h2];simp
    simp[Lib.indexByte,hb,hne,h2]
def pf (q:Bs×Bs×Bool):AV:=.ai [.str q.1,.str q.2.1,.bool q.2.2]
theorem Ze (s:Bs) (c:UInt8) (hs:s.length≤9223372036854775807):aO Tryz.prog 219 [.str s,.str [c]] (pf (cutP c s)):=by
 refine Cod.Zf (fun E R hN hR=>?_)
 refine wW ?_
 refine aC (TL s c) rfl rfl ?_
 rcases wY c s with⟨h1,h2⟩ | ⟨j,h1,h2,h3⟩
 ·refine aw h1 ?_
  exact hR.ro ⟨rfl,by rw[h2];rfl⟩
 ·refine aw h2 ?_
  exact hR.ro ⟨rfl,by rw[h3];rfl⟩
theorem wZ (s:Bs) (c:UInt8) (hs:s.length≤9223372036854775807):aO Tryz.prog 182 [.str s,.str [c]] (pf (cutP c s)):=by
 refine Cod.ajG (fun E R hN hR=>?_)
 refine wW ?_
 refine aC (Ze s c hs) rfl rfl ?_
 simp(disch:=omega)only[go_sem,simprocAttr,pf]
 exact hR.ro ⟨rfl,rfl⟩
end Go.Proofs.YtoalcafkffmiiaaGreatDoor.Ob
namespace Go.Proofs.YtoalcafkffmiiaaGreatDoor.Ob
open Eng
set_option maxRecDepth 10000
def dB (k:Nat):UInt8:=UInt8.ofNat (48+k)
theorem nf {n:Nat} (h:n<10):Lib.decDigits n=[dB n]:=by rw[Lib.decDigits,dif_pos h];rfl
theorem pq {n:Nat} (h:¬n<10):Lib.decDigits n=Lib.decDigits (n/10)++[dB (n%10)]:=by rw[Lib.decDigits,dif_neg h];rfl
theorem Lh (n:Nat):Lib.decDigits n≠[]:=by
 by_cases h:n<10
 ·rw[nf h];simp
 ·rw[pq h];simp
theorem ss:∀(k n:Nat),n<10^(k+1)↔(Lib.decDigits n).length≤k+1
 | 0,n=>by
  by_cases h:n<10
  ·rw[nf h];simp;omega
  ·rw[pq h]
   have:=List.length_pos_iff.2 (Lh (n/10))
   simp only[List.length_append,List.length_singleton]
   omega
 | k+1,n=>by
  by_cases h:n<10
  ·rw[nf h]
   have:10^1≤10^(k+1+1):=Nat.pow_le_pow_right (by decide) (by omega)
   simp only[List.length_singleton]
   omega
  ·rw[pq h]
   have ih:=ss k (n/10)
   have:n<10^(k+1+1)↔n/10<10^(k+1):=by rw[Nat.div_lt_iff_lt_mul (by decide),Nat.pow_succ 10 (k+1)]
   simp only[List.length_append,List.length_singleton]
   omega
def iL (s:Bs):Option Nat:=
 match Lib.atoiAll s with
 | .ok v=>if 0≤v∧s.length≤9∧Lib.itoa v=s then some v.toNat else none
 | _=>none
theorem tx (n:Int) (h:n≤9223372036854775807) (h0:-9223372036854775808≤n):(Lib.itoa n).length≤20:=by
 unfold Lib.itoa
 split
 ·have:=(ss 18 n.natAbs).1 (by omega)
  simp only[List.length_cons];omega
 ·have:=(ss 18 n.toNat).1 (by omega)
  omega
def numA:Option Nat→AV
 | some n=>.ai [.int .i64 n,.bool true]
 | none=>.ai [.int .i64 0,.bool false]
theorem abT (s:Bs) (hs:s.length≤140737488351232):aO Tryz.prog 183 [.str s] (numA (iL s)):=by
 refine Cod.abU (fun E R hN hR=>?_)
 refine wW ?_
 refine gF (ET s hs) rfl ?_
 rintro h' v as' ⟨rfl,hv⟩
 unfold atoiA at hv
 unfold iL at hR
 cases he:Lib.atoiAll s
 ·rename_i n
  rw[he]at hv hR
  simp only at hv hR
  subst hv
  have hb:=Lib.atoiAll_bounds he
  refine⟨rfl,rfl,?_⟩
  by_cases h1:n<0
  ·rw[if_neg (by omega)]at hR
   refine wW ?_
   refine gG ?_
   exact hR.ro ⟨rfl,rfl⟩
  by_cases h2:s.length≤9
  ·refine wW ?_
   refine gG ?_
   refine l3 (jJ vV (zF n (by omega) (by omega)) vV rfl rfl ?_)
   by_cases h3:Lib.itoa n=s
   ·rw[if_pos ⟨by omega,h2,h3⟩]at hR
    refine aw h3 ?_
    refine hR.ro ⟨rfl,?_⟩
    rw[numA,show((n.toNat:Nat):Int)=n by omega]
   ·rw[if_neg (fun h=>h3 h.2.2)]at hR
    refine aw h3 ?_
    exact hR.ro ⟨rfl,rfl⟩
  ·rw[if_neg (fun h=>h2 h.2.1)]at hR
   refine wW ?_
   refine gG ?_
   exact hR.ro ⟨rfl,rfl⟩
 ·rw[he]at hv hR
  obtain⟨n,t,p,rfl⟩:=hv
  refine⟨rfl,rfl,?_⟩
  refine wW ?_
  refine gG ?_
  exact hR.ro ⟨rfl,rfl⟩
 ·rw[he]at hv hR
  obtain⟨n,t,p,rfl⟩:=hv
  refine⟨rfl,rfl,?_⟩
  refine wW ?_
  refine gG ?_
  exact hR.ro ⟨rfl,rfl⟩
theorem xn (n:Nat) (h:n<10):List.take (n+1-n) (List.drop n [48,49,50,51,52,53,54,55,56,57])=[dB n]:=by
 have:∀m:Fin 10,List.take (m.val+1-m.val) (List.drop m.val [48,49,50,51,52,53,54,55,56,57])=[dB m.val]:=by decide
 exact this ⟨n,h⟩
theorem art:∀(f n:Nat),n≤f→n≤9223372036854775807→aO Tryz.prog 92 [.int .i64 (n:Int)] (.str (Lib.decDigits n)):=by
 intro f
 induction f with
 | zero=>
  intro n hn _
  obtain rfl:n=0:=by omega
  refine Cod.xx (fun E R hN hR=>?_)
  refine wW ?_
  refine gG ?_
  refine hR.ro ⟨rfl,?_⟩
  rw[nf (by omega)];rfl
 | succ f ih=>
  intro n hn hb
  refine Cod.xx (fun E R hN hR=>?_)
  by_cases h:n<10
  ·have:=xn n h
   refine wW ?_
   refine gG ?_
   refine hR.ro ⟨rfl,?_⟩
   rw[nf h,←this]
  ·have:=xn (n%10) (by omega)
   have ih:=ih (n/10) (by omega) (by omega)
   have hl:=tx ((n/10:Nat):Int) (by omega) (by omega)
   rw[Lib.itoa_nonneg]at hl
   have e1:((n:Int)%10+1).toNat=n%10+1:=by omega
   have e2:((n:Int)%10).toNat=n%10:=by omega
   have e3:(n:Int)/10=((n/10:Nat):Int):=by omega
   refine wW ?_
   refine gG ?_
   rw[e1,e2,this,e3]
   refine aC ih rfl rfl ?_
   refine wW ?_
   refine hR.ro ⟨rfl,?_⟩
   rw[pq h]
end Go.Proofs.YtoalcafkffmiiaaGreatDoor.Ob
namespace Go.Proofs.YtoalcafkffmiiaaGreatDoor.Ob
open Eng
set_option maxRecDepth 10000
def bu (k:Int):Bs:=if k=1 then[99,111,109,109,105,116]else if k=2 then[116,114,101,101]else if k=3 then[98,108,111,98]else if k=4 then[116,97,103]else[]
theorem tV (k:Int):aO Tryz.prog 186 [.int .i64 k] (.str (bu k)):=by
 refine Cod.ad1 (fun E R hN hR=>?_)
 unfold bu at hR
 by_cases h1:k=1
 ·subst h1
  refine wW ?_
  exact hR.ro ⟨rfl,rfl⟩
 by_cases h2:k=2
 ·subst h2
  refine wW ?_
  exact hR.ro ⟨rfl,rfl⟩
 by_cases h3:k=3
 ·subst h3
  refine wW ?_
  exact hR.ro ⟨rfl,rfl⟩
 by_cases h4:k=4
 ·subst h4
  refine wW ?_
  exact hR.ro ⟨rfl,rfl⟩
 rw[if_neg h1,if_neg h2,if_neg h3,if_neg h4]at hR
 refine wW ?_
 exact hR.ro ⟨rfl,rfl⟩
theorem ql (k:Int):(bu k).length≤6:=by
 unfold bu
 repeat' (first | (split) | simp)
def fB (k:Int) (d:Bs):AV:=.agg [.int .i64 k,.str d]
def dD (k:Int) (d:Bs):Int:=if bu k=[]then 10 else if 65000<d.length then 2 else 0
theorem Iv (k:Int) (d:Bs) (hd:d.length≤9223372036854775807):aO Tryz.prog 185 [fB k d] (.int .i64 (dD k d)):=by
 refine Cod.Iw (fun E R hN hR=>?_)
 unfold dD at hR
 simp(disch:=omega)only[go_sem,simprocAttr,fB]
 refine aC (tV k) rfl rfl ?_
 by_cases h1:bu k=[]
 ·rw[if_pos h1]at hR
  refine aw h1 ?_
  exact hR.ro ⟨rfl,rfl⟩
 ·rw[if_neg h1]at hR
  by_cases h2:65000<d.length
  ·rw[if_pos h2]at hR
   refine aw h1 ?_
   exact hR.ro ⟨rfl,rfl⟩
  ·rw[if_neg h2]at hR
   refine aw h1 ?_
   exact hR.ro ⟨rfl,rfl⟩
def jA (k:Int) (d:Bs):Bs:=bu k++32::(Lib.itoa d.length++0::d)
def sI (k:Int) (d:Bs):AV:=if dD k d=0 then .ai [.str (jA k d),.int .i64 0]else .ai [.str [],.int .i64 (dD k d)]
theorem M1 (k:Int) (d:Bs) (hd:d.length≤9223372036854775807):aO Tryz.prog 134 [fB k d] (sI k d):=by
 refine Cod.M3 (fun E R hN hR=>?_)
 unfold sI at hR
 simp(disch:=omega)only[go_sem,simprocAttr,fB]
 refine aC (Iv k d hd) rfl rfl ?_
 by_cases h:dD k d=0
 ·rw[if_pos h]at hR
  have hl:d.length≤65000:=by
   unfold dD at h
   split at h
   ·cases h
   ·split at h
    ·cases h
    ·omega
  have hnl:=ql k
  have hil:=tx d.length (by omega) (by omega)
  have hi:=zF d.length (by omega) (by omega)
  refine aw h ?_
  refine aC (tV k) rfl rfl ?_
  refine wW ?_
  refine aC hi rfl rfl ?_
  refine wW ?_
  refine hR.ro ⟨rfl,?_⟩
  simp[jA]
 ·rw[if_neg h]at hR
  refine aw h ?_
  exact hR.ro ⟨rfl,rfl⟩
def p4 (k:Int) (d:Bs):AV:=if dD k d=0 then .ai [.str (Sh.bZ (Sh.fg (jA k d))),.int .i64 0]else .ai [.str [],.int .i64 (dD k d)]
theorem wL {k:Int} {d:Bs} (h:dD k d=0):d.length≤65000:=by
 unfold dD at h
 split at h
 ·cases h
 ·split at h
  ·cases h
  ·omega
theorem amX (k:Int) {d:Bs} (h:d.length≤65000):(jA k d).length≤66000:=by
 have hnl:=ql k
 have hil:=tx d.length (by omega) (by omega)
 unfold jA
 simp only[List.length_append,List.length_cons]
 omega
theorem y9 (k:Int) (d:Bs) (hd:d.length≤9223372036854775807):aO Tryz.prog 82 [fB k d] (p4 k d):=by
 refine Cod.adC (fun E R hN hR=>?_)
 have he:=M1 k d hd
 unfold sI at he
 unfold p4 at hR
 by_cases h:dD k d=0
 ·rw[if_pos h]at hR he
  have hl:=amX k (wL h)
  have hs:=Sh.uT (jA k d) (by omega)
  have hh:=Sh.nn (Sh.fg (jA k d)) (by rw[Sh.ajZ];omega)
  simp(disch:=omega)only[go_sem,simprocAttr,fB]
  refine aC he rfl rfl ?_
  refine wW ?_
  refine aC hs rfl rfl ?_
  refine wW ?_
  refine aC hh rfl rfl ?_
  refine wW ?_
  exact hR.ro ⟨rfl,rfl⟩
 ·rw[if_neg h]at hR he
  simp(disch:=omega)only[go_sem,simprocAttr,fB]
  refine aC he rfl rfl ?_
  refine aw h ?_
  exact hR.ro ⟨rfl,rfl⟩
end Go.Proofs.YtoalcafkffmiiaaGreatDoor.Ob
namespace Go.Proofs.YtoalcafkffmiiaaGreatDoor.Ob
open Eng
set_option maxRecDepth 10000
def qq (o:Option Nat):Int:=match o with
 | some n=>n
 | none=>-1
end Go.Proofs.YtoalcafkffmiiaaGreatDoor.Ob
namespace Go.Proofs.YtoalcafkffmiiaaGreatDoor.Ob
open Eng
set_option maxRecDepth 10000
theorem aiS (k:Int) (h0:-9223372036854775808≤k) (h1:k≤9223372036854775807):aO Tryz.prog 17 [.int .i64 k] (.str (bu k)):=by
 refine Cod.aiT (fun E R hN hR=>?_)
 unfold bu at hR
 by_cases a1:k<1
 ·rw[if_neg (by omega),if_neg (by omega),if_neg (by omega),if_neg (by omega)]at hR
  refine wW ?_
  refine gG ?_
  exact hR.ro ⟨rfl,rfl⟩
 by_cases a2:4<k
 ·rw[if_neg (by omega),if_neg (by omega),if_neg (by omega),if_neg (by omega)]at hR
  refine wW ?_
  refine gG ?_
  exact hR.ro ⟨rfl,rfl⟩
 have hk:k=1∨k=2∨k=3∨k=4:=by omega
 rcases hk with rfl | rfl | rfl | rfl
 all_goals
  refine bc @Sh.qo @Sh.qp ?_
  refine ft @Sh.qo @Sh.qp ?_
  first | exact hR.ro ⟨rfl,rfl⟩ | (exact hR.wk (h':=[]) (ar':=[.undef]) rfl (.le vV) ⟨rfl,rfl⟩)
def jT (s:Bs):Int:=if bu 1=s then 1 else if bu 2=s then 2 else if bu 3=s then 3 else if bu 4=s then 4 else 0
theorem XW (s:Bs) (k:Nat) (h1:1≤k) (h4:k≤4) (hno:∀j:Nat,1≤j→j<k→bu j≠s) (hk:bu k=s):jT s=k:=by
 unfold jT
 have hc:k=1∨k=2∨k=3∨k=4:=by omega
 rcases hc with rfl | rfl | rfl | rfl
 ·rw[if_pos (show bu 1=s from hk)];rfl
 ·rw[if_neg (show bu 1≠s from hno 1 (by omega) (by omega)),if_pos (show bu 2=s from hk)];rfl
 ·rw[if_neg (show bu 1≠s from hno 1 (by omega) (by omega)),if_neg (show bu 2≠s from hno 2 (by omega) (by omega)),if_pos (show bu 3=s from hk)];rfl
 ·rw[if_neg (show bu 1≠s from hno 1 (by omega) (by omega)),if_neg (show bu 2≠s from hno 2 (by omega) (by omega)),if_neg (show bu 3≠s from hno 3 (by omega) (by omega)),if_pos (show bu 4=s from hk)];rfl
theorem XY (s:Bs) (hno:∀j:Nat,1≤j→j<5→bu j≠s):jT s=0:=by
 unfold jT
 rw[if_neg (show bu 1≠s from hno 1 (by omega) (by omega)),if_neg (show bu 2≠s from hno 2 (by omega) (by omega)),if_neg (show bu 3≠s from hno 3 (by omega) (by omega)),if_neg (show bu 4≠s from hno 4 (by omega) (by omega))]
theorem Yc (s:Bs):aO Tryz.prog 184 [.str s] (.int .i64 (jT s)):=by
 refine Cod.Yd (fun E R hN hR=>?_)
 refine wW ?_
 refine bm hN (fun k:Nat=>⟨[(0,.str s),(3,.int .i64 k)],[]⟩) (fun k=>1≤k∧k≤5∧∀j:Nat,1≤j→j<k→bu j≠s) (fun k=>5-k) 1 (.le vV) ⟨by omega,by omega,fun j h1 h2=>by omega⟩ ?_
 rintro k R1 ⟨h1,h5,hno⟩ hR1
 by_cases hlt:k≤4
 ·have hn:=tV k
  refine wW ?_
  refine aC hn rfl rfl ?_
  by_cases he:bu k=s
  ·refine aw he ?_
   exact hR.ro ⟨rfl,by rw[XW s k h1 hlt hno he]⟩
  ·refine aw he ?_
   refine hR1 (k+1) _ (by omega) ⟨by omega,by omega,fun j g1 g2=>?_⟩ (.le vV)
   by_cases hj:j=k
   ·subst hj;exact he
   ·exact hno j g1 (by omega)
 ·obtain rfl:k=5:=by omega
  refine wW ?_
  exact hR.ro ⟨rfl,by rw[XY s hno]⟩
theorem pg (c:UInt8):∀s:Bs,(cutP c s).1.length≤s.length∧(cutP c s).2.1.length≤s.length
 | []=>by simp[cutP]
 | x::r=>by
  have:=pg c r
  unfold cutP
  split
  ·simp
  ·simp only[List.length_cons];omega
def lM (s:Bs):Int×Bs×Int:=
 if(cutP 0 s).2.2=false∨(cutP 32 (cutP 0 s).1).2.2=false∨iL (cutP 32 (cutP 0 s).1).2.1=none then(0,[],3)
 else if jT (cutP 32 (cutP 0 s).1).1=0 then(0,[],10)
 else if 65000<qq (iL (cutP 32 (cutP 0 s).1).2.1)then(0,[],2)
 else if((cutP 0 s).2.1.length:Int)<qq (iL (cutP 32 (cutP 0 s).1).2.1)then(0,[],6)
 else if qq (iL (cutP 32 (cutP 0 s).1).2.1)<((cutP 0 s).2.1.length:Int)then(0,[],3)
 else(jT (cutP 32 (cutP 0 s).1).1,(cutP 0 s).2.1,0)
def fO (x:Int×Bs×Int):AV:=.ai [fB x.1 x.2.1,.int .i64 x.2.2]
theorem LG (s:Bs) (hs:s.length≤140737488351232):aO Tryz.prog 133 [.str s] (fO (lM s)):=by
 refine Cod.LH (fun E R hN hR=>?_)
 have hl0:=pg 0 s
 have hc0:=wZ s 0 (by omega)
 unfold lM at hR
 generalize hq:cutP 0 s=q at *
 obtain⟨head,data,ok⟩:=q
 simp only at *
 have hl1:=pg 32 head
 have hc1:=wZ head 32 (by omega)
 generalize hq1:cutP 32 head=q1 at *
 obtain⟨name,size,blank⟩:=q1
 simp only at *
 have hn:=abT size (by omega)
 have hk:=Yc name
 rw[pf]at hc0 hc1
 simp only at hc0 hc1
 refine wW ?_
 refine aC hc0 rfl rfl ?_
 refine wW ?_
 refine aC hc1 rfl rfl ?_
 refine wW ?_
 refine aC hn rfl (by cases iL size<;>rfl) ?_
 cases ok with
 | false=>
  rw[if_pos (.inl rfl)]at hR
  cases hO:iL size with
  | none=>
   simp(disch:=omega)only[go_sem,simprocAttr,numA]
   refine gG ?_
   exact hR.ro ⟨rfl,rfl⟩
  | some n=>
   simp(disch:=omega)only[go_sem,simprocAttr,numA]
   refine gG ?_
   exact hR.ro ⟨rfl,rfl⟩
 | true=>
  cases blank with
  | false=>
   rw[if_pos (.inr (.inl rfl))]at hR
   cases hO:iL size with
   | none=>
    simp(disch:=omega)only[go_sem,simprocAttr,numA]
    refine gG ?_
    exact hR.ro ⟨rfl,rfl⟩
   | some n=>
    simp(disch:=omega)only[go_sem,simprocAttr,numA]
    refine gG ?_
    exact hR.ro ⟨rfl,rfl⟩
  | true=>
   cases hO:iL size with
   | none=>
    rw[if_pos (.inr (.inr hO))]at hR
    simp(disch:=omega)only[go_sem,simprocAttr,numA]
    refine gG ?_
    exact hR.ro ⟨rfl,rfl⟩
   | some n=>
    rw[if_neg (by rw[hO];simp),hO,qq]at hR
    simp(disch:=omega)only[go_sem,simprocAttr,numA]
    refine aC hk rfl rfl ?_
    by_cases h1:jT name=0
    ·rw[if_pos h1]at hR
     refine aw h1 ?_
     exact hR.ro ⟨rfl,rfl⟩
    rw[if_neg h1]at hR
    by_cases h2:65000<(n:Int)
    ·rw[if_pos h2]at hR
     refine aw h1 ?_
     exact hR.ro ⟨rfl,rfl⟩
    rw[if_neg h2]at hR
    by_cases h3:(data.length:Int)<n
    ·rw[if_pos h3]at hR
     refine aw h1 ?_
     exact hR.ro ⟨rfl,rfl⟩
    rw[if_neg h3]at hR
    by_cases h4:(n:Int)<data.length
    ·rw[if_pos h4]at hR
     refine aw h1 ?_
     exact hR.ro ⟨rfl,rfl⟩
    rw[if_neg h4]at hR
    refine aw h1 ?_
    refine aC hk rfl rfl ?_
    refine wW ?_
    exact hR.ro ⟨rfl,rfl⟩
end Go.Proofs.YtoalcafkffmiiaaGreatDoor.Ob
