/- The proof, part 21 of 25. -/
import Derived.Test.YtjoefngnjoofeaaGreatDoorPackBuildsS
import Derived.Test.YtjoefngnjoofeaaGreatDoorPackBuildsT
import Derived.Lib.ItoaMem
import Derived.Lib.AppendIntMem
set_option linter.all false
namespace Go.Proofs.YtjoefngnjoofeaaGreatDoor.Pk
open Eng
set_option maxRecDepth 10000
theorem ay7 {P:Program} {name:String} {g:Nat} {k:IntKind} {zs:List Int} {w:World} {cs:Array Value} {t:TypeId} {fz:Nat×Nat} (hg:P.globalNamed name=some g) (hw:w.heap[g]?=some (.cells cs t fz)) (he:cs=(zs.map fun z=>Value.int k z).toArray):Lib.TabIs P w name k zs:=by
 unfold Lib.TabIs World.var?
 rw[hg]
 simp only[Option.bind_some,hw,he]
theorem Yq (n:Int) (h0:-9223372036854775808≤n) (h1:n≤9223372036854775807):aZ Tryz.prog 100 [.int .i64 n] (.str (Lib.itoa n)):=by
 refine aye rfl rfl (fun w hA=>?_)
 obtain⟨cs,t,fz,g1,g2⟩:=hA (0,_) (by unfold pH;simp only[List.nil_append,List.cons_append,List.mem_cons];exact .inl rfl)
 refine(Any.strconv_Itoa Tryz.laysM171 n h0 h1 w (ay7 (by kernel_rfl) g1 g2)).mono ?_
 rintro e w' ⟨rfl,k,os,rfl⟩
 exact⟨rfl,Lib.below_grow _ _ (Nat.le_refl _) _ _⟩
def dB (k:Nat):UInt8:=UInt8.ofNat (48+k)
theorem nj {n:Nat} (h:n<10):Lib.decDigits n=[dB n]:=by rw[Lib.decDigits,dif_pos h];rfl
theorem o7 {n:Nat} (h:¬n<10):Lib.decDigits n=Lib.decDigits (n/10)++[dB (n%10)]:=by rw[Lib.decDigits,dif_neg h];rfl
theorem Kj (n:Nat):Lib.decDigits n≠[]:=by
 by_cases h:n<10
 ·rw[nj h];simp
 ·rw[o7 h];simp
theorem r6:∀(k n:Nat),n<10^(k+1)↔(Lib.decDigits n).length≤k+1
 | 0,n=>by
  by_cases h:n<10
  ·rw[nj h];simp;omega
  ·rw[o7 h]
   have:=List.length_pos_iff.2 (Kj (n/10))
   simp only[List.length_append,List.length_singleton]
   omega
 | k+1,n=>by
  by_cases h:n<10
  ·rw[nj h]
   have:10^1≤10^(k+1+1):=Nat.pow_le_pow_right (by decide) (by omega)
   simp only[List.length_singleton]
   omega
  ·rw[o7 h]
   have ih:=r6 k (n/10)
   have:n<10^(k+1+1)↔n/10<10^(k+1):=by rw[Nat.div_lt_iff_lt_mul (by decide),Nat.pow_succ 10 (k+1)]
   simp only[List.length_append,List.length_singleton]
   omega
theorem pU (n:Int) (h:n≤9223372036854775807) (h0:-9223372036854775808≤n):(Lib.itoa n).length≤20:=by
 unfold Lib.itoa
 split
 ·have:=(r6 18 n.natAbs).1 (by omega)
  simp only[List.length_cons];omega
 ·have:=(r6 18 n.toNat).1 (by omega)
  omega
def iO (k:Int):Bs:=if k=1 then[99,111,109,109,105,116]else if k=2 then[116,114,101,101]else if k=3 then[98,108,111,98]else if k=4 then[116,97,103]else[]
theorem zY (k:Int):aZ Tryz.prog 61 [.int .i64 k] (.str (iO k)):=by
 refine Cod.aco (fun E R hN hR=>?_)
 unfold iO at hR
 by_cases h1:k=1
 ·subst h1
  refine wW ?_
  exact hR.ro ⟨rfl,rfl⟩
 by_cases h2:k=2
 ·subst h2
  refine wW ?_
  exact hR.ro ⟨rfl,rfl⟩
 by_cases h3:k=3
 ·subst h3
  refine wW ?_
  exact hR.ro ⟨rfl,rfl⟩
 by_cases h4:k=4
 ·subst h4
  refine wW ?_
  exact hR.ro ⟨rfl,rfl⟩
 rw[if_neg h1,if_neg h2,if_neg h3,if_neg h4]at hR
 refine wW ?_
 exact hR.ro ⟨rfl,rfl⟩
theorem tu (k:Int):(iO k).length≤6:=by
 unfold iO
 repeat' (first | (split) | simp)
def fO (k:Int) (d:Bs):AV:=.agg [.int .i64 k,.str d]
def dz (k:Int) (d:Bs):Int:=if iO k=[]then 10 else if 65000<d.length then 2 else 0
theorem wL (k:Int) (d:Bs) (hd:d.length≤9223372036854775807):aZ Tryz.prog 35 [fO k d] (.int .i64 (dz k d)):=by
 refine Cod.abS (fun E R hN hR=>?_)
 unfold dz at hR
 simp(disch:=omega)only[go_sem,simprocAttr,fO]
 refine aG (zY k) rfl rfl ?_
 by_cases h1:iO k=[]
 ·rw[if_pos h1]at hR
  refine aw h1 ?_
  exact hR.ro ⟨rfl,rfl⟩
 ·rw[if_neg h1]at hR
  by_cases h2:65000<d.length
  ·rw[if_pos h2]at hR
   refine aw h1 ?_
   exact hR.ro ⟨rfl,rfl⟩
  ·rw[if_neg h2]at hR
   refine aw h1 ?_
   exact hR.ro ⟨rfl,rfl⟩
def eO (k:Int) (d:Bs):Bs:=iO k++32::(Lib.itoa d.length++0::d)
def sg (k:Int) (d:Bs):AV:=if dz k d=0 then .ak [.str (eO k d),.int .i64 0]else .ak [.str [],.int .i64 (dz k d)]
theorem MG (k:Int) (d:Bs) (hd:d.length≤9223372036854775807):aZ Tryz.prog 67 [fO k d] (sg k d):=by
 refine Cod.ab0 (fun E R hN hR=>?_)
 unfold sg at hR
 simp(disch:=omega)only[go_sem,simprocAttr,fO]
 refine aG (wL k d hd) rfl rfl ?_
 by_cases h:dz k d=0
 ·rw[if_pos h]at hR
  have hl:d.length≤65000:=by
   unfold dz at h
   split at h
   ·cases h
   ·split at h
    ·cases h
    ·omega
  have hnl:=tu k
  have hil:=pU d.length (by omega) (by omega)
  have hi:=Yq d.length (by omega) (by omega)
  refine aw h ?_
  refine aG (zY k) rfl rfl ?_
  refine wW ?_
  refine aG hi rfl rfl ?_
  refine wW ?_
  refine hR.ro ⟨rfl,?_⟩
  simp[eO]
 ·rw[if_neg h]at hR
  refine aw h ?_
  exact hR.ro ⟨rfl,rfl⟩
def sX (k:Int) (d:Bs):AV:=if dz k d=0 then .ak [.str (Sh.di (Sh.cF (eO k d))),.int .i64 0]else .ak [.str [],.int .i64 (dz k d)]
theorem wK {k:Int} {d:Bs} (h:dz k d=0):d.length≤65000:=by
 unfold dz at h
 split at h
 ·cases h
 ·split at h
  ·cases h
  ·omega
theorem Dm (k:Int) {d:Bs} (h:d.length≤65000):(eO k d).length≤66000:=by
 have hnl:=tu k
 have hil:=pU d.length (by omega) (by omega)
 unfold eO
 simp only[List.length_append,List.length_cons]
 omega
theorem Su (k:Int) (d:Bs) (hd:d.length≤9223372036854775807):aZ Tryz.prog 39 [fO k d] (sX k d):=by
 refine Cod.ab8 (fun E R hN hR=>?_)
 have he:=MG k d hd
 unfold sg at he
 unfold sX at hR
 by_cases h:dz k d=0
 ·rw[if_pos h]at hR he
  have hl:=Dm k (wK h)
  have hs:=Sh.qK (eO k d) (by omega)
  have hh:=Sh.yt (Sh.cF (eO k d)) (by rw[Sh.gH];omega)
  simp(disch:=omega)only[go_sem,simprocAttr,fO]
  refine aG he rfl rfl ?_
  refine wW ?_
  refine aG hs rfl rfl ?_
  refine wW ?_
  refine aG hh rfl rfl ?_
  refine wW ?_
  exact hR.ro ⟨rfl,rfl⟩
 ·rw[if_neg h]at hR he
  simp(disch:=omega)only[go_sem,simprocAttr,fO]
  refine aG he rfl rfl ?_
  refine aw h ?_
  exact hR.ro ⟨rfl,rfl⟩
def sa (c:UInt8):Int:=if 48≤c.toNat∧c.toNat≤57 then(c.toNat:Int)-48 else if 97≤c.toNat∧c.toNat≤102 then(c.toNat:Int)-97+10 else -1
theorem DD (c:UInt8):aZ Tryz.prog 68 [.int .u8 (c.toNat:Int)] (.int .i64 (sa c)):=by
 refine Cod.azG (fun E R hN hR=>?_)
 have hc:=c.toNat_lt
 unfold sa at hR
 by_cases h1:48≤c.toNat
 ·by_cases h2:c.toNat≤57
  ·rw[if_pos ⟨h1,h2⟩]at hR
   refine wW ?_
   refine gG ?_
   exact hR.ro ⟨rfl,rfl⟩
  ·rw[if_neg (by omega)]at hR
   by_cases h3:97≤c.toNat
   ·by_cases h4:c.toNat≤102
    ·rw[if_pos ⟨h3,h4⟩]at hR
     refine wW ?_
     refine gG ?_
     exact hR.ro ⟨rfl,rfl⟩
    ·rw[if_neg (by omega)]at hR
     refine wW ?_
     refine gG ?_
     exact hR.ro ⟨rfl,rfl⟩
   ·rw[if_neg (by omega)]at hR
    refine wW ?_
    refine gG ?_
    exact hR.ro ⟨rfl,rfl⟩
 ·rw[if_neg (by omega),if_neg (by omega)]at hR
  refine wW ?_
  refine gG ?_
  exact hR.ro ⟨rfl,rfl⟩
theorem xi:∀k,k<16→sa (Sh.gT.getD k 0)=(k:Int):=by decide +kernel
theorem PY (t:Bs):∀k,k<t.length→(Sh.di t).getD (2*k) 0=Sh.gT.getD ((t.getD k 0).toNat/16) 0∧(Sh.di t).getD (2*k+1) 0=Sh.gT.getD ((t.getD k 0).toNat%16) 0:=by
 induction t with
 | nil=>intro k h;simp at h
 | cons c r ih=>
  intro k h
  have e:Sh.di (c::r)=Sh.gT.getD (c.toNat/16) 0::Sh.gT.getD (c.toNat%16) 0::Sh.di r:=rfl
  rw[e]
  cases k with
  | zero=>exact⟨rfl,rfl⟩
  | succ k=>
   have:=ih k (by simpa using h)
   rw[show 2*(k+1)=2*k+1+1 by omega]
   simpa using this
theorem Qd:∀a:Nat,a<16→∀b:Nat,b<16→bits .or .i64 (IntKind.i64.wrap ((a:Int)*2^min 4 64)) (b:Int)=((16*a+b:Nat):Int):=by decide +kernel
theorem az2 (t:Bs) (ht:t.length≤1000):aZ Tryz.prog 40 [.str (Sh.di t)] (.ak [.str t,.bool true]):=by
 refine Cod.az3 (fun E R hN hR=>?_)
 have hl:=Sh.sQ t
 have hg:=PY t
 generalize Sh.di t=s at *
 refine wW ?_
 refine aK hN (fun k:Nat=>⟨[(0,.str s),(4,.sl 178037 0 k),(5,.int .i64 ((2*k:Nat):Int))],[(178037,.arr 1 ((t.take k).map ub))]⟩) (fun k=>k≤t.length) (fun k=>t.length-k) 0 (.nil 4 178037 1 rfl (.le (by simp(disch:=omega)only[go_sem,simprocAttr,List.take_zero,List.map_nil]))) (by omega) ?_
 rintro k R1 hk hR1
 have htl:(t.take k).length=k:=by rw[List.length_take];omega
 by_cases hlt:k<t.length
 ·obtain⟨g1,g2⟩:=hg k hlt
  have hc:=(t.getD k 0).toNat_lt
  have d1:=DD (s.getD (2*k) 0)
  have d2:=DD (s.getD (2*k+1) 0)
  rw[g1,xi _ (by omega)]at d1
  rw[g2,xi _ (by omega)]at d2
  have ho:=Qd ((t.getD k 0).toNat/16) (by omega) ((t.getD k 0).toNat%16) (by omega)
  rw[show 16*((t.getD k 0).toNat/16)+(t.getD k 0).toNat%16=(t.getD k 0).toNat by omega]at ho
  have ei1:(2*(k:Int)).toNat=2*k:=by omega
  have ei2:(2*(k:Int)+1).toNat=2*k+1:=by omega
  have htk:=gy t 0 hlt
  refine cM hl ei1 ei2 g1 g2 ?_
  refine aG d1 rfl rfl ?_
  refine wW ?_
  refine aG d2 rfl rfl ?_
  refine aw ho ?_
  refine gG ?_
  rw[UInt8.ofNat_toNat]
  exact hR1 (k+1) _ (by omega) (by omega) (.le (by rw[htk,show 2*(k+1)=2*k+2 by omega];exact vV))
 ·obtain rfl:k=t.length:=by omega
  rw[List.take_of_length_le (Nat.le_refl _)]
  refine aw hl ?_
  exact hR.ro ⟨rfl,rfl⟩
end Go.Proofs.YtjoefngnjoofeaaGreatDoor.Pk
