/- The proof, part 27 of 43. -/
import Derived.Test.YtoalcafkffmiiaaGreatDoorOdbShadowsP
import Derived.Test.YtoalcafkffmiiaaGreatDoorOdbShadowsQ
import Derived.Test.YtoalcafkffmiiaaGreatDoorOdbShadowsT
import Derived.Lib.AtoiTie
import Derived.Lib.ItoaMem
import Derived.Lib.AppendIntMem
import Derived.Lib.AtoiErrMem
set_option linter.all false
namespace Go.Proofs.YtoalcafkffmiiaaGreatDoor.Ob
open Eng
set_option maxRecDepth 10000
abbrev Bs:=List UInt8
theorem awI {P:Program} {name:String} {g:Nat} {k:IntKind} {zs:List Int} {w:World} {cs:Array Value} {t:TypeId} {fz:Nat×Nat} (hg:P.globalNamed name=some g) (hw:w.heap[g]?=some (.cells cs t fz)) (he:cs=(zs.map λz=>Value.int k z).toArray):Lib.TabIs P w name k zs:=by
 unfold Lib.TabIs World.var?;rw[hg];simp only[aDc,hw,he]
theorem cell_of {w:World} {g:Nat} {v:Value} {t:TypeId} {fz:Nat×Nat} (hw:w.heap[g]?=some (.cells #[v] t fz)):w.cell? ⟨g,0,none⟩=some v:=by
 simp[World.cell?,hw]
theorem zh {v:Value} (h:isIfV v=true):v=.nilIface\/∃t p,v=.iface t p:=by
 cases v<;>simp[isIfV]at h
 ·exact .inr ⟨_,_,rfl⟩
 ·exact .inl rfl
theorem zK (n:Int) (h0:-9223372036854775808<=n) (h1:n<=9223372036854775807):aJ Tryz.prog 187 [.int .i64 n] (.str (Lib.itoa n)):=by
 refine uR rfl rfl (λw hA=>?_);obtain⟨cs,t,fz,g1,g2⟩:=hA (5,_) (by unfold ln;simp only[aBQ,aBA,aBo];exact .inl rfl);refine(Any.strconv_Itoa Tryz.laysM171 n h0 h1 w (awI (by kernel_rfl) g1 g2)).mono ?_;rintro e w' ⟨rfl,k,os,rfl⟩;exact⟨rfl,Lib.below_grow _ _ (aA9 _) _ _⟩
def atoiA (s:Bs) (r:AV):Prop:=
 match Lib.atoiAll s with
 | .ok v=>r=.ai [.int .i64 v,.lit .nilIface]
 | _=>∃n t p,r=.ai [.int .i64 n,.lit (.iface t p)]
theorem Gf (s:Bs) (hs:s.length<=140737488351232):Eng.Spec Tryz.prog 220 [] [.str s] (λh r _=>h=[]/\atoiA s r):=by
 refine Dz rfl (λw hA=>?_);have hl:(⟨s.toArray⟩:ByteArray).size<=140737488351232:=by simpa[ByteArray.size]using hs
 unfold atoiA;cases he:Lib.atoiAll s
 ·rename_i v;refine(Any.strconv_Atoi_ok Tryz.laysC172 ⟨s.toArray⟩ aA4 v he w).mono ?_;rintro e w' ⟨rfl,hw⟩;refine⟨_,rfl,rfl,rfl,?_⟩;rcases hw with rfl | ⟨t,rfl⟩
  ·exact .refl _ _
  ·exact Lib.bytesWorld_below _ _ _
 ·obtain⟨cs,t,fz,g1,v,rfl,g3⟩:=hA (3,_) (by unfold ln;simp only[aBQ,aBA,aBo];exact .inr (.inl rfl));refine(Any.strconv_Atoi_syntax Tryz.laysC172 ⟨s.toArray⟩ aA4 he v w (cell_of g1) (zh g3)).mono ?_;rintro e w' ⟨N,rfl,_,_,hb⟩;exact⟨_,⟨_,_,_,rfl⟩,rfl,rfl,hb⟩
 ·obtain⟨cs,t,fz,g1,v,rfl,g3⟩:=hA (4,_) (by unfold ln;simp only[aBQ,aBA,aBo];exact .inr (.inr (.inl rfl)));refine(Any.strconv_Atoi_range Tryz.laysC172 ⟨s.toArray⟩ aA4 he v w (cell_of g1) (zh g3)).mono ?_;rintro e w' ⟨N,rfl,_,_,hb⟩;exact⟨_,⟨_,_,_,rfl⟩,rfl,rfl,hb⟩
theorem Tt (s:Bs) (c:UInt8):aJ Tryz.prog 173 [.str s,.str [c]] (.int .i64 (Lib.indexByte s c)):=
 uS rfl rfl (λw=>Tryz.stringslite_Index_one ⟨s.toArray⟩ c w)
def cutP (c:UInt8):Bs->Bs×Bs×Bool
 | []=>([],[],false)
 | x::r=>if x=c then([],r,true)else(x::(cutP c r).1,(cutP c r).2)
theorem pf (c:UInt8):∀s:Bs,(Lib.indexByte s c = -1/\cutP c s=(s,[],false))\/∃j:Nat,j<s.length/\Lib.indexByte s c=(j:Int)/\cutP c s=(s.take j,s.drop (j+1),true)
 | []=>.inl ⟨rfl,rfl⟩
 | x::r=>by
  by_cases hx:x=c
  ·subst hx;exact .inr ⟨0,by simp,by simp[Lib.indexByte],by simp[cutP]⟩
  ·have hb:(x==c)=false:=by simp[hx]
   rcases pf c r with⟨h1,h2⟩ | ⟨j,h1,h2,h3⟩
   ·refine .inl ⟨by simp[Lib.indexByte,hb,h1],by simp[cutP,hx,h2]⟩
   ·refine .inr ⟨j+1,by simp;omega,?_,by simp[cutP,hx,h3]⟩;have hne:(Lib.indexByte r c == -1)=false:=by rw[h2];simp
    simp[Lib.indexByte,hb,hne,h2]
def pd (q:Bs×Bs×Bool):AV:=.ai [.str q.1,.str q.2.1,.bool q.2.2]
theorem YX (s:Bs) (c:UInt8) (hs:s.length<=9223372036854775807):aJ Tryz.prog 219 [.str s,.str [c]] (pd (cutP c s)):=by
 refine Cod.YY (λE R hN hR=>?_);refine wW ?_;refine aw (Tt s c) rfl rfl ?_;rcases pf c s with⟨h1,h2⟩ | ⟨j,h1,h2,h3⟩
 ·refine au h1 ?_;exact hR.ro ⟨rfl,by rw[h2];rfl⟩
 ·refine au h2 ?_;exact hR.ro ⟨rfl,by rw[h3];rfl⟩
theorem xl (s:Bs) (c:UInt8) (hs:s.length<=9223372036854775807):aJ Tryz.prog 182 [.str s,.str [c]] (pd (cutP c s)):=by
 refine Cod.atG (λE R hN hR=>?_);refine wW ?_;refine aw (YX s c hs) rfl rfl ?_;simp(disch:=omega)only[go_sem,simprocAttr,pd];exact hR.ro ⟨rfl,rfl⟩
theorem u0 {α:Type} (d:α):∀(l:List α) {k:Nat},k<l.length->l.take (k+1)=l.take k++[l.getD k d]
 | [],k,h=>by simp at h
 | x::r,0,h=>by simp
 | x::r,k+1,h=>by
  rw[aBR,u0 d r (by simpa using h)];simp
theorem zm {c:UInt8}:∀{s:Bs},c∉s->Lib.indexByte s c = -1
 | [],_=>rfl
 | x::r,h=>by
  simp only[aBo,not_or]at h;have hb:(x==c)=false:=by simp only[beq_eq_false_iff_ne];exact λe=>h.1 e.symm
  simp[Lib.indexByte,hb,zm h.2]
theorem zl {c:UInt8}:∀{s:Bs} {k:Nat},k<s.length->s.getD k 0=c->c∉s.take k->Lib.indexByte s c=(k:Int)
 | [],_,h,_,_=>by simp at h
 | x::r,0,_,h,_=>by
  have h:x=c:=by simpa using h
  simp[Lib.indexByte,h]
 | x::r,k+1,h1,h2,h3=>by
  simp only[aBR,aBo,not_or]at h3;have hb:(x==c)=false:=by simp only[beq_eq_false_iff_ne];exact λe=>h3.1 e.symm
  have ih:=zl (s:=r) (k:=k) (by simpa using h1) (by simpa using h2) h3.2;have hne:(Lib.indexByte r c == -1)=false:=by rw[ih];simp
  simp[Lib.indexByte,hb,hne,ih]
theorem yh (s:Bs) (c:UInt8) (hs:s.length<=9223372036854775807):aJ Tryz.prog 148 [.str s,.int .u8 (c.toNat:Int)] (.int .i64 (Lib.indexByte s c)):=by
 refine Cod.find_spec (λE R hN hR=>?_);refine wW ?_;refine aZ hN (λk:Nat=>⟨[(0,.str s),(1,.int .u8 (c.toNat:Int)),(5,.int .i64 k)],[]⟩) (λk=>k<=s.length/\c∉s.take k) (λk=>s.length-k) 0 (.le vV) (by simp) ?_;rintro k R1 ⟨hk,hno⟩ hR1;by_cases hl:k<s.length
 ·have htk:=u0 0 s hl;refine wW ?_;refine nu (λhe=>?_) (λhe=>?_)
  ·refine wW ?_;refine hR.ro ⟨rfl,?_⟩;have hx:s.getD k 0=c:=UInt8.toNat.inj aA4;rw[zl hl hx hno]
  ·refine wW ?_;refine hR1 (k+1) _ aA4 ⟨aA4,?_⟩ (.le vV);rw[htk];simp only[aBz,aBs,not_or];exact⟨hno,λe=>he (by rw[<-e])⟩
 ·obtain rfl:k=s.length:=aA4;rw[aA7 (aA9 _)]at hno;refine wW ?_;exact hR.ro ⟨rfl,by rw[zm hno]⟩
end Go.Proofs.YtoalcafkffmiiaaGreatDoor.Ob
namespace Go.Proofs.YtoalcafkffmiiaaGreatDoor.Ob
open Eng
set_option maxRecDepth 10000
def dB (k:Nat):UInt8:=UInt8.ofNat (48+k)
theorem fK {n:Nat} (h:n<10):Lib.decDigits n=[dB n]:=by rw[Lib.decDigits,dif_pos h];rfl
theorem jB {n:Nat} (h:¬n<10):Lib.decDigits n=Lib.decDigits (n/10)++[dB (n%10)]:=by rw[Lib.decDigits,dif_neg h];rfl
theorem nj {k:Nat} (h:k<10):(dB k).toNat=48+k:=by
 unfold dB;rw[aCi];omega
theorem pr (n:Nat):Lib.decDigits n≠[]:=by
 by_cases h:n<10
 ·rw[fK h];simp
 ·rw[jB h];simp
theorem ss:∀(f n:Nat),n<=f->∀b∈Lib.decDigits n,48<=b.toNat/\b.toNat<=57
 | 0,n,hf,b,hb=>by
  obtain rfl:n=0:=aA4;rw[fK aA4]at hb
  simp at hb;subst hb;decide
 | f+1,n,hf,b,hb=>by
  by_cases h:n<10
  ·rw[fK h]at hb;simp at hb;subst hb;rw[nj h];omega
  ·rw[jB h]at hb;rcases aBz.1 hb with hb | hb
   ·exact ss f (n/10) aA4 b hb
   ·simp at hb;subst hb;rw[nj aA4];omega
theorem xo (b:UInt8):∀(l:Bs) (acc:Nat),Lib.decFrom acc (l++[b])=(Lib.decFrom acc l).bind λm=>(Lib.digitVal b).map λd=>m*10+d
 | [],acc=>by
  simp only[aBQ,Lib.decFrom,aDc]
  cases Lib.digitVal b<;>rfl
 | x::l,acc=>by
  simp only[aBA,Lib.decFrom]
  cases Lib.digitVal x with
  | none=>rfl
  | some d=>exact xo b l _
theorem sw {k:Nat} (h:k<10):Lib.digitVal (dB k)=some k:=by
 unfold Lib.digitVal;rw[nj h,if_pos aA4]
 congr 1;omega
theorem xp:∀(f n:Nat),n<=f->Lib.decFrom 0 (Lib.decDigits n)=some n
 | 0,n,hf=>by
  obtain rfl:n=0:=aA4;rw[fK aA4]
  simp[Lib.decFrom,sw]
 | f+1,n,hf=>by
  by_cases h:n<10
  ·rw[fK h];simp[Lib.decFrom,sw h]
  ·rw[jB h,xo,xp f (n/10) aA4,sw aA4];simp;omega
theorem pq:∀(k n:Nat),n<10^(k+1)↔(Lib.decDigits n).length<=k+1
 | 0,n=>by
  by_cases h:n<10
  ·rw[fK h];simp;omega
  ·rw[jB h];have:=aB9.2 (pr (n/10));simp only[aA8,aBk]
   omega
 | k+1,n=>by
  by_cases h:n<10
  ·rw[fK h];have:10^1<=10^(k+1+1):=aBg (by decide) aA4;simp only[aBk];omega
  ·rw[jB h];have ih:=pq k (n/10);have:n<10^(k+1+1)↔n/10<10^(k+1):=by rw[aCI (by decide),aCf 10 (k+1)]
   simp only[aA8,aBk];omega
theorem KI {n:Nat} (h:(Lib.decDigits n).length<=18):Lib.atoiAll (Lib.decDigits n)=.ok n:=by
 rw[Lib.atoiAll_short _ h];have hf:=xp n n (aA9 _);have hd:=ss n n (aA9 _)
 cases hl:Lib.decDigits n with
 | nil=>exact absurd hl (pr n)
 | cons b r=>
  rw[hl]at hf hd;have hb:=hd b (aBn ..);have h1:(b==45)=false:=by simp only[beq_eq_false_iff_ne];intro e;subst e;simp at hb
  have h2:(b==43)=false:=by simp only[beq_eq_false_iff_ne];intro e;subst e;simp at hb
  simp only[Lib.atoi,h1,h2,Lib.decNat,List.isEmpty_cons,aBe,if_false,hf,aBv];rfl
def eo (s:Bs):Option Nat:=
 match Lib.atoiAll s with
 | .ok v=>if 0<=v/\s.length<=9/\Lib.itoa v=s then some v.toNat else none
 | _=>none
theorem abx {s:Bs} {y:Nat} (h:eo s=some y):Lib.itoa (y:Int)=s/\s.length<=9:=by
 unfold eo at h;split at h
 ·split at h
  ·rename_i v _ hc;obtain rfl:=Option.some.inj h;obtain⟨h1,h2,h3⟩:=hc;rw[show((v.toNat:Nat):Int)=v by omega];exact⟨h3,h2⟩
  ·cases h
 ·cases h
theorem abv {n:Nat} (h:n<=999999999):eo (Lib.decDigits n)=some n:=by
 have hl:=(pq 8 n).1 aA4;unfold eo;rw[KI aA4];simp only;rw[if_pos ⟨aA4,hl,Lib.itoa_nonneg n⟩];simp
theorem nz (n:Int) (h:n<=9223372036854775807) (h0:-9223372036854775808<=n):(Lib.itoa n).length<=20:=by
 unfold Lib.itoa;split
 ·have:=(pq 18 n.natAbs).1 aA4;simp only[aBr];omega
 ·have:=(pq 18 n.toNat).1 aA4;omega
def numA:Option Nat->AV
 | some n=>.ai [.int .i64 n,.bool true]
 | none=>.ai [.int .i64 0,.bool false]
theorem abJ (s:Bs) (hs:s.length<=140737488351232):aJ Tryz.prog 183 [.str s] (numA (eo s)):=by
 refine Cod.abK (λE R hN hR=>?_);refine wW ?_;refine ic (Gf s hs) rfl ?_;rintro h' v as' ⟨rfl,hv⟩;unfold atoiA at hv;unfold eo at hR;cases he:Lib.atoiAll s
 ·rename_i n;rw[he]at hv hR;simp only at hv hR;subst hv;have hb:=Lib.atoiAll_bounds he;refine⟨rfl,rfl,?_⟩;by_cases h1:n<0
  ·rw[if_neg aA4]at hR;refine wW ?_;refine gG ?_;exact hR.ro ⟨rfl,rfl⟩
  by_cases h2:s.length<=9
  ·refine wW ?_;refine gG ?_;refine fN (iM vV (zK n aA4 aA4) vV rfl rfl ?_);by_cases h3:Lib.itoa n=s
   ·rw[if_pos ⟨aA4,h2,h3⟩]at hR;refine au h3 ?_;refine hR.ro ⟨rfl,?_⟩;rw[numA,show((n.toNat:Nat):Int)=n by omega]
   ·rw[if_neg (λh=>h3 h.2.2)]at hR;refine au h3 ?_;exact hR.ro ⟨rfl,rfl⟩
  ·rw[if_neg (λh=>h2 h.2.1)]at hR;refine wW ?_;refine gG ?_;exact hR.ro ⟨rfl,rfl⟩
 ·rw[he]at hv hR;obtain⟨n,t,p,rfl⟩:=hv;refine⟨rfl,rfl,?_⟩;refine wW ?_;refine gG ?_;exact hR.ro ⟨rfl,rfl⟩
 ·rw[he]at hv hR;obtain⟨n,t,p,rfl⟩:=hv;refine⟨rfl,rfl,?_⟩;refine wW ?_;refine gG ?_;exact hR.ro ⟨rfl,rfl⟩
theorem xq (n:Nat) (h:n<10):List.take (n+1-n) (List.drop n [48,49,50,51,52,53,54,55,56,57])=[dB n]:=by
 have:∀m:Fin 10,List.take (m.val+1-m.val) (List.drop m.val [48,49,50,51,52,53,54,55,56,57])=[dB m.val]:=by decide
 exact this ⟨n,h⟩
theorem uu:∀(f n:Nat),n<=f->n<=9223372036854775807->aJ Tryz.prog 92 [.int .i64 (n:Int)] (.str (Lib.decDigits n)):=by
 intro f
 induction f with
 | zero=>
  intro n hn _;obtain rfl:n=0:=aA4;refine Cod.sx (λE R hN hR=>?_);refine wW ?_;refine gG ?_;refine hR.ro ⟨rfl,?_⟩
  rw[fK aA4];rfl
 | succ f ih=>
  intro n hn hb;refine Cod.sx (λE R hN hR=>?_);by_cases h:n<10
  ·have:=xq n h;refine wW ?_;refine gG ?_;refine hR.ro ⟨rfl,?_⟩;rw[fK h,<-this]
  ·have:=xq (n%10) aA4;have ih:=ih (n/10) aA4 aA4;have hl:=nz ((n/10:Nat):Int) aA4 aA4;rw[Lib.itoa_nonneg]at hl;have e1:((n:Int)%10+1).toNat=n%10+1:=aA4;have e2:((n:Int)%10).toNat=n%10:=aA4;have e3:(n:Int)/10=((n/10:Nat):Int):=aA4;refine wW ?_;refine gG ?_;rw[e1,e2,this,e3];refine aw ih rfl rfl ?_;refine wW ?_;refine hR.ro ⟨rfl,?_⟩;rw[jB h]
theorem apH:∀(f n:Nat),n<=f->1<=n->n<=9223372036854775808->aJ Tryz.prog 92 [.int .i64 (-(n:Int))] (.str (45::Lib.decDigits n)):=by
 intro f
 induction f with
 | zero=>intro n hn h1;omega
 | succ f ih=>
  intro n hn h1 hb;refine Cod.sx (λE R hN hR=>?_);by_cases h:n<10
  ·have hd:=uu n n (aA9 _) aA4;have e1:(0:Int) - -(n:Int)=(n:Int):=aA4;have hl:(Lib.decDigits n).length<=1:=by rw[fK h];simp
   refine wW ?_;refine gG ?_;rw[e1];refine aw hd rfl rfl ?_;refine wW ?_;exact hR.ro ⟨rfl,rfl⟩
  ·have e1:IntKind.i64.wrap ((-(n:Int)).tdiv 10) = -((n/10:Nat):Int):=by
    rw[Int.neg_tdiv,show(n:Int).tdiv 10=((n/10:Nat):Int)from rfl];exact jx aA4
   have e2:(0:Int)-(-(n:Int)).tmod 10=((n%10:Nat):Int):=by
    rw[Int.neg_tmod,show(n:Int).tmod 10=((n%10:Nat):Int)from rfl];omega
   have ih:=ih (n/10) aA4 aA4 aA4;have hd:=uu (n%10) (n%10) (aA9 _) aA4;have hl:=nz (((n/10:Nat)):Int) aA4 aA4;rw[Lib.itoa_nonneg]at hl;have hl2:(Lib.decDigits (n%10)).length<=1:=by rw[fK aA4];simp
   have e3:=fK (n:=n%10) aA4;refine wW ?_;refine gG ?_;rw[e1];refine aw ih rfl rfl ?_;refine au e2 ?_;refine aw hd rfl rfl ?_;refine wW ?_;refine hR.ro ⟨rfl,?_⟩;rw[jB h,e3]
theorem apI (n:Int) (h0:-9223372036854775808<=n) (h1:n<=9223372036854775807):aJ Tryz.prog 92 [.int .i64 n] (.str (Lib.itoa n)):=by
 by_cases h:n<0
 ·have:=apH n.natAbs n.natAbs (aA9 _) aA4 aA4;rw[show -((n.natAbs:Nat):Int)=n by omega]at this;unfold Lib.itoa;rw[if_pos h];exact this
 ·have:=uu n.toNat n.toNat (aA9 _) aA4;rw[show((n.toNat:Nat):Int)=n by omega]at this;unfold Lib.itoa;rw[if_neg h];exact this
end Go.Proofs.YtoalcafkffmiiaaGreatDoor.Ob
namespace Go.Proofs.YtoalcafkffmiiaaGreatDoor.Ob
open Eng
set_option maxRecDepth 10000
def bD (k:Int):Bs:=if k=1 then[99,111,109,109,105,116]else if k=2 then[116,114,101,101]else if k=3 then[98,108,111,98]else if k=4 then[116,97,103]else[]
theorem tN (k:Int):aJ Tryz.prog 186 [.int .i64 k] (.str (bD k)):=by
 refine Cod.adE (λE R hN hR=>?_);unfold bD at hR;by_cases h1:k=1
 ·subst h1;refine wW ?_;exact hR.ro ⟨rfl,rfl⟩
 by_cases h2:k=2
 ·subst h2;refine wW ?_;exact hR.ro ⟨rfl,rfl⟩
 by_cases h3:k=3
 ·subst h3;refine wW ?_;exact hR.ro ⟨rfl,rfl⟩
 by_cases h4:k=4
 ·subst h4;refine wW ?_;exact hR.ro ⟨rfl,rfl⟩
 rw[if_neg h1,if_neg h2,if_neg h3,if_neg h4]at hR;refine wW ?_;exact hR.ro ⟨rfl,rfl⟩
theorem nF (k:Int):(bD k).length<=6:=by
 unfold bD
 repeat' (first | (split) | simp)
def eI (k:Int) (d:Bs):AV:=.agg [.int .i64 k,.str d]
def eS (k:Int) (d:Bs):Int:=if bD k=[]then 10 else if 65000<d.length then 2 else 0
theorem JO (k:Int) (d:Bs) (hd:d.length<=9223372036854775807):aJ Tryz.prog 185 [eI k d] (.int .i64 (eS k d)):=by
 refine Cod.JP (λE R hN hR=>?_);unfold eS at hR;simp(disch:=omega)only[go_sem,simprocAttr,eI];refine aw (tN k) rfl rfl ?_;by_cases h1:bD k=[]
 ·rw[if_pos h1]at hR;refine au h1 ?_;exact hR.ro ⟨rfl,rfl⟩
 ·rw[if_neg h1]at hR;by_cases h2:65000<d.length
  ·rw[if_pos h2]at hR;refine au h1 ?_;exact hR.ro ⟨rfl,rfl⟩
  ·rw[if_neg h2]at hR;refine au h1 ?_;exact hR.ro ⟨rfl,rfl⟩
def gk (k:Int) (d:Bs):Bs:=bD k++32::(Lib.itoa d.length++0::d)
def sK (k:Int) (d:Bs):AV:=if eS k d=0 then .ai [.str (gk k d),.int .i64 0]else .ai [.str [],.int .i64 (eS k d)]
theorem Ms (k:Int) (d:Bs) (hd:d.length<=9223372036854775807):aJ Tryz.prog 134 [eI k d] (sK k d):=by
 refine Cod.Mt (λE R hN hR=>?_);unfold sK at hR;simp(disch:=omega)only[go_sem,simprocAttr,eI];refine aw (JO k d hd) rfl rfl ?_;by_cases h:eS k d=0
 ·rw[if_pos h]at hR
  have hl:d.length<=65000:=by
   unfold eS at h;split at h
   ·cases h
   ·split at h
    ·cases h
    ·omega
  have hnl:=nF k;have hil:=nz d.length aA4 aA4;have hi:=zK d.length aA4 aA4;refine au h ?_;refine aw (tN k) rfl rfl ?_;refine wW ?_;refine aw hi rfl rfl ?_;refine wW ?_;refine hR.ro ⟨rfl,?_⟩;simp[gk]
 ·rw[if_neg h]at hR;refine au h ?_;exact hR.ro ⟨rfl,rfl⟩
def tc (k:Int) (d:Bs):AV:=if eS k d=0 then .ai [.str (Sh.bW (Sh.ep (gk k d))),.int .i64 0]else .ai [.str [],.int .i64 (eS k d)]
theorem w7 {k:Int} {d:Bs} (h:eS k d=0):d.length<=65000:=by
 unfold eS at h;split at h
 ·cases h
 ·split at h
  ·cases h
  ·omega
theorem DV (k:Int) {d:Bs} (h:d.length<=65000):(gk k d).length<=66000:=by
 have hnl:=nF k;have hil:=nz d.length aA4 aA4;unfold gk;simp only[aA8,aBr];omega
theorem R6 (k:Int) (d:Bs) (hd:d.length<=9223372036854775807):aJ Tryz.prog 82 [eI k d] (tc k d):=by
 refine Cod.adq (λE R hN hR=>?_);have he:=Ms k d hd;unfold sK at he;unfold tc at hR;by_cases h:eS k d=0
 ·rw[if_pos h]at hR he;have hl:=DV k (w7 h);have hs:=Sh.uZ (gk k d) aA4;have hh:=Sh.pY (Sh.ep (gk k d)) (by rw[Sh.Dk];omega);simp(disch:=omega)only[go_sem,simprocAttr,eI];refine aw he rfl rfl ?_;refine wW ?_;refine aw hs rfl rfl ?_;refine wW ?_;refine aw hh rfl rfl ?_;refine wW ?_;exact hR.ro ⟨rfl,rfl⟩
 ·rw[if_neg h]at hR he;simp(disch:=omega)only[go_sem,simprocAttr,eI];refine aw he rfl rfl ?_;refine au h ?_;exact hR.ro ⟨rfl,rfl⟩
end Go.Proofs.YtoalcafkffmiiaaGreatDoor.Ob
namespace Go.Proofs.YtoalcafkffmiiaaGreatDoor.Ob
open Eng
set_option maxRecDepth 10000
def gy (b:UInt8):Bool:=decide (48<=b.toNat/\b.toNat<=57)
def gm (s:Bs):Nat:=s.foldl (λn b=>10*n+(b.toNat-48)) 0
theorem ve (s:Bs) (b:UInt8):gm (s++[b])=10*gm s+(b.toNat-48):=by simp[gm]
theorem vd:∀(k:Nat) (s:Bs),s.length=k->s.all gy=true->gm s<10^k
 | 0,s,h,_=>by
  rw[aB2 h];decide
 | k+1,s,h,hd=>by
  obtain⟨t,b,rfl⟩:∃t b,s=t++[b]:=⟨s.dropLast,s.getLast (by intro e;rw[e]at h;cases h),(aDi _).symm⟩;rw[aCe]at hd;simp only[aBd,aCb,aDB,aDh]at hd;have ih:=vd k t (by simpa using h) hd.1;have hb:=hd.2;unfold gy at hb;rw[decide_eq_true_eq]at hb;rw[ve,aCf];omega
theorem xn {b:UInt8} (h:gy b=true):dB (b.toNat-48)=b:=by
 unfold gy at h;rw[decide_eq_true_eq]at h;apply UInt8.toNat.inj;rw[nj aA4];omega
theorem canon:∀(k:Nat) (s:Bs),s.length=k+1->s.all gy=true->(1<s.length->s.getD 0 0≠48)->Lib.decDigits (gm s)=s
 | 0,s,h,hd,_=>by
  match s,h with
  | [b],_=>
   simp only[aCb,aDB,aDh]at hd;have hb:=hd;unfold gy at hb;rw[decide_eq_true_eq]at hb;have:gm [b]=b.toNat-48:=by simp[gm]
   rw[this,fK aA4,xn hd]
 | k+1,s,h,hd,h0=>by
  obtain⟨t,b,rfl⟩:∃t b,s=t++[b]:=⟨s.dropLast,s.getLast (by intro e;rw[e]at h;cases h),(aDi _).symm⟩;rw[aCe]at hd;simp only[aBd,aCb,aDB,aDh]at hd;have hl:t.length=k+1:=by simpa using h
  have hg:t.getD 0 0≠48:=by
   have:=h0 (by simp;omega)
   rwa[aA5,List.getElem?_append_left aA4,<-aA5]at this
  have ih:=canon k t hl hd.1 (λ_=>hg);have hb:=hd.2;unfold gy at hb;rw[decide_eq_true_eq]at hb
  have hpos:1<=gm t:=by
   rcases aCG (gm t)with h1 | h1
   ·rw[h1,fK aA4]at ih;rw[<-ih]at hg;exact absurd rfl hg
   ·exact h1
  rw[ve,jB aA4,show(10*gm t+(b.toNat-48))/10=gm t by omega,show(10*gm t+(b.toNat-48))%10=b.toNat-48 by omega,ih,xn hd.2]
def yK (s:Bs):Prop:=1<=s.length/\s.length<=9/\(1<s.length->s.getD 0 0≠48)/\s.all gy=true
theorem KG (n:Nat):(Lib.decDigits n).all gy=true:=by
 rw[aBc];intro b hb;have:=ss n n (aA9 _) b hb;unfold gy;rw[decide_eq_true_eq];exact this
theorem KL (n:Nat) (h:1<(Lib.decDigits n).length):(Lib.decDigits n).getD 0 0≠48:=by
 have key:∀(f n:Nat),n<=f->1<=n->(Lib.decDigits n).getD 0 0≠48:=by
  intro f
  induction f with
  | zero=>intro n h1 h2;omega
  | succ f ih=>
   intro n h1 h2;by_cases hs:n<10
   ·rw[fK hs];intro e;have:=congrArg UInt8.toNat e;simp only[aCq]at this;rw[nj hs]at this;have h48:(48:UInt8).toNat=48:=rfl;omega
   ·rw[jB hs];have hn:=aB9.2 (pr (n/10));rw[aA5,List.getElem?_append_left hn,<-aA5];exact ih (n/10) aA4 aA4
 refine key n n (aA9 _) ?_;rcases aCG n with h1 | h1
 ·rw[h1,fK aA4]at h;simp at h
 ·exact h1
theorem abw {s:Bs} (h:yK s):eo s=some (gm s):=by
 obtain⟨h1,h2,h3,h4⟩:=h;have hc:=canon (s.length-1) s aA4 h4 h3;have hv:=vd s.length s rfl h4;have h9:(10:Nat)^s.length<=10^9:=aBg (by decide) h2;rw[<-hc,abv aA4,hc]
theorem qv {s:Bs} (h:¬yK s):eo s=none:=by
 cases hn:eo s with
 | none=>rfl
 | some y=>
  exfalso
  obtain⟨h1,h2⟩:=abx hn;rw[Lib.itoa_nonneg]at h1;subst h1;exact h ⟨aB9.2 (pr y),h2,KL y,KG y⟩
def jO (o:Option Nat):Int:=match o with
 | some n=>n
 | none=>-1
theorem anU (s:Bs) (hs:s.length<=9223372036854775807):aJ Tryz.prog 149 [.str s] (.int .i64 (jO (eo s))):=by
 refine Cod.anV (λE R hN hR=>?_);by_cases h1:s.length=0
 ·rw[qv (λh=>by have:=h.1;omega)]at hR;refine wW ?_;refine gG ?_;exact hR.ro ⟨rfl,rfl⟩
 by_cases h9:9<s.length
 ·rw[qv (λh=>by have:=h.2.1;omega)]at hR;refine wW ?_;refine gG ?_;exact hR.ro ⟨rfl,rfl⟩
 have rest:(1<s.length->s.getD 0 0≠48)->vcW Tryz.prog E Cod.Ck (KQ.cN 0 (KQ.seq Tryz.prog E Cod.Cj (KQ.post [.tmp 2] 1 R))) ⟨[(0,.str s),(3,.int .i64 0),(4,.int .i64 0)],[]⟩:=by
  intro h0
  have bad:∀k,k<s.length->gy (s.getD k 0)=false->eo s=none:=by
   intro k hk hd;refine qv (λh=>?_);have:=aBc.1 h.2.2.2 (s.getD k 0) (by rw[aA5,List.getElem?_eq_getElem hk];exact aBJ hk);rw[this]at hd;cases hd
  refine aZ hN (λk:Nat=>⟨[(0,.str s),(3,.int .i64 (gm (s.take k))),(4,.int .i64 k)],[]⟩) (λk=>k<=s.length/\(s.take k).all gy=true) (λk=>s.length-k) 0 (.le (by simp(disch:=omega)only[go_sem,simprocAttr];rfl)) ⟨aA4,rfl⟩ ?_;rintro k R1 ⟨hk,hall⟩ hR1;by_cases hlt:k<s.length
  ·have htk:=u0 0 s hlt;have hbd:=bad k hlt;have hvl:=vd k (s.take k) (by rw[aBa];omega) hall;have h8:(10:Nat)^k<=10^8:=aBg (by decide) aA4;generalize hb:s.getD k 0=b at *
   generalize hn:gm (s.take k)=n at *
   have hb1:=b.toNat_lt;unfold gy at hbd;by_cases c1:b.toNat<48
   ·rw[hbd (decide_eq_false aA4)]at hR;refine au hb ?_;refine gG ?_;exact hR.ro ⟨rfl,rfl⟩
   by_cases c2:57<b.toNat
   ·rw[hbd (decide_eq_false aA4)]at hR;refine au hb ?_;exact hR.ro ⟨rfl,rfl⟩
   refine au hb ?_;refine hR1 (k+1) _ aA4 ⟨aA4,?_⟩ (.le ?_)
   ·rw[htk,aCe,hall];simp[gy];omega
   ·rw[htk,ve,hn];exact vV
  ·obtain rfl:k=s.length:=aA4;rw[aA7 aA4]at hall |-;rw[abw ⟨aA4,aA4,h0,hall⟩]at hR;refine wW ?_;exact hR.ro ⟨rfl,rfl⟩
 by_cases hz:(s.getD 0 0).toNat=48
 ·by_cases hl:1<s.length
  ·rw[qv (λh=>h.2.2.1 hl (UInt8.toNat.inj hz))]at hR;refine wW ?_;refine gG ?_;exact hR.ro ⟨rfl,rfl⟩
  ·refine wW ?_;refine gG ?_;exact rest (λh=>absurd h hl)
 ·refine wW ?_;refine gG ?_;exact rest (λ_ e=>hz (by rw[e];rfl))
end Go.Proofs.YtoalcafkffmiiaaGreatDoor.Ob
namespace Go.Proofs.YtoalcafkffmiiaaGreatDoor.Ob
open Eng
set_option maxRecDepth 10000
theorem CJ (k:Int) (h0:-9223372036854775808<=k) (h1:k<=9223372036854775807):aJ Tryz.prog 17 [.int .i64 k] (.str (bD k)):=by
 refine Cod.arb (λE R hN hR=>?_);unfold bD at hR;by_cases a1:k<1
 ·rw[if_neg aA4,if_neg aA4,if_neg aA4,if_neg aA4]at hR;refine wW ?_;refine gG ?_;exact hR.ro ⟨rfl,rfl⟩
 by_cases a2:4<k
 ·rw[if_neg aA4,if_neg aA4,if_neg aA4,if_neg aA4]at hR;refine wW ?_;refine gG ?_;exact hR.ro ⟨rfl,rfl⟩
 have hk:k=1\/k=2\/k=3\/k=4:=aA4;rcases hk with rfl | rfl | rfl | rfl
 all_goals
  refine bl @Sh.mE @Sh.mG ?_;refine dI @Sh.mE @Sh.mG ?_
  first | exact hR.ro ⟨rfl,rfl⟩ | (exact hR.wk (h':=[]) (ar':=[.undef]) rfl (.le vV) ⟨rfl,rfl⟩)
def fO (s:Bs):Int:=if bD 1=s then 1 else if bD 2=s then 2 else if bD 3=s then 3 else if bD 4=s then 4 else 0
theorem zR (s:Bs) (k:Nat) (h1:1<=k) (h4:k<=4) (hno:∀j:Nat,1<=j->j<k->bD j≠s) (hk:bD k=s):fO s=k:=by
 unfold fO;have hc:k=1\/k=2\/k=3\/k=4:=aA4;rcases hc with rfl | rfl | rfl | rfl
 ·rw[if_pos (show bD 1=s from hk)];rfl
 ·rw[if_neg (show bD 1≠s from hno 1 aA4 aA4),if_pos (show bD 2=s from hk)];rfl
 ·rw[if_neg (show bD 1≠s from hno 1 aA4 aA4),if_neg (show bD 2≠s from hno 2 aA4 aA4),if_pos (show bD 3=s from hk)];rfl
 ·rw[if_neg (show bD 1≠s from hno 1 aA4 aA4),if_neg (show bD 2≠s from hno 2 aA4 aA4),if_neg (show bD 3≠s from hno 3 aA4 aA4),if_pos (show bD 4=s from hk)];rfl
theorem zS (s:Bs) (hno:∀j:Nat,1<=j->j<5->bD j≠s):fO s=0:=by
 unfold fO;rw[if_neg (show bD 1≠s from hno 1 aA4 aA4),if_neg (show bD 2≠s from hno 2 aA4 aA4),if_neg (show bD 3≠s from hno 3 aA4 aA4),if_neg (show bD 4≠s from hno 4 aA4 aA4)]
theorem tw (s:Bs):aJ Tryz.prog 184 [.str s] (.int .i64 (fO s)):=by
 refine Cod.XT (λE R hN hR=>?_);refine wW ?_;refine aZ hN (λk:Nat=>⟨[(0,.str s),(3,.int .i64 k)],[]⟩) (λk=>1<=k/\k<=5/\∀j:Nat,1<=j->j<k->bD j≠s) (λk=>5-k) 1 (.le vV) ⟨aA4,aA4,λj h1 h2=>by omega⟩ ?_;rintro k R1 ⟨h1,h5,hno⟩ hR1;by_cases hlt:k<=4
 ·have hn:=tN k;refine wW ?_;refine aw hn rfl rfl ?_;by_cases he:bD k=s
  ·refine au he ?_;exact hR.ro ⟨rfl,by rw[zR s k h1 hlt hno he]⟩
  ·refine au he ?_;refine hR1 (k+1) _ aA4 ⟨aA4,aA4,λj g1 g2=>?_⟩ (.le vV);by_cases hj:j=k
   ·subst hj;exact he
   ·exact hno j g1 aA4
 ·obtain rfl:k=5:=aA4;refine wW ?_;exact hR.ro ⟨rfl,by rw[zS s hno]⟩
theorem aqE (s:Bs):aJ Tryz.prog 150 [.str s] (.int .i64 (fO s)):=by
 refine Cod.aqF (λE R hN hR=>?_);refine wW ?_;refine aZ hN (λk:Nat=>⟨[(0,.str s),(3,.int .i64 k)],[]⟩) (λk=>1<=k/\k<=5/\∀j:Nat,1<=j->j<k->bD j≠s) (λk=>5-k) 1 (.le vV) ⟨aA4,aA4,λj h1 h2=>by omega⟩ ?_;rintro k R1 ⟨h1,h5,hno⟩ hR1;by_cases hlt:k<=4
 ·have hn:=CJ k aA4 aA4;refine wW ?_;refine aw hn rfl rfl ?_;by_cases he:bD k=s
  ·refine au he ?_;exact hR.ro ⟨rfl,by rw[zR s k h1 hlt hno he]⟩
  ·refine au he ?_;refine hR1 (k+1) _ aA4 ⟨aA4,aA4,λj g1 g2=>?_⟩ (.le vV);by_cases hj:j=k
   ·subst hj;exact he
   ·exact hno j g1 aA4
 ·obtain rfl:k=5:=aA4;refine wW ?_;exact hR.ro ⟨rfl,by rw[zS s hno]⟩
theorem as1 (k:Int) (d:Bs) (h0:-9223372036854775808<=k) (h1:k<=9223372036854775807) (hd:d.length<=65000):aJ Tryz.prog 49 [eI k d] (.str (gk k d)):=by
 refine Cod.as3 (λE R hN hR=>?_);have hnl:=nF k;have hil:=nz d.length aA4 aA4;have hi:=apI d.length aA4 aA4;simp(disch:=omega)only[go_sem,simprocAttr,eI];refine aw (CJ k h0 h1) rfl rfl ?_;refine wW ?_;refine aw hi rfl rfl ?_;refine wW ?_;refine hR.ro ⟨rfl,?_⟩;simp[gk]
theorem aqq (k:Int) (d:Bs) (h0:-9223372036854775808<=k) (h1:k<=9223372036854775807) (hd:d.length<=65000):aJ Tryz.prog 13 [eI k d] (.str (Sh.bW (Sh.ep (gk k d)))):=by
 refine Cod.aqr (λE R hN hR=>?_);have hl:=DV k hd;have ht:=as1 k d h0 h1 hd;have hs:=Sh.asU (gk k d) aA4;have hh:=Sh.aql (Sh.ep (gk k d)) (by rw[Sh.Dk];omega);simp(disch:=omega)only[go_sem,simprocAttr,eI];refine aw ht rfl rfl ?_;refine wW ?_;refine aw hs rfl rfl ?_;refine wW ?_;refine aw hh rfl rfl ?_;refine wW ?_;exact hR.ro ⟨rfl,rfl⟩
theorem pg (c:UInt8):∀s:Bs,(cutP c s).1.length<=s.length/\(cutP c s).2.1.length<=s.length
 | []=>by simp[cutP]
 | x::r=>by
  have:=pg c r;unfold cutP;split
  ·simp
  ·simp only[aBr];omega
def eW (s:Bs):Int×Bs×Int:=
 if(cutP 0 s).2.2=false\/(cutP 32 (cutP 0 s).1).2.2=false\/eo (cutP 32 (cutP 0 s).1).2.1=none then(0,[],3)
 else if fO (cutP 32 (cutP 0 s).1).1=0 then(0,[],10)
 else if 65000<jO (eo (cutP 32 (cutP 0 s).1).2.1)then(0,[],2)
 else if((cutP 0 s).2.1.length:Int)<jO (eo (cutP 32 (cutP 0 s).1).2.1)then(0,[],6)
 else if jO (eo (cutP 32 (cutP 0 s).1).2.1)<((cutP 0 s).2.1.length:Int)then(0,[],3)
 else(fO (cutP 32 (cutP 0 s).1).1,(cutP 0 s).2.1,0)
def fW (x:Int×Bs×Int):AV:=.ai [eI x.1 x.2.1,.int .i64 x.2.2]
theorem Lc (s:Bs) (hs:s.length<=140737488351232):aJ Tryz.prog 133 [.str s] (fW (eW s)):=by
 refine Cod.Ld (λE R hN hR=>?_);have hl0:=pg 0 s;have hc0:=xl s 0 aA4;unfold eW at hR;generalize hq:cutP 0 s=q at *
 obtain⟨head,data,ok⟩:=q;simp only at *
 have hl1:=pg 32 head;have hc1:=xl head 32 aA4;generalize hq1:cutP 32 head=q1 at *
 obtain⟨name,size,blank⟩:=q1;simp only at *
 have hn:=abJ size aA4;have hk:=tw name;rw[pd]at hc0 hc1;simp only at hc0 hc1;refine wW ?_;refine aw hc0 rfl rfl ?_;refine wW ?_;refine aw hc1 rfl rfl ?_;refine wW ?_;refine aw hn rfl (by cases eo size<;>rfl) ?_
 cases ok with
 | false=>
  rw[if_pos (.inl rfl)]at hR
  cases hO:eo size with
  | none=>
   simp(disch:=omega)only[go_sem,simprocAttr,numA];refine gG ?_
   exact hR.ro ⟨rfl,rfl⟩
  | some n=>
   simp(disch:=omega)only[go_sem,simprocAttr,numA];refine gG ?_
   exact hR.ro ⟨rfl,rfl⟩
 | true=>
  cases blank with
  | false=>
   rw[if_pos (.inr (.inl rfl))]at hR
   cases hO:eo size with
   | none=>
    simp(disch:=omega)only[go_sem,simprocAttr,numA];refine gG ?_
    exact hR.ro ⟨rfl,rfl⟩
   | some n=>
    simp(disch:=omega)only[go_sem,simprocAttr,numA];refine gG ?_
    exact hR.ro ⟨rfl,rfl⟩
  | true=>
   cases hO:eo size with
   | none=>
    rw[if_pos (.inr (.inr hO))]at hR;simp(disch:=omega)only[go_sem,simprocAttr,numA];refine gG ?_
    exact hR.ro ⟨rfl,rfl⟩
   | some n=>
    rw[if_neg (by rw[hO];simp),hO,jO]at hR;simp(disch:=omega)only[go_sem,simprocAttr,numA];refine aw hk rfl rfl ?_;by_cases h1:fO name=0
    ·rw[if_pos h1]at hR;refine au h1 ?_;exact hR.ro ⟨rfl,rfl⟩
    rw[if_neg h1]at hR;by_cases h2:65000<(n:Int)
    ·rw[if_pos h2]at hR;refine au h1 ?_;exact hR.ro ⟨rfl,rfl⟩
    rw[if_neg h2]at hR;by_cases h3:(data.length:Int)<n
    ·rw[if_pos h3]at hR;refine au h1 ?_;exact hR.ro ⟨rfl,rfl⟩
    rw[if_neg h3]at hR;by_cases h4:(n:Int)<data.length
    ·rw[if_pos h4]at hR;refine au h1 ?_;exact hR.ro ⟨rfl,rfl⟩
    rw[if_neg h4]at hR;refine au h1 ?_;refine aw hk rfl rfl ?_;refine wW ?_;exact hR.ro ⟨rfl,rfl⟩
theorem apF (s:Bs) (hs:s.length<=140737488351232):aJ Tryz.prog 94 [.str s] (fW (eW s)):=by
 refine Cod.apG (λE R hN hR=>?_);have hf0:=yh s 0 aA4;unfold eW at hR;rcases pf 0 s with⟨i0,c0⟩ | ⟨e,he,i0,c0⟩
 ·rw[c0]at hR;rw[if_pos (.inl rfl)]at hR;rw[i0]at hf0;refine wW ?_;refine aw hf0 rfl rfl ?_;refine wW ?_;exact hR.ro ⟨rfl,rfl⟩
 rw[c0]at hR;rw[i0]at hf0;simp only at hR;have hht:(s.take e).length=e:=by rw[aBa];omega
 have hf1:=yh (s.take e) 32 aA4;rcases pf 32 (s.take e)with⟨i1,c1⟩ | ⟨a,ha,i1,c1⟩
 ·rw[c1]at hR;rw[if_pos (.inr (.inl rfl))]at hR;rw[i1]at hf1;refine wW ?_;refine aw hf0 rfl rfl ?_;refine wW ?_;refine aw hf1 rfl rfl ?_;refine wW ?_;refine gG ?_;exact hR.ro ⟨rfl,rfl⟩
 rw[c1]at hR;rw[i1]at hf1;simp only at hR;rw[hht]at ha;have ez:(s.drop (a+1)).take (e-(a+1))=(s.take e).drop (a+1):=List.drop_take.symm;have en:(s.take a)=(s.take e).take a:=by rw[List.take_take,aBC aA4]
 have hn:=anU ((s.take e).drop (a+1)) (by rw[aBb];omega);have hk:=aqE ((s.take e).take a);generalize aO:(s.take e).drop (a+1)=size at *
 generalize hnm:(s.take e).take a=name at *
 have hdl:(s.drop (e+1)).length+(e+1)=s.length:=by rw[aBb];omega
 refine wW ?_;refine aw hf0 rfl rfl ?_;refine wW ?_;refine aw hf1 rfl rfl ?_;refine bl ez en ?_;refine fN (iM vV hn vV rfl rfl ?_)
 cases hO:eo size with
 | none=>
  rw[if_pos (.inr (.inr hO))]at hR;simp(disch:=omega)only[go_sem,simprocAttr,jO]
  exact hR.ro ⟨rfl,rfl⟩
 | some n=>
  rw[if_neg (by rw[hO];simp),hO,jO]at hR;rw[hO,jO]at hn;simp(disch:=omega)only[go_sem,simprocAttr,jO,ez];refine aw hn rfl rfl ?_;generalize hda:s.drop (e+1)=data at *
  refine bl hda en ?_;refine aw hk rfl rfl ?_;by_cases h1:fO name=0
  ·rw[if_pos h1]at hR;refine au h1 ?_;exact hR.ro ⟨rfl,rfl⟩
  rw[if_neg h1]at hR;by_cases h2:65000<(n:Int)
  ·rw[if_pos h2]at hR;refine au h1 ?_;exact hR.ro ⟨rfl,rfl⟩
  rw[if_neg h2]at hR;by_cases h3:(data.length:Int)<n
  ·rw[if_pos h3]at hR;refine au h1 ?_;exact hR.ro ⟨rfl,rfl⟩
  rw[if_neg h3]at hR;by_cases h4:(n:Int)<data.length
  ·rw[if_pos h4]at hR;refine au h1 ?_;exact hR.ro ⟨rfl,rfl⟩
  rw[if_neg h4]at hR;refine bl h1 en ?_;refine aw hk rfl rfl ?_;refine wW ?_;exact hR.ro ⟨rfl,rfl⟩
end Go.Proofs.YtoalcafkffmiiaaGreatDoor.Ob
