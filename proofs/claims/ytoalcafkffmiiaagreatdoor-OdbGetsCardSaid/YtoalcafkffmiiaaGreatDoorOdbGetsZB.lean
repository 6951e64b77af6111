/- The proof, part 28 of 43. -/
import Derived.Test.YtoalcafkffmiiaaGreatDoorOdbGetsQ
import Derived.Test.YtoalcafkffmiiaaGreatDoorOdbGetsR
import Derived.Test.YtoalcafkffmiiaaGreatDoorOdbGetsU
import Derived.Lib.AtoiTie
import Derived.Lib.ItoaMem
import Derived.Lib.AppendIntMem
import Derived.Lib.AtoiErrMem
set_option linter.all false
namespace Go.Proofs.YtoalcafkffmiiaaGreatDoor.Ob
open Eng
set_option maxRecDepth 10000
abbrev Bs:=List UInt8
theorem aaU {P:Program} {name:String} {g:Nat} {k:IntKind} {zs:List Int} {w:World} {cs:Array Value} {t:TypeId} {fz:Nat×Nat} (hg:P.globalNamed name=some g) (hw:w.heap[g]?=some (.cells cs t fz)) (he:cs=(zs.map λz=>Value.int k z).toArray):Lib.TabIs P w name k zs:=by
 unfold Lib.TabIs World.var?;rw[hg];simp only[afd,hw,he]
theorem cell_of {w:World} {g:Nat} {v:Value} {t:TypeId} {fz:Nat×Nat} (hw:w.heap[g]?=some (.cells #[v] t fz)):w.cell? ⟨g,0,none⟩=some v:=by
 simp[World.cell?,hw]
theorem C2 {v:Value} (h:isIfV v=true):v=.nilIface\/∃t p,v=.iface t p:=by
 cases v<;>simp[isIfV]at h
 exact .inr ⟨_,_,rfl⟩;exact .inl rfl
theorem Dh (n:Int) (h0:-9223372036854775808<=n) (h1:n<=9223372036854775807):ao Tryz.prog 187 [.int .i64 n] (.str (Lib.itoa n)):=by
 refine y9 rfl rfl (λw hA=>?_);obtain⟨cs,t,fz,g1,g2⟩:=hA (5,_) (by unfold nh;simp only[ady,ads,adg];exact .inl rfl);refine(Any.strconv_Itoa Tryz.laysM171 n h0 h1 w (aaU (by kernel_rfl) g1 g2)).mono ?_;rintro e w' ⟨rfl,k,os,rfl⟩;exact⟨rfl,Lib.below_grow _ _ (acT _) _ _⟩
def atoiA (s:Bs) (r:AV):Prop:=
 match Lib.atoiAll s with
 | .ok v=>r=.af [.int .i64 v,.lit .nilIface]
 | _=>∃n t p,r=.af [.int .i64 n,.lit (.iface t p)]
theorem It (s:Bs) (hs:s.length<=140737488351232):Eng.Spec Tryz.prog 220 [] [.str s] (λh r _=>h=[]/\atoiA s r):=by
 refine Gf rfl (λw hA=>?_);have hl:(⟨s.toArray⟩:ByteArray).size<=140737488351232:=by simpa[ByteArray.size]using hs
 unfold atoiA;cases he:Lib.atoiAll s
 ·rename_i v;refine(Any.strconv_Atoi_ok Tryz.laysC172 ⟨s.toArray⟩ acN v he w).mono ?_;rintro e w' ⟨rfl,hw⟩;refine⟨_,rfl,rfl,rfl,?_⟩;rcases hw with rfl | ⟨t,rfl⟩;exact .refl _ _;exact Lib.bytesWorld_below _ _ _
 ·obtain⟨cs,t,fz,g1,v,rfl,g3⟩:=hA (3,_) (by unfold nh;simp only[ady,ads,adg];exact .inr (.inl rfl));refine(Any.strconv_Atoi_syntax Tryz.laysC172 ⟨s.toArray⟩ acN he v w (cell_of g1) (C2 g3)).mono ?_;rintro e w' ⟨N,rfl,_,_,hb⟩;exact⟨_,⟨_,_,_,rfl⟩,rfl,rfl,hb⟩
 ·obtain⟨cs,t,fz,g1,v,rfl,g3⟩:=hA (4,_) (by unfold nh;simp only[ady,ads,adg];exact .inr (.inr (.inl rfl)));refine(Any.strconv_Atoi_range Tryz.laysC172 ⟨s.toArray⟩ acN he v w (cell_of g1) (C2 g3)).mono ?_;rintro e w' ⟨N,rfl,_,_,hb⟩;exact⟨_,⟨_,_,_,rfl⟩,rfl,rfl,hb⟩
theorem PM (s:Bs) (c:UInt8):ao Tryz.prog 173 [.str s,.str [c]] (.int .i64 (Lib.indexByte s c)):=
 zc rfl rfl (λw=>Tryz.stringslite_Index_one ⟨s.toArray⟩ c w)
def cutP (c:UInt8):Bs->Bs×Bs×Bool
 | []=>([],[],false)
 | x::r=>if x=c then([],r,true)else(x::(cutP c r).1,(cutP c r).2)
theorem sC (c:UInt8):∀s:Bs,(Lib.indexByte s c = -1/\cutP c s=(s,[],false))\/∃j:Nat,j<s.length/\Lib.indexByte s c=(j:Int)/\cutP c s=(s.take j,s.drop (j+1),true)
 | []=>.inl ⟨rfl,rfl⟩
 | x::r=>by
  by_cases hx:x=c
  ·subst hx;exact .inr ⟨0,by simp,by simp[Lib.indexByte],by simp[cutP]⟩
  ·have hb:(x==c)=false:=by simp[hx]
   rcases sC c r with⟨h1,h2⟩ | ⟨j,h1,h2,h3⟩
   ·refine .inl ⟨by simp[Lib.indexByte,hb,h1],by simp[cutP,hx,h2]⟩
   ·refine .inr ⟨j+1,by simp;omega,?_,by simp[cutP,hx,h3]⟩;have hne:(Lib.indexByte r c == -1)=false:=by rw[h2];simp
    simp[Lib.indexByte,hb,hne,h2]
def sB (q:Bs×Bs×Bool):AV:=.af [.str q.1,.str q.2.1,.bool q.2.2]
theorem Sb (s:Bs) (c:UInt8) (hs:s.length<=9223372036854775807):ao Tryz.prog 219 [.str s,.str [c]] (sB (cutP c s)):=by
 refine Cod.Sc (λE R hN hR=>?_);refine wW ?_;refine ah (PM s c) rfl rfl ?_;rcases sC c s with⟨h1,h2⟩ | ⟨j,h1,h2,h3⟩
 ·refine ab h1 ?_;exact hR.ro ⟨rfl,by rw[h2];rfl⟩
 ·refine ab h2 ?_;exact hR.ro ⟨rfl,by rw[h3];rfl⟩
theorem Bn (s:Bs) (c:UInt8) (hs:s.length<=9223372036854775807):ao Tryz.prog 182 [.str s,.str [c]] (sB (cutP c s)):=by
 refine Cod.Zf (λE R hN hR=>?_);refine wW ?_;refine ah (Sb s c hs) rfl rfl ?_;simp(disch:=omega)only[go_sem,simprocAttr,sB];exact hR.ro ⟨rfl,rfl⟩
theorem zi {α:Type} (d:α):∀(l:List α) {k:Nat},k<l.length->l.take (k+1)=l.take k++[l.getD k d]
 | [],k,h=>by simp at h
 | x::r,0,h=>by simp
 | x::r,k+1,h=>by
  rw[adO,zi d r (by simpa using h)];simp
theorem C5 {c:UInt8}:∀{s:Bs},c∉s->Lib.indexByte s c = -1
 | [],_=>rfl
 | x::r,h=>by
  simp only[adg,not_or]at h;have hb:(x==c)=false:=by simp only[beq_eq_false_iff_ne];exact λe=>h.1 e.symm
  simp[Lib.indexByte,hb,C5 h.2]
theorem C4 {c:UInt8}:∀{s:Bs} {k:Nat},k<s.length->s.getD k 0=c->c∉s.take k->Lib.indexByte s c=(k:Int)
 | [],_,h,_,_=>by simp at h
 | x::r,0,_,h,_=>by
  have h:x=c:=by simpa using h
  simp[Lib.indexByte,h]
 | x::r,k+1,h1,h2,h3=>by
  simp only[adO,adg,not_or]at h3;have hb:(x==c)=false:=by simp only[beq_eq_false_iff_ne];exact λe=>h3.1 e.symm
  have ih:=C4 (s:=r) (k:=k) (by simpa using h1) (by simpa using h2) h3.2;have hne:(Lib.indexByte r c == -1)=false:=by rw[ih];simp
  simp[Lib.indexByte,hb,hne,ih]
theorem Cb (s:Bs) (c:UInt8) (hs:s.length<=9223372036854775807):ao Tryz.prog 148 [.str s,.int .u8 (c.toNat:Int)] (.int .i64 (Lib.indexByte s c)):=by
 refine Cod.find_spec (λE R hN hR=>?_);refine wW ?_;refine aD hN (λk:Nat=>⟨[(0,.str s),(1,.int .u8 (c.toNat:Int)),(5,.int .i64 k)],[]⟩) (λk=>k<=s.length/\c∉s.take k) (λk=>s.length-k) 0 (.le vV) (by simp) ?_;rintro k R1 ⟨hk,hno⟩ hR1;by_cases hl:k<s.length
 ·have htk:=zi 0 s hl;refine wW ?_;refine oU (λhe=>?_) (λhe=>?_)
  ·refine wW ?_;refine hR.ro ⟨rfl,?_⟩;have hx:s.getD k 0=c:=UInt8.toNat.inj acN;rw[C4 hl hx hno]
  ·refine wW ?_;refine hR1 (k+1) _ acN ⟨acN,?_⟩ (.le vV);rw[htk];simp only[adq,ac8,not_or];exact⟨hno,λe=>he (by rw[<-e])⟩
 ·obtain rfl:k=s.length:=acN;rw[acP (acT _)]at hno;refine wW ?_;exact hR.ro ⟨rfl,by rw[C5 hno]⟩
end Go.Proofs.YtoalcafkffmiiaaGreatDoor.Ob
namespace Go.Proofs.YtoalcafkffmiiaaGreatDoor.Ob
open Eng
set_option maxRecDepth 10000
def dB (k:Nat):UInt8:=UInt8.ofNat (48+k)
theorem gW {n:Nat} (h:n<10):Lib.decDigits n=[dB n]:=by rw[Lib.decDigits,dif_pos h];rfl
theorem lq {n:Nat} (h:¬n<10):Lib.decDigits n=Lib.decDigits (n/10)++[dB (n%10)]:=by rw[Lib.decDigits,dif_neg h];rfl
theorem qd {k:Nat} (h:k<10):(dB k).toNat=48+k:=by
 unfold dB;rw[aeb];omega
theorem sG (n:Nat):Lib.decDigits n≠[]:=by
 by_cases h:n<10
 ·rw[gW h];simp
 ·rw[lq h];simp
theorem wj:∀(f n:Nat),n<=f->∀b∈Lib.decDigits n,48<=b.toNat/\b.toNat<=57
 | 0,n,hf,b,hb=>by
  obtain rfl:n=0:=acN;rw[gW acN]at hb
  simp at hb;subst hb;decide
 | f+1,n,hf,b,hb=>by
  by_cases h:n<10
  ·rw[gW h]at hb;simp at hb;subst hb;rw[qd h];omega
  ·rw[lq h]at hb;rcases adq.1 hb with hb | hb;exact wj f (n/10) acN b hb
   ·simp at hb;subst hb;rw[qd acN];omega
theorem Bv (b:UInt8):∀(l:Bs) (acc:Nat),Lib.decFrom acc (l++[b])=(Lib.decFrom acc l).bind λm=>(Lib.digitVal b).map λd=>m*10+d
 | [],acc=>by
  simp only[ady,Lib.decFrom,afd]
  cases Lib.digitVal b<;>rfl
 | x::l,acc=>by
  simp only[ads,Lib.decFrom]
  cases Lib.digitVal x with
  | none=>rfl
  | some d=>exact Bv b l _
theorem wu {k:Nat} (h:k<10):Lib.digitVal (dB k)=some k:=by
 unfold Lib.digitVal;rw[qd h,if_pos acN]
 congr 1;omega
theorem Bw:∀(f n:Nat),n<=f->Lib.decFrom 0 (Lib.decDigits n)=some n
 | 0,n,hf=>by
  obtain rfl:n=0:=acN;rw[gW acN]
  simp[Lib.decFrom,wu]
 | f+1,n,hf=>by
  by_cases h:n<10
  ·rw[gW h];simp[Lib.decFrom,wu h]
  ·rw[lq h,Bv,Bw f (n/10) acN,wu acN];simp;omega
theorem sF:∀(k n:Nat),n<10^(k+1)↔(Lib.decDigits n).length<=k+1
 | 0,n=>by
  by_cases h:n<10
  ·rw[gW h];simp;omega
  ·rw[lq h];have:=ad4.2 (sG (n/10));simp only[acQ,acW]
   omega
 | k+1,n=>by
  by_cases h:n<10
  ·rw[gW h];have:10^1<=10^(k+1+1):=acV (by decide) acN;simp only[acW];omega
  ·rw[lq h];have ih:=sF k (n/10);have:n<10^(k+1+1)↔n/10<10^(k+1):=by rw[aeJ (by decide),ad2 10 (k+1)]
   simp only[acQ,acW];omega
theorem LO {n:Nat} (h:(Lib.decDigits n).length<=18):Lib.atoiAll (Lib.decDigits n)=.ok n:=by
 rw[Lib.atoiAll_short _ h];have hf:=Bw n n (acT _);have hd:=wj n n (acT _)
 cases hl:Lib.decDigits n with
 | nil=>exact absurd hl (sG n)
 | cons b r=>
  rw[hl]at hf hd;have hb:=hd b (ac6 ..);have h1:(b==45)=false:=by simp only[beq_eq_false_iff_ne];intro e;subst e;simp at hb
  have h2:(b==43)=false:=by simp only[beq_eq_false_iff_ne];intro e;subst e;simp at hb
  simp only[Lib.atoi,h1,h2,Lib.decNat,List.isEmpty_cons,ac5,if_false,hf,adm];rfl
def fB (s:Bs):Option Nat:=
 match Lib.atoiAll s with
 | .ok v=>if 0<=v/\s.length<=9/\Lib.itoa v=s then some v.toNat else none
 | _=>none
theorem T5 {s:Bs} {y:Nat} (h:fB s=some y):Lib.itoa (y:Int)=s/\s.length<=9:=by
 unfold fB at h;split at h
 ·split at h
  ·rename_i v _ hc;obtain rfl:=Option.some.inj h;obtain⟨h1,h2,h3⟩:=hc;rw[show((v.toNat:Nat):Int)=v by omega];exact⟨h3,h2⟩
  ·cases h
 ·cases h
theorem T3 {n:Nat} (h:n<=999999999):fB (Lib.decDigits n)=some n:=by
 have hl:=(sF 8 n).1 acN;unfold fB;rw[LO acN];simp only;rw[if_pos ⟨acN,hl,Lib.itoa_nonneg n⟩];simp
theorem qy (n:Int) (h:n<=9223372036854775807) (h0:-9223372036854775808<=n):(Lib.itoa n).length<=20:=by
 unfold Lib.itoa;split
 ·have:=(sF 18 n.natAbs).1 acN;simp only[adb];omega
 ·have:=(sF 18 n.toNat).1 acN;omega
def numA:Option Nat->AV
 | some n=>.af [.int .i64 n,.bool true]
 | none=>.af [.int .i64 0,.bool false]
theorem Ua (s:Bs) (hs:s.length<=140737488351232):ao Tryz.prog 183 [.str s] (numA (fB s)):=by
 refine Cod.Ub (λE R hN hR=>?_);refine wW ?_;refine jX (It s hs) rfl ?_;rintro h' v as' ⟨rfl,hv⟩;unfold atoiA at hv;unfold fB at hR;cases he:Lib.atoiAll s
 ·rename_i n;rw[he]at hv hR;simp only at hv hR;subst hv;have hb:=Lib.atoiAll_bounds he;refine⟨rfl,rfl,?_⟩;by_cases h1:n<0
  ·rw[if_neg acN]at hR;refine wW ?_;refine gG ?_;exact hR.ro ⟨rfl,rfl⟩
  by_cases h2:s.length<=9
  ·refine wW ?_;refine gG ?_;refine eI (gq vV (Dh n acN acN) vV rfl rfl ?_);by_cases h3:Lib.itoa n=s
   ·rw[if_pos ⟨acN,h2,h3⟩]at hR;refine ab h3 ?_;refine hR.ro ⟨rfl,?_⟩;rw[numA,show((n.toNat:Nat):Int)=n by omega]
   ·rw[if_neg (λh=>h3 h.2.2)]at hR;refine ab h3 ?_;exact hR.ro ⟨rfl,rfl⟩
  ·rw[if_neg (λh=>h2 h.2.1)]at hR;refine wW ?_;refine gG ?_;exact hR.ro ⟨rfl,rfl⟩
 ·rw[he]at hv hR;obtain⟨n,t,p,rfl⟩:=hv;refine⟨rfl,rfl,?_⟩;refine wW ?_;refine gG ?_;exact hR.ro ⟨rfl,rfl⟩
 ·rw[he]at hv hR;obtain⟨n,t,p,rfl⟩:=hv;refine⟨rfl,rfl,?_⟩;refine wW ?_;refine gG ?_;exact hR.ro ⟨rfl,rfl⟩
theorem Bx (n:Nat) (h:n<10):List.take (n+1-n) (List.drop n [48,49,50,51,52,53,54,55,56,57])=[dB n]:=by
 have:∀m:Fin 10,List.take (m.val+1-m.val) (List.drop m.val [48,49,50,51,52,53,54,55,56,57])=[dB m.val]:=by decide
 exact this ⟨n,h⟩
theorem yC:∀(f n:Nat),n<=f->n<=9223372036854775807->ao Tryz.prog 92 [.int .i64 (n:Int)] (.str (Lib.decDigits n)):=by
 intro f
 induction f with
 | zero=>
  intro n hn _;obtain rfl:n=0:=acN;refine Cod.wv (λE R hN hR=>?_);refine wW ?_;refine gG ?_;refine hR.ro ⟨rfl,?_⟩
  rw[gW acN];rfl
 | succ f ih=>
  intro n hn hb;refine Cod.wv (λE R hN hR=>?_);by_cases h:n<10
  ·have:=Bx n h;refine wW ?_;refine gG ?_;refine hR.ro ⟨rfl,?_⟩;rw[gW h,<-this]
  ·have:=Bx (n%10) acN;have ih:=ih (n/10) acN acN;have hl:=qy ((n/10:Nat):Int) acN acN;rw[Lib.itoa_nonneg]at hl;have e1:((n:Int)%10+1).toNat=n%10+1:=acN;have e2:((n:Int)%10).toNat=n%10:=acN;have e3:(n:Int)/10=((n/10:Nat):Int):=acN;refine wW ?_;refine gG ?_;rw[e1,e2,this,e3];refine ah ih rfl rfl ?_;refine wW ?_;refine hR.ro ⟨rfl,?_⟩;rw[lq h]
theorem XN:∀(f n:Nat),n<=f->1<=n->n<=9223372036854775808->ao Tryz.prog 92 [.int .i64 (-(n:Int))] (.str (45::Lib.decDigits n)):=by
 intro f
 induction f with
 | zero=>intro n hn h1;omega
 | succ f ih=>
  intro n hn h1 hb;refine Cod.wv (λE R hN hR=>?_);by_cases h:n<10
  ·have hd:=yC n n (acT _) acN;have e1:(0:Int) - -(n:Int)=(n:Int):=acN;have hl:(Lib.decDigits n).length<=1:=by rw[gW h];simp
   refine wW ?_;refine gG ?_;rw[e1];refine ah hd rfl rfl ?_;refine wW ?_;exact hR.ro ⟨rfl,rfl⟩
  ·have e1:IntKind.i64.wrap ((-(n:Int)).tdiv 10) = -((n/10:Nat):Int):=by
    rw[Int.neg_tdiv,show(n:Int).tdiv 10=((n/10:Nat):Int)from rfl];exact eE acN
   have e2:(0:Int)-(-(n:Int)).tmod 10=((n%10:Nat):Int):=by
    rw[Int.neg_tmod,show(n:Int).tmod 10=((n%10:Nat):Int)from rfl];omega
   have ih:=ih (n/10) acN acN acN;have hd:=yC (n%10) (n%10) (acT _) acN;have hl:=qy (((n/10:Nat)):Int) acN acN;rw[Lib.itoa_nonneg]at hl;have hl2:(Lib.decDigits (n%10)).length<=1:=by rw[gW acN];simp
   have e3:=gW (n:=n%10) acN;refine wW ?_;refine gG ?_;rw[e1];refine ah ih rfl rfl ?_;refine ab e2 ?_;refine ah hd rfl rfl ?_;refine wW ?_;refine hR.ro ⟨rfl,?_⟩;rw[lq h,e3]
theorem XO (n:Int) (h0:-9223372036854775808<=n) (h1:n<=9223372036854775807):ao Tryz.prog 92 [.int .i64 n] (.str (Lib.itoa n)):=by
 by_cases h:n<0
 ·have:=XN n.natAbs n.natAbs (acT _) acN acN;rw[show -((n.natAbs:Nat):Int)=n by omega]at this;unfold Lib.itoa;rw[if_pos h];exact this
 ·have:=yC n.toNat n.toNat (acT _) acN;rw[show((n.toNat:Nat):Int)=n by omega]at this;unfold Lib.itoa;rw[if_neg h];exact this
end Go.Proofs.YtoalcafkffmiiaaGreatDoor.Ob
namespace Go.Proofs.YtoalcafkffmiiaaGreatDoor.Ob
open Eng
set_option maxRecDepth 10000
def bu (k:Int):Bs:=if k=1 then[99,111,109,109,105,116]else if k=2 then[116,114,101,101]else if k=3 then[98,108,111,98]else if k=4 then[116,97,103]else[]
theorem xT (k:Int):ao Tryz.prog 186 [.int .i64 k] (.str (bu k)):=by
 refine Cod.UB (λE R hN hR=>?_);unfold bu at hR;by_cases h1:k=1
 ·subst h1;refine wW ?_;exact hR.ro ⟨rfl,rfl⟩
 by_cases h2:k=2
 ·subst h2;refine wW ?_;exact hR.ro ⟨rfl,rfl⟩
 by_cases h3:k=3
 ·subst h3;refine wW ?_;exact hR.ro ⟨rfl,rfl⟩
 by_cases h4:k=4
 ·subst h4;refine wW ?_;exact hR.ro ⟨rfl,rfl⟩
 rw[if_neg h1,if_neg h2,if_neg h3,if_neg h4]at hR;refine wW ?_;exact hR.ro ⟨rfl,rfl⟩
theorem qF (k:Int):(bu k).length<=6:=by
 unfold bu
 repeat' (first | (split) | simp)
def dV (k:Int) (d:Bs):AV:=.agg [.int .i64 k,.str d]
def ee (k:Int) (d:Bs):Int:=if bu k=[]then 10 else if 65000<d.length then 2 else 0
theorem KL (k:Int) (d:Bs) (hd:d.length<=9223372036854775807):ao Tryz.prog 185 [dV k d] (.int .i64 (ee k d)):=by
 refine Cod.KM (λE R hN hR=>?_);unfold ee at hR;simp(disch:=omega)only[go_sem,simprocAttr,dV];refine ah (xT k) rfl rfl ?_;by_cases h1:bu k=[]
 ·rw[if_pos h1]at hR;refine ab h1 ?_;exact hR.ro ⟨rfl,rfl⟩
 ·rw[if_neg h1]at hR;by_cases h2:65000<d.length
  ·rw[if_pos h2]at hR;refine ab h1 ?_;exact hR.ro ⟨rfl,rfl⟩
  ·rw[if_neg h2]at hR;refine ab h1 ?_;exact hR.ro ⟨rfl,rfl⟩
def gN (k:Int) (d:Bs):Bs:=bu k++32::(Lib.itoa d.length++0::d)
def wE (k:Int) (d:Bs):AV:=if ee k d=0 then .af [.str (gN k d),.int .i64 0]else .af [.str [],.int .i64 (ee k d)]
theorem MT (k:Int) (d:Bs) (hd:d.length<=9223372036854775807):ao Tryz.prog 134 [dV k d] (wE k d):=by
 refine Cod.MU (λE R hN hR=>?_);unfold wE at hR;simp(disch:=omega)only[go_sem,simprocAttr,dV];refine ah (KL k d hd) rfl rfl ?_;by_cases h:ee k d=0
 ·rw[if_pos h]at hR
  have hl:d.length<=65000:=by
   unfold ee at h;split at h
   ·cases h
   ·split at h
    ·cases h
    omega
  have hnl:=qF k;have hil:=qy d.length acN acN;have hi:=Dh d.length acN acN;refine ab h ?_;refine ah (xT k) rfl rfl ?_;refine wW ?_;refine ah hi rfl rfl ?_;refine wW ?_;refine hR.ro ⟨rfl,?_⟩;simp[gN]
 ·rw[if_neg h]at hR;refine ab h ?_;exact hR.ro ⟨rfl,rfl⟩
def tq (k:Int) (d:Bs):AV:=if ee k d=0 then .af [.str (Sh.bC (Sh.cY (gN k d))),.int .i64 0]else .af [.str [],.int .i64 (ee k d)]
theorem A9 {k:Int} {d:Bs} (h:ee k d=0):d.length<=65000:=by
 unfold ee at h;split at h
 ·cases h
 ·split at h
  ·cases h
  omega
theorem Gw (k:Int) {d:Bs} (h:d.length<=65000):(gN k d).length<=66000:=by
 have hnl:=qF k;have hil:=qy d.length acN acN;unfold gN;simp only[acQ,adb];omega
theorem C1 (k:Int) (d:Bs) (hd:d.length<=9223372036854775807):ao Tryz.prog 82 [dV k d] (tq k d):=by
 refine Cod.Uw (λE R hN hR=>?_);have he:=MT k d hd;unfold wE at he;unfold tq at hR;by_cases h:ee k d=0
 ·rw[if_pos h]at hR he;have hl:=Gw k (A9 h);have hs:=Sh.uR (gN k d) acN;have hh:=Sh.qs (Sh.cY (gN k d)) (by rw[Sh.F7];omega);simp(disch:=omega)only[go_sem,simprocAttr,dV];refine ah he rfl rfl ?_;refine wW ?_;refine ah hs rfl rfl ?_;refine wW ?_;refine ah hh rfl rfl ?_;refine wW ?_;exact hR.ro ⟨rfl,rfl⟩
 ·rw[if_neg h]at hR he;simp(disch:=omega)only[go_sem,simprocAttr,dV];refine ah he rfl rfl ?_;refine ab h ?_;exact hR.ro ⟨rfl,rfl⟩
end Go.Proofs.YtoalcafkffmiiaaGreatDoor.Ob
namespace Go.Proofs.YtoalcafkffmiiaaGreatDoor.Ob
open Eng
set_option maxRecDepth 10000
def iY (b:UInt8):Bool:=decide (48<=b.toNat/\b.toNat<=57)
def iO (s:Bs):Nat:=s.foldl (λn b=>10*n+(b.toNat-48)) 0
theorem zt (s:Bs) (b:UInt8):iO (s++[b])=10*iO s+(b.toNat-48):=by simp[iO]
theorem zr:∀(k:Nat) (s:Bs),s.length=k->s.all iY=true->iO s<10^k
 | 0,s,h,_=>by
  rw[adV h];decide
 | k+1,s,h,hd=>by
  obtain⟨t,b,rfl⟩:∃t b,s=t++[b]:=⟨s.dropLast,s.getLast (by intro e;rw[e]at h;cases h),(afj _).symm⟩;rw[adU]at hd;simp only[acX,adY,afF,afh]at hd;have ih:=zr k t (by simpa using h) hd.1;have hb:=hd.2;unfold iY at hb;rw[decide_eq_true_eq]at hb;rw[zt,ad2];omega
theorem Bp {b:UInt8} (h:iY b=true):dB (b.toNat-48)=b:=by
 unfold iY at h;rw[decide_eq_true_eq]at h;apply UInt8.toNat.inj;rw[qd acN];omega
theorem canon:∀(k:Nat) (s:Bs),s.length=k+1->s.all iY=true->(1<s.length->s.getD 0 0≠48)->Lib.decDigits (iO s)=s
 | 0,s,h,hd,_=>by
  match s,h with
  | [b],_=>
   simp only[adY,afF,afh]at hd;have hb:=hd;unfold iY at hb;rw[decide_eq_true_eq]at hb;have:iO [b]=b.toNat-48:=by simp[iO]
   rw[this,gW acN,Bp hd]
 | k+1,s,h,hd,h0=>by
  obtain⟨t,b,rfl⟩:∃t b,s=t++[b]:=⟨s.dropLast,s.getLast (by intro e;rw[e]at h;cases h),(afj _).symm⟩;rw[adU]at hd;simp only[acX,adY,afF,afh]at hd;have hl:t.length=k+1:=by simpa using h
  have hg:t.getD 0 0≠48:=by
   have:=h0 (by simp;omega)
   rwa[acO,List.getElem?_append_left acN,<-acO]at this
  have ih:=canon k t hl hd.1 (λ_=>hg);have hb:=hd.2;unfold iY at hb;rw[decide_eq_true_eq]at hb
  have hpos:1<=iO t:=by
   rcases aeF (iO t)with h1 | h1
   ·rw[h1,gW acN]at ih;rw[<-ih]at hg;exact absurd rfl hg
   exact h1
  rw[zt,lq acN,show(10*iO t+(b.toNat-48))/10=iO t by omega,show(10*iO t+(b.toNat-48))%10=b.toNat-48 by omega,ih,Bp hd.2]
def CH (s:Bs):Prop:=1<=s.length/\s.length<=9/\(1<s.length->s.getD 0 0≠48)/\s.all iY=true
theorem LM (n:Nat):(Lib.decDigits n).all iY=true:=by
 rw[acZ];intro b hb;have:=wj n n (acT _) b hb;unfold iY;rw[decide_eq_true_eq];exact this
theorem LR (n:Nat) (h:1<(Lib.decDigits n).length):(Lib.decDigits n).getD 0 0≠48:=by
 have key:∀(f n:Nat),n<=f->1<=n->(Lib.decDigits n).getD 0 0≠48:=by
  intro f
  induction f with
  | zero=>intro n h1 h2;omega
  | succ f ih=>
   intro n h1 h2;by_cases hs:n<10
   ·rw[gW hs];intro e;have:=congrArg UInt8.toNat e;simp only[aei]at this;rw[qd hs]at this;have h48:(48:UInt8).toNat=48:=rfl;omega
   ·rw[lq hs];have hn:=ad4.2 (sG (n/10));rw[acO,List.getElem?_append_left hn,<-acO];exact ih (n/10) acN acN
 refine key n n (acT _) ?_;rcases aeF n with h1 | h1
 ·rw[h1,gW acN]at h;simp at h
 exact h1
theorem T4 {s:Bs} (h:CH s):fB s=some (iO s):=by
 obtain⟨h1,h2,h3,h4⟩:=h;have hc:=canon (s.length-1) s acN h4 h3;have hv:=zr s.length s rfl h4;have h9:(10:Nat)^s.length<=10^9:=acV (by decide) h2;rw[<-hc,T3 acN,hc]
theorem tV {s:Bs} (h:¬CH s):fB s=none:=by
 cases hn:fB s with
 | none=>rfl
 | some y=>
  exfalso
  obtain⟨h1,h2⟩:=T5 hn;rw[Lib.itoa_nonneg]at h1;subst h1;exact h ⟨ad4.2 (sG y),h2,LR y,LM y⟩
def lI (o:Option Nat):Int:=match o with
 | some n=>n
 | none=>-1
theorem Xk (s:Bs) (hs:s.length<=9223372036854775807):ao Tryz.prog 149 [.str s] (.int .i64 (lI (fB s))):=by
 refine Cod.Xl (λE R hN hR=>?_);by_cases h1:s.length=0
 ·rw[tV (λh=>by have:=h.1;omega)]at hR;refine wW ?_;refine gG ?_;exact hR.ro ⟨rfl,rfl⟩
 by_cases h9:9<s.length
 ·rw[tV (λh=>by have:=h.2.1;omega)]at hR;refine wW ?_;refine gG ?_;exact hR.ro ⟨rfl,rfl⟩
 have rest:(1<s.length->s.getD 0 0≠48)->vcW Tryz.prog E Cod.Xj (KQ.c8 0 (KQ.seq Tryz.prog E Cod.Xi (KQ.post [.tmp 2] 1 R))) ⟨[(0,.str s),(3,.int .i64 0),(4,.int .i64 0)],[]⟩:=by
  intro h0
  have bad:∀k,k<s.length->iY (s.getD k 0)=false->fB s=none:=by
   intro k hk hd;refine tV (λh=>?_);have:=acZ.1 h.2.2.2 (s.getD k 0) (by rw[acO,List.getElem?_eq_getElem hk];exact adB hk);rw[this]at hd;cases hd
  refine aD hN (λk:Nat=>⟨[(0,.str s),(3,.int .i64 (iO (s.take k))),(4,.int .i64 k)],[]⟩) (λk=>k<=s.length/\(s.take k).all iY=true) (λk=>s.length-k) 0 (.le (by simp(disch:=omega)only[go_sem,simprocAttr];rfl)) ⟨acN,rfl⟩ ?_;rintro k R1 ⟨hk,hall⟩ hR1;by_cases hlt:k<s.length
  ·have htk:=zi 0 s hlt;have hbd:=bad k hlt;have hvl:=zr k (s.take k) (by rw[acS];omega) hall;have h8:(10:Nat)^k<=10^8:=acV (by decide) acN;generalize hb:s.getD k 0=b at *
   generalize hn:iO (s.take k)=n at *
   have hb1:=b.toNat_lt;unfold iY at hbd;by_cases c1:b.toNat<48
   ·rw[hbd (decide_eq_false acN)]at hR;refine ab hb ?_;refine gG ?_;exact hR.ro ⟨rfl,rfl⟩
   by_cases c2:57<b.toNat
   ·rw[hbd (decide_eq_false acN)]at hR;refine ab hb ?_;exact hR.ro ⟨rfl,rfl⟩
   refine ab hb ?_;refine hR1 (k+1) _ acN ⟨acN,?_⟩ (.le ?_)
   ·rw[htk,adU,hall];simp[iY];omega
   ·rw[htk,zt,hn];exact vV
  ·obtain rfl:k=s.length:=acN;rw[acP acN]at hall |-;rw[T4 ⟨acN,acN,h0,hall⟩]at hR;refine wW ?_;exact hR.ro ⟨rfl,rfl⟩
 by_cases hz:(s.getD 0 0).toNat=48
 ·by_cases hl:1<s.length
  ·rw[tV (λh=>h.2.2.1 hl (UInt8.toNat.inj hz))]at hR;refine wW ?_;refine gG ?_;exact hR.ro ⟨rfl,rfl⟩
  ·refine wW ?_;refine gG ?_;exact rest (λh=>absurd h hl)
 ·refine wW ?_;refine gG ?_;exact rest (λ_ e=>hz (by rw[e];rfl))
end Go.Proofs.YtoalcafkffmiiaaGreatDoor.Ob
namespace Go.Proofs.YtoalcafkffmiiaaGreatDoor.Ob
open Eng
set_option maxRecDepth 10000
theorem Fy (k:Int) (h0:-9223372036854775808<=k) (h1:k<=9223372036854775807):ao Tryz.prog 17 [.int .i64 k] (.str (bu k)):=by
 refine Cod.Yy (λE R hN hR=>?_);unfold bu at hR;by_cases a1:k<1
 ·rw[if_neg acN,if_neg acN,if_neg acN,if_neg acN]at hR;refine wW ?_;refine gG ?_;exact hR.ro ⟨rfl,rfl⟩
 by_cases a2:4<k
 ·rw[if_neg acN,if_neg acN,if_neg acN,if_neg acN]at hR;refine wW ?_;refine gG ?_;exact hR.ro ⟨rfl,rfl⟩
 have hk:k=1\/k=2\/k=3\/k=4:=acN;rcases hk with rfl | rfl | rfl | rfl
 all_goals
  refine aE @Sh.o4 @Sh.o6 ?_;refine cO @Sh.o4 @Sh.o6 ?_
  first | exact hR.ro ⟨rfl,rfl⟩ | (exact hR.wk (h':=[]) (ar':=[.undef]) rfl (.le vV) ⟨rfl,rfl⟩)
def ib (s:Bs):Int:=if bu 1=s then 1 else if bu 2=s then 2 else if bu 3=s then 3 else if bu 4=s then 4 else 0
theorem Du (s:Bs) (k:Nat) (h1:1<=k) (h4:k<=4) (hno:∀j:Nat,1<=j->j<k->bu j≠s) (hk:bu k=s):ib s=k:=by
 unfold ib;have hc:k=1\/k=2\/k=3\/k=4:=acN;rcases hc with rfl | rfl | rfl | rfl
 ·rw[if_pos (show bu 1=s from hk)];rfl
 ·rw[if_neg (show bu 1≠s from hno 1 acN acN),if_pos (show bu 2=s from hk)];rfl
 ·rw[if_neg (show bu 1≠s from hno 1 acN acN),if_neg (show bu 2≠s from hno 2 acN acN),if_pos (show bu 3=s from hk)];rfl
 ·rw[if_neg (show bu 1≠s from hno 1 acN acN),if_neg (show bu 2≠s from hno 2 acN acN),if_neg (show bu 3≠s from hno 3 acN acN),if_pos (show bu 4=s from hk)];rfl
theorem Dv (s:Bs) (hno:∀j:Nat,1<=j->j<5->bu j≠s):ib s=0:=by
 unfold ib;rw[if_neg (show bu 1≠s from hno 1 acN acN),if_neg (show bu 2≠s from hno 2 acN acN),if_neg (show bu 3≠s from hno 3 acN acN),if_neg (show bu 4≠s from hno 4 acN acN)]
theorem xA (s:Bs):ao Tryz.prog 184 [.str s] (.int .i64 (ib s)):=by
 refine Cod.QX (λE R hN hR=>?_);refine wW ?_;refine aD hN (λk:Nat=>⟨[(0,.str s),(3,.int .i64 k)],[]⟩) (λk=>1<=k/\k<=5/\∀j:Nat,1<=j->j<k->bu j≠s) (λk=>5-k) 1 (.le vV) ⟨acN,acN,λj h1 h2=>by omega⟩ ?_;rintro k R1 ⟨h1,h5,hno⟩ hR1;by_cases hlt:k<=4
 ·have hn:=xT k;refine wW ?_;refine ah hn rfl rfl ?_;by_cases he:bu k=s
  ·refine ab he ?_;exact hR.ro ⟨rfl,by rw[Du s k h1 hlt hno he]⟩
  ·refine ab he ?_;refine hR1 (k+1) _ acN ⟨acN,acN,λj g1 g2=>?_⟩ (.le vV);by_cases hj:j=k
   ·subst hj;exact he
   exact hno j g1 acN
 ·obtain rfl:k=5:=acN;refine wW ?_;exact hR.ro ⟨rfl,by rw[Dv s hno]⟩
theorem Yn (s:Bs):ao Tryz.prog 150 [.str s] (.int .i64 (ib s)):=by
 refine Cod.Yo (λE R hN hR=>?_);refine wW ?_;refine aD hN (λk:Nat=>⟨[(0,.str s),(3,.int .i64 k)],[]⟩) (λk=>1<=k/\k<=5/\∀j:Nat,1<=j->j<k->bu j≠s) (λk=>5-k) 1 (.le vV) ⟨acN,acN,λj h1 h2=>by omega⟩ ?_;rintro k R1 ⟨h1,h5,hno⟩ hR1;by_cases hlt:k<=4
 ·have hn:=Fy k acN acN;refine wW ?_;refine ah hn rfl rfl ?_;by_cases he:bu k=s
  ·refine ab he ?_;exact hR.ro ⟨rfl,by rw[Du s k h1 hlt hno he]⟩
  ·refine ab he ?_;refine hR1 (k+1) _ acN ⟨acN,acN,λj g1 g2=>?_⟩ (.le vV);by_cases hj:j=k
   ·subst hj;exact he
   exact hno j g1 acN
 ·obtain rfl:k=5:=acN;refine wW ?_;exact hR.ro ⟨rfl,by rw[Dv s hno]⟩
theorem YV (k:Int) (d:Bs) (h0:-9223372036854775808<=k) (h1:k<=9223372036854775807) (hd:d.length<=65000):ao Tryz.prog 49 [dV k d] (.str (gN k d)):=by
 refine Cod.YW (λE R hN hR=>?_);have hnl:=qF k;have hil:=qy d.length acN acN;have hi:=XO d.length acN acN;simp(disch:=omega)only[go_sem,simprocAttr,dV];refine ah (Fy k h0 h1) rfl rfl ?_;refine wW ?_;refine ah hi rfl rfl ?_;refine wW ?_;refine hR.ro ⟨rfl,?_⟩;simp[gN]
theorem Fx (k:Int) (d:Bs) (h0:-9223372036854775808<=k) (h1:k<=9223372036854775807) (hd:d.length<=65000):ao Tryz.prog 13 [dV k d] (.str (Sh.bC (Sh.cY (gN k d)))):=by
 refine Cod.Ym (λE R hN hR=>?_);have hl:=Gw k hd;have ht:=YV k d h0 h1 hd;have hs:=Sh.yQ (gN k d) acN;have hh:=Sh.qS (Sh.cY (gN k d)) (by rw[Sh.F7];omega);simp(disch:=omega)only[go_sem,simprocAttr,dV];refine ah ht rfl rfl ?_;refine wW ?_;refine ah hs rfl rfl ?_;refine wW ?_;refine ah hh rfl rfl ?_;refine wW ?_;exact hR.ro ⟨rfl,rfl⟩
theorem sD (c:UInt8):∀s:Bs,(cutP c s).1.length<=s.length/\(cutP c s).2.1.length<=s.length
 | []=>by simp[cutP]
 | x::r=>by
  have:=sD c r;unfold cutP;split
  ·simp
  ·simp only[adb];omega
def gX (s:Bs):Int×Bs×Int:=
 if(cutP 0 s).2.2=false\/(cutP 32 (cutP 0 s).1).2.2=false\/fB (cutP 32 (cutP 0 s).1).2.1=none then(0,[],3)
 else if ib (cutP 32 (cutP 0 s).1).1=0 then(0,[],10)
 else if 65000<lI (fB (cutP 32 (cutP 0 s).1).2.1)then(0,[],2)
 else if((cutP 0 s).2.1.length:Int)<lI (fB (cutP 32 (cutP 0 s).1).2.1)then(0,[],6)
 else if lI (fB (cutP 32 (cutP 0 s).1).2.1)<((cutP 0 s).2.1.length:Int)then(0,[],3)
 else(ib (cutP 32 (cutP 0 s).1).1,(cutP 0 s).2.1,0)
def eh (x:Int×Bs×Int):AV:=.af [dV x.1 x.2.1,.int .i64 x.2.2]
theorem LZ (s:Bs) (hs:s.length<=140737488351232):ao Tryz.prog 133 [.str s] (eh (gX s)):=by
 refine Cod.L3 (λE R hN hR=>?_);have hl0:=sD 0 s;have hc0:=Bn s 0 acN;unfold gX at hR;generalize hq:cutP 0 s=q at *
 obtain⟨head,data,ok⟩:=q;simp only at *
 have hl1:=sD 32 head;have hc1:=Bn head 32 acN;generalize hq1:cutP 32 head=q1 at *
 obtain⟨name,size,blank⟩:=q1;simp only at *
 have hn:=Ua size acN;have hk:=xA name;rw[sB]at hc0 hc1;simp only at hc0 hc1;refine wW ?_;refine ah hc0 rfl rfl ?_;refine wW ?_;refine ah hc1 rfl rfl ?_;refine wW ?_;refine ah hn rfl (by cases fB size<;>rfl) ?_
 cases ok with
 | false=>
  rw[if_pos (.inl rfl)]at hR
  cases hO:fB size with
  | none=>
   simp(disch:=omega)only[go_sem,simprocAttr,numA];refine gG ?_
   exact hR.ro ⟨rfl,rfl⟩
  | some n=>
   simp(disch:=omega)only[go_sem,simprocAttr,numA];refine gG ?_
   exact hR.ro ⟨rfl,rfl⟩
 | true=>
  cases blank with
  | false=>
   rw[if_pos (.inr (.inl rfl))]at hR
   cases hO:fB size with
   | none=>
    simp(disch:=omega)only[go_sem,simprocAttr,numA];refine gG ?_
    exact hR.ro ⟨rfl,rfl⟩
   | some n=>
    simp(disch:=omega)only[go_sem,simprocAttr,numA];refine gG ?_
    exact hR.ro ⟨rfl,rfl⟩
  | true=>
   cases hO:fB size with
   | none=>
    rw[if_pos (.inr (.inr hO))]at hR;simp(disch:=omega)only[go_sem,simprocAttr,numA];refine gG ?_
    exact hR.ro ⟨rfl,rfl⟩
   | some n=>
    rw[if_neg (by rw[hO];simp),hO,lI]at hR;simp(disch:=omega)only[go_sem,simprocAttr,numA];refine ah hk rfl rfl ?_;by_cases h1:ib name=0
    ·rw[if_pos h1]at hR;refine ab h1 ?_;exact hR.ro ⟨rfl,rfl⟩
    rw[if_neg h1]at hR;by_cases h2:65000<(n:Int)
    ·rw[if_pos h2]at hR;refine ab h1 ?_;exact hR.ro ⟨rfl,rfl⟩
    rw[if_neg h2]at hR;by_cases h3:(data.length:Int)<n
    ·rw[if_pos h3]at hR;refine ab h1 ?_;exact hR.ro ⟨rfl,rfl⟩
    rw[if_neg h3]at hR;by_cases h4:(n:Int)<data.length
    ·rw[if_pos h4]at hR;refine ab h1 ?_;exact hR.ro ⟨rfl,rfl⟩
    rw[if_neg h4]at hR;refine ab h1 ?_;refine ah hk rfl rfl ?_;refine wW ?_;exact hR.ro ⟨rfl,rfl⟩
theorem XL (s:Bs) (hs:s.length<=140737488351232):ao Tryz.prog 94 [.str s] (eh (gX s)):=by
 refine Cod.XM (λE R hN hR=>?_);have hf0:=Cb s 0 acN;unfold gX at hR;rcases sC 0 s with⟨i0,c0⟩ | ⟨e,he,i0,c0⟩
 ·rw[c0]at hR;rw[if_pos (.inl rfl)]at hR;rw[i0]at hf0;refine wW ?_;refine ah hf0 rfl rfl ?_;refine wW ?_;exact hR.ro ⟨rfl,rfl⟩
 rw[c0]at hR;rw[i0]at hf0;simp only at hR;have hht:(s.take e).length=e:=by rw[acS];omega
 have hf1:=Cb (s.take e) 32 acN;rcases sC 32 (s.take e)with⟨i1,c1⟩ | ⟨a,ha,i1,c1⟩
 ·rw[c1]at hR;rw[if_pos (.inr (.inl rfl))]at hR;rw[i1]at hf1;refine wW ?_;refine ah hf0 rfl rfl ?_;refine wW ?_;refine ah hf1 rfl rfl ?_;refine wW ?_;refine gG ?_;exact hR.ro ⟨rfl,rfl⟩
 rw[c1]at hR;rw[i1]at hf1;simp only at hR;rw[hht]at ha;have ez:(s.drop (a+1)).take (e-(a+1))=(s.take e).drop (a+1):=afJ.symm;have en:(s.take a)=(s.take e).take a:=by rw[List.take_take,adk acN]
 have hn:=Xk ((s.take e).drop (a+1)) (by rw[acU];omega);have hk:=Yn ((s.take e).take a);generalize aA:(s.take e).drop (a+1)=size at *
 generalize hnm:(s.take e).take a=name at *
 have hdl:(s.drop (e+1)).length+(e+1)=s.length:=by rw[acU];omega
 refine wW ?_;refine ah hf0 rfl rfl ?_;refine wW ?_;refine ah hf1 rfl rfl ?_;refine aE ez en ?_;refine eI (gq vV hn vV rfl rfl ?_)
 cases hO:fB size with
 | none=>
  rw[if_pos (.inr (.inr hO))]at hR;simp(disch:=omega)only[go_sem,simprocAttr,lI]
  exact hR.ro ⟨rfl,rfl⟩
 | some n=>
  rw[if_neg (by rw[hO];simp),hO,lI]at hR;rw[hO,lI]at hn;simp(disch:=omega)only[go_sem,simprocAttr,lI,ez];refine ah hn rfl rfl ?_;generalize hda:s.drop (e+1)=data at *
  refine aE hda en ?_;refine ah hk rfl rfl ?_;by_cases h1:ib name=0
  ·rw[if_pos h1]at hR;refine ab h1 ?_;exact hR.ro ⟨rfl,rfl⟩
  rw[if_neg h1]at hR;by_cases h2:65000<(n:Int)
  ·rw[if_pos h2]at hR;refine ab h1 ?_;exact hR.ro ⟨rfl,rfl⟩
  rw[if_neg h2]at hR;by_cases h3:(data.length:Int)<n
  ·rw[if_pos h3]at hR;refine ab h1 ?_;exact hR.ro ⟨rfl,rfl⟩
  rw[if_neg h3]at hR;by_cases h4:(n:Int)<data.length
  ·rw[if_pos h4]at hR;refine ab h1 ?_;exact hR.ro ⟨rfl,rfl⟩
  rw[if_neg h4]at hR;refine aE h1 en ?_;refine ah hk rfl rfl ?_;refine wW ?_;exact hR.ro ⟨rfl,rfl⟩
end Go.Proofs.YtoalcafkffmiiaaGreatDoor.Ob
