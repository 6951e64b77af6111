/- The proof, part 20 of 50. -/
import Derived.Test.YtkdjbebgdoohjaaGreatDoorHistoryOrderP
import Derived.Test.YtkdjbebgdoohjaaGreatDoorHistoryOrderQ
import Derived.Test.YtkdjbebgdoohjaaGreatDoorHistoryOrderS
import Derived.Lib.AtoiTie
import Derived.Lib.ItoaMem
import Derived.Lib.AppendIntMem
import Derived.Lib.AtoiErrMem
set_option linter.all false
namespace Go.Proofs.YtkdjbebgdoohjaaGreatDoor.Ob
open Eng
set_option maxRecDepth 10000
abbrev Bs:=List UInt8
theorem XD {P:Program} {name:String} {g:Nat} {k:IntKind} {zs:List Int} {w:World} {cs:Array Value} {t:TypeId} {fz:Nat×Nat} (hg:P.globalNamed name=some g) (hw:w.heap[g]?=some (.cells cs t fz)) (he:cs=(zs.map λz=>Value.int k z).toArray):Lib.TabIs P w name k zs:=by
 unfold Lib.TabIs World.var?;rw[hg];simp only[ab6,hw,he]
theorem cell_of {w:World} {g:Nat} {v:Value} {t:TypeId} {fz:Nat×Nat} (hw:w.heap[g]?=some (.cells #[v] t fz)):w.cell? ⟨g,0,none⟩=some v:=by
 simp[World.cell?,hw]
theorem BD {v:Value} (h:isIfV v=true):v=.nilIface\/∃t p,v=.iface t p:=by
 cases v<;>simp[isIfV]at h
 exact .inr ⟨_,_,rfl⟩;exact .inl rfl
theorem px (n:Int) (h0:-9223372036854775808<=n) (h1:n<=9223372036854775807):aw Tryz.prog 111 [.int .i64 n] (.str (Lib.itoa n)):=by
 refine xR rfl rfl (λw hA=>?_);obtain⟨cs,t,fz,g1,g2⟩:=hA (8,_) (by unfold nA;simp only[aac,Z8,ZW];exact .inl rfl);refine(Any.strconv_Itoa Tryz.laysM171 n h0 h1 w (XD (by kernel_rfl) g1 g2)).mono ?_;rintro e w' ⟨rfl,k,os,rfl⟩;exact⟨rfl,Lib.below_grow _ _ (ZM _) _ _⟩
def atoiA (s:Bs) (r:AV):Prop:=
 match Lib.atoiAll s with
 | .ok v=>r=.ab [.int .i64 v,.lit .nilIface]
 | _=>∃n t p,r=.ab [.int .i64 n,.lit (.iface t p)]
theorem ox (s:Bs) (hs:s.length<=140737488351232):Eng.Spec Tryz.prog 110 [] [.str s] (λh r _=>h=[]/\atoiA s r):=by
 refine Eb rfl (λw hA=>?_);have hl:(⟨s.toArray⟩:ByteArray).size<=140737488351232:=by simpa[ByteArray.size]using hs
 unfold atoiA;cases he:Lib.atoiAll s
 ·rename_i v;refine(Any.strconv_Atoi_ok Tryz.laysC172 ⟨s.toArray⟩ ZG v he w).mono ?_;rintro e w' ⟨rfl,hw⟩;refine⟨_,rfl,rfl,rfl,?_⟩;rcases hw with rfl | ⟨t,rfl⟩;exact .refl _ _;exact Lib.bytesWorld_below _ _ _
 ·obtain⟨cs,t,fz,g1,v,rfl,g3⟩:=hA (3,_) (by unfold nA;simp only[aac,Z8,ZW];exact .inr (.inl rfl));refine(Any.strconv_Atoi_syntax Tryz.laysC172 ⟨s.toArray⟩ ZG he v w (cell_of g1) (BD g3)).mono ?_;rintro e w' ⟨N,rfl,_,_,hb⟩;exact⟨_,⟨_,_,_,rfl⟩,rfl,rfl,hb⟩
 ·obtain⟨cs,t,fz,g1,v,rfl,g3⟩:=hA (4,_) (by unfold nA;simp only[aac,Z8,ZW];exact .inr (.inr (.inl rfl)));refine(Any.strconv_Atoi_range Tryz.laysC172 ⟨s.toArray⟩ ZG he v w (cell_of g1) (BD g3)).mono ?_;rintro e w' ⟨N,rfl,_,_,hb⟩;exact⟨_,⟨_,_,_,rfl⟩,rfl,rfl,hb⟩
theorem NW (s:Bs) (c:UInt8):aw Tryz.prog 126 [.str s,.str [c]] (.int .i64 (Lib.indexByte s c)):=
 lC rfl rfl (λw=>Tryz.stringslite_Index_one ⟨s.toArray⟩ c w)
def cutP (c:UInt8):Bs->Bs×Bs×Bool
 | []=>([],[],false)
 | x::r=>if x=c then([],r,true)else(x::(cutP c r).1,(cutP c r).2)
theorem zP (c:UInt8):∀s:Bs,(Lib.indexByte s c = -1/\cutP c s=(s,[],false))\/∃j:Nat,j<s.length/\Lib.indexByte s c=(j:Int)/\cutP c s=(s.take j,s.drop (j+1),true)
 | []=>.inl ⟨rfl,rfl⟩
 | x::r=>by
  by_cases hx:x=c
  ·subst hx;exact .inr ⟨0,by simp,by simp[Lib.indexByte],by simp[cutP]⟩
  ·have hb:(x==c)=false:=by simp[hx]
   rcases zP c r with⟨h1,h2⟩ | ⟨j,h1,h2,h3⟩
   ·refine .inl ⟨by simp[Lib.indexByte,hb,h1],by simp[cutP,hx,h2]⟩
   ·refine .inr ⟨j+1,by simp;omega,?_,by simp[cutP,hx,h3]⟩;have hne:(Lib.indexByte r c == -1)=false:=by rw[h2];simp
    simp[Lib.indexByte,hb,hne,h2]
def mW (q:Bs×Bs×Bool):AV:=.ab [.str q.1,.str q.2.1,.bool q.2.2]
theorem Ql (s:Bs) (c:UInt8) (hs:s.length<=9223372036854775807):aw Tryz.prog 127 [.str s,.str [c]] (mW (cutP c s)):=by
 refine Cod.Qm (λE R hN hR=>?_);refine wW ?_;refine an (NW s c) rfl rfl ?_;rcases zP c s with⟨h1,h2⟩ | ⟨j,h1,h2,h3⟩
 ·refine ah h1 ?_;exact hR.ro ⟨rfl,by rw[h2];rfl⟩
 ·refine ah h2 ?_;exact hR.ro ⟨rfl,by rw[h3];rfl⟩
theorem q9 (s:Bs) (c:UInt8) (hs:s.length<=9223372036854775807):aw Tryz.prog 96 [.str s,.str [c]] (mW (cutP c s)):=by
 refine Cod.VK (λE R hN hR=>?_);refine wW ?_;refine an (Ql s c hs) rfl rfl ?_;simp(disch:=omega)only[go_sem,simprocAttr,mW];exact hR.ro ⟨rfl,rfl⟩
theorem Es {α:Type} (d:α):∀(l:List α) {k:Nat},k<l.length->l.take (k+1)=l.take k++[l.getD k d]
 | [],k,h=>by simp at h
 | x::r,0,h=>by simp
 | x::r,k+1,h=>by
  rw[aaA,Es d r (by simpa using h)];simp
end Go.Proofs.YtkdjbebgdoohjaaGreatDoor.Ob
namespace Go.Proofs.YtkdjbebgdoohjaaGreatDoor.Ob
open Eng
set_option maxRecDepth 10000
def dB (k:Nat):UInt8:=UInt8.ofNat (48+k)
theorem nf {n:Nat} (h:n<10):Lib.decDigits n=[dB n]:=by rw[Lib.decDigits,dif_pos h];rfl
theorem kR {n:Nat} (h:¬n<10):Lib.decDigits n=Lib.decDigits (n/10)++[dB (n%10)]:=by rw[Lib.decDigits,dif_neg h];rfl
theorem mX {k:Nat} (h:k<10):(dB k).toNat=48+k:=by
 unfold dB;rw[aaF];omega
theorem JZ (n:Nat):Lib.decDigits n≠[]:=by
 by_cases h:n<10
 ·rw[nf h];simp
 ·rw[kR h];simp
theorem u3:∀(f n:Nat),n<=f->∀b∈Lib.decDigits n,48<=b.toNat/\b.toNat<=57
 | 0,n,hf,b,hb=>by
  obtain rfl:n=0:=ZG;rw[nf ZG]at hb
  simp at hb;subst hb;decide
 | f+1,n,hf,b,hb=>by
  by_cases h:n<10
  ·rw[nf h]at hb;simp at hb;subst hb;rw[mX h];omega
  ·rw[kR h]at hb;rcases aax.1 hb with hb | hb;exact u3 f (n/10) ZG b hb
   ·simp at hb;subst hb;rw[mX ZG];omega
theorem u4:∀(k n:Nat),n<10^(k+1)↔(Lib.decDigits n).length<=k+1
 | 0,n=>by
  by_cases h:n<10
  ·rw[nf h];simp;omega
  ·rw[kR h];have:=aby.2 (JZ (n/10));simp only[ZJ,ZQ]
   omega
 | k+1,n=>by
  by_cases h:n<10
  ·rw[nf h];have:10^1<=10^(k+1+1):=ZY (by decide) ZG;simp only[ZQ];omega
  ·rw[kR h];have ih:=u4 k (n/10);have:n<10^(k+1+1)↔n/10<10^(k+1):=by rw[abh (by decide),abR 10 (k+1)]
   simp only[ZJ,ZQ];omega
def jJ (s:Bs):Option Nat:=
 match Lib.atoiAll s with
 | .ok v=>if 0<=v/\s.length<=9/\Lib.itoa v=s then some v.toNat else none
 | _=>none
theorem wc (n:Int) (h:n<=9223372036854775807) (h0:-9223372036854775808<=n):(Lib.itoa n).length<=20:=by
 unfold Lib.itoa;split
 ·have:=(u4 18 n.natAbs).1 ZG;simp only[Z0];omega
 ·have:=(u4 18 n.toNat).1 ZG;omega
def numA:Option Nat->AV
 | some n=>.ab [.int .i64 n,.bool true]
 | none=>.ab [.int .i64 0,.bool false]
theorem Sf (s:Bs) (hs:s.length<=140737488351232):aw Tryz.prog 160 [.str s] (numA (jJ s)):=by
 refine Cod.Si (λE R hN hR=>?_);refine wW ?_;refine dR (ox s hs) rfl ?_;rintro h' v as' ⟨rfl,hv⟩;unfold atoiA at hv;unfold jJ at hR;cases he:Lib.atoiAll s
 ·rename_i n;rw[he]at hv hR;simp only at hv hR;subst hv;have hb:=Lib.atoiAll_bounds he;refine⟨rfl,rfl,?_⟩;by_cases h1:n<0
  ·rw[if_neg ZG]at hR;refine wW ?_;refine gG ?_;exact hR.ro ⟨rfl,rfl⟩
  by_cases h2:s.length<=9
  ·refine wW ?_;refine gG ?_;refine fH (eS vV (px n ZG ZG) vV rfl rfl ?_);by_cases h3:Lib.itoa n=s
   ·rw[if_pos ⟨ZG,h2,h3⟩]at hR;refine ah h3 ?_;refine hR.ro ⟨rfl,?_⟩;rw[numA,show((n.toNat:Nat):Int)=n by omega]
   ·rw[if_neg (λh=>h3 h.2.2)]at hR;refine ah h3 ?_;exact hR.ro ⟨rfl,rfl⟩
  ·rw[if_neg (λh=>h2 h.2.1)]at hR;refine wW ?_;refine gG ?_;exact hR.ro ⟨rfl,rfl⟩
 ·rw[he]at hv hR;obtain⟨n,t,p,rfl⟩:=hv;refine⟨rfl,rfl,?_⟩;refine wW ?_;refine gG ?_;exact hR.ro ⟨rfl,rfl⟩
 ·rw[he]at hv hR;obtain⟨n,t,p,rfl⟩:=hv;refine⟨rfl,rfl,?_⟩;refine wW ?_;refine gG ?_;exact hR.ro ⟨rfl,rfl⟩
end Go.Proofs.YtkdjbebgdoohjaaGreatDoor.Ob
namespace Go.Proofs.YtkdjbebgdoohjaaGreatDoor.Ob
open Eng
set_option maxRecDepth 10000
def bS (k:Int):Bs:=if k=1 then[99,111,109,109,105,116]else if k=2 then[116,114,101,101]else if k=3 then[98,108,111,98]else if k=4 then[116,97,103]else[]
theorem wL (k:Int):aw Tryz.prog 163 [.int .i64 k] (.str (bS k)):=by
 refine Cod.Sz (λE R hN hR=>?_);unfold bS at hR;by_cases h1:k=1
 ·subst h1;refine wW ?_;exact hR.ro ⟨rfl,rfl⟩
 by_cases h2:k=2
 ·subst h2;refine wW ?_;exact hR.ro ⟨rfl,rfl⟩
 by_cases h3:k=3
 ·subst h3;refine wW ?_;exact hR.ro ⟨rfl,rfl⟩
 by_cases h4:k=4
 ·subst h4;refine wW ?_;exact hR.ro ⟨rfl,rfl⟩
 rw[if_neg h1,if_neg h2,if_neg h3,if_neg h4]at hR;refine wW ?_;exact hR.ro ⟨rfl,rfl⟩
theorem CB (k:Int):(bS k).length<=6:=by
 unfold bS
 repeat' (first | (split) | simp)
def gV (k:Int) (d:Bs):AV:=.agg [.int .i64 k,.str d]
def b7 (k:Int) (d:Bs):Int:=if bS k=[]then 10 else if 65000<d.length then 2 else 0
theorem IV (k:Int) (d:Bs) (hd:d.length<=9223372036854775807):aw Tryz.prog 162 [gV k d] (.int .i64 (b7 k d)):=by
 refine Cod.IX (λE R hN hR=>?_);unfold b7 at hR;simp(disch:=omega)only[go_sem,simprocAttr,gV];refine an (wL k) rfl rfl ?_;by_cases h1:bS k=[]
 ·rw[if_pos h1]at hR;refine ah h1 ?_;exact hR.ro ⟨rfl,rfl⟩
 ·rw[if_neg h1]at hR;by_cases h2:65000<d.length
  ·rw[if_pos h2]at hR;refine ah h1 ?_;exact hR.ro ⟨rfl,rfl⟩
  ·rw[if_neg h2]at hR;refine ah h1 ?_;exact hR.ro ⟨rfl,rfl⟩
def gM (k:Int) (d:Bs):Bs:=bS k++32::(Lib.itoa d.length++0::d)
def vg (k:Int) (d:Bs):AV:=if b7 k d=0 then .ab [.str (gM k d),.int .i64 0]else .ab [.str [],.int .i64 (b7 k d)]
theorem KU (k:Int) (d:Bs) (hd:d.length<=9223372036854775807):aw Tryz.prog 133 [gV k d] (vg k d):=by
 refine Cod.KV (λE R hN hR=>?_);unfold vg at hR;simp(disch:=omega)only[go_sem,simprocAttr,gV];refine an (IV k d hd) rfl rfl ?_;by_cases h:b7 k d=0
 ·rw[if_pos h]at hR
  have hl:d.length<=65000:=by
   unfold b7 at h;split at h
   ·cases h
   ·split at h
    ·cases h
    omega
  have hnl:=CB k;have hil:=wc d.length ZG ZG;have hi:=px d.length ZG ZG;refine ah h ?_;refine an (wL k) rfl rfl ?_;refine wW ?_;refine an hi rfl rfl ?_;refine wW ?_;refine hR.ro ⟨rfl,?_⟩;simp[gM]
 ·rw[if_neg h]at hR;refine ah h ?_;exact hR.ro ⟨rfl,rfl⟩
def rT (k:Int) (d:Bs):AV:=if b7 k d=0 then .ab [.str (Sh.bw (Sh.cS (gM k d))),.int .i64 0]else .ab [.str [],.int .i64 (b7 k d)]
theorem zG {k:Int} {d:Bs} (h:b7 k d=0):d.length<=65000:=by
 unfold b7 at h;split at h
 ·cases h
 ·split at h
  ·cases h
  omega
theorem XK (k:Int) {d:Bs} (h:d.length<=65000):(gM k d).length<=66000:=by
 have hnl:=CB k;have hil:=wc d.length ZG ZG;unfold gM;simp only[ZJ,Z0];omega
theorem BC (k:Int) (d:Bs) (hd:d.length<=9223372036854775807):aw Tryz.prog 101 [gV k d] (rT k d):=by
 refine Cod.Ss (λE R hN hR=>?_);have he:=KU k d hd;unfold vg at he;unfold rT at hR;by_cases h:b7 k d=0
 ·rw[if_pos h]at hR he;have hl:=XK k (zG h);have hs:=Sh.tD (gM k d) ZG;have hh:=Sh.ph (Sh.cS (gM k d)) (by rw[Sh.V7];omega);simp(disch:=omega)only[go_sem,simprocAttr,gV];refine an he rfl rfl ?_;refine wW ?_;refine an hs rfl rfl ?_;refine wW ?_;refine an hh rfl rfl ?_;refine wW ?_;exact hR.ro ⟨rfl,rfl⟩
 ·rw[if_neg h]at hR he;simp(disch:=omega)only[go_sem,simprocAttr,gV];refine an he rfl rfl ?_;refine ah h ?_;exact hR.ro ⟨rfl,rfl⟩
end Go.Proofs.YtkdjbebgdoohjaaGreatDoor.Ob
namespace Go.Proofs.YtkdjbebgdoohjaaGreatDoor.Ob
open Eng
set_option maxRecDepth 10000
def numI (o:Option Nat):Int:=match o with
 | some n=>n
 | none=>-1
end Go.Proofs.YtkdjbebgdoohjaaGreatDoor.Ob
namespace Go.Proofs.YtkdjbebgdoohjaaGreatDoor.Ob
open Eng
set_option maxRecDepth 10000
def k8 (s:Bs):Int:=if bS 1=s then 1 else if bS 2=s then 2 else if bS 3=s then 3 else if bS 4=s then 4 else 0
theorem Pg (s:Bs) (k:Nat) (h1:1<=k) (h4:k<=4) (hno:∀j:Nat,1<=j->j<k->bS j≠s) (hk:bS k=s):k8 s=k:=by
 unfold k8;have hc:k=1\/k=2\/k=3\/k=4:=ZG;rcases hc with rfl | rfl | rfl | rfl
 ·rw[if_pos (show bS 1=s from hk)];rfl
 ·rw[if_neg (show bS 1≠s from hno 1 ZG ZG),if_pos (show bS 2=s from hk)];rfl
 ·rw[if_neg (show bS 1≠s from hno 1 ZG ZG),if_neg (show bS 2≠s from hno 2 ZG ZG),if_pos (show bS 3=s from hk)];rfl
 ·rw[if_neg (show bS 1≠s from hno 1 ZG ZG),if_neg (show bS 2≠s from hno 2 ZG ZG),if_neg (show bS 3≠s from hno 3 ZG ZG),if_pos (show bS 4=s from hk)];rfl
theorem Ph (s:Bs) (hno:∀j:Nat,1<=j->j<5->bS j≠s):k8 s=0:=by
 unfold k8;rw[if_neg (show bS 1≠s from hno 1 ZG ZG),if_neg (show bS 2≠s from hno 2 ZG ZG),if_neg (show bS 3≠s from hno 3 ZG ZG),if_neg (show bS 4≠s from hno 4 ZG ZG)]
theorem Pm (s:Bs):aw Tryz.prog 161 [.str s] (.int .i64 (k8 s)):=by
 refine Cod.Pn (λE R hN hR=>?_);refine wW ?_;refine aP hN (λk:Nat=>⟨[(0,.str s),(3,.int .i64 k)],[]⟩) (λk=>1<=k/\k<=5/\∀j:Nat,1<=j->j<k->bS j≠s) (λk=>5-k) 1 (.le vV) ⟨ZG,ZG,λj h1 h2=>by omega⟩ ?_;rintro k R1 ⟨h1,h5,hno⟩ hR1;by_cases hlt:k<=4
 ·have hn:=wL k;refine wW ?_;refine an hn rfl rfl ?_;by_cases he:bS k=s
  ·refine ah he ?_;exact hR.ro ⟨rfl,by rw[Pg s k h1 hlt hno he]⟩
  ·refine ah he ?_;refine hR1 (k+1) _ ZG ⟨ZG,ZG,λj g1 g2=>?_⟩ (.le vV);by_cases hj:j=k
   ·subst hj;exact he
   exact hno j g1 ZG
 ·obtain rfl:k=5:=ZG;refine wW ?_;exact hR.ro ⟨rfl,by rw[Ph s hno]⟩
theorem q8 (c:UInt8):∀s:Bs,(cutP c s).1.length<=s.length/\(cutP c s).2.1.length<=s.length
 | []=>by simp[cutP]
 | x::r=>by
  have:=q8 c r;unfold cutP;split
  ·simp
  ·simp only[Z0];omega
def ng (s:Bs):Int×Bs×Int:=
 if(cutP 0 s).2.2=false\/(cutP 32 (cutP 0 s).1).2.2=false\/jJ (cutP 32 (cutP 0 s).1).2.1=none then(0,[],3)
 else if k8 (cutP 32 (cutP 0 s).1).1=0 then(0,[],10)
 else if 65000<numI (jJ (cutP 32 (cutP 0 s).1).2.1)then(0,[],2)
 else if((cutP 0 s).2.1.length:Int)<numI (jJ (cutP 32 (cutP 0 s).1).2.1)then(0,[],6)
 else if numI (jJ (cutP 32 (cutP 0 s).1).2.1)<((cutP 0 s).2.1.length:Int)then(0,[],3)
 else(k8 (cutP 32 (cutP 0 s).1).1,(cutP 0 s).2.1,0)
def ij (x:Int×Bs×Int):AV:=.ab [gV x.1 x.2.1,.int .i64 x.2.2]
theorem J5 (s:Bs) (hs:s.length<=140737488351232):aw Tryz.prog 132 [.str s] (ij (ng s)):=by
 refine Cod.J6 (λE R hN hR=>?_);have hl0:=q8 0 s;have hc0:=q9 s 0 ZG;unfold ng at hR;generalize hq:cutP 0 s=q at *
 obtain⟨head,data,ok⟩:=q;simp only at *
 have hl1:=q8 32 head;have hc1:=q9 head 32 ZG;generalize hq1:cutP 32 head=q1 at *
 obtain⟨name,size,blank⟩:=q1;simp only at *
 have hn:=Sf size ZG;have hk:=Pm name;rw[mW]at hc0 hc1;simp only at hc0 hc1;refine wW ?_;refine an hc0 rfl rfl ?_;refine wW ?_;refine an hc1 rfl rfl ?_;refine wW ?_;refine an hn rfl (by cases jJ size<;>rfl) ?_
 cases ok with
 | false=>
  rw[if_pos (.inl rfl)]at hR
  cases hO:jJ size with
  | none=>
   simp(disch:=omega)only[go_sem,simprocAttr,numA];refine gG ?_
   exact hR.ro ⟨rfl,rfl⟩
  | some n=>
   simp(disch:=omega)only[go_sem,simprocAttr,numA];refine gG ?_
   exact hR.ro ⟨rfl,rfl⟩
 | true=>
  cases blank with
  | false=>
   rw[if_pos (.inr (.inl rfl))]at hR
   cases hO:jJ size with
   | none=>
    simp(disch:=omega)only[go_sem,simprocAttr,numA];refine gG ?_
    exact hR.ro ⟨rfl,rfl⟩
   | some n=>
    simp(disch:=omega)only[go_sem,simprocAttr,numA];refine gG ?_
    exact hR.ro ⟨rfl,rfl⟩
  | true=>
   cases hO:jJ size with
   | none=>
    rw[if_pos (.inr (.inr hO))]at hR;simp(disch:=omega)only[go_sem,simprocAttr,numA];refine gG ?_
    exact hR.ro ⟨rfl,rfl⟩
   | some n=>
    rw[if_neg (by rw[hO];simp),hO,numI]at hR;simp(disch:=omega)only[go_sem,simprocAttr,numA];refine an hk rfl rfl ?_;by_cases h1:k8 name=0
    ·rw[if_pos h1]at hR;refine ah h1 ?_;exact hR.ro ⟨rfl,rfl⟩
    rw[if_neg h1]at hR;by_cases h2:65000<(n:Int)
    ·rw[if_pos h2]at hR;refine ah h1 ?_;exact hR.ro ⟨rfl,rfl⟩
    rw[if_neg h2]at hR;by_cases h3:(data.length:Int)<n
    ·rw[if_pos h3]at hR;refine ah h1 ?_;exact hR.ro ⟨rfl,rfl⟩
    rw[if_neg h3]at hR;by_cases h4:(n:Int)<data.length
    ·rw[if_pos h4]at hR;refine ah h1 ?_;exact hR.ro ⟨rfl,rfl⟩
    rw[if_neg h4]at hR;refine ah h1 ?_;refine an hk rfl rfl ?_;refine wW ?_;exact hR.ro ⟨rfl,rfl⟩
end Go.Proofs.YtkdjbebgdoohjaaGreatDoor.Ob
namespace Go.Proofs.YtkdjbebgdoohjaaGreatDoor.Cm
open Eng Ob
set_option maxRecDepth 10000
def numI (s:Bs):Option Int:=
 match Lib.atoiAll s with
 | .ok v=>if Lib.itoa v=s then some v else none
 | _=>none
theorem CM {s:Bs} {v:Int} (h:numI s=some v):Lib.itoa v=s/\Lib.atoiAll s=.ok v /\ -9223372036854775808<=v/\v<=9223372036854775807:=by
 unfold numI at h;split at h
 ·rename_i u hu;split at h
  ·rename_i he;obtain rfl:=Option.some.inj h;exact⟨he,hu,Lib.atoiAll_bounds hu⟩
  ·cases h
 ·cases h
theorem OH (n:Int):∀b∈Lib.itoa n,b.toNat=45\/(48<=b.toNat/\b.toNat<=57):=by
 intro b hb;unfold Lib.itoa at hb;split at hb
 ·rcases ZW.1 hb with rfl | hb;exact .inl rfl;exact .inr (u3 _ _ (ZM _) b hb)
 exact .inr (u3 _ _ (ZM _) b hb)
theorem OI (n:Int) (c:UInt8) (hc:c.toNat<45):c∉Lib.itoa n:=by
 intro h;have:=OH n c h;omega
def tw (k:Nat):Bs:=[dB (k/10),dB (k%10)]
def jX (n:Int):Bs:=(if n<0 then 45 else 43)::(tw (n.natAbs/60)++tw (n.natAbs%60))
def ga (c:UInt8):Bool:=decide (48<=c.toNat)&&decide (c.toNat<=57)
def dv (c:UInt8):Nat:=c.toNat-48
def zoneO (z:Bs):Option Int:=
 match z with
 | [s,a,b,c,d]=>
  if ga a=true/\ga b=true/\ga c=true/\ga d=true then
   if dv c*10+dv d<60/\(s=43\/s=45)/\z≠[45,48,48,48,48]then
    some (if s=45 then -((60*(dv a*10+dv b)+(dv c*10+dv d):Nat):Int)else((60*(dv a*10+dv b)+(dv c*10+dv d):Nat):Int))
   else none
  else none
 | _=>none
theorem nj {k:Nat} (h:k<10):dv (dB k)=k:=by unfold dv;rw[mX h];omega
theorem rX {k:Nat} (h:k<10):ga (dB k)=true:=by unfold ga;rw[mX h];simp;omega
theorem kQ {c:UInt8} (h:ga c=true):dB (dv c)=c:=by
 unfold ga at h;simp at h;apply UInt8.toNat.inj;unfold dv;rw[mX ZG];omega
theorem kS {c:UInt8} (h:ga c=true):dv c<10:=by
 unfold ga at h;simp at h;unfold dv;omega
theorem rf {i j:Nat} (hi:i<10) (hj:j<10) (h:dB i=dB j):i=j:=by
 have:=nj hi;rw[h,nj hj]at this;exact this.symm
theorem Zv (n:Int) (h0:-5999<=n) (h1:n<=5999):zoneO (jX n)=some n:=by
 have hh:n.natAbs/60<=99:=ZG;have hm:n.natAbs%60<60:=ZG;have hn:n.natAbs=60*(n.natAbs/60)+n.natAbs%60:=ZG;unfold jX tw zoneO;generalize ha:n.natAbs/60=h at hh hn;generalize hb:n.natAbs%60=m at hm hn;simp only[Z8,aac];rw[if_pos ⟨rX ZG,rX ZG,rX ZG,rX ZG⟩];rw[nj ZG,nj ZG,nj ZG,nj ZG];have e1:h/10*10+h%10=h:=ZG;have e2:m/10*10+m%10=m:=ZG;rw[e1,e2,<-hn];by_cases hneg:n<0
 ·rw[if_pos hneg,if_pos,if_pos rfl]
  ·congr 1;omega
  ·refine⟨hm,.inr rfl,λe=>?_⟩;have hz:dB 0=48:=rfl;rw[<-hz]at e;simp only[List.cons.injEq]at e;have k1:=rf ZG ZG e.2.1;have k2:=rf ZG ZG e.2.2.1;have k3:=rf ZG ZG e.2.2.2.1;have k4:=rf ZG ZG e.2.2.2.2.1;omega
 ·rw[if_neg hneg,if_pos,if_neg (by decide)]
  ·congr 1;omega
  exact⟨hm,.inl rfl,λe=>absurd (List.cons.inj e).1 (by decide)⟩
theorem yp {z:Bs} {n:Int} (h:zoneO z=some n):jX n=z /\ -5999<=n/\n<=5999:=by
 unfold zoneO at h;split at h
 ·rename_i s a b c d;split at h
  ·rename_i hd;obtain⟨da,db,dc,dd⟩:=hd;split at h
   ·rename_i hc;obtain⟨hm,hs,hz⟩:=hc;have hn:=Option.some.inj h;have la:=kS da;have lb:=kS db;have lc:=kS dc;have ld:=kS dd
    have hna:n.natAbs=60*(dv a*10+dv b)+(dv c*10+dv d):=by
     rw[<-hn];split<;>omega
    have eh:n.natAbs/60=dv a*10+dv b:=ZG;have em:n.natAbs%60=dv c*10+dv d:=ZG;have e1:(dv a*10+dv b)/10=dv a:=ZG;have e2:(dv a*10+dv b)%10=dv b:=ZG;have e3:(dv c*10+dv d)/10=dv c:=ZG;have e4:(dv c*10+dv d)%10=dv d:=ZG;refine⟨?_,ZG,ZG⟩;unfold jX tw;rw[eh,em,e1,e2,e3,e4,kQ da,kQ db,kQ dc,kQ dd];simp only[Z8,aac,List.cons.injEq,and_true];by_cases hs5:s=45
    ·subst hs5;rw[if_pos rfl]at hn;rw[if_pos];rcases abB (60*(dv a*10+dv b)+(dv c*10+dv d))with h0 | h0
     ·exfalso;apply hz
      have z1:a=48:=by rw[<-kQ da,show dv a=0 by omega];rfl
      have z2:b=48:=by rw[<-kQ db,show dv b=0 by omega];rfl
      have z3:c=48:=by rw[<-kQ dc,show dv c=0 by omega];rfl
      have z4:d=48:=by rw[<-kQ dd,show dv d=0 by omega];rfl
      rw[z1,z2,z3,z4]
     omega
    ·rw[if_neg hs5]at hn;rw[if_neg ZG];rcases hs with rfl | rfl;rfl
     exact absurd rfl hs5
   ·cases h
  ·cases h
 ·cases h
theorem Zx (n:Int) (h0:-5999<=n) (h1:n<=5999) (x:UInt8) (hx:x.toNat<43):x∉jX n:=by
 intro h;unfold jX tw at h;simp only[Z8,aac,ZW,abv,or_false]at h
 have hb:∀k,k<10->x=dB k->False:=by
  intro k hk e;subst e;rw[mX hk]at hx;omega
 rcases h with h | h | h | h | h
 ·split at h<;>(subst h;revert hx;decide)
 exact hb _ ZG h;exact hb _ ZG h;exact hb _ ZG h;exact hb _ ZG h
theorem Zz (h m:Nat) (hh:h<100) (hm:m<60):(Lib.itoa ((10000+h*100+m:Nat):Int)).drop 1=tw h++tw m:=by
 rw[Lib.itoa_nonneg];generalize hx:10000+h*100+m=x;rw[kR (n:=x) ZG,kR (n:=x/10) ZG,kR (n:=x/10/10) ZG,kR (n:=x/10/10/10) ZG,nf (n:=x/10/10/10/10) ZG];unfold tw;simp only[aad,Z8,aac,aav,aae];have e1:x/10/10/10%10=h/10:=ZG;have e2:x/10/10%10=h%10:=ZG;have e3:x/10%10=m/10:=ZG;have e4:x%10=m%10:=ZG;rw[e1,e2,e3,e4]
def lcut (c:UInt8):Bs->Option (Bs×Bs)
 | []=>none
 | x::r=>match lcut c r with
  | some (a,b)=>some (x::a,b)
  | none=>if x=c then some ([],r)else none
theorem B7 {c:UInt8}:∀{s:Bs},lcut c s=none->c∉s
 | [],_=>by simp
 | x::r,h=>by
  simp only[lcut]at h;split at h
  ·cases h
  ·rename_i hr;split at h
   ·cases h
   ·rename_i hx;simp only[ZW,not_or];exact⟨λe=>hx e.symm,B7 hr⟩
theorem wu {c:UInt8}:∀{s a b:Bs},lcut c s=some (a,b)->s=a++c::b/\c∉b
 | [],_,_,h=>by cases h
 | x::r,a,b,h=>by
  simp only[lcut]at h;split at h
  ·rename_i a' b' hr;obtain⟨rfl,rfl⟩:=Prod.mk.inj (Option.some.inj h);obtain⟨h1,h2⟩:=wu hr;exact⟨by rw[h1];rfl,h2⟩
  ·rename_i hr;split at h
   ·rename_i hx;obtain⟨rfl,rfl⟩:=Prod.mk.inj (Option.some.inj h);subst hx;exact⟨rfl,B7 hr⟩
   ·cases h
theorem wq {c:UInt8}:∀{s:Bs},c∉s->lcut c s=none
 | [],_=>rfl
 | x::r,h=>by
  simp only[ZW,not_or]at h;simp only[lcut,wq h.2];rw[if_neg (λe=>h.1 e.symm)]
theorem B6 {c:UInt8} {b:Bs} (hb:c∉b):∀a:Bs,lcut c (a++c::b)=some (a,b)
 | []=>by
  simp only[aac,lcut,wq hb,if_true]
 | x::r=>by
  simp only[Z8,lcut,B6 hb r]
structure Sg where
 dj:Bs
 time:Int
 eH:Int
 deriving DecidableEq
def jR (s:Sg):Bs:=s.dj++32::(Lib.itoa s.time++32::jX s.eH)
def signL (l:Bs):Option Sg:=
 match lcut 32 l with
 | none=>none
 | some (x,z)=>match lcut 32 x with
  | none=>none
  | some (w,t)=>match numI t with
   | none=>none
   | some tm=>match zoneO z with
    | none=>none
    | some zn=>some ⟨w,tm,zn⟩
def qB (s:Sg):Prop:=(-9223372036854775808<=s.time/\s.time<=9223372036854775807)/\(-5999<=s.eH/\s.eH<=5999)
theorem xL {l:Bs} {s:Sg} (h:signL l=some s):jR s=l/\qB s:=by
 unfold signL at h;split at h
 ·cases h
 rename_i x z hx;split at h
 ·cases h
 rename_i w t hw;split at h
 ·cases h
 rename_i tm ht;split at h
 ·cases h
 rename_i zn hz;obtain rfl:=Option.some.inj h;obtain⟨t1,_,t2,t3⟩:=CM ht;obtain⟨z1,z2,z3⟩:=yp hz;obtain⟨x1,_⟩:=wu hx;obtain⟨w1,_⟩:=wu hw;refine⟨?_,⟨t2,t3⟩,z2,z3⟩;unfold jR;simp only;rw[t1,z1,x1,w1];simp
theorem ZE (s:Sg) (h:qB s) (x:UInt8) (hx:x.toNat<32) (hw:x∉s.dj):x∉jR s:=by
 unfold jR;simp only[aax,ZW,not_or];exact⟨hw,λe=>by subst e;revert hx;decide,OI _ x ZG,λe=>by subst e;revert hx;decide,Zx _ h.2.1 h.2.2 x ZG⟩
def sf (s:Bs):Bool:=decide (1<=s.length)&&decide (s.length<=100)&&!s.contains 10&&!s.contains 0
def iG (s:Sg):Bool:=sf s.dj&&decide (0<=s.time)&&decide (s.time<=253402300799)&&decide (-840<=s.eH)&&decide (s.eH<=840)
def cz (w s:Bs):Option (Bs×Bs):=
 if(cutP 10 s).2.2=true/\(w++[32]) <+: (cutP 10 s).1 then some ((cutP 10 s).1.drop (w.length+1),(cutP 10 s).2.1)else none
theorem zQ {c:UInt8}:∀{s:Bs},(cutP c s).2.2=true->s=(cutP c s).1++c::(cutP c s).2.1/\c∉(cutP c s).1
 | [],h=>by cases h
 | x::r,h=>by
  by_cases hx:x=c
  ·subst hx;simp[cutP]
  ·simp only[cutP,hx,if_false]at h |-;obtain⟨h1,h2⟩:=zQ (s:=r) h;refine⟨by rw[Z8,<-h1],?_⟩;simp only[ZW,not_or];exact⟨λe=>hx e.symm,h2⟩
theorem pA {w s v r:Bs} (h:cz w s=some (v,r)):s=w++32::(v++10::r)/\10∉v:=by
 unfold cz at h;split at h
 ·rename_i hc;obtain⟨rfl,rfl⟩:=Prod.mk.inj (Option.some.inj h);obtain⟨h1,h2⟩:=zQ hc.1;obtain⟨t,ht⟩:=hc.2;rw[<-ht]at h1 h2 |-
  have e:(w++[32]++t).drop (w.length+1)=t:=by
   rw[aaD (by simp),acb (by simp)];rfl
  rw[e];refine⟨by simpa using h1,?_⟩;simp only[aax,not_or]at h2;exact h2.2
 ·cases h
theorem iA {w s v r:Bs} (h:cz w s=some (v,r)):s.length=w.length+v.length+r.length+2:=by
 rw[(pA h).1];simp;omega
def jW:Bs:=[116,114,101,101]
def jV:Bs:=[112,97,114,101,110,116]
def iI:Bs:=[97,117,116,104,111,114]
def iJ:Bs:=[99,111,109,109,105,116,116,101,114]
def kv:Bs:=[112,97,114,101,110,116,32]
def parL (s:Bs):Option (List Bs×Bs):=
 if kv <+: s then
  match h:cz jV s with
  | none=>none
  | some (v,r)=>
   have:r.length<s.length:=by have:=iA h;omega
   match parL r with
   | none=>none
   | some (ps,q)=>some (v::ps,q)
 else some ([],s)
termination_by s.length
theorem C5 {s:Bs} (h:¬kv <+: s):parL s=some ([],s):=by rw[parL,if_neg h]
theorem C6 {s:Bs} (h:kv <+: s) (hl:cz jV s=none):parL s=none:=by
 rw[parL,if_pos h];split;rfl
 ·rename_i hx;rw[hl]at hx;cases hx
theorem C4 {s v r:Bs} (h:kv <+: s) (hl:cz jV s=some (v,r)):parL s=(parL r).map λq=>(v::q.1,q.2):=by
 rw[parL,if_pos h];split
 ·rename_i hx;rw[hl]at hx;cases hx
 ·rename_i v' r' hx;rw[hl]at hx;obtain⟨rfl,rfl⟩:=Prod.mk.inj (Option.some.inj hx)
  cases parL r with
  | none=>rfl
  | some q=>rfl
def parT:List Bs->Bs
 | []=>[]
 | p::ps=>jV++32::(p++10::parT ps)
theorem w8:∀(n:Nat) {s q:Bs} {ps:List Bs},s.length<=n->parL s=some (ps,q)->s=parT ps++q/\¬kv <+: q/\∀p∈ps,10∉p
 | n,s,q,ps,hn,h=>by
  by_cases hp:kv <+: s
  ·cases hl:cz jV s with
   | none=>rw[C6 hp hl]at h;cases h
   | some vr=>
    obtain⟨v,r⟩:=vr;rw[C4 hp hl]at h
    cases hr:parL r with
    | none=>rw[hr]at h;cases h
    | some pq=>
     obtain⟨ps',q'⟩:=pq;rw[hr]at h;obtain⟨rfl,rfl⟩:=Prod.mk.inj (Option.some.inj h);have hlen:=iA hl;obtain⟨e1,e2⟩:=pA hl
     match n with
     | 0=>omega
     | n+1=>
      obtain⟨g1,g2,g3⟩:=w8 n (s:=r) ZG hr;refine⟨?_,g2,λp hpm=>?_⟩
      ·rw[e1,g1];simp[parT]
      ·rcases ZW.1 hpm with rfl | hpm;exact e2;exact g3 p hpm
  ·rw[C5 hp]at h;obtain⟨rfl,rfl⟩:=Prod.mk.inj (Option.some.inj h);exact⟨rfl,hp,by simp⟩
structure fW where
 tree:Bs
 parents:List Bs
 eI:Sg
 eJ:Sg
 msg:Bs
 deriving DecidableEq
def gM (c:fW):Bs:=jW++32::(c.tree++10::(parT c.parents++(iI++32::(jR c.eI++10::(iJ++32::(jR c.eJ++10::(10::c.msg)))))))
def iB:Bs->Option Bs
 | []=>none
 | c::r=>if c=10 then some r else none
def parseL (s:Bs):Option fW:=
 match cz jW s with
 | none=>none
 | some (t,s1)=>match parL s1 with
  | none=>none
  | some (ps,s2)=>match cz iI s2 with
   | none=>none
   | some (a,s3)=>match signL a with
    | none=>none
    | some sa=>match cz iJ s3 with
     | none=>none
     | some (b,s4)=>match signL b with
      | none=>none
      | some sb=>match iB s4 with
       | none=>none
       | some m=>some ⟨t,ps,sa,sb,m⟩
def E9 (c:fW):Prop:=10∉c.tree/\(∀p∈c.parents,10∉p)/\(qB c.eI/\10∉c.eI.dj)/\(qB c.eJ/\10∉c.eJ.dj)
theorem Rp {s m:Bs} (h:iB s=some m):s=10::m:=by
 cases s with
 | nil=>cases h
 | cons c r=>
  simp only[iB]at h;split at h
  ·rename_i hc;rw[hc,Option.some.inj h]
  ·cases h
theorem S8 {s:Bs} {c:fW} (h:parseL s=some c):gM c=s/\E9 c:=by
 unfold parseL at h;split at h
 ·cases h
 rename_i t s1 h1;split at h
 ·cases h
 rename_i ps s2 h2;split at h
 ·cases h
 rename_i a s3 h3;split at h
 ·cases h
 rename_i sa h4;split at h
 ·cases h
 rename_i b s4 h5;split at h
 ·cases h
 rename_i sb h6;split at h
 ·cases h
 rename_i m h7;obtain rfl:=Option.some.inj h;obtain⟨e1,n1⟩:=pA h1;obtain⟨e2,_,n2⟩:=w8 _ (ZM _) h2;obtain⟨e3,n3⟩:=pA h3;obtain⟨e4,n4⟩:=xL h4;obtain⟨e5,n5⟩:=pA h5;obtain⟨e6,n6⟩:=xL h6;have e7:=Rp h7;have w1:(10:UInt8)∉sa.dj:=λhm=>n3 (by rw[<-e4];unfold jR;exact aa4 _ hm);have w2:(10:UInt8)∉sb.dj:=λhm=>n5 (by rw[<-e6];unfold jR;exact aa4 _ hm);refine⟨?_,n1,n2,⟨n4,w1⟩,n6,w2⟩;unfold gM;simp only;rw[e4,e6,e1,e2,e3,e5,e7]
end Go.Proofs.YtkdjbebgdoohjaaGreatDoor.Cm
