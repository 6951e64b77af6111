/- The proof, part 22 of 51. -/
import Derived.Test.YtgghhaahnpbnmaaGreatDoorCartularyWalksU
import Derived.Lib.AtoiTie
import Derived.Lib.ItoaMem
import Derived.Lib.AppendIntMem
import Derived.Lib.AtoiErrMem
set_option linter.all false
namespace Go.Proofs.YtgghhaahnpbnmaaGreatDoor.Ob
open Eng
set_option maxRecDepth 10000
abbrev Bs:=List UInt8
theorem aaq {P:Program} {name:String} {g:Nat} {k:IntKind} {zs:List Int} {w:World} {cs:Array Value} {t:TypeId} {fz:Nat×Nat} (hg:P.globalNamed name=some g) (hw:w.heap[g]?=some (.cells cs t fz)) (he:cs=(zs.map λz=>Value.int k z).toArray):Lib.TabIs P w name k zs:=by
 unfold Lib.TabIs World.var?;rw[hg];simp only[aeQ,hw,he]
theorem cell_of {w:World} {g:Nat} {v:Value} {t:TypeId} {fz:Nat×Nat} (hw:w.heap[g]?=some (.cells #[v] t fz)):w.cell? ⟨g,0,none⟩=some v:=by
 simp[World.cell?,hw]
theorem Df {v:Value} (h:isIfV v=true):v=.nilIface\/∃t p,v=.iface t p:=by
 cases v<;>simp[isIfV]at h
 exact .inr ⟨_,_,rfl⟩;exact .inl rfl
theorem oJ (n:Int) (h0:-9223372036854775808<=n) (h1:n<=9223372036854775807):aw Tryz.prog 53 [.int .i64 n] (.str (Lib.itoa n)):=by
 refine y8 rfl rfl (λw hA=>?_);obtain⟨cs,t,fz,g1,g2⟩:=hA (3,_) (by unfold oC;simp only[adf,acZ,acW];exact .inl rfl);refine(Any.strconv_Itoa Tryz.laysM171 n h0 h1 w (aaq (by kernel_rfl) g1 g2)).mono ?_;rintro e w' ⟨rfl,k,os,rfl⟩;exact⟨rfl,Lib.below_grow _ _ (acG _) _ _⟩
def atoiA (s:Bs) (r:AV):Prop:=
 match Lib.atoiAll s with
 | .ok v=>r=.ab [.int .i64 v,.lit .nilIface]
 | _=>∃n t p,r=.ab [.int .i64 n,.lit (.iface t p)]
theorem pN (s:Bs) (hs:s.length<=140737488351232):Eng.Spec Tryz.prog 169 [] [.str s] (λh r _=>h=[]/\atoiA s r):=by
 refine Gg rfl (λw hA=>?_);have hl:(⟨s.toArray⟩:ByteArray).size<=140737488351232:=by simpa[ByteArray.size]using hs
 unfold atoiA;cases he:Lib.atoiAll s
 ·rename_i v;refine(Any.strconv_Atoi_ok Tryz.laysC172 ⟨s.toArray⟩ acB v he w).mono ?_;rintro e w' ⟨rfl,hw⟩;refine⟨_,rfl,rfl,rfl,?_⟩;rcases hw with rfl | ⟨t,rfl⟩;exact .refl _ _;exact Lib.bytesWorld_below _ _ _
 ·obtain⟨cs,t,fz,g1,v,rfl,g3⟩:=hA (6,_) (by unfold oC;simp only[adf,acZ,acW];exact .inr (.inl rfl));refine(Any.strconv_Atoi_syntax Tryz.laysC172 ⟨s.toArray⟩ acB he v w (cell_of g1) (Df g3)).mono ?_;rintro e w' ⟨N,rfl,_,_,hb⟩;exact⟨_,⟨_,_,_,rfl⟩,rfl,rfl,hb⟩
 ·obtain⟨cs,t,fz,g1,v,rfl,g3⟩:=hA (7,_) (by unfold oC;simp only[adf,acZ,acW];exact .inr (.inr (.inl rfl)));refine(Any.strconv_Atoi_range Tryz.laysC172 ⟨s.toArray⟩ acB he v w (cell_of g1) (Df g3)).mono ?_;rintro e w' ⟨N,rfl,_,_,hb⟩;exact⟨_,⟨_,_,_,rfl⟩,rfl,rfl,hb⟩
theorem QP (s:Bs) (c:UInt8):aw Tryz.prog 158 [.str s,.str [c]] (.int .i64 (Lib.indexByte s c)):=
 lj rfl rfl (λw=>Tryz.stringslite_Index_one ⟨s.toArray⟩ c w)
def cutP (c:UInt8):Bs->Bs×Bs×Bool
 | []=>([],[],false)
 | x::r=>if x=c then([],r,true)else(x::(cutP c r).1,(cutP c r).2)
theorem Bv (c:UInt8):∀s:Bs,(Lib.indexByte s c = -1/\cutP c s=(s,[],false))\/∃j:Nat,j<s.length/\Lib.indexByte s c=(j:Int)/\cutP c s=(s.take j,s.drop (j+1),true)
 | []=>.inl ⟨rfl,rfl⟩
 | x::r=>by
  by_cases hx:x=c
  ·subst hx;exact .inr ⟨0,by simp,by simp[Lib.indexByte],by simp[cutP]⟩
  ·have hb:(x==c)=false:=by simp[hx]
   rcases Bv c r with⟨h1,h2⟩ | ⟨j,h1,h2,h3⟩
   ·refine .inl ⟨by simp[Lib.indexByte,hb,h1],by simp[cutP,hx,h2]⟩
   ·refine .inr ⟨j+1,by simp;omega,?_,by simp[cutP,hx,h3]⟩;have hne:(Lib.indexByte r c == -1)=false:=by rw[h2];simp
    simp[Lib.indexByte,hb,hne,h2]
def nY (q:Bs×Bs×Bool):AV:=.ab [.str q.1,.str q.2.1,.bool q.2.2]
theorem Tz (s:Bs) (c:UInt8) (hs:s.length<=9223372036854775807):aw Tryz.prog 188 [.str s,.str [c]] (nY (cutP c s)):=by
 refine Cod.TA (λE R hN hR=>?_);refine wW ?_;refine aj (QP s c) rfl rfl ?_;rcases Bv c s with⟨h1,h2⟩ | ⟨j,h1,h2,h3⟩
 ·refine ah h1 ?_;exact hR.ro ⟨rfl,by rw[h2];rfl⟩
 ·refine ah h2 ?_;exact hR.ro ⟨rfl,by rw[h3];rfl⟩
theorem sO (s:Bs) (c:UInt8) (hs:s.length<=9223372036854775807):aw Tryz.prog 166 [.str s,.str [c]] (nY (cutP c s)):=by
 refine Cod.YB (λE R hN hR=>?_);refine wW ?_;refine aj (Tz s c hs) rfl rfl ?_;simp(disch:=omega)only[go_sem,simprocAttr,nY];exact hR.ro ⟨rfl,rfl⟩
theorem zm {α:Type} (d:α):∀(l:List α) {k:Nat},k<l.length->l.take (k+1)=l.take k++[l.getD k d]
 | [],k,h=>by simp at h
 | x::r,0,h=>by simp
 | x::r,k+1,h=>by
  rw[adF,zm d r (by simpa using h)];simp
theorem QQ {c:UInt8}:∀{s:Bs},c∉s->Lib.indexByte s c = -1
 | [],_=>rfl
 | x::r,h=>by
  simp only[acW,not_or]at h;have hb:(x==c)=false:=by simp only[beq_eq_false_iff_ne];exact λe=>h.1 e.symm
  simp[Lib.indexByte,hb,QQ h.2]
end Go.Proofs.YtgghhaahnpbnmaaGreatDoor.Ob
namespace Go.Proofs.YtgghhaahnpbnmaaGreatDoor.Ob
open Eng
set_option maxRecDepth 10000
def dB (k:Nat):UInt8:=UInt8.ofNat (48+k)
theorem lH {n:Nat} (h:n<10):Lib.decDigits n=[dB n]:=by rw[Lib.decDigits,dif_pos h];rfl
theorem kF {n:Nat} (h:¬n<10):Lib.decDigits n=Lib.decDigits (n/10)++[dB (n%10)]:=by rw[Lib.decDigits,dif_neg h];rfl
theorem mL {k:Nat} (h:k<10):(dB k).toNat=48+k:=by
 unfold dB;rw[ada];omega
theorem sS (n:Nat):Lib.decDigits n≠[]:=by
 by_cases h:n<10
 ·rw[lH h];simp
 ·rw[kF h];simp
theorem mM:∀(f n:Nat),n<=f->∀b∈Lib.decDigits n,48<=b.toNat/\b.toNat<=57
 | 0,n,hf,b,hb=>by
  obtain rfl:n=0:=acB;rw[lH acB]at hb
  simp at hb;subst hb;decide
 | f+1,n,hf,b,hb=>by
  by_cases h:n<10
  ·rw[lH h]at hb;simp at hb;subst hb;rw[mL h];omega
  ·rw[kF h]at hb;rcases adh.1 hb with hb | hb;exact mM f (n/10) acB b hb
   ·simp at hb;subst hb;rw[mL acB];omega
theorem BG (b:UInt8):∀(l:Bs) (acc:Nat),Lib.decFrom acc (l++[b])=(Lib.decFrom acc l).bind λm=>(Lib.digitVal b).map λd=>m*10+d
 | [],acc=>by
  simp only[adf,Lib.decFrom,aeQ]
  cases Lib.digitVal b<;>rfl
 | x::l,acc=>by
  simp only[acZ,Lib.decFrom]
  cases Lib.digitVal x with
  | none=>rfl
  | some d=>exact BG b l _
theorem wV {k:Nat} (h:k<10):Lib.digitVal (dB k)=some k:=by
 unfold Lib.digitVal;rw[mL h,if_pos acB]
 congr 1;omega
theorem wR:∀(f n:Nat),n<=f->Lib.decFrom 0 (Lib.decDigits n)=some n
 | 0,n,hf=>by
  obtain rfl:n=0:=acB;rw[lH acB]
  simp[Lib.decFrom,wV]
 | f+1,n,hf=>by
  by_cases h:n<10
  ·rw[lH h];simp[Lib.decFrom,wV h]
  ·rw[kF h,BG,wR f (n/10) acB,wV acB];simp;omega
theorem qh:∀(k n:Nat),n<10^(k+1)↔(Lib.decDigits n).length<=k+1
 | 0,n=>by
  by_cases h:n<10
  ·rw[lH h];simp;omega
  ·rw[kF h];have:=aeD.2 (sS (n/10));simp only[acD,acX]
   omega
 | k+1,n=>by
  by_cases h:n<10
  ·rw[lH h];have:10^1<=10^(k+1+1):=acQ (by decide) acB;simp only[acX];omega
  ·rw[kF h];have ih:=qh k (n/10);have:n<10^(k+1+1)↔n/10<10^(k+1):=by rw[aeo (by decide),aeg 10 (k+1)]
   simp only[acD,acX];omega
theorem Ms {n:Nat} (h:(Lib.decDigits n).length<=18):Lib.atoiAll (Lib.decDigits n)=.ok n:=by
 rw[Lib.atoiAll_short _ h];have hf:=wR n n (acG _);have hd:=mM n n (acG _)
 cases hl:Lib.decDigits n with
 | nil=>exact absurd hl (sS n)
 | cons b r=>
  rw[hl]at hf hd;have hb:=hd b (acU ..);have h1:(b==45)=false:=by simp only[beq_eq_false_iff_ne];intro e;subst e;simp at hb
  have h2:(b==43)=false:=by simp only[beq_eq_false_iff_ne];intro e;subst e;simp at hb
  simp only[Lib.atoi,h1,h2,Lib.decNat,List.isEmpty_cons,acT,if_false,hf,ac7];rfl
def fH (s:Bs):Option Nat:=
 match Lib.atoiAll s with
 | .ok v=>if 0<=v/\s.length<=9/\Lib.itoa v=s then some v.toNat else none
 | _=>none
theorem Vq {s:Bs} {y:Nat} (h:fH s=some y):Lib.itoa (y:Int)=s/\s.length<=9:=by
 unfold fH at h;split at h
 ·split at h
  ·rename_i v _ hc;obtain rfl:=Option.some.inj h;obtain⟨h1,h2,h3⟩:=hc;rw[show((v.toNat:Nat):Int)=v by omega];exact⟨h3,h2⟩
  ·cases h
 ·cases h
theorem Vo {n:Nat} (h:n<=999999999):fH (Lib.decDigits n)=some n:=by
 have hl:=(qh 8 n).1 acB;unfold fH;rw[Ms acB];simp only;rw[if_pos ⟨acB,hl,Lib.itoa_nonneg n⟩];simp
theorem Vp (n:Int):fH (Lib.itoa n)=if 0<=n/\n<=999999999 then some n.toNat else none:=by
 by_cases h:0<=n/\n<=999999999
 ·rw[if_pos h];obtain⟨m,rfl⟩:=adg h.1;rw[Lib.itoa_nonneg,Vo acB];simp
 ·rw[if_neg h]
  cases hn:fH (Lib.itoa n)with
  | none=>rfl
  | some y=>
   obtain⟨h1,h2⟩:=Vq hn
   exfalso
   rw[Lib.itoa_nonneg]at h1;by_cases h0:0<=n
   ·obtain⟨m,rfl⟩:=adg h0;rw[Lib.itoa_nonneg]at h1 h2;have:=(qh 8 m).2 acB;omega
   ·have e:Lib.itoa n=45::Lib.decDigits n.natAbs:=by unfold Lib.itoa;rw[if_pos acB]
    rw[e]at h1;have:=mM y y (acG _) 45 (by rw[h1];exact acU ..);simp at this
theorem lU (n:Int) (h:n<=9223372036854775807) (h0:-9223372036854775808<=n):(Lib.itoa n).length<=20:=by
 unfold Lib.itoa;split
 ·have:=(qh 18 n.natAbs).1 acB;simp only[acH];omega
 ·have:=(qh 18 n.toNat).1 acB;omega
def numA:Option Nat->AV
 | some n=>.ab [.int .i64 n,.bool true]
 | none=>.ab [.int .i64 0,.bool false]
theorem Vu (s:Bs) (hs:s.length<=140737488351232):aw Tryz.prog 199 [.str s] (numA (fH s)):=by
 refine Cod.Vv (λE R hN hR=>?_);refine wW ?_;refine dJ (pN s hs) rfl ?_;rintro h' v as' ⟨rfl,hv⟩;unfold atoiA at hv;unfold fH at hR;cases he:Lib.atoiAll s
 ·rename_i n;rw[he]at hv hR;simp only at hv hR;subst hv;have hb:=Lib.atoiAll_bounds he;refine⟨rfl,rfl,?_⟩;by_cases h1:n<0
  ·rw[if_neg acB]at hR;refine wW ?_;refine gG ?_;exact hR.ro ⟨rfl,rfl⟩
  by_cases h2:s.length<=9
  ·refine wW ?_;refine gG ?_;refine jt (iv vV (oJ n acB acB) vV rfl rfl ?_);by_cases h3:Lib.itoa n=s
   ·rw[if_pos ⟨acB,h2,h3⟩]at hR;refine ah h3 ?_;refine hR.ro ⟨rfl,?_⟩;rw[numA,show((n.toNat:Nat):Int)=n by omega]
   ·rw[if_neg (λh=>h3 h.2.2)]at hR;refine ah h3 ?_;exact hR.ro ⟨rfl,rfl⟩
  ·rw[if_neg (λh=>h2 h.2.1)]at hR;refine wW ?_;refine gG ?_;exact hR.ro ⟨rfl,rfl⟩
 ·rw[he]at hv hR;obtain⟨n,t,p,rfl⟩:=hv;refine⟨rfl,rfl,?_⟩;refine wW ?_;refine gG ?_;exact hR.ro ⟨rfl,rfl⟩
 ·rw[he]at hv hR;obtain⟨n,t,p,rfl⟩:=hv;refine⟨rfl,rfl,?_⟩;refine wW ?_;refine gG ?_;exact hR.ro ⟨rfl,rfl⟩
end Go.Proofs.YtgghhaahnpbnmaaGreatDoor.Ob
namespace Go.Proofs.YtgghhaahnpbnmaaGreatDoor.Ob
open Eng
set_option maxRecDepth 10000
def bE (k:Int):Bs:=if k=1 then[99,111,109,109,105,116]else if k=2 then[116,114,101,101]else if k=3 then[98,108,111,98]else if k=4 then[116,97,103]else[]
theorem ym (k:Int):aw Tryz.prog 56 [.int .i64 k] (.str (bE k)):=by
 refine Cod.VI (λE R hN hR=>?_);unfold bE at hR;by_cases h1:k=1
 ·subst h1;refine wW ?_;exact hR.ro ⟨rfl,rfl⟩
 by_cases h2:k=2
 ·subst h2;refine wW ?_;exact hR.ro ⟨rfl,rfl⟩
 by_cases h3:k=3
 ·subst h3;refine wW ?_;exact hR.ro ⟨rfl,rfl⟩
 by_cases h4:k=4
 ·subst h4;refine wW ?_;exact hR.ro ⟨rfl,rfl⟩
 rw[if_neg h1,if_neg h2,if_neg h3,if_neg h4]at hR;refine wW ?_;exact hR.ro ⟨rfl,rfl⟩
theorem qQ (k:Int):(bE k).length<=6:=by
 unfold bE
 repeat' (first | (split) | simp)
def ft (k:Int) (d:Bs):AV:=.agg [.int .i64 k,.str d]
def aY (k:Int) (d:Bs):Int:=if bE k=[]then 10 else if 65000<d.length then 2 else 0
theorem K9 (k:Int) (d:Bs) (hd:d.length<=9223372036854775807):aw Tryz.prog 55 [ft k d] (.int .i64 (aY k d)):=by
 refine Cod.Lb (λE R hN hR=>?_);unfold aY at hR;simp(disch:=omega)only[go_sem,simprocAttr,ft];refine aj (ym k) rfl rfl ?_;by_cases h1:bE k=[]
 ·rw[if_pos h1]at hR;refine ah h1 ?_;exact hR.ro ⟨rfl,rfl⟩
 ·rw[if_neg h1]at hR;by_cases h2:65000<d.length
  ·rw[if_pos h2]at hR;refine ah h1 ?_;exact hR.ro ⟨rfl,rfl⟩
  ·rw[if_neg h2]at hR;refine ah h1 ?_;exact hR.ro ⟨rfl,rfl⟩
def aU (k:Int) (d:Bs):Bs:=bE k++32::(Lib.itoa d.length++0::d)
def ta (k:Int) (d:Bs):AV:=if aY k d=0 then .ab [.str (aU k d),.int .i64 0]else .ab [.str [],.int .i64 (aY k d)]
theorem B6 (k:Int) (d:Bs) (hd:d.length<=9223372036854775807):aw Tryz.prog 22 [ft k d] (ta k d):=by
 refine Cod.Nv (λE R hN hR=>?_);unfold ta at hR;simp(disch:=omega)only[go_sem,simprocAttr,ft];refine aj (K9 k d hd) rfl rfl ?_;by_cases h:aY k d=0
 ·rw[if_pos h]at hR
  have hl:d.length<=65000:=by
   unfold aY at h;split at h
   ·cases h
   ·split at h
    ·cases h
    omega
  have hnl:=qQ k;have hil:=lU d.length acB acB;have hi:=oJ d.length acB acB;refine ah h ?_;refine aj (ym k) rfl rfl ?_;refine wW ?_;refine aj hi rfl rfl ?_;refine wW ?_;refine hR.ro ⟨rfl,?_⟩;simp[aU]
 ·rw[if_neg h]at hR;refine ah h ?_;exact hR.ro ⟨rfl,rfl⟩
def oG (k:Int) (d:Bs):AV:=if aY k d=0 then .ab [.str (Sh.b7 (Sh.dR (aU k d))),.int .i64 0]else .ab [.str [],.int .i64 (aY k d)]
theorem wG {k:Int} {d:Bs} (h:aY k d=0):d.length<=65000:=by
 unfold aY at h;split at h
 ·cases h
 ·split at h
  ·cases h
  omega
theorem aaw (k:Int) {d:Bs} (h:d.length<=65000):(aU k d).length<=66000:=by
 have hnl:=qQ k;have hil:=lU d.length acB acB;unfold aU;simp only[acD,acH];omega
theorem tR (k:Int) (d:Bs) (hd:d.length<=9223372036854775807):aw Tryz.prog 8 [ft k d] (oG k d):=by
 refine Cod.VD (λE R hN hR=>?_);have he:=B6 k d hd;unfold ta at he;unfold oG at hR;by_cases h:aY k d=0
 ·rw[if_pos h]at hR he;have hl:=aaw k (wG h);have hs:=Sh.zj (aU k d) acB;have hh:=Sh.qz (Sh.dR (aU k d)) (by rw[Sh.F5];omega);simp(disch:=omega)only[go_sem,simprocAttr,ft];refine aj he rfl rfl ?_;refine wW ?_;refine aj hs rfl rfl ?_;refine wW ?_;refine aj hh rfl rfl ?_;refine wW ?_;exact hR.ro ⟨rfl,rfl⟩
 ·rw[if_neg h]at hR he;simp(disch:=omega)only[go_sem,simprocAttr,ft];refine aj he rfl rfl ?_;refine ah h ?_;exact hR.ro ⟨rfl,rfl⟩
end Go.Proofs.YtgghhaahnpbnmaaGreatDoor.Ob
namespace Go.Proofs.YtgghhaahnpbnmaaGreatDoor.Ob
open Eng
set_option maxRecDepth 10000
def numI (o:Option Nat):Int:=match o with
 | some n=>n
 | none=>-1
end Go.Proofs.YtgghhaahnpbnmaaGreatDoor.Ob
namespace Go.Proofs.YtgghhaahnpbnmaaGreatDoor.Ob
open Eng
set_option maxRecDepth 10000
def kP (s:Bs):Int:=if bE 1=s then 1 else if bE 2=s then 2 else if bE 3=s then 3 else if bE 4=s then 4 else 0
theorem Sp (s:Bs) (k:Nat) (h1:1<=k) (h4:k<=4) (hno:∀j:Nat,1<=j->j<k->bE j≠s) (hk:bE k=s):kP s=k:=by
 unfold kP;have hc:k=1\/k=2\/k=3\/k=4:=acB;rcases hc with rfl | rfl | rfl | rfl
 ·rw[if_pos (show bE 1=s from hk)];rfl
 ·rw[if_neg (show bE 1≠s from hno 1 acB acB),if_pos (show bE 2=s from hk)];rfl
 ·rw[if_neg (show bE 1≠s from hno 1 acB acB),if_neg (show bE 2≠s from hno 2 acB acB),if_pos (show bE 3=s from hk)];rfl
 ·rw[if_neg (show bE 1≠s from hno 1 acB acB),if_neg (show bE 2≠s from hno 2 acB acB),if_neg (show bE 3≠s from hno 3 acB acB),if_pos (show bE 4=s from hk)];rfl
theorem Sq (s:Bs) (hno:∀j:Nat,1<=j->j<5->bE j≠s):kP s=0:=by
 unfold kP;rw[if_neg (show bE 1≠s from hno 1 acB acB),if_neg (show bE 2≠s from hno 2 acB acB),if_neg (show bE 3≠s from hno 3 acB acB),if_neg (show bE 4≠s from hno 4 acB acB)]
theorem Ss (s:Bs):aw Tryz.prog 200 [.str s] (.int .i64 (kP s)):=by
 refine Cod.Su (λE R hN hR=>?_);refine wW ?_;refine aJ hN (λk:Nat=>⟨[(0,.str s),(3,.int .i64 k)],[]⟩) (λk=>1<=k/\k<=5/\∀j:Nat,1<=j->j<k->bE j≠s) (λk=>5-k) 1 (.le vV) ⟨acB,acB,λj h1 h2=>by omega⟩ ?_;rintro k R1 ⟨h1,h5,hno⟩ hR1;by_cases hlt:k<=4
 ·have hn:=ym k;refine wW ?_;refine aj hn rfl rfl ?_;by_cases he:bE k=s
  ·refine ah he ?_;exact hR.ro ⟨rfl,by rw[Sp s k h1 hlt hno he]⟩
  ·refine ah he ?_;refine hR1 (k+1) _ acB ⟨acB,acB,λj g1 g2=>?_⟩ (.le vV);by_cases hj:j=k
   ·subst hj;exact he
   exact hno j g1 acB
 ·obtain rfl:k=5:=acB;refine wW ?_;exact hR.ro ⟨rfl,by rw[Sq s hno]⟩
theorem sN (c:UInt8):∀s:Bs,(cutP c s).1.length<=s.length/\(cutP c s).2.1.length<=s.length
 | []=>by simp[cutP]
 | x::r=>by
  have:=sN c r;unfold cutP;split
  ·simp
  ·simp only[acH];omega
def lI (s:Bs):Int×Bs×Int:=
 if(cutP 0 s).2.2=false\/(cutP 32 (cutP 0 s).1).2.2=false\/fH (cutP 32 (cutP 0 s).1).2.1=none then(0,[],3)
 else if kP (cutP 32 (cutP 0 s).1).1=0 then(0,[],10)
 else if 65000<numI (fH (cutP 32 (cutP 0 s).1).2.1)then(0,[],2)
 else if((cutP 0 s).2.1.length:Int)<numI (fH (cutP 32 (cutP 0 s).1).2.1)then(0,[],6)
 else if numI (fH (cutP 32 (cutP 0 s).1).2.1)<((cutP 0 s).2.1.length:Int)then(0,[],3)
 else(kP (cutP 32 (cutP 0 s).1).1,(cutP 0 s).2.1,0)
def iL (x:Int×Bs×Int):AV:=.ab [ft x.1 x.2.1,.int .i64 x.2.2]
theorem MB (s:Bs) (hs:s.length<=140737488351232):aw Tryz.prog 178 [.str s] (iL (lI s)):=by
 refine Cod.MC (λE R hN hR=>?_);have hl0:=sN 0 s;have hc0:=sO s 0 acB;unfold lI at hR;generalize hq:cutP 0 s=q at *
 obtain⟨head,data,ok⟩:=q;simp only at *
 have hl1:=sN 32 head;have hc1:=sO head 32 acB;generalize hq1:cutP 32 head=q1 at *
 obtain⟨name,size,blank⟩:=q1;simp only at *
 have hn:=Vu size acB;have hk:=Ss name;rw[nY]at hc0 hc1;simp only at hc0 hc1;refine wW ?_;refine aj hc0 rfl rfl ?_;refine wW ?_;refine aj hc1 rfl rfl ?_;refine wW ?_;refine aj hn rfl (by cases fH size<;>rfl) ?_
 cases ok with
 | false=>
  rw[if_pos (.inl rfl)]at hR
  cases hO:fH size with
  | none=>
   simp(disch:=omega)only[go_sem,simprocAttr,numA];refine gG ?_
   exact hR.ro ⟨rfl,rfl⟩
  | some n=>
   simp(disch:=omega)only[go_sem,simprocAttr,numA];refine gG ?_
   exact hR.ro ⟨rfl,rfl⟩
 | true=>
  cases blank with
  | false=>
   rw[if_pos (.inr (.inl rfl))]at hR
   cases hO:fH size with
   | none=>
    simp(disch:=omega)only[go_sem,simprocAttr,numA];refine gG ?_
    exact hR.ro ⟨rfl,rfl⟩
   | some n=>
    simp(disch:=omega)only[go_sem,simprocAttr,numA];refine gG ?_
    exact hR.ro ⟨rfl,rfl⟩
  | true=>
   cases hO:fH size with
   | none=>
    rw[if_pos (.inr (.inr hO))]at hR;simp(disch:=omega)only[go_sem,simprocAttr,numA];refine gG ?_
    exact hR.ro ⟨rfl,rfl⟩
   | some n=>
    rw[if_neg (by rw[hO];simp),hO,numI]at hR;simp(disch:=omega)only[go_sem,simprocAttr,numA];refine aj hk rfl rfl ?_;by_cases h1:kP name=0
    ·rw[if_pos h1]at hR;refine ah h1 ?_;exact hR.ro ⟨rfl,rfl⟩
    rw[if_neg h1]at hR;by_cases h2:65000<(n:Int)
    ·rw[if_pos h2]at hR;refine ah h1 ?_;exact hR.ro ⟨rfl,rfl⟩
    rw[if_neg h2]at hR;by_cases h3:(data.length:Int)<n
    ·rw[if_pos h3]at hR;refine ah h1 ?_;exact hR.ro ⟨rfl,rfl⟩
    rw[if_neg h3]at hR;by_cases h4:(n:Int)<data.length
    ·rw[if_pos h4]at hR;refine ah h1 ?_;exact hR.ro ⟨rfl,rfl⟩
    rw[if_neg h4]at hR;refine ah h1 ?_;refine aj hk rfl rfl ?_;refine wW ?_;exact hR.ro ⟨rfl,rfl⟩
end Go.Proofs.YtgghhaahnpbnmaaGreatDoor.Ob
namespace Go.Proofs.YtgghhaahnpbnmaaGreatDoor.Cm
open Eng Ob
set_option maxRecDepth 10000
theorem MG {c:UInt8} {d:Nat} (h:Lib.digitVal c=some d):48<=c.toNat/\c.toNat<=57/\d=c.toNat-48:=by
 unfold Lib.digitVal at h;split at h
 ·rename_i hc;exact⟨hc.1,hc.2,(Option.some.inj h).symm⟩
 ·cases h
theorem BF:∀(l:Bs) (acc m:Nat),Lib.decFrom acc l=some m->acc<=m
 | [],acc,m,h=>by simp[Lib.decFrom]at h;omega
 | c::r,acc,m,h=>by
  simp only[Lib.decFrom]at h;split at h
  ·have:=BF r _ m h;omega
  ·cases h
theorem EV:∀(l:Bs) (acc m:Nat),Lib.decFrom acc l=some m->m<18446744073709551616->Lib.parseUint10 acc l=.ok m
 | [],acc,m,h,_=>by simp[Lib.decFrom]at h;subst h;rfl
 | c::r,acc,m,h,hm=>by
  simp only[Lib.decFrom]at h;split at h
  ·rename_i d hd;have hle:=BF r _ m h;obtain⟨h1,h2,h3⟩:=MG hd;subst h3;rw[Lib.parseUint10,if_pos ⟨h1,h2⟩,if_neg acB,if_neg acB];exact EV r _ m h hm
  ·cases h
theorem DR {n:Nat} (h:n<18446744073709551616):Lib.parseMag (Lib.decDigits n)=.ok n:=by
 unfold Lib.parseMag;rw[if_neg (sS n)];exact EV _ 0 n (wR n n (acG _)) h
theorem IP (n:Int) (h0:-9223372036854775808<=n) (h1:n<=9223372036854775807):Lib.atoiAll (Lib.itoa n)=.ok n:=by
 by_cases h:n<0
 ·have e:Lib.itoa n=45::Lib.decDigits n.natAbs:=by unfold Lib.itoa;rw[if_pos h]
  rw[e];unfold Lib.atoiAll;simp only[UInt8.reduceToNat,or_true,if_true,DR (show n.natAbs<18446744073709551616 by omega)];rw[if_neg (by simp),if_neg acB]
  congr 1;omega
 ·have e:Lib.itoa n=Lib.decDigits n.toNat:=by unfold Lib.itoa;rw[if_neg h]
  rw[e];have hm:=DR (show n.toNat<18446744073709551616 by omega);have hd:=mM n.toNat n.toNat (acG _)
  cases hl:Lib.decDigits n.toNat with
  | nil=>exact absurd hl (sS _)
  | cons b r=>
   rw[hl]at hm hd;have hb:=hd b (acU ..);unfold Lib.atoiAll;have hc:¬b.toNat=43:=acB;have hc2:¬b.toNat=45:=acB;simp only[hc,hc2,if_false,hm,not_false_eq_true,true_and,false_and,or_self];rw[if_neg acB]
   congr 1;omega
def numI (s:Bs):Option Int:=
 match Lib.atoiAll s with
 | .ok v=>if Lib.itoa v=s then some v else none
 | _=>none
theorem Et {s:Bs} {v:Int} (h:numI s=some v):Lib.itoa v=s/\Lib.atoiAll s=.ok v /\ -9223372036854775808<=v/\v<=9223372036854775807:=by
 unfold numI at h;split at h
 ·rename_i u hu;split at h
  ·rename_i he;obtain rfl:=Option.some.inj h;exact⟨he,hu,Lib.atoiAll_bounds hu⟩
  ·cases h
 ·cases h
theorem Vn (n:Int) (h0:-9223372036854775808<=n) (h1:n<=9223372036854775807):numI (Lib.itoa n)=some n:=by
 unfold numI;rw[IP n h0 h1];simp
theorem RA (n:Int):∀b∈Lib.itoa n,b.toNat=45\/(48<=b.toNat/\b.toNat<=57):=by
 intro b hb;unfold Lib.itoa at hb;split at hb
 ·rcases acW.1 hb with rfl | hb;exact .inl rfl;exact .inr (mM _ _ (acG _) b hb)
 exact .inr (mM _ _ (acG _) b hb)
theorem tW (n:Int) (c:UInt8) (hc:c.toNat<45):c∉Lib.itoa n:=by
 intro h;have:=RA n c h;omega
def tw (k:Nat):Bs:=[dB (k/10),dB (k%10)]
def gR (n:Int):Bs:=(if n<0 then 45 else 43)::(tw (n.natAbs/60)++tw (n.natAbs%60))
def gz (c:UInt8):Bool:=decide (48<=c.toNat)&&decide (c.toNat<=57)
def dv (c:UInt8):Nat:=c.toNat-48
def zoneO (z:Bs):Option Int:=
 match z with
 | [s,a,b,c,d]=>
  if gz a=true/\gz b=true/\gz c=true/\gz d=true then
   if dv c*10+dv d<60/\(s=43\/s=45)/\z≠[45,48,48,48,48]then
    some (if s=45 then -((60*(dv a*10+dv b)+(dv c*10+dv d):Nat):Int)else((60*(dv a*10+dv b)+(dv c*10+dv d):Nat):Int))
   else none
  else none
 | _=>none
theorem oe {k:Nat} (h:k<10):dv (dB k)=k:=by unfold dv;rw[mL h];omega
theorem tU {k:Nat} (h:k<10):gz (dB k)=true:=by unfold gz;rw[mL h];simp;omega
theorem lG {c:UInt8} (h:gz c=true):dB (dv c)=c:=by
 unfold gz at h;simp at h;apply UInt8.toNat.inj;unfold dv;rw[mL acB];omega
theorem lJ {c:UInt8} (h:gz c=true):dv c<10:=by
 unfold gz at h;simp at h;unfold dv;omega
theorem sR {i j:Nat} (hi:i<10) (hj:j<10) (h:dB i=dB j):i=j:=by
 have:=oe hi;rw[h,oe hj]at this;exact this.symm
theorem Hj (n:Int) (h0:-5999<=n) (h1:n<=5999):zoneO (gR n)=some n:=by
 have hh:n.natAbs/60<=99:=acB;have hm:n.natAbs%60<60:=acB;have hn:n.natAbs=60*(n.natAbs/60)+n.natAbs%60:=acB;unfold gR tw zoneO;generalize ha:n.natAbs/60=h at hh hn;generalize hb:n.natAbs%60=m at hm hn;simp only[acZ,adf];rw[if_pos ⟨tU acB,tU acB,tU acB,tU acB⟩];rw[oe acB,oe acB,oe acB,oe acB];have e1:h/10*10+h%10=h:=acB;have e2:m/10*10+m%10=m:=acB;rw[e1,e2,<-hn];by_cases hneg:n<0
 ·rw[if_pos hneg,if_pos,if_pos rfl]
  ·congr 1;omega
  ·refine⟨hm,.inr rfl,λe=>?_⟩;have hz:dB 0=48:=rfl;rw[<-hz]at e;simp only[List.cons.injEq]at e;have k1:=sR acB acB e.2.1;have k2:=sR acB acB e.2.2.1;have k3:=sR acB acB e.2.2.2.1;have k4:=sR acB acB e.2.2.2.2.1;omega
 ·rw[if_neg hneg,if_pos,if_neg (by decide)]
  ·congr 1;omega
  exact⟨hm,.inl rfl,λe=>absurd (List.cons.inj e).1 (by decide)⟩
theorem zJ {z:Bs} {n:Int} (h:zoneO z=some n):gR n=z /\ -5999<=n/\n<=5999:=by
 unfold zoneO at h;split at h
 ·rename_i s a b c d;split at h
  ·rename_i hd;obtain⟨da,db,dc,dd⟩:=hd;split at h
   ·rename_i hc;obtain⟨hm,hs,hz⟩:=hc;have hn:=Option.some.inj h;have la:=lJ da;have lb:=lJ db;have lc:=lJ dc;have ld:=lJ dd
    have hna:n.natAbs=60*(dv a*10+dv b)+(dv c*10+dv d):=by
     rw[<-hn];split<;>omega
    have eh:n.natAbs/60=dv a*10+dv b:=acB;have em:n.natAbs%60=dv c*10+dv d:=acB;have e1:(dv a*10+dv b)/10=dv a:=acB;have e2:(dv a*10+dv b)%10=dv b:=acB;have e3:(dv c*10+dv d)/10=dv c:=acB;have e4:(dv c*10+dv d)%10=dv d:=acB;refine⟨?_,acB,acB⟩;unfold gR tw;rw[eh,em,e1,e2,e3,e4,lG da,lG db,lG dc,lG dd];simp only[acZ,adf,List.cons.injEq,and_true];by_cases hs5:s=45
    ·subst hs5;rw[if_pos rfl]at hn;rw[if_pos];rcases aeF (60*(dv a*10+dv b)+(dv c*10+dv d))with h0 | h0
     ·exfalso;apply hz
      have z1:a=48:=by rw[<-lG da,show dv a=0 by omega];rfl
      have z2:b=48:=by rw[<-lG db,show dv b=0 by omega];rfl
      have z3:c=48:=by rw[<-lG dc,show dv c=0 by omega];rfl
      have z4:d=48:=by rw[<-lG dd,show dv d=0 by omega];rfl
      rw[z1,z2,z3,z4]
     omega
    ·rw[if_neg hs5]at hn;rw[if_neg acB];rcases hs with rfl | rfl;rfl
     exact absurd rfl hs5
   ·cases h
  ·cases h
 ·cases h
theorem Hk (n:Int):(gR n).length=5:=rfl
theorem Hl (n:Int) (h0:-5999<=n) (h1:n<=5999) (x:UInt8) (hx:x.toNat<43):x∉gR n:=by
 intro h;unfold gR tw at h;simp only[acZ,adf,acW,aeR,or_false]at h
 have hb:∀k,k<10->x=dB k->False:=by
  intro k hk e;subst e;rw[mL hk]at hx;omega
 rcases h with h | h | h | h | h
 ·split at h<;>(subst h;revert hx;decide)
 exact hb _ acB h;exact hb _ acB h;exact hb _ acB h;exact hb _ acB h
theorem acs (h m:Nat) (hh:h<100) (hm:m<60):(Lib.itoa ((10000+h*100+m:Nat):Int)).drop 1=tw h++tw m:=by
 rw[Lib.itoa_nonneg];generalize hx:10000+h*100+m=x;rw[kF (n:=x) acB,kF (n:=x/10) acB,kF (n:=x/10/10) acB,kF (n:=x/10/10/10) acB,lH (n:=x/10/10/10/10) acB];unfold tw;simp only[ade,acZ,adf,adw,adp];have e1:x/10/10/10%10=h/10:=acB;have e2:x/10/10%10=h%10:=acB;have e3:x/10%10=m/10:=acB;have e4:x%10=m%10:=acB;rw[e1,e2,e3,e4]
def lcut (c:UInt8):Bs->Option (Bs×Bs)
 | []=>none
 | x::r=>match lcut c r with
  | some (a,b)=>some (x::a,b)
  | none=>if x=c then some ([],r)else none
theorem DL {c:UInt8}:∀{s:Bs},lcut c s=none->c∉s
 | [],_=>by simp
 | x::r,h=>by
  simp only[lcut]at h;split at h
  ·cases h
  ·rename_i hr;split at h
   ·cases h
   ·rename_i hx;simp only[acW,not_or];exact⟨λe=>hx e.symm,DL hr⟩
theorem xW {c:UInt8}:∀{s a b:Bs},lcut c s=some (a,b)->s=a++c::b/\c∉b
 | [],_,_,h=>by cases h
 | x::r,a,b,h=>by
  simp only[lcut]at h;split at h
  ·rename_i a' b' hr;obtain⟨rfl,rfl⟩:=Prod.mk.inj (Option.some.inj h);obtain⟨h1,h2⟩:=xW hr;exact⟨by rw[h1];rfl,h2⟩
  ·rename_i hr;split at h
   ·rename_i hx;obtain⟨rfl,rfl⟩:=Prod.mk.inj (Option.some.inj h);subst hx;exact⟨rfl,DL hr⟩
   ·cases h
theorem xV {c:UInt8}:∀{s:Bs},c∉s->lcut c s=none
 | [],_=>rfl
 | x::r,h=>by
  simp only[acW,not_or]at h;simp only[lcut,xV h.2];rw[if_neg (λe=>h.1 e.symm)]
theorem ue {c:UInt8} {b:Bs} (hb:c∉b):∀a:Bs,lcut c (a++c::b)=some (a,b)
 | []=>by
  simp only[adf,lcut,xV hb,if_true]
 | x::r=>by
  simp only[acZ,lcut,ue hb r]
structure Sg where
 bZ:Bs
 time:Int
 cv:Int
 deriving DecidableEq
def ed (s:Sg):Bs:=s.bZ++32::(Lib.itoa s.time++32::gR s.cv)
def signL (l:Bs):Option Sg:=
 match lcut 32 l with
 | none=>none
 | some (x,z)=>match lcut 32 x with
  | none=>none
  | some (w,t)=>match numI t with
   | none=>none
   | some tm=>match zoneO z with
    | none=>none
    | some zn=>some ⟨w,tm,zn⟩
def kr (s:Sg):Prop:=(-9223372036854775808<=s.time/\s.time<=9223372036854775807)/\(-5999<=s.cv/\s.cv<=5999)
theorem yY {l:Bs} {s:Sg} (h:signL l=some s):ed s=l/\kr s:=by
 unfold signL at h;split at h
 ·cases h
 rename_i x z hx;split at h
 ·cases h
 rename_i w t hw;split at h
 ·cases h
 rename_i tm ht;split at h
 ·cases h
 rename_i zn hz;obtain rfl:=Option.some.inj h;obtain⟨t1,_,t2,t3⟩:=Et ht;obtain⟨z1,z2,z3⟩:=zJ hz;obtain⟨x1,_⟩:=xW hx;obtain⟨w1,_⟩:=xW hw;refine⟨?_,⟨t2,t3⟩,z2,z3⟩;unfold ed;simp only;rw[t1,z1,x1,w1];simp
theorem F6 (s:Sg) (h:kr s):signL (ed s)=some s:=by
 obtain⟨⟨t0,t1⟩,z0,z1⟩:=h;unfold ed signL;have e:s.bZ++32::(Lib.itoa s.time++32::gR s.cv)=(s.bZ++32::Lib.itoa s.time)++32::gR s.cv:=by simp
 rw[e,ue (Hl s.cv z0 z1 32 (by decide))];simp only;rw[ue (tW s.time 32 (by decide))];simp only[Vn s.time t0 t1,Hj s.cv z0 z1]
theorem F8 (s:Sg) (h:kr s) (x:UInt8) (hx:x.toNat<32) (hw:x∉s.bZ):x∉ed s:=by
 unfold ed;simp only[adh,acW,not_or];exact⟨hw,λe=>by subst e;revert hx;decide,tW _ x acB,λe=>by subst e;revert hx;decide,Hl _ h.2.1 h.2.2 x acB⟩
def qH (s:Bs):Bool:=decide (1<=s.length)&&decide (s.length<=100)&&!s.contains 10&&!s.contains 0
def fK (s:Sg):Bool:=qH s.bZ&&decide (0<=s.time)&&decide (s.time<=253402300799)&&decide (-840<=s.cv)&&decide (s.cv<=840)
theorem Y4 {s:Sg} (h:fK s=true):qH s.bZ=true/\0<=s.time/\s.time<=253402300799 /\ -840<=s.cv/\s.cv<=840:=by
 unfold fK at h;simp only[acN,decide_eq_true_eq]at h;exact⟨h.1.1.1.1,h.1.1.1.2,h.1.1.2,h.1.2,h.2⟩
theorem rq {s:Sg} (h:fK s=true):kr s:=by
 obtain⟨_,h1,h2,h3,h4⟩:=Y4 h;exact⟨⟨acB,acB⟩,acB,acB⟩
def cq (w s:Bs):Option (Bs×Bs):=
 if(cutP 10 s).2.2=true/\(w++[32]) <+: (cutP 10 s).1 then some ((cutP 10 s).1.drop (w.length+1),(cutP 10 s).2.1)else none
theorem qe {c:UInt8} {a:Bs} (ha:c∉a) (b:Bs):cutP c (a++c::b)=(a,b,true):=by
 induction a with
 | nil=>simp[cutP]
 | cons x r ih=>
  simp only[acW,not_or]at ha;simp only[acZ,cutP];rw[if_neg (λe=>ha.1 e.symm),ih ha.2]
theorem Bw {c:UInt8}:∀{s:Bs},(cutP c s).2.2=true->s=(cutP c s).1++c::(cutP c s).2.1/\c∉(cutP c s).1
 | [],h=>by cases h
 | x::r,h=>by
  by_cases hx:x=c
  ·subst hx;simp[cutP]
  ·simp only[cutP,hx,if_false]at h |-;obtain⟨h1,h2⟩:=Bw (s:=r) h;refine⟨by rw[acZ,<-h1],?_⟩;simp only[acW,not_or];exact⟨λe=>hx e.symm,h2⟩
theorem qG {w s v r:Bs} (h:cq w s=some (v,r)):s=w++32::(v++10::r)/\10∉v:=by
 unfold cq at h;split at h
 ·rename_i hc;obtain⟨rfl,rfl⟩:=Prod.mk.inj (Option.some.inj h);obtain⟨h1,h2⟩:=Bw hc.1;obtain⟨t,ht⟩:=hc.2;rw[<-ht]at h1 h2 |-
  have e:(w++[32]++t).drop (w.length+1)=t:=by
   rw[adq (by simp),adG (by simp)];rfl
  rw[e];refine⟨by simpa using h1,?_⟩;simp only[adh,not_or]at h2;exact h2.2
 ·cases h
theorem ui {w v:Bs} (r:Bs) (hw:10∉w) (hv:10∉v):cq w (w++32::(v++10::r))=some (v,r):=by
 have e:w++32::(v++10::r)=(w++32::v)++10::r:=by simp
 have hn:(10:UInt8)∉w++32::v:=by
  simp only[adh,acW,not_or];exact⟨hw,by decide,hv⟩
 unfold cq;rw[e,qe hn];rw[if_pos ⟨rfl,⟨v,by simp⟩⟩];simp only;rw[afh,adG (by simp)];simp
theorem iU {w s v r:Bs} (h:cq w s=some (v,r)):s.length=w.length+v.length+r.length+2:=by
 rw[(qG h).1];simp;omega
def gp:Bs:=[116,114,101,101]
def fP:Bs:=[112,97,114,101,110,116]
def gO:Bs:=[97,117,116,104,111,114]
def ik:Bs:=[99,111,109,109,105,116,116,101,114]
def iY:Bs:=[112,97,114,101,110,116,32]
def parL (s:Bs):Option (List Bs×Bs):=
 if iY <+: s then
  match h:cq fP s with
  | none=>none
  | some (v,r)=>
   have:r.length<s.length:=by have:=iU h;omega
   match parL r with
   | none=>none
   | some (ps,q)=>some (v::ps,q)
 else some ([],s)
termination_by s.length
theorem yz {s:Bs} (h:¬iY <+: s):parL s=some ([],s):=by rw[parL,if_neg h]
theorem EN {s:Bs} (h:iY <+: s) (hl:cq fP s=none):parL s=none:=by
 rw[parL,if_pos h];split;rfl
 ·rename_i hx;rw[hl]at hx;cases hx
theorem yy {s v r:Bs} (h:iY <+: s) (hl:cq fP s=some (v,r)):parL s=(parL r).map λq=>(v::q.1,q.2):=by
 rw[parL,if_pos h];split
 ·rename_i hx;rw[hl]at hx;cases hx
 ·rename_i v' r' hx;rw[hl]at hx;obtain⟨rfl,rfl⟩:=Prod.mk.inj (Option.some.inj hx)
  cases parL r with
  | none=>rfl
  | some q=>rfl
def parT:List Bs->Bs
 | []=>[]
 | p::ps=>fP++32::(p++10::parT ps)
theorem yA:∀(n:Nat) {s q:Bs} {ps:List Bs},s.length<=n->parL s=some (ps,q)->s=parT ps++q/\¬iY <+: q/\∀p∈ps,10∉p
 | n,s,q,ps,hn,h=>by
  by_cases hp:iY <+: s
  ·cases hl:cq fP s with
   | none=>rw[EN hp hl]at h;cases h
   | some vr=>
    obtain⟨v,r⟩:=vr;rw[yy hp hl]at h
    cases hr:parL r with
    | none=>rw[hr]at h;cases h
    | some pq=>
     obtain⟨ps',q'⟩:=pq;rw[hr]at h;obtain⟨rfl,rfl⟩:=Prod.mk.inj (Option.some.inj h);have hlen:=iU hl;obtain⟨e1,e2⟩:=qG hl
     match n with
     | 0=>omega
     | n+1=>
      obtain⟨g1,g2,g3⟩:=yA n (s:=r) acB hr;refine⟨?_,g2,λp hpm=>?_⟩
      ·rw[e1,g1];simp[parT]
      ·rcases acW.1 hpm with rfl | hpm;exact e2;exact g3 p hpm
  ·rw[yz hp]at h;obtain⟨rfl,rfl⟩:=Prod.mk.inj (Option.some.inj h);exact⟨rfl,hp,by simp⟩
theorem EM {q:Bs} (hq:¬iY <+: q):∀{ps:List Bs},(∀p∈ps,10∉p)->parL (parT ps++q)=some (ps,q)
 | [],_=>yz hq
 | p::ps,h=>by
  have e:parT (p::ps)++q=fP++32::(p++10::(parT ps++q)):=by simp[parT]
  rw[e,yy ⟨p++10::(parT ps++q),by simp[iY,fP]⟩ (ui _ (by decide) (h p (acU ..))),EM hq (λx hx=>h x (acV _ hx))];rfl
structure bW where
 tree:Bs
 parents:List Bs
 cQ:Sg
 cR:Sg
 msg:Bs
 deriving DecidableEq
def aU (c:bW):Bs:=gp++32::(c.tree++10::(parT c.parents++(gO++32::(ed c.cQ++10::(ik++32::(ed c.cR++10::(10::c.msg)))))))
def iA:Bs->Option Bs
 | []=>none
 | c::r=>if c=10 then some r else none
def parseL (s:Bs):Option bW:=
 match cq gp s with
 | none=>none
 | some (t,s1)=>match parL s1 with
  | none=>none
  | some (ps,s2)=>match cq gO s2 with
   | none=>none
   | some (a,s3)=>match signL a with
    | none=>none
    | some sa=>match cq ik s3 with
     | none=>none
     | some (b,s4)=>match signL b with
      | none=>none
      | some sb=>match iA s4 with
       | none=>none
       | some m=>some ⟨t,ps,sa,sb,m⟩
def pz (c:bW):Prop:=10∉c.tree/\(∀p∈c.parents,10∉p)/\(kr c.cQ/\10∉c.cQ.bZ)/\(kr c.cR/\10∉c.cR.bZ)
theorem UM {s m:Bs} (h:iA s=some m):s=10::m:=by
 cases s with
 | nil=>cases h
 | cons c r=>
  simp only[iA]at h;split at h
  ·rename_i hc;rw[hc,Option.some.inj h]
  ·cases h
theorem Wb {s:Bs} {c:bW} (h:parseL s=some c):aU c=s/\pz c:=by
 unfold parseL at h;split at h
 ·cases h
 rename_i t s1 h1;split at h
 ·cases h
 rename_i ps s2 h2;split at h
 ·cases h
 rename_i a s3 h3;split at h
 ·cases h
 rename_i sa h4;split at h
 ·cases h
 rename_i b s4 h5;split at h
 ·cases h
 rename_i sb h6;split at h
 ·cases h
 rename_i m h7;obtain rfl:=Option.some.inj h;obtain⟨e1,n1⟩:=qG h1;obtain⟨e2,_,n2⟩:=yA _ (acG _) h2;obtain⟨e3,n3⟩:=qG h3;obtain⟨e4,n4⟩:=yY h4;obtain⟨e5,n5⟩:=qG h5;obtain⟨e6,n6⟩:=yY h6;have e7:=UM h7;have w1:(10:UInt8)∉sa.bZ:=λhm=>n3 (by rw[<-e4];unfold ed;exact ad1 _ hm);have w2:(10:UInt8)∉sb.bZ:=λhm=>n5 (by rw[<-e6];unfold ed;exact ad1 _ hm);refine⟨?_,n1,n2,⟨n4,w1⟩,n6,w2⟩;unfold aU;simp only;rw[e4,e6,e1,e2,e3,e5,e7]
theorem Wd (c:bW) (h:pz c):parseL (aU c)=some c:=by
 obtain⟨h1,h2,⟨h3,h4⟩,h5,h6⟩:=h;unfold aU parseL;rw[ui _ (by decide) h1];simp only;rw[EM (by intro⟨t,ht⟩;simp[iY,gO]at ht) h2];simp only;rw[ui _ (by decide) (F8 _ h3 10 (by decide) h4)];simp only;rw[F6 _ h3];simp only;rw[ui _ (by decide) (F8 _ h5 10 (by decide) h6)];simp only;rw[F6 _ h5];simp[iA]
end Go.Proofs.YtgghhaahnpbnmaaGreatDoor.Cm
