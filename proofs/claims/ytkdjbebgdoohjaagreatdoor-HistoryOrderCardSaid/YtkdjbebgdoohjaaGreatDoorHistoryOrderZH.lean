/- The proof, part 34 of 50. -/
import Derived.Test.YtkdjbebgdoohjaaGreatDoorHistoryOrderZF
import Derived.Test.YtkdjbebgdoohjaaGreatDoorHistoryOrderZG
import Derived.Test.YtkdjbebgdoohjaaGreatDoorProg
set_option linter.all false
namespace Go.Proofs.YtkdjbebgdoohjaaGreatDoor.Pk
open Eng
set_option maxRecDepth 10000
def RD:Nat:=40014
attribute [go_sem] RD
def aK (s:Bs) (a hv fr:Nat):List AV:=[.str s,.int .i64 a,.int .u64 (numAt s (8*a-hv) hv:Nat),.int .i64 hv,.int .i64 fr]
theorem bT {p:Prop} (h:p:=by simp(disch:=first | omega | (simp only[Lx];omega))only[go_sem,simprocAttr,aK]):p:=h
theorem jq {a b:Prop} (k:b) (h:b->a:=by intro h;simp(disch:=first | omega | (simp only[Lx];omega))only[go_sem,simprocAttr,aK];exact h):a:=h k
theorem YL {E0:Prop} {a b:Prop} (e0:E0) (k:b) (h:E0->b->a:=by intro e0 h;simp(disch:=first | omega | (simp only[Lx];omega))only[go_sem,simprocAttr,aK,e0];exact h):a:=h e0 k
theorem yj {E0 E1:Prop} {a b:Prop} (e0:E0) (e1:E1) (k:b) (h:E0->E1->b->a:=by intro e0 e1 h;simp(disch:=first | omega | (simp only[Lx];omega))only[go_sem,simprocAttr,aK,e0,e1];exact h):a:=h e0 e1 k
theorem YM {E0 E1 E2:Prop} {a b:Prop} (e0:E0) (e1:E1) (e2:E2) (k:b) (h:E0->E1->E2->b->a:=by intro e0 e1 e2 h;simp(disch:=first | omega | (simp only[Lx];omega))only[go_sem,simprocAttr,aK,e0,e1,e2];exact h):a:=h e0 e1 e2 k
structure bq (s:Bs) (a hv p:Nat):Prop where
 h1:hv<=39
 h2:a<=s.length
 h3:p+hv=8*a
theorem wT {x k b:Nat} (hx:x<2^k) (hk:k<=56) (hb:b<256):bits .or .u64 (x:Int) (IntKind.u64.wrap ((b:Int)*2^min k 64))=((x+b*2^k:Nat):Int):=by
 have hp:2^k<=2^56:=ZY (by decide) hk;have h2:b*2^k<2^64:=Nat.lt_of_le_of_lt (abJ (show b<=255 by omega) hp) (by decide)
 have h3:x+b*2^k<2^64:=by
  have:(b+1)*2^k<=256*2^56:=abJ ZG hp;rw[aa0]at this;omega
 have e:IntKind.u64.wrap ((b:Int)*2^min k 64)=((b*2^k:Nat):Int):=by
  rw[aag ZG,show((b:Int)*2^k)=((b*2^k:Nat):Int)by push_cast;rfl];exact wrap_u64 ZG
 rw[e]
 show IntKind.u64.wrap ((BitVec.ofInt 64 (x:Int) ||| BitVec.ofInt 64 ((b*2^k:Nat):Int)).toNat:Int)=_
 rw[ZU,ZU,aaG,ZT,ZT,ZO ZG,ZO h2,Nat.or_comm,<-aao,<-aab hx,aao,abA];exact wrap_u64 ZG
theorem AL (s:Bs) (a hv fr p n:Nat) (hs:s.length<=1000000000000) (h:bq s a hv p) (hn:n<=32):Eng.Spec Tryz.prog 223 [(RD,.var (aK s a hv fr))] [.aa RD 0,.int .i64 n]
    (λh' v ar=>∃a' hv',bq s a' hv' p/\(n<=hv'\/a'=s.length)/\h'=[(RD,.var (aK s a' hv' fr))]/\v=.ab []/\ar=[.aa RD 0,.int .i64 n]):=by
 refine Cod.Ll (λE R hN hR=>?_);refine wW ?_;refine aP hN (λq:Nat×Nat=>⟨[(0,.aa RD 0),(1,.int .i64 n),(2000000,.aa RD 0),(2000001,.int .i64 n)],[(RD,.var (aK s q.1 q.2 fr))]⟩) (λq=>bq s q.1 q.2 p) (λq=>s.length-q.1) (a,hv) (.le bT) h ?_;rintro⟨a,hv⟩ R1 ⟨h1,h2,h3⟩ hR1;simp only at h1 h2 h3;by_cases hlt:hv<n
 ·by_cases hat:a<s.length
  ·have hb:=(s.getD a 0).toNat_lt;have ho:=wT (gU s (8*a-hv) hv) (show hv<=56 by omega) (b:=(s.getD a 0).toNat) ZG;have hf:=Sc s a hv ZG;rw[<-hf]at ho;refine jq ?_;refine gG ?_;rw[ho];exact hR1 (a+1,hv+8) _ (by simp only;omega) ⟨by simp only;omega,by simp only;omega,by simp only;omega⟩ (.le (by simp(disch:=omega)only[go_sem,simprocAttr,aK,show 8*(a+1)-(hv+8)=8*a-hv by omega]))
  ·refine jq ?_;refine gG ?_;exact hR.le bT ⟨a,hv,⟨h1,h2,h3⟩,.inr ZG,rfl,rfl,rfl⟩
 ·refine jq ?_;refine gG ?_;exact hR.le bT ⟨a,hv,⟨h1,h2,h3⟩,.inl ZG,rfl,rfl,rfl⟩
theorem F2 (x n:Nat) (hx:x<2^64) (hn:n<=32):bits .and .u64 (x:Int) (IntKind.u64.wrap (IntKind.u64.wrap (1*2^min n 64)-1))=((x%2^n:Nat):Int):=by
 have hp:2^n<=2^32:=ZY (by decide) hn;have hp1:0<2^n:=ab2 (by decide)
 have e:IntKind.u64.wrap (IntKind.u64.wrap (1*2^min n 64)-1)=((2^n-1:Nat):Int):=by
  have e1:IntKind.u64.wrap (1*2^n)=((2^n:Nat):Int):=by
   rw[show((1:Int)*2^n)=((2^n:Nat):Int)by rw[Int.one_mul];push_cast;rfl];exact wrap_u64 ZG
  rw[aag ZG,e1,show(((2^n:Nat):Int)-1)=((2^n-1:Nat):Int)by omega];exact wrap_u64 ZG
 rw[e]
 show IntKind.u64.wrap ((BitVec.ofInt 64 (x:Int) &&& BitVec.ofInt 64 ((2^n-1:Nat):Int)).toNat:Int)=_
 rw[ZU,ZU,aaQ,ZT,ZT,ZO hx,ZO ZG,aam];have:=aaM x hp1;exact wrap_u64 ZG
def cX (s:Bs) (p:Nat):Nat:=8*s.length-p
theorem Tt (s:Bs) (a hv fr p n:Nat) (hs:s.length<=1000000000000) (h:bq s a hv p) (hn:n<=32):Eng.Spec Tryz.prog 212 [(RD,.var (aK s a hv fr))] [.aa RD 0,.int .i64 n]
    (λh' v ar=>∃a' hv',bq s a' hv' p/\(n<=hv'\/a'=s.length)/\h'=[(RD,.var (aK s a' hv' fr))]/\v=.ab [.int .u32 (numAt s p (min n hv'):Nat),.int .i64 (min n hv':Nat)]/\ar=[.aa RD 0,.int .i64 n]):=by
 refine Cod.Tu (λE R hN hR=>?_);refine wW ?_;refine gG ?_;refine aW [(RD,.var (aK s a hv fr))] (AL s a hv fr p n hs h hn) vV nofun ?_;rintro h' v ar ⟨a',hv',⟨h1,h2,h3⟩,hor,rfl,rfl,rfl⟩;refine⟨bT,rfl,?_⟩;have hx:=gU s p hv';have hx2:numAt s p hv'<2^64:=ZV hx (ZY (by decide) ZG);have ha:=F2 (numAt s p hv') n hx2 hn
 have e1:numAt s p hv'%2^n=numAt s p (min n hv'):=by
  by_cases hh:n<=hv'
  ·rw[aag hh,sC s p hh]
  ·rw[ab5 ZG,ZO (ZV hx (ZY (by decide) ZG))]
 rw[e1]at ha;have hx3:numAt s p (min n hv')<2^32:=ZV (gU s p _) (ZY (by decide) ZG);have ew:IntKind.u32.wrap ((numAt s p (min n hv'):Nat):Int)=(numAt s p (min n hv'):Nat):=wrap_u32 ZG;have em:min (n:Int) (hv':Int)=((min n hv':Nat):Int):=ZG;simp(disch:=omega)only[go_sem,simprocAttr,aK,show 8*a'-hv'=p by omega,ha,ew,em];exact hR.le (by simp(disch:=omega)only[go_sem,simprocAttr,aK,show 8*a'-hv'=p by omega]) ⟨a',hv',⟨h1,h2,h3⟩,hor,rfl,rfl,rfl⟩
theorem Wi (s:Bs) (a hv fr p n:Nat) (hs:s.length<=1000000000000) (h:bq s a hv p) (hn:n<=32):Eng.Spec Tryz.prog 213 [(RD,.var (aK s a hv fr))] [.aa RD 0,.int .i64 n]
    (λh' v ar=>∃a' hv',bq s a' hv' (if n<=cX s p then p+n else p)/\h'=[(RD,.var (aK s a' hv' fr))]/\v=.bool (decide (n<=cX s p))/\ar=[.aa RD 0,.int .i64 n]):=by
 refine Cod.Wj (λE R hN hR=>?_);refine wW ?_;refine gG ?_;refine aW [(RD,.var (aK s a hv fr))] (AL s a hv fr p n hs h hn) vV nofun ?_;rintro h' v ar ⟨a',hv',⟨h1,h2,h3⟩,hor,rfl,rfl,rfl⟩;refine⟨bT,rfl,?_⟩;by_cases hlt:hv'<n
 ·have hno:¬n<=cX s p:=by unfold cX;rcases hor with ho | ho<;>omega
  refine jq ?_;exact hR.le bT ⟨a',hv',by rw[if_neg hno];exact⟨h1,h2,h3⟩,rfl,by rw[decide_eq_false hno],rfl⟩
 ·have hyes:n<=cX s p:=by unfold cX;omega
  have hd:((numAt s p hv':Nat):Int).fdiv (2^min n 64)=((numAt s (p+n) (hv'-n):Nat):Int):=by
   rw[aag ZG,<-pO s p (show n<=hv' by omega),aaf _ (abI (by decide)),abK,abD];rfl
  simp(disch:=omega)only[go_sem,simprocAttr,aK,show 8*a'-hv'=p by omega,hd];refine hR.le ?_ ⟨a',hv'-n,by rw[if_pos hyes];exact⟨ZG,h2,ZG⟩,rfl,by rw[decide_eq_true hyes],rfl⟩;rw[show((hv':Int)-(n:Int))=((hv'-n:Nat):Int)by omega];simp(disch:=omega)only[go_sem,simprocAttr,aK,show 8*a'-(hv'-n)=p+n by omega]
theorem sU (s:Bs) (a hv fr p n:Nat) (hs:s.length<=1000000000000) (h:bq s a hv p) (hn:n<=32):Eng.Spec Tryz.prog 197 [(RD,.var (aK s a hv fr))] [.aa RD 0,.int .i64 n]
    (λh' v ar=>∃a' hv',bq s a' hv' (if n<=cX s p then p+n else p)/\h'=[(RD,.var (aK s a' hv' fr))]/\v=.ab [.int .u32 (if n<=cX s p then numAt s p n else 0:Nat),.bool (decide (n<=cX s p))]/\ar=[.aa RD 0,.int .i64 n]):=by
 refine Cod.Ur (λE R hN hR=>?_);refine wW ?_;refine aW [(RD,.var (aK s a hv fr))] (Tt s a hv fr p n hs h hn) vV nofun ?_;rintro h' v ar ⟨a',hv',h1,hor,rfl,rfl,rfl⟩;refine⟨bT,rfl,?_⟩;refine wW ?_;refine aW [(RD,.var (aK s a' hv' fr))] (Wi s a' hv' fr p n hs h1 hn) vV nofun ?_;rintro h' v ar ⟨a2,hv2,h2,rfl,rfl,rfl⟩;refine⟨bT,rfl,?_⟩;by_cases hyes:n<=cX s p
 ·have hm:min n hv'=n:=by
   have:=h1.h3;have:=h1.h2;unfold cX at hyes;rcases hor with ho | ho<;>omega
  refine aE hyes hm ?_;exact hR.le vV ⟨a2,hv2,h2,rfl,by rw[if_pos hyes,decide_eq_true hyes],rfl⟩
 ·refine ah hyes ?_;exact hR.le vV ⟨a2,hv2,h2,rfl,by rw[if_neg hyes,decide_eq_false hyes];rfl,rfl⟩
def dM (p:Nat):Nat:=(p+7)/8*8
theorem EN {a hv p:Nat} (h:p+hv=8*a):dM p=8*(a-hv/8):=by unfold dM;omega
theorem Up (s:Bs) (a hv fr p:Nat) (hs:s.length<=1000000000000) (h:bq s a hv p):Eng.Spec Tryz.prog 224 [(RD,.var (aK s a hv fr))] [.aa RD 0]
    (λh' v ar=>∃hv',bq s a hv' (dM p)/\hv'=8*(hv/8)/\h'=[(RD,.var (aK s a hv' fr))]/\v=.ab []/\ar=[.aa RD 0]):=by
 refine Cod.Uq (λE R hN hR=>?_);obtain⟨h1,h2,h3⟩:=h;have hp:8*a-hv=p:=ZG;have em:(hv:Int).tmod 8=((hv%8:Nat):Int):=by rw[mA ZG];omega
 have hd:((numAt s p hv:Nat):Int).fdiv (2^min (hv%8) 64)=((numAt s (p+hv%8) (hv-hv%8):Nat):Int):=by
  rw[aag ZG,<-pO s p (show hv%8<=hv by omega),aaf _ (abI (by decide)),abK,abD];rfl
 refine YM em hp hd ?_;refine hR.le ?_ ⟨8*(hv/8),⟨ZG,h2,by unfold dM;omega⟩,rfl,rfl,rfl,rfl⟩;rw[show((hv:Int)-((hv%8:Nat):Int))=((8*(hv/8):Nat):Int)by omega,show hv-hv%8=8*(hv/8)by omega];simp(disch:=omega)only[go_sem,simprocAttr,aK,show 8*a-8*(hv/8)=p+hv%8 by omega]
theorem xr (s:Bs) (a hv fr p:Nat) (n:Nat) (hs:s.length<=1000000000000) (hn:n<=1000000000000) (h:bq s a hv p):Eng.Spec Tryz.prog 214 [(RD,.var (aK s a hv fr))] [.aa RD 0,.int .i64 n]
    (λh' v ar=>∃a' hv',bq s a' hv' (if n<=s.length-dM p/8 then dM p+8*n else dM p)/\(n<=s.length-dM p/8->hv'=0)/\h'=[(RD,.var (aK s a' hv' fr))] /\
     v=.ab [.str (if n<=s.length-dM p/8 then(s.drop (dM p/8)).take n else[]),.bool (decide (n<=s.length-dM p/8))]/\ar=[.aa RD 0,.int .i64 n]):=by
 refine Cod.Us (λE R hN hR=>?_);refine wW ?_;refine aW [(RD,.var (aK s a hv fr))] (Up s a hv fr p hs h) vV nofun ?_;rintro h' v ar ⟨hv',⟨h1,h2,h3⟩,rfl,rfl,rfl,rfl⟩;refine⟨bT,rfl,?_⟩;have hub:dM p/8=a-hv/8:=by rw[EN h.h3];omega
 have hle:=h.h3;have eq:(((8*(hv/8):Nat):Int)).tdiv 8=((hv/8:Nat):Int):=by rw[tJ ZG];omega
 have ef:((a:Int)-((hv/8:Nat):Int))=((a-hv/8:Nat):Int):=ZG;rw[hub]at hR;generalize hf:a-hv/8=f at *
 have hfl:f<=s.length:=ZG;by_cases hyes:n<=s.length-f
 ·have e1:((f:Int)+(n:Int)-(f:Int)).toNat=n:=ZG;have e2:f+n-f=n:=ZG;refine yj eq ef ?_;refine gG ?_;refine ah e2 ?_;exact hR.le (by simp(disch:=omega)only[go_sem,simprocAttr,aK,numAt]) ⟨f+n,0,by rw[if_pos hyes];exact⟨ZG,ZG,by rw[EN h.h3,hf];omega⟩,λ_=>rfl,rfl,by rw[if_pos hyes,decide_eq_true hyes],rfl⟩
 ·refine yj eq ef ?_;refine gG ?_;exact hR.le bT ⟨a,8*(hv/8),by rw[if_neg hyes];exact⟨h1,h2,h3⟩,λhh=>absurd hh hyes,rfl,by rw[if_neg hyes,decide_eq_false hyes],rfl⟩
open Eng
set_option maxRecDepth 10000
def aI (xs:List Nat):List AV:=xs.map λn:Nat=>AV.int .i64 n
theorem ep (xs:List Nat):(aI xs).length=xs.length:=by simp[aI]
theorem lj {xs:List Nat} {i:Nat} (h:i<xs.length):nth (aI xs) i=.int .i64 (xs.getD i 0:Nat):=by
 simp[nth,aI,ZH,h]
theorem kn {xs:List Nat}:(aI xs).all aD=true:=by simp[aI,aD,cellsOf,isCell]
theorem mg {xs:List Nat} {n:Nat}:aI xs++[.int .i64 (n:Int)]=aI (xs++[n]):=by simp[aI]
theorem pK {xs:List Nat} {o n:Nat}:az (aI xs) o n=aI ((xs.drop o).take n):=by simp[aI,az]
theorem pJ:aI []=[]:=(rfl)
def cW (l:List Nat):List AV:=(List.range 16).map λn=>AV.int .i64 (bC l n:Nat)
theorem kP (l:List Nat):(cW l).length=16:=by simp[cW]
theorem mU (l:List Nat) {n:Nat} (h:n<16):(cW l).getD n .undef=.int .i64 (bC l n:Nat):=by
 unfold cW;rw[ZH,List.getElem?_map,List.getElem?_range h];rfl
theorem Je (l:List Nat) {x:Nat} (h:x<16):(cW l).set x (.int .i64 ((bC l x:Int)+1))=cW (l++[x]):=by
 apply abV;intro j;rw[List.getElem?_set,kP];unfold cW;rw[List.getElem?_map,List.getElem?_map];by_cases hx:x=j
 ·subst hx;rw[if_pos rfl,if_pos h,List.getElem?_range h];simp only[aah,qX,if_true];rfl
 ·rw[if_neg hx];by_cases hj:j<16
  ·rw[List.getElem?_range hj];simp only[aah,qX,if_neg hx,aaz]
  ·rw[List.getElem?_eq_none (by simp;omega)];rfl
theorem zJ {id:Nat} {l:List Nat}:(cW l).map (killC id)=cW l:=by simp[cW,killC]
theorem Jc {id sz:Nat} {es:List AV} {l:List Nat}:(cW l).map (bP id sz es)=cW l:=by simp[cW,bP]
theorem Jd {l:List Nat}:(cW l).all noRefC=true:=by simp[cW,noRefC]
theorem uU (l:List Nat) (n:Nat):bC l n<=l.length:=acg
theorem xi (l:List Nat):∀n,bA l n<=l.length*n
 | 0=>by simp[bA]
 | 1=>by simp[bA]
 | n+2=>by
  have:=xi l (n+1);have:=uU l (n+1);simp only[bA];rw[show n+2=(n+1)+1 by omega,Nat.mul_succ l.length (n+1)];omega
def kD (l:List Nat) (n k:Nat):List Nat:=(List.range k).filter λs=>l.getD s 0==n
theorem XA (l:List Nat) (n k:Nat):(kD l n k).length<=k:=by
 have:=ach (λs=>l.getD s 0==n) (List.range k);simpa[kD]using this
theorem XB (l:List Nat) (n k:Nat):kD l n (k+1)=kD l n k++if l.getD k 0=n then[k]else[]:=by
 unfold kD;rw[abl,abf]
 congr 1
 by_cases h:l.getD k 0=n<;>simp[-List.getD_eq_getElem?_getD,h]
theorem Xz (l:List Nat) (n:Nat):kD l n l.length=tH l n:=(rfl)
theorem wH {a b:AV} {xs:List AV} {i:Nat} (h:i<xs.length):((a::(xs++[b])).drop (1+i)).getD 0 .undef=xs.getD i .undef:=by
 rw[abA,aav,ZH,List.getElem?_drop,aaz,List.getElem?_append_left h,ZH]
theorem Cl {a b:AV} {xs:List AV} {i:Nat} (h:i<xs.length):0<((a::(xs++[b])).drop (1+i)).length:=by simp;omega
theorem Q5 {a b v:AV} {xs:List AV} {i:Nat} (h:i<xs.length):bR (a::(xs++[b])) (1+i) [v]=a::(xs.set i v++[b]):=by
 unfold bR;rw[abA 1 i,aaA,show i+1+[v].length=(i+1)+1 by simp,aav,abd ZG,aaD ZG,aaZ,if_pos h];simp
theorem KX {a b v:AV} {xs:List AV} (h:xs.length=16):bR (a::(xs++[b])) 17 [v]=a::(xs++[v]):=by
 unfold bR;rw[aaA,show 17+[v].length=17+1 by rfl,aav,aci h,List.drop_append];simp[h]
theorem KY {a b v:AV} {xs:List AV} (h:xs.length=16):(a::(xs++[b])).set 17 v=a::(xs++[v]):=by
 rw[List.set_cons_succ,acj _ _ ZG,h];rfl
theorem KW {a b:AV} {xs:List AV} (h:xs.length=16):(a::(xs++[b]))[17]?=some b:=by
 rw[List.getElem?_cons_succ,List.getElem?_append_right ZG,h];rfl
theorem Au {a b:AV} {xs:List AV} (h:xs.length=16):(a::(xs++[b])).drop 17=[b]:=by
 rw[aav,List.drop_left' h]
def gZ (l:List Nat):List AV:=.ro 1 (aI l)::(cW l++[.ro 1 (aI (sortL l 15))])
def a8 (l:List Nat):AV:=.ao (.agg (gZ l))
def gJ (l:List Nat) (m:Nat):Int:=if m=0 then 1 else(2^m:Nat)-((fstL l m+bC l m:Nat):Int)
theorem U8 (l:List Nat) (m:Nat):gJ l (m+1)=2*gJ l m-(bC l (m+1):Int):=by
 unfold gJ
 cases m with
 | zero=>simp[fstL]
 | succ m=>
  rw[if_neg ZG,if_neg ZG];simp only[fstL];rw[abR 2 (m+1)];omega
theorem room_le (l:List Nat) {m:Nat} (h:m<=15):gJ l m<=32768:=by
 unfold gJ;have:(2:Nat)^m<=2^15:=ZY (by decide) h;split<;>omega
theorem U7 (l:List Nat) {m:Nat} (h1:1<=m) (h2:m<=15) (h:gJ l m<0):32768<eu l:=by
 refine Nat.lt_of_not_le λhc=>?_;have:=wm hc h1 h2;unfold gJ at h;rw[if_neg ZG]at h;omega
theorem room_end (l:List Nat):gJ l 15=32768-(eu l:Int):=by
 unfold gJ eu;rw[if_neg ZG];rfl
theorem rS (l:List Nat) (hl:∀n∈l,n<=15) (hn:l.length<=320):Eng.Spec Tryz.prog 217 [] [.ro 1 (aI l)] (λh r _=>h=[]/\r=if bF l then .ab [a8 l,.int .i64 0]else .ab [.lit (.pointer none),.int .i64 4]):=by
 refine Cod.Nj (λE R hN hR=>?_);have hnl:=ep l;refine aE @ep @kn ?_;refine gG ?_;refine aP hN (λk:Nat=>⟨[(0,.ro 1 (aI l)),(4,.aa 49018 0),(19,.ro 1 (aI l)),(20,.int .i64 l.length),(21,.int .i64 k)],[(49018,.var (.sl 49016 0 l.length::(cW (l.take k)++[.aj]))),(49016,.arr 1 (aI l))]⟩) (λk=>k<=l.length) (λk=>l.length-k) 0 (.le (by simp(disch:=first | omega | (simp only[Lx];omega))only[go_sem,simprocAttr,ep];rfl)) ZG ?_
 rintro k R1 hk hR1;have hcl:=kP (l.take k);by_cases hlt:k<l.length
 ·have hx:=wD hl k;have htk:=fb l 0 hlt;have hcs:=Je (l.take k) (x:=l.getD k 0) ZG;have hcb:=uU (l.take k) (l.getD k 0);rw[ZL]at hcb;rw[<-htk]at hcs;generalize hc:l.getD k 0=x at *
  simp(disch:=first | omega | (simp only[Lx];omega))only[go_sem,simprocAttr,ep,lj,hc,wH,Cl,mU,Q5,aay]
  refine gG ?_;rw[hcs];exact hR1 (k+1) _ ZG ZG (.le vV)
 ·obtain rfl:k=l.length:=ZG;refine ah @ep ?_;have hcl:=kP l
  refine aP hN (λm:Nat=>⟨[(0,.ro 1 (aI l)),(4,.aa 49018 0),(7,.int .i64 (gJ l m)),(8,.int .i64 (bA l (m+1):Nat)),(9,.int .i64 ((m:Int)+1))],
   [(49018,.var (.sl 49016 0 l.length::(cW l++[.sl 49082 0 (sortL l m).length]))),(49016,.arr 1 (aI l)),(49082,.arr 1 (aI (sortL l m)))]⟩) (λm=>m<=15/\0<=gJ l m) (λm=>15-m) 0
   (.lh 49018 17 49082 1 (.sl 49016 0 l.length::(cW l++[.aj])) rfl (KW hcl) rfl (.le (by simp(disch:=first | omega | (simp only[Lx];omega))only[go_sem,simprocAttr,aaq,zJ,KY,sortL,pJ,gJ,bA]))) ⟨ZG,by show(0:Int)<=1;decide⟩ ?_
  rintro m R2 ⟨hm,hr⟩ hR2;by_cases hlt:m<15
  ·have hst:=U8 l m;have hrl:=room_le l hm;have hcb:=uU l (m+1);have hpb:=xi l (m+1);have hpb2:l.length*(m+1)<=320*16:=abJ hn ZG;have hsl:=mu l m;refine cM @ep @wH @Cl @mU @aay ?_;rw[<-hst];refine rU (λhneg=>?_) (λhneg=>?_)
   ·have hbad:=U7 l ZG ZG hneg;have hck:bF l=false:=by unfold bF;rw[decide_eq_false ZG];rfl
    refine ah hck ?_;exact hR.ro ⟨rfl,by rw[hck];rfl⟩
   ·refine ah @ep ?_
    refine aP hN (λk:Nat=>⟨[(0,.ro 1 (aI l)),(4,.aa 49018 0),(7,.int .i64 (gJ l (m+1))),(8,.int .i64 (bA l (m+2):Nat)),(9,.int .i64 ((m:Int)+1)),(65,.ro 1 (aI l)),(66,.int .i64 l.length),(67,.int .i64 k)],
     [(49018,.var (.sl 49016 0 l.length::(cW l++[.sl 49082 0 (sortL l m++kD l (m+1) k).length]))),(49016,.arr 1 (aI l)),(49082,.arr 1 (aI (sortL l m++kD l (m+1) k)))]⟩) (λk=>k<=l.length) (λk=>l.length-k) 0
     (.le (by simp(disch:=first | omega | (simp only[Lx];omega))only[go_sem,simprocAttr,kD,List.range_zero,ack,aaw,bA])) ZG ?_
    rintro k R3 hk hR3;by_cases hlt3:k<l.length
    ·have htl:=XA l (m+1) k;have hsu:=XB l (m+1) k;by_cases hx:l.getD k 0=m+1
     ·rw[if_pos hx]at hsu;simp(disch:=first | omega | (simp only[Lx];omega))only[go_sem,simprocAttr,ep,lj,hx,Au,kn,pK,aaq,zJ,KX]
      refine hR3 (k+1) _ ZG ZG (.le ?_);rw[hsu,<-aad,<-mg];exact cU @ep
     ·rw[if_neg hx,aaw]at hsu;refine cM @ep @lj @Au @kn @pK ?_;exact hR3 (k+1) _ ZG ZG (.le (by rw[hsu];exact vV))
    ·obtain rfl:k=l.length:=ZG;refine ah @ep ?_;refine hR2 (m+1) _ ZG ⟨ZG,ZG⟩ (.le ?_);rw[Xz];simp(disch:=first | omega | (simp only[Lx];omega))only[go_sem,simprocAttr,sortL]
  ·obtain rfl:m=15:=ZG;have hre:=room_end l;have hpn:=xj l hl;have hsl:=mu l 15
   have yes:bF l=true->R [(49018,.var (.sl 49016 0 l.length::(cW l++[.sl 49082 0 (sortL l 15).length]))),(49016,.arr 1 (aI l)),(49082,.arr 1 (aI (sortL l 15)))] (.ab [.aa 49018 0,.int .i64 0]) [.undef]:=by
    intro hck;rw[hck]at hR;refine hR.wk (h':=[]) (r':=.ab [a8 l,.int .i64 0]) (ar':=[.undef]) rfl (.bo 49016 (.bo 49082 (.ny 0 0 49018 [.aa 49018 0,.int .i64 0] (gZ l) vV (by rfl) ?_ ?_ (.le ?_)))) ⟨rfl,by rfl⟩
    ·simp(disch:=first | omega | (simp only[Lx];omega))only[go_sem,simprocAttr,aaq,Jc,pK,ep,tI,gZ]
    ·simp[gZ,noRefC,Jd]
    ·simp(disch:=first | omega | (simp only[Lx];omega))only[go_sem,simprocAttr,a8]
   have no:bF l=false->∀h,R h (.ab [.lit (.pointer none),.int .i64 4]) [.undef]:=by
    intro hck h;rw[hck]at hR;exact hR.ro ⟨rfl,rfl⟩
   have hp16:bA l (15+1)=dL l:=hpn
   have hone:∀x,((cW l++[x]).drop 1).getD 0 .undef=.int .i64 (bC l 1:Nat):=λx=>by
    have:=wH (a:=.undef) (b:=x) (xs:=cW l) (i:=1) ZG;rw[mU l ZG]at this;exact this
   have honl:∀x,0<((cW l++[x]).drop 1).length:=λx=>by simp;omega
   by_cases ha:0<gJ l 15
   ·by_cases hb:dL l=0
    ·have hck:bF l=true:=by unfold bF;rw[decide_eq_true (show eu l<=32768 by omega),decide_eq_true hb];simp
     refine aE hp16 hb ?_;refine gG ?_;exact yes hck
    ·by_cases hc:dL l=1
     ·by_cases hd:bC l 1=1
      ·have hck:bF l=true:=by unfold bF;rw[decide_eq_true (show eu l<=32768 by omega),decide_eq_true hc,decide_eq_true hd];simp
       refine cM hp16 hc hone honl hd ?_;refine iY hone honl hd ?_;exact yes hck
      ·have hck:bF l=false:=by unfold bF;rw[decide_eq_false (show ¬eu l=32768 by omega),decide_eq_false hb,decide_eq_false hd];simp
       refine cq hp16 hc hone honl ?_;refine ee hone honl ?_;exact no hck _
     ·have hck:bF l=false:=by unfold bF;rw[decide_eq_false (show ¬eu l=32768 by omega),decide_eq_false hb,decide_eq_false hc];simp
      refine ah hp16 ?_;refine gG ?_;exact no hck _
   ·have hck:bF l=true:=by unfold bF;rw[decide_eq_true (show eu l<=32768 by omega),decide_eq_true (show eu l=32768 by omega)];simp
    refine ah hp16 ?_;refine gG ?_;exact yes hck
theorem Ux {l:List Nat} (h:dL l=0) (b:List Bool):readL (bB l) b=(0,0,3):=by
 have h0:∀s,s<l.length->l.getD s 0=0:=by
  intro s hs;refine Nat.eq_zero_of_not_pos λhp=>?_;unfold dL at h;have:=List.countP_eq_zero.1 h (l.getD s 0) (by rw[ZH,List.getElem?_eq_getElem hs];exact aaP hs);simp[-List.getD_eq_getElem?_getD]at this;omega
 unfold readL;rw[vo (λs hs=>vS (h0 s hs))];simp only;rw[if_pos];rw[ZR];intro c hc;obtain⟨s,hs,rfl⟩:=aaL.1 hc;unfold cN;rw[if_pos (h0 s (List.mem_range.1 hs))];rfl
theorem or_bit {c b:Nat} (hc:c<32768) (hb:b<=1):bits .or .i64 (IntKind.i64.wrap ((c:Int)*2^min 1 64)) (b:Int)=((2*c+b:Nat):Int):=by
 rw[show((c:Int)*2^min 1 64)=((c*2:Nat):Int)by push_cast;rfl,eF ZG]
 show IntKind.i64.wrap ((BitVec.ofInt 64 ((c*2:Nat):Int) ||| BitVec.ofInt 64 (b:Int)).toNat:Int)=_
 rw[ZU,ZU,aaG,ZT,ZT,ZO ZG,ZO ZG]
 have h1:c*2 ||| b=2*c+b:=by
  have:=aab (b:=b) (i:=1) ZG c;rw[aao]at this;rw[show c*2=c*2^1 by rfl,<-this];omega
 rw[h1];exact eF ZG
theorem xZ (l:List Nat):((gZ l).drop 1).take 16=cW l:=by
 unfold gZ;rw[aav,aae,aci (kP l)]
theorem XJ (l:List Nat):(gZ l).getD 17 .undef=.ro 1 (aI (sortL l 15)):=by
 unfold gZ;rw[aaX,ZH,List.getElem?_append_right (by rw[kP];omega),kP];rfl
theorem XI (l:List Nat):(gZ l).length=18:=by simp[gZ,kP]
set_option maxHeartbeats 1000000 in
theorem vT (l:List Nat) (hl:∀n∈l,n<=15) (hll:l.length<=320) (hck:bF l=true) (s:Bs) (a hv fr p:Nat) (hs:s.length<=1000000000000) (h:bq s a hv p):Eng.Spec Tryz.prog 201 [(RD,.var (aK s a hv fr))] [a8 l,.aa RD 0]
    (λh' v ar=>∃a' hv' p' k,bq s a' hv' p'/\h'=[(RD,.var (aK s a' hv' fr))]/\v=.ab [.int .i64 (k:Nat),.int .i64 ((readL (bB l) (ck s p)).2.2:Nat)] /\
     ((readL (bB l) (ck s p)).2.2=0->k=(readL (bB l) (ck s p)).1/\p'=p+(readL (bB l) (ck s p)).2.1)/\ar=[a8 l,.aa RD 0]):=by
 have hc:eu l<=32768:=by unfold bF at hck;simp at hck;exact hck.1
 refine Cod.Nn (λE R hN hR=>?_);have hsl:=mu l 15;have hpn:=xj l hl;have hp16:bA l (15+1)=dL l:=hpn;have htl:=XI l;have hnum:dL l<=l.length:=acg;have hts:=XJ l;have hnl:=ep (sortL l 15);have hso:∃so,sortL l 15=so:=⟨_,rfl⟩;obtain⟨so,hso⟩:=hso;rw[hso]at hsl hts hnl;by_cases h0:dL l=0
 ·have hr:=Ux h0 (ck s p);rw[hr]at hR;simp(disch:=omega)only[go_sem,simprocAttr,a8,htl,hts,hnl,hsl,hp16,h0];exact hR.le vV ⟨a,hv,p,0,h,rfl,rfl,λe=>by simp at e,rfl⟩
 ·simp(disch:=omega)only[go_sem,simprocAttr,a8,htl,hts,hnl,hsl,hp16,h0];have hbl:=xx s p;generalize hb:ck s p=b at *
  refine aP hN (λq:Nat×Nat×Nat=>⟨[(0,.ao (.agg (gZ l))),(1,.aa 40014 0),(6,.int .i64 (msb (b.take q.1):Nat)),(7,.int .i64 (fstL l (q.1+1):Nat)),(8,.int .i64 (bA l (q.1+1):Nat)),(9,.int .i64 ((q.1:Int)+1)),
   (2000000,.ao (.agg (gZ l))),(2000001,.aa 40014 0)],[(40014,.var (aK s q.2.1 q.2.2 fr))]⟩)
   (λq=>q.1<15/\bq s q.2.1 q.2.2 (p+q.1)/\q.1<=cX s p/\mK l b (q.1+1)/\fstL l (q.1+1)<=2*msb (b.take q.1)/\bA l (q.1+1)<dL l) (λq=>15-q.1) (0,a,hv)
   (.le (by simp(disch:=omega)only[go_sem,simprocAttr,msb,List.foldl_nil,fstL,bA])) ⟨ZG,h,ZG,λs _ h1 h2=>by omega,by simp[fstL],by simp only[bA];omega⟩ ?_
  rintro⟨n,a,hv⟩ R1 ⟨hn,hrd,hlb,hno,hj,hpre⟩ hR1;simp only at hn hrd hlb hno hj hpre;have hmt:=Cp (b.take n);have hmt2:2^(b.take n).length<=2^15:=ZY (by decide) (by rw[ZL];omega);have hkr:=wm hc (n:=n+1) ZG ZG;have hk2:2^(n+1)<=2^15:=ZY (by decide) ZG;simp(disch:=omega)only[go_sem,simprocAttr,a8];refine aW [(RD,.var (aK s a hv fr))] (sU s a hv fr (p+n) 1 hs hrd ZG) vV nofun ?_;rintro h' v ar ⟨a',hv',hrd',rfl,rfl,rfl⟩;refine⟨bT,rfl,?_⟩;unfold cX at hlb;by_cases hbit:1<=cX s (p+n)
  ·rw[if_pos hbit]at hrd';have hbit2:=hbit;unfold cX at hbit2;have hbn:n<b.length:=ZG;have hget:b.getD n false=jz s (p+n):=by rw[<-hb];exact UL s p ZG
   have hms:=wI b n hbn;rw[hget,<-Sd]at hms;have hx1:=gU s (p+n) 1;have hle:=QS hbn hj;have hob:=or_bit (c:=msb (b.take n)) (b:=numAt s (p+n) 1) ZG ZG;rw[<-hms]at hob;have hcl:=kP l;have hpb:=xi l (n+1);have hpm:=pT l (n+2) (16-(n+2));rw[show n+2+(16-(n+2))=16 by omega,hpn]at hpm;have hps:bA l (n+2)=bA l (n+1)+bC l (n+1):=rfl;have hfs:fstL l (n+2)=2*(fstL l (n+1)+bC l (n+1)):=rfl;refine kH hbit hob @xZ htl hcl @mU ?_;refine rU (λhk=>?_) (λhk=>?_)
   ·obtain⟨k,hke⟩:∃k,msb (b.take (n+1))=fstL l (n+1)+k:=⟨msb (b.take (n+1))-fstL l (n+1),ZG⟩;obtain⟨sy,g1,g2,g3⟩:=QW hc hl hn hbn hno hj hke ZG;rw[hso]at g1;rw[g3]at hR;have ei:((bA l (n+1):Nat):Int)+(((msb (b.take (n+1)):Nat):Int)-((fstL l (n+1):Nat):Int))=((bA l (n+1)+k:Nat):Int):=ZG;simp(disch:=omega)only[go_sem,simprocAttr,hts,htl,hnl,hsl,hp16,ei,lj,g1];exact hR.le (by simp(disch:=omega)only[go_sem,simprocAttr,a8]) ⟨a',hv',p+n+1,sy,hrd',rfl,rfl,λ_=>⟨rfl,by show _=p+(n+1);omega⟩,rfl⟩
   ·obtain⟨g1,g2⟩:=QU hc hl hn hbn hno ZG
    have hw2:(((fstL l (n+1):Nat):Int)+((bC l (n+1):Nat):Int))*2^min 1 64=((fstL l (n+2):Nat):Int):=by
     rw[hfs,show(2:Int)^min 1 64=2 by decide];push_cast;omega
    have ha2:((bA l (n+1):Nat):Int)+((bC l (n+1):Nat):Int)=((bA l (n+2):Nat):Int):=by rw[hps];push_cast;rfl
    by_cases hend:bA l (n+2)=dL l
    ·have hr:=QV (b:=b) hl (n:=n+1) ZG ZG hend ZG g1;rw[hr]at hR;simp(disch:=omega)only[go_sem,simprocAttr,xZ,hts,htl,hcl,mU,hw2,ha2,hnl,hsl,hp16,hend];exact hR.le (by simp(disch:=omega)only[go_sem,simprocAttr,a8]) ⟨a',hv',p+n+1,0,hrd',rfl,rfl,λe=>by simp at e,rfl⟩
    ·have hne:¬((bA l (n+2):Nat):Int)=((dL l:Nat):Int):=ZG
     have hn15:n+1<15:=by
      refine Nat.lt_of_not_le λhh=>?_;have:n=14:=ZG;subst this;exact hend hpn
     simp(disch:=omega)only[go_sem,simprocAttr,xZ,hts,htl,hcl,mU,hw2,ha2,hnl,hsl,hp16,hne];exact hR1 (n+1,a',hv') _ (by simp only;omega) ⟨hn15,hrd',by simp only[cX];omega,g1,g2,by show bA l (n+2)<_;omega⟩ (.le vV)
  ·have hbn:b.length=n:=by unfold cX at hbit;omega
   rw[if_neg hbit]at hrd';have hr:=QQ (b:=b) hl hck ZG (by rw[hbn];exact hpre) (by rw[hbn];exact hno) (by rw[ZK ZG]at hj;rw[hbn];exact hj);rw[hr]at hR;refine ah hbit ?_;exact hR.le vV ⟨a',hv',p+n,0,hrd',rfl,rfl,λe=>by simp at e,rfl⟩
end Go.Proofs.YtkdjbebgdoohjaaGreatDoor.Pk
namespace Go.Proofs.YtkdjbebgdoohjaaGreatDoor.Cod
open Eng Eng.Kz
set_option maxRecDepth 100000
abbrev N9:=Kf.k2 60 Tryz.func202
abbrev Oq:AK:=pk (x:=Kc.code Tryz.prog Tryz.f198 61 [] (Kc.lr 1 [.tmp 2])) _
abbrev Ot:AK:=pk (x:=Oq.y.y.y.y.y.y) _
abbrev Ov:=Kf.k1 61 Tryz.func198
abbrev pt:AK:=pk (x:=Kc.code Tryz.prog Tryz.f200 62 [62081,62159] (Kc.lr 1 [.tmp 2,.tmp 3,.tmp 4])) _
abbrev OA:AK:=pk (x:=pt.y.y.y.y.y.y.y.y.y.y) _
abbrev BV:AK:=pk (x:=pt.y.y.y.y.y.y.y.y.y.y.y) _
abbrev BW:AK:=pk (x:=pt.y.y.y.y.y.y.y.y.y.y.x.x.x.y.x.y.y.y.y.y) _
abbrev OB:AK:=pk (x:=pt.y.y.y.y.y.y) _
abbrev OC:AK:=pk (x:=pt.y.y.y.y.y.y.y) _
abbrev OE:=Kf.k1 62 Tryz.func200 [62081,62159]
abbrev Oc:=Kf.k3 63 Tryz.func203
abbrev rW:AK:=pk (x:=Kc.code Tryz.prog Tryz.f180 64 [64010] (Kc.lr 1 [.tmp 2])) _
abbrev BO:AK:=pk (x:=rW.y.x.y.y.y.y.y.y.y.y.y.y) _
abbrev Od:AK:=pk (x:=rW.y.x.y.y.y.y.y.y.y.y.y.y.y.y.y) _
abbrev Oe:AK:=pk (x:=rW.y.x.y.y.y.y.y.y.y.y.y.y.y.y.y.y.y.y) _
abbrev v7:AK:=pk (x:=rW.y.x.y.y.y.y.y.y) _
abbrev Oi:=Kf.k1 64 Tryz.func180 [64010]
abbrev NZ:=Kf.s3 65 Tryz.func158
abbrev NL:=Kf.s0 66 Tryz.func199
abbrev N8:=Kf.s0 67 Tryz.func218
abbrev NP:=Kf.s1 68 Tryz.func219
abbrev Ny:=Kf.s1 69 Tryz.func220
abbrev L5:=Kf.s1 80 Tryz.func215
end Go.Proofs.YtkdjbebgdoohjaaGreatDoor.Cod
namespace Go.Proofs.YtkdjbebgdoohjaaGreatDoor.Pk
open Eng
set_option maxRecDepth 10000
def Ff:Nat:=79038
def Fc:Nat:=73035
attribute [go_sem] Ff Fc
theorem Dp (t:Bs) (most n:Nat) (S:SS):rawS t most (n+1) S=if S.err≠0 then S else rawS t most n (gn most (UInt8.ofNat (bH t 8 S).1) (bH t 8 S).2):=rfl
open Eng
set_option maxRecDepth 10000
def eC (f:Nat->Nat) (n:Nat):List Nat:=(List.range n).map f
theorem EK (f:Nat->Nat) (n:Nat):(eC f n).length=n:=by simp[eC]
theorem EL (f:Nat->Nat) (n:Nat):eC f (n+1)=eC f n++[f n]:=by simp[eC,abl]
theorem EM (f:Nat->Nat):eC f 0=[]:=(rfl)
theorem lg {xs:List Nat}:az (aI xs) 0 xs.length=aI xs:=by simp[az,aI,ZK]
def fixF (i:Nat):Nat:=if 256<=i/\i<280 then 7 else if 144<=i/\i<256 then 9 else 8
theorem Lq:eC fixF 288=ir:=by decide +kernel
theorem Lp:eC (λ_=>5) 32=iq:=by decide +kernel
theorem lY:(∀n∈ir,n<=15)/\ir.length=288/\bF ir=true:=by decide +kernel
theorem lX:(∀n∈iq,n<=15)/\iq.length=32/\bF iq=true:=by decide +kernel
theorem Er {l:List Nat} (h:∀n∈l,n<=15) (k:Nat):∀n∈l.take k,n<=15:=λn hn=>h n (abr hn)
theorem Ae {l:List Nat} (h:∀n∈l,n<=15) (k:Nat):∀n∈l.drop k,n<=15:=λn hn=>h n (abL hn)
theorem wE (t:Bs) (fl:List Nat) (N k:Nat) (l:List Nat) (S:SS):jf t fl N (k+1) l S=if N<=l.length\/S.err≠0 then(l,S)else
    if(dT N l (dU t l (bO t fl S).1 (bO t fl S).2)).err≠0 then(l,dT N l (dU t l (bO t fl S).1 (bO t fl S).2))
    else jf t fl N k (l++List.replicate (dU t l (bO t fl S).1 (bO t fl S).2).1 (dU t l (bO t fl S).1 (bO t fl S).2).2.1) (dT N l (dU t l (bO t fl S).1 (bO t fl S).2)):=rfl
theorem RA (l:List Nat) (k x:Nat):aI (l++List.replicate k x)++[.int .i64 (x:Int)]=aI (l++List.replicate (k+1) x):=by
 rw[mg,aad,<-abM]
def pz (t:Bs) (nl nd:Nat) (b:List Nat×SS):(List Nat×List Nat)×SS:=
 if b.2.err≠0 then(([],[]),b.2)else
 if b.1.getD 256 0=0\/bF (b.1.take nl)=false\/bF (b.1.drop nl)=false then(([],[]),{b.2 with err:=3})else((b.1.take nl,b.1.drop nl),b.2)
def fY (t:Bs) (nl nd:Nat) (a:List Nat×SS):(List Nat×List Nat)×SS:=
 if a.2.err≠0 then(([],[]),a.2)else if bF a.1=false then(([],[]),{a.2 with err:=3})else pz t nl nd (jf t a.1 (nl+nd) (nl+nd) [] a.2)
theorem Ak (t:Bs) (S:SS):fp t S=if 8*t.length<S.p+14 then(([],[]),{S with err:=6})else if 286<numAt t S.p 5+257\/30<numAt t (S.p+5) 5+1 then(([],[]),{S with p:=S.p+14,err:=3})else
    fY t (numAt t S.p 5+257) (numAt t (S.p+5) 5+1) (firstS t (numAt t (S.p+10) 4+4) (numAt t (S.p+10) 4+4) (List.replicate 19 0) {S with p:=S.p+14}):=rfl
theorem vu (t:Bs) (nc k:Nat) (l:List Nat) (S:SS):firstS t nc (k+1) l S=if S.err≠0 then(l,S)else firstS t nc k (l.set (gX.getD (nc-(k+1)) 0) (bH t 3 S).1) (bH t 3 S).2:=rfl
theorem Ln (t:Bs) (nc k:Nat) (l:List Nat) (S:SS) (h:S.err≠0):firstS t nc k l S=(l,S):=by
 cases k with
 | zero=>rfl
 | succ k=>rw[vu,if_pos h]
theorem TL:∀j,j<19->gX.getD j 0<19:=by decide
theorem RC {l:List Nat} {i x:Nat}:(aI l).set i (.int .i64 (x:Int))=aI (l.set i x):=by simp[aI,acr]
def fE:Nat:=65032
def uf:Nat:=60022
attribute [go_sem] fE uf
def aG (s:Bs) (o most a hv:Nat) (out:Bs):HP:=[(fE,.var [.aa RD 0,.sl uf 0 out.length,.int .i64 most]),(uf,.arr 1 (out.map ub)),(RD,.var (aK s a hv o))]
theorem qo {p:Prop} (h:p:=by simp(disch:=first | omega | (simp only[Lx];omega))only[go_sem,simprocAttr,aG,aK,a8]):p:=h
theorem yf {a b:Prop} (k:b) (h:b->a:=by intro h;simp(disch:=first | omega | (simp only[Lx];omega))only[go_sem,simprocAttr,aG,aK,a8];exact h):a:=h k
theorem tQ {E0:Prop} {p:Prop} (e0:E0) (h:E0->p:=by intro e0;simp(disch:=first | omega | (simp only[Lx];omega))only[go_sem,simprocAttr,aG,aK,a8,e0]):p:=h e0
theorem bf {p:Prop} (h:p:=by simp(disch:=first | omega | (simp only[Lx];omega))only[go_sem,simprocAttr,aG,aK]):p:=h
theorem kG {a b:Prop} (k:b) (h:b->a:=by intro h;simp(disch:=first | omega | (simp only[Lx];omega))only[go_sem,simprocAttr,aG,aK];exact h):a:=h k
theorem EO {E0:Prop} {p:Prop} (e0:E0) (h:E0->p:=by intro e0;simp(disch:=first | omega | (simp only[Lx];omega))only[go_sem,simprocAttr,aG,aK,e0]):p:=h e0
theorem tV {E0:Prop} {a b:Prop} (e0:E0) (k:b) (h:E0->b->a:=by intro e0 h;simp(disch:=first | omega | (simp only[Lx];omega))only[go_sem,simprocAttr,aG,aK,e0];exact h):a:=h e0 k
theorem Yl {p:Prop} (h:p:=by simp(disch:=first | omega | (simp only[Lx];omega))only[go_sem,simprocAttr,aG]):p:=h
theorem jo {a b:Prop} (k:b) (h:b->a:=by intro h;simp(disch:=first | omega | (simp only[Lx];omega))only[go_sem,simprocAttr,aG];exact h):a:=h k
theorem yi {E0 E1:Prop} {a b:Prop} (e0:E0) (e1:E1) (k:b) (h:E0->E1->b->a:=by intro e0 e1 h;simp(disch:=first | omega | (simp only[Lx];omega))only[go_sem,simprocAttr,aG,e0,e1];exact h):a:=h e0 e1 k
theorem BN (s:Bs) (o most a hv:Nat) (out:Bs) (hm:most<=1000000) (ho:out.length<=most) (c:UInt8):Eng.Spec Tryz.prog 202 (aG s o most a hv out) [.aa fE 0,.int .u8 (c.toNat:Int)]
    (λh' v ar=>h'=aG s o most a hv (if out.length=most then out else out++[c])/\v=.int .i64 (if out.length=most then 2 else 0:Nat)/\ar=[.aa fE 0,.int .u8 (c.toNat:Int)]):=by
 refine Cod.N9 (λE R hN hR=>?_);have hc:=c.toNat_lt;by_cases hf:out.length=most
 ·rw[if_pos hf,if_pos hf]at hR;refine kG ?_;refine gG ?_;exact hR.le bf ⟨rfl,rfl,rfl⟩
 ·rw[if_neg hf,if_neg hf]at hR;refine kG ?_;refine gG ?_;refine hR.le ?_ ⟨rfl,rfl,rfl⟩;refine kG ?_;rw[abY]
theorem QF:∀i:Nat,i<28->8<=i->IntKind.i64.wrap (3+IntKind.i64.wrap ((4+(i:Int)%4)*2^min ((i:Int)/4-1).toNat 64))=((3+(4+i%4)*2^(i/4-1):Nat):Int)/\(i:Int)/4-1=((i/4-1:Nat):Int):=by decide +kernel
theorem Ka:∀i:Nat,i<30->4<=i->IntKind.i64.wrap (1+IntKind.i64.wrap ((2+(i:Int)%2)*2^min ((i:Int)/2-1).toNat 64))=((1+(2+i%2)*2^(i/2-1):Nat):Int)/\(i:Int)/2-1=((i/2-1:Nat):Int):=by decide +kernel
theorem NN (i:Nat) (hi:i<=28):aw Tryz.prog 219 [.int .i64 i] (.ab [.int .i64 ((bZ i).1:Nat),.int .i64 ((bZ i).2:Nat)]):=by
 refine Cod.NP (λE R hN hR=>?_);by_cases h28:i=28
 ·subst h28;refine wW ?_;exact hR.le vV ⟨rfl,rfl⟩
 ·by_cases h8:i<8
  ·have e:bZ i=(3+i,0):=by unfold bZ;rw[if_neg h28,if_pos h8]
   rw[e]at hR;refine wW ?_;refine gG ?_;exact hR.le vV ⟨rfl,rfl⟩
  ·have e:bZ i=(3+(4+i%4)*2^(i/4-1),i/4-1):=by unfold bZ;rw[if_neg h28,if_neg h8]
   rw[e]at hR;refine wW ?_;refine gG ?_;obtain⟨w1,w2⟩:=QF i ZG ZG;rw[w1,w2];exact hR.le vV ⟨rfl,rfl⟩
theorem Nx (i:Nat) (hi:i<=29):aw Tryz.prog 220 [.int .i64 i] (.ab [.int .i64 ((gA i).1:Nat),.int .i64 ((gA i).2:Nat)]):=by
 refine Cod.Ny (λE R hN hR=>?_);by_cases h4:i<4
 ·have e:gA i=(1+i,0):=by unfold gA;rw[if_pos h4]
  rw[e]at hR;refine wW ?_;refine gG ?_;exact hR.le vV ⟨rfl,rfl⟩
 ·have e:gA i=(1+(2+i%2)*2^(i/2-1),i/2-1):=by unfold gA;rw[if_neg h4]
  rw[e]at hR;refine wW ?_;refine gG ?_;obtain⟨w1,w2⟩:=Ka i ZG ZG;rw[w1,w2];exact hR.le vV ⟨rfl,rfl⟩
def PI (s:Bs) (o most:Nat) (F:SS) (h':HP) (v:AV):Prop:=
 ∃a' hv' out',h'=aG s o most a' hv' out'/\v=.int .i64 (F.err:Nat)/\(F.err=0->out'=F.out/\bq s a' hv' (8*o+F.p))
theorem jL {s:Bs} {o most:Nat} {F:SS} {h':HP} {v:AV} (h:∃a' hv' S',h'=aG s o most a' hv' S'.out/\bq s a' hv' (8*o+S'.p)/\S'.out.length<=most/\v=.int .i64 (F.err:Nat)/\(F.err=0->S'=F)):PI s o most F h' v:=by
 obtain⟨a',hv',S',h1,h2,_,h4,h5⟩:=h;exact⟨a',hv',S'.out,h1,h4,λhe=>by obtain rfl:=h5 he;exact⟨rfl,h2⟩⟩
theorem wC (s:Bs) (o p:Nat):cX s (8*o+p)=8*(s.drop o).length-p:=by unfold cX;rw[ZN];omega
theorem Ag (s:Bs) (q:Nat) (h:q+2<=s.length):(s.drop q).take 2=[s.getD q 0,s.getD (q+1) 0]:=by
 have h1:q<s.length:=ZG;have h2:q+1<s.length:=ZG;rw[aak h1,aak h2,ZH,ZH,List.getElem?_eq_getElem h1,List.getElem?_eq_getElem h2];rfl
theorem Ce (x y:UInt8):aw Tryz.prog 215 [.str [x,y]] (.int .u64 ((x.toNat+y.toNat*2^8:Nat):Int)):=by
 refine Cod.L5 (λE R hN hR=>?_);have hx:=x.toNat_lt;have hy:=y.toNat_lt;refine wW ?_;refine aP hN (λi:Nat=>⟨[(0,.str [x,y]),(3,.int .u64 (if i=0 then 0 else if i=1 then x.toNat else x.toNat+y.toNat*2^8:Nat)),(7,.int .i64 2),(8,.int .i64 i)],[]⟩) (λi=>i<=2) (λi=>2-i) 0 (.le vV) ZG ?_
 rintro i R1 hi hR1;obtain rfl | rfl | rfl:i=0\/i=1\/i=2:=ZG
 ·have e0:bits .or .u64 0 (IntKind.u64.wrap ((x.toNat:Int)*2^min 0 64))=((x.toNat:Nat):Int):=(wT (x:=0) (k:=0) (b:=x.toNat) (by decide) (by decide) hx).trans (by rw[aaY,Nat.pow_zero,aay]);refine ah e0 ?_;exact hR1 1 _ ZG ZG (.le vV)
 ·have e1:bits .or .u64 (x.toNat:Int) (IntKind.u64.wrap ((y.toNat:Int)*2^min 8 64))=((x.toNat+y.toNat*2^8:Nat):Int):=wT (k:=8) hx (by decide) hy;refine ah e1 ?_;exact hR1 2 _ ZG ZG (.le vV)
 ·refine wW ?_;exact hR.le vV ⟨rfl,rfl⟩
theorem pV (t:Bs) (most:Nat) {S:SS} (h:S.err≠0):∀n,rawS t most n S=S
 | 0=>rfl
 | n+1=>by rw[Dp,if_pos h]
theorem Dn (t:Bs) (most:Nat):∀(n:Nat) (S:SS) (q:Nat),S.err=0->S.p=8*q->q<=t.length->S.out.length<=most ->
    (rawS t most n S).err=(if most<S.out.length+min n (t.length-q)then 2 else if t.length<q+n then 6 else 0)/\((rawS t most n S).err=0->rawS t most n S=⟨8*(q+n),S.out++(t.drop q).take n,0⟩)
 | 0,S,q,he,hp,hq,ho=>by
  refine⟨?_,λ_=>?_⟩
  ·rw[if_neg ZG,if_neg ZG];exact he
  ·obtain⟨p,out,err⟩:=S;simp only at he hp;subst he hp
   simp[rawS]
 | n+1,S,q,he,hp,hq,ho=>by
  rw[Dp,if_neg (by simpa using he)];by_cases hq1:q=t.length
  ·have hn:=mi (n:=8) he (t:=t) ZG;rw[hn];have hput:gn most (UInt8.ofNat (0,{S with err:=6}).1) (0,{S with err:=6}).2={S with err:=6}:=if_pos (by simp);rw[hput,pV _ _ (by simp)];refine⟨?_,λh=>absurd h (by simp)⟩;rw[if_neg ZG,if_pos ZG]
  ·have hn:=kq (n:=8) he (t:=t) ZG;rw[hn];simp only;rw[hp,sA,abY];unfold gn;rw[if_neg (by simpa using he)];by_cases hf:most<=S.out.length
   ·simp only[if_pos hf];rw[pV _ _ (by simp)];refine⟨?_,λh=>absurd h (by simp)⟩;rw[if_pos ZG]
   ·simp only[if_neg hf];obtain⟨h1,h2⟩:=Dn t most n {p:=8*q+8,out:=S.out++[t.getD q 0],err:=S.err} (q+1) he (by simp only;omega) ZG (by simp only[ZJ,ZQ];omega);refine⟨?_,λh=>?_⟩
    ·rw[h1];simp only[ZJ,ZQ];rw[show S.out.length+1+min n (t.length-(q+1))=S.out.length+min (n+1) (t.length-q)by omega,show q+1+n=q+(n+1)by omega]
    ·rw[h2 h];have hlt:q<t.length:=ZG;rw[aak hlt,aaA,ZH,List.getElem?_eq_getElem hlt,show q+1+n=q+(n+1)by omega];simp
theorem Xd (t:Bs) (most:Nat) (S:SS) (he:S.err=0) (hp:S.p<=8*t.length) (ho:S.out.length<=most) (q:Nat) (hq:dM S.p=8*q) :
    if t.length<q+4 then(gK t most S).err=6 else
     if(t.getD q 0).toNat+(t.getD (q+1) 0).toNat*2^8+((t.getD (q+2) 0).toNat+(t.getD (q+3) 0).toNat*2^8)≠65535 then(gK t most S).err=3 else
     (gK t most S).err=(if most<S.out.length+min ((t.getD q 0).toNat+(t.getD (q+1) 0).toNat*2^8) (t.length-(q+4))then 2 else if t.length<q+4+((t.getD q 0).toNat+(t.getD (q+1) 0).toNat*2^8)then 6 else 0) /\
     ((gK t most S).err=0->gK t most S=⟨8*(q+4+((t.getD q 0).toNat+(t.getD (q+1) 0).toNat*2^8)),S.out++(t.drop (q+4)).take ((t.getD q 0).toNat+(t.getD (q+1) 0).toNat*2^8),0⟩):=by
 have hn16:∀i,numAt t (8*i) 16=(t.getD i 0).toNat+(t.getD (i+1) 0).toNat*2^8:=by
  intro i;rw[show(16:Nat)=8+8 from rfl,Se,sA,show 8*i+8=8*(i+1)by omega,sA]
 have hup:mD S={S with p:=8*q}:=by unfold mD;unfold dM at hq;rw[hq]
 have hq2:q<=t.length:=by unfold dM at hq;omega
 unfold gK;simp only;rw[hup];by_cases h4:t.length<q+4
 ·rw[if_pos h4];by_cases h2:t.length<q+2
  ·rw[mi (by exact he) (by simp only;omega)];simp only;rw[Sb (by simp)];simp only;rw[if_pos (by decide)];rw[pV _ _ (AD (by decide))];rfl
  ·rw[kq (by exact he) (by simp only;omega)];simp only;rw[mi (by exact he) (by simp only;omega)];simp only;have hfe:fG 3 {p:=8*q+16,out:=S.out,err:=6}=({p:=8*q+16,out:=S.out,err:=6}:SS):=if_neg (by simp);rw[hfe,ite_self,pV _ _ (by simp)]
 ·rw[if_neg h4];rw[kq (by exact he) (by simp only;omega)];simp only;rw[kq (by exact he) (by simp only;omega)];simp only;rw[show 8*q+16=8*(q+2)by omega,hn16,hn16];by_cases hx:(t.getD q 0).toNat+(t.getD (q+1) 0).toNat*2^8+((t.getD (q+2) 0).toNat+(t.getD (q+2+1) 0).toNat*2^8)≠65535
  ·rw[if_pos hx,if_pos hx,pV _ _ (AD (by decide)),lV (by exact he)]
  ·rw[if_neg hx,if_neg hx];exact Dn t most _ _ (q+4) he (by simp only;omega) ZG ho
theorem VC (s:Bs) (a hv fr p:Nat) (hs:s.length<=1000000000000) (h:bq s a hv p) (hfr:8*fr<=p):Eng.Spec Tryz.prog 181 [] [.ao (.agg (aK s a hv fr))] (λh' v ar=>h'=[]/\v=.int .i64 ((p+7)/8-fr:Nat)/\ar=[.ao (.agg (aK s a hv fr))]):=by
 refine Cod.VD (λE R hN hR=>?_);obtain⟨h1,h2,h3⟩:=h;have eq:(hv:Int).tdiv 8=((hv/8:Nat):Int):=by rw[tJ ZG];omega
 have e2:(a:Int)-((hv/8:Nat):Int)-(fr:Int)=(((p+7)/8-fr:Nat):Int):=ZG;refine yj eq e2 ?_;exact hR.le vV ⟨rfl,rfl,rfl⟩
theorem UU (s:Bs) (a hv fr p:Nat) (hs:s.length<=1000000000000) (h:bq s a hv p):Eng.Spec Tryz.prog 216 [] [.ao (.agg (aK s a hv fr))] (λh' v ar=>h'=[]/\v=.int .i64 (cX s p:Nat)/\ar=[.ao (.agg (aK s a hv fr))]):=by
 refine Cod.UW (λE R hN hR=>?_);obtain⟨h1,h2,h3⟩:=h;have e2:8*((s.length:Int)-(a:Int))+(hv:Int)=((cX s p:Nat):Int):=by unfold cX;omega
 refine YL e2 ?_;exact hR.le vV ⟨rfl,rfl,rfl⟩
theorem XG (s:Bs) (q:Nat) (h:q+4<=s.length):(s.drop q).take 4=[s.getD q 0,s.getD (q+1) 0,s.getD (q+2) 0,s.getD (q+3) 0]:=by
 have e:(s.drop q).take 4=(s.drop q).take 2++(s.drop (q+2)).take 2:=by rw[show(4:Nat)=2+2 from rfl,List.take_add,aa3]
 rw[e,Ag s q ZG,Ag s (q+2) ZG];rfl
theorem Zf {n:Nat} (h:n<65536):n ^^^ 65535=65535-n:=by
 have h1:(BitVec.ofNat 16 n ^^^ BitVec.allOnes 16).toNat=(~~~ (BitVec.ofNat 16 n)).toNat:=by rw[BitVec.xor_allOnes]
 rw[BitVec.toNat_xor,BitVec.toNat_not,ZT,BitVec.toNat_allOnes,ZO ZG]at h1;omega
set_option maxHeartbeats 1000000 in
theorem Ou (s:Bs) (o most a hv:Nat) (S:SS) (hs:s.length<=1000000000) (ho:o<=s.length) (hm:most<=1000000) (hr:bq s a hv (8*o+S.p)) (hol:S.out.length<=most) (he:S.err=0) :
    Eng.Spec Tryz.prog 198 (aG s o most a hv S.out) [.aa fE 0] (λh' v ar=>PI s o most (gK (s.drop o) most S) h' v/\ar=[.aa fE 0]):=by
 refine Cod.Ov (λE R hN hR=>?_);obtain⟨q,hq⟩:∃q,dM S.p=8*q:=⟨(S.p+7)/8,by unfold dM;omega⟩;have hr':=hr;obtain⟨r1,r2,r3⟩:=hr';have aY:S.p<=8*(s.drop o).length:=by rw[ZN];omega
 have hup:dM (8*o+S.p)=8*(o+q):=by unfold dM at hq |-;omega
 have hud:dM (8*o+S.p)/8=o+q:=ZG;have law:=Xd (s.drop o) most S he aY hol q hq;generalize gK (s.drop o) most S=F at *
 have gd:∀i,(s.drop o).getD i 0=s.getD (o+i) 0:=λi=>by rw[ZH,List.getElem?_drop,<-ZH]
 rw[gd,gd,gd,gd,ZN,aa3]at law;have hb:=xr s a hv o (8*o+S.p) 4 ZG (by decide) hr;rw[hud]at hb;refine jo ?_;refine aW [(RD,.var (aK s a hv o))] hb vV nofun ?_;rintro h' v ar ⟨a1,hv1,hr1,hz1,rfl,rfl,rfl⟩;by_cases h4:s.length<o+q+4
 ·rw[if_neg ZG]at hr1;rw[if_neg ZG,decide_eq_false ZG];rw[if_pos ZG]at law;refine⟨bT,rfl,?_⟩;refine jq ?_;exact hR.le (h':=aG s o most a1 hv1 S.out) bf ⟨jL ⟨a1,hv1,{S with p:=8*q,err:=6},rfl,by simp only;rw[show 8*o+8*q=8*(o+q)by omega,<-hup];exact hr1,hol,by rw[law];rfl,λh=>absurd h (by rw[law];decide)⟩,rfl⟩
 ·rw[if_pos ZG]at hr1;rw[if_pos ZG,decide_eq_true ZG,XG s (o+q) ZG];rw[if_neg ZG]at law;generalize s.getD (o+q) 0=c0 at *
  generalize s.getD (o+(q+1)) 0=c1 at *
  generalize s.getD (o+(q+2)) 0=c2 at *
  generalize s.getD (o+(q+3)) 0=c3 at *
  have hc0:=c0.toNat_lt;have hc1:=c1.toNat_lt;have hc2:=c2.toNat_lt;have hc3:=c3.toNat_lt;have l1:=Ce c0 c1;have l2:=Ce c2 c3;generalize hn:c0.toNat+c1.toNat*2^8=n at *
  generalize hk:c2.toNat+c3.toNat*2^8=k at *
  have hn6:n<65536:=ZG;have hk6:k<65536:=ZG;refine⟨bT,rfl,?_⟩;refine jq ?_;refine an l1 rfl rfl ?_;refine wW ?_;refine an l2 rfl rfl ?_
  have ex:bits .xor .i64 (n:Int) 65535=((65535-n:Nat):Int):=by
   show IntKind.i64.wrap ((BitVec.ofInt 64 (n:Int) ^^^ BitVec.ofInt 64 ((65535:Nat):Int)).toNat:Int)=_
   rw[ZU,ZU,BitVec.toNat_xor,ZT,ZT,ZO ZG,ZO (by decide),Zf hn6];exact eF ZG
  refine ah ex ?_;by_cases hx:n+k≠65535
  ·rw[if_pos hx]at law;have hne:¬((65535-n:Nat):Int)=(k:Int):=ZG;refine ah hne ?_;exact hR.le (h':=aG s o most a1 hv1 S.out) bf ⟨jL ⟨a1,hv1,{S with p:=8*(q+4),err:=3},rfl,by simp only;rw[hup]at hr1;rw[show 8*o+8*(q+4)=8*(o+q)+8*4 by omega];exact hr1,hol,by rw[law];rfl,λh=>absurd h (by rw[law];decide)⟩,rfl⟩
  ·rw[if_neg hx]at law;have heq:((65535-n:Nat):Int)=(k:Int):=ZG;obtain⟨law1,law2⟩:=law;have hr1':bq s a1 hv1 (8*(o+q+4)):=by rw[hup]at hr1;rw[show 8*(o+q+4)=8*(o+q)+8*4 by omega];exact hr1
   have hup1:dM (8*(o+q+4))=8*(o+q+4):=by unfold dM;omega
   have hb2:=xr s a1 hv1 o (8*(o+q+4)) n ZG ZG hr1';rw[hup1,ab3 _ (by decide)]at hb2;refine ah heq ?_;refine aW [(RD,.var (aK s a1 hv1 o))] hb2 bT nofun ?_;rintro h' v ar ⟨a2,hv2,hr2,hz2,rfl,rfl,rfl⟩
   have key:∀(ok:Bool) (x:Bs),ok=decide (n<=s.length-(o+q+4))->x=(if n<=s.length-(o+q+4)then(s.drop (o+q+4)).take n else[]) ->
    vcW Tryz.prog E Cod.Ot (KQ.post [RVar.tmp 2] 1 R) ⟨[(0,.aa 65032 0),(4,.bool ok),(6,.str x),(2000000,.aa 65032 0)],[(40014,.var (aK s a2 hv2 o)),(65032,.var [.aa 40014 0,.sl 60022 0 S.out.length,.int .i64 most]),(60022,.arr 1 (S.out.map ub))]⟩:=by
    intro ok x hok hv4;refine fU hN (λz:Nat×Nat=>⟨[(0,.aa fE 0),(4,.bool ok),(6,.str ((s.drop (o+q+4)).take n)),(2000000,.aa fE 0)],aG s o most z.1 z.2 S.out⟩) (λz=>bq s z.1 z.2 (8*(o+q+4+min n (s.length-(o+q+4))))) (λR2 hR2=>?_) (λz hz=>?_)
    ·clear hR;subst hok;subst hv4;by_cases hfit:n<=s.length-(o+q+4)
     ·rw[if_pos hfit]at hr2;rw[if_pos hfit,decide_eq_true hfit];refine kG ?_;refine hR2 (a2,hv2) _ (by simp only;rw[aag hfit,show 8*(o+q+4+n)=8*(o+q+4)+8*n by omega];exact hr2) (.le ?_);exact bf
     ·rw[if_neg hfit]at hr2;rw[if_neg hfit,decide_eq_false hfit];have hlb:=UU s a2 hv2 o _ ZG hr2;have el:cX s (8*(o+q+4))/8=s.length-(o+q+4):=by unfold cX;omega
      have hb3:=xr s a2 hv2 o _ (s.length-(o+q+4)) ZG ZG hr2;rw[hup1,ab3 _ (by decide),if_pos (ZM _)]at hb3;generalize cX s (8*(o+q+4))=lb at *
      have elb:(lb:Int)/8=((s.length-(o+q+4):Nat):Int):=ZG;simp only[aK]at hlb;refine jq ?_;refine gG ?_;refine oI [] vV hlb trivial (λ_=>rfl) ?_;rintro h' v ar ⟨rfl,rfl,rfl⟩;refine⟨rfl,rfl,?_⟩;refine ah elb ?_;refine aW [(RD,.var (aK s a2 hv2 o))] hb3 bT nofun ?_;rintro h' v ar ⟨a3,hv3,hr3,hz3,rfl,rfl,rfl⟩;rw[if_pos (ZM _),decide_eq_true (ZM _)]
      have etk:(s.drop (o+q+4)).take (s.length-(o+q+4))=(s.drop (o+q+4)).take n:=by
       rw[ZK (by rw[ZN];omega),ZK (by rw[ZN];omega)]
      refine⟨bT,rfl,?_⟩;refine jq ?_;refine hR2 (a3,hv3) _ (by simp only;rw[ab5 ZG,show 8*(o+q+4+(s.length-(o+q+4)))=8*(o+q+4)+8*(s.length-(o+q+4))by omega];exact hr3) (.le ?_);exact EO etk
    ·obtain⟨a3,hv3⟩:=z;simp only at hz |-;have hbl:((s.drop (o+q+4)).take n).length=min n (s.length-(o+q+4)):=by rw[ZL,ZN]
     generalize hbb:(s.drop (o+q+4)).take n=b at *
     by_cases hbig:most-S.out.length<b.length
     ·have hbi:(most:Int)-(S.out.length:Int)<(b.length:Int):=ZG;rw[if_pos ZG]at law1;refine tV hbi ?_;exact hR.le (h':=aG s o most a3 hv3 S.out) bf ⟨jL ⟨a3,hv3,{S with p:=8*(q+4+min n (s.length-(o+q+4))),err:=2},rfl,by simp only;rw[show 8*o+8*(q+4+min n (s.length-(o+q+4)))=8*(o+q+4+min n (s.length-(o+q+4)))by omega];exact hz,hol,by rw[law1];rfl,λh=>absurd h (by rw[law1];decide)⟩,rfl⟩
     ·have hbi:¬(most:Int)-(S.out.length:Int)<(b.length:Int):=ZG;rw[if_neg ZG]at law1;by_cases hfit:n<=s.length-(o+q+4)
      ·rw[decide_eq_true hfit]at hok;subst hok;rw[if_neg ZG]at law1;have law2:=law2 law1;refine tV hbi ?_;exact hR.le (h':=aG s o most a3 hv3 (S.out++b)) bf ⟨jL ⟨a3,hv3,F,by rw[law2],by rw[law2];simp only;rw[aag hfit]at hz;rw[show 8*o+8*(q+4+n)=8*(o+q+4+n)by omega];exact hz,by rw[law2];simp only[ZJ];omega,by rw[law1];rfl,λ_=>rfl⟩,rfl⟩
      ·rw[decide_eq_false hfit]at hok;subst hok;rw[if_pos ZG]at law1;refine tV hbi ?_;exact hR.le (h':=aG s o most a3 hv3 (S.out++b)) bf ⟨jL ⟨a3,hv3,⟨8*(q+4+min n (s.length-(o+q+4))),S.out++b,6⟩,rfl,by simp only;rw[show 8*o+8*(q+4+min n (s.length-(o+q+4)))=8*(o+q+4+min n (s.length-(o+q+4)))by omega];exact hz,by simp only[ZJ];omega,by rw[law1];rfl,λh=>absurd h (by rw[law1];decide)⟩,rfl⟩
   by_cases hfit:n<=s.length-(o+q+4)
   ·have key:=key true _ (by rw[decide_eq_true hfit]) rfl;rw[if_pos hfit]at key;rw[if_pos hfit,decide_eq_true hfit];refine⟨bT,rfl,?_⟩;simp only[aK]at key;refine jq ?_;exact key
   ·have key:=key false _ (by rw[decide_eq_false hfit]) rfl;rw[if_neg hfit]at key;rw[if_neg hfit,decide_eq_false hfit];refine⟨bT,rfl,?_⟩;simp only[aK]at key;refine jq ?_;exact key
theorem yV (most back n:Nat) (S:SS):backS most back (n+1) S=if S.err≠0 then S else backS most back n (gn most (S.out.getD (S.out.length-back) 0) S):=rfl
theorem Hh (most back:Nat) {S:SS} (h:S.err≠0):∀n,backS most back n S=S
 | 0=>rfl
 | n+1=>by rw[yV,if_pos h]
theorem QC:∀i,i<=28->(bZ i).1<=300/\(bZ i).2<=8:=by decide +kernel
theorem J9:∀i,i<=29->(gA i).1<=40000/\(gA i).2<=15/\1<=(gA i).1:=by decide +kernel
set_option maxHeartbeats 2000000 in
theorem Oa (s:Bs) (o most a hv:Nat) (S:SS) (d:List Nat) (sy:Nat) (hs:s.length<=1000000000) (ho:o<=s.length) (hm:most<=1000000) (hr:bq s a hv (8*o+S.p)) (hol:S.out.length<=most) (he:S.err=0)
    (hd:∀n∈d,n<=15) (hdl:d.length<=320) (hdc:bF d=true) (hsy:257<=sy) (hsy2:sy<=400) :
    Eng.Spec Tryz.prog 203 (aG s o most a hv S.out) [.aa fE 0,.int .i64 sy,a8 d] (λh' v ar=>PI s o most (ji (s.drop o) most d sy S) h' v/\ar=[.aa fE 0,.int .i64 sy,a8 d]):=by
 refine Cod.Oc (λE R hN hR=>?_);have htl:(s.drop o).length=s.length-o:=ZN;by_cases h285:285<sy
 ·have hF:ji (s.drop o) most d sy S={S with err:=3}:=by unfold ji;rw[if_pos h285,lV he]
  rw[hF]at hR;refine kG ?_;refine gG ?_;exact hR.le (h':=aG s o most a hv S.out) bf ⟨jL ⟨a,hv,S,rfl,hr,hol,rfl,λh=>absurd h (by simp)⟩,rfl⟩
 ·have elen:(sy:Int)-257=((sy-257:Nat):Int):=ZG;have hlt:=QC (sy-257) ZG;have hlenb:=NN (sy-257) ZG
  have hrep:ji (s.drop o) most d sy S=(let a:=bH (s.drop o) (bZ (sy-257)).2 S
   let k:=bO (s.drop o) d a.2
   if k.2.err≠0 then k.2 else if 29<k.1 then fG 3 k.2 else
   let b:=bH (s.drop o) (gA k.1).2 k.2
   let back:=(gA k.1).1+b.1
   if b.2.err≠0 then b.2 else if b.2.out.length<back then fG 3 b.2 else backS most back ((bZ (sy-257)).1+a.1) b.2):=by unfold ji;rw[if_neg h285]
  rw[hrep]at hR;clear hrep;simp only at hR;generalize bZ (sy-257)=lb at *
  simp(disch:=omega)only[go_sem,simprocAttr,aG,a8,elen];refine bI elen ?_;refine an hlenb rfl rfl ?_;refine wW ?_;have hbits:=sU s a hv o (8*o+S.p) lb.2 ZG hr ZG;rw[wC,<-sB]at hbits;refine aW [(RD,.var (aK s a hv o))] hbits vV nofun ?_;rintro h' v ar ⟨a1,hv1,hr1,rfl,rfl,rfl⟩;by_cases hf1:lb.2<=8*(s.drop o).length-S.p
  ·rw[if_pos hf1]at hr1;rw[if_pos hf1,decide_eq_true hf1];have aY:S.p+lb.2<=8*(s.drop o).length:=by have:=hr.h2;have:=hr.h3;omega
   rw[kq he aY]at hR;simp only at hR;have hnl:=gU (s.drop o) S.p lb.2;have hn256:2^lb.2<=2^8:=ZY (by decide) hlt.2;generalize numAt (s.drop o) S.p lb.2=x1 at *
   refine⟨bT,rfl,?_⟩;have hread:=vT d hd hdl hdc s a1 hv1 o (8*o+S.p+lb.2) ZG hr1;rw[aaR,<-xw]at hread;simp only[a8]at hread;generalize hre:readL (bB d) (ck (s.drop o) (S.p+lb.2))=re at *
   refine wW ?_;refine aW [(RD,.var (aK s a1 hv1 o))] hread vV nofun ?_;rintro h' v ar ⟨a2,hv2,p2,k,hr2,rfl,rfl,hk,rfl⟩;refine⟨bT,rfl,?_⟩;by_cases hre2:re.2.2=0
   ·obtain⟨rfl,rfl⟩:=hk hre2;have hsym:bO (s.drop o) d {S with p:=S.p+lb.2}=(re.1,{S with p:=S.p+lb.2+re.2.1}):=by rw[<-hre];exact tG he (by rw[hre];exact hre2)
    rw[hsym]at hR;simp only at hR;rw[if_neg (by simpa using he)]at hR;have hr2':bq s a2 hv2 (8*o+(S.p+lb.2+re.2.1)):=by rw[show 8*o+(S.p+lb.2+re.2.1)=8*o+(S.p+lb.2)+re.2.1 by omega];exact hr2
    generalize hp2:S.p+lb.2+re.2.1=p2 at *
    have hklt:re.1<=400:=by
     have:=pW (bB d) (ck (s.drop o) (S.p+lb.2)) (by rw[hre];exact hre2);rw[hre]at this;have hcl:(bB d).length=d.length:=by simp[bB]
     omega
    generalize re.1=k at *
    by_cases h29:29<k
    ·rw[if_pos h29,lV (by exact he)]at hR;refine ah hre2 ?_;exact hR.le (h':=aG s o most a2 hv2 S.out) bf ⟨jL ⟨a2,hv2,{S with p:=p2},rfl,hr2',hol,rfl,λh=>absurd h (by simp)⟩,rfl⟩
    ·rw[if_neg h29]at hR;have hdt:=J9 k ZG;have hdb:=Nx k ZG;generalize gA k=db at *
     have hbits2:=sU s a2 hv2 o (8*o+p2) db.2 ZG hr2' ZG;rw[wC,<-sB]at hbits2;refine ah hre2 ?_;refine an hdb rfl rfl ?_;refine wW ?_;refine aW [(RD,.var (aK s a2 hv2 o))] hbits2 vV nofun ?_;rintro h' v ar ⟨a3,hv3,hr3,rfl,rfl,rfl⟩;by_cases hf2:db.2<=8*(s.drop o).length-p2
     ·rw[if_pos hf2]at hr3;rw[if_pos hf2,decide_eq_true hf2];have hpl2:p2+db.2<=8*(s.drop o).length:=by have:=hr2'.h2;have:=hr2'.h3;omega
      rw[kq (by exact he) hpl2]at hR;simp only at hR;rw[if_neg (by simpa using he)]at hR;have hn2:=gU (s.drop o) p2 db.2;have hn15:2^db.2<=2^15:=ZY (by decide) hdt.2.1;generalize numAt (s.drop o) p2 db.2=x2 at *
      refine⟨bT,rfl,?_⟩;refine wW ?_;by_cases hbk:S.out.length<db.1+x2
      ·have hbi:(S.out.length:Int)<(db.1:Int)+(x2:Int):=ZG;rw[if_pos (by exact hbk),lV (by exact he)]at hR;refine ah hbi ?_;exact hR.le (h':=aG s o most a3 hv3 S.out) bf ⟨jL ⟨a3,hv3,{S with p:=p2+db.2},rfl,by show bq s a3 hv3 (8*o+(p2+db.2));rw[<-aaR];exact hr3,hol,rfl,λh=>absurd h (by simp)⟩,rfl⟩
      ·have hbi:¬(S.out.length:Int)<(db.1:Int)+(x2:Int):=ZG;rw[if_neg (by exact hbk)]at hR;generalize hbb:db.1+x2=back at *
       have hb1:1<=back:=ZG;have ebk:(db.1:Int)+(x2:Int)=(back:Int):=ZG;have eln:(lb.1:Int)+(x1:Int)=((lb.1+x1:Nat):Int):=ZG;have hln:lb.1+x1<=1000:=ZG;rw[ebk,eln];generalize lb.1+x1=n at *
       rw[ebk]at hbi;refine ah hbi ?_
       refine aP hN (λz:Nat×Bs=>⟨[(0,.aa 65032 0),(13,.int .i64 back),(79,.int .i64 n),(80,.int .i64 z.1),(2000000,.aa 65032 0),(2000001,.int .i64 sy),(2000002,.ao (.agg (gZ d)))],aG s o most a3 hv3 z.2⟩)
        (λz=>z.1<=n/\z.2.length<=most/\back<=z.2.length/\backS most back (n-z.1) ⟨p2+db.2,z.2,S.err⟩=backS most back n ⟨p2+db.2,S.out,S.err⟩) (λz=>n-z.1) (0,S.out) (.le bf) ⟨by simp,hol,by simp only;omega,rfl⟩ ?_
       rintro⟨j,out⟩ R1 ⟨hj,hjo,hjb,hjF⟩ hR1;simp only at hj hjo hjb hjF;by_cases hjn:j<n
       ·have ej:n-j=(n-j-1)+1:=ZG;rw[ej,yV,if_neg (by simpa using he)]at hjF;unfold gn at hjF;rw[if_neg (by simpa using he)]at hjF;simp only at hjF;have eidx:(out.length:Int)-(back:Int)=((out.length-back:Nat):Int):=ZG;generalize hcc:out.getD (out.length-back) 0=c at *
        have hput:=BN s o most a3 hv3 out hm hjo c;refine kG ?_;rw[hcc];refine aW (aG s o most a3 hv3 out) hput bf nofun ?_;rintro h' v ar ⟨rfl,rfl,rfl⟩;refine⟨bf,rfl,?_⟩;by_cases hfull:out.length=most
        ·rw[if_pos hfull,if_pos hfull];rw[if_pos ZG,Hh _ _ (by simp)]at hjF;rw[<-hjF]at hR;refine kG ?_;exact hR.le (h':=aG s o most a3 hv3 out) bf ⟨⟨a3,hv3,out,rfl,rfl,λh=>absurd h (by simp)⟩,rfl⟩
        ·rw[if_neg hfull,if_neg hfull];rw[if_neg ZG]at hjF;refine kG ?_;exact hR1 (j+1,out++[c]) _ (by simp only;omega) ⟨by simp only;omega,by simp only[ZJ,ZQ];omega,by simp only[ZJ,ZQ];omega,by simp only;rw[show n-(j+1)=n-j-1 by omega];exact hjF⟩ (.le bf)
       ·obtain rfl:j=n:=ZG;rw[abS]at hjF;rw[<-hjF]at hR;refine kG ?_;exact hR.le (h':=aG s o most a3 hv3 out) bf ⟨⟨a3,hv3,out,rfl,by show _=AV.int .i64 ((S.err:Nat):Int);rw[he];rfl,λ_=>⟨rfl,by show bq s a3 hv3 (8*o+(p2+db.2));rw[<-aaR];exact hr3⟩⟩,rfl⟩
     ·rw[if_neg hf2]at hr3;rw[if_neg hf2,decide_eq_false hf2];rw[mi (by exact he) (by simp only;omega)]at hR;simp only at hR;rw[if_pos (by decide)]at hR;refine⟨bT,rfl,?_⟩;refine wW ?_;exact hR.le (h':=aG s o most a3 hv3 S.out) bf ⟨jL ⟨a3,hv3,{S with p:=p2},rfl,hr3,hol,rfl,λh=>absurd h (by simp)⟩,rfl⟩
   ·have hsym:bO (s.drop o) d {S with p:=S.p+lb.2}=(0,{S with p:=S.p+lb.2,err:=re.2.2}):=by rw[<-hre];exact tF he (by rw[hre];exact hre2)
    rw[hsym]at hR;simp only at hR;rw[if_pos hre2]at hR;have hi:¬((re.2.2:Nat):Int)=0:=ZG;refine ah hi ?_;exact hR.le (h':=aG s o most a2 hv2 S.out) bf ⟨⟨a2,hv2,S.out,rfl,rfl,λh=>absurd h hre2⟩,rfl⟩
  ·rw[if_neg hf1]at hr1;rw[if_neg hf1,decide_eq_false hf1];rw[mi he ZG]at hR;simp only at hR;rw[Xx (by simp)]at hR;simp only at hR;rw[if_pos (by decide)]at hR;refine⟨bT,rfl,?_⟩;refine wW ?_;exact hR.le (h':=aG s o most a1 hv1 S.out) bf ⟨jL ⟨a1,hv1,S,rfl,hr1,hol,rfl,λh=>absurd h (by simp)⟩,rfl⟩
set_option maxHeartbeats 2000000 in
theorem NK:aw Tryz.prog 199 [] (.ab [a8 ir,a8 iq]):=by
 refine Cod.NL (λE R hN hR=>?_);refine wW ?_;refine aP hN (λi:Nat=>⟨[(2,.sl 66022 0 i),(3,.aj),(9,.int .i64 i)],[(66022,.arr 1 (aI (eC fixF i)))]⟩) (λi=>i<=288) (λi=>288-i) 0 (.nil 2 66022 1 rfl (.le (nY @EM @pJ))) ZG ?_;rintro i R1 hi hR1;have hul:=EK fixF i;have hnl:=ep (eC fixF i);by_cases hlt:i<288
 ·have hus:=EL fixF i
  have hsb:az (aI (eC fixF i)) 0 i=aI (eC fixF i):=by
   have:=lg (xs:=eC fixF i);rw[hul]at this;exact this
  refine wW ?_;refine fU hN (λ_:Unit=>⟨[(2,.sl 66022 0 i),(3,.aj),(4,.int .i64 i),(9,.int .i64 i),(15,.bool (decide (i<144\/280<=i)))],[(66022,.arr 1 (aI (eC fixF i)))]⟩) (λ_=>True) (λR2 hR2=>?_) (λ_ _=>?_)
  ·by_cases h1:i<144
   ·rw[decide_eq_true (.inl h1)]at hR2;refine wW ?_;refine gG ?_;exact hR2 () _ trivial (.le vV)
   ·by_cases h2:280<=i
    ·rw[decide_eq_true (.inr h2)]at hR2;refine wW ?_;refine gG ?_;exact hR2 () _ trivial (.le vV)
    ·rw[decide_eq_false ZG]at hR2;refine wW ?_;refine gG ?_;exact hR2 () _ trivial (.le vV)
  ·by_cases h8:i<144\/280<=i
   ·have hf:fixF i=8:=by unfold fixF;rw[if_neg ZG,if_neg ZG]
    rw[hf]at hus;rw[decide_eq_true h8];refine aE @kn hsb ?_;exact hR1 (i+1) _ ZG ZG (.le (by rw[hus,<-mg];exact vV))
   ·rw[decide_eq_false h8];by_cases h9:i<256
    ·have hf:fixF i=9:=by unfold fixF;rw[if_neg ZG,if_pos ZG]
     rw[hf]at hus;refine aE @kn hsb ?_;exact hR1 (i+1) _ ZG ZG (.le (by rw[hus,<-mg];exact vV))
    ·have hf:fixF i=7:=by unfold fixF;rw[if_pos ZG]
     rw[hf]at hus;refine aE @kn hsb ?_;exact hR1 (i+1) _ ZG ZG (.le (by rw[hus,<-mg];exact vV))
 ·obtain rfl:i=288:=ZG;refine wW ?_;refine aP hN (λi:Nat=>⟨[(2,.sl 66022 0 288),(3,.sl 66034 0 i),(30,.int .i64 i)],[(66022,.arr 1 (aI (eC fixF 288))),(66034,.arr 1 (aI (eC (λ_=>5) i)))]⟩) (λi=>i<=32) (λi=>32-i) 0 (.nil 3 66034 1 rfl (.le (nY @EM @pJ))) ZG ?_;rintro i R2 hi hR2;have hul2:=EK (λ_=>5) i;have hnl2:=ep (eC (λ_=>5) i);by_cases hlt:i<32
  ·have hus:=EL (λ_=>5) i
   have hsb:az (aI (eC (λ_=>5) i)) 0 i=aI (eC (λ_=>5) i):=by
    have:=lg (xs:=eC (λ_=>5) i);rw[hul2]at this;exact this
   refine aE @kn hsb ?_;exact hR2 (i+1) _ ZG ZG (.le (by rw[hus,<-mg];exact vV))
  ·obtain rfl:i=32:=ZG;rw[Lq]at *
   rw[Lp]at *
   have e1:az (aI ir) 0 288=aI ir:=by rw[<-lY.2.1];exact lg
   have e2:az (aI iq) 0 32=aI iq:=by rw[<-lX.2.1];exact lg
   have n1:=rS ir lY.1 (by rw[lY.2.1];decide);have n2:=rS iq lX.1 (by rw[lX.2.1];decide);rw[if_pos lY.2.2]at n1;rw[if_pos lX.2.2]at n2;generalize ir=l at *
   generalize iq=d at *
   refine wW ?_;refine lS ⟨[(37,.ro 1 (aI l)),(3,.ro 1 (aI d))],[]⟩ (.bo 66022 (.bo 66034 (.le (nY e1 e2)))) rfl ?_;refine wW ?_;refine dR n1 rfl ?_;rintro h' v as' ⟨rfl,rfl⟩;refine⟨rfl,rfl,?_⟩;simp(disch:=omega)only[go_sem,simprocAttr,a8];refine dR n2 rfl ?_;rintro h' v as' ⟨rfl,rfl⟩;refine⟨rfl,rfl,?_⟩;simp(disch:=omega)only[go_sem,simprocAttr,a8];exact hR.le vV ⟨rfl,rfl⟩
def CS:AV:=.agg (aI gX)
theorem N7:aw Tryz.prog 218 [] CS:=by
 refine Cod.N8 (λE R hN hR=>?_);refine wW ?_;exact hR.le vV ⟨rfl,rfl⟩
end Go.Proofs.YtkdjbebgdoohjaaGreatDoor.Pk
namespace Go.Proofs.YtkdjbebgdoohjaaGreatDoor.Pk
section
variable {t:Bs} {S:SS}
theorem CT {e:Nat}:(fG e S).out=S.out:=by unfold fG;split<;>rfl
theorem sG {n:Nat}:(bH t n S).2.out=S.out:=by
 unfold bH;split;rfl
 ·split<;>rfl
theorem CV {l:List Nat}:(bO t l S).2.out=S.out:=by
 unfold bO;split;rfl
 ·split<;>rfl
theorem CW {l:List Nat} {s:Nat}:(dU t l s S).2.2.out=S.out:=by
 unfold dU;split
 ·split;exact CT;exact sG
 ·split;exact sG
  ·split;exact sG;rfl
theorem CU {N:Nat} {l:List Nat} {b:Nat×Nat×SS}:(dT N l b).out=b.2.2.out:=by
 unfold dT;split;exact CT;rfl
end
theorem nL {t:Bs} {nc:Nat}:∀(k:Nat) (l:List Nat) (S:SS),(firstS t nc k l S).2.out=S.out
 | 0,_,_=>rfl
 | k+1,l,S=>by
  rw[vu];split;rfl
  ·rw[nL k,sG]
theorem sF {t:Bs} {fl:List Nat} {N:Nat}:∀(k:Nat) (l:List Nat) (S:SS),(jf t fl N k l S).2.out=S.out
 | 0,_,_=>rfl
 | k+1,l,S=>by
  rw[wE];split;rfl
  ·split
   ·simp only;rw[CU,CW,CV]
   ·rw[sF k,CU,CW,CV]
theorem KA (t:Bs) (S:SS):(fp t S).2.out=S.out:=by
 rw[Ak];split;rfl
 ·split;rfl
  ·unfold fY;split
   ·simp only;rw[nL]
   ·split
    ·simp only;rw[nL]
    ·unfold pz;split
     ·simp only;rw[sF,nL]
     ·split
      ·simp only;rw[sF,nL]
      ·simp only;rw[sF,nL]
open Eng
set_option maxRecDepth 10000
def xY:AV:=.lit (.pointer none)
def PT (s:Bs) (o most:Nat) (out:Bs) (D:(List Nat×List Nat)×SS) (h':HP) (v:AV):Prop:=
 ∃a' hv',h'=aG s o most a' hv' out/\(D.2.err≠0->v=.ab [xY,xY,.int .i64 (D.2.err:Nat)]) /\
  (D.2.err=0->v=.ab [a8 D.1.1,a8 D.1.2,.int .i64 (0:Nat)]/\bq s a' hv' (8*o+D.2.p)/\bF D.1.1=true/\bF D.1.2=true/\(∀n∈D.1.1,n<=15)/\(∀n∈D.1.2,n<=15)/\D.1.1.length<=286/\D.1.2.length<=320)
abbrev QT (R:HP->AV->List AV->Prop):KQ:=KQ.post [.tmp 2,.tmp 3,.tmp 4] 1 R
abbrev Fe (R1 RX:KS) (R:HP->AV->List AV->Prop):KQ:=KQ.dk 3 (KQ.iC R1 (KQ.dk 2 (KQ.iC RX (QT R))))
abbrev og (s:Bs) (o most:Nat) (out:Bs) (D:(List Nat×List Nat)×SS):HP->AV->List AV->Prop:=λh' v ar=>PT s o most out D h' v/\ar=[.aa fE 0]
theorem kz {s:Bs} {o most:Nat} {out:Bs} {D:(List Nat×List Nat)×SS} {R:HP->AV->List AV->Prop} (hR:cF (og s o most out D) R) (e:Nat) (he:D.2.err=e) (hne:e≠0) (a' hv':Nat) {h:HP} (hh:dr h (aG s o most a' hv' out)) :
    R h (.ab [.lit (.pointer none),.lit (.pointer none),.int .i64 (e:Nat)]) [.aa 65032 0]:=
 hR.le (h':=aG s o most a' hv' out) hh ⟨⟨a',hv',rfl,λ_=>by rw[he];rfl,λh=>absurd h (by rw[he];exact hne)⟩,rfl⟩
theorem sS (s:Bs) (o p a hv n:Nat) (hs:s.length<=1000000000) (h:bq s a hv (8*o+p)) (hn:n<=32):Eng.Spec Tryz.prog 197 [(RD,.var (aK s a hv o))] [.aa RD 0,.int .i64 n]
    (λh' v ar=>∃a' hv',bq s a' hv' (8*o+(if n<=8*(s.drop o).length-p then p+n else p))/\h'=[(RD,.var (aK s a' hv' o))]/\v=.ab [.int .u32 (if n<=8*(s.drop o).length-p then numAt (s.drop o) p n else 0:Nat),.bool (decide (n<=8*(s.drop o).length-p))]/\ar=[.aa RD 0,.int .i64 n]):=by
 have hb:=sU s a hv o (8*o+p) n ZG h hn;rw[wC,<-sB]at hb;rw[show 8*o+(if n<=8*(s.drop o).length-p then p+n else p)=(if n<=8*(s.drop o).length-p then 8*o+p+n else 8*o+p)by split<;>omega]
 exact hb
theorem Bz (l:List Nat) (hl:∀n∈l,n<=15) (hn:l.length<=320):∃(x:AV) (e:Nat),Eng.Spec Tryz.prog 217 [] [.ro 1 (aI l)] (λh r _=>h=[]/\r=.ab [x,.int .i64 (e:Nat)])/\((bF l=true/\x=a8 l/\e=0)\/(bF l=false/\x=.lit (.pointer none)/\e=4)):=by
 have n1:=rS l hl hn;by_cases hc:bF l=true
 ·rw[if_pos hc]at n1;exact⟨_,0,n1,.inl ⟨hc,rfl,rfl⟩⟩
 ·rw[if_neg hc]at n1;exact⟨_,4,n1,.inr ⟨by simpa using hc,rfl,rfl⟩⟩
set_option maxHeartbeats 2000000 in
theorem Oy (s:Bs) (o most a hv:Nat) (out:Bs) (l:List Nat) (nl p:Nat) (D:(List Nat×List Nat)×SS) {E:Env} {R:HP->AV->List AV->Prop} (hN:E.N<=1000000) (hR:cF (og s o most out D) R) (hl:∀n∈l,n<=15) (h1:257<=nl) (h2:nl<=286) (h3:l.length<=320) (h4:nl<=l.length)
    (hr:bq s a hv (8*o+p))
    (hD:D=if l.getD 256 0=0\/bF (l.take nl)=false\/bF (l.drop nl)=false then(([],[]),⟨p,out,3⟩)else((l.take nl,l.drop nl),⟨p,out,0⟩)) :
    vcW Tryz.prog E Cod.BV (QT R) ⟨[(0,.aa 65032 0),(7,.int .i64 nl),(16,.ro 1 (aI l)),(2000000,.aa 65032 0)],aG s o most a hv out⟩:=by
 have hnl:=ep l;have ht1:(l.take nl).length=nl:=by rw[ZL];omega
 have hd1:(l.drop nl).length=l.length-nl:=ZN;obtain⟨x1,e1,n1,c1⟩:=Bz (l.take nl) (Er hl nl) ZG;obtain⟨x2,e2,n2,c2⟩:=Bz (l.drop nl) (Ae hl nl) ZG;have hx:nth (aI l) 256=.int .i64 (l.getD 256 0:Nat):=lj ZG;have etd:(l.drop nl).take (l.length-nl)=l.drop nl:=ZK ZG;generalize hy:l.getD 256 0=y at *
 have bad:D=(([],[]),⟨p,out,3⟩)->∀h,dr h (aG s o most a hv out)->R h (.ab [.lit (.pointer none),.lit (.pointer none),.int .i64 3]) [.aa 65032 0]:=λhd h hh=>kz hR 3 (by rw[hd]) (by decide) a hv hh;refine yi hnl @pK ?_;rcases c1 with⟨hc1,rfl,rfl⟩ | ⟨hc1,rfl,rfl⟩<;>rcases c2 with⟨hc2,rfl,rfl⟩ | ⟨hc2,rfl,rfl⟩<;>by_cases h0:y=0
 all_goals
  refine dR n1 rfl ?_;rintro h' v as' ⟨rfl,rfl⟩;refine⟨rfl,rfl,?_⟩;simp(disch:=omega)only[go_sem,simprocAttr,hnl,pK,etd,a8];refine dR n2 rfl ?_;rintro h' v as' ⟨rfl,rfl⟩;refine⟨rfl,rfl,?_⟩
 rotate_left
 ·rw[if_neg (by rw[hc1,hc2];simp[h0])]at hD;subst hD;have hi:¬((y:Nat):Int)=0:=ZG;simp(disch:=omega)only[go_sem,simprocAttr,hnl,hx,hi,a8];refine iY hnl hx hi ?_;exact hR.le (h':=aG s o most a hv out) bf ⟨⟨a,hv,rfl,λh=>absurd rfl h,λ_=>⟨rfl,hr,hc1,hc2,Er hl nl,Ae hl nl,by rw[ht1];exact h2,by rw[hd1];omega⟩⟩,rfl⟩
 all_goals
  rw[if_pos (by first | exact .inl h0 | exact .inr (.inl hc1) | exact .inr (.inr hc2))]at hD
  have bad:=bad hD
 all_goals first
  |have hi:((y:Nat):Int)=0:=ZG
   simp(disch:=omega)only[go_sem,simprocAttr,hnl,hx,hi,a8]
   (try(repeat(first | refine cJ ?_ | refine cH ?_ | refine cI ?_)<;>simp(disch:=omega)only[go_sem,simprocAttr,hnl,hx,hi]))
   exact bad _ bf
  |have hi:¬((y:Nat):Int)=0:=ZG
   simp(disch:=omega)only[go_sem,simprocAttr,hnl,hx,hi,a8]
   (try(repeat(first | refine cJ ?_ | refine cH ?_ | refine cI ?_)<;>simp(disch:=omega)only[go_sem,simprocAttr,hnl,hx,hi]))
   exact bad _ bf
set_option maxHeartbeats 1000000 in
theorem Ox (s:Bs) (o most a hv N:Nat) (out:Bs) (l fl:List Nat) (nl nd p nb least what:Nat) (D:(List Nat×List Nat)×SS) {E:Env} {R1 RX:KS} {R:HP->AV->List AV->Prop} (hN:E.N<=1000000) (hs:s.length<=1000000000) (ho:o<=s.length)
    (hR:cF (og s o most out D) R) (hr:bq s a hv (8*o+p)) (hbits:nb<=7) (hleast:least<=11) (hNN:nl+nd=N) (hN1:N<=400) (hll:l.length<=N)
    (hbad:(dT N l (least+(bH (s.drop o) nb ⟨p,out,0⟩).1,what,(bH (s.drop o) nb ⟨p,out,0⟩).2)).err≠0->D.2.err=(dT N l (least+(bH (s.drop o) nb ⟨p,out,0⟩).1,what,(bH (s.drop o) nb ⟨p,out,0⟩).2)).err)
    (hR1:∀n a' hv' st',n=numAt (s.drop o) p nb->p+nb<=8*(s.drop o).length->l.length+(least+n)<=N->bq s a' hv' (8*o+(p+nb)) ->
     Wk st' ⟨[(0,.aa 65032 0),(7,.int .i64 nl),(8,.int .i64 nd),(14,a8 fl),(16,.sl 62110 0 (l++List.replicate (least+n) what).length),(2000000,.aa 65032 0)],aG s o most a' hv' out++[(62110,.arr 1 (aI (l++List.replicate (least+n) what)))]⟩->R1.ap st') :
    vcW Tryz.prog E Cod.BW (Fe R1 RX R) ⟨[(0,.aa 65032 0),(7,.int .i64 nl),(8,.int .i64 nd),(14,a8 fl),(16,.sl 62110 0 l.length),(19,.int .i64 nb),(20,.int .i64 least),(21,.int .i64 what),(2000000,.aa 65032 0)],aG s o most a hv out++[(62110,.arr 1 (aI l))]⟩:=by
 have htl:(s.drop o).length=s.length-o:=ZN;have hnl:=ep l;have hb:=sS s o p a hv nb hs hr ZG;refine jo ?_;refine aW [(RD,.var (aK s a hv o))] hb vV nofun ?_;rintro h' v ar ⟨a1,hv1,hr1,rfl,rfl,rfl⟩;by_cases hf:nb<=8*(s.drop o).length-p
 ·rw[if_pos hf]at hr1;rw[if_pos hf,decide_eq_true hf];have aY:p+nb<=8*(s.drop o).length:=by have:=hr.h2;have:=hr.h3;omega
  rw[kq rfl aY]at hbad;simp only at hbad;have hlt:=gU (s.drop o) p nb;have hp7:2^nb<=2^7:=ZY (by decide) hbits;have hR1:=λst'=>hR1 _ a1 hv1 st' rfl aY;generalize numAt (s.drop o) p nb=n at *
  refine⟨bT,rfl,?_⟩;by_cases hov:N<l.length+(least+n)
  ·have ho2:((nl:Int)+(nd:Int))<(l.length:Int)+(least:Int)+(n:Int):=ZG;have hbad:=hbad (by unfold dT;rw[if_pos hov,lV rfl];simp);unfold dT at hbad;rw[if_pos hov,lV rfl]at hbad;refine aE hnl ho2 ?_;exact kz hR 3 hbad (by decide) a1 hv1 bf
  ·have ho2:¬((nl:Int)+(nd:Int))<(l.length:Int)+(least:Int)+(n:Int):=ZG;have eln:(least:Int)+(n:Int)=((least+n:Nat):Int):=ZG;clear hbad;refine aE hnl ho2 ?_;generalize hk:least+n=k at *
   rw[eln]
   refine aP hN (λj:Nat=>⟨[(0,.aa 65032 0),(7,.int .i64 nl),(8,.int .i64 nd),(14,a8 fl),(16,.sl 62110 0 (l.length+j:Nat)),(21,.int .i64 what),(150,.int .i64 k),(151,.int .i64 j),(2000000,.aa 65032 0)],aG s o most a1 hv1 out++[(62110,.arr 1 (aI (l++List.replicate j what)))]⟩) (λj=>j<=k) (λj=>k-j) 0
    (.le (by simp(disch:=omega)only[go_sem,simprocAttr,aG,aK,a8];simp)) ZG ?_
   rintro j R2 hj hR2;have hnl:=ep (l++List.replicate j what);have hlr:(l++List.replicate j what).length=l.length+j:=by simp
   have hnr:=RA l j what;have hsb:az (aI (l++List.replicate j what)) 0 (l.length+j)=aI (l++List.replicate j what):=by rw[<-hlr];exact lg
   by_cases hjk:j<k
   ·refine yi hsb @kn ?_;exact hR2 (j+1) _ ZG ZG (.le (tQ hnr))
   ·obtain rfl:j=k:=ZG;refine jo ?_;exact hR1 _ ZG hr1 (.le (tQ hlr))
 ·rw[if_neg hf]at hr1;rw[if_neg hf,decide_eq_false hf];rw[mi rfl (by simp only;omega)]at hbad
  have hover:∀k,(dT N l (k,what,{p:=p,out:=out,err:=6})).err=6:=by
   intro k;unfold dT;split;rfl
   rfl
  simp only at hbad;rw[hover]at hbad;refine⟨bT,rfl,?_⟩;refine wW ?_;exact kz hR 6 (hbad (by decide)) (by decide) a1 hv1 bf
set_option maxHeartbeats 2000000 in
theorem Ow (s:Bs) (o most a hv:Nat) (out:Bs) (fl:List Nat) (nl nd p:Nat) (D:(List Nat×List Nat)×SS) {E:Env} {R:HP->AV->List AV->Prop} (hN:E.N<=1000000) (hs:s.length<=1000000000) (ho:o<=s.length)
    (hR:cF (og s o most out D) R) (hr:bq s a hv (8*o+p)) (hfl:∀n∈fl,n<=15) (hfn:fl.length=19) (hfc:bF fl=true) (h1:257<=nl) (h2:nl<=286) (h3:1<=nd) (h4:nd<=30)
    (hD:D=pz (s.drop o) nl nd (jf (s.drop o) fl (nl+nd) (nl+nd) [] ⟨p,out,0⟩)) :
    vcW Tryz.prog E Cod.OA (QT R) ⟨[(0,.aa 65032 0),(7,.int .i64 nl),(8,.int .i64 nd),(14,a8 fl),(16,.aj),(2000000,.aa 65032 0)],aG s o most a hv out⟩:=by
 generalize hG:jf (s.drop o) fl (nl+nd) (nl+nd) [] ⟨p,out,0⟩=G at hD;have hN1:nl+nd<=400:=ZG;generalize hNN:nl+nd=N at *
 have hbadG:G.2.err≠0->D.2.err=G.2.err:=by
  intro h;rw[hD];unfold pz;rw[if_pos h]
 refine fU (y:=Cod.BV) hN (λz:Nat×Nat=>⟨[(0,.aa 65032 0),(7,.int .i64 nl),(16,.ro 1 (aI G.1)),(2000000,.aa 65032 0)],aG s o most z.1 z.2 out⟩)
  (λz=>bq s z.1 z.2 (8*o+G.2.p)/\G.2=⟨G.2.p,out,0⟩/\(∀n∈G.1,n<=15)/\G.1.length=N) (λRX hRX=>?_) (λz hz=>?_)
 ·refine wW ?_
  refine aP hN (λq:List Nat×Nat×Nat×Nat=>⟨[(0,.aa 65032 0),(7,.int .i64 nl),(8,.int .i64 nd),(14,a8 fl),(16,.sl 62110 0 q.1.length),(2000000,.aa 65032 0)],aG s o most q.2.1 q.2.2.1 out++[(62110,.arr 1 (aI q.1))]⟩)
   (λq=>(∀n∈q.1,n<=15)/\q.1.length<=N/\bq s q.2.1 q.2.2.1 (8*o+q.2.2.2)/\∃k,N-q.1.length<=k/\jf (s.drop o) fl N k q.1 ⟨q.2.2.2,out,0⟩=G) (λq=>N-q.1.length) ([],a,hv,p)
   (.nil 16 62110 1 rfl (.le (tQ @pJ))) ⟨by simp,by simp,hr,N,by simp,hG⟩ ?_
  clear hr hG;rintro⟨l,a,hv,p⟩ R1 ⟨hl,hll,hr,k,hk,hg⟩ hR1;simp only at hl hll hr hk hg;have hnl:=ep l;have htl:(s.drop o).length=s.length-o:=ZN;by_cases hlt:l.length<N
  ·have hlt2:(l.length:Int)<(nl:Int)+(nd:Int):=ZG;obtain⟨k,rfl⟩:∃k',k=k'+1:=⟨k-1,ZG⟩;rw[wE,if_neg (by simp only;omega)]at hg;have hread:=vT fl hfl ZG hfc s a hv o (8*o+p) ZG hr;rw[<-xw]at hread;simp only[a8]at hread;generalize hre:readL (bB fl) (ck (s.drop o) p)=re at *
   simp(disch:=omega)only[go_sem,simprocAttr,aG,a8,hnl,hlt2];refine aW [(RD,.var (aK s a hv o))] hread vV nofun ?_;rintro h' v ar ⟨a2,hv2,p2,sy,hr2,rfl,rfl,hk2,rfl⟩;refine⟨bT,rfl,?_⟩;by_cases hre2:re.2.2=0
   ·obtain⟨rfl,rfl⟩:=hk2 hre2
    have hsym:bO (s.drop o) fl ⟨p,out,0⟩=(re.1,⟨p+re.2.1,out,0⟩):=by
     have:=tG (t:=s.drop o) (l:=fl) (S:=⟨p,out,0⟩) rfl (by simp only;rw[hre];exact hre2);simp only[hre]at this;exact this
    rw[hsym]at hg;simp only at hg
    have hslt:re.1<19:=by
     have:=pW (bB fl) (ck (s.drop o) p) (by rw[hre];exact hre2);rw[hre]at this;have hcl:(bB fl).length=fl.length:=by simp[bB]
     omega
    rw[show 8*o+p+re.2.1=8*o+(p+re.2.1)by omega]at hr2;generalize p+re.2.1=p2 at *
    generalize re.1=sy at *
    by_cases h16:sy<16
    ·have ht:dU (s.drop o) l sy ⟨p2,out,0⟩=(1,sy,⟨p2,out,0⟩):=by unfold dU;rw[if_neg ZG,if_neg ZG,if_neg ZG]
     have hov:dT N l (1,sy,⟨p2,out,0⟩)=⟨p2,out,0⟩:=by unfold dT;rw[if_neg (by simp only;omega)]
     rw[ht,hov,if_neg (by simp)]at hg;simp only at hg;have hsb:az (aI l) 0 l.length=aI l:=lg;refine cq hre2 hnl hsb @kn ?_;refine hR1 (l++[sy],a2,hv2,p2) _ (by simp only[ZJ,ZQ];omega) ⟨?_,?_,hr2,k,?_,hg⟩ (.le (by rw[mg];simp(disch:=omega)only[go_sem,simprocAttr,aG,aK,a8,ZJ,ZQ]))
     ·intro n hn;rcases aax.1 hn with hn | hn;exact hl n hn
      ·rw[Z9.1 hn];omega
     ·simp only[ZJ,ZQ];omega
     ·simp only[ZJ,ZQ];omega
    ·refine ah hre2 ?_
     refine fU (y:=Cod.BW) hN (λz:Nat×Nat×Nat=>⟨[(0,.aa 65032 0),(7,.int .i64 nl),(8,.int .i64 nd),(14,a8 fl),(16,.sl 62110 0 l.length),(19,.int .i64 z.1),(20,.int .i64 z.2.1),(21,.int .i64 z.2.2),(2000000,.aa 65032 0)],aG s o most a2 hv2 out++[(62110,.arr 1 (aI l))]⟩)
      (λz=>z.1<=7/\1<=z.2.1/\z.2.1<=11/\z.2.2<=15/\dU (s.drop o) l sy ⟨p2,out,0⟩=(z.2.1+(bH (s.drop o) z.1 ⟨p2,out,0⟩).1,z.2.2,(bH (s.drop o) z.1 ⟨p2,out,0⟩).2)) (λR2 hR2=>?_) (λz hz=>?_)
     ·by_cases e16:sy=16
      ·subst e16;by_cases hle:l=[]
       ·subst hle;have ht:dU (s.drop o) [] 16 ⟨p2,out,0⟩=(0,0,⟨p2,out,3⟩):=by unfold dU;rw[if_pos rfl,if_pos rfl,lV rfl]
        have hov:dT N [] (0,0,⟨p2,out,3⟩)=⟨p2,out,3⟩:=if_neg (by simp);rw[ht,hov,if_pos (by simp)]at hg;refine ah @pJ ?_;exact kz hR 3 (by rw[hbadG (by rw[<-hg];simp),<-hg]) (by decide) a2 hv2 bf
       ·have hl0:0<l.length:=by cases l with | nil=>exact absurd rfl hle | cons=>simp
        have el:(l.length:Int)-1=((l.length-1:Nat):Int):=ZG;have hz:¬((l.length:Int)=0):=ZG;have hx:nth (aI l) (l.length-1)=.int .i64 (l.getD (l.length-1) 0:Nat):=lj ZG;have hx15:l.getD (l.length-1) 0<=15:=wD hl _;have ht:dU (s.drop o) l 16 ⟨p2,out,0⟩=(3+(bH (s.drop o) 2 ⟨p2,out,0⟩).1,l.getD (l.length-1) 0,(bH (s.drop o) 2 ⟨p2,out,0⟩).2):=by unfold dU;rw[if_pos rfl,if_neg hle]
        generalize l.getD (l.length-1) 0=x at *
        refine cq hnl hz el hx ?_;exact hR2 (2,3,x) _ ⟨by simp,by simp,by simp,hx15,ht⟩ (.le qo)
      ·by_cases e17:sy=17
       ·subst e17;refine wW ?_;exact hR2 (3,3,0) _ ⟨by decide,by decide,by decide,by decide,rfl⟩ (.le qo)
       ·obtain rfl:sy=18:=ZG;refine wW ?_;exact hR2 (7,11,0) _ ⟨by decide,by decide,by decide,by decide,rfl⟩ (.le qo)
     ·obtain⟨nb,least,what⟩:=z;simp only at hz |-;obtain⟨g1,g0,g2,g3,g4⟩:=hz;rw[g4]at hg;refine Ox s o most a2 hv2 N out l fl nl nd p2 nb least what D hN hs ho hR hr2 g1 g2 hNN hN1 hll (λh=>?_) (λn a' hv' st' hn aY hlo hr3 hw=>?_)
      ·rw[if_pos h]at hg;rw[hbadG (by rw[<-hg];exact h),<-hg]
      ·rw[kq rfl aY]at hg;simp only at hg;rw[<-hn]at hg;have hov:dT N l (least+n,what,⟨p2+nb,out,0⟩)=⟨p2+nb,out,0⟩:=by unfold dT;rw[if_neg (by simp only;omega)]
       rw[hov,if_neg (by simp)]at hg;refine hR1 (l++List.replicate (least+n) what,a',hv',p2+nb) _ (by simp only[ZJ,aas];omega) ⟨?_,?_,hr3,k,?_,hg⟩ hw
       ·intro n hn;rcases aax.1 hn with hn | hn;exact hl n hn
        ·rw[(List.mem_replicate.1 hn).2];exact g3
       ·simp only[ZJ,aas];omega
       ·simp only[ZJ,aas];omega
   ·have hsym:bO (s.drop o) fl ⟨p,out,0⟩=(0,⟨p,out,re.2.2⟩):=by
     have:=tF (t:=s.drop o) (l:=fl) (S:=⟨p,out,0⟩) rfl (by simp only;rw[hre];exact hre2);simp only[hre]at this;exact this
    rw[hsym]at hg;simp only at hg;have ht:dU (s.drop o) l 0 ⟨p,out,re.2.2⟩=(1,0,⟨p,out,re.2.2⟩):=by unfold dU;rw[if_neg ZG,if_neg ZG,if_neg ZG]
    have hov:dT N l (1,0,⟨p,out,re.2.2⟩)=⟨p,out,re.2.2⟩:=by unfold dT;rw[if_neg (by simp only;omega)]
    rw[ht,hov,if_pos (by simpa using hre2)]at hg;have hi:¬((re.2.2:Nat):Int)=0:=ZG;refine ah hi ?_;exact kz hR re.2.2 (by rw[hbadG (by rw[<-hg];exact hre2),<-hg]) hre2 a2 hv2 bf
  ·have hlt2:¬(l.length:Int)<(nl:Int)+(nd:Int):=ZG
   have hGe:(l,(⟨p,out,0⟩:SS))=G:=by
    rw[<-hg]
    cases k with
    | zero=>rfl
    | succ k=>rw[wE,if_pos (.inl ZG)]
   subst hGe;have hsb:az (aI l) 0 l.length=aI l:=lg;refine yi hnl hlt2 ?_;exact hRX (a,hv) _ ⟨hr,rfl,hl,by simp only;omega⟩ (.bo 62110 (.le (tQ hsb)))
 ·obtain⟨a',hv'⟩:=z;obtain⟨g1,g2,g3,g4⟩:=hz;refine Oy s o most a' hv' out G.1 nl G.2.p D hN hR g3 h1 h2 ZG ZG g1 ?_;rw[hD];unfold pz;rw[if_neg (by rw[g2];simp)];obtain⟨G1,G2⟩:=G;simp only at g2;rw[g2]
set_option maxHeartbeats 2000000 in
theorem Oz (s:Bs) (o most a hv:Nat) (out:Bs) (nl nd nc p:Nat) (D:(List Nat×List Nat)×SS) {E:Env} {R:HP->AV->List AV->Prop} (hN:E.N<=1000000) (hs:s.length<=1000000000) (ho:o<=s.length)
    (hR:cF (og s o most out D) R) (hr:bq s a hv (8*o+p)) (h1:257<=nl) (h2:nl<=286) (h3:1<=nd) (h4:nd<=30) (hc:nc<=19)
    (hD:D=fY (s.drop o) nl nd (firstS (s.drop o) nc nc (List.replicate 19 0) ⟨p,out,0⟩)) :
    vcW Tryz.prog E Cod.OB (QT R) ⟨[(0,.aa 65032 0),(7,.int .i64 nl),(8,.int .i64 nd),(9,.int .i64 nc),(10,.sl 62057 0 19),(2000000,.aa 65032 0)],[(62057,.arr 1 (aI (List.replicate 19 0))),(40014,.var (aK s a hv o)),(65032,.var [.aa 40014 0,.sl 60022 0 out.length,.int .i64 most]),(60022,.arr 1 (out.map ub))]⟩:=by
 generalize hG:firstS (s.drop o) nc nc (List.replicate 19 0) ⟨p,out,0⟩=G at hD;have htl:(s.drop o).length=s.length-o:=ZN
 have hbadG:G.2.err≠0->D.2.err=G.2.err:=by
  intro h;rw[hD];unfold fY;rw[if_pos h]
 refine fU (y:=Cod.OC) hN (λz:Nat×Nat=>⟨[(0,.aa 65032 0),(7,.int .i64 nl),(8,.int .i64 nd),(10,.ro 1 (aI G.1)),(2000000,.aa 65032 0)],aG s o most z.1 z.2 out⟩)
  (λz=>bq s z.1 z.2 (8*o+G.2.p)/\G.2=⟨G.2.p,out,0⟩/\(∀n∈G.1,n<=15)/\G.1.length=19) (λRX hRX=>?_) (λz hz=>?_)
 ·refine jo ?_
  refine aP hN (λq:Nat×List Nat×Nat×Nat×Nat=>⟨[(0,.aa 65032 0),(7,.int .i64 nl),(8,.int .i64 nd),(10,.sl 62057 0 19),(58,.int .i64 nc),(59,.int .i64 q.1),(2000000,.aa 65032 0)],aG s o most q.2.2.1 q.2.2.2.1 out++[(62057,.arr 1 (aI q.2.1))]⟩)
   (λq=>q.1<=nc/\(∀n∈q.2.1,n<=15)/\q.2.1.length=19/\bq s q.2.2.1 q.2.2.2.1 (8*o+q.2.2.2.2)/\firstS (s.drop o) nc (nc-q.1) q.2.1 ⟨q.2.2.2.2,out,0⟩=G) (λq=>nc-q.1) (0,List.replicate 19 0,a,hv,p)
   (.le Yl) ⟨by simp,by simp,by simp,hr,hG⟩ ?_
  clear hr hG;rintro⟨j,l,a,hv,p⟩ R1 ⟨hj,hl,hll,hr,hg⟩ hR1;simp only at hj hl hll hr hg;have hnl:=ep l;by_cases hlt:j<nc
  ·obtain⟨m,hm⟩:∃m,nc-j=m+1:=⟨nc-j-1,ZG⟩;rw[hm,vu,if_neg (by simp),show nc-(m+1)=j by omega]at hg;have aY:=TL j ZG;have hx:nth (aI gX) j=.int .i64 (gX.getD j 0:Nat):=lj (by have:gX.length=19:=rfl;omega);have hpn:(aI gX).length=19:=rfl
   have hx2:(aI gX).getD j .undef=.int .i64 (gX.getD j 0:Nat):=by
    have hl:j<gX.length:=by have:gX.length=19:=rfl;omega
    simp[aI,ZH,hl]
   have hord:=N7;unfold CS at hord;generalize gX.getD j 0=pj at *
   have hb:=sS s o p a hv 3 hs hr ZG;have hxl:nth (aI l) pj=.int .i64 (l.getD pj 0:Nat):=lj ZG;refine jo ?_;refine aW [(RD,.var (aK s a hv o))] hb vV nofun ?_;rintro h' v ar ⟨a1,hv1,hr1,rfl,rfl,rfl⟩;by_cases hf:3<=8*(s.drop o).length-p
   ·rw[if_pos hf]at hr1;rw[if_pos hf,decide_eq_true hf];rw[kq rfl (by simp only;omega)]at hg;simp only at hg;have hlt3:=gU (s.drop o) p 3;generalize numAt (s.drop o) p 3=x at *
    refine⟨bT,rfl,?_⟩;refine wW ?_;refine an hord rfl rfl ?_;refine kH hx2 hpn hnl hll hxl @RC ?_;refine hR1 (j+1,l.set pj x,a1,hv1,p+3) _ (by simp only;omega) ⟨hlt,?_,by simp[hll],hr1,by simp only;rw[show nc-(j+1)=m by omega];exact hg⟩ (.le bf);intro n hn;rcases aa1 hn with hn | hn;exact hl n hn;omega
   ·rw[if_neg hf]at hr1;rw[if_neg hf,decide_eq_false hf];rw[mi rfl (by simp only;omega)]at hg;simp only at hg;rw[Ln _ _ _ _ _ (by simp)]at hg;refine⟨bT,rfl,?_⟩;refine wW ?_;exact kz hR 6 (by rw[hbadG (by rw[<-hg];simp),<-hg]) (by decide) a1 hv1 bf
  ·obtain rfl:j=nc:=ZG;rw[abS]at hg;have hGe:(l,(⟨p,out,0⟩:SS))=G:=hg;subst hGe;have hsub:az (aI l) 0 19=aI l:=by rw[<-hll];exact lg
   refine jo ?_;exact hRX (a,hv) _ ⟨hr,rfl,hl,hll⟩ (.bo 62057 (.le (EO hsub)))
 ·obtain⟨a',hv'⟩:=z;obtain⟨g1,g2,g3,g4⟩:=hz;simp only at g1 g2 g3 g4 |-;have n1:=rS G.1 g3 ZG;unfold fY at hD;rw[if_neg (by rw[g2];simp)]at hD
  cases hck:bF G.1 with
  | false=>
   rw[hck,if_neg (by decide)]at n1;rw[if_pos hck]at hD;refine jo ?_;refine dR n1 rfl ?_;rintro h' v as' ⟨rfl,rfl⟩;refine⟨rfl,rfl,?_⟩;refine wW ?_
   exact kz hR 3 (by rw[hD]) (by decide) a' hv' bf
  | true=>
   rw[hck,if_pos rfl]at n1;rw[if_neg (by rw[hck];decide),g2]at hD;have hb:=Ow s o most a' hv' out G.1 nl nd G.2.p D (E:=E) (R:=R) hN hs ho hR g1 g3 g4 hck h1 h2 h3 h4 hD;refine jo ?_;refine dR n1 rfl ?_;rintro h' v as' ⟨rfl,rfl⟩;refine⟨rfl,rfl,?_⟩;simp only[aG,a8]at hb;simp(disch:=omega)only[go_sem,simprocAttr,a8];exact hb
theorem qF {n:Nat} (h:n<65536):bits .and .u32 (n:Int) 31=((n%32:Nat):Int):=by
 show IntKind.u32.wrap ((BitVec.ofInt 32 (n:Int) &&& BitVec.ofInt 32 ((31:Nat):Int)).toNat:Int)=_
 rw[ZU,ZU,aaQ,ZT,ZT,ZO ZG,ZO (by decide),show(31:Nat)=2^5-1 from rfl,aam];exact wrap_u32 ZG
theorem fdiv_pow (x k:Nat) (h:k<=32):(x:Int).fdiv (2^min k 32)=((x/2^k:Nat):Int):=by
 rw[aag h,aaf _ (by exact_mod_cast Z7 (2^k))]
 norm_cast
set_option maxHeartbeats 1000000 in
theorem OD (s:Bs) (o most a hv:Nat) (S:SS) (hs:s.length<=1000000000) (ho:o<=s.length) (hm:most<=1000000) (hr:bq s a hv (8*o+S.p)) (hol:S.out.length<=most) (he:S.err=0) :
    Eng.Spec Tryz.prog 200 (aG s o most a hv S.out) [.aa fE 0] (λh' v ar=>PT s o most S.out (fp (s.drop o) S) h' v/\ar=[.aa fE 0]):=by
 refine Cod.OE (λE R hN hR=>?_);have htl:(s.drop o).length=s.length-o:=ZN;have hb:=sS s o S.p a hv 14 hs hr ZG;rw[Ak]at hR;obtain⟨p,out,err⟩:=S;simp only at he hr hol hb hR |-;subst he;refine jo ?_;refine aW [(RD,.var (aK s a hv o))] hb vV nofun ?_;rintro h' v ar ⟨a1,hv1,hr1,rfl,rfl,rfl⟩;by_cases h14:14<=8*(s.drop o).length-p
 ·rw[if_pos h14]at hr1;rw[if_pos h14,decide_eq_true h14];rw[if_neg ZG]at hR;refine⟨bT,rfl,?_⟩;have hlt:=gU (s.drop o) p 14;have m5:=sC (s.drop o) p (m:=5) (n:=14) (by decide);have d5:=pO (s.drop o) p (m:=5) (n:=14) (by decide);have d10:=pO (s.drop o) p (m:=10) (n:=14) (by decide);have m55:=sC (s.drop o) (p+5) (m:=5) (n:=9) (by decide);generalize numAt (s.drop o) p 14=x at *
  have f5:=fdiv_pow x 5 (by decide);have f10:=fdiv_pow x 10 (by decide);have c1:=qF (n:=x) ZG;have c2:=qF (n:=x/2^5) ZG;have w1:x%32=numAt (s.drop o) p 5:=m5;have w2:x/2^5%32=numAt (s.drop o) (p+5) 5:=by rw[d5];exact m55
  have w3:x/2^10=numAt (s.drop o) (p+10) 4:=d10;rw[<-w1,<-w2,<-w3]at hR;have b1:x%32<32:=aaM _ (by decide);have b2:x/2^5%32<32:=aaM _ (by decide);have b3:x/2^10<16:=ZG;generalize x%32=y1 at *
  generalize x/2^5%32=y2 at *
  generalize x/2^10=y3 at *
  have bad:(286<y1+257\/30<y2+1)->R [(40014,aC.var (aK s a1 hv1 o)),(65032,aC.var [AV.aa 40014 0,AV.sl 60022 0 (List.length out),AV.int IntKind.i64 ↑most]),(60022,aC.arr 1 (List.map ub out))] (.ab [.lit (.pointer none),.lit (.pointer none),.int .i64 3]) [.aa 65032 0]:=by
   intro hx;rw[if_pos hx]at hR;exact kz hR 3 rfl (by decide) a1 hv1 bf
  by_cases hx1:286<y1+257
  ·have bad:=bad (.inl hx1);refine cq f5 f10 c1 c2 ?_;refine gG ?_;exact bad
  ·by_cases hx2:30<y2+1
   ·have bad:=bad (.inr hx2);refine cq f5 f10 c1 c2 ?_;refine gG ?_;exact bad
   ·rw[if_neg ZG]at hR;clear bad;have hf:=Oz s o most a1 hv1 out (y1+257) (y2+1) (y3+4) (p+14) _ (E:=E) (R:=R) hN hs ho hR hr1 ZG ZG ZG ZG ZG rfl;clear hR;refine cq f5 f10 c1 c2 ?_;refine gG ?_;simp only[aK]at hf;refine jq ?_;exact hf
 ·rw[if_neg h14]at hr1;rw[if_neg h14,decide_eq_false h14];rw[if_pos ZG]at hR;refine⟨bT,rfl,?_⟩;refine wW ?_;exact kz hR 6 rfl (by decide) a1 hv1 bf
theorem and1 {n:Nat} (h:n<65536):bits .and .u32 (n:Int) 1=((n%2:Nat):Int):=by
 show IntKind.u32.wrap ((BitVec.ofInt 32 (n:Int) &&& BitVec.ofInt 32 ((1:Nat):Int)).toNat:Int)=_
 rw[ZU,ZU,aaQ,ZT,ZT,ZO ZG,ZO (by decide),show(1:Nat)=2^1-1 from rfl,aam];exact wrap_u32 ZG
abbrev QR (R:HP->AV->List AV->Prop):KQ:=KQ.post [.tmp 2] 1 R
abbrev uh (s:Bs) (o most:Nat) (G:SS):HP->AV->List AV->Prop:=λh' v ar=>PI s o most G h' v/\ar=[.aa fE 0]
theorem nN {s:Bs} {o most:Nat} {G:SS} {R:HP->AV->List AV->Prop} (hR:cF (uh s o most G) R) (e:Nat) (he:G.err=e) (hne:e≠0) (a' hv':Nat) (out:Bs) {h:HP} (hh:dr h (aG s o most a' hv' out)) :
    R h (.int .i64 (e:Nat)) [.aa 65032 0]:=
 hR.le (h':=aG s o most a' hv' out) hh ⟨⟨a',hv',out,rfl,by rw[he],λh=>absurd h (by rw[he];exact hne)⟩,rfl⟩
def rk (t:Bs) (most h:Nat) (S G:SS):Prop:=if h%2=1 then S=G else gY t most S=G
def iQ (t:Bs) (most h:Nat) (S G:SS):Prop:=if S.err≠0 then G.err=S.err else rk t most h S G
structure lJ where
 h:Nat
 l:List Nat
 d:List Nat
 a:Nat
 hv:Nat
 S:SS
def ix (s:Bs) (o most:Nat) (l:Nat) (z:lJ):St:=
 if l=0 then⟨[(0,.aa 65032 0),(2000000,.aa 65032 0)],aG s o most z.a z.hv z.S.out⟩
 else if l=1 then⟨[(0,.aa 65032 0),(3,.int .u32 z.h),(2000000,.aa 65032 0)],aG s o most z.a z.hv z.S.out⟩
 else⟨[(0,.aa 65032 0),(3,.int .u32 z.h),(7,a8 z.l),(8,a8 z.d),(2000000,.aa 65032 0)],aG s o most z.a z.hv z.S.out⟩
structure RB (s:Bs) (o most:Nat) (z:lJ):Prop where
 r:bq s z.a z.hv (8*o+z.S.p)
 e:z.S.err=0
 ol:z.S.out.length<=most
 hl:z.h<8
structure TB (l d:List Nat):Prop where
 Qh:∀n∈l,n<=15
 d15:∀n∈d,n<=15
 ll:l.length<=320
 dl:d.length<=320
 lc:bF l=true
 dc:bF d=true
def vZ (s:Bs) (o most:Nat) (G:SS) (l:Nat) (z:lJ):Prop:=
 RB s o most z/\(if l=0 then gY (s.drop o) most z.S=G else if l=1 then rk (s.drop o) most z.h z.S G else if l=2 then TB z.l z.d/\iQ (s.drop o) most z.h (gW (s.drop o) most z.l z.d z.S) G else False)
def jc (s:Bs) (o l:Nat) (z:lJ):Nat:=4*(8*(s.drop o).length+1-z.S.p)+min l 2
theorem RB.pl {s:Bs} {o most:Nat} {z:lJ} (h:RB s o most z):z.S.p<=8*(s.drop o).length:=by
 have:=h.r.h2;have:=h.r.h3;rw[ZN];omega
set_option maxHeartbeats 2000000 in
theorem BP (s:Bs) (o most:Nat) (G:SS) (z:lJ) {E:Env} {R:Nat->KS} {R0:HP->AV->List AV->Prop} (hN:E.N<=1000000) (hs:s.length<=1000000000) (ho:o<=s.length) (hm:most<=1000000) (hR:cF (uh s o most G) R0) (hz:RB s o most z) (hg:gY (s.drop o) most z.S=G)
    (hJ:∀l' z' st',jc s o l' z'<jc s o 0 z->vZ s o most G l' z'->Wk st' (ix s o most l' z')->(R l').ap st') :
    vcW Tryz.prog E Cod.v7 (KQ.kh R (QR R0)) ⟨[(0,.aa 65032 0),(2000000,.aa 65032 0)],aG s o most z.a z.hv z.S.out⟩:=by
 have aY:=hz.pl;obtain⟨h,l,d,a,hv,S⟩:=z;obtain⟨hr,he,hol,hh⟩:=hz;simp only at hr he hol hh hg aY |-;rw[run_eq aY]at hg;have htl:(s.drop o).length=s.length-o:=ZN;have hb:=sS s o S.p a hv 3 hs hr ZG;refine jo ?_;refine aW [(RD,.var (aK s a hv o))] hb vV nofun ?_;rintro h' v ar ⟨a1,hv1,hr1,rfl,rfl,rfl⟩;by_cases h3:3<=8*(s.drop o).length-S.p
 ·rw[if_pos h3]at hr1;rw[if_pos h3,decide_eq_true h3];have hbk:gy (s.drop o) most S=_:=if_neg (show ¬8*(s.drop o).length<S.p+3 by omega);rw[hbk]at hg;clear hbk;have m1:=sC (s.drop o) S.p (m:=1) (n:=3) (by decide);have d1:=pO (s.drop o) S.p (m:=1) (n:=3) (by decide);have hlt:=gU (s.drop o) S.p 3;simp only at hg;rw[<-m1,show(2:Nat)=3-1 from rfl,<-d1]at hg;generalize numAt (s.drop o) S.p 3=x at *
  have f1:=fdiv_pow x 1 (by decide);refine⟨bT,rfl,?_⟩;have hx1:x%2^1=x%2:=rfl;have hx2:x/2^1=x/2:=rfl;rw[hx1,hx2]at hg;rw[hx2]at f1;have hxl:x/2<4:=ZG
  have hdone:∀S':SS,(if x/2=0 then gK (s.drop o) most {S with p:=S.p+3} else if x/2=1 then gW (s.drop o) most ir iq {S with p:=S.p+3}
      else if x/2=2 then(if(fp (s.drop o) {S with p:=S.p+3}).2.err≠0 then(fp (s.drop o) {S with p:=S.p+3}).2 else gW (s.drop o) most (fp (s.drop o) {S with p:=S.p+3}).1.1 (fp (s.drop o) {S with p:=S.p+3}).1.2 (fp (s.drop o) {S with p:=S.p+3}).2)else {S with p:=S.p+3,err:=3})=S' ->
      iQ (s.drop o) most x S' G:=by
   intro S' hS';rw[hS']at hg;unfold iQ;by_cases hSe:S'.err=0
   ·rw[if_neg (by simpa using hSe)];unfold rk;by_cases hx:x%2=1
    ·rw[if_pos (.inr (by simpa using hx))]at hg;rw[if_pos hx];exact hg
    ·rw[if_neg (λh=>h.elim (λh=>h hSe) (λh=>hx (by simpa using h)))]at hg;rw[if_neg hx];exact hg
   ·rw[if_pos (.inl hSe)]at hg;rw[if_pos hSe,hg]
  clear hg;have hr1':bq s a1 hv1 (8*o+(S.p+3)):=hr1;refine ah f1 ?_;obtain hk | hk | hk | hk:x/2=0\/x/2=1\/x/2=2\/x/2=3:=ZG
  ·rw[hk];have hst:=Ou s o most a1 hv1 {S with p:=S.p+3} hs ho hm hr1' hol he;have hc:=hdone _ (if_pos hk);have hmv:Mv (s.drop o) most {S with p:=S.p+3} (gK (s.drop o) most {S with p:=S.p+3}):=CA;generalize gK (s.drop o) most {S with p:=S.p+3}=F at *
   refine wW ?_;refine aW (aG s o most a1 hv1 S.out) hst bf nofun ?_;rintro h' v ar ⟨⟨a2,hv2,out2,rfl,rfl,hF⟩,rfl⟩;refine⟨bf,rfl,?_⟩;unfold iQ at hc;by_cases hFe:F.err=0
   ·obtain⟨rfl,hr2⟩:=hF hFe;rw[if_neg (by simpa using hFe)]at hc;refine ah hFe ?_;have h1:=hmv.p;simp only at h1;exact hJ 1 ⟨x,[],[],a2,hv2,F⟩ _ (by simp only[jc];omega) ⟨⟨hr2,hFe,hmv.o hol,by simp only;omega⟩,by rw[if_neg (by decide),if_pos rfl];exact hc⟩ (.le (by simp(disch:=omega)only[go_sem,simprocAttr,ix,aG,aK]))
   ·rw[if_pos hFe]at hc;have hi:¬((F.err:Nat):Int)=0:=ZG;refine ah hi ?_;exact nN hR F.err hc hFe a2 hv2 out2 bf
  ·rw[hk];have hc:=hdone _ ((if_neg ZG).trans (if_pos hk));refine wW ?_;refine an NK rfl rfl ?_;simp(disch:=omega)only[go_sem,simprocAttr,a8];refine hJ 2 ⟨x,ir,iq,a1,hv1,{S with p:=S.p+3}⟩ _ (by simp only[jc];omega) ⟨⟨hr1',he,hol,by simp only;omega⟩,?_⟩ (.le ?_)
   ·rw[if_neg (by decide),if_neg (by decide),if_pos rfl];exact⟨⟨lY.1,lX.1,by simp only;rw[lY.2.1];decide,by simp only;rw[lX.2.1];decide,lY.2.2,lX.2.2⟩,hc⟩
   ·simp(disch:=omega)only[go_sem,simprocAttr,ix,aG,aK,a8]
  ·rw[hk];have hit:=OD s o most a1 hv1 {S with p:=S.p+3} hs ho hm hr1' hol he;have hc:=hdone _ ((if_neg ZG).trans ((if_neg ZG).trans (if_pos hk)));have hmv:Mv (s.drop o) most {S with p:=S.p+3} (fp (s.drop o) {S with p:=S.p+3}).2:=wJ;have hdo:=KA (s.drop o) {S with p:=S.p+3};generalize fp (s.drop o) {S with p:=S.p+3}=D at *
   refine wW ?_;refine aW (aG s o most a1 hv1 S.out) hit bf nofun ?_;rintro h' v ar ⟨⟨a2,hv2,rfl,hbad,hgood⟩,rfl⟩;by_cases hDe:D.2.err=0
   ·obtain⟨rfl,hr2,hc1,hc2,hl1,hl2,hn1,hn2⟩:=hgood hDe;rw[if_neg (by simpa using hDe)]at hc;refine⟨bf,rfl,?_⟩;refine yf ?_;have h1:=hmv.p;simp only at h1 hdo;refine hJ 2 ⟨x,D.1.1,D.1.2,a2,hv2,D.2⟩ _ (by simp only[jc];omega) ⟨⟨hr2,hDe,by simp only;rw[hdo];exact hol,by simp only;omega⟩,?_⟩ (.le ?_)
    ·rw[if_neg (by decide),if_neg (by decide),if_pos rfl];exact⟨⟨hl1,hl2,by simp only;omega,hn2,hc1,hc2⟩,hc⟩
    ·simp(disch:=omega)only[go_sem,simprocAttr,ix,aG,aK,a8,hdo]
   ·obtain rfl:=hbad hDe;rw[if_pos hDe]at hc;unfold iQ at hc;rw[if_pos hDe]at hc;refine⟨bf,rfl,?_⟩;have hi:¬((D.2.err:Nat):Int)=0:=ZG;simp(disch:=omega)only[go_sem,simprocAttr,hi,xY];exact nN hR D.2.err hc hDe a2 hv2 S.out bf
  ·rw[hk];have hc:=hdone _ ((if_neg ZG).trans ((if_neg ZG).trans (if_neg ZG)));unfold iQ at hc;rw[if_pos (by simp)]at hc;refine wW ?_;exact nN hR 3 hc (by decide) a1 hv1 S.out bf
 ·rw[if_neg h3]at hr1;rw[if_neg h3,decide_eq_false h3];have hbk:gy (s.drop o) most S=(true,{S with err:=6}):=if_pos (show 8*(s.drop o).length<S.p+3 by omega);rw[hbk,if_pos (.inl (by simp))]at hg;refine⟨bT,rfl,?_⟩;refine wW ?_;exact nN hR 6 (by rw[<-hg]) (by decide) a1 hv1 S.out bf
set_option maxHeartbeats 2000000 in
theorem Oh (s:Bs) (o most:Nat) (G:SS) (z:lJ) {E:Env} {R:Nat->KS} {R0:HP->AV->List AV->Prop} (hN:E.N<=1000000) (hs:s.length<=1000000000) (ho:o<=s.length) (hm:most<=1000000) (hR:cF (uh s o most G) R0) (hz:RB s o most z) (ht:TB z.l z.d) (hg:iQ (s.drop o) most z.h (gW (s.drop o) most z.l z.d z.S) G)
    (hJ:∀l' z' st',jc s o l' z'<jc s o 2 z->vZ s o most G l' z'->Wk st' (ix s o most l' z')->(R l').ap st') :
    vcW Tryz.prog E (.seq .skip Cod.BO) (KQ.kh R (QR R0)) ⟨[(0,.aa 65032 0),(3,.int .u32 z.h),(7,a8 z.l),(8,a8 z.d),(2000000,.aa 65032 0)],aG s o most z.a z.hv z.S.out⟩:=by
 have aY:=hz.pl;obtain⟨h,l,d,a,hv,S⟩:=z;obtain⟨hr,he,hol,hh⟩:=hz;simp only at hr he hol hh hg aY ht |-;rw[SU aY,if_neg (by simpa using he)]at hg;have htl:(s.drop o).length=s.length-o:=ZN;have hread:=vT l ht.Qh ht.ll ht.lc s a hv o (8*o+S.p) ZG hr;rw[<-xw]at hread;simp only[a8]at hread;generalize hre:readL (bB l) (ck (s.drop o) S.p)=re at *
 simp(disch:=omega)only[go_sem,simprocAttr,aG,a8];refine aW [(RD,.var (aK s a hv o))] hread vV nofun ?_;rintro h' v ar ⟨a2,hv2,p2,sy,hr2,rfl,rfl,hk2,rfl⟩;refine⟨bT,rfl,?_⟩;by_cases hre2:re.2.2=0
 ·obtain⟨rfl,rfl⟩:=hk2 hre2
  have hsym:bO (s.drop o) l S=(re.1,{S with p:=S.p+re.2.1}):=by
   have:=tG (t:=s.drop o) (l:=l) (S:=S) he (by rw[hre];exact hre2);simp only[hre]at this;exact this
  have hrb:=pW (bB l) (ck (s.drop o) S.p) (by rw[hre];exact hre2);rw[hre,xx]at hrb;have hcl:(bB l).length=l.length:=by simp[bB]
  have hll:=ht.ll;rw[show 8*o+S.p+re.2.1=8*o+(S.p+re.2.1)by omega]at hr2
  have hst:fT (s.drop o) most l d S=(if re.1=256 then(true,{S with p:=S.p+re.2.1})else if re.1<256 then(false,gn most (UInt8.ofNat re.1) {S with p:=S.p+re.2.1})else(false,ji (s.drop o) most d re.1 {S with p:=S.p+re.2.1})):=by
   unfold fT;rw[hsym];exact if_neg (by simpa using he)
  rw[hst]at hg;have hp2:S.p<S.p+re.2.1/\S.p+re.2.1<=8*(s.drop o).length:=ZG;generalize S.p+re.2.1=p2 at *
  have hsy:re.1<=320:=ZG;generalize re.1=sy at *
  by_cases h256:sy=256
  ·rw[if_pos h256,if_pos rfl]at hg;unfold iQ at hg;rw[if_neg (by simpa using he)]at hg;refine aE hre2 h256 ?_;refine hJ 1 ⟨h,[],[],a2,hv2,{S with p:=p2}⟩ _ (by simp only[jc];omega) ⟨⟨hr2,he,hol,hh⟩,?_⟩ (.le ?_)
   ·rw[if_neg (by decide),if_pos rfl];exact hg
   ·simp(disch:=omega)only[go_sem,simprocAttr,ix,aG,aK]
  ·rw[if_neg h256]at hg;have hi:¬((sy:Nat):Int)=256:=ZG;refine aE hre2 hi ?_
   refine fU (y:=Cod.Od) hN (λy:Nat×Nat×Bs×SS=>⟨[(0,.aa 65032 0),(3,.int .u32 h),(5,.int .i64 y.2.2.2.err),(7,a8 l),(8,a8 d),(2000000,.aa 65032 0)],aG s o most y.1 y.2.1 y.2.2.1⟩)
    (λy=>Mv (s.drop o) most {S with p:=p2} y.2.2.2/\iQ (s.drop o) most h (gW (s.drop o) most l d y.2.2.2) G/\(y.2.2.2.err=0->y.2.2.1=y.2.2.2.out/\bq s y.1 y.2.1 (8*o+y.2.2.2.p))) (λR2 hR2=>?_) (λy hy=>?_)
   ·by_cases hlt:sy<256
    ·rw[if_pos hlt,if_neg (by simp)]at hg;simp only at hg;have hput:=BN s o most a2 hv2 S.out hm hol (UInt8.ofNat sy);have hmv:Mv (s.drop o) most {S with p:=p2} (gn most (UInt8.ofNat sy) {S with p:=p2}):=pH
     have hF:gn most (UInt8.ofNat sy) {S with p:=p2}=⟨p2,if S.out.length=most then S.out else S.out++[UInt8.ofNat sy],if S.out.length=most then 2 else 0⟩:=by
      unfold gn;rw[if_neg (by simpa using he)];simp only;by_cases hf:S.out.length=most
      ·rw[if_pos ZG,if_pos hf,if_pos hf]
      ·rw[if_neg ZG,if_neg hf,if_neg hf,he]
     have hb:((UInt8.ofNat sy).toNat:Int)=(sy:Int):=by rw[aaF];omega
     rw[hb]at hput;generalize gn most (UInt8.ofNat sy) {S with p:=p2}=F at *
     have hF1:F.out=(if S.out.length=most then S.out else S.out++[UInt8.ofNat sy]):=by rw[hF]
     have hF2:F.err=(if S.out.length=most then 2 else 0):=by rw[hF]
     have hF3:F.p=p2:=by rw[hF]
     rw[<-hF1,<-hF2]at hput;clear hF hF1;have hlt2:((sy:Nat):Int)<256:=ZG;refine ah hlt2 ?_;refine aW (aG s o most a2 hv2 S.out) hput bf nofun ?_;rintro h' v ar ⟨rfl,rfl,rfl⟩;refine⟨bf,rfl,?_⟩;refine yf ?_;exact hR2 (a2,hv2,F.out,F) _ ⟨hmv,hg,λ_=>⟨rfl,by rw[hF3];exact hr2⟩⟩ (.le qo)
    ·rw[if_neg hlt,if_neg (by simp)]at hg;simp only at hg;have hrp:=Oa s o most a2 hv2 {S with p:=p2} d sy hs ho hm hr2 hol he ht.d15 ht.dl ht.dc ZG ZG;have hmv:Mv (s.drop o) most {S with p:=p2} (ji (s.drop o) most d sy {S with p:=p2}):=wK;generalize ji (s.drop o) most d sy {S with p:=p2}=F at *
     have hlt2:¬((sy:Nat):Int)<256:=ZG;simp only[a8]at hrp;simp(disch:=omega)only[go_sem,simprocAttr,hlt2,a8];refine aW (aG s o most a2 hv2 S.out) hrp bf nofun ?_;rintro h' v ar ⟨⟨a3,hv3,out3,rfl,rfl,hF⟩,rfl⟩;refine⟨bf,rfl,?_⟩;refine yf ?_;exact hR2 (a3,hv3,out3,F) _ ⟨hmv,hg,hF⟩ (.le qo)
   ·obtain⟨a3,hv3,out3,F⟩:=y;obtain⟨g1,g2,g3⟩:=hy;simp only at g1 g2 g3 |-;by_cases hFe:F.err=0
    ·obtain⟨rfl,hr3⟩:=g3 hFe;simp(disch:=omega)only[go_sem,simprocAttr,hFe,a8];have h1:=g1.p;have h2:=g1.q hp2.2;simp only at h1;refine hJ 2 ⟨h,l,d,a3,hv3,F⟩ _ (by simp only[jc];omega) ⟨⟨hr3,hFe,g1.o hol,hh⟩,?_⟩ (.le ?_)
     ·rw[if_neg (by decide),if_neg (by decide),if_pos rfl];exact⟨ht,g2⟩
     ·simp(disch:=omega)only[go_sem,simprocAttr,ix,aG,aK,a8]
    ·rw[show gW (s.drop o) most l d F=F from wZ _ hFe]at g2;unfold iQ at g2;rw[if_pos hFe]at g2;have hi:¬((F.err:Nat):Int)=0:=ZG;simp(disch:=omega)only[go_sem,simprocAttr,hi,a8];exact nN hR F.err g2 hFe a3 hv3 out3 bf
 ·have hsym:bO (s.drop o) l S=(0,{S with err:=re.2.2}):=by
   have:=tF (t:=s.drop o) (l:=l) (S:=S) he (by rw[hre];exact hre2);simp only[hre]at this;exact this
  have hst:fT (s.drop o) most l d S=(true,{S with err:=re.2.2}):=by
   unfold fT;rw[hsym];exact if_pos hre2
  rw[hst,if_pos rfl]at hg;unfold iQ at hg;rw[if_pos hre2]at hg;have hi:¬((re.2.2:Nat):Int)=0:=ZG;refine ah hi ?_;exact nN hR re.2.2 hg hre2 a2 hv2 S.out bf
set_option maxHeartbeats 1000000 in
theorem Og (s:Bs) (o most a hv:Nat) (S:SS) (hs:s.length<=1000000000) (ho:o<=s.length) (hm:most<=1000000) (hr:bq s a hv (8*o+S.p)) (hol:S.out.length<=most) (he:S.err=0) :
    Eng.Spec Tryz.prog 180 (aG s o most a hv S.out) [.aa fE 0] (λh' v ar=>PI s o most (gY (s.drop o) most S) h' v/\ar=[.aa fE 0]):=by
 refine Cod.Oi (λE R hN hR=>?_);generalize hG:gY (s.drop o) most S=G at *
 refine jo ?_;refine YE hN (ix s o most) (vZ s o most G) (jc s o) (λR1 hR1=>?_) (λl z hz=>?_)
 ·refine wW ?_;refine fU (y:=Cod.v7) hN (λ_:Unit=>⟨[(0,.aa 65032 0),(2000000,.aa 65032 0)],aG s o most a hv S.out⟩) (λ_=>True) (λR2 hR2=>?_) (λ_ _=>?_)
  ·refine wW ?_;exact hR2 () _ trivial (.le bf)
  exact BP s o most G ⟨0,[],[],a,hv,S⟩ hN hs ho hm hR ⟨hr,he,hol,by simp⟩ hG (λl' z' st' _ h1 h2=>hR1 l' z' st' h1 h2)
 ·obtain⟨h1,h2⟩:=hz;by_cases l0:l=0
  ·subst l0;rw[if_pos rfl]at h2;refine⟨.seq .skip (.bX Cod.v7),rfl,λR1 hR1=>?_⟩;simp(disch:=omega)only[go_sem,simprocAttr,ix];refine cV hN ?_;exact BP s o most G z hN hs ho hm hR h1 h2 hR1
  ·rw[if_neg l0]at h2;by_cases l1:l=1
   ·subst l1;rw[if_pos rfl]at h2;refine⟨.seq .skip Cod.Oe,rfl,λR1 hR1=>?_⟩;have ha:=and1 (n:=z.h) (by have:=h1.hl;omega);unfold rk at h2;by_cases hx:z.h%2=1
    ·rw[if_pos hx]at h2;have hi:¬((z.h%2:Nat):Int)=0:=ZG;simp(disch:=omega)only[go_sem,simprocAttr,ix,ha,hi,aG];refine hR.le (h':=aG s o most z.a z.hv z.S.out) bf ⟨⟨z.a,z.hv,z.S.out,rfl,?_,λ_=>by rw[<-h2];exact⟨rfl,h1.r⟩⟩,rfl⟩;rw[<-h2,h1.e];rfl
    ·rw[if_neg hx]at h2;have hi:((z.h%2:Nat):Int)=0:=ZG;simp(disch:=omega)only[go_sem,simprocAttr,ix,ha,hi,aG];refine hR1 0 z _ (by simp only[jc];omega) ⟨h1,by rw[if_pos rfl];exact h2⟩ (.le ?_);simp(disch:=omega)only[go_sem,simprocAttr,ix,aG,aK]
   ·rw[if_neg l1]at h2;by_cases l2:l=2
    ·subst l2;rw[if_pos rfl]at h2;exact⟨.seq .skip Cod.BO,rfl,λR1 hR1=>Oh s o most G z hN hs ho hm hR h1 h2.1 h2.2 hR1⟩
    ·rw[if_neg l2]at h2;exact h2.elim
theorem HO (s:Bs) (a:Nat) (hs:s.length<=1000000000000) (ha:a<=s.length):Eng.Spec Tryz.prog 179 [] [.str s,.int .i64 a] (λh r ar=>h=[(RD,.var (aK s a 0 a))]/\r=.aa RD 0/\ar=[.undef,.undef]):=by
 refine Cod.HQ (λE R hN hR=>?_);have e:max (0:Int) (min (a:Int) (s.length:Int))=a:=ZG;refine ah e ?_;exact hR.le (by simp(disch:=omega)only[go_sem,simprocAttr,aK,numAt]) ⟨rfl,rfl,rfl⟩
set_option maxHeartbeats 1000000 in
theorem NY (s:Bs) (o most:Nat) (hs:s.length<=1000000000) (ho:o<=s.length) (hm:most<=65536) :
    aw Tryz.prog 158 [.str s,.int .i64 o,.int .i64 most] (.ab [.str (fZ (s.drop o) most).1,.int .i64 ((fZ (s.drop o) most).2.1:Nat),.int .i64 ((fZ (s.drop o) most).2.2:Nat)]):=by
 refine Cod.NZ (λE R hN hR=>?_);have htl:(s.drop o).length=s.length-o:=ZN;have hnew:=HO s o ZG ho;have hr0:bq s o 0 (8*o+0):=⟨ZG,ho,ZG⟩;have hrun:=Og s o most o 0 ⟨0,[],0⟩ hs ho ZG hr0 (by simp) rfl;unfold fZ at hR;simp only at hR;generalize hF:gY (s.drop o) most ⟨0,[],0⟩=F at *
 refine wW ?_;refine gG ?_;refine aW [] hnew trivial (λ_=>rfl) ?_;rintro h' v as' ⟨rfl,rfl,rfl⟩;refine⟨bT,rfl,?_⟩;refine wW ?_;refine lS ⟨[(33,.aa 65032 0),(9,.aa 65032 0)],aG s o most o 0 []⟩ (.lh 65032 1 60022 1 [.aa 40014 0,.aj,.int .i64 most] rfl rfl rfl (.le ?_)) rfl ?_;exact bf;refine aW (aG s o most o 0 []) hrun bf nofun ?_;rintro h' v ar ⟨⟨a3,hv3,out3,rfl,rfl,hPI⟩,rfl⟩;refine⟨bf,rfl,?_⟩;by_cases he:F.err=0
 ·obtain⟨rfl,hr3⟩:=hPI he;rw[if_neg (by simpa using he)]at hR;have hu:=VC s a3 hv3 o (8*o+F.p) ZG hr3 ZG;have e1:(8*o+F.p+7)/8-o=(F.p+7)/8:=ZG;rw[e1]at hu;simp only[aK]at hu;refine tV he ?_;refine oI [] vV hu trivial (λ_=>rfl) ?_;rintro h' v ar ⟨rfl,rfl,rfl⟩;refine⟨rfl,rfl,?_⟩;refine wW ?_;exact hR.wk (h':=[]) (r':=.ab [.str F.out,.int .i64 ((F.p+7)/8:Nat),.int .i64 (0:Nat)]) (ar':=[.undef,.undef,.undef]) rfl (.le vV) ⟨rfl,rfl⟩
 ·rw[if_pos he]at hR;have hi:¬((F.err:Nat):Int)=0:=ZG;refine ah hi ?_;exact hR.wk (h':=[]) (r':=.ab [.str [],.int .i64 (0:Nat),.int .i64 (F.err:Nat)]) (ar':=[.undef,.undef,.undef]) rfl (.le vV) ⟨rfl,rfl⟩
open Eng Sh
set_option maxRecDepth 10000
theorem Cz {t:Bs} {most:Nat}:∀(k:Nat) (S:SS),Mv t most S (nS t most k S)
 | 0,_=>.refl
 | k+1,S=>by
  unfold nS;split;exact nG.1;exact nG.1.trans (Cz k _)
theorem BG (t:Bs) (most:Nat):(fZ t most).1.length<=most/\(fZ t most).2.1<=t.length:=by
 unfold fZ;simp only;have h:=Cz (t:=t) (most:=most) (8*t.length+1-0) ⟨0,[],0⟩;have h1:(gY t most ⟨0,[],0⟩).p<=8*t.length:=h.q (by simp);have h2:(gY t most ⟨0,[],0⟩).out.length<=most:=h.o (by simp);split;exact⟨by simp,by simp⟩;exact⟨h2,by simp only;omega⟩
def eG (t:Bs) (most:Nat):Bs×Nat×Nat:=
 if t.length<2 then([],0,6)else if pg (t.getD 0 0).toNat (t.getD 1 0).toNat=false then([],0,3)else
 if(fZ (t.drop 2) most).2.2≠0 then([],0,(fZ (t.drop 2) most).2.2)else
 if t.length-(2+(fZ (t.drop 2) most).2.1)<4 then([],0,6)else
 if ct ((t.drop (2+(fZ (t.drop 2) most).2.1)).take 4)≠lL (fZ (t.drop 2) most).1 then([],0,5)else((fZ (t.drop 2) most).1,(fZ (t.drop 2) most).2.1+6,0)
theorem tY (t:Bs) (most:Nat):(eG t most).1.length<=most/\(eG t most).2.1<=t.length:=by
 have h:=BG (t.drop 2) most;rw[ZN]at h;unfold eG;split;exact⟨by simp,by simp⟩
 ·split;exact⟨by simp,by simp⟩
  ·split;exact⟨by simp,by simp⟩
   ·split;exact⟨by simp,by simp⟩
    ·split;exact⟨by simp,by simp⟩;exact⟨h.1,by simp only;omega⟩
abbrev zV (Z:Bs×Nat×Nat):AV:=.ab [.str Z.1,.int .i64 (Z.2.1:Nat),.int .i64 (Z.2.2:Nat)]
set_option maxHeartbeats 1000000 in
theorem E7 (s:Bs) (o most:Nat) (hs:s.length<=1000000) (ho:o<=s.length) (hm:most<=65536):aw Tryz.prog 131 [.str s,.int .i64 o,.int .i64 most] (zV (eG (s.drop o) most)):=by
 refine Cod.ZB (λE R hN hR=>?_);unfold eG at hR;have hdl:(s.drop o).length=s.length-o:=ZN;rw[hdl]at hR;by_cases h2:s.length-o<2
 ·rw[if_pos h2]at hR;have hi:(s.length:Int)-(o:Int)<2:=ZG;refine ah hi ?_;refine bI hi ?_;exact hR.ro ⟨rfl,rfl⟩
 ·rw[if_neg h2]at hR;have hi:¬(s.length:Int)-(o:Int)<2:=ZG;have gd:∀i,(s.drop o).getD i 0=s.getD (o+i) 0:=λi=>by rw[ZH,List.getElem?_drop,<-ZH]
  rw[gd,gd,aaz]at hR;have hh:=Zo (s.getD o 0) (s.getD (o+1) 0);by_cases hb:pg (s.getD o 0).toNat (s.getD (o+1) 0).toNat=false
  ·rw[if_pos hb]at hR;rw[hb]at hh;refine ah hi ?_;refine bI hi ?_;refine an hh rfl rfl ?_;refine wW ?_;exact hR.ro ⟨rfl,rfl⟩
  ·rw[if_neg hb]at hR;rw[show pg (s.getD o 0).toNat (s.getD (o+1) 0).toNat=true by simpa using hb]at hh;have hinf:=NY s (o+2) most ZG ZG hm;have hil:=BG (s.drop (o+2)) most;rw[aa3]at hR;generalize fZ (s.drop (o+2)) most=I at *
   rw[ZN]at hil;refine ah hi ?_;refine bI hi ?_;refine an hh rfl rfl ?_;refine wW ?_;refine an hinf rfl rfl ?_;by_cases he:I.2.2=0
   ·rw[if_neg (by simpa using he)]at hR;by_cases h4:s.length-o-(2+I.2.1)<4
    ·rw[if_pos h4]at hR;have hj:(s.length:Int)-((o:Int)+2+(I.2.1:Int))<4:=ZG;refine aE he hj ?_;exact hR.ro ⟨rfl,rfl⟩
    ·rw[if_neg h4]at hR;have hj:¬(s.length:Int)-((o:Int)+2+(I.2.1:Int))<4:=ZG;rw[aa3]at hR;have e1:o+(2+I.2.1)=o+2+I.2.1:=ZG;rw[e1]at hR;generalize hu:(s.drop (o+2+I.2.1)).take 4=u at *
     have hul:u.length=4:=by rw[<-hu,ZL,ZN];omega
     have hfb:=vG u ZG;have had:=Fv I.1 ZG;have hal:=Fu I.1
     have hbl:ct u<4294967296:=by
      have:=qP u 4 ZG;rw[ZK ZG]at this;exact this
     have et:((o:Int)+2+(I.2.1:Int)).toNat=o+2+I.2.1:=ZG;have et4:((o:Int)+2+(I.2.1:Int)+4).toNat-(o+2+I.2.1)=4:=ZG;refine cM he hj et et4 hu ?_;refine an hfb rfl rfl ?_;refine wW ?_;refine an had rfl rfl ?_;generalize ct u=x at *
     generalize lL I.1=y at *
     by_cases hxy:x=y
     ·rw[if_neg (by simpa using hxy)]at hR;have hi:((x:Nat):Int)=(y:Int):=ZG;refine ah hi ?_;exact hR.ro ⟨rfl,rfl⟩
     ·rw[if_pos hxy]at hR;have hi:¬((x:Nat):Int)=(y:Int):=ZG;refine ah hi ?_;exact hR.ro ⟨rfl,rfl⟩
   ·rw[if_pos he]at hR;have hj:¬((I.2.2:Nat):Int)=0:=ZG;refine ah hj ?_;exact hR.ro ⟨rfl,rfl⟩
end Go.Proofs.YtkdjbebgdoohjaaGreatDoor.Pk
namespace Go.Proofs.YtkdjbebgdoohjaaGreatDoor.Cod
open Eng Eng.Kz
set_option maxRecDepth 100000
abbrev Tr:=Kf.k1 140 Tryz.func164
abbrev Tq:=Kf.x1 140 Tryz.func164
abbrev Tx:AK:=pk (x:=Kc.code Tryz.prog Tryz.f135 141 [] (Kc.lr 1 [.tmp 2,.tmp 3])) _
abbrev TC:=Kf.k1 141 Tryz.func135
abbrev Tz:=Kf.x1 141 Tryz.func135
abbrev Tk:AK:=pk (x:=Kc.code Tryz.prog Tryz.f136 142 [] (Kc.lr 1 [.tmp 2])) _
abbrev Tp:=Kf.k1 142 Tryz.func136
abbrev Tm:=Kf.x1 142 Tryz.func136
abbrev pread:AK:=pk (x:=Kc.code Tryz.prog Tryz.f105 143 [] (Kc.dD [2000002,2000003] (Kc.lr 0 [.cell 4 true 7,.cell 5 false 1]))) _
abbrev TT:AK:=pk (x:=pread.x) _
abbrev TU:AK:=pk (x:=pread.y.x) _
abbrev TV:AK:=pk (x:=pread.y.y.y.y.y.y.y.y.y) _
abbrev TW:AK:=pk (x:=pread.y.y.y.y.y.y.y.y.y.y.y.y) _
abbrev TX:AK:=pk (x:=pread.y.y.y.y.y.y.y.y.x.y.x.y.y) _
abbrev TY:AK:=pk (x:=pread.y.y.y) _
theorem TZ:gr Tryz.prog 105 143000 24 pread [.cell 4 true 7,.cell 5 false 1]:=⟨_,Tryz.func105,by kernel_rfl⟩
theorem T0 {h a0 a1 Post} (hI:kL Tryz.prog 134 2) (hp:qz Tryz.prog [TT,TU] TY 134 23 [(.t 4),(.t 5)] 143000 2 [.cell 4 true 7,.cell 5 false 1] [(0,a0),(1,a1)] h Post):Eng.Spec Tryz.prog 105 h [a0,a1] Post:=xS TZ rfl (aaE rfl) (aaE rfl) hI [(0,a0),(1,a1)] ⟨rfl,rfl,trivial⟩ hp
abbrev Ts:=Kf.s1 144 Tryz.func35
abbrev Uu:=Kf.s1 147 Tryz.func29
end Go.Proofs.YtkdjbebgdoohjaaGreatDoor.Cod
