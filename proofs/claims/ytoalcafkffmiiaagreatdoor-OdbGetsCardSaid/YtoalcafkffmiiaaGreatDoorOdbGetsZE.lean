/- The proof, part 31 of 43. -/
import Derived.Test.YtoalcafkffmiiaaGreatDoorOdbGetsZC
import Derived.Test.YtoalcafkffmiiaaGreatDoorOdbGetsZD
import Derived.Test.YtoalcafkffmiiaaGreatDoorProg
set_option linter.all false
namespace Go.Proofs.YtoalcafkffmiiaaGreatDoor.Pk
open Eng
set_option maxRecDepth 10000
def RD:Nat:=40014
attribute [go_sem] RD
def aU (s:Bs) (a hv fr:Nat):List AV:=[.str s,.int .i64 a,.int .u64 (numAt s (8*a-hv) hv:Nat),.int .i64 hv,.int .i64 fr]
theorem cK {p:Prop} (h:p:=by simp(disch:=first | omega | (simp only[Lx];omega))only[go_sem,simprocAttr,aU]):p:=h
theorem kv {a b:Prop} (k:b) (h:b->a:=by intro h;simp(disch:=first | omega | (simp only[Lx];omega))only[go_sem,simprocAttr,aU];exact h):a:=h k
theorem abX {E0:Prop} {a b:Prop} (e0:E0) (k:b) (h:E0->b->a:=by intro e0 h;simp(disch:=first | omega | (simp only[Lx];omega))only[go_sem,simprocAttr,aU,e0];exact h):a:=h e0 k
theorem zH {E0 E1:Prop} {a b:Prop} (e0:E0) (e1:E1) (k:b) (h:E0->E1->b->a:=by intro e0 e1 h;simp(disch:=first | omega | (simp only[Lx];omega))only[go_sem,simprocAttr,aU,e0,e1];exact h):a:=h e0 e1 k
theorem abY {E0 E1 E2:Prop} {a b:Prop} (e0:E0) (e1:E1) (e2:E2) (k:b) (h:E0->E1->E2->b->a:=by intro e0 e1 e2 h;simp(disch:=first | omega | (simp only[Lx];omega))only[go_sem,simprocAttr,aU,e0,e1,e2];exact h):a:=h e0 e1 e2 k
structure bK (s:Bs) (a hv p:Nat):Prop where
 h1:hv<=39
 h2:a<=s.length
 h3:p+hv=8*a
theorem yb {x k b:Nat} (hx:x<2^k) (hk:k<=56) (hb:b<256):bits .or .u64 (x:Int) (IntKind.u64.wrap ((b:Int)*2^min k 64))=((x+b*2^k:Nat):Int):=by
 have hp:2^k<=2^56:=acV (by decide) hk;have h2:b*2^k<2^64:=ae2 (aeY (show b<=255 by omega) hp) (by decide)
 have h3:x+b*2^k<2^64:=by
  have:(b+1)*2^k<=256*2^56:=aeY acN hp;rw[aes]at this;omega
 have e:IntKind.u64.wrap ((b:Int)*2^min k 64)=((b*2^k:Nat):Int):=by
  rw[adk acN,show((b:Int)*2^k)=((b*2^k:Nat):Int)by push_cast;rfl];exact wrap_u64 acN
 rw[e]
 show IntKind.u64.wrap ((BitVec.ofInt 64 (x:Int) ||| BitVec.ofInt 64 ((b*2^k:Nat):Int)).toNat:Int)=_
 rw[ac2,ac2,adZ,ac1,ac1,acY acN,acY h2,Nat.or_comm,<-adD,<-adu hx,adD,ae0];exact wrap_u64 acN
theorem B7 (s:Bs) (a hv fr p n:Nat) (hs:s.length<=1000000000000) (h:bK s a hv p) (hn:n<=32):Eng.Spec Tryz.prog 260 [(RD,.var (aU s a hv fr))] [.aa RD 0,.int .i64 n]
    (λh' v ar=>∃a' hv',bK s a' hv' p/\(n<=hv'\/a'=s.length)/\h'=[(RD,.var (aU s a' hv' fr))]/\v=.af []/\ar=[.aa RD 0,.int .i64 n]):=by
 refine Cod.Ns (λE R hN hR=>?_);refine wW ?_;refine aD hN (λq:Nat×Nat=>⟨[(0,.aa RD 0),(1,.int .i64 n),(2000000,.aa RD 0),(2000001,.int .i64 n)],[(RD,.var (aU s q.1 q.2 fr))]⟩) (λq=>bK s q.1 q.2 p) (λq=>s.length-q.1) (a,hv) (.le cK) h ?_;rintro⟨a,hv⟩ R1 ⟨h1,h2,h3⟩ hR1;simp only at h1 h2 h3;by_cases hlt:hv<n
 ·by_cases hat:a<s.length
  ·have hb:=(s.getD a 0).toNat_lt;have ho:=yb (iE s (8*a-hv) hv) (show hv<=56 by omega) (b:=(s.getD a 0).toNat) acN;have hf:=T6 s a hv acN;rw[<-hf]at ho;refine kv ?_;refine gG ?_;rw[ho];exact hR1 (a+1,hv+8) _ (by simp only;omega) ⟨by simp only;omega,by simp only;omega,by simp only;omega⟩ (.le (by simp(disch:=omega)only[go_sem,simprocAttr,aU,show 8*(a+1)-(hv+8)=8*a-hv by omega]))
  ·refine kv ?_;refine gG ?_;exact hR.le cK ⟨a,hv,⟨h1,h2,h3⟩,.inr acN,rfl,rfl,rfl⟩
 ·refine kv ?_;refine gG ?_;exact hR.le cK ⟨a,hv,⟨h1,h2,h3⟩,.inl acN,rfl,rfl,rfl⟩
theorem HX (x n:Nat) (hx:x<2^64) (hn:n<=32):bits .and .u64 (x:Int) (IntKind.u64.wrap (IntKind.u64.wrap (1*2^min n 64)-1))=((x%2^n:Nat):Int):=by
 have hp:2^n<=2^32:=acV (by decide) hn;have hp1:0<2^n:=afm (by decide)
 have e:IntKind.u64.wrap (IntKind.u64.wrap (1*2^min n 64)-1)=((2^n-1:Nat):Int):=by
  have e1:IntKind.u64.wrap (1*2^n)=((2^n:Nat):Int):=by
   rw[show((1:Int)*2^n)=((2^n:Nat):Int)by rw[Int.one_mul];push_cast;rfl];exact wrap_u64 acN
  rw[adk acN,e1,show(((2^n:Nat):Int)-1)=((2^n-1:Nat):Int)by omega];exact wrap_u64 acN
 rw[e]
 show IntKind.u64.wrap ((BitVec.ofInt 64 (x:Int) &&& BitVec.ofInt 64 ((2^n-1:Nat):Int)).toNat:Int)=_
 rw[ac2,ac2,ad1,ac1,ac1,acY hx,acY acN,adx];have:=ad9 x hp1;exact wrap_u64 acN
def dU (s:Bs) (p:Nat):Nat:=8*s.length-p
theorem Vs (s:Bs) (a hv fr p n:Nat) (hs:s.length<=1000000000000) (h:bK s a hv p) (hn:n<=32):Eng.Spec Tryz.prog 241 [(RD,.var (aU s a hv fr))] [.aa RD 0,.int .i64 n]
    (λh' v ar=>∃a' hv',bK s a' hv' p/\(n<=hv'\/a'=s.length)/\h'=[(RD,.var (aU s a' hv' fr))]/\v=.af [.int .u32 (numAt s p (min n hv'):Nat),.int .i64 (min n hv':Nat)]/\ar=[.aa RD 0,.int .i64 n]):=by
 refine Cod.Vt (λE R hN hR=>?_);refine wW ?_;refine gG ?_;refine aI [(RD,.var (aU s a hv fr))] (B7 s a hv fr p n hs h hn) vV nofun ?_;rintro h' v ar ⟨a',hv',⟨h1,h2,h3⟩,hor,rfl,rfl,rfl⟩;refine⟨cK,rfl,?_⟩;have hx:=iE s p hv';have hx2:numAt s p hv'<2^64:=ac3 hx (acV (by decide) acN);have ha:=HX (numAt s p hv') n hx2 hn
 have e1:numAt s p hv'%2^n=numAt s p (min n hv'):=by
  by_cases hh:n<=hv'
  ·rw[adk hh,tY s p hh]
  ·rw[afc acN,acY (ac3 hx (acV (by decide) acN))]
 rw[e1]at ha;have hx3:numAt s p (min n hv')<2^32:=ac3 (iE s p _) (acV (by decide) acN);have ew:IntKind.u32.wrap ((numAt s p (min n hv'):Nat):Int)=(numAt s p (min n hv'):Nat):=wrap_u32 acN;have em:min (n:Int) (hv':Int)=((min n hv':Nat):Int):=acN;simp(disch:=omega)only[go_sem,simprocAttr,aU,show 8*a'-hv'=p by omega,ha,ew,em];exact hR.le (by simp(disch:=omega)only[go_sem,simprocAttr,aU,show 8*a'-hv'=p by omega]) ⟨a',hv',⟨h1,h2,h3⟩,hor,rfl,rfl,rfl⟩
theorem ZH (s:Bs) (a hv fr p n:Nat) (hs:s.length<=1000000000000) (h:bK s a hv p) (hn:n<=32):Eng.Spec Tryz.prog 242 [(RD,.var (aU s a hv fr))] [.aa RD 0,.int .i64 n]
    (λh' v ar=>∃a' hv',bK s a' hv' (if n<=dU s p then p+n else p)/\h'=[(RD,.var (aU s a' hv' fr))]/\v=.bool (decide (n<=dU s p))/\ar=[.aa RD 0,.int .i64 n]):=by
 refine Cod.ZI (λE R hN hR=>?_);refine wW ?_;refine gG ?_;refine aI [(RD,.var (aU s a hv fr))] (B7 s a hv fr p n hs h hn) vV nofun ?_;rintro h' v ar ⟨a',hv',⟨h1,h2,h3⟩,hor,rfl,rfl,rfl⟩;refine⟨cK,rfl,?_⟩;by_cases hlt:hv'<n
 ·have hno:¬n<=dU s p:=by unfold dU;rcases hor with ho | ho<;>omega
  refine kv ?_;exact hR.le cK ⟨a',hv',by rw[if_neg hno];exact⟨h1,h2,h3⟩,rfl,by rw[decide_eq_false hno],rfl⟩
 ·have hyes:n<=dU s p:=by unfold dU;omega
  have hd:((numAt s p hv':Nat):Int).fdiv (2^min n 64)=((numAt s (p+n) (hv'-n):Nat):Int):=by
   rw[adk acN,<-qI s p (show n<=hv' by omega),adv _ (aeW (by decide)),aeZ,aeL];rfl
  simp(disch:=omega)only[go_sem,simprocAttr,aU,show 8*a'-hv'=p by omega,hd];refine hR.le ?_ ⟨a',hv'-n,by rw[if_pos hyes];exact⟨acN,h2,acN⟩,rfl,by rw[decide_eq_true hyes],rfl⟩;rw[show((hv':Int)-(n:Int))=((hv'-n:Nat):Int)by omega];simp(disch:=omega)only[go_sem,simprocAttr,aU,show 8*a'-(hv'-n)=p+n by omega]
theorem uv (s:Bs) (a hv fr p n:Nat) (hs:s.length<=1000000000000) (h:bK s a hv p) (hn:n<=32):Eng.Spec Tryz.prog 230 [(RD,.var (aU s a hv fr))] [.aa RD 0,.int .i64 n]
    (λh' v ar=>∃a' hv',bK s a' hv' (if n<=dU s p then p+n else p)/\h'=[(RD,.var (aU s a' hv' fr))]/\v=.af [.int .u32 (if n<=dU s p then numAt s p n else 0:Nat),.bool (decide (n<=dU s p))]/\ar=[.aa RD 0,.int .i64 n]):=by
 refine Cod.XF (λE R hN hR=>?_);refine wW ?_;refine aI [(RD,.var (aU s a hv fr))] (Vs s a hv fr p n hs h hn) vV nofun ?_;rintro h' v ar ⟨a',hv',h1,hor,rfl,rfl,rfl⟩;refine⟨cK,rfl,?_⟩;refine wW ?_;refine aI [(RD,.var (aU s a' hv' fr))] (ZH s a' hv' fr p n hs h1 hn) vV nofun ?_;rintro h' v ar ⟨a2,hv2,h2,rfl,rfl,rfl⟩;refine⟨cK,rfl,?_⟩;by_cases hyes:n<=dU s p
 ·have hm:min n hv'=n:=by
   have:=h1.h3;have:=h1.h2;unfold dU at hyes;rcases hor with ho | ho<;>omega
  refine aE hyes hm ?_;exact hR.le vV ⟨a2,hv2,h2,rfl,by rw[if_pos hyes,decide_eq_true hyes],rfl⟩
 ·refine ab hyes ?_;exact hR.le vV ⟨a2,hv2,h2,rfl,by rw[if_neg hyes,decide_eq_false hyes];rfl,rfl⟩
def c6 (p:Nat):Nat:=(p+7)/8*8
theorem GV {a hv p:Nat} (h:p+hv=8*a):c6 p=8*(a-hv/8):=by unfold c6;omega
theorem Xx (s:Bs) (a hv fr p:Nat) (hs:s.length<=1000000000000) (h:bK s a hv p):Eng.Spec Tryz.prog 261 [(RD,.var (aU s a hv fr))] [.aa RD 0]
    (λh' v ar=>∃hv',bK s a hv' (c6 p)/\hv'=8*(hv/8)/\h'=[(RD,.var (aU s a hv' fr))]/\v=.af []/\ar=[.aa RD 0]):=by
 refine Cod.Xy (λE R hN hR=>?_);obtain⟨h1,h2,h3⟩:=h;have hp:8*a-hv=p:=acN;have em:(hv:Int).tmod 8=((hv%8:Nat):Int):=by rw[gh acN];omega
 have hd:((numAt s p hv:Nat):Int).fdiv (2^min (hv%8) 64)=((numAt s (p+hv%8) (hv-hv%8):Nat):Int):=by
  rw[adk acN,<-qI s p (show hv%8<=hv by omega),adv _ (aeW (by decide)),aeZ,aeL];rfl
 refine abY em hp hd ?_;refine hR.le ?_ ⟨8*(hv/8),⟨acN,h2,by unfold c6;omega⟩,rfl,rfl,rfl,rfl⟩;rw[show((hv:Int)-((hv%8:Nat):Int))=((8*(hv/8):Nat):Int)by omega,show hv-hv%8=8*(hv/8)by omega];simp(disch:=omega)only[go_sem,simprocAttr,aU,show 8*a-8*(hv/8)=p+hv%8 by omega]
theorem yB (s:Bs) (a hv fr p:Nat) (n:Nat) (hs:s.length<=1000000000000) (hn:n<=1000000000000) (h:bK s a hv p):Eng.Spec Tryz.prog 243 [(RD,.var (aU s a hv fr))] [.aa RD 0,.int .i64 n]
    (λh' v ar=>∃a' hv',bK s a' hv' (if n<=s.length-c6 p/8 then c6 p+8*n else c6 p)/\(n<=s.length-c6 p/8->hv'=0)/\h'=[(RD,.var (aU s a' hv' fr))] /\
     v=.af [.str (if n<=s.length-c6 p/8 then(s.drop (c6 p/8)).take n else[]),.bool (decide (n<=s.length-c6 p/8))]/\ar=[.aa RD 0,.int .i64 n]):=by
 refine Cod.XG (λE R hN hR=>?_);refine wW ?_;refine aI [(RD,.var (aU s a hv fr))] (Xx s a hv fr p hs h) vV nofun ?_;rintro h' v ar ⟨hv',⟨h1,h2,h3⟩,rfl,rfl,rfl,rfl⟩;refine⟨cK,rfl,?_⟩;have hub:c6 p/8=a-hv/8:=by rw[GV h.h3];omega
 have hle:=h.h3;have eq:(((8*(hv/8):Nat):Int)).tdiv 8=((hv/8:Nat):Int):=by rw[la acN];omega
 have ef:((a:Int)-((hv/8:Nat):Int))=((a-hv/8:Nat):Int):=acN;rw[hub]at hR;generalize hf:a-hv/8=f at *
 have hfl:f<=s.length:=acN;by_cases hyes:n<=s.length-f
 ·have e1:((f:Int)+(n:Int)-(f:Int)).toNat=n:=acN;have e2:f+n-f=n:=acN;refine zH eq ef ?_;refine gG ?_;refine ab e2 ?_;exact hR.le (by simp(disch:=omega)only[go_sem,simprocAttr,aU,numAt]) ⟨f+n,0,by rw[if_pos hyes];exact⟨acN,acN,by rw[GV h.h3,hf];omega⟩,λ_=>rfl,rfl,by rw[if_pos hyes,decide_eq_true hyes],rfl⟩
 ·refine zH eq ef ?_;refine gG ?_;exact hR.le cK ⟨a,8*(hv/8),by rw[if_neg hyes];exact⟨h1,h2,h3⟩,λhh=>absurd hh hyes,rfl,by rw[if_neg hyes,decide_eq_false hyes],rfl⟩
open Eng
set_option maxRecDepth 10000
def aj (xs:List Nat):List AV:=xs.map λn:Nat=>AV.int .i64 n
theorem bL (xs:List Nat):(aj xs).length=xs.length:=by simp[aj]
theorem dq {xs:List Nat} {i:Nat} (h:i<xs.length):nth (aj xs) i=.int .i64 (xs.getD i 0:Nat):=by
 simp[nth,aj,acO,h]
theorem ff {xs:List Nat}:(aj xs).all aL=true:=by simp[aj,aL,cellsOf,isCell]
theorem fL {xs:List Nat} {n:Nat}:aj xs++[.int .i64 (n:Int)]=aj (xs++[n]):=by simp[aj]
theorem fx {xs:List Nat} {o n:Nat}:aB (aj xs) o n=aj ((xs.drop o).take n):=by simp[aj,aB]
theorem kl:aj []=[]:=(rfl)
def dQ (l:List Nat):List AV:=(List.range 16).map λn=>AV.int .i64 (bm l n:Nat)
theorem ma (l:List Nat):(dQ l).length=16:=by simp[dQ]
theorem ow (l:List Nat) {n:Nat} (h:n<16):(dQ l).getD n .undef=.int .i64 (bm l n:Nat):=by
 unfold dQ;rw[acO,List.getElem?_map,List.getElem?_range h];rfl
theorem K2 (l:List Nat) {x:Nat} (h:x<16):(dQ l).set x (.int .i64 ((bm l x:Int)+1))=dQ (l++[x]):=by
 apply aeQ;intro j;rw[List.getElem?_set,ma];unfold dQ;rw[List.getElem?_map,List.getElem?_map];by_cases hx:x=j
 ·subst hx;rw[if_pos rfl,if_pos h,List.getElem?_range h];simp only[adm,l9,if_true];rfl
 ·rw[if_neg hx];by_cases hj:j<16
  ·rw[List.getElem?_range hj];simp only[adm,l9,if_neg hx,adE]
  ·rw[List.getElem?_eq_none (by simp;omega)];rfl
theorem Bf {id:Nat} {l:List Nat}:(dQ l).map (killC id)=dQ l:=by simp[dQ,killC]
theorem K0 {id sz:Nat} {es:List AV} {l:List Nat}:(dQ l).map (cy id sz es)=dQ l:=by simp[dQ,cy]
theorem K1 {l:List Nat}:(dQ l).all noRefC=true:=by simp[dQ,noRefC]
theorem ov (l:List Nat) (n:Nat):bm l n<=l.length:=ae8
theorem yn (l:List Nat):∀n,bO l n<=l.length*n
 | 0=>by simp[bO]
 | 1=>by simp[bO]
 | n+2=>by
  have:=yn l (n+1);have:=ov l (n+1);simp only[bO];rw[show n+2=(n+1)+1 by omega,Nat.mul_succ l.length (n+1)];omega
def lU (l:List Nat) (n k:Nat):List Nat:=(List.range k).filter λs=>l.getD s 0==n
theorem aaR (l:List Nat) (n k:Nat):(lU l n k).length<=k:=by
 have:=adH (λs=>l.getD s 0==n) (List.range k);simpa[lU]using this
theorem aaS (l:List Nat) (n k:Nat):lU l n (k+1)=lU l n k++if l.getD k 0=n then[k]else[]:=by
 unfold lU;rw[ael,adG]
 congr 1
 by_cases h:l.getD k 0=n<;>simp[-List.getD_eq_getElem?_getD,h]
theorem aaQ (l:List Nat) (n:Nat):lU l n l.length=uT l n:=(rfl)
theorem xQ {a b:AV} {xs:List AV} {i:Nat} (h:i<xs.length):((a::(xs++[b])).drop (1+i)).getD 0 .undef=xs.getD i .undef:=by
 rw[ae0,adP,acO,List.getElem?_drop,adE,List.getElem?_append_left h,acO]
theorem DS {a b:AV} {xs:List AV} {i:Nat} (h:i<xs.length):0<((a::(xs++[b])).drop (1+i)).length:=by simp;omega
theorem Tb {a b v:AV} {xs:List AV} {i:Nat} (h:i<xs.length):cI (a::(xs++[b])) (1+i) [v]=a::(xs.set i v++[b]):=by
 unfold cI;rw[ae0 1 i,adO,show i+1+[v].length=(i+1)+1 by simp,adP,aeE acN,aed acN,aep,if_pos h];simp
theorem MX {a b v:AV} {xs:List AV} (h:xs.length=16):cI (a::(xs++[b])) 17 [v]=a::(xs++[v]):=by
 unfold cI;rw[adO,show 17+[v].length=17+1 by rfl,adP,afn h,List.drop_append];simp[h]
theorem MY {a b v:AV} {xs:List AV} (h:xs.length=16):(a::(xs++[b])).set 17 v=a::(xs++[v]):=by
 rw[List.set_cons_succ,ae9 _ _ acN,h];rfl
theorem MW {a b:AV} {xs:List AV} (h:xs.length=16):(a::(xs++[b]))[17]?=some b:=by
 rw[List.getElem?_cons_succ,List.getElem?_append_right acN,h];rfl
theorem BX {a b:AV} {xs:List AV} (h:xs.length=16):(a::(xs++[b])).drop 17=[b]:=by
 rw[adP,List.drop_left' h]
def jy (l:List Nat):List AV:=.ro 1 (aj l)::(dQ l++[.ro 1 (aj (sortL l 15))])
def bq (l:List Nat):AV:=.aq (.agg (jy l))
def jg (l:List Nat) (m:Nat):Int:=if m=0 then 1 else(2^m:Nat)-((fstL l m+bm l m:Nat):Int)
theorem YB (l:List Nat) (m:Nat):jg l (m+1)=2*jg l m-(bm l (m+1):Int):=by
 unfold jg
 cases m with
 | zero=>simp[fstL]
 | succ m=>
  rw[if_neg acN,if_neg acN];simp only[fstL];rw[ad2 2 (m+1)];omega
theorem room_le (l:List Nat) {m:Nat} (h:m<=15):jg l m<=32768:=by
 unfold jg;have:(2:Nat)^m<=2^15:=acV (by decide) h;split<;>omega
theorem YA (l:List Nat) {m:Nat} (h1:1<=m) (h2:m<=15) (h:jg l m<0):32768<cJ l:=by
 refine Nat.lt_of_not_le λhc=>?_;have:=xC hc h1 h2;unfold jg at h;rw[if_neg acN]at h;omega
theorem room_end (l:List Nat):jg l 15=32768-(cJ l:Int):=by
 unfold jg cJ;rw[if_neg acN];rfl
theorem tp (l:List Nat) (hl:∀n∈l,n<=15) (hn:l.length<=320):Eng.Spec Tryz.prog 246 [] [.ro 1 (aj l)] (λh r _=>h=[]/\r=if bx l then .af [bq l,.int .i64 0]else .af [.lit (.pointer none),.int .i64 4]):=by
 refine Cod.Pa (λE R hN hR=>?_);have hnl:=bL l;refine aE @bL @ff ?_;refine gG ?_;refine aD hN (λk:Nat=>⟨[(0,.ro 1 (aj l)),(4,.aa 49018 0),(19,.ro 1 (aj l)),(20,.int .i64 l.length),(21,.int .i64 k)],[(49018,.var (.sl 49016 0 l.length::(dQ (l.take k)++[.al]))),(49016,.arr 1 (aj l))]⟩) (λk=>k<=l.length) (λk=>l.length-k) 0 (.le (by simp(disch:=first | omega | (simp only[Lx];omega))only[go_sem,simprocAttr,bL];rfl)) acN ?_
 rintro k R1 hk hR1;have hcl:=ma (l.take k);by_cases hlt:k<l.length
 ·have hx:=mi hl k;have htk:=dj l 0 hlt;have hcs:=K2 (l.take k) (x:=l.getD k 0) acN;have hcb:=ov (l.take k) (l.getD k 0);rw[acS]at hcb;rw[<-htk]at hcs;generalize hc:l.getD k 0=x at *
  simp(disch:=first | omega | (simp only[Lx];omega))only[go_sem,simprocAttr,bL,dq,hc,xQ,DS,ow,Tb,adK]
  refine gG ?_;rw[hcs];exact hR1 (k+1) _ acN acN (.le vV)
 ·obtain rfl:k=l.length:=acN;refine ab @bL ?_;have hcl:=ma l
  refine aD hN (λm:Nat=>⟨[(0,.ro 1 (aj l)),(4,.aa 49018 0),(7,.int .i64 (jg l m)),(8,.int .i64 (bO l (m+1):Nat)),(9,.int .i64 ((m:Int)+1))],
   [(49018,.var (.sl 49016 0 l.length::(dQ l++[.sl 49082 0 (sortL l m).length]))),(49016,.arr 1 (aj l)),(49082,.arr 1 (aj (sortL l m)))]⟩) (λm=>m<=15/\0<=jg l m) (λm=>15-m) 0
   (.mn 49018 17 49082 1 (.sl 49016 0 l.length::(dQ l++[.al])) rfl (MW hcl) rfl (.le (by simp(disch:=first | omega | (simp only[Lx];omega))only[go_sem,simprocAttr,adr,Bf,MY,sortL,kl,jg,bO]))) ⟨acN,by show(0:Int)<=1;decide⟩ ?_
  rintro m R2 ⟨hm,hr⟩ hR2;by_cases hlt:m<15
  ·have hst:=YB l m;have hrl:=room_le l hm;have hcb:=ov l (m+1);have hpb:=yn l (m+1);have hpb2:l.length*(m+1)<=320*16:=aeY hn acN;have hsl:=nM l m;refine cN @bL @xQ @DS @ow @adK ?_;rw[<-hst];refine oU (λhneg=>?_) (λhneg=>?_)
   ·have hbad:=YA l acN acN hneg;have hck:bx l=false:=by unfold bx;rw[decide_eq_false acN];rfl
    refine ab hck ?_;exact hR.ro ⟨rfl,by rw[hck];rfl⟩
   ·refine ab @bL ?_
    refine aD hN (λk:Nat=>⟨[(0,.ro 1 (aj l)),(4,.aa 49018 0),(7,.int .i64 (jg l (m+1))),(8,.int .i64 (bO l (m+2):Nat)),(9,.int .i64 ((m:Int)+1)),(65,.ro 1 (aj l)),(66,.int .i64 l.length),(67,.int .i64 k)],
     [(49018,.var (.sl 49016 0 l.length::(dQ l++[.sl 49082 0 (sortL l m++lU l (m+1) k).length]))),(49016,.arr 1 (aj l)),(49082,.arr 1 (aj (sortL l m++lU l (m+1) k)))]⟩) (λk=>k<=l.length) (λk=>l.length-k) 0
     (.le (by simp(disch:=first | omega | (simp only[Lx];omega))only[go_sem,simprocAttr,lU,List.range_zero,adQ,adz,bO])) acN ?_
    rintro k R3 hk hR3;by_cases hlt3:k<l.length
    ·have htl:=aaR l (m+1) k;have hsu:=aaS l (m+1) k;by_cases hx:l.getD k 0=m+1
     ·rw[if_pos hx]at hsu;simp(disch:=first | omega | (simp only[Lx];omega))only[go_sem,simprocAttr,bL,dq,hx,BX,ff,fx,adr,Bf,MX]
      refine hR3 (k+1) _ acN acN (.le ?_);rw[hsu,<-adC,<-fL];exact cn @bL
     ·rw[if_neg hx,adz]at hsu;refine cN @bL @dq @BX @ff @fx ?_;exact hR3 (k+1) _ acN acN (.le (by rw[hsu];exact vV))
    ·obtain rfl:k=l.length:=acN;refine ab @bL ?_;refine hR2 (m+1) _ acN ⟨acN,acN⟩ (.le ?_);rw[aaQ];simp(disch:=first | omega | (simp only[Lx];omega))only[go_sem,simprocAttr,sortL]
  ·obtain rfl:m=15:=acN;have hre:=room_end l;have hpn:=yo l hl;have hsl:=nM l 15
   have yes:bx l=true->R [(49018,.var (.sl 49016 0 l.length::(dQ l++[.sl 49082 0 (sortL l 15).length]))),(49016,.arr 1 (aj l)),(49082,.arr 1 (aj (sortL l 15)))] (.af [.aa 49018 0,.int .i64 0]) [.undef]:=by
    intro hck;rw[hck]at hR;refine hR.wk (h':=[]) (r':=.af [bq l,.int .i64 0]) (ar':=[.undef]) rfl (.bj 49016 (.bj 49082 (.oO 0 0 49018 [.aa 49018 0,.int .i64 0] (jy l) vV (by rfl) ?_ ?_ (.le ?_)))) ⟨rfl,by rfl⟩
    ·simp(disch:=first | omega | (simp only[Lx];omega))only[go_sem,simprocAttr,adr,K0,fx,bL,jO,jy]
    ·simp[jy,noRefC,K1]
    ·simp(disch:=first | omega | (simp only[Lx];omega))only[go_sem,simprocAttr,bq]
   have no:bx l=false->∀h,R h (.af [.lit (.pointer none),.int .i64 4]) [.undef]:=by
    intro hck h;rw[hck]at hR;exact hR.ro ⟨rfl,rfl⟩
   have hp16:bO l (15+1)=cG l:=hpn
   have hone:∀x,((dQ l++[x]).drop 1).getD 0 .undef=.int .i64 (bm l 1:Nat):=λx=>by
    have:=xQ (a:=.undef) (b:=x) (xs:=dQ l) (i:=1) acN;rw[ow l acN]at this;exact this
   have honl:∀x,0<((dQ l++[x]).drop 1).length:=λx=>by simp;omega
   by_cases ha:0<jg l 15
   ·by_cases hb:cG l=0
    ·have hck:bx l=true:=by unfold bx;rw[decide_eq_true (show cJ l<=32768 by omega),decide_eq_true hb];simp
     refine aE hp16 hb ?_;refine gG ?_;exact yes hck
    ·by_cases hc:cG l=1
     ·by_cases hd:bm l 1=1
      ·have hck:bx l=true:=by unfold bx;rw[decide_eq_true (show cJ l<=32768 by omega),decide_eq_true hc,decide_eq_true hd];simp
       refine cN hp16 hc hone honl hd ?_;refine gy hone honl hd ?_;exact yes hck
      ·have hck:bx l=false:=by unfold bx;rw[decide_eq_false (show ¬cJ l=32768 by omega),decide_eq_false hb,decide_eq_false hd];simp
       refine bV hp16 hc hone honl ?_;refine cO hone honl ?_;exact no hck _
     ·have hck:bx l=false:=by unfold bx;rw[decide_eq_false (show ¬cJ l=32768 by omega),decide_eq_false hb,decide_eq_false hc];simp
      refine ab hp16 ?_;refine gG ?_;exact no hck _
   ·have hck:bx l=true:=by unfold bx;rw[decide_eq_true (show cJ l<=32768 by omega),decide_eq_true (show cJ l=32768 by omega)];simp
    refine ab hp16 ?_;refine gG ?_;exact yes hck
theorem XR {l:List Nat} (h:cG l=0) (b:List Bool):readL (aM l) b=(0,0,3):=by
 have h0:∀s,s<l.length->l.getD s 0=0:=by
  intro s hs;refine Nat.eq_zero_of_not_pos λhp=>?_;unfold cG at h;have:=List.countP_eq_zero.1 h (l.getD s 0) (by rw[acO,List.getElem?_eq_getElem hs];exact adB hs);simp[-List.getD_eq_getElem?_getD]at this;omega
 unfold readL;rw[wM (λs hs=>xj (h0 s hs))];simp only;rw[if_pos];rw[acZ];intro c hc;obtain⟨s,hs,rfl⟩:=adN.1 hc;unfold cV;rw[if_pos (h0 s (afH.1 hs))];rfl
theorem or_bit {c b:Nat} (hc:c<32768) (hb:b<=1):bits .or .i64 (IntKind.i64.wrap ((c:Int)*2^min 1 64)) (b:Int)=((2*c+b:Nat):Int):=by
 rw[show((c:Int)*2^min 1 64)=((c*2:Nat):Int)by push_cast;rfl,eE acN]
 show IntKind.i64.wrap ((BitVec.ofInt 64 ((c*2:Nat):Int) ||| BitVec.ofInt 64 (b:Int)).toNat:Int)=_
 rw[ac2,ac2,adZ,ac1,ac1,acY acN,acY acN]
 have h1:c*2 ||| b=2*c+b:=by
  have:=adu (b:=b) (i:=1) acN c;rw[adD]at this;rw[show c*2=c*2^1 by rfl,<-this];omega
 rw[h1];exact eE acN
theorem zk (l:List Nat):((jy l).drop 1).take 16=dQ l:=by
 unfold jy;rw[adP,ado,afn (ma l)]
theorem aaX (l:List Nat):(jy l).getD 17 .undef=.ro 1 (aj (sortL l 15)):=by
 unfold jy;rw[aej,acO,List.getElem?_append_right (by rw[ma];omega),ma];rfl
theorem aaW (l:List Nat):(jy l).length=18:=by simp[jy,ma]
set_option maxHeartbeats 1000000 in
theorem xl (l:List Nat) (hl:∀n∈l,n<=15) (hll:l.length<=320) (hck:bx l=true) (s:Bs) (a hv fr p:Nat) (hs:s.length<=1000000000000) (h:bK s a hv p):Eng.Spec Tryz.prog 234 [(RD,.var (aU s a hv fr))] [bq l,.aa RD 0]
    (λh' v ar=>∃a' hv' p' k,bK s a' hv' p'/\h'=[(RD,.var (aU s a' hv' fr))]/\v=.af [.int .i64 (k:Nat),.int .i64 ((readL (aM l) (bw s p)).2.2:Nat)] /\
     ((readL (aM l) (bw s p)).2.2=0->k=(readL (aM l) (bw s p)).1/\p'=p+(readL (aM l) (bw s p)).2.1)/\ar=[bq l,.aa RD 0]):=by
 have hc:cJ l<=32768:=by unfold bx at hck;simp at hck;exact hck.1
 refine Cod.Pd (λE R hN hR=>?_);have hsl:=nM l 15;have hpn:=yo l hl;have hp16:bO l (15+1)=cG l:=hpn;have htl:=aaW l;have hnum:cG l<=l.length:=ae8;have hts:=aaX l;have hnl:=bL (sortL l 15);have hso:∃so,sortL l 15=so:=⟨_,rfl⟩;obtain⟨so,hso⟩:=hso;rw[hso]at hsl hts hnl;by_cases h0:cG l=0
 ·have hr:=XR h0 (bw s p);rw[hr]at hR;simp(disch:=omega)only[go_sem,simprocAttr,bq,htl,hts,hnl,hsl,hp16,h0];exact hR.le vV ⟨a,hv,p,0,h,rfl,rfl,λe=>by simp at e,rfl⟩
 ·simp(disch:=omega)only[go_sem,simprocAttr,bq,htl,hts,hnl,hsl,hp16,h0];have hbl:=lO s p;generalize hb:bw s p=b at *
  refine aD hN (λq:Nat×Nat×Nat=>⟨[(0,.aq (.agg (jy l))),(1,.aa 40014 0),(6,.int .i64 (msb (b.take q.1):Nat)),(7,.int .i64 (fstL l (q.1+1):Nat)),(8,.int .i64 (bO l (q.1+1):Nat)),(9,.int .i64 ((q.1:Int)+1)),
   (2000000,.aq (.agg (jy l))),(2000001,.aa 40014 0)],[(40014,.var (aU s q.2.1 q.2.2 fr))]⟩)
   (λq=>q.1<15/\bK s q.2.1 q.2.2 (p+q.1)/\q.1<=dU s p/\oc l b (q.1+1)/\fstL l (q.1+1)<=2*msb (b.take q.1)/\bO l (q.1+1)<cG l) (λq=>15-q.1) (0,a,hv)
   (.le (by simp(disch:=omega)only[go_sem,simprocAttr,msb,List.foldl_nil,fstL,bO])) ⟨acN,h,acN,λs _ h1 h2=>by omega,by simp[fstL],by simp only[bO];omega⟩ ?_
  rintro⟨n,a,hv⟩ R1 ⟨hn,hrd,hlb,hno,hj,hpre⟩ hR1;simp only at hn hrd hlb hno hj hpre;have hmt:=DX (b.take n);have hmt2:2^(b.take n).length<=2^15:=acV (by decide) (by rw[acS];omega);have hkr:=xC hc (n:=n+1) acN acN;have hk2:2^(n+1)<=2^15:=acV (by decide) acN;simp(disch:=omega)only[go_sem,simprocAttr,bq];refine aI [(RD,.var (aU s a hv fr))] (uv s a hv fr (p+n) 1 hs hrd acN) vV nofun ?_;rintro h' v ar ⟨a',hv',hrd',rfl,rfl,rfl⟩;refine⟨cK,rfl,?_⟩;unfold dU at hlb;by_cases hbit:1<=dU s (p+n)
  ·rw[if_pos hbit]at hrd';have hbit2:=hbit;unfold dU at hbit2;have hbn:n<b.length:=acN;have hget:b.getD n false=iR s (p+n):=by rw[<-hb];exact Fw s p acN
   have hms:=xR b n hbn;rw[hget,<-T7]at hms;have hx1:=iE s (p+n) 1;have hle:=SX hbn hj;have hob:=or_bit (c:=msb (b.take n)) (b:=numAt s (p+n) 1) acN acN;rw[<-hms]at hob;have hcl:=ma l;have hpb:=yn l (n+1);have hpm:=qN l (n+2) (16-(n+2));rw[show n+2+(16-(n+2))=16 by omega,hpn]at hpm;have hps:bO l (n+2)=bO l (n+1)+bm l (n+1):=rfl;have hfs:fstL l (n+2)=2*(fstL l (n+1)+bm l (n+1)):=rfl;refine lg hbit hob @zk htl hcl @ow ?_;refine oU (λhk=>?_) (λhk=>?_)
   ·obtain⟨k,hke⟩:∃k,msb (b.take (n+1))=fstL l (n+1)+k:=⟨msb (b.take (n+1))-fstL l (n+1),acN⟩;obtain⟨sy,g1,g2,g3⟩:=S5 hc hl hn hbn hno hj hke acN;rw[hso]at g1;rw[g3]at hR;have ei:((bO l (n+1):Nat):Int)+(((msb (b.take (n+1)):Nat):Int)-((fstL l (n+1):Nat):Int))=((bO l (n+1)+k:Nat):Int):=acN;simp(disch:=omega)only[go_sem,simprocAttr,hts,htl,hnl,hsl,hp16,ei,dq,g1];exact hR.le (by simp(disch:=omega)only[go_sem,simprocAttr,bq]) ⟨a',hv',p+n+1,sy,hrd',rfl,rfl,λ_=>⟨rfl,by show _=p+(n+1);omega⟩,rfl⟩
   ·obtain⟨g1,g2⟩:=SY hc hl hn hbn hno acN
    have hw2:(((fstL l (n+1):Nat):Int)+((bm l (n+1):Nat):Int))*2^min 1 64=((fstL l (n+2):Nat):Int):=by
     rw[hfs,show(2:Int)^min 1 64=2 by decide];push_cast;omega
    have ha2:((bO l (n+1):Nat):Int)+((bm l (n+1):Nat):Int)=((bO l (n+2):Nat):Int):=by rw[hps];push_cast;rfl
    by_cases hend:bO l (n+2)=cG l
    ·have hr:=SZ (b:=b) hl (n:=n+1) acN acN hend acN g1;rw[hr]at hR;simp(disch:=omega)only[go_sem,simprocAttr,zk,hts,htl,hcl,ow,hw2,ha2,hnl,hsl,hp16,hend];exact hR.le (by simp(disch:=omega)only[go_sem,simprocAttr,bq]) ⟨a',hv',p+n+1,0,hrd',rfl,rfl,λe=>by simp at e,rfl⟩
    ·have hne:¬((bO l (n+2):Nat):Int)=((cG l:Nat):Int):=acN
     have hn15:n+1<15:=by
      refine Nat.lt_of_not_le λhh=>?_;have:n=14:=acN;subst this;exact hend hpn
     simp(disch:=omega)only[go_sem,simprocAttr,zk,hts,htl,hcl,ow,hw2,ha2,hnl,hsl,hp16,hne];exact hR1 (n+1,a',hv') _ (by simp only;omega) ⟨hn15,hrd',by simp only[dU];omega,g1,g2,by show bO l (n+2)<_;omega⟩ (.le vV)
  ·have hbn:b.length=n:=by unfold dU at hbit;omega
   rw[if_neg hbit]at hrd';have hr:=SV (b:=b) hl hck acN (by rw[hbn];exact hpre) (by rw[hbn];exact hno) (by rw[acP acN]at hj;rw[hbn];exact hj);rw[hr]at hR;refine ab hbit ?_;exact hR.le vV ⟨a',hv',p+n,0,hrd',rfl,rfl,λe=>by simp at e,rfl⟩
def cp (xs:List Bool):List AV:=xs.map AV.bool
theorem kF (xs:List Bool):(cp xs).length=xs.length:=by simp[cp]
theorem xX {xs:List Bool} {i:Nat} (h:i<xs.length):nth (cp xs) i=.bool (xs.getD i false):=by
 simp[nth,cp,acO,h]
theorem AH {xs:List Bool}:(cp xs).all aL=true:=by simp[cp,aL,cellsOf,isCell]
theorem JT {xs:List Bool} {c:Bool}:cp xs++[.bool c]=cp (xs++[c]):=by simp[cp]
theorem JU {xs:List Bool} {c:Bool}:.bool c::cp xs=cp (c::xs):=by simp[cp]
theorem mS {xs:List Bool} {o n:Nat}:aB (cp xs) o n=cp ((xs.drop o).take n):=by simp[cp,aB]
theorem AJ:cp []=[]:=(rfl)
def jV (s:Bs) (n:Nat):List Bool:=(List.range n).map (iR s)
theorem Jz (s:Bs) (n:Nat):(jV s n).length=n:=by simp[jV]
theorem JB (s:Bs) (n:Nat):jV s (n+1)=jV s n++[iR s n]:=by simp[jV,ael]
theorem JA (s:Bs):jV s (8*s.length)=bw s 0:=by simp[jV,bw]
theorem Jw (c:UInt8) (k:Nat) (hk:k<8):decide (bits .and .u8 ((c.toNat:Int).fdiv (2^min k 64)) 1=1)=c.toNat.testBit k:=by
 have hc:=c.toNat_lt
 have e1:(c.toNat:Int).fdiv (2^min k 64)=((c.toNat/2^k:Nat):Int):=by
  rw[adk acN,adv _ (aeW (by decide)),aeZ,aeL];rfl
 have hd:c.toNat/2^k<256:=ae2 (aez _ _) acN
 have e2:bits .and .u8 ((c.toNat/2^k:Nat):Int) 1=((c.toNat/2^k%2:Nat):Int):=by
  show IntKind.u8.wrap ((BitVec.ofInt 8 ((c.toNat/2^k:Nat):Int) &&& BitVec.ofInt 8 1).toNat:Int)=_
  rw[ac2,ad1,ac1,acY acN,show(BitVec.ofInt 8 1).toNat=2^1-1 by decide,adx];exact wrap_u8 acN
 rw[e1,e2,Nat.testBit_eq_decide_div_mod_eq];exact decide_eq_decide.2 acN
theorem Jy (c:UInt8) (k:Nat) (hk:k<8):(decide (bits .and .u8 ((c.toNat:Int).fdiv (2^min k 8)) 1=1))=c.toNat.testBit k:=by
 have:=Jw c k hk;rw[adk acN]at this |-;exact this
theorem Ww (s:Bs) (hs:s.length<=1000000):ao Tryz.prog 193 [.str s] (.ro 1 (cp (bw s 0))):=by
 refine Cod.Wx (λE R hN hR=>?_);refine wW ?_;refine aD hN (λk:Nat=>⟨[(0,.str s),(3,.sl 51006 0 (8*k)),(4,.int .i64 k)],[(51006,.arr 1 (cp (jV s (8*k))))]⟩) (λk=>k<=s.length) (λk=>s.length-k) 0 (.le (by simp(disch:=omega)only[go_sem,simprocAttr,jV,List.range_zero,AJ])) acN ?_;rintro k R1 hk hR1;by_cases hlt:k<s.length
 ·refine wW ?_;refine aD hN (λj:Nat=>⟨[(0,.str s),(3,.sl 51006 0 (8*k+j)),(4,.int .i64 k),(5,.int .i64 j)],[(51006,.arr 1 (cp (jV s (8*k+j))))]⟩) (λj=>j<=8) (λj=>8-j) 0 (.le vV) acN ?_;rintro j R2 hj hR2;have hbl:=Jz s (8*k+j);have hbl2:=kF (jV s (8*k+j));by_cases hj8:j<8
  ·have hb:=Jy (s.getD k 0) j hj8;have hbt:iR s (8*k+j)=(s.getD k 0).toNat.testBit j:=by unfold iR;rw[show(8*k+j)/8=k by omega,show(8*k+j)%8=j by omega]
   rw[<-hbt]at hb;refine cN @mS @AH @jO hb @JT ?_;refine hR2 (j+1) _ acN acN (.le ?_);rw[show 8*k+(j+1)=8*k+j+1 by omega,JB];exact vV
  ·obtain rfl:j=8:=acN;refine wW ?_;exact hR1 (k+1) _ acN acN (.le (by rw[show 8*(k+1)=8*k+8 by omega];exact vV))
 ·obtain rfl:k=s.length:=acN;have ht:(bw s 0).take (8*s.length)=bw s 0:=acP (by rw[lO];omega);refine wW ?_;exact hR.wk (h':=[]) (r':=.ro 1 (cp (bw s 0))) (ar':=[.undef]) rfl (.bj 51006 (.le (mH @mS @JA ht))) ⟨rfl,rfl⟩
def jc (b:List Bool):Nat:=b.foldr (λc a=>2*a+c.toNat) 0
theorem T1 (b:List Bool):jc b<2^b.length:=by
 induction b with
 | nil=>simp[jc]
 | cons c b ih=>
  have h1:jc (c::b)=2*jc b+c.toNat:=rfl;have:c.toNat<=1:=by cases c<;>decide
  rw[h1,adb,ad2];omega
theorem T2 (b:List Bool) (c:Bool):jc (b++[c])=jc b+if c then 2^b.length else 0:=by
 induction b with
 | nil=>cases c<;>rfl
 | cons d b ih=>
  have h1:∀b,jc (d::b)=2*jc b+d.toNat:=λ_=>rfl;rw[ads,h1,h1,ih,adb,ad2];split<;>omega
theorem Eg (s:Bs) (p:Nat):∀n,p+n<=8*s.length->jc ((bw s p).take n)=numAt s p n
 | 0,_=>rfl
 | n+1,h=>by
  have hl:=lO s p;rw[dj (bw s p) false acN,T2,Eg s p n acN,Fw s p acN,acS,hl,adk acN];rfl
theorem Wy (b:List Bool) (hb:b.length<=31):ao Tryz.prog 222 [.ro 1 (cp b)] (.int .u32 (jc b:Nat)):=by
 refine Cod.Wz (λE R hN hR=>?_);have hbl:=kF b;refine ab hbl ?_;refine aD hN (λk:Nat=>⟨[(0,.ro 1 (cp b)),(3,.int .u32 (jc (b.drop k):Nat)),(4,.int .i64 ((k:Int)-1))],[]⟩) (λk=>k<=b.length) (λk=>k) b.length (.le (by simp(disch:=omega)only[go_sem,simprocAttr,BI,jc,List.foldr_nil])) acN ?_;rintro k R1 hk hR1
 cases k with
 | zero=>
  refine wW ?_
  exact hR.ro ⟨rfl,rfl⟩
 | succ k=>
  have hx:=T1 (b.drop (k+1));have hx2:2^(b.drop (k+1)).length<=2^30:=acV (by decide) (by rw[acU];omega);have hd:jc (b.drop k)=2*jc (b.drop (k+1))+(b.getD k false).toNat:=by rw[Mh false b acN];rfl
  have ek:(k:Int)+1-1=(k:Int):=acN;refine bp ek @xX hbl ?_
  cases hc:b.getD k false with
  | false=>
   rw[hc]at hd;refine wW ?_
   exact hR1 k _ acN acN (.le (by rw[hd];simp(disch:=omega)only[go_sem,simprocAttr];push_cast;rfl))
  | true=>
   rw[hc]at hd;refine wW ?_;exact hR1 k _ acN acN (.le (by rw[hd];simp(disch:=omega)only[go_sem,simprocAttr];push_cast;rfl))
theorem Vj (i:Nat) (h:i<15):(((32768/2^i:Nat):Int)).tdiv 2=((32768/2^(i+1):Nat):Int):=by
 rw[ad2,<-aen];generalize 32768/2^i=q;rw[la acN];omega
theorem Vi (n:Nat) (h:n<=15):32768/2^n=2^(15-n):=by
 have h1:32768=2^(15-n)*2^n:=by rw[<-aeO,show 15-n+n=15 by omega]
 rw[h1,Nat.mul_div_cancel _ (afm (by decide))]
theorem T8 (l:List Nat) (x:Nat):cG (l++[x])=cG l+if 0<x then 1 else 0:=by
 simp only[cG,List.countP_append,List.countP_singleton,decide_eq_true_eq]
theorem aa1 (l:List Nat):cJ l<=32768*l.length:=by
 refine y0 (p:=λl=>cJ l<=32768*l.length) (by simp[cJ,fstL,bm]) (λl x h=>?_) l;rw[GA,acQ,acW];have:(2:Nat)^(15-x)<=2^15:=acV (by decide) acN;split<;>omega
set_option maxHeartbeats 1000000 in
theorem yt (l:List Nat) (hl:∀n∈l,n<=15) (hn:l.length<=320):ao Tryz.prog 227 [.ro 1 (aj l)] (.int .i64 (if bx l then 0 else 4:Nat)):=by
 refine Cod.WC (λE R hN hR=>?_);have hnl:=bL l;refine ab hnl ?_;refine aD hN (λk:Nat=>⟨[(3,.int .i64 (cJ (l.take k):Nat)),(4,.int .i64 (cG (l.take k):Nat)),(5,.int .i64 (bm (l.take k) 1:Nat)),(13,.ro 1 (aj l)),(14,.int .i64 l.length),(15,.int .i64 k)],[]⟩) (λk=>k<=l.length) (λk=>l.length-k) 0 (.le (by simp(disch:=omega)only[go_sem,simprocAttr,cJ,cG,bm,fstL];simp)) acN ?_;rintro k R1 hk hR1;have ht:=aa1 (l.take k);have hc1:=ov (l.take k) 1;have hnm:cG (l.take k)<=(l.take k).length:=ae8;rw[acS]at ht hc1 hnm;have hmin:32768*min k l.length<=32768*320:=aem _ acN;by_cases hlt:k<l.length
 ·have hx:=mi hl k;have htk:=dj l 0 hlt;have hts:=GA (l.take k) (l.getD k 0);have hns:=T8 (l.take k) (l.getD k 0);have hcs:=l9 (l.take k) (l.getD k 0) 1;rw[<-htk]at hts hns hcs;generalize hc:l.getD k 0=x at *
  have next:(∀t c o:Nat,t=cJ (l.take (k+1))->c=cG (l.take (k+1))->o=bm (l.take (k+1)) 1->∀s,s=[(3,AV.int .i64 (t:Int)),(4,.int .i64 (c:Int)),(5,.int .i64 (o:Int)),(13,.ro 1 (aj l)),(14,.int .i64 l.length),(15,.int .i64 ((k:Int)+1))]->R1.ap ⟨s,[]⟩):=by
   rintro t c o rfl rfl rfl s rfl;exact hR1 (k+1) _ acN acN (.le vV)
  by_cases h0:0<x
  ·rw[if_pos ⟨acN,hx⟩]at hts;rw[if_pos h0]at hns;refine bp hnl @dq hc ?_;refine gG ?_;refine aD hN (λi:Nat=>⟨[(3,.int .i64 (cJ (l.take k):Nat)),(4,.int .i64 ((cG (l.take k):Nat)+1)),(5,.int .i64 (bm (l.take k) 1:Nat)),(7,.int .i64 x),(8,.int .i64 (32768/2^i:Nat)),(9,.int .i64 i),(13,.ro 1 (aj l)),(14,.int .i64 l.length),(15,.int .i64 k)],[]⟩) (λi=>i<=x) (λi=>x-i) 0 (.le vV) acN ?_;rintro i R2 hi hR2;by_cases hix:i<x
   ·have hp:=Vj i acN;have hpl:32768/2^i<=32768:=aez _ _;have hpl2:32768/2^(i+1)<=32768:=aez _ _;have hR3:=hR2 (i+1);generalize 32768/2^(i+1)=q2 at *
    generalize 32768/2^i=q at *
    refine ab hp ?_;exact hR3 _ acN acN (.le vV)
   ·obtain rfl:i=x:=acN;have hp:=Vi i acN;have hp2:(2:Nat)^(15-i)<=2^15:=acV (by decide) acN;rw[hp]at *
    generalize 2^(15-i)=q at *
    by_cases h1:i=1
    ·rw[if_pos h1]at hcs;refine ab h1 ?_;exact next (cJ (l.take k)+q) (cG (l.take k)+1) (bm (l.take k) 1+1) acN acN acN _ vV
    ·rw[if_neg h1]at hcs;refine wW ?_;exact next (cJ (l.take k)+q) (cG (l.take k)+1) (bm (l.take k) 1) acN acN acN _ vV
  ·rw[if_neg acN]at hts;rw[if_neg h0]at hns;rw[if_neg acN]at hcs;refine bp hnl @dq hc ?_;refine gG ?_;exact next (cJ (l.take k)) (cG (l.take k)) (bm (l.take k) 1) acN acN acN _ rfl
 ·obtain rfl:k=l.length:=acN;rw[acP (acT _)]at ht hc1 hnm |-;have go:∀b:Bool,bx l=b->∀h,R h (.int .i64 (if b then 0 else 4:Nat)) [.undef]:=λb hb h=>hR.ro ⟨rfl,by rw[hb]⟩
  unfold bx at go;by_cases h1:cJ l<=32768
  ·rw[decide_eq_true h1]at go;by_cases h2:cJ l=32768
   ·rw[decide_eq_true h2]at go;refine ab hnl ?_;refine gG ?_;exact go true (by simp) _
   ·rw[decide_eq_false h2]at go;by_cases h3:cG l=0
    ·rw[decide_eq_true h3]at go;refine aE hnl h3 ?_;refine gG ?_;exact go true (by simp) _
    ·rw[decide_eq_false h3]at go;by_cases h4:cG l=1
     ·rw[decide_eq_true h4]at go;by_cases h5:bm l 1=1
      ·rw[decide_eq_true h5]at go;refine bp hnl h4 h5 ?_;refine gG ?_;exact go true (by simp) _
      ·rw[decide_eq_false h5]at go;refine aE hnl h4 ?_;refine gG ?_;exact go false (by simp) _
     ·rw[decide_eq_false h4]at go;refine ab hnl ?_;refine gG ?_;exact go false (by simp) _
  ·rw[decide_eq_false h1]at go;refine ab hnl ?_;refine gG ?_;exact go false (by simp) _
def cA (c:List Bool):AV:=
 match c with
 | []=>.al
 | x::r=>.ro 1 (cp (x::r))
theorem si {c:List Bool} (h:0<c.length):cA c=.ro 1 (cp c):=by
 cases c with
 | nil=>simp at h
 | cons x r=>rfl
def bE (cs:List (List Bool)):List AV:=cs.map cA
theorem vZ (cs:List (List Bool)):(bE cs).length=cs.length:=by simp[bE]
theorem o5 {cs:List (List Bool)} {i:Nat} (h:i<cs.length):nth (bE cs) i=cA (cs.getD i []):=by
 simp[nth,bE,acO,h]
theorem Kg (c:List Bool):isCell (cA c)=true:=by cases c<;>rfl
theorem A3 (c:List Bool):cellsOf (cA c)=[cA c]:=by cases c<;>rfl
theorem K3 {cs:List (List Bool)}:(bE cs).all aL=true:=by
 simp only[bE,List.all_map,acZ,Function.comp,aL];intro c _;rw[A3];simp[Kg]
theorem K4 {cs:List (List Bool)} {i:Nat} {c:List Bool}:(bE cs).set i (cA c)=bE (cs.set i c):=by simp[bE,afE]
def fg (l:List Nat) (n k:Nat):List (List Bool):=(List.range l.length).map λj=>if l.getD j 0≠0/\(l.getD j 0<n\/(l.getD j 0=n/\j<k))then cV l j else[]
theorem uc (l:List Nat) (n k:Nat):(fg l n k).length=l.length:=by simp[fg]
theorem U3 (l:List Nat):fg l 1 0=List.replicate l.length []:=by
 unfold fg;rw[aeg (g:=λ_=>[]) (λj _=>by rw[if_neg];omega),List.map_const',afr]
theorem U0 (l:List Nat) (n:Nat):fg l n l.length=fg l (n+1) 0:=by
 unfold fg;refine aeg λj hj=>?_;have:=afH.1 hj;by_cases h:l.getD j 0≠0/\(l.getD j 0<n\/(l.getD j 0=n/\j<l.length))
 ·rw[if_pos h,if_pos ⟨h.1,acN⟩]
 ·rw[if_neg h,if_neg acN]
theorem UZ (l:List Nat) (hl:∀n∈l,n<=15):fg l 16 0=aM l:=by
 unfold fg aM;refine aeg λj _=>?_;have:=mi hl j;by_cases h:l.getD j 0≠0
 ·rw[if_pos ⟨h,.inl acN⟩]
 ·rw[if_neg (λg=>h g.1)];unfold cV;rw[if_pos acN]
theorem U2 (l:List Nat) (n k:Nat) (h:l.getD k 0≠n):fg l n (k+1)=fg l n k:=by
 unfold fg;refine aeg λj _=>?_;by_cases hj:j=k
 ·subst hj;by_cases h1:l.getD j 0≠0/\l.getD j 0<n
  ·rw[if_pos ⟨h1.1,.inl h1.2⟩,if_pos ⟨h1.1,.inl h1.2⟩]
  ·rw[if_neg acN,if_neg acN]
 ·by_cases h1:l.getD j 0≠0/\(l.getD j 0<n\/(l.getD j 0=n/\j<k))
  ·rw[if_pos h1,if_pos ⟨h1.1,acN⟩]
  ·rw[if_neg h1,if_neg acN]
theorem U1 (l:List Nat) (n k:Nat) (hk:k<l.length) (h0:n≠0) (h:l.getD k 0=n):(fg l n k).set k (cV l k)=fg l n (k+1):=by
 apply aeQ;intro j;rw[List.getElem?_set,uc];by_cases hj:k=j
 ·subst hj;rw[if_pos rfl,if_pos hk];unfold fg;rw[List.getElem?_map,List.getElem?_range hk];simp only[adm];rw[if_pos ⟨acN,.inr ⟨h,acN⟩⟩]
 ·rw[if_neg hj];by_cases hjl:j<l.length
  ·unfold fg;rw[List.getElem?_map,List.getElem?_map,List.getElem?_range hjl];simp only[adm];by_cases h1:l.getD j 0≠0/\(l.getD j 0<n\/(l.getD j 0=n/\j<k))
   ·rw[if_pos h1,if_pos ⟨h1.1,acN⟩]
   ·rw[if_neg h1,if_neg acN]
  ·rw[List.getElem?_eq_none (by rw[uc];omega),List.getElem?_eq_none (by rw[uc];omega)]
def mY (l:List Nat) (m:Nat):Nat:=if m=0 then 0 else fstL l m+bm l m
theorem MV (l:List Nat) (m:Nat):2*mY l m=fstL l (m+1):=by
 unfold mY
 cases m with
 | zero=>rfl
 | succ m=>rw[if_neg acN];rfl
theorem Aw:∀(i x:Nat),bitsM x (i+1)=(x/2^i%2==1)::bitsM x i
 | 0,x=>by simp[bitsM]
 | i+1,x=>by
  show bitsM (x/2) (i+1)++[x%2==1]=_
  rw[Aw i (x/2)];have:x/2/2^i=x/2^(i+1):=by rw[ad2,afC,aen]
  rw[this];rfl
theorem Cu (l:List Nat):∀n,fstL l (n+1)+bm l (n+1)+l.length<=l.length*2^(n+1)
 | 0=>by have:=ov l 1;simp[fstL];omega
 | n+1=>by
  have h1:=Cu l n;have h2:=ov l (n+2);have h3:bm l (n+1+1)=bm l (n+2):=rfl;simp only[fstL];rw[ad2 2 (n+1),<-Nat.mul_assoc];omega
theorem Oi (l:List Nat) (hn:l.length<=320) {n:Nat} (h1:1<=n) (h:n<=16):fstL l n+bm l n<=20971520:=by
 obtain⟨m,rfl⟩:∃m,n=m+1:=⟨n-1,acN⟩;have h2:=Cu l m;have h3:l.length*2^(m+1)<=320*2^16:=aeY hn (acV (by decide) h);omega
set_option maxHeartbeats 1000000 in
theorem yu (l:List Nat) (hl:∀n∈l,n<=15) (hn:l.length<=320):ao Tryz.prog 224 [.ro 1 (aj l)] (.ro 1 (bE (aM l))):=by
 refine Cod.WD (λE R hN hR=>?_);have hnl:=bL l;refine ab hnl ?_;refine aD hN (λk:Nat=>⟨[(0,.ro 1 (aj l)),(3,.sl 55011 0 k),(13,.int .i64 l.length),(14,.int .i64 k)],[(55011,.arr 1 (List.replicate k .al))]⟩) (λk=>k<=l.length) (λk=>l.length-k) 0 (.le (by simp(disch:=omega)only[go_sem,simprocAttr,afk])) acN ?_;rintro k R1 hk hR1;by_cases hlt:k<l.length
 ·have hrc:(List.replicate k AV.al).all aL=true:=by rw[List.all_replicate];split<;>rfl
  have hrl:(List.replicate k AV.al).length=k:=adh;have hrs:aB (List.replicate k AV.al) 0 k=List.replicate k AV.al:=by simp[aB]
  refine bV hnl hrc hrl hrs ?_;exact hR1 (k+1) _ acN acN (.le (by rw[aeV];exact vV))
 ·obtain rfl:k=l.length:=acN;refine ab hnl ?_;have hz:List.replicate l.length AV.al=bE (fg l 1 0):=by rw[U3];simp[bE,cA]
  refine aD hN (λm:Nat=>⟨[(0,.ro 1 (aj l)),(3,.sl 55011 0 l.length),(4,.int .i64 (mY l m:Nat)),(5,.int .i64 ((m:Int)+1))],[(55011,.arr 1 (bE (fg l (m+1) 0)))]⟩) (λm=>m<=15) (λm=>15-m) 0 (.le (by rw[hz,show mY l 0=0 from rfl];exact vV)) acN ?_;rintro m R2 hm hR2;by_cases hlt2:m<15
  ·have he2:=MV l m;have hfl:=Oi l hn (n:=m+1) acN acN;have he3:2*((mY l m:Nat):Int)=((fstL l (m+1):Nat):Int):=acN;have hle:mY l m<=20971520:=acN;refine aE hnl he3 ?_;refine aD hN (λk:Nat=>⟨[(0,.ro 1 (aj l)),(3,.sl 55011 0 l.length),(4,.int .i64 (fstL l (m+1)+bm (l.take k) (m+1):Nat)),(5,.int .i64 ((m:Int)+1)),(26,.ro 1 (aj l)),(27,.int .i64 l.length),(28,.int .i64 k)],[(55011,.arr 1 (bE (fg l (m+1) k)))]⟩) (λk=>k<=l.length) (λk=>l.length-k) 0 (.le (by simp(disch:=omega)only[go_sem,simprocAttr,bm,List.countP_nil])) acN ?_;rintro k R3 hk hR3;have hcl:=Be l k (m+1);by_cases hlt3:k<l.length
   ·have hcs:=l9 (l.take k) (l.getD k 0) (m+1);rw[<-dj l 0 hlt3]at hcs;by_cases hx:l.getD k 0=m+1
    ·rw[if_pos hx]at hcs;have hcw:gu l k=fstL l (m+1)+bm (l.take k) (m+1):=by unfold gu lP;rw[hx]
     have bD:=U1 l (m+1) k hlt3 acN hx;have hcd:cV l k=bitsM (gu l k) (m+1):=by unfold cV;rw[if_neg acN,hx]
     have hol:=uc l (m+1) k;have hoc:=vZ (fg l (m+1) k);generalize hw:fstL l (m+1)+bm (l.take k) (m+1)=cw at *
     have hcwl:cw<=20971520:=acN;refine bp hnl @dq hx ?_
     refine aD hN (λi:Nat=>⟨[(0,.ro 1 (aj l)),(3,.sl 55011 0 l.length),(4,.int .i64 cw),(5,.int .i64 ((m:Int)+1)),(6,.int .i64 k),(8,.sl 55036 0 i),(9,.int .i64 (cw/2^i:Nat)),(10,.int .i64 i),(26,.ro 1 (aj l)),(27,.int .i64 l.length),(28,.int .i64 k)],
      [(55011,.arr 1 (bE (fg l (m+1) k))),(55036,.arr 1 (cp (bitsM cw i)))]⟩) (λi=>i<=m+1) (λi=>m+1-i) 0 (.le (by simp(disch:=omega)only[go_sem,simprocAttr,bitsM,AJ])) acN ?_
     rintro i R4 hi hR4;have hbl:=vM i cw;have hbl2:=kF (bitsM cw i);by_cases hi2:i<m+1
     ·have hbc:=Aw i cw;have hR5:=hR4 (i+1);have hq2:cw/2^(i+1)=cw/2^i/2:=by rw[ad2,aen]
      rw[hq2]at hR5;have hql:cw/2^i<=cw:=aez _ _;generalize cw/2^i=q at *
      have e1:((q:Nat):Int).tdiv 2=((q/2:Nat):Int):=by rw[la acN];omega
      have e2:decide ((q:Int)%2=1)=(q%2==1):=by
       rw[show(q%2==1)=decide (q%2=1)by rfl];exact decide_eq_decide.2 acN
      refine cN e1 e2 @mS @jO @AH ?_;refine hR5 _ acN acN (.drop 55036 (.jx 55046 55036 rfl vV (.le ?_)));rw[hbc];refine wW ?_;rw[JU]
     ·obtain rfl:i=m+1:=acN;have hcp:=si (c:=bitsM cw (m+1)) acN;rw[hcd,hcw]at bD;simp(disch:=omega)only[go_sem,simprocAttr,mS,jO,hol,hoc,K3,o5,A3,<-hcp,K4,bD];refine hR3 (k+1) _ acN acN (.le ?_);rw[hcs,<-adX,hw];exact vV
    ·have hos:=U2 l (m+1) k hx;rw[if_neg hx,adE]at hcs;refine bp hnl @dq hx ?_;refine hR3 (k+1) _ acN acN (.le ?_);rw[hos,hcs];exact vV
   ·obtain rfl:k=l.length:=acN;rw[acP (acT _)]at *
    refine ab hnl ?_;refine hR2 (m+1) _ acN acN (.le ?_);rw[U0,show mY l (m+1)=fstL l (m+1)+bm l (m+1)from if_neg acN];exact vV
  ·obtain rfl:m=15:=acN;have hcl:=vZ (aM l);have hcl2:(aM l).length=l.length:=by simp[aM]
   have htk:(bE (aM l)).take l.length=bE (aM l):=acP acN;have hoe:=UZ l hl;refine wW ?_;rw[hoe];exact hR.wk (h':=[]) (r':=.ro 1 (bE (aM l))) (ar':=[.undef]) rfl (.bj 55011 (.le (by simp(disch:=omega)only[go_sem,simprocAttr,aB,htk,ado]))) ⟨rfl,rfl⟩
theorem VO (a b:List Bool) (h:b.length<a.length):a.isPrefixOf b=false:=by
 cases hh:a.isPrefixOf b with
 | false=>rfl
 | true=>have:=(aeT.1 hh).length_le;omega
theorem Fa (b a:List Bool) (hb:b.length<=1000000000) (ha:a.length<=1000000000):ao Tryz.prog 259 [.ro 1 (cp b),.ro 1 (cp a)] (.bool (a.isPrefixOf b)):=by
 refine Cod.WB (λE R hN hR=>?_);have hbl:=kF b;have hal:=kF a;by_cases hlt:b.length<a.length
 ·have hp:=VO a b hlt;refine aE hbl hal ?_;exact hR.ro ⟨rfl,by rw[hp]⟩
 ·refine aE hbl hal ?_;refine aD hN (λi:Nat=>⟨[(0,.ro 1 (cp b)),(1,.ro 1 (cp a)),(12,.int .i64 a.length),(13,.int .i64 i)],[]⟩) (λi=>i<=a.length/\a.take i=b.take i) (λi=>a.length-i) 0 (.le vV) ⟨acN,by simp⟩ ?_;rintro i R1 ⟨hi,he⟩ hR1;by_cases hil:i<a.length
  ·have hta:=dj a false hil;have htb:=dj b false (show i<b.length by omega);have hR2:=hR1 (i+1);generalize hx:a.getD i false=x at *
   generalize hy:b.getD i false=y at *
   by_cases hxy:x=y
   ·subst hxy;refine cN hbl hal @xX hx hy ?_;have hd:(!(x==x))=false:=by simp
    refine ab hd ?_;exact hR2 _ acN ⟨acN,by rw[hta,htb,he]⟩ (.le vV)
   ·have hd:(!(x==y))=true:=by simp[hxy]
    have hp:a.isPrefixOf b=false:=by
     cases hh:a.isPrefixOf b with
     | false=>rfl
     | true=>
      obtain⟨r,hr⟩:=aeT.1 hh;refine(hxy ?_).elim;rw[<-hx,<-hy,<-hr,acO,acO,List.getElem?_append_left hil]
    refine cN hbl hal @xX hx hy ?_;refine ab hd ?_;exact hR.ro ⟨rfl,by rw[hp]⟩
  ·obtain rfl:i=a.length:=acN
   have hp:a.isPrefixOf b=true:=by
    rw[aeT,List.prefix_iff_eq_take];rw[List.take_length]at he;exact he
   refine aE hbl hal ?_;exact hR.ro ⟨rfl,by rw[hp]⟩
theorem Nt {α:Type} {p:α->Bool} {cs:List α} (d:α) (h:∀j,j<cs.length->p (cs.getD j d)=false):cs.findIdx? p=none:=by
 rw[List.findIdx?_eq_none_iff];intro c hc;obtain⟨j,hj,rfl⟩:=aeh hc;have:=h j hj;rw[acO,List.getElem?_eq_getElem hj]at this;exact this
theorem Nv {α:Type} {p:α->Bool} {cs:List α} (d:α) {i:Nat} (hi:i<cs.length) (h1:p (cs.getD i d)=true) (h:∀j,j<i->p (cs.getD j d)=false):cs.findIdx? p=some i:=by
 rw[List.findIdx?_eq_some_iff_getElem];rw[acO,List.getElem?_eq_getElem hi]at h1;refine⟨hi,h1,λj hj hh=>?_⟩;have:=h j hj;rw[acO,List.getElem?_eq_getElem acN]at this;simp[hh]at this
theorem HM {α:Type} {p:α->Bool} {cs:List α} (d:α) (h:∀j,j<cs.length->p (cs.getD j d)=true):cs.all p=true:=by
 rw[acZ];intro c hc;obtain⟨j,hj,rfl⟩:=aeh hc;have:=h j hj;rw[acO,List.getElem?_eq_getElem hj]at this;exact this
theorem H0 {α:Type} {p:α->Bool} {cs:List α} (d:α) {i:Nat} (hi:i<cs.length) (h1:p (cs.getD i d)=true):cs.any p=true:=by
 rw[List.any_eq_true];rw[acO,List.getElem?_eq_getElem hi]at h1;exact⟨_,adB hi,h1⟩
theorem HZ {α:Type} {p:α->Bool} {cs:List α} (d:α) (h:∀j,j<cs.length->p (cs.getD j d)=false):cs.any p=false:=by
 rw[List.any_eq_false];intro c hc;obtain⟨j,hj,rfl⟩:=aeh hc;have:=h j hj;rw[acO,List.getElem?_eq_getElem hj]at this;simp only[ad0]at this;rw[this];simp
theorem HL {α:Type} {p:α->Bool} {cs:List α} (d:α) {i:Nat} (hi:i<cs.length) (h1:p (cs.getD i d)=false):cs.all p=false:=by
 rw[List.all_eq_false];rw[acO,List.getElem?_eq_getElem hi]at h1;refine⟨_,adB hi,?_⟩;simp only[ad0]at h1;rw[h1];simp
set_option maxHeartbeats 1000000 in
theorem WE (cs:List (List Bool)) (b:List Bool) (hcs:cs.length<=100000) (hcl:∀c∈cs,c.length<=1000000) (hb:b.length<=1000000000) :
    ao Tryz.prog 240 [.ro 1 (bE cs),.ro 1 (cp b)] (.af [.int .i64 ((readL cs b).1:Nat),.int .i64 ((readL cs b).2.1:Nat),.int .i64 ((readL cs b).2.2:Nat)]):=by
 refine Cod.WG (λE R hN hR=>?_);have hbl:=kF b;have hcsl:=vZ cs
 have hgl:∀i,(cs.getD i []).length<=1000000:=by
  intro i;by_cases hi:i<cs.length
  ·rw[acO,List.getElem?_eq_getElem hi];exact hcl _ (adB hi)
  ·rw[acO,List.getElem?_eq_none acN];simp
 refine ab hcsl ?_
 refine aD hN (λq:Nat×Bool=>⟨[(0,.ro 1 (bE cs)),(1,.ro 1 (cp b)),(7,.bool q.2),(12,.ro 1 (bE cs)),(13,.int .i64 cs.length),(14,.int .i64 q.1)],[]⟩)
  (λq=>q.1<=cs.length/\(∀j,j<q.1->dA b (cs.getD j [])=false)/\(if q.2 then ∃j,j<q.1/\(cs.getD j []).isEmpty=false else ∀j,j<q.1->(cs.getD j []).isEmpty=true)) (λq=>cs.length-q.1) (0,false) (.le vV) ⟨acN,λj h=>by omega,λj h=>by simp only at h;omega⟩ ?_
 rintro⟨i,sm⟩ R1 ⟨hi,hno,hsm⟩ hR1;simp only at hi hno hsm;by_cases hil:i<cs.length
 ·have hg:=hgl i;by_cases h0:0<(cs.getD i []).length
  ·have hca:=si h0
   have hne:(cs.getD i []).isEmpty=false:=by cases hh:cs.getD i []with
    | nil=>rw[hh]at h0;simp at h0
    | cons=>rfl
   have hbg:=Fa b (cs.getD i []) hb acN;have hcb:=kF (cs.getD i []);have hhit:dA b (cs.getD i [])=(cs.getD i []).isPrefixOf b:=by unfold dA;rw[hne];rfl
   refine bV hcsl @o5 hca hcb ?_;refine ah hbg rfl rfl ?_
   cases hp:(cs.getD i []).isPrefixOf b with
   | true=>
    rw[hp]at hhit;have hr:readL cs b=(i,(cs.getD i []).length,0):=by unfold readL;rw[Nv [] hil hhit hno]
    rw[hr]at hR;refine ab hcb ?_
    exact hR.ro ⟨rfl,rfl⟩
   | false=>
    rw[hp]at hhit;refine wW ?_;refine hR1 (i+1,true) _ (by simp only;omega) ⟨by simp only;omega,λj hj=>?_,by simp only[if_true];exact⟨i,acN,hne⟩⟩ (.le vV);simp only at hj;by_cases hji:j=i
    ·rw[hji];exact hhit
    exact hno j acN
  ·have hci:cs.getD i []=[]:=afv.1 acN;have hca:cA (cs.getD i [])=.al:=by rw[hci];rfl
   refine bp hcsl @o5 hca ?_;refine hR1 (i+1,sm) _ (by simp only;omega) ⟨by simp only;omega,λj hj=>?_,?_⟩ (.le vV)
   ·simp only at hj;by_cases hji:j=i
    ·rw[hji,hci];rfl
    exact hno j acN
   ·cases sm with
    | true=>
     simp only[if_true]at hsm |-;obtain⟨j,h1,h2⟩:=hsm
     exact⟨j,acN,h2⟩
    | false=>
     intro j hj;simp only at hj;by_cases hji:j=i
     ·rw[hji,hci];rfl
     exact hsm j acN
 ·obtain rfl:i=cs.length:=acN;have hfn:=Nt (p:=dA b) [] hno;unfold readL at hR;rw[hfn]at hR;simp only at hR
  cases sm with
  | false=>
   have hae:cs.all (·.isEmpty)=true:=HM [] hsm;rw[hae,if_pos rfl]at hR;refine ab hcsl ?_
   exact hR.ro ⟨rfl,rfl⟩
  | true=>
   obtain⟨j,hj,hje⟩:=hsm;have hae:cs.all (·.isEmpty)=false:=HL [] hj hje;rw[hae,if_neg (by simp)]at hR;refine ab hcsl ?_
   refine aD hN (λi:Nat=>⟨[(1,.ro 1 (cp b)),(31,.ro 1 (bE cs)),(32,.int .i64 cs.length),(33,.int .i64 i)],[]⟩)
    (λi=>i<=cs.length/\∀j,j<i->(decide (b.length<(cs.getD j []).length)&&b.isPrefixOf (cs.getD j []))=false) (λi=>cs.length-i) 0 (.le vV) ⟨acN,λj h=>by omega⟩ ?_
   rintro i R2 ⟨hi,hno2⟩ hR2;by_cases hil:i<cs.length
   ·have hg:=hgl i
    have go:(decide (b.length<(cs.getD i []).length)&&b.isPrefixOf (cs.getD i []))=false->R2.ap ⟨[(1,.ro 1 (cp b)),(31,.ro 1 (bE cs)),(32,.int .i64 cs.length),(33,.int .i64 ((i:Int)+1))],[]⟩:=by
     intro h;refine hR2 (i+1) _ acN ⟨acN,λj hj=>?_⟩ (.le vV);by_cases hji:j=i
     ·rw[hji];exact h
     exact hno2 j acN
    by_cases hlt:b.length<(cs.getD i []).length
    ·have hca:=si (c:=cs.getD i []) acN;have hcb:=kF (cs.getD i []);have hbg:=Fa (cs.getD i []) b acN hb;refine cN hcsl @o5 hca hcb hbl ?_;refine gG ?_;refine eI (gq vV hbg vV rfl rfl ?_)
     cases hp:b.isPrefixOf (cs.getD i [])with
     | true=>
      rw[if_pos (H0 [] hil (by rw[hp,decide_eq_true hlt];rfl))]at hR;refine wW ?_
      exact hR.ro ⟨rfl,rfl⟩
     | false=>
      refine wW ?_;exact go (by rw[hp,afI])
    ·have hgo:=go (by rw[decide_eq_false hlt];rfl);by_cases h0:0<(cs.getD i []).length
     ·have hca:=si h0;have hcb:=kF (cs.getD i []);refine cN hcsl @o5 hca hcb hbl ?_;refine gG ?_;exact hgo
     ·have hci:cs.getD i []=[]:=afv.1 acN;have hca:cA (cs.getD i [])=.al:=by rw[hci];rfl
      refine bV hcsl @o5 hca hbl ?_;refine gG ?_;exact hgo
   ·obtain rfl:i=cs.length:=acN;rw[if_neg (by rw[HZ [] hno2];simp)]at hR;refine ab hcsl ?_;exact hR.ro ⟨rfl,rfl⟩
theorem E9 (n:Nat) (h:n<=10000000000000):ao Tryz.prog 200 [.int .i64 n] (.int .i64 (c6 n:Nat)):=by
 refine Cod.WA (λE R hN hR=>?_);have e:((n:Int)+7)/8*8=((c6 n:Nat):Int):=by unfold c6;omega
 refine ab e ?_;exact hR.ro ⟨rfl,rfl⟩
end Go.Proofs.YtoalcafkffmiiaaGreatDoor.Pk
namespace Go.Proofs.YtoalcafkffmiiaaGreatDoor.Cod
open Eng Eng.Kz
set_option maxRecDepth 100000
abbrev P1:=Kf.k2 60 Tryz.func235
abbrev Qb:AK:=pk (x:=Kc.code Tryz.prog Tryz.f231 61 [] (Kc.lr 1 [.tmp 2])) _
abbrev Qc:AK:=pk (x:=Qb.y.y.y.y.y.y) _
abbrev Qe:=Kf.k1 61 Tryz.func231
abbrev qx:AK:=pk (x:=Kc.code Tryz.prog Tryz.f233 62 [62081,62159] (Kc.lr 1 [.tmp 2,.tmp 3,.tmp 4])) _
abbrev Qj:AK:=pk (x:=qx.y.y.y.y.y.y.y.y.y.y) _
abbrev Df:AK:=pk (x:=qx.y.y.y.y.y.y.y.y.y.y.y) _
abbrev Dg:AK:=pk (x:=qx.y.y.y.y.y.y.y.y.y.y.x.x.x.y.x.y.y.y.y.y) _
abbrev Qk:AK:=pk (x:=qx.y.y.y.y.y.y) _
abbrev Ql:AK:=pk (x:=qx.y.y.y.y.y.y.y) _
abbrev Qn:=Kf.k1 62 Tryz.func233 [62081,62159]
abbrev P3:=Kf.k3 63 Tryz.func236
abbrev tt:AK:=pk (x:=Kc.code Tryz.prog Tryz.f215 64 [64010] (Kc.lr 1 [.tmp 2])) _
abbrev C9:AK:=pk (x:=tt.y.x.y.y.y.y.y.y.y.y.y.y) _
abbrev P4:AK:=pk (x:=tt.y.x.y.y.y.y.y.y.y.y.y.y.y.y.y) _
abbrev P5:AK:=pk (x:=tt.y.x.y.y.y.y.y.y.y.y.y.y.y.y.y.y.y.y) _
abbrev xt:AK:=pk (x:=tt.y.x.y.y.y.y.y.y) _
abbrev P8:=Kf.k1 64 Tryz.func215 [64010]
abbrev PO:=Kf.s3 65 Tryz.func180
abbrev PA:=Kf.s0 66 Tryz.func232
abbrev P0:=Kf.s0 67 Tryz.func247
abbrev PD:=Kf.s1 68 Tryz.func248
abbrev Po:=Kf.s1 69 Tryz.func249
abbrev WO:=Kf.k2 70 Tryz.func194
abbrev WY:=Kf.k2 71 Tryz.func195
abbrev W8:=Kf.k2 72 Tryz.func226
abbrev W5:=Kf.k2 73 Tryz.func223
abbrev W7:=Kf.k1 74 Tryz.func196
abbrev nH:AK:=pk (x:=Kc.code Tryz.prog Tryz.f199 75 [75172] (Kc.lr 1 [.tmp 2,.tmp 3])) _
abbrev WH:AK:=pk (x:=nH.y.y.y.y.y.y.y.y.y.y.y) _
abbrev Fb:AK:=pk (x:=nH.y.y.y.y.y.y.y.y.y.y.y.y) _
abbrev WI:AK:=pk (x:=nH.y.y.y.y.y.y.y.y.y.y.y.x.x.x.y.x.y.y.y) _
abbrev WJ:AK:=pk (x:=nH.y.y.y.y) _
abbrev WK:AK:=pk (x:=nH.y.y.y.y.y.y.y.y.y.y.y.x.x.x.y.x.y.y.x) _
abbrev Fc:AK:=pk (x:=nH.y.y.y.y.y.y.y) _
abbrev WL:AK:=pk (x:=nH.y.y.y.y.y.y.y.y) _
abbrev WN:=Kf.k1 75 Tryz.func199 [75172]
abbrev WZ:AK:=pk (x:=Kc.code Tryz.prog Tryz.f198 76 [] (Kc.lr 3 [])) _
abbrev W3:AK:=pk (x:=WZ.y.y.x.x.y.x.y.y.y.y.y.y.y.y.y.y) _
abbrev W4:=Kf.k3 76 Tryz.func198
abbrev WR:=Kf.s0 77 Tryz.func197
abbrev WX:=Kf.s0 78 Tryz.func225
abbrev Fe:AK:=pk (x:=Kc.code Tryz.prog Tryz.f145 79 [] (Kc.lr 0 [.tmp 6,.tmp 7,.tmp 8])) _
abbrev WS:AK:=pk (x:=Fe.y.y.y.x.x.x.y.x.y.y.x) _
abbrev WT:AK:=pk (x:=Fe.y.y.y.y) _
abbrev WV:=Kf.s3 79 Tryz.func145
abbrev N6:=Kf.s1 80 Tryz.func244
end Go.Proofs.YtoalcafkffmiiaaGreatDoor.Cod
namespace Go.Proofs.YtoalcafkffmiiaaGreatDoor.Pk
open Eng
set_option maxRecDepth 10000
def gl:Nat:=79038
def ve:Nat:=73035
attribute [go_sem] gl ve
def az (t:Bs) (most:Nat) (S:SS):HP:=[(gl,.var [.ro 1 (cp (bw t 0)),.int .i64 S.p,.sl ve 0 S.out.length,.int .i64 most,.int .i64 S.err]),(ve,.arr 1 (S.out.map ub))]
theorem aC {p:Prop} (h:p:=by simp(disch:=first | omega | (simp only[Lx];omega))only[go_sem,simprocAttr,az]):p:=h
theorem bz {a b:Prop} (k:b) (h:b->a:=by intro h;simp(disch:=first | omega | (simp only[Lx];omega))only[go_sem,simprocAttr,az];exact h):a:=h k
theorem bR {E0:Prop} {p:Prop} (e0:E0) (h:E0->p:=by intro e0;simp(disch:=first | omega | (simp only[Lx];omega))only[go_sem,simprocAttr,az,e0]):p:=h e0
theorem b5 {E0:Prop} {a b:Prop} (e0:E0) (k:b) (h:E0->b->a:=by intro e0 h;simp(disch:=first | omega | (simp only[Lx];omega))only[go_sem,simprocAttr,az,e0];exact h):a:=h e0 k
theorem Oj {E0:Prop} {a b:Prop} (e0:E0) (k:b) (h:E0->b->a:=by intro e0 h;(repeat(first | (with_reducible refine cC ?_) | (with_reducible refine cz ?_) | (with_reducible refine cB ?_))<;>simp(disch:=first | omega | (simp only[Lx];omega))only[go_sem,simprocAttr,az,e0]);exact h):a:=h e0 k
theorem GW {E0 E1:Prop} {p:Prop} (e0:E0) (e1:E1) (h:E0->E1->p:=by intro e0 e1;simp(disch:=first | omega | (simp only[Lx];omega))only[go_sem,simprocAttr,az,e0,e1]):p:=h e0 e1
theorem jz {E0 E1:Prop} {a b:Prop} (e0:E0) (e1:E1) (k:b) (h:E0->E1->b->a:=by intro e0 e1 h;simp(disch:=first | omega | (simp only[Lx];omega))only[go_sem,simprocAttr,az,e0,e1];exact h):a:=h e0 e1 k
theorem kr {E0 E1 E2:Prop} {a b:Prop} (e0:E0) (e1:E1) (e2:E2) (k:b) (h:E0->E1->E2->b->a:=by intro e0 e1 e2 h;simp(disch:=first | omega | (simp only[Lx];omega))only[go_sem,simprocAttr,az,e0,e1,e2];exact h):a:=h e0 e1 e2 k
theorem abx {E0 E1 E2 E3:Prop} {p:Prop} (e0:E0) (e1:E1) (e2:E2) (e3:E3) (h:E0->E1->E2->E3->p:=by intro e0 e1 e2 e3;simp(disch:=first | omega | (simp only[Lx];omega))only[go_sem,simprocAttr,az,e0,e1,e2,e3]):p:=h e0 e1 e2 e3
theorem zB {E0 E1 E2 E3:Prop} {a b:Prop} (e0:E0) (e1:E1) (e2:E2) (e3:E3) (k:b) (h:E0->E1->E2->E3->b->a:=by intro e0 e1 e2 e3 h;simp(disch:=first | omega | (simp only[Lx];omega))only[go_sem,simprocAttr,az,e0,e1,e2,e3];exact h):a:=h e0 e1 e2 e3 k
theorem u0 {E0 E1 E2 E3 E4:Prop} {a b:Prop} (e0:E0) (e1:E1) (e2:E2) (e3:E3) (e4:E4) (k:b) (h:E0->E1->E2->E3->E4->b->a:=by intro e0 e1 e2 e3 e4 h;simp(disch:=first | omega | (simp only[Lx];omega))only[go_sem,simprocAttr,az,e0,e1,e2,e3,e4];exact h):a:=h e0 e1 e2 e3 e4 k
theorem zC {E0 E1 E2 E3 E4 E5:Prop} {a b:Prop} (e0:E0) (e1:E1) (e2:E2) (e3:E3) (e4:E4) (e5:E5) (k:b) (h:E0->E1->E2->E3->E4->E5->b->a:=by intro e0 e1 e2 e3 e4 e5 h;simp(disch:=first | omega | (simp only[Lx];omega))only[go_sem,simprocAttr,az,e0,e1,e2,e3,e4,e5];exact h):a:=h e0 e1 e2 e3 e4 e5 k
structure bQ (t:Bs) (most:Nat) (S:SS):Prop where
 tl:t.length<=1000000
 ml:most<=1000000
 pl:S.p<=8*t.length
 ol:S.out.length<=most
theorem bQ.mv {t:Bs} {most:Nat} {S S':SS} (h:bQ t most S) (k:Mv t most S S'):bQ t most S':=⟨h.tl,h.ml,k.q h.pl,k.o h.ol⟩
theorem sc (t:Bs):(cp (bw t 0)).length=8*t.length:=by rw[kF,lO];omega
theorem yI (t:Bs) (p:Nat):(bw t 0).drop p=bw t p:=by
 apply aeQ;intro j;rw[List.getElem?_drop];unfold bw;rw[List.getElem?_map,List.getElem?_map];by_cases h:p+j<8*t.length
 ·rw[List.getElem?_range acN,List.getElem?_range acN];simp only[adm,aeo]
 ·rw[List.getElem?_eq_none (by simp;omega),List.getElem?_eq_none (by simp;omega)];rfl
theorem fZ (t:Bs) (most:Nat) (S:SS) (e:Nat):Eng.Spec Tryz.prog 194 (az t most S) [.aa gl 0,.int .i64 e] (λh' v ar=>h'=az t most (ct e S)/\v=.af []/\ar=[.aa gl 0,.int .i64 e]):=by
 refine Cod.WO (λE R hN hR=>?_);unfold ct at hR;by_cases h:S.err=0
 ·rw[if_pos h]at hR;refine b5 h ?_;exact hR.le aC ⟨rfl,rfl,rfl⟩
 ·rw[if_neg h]at hR;have hi:¬((S.err:Int)=0):=acN;refine b5 hi ?_;exact hR.le aC ⟨rfl,rfl,rfl⟩
theorem jf (t:Bs) (most:Nat) (S:SS) (h:bQ t most S) (n:Nat) (hn:n<=31):Eng.Spec Tryz.prog 195 (az t most S) [.aa gl 0,.int .i64 n]
    (λh' v ar=>h'=az t most (aF t n S).2/\v=.int .i64 ((aF t n S).1:Nat)/\ar=[.aa gl 0,.int .i64 n]):=by
 refine Cod.WY (λE R hN hR=>?_);obtain⟨h1,h2,h3,h4⟩:=h;have hbl:=sc t;by_cases he:S.err=0
 ·by_cases hl:8*t.length<S.p+n
  ·rw[mo he hl]at hR;refine jz he hbl ?_;refine aI (az t most S) (fZ t most S 6) (bR he) nofun ?_;rintro h' v ar ⟨rfl,rfl,rfl⟩;refine⟨aC,rfl,?_⟩;rw[fW he];refine bz ?_;exact hR.le aC ⟨rfl,rfl,rfl⟩
  ·rw[iG he acN]at hR;have hnb:=Eg t S.p n acN;have hnl:=iE t S.p n;have hn2:2^n<=2^31:=acV (by decide) hn;have hr3:=Wy ((bw t S.p).take n) (by rw[acS];omega);rw[hnb]at hr3;have es:S.p+n-S.p=n:=acN;refine u0 he hbl @mS @yI es ?_;refine ah hr3 rfl rfl ?_;refine wW ?_;exact hR.le aC ⟨rfl,rfl,rfl⟩
 ·rw[nB he]at hR;have hi:¬((S.err:Int)=0):=acN;refine b5 hi ?_;exact hR.le aC ⟨rfl,rfl,rfl⟩
theorem yw (t:Bs) (most:Nat) (S:SS) (h:bQ t most S) (l:List Nat) (hl:∀n∈l,n<=15) (hll:l.length<=320):Eng.Spec Tryz.prog 226 (az t most S) [.aa gl 0,.ro 1 (bE (aM l))]
    (λh' v ar=>h'=az t most (aQ t l S).2/\v=.int .i64 ((aQ t l S).1:Nat)/\ar=[.aa gl 0,.ro 1 (bE (aM l))]):=by
 refine Cod.W8 (λE R hN hR=>?_);obtain⟨h1,h2,h3,h4⟩:=h;have hbl:=sc t;by_cases he:S.err=0
 ·have hcl:(aM l).length=l.length:=by simp[aM]
  have hr4:=WE (aM l) ((bw t S.p).take 16) acN (λc hc=>by
   obtain⟨s,_,rfl⟩:=adN.1 hc;rw[mb];have:=mi hl s
   omega) (by rw[acS];omega)
  rw[XS hl]at hr4;have hrb:=pg (aM l) (bw t S.p);rw[lO,hcl]at hrb
  have em:(bw t S.p).take (min (S.p+16) (8*t.length)-S.p)=(bw t S.p).take 16:=by
   by_cases hh:S.p+16<=8*t.length
   ·rw[adk hh,show S.p+16-S.p=16 by omega]
   ·rw[afc acN,acP (by rw[lO];omega),acP (by rw[lO];omega)]
  have emi:min ((S.p:Int)+16) ((8*t.length:Nat):Int)=((min (S.p+16) (8*t.length):Nat):Int):=acN;by_cases hr:(readL (aM l) (bw t S.p)).2.2=0
  ·rw[rA he hr]at hR;obtain⟨g1,g2,g3⟩:=hrb hr;rw[hr]at hr4;generalize readL (aM l) (bw t S.p)=rr at *
   refine zC he hbl @mS @yI emi em ?_;refine ah hr4 rfl rfl ?_;refine wW ?_;exact hR.le aC ⟨rfl,rfl,rfl⟩
  ·rw[rz he hr]at hR;have hi:¬(((readL (aM l) (bw t S.p)).2.2:Int)=0):=acN;generalize readL (aM l) (bw t S.p)=rr at *
   refine zC he hbl @mS @yI emi em ?_;refine ah hr4 rfl rfl ?_;refine ab hi ?_;refine aI (az t most S) (fZ t most S rr.2.2) (bR he) nofun ?_;rintro h' v ar ⟨rfl,rfl,rfl⟩;refine⟨aC,rfl,?_⟩;rw[fW he];refine bz ?_;exact hR.le aC ⟨rfl,rfl,rfl⟩
 ·rw[Gr he]at hR;have hi:¬((S.err:Int)=0):=acN;refine b5 hi ?_;exact hR.le aC ⟨rfl,rfl,rfl⟩
theorem yv (t:Bs) (most:Nat) (S:SS) (h:bQ t most S) (c:UInt8):Eng.Spec Tryz.prog 223 (az t most S) [.aa gl 0,.int .u8 (c.toNat:Int)]
    (λh' v ar=>h'=az t most (eB most c S)/\v=.af []/\ar=[.aa gl 0,.int .u8 (c.toNat:Int)]):=by
 refine Cod.W5 (λE R hN hR=>?_);obtain⟨h1,h2,h3,h4⟩:=h;unfold eB at hR;have hc:=c.toNat_lt;by_cases he:S.err=0
 ·rw[if_neg (by simpa using he)]at hR;by_cases hf:most<=S.out.length
  ·rw[if_pos hf]at hR;refine jz he @Eng.jn ?_;refine gG ?_;refine aI (az t most S) (fZ t most S 2) (bR he) nofun ?_;rintro h' v ar ⟨rfl,rfl,rfl⟩;refine⟨aC,rfl,?_⟩;rw[fW he];refine bz ?_;refine dY hN ?_;refine wW ?_;exact hR.le aC ⟨rfl,rfl,rfl⟩
  ·rw[if_neg hf]at hR;refine jz he @Eng.jn ?_;refine gG ?_;refine dY hN ?_;refine ab he ?_;refine hR.le ?_ ⟨rfl,rfl,rfl⟩;refine b5 he ?_;rw[ae6]
 ·rw[if_pos he]at hR;have hi:¬((S.err:Int)=0):=acN;refine jz hi @Eng.jn ?_;refine Oj hi ?_;refine dY hN ?_;refine ab hi ?_;exact hR.le aC ⟨rfl,rfl,rfl⟩
theorem yA (t:Bs) (most n:Nat) (S:SS):rawS t most (n+1) S=if S.err≠0 then S else rawS t most n (eB most (UInt8.ofNat (aF t 8 S).1) (aF t 8 S).2):=rfl
theorem qJ {t:Bs} {most n:Nat} {S:SS} (h:bQ t most S):bQ t most (aF t n S).2:=h.mv fY
theorem Ek {c:Nat} (h:c<256):(UInt8.ofNat c).toNat=c:=by rw[aeb];omega
theorem W6 (t:Bs) (most:Nat) (S:SS) (h:bQ t most S):Eng.Spec Tryz.prog 196 (az t most S) [.aa gl 0]
    (λh' v ar=>h'=az t most (fO t most S)/\v=.af []/\ar=[.aa gl 0]):=by
 refine Cod.W7 (λE R hN hR=>?_);unfold fO at hR;simp only at hR;have hup:=E9 S.p (by have:=h.pl;have:=h.tl;omega);have h1:bQ t most (jP S):=h.mv D8;have hp1:(jP S).p=c6 S.p:=rfl;have ho1:(jP S).out=S.out:=rfl;have he1:(jP S).err=S.err:=rfl;refine bz ?_;refine ah hup rfl rfl ?_;refine wW ?_;generalize hS1:jP S=S1 at *
 rw[<-hp1,<-ho1,<-he1];refine aI (az t most S1) (jf t most S1 h1 16 acN) aC nofun ?_;rintro h' v ar ⟨rfl,rfl,rfl⟩;have h2:=qJ (n:=16) h1;have hn1:=gF (t:=t) (S:=S1) (n:=16);generalize aF t 16 S1=a at *
 refine⟨aC,rfl,?_⟩;refine bz ?_;refine aI (az t most a.2) (jf t most a.2 h2 16 acN) aC nofun ?_;rintro h' v ar ⟨rfl,rfl,rfl⟩;have h3:=qJ (n:=16) h2;have hn2:=gF (t:=t) (S:=a.2) (n:=16);generalize aF t 16 a.2=b at *
 refine⟨aC,rfl,?_⟩;refine bz ?_;generalize hS4:(if a.1+b.1≠65535 then ct 3 b.2 else b.2)=S4 at hR
 have h4:bQ t most S4:=by
  rw[<-hS4];split;exact h3.mv kS;exact h3
 refine cf hN (λ_:Unit=>⟨[(0,.aa 79038 0),(2,.int .i64 (a.1:Nat)),(2000000,.aa 79038 0)],az t most S4⟩) (λ_=>True) (λR1 hR1=>?_) (λ_ _=>?_)
 ·by_cases he:b.2.err=0
  ·by_cases hsum:a.1+b.1=65535
   ·rw[if_neg (by simpa using hsum)]at hS4;have hsi:(a.1:Int)+(b.1:Int)=65535:=acN;refine aE he hsi ?_;refine cO he hsi ?_;exact hR1 () _ trivial (.le (by rw[<-hS4];exact bR he))
   ·rw[if_pos hsum]at hS4;have hsi:¬((a.1:Int)+(b.1:Int)=65535):=acN;refine ab he ?_;refine cO he hsi ?_;refine aI (az t most b.2) (fZ t most b.2 3) (bR he) nofun ?_;rintro h' v ar ⟨rfl,rfl,rfl⟩;refine⟨aC,rfl,?_⟩;rw[hS4];refine bz ?_;exact hR1 () _ trivial (.le aC)
  ·have hi:¬((b.2.err:Int)=0):=acN;have hS:S4=b.2:=by rw[<-hS4];unfold ct;rw[if_neg he,ite_self]
   refine ab hi ?_;refine aV hi ?_;exact hR1 () _ trivial (.le (by rw[hS];exact aC))
 ·refine wW ?_;refine aD hN (λq:Nat×SS=>⟨[(0,.aa 79038 0),(2,.int .i64 (a.1:Nat)),(4,.int .i64 q.1),(2000000,.aa 79038 0)],az t most q.2⟩) (λq=>q.1<=a.1/\bQ t most q.2/\rawS t most (a.1-q.1) q.2=rawS t most a.1 S4) (λq=>a.1-q.1) (0,S4) (.le aC) ⟨acN,h4,rfl⟩ ?_;rintro⟨i,S⟩ R1 ⟨hi,hok,hraw⟩ hR1;simp only at hi hok hraw;rw[<-hraw]at hR;by_cases hlt:i<a.1
  ·obtain⟨k,hk⟩:∃k,a.1-i=k+1:=⟨a.1-i-1,acN⟩;rw[hk,yA]at hraw hR;by_cases he:S.err=0
   ·rw[if_neg (by simpa using he)]at hraw hR;refine b5 he ?_;refine aV he ?_;refine aI (az t most S) (jf t most S hok 8 acN) (bR he) nofun ?_;rintro h' v ar ⟨rfl,rfl,rfl⟩;have hok2:=qJ (n:=8) hok;have hn8:=gF (t:=t) (S:=S) (n:=8);generalize aF t 8 S=c at *
    have hof:=Ek hn8;have hput:=yv t most c.2 hok2 (UInt8.ofNat c.1);rw[hof]at hput;refine⟨aC,rfl,?_⟩;refine bz ?_;refine aI (az t most c.2) hput aC nofun ?_;rintro h' v ar ⟨rfl,rfl,rfl⟩;refine⟨aC,rfl,?_⟩;refine bz ?_;exact hR1 (i+1,eB most (UInt8.ofNat c.1) c.2) _ (by simp only;omega) ⟨by simp only;omega,hok2.mv mj,by simp only;rw[show a.1-(i+1)=k by omega];exact hraw⟩ (.le aC)
   ·rw[if_pos he]at hraw hR;have hi2:¬((S.err:Int)=0):=acN;refine bz ?_;refine aV hi2 ?_;exact hR.le aC ⟨rfl,rfl,rfl⟩
  ·rw[show a.1-i=0 by omega]at hR;refine bz ?_;refine gG ?_;exact hR.le (by simp(disch:=omega)only[go_sem,simprocAttr,az,rawS]) ⟨rfl,rfl,rfl⟩
open Eng
set_option maxRecDepth 10000
def bI (f:Nat->Nat) (n:Nat):List Nat:=(List.range n).map f
theorem jj (f:Nat->Nat) (n:Nat):(bI f n).length=n:=by simp[bI]
theorem mG (f:Nat->Nat) (n:Nat):bI f (n+1)=bI f n++[f n]:=by simp[bI,ael]
theorem pB (f:Nat->Nat):bI f 0=[]:=(rfl)
theorem uY (f:Nat->Nat) {n i:Nat} (h:i<n):(bI f n).getD i 0=f i:=by simp[bI,acO,h]
theorem il {xs:List Nat}:aB (aj xs) 0 xs.length=aj xs:=by simp[aB,aj,acP]
def fixF (i:Nat):Nat:=if 256<=i/\i<280 then 7 else if 144<=i/\i<256 then 9 else 8
theorem Cf:bI fixF 288=fq:=by decide +kernel
theorem Ce:bI (λ_=>5) 32=fp:=by decide +kernel
theorem kH:(∀n∈fq,n<=15)/\fq.length=288/\bx fq=true:=by decide +kernel
theorem kG:(∀n∈fp,n<=15)/\fp.length=32/\bx fp=true:=by decide +kernel
set_option maxHeartbeats 1000000 in
theorem WQ:ao Tryz.prog 197 [] (.af [.ro 1 (aj fq),.ro 1 (aj fp)]):=by
 refine Cod.WR (λE R hN hR=>?_);refine wW ?_;refine aD hN (λi:Nat=>⟨[(2,.sl 77007 0 i),(3,.sl 77008 0 0),(4,.int .i64 i)],[(77007,.arr 1 (aj (bI fixF i))),(77008,.arr 1 [])]⟩) (λi=>i<=288) (λi=>288-i) 0 (.le (jQ @pB @kl)) acN ?_;rintro i R1 hi hR1;have hul:=jj fixF i;have hnl:=bL (bI fixF i);by_cases hlt:i<288
 ·have hus:=mG fixF i;refine wW ?_;refine cf hN (λ_:Unit=>⟨[(2,.sl 77007 0 i),(3,.sl 77008 0 0),(4,.int .i64 i),(5,.int .i64 (if 144<=i/\i<256 then 9 else 8:Nat))],[(77007,.arr 1 (aj (bI fixF i))),(77008,.arr 1 [])]⟩) (λ_=>True) (λR2 hR2=>?_) (λ_ _=>?_)
  ·by_cases h1:144<=i
   ·by_cases h2:i<256
    ·refine wW ?_;refine gG ?_;exact hR2 () _ trivial (.le (by rw[if_pos ⟨h1,h2⟩];exact vV))
    ·refine wW ?_;refine gG ?_;exact hR2 () _ trivial (.le (by rw[if_neg acN];exact vV))
   ·refine wW ?_;refine gG ?_;exact hR2 () _ trivial (.le (by rw[if_neg acN];exact vV))
  ·by_cases h1:256<=i
   ·by_cases h2:i<280
    ·have hf:fixF i=7:=if_pos ⟨h1,h2⟩;rw[hf]at hus;refine bp @ff @fx @jO ?_;exact hR1 (i+1) _ acN acN (.le (by rw[hus,<-fL];exact vV))
    ·have hf:fixF i=8:=by unfold fixF;rw[if_neg acN,if_neg acN]
     rw[hf]at hus;rw[if_neg acN];refine bp @ff @fx @jO ?_;exact hR1 (i+1) _ acN acN (.le (by rw[hus,<-fL];exact vV))
   ·have hf:fixF i=if 144<=i/\i<256 then 9 else 8:=by unfold fixF;rw[if_neg acN]
    rw[hf]at hus;refine wW ?_;refine gy @ff @fx @jO ?_;exact hR1 (i+1) _ acN acN (.le (by rw[hus,<-fL];exact vV))
 ·obtain rfl:i=288:=acN;refine wW ?_;refine aD hN (λi:Nat=>⟨[(2,.sl 77007 0 288),(3,.sl 77008 0 i),(6,.int .i64 i)],[(77007,.arr 1 (aj (bI fixF 288))),(77008,.arr 1 (aj (bI (λ_=>5) i)))]⟩) (λi=>i<=32) (λi=>32-i) 0 (.le (jQ @pB @kl)) acN ?_;rintro i R2 hi hR2;have hul2:=jj (λ_=>5) i;have hnl2:=bL (bI (λ_=>5) i);by_cases hlt:i<32
  ·have hus:=mG (λ_=>5) i;refine bp @ff @fx @jO ?_;exact hR2 (i+1) _ acN acN (.le (by rw[hus,<-fL];exact vV))
  ·obtain rfl:i=32:=acN;rw[Cf]at *
   rw[Ce]at *
   have e1:aB (aj fq) 0 288=aj fq:=by rw[<-kH.2.1];exact il
   have e2:aB (aj fp) 0 32=aj fp:=by rw[<-kG.2.1];exact il
   refine wW ?_;refine hR.wk (h':=[]) (r':=.af [.ro 1 (aj fq),.ro 1 (aj fp)]) (ar':=[]) rfl (.bj 77007 (.bj 77008 (.le (jQ e1 e2)))) ⟨rfl,rfl⟩
def jJ (i:Nat):Nat:=if i<8 then 3+i else 3+(4+i%4)*2^(i/4-1)
def ja (i:Nat):Nat:=if i<8 then 0 else i/4-1
def jt (i:Nat):Nat:=if i<4 then 1+i else 1+(2+i%2)*2^(i/2-1)
def iV (i:Nat):Nat:=if i<4 then 0 else i/2-1
theorem Sz:∀i,i<28->jJ (i+1)=jJ i+2^ja i/\jJ i=(bh i).1/\ja i=(bh i).2/\jJ i<=300/\ja i<=8:=by decide +kernel
theorem L6:∀i,i<30->jt (i+1)=jt i+2^iV i/\jt i=(cq i).1/\iV i=(cq i).2/\jt i<=40000/\iV i<=15/\1<=jt i:=by decide +kernel
def fJ:List Nat:=bI (λi=>(bh i).1) 29
def fK:List Nat:=bI (λi=>(bh i).2) 29
def iA:List Nat:=bI (λi=>(cq i).1) 30
def iB:List Nat:=bI (λi=>(cq i).2) 30
theorem SA:bI jJ 28++[258]=fJ/\bI ja 28++[0]=fK/\bI jt 30=iA/\bI iV 30=iB:=by decide +kernel
theorem Er (k:Nat) (h:k<=30):IntKind.i64.wrap (1*2^min k 64)=((2^k:Nat):Int):=by
 have hk:2^k<=2^30:=acV (by decide) h;rw[adk acN,show((1:Int)*2^k)=((2^k:Nat):Int)by rw[Int.one_mul];push_cast;rfl];generalize 2^k=q at hk |-;exact eE acN
set_option maxHeartbeats 2000000 in
theorem WW:ao Tryz.prog 225 [] (.af [.ro 1 (aj fJ),.ro 1 (aj fK),.ro 1 (aj iA),.ro 1 (aj iB)]):=by
 refine Cod.WX (λE R hN hR=>?_);refine wW ?_;refine aD hN (λi:Nat=>⟨[(4,.sl 78013 0 i),(5,.sl 78014 0 i),(6,.int .i64 (jJ i:Nat)),(7,.int .i64 i)],[(78013,.arr 1 (aj (bI jJ i))),(78014,.arr 1 (aj (bI ja i)))]⟩) (λi=>i<=28) (λi=>28-i) 0 (.le (by simp(disch:=omega)only[go_sem,simprocAttr,pB,kl];rfl)) acN ?_;rintro i R1 hi hR1;have hul:=jj jJ i;have hul2:=jj ja i;have hnl:=bL (bI jJ i);have hnl2:=bL (bI ja i);by_cases hlt:i<28
 ·obtain⟨t1,_,_,t4,t5⟩:=Sz i hlt;have hus:=mG jJ i;have hus2:=mG ja i;have hsh:=Er (ja i) acN;have hpk:2^ja i<=2^8:=acV (by decide) t5;refine wW ?_;refine cf hN (λ_:Unit=>⟨[(4,.sl 78013 0 i),(5,.sl 78014 0 i),(6,.int .i64 (jJ i:Nat)),(7,.int .i64 i),(8,.int .i64 (ja i:Nat))],[(78013,.arr 1 (aj (bI jJ i))),(78014,.arr 1 (aj (bI ja i)))]⟩) (λ_=>True) (λR2 hR2=>?_) (λ_ _=>?_)
  ·by_cases h1:8<=i
   ·have hk:ja i=i/4-1:=if_neg acN;have e4:(i:Int)/4-1=((i/4-1:Nat):Int):=acN;refine ab e4 ?_;exact hR2 () _ trivial (.le (by rw[hk];exact vV))
   ·have hk:ja i=0:=if_pos acN;refine wW ?_;exact hR2 () _ trivial (.le (by rw[hk];exact vV))
  ·refine bV @ff @fx @jO hsh ?_;exact hR1 (i+1) _ acN acN (.le (by rw[hus,hus2,<-fL,<-fL,t1];exact vV))
 ·obtain rfl:i=28:=acN;obtain⟨w1,w2,w3,w4⟩:=SA;have hl1:fJ.length=29:=jj _ _;have hl2:fK.length=29:=jj _ _;refine bp @ff @fx @jO ?_;rw[show(AV.int .i64 258)=.int .i64 ((258:Nat):Int)from rfl,show(AV.int .i64 0)=.int .i64 ((0:Nat):Int)from rfl,fL,fL,w1,w2];have hn1:=bL fJ;have hn2:=bL fK;refine aD hN (λi:Nat=>⟨[(4,.sl 78013 0 29),(5,.sl 78014 0 29),(6,.int .i64 (jt i:Nat)),(9,.sl 78042 0 i),(10,.sl 78043 0 i),(11,.int .i64 i)],[(78013,.arr 1 (aj fJ)),(78014,.arr 1 (aj fK)),(78042,.arr 1 (aj (bI jt i))),(78043,.arr 1 (aj (bI iV i)))]⟩) (λi=>i<=30) (λi=>30-i) 0 (.le (by simp(disch:=omega)only[go_sem,simprocAttr,pB,kl];rfl)) acN ?_;rintro i R2 hi hR2;have hul:=jj jt i;have hul2:=jj iV i;have hnl:=bL (bI jt i);have hnl2:=bL (bI iV i);by_cases hlt:i<30
  ·obtain⟨t1,_,_,t4,t5,_⟩:=L6 i hlt;have hus:=mG jt i;have hus2:=mG iV i;have hsh:=Er (iV i) acN;have hpk:2^iV i<=2^15:=acV (by decide) t5;refine wW ?_;refine cf hN (λ_:Unit=>⟨[(4,.sl 78013 0 29),(5,.sl 78014 0 29),(6,.int .i64 (jt i:Nat)),(9,.sl 78042 0 i),(10,.sl 78043 0 i),(11,.int .i64 i),(12,.int .i64 (iV i:Nat))],[(78013,.arr 1 (aj fJ)),(78014,.arr 1 (aj fK)),(78042,.arr 1 (aj (bI jt i))),(78043,.arr 1 (aj (bI iV i)))]⟩) (λ_=>True) (λR3 hR3=>?_) (λ_ _=>?_)
   ·by_cases h1:4<=i
    ·have hk:iV i=i/2-1:=if_neg acN;have e4:(i:Int)/2-1=((i/2-1:Nat):Int):=acN;refine ab e4 ?_;exact hR3 () _ trivial (.le (by rw[hk];exact vV))
    ·have hk:iV i=0:=if_pos acN;refine wW ?_;exact hR3 () _ trivial (.le (by rw[hk];exact vV))
   ·refine bV @ff @fx @jO hsh ?_;exact hR2 (i+1) _ acN acN (.le (by rw[hus,hus2,<-fL,<-fL,t1];exact vV))
  ·obtain rfl:i=30:=acN;rw[w3]at *
   rw[w4]at *
   have e1:aB (aj fJ) 0 29=aj fJ:=by rw[<-hl1];exact il
   have e2:aB (aj fK) 0 29=aj fK:=by rw[<-hl2];exact il
   have e3:aB (aj iA) 0 30=aj iA:=by rw[<-hul];exact il
   have e4:aB (aj iB) 0 30=aj iB:=by rw[<-hul2];exact il
   refine wW ?_;exact hR.wk (h':=[]) (r':=.af [.ro 1 (aj fJ),.ro 1 (aj fK),.ro 1 (aj iA),.ro 1 (aj iB)]) (ar':=[]) rfl (.bj 78013 (.bj 78014 (.bj 78042 (.bj 78043 (.le (GY e1 e2 e3 e4)))))) ⟨rfl,rfl⟩
theorem Ao (most back n:Nat) (S:SS):backS most back (n+1) S=if S.err≠0 then S else backS most back n (eB most (S.out.getD (S.out.length-back) 0) S):=rfl
theorem Jm {most back:Nat} {S:SS} (h:S.err≠0):∀n,backS most back n S=S
 | 0=>rfl
 | n+1=>by rw[Ao,if_pos h]
theorem EB {t:Bs} {most:Nat} {l d:List Nat} {S:SS} (h:S.err≠0):dW t most l d S=S:=uh _ h
theorem U7 {t:Bs} {most:Nat} {l d:List Nat} {S:SS} (h0:S.p<=8*t.length) (h:S.err=0):dW t most l d S=if(fE t most l d S).1 then(fE t most l d S).2 else dW t most l d (fE t most l d S).2:=by
 rw[EC h0,if_neg (by simpa using h)]
def tK (t:Bs) (S:SS):Nat:=if S.err=0 then 8*t.length+1-S.p else 0
theorem DV {t:Bs} {most:Nat} {S S':SS} (h:bQ t most S) (he:S.err=0) (k:S'.err≠0\/S.p<S'.p):tK t S'<tK t S:=by
 have:=h.pl;unfold tK;rw[if_pos he];split
 ·rcases k with k | k;exact absurd (by assumption) k;omega
 omega
theorem Ov (S:SS) (i:Nat) (h:i<S.out.length):nth (S.out.map ub) i=.int .u8 ((S.out.getD i 0).toNat:Int):=by
 simp[nth,ub,acO,h]
set_option maxHeartbeats 4000000 in
theorem Ff (t:Bs) (most:Nat) (S0:SS) (h0:bQ t most S0) (l d:List Nat) (hl:∀n∈l,n<=15) (hll:l.length<=320) (hd:∀n∈d,n<=15) (hdl:d.length<=320) :
    Eng.Spec Tryz.prog 198 (az t most S0) [.aa gl 0,.ro 1 (aj l),.ro 1 (aj d)] (λh' v ar=>h'=az t most (dW t most l d S0)/\v=.af []/\ar=[.aa gl 0,.ro 1 (aj l),.ro 1 (aj d)]):=by
 refine Cod.W4 (λE R hN hR=>?_);have hc1:=yu l hl hll;have hc2:=yu d hd hdl;have hl1:fJ.length=29:=jj _ _;have hl2:fK.length=29:=jj _ _;have hl3:iA.length=30:=jj _ _;have hl4:iB.length=30:=jj _ _;have hn1:=bL fJ;have hn2:=bL fK;have hn3:=bL iA;have hn4:=bL iB;refine wW ?_;refine ah hc1 rfl rfl ?_;refine wW ?_;refine ah hc2 rfl rfl ?_;refine wW ?_;refine ah WW rfl rfl ?_;refine wW ?_;generalize hF:dW t most l d S0=F at hR;have fin:∀S1,S1=F->R (az t most S1) (.af []) [.aa 79038 0,.ro 1 (aj l),.ro 1 (aj d)]:=λS1 e=>hR.le (by rw[e];exact aC) ⟨rfl,rfl,rfl⟩
 refine aD hN (λS:SS=>⟨[(0,.aa 79038 0),(6,.ro 1 (bE (aM l))),(7,.ro 1 (bE (aM d))),(8,.ro 1 (aj fJ)),(9,.ro 1 (aj fK)),(10,.ro 1 (aj iA)),(11,.ro 1 (aj iB)),(2000000,.aa 79038 0),(2000001,.ro 1 (aj l)),(2000002,.ro 1 (aj d))],az t most S⟩)
  (λS=>bQ t most S/\dW t most l d S=F) (λS=>tK t S) S0 (.le aC) ⟨h0,hF⟩ ?_
 rintro S R1 ⟨hok,hpk⟩ hR1;by_cases he:S.err=0
 ·have hpk0:=hpk;rw[U7 hok.pl he]at hpk;have hsu:=Gl (t:=t) (most:=most) (l:=l) (d:=d) he;have hms:=o0 (t:=t) (most:=most) (l:=l) (d:=d) (S:=S);have hst:fE t most l d S=if(aQ t l S).2.err≠0 then(true,(aQ t l S).2)else if(aQ t l S).1=256 then(true,(aQ t l S).2)else if(aQ t l S).1<256 then(false,eB most (UInt8.ofNat (aQ t l S).1) (aQ t l S).2)else(false,dX t most d (aQ t l S).1 (aQ t l S).2):=rfl
  have hsl:=uS (t:=t) (l:=l) he;refine b5 he ?_;refine aI (az t most S) (yw t most S hok l hl hll) (bR he) nofun ?_;rintro h' v ar ⟨rfl,rfl,rfl⟩;have hok2:bQ t most (aQ t l S).2:=hok.mv lG;generalize aQ t l S=a at *
  refine⟨aC,rfl,?_⟩;by_cases hae:a.2.err=0
  ·obtain⟨hup,hlt⟩:=hsl hae;rw[if_neg (by simpa using hae)]at hst;by_cases h256:a.1=256
   ·rw[if_pos h256]at hst;rw[hst]at hpk;simp only[if_true]at hpk;refine jz hae h256 ?_;refine cO hae h256 ?_;have:=fin a.2 hpk;simp only[az,hae]at this;simp(disch:=omega)only[go_sem,simprocAttr]at this;exact this
   ·rw[if_neg h256]at hst;have hi256:¬((a.1:Int)=256):=acN;by_cases hlit:a.1<256
    ·rw[if_pos hlit]at hst;rw[hst]at hpk hsu;simp only[ac5,if_false]at hpk hsu;have hput:=yv t most a.2 hok2 (UInt8.ofNat a.1);rw[Ek hlit]at hput;refine b5 hae ?_;refine cO hae hi256 ?_;refine aI (az t most a.2) hput (bR hae) nofun ?_;rintro h' v ar ⟨rfl,rfl,rfl⟩;refine⟨aC,rfl,?_⟩;refine bz ?_;refine hR1 (eB most (UInt8.ofNat a.1) a.2) _ (DV hok he ?_) ⟨hok2.mv mj,hpk⟩ (.le aC);by_cases hpe:(eB most (UInt8.ofNat a.1) a.2).err=0;exact .inr (hsu hpe);exact .inl hpe
    ·rw[if_neg hlit]at hst;rw[hst]at hpk hsu;simp only[ac5,if_false]at hpk hsu
     have next:∀S' st',bQ t most S'->S'=dX t most d a.1 a.2->Wk st' ⟨[(0,.aa 79038 0),(6,.ro 1 (bE (aM l))),(7,.ro 1 (bE (aM d))),(8,.ro 1 (aj fJ)),(9,.ro 1 (aj fK)),(10,.ro 1 (aj iA)),(11,.ro 1 (aj iB)),(2000000,.aa 79038 0),(2000001,.ro 1 (aj l)),(2000002,.ro 1 (aj d))],az t most S'⟩->R1.ap st':=by
      intro S' st' ho e hw;refine hR1 S' _ (DV hok he ?_) ⟨ho,by rw[e];exact hpk⟩ hw;rw[e];by_cases hpe:(dX t most d a.1 a.2).err=0;exact .inr (hsu hpe);exact .inl hpe
     have stop:∀S',S'=dX t most d a.1 a.2->S'.err≠0->R (az t most S') (.af []) [.aa 79038 0,.ro 1 (aj l),.ro 1 (aj d)]:=λS' e h=>fin S' (by rw[<-e,EB h]at hpk;exact hpk);refine b5 hae ?_;refine cO hae hi256 ?_;by_cases h285:285<a.1
     ·have hrep:ct 3 a.2=dX t most d a.1 a.2:=by unfold dX;rw[if_pos h285]
      have:=stop _ hrep (j9 acN);simp only[az]at this;simp(disch:=omega)only[go_sem,simprocAttr]at this;refine wW ?_;refine aI (az t most a.2) (fZ t most a.2 3) (bR hae) nofun ?_;rintro h' v ar ⟨rfl,rfl,rfl⟩;refine⟨aC,rfl,?_⟩;refine bz ?_;exact this
     ·have hrep:dX t most d a.1 a.2=if(aQ t d (aF t (bh (a.1-257)).2 a.2).2).2.err≠0 then(aQ t d (aF t (bh (a.1-257)).2 a.2).2).2 else if 29<(aQ t d (aF t (bh (a.1-257)).2 a.2).2).1 then ct 3 (aQ t d (aF t (bh (a.1-257)).2 a.2).2).2 else
          (if(aF t (cq (aQ t d (aF t (bh (a.1-257)).2 a.2).2).1).2 (aQ t d (aF t (bh (a.1-257)).2 a.2).2).2).2.err≠0 then(aF t (cq (aQ t d (aF t (bh (a.1-257)).2 a.2).2).1).2 (aQ t d (aF t (bh (a.1-257)).2 a.2).2).2).2
          else if(aF t (cq (aQ t d (aF t (bh (a.1-257)).2 a.2).2).1).2 (aQ t d (aF t (bh (a.1-257)).2 a.2).2).2).2.out.length<(cq (aQ t d (aF t (bh (a.1-257)).2 a.2).2).1).1+(aF t (cq (aQ t d (aF t (bh (a.1-257)).2 a.2).2).1).2 (aQ t d (aF t (bh (a.1-257)).2 a.2).2).2).1
          then ct 3 (aF t (cq (aQ t d (aF t (bh (a.1-257)).2 a.2).2).1).2 (aQ t d (aF t (bh (a.1-257)).2 a.2).2).2).2
          else backS most ((cq (aQ t d (aF t (bh (a.1-257)).2 a.2).2).1).1+(aF t (cq (aQ t d (aF t (bh (a.1-257)).2 a.2).2).1).2 (aQ t d (aF t (bh (a.1-257)).2 a.2).2).2).1) ((bh (a.1-257)).1+(aF t (bh (a.1-257)).2 a.2).1) (aF t (cq (aQ t d (aF t (bh (a.1-257)).2 a.2).2).1).2 (aQ t d (aF t (bh (a.1-257)).2 a.2).2).2).2):=by
       unfold dX;rw[if_neg h285]
      have hg1:fJ.getD (a.1-257) 0=(bh (a.1-257)).1:=uY _ acN;have hg2:fK.getD (a.1-257) 0=(bh (a.1-257)).2:=uY _ acN;have hlb:(bh (a.1-257)).1<=300/\(bh (a.1-257)).2<=8:=(by decide +kernel:∀i,i<29->(bh i).1<=300/\(bh i).2<=8) _ acN;obtain⟨hlb1,hlb2⟩:=hlb;generalize hB:bh (a.1-257)=lb at *
      have ei:(a.1:Int)-257=((a.1-257:Nat):Int):=acN;have hnum:=jf t most a.2 hok2 lb.2 acN;have hb1:=gF (t:=t) (S:=a.2) (n:=lb.2);have hb2:2^lb.2<=2^8:=acV (by decide) hlb2;have hok3:=qJ (n:=lb.2) hok2;refine wW ?_;refine cf hN (λ_:Unit=>⟨[(0,.aa 79038 0),(6,.ro 1 (bE (aM l))),(7,.ro 1 (bE (aM d))),(8,.ro 1 (aj fJ)),(9,.ro 1 (aj fK)),(10,.ro 1 (aj iA)),(11,.ro 1 (aj iB)),(13,.int .i64 (lb.1+(aF t lb.2 a.2).1:Nat)),(2000000,.aa 79038 0),(2000001,.ro 1 (aj l)),(2000002,.ro 1 (aj d))],az t most (aF t lb.2 a.2).2⟩) (λ_=>True) (λR2 hR2=>?_) (λ_ _=>?_)
      ·simp(disch:=omega)only[go_sem,simprocAttr,ei,hn1,hn2,hl1,hl2,dq,hg1,hg2];refine⟨?_,?_⟩
       ·refine aI (az t most a.2) hnum (bR hae) nofun ?_;rintro h' v ar ⟨rfl,rfl,rfl⟩;refine⟨aC,rfl,?_⟩;refine bz ?_;exact hR2 () _ trivial (.le aC)
       ·refine aI (az t most a.2) hnum (bR hae) nofun ?_;rintro h' v ar ⟨rfl,rfl,rfl⟩;refine⟨aC,rfl,?_⟩;refine bz ?_;exact hR2 () _ trivial (.le aC)
      generalize aF t lb.2 a.2=b at *
      refine bz ?_;refine aI (az t most b.2) (yw t most b.2 hok3 d hd hdl) aC nofun ?_;rintro h' v ar ⟨rfl,rfl,rfl⟩;have hok4:bQ t most (aQ t d b.2).2:=hok3.mv lG;generalize aQ t d b.2=k at *
      refine⟨aC,rfl,?_⟩;by_cases hke:k.2.err=0
      ·rw[if_neg (by simpa using hke)]at hrep;by_cases hk29:29<k.1
       ·rw[if_pos hk29]at hrep;have:=stop _ hrep.symm (j9 acN);simp only[az]at this;simp(disch:=omega)only[go_sem,simprocAttr]at this;have hfe:¬(((ct 3 k.2).err:Int)=0):=by have:=j9 (S:=k.2) (e:=3) acN;omega
        refine jz hke @Eng.jn ?_;refine aV hke ?_;refine aI (az t most k.2) (fZ t most k.2 3) (bR hke) nofun ?_;rintro h' v ar ⟨rfl,rfl,rfl⟩;refine⟨aC,rfl,?_⟩;refine bz ?_;refine dY hN ?_;refine aE hfe @Eng.jn ?_;exact this
       ·rw[if_neg hk29]at hrep;have hg3:iA.getD k.1 0=(cq k.1).1:=uY _ acN;have hg4:iB.getD k.1 0=(cq k.1).2:=uY _ acN;have hdb:(cq k.1).1<=40000/\(cq k.1).2<=15/\1<=(cq k.1).1:=(by decide +kernel:∀i,i<30->(cq i).1<=40000/\(cq i).2<=15/\1<=(cq i).1) _ acN;obtain⟨hdb1,hdb2,hdb3⟩:=hdb;generalize cq k.1=db at *
        have hnum:=jf t most k.2 hok4 db.2 acN;have hc1:=gF (t:=t) (S:=k.2) (n:=db.2);have hc2:2^db.2<=2^15:=acV (by decide) hdb2;have hok5:=qJ (n:=db.2) hok4;refine jz hke @Eng.jn ?_;refine aV hke ?_;refine dY hN ?_;refine ab hke ?_;refine cf hN (λ_:Unit=>⟨[(0,.aa 79038 0),(6,.ro 1 (bE (aM l))),(7,.ro 1 (bE (aM d))),(8,.ro 1 (aj fJ)),(9,.ro 1 (aj fK)),(10,.ro 1 (aj iA)),(11,.ro 1 (aj iB)),(13,.int .i64 (lb.1+b.1:Nat)),(15,.int .i64 (db.1+(aF t db.2 k.2).1:Nat)),(2000000,.aa 79038 0),(2000001,.ro 1 (aj l)),(2000002,.ro 1 (aj d))],az t most (aF t db.2 k.2).2⟩) (λ_=>True) (λR2 hR2=>?_) (λ_ _=>?_)
        ·simp(disch:=omega)only[go_sem,simprocAttr,hke,hn3,hn4,hl3,hl4,dq,hg3,hg4];refine⟨?_,?_⟩
         ·refine aI (az t most k.2) hnum (bR hke) nofun ?_;rintro h' v ar ⟨rfl,rfl,rfl⟩;refine⟨aC,rfl,?_⟩;refine bz ?_;exact hR2 () _ trivial (.le aC)
         ·refine aI (az t most k.2) hnum (bR hke) nofun ?_;rintro h' v ar ⟨rfl,rfl,rfl⟩;refine⟨aC,rfl,?_⟩;refine bz ?_;exact hR2 () _ trivial (.le aC)
        generalize aF t db.2 k.2=c at *
        have copy:∀S1,bQ t most S1->(S1.err≠0->S1=dX t most d a.1 a.2)->(S1.err=0->db.1+c.1<=S1.out.length/\backS most (db.1+c.1) (lb.1+b.1) S1=dX t most d a.1 a.2) ->
            vcW Tryz.prog E Cod.W3 (KQ.c8 1 (KQ.gb R1 (KQ.c8 0 (KQ.post [] 3 R)))) ⟨[(0,.aa 79038 0),(6,.ro 1 (bE (aM l))),(7,.ro 1 (bE (aM d))),(8,.ro 1 (aj fJ)),(9,.ro 1 (aj fK)),(10,.ro 1 (aj iA)),(11,.ro 1 (aj iB)),(13,.int .i64 (lb.1+b.1:Nat)),(15,.int .i64 (db.1+c.1:Nat)),(2000000,.aa 79038 0),(2000001,.ro 1 (aj l)),(2000002,.ro 1 (aj d))],az t most S1⟩:=by
         intro S1 ho1 hbad hgood;refine wW ?_
         refine aD hN (λq:Nat×SS=>⟨[(0,.aa 79038 0),(6,.ro 1 (bE (aM l))),(7,.ro 1 (bE (aM d))),(8,.ro 1 (aj fJ)),(9,.ro 1 (aj fK)),(10,.ro 1 (aj iA)),(11,.ro 1 (aj iB)),(13,.int .i64 (lb.1+b.1:Nat)),(15,.int .i64 (db.1+c.1:Nat)),(16,.int .i64 q.1),(2000000,.aa 79038 0),(2000001,.ro 1 (aj l)),(2000002,.ro 1 (aj d))],az t most q.2⟩)
          (λq=>q.1<=lb.1+b.1/\bQ t most q.2/\(q.2.err≠0->q.2=dX t most d a.1 a.2)/\(q.2.err=0->db.1+c.1<=q.2.out.length/\backS most (db.1+c.1) (lb.1+b.1-q.1) q.2=dX t most d a.1 a.2)) (λq=>lb.1+b.1-q.1) (0,S1) (.le aC) ⟨acN,ho1,hbad,hgood⟩ ?_
         rintro⟨i,S2⟩ R2 ⟨hi,ho2,hbad2,hgood2⟩ hR2;simp only at hi ho2 hbad2 hgood2;by_cases he2:S2.err=0
         ·obtain⟨hbl,hbk⟩:=hgood2 he2;by_cases hlt2:i<lb.1+b.1
          ·obtain⟨q,hq⟩:∃q,lb.1+b.1-i=q+1:=⟨lb.1+b.1-i-1,acN⟩;rw[hq,Ao,if_neg (by simpa using he2)]at hbk;have ej:(S2.out.length:Int)-((db.1:Int)+(c.1:Int))=((S2.out.length-(db.1+c.1):Nat):Int):=acN;have hgo:=Ov S2 (S2.out.length-(db.1+c.1)) acN;have hput:=yv t most S2 ho2 (S2.out.getD (S2.out.length-(db.1+c.1)) 0);generalize S2.out.getD (S2.out.length-(db.1+c.1)) 0=ch at *
           have hml:S2.out.length<=1000000:=adM ho2.ol ho2.ml;refine kr he2 ej hgo ?_;refine gy he2 ej hgo ?_;refine aI (az t most S2) hput (bR he2) nofun ?_;rintro h' v ar ⟨rfl,rfl,rfl⟩;refine⟨aC,rfl,?_⟩;refine bz ?_;refine hR2 (i+1,eB most ch S2) _ (by simp only;omega) ⟨by simp only;omega,ho2.mv mj,λhpe=>?_,λhpe=>?_⟩ (.le aC)
           ·simp only at hpe |-;rw[Jm hpe]at hbk;exact hbk
           ·simp only at hpe |-;refine⟨?_,by rw[show lb.1+b.1-(i+1)=q by omega];exact hbk⟩;unfold eB at hpe |-;rw[if_neg (by simpa using he2)]at hpe |-;split at hpe
            ·cases hpe
            ·rename_i hf;rw[if_neg hf];simp only[acQ];omega
          ·rw[show lb.1+b.1-i=0 by omega]at hbk;refine b5 he2 ?_;refine aV he2 ?_;exact next S2 _ ho2 hbk (.le (bR he2))
         ·have hi2:¬((S2.err:Int)=0):=acN;have hb2:=hbad2 he2;by_cases hlt2:i<lb.1+b.1
          ·refine b5 hi2 ?_;refine aV hi2 ?_;exact next S2 _ ho2 hb2 (.le aC)
          ·refine b5 hi2 ?_;refine aV hi2 ?_;exact next S2 _ ho2 hb2 (.le aC)
        refine cf hN (λS1:SS=>⟨[(0,.aa 79038 0),(6,.ro 1 (bE (aM l))),(7,.ro 1 (bE (aM d))),(8,.ro 1 (aj fJ)),(9,.ro 1 (aj fK)),(10,.ro 1 (aj iA)),(11,.ro 1 (aj iB)),(13,.int .i64 (lb.1+b.1:Nat)),(15,.int .i64 (db.1+c.1:Nat)),(2000000,.aa 79038 0),(2000001,.ro 1 (aj l)),(2000002,.ro 1 (aj d))],az t most S1⟩) (λS1=>bQ t most S1/\(S1.err≠0->S1=dX t most d a.1 a.2)/\(S1.err=0->db.1+c.1<=S1.out.length/\backS most (db.1+c.1) (lb.1+b.1) S1=dX t most d a.1 a.2)) (λR2 hR2=>?_) (λS1 h=>copy S1 h.1 h.2.1 h.2.2);by_cases hce:c.2.err=0
        ·rw[if_neg (by simpa using hce)]at hrep;by_cases hfar:c.2.out.length<db.1+c.1
         ·rw[if_pos hfar]at hrep;refine b5 hce ?_;refine aV hce ?_;refine aI (az t most c.2) (fZ t most c.2 3) (bR hce) nofun ?_;rintro h' v ar ⟨rfl,rfl,rfl⟩;refine⟨aC,rfl,?_⟩;refine bz ?_;exact hR2 (ct 3 c.2) _ ⟨hok5.mv kS,λ_=>hrep.symm,λe=>absurd e (j9 acN)⟩ (.le aC)
         ·rw[if_neg hfar]at hrep;refine b5 hce ?_;refine aV hce ?_;exact hR2 c.2 _ ⟨hok5,λe=>absurd hce e,λ_=>⟨acN,hrep.symm⟩⟩ (.le (bR hce))
        ·rw[if_pos hce]at hrep;have hi:¬((c.2.err:Int)=0):=acN;refine b5 hi ?_;refine aV hi ?_;exact hR2 c.2 _ ⟨hok5,λ_=>hrep.symm,λe=>absurd e hce⟩ (.le aC)
      ·rw[if_pos hke]at hrep;have:=stop _ hrep.symm hke;simp only[az]at this;simp(disch:=omega)only[go_sem,simprocAttr]at this;have hi:¬((k.2.err:Int)=0):=acN;refine jz hi @Eng.jn ?_;refine aV hi ?_;refine dY hN ?_;refine aE hi @Eng.jn ?_;exact this
  ·rw[if_pos hae]at hst;rw[hst]at hpk;simp only[if_true]at hpk;have hi:¬((a.2.err:Int)=0):=acN;refine b5 hi ?_;refine aV hi ?_;have:=fin a.2 hpk;simp only[az]at this;simp(disch:=omega)only[go_sem,simprocAttr]at this;exact this
 ·have hi:¬((S.err:Int)=0):=acN;rw[EB he]at hpk;refine b5 hi ?_;have:=fin S hpk;simp only[az]at this;simp(disch:=omega)only[go_sem,simprocAttr]at this;exact this
abbrev Q5 (R:HP->AV->List AV->Prop):KQ:=KQ.post [.tmp 2,.tmp 3] 1 R
def oC (t:Bs) (most:Nat) (F:(List Nat×List Nat)×SS) (h':HP) (v:AV) (ar:List AV):Prop:=
 h'=az t most F.2/\v=(if F.2.err=0 then .af [.ro 1 (aj F.1.1),.ro 1 (aj F.1.2)]else .af [.al,.al])/\ar=[.aa gl 0]
theorem qf {t:Bs} {most:Nat} {F:(List Nat×List Nat)×SS} {R:HP->AV->List AV->Prop} (hR:c7 (oC t most F) R) {S:SS} (hF:F=(([],[]),S)) (he:S.err≠0) {h:HP} (hh:dE h (az t most S)) :
    R h (.af [.al,.al]) [.aa 79038 0]:=by
 subst hF;exact hR.le hh ⟨rfl,(if_neg he).symm,rfl⟩
theorem uU {l:List Nat} (h:∀n∈l,n<=15) (k:Nat):∀n∈l.take k,n<=15:=λn hn=>h n (aeu hn)
theorem sN {l:List Nat} (h:∀n∈l,n<=15) (k:Nat):∀n∈l.drop k,n<=15:=λn hn=>h n (afe hn)
set_option maxHeartbeats 2000000 in
theorem Mx (t:Bs) (most:Nat) (F:(List Nat×List Nat)×SS) (S:SS) (l:List Nat) (nl nd:Nat) {E:Env} {R:HP->AV->List AV->Prop} (hN:E.N<=1000000) (hR:c7 (oC t most F) R) (hl:∀n∈l,n<=15)
    (hbad:S.err≠0->F=(([],[]),S)) (hgood:S.err=0->l.length=nl+nd/\257<=nl/\nl<=286/\nd<=30/\F=if l.getD 256 0=0\/bx (l.take nl)=false\/bx (l.drop nl)=false then(([],[]),{S with err:=3})else((l.take nl,l.drop nl),S)) :
    vcW Tryz.prog E Cod.Fb (Q5 R) ⟨[(0,.aa 79038 0),(4,.int .i64 nl),(11,.sl 75094 0 l.length),(2000000,.aa 79038 0)],az t most S++[(75094,.arr 1 (aj l))]⟩:=by
 have hnl:=bL l;by_cases he:S.err=0
 ·obtain⟨h1,h2,h3,h4,hF⟩:=hgood he;have ht1:(l.take nl).length=nl:=by rw[acS];omega
  have hd1:(l.drop nl).length=nd:=by rw[acU];omega
  have hck1:=yt (l.take nl) (uU hl nl) acN;have hck2:=yt (l.drop nl) (sN hl nl) acN;have es:(nl:Int)-0=nl:=acN;have en:l.length-nl=nd:=acN;have etd:(l.drop nl).take nd=l.drop nl:=acP acN;have etk:(l.drop 0).take nl=l.take nl:=rfl;have bad:F=(([],[]),{S with err:=3})->∀h,dE h (az t most {S with err:=3})->R h (.af [.al,.al]) [.aa 79038 0]:=λhF h hh=>qf hR hF (by simp) hh;by_cases h256:l.getD 256 0=0
  ·rw[if_pos (.inl h256)]at hF;refine zB he @dq hnl h256 ?_;refine gG ?_;refine aI (az t most S) (fZ t most S 3) (bR he) nofun ?_;rintro h' v ar ⟨rfl,rfl,rfl⟩;refine⟨aC,rfl,?_⟩;rw[fW he];refine bz ?_;exact bad hF _ aC
  ·have hi256:¬((l.getD 256 0:Nat):Int)=0:=acN;generalize hx:l.getD 256 0=x256 at *
   cases hc1:bx (l.take nl)with
   | false=>
    rw[if_pos (.inr (.inl hc1))]at hF;rw[hc1]at hck1;refine u0 he @dq hnl hx hi256 ?_;refine gG ?_;refine eI (l6 (cn @fx) hck1 vV rfl ?_);refine wW ?_;refine gG ?_;refine aI (az t most S) (fZ t most S 3) (bR he) nofun ?_;rintro h' v ar ⟨rfl,rfl,rfl⟩;refine⟨aC,rfl,?_⟩;rw[fW he];refine bz ?_
    exact bad hF _ aC
   | true=>
    rw[hc1]at hck1
    cases hc2:bx (l.drop nl)with
    | false=>
     rw[if_pos (.inr (.inr hc2))]at hF;rw[hc2]at hck2;refine u0 he @dq hnl hx hi256 ?_;refine gG ?_;refine eI (l6 (cn @fx) hck1 vV rfl ?_);refine wW ?_;refine gG ?_;refine eI (l6 (mH @fx en etd) hck2 vV rfl ?_);refine wW ?_;refine gG ?_;refine aI (az t most S) (fZ t most S 3) (bR he) nofun ?_;rintro h' v ar ⟨rfl,rfl,rfl⟩;refine⟨aC,rfl,?_⟩;rw[fW he];refine bz ?_
     exact bad hF _ aC
    | true=>
     rw[if_neg (by simp[hc1,hc2];omega)]at hF;rw[hc2]at hck2;subst hF;refine u0 he @dq hnl hx hi256 ?_;refine gG ?_;refine eI (l6 (cn @fx) hck1 vV rfl ?_);refine wW ?_;refine gG ?_;refine eI (l6 (mH @fx en etd) hck2 vV rfl ?_);refine wW ?_;refine gG ?_;exact hR.wk (h':=az t most S) (r':=.af [.ro 1 (aj (l.take nl)),.ro 1 (aj (l.drop nl))]) (ar':=[.aa gl 0]) rfl (.bj 75094 (.le (abx he @fx en etd))) ⟨rfl,(if_pos he).symm,rfl⟩
 ·have hi:¬((S.err:Int)=0):=acN;refine b5 hi ?_;exact qf hR (hbad he) he aC
theorem oZ (t:Bs) (fl:List Nat) (N k:Nat) (l:List Nat) (S:SS):dF t fl N (k+1) l S=if N<=l.length\/S.err≠0 then(l,S)else
    if(cH N l (bP t l (aQ t fl S).1 (aQ t fl S).2)).err≠0 then(l,cH N l (bP t l (aQ t fl S).1 (aQ t fl S).2))
    else dF t fl N k (l++List.replicate (bP t l (aQ t fl S).1 (aQ t fl S).2).1 (bP t l (aQ t fl S).1 (aQ t fl S).2).2.1) (cH N l (bP t l (aQ t fl S).1 (aQ t fl S).2)):=rfl
theorem Ea (l:List Nat) (k x:Nat):aj (l++List.replicate k x)++[.int .i64 (x:Int)]=aj (l++List.replicate (k+1) x):=by
 rw[fL,adC,<-aeV]
theorem Ty {t:Bs} {most N:Nat} {l:List Nat} {b:Nat×Nat×SS}:Mv t most b.2.2 (cH N l b):=by
 unfold cH;split;exact kS;exact .refl
abbrev zR (R1 RX:KS) (R:HP->AV->List AV->Prop):KQ:=KQ.c8 3 (KQ.gb R1 (KQ.c8 2 (KQ.gb RX (Q5 R))))
set_option maxHeartbeats 1000000 in
theorem ME (t:Bs) (most:Nat) (l fl:List Nat) (nl nd:Nat) (s:Nat) (S:SS) {E:Env} {R1 R2 RX:KS} {R:HP->AV->List AV->Prop} (hN:E.N<=1000000) (h0:bQ t most S) (hs:s<19) (hl:∀n∈l,n<=15) (hll:l.length<=400)
    (hnil:s=16->l=[]->∀h,dE h (az t most (ct 3 S))->R h (.af [.al,.al]) [.aa 79038 0])
    (hR2:∀st',Wk st' ⟨[(0,.aa 79038 0),(4,.int .i64 nl),(5,.int .i64 nd),(10,.ro 1 (bE (aM fl))),(11,.sl 75094 0 l.length),(13,.int .i64 ((bP t l s S).1:Nat)),(14,.int .i64 ((bP t l s S).2.1:Nat)),(2000000,.aa 79038 0)],az t most (bP t l s S).2.2++[(75094,.arr 1 (aj l))]⟩->R2.ap st') :
    vcW Tryz.prog E Cod.WK (KQ.gb R2 (zR R1 RX R)) ⟨[(0,.aa 79038 0),(4,.int .i64 nl),(5,.int .i64 nd),(10,.ro 1 (bE (aM fl))),(11,.sl 75094 0 l.length),(12,.int .i64 s),(13,.int .i64 1),(14,.int .i64 s),(2000000,.aa 79038 0)],az t most S++[(75094,.arr 1 (aj l))]⟩:=by
 have hnl:=bL l;unfold bP at hR2;by_cases h16:s=16
 ·rw[if_pos h16]at hR2;by_cases hle:l=[]
  ·have hn:=hnil h16 hle;subst hle;subst h16;refine b5 @kl ?_;refine gG ?_;refine aI (az t most S) (fZ t most S 3) aC nofun ?_;rintro h' v ar ⟨rfl,rfl,rfl⟩;generalize ct 3 S=S1 at *
   refine⟨aC,rfl,?_⟩;refine bz ?_;exact hn _ aC
  ·rw[if_neg hle]at hR2;have hl0:0<l.length:=by cases l with | nil=>exact absurd rfl hle | cons=>simp
   have el:(l.length:Int)-1=((l.length-1:Nat):Int):=acN;have hz:¬((l.length:Int)=0):=acN;have hx:nth (aj l) (l.length-1)=.int .i64 (l.getD (l.length-1) 0:Nat):=dq acN;subst h16;refine zB hz el hnl hx ?_;have hnlt:=gF (t:=t) (n:=2) (S:=S);refine aI (az t most S) (jf t most S h0 2 (by decide)) aC nofun ?_;rintro h' v ar ⟨rfl,rfl,rfl⟩;generalize aF t 2 S=a at *
   refine⟨aC,rfl,?_⟩;refine bz ?_;exact hR2 _ (.le aC)
 ·rw[if_neg h16]at hR2;by_cases h17:s=17
  ·rw[if_pos h17]at hR2;subst h17;refine bz ?_;refine gG ?_;have hnlt:=gF (t:=t) (n:=3) (S:=S);refine aI (az t most S) (jf t most S h0 3 (by decide)) aC nofun ?_;rintro h' v ar ⟨rfl,rfl,rfl⟩;generalize aF t 3 S=a at *
   refine⟨aC,rfl,?_⟩;refine bz ?_;exact hR2 _ (.le aC)
  ·rw[if_neg h17]at hR2;by_cases h18:s=18
   ·rw[if_pos h18]at hR2;subst h18;refine bz ?_;refine gG ?_;have hnlt:=gF (t:=t) (n:=7) (S:=S);refine aI (az t most S) (jf t most S h0 7 (by decide)) aC nofun ?_;rintro h' v ar ⟨rfl,rfl,rfl⟩;generalize aF t 7 S=a at *
    refine⟨aC,rfl,?_⟩;refine bz ?_;exact hR2 _ (.le aC)
   ·rw[if_neg h18]at hR2;have e16:¬((s:Int)=16):=acN;have e17:¬((s:Int)=17):=acN;have e18:¬((s:Int)=18):=acN;refine kr e16 e17 e18 ?_;exact hR2 _ (.le aC)
set_option maxHeartbeats 1000000 in
theorem My (t:Bs) (most N:Nat) (l fl:List Nat) (nl nd:Nat) (b:Nat×Nat×SS) {E:Env} {R1 RX:KS} {R:HP->AV->List AV->Prop} (hN:E.N<=1000000) (hNN:nl+nd=N) (hN1:N<=400) (hll:l.length<=N) (hb1:b.1<=200) (hb2:b.2.1<=15)
    (hR1:∀st',Wk st' ⟨[(0,.aa 79038 0),(4,.int .i64 nl),(5,.int .i64 nd),(10,.ro 1 (bE (aM fl))),(11,.sl 75094 0 (if(cH N l b).err=0 then l++List.replicate b.1 b.2.1 else l).length),(2000000,.aa 79038 0)],az t most (cH N l b)++[(75094,.arr 1 (aj (if(cH N l b).err=0 then l++List.replicate b.1 b.2.1 else l)))]⟩->R1.ap st') :
    vcW Tryz.prog E Cod.WI (zR R1 RX R) ⟨[(0,.aa 79038 0),(4,.int .i64 nl),(5,.int .i64 nd),(10,.ro 1 (bE (aM fl))),(11,.sl 75094 0 l.length),(13,.int .i64 b.1),(14,.int .i64 b.2.1),(2000000,.aa 79038 0)],az t most b.2.2++[(75094,.arr 1 (aj l))]⟩:=by
 obtain⟨k,x,S⟩:=b;simp only at hb1 hb2 hR1 |-;have esum:(nl:Int)+(nd:Int)=(N:Int):=acN;refine cf hN (λ_:Unit=>⟨[(0,.aa 79038 0),(4,.int .i64 nl),(5,.int .i64 nd),(10,.ro 1 (bE (aM fl))),(11,.sl 75094 0 l.length),(13,.int .i64 k),(14,.int .i64 x),(2000000,.aa 79038 0)],az t most (cH N l (k,x,S))++[(75094,.arr 1 (aj l))]⟩) (λ_=>True) (λR2 hR2=>?_) (λ_ _=>?_)
 ·unfold cH at hR2;simp only at hR2;by_cases he:S.err=0
  ·by_cases hov:N<l.length+k
   ·have hov':(N:Int)<(l.length:Int)+(k:Int):=acN;rw[if_pos hov]at hR2;refine kr he esum hov' ?_;refine aI (az t most S) (fZ t most S 3) (bR he) nofun ?_;rintro h' v ar ⟨rfl,rfl,rfl⟩;generalize ct 3 S=S1 at *
    refine⟨aC,rfl,?_⟩;refine bz ?_;exact hR2 () _ trivial (.le aC)
   ·have hov':¬((N:Int)<(l.length:Int)+(k:Int)):=acN;rw[if_neg hov]at hR2;refine kr he esum hov' ?_;exact hR2 () _ trivial (.le (bR he))
  ·have hi:¬((S.err:Int)=0):=acN;have e:ct 3 S=S:=if_neg he;rw[e,ite_self]at hR2;refine jz hi esum ?_;refine cO hi esum ?_;exact hR2 () _ trivial (.le aC)
 ·generalize cH N l (k,x,S)=S1 at *
  refine bz ?_
  refine aD hN (λj:Nat=>⟨[(0,.aa 79038 0),(4,.int .i64 nl),(5,.int .i64 nd),(10,.ro 1 (bE (aM fl))),(11,.sl 75094 0 (l.length+j:Nat)),(13,.int .i64 k),(14,.int .i64 x),(15,.int .i64 j),(2000000,.aa 79038 0)],az t most S1++[(75094,.arr 1 (aj (l++List.replicate j x)))]⟩) (λj=>j<=k/\(S1.err≠0->j=0)) (λj=>k-j) 0
   (.le (by simp(disch:=omega)only[go_sem,simprocAttr,az];simp)) ⟨acN,λ_=>rfl⟩ ?_
  rintro j R2 ⟨hj,hj0⟩ hR2;have hnl:=bL (l++List.replicate j x);have hlr:(l++List.replicate j x).length=l.length+j:=by simp
  have hnr:=Ea l j x;have hsb:aB (aj (l++List.replicate j x)) 0 (l.length+j)=aj (l++List.replicate j x):=by rw[<-hlr];exact il
  by_cases he:S1.err=0
  ·by_cases hjk:j<k
   ·refine kr he hsb @ff ?_;exact hR2 (j+1) _ acN ⟨acN,λh=>absurd he h⟩ (.le (GW he hnr))
   ·obtain rfl:j=k:=acN;rw[if_pos he,hlr]at hR1;refine b5 he ?_;refine aV he ?_;exact hR1 _ (.le (bR he))
  ·obtain rfl:=hj0 he;rw[if_neg he]at hR1;have hi:¬((S1.err:Int)=0):=acN;have er:l++List.replicate 0 x=l:=by simp
   rw[er];by_cases hjk:0<k
   ·refine b5 hi ?_;refine aV hi ?_;exact hR1 _ (.le aC)
   ·obtain rfl:k=0:=acN;refine b5 hi ?_;refine aV hi ?_;exact hR1 _ (.le aC)
theorem Gy {t:Bs} {l:List Nat} {S:SS} {s:Nat} (hl:∀n∈l,n<=15) (hs:s<19):(bP t l s S).1<=200/\(bP t l s S).2.1<=15:=by
 have h2:=gF (t:=t) (n:=2) (S:=S);have h3:=gF (t:=t) (n:=3) (S:=S);have h7:=gF (t:=t) (n:=7) (S:=S);unfold bP;split
 ·split;exact⟨by simp,by simp⟩
  ·rename_i hle;refine⟨by simp only;omega,?_⟩;have:l.length-1<l.length:=by cases l with | nil=>exact absurd rfl hle | cons=>simp
   simp only[acO,List.getElem?_eq_getElem this,ad0];exact hl _ (adB this)
 ·split;exact⟨by simp only;omega,by simp⟩
  ·split;exact⟨by simp only;omega,by simp⟩;exact⟨by simp,by simp only;omega⟩
theorem aaY {t:Bs} {l:List Nat} {S:SS} {s:Nat} (h:(bP t l s S).2.2.err=0) (h0:S.err=0):1<=(bP t l s S).1:=by
 unfold bP at h |-;split
 ·rename_i hs;rw[if_pos hs]at h;split
  ·rename_i hle;rw[if_pos hle]at h;exact absurd h (j9 (by decide))
  ·simp only;omega
 ·split
  ·simp only;omega
  ·split
   ·simp only;omega
   ·simp
theorem Ey {N:Nat} {l:List Nat} {b:Nat×Nat×SS} (h:(cH N l b).err=0):b.2.2.err=0/\cH N l b=b.2.2/\l.length+b.1<=N:=by
 unfold cH at h |-;by_cases hlt:N<l.length+b.1
 ·rw[if_pos hlt]at h;exact absurd h (j9 (by decide))
 ·rw[if_neg hlt]at h |-;exact⟨h,rfl,acN⟩
set_option maxHeartbeats 4000000 in
theorem Mw (t:Bs) (most:Nat) (F:(List Nat×List Nat)×SS) (S0:SS) (fl:List Nat) (nl nd:Nat) {E:Env} {R:HP->AV->List AV->Prop} (hN:E.N<=1000000) (hR:c7 (oC t most F) R) (h0:bQ t most S0) (he0:S0.err=0)
    (hfl:∀n∈fl,n<=15) (hfn:fl.length=19) (h1:257<=nl) (h2:nl<=286) (h3:1<=nd) (h4:nd<=30)
    (hbad:(dF t fl (nl+nd) (nl+nd) [] S0).2.err≠0->F=(([],[]),(dF t fl (nl+nd) (nl+nd) [] S0).2))
    (hgood:(dF t fl (nl+nd) (nl+nd) [] S0).2.err=0->F=if(dF t fl (nl+nd) (nl+nd) [] S0).1.getD 256 0=0\/bx ((dF t fl (nl+nd) (nl+nd) [] S0).1.take nl)=false\/bx ((dF t fl (nl+nd) (nl+nd) [] S0).1.drop nl)=false
     then(([],[]),{(dF t fl (nl+nd) (nl+nd) [] S0).2 with err:=3})else(((dF t fl (nl+nd) (nl+nd) [] S0).1.take nl,(dF t fl (nl+nd) (nl+nd) [] S0).1.drop nl),(dF t fl (nl+nd) (nl+nd) [] S0).2)) :
    vcW Tryz.prog E Cod.WH (Q5 R) ⟨[(0,.aa 79038 0),(4,.int .i64 nl),(5,.int .i64 nd),(10,.ro 1 (bE (aM fl))),(11,.sl 75094 0 0),(2000000,.aa 79038 0)],(75094,.arr 1 [])::az t most S0⟩:=by
 generalize hG:dF t fl (nl+nd) (nl+nd) [] S0=G at hbad hgood;have hN0:nl+nd<400:=acN;have hN1:1<=nl+nd:=acN;generalize hNN:nl+nd=N at *
 have hcc:=fun(h1':∀n∈G.1,n<=15) (h2':G.2.err=0->G.1.length=N)=>Mx t most F G.2 G.1 nl nd (E:=E) (R:=R) hN hR h1' hbad (λh=>⟨(h2' h).trans hNN.symm,h1,h2,h4,hgood h⟩)
 refine cf (y:=Cod.Fb) hN (λ_:Unit=>⟨[(0,.aa 79038 0),(4,.int .i64 nl),(11,.sl 75094 0 G.1.length),(2000000,.aa 79038 0)],az t most G.2++[(75094,.arr 1 (aj G.1))]⟩) (λ_=>(∀n∈G.1,n<=15)/\(G.2.err=0->G.1.length=N)) (λRX hRX=>?_)
  (λ_ hx=>hcc hx.1 hx.2)
 have hnil0:∀S',G=([],S')->S'.err≠0->∀h,dE h (az t most S')->R h (.af [.al,.al]) [.aa 79038 0]:=by
  rintro S' rfl he' h hh;exact qf hR (hbad he') he' hh
 clear hcc hbad hgood hR;refine wW ?_
 refine aD hN (λq:List Nat×SS=>⟨[(0,.aa 79038 0),(4,.int .i64 nl),(5,.int .i64 nd),(10,.ro 1 (bE (aM fl))),(11,.sl 75094 0 q.1.length),(2000000,.aa 79038 0)],az t most q.2++[(75094,.arr 1 (aj q.1))]⟩)
  (λq=>bQ t most q.2/\(∀n∈q.1,n<=15)/\q.1.length<=N/\(q.2.err≠0->G=q)/\(q.2.err=0->∃k,N-q.1.length<=k/\dF t fl N k q.1 q.2=G)) (λq=>if q.2.err=0 then N+1-q.1.length else 0) ([],S0)
  (.le (bR @kl)) ⟨h0,by simp,by simp,λh=>absurd he0 h,λ_=>⟨N,by simp,hG⟩⟩ ?_
 rintro⟨l,S⟩ R1 ⟨hok,hl,hll,hb,hg⟩ hR1;simp only at hok hl hll hb hg;have hnl:=bL l;have esum:(nl:Int)+(nd:Int)=(N:Int):=acN;by_cases he:S.err=0
 ·by_cases hlt:l.length<N
  ·obtain⟨k,hk,hk2⟩:=hg he;obtain⟨k,rfl⟩:∃k',k=k'+1:=⟨k-1,acN⟩;rw[oZ,if_neg acN]at hk2;have hsu:=uS (t:=t) (l:=fl) he;refine jz he esum ?_;refine cO he esum ?_;refine aI (az t most S) (yw t most S hok fl hfl acN) (bR he) nofun ?_;rintro h' v ar ⟨rfl,rfl,rfl⟩;have hok2:bQ t most (aQ t fl S).2:=hok.mv lG
   have hs0:(aQ t fl S).2.err≠0->(aQ t fl S).1=0:=by
    intro h;unfold aQ at h |-;split at h
    ·rename_i hh;rw[if_pos hh]
    ·rename_i hh;rw[if_neg hh];split at h
     ·rename_i hh;rw[if_pos hh]
     exact absurd he h
   generalize aQ t fl S=a at *
   have hs19:a.1<19:=by
    by_cases h:a.2.err=0
    ·have:=(hsu h).2;omega
    ·rw[hs0 h];omega
   refine⟨aC,rfl,?_⟩;refine bz ?_;have hmt:Mv t most a.2 (bP t l a.1 a.2).2.2:=D7;have hok3:=hok2.mv hmt;have hmo:Mv t most (bP t l a.1 a.2).2.2 (cH N l (bP t l a.1 a.2)):=Ty;have hok4:=hok3.mv hmo
   refine cf hN (λ_:Unit=>⟨[(0,.aa 79038 0),(4,.int .i64 nl),(5,.int .i64 nd),(10,.ro 1 (bE (aM fl))),(11,.sl 75094 0 l.length),(13,.int .i64 ((bP t l a.1 a.2).1:Nat)),(14,.int .i64 ((bP t l a.1 a.2).2.1:Nat)),(2000000,.aa 79038 0)],az t most (bP t l a.1 a.2).2.2++[(75094,.arr 1 (aj l))]⟩)
    (λ_=>True) (λR2 hR2=>?_) (λ_ _=>?_)
   ·have hnilG:a.1=16->l=[]->G=([],ct 3 a.2):=by
     intro h16 hle;subst hle;have ht:bP t [] a.1 a.2=(0,0,ct 3 a.2):=by unfold bP;rw[if_pos h16,if_pos rfl]
     have ho:cH N [] (0,0,ct 3 a.2)=ct 3 a.2:=if_neg (by simp);rw[ht,ho,if_pos (j9 (by decide))]at hk2;exact hk2.symm
    have hsw:=ME t most l fl nl nd a.1 a.2 (E:=E) (R1:=R1) (R2:=R2) (RX:=RX) (R:=R) hN hok2 hs19 hl acN (λh16 hle=>hnil0 _ (hnilG h16 hle) (j9 (by decide))) (λst' hw=>hR2 () _ trivial hw);simp only[az]at hsw;exact hsw
   ·have hb12:=Gy (t:=t) (l:=l) (S:=a.2) (s:=a.1) hl hs19;refine My t most N l fl nl nd (bP t l a.1 a.2) hN hNN acN hll hb12.1 hb12.2 (λst' hw=>?_);generalize hbb:bP t l a.1 a.2=b at *
    generalize hcc:cH N l b=c at *
    by_cases hce:c.err=0
    ·rw[if_pos hce]at hw;rw[if_neg (by simpa using hce)]at hk2;obtain⟨hbe,hcb,hov⟩:=Ey (N:=N) (l:=l) (b:=b) (by rw[hcc];exact hce)
     have hae:a.2.err=0:=by
      by_cases h:a.2.err=0;exact h
      ·have h1:=hs0 h;have ht:bP t l a.1 a.2=(1,a.1,a.2):=by unfold bP;rw[if_neg acN,if_neg acN,if_neg acN]
       rw[<-hbb,ht]at hbe;exact absurd hbe h
     have hb1:=aaY (t:=t) (l:=l) (S:=a.2) (s:=a.1) (by rw[hbb];exact hbe) hae;rw[hbb]at hb1;have hlr:(l++List.replicate b.1 b.2.1).length=l.length+b.1:=by simp
     refine hR1 (l++List.replicate b.1 b.2.1,c) _ ?_ ⟨hok4,?_,?_,?_,?_⟩ hw
     ·simp only[if_pos hce,if_pos he,hlr];omega
     ·intro n hn;rcases adq.1 hn with hn | hn;exact hl n hn
      ·rw[(aeH.1 hn).2];exact hb12.2
     ·simp only[hlr];exact hov
     ·intro h;exact absurd hce h
     ·intro _;refine⟨k,?_,hk2⟩;simp only[hlr];omega
    ·rw[if_neg hce]at hw;rw[if_pos hce]at hk2;refine hR1 (l,c) _ ?_ ⟨hok4,hl,hll,λ_=>hk2.symm,λh=>absurd h hce⟩ hw;simp only[if_neg hce,if_pos he];omega
  ·obtain⟨k,hk,hk2⟩:=hg he
   have hGe:G=(l,S):=by
    rw[<-hk2]
    cases k with
    | zero=>rfl
    | succ k=>rw[oZ,if_pos (.inl acN)]
   subst hGe;have hlt':¬((l.length:Int)<(N:Int)):=acN;refine kr he esum hlt' ?_;refine cO he esum ?_;exact hRX () _ ⟨hl,λ_=>by simp only;omega⟩ (.le (bR he))
 ·have hGe:=hb he;subst hGe;have hi:¬((S.err:Int)=0):=acN;by_cases hlt:l.length<N
  ·refine jz hi esum ?_;refine cO hi esum ?_;exact hRX () _ ⟨hl,λh=>absurd h he⟩ (.le aC)
  ·have hlt':¬((l.length:Int)<(N:Int)):=acN;refine kr hi esum hlt' ?_;refine cO hi esum ?_;exact hRX () _ ⟨hl,λh=>absurd h he⟩ (.le aC)
def nq (t:Bs) (nl nd:Nat) (b:List Nat×SS):(List Nat×List Nat)×SS:=
 if b.2.err≠0 then(([],[]),b.2)else
 if b.1.getD 256 0=0\/bx (b.1.take nl)=false\/bx (b.1.drop nl)=false then(([],[]),{b.2 with err:=3})else((b.1.take nl,b.1.drop nl),b.2)
def dm (t:Bs) (nl nd:Nat) (a:List Nat×SS):(List Nat×List Nat)×SS:=
 if a.2.err≠0 then(([],[]),a.2)else if bx a.1=false then(([],[]),{a.2 with err:=3})else nq t nl nd (dF t a.1 (nl+nd) (nl+nd) [] a.2)
theorem sQ (t:Bs) (S:SS):cF t S=if 8*t.length<S.p+14 then(([],[]),{S with err:=6})else if 286<numAt t S.p 5+257\/30<numAt t (S.p+5) 5+1 then(([],[]),{S with p:=S.p+14,err:=3})else
    dm t (numAt t S.p 5+257) (numAt t (S.p+5) 5+1) (firstS t (numAt t (S.p+10) 4+4) (numAt t (S.p+10) 4+4) (List.replicate 19 0) {S with p:=S.p+14}):=rfl
def nD:aG:=.arr 1 (aj fM)
set_option maxHeartbeats 1000000 in
theorem Mz (t:Bs) (most:Nat) (S:SS) (fl:List Nat) (nl nd nc:Nat) (x9:AV) {E:Env} {R:HP->AV->List AV->Prop} (hN:E.N<=1000000) (hR:c7 (oC t most (dm t nl nd (fl,S))) R) (h0:bQ t most S)
    (hfl:∀n∈fl,n<=15) (hfn:fl.length=19) (hb:S.err=0->257<=nl/\nl<=286/\1<=nd/\nd<=30) :
    vcW Tryz.prog E Cod.Fc (Q5 R) ⟨[(0,.aa 79038 0),(4,.int .i64 nl),(5,.int .i64 nd),(6,.int .i64 nc),(7,.sl 75053 0 19),(8,.sl 75054 0 19),(9,x9),(64,.bool false),(2000000,.aa 79038 0)],az t most S++[(75053,.arr 1 (aj fl)),(75054,nD)]⟩:=by
 have hnl:=bL fl;have hck:=yt fl hfl acN;have hsub:aB (aj fl) 0 19=aj fl:=by rw[<-hfn];exact il
 refine cf (y:=Cod.WL) hN (λ_:Unit=>⟨[(0,.aa 79038 0),(4,.int .i64 nl),(5,.int .i64 nd),(7,.ro 1 (aj fl)),(2000000,.aa 79038 0)],az t most (if S.err=0/\bx fl=false then {S with err:=3} else S)⟩) (λ_=>True) (λR2 hR2=>?_) (λ_ _=>?_)
 ·clear hR;by_cases he:S.err=0
  ·cases hc:bx fl with
   | false=>
    rw[hc]at hck;rw[if_pos ⟨he,hc⟩]at hR2;refine b5 he ?_;refine gG ?_;refine eI (l6 (cn hsub) hck vV rfl ?_);refine wW ?_;refine gG ?_;refine aI (az t most S) (fZ t most S 3) (bR he) nofun ?_;rintro h' v ar ⟨rfl,rfl,rfl⟩;refine⟨aC,rfl,?_⟩;rw[fW he];refine bz ?_
    exact hR2 () _ trivial (.bj 75053 (.le (bR hsub)))
   | true=>
    rw[hc]at hck;rw[if_neg (by simp[hc])]at hR2;refine b5 he ?_;refine gG ?_;refine eI (l6 (cn hsub) hck vV rfl ?_);refine wW ?_;refine gG ?_;exact hR2 () _ trivial (.bj 75053 (.le (GW he hsub)))
  ·have hi:¬((S.err:Int)=0):=acN;rw[if_neg (λh=>he h.1)]at hR2;refine b5 hi ?_;refine aV hi ?_;exact hR2 () _ trivial (.bj 75053 (.le (bR hsub)))
 ·by_cases he:S.err=0
  ·by_cases hc:bx fl=false
   ·rw[if_pos ⟨he,hc⟩];have hF:dm t nl nd (fl,S)=(([],[]),{S with err:=3}):=by unfold dm;rw[if_neg (by simpa using he),if_pos hc]
    refine bz ?_;exact qf hR hF (by simp) aC
   ·rw[if_neg (λh=>hc h.2)];obtain⟨h1,h2,h3,h4⟩:=hb he;have hcod:=yu fl hfl acN;have hF:dm t nl nd (fl,S)=nq t nl nd (dF t fl (nl+nd) (nl+nd) [] S):=by unfold dm;rw[if_neg (by simpa using he),if_neg hc]
    rw[hF]at hR;have hbb:=Mw t most _ S fl nl nd (E:=E) (R:=R) hN hR h0 he hfl hfn h1 h2 h3 h4 (λh=>if_pos h) (λh=>if_neg (by simpa using h));clear hR;refine b5 he ?_;refine ah hcod rfl rfl ?_;refine wW ?_;simp only[az,he]at hbb;exact hbb
  ·rw[if_neg (λh=>he h.1)];have hi:¬((S.err:Int)=0):=acN;have hF:dm t nl nd (fl,S)=(([],[]),S):=if_pos he;refine b5 hi ?_;exact qf hR hF he aC
theorem qi (t:Bs) (nc k:Nat) (l:List Nat) (S:SS):firstS t nc (k+1) l S=if S.err≠0 then(l,S)else firstS t nc k (l.set (fM.getD (nc-(k+1)) 0) (aF t 3 S).1) (aF t 3 S).2:=rfl
theorem sV (t:Bs) (nc k:Nat) (l:List Nat) (S:SS) (h:S.err≠0):firstS t nc k l S=(l,S):=by
 cases k with
 | zero=>rfl
 | succ k=>rw[qi,if_pos h]
theorem EM:∀j,j<19->fM.getD j 0<19:=by decide
theorem qG {l:List Nat} {i x:Nat}:(aj l).set i (.int .i64 (x:Int))=aj (l.set i x):=by simp[aj,afE]
set_option maxHeartbeats 1000000 in
theorem MA (t:Bs) (most:Nat) (S0:SS) (nl nd nc:Nat) {E:Env} {R:HP->AV->List AV->Prop} (hN:E.N<=1000000) (h0:bQ t most S0) (hc:nc<=19)
    (hR:c7 (oC t most (dm t nl nd (firstS t nc nc (List.replicate 19 0) S0))) R) (hb:S0.err=0->257<=nl/\nl<=286/\1<=nd/\nd<=30) :
    vcW Tryz.prog E Cod.WJ (Q5 R) ⟨[(0,.aa 79038 0),(4,.int .i64 nl),(5,.int .i64 nd),(6,.int .i64 nc),(2000000,.aa 79038 0)],az t most S0⟩:=by
 generalize hG:firstS t nc nc (List.replicate 19 0) S0=G at hR;refine bz ?_
 refine aD hN (λq:Nat×List Nat×SS=>⟨[(0,.aa 79038 0),(4,.int .i64 nl),(5,.int .i64 nd),(6,.int .i64 nc),(7,.sl 75053 0 19),(8,.sl 75054 0 19),(9,.int .i64 q.1),(2000000,.aa 79038 0)],az t most q.2.2++[(75053,.arr 1 (aj q.2.1)),(75054,nD)]⟩)
  (λq=>bQ t most q.2.2/\(∀n∈q.2.1,n<=15)/\q.2.1.length=19/\q.1<=nc/\(q.2.2.err=0->S0.err=0)/\firstS t nc (nc-q.1) q.2.1 q.2.2=G) (λq=>nc-q.1) (0,List.replicate 19 0,S0)
  (.le (by simp(disch:=omega)only[go_sem,simprocAttr,az,nD];exact⟨rfl,rfl⟩)) ⟨h0,by simp,by simp,by simp,λh=>h,hG⟩ ?_
 rintro⟨j,l,S⟩ R1 ⟨hok,hl,hll,hj,he0,hg⟩ hR1;simp only at hok hl hll hj hg he0;have hnl:=bL l
 have fin:(l,S)=G->vcW Tryz.prog E Cod.Fc (Q5 R) ⟨[(0,.aa 79038 0),(4,.int .i64 nl),(5,.int .i64 nd),(6,.int .i64 nc),(7,.sl 75053 0 19),(8,.sl 75054 0 19),(9,.int .i64 j),(64,.bool false),(2000000,.aa 79038 0)],az t most S++[(75053,.arr 1 (aj l)),(75054,nD)]⟩:=by
  intro h;subst h;exact Mz t most S l nl nd nc _ hN hR hok hl hll (λh=>hb (he0 h))
 clear hR;by_cases he:S.err=0
 ·by_cases hlt:j<nc
  ·clear fin;obtain⟨m,hm⟩:∃m,nc-j=m+1:=⟨nc-j-1,acN⟩;rw[hm,qi,if_neg (by simpa using he),show nc-(m+1)=j by omega]at hg;have hpl:=EM j acN;have hx:nth (aj fM) j=.int .i64 (fM.getD j 0:Nat):=dq (by have:fM.length=19:=rfl;omega);have hpn:(aj fM).length=19:=rfl;generalize fM.getD j 0=pj at *
   have hnlt:=gF (t:=t) (n:=3) (S:=S);have hnum:=jf t most S hok 3 (by decide);have hok2:bQ t most (aF t 3 S).2:=hok.mv fY;have hxl:nth (aj l) pj=.int .i64 (l.getD pj 0:Nat):=dq acN
   have hnx:∀x,x<8->∀n∈l.set pj x,n<=15:=by
    intro x hx n hn;rcases ad5 hn with hn | hn;exact hl n hn;omega
   simp(disch:=omega)only[go_sem,simprocAttr,az,he,nD,hpn];refine aV he ?_;refine⟨?_,?_⟩
   ·refine aE hx hpn ?_;refine aI (az t most S) hnum (bR he) nofun ?_;rintro h' v ar ⟨rfl,rfl,rfl⟩;generalize aF t 3 S=a at *
    refine⟨aC,rfl,?_⟩;refine zB hnl hll hxl @qG ?_;exact hR1 (j+1,l.set pj a.1,a.2) _ (by simp only;omega) ⟨hok2,hnx _ hnlt,by simp[hll],hlt,λ_=>he0 he,by simp only;rw[show nc-(j+1)=m by omega];exact hg⟩ (.le (by simp(disch:=omega)only[go_sem,simprocAttr,az,nD]))
   ·refine aI (az t most S) hnum (bR he) nofun ?_;rintro h' v ar ⟨rfl,rfl,rfl⟩;generalize aF t 3 S=a at *
    refine⟨aC,rfl,?_⟩;refine zC hnl hll hx hxl hpn @qG ?_;exact hR1 (j+1,l.set pj a.1,a.2) _ (by simp only;omega) ⟨hok2,hnx _ hnlt,by simp[hll],hlt,λ_=>he0 he,by simp only;rw[show nc-(j+1)=m by omega];exact hg⟩ (.le (by simp(disch:=omega)only[go_sem,simprocAttr,az,nD]))
  ·obtain rfl:j=nc:=acN;rw[aeA]at hg;have fin:=fin hg;simp only[az,he]at fin;refine b5 he ?_;refine aV he ?_;exact fin
 ·rw[sV _ _ _ _ _ he]at hg;have fin:=fin hg;simp only[az]at fin;have hi:¬((S.err:Int)=0):=acN;by_cases hlt:j<nc
  ·refine b5 hi ?_;refine aV hi ?_;exact fin
  ·refine b5 hi ?_;refine aV hi ?_;exact fin
theorem T0 (t:Bs) (S:SS) (he:S.err=0) (h:¬8*t.length<S.p+14):aF t 5 S=(numAt t S.p 5,{S with p:=S.p+5})/\aF t 5 {S with p:=S.p+5}=(numAt t (S.p+5) 5,{S with p:=S.p+10})/\aF t 4 {S with p:=S.p+10}=(numAt t (S.p+10) 4,{S with p:=S.p+14}):=
 ⟨iG he acN,iG he (by simp only;omega),iG he (by simp only;omega)⟩
set_option maxHeartbeats 1000000 in
theorem WM (t:Bs) (most:Nat) (S:SS) (h0:bQ t most S) (he:S.err=0):Eng.Spec Tryz.prog 199 (az t most S) [.aa gl 0] (oC t most (cF t S)):=by
 refine Cod.WN (λE R hN hR=>?_);have hbl:=sc t;obtain⟨q1,q2,q3,q4⟩:=h0;have h0:bQ t most S:=⟨q1,q2,q3,q4⟩;rw[sQ]at hR;generalize hS1:(if 8*t.length<S.p+14 then {S with err:=6} else S)=S1
 have hok1:bQ t most S1:=by rw[<-hS1];split;exact h0.mv jK;exact h0
 refine bz ?_;refine cf hN (λ_:Unit=>⟨[(0,.aa 79038 0),(2000000,.aa 79038 0)],az t most S1⟩) (λ_=>True) (λR2 hR2=>?_) (λ_ _=>?_)
 ·subst hS1;by_cases hlt:8*t.length<S.p+14
  ·rw[if_pos hlt]at hR2;have hi:((8*t.length:Nat):Int)-(S.p:Int)<14:=acN;refine kr he hbl hi ?_;refine gy he hbl hi ?_;refine aI (az t most S) (fZ t most S 6) (bR he) nofun ?_;rintro h' v ar ⟨rfl,rfl,rfl⟩;refine⟨aC,rfl,?_⟩;rw[fW he];refine bz ?_;exact hR2 () _ trivial (.le aC)
  ·rw[if_neg hlt]at hR2;have hi:¬((8*t.length:Nat):Int)-(S.p:Int)<14:=acN;refine kr he hbl hi ?_;refine gy he hbl hi ?_;exact hR2 () _ trivial (.le (bR he))
 ·generalize hF:(if 8*t.length<S.p+14 then((([]:List Nat),([]:List Nat)),{S with err:=6})else if 286<numAt t S.p 5+257\/30<numAt t (S.p+5) 5+1 then(([],[]),{S with p:=S.p+14,err:=3})else
   dm t (numAt t S.p 5+257) (numAt t (S.p+5) 5+1) (firstS t (numAt t (S.p+10) 4+4) (numAt t (S.p+10) 4+4) (List.replicate 19 0) {S with p:=S.p+14}))=F at hR
  have ha:=jf t most S1 hok1 5 (by decide);have hoka:bQ t most (aF t 5 S1).2:=hok1.mv fY;have hla:=gF (t:=t) (n:=5) (S:=S1);generalize hea:aF t 5 S1=a at *
  have hb:=jf t most a.2 hoka 5 (by decide);have hokb:bQ t most (aF t 5 a.2).2:=hoka.mv fY;have hlb:=gF (t:=t) (n:=5) (S:=a.2);generalize heb:aF t 5 a.2=b at *
  have hc:=jf t most b.2 hokb 4 (by decide);have hokc:bQ t most (aF t 4 b.2).2:=hokb.mv fY;have hlc:=gF (t:=t) (n:=4) (S:=b.2);generalize hec:aF t 4 b.2=c at *
  refine bz ?_;refine aI (az t most S1) ha aC nofun ?_;rintro h' v ar ⟨rfl,rfl,rfl⟩;refine⟨aC,rfl,?_⟩;refine bz ?_;refine aI (az t most a.2) hb aC nofun ?_;rintro h' v ar ⟨rfl,rfl,rfl⟩;refine⟨aC,rfl,?_⟩;refine bz ?_;refine aI (az t most b.2) hc aC nofun ?_;rintro h' v ar ⟨rfl,rfl,rfl⟩;refine⟨aC,rfl,?_⟩;refine bz ?_;generalize hS2:(if 286<a.1+257\/30<b.1+1 then ct 3 c.2 else c.2)=S2
  have hok2:bQ t most S2:=by rw[<-hS2];split;exact hokc.mv kS;exact hokc
  refine cf hN (λ_:Unit=>⟨[(0,.aa 79038 0),(4,.int .i64 ((a.1+257:Nat):Int)),(5,.int .i64 ((b.1+1:Nat):Int)),(6,.int .i64 ((c.1+4:Nat):Int)),(2000000,.aa 79038 0)],az t most S2⟩) (λ_=>True) (λR2 hR2=>?_) (λ_ _=>?_)
  ·subst hS2;by_cases hx1:286<a.1+257
   ·have hx1':=hx1;rw[if_pos (.inl hx1)]at hR2;refine wW ?_;refine gG ?_;refine aI (az t most c.2) (fZ t most c.2 3) aC nofun ?_;rintro h' v ar ⟨rfl,rfl,rfl⟩;generalize ct 3 c.2=S3 at *
    refine⟨aC,rfl,?_⟩;refine bz ?_;exact hR2 () _ trivial (.le aC)
   ·by_cases hx2:30<b.1+1
    ·have hx2':=hx2;rw[if_pos (.inr hx2)]at hR2;refine wW ?_;refine gG ?_;refine aI (az t most c.2) (fZ t most c.2 3) aC nofun ?_;rintro h' v ar ⟨rfl,rfl,rfl⟩;generalize ct 3 c.2=S3 at *
     refine⟨aC,rfl,?_⟩;refine bz ?_;exact hR2 () _ trivial (.le aC)
    ·rw[if_neg acN]at hR2;refine wW ?_;refine gG ?_;exact hR2 () _ trivial (.le aC)
  ·have hfin:F=dm t (a.1+257) (b.1+1) (firstS t (c.1+4) (c.1+4) (List.replicate 19 0) S2):=by
    rw[<-hF];by_cases hlt:8*t.length<S.p+14
    ·rw[if_pos hlt]at hS1 |-;have h1:S1.err≠0:=by rw[<-hS1];simp
     rw[nB h1]at hea;subst hea;rw[nB h1]at heb;subst heb;rw[nB h1]at hec;subst hec;rw[if_neg (by simp)]at hS2;simp only at hS2;subst hS2;rw[sV _ _ _ _ _ h1];unfold dm;rw[if_pos h1,hS1]
    ·rw[if_neg hlt]at hS1 |-;subst hS1;obtain⟨w1,w2,w3⟩:=T0 t S he hlt;rw[w1]at hea;subst hea;simp only at heb;rw[w2]at heb;subst heb;simp only at hec;rw[w3]at hec;subst hec;simp only at hS2 |-;by_cases hx:286<numAt t S.p 5+257\/30<numAt t (S.p+5) 5+1
     ·rw[if_pos hx]at hS2 |-;rw[fW (by exact he)]at hS2;subst hS2;rw[sV _ _ _ _ _ (by simp)];unfold dm;rw[if_pos (by simp)]
     ·rw[if_neg hx]at hS2 |-;rw[hS2]
   rw[hfin]at hR;refine MA t most S2 (a.1+257) (b.1+1) (c.1+4) hN hok2 acN hR (λh=>?_);rw[<-hS2]at h;split at h;exact absurd h (j9 (by decide));omega
theorem DA {t:Bs} {fl:List Nat} {N:Nat} (hfn:fl.length=19):∀(k:Nat) (l:List Nat) (S:SS),(∀n∈l,n<=15)->l.length<=N->(∀n∈(dF t fl N k l S).1,n<=15)/\(dF t fl N k l S).1.length<=N
 | 0,l,S,h1,h2=>⟨h1,h2⟩
 | k+1,l,S,h1,h2=>by
  rw[oZ];split;exact⟨h1,h2⟩
  ·rename_i hn;have he:S.err=0:=acN
   have hs:(aQ t fl S).1<19:=by
    by_cases h:(aQ t fl S).2.err=0
    ·have:=(uS he h).2;omega
    ·unfold aQ at h |-;split at h
     ·rename_i hh;rw[if_pos hh];simp
     ·rename_i hh;rw[if_neg hh];split at h
      ·rename_i hh;rw[if_pos hh];simp
      exact absurd he h
   have hb:=Gy (t:=t) (S:=(aQ t fl S).2) h1 hs;split;exact⟨h1,h2⟩
   ·rename_i hc;have ho:=Ey (N:=N) (l:=l) (b:=bP t l (aQ t fl S).1 (aQ t fl S).2) acN;refine DA hfn k _ _ ?_ (by simp only[acQ,adh];exact ho.2.2);intro n hn;rcases adq.1 hn with hn | hn;exact h1 n hn
    ·rw[(aeH.1 hn).2];exact hb.2
theorem Cd {t:Bs} {nc:Nat}:∀(k:Nat) (l:List Nat) (S:SS),(firstS t nc k l S).1.length=l.length
 | 0,l,S=>rfl
 | k+1,l,S=>by
  rw[qi];split;rfl
  ·rw[Cd k];simp
theorem MB {t:Bs} {S:SS} (h:(cF t S).2.err=0):(∀n∈(cF t S).1.1,n<=15)/\(cF t S).1.1.length<=320/\(∀n∈(cF t S).1.2,n<=15)/\(cF t S).1.2.length<=320:=by
 rw[sQ]at h |-;split
 ·simp
 ·rename_i h1;rw[if_neg h1]at h;split
  ·simp
  ·rename_i h2;rw[if_neg h2]at h;have hfl:=Cd (t:=t) (nc:=numAt t (S.p+10) 4+4) (numAt t (S.p+10) 4+4) (List.replicate 19 0) {S with p:=S.p+14};generalize firstS t (numAt t (S.p+10) 4+4) (numAt t (S.p+10) 4+4) (List.replicate 19 0) {S with p:=S.p+14}=a at *
   generalize numAt t S.p 5+257=nl at *
   generalize numAt t (S.p+5) 5+1=nd at *
   rw[adh]at hfl;unfold dm;split
   ·simp
   ·split
    ·simp
    ·have hg:=DA (t:=t) (fl:=a.1) (N:=nl+nd) hfl (nl+nd) [] a.2 (by simp) (by simp);unfold nq;generalize dF t a.1 (nl+nd) (nl+nd) [] a.2=b at *
     split
     ·simp
     ·split
      ·simp
      ·refine⟨uU hg.1 nl,?_,sN hg.1 nl,?_⟩
       ·simp only[acS];omega
       ·simp only[acU];omega
theorem JN {t:Bs} {S:SS} (he:S.err=0) (h:¬8*t.length<S.p+3) :
    aF t 1 S=(numAt t S.p 1,{S with p:=S.p+1})/\aF t 2 {S with p:=S.p+1}=(numAt t (S.p+1) 2,{S with p:=S.p+3}):=
 ⟨iG he acN,iG he (by simp only;omega)⟩
theorem up8 (n:Nat):c6 n/8=(n+7)/8:=by unfold c6;omega
def oY (t:Bs) (most k:Nat) (S:SS):SS:=
 if S.err≠0 then S else if k=0 then fO t most S else if k=1 then dW t most fq fp S
  else if k=2 then(if(cF t S).2.err≠0 then(cF t S).2 else dW t most (cF t S).1.1 (cF t S).1.2 (cF t S).2)else {S with err:=3}
set_option maxHeartbeats 2000000 in
theorem xA (t:Bs) (most k:Nat) (S:SS) (fin:Nat) {E:Env} {Q:KQ} {R2:KS} (hN:E.N<=1000000) (hok:bQ t most S) (hk:k<4)
    (hR2:∀st',Wk st' ⟨[(9,.aa 79038 0),(10,.int .i64 fin)],az t most (oY t most k S)⟩->R2.ap st') :
    vcW Tryz.prog E Cod.WS (KQ.gb R2 Q) ⟨[(9,.aa 79038 0),(10,.int .i64 fin),(11,.int .i64 k)],az t most S⟩:=by
 unfold oY at hR2;by_cases he:S.err=0
 ·rw[if_neg (by simpa using he)]at hR2;by_cases h0:k=0
  ·rw[if_pos h0]at hR2;subst h0;refine b5 he ?_;refine gG ?_;refine aI (az t most S) (W6 t most S hok) (bR he) nofun ?_;rintro h' v ar ⟨rfl,rfl,rfl⟩;generalize fO t most S=S3 at *
   refine⟨aC,rfl,?_⟩;refine bz ?_;exact hR2 _ (.le aC)
  ·rw[if_neg h0]at hR2;have i0:¬((k:Int)=0):=acN;by_cases h1:k=1
   ·rw[if_pos h1]at hR2;subst h1;have hp:=Ff t most S hok fq fp kH.1 (by rw[kH.2.1];decide) kG.1 (by rw[kG.2.1];decide);have hfx:=WQ;generalize fq=l at *
    generalize fp=d at *
    generalize hF:dW t most l d S=F at *
    refine b5 he ?_;refine gG ?_;refine ah hfx rfl rfl ?_;refine wW ?_;refine aI (az t most S) hp (bR he) nofun ?_;rintro h' v ar ⟨rfl,rfl,rfl⟩;refine⟨aC,rfl,?_⟩;refine bz ?_;exact hR2 _ (.le aC)
   ·rw[if_neg h1]at hR2;have i1:¬((k:Int)=1):=acN;by_cases h2:k=2
    ·rw[if_pos h2]at hR2;subst h2;have hd:=WM t most S hok he;have hg:=MB (t:=t) (S:=S);have hokd:bQ t most (cF t S).2:=hok.mv tN;generalize cF t S=D at *
     refine b5 he ?_;refine gG ?_;refine aI (az t most S) hd (bR he) nofun ?_;rintro h' v ar ⟨rfl,rfl,rfl⟩;by_cases hde:D.2.err=0
     ·rw[if_neg (by simpa using hde)]at hR2;rw[if_pos hde];obtain⟨g1,g2,g3,g4⟩:=hg hde;have hp:=Ff t most D.2 hokd D.1.1 D.1.2 g1 g2 g3 g4;generalize dW t most D.1.1 D.1.2 D.2=F at *
      refine⟨aC,vV,?_⟩;refine b5 hde ?_;refine aI (az t most D.2) hp (bR hde) nofun ?_;rintro h' v ar ⟨rfl,rfl,rfl⟩;refine⟨aC,rfl,?_⟩;refine bz ?_;exact hR2 _ (.le aC)
     ·rw[if_pos hde]at hR2;rw[if_neg hde];have hi:¬((D.2.err:Int)=0):=acN;refine⟨aC,vV,?_⟩;refine b5 hi ?_;refine aV hi ?_;exact hR2 _ (.le aC)
    ·rw[if_neg h2]at hR2;obtain rfl:k=3:=acN;refine b5 he ?_;refine gG ?_;refine aI (az t most S) (fZ t most S 3) (bR he) nofun ?_;rintro h' v ar ⟨rfl,rfl,rfl⟩;refine⟨aC,rfl,?_⟩;rw[fW he];refine bz ?_;exact hR2 _ (.le aC)
 ·have hi:¬((S.err:Int)=0):=acN;rw[if_pos he]at hR2;refine b5 hi ?_;exact hR2 _ (.le aC)
theorem JO {t:Bs} {most:Nat} {S:SS} (he:S.err=0) (h:¬8*t.length<S.p+3) :
    fa t most S=(decide (numAt t S.p 1=1),oY t most (numAt t (S.p+1) 2) {S with p:=S.p+3}):=by
 have hk:∀k,oY t most k {S with p:=S.p+3}=if k=0 then fO t most {S with p:=S.p+3} else if k=1 then dW t most fq fp {S with p:=S.p+3}
  else if k=2 then(if(cF t {S with p:=S.p+3}).2.err≠0 then(cF t {S with p:=S.p+3}).2 else dW t most (cF t {S with p:=S.p+3}).1.1 (cF t {S with p:=S.p+3}).1.2 (cF t {S with p:=S.p+3}).2)else {S with p:=S.p+3,err:=3}:=λk=>if_neg (by simpa using he)
 rw[hk];exact if_neg h
set_option maxHeartbeats 2000000 in
theorem WU (x:Bs) (o most:Nat) (ho:o<=x.length) (ht:(x.drop o).length<=1000000) (hx:x.length<=4000000000000000000) (hm:most<=65536) :
    ao Tryz.prog 145 [.str x,.int .i64 o,.int .i64 most] (.af [.str (fu (x.drop o) most).1,.int .i64 ((fu (x.drop o) most).2.1:Nat),.int .i64 ((fu (x.drop o) most).2.2:Nat)]):=by
 refine Cod.WV (λE R hN hR=>?_);have c1:¬((o:Int)<0):=acN;have c2:¬((x.length:Int)<(o:Int)):=acN;have c3:¬((most:Int)<0):=acN;have c4:¬((65536:Int)<(most:Int)):=acN;have hbits:=Ww (x.drop o) ht;refine bV c1 c2 c3 c4 ?_;refine kJ c1 c2 c3 c4 ?_;generalize x.drop o=t at *
 have hbl:=sc t;refine ah hbits rfl rfl ?_;refine wW ?_;unfold fu at hR;simp only at hR;generalize hRS:iM t most ⟨0,[],0⟩=RS at hR
 refine aD hN (λS:SS=>⟨[(9,.aa 79038 0)],az t most S⟩) (λS=>bQ t most S/\(S.err=0->iM t most S=RS)/\(S.err≠0->RS=S)) (λS=>if S.err=0 then 8*t.length+1-S.p else 0) ⟨0,[],0⟩
  (.mn 79038 2 73035 1 [.ro 1 (cp (bw t 0)),.int .i64 0,.al,.int .i64 most,.int .i64 0] vV rfl rfl (.le aC)) ⟨⟨ht,acN,by simp,by simp⟩,λ_=>hRS,λh=>absurd rfl h⟩ ?_
 rintro S R1 ⟨hok,hg,hb⟩ hR1;by_cases he:S.err=0
 ·have hg:=hg he;rw[run_eq hok.pl]at hg;have hmb:=nA (t:=t) (most:=most) (S:=S);have hokb:bQ t most (fa t most S).2:=hok.mv hmb.1;generalize hS1:(if 8*t.length<S.p+3 then {S with err:=6} else S)=S1
  have hok1:bQ t most S1:=by rw[<-hS1];split;exact hok.mv jK;exact hok
  have hpl:=hok.pl;have htl:=hok.tl;refine b5 he ?_;refine cf hN (λ_:Unit=>⟨[(9,.aa 79038 0)],az t most S1⟩) (λ_=>True) (λR2 hR2=>?_) (λ_ _=>?_)
  ·subst hS1;clear hR hR1;by_cases hlt:8*t.length<S.p+3
   ·rw[if_pos hlt]at hR2;have hi:((8*t.length:Nat):Int)-(S.p:Int)<3:=acN;refine kr he hbl hi ?_;refine gy he hbl hi ?_;refine aI (az t most S) (fZ t most S 6) (bR he) nofun ?_;rintro h' v ar ⟨rfl,rfl,rfl⟩;refine⟨aC,rfl,?_⟩;rw[fW he];refine bz ?_;exact hR2 () _ trivial (.le aC)
   ·rw[if_neg hlt]at hR2;have hi:¬((8*t.length:Nat):Int)-(S.p:Int)<3:=acN;refine kr he hbl hi ?_;refine gy he hbl hi ?_;exact hR2 () _ trivial (.le (bR he))
  ·have ha:=jf t most S1 hok1 1 (by decide);have hoka:bQ t most (aF t 1 S1).2:=hok1.mv fY;have hla:=gF (t:=t) (n:=1) (S:=S1);generalize hea:aF t 1 S1=a at *
   have hbn:=jf t most a.2 hoka 2 (by decide);have hokb2:bQ t most (aF t 2 a.2).2:=hoka.mv fY;have hlb:=gF (t:=t) (n:=2) (S:=a.2);generalize heb:aF t 2 a.2=b at *
   have hkk:(fa t most S).2=oY t most b.1 b.2/\((fa t most S).2.err=0->((fa t most S).1=true↔a.1=1)):=by
    by_cases hlt:8*t.length<S.p+3
    ·rw[if_pos hlt]at hS1;have h1:S1.err≠0:=by rw[<-hS1];simp
     rw[nB h1]at hea;subst hea;rw[nB h1]at heb;subst heb;have hbk:fa t most S=(true,{S with err:=6}):=if_pos hlt;rw[hbk];refine⟨?_,λh=>absurd h (by simp)⟩;unfold oY;rw[if_pos h1,hS1]
    ·rw[if_neg hlt]at hS1;subst hS1;obtain⟨w1,w2⟩:=JN he hlt;rw[w1]at hea;subst hea;simp only at heb;rw[w2]at heb;subst heb;rw[JO he hlt];exact⟨rfl,λ_=>by simp⟩
   obtain⟨hk1,hk2⟩:=hkk;generalize fa t most S=B at *
   refine bz ?_;refine aI (az t most S1) ha aC nofun ?_;rintro h' v ar ⟨rfl,rfl,rfl⟩;refine⟨aC,rfl,?_⟩;refine bz ?_;refine aI (az t most a.2) hbn aC nofun ?_;rintro h' v ar ⟨rfl,rfl,rfl⟩;refine⟨aC,rfl,?_⟩;refine bz ?_;refine cf hN (λ_:Unit=>⟨[(9,.aa 79038 0),(10,.int .i64 a.1)],az t most B.2⟩) (λ_=>True) (λR2 hR2=>?_) (λ_ _=>?_)
   ·have hkd:=xA t most b.1 b.2 a.1 (E:=E) (R2:=R2) (Q:=KQ.c8 1 (KQ.gb R1 (KQ.c8 0 (KQ.seq Tryz.prog E Cod.WT (KQ.post [RVar.tmp 6,RVar.tmp 7,RVar.tmp 8] 3 R))))) hN hokb2 hlb (λst' hw=>hR2 () _ trivial (by rw[hk1];exact hw));simp only[az]at hkd;exact hkd
   ·by_cases hBe:B.2.err=0
    ·by_cases ha1:a.1=1
     ·have hB1:=(hk2 hBe).2 ha1;rw[if_pos (.inr hB1)]at hg;subst hg;rw[if_neg (by simpa using hBe)]at hR;have hup:=E9 B.2.p (by have:=hokb.pl;omega);have hi:((a.1:Nat):Int)=1:=acN;have hup2:=up8 B.2.p;have hub:c6 B.2.p<=B.2.p+8:=by unfold c6;omega
      have:=hokb.pl;have:=hokb.ol;refine jz hBe hi ?_;refine cO hBe hi ?_;refine ah hup rfl rfl ?_;generalize c6 B.2.p=ub at *
      have e8:(ub:Int)/8=(((B.2.p+7)/8:Nat):Int):=acN;refine ab e8 ?_;exact hR.wk (h':=[]) (r':=.af [.str B.2.out,.int .i64 ((B.2.p+7)/8:Nat),.int .i64 (0:Nat)]) (ar':=[.undef,.undef,.undef]) rfl (.le vV) ⟨rfl,rfl⟩
     ·have hB1:¬B.1=true:=λh=>ha1 ((hk2 hBe).1 h);have hi:¬((a.1:Nat):Int)=1:=acN;rw[if_neg (λh=>h.elim (λh=>h hBe) hB1)]at hg;refine jz hBe hi ?_;refine cO hBe hi ?_;exact hR1 B.2 _ (by simp only[if_pos hBe,if_pos he];have:=hmb.2 hBe;omega) ⟨hokb,λ_=>hg,λh=>absurd hBe h⟩ (.le (bR hBe))
    ·rw[if_pos (.inl hBe)]at hg;have hi:¬((B.2.err:Int)=0):=acN;refine b5 hi ?_;refine aV hi ?_;exact hR1 B.2 _ (by simp only[if_neg hBe,if_pos he];omega) ⟨hokb,λh=>absurd h hBe,λ_=>hg.symm⟩ (.le aC)
 ·obtain rfl:=hb he;rw[if_pos he]at hR;have hi:¬((RS.err:Int)=0):=acN;refine b5 hi ?_;refine aV hi ?_;exact hR.wk (h':=[]) (r':=.af [.str [],.int .i64 (0:Nat),.int .i64 (RS.err:Nat)]) (ar':=[.undef,.undef,.undef]) rfl (.le vV) ⟨rfl,rfl⟩
def gR:Nat:=65032
def vf:Nat:=60022
attribute [go_sem] gR vf
def aR (s:Bs) (o most a hv:Nat) (out:Bs):HP:=[(gR,.var [.aa RD 0,.sl vf 0 out.length,.int .i64 most]),(vf,.arr 1 (out.map ub)),(RD,.var (aU s a hv o))]
theorem rD {p:Prop} (h:p:=by simp(disch:=first | omega | (simp only[Lx];omega))only[go_sem,simprocAttr,aR,aU,bq]):p:=h
theorem zD {a b:Prop} (k:b) (h:b->a:=by intro h;simp(disch:=first | omega | (simp only[Lx];omega))only[go_sem,simprocAttr,aR,aU,bq];exact h):a:=h k
theorem uZ {E0:Prop} {p:Prop} (e0:E0) (h:E0->p:=by intro e0;simp(disch:=first | omega | (simp only[Lx];omega))only[go_sem,simprocAttr,aR,aU,bq,e0]):p:=h e0
theorem bA {p:Prop} (h:p:=by simp(disch:=first | omega | (simp only[Lx];omega))only[go_sem,simprocAttr,aR,aU]):p:=h
theorem lW {a b:Prop} (k:b) (h:b->a:=by intro h;simp(disch:=first | omega | (simp only[Lx];omega))only[go_sem,simprocAttr,aR,aU];exact h):a:=h k
theorem GX {E0:Prop} {p:Prop} (e0:E0) (h:E0->p:=by intro e0;simp(disch:=first | omega | (simp only[Lx];omega))only[go_sem,simprocAttr,aR,aU,e0]):p:=h e0
theorem u5 {E0:Prop} {a b:Prop} (e0:E0) (k:b) (h:E0->b->a:=by intro e0 h;simp(disch:=first | omega | (simp only[Lx];omega))only[go_sem,simprocAttr,aR,aU,e0];exact h):a:=h e0 k
theorem vVJ {p:Prop} (h:p:=by simp(disch:=first | omega | (simp only[Lx];omega))only[go_sem,simprocAttr,aR]):p:=h
theorem ku {a b:Prop} (k:b) (h:b->a:=by intro h;simp(disch:=first | omega | (simp only[Lx];omega))only[go_sem,simprocAttr,aR];exact h):a:=h k
theorem zG {E0 E1:Prop} {a b:Prop} (e0:E0) (e1:E1) (k:b) (h:E0->E1->b->a:=by intro e0 e1 h;simp(disch:=first | omega | (simp only[Lx];omega))only[go_sem,simprocAttr,aR,e0,e1];exact h):a:=h e0 e1 k
theorem C8 (s:Bs) (o most a hv:Nat) (out:Bs) (hm:most<=1000000) (ho:out.length<=most) (c:UInt8):Eng.Spec Tryz.prog 235 (aR s o most a hv out) [.aa gR 0,.int .u8 (c.toNat:Int)]
    (λh' v ar=>h'=aR s o most a hv (if out.length=most then out else out++[c])/\v=.int .i64 (if out.length=most then 2 else 0:Nat)/\ar=[.aa gR 0,.int .u8 (c.toNat:Int)]):=by
 refine Cod.P1 (λE R hN hR=>?_);have hc:=c.toNat_lt;by_cases hf:out.length=most
 ·rw[if_pos hf,if_pos hf]at hR;refine lW ?_;refine gG ?_;exact hR.le bA ⟨rfl,rfl,rfl⟩
 ·rw[if_neg hf,if_neg hf]at hR;refine lW ?_;refine gG ?_;refine hR.le ?_ ⟨rfl,rfl,rfl⟩;refine lW ?_;rw[ae6]
theorem SB:∀i:Nat,i<28->8<=i->IntKind.i64.wrap (3+IntKind.i64.wrap ((4+(i:Int)%4)*2^min ((i:Int)/4-1).toNat 64))=((3+(4+i%4)*2^(i/4-1):Nat):Int)/\(i:Int)/4-1=((i/4-1:Nat):Int):=by decide +kernel
theorem L7:∀i:Nat,i<30->4<=i->IntKind.i64.wrap (1+IntKind.i64.wrap ((2+(i:Int)%2)*2^min ((i:Int)/2-1).toNat 64))=((1+(2+i%2)*2^(i/2-1):Nat):Int)/\(i:Int)/2-1=((i/2-1:Nat):Int):=by decide +kernel
theorem PC (i:Nat) (hi:i<=28):ao Tryz.prog 248 [.int .i64 i] (.af [.int .i64 ((bh i).1:Nat),.int .i64 ((bh i).2:Nat)]):=by
 refine Cod.PD (λE R hN hR=>?_);by_cases h28:i=28
 ·subst h28;refine wW ?_;exact hR.le vV ⟨rfl,rfl⟩
 ·by_cases h8:i<8
  ·have e:bh i=(3+i,0):=by unfold bh;rw[if_neg h28,if_pos h8]
   rw[e]at hR;refine wW ?_;refine gG ?_;exact hR.le vV ⟨rfl,rfl⟩
  ·have e:bh i=(3+(4+i%4)*2^(i/4-1),i/4-1):=by unfold bh;rw[if_neg h28,if_neg h8]
   rw[e]at hR;refine wW ?_;refine gG ?_;obtain⟨w1,w2⟩:=SB i acN acN;rw[w1,w2];exact hR.le vV ⟨rfl,rfl⟩
theorem Pn (i:Nat) (hi:i<=29):ao Tryz.prog 249 [.int .i64 i] (.af [.int .i64 ((cq i).1:Nat),.int .i64 ((cq i).2:Nat)]):=by
 refine Cod.Po (λE R hN hR=>?_);by_cases h4:i<4
 ·have e:cq i=(1+i,0):=by unfold cq;rw[if_pos h4]
  rw[e]at hR;refine wW ?_;refine gG ?_;exact hR.le vV ⟨rfl,rfl⟩
 ·have e:cq i=(1+(2+i%2)*2^(i/2-1),i/2-1):=by unfold cq;rw[if_neg h4]
  rw[e]at hR;refine wW ?_;refine gG ?_;obtain⟨w1,w2⟩:=L7 i acN acN;rw[w1,w2];exact hR.le vV ⟨rfl,rfl⟩
def PI (s:Bs) (o most:Nat) (F:SS) (h':HP) (v:AV):Prop:=
 ∃a' hv' out',h'=aR s o most a' hv' out'/\v=.int .i64 (F.err:Nat)/\(F.err=0->out'=F.out/\bK s a' hv' (8*o+F.p))
theorem kW {s:Bs} {o most:Nat} {F:SS} {h':HP} {v:AV} (h:∃a' hv' S',h'=aR s o most a' hv' S'.out/\bK s a' hv' (8*o+S'.p)/\S'.out.length<=most/\v=.int .i64 (F.err:Nat)/\(F.err=0->S'=F)):PI s o most F h' v:=by
 obtain⟨a',hv',S',h1,h2,_,h4,h5⟩:=h;exact⟨a',hv',S'.out,h1,h4,λhe=>by obtain rfl:=h5 he;exact⟨rfl,h2⟩⟩
theorem xJ (s:Bs) (o p:Nat):dU s (8*o+p)=8*(s.drop o).length-p:=by unfold dU;rw[acU];omega
theorem BL (s:Bs) (q:Nat) (h:q+2<=s.length):(s.drop q).take 2=[s.getD q 0,s.getD (q+1) 0]:=by
 have h1:q<s.length:=acN;have h2:q+1<s.length:=acN;rw[adt h1,adt h2,acO,acO,List.getElem?_eq_getElem h1,List.getElem?_eq_getElem h2];rfl
theorem DG (x y:UInt8):ao Tryz.prog 244 [.str [x,y]] (.int .u64 ((x.toNat+y.toNat*2^8:Nat):Int)):=by
 refine Cod.N6 (λE R hN hR=>?_);have hx:=x.toNat_lt;have hy:=y.toNat_lt;refine wW ?_;refine aD hN (λi:Nat=>⟨[(0,.str [x,y]),(3,.int .u64 (if i=0 then 0 else if i=1 then x.toNat else x.toNat+y.toNat*2^8:Nat)),(7,.int .i64 2),(8,.int .i64 i)],[]⟩) (λi=>i<=2) (λi=>2-i) 0 (.le vV) acN ?_
 rintro i R1 hi hR1;obtain rfl | rfl | rfl:i=0\/i=1\/i=2:=acN
 ·have e0:bits .or .u64 0 (IntKind.u64.wrap ((x.toNat:Int)*2^min 0 64))=((x.toNat:Nat):Int):=(yb (x:=0) (k:=0) (b:=x.toNat) (by decide) (by decide) hx).trans (by rw[aeo,Nat.pow_zero,adK]);refine ab e0 ?_;exact hR1 1 _ acN acN (.le vV)
 ·have e1:bits .or .u64 (x.toNat:Int) (IntKind.u64.wrap ((y.toNat:Int)*2^min 8 64))=((x.toNat+y.toNat*2^8:Nat):Int):=yb (k:=8) hx (by decide) hy;refine ab e1 ?_;exact hR1 2 _ acN acN (.le vV)
 ·refine wW ?_;exact hR.le vV ⟨rfl,rfl⟩
theorem qO (t:Bs) (most:Nat) {S:SS} (h:S.err≠0):∀n,rawS t most n S=S
 | 0=>rfl
 | n+1=>by rw[yA,if_pos h]
theorem Fm (t:Bs) (most:Nat):∀(n:Nat) (S:SS) (q:Nat),S.err=0->S.p=8*q->q<=t.length->S.out.length<=most ->
    (rawS t most n S).err=(if most<S.out.length+min n (t.length-q)then 2 else if t.length<q+n then 6 else 0)/\((rawS t most n S).err=0->rawS t most n S=⟨8*(q+n),S.out++(t.drop q).take n,0⟩)
 | 0,S,q,he,hp,hq,ho=>by
  refine⟨?_,λ_=>?_⟩
  ·rw[if_neg acN,if_neg acN];exact he
  ·obtain⟨p,out,err⟩:=S;simp only at he hp;subst he hp
   simp[rawS]
 | n+1,S,q,he,hp,hq,ho=>by
  rw[yA,if_neg (by simpa using he)];by_cases hq1:q=t.length
  ·have hn:=mo (n:=8) he (t:=t) acN;rw[hn];have hput:eB most (UInt8.ofNat (0,{S with err:=6}).1) (0,{S with err:=6}).2={S with err:=6}:=if_pos (by simp);rw[hput,qO _ _ (by simp)];refine⟨?_,λh=>absurd h (by simp)⟩;rw[if_neg acN,if_pos acN]
  ·have hn:=iG (n:=8) he (t:=t) acN;rw[hn];simp only;rw[hp,tW,ae6];unfold eB;rw[if_neg (by simpa using he)];by_cases hf:most<=S.out.length
   ·simp only[if_pos hf];rw[qO _ _ (by simp)];refine⟨?_,λh=>absurd h (by simp)⟩;rw[if_pos acN]
   ·simp only[if_neg hf];obtain⟨h1,h2⟩:=Fm t most n {p:=8*q+8,out:=S.out++[t.getD q 0],err:=S.err} (q+1) he (by simp only;omega) acN (by simp only[acQ,acW];omega);refine⟨?_,λh=>?_⟩
    ·rw[h1];simp only[acQ,acW];rw[show S.out.length+1+min n (t.length-(q+1))=S.out.length+min (n+1) (t.length-q)by omega,show q+1+n=q+(n+1)by omega]
    ·rw[h2 h];have hlt:q<t.length:=acN;rw[adt hlt,adO,acO,List.getElem?_eq_getElem hlt,show q+1+n=q+(n+1)by omega];simp
theorem aaw (t:Bs) (most:Nat) (S:SS) (he:S.err=0) (hp:S.p<=8*t.length) (ho:S.out.length<=most) (q:Nat) (hq:c6 S.p=8*q) :
    if t.length<q+4 then(fO t most S).err=6 else
     if(t.getD q 0).toNat+(t.getD (q+1) 0).toNat*2^8+((t.getD (q+2) 0).toNat+(t.getD (q+3) 0).toNat*2^8)≠65535 then(fO t most S).err=3 else
     (fO t most S).err=(if most<S.out.length+min ((t.getD q 0).toNat+(t.getD (q+1) 0).toNat*2^8) (t.length-(q+4))then 2 else if t.length<q+4+((t.getD q 0).toNat+(t.getD (q+1) 0).toNat*2^8)then 6 else 0) /\
     ((fO t most S).err=0->fO t most S=⟨8*(q+4+((t.getD q 0).toNat+(t.getD (q+1) 0).toNat*2^8)),S.out++(t.drop (q+4)).take ((t.getD q 0).toNat+(t.getD (q+1) 0).toNat*2^8),0⟩):=by
 have hn16:∀i,numAt t (8*i) 16=(t.getD i 0).toNat+(t.getD (i+1) 0).toNat*2^8:=by
  intro i;rw[show(16:Nat)=8+8 from rfl,T9,tW,show 8*i+8=8*(i+1)by omega,tW]
 have hup:jP S={S with p:=8*q}:=by unfold jP;unfold c6 at hq;rw[hq]
 have hq2:q<=t.length:=by unfold c6 at hq;omega
 unfold fO;simp only;rw[hup];by_cases h4:t.length<q+4
 ·rw[if_pos h4];by_cases h2:t.length<q+2
  ·rw[mo (by exact he) (by simp only;omega)];simp only;rw[nB (by simp)];simp only;rw[if_pos (by decide)];rw[qO _ _ (j9 (by decide))];rfl
  ·rw[iG (by exact he) (by simp only;omega)];simp only;rw[mo (by exact he) (by simp only;omega)];simp only;have hfe:ct 3 {p:=8*q+16,out:=S.out,err:=6}=({p:=8*q+16,out:=S.out,err:=6}:SS):=if_neg (by simp);rw[hfe,ite_self,qO _ _ (by simp)]
 ·rw[if_neg h4];rw[iG (by exact he) (by simp only;omega)];simp only;rw[iG (by exact he) (by simp only;omega)];simp only;rw[show 8*q+16=8*(q+2)by omega,hn16,hn16];by_cases hx:(t.getD q 0).toNat+(t.getD (q+1) 0).toNat*2^8+((t.getD (q+2) 0).toNat+(t.getD (q+2+1) 0).toNat*2^8)≠65535
  ·rw[if_pos hx,if_pos hx,qO _ _ (j9 (by decide)),fW (by exact he)]
  ·rw[if_neg hx,if_neg hx];exact Fm t most _ _ (q+4) he (by simp only;omega) acN ho
theorem Y7 (s:Bs) (a hv fr p:Nat) (hs:s.length<=1000000000000) (h:bK s a hv p) (hfr:8*fr<=p):Eng.Spec Tryz.prog 216 [] [.aq (.agg (aU s a hv fr))] (λh' v ar=>h'=[]/\v=.int .i64 ((p+7)/8-fr:Nat)/\ar=[.aq (.agg (aU s a hv fr))]):=by
 refine Cod.Y8 (λE R hN hR=>?_);obtain⟨h1,h2,h3⟩:=h;have eq:(hv:Int).tdiv 8=((hv/8:Nat):Int):=by rw[la acN];omega
 have e2:(a:Int)-((hv/8:Nat):Int)-(fr:Int)=(((p+7)/8-fr:Nat):Int):=acN;refine zH eq e2 ?_;exact hR.le vV ⟨rfl,rfl,rfl⟩
theorem Yr (s:Bs) (a hv fr p:Nat) (hs:s.length<=1000000000000) (h:bK s a hv p):Eng.Spec Tryz.prog 245 [] [.aq (.agg (aU s a hv fr))] (λh' v ar=>h'=[]/\v=.int .i64 (dU s p:Nat)/\ar=[.aq (.agg (aU s a hv fr))]):=by
 refine Cod.Ys (λE R hN hR=>?_);obtain⟨h1,h2,h3⟩:=h;have e2:8*((s.length:Int)-(a:Int))+(hv:Int)=((dU s p:Nat):Int):=by unfold dU;omega
 refine abX e2 ?_;exact hR.le vV ⟨rfl,rfl,rfl⟩
theorem aaV (s:Bs) (q:Nat) (h:q+4<=s.length):(s.drop q).take 4=[s.getD q 0,s.getD (q+1) 0,s.getD (q+2) 0,s.getD (q+3) 0]:=by
 have e:(s.drop q).take 4=(s.drop q).take 2++(s.drop (q+2)).take 2:=by rw[show(4:Nat)=2+2 from rfl,List.take_add,ad6]
 rw[e,BL s q acN,BL s (q+2) acN];rfl
theorem acu {n:Nat} (h:n<65536):n ^^^ 65535=65535-n:=by
 have h1:(BitVec.ofNat 16 n ^^^ BitVec.allOnes 16).toNat=(~~~ (BitVec.ofNat 16 n)).toNat:=by rw[BitVec.xor_allOnes]
 rw[BitVec.toNat_xor,BitVec.toNat_not,ac1,BitVec.toNat_allOnes,acY acN]at h1;omega
set_option maxHeartbeats 1000000 in
theorem Qd (s:Bs) (o most a hv:Nat) (S:SS) (hs:s.length<=1000000000) (ho:o<=s.length) (hm:most<=1000000) (hr:bK s a hv (8*o+S.p)) (hol:S.out.length<=most) (he:S.err=0) :
    Eng.Spec Tryz.prog 231 (aR s o most a hv S.out) [.aa gR 0] (λh' v ar=>PI s o most (fO (s.drop o) most S) h' v/\ar=[.aa gR 0]):=by
 refine Cod.Qe (λE R hN hR=>?_);obtain⟨q,hq⟩:∃q,c6 S.p=8*q:=⟨(S.p+7)/8,by unfold c6;omega⟩;have hr':=hr;obtain⟨r1,r2,r3⟩:=hr';have hpl:S.p<=8*(s.drop o).length:=by rw[acU];omega
 have hup:c6 (8*o+S.p)=8*(o+q):=by unfold c6 at hq |-;omega
 have hud:c6 (8*o+S.p)/8=o+q:=acN;have law:=aaw (s.drop o) most S he hpl hol q hq;generalize fO (s.drop o) most S=F at *
 have gd:∀i,(s.drop o).getD i 0=s.getD (o+i) 0:=λi=>by rw[acO,List.getElem?_drop,<-acO]
 rw[gd,gd,gd,gd,acU,ad6]at law;have hb:=yB s a hv o (8*o+S.p) 4 acN (by decide) hr;rw[hud]at hb;refine ku ?_;refine aI [(RD,.var (aU s a hv o))] hb vV nofun ?_;rintro h' v ar ⟨a1,hv1,hr1,hz1,rfl,rfl,rfl⟩;by_cases h4:s.length<o+q+4
 ·rw[if_neg acN]at hr1;rw[if_neg acN,decide_eq_false acN];rw[if_pos acN]at law;refine⟨cK,rfl,?_⟩;refine kv ?_;exact hR.le (h':=aR s o most a1 hv1 S.out) bA ⟨kW ⟨a1,hv1,{S with p:=8*q,err:=6},rfl,by simp only;rw[show 8*o+8*q=8*(o+q)by omega,<-hup];exact hr1,hol,by rw[law];rfl,λh=>absurd h (by rw[law];decide)⟩,rfl⟩
 ·rw[if_pos acN]at hr1;rw[if_pos acN,decide_eq_true acN,aaV s (o+q) acN];rw[if_neg acN]at law;generalize s.getD (o+q) 0=c0 at *
  generalize s.getD (o+(q+1)) 0=c1 at *
  generalize s.getD (o+(q+2)) 0=c2 at *
  generalize s.getD (o+(q+3)) 0=c3 at *
  have hc0:=c0.toNat_lt;have hc1:=c1.toNat_lt;have hc2:=c2.toNat_lt;have hc3:=c3.toNat_lt;have l1:=DG c0 c1;have l2:=DG c2 c3;generalize hn:c0.toNat+c1.toNat*2^8=n at *
  generalize hk:c2.toNat+c3.toNat*2^8=k at *
  have hn6:n<65536:=acN;have hk6:k<65536:=acN;refine⟨cK,rfl,?_⟩;refine kv ?_;refine ah l1 rfl rfl ?_;refine wW ?_;refine ah l2 rfl rfl ?_
  have ex:bits .xor .i64 (n:Int) 65535=((65535-n:Nat):Int):=by
   show IntKind.i64.wrap ((BitVec.ofInt 64 (n:Int) ^^^ BitVec.ofInt 64 ((65535:Nat):Int)).toNat:Int)=_
   rw[ac2,ac2,BitVec.toNat_xor,ac1,ac1,acY acN,acY (by decide),acu hn6];exact eE acN
  refine ab ex ?_;by_cases hx:n+k≠65535
  ·rw[if_pos hx]at law;have hne:¬((65535-n:Nat):Int)=(k:Int):=acN;refine ab hne ?_;exact hR.le (h':=aR s o most a1 hv1 S.out) bA ⟨kW ⟨a1,hv1,{S with p:=8*(q+4),err:=3},rfl,by simp only;rw[hup]at hr1;rw[show 8*o+8*(q+4)=8*(o+q)+8*4 by omega];exact hr1,hol,by rw[law];rfl,λh=>absurd h (by rw[law];decide)⟩,rfl⟩
  ·rw[if_neg hx]at law;have heq:((65535-n:Nat):Int)=(k:Int):=acN;obtain⟨law1,law2⟩:=law;have hr1':bK s a1 hv1 (8*(o+q+4)):=by rw[hup]at hr1;rw[show 8*(o+q+4)=8*(o+q)+8*4 by omega];exact hr1
   have hup1:c6 (8*(o+q+4))=8*(o+q+4):=by unfold c6;omega
   have hb2:=yB s a1 hv1 o (8*(o+q+4)) n acN acN hr1';rw[hup1,afw _ (by decide)]at hb2;refine ab heq ?_;refine aI [(RD,.var (aU s a1 hv1 o))] hb2 cK nofun ?_;rintro h' v ar ⟨a2,hv2,hr2,hz2,rfl,rfl,rfl⟩
   have key:∀(ok:Bool) (x:Bs),ok=decide (n<=s.length-(o+q+4))->x=(if n<=s.length-(o+q+4)then(s.drop (o+q+4)).take n else[]) ->
    vcW Tryz.prog E Cod.Qc (KQ.post [RVar.tmp 2] 1 R) ⟨[(0,.aa 65032 0),(4,.bool ok),(6,.str x),(2000000,.aa 65032 0)],[(40014,.var (aU s a2 hv2 o)),(65032,.var [.aa 40014 0,.sl 60022 0 S.out.length,.int .i64 most]),(60022,.arr 1 (S.out.map ub))]⟩:=by
    intro ok x hok hv4;refine cf hN (λz:Nat×Nat=>⟨[(0,.aa gR 0),(4,.bool ok),(6,.str ((s.drop (o+q+4)).take n)),(2000000,.aa gR 0)],aR s o most z.1 z.2 S.out⟩) (λz=>bK s z.1 z.2 (8*(o+q+4+min n (s.length-(o+q+4))))) (λR2 hR2=>?_) (λz hz=>?_)
    ·clear hR;subst hok;subst hv4;by_cases hfit:n<=s.length-(o+q+4)
     ·rw[if_pos hfit]at hr2;rw[if_pos hfit,decide_eq_true hfit];refine lW ?_;refine hR2 (a2,hv2) _ (by simp only;rw[adk hfit,show 8*(o+q+4+n)=8*(o+q+4)+8*n by omega];exact hr2) (.le ?_);exact bA
     ·rw[if_neg hfit]at hr2;rw[if_neg hfit,decide_eq_false hfit];have hlb:=Yr s a2 hv2 o _ acN hr2;have el:dU s (8*(o+q+4))/8=s.length-(o+q+4):=by unfold dU;omega
      have hb3:=yB s a2 hv2 o _ (s.length-(o+q+4)) acN acN hr2;rw[hup1,afw _ (by decide),if_pos (acT _)]at hb3;generalize dU s (8*(o+q+4))=lb at *
      have elb:(lb:Int)/8=((s.length-(o+q+4):Nat):Int):=acN;simp only[aU]at hlb;refine kv ?_;refine gG ?_;refine pX [] vV hlb trivial (λ_=>rfl) ?_;rintro h' v ar ⟨rfl,rfl,rfl⟩;refine⟨rfl,rfl,?_⟩;refine ab elb ?_;refine aI [(RD,.var (aU s a2 hv2 o))] hb3 cK nofun ?_;rintro h' v ar ⟨a3,hv3,hr3,hz3,rfl,rfl,rfl⟩;rw[if_pos (acT _),decide_eq_true (acT _)]
      have etk:(s.drop (o+q+4)).take (s.length-(o+q+4))=(s.drop (o+q+4)).take n:=by
       rw[acP (by rw[acU];omega),acP (by rw[acU];omega)]
      refine⟨cK,rfl,?_⟩;refine kv ?_;refine hR2 (a3,hv3) _ (by simp only;rw[afc acN,show 8*(o+q+4+(s.length-(o+q+4)))=8*(o+q+4)+8*(s.length-(o+q+4))by omega];exact hr3) (.le ?_);exact GX etk
    ·obtain⟨a3,hv3⟩:=z;simp only at hz |-;have hbl:((s.drop (o+q+4)).take n).length=min n (s.length-(o+q+4)):=by rw[acS,acU]
     generalize hbb:(s.drop (o+q+4)).take n=b at *
     by_cases hbig:most-S.out.length<b.length
     ·have hbi:(most:Int)-(S.out.length:Int)<(b.length:Int):=acN;rw[if_pos acN]at law1;refine u5 hbi ?_;exact hR.le (h':=aR s o most a3 hv3 S.out) bA ⟨kW ⟨a3,hv3,{S with p:=8*(q+4+min n (s.length-(o+q+4))),err:=2},rfl,by simp only;rw[show 8*o+8*(q+4+min n (s.length-(o+q+4)))=8*(o+q+4+min n (s.length-(o+q+4)))by omega];exact hz,hol,by rw[law1];rfl,λh=>absurd h (by rw[law1];decide)⟩,rfl⟩
     ·have hbi:¬(most:Int)-(S.out.length:Int)<(b.length:Int):=acN;rw[if_neg acN]at law1;by_cases hfit:n<=s.length-(o+q+4)
      ·rw[decide_eq_true hfit]at hok;subst hok;rw[if_neg acN]at law1;have law2:=law2 law1;refine u5 hbi ?_;exact hR.le (h':=aR s o most a3 hv3 (S.out++b)) bA ⟨kW ⟨a3,hv3,F,by rw[law2],by rw[law2];simp only;rw[adk hfit]at hz;rw[show 8*o+8*(q+4+n)=8*(o+q+4+n)by omega];exact hz,by rw[law2];simp only[acQ];omega,by rw[law1];rfl,λ_=>rfl⟩,rfl⟩
      ·rw[decide_eq_false hfit]at hok;subst hok;rw[if_pos acN]at law1;refine u5 hbi ?_;exact hR.le (h':=aR s o most a3 hv3 (S.out++b)) bA ⟨kW ⟨a3,hv3,⟨8*(q+4+min n (s.length-(o+q+4))),S.out++b,6⟩,rfl,by simp only;rw[show 8*o+8*(q+4+min n (s.length-(o+q+4)))=8*(o+q+4+min n (s.length-(o+q+4)))by omega];exact hz,by simp only[acQ];omega,by rw[law1];rfl,λh=>absurd h (by rw[law1];decide)⟩,rfl⟩
   by_cases hfit:n<=s.length-(o+q+4)
   ·have key:=key true _ (by rw[decide_eq_true hfit]) rfl;rw[if_pos hfit]at key;rw[if_pos hfit,decide_eq_true hfit];refine⟨cK,rfl,?_⟩;simp only[aU]at key;refine kv ?_;exact key
   ·have key:=key false _ (by rw[decide_eq_false hfit]) rfl;rw[if_neg hfit]at key;rw[if_neg hfit,decide_eq_false hfit];refine⟨cK,rfl,?_⟩;simp only[aU]at key;refine kv ?_;exact key
theorem Ak (most back n:Nat) (S:SS):backS most back (n+1) S=if S.err≠0 then S else backS most back n (eB most (S.out.getD (S.out.length-back) 0) S):=rfl
theorem Ji (most back:Nat) {S:SS} (h:S.err≠0):∀n,backS most back n S=S
 | 0=>rfl
 | n+1=>by rw[Ak,if_pos h]
theorem Sw:∀i,i<=28->(bh i).1<=300/\(bh i).2<=8:=by decide +kernel
theorem L5:∀i,i<=29->(cq i).1<=40000/\(cq i).2<=15/\1<=(cq i).1:=by decide +kernel
set_option maxHeartbeats 2000000 in
theorem P2 (s:Bs) (o most a hv:Nat) (S:SS) (d:List Nat) (sy:Nat) (hs:s.length<=1000000000) (ho:o<=s.length) (hm:most<=1000000) (hr:bK s a hv (8*o+S.p)) (hol:S.out.length<=most) (he:S.err=0)
    (hd:∀n∈d,n<=15) (hdl:d.length<=320) (hdc:bx d=true) (hsy:257<=sy) (hsy2:sy<=400) :
    Eng.Spec Tryz.prog 236 (aR s o most a hv S.out) [.aa gR 0,.int .i64 sy,bq d] (λh' v ar=>PI s o most (dX (s.drop o) most d sy S) h' v/\ar=[.aa gR 0,.int .i64 sy,bq d]):=by
 refine Cod.P3 (λE R hN hR=>?_);have htl:(s.drop o).length=s.length-o:=acU;by_cases h285:285<sy
 ·have hF:dX (s.drop o) most d sy S={S with err:=3}:=by unfold dX;rw[if_pos h285,fW he]
  rw[hF]at hR;refine lW ?_;refine gG ?_;exact hR.le (h':=aR s o most a hv S.out) bA ⟨kW ⟨a,hv,S,rfl,hr,hol,rfl,λh=>absurd h (by simp)⟩,rfl⟩
 ·have elen:(sy:Int)-257=((sy-257:Nat):Int):=acN;have hlt:=Sw (sy-257) acN;have hlenb:=PC (sy-257) acN
  have hrep:dX (s.drop o) most d sy S=(let a:=aF (s.drop o) (bh (sy-257)).2 S
   let k:=aQ (s.drop o) d a.2
   if k.2.err≠0 then k.2 else if 29<k.1 then ct 3 k.2 else
   let b:=aF (s.drop o) (cq k.1).2 k.2
   let back:=(cq k.1).1+b.1
   if b.2.err≠0 then b.2 else if b.2.out.length<back then ct 3 b.2 else backS most back ((bh (sy-257)).1+a.1) b.2):=by unfold dX;rw[if_neg h285]
  rw[hrep]at hR;clear hrep;simp only at hR;generalize bh (sy-257)=lb at *
  simp(disch:=omega)only[go_sem,simprocAttr,aR,bq,elen];refine aV elen ?_;refine ah hlenb rfl rfl ?_;refine wW ?_;have hbits:=uv s a hv o (8*o+S.p) lb.2 acN hr acN;rw[xJ,<-tX]at hbits;refine aI [(RD,.var (aU s a hv o))] hbits vV nofun ?_;rintro h' v ar ⟨a1,hv1,hr1,rfl,rfl,rfl⟩;by_cases hf1:lb.2<=8*(s.drop o).length-S.p
  ·rw[if_pos hf1]at hr1;rw[if_pos hf1,decide_eq_true hf1];have hpl:S.p+lb.2<=8*(s.drop o).length:=by have:=hr.h2;have:=hr.h3;omega
   rw[iG he hpl]at hR;simp only at hR;have hnl:=iE (s.drop o) S.p lb.2;have hn256:2^lb.2<=2^8:=acV (by decide) hlt.2;generalize numAt (s.drop o) S.p lb.2=x1 at *
   refine⟨cK,rfl,?_⟩;have hread:=xl d hd hdl hdc s a1 hv1 o (8*o+S.p+lb.2) acN hr1;rw[adX,<-yH]at hread;simp only[bq]at hread;generalize hre:readL (aM d) (bw (s.drop o) (S.p+lb.2))=re at *
   refine wW ?_;refine aI [(RD,.var (aU s a1 hv1 o))] hread vV nofun ?_;rintro h' v ar ⟨a2,hv2,p2,k,hr2,rfl,rfl,hk,rfl⟩;refine⟨cK,rfl,?_⟩;by_cases hre2:re.2.2=0
   ·obtain⟨rfl,rfl⟩:=hk hre2;have hsym:aQ (s.drop o) d {S with p:=S.p+lb.2}=(re.1,{S with p:=S.p+lb.2+re.2.1}):=by rw[<-hre];exact rA he (by rw[hre];exact hre2)
    rw[hsym]at hR;simp only at hR;rw[if_neg (by simpa using he)]at hR;have hr2':bK s a2 hv2 (8*o+(S.p+lb.2+re.2.1)):=by rw[show 8*o+(S.p+lb.2+re.2.1)=8*o+(S.p+lb.2)+re.2.1 by omega];exact hr2
    generalize hp2:S.p+lb.2+re.2.1=p2 at *
    have hklt:re.1<=400:=by
     have:=pg (aM d) (bw (s.drop o) (S.p+lb.2)) (by rw[hre];exact hre2);rw[hre]at this;have hcl:(aM d).length=d.length:=by simp[aM]
     omega
    generalize re.1=k at *
    by_cases h29:29<k
    ·rw[if_pos h29,fW (by exact he)]at hR;refine ab hre2 ?_;exact hR.le (h':=aR s o most a2 hv2 S.out) bA ⟨kW ⟨a2,hv2,{S with p:=p2},rfl,hr2',hol,rfl,λh=>absurd h (by simp)⟩,rfl⟩
    ·rw[if_neg h29]at hR;have hdt:=L5 k acN;have hdb:=Pn k acN;generalize cq k=db at *
     have hbits2:=uv s a2 hv2 o (8*o+p2) db.2 acN hr2' acN;rw[xJ,<-tX]at hbits2;refine ab hre2 ?_;refine ah hdb rfl rfl ?_;refine wW ?_;refine aI [(RD,.var (aU s a2 hv2 o))] hbits2 vV nofun ?_;rintro h' v ar ⟨a3,hv3,hr3,rfl,rfl,rfl⟩;by_cases hf2:db.2<=8*(s.drop o).length-p2
     ·rw[if_pos hf2]at hr3;rw[if_pos hf2,decide_eq_true hf2];have hpl2:p2+db.2<=8*(s.drop o).length:=by have:=hr2'.h2;have:=hr2'.h3;omega
      rw[iG (by exact he) hpl2]at hR;simp only at hR;rw[if_neg (by simpa using he)]at hR;have hn2:=iE (s.drop o) p2 db.2;have hn15:2^db.2<=2^15:=acV (by decide) hdt.2.1;generalize numAt (s.drop o) p2 db.2=x2 at *
      refine⟨cK,rfl,?_⟩;refine wW ?_;by_cases hbk:S.out.length<db.1+x2
      ·have hbi:(S.out.length:Int)<(db.1:Int)+(x2:Int):=acN;rw[if_pos (by exact hbk),fW (by exact he)]at hR;refine ab hbi ?_;exact hR.le (h':=aR s o most a3 hv3 S.out) bA ⟨kW ⟨a3,hv3,{S with p:=p2+db.2},rfl,by show bK s a3 hv3 (8*o+(p2+db.2));rw[<-adX];exact hr3,hol,rfl,λh=>absurd h (by simp)⟩,rfl⟩
      ·have hbi:¬(S.out.length:Int)<(db.1:Int)+(x2:Int):=acN;rw[if_neg (by exact hbk)]at hR;generalize hbb:db.1+x2=back at *
       have hb1:1<=back:=acN;have ebk:(db.1:Int)+(x2:Int)=(back:Int):=acN;have eln:(lb.1:Int)+(x1:Int)=((lb.1+x1:Nat):Int):=acN;have hln:lb.1+x1<=1000:=acN;rw[ebk,eln];generalize lb.1+x1=n at *
       rw[ebk]at hbi;refine ab hbi ?_
       refine aD hN (λz:Nat×Bs=>⟨[(0,.aa 65032 0),(13,.int .i64 back),(79,.int .i64 n),(80,.int .i64 z.1),(2000000,.aa 65032 0),(2000001,.int .i64 sy),(2000002,.aq (.agg (jy d)))],aR s o most a3 hv3 z.2⟩)
        (λz=>z.1<=n/\z.2.length<=most/\back<=z.2.length/\backS most back (n-z.1) ⟨p2+db.2,z.2,S.err⟩=backS most back n ⟨p2+db.2,S.out,S.err⟩) (λz=>n-z.1) (0,S.out) (.le bA) ⟨by simp,hol,by simp only;omega,rfl⟩ ?_
       rintro⟨j,out⟩ R1 ⟨hj,hjo,hjb,hjF⟩ hR1;simp only at hj hjo hjb hjF;by_cases hjn:j<n
       ·have ej:n-j=(n-j-1)+1:=acN;rw[ej,Ak,if_neg (by simpa using he)]at hjF;unfold eB at hjF;rw[if_neg (by simpa using he)]at hjF;simp only at hjF;have eidx:(out.length:Int)-(back:Int)=((out.length-back:Nat):Int):=acN;generalize hcc:out.getD (out.length-back) 0=c at *
        have hput:=C8 s o most a3 hv3 out hm hjo c;refine lW ?_;rw[hcc];refine aI (aR s o most a3 hv3 out) hput bA nofun ?_;rintro h' v ar ⟨rfl,rfl,rfl⟩;refine⟨bA,rfl,?_⟩;by_cases hfull:out.length=most
        ·rw[if_pos hfull,if_pos hfull];rw[if_pos acN,Ji _ _ (by simp)]at hjF;rw[<-hjF]at hR;refine lW ?_;exact hR.le (h':=aR s o most a3 hv3 out) bA ⟨⟨a3,hv3,out,rfl,rfl,λh=>absurd h (by simp)⟩,rfl⟩
        ·rw[if_neg hfull,if_neg hfull];rw[if_neg acN]at hjF;refine lW ?_;exact hR1 (j+1,out++[c]) _ (by simp only;omega) ⟨by simp only;omega,by simp only[acQ,acW];omega,by simp only[acQ,acW];omega,by simp only;rw[show n-(j+1)=n-j-1 by omega];exact hjF⟩ (.le bA)
       ·obtain rfl:j=n:=acN;rw[aeA]at hjF;rw[<-hjF]at hR;refine lW ?_;exact hR.le (h':=aR s o most a3 hv3 out) bA ⟨⟨a3,hv3,out,rfl,by show _=AV.int .i64 ((S.err:Nat):Int);rw[he];rfl,λ_=>⟨rfl,by show bK s a3 hv3 (8*o+(p2+db.2));rw[<-adX];exact hr3⟩⟩,rfl⟩
     ·rw[if_neg hf2]at hr3;rw[if_neg hf2,decide_eq_false hf2];rw[mo (by exact he) (by simp only;omega)]at hR;simp only at hR;rw[if_pos (by decide)]at hR;refine⟨cK,rfl,?_⟩;refine wW ?_;exact hR.le (h':=aR s o most a3 hv3 S.out) bA ⟨kW ⟨a3,hv3,{S with p:=p2},rfl,hr3,hol,rfl,λh=>absurd h (by simp)⟩,rfl⟩
   ·have hsym:aQ (s.drop o) d {S with p:=S.p+lb.2}=(0,{S with p:=S.p+lb.2,err:=re.2.2}):=by rw[<-hre];exact rz he (by rw[hre];exact hre2)
    rw[hsym]at hR;simp only at hR;rw[if_pos hre2]at hR;have hi:¬((re.2.2:Nat):Int)=0:=acN;refine ab hi ?_;exact hR.le (h':=aR s o most a2 hv2 S.out) bA ⟨⟨a2,hv2,S.out,rfl,rfl,λh=>absurd h hre2⟩,rfl⟩
  ·rw[if_neg hf1]at hr1;rw[if_neg hf1,decide_eq_false hf1];rw[mo he acN]at hR;simp only at hR;rw[Gr (by simp)]at hR;simp only at hR;rw[if_pos (by decide)]at hR;refine⟨cK,rfl,?_⟩;refine wW ?_;exact hR.le (h':=aR s o most a1 hv1 S.out) bA ⟨kW ⟨a1,hv1,S,rfl,hr1,hol,rfl,λh=>absurd h (by simp)⟩,rfl⟩
set_option maxHeartbeats 2000000 in
theorem Pz:ao Tryz.prog 232 [] (.af [bq fq,bq fp]):=by
 refine Cod.PA (λE R hN hR=>?_);refine wW ?_;refine aD hN (λi:Nat=>⟨[(2,.sl 66022 0 i),(3,.al),(9,.int .i64 i)],[(66022,.arr 1 (aj (bI fixF i)))]⟩) (λi=>i<=288) (λi=>288-i) 0 (.nil 2 66022 1 rfl (.le (jQ @pB @kl))) acN ?_;rintro i R1 hi hR1;have hul:=jj fixF i;have hnl:=bL (bI fixF i);by_cases hlt:i<288
 ·have hus:=mG fixF i
  have hsb:aB (aj (bI fixF i)) 0 i=aj (bI fixF i):=by
   have:=il (xs:=bI fixF i);rw[hul]at this;exact this
  refine wW ?_;refine cf hN (λ_:Unit=>⟨[(2,.sl 66022 0 i),(3,.al),(4,.int .i64 i),(9,.int .i64 i),(15,.bool (decide (i<144\/280<=i)))],[(66022,.arr 1 (aj (bI fixF i)))]⟩) (λ_=>True) (λR2 hR2=>?_) (λ_ _=>?_)
  ·by_cases h1:i<144
   ·rw[decide_eq_true (.inl h1)]at hR2;refine wW ?_;refine gG ?_;exact hR2 () _ trivial (.le vV)
   ·by_cases h2:280<=i
    ·rw[decide_eq_true (.inr h2)]at hR2;refine wW ?_;refine gG ?_;exact hR2 () _ trivial (.le vV)
    ·rw[decide_eq_false acN]at hR2;refine wW ?_;refine gG ?_;exact hR2 () _ trivial (.le vV)
  ·by_cases h8:i<144\/280<=i
   ·have hf:fixF i=8:=by unfold fixF;rw[if_neg acN,if_neg acN]
    rw[hf]at hus;rw[decide_eq_true h8];refine aE @ff hsb ?_;exact hR1 (i+1) _ acN acN (.le (by rw[hus,<-fL];exact vV))
   ·rw[decide_eq_false h8];by_cases h9:i<256
    ·have hf:fixF i=9:=by unfold fixF;rw[if_neg acN,if_pos acN]
     rw[hf]at hus;refine aE @ff hsb ?_;exact hR1 (i+1) _ acN acN (.le (by rw[hus,<-fL];exact vV))
    ·have hf:fixF i=7:=by unfold fixF;rw[if_pos acN]
     rw[hf]at hus;refine aE @ff hsb ?_;exact hR1 (i+1) _ acN acN (.le (by rw[hus,<-fL];exact vV))
 ·obtain rfl:i=288:=acN;refine wW ?_;refine aD hN (λi:Nat=>⟨[(2,.sl 66022 0 288),(3,.sl 66034 0 i),(30,.int .i64 i)],[(66022,.arr 1 (aj (bI fixF 288))),(66034,.arr 1 (aj (bI (λ_=>5) i)))]⟩) (λi=>i<=32) (λi=>32-i) 0 (.nil 3 66034 1 rfl (.le (jQ @pB @kl))) acN ?_;rintro i R2 hi hR2;have hul2:=jj (λ_=>5) i;have hnl2:=bL (bI (λ_=>5) i);by_cases hlt:i<32
  ·have hus:=mG (λ_=>5) i
   have hsb:aB (aj (bI (λ_=>5) i)) 0 i=aj (bI (λ_=>5) i):=by
    have:=il (xs:=bI (λ_=>5) i);rw[hul2]at this;exact this
   refine aE @ff hsb ?_;exact hR2 (i+1) _ acN acN (.le (by rw[hus,<-fL];exact vV))
  ·obtain rfl:i=32:=acN;rw[Cf]at *
   rw[Ce]at *
   have e1:aB (aj fq) 0 288=aj fq:=by rw[<-kH.2.1];exact il
   have e2:aB (aj fp) 0 32=aj fp:=by rw[<-kG.2.1];exact il
   have n1:=tp fq kH.1 (by rw[kH.2.1];decide);have n2:=tp fp kG.1 (by rw[kG.2.1];decide);rw[if_pos kH.2.2]at n1;rw[if_pos kG.2.2]at n2;generalize fq=l at *
   generalize fp=d at *
   refine wW ?_;refine ln ⟨[(37,.ro 1 (aj l)),(3,.ro 1 (aj d))],[]⟩ (.bj 66022 (.bj 66034 (.le (jQ e1 e2)))) rfl ?_;refine wW ?_;refine jX n1 rfl ?_;rintro h' v as' ⟨rfl,rfl⟩;refine⟨rfl,rfl,?_⟩;simp(disch:=omega)only[go_sem,simprocAttr,bq];refine jX n2 rfl ?_;rintro h' v as' ⟨rfl,rfl⟩;refine⟨rfl,rfl,?_⟩;simp(disch:=omega)only[go_sem,simprocAttr,bq];exact hR.le vV ⟨rfl,rfl⟩
def Et:AV:=.agg (aj fM)
theorem PZ:ao Tryz.prog 247 [] Et:=by
 refine Cod.P0 (λE R hN hR=>?_);refine wW ?_;exact hR.le vV ⟨rfl,rfl⟩
end Go.Proofs.YtoalcafkffmiiaaGreatDoor.Pk
namespace Go.Proofs.YtoalcafkffmiiaaGreatDoor.Pk
section
variable {t:Bs} {S:SS}
theorem Eu {e:Nat}:(ct e S).out=S.out:=by unfold ct;split<;>rfl
theorem ue {n:Nat}:(aF t n S).2.out=S.out:=by
 unfold aF;split;rfl
 ·split<;>rfl
theorem Ew {l:List Nat}:(aQ t l S).2.out=S.out:=by
 unfold aQ;split;rfl
 ·split<;>rfl
theorem Ex {l:List Nat} {s:Nat}:(bP t l s S).2.2.out=S.out:=by
 unfold bP;split
 ·split;exact Eu;exact ue
 ·split;exact ue
  ·split;exact ue;rfl
theorem Ev {N:Nat} {l:List Nat} {b:Nat×Nat×SS}:(cH N l b).out=b.2.2.out:=by
 unfold cH;split;exact Eu;rfl
end
theorem o9 {t:Bs} {nc:Nat}:∀(k:Nat) (l:List Nat) (S:SS),(firstS t nc k l S).2.out=S.out
 | 0,_,_=>rfl
 | k+1,l,S=>by
  rw[qi];split;rfl
  ·rw[o9 k,ue]
theorem ud {t:Bs} {fl:List Nat} {N:Nat}:∀(k:Nat) (l:List Nat) (S:SS),(dF t fl N k l S).2.out=S.out
 | 0,_,_=>rfl
 | k+1,l,S=>by
  rw[oZ];split;rfl
  ·split
   ·simp only;rw[Ev,Ex,Ew]
   ·rw[ud k,Ev,Ex,Ew]
theorem MC (t:Bs) (S:SS):(cF t S).2.out=S.out:=by
 rw[sQ];split;rfl
 ·split;rfl
  ·unfold dm;split
   ·simp only;rw[o9]
   ·split
    ·simp only;rw[o9]
    ·unfold nq;split
     ·simp only;rw[ud,o9]
     ·split
      ·simp only;rw[ud,o9]
      ·simp only;rw[ud,o9]
open Eng
set_option maxRecDepth 10000
def zj:AV:=.lit (.pointer none)
def PT (s:Bs) (o most:Nat) (out:Bs) (D:(List Nat×List Nat)×SS) (h':HP) (v:AV):Prop:=
 ∃a' hv',h'=aR s o most a' hv' out/\(D.2.err≠0->v=.af [zj,zj,.int .i64 (D.2.err:Nat)]) /\
  (D.2.err=0->v=.af [bq D.1.1,bq D.1.2,.int .i64 (0:Nat)]/\bK s a' hv' (8*o+D.2.p)/\bx D.1.1=true/\bx D.1.2=true/\(∀n∈D.1.1,n<=15)/\(∀n∈D.1.2,n<=15)/\D.1.1.length<=286/\D.1.2.length<=320)
abbrev QT (R:HP->AV->List AV->Prop):KQ:=KQ.post [.tmp 2,.tmp 3,.tmp 4] 1 R
abbrev Hh (R1 RX:KS) (R:HP->AV->List AV->Prop):KQ:=KQ.c8 3 (KQ.gb R1 (KQ.c8 2 (KQ.gb RX (QT R))))
abbrev pI (s:Bs) (o most:Nat) (out:Bs) (D:(List Nat×List Nat)×SS):HP->AV->List AV->Prop:=λh' v ar=>PT s o most out D h' v/\ar=[.aa gR 0]
theorem lN {s:Bs} {o most:Nat} {out:Bs} {D:(List Nat×List Nat)×SS} {R:HP->AV->List AV->Prop} (hR:c7 (pI s o most out D) R) (e:Nat) (he:D.2.err=e) (hne:e≠0) (a' hv':Nat) {h:HP} (hh:dE h (aR s o most a' hv' out)) :
    R h (.af [.lit (.pointer none),.lit (.pointer none),.int .i64 (e:Nat)]) [.aa 65032 0]:=
 hR.le (h':=aR s o most a' hv' out) hh ⟨⟨a',hv',rfl,λ_=>by rw[he];rfl,λh=>absurd h (by rw[he];exact hne)⟩,rfl⟩
theorem uu (s:Bs) (o p a hv n:Nat) (hs:s.length<=1000000000) (h:bK s a hv (8*o+p)) (hn:n<=32):Eng.Spec Tryz.prog 230 [(RD,.var (aU s a hv o))] [.aa RD 0,.int .i64 n]
    (λh' v ar=>∃a' hv',bK s a' hv' (8*o+(if n<=8*(s.drop o).length-p then p+n else p))/\h'=[(RD,.var (aU s a' hv' o))]/\v=.af [.int .u32 (if n<=8*(s.drop o).length-p then numAt (s.drop o) p n else 0:Nat),.bool (decide (n<=8*(s.drop o).length-p))]/\ar=[.aa RD 0,.int .i64 n]):=by
 have hb:=uv s a hv o (8*o+p) n acN h hn;rw[xJ,<-tX]at hb;rw[show 8*o+(if n<=8*(s.drop o).length-p then p+n else p)=(if n<=8*(s.drop o).length-p then 8*o+p+n else 8*o+p)by split<;>omega]
 exact hb
theorem CZ (l:List Nat) (hl:∀n∈l,n<=15) (hn:l.length<=320):∃(x:AV) (e:Nat),Eng.Spec Tryz.prog 246 [] [.ro 1 (aj l)] (λh r _=>h=[]/\r=.af [x,.int .i64 (e:Nat)])/\((bx l=true/\x=bq l/\e=0)\/(bx l=false/\x=.lit (.pointer none)/\e=4)):=by
 have n1:=tp l hl hn;by_cases hc:bx l=true
 ·rw[if_pos hc]at n1;exact⟨_,0,n1,.inl ⟨hc,rfl,rfl⟩⟩
 ·rw[if_neg hc]at n1;exact⟨_,4,n1,.inr ⟨by simpa using hc,rfl,rfl⟩⟩
set_option maxHeartbeats 2000000 in
theorem Qh (s:Bs) (o most a hv:Nat) (out:Bs) (l:List Nat) (nl p:Nat) (D:(List Nat×List Nat)×SS) {E:Env} {R:HP->AV->List AV->Prop} (hN:E.N<=1000000) (hR:c7 (pI s o most out D) R) (hl:∀n∈l,n<=15) (h1:257<=nl) (h2:nl<=286) (h3:l.length<=320) (h4:nl<=l.length)
    (hr:bK s a hv (8*o+p))
    (hD:D=if l.getD 256 0=0\/bx (l.take nl)=false\/bx (l.drop nl)=false then(([],[]),⟨p,out,3⟩)else((l.take nl,l.drop nl),⟨p,out,0⟩)) :
    vcW Tryz.prog E Cod.Df (QT R) ⟨[(0,.aa 65032 0),(7,.int .i64 nl),(16,.ro 1 (aj l)),(2000000,.aa 65032 0)],aR s o most a hv out⟩:=by
 have hnl:=bL l;have ht1:(l.take nl).length=nl:=by rw[acS];omega
 have hd1:(l.drop nl).length=l.length-nl:=acU;obtain⟨x1,e1,n1,c1⟩:=CZ (l.take nl) (uU hl nl) acN;obtain⟨x2,e2,n2,c2⟩:=CZ (l.drop nl) (sN hl nl) acN;have hx:nth (aj l) 256=.int .i64 (l.getD 256 0:Nat):=dq acN;have etd:(l.drop nl).take (l.length-nl)=l.drop nl:=acP acN;generalize hy:l.getD 256 0=y at *
 have bad:D=(([],[]),⟨p,out,3⟩)->∀h,dE h (aR s o most a hv out)->R h (.af [.lit (.pointer none),.lit (.pointer none),.int .i64 3]) [.aa 65032 0]:=λhd h hh=>lN hR 3 (by rw[hd]) (by decide) a hv hh;refine zG hnl @fx ?_;rcases c1 with⟨hc1,rfl,rfl⟩ | ⟨hc1,rfl,rfl⟩<;>rcases c2 with⟨hc2,rfl,rfl⟩ | ⟨hc2,rfl,rfl⟩<;>by_cases h0:y=0
 all_goals
  refine jX n1 rfl ?_;rintro h' v as' ⟨rfl,rfl⟩;refine⟨rfl,rfl,?_⟩;simp(disch:=omega)only[go_sem,simprocAttr,hnl,fx,etd,bq];refine jX n2 rfl ?_;rintro h' v as' ⟨rfl,rfl⟩;refine⟨rfl,rfl,?_⟩
 rotate_left
 ·rw[if_neg (by rw[hc1,hc2];simp[h0])]at hD;subst hD;have hi:¬((y:Nat):Int)=0:=acN;simp(disch:=omega)only[go_sem,simprocAttr,hnl,hx,hi,bq];refine gy hnl hx hi ?_;exact hR.le (h':=aR s o most a hv out) bA ⟨⟨a,hv,rfl,λh=>absurd rfl h,λ_=>⟨rfl,hr,hc1,hc2,uU hl nl,sN hl nl,by rw[ht1];exact h2,by rw[hd1];omega⟩⟩,rfl⟩
 all_goals
  rw[if_pos (by first | exact .inl h0 | exact .inr (.inl hc1) | exact .inr (.inr hc2))]at hD
  have bad:=bad hD
 all_goals first
  |have hi:((y:Nat):Int)=0:=acN
   simp(disch:=omega)only[go_sem,simprocAttr,hnl,hx,hi,bq]
   (try(repeat(first | refine cC ?_ | refine cz ?_ | refine cB ?_)<;>simp(disch:=omega)only[go_sem,simprocAttr,hnl,hx,hi]))
   exact bad _ bA
  |have hi:¬((y:Nat):Int)=0:=acN
   simp(disch:=omega)only[go_sem,simprocAttr,hnl,hx,hi,bq]
   (try(repeat(first | refine cC ?_ | refine cz ?_ | refine cB ?_)<;>simp(disch:=omega)only[go_sem,simprocAttr,hnl,hx,hi]))
   exact bad _ bA
set_option maxHeartbeats 1000000 in
theorem Qg (s:Bs) (o most a hv N:Nat) (out:Bs) (l fl:List Nat) (nl nd p nb least what:Nat) (D:(List Nat×List Nat)×SS) {E:Env} {R1 RX:KS} {R:HP->AV->List AV->Prop} (hN:E.N<=1000000) (hs:s.length<=1000000000) (ho:o<=s.length)
    (hR:c7 (pI s o most out D) R) (hr:bK s a hv (8*o+p)) (hbits:nb<=7) (hleast:least<=11) (hNN:nl+nd=N) (hN1:N<=400) (hll:l.length<=N)
    (hbad:(cH N l (least+(aF (s.drop o) nb ⟨p,out,0⟩).1,what,(aF (s.drop o) nb ⟨p,out,0⟩).2)).err≠0->D.2.err=(cH N l (least+(aF (s.drop o) nb ⟨p,out,0⟩).1,what,(aF (s.drop o) nb ⟨p,out,0⟩).2)).err)
    (hR1:∀n a' hv' st',n=numAt (s.drop o) p nb->p+nb<=8*(s.drop o).length->l.length+(least+n)<=N->bK s a' hv' (8*o+(p+nb)) ->
     Wk st' ⟨[(0,.aa 65032 0),(7,.int .i64 nl),(8,.int .i64 nd),(14,bq fl),(16,.sl 62110 0 (l++List.replicate (least+n) what).length),(2000000,.aa 65032 0)],aR s o most a' hv' out++[(62110,.arr 1 (aj (l++List.replicate (least+n) what)))]⟩->R1.ap st') :
    vcW Tryz.prog E Cod.Dg (Hh R1 RX R) ⟨[(0,.aa 65032 0),(7,.int .i64 nl),(8,.int .i64 nd),(14,bq fl),(16,.sl 62110 0 l.length),(19,.int .i64 nb),(20,.int .i64 least),(21,.int .i64 what),(2000000,.aa 65032 0)],aR s o most a hv out++[(62110,.arr 1 (aj l))]⟩:=by
 have htl:(s.drop o).length=s.length-o:=acU;have hnl:=bL l;have hb:=uu s o p a hv nb hs hr acN;refine ku ?_;refine aI [(RD,.var (aU s a hv o))] hb vV nofun ?_;rintro h' v ar ⟨a1,hv1,hr1,rfl,rfl,rfl⟩;by_cases hf:nb<=8*(s.drop o).length-p
 ·rw[if_pos hf]at hr1;rw[if_pos hf,decide_eq_true hf];have hpl:p+nb<=8*(s.drop o).length:=by have:=hr.h2;have:=hr.h3;omega
  rw[iG rfl hpl]at hbad;simp only at hbad;have hlt:=iE (s.drop o) p nb;have hp7:2^nb<=2^7:=acV (by decide) hbits;have hR1:=λst'=>hR1 _ a1 hv1 st' rfl hpl;generalize numAt (s.drop o) p nb=n at *
  refine⟨cK,rfl,?_⟩;by_cases hov:N<l.length+(least+n)
  ·have ho2:((nl:Int)+(nd:Int))<(l.length:Int)+(least:Int)+(n:Int):=acN;have hbad:=hbad (by unfold cH;rw[if_pos hov,fW rfl];simp);unfold cH at hbad;rw[if_pos hov,fW rfl]at hbad;refine aE hnl ho2 ?_;exact lN hR 3 hbad (by decide) a1 hv1 bA
  ·have ho2:¬((nl:Int)+(nd:Int))<(l.length:Int)+(least:Int)+(n:Int):=acN;have eln:(least:Int)+(n:Int)=((least+n:Nat):Int):=acN;clear hbad;refine aE hnl ho2 ?_;generalize hk:least+n=k at *
   rw[eln]
   refine aD hN (λj:Nat=>⟨[(0,.aa 65032 0),(7,.int .i64 nl),(8,.int .i64 nd),(14,bq fl),(16,.sl 62110 0 (l.length+j:Nat)),(21,.int .i64 what),(150,.int .i64 k),(151,.int .i64 j),(2000000,.aa 65032 0)],aR s o most a1 hv1 out++[(62110,.arr 1 (aj (l++List.replicate j what)))]⟩) (λj=>j<=k) (λj=>k-j) 0
    (.le (by simp(disch:=omega)only[go_sem,simprocAttr,aR,aU,bq];simp)) acN ?_
   rintro j R2 hj hR2;have hnl:=bL (l++List.replicate j what);have hlr:(l++List.replicate j what).length=l.length+j:=by simp
   have hnr:=Ea l j what;have hsb:aB (aj (l++List.replicate j what)) 0 (l.length+j)=aj (l++List.replicate j what):=by rw[<-hlr];exact il
   by_cases hjk:j<k
   ·refine zG hsb @ff ?_;exact hR2 (j+1) _ acN acN (.le (uZ hnr))
   ·obtain rfl:j=k:=acN;refine ku ?_;exact hR1 _ acN hr1 (.le (uZ hlr))
 ·rw[if_neg hf]at hr1;rw[if_neg hf,decide_eq_false hf];rw[mo rfl (by simp only;omega)]at hbad
  have hover:∀k,(cH N l (k,what,{p:=p,out:=out,err:=6})).err=6:=by
   intro k;unfold cH;split;rfl
   rfl
  simp only at hbad;rw[hover]at hbad;refine⟨cK,rfl,?_⟩;refine wW ?_;exact lN hR 6 (hbad (by decide)) (by decide) a1 hv1 bA
set_option maxHeartbeats 2000000 in
theorem Qf (s:Bs) (o most a hv:Nat) (out:Bs) (fl:List Nat) (nl nd p:Nat) (D:(List Nat×List Nat)×SS) {E:Env} {R:HP->AV->List AV->Prop} (hN:E.N<=1000000) (hs:s.length<=1000000000) (ho:o<=s.length)
    (hR:c7 (pI s o most out D) R) (hr:bK s a hv (8*o+p)) (hfl:∀n∈fl,n<=15) (hfn:fl.length=19) (hfc:bx fl=true) (h1:257<=nl) (h2:nl<=286) (h3:1<=nd) (h4:nd<=30)
    (hD:D=nq (s.drop o) nl nd (dF (s.drop o) fl (nl+nd) (nl+nd) [] ⟨p,out,0⟩)) :
    vcW Tryz.prog E Cod.Qj (QT R) ⟨[(0,.aa 65032 0),(7,.int .i64 nl),(8,.int .i64 nd),(14,bq fl),(16,.al),(2000000,.aa 65032 0)],aR s o most a hv out⟩:=by
 generalize hG:dF (s.drop o) fl (nl+nd) (nl+nd) [] ⟨p,out,0⟩=G at hD;have hN1:nl+nd<=400:=acN;generalize hNN:nl+nd=N at *
 have hbadG:G.2.err≠0->D.2.err=G.2.err:=by
  intro h;rw[hD];unfold nq;rw[if_pos h]
 refine cf (y:=Cod.Df) hN (λz:Nat×Nat=>⟨[(0,.aa 65032 0),(7,.int .i64 nl),(16,.ro 1 (aj G.1)),(2000000,.aa 65032 0)],aR s o most z.1 z.2 out⟩)
  (λz=>bK s z.1 z.2 (8*o+G.2.p)/\G.2=⟨G.2.p,out,0⟩/\(∀n∈G.1,n<=15)/\G.1.length=N) (λRX hRX=>?_) (λz hz=>?_)
 ·refine wW ?_
  refine aD hN (λq:List Nat×Nat×Nat×Nat=>⟨[(0,.aa 65032 0),(7,.int .i64 nl),(8,.int .i64 nd),(14,bq fl),(16,.sl 62110 0 q.1.length),(2000000,.aa 65032 0)],aR s o most q.2.1 q.2.2.1 out++[(62110,.arr 1 (aj q.1))]⟩)
   (λq=>(∀n∈q.1,n<=15)/\q.1.length<=N/\bK s q.2.1 q.2.2.1 (8*o+q.2.2.2)/\∃k,N-q.1.length<=k/\dF (s.drop o) fl N k q.1 ⟨q.2.2.2,out,0⟩=G) (λq=>N-q.1.length) ([],a,hv,p)
   (.nil 16 62110 1 rfl (.le (uZ @kl))) ⟨by simp,by simp,hr,N,by simp,hG⟩ ?_
  clear hr hG;rintro⟨l,a,hv,p⟩ R1 ⟨hl,hll,hr,k,hk,hg⟩ hR1;simp only at hl hll hr hk hg;have hnl:=bL l;have htl:(s.drop o).length=s.length-o:=acU;by_cases hlt:l.length<N
  ·have hlt2:(l.length:Int)<(nl:Int)+(nd:Int):=acN;obtain⟨k,rfl⟩:∃k',k=k'+1:=⟨k-1,acN⟩;rw[oZ,if_neg (by simp only;omega)]at hg;have hread:=xl fl hfl acN hfc s a hv o (8*o+p) acN hr;rw[<-yH]at hread;simp only[bq]at hread;generalize hre:readL (aM fl) (bw (s.drop o) p)=re at *
   simp(disch:=omega)only[go_sem,simprocAttr,aR,bq,hnl,hlt2];refine aI [(RD,.var (aU s a hv o))] hread vV nofun ?_;rintro h' v ar ⟨a2,hv2,p2,sy,hr2,rfl,rfl,hk2,rfl⟩;refine⟨cK,rfl,?_⟩;by_cases hre2:re.2.2=0
   ·obtain⟨rfl,rfl⟩:=hk2 hre2
    have hsym:aQ (s.drop o) fl ⟨p,out,0⟩=(re.1,⟨p+re.2.1,out,0⟩):=by
     have:=rA (t:=s.drop o) (l:=fl) (S:=⟨p,out,0⟩) rfl (by simp only;rw[hre];exact hre2);simp only[hre]at this;exact this
    rw[hsym]at hg;simp only at hg
    have hslt:re.1<19:=by
     have:=pg (aM fl) (bw (s.drop o) p) (by rw[hre];exact hre2);rw[hre]at this;have hcl:(aM fl).length=fl.length:=by simp[aM]
     omega
    rw[show 8*o+p+re.2.1=8*o+(p+re.2.1)by omega]at hr2;generalize p+re.2.1=p2 at *
    generalize re.1=sy at *
    by_cases h16:sy<16
    ·have ht:bP (s.drop o) l sy ⟨p2,out,0⟩=(1,sy,⟨p2,out,0⟩):=by unfold bP;rw[if_neg acN,if_neg acN,if_neg acN]
     have hov:cH N l (1,sy,⟨p2,out,0⟩)=⟨p2,out,0⟩:=by unfold cH;rw[if_neg (by simp only;omega)]
     rw[ht,hov,if_neg (by simp)]at hg;simp only at hg;have hsb:aB (aj l) 0 l.length=aj l:=il;refine bV hre2 hnl hsb @ff ?_;refine hR1 (l++[sy],a2,hv2,p2) _ (by simp only[acQ,acW];omega) ⟨?_,?_,hr2,k,?_,hg⟩ (.le (by rw[fL];simp(disch:=omega)only[go_sem,simprocAttr,aR,aU,bq,acQ,acW]))
     ·intro n hn;rcases adq.1 hn with hn | hn;exact hl n hn
      ·rw[ac8.1 hn];omega
     ·simp only[acQ,acW];omega
     ·simp only[acQ,acW];omega
    ·refine ab hre2 ?_
     refine cf (y:=Cod.Dg) hN (λz:Nat×Nat×Nat=>⟨[(0,.aa 65032 0),(7,.int .i64 nl),(8,.int .i64 nd),(14,bq fl),(16,.sl 62110 0 l.length),(19,.int .i64 z.1),(20,.int .i64 z.2.1),(21,.int .i64 z.2.2),(2000000,.aa 65032 0)],aR s o most a2 hv2 out++[(62110,.arr 1 (aj l))]⟩)
      (λz=>z.1<=7/\1<=z.2.1/\z.2.1<=11/\z.2.2<=15/\bP (s.drop o) l sy ⟨p2,out,0⟩=(z.2.1+(aF (s.drop o) z.1 ⟨p2,out,0⟩).1,z.2.2,(aF (s.drop o) z.1 ⟨p2,out,0⟩).2)) (λR2 hR2=>?_) (λz hz=>?_)
     ·by_cases e16:sy=16
      ·subst e16;by_cases hle:l=[]
       ·subst hle;have ht:bP (s.drop o) [] 16 ⟨p2,out,0⟩=(0,0,⟨p2,out,3⟩):=by unfold bP;rw[if_pos rfl,if_pos rfl,fW rfl]
        have hov:cH N [] (0,0,⟨p2,out,3⟩)=⟨p2,out,3⟩:=if_neg (by simp);rw[ht,hov,if_pos (by simp)]at hg;refine ab @kl ?_;exact lN hR 3 (by rw[hbadG (by rw[<-hg];simp),<-hg]) (by decide) a2 hv2 bA
       ·have hl0:0<l.length:=by cases l with | nil=>exact absurd rfl hle | cons=>simp
        have el:(l.length:Int)-1=((l.length-1:Nat):Int):=acN;have hz:¬((l.length:Int)=0):=acN;have hx:nth (aj l) (l.length-1)=.int .i64 (l.getD (l.length-1) 0:Nat):=dq acN;have hx15:l.getD (l.length-1) 0<=15:=mi hl _;have ht:bP (s.drop o) l 16 ⟨p2,out,0⟩=(3+(aF (s.drop o) 2 ⟨p2,out,0⟩).1,l.getD (l.length-1) 0,(aF (s.drop o) 2 ⟨p2,out,0⟩).2):=by unfold bP;rw[if_pos rfl,if_neg hle]
        generalize l.getD (l.length-1) 0=x at *
        refine bV hnl hz el hx ?_;exact hR2 (2,3,x) _ ⟨by simp,by simp,by simp,hx15,ht⟩ (.le rD)
      ·by_cases e17:sy=17
       ·subst e17;refine wW ?_;exact hR2 (3,3,0) _ ⟨by decide,by decide,by decide,by decide,rfl⟩ (.le rD)
       ·obtain rfl:sy=18:=acN;refine wW ?_;exact hR2 (7,11,0) _ ⟨by decide,by decide,by decide,by decide,rfl⟩ (.le rD)
     ·obtain⟨nb,least,what⟩:=z;simp only at hz |-;obtain⟨g1,g0,g2,g3,g4⟩:=hz;rw[g4]at hg;refine Qg s o most a2 hv2 N out l fl nl nd p2 nb least what D hN hs ho hR hr2 g1 g2 hNN hN1 hll (λh=>?_) (λn a' hv' st' hn hpl hlo hr3 hw=>?_)
      ·rw[if_pos h]at hg;rw[hbadG (by rw[<-hg];exact h),<-hg]
      ·rw[iG rfl hpl]at hg;simp only at hg;rw[<-hn]at hg;have hov:cH N l (least+n,what,⟨p2+nb,out,0⟩)=⟨p2+nb,out,0⟩:=by unfold cH;rw[if_neg (by simp only;omega)]
       rw[hov,if_neg (by simp)]at hg;refine hR1 (l++List.replicate (least+n) what,a',hv',p2+nb) _ (by simp only[acQ,adh];omega) ⟨?_,?_,hr3,k,?_,hg⟩ hw
       ·intro n hn;rcases adq.1 hn with hn | hn;exact hl n hn
        ·rw[(aeH.1 hn).2];exact g3
       ·simp only[acQ,adh];omega
       ·simp only[acQ,adh];omega
   ·have hsym:aQ (s.drop o) fl ⟨p,out,0⟩=(0,⟨p,out,re.2.2⟩):=by
     have:=rz (t:=s.drop o) (l:=fl) (S:=⟨p,out,0⟩) rfl (by simp only;rw[hre];exact hre2);simp only[hre]at this;exact this
    rw[hsym]at hg;simp only at hg;have ht:bP (s.drop o) l 0 ⟨p,out,re.2.2⟩=(1,0,⟨p,out,re.2.2⟩):=by unfold bP;rw[if_neg acN,if_neg acN,if_neg acN]
    have hov:cH N l (1,0,⟨p,out,re.2.2⟩)=⟨p,out,re.2.2⟩:=by unfold cH;rw[if_neg (by simp only;omega)]
    rw[ht,hov,if_pos (by simpa using hre2)]at hg;have hi:¬((re.2.2:Nat):Int)=0:=acN;refine ab hi ?_;exact lN hR re.2.2 (by rw[hbadG (by rw[<-hg];exact hre2),<-hg]) hre2 a2 hv2 bA
  ·have hlt2:¬(l.length:Int)<(nl:Int)+(nd:Int):=acN
   have hGe:(l,(⟨p,out,0⟩:SS))=G:=by
    rw[<-hg]
    cases k with
    | zero=>rfl
    | succ k=>rw[oZ,if_pos (.inl acN)]
   subst hGe;have hsb:aB (aj l) 0 l.length=aj l:=il;refine zG hnl hlt2 ?_;exact hRX (a,hv) _ ⟨hr,rfl,hl,by simp only;omega⟩ (.bj 62110 (.le (uZ hsb)))
 ·obtain⟨a',hv'⟩:=z;obtain⟨g1,g2,g3,g4⟩:=hz;refine Qh s o most a' hv' out G.1 nl G.2.p D hN hR g3 h1 h2 acN acN g1 ?_;rw[hD];unfold nq;rw[if_neg (by rw[g2];simp)];obtain⟨G1,G2⟩:=G;simp only at g2;rw[g2]
set_option maxHeartbeats 2000000 in
theorem Qi (s:Bs) (o most a hv:Nat) (out:Bs) (nl nd nc p:Nat) (D:(List Nat×List Nat)×SS) {E:Env} {R:HP->AV->List AV->Prop} (hN:E.N<=1000000) (hs:s.length<=1000000000) (ho:o<=s.length)
    (hR:c7 (pI s o most out D) R) (hr:bK s a hv (8*o+p)) (h1:257<=nl) (h2:nl<=286) (h3:1<=nd) (h4:nd<=30) (hc:nc<=19)
    (hD:D=dm (s.drop o) nl nd (firstS (s.drop o) nc nc (List.replicate 19 0) ⟨p,out,0⟩)) :
    vcW Tryz.prog E Cod.Qk (QT R) ⟨[(0,.aa 65032 0),(7,.int .i64 nl),(8,.int .i64 nd),(9,.int .i64 nc),(10,.sl 62057 0 19),(2000000,.aa 65032 0)],[(62057,.arr 1 (aj (List.replicate 19 0))),(40014,.var (aU s a hv o)),(65032,.var [.aa 40014 0,.sl 60022 0 out.length,.int .i64 most]),(60022,.arr 1 (out.map ub))]⟩:=by
 generalize hG:firstS (s.drop o) nc nc (List.replicate 19 0) ⟨p,out,0⟩=G at hD;have htl:(s.drop o).length=s.length-o:=acU
 have hbadG:G.2.err≠0->D.2.err=G.2.err:=by
  intro h;rw[hD];unfold dm;rw[if_pos h]
 refine cf (y:=Cod.Ql) hN (λz:Nat×Nat=>⟨[(0,.aa 65032 0),(7,.int .i64 nl),(8,.int .i64 nd),(10,.ro 1 (aj G.1)),(2000000,.aa 65032 0)],aR s o most z.1 z.2 out⟩)
  (λz=>bK s z.1 z.2 (8*o+G.2.p)/\G.2=⟨G.2.p,out,0⟩/\(∀n∈G.1,n<=15)/\G.1.length=19) (λRX hRX=>?_) (λz hz=>?_)
 ·refine ku ?_
  refine aD hN (λq:Nat×List Nat×Nat×Nat×Nat=>⟨[(0,.aa 65032 0),(7,.int .i64 nl),(8,.int .i64 nd),(10,.sl 62057 0 19),(58,.int .i64 nc),(59,.int .i64 q.1),(2000000,.aa 65032 0)],aR s o most q.2.2.1 q.2.2.2.1 out++[(62057,.arr 1 (aj q.2.1))]⟩)
   (λq=>q.1<=nc/\(∀n∈q.2.1,n<=15)/\q.2.1.length=19/\bK s q.2.2.1 q.2.2.2.1 (8*o+q.2.2.2.2)/\firstS (s.drop o) nc (nc-q.1) q.2.1 ⟨q.2.2.2.2,out,0⟩=G) (λq=>nc-q.1) (0,List.replicate 19 0,a,hv,p)
   (.le vVJ) ⟨by simp,by simp,by simp,hr,hG⟩ ?_
  clear hr hG;rintro⟨j,l,a,hv,p⟩ R1 ⟨hj,hl,hll,hr,hg⟩ hR1;simp only at hj hl hll hr hg;have hnl:=bL l;by_cases hlt:j<nc
  ·obtain⟨m,hm⟩:∃m,nc-j=m+1:=⟨nc-j-1,acN⟩;rw[hm,qi,if_neg (by simp),show nc-(m+1)=j by omega]at hg;have hpl:=EM j acN;have hx:nth (aj fM) j=.int .i64 (fM.getD j 0:Nat):=dq (by have:fM.length=19:=rfl;omega);have hpn:(aj fM).length=19:=rfl
   have hx2:(aj fM).getD j .undef=.int .i64 (fM.getD j 0:Nat):=by
    have hl:j<fM.length:=by have:fM.length=19:=rfl;omega
    simp[aj,acO,hl]
   have hord:=PZ;unfold Et at hord;generalize fM.getD j 0=pj at *
   have hb:=uu s o p a hv 3 hs hr acN;have hxl:nth (aj l) pj=.int .i64 (l.getD pj 0:Nat):=dq acN;refine ku ?_;refine aI [(RD,.var (aU s a hv o))] hb vV nofun ?_;rintro h' v ar ⟨a1,hv1,hr1,rfl,rfl,rfl⟩;by_cases hf:3<=8*(s.drop o).length-p
   ·rw[if_pos hf]at hr1;rw[if_pos hf,decide_eq_true hf];rw[iG rfl (by simp only;omega)]at hg;simp only at hg;have hlt3:=iE (s.drop o) p 3;generalize numAt (s.drop o) p 3=x at *
    refine⟨cK,rfl,?_⟩;refine wW ?_;refine ah hord rfl rfl ?_;refine lg hx2 hpn hnl hll hxl @qG ?_;refine hR1 (j+1,l.set pj x,a1,hv1,p+3) _ (by simp only;omega) ⟨hlt,?_,by simp[hll],hr1,by simp only;rw[show nc-(j+1)=m by omega];exact hg⟩ (.le bA);intro n hn;rcases ad5 hn with hn | hn;exact hl n hn;omega
   ·rw[if_neg hf]at hr1;rw[if_neg hf,decide_eq_false hf];rw[mo rfl (by simp only;omega)]at hg;simp only at hg;rw[sV _ _ _ _ _ (by simp)]at hg;refine⟨cK,rfl,?_⟩;refine wW ?_;exact lN hR 6 (by rw[hbadG (by rw[<-hg];simp),<-hg]) (by decide) a1 hv1 bA
  ·obtain rfl:j=nc:=acN;rw[aeA]at hg;have hGe:(l,(⟨p,out,0⟩:SS))=G:=hg;subst hGe;have hsub:aB (aj l) 0 19=aj l:=by rw[<-hll];exact il
   refine ku ?_;exact hRX (a,hv) _ ⟨hr,rfl,hl,hll⟩ (.bj 62057 (.le (GX hsub)))
 ·obtain⟨a',hv'⟩:=z;obtain⟨g1,g2,g3,g4⟩:=hz;simp only at g1 g2 g3 g4 |-;have n1:=tp G.1 g3 acN;unfold dm at hD;rw[if_neg (by rw[g2];simp)]at hD
  cases hck:bx G.1 with
  | false=>
   rw[hck,if_neg (by decide)]at n1;rw[if_pos hck]at hD;refine ku ?_;refine jX n1 rfl ?_;rintro h' v as' ⟨rfl,rfl⟩;refine⟨rfl,rfl,?_⟩;refine wW ?_
   exact lN hR 3 (by rw[hD]) (by decide) a' hv' bA
  | true=>
   rw[hck,if_pos rfl]at n1;rw[if_neg (by rw[hck];decide),g2]at hD;have hb:=Qf s o most a' hv' out G.1 nl nd G.2.p D (E:=E) (R:=R) hN hs ho hR g1 g3 g4 hck h1 h2 h3 h4 hD;refine ku ?_;refine jX n1 rfl ?_;rintro h' v as' ⟨rfl,rfl⟩;refine⟨rfl,rfl,?_⟩;simp only[aR,bq]at hb;simp(disch:=omega)only[go_sem,simprocAttr,bq];exact hb
theorem rQ {n:Nat} (h:n<65536):bits .and .u32 (n:Int) 31=((n%32:Nat):Int):=by
 show IntKind.u32.wrap ((BitVec.ofInt 32 (n:Int) &&& BitVec.ofInt 32 ((31:Nat):Int)).toNat:Int)=_
 rw[ac2,ac2,ad1,ac1,ac1,acY acN,acY (by decide),show(31:Nat)=2^5-1 from rfl,adx];exact wrap_u32 acN
theorem fdiv_pow (x k:Nat) (h:k<=32):(x:Int).fdiv (2^min k 32)=((x/2^k:Nat):Int):=by
 rw[adk h,adv _ (by exact_mod_cast ac9 (2^k))]
 norm_cast
set_option maxHeartbeats 1000000 in
theorem Qm (s:Bs) (o most a hv:Nat) (S:SS) (hs:s.length<=1000000000) (ho:o<=s.length) (hm:most<=1000000) (hr:bK s a hv (8*o+S.p)) (hol:S.out.length<=most) (he:S.err=0) :
    Eng.Spec Tryz.prog 233 (aR s o most a hv S.out) [.aa gR 0] (λh' v ar=>PT s o most S.out (cF (s.drop o) S) h' v/\ar=[.aa gR 0]):=by
 refine Cod.Qn (λE R hN hR=>?_);have htl:(s.drop o).length=s.length-o:=acU;have hb:=uu s o S.p a hv 14 hs hr acN;rw[sQ]at hR;obtain⟨p,out,err⟩:=S;simp only at he hr hol hb hR |-;subst he;refine ku ?_;refine aI [(RD,.var (aU s a hv o))] hb vV nofun ?_;rintro h' v ar ⟨a1,hv1,hr1,rfl,rfl,rfl⟩;by_cases h14:14<=8*(s.drop o).length-p
 ·rw[if_pos h14]at hr1;rw[if_pos h14,decide_eq_true h14];rw[if_neg acN]at hR;refine⟨cK,rfl,?_⟩;have hlt:=iE (s.drop o) p 14;have m5:=tY (s.drop o) p (m:=5) (n:=14) (by decide);have d5:=qI (s.drop o) p (m:=5) (n:=14) (by decide);have d10:=qI (s.drop o) p (m:=10) (n:=14) (by decide);have m55:=tY (s.drop o) (p+5) (m:=5) (n:=9) (by decide);generalize numAt (s.drop o) p 14=x at *
  have f5:=fdiv_pow x 5 (by decide);have f10:=fdiv_pow x 10 (by decide);have c1:=rQ (n:=x) acN;have c2:=rQ (n:=x/2^5) acN;have w1:x%32=numAt (s.drop o) p 5:=m5;have w2:x/2^5%32=numAt (s.drop o) (p+5) 5:=by rw[d5];exact m55
  have w3:x/2^10=numAt (s.drop o) (p+10) 4:=d10;rw[<-w1,<-w2,<-w3]at hR;have b1:x%32<32:=ad9 _ (by decide);have b2:x/2^5%32<32:=ad9 _ (by decide);have b3:x/2^10<16:=acN;generalize x%32=y1 at *
  generalize x/2^5%32=y2 at *
  generalize x/2^10=y3 at *
  have bad:(286<y1+257\/30<y2+1)->R [(40014,aG.var (aU s a1 hv1 o)),(65032,aG.var [AV.aa 40014 0,AV.sl 60022 0 (List.length out),AV.int IntKind.i64 ↑most]),(60022,aG.arr 1 (List.map ub out))] (.af [.lit (.pointer none),.lit (.pointer none),.int .i64 3]) [.aa 65032 0]:=by
   intro hx;rw[if_pos hx]at hR;exact lN hR 3 rfl (by decide) a1 hv1 bA
  by_cases hx1:286<y1+257
  ·have bad:=bad (.inl hx1);refine bV f5 f10 c1 c2 ?_;refine gG ?_;exact bad
  ·by_cases hx2:30<y2+1
   ·have bad:=bad (.inr hx2);refine bV f5 f10 c1 c2 ?_;refine gG ?_;exact bad
   ·rw[if_neg acN]at hR;clear bad;have hf:=Qi s o most a1 hv1 out (y1+257) (y2+1) (y3+4) (p+14) _ (E:=E) (R:=R) hN hs ho hR hr1 acN acN acN acN acN rfl;clear hR;refine bV f5 f10 c1 c2 ?_;refine gG ?_;simp only[aU]at hf;refine kv ?_;exact hf
 ·rw[if_neg h14]at hr1;rw[if_neg h14,decide_eq_false h14];rw[if_pos acN]at hR;refine⟨cK,rfl,?_⟩;refine wW ?_;exact lN hR 6 rfl (by decide) a1 hv1 bA
theorem and1 {n:Nat} (h:n<65536):bits .and .u32 (n:Int) 1=((n%2:Nat):Int):=by
 show IntKind.u32.wrap ((BitVec.ofInt 32 (n:Int) &&& BitVec.ofInt 32 ((1:Nat):Int)).toNat:Int)=_
 rw[ac2,ac2,ad1,ac1,ac1,acY acN,acY (by decide),show(1:Nat)=2^1-1 from rfl,adx];exact wrap_u32 acN
abbrev QR (R:HP->AV->List AV->Prop):KQ:=KQ.post [.tmp 2] 1 R
abbrev vh (s:Bs) (o most:Nat) (G:SS):HP->AV->List AV->Prop:=λh' v ar=>PI s o most G h' v/\ar=[.aa gR 0]
theorem pd {s:Bs} {o most:Nat} {G:SS} {R:HP->AV->List AV->Prop} (hR:c7 (vh s o most G) R) (e:Nat) (he:G.err=e) (hne:e≠0) (a' hv':Nat) (out:Bs) {h:HP} (hh:dE h (aR s o most a' hv' out)) :
    R h (.int .i64 (e:Nat)) [.aa 65032 0]:=
 hR.le (h':=aR s o most a' hv' out) hh ⟨⟨a',hv',out,rfl,by rw[he],λh=>absurd h (by rw[he];exact hne)⟩,rfl⟩
def sL (t:Bs) (most h:Nat) (S G:SS):Prop:=if h%2=1 then S=G else iM t most S=G
def jY (t:Bs) (most h:Nat) (S G:SS):Prop:=if S.err≠0 then G.err=S.err else sL t most h S G
structure mM where
 h:Nat
 l:List Nat
 d:List Nat
 a:Nat
 hv:Nat
 S:SS
def jI (s:Bs) (o most:Nat) (l:Nat) (z:mM):St:=
 if l=0 then⟨[(0,.aa 65032 0),(2000000,.aa 65032 0)],aR s o most z.a z.hv z.S.out⟩
 else if l=1 then⟨[(0,.aa 65032 0),(3,.int .u32 z.h),(2000000,.aa 65032 0)],aR s o most z.a z.hv z.S.out⟩
 else⟨[(0,.aa 65032 0),(3,.int .u32 z.h),(7,bq z.l),(8,bq z.d),(2000000,.aa 65032 0)],aR s o most z.a z.hv z.S.out⟩
structure RB (s:Bs) (o most:Nat) (z:mM):Prop where
 r:bK s z.a z.hv (8*o+z.S.p)
 e:z.S.err=0
 ol:z.S.out.length<=most
 hl:z.h<8
structure TB (l d:List Nat):Prop where
 R7:∀n∈l,n<=15
 d15:∀n∈d,n<=15
 ll:l.length<=320
 dl:d.length<=320
 lc:bx l=true
 dc:bx d=true
def xr (s:Bs) (o most:Nat) (G:SS) (l:Nat) (z:mM):Prop:=
 RB s o most z/\(if l=0 then iM (s.drop o) most z.S=G else if l=1 then sL (s.drop o) most z.h z.S G else if l=2 then TB z.l z.d/\jY (s.drop o) most z.h (dW (s.drop o) most z.l z.d z.S) G else False)
def kh (s:Bs) (o l:Nat) (z:mM):Nat:=4*(8*(s.drop o).length+1-z.S.p)+min l 2
theorem RB.pl {s:Bs} {o most:Nat} {z:mM} (h:RB s o most z):z.S.p<=8*(s.drop o).length:=by
 have:=h.r.h2;have:=h.r.h3;rw[acU];omega
set_option maxHeartbeats 2000000 in
theorem Da (s:Bs) (o most:Nat) (G:SS) (z:mM) {E:Env} {R:Nat->KS} {R0:HP->AV->List AV->Prop} (hN:E.N<=1000000) (hs:s.length<=1000000000) (ho:o<=s.length) (hm:most<=1000000) (hR:c7 (vh s o most G) R0) (hz:RB s o most z) (hg:iM (s.drop o) most z.S=G)
    (hJ:∀l' z' st',kh s o l' z'<kh s o 0 z->xr s o most G l' z'->Wk st' (jI s o most l' z')->(R l').ap st') :
    vcW Tryz.prog E Cod.xt (KQ.lC R (QR R0)) ⟨[(0,.aa 65032 0),(2000000,.aa 65032 0)],aR s o most z.a z.hv z.S.out⟩:=by
 have hpl:=hz.pl;obtain⟨h,l,d,a,hv,S⟩:=z;obtain⟨hr,he,hol,hh⟩:=hz;simp only at hr he hol hh hg hpl |-;rw[run_eq hpl]at hg;have htl:(s.drop o).length=s.length-o:=acU;have hb:=uu s o S.p a hv 3 hs hr acN;refine ku ?_;refine aI [(RD,.var (aU s a hv o))] hb vV nofun ?_;rintro h' v ar ⟨a1,hv1,hr1,rfl,rfl,rfl⟩;by_cases h3:3<=8*(s.drop o).length-S.p
 ·rw[if_pos h3]at hr1;rw[if_pos h3,decide_eq_true h3];have hbk:fa (s.drop o) most S=_:=if_neg (show ¬8*(s.drop o).length<S.p+3 by omega);rw[hbk]at hg;clear hbk;have m1:=tY (s.drop o) S.p (m:=1) (n:=3) (by decide);have d1:=qI (s.drop o) S.p (m:=1) (n:=3) (by decide);have hlt:=iE (s.drop o) S.p 3;simp only at hg;rw[<-m1,show(2:Nat)=3-1 from rfl,<-d1]at hg;generalize numAt (s.drop o) S.p 3=x at *
  have f1:=fdiv_pow x 1 (by decide);refine⟨cK,rfl,?_⟩;have hx1:x%2^1=x%2:=rfl;have hx2:x/2^1=x/2:=rfl;rw[hx1,hx2]at hg;rw[hx2]at f1;have hxl:x/2<4:=acN
  have hdone:∀S':SS,(if x/2=0 then fO (s.drop o) most {S with p:=S.p+3} else if x/2=1 then dW (s.drop o) most fq fp {S with p:=S.p+3}
      else if x/2=2 then(if(cF (s.drop o) {S with p:=S.p+3}).2.err≠0 then(cF (s.drop o) {S with p:=S.p+3}).2 else dW (s.drop o) most (cF (s.drop o) {S with p:=S.p+3}).1.1 (cF (s.drop o) {S with p:=S.p+3}).1.2 (cF (s.drop o) {S with p:=S.p+3}).2)else {S with p:=S.p+3,err:=3})=S' ->
      jY (s.drop o) most x S' G:=by
   intro S' hS';rw[hS']at hg;unfold jY;by_cases hSe:S'.err=0
   ·rw[if_neg (by simpa using hSe)];unfold sL;by_cases hx:x%2=1
    ·rw[if_pos (.inr (by simpa using hx))]at hg;rw[if_pos hx];exact hg
    ·rw[if_neg (λh=>h.elim (λh=>h hSe) (λh=>hx (by simpa using h)))]at hg;rw[if_neg hx];exact hg
   ·rw[if_pos (.inl hSe)]at hg;rw[if_pos hSe,hg]
  clear hg;have hr1':bK s a1 hv1 (8*o+(S.p+3)):=hr1;refine ab f1 ?_;obtain hk | hk | hk | hk:x/2=0\/x/2=1\/x/2=2\/x/2=3:=acN
  ·rw[hk];have hst:=Qd s o most a1 hv1 {S with p:=S.p+3} hs ho hm hr1' hol he;have hc:=hdone _ (if_pos hk);have hmv:Mv (s.drop o) most {S with p:=S.p+3} (fO (s.drop o) most {S with p:=S.p+3}):=D6;generalize fO (s.drop o) most {S with p:=S.p+3}=F at *
   refine wW ?_;refine aI (aR s o most a1 hv1 S.out) hst bA nofun ?_;rintro h' v ar ⟨⟨a2,hv2,out2,rfl,rfl,hF⟩,rfl⟩;refine⟨bA,rfl,?_⟩;unfold jY at hc;by_cases hFe:F.err=0
   ·obtain⟨rfl,hr2⟩:=hF hFe;rw[if_neg (by simpa using hFe)]at hc;refine ab hFe ?_;have h1:=hmv.p;simp only at h1;exact hJ 1 ⟨x,[],[],a2,hv2,F⟩ _ (by simp only[kh];omega) ⟨⟨hr2,hFe,hmv.o hol,by simp only;omega⟩,by rw[if_neg (by decide),if_pos rfl];exact hc⟩ (.le (by simp(disch:=omega)only[go_sem,simprocAttr,jI,aR,aU]))
   ·rw[if_pos hFe]at hc;have hi:¬((F.err:Nat):Int)=0:=acN;refine ab hi ?_;exact pd hR F.err hc hFe a2 hv2 out2 bA
  ·rw[hk];have hc:=hdone _ ((if_neg acN).trans (if_pos hk));refine wW ?_;refine ah Pz rfl rfl ?_;simp(disch:=omega)only[go_sem,simprocAttr,bq];refine hJ 2 ⟨x,fq,fp,a1,hv1,{S with p:=S.p+3}⟩ _ (by simp only[kh];omega) ⟨⟨hr1',he,hol,by simp only;omega⟩,?_⟩ (.le ?_)
   ·rw[if_neg (by decide),if_neg (by decide),if_pos rfl];exact⟨⟨kH.1,kG.1,by simp only;rw[kH.2.1];decide,by simp only;rw[kG.2.1];decide,kH.2.2,kG.2.2⟩,hc⟩
   ·simp(disch:=omega)only[go_sem,simprocAttr,jI,aR,aU,bq]
  ·rw[hk];have hit:=Qm s o most a1 hv1 {S with p:=S.p+3} hs ho hm hr1' hol he;have hc:=hdone _ ((if_neg acN).trans ((if_neg acN).trans (if_pos hk)));have hmv:Mv (s.drop o) most {S with p:=S.p+3} (cF (s.drop o) {S with p:=S.p+3}).2:=tN;have hdo:=MC (s.drop o) {S with p:=S.p+3};generalize cF (s.drop o) {S with p:=S.p+3}=D at *
   refine wW ?_;refine aI (aR s o most a1 hv1 S.out) hit bA nofun ?_;rintro h' v ar ⟨⟨a2,hv2,rfl,hbad,hgood⟩,rfl⟩;by_cases hDe:D.2.err=0
   ·obtain⟨rfl,hr2,hc1,hc2,hl1,hl2,hn1,hn2⟩:=hgood hDe;rw[if_neg (by simpa using hDe)]at hc;refine⟨bA,rfl,?_⟩;refine zD ?_;have h1:=hmv.p;simp only at h1 hdo;refine hJ 2 ⟨x,D.1.1,D.1.2,a2,hv2,D.2⟩ _ (by simp only[kh];omega) ⟨⟨hr2,hDe,by simp only;rw[hdo];exact hol,by simp only;omega⟩,?_⟩ (.le ?_)
    ·rw[if_neg (by decide),if_neg (by decide),if_pos rfl];exact⟨⟨hl1,hl2,by simp only;omega,hn2,hc1,hc2⟩,hc⟩
    ·simp(disch:=omega)only[go_sem,simprocAttr,jI,aR,aU,bq,hdo]
   ·obtain rfl:=hbad hDe;rw[if_pos hDe]at hc;unfold jY at hc;rw[if_pos hDe]at hc;refine⟨bA,rfl,?_⟩;have hi:¬((D.2.err:Nat):Int)=0:=acN;simp(disch:=omega)only[go_sem,simprocAttr,hi,zj];exact pd hR D.2.err hc hDe a2 hv2 S.out bA
  ·rw[hk];have hc:=hdone _ ((if_neg acN).trans ((if_neg acN).trans (if_neg acN)));unfold jY at hc;rw[if_pos (by simp)]at hc;refine wW ?_;exact pd hR 3 hc (by decide) a1 hv1 S.out bA
 ·rw[if_neg h3]at hr1;rw[if_neg h3,decide_eq_false h3];have hbk:fa (s.drop o) most S=(true,{S with err:=6}):=if_pos (show 8*(s.drop o).length<S.p+3 by omega);rw[hbk,if_pos (.inl (by simp))]at hg;refine⟨cK,rfl,?_⟩;refine wW ?_;exact pd hR 6 (by rw[<-hg]) (by decide) a1 hv1 S.out bA
set_option maxHeartbeats 2000000 in
theorem P7 (s:Bs) (o most:Nat) (G:SS) (z:mM) {E:Env} {R:Nat->KS} {R0:HP->AV->List AV->Prop} (hN:E.N<=1000000) (hs:s.length<=1000000000) (ho:o<=s.length) (hm:most<=1000000) (hR:c7 (vh s o most G) R0) (hz:RB s o most z) (ht:TB z.l z.d) (hg:jY (s.drop o) most z.h (dW (s.drop o) most z.l z.d z.S) G)
    (hJ:∀l' z' st',kh s o l' z'<kh s o 2 z->xr s o most G l' z'->Wk st' (jI s o most l' z')->(R l').ap st') :
    vcW Tryz.prog E (.seq .skip Cod.C9) (KQ.lC R (QR R0)) ⟨[(0,.aa 65032 0),(3,.int .u32 z.h),(7,bq z.l),(8,bq z.d),(2000000,.aa 65032 0)],aR s o most z.a z.hv z.S.out⟩:=by
 have hpl:=hz.pl;obtain⟨h,l,d,a,hv,S⟩:=z;obtain⟨hr,he,hol,hh⟩:=hz;simp only at hr he hol hh hg hpl ht |-;rw[EC hpl,if_neg (by simpa using he)]at hg;have htl:(s.drop o).length=s.length-o:=acU;have hread:=xl l ht.R7 ht.ll ht.lc s a hv o (8*o+S.p) acN hr;rw[<-yH]at hread;simp only[bq]at hread;generalize hre:readL (aM l) (bw (s.drop o) S.p)=re at *
 simp(disch:=omega)only[go_sem,simprocAttr,aR,bq];refine aI [(RD,.var (aU s a hv o))] hread vV nofun ?_;rintro h' v ar ⟨a2,hv2,p2,sy,hr2,rfl,rfl,hk2,rfl⟩;refine⟨cK,rfl,?_⟩;by_cases hre2:re.2.2=0
 ·obtain⟨rfl,rfl⟩:=hk2 hre2
  have hsym:aQ (s.drop o) l S=(re.1,{S with p:=S.p+re.2.1}):=by
   have:=rA (t:=s.drop o) (l:=l) (S:=S) he (by rw[hre];exact hre2);simp only[hre]at this;exact this
  have hrb:=pg (aM l) (bw (s.drop o) S.p) (by rw[hre];exact hre2);rw[hre,lO]at hrb;have hcl:(aM l).length=l.length:=by simp[aM]
  have hll:=ht.ll;rw[show 8*o+S.p+re.2.1=8*o+(S.p+re.2.1)by omega]at hr2
  have hst:fE (s.drop o) most l d S=(if re.1=256 then(true,{S with p:=S.p+re.2.1})else if re.1<256 then(false,eB most (UInt8.ofNat re.1) {S with p:=S.p+re.2.1})else(false,dX (s.drop o) most d re.1 {S with p:=S.p+re.2.1})):=by
   unfold fE;rw[hsym];exact if_neg (by simpa using he)
  rw[hst]at hg;have hp2:S.p<S.p+re.2.1/\S.p+re.2.1<=8*(s.drop o).length:=acN;generalize S.p+re.2.1=p2 at *
  have hsy:re.1<=320:=acN;generalize re.1=sy at *
  by_cases h256:sy=256
  ·rw[if_pos h256,if_pos rfl]at hg;unfold jY at hg;rw[if_neg (by simpa using he)]at hg;refine aE hre2 h256 ?_;refine hJ 1 ⟨h,[],[],a2,hv2,{S with p:=p2}⟩ _ (by simp only[kh];omega) ⟨⟨hr2,he,hol,hh⟩,?_⟩ (.le ?_)
   ·rw[if_neg (by decide),if_pos rfl];exact hg
   ·simp(disch:=omega)only[go_sem,simprocAttr,jI,aR,aU]
  ·rw[if_neg h256]at hg;have hi:¬((sy:Nat):Int)=256:=acN;refine aE hre2 hi ?_
   refine cf (y:=Cod.P4) hN (λy:Nat×Nat×Bs×SS=>⟨[(0,.aa 65032 0),(3,.int .u32 h),(5,.int .i64 y.2.2.2.err),(7,bq l),(8,bq d),(2000000,.aa 65032 0)],aR s o most y.1 y.2.1 y.2.2.1⟩)
    (λy=>Mv (s.drop o) most {S with p:=p2} y.2.2.2/\jY (s.drop o) most h (dW (s.drop o) most l d y.2.2.2) G/\(y.2.2.2.err=0->y.2.2.1=y.2.2.2.out/\bK s y.1 y.2.1 (8*o+y.2.2.2.p))) (λR2 hR2=>?_) (λy hy=>?_)
   ·by_cases hlt:sy<256
    ·rw[if_pos hlt,if_neg (by simp)]at hg;simp only at hg;have hput:=C8 s o most a2 hv2 S.out hm hol (UInt8.ofNat sy);have hmv:Mv (s.drop o) most {S with p:=p2} (eB most (UInt8.ofNat sy) {S with p:=p2}):=mj
     have hF:eB most (UInt8.ofNat sy) {S with p:=p2}=⟨p2,if S.out.length=most then S.out else S.out++[UInt8.ofNat sy],if S.out.length=most then 2 else 0⟩:=by
      unfold eB;rw[if_neg (by simpa using he)];simp only;by_cases hf:S.out.length=most
      ·rw[if_pos acN,if_pos hf,if_pos hf]
      ·rw[if_neg acN,if_neg hf,if_neg hf,he]
     have hb:((UInt8.ofNat sy).toNat:Int)=(sy:Int):=by rw[aeb];omega
     rw[hb]at hput;generalize eB most (UInt8.ofNat sy) {S with p:=p2}=F at *
     have hF1:F.out=(if S.out.length=most then S.out else S.out++[UInt8.ofNat sy]):=by rw[hF]
     have hF2:F.err=(if S.out.length=most then 2 else 0):=by rw[hF]
     have hF3:F.p=p2:=by rw[hF]
     rw[<-hF1,<-hF2]at hput;clear hF hF1;have hlt2:((sy:Nat):Int)<256:=acN;refine ab hlt2 ?_;refine aI (aR s o most a2 hv2 S.out) hput bA nofun ?_;rintro h' v ar ⟨rfl,rfl,rfl⟩;refine⟨bA,rfl,?_⟩;refine zD ?_;exact hR2 (a2,hv2,F.out,F) _ ⟨hmv,hg,λ_=>⟨rfl,by rw[hF3];exact hr2⟩⟩ (.le rD)
    ·rw[if_neg hlt,if_neg (by simp)]at hg;simp only at hg;have hrp:=P2 s o most a2 hv2 {S with p:=p2} d sy hs ho hm hr2 hol he ht.d15 ht.dl ht.dc acN acN;have hmv:Mv (s.drop o) most {S with p:=p2} (dX (s.drop o) most d sy {S with p:=p2}):=xS;generalize dX (s.drop o) most d sy {S with p:=p2}=F at *
     have hlt2:¬((sy:Nat):Int)<256:=acN;simp only[bq]at hrp;simp(disch:=omega)only[go_sem,simprocAttr,hlt2,bq];refine aI (aR s o most a2 hv2 S.out) hrp bA nofun ?_;rintro h' v ar ⟨⟨a3,hv3,out3,rfl,rfl,hF⟩,rfl⟩;refine⟨bA,rfl,?_⟩;refine zD ?_;exact hR2 (a3,hv3,out3,F) _ ⟨hmv,hg,hF⟩ (.le rD)
   ·obtain⟨a3,hv3,out3,F⟩:=y;obtain⟨g1,g2,g3⟩:=hy;simp only at g1 g2 g3 |-;by_cases hFe:F.err=0
    ·obtain⟨rfl,hr3⟩:=g3 hFe;simp(disch:=omega)only[go_sem,simprocAttr,hFe,bq];have h1:=g1.p;have h2:=g1.q hp2.2;simp only at h1;refine hJ 2 ⟨h,l,d,a3,hv3,F⟩ _ (by simp only[kh];omega) ⟨⟨hr3,hFe,g1.o hol,hh⟩,?_⟩ (.le ?_)
     ·rw[if_neg (by decide),if_neg (by decide),if_pos rfl];exact⟨ht,g2⟩
     ·simp(disch:=omega)only[go_sem,simprocAttr,jI,aR,aU,bq]
    ·rw[show dW (s.drop o) most l d F=F from uh _ hFe]at g2;unfold jY at g2;rw[if_pos hFe]at g2;have hi:¬((F.err:Nat):Int)=0:=acN;simp(disch:=omega)only[go_sem,simprocAttr,hi,bq];exact pd hR F.err g2 hFe a3 hv3 out3 bA
 ·have hsym:aQ (s.drop o) l S=(0,{S with err:=re.2.2}):=by
   have:=rz (t:=s.drop o) (l:=l) (S:=S) he (by rw[hre];exact hre2);simp only[hre]at this;exact this
  have hst:fE (s.drop o) most l d S=(true,{S with err:=re.2.2}):=by
   unfold fE;rw[hsym];exact if_pos hre2
  rw[hst,if_pos rfl]at hg;unfold jY at hg;rw[if_pos hre2]at hg;have hi:¬((re.2.2:Nat):Int)=0:=acN;refine ab hi ?_;exact pd hR re.2.2 hg hre2 a2 hv2 S.out bA
set_option maxHeartbeats 1000000 in
theorem P6 (s:Bs) (o most a hv:Nat) (S:SS) (hs:s.length<=1000000000) (ho:o<=s.length) (hm:most<=1000000) (hr:bK s a hv (8*o+S.p)) (hol:S.out.length<=most) (he:S.err=0) :
    Eng.Spec Tryz.prog 215 (aR s o most a hv S.out) [.aa gR 0] (λh' v ar=>PI s o most (iM (s.drop o) most S) h' v/\ar=[.aa gR 0]):=by
 refine Cod.P8 (λE R hN hR=>?_);generalize hG:iM (s.drop o) most S=G at *
 refine ku ?_;refine abR hN (jI s o most) (xr s o most G) (kh s o) (λR1 hR1=>?_) (λl z hz=>?_)
 ·refine wW ?_;refine cf (y:=Cod.xt) hN (λ_:Unit=>⟨[(0,.aa 65032 0),(2000000,.aa 65032 0)],aR s o most a hv S.out⟩) (λ_=>True) (λR2 hR2=>?_) (λ_ _=>?_)
  ·refine wW ?_;exact hR2 () _ trivial (.le bA)
  exact Da s o most G ⟨0,[],[],a,hv,S⟩ hN hs ho hm hR ⟨hr,he,hol,by simp⟩ hG (λl' z' st' _ h1 h2=>hR1 l' z' st' h1 h2)
 ·obtain⟨h1,h2⟩:=hz;by_cases l0:l=0
  ·subst l0;rw[if_pos rfl]at h2;refine⟨.seq .skip (.cP Cod.xt),rfl,λR1 hR1=>?_⟩;simp(disch:=omega)only[go_sem,simprocAttr,jI];refine dY hN ?_;exact Da s o most G z hN hs ho hm hR h1 h2 hR1
  ·rw[if_neg l0]at h2;by_cases l1:l=1
   ·subst l1;rw[if_pos rfl]at h2;refine⟨.seq .skip Cod.P5,rfl,λR1 hR1=>?_⟩;have ha:=and1 (n:=z.h) (by have:=h1.hl;omega);unfold sL at h2;by_cases hx:z.h%2=1
    ·rw[if_pos hx]at h2;have hi:¬((z.h%2:Nat):Int)=0:=acN;simp(disch:=omega)only[go_sem,simprocAttr,jI,ha,hi,aR];refine hR.le (h':=aR s o most z.a z.hv z.S.out) bA ⟨⟨z.a,z.hv,z.S.out,rfl,?_,λ_=>by rw[<-h2];exact⟨rfl,h1.r⟩⟩,rfl⟩;rw[<-h2,h1.e];rfl
    ·rw[if_neg hx]at h2;have hi:((z.h%2:Nat):Int)=0:=acN;simp(disch:=omega)only[go_sem,simprocAttr,jI,ha,hi,aR];refine hR1 0 z _ (by simp only[kh];omega) ⟨h1,by rw[if_pos rfl];exact h2⟩ (.le ?_);simp(disch:=omega)only[go_sem,simprocAttr,jI,aR,aU]
   ·rw[if_neg l1]at h2;by_cases l2:l=2
    ·subst l2;rw[if_pos rfl]at h2;exact⟨.seq .skip Cod.C9,rfl,λR1 hR1=>P7 s o most G z hN hs ho hm hR h1 h2.1 h2.2 hR1⟩
    ·rw[if_neg l2]at h2;exact h2.elim
theorem JQ (s:Bs) (a:Nat) (hs:s.length<=1000000000000) (ha:a<=s.length):Eng.Spec Tryz.prog 214 [] [.str s,.int .i64 a] (λh r ar=>h=[(RD,.var (aU s a 0 a))]/\r=.aa RD 0/\ar=[.undef,.undef]):=by
 refine Cod.JR (λE R hN hR=>?_);have e:max (0:Int) (min (a:Int) (s.length:Int))=a:=acN;refine ab e ?_;exact hR.le (by simp(disch:=omega)only[go_sem,simprocAttr,aU,numAt]) ⟨rfl,rfl,rfl⟩
set_option maxHeartbeats 1000000 in
theorem PN (s:Bs) (o most:Nat) (hs:s.length<=1000000000) (ho:o<=s.length) (hm:most<=65536) :
    ao Tryz.prog 180 [.str s,.int .i64 o,.int .i64 most] (.af [.str (fu (s.drop o) most).1,.int .i64 ((fu (s.drop o) most).2.1:Nat),.int .i64 ((fu (s.drop o) most).2.2:Nat)]):=by
 refine Cod.PO (λE R hN hR=>?_);have htl:(s.drop o).length=s.length-o:=acU;have hnew:=JQ s o acN ho;have hr0:bK s o 0 (8*o+0):=⟨acN,ho,acN⟩;have hrun:=P6 s o most o 0 ⟨0,[],0⟩ hs ho acN hr0 (by simp) rfl;unfold fu at hR;simp only at hR;generalize hF:iM (s.drop o) most ⟨0,[],0⟩=F at *
 refine wW ?_;refine gG ?_;refine aI [] hnew trivial (λ_=>rfl) ?_;rintro h' v as' ⟨rfl,rfl,rfl⟩;refine⟨cK,rfl,?_⟩;refine wW ?_;refine ln ⟨[(33,.aa 65032 0),(9,.aa 65032 0)],aR s o most o 0 []⟩ (.mn 65032 1 60022 1 [.aa 40014 0,.al,.int .i64 most] rfl rfl rfl (.le ?_)) rfl ?_;exact bA;refine aI (aR s o most o 0 []) hrun bA nofun ?_;rintro h' v ar ⟨⟨a3,hv3,out3,rfl,rfl,hPI⟩,rfl⟩;refine⟨bA,rfl,?_⟩;by_cases he:F.err=0
 ·obtain⟨rfl,hr3⟩:=hPI he;rw[if_neg (by simpa using he)]at hR;have hu:=Y7 s a3 hv3 o (8*o+F.p) acN hr3 acN;have e1:(8*o+F.p+7)/8-o=(F.p+7)/8:=acN;rw[e1]at hu;simp only[aU]at hu;refine u5 he ?_;refine pX [] vV hu trivial (λ_=>rfl) ?_;rintro h' v ar ⟨rfl,rfl,rfl⟩;refine⟨rfl,rfl,?_⟩;refine wW ?_;exact hR.wk (h':=[]) (r':=.af [.str F.out,.int .i64 ((F.p+7)/8:Nat),.int .i64 (0:Nat)]) (ar':=[.undef,.undef,.undef]) rfl (.le vV) ⟨rfl,rfl⟩
 ·rw[if_pos he]at hR;have hi:¬((F.err:Nat):Int)=0:=acN;refine ab hi ?_;exact hR.wk (h':=[]) (r':=.af [.str [],.int .i64 (0:Nat),.int .i64 (F.err:Nat)]) (ar':=[.undef,.undef,.undef]) rfl (.le vV) ⟨rfl,rfl⟩
open Eng Sh
set_option maxRecDepth 10000
theorem D5 {t:Bs} {most:Nat}:∀(k:Nat) (S:SS),Mv t most S (pq t most k S)
 | 0,_=>.refl
 | k+1,S=>by
  unfold pq;split;exact nA.1;exact nA.1.trans (D5 k _)
theorem xp (t:Bs) (most:Nat):(fu t most).1.length<=most/\(fu t most).2.1<=t.length:=by
 unfold fu;simp only;have h:=D5 (t:=t) (most:=most) (8*t.length+1-0) ⟨0,[],0⟩;have h1:(iM t most ⟨0,[],0⟩).p<=8*t.length:=h.q (by simp);have h2:(iM t most ⟨0,[],0⟩).out.length<=most:=h.o (by simp);split;exact⟨by simp,by simp⟩;exact⟨h2,by simp only;omega⟩
def eG (t:Bs) (most:Nat):Bs×Nat×Nat:=
 if t.length<2 then([],0,6)else if lz (t.getD 0 0).toNat (t.getD 1 0).toNat=false then([],0,3)else
 if(fu (t.drop 2) most).2.2≠0 then([],0,(fu (t.drop 2) most).2.2)else
 if t.length-(2+(fu (t.drop 2) most).2.1)<4 then([],0,6)else
 if cU ((t.drop (2+(fu (t.drop 2) most).2.1)).take 4)≠jo (fu (t.drop 2) most).1 then([],0,5)else((fu (t.drop 2) most).1,(fu (t.drop 2) most).2.1+6,0)
theorem pF (t:Bs) (most:Nat):(eG t most).1.length<=most/\(eG t most).2.1<=t.length:=by
 have h:=xp (t.drop 2) most;rw[acU]at h;unfold eG;split;exact⟨by simp,by simp⟩
 ·split;exact⟨by simp,by simp⟩
  ·split;exact⟨by simp,by simp⟩
   ·split;exact⟨by simp,by simp⟩
    ·split;exact⟨by simp,by simp⟩;exact⟨h.1,by simp only;omega⟩
abbrev zV (Z:Bs×Nat×Nat):AV:=.af [.str Z.1,.int .i64 (Z.2.1:Nat),.int .i64 (Z.2.2:Nat)]
set_option maxHeartbeats 1000000 in
theorem Hc (s:Bs) (o most:Nat) (hs:s.length<=1000000) (ho:o<=s.length) (hm:most<=65536):ao Tryz.prog 132 [.str s,.int .i64 o,.int .i64 most] (zV (eG (s.drop o) most)):=by
 refine Cod.acK (λE R hN hR=>?_);unfold eG at hR;have hdl:(s.drop o).length=s.length-o:=acU;rw[hdl]at hR;by_cases h2:s.length-o<2
 ·rw[if_pos h2]at hR;have hi:(s.length:Int)-(o:Int)<2:=acN;refine ab hi ?_;refine aV hi ?_;exact hR.ro ⟨rfl,rfl⟩
 ·rw[if_neg h2]at hR;have hi:¬(s.length:Int)-(o:Int)<2:=acN;have gd:∀i,(s.drop o).getD i 0=s.getD (o+i) 0:=λi=>by rw[acO,List.getElem?_drop,<-acO]
  rw[gd,gd,adE]at hR;have hh:=acD (s.getD o 0) (s.getD (o+1) 0);by_cases hb:lz (s.getD o 0).toNat (s.getD (o+1) 0).toNat=false
  ·rw[if_pos hb]at hR;rw[hb]at hh;refine ab hi ?_;refine aV hi ?_;refine ah hh rfl rfl ?_;refine wW ?_;exact hR.ro ⟨rfl,rfl⟩
  ·rw[if_neg hb]at hR;rw[show lz (s.getD o 0).toNat (s.getD (o+1) 0).toNat=true by simpa using hb]at hh;have hinf:=PN s (o+2) most acN acN hm;have hil:=xp (s.drop (o+2)) most;rw[ad6]at hR;generalize fu (s.drop (o+2)) most=I at *
   rw[acU]at hil;refine ab hi ?_;refine aV hi ?_;refine ah hh rfl rfl ?_;refine wW ?_;refine ah hinf rfl rfl ?_;by_cases he:I.2.2=0
   ·rw[if_neg (by simpa using he)]at hR;by_cases h4:s.length-o-(2+I.2.1)<4
    ·rw[if_pos h4]at hR;have hj:(s.length:Int)-((o:Int)+2+(I.2.1:Int))<4:=acN;refine aE he hj ?_;exact hR.ro ⟨rfl,rfl⟩
    ·rw[if_neg h4]at hR;have hj:¬(s.length:Int)-((o:Int)+2+(I.2.1:Int))<4:=acN;rw[ad6]at hR;have e1:o+(2+I.2.1)=o+2+I.2.1:=acN;rw[e1]at hR;generalize hu:(s.drop (o+2+I.2.1)).take 4=u at *
     have hul:u.length=4:=by rw[<-hu,acS,acU];omega
     have hfb:=wX u acN;have had:=Hu I.1 acN;have hal:=zU I.1
     have hbl:cU u<4294967296:=by
      have:=sb u 4 acN;rw[acP acN]at this;exact this
     have et:((o:Int)+2+(I.2.1:Int)).toNat=o+2+I.2.1:=acN;have et4:((o:Int)+2+(I.2.1:Int)+4).toNat-(o+2+I.2.1)=4:=acN;refine cN he hj et et4 hu ?_;refine ah hfb rfl rfl ?_;refine wW ?_;refine ah had rfl rfl ?_;generalize cU u=x at *
     generalize jo I.1=y at *
     by_cases hxy:x=y
     ·rw[if_neg (by simpa using hxy)]at hR;have hi:((x:Nat):Int)=(y:Int):=acN;refine ab hi ?_;exact hR.ro ⟨rfl,rfl⟩
     ·rw[if_pos hxy]at hR;have hi:¬((x:Nat):Int)=(y:Int):=acN;refine ab hi ?_;exact hR.ro ⟨rfl,rfl⟩
   ·rw[if_pos he]at hR;have hj:¬((I.2.2:Nat):Int)=0:=acN;refine ab hj ?_;exact hR.ro ⟨rfl,rfl⟩
set_option maxHeartbeats 1000000 in
theorem Fg (s:Bs) (o most:Nat) (hs:s.length<=1000000) (ho:o<=s.length) (hm:most<=65536):ao Tryz.prog 93 [.str s,.int .i64 o,.int .i64 most] (zV (eG (s.drop o) most)):=by
 refine Cod.Xb (λE R hN hR=>?_);unfold eG at hR;have hdl:(s.drop o).length=s.length-o:=acU;rw[hdl]at hR;by_cases h2:s.length-o<2
 ·rw[if_pos h2]at hR;have hi:(s.length:Int)-(o:Int)<2:=acN;refine ab hi ?_;refine aV hi ?_;exact hR.ro ⟨rfl,rfl⟩
 ·rw[if_neg h2]at hR;have hi:¬(s.length:Int)-(o:Int)<2:=acN;have gd:∀i,(s.drop o).getD i 0=s.getD (o+i) 0:=λi=>by rw[acO,List.getElem?_drop,<-acO]
  rw[gd,gd,adE]at hR;have hx1:=(s.getD o 0).toNat_lt;have hx2:=(s.getD (o+1) 0).toNat_lt;have hh:=W9 (s.getD o 0).toNat (s.getD (o+1) 0).toNat (s.getD o 0).toNat_lt (s.getD (o+1) 0).toNat_lt;by_cases hb:lz (s.getD o 0).toNat (s.getD (o+1) 0).toNat=false
  ·rw[if_pos hb]at hR;rw[hb]at hh;refine ab hi ?_;refine aV hi ?_;refine ah hh rfl rfl ?_;refine wW ?_;exact hR.ro ⟨rfl,rfl⟩
  ·rw[if_neg hb]at hR;rw[show lz (s.getD o 0).toNat (s.getD (o+1) 0).toNat=true by simpa using hb]at hh;have hinf:=WU s (o+2) most acN (by rw[acU];omega) acN hm;have hil:=xp (s.drop (o+2)) most;rw[ad6]at hR;generalize fu (s.drop (o+2)) most=I at *
   rw[acU]at hil;refine ab hi ?_;refine aV hi ?_;refine ah hh rfl rfl ?_;refine wW ?_;refine ah hinf rfl rfl ?_;by_cases he:I.2.2=0
   ·rw[if_neg (by simpa using he)]at hR;have hdr:(s.drop (o+2+I.2.1)).length=s.length-(o+2+I.2.1):=acU;have et:((o:Int)+2+(I.2.1:Int)).toNat=o+2+I.2.1:=acN;rw[ad6]at hR;have e1:o+(2+I.2.1)=o+2+I.2.1:=acN;rw[e1]at hR;generalize hrr:s.drop (o+2+I.2.1)=rr at *
    by_cases h4:s.length-o-(2+I.2.1)<4
    ·rw[if_pos h4]at hR;refine bp he et hrr ?_;exact hR.ro ⟨rfl,rfl⟩
    ·rw[if_neg h4]at hR;generalize hu:rr.take 4=u at *
     have hul:u.length=4:=by rw[<-hu,acS];omega
     have had:=Xv I.1 acN;have hal:=zU I.1;have hbg:=XD (jo I.1) 4 acN acN;have hbf:=Au u hul (jo I.1) hal;refine bp he et hrr ?_;refine ah had rfl rfl ?_;refine wW ?_;refine ah hbg rfl rfl ?_;generalize cU u=x at *
     by_cases hxy:x=jo I.1
     ·rw[if_neg (by simpa using hxy)]at hR;have hi:=hbf.1 hxy;refine aE hu hi ?_;exact hR.ro ⟨rfl,rfl⟩
     ·rw[if_pos hxy]at hR;have hi:¬u=(ig (jo I.1) 4).reverse:=λh=>hxy (hbf.2 h);refine aE hu hi ?_;exact hR.ro ⟨rfl,rfl⟩
   ·rw[if_pos he]at hR;have hj:¬((I.2.2:Nat):Int)=0:=acN;refine ab hj ?_;exact hR.ro ⟨rfl,rfl⟩
end Go.Proofs.YtoalcafkffmiiaaGreatDoor.Pk
namespace Go.Proofs.YtoalcafkffmiiaaGreatDoor.Cod
open Eng Eng.Kz
set_option maxRecDepth 100000
abbrev Vq:=Kf.k1 140 Tryz.func188
abbrev Vp:=Kf.x1 140 Tryz.func188
abbrev Vw:AK:=pk (x:=Kc.code Tryz.prog Tryz.f136 141 [] (Kc.lr 1 [.tmp 2,.tmp 3])) _
abbrev VA:=Kf.k1 141 Tryz.func136
abbrev Vy:=Kf.x1 141 Tryz.func136
abbrev Vk:AK:=pk (x:=Kc.code Tryz.prog Tryz.f137 142 [] (Kc.lr 1 [.tmp 2])) _
abbrev Vo:=Kf.k1 142 Tryz.func137
abbrev Vm:=Kf.x1 142 Tryz.func137
abbrev pread:AK:=pk (x:=Kc.code Tryz.prog Tryz.f85 143 [] (Kc.eY [2000002,2000003] (Kc.lr 0 [.cell 4 true 7,.cell 5 false 1]))) _
abbrev VQ:AK:=pk (x:=pread.x) _
abbrev VR:AK:=pk (x:=pread.y.x) _
abbrev VS:AK:=pk (x:=pread.y.y.y.y.y.y.y.y.y) _
abbrev VT:AK:=pk (x:=pread.y.y.y.y.y.y.y.y.y.y.y.y) _
abbrev VU:AK:=pk (x:=pread.y.y.y.y.y.y.y.y.x.y.x.y.y) _
abbrev VV:AK:=pk (x:=pread.y.y.y) _
theorem VW:jA Tryz.prog 85 143000 24 pread [.cell 4 true 7,.cell 5 false 1]:=⟨_,Tryz.func85,by kernel_rfl⟩
theorem VX {h a0 a1 Post} (hI:lZ Tryz.prog 135 2) (hp:rL Tryz.prog [VQ,VR] VV 135 23 [(.t 4),(.t 5)] 143000 2 [.cell 4 true 7,.cell 5 false 1] [(0,a0),(1,a1)] h Post):Eng.Spec Tryz.prog 85 h [a0,a1] Post:=za VW rfl (adW rfl) (adW rfl) hI [(0,a0),(1,a1)] ⟨rfl,rfl,trivial⟩ hp
abbrev Vr:=Kf.s1 144 Tryz.func35
abbrev XI:=Kf.s1 147 Tryz.func55
abbrev Yh:AK:=pk (x:=Kc.code Tryz.prog Tryz.f155 148 [] (Kc.lr 0 [.tmp 4,.tmp 5,.tmp 6,.tmp 7])) _
abbrev Yi:AK:=pk (x:=Yh.y.y.y.x.x.x.x.y.y.y.y) _
abbrev Yk:=Kf.s2 148 Tryz.func155
abbrev Xz:AK:=pk (x:=Kc.code Tryz.prog Tryz.f156 149 [] (Kc.lr 0 [.tmp 4,.tmp 5,.tmp 6])) _
abbrev XA:AK:=pk (x:=Xz.y.y.y.x.x.x.x.y) _
abbrev XC:=Kf.s2 149 Tryz.func156
abbrev FI:AK:=pk (x:=Kc.code Tryz.prog Tryz.f101 150 [] (Kc.lr 0 [.cell 4 true 7,.tmp 5])) _
abbrev YJ:AK:=pk (x:=FI.y.y.y.y.y.y.x.y.x.y.y) _
abbrev YK:AK:=pk (x:=FI.y.y.y.y.y.y.y) _
abbrev YL:=Kf.s2 150 Tryz.func101
end Go.Proofs.YtoalcafkffmiiaaGreatDoor.Cod
