/- The proof, part 32 of 51. -/
import Derived.Test.YtgghhaahnpbnmaaGreatDoorCartularyWalksZD
import Derived.Test.YtgghhaahnpbnmaaGreatDoorCartularyWalksZE
import Derived.Test.YtgghhaahnpbnmaaGreatDoorProg
set_option linter.all false
namespace Go.Proofs.YtgghhaahnpbnmaaGreatDoor.Pk
open Eng
set_option maxRecDepth 10000
def RD:Nat:=40014
attribute [go_sem] RD
def aI (s:Bs) (a hv fr:Nat):List AV:=[.str s,.int .i64 a,.int .u64 (numAt s (8*a-hv) hv:Nat),.int .i64 hv,.int .i64 fr]
theorem bX {p:Prop} (h:p:=by simp(disch:=first | omega | (simp only[Lx];omega))only[go_sem,simprocAttr,aI]):p:=h
theorem jJ {a b:Prop} (k:b) (h:b->a:=by intro h;simp(disch:=first | omega | (simp only[Lx];omega))only[go_sem,simprocAttr,aI];exact h):a:=h k
theorem abu {E0:Prop} {a b:Prop} (e0:E0) (k:b) (h:E0->b->a:=by intro e0 h;simp(disch:=first | omega | (simp only[Lx];omega))only[go_sem,simprocAttr,aI,e0];exact h):a:=h e0 k
theorem zE {E0 E1:Prop} {a b:Prop} (e0:E0) (e1:E1) (k:b) (h:E0->E1->b->a:=by intro e0 e1 h;simp(disch:=first | omega | (simp only[Lx];omega))only[go_sem,simprocAttr,aI,e0,e1];exact h):a:=h e0 e1 k
theorem abv {E0 E1 E2:Prop} {a b:Prop} (e0:E0) (e1:E1) (e2:E2) (k:b) (h:E0->E1->E2->b->a:=by intro e0 e1 e2 h;simp(disch:=first | omega | (simp only[Lx];omega))only[go_sem,simprocAttr,aI,e0,e1,e2];exact h):a:=h e0 e1 e2 k
structure bD (s:Bs) (a hv p:Nat):Prop where
 h1:hv<=39
 h2:a<=s.length
 h3:p+hv=8*a
theorem yu {x k b:Nat} (hx:x<2^k) (hk:k<=56) (hb:b<256):bits .or .u64 (x:Int) (IntKind.u64.wrap ((b:Int)*2^min k 64))=((x+b*2^k:Nat):Int):=by
 have hp:2^k<=2^56:=acQ (by decide) hk;have h2:b*2^k<2^64:=aeK (aeA (show b<=255 by omega) hp) (by decide)
 have h3:x+b*2^k<2^64:=by
  have:(b+1)*2^k<=256*2^56:=aeA acB hp;rw[ad7]at this;omega
 have e:IntKind.u64.wrap ((b:Int)*2^min k 64)=((b*2^k:Nat):Int):=by
  rw[ac1 acB,show((b:Int)*2^k)=((b*2^k:Nat):Int)by push_cast;rfl];exact wrap_u64 acB
 rw[e]
 show IntKind.u64.wrap ((BitVec.ofInt 64 (x:Int) ||| BitVec.ofInt 64 ((b*2^k:Nat):Int)).toNat:Int)=_
 rw[acM,acM,adR,acP,acP,acL acB,acL h2,afn,<-adj,<-adb hx,adj,aeu];exact wrap_u64 acB
theorem Ct (s:Bs) (a hv fr p n:Nat) (hs:s.length<=1000000000000) (h:bD s a hv p) (hn:n<=32):Eng.Spec Tryz.prog 231 [(RD,.var (aI s a hv fr))] [.aa RD 0,.int .i64 n]
    (λh' v ar=>∃a' hv',bD s a' hv' p/\(n<=hv'\/a'=s.length)/\h'=[(RD,.var (aI s a' hv' fr))]/\v=.ab []/\ar=[.aa RD 0,.int .i64 n]):=by
 refine Cod.N6 (λE R hN hR=>?_);refine wW ?_;refine aJ hN (λq:Nat×Nat=>⟨[(0,.aa RD 0),(1,.int .i64 n),(2000000,.aa RD 0),(2000001,.int .i64 n)],[(RD,.var (aI s q.1 q.2 fr))]⟩) (λq=>bD s q.1 q.2 p) (λq=>s.length-q.1) (a,hv) (.le bX) h ?_;rintro⟨a,hv⟩ R1 ⟨h1,h2,h3⟩ hR1;simp only at h1 h2 h3;by_cases hlt:hv<n
 ·by_cases hat:a<s.length
  ·have hb:=(s.getD a 0).toNat_lt;have ho:=yu (iB s (8*a-hv) hv) (show hv<=56 by omega) (b:=(s.getD a 0).toNat) acB;have hf:=Vs s a hv acB;rw[<-hf]at ho;refine jJ ?_;refine gG ?_;rw[ho];exact hR1 (a+1,hv+8) _ (by simp only;omega) ⟨by simp only;omega,by simp only;omega,by simp only;omega⟩ (.le (by simp(disch:=omega)only[go_sem,simprocAttr,aI,show 8*(a+1)-(hv+8)=8*a-hv by omega]))
  ·refine jJ ?_;refine gG ?_;exact hR.le bX ⟨a,hv,⟨h1,h2,h3⟩,.inr acB,rfl,rfl,rfl⟩
 ·refine jJ ?_;refine gG ?_;exact hR.le bX ⟨a,hv,⟨h1,h2,h3⟩,.inl acB,rfl,rfl,rfl⟩
theorem Ae (x n:Nat) (hx:x<2^64) (hn:n<=32):bits .and .u64 (x:Int) (IntKind.u64.wrap (IntKind.u64.wrap (1*2^min n 64)-1))=((x%2^n:Nat):Int):=by
 have hp:2^n<=2^32:=acQ (by decide) hn;have hp1:0<2^n:=aeC (by decide)
 have e:IntKind.u64.wrap (IntKind.u64.wrap (1*2^min n 64)-1)=((2^n-1:Nat):Int):=by
  have e1:IntKind.u64.wrap (1*2^n)=((2^n:Nat):Int):=by
   rw[show((1:Int)*2^n)=((2^n:Nat):Int)by rw[Int.one_mul];push_cast;rfl];exact wrap_u64 acB
  rw[ac1 acB,e1,show(((2^n:Nat):Int)-1)=((2^n-1:Nat):Int)by omega];exact wrap_u64 acB
 rw[e]
 show IntKind.u64.wrap ((BitVec.ofInt 64 (x:Int) &&& BitVec.ofInt 64 ((2^n-1:Nat):Int)).toNat:Int)=_
 rw[acM,acM,adZ,acP,acP,acL hx,acL acB,ado];have:=adV x hp1;exact wrap_u64 acB
def c6 (s:Bs) (p:Nat):Nat:=8*s.length-p
theorem Wy (s:Bs) (a hv fr p n:Nat) (hs:s.length<=1000000000000) (h:bD s a hv p) (hn:n<=32):Eng.Spec Tryz.prog 225 [(RD,.var (aI s a hv fr))] [.aa RD 0,.int .i64 n]
    (λh' v ar=>∃a' hv',bD s a' hv' p/\(n<=hv'\/a'=s.length)/\h'=[(RD,.var (aI s a' hv' fr))]/\v=.ab [.int .u32 (numAt s p (min n hv'):Nat),.int .i64 (min n hv':Nat)]/\ar=[.aa RD 0,.int .i64 n]):=by
 refine Cod.Wz (λE R hN hR=>?_);refine wW ?_;refine gG ?_;refine aN [(RD,.var (aI s a hv fr))] (Ct s a hv fr p n hs h hn) vV nofun ?_;rintro h' v ar ⟨a',hv',⟨h1,h2,h3⟩,hor,rfl,rfl,rfl⟩;refine⟨bX,rfl,?_⟩;have hx:=iB s p hv';have hx2:numAt s p hv'<2^64:=acR hx (acQ (by decide) acB);have ha:=Ae (numAt s p hv') n hx2 hn
 have e1:numAt s p hv'%2^n=numAt s p (min n hv'):=by
  by_cases hh:n<=hv'
  ·rw[ac1 hh,nr s p hh]
  ·rw[aff acB,acL (acR hx (acQ (by decide) acB))]
 rw[e1]at ha;have hx3:numAt s p (min n hv')<2^32:=acR (iB s p _) (acQ (by decide) acB);have ew:IntKind.u32.wrap ((numAt s p (min n hv'):Nat):Int)=(numAt s p (min n hv'):Nat):=wrap_u32 acB;have em:min (n:Int) (hv':Int)=((min n hv':Nat):Int):=acB;simp(disch:=omega)only[go_sem,simprocAttr,aI,show 8*a'-hv'=p by omega,ha,ew,em];exact hR.le (by simp(disch:=omega)only[go_sem,simprocAttr,aI,show 8*a'-hv'=p by omega]) ⟨a',hv',⟨h1,h2,h3⟩,hor,rfl,rfl,rfl⟩
theorem Y6 (s:Bs) (a hv fr p n:Nat) (hs:s.length<=1000000000000) (h:bD s a hv p) (hn:n<=32):Eng.Spec Tryz.prog 226 [(RD,.var (aI s a hv fr))] [.aa RD 0,.int .i64 n]
    (λh' v ar=>∃a' hv',bD s a' hv' (if n<=c6 s p then p+n else p)/\h'=[(RD,.var (aI s a' hv' fr))]/\v=.bool (decide (n<=c6 s p))/\ar=[.aa RD 0,.int .i64 n]):=by
 refine Cod.Y7 (λE R hN hR=>?_);refine wW ?_;refine gG ?_;refine aN [(RD,.var (aI s a hv fr))] (Ct s a hv fr p n hs h hn) vV nofun ?_;rintro h' v ar ⟨a',hv',⟨h1,h2,h3⟩,hor,rfl,rfl,rfl⟩;refine⟨bX,rfl,?_⟩;by_cases hlt:hv'<n
 ·have hno:¬n<=c6 s p:=by unfold c6;rcases hor with ho | ho<;>omega
  refine jJ ?_;exact hR.le bX ⟨a',hv',by rw[if_neg hno];exact⟨h1,h2,h3⟩,rfl,by rw[decide_eq_false hno],rfl⟩
 ·have hyes:n<=c6 s p:=by unfold c6;omega
  have hd:((numAt s p hv':Nat):Int).fdiv (2^min n 64)=((numAt s (p+n) (hv'-n):Nat):Int):=by
   rw[ac1 acB,<-nq s p (show n<=hv' by omega),ac6 _ (ael (by decide)),aeS,aeI];rfl
  simp(disch:=omega)only[go_sem,simprocAttr,aI,show 8*a'-hv'=p by omega,hd];refine hR.le ?_ ⟨a',hv'-n,by rw[if_pos hyes];exact⟨acB,h2,acB⟩,rfl,by rw[decide_eq_true hyes],rfl⟩;rw[show((hv':Int)-(n:Int))=((hv'-n:Nat):Int)by omega];simp(disch:=omega)only[go_sem,simprocAttr,aI,show 8*a'-(hv'-n)=p+n by omega]
theorem uO (s:Bs) (a hv fr p n:Nat) (hs:s.length<=1000000000000) (h:bD s a hv p) (hn:n<=32):Eng.Spec Tryz.prog 217 [(RD,.var (aI s a hv fr))] [.aa RD 0,.int .i64 n]
    (λh' v ar=>∃a' hv',bD s a' hv' (if n<=c6 s p then p+n else p)/\h'=[(RD,.var (aI s a' hv' fr))]/\v=.ab [.int .u32 (if n<=c6 s p then numAt s p n else 0:Nat),.bool (decide (n<=c6 s p))]/\ar=[.aa RD 0,.int .i64 n]):=by
 refine Cod.Xm (λE R hN hR=>?_);refine wW ?_;refine aN [(RD,.var (aI s a hv fr))] (Wy s a hv fr p n hs h hn) vV nofun ?_;rintro h' v ar ⟨a',hv',h1,hor,rfl,rfl,rfl⟩;refine⟨bX,rfl,?_⟩;refine wW ?_;refine aN [(RD,.var (aI s a' hv' fr))] (Y6 s a' hv' fr p n hs h1 hn) vV nofun ?_;rintro h' v ar ⟨a2,hv2,h2,rfl,rfl,rfl⟩;refine⟨bX,rfl,?_⟩;by_cases hyes:n<=c6 s p
 ·have hm:min n hv'=n:=by
   have:=h1.h3;have:=h1.h2;unfold c6 at hyes;rcases hor with ho | ho<;>omega
  refine aV hyes hm ?_;exact hR.le vV ⟨a2,hv2,h2,rfl,by rw[if_pos hyes,decide_eq_true hyes],rfl⟩
 ·refine ah hyes ?_;exact hR.le vV ⟨a2,hv2,h2,rfl,by rw[if_neg hyes,decide_eq_false hyes];rfl,rfl⟩
def dT (p:Nat):Nat:=(p+7)/8*8
theorem GX {a hv p:Nat} (h:p+hv=8*a):dT p=8*(a-hv/8):=by unfold dT;omega
theorem Xk (s:Bs) (a hv fr p:Nat) (hs:s.length<=1000000000000) (h:bD s a hv p):Eng.Spec Tryz.prog 232 [(RD,.var (aI s a hv fr))] [.aa RD 0]
    (λh' v ar=>∃hv',bD s a hv' (dT p)/\hv'=8*(hv/8)/\h'=[(RD,.var (aI s a hv' fr))]/\v=.ab []/\ar=[.aa RD 0]):=by
 refine Cod.Xl (λE R hN hR=>?_);obtain⟨h1,h2,h3⟩:=h;have hp:8*a-hv=p:=acB;have em:(hv:Int).tmod 8=((hv%8:Nat):Int):=by rw[pg acB];omega
 have hd:((numAt s p hv:Nat):Int).fdiv (2^min (hv%8) 64)=((numAt s (p+hv%8) (hv-hv%8):Nat):Int):=by
  rw[ac1 acB,<-nq s p (show hv%8<=hv by omega),ac6 _ (ael (by decide)),aeS,aeI];rfl
 refine abv em hp hd ?_;refine hR.le ?_ ⟨8*(hv/8),⟨acB,h2,by unfold dT;omega⟩,rfl,rfl,rfl,rfl⟩;rw[show((hv:Int)-((hv%8:Nat):Int))=((8*(hv/8):Nat):Int)by omega,show hv-hv%8=8*(hv/8)by omega];simp(disch:=omega)only[go_sem,simprocAttr,aI,show 8*a-8*(hv/8)=p+hv%8 by omega]
theorem yI (s:Bs) (a hv fr p:Nat) (n:Nat) (hs:s.length<=1000000000000) (hn:n<=1000000000000) (h:bD s a hv p):Eng.Spec Tryz.prog 227 [(RD,.var (aI s a hv fr))] [.aa RD 0,.int .i64 n]
    (λh' v ar=>∃a' hv',bD s a' hv' (if n<=s.length-dT p/8 then dT p+8*n else dT p)/\(n<=s.length-dT p/8->hv'=0)/\h'=[(RD,.var (aI s a' hv' fr))] /\
     v=.ab [.str (if n<=s.length-dT p/8 then(s.drop (dT p/8)).take n else[]),.bool (decide (n<=s.length-dT p/8))]/\ar=[.aa RD 0,.int .i64 n]):=by
 refine Cod.Xn (λE R hN hR=>?_);refine wW ?_;refine aN [(RD,.var (aI s a hv fr))] (Xk s a hv fr p hs h) vV nofun ?_;rintro h' v ar ⟨hv',⟨h1,h2,h3⟩,rfl,rfl,rfl,rfl⟩;refine⟨bX,rfl,?_⟩;have hub:dT p/8=a-hv/8:=by rw[GX h.h3];omega
 have hle:=h.h3;have eq:(((8*(hv/8):Nat):Int)).tdiv 8=((hv/8:Nat):Int):=by rw[zp acB];omega
 have ef:((a:Int)-((hv/8:Nat):Int))=((a-hv/8:Nat):Int):=acB;rw[hub]at hR;generalize hf:a-hv/8=f at *
 have hfl:f<=s.length:=acB;by_cases hyes:n<=s.length-f
 ·have e1:((f:Int)+(n:Int)-(f:Int)).toNat=n:=acB;have e2:f+n-f=n:=acB;refine zE eq ef ?_;refine gG ?_;refine ah e2 ?_;exact hR.le (by simp(disch:=omega)only[go_sem,simprocAttr,aI,numAt]) ⟨f+n,0,by rw[if_pos hyes];exact⟨acB,acB,by rw[GX h.h3,hf];omega⟩,λ_=>rfl,rfl,by rw[if_pos hyes,decide_eq_true hyes],rfl⟩
 ·refine zE eq ef ?_;refine gG ?_;exact hR.le bX ⟨a,8*(hv/8),by rw[if_neg hyes];exact⟨h1,h2,h3⟩,λhh=>absurd hh hyes,rfl,by rw[if_neg hyes,decide_eq_false hyes],rfl⟩
open Eng
set_option maxRecDepth 10000
def aF (xs:List Nat):List AV:=xs.map λn:Nat=>AV.int .i64 n
theorem dN (xs:List Nat):(aF xs).length=xs.length:=by simp[aF]
theorem j7 {xs:List Nat} {i:Nat} (h:i<xs.length):nth (aF xs) i=.int .i64 (xs.getD i 0:Nat):=by
 simp[nth,aF,acC,h]
theorem kT {xs:List Nat}:(aF xs).all aD=true:=by simp[aF,aD,cellsOf,isCell]
theorem nk {xs:List Nat} {n:Nat}:aF xs++[.int .i64 (n:Int)]=aF (xs++[n]):=by simp[aF]
theorem qS {xs:List Nat} {o n:Nat}:aB (aF xs) o n=aF ((xs.drop o).take n):=by simp[aF,aB]
theorem qR:aF []=[]:=(rfl)
def cY (l:List Nat):List AV:=(List.range 16).map λn=>AV.int .i64 (bG l n:Nat)
theorem kC (l:List Nat):(cY l).length=16:=by simp[cY]
theorem mI (l:List Nat) {n:Nat} (h:n<16):(cY l).getD n .undef=.int .i64 (bG l n:Nat):=by
 unfold cY;rw[acC,List.getElem?_map,List.getElem?_range h];rfl
theorem LC (l:List Nat) {x:Nat} (h:x<16):(cY l).set x (.int .i64 ((bG l x:Int)+1))=cY (l++[x]):=by
 apply adW;intro j;rw[List.getElem?_set,kC];unfold cY;rw[List.getElem?_map,List.getElem?_map];by_cases hx:x=j
 ·subst hx;rw[if_pos rfl,if_pos h,List.getElem?_range h];simp only[ac7,qa,if_true];rfl
 ·rw[if_neg hx];by_cases hj:j<16
  ·rw[List.getElem?_range hj];simp only[ac7,qa,if_neg hx,adA]
  ·rw[List.getElem?_eq_none (by simp;omega)];rfl
theorem Bn {id:Nat} {l:List Nat}:(cY l).map (killC id)=cY l:=by simp[cY,killC]
theorem LA {id sz:Nat} {es:List AV} {l:List Nat}:(cY l).map (bR id sz es)=cY l:=by simp[cY,bR]
theorem LB {l:List Nat}:(cY l).all noRefC=true:=by simp[cY,noRefC]
theorem wK (l:List Nat) (n:Nat):bG l n<=l.length:=aeO
theorem yE (l:List Nat):∀n,bh l n<=l.length*n
 | 0=>by simp[bh]
 | 1=>by simp[bh]
 | n+2=>by
  have:=yE l (n+1);have:=wK l (n+1);simp only[bh];rw[show n+2=(n+1)+1 by omega,Nat.mul_succ l.length (n+1)];omega
def lq (l:List Nat) (n k:Nat):List Nat:=(List.range k).filter λs=>l.getD s 0==n
theorem aan (l:List Nat) (n k:Nat):(lq l n k).length<=k:=by
 have:=List.length_filter_le (λs=>l.getD s 0==n) (List.range k);simpa[lq]using this
theorem aao (l:List Nat) (n k:Nat):lq l n (k+1)=lq l n k++if l.getD k 0=n then[k]else[]:=by
 unfold lq;rw[adJ,List.filter_append]
 congr 1
 by_cases h:l.getD k 0=n<;>simp[-List.getD_eq_getElem?_getD,h]
theorem aam (l:List Nat) (n:Nat):lq l n l.length=vl l n:=(rfl)
theorem yg {a b:AV} {xs:List AV} {i:Nat} (h:i<xs.length):((a::(xs++[b])).drop (1+i)).getD 0 .undef=xs.getD i .undef:=by
 rw[aeu,adw,acC,List.getElem?_drop,adA,List.getElem?_append_left h,acC]
theorem D0 {a b:AV} {xs:List AV} {i:Nat} (h:i<xs.length):0<((a::(xs++[b])).drop (1+i)).length:=by simp;omega
theorem Ut {a b v:AV} {xs:List AV} {i:Nat} (h:i<xs.length):bV (a::(xs++[b])) (1+i) [v]=a::(xs.set i v++[b]):=by
 unfold bV;rw[aeu 1 i,adF,show i+1+[v].length=(i+1)+1 by simp,adw,adY acB,adq acB,ad6,if_pos h];simp
theorem Nx {a b v:AV} {xs:List AV} (h:xs.length=16):bV (a::(xs++[b])) 17 [v]=a::(xs++[v]):=by
 unfold bV;rw[adF,show 17+[v].length=17+1 by rfl,adw,ae1 h,afh];simp[h]
theorem Ny {a b v:AV} {xs:List AV} (h:xs.length=16):(a::(xs++[b])).set 17 v=a::(xs++[v]):=by
 rw[List.set_cons_succ,afm _ _ acB,h];rfl
theorem Nw {a b:AV} {xs:List AV} (h:xs.length=16):(a::(xs++[b]))[17]?=some b:=by
 rw[List.getElem?_cons_succ,List.getElem?_append_right acB,h];rfl
theorem B8 {a b:AV} {xs:List AV} (h:xs.length=16):(a::(xs++[b])).drop 17=[b]:=by
 rw[adw,List.drop_left' h]
def eO (l:List Nat):List AV:=.ro 1 (aF l)::(cY l++[.ro 1 (aF (sortL l 15))])
def aZ (l:List Nat):AV:=.ao (.agg (eO l))
def ic (l:List Nat) (m:Nat):Int:=if m=0 then 1 else(2^m:Nat)-((fstL l m+bG l m:Nat):Int)
theorem X9 (l:List Nat) (m:Nat):ic l (m+1)=2*ic l m-(bG l (m+1):Int):=by
 unfold ic
 cases m with
 | zero=>simp[fstL]
 | succ m=>
  rw[if_neg acB,if_neg acB];simp only[fstL];rw[aeg 2 (m+1)];omega
theorem room_le (l:List Nat) {m:Nat} (h:m<=15):ic l m<=32768:=by
 unfold ic;have:(2:Nat)^m<=2^15:=acQ (by decide) h;split<;>omega
theorem X8 (l:List Nat) {m:Nat} (h1:1<=m) (h2:m<=15) (h:ic l m<0):32768<dp l:=by
 refine Nat.lt_of_not_le λhc=>?_;have:=tZ hc h1 h2;unfold ic at h;rw[if_neg acB]at h;omega
theorem room_end (l:List Nat):ic l 15=32768-(dp l:Int):=by
 unfold ic dp;rw[if_neg acB];rfl
theorem tQ (l:List Nat) (hl:∀n∈l,n<=15) (hn:l.length<=320):Eng.Spec Tryz.prog 127 [] [.ro 1 (aF l)] (λh r _=>h=[]/\r=if bw l then .ab [aZ l,.int .i64 0]else .ab [.lit (.pointer none),.int .i64 4]):=by
 refine Cod.Qi (λE R hN hR=>?_);have hnl:=dN l;refine aV @dN @kT ?_;refine gG ?_;refine aJ hN (λk:Nat=>⟨[(0,.ro 1 (aF l)),(4,.aa 49018 0),(19,.ro 1 (aF l)),(20,.int .i64 l.length),(21,.int .i64 k)],[(49018,.var (.sl 49016 0 l.length::(cY (l.take k)++[.an]))),(49016,.arr 1 (aF l))]⟩) (λk=>k<=l.length) (λk=>l.length-k) 0 (.le (by simp(disch:=first | omega | (simp only[Lx];omega))only[go_sem,simprocAttr,dN];rfl)) acB ?_
 rintro k R1 hk hR1;have hcl:=kC (l.take k);by_cases hlt:k<l.length
 ·have hx:=nf hl k;have htk:=dS l 0 hlt;have hcs:=LC (l.take k) (x:=l.getD k 0) acB;have hcb:=wK (l.take k) (l.getD k 0);rw[acJ]at hcb;rw[<-htk]at hcs;generalize hc:l.getD k 0=x at *
  simp(disch:=first | omega | (simp only[Lx];omega))only[go_sem,simprocAttr,dN,j7,hc,yg,D0,mI,Ut,adB]
  refine gG ?_;rw[hcs];exact hR1 (k+1) _ acB acB (.le vV)
 ·obtain rfl:k=l.length:=acB;refine ah @dN ?_;have hcl:=kC l
  refine aJ hN (λm:Nat=>⟨[(0,.ro 1 (aF l)),(4,.aa 49018 0),(7,.int .i64 (ic l m)),(8,.int .i64 (bh l (m+1):Nat)),(9,.int .i64 ((m:Int)+1))],
   [(49018,.var (.sl 49016 0 l.length::(cY l++[.sl 49082 0 (sortL l m).length]))),(49016,.arr 1 (aF l)),(49082,.arr 1 (aF (sortL l m)))]⟩) (λm=>m<=15/\0<=ic l m) (λm=>15-m) 0
   (.iW 49018 17 49082 1 (.sl 49016 0 l.length::(cY l++[.an])) rfl (Nw hcl) rfl (.le (by simp(disch:=first | omega | (simp only[Lx];omega))only[go_sem,simprocAttr,ady,Bn,Ny,sortL,qR,ic,bh]))) ⟨acB,by show(0:Int)<=1;decide⟩ ?_
  rintro m R2 ⟨hm,hr⟩ hR2;by_cases hlt:m<15
  ·have hst:=X9 l m;have hrl:=room_le l hm;have hcb:=wK l (m+1);have hpb:=yE l (m+1);have hpb2:l.length*(m+1)<=320*16:=aeA hn acB;have hsl:=mc l m;refine gP @dN @yg @D0 @mI @adB ?_;rw[<-hst];refine kK (λhneg=>?_) (λhneg=>?_)
   ·have hbad:=X8 l acB acB hneg;have hck:bw l=false:=by unfold bw;rw[decide_eq_false acB];rfl
    refine ah hck ?_;exact hR.ro ⟨rfl,by rw[hck];rfl⟩
   ·refine ah @dN ?_
    refine aJ hN (λk:Nat=>⟨[(0,.ro 1 (aF l)),(4,.aa 49018 0),(7,.int .i64 (ic l (m+1))),(8,.int .i64 (bh l (m+2):Nat)),(9,.int .i64 ((m:Int)+1)),(65,.ro 1 (aF l)),(66,.int .i64 l.length),(67,.int .i64 k)],
     [(49018,.var (.sl 49016 0 l.length::(cY l++[.sl 49082 0 (sortL l m++lq l (m+1) k).length]))),(49016,.arr 1 (aF l)),(49082,.arr 1 (aF (sortL l m++lq l (m+1) k)))]⟩) (λk=>k<=l.length) (λk=>l.length-k) 0
     (.le (by simp(disch:=first | omega | (simp only[Lx];omega))only[go_sem,simprocAttr,lq,List.range_zero,List.filter_nil,adx,bh])) acB ?_
    rintro k R3 hk hR3;by_cases hlt3:k<l.length
    ·have htl:=aan l (m+1) k;have hsu:=aao l (m+1) k;by_cases hx:l.getD k 0=m+1
     ·rw[if_pos hx]at hsu;simp(disch:=first | omega | (simp only[Lx];omega))only[go_sem,simprocAttr,dN,j7,hx,B8,kT,qS,ady,Bn,Nx]
      refine hR3 (k+1) _ acB acB (.le ?_);rw[hsu,<-ade,<-nk];exact eY @dN
     ·rw[if_neg hx,adx]at hsu;refine gP @dN @j7 @B8 @kT @qS ?_;exact hR3 (k+1) _ acB acB (.le (by rw[hsu];exact vV))
    ·obtain rfl:k=l.length:=acB;refine ah @dN ?_;refine hR2 (m+1) _ acB ⟨acB,acB⟩ (.le ?_);rw[aam];simp(disch:=first | omega | (simp only[Lx];omega))only[go_sem,simprocAttr,sortL]
  ·obtain rfl:m=15:=acB;have hre:=room_end l;have hpn:=uK l hl;have hsl:=mc l 15
   have yes:bw l=true->R [(49018,.var (.sl 49016 0 l.length::(cY l++[.sl 49082 0 (sortL l 15).length]))),(49016,.arr 1 (aF l)),(49082,.arr 1 (aF (sortL l 15)))] (.ab [.aa 49018 0,.int .i64 0]) [.undef]:=by
    intro hck;rw[hck]at hR;refine hR.wk (h':=[]) (r':=.ab [aZ l,.int .i64 0]) (ar':=[.undef]) rfl (.bn 49016 (.bn 49082 (.oz 0 0 49018 [.aa 49018 0,.int .i64 0] (eO l) vV (by rfl) ?_ ?_ (.le ?_)))) ⟨rfl,by rfl⟩
    ·simp(disch:=first | omega | (simp only[Lx];omega))only[go_sem,simprocAttr,ady,LA,qS,dN,mg,eO]
    ·simp[eO,noRefC,LB]
    ·simp(disch:=first | omega | (simp only[Lx];omega))only[go_sem,simprocAttr,aZ]
   have no:bw l=false->∀h,R h (.ab [.lit (.pointer none),.int .i64 4]) [.undef]:=by
    intro hck h;rw[hck]at hR;exact hR.ro ⟨rfl,rfl⟩
   have hp16:bh l (15+1)=dQ l:=hpn
   have hone:∀x,((cY l++[x]).drop 1).getD 0 .undef=.int .i64 (bG l 1:Nat):=λx=>by
    have:=yg (a:=.undef) (b:=x) (xs:=cY l) (i:=1) acB;rw[mI l acB]at this;exact this
   have honl:∀x,0<((cY l++[x]).drop 1).length:=λx=>by simp;omega
   by_cases ha:0<ic l 15
   ·by_cases hb:dQ l=0
    ·have hck:bw l=true:=by unfold bw;rw[decide_eq_true (show dp l<=32768 by omega),decide_eq_true hb];simp
     refine aV hp16 hb ?_;refine gG ?_;exact yes hck
    ·by_cases hc:dQ l=1
     ·by_cases hd:bG l 1=1
      ·have hck:bw l=true:=by unfold bw;rw[decide_eq_true (show dp l<=32768 by omega),decide_eq_true hc,decide_eq_true hd];simp
       refine gP hp16 hc hone honl hd ?_;refine lP hone honl hd ?_;exact yes hck
      ·have hck:bw l=false:=by unfold bw;rw[decide_eq_false (show ¬dp l=32768 by omega),decide_eq_false hb,decide_eq_false hd];simp
       refine cW hp16 hc hone honl ?_;refine gX hone honl ?_;exact no hck _
     ·have hck:bw l=false:=by unfold bw;rw[decide_eq_false (show ¬dp l=32768 by omega),decide_eq_false hb,decide_eq_false hc];simp
      refine ah hp16 ?_;refine gG ?_;exact no hck _
   ·have hck:bw l=true:=by unfold bw;rw[decide_eq_true (show dp l<=32768 by omega),decide_eq_true (show dp l=32768 by omega)];simp
    refine ah hp16 ?_;refine gG ?_;exact yes hck
theorem Xu {l:List Nat} (h:dQ l=0) (b:List Bool):readL (bH l) b=(0,0,3):=by
 have h0:∀s,s<l.length->l.getD s 0=0:=by
  intro s hs;refine Nat.eq_zero_of_not_pos λhp=>?_;unfold dQ at h;have:=List.countP_eq_zero.1 h (l.getD s 0) (by rw[acC,List.getElem?_eq_getElem hs];exact adK hs);simp[-List.getD_eq_getElem?_getD]at this;omega
 unfold readL;rw[xj (λs hs=>xG (h0 s hs))];simp only;rw[if_pos];rw[acI];intro c hc;obtain⟨s,hs,rfl⟩:=adu.1 hc;unfold aK;rw[if_pos (h0 s (adI.1 hs))];rfl
theorem or_bit {c b:Nat} (hc:c<32768) (hb:b<=1):bits .or .i64 (IntKind.i64.wrap ((c:Int)*2^min 1 64)) (b:Int)=((2*c+b:Nat):Int):=by
 rw[show((c:Int)*2^min 1 64)=((c*2:Nat):Int)by push_cast;rfl,gq acB]
 show IntKind.i64.wrap ((BitVec.ofInt 64 ((c*2:Nat):Int) ||| BitVec.ofInt 64 (b:Int)).toNat:Int)=_
 rw[acM,acM,adR,acP,acP,acL acB,acL acB]
 have h1:c*2 ||| b=2*c+b:=by
  have:=adb (b:=b) (i:=1) acB c;rw[adj]at this;rw[show c*2=c*2^1 by rfl,<-this];omega
 rw[h1];exact gq acB
theorem vn (l:List Nat):((eO l).drop 1).take 16=cY l:=by
 unfold eO;rw[adw,adp,ae1 (kC l)]
theorem GA (l:List Nat):(eO l).getD 17 .undef=.ro 1 (aF (sortL l 15)):=by
 unfold eO;rw[adP,acC,List.getElem?_append_right (by rw[kC];omega),kC];rfl
theorem Gz (l:List Nat):(eO l).length=18:=by simp[eO,kC]
set_option maxHeartbeats 1000000 in
theorem xH (l:List Nat) (hl:∀n∈l,n<=15) (hll:l.length<=320) (hck:bw l=true) (s:Bs) (a hv fr p:Nat) (hs:s.length<=1000000000000) (h:bD s a hv p):Eng.Spec Tryz.prog 220 [(RD,.var (aI s a hv fr))] [aZ l,.aa RD 0]
    (λh' v ar=>∃a' hv' p' k,bD s a' hv' p'/\h'=[(RD,.var (aI s a' hv' fr))]/\v=.ab [.int .i64 (k:Nat),.int .i64 ((readL (bH l) (aX s p)).2.2:Nat)] /\
     ((readL (bH l) (aX s p)).2.2=0->k=(readL (bH l) (aX s p)).1/\p'=p+(readL (bH l) (aX s p)).2.1)/\ar=[aZ l,.aa RD 0]):=by
 have hc:dp l<=32768:=by unfold bw at hck;simp at hck;exact hck.1
 refine Cod.Qk (λE R hN hR=>?_);have hsl:=mc l 15;have hpn:=uK l hl;have hp16:bh l (15+1)=dQ l:=hpn;have htl:=Gz l;have hnum:dQ l<=l.length:=aeO;have hts:=GA l;have hnl:=dN (sortL l 15);have hso:∃so,sortL l 15=so:=⟨_,rfl⟩;obtain⟨so,hso⟩:=hso;rw[hso]at hsl hts hnl;by_cases h0:dQ l=0
 ·have hr:=Xu h0 (aX s p);rw[hr]at hR;simp(disch:=omega)only[go_sem,simprocAttr,aZ,htl,hts,hnl,hsl,hp16,h0];exact hR.le vV ⟨a,hv,p,0,h,rfl,rfl,λe=>by simp at e,rfl⟩
 ·simp(disch:=omega)only[go_sem,simprocAttr,aZ,htl,hts,hnl,hsl,hp16,h0];have hbl:=lg s p;generalize hb:aX s p=b at *
  refine aJ hN (λq:Nat×Nat×Nat=>⟨[(0,.ao (.agg (eO l))),(1,.aa 40014 0),(6,.int .i64 (msb (b.take q.1):Nat)),(7,.int .i64 (fstL l (q.1+1):Nat)),(8,.int .i64 (bh l (q.1+1):Nat)),(9,.int .i64 ((q.1:Int)+1)),
   (2000000,.ao (.agg (eO l))),(2000001,.aa 40014 0)],[(40014,.var (aI s q.2.1 q.2.2 fr))]⟩)
   (λq=>q.1<15/\bD s q.2.1 q.2.2 (p+q.1)/\q.1<=c6 s p/\nN l b (q.1+1)/\fstL l (q.1+1)<=2*msb (b.take q.1)/\bh l (q.1+1)<dQ l) (λq=>15-q.1) (0,a,hv)
   (.le (by simp(disch:=omega)only[go_sem,simprocAttr,msb,List.foldl_nil,fstL,bh])) ⟨acB,h,acB,λs _ h1 h2=>by omega,by simp[fstL],by simp only[bh];omega⟩ ?_
  rintro⟨n,a,hv⟩ R1 ⟨hn,hrd,hlb,hno,hj,hpre⟩ hR1;simp only at hn hrd hlb hno hj hpre;have hmt:=D5 (b.take n);have hmt2:2^(b.take n).length<=2^15:=acQ (by decide) (by rw[acJ];omega);have hkr:=tZ hc (n:=n+1) acB acB;have hk2:2^(n+1)<=2^15:=acQ (by decide) acB;simp(disch:=omega)only[go_sem,simprocAttr,aZ];refine aN [(RD,.var (aI s a hv fr))] (uO s a hv fr (p+n) 1 hs hrd acB) vV nofun ?_;rintro h' v ar ⟨a',hv',hrd',rfl,rfl,rfl⟩;refine⟨bX,rfl,?_⟩;unfold c6 at hlb;by_cases hbit:1<=c6 s (p+n)
  ·rw[if_pos hbit]at hrd';have hbit2:=hbit;unfold c6 at hbit2;have hbn:n<b.length:=acB;have hget:b.getD n false=ir s (p+n):=by rw[<-hb];exact Fv s p acB
   have hms:=yh b n hbn;rw[hget,<-Vt]at hms;have hx1:=iB s (p+n) 1;have hle:=Uf hbn hj;have hob:=or_bit (c:=msb (b.take n)) (b:=numAt s (p+n) 1) acB acB;rw[<-hms]at hob;have hcl:=kC l;have hpb:=yE l (n+1);have hpm:=oW l (n+2) (16-(n+2));rw[show n+2+(16-(n+2))=16 by omega,hpn]at hpm;have hps:bh l (n+2)=bh l (n+1)+bG l (n+1):=rfl;have hfs:fstL l (n+2)=2*(fstL l (n+1)+bG l (n+1)):=rfl;refine rQ hbit hob @vn htl hcl @mI ?_;refine kK (λhk=>?_) (λhk=>?_)
   ·obtain⟨k,hke⟩:∃k,msb (b.take (n+1))=fstL l (n+1)+k:=⟨msb (b.take (n+1))-fstL l (n+1),acB⟩;obtain⟨sy,g1,g2,g3⟩:=Ui hc hl hn hbn hno hj hke acB;rw[hso]at g1;rw[g3]at hR;have ei:((bh l (n+1):Nat):Int)+(((msb (b.take (n+1)):Nat):Int)-((fstL l (n+1):Nat):Int))=((bh l (n+1)+k:Nat):Int):=acB;simp(disch:=omega)only[go_sem,simprocAttr,hts,htl,hnl,hsl,hp16,ei,j7,g1];exact hR.le (by simp(disch:=omega)only[go_sem,simprocAttr,aZ]) ⟨a',hv',p+n+1,sy,hrd',rfl,rfl,λ_=>⟨rfl,by show _=p+(n+1);omega⟩,rfl⟩
   ·obtain⟨g1,g2⟩:=Ug hc hl hn hbn hno acB
    have hw2:(((fstL l (n+1):Nat):Int)+((bG l (n+1):Nat):Int))*2^min 1 64=((fstL l (n+2):Nat):Int):=by
     rw[hfs,show(2:Int)^min 1 64=2 by decide];push_cast;omega
    have ha2:((bh l (n+1):Nat):Int)+((bG l (n+1):Nat):Int)=((bh l (n+2):Nat):Int):=by rw[hps];push_cast;rfl
    by_cases hend:bh l (n+2)=dQ l
    ·have hr:=Uh (b:=b) hl (n:=n+1) acB acB hend acB g1;rw[hr]at hR;simp(disch:=omega)only[go_sem,simprocAttr,vn,hts,htl,hcl,mI,hw2,ha2,hnl,hsl,hp16,hend];exact hR.le (by simp(disch:=omega)only[go_sem,simprocAttr,aZ]) ⟨a',hv',p+n+1,0,hrd',rfl,rfl,λe=>by simp at e,rfl⟩
    ·have hne:¬((bh l (n+2):Nat):Int)=((dQ l:Nat):Int):=acB
     have hn15:n+1<15:=by
      refine Nat.lt_of_not_le λhh=>?_;have:n=14:=acB;subst this;exact hend hpn
     simp(disch:=omega)only[go_sem,simprocAttr,vn,hts,htl,hcl,mI,hw2,ha2,hnl,hsl,hp16,hne];exact hR1 (n+1,a',hv') _ (by simp only;omega) ⟨hn15,hrd',by simp only[c6];omega,g1,g2,by show bh l (n+2)<_;omega⟩ (.le vV)
  ·have hbn:b.length=n:=by unfold c6 at hbit;omega
   rw[if_neg hbit]at hrd';have hr:=Ue (b:=b) hl hck acB (by rw[hbn];exact hpre) (by rw[hbn];exact hno) (by rw[acF acB]at hj;rw[hbn];exact hj);rw[hr]at hR;refine ah hbit ?_;exact hR.le vV ⟨a',hv',p+n,0,hrd',rfl,rfl,λe=>by simp at e,rfl⟩
def AN (xs:List Bool):List AV:=xs.map AV.bool
theorem AP {xs:List Bool}:(AN xs).all aD=true:=by simp[AN,aD,cellsOf,isCell]
def bB (b:List Bool):Nat:=b.foldr (λc a=>2*a+c.toNat) 0
theorem oO (b:List Bool):bB b<2^b.length:=by
 induction b with
 | nil=>simp[bB]
 | cons c b ih=>
  have h1:bB (c::b)=2*bB b+c.toNat:=rfl;have:c.toNat<=1:=by cases c<;>decide
  rw[h1,acH,aeg];omega
theorem Es (b:List Bool) (c:Bool):bB (b++[c])=bB b+if c then 2^b.length else 0:=by
 induction b with
 | nil=>cases c<;>rfl
 | cons d b ih=>
  have h1:∀b,bB (d::b)=2*bB b+d.toNat:=λ_=>rfl;rw[acZ,h1,h1,ih,acH,aeg];split<;>omega
theorem yo (s:Bs) (p:Nat):∀n,p+n<=8*s.length->bB ((aX s p).take n)=numAt s p n
 | 0,_=>rfl
 | n+1,h=>by
  have hl:=lg s p;rw[dS (aX s p) false acB,Es,yo s p n acB,Fv s p acB,acJ,hl,ac1 acB];rfl
end Go.Proofs.YtgghhaahnpbnmaaGreatDoor.Pk
namespace Go.Proofs.YtgghhaahnpbnmaaGreatDoor.Cod
open Eng Eng.Kz
set_option maxRecDepth 100000
abbrev Q5:=Kf.k2 60 Tryz.func221
abbrev Rj:AK:=pk (x:=Kc.code Tryz.prog Tryz.f218 61 [] (Kc.lr 1 [.tmp 2])) _
abbrev Rk:AK:=pk (x:=Rj.y.y.y.y.y.y) _
abbrev Rm:=Kf.k1 61 Tryz.func218
abbrev qD:AK:=pk (x:=Kc.code Tryz.prog Tryz.f219 62 [62081,62159] (Kc.lr 1 [.tmp 2,.tmp 3,.tmp 4])) _
abbrev Rt:AK:=pk (x:=qD.y.y.y.y.y.y.y.y.y.y) _
abbrev Dy:AK:=pk (x:=qD.y.y.y.y.y.y.y.y.y.y.y) _
abbrev Dz:AK:=pk (x:=qD.y.y.y.y.y.y.y.y.y.y.x.x.x.y.x.y.y.y.y.y) _
abbrev Ru:AK:=pk (x:=qD.y.y.y.y.y.y) _
abbrev Rv:AK:=pk (x:=qD.y.y.y.y.y.y.y) _
abbrev Ry:=Kf.k1 62 Tryz.func219 [62081,62159]
abbrev Q7:=Kf.k3 63 Tryz.func222
abbrev tT:AK:=pk (x:=Kc.code Tryz.prog Tryz.f212 64 [64010] (Kc.lr 1 [.tmp 2])) _
abbrev Dq:AK:=pk (x:=tT.y.x.y.y.y.y.y.y.y.y.y.y) _
abbrev Q8:AK:=pk (x:=tT.y.x.y.y.y.y.y.y.y.y.y.y.y.y.y) _
abbrev Q9:AK:=pk (x:=tT.y.x.y.y.y.y.y.y.y.y.y.y.y.y.y.y.y.y) _
abbrev xM:AK:=pk (x:=tT.y.x.y.y.y.y.y.y) _
abbrev Rc:=Kf.k1 64 Tryz.func212 [64010]
abbrev QV:=Kf.s3 65 Tryz.func198
abbrev QG:=Kf.s0 66 Tryz.func90
abbrev Q4:=Kf.s0 67 Tryz.func230
abbrev QI:=Kf.s1 68 Tryz.func95
abbrev Qu:=Kf.s1 69 Tryz.func96
abbrev OQ:=Kf.s1 80 Tryz.func228
end Go.Proofs.YtgghhaahnpbnmaaGreatDoor.Cod
namespace Go.Proofs.YtgghhaahnpbnmaaGreatDoor.Pk
open Eng
set_option maxRecDepth 10000
def Hs:Nat:=79038
def Hq:Nat:=73035
attribute [go_sem] Hs Hq
theorem Fk (t:Bs) (most n:Nat) (S:SS):rawS t most (n+1) S=if S.err≠0 then S else rawS t most n (fw most (UInt8.ofNat (bI t 8 S).1) (bI t 8 S).2):=rfl
open Eng
set_option maxRecDepth 10000
def eR (f:Nat->Nat) (n:Nat):List Nat:=(List.range n).map f
theorem GU (f:Nat->Nat) (n:Nat):(eR f n).length=n:=by simp[eR]
theorem GV (f:Nat->Nat) (n:Nat):eR f (n+1)=eR f n++[f n]:=by simp[eR,adJ]
theorem GW (f:Nat->Nat):eR f 0=[]:=(rfl)
theorem lY {xs:List Nat}:aB (aF xs) 0 xs.length=aF xs:=by simp[aB,aF,acF]
def fixF (i:Nat):Nat:=if 256<=i/\i<280 then 7 else if 144<=i/\i<256 then 9 else 8
theorem N9:eR fixF 288=ba:=by decide +kernel
theorem N8:eR (λ_=>5) 32=bU:=by decide +kernel
theorem mS:(∀n∈ba,n<=15)/\ba.length=288/\bw ba=true:=by decide +kernel
theorem mQ:(∀n∈bU,n<=15)/\bU.length=32/\bw bU=true:=by decide +kernel
theorem Gu {l:List Nat} (h:∀n∈l,n<=15) (k:Nat):∀n∈l.take k,n<=15:=λn hn=>h n (ad0 hn)
theorem BS {l:List Nat} (h:∀n∈l,n<=15) (k:Nat):∀n∈l.drop k,n<=15:=λn hn=>h n (aeb hn)
theorem ya (t:Bs) (fl:List Nat) (N k:Nat) (l:List Nat) (S:SS):jB t fl N (k+1) l S=if N<=l.length\/S.err≠0 then(l,S)else
    if(dZ N l (eo t l (bO t fl S).1 (bO t fl S).2)).err≠0 then(l,dZ N l (eo t l (bO t fl S).1 (bO t fl S).2))
    else jB t fl N k (l++List.replicate (eo t l (bO t fl S).1 (bO t fl S).2).1 (eo t l (bO t fl S).1 (bO t fl S).2).2.1) (dZ N l (eo t l (bO t fl S).1 (bO t fl S).2)):=rfl
theorem UZ (l:List Nat) (k x:Nat):aF (l++List.replicate k x)++[.int .i64 (x:Int)]=aF (l++List.replicate (k+1) x):=by
 rw[nk,ade,<-aey]
def qF (t:Bs) (nl nd:Nat) (b:List Nat×SS):(List Nat×List Nat)×SS:=
 if b.2.err≠0 then(([],[]),b.2)else
 if b.1.getD 256 0=0\/bw (b.1.take nl)=false\/bw (b.1.drop nl)=false then(([],[]),{b.2 with err:=3})else((b.1.take nl,b.1.drop nl),b.2)
def ov (t:Bs) (nl nd:Nat) (a:List Nat×SS):(List Nat×List Nat)×SS:=
 if a.2.err≠0 then(([],[]),a.2)else if bw a.1=false then(([],[]),{a.2 with err:=3})else qF t nl nd (jB t a.1 (nl+nd) (nl+nd) [] a.2)
theorem BZ (t:Bs) (S:SS):fD t S=if 8*t.length<S.p+14 then(([],[]),{S with err:=6})else if 286<numAt t S.p 5+257\/30<numAt t (S.p+5) 5+1 then(([],[]),{S with p:=S.p+14,err:=3})else
    ov t (numAt t S.p 5+257) (numAt t (S.p+5) 5+1) (firstS t (numAt t (S.p+10) 4+4) (numAt t (S.p+10) 4+4) (List.replicate 19 0) {S with p:=S.p+14}):=rfl
theorem xn (t:Bs) (nc k:Nat) (l:List Nat) (S:SS):firstS t nc (k+1) l S=if S.err≠0 then(l,S)else firstS t nc k (l.set (iG.getD (nc-(k+1)) 0) (bI t 3 S).1) (bI t 3 S).2:=rfl
theorem N7 (t:Bs) (nc k:Nat) (l:List Nat) (S:SS) (h:S.err≠0):firstS t nc k l S=(l,S):=by
 cases k with
 | zero=>rfl
 | succ k=>rw[xn,if_pos h]
theorem WV:∀j,j<19->iG.getD j 0<19:=by decide
theorem U0 {l:List Nat} {i x:Nat}:(aF l).set i (.int .i64 (x:Int))=aF (l.set i x):=by simp[aF,afq]
def fR:Nat:=65032
def vM:Nat:=60022
attribute [go_sem] fR vM
def aG (s:Bs) (o most a hv:Nat) (out:Bs):HP:=[(fR,.var [.aa RD 0,.sl vM 0 out.length,.int .i64 most]),(vM,.arr 1 (out.map ub)),(RD,.var (aI s a hv o))]
theorem rM {p:Prop} (h:p:=by simp(disch:=first | omega | (simp only[Lx];omega))only[go_sem,simprocAttr,aG,aI,aZ]):p:=h
theorem zy {a b:Prop} (k:b) (h:b->a:=by intro h;simp(disch:=first | omega | (simp only[Lx];omega))only[go_sem,simprocAttr,aG,aI,aZ];exact h):a:=h k
theorem vu {E0:Prop} {p:Prop} (e0:E0) (h:E0->p:=by intro e0;simp(disch:=first | omega | (simp only[Lx];omega))only[go_sem,simprocAttr,aG,aI,aZ,e0]):p:=h e0
theorem bq {p:Prop} (h:p:=by simp(disch:=first | omega | (simp only[Lx];omega))only[go_sem,simprocAttr,aG,aI]):p:=h
theorem lx {a b:Prop} (k:b) (h:b->a:=by intro h;simp(disch:=first | omega | (simp only[Lx];omega))only[go_sem,simprocAttr,aG,aI];exact h):a:=h k
theorem GY {E0:Prop} {p:Prop} (e0:E0) (h:E0->p:=by intro e0;simp(disch:=first | omega | (simp only[Lx];omega))only[go_sem,simprocAttr,aG,aI,e0]):p:=h e0
theorem vD {E0:Prop} {a b:Prop} (e0:E0) (k:b) (h:E0->b->a:=by intro e0 h;simp(disch:=first | omega | (simp only[Lx];omega))only[go_sem,simprocAttr,aG,aI,e0];exact h):a:=h e0 k
theorem vVJ {p:Prop} (h:p:=by simp(disch:=first | omega | (simp only[Lx];omega))only[go_sem,simprocAttr,aG]):p:=h
theorem jI {a b:Prop} (k:b) (h:b->a:=by intro h;simp(disch:=first | omega | (simp only[Lx];omega))only[go_sem,simprocAttr,aG];exact h):a:=h k
theorem zD {E0 E1:Prop} {a b:Prop} (e0:E0) (e1:E1) (k:b) (h:E0->E1->b->a:=by intro e0 e1 h;simp(disch:=first | omega | (simp only[Lx];omega))only[go_sem,simprocAttr,aG,e0,e1];exact h):a:=h e0 e1 k
theorem Dp (s:Bs) (o most a hv:Nat) (out:Bs) (hm:most<=1000000) (ho:out.length<=most) (c:UInt8):Eng.Spec Tryz.prog 221 (aG s o most a hv out) [.aa fR 0,.int .u8 (c.toNat:Int)]
    (λh' v ar=>h'=aG s o most a hv (if out.length=most then out else out++[c])/\v=.int .i64 (if out.length=most then 2 else 0:Nat)/\ar=[.aa fR 0,.int .u8 (c.toNat:Int)]):=by
 refine Cod.Q5 (λE R hN hR=>?_);have hc:=c.toNat_lt;by_cases hf:out.length=most
 ·rw[if_pos hf,if_pos hf]at hR;refine lx ?_;refine gG ?_;exact hR.le bq ⟨rfl,rfl,rfl⟩
 ·rw[if_neg hf,if_neg hf]at hR;refine lx ?_;refine gG ?_;refine hR.le ?_ ⟨rfl,rfl,rfl⟩;refine lx ?_;rw[aew]
theorem TY:∀i:Nat,i<28->8<=i->IntKind.i64.wrap (3+IntKind.i64.wrap ((4+(i:Int)%4)*2^min ((i:Int)/4-1).toNat 64))=((3+(4+i%4)*2^(i/4-1):Nat):Int)/\(i:Int)/4-1=((i/4-1:Nat):Int):=by decide +kernel
theorem ML:∀i:Nat,i<30->4<=i->IntKind.i64.wrap (1+IntKind.i64.wrap ((2+(i:Int)%2)*2^min ((i:Int)/2-1).toNat 64))=((1+(2+i%2)*2^(i/2-1):Nat):Int)/\(i:Int)/2-1=((i/2-1:Nat):Int):=by decide +kernel
theorem Dh (i:Nat) (hi:i<=28):aw Tryz.prog 95 [.int .i64 i] (.ab [.int .i64 ((bx i).1:Nat),.int .i64 ((bx i).2:Nat)]):=by
 refine Cod.QI (λE R hN hR=>?_);by_cases h28:i=28
 ·subst h28;refine wW ?_;exact hR.le vV ⟨rfl,rfl⟩
 ·by_cases h8:i<8
  ·have e:bx i=(3+i,0):=by unfold bx;rw[if_neg h28,if_pos h8]
   rw[e]at hR;refine wW ?_;refine gG ?_;exact hR.le vV ⟨rfl,rfl⟩
  ·have e:bx i=(3+(4+i%4)*2^(i/4-1),i/4-1):=by unfold bx;rw[if_neg h28,if_neg h8]
   rw[e]at hR;refine wW ?_;refine gG ?_;obtain⟨w1,w2⟩:=TY i acB acB;rw[w1,w2];exact hR.le vV ⟨rfl,rfl⟩
theorem Dd (i:Nat) (hi:i<=29):aw Tryz.prog 96 [.int .i64 i] (.ab [.int .i64 ((bT i).1:Nat),.int .i64 ((bT i).2:Nat)]):=by
 refine Cod.Qu (λE R hN hR=>?_);by_cases h4:i<4
 ·have e:bT i=(1+i,0):=by unfold bT;rw[if_pos h4]
  rw[e]at hR;refine wW ?_;refine gG ?_;exact hR.le vV ⟨rfl,rfl⟩
 ·have e:bT i=(1+(2+i%2)*2^(i/2-1),i/2-1):=by unfold bT;rw[if_neg h4]
  rw[e]at hR;refine wW ?_;refine gG ?_;obtain⟨w1,w2⟩:=ML i acB acB;rw[w1,w2];exact hR.le vV ⟨rfl,rfl⟩
def PI (s:Bs) (o most:Nat) (F:SS) (h':HP) (v:AV):Prop:=
 ∃a' hv' out',h'=aG s o most a' hv' out'/\v=.int .i64 (F.err:Nat)/\(F.err=0->out'=F.out/\bD s a' hv' (8*o+F.p))
theorem j9 {s:Bs} {o most:Nat} {F:SS} {h':HP} {v:AV} (h:∃a' hv' S',h'=aG s o most a' hv' S'.out/\bD s a' hv' (8*o+S'.p)/\S'.out.length<=most/\v=.int .i64 (F.err:Nat)/\(F.err=0->S'=F)):PI s o most F h' v:=by
 obtain⟨a',hv',S',h1,h2,_,h4,h5⟩:=h;exact⟨a',hv',S'.out,h1,h4,λhe=>by obtain rfl:=h5 he;exact⟨rfl,h2⟩⟩
theorem x7 (s:Bs) (o p:Nat):c6 s (8*o+p)=8*(s.drop o).length-p:=by unfold c6;rw[acK];omega
theorem BU (s:Bs) (q:Nat) (h:q+2<=s.length):(s.drop q).take 2=[s.getD q 0,s.getD (q+1) 0]:=by
 have h1:q<s.length:=acB;have h2:q+1<s.length:=acB;rw[adl h1,adl h2,acC,acC,List.getElem?_eq_getElem h1,List.getElem?_eq_getElem h2];rfl
theorem DP (x y:UInt8):aw Tryz.prog 228 [.str [x,y]] (.int .u64 ((x.toNat+y.toNat*2^8:Nat):Int)):=by
 refine Cod.OQ (λE R hN hR=>?_);have hx:=x.toNat_lt;have hy:=y.toNat_lt;refine wW ?_;refine aJ hN (λi:Nat=>⟨[(0,.str [x,y]),(3,.int .u64 (if i=0 then 0 else if i=1 then x.toNat else x.toNat+y.toNat*2^8:Nat)),(7,.int .i64 2),(8,.int .i64 i)],[]⟩) (λi=>i<=2) (λi=>2-i) 0 (.le vV) acB ?_
 rintro i R1 hi hR1;obtain rfl | rfl | rfl:i=0\/i=1\/i=2:=acB
 ·have e0:bits .or .u64 0 (IntKind.u64.wrap ((x.toNat:Int)*2^min 0 64))=((x.toNat:Nat):Int):=(yu (x:=0) (k:=0) (b:=x.toNat) (by decide) (by decide) hx).trans (by rw[adr,Nat.pow_zero,adB]);refine ah e0 ?_;exact hR1 1 _ acB acB (.le vV)
 ·have e1:bits .or .u64 (x.toNat:Int) (IntKind.u64.wrap ((y.toNat:Int)*2^min 8 64))=((x.toNat+y.toNat*2^8:Nat):Int):=yu (k:=8) hx (by decide) hy;refine ah e1 ?_;exact hR1 2 _ acB acB (.le vV)
 ·refine wW ?_;exact hR.le vV ⟨rfl,rfl⟩
theorem ra (t:Bs) (most:Nat) {S:SS} (h:S.err≠0):∀n,rawS t most n S=S
 | 0=>rfl
 | n+1=>by rw[Fk,if_pos h]
theorem Fh (t:Bs) (most:Nat):∀(n:Nat) (S:SS) (q:Nat),S.err=0->S.p=8*q->q<=t.length->S.out.length<=most ->
    (rawS t most n S).err=(if most<S.out.length+min n (t.length-q)then 2 else if t.length<q+n then 6 else 0)/\((rawS t most n S).err=0->rawS t most n S=⟨8*(q+n),S.out++(t.drop q).take n,0⟩)
 | 0,S,q,he,hp,hq,ho=>by
  refine⟨?_,λ_=>?_⟩
  ·rw[if_neg acB,if_neg acB];exact he
  ·obtain⟨p,out,err⟩:=S;simp only at he hp;subst he hp
   simp[rawS]
 | n+1,S,q,he,hp,hq,ho=>by
  rw[Fk,if_neg (by simpa using he)];by_cases hq1:q=t.length
  ·have hn:=ns (n:=8) he (t:=t) acB;rw[hn];have hput:fw most (UInt8.ofNat (0,{S with err:=6}).1) (0,{S with err:=6}).2={S with err:=6}:=if_pos (by simp);rw[hput,ra _ _ (by simp)];refine⟨?_,λh=>absurd h (by simp)⟩;rw[if_neg acB,if_pos acB]
  ·have hn:=iC (n:=8) he (t:=t) acB;rw[hn];simp only;rw[hp,kW,aew];unfold fw;rw[if_neg (by simpa using he)];by_cases hf:most<=S.out.length
   ·simp only[if_pos hf];rw[ra _ _ (by simp)];refine⟨?_,λh=>absurd h (by simp)⟩;rw[if_pos acB]
   ·simp only[if_neg hf];obtain⟨h1,h2⟩:=Fh t most n {p:=8*q+8,out:=S.out++[t.getD q 0],err:=S.err} (q+1) he (by simp only;omega) acB (by simp only[acD,acX];omega);refine⟨?_,λh=>?_⟩
    ·rw[h1];simp only[acD,acX];rw[show S.out.length+1+min n (t.length-(q+1))=S.out.length+min (n+1) (t.length-q)by omega,show q+1+n=q+(n+1)by omega]
    ·rw[h2 h];have hlt:q<t.length:=acB;rw[adl hlt,adF,acC,List.getElem?_eq_getElem hlt,show q+1+n=q+(n+1)by omega];simp
theorem ZY (t:Bs) (most:Nat) (S:SS) (he:S.err=0) (hp:S.p<=8*t.length) (ho:S.out.length<=most) (q:Nat) (hq:dT S.p=8*q) :
    if t.length<q+4 then(gm t most S).err=6 else
     if(t.getD q 0).toNat+(t.getD (q+1) 0).toNat*2^8+((t.getD (q+2) 0).toNat+(t.getD (q+3) 0).toNat*2^8)≠65535 then(gm t most S).err=3 else
     (gm t most S).err=(if most<S.out.length+min ((t.getD q 0).toNat+(t.getD (q+1) 0).toNat*2^8) (t.length-(q+4))then 2 else if t.length<q+4+((t.getD q 0).toNat+(t.getD (q+1) 0).toNat*2^8)then 6 else 0) /\
     ((gm t most S).err=0->gm t most S=⟨8*(q+4+((t.getD q 0).toNat+(t.getD (q+1) 0).toNat*2^8)),S.out++(t.drop (q+4)).take ((t.getD q 0).toNat+(t.getD (q+1) 0).toNat*2^8),0⟩):=by
 have hn16:∀i,numAt t (8*i) 16=(t.getD i 0).toNat+(t.getD (i+1) 0).toNat*2^8:=by
  intro i;rw[show(16:Nat)=8+8 from rfl,Ew,kW,show 8*i+8=8*(i+1)by omega,kW]
 have hup:mh S={S with p:=8*q}:=by unfold mh;unfold dT at hq;rw[hq]
 have hq2:q<=t.length:=by unfold dT at hq;omega
 unfold gm;simp only;rw[hup];by_cases h4:t.length<q+4
 ·rw[if_pos h4];by_cases h2:t.length<q+2
  ·rw[ns (by exact he) (by simp only;omega)];simp only;rw[Vr (by simp)];simp only;rw[if_pos (by decide)];rw[ra _ _ (Cn (by decide))];rfl
  ·rw[iC (by exact he) (by simp only;omega)];simp only;rw[ns (by exact he) (by simp only;omega)];simp only;have hfe:fU 3 {p:=8*q+16,out:=S.out,err:=6}=({p:=8*q+16,out:=S.out,err:=6}:SS):=if_neg (by simp);rw[hfe,ite_self,ra _ _ (by simp)]
 ·rw[if_neg h4];rw[iC (by exact he) (by simp only;omega)];simp only;rw[iC (by exact he) (by simp only;omega)];simp only;rw[show 8*q+16=8*(q+2)by omega,hn16,hn16];by_cases hx:(t.getD q 0).toNat+(t.getD (q+1) 0).toNat*2^8+((t.getD (q+2) 0).toNat+(t.getD (q+2+1) 0).toNat*2^8)≠65535
  ·rw[if_pos hx,if_pos hx,ra _ _ (Cn (by decide)),mP (by exact he)]
  ·rw[if_neg hx,if_neg hx];exact Fh t most _ _ (q+4) he (by simp only;omega) acB ho
theorem Yx (s:Bs) (a hv fr p:Nat) (hs:s.length<=1000000000000) (h:bD s a hv p) (hfr:8*fr<=p):Eng.Spec Tryz.prog 213 [] [.ao (.agg (aI s a hv fr))] (λh' v ar=>h'=[]/\v=.int .i64 ((p+7)/8-fr:Nat)/\ar=[.ao (.agg (aI s a hv fr))]):=by
 refine Cod.Yy (λE R hN hR=>?_);obtain⟨h1,h2,h3⟩:=h;have eq:(hv:Int).tdiv 8=((hv/8:Nat):Int):=by rw[zp acB];omega
 have e2:(a:Int)-((hv/8:Nat):Int)-(fr:Int)=(((p+7)/8-fr:Nat):Int):=acB;refine zE eq e2 ?_;exact hR.le vV ⟨rfl,rfl,rfl⟩
theorem XV (s:Bs) (a hv fr p:Nat) (hs:s.length<=1000000000000) (h:bD s a hv p):Eng.Spec Tryz.prog 229 [] [.ao (.agg (aI s a hv fr))] (λh' v ar=>h'=[]/\v=.int .i64 (c6 s p:Nat)/\ar=[.ao (.agg (aI s a hv fr))]):=by
 refine Cod.XW (λE R hN hR=>?_);obtain⟨h1,h2,h3⟩:=h;have e2:8*((s.length:Int)-(a:Int))+(hv:Int)=((c6 s p:Nat):Int):=by unfold c6;omega
 refine abu e2 ?_;exact hR.le vV ⟨rfl,rfl,rfl⟩
theorem aau (s:Bs) (q:Nat) (h:q+4<=s.length):(s.drop q).take 4=[s.getD q 0,s.getD (q+1) 0,s.getD (q+2) 0,s.getD (q+3) 0]:=by
 have e:(s.drop q).take 4=(s.drop q).take 2++(s.drop (q+2)).take 2:=by rw[show(4:Nat)=2+2 from rfl,List.take_add,ad4]
 rw[e,BU s q acB,BU s (q+2) acB];rfl
theorem ab5 {n:Nat} (h:n<65536):n ^^^ 65535=65535-n:=by
 have h1:(BitVec.ofNat 16 n ^^^ BitVec.allOnes 16).toNat=(~~~ (BitVec.ofNat 16 n)).toNat:=by rw[BitVec.xor_allOnes]
 rw[afi,BitVec.toNat_not,acP,BitVec.toNat_allOnes,acL acB]at h1;omega
set_option maxHeartbeats 1000000 in
theorem Rl (s:Bs) (o most a hv:Nat) (S:SS) (hs:s.length<=1000000000) (ho:o<=s.length) (hm:most<=1000000) (hr:bD s a hv (8*o+S.p)) (hol:S.out.length<=most) (he:S.err=0) :
    Eng.Spec Tryz.prog 218 (aG s o most a hv S.out) [.aa fR 0] (λh' v ar=>PI s o most (gm (s.drop o) most S) h' v/\ar=[.aa fR 0]):=by
 refine Cod.Rm (λE R hN hR=>?_);obtain⟨q,hq⟩:∃q,dT S.p=8*q:=⟨(S.p+7)/8,by unfold dT;omega⟩;have hr':=hr;obtain⟨r1,r2,r3⟩:=hr';have aL:S.p<=8*(s.drop o).length:=by rw[acK];omega
 have hup:dT (8*o+S.p)=8*(o+q):=by unfold dT at hq |-;omega
 have hud:dT (8*o+S.p)/8=o+q:=acB;have law:=ZY (s.drop o) most S he aL hol q hq;generalize gm (s.drop o) most S=F at *
 have gd:∀i,(s.drop o).getD i 0=s.getD (o+i) 0:=λi=>by rw[acC,List.getElem?_drop,<-acC]
 rw[gd,gd,gd,gd,acK,ad4]at law;have hb:=yI s a hv o (8*o+S.p) 4 acB (by decide) hr;rw[hud]at hb;refine jI ?_;refine aN [(RD,.var (aI s a hv o))] hb vV nofun ?_;rintro h' v ar ⟨a1,hv1,hr1,hz1,rfl,rfl,rfl⟩;by_cases h4:s.length<o+q+4
 ·rw[if_neg acB]at hr1;rw[if_neg acB,decide_eq_false acB];rw[if_pos acB]at law;refine⟨bX,rfl,?_⟩;refine jJ ?_;exact hR.le (h':=aG s o most a1 hv1 S.out) bq ⟨j9 ⟨a1,hv1,{S with p:=8*q,err:=6},rfl,by simp only;rw[show 8*o+8*q=8*(o+q)by omega,<-hup];exact hr1,hol,by rw[law];rfl,λh=>absurd h (by rw[law];decide)⟩,rfl⟩
 ·rw[if_pos acB]at hr1;rw[if_pos acB,decide_eq_true acB,aau s (o+q) acB];rw[if_neg acB]at law;generalize s.getD (o+q) 0=c0 at *
  generalize s.getD (o+(q+1)) 0=c1 at *
  generalize s.getD (o+(q+2)) 0=c2 at *
  generalize s.getD (o+(q+3)) 0=c3 at *
  have hc0:=c0.toNat_lt;have hc1:=c1.toNat_lt;have hc2:=c2.toNat_lt;have hc3:=c3.toNat_lt;have l1:=DP c0 c1;have l2:=DP c2 c3;generalize hn:c0.toNat+c1.toNat*2^8=n at *
  generalize hk:c2.toNat+c3.toNat*2^8=k at *
  have hn6:n<65536:=acB;have hk6:k<65536:=acB;refine⟨bX,rfl,?_⟩;refine jJ ?_;refine aj l1 rfl rfl ?_;refine wW ?_;refine aj l2 rfl rfl ?_
  have ex:bits .xor .i64 (n:Int) 65535=((65535-n:Nat):Int):=by
   show IntKind.i64.wrap ((BitVec.ofInt 64 (n:Int) ^^^ BitVec.ofInt 64 ((65535:Nat):Int)).toNat:Int)=_
   rw[acM,acM,afi,acP,acP,acL acB,acL (by decide),ab5 hn6];exact gq acB
  refine ah ex ?_;by_cases hx:n+k≠65535
  ·rw[if_pos hx]at law;have hne:¬((65535-n:Nat):Int)=(k:Int):=acB;refine ah hne ?_;exact hR.le (h':=aG s o most a1 hv1 S.out) bq ⟨j9 ⟨a1,hv1,{S with p:=8*(q+4),err:=3},rfl,by simp only;rw[hup]at hr1;rw[show 8*o+8*(q+4)=8*(o+q)+8*4 by omega];exact hr1,hol,by rw[law];rfl,λh=>absurd h (by rw[law];decide)⟩,rfl⟩
  ·rw[if_neg hx]at law;have heq:((65535-n:Nat):Int)=(k:Int):=acB;obtain⟨law1,law2⟩:=law;have hr1':bD s a1 hv1 (8*(o+q+4)):=by rw[hup]at hr1;rw[show 8*(o+q+4)=8*(o+q)+8*4 by omega];exact hr1
   have hup1:dT (8*(o+q+4))=8*(o+q+4):=by unfold dT;omega
   have hb2:=yI s a1 hv1 o (8*(o+q+4)) n acB acB hr1';rw[hup1,afd _ (by decide)]at hb2;refine ah heq ?_;refine aN [(RD,.var (aI s a1 hv1 o))] hb2 bX nofun ?_;rintro h' v ar ⟨a2,hv2,hr2,hz2,rfl,rfl,rfl⟩
   have key:∀(ok:Bool) (x:Bs),ok=decide (n<=s.length-(o+q+4))->x=(if n<=s.length-(o+q+4)then(s.drop (o+q+4)).take n else[]) ->
    vcW Tryz.prog E Cod.Rk (KQ.post [RVar.tmp 2] 1 R) ⟨[(0,.aa 65032 0),(4,.bool ok),(6,.str x),(2000000,.aa 65032 0)],[(40014,.var (aI s a2 hv2 o)),(65032,.var [.aa 40014 0,.sl 60022 0 S.out.length,.int .i64 most]),(60022,.arr 1 (S.out.map ub))]⟩:=by
    intro ok x hok hv4;refine gn hN (λz:Nat×Nat=>⟨[(0,.aa fR 0),(4,.bool ok),(6,.str ((s.drop (o+q+4)).take n)),(2000000,.aa fR 0)],aG s o most z.1 z.2 S.out⟩) (λz=>bD s z.1 z.2 (8*(o+q+4+min n (s.length-(o+q+4))))) (λR2 hR2=>?_) (λz hz=>?_)
    ·clear hR;subst hok;subst hv4;by_cases hfit:n<=s.length-(o+q+4)
     ·rw[if_pos hfit]at hr2;rw[if_pos hfit,decide_eq_true hfit];refine lx ?_;refine hR2 (a2,hv2) _ (by simp only;rw[ac1 hfit,show 8*(o+q+4+n)=8*(o+q+4)+8*n by omega];exact hr2) (.le ?_);exact bq
     ·rw[if_neg hfit]at hr2;rw[if_neg hfit,decide_eq_false hfit];have hlb:=XV s a2 hv2 o _ acB hr2;have el:c6 s (8*(o+q+4))/8=s.length-(o+q+4):=by unfold c6;omega
      have hb3:=yI s a2 hv2 o _ (s.length-(o+q+4)) acB acB hr2;rw[hup1,afd _ (by decide),if_pos (acG _)]at hb3;generalize c6 s (8*(o+q+4))=lb at *
      have elb:(lb:Int)/8=((s.length-(o+q+4):Nat):Int):=acB;simp only[aI]at hlb;refine jJ ?_;refine gG ?_;refine sA [] vV hlb trivial (λ_=>rfl) ?_;rintro h' v ar ⟨rfl,rfl,rfl⟩;refine⟨rfl,rfl,?_⟩;refine ah elb ?_;refine aN [(RD,.var (aI s a2 hv2 o))] hb3 bX nofun ?_;rintro h' v ar ⟨a3,hv3,hr3,hz3,rfl,rfl,rfl⟩;rw[if_pos (acG _),decide_eq_true (acG _)]
      have etk:(s.drop (o+q+4)).take (s.length-(o+q+4))=(s.drop (o+q+4)).take n:=by
       rw[acF (by rw[acK];omega),acF (by rw[acK];omega)]
      refine⟨bX,rfl,?_⟩;refine jJ ?_;refine hR2 (a3,hv3) _ (by simp only;rw[aff acB,show 8*(o+q+4+(s.length-(o+q+4)))=8*(o+q+4)+8*(s.length-(o+q+4))by omega];exact hr3) (.le ?_);exact GY etk
    ·obtain⟨a3,hv3⟩:=z;simp only at hz |-;have hbl:((s.drop (o+q+4)).take n).length=min n (s.length-(o+q+4)):=by rw[acJ,acK]
     generalize hbb:(s.drop (o+q+4)).take n=b at *
     by_cases hbig:most-S.out.length<b.length
     ·have hbi:(most:Int)-(S.out.length:Int)<(b.length:Int):=acB;rw[if_pos acB]at law1;refine vD hbi ?_;exact hR.le (h':=aG s o most a3 hv3 S.out) bq ⟨j9 ⟨a3,hv3,{S with p:=8*(q+4+min n (s.length-(o+q+4))),err:=2},rfl,by simp only;rw[show 8*o+8*(q+4+min n (s.length-(o+q+4)))=8*(o+q+4+min n (s.length-(o+q+4)))by omega];exact hz,hol,by rw[law1];rfl,λh=>absurd h (by rw[law1];decide)⟩,rfl⟩
     ·have hbi:¬(most:Int)-(S.out.length:Int)<(b.length:Int):=acB;rw[if_neg acB]at law1;by_cases hfit:n<=s.length-(o+q+4)
      ·rw[decide_eq_true hfit]at hok;subst hok;rw[if_neg acB]at law1;have law2:=law2 law1;refine vD hbi ?_;exact hR.le (h':=aG s o most a3 hv3 (S.out++b)) bq ⟨j9 ⟨a3,hv3,F,by rw[law2],by rw[law2];simp only;rw[ac1 hfit]at hz;rw[show 8*o+8*(q+4+n)=8*(o+q+4+n)by omega];exact hz,by rw[law2];simp only[acD];omega,by rw[law1];rfl,λ_=>rfl⟩,rfl⟩
      ·rw[decide_eq_false hfit]at hok;subst hok;rw[if_pos acB]at law1;refine vD hbi ?_;exact hR.le (h':=aG s o most a3 hv3 (S.out++b)) bq ⟨j9 ⟨a3,hv3,⟨8*(q+4+min n (s.length-(o+q+4))),S.out++b,6⟩,rfl,by simp only;rw[show 8*o+8*(q+4+min n (s.length-(o+q+4)))=8*(o+q+4+min n (s.length-(o+q+4)))by omega];exact hz,by simp only[acD];omega,by rw[law1];rfl,λh=>absurd h (by rw[law1];decide)⟩,rfl⟩
   by_cases hfit:n<=s.length-(o+q+4)
   ·have key:=key true _ (by rw[decide_eq_true hfit]) rfl;rw[if_pos hfit]at key;rw[if_pos hfit,decide_eq_true hfit];refine⟨bX,rfl,?_⟩;simp only[aI]at key;refine jJ ?_;exact key
   ·have key:=key false _ (by rw[decide_eq_false hfit]) rfl;rw[if_neg hfit]at key;rw[if_neg hfit,decide_eq_false hfit];refine⟨bX,rfl,?_⟩;simp only[aI]at key;refine jJ ?_;exact key
theorem Aq (most back n:Nat) (S:SS):backS most back (n+1) S=if S.err≠0 then S else backS most back n (fw most (S.out.getD (S.out.length-back) 0) S):=rfl
theorem JB (most back:Nat) {S:SS} (h:S.err≠0):∀n,backS most back n S=S
 | 0=>rfl
 | n+1=>by rw[Aq,if_pos h]
theorem TU:∀i,i<=28->(bx i).1<=300/\(bx i).2<=8:=by decide +kernel
theorem MI:∀i,i<=29->(bT i).1<=40000/\(bT i).2<=15/\1<=(bT i).1:=by decide +kernel
set_option maxHeartbeats 2000000 in
theorem Q6 (s:Bs) (o most a hv:Nat) (S:SS) (d:List Nat) (sy:Nat) (hs:s.length<=1000000000) (ho:o<=s.length) (hm:most<=1000000) (hr:bD s a hv (8*o+S.p)) (hol:S.out.length<=most) (he:S.err=0)
    (hd:∀n∈d,n<=15) (hdl:d.length<=320) (hdc:bw d=true) (hsy:257<=sy) (hsy2:sy<=400) :
    Eng.Spec Tryz.prog 222 (aG s o most a hv S.out) [.aa fR 0,.int .i64 sy,aZ d] (λh' v ar=>PI s o most (ja (s.drop o) most d sy S) h' v/\ar=[.aa fR 0,.int .i64 sy,aZ d]):=by
 refine Cod.Q7 (λE R hN hR=>?_);have htl:(s.drop o).length=s.length-o:=acK;by_cases h285:285<sy
 ·have hF:ja (s.drop o) most d sy S={S with err:=3}:=by unfold ja;rw[if_pos h285,mP he]
  rw[hF]at hR;refine lx ?_;refine gG ?_;exact hR.le (h':=aG s o most a hv S.out) bq ⟨j9 ⟨a,hv,S,rfl,hr,hol,rfl,λh=>absurd h (by simp)⟩,rfl⟩
 ·have elen:(sy:Int)-257=((sy-257:Nat):Int):=acB;have hlt:=TU (sy-257) acB;have hlenb:=Dh (sy-257) acB
  have hrep:ja (s.drop o) most d sy S=(let a:=bI (s.drop o) (bx (sy-257)).2 S
   let k:=bO (s.drop o) d a.2
   if k.2.err≠0 then k.2 else if 29<k.1 then fU 3 k.2 else
   let b:=bI (s.drop o) (bT k.1).2 k.2
   let back:=(bT k.1).1+b.1
   if b.2.err≠0 then b.2 else if b.2.out.length<back then fU 3 b.2 else backS most back ((bx (sy-257)).1+a.1) b.2):=by unfold ja;rw[if_neg h285]
  rw[hrep]at hR;clear hrep;simp only at hR;generalize bx (sy-257)=lb at *
  simp(disch:=omega)only[go_sem,simprocAttr,aG,aZ,elen];refine cB elen ?_;refine aj hlenb rfl rfl ?_;refine wW ?_;have hbits:=uO s a hv o (8*o+S.p) lb.2 acB hr acB;rw[x7,<-uv]at hbits;refine aN [(RD,.var (aI s a hv o))] hbits vV nofun ?_;rintro h' v ar ⟨a1,hv1,hr1,rfl,rfl,rfl⟩;by_cases hf1:lb.2<=8*(s.drop o).length-S.p
  ·rw[if_pos hf1]at hr1;rw[if_pos hf1,decide_eq_true hf1];have aL:S.p+lb.2<=8*(s.drop o).length:=by have:=hr.h2;have:=hr.h3;omega
   rw[iC he aL]at hR;simp only at hR;have hnl:=iB (s.drop o) S.p lb.2;have hn256:2^lb.2<=2^8:=acQ (by decide) hlt.2;generalize numAt (s.drop o) S.p lb.2=x1 at *
   refine⟨bX,rfl,?_⟩;have hread:=xH d hd hdl hdc s a1 hv1 o (8*o+S.p+lb.2) acB hr1;rw[adC,<-yP]at hread;simp only[aZ]at hread;generalize hre:readL (bH d) (aX (s.drop o) (S.p+lb.2))=re at *
   refine wW ?_;refine aN [(RD,.var (aI s a1 hv1 o))] hread vV nofun ?_;rintro h' v ar ⟨a2,hv2,p2,k,hr2,rfl,rfl,hk,rfl⟩;refine⟨bX,rfl,?_⟩;by_cases hre2:re.2.2=0
   ·obtain⟨rfl,rfl⟩:=hk hre2;have hsym:bO (s.drop o) d {S with p:=S.p+lb.2}=(re.1,{S with p:=S.p+lb.2+re.2.1}):=by rw[<-hre];exact rK he (by rw[hre];exact hre2)
    rw[hsym]at hR;simp only at hR;rw[if_neg (by simpa using he)]at hR;have hr2':bD s a2 hv2 (8*o+(S.p+lb.2+re.2.1)):=by rw[show 8*o+(S.p+lb.2+re.2.1)=8*o+(S.p+lb.2)+re.2.1 by omega];exact hr2
    generalize hp2:S.p+lb.2+re.2.1=p2 at *
    have hklt:re.1<=400:=by
     have:=rb (bH d) (aX (s.drop o) (S.p+lb.2)) (by rw[hre];exact hre2);rw[hre]at this;have hcl:(bH d).length=d.length:=by simp[bH]
     omega
    generalize re.1=k at *
    by_cases h29:29<k
    ·rw[if_pos h29,mP (by exact he)]at hR;refine ah hre2 ?_;exact hR.le (h':=aG s o most a2 hv2 S.out) bq ⟨j9 ⟨a2,hv2,{S with p:=p2},rfl,hr2',hol,rfl,λh=>absurd h (by simp)⟩,rfl⟩
    ·rw[if_neg h29]at hR;have hdt:=MI k acB;have hdb:=Dd k acB;generalize bT k=db at *
     have hbits2:=uO s a2 hv2 o (8*o+p2) db.2 acB hr2' acB;rw[x7,<-uv]at hbits2;refine ah hre2 ?_;refine aj hdb rfl rfl ?_;refine wW ?_;refine aN [(RD,.var (aI s a2 hv2 o))] hbits2 vV nofun ?_;rintro h' v ar ⟨a3,hv3,hr3,rfl,rfl,rfl⟩;by_cases hf2:db.2<=8*(s.drop o).length-p2
     ·rw[if_pos hf2]at hr3;rw[if_pos hf2,decide_eq_true hf2];have hpl2:p2+db.2<=8*(s.drop o).length:=by have:=hr2'.h2;have:=hr2'.h3;omega
      rw[iC (by exact he) hpl2]at hR;simp only at hR;rw[if_neg (by simpa using he)]at hR;have hn2:=iB (s.drop o) p2 db.2;have hn15:2^db.2<=2^15:=acQ (by decide) hdt.2.1;generalize numAt (s.drop o) p2 db.2=x2 at *
      refine⟨bX,rfl,?_⟩;refine wW ?_;by_cases hbk:S.out.length<db.1+x2
      ·have hbi:(S.out.length:Int)<(db.1:Int)+(x2:Int):=acB;rw[if_pos (by exact hbk),mP (by exact he)]at hR;refine ah hbi ?_;exact hR.le (h':=aG s o most a3 hv3 S.out) bq ⟨j9 ⟨a3,hv3,{S with p:=p2+db.2},rfl,by show bD s a3 hv3 (8*o+(p2+db.2));rw[<-adC];exact hr3,hol,rfl,λh=>absurd h (by simp)⟩,rfl⟩
      ·have hbi:¬(S.out.length:Int)<(db.1:Int)+(x2:Int):=acB;rw[if_neg (by exact hbk)]at hR;generalize hbb:db.1+x2=back at *
       have hb1:1<=back:=acB;have ebk:(db.1:Int)+(x2:Int)=(back:Int):=acB;have eln:(lb.1:Int)+(x1:Int)=((lb.1+x1:Nat):Int):=acB;have hln:lb.1+x1<=1000:=acB;rw[ebk,eln];generalize lb.1+x1=n at *
       rw[ebk]at hbi;refine ah hbi ?_
       refine aJ hN (λz:Nat×Bs=>⟨[(0,.aa 65032 0),(13,.int .i64 back),(79,.int .i64 n),(80,.int .i64 z.1),(2000000,.aa 65032 0),(2000001,.int .i64 sy),(2000002,.ao (.agg (eO d)))],aG s o most a3 hv3 z.2⟩)
        (λz=>z.1<=n/\z.2.length<=most/\back<=z.2.length/\backS most back (n-z.1) ⟨p2+db.2,z.2,S.err⟩=backS most back n ⟨p2+db.2,S.out,S.err⟩) (λz=>n-z.1) (0,S.out) (.le bq) ⟨by simp,hol,by simp only;omega,rfl⟩ ?_
       rintro⟨j,out⟩ R1 ⟨hj,hjo,hjb,hjF⟩ hR1;simp only at hj hjo hjb hjF;by_cases hjn:j<n
       ·have ej:n-j=(n-j-1)+1:=acB;rw[ej,Aq,if_neg (by simpa using he)]at hjF;unfold fw at hjF;rw[if_neg (by simpa using he)]at hjF;simp only at hjF;have eidx:(out.length:Int)-(back:Int)=((out.length-back:Nat):Int):=acB;generalize hcc:out.getD (out.length-back) 0=c at *
        have hput:=Dp s o most a3 hv3 out hm hjo c;refine lx ?_;rw[hcc];refine aN (aG s o most a3 hv3 out) hput bq nofun ?_;rintro h' v ar ⟨rfl,rfl,rfl⟩;refine⟨bq,rfl,?_⟩;by_cases hfull:out.length=most
        ·rw[if_pos hfull,if_pos hfull];rw[if_pos acB,JB _ _ (by simp)]at hjF;rw[<-hjF]at hR;refine lx ?_;exact hR.le (h':=aG s o most a3 hv3 out) bq ⟨⟨a3,hv3,out,rfl,rfl,λh=>absurd h (by simp)⟩,rfl⟩
        ·rw[if_neg hfull,if_neg hfull];rw[if_neg acB]at hjF;refine lx ?_;exact hR1 (j+1,out++[c]) _ (by simp only;omega) ⟨by simp only;omega,by simp only[acD,acX];omega,by simp only[acD,acX];omega,by simp only;rw[show n-(j+1)=n-j-1 by omega];exact hjF⟩ (.le bq)
       ·obtain rfl:j=n:=acB;rw[ae5]at hjF;rw[<-hjF]at hR;refine lx ?_;exact hR.le (h':=aG s o most a3 hv3 out) bq ⟨⟨a3,hv3,out,rfl,by show _=AV.int .i64 ((S.err:Nat):Int);rw[he];rfl,λ_=>⟨rfl,by show bD s a3 hv3 (8*o+(p2+db.2));rw[<-adC];exact hr3⟩⟩,rfl⟩
     ·rw[if_neg hf2]at hr3;rw[if_neg hf2,decide_eq_false hf2];rw[ns (by exact he) (by simp only;omega)]at hR;simp only at hR;rw[if_pos (by decide)]at hR;refine⟨bX,rfl,?_⟩;refine wW ?_;exact hR.le (h':=aG s o most a3 hv3 S.out) bq ⟨j9 ⟨a3,hv3,{S with p:=p2},rfl,hr3,hol,rfl,λh=>absurd h (by simp)⟩,rfl⟩
   ·have hsym:bO (s.drop o) d {S with p:=S.p+lb.2}=(0,{S with p:=S.p+lb.2,err:=re.2.2}):=by rw[<-hre];exact vh he (by rw[hre];exact hre2)
    rw[hsym]at hR;simp only at hR;rw[if_pos hre2]at hR;have hi:¬((re.2.2:Nat):Int)=0:=acB;refine ah hi ?_;exact hR.le (h':=aG s o most a2 hv2 S.out) bq ⟨⟨a2,hv2,S.out,rfl,rfl,λh=>absurd h hre2⟩,rfl⟩
  ·rw[if_neg hf1]at hr1;rw[if_neg hf1,decide_eq_false hf1];rw[ns he acB]at hR;simp only at hR;rw[aak (by simp)]at hR;simp only at hR;rw[if_pos (by decide)]at hR;refine⟨bX,rfl,?_⟩;refine wW ?_;exact hR.le (h':=aG s o most a1 hv1 S.out) bq ⟨j9 ⟨a1,hv1,S,rfl,hr1,hol,rfl,λh=>absurd h (by simp)⟩,rfl⟩
set_option maxHeartbeats 2000000 in
theorem Dg:aw Tryz.prog 90 [] (.ab [aZ ba,aZ bU]):=by
 refine Cod.QG (λE R hN hR=>?_);refine wW ?_;refine aJ hN (λi:Nat=>⟨[(2,.sl 66022 0 i),(3,.an),(9,.int .i64 i)],[(66022,.arr 1 (aF (eR fixF i)))]⟩) (λi=>i<=288) (λi=>288-i) 0 (.nil 2 66022 1 rfl (.le (lv @GW @qR))) acB ?_;rintro i R1 hi hR1;have hul:=GU fixF i;have hnl:=dN (eR fixF i);by_cases hlt:i<288
 ·have hus:=GV fixF i
  have hsb:aB (aF (eR fixF i)) 0 i=aF (eR fixF i):=by
   have:=lY (xs:=eR fixF i);rw[hul]at this;exact this
  refine wW ?_;refine gn hN (λ_:Unit=>⟨[(2,.sl 66022 0 i),(3,.an),(4,.int .i64 i),(9,.int .i64 i),(15,.bool (decide (i<144\/280<=i)))],[(66022,.arr 1 (aF (eR fixF i)))]⟩) (λ_=>True) (λR2 hR2=>?_) (λ_ _=>?_)
  ·by_cases h1:i<144
   ·rw[decide_eq_true (.inl h1)]at hR2;refine wW ?_;refine gG ?_;exact hR2 () _ trivial (.le vV)
   ·by_cases h2:280<=i
    ·rw[decide_eq_true (.inr h2)]at hR2;refine wW ?_;refine gG ?_;exact hR2 () _ trivial (.le vV)
    ·rw[decide_eq_false acB]at hR2;refine wW ?_;refine gG ?_;exact hR2 () _ trivial (.le vV)
  ·by_cases h8:i<144\/280<=i
   ·have hf:fixF i=8:=by unfold fixF;rw[if_neg acB,if_neg acB]
    rw[hf]at hus;rw[decide_eq_true h8];refine aV @kT hsb ?_;exact hR1 (i+1) _ acB acB (.le (by rw[hus,<-nk];exact vV))
   ·rw[decide_eq_false h8];by_cases h9:i<256
    ·have hf:fixF i=9:=by unfold fixF;rw[if_neg acB,if_pos acB]
     rw[hf]at hus;refine aV @kT hsb ?_;exact hR1 (i+1) _ acB acB (.le (by rw[hus,<-nk];exact vV))
    ·have hf:fixF i=7:=by unfold fixF;rw[if_pos acB]
     rw[hf]at hus;refine aV @kT hsb ?_;exact hR1 (i+1) _ acB acB (.le (by rw[hus,<-nk];exact vV))
 ·obtain rfl:i=288:=acB;refine wW ?_;refine aJ hN (λi:Nat=>⟨[(2,.sl 66022 0 288),(3,.sl 66034 0 i),(30,.int .i64 i)],[(66022,.arr 1 (aF (eR fixF 288))),(66034,.arr 1 (aF (eR (λ_=>5) i)))]⟩) (λi=>i<=32) (λi=>32-i) 0 (.nil 3 66034 1 rfl (.le (lv @GW @qR))) acB ?_;rintro i R2 hi hR2;have hul2:=GU (λ_=>5) i;have hnl2:=dN (eR (λ_=>5) i);by_cases hlt:i<32
  ·have hus:=GV (λ_=>5) i
   have hsb:aB (aF (eR (λ_=>5) i)) 0 i=aF (eR (λ_=>5) i):=by
    have:=lY (xs:=eR (λ_=>5) i);rw[hul2]at this;exact this
   refine aV @kT hsb ?_;exact hR2 (i+1) _ acB acB (.le (by rw[hus,<-nk];exact vV))
  ·obtain rfl:i=32:=acB;rw[N9]at *
   rw[N8]at *
   have e1:aB (aF ba) 0 288=aF ba:=by rw[<-mS.2.1];exact lY
   have e2:aB (aF bU) 0 32=aF bU:=by rw[<-mQ.2.1];exact lY
   have n1:=tQ ba mS.1 (by rw[mS.2.1];decide);have n2:=tQ bU mQ.1 (by rw[mQ.2.1];decide);rw[if_pos mS.2.2]at n1;rw[if_pos mQ.2.2]at n2;generalize ba=l at *
   generalize bU=d at *
   refine wW ?_;refine lE ⟨[(37,.ro 1 (aF l)),(3,.ro 1 (aF d))],[]⟩ (.bn 66022 (.bn 66034 (.le (lv e1 e2)))) rfl ?_;refine wW ?_;refine dJ n1 rfl ?_;rintro h' v as' ⟨rfl,rfl⟩;refine⟨rfl,rfl,?_⟩;simp(disch:=omega)only[go_sem,simprocAttr,aZ];refine dJ n2 rfl ?_;rintro h' v as' ⟨rfl,rfl⟩;refine⟨rfl,rfl,?_⟩;simp(disch:=omega)only[go_sem,simprocAttr,aZ];exact hR.le vV ⟨rfl,rfl⟩
def Ez:AV:=.agg (aF iG)
theorem Q3:aw Tryz.prog 230 [] Ez:=by
 refine Cod.Q4 (λE R hN hR=>?_);refine wW ?_;exact hR.le vV ⟨rfl,rfl⟩
end Go.Proofs.YtgghhaahnpbnmaaGreatDoor.Pk
namespace Go.Proofs.YtgghhaahnpbnmaaGreatDoor.Pk
section
variable {t:Bs} {S:SS}
theorem EB {e:Nat}:(fU e S).out=S.out:=by unfold fU;split<;>rfl
theorem uA {n:Nat}:(bI t n S).2.out=S.out:=by
 unfold bI;split;rfl
 ·split<;>rfl
theorem ED {l:List Nat}:(bO t l S).2.out=S.out:=by
 unfold bO;split;rfl
 ·split<;>rfl
theorem EE {l:List Nat} {s:Nat}:(eo t l s S).2.2.out=S.out:=by
 unfold eo;split
 ·split;exact EB;exact uA
 ·split;exact uA
  ·split;exact uA;rfl
theorem EC {N:Nat} {l:List Nat} {b:Nat×Nat×SS}:(dZ N l b).out=b.2.2.out:=by
 unfold dZ;split;exact EB;rfl
end
theorem oS {t:Bs} {nc:Nat}:∀(k:Nat) (l:List Nat) (S:SS),(firstS t nc k l S).2.out=S.out
 | 0,_,_=>rfl
 | k+1,l,S=>by
  rw[xn];split;rfl
  ·rw[oS k,uA]
theorem uz {t:Bs} {fl:List Nat} {N:Nat}:∀(k:Nat) (l:List Nat) (S:SS),(jB t fl N k l S).2.out=S.out
 | 0,_,_=>rfl
 | k+1,l,S=>by
  rw[ya];split;rfl
  ·split
   ·simp only;rw[EC,EE,ED]
   ·rw[uz k,EC,EE,ED]
theorem M9 (t:Bs) (S:SS):(fD t S).2.out=S.out:=by
 rw[BZ];split;rfl
 ·split;rfl
  ·unfold ov;split
   ·simp only;rw[oS]
   ·split
    ·simp only;rw[oS]
    ·unfold qF;split
     ·simp only;rw[uz,oS]
     ·split
      ·simp only;rw[uz,oS]
      ·simp only;rw[uz,oS]
open Eng
set_option maxRecDepth 10000
def zo:AV:=.lit (.pointer none)
def PT (s:Bs) (o most:Nat) (out:Bs) (D:(List Nat×List Nat)×SS) (h':HP) (v:AV):Prop:=
 ∃a' hv',h'=aG s o most a' hv' out/\(D.2.err≠0->v=.ab [zo,zo,.int .i64 (D.2.err:Nat)]) /\
  (D.2.err=0->v=.ab [aZ D.1.1,aZ D.1.2,.int .i64 (0:Nat)]/\bD s a' hv' (8*o+D.2.p)/\bw D.1.1=true/\bw D.1.2=true/\(∀n∈D.1.1,n<=15)/\(∀n∈D.1.2,n<=15)/\D.1.1.length<=286/\D.1.2.length<=320)
abbrev QT (R:HP->AV->List AV->Prop):KQ:=KQ.post [.tmp 2,.tmp 3,.tmp 4] 1 R
abbrev Hr (R1 RX:KS) (R:HP->AV->List AV->Prop):KQ:=KQ.ff 3 (KQ.ke R1 (KQ.ff 2 (KQ.ke RX (QT R))))
abbrev pF (s:Bs) (o most:Nat) (out:Bs) (D:(List Nat×List Nat)×SS):HP->AV->List AV->Prop:=λh' v ar=>PT s o most out D h' v/\ar=[.aa fR 0]
theorem k9 {s:Bs} {o most:Nat} {out:Bs} {D:(List Nat×List Nat)×SS} {R:HP->AV->List AV->Prop} (hR:cM (pF s o most out D) R) (e:Nat) (he:D.2.err=e) (hne:e≠0) (a' hv':Nat) {h:HP} (hh:dz h (aG s o most a' hv' out)) :
    R h (.ab [.lit (.pointer none),.lit (.pointer none),.int .i64 (e:Nat)]) [.aa 65032 0]:=
 hR.le (h':=aG s o most a' hv' out) hh ⟨⟨a',hv',rfl,λ_=>by rw[he];rfl,λh=>absurd h (by rw[he];exact hne)⟩,rfl⟩
theorem uN (s:Bs) (o p a hv n:Nat) (hs:s.length<=1000000000) (h:bD s a hv (8*o+p)) (hn:n<=32):Eng.Spec Tryz.prog 217 [(RD,.var (aI s a hv o))] [.aa RD 0,.int .i64 n]
    (λh' v ar=>∃a' hv',bD s a' hv' (8*o+(if n<=8*(s.drop o).length-p then p+n else p))/\h'=[(RD,.var (aI s a' hv' o))]/\v=.ab [.int .u32 (if n<=8*(s.drop o).length-p then numAt (s.drop o) p n else 0:Nat),.bool (decide (n<=8*(s.drop o).length-p))]/\ar=[.aa RD 0,.int .i64 n]):=by
 have hb:=uO s a hv o (8*o+p) n acB h hn;rw[x7,<-uv]at hb;rw[show 8*o+(if n<=8*(s.drop o).length-p then p+n else p)=(if n<=8*(s.drop o).length-p then 8*o+p+n else 8*o+p)by split<;>omega]
 exact hb
theorem Db (l:List Nat) (hl:∀n∈l,n<=15) (hn:l.length<=320):∃(x:AV) (e:Nat),Eng.Spec Tryz.prog 127 [] [.ro 1 (aF l)] (λh r _=>h=[]/\r=.ab [x,.int .i64 (e:Nat)])/\((bw l=true/\x=aZ l/\e=0)\/(bw l=false/\x=.lit (.pointer none)/\e=4)):=by
 have n1:=tQ l hl hn;by_cases hc:bw l=true
 ·rw[if_pos hc]at n1;exact⟨_,0,n1,.inl ⟨hc,rfl,rfl⟩⟩
 ·rw[if_neg hc]at n1;exact⟨_,4,n1,.inr ⟨by simpa using hc,rfl,rfl⟩⟩
set_option maxHeartbeats 2000000 in
theorem Rq (s:Bs) (o most a hv:Nat) (out:Bs) (l:List Nat) (nl p:Nat) (D:(List Nat×List Nat)×SS) {E:Env} {R:HP->AV->List AV->Prop} (hN:E.N<=1000000) (hR:cM (pF s o most out D) R) (hl:∀n∈l,n<=15) (h1:257<=nl) (h2:nl<=286) (h3:l.length<=320) (h4:nl<=l.length)
    (hr:bD s a hv (8*o+p))
    (hD:D=if l.getD 256 0=0\/bw (l.take nl)=false\/bw (l.drop nl)=false then(([],[]),⟨p,out,3⟩)else((l.take nl,l.drop nl),⟨p,out,0⟩)) :
    vcW Tryz.prog E Cod.Dy (QT R) ⟨[(0,.aa 65032 0),(7,.int .i64 nl),(16,.ro 1 (aF l)),(2000000,.aa 65032 0)],aG s o most a hv out⟩:=by
 have hnl:=dN l;have ht1:(l.take nl).length=nl:=by rw[acJ];omega
 have hd1:(l.drop nl).length=l.length-nl:=acK;obtain⟨x1,e1,n1,c1⟩:=Db (l.take nl) (Gu hl nl) acB;obtain⟨x2,e2,n2,c2⟩:=Db (l.drop nl) (BS hl nl) acB;have hx:nth (aF l) 256=.int .i64 (l.getD 256 0:Nat):=j7 acB;have etd:(l.drop nl).take (l.length-nl)=l.drop nl:=acF acB;generalize hy:l.getD 256 0=y at *
 have bad:D=(([],[]),⟨p,out,3⟩)->∀h,dz h (aG s o most a hv out)->R h (.ab [.lit (.pointer none),.lit (.pointer none),.int .i64 3]) [.aa 65032 0]:=λhd h hh=>k9 hR 3 (by rw[hd]) (by decide) a hv hh;refine zD hnl @qS ?_;rcases c1 with⟨hc1,rfl,rfl⟩ | ⟨hc1,rfl,rfl⟩<;>rcases c2 with⟨hc2,rfl,rfl⟩ | ⟨hc2,rfl,rfl⟩<;>by_cases h0:y=0
 all_goals
  refine dJ n1 rfl ?_;rintro h' v as' ⟨rfl,rfl⟩;refine⟨rfl,rfl,?_⟩;simp(disch:=omega)only[go_sem,simprocAttr,hnl,qS,etd,aZ];refine dJ n2 rfl ?_;rintro h' v as' ⟨rfl,rfl⟩;refine⟨rfl,rfl,?_⟩
 rotate_left
 ·rw[if_neg (by rw[hc1,hc2];simp[h0])]at hD;subst hD;have hi:¬((y:Nat):Int)=0:=acB;simp(disch:=omega)only[go_sem,simprocAttr,hnl,hx,hi,aZ];refine lP hnl hx hi ?_;exact hR.le (h':=aG s o most a hv out) bq ⟨⟨a,hv,rfl,λh=>absurd rfl h,λ_=>⟨rfl,hr,hc1,hc2,Gu hl nl,BS hl nl,by rw[ht1];exact h2,by rw[hd1];omega⟩⟩,rfl⟩
 all_goals
  rw[if_pos (by first | exact .inl h0 | exact .inr (.inl hc1) | exact .inr (.inr hc2))]at hD
  have bad:=bad hD
 all_goals first
  |have hi:((y:Nat):Int)=0:=acB
   simp(disch:=omega)only[go_sem,simprocAttr,hnl,hx,hi,aZ]
   (try(repeat(first | refine eJ ?_ | refine eH ?_ | refine eI ?_)<;>simp(disch:=omega)only[go_sem,simprocAttr,hnl,hx,hi]))
   exact bad _ bq
  |have hi:¬((y:Nat):Int)=0:=acB
   simp(disch:=omega)only[go_sem,simprocAttr,hnl,hx,hi,aZ]
   (try(repeat(first | refine eJ ?_ | refine eH ?_ | refine eI ?_)<;>simp(disch:=omega)only[go_sem,simprocAttr,hnl,hx,hi]))
   exact bad _ bq
set_option maxHeartbeats 1000000 in
theorem Rp (s:Bs) (o most a hv N:Nat) (out:Bs) (l fl:List Nat) (nl nd p nb least what:Nat) (D:(List Nat×List Nat)×SS) {E:Env} {R1 RX:KS} {R:HP->AV->List AV->Prop} (hN:E.N<=1000000) (hs:s.length<=1000000000) (ho:o<=s.length)
    (hR:cM (pF s o most out D) R) (hr:bD s a hv (8*o+p)) (hbits:nb<=7) (hleast:least<=11) (hNN:nl+nd=N) (hN1:N<=400) (hll:l.length<=N)
    (hbad:(dZ N l (least+(bI (s.drop o) nb ⟨p,out,0⟩).1,what,(bI (s.drop o) nb ⟨p,out,0⟩).2)).err≠0->D.2.err=(dZ N l (least+(bI (s.drop o) nb ⟨p,out,0⟩).1,what,(bI (s.drop o) nb ⟨p,out,0⟩).2)).err)
    (hR1:∀n a' hv' st',n=numAt (s.drop o) p nb->p+nb<=8*(s.drop o).length->l.length+(least+n)<=N->bD s a' hv' (8*o+(p+nb)) ->
     Wk st' ⟨[(0,.aa 65032 0),(7,.int .i64 nl),(8,.int .i64 nd),(14,aZ fl),(16,.sl 62110 0 (l++List.replicate (least+n) what).length),(2000000,.aa 65032 0)],aG s o most a' hv' out++[(62110,.arr 1 (aF (l++List.replicate (least+n) what)))]⟩->R1.ap st') :
    vcW Tryz.prog E Cod.Dz (Hr R1 RX R) ⟨[(0,.aa 65032 0),(7,.int .i64 nl),(8,.int .i64 nd),(14,aZ fl),(16,.sl 62110 0 l.length),(19,.int .i64 nb),(20,.int .i64 least),(21,.int .i64 what),(2000000,.aa 65032 0)],aG s o most a hv out++[(62110,.arr 1 (aF l))]⟩:=by
 have htl:(s.drop o).length=s.length-o:=acK;have hnl:=dN l;have hb:=uN s o p a hv nb hs hr acB;refine jI ?_;refine aN [(RD,.var (aI s a hv o))] hb vV nofun ?_;rintro h' v ar ⟨a1,hv1,hr1,rfl,rfl,rfl⟩;by_cases hf:nb<=8*(s.drop o).length-p
 ·rw[if_pos hf]at hr1;rw[if_pos hf,decide_eq_true hf];have aL:p+nb<=8*(s.drop o).length:=by have:=hr.h2;have:=hr.h3;omega
  rw[iC rfl aL]at hbad;simp only at hbad;have hlt:=iB (s.drop o) p nb;have hp7:2^nb<=2^7:=acQ (by decide) hbits;have hR1:=λst'=>hR1 _ a1 hv1 st' rfl aL;generalize numAt (s.drop o) p nb=n at *
  refine⟨bX,rfl,?_⟩;by_cases hov:N<l.length+(least+n)
  ·have ho2:((nl:Int)+(nd:Int))<(l.length:Int)+(least:Int)+(n:Int):=acB;have hbad:=hbad (by unfold dZ;rw[if_pos hov,mP rfl];simp);unfold dZ at hbad;rw[if_pos hov,mP rfl]at hbad;refine aV hnl ho2 ?_;exact k9 hR 3 hbad (by decide) a1 hv1 bq
  ·have ho2:¬((nl:Int)+(nd:Int))<(l.length:Int)+(least:Int)+(n:Int):=acB;have eln:(least:Int)+(n:Int)=((least+n:Nat):Int):=acB;clear hbad;refine aV hnl ho2 ?_;generalize hk:least+n=k at *
   rw[eln]
   refine aJ hN (λj:Nat=>⟨[(0,.aa 65032 0),(7,.int .i64 nl),(8,.int .i64 nd),(14,aZ fl),(16,.sl 62110 0 (l.length+j:Nat)),(21,.int .i64 what),(150,.int .i64 k),(151,.int .i64 j),(2000000,.aa 65032 0)],aG s o most a1 hv1 out++[(62110,.arr 1 (aF (l++List.replicate j what)))]⟩) (λj=>j<=k) (λj=>k-j) 0
    (.le (by simp(disch:=omega)only[go_sem,simprocAttr,aG,aI,aZ];simp)) acB ?_
   rintro j R2 hj hR2;have hnl:=dN (l++List.replicate j what);have hlr:(l++List.replicate j what).length=l.length+j:=by simp
   have hnr:=UZ l j what;have hsb:aB (aF (l++List.replicate j what)) 0 (l.length+j)=aF (l++List.replicate j what):=by rw[<-hlr];exact lY
   by_cases hjk:j<k
   ·refine zD hsb @kT ?_;exact hR2 (j+1) _ acB acB (.le (vu hnr))
   ·obtain rfl:j=k:=acB;refine jI ?_;exact hR1 _ acB hr1 (.le (vu hlr))
 ·rw[if_neg hf]at hr1;rw[if_neg hf,decide_eq_false hf];rw[ns rfl (by simp only;omega)]at hbad
  have hover:∀k,(dZ N l (k,what,{p:=p,out:=out,err:=6})).err=6:=by
   intro k;unfold dZ;split;rfl
   rfl
  simp only at hbad;rw[hover]at hbad;refine⟨bX,rfl,?_⟩;refine wW ?_;exact k9 hR 6 (hbad (by decide)) (by decide) a1 hv1 bq
set_option maxHeartbeats 2000000 in
theorem Ro (s:Bs) (o most a hv:Nat) (out:Bs) (fl:List Nat) (nl nd p:Nat) (D:(List Nat×List Nat)×SS) {E:Env} {R:HP->AV->List AV->Prop} (hN:E.N<=1000000) (hs:s.length<=1000000000) (ho:o<=s.length)
    (hR:cM (pF s o most out D) R) (hr:bD s a hv (8*o+p)) (hfl:∀n∈fl,n<=15) (hfn:fl.length=19) (hfc:bw fl=true) (h1:257<=nl) (h2:nl<=286) (h3:1<=nd) (h4:nd<=30)
    (hD:D=qF (s.drop o) nl nd (jB (s.drop o) fl (nl+nd) (nl+nd) [] ⟨p,out,0⟩)) :
    vcW Tryz.prog E Cod.Rt (QT R) ⟨[(0,.aa 65032 0),(7,.int .i64 nl),(8,.int .i64 nd),(14,aZ fl),(16,.an),(2000000,.aa 65032 0)],aG s o most a hv out⟩:=by
 generalize hG:jB (s.drop o) fl (nl+nd) (nl+nd) [] ⟨p,out,0⟩=G at hD;have hN1:nl+nd<=400:=acB;generalize hNN:nl+nd=N at *
 have hbadG:G.2.err≠0->D.2.err=G.2.err:=by
  intro h;rw[hD];unfold qF;rw[if_pos h]
 refine gn (y:=Cod.Dy) hN (λz:Nat×Nat=>⟨[(0,.aa 65032 0),(7,.int .i64 nl),(16,.ro 1 (aF G.1)),(2000000,.aa 65032 0)],aG s o most z.1 z.2 out⟩)
  (λz=>bD s z.1 z.2 (8*o+G.2.p)/\G.2=⟨G.2.p,out,0⟩/\(∀n∈G.1,n<=15)/\G.1.length=N) (λRX hRX=>?_) (λz hz=>?_)
 ·refine wW ?_
  refine aJ hN (λq:List Nat×Nat×Nat×Nat=>⟨[(0,.aa 65032 0),(7,.int .i64 nl),(8,.int .i64 nd),(14,aZ fl),(16,.sl 62110 0 q.1.length),(2000000,.aa 65032 0)],aG s o most q.2.1 q.2.2.1 out++[(62110,.arr 1 (aF q.1))]⟩)
   (λq=>(∀n∈q.1,n<=15)/\q.1.length<=N/\bD s q.2.1 q.2.2.1 (8*o+q.2.2.2)/\∃k,N-q.1.length<=k/\jB (s.drop o) fl N k q.1 ⟨q.2.2.2,out,0⟩=G) (λq=>N-q.1.length) ([],a,hv,p)
   (.nil 16 62110 1 rfl (.le (vu @qR))) ⟨by simp,by simp,hr,N,by simp,hG⟩ ?_
  clear hr hG;rintro⟨l,a,hv,p⟩ R1 ⟨hl,hll,hr,k,hk,hg⟩ hR1;simp only at hl hll hr hk hg;have hnl:=dN l;have htl:(s.drop o).length=s.length-o:=acK;by_cases hlt:l.length<N
  ·have hlt2:(l.length:Int)<(nl:Int)+(nd:Int):=acB;obtain⟨k,rfl⟩:∃k',k=k'+1:=⟨k-1,acB⟩;rw[ya,if_neg (by simp only;omega)]at hg;have hread:=xH fl hfl acB hfc s a hv o (8*o+p) acB hr;rw[<-yP]at hread;simp only[aZ]at hread;generalize hre:readL (bH fl) (aX (s.drop o) p)=re at *
   simp(disch:=omega)only[go_sem,simprocAttr,aG,aZ,hnl,hlt2];refine aN [(RD,.var (aI s a hv o))] hread vV nofun ?_;rintro h' v ar ⟨a2,hv2,p2,sy,hr2,rfl,rfl,hk2,rfl⟩;refine⟨bX,rfl,?_⟩;by_cases hre2:re.2.2=0
   ·obtain⟨rfl,rfl⟩:=hk2 hre2
    have hsym:bO (s.drop o) fl ⟨p,out,0⟩=(re.1,⟨p+re.2.1,out,0⟩):=by
     have:=rK (t:=s.drop o) (l:=fl) (S:=⟨p,out,0⟩) rfl (by simp only;rw[hre];exact hre2);simp only[hre]at this;exact this
    rw[hsym]at hg;simp only at hg
    have hslt:re.1<19:=by
     have:=rb (bH fl) (aX (s.drop o) p) (by rw[hre];exact hre2);rw[hre]at this;have hcl:(bH fl).length=fl.length:=by simp[bH]
     omega
    rw[show 8*o+p+re.2.1=8*o+(p+re.2.1)by omega]at hr2;generalize p+re.2.1=p2 at *
    generalize re.1=sy at *
    by_cases h16:sy<16
    ·have ht:eo (s.drop o) l sy ⟨p2,out,0⟩=(1,sy,⟨p2,out,0⟩):=by unfold eo;rw[if_neg acB,if_neg acB,if_neg acB]
     have hov:dZ N l (1,sy,⟨p2,out,0⟩)=⟨p2,out,0⟩:=by unfold dZ;rw[if_neg (by simp only;omega)]
     rw[ht,hov,if_neg (by simp)]at hg;simp only at hg;have hsb:aB (aF l) 0 l.length=aF l:=lY;refine cW hre2 hnl hsb @kT ?_;refine hR1 (l++[sy],a2,hv2,p2) _ (by simp only[acD,acX];omega) ⟨?_,?_,hr2,k,?_,hg⟩ (.le (by rw[nk];simp(disch:=omega)only[go_sem,simprocAttr,aG,aI,aZ,acD,acX]))
     ·intro n hn;rcases adh.1 hn with hn | hn;exact hl n hn
      ·rw[ac0.1 hn];omega
     ·simp only[acD,acX];omega
     ·simp only[acD,acX];omega
    ·refine ah hre2 ?_
     refine gn (y:=Cod.Dz) hN (λz:Nat×Nat×Nat=>⟨[(0,.aa 65032 0),(7,.int .i64 nl),(8,.int .i64 nd),(14,aZ fl),(16,.sl 62110 0 l.length),(19,.int .i64 z.1),(20,.int .i64 z.2.1),(21,.int .i64 z.2.2),(2000000,.aa 65032 0)],aG s o most a2 hv2 out++[(62110,.arr 1 (aF l))]⟩)
      (λz=>z.1<=7/\1<=z.2.1/\z.2.1<=11/\z.2.2<=15/\eo (s.drop o) l sy ⟨p2,out,0⟩=(z.2.1+(bI (s.drop o) z.1 ⟨p2,out,0⟩).1,z.2.2,(bI (s.drop o) z.1 ⟨p2,out,0⟩).2)) (λR2 hR2=>?_) (λz hz=>?_)
     ·by_cases e16:sy=16
      ·subst e16;by_cases hle:l=[]
       ·subst hle;have ht:eo (s.drop o) [] 16 ⟨p2,out,0⟩=(0,0,⟨p2,out,3⟩):=by unfold eo;rw[if_pos rfl,if_pos rfl,mP rfl]
        have hov:dZ N [] (0,0,⟨p2,out,3⟩)=⟨p2,out,3⟩:=if_neg (by simp);rw[ht,hov,if_pos (by simp)]at hg;refine ah @qR ?_;exact k9 hR 3 (by rw[hbadG (by rw[<-hg];simp),<-hg]) (by decide) a2 hv2 bq
       ·have hl0:0<l.length:=by cases l with | nil=>exact absurd rfl hle | cons=>simp
        have el:(l.length:Int)-1=((l.length-1:Nat):Int):=acB;have hz:¬((l.length:Int)=0):=acB;have hx:nth (aF l) (l.length-1)=.int .i64 (l.getD (l.length-1) 0:Nat):=j7 acB;have hx15:l.getD (l.length-1) 0<=15:=nf hl _;have ht:eo (s.drop o) l 16 ⟨p2,out,0⟩=(3+(bI (s.drop o) 2 ⟨p2,out,0⟩).1,l.getD (l.length-1) 0,(bI (s.drop o) 2 ⟨p2,out,0⟩).2):=by unfold eo;rw[if_pos rfl,if_neg hle]
        generalize l.getD (l.length-1) 0=x at *
        refine cW hnl hz el hx ?_;exact hR2 (2,3,x) _ ⟨by simp,by simp,by simp,hx15,ht⟩ (.le rM)
      ·by_cases e17:sy=17
       ·subst e17;refine wW ?_;exact hR2 (3,3,0) _ ⟨by decide,by decide,by decide,by decide,rfl⟩ (.le rM)
       ·obtain rfl:sy=18:=acB;refine wW ?_;exact hR2 (7,11,0) _ ⟨by decide,by decide,by decide,by decide,rfl⟩ (.le rM)
     ·obtain⟨nb,least,what⟩:=z;simp only at hz |-;obtain⟨g1,g0,g2,g3,g4⟩:=hz;rw[g4]at hg;refine Rp s o most a2 hv2 N out l fl nl nd p2 nb least what D hN hs ho hR hr2 g1 g2 hNN hN1 hll (λh=>?_) (λn a' hv' st' hn aL hlo hr3 hw=>?_)
      ·rw[if_pos h]at hg;rw[hbadG (by rw[<-hg];exact h),<-hg]
      ·rw[iC rfl aL]at hg;simp only at hg;rw[<-hn]at hg;have hov:dZ N l (least+n,what,⟨p2+nb,out,0⟩)=⟨p2+nb,out,0⟩:=by unfold dZ;rw[if_neg (by simp only;omega)]
       rw[hov,if_neg (by simp)]at hg;refine hR1 (l++List.replicate (least+n) what,a',hv',p2+nb) _ (by simp only[acD,ac3];omega) ⟨?_,?_,hr3,k,?_,hg⟩ hw
       ·intro n hn;rcases adh.1 hn with hn | hn;exact hl n hn
        ·rw[(List.mem_replicate.1 hn).2];exact g3
       ·simp only[acD,ac3];omega
       ·simp only[acD,ac3];omega
   ·have hsym:bO (s.drop o) fl ⟨p,out,0⟩=(0,⟨p,out,re.2.2⟩):=by
     have:=vh (t:=s.drop o) (l:=fl) (S:=⟨p,out,0⟩) rfl (by simp only;rw[hre];exact hre2);simp only[hre]at this;exact this
    rw[hsym]at hg;simp only at hg;have ht:eo (s.drop o) l 0 ⟨p,out,re.2.2⟩=(1,0,⟨p,out,re.2.2⟩):=by unfold eo;rw[if_neg acB,if_neg acB,if_neg acB]
    have hov:dZ N l (1,0,⟨p,out,re.2.2⟩)=⟨p,out,re.2.2⟩:=by unfold dZ;rw[if_neg (by simp only;omega)]
    rw[ht,hov,if_pos (by simpa using hre2)]at hg;have hi:¬((re.2.2:Nat):Int)=0:=acB;refine ah hi ?_;exact k9 hR re.2.2 (by rw[hbadG (by rw[<-hg];exact hre2),<-hg]) hre2 a2 hv2 bq
  ·have hlt2:¬(l.length:Int)<(nl:Int)+(nd:Int):=acB
   have hGe:(l,(⟨p,out,0⟩:SS))=G:=by
    rw[<-hg]
    cases k with
    | zero=>rfl
    | succ k=>rw[ya,if_pos (.inl acB)]
   subst hGe;have hsb:aB (aF l) 0 l.length=aF l:=lY;refine zD hnl hlt2 ?_;exact hRX (a,hv) _ ⟨hr,rfl,hl,by simp only;omega⟩ (.bn 62110 (.le (vu hsb)))
 ·obtain⟨a',hv'⟩:=z;obtain⟨g1,g2,g3,g4⟩:=hz;refine Rq s o most a' hv' out G.1 nl G.2.p D hN hR g3 h1 h2 acB acB g1 ?_;rw[hD];unfold qF;rw[if_neg (by rw[g2];simp)];obtain⟨G1,G2⟩:=G;simp only at g2;rw[g2]
set_option maxHeartbeats 2000000 in
theorem Rs (s:Bs) (o most a hv:Nat) (out:Bs) (nl nd nc p:Nat) (D:(List Nat×List Nat)×SS) {E:Env} {R:HP->AV->List AV->Prop} (hN:E.N<=1000000) (hs:s.length<=1000000000) (ho:o<=s.length)
    (hR:cM (pF s o most out D) R) (hr:bD s a hv (8*o+p)) (h1:257<=nl) (h2:nl<=286) (h3:1<=nd) (h4:nd<=30) (hc:nc<=19)
    (hD:D=ov (s.drop o) nl nd (firstS (s.drop o) nc nc (List.replicate 19 0) ⟨p,out,0⟩)) :
    vcW Tryz.prog E Cod.Ru (QT R) ⟨[(0,.aa 65032 0),(7,.int .i64 nl),(8,.int .i64 nd),(9,.int .i64 nc),(10,.sl 62057 0 19),(2000000,.aa 65032 0)],[(62057,.arr 1 (aF (List.replicate 19 0))),(40014,.var (aI s a hv o)),(65032,.var [.aa 40014 0,.sl 60022 0 out.length,.int .i64 most]),(60022,.arr 1 (out.map ub))]⟩:=by
 generalize hG:firstS (s.drop o) nc nc (List.replicate 19 0) ⟨p,out,0⟩=G at hD;have htl:(s.drop o).length=s.length-o:=acK
 have hbadG:G.2.err≠0->D.2.err=G.2.err:=by
  intro h;rw[hD];unfold ov;rw[if_pos h]
 refine gn (y:=Cod.Rv) hN (λz:Nat×Nat=>⟨[(0,.aa 65032 0),(7,.int .i64 nl),(8,.int .i64 nd),(10,.ro 1 (aF G.1)),(2000000,.aa 65032 0)],aG s o most z.1 z.2 out⟩)
  (λz=>bD s z.1 z.2 (8*o+G.2.p)/\G.2=⟨G.2.p,out,0⟩/\(∀n∈G.1,n<=15)/\G.1.length=19) (λRX hRX=>?_) (λz hz=>?_)
 ·refine jI ?_
  refine aJ hN (λq:Nat×List Nat×Nat×Nat×Nat=>⟨[(0,.aa 65032 0),(7,.int .i64 nl),(8,.int .i64 nd),(10,.sl 62057 0 19),(58,.int .i64 nc),(59,.int .i64 q.1),(2000000,.aa 65032 0)],aG s o most q.2.2.1 q.2.2.2.1 out++[(62057,.arr 1 (aF q.2.1))]⟩)
   (λq=>q.1<=nc/\(∀n∈q.2.1,n<=15)/\q.2.1.length=19/\bD s q.2.2.1 q.2.2.2.1 (8*o+q.2.2.2.2)/\firstS (s.drop o) nc (nc-q.1) q.2.1 ⟨q.2.2.2.2,out,0⟩=G) (λq=>nc-q.1) (0,List.replicate 19 0,a,hv,p)
   (.le vVJ) ⟨by simp,by simp,by simp,hr,hG⟩ ?_
  clear hr hG;rintro⟨j,l,a,hv,p⟩ R1 ⟨hj,hl,hll,hr,hg⟩ hR1;simp only at hj hl hll hr hg;have hnl:=dN l;by_cases hlt:j<nc
  ·obtain⟨m,hm⟩:∃m,nc-j=m+1:=⟨nc-j-1,acB⟩;rw[hm,xn,if_neg (by simp),show nc-(m+1)=j by omega]at hg;have aL:=WV j acB;have hx:nth (aF iG) j=.int .i64 (iG.getD j 0:Nat):=j7 (by have:iG.length=19:=rfl;omega);have hpn:(aF iG).length=19:=rfl
   have hx2:(aF iG).getD j .undef=.int .i64 (iG.getD j 0:Nat):=by
    have hl:j<iG.length:=by have:iG.length=19:=rfl;omega
    simp[aF,acC,hl]
   have hord:=Q3;unfold Ez at hord;generalize iG.getD j 0=pj at *
   have hb:=uN s o p a hv 3 hs hr acB;have hxl:nth (aF l) pj=.int .i64 (l.getD pj 0:Nat):=j7 acB;refine jI ?_;refine aN [(RD,.var (aI s a hv o))] hb vV nofun ?_;rintro h' v ar ⟨a1,hv1,hr1,rfl,rfl,rfl⟩;by_cases hf:3<=8*(s.drop o).length-p
   ·rw[if_pos hf]at hr1;rw[if_pos hf,decide_eq_true hf];rw[iC rfl (by simp only;omega)]at hg;simp only at hg;have hlt3:=iB (s.drop o) p 3;generalize numAt (s.drop o) p 3=x at *
    refine⟨bX,rfl,?_⟩;refine wW ?_;refine aj hord rfl rfl ?_;refine rQ hx2 hpn hnl hll hxl @U0 ?_;refine hR1 (j+1,l.set pj x,a1,hv1,p+3) _ (by simp only;omega) ⟨hlt,?_,by simp[hll],hr1,by simp only;rw[show nc-(j+1)=m by omega];exact hg⟩ (.le bq);intro n hn;rcases ad8 hn with hn | hn;exact hl n hn;omega
   ·rw[if_neg hf]at hr1;rw[if_neg hf,decide_eq_false hf];rw[ns rfl (by simp only;omega)]at hg;simp only at hg;rw[N7 _ _ _ _ _ (by simp)]at hg;refine⟨bX,rfl,?_⟩;refine wW ?_;exact k9 hR 6 (by rw[hbadG (by rw[<-hg];simp),<-hg]) (by decide) a1 hv1 bq
  ·obtain rfl:j=nc:=acB;rw[ae5]at hg;have hGe:(l,(⟨p,out,0⟩:SS))=G:=hg;subst hGe;have hsub:aB (aF l) 0 19=aF l:=by rw[<-hll];exact lY
   refine jI ?_;exact hRX (a,hv) _ ⟨hr,rfl,hl,hll⟩ (.bn 62057 (.le (GY hsub)))
 ·obtain⟨a',hv'⟩:=z;obtain⟨g1,g2,g3,g4⟩:=hz;simp only at g1 g2 g3 g4 |-;have n1:=tQ G.1 g3 acB;unfold ov at hD;rw[if_neg (by rw[g2];simp)]at hD
  cases hck:bw G.1 with
  | false=>
   rw[hck,if_neg (by decide)]at n1;rw[if_pos hck]at hD;refine jI ?_;refine dJ n1 rfl ?_;rintro h' v as' ⟨rfl,rfl⟩;refine⟨rfl,rfl,?_⟩;refine wW ?_
   exact k9 hR 3 (by rw[hD]) (by decide) a' hv' bq
  | true=>
   rw[hck,if_pos rfl]at n1;rw[if_neg (by rw[hck];decide),g2]at hD;have hb:=Ro s o most a' hv' out G.1 nl nd G.2.p D (E:=E) (R:=R) hN hs ho hR g1 g3 g4 hck h1 h2 h3 h4 hD;refine jI ?_;refine dJ n1 rfl ?_;rintro h' v as' ⟨rfl,rfl⟩;refine⟨rfl,rfl,?_⟩;simp only[aG,aZ]at hb;simp(disch:=omega)only[go_sem,simprocAttr,aZ];exact hb
theorem sc {n:Nat} (h:n<65536):bits .and .u32 (n:Int) 31=((n%32:Nat):Int):=by
 show IntKind.u32.wrap ((BitVec.ofInt 32 (n:Int) &&& BitVec.ofInt 32 ((31:Nat):Int)).toNat:Int)=_
 rw[acM,acM,adZ,acP,acP,acL acB,acL (by decide),show(31:Nat)=2^5-1 from rfl,ado];exact wrap_u32 acB
theorem fdiv_pow (x k:Nat) (h:k<=32):(x:Int).fdiv (2^min k 32)=((x/2^k:Nat):Int):=by
 rw[ac1 h,ac6 _ (by exact_mod_cast ac5 (2^k))]
 norm_cast
set_option maxHeartbeats 1000000 in
theorem Rx (s:Bs) (o most a hv:Nat) (S:SS) (hs:s.length<=1000000000) (ho:o<=s.length) (hm:most<=1000000) (hr:bD s a hv (8*o+S.p)) (hol:S.out.length<=most) (he:S.err=0) :
    Eng.Spec Tryz.prog 219 (aG s o most a hv S.out) [.aa fR 0] (λh' v ar=>PT s o most S.out (fD (s.drop o) S) h' v/\ar=[.aa fR 0]):=by
 refine Cod.Ry (λE R hN hR=>?_);have htl:(s.drop o).length=s.length-o:=acK;have hb:=uN s o S.p a hv 14 hs hr acB;rw[BZ]at hR;obtain⟨p,out,err⟩:=S;simp only at he hr hol hb hR |-;subst he;refine jI ?_;refine aN [(RD,.var (aI s a hv o))] hb vV nofun ?_;rintro h' v ar ⟨a1,hv1,hr1,rfl,rfl,rfl⟩;by_cases h14:14<=8*(s.drop o).length-p
 ·rw[if_pos h14]at hr1;rw[if_pos h14,decide_eq_true h14];rw[if_neg acB]at hR;refine⟨bX,rfl,?_⟩;have hlt:=iB (s.drop o) p 14;have m5:=nr (s.drop o) p (m:=5) (n:=14) (by decide);have d5:=nq (s.drop o) p (m:=5) (n:=14) (by decide);have d10:=nq (s.drop o) p (m:=10) (n:=14) (by decide);have m55:=nr (s.drop o) (p+5) (m:=5) (n:=9) (by decide);generalize numAt (s.drop o) p 14=x at *
  have f5:=fdiv_pow x 5 (by decide);have f10:=fdiv_pow x 10 (by decide);have c1:=sc (n:=x) acB;have c2:=sc (n:=x/2^5) acB;have w1:x%32=numAt (s.drop o) p 5:=m5;have w2:x/2^5%32=numAt (s.drop o) (p+5) 5:=by rw[d5];exact m55
  have w3:x/2^10=numAt (s.drop o) (p+10) 4:=d10;rw[<-w1,<-w2,<-w3]at hR;have b1:x%32<32:=adV _ (by decide);have b2:x/2^5%32<32:=adV _ (by decide);have b3:x/2^10<16:=acB;generalize x%32=y1 at *
  generalize x/2^5%32=y2 at *
  generalize x/2^10=y3 at *
  have bad:(286<y1+257\/30<y2+1)->R [(40014,aC.var (aI s a1 hv1 o)),(65032,aC.var [AV.aa 40014 0,AV.sl 60022 0 (List.length out),AV.int IntKind.i64 ↑most]),(60022,aC.arr 1 (List.map ub out))] (.ab [.lit (.pointer none),.lit (.pointer none),.int .i64 3]) [.aa 65032 0]:=by
   intro hx;rw[if_pos hx]at hR;exact k9 hR 3 rfl (by decide) a1 hv1 bq
  by_cases hx1:286<y1+257
  ·have bad:=bad (.inl hx1);refine cW f5 f10 c1 c2 ?_;refine gG ?_;exact bad
  ·by_cases hx2:30<y2+1
   ·have bad:=bad (.inr hx2);refine cW f5 f10 c1 c2 ?_;refine gG ?_;exact bad
   ·rw[if_neg acB]at hR;clear bad;have hf:=Rs s o most a1 hv1 out (y1+257) (y2+1) (y3+4) (p+14) _ (E:=E) (R:=R) hN hs ho hR hr1 acB acB acB acB acB rfl;clear hR;refine cW f5 f10 c1 c2 ?_;refine gG ?_;simp only[aI]at hf;refine jJ ?_;exact hf
 ·rw[if_neg h14]at hr1;rw[if_neg h14,decide_eq_false h14];rw[if_pos acB]at hR;refine⟨bX,rfl,?_⟩;refine wW ?_;exact k9 hR 6 rfl (by decide) a1 hv1 bq
theorem and1 {n:Nat} (h:n<65536):bits .and .u32 (n:Int) 1=((n%2:Nat):Int):=by
 show IntKind.u32.wrap ((BitVec.ofInt 32 (n:Int) &&& BitVec.ofInt 32 ((1:Nat):Int)).toNat:Int)=_
 rw[acM,acM,adZ,acP,acP,acL acB,acL (by decide),show(1:Nat)=2^1-1 from rfl,ado];exact wrap_u32 acB
abbrev QR (R:HP->AV->List AV->Prop):KQ:=KQ.post [.tmp 2] 1 R
abbrev vP (s:Bs) (o most:Nat) (G:SS):HP->AV->List AV->Prop:=λh' v ar=>PI s o most G h' v/\ar=[.aa fR 0]
theorem oV {s:Bs} {o most:Nat} {G:SS} {R:HP->AV->List AV->Prop} (hR:cM (vP s o most G) R) (e:Nat) (he:G.err=e) (hne:e≠0) (a' hv':Nat) (out:Bs) {h:HP} (hh:dz h (aG s o most a' hv' out)) :
    R h (.int .i64 (e:Nat)) [.aa 65032 0]:=
 hR.le (h':=aG s o most a' hv' out) hh ⟨⟨a',hv',out,rfl,by rw[he],λh=>absurd h (by rw[he];exact hne)⟩,rfl⟩
def sX (t:Bs) (most h:Nat) (S G:SS):Prop:=if h%2=1 then S=G else gK t most S=G
def jj (t:Bs) (most h:Nat) (S G:SS):Prop:=if S.err≠0 then G.err=S.err else sX t most h S G
structure mu where
 h:Nat
 l:List Nat
 d:List Nat
 a:Nat
 hv:Nat
 S:SS
def iR (s:Bs) (o most:Nat) (l:Nat) (z:mu):St:=
 if l=0 then⟨[(0,.aa 65032 0),(2000000,.aa 65032 0)],aG s o most z.a z.hv z.S.out⟩
 else if l=1 then⟨[(0,.aa 65032 0),(3,.int .u32 z.h),(2000000,.aa 65032 0)],aG s o most z.a z.hv z.S.out⟩
 else⟨[(0,.aa 65032 0),(3,.int .u32 z.h),(7,aZ z.l),(8,aZ z.d),(2000000,.aa 65032 0)],aG s o most z.a z.hv z.S.out⟩
structure RB (s:Bs) (o most:Nat) (z:mu):Prop where
 r:bD s z.a z.hv (8*o+z.S.p)
 e:z.S.err=0
 ol:z.S.out.length<=most
 hl:z.h<8
structure TB (l d:List Nat):Prop where
 Tv:∀n∈l,n<=15
 d15:∀n∈d,n<=15
 ll:l.length<=320
 dl:d.length<=320
 lc:bw l=true
 dc:bw d=true
def xL (s:Bs) (o most:Nat) (G:SS) (l:Nat) (z:mu):Prop:=
 RB s o most z/\(if l=0 then gK (s.drop o) most z.S=G else if l=1 then sX (s.drop o) most z.h z.S G else if l=2 then TB z.l z.d/\jj (s.drop o) most z.h (gh (s.drop o) most z.l z.d z.S) G else False)
def jx (s:Bs) (o l:Nat) (z:mu):Nat:=4*(8*(s.drop o).length+1-z.S.p)+min l 2
theorem RB.pl {s:Bs} {o most:Nat} {z:mu} (h:RB s o most z):z.S.p<=8*(s.drop o).length:=by
 have:=h.r.h2;have:=h.r.h3;rw[acK];omega
set_option maxHeartbeats 2000000 in
theorem Dr (s:Bs) (o most:Nat) (G:SS) (z:mu) {E:Env} {R:Nat->KS} {R0:HP->AV->List AV->Prop} (hN:E.N<=1000000) (hs:s.length<=1000000000) (ho:o<=s.length) (hm:most<=1000000) (hR:cM (vP s o most G) R0) (hz:RB s o most z) (hg:gK (s.drop o) most z.S=G)
    (hJ:∀l' z' st',jx s o l' z'<jx s o 0 z->xL s o most G l' z'->Wk st' (iR s o most l' z')->(R l').ap st') :
    vcW Tryz.prog E Cod.xM (KQ.kN R (QR R0)) ⟨[(0,.aa 65032 0),(2000000,.aa 65032 0)],aG s o most z.a z.hv z.S.out⟩:=by
 have aL:=hz.pl;obtain⟨h,l,d,a,hv,S⟩:=z;obtain⟨hr,he,hol,hh⟩:=hz;simp only at hr he hol hh hg aL |-;rw[run_eq aL]at hg;have htl:(s.drop o).length=s.length-o:=acK;have hb:=uN s o S.p a hv 3 hs hr acB;refine jI ?_;refine aN [(RD,.var (aI s a hv o))] hb vV nofun ?_;rintro h' v ar ⟨a1,hv1,hr1,rfl,rfl,rfl⟩;by_cases h3:3<=8*(s.drop o).length-S.p
 ·rw[if_pos h3]at hr1;rw[if_pos h3,decide_eq_true h3];have hbk:fg (s.drop o) most S=_:=if_neg (show ¬8*(s.drop o).length<S.p+3 by omega);rw[hbk]at hg;clear hbk;have m1:=nr (s.drop o) S.p (m:=1) (n:=3) (by decide);have d1:=nq (s.drop o) S.p (m:=1) (n:=3) (by decide);have hlt:=iB (s.drop o) S.p 3;simp only at hg;rw[<-m1,show(2:Nat)=3-1 from rfl,<-d1]at hg;generalize numAt (s.drop o) S.p 3=x at *
  have f1:=fdiv_pow x 1 (by decide);refine⟨bX,rfl,?_⟩;have hx1:x%2^1=x%2:=rfl;have hx2:x/2^1=x/2:=rfl;rw[hx1,hx2]at hg;rw[hx2]at f1;have hxl:x/2<4:=acB
  have hdone:∀S':SS,(if x/2=0 then gm (s.drop o) most {S with p:=S.p+3} else if x/2=1 then gh (s.drop o) most ba bU {S with p:=S.p+3}
      else if x/2=2 then(if(fD (s.drop o) {S with p:=S.p+3}).2.err≠0 then(fD (s.drop o) {S with p:=S.p+3}).2 else gh (s.drop o) most (fD (s.drop o) {S with p:=S.p+3}).1.1 (fD (s.drop o) {S with p:=S.p+3}).1.2 (fD (s.drop o) {S with p:=S.p+3}).2)else {S with p:=S.p+3,err:=3})=S' ->
      jj (s.drop o) most x S' G:=by
   intro S' hS';rw[hS']at hg;unfold jj;by_cases hSe:S'.err=0
   ·rw[if_neg (by simpa using hSe)];unfold sX;by_cases hx:x%2=1
    ·rw[if_pos (.inr (by simpa using hx))]at hg;rw[if_pos hx];exact hg
    ·rw[if_neg (λh=>h.elim (λh=>h hSe) (λh=>hx (by simpa using h)))]at hg;rw[if_neg hx];exact hg
   ·rw[if_pos (.inl hSe)]at hg;rw[if_pos hSe,hg]
  clear hg;have hr1':bD s a1 hv1 (8*o+(S.p+3)):=hr1;refine ah f1 ?_;obtain hk | hk | hk | hk:x/2=0\/x/2=1\/x/2=2\/x/2=3:=acB
  ·rw[hk];have hst:=Rl s o most a1 hv1 {S with p:=S.p+3} hs ho hm hr1' hol he;have hc:=hdone _ (if_pos hk);have hmv:Mv (s.drop o) most {S with p:=S.p+3} (gm (s.drop o) most {S with p:=S.p+3}):=Ef;generalize gm (s.drop o) most {S with p:=S.p+3}=F at *
   refine wW ?_;refine aN (aG s o most a1 hv1 S.out) hst bq nofun ?_;rintro h' v ar ⟨⟨a2,hv2,out2,rfl,rfl,hF⟩,rfl⟩;refine⟨bq,rfl,?_⟩;unfold jj at hc;by_cases hFe:F.err=0
   ·obtain⟨rfl,hr2⟩:=hF hFe;rw[if_neg (by simpa using hFe)]at hc;refine ah hFe ?_;have h1:=hmv.p;simp only at h1;exact hJ 1 ⟨x,[],[],a2,hv2,F⟩ _ (by simp only[jx];omega) ⟨⟨hr2,hFe,hmv.o hol,by simp only;omega⟩,by rw[if_neg (by decide),if_pos rfl];exact hc⟩ (.le (by simp(disch:=omega)only[go_sem,simprocAttr,iR,aG,aI]))
   ·rw[if_pos hFe]at hc;have hi:¬((F.err:Nat):Int)=0:=acB;refine ah hi ?_;exact oV hR F.err hc hFe a2 hv2 out2 bq
  ·rw[hk];have hc:=hdone _ ((if_neg acB).trans (if_pos hk));refine wW ?_;refine aj Dg rfl rfl ?_;simp(disch:=omega)only[go_sem,simprocAttr,aZ];refine hJ 2 ⟨x,ba,bU,a1,hv1,{S with p:=S.p+3}⟩ _ (by simp only[jx];omega) ⟨⟨hr1',he,hol,by simp only;omega⟩,?_⟩ (.le ?_)
   ·rw[if_neg (by decide),if_neg (by decide),if_pos rfl];exact⟨⟨mS.1,mQ.1,by simp only;rw[mS.2.1];decide,by simp only;rw[mQ.2.1];decide,mS.2.2,mQ.2.2⟩,hc⟩
   ·simp(disch:=omega)only[go_sem,simprocAttr,iR,aG,aI,aZ]
  ·rw[hk];have hit:=Rx s o most a1 hv1 {S with p:=S.p+3} hs ho hm hr1' hol he;have hc:=hdone _ ((if_neg acB).trans ((if_neg acB).trans (if_pos hk)));have hmv:Mv (s.drop o) most {S with p:=S.p+3} (fD (s.drop o) {S with p:=S.p+3}).2:=yj;have hdo:=M9 (s.drop o) {S with p:=S.p+3};generalize fD (s.drop o) {S with p:=S.p+3}=D at *
   refine wW ?_;refine aN (aG s o most a1 hv1 S.out) hit bq nofun ?_;rintro h' v ar ⟨⟨a2,hv2,rfl,hbad,hgood⟩,rfl⟩;by_cases hDe:D.2.err=0
   ·obtain⟨rfl,hr2,hc1,hc2,hl1,hl2,hn1,hn2⟩:=hgood hDe;rw[if_neg (by simpa using hDe)]at hc;refine⟨bq,rfl,?_⟩;refine zy ?_;have h1:=hmv.p;simp only at h1 hdo;refine hJ 2 ⟨x,D.1.1,D.1.2,a2,hv2,D.2⟩ _ (by simp only[jx];omega) ⟨⟨hr2,hDe,by simp only;rw[hdo];exact hol,by simp only;omega⟩,?_⟩ (.le ?_)
    ·rw[if_neg (by decide),if_neg (by decide),if_pos rfl];exact⟨⟨hl1,hl2,by simp only;omega,hn2,hc1,hc2⟩,hc⟩
    ·simp(disch:=omega)only[go_sem,simprocAttr,iR,aG,aI,aZ,hdo]
   ·obtain rfl:=hbad hDe;rw[if_pos hDe]at hc;unfold jj at hc;rw[if_pos hDe]at hc;refine⟨bq,rfl,?_⟩;have hi:¬((D.2.err:Nat):Int)=0:=acB;simp(disch:=omega)only[go_sem,simprocAttr,hi,zo];exact oV hR D.2.err hc hDe a2 hv2 S.out bq
  ·rw[hk];have hc:=hdone _ ((if_neg acB).trans ((if_neg acB).trans (if_neg acB)));unfold jj at hc;rw[if_pos (by simp)]at hc;refine wW ?_;exact oV hR 3 hc (by decide) a1 hv1 S.out bq
 ·rw[if_neg h3]at hr1;rw[if_neg h3,decide_eq_false h3];have hbk:fg (s.drop o) most S=(true,{S with err:=6}):=if_pos (show 8*(s.drop o).length<S.p+3 by omega);rw[hbk,if_pos (.inl (by simp))]at hg;refine⟨bX,rfl,?_⟩;refine wW ?_;exact oV hR 6 (by rw[<-hg]) (by decide) a1 hv1 S.out bq
set_option maxHeartbeats 2000000 in
theorem Rb (s:Bs) (o most:Nat) (G:SS) (z:mu) {E:Env} {R:Nat->KS} {R0:HP->AV->List AV->Prop} (hN:E.N<=1000000) (hs:s.length<=1000000000) (ho:o<=s.length) (hm:most<=1000000) (hR:cM (vP s o most G) R0) (hz:RB s o most z) (ht:TB z.l z.d) (hg:jj (s.drop o) most z.h (gh (s.drop o) most z.l z.d z.S) G)
    (hJ:∀l' z' st',jx s o l' z'<jx s o 2 z->xL s o most G l' z'->Wk st' (iR s o most l' z')->(R l').ap st') :
    vcW Tryz.prog E (.seq .skip Cod.Dq) (KQ.kN R (QR R0)) ⟨[(0,.aa 65032 0),(3,.int .u32 z.h),(7,aZ z.l),(8,aZ z.d),(2000000,.aa 65032 0)],aG s o most z.a z.hv z.S.out⟩:=by
 have aL:=hz.pl;obtain⟨h,l,d,a,hv,S⟩:=z;obtain⟨hr,he,hol,hh⟩:=hz;simp only at hr he hol hh hg aL ht |-;rw[uC aL,if_neg (by simpa using he)]at hg;have htl:(s.drop o).length=s.length-o:=acK;have hread:=xH l ht.Tv ht.ll ht.lc s a hv o (8*o+S.p) acB hr;rw[<-yP]at hread;simp only[aZ]at hread;generalize hre:readL (bH l) (aX (s.drop o) S.p)=re at *
 simp(disch:=omega)only[go_sem,simprocAttr,aG,aZ];refine aN [(RD,.var (aI s a hv o))] hread vV nofun ?_;rintro h' v ar ⟨a2,hv2,p2,sy,hr2,rfl,rfl,hk2,rfl⟩;refine⟨bX,rfl,?_⟩;by_cases hre2:re.2.2=0
 ·obtain⟨rfl,rfl⟩:=hk2 hre2
  have hsym:bO (s.drop o) l S=(re.1,{S with p:=S.p+re.2.1}):=by
   have:=rK (t:=s.drop o) (l:=l) (S:=S) he (by rw[hre];exact hre2);simp only[hre]at this;exact this
  have hrb:=rb (bH l) (aX (s.drop o) S.p) (by rw[hre];exact hre2);rw[hre,lg]at hrb;have hcl:(bH l).length=l.length:=by simp[bH]
  have hll:=ht.ll;rw[show 8*o+S.p+re.2.1=8*o+(S.p+re.2.1)by omega]at hr2
  have hst:ee (s.drop o) most l d S=(if re.1=256 then(true,{S with p:=S.p+re.2.1})else if re.1<256 then(false,fw most (UInt8.ofNat re.1) {S with p:=S.p+re.2.1})else(false,ja (s.drop o) most d re.1 {S with p:=S.p+re.2.1})):=by
   unfold ee;rw[hsym];exact if_neg (by simpa using he)
  rw[hst]at hg;have hp2:S.p<S.p+re.2.1/\S.p+re.2.1<=8*(s.drop o).length:=acB;generalize S.p+re.2.1=p2 at *
  have hsy:re.1<=320:=acB;generalize re.1=sy at *
  by_cases h256:sy=256
  ·rw[if_pos h256,if_pos rfl]at hg;unfold jj at hg;rw[if_neg (by simpa using he)]at hg;refine aV hre2 h256 ?_;refine hJ 1 ⟨h,[],[],a2,hv2,{S with p:=p2}⟩ _ (by simp only[jx];omega) ⟨⟨hr2,he,hol,hh⟩,?_⟩ (.le ?_)
   ·rw[if_neg (by decide),if_pos rfl];exact hg
   ·simp(disch:=omega)only[go_sem,simprocAttr,iR,aG,aI]
  ·rw[if_neg h256]at hg;have hi:¬((sy:Nat):Int)=256:=acB;refine aV hre2 hi ?_
   refine gn (y:=Cod.Q8) hN (λy:Nat×Nat×Bs×SS=>⟨[(0,.aa 65032 0),(3,.int .u32 h),(5,.int .i64 y.2.2.2.err),(7,aZ l),(8,aZ d),(2000000,.aa 65032 0)],aG s o most y.1 y.2.1 y.2.2.1⟩)
    (λy=>Mv (s.drop o) most {S with p:=p2} y.2.2.2/\jj (s.drop o) most h (gh (s.drop o) most l d y.2.2.2) G/\(y.2.2.2.err=0->y.2.2.1=y.2.2.2.out/\bD s y.1 y.2.1 (8*o+y.2.2.2.p))) (λR2 hR2=>?_) (λy hy=>?_)
   ·by_cases hlt:sy<256
    ·rw[if_pos hlt,if_neg (by simp)]at hg;simp only at hg;have hput:=Dp s o most a2 hv2 S.out hm hol (UInt8.ofNat sy);have hmv:Mv (s.drop o) most {S with p:=p2} (fw most (UInt8.ofNat sy) {S with p:=p2}):=qO
     have hF:fw most (UInt8.ofNat sy) {S with p:=p2}=⟨p2,if S.out.length=most then S.out else S.out++[UInt8.ofNat sy],if S.out.length=most then 2 else 0⟩:=by
      unfold fw;rw[if_neg (by simpa using he)];simp only;by_cases hf:S.out.length=most
      ·rw[if_pos acB,if_pos hf,if_pos hf]
      ·rw[if_neg acB,if_neg hf,if_neg hf,he]
     have hb:((UInt8.ofNat sy).toNat:Int)=(sy:Int):=by rw[ada];omega
     rw[hb]at hput;generalize fw most (UInt8.ofNat sy) {S with p:=p2}=F at *
     have hF1:F.out=(if S.out.length=most then S.out else S.out++[UInt8.ofNat sy]):=by rw[hF]
     have hF2:F.err=(if S.out.length=most then 2 else 0):=by rw[hF]
     have hF3:F.p=p2:=by rw[hF]
     rw[<-hF1,<-hF2]at hput;clear hF hF1;have hlt2:((sy:Nat):Int)<256:=acB;refine ah hlt2 ?_;refine aN (aG s o most a2 hv2 S.out) hput bq nofun ?_;rintro h' v ar ⟨rfl,rfl,rfl⟩;refine⟨bq,rfl,?_⟩;refine zy ?_;exact hR2 (a2,hv2,F.out,F) _ ⟨hmv,hg,λ_=>⟨rfl,by rw[hF3];exact hr2⟩⟩ (.le rM)
    ·rw[if_neg hlt,if_neg (by simp)]at hg;simp only at hg;have hrp:=Q6 s o most a2 hv2 {S with p:=p2} d sy hs ho hm hr2 hol he ht.d15 ht.dl ht.dc acB acB;have hmv:Mv (s.drop o) most {S with p:=p2} (ja (s.drop o) most d sy {S with p:=p2}):=yl;generalize ja (s.drop o) most d sy {S with p:=p2}=F at *
     have hlt2:¬((sy:Nat):Int)<256:=acB;simp only[aZ]at hrp;simp(disch:=omega)only[go_sem,simprocAttr,hlt2,aZ];refine aN (aG s o most a2 hv2 S.out) hrp bq nofun ?_;rintro h' v ar ⟨⟨a3,hv3,out3,rfl,rfl,hF⟩,rfl⟩;refine⟨bq,rfl,?_⟩;refine zy ?_;exact hR2 (a3,hv3,out3,F) _ ⟨hmv,hg,hF⟩ (.le rM)
   ·obtain⟨a3,hv3,out3,F⟩:=y;obtain⟨g1,g2,g3⟩:=hy;simp only at g1 g2 g3 |-;by_cases hFe:F.err=0
    ·obtain⟨rfl,hr3⟩:=g3 hFe;simp(disch:=omega)only[go_sem,simprocAttr,hFe,aZ];have h1:=g1.p;have h2:=g1.q hp2.2;simp only at h1;refine hJ 2 ⟨h,l,d,a3,hv3,F⟩ _ (by simp only[jx];omega) ⟨⟨hr3,hFe,g1.o hol,hh⟩,?_⟩ (.le ?_)
     ·rw[if_neg (by decide),if_neg (by decide),if_pos rfl];exact⟨ht,g2⟩
     ·simp(disch:=omega)only[go_sem,simprocAttr,iR,aG,aI,aZ]
    ·rw[show gh (s.drop o) most l d F=F from yx _ hFe]at g2;unfold jj at g2;rw[if_pos hFe]at g2;have hi:¬((F.err:Nat):Int)=0:=acB;simp(disch:=omega)only[go_sem,simprocAttr,hi,aZ];exact oV hR F.err g2 hFe a3 hv3 out3 bq
 ·have hsym:bO (s.drop o) l S=(0,{S with err:=re.2.2}):=by
   have:=vh (t:=s.drop o) (l:=l) (S:=S) he (by rw[hre];exact hre2);simp only[hre]at this;exact this
  have hst:ee (s.drop o) most l d S=(true,{S with err:=re.2.2}):=by
   unfold ee;rw[hsym];exact if_pos hre2
  rw[hst,if_pos rfl]at hg;unfold jj at hg;rw[if_pos hre2]at hg;have hi:¬((re.2.2:Nat):Int)=0:=acB;refine ah hi ?_;exact oV hR re.2.2 hg hre2 a2 hv2 S.out bq
set_option maxHeartbeats 1000000 in
theorem Ra (s:Bs) (o most a hv:Nat) (S:SS) (hs:s.length<=1000000000) (ho:o<=s.length) (hm:most<=1000000) (hr:bD s a hv (8*o+S.p)) (hol:S.out.length<=most) (he:S.err=0) :
    Eng.Spec Tryz.prog 212 (aG s o most a hv S.out) [.aa fR 0] (λh' v ar=>PI s o most (gK (s.drop o) most S) h' v/\ar=[.aa fR 0]):=by
 refine Cod.Rc (λE R hN hR=>?_);generalize hG:gK (s.drop o) most S=G at *
 refine jI ?_;refine abk hN (iR s o most) (xL s o most G) (jx s o) (λR1 hR1=>?_) (λl z hz=>?_)
 ·refine wW ?_;refine gn (y:=Cod.xM) hN (λ_:Unit=>⟨[(0,.aa 65032 0),(2000000,.aa 65032 0)],aG s o most a hv S.out⟩) (λ_=>True) (λR2 hR2=>?_) (λ_ _=>?_)
  ·refine wW ?_;exact hR2 () _ trivial (.le bq)
  exact Dr s o most G ⟨0,[],[],a,hv,S⟩ hN hs ho hm hR ⟨hr,he,hol,by simp⟩ hG (λl' z' st' _ h1 h2=>hR1 l' z' st' h1 h2)
 ·obtain⟨h1,h2⟩:=hz;by_cases l0:l=0
  ·subst l0;rw[if_pos rfl]at h2;refine⟨.seq .skip (.ck Cod.xM),rfl,λR1 hR1=>?_⟩;simp(disch:=omega)only[go_sem,simprocAttr,iR];refine dU hN ?_;exact Dr s o most G z hN hs ho hm hR h1 h2 hR1
  ·rw[if_neg l0]at h2;by_cases l1:l=1
   ·subst l1;rw[if_pos rfl]at h2;refine⟨.seq .skip Cod.Q9,rfl,λR1 hR1=>?_⟩;have ha:=and1 (n:=z.h) (by have:=h1.hl;omega);unfold sX at h2;by_cases hx:z.h%2=1
    ·rw[if_pos hx]at h2;have hi:¬((z.h%2:Nat):Int)=0:=acB;simp(disch:=omega)only[go_sem,simprocAttr,iR,ha,hi,aG];refine hR.le (h':=aG s o most z.a z.hv z.S.out) bq ⟨⟨z.a,z.hv,z.S.out,rfl,?_,λ_=>by rw[<-h2];exact⟨rfl,h1.r⟩⟩,rfl⟩;rw[<-h2,h1.e];rfl
    ·rw[if_neg hx]at h2;have hi:((z.h%2:Nat):Int)=0:=acB;simp(disch:=omega)only[go_sem,simprocAttr,iR,ha,hi,aG];refine hR1 0 z _ (by simp only[jx];omega) ⟨h1,by rw[if_pos rfl];exact h2⟩ (.le ?_);simp(disch:=omega)only[go_sem,simprocAttr,iR,aG,aI]
   ·rw[if_neg l1]at h2;by_cases l2:l=2
    ·subst l2;rw[if_pos rfl]at h2;exact⟨.seq .skip Cod.Dq,rfl,λR1 hR1=>Rb s o most G z hN hs ho hm hR h1 h2.1 h2.2 hR1⟩
    ·rw[if_neg l2]at h2;exact h2.elim
theorem J5 (s:Bs) (a:Nat) (hs:s.length<=1000000000000) (ha:a<=s.length):Eng.Spec Tryz.prog 211 [] [.str s,.int .i64 a] (λh r ar=>h=[(RD,.var (aI s a 0 a))]/\r=.aa RD 0/\ar=[.undef,.undef]):=by
 refine Cod.J6 (λE R hN hR=>?_);have e:max (0:Int) (min (a:Int) (s.length:Int))=a:=acB;refine ah e ?_;exact hR.le (by simp(disch:=omega)only[go_sem,simprocAttr,aI,numAt]) ⟨rfl,rfl,rfl⟩
set_option maxHeartbeats 1000000 in
theorem QU (s:Bs) (o most:Nat) (hs:s.length<=1000000000) (ho:o<=s.length) (hm:most<=65536) :
    aw Tryz.prog 198 [.str s,.int .i64 o,.int .i64 most] (.ab [.str (fq (s.drop o) most).1,.int .i64 ((fq (s.drop o) most).2.1:Nat),.int .i64 ((fq (s.drop o) most).2.2:Nat)]):=by
 refine Cod.QV (λE R hN hR=>?_);have htl:(s.drop o).length=s.length-o:=acK;have hnew:=J5 s o acB ho;have hr0:bD s o 0 (8*o+0):=⟨acB,ho,acB⟩;have hrun:=Ra s o most o 0 ⟨0,[],0⟩ hs ho acB hr0 (by simp) rfl;unfold fq at hR;simp only at hR;generalize hF:gK (s.drop o) most ⟨0,[],0⟩=F at *
 refine wW ?_;refine gG ?_;refine aN [] hnew trivial (λ_=>rfl) ?_;rintro h' v as' ⟨rfl,rfl,rfl⟩;refine⟨bX,rfl,?_⟩;refine wW ?_;refine lE ⟨[(33,.aa 65032 0),(9,.aa 65032 0)],aG s o most o 0 []⟩ (.iW 65032 1 60022 1 [.aa 40014 0,.an,.int .i64 most] rfl rfl rfl (.le ?_)) rfl ?_;exact bq;refine aN (aG s o most o 0 []) hrun bq nofun ?_;rintro h' v ar ⟨⟨a3,hv3,out3,rfl,rfl,hPI⟩,rfl⟩;refine⟨bq,rfl,?_⟩;by_cases he:F.err=0
 ·obtain⟨rfl,hr3⟩:=hPI he;rw[if_neg (by simpa using he)]at hR;have hu:=Yx s a3 hv3 o (8*o+F.p) acB hr3 acB;have e1:(8*o+F.p+7)/8-o=(F.p+7)/8:=acB;rw[e1]at hu;simp only[aI]at hu;refine vD he ?_;refine sA [] vV hu trivial (λ_=>rfl) ?_;rintro h' v ar ⟨rfl,rfl,rfl⟩;refine⟨rfl,rfl,?_⟩;refine wW ?_;exact hR.wk (h':=[]) (r':=.ab [.str F.out,.int .i64 ((F.p+7)/8:Nat),.int .i64 (0:Nat)]) (ar':=[.undef,.undef,.undef]) rfl (.le vV) ⟨rfl,rfl⟩
 ·rw[if_pos he]at hR;have hi:¬((F.err:Nat):Int)=0:=acB;refine ah hi ?_;exact hR.wk (h':=[]) (r':=.ab [.str [],.int .i64 (0:Nat),.int .i64 (F.err:Nat)]) (ar':=[.undef,.undef,.undef]) rfl (.le vV) ⟨rfl,rfl⟩
open Eng Sh
set_option maxRecDepth 10000
theorem Ee {t:Bs} {most:Nat}:∀(k:Nat) (S:SS),Mv t most S (o6 t most k S)
 | 0,_=>.refl
 | k+1,S=>by
  unfold o6;split;exact oK.1;exact oK.1.trans (Ee k _)
theorem Dk (t:Bs) (most:Nat):(fq t most).1.length<=most/\(fq t most).2.1<=t.length:=by
 unfold fq;simp only;have h:=Ee (t:=t) (most:=most) (8*t.length+1-0) ⟨0,[],0⟩;have h1:(gK t most ⟨0,[],0⟩).p<=8*t.length:=h.q (by simp);have h2:(gK t most ⟨0,[],0⟩).out.length<=most:=h.o (by simp);split;exact⟨by simp,by simp⟩;exact⟨h2,by simp only;omega⟩
def dX (t:Bs) (most:Nat):Bs×Nat×Nat:=
 if t.length<2 then([],0,6)else if oE (t.getD 0 0).toNat (t.getD 1 0).toNat=false then([],0,3)else
 if(fq (t.drop 2) most).2.2≠0 then([],0,(fq (t.drop 2) most).2.2)else
 if t.length-(2+(fq (t.drop 2) most).2.1)<4 then([],0,6)else
 if fS ((t.drop (2+(fq (t.drop 2) most).2.1)).take 4)≠dH (fq (t.drop 2) most).1 then([],0,5)else((fq (t.drop 2) most).1,(fq (t.drop 2) most).2.1+6,0)
theorem vJ (t:Bs) (most:Nat):(dX t most).1.length<=most/\(dX t most).2.1<=t.length:=by
 have h:=Dk (t.drop 2) most;rw[acK]at h;unfold dX;split;exact⟨by simp,by simp⟩
 ·split;exact⟨by simp,by simp⟩
  ·split;exact⟨by simp,by simp⟩
   ·split;exact⟨by simp,by simp⟩
    ·split;exact⟨by simp,by simp⟩;exact⟨h.1,by simp only;omega⟩
abbrev zV (Z:Bs×Nat×Nat):AV:=.ab [.str Z.1,.int .i64 (Z.2.1:Nat),.int .i64 (Z.2.2:Nat)]
set_option maxHeartbeats 1000000 in
theorem Hm (s:Bs) (o most:Nat) (hs:s.length<=1000000) (ho:o<=s.length) (hm:most<=65536):aw Tryz.prog 177 [.str s,.int .i64 o,.int .i64 most] (zV (dX (s.drop o) most)):=by
 refine Cod.acv (λE R hN hR=>?_);unfold dX at hR;have hdl:(s.drop o).length=s.length-o:=acK;rw[hdl]at hR;by_cases h2:s.length-o<2
 ·rw[if_pos h2]at hR;have hi:(s.length:Int)-(o:Int)<2:=acB;refine ah hi ?_;refine cB hi ?_;exact hR.ro ⟨rfl,rfl⟩
 ·rw[if_neg h2]at hR;have hi:¬(s.length:Int)-(o:Int)<2:=acB;have gd:∀i,(s.drop o).getD i 0=s.getD (o+i) 0:=λi=>by rw[acC,List.getElem?_drop,<-acC]
  rw[gd,gd,adA]at hR;have hh:=ach (s.getD o 0) (s.getD (o+1) 0);by_cases hb:oE (s.getD o 0).toNat (s.getD (o+1) 0).toNat=false
  ·rw[if_pos hb]at hR;rw[hb]at hh;refine ah hi ?_;refine cB hi ?_;refine aj hh rfl rfl ?_;refine wW ?_;exact hR.ro ⟨rfl,rfl⟩
  ·rw[if_neg hb]at hR;rw[show oE (s.getD o 0).toNat (s.getD (o+1) 0).toNat=true by simpa using hb]at hh;have hinf:=QU s (o+2) most acB acB hm;have hil:=Dk (s.drop (o+2)) most;rw[ad4]at hR;generalize fq (s.drop (o+2)) most=I at *
   rw[acK]at hil;refine ah hi ?_;refine cB hi ?_;refine aj hh rfl rfl ?_;refine wW ?_;refine aj hinf rfl rfl ?_;by_cases he:I.2.2=0
   ·rw[if_neg (by simpa using he)]at hR;by_cases h4:s.length-o-(2+I.2.1)<4
    ·rw[if_pos h4]at hR;have hj:(s.length:Int)-((o:Int)+2+(I.2.1:Int))<4:=acB;refine aV he hj ?_;exact hR.ro ⟨rfl,rfl⟩
    ·rw[if_neg h4]at hR;have hj:¬(s.length:Int)-((o:Int)+2+(I.2.1:Int))<4:=acB;rw[ad4]at hR;have e1:o+(2+I.2.1)=o+2+I.2.1:=acB;rw[e1]at hR;generalize hu:(s.drop (o+2+I.2.1)).take 4=u at *
     have hul:u.length=4:=by rw[<-hu,acJ,acK];omega
     have hfb:=OO u acB;have had:=zW I.1 acB;have hal:=vY I.1
     have hbl:fS u<4294967296:=by
      have:=wo u 4 acB;rw[acF acB]at this;exact this
     have et:((o:Int)+2+(I.2.1:Int)).toNat=o+2+I.2.1:=acB;have et4:((o:Int)+2+(I.2.1:Int)+4).toNat-(o+2+I.2.1)=4:=acB;refine gP he hj et et4 hu ?_;refine aj hfb rfl rfl ?_;refine wW ?_;refine aj had rfl rfl ?_;generalize fS u=x at *
     generalize dH I.1=y at *
     by_cases hxy:x=y
     ·rw[if_neg (by simpa using hxy)]at hR;have hi:((x:Nat):Int)=(y:Int):=acB;refine ah hi ?_;exact hR.ro ⟨rfl,rfl⟩
     ·rw[if_pos hxy]at hR;have hi:¬((x:Nat):Int)=(y:Int):=acB;refine ah hi ?_;exact hR.ro ⟨rfl,rfl⟩
   ·rw[if_pos he]at hR;have hj:¬((I.2.2:Nat):Int)=0:=acB;refine ah hj ?_;exact hR.ro ⟨rfl,rfl⟩
end Go.Proofs.YtgghhaahnpbnmaaGreatDoor.Pk
namespace Go.Proofs.YtgghhaahnpbnmaaGreatDoor.Cod
open Eng Eng.Kz
set_option maxRecDepth 100000
abbrev Wx:=Kf.k1 140 Tryz.func201
abbrev Ww:=Kf.x1 140 Tryz.func201
abbrev WC:AK:=pk (x:=Kc.code Tryz.prog Tryz.f180 141 [] (Kc.lr 1 [.tmp 2,.tmp 3])) _
abbrev WH:=Kf.k1 141 Tryz.func180
abbrev WE:=Kf.x1 141 Tryz.func180
abbrev Wr:AK:=pk (x:=Kc.code Tryz.prog Tryz.f181 142 [] (Kc.lr 1 [.tmp 2])) _
abbrev Wv:=Kf.k1 142 Tryz.func181
abbrev Wt:=Kf.x1 142 Tryz.func181
abbrev pread:AK:=pk (x:=Kc.code Tryz.prog Tryz.f163 143 [] (Kc.dG [2000002,2000003] (Kc.lr 0 [.cell 4 true 7,.cell 5 false 1]))) _
abbrev W6:AK:=pk (x:=pread.x) _
abbrev W7:AK:=pk (x:=pread.y.x) _
abbrev W8:AK:=pk (x:=pread.y.y.y.y.y.y.y.y.y) _
abbrev W9:AK:=pk (x:=pread.y.y.y.y.y.y.y.y.y.y.y.y) _
abbrev Xa:AK:=pk (x:=pread.y.y.y.y.y.y.y.y.x.y.x.y.y) _
abbrev Xb:AK:=pk (x:=pread.y.y.y) _
theorem Xc:gS Tryz.prog 163 143000 24 pread [.cell 4 true 7,.cell 5 false 1]:=⟨_,Tryz.func163,by kernel_rfl⟩
theorem Xd {h a0 a1 Post} (hI:lz Tryz.prog 179 2) (hp:rV Tryz.prog [W6,W7] Xb 179 23 [(.t 4),(.t 5)] 143000 2 [.cell 4 true 7,.cell 5 false 1] [(0,a0),(1,a1)] h Post):Eng.Spec Tryz.prog 163 h [a0,a1] Post:=y9 Xc rfl (adQ rfl) (adQ rfl) hI [(0,a0),(1,a1)] ⟨rfl,rfl,trivial⟩ hp
open Eng Eng.Kz
set_option maxRecDepth 100000
abbrev abD:=Kf.k3 160 Tryz.func91
abbrev abH:=Kf.k3 161 Tryz.func93
abbrev abz:=Kf.k1 162 Tryz.func156
abbrev abF:=Kf.k2 163 Tryz.func128
abbrev abX:=Kf.k1 164 Tryz.func97
abbrev PY:=Kf.k2 165 Tryz.func92
abbrev Rn:=Kf.s3 166 Tryz.func94
abbrev abW:=Kf.s1 167 Tryz.func98
abbrev Qt:=Kf.s1 168 Tryz.func60
abbrev acg:=Kf.s2 169 Tryz.func59
abbrev acx:=Kf.s1 170 Tryz.func26
abbrev Zh:=Kf.s2 177 Tryz.func129
end Go.Proofs.YtgghhaahnpbnmaaGreatDoor.Cod
namespace Go.Proofs.YtgghhaahnpbnmaaGreatDoor.Pk
open Eng
set_option maxRecDepth 10000
def cg (x n:Nat):List Bool:=(List.range n).map x.testBit
theorem fG (x n:Nat):(cg x n).length=n:=by simp[cg]
theorem yp (c:Bool) (b:List Bool):bB (c::b)=2*bB b+c.toNat:=by simp[bB]
theorem qW:∀(a b:List Bool),bB (a++b)=bB a+2^a.length*bB b
 | [],b=>by simp[bB]
 | c::a,b=>by
  rw[acZ,yp,yp,qW a b,acH,aeg];generalize 2^a.length=q;rw[Nat.mul_add,show q*2*bB b=2*(q*bB b)by rw[ae2 q 2,aeH]];omega
theorem Vm (l:List Bool) (m:Nat):bB (l.take m)=bB l%2^m:=by
 by_cases h:m<=l.length
 ·have e:bB l=bB (l.take m)+2^m*bB (l.drop m):=by
   have:=qW (l.take m) (l.drop m)
   rwa[adE,acJ,ac1 h]at this
  have h1:=oO (l.take m);rw[acJ,ac1 h]at h1;rw[e,Nat.add_mul_mod_self_left,acL h1]
 ·rw[acF acB,acL];exact acR (oO l) (acQ (by decide) acB)
theorem Vl (l:List Bool) (m:Nat):bB (l.drop m)=bB l/2^m:=by
 by_cases h:m<=l.length
 ·have e:bB l=bB (l.take m)+2^m*bB (l.drop m):=by
   have:=qW (l.take m) (l.drop m)
   rwa[adE,acJ,ac1 h]at this
  have h1:=oO (l.take m);rw[acJ,ac1 h]at h1;rw[e,Nat.add_mul_div_left _ _ (aeC (by decide)),Nat.div_eq_of_lt h1,adr]
 ·rw[adG acB,Nat.div_eq_of_lt];rfl
  exact acR (oO l) (acQ (by decide) acB)
theorem yq (x:Nat):∀n,bB (cg x n)=x%2^n
 | 0=>by simp[cg,bB,Nat.mod_one]
 | n+1=>by
  have e:cg x (n+1)=cg x n++[x.testBit n]:=by simp[cg,adJ]
  rw[e,Es,yq x n,fG,Gq]
def iI (bs:List Bool) (i:Nat):UInt8:=UInt8.ofNat (bB (bs.drop (8*i)))
def c7 (bs:List Bool) (k:Nat):Bs:=(List.range k).map (iI bs)
theorem kY (bs:List Bool) (k:Nat):(c7 bs k).length=k:=by simp[c7]
theorem EI (bs:List Bool) (k:Nat):c7 bs (k+1)=c7 bs k++[iI bs k]:=by simp[c7,adJ]
theorem EG (bs xs:List Bool) (k:Nat) (h:8*k<=bs.length):c7 (bs++xs) k=c7 bs k:=by
 unfold c7;refine adN (λi hi=>?_);have hi:=adI.1 hi;unfold iI;rw[adq acB,qW];apply aeY.1;rw[ada,ada]
 have:2^(bs.drop (8*i)).length=256*2^((bs.drop (8*i)).length-8):=by
  rw[show(256:Nat)=2^8 by decide,<-ad9]
  congr 1
  rw[acK];omega
 rw[this,aeH];omega
def WR:Nat:=160900
def WO:Nat:=160901
attribute [go_sem] WR WO
def cJ (bs:List Bool) (k:Nat):List AV:=[.sl WO 0 k,.int .u64 (bB (bs.drop (8*k)):Nat),.int .i64 (bs.length-8*k:Nat)]
def cK (bs:List Bool) (k:Nat):HP:=[(WR,.var (cJ bs k)),(WO,.arr 1 ((c7 bs k).map ub))]
def bj (bs:List Bool):HP:=cK bs (bs.length/8)
theorem dq {p:Prop} (h:p:=by simp(disch:=first | omega | (simp only[Lx];omega))only[go_sem,simprocAttr,bj,cK,cJ]):p:=h
theorem G5 {a b:Prop} (k:b) (h:b->a:=by intro h;simp(disch:=first | omega | (simp only[Lx];omega))only[go_sem,simprocAttr,bj,cK,cJ];exact h):a:=h k
theorem vw {E0:Prop} {p:Prop} (e0:E0) (h:E0->p:=by intro e0;simp(disch:=first | omega | (simp only[Lx];omega))only[go_sem,simprocAttr,bj,cK,cJ,e0]):p:=h e0
theorem G6 {E0:Prop} {a b:Prop} (e0:E0) (k:b) (h:E0->b->a:=by intro e0 h;simp(disch:=first | omega | (simp only[Lx];omega))only[go_sem,simprocAttr,bj,cK,cJ,e0];exact h):a:=h e0 k
theorem abr {E0 E1 E2:Prop} {a b:Prop} (e0:E0) (e1:E1) (e2:E2) (k:b) (h:E0->E1->E2->b->a:=by intro e0 e1 e2 h;simp(disch:=first | omega | (simp only[Lx];omega))only[go_sem,simprocAttr,bj,cK,cJ,e0,e1,e2];exact h):a:=h e0 e1 e2 k
theorem abt {E0 E1 E2 E3 E4:Prop} {a b:Prop} (e0:E0) (e1:E1) (e2:E2) (e3:E3) (e4:E4) (k:b) (h:E0->E1->E2->E3->E4->b->a:=by intro e0 e1 e2 e3 e4 h;simp(disch:=first | omega | (simp only[Lx];omega))only[go_sem,simprocAttr,bj,cK,cJ,e0,e1,e2,e3,e4];exact h):a:=h e0 e1 e2 e3 e4 k
theorem A6 (bs:List Bool) (k:Nat):AV.int .u8 (IntKind.u8.wrap ((bB (bs.drop (8*k)):Nat):Int))=ub (iI bs k):=by
 unfold ub iI;rw[ada]
 congr 1
theorem Y0 (x:Nat):((x:Nat):Int).fdiv (2^min 8 64)=((x/2^8:Nat):Int):=by
 rw[show(2:Int)^min 8 64=((2^8:Nat):Int)by decide];rw[ac6 _ acB];rfl
theorem VW {x k b:Nat} (hx:x<2^k) (hk:k<=7) (hb:b<2^32):bits .or .u64 (x:Int) (IntKind.u64.wrap ((b:Int)*2^min k 64))=((x+2^k*b:Nat):Int):=by
 have hp:2^k<=2^7:=acQ (by decide) hk;have h2:b*2^k<=(2^32-1)*2^7:=aeA acB hp
 have e:IntKind.u64.wrap ((b:Int)*2^min k 64)=((b*2^k:Nat):Int):=by
  rw[ac1 acB,show((b:Int)*2^k)=((b*2^k:Nat):Int)by push_cast;rfl];exact wrap_u64 acB
 rw[e]
 show IntKind.u64.wrap ((BitVec.ofInt 64 (x:Int) ||| BitVec.ofInt 64 ((b*2^k:Nat):Int)).toNat:Int)=_
 rw[acM,acM,adR,acP,acP,acL acB,acL acB,afn,<-adj,<-adb hx,adj,aeu,ae2];exact wrap_u64 (by rw[ae2];omega)
theorem px (bs:List Bool) (x n:Nat) (hx:x<2^32) (hn:n<=32) (hb:bs.length<=1000000000000):Eng.Spec Tryz.prog 91 (bj bs) [.aa WR 0,.int .u32 x,.int .i64 n]
    (λh' v ar=>h'=bj (bs++cg x n)/\v=.ab []/\ar=[.aa WR 0,.int .u32 x,.int .i64 n]):=by
 refine Cod.abD (λE R hN hR=>?_);generalize hbs:bs++cg x n=cs at *
 have hl:cs.length=bs.length+n:=by rw[<-hbs,acD,fG]
 have hhv:(bs.length-8*(bs.length/8))<=7:=acB;have hlt:bB (bs.drop (8*(bs.length/8)))<2^(bs.length-8*(bs.length/8)):=by have:=oO (bs.drop (8*(bs.length/8)));rwa[acK]at this
 have hand:=Ae x n acB hn;have hxm:x%2^n<2^32:=aeK (Nat.mod_le _ _) hx;have hor:=VW hlt hhv hxm
 have hnum:bB (cs.drop (8*(bs.length/8)))=bB (bs.drop (8*(bs.length/8)))+2^(bs.length-8*(bs.length/8))*(x%2^n):=by
  rw[<-hbs,adq acB,qW,yq,acK]
 rw[<-hnum]at hor;have gy:c7 bs (bs.length/8)=c7 cs (bs.length/8):=by rw[<-hbs,EG _ _ _ acB]
 refine G5 ?_;refine gG ?_;rw[hand,hor,gy];refine aJ hN (λk:Nat=>⟨[(0,.aa WR 0),(2000000,.aa WR 0),(2000001,.int .u32 x),(2000002,.int .i64 n)],cK cs k⟩) (λk=>8*k<=cs.length/\cs.length-8*k<=39) (λk=>cs.length-8*k) (bs.length/8) (.le ?_) ⟨acB,acB⟩ ?_
 ·simp(disch:=omega)only[go_sem,simprocAttr,cK,cJ,show cs.length-8*(bs.length/8)=bs.length-8*(bs.length/8)+n by omega]
 rintro k R1 ⟨hk,hk2⟩ hR1
 have hnl:bB (cs.drop (8*k))<2^39:=by
  have:=oO (cs.drop (8*k));rw[acK]at this;exact acR this (acQ (by decide) hk2)
 by_cases h8:8<=cs.length-8*k
 ·have hd:bB (cs.drop (8*(k+1)))=bB (cs.drop (8*k))/2^8:=by
   rw[show 8*(k+1)=8*k+8 by omega,<-ad4,Vl]
  have hby:=A6 cs k;have hps:=EI cs k;have aL:=kY cs k;simp(disch:=omega)only[go_sem,simprocAttr,cK,cJ,mg,aL];rw[Y0,<-hd];refine hR1 (k+1) _ acB ⟨acB,acB⟩ (.le ?_);simp(disch:=omega)only[go_sem,simprocAttr,cK,cJ,hps,show cs.length-8*(k+1)=cs.length-8*k-8 by omega];rw[hby];simp
 ·have e:k=cs.length/8:=acB;subst e;simp(disch:=omega)only[go_sem,simprocAttr,cK,cJ];exact hR.le dq ⟨rfl,rfl,rfl⟩
open Eng
set_option maxRecDepth 10000
theorem ny (x k:Nat) (hk:k<=31):((x:Nat):Int).fdiv (2^min k 32)=((x/2^k:Nat):Int):=by
 rw[ac1 acB,show(2:Int)^k=((2^k:Nat):Int)by push_cast;rfl,ac6 _ (Int.natCast_nonneg _)];rfl
theorem T7 (x:Nat):cg x 1=[x%2==1]:=by
 simp[cg,Nat.testBit_zero];rw[Bool.eq_iff_iff];simp
theorem abG (bs:List Bool) (x n:Nat) (hx:x<2^32) (hn:n<=32) (hb:bs.length<=100000000000):Eng.Spec Tryz.prog 93 (bj bs) [.aa WR 0,.int .u32 x,.int .i64 n]
    (λh' v ar=>h'=bj (bs++bitsM x n)/\v=.ab []/\ar=[.aa WR 0,.int .u32 x,.int .i64 n]):=by
 refine Cod.abH (λE R hN hR=>?_);by_cases h0:n=0
 ·subst h0;rw[show bs++bitsM x 0=bs by simp[bitsM]]at hR;refine wW ?_;refine gG ?_;exact hR.le (h':=bj bs) dq ⟨rfl,rfl,rfl⟩
 ·refine wW ?_;refine gG ?_;refine aJ hN (λj:Nat=>⟨[(0,.aa WR 0),(1,.int .u32 x),(6,.int .i64 ((j:Int)-1)),(2000000,.aa WR 0),(2000001,.int .u32 x),(2000002,.int .i64 n)],bj (bs++bitsM (x/2^j) (n-j))⟩) (λj=>j<=n) (λj=>j) n (.le (by simp(disch:=omega)only[go_sem,simprocAttr,show n-n=0 by omega,bitsM,adx,bj,cK,cJ])) acB ?_;rintro j R1 hj hR1
  cases j with
  | zero=>
   rw[show x/2^0=x by simp,ae3];refine wW ?_
   exact hR.le dq ⟨rfl,rfl,rfl⟩
  | succ j=>
   have hs:=ny x j acB;have hq:x/2^j<2^32:=aeK (Nat.div_le_self _ _) hx;have hc:=px (bs++bitsM (x/2^(j+1)) (n-(j+1))) (x/2^j) 1 hq acB (by rw[acD,wq];omega)
   have e:bs++bitsM (x/2^(j+1)) (n-(j+1))++cg (x/2^j) 1=bs++bitsM (x/2^j) (n-j):=by
    rw[ade,T7,show n-j=(n-(j+1))+1 by omega,bitsM,Nat.div_div_eq_div_mul,aeg]
   rw[e,show((1:Nat):Int)=1 from rfl]at hc;simp(disch:=omega)only[go_sem,simprocAttr,show(j:Int)+1-1=j by omega,hs];refine aN (bj (bs++bitsM (x/2^(j+1)) (n-(j+1)))) hc dq nofun ?_;rintro h' v ar ⟨rfl,rfl,rfl⟩;refine⟨dq,rfl,?_⟩;refine wW ?_;exact hR1 j _ acB acB (.le dq)
def dI (bs:List Bool):List Bool:=bs++List.replicate ((8-bs.length%8)%8) false
theorem r8 (bs:List Bool):(dI bs).length=8*((bs.length+7)/8):=by
 simp only[dI,acD,ac3];omega
theorem T8 (n:Nat):cg 0 n=List.replicate n false:=by
 unfold cg;rw[adN (g:=λ_=>false) (λi _=>Nat.zero_testBit i)];simp[List.map_const']
theorem aby (bs:List Bool) (hb:bs.length<=100000000000):Eng.Spec Tryz.prog 156 (bj bs) [.aa WR 0]
    (λh' v ar=>h'=bj (dI bs)/\v=.ab []/\ar=[.aa WR 0]):=by
 refine Cod.abz (λE R hN hR=>?_);have e8:bs.length-8*(bs.length/8)=bs.length%8:=acB;by_cases h0:bs.length%8=0
 ·have e:dI bs=bs:=by simp[dI,h0]
  rw[e]at hR;refine G6 e8 ?_;exact hR.le (vw e8) ⟨rfl,rfl,rfl⟩
 ·have hc:=px bs 0 (8-bs.length%8) (by decide) acB acB;have e:bs++cg 0 (8-bs.length%8)=dI bs:=by rw[T8,dI,acL (show 8-bs.length%8<8 by omega)]
  rw[e]at hc;have ei:((8-bs.length%8:Nat):Int)=8-((bs.length%8:Nat):Int):=acB;rw[ei,show((0:Nat):Int)=0 from rfl]at hc;have hg:(0:Int)<((bs.length%8:Nat):Int):=acB;refine G6 e8 ?_;refine aN (bj bs) hc (vw e8) nofun ?_;rintro h' v ar ⟨rfl,rfl,rfl⟩;refine⟨dq,rfl,?_⟩;refine wW ?_;exact hR.le dq ⟨rfl,rfl,rfl⟩
theorem Kt (a:List Bool) (s:Bs) (k i:Nat) (ha:a.length=8*k) (hi:i<s.length):iI (a++aX s 0) (k+i)=s.getD i 0:=by
 unfold iI;apply aeY.1;rw[ada,afh,adG acB,adf,show 8*(k+i)-a.length=8*i by omega]
 have h1:(aX s 0).drop (8*i)=aX s (8*i):=by
  unfold aX;apply adW;intro j;simp only[List.getElem?_drop,List.getElem?_map,List.getElem?_range',ae3,adr];by_cases h:8*i+j<8*s.length
  ·rw[List.getElem?_range h,List.getElem?_range acB];rfl
  ·rw[List.getElem?_eq_none (by simp;omega),List.getElem?_eq_none (by simp;omega)];rfl
 rw[h1,<-Vm,yo s (8*i) 8 acB,kW]
theorem EH (a:List Bool) (s:Bs) (k:Nat) (ha:a.length=8*k):c7 (a++aX s 0) (k+s.length)=c7 a k++s:=by
 apply adW;intro j;by_cases hj:j<k
 ·rw[List.getElem?_append_left (by rw[kY];exact hj)];have:=congrArg (λl=>l[j]?) (EG a (aX s 0) k acB);rw[<-this];unfold c7;rw[List.getElem?_map,List.getElem?_map,List.getElem?_range acB,List.getElem?_range hj]
 ·rw[List.getElem?_append_right (by rw[kY];omega),kY];unfold c7;by_cases hj2:j<k+s.length
  ·rw[List.getElem?_map,List.getElem?_range hj2,ac7,show j=k+(j-k)by omega,Kt a s k (j-k) ha acB,acC,List.getElem?_eq_getElem acB,show k+(j-k)-k=j-k by omega,List.getElem?_eq_getElem acB];rfl
  ·rw[List.getElem?_eq_none (by simp;omega),List.getElem?_eq_none acB]
theorem abE (bs:List Bool) (s:Bs) (hb:bs.length<=10000000000) (hs:s.length<=1000000000):Eng.Spec Tryz.prog 128 (bj bs) [.aa WR 0,.str s]
    (λh' v ar=>h'=bj (dI bs++aX s 0)/\v=.ab []/\ar=[.aa WR 0,.str s]):=by
 refine Cod.abF (λE R hN hR=>?_);have hal:=r8 bs;have hrl:=lg s 0;generalize hk:(bs.length+7)/8=k at *
 have ek:(dI bs).length/8=k:=acB;have hl:(dI bs++aX s 0).length=8*(k+s.length):=by rw[acD,hal,hrl];omega
 have el:(dI bs++aX s 0).length/8=k+s.length:=acB;have hpb:=EH (dI bs) s k hal;have hn1:bB ((dI bs).drop (8*k))=0:=by rw[adG acB];rfl
 have hn2:bB ((dI bs++aX s 0).drop (8*(k+s.length)))=0:=by rw[adG acB];rfl
 have aL:=kY (dI bs) k;refine wW ?_;refine aN (bj bs) (aby bs acB) dq nofun ?_;rintro h' v ar ⟨rfl,rfl,rfl⟩;refine⟨dq,rfl,?_⟩;simp(disch:=omega)only[go_sem,simprocAttr,bj,cK,cJ,ek,mg,aL,show(dI bs).length-8*k=0 by omega,hn1];refine hR.le ?_ ⟨rfl,rfl,rfl⟩;simp(disch:=omega)only[go_sem,simprocAttr,bj,cK,cJ,el,show(dI bs++aX s 0).length-8*(k+s.length)=0 by omega,hn2];rw[<-acD,el,hpb]
def eV (bs:List Bool):Bs:=c7 bs ((bs.length+7)/8)
theorem A7 (l:Bs):bytesOf (l.map ub)=l:=by
 simp[bytesOf,adD];refine(adN (λc _=>?_)).trans (List.map_id l);simp[ub,byteOfAV]
theorem z6 (l:Bs):gw (l.map ub)=true:=by simp[gw,ub,jy]
theorem Hf (bs:List Bool) (hb:bs.length<=100000000000):Eng.Spec Tryz.prog 97 (bj bs) [.aa WR 0]
    (λh' v ar=>h'=bj bs/\v=.str (eV bs)/\ar=[.aa WR 0]):=by
 refine Cod.abX (λE R hN hR=>?_);have e8:bs.length-8*(bs.length/8)=bs.length%8:=acB;have aL:=kY bs (bs.length/8);have hbp:=A7 (c7 bs (bs.length/8));have hba:=z6 (c7 bs (bs.length/8));by_cases h0:bs.length%8=0
 ·have e:eV bs=c7 bs (bs.length/8):=by unfold eV;congr 1;omega
  rw[e]at hR;refine abt e8 @mg aL hbp hba ?_;exact hR.le (vw e8) ⟨rfl,rfl,rfl⟩
 ·have e:eV bs=c7 bs (bs.length/8)++[iI bs (bs.length/8)]:=by unfold eV;rw[show(bs.length+7)/8=bs.length/8+1 by omega,EI]
  rw[e]at hR;have hg:(0:Int)<((bs.length%8:Nat):Int):=acB;have hby:=A6 bs (bs.length/8);have hb1:bytesOf [.int .u8 ((iI bs (bs.length/8)).toNat:Int)]=[iI bs (bs.length/8)]:=A7 [_];have hb2:gw [.int .u8 ((iI bs (bs.length/8)).toNat:Int)]=true:=z6 [_];simp(disch:=omega)only[go_sem,simprocAttr,bj,cK,cJ,e8,mg,aL,hbp,hba,hby,hb1,hb2];exact hR.le (vw e8) ⟨rfl,rfl,rfl⟩
theorem Fw (l:List Nat) {s t:Nat} (hs:s<l.length) (ht:t<l.length) (he:l.getD s 0=l.getD t 0) (hr:gj l s=gj l t):s=t:=by
 have key:∀{s t:Nat},s<l.length->t<l.length->l.getD s 0=l.getD t 0->s<t->gj l s<gj l t:=by
  intro s t hs ht he hlt;unfold gj;rw[<-he];have h1:=Bm (l.take t) (s+1) (l.getD s 0);rw[List.take_take,ac1 acB,dS l 0 hs,qa,if_pos rfl]at h1;omega
 rcases Nat.lt_trichotomy s t with h | h | h
 ·have:=key hs ht he h;omega
 exact h
 ·have:=key ht hs he.symm h;omega
def lQ (l:List Nat) (m:Nat):Nat:=if m=0 then 0 else fstL l m+bG l m
theorem PS (l:List Nat) (m:Nat):fstL l (m+1)=2*lQ l m:=by
 cases m with
 | zero=>rfl
 | succ m=>simp[lQ,fstL]
theorem C2 (l:List Nat) (hl:∀n∈l,n<=15) (hll:l.length<=320) (hck:bw l=true) (s:Nat) (hs:s<l.length) (h1:1<=l.getD s 0) :
    aw Tryz.prog 92 [aZ l,.int .i64 s] (.ab [.int .u32 (cz l s:Nat),.int .i64 (l.getD s 0:Nat)]):=by
 have hc:dp l<=32768:=by unfold bw at hck;simp at hck;exact hck.1
 refine Cod.PY (λE R hN hR=>?_);have h15:=nf hl s;have hsl:=mc l 15;have htl:=Gz l;have hts:=GA l;have hnl:=dN (sortL l 15);have hnl0:=dN l;have hns:=j7 hs;have hsub:=vn l;have hcl:=kC l;have ht0:(eO l).getD 0 .undef=.ro 1 (aF l):=rfl;generalize hL:l.getD s 0=L at *
 have hrk:=ri l hs;rw[hL]at hrk;have hne:¬((L:Int)=0):=acB;simp(disch:=omega)only[go_sem,simprocAttr,aZ,htl,hts,ht0,hnl,hnl0,hns,hne];refine gG ?_
 refine aJ hN (λm:Nat=>⟨[(0,.ao (.agg (eO l))),(1,.int .i64 s),(6,.int .u32 (lQ l m:Nat)),(7,.int .i64 (bh l (m+1):Nat)),(8,.int .i64 ((m:Int)+1)),(2000000,.ao (.agg (eO l))),(2000001,.int .i64 s)],[]⟩)
  (λm=>m<L) (λm=>L-m) 0 (.le (by simp(disch:=omega)only[go_sem,simprocAttr,lQ,bh])) acB ?_
 rintro m R1 hm hR1;have hf:=PS l m;have hkr:=tZ hc (n:=m+1) acB acB;have hk2:2^(m+1)<=2^15:=acQ (by decide) acB;have hcg:=mI l (n:=m+1) acB;have ecast:((m:Int)+1).toNat=m+1:=acB
 have hsh:IntKind.u32.wrap (((lQ l m:Nat):Int)*2^min 1 32)=((fstL l (m+1):Nat):Int):=by
  rw[hf]
  show(((lQ l m:Nat):Int)*2)%4294967296=_
  omega
 refine gP htl hsub hcl ecast hcg ?_;rw[hsh];generalize hF:fstL l (m+1)=F at *
 generalize hC:bG l (m+1)=C at *
 refine aJ hN (λk:Nat=>⟨[(0,.ao (.agg (eO l))),(1,.int .i64 s),(6,.int .u32 ((F+k:Nat):Int)),(7,.int .i64 ((bh l (m+1)+k:Nat):Int)),(8,.int .i64 ((m:Int)+1)),(41,.int .i64 C),(42,.int .i64 k),(2000000,.ao (.agg (eO l))),(2000001,.int .i64 s)],[]⟩)
  (λk=>k<=C/\(m+1=L->k<=gj l s)) (λk=>C-k) 0 (.le vV) ⟨acB,λ_=>by omega⟩ ?_
 rintro k R2 ⟨hk,hk1⟩ hR2
 have hp15:bh l (m+1)+C<=(sortL l 15).length:=by
  rw[hsl,<-hC];have:=oW l (m+2) (14-m);rw[show m+2+(14-m)=16 by omega]at this;exact this
 have hp16:(sortL l 15).length<=320:=by rw[hsl,uK l hl];exact adt aeO hll
 by_cases hlt:k<C
 ·obtain⟨s',g1,g2,g3,g4⟩:=va l (N:=15) (n:=m+1) (k:=k) acB acB acB;have hnth:=j7 (xs:=sortL l 15) (i:=bh l (m+1)+k) acB;rw[g1]at hnth;have ei:((bh l (m+1):Int)+(k:Int)).toNat=bh l (m+1)+k:=acB;refine gP htl hts hnl ei hnth ?_;by_cases hss:s'=s
  ·subst hss;have hmL:m+1=L:=by rw[<-g3,hL]
   have hcw:cz l s'=F+k:=by unfold cz;rw[hL,<-hmL,g4,hF]
   rw[hcw]at hR;subst hmL;refine wW ?_;exact hR.ro ⟨rfl,by push_cast;rfl⟩
  ·have hrne:m+1=L->k+1<=gj l s:=λe=>by
    have h3:=hk1 e;have:k≠gj l s:=λe2=>hss (Fw l g2 hs (by rw[g3,hL,e]) (by rw[g4,e2]));omega
   simp(disch:=omega)only[go_sem,simprocAttr,show ¬((s':Int)=s)by omega];exact hR2 (k+1) _ acB ⟨acB,hrne⟩ (.le vV)
 ·obtain rfl:k=C:=acB
  have hmL:m+1≠L:=λe=>by
   have h3:=hk1 e;rw[e]at hC;omega
  have hh:lQ l (m+1)=F+k:=by simp[lQ,hF,hC]
  have hpr:bh l (m+1+1)=bh l (m+1)+k:=by rw[<-hC];rfl
  refine wW ?_;exact hR1 (m+1) _ acB acB (.le (lv hh hpr))
theorem Dx (F most n:Nat) (B:Nat->Nat×Nat) (hF:callable Tryz.prog F=true) (hm:most<=100) (hn:n<=1000000) (hB:∀i,i<=most->aw Tryz.prog F [.int .i64 i] (.ab [.int .i64 ((B i).1:Nat),.int .i64 ((B i).2:Nat)])) (h0:(B 0).1<=n) (hbb:∀i,i<=most->(B i).1<=1000000) :
    Eng.Spec Tryz.prog 94 [] [.int .i64 n,.int .i64 most,.lit (.func (.func F) #[] #[])]
     (λh r _=>h=[]/\∃i,i<=most/\(B i).1<=n/\(∀j,i<j->j<=most->n<(B j).1)/\r=.ab [.int .i64 i,.int .u32 ((n-(B i).1:Nat)),.int .i64 ((B i).2:Nat)]):=by
 refine Cod.Rn (λE R hN hR=>?_);refine wW ?_;refine aJ hN (λi:Nat=>⟨[(0,.int .i64 n),(2,.lit (.func (.func F) #[] #[])),(9,.int .i64 i)],[]⟩) (λi=>i<=most/\∀j,i<j->j<=most->n<(B j).1) (λi=>i) most (.le vV) ⟨acB,λj h1 h2=>by omega⟩ ?_;rintro i R1 ⟨hi,hup⟩ hR1;have hbi:=hbb i hi;refine wW ?_;refine s8 hF (aj (hB i hi) rfl rfl ?_);refine wW ?_;by_cases hle:(B i).1<=n
 ·refine wW ?_;rw[show(n:Int)-((B i).1:Int)=((n-(B i).1:Nat):Int)by omega];exact hR.ro ⟨rfl,i,hi,hle,hup,rfl⟩
 ·have hi0:i≠0:=λe=>by subst e;omega
  refine wW ?_
  exact hR1 (i-1) _ acB ⟨acB,λj h1 h2=>by
   by_cases e:j=i
   ·subst e;omega
   ·exact hup j acB h2⟩ (.le (by simp(disch:=omega)only[go_sem,simprocAttr,show((i-1:Nat):Int)=(i:Int)-1 by omega]))
theorem Gb (x n:Nat) (hx:x<9223372036854775808) (hn:n<=8):aw Tryz.prog 129 [.int .u64 x,.int .i64 n] (.str (bA x n)):=by
 refine Cod.Zh (λE R hN hR=>?_);have em:max (n:Int) 0=n:=acB;refine ah em ?_;refine aJ hN (λk:Nat=>⟨[(0,.int .u64 x),(5,.sl 177024 0 k),(8,.int .i64 n),(9,.int .i64 k)],[(177024,.arr 1 ((bA x k).map ub))]⟩) (λk=>k<=n) (λk=>n-k) 0 (.nil 5 177024 1 rfl (.le (by simp(disch:=omega)only[go_sem,simprocAttr,show bA x 0=[]from rfl,aef]))) acB ?_;rintro k R1 hk hR1;have hl:=gZ x k;by_cases hlt:k<n
 ·have hct:=T2 x k
  have hsh:(x:Int).fdiv (2^min ((8*(k:Int)).toNat) 64)=((x/256^k:Nat):Int):=by
   have e1:(8*(k:Int)).toNat=8*k:=acB;rw[e1,ac1 acB,ac6 _ (ael (by decide)),show(256:Nat)=2^8 from rfl,<-Nat.pow_mul]
   norm_cast
  generalize x/256^k=y at *
  have e3:IntKind.u8.wrap (y:Int)=((UInt8.ofNat (y%256)).toNat:Int):=by
   rw[ada]
   show(y:Int)%256=_
   omega
  have e8:¬(8:Int)<=(k:Int):=acB;refine cI e8 hsh e3 ?_;exact hR1 (k+1) _ acB acB (.le (by rw[hct];simp(disch:=omega)only[go_sem,simprocAttr];simp[ub]))
 ·obtain rfl:k=n:=acB;refine wW ?_;exact hR.wk (h':=[]) (r':=.str (bA x k)) (ar':=[.undef,.undef]) rfl (.le vV) ⟨rfl,rfl⟩
def nB (s:Bs):List Bool:=dI (cg 1 3)++aX (bA s.length 2++bA (65535-s.length) 2++s) 0
def lk (s:Bs):Bs:=eV (nB s)
theorem zg (s:Bs):(lk s).length=s.length+5:=by
 have h1:(dI (cg 1 3)).length=8:=by rw[r8,fG]
 have h2:=lg (bA s.length 2++bA (65535-s.length) 2++s) 0;simp only[acD,gZ]at h2;unfold lk eV nB;rw[kY,acD,h1,h2];omega
theorem ab6 (n:Nat) (h:n<=65535):bits .xor .i64 (n:Int) 65535=((65535-n:Nat):Int):=by
 show IntKind.i64.wrap ((BitVec.ofInt 64 (n:Int) ^^^ BitVec.ofInt 64 ((65535:Nat):Int)).toNat:Int)=_
 rw[acM,acM,afi,acP,acP,acL acB,acL acB]
 have e:n ^^^ 65535=65535-n:=by
  apply Nat.eq_of_testBit_eq;intro i;rw[Nat.testBit_xor,show(65535:Nat)=2^16-1 by decide,Nat.testBit_two_pow_sub_one,show 2^16-1-n=2^16-(n+1)by omega,Nat.testBit_two_pow_sub_succ acB];by_cases hi:i<16
  ·simp[hi]
  ·simp[hi,Nat.testBit_lt_two_pow (show n<2^i from acR (show n<2^16 by omega) (acQ (by decide) acB))]
 rw[e];exact IntWalk.i64_in _ acB
theorem abV (s:Bs) (hs:s.length<=65535):aw Tryz.prog 98 [.str s] (.str (lk s)):=by
 refine Cod.abW (λE R hN hR=>?_);have hmin:min (s.length:Int) 65535=s.length:=acB;have hx:=ab6 s.length hs;have hl1:=Gb s.length 2 acB acB;have hl2:=Gb (65535-s.length) 2 acB acB;have hll1:=gZ s.length 2;have hll2:=gZ (65535-s.length) 2;have htk:s.take s.length=s:=acF (acG _);have hb1:=px [] 1 3 (by decide) (by decide) (by decide);rw[adf,show((1:Nat):Int)=1 from rfl,show((3:Nat):Int)=3 from rfl]at hb1;rw[show((2:Nat):Int)=2 from rfl]at hl1 hl2;have hb2:=abE (cg 1 3) (bA s.length 2++bA (65535-s.length) 2++s) (by rw[fG];decide) (by simp only[acD,gZ];omega)
 have hb3:=Hf (nB s) (by
  unfold nB;rw[acD,r8,fG,lg];simp only[acD,gZ]
  omega)
 unfold lk at hR;refine wW ?_;refine aJ hN (λ_:Unit=>⟨[(0,.str s),(3,.aa WR 0)],bj []⟩) (λ_=>True) (λ_=>0) () (.iZ 167003 WR rfl rfl (.iW WR 0 WO 1 [.an,.int .u64 0,.int .i64 0] rfl rfl rfl (.le ?_))) trivial ?_
 ·simp(disch:=omega)only[go_sem,simprocAttr,bj,cK,cJ,bB,c7];simp
 rintro _ R1 _ hR1;refine aV @Eng.jn hmin ?_;refine dU hN ?_;refine wW ?_;refine aN (bj []) hb1 dq nofun ?_;rintro h' v ar ⟨rfl,rfl,rfl⟩;refine⟨dq,rfl,?_⟩;refine abr hx htk hmin ?_;refine aj hl1 rfl rfl ?_;refine wW ?_;refine aj hl2 rfl rfl ?_;refine aV hll1 hll2 ?_;refine aN (bj (cg 1 3)) hb2 dq nofun ?_;rintro h' v ar ⟨rfl,rfl,rfl⟩;refine⟨dq,rfl,?_⟩;refine G5 ?_;refine aN (bj (nB s)) hb3 (by simp(disch:=omega)only[go_sem,simprocAttr,bj,cK,cJ,nB]) nofun ?_;rintro h' v ar ⟨rfl,rfl,rfl⟩;refine⟨dq,rfl,?_⟩;refine wW ?_;exact hR.ro ⟨rfl,rfl⟩
theorem lN:ba.length=288:=by decide +kernel
theorem lM:∀n∈ba,n<=15:=by decide +kernel
theorem mR:bw ba=true:=by decide +kernel
theorem mT:∀s,s<288->1<=ba.getD s 0:=by decide +kernel
theorem ti:bU.length=32:=by decide +kernel
theorem th:∀n∈bU,n<=15:=by decide +kernel
theorem xo:bw bU=true:=by decide +kernel
theorem xp:∀s,s<32->1<=bU.getD s 0:=by decide +kernel
theorem x9:∀i,i<=28->(bx i).1<=258/\(bx i).2<=5:=by decide +kernel
theorem wX:∀i,i<=29->(bT i).1<=32768/\(bT i).2<=13:=by decide +kernel
structure nQ (s:Bs) (p n b:Nat):Prop where
 n3:3<=n
 n258:n<=258
 b1:1<=b
 An:b<=32768
 bp:b<=p
 len:p+n<=s.length
 eq:∀t,t<n->s.getD (p-b+t) 0=s.getD (p+t) 0
structure vS (n b i j:Nat):Prop where
 i28:i<=28
 il:(bx i).1<=n
 iu:∀k,i<k->k<=28->n<(bx k).1
 DA:j<=29
 jl:(bT j).1<=b
 ju:∀k,j<k->k<=29->b<(bT k).1
def lf (n b i j:Nat):List Bool:=aK ba (257+i)++cg (n-(bx i).1) (bx i).2++aK bU j++cg (b-(bT j).1) (bT j).2
inductive je (s:Bs):Nat->List Bool->Prop
 | nil:je s 0 (cg 3 3)
 | lit (p:Nat) (bs:List Bool):je s p bs->p<s.length->je s (p+1) (bs++aK ba (s.getD p 0).toNat)
 | rep (p:Nat) (bs:List Bool) (n b i j:Nat):je s p bs->nQ s p n b->vS n b i j->je s (p+n) (bs++lf n b i j)
theorem tj (s:Nat):(aK ba s).length<=15:=by rw[lF];exact nf lM s
theorem Cx (s:Nat):(aK bU s).length<=15:=by rw[lF];exact nf th s
theorem XD {n b i j:Nat} (h:vS n b i j):(lf n b i j).length<=48:=by
 have h1:=tj (257+i);have h2:=Cx j;have h3:=x9 i h.i28;have h4:=wX j h.DA;simp only[lf,acD,fG];omega
theorem Nu {s:Bs} {p:Nat} {bs:List Bool} (h:je s p bs):bs.length<=3+48*p:=by
 induction h with
 | nil=>rw[fG];omega
 | lit p bs h hp ih=>
  have:=tj (s.getD p 0).toNat
  rw[acD];omega
 | rep p bs n b i j h hr hs ih=>
  have:=XD hs;have:=hr.n3;rw[acD];omega
def mq (s t:Bs):Prop:=(∃bs,je s s.length bs/\t=eV (bs++aK ba 256)/\t.length<s.length+5)\/t=lk s
theorem BH {s t:Bs} (h:mq s t):t.length<=s.length+5:=by
 rcases h with⟨_,_,_,h⟩ | rfl;omega
 ·rw[zg];omega
def nP (l:List (MK×AV)) (p:Nat):Prop:=∀kv∈l,∃n:Nat,kv.2=.int .i64 n/\n<p
theorem EZ {k:MK} {v:AV}:∀{l:List (MK×AV)},mfind l k=some v->∃k',(k',v)∈l
 | (k0,v0)::r,h=>by
  simp only[mfind]at h;split at h;exact⟨k0,by rw[<-Option.some.inj h];exact acU ..⟩
  ·obtain⟨k',h'⟩:=EZ h;exact⟨k',acV _ h'⟩
theorem E6 {k:MK} {v:AV}:∀{l:List (MK×AV)} {x:MK×AV},x∈mput l k v->x∈l\/x=(k,v)
 | [],x,h=>.inr (by simpa[mput]using h)
 | (k0,v0)::r,x,h=>by
  simp only[mput]at h;split at h
  ·rcases acW.1 h with h | h;exact .inr h;exact .inl (acV _ h)
  ·rcases acW.1 h with h | h;exact .inl (by rw[h];exact acU ..)
   ·rcases E6 h with h | h;exact .inl (acV _ h);exact .inr h
theorem E7 {l:List (MK×AV)} {p q:Nat} (h:nP l p) (hpq:p<=q):nP l q:=λkv hk=>by
 obtain⟨n,h1,h2⟩:=h kv hk;exact⟨n,h1,acB⟩
theorem WU {l:List (MK×AV)} {p:Nat} {k:MK} (h:nP l p):nP (mput l k (.int .i64 p)) (p+1):=λkv hk=>by
 rcases E6 hk with hk | rfl
 ·obtain⟨n,h1,h2⟩:=h kv hk;exact⟨n,h1,acB⟩
 exact⟨p,rfl,acB⟩
def hD (bs:List Bool) (l:List (MK×AV)):HP:=[(WR,.var (cJ bs (bs.length/8))),(WO,.arr 1 ((c7 bs (bs.length/8)).map ub)),(168027,.mp none l)]
theorem vE (l:List Nat) (s:Nat) (bs:List Bool) (hl:∀n∈l,n<=15) (hck:bw l=true) (hs:s<l.length) (h1:1<=l.getD s 0) (hb:bs.length<=10000000000) :
    Eng.Spec Tryz.prog 93 (bj bs) [.aa WR 0,.int .u32 (cz l s:Nat),.int .i64 (l.getD s 0:Nat)]
     (λh' v ar=>h'=bj (bs++aK l s)/\v=.ab []/\ar=[.aa WR 0,.int .u32 (cz l s:Nat),.int .i64 (l.getD s 0:Nat)]):=by
 have hc:dp l<=32768:=by unfold bw at hck;simp at hck;exact hck.1
 have h15:=nf hl s;have hlt:=Bx hc hs h1 h15;have hp:2^l.getD s 0<=2^15:=acQ (by decide) h15;have:=abG bs (cz l s) (l.getD s 0) acB acB acB;rw[show bitsM (cz l s) (l.getD s 0)=aK l s by unfold aK;rw[if_neg acB]]at this;exact this
set_option maxHeartbeats 4000000 in
theorem Qs (s:Bs) (hs:s.length<=65535):Eng.Spec Tryz.prog 60 [] [.str s] (λh r _=>h=[]/\∃t,mq s t/\r=.str t):=by
 refine Cod.Qt (λE R hN hR=>?_);have hbh:=px [] 3 3 (by decide) (by decide) (by decide);rw[adf,show((3:Nat):Int)=3 from rfl]at hbh;have hcL:∀k:Nat,k<288->aw Tryz.prog 92 [aZ ba,.int .i64 k] (.ab [.int .u32 (cz ba k:Nat),.int .i64 (ba.getD k 0:Nat)]):=λk hk=>C2 ba lM (by rw[lN];decide) mR k (by rw[lN];exact hk) (mT k hk);have hcD:∀k:Nat,k<32->aw Tryz.prog 92 [aZ bU,.int .i64 k] (.ab [.int .u32 (cz bU k:Nat),.int .i64 (bU.getD k 0:Nat)]):=λk hk=>C2 bU th (by rw[ti];decide) xo k (by rw[ti];exact hk) (xp k hk);have hfx:=Dg;unfold aZ at hcL hcD hfx;generalize AV.agg (eO ba)=TL at *
 generalize AV.agg (eO bU)=TD at *
 refine wW ?_;refine lE ⟨[(0,.str s),(3,.aa WR 0)],bj []⟩ (.iZ 168003 WR rfl rfl (.iW WR 0 WO 1 [.an,.int .u64 0,.int .i64 0] rfl rfl rfl (.le ?_))) rfl ?_
 ·simp(disch:=omega)only[go_sem,simprocAttr,bj,cK,cJ,bB,c7];simp
 refine aj hfx rfl rfl ?_;refine wW ?_;refine aN (bj []) hbh dq nofun ?_;rintro h' v ar ⟨rfl,rfl,rfl⟩;refine⟨dq,rfl,?_⟩;refine wW ?_;refine aJ hN (λq:Nat×List Bool×List (MK×AV)=>⟨[(0,.str s),(3,.aa WR 0),(4,.ao TL),(5,.ao TD),(6,.ptr 168027 0 0),(7,.int .i64 q.1)],hD q.2.1 q.2.2⟩) (λq=>q.1<=s.length/\je s q.1 q.2.1/\nP q.2.2 q.1) (λq=>s.length-q.1) (0,cg 3 3,[]) (.le ?_) ⟨acB,.nil,λkv hk=>by cases hk⟩ ?_
 ·simp(disch:=omega)only[go_sem,simprocAttr,hD,bj,cK,cJ]
 rintro⟨p,bs,l⟩ R1 ⟨hp,henc,aL⟩ hR1;simp only at hp henc aL;have hbl:=Nu henc;by_cases hlt:p<s.length
 ·refine wW ?_;refine gn hN (λq:Nat×Nat×List (MK×AV)=>⟨[(0,.str s),(3,.aa WR 0),(4,.ao TL),(5,.ao TD),(6,.ptr 168027 0 0),(7,.int .i64 p),(8,.int .i64 q.1),(9,.int .i64 q.2.1)],hD bs q.2.2⟩) (λq=>nP q.2.2 (p+1)/\(q.1<3\/nQ s p q.1 q.2.1)) (λR2 hR2=>?_) ?_
  ·by_cases h3:p+3<=s.length
   ·refine wW ?_;refine gn hN (λq:Nat×Nat=>⟨[(0,.str s),(3,.aa WR 0),(4,.ao TL),(5,.ao TD),(6,.ptr 168027 0 0),(7,.int .i64 p),(8,.int .i64 q.1),(9,.int .i64 q.2)],hD bs l⟩) (λq=>q.1<3\/nQ s p q.1 q.2) (λR3 hR3=>?_) ?_
    ·cases hf:mfind l (MK.s (List.take (((p:Int)+3).toNat-p) (List.drop p s)))with
     | none=>
      simp(disch:=omega)only[go_sem,simprocAttr,hD,hf];refine gG ?_
      exact hR3 (0,0) _ (.inl (by decide)) (.le (by simp(disch:=omega)only[go_sem,simprocAttr,hD]))
     | some v=>
      obtain⟨k',hk'⟩:=EZ hf;obtain⟨a,ha,hat⟩:=aL _ hk';simp only at ha;subst ha;by_cases h32:p-a<=32768
      ·have h32':(p:Int)-(a:Int)<=32768:=acB;simp(disch:=omega)only[go_sem,simprocAttr,hD,hf,h32'];refine gG ?_;refine aJ hN (λn:Nat=>⟨[(0,.str s),(3,.aa WR 0),(4,.ao TL),(5,.ao TD),(6,.ptr 168027 0 0),(7,.int .i64 p),(8,.int .i64 n),(10,.int .i64 a)],hD bs l⟩) (λn=>n<=258/\p+n<=s.length/\∀t,t<n->s.getD (a+t) 0=s.getD (p+t) 0) (λn=>258-n) 0 (.le (by simp(disch:=omega)only[go_sem,simprocAttr,hD])) ⟨acB,acB,λt ht=>by omega⟩ ?_;rintro n R4 ⟨hn1,hn2,hn3⟩ hR4
       have fin:n<3\/nQ s p n (p-a):=by
        by_cases h:n<3;exact .inl h;exact .inr ⟨acB,hn1,acB,h32,acB,hn2,λt ht=>by rw[show p-(p-a)+t=a+t by omega];exact hn3 t ht⟩
       have ei1:((a:Int)+(n:Int)).toNat=a+n:=acB;have ei2:((p:Int)+(n:Int)).toNat=p+n:=acB;have ep:((p-a:Nat):Int)=(p:Int)-(a:Int):=acB;have hgo:=hR3 (n,p-a);by_cases g1:n<258
       ·by_cases g2:p+n<s.length
        ·by_cases g3:s.getD (a+n) 0=s.getD (p+n) 0
         ·have g3':((s.getD (a+n) 0).toNat:Int)=((s.getD (p+n) 0).toNat:Int):=by rw[g3]
          refine cI ei1 ei2 g3' ?_;refine gG ?_
          exact hR4 (n+1) _ acB ⟨acB,acB,λt ht=>by
           by_cases e:t=n
           ·subst e;exact g3
           ·exact hn3 t acB⟩ (.le (by simp(disch:=omega)only[go_sem,simprocAttr,hD]))
         ·have g3':¬((s.getD (a+n) 0).toNat:Int)=((s.getD (p+n) 0).toNat:Int):=λe=>g3 (aeY.1 acB);refine cI ei1 ei2 g3' ?_;refine gG ?_;exact hgo _ fin (.le (by simp(disch:=omega)only[go_sem,simprocAttr,hD,ep]))
        ·refine wW ?_;refine gG ?_;exact hgo _ fin (.le (by simp(disch:=omega)only[go_sem,simprocAttr,hD,ep]))
       ·refine wW ?_;refine gG ?_;exact hgo _ fin (.le (by simp(disch:=omega)only[go_sem,simprocAttr,hD,ep]))
      ·have h32':¬(p:Int)-(a:Int)<=32768:=acB;simp(disch:=omega)only[go_sem,simprocAttr,hD,hf,h32'];refine gG ?_;exact hR3 (0,0) _ (.inl (by decide)) (.le (by simp(disch:=omega)only[go_sem,simprocAttr,hD]))
    ·rintro⟨n,b⟩ hnb;simp only at hnb;simp(disch:=omega)only[go_sem,simprocAttr,hD];exact hR2 (n,b,mput l (MK.s (List.take (((p:Int)+3).toNat-p) (List.drop p s))) (.int .i64 p)) _ ⟨WU aL,hnb⟩ (.le (by simp(disch:=omega)only[go_sem,simprocAttr,hD]))
   ·refine wW ?_;exact hR2 (0,0,l) _ ⟨E7 aL acB,.inl (show(0:Nat)<3 by decide)⟩ (.le (by simp(disch:=omega)only[go_sem,simprocAttr,hD]))
  ·rintro⟨n,b,l'⟩ ⟨hpl',hnb⟩;simp only at hpl' hnb;by_cases hn:n<3
   ·have hc:=(s.getD p 0).toNat_lt;have hw:IntKind.i64.wrap ((s.getD p 0).toNat:Int)=((s.getD p 0).toNat:Int):=IntWalk.i64_in _ acB;have hcode:=hcL (s.getD p 0).toNat acB;have hwr:=vE ba (s.getD p 0).toNat bs lM mR (by rw[lN];omega) (mT _ acB) acB;refine ah hw ?_;refine aj hcode rfl rfl ?_;refine wW ?_;refine aN (bj bs) hwr (by simp(disch:=omega)only[go_sem,simprocAttr,hD,bj,cK,cJ]) nofun ?_;rintro h' v ar ⟨rfl,rfl,rfl⟩;refine⟨dq,rfl,?_⟩;simp(disch:=omega)only[go_sem,simprocAttr,hD];exact hR1 (p+1,_,l') _ (by simp only;omega) ⟨by simp only;omega,.lit p bs henc hlt,hpl'⟩ (.le (by simp(disch:=omega)only[go_sem,simprocAttr,hD,bj,cK,cJ]))
   ·have hrep:=hnb.resolve_left hn;have hn258:=hrep.n258;have hb32:=hrep.An;have hplen:=hrep.len;have hs1:=Dx 95 28 n bx (by kernel_rfl) (by decide) acB (λi hi=>Dh i hi) (by have:=hrep.n3;simp[bx];omega) (λi hi=>by have:=x9 i hi;omega);have hs2:=Dx 96 29 b bT (by kernel_rfl) (by decide) acB (λi hi=>Dd i hi) (by have:=hrep.b1;simp[bT];omega) (λi hi=>by have:=wX i hi;omega);rw[show((28:Nat):Int)=28 from rfl]at hs1;rw[show((29:Nat):Int)=29 from rfl]at hs2;refine wW ?_;refine dJ hs1 rfl ?_;rintro h' v ar ⟨rfl,i,hi,hil,hiu,rfl⟩;refine⟨rfl,rfl,?_⟩;have hi5:=x9 i hi;have hcode:=hcL (257+i) acB;have hw1:=vE ba (257+i) bs lM mR (by rw[lN];omega) (mT _ acB) acB;have hl1:=tj (257+i);have hw2:=px (bs++aK ba (257+i)) (n-(bx i).1) (bx i).2 acB acB (by rw[acD];omega);rw[show((257+i:Nat):Int)=257+(i:Int)by push_cast;rfl]at hcode;refine wW ?_;refine aj hcode rfl rfl ?_;refine wW ?_;refine aN (bj bs) hw1 (by simp(disch:=omega)only[go_sem,simprocAttr,hD,bj,cK,cJ]) nofun ?_;rintro h' v ar ⟨rfl,rfl,rfl⟩;refine⟨dq,rfl,?_⟩;simp(disch:=omega)only[go_sem,simprocAttr,hD];refine aN (bj (bs++aK ba (257+i))) hw2 (by simp(disch:=omega)only[go_sem,simprocAttr,hD,bj,cK,cJ]) nofun ?_;rintro h' v ar ⟨rfl,rfl,rfl⟩;refine⟨dq,rfl,?_⟩;refine wW ?_;refine dJ hs2 rfl ?_;rintro h' v ar ⟨rfl,j,hj,hjl,hju,rfl⟩;refine⟨rfl,rfl,?_⟩;have hj5:=wX j hj;have hcode2:=hcD j acB;have hl2:=Cx j;have hb2:(bs++aK ba (257+i)++cg (n-(bx i).1) (bx i).2).length<=9999999999:=by simp only[acD,fG];omega
    generalize hbs2:bs++aK ba (257+i)++cg (n-(bx i).1) (bx i).2=bs2 at *
    have hw3:=vE bU j bs2 th xo (by rw[ti];omega) (xp _ acB) acB;have hw4:=px (bs2++aK bU j) (b-(bT j).1) (bT j).2 acB acB (by rw[acD];omega);refine wW ?_;refine aj hcode2 rfl rfl ?_;refine wW ?_;refine aN (bj bs2) hw3 (by simp(disch:=omega)only[go_sem,simprocAttr,hD,bj,cK,cJ]) nofun ?_;rintro h' v ar ⟨rfl,rfl,rfl⟩;refine⟨dq,rfl,?_⟩;simp(disch:=omega)only[go_sem,simprocAttr,hD];refine aN (bj (bs2++aK bU j)) hw4 (by simp(disch:=omega)only[go_sem,simprocAttr,hD,bj,cK,cJ]) nofun ?_;rintro h' v ar ⟨rfl,rfl,rfl⟩;refine⟨dq,rfl,?_⟩;refine wW ?_;have henc2:=je.rep p bs n b i j henc hrep ⟨hi,hil,hiu,hj,hjl,hju⟩;have heq:bs++lf n b i j=bs2++aK bU j++cg (b-(bT j).1) (bT j).2:=by rw[<-hbs2];simp[lf]
    rw[heq]at henc2;exact hR1 (p+n,_,l') _ (by have:=hrep.n3;simp only;omega) ⟨by simp only;omega,henc2,E7 hpl' (by have:=hrep.n3;simp only;omega)⟩ (.le (by simp(disch:=omega)only[go_sem,simprocAttr,hD,bj,cK,cJ]))
 ·obtain rfl:p=s.length:=acB;have hcode:=hcL 256 (by decide);have hw:=vE ba 256 bs lM mR (by rw[lN];decide) (mT _ (by decide)) acB;have hl1:=tj 256;have ht:=Hf (bs++aK ba 256) (by rw[acD];omega);have hst:=abV s hs;have hsl:=zg s;rw[show((256:Nat):Int)=256 from rfl]at hcode;refine wW ?_;refine aj hcode rfl rfl ?_;refine wW ?_;refine aN (bj bs) hw (by simp(disch:=omega)only[go_sem,simprocAttr,hD,bj,cK,cJ]) nofun ?_;rintro h' v ar ⟨rfl,rfl,rfl⟩;refine⟨dq,rfl,?_⟩;simp(disch:=omega)only[go_sem,simprocAttr,hD];refine aN (bj (bs++aK ba 256)) ht (by simp(disch:=omega)only[go_sem,simprocAttr,hD,bj,cK,cJ]) nofun ?_;rintro h' v ar ⟨rfl,rfl,rfl⟩;refine⟨dq,rfl,?_⟩;refine wW ?_;refine aj hst rfl rfl ?_;by_cases hlen:(eV (bs++aK ba 256)).length<s.length+5
  ·refine ah hsl ?_;exact hR.ro ⟨rfl,_,.inl ⟨bs,henc,rfl,hlen⟩,rfl⟩
  ·refine ah hsl ?_;refine aj hst rfl rfl ?_;refine wW ?_;exact hR.ro ⟨rfl,_,.inr rfl,rfl⟩
theorem Qh {l:List Nat} (hc:dp l<=32768) (hl:∀n∈l,n<=15) {b:List Bool} {s t:Nat} (hs:s<l.length) (ht:t<l.length) (h1:eK b (aK l s)=true) (h2:eK b (aK l t)=true):s=t:=by
 have key:∀{s t:Nat},s<l.length->t<l.length->eK b (aK l s)=true->eK b (aK l t)=true->l.getD s 0<l.getD t 0->False:=by
  intro s t hs ht h1 h2 hlt;obtain⟨a1,a2,a3⟩:=(lS hc hl b hs).1 h1;obtain⟨b1,b2,b3⟩:=(lS hc hl b ht).1 h2;have hr:=ri l hs;obtain⟨k,hk⟩:∃k,l.getD t 0=l.getD s 0+k:=⟨l.getD t 0-l.getD s 0,acB⟩;have hm:=(yi b (l.getD s 0) k acB).2;have hf:=tr l (l.getD s 0) k a1;rw[if_neg acB,adA]at hf;rw[<-hk]at hm hf;rw[a3,b3]at hm;have h4:(cz l s+1)*2^k<=(fstL l (l.getD s 0)+bG l (l.getD s 0))*2^k:=ac4 _ (by unfold cz;omega);have h5:fstL l (l.getD t 0)<=cz l t:=by unfold cz;omega
  omega
 rcases Nat.lt_trichotomy (l.getD s 0) (l.getD t 0)with h | h | h;exact(key hs ht h1 h2 h).elim
 ·obtain⟨a1,a2,a3⟩:=(lS hc hl b hs).1 h1;obtain⟨b1,b2,b3⟩:=(lS hc hl b ht).1 h2;rw[h]at a3;refine Fw l hs ht h ?_;have:cz l s=cz l t:=by rw[<-a3,b3]
  unfold cz at this;rw[h]at this;omega
 exact(key ht hs h2 h1 h).elim
theorem Xt {l:List Nat} (hck:bw l=true) (hl:∀n∈l,n<=15) {s:Nat} (hs:s<l.length) (h1:1<=l.getD s 0) (R:List Bool):readL (bH l) (aK l s++R)=(s,(aK l s).length,0):=by
 have hc:dp l<=32768:=by unfold bw at hck;simp at hck;exact hck.1
 have hlen:=lF l s
 have hh:eK (aK l s++R) (aK l s)=true:=by
  unfold eK
  have:(aK l s).isEmpty=false:=by
   cases h:aK l s with
   | nil=>rw[h,ac9]at hlen;omega
   | cons=>rfl
  rw[this];simp[aex]
 unfold readL;rw[Cw hs hh (λt ht h=>Qh hc hl ht hs h hh)];simp only[Bo l hs]
theorem o0 {t:Bs} {p:Nat} {A R:List Bool} (h:aX t p=A++R):aX t (p+A.length)=R:=by
 have e:aX t (p+A.length)=(aX t p).drop A.length:=by
  unfold aX;apply adW;intro j;simp only[List.getElem?_drop,List.getElem?_map];by_cases hj:p+A.length+j<8*t.length
  ·rw[List.getElem?_range acB,List.getElem?_range acB]
   show some (ir t (p+A.length+j))=some (ir t (p+(A.length+j)))
   rw[adC]
  ·rw[List.getElem?_eq_none (by simp;omega),List.getElem?_eq_none (by simp;omega)];rfl
 rw[e,h,List.drop_left]
theorem lh {t:Bs} {p:Nat} {A R:List Bool} (h:aX t p=A++R) (hp:p<=8*t.length):p+A.length<=8*t.length:=by
 have:=lg t p;rw[h,acD]at this;omega
theorem Ev {t:Bs} {p x n:Nat} {R:List Bool} (h:aX t p=cg x n++R) (hp:p<=8*t.length) (hx:x<2^n):numAt t p n=x:=by
 have hr:=lh h hp;rw[fG]at hr;rw[<-yo t p n hr,h,ae1 (fG x n),yq,acL hx]
theorem Eu {t:Bs} {x n:Nat} {R:List Bool} {S:SS} (h:aX t S.p=cg x n++R) (hp:S.p<=8*t.length) (hx:x<2^n) (he:S.err=0):bI t n S=(x,{S with p:=S.p+n}):=by
 have hr:=lh h hp;rw[fG]at hr;rw[iC he hr,Ev h hp hx]
theorem vg {t:Bs} {l:List Nat} (hck:bw l=true) (hl:∀n∈l,n<=15) {s:Nat} (hs:s<l.length) (h1:1<=l.getD s 0) {R:List Bool} {S:SS} (h:aX t S.p=aK l s++R) (he:S.err=0) :
    bO t l S=(s,{S with p:=S.p+(aK l s).length}):=by
 have hr:=Xt hck hl hs h1 R;rw[<-h]at hr;rw[rK he (by rw[hr]),hr]
theorem TX:∀i,i<28->(bx (i+1)).1-(bx i).1<=2^(bx i).2:=by decide +kernel
theorem MJ:∀j,j<29->(bT (j+1)).1-(bT j).1<=2^(bT j).2:=by decide +kernel
theorem Av {s:Bs} {most p q n b:Nat} (hr:nQ s q n b) (hm:s.length<=most):∀(m k:Nat),k+m=n->backS most b m ⟨p,s.take (q+k),0⟩=⟨p,s.take (q+n),0⟩
 | 0,k,h=>by
  rw[show k=n by omega]
  rfl
 | m+1,k,h=>by
  have hl:=hr.len;have hb:=hr.bp;have hb1:=hr.b1;have htl:(s.take (q+k)).length=q+k:=by rw[acJ];omega
  have hget:(s.take (q+k)).getD (q+k-b) 0=s.getD (q+k) 0:=by
   rw[acC,List.getElem?_take,if_pos acB,<-acC,show q+k-b=q-b+k by omega];exact hr.eq k acB
  have hsn:=dS s 0 (show q+k<s.length by omega);rw[backS];simp only[htl,hget,fw];rw[if_neg (by simp),if_neg (by simp),if_neg acB,<-hsn];exact Av hr hm m (k+1) acB
theorem T4 {s t:Bs} {most p q:Nat} {R:List Bool} (hp:p<=8*t.length) (hq:q<s.length) (hm:s.length<=most) (h:aX t p=aK ba (s.getD q 0).toNat++R) :
    ee t most ba bU ⟨p,s.take q,0⟩=(false,⟨p+(aK ba (s.getD q 0).toNat).length,s.take (q+1),0⟩):=by
 have hc:=(s.getD q 0).toNat_lt;have hsy:=vg (S:=⟨p,s.take q,0⟩) mR lM (by rw[lN];omega) (mT _ acB) h rfl;have htl:(s.take q).length=q:=by rw[acJ];omega
 have hsn:=dS s 0 hq;unfold ee;simp only[hsy];rw[if_neg (by simp),if_neg acB,if_pos acB];unfold fw;simp only[htl];rw[if_neg (by simp),if_neg acB,aew,<-hsn]
theorem XF {s t:Bs} {most p q n b i j:Nat} {R:List Bool} (hp:p<=8*t.length) (hm:s.length<=most) (hr:nQ s q n b) (hs:vS n b i j) (h:aX t p=lf n b i j++R) :
    ee t most ba bU ⟨p,s.take q,0⟩=(false,⟨p+(lf n b i j).length,s.take (q+n),0⟩):=by
 have hi:=hs.i28;have hj:=hs.DA;have hil:=hs.il;have hjl:=hs.jl;have h258:=hr.n258;have h32:=hr.An
 have hnx:n-(bx i).1<2^(bx i).2:=by
  by_cases e:i=28
  ·subst e;have:bx 28=(258,0):=rfl;rw[this]at hil |-;simp only at hil |-;omega
  ·have h1:=TX i acB;have h2:=hs.iu (i+1) acB acB;omega
 have hbx:b-(bT j).1<2^(bT j).2:=by
  by_cases e:j=29
  ·subst e;have:bT 29=(24577,13):=rfl;rw[this]at hjl |-;simp only at hjl |-;omega
  ·have h1:=MJ j acB;have h2:=hs.ju (j+1) acB acB;omega
 unfold lf at h;simp only[ade]at h;have g1:=o0 h;have r1:=lh h hp;have g2:=o0 g1;have r2:=lh g1 r1;have g3:=o0 g2;have r3:=lh g2 r2;have hsy:=vg (S:=⟨p,s.take q,0⟩) mR lM (by rw[lN];omega) (mT _ acB) h rfl;have hn1:=Eu (S:=⟨p+(aK ba (257+i)).length,s.take q,0⟩) g1 r1 hnx rfl;have hsd:=vg (S:=⟨p+(aK ba (257+i)).length+(bx i).2,s.take q,0⟩) (l:=bU) (s:=j) xo th (by rw[ti];omega) (xp _ acB) (by simp only;rw[fG]at g2;exact g2) rfl;rw[fG]at g3 r2 r3;have hn2:=Eu (S:=⟨p+(aK ba (257+i)).length+(bx i).2+(aK bU j).length,s.take q,0⟩) g3 r3 hbx rfl;have htl:(s.take q).length=q:=by have:=hr.len;rw[acJ];omega
 unfold ee;simp only[hsy];rw[if_neg (by simp),if_neg acB,if_neg acB];unfold ja;rw[if_neg acB,show 257+i-257=i by omega];simp only[hn1,hsd,hn2];rw[if_neg (by simp),if_neg acB,if_neg (by simp),htl,if_neg (by have:=hr.bp;omega),show(bx i).1+(n-(bx i).1)=n by omega,show(bT j).1+(b-(bT j).1)=b by omega];have hb:=Av (p:=p+(aK ba (257+i)).length+(bx i).2+(aK bU j).length+(bT j).2) hr hm n 0 acB;rw[adA]at hb;rw[hb];simp only[lf,acD,fG,adC]
theorem Nr {s t:Bs} {most p0:Nat} (hm:s.length<=most) (hp0:p0<=8*t.length) {q:Nat} {bs:List Bool} (h:je s q bs):∀R,aX t p0=bs++R->q<=s.length/\gh t most ba bU ⟨p0+3,[],0⟩=gh t most ba bU ⟨p0+bs.length,s.take q,0⟩:=by
 induction h with
 | nil=>intro R _;exact⟨acB,by rw[fG];rfl⟩
 | lit q bs h hq ih=>
  intro R hR;rw[ade]at hR;obtain⟨_,h2⟩:=ih _ hR;refine⟨acB,h2.trans ?_⟩;have hr:=lh hR hp0
  rw[uC (by simpa using hr),T4 hr hq hm (o0 hR),if_neg (by simp),if_neg (by simp),acD,adC]
 | rep q bs n b i j h hrep hs ih=>
  intro R hR;rw[ade]at hR;obtain⟨_,h2⟩:=ih _ hR;refine⟨hrep.len,h2.trans ?_⟩;have hr:=lh hR hp0;rw[uC (by simpa using hr),XF hr hm hrep hs (o0 hR),if_neg (by simp),if_neg (by simp),acD,adC]
theorem XM (B:List Bool) (r:Bs):∃R,aX (eV B++r) 0=B++R:=by
 refine⟨(aX (eV B++r) 0).drop B.length,?_⟩;have hl:(eV B).length=(B.length+7)/8:=kY _ _
 have e:(aX (eV B++r) 0).take B.length=B:=by
  apply adW;intro j;by_cases hj:j<B.length
  ·rw[List.getElem?_take,if_pos hj];unfold aX;rw[List.getElem?_map,List.getElem?_range (by rw[acD,hl];omega),ac7,adr,List.getElem?_eq_getElem hj]
   congr 1
   unfold ir;rw[acC,List.getElem?_append_left (by rw[hl];omega)];unfold eV c7;rw[List.getElem?_map,List.getElem?_range acB,ac7,ads];unfold iI;rw[ada,show(2:Nat)^8=2^8 from rfl,Nat.testBit_mod_two_pow];have h8:j%8<8:=adV _ (by decide);rw[decide_eq_true h8,aeU]
   have key:∀(l:List Bool) (k:Nat),(bB l).testBit k=l.getD k false:=by
    intro l
    induction l with
    | nil=>intro k;simp[bB]
    | cons c l ih=>
     intro k;rw[yp]
     cases k with
     | zero=>cases c<;>simp[Nat.testBit_zero]<;>omega
     | succ k=>
      rw[Nat.testBit_succ,show(2*bB l+c.toNat)/2=bB l by cases c<;>simp<;>omega,ih k]
      rfl
   rw[key,acC,List.getElem?_drop,show 8*(j/8)+j%8=j by omega,List.getElem?_eq_getElem hj];rfl
  ·rw[List.getElem?_eq_none (by rw[acJ];omega),List.getElem?_eq_none acB]
 conv=>lhs;rw[<-adE B.length (aX (eV B++r) 0),e]
end Go.Proofs.YtgghhaahnpbnmaaGreatDoor.Pk
