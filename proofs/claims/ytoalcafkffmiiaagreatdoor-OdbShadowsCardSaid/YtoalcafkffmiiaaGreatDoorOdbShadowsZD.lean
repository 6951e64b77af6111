/- The proof, part 30 of 43. -/
import Derived.Test.YtoalcafkffmiiaaGreatDoorOdbShadowsZB
import Derived.Test.YtoalcafkffmiiaaGreatDoorOdbShadowsZC
import Derived.Test.YtoalcafkffmiiaaGreatDoorProg
import Derived.KernelRfl
set_option linter.all false
namespace Go.Proofs.YtoalcafkffmiiaaGreatDoor.Pk
open Eng
set_option maxRecDepth 10000
def RD:Nat:=40014
attribute [go_sem] RD
def aY (s:Bs) (a hv fr:Nat):List AV:=[.str s,.int .i64 a,.int .u64 (numAt s (8*a-hv) hv:Nat),.int .i64 hv,.int .i64 fr]
theorem cv {p:Prop} (h:p:=by simp(disch:=first | omega | (simp only[Lx];omega))only[go_sem,simprocAttr,aY]):p:=h
theorem jf {a b:Prop} (k:b) (h:b->a:=by intro h;simp(disch:=first | omega | (simp only[Lx];omega))only[go_sem,simprocAttr,aY];exact h):a:=h k
theorem ayi {E0:Prop} {a b:Prop} (e0:E0) (k:b) (h:E0->b->a:=by intro e0 h;simp(disch:=first | omega | (simp only[Lx];omega))only[go_sem,simprocAttr,aY,e0];exact h):a:=h e0 k
theorem vt {E0 E1:Prop} {a b:Prop} (e0:E0) (e1:E1) (k:b) (h:E0->E1->b->a:=by intro e0 e1 h;simp(disch:=first | omega | (simp only[Lx];omega))only[go_sem,simprocAttr,aY,e0,e1];exact h):a:=h e0 e1 k
theorem ayj {E0 E1 E2:Prop} {a b:Prop} (e0:E0) (e1:E1) (e2:E2) (k:b) (h:E0->E1->E2->b->a:=by intro e0 e1 e2 h;simp(disch:=first | omega | (simp only[Lx];omega))only[go_sem,simprocAttr,aY,e0,e1,e2];exact h):a:=h e0 e1 e2 k
structure bN (s:Bs) (a hv p:Nat):Prop where
 h1:hv<=39
 h2:a<=s.length
 h3:p+hv=8*a
theorem tU {x k b:Nat} (hx:x<2^k) (hk:k<=56) (hb:b<256):bits .or .u64 (x:Int) (IntKind.u64.wrap ((b:Int)*2^min k 64))=((x+b*2^k:Nat):Int):=by
 have hp:2^k<=2^56:=aBg (by decide) hk;have h2:b*2^k<2^64:=Nat.lt_of_le_of_lt (aDn (show b<=255 by omega) hp) (by decide)
 have h3:x+b*2^k<2^64:=by
  have:(b+1)*2^k<=256*2^56:=aDn aA4 hp;rw[aCt]at this;omega
 have e:IntKind.u64.wrap ((b:Int)*2^min k 64)=((b*2^k:Nat):Int):=by
  rw[aBC aA4,show((b:Int)*2^k)=((b*2^k:Nat):Int)by push_cast;rfl];exact wrap_u64 aA4
 rw[e]
 show IntKind.u64.wrap ((BitVec.ofInt 64 (x:Int) ||| BitVec.ofInt 64 ((b*2^k:Nat):Int)).toNat:Int)=_
 rw[aBl,aBl,aCw,aBm,aBm,aBh aA4,aBh h2,Nat.or_comm,<-aB8,<-aBU hx,aB8,aDm];exact wrap_u64 aA4
theorem yb (s:Bs) (a hv fr p n:Nat) (hs:s.length<=1000000000000) (h:bN s a hv p) (hn:n<=32):Eng.Spec Tryz.prog 260 [(RD,.var (aY s a hv fr))] [.ab RD 0,.int .i64 n]
    (λh' v ar=>∃a' hv',bN s a' hv' p/\(n<=hv'\/a'=s.length)/\h'=[(RD,.var (aY s a' hv' fr))]/\v=.ai []/\ar=[.ab RD 0,.int .i64 n]):=by
 refine Cod.Ng (λE R hN hR=>?_);refine wW ?_;refine aZ hN (λq:Nat×Nat=>⟨[(0,.ab RD 0),(1,.int .i64 n),(2000000,.ab RD 0),(2000001,.int .i64 n)],[(RD,.var (aY s q.1 q.2 fr))]⟩) (λq=>bN s q.1 q.2 p) (λq=>s.length-q.1) (a,hv) (.le cv) h ?_;rintro⟨a,hv⟩ R1 ⟨h1,h2,h3⟩ hR1;simp only at h1 h2 h3;by_cases hlt:hv<n
 ·by_cases hat:a<s.length
  ·have hb:=(s.getD a 0).toNat_lt;have ho:=tU (gb s (8*a-hv) hv) (show hv<=56 by omega) (b:=(s.getD a 0).toNat) aA4;have hf:=aby s a hv aA4;rw[<-hf]at ho;refine jf ?_;refine gG ?_;rw[ho];exact hR1 (a+1,hv+8) _ (by simp only;omega) ⟨by simp only;omega,by simp only;omega,by simp only;omega⟩ (.le (by simp(disch:=omega)only[go_sem,simprocAttr,aY,show 8*(a+1)-(hv+8)=8*a-hv by omega]))
  ·refine jf ?_;refine gG ?_;exact hR.le cv ⟨a,hv,⟨h1,h2,h3⟩,.inr aA4,rfl,rfl,rfl⟩
 ·refine jf ?_;refine gG ?_;exact hR.le cv ⟨a,hv,⟨h1,h2,h3⟩,.inl aA4,rfl,rfl,rfl⟩
theorem FJ (x n:Nat) (hx:x<2^64) (hn:n<=32):bits .and .u64 (x:Int) (IntKind.u64.wrap (IntKind.u64.wrap (1*2^min n 64)-1))=((x%2^n:Nat):Int):=by
 have hp:2^n<=2^32:=aBg (by decide) hn;have hp1:0<2^n:=Nat.pow_pos (by decide)
 have e:IntKind.u64.wrap (IntKind.u64.wrap (1*2^min n 64)-1)=((2^n-1:Nat):Int):=by
  have e1:IntKind.u64.wrap (1*2^n)=((2^n:Nat):Int):=by
   rw[show((1:Int)*2^n)=((2^n:Nat):Int)by rw[Int.one_mul];push_cast;rfl];exact wrap_u64 aA4
  rw[aBC aA4,e1,show(((2^n:Nat):Int)-1)=((2^n-1:Nat):Int)by omega];exact wrap_u64 aA4
 rw[e]
 show IntKind.u64.wrap ((BitVec.ofInt 64 (x:Int) &&& BitVec.ofInt 64 ((2^n-1:Nat):Int)).toNat:Int)=_
 rw[aBl,aBl,aCC,aBm,aBm,aBh hx,aBh aA4,aBY];have:=aCD x hp1;exact wrap_u64 aA4
def dm (s:Bs) (p:Nat):Nat:=8*s.length-p
theorem afn (s:Bs) (a hv fr p n:Nat) (hs:s.length<=1000000000000) (h:bN s a hv p) (hn:n<=32):Eng.Spec Tryz.prog 241 [(RD,.var (aY s a hv fr))] [.ab RD 0,.int .i64 n]
    (λh' v ar=>∃a' hv',bN s a' hv' p/\(n<=hv'\/a'=s.length)/\h'=[(RD,.var (aY s a' hv' fr))]/\v=.ai [.int .u32 (numAt s p (min n hv'):Nat),.int .i64 (min n hv':Nat)]/\ar=[.ab RD 0,.int .i64 n]):=by
 refine Cod.afo (λE R hN hR=>?_);refine wW ?_;refine gG ?_;refine aR [(RD,.var (aY s a hv fr))] (yb s a hv fr p n hs h hn) vV nofun ?_;rintro h' v ar ⟨a',hv',⟨h1,h2,h3⟩,hor,rfl,rfl,rfl⟩;refine⟨cv,rfl,?_⟩;have hx:=gb s p hv';have hx2:numAt s p hv'<2^64:=aBi hx (aBg (by decide) aA4);have ha:=FJ (numAt s p hv') n hx2 hn
 have e1:numAt s p hv'%2^n=numAt s p (min n hv'):=by
  by_cases hh:n<=hv'
  ·rw[aBC hh,qy s p hh]
  ·rw[aDb aA4,aBh (aBi hx (aBg (by decide) aA4))]
 rw[e1]at ha;have hx3:numAt s p (min n hv')<2^32:=aBi (gb s p _) (aBg (by decide) aA4);have ew:IntKind.u32.wrap ((numAt s p (min n hv'):Nat):Int)=(numAt s p (min n hv'):Nat):=wrap_u32 aA4;have em:min (n:Int) (hv':Int)=((min n hv':Nat):Int):=aA4;simp(disch:=omega)only[go_sem,simprocAttr,aY,show 8*a'-hv'=p by omega,ha,ew,em];exact hR.le (by simp(disch:=omega)only[go_sem,simprocAttr,aY,show 8*a'-hv'=p by omega]) ⟨a',hv',⟨h1,h2,h3⟩,hor,rfl,rfl,rfl⟩
theorem auF (s:Bs) (a hv fr p n:Nat) (hs:s.length<=1000000000000) (h:bN s a hv p) (hn:n<=32):Eng.Spec Tryz.prog 242 [(RD,.var (aY s a hv fr))] [.ab RD 0,.int .i64 n]
    (λh' v ar=>∃a' hv',bN s a' hv' (if n<=dm s p then p+n else p)/\h'=[(RD,.var (aY s a' hv' fr))]/\v=.bool (decide (n<=dm s p))/\ar=[.ab RD 0,.int .i64 n]):=by
 refine Cod.auG (λE R hN hR=>?_);refine wW ?_;refine gG ?_;refine aR [(RD,.var (aY s a hv fr))] (yb s a hv fr p n hs h hn) vV nofun ?_;rintro h' v ar ⟨a',hv',⟨h1,h2,h3⟩,hor,rfl,rfl,rfl⟩;refine⟨cv,rfl,?_⟩;by_cases hlt:hv'<n
 ·have hno:¬n<=dm s p:=by unfold dm;rcases hor with ho | ho<;>omega
  refine jf ?_;exact hR.le cv ⟨a',hv',by rw[if_neg hno];exact⟨h1,h2,h3⟩,rfl,by rw[decide_eq_false hno],rfl⟩
 ·have hyes:n<=dm s p:=by unfold dm;omega
  have hd:((numAt s p hv':Nat):Int).fdiv (2^min n 64)=((numAt s (p+n) (hv'-n):Nat):Int):=by
   rw[aBC aA4,<-nG s p (show n<=hv' by omega),aBI _ (aC7 (by decide)),aCU,aCL];rfl
  simp(disch:=omega)only[go_sem,simprocAttr,aY,show 8*a'-hv'=p by omega,hd];refine hR.le ?_ ⟨a',hv'-n,by rw[if_pos hyes];exact⟨aA4,h2,aA4⟩,rfl,by rw[decide_eq_true hyes],rfl⟩;rw[show((hv':Int)-(n:Int))=((hv'-n:Nat):Int)by omega];simp(disch:=omega)only[go_sem,simprocAttr,aY,show 8*a'-(hv'-n)=p+n by omega]
theorem qJ (s:Bs) (a hv fr p n:Nat) (hs:s.length<=1000000000000) (h:bN s a hv p) (hn:n<=32):Eng.Spec Tryz.prog 230 [(RD,.var (aY s a hv fr))] [.ab RD 0,.int .i64 n]
    (λh' v ar=>∃a' hv',bN s a' hv' (if n<=dm s p then p+n else p)/\h'=[(RD,.var (aY s a' hv' fr))]/\v=.ai [.int .u32 (if n<=dm s p then numAt s p n else 0:Nat),.bool (decide (n<=dm s p))]/\ar=[.ab RD 0,.int .i64 n]):=by
 refine Cod.ao7 (λE R hN hR=>?_);refine wW ?_;refine aR [(RD,.var (aY s a hv fr))] (afn s a hv fr p n hs h hn) vV nofun ?_;rintro h' v ar ⟨a',hv',h1,hor,rfl,rfl,rfl⟩;refine⟨cv,rfl,?_⟩;refine wW ?_;refine aR [(RD,.var (aY s a' hv' fr))] (auF s a' hv' fr p n hs h1 hn) vV nofun ?_;rintro h' v ar ⟨a2,hv2,h2,rfl,rfl,rfl⟩;refine⟨cv,rfl,?_⟩;by_cases hyes:n<=dm s p
 ·have hm:min n hv'=n:=by
   have:=h1.h3;have:=h1.h2;unfold dm at hyes;rcases hor with ho | ho<;>omega
  refine bl hyes hm ?_;exact hR.le vV ⟨a2,hv2,h2,rfl,by rw[if_pos hyes,decide_eq_true hyes],rfl⟩
 ·refine au hyes ?_;exact hR.le vV ⟨a2,hv2,h2,rfl,by rw[if_neg hyes,decide_eq_false hyes];rfl,rfl⟩
def cH (p:Nat):Nat:=(p+7)/8*8
theorem Eg {a hv p:Nat} (h:p+hv=8*a):cH p=8*(a-hv/8):=by unfold cH;omega
theorem aoT (s:Bs) (a hv fr p:Nat) (hs:s.length<=1000000000000) (h:bN s a hv p):Eng.Spec Tryz.prog 261 [(RD,.var (aY s a hv fr))] [.ab RD 0]
    (λh' v ar=>∃hv',bN s a hv' (cH p)/\hv'=8*(hv/8)/\h'=[(RD,.var (aY s a hv' fr))]/\v=.ai []/\ar=[.ab RD 0]):=by
 refine Cod.aoU (λE R hN hR=>?_);obtain⟨h1,h2,h3⟩:=h;have hp:8*a-hv=p:=aA4;have em:(hv:Int).tmod 8=((hv%8:Nat):Int):=by rw[iD aA4];omega
 have hd:((numAt s p hv:Nat):Int).fdiv (2^min (hv%8) 64)=((numAt s (p+hv%8) (hv-hv%8):Nat):Int):=by
  rw[aBC aA4,<-nG s p (show hv%8<=hv by omega),aBI _ (aC7 (by decide)),aCU,aCL];rfl
 refine ayj em hp hd ?_;refine hR.le ?_ ⟨8*(hv/8),⟨aA4,h2,by unfold cH;omega⟩,rfl,rfl,rfl,rfl⟩;rw[show((hv:Int)-((hv%8:Nat):Int))=((8*(hv/8):Nat):Int)by omega,show hv-hv%8=8*(hv/8)by omega];simp(disch:=omega)only[go_sem,simprocAttr,aY,show 8*a-8*(hv/8)=p+hv%8 by omega]
theorem ur (s:Bs) (a hv fr p:Nat) (n:Nat) (hs:s.length<=1000000000000) (hn:n<=1000000000000) (h:bN s a hv p):Eng.Spec Tryz.prog 243 [(RD,.var (aY s a hv fr))] [.ab RD 0,.int .i64 n]
    (λh' v ar=>∃a' hv',bN s a' hv' (if n<=s.length-cH p/8 then cH p+8*n else cH p)/\(n<=s.length-cH p/8->hv'=0)/\h'=[(RD,.var (aY s a' hv' fr))] /\
     v=.ai [.str (if n<=s.length-cH p/8 then(s.drop (cH p/8)).take n else[]),.bool (decide (n<=s.length-cH p/8))]/\ar=[.ab RD 0,.int .i64 n]):=by
 refine Cod.aph (λE R hN hR=>?_);refine wW ?_;refine aR [(RD,.var (aY s a hv fr))] (aoT s a hv fr p hs h) vV nofun ?_;rintro h' v ar ⟨hv',⟨h1,h2,h3⟩,rfl,rfl,rfl,rfl⟩;refine⟨cv,rfl,?_⟩;have hub:cH p/8=a-hv/8:=by rw[Eg h.h3];omega
 have hle:=h.h3;have eq:(((8*(hv/8):Nat):Int)).tdiv 8=((hv/8:Nat):Int):=by rw[kL aA4];omega
 have ef:((a:Int)-((hv/8:Nat):Int))=((a-hv/8:Nat):Int):=aA4;rw[hub]at hR;generalize hf:a-hv/8=f at *
 have hfl:f<=s.length:=aA4;by_cases hyes:n<=s.length-f
 ·have e1:((f:Int)+(n:Int)-(f:Int)).toNat=n:=aA4;have e2:f+n-f=n:=aA4;refine vt eq ef ?_;refine gG ?_;refine au e2 ?_;exact hR.le (by simp(disch:=omega)only[go_sem,simprocAttr,aY,numAt]) ⟨f+n,0,by rw[if_pos hyes];exact⟨aA4,aA4,by rw[Eg h.h3,hf];omega⟩,λ_=>rfl,rfl,by rw[if_pos hyes,decide_eq_true hyes],rfl⟩
 ·refine vt eq ef ?_;refine gG ?_;exact hR.le cv ⟨a,8*(hv/8),by rw[if_neg hyes];exact⟨h1,h2,h3⟩,λhh=>absurd hh hyes,rfl,by rw[if_neg hyes,decide_eq_false hyes],rfl⟩
open Eng
set_option maxRecDepth 10000
def an (xs:List Nat):List AV:=xs.map λn:Nat=>AV.int .i64 n
theorem bX (xs:List Nat):(an xs).length=xs.length:=by simp[an]
theorem dV {xs:List Nat} {i:Nat} (h:i<xs.length):nth (an xs) i=.int .i64 (xs.getD i 0:Nat):=by
 simp[nth,an,aA5,h]
theorem fC {xs:List Nat}:(an xs).all a6=true:=by simp[an,a6,cellsOf,isCell]
theorem fB {xs:List Nat} {n:Nat}:an xs++[.int .i64 (n:Int)]=an (xs++[n]):=by simp[an]
theorem fh {xs:List Nat} {o n:Nat}:aI (an xs) o n=an ((xs.drop o).take n):=by simp[an,aI]
theorem iY:an []=[]:=(rfl)
def dj (l:List Nat):List AV:=(List.range 16).map λn=>AV.int .i64 (bn l n:Nat)
theorem kb (l:List Nat):(dj l).length=16:=by simp[dj]
theorem l3 (l:List Nat) {n:Nat} (h:n<16):(dj l).getD n .undef=.int .i64 (bn l n:Nat):=by
 unfold dj;rw[aA5,List.getElem?_map,List.getElem?_range h];rfl
theorem Ki (l:List Nat) {x:Nat} (h:x<16):(dj l).set x (.int .i64 ((bn l x:Int)+1))=dj (l++[x]):=by
 apply aCO;intro j;rw[List.getElem?_set,kb];unfold dj;rw[List.getElem?_map,List.getElem?_map];by_cases hx:x=j
 ·subst hx;rw[if_pos rfl,if_pos h,List.getElem?_range h];simp only[aBv,ka,if_true];rfl
 ·rw[if_neg hx];by_cases hj:j<16
  ·rw[List.getElem?_range hj];simp only[aBv,ka,if_neg hx,aBO]
  ·rw[List.getElem?_eq_none (by simp;omega)];rfl
theorem xc {id:Nat} {l:List Nat}:(dj l).map (killC id)=dj l:=by simp[dj,killC]
theorem Kg {id sz:Nat} {es:List AV} {l:List Nat}:(dj l).map (ck id sz es)=dj l:=by simp[dj,ck]
theorem Kh {l:List Nat}:(dj l).all noRefC=true:=by simp[dj,noRefC]
theorem lZ (l:List Nat) (n:Nat):bn l n<=l.length:=aC8
theorem ua (l:List Nat):∀n,bP l n<=l.length*n
 | 0=>by simp[bP]
 | 1=>by simp[bP]
 | n+2=>by
  have:=ua l (n+1);have:=lZ l (n+1);simp only[bP];rw[show n+2=(n+1)+1 by omega,Nat.mul_succ l.length (n+1)];omega
def jW (l:List Nat) (n k:Nat):List Nat:=(List.range k).filter λs=>l.getD s 0==n
theorem awF (l:List Nat) (n k:Nat):(jW l n k).length<=k:=by
 have:=aCs (λs=>l.getD s 0==n) (List.range k);simpa[jW]using this
theorem awG (l:List Nat) (n k:Nat):jW l n (k+1)=jW l n k++if l.getD k 0=n then[k]else[]:=by
 unfold jW;rw[aCv,aB7]
 congr 1
 by_cases h:l.getD k 0=n<;>simp[-List.getD_eq_getElem?_getD,h]
theorem awE (l:List Nat) (n:Nat):jW l n l.length=ri l n:=(rfl)
theorem tK {a b:AV} {xs:List AV} {i:Nat} (h:i<xs.length):((a::(xs++[b])).drop (1+i)).getD 0 .undef=xs.getD i .undef:=by
 rw[aDm,aBS,aA5,List.getElem?_drop,aBO,List.getElem?_append_left h,aA5]
theorem An {a b:AV} {xs:List AV} {i:Nat} (h:i<xs.length):0<((a::(xs++[b])).drop (1+i)).length:=by simp;omega
theorem aaG {a b v:AV} {xs:List AV} {i:Nat} (h:i<xs.length):c8 (a::(xs++[b])) (1+i) [v]=a::(xs.set i v++[b]):=by
 unfold c8;rw[aDm 1 i,aBR,show i+1+[v].length=(i+1)+1 by simp,aBS,aCB aA4,aCk aA4,aCr,if_pos h];simp
theorem My {a b v:AV} {xs:List AV} (h:xs.length=16):c8 (a::(xs++[b])) 17 [v]=a::(xs++[v]):=by
 unfold c8;rw[aBR,show 17+[v].length=17+1 by rfl,aBS,aDl h,List.drop_append];simp[h]
theorem Mz {a b v:AV} {xs:List AV} (h:xs.length=16):(a::(xs++[b])).set 17 v=a::(xs++[v]):=by
 rw[List.set_cons_succ,aDC _ _ aA4,h];rfl
theorem Mx {a b:AV} {xs:List AV} (h:xs.length=16):(a::(xs++[b]))[17]?=some b:=by
 rw[List.getElem?_cons_succ,List.getElem?_append_right aA4,h];rfl
theorem xT {a b:AV} {xs:List AV} (h:xs.length=16):(a::(xs++[b])).drop 17=[b]:=by
 rw[aBS,List.drop_left' h]
def gZ (l:List Nat):List AV:=.ro 1 (an l)::(dj l++[.ro 1 (an (sortL l 15))])
def bt (l:List Nat):AV:=.az (.agg (gZ l))
def gM (l:List Nat) (m:Nat):Int:=if m=0 then 1 else(2^m:Nat)-((fstL l m+bn l m:Nat):Int)
theorem ard (l:List Nat) (m:Nat):gM l (m+1)=2*gM l m-(bn l (m+1):Int):=by
 unfold gM
 cases m with
 | zero=>simp[fstL]
 | succ m=>
  rw[if_neg aA4,if_neg aA4];simp only[fstL];rw[aCf 2 (m+1)];omega
theorem room_le (l:List Nat) {m:Nat} (h:m<=15):gM l m<=32768:=by
 unfold gM;have:(2:Nat)^m<=2^15:=aBg (by decide) h;split<;>omega
theorem arc (l:List Nat) {m:Nat} (h1:1<=m) (h2:m<=15) (h:gM l m<0):32768<cq l:=by
 refine Nat.lt_of_not_le λhc=>?_;have:=tx hc h1 h2;unfold gM at h;rw[if_neg aA4]at h;omega
theorem room_end (l:List Nat):gM l 15=32768-(cq l:Int):=by
 unfold gM cq;rw[if_neg aA4];rfl
theorem p8 (l:List Nat) (hl:∀n∈l,n<=15) (hn:l.length<=320):Eng.Spec Tryz.prog 246 [] [.ro 1 (an l)] (λh r _=>h=[]/\r=if bz l then .ai [bt l,.int .i64 0]else .ai [.lit (.pointer none),.int .i64 4]):=by
 refine Cod.QC (λE R hN hR=>?_);have hnl:=bX l;refine bl @bX @fC ?_;refine gG ?_;refine aZ hN (λk:Nat=>⟨[(0,.ro 1 (an l)),(4,.ab 49018 0),(19,.ro 1 (an l)),(20,.int .i64 l.length),(21,.int .i64 k)],[(49018,.var (.sl 49016 0 l.length::(dj (l.take k)++[.al]))),(49016,.arr 1 (an l))]⟩) (λk=>k<=l.length) (λk=>l.length-k) 0 (.le (by simp(disch:=first | omega | (simp only[Lx];omega))only[go_sem,simprocAttr,bX];rfl)) aA4 ?_
 rintro k R1 hk hR1;have hcl:=kb (l.take k);by_cases hlt:k<l.length
 ·have hx:=kj hl k;have htk:=dE l 0 hlt;have hcs:=Ki (l.take k) (x:=l.getD k 0) aA4;have hcb:=lZ (l.take k) (l.getD k 0);rw[aBa]at hcb;rw[<-htk]at hcs;generalize hc:l.getD k 0=x at *
  simp(disch:=first | omega | (simp only[Lx];omega))only[go_sem,simprocAttr,bX,dV,hc,tK,An,l3,aaG,aBP]
  refine gG ?_;rw[hcs];exact hR1 (k+1) _ aA4 aA4 (.le vV)
 ·obtain rfl:k=l.length:=aA4;refine au @bX ?_;have hcl:=kb l
  refine aZ hN (λm:Nat=>⟨[(0,.ro 1 (an l)),(4,.ab 49018 0),(7,.int .i64 (gM l m)),(8,.int .i64 (bP l (m+1):Nat)),(9,.int .i64 ((m:Int)+1))],
   [(49018,.var (.sl 49016 0 l.length::(dj l++[.sl 49082 0 (sortL l m).length]))),(49016,.arr 1 (an l)),(49082,.arr 1 (an (sortL l m)))]⟩) (λm=>m<=15/\0<=gM l m) (λm=>15-m) 0
   (.kn 49018 17 49082 1 (.sl 49016 0 l.length::(dj l++[.al])) rfl (Mx hcl) rfl (.le (by simp(disch:=first | omega | (simp only[Lx];omega))only[go_sem,simprocAttr,aBG,xc,Mz,sortL,iY,gM,bP]))) ⟨aA4,by show(0:Int)<=1;decide⟩ ?_
  rintro m R2 ⟨hm,hr⟩ hR2;by_cases hlt:m<15
  ·have hst:=ard l m;have hrl:=room_le l hm;have hcb:=lZ l (m+1);have hpb:=ua l (m+1);have hpb2:l.length*(m+1)<=320*16:=aDn hn aA4;have hsl:=lH l m;refine cW @bX @tK @An @l3 @aBP ?_;rw[<-hst];refine nu (λhneg=>?_) (λhneg=>?_)
   ·have hbad:=arc l aA4 aA4 hneg;have hck:bz l=false:=by unfold bz;rw[decide_eq_false aA4];rfl
    refine au hck ?_;exact hR.ro ⟨rfl,by rw[hck];rfl⟩
   ·refine au @bX ?_
    refine aZ hN (λk:Nat=>⟨[(0,.ro 1 (an l)),(4,.ab 49018 0),(7,.int .i64 (gM l (m+1))),(8,.int .i64 (bP l (m+2):Nat)),(9,.int .i64 ((m:Int)+1)),(65,.ro 1 (an l)),(66,.int .i64 l.length),(67,.int .i64 k)],
     [(49018,.var (.sl 49016 0 l.length::(dj l++[.sl 49082 0 (sortL l m++jW l (m+1) k).length]))),(49016,.arr 1 (an l)),(49082,.arr 1 (an (sortL l m++jW l (m+1) k)))]⟩) (λk=>k<=l.length) (λk=>l.length-k) 0
     (.le (by simp(disch:=first | omega | (simp only[Lx];omega))only[go_sem,simprocAttr,jW,List.range_zero,aCg,aBV,bP])) aA4 ?_
    rintro k R3 hk hR3;by_cases hlt3:k<l.length
    ·have htl:=awF l (m+1) k;have hsu:=awG l (m+1) k;by_cases hx:l.getD k 0=m+1
     ·rw[if_pos hx]at hsu;simp(disch:=first | omega | (simp only[Lx];omega))only[go_sem,simprocAttr,bX,dV,hx,xT,fC,fh,aBG,xc,My]
      refine hR3 (k+1) _ aA4 aA4 (.le ?_);rw[hsu,<-aB5,<-fB];exact eM @bX
     ·rw[if_neg hx,aBV]at hsu;refine cW @bX @dV @xT @fC @fh ?_;exact hR3 (k+1) _ aA4 aA4 (.le (by rw[hsu];exact vV))
    ·obtain rfl:k=l.length:=aA4;refine au @bX ?_;refine hR2 (m+1) _ aA4 ⟨aA4,aA4⟩ (.le ?_);rw[awE];simp(disch:=first | omega | (simp only[Lx];omega))only[go_sem,simprocAttr,sortL]
  ·obtain rfl:m=15:=aA4;have hre:=room_end l;have hpn:=uc l hl;have hsl:=lH l 15
   have yes:bz l=true->R [(49018,.var (.sl 49016 0 l.length::(dj l++[.sl 49082 0 (sortL l 15).length]))),(49016,.arr 1 (an l)),(49082,.arr 1 (an (sortL l 15)))] (.ai [.ab 49018 0,.int .i64 0]) [.undef]:=by
    intro hck;rw[hck]at hR;refine hR.wk (h':=[]) (r':=.ai [bt l,.int .i64 0]) (ar':=[.undef]) rfl (.bu 49016 (.bu 49082 (.mh 0 0 49018 [.ab 49018 0,.int .i64 0] (gZ l) vV (by rfl) ?_ ?_ (.le ?_)))) ⟨rfl,by rfl⟩
    ·simp(disch:=first | omega | (simp only[Lx];omega))only[go_sem,simprocAttr,aBG,Kg,fh,bX,iC,gZ]
    ·simp[gZ,noRefC,Kh]
    ·simp(disch:=first | omega | (simp only[Lx];omega))only[go_sem,simprocAttr,bt]
   have no:bz l=false->∀h,R h (.ai [.lit (.pointer none),.int .i64 4]) [.undef]:=by
    intro hck h;rw[hck]at hR;exact hR.ro ⟨rfl,rfl⟩
   have hp16:bP l (15+1)=cp l:=hpn
   have hone:∀x,((dj l++[x]).drop 1).getD 0 .undef=.int .i64 (bn l 1:Nat):=λx=>by
    have:=tK (a:=.undef) (b:=x) (xs:=dj l) (i:=1) aA4;rw[l3 l aA4]at this;exact this
   have honl:∀x,0<((dj l++[x]).drop 1).length:=λx=>by simp;omega
   by_cases ha:0<gM l 15
   ·by_cases hb:cp l=0
    ·have hck:bz l=true:=by unfold bz;rw[decide_eq_true (show cq l<=32768 by omega),decide_eq_true hb];simp
     refine bl hp16 hb ?_;refine gG ?_;exact yes hck
    ·by_cases hc:cp l=1
     ·by_cases hd:bn l 1=1
      ·have hck:bz l=true:=by unfold bz;rw[decide_eq_true (show cq l<=32768 by omega),decide_eq_true hc,decide_eq_true hd];simp
       refine cW hp16 hc hone honl hd ?_;refine fx hone honl hd ?_;exact yes hck
      ·have hck:bz l=false:=by unfold bz;rw[decide_eq_false (show ¬cq l=32768 by omega),decide_eq_false hb,decide_eq_false hd];simp
       refine dq hp16 hc hone honl ?_;refine dI hone honl ?_;exact no hck _
     ·have hck:bz l=false:=by unfold bz;rw[decide_eq_false (show ¬cq l=32768 by omega),decide_eq_false hb,decide_eq_false hc];simp
      refine au hp16 ?_;refine gG ?_;exact no hck _
   ·have hck:bz l=true:=by unfold bz;rw[decide_eq_true (show cq l<=32768 by omega),decide_eq_true (show cq l=32768 by omega)];simp
    refine au hp16 ?_;refine gG ?_;exact yes hck
theorem apM {l:List Nat} (h:cp l=0) (b:List Bool):readL (aP l) b=(0,0,3):=by
 have h0:∀s,s<l.length->l.getD s 0=0:=by
  intro s hs;refine Nat.eq_zero_of_not_pos λhp=>?_;unfold cp at h;have:=List.countP_eq_zero.1 h (l.getD s 0) (by rw[aA5,List.getElem?_eq_getElem hs];exact aBJ hs);simp[-List.getD_eq_getElem?_getD]at this;omega
 unfold readL;rw[sQ (λs hs=>s8 (h0 s hs))];simp only;rw[if_pos];rw[aBc];intro c hc;obtain⟨s,hs,rfl⟩:=aBH.1 hc;unfold cB;rw[if_pos (h0 s (aDD.1 hs))];rfl
theorem or_bit {c b:Nat} (hc:c<32768) (hb:b<=1):bits .or .i64 (IntKind.i64.wrap ((c:Int)*2^min 1 64)) (b:Int)=((2*c+b:Nat):Int):=by
 rw[show((c:Int)*2^min 1 64)=((c*2:Nat):Int)by push_cast;rfl,jx aA4]
 show IntKind.i64.wrap ((BitVec.ofInt 64 ((c*2:Nat):Int) ||| BitVec.ofInt 64 (b:Int)).toNat:Int)=_
 rw[aBl,aBl,aCw,aBm,aBm,aBh aA4,aBh aA4]
 have h1:c*2 ||| b=2*c+b:=by
  have:=aBU (b:=b) (i:=1) aA4 c;rw[aB8]at this;rw[show c*2=c*2^1 by rfl,<-this];omega
 rw[h1];exact jx aA4
theorem u4 (l:List Nat):((gZ l).drop 1).take 16=dj l:=by
 unfold gZ;rw[aBS,aBF,aDl (kb l)]
theorem awL (l:List Nat):(gZ l).getD 17 .undef=.ro 1 (an (sortL l 15)):=by
 unfold gZ;rw[aCz,aA5,List.getElem?_append_right (by rw[kb];omega),kb];rfl
theorem awK (l:List Nat):(gZ l).length=18:=by simp[gZ,kb]
set_option maxHeartbeats 1000000 in
theorem s9 (l:List Nat) (hl:∀n∈l,n<=15) (hll:l.length<=320) (hck:bz l=true) (s:Bs) (a hv fr p:Nat) (hs:s.length<=1000000000000) (h:bN s a hv p):Eng.Spec Tryz.prog 234 [(RD,.var (aY s a hv fr))] [bt l,.ab RD 0]
    (λh' v ar=>∃a' hv' p' k,bN s a' hv' p'/\h'=[(RD,.var (aY s a' hv' fr))]/\v=.ai [.int .i64 (k:Nat),.int .i64 ((readL (aP l) (bw s p)).2.2:Nat)] /\
     ((readL (aP l) (bw s p)).2.2=0->k=(readL (aP l) (bw s p)).1/\p'=p+(readL (aP l) (bw s p)).2.1)/\ar=[bt l,.ab RD 0]):=by
 have hc:cq l<=32768:=by unfold bz at hck;simp at hck;exact hck.1
 refine Cod.Q8 (λE R hN hR=>?_);have hsl:=lH l 15;have hpn:=uc l hl;have hp16:bP l (15+1)=cp l:=hpn;have htl:=awK l;have hnum:cp l<=l.length:=aC8;have hts:=awL l;have hnl:=bX (sortL l 15);have hso:∃so,sortL l 15=so:=⟨_,rfl⟩;obtain⟨so,hso⟩:=hso;rw[hso]at hsl hts hnl;by_cases h0:cp l=0
 ·have hr:=apM h0 (bw s p);rw[hr]at hR;simp(disch:=omega)only[go_sem,simprocAttr,bt,htl,hts,hnl,hsl,hp16,h0];exact hR.le vV ⟨a,hv,p,0,h,rfl,rfl,λe=>by simp at e,rfl⟩
 ·simp(disch:=omega)only[go_sem,simprocAttr,bt,htl,hts,hnl,hsl,hp16,h0];have hbl:=jT s p;generalize hb:bw s p=b at *
  refine aZ hN (λq:Nat×Nat×Nat=>⟨[(0,.az (.agg (gZ l))),(1,.ab 40014 0),(6,.int .i64 (msb (b.take q.1):Nat)),(7,.int .i64 (fstL l (q.1+1):Nat)),(8,.int .i64 (bP l (q.1+1):Nat)),(9,.int .i64 ((q.1:Int)+1)),
   (2000000,.az (.agg (gZ l))),(2000001,.ab 40014 0)],[(40014,.var (aY s q.2.1 q.2.2 fr))]⟩)
   (λq=>q.1<15/\bN s q.2.1 q.2.2 (p+q.1)/\q.1<=dm s p/\lT l b (q.1+1)/\fstL l (q.1+1)<=2*msb (b.take q.1)/\bP l (q.1+1)<cp l) (λq=>15-q.1) (0,a,hv)
   (.le (by simp(disch:=omega)only[go_sem,simprocAttr,msb,List.foldl_nil,fstL,bP])) ⟨aA4,h,aA4,λs _ h1 h2=>by omega,by simp[fstL],by simp only[bP];omega⟩ ?_
  rintro⟨n,a,hv⟩ R1 ⟨hn,hrd,hlb,hno,hj,hpre⟩ hR1;simp only at hn hrd hlb hno hj hpre;have hmt:=Ar (b.take n);have hmt2:2^(b.take n).length<=2^15:=aBg (by decide) (by rw[aBa];omega);have hkr:=tx hc (n:=n+1) aA4 aA4;have hk2:2^(n+1)<=2^15:=aBg (by decide) aA4;simp(disch:=omega)only[go_sem,simprocAttr,bt];refine aR [(RD,.var (aY s a hv fr))] (qJ s a hv fr (p+n) 1 hs hrd aA4) vV nofun ?_;rintro h' v ar ⟨a',hv',hrd',rfl,rfl,rfl⟩;refine⟨cv,rfl,?_⟩;unfold dm at hlb;by_cases hbit:1<=dm s (p+n)
  ·rw[if_pos hbit]at hrd';have hbit2:=hbit;unfold dm at hbit2;have hbn:n<b.length:=aA4;have hget:b.getD n false=gq s (p+n):=by rw[<-hb];exact CC s p aA4
   have hms:=tL b n hbn;rw[hget,<-abz]at hms;have hx1:=gb s (p+n) 1;have hle:=aav hbn hj;have hob:=or_bit (c:=msb (b.take n)) (b:=numAt s (p+n) 1) aA4 aA4;rw[<-hms]at hob;have hcl:=kb l;have hpb:=ua l (n+1);have hpm:=nM l (n+2) (16-(n+2));rw[show n+2+(16-(n+2))=16 by omega,hpn]at hpm;have hps:bP l (n+2)=bP l (n+1)+bn l (n+1):=rfl;have hfs:fstL l (n+2)=2*(fstL l (n+1)+bn l (n+1)):=rfl;refine ou hbit hob @u4 htl hcl @l3 ?_;refine nu (λhk=>?_) (λhk=>?_)
   ·obtain⟨k,hke⟩:∃k,msb (b.take (n+1))=fstL l (n+1)+k:=⟨msb (b.take (n+1))-fstL l (n+1),aA4⟩;obtain⟨sy,g1,g2,g3⟩:=aay hc hl hn hbn hno hj hke aA4;rw[hso]at g1;rw[g3]at hR;have ei:((bP l (n+1):Nat):Int)+(((msb (b.take (n+1)):Nat):Int)-((fstL l (n+1):Nat):Int))=((bP l (n+1)+k:Nat):Int):=aA4;simp(disch:=omega)only[go_sem,simprocAttr,hts,htl,hnl,hsl,hp16,ei,dV,g1];exact hR.le (by simp(disch:=omega)only[go_sem,simprocAttr,bt]) ⟨a',hv',p+n+1,sy,hrd',rfl,rfl,λ_=>⟨rfl,by show _=p+(n+1);omega⟩,rfl⟩
   ·obtain⟨g1,g2⟩:=aaw hc hl hn hbn hno aA4
    have hw2:(((fstL l (n+1):Nat):Int)+((bn l (n+1):Nat):Int))*2^min 1 64=((fstL l (n+2):Nat):Int):=by
     rw[hfs,show(2:Int)^min 1 64=2 by decide];push_cast;omega
    have ha2:((bP l (n+1):Nat):Int)+((bn l (n+1):Nat):Int)=((bP l (n+2):Nat):Int):=by rw[hps];push_cast;rfl
    by_cases hend:bP l (n+2)=cp l
    ·have hr:=aax (b:=b) hl (n:=n+1) aA4 aA4 hend aA4 g1;rw[hr]at hR;simp(disch:=omega)only[go_sem,simprocAttr,u4,hts,htl,hcl,l3,hw2,ha2,hnl,hsl,hp16,hend];exact hR.le (by simp(disch:=omega)only[go_sem,simprocAttr,bt]) ⟨a',hv',p+n+1,0,hrd',rfl,rfl,λe=>by simp at e,rfl⟩
    ·have hne:¬((bP l (n+2):Nat):Int)=((cp l:Nat):Int):=aA4
     have hn15:n+1<15:=by
      refine Nat.lt_of_not_le λhh=>?_;have:n=14:=aA4;subst this;exact hend hpn
     simp(disch:=omega)only[go_sem,simprocAttr,u4,hts,htl,hcl,l3,hw2,ha2,hnl,hsl,hp16,hne];exact hR1 (n+1,a',hv') _ (by simp only;omega) ⟨hn15,hrd',by simp only[dm];omega,g1,g2,by show bP l (n+2)<_;omega⟩ (.le vV)
  ·have hbn:b.length=n:=by unfold dm at hbit;omega
   rw[if_neg hbit]at hrd';have hr:=aau (b:=b) hl hck aA4 (by rw[hbn];exact hpre) (by rw[hbn];exact hno) (by rw[aA7 aA4]at hj;rw[hbn];exact hj);rw[hr]at hR;refine au hbit ?_;exact hR.le vV ⟨a',hv',p+n,0,hrd',rfl,rfl,λe=>by simp at e,rfl⟩
def cd (xs:List Bool):List AV:=xs.map AV.bool
theorem ji (xs:List Bool):(cd xs).length=xs.length:=by simp[cd]
theorem tR {xs:List Bool} {i:Nat} (h:i<xs.length):nth (cd xs) i=.bool (xs.getD i false):=by
 simp[nth,cd,aA5,h]
theorem wE {xs:List Bool}:(cd xs).all a6=true:=by simp[cd,a6,cellsOf,isCell]
theorem Iw {xs:List Bool} {c:Bool}:cd xs++[.bool c]=cd (xs++[c]):=by simp[cd]
theorem Ix {xs:List Bool} {c:Bool}:.bool c::cd xs=cd (c::xs):=by simp[cd]
theorem kY {xs:List Bool} {o n:Nat}:aI (cd xs) o n=cd ((xs.drop o).take n):=by simp[cd,aI]
theorem wF:cd []=[]:=(rfl)
def iK (s:Bs) (n:Nat):List Bool:=(List.range n).map (gq s)
theorem Hz (s:Bs) (n:Nat):(iK s n).length=n:=by simp[iK]
theorem HB (s:Bs) (n:Nat):iK s (n+1)=iK s n++[gq s n]:=by simp[iK,aCv]
theorem HA (s:Bs):iK s (8*s.length)=bw s 0:=by simp[iK,bw]
theorem Hx (c:UInt8) (k:Nat) (hk:k<8):decide (bits .and .u8 ((c.toNat:Int).fdiv (2^min k 64)) 1=1)=c.toNat.testBit k:=by
 have hc:=c.toNat_lt
 have e1:(c.toNat:Int).fdiv (2^min k 64)=((c.toNat/2^k:Nat):Int):=by
  rw[aBC aA4,aBI _ (aC7 (by decide)),aCU,aCL];rfl
 have hd:c.toNat/2^k<256:=Nat.lt_of_le_of_lt (aC2 _ _) aA4
 have e2:bits .and .u8 ((c.toNat/2^k:Nat):Int) 1=((c.toNat/2^k%2:Nat):Int):=by
  show IntKind.u8.wrap ((BitVec.ofInt 8 ((c.toNat/2^k:Nat):Int) &&& BitVec.ofInt 8 1).toNat:Int)=_
  rw[aBl,aCC,aBm,aBh aA4,show(BitVec.ofInt 8 1).toNat=2^1-1 by decide,aBY];exact wrap_u8 aA4
 rw[e1,e2,Nat.testBit_eq_decide_div_mod_eq];exact decide_eq_decide.2 aA4
theorem Hy (c:UInt8) (k:Nat) (hk:k<8):(decide (bits .and .u8 ((c.toNat:Int).fdiv (2^min k 8)) 1=1))=c.toNat.testBit k:=by
 have:=Hx c k hk;rw[aBC aA4]at this |-;exact this
theorem agv (s:Bs) (hs:s.length<=1000000):aJ Tryz.prog 193 [.str s] (.ro 1 (cd (bw s 0))):=by
 refine Cod.agw (λE R hN hR=>?_);refine wW ?_;refine aZ hN (λk:Nat=>⟨[(0,.str s),(3,.sl 51006 0 (8*k)),(4,.int .i64 k)],[(51006,.arr 1 (cd (iK s (8*k))))]⟩) (λk=>k<=s.length) (λk=>s.length-k) 0 (.le (by simp(disch:=omega)only[go_sem,simprocAttr,iK,List.range_zero,wF])) aA4 ?_;rintro k R1 hk hR1;by_cases hlt:k<s.length
 ·refine wW ?_;refine aZ hN (λj:Nat=>⟨[(0,.str s),(3,.sl 51006 0 (8*k+j)),(4,.int .i64 k),(5,.int .i64 j)],[(51006,.arr 1 (cd (iK s (8*k+j))))]⟩) (λj=>j<=8) (λj=>8-j) 0 (.le vV) aA4 ?_;rintro j R2 hj hR2;have hbl:=Hz s (8*k+j);have hbl2:=ji (iK s (8*k+j));by_cases hj8:j<8
  ·have hb:=Hy (s.getD k 0) j hj8;have hbt:gq s (8*k+j)=(s.getD k 0).toNat.testBit j:=by unfold gq;rw[show(8*k+j)/8=k by omega,show(8*k+j)%8=j by omega]
   rw[<-hbt]at hb;refine cW @kY @wE @iC hb @Iw ?_;refine hR2 (j+1) _ aA4 aA4 (.le ?_);rw[show 8*k+(j+1)=8*k+j+1 by omega,HB];exact vV
  ·obtain rfl:j=8:=aA4;refine wW ?_;exact hR1 (k+1) _ aA4 aA4 (.le (by rw[show 8*(k+1)=8*k+8 by omega];exact vV))
 ·obtain rfl:k=s.length:=aA4;have ht:(bw s 0).take (8*s.length)=bw s 0:=aA7 (by rw[jT];omega);refine wW ?_;exact hR.wk (h':=[]) (r':=.ro 1 (cd (bw s 0))) (ar':=[.undef]) rfl (.bu 51006 (.le (vb @kY @HA ht))) ⟨rfl,rfl⟩
def gE (b:List Bool):Nat:=b.foldr (λc a=>2*a+c.toNat) 0
theorem abt (b:List Bool):gE b<2^b.length:=by
 induction b with
 | nil=>simp[gE]
 | cons c b ih=>
  have h1:gE (c::b)=2*gE b+c.toNat:=rfl;have:c.toNat<=1:=by cases c<;>decide
  rw[h1,aBr,aCf];omega
theorem abu (b:List Bool) (c:Bool):gE (b++[c])=gE b+if c then 2^b.length else 0:=by
 induction b with
 | nil=>cases c<;>rfl
 | cons d b ih=>
  have h1:∀b,gE (d::b)=2*gE b+d.toNat:=λ_=>rfl;rw[aBA,h1,h1,ih,aBr,aCf];split<;>omega
theorem AM (s:Bs) (p:Nat):∀n,p+n<=8*s.length->gE ((bw s p).take n)=numAt s p n
 | 0,_=>rfl
 | n+1,h=>by
  have hl:=jT s p;rw[dE (bw s p) false aA4,abu,AM s p n aA4,CC s p aA4,aBa,hl,aBC aA4];rfl
theorem agL (b:List Bool) (hb:b.length<=31):aJ Tryz.prog 222 [.ro 1 (cd b)] (.int .u32 (gE b:Nat)):=by
 refine Cod.agM (λE R hN hR=>?_);have hbl:=ji b;refine au hbl ?_;refine aZ hN (λk:Nat=>⟨[(0,.ro 1 (cd b)),(3,.int .u32 (gE (b.drop k):Nat)),(4,.int .i64 ((k:Int)-1))],[]⟩) (λk=>k<=b.length) (λk=>k) b.length (.le (by simp(disch:=omega)only[go_sem,simprocAttr,xC,gE,List.foldr_nil])) aA4 ?_;rintro k R1 hk hR1
 cases k with
 | zero=>
  refine wW ?_
  exact hR.ro ⟨rfl,rfl⟩
 | succ k=>
  have hx:=abt (b.drop (k+1));have hx2:2^(b.drop (k+1)).length<=2^30:=aBg (by decide) (by rw[aBb];omega);have hd:gE (b.drop k)=2*gE (b.drop (k+1))+(b.getD k false).toNat:=by rw[LD false b aA4];rfl
  have ek:(k:Int)+1-1=(k:Int):=aA4;refine ct ek @tR hbl ?_
  cases hc:b.getD k false with
  | false=>
   rw[hc]at hd;refine wW ?_
   exact hR1 k _ aA4 aA4 (.le (by rw[hd];simp(disch:=omega)only[go_sem,simprocAttr];push_cast;rfl))
  | true=>
   rw[hc]at hd;refine wW ?_;exact hR1 k _ aA4 aA4 (.le (by rw[hd];simp(disch:=omega)only[go_sem,simprocAttr];push_cast;rfl))
theorem afd (i:Nat) (h:i<15):(((32768/2^i:Nat):Int)).tdiv 2=((32768/2^(i+1):Nat):Int):=by
 rw[aCf,<-aCF];generalize 32768/2^i=q;rw[kL aA4];omega
theorem afc (n:Nat) (h:n<=15):32768/2^n=2^(15-n):=by
 have h1:32768=2^(15-n)*2^n:=by rw[<-Nat.pow_add,show 15-n+n=15 by omega]
 rw[h1,Nat.mul_div_cancel _ (Nat.pow_pos (by decide))]
theorem abA (l:List Nat) (x:Nat):cp (l++[x])=cp l+if 0<x then 1 else 0:=by
 simp only[cp,List.countP_append,List.countP_singleton,decide_eq_true_eq]
theorem awQ (l:List Nat):cq l<=32768*l.length:=by
 refine uO (p:=λl=>cq l<=32768*l.length) (by simp[cq,fstL,bn]) (λl x h=>?_) l;rw[DY,aA8,aBk];have:(2:Nat)^(15-x)<=2^15:=aBg (by decide) aA4;split<;>omega
set_option maxHeartbeats 1000000 in
theorem ue (l:List Nat) (hl:∀n∈l,n<=15) (hn:l.length<=320):aJ Tryz.prog 227 [.ro 1 (an l)] (.int .i64 (if bz l then 0 else 4:Nat)):=by
 refine Cod.ahI (λE R hN hR=>?_);have hnl:=bX l;refine au hnl ?_;refine aZ hN (λk:Nat=>⟨[(3,.int .i64 (cq (l.take k):Nat)),(4,.int .i64 (cp (l.take k):Nat)),(5,.int .i64 (bn (l.take k) 1:Nat)),(13,.ro 1 (an l)),(14,.int .i64 l.length),(15,.int .i64 k)],[]⟩) (λk=>k<=l.length) (λk=>l.length-k) 0 (.le (by simp(disch:=omega)only[go_sem,simprocAttr,cq,cp,bn,fstL];simp)) aA4 ?_;rintro k R1 hk hR1;have ht:=awQ (l.take k);have hc1:=lZ (l.take k) 1;have hnm:cp (l.take k)<=(l.take k).length:=aC8;rw[aBa]at ht hc1 hnm;have hmin:32768*min k l.length<=32768*320:=aCX _ aA4;by_cases hlt:k<l.length
 ·have hx:=kj hl k;have htk:=dE l 0 hlt;have hts:=DY (l.take k) (l.getD k 0);have hns:=abA (l.take k) (l.getD k 0);have hcs:=ka (l.take k) (l.getD k 0) 1;rw[<-htk]at hts hns hcs;generalize hc:l.getD k 0=x at *
  have next:(∀t c o:Nat,t=cq (l.take (k+1))->c=cp (l.take (k+1))->o=bn (l.take (k+1)) 1->∀s,s=[(3,AV.int .i64 (t:Int)),(4,.int .i64 (c:Int)),(5,.int .i64 (o:Int)),(13,.ro 1 (an l)),(14,.int .i64 l.length),(15,.int .i64 ((k:Int)+1))]->R1.ap ⟨s,[]⟩):=by
   rintro t c o rfl rfl rfl s rfl;exact hR1 (k+1) _ aA4 aA4 (.le vV)
  by_cases h0:0<x
  ·rw[if_pos ⟨aA4,hx⟩]at hts;rw[if_pos h0]at hns;refine ct hnl @dV hc ?_;refine gG ?_;refine aZ hN (λi:Nat=>⟨[(3,.int .i64 (cq (l.take k):Nat)),(4,.int .i64 ((cp (l.take k):Nat)+1)),(5,.int .i64 (bn (l.take k) 1:Nat)),(7,.int .i64 x),(8,.int .i64 (32768/2^i:Nat)),(9,.int .i64 i),(13,.ro 1 (an l)),(14,.int .i64 l.length),(15,.int .i64 k)],[]⟩) (λi=>i<=x) (λi=>x-i) 0 (.le vV) aA4 ?_;rintro i R2 hi hR2;by_cases hix:i<x
   ·have hp:=afd i aA4;have hpl:32768/2^i<=32768:=aC2 _ _;have hpl2:32768/2^(i+1)<=32768:=aC2 _ _;have hR3:=hR2 (i+1);generalize 32768/2^(i+1)=q2 at *
    generalize 32768/2^i=q at *
    refine au hp ?_;exact hR3 _ aA4 aA4 (.le vV)
   ·obtain rfl:i=x:=aA4;have hp:=afc i aA4;have hp2:(2:Nat)^(15-i)<=2^15:=aBg (by decide) aA4;rw[hp]at *
    generalize 2^(15-i)=q at *
    by_cases h1:i=1
    ·rw[if_pos h1]at hcs;refine au h1 ?_;exact next (cq (l.take k)+q) (cp (l.take k)+1) (bn (l.take k) 1+1) aA4 aA4 aA4 _ vV
    ·rw[if_neg h1]at hcs;refine wW ?_;exact next (cq (l.take k)+q) (cp (l.take k)+1) (bn (l.take k) 1) aA4 aA4 aA4 _ vV
  ·rw[if_neg aA4]at hts;rw[if_neg h0]at hns;rw[if_neg aA4]at hcs;refine ct hnl @dV hc ?_;refine gG ?_;exact next (cq (l.take k)) (cp (l.take k)) (bn (l.take k) 1) aA4 aA4 aA4 _ rfl
 ·obtain rfl:k=l.length:=aA4;rw[aA7 (aA9 _)]at ht hc1 hnm |-;have go:∀b:Bool,bz l=b->∀h,R h (.int .i64 (if b then 0 else 4:Nat)) [.undef]:=λb hb h=>hR.ro ⟨rfl,by rw[hb]⟩
  unfold bz at go;by_cases h1:cq l<=32768
  ·rw[decide_eq_true h1]at go;by_cases h2:cq l=32768
   ·rw[decide_eq_true h2]at go;refine au hnl ?_;refine gG ?_;exact go true (by simp) _
   ·rw[decide_eq_false h2]at go;by_cases h3:cp l=0
    ·rw[decide_eq_true h3]at go;refine bl hnl h3 ?_;refine gG ?_;exact go true (by simp) _
    ·rw[decide_eq_false h3]at go;by_cases h4:cp l=1
     ·rw[decide_eq_true h4]at go;by_cases h5:bn l 1=1
      ·rw[decide_eq_true h5]at go;refine ct hnl h4 h5 ?_;refine gG ?_;exact go true (by simp) _
      ·rw[decide_eq_false h5]at go;refine bl hnl h4 ?_;refine gG ?_;exact go false (by simp) _
     ·rw[decide_eq_false h4]at go;refine au hnl ?_;refine gG ?_;exact go false (by simp) _
  ·rw[decide_eq_false h1]at go;refine au hnl ?_;refine gG ?_;exact go false (by simp) _
def cA (c:List Bool):AV:=
 match c with
 | []=>.al
 | x::r=>.ro 1 (cd (x::r))
theorem oW {c:List Bool} (h:0<c.length):cA c=.ro 1 (cd c):=by
 cases c with
 | nil=>simp at h
 | cons x r=>rfl
def bG (cs:List (List Bool)):List AV:=cs.map cA
theorem sk (cs:List (List Bool)):(bG cs).length=cs.length:=by simp[bG]
theorem mF {cs:List (List Bool)} {i:Nat} (h:i<cs.length):nth (bG cs) i=cA (cs.getD i []):=by
 simp[nth,bG,aA5,h]
theorem Jd (c:List Bool):isCell (cA c)=true:=by cases c<;>rfl
theorem wU (c:List Bool):cellsOf (cA c)=[cA c]:=by cases c<;>rfl
theorem Kj {cs:List (List Bool)}:(bG cs).all a6=true:=by
 simp only[bG,List.all_map,aBc,Function.comp,a6];intro c _;rw[wU];simp[Jd]
theorem Kk {cs:List (List Bool)} {i:Nat} {c:List Bool}:(bG cs).set i (cA c)=bG (cs.set i c):=by simp[bG,aDA]
def dX (l:List Nat) (n k:Nat):List (List Bool):=(List.range l.length).map λj=>if l.getD j 0≠0/\(l.getD j 0<n\/(l.getD j 0=n/\j<k))then cB l j else[]
theorem qB (l:List Nat) (n k:Nat):(dX l n k).length=l.length:=by simp[dX]
theorem aeV (l:List Nat):dX l 1 0=List.replicate l.length []:=by
 unfold dX;rw[aCo (g:=λ_=>[]) (λj _=>by rw[if_neg];omega),List.map_const',aDp]
theorem aeS (l:List Nat) (n:Nat):dX l n l.length=dX l (n+1) 0:=by
 unfold dX;refine aCo λj hj=>?_;have:=aDD.1 hj;by_cases h:l.getD j 0≠0/\(l.getD j 0<n\/(l.getD j 0=n/\j<l.length))
 ·rw[if_pos h,if_pos ⟨h.1,aA4⟩]
 ·rw[if_neg h,if_neg aA4]
theorem aeR (l:List Nat) (hl:∀n∈l,n<=15):dX l 16 0=aP l:=by
 unfold dX aP;refine aCo λj _=>?_;have:=kj hl j;by_cases h:l.getD j 0≠0
 ·rw[if_pos ⟨h,.inl aA4⟩]
 ·rw[if_neg (λg=>h g.1)];unfold cB;rw[if_pos aA4]
theorem aeU (l:List Nat) (n k:Nat) (h:l.getD k 0≠n):dX l n (k+1)=dX l n k:=by
 unfold dX;refine aCo λj _=>?_;by_cases hj:j=k
 ·subst hj;by_cases h1:l.getD j 0≠0/\l.getD j 0<n
  ·rw[if_pos ⟨h1.1,.inl h1.2⟩,if_pos ⟨h1.1,.inl h1.2⟩]
  ·rw[if_neg aA4,if_neg aA4]
 ·by_cases h1:l.getD j 0≠0/\(l.getD j 0<n\/(l.getD j 0=n/\j<k))
  ·rw[if_pos h1,if_pos ⟨h1.1,aA4⟩]
  ·rw[if_neg h1,if_neg aA4]
theorem aeT (l:List Nat) (n k:Nat) (hk:k<l.length) (h0:n≠0) (h:l.getD k 0=n):(dX l n k).set k (cB l k)=dX l n (k+1):=by
 apply aCO;intro j;rw[List.getElem?_set,qB];by_cases hj:k=j
 ·subst hj;rw[if_pos rfl,if_pos hk];unfold dX;rw[List.getElem?_map,List.getElem?_range hk];simp only[aBv];rw[if_pos ⟨aA4,.inr ⟨h,aA4⟩⟩]
 ·rw[if_neg hj];by_cases hjl:j<l.length
  ·unfold dX;rw[List.getElem?_map,List.getElem?_map,List.getElem?_range hjl];simp only[aBv];by_cases h1:l.getD j 0≠0/\(l.getD j 0<n\/(l.getD j 0=n/\j<k))
   ·rw[if_pos h1,if_pos ⟨h1.1,aA4⟩]
   ·rw[if_neg h1,if_neg aA4]
  ·rw[List.getElem?_eq_none (by rw[qB];omega),List.getElem?_eq_none (by rw[qB];omega)]
def lf (l:List Nat) (m:Nat):Nat:=if m=0 then 0 else fstL l m+bn l m
theorem Mu (l:List Nat) (m:Nat):2*lf l m=fstL l (m+1):=by
 unfold lf
 cases m with
 | zero=>rfl
 | succ m=>rw[if_neg aA4];rfl
theorem wi:∀(i x:Nat),bitsM x (i+1)=(x/2^i%2==1)::bitsM x i
 | 0,x=>by simp[bitsM]
 | i+1,x=>by
  show bitsM (x/2) (i+1)++[x%2==1]=_
  rw[wi i (x/2)];have:x/2/2^i=x/2^(i+1):=by rw[aCf,aDy,aCF]
  rw[this];rfl
theorem yA (l:List Nat):∀n,fstL l (n+1)+bn l (n+1)+l.length<=l.length*2^(n+1)
 | 0=>by have:=lZ l 1;simp[fstL];omega
 | n+1=>by
  have h1:=yA l n;have h2:=lZ l (n+2);have h3:bn l (n+1+1)=bn l (n+2):=rfl;simp only[fstL];rw[aCf 2 (n+1),<-Nat.mul_assoc];omega
theorem OS (l:List Nat) (hn:l.length<=320) {n:Nat} (h1:1<=n) (h:n<=16):fstL l n+bn l n<=20971520:=by
 obtain⟨m,rfl⟩:∃m,n=m+1:=⟨n-1,aA4⟩;have h2:=yA l m;have h3:l.length*2^(m+1)<=320*2^16:=aDn hn (aBg (by decide) h);omega
set_option maxHeartbeats 1000000 in
theorem uf (l:List Nat) (hl:∀n∈l,n<=15) (hn:l.length<=320):aJ Tryz.prog 224 [.ro 1 (an l)] (.ro 1 (bG (aP l))):=by
 refine Cod.air (λE R hN hR=>?_);have hnl:=bX l;refine au hnl ?_;refine aZ hN (λk:Nat=>⟨[(0,.ro 1 (an l)),(3,.sl 55011 0 k),(13,.int .i64 l.length),(14,.int .i64 k)],[(55011,.arr 1 (List.replicate k .al))]⟩) (λk=>k<=l.length) (λk=>l.length-k) 0 (.le (by simp(disch:=omega)only[go_sem,simprocAttr,aDj])) aA4 ?_;rintro k R1 hk hR1;by_cases hlt:k<l.length
 ·have hrc:(List.replicate k AV.al).all a6=true:=by rw[List.all_replicate];split<;>rfl
  have hrl:(List.replicate k AV.al).length=k:=aBt;have hrs:aI (List.replicate k AV.al) 0 k=List.replicate k AV.al:=by simp[aI]
  refine dq hnl hrc hrl hrs ?_;exact hR1 (k+1) _ aA4 aA4 (.le (by rw[aCR];exact vV))
 ·obtain rfl:k=l.length:=aA4;refine au hnl ?_;have hz:List.replicate l.length AV.al=bG (dX l 1 0):=by rw[aeV];simp[bG,cA]
  refine aZ hN (λm:Nat=>⟨[(0,.ro 1 (an l)),(3,.sl 55011 0 l.length),(4,.int .i64 (lf l m:Nat)),(5,.int .i64 ((m:Int)+1))],[(55011,.arr 1 (bG (dX l (m+1) 0)))]⟩) (λm=>m<=15) (λm=>15-m) 0 (.le (by rw[hz,show lf l 0=0 from rfl];exact vV)) aA4 ?_;rintro m R2 hm hR2;by_cases hlt2:m<15
  ·have he2:=Mu l m;have hfl:=OS l hn (n:=m+1) aA4 aA4;have he3:2*((lf l m:Nat):Int)=((fstL l (m+1):Nat):Int):=aA4;have hle:lf l m<=20971520:=aA4;refine bl hnl he3 ?_;refine aZ hN (λk:Nat=>⟨[(0,.ro 1 (an l)),(3,.sl 55011 0 l.length),(4,.int .i64 (fstL l (m+1)+bn (l.take k) (m+1):Nat)),(5,.int .i64 ((m:Int)+1)),(26,.ro 1 (an l)),(27,.int .i64 l.length),(28,.int .i64 k)],[(55011,.arr 1 (bG (dX l (m+1) k)))]⟩) (λk=>k<=l.length) (λk=>l.length-k) 0 (.le (by simp(disch:=omega)only[go_sem,simprocAttr,bn,List.countP_nil])) aA4 ?_;rintro k R3 hk hR3;have hcl:=w9 l k (m+1);by_cases hlt3:k<l.length
   ·have hcs:=ka (l.take k) (l.getD k 0) (m+1);rw[<-dE l 0 hlt3]at hcs;by_cases hx:l.getD k 0=m+1
    ·rw[if_pos hx]at hcs;have hcw:fw l k=fstL l (m+1)+bn (l.take k) (m+1):=by unfold fw jU;rw[hx]
     have bU:=aeT l (m+1) k hlt3 aA4 hx;have hcd:cB l k=bitsM (fw l k) (m+1):=by unfold cB;rw[if_neg aA4,hx]
     have hol:=qB l (m+1) k;have hoc:=sk (dX l (m+1) k);generalize hw:fstL l (m+1)+bn (l.take k) (m+1)=cw at *
     have hcwl:cw<=20971520:=aA4;refine ct hnl @dV hx ?_
     refine aZ hN (λi:Nat=>⟨[(0,.ro 1 (an l)),(3,.sl 55011 0 l.length),(4,.int .i64 cw),(5,.int .i64 ((m:Int)+1)),(6,.int .i64 k),(8,.sl 55036 0 i),(9,.int .i64 (cw/2^i:Nat)),(10,.int .i64 i),(26,.ro 1 (an l)),(27,.int .i64 l.length),(28,.int .i64 k)],
      [(55011,.arr 1 (bG (dX l (m+1) k))),(55036,.arr 1 (cd (bitsM cw i)))]⟩) (λi=>i<=m+1) (λi=>m+1-i) 0 (.le (by simp(disch:=omega)only[go_sem,simprocAttr,bitsM,wF])) aA4 ?_
     rintro i R4 hi hR4;have hbl:=r8 i cw;have hbl2:=ji (bitsM cw i);by_cases hi2:i<m+1
     ·have hbc:=wi i cw;have hR5:=hR4 (i+1);have hq2:cw/2^(i+1)=cw/2^i/2:=by rw[aCf,aCF]
      rw[hq2]at hR5;have hql:cw/2^i<=cw:=aC2 _ _;generalize cw/2^i=q at *
      have e1:((q:Nat):Int).tdiv 2=((q/2:Nat):Int):=by rw[kL aA4];omega
      have e2:decide ((q:Int)%2=1)=(q%2==1):=by
       rw[show(q%2==1)=decide (q%2=1)by rfl];exact decide_eq_decide.2 aA4
      refine cW e1 e2 @kY @iC @wE ?_;refine hR5 _ aA4 aA4 (.drop 55036 (.iZ 55046 55036 rfl vV (.le ?_)));rw[hbc];refine wW ?_;rw[Ix]
     ·obtain rfl:i=m+1:=aA4;have hcp:=oW (c:=bitsM cw (m+1)) aA4;rw[hcd,hcw]at bU;simp(disch:=omega)only[go_sem,simprocAttr,kY,iC,hol,hoc,Kj,mF,wU,<-hcp,Kk,bU];refine hR3 (k+1) _ aA4 aA4 (.le ?_);rw[hcs,<-aCa,hw];exact vV
    ·have hos:=aeU l (m+1) k hx;rw[if_neg hx,aBO]at hcs;refine ct hnl @dV hx ?_;refine hR3 (k+1) _ aA4 aA4 (.le ?_);rw[hos,hcs];exact vV
   ·obtain rfl:k=l.length:=aA4;rw[aA7 (aA9 _)]at *
    refine au hnl ?_;refine hR2 (m+1) _ aA4 aA4 (.le ?_);rw[aeS,show lf l (m+1)=fstL l (m+1)+bn l (m+1)from if_neg aA4];exact vV
  ·obtain rfl:m=15:=aA4;have hcl:=sk (aP l);have hcl2:(aP l).length=l.length:=by simp[aP]
   have htk:(bG (aP l)).take l.length=bG (aP l):=aA7 aA4;have hoe:=aeR l hl;refine wW ?_;rw[hoe];exact hR.wk (h':=[]) (r':=.ro 1 (bG (aP l))) (ar':=[.undef]) rfl (.bu 55011 (.le (by simp(disch:=omega)only[go_sem,simprocAttr,aI,htk,aBF]))) ⟨rfl,rfl⟩
theorem afE (a b:List Bool) (h:b.length<a.length):a.isPrefixOf b=false:=by
 cases hh:a.isPrefixOf b with
 | false=>rfl
 | true=>have:=(aCQ.1 hh).length_le;omega
theorem BE (b a:List Bool) (hb:b.length<=1000000000) (ha:a.length<=1000000000):aJ Tryz.prog 259 [.ro 1 (cd b),.ro 1 (cd a)] (.bool (a.isPrefixOf b)):=by
 refine Cod.ag7 (λE R hN hR=>?_);have hbl:=ji b;have hal:=ji a;by_cases hlt:b.length<a.length
 ·have hp:=afE a b hlt;refine bl hbl hal ?_;exact hR.ro ⟨rfl,by rw[hp]⟩
 ·refine bl hbl hal ?_;refine aZ hN (λi:Nat=>⟨[(0,.ro 1 (cd b)),(1,.ro 1 (cd a)),(12,.int .i64 a.length),(13,.int .i64 i)],[]⟩) (λi=>i<=a.length/\a.take i=b.take i) (λi=>a.length-i) 0 (.le vV) ⟨aA4,by simp⟩ ?_;rintro i R1 ⟨hi,he⟩ hR1;by_cases hil:i<a.length
  ·have hta:=dE a false hil;have htb:=dE b false (show i<b.length by omega);have hR2:=hR1 (i+1);generalize hx:a.getD i false=x at *
   generalize hy:b.getD i false=y at *
   by_cases hxy:x=y
   ·subst hxy;refine cW hbl hal @tR hx hy ?_;have hd:(!(x==x))=false:=by simp
    refine au hd ?_;exact hR2 _ aA4 ⟨aA4,by rw[hta,htb,he]⟩ (.le vV)
   ·have hd:(!(x==y))=true:=by simp[hxy]
    have hp:a.isPrefixOf b=false:=by
     cases hh:a.isPrefixOf b with
     | false=>rfl
     | true=>
      obtain⟨r,hr⟩:=aCQ.1 hh;refine(hxy ?_).elim;rw[<-hx,<-hy,<-hr,aA5,aA5,List.getElem?_append_left hil]
    refine cW hbl hal @tR hx hy ?_;refine au hd ?_;exact hR.ro ⟨rfl,by rw[hp]⟩
  ·obtain rfl:i=a.length:=aA4
   have hp:a.isPrefixOf b=true:=by
    rw[aCQ,List.prefix_iff_eq_take];rw[List.take_length]at he;exact he
   refine bl hbl hal ?_;exact hR.ro ⟨rfl,by rw[hp]⟩
theorem Nh {α:Type} {p:α->Bool} {cs:List α} (d:α) (h:∀j,j<cs.length->p (cs.getD j d)=false):cs.findIdx? p=none:=by
 rw[List.findIdx?_eq_none_iff];intro c hc;obtain⟨j,hj,rfl⟩:=aCp hc;have:=h j hj;rw[aA5,List.getElem?_eq_getElem hj]at this;exact this
theorem Nj {α:Type} {p:α->Bool} {cs:List α} (d:α) {i:Nat} (hi:i<cs.length) (h1:p (cs.getD i d)=true) (h:∀j,j<i->p (cs.getD j d)=false):cs.findIdx? p=some i:=by
 rw[List.findIdx?_eq_some_iff_getElem];rw[aA5,List.getElem?_eq_getElem hi]at h1;refine⟨hi,h1,λj hj hh=>?_⟩;have:=h j hj;rw[aA5,List.getElem?_eq_getElem aA4]at this;simp[hh]at this
theorem Fz {α:Type} {p:α->Bool} {cs:List α} (d:α) (h:∀j,j<cs.length->p (cs.getD j d)=true):cs.all p=true:=by
 rw[aBc];intro c hc;obtain⟨j,hj,rfl⟩:=aCp hc;have:=h j hj;rw[aA5,List.getElem?_eq_getElem hj]at this;exact this
theorem FM {α:Type} {p:α->Bool} {cs:List α} (d:α) {i:Nat} (hi:i<cs.length) (h1:p (cs.getD i d)=true):cs.any p=true:=by
 rw[List.any_eq_true];rw[aA5,List.getElem?_eq_getElem hi]at h1;exact⟨_,aBJ hi,h1⟩
theorem FL {α:Type} {p:α->Bool} {cs:List α} (d:α) (h:∀j,j<cs.length->p (cs.getD j d)=false):cs.any p=false:=by
 rw[List.any_eq_false];intro c hc;obtain⟨j,hj,rfl⟩:=aCp hc;have:=h j hj;rw[aA5,List.getElem?_eq_getElem hj]at this;simp only[aCj]at this;rw[this];simp
theorem Fy {α:Type} {p:α->Bool} {cs:List α} (d:α) {i:Nat} (hi:i<cs.length) (h1:p (cs.getD i d)=false):cs.all p=false:=by
 rw[List.all_eq_false];rw[aA5,List.getElem?_eq_getElem hi]at h1;refine⟨_,aBJ hi,?_⟩;simp only[aCj]at h1;rw[h1];simp
set_option maxHeartbeats 1000000 in
theorem aiV (cs:List (List Bool)) (b:List Bool) (hcs:cs.length<=100000) (hcl:∀c∈cs,c.length<=1000000) (hb:b.length<=1000000000) :
    aJ Tryz.prog 240 [.ro 1 (bG cs),.ro 1 (cd b)] (.ai [.int .i64 ((readL cs b).1:Nat),.int .i64 ((readL cs b).2.1:Nat),.int .i64 ((readL cs b).2.2:Nat)]):=by
 refine Cod.aiW (λE R hN hR=>?_);have hbl:=ji b;have hcsl:=sk cs
 have hgl:∀i,(cs.getD i []).length<=1000000:=by
  intro i;by_cases hi:i<cs.length
  ·rw[aA5,List.getElem?_eq_getElem hi];exact hcl _ (aBJ hi)
  ·rw[aA5,List.getElem?_eq_none aA4];simp
 refine au hcsl ?_
 refine aZ hN (λq:Nat×Bool=>⟨[(0,.ro 1 (bG cs)),(1,.ro 1 (cd b)),(7,.bool q.2),(12,.ro 1 (bG cs)),(13,.int .i64 cs.length),(14,.int .i64 q.1)],[]⟩)
  (λq=>q.1<=cs.length/\(∀j,j<q.1->cY b (cs.getD j [])=false)/\(if q.2 then ∃j,j<q.1/\(cs.getD j []).isEmpty=false else ∀j,j<q.1->(cs.getD j []).isEmpty=true)) (λq=>cs.length-q.1) (0,false) (.le vV) ⟨aA4,λj h=>by omega,λj h=>by simp only at h;omega⟩ ?_
 rintro⟨i,sm⟩ R1 ⟨hi,hno,hsm⟩ hR1;simp only at hi hno hsm;by_cases hil:i<cs.length
 ·have hg:=hgl i;by_cases h0:0<(cs.getD i []).length
  ·have hca:=oW h0
   have hne:(cs.getD i []).isEmpty=false:=by cases hh:cs.getD i []with
    | nil=>rw[hh]at h0;simp at h0
    | cons=>rfl
   have hbg:=BE b (cs.getD i []) hb aA4;have hcb:=ji (cs.getD i []);have hhit:cY b (cs.getD i [])=(cs.getD i []).isPrefixOf b:=by unfold cY;rw[hne];rfl
   refine dq hcsl @mF hca hcb ?_;refine aw hbg rfl rfl ?_
   cases hp:(cs.getD i []).isPrefixOf b with
   | true=>
    rw[hp]at hhit;have hr:readL cs b=(i,(cs.getD i []).length,0):=by unfold readL;rw[Nj [] hil hhit hno]
    rw[hr]at hR;refine au hcb ?_
    exact hR.ro ⟨rfl,rfl⟩
   | false=>
    rw[hp]at hhit;refine wW ?_;refine hR1 (i+1,true) _ (by simp only;omega) ⟨by simp only;omega,λj hj=>?_,by simp only[if_true];exact⟨i,aA4,hne⟩⟩ (.le vV);simp only at hj;by_cases hji:j=i
    ·rw[hji];exact hhit
    ·exact hno j aA4
  ·have hci:cs.getD i []=[]:=aDs.1 aA4;have hca:cA (cs.getD i [])=.al:=by rw[hci];rfl
   refine ct hcsl @mF hca ?_;refine hR1 (i+1,sm) _ (by simp only;omega) ⟨by simp only;omega,λj hj=>?_,?_⟩ (.le vV)
   ·simp only at hj;by_cases hji:j=i
    ·rw[hji,hci];rfl
    ·exact hno j aA4
   ·cases sm with
    | true=>
     simp only[if_true]at hsm |-;obtain⟨j,h1,h2⟩:=hsm
     exact⟨j,aA4,h2⟩
    | false=>
     intro j hj;simp only at hj;by_cases hji:j=i
     ·rw[hji,hci];rfl
     ·exact hsm j aA4
 ·obtain rfl:i=cs.length:=aA4;have hfn:=Nh (p:=cY b) [] hno;unfold readL at hR;rw[hfn]at hR;simp only at hR
  cases sm with
  | false=>
   have hae:cs.all (·.isEmpty)=true:=Fz [] hsm;rw[hae,if_pos rfl]at hR;refine au hcsl ?_
   exact hR.ro ⟨rfl,rfl⟩
  | true=>
   obtain⟨j,hj,hje⟩:=hsm;have hae:cs.all (·.isEmpty)=false:=Fy [] hj hje;rw[hae,if_neg (by simp)]at hR;refine au hcsl ?_
   refine aZ hN (λi:Nat=>⟨[(1,.ro 1 (cd b)),(31,.ro 1 (bG cs)),(32,.int .i64 cs.length),(33,.int .i64 i)],[]⟩)
    (λi=>i<=cs.length/\∀j,j<i->(decide (b.length<(cs.getD j []).length)&&b.isPrefixOf (cs.getD j []))=false) (λi=>cs.length-i) 0 (.le vV) ⟨aA4,λj h=>by omega⟩ ?_
   rintro i R2 ⟨hi,hno2⟩ hR2;by_cases hil:i<cs.length
   ·have hg:=hgl i
    have go:(decide (b.length<(cs.getD i []).length)&&b.isPrefixOf (cs.getD i []))=false->R2.ap ⟨[(1,.ro 1 (cd b)),(31,.ro 1 (bG cs)),(32,.int .i64 cs.length),(33,.int .i64 ((i:Int)+1))],[]⟩:=by
     intro h;refine hR2 (i+1) _ aA4 ⟨aA4,λj hj=>?_⟩ (.le vV);by_cases hji:j=i
     ·rw[hji];exact h
     ·exact hno2 j aA4
    by_cases hlt:b.length<(cs.getD i []).length
    ·have hca:=oW (c:=cs.getD i []) aA4;have hcb:=ji (cs.getD i []);have hbg:=BE (cs.getD i []) b aA4 hb;refine cW hcsl @mF hca hcb hbl ?_;refine gG ?_;refine fN (iM vV hbg vV rfl rfl ?_)
     cases hp:b.isPrefixOf (cs.getD i [])with
     | true=>
      rw[if_pos (FM [] hil (by rw[hp,decide_eq_true hlt];rfl))]at hR;refine wW ?_
      exact hR.ro ⟨rfl,rfl⟩
     | false=>
      refine wW ?_;exact go (by rw[hp,aDE])
    ·have hgo:=go (by rw[decide_eq_false hlt];rfl);by_cases h0:0<(cs.getD i []).length
     ·have hca:=oW h0;have hcb:=ji (cs.getD i []);refine cW hcsl @mF hca hcb hbl ?_;refine gG ?_;exact hgo
     ·have hci:cs.getD i []=[]:=aDs.1 aA4;have hca:cA (cs.getD i [])=.al:=by rw[hci];rfl
      refine dq hcsl @mF hca hbl ?_;refine gG ?_;exact hgo
   ·obtain rfl:i=cs.length:=aA4;rw[if_neg (by rw[FL [] hno2];simp)]at hR;refine au hcsl ?_;exact hR.ro ⟨rfl,rfl⟩
theorem BC (n:Nat) (h:n<=10000000000000):aJ Tryz.prog 200 [.int .i64 n] (.int .i64 (cH n:Nat)):=by
 refine Cod.agQ (λE R hN hR=>?_);have e:((n:Int)+7)/8*8=((cH n:Nat):Int):=by unfold cH;omega
 refine au e ?_;exact hR.ro ⟨rfl,rfl⟩
end Go.Proofs.YtoalcafkffmiiaaGreatDoor.Pk
namespace Go.Proofs.YtoalcafkffmiiaaGreatDoor.Cod
open Eng Eng.Kz
set_option maxRecDepth 100000
abbrev TZ:AK:=.seq (.aa [k 4 (ci 0)] [4,2000000,2000001]) .ret
abbrev TY:AK:=.seq (.aa [m 15 0,m 16 0,.v 17 (.aq (.t 16)),.v 18 (.ak false 1 1 (.t 17)),.v 19 (.ld false 1 (.t 18)),m 20 1,.eff 21 false 60021 (.ba 1 [(.t 20)]),.eff 22 false 60022 (.app 1 1 (.t 19) (.t 21)),.v 23 (.aq (.t 15)),.v 24 (.ak false 1 1 (.t 23)),.aL false 60000 (.st 1 (.t 24) (.t 22))] [2000000,2000001]) TZ
abbrev T1:AK:=.seq (.aa [k 4 (ci 2)] [4,2000000,2000001]) .ret
abbrev T0:AK:=.seq (.aa [u 60005 5 (.ah (.t 0)),u 60006 6 (.aq (.t 5)),u 60007 7 (.ak false 1 1 (.t 6)),u 60008 8 (.ld false 1 (.t 7)),u 60009 9 (.len false (.t 8)),u 60010 10 (.ah (.t 0)),u 60011 11 (.aq (.t 10)),u 60012 12 (.ak false 2 1 (.t 11)),u 60013 13 (.ld false 1 (.t 12)),b 14 .eql 9 13] [0,1,14,2000000,2000001]) (.cond (.t 14) T1 .skip)
abbrev TX:AK:=.seq T0 TY
abbrev TW:AK:=.seq (.aa [k 4 (ci 0)] [0,1,2000000,2000001]) TX
abbrev zq:AK:=TW
theorem T2:aB Tryz.prog 235 60000 2 zq [.tmp 4]:=⟨_,Tryz.func235,by kernel_rfl⟩
theorem T3 {h a0 a1 Post} (hp:aD Tryz.prog zq [.tmp 4] 2 [(0,a0),(1,a1),(2000000,a0),(2000001,a1)] h Post):Eng.Spec Tryz.prog 235 h [a0,a1] Post:=aF T2 rfl [(0,a0),(1,a1),(2000000,a0),(2000001,a1)] ⟨rfl,rfl,rfl,rfl,trivial⟩ hp
abbrev Vy:AK:=.seq (.aa [k 2 (ci 0)] [2,2000000]) .ret
abbrev VA:AK:=.seq (.aa [k 2 (ci 6)] [2,2000000]) .ret
abbrev Vz:AK:=.seq (.aa [m 75 4,.v 76 (.un .not (.t 75))] [76,2000000]) (.cond (.t 76) VA .skip)
abbrev VP:AK:=.seq Vz Vy
abbrev VO:AK:=.seq (.aa [m 66 0,m 67 0,.v 68 (.aq (.t 67)),.v 69 (.ak false 1 1 (.t 68)),.v 70 (.ld false 1 (.t 69)),m 71 6,.eff 72 false 61072 (.app 1 1 (.t 70) (.t 71)),.v 73 (.aq (.t 66)),.v 74 (.ak false 1 1 (.t 73)),.aL false 61000 (.st 1 (.t 74) (.t 72))] [4,2000000]) VP
abbrev VC:AK:=.seq (.aa [k 2 (ci 2)] [2,2000000]) .ret
abbrev VB:AK:=.seq (.aa [u 61053 53 (.ah (.t 6)),u 61054 54 (.len true (.t 53)),u 61055 55 (.ah (.t 0)),u 61056 56 (.aq (.t 55)),u 61057 57 (.ak false 2 1 (.t 56)),u 61058 58 (.ld false 1 (.t 57)),u 61059 59 (.ah (.t 0)),u 61060 60 (.aq (.t 59)),u 61061 61 (.ak false 1 1 (.t 60)),u 61062 62 (.ld false 1 (.t 61)),u 61063 63 (.len false (.t 62)),u 61064 64 (.bin .sub (.t 58) (.t 63)),b 65 .gtr 54 64] [0,4,6,65,2000000]) (.cond (.t 65) VC .skip)
abbrev VN:AK:=.seq VB VO
abbrev VE:AK:=.aa [u 61040 40 (.ah (.t 0)),u 61041 41 (.aq (.t 40)),u 61042 42 (.ak false 0 1 (.t 41)),u 61043 43 (.ld false 1 (.t 42)),u 61044 44 (.ah (.t 0)),u 61045 45 (.aq (.t 44)),u 61046 46 (.ak false 0 1 (.t 45)),u 61047 47 (.ld false 1 (.t 46)),.aj (some 48) true 61048 245 [(.t 47)],u 61049 49 (.bin .quo (.t 48) (ci 8)),.aj (some 50) false 61050 243 [(.t 43),(.t 49)],m 39 50,u 61051 51 (.ext (.t 39) 0),u 61052 52 (.ext (.t 39) 1),u 61006 6 (.ah (.t 51))] [0,4,6,2000000]
abbrev VD:AK:=.seq (.aa [m 37 4,.v 38 (.un .not (.t 37))] [0,4,6,38,2000000]) (.cond (.t 38) VE .skip)
def zF:AK:=.seq VD (.a8 VN)
abbrev VM:AK:=.seq (.aa [m 29 0,.v 30 (.aq (.t 29)),.v 31 (.ak false 0 1 (.t 30)),.v 32 (.ld false 1 (.t 31)),m 33 5,.aj (some 34) false 61034 243 [(.t 32),(.t 33)],m 28 34,.v 35 (.ext (.t 28) 0),.v 36 (.ext (.t 28) 1),m 6 35,m 4 36] [0,4,6,2000000]) zF
abbrev VH:AK:=.seq (.aa [k 2 (ci 3)] [2,2000000]) .ret
abbrev VG:AK:=.seq (.aa [m 21 5,bi 22 .xor 21 65535,m 23 3,.v 24 (.bA (.t 23) (some (ci 2)) none),.aj (some 25) false 61025 244 [(.t 24)],.v 26 (.bc .i64 (.t 25)),b 27 .neq 22 26] [0,5,27,2000000]) (.cond (.t 27) VH .skip)
abbrev VL:AK:=.seq VG VM
abbrev VK:AK:=.seq (.aa [m 17 3,.v 18 (.bA (.t 17) none (some (ci 2))),.aj (some 19) false 61019 244 [(.t 18)],.v 20 (.bc .i64 (.t 19)),m 5 20] [0,3,5,2000000]) VL
abbrev VJ:AK:=.seq (.aa [k 2 (ci 6)] [2,2000000]) .ret
abbrev VI:AK:=.seq (.aa [m 15 4,.v 16 (.un .not (.t 15))] [0,3,16,2000000]) (.cond (.t 16) VJ .skip)
abbrev VF:AK:=.seq VI VK
abbrev Vx:AK:=.seq (.aa [m 8 0,.v 9 (.aq (.t 8)),.v 10 (.ak false 0 1 (.t 9)),.v 11 (.ld false 1 (.t 10)),.aj (some 12) false 61012 243 [(.t 11),(ci 4)],m 7 12,.v 13 (.ext (.t 7) 0),.v 14 (.ext (.t 7) 1),m 3 13,m 4 14] [0,3,4,2000000]) VF
abbrev Vw:AK:=.seq (.aa [k 2 (ci 0)] [0,2000000]) Vx
abbrev zE:AK:=Vw
theorem VQ:aB Tryz.prog 231 61000 1 zE [.tmp 2]:=⟨_,Tryz.func231,by kernel_rfl⟩
theorem VS {h a0 Post} (hp:aD Tryz.prog zE [.tmp 2] 1 [(0,a0),(2000000,a0)] h Post):Eng.Spec Tryz.prog 231 h [a0] Post:=aF VQ rfl [(0,a0),(2000000,a0)] ⟨rfl,rfl,trivial⟩ hp
abbrev V3:AK:=.seq (.aa [m 184 24,m 185 26,m 2 184,m 3 185,k 4 (ci 0)] [2,3,4,2000000]) .ret
abbrev V5:AK:=.seq (.aa [k 2 (.c (.lit (.pointer none))),k 3 (.c (.lit (.pointer none))),k 4 (ci 3)] [2,3,4,2000000]) .ret
abbrev V4:AK:=.seq (.aa [m 172 16,.v 173 (.aM 1 (.t 172) (ci 256)),.v 174 (.ld false 1 (.t 173)),bi 175 .eql 174 0,m 176 175,.af 177 176 false false 62177 (.ah (.t 25)),.af 178 176 false false 62178 (.bin .neq (.t 177) (ci 0)),.v 179 (.pick (.t 176) (.c (.bool true)) (.t 178)),m 180 179,.af 181 180 false false 62181 (.ah (.t 27)),.af 182 180 false false 62182 (.bin .neq (.t 181) (ci 0)),.v 183 (.pick (.t 180) (.c (.bool true)) (.t 182))] [24,26,183,2000000]) (.cond (.t 183) V5 .skip)
abbrev V0:AK:=.seq V4 V3
abbrev VZ:AK:=.seq (.aa [m 166 16,m 167 7,.v 168 (.gN 1 (.t 166) (some (.t 167)) none),.aj (some 169) false 62169 246 [(.t 168)],m 165 169,.v 170 (.ext (.t 165) 0),.v 171 (.ext (.t 165) 1),m 26 170,m 27 171] [16,24,25,26,27,2000000]) V0
abbrev tk:AK:=.seq (.aa [m 159 16,m 160 7,.v 161 (.gN 1 (.t 159) none (some (.t 160))),.aj (some 162) false 62162 246 [(.t 161)],m 158 162,.v 163 (.ext (.t 158) 0),.v 164 (.ext (.t 158) 1),m 24 163,m 25 164] [7,16,24,25,2000000]) VZ
abbrev Wl:AK:=.aa [bi 157 .add 151 1,m 151 157] [0,7,8,14,16,21,150,151,2000000]
abbrev Wm:AK:=.aa [m 153 16,m 154 21,.eff 155 false 62155 (.ba 1 [(.t 154)]),.eff 156 false 62156 (.app 1 8 (.t 153) (.t 155)),m 16 156] [0,7,8,14,16,21,150,151,2000000]
abbrev Wj:AK:=.seq (.block 6 Wm) Wl
abbrev Wi:AK:=.seq (.cond (.t 152) .skip (.exit 5)) Wj
abbrev Wh:AK:=.seq (.aa [b 152 .lss 151 150] [0,7,8,14,16,21,150,151,152,2000000]) Wi
abbrev W6:AK:=.loop Wh
abbrev Wf:AK:=.seq (.aa [m 147 20,m 148 22,.v 149 (.bc .i64 (.t 148)),b 150 .add 147 149,k 151 (ci 0)] [0,7,8,14,16,21,150,151,2000000]) (.block 5 W6)
abbrev Wp:AK:=.seq (.aa [k 2 (.c (.lit (.pointer none))),k 3 (.c (.lit (.pointer none))),k 4 (ci 3)] [2,3,4,2000000]) .ret
abbrev Wn:AK:=.seq (.aa [m 136 16,.v 137 (.len false (.t 136)),m 138 20,b 139 .add 137 138,m 140 22,.v 141 (.bc .i64 (.t 140)),b 142 .add 139 141,m 143 7,m 144 8,b 145 .add 143 144,b 146 .gtr 142 145] [0,7,8,14,16,20,21,22,146,2000000]) (.cond (.t 146) Wp .skip)
abbrev We:AK:=.seq Wn Wf
abbrev Wr:AK:=.seq (.aa [k 2 (.c (.lit (.pointer none))),k 3 (.c (.lit (.pointer none))),k 4 (ci 6)] [2,3,4,2000000]) .ret
abbrev Wq:AK:=.seq (.aa [m 134 23,.v 135 (.un .not (.t 134))] [0,7,8,14,16,20,21,22,135,2000000]) (.cond (.t 135) Wr .skip)
abbrev Wd:AK:=.seq Wq We
abbrev tm:AK:=.seq (.aa [m 126 0,.v 127 (.aq (.t 126)),.v 128 (.ak false 0 1 (.t 127)),.v 129 (.ld false 1 (.t 128)),m 130 19,.aj (some 131) false 62131 230 [(.t 129),(.t 130)],m 125 131,.v 132 (.ext (.t 125) 0),.v 133 (.ext (.t 125) 1),m 22 132,m 23 133] [0,7,8,14,16,20,21,22,23,2000000]) Wd
abbrev Wv:AK:=.aa [m 117 16,m 118 16,.v 119 (.len false (.t 118)),bi 120 .sub 119 1,.v 121 (.aM 1 (.t 117) (.t 120)),.v 122 (.ld false 1 (.t 121)),m 21 122] [0,7,8,14,16,19,20,21,2000000]
abbrev Wy:AK:=.seq (.aa [k 2 (.c (.lit (.pointer none))),k 3 (.c (.lit (.pointer none))),k 4 (ci 3)] [2,3,4,2000000]) .ret
abbrev Wx:AK:=.seq (.aa [m 114 16,.v 115 (.len false (.t 114)),bi 116 .eql 115 0] [0,7,8,14,16,19,20,116,2000000]) (.cond (.t 116) Wy .skip)
abbrev Wu:AK:=.seq Wx Wv
abbrev WA:AK:=.aa [k 19 (ci 3)] [0,7,8,14,16,19,20,21,2000000]
abbrev WB:AK:=.aa [k 19 (ci 7),k 20 (ci 11)] [0,7,8,14,16,19,20,21,2000000]
abbrev Wz:AK:=.seq (.aa [bi 124 .eql 111 17,m 123 124] [0,7,8,14,16,20,21,123,2000000]) (.cond (.t 123) WA WB)
abbrev Wt:AK:=.seq (.aa [bi 113 .eql 111 16,m 112 113] [0,7,8,14,16,19,20,21,111,112,2000000]) (.cond (.t 112) Wu Wz)
abbrev Ws:AK:=.seq (.aa [m 111 17] [0,7,8,14,16,19,20,21,111,2000000]) (.block 4 Wt)
def Wc:AK:=.seq Ws (.a8 tm)
abbrev Wb:AK:=.seq (.aa [k 19 (ci 2),k 20 (ci 3),k 21 (ci 0)] [0,7,8,14,16,17,19,20,21,2000000]) Wc
abbrev WD:AK:=.seq (.aa [m 107 16,m 108 17,.eff 109 false 62109 (.ba 1 [(.t 108)]),.eff 110 false 62110 (.app 1 8 (.t 107) (.t 109)),m 16 110] [0,7,8,14,16,2000000]) (.exit 3)
abbrev WC:AK:=.seq (.aa [m 105 17,bi 106 .lss 105 16] [0,7,8,14,16,17,106,2000000]) (.cond (.t 106) WD .skip)
abbrev Wa:AK:=.seq WC Wb
abbrev WG:AK:=.seq (.aa [m 104 18,k 2 (.c (.lit (.pointer none))),k 3 (.c (.lit (.pointer none))),m 4 104] [2,3,4,2000000]) .ret
abbrev WE:AK:=.seq (.aa [m 102 18,bi 103 .neq 102 0] [0,7,8,14,16,17,18,103,2000000]) (.cond (.t 103) WG .skip)
abbrev V9:AK:=.seq WE Wa
abbrev V8:AK:=.seq (.aa [m 94 14,m 95 0,.v 96 (.aq (.t 95)),.v 97 (.ak false 0 1 (.t 96)),.v 98 (.ld false 1 (.t 97)),.aj (some 99) false 62099 234 [(.t 94),(.t 98)],m 93 99,.v 100 (.ext (.t 93) 0),.v 101 (.ext (.t 93) 1),m 17 100,m 18 101] [0,7,8,14,16,17,18,2000000]) V9
abbrev WH:AK:=.seq (.aa [m 87 16,.v 88 (.len false (.t 87)),m 89 7,m 90 8,b 91 .add 89 90,b 92 .lss 88 91] [0,7,8,14,16,92,2000000]) (.cond (.t 92) .skip (.exit 2))
abbrev V6:AK:=.seq WH (.block 3 V8)
abbrev W5:AK:=.loop V6
def zH:AK:=.seq (.block 2 W5) (.a8 tk)
abbrev W4:AK:=.seq (.aa [k 16 (.c (.al))] [0,7,8,14,16,2000000]) zH
abbrev WJ:AK:=.seq (.aa [k 2 (.c (.lit (.pointer none))),k 3 (.c (.lit (.pointer none))),k 4 (ci 3)] [2,3,4,2000000]) .ret
abbrev WI:AK:=.seq (.aa [m 85 15,bi 86 .neq 85 0] [0,7,8,14,86,2000000]) (.cond (.t 86) WJ .skip)
abbrev WV:AK:=.seq WI W4
abbrev zJ:AK:=.seq (.aa [m 81 10,.aj (some 82) false 62082 246 [(.t 81)],m 80 82,.v 83 (.ext (.t 80) 0),.v 84 (.ext (.t 80) 1),m 14 83,m 15 84] [0,7,8,14,15,2000000]) WV
abbrev WO:AK:=.aa [bi 79 .add 59 1,m 59 79] [0,7,8,10,58,59,2000000]
abbrev WT:AK:=.aa [m 72 10,.aj (some 73) false 62073 247 [],m 74 11,.v 75 (.mr 19 (.t 73) (.t 74)),m 76 12,.v 77 (.bc .i64 (.t 76)),.v 78 (.aM 1 (.t 72) (.t 75)),.aL false 62000 (.st 1 (.t 78) (.t 77))] [0,7,8,10,58,59,2000000]
abbrev WW:AK:=.seq (.aa [k 2 (.c (.lit (.pointer none))),k 3 (.c (.lit (.pointer none))),k 4 (ci 6)] [2,3,4,2000000]) .ret
abbrev WU:AK:=.seq (.aa [m 70 13,.v 71 (.un .not (.t 70))] [0,7,8,10,11,12,58,59,71,2000000]) (.cond (.t 71) WW .skip)
abbrev WS:AK:=.seq WU WT
abbrev WR:AK:=.seq (.aa [m 63 0,.v 64 (.aq (.t 63)),.v 65 (.ak false 0 1 (.t 64)),.v 66 (.ld false 1 (.t 65)),.aj (some 67) false 62067 230 [(.t 66),(ci 3)],m 62 67,.v 68 (.ext (.t 62) 0),.v 69 (.ext (.t 62) 1),m 12 68,m 13 69] [0,7,8,10,11,12,13,58,59,2000000]) WS
abbrev WQ:AK:=.seq (.aa [m 61 59,m 11 61] [0,7,8,10,11,58,59,2000000]) WR
abbrev WN:AK:=.seq (.block 1 WQ) WO
abbrev WM:AK:=.seq (.cond (.t 60) .skip (.exit 0)) WN
abbrev WL:AK:=.seq (.aa [b 60 .lss 59 58] [0,7,8,10,58,59,60,2000000]) WM
abbrev W7:AK:=.loop WL
abbrev WK:AK:=.seq (.aa [m 58 9,k 59 (ci 0)] [0,7,8,10,58,59,2000000]) (.block 0 W7)
def zI:AK:=.seq WK (.a8 zJ)
abbrev Ww:AK:=.seq (.aa [.eff 57 false 62057 (.kl 1 8 [.int .i64 0] (ci 19) (ci 19)),m 10 57] [0,7,8,9,10,2000000]) zI
abbrev WY:AK:=.seq (.aa [k 2 (.c (.lit (.pointer none))),k 3 (.c (.lit (.pointer none))),k 4 (ci 3)] [2,3,4,2000000]) .ret
abbrev WX:AK:=.seq (.aa [m 51 7,bi 52 .gtr 51 286,m 53 52,.af 54 53 false false 62054 (.ah (.t 8)),.af 55 53 false false 62055 (.bin .gtr (.t 54) (ci 30)),.v 56 (.pick (.t 53) (.c (.bool true)) (.t 55))] [0,7,8,9,56,2000000]) (.cond (.t 56) WY .skip)
abbrev Wo:AK:=.seq WX Ww
abbrev Wg:AK:=.seq (.aa [m 38 5,.v 39 (.bin .and (.t 38) (.c (.int .u32 31))),.v 40 (.bc .i64 (.t 39)),bi 41 .add 40 257,m 42 5,.v 43 (.bin .shr (.t 42) (.c (.int .u64 5))),.v 44 (.bin .and (.t 43) (.c (.int .u32 31))),.v 45 (.bc .i64 (.t 44)),bi 46 .add 45 1,m 47 5,.v 48 (.bin .shr (.t 47) (.c (.int .u64 10))),.v 49 (.bc .i64 (.t 48)),bi 50 .add 49 4,m 7 41,m 8 46,m 9 50] [0,7,8,9,2000000]) Wo
abbrev W3:AK:=.seq (.aa [k 2 (.c (.lit (.pointer none))),k 3 (.c (.lit (.pointer none))),k 4 (ci 6)] [2,3,4,2000000]) .ret
abbrev WZ:AK:=.seq (.aa [m 36 6,.v 37 (.un .not (.t 36))] [0,5,37,2000000]) (.cond (.t 37) W3 .skip)
abbrev V7:AK:=.seq WZ Wg
abbrev VY:AK:=.seq (.aa [m 29 0,.v 30 (.aq (.t 29)),.v 31 (.ak false 0 1 (.t 30)),.v 32 (.ld false 1 (.t 31)),.aj (some 33) false 62033 230 [(.t 32),(ci 14)],m 28 33,.v 34 (.ext (.t 28) 0),.v 35 (.ext (.t 28) 1),m 5 34,m 6 35] [0,5,6,2000000]) V7
abbrev VX:AK:=.seq (.aa [k 2 (.c (.lit (.pointer none))),k 3 (.c (.lit (.pointer none))),k 4 (ci 0)] [0,2000000]) VY
abbrev zG:AK:=VX
theorem W8:aB Tryz.prog 233 62000 1 zG [.tmp 2,.tmp 3,.tmp 4]:=⟨_,Tryz.func233,by kernel_rfl⟩
theorem Xa {h a0 Post} (hp:aD Tryz.prog zG [.tmp 2,.tmp 3,.tmp 4] 1 [(0,a0),(2000000,a0)] h Post):Eng.Spec Tryz.prog 233 h [a0] Post:=aF W8 rfl [(0,a0),(2000000,a0)] ⟨rfl,rfl,trivial⟩ hp
abbrev Ub:AK:=.seq (.aa [k 6 (ci 0)] [6,2000000,2000001,2000002]) .ret
abbrev Uh:AK:=.aa [bi 100 .add 80 1,m 80 100] [0,13,79,80,2000000,2000001,2000002]
abbrev Uk:AK:=.seq (.aa [m 99 14,m 6 99] [6,2000000,2000001,2000002]) .ret
abbrev Uj:AK:=.seq (.aa [m 97 14,bi 98 .neq 97 0] [0,13,14,79,80,98,2000000,2000001,2000002]) (.cond (.t 98) Uk .skip)
abbrev Ui:AK:=.seq (.aa [u 63082 82 (.ah (.t 0)),u 63083 83 (.ah (.t 0)),u 63084 84 (.aq (.t 83)),u 63085 85 (.ak false 1 1 (.t 84)),u 63086 86 (.ld false 1 (.t 85)),u 63087 87 (.ah (.t 0)),u 63088 88 (.aq (.t 87)),u 63089 89 (.ak false 1 1 (.t 88)),u 63090 90 (.ld false 1 (.t 89)),u 63091 91 (.len false (.t 90)),u 63092 92 (.ah (.t 13)),u 63093 93 (.bin .sub (.t 91) (.t 92)),.v 94 (.aM 1 (.t 86) (.t 93)),.v 95 (.ld false 1 (.t 94)),.aj (some 96) false 63096 235 [(.t 82),(.t 95)],m 14 96] [0,13,14,79,80,2000000,2000001,2000002]) Uj
abbrev Ug:AK:=.seq (.block 1 Ui) Uh
abbrev Ue:AK:=.seq (.cond (.t 81) .skip (.exit 0)) Ug
abbrev Ud:AK:=.seq (.aa [b 81 .lss 80 79] [0,13,79,80,81,2000000,2000001,2000002]) Ue
abbrev UE:AK:=.loop Ud
abbrev Uc:AK:=.seq (.aa [m 79 7,k 80 (ci 0)] [0,13,79,80,2000000,2000001,2000002]) (.block 0 UE)
abbrev Ua:AK:=.seq Uc Ub
abbrev Un:AK:=.seq (.aa [k 6 (ci 3)] [6,2000000,2000001,2000002]) .ret
abbrev Ul:AK:=.seq (.aa [m 72 13,m 73 0,.v 74 (.aq (.t 73)),.v 75 (.ak false 1 1 (.t 74)),.v 76 (.ld false 1 (.t 75)),.v 77 (.len false (.t 76)),b 78 .gtr 72 77] [0,7,13,78,2000000,2000001,2000002]) (.cond (.t 78) Un .skip)
abbrev T9:AK:=.seq Ul Ua
abbrev T8:AK:=.seq (.aa [m 68 13,m 69 9,.v 70 (.bc .i64 (.t 69)),b 71 .add 68 70,m 13 71] [0,7,13,2000000,2000001,2000002]) T9
abbrev Up:AK:=.seq (.aa [k 6 (ci 6)] [6,2000000,2000001,2000002]) .ret
abbrev Uo:AK:=.seq (.aa [m 66 10,.v 67 (.un .not (.t 66))] [0,7,9,13,67,2000000,2000001,2000002]) (.cond (.t 67) Up .skip)
abbrev T7:AK:=.seq Uo T8
abbrev T6:AK:=.seq (.aa [m 58 0,.v 59 (.aq (.t 58)),.v 60 (.ak false 0 1 (.t 59)),.v 61 (.ld false 1 (.t 60)),m 62 8,.aj (some 63) false 63063 230 [(.t 61),(.t 62)],m 57 63,.v 64 (.ext (.t 57) 0),.v 65 (.ext (.t 57) 1),m 9 64,m 10 65] [0,7,9,10,13,2000000,2000001,2000002]) T7
abbrev UD:AK:=.seq (.aa [m 53 11,.aj (some 54) false 63054 249 [(.t 53)],m 52 54,.v 55 (.ext (.t 52) 0),.v 56 (.ext (.t 52) 1),m 13 55,m 8 56] [0,7,8,13,2000000,2000001,2000002]) T6
abbrev Ur:AK:=.seq (.aa [k 6 (ci 3)] [6,2000000,2000001,2000002]) .ret
abbrev Uq:AK:=.seq (.aa [m 50 11,bi 51 .gtr 50 29] [0,7,11,51,2000000,2000001,2000002]) (.cond (.t 51) Ur .skip)
abbrev UC:AK:=.seq Uq UD
abbrev Ut:AK:=.seq (.aa [m 49 12,m 6 49] [6,2000000,2000001,2000002]) .ret
abbrev Us:AK:=.seq (.aa [m 47 12,bi 48 .neq 47 0] [0,7,11,12,48,2000000,2000001,2000002]) (.cond (.t 48) Ut .skip)
abbrev UB:AK:=.seq Us UC
abbrev UA:AK:=.seq (.aa [m 39 2,m 40 0,.v 41 (.aq (.t 40)),.v 42 (.ak false 0 1 (.t 41)),.v 43 (.ld false 1 (.t 42)),.aj (some 44) false 63044 234 [(.t 39),(.t 43)],m 38 44,.v 45 (.ext (.t 38) 0),.v 46 (.ext (.t 38) 1),m 11 45,m 12 46] [0,7,11,12,2000000,2000001,2000002]) UB
abbrev Uz:AK:=.seq (.aa [m 34 7,m 35 9,.v 36 (.bc .i64 (.t 35)),b 37 .add 34 36,m 7 37] [0,2,7,2000000,2000001,2000002]) UA
abbrev Uw:AK:=.seq (.aa [k 6 (ci 6)] [6,2000000,2000001,2000002]) .ret
abbrev Uv:AK:=.seq (.aa [m 32 10,.v 33 (.un .not (.t 32))] [0,2,7,9,33,2000000,2000001,2000002]) (.cond (.t 33) Uw .skip)
abbrev Uu:AK:=.seq Uv Uz
abbrev Um:AK:=.seq (.aa [m 24 0,.v 25 (.aq (.t 24)),.v 26 (.ak false 0 1 (.t 25)),.v 27 (.ld false 1 (.t 26)),m 28 8,.aj (some 29) false 63029 230 [(.t 27),(.t 28)],m 23 29,.v 30 (.ext (.t 23) 0),.v 31 (.ext (.t 23) 1),m 9 30,m 10 31] [0,2,7,9,10,2000000,2000001,2000002]) Uu
abbrev Uf:AK:=.seq (.aa [m 18 1,bi 19 .sub 18 257,.aj (some 20) false 63020 248 [(.t 19)],m 17 20,.v 21 (.ext (.t 17) 0),.v 22 (.ext (.t 17) 1),m 7 21,m 8 22] [0,2,7,8,2000000,2000001,2000002]) Um
abbrev Uy:AK:=.seq (.aa [k 6 (ci 3)] [6,2000000,2000001,2000002]) .ret
abbrev Ux:AK:=.seq (.aa [m 15 1,bi 16 .gtr 15 285] [0,1,2,16,2000000,2000001,2000002]) (.cond (.t 16) Uy .skip)
abbrev T5:AK:=.seq Ux Uf
abbrev T4:AK:=.seq (.aa [k 6 (ci 0)] [0,1,2,2000000,2000001,2000002]) T5
abbrev zt:AK:=T4
theorem UF:aB Tryz.prog 236 63000 3 zt [.tmp 6]:=⟨_,Tryz.func236,by kernel_rfl⟩
theorem UH {h a0 a1 a2 Post} (hp:aD Tryz.prog zt [.tmp 6] 3 [(0,a0),(1,a1),(2,a2),(2000000,a0),(2000001,a1),(2000002,a2)] h Post):Eng.Spec Tryz.prog 236 h [a0,a1,a2] Post:=aF UF rfl [(0,a0),(1,a1),(2,a2),(2000000,a0),(2000001,a1),(2000002,a2)] ⟨rfl,rfl,rfl,rfl,rfl,rfl,trivial⟩ hp
abbrev UP:AK:=.seq (.aa [k 2 (ci 0)] [2,2000000]) .ret
abbrev UQ:AK:=.seq (.aa [m 72 3,.v 73 (.bin .and (.t 72) (.c (.int .u32 1))),.v 74 (.bin .eql (.t 73) (.c (.int .u32 0)))] [0,74,2000000]) (.cond (.t 74) (.goto 0) .skip)
abbrev zx:AK:=.seq UQ UP
abbrev UO:AK:=.seq (.label 1) zx
abbrev US:AK:=.seq (.aa [m 71 5,m 2 71] [2,2000000]) .ret
abbrev UN:AK:=.seq US UO
abbrev UT:AK:=.seq (.aa [m 69 5,bi 70 .eql 69 0] [0,3,5,7,8,70,2000000]) (.cond (.t 70) (.goto 2) .skip)
abbrev zw:AK:=.seq UT UN
abbrev UW:AK:=.aa [m 61 0,m 62 6,.v 63 (.bc .u8 (.t 62)),.aj (some 64) false 64064 235 [(.t 61),(.t 63)],m 5 64] [0,3,5,7,8,2000000]
abbrev UX:AK:=.aa [m 65 0,m 66 6,m 67 8,.aj (some 68) false 64068 236 [(.t 65),(.t 66),(.t 67)],m 5 68] [0,3,5,7,8,2000000]
abbrev UU:AK:=.seq (.aa [m 59 6,bi 60 .lss 59 256] [0,3,6,7,8,60,2000000]) (.cond (.t 60) UW UX)
def UM:AK:=.seq UU (.a8 zw)
abbrev UY:AK:=.seq (.aa [m 57 6,bi 58 .eql 57 256] [0,3,6,7,8,58,2000000]) (.cond (.t 58) (.goto 1) .skip)
abbrev UL:AK:=.seq UY UM
abbrev U2:AK:=.seq (.aa [m 56 5,m 2 56] [2,2000000]) .ret
abbrev U1:AK:=.seq (.aa [m 54 5,bi 55 .neq 54 0] [0,3,5,6,7,8,55,2000000]) (.cond (.t 55) U2 .skip)
abbrev U0:AK:=.seq (.aa [m 46 7,m 47 0,.v 48 (.aq (.t 47)),.v 49 (.ak false 0 1 (.t 48)),.v 50 (.ld false 1 (.t 49)),.aj (some 51) false 64051 234 [(.t 46),(.t 50)],m 45 51,.v 52 (.ext (.t 45) 0),.v 53 (.ext (.t 45) 1),m 6 52,m 5 53] [0,3,5,6,7,8,2000000]) U1
abbrev ti:AK:=.seq U0 UL
abbrev UK:AK:=.seq (.label 2) ti
abbrev U3:AK:=.seq (.aa [k 2 (ci 3)] [2,2000000]) .ret
abbrev Vo:AK:=.seq U3 UK
abbrev Va:AK:=.seq (.aa [m 27 5,m 2 27] [2,2000000]) .ret
abbrev U9:AK:=.seq (.aa [m 25 5,bi 26 .neq 25 0] [0,3,5,26,2000000]) (.cond (.t 26) Va .skip)
abbrev U8:AK:=.seq (.aa [m 23 0,.aj (some 24) false 64024 231 [(.t 23)],m 5 24] [0,3,5,2000000]) U9
abbrev U6:AK:=.seq U8 (.goto 1)
abbrev Vc:AK:=.seq (.aa [.aj (some 31) false 64031 232 [],m 30 31,.v 32 (.ext (.t 30) 0),.v 33 (.ext (.t 30) 1),m 7 32,m 8 33] [0,3,7,8,2000000]) (.goto 2)
abbrev Vi:AK:=.seq (.aa [m 44 5,m 2 44] [2,2000000]) .ret
abbrev Vh:AK:=.seq (.aa [m 42 5,bi 43 .neq 42 0] [0,3,5,7,8,43,2000000]) (.cond (.t 43) Vi .skip)
abbrev Vg:AK:=.seq (.aa [m 37 0,.aj (some 38) false 64038 233 [(.t 37)],m 36 38,.v 39 (.ext (.t 36) 0),.v 40 (.ext (.t 36) 1),.v 41 (.ext (.t 36) 2),m 7 39,m 8 40,m 5 41] [0,3,5,7,8,2000000]) Vh
abbrev Ve:AK:=.seq Vg (.goto 2)
abbrev Vd:AK:=.seq (.aa [.v 35 (.bin .eql (.t 20) (.c (.int .u32 2))),m 34 35] [0,3,34,2000000]) (.cond (.t 34) Ve .skip)
abbrev Vb:AK:=.seq (.aa [.v 29 (.bin .eql (.t 20) (.c (.int .u32 1))),m 28 29] [0,3,20,28,2000000]) (.cond (.t 28) Vc Vd)
abbrev U5:AK:=.seq (.aa [.v 22 (.bin .eql (.t 20) (.c (.int .u32 0))),m 21 22] [0,3,20,21,2000000]) (.cond (.t 21) U6 Vb)
abbrev U4:AK:=.seq (.aa [m 19 3,.v 20 (.bin .shr (.t 19) (.c (.int .u64 1)))] [0,3,20,2000000]) (.block 0 U5)
abbrev Vn:AK:=.seq U4 Vo
abbrev Vl:AK:=.seq (.aa [k 2 (ci 6)] [2,2000000]) .ret
abbrev Vk:AK:=.seq (.aa [m 17 4,.v 18 (.un .not (.t 17))] [0,3,18,2000000]) (.cond (.t 18) Vl .skip)
abbrev Vj:AK:=.seq (.aa [m 10 0,.v 11 (.aq (.t 10)),.v 12 (.ak false 0 1 (.t 11)),.v 13 (.ld false 1 (.t 12)),.aj (some 14) false 64014 230 [(.t 13),(ci 3)],m 9 14,.v 15 (.ext (.t 9) 0),.v 16 (.ext (.t 9) 1),m 3 15,m 4 16] [0,3,4,2000000]) Vk
abbrev qa:AK:=.seq Vj Vn
def Vm:AK:=.seq (.label 0) (.a8 qa)
abbrev Vf:AK:=.seq (.aa [k 7 (.c (.lit (.pointer none))),k 8 (.c (.lit (.pointer none)))] [0,2000000]) Vm
abbrev U7:AK:=.seq (.aa [k 6 (ci 0)] [0,2000000]) Vf
abbrev UZ:AK:=.seq (.aa [k 5 (ci 0)] [0,2000000]) U7
abbrev UR:AK:=.seq (.aa [k 4 (.c (.bool false))] [0,2000000]) UZ
abbrev UJ:AK:=.seq (.aa [k 3 (.c (.int .u32 0))] [0,2000000]) UR
abbrev Vp:AK:=.scope UJ
abbrev UI:AK:=.seq (.aa [k 2 (ci 0)] [0,2000000]) Vp
abbrev zu:AK:=UI
theorem Vq:aB Tryz.prog 215 64000 1 zu [.tmp 2]:=⟨_,Tryz.func215,by kernel_rfl⟩
theorem Vt {h a0 Post} (hp:aD Tryz.prog zu [.tmp 2] 1 [(0,a0),(2000000,a0)] h Post):Eng.Spec Tryz.prog 215 h [a0] Post:=aF Vq rfl [(0,a0),(2000000,a0)] ⟨rfl,rfl,trivial⟩ hp
abbrev Tz:AK:=.seq (.aa [u 65038 38 (.ah (.t 9)),u 65039 39 (.aq (.t 38)),u 65040 40 (.ak false 1 1 (.t 39)),u 65041 41 (.ld false 1 (.t 40)),u 65042 42 (.gS (.t 41)),u 65043 43 (.ah (.t 9)),u 65044 44 (.aq (.t 43)),u 65045 45 (.ak false 0 1 (.t 44)),u 65046 46 (.ld false 1 (.t 45)),.aj (some 47) true 65047 216 [(.t 46)],m 6 42,m 7 47,k 8 (ci 0)] [6,7,8]) .ret
abbrev TD:AK:=.seq (.aa [m 37 10,k 6 (.c (.str [])),k 7 (ci 0),m 8 37] [6,7,8]) .ret
abbrev TC:AK:=.seq (.aa [m 35 10,bi 36 .neq 35 0] [9,10,36]) (.cond (.t 36) TD .skip)
abbrev TA:AK:=.seq (.aa [m 33 9,.aj (some 34) false 65034 215 [(.t 33)],m 10 34] [9,10]) TC
abbrev Ty:AK:=.seq TA Tz
abbrev Tx:AK:=.seq (.aa [m 27 0,m 28 1,.aj (some 29) false 65029 214 [(.t 27),(.t 28)],m 30 2,.v 31 (.bJ [.lit (.pointer none),.al,.int .i64 0] [(0,1,(.t 29)),(2,1,(.t 30))]),.eff 32 false 65032 (.box 3 (.t 31)),m 9 32] [9]) Ty
abbrev Tw:AK:=.seq (.aa [k 6 (.c (.str [])),k 7 (ci 0),k 8 (ci 1)] [6,7,8]) .ret
abbrev TE:AK:=.seq (.aa [m 11 1,bi 12 .lss 11 0,m 13 12,.af 14 13 false false 65014 (.ah (.t 1)),.af 15 13 false false 65015 (.ah (.t 0)),.af 16 13 false false 65016 (.len true (.t 15)),.af 17 13 false false 65017 (.bin .gtr (.t 14) (.t 16)),.v 18 (.pick (.t 13) (.c (.bool true)) (.t 17)),m 19 18,.af 20 19 false false 65020 (.ah (.t 2)),.af 21 19 false false 65021 (.bin .lss (.t 20) (ci 0)),.v 22 (.pick (.t 19) (.c (.bool true)) (.t 21)),m 23 22,.af 24 23 false false 65024 (.ah (.t 2)),.af 25 23 false false 65025 (.bin .gtr (.t 24) (ci 65536)),.v 26 (.pick (.t 23) (.c (.bool true)) (.t 25))] [0,1,2,26]) (.cond (.t 26) Tw .skip)
abbrev Tv:AK:=.seq TE Tx
abbrev Tu:AK:=.seq (.aa [k 6 (.c (.str [])),k 7 (ci 0),k 8 (ci 0)] [0,1,2]) Tv
abbrev inflate:AK:=Tu
theorem TF:aB Tryz.prog 180 65000 3 inflate [.tmp 6,.tmp 7,.tmp 8]:=⟨_,Tryz.func180,by kernel_rfl⟩
theorem TH {h a0 a1 a2 Post} (hp:aD Tryz.prog inflate [.tmp 6,.tmp 7,.tmp 8] 3 [(0,a0),(1,a1),(2,a2)] h Post):Eng.Spec Tryz.prog 180 h [a0,a1,a2] Post:=aF TF rfl [(0,a0),(1,a1),(2,a2)] ⟨rfl,rfl,rfl,trivial⟩ hp
abbrev SR:AK:=.seq (.aa [m 46 5,m 47 7,m 0 46,m 1 47] [0,1]) .ret
abbrev SQ:AK:=.seq (.aa [m 42 3,.aj (some 43) false 66043 246 [(.t 42)],m 41 43,.v 44 (.ext (.t 41) 0),.v 45 (.ext (.t 41) 1),m 7 44,m 8 45] [5,7]) SR
abbrev SP:AK:=.seq (.aa [m 37 2,.aj (some 38) false 66038 246 [(.t 37)],m 36 38,.v 39 (.ext (.t 36) 0),.v 40 (.ext (.t 36) 1),m 5 39,m 6 40] [3,5]) SQ
abbrev Sy:AK:=.aa [bi 35 .add 30 1,m 30 35] [2,3,30]
abbrev Sz:AK:=.aa [m 32 3,.eff 33 false 66033 (.ba 1 [(ci 5)]),.eff 34 false 66034 (.app 1 8 (.t 32) (.t 33)),m 3 34] [2,3,30]
abbrev Sx:AK:=.seq (.block 4 Sz) Sy
abbrev Sw:AK:=.seq (.cond (.t 31) .skip (.exit 3)) Sx
abbrev SV:AK:=.seq (.aa [bi 31 .lss 30 32] [2,3,30,31]) Sw
abbrev SX:AK:=.loop SV
abbrev SU:AK:=.seq (.aa [k 30 (ci 0)] [2,3,30]) (.block 3 SX)
abbrev SK:AK:=.seq SU SP
abbrev SF:AK:=.aa [bi 29 .add 9 1,m 9 29] [2,3,9]
abbrev SI:AK:=.aa [m 20 2,.eff 21 false 66021 (.ba 1 [(ci 8)]),.eff 22 false 66022 (.app 1 8 (.t 20) (.t 21)),m 2 22] [2,3,9]
abbrev SL:AK:=.aa [m 26 2,.eff 27 false 66027 (.ba 1 [(ci 9)]),.eff 28 false 66028 (.app 1 8 (.t 26) (.t 27)),m 2 28] [2,3,9]
abbrev SM:AK:=.aa [m 12 2,.eff 13 false 66013 (.ba 1 [(ci 7)]),.eff 14 false 66014 (.app 1 8 (.t 12) (.t 13)),m 2 14] [2,3,9]
abbrev SJ:AK:=.seq (.aa [m 24 4,bi 25 .lss 24 256,m 23 25] [2,3,9,23]) (.cond (.t 23) SL SM)
abbrev SO:AK:=.aa [m 18 4,bi 19 .geq 18 280,m 15 19] [2,3,4,9,15]
abbrev SN:AK:=.seq (.aa [m 16 4,bi 17 .lss 16 144,m 15 17] [2,3,4,9,15]) (.cond (.t 15) .skip SO)
def SH:AK:=.seq SN (.a8 (.cond (.t 15) SI SJ))
abbrev SG:AK:=.seq (.aa [m 11 9,m 4 11] [2,3,4,9]) (.block 2 SH)
abbrev SE:AK:=.seq (.block 1 SG) SF
abbrev SC:AK:=.seq (.cond (.t 10) .skip (.exit 0)) SE
abbrev SB:AK:=.seq (.aa [bi 10 .lss 9 288] [2,3,9,10]) SC
abbrev SY:AK:=.loop SB
abbrev SA:AK:=.seq (.aa [k 9 (ci 0)] [2,3,9]) (.block 0 SY)
abbrev SD:AK:=.seq SA SK
abbrev Su:AK:=.seq (.aa [k 2 (.c (.al)),k 3 (.c (.al))] [2,3]) SD
abbrev Ss:AK:=.seq (.aa [k 0 (.c (.lit (.pointer none))),k 1 (.c (.lit (.pointer none)))] []) Su
abbrev zi:AK:=Ss
theorem SZ:aB Tryz.prog 232 66000 0 zi [.tmp 0,.tmp 1]:=⟨_,Tryz.func232,by kernel_rfl⟩
theorem S6 {h Post} (hp:aD Tryz.prog zi [.tmp 0,.tmp 1] 0 [] h Post):Eng.Spec Tryz.prog 232 h [] Post:=aF SZ rfl [] trivial hp
abbrev TS:AK:=.seq (.aa [.v 1 (.bJ [.int .i64 0,.int .i64 0,.int .i64 0,.int .i64 0,.int .i64 0,.int .i64 0,.int .i64 0,.int .i64 0,.int .i64 0,.int .i64 0,.int .i64 0,.int .i64 0,.int .i64 0,.int .i64 0,.int .i64 0,.int .i64 0,.int .i64 0,.int .i64 0,.int .i64 0] [(0,1,(ci 16)),(1,1,(ci 17)),(2,1,(ci 18)),(3,1,(ci 0)),(4,1,(ci 8)),(5,1,(ci 7)),(6,1,(ci 9)),(7,1,(ci 6)),(8,1,(ci 10)),(9,1,(ci 5)),(10,1,(ci 11)),(11,1,(ci 4)),(12,1,(ci 12)),(13,1,(ci 3)),(14,1,(ci 13)),(15,1,(ci 2)),(16,1,(ci 14)),(17,1,(ci 1)),(18,1,(ci 15))]),.aL false 67000 (.st 19 (.t 0) (.t 1))] [0]) .ret
abbrev TR:AK:=.seq (.aa [.eff 0 false 67000 (.alloc [.int .i64 0,.int .i64 0,.int .i64 0,.int .i64 0,.int .i64 0,.int .i64 0,.int .i64 0,.int .i64 0,.int .i64 0,.int .i64 0,.int .i64 0,.int .i64 0,.int .i64 0,.int .i64 0,.int .i64 0,.int .i64 0,.int .i64 0,.int .i64 0,.int .i64 0])] [0]) TS
abbrev zp:AK:=TR
theorem TT:aB Tryz.prog 247 67000 0 zp [.cell 0 true 19]:=⟨_,Tryz.func247,by kernel_rfl⟩
theorem TV {h Post} (hp:aD Tryz.prog zp [.cell 0 true 19] 0 [] h Post):Eng.Spec Tryz.prog 247 h [] Post:=aF TT rfl [] trivial hp
abbrev Td:AK:=.seq (.aa [m 14 0,bi 15 .rem 14 4,.v 16 (.bin .add (ci 4) (.t 15)),m 17 4,b 18 .shl 16 17,.v 19 (.bin .add (ci 3) (.t 18)),m 20 4,m 2 19,m 3 20] [2,3]) .ret
abbrev Tc:AK:=.seq (.aa [m 11 0,bi 12 .quo 11 4,bi 13 .sub 12 1,m 4 13] [0,4]) Td
abbrev Tf:AK:=.seq (.aa [m 9 0,.v 10 (.bin .add (ci 3) (.t 9)),m 2 10,k 3 (ci 0)] [2,3]) .ret
abbrev Te:AK:=.seq (.aa [m 7 0,bi 8 .lss 7 8] [0,8]) (.cond (.t 8) Tf .skip)
abbrev Tb:AK:=.seq Te Tc
abbrev Ta:AK:=.seq (.aa [k 2 (ci 258),k 3 (ci 0)] [2,3]) .ret
abbrev Tg:AK:=.seq (.aa [m 5 0,bi 6 .eql 5 28] [0,6]) (.cond (.t 6) Ta .skip)
abbrev S9:AK:=.seq Tg Tb
abbrev S8:AK:=.seq (.aa [k 2 (ci 0),k 3 (ci 0)] [0]) S9
abbrev zj:AK:=S8
theorem Th:aB Tryz.prog 248 68000 1 zj [.tmp 2,.tmp 3]:=⟨_,Tryz.func248,by kernel_rfl⟩
theorem Tk {h a0 Post} (hp:aD Tryz.prog zj [.tmp 2,.tmp 3] 1 [(0,a0)] h Post):Eng.Spec Tryz.prog 248 h [a0] Post:=aF Th rfl [(0,a0)] ⟨rfl,trivial⟩ hp
abbrev Sa:AK:=.seq (.aa [m 12 0,bi 13 .rem 12 2,.v 14 (.bin .add (ci 2) (.t 13)),m 15 4,b 16 .shl 14 15,.v 17 (.bin .add (ci 1) (.t 16)),m 18 4,m 2 17,m 3 18] [2,3]) .ret
abbrev R9:AK:=.seq (.aa [m 9 0,bi 10 .quo 9 2,bi 11 .sub 10 1,m 4 11] [0,4]) Sa
abbrev Sc:AK:=.seq (.aa [m 7 0,.v 8 (.bin .add (ci 1) (.t 7)),m 2 8,k 3 (ci 0)] [2,3]) .ret
abbrev Sb:AK:=.seq (.aa [m 5 0,bi 6 .lss 5 4] [0,6]) (.cond (.t 6) Sc .skip)
abbrev R8:AK:=.seq Sb R9
abbrev R7:AK:=.seq (.aa [k 2 (ci 0),k 3 (ci 0)] [0]) R8
abbrev zg:AK:=R7
theorem Sd:aB Tryz.prog 249 69000 1 zg [.tmp 2,.tmp 3]:=⟨_,Tryz.func249,by kernel_rfl⟩
theorem Sf {h a0 Post} (hp:aD Tryz.prog zg [.tmp 2,.tmp 3] 1 [(0,a0)] h Post):Eng.Spec Tryz.prog 249 h [a0] Post:=aF Sd rfl [(0,a0)] ⟨rfl,trivial⟩ hp
abbrev ajX:AK:=.aa [m 9 0,m 10 1,.v 11 (.aq (.t 9)),.v 12 (.ak false 4 1 (.t 11)),.aL false 70000 (.st 1 (.t 12) (.t 10))] [2000000,2000001]
abbrev ajW:AK:=.seq (.aa [m 4 0,.v 5 (.aq (.t 4)),.v 6 (.ak false 4 1 (.t 5)),.v 7 (.ld false 1 (.t 6)),bi 8 .eql 7 0] [0,1,8,2000000,2000001]) (.cond (.t 8) ajX .skip)
abbrev BO:AK:=ajW
theorem ajY:aB Tryz.prog 194 70000 2 BO []:=⟨_,Tryz.func194,by kernel_rfl⟩
theorem ajZ {h a0 a1 Post} (hp:aD Tryz.prog BO [] 2 [(0,a0),(1,a1),(2000000,a0),(2000001,a1)] h Post):Eng.Spec Tryz.prog 194 h [a0,a1] Post:=aF ajY rfl [(0,a0),(1,a1),(2000000,a0),(2000001,a1)] ⟨rfl,rfl,rfl,rfl,trivial⟩ hp
abbrev alL:AK:=.seq (.aa [m 50 5,m 4 50] [4,2000000,2000001]) .ret
abbrev alK:AK:=.seq (.aa [m 42 0,.v 43 (.aq (.t 42)),.v 44 (.ak false 1 1 (.t 43)),.v 45 (.ld false 1 (.t 44)),m 46 1,b 47 .add 45 46,.v 48 (.aq (.t 42)),.v 49 (.ak false 1 1 (.t 48)),.aL false 71000 (.st 1 (.t 49) (.t 47))] [5,2000000,2000001]) alL
abbrev alJ:AK:=.seq (.aa [u 71025 25 (.ah (.t 0)),u 71026 26 (.aq (.t 25)),u 71027 27 (.ak false 0 1 (.t 26)),u 71028 28 (.ld false 1 (.t 27)),u 71029 29 (.ah (.t 0)),u 71030 30 (.aq (.t 29)),u 71031 31 (.ak false 1 1 (.t 30)),u 71032 32 (.ld false 1 (.t 31)),u 71033 33 (.ah (.t 0)),u 71034 34 (.aq (.t 33)),u 71035 35 (.ak false 1 1 (.t 34)),u 71036 36 (.ld false 1 (.t 35)),u 71037 37 (.ah (.t 1)),u 71038 38 (.bin .add (.t 36) (.t 37)),.v 39 (.gN 1 (.t 28) (some (.t 32)) (some (.t 38))),.aj (some 40) false 71040 222 [(.t 39)],.v 41 (.bc .i64 (.t 40)),m 5 41] [0,1,5,2000000,2000001]) alK
abbrev alO:AK:=.seq (.aa [k 4 (ci 0)] [4,2000000,2000001]) .ret
abbrev alN:AK:=.seq (.aa [m 23 0,.aj (some 24) false 71024 194 [(.t 23),(ci 6)]] [2000000,2000001]) alO
abbrev alM:AK:=.seq (.aa [u 71011 11 (.ah (.t 0)),u 71012 12 (.aq (.t 11)),u 71013 13 (.ak false 1 1 (.t 12)),u 71014 14 (.ld false 1 (.t 13)),u 71015 15 (.ah (.t 1)),u 71016 16 (.bin .add (.t 14) (.t 15)),u 71017 17 (.ah (.t 0)),u 71018 18 (.aq (.t 17)),u 71019 19 (.ak false 0 1 (.t 18)),u 71020 20 (.ld false 1 (.t 19)),u 71021 21 (.len false (.t 20)),b 22 .gtr 16 21] [0,1,22,2000000,2000001]) (.cond (.t 22) alN .skip)
abbrev alI:AK:=.seq alM alJ
abbrev alH:AK:=.seq (.aa [k 4 (ci 0)] [4,2000000,2000001]) .ret
abbrev alG:AK:=.seq (.aa [m 6 0,.v 7 (.aq (.t 6)),.v 8 (.ak false 4 1 (.t 7)),.v 9 (.ld false 1 (.t 8)),bi 10 .neq 9 0] [0,1,10,2000000,2000001]) (.cond (.t 10) alH .skip)
abbrev alF:AK:=.seq alG alI
abbrev alE:AK:=.seq (.aa [k 4 (ci 0)] [0,1,2000000,2000001]) alF
abbrev BV:AK:=alE
theorem alP:aB Tryz.prog 195 71000 2 BV [.tmp 4]:=⟨_,Tryz.func195,by kernel_rfl⟩
theorem alQ {h a0 a1 Post} (hp:aD Tryz.prog BV [.tmp 4] 2 [(0,a0),(1,a1),(2000000,a0),(2000001,a1)] h Post):Eng.Spec Tryz.prog 195 h [a0,a1] Post:=aF alP rfl [(0,a0),(1,a1),(2000000,a0),(2000001,a1)] ⟨rfl,rfl,rfl,rfl,trivial⟩ hp
abbrev amJ:AK:=.seq (.aa [m 52 5,m 4 52] [4,2000000,2000001]) .ret
abbrev amI:AK:=.seq (.aa [m 44 0,.v 45 (.aq (.t 44)),.v 46 (.ak false 1 1 (.t 45)),.v 47 (.ld false 1 (.t 46)),m 48 6,b 49 .add 47 48,.v 50 (.aq (.t 44)),.v 51 (.ak false 1 1 (.t 50)),.aL false 72000 (.st 1 (.t 51) (.t 49))] [5,2000000,2000001]) amJ
abbrev amM:AK:=.seq (.aa [k 4 (ci 0)] [4,2000000,2000001]) .ret
abbrev amL:AK:=.seq (.aa [m 41 0,m 42 7,.aj (some 43) false 72043 194 [(.t 41),(.t 42)]] [2000000,2000001]) amM
abbrev amK:AK:=.seq (.aa [m 39 7,bi 40 .neq 39 0] [0,5,6,7,40,2000000,2000001]) (.cond (.t 40) amL .skip)
abbrev amH:AK:=.seq amK amI
abbrev amG:AK:=.seq (.aa [u 72014 14 (.ah (.t 1)),u 72015 15 (.ah (.t 0)),u 72016 16 (.aq (.t 15)),u 72017 17 (.ak false 0 1 (.t 16)),u 72018 18 (.ld false 1 (.t 17)),u 72019 19 (.ah (.t 0)),u 72020 20 (.aq (.t 19)),u 72021 21 (.ak false 1 1 (.t 20)),u 72022 22 (.ld false 1 (.t 21)),u 72023 23 (.ah (.t 0)),u 72024 24 (.aq (.t 23)),u 72025 25 (.ak false 1 1 (.t 24)),u 72026 26 (.ld false 1 (.t 25)),u 72027 27 (.bin .add (.t 26) (ci 16)),u 72028 28 (.ah (.t 0)),u 72029 29 (.aq (.t 28)),u 72030 30 (.ak false 0 1 (.t 29)),u 72031 31 (.ld false 1 (.t 30)),u 72032 32 (.len false (.t 31)),u 72033 33 (.mm false (.t 27) (.t 32)),.v 34 (.gN 1 (.t 18) (some (.t 22)) (some (.t 33))),.aj (some 35) false 72035 240 [(.t 14),(.t 34)],m 13 35,u 72036 36 (.ext (.t 13) 0),u 72037 37 (.ext (.t 13) 1),u 72038 38 (.ext (.t 13) 2),u 72005 5 (.ah (.t 36)),u 72006 6 (.ah (.t 37)),m 7 38] [0,5,6,7,2000000,2000001]) amH
abbrev amF:AK:=.seq (.aa [k 4 (ci 0)] [4,2000000,2000001]) .ret
abbrev amE:AK:=.seq (.aa [m 8 0,.v 9 (.aq (.t 8)),.v 10 (.ak false 4 1 (.t 9)),.v 11 (.ld false 1 (.t 10)),bi 12 .neq 11 0] [0,1,12,2000000,2000001]) (.cond (.t 12) amF .skip)
abbrev amD:AK:=.seq amE amG
abbrev amC:AK:=.seq (.aa [k 4 (ci 0)] [0,1,2000000,2000001]) amD
abbrev Cd:AK:=amC
theorem amN:aB Tryz.prog 226 72000 2 Cd [.tmp 4]:=⟨_,Tryz.func226,by kernel_rfl⟩
theorem amO {h a0 a1 Post} (hp:aD Tryz.prog Cd [.tmp 4] 2 [(0,a0),(1,a1),(2000000,a0),(2000001,a1)] h Post):Eng.Spec Tryz.prog 226 h [a0,a1] Post:=aF amN rfl [(0,a0),(1,a1),(2000000,a0),(2000001,a1)] ⟨rfl,rfl,rfl,rfl,trivial⟩ hp
abbrev amh:AK:=.aa [m 28 0,m 29 0,.v 30 (.aq (.t 29)),.v 31 (.ak false 2 1 (.t 30)),.v 32 (.ld false 1 (.t 31)),m 33 1,.eff 34 false 73034 (.ba 1 [(.t 33)]),.eff 35 false 73035 (.app 1 1 (.t 32) (.t 34)),.v 36 (.aq (.t 28)),.v 37 (.ak false 2 1 (.t 36)),.aL false 73000 (.st 1 (.t 37) (.t 35))] [2000000,2000001]
abbrev Ca:AK:=.seq (.aa [m 23 0,.v 24 (.aq (.t 23)),.v 25 (.ak false 4 1 (.t 24)),.v 26 (.ld false 1 (.t 25)),bi 27 .eql 26 0] [0,1,27,2000000,2000001]) (.cond (.t 27) amh .skip)
abbrev ami:AK:=.aa [m 21 0,.aj (some 22) false 73022 194 [(.t 21),(ci 2)]] [0,1,2000000,2000001]
abbrev Cb:AK:=.seq (.aa [m 4 0,.v 5 (.aq (.t 4)),.v 6 (.ak false 4 1 (.t 5)),.v 7 (.ld false 1 (.t 6)),bi 8 .eql 7 0,m 9 8,.af 10 9 true true 73010 (.ah (.t 0)),.af 11 9 true true 73011 (.aq (.t 10)),.af 12 9 true true 73012 (.ak false 2 1 (.t 11)),.af 13 9 true true 73013 (.ld false 1 (.t 12)),.af 14 9 true true 73014 (.len false (.t 13)),.af 15 9 true true 73015 (.ah (.t 0)),.af 16 9 true true 73016 (.aq (.t 15)),.af 17 9 true true 73017 (.ak false 3 1 (.t 16)),.af 18 9 true true 73018 (.ld false 1 (.t 17)),.af 19 9 true false 73019 (.bin .geq (.t 14) (.t 18)),.v 20 (.pick (.t 9) (.t 19) (.c (.bool false)))] [0,1,20,2000000,2000001]) (.cond (.t 20) ami .skip)
def B9:AK:=.seq Cb (.a8 Ca)
abbrev B8:AK:=B9
theorem uk (P:Program) (E:Env) (Q:KQ) (st:St) :
 (vcW P E B9 Q st=vcW P E Cb (KQ.seq P E (.a8 Ca) Q) st):=
 rfl
theorem amj:aB Tryz.prog 223 73000 2 B8 []:=⟨_,Tryz.func223,by kernel_rfl⟩
theorem amk {h a0 a1 Post} (hp:aD Tryz.prog B8 [] 2 [(0,a0),(1,a1),(2000000,a0),(2000001,a1)] h Post):Eng.Spec Tryz.prog 223 h [a0,a1] Post:=aF amj rfl [(0,a0),(1,a1),(2000000,a0),(2000001,a1)] ⟨rfl,rfl,rfl,rfl,trivial⟩ hp
abbrev amx:AK:=.aa [m 41 4,bi 42 .add 41 1,m 4 42] [0,2,4,2000000]
abbrev amo:AK:=.aa [m 45 0,m 46 5,.v 47 (.bc .u8 (.t 46)),.aj (some 48) false 74048 223 [(.t 45),(.t 47)]] [0,2,4,2000000]
abbrev amn:AK:=.seq (.aa [m 43 0,.aj (some 44) false 74044 195 [(.t 43),(ci 8)],m 5 44] [0,2,4,5,2000000]) amo
abbrev amw:AK:=.seq (.block 1 amn) amx
abbrev amp:AK:=.seq (.aa [m 31 4,m 32 2,b 33 .lss 31 32,m 34 33,.af 35 34 true false 74035 (.ah (.t 0)),.af 36 34 true false 74036 (.aq (.t 35)),.af 37 34 true false 74037 (.ak false 4 1 (.t 36)),.af 38 34 true false 74038 (.ld false 1 (.t 37)),.af 39 34 true false 74039 (.bin .eql (.t 38) (ci 0)),.v 40 (.pick (.t 34) (.t 39) (.c (.bool false)))] [0,2,4,40,2000000]) (.cond (.t 40) .skip (.exit 0))
abbrev amv:AK:=.seq amp amw
abbrev amy:AK:=.loop amv
abbrev amu:AK:=.seq (.aa [k 4 (ci 0)] [0,2,4,2000000]) (.block 0 amy)
abbrev amr:AK:=.aa [m 29 0,.aj (some 30) false 74030 194 [(.t 29),(ci 3)]] [0,2,2000000]
abbrev amq:AK:=.seq (.aa [m 18 0,.v 19 (.aq (.t 18)),.v 20 (.ak false 4 1 (.t 19)),.v 21 (.ld false 1 (.t 20)),bi 22 .eql 21 0,m 23 22,.af 24 23 true false 74024 (.ah (.t 2)),.af 25 23 true false 74025 (.ah (.t 3)),.af 26 23 true false 74026 (.bin .add (.t 24) (.t 25)),.af 27 23 true false 74027 (.bin .neq (.t 26) (ci 65535)),.v 28 (.pick (.t 23) (.t 27) (.c (.bool false)))] [0,2,28,2000000]) (.cond (.t 28) amr .skip)
def amt:AK:=.seq amq (.a8 amu)
abbrev ams:AK:=.seq (.aa [m 16 0,.aj (some 17) false 74017 195 [(.t 16),(ci 16)],m 3 17] [0,2,3,2000000]) amt
abbrev amm:AK:=.seq (.aa [m 14 0,.aj (some 15) false 74015 195 [(.t 14),(ci 16)],m 2 15] [0,2,2000000]) ams
abbrev aml:AK:=.seq (.aa [m 6 0,m 7 0,.v 8 (.aq (.t 7)),.v 9 (.ak false 1 1 (.t 8)),.v 10 (.ld false 1 (.t 9)),.aj (some 11) false 74011 200 [(.t 10)],.v 12 (.aq (.t 6)),.v 13 (.ak false 1 1 (.t 12)),.aL false 74000 (.st 1 (.t 13) (.t 11))] [0,2000000]) amm
abbrev Cc:AK:=aml
theorem amz:aB Tryz.prog 196 74000 1 Cc []:=⟨_,Tryz.func196,by kernel_rfl⟩
theorem amB {h a0 Post} (hp:aD Tryz.prog Cc [] 1 [(0,a0),(2000000,a0)] h Post):Eng.Spec Tryz.prog 196 h [a0] Post:=aF amz rfl [(0,a0),(2000000,a0)] ⟨rfl,rfl,trivial⟩ hp
abbrev ai1:AK:=.seq (.aa [m 197 11,m 198 4,.v 199 (.gN 1 (.t 197) none (some (.t 198))),m 200 11,m 201 4,.v 202 (.gN 1 (.t 200) (some (.t 201)) none),m 2 199,m 3 202] [2,3,2000000]) .ret
abbrev ai4:AK:=.seq (.aa [k 2 (.c (.al)),k 3 (.c (.al))] [2,3,2000000]) .ret
abbrev ai3:AK:=.seq (.aa [m 195 0,.aj (some 196) false 75196 194 [(.t 195),(ci 3)]] [2000000]) ai4
abbrev ai2:AK:=.seq (.aa [m 177 11,.v 178 (.aM 1 (.t 177) (ci 256)),.v 179 (.ld false 1 (.t 178)),bi 180 .eql 179 0,m 181 180,.af 182 181 false false 75182 (.ah (.t 11)),.af 183 181 false false 75183 (.ah (.t 4)),.af 184 181 false false 75184 (.gN 1 (.t 182) none (some (.t 183))),.fM 185 181 false false 75185 227 [(.t 184)],.af 186 181 false false 75186 (.bin .neq (.t 185) (ci 0)),.v 187 (.pick (.t 181) (.c (.bool true)) (.t 186)),m 188 187,.af 189 188 false false 75189 (.ah (.t 11)),.af 190 188 false false 75190 (.ah (.t 4)),.af 191 188 false false 75191 (.gN 1 (.t 189) (some (.t 190)) none),.fM 192 188 false false 75192 227 [(.t 191)],.af 193 188 false false 75193 (.bin .neq (.t 192) (ci 0)),.v 194 (.pick (.t 188) (.c (.bool true)) (.t 193))] [0,4,11,194,2000000]) (.cond (.t 194) ai3 .skip)
abbrev ai0:AK:=.seq ai2 ai1
abbrev ai7:AK:=.seq (.aa [k 2 (.c (.al)),k 3 (.c (.al))] [2,3,2000000]) .ret
abbrev ai5:AK:=.seq (.aa [m 172 0,.v 173 (.aq (.t 172)),.v 174 (.ak false 4 1 (.t 173)),.v 175 (.ld false 1 (.t 174)),bi 176 .neq 175 0] [0,4,11,176,2000000]) (.cond (.t 176) ai7 .skip)
abbrev ug:AK:=.seq ai5 ai0
abbrev ajg:AK:=.aa [m 166 15,bi 167 .add 166 1,m 15 167] [0,4,5,10,11,13,14,15,2000000]
abbrev ajh:AK:=.aa [m 168 11,m 169 14,.eff 170 false 75170 (.ba 1 [(.t 169)]),.eff 171 false 75171 (.app 1 8 (.t 168) (.t 170)),m 11 171] [0,4,5,10,11,13,14,15,2000000]
abbrev ajf:AK:=.seq (.block 6 ajh) ajg
abbrev aji:AK:=.seq (.aa [m 156 15,m 157 13,b 158 .lss 156 157,m 159 158,.af 160 159 true false 75160 (.ah (.t 0)),.af 161 159 true false 75161 (.aq (.t 160)),.af 162 159 true false 75162 (.ak false 4 1 (.t 161)),.af 163 159 true false 75163 (.ld false 1 (.t 162)),.af 164 159 true false 75164 (.bin .eql (.t 163) (ci 0)),.v 165 (.pick (.t 159) (.t 164) (.c (.bool false)))] [0,4,5,10,11,13,14,15,165,2000000]) (.cond (.t 165) .skip (.exit 5))
abbrev aje:AK:=.seq aji ajf
abbrev ajR:AK:=.loop aje
abbrev ajc:AK:=.seq (.aa [k 15 (ci 0)] [0,4,5,10,11,13,14,15,2000000]) (.block 5 ajR)
abbrev ajk:AK:=.aa [m 154 0,.aj (some 155) false 75155 194 [(.t 154),(ci 3)]] [0,4,5,10,11,13,14,2000000]
abbrev ajj:AK:=.seq (.aa [m 139 0,.v 140 (.aq (.t 139)),.v 141 (.ak false 4 1 (.t 140)),.v 142 (.ld false 1 (.t 141)),bi 143 .eql 142 0,m 144 143,.af 145 144 true false 75145 (.ah (.t 11)),.af 146 144 true false 75146 (.len false (.t 145)),.af 147 144 true false 75147 (.ah (.t 13)),.af 148 144 true false 75148 (.bin .add (.t 146) (.t 147)),.af 149 144 true false 75149 (.ah (.t 4)),.af 150 144 true false 75150 (.ah (.t 5)),.af 151 144 true false 75151 (.bin .add (.t 149) (.t 150)),.af 152 144 true false 75152 (.bin .gtr (.t 148) (.t 151)),.v 153 (.pick (.t 144) (.t 152) (.c (.bool false)))] [0,4,5,10,11,13,14,153,2000000]) (.cond (.t 153) ajk .skip)
def BK:AK:=.seq ajj (.a8 ajc)
abbrev ajo:AK:=.aa [m 126 0,.aj (some 127) false 75127 195 [(.t 126),(ci 2)],.v 128 (.bin .add (ci 3) (.t 127)),m 13 128] [0,4,5,10,11,13,14,2000000]
abbrev ajn:AK:=.seq (.aa [m 120 11,m 121 11,.v 122 (.len false (.t 121)),bi 123 .sub 122 1,.v 124 (.aM 1 (.t 120) (.t 123)),.v 125 (.ld false 1 (.t 124)),m 14 125] [0,4,5,10,11,14,2000000]) ajo
abbrev ajs:AK:=.seq (.aa [k 2 (.c (.al)),k 3 (.c (.al))] [2,3,2000000]) .ret
abbrev ajr:AK:=.seq (.aa [m 118 0,.aj (some 119) false 75119 194 [(.t 118),(ci 3)]] [2000000]) ajs
abbrev ajp:AK:=.seq (.aa [m 115 11,.v 116 (.len false (.t 115)),bi 117 .eql 116 0] [0,4,5,10,11,117,2000000]) (.cond (.t 117) ajr .skip)
abbrev ajm:AK:=.seq ajp ajn
abbrev ajv:AK:=.aa [m 131 0,.aj (some 132) false 75132 195 [(.t 131),(ci 3)],.v 133 (.bin .add (ci 3) (.t 132)),m 13 133] [0,4,5,10,11,13,14,2000000]
abbrev aju:AK:=.seq (.aa [k 14 (ci 0)] [0,4,5,10,11,14,2000000]) ajv
abbrev ajy:AK:=.aa [m 136 0,.aj (some 137) false 75137 195 [(.t 136),(ci 7)],.v 138 (.bin .add (ci 11) (.t 137)),m 13 138] [0,4,5,10,11,13,14,2000000]
abbrev ajx:AK:=.seq (.aa [k 14 (ci 0)] [0,4,5,10,11,14,2000000]) ajy
abbrev ajw:AK:=.seq (.aa [bi 135 .eql 112 18,m 134 135] [0,4,5,10,11,13,14,134,2000000]) (.cond (.t 134) ajx .skip)
abbrev ajt:AK:=.seq (.aa [bi 130 .eql 112 17,m 129 130] [0,4,5,10,11,13,14,112,129,2000000]) (.cond (.t 129) aju ajw)
abbrev ajl:AK:=.seq (.aa [bi 114 .eql 112 16,m 113 114] [0,4,5,10,11,13,14,112,113,2000000]) (.cond (.t 113) ajm ajt)
abbrev BM:AK:=.seq (.aa [m 112 12] [0,4,5,10,11,13,14,112,2000000]) (.block 4 ajl)
def ajb:AK:=.seq BM (.a8 BK)
abbrev aja:AK:=.seq (.aa [m 111 12,k 13 (ci 1),m 14 111] [0,4,5,10,11,12,13,14,2000000]) ajb
abbrev ai9:AK:=.seq (.aa [m 108 0,m 109 10,.aj (some 110) false 75110 226 [(.t 108),(.t 109)],m 12 110] [0,4,5,10,11,12,2000000]) aja
abbrev ajA:AK:=.seq (.aa [m 95 11,.v 96 (.len false (.t 95)),m 97 4,m 98 5,b 99 .add 97 98,b 100 .lss 96 99,m 101 100,.af 102 101 true false 75102 (.ah (.t 0)),.af 103 101 true false 75103 (.aq (.t 102)),.af 104 101 true false 75104 (.ak false 4 1 (.t 103)),.af 105 101 true false 75105 (.ld false 1 (.t 104)),.af 106 101 true false 75106 (.bin .eql (.t 105) (ci 0)),.v 107 (.pick (.t 101) (.t 106) (.c (.bool false)))] [0,4,5,10,11,107,2000000]) (.cond (.t 107) .skip (.exit 2))
abbrev ai8:AK:=.seq ajA (.block 3 ai9)
abbrev ajQ:AK:=.loop ai8
def BJ:AK:=.seq (.block 2 ajQ) (.a8 ug)
abbrev aiZ:AK:=.seq (.aa [.eff 94 false 75094 (.ba 1 []),m 11 94] [0,4,5,10,11,2000000]) BJ
abbrev ajP:AK:=.seq (.aa [m 92 7,.aj (some 93) false 75093 224 [(.t 92)],m 10 93] [0,4,5,10,2000000]) aiZ
abbrev ajC:AK:=.seq (.aa [k 2 (.c (.al)),k 3 (.c (.al))] [2,3,2000000]) .ret
abbrev ajB:AK:=.seq (.aa [m 87 0,.v 88 (.aq (.t 87)),.v 89 (.ak false 4 1 (.t 88)),.v 90 (.ld false 1 (.t 89)),bi 91 .neq 90 0] [0,4,5,7,91,2000000]) (.cond (.t 91) ajC .skip)
abbrev BN:AK:=.seq ajB ajP
abbrev ajE:AK:=.aa [m 85 0,.aj (some 86) false 75086 194 [(.t 85),(ci 3)]] [0,4,5,7,2000000]
abbrev ajD:AK:=.seq (.aa [m 75 0,.v 76 (.aq (.t 75)),.v 77 (.ak false 4 1 (.t 76)),.v 78 (.ld false 1 (.t 77)),bi 79 .eql 78 0,m 80 79,.af 81 80 true false 75081 (.ah (.t 7)),.fM 82 80 true false 75082 227 [(.t 81)],.af 83 80 true false 75083 (.bin .neq (.t 82) (ci 0)),.v 84 (.pick (.t 80) (.t 83) (.c (.bool false)))] [0,4,5,7,84,2000000]) (.cond (.t 84) ajE .skip)
def uh:AK:=.seq ajD (.a8 BN)
abbrev ajI:AK:=.aa [m 65 9,bi 66 .add 65 1,m 9 66] [0,4,5,6,7,8,9,2000000]
abbrev ajJ:AK:=.alt [u 75067 67 (.ah (.t 7)),m 68 8,m 69 9,.v 70 (.aM 1 (.t 68) (.t 69)),u 75072 72 (.ah (.t 0))] [.v 71 (.ld false 1 (.t 70)),.aj (some 73) false 75073 195 [(.t 72),(ci 3)],.v 74 (.aM 1 (.t 67) (.t 71)),.aL false 75000 (.st 1 (.t 74) (.t 73))] [.aj (some 73) false 75073 195 [(.t 72),(ci 3)],.v 71 (.ld false 1 (.t 70)),.v 74 (.aM 1 (.t 67) (.t 71)),.aL false 75000 (.st 1 (.t 74) (.t 73))] [0,4,5,6,7,8,9,2000000]
abbrev ajH:AK:=.seq (.block 1 ajJ) ajI
abbrev ajK:AK:=.seq (.aa [m 55 9,m 56 6,b 57 .lss 55 56,m 58 57,.af 59 58 true false 75059 (.ah (.t 0)),.af 60 58 true false 75060 (.aq (.t 59)),.af 61 58 true false 75061 (.ak false 4 1 (.t 60)),.af 62 58 true false 75062 (.ld false 1 (.t 61)),.af 63 58 true false 75063 (.bin .eql (.t 62) (ci 0)),.v 64 (.pick (.t 58) (.t 63) (.c (.bool false)))] [0,4,5,6,7,8,9,64,2000000]) (.cond (.t 64) .skip (.exit 0))
abbrev ajG:AK:=.seq ajK ajH
abbrev ajS:AK:=.loop ajG
abbrev ajF:AK:=.seq (.aa [k 9 (ci 0)] [0,4,5,6,7,8,9,2000000]) (.block 0 ajS)
abbrev ajz:AK:=.seq ajF uh
abbrev ajq:AK:=.seq (.aa [.eff 54 false 75054 (.ba 1 [(ci 16),(ci 17),(ci 18),(ci 0),(ci 8),(ci 7),(ci 9),(ci 6),(ci 10),(ci 5),(ci 11),(ci 4),(ci 12),(ci 3),(ci 13),(ci 2),(ci 14),(ci 1),(ci 15)]),m 8 54] [0,4,5,6,7,8,2000000]) ajz
abbrev BL:AK:=.seq (.aa [.eff 53 false 75053 (.kl 1 8 [.int .i64 0] (ci 19) (ci 19)),m 7 53] [0,4,5,6,7,2000000]) ajq
abbrev ajM:AK:=.aa [m 51 0,.aj (some 52) false 75052 194 [(.t 51),(ci 3)]] [0,4,5,6,2000000]
abbrev ajL:AK:=.seq (.aa [m 45 4,bi 46 .gtr 45 286,m 47 46,.af 48 47 false false 75048 (.ah (.t 5)),.af 49 47 false false 75049 (.bin .gtr (.t 48) (ci 30)),.v 50 (.pick (.t 47) (.c (.bool true)) (.t 49))] [0,4,5,6,50,2000000]) (.cond (.t 50) ajM .skip)
def ajd:AK:=.seq ajL (.a8 BL)
abbrev ai6:AK:=.seq (.aa [m 36 0,.aj (some 37) false 75037 195 [(.t 36),(ci 5)],bi 38 .add 37 257,m 39 0,.aj (some 40) false 75040 195 [(.t 39),(ci 5)],bi 41 .add 40 1,m 42 0,.aj (some 43) false 75043 195 [(.t 42),(ci 4)],bi 44 .add 43 4,m 4 38,m 5 41,m 6 44] [0,4,5,6,2000000]) ajd
abbrev ajO:AK:=.aa [m 34 0,.aj (some 35) false 75035 194 [(.t 34),(ci 6)]] [0,2000000]
abbrev ajN:AK:=.seq (.aa [m 16 0,.v 17 (.aq (.t 16)),.v 18 (.ak false 4 1 (.t 17)),.v 19 (.ld false 1 (.t 18)),bi 20 .eql 19 0,m 21 20,.af 22 21 true true 75022 (.ah (.t 0)),.af 23 21 true true 75023 (.aq (.t 22)),.af 24 21 true true 75024 (.ak false 0 1 (.t 23)),.af 25 21 true true 75025 (.ld false 1 (.t 24)),.af 26 21 true true 75026 (.len false (.t 25)),.af 27 21 true true 75027 (.ah (.t 0)),.af 28 21 true true 75028 (.aq (.t 27)),.af 29 21 true true 75029 (.ak false 1 1 (.t 28)),.af 30 21 true true 75030 (.ld false 1 (.t 29)),.af 31 21 true false 75031 (.bin .sub (.t 26) (.t 30)),.af 32 21 true false 75032 (.bin .lss (.t 31) (ci 14)),.v 33 (.pick (.t 21) (.t 32) (.c (.bool false)))] [0,33,2000000]) (.cond (.t 33) ajO .skip)
def aiY:AK:=.seq ajN (.a8 ai6)
abbrev aiX:AK:=.seq (.aa [k 2 (.c (.al)),k 3 (.c (.al))] [0,2000000]) aiY
abbrev BI:AK:=aiX
theorem ajT:aB Tryz.prog 199 75000 1 BI [.tmp 2,.tmp 3]:=⟨_,Tryz.func199,by kernel_rfl⟩
theorem ajV {h a0 Post} (hp:aD Tryz.prog BI [.tmp 2,.tmp 3] 1 [(0,a0),(2000000,a0)] h Post):Eng.Spec Tryz.prog 199 h [a0] Post:=aF ajT rfl [(0,a0),(2000000,a0)] ⟨rfl,rfl,trivial⟩ hp
abbrev alV:AK:=.aa [m 123 16,bi 124 .add 123 1,m 16 124] [0,6,7,8,9,10,11,13,15,16,2000000,2000001,2000002]
abbrev alW:AK:=.aa [u 76125 125 (.ah (.t 0)),u 76126 126 (.ah (.t 0)),u 76127 127 (.aq (.t 126)),u 76128 128 (.ak false 2 1 (.t 127)),u 76129 129 (.ld false 1 (.t 128)),u 76130 130 (.ah (.t 0)),u 76131 131 (.aq (.t 130)),u 76132 132 (.ak false 2 1 (.t 131)),u 76133 133 (.ld false 1 (.t 132)),u 76134 134 (.len false (.t 133)),u 76135 135 (.ah (.t 15)),u 76136 136 (.bin .sub (.t 134) (.t 135)),.v 137 (.aM 1 (.t 129) (.t 136)),.v 138 (.ld false 1 (.t 137)),.aj (some 139) false 76139 223 [(.t 125),(.t 138)]] [0,6,7,8,9,10,11,13,15,16,2000000,2000001,2000002]
abbrev alU:AK:=.seq (.block 3 alW) alV
abbrev alX:AK:=.seq (.aa [m 113 16,m 114 13,b 115 .lss 113 114,m 116 115,.af 117 116 true false 76117 (.ah (.t 0)),.af 118 116 true false 76118 (.aq (.t 117)),.af 119 116 true false 76119 (.ak false 4 1 (.t 118)),.af 120 116 true false 76120 (.ld false 1 (.t 119)),.af 121 116 true false 76121 (.bin .eql (.t 120) (ci 0)),.v 122 (.pick (.t 116) (.t 121) (.c (.bool false)))] [0,6,7,8,9,10,11,13,15,16,122,2000000,2000001,2000002]) (.cond (.t 122) .skip (.exit 2))
abbrev alT:AK:=.seq alX alU
abbrev ame:AK:=.loop alT
abbrev uj:AK:=.seq (.aa [k 16 (ci 0)] [0,6,7,8,9,10,11,13,15,16,2000000,2000001,2000002]) (.block 2 ame)
abbrev alY:AK:=.aa [m 111 0,.aj (some 112) false 76112 194 [(.t 111),(ci 3)]] [0,6,7,8,9,10,11,13,15,2000000,2000001,2000002]
abbrev B2:AK:=.seq (.aa [m 97 0,.v 98 (.aq (.t 97)),.v 99 (.ak false 4 1 (.t 98)),.v 100 (.ld false 1 (.t 99)),bi 101 .eql 100 0,m 102 101,.af 103 102 true false 76103 (.ah (.t 15)),.af 104 102 true false 76104 (.ah (.t 0)),.af 105 102 true false 76105 (.aq (.t 104)),.af 106 102 true false 76106 (.ak false 2 1 (.t 105)),.af 107 102 true false 76107 (.ld false 1 (.t 106)),.af 108 102 true false 76108 (.len false (.t 107)),.af 109 102 true false 76109 (.bin .gtr (.t 103) (.t 108)),.v 110 (.pick (.t 102) (.t 109) (.c (.bool false)))] [0,6,7,8,9,10,11,13,15,110,2000000,2000001,2000002]) (.cond (.t 110) alY .skip)
def ui:AK:=.seq B2 (.a8 uj)
abbrev B3:AK:=.alt [u 76086 86 (.ah (.t 10)),u 76087 87 (.ah (.t 14)),u 76088 88 (.aM 1 (.t 86) (.t 87)),u 76090 90 (.ah (.t 0)),u 76091 91 (.ah (.t 11)),u 76092 92 (.ah (.t 14)),u 76093 93 (.aM 1 (.t 91) (.t 92)),u 76094 94 (.ld false 1 (.t 93))] [u 76089 89 (.ld false 1 (.t 88)),.aj (some 95) false 76095 195 [(.t 90),(.t 94)],b 96 .add 89 95,m 15 96] [.aj (some 95) false 76095 195 [(.t 90),(.t 94)],u 76089 89 (.ld false 1 (.t 88)),b 96 .add 89 95,m 15 96] [0,6,7,8,9,10,11,13,15,2000000,2000001,2000002]
def B1:AK:=.seq B3 (.a8 ui)
abbrev alZ:AK:=.seq (.aa [m 81 0,.v 82 (.aq (.t 81)),.v 83 (.ak false 4 1 (.t 82)),.v 84 (.ld false 1 (.t 83)),bi 85 .neq 84 0] [0,6,7,8,9,10,11,13,14,85,2000000,2000001,2000002]) (.cond (.t 85) .ret .skip)
abbrev B0:AK:=.seq alZ B1
abbrev al1:AK:=.aa [m 79 0,.aj (some 80) false 76080 194 [(.t 79),(ci 3)]] [0,6,7,8,9,10,11,13,14,2000000,2000001,2000002]
abbrev B4:AK:=.seq (.aa [m 70 0,.v 71 (.aq (.t 70)),.v 72 (.ak false 4 1 (.t 71)),.v 73 (.ld false 1 (.t 72)),bi 74 .eql 73 0,m 75 74,.af 76 75 true false 76076 (.ah (.t 14)),.af 77 75 true false 76077 (.bin .gtr (.t 76) (ci 29)),.v 78 (.pick (.t 75) (.t 77) (.c (.bool false)))] [0,6,7,8,9,10,11,13,14,78,2000000,2000001,2000002]) (.cond (.t 78) al1 .skip)
def BZ:AK:=.seq B4 (.a8 B0)
abbrev BX:AK:=.seq (.aa [m 67 0,m 68 7,.aj (some 69) false 76069 226 [(.t 67),(.t 68)],m 14 69] [0,6,7,8,9,10,11,13,14,2000000,2000001,2000002]) BZ
abbrev B5:AK:=.alt [u 76054 54 (.ah (.t 8)),u 76055 55 (.ah (.t 12)),u 76056 56 (.bin .sub (.t 55) (ci 257)),u 76057 57 (.aM 1 (.t 54) (.t 56)),u 76059 59 (.ah (.t 0)),u 76060 60 (.ah (.t 9)),u 76061 61 (.ah (.t 12)),u 76062 62 (.bin .sub (.t 61) (ci 257)),u 76063 63 (.aM 1 (.t 60) (.t 62)),u 76064 64 (.ld false 1 (.t 63))] [u 76058 58 (.ld false 1 (.t 57)),.aj (some 65) false 76065 195 [(.t 59),(.t 64)],b 66 .add 58 65,m 13 66] [.aj (some 65) false 76065 195 [(.t 59),(.t 64)],u 76058 58 (.ld false 1 (.t 57)),b 66 .add 58 65,m 13 66] [0,6,7,8,9,10,11,13,2000000,2000001,2000002]
def B6:AK:=.seq B5 (.a8 BX)
abbrev al3:AK:=.seq (.aa [m 52 0,.aj (some 53) false 76053 194 [(.t 52),(ci 3)]] [2000000,2000001,2000002]) .ret
abbrev al2:AK:=.seq (.aa [m 50 12,bi 51 .gtr 50 285] [0,6,7,8,9,10,11,12,51,2000000,2000001,2000002]) (.cond (.t 51) al3 .skip)
abbrev amc:AK:=.seq al2 B6
abbrev al5:AK:=.seq (.aa [m 46 0,m 47 12,.v 48 (.bc .u8 (.t 47)),.aj (some 49) false 76049 223 [(.t 46),(.t 48)]] [0,6,7,8,9,10,11,2000000,2000001,2000002]) (.exit 1)
abbrev al4:AK:=.seq (.aa [m 44 12,bi 45 .lss 44 256] [0,6,7,8,9,10,11,12,45,2000000,2000001,2000002]) (.cond (.t 45) al5 .skip)
abbrev ama:AK:=.seq al4 amc
abbrev al6:AK:=.seq (.aa [m 35 0,.v 36 (.aq (.t 35)),.v 37 (.ak false 4 1 (.t 36)),.v 38 (.ld false 1 (.t 37)),bi 39 .neq 38 0,m 40 39,.af 41 40 false false 76041 (.ah (.t 12)),.af 42 40 false false 76042 (.bin .eql (.t 41) (ci 256)),.v 43 (.pick (.t 40) (.c (.bool true)) (.t 42))] [0,6,7,8,9,10,11,12,43,2000000,2000001,2000002]) (.cond (.t 43) .ret .skip)
abbrev al9:AK:=.seq al6 ama
abbrev al8:AK:=.seq (.aa [m 32 0,m 33 6,.aj (some 34) false 76034 226 [(.t 32),(.t 33)],m 12 34] [0,6,7,8,9,10,11,12,2000000,2000001,2000002]) al9
abbrev al7:AK:=.seq (.aa [m 27 0,.v 28 (.aq (.t 27)),.v 29 (.ak false 4 1 (.t 28)),.v 30 (.ld false 1 (.t 29)),bi 31 .eql 30 0] [0,6,7,8,9,10,11,31,2000000,2000001,2000002]) (.cond (.t 31) .skip (.exit 0))
abbrev al0:AK:=.seq al7 (.block 1 al8)
abbrev amd:AK:=.loop al0
abbrev alS:AK:=.seq (.aa [.aj (some 22) false 76022 225 [],m 21 22,.v 23 (.ext (.t 21) 0),.v 24 (.ext (.t 21) 1),.v 25 (.ext (.t 21) 2),.v 26 (.ext (.t 21) 3),m 8 23,m 9 24,m 10 25,m 11 26] [0,6,7,8,9,10,11,2000000,2000001,2000002]) (.block 0 amd)
abbrev alR:AK:=.seq (.aa [m 17 1,.aj (some 18) false 76018 224 [(.t 17)],m 19 2,.aj (some 20) false 76020 224 [(.t 19)],m 6 18,m 7 20] [0,6,7,2000000,2000001,2000002]) alS
abbrev BW:AK:=alR
theorem nN (P:Program) (E:Env) (Q:KQ) (st:St) :
 (vcW P E ui Q st=vcW P E B2 (KQ.seq P E (.a8 uj) Q) st) /\
 (vcW P E B1 Q st=vcW P E B3 (KQ.seq P E (.a8 ui) Q) st) /\
 (vcW P E BZ Q st=vcW P E B4 (KQ.seq P E (.a8 B0) Q) st) /\
 (vcW P E B6 Q st=vcW P E B5 (KQ.seq P E (.a8 BX) Q) st):=
 ⟨rfl,rfl,rfl,rfl⟩
theorem amf:aB Tryz.prog 198 76000 3 BW []:=⟨_,Tryz.func198,by kernel_rfl⟩
theorem amg {h a0 a1 a2 Post} (hp:aD Tryz.prog BW [] 3 [(0,a0),(1,a1),(2,a2),(2000000,a0),(2000001,a1),(2000002,a2)] h Post):Eng.Spec Tryz.prog 198 h [a0,a1,a2] Post:=aF amf rfl [(0,a0),(1,a1),(2,a2),(2000000,a0),(2000001,a1),(2000002,a2)] ⟨rfl,rfl,rfl,rfl,rfl,rfl,trivial⟩ hp
abbrev akj:AK:=.seq (.aa [m 36 2,m 37 3,m 0 36,m 1 37] [0,1]) .ret
abbrev akn:AK:=.aa [m 31 6,bi 32 .add 31 1,m 6 32] [2,3,6]
abbrev aj2:AK:=.aa [m 33 3,.eff 34 false 77034 (.ba 1 [(ci 5)]),.eff 35 false 77035 (.app 1 8 (.t 33) (.t 34)),m 3 35] [2,3,6]
abbrev akm:AK:=.seq (.block 3 aj2) akn
abbrev aj3:AK:=.seq (.aa [m 29 6,bi 30 .lss 29 32] [2,3,6,30]) (.cond (.t 30) .skip (.exit 2))
abbrev akl:AK:=.seq aj3 akm
abbrev ako:AK:=.loop akl
abbrev akk:AK:=.seq (.aa [k 6 (ci 0)] [2,3,6]) (.block 2 ako)
abbrev akh:AK:=.seq akk akj
abbrev aj7:AK:=.aa [m 11 4,bi 12 .add 11 1,m 4 12] [2,3,4]
abbrev akc:AK:=.aa [m 25 2,m 26 5,.eff 27 false 77027 (.ba 1 [(.t 26)]),.eff 28 false 77028 (.app 1 8 (.t 25) (.t 27)),m 2 28] [2,3,4]
abbrev ake:AK:=.aa [k 5 (ci 7)] [2,3,4,5]
abbrev akd:AK:=.seq (.aa [m 19 4,bi 20 .geq 19 256,m 21 20,.af 22 21 true false 77022 (.ah (.t 4)),.af 23 21 true false 77023 (.bin .lss (.t 22) (ci 280)),.v 24 (.pick (.t 21) (.t 23) (.c (.bool false)))] [2,3,4,5,24]) (.cond (.t 24) ake .skip)
abbrev akb:AK:=.seq akd akc
abbrev akg:AK:=.aa [k 5 (ci 9)] [2,3,4,5]
abbrev akf:AK:=.seq (.aa [m 13 4,bi 14 .geq 13 144,m 15 14,.af 16 15 true false 77016 (.ah (.t 4)),.af 17 15 true false 77017 (.bin .lss (.t 16) (ci 256)),.v 18 (.pick (.t 15) (.t 17) (.c (.bool false)))] [2,3,4,5,18]) (.cond (.t 18) akg .skip)
def aka:AK:=.seq akf (.a8 akb)
abbrev aj9:AK:=.seq (.aa [k 5 (ci 8)] [2,3,4,5]) aka
abbrev aj6:AK:=.seq (.block 1 aj9) aj7
abbrev aki:AK:=.seq (.aa [m 9 4,bi 10 .lss 9 288] [2,3,4,10]) (.cond (.t 10) .skip (.exit 0))
abbrev aj5:AK:=.seq aki aj6
abbrev akp:AK:=.loop aj5
abbrev aj4:AK:=.seq (.aa [k 4 (ci 0)] [2,3,4]) (.block 0 akp)
abbrev aj8:AK:=.seq aj4 akh
abbrev aj1:AK:=.seq (.aa [.eff 7 false 77007 (.ba 1 []),.eff 8 false 77008 (.ba 1 []),m 2 7,m 3 8] [2,3]) aj8
abbrev aj0:AK:=.seq (.aa [k 0 (.c (.al)),k 1 (.c (.al))] []) aj1
abbrev BP:AK:=aj0
theorem akq:aB Tryz.prog 197 77000 0 BP [.tmp 0,.tmp 1]:=⟨_,Tryz.func197,by kernel_rfl⟩
theorem aks {h Post} (hp:aD Tryz.prog BP [.tmp 0,.tmp 1] 0 [] h Post):Eng.Spec Tryz.prog 197 h [] Post:=aF akq rfl [] trivial hp
abbrev aly:AK:=.seq (.aa [m 65 4,m 66 5,m 67 9,m 68 10,m 0 65,m 1 66,m 2 67,m 3 68] [0,1,2,3]) .ret
abbrev ak3:AK:=.aa [m 46 11,bi 47 .add 46 1,m 11 47] [4,5,6,9,10,11]
abbrev ak9:AK:=.aa [m 61 6,m 62 12,.v 63 (.bin .shl (ci 1) (.t 62)),b 64 .add 61 63,m 6 64] [4,5,6,9,10,11]
abbrev ak7:AK:=.seq (.aa [m 57 10,m 58 12,.eff 59 false 78059 (.ba 1 [(.t 58)]),.eff 60 false 78060 (.app 1 8 (.t 57) (.t 59)),m 10 60] [4,5,6,9,10,11,12]) ak9
abbrev ak6:AK:=.seq (.aa [m 53 9,m 54 6,.eff 55 false 78055 (.ba 1 [(.t 54)]),.eff 56 false 78056 (.app 1 8 (.t 53) (.t 55)),m 9 56] [4,5,6,9,10,11,12]) ak7
abbrev alb:AK:=.aa [m 50 11,bi 51 .quo 50 2,bi 52 .sub 51 1,m 12 52] [4,5,6,9,10,11,12]
abbrev ala:AK:=.seq (.aa [m 48 11,bi 49 .geq 48 4] [4,5,6,9,10,11,12,49]) (.cond (.t 49) alb .skip)
def ak5:AK:=.seq ala (.a8 ak6)
abbrev ak4:AK:=.seq (.aa [k 12 (ci 0)] [4,5,6,9,10,11,12]) ak5
abbrev ak2:AK:=.seq (.block 3 ak4) ak3
abbrev alc:AK:=.seq (.aa [m 44 11,bi 45 .lss 44 30] [4,5,6,9,10,11,45]) (.cond (.t 45) .skip (.exit 2))
abbrev ak1:AK:=.seq alc ak2
abbrev alz:AK:=.loop ak1
abbrev ak0:AK:=.seq (.aa [k 11 (ci 0)] [4,5,6,9,10,11]) (.block 2 alz)
abbrev alx:AK:=.seq ak0 aly
abbrev alw:AK:=.seq (.aa [k 6 (ci 1)] [4,5,6,9,10]) alx
abbrev alv:AK:=.seq (.aa [.eff 42 false 78042 (.ba 1 []),.eff 43 false 78043 (.ba 1 []),m 9 42,m 10 43] [4,5,9,10]) alw
abbrev alu:AK:=.seq (.aa [m 39 5,.eff 40 false 78040 (.ba 1 [(ci 0)]),.eff 41 false 78041 (.app 1 8 (.t 39) (.t 40)),m 5 41] [4,5]) alv
abbrev alr:AK:=.seq (.aa [m 36 4,.eff 37 false 78037 (.ba 1 [(ci 258)]),.eff 38 false 78038 (.app 1 8 (.t 36) (.t 37)),m 4 38] [4,5]) alu
abbrev ali:AK:=.aa [m 17 7,bi 18 .add 17 1,m 7 18] [4,5,6,7]
abbrev alo:AK:=.aa [m 32 6,m 33 8,.v 34 (.bin .shl (ci 1) (.t 33)),b 35 .add 32 34,m 6 35] [4,5,6,7]
abbrev aln:AK:=.seq (.aa [m 28 5,m 29 8,.eff 30 false 78030 (.ba 1 [(.t 29)]),.eff 31 false 78031 (.app 1 8 (.t 28) (.t 30)),m 5 31] [4,5,6,7,8]) alo
abbrev alm:AK:=.seq (.aa [m 24 4,m 25 6,.eff 26 false 78026 (.ba 1 [(.t 25)]),.eff 27 false 78027 (.app 1 8 (.t 24) (.t 26)),m 4 27] [4,5,6,7,8]) aln
abbrev alq:AK:=.aa [m 21 7,bi 22 .quo 21 4,bi 23 .sub 22 1,m 8 23] [4,5,6,7,8]
abbrev alp:AK:=.seq (.aa [m 19 7,bi 20 .geq 19 8] [4,5,6,7,8,20]) (.cond (.t 20) alq .skip)
def alk:AK:=.seq alp (.a8 alm)
abbrev alj:AK:=.seq (.aa [k 8 (ci 0)] [4,5,6,7,8]) alk
abbrev alg:AK:=.seq (.block 1 alj) ali
abbrev als:AK:=.seq (.aa [m 15 7,bi 16 .lss 15 28] [4,5,6,7,16]) (.cond (.t 16) .skip (.exit 0))
abbrev alf:AK:=.seq als alg
abbrev alA:AK:=.loop alf
abbrev ald:AK:=.seq (.aa [k 7 (ci 0)] [4,5,6,7]) (.block 0 alA)
abbrev alh:AK:=.seq ald alr
abbrev ak8:AK:=.seq (.aa [k 6 (ci 3)] [4,5,6]) alh
abbrev akZ:AK:=.seq (.aa [.eff 13 false 78013 (.ba 1 []),.eff 14 false 78014 (.ba 1 []),m 4 13,m 5 14] [4,5]) ak8
abbrev akY:AK:=.seq (.aa [k 0 (.c (.al)),k 1 (.c (.al)),k 2 (.c (.al)),k 3 (.c (.al))] []) akZ
abbrev BU:AK:=akY
theorem alB:aB Tryz.prog 225 78000 0 BU [.tmp 0,.tmp 1,.tmp 2,.tmp 3]:=⟨_,Tryz.func225,by kernel_rfl⟩
theorem alD {h Post} (hp:aD Tryz.prog BU [.tmp 0,.tmp 1,.tmp 2,.tmp 3] 0 [] h Post):Eng.Spec Tryz.prog 225 h [] Post:=aF alB rfl [] trivial hp
abbrev BT:AK:=.seq (.aa [m 121 9,.v 122 (.aq (.t 121)),.v 123 (.ak false 4 1 (.t 122)),.v 124 (.ld false 1 (.t 123)),u 79006 6 (.ah (.c (.str []))),u 79007 7 (.ah (ci 0)),m 8 124] [6,7,8]) .ret
abbrev akx:AK:=.seq (.aa [u 79110 110 (.ah (.t 9)),u 79111 111 (.aq (.t 110)),u 79112 112 (.ak false 2 1 (.t 111)),u 79113 113 (.ld false 1 (.t 112)),u 79114 114 (.gS (.t 113)),u 79115 115 (.ah (.t 9)),u 79116 116 (.aq (.t 115)),u 79117 117 (.ak false 1 1 (.t 116)),u 79118 118 (.ld false 1 (.t 117)),.aj (some 119) true 79119 200 [(.t 118)],u 79120 120 (.bin .quo (.t 119) (ci 8)),u 79006 6 (.ah (.t 114)),m 7 120,k 8 (ci 0)] [6,7,8]) .ret
abbrev akw:AK:=.seq (.aa [m 101 9,.v 102 (.aq (.t 101)),.v 103 (.ak false 4 1 (.t 102)),.v 104 (.ld false 1 (.t 103)),bi 105 .eql 104 0,m 106 105,.af 107 106 true false 79107 (.ah (.t 10)),.af 108 106 true false 79108 (.bin .eql (.t 107) (ci 1)),.v 109 (.pick (.t 106) (.t 108) (.c (.bool false)))] [9,109]) (.cond (.t 109) akx .skip)
abbrev akB:AK:=.aa [m 69 9,.aj (some 70) false 79070 196 [(.t 69)]] [9,10]
abbrev akE:AK:=.aa [m 77 9,m 78 12,m 79 13,.aj (some 80) false 79080 198 [(.t 77),(.t 78),(.t 79)]] [9,10]
abbrev akD:AK:=.seq (.aa [.aj (some 74) false 79074 197 [],m 73 74,.v 75 (.ext (.t 73) 0),.v 76 (.ext (.t 73) 1),m 12 75,m 13 76] [9,10,12,13]) akE
abbrev akJ:AK:=.aa [m 93 9,m 94 14,m 95 15,.aj (some 96) false 79096 198 [(.t 93),(.t 94),(.t 95)]] [9,10]
abbrev akH:AK:=.seq (.aa [m 88 9,.v 89 (.aq (.t 88)),.v 90 (.ak false 4 1 (.t 89)),.v 91 (.ld false 1 (.t 90)),bi 92 .eql 91 0] [9,10,14,15,92]) (.cond (.t 92) akJ .skip)
abbrev akG:AK:=.seq (.aa [m 84 9,.aj (some 85) false 79085 199 [(.t 84)],m 83 85,.v 86 (.ext (.t 83) 0),.v 87 (.ext (.t 83) 1),m 14 86,m 15 87] [9,10,14,15]) akH
abbrev akL:AK:=.aa [m 99 9,.aj (some 100) false 79100 194 [(.t 99),(ci 3)]] [9,10]
abbrev akK:AK:=.seq (.aa [bi 98 .eql 66 3,m 97 98] [9,10,97]) (.cond (.t 97) akL .skip)
abbrev akF:AK:=.seq (.aa [bi 82 .eql 66 2,m 81 82] [9,10,66,81]) (.cond (.t 81) akG akK)
abbrev akC:AK:=.seq (.aa [bi 72 .eql 66 1,m 71 72] [9,10,66,71]) (.cond (.t 71) akD akF)
abbrev akz:AK:=.seq (.aa [bi 68 .eql 66 0,m 67 68] [9,10,66,67]) (.cond (.t 67) akB akC)
abbrev aky:AK:=.seq (.aa [m 66 11] [9,10,66]) (.block 2 akz)
abbrev BS:AK:=.seq (.aa [m 61 9,.v 62 (.aq (.t 61)),.v 63 (.ak false 4 1 (.t 62)),.v 64 (.ld false 1 (.t 63)),bi 65 .eql 64 0] [9,10,11,65]) (.cond (.t 65) aky .skip)
def akv:AK:=.seq BS (.a8 akw)
abbrev akT:AK:=.seq (.aa [m 57 9,.aj (some 58) false 79058 195 [(.t 57),(ci 1)],m 59 9,.aj (some 60) false 79060 195 [(.t 59),(ci 2)],m 10 58,m 11 60] [9,10,11]) akv
abbrev akN:AK:=.aa [m 55 9,.aj (some 56) false 79056 194 [(.t 55),(ci 6)]] [9]
abbrev akM:AK:=.seq (.aa [u 79044 44 (.ah (.t 9)),u 79045 45 (.aq (.t 44)),u 79046 46 (.ak false 0 1 (.t 45)),u 79047 47 (.ld false 1 (.t 46)),u 79048 48 (.len false (.t 47)),u 79049 49 (.ah (.t 9)),u 79050 50 (.aq (.t 49)),u 79051 51 (.ak false 1 1 (.t 50)),u 79052 52 (.ld false 1 (.t 51)),b 53 .sub 48 52,bi 54 .lss 53 3] [9,54]) (.cond (.t 54) akN .skip)
def akS:AK:=.seq akM (.a8 akT)
abbrev akO:AK:=.seq (.aa [m 39 9,.v 40 (.aq (.t 39)),.v 41 (.ak false 4 1 (.t 40)),.v 42 (.ld false 1 (.t 41)),bi 43 .eql 42 0] [9,43]) (.cond (.t 43) .skip (.exit 0))
abbrev akR:AK:=.seq akO (.block 1 akS)
abbrev akU:AK:=.loop akR
abbrev akI:AK:=.seq (.block 0 akU) BT
abbrev akA:AK:=.seq (.aa [m 32 0,m 33 1,.v 34 (.bA (.t 32) (some (.t 33)) none),.aj (some 35) false 79035 193 [(.t 34)],m 36 2,.v 37 (.bJ [.al,.int .i64 0,.al,.int .i64 0,.int .i64 0] [(0,1,(.t 35)),(3,1,(.t 36))]),.eff 38 false 79038 (.box 5 (.t 37)),m 9 38] [9]) akI
abbrev akQ:AK:=.seq (.aa [k 6 (.c (.str [])),k 7 (ci 0),k 8 (ci 1)] [6,7,8]) .ret
abbrev akP:AK:=.seq (.aa [m 16 1,bi 17 .lss 16 0,m 18 17,.af 19 18 false false 79019 (.ah (.t 1)),.af 20 18 false false 79020 (.ah (.t 0)),.af 21 18 false false 79021 (.len true (.t 20)),.af 22 18 false false 79022 (.bin .gtr (.t 19) (.t 21)),.v 23 (.pick (.t 18) (.c (.bool true)) (.t 22)),m 24 23,.af 25 24 false false 79025 (.ah (.t 2)),.af 26 24 false false 79026 (.bin .lss (.t 25) (ci 0)),.v 27 (.pick (.t 24) (.c (.bool true)) (.t 26)),m 28 27,.af 29 28 false false 79029 (.ah (.t 2)),.af 30 28 false false 79030 (.bin .gtr (.t 29) (ci 65536)),.v 31 (.pick (.t 28) (.c (.bool true)) (.t 30))] [0,1,2,31]) (.cond (.t 31) akQ .skip)
abbrev aku:AK:=.seq akP akA
abbrev akt:AK:=.seq (.aa [k 6 (.c (.str [])),k 7 (ci 0),k 8 (ci 0)] [0,1,2]) aku
abbrev BQ:AK:=akt
theorem akV:aB Tryz.prog 145 79000 3 BQ [.tmp 6,.tmp 7,.tmp 8]:=⟨_,Tryz.func145,by kernel_rfl⟩
theorem akX {h a0 a1 a2 Post} (hp:aD Tryz.prog BQ [.tmp 6,.tmp 7,.tmp 8] 3 [(0,a0),(1,a1),(2,a2)] h Post):Eng.Spec Tryz.prog 145 h [a0,a1,a2] Post:=aF akV rfl [(0,a0),(1,a1),(2,a2)] ⟨rfl,rfl,rfl,trivial⟩ hp
abbrev Ox:AK:=.seq (.aa [m 21 3,m 2 21] [2]) .ret
abbrev OC:AK:=.aa [bi 20 .add 8 1,m 8 20] [0,3,7,8]
abbrev Ov:AK:=.aa [m 11 3,m 12 0,m 13 4,.v 14 (.b7 (.t 12) (.t 13)),.v 15 (.bc .u64 (.t 14)),m 16 4,.v 17 (.bin .mul (ci 8) (.t 16)),b 18 .shl 15 17,b 19 .or 11 18,m 3 19] [0,3,7,8]
abbrev Ou:AK:=.seq (.aa [m 10 8,m 4 10] [0,3,4,7,8]) Ov
abbrev OB:AK:=.seq (.block 1 Ou) OC
abbrev OA:AK:=.seq (.cond (.t 9) .skip (.exit 0)) OB
abbrev Oz:AK:=.seq (.aa [b 9 .lss 8 7] [0,3,7,8,9]) OA
abbrev OD:AK:=.loop Oz
abbrev Oy:AK:=.seq (.aa [m 5 0,.v 6 (.len true (.t 5)),.v 7 (.mm false (.t 6) (ci 8)),k 8 (ci 0)] [0,3,7,8]) (.block 0 OD)
abbrev Ow:AK:=.seq Oy Ox
abbrev Ot:AK:=.seq (.aa [k 3 (.c (.int .u64 0))] [0,3]) Ow
abbrev Oq:AK:=.seq (.aa [k 2 (.c (.int .u64 0))] [0]) Ot
abbrev yz:AK:=Oq
theorem OE:aB Tryz.prog 244 80000 1 yz [.tmp 2]:=⟨_,Tryz.func244,by kernel_rfl⟩
theorem OG {h a0 Post} (hp:aD Tryz.prog yz [.tmp 2] 1 [(0,a0)] h Post):Eng.Spec Tryz.prog 244 h [a0] Post:=aF OE rfl [(0,a0)] ⟨rfl,trivial⟩ hp
end Go.Proofs.YtoalcafkffmiiaaGreatDoor.Cod
namespace Go.Proofs.YtoalcafkffmiiaaGreatDoor.Pk
open Eng
set_option maxRecDepth 10000
def ft:Nat:=79038
def rC:Nat:=73035
attribute [go_sem] ft rC
def aC (t:Bs) (most:Nat) (S:SS):HP:=[(ft,.var [.ro 1 (cd (bw t 0)),.int .i64 S.p,.sl rC 0 S.out.length,.int .i64 most,.int .i64 S.err]),(rC,.arr 1 (S.out.map ub))]
theorem aG {p:Prop} (h:p:=by simp(disch:=first | omega | (simp only[Lx];omega))only[go_sem,simprocAttr,aC]):p:=h
theorem bB {a b:Prop} (k:b) (h:b->a:=by intro h;simp(disch:=first | omega | (simp only[Lx];omega))only[go_sem,simprocAttr,aC];exact h):a:=h k
theorem bT {E0:Prop} {p:Prop} (e0:E0) (h:E0->p:=by intro e0;simp(disch:=first | omega | (simp only[Lx];omega))only[go_sem,simprocAttr,aC,e0]):p:=h e0
theorem b4 {E0:Prop} {a b:Prop} (e0:E0) (k:b) (h:E0->b->a:=by intro e0 h;simp(disch:=first | omega | (simp only[Lx];omega))only[go_sem,simprocAttr,aC,e0];exact h):a:=h e0 k
theorem Eh {E0 E1:Prop} {p:Prop} (e0:E0) (e1:E1) (h:E0->E1->p:=by intro e0 e1;simp(disch:=first | omega | (simp only[Lx];omega))only[go_sem,simprocAttr,aC,e0,e1]):p:=h e0 e1
theorem hV {E0 E1:Prop} {a b:Prop} (e0:E0) (e1:E1) (k:b) (h:E0->E1->b->a:=by intro e0 e1 h;simp(disch:=first | omega | (simp only[Lx];omega))only[go_sem,simprocAttr,aC,e0,e1];exact h):a:=h e0 e1 k
theorem jd {E0 E1 E2:Prop} {a b:Prop} (e0:E0) (e1:E1) (e2:E2) (k:b) (h:E0->E1->E2->b->a:=by intro e0 e1 e2 h;simp(disch:=first | omega | (simp only[Lx];omega))only[go_sem,simprocAttr,aC,e0,e1,e2];exact h):a:=h e0 e1 e2 k
theorem axT {E0 E1 E2 E3:Prop} {p:Prop} (e0:E0) (e1:E1) (e2:E2) (e3:E3) (h:E0->E1->E2->E3->p:=by intro e0 e1 e2 e3;simp(disch:=first | omega | (simp only[Lx];omega))only[go_sem,simprocAttr,aC,e0,e1,e2,e3]):p:=h e0 e1 e2 e3
theorem vm {E0 E1 E2 E3:Prop} {a b:Prop} (e0:E0) (e1:E1) (e2:E2) (e3:E3) (k:b) (h:E0->E1->E2->E3->b->a:=by intro e0 e1 e2 e3 h;simp(disch:=first | omega | (simp only[Lx];omega))only[go_sem,simprocAttr,aC,e0,e1,e2,e3];exact h):a:=h e0 e1 e2 e3 k
theorem ry {E0 E1 E2 E3 E4:Prop} {a b:Prop} (e0:E0) (e1:E1) (e2:E2) (e3:E3) (e4:E4) (k:b) (h:E0->E1->E2->E3->E4->b->a:=by intro e0 e1 e2 e3 e4 h;simp(disch:=first | omega | (simp only[Lx];omega))only[go_sem,simprocAttr,aC,e0,e1,e2,e3,e4];exact h):a:=h e0 e1 e2 e3 e4 k
theorem vn {E0 E1 E2 E3 E4 E5:Prop} {a b:Prop} (e0:E0) (e1:E1) (e2:E2) (e3:E3) (e4:E4) (e5:E5) (k:b) (h:E0->E1->E2->E3->E4->E5->b->a:=by intro e0 e1 e2 e3 e4 e5 h;simp(disch:=first | omega | (simp only[Lx];omega))only[go_sem,simprocAttr,aC,e0,e1,e2,e3,e4,e5];exact h):a:=h e0 e1 e2 e3 e4 e5 k
structure bQ (t:Bs) (most:Nat) (S:SS):Prop where
 tl:t.length<=1000000
 ml:most<=1000000
 pl:S.p<=8*t.length
 ol:S.out.length<=most
theorem bQ.mv {t:Bs} {most:Nat} {S S':SS} (h:bQ t most S) (k:Mv t most S S'):bQ t most S':=⟨h.tl,h.ml,k.q h.pl,k.o h.ol⟩
theorem oQ (t:Bs):(cd (bw t 0)).length=8*t.length:=by rw[ji,jT];omega
theorem uy (t:Bs) (p:Nat):(bw t 0).drop p=bw t p:=by
 apply aCO;intro j;rw[List.getElem?_drop];unfold bw;rw[List.getElem?_map,List.getElem?_map];by_cases h:p+j<8*t.length
 ·rw[List.getElem?_range aA4,List.getElem?_range aA4];simp only[aBv,aCY]
 ·rw[List.getElem?_eq_none (by simp;omega),List.getElem?_eq_none (by simp;omega)];rfl
theorem fj (t:Bs) (most:Nat) (S:SS) (e:Nat):Eng.Spec Tryz.prog 194 (aC t most S) [.ab ft 0,.int .i64 e] (λh' v ar=>h'=aC t most (b6 e S)/\v=.ai []/\ar=[.ab ft 0,.int .i64 e]):=by
 refine Cod.ajZ (λE R hN hR=>?_);unfold b6 at hR;by_cases h:S.err=0
 ·rw[if_pos h]at hR;refine b4 h ?_;exact hR.le aG ⟨rfl,rfl,rfl⟩
 ·rw[if_neg h]at hR;have hi:¬((S.err:Int)=0):=aA4;refine b4 hi ?_;exact hR.le aG ⟨rfl,rfl,rfl⟩
theorem gK (t:Bs) (most:Nat) (S:SS) (h:bQ t most S) (n:Nat) (hn:n<=31):Eng.Spec Tryz.prog 195 (aC t most S) [.ab ft 0,.int .i64 n]
    (λh' v ar=>h'=aC t most (aH t n S).2/\v=.int .i64 ((aH t n S).1:Nat)/\ar=[.ab ft 0,.int .i64 n]):=by
 refine Cod.alQ (λE R hN hR=>?_);obtain⟨h1,h2,h3,h4⟩:=h;have hbl:=oQ t;by_cases he:S.err=0
 ·by_cases hl:8*t.length<S.p+n
  ·rw[kp he hl]at hR;refine hV he hbl ?_;refine aR (aC t most S) (fj t most S 6) (bT he) nofun ?_;rintro h' v ar ⟨rfl,rfl,rfl⟩;refine⟨aG,rfl,?_⟩;rw[eX he];refine bB ?_;exact hR.le aG ⟨rfl,rfl,rfl⟩
  ·rw[gg he aA4]at hR;have hnb:=AM t S.p n aA4;have hnl:=gb t S.p n;have hn2:2^n<=2^31:=aBg (by decide) hn;have hr3:=agL ((bw t S.p).take n) (by rw[aBa];omega);rw[hnb]at hr3;have es:S.p+n-S.p=n:=aA4;refine ry he hbl @kY @uy es ?_;refine aw hr3 rfl rfl ?_;refine wW ?_;exact hR.le aG ⟨rfl,rfl,rfl⟩
 ·rw[ly he]at hR;have hi:¬((S.err:Int)=0):=aA4;refine b4 hi ?_;exact hR.le aG ⟨rfl,rfl,rfl⟩
theorem uo (t:Bs) (most:Nat) (S:SS) (h:bQ t most S) (l:List Nat) (hl:∀n∈l,n<=15) (hll:l.length<=320):Eng.Spec Tryz.prog 226 (aC t most S) [.ab ft 0,.ro 1 (bG (aP l))]
    (λh' v ar=>h'=aC t most (aQ t l S).2/\v=.int .i64 ((aQ t l S).1:Nat)/\ar=[.ab ft 0,.ro 1 (bG (aP l))]):=by
 refine Cod.amO (λE R hN hR=>?_);obtain⟨h1,h2,h3,h4⟩:=h;have hbl:=oQ t;by_cases he:S.err=0
 ·have hcl:(aP l).length=l.length:=by simp[aP]
  have hr4:=aiV (aP l) ((bw t S.p).take 16) aA4 (λc hc=>by
   obtain⟨s,_,rfl⟩:=aBH.1 hc;rw[kc];have:=kj hl s
   omega) (by rw[aBa];omega)
  rw[apN hl]at hr4;have hrb:=mL (aP l) (bw t S.p);rw[jT,hcl]at hrb
  have em:(bw t S.p).take (min (S.p+16) (8*t.length)-S.p)=(bw t S.p).take 16:=by
   by_cases hh:S.p+16<=8*t.length
   ·rw[aBC hh,show S.p+16-S.p=16 by omega]
   ·rw[aDb aA4,aA7 (by rw[jT];omega),aA7 (by rw[jT];omega)]
  have emi:min ((S.p:Int)+16) ((8*t.length:Nat):Int)=((min (S.p+16) (8*t.length):Nat):Int):=aA4;by_cases hr:(readL (aP l) (bw t S.p)).2.2=0
  ·rw[oh he hr]at hR;obtain⟨g1,g2,g3⟩:=hrb hr;rw[hr]at hr4;generalize readL (aP l) (bw t S.p)=rr at *
   refine vn he hbl @kY @uy emi em ?_;refine aw hr4 rfl rfl ?_;refine wW ?_;exact hR.le aG ⟨rfl,rfl,rfl⟩
  ·rw[og he hr]at hR;have hi:¬(((readL (aP l) (bw t S.p)).2.2:Int)=0):=aA4;generalize readL (aP l) (bw t S.p)=rr at *
   refine vn he hbl @kY @uy emi em ?_;refine aw hr4 rfl rfl ?_;refine au hi ?_;refine aR (aC t most S) (fj t most S rr.2.2) (bT he) nofun ?_;rintro h' v ar ⟨rfl,rfl,rfl⟩;refine⟨aG,rfl,?_⟩;rw[eX he];refine bB ?_;exact hR.le aG ⟨rfl,rfl,rfl⟩
 ·rw[DP he]at hR;have hi:¬((S.err:Int)=0):=aA4;refine b4 hi ?_;exact hR.le aG ⟨rfl,rfl,rfl⟩
theorem um (t:Bs) (most:Nat) (S:SS) (h:bQ t most S) (c:UInt8):Eng.Spec Tryz.prog 223 (aC t most S) [.ab ft 0,.int .u8 (c.toNat:Int)]
    (λh' v ar=>h'=aC t most (dh most c S)/\v=.ai []/\ar=[.ab ft 0,.int .u8 (c.toNat:Int)]):=by
 refine Cod.amk (λE R hN hR=>?_);obtain⟨h1,h2,h3,h4⟩:=h;unfold dh at hR;have hc:=c.toNat_lt;by_cases he:S.err=0
 ·rw[if_neg (by simpa using he)]at hR;by_cases hf:most<=S.out.length
  ·rw[if_pos hf]at hR;refine hV he @Cod.uk ?_;refine gG ?_;refine aR (aC t most S) (fj t most S 2) (bT he) nofun ?_;rintro h' v ar ⟨rfl,rfl,rfl⟩;refine⟨aG,rfl,?_⟩;rw[eX he];refine bB ?_;refine eB hN ?_;refine wW ?_;exact hR.le aG ⟨rfl,rfl,rfl⟩
  ·rw[if_neg hf]at hR;refine hV he @Cod.uk ?_;refine gG ?_;refine eB hN ?_;refine au he ?_;refine hR.le ?_ ⟨rfl,rfl,rfl⟩;refine b4 he ?_;rw[aC6]
 ·rw[if_pos he]at hR;have hi:¬((S.err:Int)=0):=aA4;refine hV hi @Cod.uk ?_
  (repeat(first | refine fb ?_ | refine eZ ?_ | refine fa ?_)<;>simp(disch:=omega)only[go_sem,simprocAttr,aC,hi])
  refine eB hN ?_;refine au hi ?_;exact hR.le aG ⟨rfl,rfl,rfl⟩
theorem uq (t:Bs) (most n:Nat) (S:SS):rawS t most (n+1) S=if S.err≠0 then S else rawS t most n (dh most (UInt8.ofNat (aH t 8 S).1) (aH t 8 S).2):=rfl
theorem nH {t:Bs} {most n:Nat} {S:SS} (h:bQ t most S):bQ t most (aH t n S).2:=h.mv fg
theorem AP {c:Nat} (h:c<256):(UInt8.ofNat c).toNat=c:=by rw[aCi];omega
theorem amA (t:Bs) (most:Nat) (S:SS) (h:bQ t most S):Eng.Spec Tryz.prog 196 (aC t most S) [.ab ft 0]
    (λh' v ar=>h'=aC t most (dY t most S)/\v=.ai []/\ar=[.ab ft 0]):=by
 refine Cod.amB (λE R hN hR=>?_);unfold dY at hR;simp only at hR;have hup:=BC S.p (by have:=h.pl;have:=h.tl;omega);have h1:bQ t most (hI S):=h.mv AF;have hp1:(hI S).p=cH S.p:=rfl;have ho1:(hI S).out=S.out:=rfl;have he1:(hI S).err=S.err:=rfl;refine bB ?_;refine aw hup rfl rfl ?_;refine wW ?_;generalize hS1:hI S=S1 at *
 rw[<-hp1,<-ho1,<-he1];refine aR (aC t most S1) (gK t most S1 h1 16 aA4) aG nofun ?_;rintro h' v ar ⟨rfl,rfl,rfl⟩;have h2:=nH (n:=16) h1;have hn1:=fE (t:=t) (S:=S1) (n:=16);generalize aH t 16 S1=a at *
 refine⟨aG,rfl,?_⟩;refine bB ?_;refine aR (aC t most a.2) (gK t most a.2 h2 16 aA4) aG nofun ?_;rintro h' v ar ⟨rfl,rfl,rfl⟩;have h3:=nH (n:=16) h2;have hn2:=fE (t:=t) (S:=a.2) (n:=16);generalize aH t 16 a.2=b at *
 refine⟨aG,rfl,?_⟩;refine bB ?_;generalize hS4:(if a.1+b.1≠65535 then b6 3 b.2 else b.2)=S4 at hR
 have h4:bQ t most S4:=by
  rw[<-hS4];split
  ·exact h3.mv jq
  ·exact h3
 refine dM hN (λ_:Unit=>⟨[(0,.ab 79038 0),(2,.int .i64 (a.1:Nat)),(2000000,.ab 79038 0)],aC t most S4⟩) (λ_=>True) (λR1 hR1=>?_) (λ_ _=>?_)
 ·by_cases he:b.2.err=0
  ·by_cases jG:a.1+b.1=65535
   ·rw[if_neg (by simpa using jG)]at hS4;have hsi:(a.1:Int)+(b.1:Int)=65535:=aA4;refine bl he hsi ?_;refine dI he hsi ?_;exact hR1 () _ trivial (.le (by rw[<-hS4];exact bT he))
   ·rw[if_pos jG]at hS4;have hsi:¬((a.1:Int)+(b.1:Int)=65535):=aA4;refine au he ?_;refine dI he hsi ?_;refine aR (aC t most b.2) (fj t most b.2 3) (bT he) nofun ?_;rintro h' v ar ⟨rfl,rfl,rfl⟩;refine⟨aG,rfl,?_⟩;rw[hS4];refine bB ?_;exact hR1 () _ trivial (.le aG)
  ·have hi:¬((b.2.err:Int)=0):=aA4;have hS:S4=b.2:=by rw[<-hS4];unfold b6;rw[if_neg he,ite_self]
   refine au hi ?_;refine bq hi ?_;exact hR1 () _ trivial (.le (by rw[hS];exact aG))
 ·refine wW ?_;refine aZ hN (λq:Nat×SS=>⟨[(0,.ab 79038 0),(2,.int .i64 (a.1:Nat)),(4,.int .i64 q.1),(2000000,.ab 79038 0)],aC t most q.2⟩) (λq=>q.1<=a.1/\bQ t most q.2/\rawS t most (a.1-q.1) q.2=rawS t most a.1 S4) (λq=>a.1-q.1) (0,S4) (.le aG) ⟨aA4,h4,rfl⟩ ?_;rintro⟨i,S⟩ R1 ⟨hi,hok,hraw⟩ hR1;simp only at hi hok hraw;rw[<-hraw]at hR;by_cases hlt:i<a.1
  ·obtain⟨k,hk⟩:∃k,a.1-i=k+1:=⟨a.1-i-1,aA4⟩;rw[hk,uq]at hraw hR;by_cases he:S.err=0
   ·rw[if_neg (by simpa using he)]at hraw hR;refine b4 he ?_;refine bq he ?_;refine aR (aC t most S) (gK t most S hok 8 aA4) (bT he) nofun ?_;rintro h' v ar ⟨rfl,rfl,rfl⟩;have hok2:=nH (n:=8) hok;have hn8:=fE (t:=t) (S:=S) (n:=8);generalize aH t 8 S=c at *
    have hof:=AP hn8;have hput:=um t most c.2 hok2 (UInt8.ofNat c.1);rw[hof]at hput;refine⟨aG,rfl,?_⟩;refine bB ?_;refine aR (aC t most c.2) hput aG nofun ?_;rintro h' v ar ⟨rfl,rfl,rfl⟩;refine⟨aG,rfl,?_⟩;refine bB ?_;exact hR1 (i+1,dh most (UInt8.ofNat c.1) c.2) _ (by simp only;omega) ⟨by simp only;omega,hok2.mv km,by simp only;rw[show a.1-(i+1)=k by omega];exact hraw⟩ (.le aG)
   ·rw[if_pos he]at hraw hR;have hi2:¬((S.err:Int)=0):=aA4;refine bB ?_;refine bq hi2 ?_;exact hR.le aG ⟨rfl,rfl,rfl⟩
  ·rw[show a.1-i=0 by omega]at hR;refine bB ?_;refine gG ?_;exact hR.le (by simp(disch:=omega)only[go_sem,simprocAttr,aC,rawS]) ⟨rfl,rfl,rfl⟩
open Eng
set_option maxRecDepth 10000
def bI (f:Nat->Nat) (n:Nat):List Nat:=(List.range n).map f
theorem gO (f:Nat->Nat) (n:Nat):(bI f n).length=n:=by simp[bI]
theorem kM (f:Nat->Nat) (n:Nat):bI f (n+1)=bI f n++[f n]:=by simp[bI,aCv]
theorem mO (f:Nat->Nat):bI f 0=[]:=(rfl)
theorem rq (f:Nat->Nat) {n i:Nat} (h:i<n):(bI f n).getD i 0=f i:=by simp[bI,aA5,h]
theorem fR {xs:List Nat}:aI (an xs) 0 xs.length=an xs:=by simp[aI,an,aA7]
def fixF (i:Nat):Nat:=if 256<=i/\i<280 then 7 else if 144<=i/\i<256 then 9 else 8
theorem yl:bI fixF 288=ee:=by decide +kernel
theorem yj:bI (λ_=>5) 32=ed:=by decide +kernel
theorem jl:(∀n∈ee,n<=15)/\ee.length=288/\bz ee=true:=by decide +kernel
theorem jk:(∀n∈ed,n<=15)/\ed.length=32/\bz ed=true:=by decide +kernel
set_option maxHeartbeats 1000000 in
theorem akr:aJ Tryz.prog 197 [] (.ai [.ro 1 (an ee),.ro 1 (an ed)]):=by
 refine Cod.aks (λE R hN hR=>?_);refine wW ?_;refine aZ hN (λi:Nat=>⟨[(2,.sl 77007 0 i),(3,.sl 77008 0 0),(4,.int .i64 i)],[(77007,.arr 1 (an (bI fixF i))),(77008,.arr 1 [])]⟩) (λi=>i<=288) (λi=>288-i) 0 (.le (jZ @mO @iY)) aA4 ?_;rintro i R1 hi hR1;have hul:=gO fixF i;have hnl:=bX (bI fixF i);by_cases hlt:i<288
 ·have hus:=kM fixF i;refine wW ?_;refine dM hN (λ_:Unit=>⟨[(2,.sl 77007 0 i),(3,.sl 77008 0 0),(4,.int .i64 i),(5,.int .i64 (if 144<=i/\i<256 then 9 else 8:Nat))],[(77007,.arr 1 (an (bI fixF i))),(77008,.arr 1 [])]⟩) (λ_=>True) (λR2 hR2=>?_) (λ_ _=>?_)
  ·by_cases h1:144<=i
   ·by_cases h2:i<256
    ·refine wW ?_;refine gG ?_;exact hR2 () _ trivial (.le (by rw[if_pos ⟨h1,h2⟩];exact vV))
    ·refine wW ?_;refine gG ?_;exact hR2 () _ trivial (.le (by rw[if_neg aA4];exact vV))
   ·refine wW ?_;refine gG ?_;exact hR2 () _ trivial (.le (by rw[if_neg aA4];exact vV))
  ·by_cases h1:256<=i
   ·by_cases h2:i<280
    ·have hf:fixF i=7:=if_pos ⟨h1,h2⟩;rw[hf]at hus;refine ct @fC @fh @iC ?_;exact hR1 (i+1) _ aA4 aA4 (.le (by rw[hus,<-fB];exact vV))
    ·have hf:fixF i=8:=by unfold fixF;rw[if_neg aA4,if_neg aA4]
     rw[hf]at hus;rw[if_neg aA4];refine ct @fC @fh @iC ?_;exact hR1 (i+1) _ aA4 aA4 (.le (by rw[hus,<-fB];exact vV))
   ·have hf:fixF i=if 144<=i/\i<256 then 9 else 8:=by unfold fixF;rw[if_neg aA4]
    rw[hf]at hus;refine wW ?_;refine fx @fC @fh @iC ?_;exact hR1 (i+1) _ aA4 aA4 (.le (by rw[hus,<-fB];exact vV))
 ·obtain rfl:i=288:=aA4;refine wW ?_;refine aZ hN (λi:Nat=>⟨[(2,.sl 77007 0 288),(3,.sl 77008 0 i),(6,.int .i64 i)],[(77007,.arr 1 (an (bI fixF 288))),(77008,.arr 1 (an (bI (λ_=>5) i)))]⟩) (λi=>i<=32) (λi=>32-i) 0 (.le (jZ @mO @iY)) aA4 ?_;rintro i R2 hi hR2;have hul2:=gO (λ_=>5) i;have hnl2:=bX (bI (λ_=>5) i);by_cases hlt:i<32
  ·have hus:=kM (λ_=>5) i;refine ct @fC @fh @iC ?_;exact hR2 (i+1) _ aA4 aA4 (.le (by rw[hus,<-fB];exact vV))
  ·obtain rfl:i=32:=aA4;rw[yl]at *
   rw[yj]at *
   have e1:aI (an ee) 0 288=an ee:=by rw[<-jl.2.1];exact fR
   have e2:aI (an ed) 0 32=an ed:=by rw[<-jk.2.1];exact fR
   refine wW ?_;refine hR.wk (h':=[]) (r':=.ai [.ro 1 (an ee),.ro 1 (an ed)]) (ar':=[]) rfl (.bu 77007 (.bu 77008 (.le (jZ e1 e2)))) ⟨rfl,rfl⟩
def iu (i:Nat):Nat:=if i<8 then 3+i else 3+(4+i%4)*2^(i/4-1)
def gz (i:Nat):Nat:=if i<8 then 0 else i/4-1
def gT (i:Nat):Nat:=if i<4 then 1+i else 1+(2+i%2)*2^(i/2-1)
def gu (i:Nat):Nat:=if i<4 then 0 else i/2-1
theorem Zh:∀i,i<28->iu (i+1)=iu i+2^gz i/\iu i=(bh i).1/\gz i=(bh i).2/\iu i<=300/\gz i<=8:=by decide +kernel
theorem Lt:∀i,i<30->gT (i+1)=gT i+2^gu i/\gT i=(cf i).1/\gu i=(cf i).2/\gT i<=40000/\gu i<=15/\1<=gT i:=by decide +kernel
def eG:List Nat:=bI (λi=>(bh i).1) 29
def eH:List Nat:=bI (λi=>(bh i).2) 29
def fX:List Nat:=bI (λi=>(cf i).1) 30
def fY:List Nat:=bI (λi=>(cf i).2) 30
theorem Zi:bI iu 28++[258]=eG/\bI gz 28++[0]=eH/\bI gT 30=fX/\bI gu 30=fY:=by decide +kernel
theorem A3 (k:Nat) (h:k<=30):IntKind.i64.wrap (1*2^min k 64)=((2^k:Nat):Int):=by
 have hk:2^k<=2^30:=aBg (by decide) h;rw[aBC aA4,show((1:Int)*2^k)=((2^k:Nat):Int)by rw[Int.one_mul];push_cast;rfl];generalize 2^k=q at hk |-;exact jx aA4
set_option maxHeartbeats 2000000 in
theorem alC:aJ Tryz.prog 225 [] (.ai [.ro 1 (an eG),.ro 1 (an eH),.ro 1 (an fX),.ro 1 (an fY)]):=by
 refine Cod.alD (λE R hN hR=>?_);refine wW ?_;refine aZ hN (λi:Nat=>⟨[(4,.sl 78013 0 i),(5,.sl 78014 0 i),(6,.int .i64 (iu i:Nat)),(7,.int .i64 i)],[(78013,.arr 1 (an (bI iu i))),(78014,.arr 1 (an (bI gz i)))]⟩) (λi=>i<=28) (λi=>28-i) 0 (.le (by simp(disch:=omega)only[go_sem,simprocAttr,mO,iY];rfl)) aA4 ?_;rintro i R1 hi hR1;have hul:=gO iu i;have hul2:=gO gz i;have hnl:=bX (bI iu i);have hnl2:=bX (bI gz i);by_cases hlt:i<28
 ·obtain⟨t1,_,_,t4,t5⟩:=Zh i hlt;have hus:=kM iu i;have hus2:=kM gz i;have hsh:=A3 (gz i) aA4;have hpk:2^gz i<=2^8:=aBg (by decide) t5;refine wW ?_;refine dM hN (λ_:Unit=>⟨[(4,.sl 78013 0 i),(5,.sl 78014 0 i),(6,.int .i64 (iu i:Nat)),(7,.int .i64 i),(8,.int .i64 (gz i:Nat))],[(78013,.arr 1 (an (bI iu i))),(78014,.arr 1 (an (bI gz i)))]⟩) (λ_=>True) (λR2 hR2=>?_) (λ_ _=>?_)
  ·by_cases h1:8<=i
   ·have hk:gz i=i/4-1:=if_neg aA4;have e4:(i:Int)/4-1=((i/4-1:Nat):Int):=aA4;refine au e4 ?_;exact hR2 () _ trivial (.le (by rw[hk];exact vV))
   ·have hk:gz i=0:=if_pos aA4;refine wW ?_;exact hR2 () _ trivial (.le (by rw[hk];exact vV))
  ·refine dq @fC @fh @iC hsh ?_;exact hR1 (i+1) _ aA4 aA4 (.le (by rw[hus,hus2,<-fB,<-fB,t1];exact vV))
 ·obtain rfl:i=28:=aA4;obtain⟨w1,w2,w3,w4⟩:=Zi;have hl1:eG.length=29:=gO _ _;have hl2:eH.length=29:=gO _ _;refine ct @fC @fh @iC ?_;rw[show(AV.int .i64 258)=.int .i64 ((258:Nat):Int)from rfl,show(AV.int .i64 0)=.int .i64 ((0:Nat):Int)from rfl,fB,fB,w1,w2];have hn1:=bX eG;have hn2:=bX eH;refine aZ hN (λi:Nat=>⟨[(4,.sl 78013 0 29),(5,.sl 78014 0 29),(6,.int .i64 (gT i:Nat)),(9,.sl 78042 0 i),(10,.sl 78043 0 i),(11,.int .i64 i)],[(78013,.arr 1 (an eG)),(78014,.arr 1 (an eH)),(78042,.arr 1 (an (bI gT i))),(78043,.arr 1 (an (bI gu i)))]⟩) (λi=>i<=30) (λi=>30-i) 0 (.le (by simp(disch:=omega)only[go_sem,simprocAttr,mO,iY];rfl)) aA4 ?_;rintro i R2 hi hR2;have hul:=gO gT i;have hul2:=gO gu i;have hnl:=bX (bI gT i);have hnl2:=bX (bI gu i);by_cases hlt:i<30
  ·obtain⟨t1,_,_,t4,t5,_⟩:=Lt i hlt;have hus:=kM gT i;have hus2:=kM gu i;have hsh:=A3 (gu i) aA4;have hpk:2^gu i<=2^15:=aBg (by decide) t5;refine wW ?_;refine dM hN (λ_:Unit=>⟨[(4,.sl 78013 0 29),(5,.sl 78014 0 29),(6,.int .i64 (gT i:Nat)),(9,.sl 78042 0 i),(10,.sl 78043 0 i),(11,.int .i64 i),(12,.int .i64 (gu i:Nat))],[(78013,.arr 1 (an eG)),(78014,.arr 1 (an eH)),(78042,.arr 1 (an (bI gT i))),(78043,.arr 1 (an (bI gu i)))]⟩) (λ_=>True) (λR3 hR3=>?_) (λ_ _=>?_)
   ·by_cases h1:4<=i
    ·have hk:gu i=i/2-1:=if_neg aA4;have e4:(i:Int)/2-1=((i/2-1:Nat):Int):=aA4;refine au e4 ?_;exact hR3 () _ trivial (.le (by rw[hk];exact vV))
    ·have hk:gu i=0:=if_pos aA4;refine wW ?_;exact hR3 () _ trivial (.le (by rw[hk];exact vV))
   ·refine dq @fC @fh @iC hsh ?_;exact hR2 (i+1) _ aA4 aA4 (.le (by rw[hus,hus2,<-fB,<-fB,t1];exact vV))
  ·obtain rfl:i=30:=aA4;rw[w3]at *
   rw[w4]at *
   have e1:aI (an eG) 0 29=an eG:=by rw[<-hl1];exact fR
   have e2:aI (an eH) 0 29=an eH:=by rw[<-hl2];exact fR
   have e3:aI (an fX) 0 30=an fX:=by rw[<-hul];exact fR
   have e4:aI (an fY) 0 30=an fY:=by rw[<-hul2];exact fR
   refine wW ?_;exact hR.wk (h':=[]) (r':=.ai [.ro 1 (an eG),.ro 1 (an eH),.ro 1 (an fX),.ro 1 (an fY)]) (ar':=[]) rfl (.bu 78013 (.bu 78014 (.bu 78042 (.bu 78043 (.le (vc e1 e2 e3 e4)))))) ⟨rfl,rfl⟩
theorem wa (most back n:Nat) (S:SS):backS most back (n+1) S=if S.err≠0 then S else backS most back n (dh most (S.out.getD (S.out.length-back) 0) S):=rfl
theorem Hm {most back:Nat} {S:SS} (h:S.err≠0):∀n,backS most back n S=S
 | 0=>rfl
 | n+1=>by rw[wa,if_pos h]
theorem Bh {t:Bs} {most:Nat} {l d:List Nat} {S:SS} (h:S.err≠0):dp t most l d S=S:=qF _ h
theorem ae4 {t:Bs} {most:Nat} {l d:List Nat} {S:SS} (h0:S.p<=8*t.length) (h:S.err=0):dp t most l d S=if(dS t most l d S).1 then(dS t most l d S).2 else dp t most l d (dS t most l d S).2:=by
 rw[Bi h0,if_neg (by simpa using h)]
def qm (t:Bs) (S:SS):Nat:=if S.err=0 then 8*t.length+1-S.p else 0
theorem Ap {t:Bs} {most:Nat} {S S':SS} (h:bQ t most S) (he:S.err=0) (k:S'.err≠0\/S.p<S'.p):qm t S'<qm t S:=by
 have:=h.pl;unfold qm;rw[if_pos he];split
 ·rcases k with k | k
  ·exact absurd (by assumption) k
  ·omega
 ·omega
theorem OW (S:SS) (i:Nat) (h:i<S.out.length):nth (S.out.map ub) i=.int .u8 ((S.out.getD i 0).toNat:Int):=by
 simp[nth,ub,aA5,h]
set_option maxHeartbeats 4000000 in
theorem B7 (t:Bs) (most:Nat) (S0:SS) (h0:bQ t most S0) (l d:List Nat) (hl:∀n∈l,n<=15) (hll:l.length<=320) (hd:∀n∈d,n<=15) (hdl:d.length<=320) :
    Eng.Spec Tryz.prog 198 (aC t most S0) [.ab ft 0,.ro 1 (an l),.ro 1 (an d)] (λh' v ar=>h'=aC t most (dp t most l d S0)/\v=.ai []/\ar=[.ab ft 0,.ro 1 (an l),.ro 1 (an d)]):=by
 refine Cod.amg (λE R hN hR=>?_);have hc1:=uf l hl hll;have hc2:=uf d hd hdl;have hl1:eG.length=29:=gO _ _;have hl2:eH.length=29:=gO _ _;have hl3:fX.length=30:=gO _ _;have hl4:fY.length=30:=gO _ _;have hn1:=bX eG;have hn2:=bX eH;have hn3:=bX fX;have hn4:=bX fY;refine wW ?_;refine aw hc1 rfl rfl ?_;refine wW ?_;refine aw hc2 rfl rfl ?_;refine wW ?_;refine aw alC rfl rfl ?_;refine wW ?_;generalize hF:dp t most l d S0=F at hR;have fin:∀S1,S1=F->R (aC t most S1) (.ai []) [.ab 79038 0,.ro 1 (an l),.ro 1 (an d)]:=λS1 e=>hR.le (by rw[e];exact aG) ⟨rfl,rfl,rfl⟩
 refine aZ hN (λS:SS=>⟨[(0,.ab 79038 0),(6,.ro 1 (bG (aP l))),(7,.ro 1 (bG (aP d))),(8,.ro 1 (an eG)),(9,.ro 1 (an eH)),(10,.ro 1 (an fX)),(11,.ro 1 (an fY)),(2000000,.ab 79038 0),(2000001,.ro 1 (an l)),(2000002,.ro 1 (an d))],aC t most S⟩)
  (λS=>bQ t most S/\dp t most l d S=F) (λS=>qm t S) S0 (.le aG) ⟨h0,hF⟩ ?_
 rintro S R1 ⟨hok,hpk⟩ hR1;by_cases he:S.err=0
 ·have hpk0:=hpk;rw[ae4 hok.pl he]at hpk;have hsu:=DJ (t:=t) (most:=most) (l:=l) (d:=d) he;have hms:=mC (t:=t) (most:=most) (l:=l) (d:=d) (S:=S);have hst:dS t most l d S=if(aQ t l S).2.err≠0 then(true,(aQ t l S).2)else if(aQ t l S).1=256 then(true,(aQ t l S).2)else if(aQ t l S).1<256 then(false,dh most (UInt8.ofNat (aQ t l S).1) (aQ t l S).2)else(false,c7 t most d (aQ t l S).1 (aQ t l S).2):=rfl
  have hsl:=rh (t:=t) (l:=l) he;refine b4 he ?_;refine aR (aC t most S) (uo t most S hok l hl hll) (bT he) nofun ?_;rintro h' v ar ⟨rfl,rfl,rfl⟩;have hok2:bQ t most (aQ t l S).2:=hok.mv jN;generalize aQ t l S=a at *
  refine⟨aG,rfl,?_⟩;by_cases hae:a.2.err=0
  ·obtain⟨hup,hlt⟩:=hsl hae;rw[if_neg (by simpa using hae)]at hst;by_cases h256:a.1=256
   ·rw[if_pos h256]at hst;rw[hst]at hpk;simp only[if_true]at hpk;refine hV hae h256 ?_;refine dI hae h256 ?_;have:=fin a.2 hpk;simp only[aC,hae]at this;simp(disch:=omega)only[go_sem,simprocAttr]at this;exact this
   ·rw[if_neg h256]at hst;have hi256:¬((a.1:Int)=256):=aA4;by_cases hlit:a.1<256
    ·rw[if_pos hlit]at hst;rw[hst]at hpk hsu;simp only[aBe,if_false]at hpk hsu;have hput:=um t most a.2 hok2 (UInt8.ofNat a.1);rw[AP hlit]at hput;refine b4 hae ?_;refine dI hae hi256 ?_;refine aR (aC t most a.2) hput (bT hae) nofun ?_;rintro h' v ar ⟨rfl,rfl,rfl⟩;refine⟨aG,rfl,?_⟩;refine bB ?_;refine hR1 (dh most (UInt8.ofNat a.1) a.2) _ (Ap hok he ?_) ⟨hok2.mv km,hpk⟩ (.le aG);by_cases hpe:(dh most (UInt8.ofNat a.1) a.2).err=0
     ·exact .inr (hsu hpe)
     ·exact .inl hpe
    ·rw[if_neg hlit]at hst;rw[hst]at hpk hsu;simp only[aBe,if_false]at hpk hsu
     have next:∀S' st',bQ t most S'->S'=c7 t most d a.1 a.2->Wk st' ⟨[(0,.ab 79038 0),(6,.ro 1 (bG (aP l))),(7,.ro 1 (bG (aP d))),(8,.ro 1 (an eG)),(9,.ro 1 (an eH)),(10,.ro 1 (an fX)),(11,.ro 1 (an fY)),(2000000,.ab 79038 0),(2000001,.ro 1 (an l)),(2000002,.ro 1 (an d))],aC t most S'⟩->R1.ap st':=by
      intro S' st' ho e hw;refine hR1 S' _ (Ap hok he ?_) ⟨ho,by rw[e];exact hpk⟩ hw;rw[e];by_cases hpe:(c7 t most d a.1 a.2).err=0
      ·exact .inr (hsu hpe)
      ·exact .inl hpe
     have stop:∀S',S'=c7 t most d a.1 a.2->S'.err≠0->R (aC t most S') (.ai []) [.ab 79038 0,.ro 1 (an l),.ro 1 (an d)]:=λS' e h=>fin S' (by rw[<-e,Bh h]at hpk;exact hpk);refine b4 hae ?_;refine dI hae hi256 ?_;by_cases h285:285<a.1
     ·have hrep:b6 3 a.2=c7 t most d a.1 a.2:=by unfold c7;rw[if_pos h285]
      have:=stop _ hrep (iP aA4);simp only[aC]at this;simp(disch:=omega)only[go_sem,simprocAttr]at this;refine wW ?_;refine aR (aC t most a.2) (fj t most a.2 3) (bT hae) nofun ?_;rintro h' v ar ⟨rfl,rfl,rfl⟩;refine⟨aG,rfl,?_⟩;refine bB ?_;exact this
     ·have hrep:c7 t most d a.1 a.2=if(aQ t d (aH t (bh (a.1-257)).2 a.2).2).2.err≠0 then(aQ t d (aH t (bh (a.1-257)).2 a.2).2).2 else if 29<(aQ t d (aH t (bh (a.1-257)).2 a.2).2).1 then b6 3 (aQ t d (aH t (bh (a.1-257)).2 a.2).2).2 else
          (if(aH t (cf (aQ t d (aH t (bh (a.1-257)).2 a.2).2).1).2 (aQ t d (aH t (bh (a.1-257)).2 a.2).2).2).2.err≠0 then(aH t (cf (aQ t d (aH t (bh (a.1-257)).2 a.2).2).1).2 (aQ t d (aH t (bh (a.1-257)).2 a.2).2).2).2
          else if(aH t (cf (aQ t d (aH t (bh (a.1-257)).2 a.2).2).1).2 (aQ t d (aH t (bh (a.1-257)).2 a.2).2).2).2.out.length<(cf (aQ t d (aH t (bh (a.1-257)).2 a.2).2).1).1+(aH t (cf (aQ t d (aH t (bh (a.1-257)).2 a.2).2).1).2 (aQ t d (aH t (bh (a.1-257)).2 a.2).2).2).1
          then b6 3 (aH t (cf (aQ t d (aH t (bh (a.1-257)).2 a.2).2).1).2 (aQ t d (aH t (bh (a.1-257)).2 a.2).2).2).2
          else backS most ((cf (aQ t d (aH t (bh (a.1-257)).2 a.2).2).1).1+(aH t (cf (aQ t d (aH t (bh (a.1-257)).2 a.2).2).1).2 (aQ t d (aH t (bh (a.1-257)).2 a.2).2).2).1) ((bh (a.1-257)).1+(aH t (bh (a.1-257)).2 a.2).1) (aH t (cf (aQ t d (aH t (bh (a.1-257)).2 a.2).2).1).2 (aQ t d (aH t (bh (a.1-257)).2 a.2).2).2).2):=by
       unfold c7;rw[if_neg h285]
      have hg1:eG.getD (a.1-257) 0=(bh (a.1-257)).1:=rq _ aA4;have hg2:eH.getD (a.1-257) 0=(bh (a.1-257)).2:=rq _ aA4;have hlb:(bh (a.1-257)).1<=300/\(bh (a.1-257)).2<=8:=(by decide +kernel:∀i,i<29->(bh i).1<=300/\(bh i).2<=8) _ aA4;obtain⟨hlb1,hlb2⟩:=hlb;generalize hB:bh (a.1-257)=lb at *
      have ei:(a.1:Int)-257=((a.1-257:Nat):Int):=aA4;have hnum:=gK t most a.2 hok2 lb.2 aA4;have hb1:=fE (t:=t) (S:=a.2) (n:=lb.2);have hb2:2^lb.2<=2^8:=aBg (by decide) hlb2;have hok3:=nH (n:=lb.2) hok2;refine wW ?_;refine dM hN (λ_:Unit=>⟨[(0,.ab 79038 0),(6,.ro 1 (bG (aP l))),(7,.ro 1 (bG (aP d))),(8,.ro 1 (an eG)),(9,.ro 1 (an eH)),(10,.ro 1 (an fX)),(11,.ro 1 (an fY)),(13,.int .i64 (lb.1+(aH t lb.2 a.2).1:Nat)),(2000000,.ab 79038 0),(2000001,.ro 1 (an l)),(2000002,.ro 1 (an d))],aC t most (aH t lb.2 a.2).2⟩) (λ_=>True) (λR2 hR2=>?_) (λ_ _=>?_)
      ·simp(disch:=omega)only[go_sem,simprocAttr,ei,hn1,hn2,hl1,hl2,dV,hg1,hg2];refine⟨?_,?_⟩
       ·refine aR (aC t most a.2) hnum (bT hae) nofun ?_;rintro h' v ar ⟨rfl,rfl,rfl⟩;refine⟨aG,rfl,?_⟩;refine bB ?_;exact hR2 () _ trivial (.le aG)
       ·refine aR (aC t most a.2) hnum (bT hae) nofun ?_;rintro h' v ar ⟨rfl,rfl,rfl⟩;refine⟨aG,rfl,?_⟩;refine bB ?_;exact hR2 () _ trivial (.le aG)
      generalize aH t lb.2 a.2=b at *
      refine bB ?_;refine aR (aC t most b.2) (uo t most b.2 hok3 d hd hdl) aG nofun ?_;rintro h' v ar ⟨rfl,rfl,rfl⟩;have hok4:bQ t most (aQ t d b.2).2:=hok3.mv jN;generalize aQ t d b.2=k at *
      refine⟨aG,rfl,?_⟩;by_cases hke:k.2.err=0
      ·rw[if_neg (by simpa using hke)]at hrep;by_cases hk29:29<k.1
       ·rw[if_pos hk29]at hrep;have:=stop _ hrep.symm (iP aA4);simp only[aC]at this;simp(disch:=omega)only[go_sem,simprocAttr]at this;have hfe:¬(((b6 3 k.2).err:Int)=0):=by have:=iP (S:=k.2) (e:=3) aA4;omega
        refine hV hke @Cod.nN ?_;refine bq hke ?_;refine aR (aC t most k.2) (fj t most k.2 3) (bT hke) nofun ?_;rintro h' v ar ⟨rfl,rfl,rfl⟩;refine⟨aG,rfl,?_⟩;refine bB ?_;refine eB hN ?_;refine bl hfe @Cod.nN ?_;exact this
       ·rw[if_neg hk29]at hrep;have hg3:fX.getD k.1 0=(cf k.1).1:=rq _ aA4;have hg4:fY.getD k.1 0=(cf k.1).2:=rq _ aA4;have hdb:(cf k.1).1<=40000/\(cf k.1).2<=15/\1<=(cf k.1).1:=(by decide +kernel:∀i,i<30->(cf i).1<=40000/\(cf i).2<=15/\1<=(cf i).1) _ aA4;obtain⟨hdb1,hdb2,hdb3⟩:=hdb;generalize cf k.1=db at *
        have hnum:=gK t most k.2 hok4 db.2 aA4;have hc1:=fE (t:=t) (S:=k.2) (n:=db.2);have hc2:2^db.2<=2^15:=aBg (by decide) hdb2;have hok5:=nH (n:=db.2) hok4;refine hV hke @Cod.nN ?_;refine bq hke ?_;refine eB hN ?_;refine au hke ?_;refine dM hN (λ_:Unit=>⟨[(0,.ab 79038 0),(6,.ro 1 (bG (aP l))),(7,.ro 1 (bG (aP d))),(8,.ro 1 (an eG)),(9,.ro 1 (an eH)),(10,.ro 1 (an fX)),(11,.ro 1 (an fY)),(13,.int .i64 (lb.1+b.1:Nat)),(15,.int .i64 (db.1+(aH t db.2 k.2).1:Nat)),(2000000,.ab 79038 0),(2000001,.ro 1 (an l)),(2000002,.ro 1 (an d))],aC t most (aH t db.2 k.2).2⟩) (λ_=>True) (λR2 hR2=>?_) (λ_ _=>?_)
        ·simp(disch:=omega)only[go_sem,simprocAttr,hke,hn3,hn4,hl3,hl4,dV,hg3,hg4];refine⟨?_,?_⟩
         ·refine aR (aC t most k.2) hnum (bT hke) nofun ?_;rintro h' v ar ⟨rfl,rfl,rfl⟩;refine⟨aG,rfl,?_⟩;refine bB ?_;exact hR2 () _ trivial (.le aG)
         ·refine aR (aC t most k.2) hnum (bT hke) nofun ?_;rintro h' v ar ⟨rfl,rfl,rfl⟩;refine⟨aG,rfl,?_⟩;refine bB ?_;exact hR2 () _ trivial (.le aG)
        generalize aH t db.2 k.2=c at *
        -- is the place ahead of all that came out?
        have copy:∀S1,bQ t most S1->(S1.err≠0->S1=c7 t most d a.1 a.2)->(S1.err=0->db.1+c.1<=S1.out.length/\backS most (db.1+c.1) (lb.1+b.1) S1=c7 t most d a.1 a.2) ->
            vcW Tryz.prog E Cod.uj (KQ.cN 1 (KQ.fk R1 (KQ.cN 0 (KQ.post [] 3 R)))) ⟨[(0,.ab 79038 0),(6,.ro 1 (bG (aP l))),(7,.ro 1 (bG (aP d))),(8,.ro 1 (an eG)),(9,.ro 1 (an eH)),(10,.ro 1 (an fX)),(11,.ro 1 (an fY)),(13,.int .i64 (lb.1+b.1:Nat)),(15,.int .i64 (db.1+c.1:Nat)),(2000000,.ab 79038 0),(2000001,.ro 1 (an l)),(2000002,.ro 1 (an d))],aC t most S1⟩:=by
         intro S1 ho1 hbad hgood;refine wW ?_
         refine aZ hN (λq:Nat×SS=>⟨[(0,.ab 79038 0),(6,.ro 1 (bG (aP l))),(7,.ro 1 (bG (aP d))),(8,.ro 1 (an eG)),(9,.ro 1 (an eH)),(10,.ro 1 (an fX)),(11,.ro 1 (an fY)),(13,.int .i64 (lb.1+b.1:Nat)),(15,.int .i64 (db.1+c.1:Nat)),(16,.int .i64 q.1),(2000000,.ab 79038 0),(2000001,.ro 1 (an l)),(2000002,.ro 1 (an d))],aC t most q.2⟩)
          (λq=>q.1<=lb.1+b.1/\bQ t most q.2/\(q.2.err≠0->q.2=c7 t most d a.1 a.2)/\(q.2.err=0->db.1+c.1<=q.2.out.length/\backS most (db.1+c.1) (lb.1+b.1-q.1) q.2=c7 t most d a.1 a.2)) (λq=>lb.1+b.1-q.1) (0,S1) (.le aG) ⟨aA4,ho1,hbad,hgood⟩ ?_
         rintro⟨i,S2⟩ R2 ⟨hi,ho2,hbad2,hgood2⟩ hR2;simp only at hi ho2 hbad2 hgood2;by_cases he2:S2.err=0
         ·obtain⟨hbl,hbk⟩:=hgood2 he2;by_cases hlt2:i<lb.1+b.1
          ·obtain⟨q,hq⟩:∃q,lb.1+b.1-i=q+1:=⟨lb.1+b.1-i-1,aA4⟩;rw[hq,wa,if_neg (by simpa using he2)]at hbk;have ej:(S2.out.length:Int)-((db.1:Int)+(c.1:Int))=((S2.out.length-(db.1+c.1):Nat):Int):=aA4;have hgo:=OW S2 (S2.out.length-(db.1+c.1)) aA4;have hput:=um t most S2 ho2 (S2.out.getD (S2.out.length-(db.1+c.1)) 0);generalize S2.out.getD (S2.out.length-(db.1+c.1)) 0=ch at *
           have hml:S2.out.length<=1000000:=aBN ho2.ol ho2.ml;refine jd he2 ej hgo ?_;refine fx he2 ej hgo ?_;refine aR (aC t most S2) hput (bT he2) nofun ?_;rintro h' v ar ⟨rfl,rfl,rfl⟩;refine⟨aG,rfl,?_⟩;refine bB ?_;refine hR2 (i+1,dh most ch S2) _ (by simp only;omega) ⟨by simp only;omega,ho2.mv km,λhpe=>?_,λhpe=>?_⟩ (.le aG)
           ·simp only at hpe |-;rw[Hm hpe]at hbk;exact hbk
           ·simp only at hpe |-;refine⟨?_,by rw[show lb.1+b.1-(i+1)=q by omega];exact hbk⟩;unfold dh at hpe |-;rw[if_neg (by simpa using he2)]at hpe |-;split at hpe
            ·cases hpe
            ·rename_i hf;rw[if_neg hf];simp only[aA8];omega
          ·rw[show lb.1+b.1-i=0 by omega]at hbk;refine b4 he2 ?_;refine bq he2 ?_;exact next S2 _ ho2 hbk (.le (bT he2))
         ·have hi2:¬((S2.err:Int)=0):=aA4;have hb2:=hbad2 he2;by_cases hlt2:i<lb.1+b.1
          ·refine b4 hi2 ?_;refine bq hi2 ?_;exact next S2 _ ho2 hb2 (.le aG)
          ·refine b4 hi2 ?_;refine bq hi2 ?_;exact next S2 _ ho2 hb2 (.le aG)
        refine dM hN (λS1:SS=>⟨[(0,.ab 79038 0),(6,.ro 1 (bG (aP l))),(7,.ro 1 (bG (aP d))),(8,.ro 1 (an eG)),(9,.ro 1 (an eH)),(10,.ro 1 (an fX)),(11,.ro 1 (an fY)),(13,.int .i64 (lb.1+b.1:Nat)),(15,.int .i64 (db.1+c.1:Nat)),(2000000,.ab 79038 0),(2000001,.ro 1 (an l)),(2000002,.ro 1 (an d))],aC t most S1⟩) (λS1=>bQ t most S1/\(S1.err≠0->S1=c7 t most d a.1 a.2)/\(S1.err=0->db.1+c.1<=S1.out.length/\backS most (db.1+c.1) (lb.1+b.1) S1=c7 t most d a.1 a.2)) (λR2 hR2=>?_) (λS1 h=>copy S1 h.1 h.2.1 h.2.2);by_cases hce:c.2.err=0
        ·rw[if_neg (by simpa using hce)]at hrep;by_cases hfar:c.2.out.length<db.1+c.1
         ·rw[if_pos hfar]at hrep;refine b4 hce ?_;refine bq hce ?_;refine aR (aC t most c.2) (fj t most c.2 3) (bT hce) nofun ?_;rintro h' v ar ⟨rfl,rfl,rfl⟩;refine⟨aG,rfl,?_⟩;refine bB ?_;exact hR2 (b6 3 c.2) _ ⟨hok5.mv jq,λ_=>hrep.symm,λe=>absurd e (iP aA4)⟩ (.le aG)
         ·rw[if_neg hfar]at hrep;refine b4 hce ?_;refine bq hce ?_;exact hR2 c.2 _ ⟨hok5,λe=>absurd hce e,λ_=>⟨aA4,hrep.symm⟩⟩ (.le (bT hce))
        ·rw[if_pos hce]at hrep;have hi:¬((c.2.err:Int)=0):=aA4;refine b4 hi ?_;refine bq hi ?_;exact hR2 c.2 _ ⟨hok5,λ_=>hrep.symm,λe=>absurd e hce⟩ (.le aG)
      ·rw[if_pos hke]at hrep;have:=stop _ hrep.symm hke;simp only[aC]at this;simp(disch:=omega)only[go_sem,simprocAttr]at this;have hi:¬((k.2.err:Int)=0):=aA4;refine hV hi @Cod.nN ?_;refine bq hi ?_;refine eB hN ?_;refine bl hi @Cod.nN ?_;exact this
  ·rw[if_pos hae]at hst;rw[hst]at hpk;simp only[if_true]at hpk;have hi:¬((a.2.err:Int)=0):=aA4;refine b4 hi ?_;refine bq hi ?_;have:=fin a.2 hpk;simp only[aC]at this;simp(disch:=omega)only[go_sem,simprocAttr]at this;exact this
 ·have hi:¬((S.err:Int)=0):=aA4;rw[Bh he]at hpk;refine b4 hi ?_;have:=fin S hpk;simp only[aC]at this;simp(disch:=omega)only[go_sem,simprocAttr]at this;exact this
abbrev Q5 (R:HP->AV->List AV->Prop):KQ:=KQ.post [.tmp 2,.tmp 3] 1 R
def l6 (t:Bs) (most:Nat) (F:(List Nat×List Nat)×SS) (h':HP) (v:AV) (ar:List AV):Prop:=
 h'=aC t most F.2/\v=(if F.2.err=0 then .ai [.ro 1 (an F.1.1),.ro 1 (an F.1.2)]else .ai [.al,.al])/\ar=[.ab ft 0]
theorem nn {t:Bs} {most:Nat} {F:(List Nat×List Nat)×SS} {R:HP->AV->List AV->Prop} (hR:cR (l6 t most F) R) {S:SS} (hF:F=(([],[]),S)) (he:S.err≠0) {h:HP} (hh:fe h (aC t most S)) :
    R h (.ai [.al,.al]) [.ab 79038 0]:=by
 subst hF;exact hR.le hh ⟨rfl,(if_neg he).symm,rfl⟩
theorem rj {l:List Nat} (h:∀n∈l,n<=15) (k:Nat):∀n∈l.take k,n<=15:=λn hn=>h n (aCu hn)
theorem pA {l:List Nat} (h:∀n∈l,n<=15) (k:Nat):∀n∈l.drop k,n<=15:=λn hn=>h n (aDd hn)
set_option maxHeartbeats 2000000 in
theorem LL (t:Bs) (most:Nat) (F:(List Nat×List Nat)×SS) (S:SS) (l:List Nat) (nl nd:Nat) {E:Env} {R:HP->AV->List AV->Prop} (hN:E.N<=1000000) (hR:cR (l6 t most F) R) (hl:∀n∈l,n<=15)
    (hbad:S.err≠0->F=(([],[]),S)) (hgood:S.err=0->l.length=nl+nd/\257<=nl/\nl<=286/\nd<=30/\F=if l.getD 256 0=0\/bz (l.take nl)=false\/bz (l.drop nl)=false then(([],[]),{S with err:=3})else((l.take nl,l.drop nl),S)) :
    vcW Tryz.prog E Cod.ug (Q5 R) ⟨[(0,.ab 79038 0),(4,.int .i64 nl),(11,.sl 75094 0 l.length),(2000000,.ab 79038 0)],aC t most S++[(75094,.arr 1 (an l))]⟩:=by
 have hnl:=bX l;by_cases he:S.err=0
 ·obtain⟨h1,h2,h3,h4,hF⟩:=hgood he;have ht1:(l.take nl).length=nl:=by rw[aBa];omega
  have hd1:(l.drop nl).length=nd:=by rw[aBb];omega
  have hck1:=ue (l.take nl) (rj hl nl) aA4;have hck2:=ue (l.drop nl) (pA hl nl) aA4;have es:(nl:Int)-0=nl:=aA4;have en:l.length-nl=nd:=aA4;have etd:(l.drop nl).take nd=l.drop nl:=aA7 aA4;have etk:(l.drop 0).take nl=l.take nl:=rfl;have bad:F=(([],[]),{S with err:=3})->∀h,fe h (aC t most {S with err:=3})->R h (.ai [.al,.al]) [.ab 79038 0]:=λhF h hh=>nn hR hF (by simp) hh;by_cases h256:l.getD 256 0=0
  ·rw[if_pos (.inl h256)]at hF;refine vm he @dV hnl h256 ?_;refine gG ?_;refine aR (aC t most S) (fj t most S 3) (bT he) nofun ?_;rintro h' v ar ⟨rfl,rfl,rfl⟩;refine⟨aG,rfl,?_⟩;rw[eX he];refine bB ?_;exact bad hF _ aG
  ·have hi256:¬((l.getD 256 0:Nat):Int)=0:=aA4;generalize hx:l.getD 256 0=x256 at *
   cases hc1:bz (l.take nl)with
   | false=>
    rw[if_pos (.inr (.inl hc1))]at hF;rw[hc1]at hck1;refine ry he @dV hnl hx hi256 ?_;refine gG ?_;refine fN (k7 (eM @fh) hck1 vV rfl ?_);refine wW ?_;refine gG ?_;refine aR (aC t most S) (fj t most S 3) (bT he) nofun ?_;rintro h' v ar ⟨rfl,rfl,rfl⟩;refine⟨aG,rfl,?_⟩;rw[eX he];refine bB ?_
    exact bad hF _ aG
   | true=>
    rw[hc1]at hck1
    cases hc2:bz (l.drop nl)with
    | false=>
     rw[if_pos (.inr (.inr hc2))]at hF;rw[hc2]at hck2;refine ry he @dV hnl hx hi256 ?_;refine gG ?_;refine fN (k7 (eM @fh) hck1 vV rfl ?_);refine wW ?_;refine gG ?_;refine fN (k7 (vb @fh en etd) hck2 vV rfl ?_);refine wW ?_;refine gG ?_;refine aR (aC t most S) (fj t most S 3) (bT he) nofun ?_;rintro h' v ar ⟨rfl,rfl,rfl⟩;refine⟨aG,rfl,?_⟩;rw[eX he];refine bB ?_
     exact bad hF _ aG
    | true=>
     rw[if_neg (by simp[hc1,hc2];omega)]at hF;rw[hc2]at hck2;subst hF;refine ry he @dV hnl hx hi256 ?_;refine gG ?_;refine fN (k7 (eM @fh) hck1 vV rfl ?_);refine wW ?_;refine gG ?_;refine fN (k7 (vb @fh en etd) hck2 vV rfl ?_);refine wW ?_;refine gG ?_;exact hR.wk (h':=aC t most S) (r':=.ai [.ro 1 (an (l.take nl)),.ro 1 (an (l.drop nl))]) (ar':=[.ab ft 0]) rfl (.bu 75094 (.le (axT he @fh en etd))) ⟨rfl,(if_pos he).symm,rfl⟩
 ·have hi:¬((S.err:Int)=0):=aA4;refine b4 hi ?_;exact nn hR (hbad he) he aG
theorem mz (t:Bs) (fl:List Nat) (N k:Nat) (l:List Nat) (S:SS):cO t fl N (k+1) l S=if N<=l.length\/S.err≠0 then(l,S)else
    if(cc N l (bM t l (aQ t fl S).1 (aQ t fl S).2)).err≠0 then(l,cc N l (bM t l (aQ t fl S).1 (aQ t fl S).2))
    else cO t fl N k (l++List.replicate (bM t l (aQ t fl S).1 (aQ t fl S).2).1 (bM t l (aQ t fl S).1 (aQ t fl S).2).2.1) (cc N l (bM t l (aQ t fl S).1 (aQ t fl S).2)):=rfl
theorem AG (l:List Nat) (k x:Nat):an (l++List.replicate k x)++[.int .i64 (x:Int)]=an (l++List.replicate (k+1) x):=by
 rw[fB,aB5,<-aCR]
theorem aa2 {t:Bs} {most N:Nat} {l:List Nat} {b:Nat×Nat×SS}:Mv t most b.2.2 (cc N l b):=by
 unfold cc;split
 ·exact jq
 ·exact .refl
abbrev vD (R1 RX:KS) (R:HP->AV->List AV->Prop):KQ:=KQ.cN 3 (KQ.fk R1 (KQ.cN 2 (KQ.fk RX (Q5 R))))
set_option maxHeartbeats 1000000 in
theorem LS (t:Bs) (most:Nat) (l fl:List Nat) (nl nd:Nat) (s:Nat) (S:SS) {E:Env} {R1 R2 RX:KS} {R:HP->AV->List AV->Prop} (hN:E.N<=1000000) (h0:bQ t most S) (hs:s<19) (hl:∀n∈l,n<=15) (hll:l.length<=400)
    (hnil:s=16->l=[]->∀h,fe h (aC t most (b6 3 S))->R h (.ai [.al,.al]) [.ab 79038 0])
    (hR2:∀st',Wk st' ⟨[(0,.ab 79038 0),(4,.int .i64 nl),(5,.int .i64 nd),(10,.ro 1 (bG (aP fl))),(11,.sl 75094 0 l.length),(13,.int .i64 ((bM t l s S).1:Nat)),(14,.int .i64 ((bM t l s S).2.1:Nat)),(2000000,.ab 79038 0)],aC t most (bM t l s S).2.2++[(75094,.arr 1 (an l))]⟩->R2.ap st') :
    vcW Tryz.prog E Cod.BM (KQ.fk R2 (vD R1 RX R)) ⟨[(0,.ab 79038 0),(4,.int .i64 nl),(5,.int .i64 nd),(10,.ro 1 (bG (aP fl))),(11,.sl 75094 0 l.length),(12,.int .i64 s),(13,.int .i64 1),(14,.int .i64 s),(2000000,.ab 79038 0)],aC t most S++[(75094,.arr 1 (an l))]⟩:=by
 have hnl:=bX l;unfold bM at hR2;by_cases h16:s=16
 ·rw[if_pos h16]at hR2;by_cases hle:l=[]
  ·have hn:=hnil h16 hle;subst hle;subst h16;refine b4 @iY ?_;refine gG ?_;refine aR (aC t most S) (fj t most S 3) aG nofun ?_;rintro h' v ar ⟨rfl,rfl,rfl⟩;generalize b6 3 S=S1 at *
   refine⟨aG,rfl,?_⟩;refine bB ?_;exact hn _ aG
  ·rw[if_neg hle]at hR2;have hl0:0<l.length:=by cases l with | nil=>exact absurd rfl hle | cons=>simp
   have el:(l.length:Int)-1=((l.length-1:Nat):Int):=aA4;have hz:¬((l.length:Int)=0):=aA4;have hx:nth (an l) (l.length-1)=.int .i64 (l.getD (l.length-1) 0:Nat):=dV aA4;subst h16;refine vm hz el hnl hx ?_;have hnlt:=fE (t:=t) (n:=2) (S:=S);refine aR (aC t most S) (gK t most S h0 2 (by decide)) aG nofun ?_;rintro h' v ar ⟨rfl,rfl,rfl⟩;generalize aH t 2 S=a at *
   refine⟨aG,rfl,?_⟩;refine bB ?_;exact hR2 _ (.le aG)
 ·rw[if_neg h16]at hR2;by_cases h17:s=17
  ·rw[if_pos h17]at hR2;subst h17;refine bB ?_;refine gG ?_;have hnlt:=fE (t:=t) (n:=3) (S:=S);refine aR (aC t most S) (gK t most S h0 3 (by decide)) aG nofun ?_;rintro h' v ar ⟨rfl,rfl,rfl⟩;generalize aH t 3 S=a at *
   refine⟨aG,rfl,?_⟩;refine bB ?_;exact hR2 _ (.le aG)
  ·rw[if_neg h17]at hR2;by_cases h18:s=18
   ·rw[if_pos h18]at hR2;subst h18;refine bB ?_;refine gG ?_;have hnlt:=fE (t:=t) (n:=7) (S:=S);refine aR (aC t most S) (gK t most S h0 7 (by decide)) aG nofun ?_;rintro h' v ar ⟨rfl,rfl,rfl⟩;generalize aH t 7 S=a at *
    refine⟨aG,rfl,?_⟩;refine bB ?_;exact hR2 _ (.le aG)
   ·rw[if_neg h18]at hR2;have e16:¬((s:Int)=16):=aA4;have e17:¬((s:Int)=17):=aA4;have e18:¬((s:Int)=18):=aA4;refine jd e16 e17 e18 ?_;exact hR2 _ (.le aG)
set_option maxHeartbeats 1000000 in
theorem LM (t:Bs) (most N:Nat) (l fl:List Nat) (nl nd:Nat) (b:Nat×Nat×SS) {E:Env} {R1 RX:KS} {R:HP->AV->List AV->Prop} (hN:E.N<=1000000) (hNN:nl+nd=N) (hN1:N<=400) (hll:l.length<=N) (hb1:b.1<=200) (hb2:b.2.1<=15)
    (hR1:∀st',Wk st' ⟨[(0,.ab 79038 0),(4,.int .i64 nl),(5,.int .i64 nd),(10,.ro 1 (bG (aP fl))),(11,.sl 75094 0 (if(cc N l b).err=0 then l++List.replicate b.1 b.2.1 else l).length),(2000000,.ab 79038 0)],aC t most (cc N l b)++[(75094,.arr 1 (an (if(cc N l b).err=0 then l++List.replicate b.1 b.2.1 else l)))]⟩->R1.ap st') :
    vcW Tryz.prog E Cod.BK (vD R1 RX R) ⟨[(0,.ab 79038 0),(4,.int .i64 nl),(5,.int .i64 nd),(10,.ro 1 (bG (aP fl))),(11,.sl 75094 0 l.length),(13,.int .i64 b.1),(14,.int .i64 b.2.1),(2000000,.ab 79038 0)],aC t most b.2.2++[(75094,.arr 1 (an l))]⟩:=by
 obtain⟨k,x,S⟩:=b;simp only at hb1 hb2 hR1 |-;have esum:(nl:Int)+(nd:Int)=(N:Int):=aA4;refine dM hN (λ_:Unit=>⟨[(0,.ab 79038 0),(4,.int .i64 nl),(5,.int .i64 nd),(10,.ro 1 (bG (aP fl))),(11,.sl 75094 0 l.length),(13,.int .i64 k),(14,.int .i64 x),(2000000,.ab 79038 0)],aC t most (cc N l (k,x,S))++[(75094,.arr 1 (an l))]⟩) (λ_=>True) (λR2 hR2=>?_) (λ_ _=>?_)
 ·unfold cc at hR2;simp only at hR2;by_cases he:S.err=0
  ·by_cases hov:N<l.length+k
   ·have hov':(N:Int)<(l.length:Int)+(k:Int):=aA4;rw[if_pos hov]at hR2;refine jd he esum hov' ?_;refine aR (aC t most S) (fj t most S 3) (bT he) nofun ?_;rintro h' v ar ⟨rfl,rfl,rfl⟩;generalize b6 3 S=S1 at *
    refine⟨aG,rfl,?_⟩;refine bB ?_;exact hR2 () _ trivial (.le aG)
   ·have hov':¬((N:Int)<(l.length:Int)+(k:Int)):=aA4;rw[if_neg hov]at hR2;refine jd he esum hov' ?_;exact hR2 () _ trivial (.le (bT he))
  ·have hi:¬((S.err:Int)=0):=aA4;have e:b6 3 S=S:=if_neg he;rw[e,ite_self]at hR2;refine hV hi esum ?_;refine dI hi esum ?_;exact hR2 () _ trivial (.le aG)
 ·generalize cc N l (k,x,S)=S1 at *
  refine bB ?_
  refine aZ hN (λj:Nat=>⟨[(0,.ab 79038 0),(4,.int .i64 nl),(5,.int .i64 nd),(10,.ro 1 (bG (aP fl))),(11,.sl 75094 0 (l.length+j:Nat)),(13,.int .i64 k),(14,.int .i64 x),(15,.int .i64 j),(2000000,.ab 79038 0)],aC t most S1++[(75094,.arr 1 (an (l++List.replicate j x)))]⟩) (λj=>j<=k/\(S1.err≠0->j=0)) (λj=>k-j) 0
   (.le (by simp(disch:=omega)only[go_sem,simprocAttr,aC];simp)) ⟨aA4,λ_=>rfl⟩ ?_
  rintro j R2 ⟨hj,hj0⟩ hR2;have hnl:=bX (l++List.replicate j x);have hlr:(l++List.replicate j x).length=l.length+j:=by simp
  have hnr:=AG l j x;have hsb:aI (an (l++List.replicate j x)) 0 (l.length+j)=an (l++List.replicate j x):=by rw[<-hlr];exact fR
  by_cases he:S1.err=0
  ·by_cases hjk:j<k
   ·refine jd he hsb @fC ?_;exact hR2 (j+1) _ aA4 ⟨aA4,λh=>absurd he h⟩ (.le (Eh he hnr))
   ·obtain rfl:j=k:=aA4;rw[if_pos he,hlr]at hR1;refine b4 he ?_;refine bq he ?_;exact hR1 _ (.le (bT he))
  ·obtain rfl:=hj0 he;rw[if_neg he]at hR1;have hi:¬((S1.err:Int)=0):=aA4;have er:l++List.replicate 0 x=l:=by simp
   rw[er];by_cases hjk:0<k
   ·refine b4 hi ?_;refine bq hi ?_;exact hR1 _ (.le aG)
   ·obtain rfl:k=0:=aA4;refine b4 hi ?_;refine bq hi ?_;exact hR1 _ (.le aG)
theorem DW {t:Bs} {l:List Nat} {S:SS} {s:Nat} (hl:∀n∈l,n<=15) (hs:s<19):(bM t l s S).1<=200/\(bM t l s S).2.1<=15:=by
 have h2:=fE (t:=t) (n:=2) (S:=S);have h3:=fE (t:=t) (n:=3) (S:=S);have h7:=fE (t:=t) (n:=7) (S:=S);unfold bM;split
 ·split
  ·exact⟨by simp,by simp⟩
  ·rename_i hle;refine⟨by simp only;omega,?_⟩;have:l.length-1<l.length:=by cases l with | nil=>exact absurd rfl hle | cons=>simp
   simp only[aA5,List.getElem?_eq_getElem this,aCj];exact hl _ (aBJ this)
 ·split
  ·exact⟨by simp only;omega,by simp⟩
  ·split
   ·exact⟨by simp only;omega,by simp⟩
   ·exact⟨by simp,by simp only;omega⟩
theorem awN {t:Bs} {l:List Nat} {S:SS} {s:Nat} (h:(bM t l s S).2.2.err=0) (h0:S.err=0):1<=(bM t l s S).1:=by
 unfold bM at h |-;split
 ·rename_i hs;rw[if_pos hs]at h;split
  ·rename_i hle;rw[if_pos hle]at h;exact absurd h (iP (by decide))
  ·simp only;omega
 ·split
  ·simp only;omega
  ·split
   ·simp only;omega
   ·simp
theorem Bd {N:Nat} {l:List Nat} {b:Nat×Nat×SS} (h:(cc N l b).err=0):b.2.2.err=0/\cc N l b=b.2.2/\l.length+b.1<=N:=by
 unfold cc at h |-;by_cases hlt:N<l.length+b.1
 ·rw[if_pos hlt]at h;exact absurd h (iP (by decide))
 ·rw[if_neg hlt]at h |-;exact⟨h,rfl,aA4⟩
set_option maxHeartbeats 4000000 in
theorem LK (t:Bs) (most:Nat) (F:(List Nat×List Nat)×SS) (S0:SS) (fl:List Nat) (nl nd:Nat) {E:Env} {R:HP->AV->List AV->Prop} (hN:E.N<=1000000) (hR:cR (l6 t most F) R) (h0:bQ t most S0) (he0:S0.err=0)
    (hfl:∀n∈fl,n<=15) (hfn:fl.length=19) (h1:257<=nl) (h2:nl<=286) (h3:1<=nd) (h4:nd<=30)
    (hbad:(cO t fl (nl+nd) (nl+nd) [] S0).2.err≠0->F=(([],[]),(cO t fl (nl+nd) (nl+nd) [] S0).2))
    (hgood:(cO t fl (nl+nd) (nl+nd) [] S0).2.err=0->F=if(cO t fl (nl+nd) (nl+nd) [] S0).1.getD 256 0=0\/bz ((cO t fl (nl+nd) (nl+nd) [] S0).1.take nl)=false\/bz ((cO t fl (nl+nd) (nl+nd) [] S0).1.drop nl)=false
     then(([],[]),{(cO t fl (nl+nd) (nl+nd) [] S0).2 with err:=3})else(((cO t fl (nl+nd) (nl+nd) [] S0).1.take nl,(cO t fl (nl+nd) (nl+nd) [] S0).1.drop nl),(cO t fl (nl+nd) (nl+nd) [] S0).2)) :
    vcW Tryz.prog E Cod.BJ (Q5 R) ⟨[(0,.ab 79038 0),(4,.int .i64 nl),(5,.int .i64 nd),(10,.ro 1 (bG (aP fl))),(11,.sl 75094 0 0),(2000000,.ab 79038 0)],(75094,.arr 1 [])::aC t most S0⟩:=by
 generalize hG:cO t fl (nl+nd) (nl+nd) [] S0=G at hbad hgood;have hN0:nl+nd<400:=aA4;have hN1:1<=nl+nd:=aA4;generalize hNN:nl+nd=N at *
 have hcc:=fun(h1':∀n∈G.1,n<=15) (h2':G.2.err=0->G.1.length=N)=>LL t most F G.2 G.1 nl nd (E:=E) (R:=R) hN hR h1' hbad (λh=>⟨(h2' h).trans hNN.symm,h1,h2,h4,hgood h⟩)
 refine dM (y:=Cod.ug) hN (λ_:Unit=>⟨[(0,.ab 79038 0),(4,.int .i64 nl),(11,.sl 75094 0 G.1.length),(2000000,.ab 79038 0)],aC t most G.2++[(75094,.arr 1 (an G.1))]⟩) (λ_=>(∀n∈G.1,n<=15)/\(G.2.err=0->G.1.length=N)) (λRX hRX=>?_)
  (λ_ hx=>hcc hx.1 hx.2)
 have hnil0:∀S',G=([],S')->S'.err≠0->∀h,fe h (aC t most S')->R h (.ai [.al,.al]) [.ab 79038 0]:=by
  rintro S' rfl he' h hh;exact nn hR (hbad he') he' hh
 clear hcc hbad hgood hR;refine wW ?_
 refine aZ hN (λq:List Nat×SS=>⟨[(0,.ab 79038 0),(4,.int .i64 nl),(5,.int .i64 nd),(10,.ro 1 (bG (aP fl))),(11,.sl 75094 0 q.1.length),(2000000,.ab 79038 0)],aC t most q.2++[(75094,.arr 1 (an q.1))]⟩)
  (λq=>bQ t most q.2/\(∀n∈q.1,n<=15)/\q.1.length<=N/\(q.2.err≠0->G=q)/\(q.2.err=0->∃k,N-q.1.length<=k/\cO t fl N k q.1 q.2=G)) (λq=>if q.2.err=0 then N+1-q.1.length else 0) ([],S0)
  (.le (bT @iY)) ⟨h0,by simp,by simp,λh=>absurd he0 h,λ_=>⟨N,by simp,hG⟩⟩ ?_
 rintro⟨l,S⟩ R1 ⟨hok,hl,hll,hb,hg⟩ hR1;simp only at hok hl hll hb hg;have hnl:=bX l;have esum:(nl:Int)+(nd:Int)=(N:Int):=aA4;by_cases he:S.err=0
 ·by_cases hlt:l.length<N
  ·obtain⟨k,hk,hk2⟩:=hg he;obtain⟨k,rfl⟩:∃k',k=k'+1:=⟨k-1,aA4⟩;rw[mz,if_neg aA4]at hk2;have hsu:=rh (t:=t) (l:=fl) he;refine hV he esum ?_;refine dI he esum ?_;refine aR (aC t most S) (uo t most S hok fl hfl aA4) (bT he) nofun ?_;rintro h' v ar ⟨rfl,rfl,rfl⟩;have hok2:bQ t most (aQ t fl S).2:=hok.mv jN
   have hs0:(aQ t fl S).2.err≠0->(aQ t fl S).1=0:=by
    intro h;unfold aQ at h |-;split at h
    ·rename_i hh;rw[if_pos hh]
    ·rename_i hh;rw[if_neg hh];split at h
     ·rename_i hh;rw[if_pos hh]
     ·exact absurd he h
   generalize aQ t fl S=a at *
   have hs19:a.1<19:=by
    by_cases h:a.2.err=0
    ·have:=(hsu h).2;omega
    ·rw[hs0 h];omega
   refine⟨aG,rfl,?_⟩;refine bB ?_;have hmt:Mv t most a.2 (bM t l a.1 a.2).2.2:=AD;have hok3:=hok2.mv hmt;have hmo:Mv t most (bM t l a.1 a.2).2.2 (cc N l (bM t l a.1 a.2)):=aa2;have hok4:=hok3.mv hmo
   refine dM hN (λ_:Unit=>⟨[(0,.ab 79038 0),(4,.int .i64 nl),(5,.int .i64 nd),(10,.ro 1 (bG (aP fl))),(11,.sl 75094 0 l.length),(13,.int .i64 ((bM t l a.1 a.2).1:Nat)),(14,.int .i64 ((bM t l a.1 a.2).2.1:Nat)),(2000000,.ab 79038 0)],aC t most (bM t l a.1 a.2).2.2++[(75094,.arr 1 (an l))]⟩)
    (λ_=>True) (λR2 hR2=>?_) (λ_ _=>?_)
   ·have hnilG:a.1=16->l=[]->G=([],b6 3 a.2):=by
     intro h16 hle;subst hle;have ht:bM t [] a.1 a.2=(0,0,b6 3 a.2):=by unfold bM;rw[if_pos h16,if_pos rfl]
     have ho:cc N [] (0,0,b6 3 a.2)=b6 3 a.2:=if_neg (by simp);rw[ht,ho,if_pos (iP (by decide))]at hk2;exact hk2.symm
    have hsw:=LS t most l fl nl nd a.1 a.2 (E:=E) (R1:=R1) (R2:=R2) (RX:=RX) (R:=R) hN hok2 hs19 hl aA4 (λh16 hle=>hnil0 _ (hnilG h16 hle) (iP (by decide))) (λst' hw=>hR2 () _ trivial hw);simp only[aC]at hsw;exact hsw
   ·have hb12:=DW (t:=t) (l:=l) (S:=a.2) (s:=a.1) hl hs19;refine LM t most N l fl nl nd (bM t l a.1 a.2) hN hNN aA4 hll hb12.1 hb12.2 (λst' hw=>?_);generalize hbb:bM t l a.1 a.2=b at *
    generalize hcc:cc N l b=c at *
    by_cases hce:c.err=0
    ·rw[if_pos hce]at hw;rw[if_neg (by simpa using hce)]at hk2;obtain⟨hbe,hcb,hov⟩:=Bd (N:=N) (l:=l) (b:=b) (by rw[hcc];exact hce)
     have hae:a.2.err=0:=by
      by_cases h:a.2.err=0
      ·exact h
      ·have h1:=hs0 h;have ht:bM t l a.1 a.2=(1,a.1,a.2):=by unfold bM;rw[if_neg aA4,if_neg aA4,if_neg aA4]
       rw[<-hbb,ht]at hbe;exact absurd hbe h
     have hb1:=awN (t:=t) (l:=l) (S:=a.2) (s:=a.1) (by rw[hbb];exact hbe) hae;rw[hbb]at hb1;have hlr:(l++List.replicate b.1 b.2.1).length=l.length+b.1:=by simp
     refine hR1 (l++List.replicate b.1 b.2.1,c) _ ?_ ⟨hok4,?_,?_,?_,?_⟩ hw
     ·simp only[if_pos hce,if_pos he,hlr];omega
     ·intro n hn;rcases aBz.1 hn with hn | hn
      ·exact hl n hn
      ·rw[(aC0.1 hn).2];exact hb12.2
     ·simp only[hlr];exact hov
     ·intro h;exact absurd hce h
     ·intro _;refine⟨k,?_,hk2⟩;simp only[hlr];omega
    ·rw[if_neg hce]at hw;rw[if_pos hce]at hk2;refine hR1 (l,c) _ ?_ ⟨hok4,hl,hll,λ_=>hk2.symm,λh=>absurd h hce⟩ hw;simp only[if_neg hce,if_pos he];omega
  ·obtain⟨k,hk,hk2⟩:=hg he
   have hGe:G=(l,S):=by
    rw[<-hk2]
    cases k with
    | zero=>rfl
    | succ k=>rw[mz,if_pos (.inl aA4)]
   subst hGe;have hlt':¬((l.length:Int)<(N:Int)):=aA4;refine jd he esum hlt' ?_;refine dI he esum ?_;exact hRX () _ ⟨hl,λ_=>by simp only;omega⟩ (.le (bT he))
 ·have hGe:=hb he;subst hGe;have hi:¬((S.err:Int)=0):=aA4;by_cases hlt:l.length<N
  ·refine hV hi esum ?_;refine dI hi esum ?_;exact hRX () _ ⟨hl,λh=>absurd h he⟩ (.le aG)
  ·have hlt':¬((l.length:Int)<(N:Int)):=aA4;refine jd hi esum hlt' ?_;refine dI hi esum ?_;exact hRX () _ ⟨hl,λh=>absurd h he⟩ (.le aG)
def lu (t:Bs) (nl nd:Nat) (b:List Nat×SS):(List Nat×List Nat)×SS:=
 if b.2.err≠0 then(([],[]),b.2)else
 if b.1.getD 256 0=0\/bz (b.1.take nl)=false\/bz (b.1.drop nl)=false then(([],[]),{b.2 with err:=3})else((b.1.take nl,b.1.drop nl),b.2)
def cE (t:Bs) (nl nd:Nat) (a:List Nat×SS):(List Nat×List Nat)×SS:=
 if a.2.err≠0 then(([],[]),a.2)else if bz a.1=false then(([],[]),{a.2 with err:=3})else lu t nl nd (cO t a.1 (nl+nd) (nl+nd) [] a.2)
theorem pD (t:Bs) (S:SS):b9 t S=if 8*t.length<S.p+14 then(([],[]),{S with err:=6})else if 286<numAt t S.p 5+257\/30<numAt t (S.p+5) 5+1 then(([],[]),{S with p:=S.p+14,err:=3})else
    cE t (numAt t S.p 5+257) (numAt t (S.p+5) 5+1) (firstS t (numAt t (S.p+10) 4+4) (numAt t (S.p+10) 4+4) (List.replicate 19 0) {S with p:=S.p+14}):=rfl
def lA:aK:=.arr 1 (an eJ)
set_option maxHeartbeats 1000000 in
theorem LN (t:Bs) (most:Nat) (S:SS) (fl:List Nat) (nl nd nc:Nat) (x9:AV) {E:Env} {R:HP->AV->List AV->Prop} (hN:E.N<=1000000) (hR:cR (l6 t most (cE t nl nd (fl,S))) R) (h0:bQ t most S)
    (hfl:∀n∈fl,n<=15) (hfn:fl.length=19) (hb:S.err=0->257<=nl/\nl<=286/\1<=nd/\nd<=30) :
    vcW Tryz.prog E Cod.uh (Q5 R) ⟨[(0,.ab 79038 0),(4,.int .i64 nl),(5,.int .i64 nd),(6,.int .i64 nc),(7,.sl 75053 0 19),(8,.sl 75054 0 19),(9,x9),(64,.bool false),(2000000,.ab 79038 0)],aC t most S++[(75053,.arr 1 (an fl)),(75054,lA)]⟩:=by
 have hnl:=bX fl;have hck:=ue fl hfl aA4;have hsub:aI (an fl) 0 19=an fl:=by rw[<-hfn];exact fR
 refine dM (y:=Cod.BN) hN (λ_:Unit=>⟨[(0,.ab 79038 0),(4,.int .i64 nl),(5,.int .i64 nd),(7,.ro 1 (an fl)),(2000000,.ab 79038 0)],aC t most (if S.err=0/\bz fl=false then {S with err:=3} else S)⟩) (λ_=>True) (λR2 hR2=>?_) (λ_ _=>?_)
 ·clear hR;by_cases he:S.err=0
  ·cases hc:bz fl with
   | false=>
    rw[hc]at hck;rw[if_pos ⟨he,hc⟩]at hR2;refine b4 he ?_;refine gG ?_;refine fN (k7 (eM hsub) hck vV rfl ?_);refine wW ?_;refine gG ?_;refine aR (aC t most S) (fj t most S 3) (bT he) nofun ?_;rintro h' v ar ⟨rfl,rfl,rfl⟩;refine⟨aG,rfl,?_⟩;rw[eX he];refine bB ?_
    exact hR2 () _ trivial (.bu 75053 (.le (bT hsub)))
   | true=>
    rw[hc]at hck;rw[if_neg (by simp[hc])]at hR2;refine b4 he ?_;refine gG ?_;refine fN (k7 (eM hsub) hck vV rfl ?_);refine wW ?_;refine gG ?_;exact hR2 () _ trivial (.bu 75053 (.le (Eh he hsub)))
  ·have hi:¬((S.err:Int)=0):=aA4;rw[if_neg (λh=>he h.1)]at hR2;refine b4 hi ?_;refine bq hi ?_;exact hR2 () _ trivial (.bu 75053 (.le (bT hsub)))
 ·by_cases he:S.err=0
  ·by_cases hc:bz fl=false
   ·rw[if_pos ⟨he,hc⟩];have hF:cE t nl nd (fl,S)=(([],[]),{S with err:=3}):=by unfold cE;rw[if_neg (by simpa using he),if_pos hc]
    refine bB ?_;exact nn hR hF (by simp) aG
   ·rw[if_neg (λh=>hc h.2)];obtain⟨h1,h2,h3,h4⟩:=hb he;have hcod:=uf fl hfl aA4;have hF:cE t nl nd (fl,S)=lu t nl nd (cO t fl (nl+nd) (nl+nd) [] S):=by unfold cE;rw[if_neg (by simpa using he),if_neg hc]
    rw[hF]at hR;have hbb:=LK t most _ S fl nl nd (E:=E) (R:=R) hN hR h0 he hfl hfn h1 h2 h3 h4 (λh=>if_pos h) (λh=>if_neg (by simpa using h));clear hR;refine b4 he ?_;refine aw hcod rfl rfl ?_;refine wW ?_;simp only[aC,he]at hbb;exact hbb
  ·rw[if_neg (λh=>he h.1)];have hi:¬((S.err:Int)=0):=aA4;have hF:cE t nl nd (fl,S)=(([],[]),S):=if_pos he;refine b4 hi ?_;exact nn hR hF he aG
theorem nr (t:Bs) (nc k:Nat) (l:List Nat) (S:SS):firstS t nc (k+1) l S=if S.err≠0 then(l,S)else firstS t nc k (l.set (eJ.getD (nc-(k+1)) 0) (aH t 3 S).1) (aH t 3 S).2:=rfl
theorem pH (t:Bs) (nc k:Nat) (l:List Nat) (S:SS) (h:S.err≠0):firstS t nc k l S=(l,S):=by
 cases k with
 | zero=>rfl
 | succ k=>rw[nr,if_pos h]
theorem Bp:∀j,j<19->eJ.getD j 0<19:=by decide
theorem tP {l:List Nat} {i x:Nat}:(an l).set i (.int .i64 (x:Int))=an (l.set i x):=by simp[an,aDA]
set_option maxHeartbeats 1000000 in
theorem LO (t:Bs) (most:Nat) (S0:SS) (nl nd nc:Nat) {E:Env} {R:HP->AV->List AV->Prop} (hN:E.N<=1000000) (h0:bQ t most S0) (hc:nc<=19)
    (hR:cR (l6 t most (cE t nl nd (firstS t nc nc (List.replicate 19 0) S0))) R) (hb:S0.err=0->257<=nl/\nl<=286/\1<=nd/\nd<=30) :
    vcW Tryz.prog E Cod.BL (Q5 R) ⟨[(0,.ab 79038 0),(4,.int .i64 nl),(5,.int .i64 nd),(6,.int .i64 nc),(2000000,.ab 79038 0)],aC t most S0⟩:=by
 generalize hG:firstS t nc nc (List.replicate 19 0) S0=G at hR;refine bB ?_
 refine aZ hN (λq:Nat×List Nat×SS=>⟨[(0,.ab 79038 0),(4,.int .i64 nl),(5,.int .i64 nd),(6,.int .i64 nc),(7,.sl 75053 0 19),(8,.sl 75054 0 19),(9,.int .i64 q.1),(2000000,.ab 79038 0)],aC t most q.2.2++[(75053,.arr 1 (an q.2.1)),(75054,lA)]⟩)
  (λq=>bQ t most q.2.2/\(∀n∈q.2.1,n<=15)/\q.2.1.length=19/\q.1<=nc/\(q.2.2.err=0->S0.err=0)/\firstS t nc (nc-q.1) q.2.1 q.2.2=G) (λq=>nc-q.1) (0,List.replicate 19 0,S0)
  (.le (by simp(disch:=omega)only[go_sem,simprocAttr,aC,lA];exact⟨rfl,rfl⟩)) ⟨h0,by simp,by simp,by simp,λh=>h,hG⟩ ?_
 rintro⟨j,l,S⟩ R1 ⟨hok,hl,hll,hj,he0,hg⟩ hR1;simp only at hok hl hll hj hg he0;have hnl:=bX l
 have fin:(l,S)=G->vcW Tryz.prog E Cod.uh (Q5 R) ⟨[(0,.ab 79038 0),(4,.int .i64 nl),(5,.int .i64 nd),(6,.int .i64 nc),(7,.sl 75053 0 19),(8,.sl 75054 0 19),(9,.int .i64 j),(64,.bool false),(2000000,.ab 79038 0)],aC t most S++[(75053,.arr 1 (an l)),(75054,lA)]⟩:=by
  intro h;subst h;exact LN t most S l nl nd nc _ hN hR hok hl hll (λh=>hb (he0 h))
 clear hR;by_cases he:S.err=0
 ·by_cases hlt:j<nc
  ·clear fin;obtain⟨m,hm⟩:∃m,nc-j=m+1:=⟨nc-j-1,aA4⟩;rw[hm,nr,if_neg (by simpa using he),show nc-(m+1)=j by omega]at hg;have hpl:=Bp j aA4;have hx:nth (an eJ) j=.int .i64 (eJ.getD j 0:Nat):=dV (by have:eJ.length=19:=rfl;omega);have hpn:(an eJ).length=19:=rfl;generalize eJ.getD j 0=pj at *
   have hnlt:=fE (t:=t) (n:=3) (S:=S);have hnum:=gK t most S hok 3 (by decide);have hok2:bQ t most (aH t 3 S).2:=hok.mv fg;have hxl:nth (an l) pj=.int .i64 (l.getD pj 0:Nat):=dV aA4
   have hnx:∀x,x<8->∀n∈l.set pj x,n<=15:=by
    intro x hx n hn;rcases aCc hn with hn | hn
    ·exact hl n hn
    ·omega
   simp(disch:=omega)only[go_sem,simprocAttr,aC,he,lA,hpn];refine bq he ?_;refine⟨?_,?_⟩
   ·refine bl hx hpn ?_;refine aR (aC t most S) hnum (bT he) nofun ?_;rintro h' v ar ⟨rfl,rfl,rfl⟩;generalize aH t 3 S=a at *
    refine⟨aG,rfl,?_⟩;refine vm hnl hll hxl @tP ?_;exact hR1 (j+1,l.set pj a.1,a.2) _ (by simp only;omega) ⟨hok2,hnx _ hnlt,by simp[hll],hlt,λ_=>he0 he,by simp only;rw[show nc-(j+1)=m by omega];exact hg⟩ (.le (by simp(disch:=omega)only[go_sem,simprocAttr,aC,lA]))
   ·refine aR (aC t most S) hnum (bT he) nofun ?_;rintro h' v ar ⟨rfl,rfl,rfl⟩;generalize aH t 3 S=a at *
    refine⟨aG,rfl,?_⟩;refine vn hnl hll hx hxl hpn @tP ?_;exact hR1 (j+1,l.set pj a.1,a.2) _ (by simp only;omega) ⟨hok2,hnx _ hnlt,by simp[hll],hlt,λ_=>he0 he,by simp only;rw[show nc-(j+1)=m by omega];exact hg⟩ (.le (by simp(disch:=omega)only[go_sem,simprocAttr,aC,lA]))
  ·obtain rfl:j=nc:=aA4;rw[aC9]at hg;have fin:=fin hg;simp only[aC,he]at fin;refine b4 he ?_;refine bq he ?_;exact fin
 ·rw[pH _ _ _ _ _ he]at hg;have fin:=fin hg;simp only[aC]at fin;have hi:¬((S.err:Int)=0):=aA4;by_cases hlt:j<nc
  ·refine b4 hi ?_;refine bq hi ?_;exact fin
  ·refine b4 hi ?_;refine bq hi ?_;exact fin
theorem abr (t:Bs) (S:SS) (he:S.err=0) (h:¬8*t.length<S.p+14):aH t 5 S=(numAt t S.p 5,{S with p:=S.p+5})/\aH t 5 {S with p:=S.p+5}=(numAt t (S.p+5) 5,{S with p:=S.p+10})/\aH t 4 {S with p:=S.p+10}=(numAt t (S.p+10) 4,{S with p:=S.p+14}):=
 ⟨gg he aA4,gg he (by simp only;omega),gg he (by simp only;omega)⟩
set_option maxHeartbeats 1000000 in
theorem ajU (t:Bs) (most:Nat) (S:SS) (h0:bQ t most S) (he:S.err=0):Eng.Spec Tryz.prog 199 (aC t most S) [.ab ft 0] (l6 t most (b9 t S)):=by
 refine Cod.ajV (λE R hN hR=>?_);have hbl:=oQ t;obtain⟨q1,q2,q3,q4⟩:=h0;have h0:bQ t most S:=⟨q1,q2,q3,q4⟩;rw[pD]at hR;generalize hS1:(if 8*t.length<S.p+14 then {S with err:=6} else S)=S1
 have hok1:bQ t most S1:=by rw[<-hS1];split;exact h0.mv iv;exact h0
 refine bB ?_;refine dM hN (λ_:Unit=>⟨[(0,.ab 79038 0),(2000000,.ab 79038 0)],aC t most S1⟩) (λ_=>True) (λR2 hR2=>?_) (λ_ _=>?_)
 ·subst hS1;by_cases hlt:8*t.length<S.p+14
  ·rw[if_pos hlt]at hR2;have hi:((8*t.length:Nat):Int)-(S.p:Int)<14:=aA4;refine jd he hbl hi ?_;refine fx he hbl hi ?_;refine aR (aC t most S) (fj t most S 6) (bT he) nofun ?_;rintro h' v ar ⟨rfl,rfl,rfl⟩;refine⟨aG,rfl,?_⟩;rw[eX he];refine bB ?_;exact hR2 () _ trivial (.le aG)
  ·rw[if_neg hlt]at hR2;have hi:¬((8*t.length:Nat):Int)-(S.p:Int)<14:=aA4;refine jd he hbl hi ?_;refine fx he hbl hi ?_;exact hR2 () _ trivial (.le (bT he))
 ·generalize hF:(if 8*t.length<S.p+14 then((([]:List Nat),([]:List Nat)),{S with err:=6})else if 286<numAt t S.p 5+257\/30<numAt t (S.p+5) 5+1 then(([],[]),{S with p:=S.p+14,err:=3})else
   cE t (numAt t S.p 5+257) (numAt t (S.p+5) 5+1) (firstS t (numAt t (S.p+10) 4+4) (numAt t (S.p+10) 4+4) (List.replicate 19 0) {S with p:=S.p+14}))=F at hR
  have ha:=gK t most S1 hok1 5 (by decide);have hoka:bQ t most (aH t 5 S1).2:=hok1.mv fg;have hla:=fE (t:=t) (n:=5) (S:=S1);generalize hea:aH t 5 S1=a at *
  have hb:=gK t most a.2 hoka 5 (by decide);have hokb:bQ t most (aH t 5 a.2).2:=hoka.mv fg;have hlb:=fE (t:=t) (n:=5) (S:=a.2);generalize heb:aH t 5 a.2=b at *
  have hc:=gK t most b.2 hokb 4 (by decide);have hokc:bQ t most (aH t 4 b.2).2:=hokb.mv fg;have hlc:=fE (t:=t) (n:=4) (S:=b.2);generalize hec:aH t 4 b.2=c at *
  refine bB ?_;refine aR (aC t most S1) ha aG nofun ?_;rintro h' v ar ⟨rfl,rfl,rfl⟩;refine⟨aG,rfl,?_⟩;refine bB ?_;refine aR (aC t most a.2) hb aG nofun ?_;rintro h' v ar ⟨rfl,rfl,rfl⟩;refine⟨aG,rfl,?_⟩;refine bB ?_;refine aR (aC t most b.2) hc aG nofun ?_;rintro h' v ar ⟨rfl,rfl,rfl⟩;refine⟨aG,rfl,?_⟩;refine bB ?_;generalize hS2:(if 286<a.1+257\/30<b.1+1 then b6 3 c.2 else c.2)=S2
  have hok2:bQ t most S2:=by rw[<-hS2];split;exact hokc.mv jq;exact hokc
  refine dM hN (λ_:Unit=>⟨[(0,.ab 79038 0),(4,.int .i64 ((a.1+257:Nat):Int)),(5,.int .i64 ((b.1+1:Nat):Int)),(6,.int .i64 ((c.1+4:Nat):Int)),(2000000,.ab 79038 0)],aC t most S2⟩) (λ_=>True) (λR2 hR2=>?_) (λ_ _=>?_)
  ·subst hS2;by_cases hx1:286<a.1+257
   ·have hx1':=hx1;rw[if_pos (.inl hx1)]at hR2;refine wW ?_;refine gG ?_;refine aR (aC t most c.2) (fj t most c.2 3) aG nofun ?_;rintro h' v ar ⟨rfl,rfl,rfl⟩;generalize b6 3 c.2=S3 at *
    refine⟨aG,rfl,?_⟩;refine bB ?_;exact hR2 () _ trivial (.le aG)
   ·by_cases hx2:30<b.1+1
    ·have hx2':=hx2;rw[if_pos (.inr hx2)]at hR2;refine wW ?_;refine gG ?_;refine aR (aC t most c.2) (fj t most c.2 3) aG nofun ?_;rintro h' v ar ⟨rfl,rfl,rfl⟩;generalize b6 3 c.2=S3 at *
     refine⟨aG,rfl,?_⟩;refine bB ?_;exact hR2 () _ trivial (.le aG)
    ·rw[if_neg aA4]at hR2;refine wW ?_;refine gG ?_;exact hR2 () _ trivial (.le aG)
  ·have hfin:F=cE t (a.1+257) (b.1+1) (firstS t (c.1+4) (c.1+4) (List.replicate 19 0) S2):=by
    rw[<-hF];by_cases hlt:8*t.length<S.p+14
    ·rw[if_pos hlt]at hS1 |-;have h1:S1.err≠0:=by rw[<-hS1];simp
     rw[ly h1]at hea;subst hea;rw[ly h1]at heb;subst heb;rw[ly h1]at hec;subst hec;rw[if_neg (by simp)]at hS2;simp only at hS2;subst hS2;rw[pH _ _ _ _ _ h1];unfold cE;rw[if_pos h1,hS1]
    ·rw[if_neg hlt]at hS1 |-;subst hS1;obtain⟨w1,w2,w3⟩:=abr t S he hlt;rw[w1]at hea;subst hea;simp only at heb;rw[w2]at heb;subst heb;simp only at hec;rw[w3]at hec;subst hec;simp only at hS2 |-;by_cases hx:286<numAt t S.p 5+257\/30<numAt t (S.p+5) 5+1
     ·rw[if_pos hx]at hS2 |-;rw[eX (by exact he)]at hS2;subst hS2;rw[pH _ _ _ _ _ (by simp)];unfold cE;rw[if_pos (by simp)]
     ·rw[if_neg hx]at hS2 |-;rw[hS2]
   rw[hfin]at hR;refine LO t most S2 (a.1+257) (b.1+1) (c.1+4) hN hok2 aA4 hR (λh=>?_);rw[<-hS2]at h;split at h
   ·exact absurd h (iP (by decide))
   ·omega
theorem zY {t:Bs} {fl:List Nat} {N:Nat} (hfn:fl.length=19):∀(k:Nat) (l:List Nat) (S:SS),(∀n∈l,n<=15)->l.length<=N->(∀n∈(cO t fl N k l S).1,n<=15)/\(cO t fl N k l S).1.length<=N
 | 0,l,S,h1,h2=>⟨h1,h2⟩
 | k+1,l,S,h1,h2=>by
  rw[mz];split
  ·exact⟨h1,h2⟩
  ·rename_i hn;have he:S.err=0:=aA4
   have hs:(aQ t fl S).1<19:=by
    by_cases h:(aQ t fl S).2.err=0
    ·have:=(rh he h).2;omega
    ·unfold aQ at h |-;split at h
     ·rename_i hh;rw[if_pos hh];simp
     ·rename_i hh;rw[if_neg hh];split at h
      ·rename_i hh;rw[if_pos hh];simp
      ·exact absurd he h
   have hb:=DW (t:=t) (S:=(aQ t fl S).2) h1 hs;split
   ·exact⟨h1,h2⟩
   ·rename_i hc;have ho:=Bd (N:=N) (l:=l) (b:=bM t l (aQ t fl S).1 (aQ t fl S).2) aA4;refine zY hfn k _ _ ?_ (by simp only[aA8,aBt];exact ho.2.2);intro n hn;rcases aBz.1 hn with hn | hn
    ·exact h1 n hn
    ·rw[(aC0.1 hn).2];exact hb.2
theorem yi {t:Bs} {nc:Nat}:∀(k:Nat) (l:List Nat) (S:SS),(firstS t nc k l S).1.length=l.length
 | 0,l,S=>rfl
 | k+1,l,S=>by
  rw[nr];split
  ·rfl
  ·rw[yi k];simp
theorem LP {t:Bs} {S:SS} (h:(b9 t S).2.err=0):(∀n∈(b9 t S).1.1,n<=15)/\(b9 t S).1.1.length<=320/\(∀n∈(b9 t S).1.2,n<=15)/\(b9 t S).1.2.length<=320:=by
 rw[pD]at h |-;split
 ·simp
 ·rename_i h1;rw[if_neg h1]at h;split
  ·simp
  ·rename_i h2;rw[if_neg h2]at h;have hfl:=yi (t:=t) (nc:=numAt t (S.p+10) 4+4) (numAt t (S.p+10) 4+4) (List.replicate 19 0) {S with p:=S.p+14};generalize firstS t (numAt t (S.p+10) 4+4) (numAt t (S.p+10) 4+4) (List.replicate 19 0) {S with p:=S.p+14}=a at *
   generalize numAt t S.p 5+257=nl at *
   generalize numAt t (S.p+5) 5+1=nd at *
   rw[aBt]at hfl;unfold cE;split
   ·simp
   ·split
    ·simp
    ·have hg:=zY (t:=t) (fl:=a.1) (N:=nl+nd) hfl (nl+nd) [] a.2 (by simp) (by simp);unfold lu;generalize cO t a.1 (nl+nd) (nl+nd) [] a.2=b at *
     split
     ·simp
     ·split
      ·simp
      ·refine⟨rj hg.1 nl,?_,pA hg.1 nl,?_⟩
       ·simp only[aBa];omega
       ·simp only[aBb];omega
theorem Ik {t:Bs} {S:SS} (he:S.err=0) (h:¬8*t.length<S.p+3) :
    aH t 1 S=(numAt t S.p 1,{S with p:=S.p+1})/\aH t 2 {S with p:=S.p+1}=(numAt t (S.p+1) 2,{S with p:=S.p+3}):=
 ⟨gg he aA4,gg he (by simp only;omega)⟩
theorem up8 (n:Nat):cH n/8=(n+7)/8:=by unfold cH;omega
def my (t:Bs) (most k:Nat) (S:SS):SS:=
 if S.err≠0 then S else if k=0 then dY t most S else if k=1 then dp t most ee ed S
  else if k=2 then(if(b9 t S).2.err≠0 then(b9 t S).2 else dp t most (b9 t S).1.1 (b9 t S).1.2 (b9 t S).2)else {S with err:=3}
set_option maxHeartbeats 2000000 in
theorem tw (t:Bs) (most k:Nat) (S:SS) (fin:Nat) {E:Env} {Q:KQ} {R2:KS} (hN:E.N<=1000000) (hok:bQ t most S) (hk:k<4)
    (hR2:∀st',Wk st' ⟨[(9,.ab 79038 0),(10,.int .i64 fin)],aC t most (my t most k S)⟩->R2.ap st') :
    vcW Tryz.prog E Cod.BS (KQ.fk R2 Q) ⟨[(9,.ab 79038 0),(10,.int .i64 fin),(11,.int .i64 k)],aC t most S⟩:=by
 unfold my at hR2;by_cases he:S.err=0
 ·rw[if_neg (by simpa using he)]at hR2;by_cases h0:k=0
  ·rw[if_pos h0]at hR2;subst h0;refine b4 he ?_;refine gG ?_;refine aR (aC t most S) (amA t most S hok) (bT he) nofun ?_;rintro h' v ar ⟨rfl,rfl,rfl⟩;generalize dY t most S=S3 at *
   refine⟨aG,rfl,?_⟩;refine bB ?_;exact hR2 _ (.le aG)
  ·rw[if_neg h0]at hR2;have i0:¬((k:Int)=0):=aA4;by_cases h1:k=1
   ·rw[if_pos h1]at hR2;subst h1;have hp:=B7 t most S hok ee ed jl.1 (by rw[jl.2.1];decide) jk.1 (by rw[jk.2.1];decide);have hfx:=akr;generalize ee=l at *
    generalize ed=d at *
    generalize hF:dp t most l d S=F at *
    refine b4 he ?_;refine gG ?_;refine aw hfx rfl rfl ?_;refine wW ?_;refine aR (aC t most S) hp (bT he) nofun ?_;rintro h' v ar ⟨rfl,rfl,rfl⟩;refine⟨aG,rfl,?_⟩;refine bB ?_;exact hR2 _ (.le aG)
   ·rw[if_neg h1]at hR2;have i1:¬((k:Int)=1):=aA4;by_cases h2:k=2
    ·rw[if_pos h2]at hR2;subst h2;have hd:=ajU t most S hok he;have hg:=LP (t:=t) (S:=S);have hokd:bQ t most (b9 t S).2:=hok.mv qo;generalize b9 t S=D at *
     refine b4 he ?_;refine gG ?_;refine aR (aC t most S) hd (bT he) nofun ?_;rintro h' v ar ⟨rfl,rfl,rfl⟩;by_cases hde:D.2.err=0
     ·rw[if_neg (by simpa using hde)]at hR2;rw[if_pos hde];obtain⟨g1,g2,g3,g4⟩:=hg hde;have hp:=B7 t most D.2 hokd D.1.1 D.1.2 g1 g2 g3 g4;generalize dp t most D.1.1 D.1.2 D.2=F at *
      refine⟨aG,vV,?_⟩;refine b4 hde ?_;refine aR (aC t most D.2) hp (bT hde) nofun ?_;rintro h' v ar ⟨rfl,rfl,rfl⟩;refine⟨aG,rfl,?_⟩;refine bB ?_;exact hR2 _ (.le aG)
     ·rw[if_pos hde]at hR2;rw[if_neg hde];have hi:¬((D.2.err:Int)=0):=aA4;refine⟨aG,vV,?_⟩;refine b4 hi ?_;refine bq hi ?_;exact hR2 _ (.le aG)
    ·rw[if_neg h2]at hR2;obtain rfl:k=3:=aA4;refine b4 he ?_;refine gG ?_;refine aR (aC t most S) (fj t most S 3) (bT he) nofun ?_;rintro h' v ar ⟨rfl,rfl,rfl⟩;refine⟨aG,rfl,?_⟩;rw[eX he];refine bB ?_;exact hR2 _ (.le aG)
 ·have hi:¬((S.err:Int)=0):=aA4;rw[if_pos he]at hR2;refine b4 hi ?_;exact hR2 _ (.le aG)
theorem Il {t:Bs} {most:Nat} {S:SS} (he:S.err=0) (h:¬8*t.length<S.p+3) :
    dH t most S=(decide (numAt t S.p 1=1),my t most (numAt t (S.p+1) 2) {S with p:=S.p+3}):=by
 have hk:∀k,my t most k {S with p:=S.p+3}=if k=0 then dY t most {S with p:=S.p+3} else if k=1 then dp t most ee ed {S with p:=S.p+3}
  else if k=2 then(if(b9 t {S with p:=S.p+3}).2.err≠0 then(b9 t {S with p:=S.p+3}).2 else dp t most (b9 t {S with p:=S.p+3}).1.1 (b9 t {S with p:=S.p+3}).1.2 (b9 t {S with p:=S.p+3}).2)else {S with p:=S.p+3,err:=3}:=λk=>if_neg (by simpa using he)
 rw[hk];exact if_neg h
set_option maxHeartbeats 2000000 in
theorem akW (x:Bs) (o most:Nat) (ho:o<=x.length) (ht:(x.drop o).length<=1000000) (hx:x.length<=4000000000000000000) (hm:most<=65536) :
    aJ Tryz.prog 145 [.str x,.int .i64 o,.int .i64 most] (.ai [.str (dN (x.drop o) most).1,.int .i64 ((dN (x.drop o) most).2.1:Nat),.int .i64 ((dN (x.drop o) most).2.2:Nat)]):=by
 refine Cod.akX (λE R hN hR=>?_);have c1:¬((o:Int)<0):=aA4;have c2:¬((x.length:Int)<(o:Int)):=aA4;have c3:¬((most:Int)<0):=aA4;have c4:¬((65536:Int)<(most:Int)):=aA4;have hbits:=agv (x.drop o) ht;refine dq c1 c2 c3 c4 ?_;refine lj c1 c2 c3 c4 ?_;generalize x.drop o=t at *
 have hbl:=oQ t;refine aw hbits rfl rfl ?_;refine wW ?_;unfold dN at hR;simp only at hR;generalize hRS:fT t most ⟨0,[],0⟩=RS at hR
 refine aZ hN (λS:SS=>⟨[(9,.ab 79038 0)],aC t most S⟩) (λS=>bQ t most S/\(S.err=0->fT t most S=RS)/\(S.err≠0->RS=S)) (λS=>if S.err=0 then 8*t.length+1-S.p else 0) ⟨0,[],0⟩
  (.kn 79038 2 73035 1 [.ro 1 (cd (bw t 0)),.int .i64 0,.al,.int .i64 most,.int .i64 0] vV rfl rfl (.le aG)) ⟨⟨ht,aA4,by simp,by simp⟩,λ_=>hRS,λh=>absurd rfl h⟩ ?_
 rintro S R1 ⟨hok,hg,hb⟩ hR1;by_cases he:S.err=0
 ·have hg:=hg he;rw[run_eq hok.pl]at hg;have hmb:=lx (t:=t) (most:=most) (S:=S);have hokb:bQ t most (dH t most S).2:=hok.mv hmb.1;generalize hS1:(if 8*t.length<S.p+3 then {S with err:=6} else S)=S1
  have hok1:bQ t most S1:=by rw[<-hS1];split;exact hok.mv iv;exact hok
  have hpl:=hok.pl;have htl:=hok.tl;refine b4 he ?_;refine dM hN (λ_:Unit=>⟨[(9,.ab 79038 0)],aC t most S1⟩) (λ_=>True) (λR2 hR2=>?_) (λ_ _=>?_)
  ·subst hS1;clear hR hR1;by_cases hlt:8*t.length<S.p+3
   ·rw[if_pos hlt]at hR2;have hi:((8*t.length:Nat):Int)-(S.p:Int)<3:=aA4;refine jd he hbl hi ?_;refine fx he hbl hi ?_;refine aR (aC t most S) (fj t most S 6) (bT he) nofun ?_;rintro h' v ar ⟨rfl,rfl,rfl⟩;refine⟨aG,rfl,?_⟩;rw[eX he];refine bB ?_;exact hR2 () _ trivial (.le aG)
   ·rw[if_neg hlt]at hR2;have hi:¬((8*t.length:Nat):Int)-(S.p:Int)<3:=aA4;refine jd he hbl hi ?_;refine fx he hbl hi ?_;exact hR2 () _ trivial (.le (bT he))
  ·have ha:=gK t most S1 hok1 1 (by decide);have hoka:bQ t most (aH t 1 S1).2:=hok1.mv fg;have hla:=fE (t:=t) (n:=1) (S:=S1);generalize hea:aH t 1 S1=a at *
   have hbn:=gK t most a.2 hoka 2 (by decide);have hokb2:bQ t most (aH t 2 a.2).2:=hoka.mv fg;have hlb:=fE (t:=t) (n:=2) (S:=a.2);generalize heb:aH t 2 a.2=b at *
   have hkk:(dH t most S).2=my t most b.1 b.2/\((dH t most S).2.err=0->((dH t most S).1=true↔a.1=1)):=by
    by_cases hlt:8*t.length<S.p+3
    ·rw[if_pos hlt]at hS1;have h1:S1.err≠0:=by rw[<-hS1];simp
     rw[ly h1]at hea;subst hea;rw[ly h1]at heb;subst heb;have hbk:dH t most S=(true,{S with err:=6}):=if_pos hlt;rw[hbk];refine⟨?_,λh=>absurd h (by simp)⟩;unfold my;rw[if_pos h1,hS1]
    ·rw[if_neg hlt]at hS1;subst hS1;obtain⟨w1,w2⟩:=Ik he hlt;rw[w1]at hea;subst hea;simp only at heb;rw[w2]at heb;subst heb;rw[Il he hlt];exact⟨rfl,λ_=>by simp⟩
   obtain⟨hk1,hk2⟩:=hkk;generalize dH t most S=B at *
   refine bB ?_;refine aR (aC t most S1) ha aG nofun ?_;rintro h' v ar ⟨rfl,rfl,rfl⟩;refine⟨aG,rfl,?_⟩;refine bB ?_;refine aR (aC t most a.2) hbn aG nofun ?_;rintro h' v ar ⟨rfl,rfl,rfl⟩;refine⟨aG,rfl,?_⟩;refine bB ?_;refine dM hN (λ_:Unit=>⟨[(9,.ab 79038 0),(10,.int .i64 a.1)],aC t most B.2⟩) (λ_=>True) (λR2 hR2=>?_) (λ_ _=>?_)
   ·have hkd:=tw t most b.1 b.2 a.1 (E:=E) (R2:=R2) (Q:=KQ.cN 1 (KQ.fk R1 (KQ.cN 0 (KQ.seq Tryz.prog E Cod.BT (KQ.post [RVar.tmp 6,RVar.tmp 7,RVar.tmp 8] 3 R))))) hN hokb2 hlb (λst' hw=>hR2 () _ trivial (by rw[hk1];exact hw));simp only[aC]at hkd;exact hkd
   ·by_cases hBe:B.2.err=0
    ·by_cases ha1:a.1=1
     ·have hB1:=(hk2 hBe).2 ha1;rw[if_pos (.inr hB1)]at hg;subst hg;rw[if_neg (by simpa using hBe)]at hR;have hup:=BC B.2.p (by have:=hokb.pl;omega);have hi:((a.1:Nat):Int)=1:=aA4;have hup2:=up8 B.2.p;have hub:cH B.2.p<=B.2.p+8:=by unfold cH;omega
      have:=hokb.pl;have:=hokb.ol;refine hV hBe hi ?_;refine dI hBe hi ?_;refine aw hup rfl rfl ?_;generalize cH B.2.p=ub at *
      have e8:(ub:Int)/8=(((B.2.p+7)/8:Nat):Int):=aA4;refine au e8 ?_;exact hR.wk (h':=[]) (r':=.ai [.str B.2.out,.int .i64 ((B.2.p+7)/8:Nat),.int .i64 (0:Nat)]) (ar':=[.undef,.undef,.undef]) rfl (.le vV) ⟨rfl,rfl⟩
     ·have hB1:¬B.1=true:=λh=>ha1 ((hk2 hBe).1 h);have hi:¬((a.1:Nat):Int)=1:=aA4;rw[if_neg (λh=>h.elim (λh=>h hBe) hB1)]at hg;refine hV hBe hi ?_;refine dI hBe hi ?_;exact hR1 B.2 _ (by simp only[if_pos hBe,if_pos he];have:=hmb.2 hBe;omega) ⟨hokb,λ_=>hg,λh=>absurd hBe h⟩ (.le (bT hBe))
    ·rw[if_pos (.inl hBe)]at hg;have hi:¬((B.2.err:Int)=0):=aA4;refine b4 hi ?_;refine bq hi ?_;exact hR1 B.2 _ (by simp only[if_neg hBe,if_pos he];omega) ⟨hokb,λh=>absurd h hBe,λ_=>hg.symm⟩ (.le aG)
 ·obtain rfl:=hb he;rw[if_pos he]at hR;have hi:¬((RS.err:Int)=0):=aA4;refine b4 hi ?_;refine bq hi ?_;exact hR.wk (h':=[]) (r':=.ai [.str [],.int .i64 (0:Nat),.int .i64 (RS.err:Nat)]) (ar':=[.undef,.undef,.undef]) rfl (.le vV) ⟨rfl,rfl⟩
def fH:Nat:=65032
def rD:Nat:=60022
attribute [go_sem] fH rD
def aW (s:Bs) (o most a hv:Nat) (out:Bs):HP:=[(fH,.var [.ab RD 0,.sl rD 0 out.length,.int .i64 most]),(rD,.arr 1 (out.map ub)),(RD,.var (aY s a hv o))]
theorem oo {p:Prop} (h:p:=by simp(disch:=first | omega | (simp only[Lx];omega))only[go_sem,simprocAttr,aW,aY,bt]):p:=h
theorem vo {a b:Prop} (k:b) (h:b->a:=by intro h;simp(disch:=first | omega | (simp only[Lx];omega))only[go_sem,simprocAttr,aW,aY,bt];exact h):a:=h k
theorem ru {E0:Prop} {p:Prop} (e0:E0) (h:E0->p:=by intro e0;simp(disch:=first | omega | (simp only[Lx];omega))only[go_sem,simprocAttr,aW,aY,bt,e0]):p:=h e0
theorem bE {p:Prop} (h:p:=by simp(disch:=first | omega | (simp only[Lx];omega))only[go_sem,simprocAttr,aW,aY]):p:=h
theorem j0 {a b:Prop} (k:b) (h:b->a:=by intro h;simp(disch:=first | omega | (simp only[Lx];omega))only[go_sem,simprocAttr,aW,aY];exact h):a:=h k
theorem Ej {E0:Prop} {p:Prop} (e0:E0) (h:E0->p:=by intro e0;simp(disch:=first | omega | (simp only[Lx];omega))only[go_sem,simprocAttr,aW,aY,e0]):p:=h e0
theorem vq {E0:Prop} {a b:Prop} (e0:E0) (k:b) (h:E0->b->a:=by intro e0 h;simp(disch:=first | omega | (simp only[Lx];omega))only[go_sem,simprocAttr,aW,aY,e0];exact h):a:=h e0 k
theorem vVJ {p:Prop} (h:p:=by simp(disch:=first | omega | (simp only[Lx];omega))only[go_sem,simprocAttr,aW]):p:=h
theorem je {a b:Prop} (k:b) (h:b->a:=by intro h;simp(disch:=first | omega | (simp only[Lx];omega))only[go_sem,simprocAttr,aW];exact h):a:=h k
theorem vr {E0 E1:Prop} {a b:Prop} (e0:E0) (e1:E1) (k:b) (h:E0->E1->b->a:=by intro e0 e1 h;simp(disch:=first | omega | (simp only[Lx];omega))only[go_sem,simprocAttr,aW,e0,e1];exact h):a:=h e0 e1 k
theorem zr (s:Bs) (o most a hv:Nat) (out:Bs) (hm:most<=1000000) (ho:out.length<=most) (c:UInt8):Eng.Spec Tryz.prog 235 (aW s o most a hv out) [.ab fH 0,.int .u8 (c.toNat:Int)]
    (λh' v ar=>h'=aW s o most a hv (if out.length=most then out else out++[c])/\v=.int .i64 (if out.length=most then 2 else 0:Nat)/\ar=[.ab fH 0,.int .u8 (c.toNat:Int)]):=by
 refine Cod.T3 (λE R hN hR=>?_);have hc:=c.toNat_lt;by_cases hf:out.length=most
 ·rw[if_pos hf,if_pos hf]at hR;refine j0 ?_;refine gG ?_;exact hR.le bE ⟨rfl,rfl,rfl⟩
 ·rw[if_neg hf,if_neg hf]at hR;refine j0 ?_;refine gG ?_;refine hR.le ?_ ⟨rfl,rfl,rfl⟩;refine j0 ?_;rw[aC6]
theorem Zj:∀i:Nat,i<28->8<=i->IntKind.i64.wrap (3+IntKind.i64.wrap ((4+(i:Int)%4)*2^min ((i:Int)/4-1).toNat 64))=((3+(4+i%4)*2^(i/4-1):Nat):Int)/\(i:Int)/4-1=((i/4-1:Nat):Int):=by decide +kernel
theorem Lu:∀i:Nat,i<30->4<=i->IntKind.i64.wrap (1+IntKind.i64.wrap ((2+(i:Int)%2)*2^min ((i:Int)/2-1).toNat 64))=((1+(2+i%2)*2^(i/2-1):Nat):Int)/\(i:Int)/2-1=((i/2-1:Nat):Int):=by decide +kernel
theorem Tj (i:Nat) (hi:i<=28):aJ Tryz.prog 248 [.int .i64 i] (.ai [.int .i64 ((bh i).1:Nat),.int .i64 ((bh i).2:Nat)]):=by
 refine Cod.Tk (λE R hN hR=>?_);by_cases h28:i=28
 ·subst h28;refine wW ?_;exact hR.le vV ⟨rfl,rfl⟩
 ·by_cases h8:i<8
  ·have e:bh i=(3+i,0):=by unfold bh;rw[if_neg h28,if_pos h8]
   rw[e]at hR;refine wW ?_;refine gG ?_;exact hR.le vV ⟨rfl,rfl⟩
  ·have e:bh i=(3+(4+i%4)*2^(i/4-1),i/4-1):=by unfold bh;rw[if_neg h28,if_neg h8]
   rw[e]at hR;refine wW ?_;refine gG ?_;obtain⟨w1,w2⟩:=Zj i aA4 aA4;rw[w1,w2];exact hR.le vV ⟨rfl,rfl⟩
theorem Se (i:Nat) (hi:i<=29):aJ Tryz.prog 249 [.int .i64 i] (.ai [.int .i64 ((cf i).1:Nat),.int .i64 ((cf i).2:Nat)]):=by
 refine Cod.Sf (λE R hN hR=>?_);by_cases h4:i<4
 ·have e:cf i=(1+i,0):=by unfold cf;rw[if_pos h4]
  rw[e]at hR;refine wW ?_;refine gG ?_;exact hR.le vV ⟨rfl,rfl⟩
 ·have e:cf i=(1+(2+i%2)*2^(i/2-1),i/2-1):=by unfold cf;rw[if_neg h4]
  rw[e]at hR;refine wW ?_;refine gG ?_;obtain⟨w1,w2⟩:=Lu i aA4 aA4;rw[w1,w2];exact hR.le vV ⟨rfl,rfl⟩
def PI (s:Bs) (o most:Nat) (F:SS) (h':HP) (v:AV):Prop:=
 ∃a' hv' out',h'=aW s o most a' hv' out'/\v=.int .i64 (F.err:Nat)/\(F.err=0->out'=F.out/\bN s a' hv' (8*o+F.p))
theorem js {s:Bs} {o most:Nat} {F:SS} {h':HP} {v:AV} (h:∃a' hv' S',h'=aW s o most a' hv' S'.out/\bN s a' hv' (8*o+S'.p)/\S'.out.length<=most/\v=.int .i64 (F.err:Nat)/\(F.err=0->S'=F)):PI s o most F h' v:=by
 obtain⟨a',hv',S',h1,h2,_,h4,h5⟩:=h;exact⟨a',hv',S'.out,h1,h4,λhe=>by obtain rfl:=h5 he;exact⟨rfl,h2⟩⟩
theorem tF (s:Bs) (o p:Nat):dm s (8*o+p)=8*(s.drop o).length-p:=by unfold dm;rw[aBb];omega
theorem xF (s:Bs) (q:Nat) (h:q+2<=s.length):(s.drop q).take 2=[s.getD q 0,s.getD (q+1) 0]:=by
 have h1:q<s.length:=aA4;have h2:q+1<s.length:=aA4;rw[aB0 h1,aB0 h2,aA5,aA5,List.getElem?_eq_getElem h1,List.getElem?_eq_getElem h2];rfl
theorem z8 (x y:UInt8):aJ Tryz.prog 244 [.str [x,y]] (.int .u64 ((x.toNat+y.toNat*2^8:Nat):Int)):=by
 refine Cod.OG (λE R hN hR=>?_);have hx:=x.toNat_lt;have hy:=y.toNat_lt;refine wW ?_;refine aZ hN (λi:Nat=>⟨[(0,.str [x,y]),(3,.int .u64 (if i=0 then 0 else if i=1 then x.toNat else x.toNat+y.toNat*2^8:Nat)),(7,.int .i64 2),(8,.int .i64 i)],[]⟩) (λi=>i<=2) (λi=>2-i) 0 (.le vV) aA4 ?_
 rintro i R1 hi hR1;obtain rfl | rfl | rfl:i=0\/i=1\/i=2:=aA4
 ·have e0:bits .or .u64 0 (IntKind.u64.wrap ((x.toNat:Int)*2^min 0 64))=((x.toNat:Nat):Int):=(tU (x:=0) (k:=0) (b:=x.toNat) (by decide) (by decide) hx).trans (by rw[aCY,Nat.pow_zero,aBP]);refine au e0 ?_;exact hR1 1 _ aA4 aA4 (.le vV)
 ·have e1:bits .or .u64 (x.toNat:Int) (IntKind.u64.wrap ((y.toNat:Int)*2^min 8 64))=((x.toNat+y.toNat*2^8:Nat):Int):=tU (k:=8) hx (by decide) hy;refine au e1 ?_;exact hR1 2 _ aA4 aA4 (.le vV)
 ·refine wW ?_;exact hR.le vV ⟨rfl,rfl⟩
theorem nP (t:Bs) (most:Nat) {S:SS} (h:S.err≠0):∀n,rawS t most n S=S
 | 0=>rfl
 | n+1=>by rw[uq,if_pos h]
theorem Cs (t:Bs) (most:Nat):∀(n:Nat) (S:SS) (q:Nat),S.err=0->S.p=8*q->q<=t.length->S.out.length<=most ->
    (rawS t most n S).err=(if most<S.out.length+min n (t.length-q)then 2 else if t.length<q+n then 6 else 0)/\((rawS t most n S).err=0->rawS t most n S=⟨8*(q+n),S.out++(t.drop q).take n,0⟩)
 | 0,S,q,he,hp,hq,ho=>by
  refine⟨?_,λ_=>?_⟩
  ·rw[if_neg aA4,if_neg aA4];exact he
  ·obtain⟨p,out,err⟩:=S;simp only at he hp;subst he hp
   simp[rawS]
 | n+1,S,q,he,hp,hq,ho=>by
  rw[uq,if_neg (by simpa using he)];by_cases hq1:q=t.length
  ·have hn:=kp (n:=8) he (t:=t) aA4;rw[hn];have hput:dh most (UInt8.ofNat (0,{S with err:=6}).1) (0,{S with err:=6}).2={S with err:=6}:=if_pos (by simp);rw[hput,nP _ _ (by simp)];refine⟨?_,λh=>absurd h (by simp)⟩;rw[if_neg aA4,if_pos aA4]
  ·have hn:=gg (n:=8) he (t:=t) aA4;rw[hn];simp only;rw[hp,qw,aC6];unfold dh;rw[if_neg (by simpa using he)];by_cases hf:most<=S.out.length
   ·simp only[if_pos hf];rw[nP _ _ (by simp)];refine⟨?_,λh=>absurd h (by simp)⟩;rw[if_pos aA4]
   ·simp only[if_neg hf];obtain⟨h1,h2⟩:=Cs t most n {p:=8*q+8,out:=S.out++[t.getD q 0],err:=S.err} (q+1) he (by simp only;omega) aA4 (by simp only[aA8,aBk];omega);refine⟨?_,λh=>?_⟩
    ·rw[h1];simp only[aA8,aBk];rw[show S.out.length+1+min n (t.length-(q+1))=S.out.length+min (n+1) (t.length-q)by omega,show q+1+n=q+(n+1)by omega]
    ·rw[h2 h];have hlt:q<t.length:=aA4;rw[aB0 hlt,aBR,aA5,List.getElem?_eq_getElem hlt,show q+1+n=q+(n+1)by omega];simp
theorem awf (t:Bs) (most:Nat) (S:SS) (he:S.err=0) (hp:S.p<=8*t.length) (ho:S.out.length<=most) (q:Nat) (hq:cH S.p=8*q) :
    if t.length<q+4 then(dY t most S).err=6 else
     if(t.getD q 0).toNat+(t.getD (q+1) 0).toNat*2^8+((t.getD (q+2) 0).toNat+(t.getD (q+3) 0).toNat*2^8)≠65535 then(dY t most S).err=3 else
     (dY t most S).err=(if most<S.out.length+min ((t.getD q 0).toNat+(t.getD (q+1) 0).toNat*2^8) (t.length-(q+4))then 2 else if t.length<q+4+((t.getD q 0).toNat+(t.getD (q+1) 0).toNat*2^8)then 6 else 0) /\
     ((dY t most S).err=0->dY t most S=⟨8*(q+4+((t.getD q 0).toNat+(t.getD (q+1) 0).toNat*2^8)),S.out++(t.drop (q+4)).take ((t.getD q 0).toNat+(t.getD (q+1) 0).toNat*2^8),0⟩):=by
 have hn16:∀i,numAt t (8*i) 16=(t.getD i 0).toNat+(t.getD (i+1) 0).toNat*2^8:=by
  intro i;rw[show(16:Nat)=8+8 from rfl,abB,qw,show 8*i+8=8*(i+1)by omega,qw]
 have hup:hI S={S with p:=8*q}:=by unfold hI;unfold cH at hq;rw[hq]
 have hq2:q<=t.length:=by unfold cH at hq;omega
 unfold dY;simp only;rw[hup];by_cases h4:t.length<q+4
 ·rw[if_pos h4];by_cases h2:t.length<q+2
  ·rw[kp (by exact he) (by simp only;omega)];simp only;rw[ly (by simp)];simp only;rw[if_pos (by decide)];rw[nP _ _ (iP (by decide))];rfl
  ·rw[gg (by exact he) (by simp only;omega)];simp only;rw[kp (by exact he) (by simp only;omega)];simp only;have hfe:b6 3 {p:=8*q+16,out:=S.out,err:=6}=({p:=8*q+16,out:=S.out,err:=6}:SS):=if_neg (by simp);rw[hfe,ite_self,nP _ _ (by simp)]
 ·rw[if_neg h4];rw[gg (by exact he) (by simp only;omega)];simp only;rw[gg (by exact he) (by simp only;omega)];simp only;rw[show 8*q+16=8*(q+2)by omega,hn16,hn16];by_cases hx:(t.getD q 0).toNat+(t.getD (q+1) 0).toNat*2^8+((t.getD (q+2) 0).toNat+(t.getD (q+2+1) 0).toNat*2^8)≠65535
  ·rw[if_pos hx,if_pos hx,nP _ _ (iP (by decide)),eX (by exact he)]
  ·rw[if_neg hx,if_neg hx];exact Cs t most _ _ (q+4) he (by simp only;omega) aA4 ho
theorem ath (s:Bs) (a hv fr p:Nat) (hs:s.length<=1000000000000) (h:bN s a hv p) (hfr:8*fr<=p):Eng.Spec Tryz.prog 216 [] [.az (.agg (aY s a hv fr))] (λh' v ar=>h'=[]/\v=.int .i64 ((p+7)/8-fr:Nat)/\ar=[.az (.agg (aY s a hv fr))]):=by
 refine Cod.atj (λE R hN hR=>?_);obtain⟨h1,h2,h3⟩:=h;have eq:(hv:Int).tdiv 8=((hv/8:Nat):Int):=by rw[kL aA4];omega
 have e2:(a:Int)-((hv/8:Nat):Int)-(fr:Int)=(((p+7)/8-fr:Nat):Int):=aA4;refine vt eq e2 ?_;exact hR.le vV ⟨rfl,rfl,rfl⟩
theorem aqK (s:Bs) (a hv fr p:Nat) (hs:s.length<=1000000000000) (h:bN s a hv p):Eng.Spec Tryz.prog 245 [] [.az (.agg (aY s a hv fr))] (λh' v ar=>h'=[]/\v=.int .i64 (dm s p:Nat)/\ar=[.az (.agg (aY s a hv fr))]):=by
 refine Cod.aqM (λE R hN hR=>?_);obtain⟨h1,h2,h3⟩:=h;have e2:8*((s.length:Int)-(a:Int))+(hv:Int)=((dm s p:Nat):Int):=by unfold dm;omega
 refine ayi e2 ?_;exact hR.le vV ⟨rfl,rfl,rfl⟩
theorem awJ (s:Bs) (q:Nat) (h:q+4<=s.length):(s.drop q).take 4=[s.getD q 0,s.getD (q+1) 0,s.getD (q+2) 0,s.getD (q+3) 0]:=by
 have e:(s.drop q).take 4=(s.drop q).take 2++(s.drop (q+2)).take 2:=by rw[show(4:Nat)=2+2 from rfl,List.take_add,aCn]
 rw[e,xF s q aA4,xF s (q+2) aA4];rfl
theorem azo {n:Nat} (h:n<65536):n ^^^ 65535=65535-n:=by
 have h1:(BitVec.ofNat 16 n ^^^ BitVec.allOnes 16).toNat=(~~~ (BitVec.ofNat 16 n)).toNat:=by rw[BitVec.xor_allOnes]
 rw[BitVec.toNat_xor,BitVec.toNat_not,aBm,BitVec.toNat_allOnes,aBh aA4]at h1;omega
set_option maxHeartbeats 1000000 in
theorem VR (s:Bs) (o most a hv:Nat) (S:SS) (hs:s.length<=1000000000) (ho:o<=s.length) (hm:most<=1000000) (hr:bN s a hv (8*o+S.p)) (hol:S.out.length<=most) (he:S.err=0) :
    Eng.Spec Tryz.prog 231 (aW s o most a hv S.out) [.ab fH 0] (λh' v ar=>PI s o most (dY (s.drop o) most S) h' v/\ar=[.ab fH 0]):=by
 refine Cod.VS (λE R hN hR=>?_);obtain⟨q,hq⟩:∃q,cH S.p=8*q:=⟨(S.p+7)/8,by unfold cH;omega⟩;have hr':=hr;obtain⟨r1,r2,r3⟩:=hr';have hpl:S.p<=8*(s.drop o).length:=by rw[aBb];omega
 have hup:cH (8*o+S.p)=8*(o+q):=by unfold cH at hq |-;omega
 have hud:cH (8*o+S.p)/8=o+q:=aA4;have law:=awf (s.drop o) most S he hpl hol q hq;generalize dY (s.drop o) most S=F at *
 have gd:∀i,(s.drop o).getD i 0=s.getD (o+i) 0:=λi=>by rw[aA5,List.getElem?_drop,<-aA5]
 rw[gd,gd,gd,gd,aBb,aCn]at law;have hb:=ur s a hv o (8*o+S.p) 4 aA4 (by decide) hr;rw[hud]at hb;refine je ?_;refine aR [(RD,.var (aY s a hv o))] hb vV nofun ?_;rintro h' v ar ⟨a1,hv1,hr1,hz1,rfl,rfl,rfl⟩;by_cases h4:s.length<o+q+4
 ·rw[if_neg aA4]at hr1;rw[if_neg aA4,decide_eq_false aA4];rw[if_pos aA4]at law;refine⟨cv,rfl,?_⟩;refine jf ?_;exact hR.le (h':=aW s o most a1 hv1 S.out) bE ⟨js ⟨a1,hv1,{S with p:=8*q,err:=6},rfl,by simp only;rw[show 8*o+8*q=8*(o+q)by omega,<-hup];exact hr1,hol,by rw[law];rfl,λh=>absurd h (by rw[law];decide)⟩,rfl⟩
 ·rw[if_pos aA4]at hr1;rw[if_pos aA4,decide_eq_true aA4,awJ s (o+q) aA4];rw[if_neg aA4]at law;generalize s.getD (o+q) 0=c0 at *
  generalize s.getD (o+(q+1)) 0=c1 at *
  generalize s.getD (o+(q+2)) 0=c2 at *
  generalize s.getD (o+(q+3)) 0=c3 at *
  have hc0:=c0.toNat_lt;have hc1:=c1.toNat_lt;have hc2:=c2.toNat_lt;have hc3:=c3.toNat_lt;have l1:=z8 c0 c1;have l2:=z8 c2 c3;generalize hn:c0.toNat+c1.toNat*2^8=n at *
  generalize hk:c2.toNat+c3.toNat*2^8=k at *
  have hn6:n<65536:=aA4;have hk6:k<65536:=aA4;refine⟨cv,rfl,?_⟩;refine jf ?_;refine aw l1 rfl rfl ?_;refine wW ?_;refine aw l2 rfl rfl ?_
  have ex:bits .xor .i64 (n:Int) 65535=((65535-n:Nat):Int):=by
   show IntKind.i64.wrap ((BitVec.ofInt 64 (n:Int) ^^^ BitVec.ofInt 64 ((65535:Nat):Int)).toNat:Int)=_
   rw[aBl,aBl,BitVec.toNat_xor,aBm,aBm,aBh aA4,aBh (by decide),azo hn6];exact jx aA4
  refine au ex ?_;by_cases hx:n+k≠65535
  ·rw[if_pos hx]at law;have hne:¬((65535-n:Nat):Int)=(k:Int):=aA4;refine au hne ?_;exact hR.le (h':=aW s o most a1 hv1 S.out) bE ⟨js ⟨a1,hv1,{S with p:=8*(q+4),err:=3},rfl,by simp only;rw[hup]at hr1;rw[show 8*o+8*(q+4)=8*(o+q)+8*4 by omega];exact hr1,hol,by rw[law];rfl,λh=>absurd h (by rw[law];decide)⟩,rfl⟩
  ·rw[if_neg hx]at law;have heq:((65535-n:Nat):Int)=(k:Int):=aA4;obtain⟨law1,law2⟩:=law;have hr1':bN s a1 hv1 (8*(o+q+4)):=by rw[hup]at hr1;rw[show 8*(o+q+4)=8*(o+q)+8*4 by omega];exact hr1
   have hup1:cH (8*(o+q+4))=8*(o+q+4):=by unfold cH;omega
   have hb2:=ur s a1 hv1 o (8*(o+q+4)) n aA4 aA4 hr1';rw[hup1,aDt _ (by decide)]at hb2;refine au heq ?_;refine aR [(RD,.var (aY s a1 hv1 o))] hb2 cv nofun ?_;rintro h' v ar ⟨a2,hv2,hr2,hz2,rfl,rfl,rfl⟩
   have key:∀(ok:Bool) (x:Bs),ok=decide (n<=s.length-(o+q+4))->x=(if n<=s.length-(o+q+4)then(s.drop (o+q+4)).take n else[]) ->
    vcW Tryz.prog E Cod.zF (KQ.post [RVar.tmp 2] 1 R) ⟨[(0,.ab 65032 0),(4,.bool ok),(6,.str x),(2000000,.ab 65032 0)],[(40014,.var (aY s a2 hv2 o)),(65032,.var [.ab 40014 0,.sl 60022 0 S.out.length,.int .i64 most]),(60022,.arr 1 (S.out.map ub))]⟩:=by
    intro ok x hok hv4;refine dM hN (λz:Nat×Nat=>⟨[(0,.ab fH 0),(4,.bool ok),(6,.str ((s.drop (o+q+4)).take n)),(2000000,.ab fH 0)],aW s o most z.1 z.2 S.out⟩) (λz=>bN s z.1 z.2 (8*(o+q+4+min n (s.length-(o+q+4))))) (λR2 hR2=>?_) (λz hz=>?_)
    ·clear hR;subst hok;subst hv4;by_cases hfit:n<=s.length-(o+q+4)
     ·rw[if_pos hfit]at hr2;rw[if_pos hfit,decide_eq_true hfit];refine j0 ?_;refine hR2 (a2,hv2) _ (by simp only;rw[aBC hfit,show 8*(o+q+4+n)=8*(o+q+4)+8*n by omega];exact hr2) (.le ?_);exact bE
     ·rw[if_neg hfit]at hr2;rw[if_neg hfit,decide_eq_false hfit];have hlb:=aqK s a2 hv2 o _ aA4 hr2;have el:dm s (8*(o+q+4))/8=s.length-(o+q+4):=by unfold dm;omega
      have hb3:=ur s a2 hv2 o _ (s.length-(o+q+4)) aA4 aA4 hr2;rw[hup1,aDt _ (by decide),if_pos (aA9 _)]at hb3;generalize dm s (8*(o+q+4))=lb at *
      have elb:(lb:Int)/8=((s.length-(o+q+4):Nat):Int):=aA4;simp only[aY]at hlb;refine jf ?_;refine gG ?_;refine nf [] vV hlb trivial (λ_=>rfl) ?_;rintro h' v ar ⟨rfl,rfl,rfl⟩;refine⟨rfl,rfl,?_⟩;refine au elb ?_;refine aR [(RD,.var (aY s a2 hv2 o))] hb3 cv nofun ?_;rintro h' v ar ⟨a3,hv3,hr3,hz3,rfl,rfl,rfl⟩;rw[if_pos (aA9 _),decide_eq_true (aA9 _)]
      have etk:(s.drop (o+q+4)).take (s.length-(o+q+4))=(s.drop (o+q+4)).take n:=by
       rw[aA7 (by rw[aBb];omega),aA7 (by rw[aBb];omega)]
      refine⟨cv,rfl,?_⟩;refine jf ?_;refine hR2 (a3,hv3) _ (by simp only;rw[aDb aA4,show 8*(o+q+4+(s.length-(o+q+4)))=8*(o+q+4)+8*(s.length-(o+q+4))by omega];exact hr3) (.le ?_);exact Ej etk
    ·obtain⟨a3,hv3⟩:=z;simp only at hz |-;have hbl:((s.drop (o+q+4)).take n).length=min n (s.length-(o+q+4)):=by rw[aBa,aBb]
     generalize hbb:(s.drop (o+q+4)).take n=b at *
     by_cases hbig:most-S.out.length<b.length
     ·have hbi:(most:Int)-(S.out.length:Int)<(b.length:Int):=aA4;rw[if_pos aA4]at law1;refine vq hbi ?_;exact hR.le (h':=aW s o most a3 hv3 S.out) bE ⟨js ⟨a3,hv3,{S with p:=8*(q+4+min n (s.length-(o+q+4))),err:=2},rfl,by simp only;rw[show 8*o+8*(q+4+min n (s.length-(o+q+4)))=8*(o+q+4+min n (s.length-(o+q+4)))by omega];exact hz,hol,by rw[law1];rfl,λh=>absurd h (by rw[law1];decide)⟩,rfl⟩
     ·have hbi:¬(most:Int)-(S.out.length:Int)<(b.length:Int):=aA4;rw[if_neg aA4]at law1;by_cases hfit:n<=s.length-(o+q+4)
      ·rw[decide_eq_true hfit]at hok;subst hok;rw[if_neg aA4]at law1;have law2:=law2 law1;refine vq hbi ?_;exact hR.le (h':=aW s o most a3 hv3 (S.out++b)) bE ⟨js ⟨a3,hv3,F,by rw[law2],by rw[law2];simp only;rw[aBC hfit]at hz;rw[show 8*o+8*(q+4+n)=8*(o+q+4+n)by omega];exact hz,by rw[law2];simp only[aA8];omega,by rw[law1];rfl,λ_=>rfl⟩,rfl⟩
      ·rw[decide_eq_false hfit]at hok;subst hok;rw[if_pos aA4]at law1;refine vq hbi ?_;exact hR.le (h':=aW s o most a3 hv3 (S.out++b)) bE ⟨js ⟨a3,hv3,⟨8*(q+4+min n (s.length-(o+q+4))),S.out++b,6⟩,rfl,by simp only;rw[show 8*o+8*(q+4+min n (s.length-(o+q+4)))=8*(o+q+4+min n (s.length-(o+q+4)))by omega];exact hz,by simp only[aA8];omega,by rw[law1];rfl,λh=>absurd h (by rw[law1];decide)⟩,rfl⟩
   by_cases hfit:n<=s.length-(o+q+4)
   ·have key:=key true _ (by rw[decide_eq_true hfit]) rfl;rw[if_pos hfit]at key;rw[if_pos hfit,decide_eq_true hfit];refine⟨cv,rfl,?_⟩;simp only[aY]at key;refine jf ?_;exact key
   ·have key:=key false _ (by rw[decide_eq_false hfit]) rfl;rw[if_neg hfit]at key;rw[if_neg hfit,decide_eq_false hfit];refine⟨cv,rfl,?_⟩;simp only[aY]at key;refine jf ?_;exact key
theorem v8 (most back n:Nat) (S:SS):backS most back (n+1) S=if S.err≠0 then S else backS most back n (dh most (S.out.getD (S.out.length-back) 0) S):=rfl
theorem Hi (most back:Nat) {S:SS} (h:S.err≠0):∀n,backS most back n S=S
 | 0=>rfl
 | n+1=>by rw[v8,if_pos h]
theorem Ze:∀i,i<=28->(bh i).1<=300/\(bh i).2<=8:=by decide +kernel
theorem Lr:∀i,i<=29->(cf i).1<=40000/\(cf i).2<=15/\1<=(cf i).1:=by decide +kernel
set_option maxHeartbeats 2000000 in
theorem UG (s:Bs) (o most a hv:Nat) (S:SS) (d:List Nat) (sy:Nat) (hs:s.length<=1000000000) (ho:o<=s.length) (hm:most<=1000000) (hr:bN s a hv (8*o+S.p)) (hol:S.out.length<=most) (he:S.err=0)
    (hd:∀n∈d,n<=15) (hdl:d.length<=320) (hdc:bz d=true) (hsy:257<=sy) (hsy2:sy<=400) :
    Eng.Spec Tryz.prog 236 (aW s o most a hv S.out) [.ab fH 0,.int .i64 sy,bt d] (λh' v ar=>PI s o most (c7 (s.drop o) most d sy S) h' v/\ar=[.ab fH 0,.int .i64 sy,bt d]):=by
 refine Cod.UH (λE R hN hR=>?_);have htl:(s.drop o).length=s.length-o:=aBb;by_cases h285:285<sy
 ·have hF:c7 (s.drop o) most d sy S={S with err:=3}:=by unfold c7;rw[if_pos h285,eX he]
  rw[hF]at hR;refine j0 ?_;refine gG ?_;exact hR.le (h':=aW s o most a hv S.out) bE ⟨js ⟨a,hv,S,rfl,hr,hol,rfl,λh=>absurd h (by simp)⟩,rfl⟩
 ·have elen:(sy:Int)-257=((sy-257:Nat):Int):=aA4;have hlt:=Ze (sy-257) aA4;have hlenb:=Tj (sy-257) aA4
  have hrep:c7 (s.drop o) most d sy S=(let a:=aH (s.drop o) (bh (sy-257)).2 S
   let k:=aQ (s.drop o) d a.2
   if k.2.err≠0 then k.2 else if 29<k.1 then b6 3 k.2 else
   let b:=aH (s.drop o) (cf k.1).2 k.2
   let back:=(cf k.1).1+b.1
   if b.2.err≠0 then b.2 else if b.2.out.length<back then b6 3 b.2 else backS most back ((bh (sy-257)).1+a.1) b.2):=by unfold c7;rw[if_neg h285]
  rw[hrep]at hR;clear hrep;simp only at hR;generalize bh (sy-257)=lb at *
  simp(disch:=omega)only[go_sem,simprocAttr,aW,bt,elen];refine bq elen ?_;refine aw hlenb rfl rfl ?_;refine wW ?_;have hbits:=qJ s a hv o (8*o+S.p) lb.2 aA4 hr aA4;rw[tF,<-qx]at hbits;refine aR [(RD,.var (aY s a hv o))] hbits vV nofun ?_;rintro h' v ar ⟨a1,hv1,hr1,rfl,rfl,rfl⟩;by_cases hf1:lb.2<=8*(s.drop o).length-S.p
  ·rw[if_pos hf1]at hr1;rw[if_pos hf1,decide_eq_true hf1];have hpl:S.p+lb.2<=8*(s.drop o).length:=by have:=hr.h2;have:=hr.h3;omega
   rw[gg he hpl]at hR;simp only at hR;have hnl:=gb (s.drop o) S.p lb.2;have hn256:2^lb.2<=2^8:=aBg (by decide) hlt.2;generalize numAt (s.drop o) S.p lb.2=x1 at *
   refine⟨cv,rfl,?_⟩;have dy:=s9 d hd hdl hdc s a1 hv1 o (8*o+S.p+lb.2) aA4 hr1;rw[aCa,<-ux]at dy;simp only[bt]at dy;generalize hre:readL (aP d) (bw (s.drop o) (S.p+lb.2))=re at *
   refine wW ?_;refine aR [(RD,.var (aY s a1 hv1 o))] dy vV nofun ?_;rintro h' v ar ⟨a2,hv2,p2,k,hr2,rfl,rfl,hk,rfl⟩;refine⟨cv,rfl,?_⟩;by_cases hre2:re.2.2=0
   ·obtain⟨rfl,rfl⟩:=hk hre2;have hsym:aQ (s.drop o) d {S with p:=S.p+lb.2}=(re.1,{S with p:=S.p+lb.2+re.2.1}):=by rw[<-hre];exact oh he (by rw[hre];exact hre2)
    rw[hsym]at hR;simp only at hR;rw[if_neg (by simpa using he)]at hR;have hr2':bN s a2 hv2 (8*o+(S.p+lb.2+re.2.1)):=by rw[show 8*o+(S.p+lb.2+re.2.1)=8*o+(S.p+lb.2)+re.2.1 by omega];exact hr2
    generalize hp2:S.p+lb.2+re.2.1=p2 at *
    have hklt:re.1<=400:=by
     have:=mL (aP d) (bw (s.drop o) (S.p+lb.2)) (by rw[hre];exact hre2);rw[hre]at this;have hcl:(aP d).length=d.length:=by simp[aP]
     omega
    generalize re.1=k at *
    by_cases h29:29<k
    ·rw[if_pos h29,eX (by exact he)]at hR;refine au hre2 ?_;exact hR.le (h':=aW s o most a2 hv2 S.out) bE ⟨js ⟨a2,hv2,{S with p:=p2},rfl,hr2',hol,rfl,λh=>absurd h (by simp)⟩,rfl⟩
    ·rw[if_neg h29]at hR;have hdt:=Lr k aA4;have hdb:=Se k aA4;generalize cf k=db at *
     have hbits2:=qJ s a2 hv2 o (8*o+p2) db.2 aA4 hr2' aA4;rw[tF,<-qx]at hbits2;refine au hre2 ?_;refine aw hdb rfl rfl ?_;refine wW ?_;refine aR [(RD,.var (aY s a2 hv2 o))] hbits2 vV nofun ?_;rintro h' v ar ⟨a3,hv3,hr3,rfl,rfl,rfl⟩;by_cases hf2:db.2<=8*(s.drop o).length-p2
     ·rw[if_pos hf2]at hr3;rw[if_pos hf2,decide_eq_true hf2];have hpl2:p2+db.2<=8*(s.drop o).length:=by have:=hr2'.h2;have:=hr2'.h3;omega
      rw[gg (by exact he) hpl2]at hR;simp only at hR;rw[if_neg (by simpa using he)]at hR;have hn2:=gb (s.drop o) p2 db.2;have hn15:2^db.2<=2^15:=aBg (by decide) hdt.2.1;generalize numAt (s.drop o) p2 db.2=x2 at *
      refine⟨cv,rfl,?_⟩;refine wW ?_;by_cases hbk:S.out.length<db.1+x2
      ·have hbi:(S.out.length:Int)<(db.1:Int)+(x2:Int):=aA4;rw[if_pos (by exact hbk),eX (by exact he)]at hR;refine au hbi ?_;exact hR.le (h':=aW s o most a3 hv3 S.out) bE ⟨js ⟨a3,hv3,{S with p:=p2+db.2},rfl,by show bN s a3 hv3 (8*o+(p2+db.2));rw[<-aCa];exact hr3,hol,rfl,λh=>absurd h (by simp)⟩,rfl⟩
      ·have hbi:¬(S.out.length:Int)<(db.1:Int)+(x2:Int):=aA4;rw[if_neg (by exact hbk)]at hR;generalize hbb:db.1+x2=back at *
       have hb1:1<=back:=aA4;have ebk:(db.1:Int)+(x2:Int)=(back:Int):=aA4;have eln:(lb.1:Int)+(x1:Int)=((lb.1+x1:Nat):Int):=aA4;have hln:lb.1+x1<=1000:=aA4;rw[ebk,eln];generalize lb.1+x1=n at *
       rw[ebk]at hbi;refine au hbi ?_
       refine aZ hN (λz:Nat×Bs=>⟨[(0,.ab 65032 0),(13,.int .i64 back),(79,.int .i64 n),(80,.int .i64 z.1),(2000000,.ab 65032 0),(2000001,.int .i64 sy),(2000002,.az (.agg (gZ d)))],aW s o most a3 hv3 z.2⟩)
        (λz=>z.1<=n/\z.2.length<=most/\back<=z.2.length/\backS most back (n-z.1) ⟨p2+db.2,z.2,S.err⟩=backS most back n ⟨p2+db.2,S.out,S.err⟩) (λz=>n-z.1) (0,S.out) (.le bE) ⟨by simp,hol,by simp only;omega,rfl⟩ ?_
       rintro⟨j,out⟩ R1 ⟨hj,hjo,hjb,hjF⟩ hR1;simp only at hj hjo hjb hjF;by_cases hjn:j<n
       ·have ej:n-j=(n-j-1)+1:=aA4;rw[ej,v8,if_neg (by simpa using he)]at hjF;unfold dh at hjF;rw[if_neg (by simpa using he)]at hjF;simp only at hjF;have eidx:(out.length:Int)-(back:Int)=((out.length-back:Nat):Int):=aA4;generalize hcc:out.getD (out.length-back) 0=c at *
        have hput:=zr s o most a3 hv3 out hm hjo c;refine j0 ?_;rw[hcc];refine aR (aW s o most a3 hv3 out) hput bE nofun ?_;rintro h' v ar ⟨rfl,rfl,rfl⟩;refine⟨bE,rfl,?_⟩;by_cases hfull:out.length=most
        ·rw[if_pos hfull,if_pos hfull];rw[if_pos aA4,Hi _ _ (by simp)]at hjF;rw[<-hjF]at hR;refine j0 ?_;exact hR.le (h':=aW s o most a3 hv3 out) bE ⟨⟨a3,hv3,out,rfl,rfl,λh=>absurd h (by simp)⟩,rfl⟩
        ·rw[if_neg hfull,if_neg hfull];rw[if_neg aA4]at hjF;refine j0 ?_;exact hR1 (j+1,out++[c]) _ (by simp only;omega) ⟨by simp only;omega,by simp only[aA8,aBk];omega,by simp only[aA8,aBk];omega,by simp only;rw[show n-(j+1)=n-j-1 by omega];exact hjF⟩ (.le bE)
       ·obtain rfl:j=n:=aA4;rw[aC9]at hjF;rw[<-hjF]at hR;refine j0 ?_;exact hR.le (h':=aW s o most a3 hv3 out) bE ⟨⟨a3,hv3,out,rfl,by show _=AV.int .i64 ((S.err:Nat):Int);rw[he];rfl,λ_=>⟨rfl,by show bN s a3 hv3 (8*o+(p2+db.2));rw[<-aCa];exact hr3⟩⟩,rfl⟩
     ·rw[if_neg hf2]at hr3;rw[if_neg hf2,decide_eq_false hf2];rw[kp (by exact he) (by simp only;omega)]at hR;simp only at hR;rw[if_pos (by decide)]at hR;refine⟨cv,rfl,?_⟩;refine wW ?_;exact hR.le (h':=aW s o most a3 hv3 S.out) bE ⟨js ⟨a3,hv3,{S with p:=p2},rfl,hr3,hol,rfl,λh=>absurd h (by simp)⟩,rfl⟩
   ·have hsym:aQ (s.drop o) d {S with p:=S.p+lb.2}=(0,{S with p:=S.p+lb.2,err:=re.2.2}):=by rw[<-hre];exact og he (by rw[hre];exact hre2)
    rw[hsym]at hR;simp only at hR;rw[if_pos hre2]at hR;have hi:¬((re.2.2:Nat):Int)=0:=aA4;refine au hi ?_;exact hR.le (h':=aW s o most a2 hv2 S.out) bE ⟨⟨a2,hv2,S.out,rfl,rfl,λh=>absurd h hre2⟩,rfl⟩
  ·rw[if_neg hf1]at hr1;rw[if_neg hf1,decide_eq_false hf1];rw[kp he aA4]at hR;simp only at hR;rw[DP (by simp)]at hR;simp only at hR;rw[if_pos (by decide)]at hR;refine⟨cv,rfl,?_⟩;refine wW ?_;exact hR.le (h':=aW s o most a1 hv1 S.out) bE ⟨js ⟨a1,hv1,S,rfl,hr1,hol,rfl,λh=>absurd h (by simp)⟩,rfl⟩
set_option maxHeartbeats 2000000 in
theorem S5:aJ Tryz.prog 232 [] (.ai [bt ee,bt ed]):=by
 refine Cod.S6 (λE R hN hR=>?_);refine wW ?_;refine aZ hN (λi:Nat=>⟨[(2,.sl 66022 0 i),(3,.al),(9,.int .i64 i)],[(66022,.arr 1 (an (bI fixF i)))]⟩) (λi=>i<=288) (λi=>288-i) 0 (.nil 2 66022 1 rfl (.le (jZ @mO @iY))) aA4 ?_;rintro i R1 hi hR1;have hul:=gO fixF i;have hnl:=bX (bI fixF i);by_cases hlt:i<288
 ·have hus:=kM fixF i
  have hsb:aI (an (bI fixF i)) 0 i=an (bI fixF i):=by
   have:=fR (xs:=bI fixF i);rw[hul]at this;exact this
  refine wW ?_;refine dM hN (λ_:Unit=>⟨[(2,.sl 66022 0 i),(3,.al),(4,.int .i64 i),(9,.int .i64 i),(15,.bool (decide (i<144\/280<=i)))],[(66022,.arr 1 (an (bI fixF i)))]⟩) (λ_=>True) (λR2 hR2=>?_) (λ_ _=>?_)
  ·by_cases h1:i<144
   ·rw[decide_eq_true (.inl h1)]at hR2;refine wW ?_;refine gG ?_;exact hR2 () _ trivial (.le vV)
   ·by_cases h2:280<=i
    ·rw[decide_eq_true (.inr h2)]at hR2;refine wW ?_;refine gG ?_;exact hR2 () _ trivial (.le vV)
    ·rw[decide_eq_false aA4]at hR2;refine wW ?_;refine gG ?_;exact hR2 () _ trivial (.le vV)
  ·by_cases h8:i<144\/280<=i
   ·have hf:fixF i=8:=by unfold fixF;rw[if_neg aA4,if_neg aA4]
    rw[hf]at hus;rw[decide_eq_true h8];refine bl @fC hsb ?_;exact hR1 (i+1) _ aA4 aA4 (.le (by rw[hus,<-fB];exact vV))
   ·rw[decide_eq_false h8];by_cases h9:i<256
    ·have hf:fixF i=9:=by unfold fixF;rw[if_neg aA4,if_pos aA4]
     rw[hf]at hus;refine bl @fC hsb ?_;exact hR1 (i+1) _ aA4 aA4 (.le (by rw[hus,<-fB];exact vV))
    ·have hf:fixF i=7:=by unfold fixF;rw[if_pos aA4]
     rw[hf]at hus;refine bl @fC hsb ?_;exact hR1 (i+1) _ aA4 aA4 (.le (by rw[hus,<-fB];exact vV))
 ·obtain rfl:i=288:=aA4;refine wW ?_;refine aZ hN (λi:Nat=>⟨[(2,.sl 66022 0 288),(3,.sl 66034 0 i),(30,.int .i64 i)],[(66022,.arr 1 (an (bI fixF 288))),(66034,.arr 1 (an (bI (λ_=>5) i)))]⟩) (λi=>i<=32) (λi=>32-i) 0 (.nil 3 66034 1 rfl (.le (jZ @mO @iY))) aA4 ?_;rintro i R2 hi hR2;have hul2:=gO (λ_=>5) i;have hnl2:=bX (bI (λ_=>5) i);by_cases hlt:i<32
  ·have hus:=kM (λ_=>5) i
   have hsb:aI (an (bI (λ_=>5) i)) 0 i=an (bI (λ_=>5) i):=by
    have:=fR (xs:=bI (λ_=>5) i);rw[hul2]at this;exact this
   refine bl @fC hsb ?_;exact hR2 (i+1) _ aA4 aA4 (.le (by rw[hus,<-fB];exact vV))
  ·obtain rfl:i=32:=aA4;rw[yl]at *
   rw[yj]at *
   have e1:aI (an ee) 0 288=an ee:=by rw[<-jl.2.1];exact fR
   have e2:aI (an ed) 0 32=an ed:=by rw[<-jk.2.1];exact fR
   have n1:=p8 ee jl.1 (by rw[jl.2.1];decide);have n2:=p8 ed jk.1 (by rw[jk.2.1];decide);rw[if_pos jl.2.2]at n1;rw[if_pos jk.2.2]at n2;generalize ee=l at *
   generalize ed=d at *
   refine wW ?_;refine j7 ⟨[(37,.ro 1 (an l)),(3,.ro 1 (an d))],[]⟩ (.bu 66022 (.bu 66034 (.le (jZ e1 e2)))) rfl ?_;refine wW ?_;refine ic n1 rfl ?_;rintro h' v as' ⟨rfl,rfl⟩;refine⟨rfl,rfl,?_⟩;simp(disch:=omega)only[go_sem,simprocAttr,bt];refine ic n2 rfl ?_;rintro h' v as' ⟨rfl,rfl⟩;refine⟨rfl,rfl,?_⟩;simp(disch:=omega)only[go_sem,simprocAttr,bt];exact hR.le vV ⟨rfl,rfl⟩
def A6:AV:=.agg (an eJ)
theorem TU:aJ Tryz.prog 247 [] A6:=by
 refine Cod.TV (λE R hN hR=>?_);refine wW ?_;exact hR.le vV ⟨rfl,rfl⟩
end Go.Proofs.YtoalcafkffmiiaaGreatDoor.Pk
namespace Go.Proofs.YtoalcafkffmiiaaGreatDoor.Pk
section
variable {t:Bs} {S:SS}
theorem A7 {e:Nat}:(b6 e S).out=S.out:=by unfold b6;split<;>rfl
theorem qD {n:Nat}:(aH t n S).2.out=S.out:=by
 unfold aH;split
 ·rfl
 ·split<;>rfl
theorem A9 {l:List Nat}:(aQ t l S).2.out=S.out:=by
 unfold aQ;split
 ·rfl
 ·split<;>rfl
theorem Bc {l:List Nat} {s:Nat}:(bM t l s S).2.2.out=S.out:=by
 unfold bM;split
 ·split
  ·exact A7
  ·exact qD
 ·split
  ·exact qD
  ·split
   ·exact qD
   ·rfl
theorem A8 {N:Nat} {l:List Nat} {b:Nat×Nat×SS}:(cc N l b).out=b.2.2.out:=by
 unfold cc;split
 ·exact A7
 ·rfl
end
theorem mJ {t:Bs} {nc:Nat}:∀(k:Nat) (l:List Nat) (S:SS),(firstS t nc k l S).2.out=S.out
 | 0,_,_=>rfl
 | k+1,l,S=>by
  rw[nr];split
  ·rfl
  ·rw[mJ k,qD]
theorem qC {t:Bs} {fl:List Nat} {N:Nat}:∀(k:Nat) (l:List Nat) (S:SS),(cO t fl N k l S).2.out=S.out
 | 0,_,_=>rfl
 | k+1,l,S=>by
  rw[mz];split
  ·rfl
  ·split
   ·simp only;rw[A8,Bc,A9]
   ·rw[qC k,A8,Bc,A9]
theorem LQ (t:Bs) (S:SS):(b9 t S).2.out=S.out:=by
 rw[pD];split
 ·rfl
 ·split
  ·rfl
  ·unfold cE;split
   ·simp only;rw[mJ]
   ·split
    ·simp only;rw[mJ]
    ·unfold lu;split
     ·simp only;rw[qC,mJ]
     ·split
      ·simp only;rw[qC,mJ]
      ·simp only;rw[qC,mJ]
open Eng
set_option maxRecDepth 10000
def u3:AV:=.lit (.pointer none)
def PT (s:Bs) (o most:Nat) (out:Bs) (D:(List Nat×List Nat)×SS) (h':HP) (v:AV):Prop:=
 ∃a' hv',h'=aW s o most a' hv' out/\(D.2.err≠0->v=.ai [u3,u3,.int .i64 (D.2.err:Nat)]) /\
  (D.2.err=0->v=.ai [bt D.1.1,bt D.1.2,.int .i64 (0:Nat)]/\bN s a' hv' (8*o+D.2.p)/\bz D.1.1=true/\bz D.1.2=true/\(∀n∈D.1.1,n<=15)/\(∀n∈D.1.2,n<=15)/\D.1.1.length<=286/\D.1.2.length<=320)
abbrev QT (R:HP->AV->List AV->Prop):KQ:=KQ.post [.tmp 2,.tmp 3,.tmp 4] 1 R
abbrev EC (R1 RX:KS) (R:HP->AV->List AV->Prop):KQ:=KQ.cN 3 (KQ.fk R1 (KQ.cN 2 (KQ.fk RX (QT R))))
abbrev mS (s:Bs) (o most:Nat) (out:Bs) (D:(List Nat×List Nat)×SS):HP->AV->List AV->Prop:=λh' v ar=>PT s o most out D h' v/\ar=[.ab fH 0]
theorem jS {s:Bs} {o most:Nat} {out:Bs} {D:(List Nat×List Nat)×SS} {R:HP->AV->List AV->Prop} (hR:cR (mS s o most out D) R) (e:Nat) (he:D.2.err=e) (hne:e≠0) (a' hv':Nat) {h:HP} (hh:fe h (aW s o most a' hv' out)) :
    R h (.ai [.lit (.pointer none),.lit (.pointer none),.int .i64 (e:Nat)]) [.ab 65032 0]:=
 hR.le (h':=aW s o most a' hv' out) hh ⟨⟨a',hv',rfl,λ_=>by rw[he];rfl,λh=>absurd h (by rw[he];exact hne)⟩,rfl⟩
theorem qI (s:Bs) (o p a hv n:Nat) (hs:s.length<=1000000000) (h:bN s a hv (8*o+p)) (hn:n<=32):Eng.Spec Tryz.prog 230 [(RD,.var (aY s a hv o))] [.ab RD 0,.int .i64 n]
    (λh' v ar=>∃a' hv',bN s a' hv' (8*o+(if n<=8*(s.drop o).length-p then p+n else p))/\h'=[(RD,.var (aY s a' hv' o))]/\v=.ai [.int .u32 (if n<=8*(s.drop o).length-p then numAt (s.drop o) p n else 0:Nat),.bool (decide (n<=8*(s.drop o).length-p))]/\ar=[.ab RD 0,.int .i64 n]):=by
 have hb:=qJ s a hv o (8*o+p) n aA4 h hn;rw[tF,<-qx]at hb;rw[show 8*o+(if n<=8*(s.drop o).length-p then p+n else p)=(if n<=8*(s.drop o).length-p then 8*o+p+n else 8*o+p)by split<;>omega]
 exact hb
theorem yZ (l:List Nat) (hl:∀n∈l,n<=15) (hn:l.length<=320):∃(x:AV) (e:Nat),Eng.Spec Tryz.prog 246 [] [.ro 1 (an l)] (λh r _=>h=[]/\r=.ai [x,.int .i64 (e:Nat)])/\((bz l=true/\x=bt l/\e=0)\/(bz l=false/\x=.lit (.pointer none)/\e=4)):=by
 have n1:=p8 l hl hn;by_cases hc:bz l=true
 ·rw[if_pos hc]at n1;exact⟨_,0,n1,.inl ⟨hc,rfl,rfl⟩⟩
 ·rw[if_neg hc]at n1;exact⟨_,4,n1,.inr ⟨by simpa using hc,rfl,rfl⟩⟩
set_option maxHeartbeats 2000000 in
theorem VV (s:Bs) (o most a hv:Nat) (out:Bs) (l:List Nat) (nl p:Nat) (D:(List Nat×List Nat)×SS) {E:Env} {R:HP->AV->List AV->Prop} (hN:E.N<=1000000) (hR:cR (mS s o most out D) R) (hl:∀n∈l,n<=15) (h1:257<=nl) (h2:nl<=286) (h3:l.length<=320) (h4:nl<=l.length)
    (hr:bN s a hv (8*o+p))
    (hD:D=if l.getD 256 0=0\/bz (l.take nl)=false\/bz (l.drop nl)=false then(([],[]),⟨p,out,3⟩)else((l.take nl,l.drop nl),⟨p,out,0⟩)) :
    vcW Tryz.prog E Cod.tk (QT R) ⟨[(0,.ab 65032 0),(7,.int .i64 nl),(16,.ro 1 (an l)),(2000000,.ab 65032 0)],aW s o most a hv out⟩:=by
 have hnl:=bX l;have ht1:(l.take nl).length=nl:=by rw[aBa];omega
 have hd1:(l.drop nl).length=l.length-nl:=aBb;obtain⟨x1,e1,n1,c1⟩:=yZ (l.take nl) (rj hl nl) aA4;obtain⟨x2,e2,n2,c2⟩:=yZ (l.drop nl) (pA hl nl) aA4;have hx:nth (an l) 256=.int .i64 (l.getD 256 0:Nat):=dV aA4;have etd:(l.drop nl).take (l.length-nl)=l.drop nl:=aA7 aA4;generalize hy:l.getD 256 0=y at *
 have bad:D=(([],[]),⟨p,out,3⟩)->∀h,fe h (aW s o most a hv out)->R h (.ai [.lit (.pointer none),.lit (.pointer none),.int .i64 3]) [.ab 65032 0]:=λhd h hh=>jS hR 3 (by rw[hd]) (by decide) a hv hh;refine vr hnl @fh ?_;rcases c1 with⟨hc1,rfl,rfl⟩ | ⟨hc1,rfl,rfl⟩<;>rcases c2 with⟨hc2,rfl,rfl⟩ | ⟨hc2,rfl,rfl⟩<;>by_cases h0:y=0
 all_goals
  refine ic n1 rfl ?_;rintro h' v as' ⟨rfl,rfl⟩;refine⟨rfl,rfl,?_⟩;simp(disch:=omega)only[go_sem,simprocAttr,hnl,fh,etd,bt];refine ic n2 rfl ?_;rintro h' v as' ⟨rfl,rfl⟩;refine⟨rfl,rfl,?_⟩
 rotate_left
 ·rw[if_neg (by rw[hc1,hc2];simp[h0])]at hD;subst hD;have hi:¬((y:Nat):Int)=0:=aA4;simp(disch:=omega)only[go_sem,simprocAttr,hnl,hx,hi,bt];refine fx hnl hx hi ?_;exact hR.le (h':=aW s o most a hv out) bE ⟨⟨a,hv,rfl,λh=>absurd rfl h,λ_=>⟨rfl,hr,hc1,hc2,rj hl nl,pA hl nl,by rw[ht1];exact h2,by rw[hd1];omega⟩⟩,rfl⟩
 all_goals
  rw[if_pos (by first | exact .inl h0 | exact .inr (.inl hc1) | exact .inr (.inr hc2))]at hD
  have bad:=bad hD
 all_goals first
  |have hi:((y:Nat):Int)=0:=aA4
   simp(disch:=omega)only[go_sem,simprocAttr,hnl,hx,hi,bt]
   (try(repeat(first | refine fb ?_ | refine eZ ?_ | refine fa ?_)<;>simp(disch:=omega)only[go_sem,simprocAttr,hnl,hx,hi]))
   exact bad _ bE
  |have hi:¬((y:Nat):Int)=0:=aA4
   simp(disch:=omega)only[go_sem,simprocAttr,hnl,hx,hi,bt]
   (try(repeat(first | refine fb ?_ | refine eZ ?_ | refine fa ?_)<;>simp(disch:=omega)only[go_sem,simprocAttr,hnl,hx,hi]))
   exact bad _ bE
end Go.Proofs.YtoalcafkffmiiaaGreatDoor.Pk
