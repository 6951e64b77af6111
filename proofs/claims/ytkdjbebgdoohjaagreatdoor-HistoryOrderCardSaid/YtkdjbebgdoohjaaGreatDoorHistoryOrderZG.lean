/- The proof, part 33 of 50. -/

set_option linter.all false
namespace Go.Proofs.YtkdjbebgdoohjaaGreatDoor.Pk
abbrev Bs:=List UInt8
def msb (b:List Bool):Nat:=b.foldl (λa c=>2*a+c.toNat) 0
def bitsM:Nat->Nat->List Bool
 | _,0=>[]
 | x,n+1=>bitsM (x/2) n++[x%2==1]
theorem sk (a:List Bool) (c:Bool):msb (a++[c])=2*msb a+c.toNat:=by simp[msb]
theorem za:∀(n x:Nat),(bitsM x n).length=n
 | 0,_=>rfl
 | n+1,x=>by simp[bitsM,za n]
theorem D8 {α:Type} {p:List α->Prop} (h0:p []) (h1:∀l x,p l->p (l++[x])) (l:List α):p l:=by
 have:∀n (l:List α),l.length=n->p l:=by
  intro n
  induction n with
  | zero=>intro l h;rw[List.length_eq_zero_iff.1 h];exact h0
  | succ n ih=>
   intro l h;have hne:l≠[]:=by intro e;rw[e]at h;cases h
   rw[<-List.dropLast_concat_getLast hne];exact h1 _ _ (ih _ (by simp[h]))
 exact this _ l rfl
theorem Cp (b:List Bool):msb b<2^b.length:=by
 refine D8 (p:=λb=>msb b<2^b.length) (by simp[msb]) (λl c h=>?_) b;rw[sk,List.length_append,List.length_singleton,Nat.pow_succ];have:c.toNat<=1:=by cases c<;>decide
 omega
theorem zb (b:List Bool):bitsM (msb b) b.length=b:=by
 refine D8 (p:=λb=>bitsM (msb b) b.length=b) rfl (λl c h=>?_) b;rw[sk,List.length_append]
 show bitsM _ (l.length+1)=_
 unfold bitsM;have h2:(2*msb l+c.toNat)/2=msb l:=by cases c<;>simp<;>omega
 have h3:((2*msb l+c.toNat)%2==1)=c:=by cases c<;>simp<;>omega
 rw[h2,h3,h]
theorem Co:∀(n x:Nat),x<2^n->msb (bitsM x n)=x
 | 0,x,h=>by simp at h;subst h;rfl
 | n+1,x,h=>by
  unfold bitsM;rw[sk,Co n (x/2) (by rw[Nat.pow_succ]at h;omega)];rcases Nat.mod_two_eq_zero_or_one x with h1 | h1<;>simp[h1]<;>omega
theorem wI (b:List Bool) (n:Nat) (h:n<b.length):msb (b.take (n+1))=2*msb (b.take n)+(b.getD n false).toNat:=by
 rw[List.take_add_one,List.getElem?_eq_getElem h];simp only[Option.toList_some];rw[sk,List.getD_eq_getElem?_getD,List.getElem?_eq_getElem h];rfl
theorem Cq (b:List Bool):∀(n k:Nat),n+k<=b.length->msb (b.take n)*2^k<=msb (b.take (n+k))/\msb (b.take (n+k))<(msb (b.take n)+1)*2^k
 | n,0,_=>by simp
 | n,k+1,h=>by
  obtain⟨h1,h2⟩:=Cq b n k (by omega);rw[<-Nat.add_assoc,wI b (n+k) (by omega),Nat.pow_succ];have:(b.getD (n+k) false).toNat<=1:=by cases b.getD (n+k) false<;>decide
  constructor
  ·rw[<-Nat.mul_assoc];omega
  ·rw[<-Nat.mul_assoc];omega
def bC (l:List Nat) (n:Nat):Nat:=l.countP (·==n)
def fstL (l:List Nat):Nat->Nat
 | 0=>0
 | 1=>0
 | n+2=>2*(fstL l (n+1)+bC l (n+1))
def lx (l:List Nat) (s:Nat):Nat:=bC (l.take s) (l.getD s 0)
def gz (l:List Nat) (s:Nat):Nat:=fstL l (l.getD s 0)+lx l s
def cN (l:List Nat) (s:Nat):List Bool:=if l.getD s 0=0 then[]else bitsM (gz l s) (l.getD s 0)
def bB (l:List Nat):List (List Bool):=(List.range l.length).map (cN l)
def eu (l:List Nat):Nat:=fstL l 15+bC l 15
def dL (l:List Nat):Nat:=l.countP (λn=>decide (0<n))
def bF (l:List Nat):Bool:=decide (eu l<=32768)&&(decide (eu l=32768)||decide (dL l=0)||(decide (dL l=1)&&decide (bC l 1=1)))
def bA (l:List Nat):Nat->Nat
 | 0=>0
 | 1=>0
 | n+2=>bA l (n+1)+bC l (n+1)
def tH (l:List Nat) (n:Nat):List Nat:=(List.range l.length).filter λs=>l.getD s 0==n
def sortL (l:List Nat):Nat->List Nat
 | 0=>[]
 | n+1=>sortL l n++tH l (n+1)
theorem qX (l:List Nat) (x n:Nat):bC (l++[x]) n=bC l n+if x=n then 1 else 0:=by
 simp only[bC,List.countP_append,List.countP_singleton,beq_iff_eq]
theorem vH (l:List Nat) (n:Nat):∀k,1<=n->(fstL l n+bC l n)*2^k<=fstL l (n+k)+(if k=0 then bC l n else 0)
 | 0,h=>by simp
 | k+1,h=>by
  have ih:=vH l n k h;rw[if_neg (by omega)];obtain⟨m,hm⟩:∃m,n+k=m+1:=⟨n+k-1,by omega⟩;rw[show n+(k+1)=m+2 by omega];simp only[fstL];rw[hm]at ih;rw[Nat.pow_succ,<-Nat.mul_assoc];split at ih
  ·rename_i hk;subst hk;have:n=m+1:=by omega
   subst this;simp at ih |-;omega
  omega
theorem XO (l:List Nat) {n:Nat} (h1:1<=n) (h2:n<=15):(fstL l n+bC l n)*2^(15-n)<=eu l:=by
 have:=vH l n (15-n) h1;rw[show n+(15-n)=15 by omega]at this;unfold eu;split at this
 ·have:n=15:=by omega
  subst this;omega
 omega
theorem wm {l:List Nat} (h:eu l<=32768) {n:Nat} (h1:1<=n) (h2:n<=15):fstL l n+bC l n<=2^n:=by
 have h3:=XO l h1 h2;have h4:(2:Nat)^n*2^(15-n)=32768:=by rw[<-Nat.pow_add,show n+(15-n)=15 by omega]
 refine Nat.le_of_mul_le_mul_right (c:=2^(15-n)) ?_ (Nat.pow_pos (by decide));omega
theorem fb {α:Type} (l:List α) {k:Nat} (d:α) (h:k<l.length):l.take (k+1)=l.take k++[l.getD k d]:=by
 rw[List.take_add_one,List.getD_eq_getElem?_getD,List.getElem?_eq_getElem h];rfl
theorem Jb (l:List Nat) (k n:Nat):bC (l.take k) n<=bC l n:=by
 unfold bC;exact List.Sublist.countP_le (List.take_sublist k l)
theorem xA (l:List Nat) {s:Nat} (h:s<l.length):lx l s<bC l (l.getD s 0):=by
 have h1:=fb l 0 h;have h2:=Jb l (s+1) (l.getD s 0);rw[h1,qX,if_pos rfl]at h2;unfold lx;omega
theorem JC {l:List Nat} (hc:eu l<=32768) {s:Nat} (h:s<l.length) (h1:1<=l.getD s 0) (h2:l.getD s 0<=15):gz l s<2^l.getD s 0:=by
 have:=wm hc h1 h2;have:=xA l h;unfold gz;omega
theorem AM (p:Nat->Bool):∀(N k:Nat),k<((List.range N).filter p).length->∃s,((List.range N).filter p).getD k 0=s/\s<N/\p s=true/\((List.range s).filter p).length=k
 | 0,k,h=>by simp at h
 | N+1,k,h=>by
  rw[List.range_succ,List.filter_append]at h |-;by_cases hk:k<((List.range N).filter p).length
  ·obtain⟨s,h1,h2,h3,h4⟩:=AM p N k hk;refine⟨s,?_,by omega,h3,h4⟩;rw[<-h1,List.getD_eq_getElem?_getD,List.getD_eq_getElem?_getD,List.getElem?_append_left hk]
  ·cases hp:p N with
   | false=>simp[hp]at h;omega
   | true=>
    simp[hp]at h;have:k=((List.range N).filter p).length:=by omega
    refine⟨N,?_,by omega,hp,this.symm⟩;rw[List.getD_eq_getElem?_getD,List.getElem?_append_right (by omega),this];simp[hp]
theorem oQ (l:List Nat) (n:Nat):∀k,k<=l.length->bC (l.take k) n=((List.range k).filter λs=>l.getD s 0==n).length
 | 0,_=>by simp[bC]
 | k+1,h=>by
  rw[fb l 0 h,qX,oQ l n k (by omega),List.range_succ,List.filter_append,List.length_append];by_cases h1:l.getD k 0=n
  ·rw[if_pos h1];simp[-List.getD_eq_getElem?_getD,h1]
  ·rw[if_neg h1];simp[-List.getD_eq_getElem?_getD,h1]
theorem Em (l:List Nat) (n:Nat):(tH l n).length=bC l n:=by
 have:=oQ l n l.length (Nat.le_refl _);rw[List.take_length]at this;rw[this];rfl
theorem XC (l:List Nat) (n k:Nat) (h:k<bC l n):∃s,(tH l n).getD k 0=s/\s<l.length/\l.getD s 0=n/\lx l s=k:=by
 rw[<-Em]at h;obtain⟨s,h1,h2,h3,h4⟩:=AM (λs=>l.getD s 0==n) l.length k h;have h3':l.getD s 0=n:=by simpa[-List.getD_eq_getElem?_getD]using h3
 refine⟨s,h1,h2,h3',?_⟩;unfold lx;rw[h3',oQ l n s (by omega),h4]
theorem mu (l:List Nat):∀n,(sortL l n).length=bA l (n+1)
 | 0=>rfl
 | n+1=>by
  simp only[sortL,List.length_append,mu l n,Em,bA]
theorem Ea (l:List Nat) (n:Nat):∀m (k:Nat),k<(sortL l n).length->(sortL l (n+m)).getD k 0=(sortL l n).getD k 0
 | 0,k,h=>rfl
 | m+1,k,h=>by
  have ih:=Ea l n m k h
  have hl:(sortL l n).length<=(sortL l (n+m)).length:=by
   clear ih h
   induction m with
   | zero=>exact Nat.le_refl _
   | succ m ih=>rw[<-Nat.add_assoc];simp only[sortL,List.length_append];omega
  rw[<-Nat.add_assoc];simp only[sortL];rw[<-ih,List.getD_eq_getElem?_getD,List.getD_eq_getElem?_getD,List.getElem?_append_left (by omega)]
theorem xQ (l:List Nat) {N n k:Nat} (h1:1<=n) (h2:n<=N) (h:k<bC l n):∃s,(sortL l N).getD (bA l n+k) 0=s/\s<l.length/\l.getD s 0=n/\lx l s=k:=by
 obtain⟨s,h3,h4⟩:=XC l n k h;refine⟨s,?_,h4⟩;obtain⟨m,rfl⟩:∃m,n=m+1:=⟨n-1,by omega⟩;obtain⟨d,rfl⟩:∃d,N=m+1+d:=⟨N-(m+1),by omega⟩;rw[Ea l (m+1) d (bA l (m+1)+k) (by rw[mu];simp only[bA];omega)];simp only[sortL];rw[<-h3,List.getD_eq_getElem?_getD,List.getD_eq_getElem?_getD,List.getElem?_append_right (by rw[mu];omega),mu]
 congr 2;omega
theorem pT (l:List Nat) (n:Nat):∀m,bA l n<=bA l (n+m)
 | 0=>Nat.le_refl _
 | m+1=>by
  have:=pT l n m
  cases n with
  | zero=>simp[bA]
  | succ n=>rw[show n+1+(m+1)=(n+m)+2 by omega];simp only[bA];rw[show n+m+1=n+1+m by omega];omega
theorem xj (l:List Nat) (h:∀n∈l,n<=15):bA l 16=dL l:=by
 have key:∀(l:List Nat) (n:Nat),bA l (n+1)=l.countP (λx=>decide (0<x/\x<=n)):=by
  intro l n
  induction n with
  | zero=>simp only[bA];symm;rw[List.countP_eq_zero];intro x _;simp;omega
  | succ n ih=>
   simp only[bA];rw[ih];unfold bC;clear ih
   induction l with
   | nil=>rfl
   | cons x l ih=>
    simp only[List.countP_cons,beq_iff_eq,decide_eq_true_eq];by_cases h1:x=n+1
    ·rw[if_neg (by omega),if_pos h1,if_pos (by omega)];omega
    ·by_cases h2:0<x/\x<=n
     ·rw[if_pos h2,if_neg h1,if_pos (by omega)];omega
     ·rw[if_neg h2,if_neg h1,if_neg (by omega)];omega
 rw[key];unfold dL;refine List.countP_congr λx hx=>?_;have:=h x hx;simp;omega
def gE (b c:List Bool):Bool:=!c.isEmpty&&c.isPrefixOf b
def readL (cs:List (List Bool)) (b:List Bool):Nat×Nat×Nat:=
 match cs.findIdx? (gE b)with
 | some s=>(s,(cs.getD s []).length,0)
 | none=>if cs.all (·.isEmpty)then(0,0,3)else if cs.any (λc=>decide (b.length<c.length)&&b.isPrefixOf c)then(0,0,6)else(0,0,3)
theorem oS (l:List Nat) (s:Nat):(cN l s).length=l.getD s 0:=by
 unfold cN;split
 ·rename_i h;rw[h];rfl
 exact za _ _
theorem Jf (l:List Nat) {s:Nat} (h:s<l.length):(bB l).getD s []=cN l s:=by
 unfold bB;rw[List.getD_eq_getElem?_getD,List.getElem?_map,List.getElem?_range h];rfl
theorem rR {l:List Nat} (hc:eu l<=32768) (hl:∀n∈l,n<=15) (b:List Bool) {s:Nat} (h:s<l.length) :
    gE b (cN l s)=true↔1<=l.getD s 0/\l.getD s 0<=b.length/\msb (b.take (l.getD s 0))=gz l s:=by
 have h15:l.getD s 0<=15:=by
  have:l.getD s 0∈l:=by rw[List.getD_eq_getElem?_getD,List.getElem?_eq_getElem h];exact List.getElem_mem h
  exact hl _ this
 have hlen:=oS l s;unfold gE;by_cases h0:l.getD s 0=0
 ·have:cN l s=[]:=by unfold cN;rw[if_pos h0]
  rw[this];simp[-List.getD_eq_getElem?_getD];omega
 ·have hcw:=JC hc h (by omega) h15;have hcd:cN l s=bitsM (gz l s) (l.getD s 0):=by unfold cN;rw[if_neg h0]
  have hne:(cN l s).isEmpty=false:=by
   cases hh:cN l s with
   | nil=>rw[hh]at hlen;simp[-List.getD_eq_getElem?_getD]at hlen;omega
   | cons=>rfl
  rw[hne];simp only[Bool.not_false,Bool.true_and,List.isPrefixOf_iff_prefix];constructor
  ·intro hp;have h1:=hp.length_le;rw[hlen]at h1;have h2:=List.prefix_iff_eq_take.1 hp;rw[hlen]at h2;refine⟨by omega,h1,?_⟩;rw[<-h2,hcd,Co _ _ hcw]
  ·rintro⟨_,h1,h2⟩;refine List.prefix_iff_eq_take.2 ?_;rw[hlen,hcd,<-h2];have:=zb (b.take (l.getD s 0));rw[List.length_take,Nat.min_eq_left h1]at this;exact this
def mK (l:List Nat) (b:List Bool) (n:Nat):Prop:=∀s,s<l.length->1<=l.getD s 0->l.getD s 0<n->gE b (cN l s)=false
theorem vo {l:List Nat} {b:List Bool} (h:∀s,s<l.length->gE b (cN l s)=false):(bB l).findIdx? (gE b)=none:=by
 rw[List.findIdx?_eq_none_iff];intro c hc;obtain⟨s,hs,rfl⟩:=List.mem_map.1 hc;exact h s (List.mem_range.1 hs)
theorem Lm {l:List Nat} {b:List Bool} {s:Nat} (hs:s<l.length) (h1:gE b (cN l s)=true) (h2:∀t,t<l.length->gE b (cN l t)=true->t=s):(bB l).findIdx? (gE b)=some s:=by
 rw[List.findIdx?_eq_some_iff_getElem];refine⟨by simpa[bB]using hs,by simpa[bB]using h1,λj hj hh=>?_⟩;have hjl:j<l.length:=by omega
 have:=h2 j hjl (by simpa[bB]using hh);omega
theorem vS {l:List Nat} {b:List Bool} {s:Nat} (h0:l.getD s 0=0):gE b (cN l s)=false:=by
 unfold cN;rw[if_pos h0];rfl
section
variable {l:List Nat} (hc:eu l<=32768) (hl:∀n∈l,n<=15) {b:List Bool} {n:Nat}
include hl in
theorem wD (s:Nat):l.getD s 0<=15:=by
 by_cases h:s<l.length
 ·refine hl _ ?_;rw[List.getD_eq_getElem?_getD,List.getElem?_eq_getElem h];exact List.getElem_mem h
 ·rw[List.getD_eq_getElem?_getD,List.getElem?_eq_none (by omega)];exact Nat.zero_le _
theorem QS (h0:n<b.length) (hj:fstL l (n+1)<=2*msb (b.take n)):fstL l (n+1)<=msb (b.take (n+1)):=by
 rw[wI b n h0];omega
include hc hl in
theorem QW (h1:n<15) (h0:n<b.length) (hn:mK l b (n+1)) (hj:fstL l (n+1)<=2*msb (b.take n)) {k:Nat} (hk:msb (b.take (n+1))=fstL l (n+1)+k) (hk2:k<bC l (n+1)) :
    ∃s,(sortL l 15).getD (bA l (n+1)+k) 0=s/\s<l.length/\readL (bB l) b=(s,n+1,0):=by
 obtain⟨s,g1,g2,g3,g4⟩:=xQ l (N:=15) (n:=n+1) (by omega) (by omega) hk2;refine⟨s,g1,g2,?_⟩;have hit:gE b (cN l s)=true:=(rR hc hl b g2).2 ⟨by omega,by omega,by rw[g3,hk];unfold gz;rw[g3,g4]⟩
 have hone:=Lm g2 hit (λt ht hh=>by
  obtain⟨e1,e2,e3⟩:=(rR hc hl b ht).1 hh;by_cases q1:l.getD t 0<n+1
  ·rw[hn t ht e1 q1]at hh;cases hh
  ·by_cases q2:l.getD t 0=n+1
   ·rw[q2,hk]at e3;have hr:lx l t=k:=by unfold gz at e3;rw[q2]at e3;omega
    have ht':((List.range l.length).filter λs=>l.getD s 0==n+1).length=((List.range l.length).filter λs=>l.getD s 0==n+1).length:=rfl;unfold lx at hr g4;rw[q2,oQ l (n+1) t (by omega)]at hr;rw[g3,oQ l (n+1) s (by omega)]at g4
    have key:∀x y,x<y->l.getD x 0=n+1->((List.range x).filter λs=>l.getD s 0==n+1).length<((List.range y).filter λs=>l.getD s 0==n+1).length:=by
     intro x y hxy hx;obtain⟨d,rfl⟩:∃d,y=x+1+d:=⟨y-(x+1),by omega⟩;have hs:List.Sublist (List.range (x+1)) (List.range (x+1+d)):=List.range_sublist.2 (by omega);have:=(hs.filter (λs=>l.getD s 0==n+1)).length_le;rw[List.range_succ,List.filter_append,List.length_append]at this;simp only[List.filter_cons,hx,beq_self_eq_true,if_true,List.filter_nil,List.length_singleton]at this;omega
    rcases Nat.lt_trichotomy t s with q | q | q
    ·have:=key t s q q2;omega
    exact q
    ·have:=key s t q g3;omega
   ·exfalso
    obtain⟨d,hd⟩:∃d,l.getD t 0=(n+1)+(d+1):=⟨l.getD t 0-(n+2),by omega⟩;rw[hd]at e2 e3;have h5:=(Cq b (n+1) (d+1) (by omega)).2;have h6:=vH l (n+1) (d+1) (by omega);rw[if_neg (by omega),Nat.add_zero]at h6;rw[e3]at h5;have h7:fstL l (n+1+(d+1))<=gz l t:=by unfold gz;rw[hd];omega
    have h8:(msb (b.take (n+1))+1)*2^(d+1)<=(fstL l (n+1)+bC l (n+1))*2^(d+1):=Nat.mul_le_mul_right _ (by omega)
    omega)
 unfold readL;rw[hone];simp only;rw[Jf l g2,oS,g3]
include hc hl in
theorem QU (h1:n<15) (h0:n<b.length) (hn:mK l b (n+1)) (hk:fstL l (n+1)+bC l (n+1)<=msb (b.take (n+1))) :
    mK l b (n+2)/\fstL l (n+2)<=2*msb (b.take (n+1)):=by
 refine⟨λs hs e1 e2=>?_,by simp only[fstL];omega⟩;by_cases q:l.getD s 0<n+1;exact hn s hs e1 q
 ·have e3:l.getD s 0=n+1:=by omega
  cases hh:gE b (cN l s)with
  | false=>rfl
  | true=>
   obtain⟨_,_,e4⟩:=(rR hc hl b hs).1 hh;have:=xA l hs;unfold gz at e4;rw[e3]at e4 this;omega
theorem TS (hp:bA l (n+1)=dL l) (hl:∀n∈l,n<=15) (hn:n<=15) {s:Nat} (hs:s<l.length) (h1:1<=l.getD s 0):l.getD s 0<=n:=by
 refine Nat.le_of_not_lt λhlt=>?_;have h2:=xj l hl;have h15:l.getD s 0<=15:=wD hl s;have h3:=xA l hs;obtain⟨m,hm⟩:∃m,l.getD s 0=m+1:=⟨l.getD s 0-1,by omega⟩;have h4:=pT l (m+2) (16-(m+2));rw[show m+2+(16-(m+2))=16 by omega]at h4;have h5:=pT l (n+1) (m+1-(n+1));rw[show n+1+(m+1-(n+1))=m+1 by omega]at h5;have h6:bA l (m+1)+bC l (m+1)<=bA l 16:=h4;rw[hm]at h3;omega
theorem all_empty (h:0<dL l):(bB l).all (·.isEmpty)=false:=by
 unfold dL at h;obtain⟨x,hx,h1⟩:=List.countP_pos_iff.1 h;obtain⟨s,hs,rfl⟩:=List.getElem_of_mem hx;rw[List.all_eq_false];refine⟨cN l s,List.mem_map.2 ⟨s,List.mem_range.2 hs,rfl⟩,?_⟩;have:=oS l s;rw[List.getD_eq_getElem?_getD,List.getElem?_eq_getElem hs]at this;simp at h1 this
 cases hh:cN l s with
 | nil=>rw[hh]at this;simp at this;omega
 | cons=>simp
include hl in
theorem QV (h0:n<=b.length) (h15:n<=15) (hp:bA l (n+1)=dL l) (hpos:0<dL l) (hn:mK l b (n+1)):readL (bB l) b=(0,0,3):=by
 unfold readL;have hlv:∀s,s<l.length->1<=l.getD s 0->l.getD s 0<=n:=λs hs h1=>TS hp hl h15 hs h1
 rw[vo (λs hs=>by
  by_cases h1:1<=l.getD s 0;exact hn s hs h1 (by have:=hlv s hs h1;omega)
  ·exact vS (by omega))]
 simp only;rw[all_empty hpos,if_neg (by simp),if_neg];simp only[List.any_eq_true,Bool.and_eq_true,decide_eq_true_eq];rintro⟨c,h1,h2,_⟩;obtain⟨s,hs,rfl⟩:=List.mem_map.1 h1;rw[oS]at h2;have:=hlv s (List.mem_range.1 hs) (by omega);omega
include hl in
theorem QQ (hck:bF l=true) (h15:b.length<15) (hp:bA l (b.length+1)<dL l) (hn:mK l b (b.length+1)) (hj:fstL l (b.length+1)<=2*msb b):readL (bB l) b=(0,0,6):=by
 have hpos:0<dL l:=by omega
 have hc:eu l<=32768:=by unfold bF at hck;simp at hck;exact hck.1
 unfold readL
 rw[vo (λs hs=>by
  by_cases h1:1<=l.getD s 0
  ·by_cases h2:l.getD s 0<b.length+1;exact hn s hs h1 h2
   ·cases hh:gE b (cN l s)with
    | false=>rfl
    | true=>have:=((rR hc hl b hs).1 hh).2.1;omega
  ·exact vS (by omega))]
 simp only;rw[all_empty hpos,if_neg (by simp),if_pos];simp only[List.any_eq_true,Bool.and_eq_true,decide_eq_true_eq,List.isPrefixOf_iff_prefix]
 have found:∀m k s,m=b.length+1+k->m<=15->s<l.length->l.getD s 0=m->gz l s=msb b*2^(k+1)->∃x,x∈bB l/\b.length<x.length/\b <+: x:=by
  intro m k s hm hm15 hs hls hcw;refine⟨cN l s,List.mem_map.2 ⟨s,List.mem_range.2 hs,rfl⟩,by rw[oS];omega,?_⟩;have hcd:cN l s=bitsM (gz l s) (l.getD s 0):=by unfold cN;rw[if_neg (by omega)]
  rw[hcd,hls,hcw,hm]
  have hb:∀k,bitsM (msb b*2^k) (b.length+k)=b++List.replicate k false:=by
   intro k
   induction k with
   | zero=>simp[zb]
   | succ k ih=>
    show bitsM _ ((b.length+k)+1)=_
    unfold bitsM;rw[show msb b*2^(k+1)/2=msb b*2^k by rw[Nat.pow_succ,<-Nat.mul_assoc];omega,ih,show(msb b*2^(k+1)%2==1)=false by rw[Nat.pow_succ,<-Nat.mul_assoc];simp,List.append_assoc,<-List.replicate_succ']
  rw[show b.length+1+k=b.length+(k+1)by omega,hb];exact List.prefix_append _ _
 unfold bF at hck;simp only[Bool.and_eq_true,Bool.or_eq_true,decide_eq_true_eq]at hck;rcases hck.2 with(h32 | h0) | ⟨h1,h2⟩
 ·-- complete: some interval holds these bits
  have hlt:=Cp b
  have base:fstL l (b.length+1)*2^(14-b.length)<=msb b*2^(15-b.length):=by
   have h3:(2:Nat)^(15-b.length)=2*2^(14-b.length):=by rw[show 15-b.length=(14-b.length)+1 by omega,Nat.pow_succ];omega
   rw[h3,<-Nat.mul_assoc,Nat.mul_comm (msb b) 2];exact Nat.mul_le_mul_right _ hj
  have go:∀d m,m+d=15->b.length<m->fstL l m*2^(15-m)<=msb b*2^(15-b.length)->∃m',m<=m'/\m'<=15/\fstL l m'*2^(15-m')<=msb b*2^(15-b.length)/\msb b*2^(15-b.length)<(fstL l m'+bC l m')*2^(15-m'):=by
   intro d
   induction d with
   | zero=>
    intro m h3 h4 h5;have:m=15:=by omega
    subst this;refine⟨15,Nat.le_refl _,Nat.le_refl _,h5,?_⟩;have h6:msb b*2^(15-b.length)<2^b.length*2^(15-b.length):=Nat.mul_lt_mul_of_pos_right hlt (Nat.pow_pos (by decide));rw[<-Nat.pow_add,show b.length+(15-b.length)=15 by omega]at h6;unfold eu at h32;rw[h32]
    simpa using h6
   | succ d ih=>
    intro m h3 h4 h5;by_cases h6:msb b*2^(15-b.length)<(fstL l m+bC l m)*2^(15-m);exact⟨m,Nat.le_refl _,by omega,h5,h6⟩
    ·obtain⟨q,rfl⟩:∃q,m=q+1:=⟨m-1,by omega⟩
     obtain⟨m',e1,e2,e3⟩:=ih (q+2) (by omega) (by omega) (by
      simp only[fstL];have h7:(2:Nat)^(15-(q+1))=2*2^(15-(q+2)):=by rw[show 15-(q+1)=(15-(q+2))+1 by omega,Nat.pow_succ];omega
      rw[h7,<-Nat.mul_assoc,Nat.mul_comm _ 2]at h6
      omega)
     exact⟨m',by omega,e2,e3⟩
  obtain⟨m,e1,e2,e3,e4⟩:=go (14-b.length) (b.length+1) (by omega) (by omega) (by rw[show 15-(b.length+1)=14-b.length by omega];exact base);obtain⟨k,rfl⟩:∃k,m=b.length+1+k:=⟨m-(b.length+1),by omega⟩;have h5:(2:Nat)^(15-b.length)=2^(k+1)*2^(15-(b.length+1+k)):=by rw[<-Nat.pow_add];congr 1;omega
  rw[h5,<-Nat.mul_assoc]at e3 e4;have e5:=Nat.le_of_mul_le_mul_right e3 (Nat.pow_pos (by decide));have e6:=Nat.lt_of_mul_lt_mul_right e4;obtain⟨s,_,g2,g3,g4⟩:=xQ l (N:=15) (n:=b.length+1+k) (k:=msb b*2^(k+1)-fstL l (b.length+1+k)) (by omega) e2 (by omega);exact found _ k s rfl e2 g2 g3 (by unfold gz;rw[g3,g4];omega)
 omega
 ·-- one code of one bit
  have hb0:b.length=0:=by
   refine Nat.eq_zero_of_not_pos λhb=>?_;have h3:=pT l 2 (b.length+1-2);rw[show 2+(b.length+1-2)=b.length+1 by omega]at h3;have h4:0+bC l 1<=bA l (b.length+1):=h3;omega
  have hbn:=List.length_eq_zero_iff.1 hb0;subst hbn;obtain⟨s,_,g2,g3,g4⟩:=xQ l (N:=15) (n:=1) (k:=0) (by omega) (by omega) (by omega);refine found 1 0 s rfl (by omega) g2 g3 ?_;unfold gz;rw[g3,g4];simp[fstL,msb]
end
def jz (s:Bs) (i:Nat):Bool:=(s.getD (i/8) 0).toNat.testBit (i%8)
def numAt (s:Bs) (p:Nat):Nat->Nat
 | 0=>0
 | n+1=>numAt s p n+(if jz s (p+n)then 2^n else 0)
def ck (s:Bs) (p:Nat):List Bool:=(List.range (8*s.length-p)).map λi=>jz s (p+i)
theorem gU (s:Bs) (p:Nat):∀n,numAt s p n<2^n
 | 0=>by simp[numAt]
 | n+1=>by
  have:=gU s p n;simp only[numAt];rw[Nat.pow_succ];split<;>omega
theorem num_add (s:Bs) (p m:Nat):∀n,numAt s p (m+n)=numAt s p m+2^m*numAt s (p+m) n
 | 0=>by simp[numAt]
 | n+1=>by
  rw[<-Nat.add_assoc];simp only[numAt];rw[num_add s p m n,Nat.add_assoc p m n,Nat.mul_add];split
  ·rw[Nat.pow_add];omega
  omega
theorem sC (s:Bs) (p:Nat) {m n:Nat} (h:m<=n):numAt s p n%2^m=numAt s p m:=by
 obtain⟨d,rfl⟩:∃d,n=m+d:=⟨n-m,by omega⟩;rw[num_add,Nat.add_mul_mod_self_left,Nat.mod_eq_of_lt (gU s p m)]
theorem pO (s:Bs) (p:Nat) {m n:Nat} (h:m<=n):numAt s p n/2^m=numAt s (p+m) (n-m):=by
 obtain⟨d,rfl⟩:∃d,n=m+d:=⟨n-m,by omega⟩;rw[num_add,Nat.add_mul_div_left _ _ (Nat.pow_pos (by decide)),Nat.div_eq_of_lt (gU s p m),Nat.zero_add,Nat.add_sub_cancel_left]
theorem Xv (x:Nat):∀n,x%2^(n+1)=x%2^n+(if x.testBit n then 2^n else 0):=by
 intro n;rw[Nat.pow_succ,Nat.mod_mul,Nat.testBit_eq_decide_div_mod_eq];rcases Nat.mod_two_eq_zero_or_one (x/2^n)with h | h<;>simp[h]
theorem sA (s:Bs) (a:Nat):numAt s (8*a) 8=(s.getD a 0).toNat:=by
 have key:∀n,n<=8->numAt s (8*a) n=(s.getD a 0).toNat%2^n:=by
  intro n
  induction n with
  | zero=>intro _;simp[numAt,Nat.mod_one]
  | succ n ih=>
   intro h;simp only[numAt];rw[ih (by omega),Xv];unfold jz;rw[show(8*a+n)/8=a by omega,show(8*a+n)%8=n by omega]
 rw[key 8 (Nat.le_refl _),Nat.mod_eq_of_lt (by have:=(s.getD a 0).toNat_lt;omega)]
theorem Sc (s:Bs) (a n:Nat) (h:n<=8*a):numAt s (8*a-n) (n+8)=numAt s (8*a-n) n+(s.getD a 0).toNat*2^n:=by
 rw[num_add,show 8*a-n+n=8*a by omega,sA,Nat.mul_comm (2^n)]
theorem Se (s:Bs) (p m n:Nat):numAt s p (m+n)=numAt s p m+numAt s (p+m) n*2^m:=by rw[num_add,Nat.mul_comm (2^m)]
theorem Sd (s:Bs) (p:Nat):numAt s p 1=(jz s p).toNat:=by
 simp only[numAt,Nat.add_zero];cases jz s p<;>rfl
theorem xx (s:Bs) (p:Nat):(ck s p).length=8*s.length-p:=by simp[ck]
theorem UL (s:Bs) (p:Nat) {n:Nat} (h:p+n<8*s.length):(ck s p).getD n false=jz s (p+n):=by
 unfold ck;rw[List.getD_eq_getElem?_getD,List.getElem?_map,List.getElem?_range (by omega)];rfl
theorem y9 (s:Bs) (a i:Nat):jz (s.drop a) i=jz s (8*a+i):=by
 unfold jz;rw[List.getD_eq_getElem?_getD,List.getElem?_drop,<-List.getD_eq_getElem?_getD,show(8*a+i)/8=a+i/8 by omega,show(8*a+i)%8=i%8 by omega]
theorem sB (s:Bs) (a p:Nat):∀n,numAt (s.drop a) p n=numAt s (8*a+p) n
 | 0=>rfl
 | n+1=>by
  simp only[numAt];rw[sB s a p n,y9,Nat.add_assoc]
theorem xw (s:Bs) (a p:Nat):ck (s.drop a) p=ck s (8*a+p):=by
 unfold ck;rw[List.length_drop,show 8*(s.length-a)-p=8*s.length-(8*a+p)by omega]
 congr 1
 funext i
 rw[y9,Nat.add_assoc]
end Go.Proofs.YtkdjbebgdoohjaaGreatDoor.Pk
namespace Go.Proofs.YtkdjbebgdoohjaaGreatDoor.Pk
structure SS where
 p:Nat
 out:Bs
 err:Nat
def fG (e:Nat) (S:SS):SS:=if S.err=0 then {S with err:=e} else S
def bH (t:Bs) (n:Nat) (S:SS):Nat×SS:=
 if S.err≠0 then(0,S)else if 8*t.length<S.p+n then(0,{S with err:=6})else(numAt t S.p n,{S with p:=S.p+n})
def bO (t:Bs) (l:List Nat) (S:SS):Nat×SS:=
 if S.err≠0 then(0,S)else if(readL (bB l) (ck t S.p)).2.2≠0 then(0,{S with err:=(readL (bB l) (ck t S.p)).2.2})
  else((readL (bB l) (ck t S.p)).1,{S with p:=S.p+(readL (bB l) (ck t S.p)).2.1})
def gn (most:Nat) (c:UInt8) (S:SS):SS:=if S.err≠0 then S else if most<=S.out.length then {S with err:=2} else {S with out:=S.out++[c]}
def rawS (t:Bs) (most:Nat):Nat->SS->SS
 | 0,S=>S
 | n+1,S=>if S.err≠0 then S else rawS t most n (gn most (UInt8.ofNat (bH t 8 S).1) (bH t 8 S).2)
def mD (S:SS):SS:={S with p:=(S.p+7)/8*8}
def gK (t:Bs) (most:Nat) (S:SS):SS:=
 let a:=bH t 16 (mD S)
 let b:=bH t 16 a.2
 rawS t most a.1 (if a.1+b.1≠65535 then fG 3 b.2 else b.2)
def gX:List Nat:=[16,17,18,0,8,7,9,6,10,5,11,4,12,3,13,2,14,1,15]
def firstS (t:Bs) (nc:Nat):Nat->List Nat->SS->List Nat×SS
 | 0,l,S=>(l,S)
 | k+1,l,S=>if S.err≠0 then(l,S)else firstS t nc k (l.set (gX.getD (nc-(k+1)) 0) (bH t 3 S).1) (bH t 3 S).2
def dU (t:Bs) (l:List Nat) (s:Nat) (S:SS):Nat×Nat×SS:=
 if s=16 then(if l=[]then(0,0,fG 3 S)else(3+(bH t 2 S).1,l.getD (l.length-1) 0,(bH t 2 S).2))
 else if s=17 then(3+(bH t 3 S).1,0,(bH t 3 S).2)
 else if s=18 then(11+(bH t 7 S).1,0,(bH t 7 S).2)
 else(1,s,S)
def dT (N:Nat) (l:List Nat) (b:Nat×Nat×SS):SS:=if N<l.length+b.1 then fG 3 b.2.2 else b.2.2
def jf (t:Bs) (fl:List Nat) (N:Nat):Nat->List Nat->SS->List Nat×SS
 | 0,l,S=>(l,S)
 | k+1,l,S=>
  if N<=l.length\/S.err≠0 then(l,S)else
   let a:=bO t fl S
   let b:=dU t l a.1 a.2
   let c:=dT N l b
   if c.err≠0 then(l,c)else jf t fl N k (l++List.replicate b.1 b.2.1) c
def fp (t:Bs) (S:SS):(List Nat×List Nat)×SS:=
 if 8*t.length<S.p+14 then(([],[]),{S with err:=6})else
 let nl:=numAt t S.p 5+257
 let nd:=numAt t (S.p+5) 5+1
 let nc:=numAt t (S.p+10) 4+4
 if 286<nl\/30<nd then(([],[]),{S with p:=S.p+14,err:=3})else
 let a:=firstS t nc nc (List.replicate 19 0) {S with p:=S.p+14}
 if a.2.err≠0 then(([],[]),a.2)else if bF a.1=false then(([],[]),{a.2 with err:=3})else
 let b:=jf t a.1 (nl+nd) (nl+nd) [] a.2
 if b.2.err≠0 then(([],[]),b.2)else
 if b.1.getD 256 0=0\/bF (b.1.take nl)=false\/bF (b.1.drop nl)=false then(([],[]),{b.2 with err:=3})else((b.1.take nl,b.1.drop nl),b.2)
def ir:List Nat:=List.replicate 144 8++List.replicate 112 9++List.replicate 24 7++List.replicate 8 8
def iq:List Nat:=List.replicate 32 5
def bZ (i:Nat):Nat×Nat:=if i=28 then(258,0)else if i<8 then(3+i,0)else(3+(4+i%4)*2^(i/4-1),i/4-1)
def gA (i:Nat):Nat×Nat:=if i<4 then(1+i,0)else(1+(2+i%2)*2^(i/2-1),i/2-1)
def backS (most:Nat) (back:Nat):Nat->SS->SS
 | 0,S=>S
 | n+1,S=>if S.err≠0 then S else backS most back n (gn most (S.out.getD (S.out.length-back) 0) S)
def ji (t:Bs) (most:Nat) (d:List Nat) (s:Nat) (S:SS):SS:=
 if 285<s then fG 3 S else
 let a:=bH t (bZ (s-257)).2 S
 let k:=bO t d a.2
 if k.2.err≠0 then k.2 else if 29<k.1 then fG 3 k.2 else
 let b:=bH t (gA k.1).2 k.2
 let back:=(gA k.1).1+b.1
 if b.2.err≠0 then b.2 else if b.2.out.length<back then fG 3 b.2 else backS most back ((bZ (s-257)).1+a.1) b.2
def fT (t:Bs) (most:Nat) (l d:List Nat) (S:SS):Bool×SS:=
 let a:=bO t l S
 if a.2.err≠0 then(true,a.2)else if a.1=256 then(true,a.2)else if a.1<256 then(false,gn most (UInt8.ofNat a.1) a.2)else(false,ji t most d a.1 a.2)
def mj (t:Bs) (most:Nat) (l d:List Nat):Nat->SS->SS
 | 0,S=>S
 | k+1,S=>if S.err≠0 then S else if(fT t most l d S).1 then(fT t most l d S).2 else mj t most l d k (fT t most l d S).2
def gW (t:Bs) (most:Nat) (l d:List Nat) (S:SS):SS:=mj t most l d (8*t.length+1-S.p) S
def gy (t:Bs) (most:Nat) (S:SS):Bool×SS:=
 if 8*t.length<S.p+3 then(true,{S with err:=6})else
 let S3:={S with p:=S.p+3}
 (numAt t S.p 1=1,if numAt t (S.p+1) 2=0 then gK t most S3 else if numAt t (S.p+1) 2=1 then gW t most ir iq S3
  else if numAt t (S.p+1) 2=2 then(if(fp t S3).2.err≠0 then(fp t S3).2 else gW t most (fp t S3).1.1 (fp t S3).1.2 (fp t S3).2)else {S3 with err:=3})
def nS (t:Bs) (most:Nat):Nat->SS->SS
 | 0,S=>S
 | k+1,S=>if(gy t most S).2.err≠0\/(gy t most S).1=true then(gy t most S).2 else nS t most k (gy t most S).2
def gY (t:Bs) (most:Nat) (S:SS):SS:=nS t most (8*t.length+1-S.p) S
def fZ (t:Bs) (most:Nat):Bs×Nat×Nat:=
 let S:=gY t most ⟨0,[],0⟩
 if S.err≠0 then([],0,S.err)else(S.out,(S.p+7)/8,0)
structure Mv (t:Bs) (most:Nat) (S S':SS):Prop where
 p:S.p<=S'.p
 q:S.p<=8*t.length->S'.p<=8*t.length
 o:S.out.length<=most->S'.out.length<=most
section
variable {t:Bs} {most:Nat} {S:SS}
theorem Mv.refl:Mv t most S S:=⟨Nat.le_refl _,λh=>h,λh=>h⟩
theorem Mv.trans {S1 S2:SS} (h:Mv t most S S1) (k:Mv t most S1 S2):Mv t most S S2:=⟨Nat.le_trans h.p k.p,λg=>k.q (h.q g),λg=>k.o (h.o g)⟩
theorem jI {e:Nat}:Mv t most S {S with err:=e}:=⟨Nat.le_refl _,λh=>h,λh=>h⟩
theorem nH {e:Nat}:Mv t most S (fG e S):=by unfold fG;split;exact jI;exact .refl
theorem AD {e:Nat} (h:e≠0):(fG e S).err≠0:=by unfold fG;split;exact h;assumption
theorem lV {e:Nat} (h:S.err=0):fG e S={S with err:=e}:=if_pos h
theorem Sb {n:Nat} (h:S.err≠0):bH t n S=(0,S):=if_pos h
theorem mi {n:Nat} (h:S.err=0) (h1:8*t.length<S.p+n):bH t n S=(0,{S with err:=6}):=by unfold bH;rw[if_neg (by simpa using h),if_pos h1]
theorem kq {n:Nat} (h:S.err=0) (h1:S.p+n<=8*t.length):bH t n S=(numAt t S.p n,{S with p:=S.p+n}):=by unfold bH;rw[if_neg (by simpa using h),if_neg (by omega)]
theorem jh {n:Nat}:Mv t most S (bH t n S).2:=by
 unfold bH;split;exact .refl
 ·split;exact jI;exact⟨by simp only;omega,λ_=>by simp only;omega,λh=>h⟩
theorem pW (cs:List (List Bool)) (b:List Bool) (h:(readL cs b).2.2=0):1<=(readL cs b).2.1/\(readL cs b).2.1<=b.length/\(readL cs b).1<cs.length:=by
 unfold readL at h |-;split at h
 ·rename_i s hs;simp only;obtain⟨h1,h2,_⟩:=List.findIdx?_eq_some_iff_getElem.1 hs;have:cs.getD s []=cs[s]:=by rw[List.getD_eq_getElem?_getD,List.getElem?_eq_getElem h1];rfl
  rw[this];unfold gE at h2;simp only[Bool.and_eq_true,List.isPrefixOf_iff_prefix]at h2;refine⟨?_,h2.2.length_le,h1⟩
  cases hc:cs[s]with
  | nil=>rw[hc]at h2;simp at h2
  | cons=>simp
 ·split at h
  ·cases h
  ·split at h<;>cases h
theorem Xx {l:List Nat} (h:S.err≠0):bO t l S=(0,S):=if_pos h
theorem tF {l:List Nat} (h:S.err=0) (h1:(readL (bB l) (ck t S.p)).2.2≠0):bO t l S=(0,{S with err:=(readL (bB l) (ck t S.p)).2.2}):=by unfold bO;rw[if_neg (by simpa using h),if_pos h1]
theorem tG {l:List Nat} (h:S.err=0) (h1:(readL (bB l) (ck t S.p)).2.2=0):bO t l S=((readL (bB l) (ck t S.p)).1,{S with p:=S.p+(readL (bB l) (ck t S.p)).2.1}):=by unfold bO;rw[if_neg (by simpa using h),if_neg (by simpa using h1)]
theorem nI {l:List Nat}:Mv t most S (bO t l S).2:=by
 unfold bO;split;exact .refl
 ·split;exact jI
  ·rename_i h;have:=pW (bB l) (ck t S.p) (by simpa using h);rw[xx]at this;exact⟨by simp only;omega,λ_=>by simp only;omega,λh=>h⟩
theorem Xy {l:List Nat} (h:S.err=0) (h1:(bO t l S).2.err=0):S.p<(bO t l S).2.p/\(bO t l S).1<l.length:=by
 by_cases h2:(readL (bB l) (ck t S.p)).2.2=0
 ·have:=pW (bB l) (ck t S.p) h2;rw[tG h h2];have hl:(bB l).length=l.length:=by simp[bB]
  simp only;omega
 ·rw[tF h h2]at h1;exact(h2 h1).elim
theorem pH {c:UInt8}:Mv t most S (gn most c S):=by
 unfold gn;split;exact .refl
 ·split;exact jI;exact⟨Nat.le_refl _,λh=>h,λ_=>by simp;omega⟩
theorem Cy:∀(n:Nat) (S:SS),Mv t most S (rawS t most n S)
 | 0,_=>.refl
 | n+1,S=>by
  unfold rawS;split;exact .refl;exact jh.trans (pH.trans (Cy n _))
theorem Ru:Mv t most S (mD S):=⟨by simp only[mD];omega,λh=>by simp only[mD];omega,λh=>h⟩
theorem CA:Mv t most S (gK t most S):=by
 unfold gK;have h1:Mv t most S (bH t 16 (bH t 16 (mD S)).2).2:=Ru.trans (jh.trans jh);refine h1.trans (Mv.trans ?_ (Cy _ _));split;exact nH;exact .refl
theorem Cv {nc:Nat}:∀(k:Nat) (l:List Nat) (S:SS),Mv t most S (firstS t nc k l S).2
 | 0,_,_=>.refl
 | k+1,l,S=>by
  unfold firstS;split;exact .refl;exact jh.trans (Cv k _ _)
theorem Rt {l:List Nat} {s:Nat}:Mv t most S (dU t l s S).2.2:=by
 unfold dU;split
 ·split;exact nH;exact jh
 ·split;exact jh
  ·split;exact jh;exact .refl
theorem sn {fl:List Nat} {N:Nat}:∀(k:Nat) (l:List Nat) (S:SS),Mv t most S (jf t fl N k l S).2
 | 0,_,_=>.refl
 | k+1,l,S=>by
  have hc:Mv t most S (dT N l (dU t l (bO t fl S).1 (bO t fl S).2)):=by
   have h1:Mv t most S (dU t l (bO t fl S).1 (bO t fl S).2).2.2:=nI.trans Rt;refine h1.trans ?_;unfold dT;split;exact nH;exact .refl
  unfold jf;split;exact .refl
  ·simp only;split;exact hc;exact hc.trans (sn k _ _)
theorem wJ:Mv t most S (fp t S).2:=by
 unfold fp;split;exact jI
 ·rename_i h14;have h1:Mv t most S {S with p:=S.p+14}:=⟨by simp only;omega,λ_=>by simp only;omega,λh=>h⟩;simp only;split;exact h1.trans jI
  ·have h2:=h1.trans (Cv (nc:=numAt t (S.p+10) 4+4) (numAt t (S.p+10) 4+4) (List.replicate 19 0) {S with p:=S.p+14});split;exact h2
   ·split;exact h2.trans jI
    ·split;exact h2.trans (sn _ _ _)
     ·split;exact(h2.trans (sn _ _ _)).trans jI;exact h2.trans (sn _ _ _)
theorem Cu {back:Nat}:∀(n:Nat) (S:SS),Mv t most S (backS most back n S)
 | 0,_=>.refl
 | n+1,S=>by
  unfold backS;split;exact .refl;exact pH.trans (Cu n _)
theorem wK {d:List Nat} {s:Nat}:Mv t most S (ji t most d s S):=by
 unfold ji;split;exact nH
 ·have h1:Mv t most S (bO t d (bH t (bZ (s-257)).2 S).2).2:=jh.trans nI;simp only;split;exact h1
  ·split;exact h1.trans nH
   ·split;exact h1.trans jh
    ·split;exact(h1.trans jh).trans nH;exact(h1.trans jh).trans (Cu _ _)
theorem pI {l d:List Nat}:Mv t most S (fT t most l d S).2:=by
 unfold fT;simp only;split;exact nI
 ·split;exact nI
  ·split;exact nI.trans pH;exact nI.trans wK
theorem Xc {l d:List Nat} (h:S.err=0) (h1:(fT t most l d S).2.err=0):S.p<(fT t most l d S).2.p:=by
 unfold fT at h1 |-;simp only at h1 |-;split at h1
 ·rename_i h2;exact(h2 h1).elim
 ·rename_i h2;have h3:=(Xy h (by simpa using h2)).1;rw[if_neg h2];split at h1
  ·rename_i h4;rw[if_pos h4];exact h3
  ·rename_i h4;rw[if_neg h4];split;exact Nat.lt_of_lt_of_le h3 (pH (t:=t)).p;exact Nat.lt_of_lt_of_le h3 (wK).p
theorem wZ {l d:List Nat}:∀(k:Nat),S.err≠0->mj t most l d k S=S
 | 0,_=>rfl
 | k+1,h=>if_pos h
theorem sJ {l d:List Nat}:∀(k:Nat) (S:SS),S.p<=8*t.length->8*t.length+1-S.p<=k->mj t most l d k S=gW t most l d S
 | 0,S,h0,h=>by omega
 | k+1,S,h0,h=>by
  unfold gW;obtain⟨j,hj⟩:∃j,8*t.length+1-S.p=j+1:=⟨8*t.length-S.p,by omega⟩;rw[hj];unfold mj;split;rfl
  ·rename_i he;split;rfl
   ·by_cases h1:(fT t most l d S).2.err=0
    ·have h2:=Xc (l:=l) (d:=d) (most:=most) (by simpa using he) h1;have h3:=(pI (t:=t) (most:=most) (S:=S) (l:=l) (d:=d)).q h0;rw[sJ k _ h3 (by omega),<-sJ j _ h3 (by omega)]
    ·rw[wZ k h1,wZ j h1]
theorem SU {l d:List Nat} (h0:S.p<=8*t.length):gW t most l d S=if S.err≠0 then S else if(fT t most l d S).1 then(fT t most l d S).2 else gW t most l d (fT t most l d S).2:=by
 have h1:=sJ (most:=most) (l:=l) (d:=d) (8*t.length+1-S.p+1) S h0 (by omega);rw[<-h1]
 show(if _ then _ else _)=_
 split;rfl
 ·rename_i he;split;rfl
  ·have h3:=(pI (t:=t) (most:=most) (S:=S) (l:=l) (d:=d)).q h0;have h4:=(pI (t:=t) (most:=most) (S:=S) (l:=l) (d:=d)).p;exact sJ _ _ h3 (by omega)
theorem Cx {l d:List Nat}:∀(k:Nat) (S:SS),Mv t most S (mj t most l d k S)
 | 0,_=>.refl
 | k+1,S=>by
  unfold mj;split;exact .refl
  ·split;exact pI;exact pI.trans (Cx k _)
theorem Cw {l d:List Nat}:Mv t most S (gW t most l d S):=Cx _ _
theorem nG:Mv t most S (gy t most S).2/\((gy t most S).2.err=0->S.p<(gy t most S).2.p):=by
 unfold gy;split;exact⟨jI,λh=>by cases h⟩
 ·rename_i h3;have h1:Mv t most S {S with p:=S.p+3}:=⟨by simp only;omega,λ_=>by simp only;omega,λh=>h⟩;have go:∀S',Mv t most {S with p:=S.p+3} S'->Mv t most S S'/\(S'.err=0->S.p<S'.p):=λS' h=>⟨h1.trans h,λ_=>by have:=h.p;simp only at this;omega⟩;simp only;split;exact go _ CA
  ·split;exact go _ Cw
   ·split
    ·split;exact go _ wJ;exact go _ (wJ.trans Cw)
    exact go _ jI
theorem tf:∀(k:Nat) (S:SS),S.p<=8*t.length->8*t.length+1-S.p<=k->nS t most k S=gY t most S
 | 0,S,h0,h=>by omega
 | k+1,S,h0,h=>by
  unfold gY;obtain⟨j,hj⟩:∃j,8*t.length+1-S.p=j+1:=⟨8*t.length-S.p,by omega⟩;rw[hj];unfold nS;split;rfl
  ·rename_i he
   have h2:=(nG (t:=t) (most:=most) (S:=S)).2 (by
    refine Classical.byContradiction λh=>he (.inl h))
   have h3:=(nG (t:=t) (most:=most) (S:=S)).1.q h0;rw[tf k _ h3 (by omega),<-tf j _ h3 (by omega)]
theorem run_eq (h0:S.p<=8*t.length):gY t most S=if(gy t most S).2.err≠0\/(gy t most S).1=true then(gy t most S).2 else gY t most (gy t most S).2:=by
 have h1:=tf (most:=most) (8*t.length+1-S.p+1) S h0 (by omega);rw[<-h1]
 show(if _ then _ else _)=_
 split;rfl
 ·have h3:=(nG (t:=t) (most:=most) (S:=S)).1.q h0;have h4:=(nG (t:=t) (most:=most) (S:=S)).1.p;exact tf _ _ h3 (by omega)
end
end Go.Proofs.YtkdjbebgdoohjaaGreatDoor.Pk
