/- The proof, part 31 of 51. -/

set_option linter.all false
namespace Go.Proofs.YtgghhaahnpbnmaaGreatDoor.Pk
abbrev Bs:=List UInt8
def msb (b:List Bool):Nat:=b.foldl (λa c=>2*a+c.toNat) 0
def bitsM:Nat->Nat->List Bool
 | _,0=>[]
 | x,n+1=>bitsM (x/2) n++[x%2==1]
theorem uo (a:List Bool) (c:Bool):msb (a++[c])=2*msb a+c.toNat:=by simp[msb]
theorem wq:∀(n x:Nat),(bitsM x n).length=n
 | 0,_=>rfl
 | n+1,x=>by simp[bitsM,wq n]
theorem Gd {α:Type} {p:List α->Prop} (h0:p []) (h1:∀l x,p l->p (l++[x])) (l:List α):p l:=by
 have:∀n (l:List α),l.length=n->p l:=by
  intro n
  induction n with
  | zero=>intro l h;rw[List.length_eq_zero_iff.1 h];exact h0
  | succ n ih=>
   intro l h;have hne:l≠[]:=by intro e;rw[e]at h;cases h
   rw[<-List.dropLast_concat_getLast hne];exact h1 _ _ (ih _ (by simp[h]))
 exact this _ l rfl
theorem D5 (b:List Bool):msb b<2^b.length:=by
 refine Gd (p:=λb=>msb b<2^b.length) (by simp[msb]) (λl c h=>?_) b;rw[uo,List.length_append,List.length_singleton,Nat.pow_succ];have:c.toNat<=1:=by cases c<;>decide
 omega
theorem AD (b:List Bool):bitsM (msb b) b.length=b:=by
 refine Gd (p:=λb=>bitsM (msb b) b.length=b) rfl (λl c h=>?_) b;rw[uo,List.length_append]
 show bitsM _ (l.length+1)=_
 unfold bitsM;have h2:(2*msb l+c.toNat)/2=msb l:=by cases c<;>simp<;>omega
 have h3:((2*msb l+c.toNat)%2==1)=c:=by cases c<;>simp<;>omega
 rw[h2,h3,h]
theorem D4:∀(n x:Nat),x<2^n->msb (bitsM x n)=x
 | 0,x,h=>by simp at h;subst h;rfl
 | n+1,x,h=>by
  unfold bitsM;rw[uo,D4 n (x/2) (by rw[Nat.pow_succ]at h;omega)];rcases Nat.mod_two_eq_zero_or_one x with h1 | h1<;>simp[h1]<;>omega
theorem yh (b:List Bool) (n:Nat) (h:n<b.length):msb (b.take (n+1))=2*msb (b.take n)+(b.getD n false).toNat:=by
 rw[List.take_add_one,List.getElem?_eq_getElem h];simp only[Option.toList_some];rw[uo,List.getD_eq_getElem?_getD,List.getElem?_eq_getElem h];rfl
theorem yi (b:List Bool):∀(n k:Nat),n+k<=b.length->msb (b.take n)*2^k<=msb (b.take (n+k))/\msb (b.take (n+k))<(msb (b.take n)+1)*2^k
 | n,0,_=>by simp
 | n,k+1,h=>by
  obtain⟨h1,h2⟩:=yi b n k (by omega);rw[<-Nat.add_assoc,yh b (n+k) (by omega),Nat.pow_succ];have:(b.getD (n+k) false).toNat<=1:=by cases b.getD (n+k) false<;>decide
  constructor
  ·rw[<-Nat.mul_assoc];omega
  ·rw[<-Nat.mul_assoc];omega
def bG (l:List Nat) (n:Nat):Nat:=l.countP (·==n)
def fstL (l:List Nat):Nat->Nat
 | 0=>0
 | 1=>0
 | n+2=>2*(fstL l (n+1)+bG l (n+1))
def gj (l:List Nat) (s:Nat):Nat:=bG (l.take s) (l.getD s 0)
def cz (l:List Nat) (s:Nat):Nat:=fstL l (l.getD s 0)+gj l s
def aK (l:List Nat) (s:Nat):List Bool:=if l.getD s 0=0 then[]else bitsM (cz l s) (l.getD s 0)
def bH (l:List Nat):List (List Bool):=(List.range l.length).map (aK l)
def dp (l:List Nat):Nat:=fstL l 15+bG l 15
def dQ (l:List Nat):Nat:=l.countP (λn=>decide (0<n))
def bw (l:List Nat):Bool:=decide (dp l<=32768)&&(decide (dp l=32768)||decide (dQ l=0)||(decide (dQ l=1)&&decide (bG l 1=1)))
def bh (l:List Nat):Nat->Nat
 | 0=>0
 | 1=>0
 | n+2=>bh l (n+1)+bG l (n+1)
def vl (l:List Nat) (n:Nat):List Nat:=(List.range l.length).filter λs=>l.getD s 0==n
def sortL (l:List Nat):Nat->List Nat
 | 0=>[]
 | n+1=>sortL l n++vl l (n+1)
theorem qa (l:List Nat) (x n:Nat):bG (l++[x]) n=bG l n+if x=n then 1 else 0:=by
 simp only[bG,List.countP_append,List.countP_singleton,beq_iff_eq]
theorem tr (l:List Nat) (n:Nat):∀k,1<=n->(fstL l n+bG l n)*2^k<=fstL l (n+k)+(if k=0 then bG l n else 0)
 | 0,h=>by simp
 | k+1,h=>by
  have ih:=tr l n k h;rw[if_neg (by omega)];obtain⟨m,hm⟩:∃m,n+k=m+1:=⟨n+k-1,by omega⟩;rw[show n+(k+1)=m+2 by omega];simp only[fstL];rw[hm]at ih;rw[Nat.pow_succ,<-Nat.mul_assoc];split at ih
  ·rename_i hk;subst hk;have:n=m+1:=by omega
   subst this;simp at ih |-;omega
  omega
theorem aaz (l:List Nat) {n:Nat} (h1:1<=n) (h2:n<=15):(fstL l n+bG l n)*2^(15-n)<=dp l:=by
 have:=tr l n (15-n) h1;rw[show n+(15-n)=15 by omega]at this;unfold dp;split at this
 ·have:n=15:=by omega
  subst this;omega
 omega
theorem tZ {l:List Nat} (h:dp l<=32768) {n:Nat} (h1:1<=n) (h2:n<=15):fstL l n+bG l n<=2^n:=by
 have h3:=aaz l h1 h2;have h4:(2:Nat)^n*2^(15-n)=32768:=by rw[<-Nat.pow_add,show n+(15-n)=15 by omega]
 refine Nat.le_of_mul_le_mul_right (c:=2^(15-n)) ?_ (Nat.pow_pos (by decide));omega
theorem dS {α:Type} (l:List α) {k:Nat} (d:α) (h:k<l.length):l.take (k+1)=l.take k++[l.getD k d]:=by
 rw[List.take_add_one,List.getD_eq_getElem?_getD,List.getElem?_eq_getElem h];rfl
theorem Bm (l:List Nat) (k n:Nat):bG (l.take k) n<=bG l n:=by
 unfold bG;exact List.Sublist.countP_le (List.take_sublist k l)
theorem ri (l:List Nat) {s:Nat} (h:s<l.length):gj l s<bG l (l.getD s 0):=by
 have h1:=dS l 0 h;have h2:=Bm l (s+1) (l.getD s 0);rw[h1,qa,if_pos rfl]at h2;unfold gj;omega
theorem Bx {l:List Nat} (hc:dp l<=32768) {s:Nat} (h:s<l.length) (h1:1<=l.getD s 0) (h2:l.getD s 0<=15):cz l s<2^l.getD s 0:=by
 have:=tZ hc h1 h2;have:=ri l h;unfold cz;omega
theorem Cu (p:Nat->Bool):∀(N k:Nat),k<((List.range N).filter p).length->∃s,((List.range N).filter p).getD k 0=s/\s<N/\p s=true/\((List.range s).filter p).length=k
 | 0,k,h=>by simp at h
 | N+1,k,h=>by
  rw[List.range_succ,List.filter_append]at h |-;by_cases hk:k<((List.range N).filter p).length
  ·obtain⟨s,h1,h2,h3,h4⟩:=Cu p N k hk;refine⟨s,?_,by omega,h3,h4⟩;rw[<-h1,List.getD_eq_getElem?_getD,List.getD_eq_getElem?_getD,List.getElem?_append_left hk]
  ·cases hp:p N with
   | false=>simp[hp]at h;omega
   | true=>
    simp[hp]at h;have:k=((List.range N).filter p).length:=by omega
    refine⟨N,?_,by omega,hp,this.symm⟩;rw[List.getD_eq_getElem?_getD,List.getElem?_append_right (by omega),this];simp[hp]
theorem p9 (l:List Nat) (n:Nat):∀k,k<=l.length->bG (l.take k) n=((List.range k).filter λs=>l.getD s 0==n).length
 | 0,_=>by simp[bG]
 | k+1,h=>by
  rw[dS l 0 h,qa,p9 l n k (by omega),List.range_succ,List.filter_append,List.length_append];by_cases h1:l.getD k 0=n
  ·rw[if_pos h1];simp[-List.getD_eq_getElem?_getD,h1]
  ·rw[if_neg h1];simp[-List.getD_eq_getElem?_getD,h1]
theorem Gs (l:List Nat) (n:Nat):(vl l n).length=bG l n:=by
 have:=p9 l n l.length (Nat.le_refl _);rw[List.take_length]at this;rw[this];rfl
theorem aap (l:List Nat) (n k:Nat) (h:k<bG l n):∃s,(vl l n).getD k 0=s/\s<l.length/\l.getD s 0=n/\gj l s=k:=by
 rw[<-Gs]at h;obtain⟨s,h1,h2,h3,h4⟩:=Cu (λs=>l.getD s 0==n) l.length k h;have h3':l.getD s 0=n:=by simpa[-List.getD_eq_getElem?_getD]using h3
 refine⟨s,h1,h2,h3',?_⟩;unfold gj;rw[h3',p9 l n s (by omega),h4]
theorem mc (l:List Nat):∀n,(sortL l n).length=bh l (n+1)
 | 0=>rfl
 | n+1=>by
  simp only[sortL,List.length_append,mc l n,Gs,bh]
theorem Gf (l:List Nat) (n:Nat):∀m (k:Nat),k<(sortL l n).length->(sortL l (n+m)).getD k 0=(sortL l n).getD k 0
 | 0,k,h=>rfl
 | m+1,k,h=>by
  have ih:=Gf l n m k h
  have hl:(sortL l n).length<=(sortL l (n+m)).length:=by
   clear ih h
   induction m with
   | zero=>exact Nat.le_refl _
   | succ m ih=>rw[<-Nat.add_assoc];simp only[sortL,List.length_append];omega
  rw[<-Nat.add_assoc];simp only[sortL];rw[<-ih,List.getD_eq_getElem?_getD,List.getD_eq_getElem?_getD,List.getElem?_append_left (by omega)]
theorem va (l:List Nat) {N n k:Nat} (h1:1<=n) (h2:n<=N) (h:k<bG l n):∃s,(sortL l N).getD (bh l n+k) 0=s/\s<l.length/\l.getD s 0=n/\gj l s=k:=by
 obtain⟨s,h3,h4⟩:=aap l n k h;refine⟨s,?_,h4⟩;obtain⟨m,rfl⟩:∃m,n=m+1:=⟨n-1,by omega⟩;obtain⟨d,rfl⟩:∃d,N=m+1+d:=⟨N-(m+1),by omega⟩;rw[Gf l (m+1) d (bh l (m+1)+k) (by rw[mc];simp only[bh];omega)];simp only[sortL];rw[<-h3,List.getD_eq_getElem?_getD,List.getD_eq_getElem?_getD,List.getElem?_append_right (by rw[mc];omega),mc]
 congr 2;omega
theorem oW (l:List Nat) (n:Nat):∀m,bh l n<=bh l (n+m)
 | 0=>Nat.le_refl _
 | m+1=>by
  have:=oW l n m
  cases n with
  | zero=>simp[bh]
  | succ n=>rw[show n+1+(m+1)=(n+m)+2 by omega];simp only[bh];rw[show n+m+1=n+1+m by omega];omega
theorem uK (l:List Nat) (h:∀n∈l,n<=15):bh l 16=dQ l:=by
 have key:∀(l:List Nat) (n:Nat),bh l (n+1)=l.countP (λx=>decide (0<x/\x<=n)):=by
  intro l n
  induction n with
  | zero=>simp only[bh];symm;rw[List.countP_eq_zero];intro x _;simp;omega
  | succ n ih=>
   simp only[bh];rw[ih];unfold bG;clear ih
   induction l with
   | nil=>rfl
   | cons x l ih=>
    simp only[List.countP_cons,beq_iff_eq,decide_eq_true_eq];by_cases h1:x=n+1
    ·rw[if_neg (by omega),if_pos h1,if_pos (by omega)];omega
    ·by_cases h2:0<x/\x<=n
     ·rw[if_pos h2,if_neg h1,if_pos (by omega)];omega
     ·rw[if_neg h2,if_neg h1,if_neg (by omega)];omega
 rw[key];unfold dQ;refine List.countP_congr λx hx=>?_;have:=h x hx;simp;omega
def eK (b c:List Bool):Bool:=!c.isEmpty&&c.isPrefixOf b
def readL (cs:List (List Bool)) (b:List Bool):Nat×Nat×Nat:=
 match cs.findIdx? (eK b)with
 | some s=>(s,(cs.getD s []).length,0)
 | none=>if cs.all (·.isEmpty)then(0,0,3)else if cs.any (λc=>decide (b.length<c.length)&&b.isPrefixOf c)then(0,0,6)else(0,0,3)
theorem lF (l:List Nat) (s:Nat):(aK l s).length=l.getD s 0:=by
 unfold aK;split
 ·rename_i h;rw[h];rfl
 exact wq _ _
theorem Bo (l:List Nat) {s:Nat} (h:s<l.length):(bH l).getD s []=aK l s:=by
 unfold bH;rw[List.getD_eq_getElem?_getD,List.getElem?_map,List.getElem?_range h];rfl
theorem lS {l:List Nat} (hc:dp l<=32768) (hl:∀n∈l,n<=15) (b:List Bool) {s:Nat} (h:s<l.length) :
    eK b (aK l s)=true↔1<=l.getD s 0/\l.getD s 0<=b.length/\msb (b.take (l.getD s 0))=cz l s:=by
 have h15:l.getD s 0<=15:=by
  have:l.getD s 0∈l:=by rw[List.getD_eq_getElem?_getD,List.getElem?_eq_getElem h];exact List.getElem_mem h
  exact hl _ this
 have hlen:=lF l s;unfold eK;by_cases h0:l.getD s 0=0
 ·have:aK l s=[]:=by unfold aK;rw[if_pos h0]
  rw[this];simp[-List.getD_eq_getElem?_getD];omega
 ·have hcw:=Bx hc h (by omega) h15;have hcd:aK l s=bitsM (cz l s) (l.getD s 0):=by unfold aK;rw[if_neg h0]
  have hne:(aK l s).isEmpty=false:=by
   cases hh:aK l s with
   | nil=>rw[hh]at hlen;simp[-List.getD_eq_getElem?_getD]at hlen;omega
   | cons=>rfl
  rw[hne];simp only[Bool.not_false,Bool.true_and,List.isPrefixOf_iff_prefix];constructor
  ·intro hp;have h1:=hp.length_le;rw[hlen]at h1;have h2:=List.prefix_iff_eq_take.1 hp;rw[hlen]at h2;refine⟨by omega,h1,?_⟩;rw[<-h2,hcd,D4 _ _ hcw]
  ·rintro⟨_,h1,h2⟩;refine List.prefix_iff_eq_take.2 ?_;rw[hlen,hcd,<-h2];have:=AD (b.take (l.getD s 0));rw[List.length_take,Nat.min_eq_left h1]at this;exact this
def nN (l:List Nat) (b:List Bool) (n:Nat):Prop:=∀s,s<l.length->1<=l.getD s 0->l.getD s 0<n->eK b (aK l s)=false
theorem xj {l:List Nat} {b:List Bool} (h:∀s,s<l.length->eK b (aK l s)=false):(bH l).findIdx? (eK b)=none:=by
 rw[List.findIdx?_eq_none_iff];intro c hc;obtain⟨s,hs,rfl⟩:=List.mem_map.1 hc;exact h s (List.mem_range.1 hs)
theorem Cw {l:List Nat} {b:List Bool} {s:Nat} (hs:s<l.length) (h1:eK b (aK l s)=true) (h2:∀t,t<l.length->eK b (aK l t)=true->t=s):(bH l).findIdx? (eK b)=some s:=by
 rw[List.findIdx?_eq_some_iff_getElem];refine⟨by simpa[bH]using hs,by simpa[bH]using h1,λj hj hh=>?_⟩;have hjl:j<l.length:=by omega
 have:=h2 j hjl (by simpa[bH]using hh);omega
theorem xG {l:List Nat} {b:List Bool} {s:Nat} (h0:l.getD s 0=0):eK b (aK l s)=false:=by
 unfold aK;rw[if_pos h0];rfl
section
variable {l:List Nat} (hc:dp l<=32768) (hl:∀n∈l,n<=15) {b:List Bool} {n:Nat}
include hl in
theorem nf (s:Nat):l.getD s 0<=15:=by
 by_cases h:s<l.length
 ·refine hl _ ?_;rw[List.getD_eq_getElem?_getD,List.getElem?_eq_getElem h];exact List.getElem_mem h
 ·rw[List.getD_eq_getElem?_getD,List.getElem?_eq_none (by omega)];exact Nat.zero_le _
theorem Uf (h0:n<b.length) (hj:fstL l (n+1)<=2*msb (b.take n)):fstL l (n+1)<=msb (b.take (n+1)):=by
 rw[yh b n h0];omega
include hc hl in
theorem Ui (h1:n<15) (h0:n<b.length) (hn:nN l b (n+1)) (hj:fstL l (n+1)<=2*msb (b.take n)) {k:Nat} (hk:msb (b.take (n+1))=fstL l (n+1)+k) (hk2:k<bG l (n+1)) :
    ∃s,(sortL l 15).getD (bh l (n+1)+k) 0=s/\s<l.length/\readL (bH l) b=(s,n+1,0):=by
 obtain⟨s,g1,g2,g3,g4⟩:=va l (N:=15) (n:=n+1) (by omega) (by omega) hk2;refine⟨s,g1,g2,?_⟩;have hit:eK b (aK l s)=true:=(lS hc hl b g2).2 ⟨by omega,by omega,by rw[g3,hk];unfold cz;rw[g3,g4]⟩
 have hone:=Cw g2 hit (λt ht hh=>by
  obtain⟨e1,e2,e3⟩:=(lS hc hl b ht).1 hh;by_cases q1:l.getD t 0<n+1
  ·rw[hn t ht e1 q1]at hh;cases hh
  ·by_cases q2:l.getD t 0=n+1
   ·rw[q2,hk]at e3;have hr:gj l t=k:=by unfold cz at e3;rw[q2]at e3;omega
    have ht':((List.range l.length).filter λs=>l.getD s 0==n+1).length=((List.range l.length).filter λs=>l.getD s 0==n+1).length:=rfl;unfold gj at hr g4;rw[q2,p9 l (n+1) t (by omega)]at hr;rw[g3,p9 l (n+1) s (by omega)]at g4
    have key:∀x y,x<y->l.getD x 0=n+1->((List.range x).filter λs=>l.getD s 0==n+1).length<((List.range y).filter λs=>l.getD s 0==n+1).length:=by
     intro x y hxy hx;obtain⟨d,rfl⟩:∃d,y=x+1+d:=⟨y-(x+1),by omega⟩;have hs:List.Sublist (List.range (x+1)) (List.range (x+1+d)):=List.range_sublist.2 (by omega);have:=(hs.filter (λs=>l.getD s 0==n+1)).length_le;rw[List.range_succ,List.filter_append,List.length_append]at this;simp only[List.filter_cons,hx,beq_self_eq_true,if_true,List.filter_nil,List.length_singleton]at this;omega
    rcases Nat.lt_trichotomy t s with q | q | q
    ·have:=key t s q q2;omega
    exact q
    ·have:=key s t q g3;omega
   ·exfalso
    obtain⟨d,hd⟩:∃d,l.getD t 0=(n+1)+(d+1):=⟨l.getD t 0-(n+2),by omega⟩;rw[hd]at e2 e3;have h5:=(yi b (n+1) (d+1) (by omega)).2;have h6:=tr l (n+1) (d+1) (by omega);rw[if_neg (by omega),Nat.add_zero]at h6;rw[e3]at h5;have h7:fstL l (n+1+(d+1))<=cz l t:=by unfold cz;rw[hd];omega
    have h8:(msb (b.take (n+1))+1)*2^(d+1)<=(fstL l (n+1)+bG l (n+1))*2^(d+1):=Nat.mul_le_mul_right _ (by omega)
    omega)
 unfold readL;rw[hone];simp only;rw[Bo l g2,lF,g3]
include hc hl in
theorem Ug (h1:n<15) (h0:n<b.length) (hn:nN l b (n+1)) (hk:fstL l (n+1)+bG l (n+1)<=msb (b.take (n+1))) :
    nN l b (n+2)/\fstL l (n+2)<=2*msb (b.take (n+1)):=by
 refine⟨λs hs e1 e2=>?_,by simp only[fstL];omega⟩;by_cases q:l.getD s 0<n+1;exact hn s hs e1 q
 ·have e3:l.getD s 0=n+1:=by omega
  cases hh:eK b (aK l s)with
  | false=>rfl
  | true=>
   obtain⟨_,_,e4⟩:=(lS hc hl b hs).1 hh;have:=ri l hs;unfold cz at e4;rw[e3]at e4 this;omega
theorem W5 (hp:bh l (n+1)=dQ l) (hl:∀n∈l,n<=15) (hn:n<=15) {s:Nat} (hs:s<l.length) (h1:1<=l.getD s 0):l.getD s 0<=n:=by
 refine Nat.le_of_not_lt λhlt=>?_;have h2:=uK l hl;have h15:l.getD s 0<=15:=nf hl s;have h3:=ri l hs;obtain⟨m,hm⟩:∃m,l.getD s 0=m+1:=⟨l.getD s 0-1,by omega⟩;have h4:=oW l (m+2) (16-(m+2));rw[show m+2+(16-(m+2))=16 by omega]at h4;have h5:=oW l (n+1) (m+1-(n+1));rw[show n+1+(m+1-(n+1))=m+1 by omega]at h5;have h6:bh l (m+1)+bG l (m+1)<=bh l 16:=h4;rw[hm]at h3;omega
theorem all_empty (h:0<dQ l):(bH l).all (·.isEmpty)=false:=by
 unfold dQ at h;obtain⟨x,hx,h1⟩:=List.countP_pos_iff.1 h;obtain⟨s,hs,rfl⟩:=List.getElem_of_mem hx;rw[List.all_eq_false];refine⟨aK l s,List.mem_map.2 ⟨s,List.mem_range.2 hs,rfl⟩,?_⟩;have:=lF l s;rw[List.getD_eq_getElem?_getD,List.getElem?_eq_getElem hs]at this;simp at h1 this
 cases hh:aK l s with
 | nil=>rw[hh]at this;simp at this;omega
 | cons=>simp
include hl in
theorem Uh (h0:n<=b.length) (h15:n<=15) (hp:bh l (n+1)=dQ l) (hpos:0<dQ l) (hn:nN l b (n+1)):readL (bH l) b=(0,0,3):=by
 unfold readL;have hlv:∀s,s<l.length->1<=l.getD s 0->l.getD s 0<=n:=λs hs h1=>W5 hp hl h15 hs h1
 rw[xj (λs hs=>by
  by_cases h1:1<=l.getD s 0;exact hn s hs h1 (by have:=hlv s hs h1;omega)
  ·exact xG (by omega))]
 simp only;rw[all_empty hpos,if_neg (by simp),if_neg];simp only[List.any_eq_true,Bool.and_eq_true,decide_eq_true_eq];rintro⟨c,h1,h2,_⟩;obtain⟨s,hs,rfl⟩:=List.mem_map.1 h1;rw[lF]at h2;have:=hlv s (List.mem_range.1 hs) (by omega);omega
include hl in
theorem Ue (hck:bw l=true) (h15:b.length<15) (hp:bh l (b.length+1)<dQ l) (hn:nN l b (b.length+1)) (hj:fstL l (b.length+1)<=2*msb b):readL (bH l) b=(0,0,6):=by
 have hpos:0<dQ l:=by omega
 have hc:dp l<=32768:=by unfold bw at hck;simp at hck;exact hck.1
 unfold readL
 rw[xj (λs hs=>by
  by_cases h1:1<=l.getD s 0
  ·by_cases h2:l.getD s 0<b.length+1;exact hn s hs h1 h2
   ·cases hh:eK b (aK l s)with
    | false=>rfl
    | true=>have:=((lS hc hl b hs).1 hh).2.1;omega
  ·exact xG (by omega))]
 simp only;rw[all_empty hpos,if_neg (by simp),if_pos];simp only[List.any_eq_true,Bool.and_eq_true,decide_eq_true_eq,List.isPrefixOf_iff_prefix]
 have found:∀m k s,m=b.length+1+k->m<=15->s<l.length->l.getD s 0=m->cz l s=msb b*2^(k+1)->∃x,x∈bH l/\b.length<x.length/\b <+: x:=by
  intro m k s hm hm15 hs hls hcw;refine⟨aK l s,List.mem_map.2 ⟨s,List.mem_range.2 hs,rfl⟩,by rw[lF];omega,?_⟩;have hcd:aK l s=bitsM (cz l s) (l.getD s 0):=by unfold aK;rw[if_neg (by omega)]
  rw[hcd,hls,hcw,hm]
  have hb:∀k,bitsM (msb b*2^k) (b.length+k)=b++List.replicate k false:=by
   intro k
   induction k with
   | zero=>simp[AD]
   | succ k ih=>
    show bitsM _ ((b.length+k)+1)=_
    unfold bitsM;rw[show msb b*2^(k+1)/2=msb b*2^k by rw[Nat.pow_succ,<-Nat.mul_assoc];omega,ih,show(msb b*2^(k+1)%2==1)=false by rw[Nat.pow_succ,<-Nat.mul_assoc];simp,List.append_assoc,<-List.replicate_succ']
  rw[show b.length+1+k=b.length+(k+1)by omega,hb];exact List.prefix_append _ _
 unfold bw at hck;simp only[Bool.and_eq_true,Bool.or_eq_true,decide_eq_true_eq]at hck;rcases hck.2 with(h32 | h0) | ⟨h1,h2⟩
 ·-- complete: some interval holds these bits
  have hlt:=D5 b
  have base:fstL l (b.length+1)*2^(14-b.length)<=msb b*2^(15-b.length):=by
   have h3:(2:Nat)^(15-b.length)=2*2^(14-b.length):=by rw[show 15-b.length=(14-b.length)+1 by omega,Nat.pow_succ];omega
   rw[h3,<-Nat.mul_assoc,Nat.mul_comm (msb b) 2];exact Nat.mul_le_mul_right _ hj
  have go:∀d m,m+d=15->b.length<m->fstL l m*2^(15-m)<=msb b*2^(15-b.length)->∃m',m<=m'/\m'<=15/\fstL l m'*2^(15-m')<=msb b*2^(15-b.length)/\msb b*2^(15-b.length)<(fstL l m'+bG l m')*2^(15-m'):=by
   intro d
   induction d with
   | zero=>
    intro m h3 h4 h5;have:m=15:=by omega
    subst this;refine⟨15,Nat.le_refl _,Nat.le_refl _,h5,?_⟩;have h6:msb b*2^(15-b.length)<2^b.length*2^(15-b.length):=Nat.mul_lt_mul_of_pos_right hlt (Nat.pow_pos (by decide));rw[<-Nat.pow_add,show b.length+(15-b.length)=15 by omega]at h6;unfold dp at h32;rw[h32]
    simpa using h6
   | succ d ih=>
    intro m h3 h4 h5;by_cases h6:msb b*2^(15-b.length)<(fstL l m+bG l m)*2^(15-m);exact⟨m,Nat.le_refl _,by omega,h5,h6⟩
    ·obtain⟨q,rfl⟩:∃q,m=q+1:=⟨m-1,by omega⟩
     obtain⟨m',e1,e2,e3⟩:=ih (q+2) (by omega) (by omega) (by
      simp only[fstL];have h7:(2:Nat)^(15-(q+1))=2*2^(15-(q+2)):=by rw[show 15-(q+1)=(15-(q+2))+1 by omega,Nat.pow_succ];omega
      rw[h7,<-Nat.mul_assoc,Nat.mul_comm _ 2]at h6
      omega)
     exact⟨m',by omega,e2,e3⟩
  obtain⟨m,e1,e2,e3,e4⟩:=go (14-b.length) (b.length+1) (by omega) (by omega) (by rw[show 15-(b.length+1)=14-b.length by omega];exact base);obtain⟨k,rfl⟩:∃k,m=b.length+1+k:=⟨m-(b.length+1),by omega⟩;have h5:(2:Nat)^(15-b.length)=2^(k+1)*2^(15-(b.length+1+k)):=by rw[<-Nat.pow_add];congr 1;omega
  rw[h5,<-Nat.mul_assoc]at e3 e4;have e5:=Nat.le_of_mul_le_mul_right e3 (Nat.pow_pos (by decide));have e6:=Nat.lt_of_mul_lt_mul_right e4;obtain⟨s,_,g2,g3,g4⟩:=va l (N:=15) (n:=b.length+1+k) (k:=msb b*2^(k+1)-fstL l (b.length+1+k)) (by omega) e2 (by omega);exact found _ k s rfl e2 g2 g3 (by unfold cz;rw[g3,g4];omega)
 omega
 ·-- one code of one bit
  have hb0:b.length=0:=by
   refine Nat.eq_zero_of_not_pos λhb=>?_;have h3:=oW l 2 (b.length+1-2);rw[show 2+(b.length+1-2)=b.length+1 by omega]at h3;have h4:0+bG l 1<=bh l (b.length+1):=h3;omega
  have hbn:=List.length_eq_zero_iff.1 hb0;subst hbn;obtain⟨s,_,g2,g3,g4⟩:=va l (N:=15) (n:=1) (k:=0) (by omega) (by omega) (by omega);refine found 1 0 s rfl (by omega) g2 g3 ?_;unfold cz;rw[g3,g4];simp[fstL,msb]
end
def ir (s:Bs) (i:Nat):Bool:=(s.getD (i/8) 0).toNat.testBit (i%8)
def numAt (s:Bs) (p:Nat):Nat->Nat
 | 0=>0
 | n+1=>numAt s p n+(if ir s (p+n)then 2^n else 0)
def aX (s:Bs) (p:Nat):List Bool:=(List.range (8*s.length-p)).map λi=>ir s (p+i)
theorem iB (s:Bs) (p:Nat):∀n,numAt s p n<2^n
 | 0=>by simp[numAt]
 | n+1=>by
  have:=iB s p n;simp only[numAt];rw[Nat.pow_succ];split<;>omega
theorem num_add (s:Bs) (p m:Nat):∀n,numAt s p (m+n)=numAt s p m+2^m*numAt s (p+m) n
 | 0=>by simp[numAt]
 | n+1=>by
  rw[<-Nat.add_assoc];simp only[numAt];rw[num_add s p m n,Nat.add_assoc p m n,Nat.mul_add];split
  ·rw[Nat.pow_add];omega
  omega
theorem nr (s:Bs) (p:Nat) {m n:Nat} (h:m<=n):numAt s p n%2^m=numAt s p m:=by
 obtain⟨d,rfl⟩:∃d,n=m+d:=⟨n-m,by omega⟩;rw[num_add,Nat.add_mul_mod_self_left,Nat.mod_eq_of_lt (iB s p m)]
theorem nq (s:Bs) (p:Nat) {m n:Nat} (h:m<=n):numAt s p n/2^m=numAt s (p+m) (n-m):=by
 obtain⟨d,rfl⟩:∃d,n=m+d:=⟨n-m,by omega⟩;rw[num_add,Nat.add_mul_div_left _ _ (Nat.pow_pos (by decide)),Nat.div_eq_of_lt (iB s p m),Nat.zero_add,Nat.add_sub_cancel_left]
theorem Gq (x:Nat):∀n,x%2^(n+1)=x%2^n+(if x.testBit n then 2^n else 0):=by
 intro n;rw[Nat.pow_succ,Nat.mod_mul,Nat.testBit_eq_decide_div_mod_eq];rcases Nat.mod_two_eq_zero_or_one (x/2^n)with h | h<;>simp[h]
theorem kW (s:Bs) (a:Nat):numAt s (8*a) 8=(s.getD a 0).toNat:=by
 have key:∀n,n<=8->numAt s (8*a) n=(s.getD a 0).toNat%2^n:=by
  intro n
  induction n with
  | zero=>intro _;simp[numAt,Nat.mod_one]
  | succ n ih=>
   intro h;simp only[numAt];rw[ih (by omega),Gq];unfold ir;rw[show(8*a+n)/8=a by omega,show(8*a+n)%8=n by omega]
 rw[key 8 (Nat.le_refl _),Nat.mod_eq_of_lt (by have:=(s.getD a 0).toNat_lt;omega)]
theorem Vs (s:Bs) (a n:Nat) (h:n<=8*a):numAt s (8*a-n) (n+8)=numAt s (8*a-n) n+(s.getD a 0).toNat*2^n:=by
 rw[num_add,show 8*a-n+n=8*a by omega,kW,Nat.mul_comm (2^n)]
theorem Ew (s:Bs) (p m n:Nat):numAt s p (m+n)=numAt s p m+numAt s (p+m) n*2^m:=by rw[num_add,Nat.mul_comm (2^m)]
theorem Vt (s:Bs) (p:Nat):numAt s p 1=(ir s p).toNat:=by
 simp only[numAt,Nat.add_zero];cases ir s p<;>rfl
theorem lg (s:Bs) (p:Nat):(aX s p).length=8*s.length-p:=by simp[aX]
theorem Fv (s:Bs) (p:Nat) {n:Nat} (h:p+n<8*s.length):(aX s p).getD n false=ir s (p+n):=by
 unfold aX;rw[List.getD_eq_getElem?_getD,List.getElem?_map,List.getElem?_range (by omega)];rfl
theorem AB (s:Bs) (a i:Nat):ir (s.drop a) i=ir s (8*a+i):=by
 unfold ir;rw[List.getD_eq_getElem?_getD,List.getElem?_drop,<-List.getD_eq_getElem?_getD,show(8*a+i)/8=a+i/8 by omega,show(8*a+i)%8=i%8 by omega]
theorem uv (s:Bs) (a p:Nat):∀n,numAt (s.drop a) p n=numAt s (8*a+p) n
 | 0=>rfl
 | n+1=>by
  simp only[numAt];rw[uv s a p n,AB,Nat.add_assoc]
theorem yP (s:Bs) (a p:Nat):aX (s.drop a) p=aX s (8*a+p):=by
 unfold aX;rw[List.length_drop,show 8*(s.length-a)-p=8*s.length-(8*a+p)by omega]
 congr 1
 funext i
 rw[AB,Nat.add_assoc]
end Go.Proofs.YtgghhaahnpbnmaaGreatDoor.Pk
namespace Go.Proofs.YtgghhaahnpbnmaaGreatDoor.Pk
structure SS where
 p:Nat
 out:Bs
 err:Nat
def fU (e:Nat) (S:SS):SS:=if S.err=0 then {S with err:=e} else S
def bI (t:Bs) (n:Nat) (S:SS):Nat×SS:=
 if S.err≠0 then(0,S)else if 8*t.length<S.p+n then(0,{S with err:=6})else(numAt t S.p n,{S with p:=S.p+n})
def bO (t:Bs) (l:List Nat) (S:SS):Nat×SS:=
 if S.err≠0 then(0,S)else if(readL (bH l) (aX t S.p)).2.2≠0 then(0,{S with err:=(readL (bH l) (aX t S.p)).2.2})
  else((readL (bH l) (aX t S.p)).1,{S with p:=S.p+(readL (bH l) (aX t S.p)).2.1})
def fw (most:Nat) (c:UInt8) (S:SS):SS:=if S.err≠0 then S else if most<=S.out.length then {S with err:=2} else {S with out:=S.out++[c]}
def rawS (t:Bs) (most:Nat):Nat->SS->SS
 | 0,S=>S
 | n+1,S=>if S.err≠0 then S else rawS t most n (fw most (UInt8.ofNat (bI t 8 S).1) (bI t 8 S).2)
def mh (S:SS):SS:={S with p:=(S.p+7)/8*8}
def gm (t:Bs) (most:Nat) (S:SS):SS:=
 let a:=bI t 16 (mh S)
 let b:=bI t 16 a.2
 rawS t most a.1 (if a.1+b.1≠65535 then fU 3 b.2 else b.2)
def iG:List Nat:=[16,17,18,0,8,7,9,6,10,5,11,4,12,3,13,2,14,1,15]
def firstS (t:Bs) (nc:Nat):Nat->List Nat->SS->List Nat×SS
 | 0,l,S=>(l,S)
 | k+1,l,S=>if S.err≠0 then(l,S)else firstS t nc k (l.set (iG.getD (nc-(k+1)) 0) (bI t 3 S).1) (bI t 3 S).2
def eo (t:Bs) (l:List Nat) (s:Nat) (S:SS):Nat×Nat×SS:=
 if s=16 then(if l=[]then(0,0,fU 3 S)else(3+(bI t 2 S).1,l.getD (l.length-1) 0,(bI t 2 S).2))
 else if s=17 then(3+(bI t 3 S).1,0,(bI t 3 S).2)
 else if s=18 then(11+(bI t 7 S).1,0,(bI t 7 S).2)
 else(1,s,S)
def dZ (N:Nat) (l:List Nat) (b:Nat×Nat×SS):SS:=if N<l.length+b.1 then fU 3 b.2.2 else b.2.2
def jB (t:Bs) (fl:List Nat) (N:Nat):Nat->List Nat->SS->List Nat×SS
 | 0,l,S=>(l,S)
 | k+1,l,S=>
  if N<=l.length\/S.err≠0 then(l,S)else
   let a:=bO t fl S
   let b:=eo t l a.1 a.2
   let c:=dZ N l b
   if c.err≠0 then(l,c)else jB t fl N k (l++List.replicate b.1 b.2.1) c
def fD (t:Bs) (S:SS):(List Nat×List Nat)×SS:=
 if 8*t.length<S.p+14 then(([],[]),{S with err:=6})else
 let nl:=numAt t S.p 5+257
 let nd:=numAt t (S.p+5) 5+1
 let nc:=numAt t (S.p+10) 4+4
 if 286<nl\/30<nd then(([],[]),{S with p:=S.p+14,err:=3})else
 let a:=firstS t nc nc (List.replicate 19 0) {S with p:=S.p+14}
 if a.2.err≠0 then(([],[]),a.2)else if bw a.1=false then(([],[]),{a.2 with err:=3})else
 let b:=jB t a.1 (nl+nd) (nl+nd) [] a.2
 if b.2.err≠0 then(([],[]),b.2)else
 if b.1.getD 256 0=0\/bw (b.1.take nl)=false\/bw (b.1.drop nl)=false then(([],[]),{b.2 with err:=3})else((b.1.take nl,b.1.drop nl),b.2)
def ba:List Nat:=List.replicate 144 8++List.replicate 112 9++List.replicate 24 7++List.replicate 8 8
def bU:List Nat:=List.replicate 32 5
def bx (i:Nat):Nat×Nat:=if i=28 then(258,0)else if i<8 then(3+i,0)else(3+(4+i%4)*2^(i/4-1),i/4-1)
def bT (i:Nat):Nat×Nat:=if i<4 then(1+i,0)else(1+(2+i%2)*2^(i/2-1),i/2-1)
def backS (most:Nat) (back:Nat):Nat->SS->SS
 | 0,S=>S
 | n+1,S=>if S.err≠0 then S else backS most back n (fw most (S.out.getD (S.out.length-back) 0) S)
def ja (t:Bs) (most:Nat) (d:List Nat) (s:Nat) (S:SS):SS:=
 if 285<s then fU 3 S else
 let a:=bI t (bx (s-257)).2 S
 let k:=bO t d a.2
 if k.2.err≠0 then k.2 else if 29<k.1 then fU 3 k.2 else
 let b:=bI t (bT k.1).2 k.2
 let back:=(bT k.1).1+b.1
 if b.2.err≠0 then b.2 else if b.2.out.length<back then fU 3 b.2 else backS most back ((bx (s-257)).1+a.1) b.2
def ee (t:Bs) (most:Nat) (l d:List Nat) (S:SS):Bool×SS:=
 let a:=bO t l S
 if a.2.err≠0 then(true,a.2)else if a.1=256 then(true,a.2)else if a.1<256 then(false,fw most (UInt8.ofNat a.1) a.2)else(false,ja t most d a.1 a.2)
def nt (t:Bs) (most:Nat) (l d:List Nat):Nat->SS->SS
 | 0,S=>S
 | k+1,S=>if S.err≠0 then S else if(ee t most l d S).1 then(ee t most l d S).2 else nt t most l d k (ee t most l d S).2
def gh (t:Bs) (most:Nat) (l d:List Nat) (S:SS):SS:=nt t most l d (8*t.length+1-S.p) S
def fg (t:Bs) (most:Nat) (S:SS):Bool×SS:=
 if 8*t.length<S.p+3 then(true,{S with err:=6})else
 let S3:={S with p:=S.p+3}
 (numAt t S.p 1=1,if numAt t (S.p+1) 2=0 then gm t most S3 else if numAt t (S.p+1) 2=1 then gh t most ba bU S3
  else if numAt t (S.p+1) 2=2 then(if(fD t S3).2.err≠0 then(fD t S3).2 else gh t most (fD t S3).1.1 (fD t S3).1.2 (fD t S3).2)else {S3 with err:=3})
def o6 (t:Bs) (most:Nat):Nat->SS->SS
 | 0,S=>S
 | k+1,S=>if(fg t most S).2.err≠0\/(fg t most S).1=true then(fg t most S).2 else o6 t most k (fg t most S).2
def gK (t:Bs) (most:Nat) (S:SS):SS:=o6 t most (8*t.length+1-S.p) S
def fq (t:Bs) (most:Nat):Bs×Nat×Nat:=
 let S:=gK t most ⟨0,[],0⟩
 if S.err≠0 then([],0,S.err)else(S.out,(S.p+7)/8,0)
structure Mv (t:Bs) (most:Nat) (S S':SS):Prop where
 p:S.p<=S'.p
 q:S.p<=8*t.length->S'.p<=8*t.length
 o:S.out.length<=most->S'.out.length<=most
section
variable {t:Bs} {most:Nat} {S:SS}
theorem Mv.refl:Mv t most S S:=⟨Nat.le_refl _,λh=>h,λh=>h⟩
theorem Mv.trans {S1 S2:SS} (h:Mv t most S S1) (k:Mv t most S1 S2):Mv t most S S2:=⟨Nat.le_trans h.p k.p,λg=>k.q (h.q g),λg=>k.o (h.o g)⟩
theorem j5 {e:Nat}:Mv t most S {S with err:=e}:=⟨Nat.le_refl _,λh=>h,λh=>h⟩
theorem oL {e:Nat}:Mv t most S (fU e S):=by unfold fU;split;exact j5;exact .refl
theorem Cn {e:Nat} (h:e≠0):(fU e S).err≠0:=by unfold fU;split;exact h;assumption
theorem mP {e:Nat} (h:S.err=0):fU e S={S with err:=e}:=if_pos h
theorem Vr {n:Nat} (h:S.err≠0):bI t n S=(0,S):=if_pos h
theorem ns {n:Nat} (h:S.err=0) (h1:8*t.length<S.p+n):bI t n S=(0,{S with err:=6}):=by unfold bI;rw[if_neg (by simpa using h),if_pos h1]
theorem iC {n:Nat} (h:S.err=0) (h1:S.p+n<=8*t.length):bI t n S=(numAt t S.p n,{S with p:=S.p+n}):=by unfold bI;rw[if_neg (by simpa using h),if_neg (by omega)]
theorem jD {n:Nat}:Mv t most S (bI t n S).2:=by
 unfold bI;split;exact .refl
 ·split;exact j5;exact⟨by simp only;omega,λ_=>by simp only;omega,λh=>h⟩
theorem rb (cs:List (List Bool)) (b:List Bool) (h:(readL cs b).2.2=0):1<=(readL cs b).2.1/\(readL cs b).2.1<=b.length/\(readL cs b).1<cs.length:=by
 unfold readL at h |-;split at h
 ·rename_i s hs;simp only;obtain⟨h1,h2,_⟩:=List.findIdx?_eq_some_iff_getElem.1 hs;have:cs.getD s []=cs[s]:=by rw[List.getD_eq_getElem?_getD,List.getElem?_eq_getElem h1];rfl
  rw[this];unfold eK at h2;simp only[Bool.and_eq_true,List.isPrefixOf_iff_prefix]at h2;refine⟨?_,h2.2.length_le,h1⟩
  cases hc:cs[s]with
  | nil=>rw[hc]at h2;simp at h2
  | cons=>simp
 ·split at h
  ·cases h
  ·split at h<;>cases h
theorem aak {l:List Nat} (h:S.err≠0):bO t l S=(0,S):=if_pos h
theorem vh {l:List Nat} (h:S.err=0) (h1:(readL (bH l) (aX t S.p)).2.2≠0):bO t l S=(0,{S with err:=(readL (bH l) (aX t S.p)).2.2}):=by unfold bO;rw[if_neg (by simpa using h),if_pos h1]
theorem rK {l:List Nat} (h:S.err=0) (h1:(readL (bH l) (aX t S.p)).2.2=0):bO t l S=((readL (bH l) (aX t S.p)).1,{S with p:=S.p+(readL (bH l) (aX t S.p)).2.1}):=by unfold bO;rw[if_neg (by simpa using h),if_neg (by simpa using h1)]
theorem oM {l:List Nat}:Mv t most S (bO t l S).2:=by
 unfold bO;split;exact .refl
 ·split;exact j5
  ·rename_i h;have:=rb (bH l) (aX t S.p) (by simpa using h);rw[lg]at this;exact⟨by simp only;omega,λ_=>by simp only;omega,λh=>h⟩
theorem aal {l:List Nat} (h:S.err=0) (h1:(bO t l S).2.err=0):S.p<(bO t l S).2.p/\(bO t l S).1<l.length:=by
 by_cases h2:(readL (bH l) (aX t S.p)).2.2=0
 ·have:=rb (bH l) (aX t S.p) h2;rw[rK h h2];have hl:(bH l).length=l.length:=by simp[bH]
  simp only;omega
 ·rw[vh h h2]at h1;exact(h2 h1).elim
theorem qO {c:UInt8}:Mv t most S (fw most c S):=by
 unfold fw;split;exact .refl
 ·split;exact j5;exact⟨Nat.le_refl _,λh=>h,λ_=>by simp;omega⟩
theorem Ed:∀(n:Nat) (S:SS),Mv t most S (rawS t most n S)
 | 0,_=>.refl
 | n+1,S=>by
  unfold rawS;split;exact .refl;exact jD.trans (qO.trans (Ed n _))
theorem US:Mv t most S (mh S):=⟨by simp only[mh];omega,λh=>by simp only[mh];omega,λh=>h⟩
theorem Ef:Mv t most S (gm t most S):=by
 unfold gm;have h1:Mv t most S (bI t 16 (bI t 16 (mh S)).2).2:=US.trans (jD.trans jD);refine h1.trans (Mv.trans ?_ (Ed _ _));split;exact oL;exact .refl
theorem Ea {nc:Nat}:∀(k:Nat) (l:List Nat) (S:SS),Mv t most S (firstS t nc k l S).2
 | 0,_,_=>.refl
 | k+1,l,S=>by
  unfold firstS;split;exact .refl;exact jD.trans (Ea k _ _)
theorem UR {l:List Nat} {s:Nat}:Mv t most S (eo t l s S).2.2:=by
 unfold eo;split
 ·split;exact oL;exact jD
 ·split;exact jD
  ·split;exact jD;exact .refl
theorem uq {fl:List Nat} {N:Nat}:∀(k:Nat) (l:List Nat) (S:SS),Mv t most S (jB t fl N k l S).2
 | 0,_,_=>.refl
 | k+1,l,S=>by
  have hc:Mv t most S (dZ N l (eo t l (bO t fl S).1 (bO t fl S).2)):=by
   have h1:Mv t most S (eo t l (bO t fl S).1 (bO t fl S).2).2.2:=oM.trans UR;refine h1.trans ?_;unfold dZ;split;exact oL;exact .refl
  unfold jB;split;exact .refl
  ·simp only;split;exact hc;exact hc.trans (uq k _ _)
theorem yj:Mv t most S (fD t S).2:=by
 unfold fD;split;exact j5
 ·rename_i h14;have h1:Mv t most S {S with p:=S.p+14}:=⟨by simp only;omega,λ_=>by simp only;omega,λh=>h⟩;simp only;split;exact h1.trans j5
  ·have h2:=h1.trans (Ea (nc:=numAt t (S.p+10) 4+4) (numAt t (S.p+10) 4+4) (List.replicate 19 0) {S with p:=S.p+14});split;exact h2
   ·split;exact h2.trans j5
    ·split;exact h2.trans (uq _ _ _)
     ·split;exact(h2.trans (uq _ _ _)).trans j5;exact h2.trans (uq _ _ _)
theorem D9 {back:Nat}:∀(n:Nat) (S:SS),Mv t most S (backS most back n S)
 | 0,_=>.refl
 | n+1,S=>by
  unfold backS;split;exact .refl;exact qO.trans (D9 n _)
theorem yl {d:List Nat} {s:Nat}:Mv t most S (ja t most d s S):=by
 unfold ja;split;exact oL
 ·have h1:Mv t most S (bO t d (bI t (bx (s-257)).2 S).2).2:=jD.trans oM;simp only;split;exact h1
  ·split;exact h1.trans oL
   ·split;exact h1.trans jD
    ·split;exact(h1.trans jD).trans oL;exact(h1.trans jD).trans (D9 _ _)
theorem qP {l d:List Nat}:Mv t most S (ee t most l d S).2:=by
 unfold ee;simp only;split;exact oM
 ·split;exact oM
  ·split;exact oM.trans qO;exact oM.trans yl
theorem ZW {l d:List Nat} (h:S.err=0) (h1:(ee t most l d S).2.err=0):S.p<(ee t most l d S).2.p:=by
 unfold ee at h1 |-;simp only at h1 |-;split at h1
 ·rename_i h2;exact(h2 h1).elim
 ·rename_i h2;have h3:=(aal h (by simpa using h2)).1;rw[if_neg h2];split at h1
  ·rename_i h4;rw[if_pos h4];exact h3
  ·rename_i h4;rw[if_neg h4];split;exact Nat.lt_of_lt_of_le h3 (qO (t:=t)).p;exact Nat.lt_of_lt_of_le h3 (yl).p
theorem yx {l d:List Nat}:∀(k:Nat),S.err≠0->nt t most l d k S=S
 | 0,_=>rfl
 | k+1,h=>if_pos h
theorem uD {l d:List Nat}:∀(k:Nat) (S:SS),S.p<=8*t.length->8*t.length+1-S.p<=k->nt t most l d k S=gh t most l d S
 | 0,S,h0,h=>by omega
 | k+1,S,h0,h=>by
  unfold gh;obtain⟨j,hj⟩:∃j,8*t.length+1-S.p=j+1:=⟨8*t.length-S.p,by omega⟩;rw[hj];unfold nt;split;rfl
  ·rename_i he;split;rfl
   ·by_cases h1:(ee t most l d S).2.err=0
    ·have h2:=ZW (l:=l) (d:=d) (most:=most) (by simpa using he) h1;have h3:=(qP (t:=t) (most:=most) (S:=S) (l:=l) (d:=d)).q h0;rw[uD k _ h3 (by omega),<-uD j _ h3 (by omega)]
    ·rw[yx k h1,yx j h1]
theorem uC {l d:List Nat} (h0:S.p<=8*t.length):gh t most l d S=if S.err≠0 then S else if(ee t most l d S).1 then(ee t most l d S).2 else gh t most l d (ee t most l d S).2:=by
 have h1:=uD (most:=most) (l:=l) (d:=d) (8*t.length+1-S.p+1) S h0 (by omega);rw[<-h1]
 show(if _ then _ else _)=_
 split;rfl
 ·rename_i he;split;rfl
  ·have h3:=(qP (t:=t) (most:=most) (S:=S) (l:=l) (d:=d)).q h0;have h4:=(qP (t:=t) (most:=most) (S:=S) (l:=l) (d:=d)).p;exact uD _ _ h3 (by omega)
theorem Ec {l d:List Nat}:∀(k:Nat) (S:SS),Mv t most S (nt t most l d k S)
 | 0,_=>.refl
 | k+1,S=>by
  unfold nt;split;exact .refl
  ·split;exact qP;exact qP.trans (Ec k _)
theorem Eb {l d:List Nat}:Mv t most S (gh t most l d S):=Ec _ _
theorem oK:Mv t most S (fg t most S).2/\((fg t most S).2.err=0->S.p<(fg t most S).2.p):=by
 unfold fg;split;exact⟨j5,λh=>by cases h⟩
 ·rename_i h3;have h1:Mv t most S {S with p:=S.p+3}:=⟨by simp only;omega,λ_=>by simp only;omega,λh=>h⟩;have go:∀S',Mv t most {S with p:=S.p+3} S'->Mv t most S S'/\(S'.err=0->S.p<S'.p):=λS' h=>⟨h1.trans h,λ_=>by have:=h.p;simp only at this;omega⟩;simp only;split;exact go _ Ef
  ·split;exact go _ Eb
   ·split
    ·split;exact go _ yj;exact go _ (yj.trans Eb)
    exact go _ j5
theorem uX:∀(k:Nat) (S:SS),S.p<=8*t.length->8*t.length+1-S.p<=k->o6 t most k S=gK t most S
 | 0,S,h0,h=>by omega
 | k+1,S,h0,h=>by
  unfold gK;obtain⟨j,hj⟩:∃j,8*t.length+1-S.p=j+1:=⟨8*t.length-S.p,by omega⟩;rw[hj];unfold o6;split;rfl
  ·rename_i he
   have h2:=(oK (t:=t) (most:=most) (S:=S)).2 (by
    refine Classical.byContradiction λh=>he (.inl h))
   have h3:=(oK (t:=t) (most:=most) (S:=S)).1.q h0;rw[uX k _ h3 (by omega),<-uX j _ h3 (by omega)]
theorem run_eq (h0:S.p<=8*t.length):gK t most S=if(fg t most S).2.err≠0\/(fg t most S).1=true then(fg t most S).2 else gK t most (fg t most S).2:=by
 have h1:=uX (most:=most) (8*t.length+1-S.p+1) S h0 (by omega);rw[<-h1]
 show(if _ then _ else _)=_
 split;rfl
 ·have h3:=(oK (t:=t) (most:=most) (S:=S)).1.q h0;have h4:=(oK (t:=t) (most:=most) (S:=S)).1.p;exact uX _ _ h3 (by omega)
end
end Go.Proofs.YtgghhaahnpbnmaaGreatDoor.Pk
