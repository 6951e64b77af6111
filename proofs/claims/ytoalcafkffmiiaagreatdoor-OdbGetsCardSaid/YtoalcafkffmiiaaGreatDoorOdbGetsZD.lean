/- The proof, part 30 of 43. -/

set_option linter.all false
namespace Go.Proofs.YtoalcafkffmiiaaGreatDoor.Pk
abbrev Bs:=List UInt8
def msb (b:List Bool):Nat:=b.foldl (λa c=>2*a+c.toNat) 0
def bitsM:Nat->Nat->List Bool
 | _,0=>[]
 | x,n+1=>bitsM (x/2) n++[x%2==1]
theorem tM (a:List Bool) (c:Bool):msb (a++[c])=2*msb a+c.toNat:=by simp[msb]
theorem vM:∀(n x:Nat),(bitsM x n).length=n
 | 0,_=>rfl
 | n+1,x=>by simp[bitsM,vM n]
theorem y0 {α:Type} {p:List α->Prop} (h0:p []) (h1:∀l x,p l->p (l++[x])) (l:List α):p l:=by
 have:∀n (l:List α),l.length=n->p l:=by
  intro n
  induction n with
  | zero=>intro l h;rw[List.length_eq_zero_iff.1 h];exact h0
  | succ n ih=>
   intro l h;have hne:l≠[]:=by intro e;rw[e]at h;cases h
   rw[<-List.dropLast_concat_getLast hne];exact h1 _ _ (ih _ (by simp[h]))
 exact this _ l rfl
theorem DX (b:List Bool):msb b<2^b.length:=by
 refine y0 (p:=λb=>msb b<2^b.length) (by simp[msb]) (λl c h=>?_) b;rw[tM,List.length_append,List.length_singleton,Nat.pow_succ];have:c.toNat<=1:=by cases c<;>decide
 omega
theorem Ax (b:List Bool):bitsM (msb b) b.length=b:=by
 refine y0 (p:=λb=>bitsM (msb b) b.length=b) rfl (λl c h=>?_) b;rw[tM,List.length_append]
 show bitsM _ (l.length+1)=_
 unfold bitsM;have h2:(2*msb l+c.toNat)/2=msb l:=by cases c<;>simp<;>omega
 have h3:((2*msb l+c.toNat)%2==1)=c:=by cases c<;>simp<;>omega
 rw[h2,h3,h]
theorem DW:∀(n x:Nat),x<2^n->msb (bitsM x n)=x
 | 0,x,h=>by simp at h;subst h;rfl
 | n+1,x,h=>by
  unfold bitsM;rw[tM,DW n (x/2) (by rw[Nat.pow_succ]at h;omega)];rcases Nat.mod_two_eq_zero_or_one x with h1 | h1<;>simp[h1]<;>omega
theorem xR (b:List Bool) (n:Nat) (h:n<b.length):msb (b.take (n+1))=2*msb (b.take n)+(b.getD n false).toNat:=by
 rw[List.take_add_one,List.getElem?_eq_getElem h];simp only[Option.toList_some];rw[tM,List.getD_eq_getElem?_getD,List.getElem?_eq_getElem h];rfl
theorem DY (b:List Bool):∀(n k:Nat),n+k<=b.length->msb (b.take n)*2^k<=msb (b.take (n+k))/\msb (b.take (n+k))<(msb (b.take n)+1)*2^k
 | n,0,_=>by simp
 | n,k+1,h=>by
  obtain⟨h1,h2⟩:=DY b n k (by omega);rw[<-Nat.add_assoc,xR b (n+k) (by omega),Nat.pow_succ];have:(b.getD (n+k) false).toNat<=1:=by cases b.getD (n+k) false<;>decide
  constructor
  ·rw[<-Nat.mul_assoc];omega
  ·rw[<-Nat.mul_assoc];omega
def bm (l:List Nat) (n:Nat):Nat:=l.countP (·==n)
def fstL (l:List Nat):Nat->Nat
 | 0=>0
 | 1=>0
 | n+2=>2*(fstL l (n+1)+bm l (n+1))
def lP (l:List Nat) (s:Nat):Nat:=bm (l.take s) (l.getD s 0)
def gu (l:List Nat) (s:Nat):Nat:=fstL l (l.getD s 0)+lP l s
def cV (l:List Nat) (s:Nat):List Bool:=if l.getD s 0=0 then[]else bitsM (gu l s) (l.getD s 0)
def aM (l:List Nat):List (List Bool):=(List.range l.length).map (cV l)
def cJ (l:List Nat):Nat:=fstL l 15+bm l 15
def cG (l:List Nat):Nat:=l.countP (λn=>decide (0<n))
def bx (l:List Nat):Bool:=decide (cJ l<=32768)&&(decide (cJ l=32768)||decide (cG l=0)||(decide (cG l=1)&&decide (bm l 1=1)))
def bO (l:List Nat):Nat->Nat
 | 0=>0
 | 1=>0
 | n+2=>bO l (n+1)+bm l (n+1)
def uT (l:List Nat) (n:Nat):List Nat:=(List.range l.length).filter λs=>l.getD s 0==n
def sortL (l:List Nat):Nat->List Nat
 | 0=>[]
 | n+1=>sortL l n++uT l (n+1)
theorem l9 (l:List Nat) (x n:Nat):bm (l++[x]) n=bm l n+if x=n then 1 else 0:=by
 simp only[bm,List.countP_append,List.countP_singleton,beq_iff_eq]
theorem Cv (l:List Nat) (x:Nat):∀n,fstL (l++[x]) n=fstL l n+if 1<=x/\x<n then 2^(n-x)else 0
 | 0=>by simp[fstL]
 | 1=>by simp[fstL];omega
 | n+2=>by
  simp only[fstL];rw[Cv l x (n+1),l9];by_cases h0:1<=x
  ·by_cases h1:x<n+1
   ·rw[if_pos ⟨h0,h1⟩,if_neg (by omega),if_pos ⟨h0,by omega⟩,show n+2-x=(n+1-x)+1 by omega,Nat.pow_succ];omega
   ·by_cases h2:x=n+1
    ·rw[if_neg (by omega),if_pos h2,if_pos ⟨h0,by omega⟩,h2,show n+2-(n+1)=1 by omega];omega
    ·rw[if_neg (by omega),if_neg h2,if_neg (by omega)];omega
  ·by_cases h2:x=n+1;omega
   ·rw[if_neg (by omega),if_neg h2,if_neg (by omega)];omega
theorem GA (l:List Nat) (x:Nat):cJ (l++[x])=cJ l+if 1<=x/\x<=15 then 2^(15-x)else 0:=by
 unfold cJ;rw[Cv,l9];by_cases h:x=15
 ·subst h;simp;omega
 ·by_cases h1:1<=x/\x<15
  ·rw[if_pos h1,if_neg h,if_pos ⟨h1.1,by omega⟩];omega
  ·rw[if_neg h1,if_neg h,if_neg (by omega)];omega
theorem wY (l:List Nat) (n:Nat):∀k,1<=n->(fstL l n+bm l n)*2^k<=fstL l (n+k)+(if k=0 then bm l n else 0)
 | 0,h=>by simp
 | k+1,h=>by
  have ih:=wY l n k h;rw[if_neg (by omega)];obtain⟨m,hm⟩:∃m,n+k=m+1:=⟨n+k-1,by omega⟩;rw[show n+(k+1)=m+2 by omega];simp only[fstL];rw[hm]at ih;rw[Nat.pow_succ,<-Nat.mul_assoc];split at ih
  ·rename_i hk;subst hk;have:n=m+1:=by omega
   subst this;simp at ih |-;omega
  omega
theorem aa2 (l:List Nat) {n:Nat} (h1:1<=n) (h2:n<=15):(fstL l n+bm l n)*2^(15-n)<=cJ l:=by
 have:=wY l n (15-n) h1;rw[show n+(15-n)=15 by omega]at this;unfold cJ;split at this
 ·have:n=15:=by omega
  subst this;omega
 omega
theorem xC {l:List Nat} (h:cJ l<=32768) {n:Nat} (h1:1<=n) (h2:n<=15):fstL l n+bm l n<=2^n:=by
 have h3:=aa2 l h1 h2;have h4:(2:Nat)^n*2^(15-n)=32768:=by rw[<-Nat.pow_add,show n+(15-n)=15 by omega]
 refine Nat.le_of_mul_le_mul_right (c:=2^(15-n)) ?_ (Nat.pow_pos (by decide));omega
theorem dj {α:Type} (l:List α) {k:Nat} (d:α) (h:k<l.length):l.take (k+1)=l.take k++[l.getD k d]:=by
 rw[List.take_add_one,List.getD_eq_getElem?_getD,List.getElem?_eq_getElem h];rfl
theorem Be (l:List Nat) (k n:Nat):bm (l.take k) n<=bm l n:=by
 unfold bm;exact List.Sublist.countP_le (List.take_sublist k l)
theorem yK (l:List Nat) {s:Nat} (h:s<l.length):lP l s<bm l (l.getD s 0):=by
 have h1:=dj l 0 h;have h2:=Be l (s+1) (l.getD s 0);rw[h1,l9,if_pos rfl]at h2;unfold lP;omega
theorem Lo {l:List Nat} (hc:cJ l<=32768) {s:Nat} (h:s<l.length) (h1:1<=l.getD s 0) (h2:l.getD s 0<=15):gu l s<2^l.getD s 0:=by
 have:=xC hc h1 h2;have:=yK l h;unfold gu;omega
theorem B8 (p:Nat->Bool):∀(N k:Nat),k<((List.range N).filter p).length->∃s,((List.range N).filter p).getD k 0=s/\s<N/\p s=true/\((List.range s).filter p).length=k
 | 0,k,h=>by simp at h
 | N+1,k,h=>by
  rw[List.range_succ,List.filter_append]at h |-;by_cases hk:k<((List.range N).filter p).length
  ·obtain⟨s,h1,h2,h3,h4⟩:=B8 p N k hk;refine⟨s,?_,by omega,h3,h4⟩;rw[<-h1,List.getD_eq_getElem?_getD,List.getD_eq_getElem?_getD,List.getElem?_append_left hk]
  ·cases hp:p N with
   | false=>simp[hp]at h;omega
   | true=>
    simp[hp]at h;have:k=((List.range N).filter p).length:=by omega
    refine⟨N,?_,by omega,hp,this.symm⟩;rw[List.getD_eq_getElem?_getD,List.getElem?_append_right (by omega),this];simp[hp]
theorem p7 (l:List Nat) (n:Nat):∀k,k<=l.length->bm (l.take k) n=((List.range k).filter λs=>l.getD s 0==n).length
 | 0,_=>by simp[bm]
 | k+1,h=>by
  rw[dj l 0 h,l9,p7 l n k (by omega),List.range_succ,List.filter_append,List.length_append];by_cases h1:l.getD k 0=n
  ·rw[if_pos h1];simp[-List.getD_eq_getElem?_getD,h1]
  ·rw[if_neg h1];simp[-List.getD_eq_getElem?_getD,h1]
theorem Gs (l:List Nat) (n:Nat):(uT l n).length=bm l n:=by
 have:=p7 l n l.length (Nat.le_refl _);rw[List.take_length]at this;rw[this];rfl
theorem aaT (l:List Nat) (n k:Nat) (h:k<bm l n):∃s,(uT l n).getD k 0=s/\s<l.length/\l.getD s 0=n/\lP l s=k:=by
 rw[<-Gs]at h;obtain⟨s,h1,h2,h3,h4⟩:=B8 (λs=>l.getD s 0==n) l.length k h;have h3':l.getD s 0=n:=by simpa[-List.getD_eq_getElem?_getD]using h3
 refine⟨s,h1,h2,h3',?_⟩;unfold lP;rw[h3',p7 l n s (by omega),h4]
theorem nM (l:List Nat):∀n,(sortL l n).length=bO l (n+1)
 | 0=>rfl
 | n+1=>by
  simp only[sortL,List.length_append,nM l n,Gs,bO]
theorem Ge (l:List Nat) (n:Nat):∀m (k:Nat),k<(sortL l n).length->(sortL l (n+m)).getD k 0=(sortL l n).getD k 0
 | 0,k,h=>rfl
 | m+1,k,h=>by
  have ih:=Ge l n m k h
  have hl:(sortL l n).length<=(sortL l (n+m)).length:=by
   clear ih h
   induction m with
   | zero=>exact Nat.le_refl _
   | succ m ih=>rw[<-Nat.add_assoc];simp only[sortL,List.length_append];omega
  rw[<-Nat.add_assoc];simp only[sortL];rw[<-ih,List.getD_eq_getElem?_getD,List.getD_eq_getElem?_getD,List.getElem?_append_left (by omega)]
theorem y7 (l:List Nat) {N n k:Nat} (h1:1<=n) (h2:n<=N) (h:k<bm l n):∃s,(sortL l N).getD (bO l n+k) 0=s/\s<l.length/\l.getD s 0=n/\lP l s=k:=by
 obtain⟨s,h3,h4⟩:=aaT l n k h;refine⟨s,?_,h4⟩;obtain⟨m,rfl⟩:∃m,n=m+1:=⟨n-1,by omega⟩;obtain⟨d,rfl⟩:∃d,N=m+1+d:=⟨N-(m+1),by omega⟩;rw[Ge l (m+1) d (bO l (m+1)+k) (by rw[nM];simp only[bO];omega)];simp only[sortL];rw[<-h3,List.getD_eq_getElem?_getD,List.getD_eq_getElem?_getD,List.getElem?_append_right (by rw[nM];omega),nM]
 congr 2;omega
theorem qN (l:List Nat) (n:Nat):∀m,bO l n<=bO l (n+m)
 | 0=>Nat.le_refl _
 | m+1=>by
  have:=qN l n m
  cases n with
  | zero=>simp[bO]
  | succ n=>rw[show n+1+(m+1)=(n+m)+2 by omega];simp only[bO];rw[show n+m+1=n+1+m by omega];omega
theorem yo (l:List Nat) (h:∀n∈l,n<=15):bO l 16=cG l:=by
 have key:∀(l:List Nat) (n:Nat),bO l (n+1)=l.countP (λx=>decide (0<x/\x<=n)):=by
  intro l n
  induction n with
  | zero=>simp only[bO];symm;rw[List.countP_eq_zero];intro x _;simp;omega
  | succ n ih=>
   simp only[bO];rw[ih];unfold bm;clear ih
   induction l with
   | nil=>rfl
   | cons x l ih=>
    simp only[List.countP_cons,beq_iff_eq,decide_eq_true_eq];by_cases h1:x=n+1
    ·rw[if_neg (by omega),if_pos h1,if_pos (by omega)];omega
    ·by_cases h2:0<x/\x<=n
     ·rw[if_pos h2,if_neg h1,if_pos (by omega)];omega
     ·rw[if_neg h2,if_neg h1,if_neg (by omega)];omega
 rw[key];unfold cG;refine List.countP_congr λx hx=>?_;have:=h x hx;simp;omega
def dA (b c:List Bool):Bool:=!c.isEmpty&&c.isPrefixOf b
def readL (cs:List (List Bool)) (b:List Bool):Nat×Nat×Nat:=
 match cs.findIdx? (dA b)with
 | some s=>(s,(cs.getD s []).length,0)
 | none=>if cs.all (·.isEmpty)then(0,0,3)else if cs.any (λc=>decide (b.length<c.length)&&b.isPrefixOf c)then(0,0,6)else(0,0,3)
theorem mb (l:List Nat) (s:Nat):(cV l s).length=l.getD s 0:=by
 unfold cV;split
 ·rename_i h;rw[h];rfl
 exact vM _ _
theorem K5 (l:List Nat) {s:Nat} (h:s<l.length):(aM l).getD s []=cV l s:=by
 unfold aM;rw[List.getD_eq_getElem?_getD,List.getElem?_map,List.getElem?_range h];rfl
theorem tn {l:List Nat} (hc:cJ l<=32768) (hl:∀n∈l,n<=15) (b:List Bool) {s:Nat} (h:s<l.length) :
    dA b (cV l s)=true↔1<=l.getD s 0/\l.getD s 0<=b.length/\msb (b.take (l.getD s 0))=gu l s:=by
 have h15:l.getD s 0<=15:=by
  have:l.getD s 0∈l:=by rw[List.getD_eq_getElem?_getD,List.getElem?_eq_getElem h];exact List.getElem_mem h
  exact hl _ this
 have hlen:=mb l s;unfold dA;by_cases h0:l.getD s 0=0
 ·have:cV l s=[]:=by unfold cV;rw[if_pos h0]
  rw[this];simp[-List.getD_eq_getElem?_getD];omega
 ·have hcw:=Lo hc h (by omega) h15;have hcd:cV l s=bitsM (gu l s) (l.getD s 0):=by unfold cV;rw[if_neg h0]
  have hne:(cV l s).isEmpty=false:=by
   cases hh:cV l s with
   | nil=>rw[hh]at hlen;simp[-List.getD_eq_getElem?_getD]at hlen;omega
   | cons=>rfl
  rw[hne];simp only[Bool.not_false,Bool.true_and,List.isPrefixOf_iff_prefix];constructor
  ·intro hp;have h1:=hp.length_le;rw[hlen]at h1;have h2:=List.prefix_iff_eq_take.1 hp;rw[hlen]at h2;refine⟨by omega,h1,?_⟩;rw[<-h2,hcd,DW _ _ hcw]
  ·rintro⟨_,h1,h2⟩;refine List.prefix_iff_eq_take.2 ?_;rw[hlen,hcd,<-h2];have:=Ax (b.take (l.getD s 0));rw[List.length_take,Nat.min_eq_left h1]at this;exact this
def oc (l:List Nat) (b:List Bool) (n:Nat):Prop:=∀s,s<l.length->1<=l.getD s 0->l.getD s 0<n->dA b (cV l s)=false
theorem wM {l:List Nat} {b:List Bool} (h:∀s,s<l.length->dA b (cV l s)=false):(aM l).findIdx? (dA b)=none:=by
 rw[List.findIdx?_eq_none_iff];intro c hc;obtain⟨s,hs,rfl⟩:=List.mem_map.1 hc;exact h s (List.mem_range.1 hs)
theorem Nu {l:List Nat} {b:List Bool} {s:Nat} (hs:s<l.length) (h1:dA b (cV l s)=true) (h2:∀t,t<l.length->dA b (cV l t)=true->t=s):(aM l).findIdx? (dA b)=some s:=by
 rw[List.findIdx?_eq_some_iff_getElem];refine⟨by simpa[aM]using hs,by simpa[aM]using h1,λj hj hh=>?_⟩;have hjl:j<l.length:=by omega
 have:=h2 j hjl (by simpa[aM]using hh);omega
theorem xj {l:List Nat} {b:List Bool} {s:Nat} (h0:l.getD s 0=0):dA b (cV l s)=false:=by
 unfold cV;rw[if_pos h0];rfl
section
variable {l:List Nat} (hc:cJ l<=32768) (hl:∀n∈l,n<=15) {b:List Bool} {n:Nat}
include hl in
theorem mi (s:Nat):l.getD s 0<=15:=by
 by_cases h:s<l.length
 ·refine hl _ ?_;rw[List.getD_eq_getElem?_getD,List.getElem?_eq_getElem h];exact List.getElem_mem h
 ·rw[List.getD_eq_getElem?_getD,List.getElem?_eq_none (by omega)];exact Nat.zero_le _
theorem SX (h0:n<b.length) (hj:fstL l (n+1)<=2*msb (b.take n)):fstL l (n+1)<=msb (b.take (n+1)):=by
 rw[xR b n h0];omega
include hc hl in
theorem S5 (h1:n<15) (h0:n<b.length) (hn:oc l b (n+1)) (hj:fstL l (n+1)<=2*msb (b.take n)) {k:Nat} (hk:msb (b.take (n+1))=fstL l (n+1)+k) (hk2:k<bm l (n+1)) :
    ∃s,(sortL l 15).getD (bO l (n+1)+k) 0=s/\s<l.length/\readL (aM l) b=(s,n+1,0):=by
 obtain⟨s,g1,g2,g3,g4⟩:=y7 l (N:=15) (n:=n+1) (by omega) (by omega) hk2;refine⟨s,g1,g2,?_⟩;have hit:dA b (cV l s)=true:=(tn hc hl b g2).2 ⟨by omega,by omega,by rw[g3,hk];unfold gu;rw[g3,g4]⟩
 have hone:=Nu g2 hit (λt ht hh=>by
  obtain⟨e1,e2,e3⟩:=(tn hc hl b ht).1 hh;by_cases q1:l.getD t 0<n+1
  ·rw[hn t ht e1 q1]at hh;cases hh
  ·by_cases q2:l.getD t 0=n+1
   ·rw[q2,hk]at e3;have hr:lP l t=k:=by unfold gu at e3;rw[q2]at e3;omega
    have ht':((List.range l.length).filter λs=>l.getD s 0==n+1).length=((List.range l.length).filter λs=>l.getD s 0==n+1).length:=rfl;unfold lP at hr g4;rw[q2,p7 l (n+1) t (by omega)]at hr;rw[g3,p7 l (n+1) s (by omega)]at g4
    have key:∀x y,x<y->l.getD x 0=n+1->((List.range x).filter λs=>l.getD s 0==n+1).length<((List.range y).filter λs=>l.getD s 0==n+1).length:=by
     intro x y hxy hx;obtain⟨d,rfl⟩:∃d,y=x+1+d:=⟨y-(x+1),by omega⟩;have hs:List.Sublist (List.range (x+1)) (List.range (x+1+d)):=List.range_sublist.2 (by omega);have:=(hs.filter (λs=>l.getD s 0==n+1)).length_le;rw[List.range_succ,List.filter_append,List.length_append]at this;simp only[List.filter_cons,hx,beq_self_eq_true,if_true,List.filter_nil,List.length_singleton]at this;omega
    rcases Nat.lt_trichotomy t s with q | q | q
    ·have:=key t s q q2;omega
    exact q
    ·have:=key s t q g3;omega
   ·exfalso
    obtain⟨d,hd⟩:∃d,l.getD t 0=(n+1)+(d+1):=⟨l.getD t 0-(n+2),by omega⟩;rw[hd]at e2 e3;have h5:=(DY b (n+1) (d+1) (by omega)).2;have h6:=wY l (n+1) (d+1) (by omega);rw[if_neg (by omega),Nat.add_zero]at h6;rw[e3]at h5;have h7:fstL l (n+1+(d+1))<=gu l t:=by unfold gu;rw[hd];omega
    have h8:(msb (b.take (n+1))+1)*2^(d+1)<=(fstL l (n+1)+bm l (n+1))*2^(d+1):=Nat.mul_le_mul_right _ (by omega)
    omega)
 unfold readL;rw[hone];simp only;rw[K5 l g2,mb,g3]
include hc hl in
theorem SY (h1:n<15) (h0:n<b.length) (hn:oc l b (n+1)) (hk:fstL l (n+1)+bm l (n+1)<=msb (b.take (n+1))) :
    oc l b (n+2)/\fstL l (n+2)<=2*msb (b.take (n+1)):=by
 refine⟨λs hs e1 e2=>?_,by simp only[fstL];omega⟩;by_cases q:l.getD s 0<n+1;exact hn s hs e1 q
 ·have e3:l.getD s 0=n+1:=by omega
  cases hh:dA b (cV l s)with
  | false=>rfl
  | true=>
   obtain⟨_,_,e4⟩:=(tn hc hl b hs).1 hh;have:=yK l hs;unfold gu at e4;rw[e3]at e4 this;omega
theorem VP (hp:bO l (n+1)=cG l) (hl:∀n∈l,n<=15) (hn:n<=15) {s:Nat} (hs:s<l.length) (h1:1<=l.getD s 0):l.getD s 0<=n:=by
 refine Nat.le_of_not_lt λhlt=>?_;have h2:=yo l hl;have h15:l.getD s 0<=15:=mi hl s;have h3:=yK l hs;obtain⟨m,hm⟩:∃m,l.getD s 0=m+1:=⟨l.getD s 0-1,by omega⟩;have h4:=qN l (m+2) (16-(m+2));rw[show m+2+(16-(m+2))=16 by omega]at h4;have h5:=qN l (n+1) (m+1-(n+1));rw[show n+1+(m+1-(n+1))=m+1 by omega]at h5;have h6:bO l (m+1)+bm l (m+1)<=bO l 16:=h4;rw[hm]at h3;omega
theorem all_empty (h:0<cG l):(aM l).all (·.isEmpty)=false:=by
 unfold cG at h;obtain⟨x,hx,h1⟩:=List.countP_pos_iff.1 h;obtain⟨s,hs,rfl⟩:=List.getElem_of_mem hx;rw[List.all_eq_false];refine⟨cV l s,List.mem_map.2 ⟨s,List.mem_range.2 hs,rfl⟩,?_⟩;have:=mb l s;rw[List.getD_eq_getElem?_getD,List.getElem?_eq_getElem hs]at this;simp at h1 this
 cases hh:cV l s with
 | nil=>rw[hh]at this;simp at this;omega
 | cons=>simp
include hl in
theorem SZ (h0:n<=b.length) (h15:n<=15) (hp:bO l (n+1)=cG l) (hpos:0<cG l) (hn:oc l b (n+1)):readL (aM l) b=(0,0,3):=by
 unfold readL;have hlv:∀s,s<l.length->1<=l.getD s 0->l.getD s 0<=n:=λs hs h1=>VP hp hl h15 hs h1
 rw[wM (λs hs=>by
  by_cases h1:1<=l.getD s 0;exact hn s hs h1 (by have:=hlv s hs h1;omega)
  ·exact xj (by omega))]
 simp only;rw[all_empty hpos,if_neg (by simp),if_neg];simp only[List.any_eq_true,Bool.and_eq_true,decide_eq_true_eq];rintro⟨c,h1,h2,_⟩;obtain⟨s,hs,rfl⟩:=List.mem_map.1 h1;rw[mb]at h2;have:=hlv s (List.mem_range.1 hs) (by omega);omega
include hl in
theorem SV (hck:bx l=true) (h15:b.length<15) (hp:bO l (b.length+1)<cG l) (hn:oc l b (b.length+1)) (hj:fstL l (b.length+1)<=2*msb b):readL (aM l) b=(0,0,6):=by
 have hpos:0<cG l:=by omega
 have hc:cJ l<=32768:=by unfold bx at hck;simp at hck;exact hck.1
 unfold readL
 rw[wM (λs hs=>by
  by_cases h1:1<=l.getD s 0
  ·by_cases h2:l.getD s 0<b.length+1;exact hn s hs h1 h2
   ·cases hh:dA b (cV l s)with
    | false=>rfl
    | true=>have:=((tn hc hl b hs).1 hh).2.1;omega
  ·exact xj (by omega))]
 simp only;rw[all_empty hpos,if_neg (by simp),if_pos];simp only[List.any_eq_true,Bool.and_eq_true,decide_eq_true_eq,List.isPrefixOf_iff_prefix]
 have found:∀m k s,m=b.length+1+k->m<=15->s<l.length->l.getD s 0=m->gu l s=msb b*2^(k+1)->∃x,x∈aM l/\b.length<x.length/\b <+: x:=by
  intro m k s hm hm15 hs hls hcw;refine⟨cV l s,List.mem_map.2 ⟨s,List.mem_range.2 hs,rfl⟩,by rw[mb];omega,?_⟩;have hcd:cV l s=bitsM (gu l s) (l.getD s 0):=by unfold cV;rw[if_neg (by omega)]
  rw[hcd,hls,hcw,hm]
  have hb:∀k,bitsM (msb b*2^k) (b.length+k)=b++List.replicate k false:=by
   intro k
   induction k with
   | zero=>simp[Ax]
   | succ k ih=>
    show bitsM _ ((b.length+k)+1)=_
    unfold bitsM;rw[show msb b*2^(k+1)/2=msb b*2^k by rw[Nat.pow_succ,<-Nat.mul_assoc];omega,ih,show(msb b*2^(k+1)%2==1)=false by rw[Nat.pow_succ,<-Nat.mul_assoc];simp,List.append_assoc,<-List.replicate_succ']
  rw[show b.length+1+k=b.length+(k+1)by omega,hb];exact List.prefix_append _ _
 unfold bx at hck;simp only[Bool.and_eq_true,Bool.or_eq_true,decide_eq_true_eq]at hck;rcases hck.2 with(h32 | h0) | ⟨h1,h2⟩
 ·-- complete: some interval holds these bits
  have hlt:=DX b
  have base:fstL l (b.length+1)*2^(14-b.length)<=msb b*2^(15-b.length):=by
   have h3:(2:Nat)^(15-b.length)=2*2^(14-b.length):=by rw[show 15-b.length=(14-b.length)+1 by omega,Nat.pow_succ];omega
   rw[h3,<-Nat.mul_assoc,Nat.mul_comm (msb b) 2];exact Nat.mul_le_mul_right _ hj
  have go:∀d m,m+d=15->b.length<m->fstL l m*2^(15-m)<=msb b*2^(15-b.length)->∃m',m<=m'/\m'<=15/\fstL l m'*2^(15-m')<=msb b*2^(15-b.length)/\msb b*2^(15-b.length)<(fstL l m'+bm l m')*2^(15-m'):=by
   intro d
   induction d with
   | zero=>
    intro m h3 h4 h5;have:m=15:=by omega
    subst this;refine⟨15,Nat.le_refl _,Nat.le_refl _,h5,?_⟩;have h6:msb b*2^(15-b.length)<2^b.length*2^(15-b.length):=Nat.mul_lt_mul_of_pos_right hlt (Nat.pow_pos (by decide));rw[<-Nat.pow_add,show b.length+(15-b.length)=15 by omega]at h6;unfold cJ at h32;rw[h32]
    simpa using h6
   | succ d ih=>
    intro m h3 h4 h5;by_cases h6:msb b*2^(15-b.length)<(fstL l m+bm l m)*2^(15-m);exact⟨m,Nat.le_refl _,by omega,h5,h6⟩
    ·obtain⟨q,rfl⟩:∃q,m=q+1:=⟨m-1,by omega⟩
     obtain⟨m',e1,e2,e3⟩:=ih (q+2) (by omega) (by omega) (by
      simp only[fstL];have h7:(2:Nat)^(15-(q+1))=2*2^(15-(q+2)):=by rw[show 15-(q+1)=(15-(q+2))+1 by omega,Nat.pow_succ];omega
      rw[h7,<-Nat.mul_assoc,Nat.mul_comm _ 2]at h6
      omega)
     exact⟨m',by omega,e2,e3⟩
  obtain⟨m,e1,e2,e3,e4⟩:=go (14-b.length) (b.length+1) (by omega) (by omega) (by rw[show 15-(b.length+1)=14-b.length by omega];exact base);obtain⟨k,rfl⟩:∃k,m=b.length+1+k:=⟨m-(b.length+1),by omega⟩;have h5:(2:Nat)^(15-b.length)=2^(k+1)*2^(15-(b.length+1+k)):=by rw[<-Nat.pow_add];congr 1;omega
  rw[h5,<-Nat.mul_assoc]at e3 e4;have e5:=Nat.le_of_mul_le_mul_right e3 (Nat.pow_pos (by decide));have e6:=Nat.lt_of_mul_lt_mul_right e4;obtain⟨s,_,g2,g3,g4⟩:=y7 l (N:=15) (n:=b.length+1+k) (k:=msb b*2^(k+1)-fstL l (b.length+1+k)) (by omega) e2 (by omega);exact found _ k s rfl e2 g2 g3 (by unfold gu;rw[g3,g4];omega)
 omega
 ·-- one code of one bit
  have hb0:b.length=0:=by
   refine Nat.eq_zero_of_not_pos λhb=>?_;have h3:=qN l 2 (b.length+1-2);rw[show 2+(b.length+1-2)=b.length+1 by omega]at h3;have h4:0+bm l 1<=bO l (b.length+1):=h3;omega
  have hbn:=List.length_eq_zero_iff.1 hb0;subst hbn;obtain⟨s,_,g2,g3,g4⟩:=y7 l (N:=15) (n:=1) (k:=0) (by omega) (by omega) (by omega);refine found 1 0 s rfl (by omega) g2 g3 ?_;unfold gu;rw[g3,g4];simp[fstL,msb]
end
theorem XS {l:List Nat} (hl:∀n∈l,n<=15) (b:List Bool):readL (aM l) (b.take 16)=readL (aM l) b:=by
 by_cases h:b.length<=16
 ·rw[List.take_of_length_le h]
 ·have hh:∀c∈aM l,dA (b.take 16) c=dA b c:=by
   intro c hc;obtain⟨s,hs,rfl⟩:=List.mem_map.1 hc;have h15:=mi hl s;have hlen:=mb l s;unfold dA
   congr 1
   rw[Bool.eq_iff_iff,List.isPrefixOf_iff_prefix,List.isPrefixOf_iff_prefix,List.prefix_take_iff];exact⟨λh=>h.1,λh=>⟨h,by omega⟩⟩
  have hf:(aM l).findIdx? (dA (b.take 16))=(aM l).findIdx? (dA b):=by
   have:∀cs:List (List Bool),(∀c∈cs,dA (b.take 16) c=dA b c)->cs.findIdx? (dA (b.take 16))=cs.findIdx? (dA b):=by
    intro cs
    induction cs with
    | nil=>intro _;rfl
    | cons c cs ih=>
     intro h;rw[List.findIdx?_cons,List.findIdx?_cons,h c (List.mem_cons_self ..),ih (λd hd=>h d (List.mem_cons_of_mem _ hd))]
   exact this _ hh
  have no:∀x:List Bool,16<=x.length->(aM l).any (λc=>decide (x.length<c.length)&&x.isPrefixOf c)=false:=by
   intro x hx;rw[List.any_eq_false];intro c hc;obtain⟨s,hs,rfl⟩:=List.mem_map.1 hc;have h15:=mi hl s;have hlen:=mb l s;simp;intro;omega
  unfold readL;rw[hf,no b (by omega),no (b.take 16) (by simp;omega)]
def iR (s:Bs) (i:Nat):Bool:=(s.getD (i/8) 0).toNat.testBit (i%8)
def numAt (s:Bs) (p:Nat):Nat->Nat
 | 0=>0
 | n+1=>numAt s p n+(if iR s (p+n)then 2^n else 0)
def bw (s:Bs) (p:Nat):List Bool:=(List.range (8*s.length-p)).map λi=>iR s (p+i)
theorem iE (s:Bs) (p:Nat):∀n,numAt s p n<2^n
 | 0=>by simp[numAt]
 | n+1=>by
  have:=iE s p n;simp only[numAt];rw[Nat.pow_succ];split<;>omega
theorem num_add (s:Bs) (p m:Nat):∀n,numAt s p (m+n)=numAt s p m+2^m*numAt s (p+m) n
 | 0=>by simp[numAt]
 | n+1=>by
  rw[<-Nat.add_assoc];simp only[numAt];rw[num_add s p m n,Nat.add_assoc p m n,Nat.mul_add];split
  ·rw[Nat.pow_add];omega
  omega
theorem tY (s:Bs) (p:Nat) {m n:Nat} (h:m<=n):numAt s p n%2^m=numAt s p m:=by
 obtain⟨d,rfl⟩:∃d,n=m+d:=⟨n-m,by omega⟩;rw[num_add,Nat.add_mul_mod_self_left,Nat.mod_eq_of_lt (iE s p m)]
theorem qI (s:Bs) (p:Nat) {m n:Nat} (h:m<=n):numAt s p n/2^m=numAt s (p+m) (n-m):=by
 obtain⟨d,rfl⟩:∃d,n=m+d:=⟨n-m,by omega⟩;rw[num_add,Nat.add_mul_div_left _ _ (Nat.pow_pos (by decide)),Nat.div_eq_of_lt (iE s p m),Nat.zero_add,Nat.add_sub_cancel_left]
theorem aaO (x:Nat):∀n,x%2^(n+1)=x%2^n+(if x.testBit n then 2^n else 0):=by
 intro n;rw[Nat.pow_succ,Nat.mod_mul,Nat.testBit_eq_decide_div_mod_eq];rcases Nat.mod_two_eq_zero_or_one (x/2^n)with h | h<;>simp[h]
theorem tW (s:Bs) (a:Nat):numAt s (8*a) 8=(s.getD a 0).toNat:=by
 have key:∀n,n<=8->numAt s (8*a) n=(s.getD a 0).toNat%2^n:=by
  intro n
  induction n with
  | zero=>intro _;simp[numAt,Nat.mod_one]
  | succ n ih=>
   intro h;simp only[numAt];rw[ih (by omega),aaO];unfold iR;rw[show(8*a+n)/8=a by omega,show(8*a+n)%8=n by omega]
 rw[key 8 (Nat.le_refl _),Nat.mod_eq_of_lt (by have:=(s.getD a 0).toNat_lt;omega)]
theorem T6 (s:Bs) (a n:Nat) (h:n<=8*a):numAt s (8*a-n) (n+8)=numAt s (8*a-n) n+(s.getD a 0).toNat*2^n:=by
 rw[num_add,show 8*a-n+n=8*a by omega,tW,Nat.mul_comm (2^n)]
theorem T9 (s:Bs) (p m n:Nat):numAt s p (m+n)=numAt s p m+numAt s (p+m) n*2^m:=by rw[num_add,Nat.mul_comm (2^m)]
theorem T7 (s:Bs) (p:Nat):numAt s p 1=(iR s p).toNat:=by
 simp only[numAt,Nat.add_zero];cases iR s p<;>rfl
theorem lO (s:Bs) (p:Nat):(bw s p).length=8*s.length-p:=by simp[bw]
theorem Fw (s:Bs) (p:Nat) {n:Nat} (h:p+n<8*s.length):(bw s p).getD n false=iR s (p+n):=by
 unfold bw;rw[List.getD_eq_getElem?_getD,List.getElem?_map,List.getElem?_range (by omega)];rfl
theorem Av (s:Bs) (a i:Nat):iR (s.drop a) i=iR s (8*a+i):=by
 unfold iR;rw[List.getD_eq_getElem?_getD,List.getElem?_drop,<-List.getD_eq_getElem?_getD,show(8*a+i)/8=a+i/8 by omega,show(8*a+i)%8=i%8 by omega]
theorem tX (s:Bs) (a p:Nat):∀n,numAt (s.drop a) p n=numAt s (8*a+p) n
 | 0=>rfl
 | n+1=>by
  simp only[numAt];rw[tX s a p n,Av,Nat.add_assoc]
theorem yH (s:Bs) (a p:Nat):bw (s.drop a) p=bw s (8*a+p):=by
 unfold bw;rw[List.length_drop,show 8*(s.length-a)-p=8*s.length-(8*a+p)by omega]
 congr 1
 funext i
 rw[Av,Nat.add_assoc]
end Go.Proofs.YtoalcafkffmiiaaGreatDoor.Pk
namespace Go.Proofs.YtoalcafkffmiiaaGreatDoor.Pk
structure SS where
 p:Nat
 out:Bs
 err:Nat
def ct (e:Nat) (S:SS):SS:=if S.err=0 then {S with err:=e} else S
def aF (t:Bs) (n:Nat) (S:SS):Nat×SS:=
 if S.err≠0 then(0,S)else if 8*t.length<S.p+n then(0,{S with err:=6})else(numAt t S.p n,{S with p:=S.p+n})
def aQ (t:Bs) (l:List Nat) (S:SS):Nat×SS:=
 if S.err≠0 then(0,S)else if(readL (aM l) (bw t S.p)).2.2≠0 then(0,{S with err:=(readL (aM l) (bw t S.p)).2.2})
  else((readL (aM l) (bw t S.p)).1,{S with p:=S.p+(readL (aM l) (bw t S.p)).2.1})
def eB (most:Nat) (c:UInt8) (S:SS):SS:=if S.err≠0 then S else if most<=S.out.length then {S with err:=2} else {S with out:=S.out++[c]}
def rawS (t:Bs) (most:Nat):Nat->SS->SS
 | 0,S=>S
 | n+1,S=>if S.err≠0 then S else rawS t most n (eB most (UInt8.ofNat (aF t 8 S).1) (aF t 8 S).2)
def jP (S:SS):SS:={S with p:=(S.p+7)/8*8}
def fO (t:Bs) (most:Nat) (S:SS):SS:=
 let a:=aF t 16 (jP S)
 let b:=aF t 16 a.2
 rawS t most a.1 (if a.1+b.1≠65535 then ct 3 b.2 else b.2)
def fM:List Nat:=[16,17,18,0,8,7,9,6,10,5,11,4,12,3,13,2,14,1,15]
def firstS (t:Bs) (nc:Nat):Nat->List Nat->SS->List Nat×SS
 | 0,l,S=>(l,S)
 | k+1,l,S=>if S.err≠0 then(l,S)else firstS t nc k (l.set (fM.getD (nc-(k+1)) 0) (aF t 3 S).1) (aF t 3 S).2
def bP (t:Bs) (l:List Nat) (s:Nat) (S:SS):Nat×Nat×SS:=
 if s=16 then(if l=[]then(0,0,ct 3 S)else(3+(aF t 2 S).1,l.getD (l.length-1) 0,(aF t 2 S).2))
 else if s=17 then(3+(aF t 3 S).1,0,(aF t 3 S).2)
 else if s=18 then(11+(aF t 7 S).1,0,(aF t 7 S).2)
 else(1,s,S)
def cH (N:Nat) (l:List Nat) (b:Nat×Nat×SS):SS:=if N<l.length+b.1 then ct 3 b.2.2 else b.2.2
def dF (t:Bs) (fl:List Nat) (N:Nat):Nat->List Nat->SS->List Nat×SS
 | 0,l,S=>(l,S)
 | k+1,l,S=>
  if N<=l.length\/S.err≠0 then(l,S)else
   let a:=aQ t fl S
   let b:=bP t l a.1 a.2
   let c:=cH N l b
   if c.err≠0 then(l,c)else dF t fl N k (l++List.replicate b.1 b.2.1) c
def cF (t:Bs) (S:SS):(List Nat×List Nat)×SS:=
 if 8*t.length<S.p+14 then(([],[]),{S with err:=6})else
 let nl:=numAt t S.p 5+257
 let nd:=numAt t (S.p+5) 5+1
 let nc:=numAt t (S.p+10) 4+4
 if 286<nl\/30<nd then(([],[]),{S with p:=S.p+14,err:=3})else
 let a:=firstS t nc nc (List.replicate 19 0) {S with p:=S.p+14}
 if a.2.err≠0 then(([],[]),a.2)else if bx a.1=false then(([],[]),{a.2 with err:=3})else
 let b:=dF t a.1 (nl+nd) (nl+nd) [] a.2
 if b.2.err≠0 then(([],[]),b.2)else
 if b.1.getD 256 0=0\/bx (b.1.take nl)=false\/bx (b.1.drop nl)=false then(([],[]),{b.2 with err:=3})else((b.1.take nl,b.1.drop nl),b.2)
def fq:List Nat:=List.replicate 144 8++List.replicate 112 9++List.replicate 24 7++List.replicate 8 8
def fp:List Nat:=List.replicate 32 5
def bh (i:Nat):Nat×Nat:=if i=28 then(258,0)else if i<8 then(3+i,0)else(3+(4+i%4)*2^(i/4-1),i/4-1)
def cq (i:Nat):Nat×Nat:=if i<4 then(1+i,0)else(1+(2+i%2)*2^(i/2-1),i/2-1)
def backS (most:Nat) (back:Nat):Nat->SS->SS
 | 0,S=>S
 | n+1,S=>if S.err≠0 then S else backS most back n (eB most (S.out.getD (S.out.length-back) 0) S)
def dX (t:Bs) (most:Nat) (d:List Nat) (s:Nat) (S:SS):SS:=
 if 285<s then ct 3 S else
 let a:=aF t (bh (s-257)).2 S
 let k:=aQ t d a.2
 if k.2.err≠0 then k.2 else if 29<k.1 then ct 3 k.2 else
 let b:=aF t (cq k.1).2 k.2
 let back:=(cq k.1).1+b.1
 if b.2.err≠0 then b.2 else if b.2.out.length<back then ct 3 b.2 else backS most back ((bh (s-257)).1+a.1) b.2
def fE (t:Bs) (most:Nat) (l d:List Nat) (S:SS):Bool×SS:=
 let a:=aQ t l S
 if a.2.err≠0 then(true,a.2)else if a.1=256 then(true,a.2)else if a.1<256 then(false,eB most (UInt8.ofNat a.1) a.2)else(false,dX t most d a.1 a.2)
def nE (t:Bs) (most:Nat) (l d:List Nat):Nat->SS->SS
 | 0,S=>S
 | k+1,S=>if S.err≠0 then S else if(fE t most l d S).1 then(fE t most l d S).2 else nE t most l d k (fE t most l d S).2
def dW (t:Bs) (most:Nat) (l d:List Nat) (S:SS):SS:=nE t most l d (8*t.length+1-S.p) S
def fa (t:Bs) (most:Nat) (S:SS):Bool×SS:=
 if 8*t.length<S.p+3 then(true,{S with err:=6})else
 let S3:={S with p:=S.p+3}
 (numAt t S.p 1=1,if numAt t (S.p+1) 2=0 then fO t most S3 else if numAt t (S.p+1) 2=1 then dW t most fq fp S3
  else if numAt t (S.p+1) 2=2 then(if(cF t S3).2.err≠0 then(cF t S3).2 else dW t most (cF t S3).1.1 (cF t S3).1.2 (cF t S3).2)else {S3 with err:=3})
def pq (t:Bs) (most:Nat):Nat->SS->SS
 | 0,S=>S
 | k+1,S=>if(fa t most S).2.err≠0\/(fa t most S).1=true then(fa t most S).2 else pq t most k (fa t most S).2
def iM (t:Bs) (most:Nat) (S:SS):SS:=pq t most (8*t.length+1-S.p) S
def fu (t:Bs) (most:Nat):Bs×Nat×Nat:=
 let S:=iM t most ⟨0,[],0⟩
 if S.err≠0 then([],0,S.err)else(S.out,(S.p+7)/8,0)
structure Mv (t:Bs) (most:Nat) (S S':SS):Prop where
 p:S.p<=S'.p
 q:S.p<=8*t.length->S'.p<=8*t.length
 o:S.out.length<=most->S'.out.length<=most
section
variable {t:Bs} {most:Nat} {S:SS}
theorem Mv.refl:Mv t most S S:=⟨Nat.le_refl _,λh=>h,λh=>h⟩
theorem Mv.trans {S1 S2:SS} (h:Mv t most S S1) (k:Mv t most S1 S2):Mv t most S S2:=⟨Nat.le_trans h.p k.p,λg=>k.q (h.q g),λg=>k.o (h.o g)⟩
theorem jK {e:Nat}:Mv t most S {S with err:=e}:=⟨Nat.le_refl _,λh=>h,λh=>h⟩
theorem kS {e:Nat}:Mv t most S (ct e S):=by unfold ct;split;exact jK;exact .refl
theorem j9 {e:Nat} (h:e≠0):(ct e S).err≠0:=by unfold ct;split;exact h;assumption
theorem fW {e:Nat} (h:S.err=0):ct e S={S with err:=e}:=if_pos h
theorem nB {n:Nat} (h:S.err≠0):aF t n S=(0,S):=if_pos h
theorem mo {n:Nat} (h:S.err=0) (h1:8*t.length<S.p+n):aF t n S=(0,{S with err:=6}):=by unfold aF;rw[if_neg (by simpa using h),if_pos h1]
theorem iG {n:Nat} (h:S.err=0) (h1:S.p+n<=8*t.length):aF t n S=(numAt t S.p n,{S with p:=S.p+n}):=by unfold aF;rw[if_neg (by simpa using h),if_neg (by omega)]
theorem fY {n:Nat}:Mv t most S (aF t n S).2:=by
 unfold aF;split;exact .refl
 ·split;exact jK;exact⟨by simp only;omega,λ_=>by simp only;omega,λh=>h⟩
theorem gF {n:Nat}:(aF t n S).1<2^n:=by
 unfold aF;split;exact Nat.pow_pos (by decide)
 ·split;exact Nat.pow_pos (by decide);exact iE _ _ _
theorem pg (cs:List (List Bool)) (b:List Bool) (h:(readL cs b).2.2=0):1<=(readL cs b).2.1/\(readL cs b).2.1<=b.length/\(readL cs b).1<cs.length:=by
 unfold readL at h |-;split at h
 ·rename_i s hs;simp only;obtain⟨h1,h2,_⟩:=List.findIdx?_eq_some_iff_getElem.1 hs;have:cs.getD s []=cs[s]:=by rw[List.getD_eq_getElem?_getD,List.getElem?_eq_getElem h1];rfl
  rw[this];unfold dA at h2;simp only[Bool.and_eq_true,List.isPrefixOf_iff_prefix]at h2;refine⟨?_,h2.2.length_le,h1⟩
  cases hc:cs[s]with
  | nil=>rw[hc]at h2;simp at h2
  | cons=>simp
 ·split at h
  ·cases h
  ·split at h<;>cases h
theorem Gr {l:List Nat} (h:S.err≠0):aQ t l S=(0,S):=if_pos h
theorem rz {l:List Nat} (h:S.err=0) (h1:(readL (aM l) (bw t S.p)).2.2≠0):aQ t l S=(0,{S with err:=(readL (aM l) (bw t S.p)).2.2}):=by unfold aQ;rw[if_neg (by simpa using h),if_pos h1]
theorem rA {l:List Nat} (h:S.err=0) (h1:(readL (aM l) (bw t S.p)).2.2=0):aQ t l S=((readL (aM l) (bw t S.p)).1,{S with p:=S.p+(readL (aM l) (bw t S.p)).2.1}):=by unfold aQ;rw[if_neg (by simpa using h),if_neg (by simpa using h1)]
theorem lG {l:List Nat}:Mv t most S (aQ t l S).2:=by
 unfold aQ;split;exact .refl
 ·split;exact jK
  ·rename_i h;have:=pg (aM l) (bw t S.p) (by simpa using h);rw[lO]at this;exact⟨by simp only;omega,λ_=>by simp only;omega,λh=>h⟩
theorem uS {l:List Nat} (h:S.err=0) (h1:(aQ t l S).2.err=0):S.p<(aQ t l S).2.p/\(aQ t l S).1<l.length:=by
 by_cases h2:(readL (aM l) (bw t S.p)).2.2=0
 ·have:=pg (aM l) (bw t S.p) h2;rw[rA h h2];have hl:(aM l).length=l.length:=by simp[aM]
  simp only;omega
 ·rw[rz h h2]at h1;exact(h2 h1).elim
theorem mj {c:UInt8}:Mv t most S (eB most c S):=by
 unfold eB;split;exact .refl
 ·split;exact jK;exact⟨Nat.le_refl _,λh=>h,λ_=>by simp;omega⟩
theorem D4:∀(n:Nat) (S:SS),Mv t most S (rawS t most n S)
 | 0,_=>.refl
 | n+1,S=>by
  unfold rawS;split;exact .refl;exact fY.trans (mj.trans (D4 n _))
theorem D8:Mv t most S (jP S):=⟨by simp only[jP];omega,λh=>by simp only[jP];omega,λh=>h⟩
theorem D6:Mv t most S (fO t most S):=by
 unfold fO;have h1:Mv t most S (aF t 16 (aF t 16 (jP S)).2).2:=D8.trans (fY.trans fY);refine h1.trans (Mv.trans ?_ (D4 _ _));split;exact kS;exact .refl
theorem D1 {nc:Nat}:∀(k:Nat) (l:List Nat) (S:SS),Mv t most S (firstS t nc k l S).2
 | 0,_,_=>.refl
 | k+1,l,S=>by
  unfold firstS;split;exact .refl;exact fY.trans (D1 k _ _)
theorem D7 {l:List Nat} {s:Nat}:Mv t most S (bP t l s S).2.2:=by
 unfold bP;split
 ·split;exact kS;exact fY
 ·split;exact fY
  ·split;exact fY;exact .refl
theorem tQ {fl:List Nat} {N:Nat}:∀(k:Nat) (l:List Nat) (S:SS),Mv t most S (dF t fl N k l S).2
 | 0,_,_=>.refl
 | k+1,l,S=>by
  have hc:Mv t most S (cH N l (bP t l (aQ t fl S).1 (aQ t fl S).2)):=by
   have h1:Mv t most S (bP t l (aQ t fl S).1 (aQ t fl S).2).2.2:=lG.trans D7;refine h1.trans ?_;unfold cH;split;exact kS;exact .refl
  unfold dF;split;exact .refl
  ·simp only;split;exact hc;exact hc.trans (tQ k _ _)
theorem tN:Mv t most S (cF t S).2:=by
 unfold cF;split;exact jK
 ·rename_i h14;have h1:Mv t most S {S with p:=S.p+14}:=⟨by simp only;omega,λ_=>by simp only;omega,λh=>h⟩;simp only;split;exact h1.trans jK
  ·have h2:=h1.trans (D1 (nc:=numAt t (S.p+10) 4+4) (numAt t (S.p+10) 4+4) (List.replicate 19 0) {S with p:=S.p+14});split;exact h2
   ·split;exact h2.trans jK
    ·split;exact h2.trans (tQ _ _ _)
     ·split;exact(h2.trans (tQ _ _ _)).trans jK;exact h2.trans (tQ _ _ _)
theorem D0 {back:Nat}:∀(n:Nat) (S:SS),Mv t most S (backS most back n S)
 | 0,_=>.refl
 | n+1,S=>by
  unfold backS;split;exact .refl;exact mj.trans (D0 n _)
theorem xS {d:List Nat} {s:Nat}:Mv t most S (dX t most d s S):=by
 unfold dX;split;exact kS
 ·have h1:Mv t most S (aQ t d (aF t (bh (s-257)).2 S).2).2:=fY.trans lG;simp only;split;exact h1
  ·split;exact h1.trans kS
   ·split;exact h1.trans fY
    ·split;exact(h1.trans fY).trans kS;exact(h1.trans fY).trans (D0 _ _)
theorem o0 {l d:List Nat}:Mv t most S (fE t most l d S).2:=by
 unfold fE;simp only;split;exact lG
 ·split;exact lG
  ·split;exact lG.trans mj;exact lG.trans xS
theorem Gl {l d:List Nat} (h:S.err=0) (h1:(fE t most l d S).2.err=0):S.p<(fE t most l d S).2.p:=by
 unfold fE at h1 |-;simp only at h1 |-;split at h1
 ·rename_i h2;exact(h2 h1).elim
 ·rename_i h2;have h3:=(uS h (by simpa using h2)).1;rw[if_neg h2];split at h1
  ·rename_i h4;rw[if_pos h4];exact h3
  ·rename_i h4;rw[if_neg h4];split;exact Nat.lt_of_lt_of_le h3 (mj (t:=t)).p;exact Nat.lt_of_lt_of_le h3 (xS).p
theorem uh {l d:List Nat}:∀(k:Nat),S.err≠0->nE t most l d k S=S
 | 0,_=>rfl
 | k+1,h=>if_pos h
theorem ui {l d:List Nat}:∀(k:Nat) (S:SS),S.p<=8*t.length->8*t.length+1-S.p<=k->nE t most l d k S=dW t most l d S
 | 0,S,h0,h=>by omega
 | k+1,S,h0,h=>by
  unfold dW;obtain⟨j,hj⟩:∃j,8*t.length+1-S.p=j+1:=⟨8*t.length-S.p,by omega⟩;rw[hj];unfold nE;split;rfl
  ·rename_i he;split;rfl
   ·by_cases h1:(fE t most l d S).2.err=0
    ·have h2:=Gl (l:=l) (d:=d) (most:=most) (by simpa using he) h1;have h3:=(o0 (t:=t) (most:=most) (S:=S) (l:=l) (d:=d)).q h0;rw[ui k _ h3 (by omega),<-ui j _ h3 (by omega)]
    ·rw[uh k h1,uh j h1]
theorem EC {l d:List Nat} (h0:S.p<=8*t.length):dW t most l d S=if S.err≠0 then S else if(fE t most l d S).1 then(fE t most l d S).2 else dW t most l d (fE t most l d S).2:=by
 have h1:=ui (most:=most) (l:=l) (d:=d) (8*t.length+1-S.p+1) S h0 (by omega);rw[<-h1]
 show(if _ then _ else _)=_
 split;rfl
 ·rename_i he;split;rfl
  ·have h3:=(o0 (t:=t) (most:=most) (S:=S) (l:=l) (d:=d)).q h0;have h4:=(o0 (t:=t) (most:=most) (S:=S) (l:=l) (d:=d)).p;exact ui _ _ h3 (by omega)
theorem D3 {l d:List Nat}:∀(k:Nat) (S:SS),Mv t most S (nE t most l d k S)
 | 0,_=>.refl
 | k+1,S=>by
  unfold nE;split;exact .refl
  ·split;exact o0;exact o0.trans (D3 k _)
theorem D2 {l d:List Nat}:Mv t most S (dW t most l d S):=D3 _ _
theorem nA:Mv t most S (fa t most S).2/\((fa t most S).2.err=0->S.p<(fa t most S).2.p):=by
 unfold fa;split;exact⟨jK,λh=>by cases h⟩
 ·rename_i h3;have h1:Mv t most S {S with p:=S.p+3}:=⟨by simp only;omega,λ_=>by simp only;omega,λh=>h⟩;have go:∀S',Mv t most {S with p:=S.p+3} S'->Mv t most S S'/\(S'.err=0->S.p<S'.p):=λS' h=>⟨h1.trans h,λ_=>by have:=h.p;simp only at this;omega⟩;simp only;split;exact go _ D6
  ·split;exact go _ D2
   ·split
    ·split;exact go _ tN;exact go _ (tN.trans D2)
    exact go _ jK
theorem uF:∀(k:Nat) (S:SS),S.p<=8*t.length->8*t.length+1-S.p<=k->pq t most k S=iM t most S
 | 0,S,h0,h=>by omega
 | k+1,S,h0,h=>by
  unfold iM;obtain⟨j,hj⟩:∃j,8*t.length+1-S.p=j+1:=⟨8*t.length-S.p,by omega⟩;rw[hj];unfold pq;split;rfl
  ·rename_i he
   have h2:=(nA (t:=t) (most:=most) (S:=S)).2 (by
    refine Classical.byContradiction λh=>he (.inl h))
   have h3:=(nA (t:=t) (most:=most) (S:=S)).1.q h0;rw[uF k _ h3 (by omega),<-uF j _ h3 (by omega)]
theorem run_eq (h0:S.p<=8*t.length):iM t most S=if(fa t most S).2.err≠0\/(fa t most S).1=true then(fa t most S).2 else iM t most (fa t most S).2:=by
 have h1:=uF (most:=most) (8*t.length+1-S.p+1) S h0 (by omega);rw[<-h1]
 show(if _ then _ else _)=_
 split;rfl
 ·have h3:=(nA (t:=t) (most:=most) (S:=S)).1.q h0;have h4:=(nA (t:=t) (most:=most) (S:=S)).1.p;exact uF _ _ h3 (by omega)
end
end Go.Proofs.YtoalcafkffmiiaaGreatDoor.Pk
