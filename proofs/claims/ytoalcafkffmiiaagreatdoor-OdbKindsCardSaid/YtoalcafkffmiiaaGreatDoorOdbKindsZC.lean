/- The proof, part 29 of 42. -/

set_option linter.all false
namespace Go.Proofs.YtoalcafkffmiiaaGreatDoor.Pk
abbrev Bs:=List UInt8
def msb (b:List Bool):Nat:=b.foldl (fun a c=>2*a+c.toNat) 0
def bitsM:Nat→Nat→List Bool
 | _,0=>[]
 | x,n+1=>bitsM (x/2) n++[x%2==1]
theorem qj (a:List Bool) (c:Bool):msb (a++[c])=2*msb a+c.toNat:=by simp[msb]
theorem wc:∀(n x:Nat),(bitsM x n).length=n
 | 0,_=>rfl
 | n+1,x=>by simp[bitsM,wc n]
theorem Ch {α:Type} {p:List α→Prop} (h0:p []) (h1:∀l x,p l→p (l++[x])) (l:List α):p l:=by
 have:∀n (l:List α),l.length=n→p l:=by
  intro n
  induction n with
  | zero=>intro l h;rw[List.length_eq_zero_iff.1 h];exact h0
  | succ n ih=>
   intro l h
   have hne:l≠[]:=by intro e;rw[e]at h;cases h
   rw[←List.dropLast_concat_getLast hne]
   exact h1 _ _ (ih _ (by simp[h]))
 exact this _ l rfl
theorem Af (b:List Bool):msb b<2^b.length:=by
 refine Ch (p:=fun b=>msb b<2^b.length) (by simp[msb]) (fun l c h=>?_) b
 rw[qj,List.length_append,List.length_singleton,Nat.pow_succ]
 have:c.toNat≤1:=by cases c<;>decide
 omega
theorem we (b:List Bool):bitsM (msb b) b.length=b:=by
 refine Ch (p:=fun b=>bitsM (msb b) b.length=b) rfl (fun l c h=>?_) b
 rw[qj,List.length_append]
 show bitsM _ (l.length+1)=_
 unfold bitsM
 have h2:(2*msb l+c.toNat)/2=msb l:=by cases c<;>simp<;>omega
 have h3:((2*msb l+c.toNat)%2==1)=c:=by cases c<;>simp<;>omega
 rw[h2,h3,h]
theorem Ae:∀(n x:Nat),x<2^n→msb (bitsM x n)=x
 | 0,x,h=>by simp at h;subst h;rfl
 | n+1,x,h=>by
  unfold bitsM
  rw[qj,Ae n (x/2) (by rw[Nat.pow_succ]at h;omega)]
  rcases Nat.mod_two_eq_zero_or_one x with h1 | h1<;>simp[h1]<;>omega
theorem tS (b:List Bool) (n:Nat) (h:n<b.length):msb (b.take (n+1))=2*msb (b.take n)+(b.getD n false).toNat:=by
 rw[List.take_add_one,List.getElem?_eq_getElem h]
 simp only[Option.toList_some]
 rw[qj,List.getD_eq_getElem?_getD,List.getElem?_eq_getElem h];rfl
theorem Ag (b:List Bool):∀(n k:Nat),n+k≤b.length→msb (b.take n)*2^k≤msb (b.take (n+k))∧msb (b.take (n+k))<(msb (b.take n)+1)*2^k
 | n,0,_=>by simp
 | n,k+1,h=>by
  obtain⟨h1,h2⟩:=Ag b n k (by omega)
  rw[←Nat.add_assoc,tS b (n+k) (by omega),Nat.pow_succ]
  have:(b.getD (n+k) false).toNat≤1:=by cases b.getD (n+k) false<;>decide
  constructor
  ·rw[←Nat.mul_assoc];omega
  ·rw[←Nat.mul_assoc];omega
def bI (l:List Nat) (n:Nat):Nat:=l.countP (·==n)
def fstL (l:List Nat):Nat→Nat
 | 0=>0
 | 1=>0
 | n+2=>2*(fstL l (n+1)+bI l (n+1))
def j5 (l:List Nat) (s:Nat):Nat:=bI (l.take s) (l.getD s 0)
def fk (l:List Nat) (s:Nat):Nat:=fstL l (l.getD s 0)+j5 l s
def cE (l:List Nat) (s:Nat):List Bool:=if l.getD s 0=0 then[]else bitsM (fk l s) (l.getD s 0)
def bF (l:List Nat):List (List Bool):=(List.range l.length).map (cE l)
def dL (l:List Nat):Nat:=fstL l 15+bI l 15
def dp (l:List Nat):Nat:=l.countP (fun n=>decide (0<n))
def bK (l:List Nat):Bool:=decide (dL l≤32768)&&(decide (dL l=32768)||decide (dp l=0)||(decide (dp l=1)&&decide (bI l 1=1)))
def bE (l:List Nat):Nat→Nat
 | 0=>0
 | 1=>0
 | n+2=>bE l (n+1)+bI l (n+1)
def rf (l:List Nat) (n:Nat):List Nat:=(List.range l.length).filter fun s=>l.getD s 0==n
def sortL (l:List Nat):Nat→List Nat
 | 0=>[]
 | n+1=>sortL l n++rf l (n+1)
theorem o7 (l:List Nat) (x n:Nat):bI (l++[x]) n=bI l n+if x=n then 1 else 0:=by
 simp only[bI,List.countP_append,List.countP_singleton,beq_iff_eq]
theorem sZ (l:List Nat) (n:Nat):∀k,1≤n→(fstL l n+bI l n)*2^k≤fstL l (n+k)+(if k=0 then bI l n else 0)
 | 0,h=>by simp
 | k+1,h=>by
  have ih:=sZ l n k h
  rw[if_neg (by omega)]
  obtain⟨m,hm⟩:∃m,n+k=m+1:=⟨n+k-1,by omega⟩
  rw[show n+(k+1)=m+2 by omega]
  simp only[fstL]
  rw[hm]at ih
  rw[Nat.pow_succ,←Nat.mul_assoc]
  split at ih
  ·rename_i hk;subst hk
   have:n=m+1:=by omega
   subst this
   simp at ih ⊢;omega
  ·omega
theorem am0 (l:List Nat) {n:Nat} (h1:1≤n) (h2:n≤15):(fstL l n+bI l n)*2^(15-n)≤dL l:=by
 have:=sZ l n (15-n) h1
 rw[show n+(15-n)=15 by omega]at this
 unfold dL
 split at this
 ·have:n=15:=by omega
  subst this;omega
 ·omega
theorem tD {l:List Nat} (h:dL l≤32768) {n:Nat} (h1:1≤n) (h2:n≤15):fstL l n+bI l n≤2^n:=by
 have h3:=am0 l h1 h2
 have h4:(2:Nat)^n*2^(15-n)=32768:=by rw[←Nat.pow_add,show n+(15-n)=15 by omega]
 refine Nat.le_of_mul_le_mul_right (c:=2^(15-n)) ?_ (Nat.pow_pos (by decide))
 omega
theorem eT {α:Type} (l:List α) {k:Nat} (d:α) (h:k<l.length):l.take (k+1)=l.take k++[l.getD k d]:=by
 rw[List.take_add_one,List.getD_eq_getElem?_getD,List.getElem?_eq_getElem h];rfl
theorem I3 (l:List Nat) (k n:Nat):bI (l.take k) n≤bI l n:=by
 unfold bI
 exact List.Sublist.countP_le (List.take_sublist k l)
theorem uy (l:List Nat) {s:Nat} (h:s<l.length):j5 l s<bI l (l.getD s 0):=by
 have h1:=eT l 0 h
 have h2:=I3 l (s+1) (l.getD s 0)
 rw[h1,o7,if_pos rfl]at h2
 unfold j5;omega
theorem JS {l:List Nat} (hc:dL l≤32768) {s:Nat} (h:s<l.length) (h1:1≤l.getD s 0) (h2:l.getD s 0≤15):fk l s<2^l.getD s 0:=by
 have:=tD hc h1 h2
 have:=uy l h
 unfold fk;omega
theorem yf (p:Nat→Bool):∀(N k:Nat),k<((List.range N).filter p).length→∃s,((List.range N).filter p).getD k 0=s∧s<N∧p s=true∧((List.range s).filter p).length=k
 | 0,k,h=>by simp at h
 | N+1,k,h=>by
  rw[List.range_succ,List.filter_append]at h ⊢
  by_cases hk:k<((List.range N).filter p).length
  ·obtain⟨s,h1,h2,h3,h4⟩:=yf p N k hk
   refine⟨s,?_,by omega,h3,h4⟩
   rw[←h1,List.getD_eq_getElem?_getD,List.getD_eq_getElem?_getD,List.getElem?_append_left hk]
  ·cases hp:p N with
   | false=>simp[hp]at h;omega
   | true=>
    simp[hp]at h
    have:k=((List.range N).filter p).length:=by omega
    refine⟨N,?_,by omega,hp,this.symm⟩
    rw[List.getD_eq_getElem?_getD,List.getElem?_append_right (by omega),this]
    simp[hp]
theorem mY (l:List Nat) (n:Nat):∀k,k≤l.length→bI (l.take k) n=((List.range k).filter fun s=>l.getD s 0==n).length
 | 0,_=>by simp[bI]
 | k+1,h=>by
  rw[eT l 0 h,o7,mY l n k (by omega),List.range_succ,List.filter_append,List.length_append]
  by_cases h1:l.getD k 0=n
  ·rw[if_pos h1];simp[-List.getD_eq_getElem?_getD,h1]
  ·rw[if_neg h1];simp[-List.getD_eq_getElem?_getD,h1]
theorem Cx (l:List Nat) (n:Nat):(rf l n).length=bI l n:=by
 have:=mY l n l.length (Nat.le_refl _)
 rw[List.take_length]at this
 rw[this];rfl
theorem amR (l:List Nat) (n k:Nat) (h:k<bI l n):∃s,(rf l n).getD k 0=s∧s<l.length∧l.getD s 0=n∧j5 l s=k:=by
 rw[←Cx]at h
 obtain⟨s,h1,h2,h3,h4⟩:=yf (fun s=>l.getD s 0==n) l.length k h
 have h3':l.getD s 0=n:=by simpa[-List.getD_eq_getElem?_getD]using h3
 refine⟨s,h1,h2,h3',?_⟩
 unfold j5
 rw[h3',mY l n s (by omega),h4]
theorem lh (l:List Nat):∀n,(sortL l n).length=bE l (n+1)
 | 0=>rfl
 | n+1=>by
  simp only[sortL,List.length_append,lh l n,Cx,bE]
theorem Cj (l:List Nat) (n:Nat):∀m (k:Nat),k<(sortL l n).length→(sortL l (n+m)).getD k 0=(sortL l n).getD k 0
 | 0,k,h=>rfl
 | m+1,k,h=>by
  have ih:=Cj l n m k h
  have hl:(sortL l n).length≤(sortL l (n+m)).length:=by
   clear ih h
   induction m with
   | zero=>exact Nat.le_refl _
   | succ m ih=>rw[←Nat.add_assoc];simp only[sortL,List.length_append];omega
  rw[←Nat.add_assoc]
  simp only[sortL]
  rw[←ih,List.getD_eq_getElem?_getD,List.getD_eq_getElem?_getD,List.getElem?_append_left (by omega)]
theorem uJ (l:List Nat) {N n k:Nat} (h1:1≤n) (h2:n≤N) (h:k<bI l n):∃s,(sortL l N).getD (bE l n+k) 0=s∧s<l.length∧l.getD s 0=n∧j5 l s=k:=by
 obtain⟨s,h3,h4⟩:=amR l n k h
 refine⟨s,?_,h4⟩
 obtain⟨m,rfl⟩:∃m,n=m+1:=⟨n-1,by omega⟩
 obtain⟨d,rfl⟩:∃d,N=m+1+d:=⟨N-(m+1),by omega⟩
 rw[Cj l (m+1) d (bE l (m+1)+k) (by rw[lh];simp only[bE];omega)]
 simp only[sortL]
 rw[←h3,List.getD_eq_getElem?_getD,List.getD_eq_getElem?_getD,List.getElem?_append_right (by rw[lh];omega),lh]
 congr 2;omega
theorem nI (l:List Nat) (n:Nat):∀m,bE l n≤bE l (n+m)
 | 0=>Nat.le_refl _
 | m+1=>by
  have:=nI l n m
  cases n with
  | zero=>simp[bE]
  | succ n=>rw[show n+1+(m+1)=(n+m)+2 by omega];simp only[bE];rw[show n+m+1=n+1+m by omega];omega
theorem uk (l:List Nat) (h:∀n∈l,n≤15):bE l 16=dp l:=by
 have key:∀(l:List Nat) (n:Nat),bE l (n+1)=l.countP (fun x=>decide (0<x∧x≤n)):=by
  intro l n
  induction n with
  | zero=>simp only[bE];symm;rw[List.countP_eq_zero];intro x _;simp;omega
  | succ n ih=>
   simp only[bE]
   rw[ih]
   unfold bI
   clear ih
   induction l with
   | nil=>rfl
   | cons x l ih=>
    simp only[List.countP_cons,beq_iff_eq,decide_eq_true_eq]
    by_cases h1:x=n+1
    ·rw[if_neg (by omega),if_pos h1,if_pos (by omega)];omega
    ·by_cases h2:0<x∧x≤n
     ·rw[if_pos h2,if_neg h1,if_pos (by omega)];omega
     ·rw[if_neg h2,if_neg h1,if_neg (by omega)];omega
 rw[key]
 unfold dp
 refine List.countP_congr fun x hx=>?_
 have:=h x hx
 simp;omega
def fv (b c:List Bool):Bool:=!c.isEmpty&&c.isPrefixOf b
def readL (cs:List (List Bool)) (b:List Bool):Nat×Nat×Nat:=
 match cs.findIdx? (fv b)with
 | some s=>(s,(cs.getD s []).length,0)
 | none=>if cs.all (·.isEmpty)then(0,0,3)else if cs.any (fun c=>decide (b.length<c.length)&&b.isPrefixOf c)then(0,0,6)else(0,0,3)
theorem mZ (l:List Nat) (s:Nat):(cE l s).length=l.getD s 0:=by
 unfold cE
 split
 ·rename_i h;rw[h];rfl
 ·exact wc _ _
theorem I7 (l:List Nat) {s:Nat} (h:s<l.length):(bF l).getD s []=cE l s:=by
 unfold bF
 rw[List.getD_eq_getElem?_getD,List.getElem?_map,List.getElem?_range h];rfl
theorem pY {l:List Nat} (hc:dL l≤32768) (hl:∀n∈l,n≤15) (b:List Bool) {s:Nat} (h:s<l.length) :
    fv b (cE l s)=true↔1≤l.getD s 0∧l.getD s 0≤b.length∧msb (b.take (l.getD s 0))=fk l s:=by
 have h15:l.getD s 0≤15:=by
  have:l.getD s 0∈l:=by rw[List.getD_eq_getElem?_getD,List.getElem?_eq_getElem h];exact List.getElem_mem h
  exact hl _ this
 have hlen:=mZ l s
 unfold fv
 by_cases h0:l.getD s 0=0
 ·have:cE l s=[]:=by unfold cE;rw[if_pos h0]
  rw[this];simp[-List.getD_eq_getElem?_getD];omega
 ·have hcw:=JS hc h (by omega) h15
  have hcd:cE l s=bitsM (fk l s) (l.getD s 0):=by unfold cE;rw[if_neg h0]
  have hne:(cE l s).isEmpty=false:=by
   cases hh:cE l s with
   | nil=>rw[hh]at hlen;simp[-List.getD_eq_getElem?_getD]at hlen;omega
   | cons=>rfl
  rw[hne]
  simp only[Bool.not_false,Bool.true_and,List.isPrefixOf_iff_prefix]
  constructor
  ·intro hp
   have h1:=hp.length_le
   rw[hlen]at h1
   have h2:=List.prefix_iff_eq_take.1 hp
   rw[hlen]at h2
   refine⟨by omega,h1,?_⟩
   rw[←h2,hcd,Ae _ _ hcw]
  ·rintro⟨_,h1,h2⟩
   refine List.prefix_iff_eq_take.2 ?_
   rw[hlen,hcd,←h2]
   have:=we (b.take (l.getD s 0))
   rw[List.length_take,Nat.min_eq_left h1]at this
   exact this
def lA (l:List Nat) (b:List Bool) (n:Nat):Prop:=∀s,s<l.length→1≤l.getD s 0→l.getD s 0<n→fv b (cE l s)=false
theorem sP {l:List Nat} {b:List Bool} (h:∀s,s<l.length→fv b (cE l s)=false):(bF l).findIdx? (fv b)=none:=by
 rw[List.findIdx?_eq_none_iff]
 intro c hc
 obtain⟨s,hs,rfl⟩:=List.mem_map.1 hc
 exact h s (List.mem_range.1 hs)
theorem NS {l:List Nat} {b:List Bool} {s:Nat} (hs:s<l.length) (h1:fv b (cE l s)=true) (h2:∀t,t<l.length→fv b (cE l t)=true→t=s):(bF l).findIdx? (fv b)=some s:=by
 rw[List.findIdx?_eq_some_iff_getElem]
 refine⟨by simpa[bF]using hs,by simpa[bF]using h1,fun j hj hh=>?_⟩
 have hjl:j<l.length:=by omega
 have:=h2 j hjl (by simpa[bF]using hh)
 omega
theorem td {l:List Nat} {b:List Bool} {s:Nat} (h0:l.getD s 0=0):fv b (cE l s)=false:=by
 unfold cE;rw[if_pos h0];rfl
section
variable {l:List Nat} (hc:dL l≤32768) (hl:∀n∈l,n≤15) {b:List Bool} {n:Nat}
include hl in
theorem tK (s:Nat):l.getD s 0≤15:=by
 by_cases h:s<l.length
 ·refine hl _ ?_
  rw[List.getD_eq_getElem?_getD,List.getElem?_eq_getElem h];exact List.getElem_mem h
 ·rw[List.getD_eq_getElem?_getD,List.getElem?_eq_none (by omega)];exact Nat.zero_le _
theorem aaI (h0:n<b.length) (hj:fstL l (n+1)≤2*msb (b.take n)):fstL l (n+1)≤msb (b.take (n+1)):=by
 rw[tS b n h0];omega
include hc hl in
theorem aaL (h1:n<15) (h0:n<b.length) (hn:lA l b (n+1)) (hj:fstL l (n+1)≤2*msb (b.take n)) {k:Nat} (hk:msb (b.take (n+1))=fstL l (n+1)+k) (hk2:k<bI l (n+1)) :
    ∃s,(sortL l 15).getD (bE l (n+1)+k) 0=s∧s<l.length∧readL (bF l) b=(s,n+1,0):=by
 obtain⟨s,g1,g2,g3,g4⟩:=uJ l (N:=15) (n:=n+1) (by omega) (by omega) hk2
 refine⟨s,g1,g2,?_⟩
 have hit:fv b (cE l s)=true:=(pY hc hl b g2).2 ⟨by omega,by omega,by rw[g3,hk];unfold fk;rw[g3,g4]⟩
 have hone:=NS g2 hit (fun t ht hh=>by
  obtain⟨e1,e2,e3⟩:=(pY hc hl b ht).1 hh
  by_cases q1:l.getD t 0<n+1
  ·rw[hn t ht e1 q1]at hh;cases hh
  ·by_cases q2:l.getD t 0=n+1
   ·rw[q2,hk]at e3
    have hr:j5 l t=k:=by unfold fk at e3;rw[q2]at e3;omega
    have ht':((List.range l.length).filter fun s=>l.getD s 0==n+1).length=((List.range l.length).filter fun s=>l.getD s 0==n+1).length:=rfl
    unfold j5 at hr g4
    rw[q2,mY l (n+1) t (by omega)]at hr
    rw[g3,mY l (n+1) s (by omega)]at g4
    have key:∀x y,x<y→l.getD x 0=n+1→((List.range x).filter fun s=>l.getD s 0==n+1).length<((List.range y).filter fun s=>l.getD s 0==n+1).length:=by
     intro x y hxy hx
     obtain⟨d,rfl⟩:∃d,y=x+1+d:=⟨y-(x+1),by omega⟩
     have hs:List.Sublist (List.range (x+1)) (List.range (x+1+d)):=List.range_sublist.2 (by omega)
     have:=(hs.filter (fun s=>l.getD s 0==n+1)).length_le
     rw[List.range_succ,List.filter_append,List.length_append]at this
     simp only[List.filter_cons,hx,beq_self_eq_true,if_true,List.filter_nil,List.length_singleton]at this
     omega
    rcases Nat.lt_trichotomy t s with q | q | q
    ·have:=key t s q q2;omega
    ·exact q
    ·have:=key s t q g3;omega
   ·exfalso
    obtain⟨d,hd⟩:∃d,l.getD t 0=(n+1)+(d+1):=⟨l.getD t 0-(n+2),by omega⟩
    rw[hd]at e2 e3
    have h5:=(Ag b (n+1) (d+1) (by omega)).2
    have h6:=sZ l (n+1) (d+1) (by omega)
    rw[if_neg (by omega),Nat.add_zero]at h6
    rw[e3]at h5
    have h7:fstL l (n+1+(d+1))≤fk l t:=by unfold fk;rw[hd];omega
    have h8:(msb (b.take (n+1))+1)*2^(d+1)≤(fstL l (n+1)+bI l (n+1))*2^(d+1):=Nat.mul_le_mul_right _ (by omega)
    omega)
 unfold readL
 rw[hone]
 simp only
 rw[I7 l g2,mZ,g3]
include hc hl in
theorem aaJ (h1:n<15) (h0:n<b.length) (hn:lA l b (n+1)) (hk:fstL l (n+1)+bI l (n+1)≤msb (b.take (n+1))) :
    lA l b (n+2)∧fstL l (n+2)≤2*msb (b.take (n+1)):=by
 refine⟨fun s hs e1 e2=>?_,by simp only[fstL];omega⟩
 by_cases q:l.getD s 0<n+1
 ·exact hn s hs e1 q
 ·have e3:l.getD s 0=n+1:=by omega
  cases hh:fv b (cE l s)with
  | false=>rfl
  | true=>
   obtain⟨_,_,e4⟩:=(pY hc hl b hs).1 hh
   have:=uy l hs
   unfold fk at e4
   rw[e3]at e4 this
   omega
theorem ag9 (hp:bE l (n+1)=dp l) (hl:∀n∈l,n≤15) (hn:n≤15) {s:Nat} (hs:s<l.length) (h1:1≤l.getD s 0):l.getD s 0≤n:=by
 refine Nat.le_of_not_lt fun hlt=>?_
 have h2:=uk l hl
 have h15:l.getD s 0≤15:=tK hl s
 have h3:=uy l hs
 obtain⟨m,hm⟩:∃m,l.getD s 0=m+1:=⟨l.getD s 0-1,by omega⟩
 have h4:=nI l (m+2) (16-(m+2))
 rw[show m+2+(16-(m+2))=16 by omega]at h4
 have h5:=nI l (n+1) (m+1-(n+1))
 rw[show n+1+(m+1-(n+1))=m+1 by omega]at h5
 have h6:bE l (m+1)+bI l (m+1)≤bE l 16:=h4
 rw[hm]at h3
 omega
theorem all_empty (h:0<dp l):(bF l).all (·.isEmpty)=false:=by
 unfold dp at h
 obtain⟨x,hx,h1⟩:=List.countP_pos_iff.1 h
 obtain⟨s,hs,rfl⟩:=List.getElem_of_mem hx
 rw[List.all_eq_false]
 refine⟨cE l s,List.mem_map.2 ⟨s,List.mem_range.2 hs,rfl⟩,?_⟩
 have:=mZ l s
 rw[List.getD_eq_getElem?_getD,List.getElem?_eq_getElem hs]at this
 simp at h1 this
 cases hh:cE l s with
 | nil=>rw[hh]at this;simp at this;omega
 | cons=>simp
include hl in
theorem aaK (h0:n≤b.length) (h15:n≤15) (hp:bE l (n+1)=dp l) (hpos:0<dp l) (hn:lA l b (n+1)):readL (bF l) b=(0,0,3):=by
 unfold readL
 have hlv:∀s,s<l.length→1≤l.getD s 0→l.getD s 0≤n:=fun s hs h1=>ag9 hp hl h15 hs h1
 rw[sP (fun s hs=>by
  by_cases h1:1≤l.getD s 0
  ·exact hn s hs h1 (by have:=hlv s hs h1;omega)
  ·exact td (by omega))]
 simp only
 rw[all_empty hpos,if_neg (by simp),if_neg]
 simp only[List.any_eq_true,Bool.and_eq_true,decide_eq_true_eq]
 rintro⟨c,h1,h2,_⟩
 obtain⟨s,hs,rfl⟩:=List.mem_map.1 h1
 rw[mZ]at h2
 have:=hlv s (List.mem_range.1 hs) (by omega)
 omega
include hl in
theorem aaH (hck:bK l=true) (h15:b.length<15) (hp:bE l (b.length+1)<dp l) (hn:lA l b (b.length+1)) (hj:fstL l (b.length+1)≤2*msb b):readL (bF l) b=(0,0,6):=by
 have hpos:0<dp l:=by omega
 have hc:dL l≤32768:=by unfold bK at hck;simp at hck;exact hck.1
 unfold readL
 rw[sP (fun s hs=>by
  by_cases h1:1≤l.getD s 0
  ·by_cases h2:l.getD s 0<b.length+1
   ·exact hn s hs h1 h2
   ·cases hh:fv b (cE l s)with
    | false=>rfl
    | true=>have:=((pY hc hl b hs).1 hh).2.1;omega
  ·exact td (by omega))]
 simp only
 rw[all_empty hpos,if_neg (by simp),if_pos]
 simp only[List.any_eq_true,Bool.and_eq_true,decide_eq_true_eq,List.isPrefixOf_iff_prefix]
 -- a symbol whose code begins with these bits
 have found:∀m k s,m=b.length+1+k→m≤15→s<l.length→l.getD s 0=m→fk l s=msb b*2^(k+1)→∃x,x∈bF l∧b.length<x.length∧b <+: x:=by
  intro m k s hm hm15 hs hls hcw
  refine⟨cE l s,List.mem_map.2 ⟨s,List.mem_range.2 hs,rfl⟩,by rw[mZ];omega,?_⟩
  have hcd:cE l s=bitsM (fk l s) (l.getD s 0):=by unfold cE;rw[if_neg (by omega)]
  rw[hcd,hls,hcw,hm]
  have hb:∀k,bitsM (msb b*2^k) (b.length+k)=b++List.replicate k false:=by
   intro k
   induction k with
   | zero=>simp[we]
   | succ k ih=>
    show bitsM _ ((b.length+k)+1)=_
    unfold bitsM
    rw[show msb b*2^(k+1)/2=msb b*2^k by rw[Nat.pow_succ,←Nat.mul_assoc];omega,ih,show(msb b*2^(k+1)%2==1)=false by rw[Nat.pow_succ,←Nat.mul_assoc];simp,List.append_assoc,←List.replicate_succ']
  rw[show b.length+1+k=b.length+(k+1)by omega,hb]
  exact List.prefix_append _ _
 unfold bK at hck
 simp only[Bool.and_eq_true,Bool.or_eq_true,decide_eq_true_eq]at hck
 rcases hck.2 with(h32 | h0) | ⟨h1,h2⟩
 ·-- complete: some interval holds these bits
  have hlt:=Af b
  have base:fstL l (b.length+1)*2^(14-b.length)≤msb b*2^(15-b.length):=by
   have h3:(2:Nat)^(15-b.length)=2*2^(14-b.length):=by rw[show 15-b.length=(14-b.length)+1 by omega,Nat.pow_succ];omega
   rw[h3,←Nat.mul_assoc,Nat.mul_comm (msb b) 2]
   exact Nat.mul_le_mul_right _ hj
  have go:∀d m,m+d=15→b.length<m→fstL l m*2^(15-m)≤msb b*2^(15-b.length)→∃m',m≤m'∧m'≤15∧fstL l m'*2^(15-m')≤msb b*2^(15-b.length)∧msb b*2^(15-b.length)<(fstL l m'+bI l m')*2^(15-m'):=by
   intro d
   induction d with
   | zero=>
    intro m h3 h4 h5
    have:m=15:=by omega
    subst this
    refine⟨15,Nat.le_refl _,Nat.le_refl _,h5,?_⟩
    have h6:msb b*2^(15-b.length)<2^b.length*2^(15-b.length):=Nat.mul_lt_mul_of_pos_right hlt (Nat.pow_pos (by decide))
    rw[←Nat.pow_add,show b.length+(15-b.length)=15 by omega]at h6
    unfold dL at h32
    rw[h32]
    simpa using h6
   | succ d ih=>
    intro m h3 h4 h5
    by_cases h6:msb b*2^(15-b.length)<(fstL l m+bI l m)*2^(15-m)
    ·exact⟨m,Nat.le_refl _,by omega,h5,h6⟩
    ·obtain⟨q,rfl⟩:∃q,m=q+1:=⟨m-1,by omega⟩
     obtain⟨m',e1,e2,e3⟩:=ih (q+2) (by omega) (by omega) (by
      simp only[fstL]
      have h7:(2:Nat)^(15-(q+1))=2*2^(15-(q+2)):=by rw[show 15-(q+1)=(15-(q+2))+1 by omega,Nat.pow_succ];omega
      rw[h7,←Nat.mul_assoc,Nat.mul_comm _ 2]at h6
      omega)
     exact⟨m',by omega,e2,e3⟩
  obtain⟨m,e1,e2,e3,e4⟩:=go (14-b.length) (b.length+1) (by omega) (by omega) (by rw[show 15-(b.length+1)=14-b.length by omega];exact base)
  obtain⟨k,rfl⟩:∃k,m=b.length+1+k:=⟨m-(b.length+1),by omega⟩
  have h5:(2:Nat)^(15-b.length)=2^(k+1)*2^(15-(b.length+1+k)):=by rw[←Nat.pow_add];congr 1;omega
  rw[h5,←Nat.mul_assoc]at e3 e4
  have e5:=Nat.le_of_mul_le_mul_right e3 (Nat.pow_pos (by decide))
  have e6:=Nat.lt_of_mul_lt_mul_right e4
  obtain⟨s,_,g2,g3,g4⟩:=uJ l (N:=15) (n:=b.length+1+k) (k:=msb b*2^(k+1)-fstL l (b.length+1+k)) (by omega) e2 (by omega)
  exact found _ k s rfl e2 g2 g3 (by unfold fk;rw[g3,g4];omega)
 ·omega
 ·-- one code of one bit
  have hb0:b.length=0:=by
   refine Nat.eq_zero_of_not_pos fun hb=>?_
   have h3:=nI l 2 (b.length+1-2)
   rw[show 2+(b.length+1-2)=b.length+1 by omega]at h3
   have h4:0+bI l 1≤bE l (b.length+1):=h3
   omega
  have hbn:=List.length_eq_zero_iff.1 hb0
  subst hbn
  obtain⟨s,_,g2,g3,g4⟩:=uJ l (N:=15) (n:=1) (k:=0) (by omega) (by omega) (by omega)
  refine found 1 0 s rfl (by omega) g2 g3 ?_
  unfold fk
  rw[g3,g4]
  simp[fstL,msb]
end
def iw (s:Bs) (i:Nat):Bool:=(s.getD (i/8) 0).toNat.testBit (i%8)
def numAt (s:Bs) (p:Nat):Nat→Nat
 | 0=>0
 | n+1=>numAt s p n+(if iw s (p+n)then 2^n else 0)
def ck (s:Bs) (p:Nat):List Bool:=(List.range (8*s.length-p)).map fun i=>iw s (p+i)
theorem fQ (s:Bs) (p:Nat):∀n,numAt s p n<2^n
 | 0=>by simp[numAt]
 | n+1=>by
  have:=fQ s p n
  simp only[numAt]
  rw[Nat.pow_succ]
  split<;>omega
theorem num_add (s:Bs) (p m:Nat):∀n,numAt s p (m+n)=numAt s p m+2^m*numAt s (p+m) n
 | 0=>by simp[numAt]
 | n+1=>by
  rw[←Nat.add_assoc]
  simp only[numAt]
  rw[num_add s p m n,Nat.add_assoc p m n,Nat.mul_add]
  split
  ·rw[Nat.pow_add];omega
  ·omega
theorem qu (s:Bs) (p:Nat) {m n:Nat} (h:m≤n):numAt s p n%2^m=numAt s p m:=by
 obtain⟨d,rfl⟩:∃d,n=m+d:=⟨n-m,by omega⟩
 rw[num_add,Nat.add_mul_mod_self_left,Nat.mod_eq_of_lt (fQ s p m)]
theorem nD (s:Bs) (p:Nat) {m n:Nat} (h:m≤n):numAt s p n/2^m=numAt s (p+m) (n-m):=by
 obtain⟨d,rfl⟩:∃d,n=m+d:=⟨n-m,by omega⟩
 rw[num_add,Nat.add_mul_div_left _ _ (Nat.pow_pos (by decide)),Nat.div_eq_of_lt (fQ s p m),Nat.zero_add,Nat.add_sub_cancel_left]
theorem amK (x:Nat):∀n,x%2^(n+1)=x%2^n+(if x.testBit n then 2^n else 0):=by
 intro n
 rw[Nat.pow_succ,Nat.mod_mul,Nat.testBit_eq_decide_div_mod_eq]
 rcases Nat.mod_two_eq_zero_or_one (x/2^n)with h | h<;>simp[h]
theorem qs (s:Bs) (a:Nat):numAt s (8*a) 8=(s.getD a 0).toNat:=by
 have key:∀n,n≤8→numAt s (8*a) n=(s.getD a 0).toNat%2^n:=by
  intro n
  induction n with
  | zero=>intro _;simp[numAt,Nat.mod_one]
  | succ n ih=>
   intro h
   simp only[numAt]
   rw[ih (by omega),amK]
   unfold iw
   rw[show(8*a+n)/8=a by omega,show(8*a+n)%8=n by omega]
 rw[key 8 (Nat.le_refl _),Nat.mod_eq_of_lt (by have:=(s.getD a 0).toNat_lt;omega)]
theorem abJ (s:Bs) (a n:Nat) (h:n≤8*a):numAt s (8*a-n) (n+8)=numAt s (8*a-n) n+(s.getD a 0).toNat*2^n:=by
 rw[num_add,show 8*a-n+n=8*a by omega,qs,Nat.mul_comm (2^n)]
theorem abL (s:Bs) (p m n:Nat):numAt s p (m+n)=numAt s p m+numAt s (p+m) n*2^m:=by rw[num_add,Nat.mul_comm (2^m)]
theorem abK (s:Bs) (p:Nat):numAt s p 1=(iw s p).toNat:=by
 simp only[numAt,Nat.add_zero];cases iw s p<;>rfl
theorem uw (s:Bs) (p:Nat):(ck s p).length=8*s.length-p:=by simp[ck]
theorem aiw (s:Bs) (p:Nat) {n:Nat} (h:p+n<8*s.length):(ck s p).getD n false=iw s (p+n):=by
 unfold ck
 rw[List.getD_eq_getElem?_getD,List.getElem?_map,List.getElem?_range (by omega)];rfl
theorem wb (s:Bs) (a i:Nat):iw (s.drop a) i=iw s (8*a+i):=by
 unfold iw
 rw[List.getD_eq_getElem?_getD,List.getElem?_drop,←List.getD_eq_getElem?_getD,show(8*a+i)/8=a+i/8 by omega,show(8*a+i)%8=i%8 by omega]
theorem qt (s:Bs) (a p:Nat):∀n,numAt (s.drop a) p n=numAt s (8*a+p) n
 | 0=>rfl
 | n+1=>by
  simp only[numAt]
  rw[qt s a p n,wb,Nat.add_assoc]
theorem uv (s:Bs) (a p:Nat):ck (s.drop a) p=ck s (8*a+p):=by
 unfold ck
 rw[List.length_drop,show 8*(s.length-a)-p=8*s.length-(8*a+p)by omega]
 congr 1
 funext i
 rw[wb,Nat.add_assoc]
end Go.Proofs.YtoalcafkffmiiaaGreatDoor.Pk
namespace Go.Proofs.YtoalcafkffmiiaaGreatDoor.Pk
structure SS where
 p:Nat
 out:Bs
 err:Nat
def eP (e:Nat) (S:SS):SS:=if S.err=0 then {S with err:=e} else S
def bM (t:Bs) (n:Nat) (S:SS):Nat×SS:=
 if S.err≠0 then(0,S)else if 8*t.length<S.p+n then(0,{S with err:=6})else(numAt t S.p n,{S with p:=S.p+n})
def bP (t:Bs) (l:List Nat) (S:SS):Nat×SS:=
 if S.err≠0 then(0,S)else if(readL (bF l) (ck t S.p)).2.2≠0 then(0,{S with err:=(readL (bF l) (ck t S.p)).2.2})
  else((readL (bF l) (ck t S.p)).1,{S with p:=S.p+(readL (bF l) (ck t S.p)).2.1})
def fb (most:Nat) (c:UInt8) (S:SS):SS:=if S.err≠0 then S else if most≤S.out.length then {S with err:=2} else {S with out:=S.out++[c]}
def rawS (t:Bs) (most:Nat):Nat→SS→SS
 | 0,S=>S
 | n+1,S=>if S.err≠0 then S else rawS t most n (fb most (UInt8.ofNat (bM t 8 S).1) (bM t 8 S).2)
def lr (S:SS):SS:={S with p:=(S.p+7)/8*8}
def fH (t:Bs) (most:Nat) (S:SS):SS:=
 let a:=bM t 16 (lr S)
 let b:=bM t 16 a.2
 rawS t most a.1 (if a.1+b.1≠65535 then eP 3 b.2 else b.2)
def fS:List Nat:=[16,17,18,0,8,7,9,6,10,5,11,4,12,3,13,2,14,1,15]
def firstS (t:Bs) (nc:Nat):Nat→List Nat→SS→List Nat×SS
 | 0,l,S=>(l,S)
 | k+1,l,S=>if S.err≠0 then(l,S)else firstS t nc k (l.set (fS.getD (nc-(k+1)) 0) (bM t 3 S).1) (bM t 3 S).2
def dy (t:Bs) (l:List Nat) (s:Nat) (S:SS):Nat×Nat×SS:=
 if s=16 then(if l=[]then(0,0,eP 3 S)else(3+(bM t 2 S).1,l.getD (l.length-1) 0,(bM t 2 S).2))
 else if s=17 then(3+(bM t 3 S).1,0,(bM t 3 S).2)
 else if s=18 then(11+(bM t 7 S).1,0,(bM t 7 S).2)
 else(1,s,S)
def dx (N:Nat) (l:List Nat) (b:Nat×Nat×SS):SS:=if N<l.length+b.1 then eP 3 b.2.2 else b.2.2
def gT (t:Bs) (fl:List Nat) (N:Nat):Nat→List Nat→SS→List Nat×SS
 | 0,l,S=>(l,S)
 | k+1,l,S=>
  if N≤l.length∨S.err≠0 then(l,S)else
   let a:=bP t fl S
   let b:=dy t l a.1 a.2
   let c:=dx N l b
   if c.err≠0 then(l,c)else gT t fl N k (l++List.replicate b.1 b.2.1) c
def eD (t:Bs) (S:SS):(List Nat×List Nat)×SS:=
 if 8*t.length<S.p+14 then(([],[]),{S with err:=6})else
 let nl:=numAt t S.p 5+257
 let nd:=numAt t (S.p+5) 5+1
 let nc:=numAt t (S.p+10) 4+4
 if 286<nl∨30<nd then(([],[]),{S with p:=S.p+14,err:=3})else
 let a:=firstS t nc nc (List.replicate 19 0) {S with p:=S.p+14}
 if a.2.err≠0 then(([],[]),a.2)else if bK a.1=false then(([],[]),{a.2 with err:=3})else
 let b:=gT t a.1 (nl+nd) (nl+nd) [] a.2
 if b.2.err≠0 then(([],[]),b.2)else
 if b.1.getD 256 0=0∨bK (b.1.take nl)=false∨bK (b.1.drop nl)=false then(([],[]),{b.2 with err:=3})else((b.1.take nl,b.1.drop nl),b.2)
def gj:List Nat:=List.replicate 144 8++List.replicate 112 9++List.replicate 24 7++List.replicate 8 8
def gi:List Nat:=List.replicate 32 5
def cW (i:Nat):Nat×Nat:=if i=28 then(258,0)else if i<8 then(3+i,0)else(3+(4+i%4)*2^(i/4-1),i/4-1)
def fq (i:Nat):Nat×Nat:=if i<4 then(1+i,0)else(1+(2+i%2)*2^(i/2-1),i/2-1)
def backS (most:Nat) (back:Nat):Nat→SS→SS
 | 0,S=>S
 | n+1,S=>if S.err≠0 then S else backS most back n (fb most (S.out.getD (S.out.length-back) 0) S)
def hU (t:Bs) (most:Nat) (d:List Nat) (s:Nat) (S:SS):SS:=
 if 285<s then eP 3 S else
 let a:=bM t (cW (s-257)).2 S
 let k:=bP t d a.2
 if k.2.err≠0 then k.2 else if 29<k.1 then eP 3 k.2 else
 let b:=bM t (fq k.1).2 k.2
 let back:=(fq k.1).1+b.1
 if b.2.err≠0 then b.2 else if b.2.out.length<back then eP 3 b.2 else backS most back ((cW (s-257)).1+a.1) b.2
def eS (t:Bs) (most:Nat) (l d:List Nat) (S:SS):Bool×SS:=
 let a:=bP t l S
 if a.2.err≠0 then(true,a.2)else if a.1=256 then(true,a.2)else if a.1<256 then(false,fb most (UInt8.ofNat a.1) a.2)else(false,hU t most d a.1 a.2)
def k9 (t:Bs) (most:Nat) (l d:List Nat):Nat→SS→SS
 | 0,S=>S
 | k+1,S=>if S.err≠0 then S else if(eS t most l d S).1 then(eS t most l d S).2 else k9 t most l d k (eS t most l d S).2
def fR (t:Bs) (most:Nat) (l d:List Nat) (S:SS):SS:=k9 t most l d (8*t.length+1-S.p) S
def fj (t:Bs) (most:Nat) (S:SS):Bool×SS:=
 if 8*t.length<S.p+3 then(true,{S with err:=6})else
 let S3:={S with p:=S.p+3}
 (numAt t S.p 1=1,if numAt t (S.p+1) 2=0 then fH t most S3 else if numAt t (S.p+1) 2=1 then fR t most gj gi S3
  else if numAt t (S.p+1) 2=2 then(if(eD t S3).2.err≠0 then(eD t S3).2 else fR t most (eD t S3).1.1 (eD t S3).1.2 (eD t S3).2)else {S3 with err:=3})
def mo (t:Bs) (most:Nat):Nat→SS→SS
 | 0,S=>S
 | k+1,S=>if(fj t most S).2.err≠0∨(fj t most S).1=true then(fj t most S).2 else mo t most k (fj t most S).2
def fT (t:Bs) (most:Nat) (S:SS):SS:=mo t most (8*t.length+1-S.p) S
def eV (t:Bs) (most:Nat):Bs×Nat×Nat:=
 let S:=fT t most ⟨0,[],0⟩
 if S.err≠0 then([],0,S.err)else(S.out,(S.p+7)/8,0)
structure Mv (t:Bs) (most:Nat) (S S':SS):Prop where
 p:S.p≤S'.p
 q:S.p≤8*t.length→S'.p≤8*t.length
 o:S.out.length≤most→S'.out.length≤most
section
variable {t:Bs} {most:Nat} {S:SS}
theorem Mv.refl:Mv t most S S:=⟨Nat.le_refl _,fun h=>h,fun h=>h⟩
theorem Mv.trans {S1 S2:SS} (h:Mv t most S S1) (k:Mv t most S1 S2):Mv t most S S2:=⟨Nat.le_trans h.p k.p,fun g=>k.q (h.q g),fun g=>k.o (h.o g)⟩
theorem iJ {e:Nat}:Mv t most S {S with err:=e}:=⟨Nat.le_refl _,fun h=>h,fun h=>h⟩
theorem mc {e:Nat}:Mv t most S (eP e S):=by unfold eP;split;exact iJ;exact .refl
theorem x5 {e:Nat} (h:e≠0):(eP e S).err≠0:=by unfold eP;split;exact h;assumption
theorem kG {e:Nat} (h:S.err=0):eP e S={S with err:=e}:=if_pos h
theorem abI {n:Nat} (h:S.err≠0):bM t n S=(0,S):=if_pos h
theorem kZ {n:Nat} (h:S.err=0) (h1:8*t.length<S.p+n):bM t n S=(0,{S with err:=6}):=by unfold bM;rw[if_neg (by simpa using h),if_pos h1]
theorem jn {n:Nat} (h:S.err=0) (h1:S.p+n≤8*t.length):bM t n S=(numAt t S.p n,{S with p:=S.p+n}):=by unfold bM;rw[if_neg (by simpa using h),if_neg (by omega)]
theorem gV {n:Nat}:Mv t most S (bM t n S).2:=by
 unfold bM
 split
 ·exact .refl
 ·split
  ·exact iJ
  ·exact⟨by simp only;omega,fun _=>by simp only;omega,fun h=>h⟩
theorem nK (cs:List (List Bool)) (b:List Bool) (h:(readL cs b).2.2=0):1≤(readL cs b).2.1∧(readL cs b).2.1≤b.length∧(readL cs b).1<cs.length:=by
 unfold readL at h ⊢
 split at h
 ·rename_i s hs
  simp only
  obtain⟨h1,h2,_⟩:=List.findIdx?_eq_some_iff_getElem.1 hs
  have:cs.getD s []=cs[s]:=by rw[List.getD_eq_getElem?_getD,List.getElem?_eq_getElem h1];rfl
  rw[this]
  unfold fv at h2
  simp only[Bool.and_eq_true,List.isPrefixOf_iff_prefix]at h2
  refine⟨?_,h2.2.length_le,h1⟩
  cases hc:cs[s]with
  | nil=>rw[hc]at h2;simp at h2
  | cons=>simp
 ·split at h
  ·cases h
  ·split at h<;>cases h
theorem amM {l:List Nat} (h:S.err≠0):bP t l S=(0,S):=if_pos h
theorem ra {l:List Nat} (h:S.err=0) (h1:(readL (bF l) (ck t S.p)).2.2≠0):bP t l S=(0,{S with err:=(readL (bF l) (ck t S.p)).2.2}):=by unfold bP;rw[if_neg (by simpa using h),if_pos h1]
theorem rb {l:List Nat} (h:S.err=0) (h1:(readL (bF l) (ck t S.p)).2.2=0):bP t l S=((readL (bF l) (ck t S.p)).1,{S with p:=S.p+(readL (bF l) (ck t S.p)).2.1}):=by unfold bP;rw[if_neg (by simpa using h),if_neg (by simpa using h1)]
theorem me {l:List Nat}:Mv t most S (bP t l S).2:=by
 unfold bP
 split
 ·exact .refl
 ·split
  ·exact iJ
  ·rename_i h
   have:=nK (bF l) (ck t S.p) (by simpa using h)
   rw[uw]at this
   exact⟨by simp only;omega,fun _=>by simp only;omega,fun h=>h⟩
theorem amN {l:List Nat} (h:S.err=0) (h1:(bP t l S).2.err=0):S.p<(bP t l S).2.p∧(bP t l S).1<l.length:=by
 by_cases h2:(readL (bF l) (ck t S.p)).2.2=0
 ·have:=nK (bF l) (ck t S.p) h2
  rw[rb h h2]
  have hl:(bF l).length=l.length:=by simp[bF]
  simp only;omega
 ·rw[ra h h2]at h1;exact(h2 h1).elim
theorem nw {c:UInt8}:Mv t most S (fb most c S):=by
 unfold fb
 split
 ·exact .refl
 ·split
  ·exact iJ
  ·exact⟨Nat.le_refl _,fun h=>h,fun _=>by simp;omega⟩
theorem Al:∀(n:Nat) (S:SS),Mv t most S (rawS t most n S)
 | 0,_=>.refl
 | n+1,S=>by
  unfold rawS
  split
  ·exact .refl
  ·exact gV.trans (nw.trans (Al n _))
theorem abg:Mv t most S (lr S):=⟨by simp only[lr];omega,fun h=>by simp only[lr];omega,fun h=>h⟩
theorem An:Mv t most S (fH t most S):=by
 unfold fH
 have h1:Mv t most S (bM t 16 (bM t 16 (lr S)).2).2:=abg.trans (gV.trans gV)
 refine h1.trans (Mv.trans ?_ (Al _ _))
 split
 ·exact mc
 ·exact .refl
theorem Ai {nc:Nat}:∀(k:Nat) (l:List Nat) (S:SS),Mv t most S (firstS t nc k l S).2
 | 0,_,_=>.refl
 | k+1,l,S=>by
  unfold firstS
  split
  ·exact .refl
  ·exact gV.trans (Ai k _ _)
theorem abf {l:List Nat} {s:Nat}:Mv t most S (dy t l s S).2.2:=by
 unfold dy
 split
 ·split
  ·exact mc
  ·exact gV
 ·split
  ·exact gV
  ·split
   ·exact gV
   ·exact .refl
theorem qk {fl:List Nat} {N:Nat}:∀(k:Nat) (l:List Nat) (S:SS),Mv t most S (gT t fl N k l S).2
 | 0,_,_=>.refl
 | k+1,l,S=>by
  have hc:Mv t most S (dx N l (dy t l (bP t fl S).1 (bP t fl S).2)):=by
   have h1:Mv t most S (dy t l (bP t fl S).1 (bP t fl S).2).2.2:=me.trans abf
   refine h1.trans ?_
   unfold dx
   split
   ·exact mc
   ·exact .refl
  unfold gT
  split
  ·exact .refl
  ·simp only
   split
   ·exact hc
   ·exact hc.trans (qk k _ _)
theorem tT:Mv t most S (eD t S).2:=by
 unfold eD
 split
 ·exact iJ
 ·rename_i h14
  have h1:Mv t most S {S with p:=S.p+14}:=⟨by simp only;omega,fun _=>by simp only;omega,fun h=>h⟩
  simp only
  split
  ·exact h1.trans iJ
  ·have h2:=h1.trans (Ai (nc:=numAt t (S.p+10) 4+4) (numAt t (S.p+10) 4+4) (List.replicate 19 0) {S with p:=S.p+14})
   split
   ·exact h2
   ·split
    ·exact h2.trans iJ
    ·split
     ·exact h2.trans (qk _ _ _)
     ·split
      ·exact(h2.trans (qk _ _ _)).trans iJ
      ·exact h2.trans (qk _ _ _)
theorem Ah {back:Nat}:∀(n:Nat) (S:SS),Mv t most S (backS most back n S)
 | 0,_=>.refl
 | n+1,S=>by
  unfold backS
  split
  ·exact .refl
  ·exact nw.trans (Ah n _)
theorem tU {d:List Nat} {s:Nat}:Mv t most S (hU t most d s S):=by
 unfold hU
 split
 ·exact mc
 ·have h1:Mv t most S (bP t d (bM t (cW (s-257)).2 S).2).2:=gV.trans me
  simp only
  split
  ·exact h1
  ·split
   ·exact h1.trans mc
   ·split
    ·exact h1.trans gV
    ·split
     ·exact(h1.trans gV).trans mc
     ·exact(h1.trans gV).trans (Ah _ _)
theorem nz {l d:List Nat}:Mv t most S (eS t most l d S).2:=by
 unfold eS
 simp only
 split
 ·exact me
 ·split
  ·exact me
  ·split
   ·exact me.trans nw
   ·exact me.trans tU
theorem aml {l d:List Nat} (h:S.err=0) (h1:(eS t most l d S).2.err=0):S.p<(eS t most l d S).2.p:=by
 unfold eS at h1 ⊢
 simp only at h1 ⊢
 split at h1
 ·rename_i h2;exact(h2 h1).elim
 ·rename_i h2
  have h3:=(amN h (by simpa using h2)).1
  rw[if_neg h2]
  split at h1
  ·rename_i h4;rw[if_pos h4];exact h3
  ·rename_i h4
   rw[if_neg h4]
   split
   ·exact Nat.lt_of_lt_of_le h3 (nw (t:=t)).p
   ·exact Nat.lt_of_lt_of_le h3 (tU).p
theorem ue {l d:List Nat}:∀(k:Nat),S.err≠0→k9 t most l d k S=S
 | 0,_=>rfl
 | k+1,h=>if_pos h
theorem qy {l d:List Nat}:∀(k:Nat) (S:SS),S.p≤8*t.length→8*t.length+1-S.p≤k→k9 t most l d k S=fR t most l d S
 | 0,S,h0,h=>by omega
 | k+1,S,h0,h=>by
  unfold fR
  obtain⟨j,hj⟩:∃j,8*t.length+1-S.p=j+1:=⟨8*t.length-S.p,by omega⟩
  rw[hj]
  unfold k9
  split
  ·rfl
  ·rename_i he
   split
   ·rfl
   ·by_cases h1:(eS t most l d S).2.err=0
    ·have h2:=aml (l:=l) (d:=d) (most:=most) (by simpa using he) h1
     have h3:=(nz (t:=t) (most:=most) (S:=S) (l:=l) (d:=d)).q h0
     rw[qy k _ h3 (by omega),←qy j _ h3 (by omega)]
    ·rw[ue k h1,ue j h1]
theorem afO {l d:List Nat} (h0:S.p≤8*t.length):fR t most l d S=if S.err≠0 then S else if(eS t most l d S).1 then(eS t most l d S).2 else fR t most l d (eS t most l d S).2:=by
 have h1:=qy (most:=most) (l:=l) (d:=d) (8*t.length+1-S.p+1) S h0 (by omega)
 rw[←h1]
 show(if _ then _ else _)=_
 split
 ·rfl
 ·rename_i he
  split
  ·rfl
  ·have h3:=(nz (t:=t) (most:=most) (S:=S) (l:=l) (d:=d)).q h0
   have h4:=(nz (t:=t) (most:=most) (S:=S) (l:=l) (d:=d)).p
   exact qy _ _ h3 (by omega)
theorem Ak {l d:List Nat}:∀(k:Nat) (S:SS),Mv t most S (k9 t most l d k S)
 | 0,_=>.refl
 | k+1,S=>by
  unfold k9
  split
  ·exact .refl
  ·split
   ·exact nz
   ·exact nz.trans (Ak k _)
theorem Aj {l d:List Nat}:Mv t most S (fR t most l d S):=Ak _ _
theorem mb:Mv t most S (fj t most S).2∧((fj t most S).2.err=0→S.p<(fj t most S).2.p):=by
 unfold fj
 split
 ·exact⟨iJ,fun h=>by cases h⟩
 ·rename_i h3
  have h1:Mv t most S {S with p:=S.p+3}:=⟨by simp only;omega,fun _=>by simp only;omega,fun h=>h⟩
  have go:∀S',Mv t most {S with p:=S.p+3} S'→Mv t most S S'∧(S'.err=0→S.p<S'.p):=fun S' h=>⟨h1.trans h,fun _=>by have:=h.p;simp only at this;omega⟩
  simp only
  split
  ·exact go _ An
  ·split
   ·exact go _ Aj
   ·split
    ·split
     ·exact go _ tT
     ·exact go _ (tT.trans Aj)
    ·exact go _ iJ
theorem qP:∀(k:Nat) (S:SS),S.p≤8*t.length→8*t.length+1-S.p≤k→mo t most k S=fT t most S
 | 0,S,h0,h=>by omega
 | k+1,S,h0,h=>by
  unfold fT
  obtain⟨j,hj⟩:∃j,8*t.length+1-S.p=j+1:=⟨8*t.length-S.p,by omega⟩
  rw[hj]
  unfold mo
  split
  ·rfl
  ·rename_i he
   have h2:=(mb (t:=t) (most:=most) (S:=S)).2 (by
    refine Classical.byContradiction fun h=>he (.inl h))
   have h3:=(mb (t:=t) (most:=most) (S:=S)).1.q h0
   rw[qP k _ h3 (by omega),←qP j _ h3 (by omega)]
theorem run_eq (h0:S.p≤8*t.length):fT t most S=if(fj t most S).2.err≠0∨(fj t most S).1=true then(fj t most S).2 else fT t most (fj t most S).2:=by
 have h1:=qP (most:=most) (8*t.length+1-S.p+1) S h0 (by omega)
 rw[←h1]
 show(if _ then _ else _)=_
 split
 ·rfl
 ·have h3:=(mb (t:=t) (most:=most) (S:=S)).1.q h0
  have h4:=(mb (t:=t) (most:=most) (S:=S)).1.p
  exact qP _ _ h3 (by omega)
end
end Go.Proofs.YtoalcafkffmiiaaGreatDoor.Pk
