/- The proof, part 27 of 34. -/

set_option linter.all false
namespace Go.Proofs.YtlkmppkcbhodaaaGreatDoor.Pk
abbrev Bs:=List UInt8
def msb (b:List Bool):Nat:=b.foldl (fun a c=>2*a+c.toNat) 0
def bitsM:Nat→Nat→List Bool
 | _,0=>[]
 | x,n+1=>bitsM (x/2) n++[x%2==1]
theorem pG (a:List Bool) (c:Bool):msb (a++[c])=2*msb a+c.toNat:=by simp[msb]
theorem nS:∀(n x:Nat),(bitsM x n).length=n
 | 0,_=>rfl
 | n+1,x=>by simp[bitsM,nS n]
theorem tt {α:Type} {p:List α→Prop} (h0:p []) (h1:∀l x,p l→p (l++[x])) (l:List α):p l:=by
 have:∀n (l:List α),l.length=n→p l:=by
  intro n
  induction n with
  | zero=>intro l h;rw[List.length_eq_zero_iff.1 h];exact h0
  | succ n ih=>
   intro l h
   have hne:l≠[]:=by intro e;rw[e]at h;cases h
   rw[←List.dropLast_concat_getLast hne]
   exact h1 _ _ (ih _ (by simp[h]))
 exact this _ l rfl
theorem yD (b:List Bool):msb b<2^b.length:=by
 refine tt (p:=fun b=>msb b<2^b.length) (by simp[msb]) (fun l c h=>?_) b
 rw[pG,List.length_append,List.length_singleton,Nat.pow_succ]
 have:c.toNat≤1:=by cases c<;>decide
 omega
theorem uL (b:List Bool):bitsM (msb b) b.length=b:=by
 refine tt (p:=fun b=>bitsM (msb b) b.length=b) rfl (fun l c h=>?_) b
 rw[pG,List.length_append]
 show bitsM _ (l.length+1)=_
 unfold bitsM
 have h2:(2*msb l+c.toNat)/2=msb l:=by cases c<;>simp<;>omega
 have h3:((2*msb l+c.toNat)%2==1)=c:=by cases c<;>simp<;>omega
 rw[h2,h3,h]
theorem yC:∀(n x:Nat),x<2^n→msb (bitsM x n)=x
 | 0,x,h=>by simp at h;subst h;rfl
 | n+1,x,h=>by
  unfold bitsM
  rw[pG,yC n (x/2) (by rw[Nat.pow_succ]at h;omega)]
  rcases Nat.mod_two_eq_zero_or_one x with h1 | h1<;>simp[h1]<;>omega
theorem sA (b:List Bool) (n:Nat) (h:n<b.length):msb (b.take (n+1))=2*msb (b.take n)+(b.getD n false).toNat:=by
 rw[List.take_add_one,List.getElem?_eq_getElem h]
 simp only[Option.toList_some]
 rw[pG,List.getD_eq_getElem?_getD,List.getElem?_eq_getElem h];rfl
theorem sB (b:List Bool):∀(n k:Nat),n+k≤b.length→msb (b.take n)*2^k≤msb (b.take (n+k))∧msb (b.take (n+k))<(msb (b.take n)+1)*2^k
 | n,0,_=>by simp
 | n,k+1,h=>by
  obtain⟨h1,h2⟩:=sB b n k (by omega)
  rw[←Nat.add_assoc,sA b (n+k) (by omega),Nat.pow_succ]
  have:(b.getD (n+k) false).toNat≤1:=by cases b.getD (n+k) false<;>decide
  constructor
  ·rw[←Nat.mul_assoc];omega
  ·rw[←Nat.mul_assoc];omega
def bj (l:List Nat) (n:Nat):Nat:=l.countP (·==n)
def fstL (l:List Nat):Nat→Nat
 | 0=>0
 | 1=>0
 | n+2=>2*(fstL l (n+1)+bj l (n+1))
def fh (l:List Nat) (s:Nat):Nat:=bj (l.take s) (l.getD s 0)
def cp (l:List Nat) (s:Nat):Nat:=fstL l (l.getD s 0)+fh l s
def aX (l:List Nat) (s:Nat):List Bool:=if l.getD s 0=0 then[]else bitsM (cp l s) (l.getD s 0)
def aO (l:List Nat):List (List Bool):=(List.range l.length).map (aX l)
def b6 (l:List Nat):Nat:=fstL l 15+bj l 15
def cg (l:List Nat):Nat:=l.countP (fun n=>decide (0<n))
def bm (l:List Nat):Bool:=decide (b6 l≤32768)&&(decide (b6 l=32768)||decide (cg l=0)||(decide (cg l=1)&&decide (bj l 1=1)))
def bz (l:List Nat):Nat→Nat
 | 0=>0
 | 1=>0
 | n+2=>bz l (n+1)+bj l (n+1)
def qm (l:List Nat) (n:Nat):List Nat:=(List.range l.length).filter fun s=>l.getD s 0==n
def sortL (l:List Nat):Nat→List Nat
 | 0=>[]
 | n+1=>sortL l n++qm l (n+1)
theorem iU (l:List Nat) (x n:Nat):bj (l++[x]) n=bj l n+if x=n then 1 else 0:=by
 simp only[bj,List.countP_append,List.countP_singleton,beq_iff_eq]
theorem wT (l:List Nat) (x:Nat):∀n,fstL (l++[x]) n=fstL l n+if 1≤x∧x<n then 2^(n-x)else 0
 | 0=>by simp[fstL]
 | 1=>by simp[fstL];omega
 | n+2=>by
  simp only[fstL]
  rw[wT l x (n+1),iU]
  by_cases h0:1≤x
  ·by_cases h1:x<n+1
   ·rw[if_pos ⟨h0,h1⟩,if_neg (by omega),if_pos ⟨h0,by omega⟩,show n+2-x=(n+1-x)+1 by omega,Nat.pow_succ];omega
   ·by_cases h2:x=n+1
    ·rw[if_neg (by omega),if_pos h2,if_pos ⟨h0,by omega⟩,h2,show n+2-(n+1)=1 by omega];omega
    ·rw[if_neg (by omega),if_neg h2,if_neg (by omega)];omega
  ·by_cases h2:x=n+1
   ·omega
   ·rw[if_neg (by omega),if_neg h2,if_neg (by omega)];omega
theorem B3 (l:List Nat) (x:Nat):b6 (l++[x])=b6 l+if 1≤x∧x≤15 then 2^(15-x)else 0:=by
 unfold b6
 rw[wT,iU]
 by_cases h:x=15
 ·subst h;simp;omega
 ·by_cases h1:1≤x∧x<15
  ·rw[if_pos h1,if_neg h,if_pos ⟨h1.1,by omega⟩];omega
  ·rw[if_neg h1,if_neg h,if_neg (by omega)];omega
theorem oW (l:List Nat) (n:Nat):∀k,1≤n→(fstL l n+bj l n)*2^k≤fstL l (n+k)+(if k=0 then bj l n else 0)
 | 0,h=>by simp
 | k+1,h=>by
  have ih:=oW l n k h
  rw[if_neg (by omega)]
  obtain⟨m,hm⟩:∃m,n+k=m+1:=⟨n+k-1,by omega⟩
  rw[show n+(k+1)=m+2 by omega]
  simp only[fstL]
  rw[hm]at ih
  rw[Nat.pow_succ,←Nat.mul_assoc]
  split at ih
  ·rename_i hk;subst hk
   have:n=m+1:=by omega
   subst this
   simp at ih ⊢;omega
  ·omega
theorem arM (l:List Nat) {n:Nat} (h1:1≤n) (h2:n≤15):(fstL l n+bj l n)*2^(15-n)≤b6 l:=by
 have:=oW l n (15-n) h1
 rw[show n+(15-n)=15 by omega]at this
 unfold b6
 split at this
 ·have:n=15:=by omega
  subst this;omega
 ·omega
theorem pr {l:List Nat} (h:b6 l≤32768) {n:Nat} (h1:1≤n) (h2:n≤15):fstL l n+bj l n≤2^n:=by
 have h3:=arM l h1 h2
 have h4:(2:Nat)^n*2^(15-n)=32768:=by rw[←Nat.pow_add,show n+(15-n)=15 by omega]
 refine Nat.le_of_mul_le_mul_right (c:=2^(15-n)) ?_ (Nat.pow_pos (by decide))
 omega
theorem dU {α:Type} (l:List α) {k:Nat} (d:α) (h:k<l.length):l.take (k+1)=l.take k++[l.getD k d]:=by
 rw[List.take_add_one,List.getD_eq_getElem?_getD,List.getElem?_eq_getElem h];rfl
theorem rh (l:List Nat) (k n:Nat):bj (l.take k) n≤bj l n:=by
 unfold bj
 exact List.Sublist.countP_le (List.take_sublist k l)
theorem mV (l:List Nat) {s:Nat} (h:s<l.length):fh l s<bj l (l.getD s 0):=by
 have h1:=dU l 0 h
 have h2:=rh l (s+1) (l.getD s 0)
 rw[h1,iU,if_pos rfl]at h2
 unfold fh;omega
theorem vE {l:List Nat} (hc:b6 l≤32768) {s:Nat} (h:s<l.length) (h1:1≤l.getD s 0) (h2:l.getD s 0≤15):cp l s<2^l.getD s 0:=by
 have:=pr hc h1 h2
 have:=mV l h
 unfold cp;omega
theorem wA (p:Nat→Bool):∀(N k:Nat),k<((List.range N).filter p).length→∃s,((List.range N).filter p).getD k 0=s∧s<N∧p s=true∧((List.range s).filter p).length=k
 | 0,k,h=>by simp at h
 | N+1,k,h=>by
  rw[List.range_succ,List.filter_append]at h ⊢
  by_cases hk:k<((List.range N).filter p).length
  ·obtain⟨s,h1,h2,h3,h4⟩:=wA p N k hk
   refine⟨s,?_,by omega,h3,h4⟩
   rw[←h1,List.getD_eq_getElem?_getD,List.getD_eq_getElem?_getD,List.getElem?_append_left hk]
  ·cases hp:p N with
   | false=>simp[hp]at h;omega
   | true=>
    simp[hp]at h
    have:k=((List.range N).filter p).length:=by omega
    refine⟨N,?_,by omega,hp,this.symm⟩
    rw[List.getD_eq_getElem?_getD,List.getElem?_append_right (by omega),this]
    simp[hp]
theorem mo (l:List Nat) (n:Nat):∀k,k≤l.length→bj (l.take k) n=((List.range k).filter fun s=>l.getD s 0==n).length
 | 0,_=>by simp[bj]
 | k+1,h=>by
  rw[dU l 0 h,iU,mo l n k (by omega),List.range_succ,List.filter_append,List.length_append]
  by_cases h1:l.getD k 0=n
  ·rw[if_pos h1];simp[-List.getD_eq_getElem?_getD,h1]
  ·rw[if_neg h1];simp[-List.getD_eq_getElem?_getD,h1]
theorem BT (l:List Nat) (n:Nat):(qm l n).length=bj l n:=by
 have:=mo l n l.length (Nat.le_refl _)
 rw[List.take_length]at this
 rw[this];rfl
theorem arE (l:List Nat) (n k:Nat) (h:k<bj l n):∃s,(qm l n).getD k 0=s∧s<l.length∧l.getD s 0=n∧fh l s=k:=by
 rw[←BT]at h
 obtain⟨s,h1,h2,h3,h4⟩:=wA (fun s=>l.getD s 0==n) l.length k h
 have h3':l.getD s 0=n:=by simpa[-List.getD_eq_getElem?_getD]using h3
 refine⟨s,h1,h2,h3',?_⟩
 unfold fh
 rw[h3',mo l n s (by omega),h4]
theorem jQ (l:List Nat):∀n,(sortL l n).length=bz l (n+1)
 | 0=>rfl
 | n+1=>by
  simp only[sortL,List.length_append,jQ l n,BT,bz]
theorem BB (l:List Nat) (n:Nat):∀m (k:Nat),k<(sortL l n).length→(sortL l (n+m)).getD k 0=(sortL l n).getD k 0
 | 0,k,h=>rfl
 | m+1,k,h=>by
  have ih:=BB l n m k h
  have hl:(sortL l n).length≤(sortL l (n+m)).length:=by
   clear ih h
   induction m with
   | zero=>exact Nat.le_refl _
   | succ m ih=>rw[←Nat.add_assoc];simp only[sortL,List.length_append];omega
  rw[←Nat.add_assoc]
  simp only[sortL]
  rw[←ih,List.getD_eq_getElem?_getD,List.getD_eq_getElem?_getD,List.getElem?_append_left (by omega)]
theorem qe (l:List Nat) {N n k:Nat} (h1:1≤n) (h2:n≤N) (h:k<bj l n):∃s,(sortL l N).getD (bz l n+k) 0=s∧s<l.length∧l.getD s 0=n∧fh l s=k:=by
 obtain⟨s,h3,h4⟩:=arE l n k h
 refine⟨s,?_,h4⟩
 obtain⟨m,rfl⟩:∃m,n=m+1:=⟨n-1,by omega⟩
 obtain⟨d,rfl⟩:∃d,N=m+1+d:=⟨N-(m+1),by omega⟩
 rw[BB l (m+1) d (bz l (m+1)+k) (by rw[jQ];simp only[bz];omega)]
 simp only[sortL]
 rw[←h3,List.getD_eq_getElem?_getD,List.getD_eq_getElem?_getD,List.getElem?_append_right (by rw[jQ];omega),jQ]
 congr 2;omega
theorem lQ (l:List Nat) (n:Nat):∀m,bz l n≤bz l (n+m)
 | 0=>Nat.le_refl _
 | m+1=>by
  have:=lQ l n m
  cases n with
  | zero=>simp[bz]
  | succ n=>rw[show n+1+(m+1)=(n+m)+2 by omega];simp only[bz];rw[show n+m+1=n+1+m by omega];omega
theorem pV (l:List Nat) (h:∀n∈l,n≤15):bz l 16=cg l:=by
 have key:∀(l:List Nat) (n:Nat),bz l (n+1)=l.countP (fun x=>decide (0<x∧x≤n)):=by
  intro l n
  induction n with
  | zero=>simp only[bz];symm;rw[List.countP_eq_zero];intro x _;simp;omega
  | succ n ih=>
   simp only[bz]
   rw[ih]
   unfold bj
   clear ih
   induction l with
   | nil=>rfl
   | cons x l ih=>
    simp only[List.countP_cons,beq_iff_eq,decide_eq_true_eq]
    by_cases h1:x=n+1
    ·rw[if_neg (by omega),if_pos h1,if_pos (by omega)];omega
    ·by_cases h2:0<x∧x≤n
     ·rw[if_pos h2,if_neg h1,if_pos (by omega)];omega
     ·rw[if_neg h2,if_neg h1,if_neg (by omega)];omega
 rw[key]
 unfold cg
 refine List.countP_congr fun x hx=>?_
 have:=h x hx
 simp;omega
def cq (b c:List Bool):Bool:=!c.isEmpty&&c.isPrefixOf b
def readL (cs:List (List Bool)) (b:List Bool):Nat×Nat×Nat:=
 match cs.findIdx? (cq b)with
 | some s=>(s,(cs.getD s []).length,0)
 | none=>if cs.all (·.isEmpty)then(0,0,3)else if cs.any (fun c=>decide (b.length<c.length)&&b.isPrefixOf c)then(0,0,6)else(0,0,3)
theorem gT (l:List Nat) (s:Nat):(aX l s).length=l.getD s 0:=by
 unfold aX
 split
 ·rename_i h;rw[h];rfl
 ·exact nS _ _
theorem vA (l:List Nat) {s:Nat} (h:s<l.length):(aO l).getD s []=aX l s:=by
 unfold aO
 rw[List.getD_eq_getElem?_getD,List.getElem?_map,List.getElem?_range h];rfl
theorem jE {l:List Nat} (hc:b6 l≤32768) (hl:∀n∈l,n≤15) (b:List Bool) {s:Nat} (h:s<l.length) :
    cq b (aX l s)=true↔1≤l.getD s 0∧l.getD s 0≤b.length∧msb (b.take (l.getD s 0))=cp l s:=by
 have h15:l.getD s 0≤15:=by
  have:l.getD s 0∈l:=by rw[List.getD_eq_getElem?_getD,List.getElem?_eq_getElem h];exact List.getElem_mem h
  exact hl _ this
 have hlen:=gT l s
 unfold cq
 by_cases h0:l.getD s 0=0
 ·have:aX l s=[]:=by unfold aX;rw[if_pos h0]
  rw[this];simp[-List.getD_eq_getElem?_getD];omega
 ·have hcw:=vE hc h (by omega) h15
  have hcd:aX l s=bitsM (cp l s) (l.getD s 0):=by unfold aX;rw[if_neg h0]
  have hne:(aX l s).isEmpty=false:=by
   cases hh:aX l s with
   | nil=>rw[hh]at hlen;simp[-List.getD_eq_getElem?_getD]at hlen;omega
   | cons=>rfl
  rw[hne]
  simp only[Bool.not_false,Bool.true_and,List.isPrefixOf_iff_prefix]
  constructor
  ·intro hp
   have h1:=hp.length_le
   rw[hlen]at h1
   have h2:=List.prefix_iff_eq_take.1 hp
   rw[hlen]at h2
   refine⟨by omega,h1,?_⟩
   rw[←h2,hcd,yC _ _ hcw]
  ·rintro⟨_,h1,h2⟩
   refine List.prefix_iff_eq_take.2 ?_
   rw[hlen,hcd,←h2]
   have:=uL (b.take (l.getD s 0))
   rw[List.length_take,Nat.min_eq_left h1]at this
   exact this
def kX (l:List Nat) (b:List Bool) (n:Nat):Prop:=∀s,s<l.length→1≤l.getD s 0→l.getD s 0<n→cq b (aX l s)=false
theorem rG {l:List Nat} {b:List Bool} (h:∀s,s<l.length→cq b (aX l s)=false):(aO l).findIdx? (cq b)=none:=by
 rw[List.findIdx?_eq_none_iff]
 intro c hc
 obtain⟨s,hs,rfl⟩:=List.mem_map.1 hc
 exact h s (List.mem_range.1 hs)
theorem wD {l:List Nat} {b:List Bool} {s:Nat} (hs:s<l.length) (h1:cq b (aX l s)=true) (h2:∀t,t<l.length→cq b (aX l t)=true→t=s):(aO l).findIdx? (cq b)=some s:=by
 rw[List.findIdx?_eq_some_iff_getElem]
 refine⟨by simpa[aO]using hs,by simpa[aO]using h1,fun j hj hh=>?_⟩
 have hjl:j<l.length:=by omega
 have:=h2 j hjl (by simpa[aO]using hh)
 omega
theorem rV {l:List Nat} {b:List Bool} {s:Nat} (h0:l.getD s 0=0):cq b (aX l s)=false:=by
 unfold aX;rw[if_pos h0];rfl
section
variable {l:List Nat} (hc:b6 l≤32768) (hl:∀n∈l,n≤15) {b:List Bool} {n:Nat}
include hl in
theorem gF (s:Nat):l.getD s 0≤15:=by
 by_cases h:s<l.length
 ·refine hl _ ?_
  rw[List.getD_eq_getElem?_getD,List.getElem?_eq_getElem h];exact List.getElem_mem h
 ·rw[List.getD_eq_getElem?_getD,List.getElem?_eq_none (by omega)];exact Nat.zero_le _
theorem Zu (h0:n<b.length) (hj:fstL l (n+1)≤2*msb (b.take n)):fstL l (n+1)≤msb (b.take (n+1)):=by
 rw[sA b n h0];omega
include hc hl in
theorem Zx (h1:n<15) (h0:n<b.length) (hn:kX l b (n+1)) (hj:fstL l (n+1)≤2*msb (b.take n)) {k:Nat} (hk:msb (b.take (n+1))=fstL l (n+1)+k) (hk2:k<bj l (n+1)) :
    ∃s,(sortL l 15).getD (bz l (n+1)+k) 0=s∧s<l.length∧readL (aO l) b=(s,n+1,0):=by
 obtain⟨s,g1,g2,g3,g4⟩:=qe l (N:=15) (n:=n+1) (by omega) (by omega) hk2
 refine⟨s,g1,g2,?_⟩
 have hit:cq b (aX l s)=true:=(jE hc hl b g2).2 ⟨by omega,by omega,by rw[g3,hk];unfold cp;rw[g3,g4]⟩
 have hone:=wD g2 hit (fun t ht hh=>by
  obtain⟨e1,e2,e3⟩:=(jE hc hl b ht).1 hh
  by_cases q1:l.getD t 0<n+1
  ·rw[hn t ht e1 q1]at hh;cases hh
  ·by_cases q2:l.getD t 0=n+1
   ·rw[q2,hk]at e3
    have hr:fh l t=k:=by unfold cp at e3;rw[q2]at e3;omega
    have ht':((List.range l.length).filter fun s=>l.getD s 0==n+1).length=((List.range l.length).filter fun s=>l.getD s 0==n+1).length:=rfl
    unfold fh at hr g4
    rw[q2,mo l (n+1) t (by omega)]at hr
    rw[g3,mo l (n+1) s (by omega)]at g4
    have key:∀x y,x<y→l.getD x 0=n+1→((List.range x).filter fun s=>l.getD s 0==n+1).length<((List.range y).filter fun s=>l.getD s 0==n+1).length:=by
     intro x y hxy hx
     obtain⟨d,rfl⟩:∃d,y=x+1+d:=⟨y-(x+1),by omega⟩
     have hs:List.Sublist (List.range (x+1)) (List.range (x+1+d)):=List.range_sublist.2 (by omega)
     have:=(hs.filter (fun s=>l.getD s 0==n+1)).length_le
     rw[List.range_succ,List.filter_append,List.length_append]at this
     simp only[List.filter_cons,hx,beq_self_eq_true,if_true,List.filter_nil,List.length_singleton]at this
     omega
    rcases Nat.lt_trichotomy t s with q | q | q
    ·have:=key t s q q2;omega
    ·exact q
    ·have:=key s t q g3;omega
   ·exfalso
    obtain⟨d,hd⟩:∃d,l.getD t 0=(n+1)+(d+1):=⟨l.getD t 0-(n+2),by omega⟩
    rw[hd]at e2 e3
    have h5:=(sB b (n+1) (d+1) (by omega)).2
    have h6:=oW l (n+1) (d+1) (by omega)
    rw[if_neg (by omega),Nat.add_zero]at h6
    rw[e3]at h5
    have h7:fstL l (n+1+(d+1))≤cp l t:=by unfold cp;rw[hd];omega
    have h8:(msb (b.take (n+1))+1)*2^(d+1)≤(fstL l (n+1)+bj l (n+1))*2^(d+1):=Nat.mul_le_mul_right _ (by omega)
    omega)
 unfold readL
 rw[hone]
 simp only
 rw[vA l g2,gT,g3]
include hc hl in
theorem Zv (h1:n<15) (h0:n<b.length) (hn:kX l b (n+1)) (hk:fstL l (n+1)+bj l (n+1)≤msb (b.take (n+1))) :
    kX l b (n+2)∧fstL l (n+2)≤2*msb (b.take (n+1)):=by
 refine⟨fun s hs e1 e2=>?_,by simp only[fstL];omega⟩
 by_cases q:l.getD s 0<n+1
 ·exact hn s hs e1 q
 ·have e3:l.getD s 0=n+1:=by omega
  cases hh:cq b (aX l s)with
  | false=>rfl
  | true=>
   obtain⟨_,_,e4⟩:=(jE hc hl b hs).1 hh
   have:=mV l hs
   unfold cp at e4
   rw[e3]at e4 this
   omega
theorem abW (hp:bz l (n+1)=cg l) (hl:∀n∈l,n≤15) (hn:n≤15) {s:Nat} (hs:s<l.length) (h1:1≤l.getD s 0):l.getD s 0≤n:=by
 refine Nat.le_of_not_lt fun hlt=>?_
 have h2:=pV l hl
 have h15:l.getD s 0≤15:=gF hl s
 have h3:=mV l hs
 obtain⟨m,hm⟩:∃m,l.getD s 0=m+1:=⟨l.getD s 0-1,by omega⟩
 have h4:=lQ l (m+2) (16-(m+2))
 rw[show m+2+(16-(m+2))=16 by omega]at h4
 have h5:=lQ l (n+1) (m+1-(n+1))
 rw[show n+1+(m+1-(n+1))=m+1 by omega]at h5
 have h6:bz l (m+1)+bj l (m+1)≤bz l 16:=h4
 rw[hm]at h3
 omega
theorem all_empty (h:0<cg l):(aO l).all (·.isEmpty)=false:=by
 unfold cg at h
 obtain⟨x,hx,h1⟩:=List.countP_pos_iff.1 h
 obtain⟨s,hs,rfl⟩:=List.getElem_of_mem hx
 rw[List.all_eq_false]
 refine⟨aX l s,List.mem_map.2 ⟨s,List.mem_range.2 hs,rfl⟩,?_⟩
 have:=gT l s
 rw[List.getD_eq_getElem?_getD,List.getElem?_eq_getElem hs]at this
 simp at h1 this
 cases hh:aX l s with
 | nil=>rw[hh]at this;simp at this;omega
 | cons=>simp
include hl in
theorem Zw (h0:n≤b.length) (h15:n≤15) (hp:bz l (n+1)=cg l) (hpos:0<cg l) (hn:kX l b (n+1)):readL (aO l) b=(0,0,3):=by
 unfold readL
 have hlv:∀s,s<l.length→1≤l.getD s 0→l.getD s 0≤n:=fun s hs h1=>abW hp hl h15 hs h1
 rw[rG (fun s hs=>by
  by_cases h1:1≤l.getD s 0
  ·exact hn s hs h1 (by have:=hlv s hs h1;omega)
  ·exact rV (by omega))]
 simp only
 rw[all_empty hpos,if_neg (by simp),if_neg]
 simp only[List.any_eq_true,Bool.and_eq_true,decide_eq_true_eq]
 rintro⟨c,h1,h2,_⟩
 obtain⟨s,hs,rfl⟩:=List.mem_map.1 h1
 rw[gT]at h2
 have:=hlv s (List.mem_range.1 hs) (by omega)
 omega
include hl in
theorem Zt (hck:bm l=true) (h15:b.length<15) (hp:bz l (b.length+1)<cg l) (hn:kX l b (b.length+1)) (hj:fstL l (b.length+1)≤2*msb b):readL (aO l) b=(0,0,6):=by
 have hpos:0<cg l:=by omega
 have hc:b6 l≤32768:=by unfold bm at hck;simp at hck;exact hck.1
 unfold readL
 rw[rG (fun s hs=>by
  by_cases h1:1≤l.getD s 0
  ·by_cases h2:l.getD s 0<b.length+1
   ·exact hn s hs h1 h2
   ·cases hh:cq b (aX l s)with
    | false=>rfl
    | true=>have:=((jE hc hl b hs).1 hh).2.1;omega
  ·exact rV (by omega))]
 simp only
 rw[all_empty hpos,if_neg (by simp),if_pos]
 simp only[List.any_eq_true,Bool.and_eq_true,decide_eq_true_eq,List.isPrefixOf_iff_prefix]
 -- a symbol whose code begins with these bits
 have found:∀m k s,m=b.length+1+k→m≤15→s<l.length→l.getD s 0=m→cp l s=msb b*2^(k+1)→∃x,x∈aO l∧b.length<x.length∧b <+: x:=by
  intro m k s hm hm15 hs hls hcw
  refine⟨aX l s,List.mem_map.2 ⟨s,List.mem_range.2 hs,rfl⟩,by rw[gT];omega,?_⟩
  have hcd:aX l s=bitsM (cp l s) (l.getD s 0):=by unfold aX;rw[if_neg (by omega)]
  rw[hcd,hls,hcw,hm]
  have hb:∀k,bitsM (msb b*2^k) (b.length+k)=b++List.replicate k false:=by
   intro k
   induction k with
   | zero=>simp[uL]
   | succ k ih=>
    show bitsM _ ((b.length+k)+1)=_
    unfold bitsM
    rw[show msb b*2^(k+1)/2=msb b*2^k by rw[Nat.pow_succ,←Nat.mul_assoc];omega,ih,show(msb b*2^(k+1)%2==1)=false by rw[Nat.pow_succ,←Nat.mul_assoc];simp,List.append_assoc,←List.replicate_succ']
  rw[show b.length+1+k=b.length+(k+1)by omega,hb]
  exact List.prefix_append _ _
 unfold bm at hck
 simp only[Bool.and_eq_true,Bool.or_eq_true,decide_eq_true_eq]at hck
 rcases hck.2 with(h32 | h0) | ⟨h1,h2⟩
 ·-- complete: some interval holds these bits
  have hlt:=yD b
  have base:fstL l (b.length+1)*2^(14-b.length)≤msb b*2^(15-b.length):=by
   have h3:(2:Nat)^(15-b.length)=2*2^(14-b.length):=by rw[show 15-b.length=(14-b.length)+1 by omega,Nat.pow_succ];omega
   rw[h3,←Nat.mul_assoc,Nat.mul_comm (msb b) 2]
   exact Nat.mul_le_mul_right _ hj
  have go:∀d m,m+d=15→b.length<m→fstL l m*2^(15-m)≤msb b*2^(15-b.length)→∃m',m≤m'∧m'≤15∧fstL l m'*2^(15-m')≤msb b*2^(15-b.length)∧msb b*2^(15-b.length)<(fstL l m'+bj l m')*2^(15-m'):=by
   intro d
   induction d with
   | zero=>
    intro m h3 h4 h5
    have:m=15:=by omega
    subst this
    refine⟨15,Nat.le_refl _,Nat.le_refl _,h5,?_⟩
    have h6:msb b*2^(15-b.length)<2^b.length*2^(15-b.length):=Nat.mul_lt_mul_of_pos_right hlt (Nat.pow_pos (by decide))
    rw[←Nat.pow_add,show b.length+(15-b.length)=15 by omega]at h6
    unfold b6 at h32
    rw[h32]
    simpa using h6
   | succ d ih=>
    intro m h3 h4 h5
    by_cases h6:msb b*2^(15-b.length)<(fstL l m+bj l m)*2^(15-m)
    ·exact⟨m,Nat.le_refl _,by omega,h5,h6⟩
    ·obtain⟨q,rfl⟩:∃q,m=q+1:=⟨m-1,by omega⟩
     obtain⟨m',e1,e2,e3⟩:=ih (q+2) (by omega) (by omega) (by
      simp only[fstL]
      have h7:(2:Nat)^(15-(q+1))=2*2^(15-(q+2)):=by rw[show 15-(q+1)=(15-(q+2))+1 by omega,Nat.pow_succ];omega
      rw[h7,←Nat.mul_assoc,Nat.mul_comm _ 2]at h6
      omega)
     exact⟨m',by omega,e2,e3⟩
  obtain⟨m,e1,e2,e3,e4⟩:=go (14-b.length) (b.length+1) (by omega) (by omega) (by rw[show 15-(b.length+1)=14-b.length by omega];exact base)
  obtain⟨k,rfl⟩:∃k,m=b.length+1+k:=⟨m-(b.length+1),by omega⟩
  have h5:(2:Nat)^(15-b.length)=2^(k+1)*2^(15-(b.length+1+k)):=by rw[←Nat.pow_add];congr 1;omega
  rw[h5,←Nat.mul_assoc]at e3 e4
  have e5:=Nat.le_of_mul_le_mul_right e3 (Nat.pow_pos (by decide))
  have e6:=Nat.lt_of_mul_lt_mul_right e4
  obtain⟨s,_,g2,g3,g4⟩:=qe l (N:=15) (n:=b.length+1+k) (k:=msb b*2^(k+1)-fstL l (b.length+1+k)) (by omega) e2 (by omega)
  exact found _ k s rfl e2 g2 g3 (by unfold cp;rw[g3,g4];omega)
 ·omega
 ·-- one code of one bit
  have hb0:b.length=0:=by
   refine Nat.eq_zero_of_not_pos fun hb=>?_
   have h3:=lQ l 2 (b.length+1-2)
   rw[show 2+(b.length+1-2)=b.length+1 by omega]at h3
   have h4:0+bj l 1≤bz l (b.length+1):=h3
   omega
  have hbn:=List.length_eq_zero_iff.1 hb0
  subst hbn
  obtain⟨s,_,g2,g3,g4⟩:=qe l (N:=15) (n:=1) (k:=0) (by omega) (by omega) (by omega)
  refine found 1 0 s rfl (by omega) g2 g3 ?_
  unfold cp
  rw[g3,g4]
  simp[fstL,msb]
end
theorem akY {l:List Nat} (hl:∀n∈l,n≤15) (b:List Bool):readL (aO l) (b.take 16)=readL (aO l) b:=by
 by_cases h:b.length≤16
 ·rw[List.take_of_length_le h]
 ·have hh:∀c∈aO l,cq (b.take 16) c=cq b c:=by
   intro c hc
   obtain⟨s,hs,rfl⟩:=List.mem_map.1 hc
   have h15:=gF hl s
   have hlen:=gT l s
   unfold cq
   congr 1
   rw[Bool.eq_iff_iff,List.isPrefixOf_iff_prefix,List.isPrefixOf_iff_prefix,List.prefix_take_iff]
   exact⟨fun h=>h.1,fun h=>⟨h,by omega⟩⟩
  have hf:(aO l).findIdx? (cq (b.take 16))=(aO l).findIdx? (cq b):=by
   have:∀cs:List (List Bool),(∀c∈cs,cq (b.take 16) c=cq b c)→cs.findIdx? (cq (b.take 16))=cs.findIdx? (cq b):=by
    intro cs
    induction cs with
    | nil=>intro _;rfl
    | cons c cs ih=>
     intro h
     rw[List.findIdx?_cons,List.findIdx?_cons,h c (List.mem_cons_self ..),ih (fun d hd=>h d (List.mem_cons_of_mem _ hd))]
   exact this _ hh
  have no:∀x:List Bool,16≤x.length→(aO l).any (fun c=>decide (x.length<c.length)&&x.isPrefixOf c)=false:=by
   intro x hx
   rw[List.any_eq_false]
   intro c hc
   obtain⟨s,hs,rfl⟩:=List.mem_map.1 hc
   have h15:=gF hl s
   have hlen:=gT l s
   simp;intro;omega
  unfold readL
  rw[hf,no b (by omega),no (b.take 16) (by simp;omega)]
def eU (s:Bs) (i:Nat):Bool:=(s.getD (i/8) 0).toNat.testBit (i%8)
def numAt (s:Bs) (p:Nat):Nat→Nat
 | 0=>0
 | n+1=>numAt s p n+(if eU s (p+n)then 2^n else 0)
def aR (s:Bs) (p:Nat):List Bool:=(List.range (8*s.length-p)).map fun i=>eU s (p+i)
theorem fE (s:Bs) (p:Nat):∀n,numAt s p n<2^n
 | 0=>by simp[numAt]
 | n+1=>by
  have:=fE s p n
  simp only[numAt]
  rw[Nat.pow_succ]
  split<;>omega
theorem num_add (s:Bs) (p m:Nat):∀n,numAt s p (m+n)=numAt s p m+2^m*numAt s (p+m) n
 | 0=>by simp[numAt]
 | n+1=>by
  rw[←Nat.add_assoc]
  simp only[numAt]
  rw[num_add s p m n,Nat.add_assoc p m n,Nat.mul_add]
  split
  ·rw[Nat.pow_add];omega
  ·omega
theorem kF (s:Bs) (p:Nat) {m n:Nat} (h:m≤n):numAt s p n%2^m=numAt s p m:=by
 obtain⟨d,rfl⟩:∃d,n=m+d:=⟨n-m,by omega⟩
 rw[num_add,Nat.add_mul_mod_self_left,Nat.mod_eq_of_lt (fE s p m)]
theorem kD (s:Bs) (p:Nat) {m n:Nat} (h:m≤n):numAt s p n/2^m=numAt s (p+m) (n-m):=by
 obtain⟨d,rfl⟩:∃d,n=m+d:=⟨n-m,by omega⟩
 rw[num_add,Nat.add_mul_div_left _ _ (Nat.pow_pos (by decide)),Nat.div_eq_of_lt (fE s p m),Nat.zero_add,Nat.add_sub_cancel_left]
theorem BQ (x:Nat):∀n,x%2^(n+1)=x%2^n+(if x.testBit n then 2^n else 0):=by
 intro n
 rw[Nat.pow_succ,Nat.mod_mul,Nat.testBit_eq_decide_div_mod_eq]
 rcases Nat.mod_two_eq_zero_or_one (x/2^n)with h | h<;>simp[h]
theorem jg (s:Bs) (a:Nat):numAt s (8*a) 8=(s.getD a 0).toNat:=by
 have key:∀n,n≤8→numAt s (8*a) n=(s.getD a 0).toNat%2^n:=by
  intro n
  induction n with
  | zero=>intro _;simp[numAt,Nat.mod_one]
  | succ n ih=>
   intro h
   simp only[numAt]
   rw[ih (by omega),BQ]
   unfold eU
   rw[show(8*a+n)/8=a by omega,show(8*a+n)%8=n by omega]
 rw[key 8 (Nat.le_refl _),Nat.mod_eq_of_lt (by have:=(s.getD a 0).toNat_lt;omega)]
theorem aaB (s:Bs) (a n:Nat) (h:n≤8*a):numAt s (8*a-n) (n+8)=numAt s (8*a-n) n+(s.getD a 0).toNat*2^n:=by
 rw[num_add,show 8*a-n+n=8*a by omega,jg,Nat.mul_comm (2^n)]
theorem yT (s:Bs) (p m n:Nat):numAt s p (m+n)=numAt s p m+numAt s (p+m) n*2^m:=by rw[num_add,Nat.mul_comm (2^m)]
theorem aaC (s:Bs) (p:Nat):numAt s p 1=(eU s p).toNat:=by
 simp only[numAt,Nat.add_zero];cases eU s p<;>rfl
theorem fS (s:Bs) (p:Nat):(aR s p).length=8*s.length-p:=by simp[aR]
theorem AB (s:Bs) (p:Nat) {n:Nat} (h:p+n<8*s.length):(aR s p).getD n false=eU s (p+n):=by
 unfold aR
 rw[List.getD_eq_getElem?_getD,List.getElem?_map,List.getElem?_range (by omega)];rfl
theorem uJ (s:Bs) (a i:Nat):eU (s.drop a) i=eU s (8*a+i):=by
 unfold eU
 rw[List.getD_eq_getElem?_getD,List.getElem?_drop,←List.getD_eq_getElem?_getD,show(8*a+i)/8=a+i/8 by omega,show(8*a+i)%8=i%8 by omega]
theorem pN (s:Bs) (a p:Nat):∀n,numAt (s.drop a) p n=numAt s (8*a+p) n
 | 0=>rfl
 | n+1=>by
  simp only[numAt]
  rw[pN s a p n,uJ,Nat.add_assoc]
theorem s9 (s:Bs) (a p:Nat):aR (s.drop a) p=aR s (8*a+p):=by
 unfold aR
 rw[List.length_drop,show 8*(s.length-a)-p=8*s.length-(8*a+p)by omega]
 congr 1
 funext i
 rw[uJ,Nat.add_assoc]
end Go.Proofs.YtlkmppkcbhodaaaGreatDoor.Pk
namespace Go.Proofs.YtlkmppkcbhodaaaGreatDoor.Pk
structure SS where
 p:Nat
 out:Bs
 err:Nat
def b9 (e:Nat) (S:SS):SS:=if S.err=0 then {S with err:=e} else S
def aH (t:Bs) (n:Nat) (S:SS):Nat×SS:=
 if S.err≠0 then(0,S)else if 8*t.length<S.p+n then(0,{S with err:=6})else(numAt t S.p n,{S with p:=S.p+n})
def aU (t:Bs) (l:List Nat) (S:SS):Nat×SS:=
 if S.err≠0 then(0,S)else if(readL (aO l) (aR t S.p)).2.2≠0 then(0,{S with err:=(readL (aO l) (aR t S.p)).2.2})
  else((readL (aO l) (aR t S.p)).1,{S with p:=S.p+(readL (aO l) (aR t S.p)).2.1})
def cZ (most:Nat) (c:UInt8) (S:SS):SS:=if S.err≠0 then S else if most≤S.out.length then {S with err:=2} else {S with out:=S.out++[c]}
def rawS (t:Bs) (most:Nat):Nat→SS→SS
 | 0,S=>S
 | n+1,S=>if S.err≠0 then S else rawS t most n (cZ most (UInt8.ofNat (aH t 8 S).1) (aH t 8 S).2)
def gn (S:SS):SS:={S with p:=(S.p+7)/8*8}
def dT (t:Bs) (most:Nat) (S:SS):SS:=
 let a:=aH t 16 (gn S)
 let b:=aH t 16 a.2
 rawS t most a.1 (if a.1+b.1≠65535 then b9 3 b.2 else b.2)
def eA:List Nat:=[16,17,18,0,8,7,9,6,10,5,11,4,12,3,13,2,14,1,15]
def firstS (t:Bs) (nc:Nat):Nat→List Nat→SS→List Nat×SS
 | 0,l,S=>(l,S)
 | k+1,l,S=>if S.err≠0 then(l,S)else firstS t nc k (l.set (eA.getD (nc-(k+1)) 0) (aH t 3 S).1) (aH t 3 S).2
def bR (t:Bs) (l:List Nat) (s:Nat) (S:SS):Nat×Nat×SS:=
 if s=16 then(if l=[]then(0,0,b9 3 S)else(3+(aH t 2 S).1,l.getD (l.length-1) 0,(aH t 2 S).2))
 else if s=17 then(3+(aH t 3 S).1,0,(aH t 3 S).2)
 else if s=18 then(11+(aH t 7 S).1,0,(aH t 7 S).2)
 else(1,s,S)
def ck (N:Nat) (l:List Nat) (b:Nat×Nat×SS):SS:=if N<l.length+b.1 then b9 3 b.2.2 else b.2.2
def cY (t:Bs) (fl:List Nat) (N:Nat):Nat→List Nat→SS→List Nat×SS
 | 0,l,S=>(l,S)
 | k+1,l,S=>
  if N≤l.length∨S.err≠0 then(l,S)else
   let a:=aU t fl S
   let b:=bR t l a.1 a.2
   let c:=ck N l b
   if c.err≠0 then(l,c)else cY t fl N k (l++List.replicate b.1 b.2.1) c
def cf (t:Bs) (S:SS):(List Nat×List Nat)×SS:=
 if 8*t.length<S.p+14 then(([],[]),{S with err:=6})else
 let nl:=numAt t S.p 5+257
 let nd:=numAt t (S.p+5) 5+1
 let nc:=numAt t (S.p+10) 4+4
 if 286<nl∨30<nd then(([],[]),{S with p:=S.p+14,err:=3})else
 let a:=firstS t nc nc (List.replicate 19 0) {S with p:=S.p+14}
 if a.2.err≠0 then(([],[]),a.2)else if bm a.1=false then(([],[]),{a.2 with err:=3})else
 let b:=cY t a.1 (nl+nd) (nl+nd) [] a.2
 if b.2.err≠0 then(([],[]),b.2)else
 if b.1.getD 256 0=0∨bm (b.1.take nl)=false∨bm (b.1.drop nl)=false then(([],[]),{b.2 with err:=3})else((b.1.take nl,b.1.drop nl),b.2)
def bl:List Nat:=List.replicate 144 8++List.replicate 112 9++List.replicate 24 7++List.replicate 8 8
def bT:List Nat:=List.replicate 32 5
def aQ (i:Nat):Nat×Nat:=if i=28 then(258,0)else if i<8 then(3+i,0)else(3+(4+i%4)*2^(i/4-1),i/4-1)
def bu (i:Nat):Nat×Nat:=if i<4 then(1+i,0)else(1+(2+i%2)*2^(i/2-1),i/2-1)
def backS (most:Nat) (back:Nat):Nat→SS→SS
 | 0,S=>S
 | n+1,S=>if S.err≠0 then S else backS most back n (cZ most (S.out.getD (S.out.length-back) 0) S)
def c8 (t:Bs) (most:Nat) (d:List Nat) (s:Nat) (S:SS):SS:=
 if 285<s then b9 3 S else
 let a:=aH t (aQ (s-257)).2 S
 let k:=aU t d a.2
 if k.2.err≠0 then k.2 else if 29<k.1 then b9 3 k.2 else
 let b:=aH t (bu k.1).2 k.2
 let back:=(bu k.1).1+b.1
 if b.2.err≠0 then b.2 else if b.2.out.length<back then b9 3 b.2 else backS most back ((aQ (s-257)).1+a.1) b.2
def dp (t:Bs) (most:Nat) (l d:List Nat) (S:SS):Bool×SS:=
 let a:=aU t l S
 if a.2.err≠0 then(true,a.2)else if a.1=256 then(true,a.2)else if a.1<256 then(false,cZ most (UInt8.ofNat a.1) a.2)else(false,c8 t most d a.1 a.2)
def kJ (t:Bs) (most:Nat) (l d:List Nat):Nat→SS→SS
 | 0,S=>S
 | k+1,S=>if S.err≠0 then S else if(dp t most l d S).1 then(dp t most l d S).2 else kJ t most l d k (dp t most l d S).2
def cT (t:Bs) (most:Nat) (l d:List Nat) (S:SS):SS:=kJ t most l d (8*t.length+1-S.p) S
def de (t:Bs) (most:Nat) (S:SS):Bool×SS:=
 if 8*t.length<S.p+3 then(true,{S with err:=6})else
 let S3:={S with p:=S.p+3}
 (numAt t S.p 1=1,if numAt t (S.p+1) 2=0 then dT t most S3 else if numAt t (S.p+1) 2=1 then cT t most bl bT S3
  else if numAt t (S.p+1) 2=2 then(if(cf t S3).2.err≠0 then(cf t S3).2 else cT t most (cf t S3).1.1 (cf t S3).1.2 (cf t S3).2)else {S3 with err:=3})
def lU (t:Bs) (most:Nat):Nat→SS→SS
 | 0,S=>S
 | k+1,S=>if(de t most S).2.err≠0∨(de t most S).1=true then(de t most S).2 else lU t most k (de t most S).2
def fi (t:Bs) (most:Nat) (S:SS):SS:=lU t most (8*t.length+1-S.p) S
def dF (t:Bs) (most:Nat):Bs×Nat×Nat:=
 let S:=fi t most ⟨0,[],0⟩
 if S.err≠0 then([],0,S.err)else(S.out,(S.p+7)/8,0)
structure Mv (t:Bs) (most:Nat) (S S':SS):Prop where
 p:S.p≤S'.p
 q:S.p≤8*t.length→S'.p≤8*t.length
 o:S.out.length≤most→S'.out.length≤most
section
variable {t:Bs} {most:Nat} {S:SS}
theorem Mv.refl:Mv t most S S:=⟨Nat.le_refl _,fun h=>h,fun h=>h⟩
theorem Mv.trans {S1 S2:SS} (h:Mv t most S S1) (k:Mv t most S1 S2):Mv t most S S2:=⟨Nat.le_trans h.p k.p,fun g=>k.q (h.q g),fun g=>k.o (h.o g)⟩
theorem gI {e:Nat}:Mv t most S {S with err:=e}:=⟨Nat.le_refl _,fun h=>h,fun h=>h⟩
theorem iI {e:Nat}:Mv t most S (b9 e S):=by unfold b9;split;exact gI;exact .refl
theorem gV {e:Nat} (h:e≠0):(b9 e S).err≠0:=by unfold b9;split;exact h;assumption
theorem eJ {e:Nat} (h:S.err=0):b9 e S={S with err:=e}:=if_pos h
theorem kE {n:Nat} (h:S.err≠0):aH t n S=(0,S):=if_pos h
theorem jJ {n:Nat} (h:S.err=0) (h1:8*t.length<S.p+n):aH t n S=(0,{S with err:=6}):=by unfold aH;rw[if_neg (by simpa using h),if_pos h1]
theorem ez {n:Nat} (h:S.err=0) (h1:S.p+n≤8*t.length):aH t n S=(numAt t S.p n,{S with p:=S.p+n}):=by unfold aH;rw[if_neg (by simpa using h),if_neg (by omega)]
theorem eN {n:Nat}:Mv t most S (aH t n S).2:=by
 unfold aH
 split
 ·exact .refl
 ·split
  ·exact gI
  ·exact⟨by simp only;omega,fun _=>by simp only;omega,fun h=>h⟩
theorem fg {n:Nat}:(aH t n S).1<2^n:=by
 unfold aH
 split
 ·exact Nat.pow_pos (by decide)
 ·split
  ·exact Nat.pow_pos (by decide)
  ·exact fE _ _ _
theorem lR (cs:List (List Bool)) (b:List Bool) (h:(readL cs b).2.2=0):1≤(readL cs b).2.1∧(readL cs b).2.1≤b.length∧(readL cs b).1<cs.length:=by
 unfold readL at h ⊢
 split at h
 ·rename_i s hs
  simp only
  obtain⟨h1,h2,_⟩:=List.findIdx?_eq_some_iff_getElem.1 hs
  have:cs.getD s []=cs[s]:=by rw[List.getD_eq_getElem?_getD,List.getElem?_eq_getElem h1];rfl
  rw[this]
  unfold cq at h2
  simp only[Bool.and_eq_true,List.isPrefixOf_iff_prefix]at h2
  refine⟨?_,h2.2.length_le,h1⟩
  cases hc:cs[s]with
  | nil=>rw[hc]at h2;simp at h2
  | cons=>simp
 ·split at h
  ·cases h
  ·split at h<;>cases h
theorem BS {l:List Nat} (h:S.err≠0):aU t l S=(0,S):=if_pos h
theorem nr {l:List Nat} (h:S.err=0) (h1:(readL (aO l) (aR t S.p)).2.2≠0):aU t l S=(0,{S with err:=(readL (aO l) (aR t S.p)).2.2}):=by unfold aU;rw[if_neg (by simpa using h),if_pos h1]
theorem lY {l:List Nat} (h:S.err=0) (h1:(readL (aO l) (aR t S.p)).2.2=0):aU t l S=((readL (aO l) (aR t S.p)).1,{S with p:=S.p+(readL (aO l) (aR t S.p)).2.1}):=by unfold aU;rw[if_neg (by simpa using h),if_neg (by simpa using h1)]
theorem jf {l:List Nat}:Mv t most S (aU t l S).2:=by
 unfold aU
 split
 ·exact .refl
 ·split
  ·exact gI
  ·rename_i h
   have:=lR (aO l) (aR t S.p) (by simpa using h)
   rw[fS]at this
   exact⟨by simp only;omega,fun _=>by simp only;omega,fun h=>h⟩
theorem ql {l:List Nat} (h:S.err=0) (h1:(aU t l S).2.err=0):S.p<(aU t l S).2.p∧(aU t l S).1<l.length:=by
 by_cases h2:(readL (aO l) (aR t S.p)).2.2=0
 ·have:=lR (aO l) (aR t S.p) h2
  rw[lY h h2]
  have hl:(aO l).length=l.length:=by simp[aO]
  simp only;omega
 ·rw[nr h h2]at h1;exact(h2 h1).elim
theorem jH {c:UInt8}:Mv t most S (cZ most c S):=by
 unfold cZ
 split
 ·exact .refl
 ·split
  ·exact gI
  ·exact⟨Nat.le_refl _,fun h=>h,fun _=>by simp;omega⟩
theorem yI:∀(n:Nat) (S:SS),Mv t most S (rawS t most n S)
 | 0,_=>.refl
 | n+1,S=>by
  unfold rawS
  split
  ·exact .refl
  ·exact eN.trans (jH.trans (yI n _))
theorem yM:Mv t most S (gn S):=⟨by simp only[gn];omega,fun h=>by simp only[gn];omega,fun h=>h⟩
theorem yK:Mv t most S (dT t most S):=by
 unfold dT
 have h1:Mv t most S (aH t 16 (aH t 16 (gn S)).2).2:=yM.trans (eN.trans eN)
 refine h1.trans (Mv.trans ?_ (yI _ _))
 split
 ·exact iI
 ·exact .refl
theorem yF {nc:Nat}:∀(k:Nat) (l:List Nat) (S:SS),Mv t most S (firstS t nc k l S).2
 | 0,_,_=>.refl
 | k+1,l,S=>by
  unfold firstS
  split
  ·exact .refl
  ·exact eN.trans (yF k _ _)
theorem yL {l:List Nat} {s:Nat}:Mv t most S (bR t l s S).2.2:=by
 unfold bR
 split
 ·split
  ·exact iI
  ·exact eN
 ·split
  ·exact eN
  ·split
   ·exact eN
   ·exact .refl
theorem pI {fl:List Nat} {N:Nat}:∀(k:Nat) (l:List Nat) (S:SS),Mv t most S (cY t fl N k l S).2
 | 0,_,_=>.refl
 | k+1,l,S=>by
  have hc:Mv t most S (ck N l (bR t l (aU t fl S).1 (aU t fl S).2)):=by
   have h1:Mv t most S (bR t l (aU t fl S).1 (aU t fl S).2).2.2:=jf.trans yL
   refine h1.trans ?_
   unfold ck
   split
   ·exact iI
   ·exact .refl
  unfold cY
  split
  ·exact .refl
  ·simp only
   split
   ·exact hc
   ·exact hc.trans (pI k _ _)
theorem pH:Mv t most S (cf t S).2:=by
 unfold cf
 split
 ·exact gI
 ·rename_i h14
  have h1:Mv t most S {S with p:=S.p+14}:=⟨by simp only;omega,fun _=>by simp only;omega,fun h=>h⟩
  simp only
  split
  ·exact h1.trans gI
  ·have h2:=h1.trans (yF (nc:=numAt t (S.p+10) 4+4) (numAt t (S.p+10) 4+4) (List.replicate 19 0) {S with p:=S.p+14})
   split
   ·exact h2
   ·split
    ·exact h2.trans gI
    ·split
     ·exact h2.trans (pI _ _ _)
     ·split
      ·exact(h2.trans (pI _ _ _)).trans gI
      ·exact h2.trans (pI _ _ _)
theorem yE {back:Nat}:∀(n:Nat) (S:SS),Mv t most S (backS most back n S)
 | 0,_=>.refl
 | n+1,S=>by
  unfold backS
  split
  ·exact .refl
  ·exact jH.trans (yE n _)
theorem sC {d:List Nat} {s:Nat}:Mv t most S (c8 t most d s S):=by
 unfold c8
 split
 ·exact iI
 ·have h1:Mv t most S (aU t d (aH t (aQ (s-257)).2 S).2).2:=eN.trans jf
  simp only
  split
  ·exact h1
  ·split
   ·exact h1.trans iI
   ·split
    ·exact h1.trans eN
    ·split
     ·exact(h1.trans eN).trans iI
     ·exact(h1.trans eN).trans (yE _ _)
theorem lH {l d:List Nat}:Mv t most S (dp t most l d S).2:=by
 unfold dp
 simp only
 split
 ·exact jf
 ·split
  ·exact jf
  ·split
   ·exact jf.trans jH
   ·exact jf.trans sC
theorem BM {l d:List Nat} (h:S.err=0) (h1:(dp t most l d S).2.err=0):S.p<(dp t most l d S).2.p:=by
 unfold dp at h1 ⊢
 simp only at h1 ⊢
 split at h1
 ·rename_i h2;exact(h2 h1).elim
 ·rename_i h2
  have h3:=(ql h (by simpa using h2)).1
  rw[if_neg h2]
  split at h1
  ·rename_i h4;rw[if_pos h4];exact h3
  ·rename_i h4
   rw[if_neg h4]
   split
   ·exact Nat.lt_of_lt_of_le h3 (jH (t:=t)).p
   ·exact Nat.lt_of_lt_of_le h3 (sC).p
theorem pR {l d:List Nat}:∀(k:Nat),S.err≠0→kJ t most l d k S=S
 | 0,_=>rfl
 | k+1,h=>if_pos h
theorem pS {l d:List Nat}:∀(k:Nat) (S:SS),S.p≤8*t.length→8*t.length+1-S.p≤k→kJ t most l d k S=cT t most l d S
 | 0,S,h0,h=>by omega
 | k+1,S,h0,h=>by
  unfold cT
  obtain⟨j,hj⟩:∃j,8*t.length+1-S.p=j+1:=⟨8*t.length-S.p,by omega⟩
  rw[hj]
  unfold kJ
  split
  ·rfl
  ·rename_i he
   split
   ·rfl
   ·by_cases h1:(dp t most l d S).2.err=0
    ·have h2:=BM (l:=l) (d:=d) (most:=most) (by simpa using he) h1
     have h3:=(lH (t:=t) (most:=most) (S:=S) (l:=l) (d:=d)).q h0
     rw[pS k _ h3 (by omega),←pS j _ h3 (by omega)]
    ·rw[pR k h1,pR j h1]
theorem mO {l d:List Nat} (h0:S.p≤8*t.length):cT t most l d S=if S.err≠0 then S else if(dp t most l d S).1 then(dp t most l d S).2 else cT t most l d (dp t most l d S).2:=by
 have h1:=pS (most:=most) (l:=l) (d:=d) (8*t.length+1-S.p+1) S h0 (by omega)
 rw[←h1]
 show(if _ then _ else _)=_
 split
 ·rfl
 ·rename_i he
  split
  ·rfl
  ·have h3:=(lH (t:=t) (most:=most) (S:=S) (l:=l) (d:=d)).q h0
   have h4:=(lH (t:=t) (most:=most) (S:=S) (l:=l) (d:=d)).p
   exact pS _ _ h3 (by omega)
theorem yH {l d:List Nat}:∀(k:Nat) (S:SS),Mv t most S (kJ t most l d k S)
 | 0,_=>.refl
 | k+1,S=>by
  unfold kJ
  split
  ·exact .refl
  ·split
   ·exact lH
   ·exact lH.trans (yH k _)
theorem yG {l d:List Nat}:Mv t most S (cT t most l d S):=yH _ _
theorem kz:Mv t most S (de t most S).2∧((de t most S).2.err=0→S.p<(de t most S).2.p):=by
 unfold de
 split
 ·exact⟨gI,fun h=>by cases h⟩
 ·rename_i h3
  have h1:Mv t most S {S with p:=S.p+3}:=⟨by simp only;omega,fun _=>by simp only;omega,fun h=>h⟩
  have go:∀S',Mv t most {S with p:=S.p+3} S'→Mv t most S S'∧(S'.err=0→S.p<S'.p):=fun S' h=>⟨h1.trans h,fun _=>by have:=h.p;simp only at this;omega⟩
  simp only
  split
  ·exact go _ yK
  ·split
   ·exact go _ yG
   ·split
    ·split
     ·exact go _ pH
     ·exact go _ (pH.trans yG)
    ·exact go _ gI
theorem p7:∀(k:Nat) (S:SS),S.p≤8*t.length→8*t.length+1-S.p≤k→lU t most k S=fi t most S
 | 0,S,h0,h=>by omega
 | k+1,S,h0,h=>by
  unfold fi
  obtain⟨j,hj⟩:∃j,8*t.length+1-S.p=j+1:=⟨8*t.length-S.p,by omega⟩
  rw[hj]
  unfold lU
  split
  ·rfl
  ·rename_i he
   have h2:=(kz (t:=t) (most:=most) (S:=S)).2 (by
    refine Classical.byContradiction fun h=>he (.inl h))
   have h3:=(kz (t:=t) (most:=most) (S:=S)).1.q h0
   rw[p7 k _ h3 (by omega),←p7 j _ h3 (by omega)]
theorem run_eq (h0:S.p≤8*t.length):fi t most S=if(de t most S).2.err≠0∨(de t most S).1=true then(de t most S).2 else fi t most (de t most S).2:=by
 have h1:=p7 (most:=most) (8*t.length+1-S.p+1) S h0 (by omega)
 rw[←h1]
 show(if _ then _ else _)=_
 split
 ·rfl
 ·have h3:=(kz (t:=t) (most:=most) (S:=S)).1.q h0
  have h4:=(kz (t:=t) (most:=most) (S:=S)).1.p
  exact p7 _ _ h3 (by omega)
end
end Go.Proofs.YtlkmppkcbhodaaaGreatDoor.Pk
