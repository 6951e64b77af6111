/- The proof, part 34 of 51. -/
import Derived.Test.YtgghhaahnpbnmaaGreatDoorCartularyWalksZG
import Derived.Lib.SplitLaws
set_option linter.all false
namespace Go.Proofs.YtgghhaahnpbnmaaGreatDoor.Ls
open Eng
set_option maxRecDepth 10000
def zQ (l:List Bs):Prop:=l.Pairwise (λa b=>Lib.compareBytes a b<0)
def ov (p:Bs) (fs:List Fi):Option Bs:=((fs.filter (λf=>decide (f.1=p))).map (·.2)).head?
open Eng Ob Pk
set_option maxRecDepth 10000
open Eng
set_option maxRecDepth 10000
def pushL:List Bs->List Bs->List Bs
 | l,[]=>l
 | l,p::r=>if p∈l then pushL l r else pushL (l++[p]) r
theorem yG:∀(l ps:List Bs),∃t,pushL l ps=l++t
 | l,[]=>⟨[],by simp[pushL]⟩
 | l,p::r=>by
  unfold pushL;split;exact yG l r
  ·obtain⟨t,h⟩:=yG (l++[p]) r;exact⟨p::t,by rw[h];simp⟩
theorem uL:∀(l ps:List Bs),l.Nodup->(pushL l ps).Nodup
 | l,[],h=>h
 | l,p::r,h=>by
  unfold pushL;split;exact uL l r h
  ·rename_i hp;refine uL _ r (List.nodup_append.2 ⟨h,by simp,?_⟩);intro a ha b hb e;rw[ac0]at hb;exact hp (by rw[<-hb,<-e];exact ha)
theorem oX (x:Bs):∀(l ps:List Bs),x∈pushL l ps↔x∈l\/x∈ps
 | l,[]=>by simp[pushL]
 | l,p::r=>by
  unfold pushL;split
  ·rename_i hp;rw[oX x l r,acW];constructor
   ·rintro(h | h);exact .inl h;exact .inr (.inr h)
   ·rintro(h | rfl | h);exact .inl h;exact .inl hp;exact .inr h
  ·rw[oX x _ r,adh,ac0,acW,or_assoc]
theorem yF:∀(l ps:List Bs),(pushL l ps).length<=l.length+ps.length
 | l,[]=>by simp[pushL]
 | l,p::r=>by
  unfold pushL;split
  ·have:=yF l r;simp only[acH];omega
  ·have:=yF (l++[p]) r;simp only[acD,acH,ac9]at this |-;omega
def ancP (cm:Bs->Int×List Bs) (most:Int):Nat->Nat->List Bs->Except Int (List Bs)
 | 0,_,l=>.ok l
 | n+1,i,l=>
  if i<l.length then
   if most<=(i:Int)then .error 11
   else if(cm (l.getD i [])).1≠0 then .error (cm (l.getD i [])).1
   else ancP cm most n (i+1) (pushL l (cm (l.getD i [])).2)
  else .ok l
theorem Aa {cm:Bs->Int×List Bs} {most:Int}:∀{n i:Nat} {l r:List Bs},most+1<=(n:Int)+i->ancP cm most n i l=.ok r->1<=n ->
    (∃t,r=l++t)/\(l.Nodup->r.Nodup)/\((l.length:Int)<=most\/i<l.length\/(r=l))/\(∀j,i<=j->j<r.length->(cm (r.getD j [])).1=0/\(j:Int)<most/\∀p∈(cm (r.getD j [])).2,p∈r)
 | 0,_,_,_,_,_,h=>absurd h acB
 | n+1,i,l,r,hn,h,_=>by
  unfold ancP at h;by_cases hi:i<l.length
  ·rw[if_pos hi]at h;by_cases hm:most<=(i:Int)
   ·rw[if_pos hm]at h;cases h
   rw[if_neg hm]at h;by_cases he:(cm (l.getD i [])).1≠0
   ·rw[if_pos he]at h;cases h
   rw[if_neg he]at h;have hn1:1<=n:=acB;obtain⟨⟨t,h1⟩,h2,_,h3⟩:=Aa acB h hn1;obtain⟨u,hu⟩:=yG l (cm (l.getD i [])).2;refine⟨⟨u++t,by rw[h1,hu,ade]⟩,λhl=>h2 (uL _ _ hl),.inr (.inl hi),λj hj hjr=>?_⟩;by_cases e:j=i
   ·subst e
    have hg:r.getD j []=l.getD j []:=by
     rw[h1,hu,ade,acC,List.getElem?_append_left hi,<-acC]
    rw[hg];refine⟨acB,acB,λp hp=>?_⟩;rw[h1];exact ad1 _ ((oX p l _).2 (.inr hp))
   exact h3 j acB hjr
  ·rw[if_neg hi]at h;cases h;exact⟨⟨[],by simp⟩,id,.inr (.inr rfl),λj hj hjr=>absurd hjr acB⟩
theorem Ab {cm:Bs->Int×List Bs} {most:Nat} {id:Bs} {r:List Bs} (h:ancP cm most (most+1) 0 [id]=.ok r) :
    (∃t,r=id::t)/\r.Nodup/\r.length<=most/\∀j,j<r.length->(cm (r.getD j [])).1=0/\∀p∈(cm (r.getD j [])).2,p∈r:=by
 obtain⟨⟨t,h1⟩,h2,_,h3⟩:=Aa acB h acB;refine⟨⟨t,by rw[h1];rfl⟩,h2 (by simp),?_,λj hj=>⟨(h3 j acB hj).1,(h3 j acB hj).2.2⟩⟩;have h0:0<r.length:=by rw[h1];simp
 have:=(h3 (r.length-1) acB acB).2.1;omega
theorem DZ (k k':MK) (v:AV):∀l,mfind (mput l k v) k'=if k=k' then some v else mfind l k'
 | []=>rfl
 | (x,u)::r=>by
  have ih:=DZ k k' v r;unfold mput;by_cases h:x=k
  ·subst h;rw[if_pos rfl];unfold mfind;by_cases h2:x=k'
   ·rw[if_pos h2,if_pos h2]
   ·rw[if_neg h2,if_neg h2,if_neg h2]
  ·rw[if_neg h];unfold mfind;rw[ih];by_cases h2:x=k'
   ·rw[if_pos h2,if_pos h2,if_neg (λe=>h (by rw[h2,e]))]
   ·rw[if_neg h2,if_neg h2]
def pG (M:List (MK×AV)) (l:List Bs):Prop:=∀p,(mfind M (.s p)).getD (.bool false)=.bool (decide (p∈l))
theorem YC (x:Bs):pG [(.s x,.bool true)] [x]:=λp=>by
 unfold mfind;by_cases h:x=p
 ·subst h;simp
 ·rw[if_neg (λe=>h (MK.s.inj e))];have:¬p=x:=λe=>h e.symm;simp[mfind,this]
theorem YD {M:List (MK×AV)} {l:List Bs} (h:pG M l) (x:Bs):pG (mput M (.s x) (.bool true)) (l++[x]):=λp=>by
 rw[DZ];by_cases e:x=p
 ·subst e;simp
 ·rw[if_neg (λh=>e (MK.s.inj h)),h p];have:¬p=x:=λh=>e h.symm;simp[this]
theorem yH (p:Bs):∀(ps l:List Bs),pushL l (ps++[p])=if p∈pushL l ps then pushL l ps else pushL l ps++[p]
 | [],l=>rfl
 | x::r,l=>by
  show(if x∈l then pushL l (r++[p])else pushL (l++[x]) (r++[p]))=_
  have e:pushL l (x::r)=if x∈l then pushL l r else pushL (l++[x]) r:=rfl
  rw[e];by_cases h:x∈l
  ·rw[if_pos h,if_pos h];exact yH p r l
  ·rw[if_neg h,if_neg h];exact yH p r _
theorem Xf (l ps:List Bs) {k:Nat} (h:k<ps.length):pushL l (ps.take (k+1))=if ps.getD k []∈pushL l (ps.take k)then pushL l (ps.take k)else pushL l (ps.take k)++[ps.getD k []]:=by
 rw[dS [] ps h,yH]
end Go.Proofs.YtgghhaahnpbnmaaGreatDoor.Ls
