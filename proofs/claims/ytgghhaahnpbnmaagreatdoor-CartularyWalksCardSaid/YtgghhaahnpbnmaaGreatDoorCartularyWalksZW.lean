/- The proof, part 49 of 51. -/
import Derived.Test.YtgghhaahnpbnmaaGreatDoorCartularyWalksZH
set_option linter.all false
namespace Go.Proofs.YtgghhaahnpbnmaaGreatDoor.Ls
open Eng
set_option maxRecDepth 10000
def markR:List Bool->List Nat->List Bool
 | R,[]=>R
 | R,p::r=>markR (R.set p true) r
def reachR (P:Nat->List Nat):Nat->Nat->List Bool->List Bool
 | 0,_,R=>R
 | f+1,k,R=>reachR P f (k+1) (if R.getD k false=true then markR R (P k)else R)
theorem uk:∀(ps:List Nat) (R:List Bool),(markR R ps).length=R.length
 | [],R=>rfl
 | p::r,R=>by rw[markR,uk r,ad5]
theorem FX (R:List Bool) (p k:Nat) (hp:p<R.length):(R.set p true).getD k false=if p=k then true else R.getD k false:=by
 rw[acC,List.getElem?_set];by_cases h:p=k
 ·rw[if_pos h,if_pos acB,if_pos h];rfl
 ·rw[if_neg h,if_neg h,acC]
theorem DV (k:Nat):∀(ps:List Nat) (R:List Bool),(∀p∈ps,p<R.length)->((markR R ps).getD k false=true↔R.getD k false=true\/k∈ps)
 | [],R,_=>by simp[markR]
 | p::r,R,h=>by
  rw[markR,DV k r _ (λq hq=>by rw[ad5];exact h q (acV _ hq)),FX R p k (h p (acU ..)),acW];by_cases e:p=k
  ·subst e;simp
  ·have:¬k=p:=λx=>e x.symm;simp[e,this]
section
variable {n:Nat} {P:Nat->List Nat} (hP:∀k,k<n->∀p∈P k,k<p/\p<n)
theorem nA (R:List Bool) (k:Nat):(if R.getD k false=true then markR R (P k)else R).length=R.length:=by
 split;exact uk _ _;rfl
theorem tz {R:List Bool} {k:Nat} (h:R.getD k false=true):k<R.length:=by
 by_cases hk:k<R.length;exact hk
 ·rw[acC,List.getElem?_eq_none acB]at h;cases h
include hP
theorem rF {R:List Bool} (hR:R.length=n) (k j:Nat):(if R.getD k false=true then markR R (P k)else R).getD j false=true↔R.getD j false=true\/(R.getD k false=true/\j∈P k):=by
 by_cases h:R.getD k false=true
 ·have hk:=tz h;rw[if_pos h,DV j (P k) R (λp hp=>by rw[hR];exact(hP k acB p hp).2)];exact⟨λg=>g.imp id (λg=>⟨h,g⟩),λg=>g.imp id (λg=>g.2)⟩
 ·rw[if_neg h];exact⟨.inl,λg=>g.elim id (λg=>absurd g.1 h)⟩
theorem yK:∀(f k:Nat) (R:List Bool),R.length=n->∀j,j<=k->((reachR P f k R).getD j false=true↔R.getD j false=true)
 | 0,_,_,_,_,_=>Iff.rfl
 | f+1,k,R,hR,j,hj=>by
  rw[reachR,yK f (k+1) _ (by rw[nA,hR]) j acB,rF hP hR];refine⟨λh=>h.elim id (λh=>?_),.inl⟩;have hk:=tz h.1;have:=(hP k acB j h.2).1;omega
theorem yL:∀(f k:Nat) (R:List Bool),R.length=n->∀j,R.getD j false=true->(reachR P f k R).getD j false=true
 | 0,_,_,_,_,h=>h
 | f+1,k,R,hR,j,h=>by
  rw[reachR];exact yL f (k+1) _ (by rw[nA,hR]) j ((rF hP hR k j).2 (.inl h))
theorem Fm:∀(f k:Nat) (R:List Bool),R.length=n->∀j,k<=j->j<k+f->(reachR P f k R).getD j false=true->∀p∈P j,(reachR P f k R).getD p false=true
 | 0,_,_,_,_,h1,h2,_,_,_=>absurd h2 acB
 | f+1,k,R,hR,j,h1,h2,h,p,hp=>by
  rw[reachR]at h |-;by_cases e:j=k
  ·subst e;have hj:=(yK hP f (j+1) _ (by rw[nA,hR]) j acB).1 h;rw[rF hP hR]at hj;have hjj:R.getD j false=true:=hj.elim id (λh=>h.1);exact yL hP f (j+1) _ (by rw[nA,hR]) p ((rF hP hR j p).2 (.inr ⟨hjj,hp⟩))
  exact Fm f (k+1) _ (by rw[nA,hR]) j acB acB h p hp
theorem Fl {Q:Nat->Prop} (hQ:∀k,Q k->∀p∈P k,Q p):∀(f k:Nat) (R:List Bool),R.length=n->(∀j,R.getD j false=true->Q j)->∀j,(reachR P f k R).getD j false=true->Q j
 | 0,_,_,_,h,j,hj=>h j hj
 | f+1,k,R,hR,h,j,hj=>by
  rw[reachR]at hj;refine Fl hQ f (k+1) _ (by rw[nA,hR]) (λi hi=>?_) j hj;rcases(rF hP hR k i).1 hi with hi | ⟨h1,h2⟩;exact h i hi;exact hQ k (h k h1) i h2
end
theorem yJ (P:Nat->List Nat):∀(f k:Nat) (R:List Bool),(reachR P f k R).length=R.length
 | 0,_,_=>rfl
 | f+1,k,R=>by
  rw[reachR,yJ P f,nA]
theorem uu {α:Type} [DecidableEq α]:∀{l m:List α},l.Nodup->(∀x∈l,x∈m)->l.length<=m.length
 | [],_,_,_=>ac5 _
 | x::r,m,h,hs=>by
  have h':=aer.1 h;have hx:=hs x (acU ..);have ih:=uu (l:=r) (m:=m.erase x) h'.2 (λy hy=>(List.mem_erase_of_ne (λe=>h'.1 (by rw[<-e];exact hy))).2 (hs y (acV _ hy)));rw[List.length_erase_of_mem hx]at ih;have:0<m.length:=List.length_pos_of_mem hx;simp only[acH];omega
def pickB:List Bs->List Bool->List Bs
 | x::r,b::s=>if b=true then x::pickB r s else pickB r s
 | _,_=>[]
theorem EY:∀(l:List Bs) (R:List Bool),l.length=R.length->(pickB l R).length=R.count true
 | [],[],_=>rfl
 | [],_::_,h=>by simp at h
 | _::_,[],h=>by simp at h
 | x::r,b::s,h=>by
  have ih:=EY r s (by simpa using h);cases b<;>simp[pickB,ih]
theorem uH:∀(l:List Bs) (R:List Bool),(pickB l R).Sublist l
 | [],_=>by simp[pickB]
 | _::_,[]=>by simp[pickB]
 | x::r,b::s=>by
  rw[pickB];split;exact(uH r s).cons₂ x;exact(uH r s).cons x
theorem yB (y:Bs):∀(l:List Bs) (R:List Bool),l.length=R.length->(y∈pickB l R↔∃k,k<l.length/\l.getD k []=y/\R.getD k false=true)
 | [],[],_=>by simp[pickB]
 | [],_::_,h=>by simp at h
 | _::_,[],h=>by simp at h
 | x::r,b::s,h=>by
  have ih:=yB y r s (by simpa using h);rw[pickB];constructor
  ·intro hy
   have:y∈pickB r s\/(b=true/\y=x):=by
    split at hy
    ·rcases acW.1 hy with e | hy
     ·rename_i hb;exact .inr ⟨hb,e⟩
     exact .inl hy
    exact .inl hy
   rcases this with hy | ⟨rfl,rfl⟩
   ·obtain⟨k,h1,h2,h3⟩:=ih.1 hy;exact⟨k+1,by simpa using h1,by simpa using h2,by simpa using h3⟩
   exact⟨0,by simp,by simp,by simp⟩
  ·rintro⟨k,h1,h2,h3⟩
   cases k with
   | zero=>
    have h2:x=y:=by simpa using h2
    have h3:b=true:=by simpa using h3
    rw[if_pos h3,h2];exact acU ..
   | succ k=>
    have:=ih.2 ⟨k,by simpa using h1,by simpa using h2,by simpa using h3⟩;split;exact acV _ this;exact this
theorem z8 {cm:Bs->Int×List Bs} {most:Int} {Q:Bs->Prop} (hq:∀x,Q x->∀p∈(cm x).2,Q p):∀{n i:Nat} {l r:List Bs},ancP cm most n i l=.ok r->(∀x∈l,Q x)->∀x∈r,Q x
 | 0,_,_,_,h,hl=>by cases h;exact hl
 | n+1,i,l,r,h,hl=>by
  unfold ancP at h;split at h
  ·rename_i hi;split at h
   ·cases h
   ·split at h
    ·cases h
    ·refine z8 hq h (λx hx=>?_);rcases(oX x _ _).1 hx with hx | hx;exact hl x hx;exact hq _ (hl _ (dL [] hi)) x hx
  ·cases h;exact hl
theorem Ac {cm:Bs->Int×List Bs} {most:Nat} {Q:Bs->Prop} (hq:∀x,Q x->(cm x).1=0/\∀p∈(cm x).2,Q p) (hb:∀l:List Bs,l.Nodup->(∀x∈l,Q x)->l.length<=most) :
    ∀{n i:Nat} {l:List Bs},l.Nodup->(∀x∈l,Q x)->∃r,ancP cm most n i l=.ok r
 | 0,_,l,_,_=>⟨l,rfl⟩
 | n+1,i,l,hl,hx=>by
  unfold ancP;split
  ·rename_i hi;have h1:=hb l hl hx;obtain⟨h2,h3⟩:=hq _ (hx _ (dL [] hi));rw[if_neg acB,if_neg (by rw[h2];simp)];refine Ac hq hb (uL _ _ hl) (λx hy=>?_);rcases(oX x _ _).1 hy with hy | hy;exact hx x hy;exact h3 x hy
  exact⟨l,rfl⟩
theorem abA {n most i:Nat} {P:Nat->List Nat} {ids:List Bs} {cm:Bs->Int×List Bs} (hP:∀k,k<n->∀p∈P k,k<p/\p<n) (hn:ids.length=n) (hnd:ids.Nodup) (hcm:∀k,k<n->cm (ids.getD k [])=(0,(P k).map λp=>ids.getD p []))
    (hm:n<=most) (hi:i<n):∃l,ancP cm most (most+1) 0 [ids.getD i []]=.ok l/\l.length=(reachR P (n-i) i ((List.replicate n false).set i true)).count true /\
     ∀k,k<n->((reachR P (n-i) i ((List.replicate n false).set i true)).getD k false=true↔ids.getD k []∈l):=by
 obtain⟨R0,hR0⟩:∃R0,R0=(List.replicate n false).set i true:=⟨_,rfl⟩;have hR0l:R0.length=n:=by rw[hR0,ad5,ac3]
 have hR0g:∀j,R0.getD j false=true↔j=i:=λj=>by
  rw[hR0,FX _ _ _ (by rw[ac3];exact hi)];by_cases e:i=j
  ·simp[e]
  ·have:¬j=i:=λh=>e h.symm;rw[if_neg e,acC,List.getElem?_replicate];split<;>simp[this]
 rw[<-hR0];obtain⟨F,hF⟩:∃F,F=reachR P (n-i) i R0:=⟨_,rfl⟩;have hFl:F.length=n:=by rw[hF,yJ,hR0l]
 have hFi:F.getD i false=true:=by rw[hF];exact yL hP _ _ _ hR0l i ((hR0g i).2 rfl)
 have hFc:∀j,F.getD j false=true->∀p∈P j,F.getD p false=true:=λj hj p hp=>by
  have hjn:=tz hj;by_cases hji:j<i
  ·rw[hF]at hj;have:=(hR0g j).1 ((yK hP _ _ _ hR0l j acB).1 hj);omega
  ·rw[hF]at hj |-;exact Fm hP _ _ _ hR0l j acB acB hj p hp
 rw[<-hF]
 have hQ:∀x,(∃k,k<n/\ids.getD k []=x/\F.getD k false=true)->(cm x).1=0/\∀p∈(cm x).2,∃k,k<n/\ids.getD k []=p/\F.getD k false=true:=by
  rintro x ⟨k,h1,rfl,h3⟩;rw[hcm k h1];refine⟨rfl,λp hp=>?_⟩;obtain⟨q,hq,rfl⟩:=adu.1 hp;exact⟨q,(hP k h1 q hq).2,rfl,hFc k h3 q hq⟩
 have hmem:∀x,(∃k,k<n/\ids.getD k []=x/\F.getD k false=true)->x∈pickB ids F:=by
  rintro x ⟨k,h1,h2,h3⟩;exact(yB x ids F acB).2 ⟨k,acB,h2,h3⟩
 have aL:=EY ids F acB;have hps:=(uH ids F).length_le;have hq0:∀x∈[ids.getD i []],∃k,k<n/\ids.getD k []=x/\F.getD k false=true:=λx hx=>⟨i,hi,(ac0.1 hx).symm,hFi⟩
 obtain⟨l,hl⟩:=Ac (cm:=cm) (most:=most) (Q:=λx=>∃k,k<n/\ids.getD k []=x/\F.getD k false=true) (n:=most+1) (i:=0) hQ (λl h1 h2=>by
  have:=uu h1 (λx hx=>hmem x (h2 x hx));omega) (by simp) hq0
 obtain⟨⟨t,h1⟩,h2,h3,h4⟩:=Ab hl;have h5:=z8 (Q:=λx=>∃k,k<n/\ids.getD k []=x/\F.getD k false=true) (λx hx=>(hQ x hx).2) hl hq0
 have hcl:∀k,k<n->ids.getD k []∈l->∀p∈P k,ids.getD p []∈l:=λk hk hx p hp=>by
  obtain⟨j,hj,e⟩:=aez.1 hx;have:=(h4 j hj).2;rw[acC,List.getElem?_eq_getElem hj,ads,e,hcm k hk]at this;exact this _ (adu.2 ⟨p,hp,rfl⟩)
 have h6:∀k,F.getD k false=true->k<n/\ids.getD k []∈l:=by
  rw[hF];refine Fl hP (Q:=λk=>k<n/\ids.getD k []∈l) (λk hk p hp=>⟨(hP k hk.1 p hp).2,hcl k hk.1 hk.2 p hp⟩) _ _ _ hR0l (λj hj=>?_);rw[(hR0g j).1 hj];exact⟨hi,by rw[h1];exact acU ..⟩
 refine⟨l,hl,?_,λk hk=>⟨λh=>(h6 k h).2,λh=>?_⟩⟩
 ·have a1:=uu h2 (λx hx=>hmem x (h5 x hx))
  have a2:=uu ((uH ids F).nodup hnd) (m:=l) (λx hx=>by
   obtain⟨k,_,hk,h⟩:=(yB x ids F acB).1 hx
   rw[<-hk];exact(h6 k h).2)
  omega
 ·obtain⟨j,hj,e,hf⟩:=h5 _ h;rw[acC,List.getElem?_eq_getElem (by omega:j<ids.length),acC,List.getElem?_eq_getElem (by omega:k<ids.length)]at e;rw[<-(List.getElem_inj hnd).1 e];exact hf
end Go.Proofs.YtgghhaahnpbnmaaGreatDoor.Ls
