/- The proof, part 47 of 50. -/
import Derived.Test.YtkdjbebgdoohjaaGreatDoorHistoryOrderZE
import Derived.Test.YtkdjbebgdoohjaaGreatDoorHistoryOrderZT
set_option linter.all false
namespace Go.Proofs.YtkdjbebgdoohjaaGreatDoor.Ls
open Eng Ob
set_option maxRecDepth 10000
structure oe (L:List Fi) (ps:List ba):Prop where
 hs:dE L
 hl:L.length<=100000
 hd:∀f∈L,f.2.length<=1000000
 hp:∀k∈ps,jZ k
 aY:ps.length<=100000
 ja:mL ps
def sL (s:Bs):List Bs:=match Cm.parseL s with
 | some c=>c.parents
 | none=>[]
def fk (L:List Fi) (ps:List ba) (id:Bs):Int×List Bs:=
 if(iy 1 (fI L ps id)).2≠0 then((iy 1 (fI L ps id)).2,[])else if Cm.gI (iy 1 (fI L ps id)).1≠0 then(Cm.gI (iy 1 (fI L ps id)).1,[])else(0,sL (iy 1 (fI L ps id)).1)
def uS (x:Int×List Bs) (v:AV):Prop:=
 (x.1=0/\x.2.length<=16/\(∀p∈x.2,p.length<=1000)/\∃c:Cm.fW,c.parents=x.2/\v=.ab [Cm.fj c,.int .i64 0])\/(x.1≠0/\v=.ab [Cm.parts Cm.c0 .aj,.int .i64 x.1])
theorem Pj (L:List Fi) {ps:List ba} (id:Bs) (h:mL ps) (k:Int):(iy k (fI L ps id)).1.length<=65000:=by
 have:=(Mx (Mt L id h)).2.2;unfold iy;split
 ·simp
 ·split
  ·simp
  exact this
theorem I8 {L:List Fi} {ps:List ba} {x p:Bs} (h:p∈(fk L ps x).2):p.length<=1000:=by
 unfold fk at h;split at h
 ·simp at h
 ·split at h
  ·simp at h
  ·rename_i hr;obtain⟨c,h1,h2⟩:=Cm.Dq.1 (Decidable.of_not_not hr);unfold sL at h;rw[h1]at h;have:=(BB (ZR.1 (Cm.zF h2).2.1 p h)).1;omega
theorem Bl (L:List Fi) (n:Nat) (ps:List ba) (id:Bs) (h:oe L ps) (hi:id.length<=140737488351232) :
    Eng.Spec Tryz.prog 8 [] [eW L n ps,.str id] (λh r _=>h=[]/\uS (fk L ps id) r):=by
 refine Cod.MV (λE R hN hR=>?_);have hk:=Sx L n ps id 1 h.hs h.hl h.hd h.hp h.aY hi;have hkl:=Pj L id h.ja 1;unfold fk at hR;generalize iy 1 (fI L ps id)=k at *
 obtain⟨d,e⟩:=k;simp only at hk hkl hR;refine wW ?_;refine an hk rfl rfl ?_;by_cases he:e=0
 ·subst he;refine wW ?_;refine dR (Cm.Jj d (Cm.S6 ZG) (λc hc=>Cm.S9 ZG hc)) rfl ?_;rintro h' v as' ⟨rfl,hv⟩;rcases hv with⟨c,h1,h2,rfl⟩ | ⟨h1,rfl⟩
  ·have hr0:Cm.gI d=0:=Cm.Dq.2 ⟨c,h1,h2⟩;have hpc:sL d=c.parents:=by unfold sL;rw[h1]
   obtain⟨c16,hall,_⟩:=Cm.zF h2;refine⟨rfl,rfl,?_⟩;simp(disch:=omega)only[go_sem,simprocAttr,Cm.fj]
   exact hR.wk (h':=[]) (r':=.ab [Cm.fj c,.int .i64 0]) (ar':=[.undef,.undef]) rfl (.le (by simp(disch:=omega)only[go_sem,simprocAttr,Cm.fj])) ⟨rfl,.inl (by
    rw[if_neg (by simp),if_neg ZG];refine⟨rfl,by rw[hpc];exact c16,λp hp=>?_,c,hpc.symm,rfl⟩;have:=(BB (ZR.1 hall p (by rw[<-hpc];exact hp))).1
    omega)⟩
  ·refine⟨rfl,rfl,?_⟩;simp(disch:=omega)only[go_sem,simprocAttr,Cm.parts,Cm.c0]
   exact hR.wk (h':=[]) (r':=.ab [Cm.parts Cm.c0 .aj,.int .i64 (Cm.gI d)]) (ar':=[.undef,.undef]) rfl (.le (by simp(disch:=omega)only[go_sem,simprocAttr,Cm.parts,Cm.c0])) ⟨rfl,.inr (by
    rw[if_neg (by simp),if_pos h1]
    exact⟨h1,rfl⟩)⟩
 ·refine ah he ?_
  exact hR.wk (h':=[]) (r':=.ab [Cm.parts Cm.c0 .aj,.int .i64 e]) (ar':=[.undef,.undef]) rfl (.le (by simp(disch:=omega)only[go_sem,simprocAttr,Cm.parts,Cm.c0])) ⟨rfl,.inr (by
   rw[if_pos he]
   exact⟨he,rfl⟩)⟩
open Eng Ob
set_option maxRecDepth 10000
def ancA:Except Int (List Bs)->AV
 | .ok l=>.ab [.ro 1 (aL l),.int .i64 0]
 | .error e=>.ab [.aj,.int .i64 e]
theorem Xo (x:Bs):[AV.str x]=aL [x]:=rfl
theorem vN (L:List Fi) (n:Nat) (ps:List ba) (id:Bs) (most:Nat) (h:oe L ps) (hi:id.length<=140737488351232) (hm:most<=1000) :
    aw Tryz.prog 7 [eW L n ps,.str id,.int .i64 most] (ancA (ancP (fk L ps) most (most+1) 0 [id])):=by
 refine Cod.MP (λE R hN hR=>?_);have hcm:=λx hx=>Bl L n ps x h hx;generalize fk L ps=cm at *
 generalize hA:ancP cm most (most+1) 0 [id]=A at *
 refine wW ?_
 refine aP hN (λq:Nat×List Bs×List (MK×AV)=>⟨[(0,eW L n ps),(2,.int .i64 most),(8,.sl 291057 0 q.2.1.length),(9,.ptr 291017 0 0),(10,.int .i64 q.1)],[(291057,.arr 1 (aL q.2.1)),(291017,.mp none q.2.2)]⟩)
  (λq=>q.1<=most/\q.2.1.length<=1+16*q.1/\(∀x∈q.2.1,x.length<=140737488351232)/\oh q.2.2 q.2.1/\A=ancP cm most (most+1-q.1) q.1 q.2.1) (λq=>most+1-q.1) (0,[id],[(.s id,.bool true)])
  (.jN 291016 291057 rfl rfl (.le (by simp(disch:=omega)only[go_sem,simprocAttr,Xo,mput]))) ⟨by simp,by simp,λx hx=>by rw[Z9.1 hx];exact hi,VL id,hA.symm⟩ ?_
 rintro⟨i,l,M⟩ R1 ⟨h1,h2,h3,h4,h5⟩ hR1;simp only at h1 h2 h3 h4 h5;rw[h5]at hR;by_cases hlt:i<l.length;rotate_left
 ·have e0:ancP cm most (most+1-i) i l=.ok l:=by
   cases hf:most+1-i with
   | zero=>rfl
   | succ f=>unfold ancP;rw[if_neg hlt]
  rw[e0]at hR;refine ah @bz ?_;exact hR.wk (h':=[]) (r':=.ab [.ro 1 (aL l),.int .i64 0]) (ar':=[.undef,.undef,.undef]) rfl (.bo 291057 (.le (nY @El @gL))) ⟨rfl,rfl⟩
 by_cases hmi:most<=i
 ·have hmi':(most:Int)<=(i:Int):=ZG
  have e0:ancP cm most (most+1-i) i l=.error 11:=by
   rw[show most+1-i=0+1 by omega];unfold ancP;rw[if_pos hlt,if_pos hmi']
  rw[e0]at hR;refine ah @bz ?_;exact hR.wk (h':=[]) (r':=.ab [.aj,.int .i64 11]) (ar':=[.undef,.undef,.undef]) rfl (.le vV) ⟨rfl,rfl⟩
 have hmi':¬(most:Int)<=(i:Int):=ZG;obtain⟨f,hf⟩:∃f,most+1-i=f+1:=⟨most-i,ZG⟩;have hf2:most+1-(i+1)=f:=ZG;have hx:=h3 _ (eK [] hlt);have hc:=hcm (l.getD i []) hx;rw[hf]at hR h5;unfold ancP at hR h5;rw[if_pos hlt,if_neg hmi']at hR h5;generalize cm (l.getD i [])=c at *
 obtain⟨ce,cp⟩:=c;simp only at hR h5;refine aE @bz @fv ?_;refine dR hc rfl ?_;rintro h' v as' ⟨rfl,hv⟩;unfold uS at hv;rcases hv with⟨g0,g1,g2,c,g3,rfl⟩ | ⟨g0,rfl⟩;rotate_left
 ·simp only at g0;rw[if_pos g0]at hR;refine⟨rfl,rfl,?_⟩;simp(disch:=omega)only[go_sem,simprocAttr,Cm.parts,Cm.c0,g0];exact hR.wk (h':=[]) (r':=.ab [.aj,.int .i64 ce]) (ar':=[.undef,.undef,.undef]) rfl (.le vV) ⟨rfl,rfl⟩
 simp only at g0 g1 g2 g3;subst g0;rw[if_neg (by simp)]at h5;refine⟨rfl,rfl,?_⟩;have hcp:c.parents.map AV.str=aL cp:=by rw[g3];rfl
 simp(disch:=omega)only[go_sem,simprocAttr,Cm.fj,hcp,bz]
 refine aP hN (λq:Nat×List (MK×AV)=>⟨[(0,eW L n ps),(2,.int .i64 most),(8,.sl 291057 0 (pushL l (cp.take q.1)).length),(9,.ptr 291017 0 0),(10,.int .i64 i),(42,.ro 1 (aL cp)),(43,.int .i64 cp.length),(44,.int .i64 q.1)],[(291057,.arr 1 (aL (pushL l (cp.take q.1)))),(291017,.mp none q.2)]⟩)
  (λq=>q.1<=cp.length/\oh q.2 (pushL l (cp.take q.1))) (λq=>cp.length-q.1) (0,M) (.le (by simp(disch:=omega)only[go_sem,simprocAttr,aaU,pushL,bz])) ⟨by simp,by simpa[pushL]using h4⟩ ?_
 rintro⟨k,M2⟩ R2 ⟨hk,hs2⟩ hR2;simp only at hk hs2;have aY:=xl l (cp.take k);rw[ZL]at aY;by_cases hkl:k<cp.length
 ·have hst:=T2 l cp hkl;have hsn:=hs2 (cp.getD k []);by_cases hin:cp.getD k []∈pushL l (cp.take k)
  ·rw[if_pos hin]at hst;rw[decide_eq_true hin]at hsn;refine bU @bz @fv hsn ?_;exact hR2 (k+1,M2) _ (by simp only;omega) ⟨by simp only;omega,by simp only;rw[hst];exact hs2⟩ (.le (cU hst))
  ·rw[if_neg hin]at hst;rw[decide_eq_false hin]at hsn;have hsp:=VM hs2 (cp.getD k []);refine bU @bz @fv hsn ?_;rw[El];refine⟨⟨gL,ZG⟩,hR2 (k+1,mput M2 (.s (cp.getD k [])) (.bool true)) _ (by simp only;omega) ⟨by simp only;omega,by simp only;rw[hst];exact hsp⟩ (.le (by simp(disch:=omega)only[go_sem,simprocAttr,hst,jT,ZJ,ZQ]))⟩
 ·obtain rfl:k=cp.length:=ZG;rw[ZK (ZM _)]at hs2 aY |-;refine ah @bz ?_;refine hR1 (i+1,pushL l cp,M2) _ (by simp only;omega) ⟨by simp only;omega,by simp only;omega,λx hx=>?_,hs2,by simp only;rw[hf2];exact h5⟩ (.le vV);rcases(pU x l cp).1 hx with hx | hx;exact h3 x hx
  ·have:=g2 x hx;omega
theorem Nc (l:List Bs) (x:Bs) (hl:l.length<=100000000):Eng.Spec Tryz.prog 45 [] [.ro 1 (aL l),.str x] (λh r _=>h=[]/\∃i:Int,r=.int .i64 i/\(0<=i↔x∈l)):=by
 refine Cod.Nd (λE R hN hR=>?_);refine ah @bz ?_;refine aP hN (λk:Nat=>⟨[(0,.ro 1 (aL l)),(1,.str x),(7,.int .i64 l.length),(8,.int .i64 k)],[]⟩) (λk=>k<=l.length/\x∉l.take k) (λk=>l.length-k) 0 (.le vV) ⟨Z7 _,by simp⟩ ?_;rintro k R1 ⟨hk,hno⟩ hR1;by_cases hlt:k<l.length
 ·by_cases he:x=l.getD k []
  ·refine bU @bz @fv he ?_;exact hR.wk (h':=[]) (r':=.int .i64 k) (ar':=[.undef,.undef]) rfl (.le vV) ⟨rfl,_,rfl,λ_=>by rw[he];exact eK [] hlt,λ_=>by omega⟩
  ·refine bU @bz @fv he ?_;refine hR1 (k+1) _ ZG ⟨ZG,?_⟩ (.le vV);rw[fb [] l hlt,aax,Z9];exact λh=>h.elim hno he
 ·obtain rfl:k=l.length:=ZG;rw[ZK (ZM _)]at hno;refine wW ?_;exact hR.wk (h':=[]) (r':=.int .i64 (-1)) (ar':=[.undef,.undef]) rfl (.le vV) ⟨rfl,_,rfl,λh=>absurd h (by decide),λh=>absurd h hno⟩
theorem Bm (l:List Bs) (x:Bs) (hl:l.length<=100000000):aw Tryz.prog 17 [.ro 1 (aL l),.str x] (.bool (decide (x∈l))):=by
 refine Cod.MW (λE R hN hR=>?_);refine wW ?_;refine dR (Nc l x hl) rfl ?_;rintro h' v as' ⟨rfl,i,rfl,hi⟩;refine⟨rfl,rfl,?_⟩;by_cases hx:x∈l
 ·rw[decide_eq_true hx]at hR;have:=hi.2 hx;refine wW ?_;exact hR.ro ⟨rfl,rfl⟩
 ·rw[decide_eq_false hx]at hR;have:¬0<=i:=λh=>hx (hi.1 h);refine wW ?_;exact hR.ro ⟨rfl,rfl⟩
def yZ (old:Bs):Except Int (List Bs)->AV
 | .ok l=>.ab [.bool (decide (old∈l)),.int .i64 0]
 | .error e=>.ab [.bool false,.int .i64 e]
theorem MT (L:List Fi) (n:Nat) (ps:List ba) (old id:Bs) (most:Nat) (h:oe L ps) (hi:id.length<=140737488351232) (hm:most<=1000) :
    aw Tryz.prog 9 [eW L n ps,.str old,.str id,.int .i64 most] (yZ old (ancP (fk L ps) most (most+1) 0 [id])):=by
 refine Cod.MU (λE R hN hR=>?_);have ha:=vN L n ps id most h hi hm;have hl:∀l,ancP (fk L ps) most (most+1) 0 [id]=.ok l->l.length<=most:=λl hl=>(yH hl).2.2.1;generalize ancP (fk L ps) most (most+1) 0 [id]=a at *
 cases a with
 | ok l=>
  unfold ancA at ha;have hc:=Bm l old (by have:=hl l rfl;omega);refine wW ?_;refine an ha rfl rfl ?_;refine wW ?_;refine an hc rfl rfl ?_;refine wW ?_
  exact hR.ro ⟨rfl,rfl⟩
 | error e=>
  have hc:aw Tryz.prog 17 [.aj,.str old] (.bool false):=Ec (.cons (.one (.nil 1)) (.cons (.one (.refl _)) .nil)) (Bm [] old (by simp));unfold ancA at ha;refine wW ?_;refine an ha rfl rfl ?_;refine wW ?_;refine an hc rfl rfl ?_;refine wW ?_;exact hR.ro ⟨rfl,rfl⟩
end Go.Proofs.YtkdjbebgdoohjaaGreatDoor.Ls
