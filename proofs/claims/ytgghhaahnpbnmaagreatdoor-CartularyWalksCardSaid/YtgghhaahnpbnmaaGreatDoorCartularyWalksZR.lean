/- The proof, part 44 of 51. -/
import Derived.Test.YtgghhaahnpbnmaaGreatDoorCartularyWalksZC
import Derived.Test.YtgghhaahnpbnmaaGreatDoorCartularyWalksZQ
set_option linter.all false
namespace Go.Proofs.YtgghhaahnpbnmaaGreatDoor.Ls
open Eng Ob
set_option maxRecDepth 10000
structure rX (L:List Fi) (ps:List bN):Prop where
 hs:eB L
 hl:L.length<=100000
 hd:∀f∈L,f.2.length<=1000000
 hp:∀k∈ps,lA k
 aL:ps.length<=100000
 gy:rY ps
def q8 (s:Bs):List Bs:=match Cm.parseL s with
 | some c=>c.parents
 | none=>[]
def ji (L:List Fi) (ps:List bN) (id:Bs):Int×List Bs:=
 if(iT 1 (fV L ps id)).2≠0 then((iT 1 (fV L ps id)).2,[])else if Cm.gH (iT 1 (fV L ps id)).1≠0 then(Cm.gH (iT 1 (fV L ps id)).1,[])else(0,q8 (iT 1 (fV L ps id)).1)
def Bi (x:Int×List Bs) (v:AV):Prop:=
 (x.1=0/\x.2.length<=16/\(∀p∈x.2,p.length<=1000)/\∃c:Cm.bW,c.parents=x.2/\v=.ab [Cm.eC c,.int .i64 0])\/(x.1≠0/\v=.ab [Cm.parts Cm.c0 .an,.int .i64 x.1])
theorem Sr (L:List Fi) {ps:List bN} (id:Bs) (h:rY ps) (k:Int):(iT k (fV L ps id)).1.length<=65000:=by
 have:=(Pr (Po L id h)).2.2;unfold iT;split
 ·simp
 ·split
  ·simp
  exact this
theorem PZ (L:List Fi) (n:Nat) (ps:List bN) (id:Bs) (h:rX L ps) (hi:id.length<=140737488351232) :
    Eng.Spec Tryz.prog 39 [] [gb L n ps,.str id] (λh r _=>h=[]/\Bi (ji L ps id) r):=by
 refine Cod.P0 (λE R hN hR=>?_);have hk:=VG L n ps id 1 h.hs h.hl h.hd h.hp h.aL hi;have hkl:=Sr L id h.gy 1;unfold ji at hR;generalize iT 1 (fV L ps id)=k at *
 obtain⟨d,e⟩:=k;simp only at hk hkl hR;refine wW ?_;refine aj hk rfl rfl ?_;by_cases he:e=0
 ·subst he;refine wW ?_;refine dJ (Cm.LH d (Cm.V6 acB) (λc hc=>Cm.Wc acB hc)) rfl ?_;rintro h' v as' ⟨rfl,hv⟩;rcases hv with⟨c,h1,h2,rfl⟩ | ⟨h1,rfl⟩
  ·have hr0:Cm.gH d=0:=Cm.Fo.2 ⟨c,h1,h2⟩;have hpc:q8 d=c.parents:=by unfold q8;rw[h1]
   obtain⟨c16,hall,_⟩:=Cm.wF h2;refine⟨rfl,rfl,?_⟩;simp(disch:=omega)only[go_sem,simprocAttr,Cm.eC]
   exact hR.wk (h':=[]) (r':=.ab [Cm.eC c,.int .i64 0]) (ar':=[.undef,.undef]) rfl (.le (by simp(disch:=omega)only[go_sem,simprocAttr,Cm.eC])) ⟨rfl,.inl (by
    rw[if_neg (by simp),if_neg acB];refine⟨rfl,by rw[hpc];exact c16,λp hp=>?_,c,hpc.symm,rfl⟩;have:=(kJ (acI.1 hall p (by rw[<-hpc];exact hp))).1
    omega)⟩
  ·refine⟨rfl,rfl,?_⟩;simp(disch:=omega)only[go_sem,simprocAttr,Cm.parts,Cm.c0]
   exact hR.wk (h':=[]) (r':=.ab [Cm.parts Cm.c0 .an,.int .i64 (Cm.gH d)]) (ar':=[.undef,.undef]) rfl (.le (by simp(disch:=omega)only[go_sem,simprocAttr,Cm.parts,Cm.c0])) ⟨rfl,.inr (by
    rw[if_neg (by simp),if_pos h1]
    exact⟨h1,rfl⟩)⟩
 ·refine ah he ?_
  exact hR.wk (h':=[]) (r':=.ab [Cm.parts Cm.c0 .an,.int .i64 e]) (ar':=[.undef,.undef]) rfl (.le (by simp(disch:=omega)only[go_sem,simprocAttr,Cm.parts,Cm.c0])) ⟨rfl,.inr (by
   rw[if_pos he]
   exact⟨he,rfl⟩)⟩
open Eng Ob
set_option maxRecDepth 10000
def r9:Except Int (List Bs)->AV
 | .ok l=>.ab [.ro 1 (aR l),.int .i64 0]
 | .error e=>.ab [.an,.int .i64 e]
theorem aaa (x:Bs):[AV.str x]=aR [x]:=rfl
theorem C0 (L:List Fi) (n:Nat) (ps:List bN) (id:Bs) (most:Nat) (h:rX L ps) (hi:id.length<=140737488351232) (hm:most<=1000) :
    aw Tryz.prog 12 [gb L n ps,.str id,.int .i64 most] (r9 (ancP (ji L ps) most (most+1) 0 [id])):=by
 refine Cod.PU (λE R hN hR=>?_);have hcm:=λx hx=>PZ L n ps x h hx;generalize ji L ps=cm at *
 generalize hA:ancP cm most (most+1) 0 [id]=A at *
 refine wW ?_
 refine aJ hN (λq:Nat×List Bs×List (MK×AV)=>⟨[(0,gb L n ps),(2,.int .i64 most),(8,.sl 291057 0 q.2.1.length),(9,.ptr 291017 0 0),(10,.int .i64 q.1)],[(291057,.arr 1 (aR q.2.1)),(291017,.mp none q.2.2)]⟩)
  (λq=>q.1<=most/\q.2.1.length<=1+16*q.1/\(∀x∈q.2.1,x.length<=140737488351232)/\pG q.2.2 q.2.1/\A=ancP cm most (most+1-q.1) q.1 q.2.1) (λq=>most+1-q.1) (0,[id],[(.s id,.bool true)])
  (.iZ 291016 291057 rfl rfl (.le (by simp(disch:=omega)only[go_sem,simprocAttr,aaa,mput]))) ⟨by simp,by simp,λx hx=>by rw[ac0.1 hx];exact hi,YC id,hA.symm⟩ ?_
 rintro⟨i,l,M⟩ R1 ⟨h1,h2,h3,h4,h5⟩ hR1;simp only at h1 h2 h3 h4 h5;rw[h5]at hR;by_cases hlt:i<l.length;rotate_left
 ·have e0:ancP cm most (most+1-i) i l=.ok l:=by
   cases hf:most+1-i with
   | zero=>rfl
   | succ f=>unfold ancP;rw[if_neg hlt]
  rw[e0]at hR;refine ah @bJ ?_;exact hR.wk (h':=[]) (r':=.ab [.ro 1 (aR l),.int .i64 0]) (ar':=[.undef,.undef,.undef]) rfl (.bn 291057 (.le (lv @rH @kl))) ⟨rfl,rfl⟩
 by_cases hmi:most<=i
 ·have hmi':(most:Int)<=(i:Int):=acB
  have e0:ancP cm most (most+1-i) i l=.error 11:=by
   rw[show most+1-i=0+1 by omega];unfold ancP;rw[if_pos hlt,if_pos hmi']
  rw[e0]at hR;refine ah @bJ ?_;exact hR.wk (h':=[]) (r':=.ab [.an,.int .i64 11]) (ar':=[.undef,.undef,.undef]) rfl (.le vV) ⟨rfl,rfl⟩
 have hmi':¬(most:Int)<=(i:Int):=acB;obtain⟨f,hf⟩:∃f,most+1-i=f+1:=⟨most-i,acB⟩;have hf2:most+1-(i+1)=f:=acB;have hx:=h3 _ (dL [] hlt);have hc:=hcm (l.getD i []) hx;rw[hf]at hR h5;unfold ancP at hR h5;rw[if_pos hlt,if_neg hmi']at hR h5;generalize cm (l.getD i [])=c at *
 obtain⟨ce,cp⟩:=c;simp only at hR h5;refine aV @bJ @hV ?_;refine dJ hc rfl ?_;rintro h' v as' ⟨rfl,hv⟩;unfold Bi at hv;rcases hv with⟨g0,g1,g2,c,g3,rfl⟩ | ⟨g0,rfl⟩;rotate_left
 ·simp only at g0;rw[if_pos g0]at hR;refine⟨rfl,rfl,?_⟩;simp(disch:=omega)only[go_sem,simprocAttr,Cm.parts,Cm.c0,g0];exact hR.wk (h':=[]) (r':=.ab [.an,.int .i64 ce]) (ar':=[.undef,.undef,.undef]) rfl (.le vV) ⟨rfl,rfl⟩
 simp only at g0 g1 g2 g3;subst g0;rw[if_neg (by simp)]at h5;refine⟨rfl,rfl,?_⟩;have hcp:c.parents.map AV.str=aR cp:=by rw[g3];rfl
 simp(disch:=omega)only[go_sem,simprocAttr,Cm.eC,hcp,bJ]
 refine aJ hN (λq:Nat×List (MK×AV)=>⟨[(0,gb L n ps),(2,.int .i64 most),(8,.sl 291057 0 (pushL l (cp.take q.1)).length),(9,.ptr 291017 0 0),(10,.int .i64 i),(42,.ro 1 (aR cp)),(43,.int .i64 cp.length),(44,.int .i64 q.1)],[(291057,.arr 1 (aR (pushL l (cp.take q.1)))),(291017,.mp none q.2)]⟩)
  (λq=>q.1<=cp.length/\pG q.2 (pushL l (cp.take q.1))) (λq=>cp.length-q.1) (0,M) (.le (by simp(disch:=omega)only[go_sem,simprocAttr,ad3,pushL,bJ])) ⟨by simp,by simpa[pushL]using h4⟩ ?_
 rintro⟨k,M2⟩ R2 ⟨hk,hs2⟩ hR2;simp only at hk hs2;have aL:=yF l (cp.take k);rw[acJ]at aL;by_cases hkl:k<cp.length
 ·have hst:=Xf l cp hkl;have hsn:=hs2 (cp.getD k []);by_cases hin:cp.getD k []∈pushL l (cp.take k)
  ·rw[if_pos hin]at hst;rw[decide_eq_true hin]at hsn;refine cI @bJ @hV hsn ?_;exact hR2 (k+1,M2) _ (by simp only;omega) ⟨by simp only;omega,by simp only;rw[hst];exact hs2⟩ (.le (eY hst))
  ·rw[if_neg hin]at hst;rw[decide_eq_false hin]at hsn;have hsp:=YD hs2 (cp.getD k []);refine cI @bJ @hV hsn ?_;rw[rH];refine⟨⟨kl,acB⟩,hR2 (k+1,mput M2 (.s (cp.getD k [])) (.bool true)) _ (by simp only;omega) ⟨by simp only;omega,by simp only;rw[hst];exact hsp⟩ (.le (by simp(disch:=omega)only[go_sem,simprocAttr,hst,vf,acD,acX]))⟩
 ·obtain rfl:k=cp.length:=acB;rw[acF (acG _)]at hs2 aL |-;refine ah @bJ ?_;refine hR1 (i+1,pushL l cp,M2) _ (by simp only;omega) ⟨by simp only;omega,by simp only;omega,λx hx=>?_,hs2,by simp only;rw[hf2];exact h5⟩ (.le vV);rcases(oX x l cp).1 hx with hx | hx;exact h3 x hx
  ·have:=g2 x hx;omega
theorem Qf (l:List Bs) (x:Bs) (hl:l.length<=100000000):Eng.Spec Tryz.prog 73 [] [.ro 1 (aR l),.str x] (λh r _=>h=[]/\∃i:Int,r=.int .i64 i/\(0<=i↔x∈l)):=by
 refine Cod.Qg (λE R hN hR=>?_);refine ah @bJ ?_;refine aJ hN (λk:Nat=>⟨[(0,.ro 1 (aR l)),(1,.str x),(7,.int .i64 l.length),(8,.int .i64 k)],[]⟩) (λk=>k<=l.length/\x∉l.take k) (λk=>l.length-k) 0 (.le vV) ⟨ac5 _,by simp⟩ ?_;rintro k R1 ⟨hk,hno⟩ hR1;by_cases hlt:k<l.length
 ·by_cases he:x=l.getD k []
  ·refine cI @bJ @hV he ?_;exact hR.wk (h':=[]) (r':=.int .i64 k) (ar':=[.undef,.undef]) rfl (.le vV) ⟨rfl,_,rfl,λ_=>by rw[he];exact dL [] hlt,λ_=>by omega⟩
  ·refine cI @bJ @hV he ?_;refine hR1 (k+1) _ acB ⟨acB,?_⟩ (.le vV);rw[dS [] l hlt,adh,ac0];exact λh=>h.elim hno he
 ·obtain rfl:k=l.length:=acB;rw[acF (acG _)]at hno;refine wW ?_;exact hR.wk (h':=[]) (r':=.int .i64 (-1)) (ar':=[.undef,.undef]) rfl (.le vV) ⟨rfl,_,rfl,λh=>absurd h (by decide),λh=>absurd h hno⟩
theorem C3 (l:List Bs) (x:Bs) (hl:l.length<=100000000):aw Tryz.prog 41 [.ro 1 (aR l),.str x] (.bool (decide (x∈l))):=by
 refine Cod.P1 (λE R hN hR=>?_);refine wW ?_;refine dJ (Qf l x hl) rfl ?_;rintro h' v as' ⟨rfl,i,rfl,hi⟩;refine⟨rfl,rfl,?_⟩;by_cases hx:x∈l
 ·rw[decide_eq_true hx]at hR;have:=hi.2 hx;refine wW ?_;exact hR.ro ⟨rfl,rfl⟩
 ·rw[decide_eq_false hx]at hR;have:¬0<=i:=λh=>hx (hi.1 h);refine wW ?_;exact hR.ro ⟨rfl,rfl⟩
def Ax (old:Bs):Except Int (List Bs)->AV
 | .ok l=>.ab [.bool (decide (old∈l)),.int .i64 0]
 | .error e=>.ab [.bool false,.int .i64 e]
theorem PW (L:List Fi) (n:Nat) (ps:List bN) (old id:Bs) (most:Nat) (h:rX L ps) (hi:id.length<=140737488351232) (hm:most<=1000) :
    aw Tryz.prog 14 [gb L n ps,.str old,.str id,.int .i64 most] (Ax old (ancP (ji L ps) most (most+1) 0 [id])):=by
 refine Cod.PX (λE R hN hR=>?_);have ha:=C0 L n ps id most h hi hm;have hl:∀l,ancP (ji L ps) most (most+1) 0 [id]=.ok l->l.length<=most:=λl hl=>(Ab hl).2.2.1;generalize ancP (ji L ps) most (most+1) 0 [id]=a at *
 cases a with
 | ok l=>
  unfold r9 at ha;have hc:=C3 l old (by have:=hl l rfl;omega);refine wW ?_;refine aj ha rfl rfl ?_;refine wW ?_;refine aj hc rfl rfl ?_;refine wW ?_
  exact hR.ro ⟨rfl,rfl⟩
 | error e=>
  have hc:aw Tryz.prog 41 [.an,.str old] (.bool false):=Gh (.cons (.one (.nil 1)) (.cons (.one (.refl _)) .nil)) (C3 [] old (by simp));unfold r9 at ha;refine wW ?_;refine aj ha rfl rfl ?_;refine wW ?_;refine aj hc rfl rfl ?_;refine wW ?_;exact hR.ro ⟨rfl,rfl⟩
end Go.Proofs.YtgghhaahnpbnmaaGreatDoor.Ls
