/- The proof, part 48 of 51. -/
import Derived.Test.YtgghhaahnpbnmaaGreatDoorCartularyWalksZR
import Derived.Test.YtgghhaahnpbnmaaGreatDoorCartularyWalksZU
import Derived.Laws.RangeString
set_option linter.all false
namespace Go.Proofs.YtgghhaahnpbnmaaGreatDoor.Ls
open Eng Ob Pk
set_option maxRecDepth 10000
theorem De (s:Bs) (h:∀b∈s,32<=b.toNat/\b.toNat<=126):∀f pos,Lib.idxFuncFrom mJ true ⟨s.toArray⟩ f pos = -1
 | 0,_=>rfl
 | f+1,pos=>by
  unfold Lib.idxFuncFrom;split
  ·rename_i hp;have hl:pos<s.length:=by simpa[ByteArray.size]using hp
   have e:(⟨s.toArray⟩:ByteArray)[pos]'hp=s[pos]:=by
    show s.toArray[pos]'_=_
    simp
   obtain⟨h1,h2⟩:=h _ (adK hl);have hd:=decode_ascii ⟨s.toArray⟩ pos hp (by rw[e];omega);rw[hd,e]
   have hc:mJ s[pos].toNat=false:=by
    unfold mJ;rw[decide_eq_false acB,decide_eq_false acB];rfl
   simp only[hc];rw[if_neg (by decide)];exact De s h f _
  rfl
theorem LX {s:Bs} (h:∀b∈s,32<=b.toNat/\b.toNat<=126):sM s=false:=by
 unfold sM Lib.idxFunc;rw[De s h];rfl
theorem P8 {c:UInt8} (h:jZ c=true):(48<=c.toNat/\c.toNat<=57)\/(97<=c.toNat/\c.toNat<=102):=by
 have h:=of_decide_eq_true h;unfold kG at h;by_cases h1:48<=c.toNat/\c.toNat<=57;exact .inl h1
 ·rw[if_neg h1]at h;by_cases h2:97<=c.toNat/\c.toNat<=102;exact .inr h2
  ·rw[if_neg h2]at h;omega
theorem Gk {c:UInt8}:∀{a:Bs},c∉a->splitB c a=[a]
 | [],_=>rfl
 | x::r,h=>by
  simp only[acW,not_or]at h;rw[splitB,if_neg (λe=>h.1 e.symm),Gk h.2]
theorem Gj {c:UInt8} {a:Bs} (h:c∉a) (b:Bs):splitB c (a++c::b)=a::splitB c b:=by
 induction a with
 | nil=>simp[splitB]
 | cons x r ih=>
  simp only[acW,not_or]at h;rw[acZ,splitB,if_neg (λe=>h.1 e.symm),ih h.2]
theorem xI {x:Bs} (h:cd x=true) {c:UInt8} (hc:c∈x):(48<=c.toNat/\c.toNat<=57)\/(97<=c.toNat/\c.toNat<=102):=P8 (acI.1 (kJ h).2 c hc)
theorem q9 (x:Bs):fv x=[111,98,106,101,99,116,115]++47::(x.take 2++47::x.drop 2):=by simp[fv,uw]
theorem Wp {x:Bs} (h:cd x=true):gW (fv x)=true:=by
 have hb:=λ{c:UInt8} (hc:c∈x)=>xI h hc;have h40:=(kJ h).1;have hl:=(l4 h).2;have n1:(47:UInt8)∉x.take 2:=λhm=>by have:=hb (ad0 hm);revert this;decide
 have n2:(47:UInt8)∉x.drop 2:=λhm=>by have:=hb (aeb hm);revert this;decide
 unfold gW;rw[decide_eq_true acB,LX (λb hbm=>?_)]
 ·rw[q9,Gj (by decide),Gj n1,Gk n2]
  have p1:l3 (x.take 2)=false:=by
   unfold l3;refine decide_eq_false (λhp=>?_);have h2:(x.take 2).length=2:=by rw[acJ];omega
   rcases hp with e | e | e
   ·rw[e]at h2;simp at h2
   ·rw[e]at h2;simp at h2
   ·have hm:(46:UInt8)∈x.take 2:=by rw[e];simp
    have:=hb (ad0 hm);revert this;decide
  have p2:l3 (x.drop 2)=false:=by
   unfold l3;refine decide_eq_false (λhp=>?_);have h2:(x.drop 2).length=38:=by rw[acK];omega
   rcases hp with e | e | e<;>(rw[e]at h2;simp at h2)
  simp only[aeh,List.all_nil,p1,p2];rfl
 ·rw[q9]at hbm;simp only[adh,acW]at hbm;have hx:∀c∈x,32<=c.toNat/\c.toNat<=126:=λc hc=>by have:=hb hc;omega
  rcases hbm with hbm | rfl | hbm | rfl | hbm
  ·simp only[aeR,or_false]at hbm;rcases hbm with rfl | rfl | rfl | rfl | rfl | rfl | rfl<;>decide
  decide
  exact hx b (ad0 hbm)
  decide
  exact hx b (aeb hbm)
theorem Wq {x y:Bs} (hx:x.length=40) (hy:y.length=40) (h:fv x=fv y):x=y:=by
 rw[q9,q9]at h;have h:=List.append_cancel_left h;have h:=(List.cons.inj h).2;have e1:(x.take 2).length=(y.take 2).length:=by rw[acJ,acJ];omega
 obtain⟨h1,h2⟩:=List.append_inj h e1;rw[<-adE 2 x,<-adE 2 y,h1,(List.cons.inj h2).2]
def vN (L:List Fi):Prop:=∀f∈L,∃x,cd x=true/\f.1=fv x
theorem Z5 {L:List Fi} (hs:eB L) (hn:(L.map (·.1)).Nodup):iq L:=by
 have hn:L.Pairwise (λa b=>a.1≠b.1):=List.pairwise_map.1 hn;refine(List.Pairwise.and hs hn).imp (λ{a b} h=>?_);have:=h.1;by_cases e:b5 a b=0;exact absurd (mH e) h.2;omega
theorem U4 {L:List Fi} (hs:eB L) (hn:(L.map (·.1)).Nodup) (hp:vN L):pE L:=by
 refine⟨λf hf=>?_,Z5 hs hn,λf hf=>?_⟩
 ·obtain⟨x,h1,h2⟩:=hp f hf;rw[h2];exact Wp h1
 ·rw[aeP];intro q hq;obtain⟨h1,g,hg,h2⟩:=zt hq;have:=Ay h1;obtain⟨x,hx,ex⟩:=hp f hf;obtain⟨y,hy,ey⟩:=hp g hg;rw[<-h2,acD,acX,ex,ey,(l4 hx).2,(l4 hy).2]at this;omega
theorem Vx {L:List Fi} (hp:vN L):ux L=.ok []:=by
 have hu:fA ia L=[]:=by
  rw[aeP];intro q hq;obtain⟨h1,g,hg,h2⟩:=zt hq;obtain⟨y,hy,ey⟩:=hp g hg;have h3:=(of_decide_eq_true h1).2;have h40:=(kJ hy).1
  obtain⟨a,r,rfl⟩:∃a r,y=a::r:=by
   cases y with
   | nil=>simp at h40
   | cons a r=>exact⟨a,r,rfl⟩
  rw[<-h2,ey,q9]at h3;have h4:=congrArg (λl:Bs=>l.getD 8 0) h3;simp[ia]at h4;have:=xI hy (acU ..);rw[h4]at this
  revert this;decide
 unfold ux;rw[hu];rfl
theorem N1 {L:List Fi} {f:Fi} (hs:iq L) (hm:f∈L):getF f.1 L=some f.2:=by
 have h1:=VY (List.Perm.refl L) hs f.1;have hm:f∈L.filter (λx=>decide (x.1=f.1)):=List.mem_filter.2 ⟨hm,by simp⟩;rw[h1]at hm
 cases hg:getF f.1 L with
 | none=>rw[hg]at hm;simp at hm
 | some d=>
  rw[hg]at hm;simp only[ac0]at hm;rw[hm]
theorem T6 {k:Int} {d:Bs} {L:List Fi} {f:Fi} (hc:aY k d=0) (hl:(aU k d).length<=2000) (hf:nK k d f) (hs:iq L) (hm:f∈L):kR (Sh.b7 (Sh.dR (aU k d))) L=(k,d,0):=by
 obtain⟨h1,t,ht,h2⟩:=hf;have hg:=N1 hs hm;rw[h1,h2]at hg;unfold kR;rw[if_pos (u4 _),hg]
 show jE _ (ko _)=_
 rw[aaZ hc hl ht];unfold jE kL;rw[if_neg (by simp),if_pos hc,if_pos rfl]
def dK (c:Cm.bW):Bs:=Sh.b7 (Sh.dR (aU 1 (Cm.aU c)))
theorem Lw {L:List Fi} {c:Cm.bW} {f:Fi} (hok:Cm.pz c) (h0:Cm.aY c=0) (hl:(Cm.aU c).length<=1000) (hf:nK 1 (Cm.aU c) f) (hs:iq L) (hm:f∈L):ji L [] (dK c)=(0,c.parents):=by
 have hc:aY 1 (Cm.aU c)=0:=by
  unfold aY;rw[if_neg (by decide),if_neg acB]
 have htl:(aU 1 (Cm.aU c)).length<=2000:=by
  have h1:=Ob.qQ 1;have h2:=lU ((Cm.aU c).length:Int) acB acB;unfold aU;rw[acD,acH,acD,acH];omega
 have hlk:=T6 hc htl hf hs hm
 have hg:fV L [] (dK c)=(1,Cm.aU c,0):=by
  unfold fV dK;rw[hlk];rfl
 have hp:Cm.parseL (Cm.aU c)=some c:=Cm.Wd c hok;have hk:iT 1 (1,Cm.aU c,0)=(Cm.aU c,0):=rfl;have hr:Cm.gH (Cm.aU c)=0:=Cm.Fo.2 ⟨c,hp,h0⟩;have hpc:q8 (Cm.aU c)=c.parents:=by unfold q8;rw[hp]
 unfold ji;rw[hg,hk];simp only[hr,hpc];rfl
end Go.Proofs.YtgghhaahnpbnmaaGreatDoor.Ls
