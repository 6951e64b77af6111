/- The proof, part 46 of 51. -/
import Derived.Test.YtgghhaahnpbnmaaGreatDoorCartularyWalksZG
import Derived.Test.YtgghhaahnpbnmaaGreatDoorCartularyWalksZS
set_option linter.all false
namespace Go.Proofs.YtgghhaahnpbnmaaGreatDoor.Ob
open Eng
set_option maxRecDepth 10000
theorem qe (c:UInt8):∀(a b:Bs),c∉a->cutP c (a++c::b)=(a,b,true)
 | [],b,_=>by simp[cutP]
 | x::a,b,h=>by
  simp only[acW,not_or]at h;have:=qe c a b h.2;simp only[acZ,cutP];rw[if_neg (λe=>h.1 e.symm),this]
theorem UU {k:Int} (h:bE k≠[]):kP (bE k)=k/\(0:UInt8)∉bE k/\(32:UInt8)∉bE k/\k≠0:=by
 have hk:k=1\/k=2\/k=3\/k=4:=by
  unfold bE at h;by_cases h1:k=1;exact .inl h1;by_cases h2:k=2;exact .inr (.inl h2);by_cases h3:k=3;exact .inr (.inr (.inl h3));by_cases h4:k=4;exact .inr (.inr (.inr h4));rw[if_neg h1,if_neg h2,if_neg h3,if_neg h4]at h;exact absurd rfl h
 rcases hk with rfl | rfl | rfl | rfl<;>decide
theorem tW (n:Nat) (b:UInt8) (hb:b.toNat<48):b∉Lib.itoa (n:Int):=by
 rw[Lib.itoa_nonneg];intro h;have:=mM n n (acG _) b h;omega
theorem MD {k:Int} {d:Bs} (h:bE k≠[]) (hd:d.length<=65000):lI (aU k d)=(k,d,0):=by
 obtain⟨h1,h2,h3,h4⟩:=UU h
 have e1:cutP 0 (aU k d)=(bE k++32::Lib.itoa d.length,d,true):=by
  have:aU k d=(bE k++32::Lib.itoa d.length)++0::d:=by simp[aU]
  rw[this];refine qe 0 _ _ ?_;simp only[adh,acW,not_or];exact⟨h2,by decide,tW d.length 0 (by decide)⟩
 have e2:cutP 32 (bE k++32::Lib.itoa d.length)=(bE k,Lib.itoa d.length,true):=qe 32 _ _ h3;have e3:fH (Lib.itoa d.length)=some d.length:=by rw[Vp,if_pos acB];simp
 unfold lI;rw[e1];simp only;rw[e2];simp only;rw[e3,numI,h1,if_neg (by simp),if_neg h4,if_neg acB,if_neg acB,if_neg acB]
theorem Lc {k:Int} {d:Bs} (h:aY k d=0):bE k≠[]:=by
 intro e;unfold aY at h;rw[if_pos e]at h;cases h
end Go.Proofs.YtgghhaahnpbnmaaGreatDoor.Ob
namespace Go.Proofs.YtgghhaahnpbnmaaGreatDoor.Ls
open Eng Pk Ob
set_option maxRecDepth 10000
theorem C6:∀k,k<16->jZ (Sh.qy.getD k 0)=true:=by decide +kernel
theorem C7:∀t:Bs,(Sh.b7 t).all jZ=true
 | []=>rfl
 | c::r=>by
  have e:Sh.b7 (c::r)=Sh.qy.getD (c.toNat/16) 0::Sh.qy.getD (c.toNat%16) 0::Sh.b7 r:=rfl;have hc:=c.toNat_lt;rw[e,aeh,aeh,C7 r,C6 _ acB,C6 _ acB];rfl
theorem u4 (s:Bs):cd (Sh.b7 (Sh.dR s))=true:=by
 have h1:=Sh.C8 (Sh.dR s);have h2:=Sh.F5 s;unfold cd lR;rw[C7,aeU,acN,decide_eq_true_eq,decide_eq_true_eq];omega
def nK (k:Int) (d:Bs) (f:Fi):Prop:=f.1=fv (Sh.b7 (Sh.dR (aU k d)))/\∃t,mq (aU k d) t/\f.2=jN t (aU k d)
theorem Uj (k:Int) (d:Bs) (hd:d.length<=1000):Eng.Spec Tryz.prog 9 [] [ft k d] (λh r _=>h=[]/\if aY k d=0 then ∃f,nK k d f/\r=.ab [.agg [.str f.1,.str f.2],.int .i64 0]else r=.ab [.agg [.str [],.str []],.int .i64 (aY k d)]):=by
 refine Cod.Uk (λE R hN hR=>?_);have h1:=B6 k d acB;have h2:=tR k d acB;unfold ta at h1;unfold oG at h2;unfold ft at h1 h2;by_cases hc:aY k d=0
 ·rw[if_pos hc]at h1 h2;have hid:=u4 (aU k d);have hx:=(l4 hid).1;have h3:=DQ (Sh.b7 (Sh.dR (aU k d))) acB;rw[if_pos hid]at h3
  have htl:(aU k d).length<=2000:=by
   have h1:=qQ k;have h2:=lU (d.length:Int) acB acB;unfold aU;rw[acD,acH,acD,acH];omega
  simp(disch:=first | omega | (simp only[Lx];omega))only[go_sem,simprocAttr,ft]
  refine aj h1 rfl rfl ?_;refine wW ?_;refine aj h2 rfl rfl ?_;refine wW ?_;refine aj h3 rfl rfl ?_;refine wW ?_;refine dJ (acw (aU k d) acB) rfl ?_;rintro h' v ar ⟨rfl,t,ht,rfl⟩;refine⟨rfl,rfl,?_⟩;refine wW ?_;exact hR.ro ⟨rfl,by rw[if_pos hc];exact⟨(_,_),⟨rfl,t,ht,rfl⟩,rfl⟩⟩
 ·rw[if_neg hc]at h1;simp(disch:=first | omega | (simp only[Lx];omega))only[go_sem,simprocAttr,ft]
  refine aj h1 rfl rfl ?_;refine ah hc ?_;exact hR.ro ⟨rfl,by rw[if_neg hc]⟩
end Go.Proofs.YtgghhaahnpbnmaaGreatDoor.Ls
