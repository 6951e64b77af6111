/- The proof, part 32 of 34. -/
import Derived.Test.YtlkmppkcbhodaaaGreatDoorLooseWritesZD
import Derived.Test.YtlkmppkcbhodaaaGreatDoorLooseWritesZE
set_option linter.all false
namespace Go.Proofs.YtlkmppkcbhodaaaGreatDoor.Ob
open Eng
set_option maxRecDepth 10000
theorem rj (c:UInt8):∀(a b:Bs),c∉a→cutP c (a++c::b)=(a,b,true)
 | [],b,_=>by simp[cutP]
 | x::a,b,h=>by
  simp only[List.mem_cons,not_or]at h
  have:=rj c a b h.2
  simp only[List.cons_append,cutP]
  rw[if_neg (fun e=>h.1 e.symm),this]
theorem aac {k:Int} (h:bL k≠[]):jc (bL k)=k∧(0:UInt8)∉bL k∧(32:UInt8)∉bL k∧k≠0:=by
 have hk:k=1∨k=2∨k=3∨k=4:=by
  unfold bL at h
  by_cases h1:k=1
  ·exact .inl h1
  by_cases h2:k=2
  ·exact .inr (.inl h2)
  by_cases h3:k=3
  ·exact .inr (.inr (.inl h3))
  by_cases h4:k=4
  ·exact .inr (.inr (.inr h4))
  rw[if_neg h1,if_neg h2,if_neg h3,if_neg h4]at h
  exact absurd rfl h
 rcases hk with rfl | rfl | rfl | rfl<;>decide
theorem VX (n:Nat) (b:UInt8) (hb:b.toNat<48):b∉Lib.itoa (n:Int):=by
 rw[Lib.itoa_nonneg]
 intro h
 have:=ox n n (Nat.le_refl _) b h
 omega
theorem I5 {k:Int} {d:Bs} (h:bL k≠[]) (hd:d.length≤65000):jz (bM k d)=(k,d,0):=by
 obtain⟨h1,h2,h3,h4⟩:=aac h
 have e1:cutP 0 (bM k d)=(bL k++32::Lib.itoa d.length,d,true):=by
  have:bM k d=(bL k++32::Lib.itoa d.length)++0::d:=by simp[bM]
  rw[this]
  refine rj 0 _ _ ?_
  simp only[List.mem_append,List.mem_cons,not_or]
  exact⟨h2,by decide,VX d.length 0 (by decide)⟩
 have e2:cutP 32 (bL k++32::Lib.itoa d.length)=(bL k,Lib.itoa d.length,true):=rj 32 _ _ h3
 have e3:ff (Lib.itoa d.length)=some d.length:=by rw[aaz,if_pos (by omega)];simp
 unfold jz
 rw[e1]
 simp only
 rw[e2]
 simp only
 rw[e3,mK,h1,if_neg (by simp),if_neg h4,if_neg (by omega),if_neg (by omega),if_neg (by omega)]
theorem HJ {k:Int} {d:Bs} (h:dr k d=0):bL k≠[]:=by
 intro e
 unfold dr at h
 rw[if_pos e]at h
 cases h
end Go.Proofs.YtlkmppkcbhodaaaGreatDoor.Ob
namespace Go.Proofs.YtlkmppkcbhodaaaGreatDoor.Ls
open Eng Pk Ob
set_option maxRecDepth 10000
theorem xf:∀k,k<16→fC (Sh.iD.getD k 0)=true:=by decide +kernel
theorem xg:∀t:Bs,(Sh.cE t).all fC=true
 | []=>rfl
 | c::r=>by
  have e:Sh.cE (c::r)=Sh.iD.getD (c.toNat/16) 0::Sh.iD.getD (c.toNat%16) 0::Sh.cE r:=rfl
  have hc:=c.toNat_lt
  rw[e,List.all_cons,List.all_cons,xg r,xf _ (by omega),xf _ (by omega)]
  rfl
theorem tp (s:Bs):iE (Sh.cE (Sh.dN s))=true:=by
 have h1:=Sh.rS (Sh.dN s)
 have h2:=Sh.tn s
 unfold iE gX
 rw[xg,Bool.true_and,Bool.and_eq_true,decide_eq_true_eq,decide_eq_true_eq]
 omega
def tT (k:Int) (d:Bs) (f:Fi):Prop:=f.1=gJ (Sh.cE (Sh.dN (bM k d)))∧∃t,jY (bM k d) t∧f.2=ga t (bM k d)
theorem ZH (k:Int) (d:Bs) (hd:d.length≤1000):Eng.Spec Tryz.prog 22 [] [c7 k d] (fun h r _=>h=[]∧if dr k d=0 then ∃f,tT k d f∧r=.aj [.agg [.str f.1,.str f.2],.int .i64 0]else r=.aj [.agg [.str [],.str []],.int .i64 (dr k d)]):=by
 refine Cod.ZI (fun E R hN hR=>?_)
 have h1:=wc k d (by omega)
 have h2:=xw k d (by omega)
 unfold oG at h1
 unfold ph at h2
 unfold c7 at h1 h2
 by_cases hc:dr k d=0
 ·rw[if_pos hc]at h1 h2
  have hid:=tp (bM k d)
  have hx:=(pU hid).1
  have h3:=pA (Sh.cE (Sh.dN (bM k d))) (by omega)
  rw[if_pos hid]at h3
  have htl:(bM k d).length≤2000:=by
   have h1:=Ob.lI k
   have h2:=kr (d.length:Int) (by omega) (by omega)
   unfold bM
   rw[List.length_append,List.length_cons,List.length_append,List.length_cons]
   omega
  simp(disch:=first | omega | (simp only[Lx];omega))only[go_sem,simprocAttr,c7]
  refine aE h1 rfl rfl ?_
  refine wW ?_
  refine aE h2 rfl rfl ?_
  refine wW ?_
  refine aE h3 rfl rfl ?_
  refine wW ?_
  refine fy (avn (bM k d) (by omega)) rfl ?_
  rintro h' v ar ⟨rfl,t,ht,rfl⟩
  refine⟨rfl,rfl,?_⟩
  refine wW ?_
  exact hR.ro ⟨rfl,by rw[if_pos hc];exact⟨(_,_),⟨rfl,t,ht,rfl⟩,rfl⟩⟩
 ·rw[if_neg hc]at h1
  simp(disch:=first | omega | (simp only[Lx];omega))only[go_sem,simprocAttr,c7]
  refine aE h1 rfl rfl ?_
  refine aw hc ?_
  exact hR.ro ⟨rfl,by rw[if_neg hc]⟩
theorem aq7 (n:Nat) (h:n≤65535):bo n 2++bo (65535-n) 2=[UInt8.ofNat (n%256),UInt8.ofNat (n/256),UInt8.ofNat (255-n%256),UInt8.ofNat (255-n/256)]:=by
 have e:∀m,bo m 2=[UInt8.ofNat (m%256),UInt8.ofNat (m/256%256)]:=fun m=>by simp[bo,List.range_succ]
 rw[e,e,show(65535-n)%256=255-n%256 by omega,show(65535-n)/256%256=255-n/256 by omega,show n/256%256=n/256 by omega]
 rfl
theorem aiN (s:Bs) (hs:s.length≤65535):aP Tryz.prog 27 [.str s] (.str (fV s)):=by
 refine Cod.aiO (fun E R hN hR=>?_)
 rw[BN,aq7 _ hs]at hR
 have hi:¬(65535:Int)<(s.length:Int):=by omega
 have e1:(s.length:Int)%256=((UInt8.ofNat (s.length%256)).toNat:Int):=by rw[UInt8.toNat_ofNat'];omega
 have e2:(s.length:Int)/256=((UInt8.ofNat (s.length/256)).toNat:Int):=by rw[UInt8.toNat_ofNat'];omega
 have e3:255-(s.length:Int)%256=((UInt8.ofNat (255-s.length%256)).toNat:Int):=by rw[UInt8.toNat_ofNat'];omega
 have e4:255-(s.length:Int)/256=((UInt8.ofNat (255-s.length/256)).toNat:Int):=by rw[UInt8.toNat_ofNat'];omega
 refine wW ?_
 refine a7 hN (fun _:Unit=>⟨[(0,.str s),(3,.str [])],[]⟩) (fun _=>True) (fun _=>0) () (.le vV) trivial ?_
 rintro _ R1 _ hR1
 refine aw hi ?_
 rw[e3,e4,e1,e2]
 generalize UInt8.ofNat (s.length%256)=a at *
 generalize UInt8.ofNat (s.length/256)=b at *
 generalize UInt8.ofNat (255-s.length%256)=c at *
 generalize UInt8.ofNat (255-s.length/256)=d at *
 have hbo:bytesOf [AV.int IntKind.u8 1,AV.int IntKind.u8 (a.toNat:Int),AV.int IntKind.u8 (b.toNat:Int),AV.int IntKind.u8 (c.toNat:Int),AV.int IntKind.u8 (d.toNat:Int)]=[1,a,b,c,d]:=by
  simp[bytesOf,byteOfAV]
 rw[hbo]
 refine⟨by simp[eH,fN],by simp,by simp only[List.length_cons,List.length_nil];omega,?_⟩
 exact hR.wk (h':=[]) (r':=.str ([1,a,b,c,d]++s)) (ar':=[.undef]) rfl (.le vV) ⟨rfl,rfl⟩
theorem ajn (t s:Bs) (ht:t.length≤100000) (hs:s.length≤100000):aP Tryz.prog 26 [.str t,.str s] (.str (ga t s)):=by
 refine Cod.ajo (fun E R hN hR=>?_)
 have ha:=Am s (by omega)
 have hadl:=mb s
 have hb:=Ar (cC s) 4 (by omega) (by decide)
 have hll:=fa (cC s) 4
 have hbo:bytesOf [AV.int IntKind.u8 120,AV.int IntKind.u8 1]=[120,1]:=by simp[bytesOf,byteOfAV]
 unfold ga at hR
 rw[show((4:Nat):Int)=4 from rfl]at hb
 have fin:∀h,R h (.str ([120,1]++t++(bo (cC s) 4).reverse)) [.undef,.undef]:=fun h=>hR.ro ⟨rfl,rfl⟩
 refine wW ?_
 refine⟨⟨by simp[eH,fN],by rw[hbo];simp only[List.length_cons,List.length_nil];omega,?_⟩,?_⟩
 ·refine aE ha rfl rfl ?_
  refine wW ?_
  refine aE hb rfl rfl ?_
  simp(disch:=omega)only[go_sem,simprocAttr,List.length_reverse,hll]
  rw[hbo]
  exact⟨by simp only[List.length_cons,List.length_nil];omega,fin _⟩
 ·refine aE ha rfl rfl ?_
  refine wW ?_
  refine⟨⟨by simp[eH,fN],by rw[hbo];simp only[List.length_cons,List.length_nil];omega,?_⟩,?_⟩
  ·refine aE hb rfl rfl ?_
   simp(disch:=omega)only[go_sem,simprocAttr,List.length_reverse,hll]
   rw[hbo]
   exact⟨by simp only[List.length_cons,List.length_nil];omega,fin _⟩
  ·refine aE hb rfl rfl ?_
   simp(disch:=omega)only[go_sem,simprocAttr,List.length_reverse,hll]
   rw[hbo]
   exact⟨by simp[eH,fN],by simp only[List.length_cons,List.length_nil];omega,by simp only[List.length_cons,List.length_nil];omega,fin _⟩
end Go.Proofs.YtlkmppkcbhodaaaGreatDoor.Ls
