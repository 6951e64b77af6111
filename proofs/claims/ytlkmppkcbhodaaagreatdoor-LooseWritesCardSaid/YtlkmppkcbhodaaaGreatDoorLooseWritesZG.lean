/- The proof, part 33 of 34. -/
import Derived.Test.YtlkmppkcbhodaaaGreatDoorLooseWritesZF
import Derived.Lib.SplitLaws
set_option linter.all false
namespace Go.Proofs.YtlkmppkcbhodaaaGreatDoor.Ls
open Eng
set_option maxRecDepth 10000
def eK (p:Bs) (fs:List Fi):Option Bs:=((fs.filter (fun f=>decide (f.1=p))).map (·.2)).head?
open Eng Ob Pk
set_option maxRecDepth 10000
theorem avq (s t:Bs) (hs:s.length≤9223372036854775807) (ht:t.length≤9223372036854775807):aP Tryz.prog 85 [.str s,.str t] (.bool (fK t s)):=by
 refine Cod.ajW (fun E R hN hR=>?_)
 by_cases h:t.length≤s.length
 ·have hi:(t.length:Int)≤(s.length:Int):=by omega
  refine aw hi ?_
  refine bQ hi ?_
  refine hR.ro ⟨rfl,?_⟩
  simp[fK,h]
 ·have hi:¬(t.length:Int)≤(s.length:Int):=by omega
  refine aw hi ?_
  refine bQ hi ?_
  exact hR.ro ⟨rfl,by simp[fK,h]⟩
theorem Nw (c:UInt8):fC c=(decide (48≤c.toNat∧c.toNat≤57)||decide (97≤c.toNat∧c.toNat≤102)):=by
 unfold fC iX
 by_cases h1:48≤c.toNat∧c.toNat≤57
 ·rw[if_pos h1,decide_eq_true h1,decide_eq_true (by omega)];rfl
 ·rw[if_neg h1,decide_eq_false h1]
  by_cases h2:97≤c.toNat∧c.toNat≤102
  ·rw[if_pos h2,decide_eq_true h2,decide_eq_true (by omega)];rfl
  ·rw[if_neg h2,decide_eq_false h2,decide_eq_false (by omega)];rfl
set_option maxHeartbeats 1000000 in
theorem avp (s:Bs) (hs:s.length≤9223372036854775806):aP Tryz.prog 42 [.str s] (.bool (gX s)):=by
 refine Cod.acd (fun E R hN hR=>?_)
 refine wW ?_
 refine a7 hN (fun k:Nat=>⟨[(0,.str s),(3,.int .i64 k)],[]⟩) (fun k=>k≤s.length∧(s.take k).all fC=true) (fun k=>s.length-k) 0 (.le vV) ⟨Nat.zero_le _,rfl⟩ ?_
 rintro k R1 ⟨hk,hall⟩ hR1
 by_cases hlt:k<s.length
 ·have hsn:=dU 0 s hlt
  have hm:=iY 0 hlt
  have hi:=Nw (s.getD k 0)
  have yes:fC (s.getD k 0)=true→∀st',Wk st' ⟨[(0,.str s),(3,.int .i64 ((k+1:Nat):Int))],[]⟩→R1.ap st':=fun h st' hw=>
   hR1 (k+1) _ (by omega) ⟨by omega,by rw[hsn,List.all_append,hall,List.all_cons,h];rfl⟩ hw
  have bad:∀{h},fC (s.getD k 0)=false→R h (.bool false) [.undef]:=fun h=>hR.ro ⟨rfl,by rw[gX,sF hm h];rfl⟩
  have hc:=(s.getD k 0).toNat_lt
  have good:(48≤(s.getD k 0).toNat∧(s.getD k 0).toNat≤57)∨(97≤(s.getD k 0).toNat∧(s.getD k 0).toNat≤102)→fC (s.getD k 0)=true:=fun h=>by
   rw[hi,Bool.or_eq_true,decide_eq_true_eq,decide_eq_true_eq];exact h
  have evil:¬((48≤(s.getD k 0).toNat∧(s.getD k 0).toNat≤57)∨(97≤(s.getD k 0).toNat∧(s.getD k 0).toNat≤102))→fC (s.getD k 0)=false:=fun h=>by
   rw[hi,Bool.or_eq_false_iff,decide_eq_false_iff_not,decide_eq_false_iff_not];exact⟨fun h1=>h (.inl h1),fun h1=>h (.inr h1)⟩
  clear hi
  by_cases h1:48≤(s.getD k 0).toNat
  ·by_cases h2:(s.getD k 0).toNat≤57
   ·refine bH h1 h2 ?_
    refine dY h1 h2 ?_
    exact yes (good (by omega)) _ (.le vV)
   ·by_cases h3:97≤(s.getD k 0).toNat
    ·by_cases h4:(s.getD k 0).toNat≤102
     ·refine ea h1 h2 h3 h4 ?_
      refine lv h1 h2 h3 h4 ?_
      exact yes (good (by omega)) _ (.le vV)
     ·refine ea h1 h2 h3 h4 ?_
      refine lv h1 h2 h3 h4 ?_
      exact bad (evil (by omega))
    ·refine cL h1 h2 h3 ?_
     refine fM h1 h2 h3 ?_
     exact bad (evil (by omega))
  ·refine aw h1 ?_
   refine bQ h1 ?_
   exact bad (evil (by omega))
 ·obtain rfl:k=s.length:=by omega
  rw[List.take_of_length_le (Nat.le_refl _)]at hall
  by_cases h2:s.length%2=0
  ·have hm:(s.length:Int)%2=0:=by omega
   refine aw hm ?_
   exact hR.ro ⟨rfl,by rw[gX,hall,decide_eq_true h2];rfl⟩
  ·have hm:¬(s.length:Int)%2=0:=by omega
   refine aw hm ?_
   exact hR.ro ⟨rfl,by rw[gX,decide_eq_false h2];simp⟩
theorem aj0 (s:Bs) (h2:2≤s.length) (hs:s.length≤1000000):aP Tryz.prog 17 [.str s] (.str (gJ s)):=by
 refine Cod.aj1 (fun E R hN hR=>?_)
 have hi:(2:Int)≤(s.length:Int):=by omega
 refine aw hi ?_
 exact hR.ro ⟨rfl,by rw[gJ,lM];simp⟩
open Eng Pk Ob
set_option maxRecDepth 10000
theorem Ce {k:Int} {d t:Bs} (hc:dr k d=0) (hl:(bM k d).length≤2000) (ht:jY (bM k d) t):iP (ga t (bM k d))=(k,d,0):=by
 have h:=CA (most:=65536) ht (by omega) (by omega) []
 rw[List.append_nil]at h
 unfold iP
 rw[h]
 simp only
 rw[if_neg (by simp),if_neg (by simp)]
 exact I5 (HJ hc) (vu hc)
theorem KC {L G:List Fi} {f:Fi} (hs:jw L) (hp:L.Perm (G++[f])):getF f.1 L=some f.2:=by
 have h1:=abq hp hs f.1
 have hm:f∈(G++[f]).filter (fun x=>decide (x.1=f.1)):=List.mem_filter.2 ⟨List.mem_append_right _ (List.mem_singleton.2 rfl),by simp⟩
 rw[h1]at hm
 cases hg:getF f.1 L with
 | none=>rw[hg]at hm;simp at hm
 | some d=>
  rw[hg]at hm
  simp only[List.mem_singleton]at hm
  rw[hm]
theorem Yp {k:Int} {d:Bs} {L G:List Fi} {f:Fi} (hc:dr k d=0) (hl:(bM k d).length≤2000) (hf:tT k d f) (hs:jw L) (hp:L.Perm (G++[f])):pz (Sh.cE (Sh.dN (bM k d))) L=(k,d,0):=by
 obtain⟨h1,t,ht,h2⟩:=hf
 have hg:=KC hs hp
 rw[h1,h2]at hg
 unfold pz
 rw[if_pos (tp _),hg]
 show mN _ (iP _)=_
 rw[Ce hc hl ht]
 unfold mN mC
 rw[if_neg (by simp),if_pos hc,if_pos rfl]
set_option maxHeartbeats 4000000 in
theorem YM (k:Int) (d0:Bs) (fs:List Fi) (h0:-9223372036854775808≤k) (h1:k≤9223372036854775807) (hd0:d0.length≤140737488351232) (hb:CE fs):aP Tryz.prog 6 [c7 k d0,.ro 2 (bx fs)] (.bool true):=by
 refine Cod.YN (fun E R hN hR=>?_)
 have hfw:=wv d0 1000 (by omega) (by decide)
 rw[show((1000:Nat):Int)=1000 from rfl]at hfw
 have hdl:(d0.take 1000).length≤1000:=by rw[List.length_take];omega
 generalize d0.take 1000=d at *
 have hwr:=ZH k d hdl
 have hrc:=akR k d h0 h1 (by omega)
 unfold c7 at hwr hrc
 simp(disch:=first | omega | (simp only[Lx];omega))only[go_sem,simprocAttr,c7]
 refine aE hfw rfl rfl ?_
 simp(disch:=first | omega | (simp only[Lx];omega))only[go_sem,simprocAttr]
 refine fy hwr rfl ?_
 rintro h' v ar ⟨rfl,hv⟩
 by_cases hc:dr k d=0
 ·rw[if_pos hc]at hv
  obtain⟨f,hf,rfl⟩:=hv
  refine⟨rfl,rfl,?_⟩
  rw[hc]at hrc
  have htl:(bM k d).length≤2000:=by
   have h1:=Ob.lI k
   have h2:=kr (d.length:Int) (by omega) (by omega)
   unfold bM
   rw[List.length_append,List.length_cons,List.length_append,List.length_cons]
   omega
  have hrid:=alF k d h0 h1 (by omega)
  have hrt:=A7 k d h0 h1 (by omega)
  unfold c7 at hrid hrt
  have hid:=tp (bM k d)
  have h40:=(pU hid).1
  have hrp:=aj0 (Sh.cE (Sh.dN (bM k d))) (by omega) (by omega)
  have hlk:=fun {L G:List Fi}=>Yp (L:=L) (G:=G) hc htl hf
  have hun:=fun {t:Bs}=>Ce (t:=t) hc htl
  obtain⟨hf1,t,ht,hf2⟩:=hf
  have hzl:=tS t (bM k d)
  have hdfl:=vL ht
  have hzb:=CA (most:=65536) ht (by omega) (by omega) []
  rw[List.append_nil,←hf2]at hzb
  have hf2l:f.2.length≤3000:=by rw[hf2];omega
  have hf1l:f.1.length=49:=by rw[hf1];exact(pU hid).2
  have hr6:=ajR f.2 0 65536 (by omega) (Nat.zero_le _) (Nat.le_refl _)
  rw[List.drop_zero,hzb]at hr6
  rw[←hf1]at hrp
  simp(disch:=first | omega | (simp only[Lx];omega))only[go_sem,simprocAttr]
  refine aE hrc rfl rfl ?_
  simp(disch:=first | omega | (simp only[Lx];omega))only[go_sem,simprocAttr]
  refine aE hrid rfl rfl ?_
  simp(disch:=first | omega | (simp only[Lx];omega))only[go_sem,simprocAttr]
  refine aE hr6 rfl rfl ?_
  simp(disch:=first | omega | (simp only[Lx];omega))only[go_sem,simprocAttr]
  refine aE uA rfl rfl ?_
  simp(disch:=first | omega | (simp only[Lx];omega))only[go_sem,simprocAttr]
  (repeat(first | refine eY ?_ | refine eW ?_ | refine eX ?_)<;>simp(disch:=first | omega | (simp only[Lx];omega))only[go_sem,simprocAttr])
  refine gj (ka (by simp(disch:=first | omega | (simp only[Lx];omega))only[go_sem,simprocAttr]) hrp (by simp(disch:=first | omega | (simp only[Lx];omega))only[go_sem,simprocAttr]) rfl rfl ?_)
  simp(disch:=first | omega | (simp only[Lx];omega))only[go_sem,simprocAttr]
  (repeat(first | refine eY ?_ | refine eW ?_ | refine eX ?_)<;>simp(disch:=first | omega | (simp only[Lx];omega))only[go_sem,simprocAttr])
  refine gj (ka (by simp(disch:=first | omega | (simp only[Lx];omega))only[go_sem,simprocAttr]) hrt (by simp(disch:=first | omega | (simp only[Lx];omega))only[go_sem,simprocAttr]) rfl rfl ?_)
  simp(disch:=first | omega | (simp only[Lx];omega))only[go_sem,simprocAttr]
  (repeat(first | refine eY ?_ | refine eW ?_ | refine eX ?_)<;>simp(disch:=first | omega | (simp only[Lx];omega))only[go_sem,simprocAttr])
  have hsh:=aoU fs 10 (by have:=hb.1;omega) (by decide) (fun f hf=>(hb.2 f hf).2)
  rw[show((10:Nat):Int)=10 from rfl]at hsh
  have hG1:=aoW fs 10
  have hG2:∀x∈jN fs 10,x.1.length≤140737488351232∧x.2.length≤400:=fun x hx=>by
   obtain⟨h1,g,hg,h2⟩:=aoX hx
   exact⟨by rw[h2];exact(hb.2 g hg).1,h1⟩
  generalize jN fs 10=G at *
  have hGl:(G++[f]).length=G.length+1:=by rw[List.length_append,List.length_singleton]
  have hG3:∀x∈G++[f],x.1.length≤140737488351232∧x.2.length≤10000:=fun x hx=>by
   rcases List.mem_append.1 hx with h | h
   ·exact⟨(hG2 x h).1,Nat.le_trans (hG2 x h).2 (by decide)⟩
   ·rw[List.mem_singleton]at h;subst h;exact⟨by omega,by omega⟩
  have hnw:=aqm (G++[f]) (by omega) (fun x hx=>(hG3 x hx).1) (fun x hx=>(hG3 x hx).2)
  have hall:=rE (G++[f])
  rw[hGl]at hall
  refine da (y:=Cod.yo) hN (fun z:AV×Int=>⟨[(2,.ab 222002 0),(7,.str (Sh.cE (Sh.dN (bM k d)))),(11,z.1),(12,.int .i64 z.2)],[(222002,.var [.int .i64 k,.str d])]⟩)
   (fun z=>(∃(L:List Fi) (n:Nat),L.Perm (G++[f])∧gO L∧l7 L∧z=(ic L n,0))∨z=(.lit (.pointer none),4)) ?_ ?_
  ·intro R' hR'
   simp(disch:=first | omega | (simp only[Lx];omega))only[go_sem,simprocAttr]
   refine⟨?_,?_⟩
   ·refine aJ [] hsh trivial (fun _=>rfl) ?_
    rintro h' v ar ⟨rfl,rfl,rfl⟩
    simp(disch:=first | omega | (simp only[Lx];omega))only[go_sem,simprocAttr,kh,cc,oH,rE]
    rw[wx]
    refine jx ⟨[(2,.ab 222002 0),(7,.str (Sh.cE (Sh.dN (bM k d)))),(90,.ro 2 (bx (G++[f])))],[(222002,.var [.int .i64 k,.str d])]⟩ (.bK 216012 (.le (by simp(disch:=first | omega | (simp only[Lx];omega))only[go_sem,simprocAttr,hall]))) rfl ?_
    refine fy hnw rfl ?_
    rintro h' v ar ⟨rfl,L,hL,hs,⟨hok,n,rfl⟩ | ⟨hno,rfl⟩⟩
    ·refine⟨rfl,rfl,?_⟩
     simp(disch:=first | omega | (simp only[Lx];omega))only[go_sem,simprocAttr]
     exact hR' (ic L n,0) _ (.inl ⟨L,n,hL,hs,hok,rfl⟩) (.le (by simp(disch:=first | omega | (simp only[Lx];omega))only[go_sem,simprocAttr]))
    ·refine⟨rfl,rfl,?_⟩
     simp(disch:=first | omega | (simp only[Lx];omega))only[go_sem,simprocAttr]
     exact hR' (.lit (.pointer none),4) _ (.inr rfl) (.le (by simp(disch:=first | omega | (simp only[Lx];omega))only[go_sem,simprocAttr]))
   ·refine aJ [] hsh trivial (fun _=>rfl) ?_
    rintro h' v ar ⟨rfl,rfl,rfl⟩
    simp(disch:=first | omega | (simp only[Lx];omega))only[go_sem,simprocAttr,kh,cc,oH,rE]
    rw[wx]
    refine jx ⟨[(2,.ab 222002 0),(7,.str (Sh.cE (Sh.dN (bM k d)))),(90,.ro 2 (bx (G++[f])))],[(222002,.var [.int .i64 k,.str d])]⟩ (.bK 216012 (.le (by simp(disch:=first | omega | (simp only[Lx];omega))only[go_sem,simprocAttr,hall]))) rfl ?_
    refine fy hnw rfl ?_
    rintro h' v ar ⟨rfl,L,hL,hs,⟨hok,n,rfl⟩ | ⟨hno,rfl⟩⟩
    ·refine⟨rfl,rfl,?_⟩
     simp(disch:=first | omega | (simp only[Lx];omega))only[go_sem,simprocAttr]
     exact hR' (ic L n,0) _ (.inl ⟨L,n,hL,hs,hok,rfl⟩) (.le (by simp(disch:=first | omega | (simp only[Lx];omega))only[go_sem,simprocAttr]))
    ·refine⟨rfl,rfl,?_⟩
     simp(disch:=first | omega | (simp only[Lx];omega))only[go_sem,simprocAttr]
     exact hR' (.lit (.pointer none),4) _ (.inr rfl) (.le (by simp(disch:=first | omega | (simp only[Lx];omega))only[go_sem,simprocAttr]))
  ·rintro z (⟨L,n,hL,hs,hok,rfl⟩ | rfl)
   ·have hd:∀x∈L,x.2.length≤1000000:=fun x hx=>Nat.le_trans (hG3 x (hL.mem_iff.1 hx)).2 (by decide)
    have hLl:=hL.length_eq
    have hr1:=Zg L n (Sh.cE (Sh.dN (bM k d))) hs (by omega) hd (by omega)
    rw[hlk hok.2.1 hL]at hr1
    unfold jy c7 at hr1
    simp only at hr1
    have hst:=aiN (bM k d) (by omega)
    have hsl:=qj (bM k d)
    have hfr:=ajn (fV (bM k d)) (bM k d) (by omega) (by omega)
    have hzl2:=tS (fV (bM k d)) (bM k d)
    have hpl:=yt (ga (fV (bM k d)) (bM k d)) (by omega)
    rw[hun (t:=fV (bM k d)) (.inr rfl)]at hpl
    unfold jy c7 at hpl
    simp only at hpl
    simp(disch:=first | omega | (simp only[Lx];omega))only[go_sem,simprocAttr]
    refine aE hr1 rfl rfl ?_
    simp(disch:=first | omega | (simp only[Lx];omega))only[go_sem,simprocAttr]
    refine da (y:=Cod.yn) hN (fun _:Unit=>⟨[(2,.ab 222002 0),(13,.ab 222013 0),(14,.int .i64 0),(15,.ab 222015 0),(16,.int .i64 0)],[(222002,.var [.int .i64 k,.str d]),(222013,.var [.int .i64 k,.str d]),(222015,.var [.int .i64 k,.str d])]⟩) (fun _=>True) ?_ ?_
    ·intro R' hR'
     simp(disch:=first | omega | (simp only[Lx];omega))only[go_sem,simprocAttr]
     repeat' (first | refine⟨?_,?_⟩ | (refine aE hrt rfl rfl ?_;simp(disch:=first | omega | (simp only[Lx];omega))only[go_sem,simprocAttr]) | (refine aE hst rfl rfl ?_;simp(disch:=first | omega | (simp only[Lx];omega))only[go_sem,simprocAttr]) | (refine aE hfr rfl rfl ?_;simp(disch:=first | omega | (simp only[Lx];omega))only[go_sem,simprocAttr]) | (refine aE hpl rfl rfl ?_;simp(disch:=first | omega | (simp only[Lx];omega))only[go_sem,simprocAttr]))
     all_goals exact hR' () _ trivial (.le (by simp(disch:=first | omega | (simp only[Lx];omega))only[go_sem,simprocAttr]))
    ·rintro _ _
     simp(disch:=first | omega | (simp only[Lx];omega))only[go_sem,simprocAttr]
     (repeat(first | refine eY ?_ | refine eW ?_ | refine eX ?_)<;>simp(disch:=first | omega | (simp only[Lx];omega))only[go_sem,simprocAttr])
     exact hR.ro ⟨rfl,rfl⟩
   ·simp(disch:=first | omega | (simp only[Lx];omega))only[go_sem,simprocAttr]
    exact hR.ro ⟨rfl,rfl⟩
 ·rw[if_neg hc]at hv
  subst hv
  refine⟨rfl,rfl,?_⟩
  simp(disch:=first | omega | (simp only[Lx];omega))only[go_sem,simprocAttr]
  refine aE hrc rfl rfl ?_
  simp(disch:=first | omega | (simp only[Lx];omega))only[go_sem,simprocAttr,hc]
  refine aE uA rfl rfl ?_
  simp(disch:=first | omega | (simp only[Lx];omega))only[go_sem,simprocAttr,hc]
  (repeat(first | refine eY ?_ | refine eW ?_ | refine eX ?_)<;>simp(disch:=first | omega | (simp only[Lx];omega))only[go_sem,simprocAttr,hc])
  refine gj (ka (by simp(disch:=first | omega | (simp only[Lx];omega))only[go_sem,simprocAttr]) hrc (by simp(disch:=first | omega | (simp only[Lx];omega))only[go_sem,simprocAttr]) rfl rfl ?_)
  simp(disch:=first | omega | (simp only[Lx];omega))only[go_sem,simprocAttr,hc]
  (repeat(first | refine eY ?_ | refine eW ?_ | refine eX ?_)<;>simp(disch:=first | omega | (simp only[Lx];omega))only[go_sem,simprocAttr,hc])
  exact hR.ro ⟨rfl,rfl⟩
end Go.Proofs.YtlkmppkcbhodaaaGreatDoor.Ls
