/- The proof, part 22 of 34. -/
import Derived.Test.YtlkmppkcbhodaaaGreatDoorLooseWritesS
import Derived.Test.YtlkmppkcbhodaaaGreatDoorLooseWritesT
import Derived.Test.YtlkmppkcbhodaaaGreatDoorLooseWritesU
set_option linter.all false
namespace Go.Proofs.YtlkmppkcbhodaaaGreatDoor.Ls
open Eng
set_option maxRecDepth 10000
def l7 (L:List Fi):Prop:=(∀f∈L,gy f.1=true)∧jw L∧∀f∈L,iO (f.1++[47]) L=[]
def jO (fs:List Fi) (k:Nat):Nat:=((fs.take k).map (fun f=>f.2.length)).sum
theorem Bt (fs:List Fi) {k:Nat} (h:k<fs.length):jO fs (k+1)=jO fs k+(fs.getD k bf).2.length:=by
 unfold jO
 rw[dU bf fs h,List.map_append,List.sum_append]
 simp
theorem size_le {fs:List Fi} {B:Nat} (hb:∀f∈fs,f.2.length≤B):∀k,k≤fs.length→jO fs k≤k*B
 | 0,_=>by simp[jO]
 | k+1,h=>by
  have:=size_le hb k (by omega)
  have:=hb _ (iY bf (by omega:k<fs.length))
  rw[Bt fs (by omega),Nat.succ_mul]
  omega
theorem BO:∀{L:List Fi},gO L→(∀i,i+1<L.length→(L.getD i bf).1≠(L.getD (i+1) bf).1)→jw L
 | [],_,_=>.nil
 | [x],_,_=>List.pairwise_singleton _ _
 | x::y::r,hs,ha=>by
  have hs':=List.pairwise_cons.1 hs
  have ih:=BO hs'.2 (fun i hi=>by simpa using ha (i+1) (by simpa using hi))
  have h1:cz x y≤0:=hs'.1 y (List.mem_cons_self ..)
  have h2:cz x y<0:=by
   have hne:x.1≠y.1:=by simpa using ha 0 (by simp)
   by_cases h0:cz x y=0
   ·exact absurd (mi h0) hne
   ·omega
  refine List.pairwise_cons.2 ⟨fun z hz=>?_,ih⟩
  rcases List.mem_cons.1 hz with rfl | hz
  ·exact h2
  ·exact Ha h2 ((List.pairwise_cons.1 hs'.2).1 z hz)
theorem ard {L:List Fi} (h:jw L) {i:Nat} (hi:i+1<L.length):(L.getD i bf).1≠(L.getD (i+1) bf).1:=by
 have:=List.pairwise_iff_getElem.1 h i (i+1) (by omega) hi (by omega)
 rw[List.getD_eq_getElem?_getD,List.getD_eq_getElem?_getD,List.getElem?_eq_getElem hi,List.getElem?_eq_getElem (by omega:i<L.length)]
 exact vr this
theorem ui {α:Type} (d:α) {l:List α} {p:α→Prop} (h:∀j,j<l.length→p (l.getD j d)):∀x∈l,p x:=by
 intro x hx
 obtain⟨j,hj,rfl⟩:=List.mem_iff_getElem.1 hx
 have:=h j hj
 rwa[List.getD_eq_getElem?_getD,List.getElem?_eq_getElem hj]at this
def aag (fs:List Fi):HP→AV→List AV→Prop:=fun h r _=>h=[]∧∃L:List Fi,L.Perm fs∧gO L∧((l7 L∧∃n,r=.aj [ic L n,.int .i64 0])∨(¬l7 L∧r=.aj [.lit (.pointer none),.int .i64 4]))
set_option maxHeartbeats 2000000 in
theorem aqm (fs:List Fi) (hl:fs.length≤200) (hp:∀f∈fs,f.1.length≤140737488351232) (hd:∀f∈fs,f.2.length≤10000):Eng.Spec Tryz.prog 8 [] [.ro 2 (bx fs)] (aag fs):=by
 refine Cod.aqn (fun E R hN hR=>?_)
 refine wW ?_
 refine aJ [] (H9 fs (by omega)) trivial (fun _=>rfl) ?_
 rintro h' v ar ⟨rfl,rfl,rfl⟩
 refine cL @kh @cc @oH ?_
 refine a7 hN (fun k:Nat=>⟨[(0,.ro 2 (bx fs)),(4,.ab 203014 0),(15,.ro 2 (bx fs)),(16,.int .i64 fs.length),(17,.int .i64 k)],[(203014,.var [.sl 200005 0 fs.length,.int .i64 (jO fs k:Nat)]),(200005,.arr 2 (bx fs))]⟩)
  (fun k=>k≤fs.length) (fun k=>fs.length-k) 0 (.le (by simp(disch:=omega)only[go_sem,simprocAttr,jO,List.take_zero,List.map_nil,List.sum_nil])) (Nat.zero_le _) ?_
 rintro k R1 hk hR1
 by_cases hlt:k<fs.length
 ·have hst:=Bt fs hlt
  have hsb:=size_le hd k hk
  have hxb:=hd _ (iY bf hlt)
  refine bH @cc @fP ?_
  exact hR1 (k+1) _ (by omega) (by omega) (.le (by rw[hst];exact vV))
 ·obtain rfl:k=fs.length:=by omega
  have hsb:=size_le hd fs.length (Nat.le_refl _)
  obtain⟨z,hz⟩:∃z,z=jO fs fs.length:=⟨_,rfl⟩
  rw[←hz]at hsb
  have g1:¬(2000:Int)<(fs.length:Int):=by omega
  have g2:¬(4194304:Int)<(z:Int):=by omega
  simp(disch:=omega)only[go_sem,simprocAttr,cc,←hz,g1,g2]
  (repeat(first | refine eY ?_ | refine eW ?_ | refine eX ?_)<;>simp(disch:=omega)only[go_sem,simprocAttr,cc,←hz,g1,g2])
  refine vn (n:=2) [4] vV vV rfl (aqB 203014 200005 z fs (by decide) (by omega)) ?_
  rintro h' v ar ⟨L,hL,hs,rfl,rfl,rfl⟩
  have hll:=hL.length_eq
  unfold fj
  refine aw @cc ?_
  have hpL:∀f∈L,f.1.length≤140737488351232:=fun f hf=>hp f (hL.mem_iff.1 hf)
  have hsub:aL (bx L) 0 L.length=bx L:=by
   unfold aL
   rw[List.drop_zero,List.take_of_length_le (by rw[cc];omega)]
  have bad:∀{h},¬l7 L→R h (.aj [.lit (.pointer none),.int .i64 4]) [.undef]:=fun h=>hR.ro ⟨rfl,L,hL,hs,.inr ⟨h,rfl⟩⟩
  refine a7 hN (fun k:Nat=>⟨[(4,ic L z),(50,.ro 2 (bx L)),(51,.int .i64 L.length),(52,.int .i64 k)],[]⟩)
   (fun k=>k≤L.length∧(∀j,j<k→gy (L.getD j bf).1=true)∧∀j,j+1<k→(L.getD j bf).1≠(L.getD (j+1) bf).1) (fun k=>L.length-k) 0
   (.bK 200005 (.frzS 4 203014 [.ro 2 (aL (bx L) 0 L.length),.int .i64 z] rfl rfl rfl (.le (fv hsub)))) ⟨Nat.zero_le _,fun j h=>by omega,fun j h=>by omega⟩ ?_
  rintro k R2 ⟨hk,hc,ha⟩ hR2
  by_cases hlt:k<L.length
  ·have hm:=iY bf hlt
   have hpk:=hpL _ hm
   have notc:gy (L.getD k bf).1=false→¬l7 L:=fun h1 h2=>by rw[h2.1 _ hm]at h1;cases h1
   have next:gy (L.getD k bf).1=true→(∀j,j+1=k→(L.getD j bf).1≠(L.getD k bf).1)→∀st',Wk st' ⟨[(4,ic L z),(50,.ro 2 (bx L)),(51,.int .i64 L.length),(52,.int .i64 ((k+1:Nat):Int))],[]⟩→R2.ap st':=by
    intro h1 h2 st' hw
    refine hR2 (k+1) _ (by omega) ⟨by omega,fun j hj=>?_,fun j hj=>?_⟩ hw
    ·rcases Nat.lt_succ_iff_lt_or_eq.1 hj with h | rfl
     ·exact hc j h
     ·exact h1
    ·rcases Nat.lt_or_ge (j+1) k with h | h
     ·exact ha j h
     ·obtain rfl:j+1=k:=by omega
      exact h2 j rfl
   refine bH @cc @fP ?_
   refine aE (HX _ (by omega)) rfl rfl ?_
   cases hcl:gy (L.getD k bf).1 with
   | false=>
    refine aw hcl ?_
    refine bQ hcl ?_
    exact bad (notc hcl)
   | true=>
    by_cases hk0:k=0
    ·subst hk0
     refine aw hcl ?_
     refine bQ hcl ?_
     exact next hcl (fun j hj=>by omega) _ (.le vV)
    ·have hi:(0:Int)<(k:Int):=by omega
     refine ea hcl hi @cc @fP ?_
     refine lv hcl hi @cc @fP ?_
     refine r4 (fun he=>?_) (fun he=>?_)
     ·refine wW ?_
      refine bad (fun hn=>ard hn.2.1 (i:=k-1) (by omega) ?_)
      rw[show k-1+1=k by omega]
      exact he
     ·refine wW ?_
      exact next hcl (fun j hj=>by rw[show j=k-1 by omega];exact he) _ (.le vV)
  ·obtain rfl:k=L.length:=by omega
   have hcl:∀f∈L,gy f.1=true:=ui bf (p:=fun f:Fi=>gy f.1=true) hc
   have hst:jw L:=BO hs ha
   refine aw @cc ?_
   refine a7 hN (fun k:Nat=>⟨[(4,ic L z),(83,.ro 2 (bx L)),(84,.int .i64 L.length),(85,.int .i64 k)],[]⟩)
    (fun k=>k≤L.length∧∀j,j<k→iO ((L.getD j bf).1++[47]) L=[]) (fun k=>L.length-k) 0 (.le vV) ⟨Nat.zero_le _,fun j h=>by omega⟩ ?_
   rintro k R3 ⟨hk,hu⟩ hR3
   by_cases hlt:k<L.length
   ·have hm:=iY bf hlt
    have hpk:=hpL _ hm
    have hul:=ast ((L.getD k bf).1++[47]) L
    refine bH @cc @fP ?_
    refine aE (asu L z ((L.getD k bf).1++[47]) hs (by omega) (by rw[List.length_append,List.length_singleton];omega) (fun f hf=>by have:=hpL f hf;omega)) rfl rfl ?_
    by_cases h0:iO ((L.getD k bf).1++[47]) L=[]
    ·have h0l:¬(0:Int)<((iO ((L.getD k bf).1++[47]) L).length:Int):=by rw[h0];simp
     refine bH @lX @h0l ?_
     refine hR3 (k+1) _ (by omega) ⟨by omega,fun j hj=>?_⟩ (.le vV)
     rcases Nat.lt_succ_iff_lt_or_eq.1 hj with h | rfl
     ·exact hu j h
     ·exact h0
    ·have h0l:(0:Int)<((iO ((L.getD k bf).1++[47]) L).length:Int):=by
      have:=List.length_pos_iff.2 h0
      omega
     refine bH @lX @h0l ?_
     exact bad (fun hn=>h0 (hn.2.2 _ hm))
   ·obtain rfl:k=L.length:=by omega
    refine aw @cc ?_
    exact hR.ro ⟨rfl,L,hL,hs,.inl ⟨⟨hcl,hst,ui bf (p:=fun f:Fi=>iO (f.1++[47]) L=[]) hu⟩,z,rfl⟩⟩
open Eng
set_option maxRecDepth 10000
def iX (c:UInt8):Int:=if 48≤c.toNat∧c.toNat≤57 then(c.toNat:Int)-48 else if 97≤c.toNat∧c.toNat≤102 then(c.toNat:Int)-97+10 else -1
theorem Cd (c:UInt8):aP Tryz.prog 116 [.int .u8 (c.toNat:Int)] (.int .i64 (iX c)):=by
 refine Cod.asc (fun E R hN hR=>?_)
 have hc:=c.toNat_lt
 unfold iX at hR
 by_cases h1:48≤c.toNat
 ·by_cases h2:c.toNat≤57
  ·rw[if_pos ⟨h1,h2⟩]at hR
   refine wW ?_
   refine gG ?_
   exact hR.ro ⟨rfl,rfl⟩
  ·rw[if_neg (by omega)]at hR
   by_cases h3:97≤c.toNat
   ·by_cases h4:c.toNat≤102
    ·rw[if_pos ⟨h3,h4⟩]at hR
     refine wW ?_
     refine gG ?_
     exact hR.ro ⟨rfl,rfl⟩
    ·rw[if_neg (by omega)]at hR
     refine wW ?_
     refine gG ?_
     exact hR.ro ⟨rfl,rfl⟩
   ·rw[if_neg (by omega)]at hR
    refine wW ?_
    refine gG ?_
    exact hR.ro ⟨rfl,rfl⟩
 ·rw[if_neg (by omega),if_neg (by omega)]at hR
  refine wW ?_
  refine gG ?_
  exact hR.ro ⟨rfl,rfl⟩
def fC (c:UInt8):Bool:=decide (0≤iX c)
theorem vT {c:UInt8} (h:fC c=true):∃k:Nat,k<16∧iX c=(k:Int):=by
 have h:=of_decide_eq_true h
 refine⟨(iX c).toNat,?_,by omega⟩
 unfold iX at h ⊢
 split
 ·omega
 ·split
  ·omega
  ·rename_i h1 h2;rw[if_neg h1,if_neg h2]at h;omega
theorem Ny:∀a:Nat,a<16→∀b:Nat,b<16→bits .or .i64 (IntKind.i64.wrap ((a:Int)*2^min 4 64)) (b:Int)=((16*a+b:Nat):Int):=by decide +kernel
def gX (s:Bs):Bool:=s.all fC&&decide (s.length%2=0)
theorem asP (s:Bs) (hs:s.length≤140737488351232):Eng.Spec Tryz.prog 62 [] [.str s] (fun h r _=>h=[]∧∃o:Bs,r=.aj [.str o,.bool (gX s)]):=by
 refine Cod.asQ (fun E R hN hR=>?_)
 refine wW ?_
 refine a7 hN (fun o:Bs=>⟨[(0,.str s),(4,.sl 206037 0 o.length),(5,.int .i64 ((2*o.length:Nat):Int))],[(206037,.arr 1 (o.map ub))]⟩) (fun o=>2*o.length≤s.length∧(s.take (2*o.length)).all fC=true) (fun o=>s.length-2*o.length) []
  (.nil 4 206037 1 rfl (.le (by simp(disch:=omega)only[go_sem,simprocAttr,List.map_nil,List.length_nil]))) ⟨by simp,by simp⟩ ?_
 rintro o R1 ⟨ho,hall⟩ hR1
 obtain⟨k,hk⟩:∃k,k=o.length:=⟨_,rfl⟩
 rw[←hk]at ho hall
 have bad:∀{h} {j:Nat},j<s.length→fC (s.getD j 0)=false→R h (.aj [.str [],.bool false]) [.undef]:=fun h1 h2=>hR.ro ⟨rfl,[],by rw[gX,sF (iY 0 h1) h2];rfl⟩
 by_cases hlt:2*k+1<s.length
 ·have t1:=dU 0 s (by omega:2*k<s.length)
  have t2:=dU 0 s hlt
  have ei1:(2*(k:Int)).toNat=2*k:=by omega
  have ei2:(2*(k:Int)+1).toNat=2*k+1:=by omega
  have hi:2*(k:Int)+1<(s.length:Int):=by omega
  have d1:=Cd (s.getD (2*k) 0)
  have d2:=Cd (s.getD (2*k+1) 0)
  have bad1:=fun h=>bad (h:=h) (by omega:2*k<s.length)
  have bad2:=fun h=>bad (h:=h) hlt
  rw[←hk]
  have hkl:(o.map ub).length=k:=by rw[List.length_map,hk]
  have hsub:aL (o.map ub) 0 k=o.map ub:=by
   unfold aL
   rw[List.drop_zero,List.take_of_length_le (by omega)]
  refine cL hi ei1 ei2 ?_
  refine aE d1 rfl rfl ?_
  refine wW ?_
  refine aE d2 rfl rfl ?_
  generalize s.getD (2*k) 0=a at *
  generalize s.getD (2*k+1) 0=b at *
  cases ha:fC a with
  | false=>
   have h0:iX a<0:=by have:=of_decide_eq_false ha;omega
   refine aw h0 ?_
   refine bQ h0 ?_
   exact bad1 _ ha
  | true=>
   obtain⟨x,hx,ex⟩:=vT ha
   cases hb:fC b with
   | false=>
    have h0:iX b<0:=by have:=of_decide_eq_false hb;omega
    have h1:¬(x:Int)<0:=by omega
    rw[ex]
    refine bH h0 h1 ?_
    refine dY h0 h1 ?_
    exact bad2 _ hb
   | true=>
    obtain⟨y,hy,ey⟩:=vT hb
    have h1:¬(x:Int)<0:=by omega
    have h2:¬(y:Int)<0:=by omega
    have h3:=Ny x hx y hy
    rw[ex,ey]
    refine cL h1 h2 h3 ?_
    refine fM h1 h2 h3 ?_
    have hl1:(o++[UInt8.ofNat (16*x+y)]).length=k+1:=by rw[List.length_append,←hk];rfl
    refine hR1 (o++[UInt8.ofNat (16*x+y)]) _ (by omega) ⟨by omega,?_⟩ (.le (by rw[hl1,show 2*(k+1)=2*k+2 by omega];exact vV))
    rw[hl1,show 2*(k+1)=2*k+1+1 by omega,t2,t1,List.all_append,List.all_append,hall]
    simp[ha,hb]
 ·have hi:¬2*(k:Int)+1<(s.length:Int):=by omega
  rw[←hk]
  by_cases he:s.length=2*k
  ·have e1:s.take (2*k)=s:=List.take_of_length_le (by omega)
   rw[e1]at hall
   have hm:(s.length:Int)=2*(k:Int):=by omega
   refine aw hi ?_
   exact hR.ro ⟨rfl,o,by rw[gX,hall,decide_eq_true (by omega)];rfl⟩
  ·refine aw hi ?_
   exact hR.ro ⟨rfl,[],by rw[gX,decide_eq_false (by omega)];simp⟩
def iE (s:Bs):Bool:=gX s&&decide (s.length=40)
theorem ao3 (s:Bs) (hs:s.length≤140737488351232):aP Tryz.prog 34 [.str s] (.bool (iE s)):=by
 refine Cod.ao4 (fun E R hN hR=>?_)
 refine wW ?_
 refine fy (asP s hs) rfl ?_
 rintro h' v ar ⟨rfl,o,rfl⟩
 refine⟨rfl,rfl,?_⟩
 unfold iE at hR
 cases hx:gX s with
 | false=>
  rw[hx]at hR
  refine wW ?_
  refine gG ?_
  exact hR.ro ⟨rfl,rfl⟩
 | true=>
  rw[hx]at hR
  by_cases h40:s.length=40
  ·have hi:(s.length:Int)=40:=by omega
   rw[decide_eq_true h40]at hR
   refine aw hi ?_
   refine bQ hi ?_
   exact hR.ro ⟨rfl,rfl⟩
  ·have hi:¬(s.length:Int)=40:=by omega
   rw[decide_eq_false h40]at hR
   refine aw hi ?_
   refine bQ hi ?_
   exact hR.ro ⟨rfl,rfl⟩
def lM:Bs:=[111,98,106,101,99,116,115,47]
def gJ (s:Bs):Bs:=lM++s.take 2++[47]++s.drop 2
theorem pU {s:Bs} (h:iE s=true):s.length=40∧(gJ s).length=49:=by
 have h40:s.length=40:=by
  unfold iE at h
  rw[Bool.and_eq_true]at h
  exact of_decide_eq_true h.2
 refine⟨h40,?_⟩
 unfold gJ lM
 simp[h40]
theorem pA (s:Bs) (hs:s.length≤140737488351232):aP Tryz.prog 9 [.str s] (if iE s=true then .aj [.str (gJ s),.int .i64 0]else .aj [.str [],.int .i64 4]):=by
 refine Cod.YW (fun E R hN hR=>?_)
 refine wW ?_
 refine aE (ao3 s hs) rfl rfl ?_
 cases hx:iE s with
 | false=>
  rw[hx]at hR
  refine wW ?_
  exact hR.ro ⟨rfl,rfl⟩
 | true=>
  rw[hx]at hR
  have h40:=(pU hx).1
  refine aw h40 ?_
  exact hR.ro ⟨rfl,by rw[if_pos rfl,gJ,lM];simp⟩
theorem Az (old:Bs):∀(k:Nat) (s:Bs),(Lib.replaceK old [] k s).length≤s.length
 | 0,s=>Nat.le_refl _
 | k+1,s=>by
  have ih:=Az old k (s.drop ((Lib.index s old).toNat+old.length))
  rw[List.length_drop]at ih
  unfold Lib.replaceK
  split
  ·exact Nat.le_refl _
  ·rw[List.length_append,List.length_append,List.length_take,List.length_nil]
   omega
def bL (p:Bs):Bs:=Lib.replace (p.drop 8) [47] [] 1
theorem lI (p:Bs):(bL p).length≤p.length:=by
 have h:(bL p).length≤(p.drop 8).length:=by
  unfold bL Lib.replace
  rw[if_neg (by decide)]
  exact Az _ _ _
 rw[List.length_drop]at h;omega
end Go.Proofs.YtlkmppkcbhodaaaGreatDoor.Ls
