/- The proof, part 26 of 42. -/
import Derived.Test.YtoalcafkffmiiaaGreatDoorOdbKindsW
import Derived.Test.YtoalcafkffmiiaaGreatDoorOdbKindsX
import Derived.Test.YtoalcafkffmiiaaGreatDoorOdbKindsY
set_option linter.all false
namespace Go.Proofs.YtoalcafkffmiiaaGreatDoor.Ls
open Eng
set_option maxRecDepth 10000
def lz (L:List Fi):Prop:=(∀f∈L,fN f.1=true)∧ir L∧∀f∈L,bS (f.1++[47]) L=[]
def j9 (fs:List Fi) (k:Nat):Nat:=((fs.take k).map (fun f=>f.2.length)).sum
theorem Cd (fs:List Fi) {k:Nat} (h:k<fs.length):j9 fs (k+1)=j9 fs k+(fs.getD k aW).2.length:=by
 unfold j9
 rw[eT aW fs h,List.map_append,List.sum_append]
 simp
theorem size_le {fs:List Fi} {B:Nat} (hb:∀f∈fs,f.2.length≤B):∀k,k≤fs.length→j9 fs k≤k*B
 | 0,_=>by simp[j9]
 | k+1,h=>by
  have:=size_le hb k (by omega)
  have:=hb _ (eE aW (by omega:k<fs.length))
  rw[Cd fs (by omega),Nat.succ_mul]
  omega
theorem Cu:∀{L:List Fi},du L→(∀i,i+1<L.length→(L.getD i aW).1≠(L.getD (i+1) aW).1)→ir L
 | [],_,_=>.nil
 | [x],_,_=>List.pairwise_singleton _ _
 | x::y::r,hs,ha=>by
  have hs':=List.pairwise_cons.1 hs
  have ih:=Cu hs'.2 (fun i hi=>by simpa using ha (i+1) (by simpa using hi))
  have h1:b7 x y≤0:=hs'.1 y (List.mem_cons_self ..)
  have h2:b7 x y<0:=by
   have hne:x.1≠y.1:=by simpa using ha 0 (by simp)
   by_cases h0:b7 x y=0
   ·exact absurd (kC h0) hne
   ·omega
  refine List.pairwise_cons.2 ⟨fun z hz=>?_,ih⟩
  rcases List.mem_cons.1 hz with rfl | hz
  ·exact h2
  ·exact wK h2 ((List.pairwise_cons.1 hs'.2).1 z hz)
theorem amr {L:List Fi} (h:ir L) {i:Nat} (hi:i+1<L.length):(L.getD i aW).1≠(L.getD (i+1) aW).1:=by
 have:=List.pairwise_iff_getElem.1 h i (i+1) (by omega) hi (by omega)
 rw[List.getD_eq_getElem?_getD,List.getD_eq_getElem?_getD,List.getElem?_eq_getElem hi,List.getElem?_eq_getElem (by omega:i<L.length)]
 exact HR this
theorem vG {α:Type} (d:α) {l:List α} {p:α→Prop} (h:∀j,j<l.length→p (l.getD j d)):∀x∈l,p x:=by
 intro x hx
 obtain⟨j,hj,rfl⟩:=List.mem_iff_getElem.1 hx
 have:=h j hj
 rwa[List.getD_eq_getElem?_getD,List.getElem?_eq_getElem hj]at this
def Ap (fs:List Fi):HP→AV→List AV→Prop:=fun h r _=>h=[]∧∃L:List Fi,L.Perm fs∧du L∧((lz L∧∃n,r=.ai [dK L n,.int .i64 0])∨(¬lz L∧r=.ai [.lit (.pointer none),.int .i64 4]))
set_option maxHeartbeats 2000000 in
theorem uH (fs:List Fi) (hl:fs.length≤200) (hp:∀f∈fs,f.1.length≤140737488351232) (hd:∀f∈fs,f.2.length≤10000):Eng.Spec Tryz.prog 7 [] [.ro 2 (bn fs)] (Ap fs):=by
 refine Cod.alx (fun E R hN hR=>?_)
 refine wW ?_
 refine bf [] (IZ fs (by omega)) trivial (fun _=>rfl) ?_
 rintro h' v ar ⟨rfl,rfl,rfl⟩
 refine dz @lU @bT @sM ?_
 refine bm hN (fun k:Nat=>⟨[(0,.ro 2 (bn fs)),(4,.ab 203014 0),(15,.ro 2 (bn fs)),(16,.int .i64 fs.length),(17,.int .i64 k)],[(203014,.var [.sl 200005 0 fs.length,.int .i64 (j9 fs k:Nat)]),(200005,.arr 2 (bn fs))]⟩)
  (fun k=>k≤fs.length) (fun k=>fs.length-k) 0 (.le (by simp(disch:=omega)only[go_sem,simprocAttr,j9,List.take_zero,List.map_nil,List.sum_nil])) (Nat.zero_le _) ?_
 rintro k R1 hk hR1
 by_cases hlt:k<fs.length
 ·have hst:=Cd fs hlt
  have hsb:=size_le hd k hk
  have hxb:=hd _ (eE aW hlt)
  refine bc @bT @fA ?_
  exact hR1 (k+1) _ (by omega) (by omega) (.le (by rw[hst];exact vV))
 ·obtain rfl:k=fs.length:=by omega
  have hsb:=size_le hd fs.length (Nat.le_refl _)
  obtain⟨z,hz⟩:∃z,z=j9 fs fs.length:=⟨_,rfl⟩
  rw[←hz]at hsb
  have g1:¬(2000:Int)<(fs.length:Int):=by omega
  have g2:¬(4194304:Int)<(z:Int):=by omega
  simp(disch:=omega)only[go_sem,simprocAttr,bT,←hz,g1,g2]
  (repeat(first | refine dk ?_ | refine di ?_ | refine dj ?_)<;>simp(disch:=omega)only[go_sem,simprocAttr,bT,←hz,g1,g2])
  refine oX (n:=2) [4] vV vV rfl (alL 203014 200005 z fs (by decide) (by omega)) ?_
  rintro h' v ar ⟨L,hL,hs,rfl,rfl,rfl⟩
  have hll:=hL.length_eq
  unfold eJ
  refine aw @bT ?_
  have hpL:∀f∈L,f.1.length≤140737488351232:=fun f hf=>hp f (hL.mem_iff.1 hf)
  have hsub:aG (bn L) 0 L.length=bn L:=by
   unfold aG
   rw[List.drop_zero,List.take_of_length_le (by rw[bT];omega)]
  have bad:∀{h},¬lz L→R h (.ai [.lit (.pointer none),.int .i64 4]) [.undef]:=fun h=>hR.ro ⟨rfl,L,hL,hs,.inr ⟨h,rfl⟩⟩
  refine bm hN (fun k:Nat=>⟨[(4,dK L z),(50,.ro 2 (bn L)),(51,.int .i64 L.length),(52,.int .i64 k)],[]⟩)
   (fun k=>k≤L.length∧(∀j,j<k→fN (L.getD j aW).1=true)∧∀j,j+1<k→(L.getD j aW).1≠(L.getD (j+1) aW).1) (fun k=>L.length-k) 0
   (.bG 200005 (.frzS 4 203014 [.ro 2 (aG (bn L) 0 L.length),.int .i64 z] rfl rfl rfl (.le (fL hsub)))) ⟨Nat.zero_le _,fun j h=>by omega,fun j h=>by omega⟩ ?_
  rintro k R2 ⟨hk,hc,ha⟩ hR2
  by_cases hlt:k<L.length
  ·have hm:=eE aW hlt
   have hpk:=hpL _ hm
   have notc:fN (L.getD k aW).1=false→¬lz L:=fun h1 h2=>by rw[h2.1 _ hm]at h1;cases h1
   have next:fN (L.getD k aW).1=true→(∀j,j+1=k→(L.getD j aW).1≠(L.getD k aW).1)→∀st',Wk st' ⟨[(4,dK L z),(50,.ro 2 (bn L)),(51,.int .i64 L.length),(52,.int .i64 ((k+1:Nat):Int))],[]⟩→R2.ap st':=by
    intro h1 h2 st' hw
    refine hR2 (k+1) _ (by omega) ⟨by omega,fun j hj=>?_,fun j hj=>?_⟩ hw
    ·rcases Nat.lt_succ_iff_lt_or_eq.1 hj with h | rfl
     ·exact hc j h
     ·exact h1
    ·rcases Nat.lt_or_ge (j+1) k with h | h
     ·exact ha j h
     ·obtain rfl:j+1=k:=by omega
      exact h2 j rfl
   refine bc @bT @fA ?_
   refine aC (IK _ (by omega)) rfl rfl ?_
   cases hcl:fN (L.getD k aW).1 with
   | false=>
    refine aw hcl ?_
    refine bW hcl ?_
    exact bad (notc hcl)
   | true=>
    by_cases hk0:k=0
    ·subst hk0
     refine aw hcl ?_
     refine bW hcl ?_
     exact next hcl (fun j hj=>by omega) _ (.le vV)
    ·have hi:(0:Int)<(k:Int):=by omega
     refine dW hcl hi @bT @fA ?_
     refine pJ hcl hi @bT @fA ?_
     refine tj (fun he=>?_) (fun he=>?_)
     ·refine wW ?_
      refine bad (fun hn=>amr hn.2.1 (i:=k-1) (by omega) ?_)
      rw[show k-1+1=k by omega]
      exact he
     ·refine wW ?_
      exact next hcl (fun j hj=>by rw[show j=k-1 by omega];exact he) _ (.le vV)
  ·obtain rfl:k=L.length:=by omega
   have hcl:∀f∈L,fN f.1=true:=vG aW (p:=fun f:Fi=>fN f.1=true) hc
   have hst:ir L:=Cu hs ha
   refine aw @bT ?_
   refine bm hN (fun k:Nat=>⟨[(4,dK L z),(83,.ro 2 (bn L)),(84,.int .i64 L.length),(85,.int .i64 k)],[]⟩)
    (fun k=>k≤L.length∧∀j,j<k→bS ((L.getD j aW).1++[47]) L=[]) (fun k=>L.length-k) 0 (.le vV) ⟨Nat.zero_le _,fun j h=>by omega⟩ ?_
   rintro k R3 ⟨hk,hu⟩ hR3
   by_cases hlt:k<L.length
   ·have hm:=eE aW hlt
    have hpk:=hpL _ hm
    have hul:=lp ((L.getD k aW).1++[47]) L
    refine bc @bT @fA ?_
    refine aC (u3 L z ((L.getD k aW).1++[47]) hs (by omega) (by rw[List.length_append,List.length_singleton];omega) (fun f hf=>by have:=hpL f hf;omega)) rfl rfl ?_
    by_cases h0:bS ((L.getD k aW).1++[47]) L=[]
    ·have h0l:¬(0:Int)<((bS ((L.getD k aW).1++[47]) L).length:Int):=by rw[h0];simp
     refine bc @bO @h0l ?_
     refine hR3 (k+1) _ (by omega) ⟨by omega,fun j hj=>?_⟩ (.le vV)
     rcases Nat.lt_succ_iff_lt_or_eq.1 hj with h | rfl
     ·exact hu j h
     ·exact h0
    ·have h0l:(0:Int)<((bS ((L.getD k aW).1++[47]) L).length:Int):=by
      have:=List.length_pos_iff.2 h0
      omega
     refine bc @bO @h0l ?_
     exact bad (fun hn=>h0 (hn.2.2 _ hm))
   ·obtain rfl:k=L.length:=by omega
    refine aw @bT ?_
    exact hR.ro ⟨rfl,L,hL,hs,.inl ⟨⟨hcl,hst,vG aW (p:=fun f:Fi=>bS (f.1++[47]) L=[]) hu⟩,z,rfl⟩⟩
open Eng
set_option maxRecDepth 10000
def jL (c:UInt8):Int:=if 48≤c.toNat∧c.toNat≤57 then(c.toNat:Int)-48 else if 97≤c.toNat∧c.toNat≤102 then(c.toNat:Int)-97+10 else -1
theorem CR (c:UInt8):aO Tryz.prog 117 [.int .u8 (c.toNat:Int)] (.int .i64 (jL c)):=by
 refine Cod.ans (fun E R hN hR=>?_)
 have hc:=c.toNat_lt
 unfold jL at hR
 by_cases h1:48≤c.toNat
 ·by_cases h2:c.toNat≤57
  ·rw[if_pos ⟨h1,h2⟩]at hR
   refine wW ?_
   refine gG ?_
   exact hR.ro ⟨rfl,rfl⟩
  ·rw[if_neg (by omega)]at hR
   by_cases h3:97≤c.toNat
   ·by_cases h4:c.toNat≤102
    ·rw[if_pos ⟨h3,h4⟩]at hR
     refine wW ?_
     refine gG ?_
     exact hR.ro ⟨rfl,rfl⟩
    ·rw[if_neg (by omega)]at hR
     refine wW ?_
     refine gG ?_
     exact hR.ro ⟨rfl,rfl⟩
   ·rw[if_neg (by omega)]at hR
    refine wW ?_
    refine gG ?_
    exact hR.ro ⟨rfl,rfl⟩
 ·rw[if_neg (by omega),if_neg (by omega)]at hR
  refine wW ?_
  refine gG ?_
  exact hR.ro ⟨rfl,rfl⟩
def jg (c:UInt8):Bool:=decide (0≤jL c)
theorem xv {c:UInt8} (h:jg c=true):∃k:Nat,k<16∧jL c=(k:Int):=by
 have h:=of_decide_eq_true h
 refine⟨(jL c).toNat,?_,by omega⟩
 unfold jL at h ⊢
 split
 ·omega
 ·split
  ·omega
  ·rename_i h1 h2;rw[if_neg h1,if_neg h2]at h;omega
theorem P9:∀a:Nat,a<16→∀b:Nat,b<16→bits .or .i64 (IntKind.i64.wrap ((a:Int)*2^min 4 64)) (b:Int)=((16*a+b:Nat):Int):=by decide +kernel
def jP (s:Bs):Bool:=s.all jg&&decide (s.length%2=0)
theorem an3 (s:Bs) (hs:s.length≤140737488351232):Eng.Spec Tryz.prog 72 [] [.str s] (fun h r _=>h=[]∧∃o:Bs,r=.ai [.str o,.bool (jP s)]):=by
 refine Cod.an4 (fun E R hN hR=>?_)
 refine wW ?_
 refine bm hN (fun o:Bs=>⟨[(0,.str s),(4,.sl 206037 0 o.length),(5,.int .i64 ((2*o.length:Nat):Int))],[(206037,.arr 1 (o.map ub))]⟩) (fun o=>2*o.length≤s.length∧(s.take (2*o.length)).all jg=true) (fun o=>s.length-2*o.length) []
  (.nil 4 206037 1 rfl (.le (by simp(disch:=omega)only[go_sem,simprocAttr,List.map_nil,List.length_nil]))) ⟨by simp,by simp⟩ ?_
 rintro o R1 ⟨ho,hall⟩ hR1
 obtain⟨k,hk⟩:∃k,k=o.length:=⟨_,rfl⟩
 rw[←hk]at ho hall
 have bad:∀{h} {j:Nat},j<s.length→jg (s.getD j 0)=false→R h (.ai [.str [],.bool false]) [.undef]:=fun h1 h2=>hR.ro ⟨rfl,[],by rw[jP,Au (eE 0 h1) h2];rfl⟩
 by_cases hlt:2*k+1<s.length
 ·have t1:=eT 0 s (by omega:2*k<s.length)
  have t2:=eT 0 s hlt
  have ei1:(2*(k:Int)).toNat=2*k:=by omega
  have ei2:(2*(k:Int)+1).toNat=2*k+1:=by omega
  have hi:2*(k:Int)+1<(s.length:Int):=by omega
  have d1:=CR (s.getD (2*k) 0)
  have d2:=CR (s.getD (2*k+1) 0)
  have bad1:=fun h=>bad (h:=h) (by omega:2*k<s.length)
  have bad2:=fun h=>bad (h:=h) hlt
  rw[←hk]
  have hkl:(o.map ub).length=k:=by rw[List.length_map,hk]
  have hsub:aG (o.map ub) 0 k=o.map ub:=by
   unfold aG
   rw[List.drop_zero,List.take_of_length_le (by omega)]
  refine dz hi ei1 ei2 ?_
  refine aC d1 rfl rfl ?_
  refine wW ?_
  refine aC d2 rfl rfl ?_
  generalize s.getD (2*k) 0=a at *
  generalize s.getD (2*k+1) 0=b at *
  cases ha:jg a with
  | false=>
   have h0:jL a<0:=by have:=of_decide_eq_false ha;omega
   refine aw h0 ?_
   refine bW h0 ?_
   exact bad1 _ ha
  | true=>
   obtain⟨x,hx,ex⟩:=xv ha
   cases hb:jg b with
   | false=>
    have h0:jL b<0:=by have:=of_decide_eq_false hb;omega
    have h1:¬(x:Int)<0:=by omega
    rw[ex]
    refine bc h0 h1 ?_
    refine ft h0 h1 ?_
    exact bad2 _ hb
   | true=>
    obtain⟨y,hy,ey⟩:=xv hb
    have h1:¬(x:Int)<0:=by omega
    have h2:¬(y:Int)<0:=by omega
    have h3:=P9 x hx y hy
    rw[ex,ey]
    refine dz h1 h2 h3 ?_
    refine jN h1 h2 h3 ?_
    have hl1:(o++[UInt8.ofNat (16*x+y)]).length=k+1:=by rw[List.length_append,←hk];rfl
    refine hR1 (o++[UInt8.ofNat (16*x+y)]) _ (by omega) ⟨by omega,?_⟩ (.le (by rw[hl1,show 2*(k+1)=2*k+2 by omega];exact vV))
    rw[hl1,show 2*(k+1)=2*k+1+1 by omega,t2,t1,List.all_append,List.all_append,hall]
    simp[ha,hb]
 ·have hi:¬2*(k:Int)+1<(s.length:Int):=by omega
  rw[←hk]
  by_cases he:s.length=2*k
  ·have e1:s.take (2*k)=s:=List.take_of_length_le (by omega)
   rw[e1]at hall
   have hm:(s.length:Int)=2*(k:Int):=by omega
   refine aw hi ?_
   exact hR.ro ⟨rfl,o,by rw[jP,hall,decide_eq_true (by omega)];rfl⟩
  ·refine aw hi ?_
   exact hR.ro ⟨rfl,[],by rw[jP,decide_eq_false (by omega)];simp⟩
def cH (s:Bs):Bool:=jP s&&decide (s.length=40)
theorem Cb (s:Bs) (hs:s.length≤140737488351232):aO Tryz.prog 32 [.str s] (.bool (cH s)):=by
 refine Cod.akr (fun E R hN hR=>?_)
 refine wW ?_
 refine gF (an3 s hs) rfl ?_
 rintro h' v ar ⟨rfl,o,rfl⟩
 refine⟨rfl,rfl,?_⟩
 unfold cH at hR
 cases hx:jP s with
 | false=>
  rw[hx]at hR
  refine wW ?_
  refine gG ?_
  exact hR.ro ⟨rfl,rfl⟩
 | true=>
  rw[hx]at hR
  by_cases h40:s.length=40
  ·have hi:(s.length:Int)=40:=by omega
   rw[decide_eq_true h40]at hR
   refine aw hi ?_
   refine bW hi ?_
   exact hR.ro ⟨rfl,rfl⟩
  ·have hi:¬(s.length:Int)=40:=by omega
   rw[decide_eq_false h40]at hR
   refine aw hi ?_
   refine bW hi ?_
   exact hR.ro ⟨rfl,rfl⟩
def eG:Bs:=[111,98,106,101,99,116,115,47]
def gr (s:Bs):Bs:=eG++s.take 2++[47]++s.drop 2
theorem ug {s:Bs} (h:cH s=true):s.length=40∧(gr s).length=49:=by
 have h40:s.length=40:=by
  unfold cH at h
  rw[Bool.and_eq_true]at h
  exact of_decide_eq_true h.2
 refine⟨h40,?_⟩
 unfold gr eG
 simp[h40]
theorem tP (s:Bs) (hs:s.length≤140737488351232):aO Tryz.prog 76 [.str s] (if cH s=true then .ai [.str (gr s),.int .i64 0]else .ai [.str [],.int .i64 4]):=by
 refine Cod.Z9 (fun E R hN hR=>?_)
 refine wW ?_
 refine aC (Cb s hs) rfl rfl ?_
 cases hx:cH s with
 | false=>
  rw[hx]at hR
  refine wW ?_
  exact hR.ro ⟨rfl,rfl⟩
 | true=>
  rw[hx]at hR
  have h40:=(ug hx).1
  refine aw h40 ?_
  exact hR.ro ⟨rfl,by rw[if_pos rfl,gr,eG];simp⟩
theorem BF (old:Bs):∀(k:Nat) (s:Bs),(Lib.replaceK old [] k s).length≤s.length
 | 0,s=>Nat.le_refl _
 | k+1,s=>by
  have ih:=BF old k (s.drop ((Lib.index s old).toNat+old.length))
  rw[List.length_drop]at ih
  unfold Lib.replaceK
  split
  ·exact Nat.le_refl _
  ·rw[List.length_append,List.length_append,List.length_take,List.length_nil]
   omega
def bu (p:Bs):Bs:=Lib.replace (p.drop 8) [47] [] 1
theorem ql (p:Bs):(bu p).length≤p.length:=by
 have h:(bu p).length≤(p.drop 8).length:=by
  unfold bu Lib.replace
  rw[if_neg (by decide)]
  exact BF _ _ _
 rw[List.length_drop]at h;omega
theorem HT {w:World} {g:Nat} {v:Value} {cs:Array Value} {t:TypeId} {fz:Nat×Nat} (hw:w.heap[g]?=some (.cells cs t fz)) (h:cs[0]?=some v):w.cell? ⟨g,0,none⟩=some v:=by
 simp[World.cell?,hw,h]
theorem aip (s:Bs) (hs:s.length≤1000):aO Tryz.prog 75 [.str s,.str [47],.str [],.int .i64 1] (.str (Lib.replace s [47] [] 1)):=by
 refine uK rfl rfl (fun w hA=>?_)
 obtain⟨cs,t,fz,g1,m,g2⟩:=hA (0,_) (by unfold kN;simp only[List.nil_append,List.cons_append,List.mem_cons];exact .inr (.inr (.inr (.inl rfl))))
 have hz:(⟨s.toArray⟩:ByteArray).size=s.length:=by simp[ByteArray.size]
 exact Tryz.strings_Replace ⟨s.toArray⟩ ⟨#[47]⟩ ⟨#[]⟩ 1 m w (by rw[hz];omega) (HT g1 g2) (by decide) (by rw[hz];show s.length+_*0≤_;omega)
def jQ (p:Bs):Bool:=cH (bu p)&&decide (gr (bu p)=p)
def cX (ps:List Bs):List Bs:=(ps.filter jQ).map bu
theorem ZI (ps:List Bs) {p:Bs} (h:jQ p=true):cX (ps++[p])=cX ps++[bu p]:=by
 unfold cX;rw[List.filter_append,List.filter_cons_of_pos h,List.filter_nil,List.map_append];rfl
theorem ZH (ps:List Bs) {p:Bs} (h:jQ p=false):cX (ps++[p])=cX ps:=by
 unfold cX;rw[List.filter_append,List.filter_cons_of_neg (by rw[h];simp),List.filter_nil,List.append_nil]
theorem tN (ps:List Bs):(cX ps).length≤ps.length:=by
 unfold cX;rw[List.length_map];exact List.length_filter_le ..
theorem ZG {ps:List Bs} {x:Bs} (h:x∈cX ps):x.length=40:=by
 obtain⟨p,hp,rfl⟩:=List.mem_map.1 h
 have:=(List.mem_filter.1 hp).2
 unfold jQ at this
 rw[Bool.and_eq_true]at this
 exact(ug this.1).1
set_option maxHeartbeats 1000000 in
theorem Z1 (L:List Fi) (n:Nat) (hs:du L) (hl:L.length≤100000) (hc:∀f∈L,f.1.length≤200) :
    Eng.Spec Tryz.prog 39 [] [dK L n] (fun h r ar=>h=[(213034,.arr 1 (aL (cX (bS eG L))))]∧r=.sl 213034 0 (cX (bS eG L)).length∧ar=[.undef]):=by
 refine Cod.Z2 (fun E R hN hR=>?_)
 refine wW ?_
 refine aC (u3 L n eG hs hl (by decide) (fun f hf=>by have:=hc f hf;omega)) rfl rfl ?_
 have hul:=lp eG L
 have hum:∀p∈bS eG L,p.length≤200∧8≤p.length:=fun p hp=>by
  obtain⟨h1,f,hf,h2⟩:=u0 hp
  exact⟨by rw[←h2];exact hc f hf,rU h1⟩
 generalize bS eG L=U at *
 refine aw @bO ?_
 refine bm hN (fun k:Nat=>⟨[(3,.sl 213034 0 (cX (U.take k)).length),(10,.ro 1 (aL U)),(11,.int .i64 U.length),(12,.int .i64 k)],[(213034,.arr 1 (aL (cX (U.take k))))]⟩) (fun k=>k≤U.length) (fun k=>U.length-k) 0
  (.nil 3 213034 1 rfl (.le (by simp(disch:=first | omega | (simp only[Lx];omega))only[go_sem,simprocAttr,List.take_zero,ob,show cX []=[]from rfl,List.length_nil]))) (Nat.zero_le _) ?_
 rintro k R1 hk hR1
 by_cases hlt:k<U.length
 ·obtain⟨h1,h2⟩:=hum _ (eE [] hlt)
  have hsn:=eT [] U hlt
  have hsl:=tN (U.take k)
  rw[List.length_take]at hsl
  have hpl:=ql (U.getD k [])
  have hr:=aip ((U.getD k []).drop 8) (by rw[List.length_drop];omega)
  have hpa:=tP (bu (U.getD k [])) (by omega)
  have hi:(8:Int)≤((U.getD k []).length:Int):=by omega
  have nx:jQ (U.getD k [])=false→∀st',Wk st' ⟨[(3,.sl 213034 0 (cX (U.take k)).length),(10,.ro 1 (aL U)),(11,.int .i64 U.length),(12,.int .i64 ((k+1:Nat):Int))],[(213034,.arr 1 (aL (cX (U.take k))))]⟩→R1.ap st':=fun hno st' hw=>
   hR1 (k+1) _ (by omega) (by omega) (by rw[hsn,ZH _ hno];exact hw)
  obtain⟨O,hO⟩:∃O,O=cX (U.take k):=⟨_,rfl⟩
  rw[←hO]at hsl nx
  have ny:jQ (U.getD k [])=true→∀st',Wk st' ⟨[(3,.sl 213034 0 (O++[bu (U.getD k [])]).length),(10,.ro 1 (aL U)),(11,.int .i64 U.length),(12,.int .i64 ((k+1:Nat):Int))],[(213034,.arr 1 (aL (O++[bu (U.getD k [])])))]⟩→R1.ap st':=fun hy st' hw=>
   hR1 (k+1) _ (by omega) (by omega) (by rw[hsn,ZI _ hy,←hO];exact hw)
  unfold bu at hpa ny
  unfold jQ bu at nx ny
  rw[←hO]
  have hsub:aG (aL O) 0 O.length=aL O:=by
   unfold aG
   rw[List.drop_zero,List.take_of_length_le (by rw[bO];omega)]
  refine dz @bO @nC hi ?_
  refine aC hr rfl rfl ?_
  obtain⟨m,hm⟩:∃m,m=Lib.replace ((U.getD k []).drop 8) [47] [] 1:=⟨_,rfl⟩
  rw[←hm]at nx ny hpa
  rw[←hm]
  clear hm hr
  refine wW ?_
  cases hid:cH m with
  | false=>
   rw[hid]at hpa
   refine aC hpa rfl rfl ?_
   refine wW ?_
   refine gG ?_
   exact nx (by rw[hid];rfl) _ (.le vV)
  | true=>
   rw[hid]at hpa
   refine aC hpa rfl rfl ?_
   by_cases he:gr m=U.getD k []
   ·refine aw he ?_
    refine bW he ?_
    rw[hsub,oa]
    exact⟨⟨fI,by omega⟩,ny (by rw[hid,decide_eq_true he];rfl) _ (.le (by rw[List.length_append,List.length_singleton];exact vV))⟩
   ·refine aw he ?_
    refine bW he ?_
    exact nx (by rw[hid,decide_eq_false he];rfl) _ (.le vV)
 ·obtain rfl:k=U.length:=by omega
  refine aw @bO ?_
  exact hR.wk (h':=[(213034,.arr 1 (aL (cX U)))]) (r':=.sl 213034 0 (cX U).length) (ar':=[.undef]) rfl (.le vV) ⟨rfl,rfl,rfl⟩
end Go.Proofs.YtoalcafkffmiiaaGreatDoor.Ls
