/- The proof, part 22 of 32. -/
import Derived.Test.YtlkmppkcbhodaaaGreatDoorLooseReadsS
import Derived.Test.YtlkmppkcbhodaaaGreatDoorLooseReadsT
import Derived.Test.YtlkmppkcbhodaaaGreatDoorLooseReadsU
set_option linter.all false
namespace Go.Proofs.YtlkmppkcbhodaaaGreatDoor.Ls
open Eng
set_option maxRecDepth 10000
def mY (L:List Fi):Prop:=(∀f∈L,gb f.1=true)∧gL L∧∀f∈L,cF (f.1++[47]) L=[]
def jy (fs:List Fi) (k:Nat):Nat:=((fs.take k).map (fun f=>f.2.length)).sum
theorem AM (fs:List Fi) {k:Nat} (h:k<fs.length):jy fs (k+1)=jy fs k+(fs.getD k aX).2.length:=by
 unfold jy
 rw[dp aX fs h,List.map_append,List.sum_append]
 simp
theorem size_le {fs:List Fi} {B:Nat} (hb:∀f∈fs,f.2.length≤B):∀k,k≤fs.length→jy fs k≤k*B
 | 0,_=>by simp[jy]
 | k+1,h=>by
  have:=size_le hb k (by omega)
  have:=hb _ (gV aX (by omega:k<fs.length))
  rw[AM fs (by omega),Nat.succ_mul]
  omega
theorem A8:∀{L:List Fi},gn L→(∀i,i+1<L.length→(L.getD i aX).1≠(L.getD (i+1) aX).1)→gL L
 | [],_,_=>.nil
 | [x],_,_=>List.pairwise_singleton _ _
 | x::y::r,hs,ha=>by
  have hs':=List.pairwise_cons.1 hs
  have ih:=A8 hs'.2 (fun i hi=>by simpa using ha (i+1) (by simpa using hi))
  have h1:cg x y≤0:=hs'.1 y (List.mem_cons_self ..)
  have h2:cg x y<0:=by
   have hne:x.1≠y.1:=by simpa using ha 0 (by simp)
   by_cases h0:cg x y=0
   ·exact absurd (jS h0) hne
   ·omega
  refine List.pairwise_cons.2 ⟨fun z hz=>?_,ih⟩
  rcases List.mem_cons.1 hz with rfl | hz
  ·exact h2
  ·exact F2 h2 ((List.pairwise_cons.1 hs'.2).1 z hz)
theorem arb {L:List Fi} (h:gL L) {i:Nat} (hi:i+1<L.length):(L.getD i aX).1≠(L.getD (i+1) aX).1:=by
 have:=List.pairwise_iff_getElem.1 h i (i+1) (by omega) hi (by omega)
 rw[List.getD_eq_getElem?_getD,List.getD_eq_getElem?_getD,List.getElem?_eq_getElem hi,List.getElem?_eq_getElem (by omega:i<L.length)]
 exact uI this
theorem tw {α:Type} (d:α) {l:List α} {p:α→Prop} (h:∀j,j<l.length→p (l.getD j d)):∀x∈l,p x:=by
 intro x hx
 obtain⟨j,hj,rfl⟩:=List.mem_iff_getElem.1 hx
 have:=h j hj
 rwa[List.getD_eq_getElem?_getD,List.getElem?_eq_getElem hj]at this
def X9 (fs:List Fi):HP→AV→List AV→Prop:=fun h r _=>h=[]∧∃L:List Fi,L.Perm fs∧gn L∧((mY L∧∃n,r=.ai [iD L n,.int .i64 0])∨(¬mY L∧r=.ai [.lit (.pointer none),.int .i64 4]))
set_option maxHeartbeats 2000000 in
theorem aqm (fs:List Fi) (hl:fs.length≤200) (hp:∀f∈fs,f.1.length≤140737488351232) (hd:∀f∈fs,f.2.length≤10000):Eng.Spec Tryz.prog 8 [] [.ro 2 (bn fs)] (X9 fs):=by
 refine Cod.aqn (fun E R hN hR=>?_)
 refine wW ?_
 refine aU [] (G3 fs (by omega)) trivial (fun _=>rfl) ?_
 rintro h' v ar ⟨rfl,rfl,rfl⟩
 refine cN @kO @bR @qL ?_
 refine aZ hN (fun k:Nat=>⟨[(0,.ro 2 (bn fs)),(4,.ab 203014 0),(15,.ro 2 (bn fs)),(16,.int .i64 fs.length),(17,.int .i64 k)],[(203014,.var [.sl 200005 0 fs.length,.int .i64 (jy fs k:Nat)]),(200005,.arr 2 (bn fs))]⟩)
  (fun k=>k≤fs.length) (fun k=>fs.length-k) 0 (.le (by simp(disch:=omega)only[go_sem,simprocAttr,jy,List.take_zero,List.map_nil,List.sum_nil])) (Nat.zero_le _) ?_
 rintro k R1 hk hR1
 by_cases hlt:k<fs.length
 ·have hst:=AM fs hlt
  have hsb:=size_le hd k hk
  have hxb:=hd _ (gV aX hlt)
  refine bo @bR @fj ?_
  exact hR1 (k+1) _ (by omega) (by omega) (.le (by rw[hst];exact vV))
 ·obtain rfl:k=fs.length:=by omega
  have hsb:=size_le hd fs.length (Nat.le_refl _)
  obtain⟨z,hz⟩:∃z,z=jy fs fs.length:=⟨_,rfl⟩
  rw[←hz]at hsb
  have g1:¬(2000:Int)<(fs.length:Int):=by omega
  have g2:¬(4194304:Int)<(z:Int):=by omega
  simp(disch:=omega)only[go_sem,simprocAttr,bR,←hz,g1,g2]
  (repeat(first | refine ff ?_ | refine fc ?_ | refine fe ?_)<;>simp(disch:=omega)only[go_sem,simprocAttr,bR,←hz,g1,g2])
  refine uG (n:=2) [4] vV vV rfl (aqB 203014 200005 z fs (by decide) (by omega)) ?_
  rintro h' v ar ⟨L,hL,hs,rfl,rfl,rfl⟩
  have hll:=hL.length_eq
  unfold eW
  refine au @bR ?_
  have hpL:∀f∈L,f.1.length≤140737488351232:=fun f hf=>hp f (hL.mem_iff.1 hf)
  have hsub:aI (bn L) 0 L.length=bn L:=by
   unfold aI
   rw[List.drop_zero,List.take_of_length_le (by rw[bR];omega)]
  have bad:∀{h},¬mY L→R h (.ai [.lit (.pointer none),.int .i64 4]) [.undef]:=fun h=>hR.ro ⟨rfl,L,hL,hs,.inr ⟨h,rfl⟩⟩
  refine aZ hN (fun k:Nat=>⟨[(4,iD L z),(50,.ro 2 (bn L)),(51,.int .i64 L.length),(52,.int .i64 k)],[]⟩)
   (fun k=>k≤L.length∧(∀j,j<k→gb (L.getD j aX).1=true)∧∀j,j+1<k→(L.getD j aX).1≠(L.getD (j+1) aX).1) (fun k=>L.length-k) 0
   (.bw 200005 (.frzS 4 203014 [.ro 2 (aI (bn L) 0 L.length),.int .i64 z] rfl rfl rfl (.le (dA hsub)))) ⟨Nat.zero_le _,fun j h=>by omega,fun j h=>by omega⟩ ?_
  rintro k R2 ⟨hk,hc,ha⟩ hR2
  by_cases hlt:k<L.length
  ·have hm:=gV aX hlt
   have hpk:=hpL _ hm
   have notc:gb (L.getD k aX).1=false→¬mY L:=fun h1 h2=>by rw[h2.1 _ hm]at h1;cases h1
   have next:gb (L.getD k aX).1=true→(∀j,j+1=k→(L.getD j aX).1≠(L.getD k aX).1)→∀st',Wk st' ⟨[(4,iD L z),(50,.ro 2 (bn L)),(51,.int .i64 L.length),(52,.int .i64 ((k+1:Nat):Int))],[]⟩→R2.ap st':=by
    intro h1 h2 st' hw
    refine hR2 (k+1) _ (by omega) ⟨by omega,fun j hj=>?_,fun j hj=>?_⟩ hw
    ·rcases Nat.lt_succ_iff_lt_or_eq.1 hj with h | rfl
     ·exact hc j h
     ·exact h1
    ·rcases Nat.lt_or_ge (j+1) k with h | h
     ·exact ha j h
     ·obtain rfl:j+1=k:=by omega
      exact h2 j rfl
   refine bo @bR @fj ?_
   refine aA (GQ _ (by omega)) rfl rfl ?_
   cases hcl:gb (L.getD k aX).1 with
   | false=>
    refine au hcl ?_
    refine bF hcl ?_
    exact bad (notc hcl)
   | true=>
    by_cases hk0:k=0
    ·subst hk0
     refine au hcl ?_
     refine bF hcl ?_
     exact next hcl (fun j hj=>by omega) _ (.le vV)
    ·have hi:(0:Int)<(k:Int):=by omega
     refine dE hcl hi @bR @fj ?_
     refine kR hcl hi @bR @fj ?_
     refine kW (fun he=>?_) (fun he=>?_)
     ·refine wW ?_
      refine bad (fun hn=>arb hn.2.1 (i:=k-1) (by omega) ?_)
      rw[show k-1+1=k by omega]
      exact he
     ·refine wW ?_
      exact next hcl (fun j hj=>by rw[show j=k-1 by omega];exact he) _ (.le vV)
  ·obtain rfl:k=L.length:=by omega
   have hcl:∀f∈L,gb f.1=true:=tw aX (p:=fun f:Fi=>gb f.1=true) hc
   have hst:gL L:=A8 hs ha
   refine au @bR ?_
   refine aZ hN (fun k:Nat=>⟨[(4,iD L z),(83,.ro 2 (bn L)),(84,.int .i64 L.length),(85,.int .i64 k)],[]⟩)
    (fun k=>k≤L.length∧∀j,j<k→cF ((L.getD j aX).1++[47]) L=[]) (fun k=>L.length-k) 0 (.le vV) ⟨Nat.zero_le _,fun j h=>by omega⟩ ?_
   rintro k R3 ⟨hk,hu⟩ hR3
   by_cases hlt:k<L.length
   ·have hm:=gV aX hlt
    have hpk:=hpL _ hm
    have hul:=pP ((L.getD k aX).1++[47]) L
    refine bo @bR @fj ?_
    refine aA (BC L z ((L.getD k aX).1++[47]) hs (by omega) (by rw[List.length_append,List.length_singleton];omega) (fun f hf=>by have:=hpL f hf;omega)) rfl rfl ?_
    by_cases h0:cF ((L.getD k aX).1++[47]) L=[]
    ·have h0l:¬(0:Int)<((cF ((L.getD k aX).1++[47]) L).length:Int):=by rw[h0];simp
     refine bo @cE @h0l ?_
     refine hR3 (k+1) _ (by omega) ⟨by omega,fun j hj=>?_⟩ (.le vV)
     rcases Nat.lt_succ_iff_lt_or_eq.1 hj with h | rfl
     ·exact hu j h
     ·exact h0
    ·have h0l:(0:Int)<((cF ((L.getD k aX).1++[47]) L).length:Int):=by
      have:=List.length_pos_iff.2 h0
      omega
     refine bo @cE @h0l ?_
     exact bad (fun hn=>h0 (hn.2.2 _ hm))
   ·obtain rfl:k=L.length:=by omega
    refine au @bR ?_
    exact hR.ro ⟨rfl,L,hL,hs,.inl ⟨⟨hcl,hst,tw aX (p:=fun f:Fi=>cF (f.1++[47]) L=[]) hu⟩,z,rfl⟩⟩
open Eng
set_option maxRecDepth 10000
def iO (c:UInt8):Int:=if 48≤c.toNat∧c.toNat≤57 then(c.toNat:Int)-48 else if 97≤c.toNat∧c.toNat≤102 then(c.toNat:Int)-97+10 else -1
theorem Bx (c:UInt8):aM Tryz.prog 116 [.int .u8 (c.toNat:Int)] (.int .i64 (iO c)):=by
 refine Cod.asb (fun E R hN hR=>?_)
 have hc:=c.toNat_lt
 unfold iO at hR
 by_cases h1:48≤c.toNat
 ·by_cases h2:c.toNat≤57
  ·rw[if_pos ⟨h1,h2⟩]at hR
   refine wW ?_
   refine gG ?_
   exact hR.ro ⟨rfl,rfl⟩
  ·rw[if_neg (by omega)]at hR
   by_cases h3:97≤c.toNat
   ·by_cases h4:c.toNat≤102
    ·rw[if_pos ⟨h3,h4⟩]at hR
     refine wW ?_
     refine gG ?_
     exact hR.ro ⟨rfl,rfl⟩
    ·rw[if_neg (by omega)]at hR
     refine wW ?_
     refine gG ?_
     exact hR.ro ⟨rfl,rfl⟩
   ·rw[if_neg (by omega)]at hR
    refine wW ?_
    refine gG ?_
    exact hR.ro ⟨rfl,rfl⟩
 ·rw[if_neg (by omega),if_neg (by omega)]at hR
  refine wW ?_
  refine gG ?_
  exact hR.ro ⟨rfl,rfl⟩
def fv (c:UInt8):Bool:=decide (0≤iO c)
theorem u5 {c:UInt8} (h:fv c=true):∃k:Nat,k<16∧iO c=(k:Int):=by
 have h:=of_decide_eq_true h
 refine⟨(iO c).toNat,?_,by omega⟩
 unfold iO at h ⊢
 split
 ·omega
 ·split
  ·omega
  ·rename_i h1 h2;rw[if_neg h1,if_neg h2]at h;omega
theorem Me:∀a:Nat,a<16→∀b:Nat,b<16→bits .or .i64 (IntKind.i64.wrap ((a:Int)*2^min 4 64)) (b:Int)=((16*a+b:Nat):Int):=by decide +kernel
def gW (s:Bs):Bool:=s.all fv&&decide (s.length%2=0)
theorem asP (s:Bs) (hs:s.length≤140737488351232):Eng.Spec Tryz.prog 62 [] [.str s] (fun h r _=>h=[]∧∃o:Bs,r=.ai [.str o,.bool (gW s)]):=by
 refine Cod.asQ (fun E R hN hR=>?_)
 refine wW ?_
 refine aZ hN (fun o:Bs=>⟨[(0,.str s),(4,.sl 206037 0 o.length),(5,.int .i64 ((2*o.length:Nat):Int))],[(206037,.arr 1 (o.map ub))]⟩) (fun o=>2*o.length≤s.length∧(s.take (2*o.length)).all fv=true) (fun o=>s.length-2*o.length) []
  (.nil 4 206037 1 rfl (.le (by simp(disch:=omega)only[go_sem,simprocAttr,List.map_nil,List.length_nil]))) ⟨by simp,by simp⟩ ?_
 rintro o R1 ⟨ho,hall⟩ hR1
 obtain⟨k,hk⟩:∃k,k=o.length:=⟨_,rfl⟩
 rw[←hk]at ho hall
 have bad:∀{h} {j:Nat},j<s.length→fv (s.getD j 0)=false→R h (.ai [.str [],.bool false]) [.undef]:=fun h1 h2=>hR.ro ⟨rfl,[],by rw[gW,rP (gV 0 h1) h2];rfl⟩
 by_cases hlt:2*k+1<s.length
 ·have t1:=dp 0 s (by omega:2*k<s.length)
  have t2:=dp 0 s hlt
  have ei1:(2*(k:Int)).toNat=2*k:=by omega
  have ei2:(2*(k:Int)+1).toNat=2*k+1:=by omega
  have hi:2*(k:Int)+1<(s.length:Int):=by omega
  have d1:=Bx (s.getD (2*k) 0)
  have d2:=Bx (s.getD (2*k+1) 0)
  have bad1:=fun h=>bad (h:=h) (by omega:2*k<s.length)
  have bad2:=fun h=>bad (h:=h) hlt
  rw[←hk]
  have hkl:(o.map ub).length=k:=by rw[List.length_map,hk]
  have hsub:aI (o.map ub) 0 k=o.map ub:=by
   unfold aI
   rw[List.drop_zero,List.take_of_length_le (by omega)]
  refine cN hi ei1 ei2 ?_
  refine aA d1 rfl rfl ?_
  refine wW ?_
  refine aA d2 rfl rfl ?_
  generalize s.getD (2*k) 0=a at *
  generalize s.getD (2*k+1) 0=b at *
  cases ha:fv a with
  | false=>
   have h0:iO a<0:=by have:=of_decide_eq_false ha;omega
   refine au h0 ?_
   refine bF h0 ?_
   exact bad1 _ ha
  | true=>
   obtain⟨x,hx,ex⟩:=u5 ha
   cases hb:fv b with
   | false=>
    have h0:iO b<0:=by have:=of_decide_eq_false hb;omega
    have h1:¬(x:Int)<0:=by omega
    rw[ex]
    refine bo h0 h1 ?_
    refine dS h0 h1 ?_
    exact bad2 _ hb
   | true=>
    obtain⟨y,hy,ey⟩:=u5 hb
    have h1:¬(x:Int)<0:=by omega
    have h2:¬(y:Int)<0:=by omega
    have h3:=Me x hx y hy
    rw[ex,ey]
    refine cN h1 h2 h3 ?_
    refine fK h1 h2 h3 ?_
    have hl1:(o++[UInt8.ofNat (16*x+y)]).length=k+1:=by rw[List.length_append,←hk];rfl
    refine hR1 (o++[UInt8.ofNat (16*x+y)]) _ (by omega) ⟨by omega,?_⟩ (.le (by rw[hl1,show 2*(k+1)=2*k+2 by omega];exact vV))
    rw[hl1,show 2*(k+1)=2*k+1+1 by omega,t2,t1,List.all_append,List.all_append,hall]
    simp[ha,hb]
 ·have hi:¬2*(k:Int)+1<(s.length:Int):=by omega
  rw[←hk]
  by_cases he:s.length=2*k
  ·have e1:s.take (2*k)=s:=List.take_of_length_le (by omega)
   rw[e1]at hall
   have hm:(s.length:Int)=2*(k:Int):=by omega
   refine au hi ?_
   exact hR.ro ⟨rfl,o,by rw[gW,hall,decide_eq_true (by omega)];rfl⟩
  ·refine au hi ?_
   exact hR.ro ⟨rfl,[],by rw[gW,decide_eq_false (by omega)];simp⟩
def dr (s:Bs):Bool:=gW s&&decide (s.length=40)
theorem apk (s:Bs) (hs:s.length≤140737488351232):aM Tryz.prog 34 [.str s] (.bool (dr s)):=by
 refine Cod.apl (fun E R hN hR=>?_)
 refine wW ?_
 refine iK (asP s hs) rfl ?_
 rintro h' v ar ⟨rfl,o,rfl⟩
 refine⟨rfl,rfl,?_⟩
 unfold dr at hR
 cases hx:gW s with
 | false=>
  rw[hx]at hR
  refine wW ?_
  refine gG ?_
  exact hR.ro ⟨rfl,rfl⟩
 | true=>
  rw[hx]at hR
  by_cases h40:s.length=40
  ·have hi:(s.length:Int)=40:=by omega
   rw[decide_eq_true h40]at hR
   refine au hi ?_
   refine bF hi ?_
   exact hR.ro ⟨rfl,rfl⟩
  ·have hi:¬(s.length:Int)=40:=by omega
   rw[decide_eq_false h40]at hR
   refine au hi ?_
   refine bF hi ?_
   exact hR.ro ⟨rfl,rfl⟩
def bU:Bs:=[111,98,106,101,99,116,115,47]
def dM (s:Bs):Bs:=bU++s.take 2++[47]++s.drop 2
theorem mi {s:Bs} (h:dr s=true):s.length=40∧(dM s).length=49:=by
 have h40:s.length=40:=by
  unfold dr at h
  rw[Bool.and_eq_true]at h
  exact of_decide_eq_true h.2
 refine⟨h40,?_⟩
 unfold dM bU
 simp[h40]
theorem l7 (s:Bs) (hs:s.length≤140737488351232):aM Tryz.prog 9 [.str s] (if dr s=true then .ai [.str (dM s),.int .i64 0]else .ai [.str [],.int .i64 4]):=by
 refine Cod.WW (fun E R hN hR=>?_)
 refine wW ?_
 refine aA (apk s hs) rfl rfl ?_
 cases hx:dr s with
 | false=>
  rw[hx]at hR
  refine wW ?_
  exact hR.ro ⟨rfl,rfl⟩
 | true=>
  rw[hx]at hR
  have h40:=(mi hx).1
  refine au h40 ?_
  exact hR.ro ⟨rfl,by rw[if_pos rfl,dM,bU];simp⟩
theorem zP (old:Bs):∀(k:Nat) (s:Bs),(Lib.replaceK old [] k s).length≤s.length
 | 0,s=>Nat.le_refl _
 | k+1,s=>by
  have ih:=zP old k (s.drop ((Lib.index s old).toNat+old.length))
  rw[List.length_drop]at ih
  unfold Lib.replaceK
  split
  ·exact Nat.le_refl _
  ·rw[List.length_append,List.length_append,List.length_take,List.length_nil]
   omega
def bt (p:Bs):Bs:=Lib.replace (p.drop 8) [47] [] 1
theorem mb (p:Bs):(bt p).length≤p.length:=by
 have h:(bt p).length≤(p.drop 8).length:=by
  unfold bt Lib.replace
  rw[if_neg (by decide)]
  exact zP _ _ _
 rw[List.length_drop]at h;omega
theorem F4 {w:World} {g:Nat} {v:Value} {cs:Array Value} {t:TypeId} {fz:Nat×Nat} (hw:w.heap[g]?=some (.cells cs t fz)) (h:cs[0]?=some v):w.cell? ⟨g,0,none⟩=some v:=by
 simp[World.cell?,hw,h]
theorem ale (s:Bs) (hs:s.length≤1000):aM Tryz.prog 44 [.str s,.str [47],.str [],.int .i64 1] (.str (Lib.replace s [47] [] 1)):=by
 refine sM rfl rfl (fun w hA=>?_)
 obtain⟨cs,t,fz,g1,m,g2⟩:=hA (0,_) (by unfold jY;simp only[List.nil_append,List.cons_append,List.mem_cons];exact .inr (.inr (.inr (.inl rfl))))
 have hz:(⟨s.toArray⟩:ByteArray).size=s.length:=by simp[ByteArray.size]
 exact Tryz.strings_Replace ⟨s.toArray⟩ ⟨#[47]⟩ ⟨#[]⟩ 1 m w (by rw[hz];omega) (F4 g1 g2) (by decide) (by rw[hz];show s.length+_*0≤_;omega)
def gA (p:Bs):Bool:=dr (bt p)&&decide (dM (bt p)=p)
def cL (ps:List Bs):List Bs:=(ps.filter gA).map bt
theorem V4 (ps:List Bs) {p:Bs} (h:gA p=true):cL (ps++[p])=cL ps++[bt p]:=by
 unfold cL;rw[List.filter_append,List.filter_cons_of_pos h,List.filter_nil,List.map_append];rfl
theorem V3 (ps:List Bs) {p:Bs} (h:gA p=false):cL (ps++[p])=cL ps:=by
 unfold cL;rw[List.filter_append,List.filter_cons_of_neg (by rw[h];simp),List.filter_nil,List.append_nil]
theorem rI (ps:List Bs):(cL ps).length≤ps.length:=by
 unfold cL;rw[List.length_map];exact List.length_filter_le ..
set_option maxHeartbeats 1000000 in
theorem Wp (L:List Fi) (n:Nat) (hs:gn L) (hl:L.length≤100000) (hc:∀f∈L,f.1.length≤200) :
    Eng.Spec Tryz.prog 20 [] [iD L n] (fun h r ar=>h=[(213034,.arr 1 (bc (cL (cF bU L))))]∧r=.sl 213034 0 (cL (cF bU L)).length∧ar=[.undef]):=by
 refine Cod.Wr (fun E R hN hR=>?_)
 refine wW ?_
 refine aA (BC L n bU hs hl (by decide) (fun f hf=>by have:=hc f hf;omega)) rfl rfl ?_
 have hul:=pP bU L
 have hum:∀p∈cF bU L,p.length≤200∧8≤p.length:=fun p hp=>by
  obtain⟨h1,f,hf,h2⟩:=BB hp
  exact⟨by rw[←h2];exact hc f hf,D4 h1⟩
 generalize cF bU L=U at *
 refine au @cE ?_
 refine aZ hN (fun k:Nat=>⟨[(3,.sl 213034 0 (cL (U.take k)).length),(10,.ro 1 (bc U)),(11,.int .i64 U.length),(12,.int .i64 k)],[(213034,.arr 1 (bc (cL (U.take k))))]⟩) (fun k=>k≤U.length) (fun k=>U.length-k) 0
  (.nil 3 213034 1 rfl (.le (by simp(disch:=first | omega | (simp only[Lx];omega))only[go_sem,simprocAttr,List.take_zero,mK,show cL []=[]from rfl,List.length_nil]))) (Nat.zero_le _) ?_
 rintro k R1 hk hR1
 by_cases hlt:k<U.length
 ·obtain⟨h1,h2⟩:=hum _ (gV [] hlt)
  have hsn:=dp [] U hlt
  have hsl:=rI (U.take k)
  rw[List.length_take]at hsl
  have hpl:=mb (U.getD k [])
  have hr:=ale ((U.getD k []).drop 8) (by rw[List.length_drop];omega)
  have hpa:=l7 (bt (U.getD k [])) (by omega)
  have hi:(8:Int)≤((U.getD k []).length:Int):=by omega
  have nx:gA (U.getD k [])=false→∀st',Wk st' ⟨[(3,.sl 213034 0 (cL (U.take k)).length),(10,.ro 1 (bc U)),(11,.int .i64 U.length),(12,.int .i64 ((k+1:Nat):Int))],[(213034,.arr 1 (bc (cL (U.take k))))]⟩→R1.ap st':=fun hno st' hw=>
   hR1 (k+1) _ (by omega) (by omega) (by rw[hsn,V3 _ hno];exact hw)
  obtain⟨O,hO⟩:∃O,O=cL (U.take k):=⟨_,rfl⟩
  rw[←hO]at hsl nx
  have ny:gA (U.getD k [])=true→∀st',Wk st' ⟨[(3,.sl 213034 0 (O++[bt (U.getD k [])]).length),(10,.ro 1 (bc U)),(11,.int .i64 U.length),(12,.int .i64 ((k+1:Nat):Int))],[(213034,.arr 1 (bc (O++[bt (U.getD k [])])))]⟩→R1.ap st':=fun hy st' hw=>
   hR1 (k+1) _ (by omega) (by omega) (by rw[hsn,V4 _ hy,←hO];exact hw)
  unfold bt at hpa ny
  unfold gA bt at nx ny
  rw[←hO]
  have hsub:aI (bc O) 0 O.length=bc O:=by
   unfold aI
   rw[List.drop_zero,List.take_of_length_le (by rw[cE];omega)]
  refine cN @cE @gj hi ?_
  refine aA hr rfl rfl ?_
  obtain⟨m,hm⟩:∃m,m=Lib.replace ((U.getD k []).drop 8) [47] [] 1:=⟨_,rfl⟩
  rw[←hm]at nx ny hpa
  rw[←hm]
  clear hm hr
  refine wW ?_
  cases hid:dr m with
  | false=>
   rw[hid]at hpa
   refine aA hpa rfl rfl ?_
   refine wW ?_
   refine gG ?_
   exact nx (by rw[hid];rfl) _ (.le vV)
  | true=>
   rw[hid]at hpa
   refine aA hpa rfl rfl ?_
   by_cases he:dM m=U.getD k []
   ·refine au he ?_
    refine bF he ?_
    rw[hsub,iG]
    exact⟨⟨gF,by omega⟩,ny (by rw[hid,decide_eq_true he];rfl) _ (.le (by rw[List.length_append,List.length_singleton];exact vV))⟩
   ·refine au he ?_
    refine bF he ?_
    exact nx (by rw[hid,decide_eq_false he];rfl) _ (.le vV)
 ·obtain rfl:k=U.length:=by omega
  refine au @cE ?_
  exact hR.wk (h':=[(213034,.arr 1 (bc (cL U)))]) (r':=.sl 213034 0 (cL U).length) (ar':=[.undef]) rfl (.le vV) ⟨rfl,rfl,rfl⟩
end Go.Proofs.YtlkmppkcbhodaaaGreatDoor.Ls
