/- The proof, part 27 of 32. -/
import Derived.Test.YthmkimlfnkghmaaGreatDoorOdbUniqueX
import Derived.Test.YthmkimlfnkghmaaGreatDoorOdbUniqueY
import Derived.Test.YthmkimlfnkghmaaGreatDoorOdbUniqueZ
set_option linter.all false
namespace Go.Proofs.YthmkimlfnkghmaaGreatDoor.Ls
open Eng
set_option maxRecDepth 10000
def NewOK (L:List Fi):Prop:=(∀f∈L,cleanP f.1=true)∧StrictF L∧∀f∈L,underF (f.1++[47]) L=[]
def sizeT (fs:List Fi) (k:Nat):Nat:=((fs.take k).map (fun f=>f.2.length)).sum
theorem size_step (fs:List Fi) {k:Nat} (h:k<fs.length):sizeT fs (k+1)=sizeT fs k+(fs.getD k noF).2.length:=by
 unfold sizeT
 rw[take_snoc noF fs h,List.map_append,List.sum_append]
 simp
theorem size_le {fs:List Fi} {B:Nat} (hb:∀f∈fs,f.2.length≤B):∀k,k≤fs.length→sizeT fs k≤k*B
 | 0,_=>by simp[sizeT]
 | k+1,h=>by
  have:=size_le hb k (by omega)
  have:=hb _ (getD_mem noF (by omega:k<fs.length))
  rw[size_step fs (by omega),Nat.succ_mul]
  omega
theorem strict_of_adj:∀{L:List Fi},Srt L→(∀i,i+1<L.length→(L.getD i noF).1≠(L.getD (i+1) noF).1)→StrictF L
 | [],_,_=>.nil
 | [x],_,_=>List.pairwise_singleton _ _
 | x::y::r,hs,ha=>by
  have hs':=List.pairwise_cons.1 hs
  have ih:=strict_of_adj hs'.2 (fun i hi=>by simpa using ha (i+1) (by simpa using hi))
  have h1:fcmp x y≤0:=hs'.1 y (List.mem_cons_self ..)
  have h2:fcmp x y<0:=by
   have hne:x.1≠y.1:=by simpa using ha 0 (by simp)
   by_cases h0:fcmp x y=0
   ·exact absurd (cb_zero h0) hne
   ·omega
  refine List.pairwise_cons.2 ⟨fun z hz=>?_,ih⟩
  rcases List.mem_cons.1 hz with rfl | hz
  ·exact h2
  ·exact cb_lt' h2 ((List.pairwise_cons.1 hs'.2).1 z hz)
theorem strict_adj {L:List Fi} (h:StrictF L) {i:Nat} (hi:i+1<L.length):(L.getD i noF).1≠(L.getD (i+1) noF).1:=by
 have:=List.pairwise_iff_getElem.1 h i (i+1) (by omega) hi (by omega)
 rw[List.getD_eq_getElem?_getD,List.getD_eq_getElem?_getD,List.getElem?_eq_getElem hi,List.getElem?_eq_getElem (by omega:i<L.length)]
 exact cb_ne this
theorem all_mem {α:Type} (d:α) {l:List α} {p:α→Prop} (h:∀j,j<l.length→p (l.getD j d)):∀x∈l,p x:=by
 intro x hx
 obtain⟨j,hj,rfl⟩:=List.mem_iff_getElem.1 hx
 have:=h j hj
 rwa[List.getD_eq_getElem?_getD,List.getElem?_eq_getElem hj]at this
def newP (fs:List Fi):HP→AV→List AV→Prop:=fun h r _=>h=[]∧∃L:List Fi,L.Perm fs∧Srt L∧((NewOK L∧∃n,r=.tup [snapA L n,.int .i64 0])∨(¬NewOK L∧r=.tup [.lit (.pointer none),.int .i64 4]))
set_option maxHeartbeats 2000000 in
theorem snew_ok (fs:List Fi) (hl:fs.length≤200) (hp:∀f∈fs,f.1.length≤140737488351232) (hd:∀f∈fs,f.2.length≤10000):Eng.Spec Tryz.prog 4 [] [.ro 2 (filesA fs)] (newP fs):=by
 refine Cod.snew_spec (fun E R hN hR=>?_)
 simp(disch:=omega)only[go_sem,simprocAttr]
 refine call_win [] (clone_ok fs (by omega)) trivial (fun _=>rfl) ?_
 rintro h' v ar ⟨rfl,rfl,rfl⟩
 simp(disch:=omega)only[go_sem,simprocAttr,filesA_cells,filesA_len,filesA_fl]
 refine vcW_loop hN (fun k:Nat=>⟨[(0,.ro 2 (filesA fs)),(4,.vptr 203014 0),(15,.ro 2 (filesA fs)),(16,.int .i64 fs.length),(17,.int .i64 k)],[(203014,.var [.sl 200005 0 fs.length,.int .i64 (sizeT fs k:Nat)]),(200005,.arr 2 (filesA fs))]⟩)
  (fun k=>k≤fs.length) (fun k=>fs.length-k) 0 (.le (by simp(disch:=omega)only[go_sem,simprocAttr,sizeT,List.take_zero,List.map_nil,List.sum_nil])) (Nat.zero_le _) ?_
 rintro k R1 hk hR1
 by_cases hlt:k<fs.length
 ·have hst:=size_step fs hlt
  have hsb:=size_le hd k hk
  have hxb:=hd _ (getD_mem noF hlt)
  simp(disch:=omega)only[go_sem,simprocAttr,filesA_len,nth_files]
  exact hR1 (k+1) _ (by omega) (by omega) (.le (by rw[hst];simp(disch:=omega)only[go_sem,simprocAttr]))
 ·obtain rfl:k=fs.length:=by omega
  have hsb:=size_le hd fs.length (Nat.le_refl _)
  obtain⟨z,hz⟩:∃z,z=sizeT fs fs.length:=⟨_,rfl⟩
  rw[←hz]at hsb
  have g1:¬(2000:Int)<(fs.length:Int):=by omega
  have g2:¬(4194304:Int)<(z:Int):=by omega
  simp(disch:=omega)only[go_sem,simprocAttr,filesA_len,←hz,g1,g2]
  (repeat(first | refine gskip_of ?_ | refine gcskip_of ?_ | refine gopen_of ?_)<;>simp(disch:=omega)only[go_sem,simprocAttr,filesA_len,←hz,g1,g2])
  refine call_all (n:=2) [4] (by simp(disch:=omega)only[go_sem,simprocAttr]) (by simp(disch:=omega)only[go_sem,simprocAttr]) rfl (sortf_ok 203014 200005 z fs (by decide) (by omega)) ?_
  rintro h' v ar ⟨L,hL,hs,rfl,rfl,rfl⟩
  have hll:=hL.length_eq
  unfold sortH
  simp(disch:=omega)only[go_sem,simprocAttr,filesA_len]
  have hpL:∀f∈L,f.1.length≤140737488351232:=fun f hf=>hp f (hL.mem_iff.1 hf)
  have hsub:sub3 (filesA L) 0 L.length=filesA L:=by
   unfold sub3
   rw[List.drop_zero,List.take_of_length_le (by rw[filesA_len];omega)]
  have bad:∀{h},¬NewOK L→R h (.tup [.lit (.pointer none),.int .i64 4]) [.undef]:=fun h=>hR.ro ⟨rfl,L,hL,hs,.inr ⟨h,rfl⟩⟩
  refine vcW_loop hN (fun k:Nat=>⟨[(4,snapA L z),(50,.ro 2 (filesA L)),(51,.int .i64 L.length),(52,.int .i64 k)],[]⟩)
   (fun k=>k≤L.length∧(∀j,j<k→cleanP (L.getD j noF).1=true)∧∀j,j+1<k→(L.getD j noF).1≠(L.getD (j+1) noF).1) (fun k=>L.length-k) 0
   (.frz 200005 (.frzS 4 203014 [.ro 2 (sub3 (filesA L) 0 L.length),.int .i64 z] rfl rfl rfl (.le (by simp(disch:=omega)only[go_sem,simprocAttr,hsub])))) ⟨Nat.zero_le _,fun j h=>by omega,fun j h=>by omega⟩ ?_
  rintro k R2 ⟨hk,hc,ha⟩ hR2
  by_cases hlt:k<L.length
  ·have hm:=getD_mem noF hlt
   have hpk:=hpL _ hm
   have notc:cleanP (L.getD k noF).1=false→¬NewOK L:=fun h1 h2=>by rw[h2.1 _ hm]at h1;cases h1
   have next:cleanP (L.getD k noF).1=true→(∀j,j+1=k→(L.getD j noF).1≠(L.getD k noF).1)→∀st',Wk st' ⟨[(4,snapA L z),(50,.ro 2 (filesA L)),(51,.int .i64 L.length),(52,.int .i64 ((k+1:Nat):Int))],[]⟩→R2.ap st':=by
    intro h1 h2 st' hw
    refine hR2 (k+1) _ (by omega) ⟨by omega,fun j hj=>?_,fun j hj=>?_⟩ hw
    ·rcases Nat.lt_succ_iff_lt_or_eq.1 hj with h | rfl
     ·exact hc j h
     ·exact h1
    ·rcases Nat.lt_or_ge (j+1) k with h | h
     ·exact ha j h
     ·obtain rfl:j+1=k:=by omega
      exact h2 j rfl
   simp(disch:=omega)only[go_sem,simprocAttr,filesA_len,nth_files]
   refine call_ro (clean_ok _ (by omega)) rfl rfl ?_
   cases hcl:cleanP (L.getD k noF).1 with
   | false=>
    simp(disch:=omega)only[go_sem,simprocAttr,hcl]
    (repeat(first | refine gskip_of ?_ | refine gcskip_of ?_ | refine gopen_of ?_)<;>simp(disch:=omega)only[go_sem,simprocAttr,hcl])
    exact bad (notc hcl)
   | true=>
    by_cases hk0:k=0
    ·subst hk0
     simp(disch:=omega)only[go_sem,simprocAttr,hcl]
     (repeat(first | refine gskip_of ?_ | refine gcskip_of ?_ | refine gopen_of ?_)<;>simp(disch:=omega)only[go_sem,simprocAttr,hcl])
     exact next hcl (fun j hj=>by omega) _ (.le (by simp(disch:=omega)only[go_sem,simprocAttr]))
    ·have hi:(0:Int)<(k:Int):=by omega
     simp(disch:=omega)only[go_sem,simprocAttr,hcl,hi,filesA_len,nth_files]
     (repeat(first | refine gskip_of ?_ | refine gcskip_of ?_ | refine gopen_of ?_)<;>simp(disch:=omega)only[go_sem,simprocAttr,hcl,hi,filesA_len,nth_files])
     refine ifW_dec (fun he=>?_) (fun he=>?_)
     ·simp(disch:=omega)only[go_sem,simprocAttr]
      refine bad (fun hn=>strict_adj hn.2.1 (i:=k-1) (by omega) ?_)
      rw[show k-1+1=k by omega]
      exact he
     ·simp(disch:=omega)only[go_sem,simprocAttr]
      exact next hcl (fun j hj=>by rw[show j=k-1 by omega];exact he) _ (.le (by simp(disch:=omega)only[go_sem,simprocAttr]))
  ·obtain rfl:k=L.length:=by omega
   have hcl:∀f∈L,cleanP f.1=true:=all_mem noF (p:=fun f:Fi=>cleanP f.1=true) hc
   have hst:StrictF L:=strict_of_adj hs ha
   simp(disch:=omega)only[go_sem,simprocAttr,filesA_len]
   refine vcW_loop hN (fun k:Nat=>⟨[(4,snapA L z),(83,.ro 2 (filesA L)),(84,.int .i64 L.length),(85,.int .i64 k)],[]⟩)
    (fun k=>k≤L.length∧∀j,j<k→underF ((L.getD j noF).1++[47]) L=[]) (fun k=>L.length-k) 0 (.le (by simp(disch:=omega)only[go_sem,simprocAttr])) ⟨Nat.zero_le _,fun j h=>by omega⟩ ?_
   rintro k R3 ⟨hk,hu⟩ hR3
   by_cases hlt:k<L.length
   ·have hm:=getD_mem noF hlt
    have hpk:=hpL _ hm
    have hul:=under_len ((L.getD k noF).1++[47]) L
    simp(disch:=omega)only[go_sem,simprocAttr,filesA_len,nth_files]
    refine call_ro (under_ok L z ((L.getD k noF).1++[47]) hs (by omega) (by rw[List.length_append,List.length_singleton];omega) (fun f hf=>by have:=hpL f hf;omega)) rfl rfl ?_
    by_cases h0:underF ((L.getD k noF).1++[47]) L=[]
    ·have h0l:¬(0:Int)<((underF ((L.getD k noF).1++[47]) L).length:Int):=by rw[h0];simp
     simp(disch:=omega)only[go_sem,simprocAttr,strs_len,h0l]
     refine hR3 (k+1) _ (by omega) ⟨by omega,fun j hj=>?_⟩ (.le (by simp(disch:=omega)only[go_sem,simprocAttr]))
     rcases Nat.lt_succ_iff_lt_or_eq.1 hj with h | rfl
     ·exact hu j h
     ·exact h0
    ·have h0l:(0:Int)<((underF ((L.getD k noF).1++[47]) L).length:Int):=by
      have:=List.length_pos_iff.2 h0
      omega
     simp(disch:=omega)only[go_sem,simprocAttr,strs_len,h0l]
     exact bad (fun hn=>h0 (hn.2.2 _ hm))
   ·obtain rfl:k=L.length:=by omega
    simp(disch:=omega)only[go_sem,simprocAttr,filesA_len]
    exact hR.ro ⟨rfl,L,hL,hs,.inl ⟨⟨hcl,hst,all_mem noF (p:=fun f:Fi=>underF (f.1++[47]) L=[]) hu⟩,z,rfl⟩⟩
end Go.Proofs.YthmkimlfnkghmaaGreatDoor.Ls
namespace Go.Proofs.YthmkimlfnkghmaaGreatDoor.Ls
open Eng
set_option maxRecDepth 10000
def digP (c:UInt8):Int:=if 48≤c.toNat∧c.toNat≤57 then(c.toNat:Int)-48 else if 97≤c.toNat∧c.toNat≤102 then(c.toNat:Int)-97+10 else -1
theorem udigit_ok (c:UInt8):SpecR Tryz.prog 78 [.int .u8 (c.toNat:Int)] (.int .i64 (digP c)):=by
 refine Cod.udigit_spec (fun E R hN hR=>?_)
 have hc:=c.toNat_lt
 unfold digP at hR
 by_cases h1:48≤c.toNat
 ·by_cases h2:c.toNat≤57
  ·rw[if_pos ⟨h1,h2⟩]at hR
   simp(disch:=omega)only[go_sem,simprocAttr]
   (repeat(first | refine gskip_of ?_ | refine gcskip_of ?_ | refine gopen_of ?_)<;>simp(disch:=omega)only[go_sem,simprocAttr])
   exact hR.ro ⟨rfl,rfl⟩
  ·rw[if_neg (by omega)]at hR
   by_cases h3:97≤c.toNat
   ·by_cases h4:c.toNat≤102
    ·rw[if_pos ⟨h3,h4⟩]at hR
     simp(disch:=omega)only[go_sem,simprocAttr]
     (repeat(first | refine gskip_of ?_ | refine gcskip_of ?_ | refine gopen_of ?_)<;>simp(disch:=omega)only[go_sem,simprocAttr])
     exact hR.ro ⟨rfl,rfl⟩
    ·rw[if_neg (by omega)]at hR
     simp(disch:=omega)only[go_sem,simprocAttr]
     (repeat(first | refine gskip_of ?_ | refine gcskip_of ?_ | refine gopen_of ?_)<;>simp(disch:=omega)only[go_sem,simprocAttr])
     exact hR.ro ⟨rfl,rfl⟩
   ·rw[if_neg (by omega)]at hR
    simp(disch:=omega)only[go_sem,simprocAttr]
    (repeat(first | refine gskip_of ?_ | refine gcskip_of ?_ | refine gopen_of ?_)<;>simp(disch:=omega)only[go_sem,simprocAttr])
    exact hR.ro ⟨rfl,rfl⟩
 ·rw[if_neg (by omega),if_neg (by omega)]at hR
  simp(disch:=omega)only[go_sem,simprocAttr]
  (repeat(first | refine gskip_of ?_ | refine gcskip_of ?_ | refine gopen_of ?_)<;>simp(disch:=omega)only[go_sem,simprocAttr])
  exact hR.ro ⟨rfl,rfl⟩
def isHex (c:UInt8):Bool:=decide (0≤digP c)
theorem dig_rng {c:UInt8} (h:isHex c=true):∃k:Nat,k<16∧digP c=(k:Int):=by
 have h:=of_decide_eq_true h
 refine⟨(digP c).toNat,?_,by omega⟩
 unfold digP at h ⊢
 split
 ·omega
 ·split
  ·omega
  ·rename_i h1 h2;rw[if_neg h1,if_neg h2]at h;omega
theorem hex_or:∀a:Nat,a<16→∀b:Nat,b<16→bits .or .i64 (IntKind.i64.wrap ((a:Int)*2^min 4 64)) (b:Int)=((16*a+b:Nat):Int):=by decide +kernel
def hexOK (s:Bs):Bool:=s.all isHex&&decide (s.length%2=0)
theorem unhex_ok (s:Bs) (hs:s.length≤140737488351232):Eng.Spec Tryz.prog 43 [] [.str s] (fun h r _=>h=[]∧∃o:Bs,r=.tup [.str o,.bool (hexOK s)]):=by
 refine Cod.unhex_spec (fun E R hN hR=>?_)
 simp(disch:=omega)only[go_sem,simprocAttr]
 refine vcW_loop hN (fun o:Bs=>⟨[(0,.str s),(4,.sl 206037 0 o.length),(5,.int .i64 ((2*o.length:Nat):Int))],[(206037,.arr 1 (o.map ub))]⟩) (fun o=>2*o.length≤s.length∧(s.take (2*o.length)).all isHex=true) (fun o=>s.length-2*o.length) []
  (.nil 4 206037 1 rfl (.le (by simp(disch:=omega)only[go_sem,simprocAttr,List.map_nil,List.length_nil]))) ⟨by simp,by simp⟩ ?_
 rintro o R1 ⟨ho,hall⟩ hR1
 obtain⟨k,hk⟩:∃k,k=o.length:=⟨_,rfl⟩
 rw[←hk]at ho hall
 have bad:∀{h} {j:Nat},j<s.length→isHex (s.getD j 0)=false→R h (.tup [.str [],.bool false]) [.undef]:=fun h1 h2=>hR.ro ⟨rfl,[],by rw[hexOK,not_all (getD_mem 0 h1) h2];rfl⟩
 by_cases hlt:2*k+1<s.length
 ·have t1:=take_snoc 0 s (by omega:2*k<s.length)
  have t2:=take_snoc 0 s hlt
  have ei1:(2*(k:Int)).toNat=2*k:=by omega
  have ei2:(2*(k:Int)+1).toNat=2*k+1:=by omega
  have hi:2*(k:Int)+1<(s.length:Int):=by omega
  have d1:=udigit_ok (s.getD (2*k) 0)
  have d2:=udigit_ok (s.getD (2*k+1) 0)
  have bad1:=fun h=>bad (h:=h) (by omega:2*k<s.length)
  have bad2:=fun h=>bad (h:=h) hlt
  rw[←hk]
  have hkl:(o.map ub).length=k:=by rw[List.length_map,hk]
  have hsub:sub3 (o.map ub) 0 k=o.map ub:=by
   unfold sub3
   rw[List.drop_zero,List.take_of_length_le (by omega)]
  simp(disch:=omega)only[go_sem,simprocAttr,hi,ei1,ei2]
  refine call_ro d1 rfl rfl ?_
  simp(disch:=omega)only[go_sem,simprocAttr]
  refine call_ro d2 rfl rfl ?_
  generalize s.getD (2*k) 0=a at *
  generalize s.getD (2*k+1) 0=b at *
  cases ha:isHex a with
  | false=>
   have h0:digP a<0:=by have:=of_decide_eq_false ha;omega
   simp(disch:=omega)only[go_sem,simprocAttr,h0]
   (repeat(first | refine gskip_of ?_ | refine gcskip_of ?_ | refine gopen_of ?_)<;>simp(disch:=omega)only[go_sem,simprocAttr,h0])
   exact bad1 _ ha
  | true=>
   obtain⟨x,hx,ex⟩:=dig_rng ha
   cases hb:isHex b with
   | false=>
    have h0:digP b<0:=by have:=of_decide_eq_false hb;omega
    have h1:¬(x:Int)<0:=by omega
    rw[ex]
    simp(disch:=omega)only[go_sem,simprocAttr,h0,h1]
    (repeat(first | refine gskip_of ?_ | refine gcskip_of ?_ | refine gopen_of ?_)<;>simp(disch:=omega)only[go_sem,simprocAttr,h0,h1])
    exact bad2 _ hb
   | true=>
    obtain⟨y,hy,ey⟩:=dig_rng hb
    have h1:¬(x:Int)<0:=by omega
    have h2:¬(y:Int)<0:=by omega
    have h3:=hex_or x hx y hy
    rw[ex,ey]
    simp(disch:=omega)only[go_sem,simprocAttr,h1,h2,h3]
    (repeat(first | refine gskip_of ?_ | refine gcskip_of ?_ | refine gopen_of ?_)<;>simp(disch:=omega)only[go_sem,simprocAttr,h1,h2,h3])
    have hl1:(o++[UInt8.ofNat (16*x+y)]).length=k+1:=by rw[List.length_append,←hk];rfl
    refine hR1 (o++[UInt8.ofNat (16*x+y)]) _ (by omega) ⟨by omega,?_⟩ (.le (by rw[hl1,show 2*(k+1)=2*k+2 by omega];simp(disch:=omega)only[go_sem,simprocAttr]))
    rw[hl1,show 2*(k+1)=2*k+1+1 by omega,t2,t1,List.all_append,List.all_append,hall]
    simp[ha,hb]
 ·have hi:¬2*(k:Int)+1<(s.length:Int):=by omega
  rw[←hk]
  by_cases he:s.length=2*k
  ·have e1:s.take (2*k)=s:=List.take_of_length_le (by omega)
   rw[e1]at hall
   have hm:(s.length:Int)=2*(k:Int):=by omega
   simp(disch:=omega)only[go_sem,simprocAttr,hi]
   exact hR.ro ⟨rfl,o,by rw[hexOK,hall,decide_eq_true (by omega)];rfl⟩
  ·simp(disch:=omega)only[go_sem,simprocAttr,hi]
   exact hR.ro ⟨rfl,[],by rw[hexOK,decide_eq_false (by omega)];simp⟩
def idB (s:Bs):Bool:=hexOK s&&decide (s.length=40)
theorem sid_ok (s:Bs) (hs:s.length≤140737488351232):SpecR Tryz.prog 19 [.str s] (.bool (idB s)):=by
 refine Cod.sid_spec (fun E R hN hR=>?_)
 simp(disch:=omega)only[go_sem,simprocAttr]
 refine call_ro' (unhex_ok s hs) rfl ?_
 rintro h' v ar ⟨rfl,o,rfl⟩
 refine⟨rfl,rfl,?_⟩
 unfold idB at hR
 cases hx:hexOK s with
 | false=>
  rw[hx]at hR
  simp(disch:=omega)only[go_sem,simprocAttr]
  (repeat(first | refine gskip_of ?_ | refine gcskip_of ?_ | refine gopen_of ?_)<;>simp(disch:=omega)only[go_sem,simprocAttr])
  exact hR.ro ⟨rfl,rfl⟩
 | true=>
  rw[hx]at hR
  by_cases h40:s.length=40
  ·have hi:(s.length:Int)=40:=by omega
   rw[decide_eq_true h40]at hR
   simp(disch:=omega)only[go_sem,simprocAttr,hi]
   (repeat(first | refine gskip_of ?_ | refine gcskip_of ?_ | refine gopen_of ?_)<;>simp(disch:=omega)only[go_sem,simprocAttr,hi])
   exact hR.ro ⟨rfl,rfl⟩
  ·have hi:¬(s.length:Int)=40:=by omega
   rw[decide_eq_false h40]at hR
   simp(disch:=omega)only[go_sem,simprocAttr,hi]
   (repeat(first | refine gskip_of ?_ | refine gcskip_of ?_ | refine gopen_of ?_)<;>simp(disch:=omega)only[go_sem,simprocAttr,hi])
   exact hR.ro ⟨rfl,rfl⟩
def objB:Bs:=[111,98,106,101,99,116,115,47]
def pathP (s:Bs):Bs:=objB++s.take 2++[47]++s.drop 2
theorem path_len {s:Bs} (h:idB s=true):s.length=40∧(pathP s).length=49:=by
 have h40:s.length=40:=by
  unfold idB at h
  rw[Bool.and_eq_true]at h
  exact of_decide_eq_true h.2
 refine⟨h40,?_⟩
 unfold pathP objB
 simp[h40]
theorem lpath_ok (s:Bs) (hs:s.length≤140737488351232):SpecR Tryz.prog 47 [.str s] (if idB s=true then .tup [.str (pathP s),.int .i64 0]else .tup [.str [],.int .i64 4]):=by
 refine Cod.lpath_spec (fun E R hN hR=>?_)
 simp(disch:=first | omega | (simp only[Lx];omega))only[go_sem,simprocAttr]
 refine call_ro (sid_ok s hs) rfl rfl ?_
 cases hx:idB s with
 | false=>
  rw[hx]at hR
  simp(disch:=first | omega | (simp only[Lx];omega))only[go_sem,simprocAttr]
  exact hR.ro ⟨rfl,rfl⟩
 | true=>
  rw[hx]at hR
  have h40:=(path_len hx).1
  simp(disch:=first | omega | (simp only[Lx];omega))only[go_sem,simprocAttr,h40]
  exact hR.ro ⟨rfl,by rw[if_pos rfl,pathP,objB];simp⟩
end Go.Proofs.YthmkimlfnkghmaaGreatDoor.Ls
namespace Go.Proofs.YthmkimlfnkghmaaGreatDoor.Ls
open Eng
set_option maxRecDepth 10000
theorem replK_len (old:Bs):∀(k:Nat) (s:Bs),(Lib.replaceK old [] k s).length≤s.length
 | 0,s=>Nat.le_refl _
 | k+1,s=>by
  have ih:=replK_len old k (s.drop ((Lib.index s old).toNat+old.length))
  rw[List.length_drop]at ih
  unfold Lib.replaceK
  split
  ·exact Nat.le_refl _
  ·rw[List.length_append,List.length_append,List.length_take,List.length_nil]
   omega
def nameP (p:Bs):Bs:=Lib.replace (p.drop 8) [47] [] 1
theorem name_len (p:Bs):(nameP p).length≤p.length:=by
 have h:(nameP p).length≤(p.drop 8).length:=by
  unfold nameP Lib.replace
  rw[if_neg (by decide)]
  exact replK_len _ _ _
 rw[List.length_drop]at h;omega
theorem cell_of0 {w:World} {g:Nat} {v:Value} {cs:Array Value} {t:TypeId} {fz:Nat×Nat} (hw:w.heap[g]?=some (.cells cs t fz)) (h:cs[0]?=some v):w.cell? ⟨g,0,none⟩=some v:=by
 simp[World.cell?,hw,h]
theorem replace_ok (s:Bs) (hs:s.length≤1000):SpecR Tryz.prog 46 [.str s,.str [47],.str [],.int .i64 1] (.str (Lib.replace s [47] [] 1)):=by
 refine spec_belowA rfl rfl (fun w hA=>?_)
 obtain⟨cs,t,fz,g1,m,g2⟩:=hA (0,_) (by unfold glist;simp only[List.nil_append,List.cons_append,List.mem_cons];exact .inr (.inr (.inr (.inl rfl))))
 have hz:(⟨s.toArray⟩:ByteArray).size=s.length:=by simp[ByteArray.size]
 exact Tryz.strings_Replace ⟨s.toArray⟩ ⟨#[47]⟩ ⟨#[]⟩ 1 m w (by rw[hz];omega) (cell_of0 g1 g2) (by decide) (by rw[hz];show s.length+_*0≤_;omega)
def isNameP (p:Bs):Bool:=idB (nameP p)&&decide (pathP (nameP p)=p)
def listP (ps:List Bs):List Bs:=(ps.filter isNameP).map nameP
theorem list_yes (ps:List Bs) {p:Bs} (h:isNameP p=true):listP (ps++[p])=listP ps++[nameP p]:=by
 unfold listP;rw[List.filter_append,List.filter_cons_of_pos h,List.filter_nil,List.map_append];rfl
theorem list_no (ps:List Bs) {p:Bs} (h:isNameP p=false):listP (ps++[p])=listP ps:=by
 unfold listP;rw[List.filter_append,List.filter_cons_of_neg (by rw[h];simp),List.filter_nil,List.append_nil]
theorem list_len (ps:List Bs):(listP ps).length≤ps.length:=by
 unfold listP;rw[List.length_map];exact List.length_filter_le ..
theorem list_mem {ps:List Bs} {x:Bs} (h:x∈listP ps):x.length=40:=by
 obtain⟨p,hp,rfl⟩:=List.mem_map.1 h
 have:=(List.mem_filter.1 hp).2
 unfold isNameP at this
 rw[Bool.and_eq_true]at this
 exact(path_len this.1).1
set_option maxHeartbeats 1000000 in
theorem llist_ok (L:List Fi) (n:Nat) (hs:Srt L) (hl:L.length≤100000) (hc:∀f∈L,f.1.length≤200) :
    Eng.Spec Tryz.prog 26 [] [snapA L n] (fun h r ar=>h=[(213034,.arr 1 (strsA (listP (underF objB L))))]∧r=.sl 213034 0 (listP (underF objB L)).length∧ar=[.undef]):=by
 refine Cod.llist_spec (fun E R hN hR=>?_)
 simp(disch:=first | omega | (simp only[Lx];omega))only[go_sem,simprocAttr]
 refine call_ro (under_ok L n objB hs hl (by decide) (fun f hf=>by have:=hc f hf;omega)) rfl rfl ?_
 have hul:=under_len objB L
 have hum:∀p∈underF objB L,p.length≤200∧8≤p.length:=fun p hp=>by
  obtain⟨h1,f,hf,h2⟩:=under_mem hp
  exact⟨by rw[←h2];exact hc f hf,beg_len h1⟩
 generalize underF objB L=U at *
 simp(disch:=first | omega | (simp only[Lx];omega))only[go_sem,simprocAttr,strs_len]
 refine vcW_loop hN (fun k:Nat=>⟨[(3,.sl 213034 0 (listP (U.take k)).length),(10,.ro 1 (strsA U)),(11,.int .i64 U.length),(12,.int .i64 k)],[(213034,.arr 1 (strsA (listP (U.take k))))]⟩) (fun k=>k≤U.length) (fun k=>U.length-k) 0
  (.nil 3 213034 1 rfl (.le (by simp(disch:=first | omega | (simp only[Lx];omega))only[go_sem,simprocAttr,List.take_zero,strs_nil,show listP []=[]from rfl,List.length_nil]))) (Nat.zero_le _) ?_
 rintro k R1 hk hR1
 by_cases hlt:k<U.length
 ·obtain⟨h1,h2⟩:=hum _ (getD_mem [] hlt)
  have hsn:=take_snoc [] U hlt
  have hsl:=list_len (U.take k)
  rw[List.length_take]at hsl
  have hpl:=name_len (U.getD k [])
  have hr:=replace_ok ((U.getD k []).drop 8) (by rw[List.length_drop];omega)
  have hpa:=lpath_ok (nameP (U.getD k [])) (by omega)
  have hi:(8:Int)≤((U.getD k []).length:Int):=by omega
  have nx:isNameP (U.getD k [])=false→∀st',Wk st' ⟨[(3,.sl 213034 0 (listP (U.take k)).length),(10,.ro 1 (strsA U)),(11,.int .i64 U.length),(12,.int .i64 ((k+1:Nat):Int))],[(213034,.arr 1 (strsA (listP (U.take k))))]⟩→R1.ap st':=fun hno st' hw=>
   hR1 (k+1) _ (by omega) (by omega) (by rw[hsn,list_no _ hno];exact hw)
  obtain⟨O,hO⟩:∃O,O=listP (U.take k):=⟨_,rfl⟩
  rw[←hO]at hsl nx
  have ny:isNameP (U.getD k [])=true→∀st',Wk st' ⟨[(3,.sl 213034 0 (O++[nameP (U.getD k [])]).length),(10,.ro 1 (strsA U)),(11,.int .i64 U.length),(12,.int .i64 ((k+1:Nat):Int))],[(213034,.arr 1 (strsA (O++[nameP (U.getD k [])])))]⟩→R1.ap st':=fun hy st' hw=>
   hR1 (k+1) _ (by omega) (by omega) (by rw[hsn,list_yes _ hy,←hO];exact hw)
  unfold nameP at hpa ny
  unfold isNameP nameP at nx ny
  rw[←hO]
  have hsub:sub3 (strsA O) 0 O.length=strsA O:=by
   unfold sub3
   rw[List.drop_zero,List.take_of_length_le (by rw[strs_len];omega)]
  simp(disch:=first | omega | (simp only[Lx];omega))only[go_sem,simprocAttr,strs_len,nth_strs,hi]
  refine call_ro hr rfl rfl ?_
  obtain⟨m,hm⟩:∃m,m=Lib.replace ((U.getD k []).drop 8) [47] [] 1:=⟨_,rfl⟩
  rw[←hm]at nx ny hpa
  rw[←hm]
  clear hm hr
  simp(disch:=first | omega | (simp only[Lx];omega))only[go_sem,simprocAttr]
  cases hid:idB m with
  | false=>
   rw[hid]at hpa
   refine call_ro hpa rfl rfl ?_
   simp(disch:=first | omega | (simp only[Lx];omega))only[go_sem,simprocAttr]
   (repeat(first | refine gskip_of ?_ | refine gcskip_of ?_ | refine gopen_of ?_)<;>simp(disch:=first | omega | (simp only[Lx];omega))only[go_sem,simprocAttr])
   exact nx (by rw[hid];rfl) _ (.le (by simp(disch:=first | omega | (simp only[Lx];omega))only[go_sem,simprocAttr]))
  | true=>
   rw[hid]at hpa
   refine call_ro hpa rfl rfl ?_
   by_cases he:pathP m=U.getD k []
   ·simp(disch:=first | omega | (simp only[Lx];omega))only[go_sem,simprocAttr,he]
    (repeat(first | refine gskip_of ?_ | refine gcskip_of ?_ | refine gopen_of ?_)<;>simp(disch:=first | omega | (simp only[Lx];omega))only[go_sem,simprocAttr,he])
    rw[hsub,strs_app]
    exact⟨⟨strs_cells,by omega⟩,ny (by rw[hid,decide_eq_true he];rfl) _ (.le (by rw[List.length_append,List.length_singleton];simp(disch:=first | omega | (simp only[Lx];omega))only[go_sem,simprocAttr]))⟩
   ·simp(disch:=first | omega | (simp only[Lx];omega))only[go_sem,simprocAttr,he]
    (repeat(first | refine gskip_of ?_ | refine gcskip_of ?_ | refine gopen_of ?_)<;>simp(disch:=first | omega | (simp only[Lx];omega))only[go_sem,simprocAttr,he])
    exact nx (by rw[hid,decide_eq_false he];rfl) _ (.le (by simp(disch:=first | omega | (simp only[Lx];omega))only[go_sem,simprocAttr]))
 ·obtain rfl:k=U.length:=by omega
  simp(disch:=first | omega | (simp only[Lx];omega))only[go_sem,simprocAttr,strs_len]
  exact hR.wk (h':=[(213034,.arr 1 (strsA (listP U)))]) (r':=.sl 213034 0 (listP U).length) (ar':=[.undef]) rfl (.le (by simp(disch:=first | omega | (simp only[Lx];omega))only[go_sem,simprocAttr])) ⟨rfl,rfl,rfl⟩
end Go.Proofs.YthmkimlfnkghmaaGreatDoor.Ls
