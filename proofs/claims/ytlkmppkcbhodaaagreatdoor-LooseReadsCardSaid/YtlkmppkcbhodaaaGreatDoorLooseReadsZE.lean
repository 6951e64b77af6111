/- The proof, part 31 of 32. -/
import Derived.Test.YtlkmppkcbhodaaaGreatDoorLooseReadsZD
import Derived.Lib.SplitLaws
set_option linter.all false
namespace Go.Proofs.YtlkmppkcbhodaaaGreatDoor.Ls
open Eng
set_option maxRecDepth 10000
theorem j5:∀a b:Bs,Op.bytesLess a b=decide (Lib.compareBytes a b = -1)
 | [],[]=>rfl
 | [],_::_=>rfl
 | _::_,[]=>rfl
 | x::r,y::t=>by
  have ih:=j5 r t
  rw[Op.bytesLess,Lib.compareBytes,ih]
  by_cases h1:x<y
  ·simp[h1]
  ·by_cases h2:y<x
   ·have:¬x=y:=fun e=>by subst e;exact h1 h2
    simp[h1,h2,this]
   ·have:x=y:=by
     simp only[UInt8.lt_iff_toNat_lt]at h1 h2
     exact UInt8.toNat.inj (by omega)
    simp[this]
def putP (s:Bs):List Bs→List Bs
 | []=>[s]
 | x::r=>if x=s then x::r else if Op.bytesLess s x=true then s::x::r else x::putP s r
def kx (l:List Bs):Prop:=l.Pairwise (fun a b=>Lib.compareBytes a b<0)
theorem r4 (s y:Bs):∀l:List Bs,y∈putP s l↔y=s∨y∈l
 | []=>by simp[putP]
 | x::r=>by
  have ih:=r4 s y r
  unfold putP
  split
  ·rename_i h;subst h;simp
  ·split
   ·simp
   ·rw[List.mem_cons,ih,List.mem_cons]
    constructor
    ·rintro(h | h | h)<;>simp[h]
    ·rintro(h | h | h)<;>simp[h]
theorem yz (s:Bs):∀{l:List Bs},kx l→kx (putP s l)
 | [],_=>List.pairwise_singleton _ _
 | x::r,h=>by
  have h':=List.pairwise_cons.1 h
  unfold putP
  split
  ·exact h
  ·rename_i hne
   split
   ·rename_i hl
    rw[j5,decide_eq_true_eq]at hl
    refine List.pairwise_cons.2 ⟨fun y hy=>?_,h⟩
    rcases List.mem_cons.1 hy with rfl | hy
    ·omega
    ·have:=h'.1 y hy
     exact qu (by omega) this
   ·rename_i hl
    rw[j5,decide_eq_true_eq]at hl
    refine List.pairwise_cons.2 ⟨fun y hy=>?_,yz s h'.2⟩
    rcases(r4 s y r).1 hy with rfl | hy
    ·have h1:=qv y x
     have h2:=ga y x
     have h3:Lib.compareBytes y x≠0:=fun h=>hne (jS h).symm
     omega
    ·exact h'.1 y hy
def dX (t:Bs) (fs:List Fi):List Bs:=((fs.filter (fun f=>bH t f.1)).map (·.1)).foldl (fun o p=>putP p o) []
theorem vO (y:Bs):∀(l acc:List Bs),y∈l.foldl (fun o p=>putP p o) acc↔y∈acc∨y∈l
 | [],acc=>by simp
 | p::r,acc=>by
  rw[List.foldl_cons,vO y r,r4,List.mem_cons]
  constructor
  ·rintro((h | h) | h)<;>simp[h]
  ·rintro(h | h | h)<;>simp[h]
theorem vP:∀(l:List Bs) {acc:List Bs},kx acc→kx (l.foldl (fun o p=>putP p o) acc)
 | [],_,h=>h
 | p::r,_,h=>vP r (yz p h)
theorem A7:∀{a b:List Bs},kx a→kx b→(∀x,x∈a↔x∈b)→a=b
 | [],[],_,_,_=>rfl
 | [],y::b,_,_,h=>by have:=(h y).2 (List.mem_cons_self ..);simp at this
 | x::a,[],_,_,h=>by have:=(h x).1 (List.mem_cons_self ..);simp at this
 | x::a,y::b,ha,hb,h=>by
  have ha':=List.pairwise_cons.1 ha
  have hb':=List.pairwise_cons.1 hb
  have hxy:x=y:=by
   rcases List.mem_cons.1 ((h x).1 (List.mem_cons_self ..))with e | h1
   ·exact e
   ·rcases List.mem_cons.1 ((h y).2 (List.mem_cons_self ..))with e | h2
    ·exact e.symm
    ·have e1:=hb'.1 x h1
     have e2:=ha'.1 y h2
     have:=ga x y
     omega
  subst hxy
  have hno:∀{l:List Bs},(∀z∈l,Lib.compareBytes x z<0)→x∉l:=fun h1 h2=>by
   have:=h1 x h2
   rw[lL]at this
   omega
  rw[A7 ha'.2 hb'.2 (fun z=>by
   have hz:=h z
   rw[List.mem_cons,List.mem_cons]at hz
   constructor
   ·intro hm
    rcases hz.1 (.inr hm)with e | h1
    ·exact absurd (e▸hm) (hno ha'.1)
    ·exact h1
   ·intro hm
    rcases hz.2 (.inr hm)with e | h1
    ·exact absurd (e▸hm) (hno hb'.1)
    ·exact h1)]
theorem qj (a b:UInt8) (t s:Bs):bH (a::t) (b::s)=(decide (a=b)&&bH t s):=by
 unfold bH
 by_cases h:a=b
 ·subst h
  simp
 ·have h':¬b=a:=fun e=>h e.symm
  simp[h,h']
theorem D5 (s:Bs):bH [] s=true:=by simp[bH]
theorem tP (a:UInt8) (t:Bs):bH (a::t) []=false:=by simp[bH]
theorem tN:∀{t s:Bs},bH t s=true→Lib.compareBytes t s≤0
 | [],[],_=>by simp[Lib.compareBytes]
 | [],_::_,_=>by simp[Lib.compareBytes]
 | a::t,[],h=>by rw[tP]at h;cases h
 | a::t,b::s,h=>by
  rw[qj,Bool.and_eq_true,decide_eq_true_eq]at h
  obtain⟨rfl,h⟩:=h
  have:=tN h
  simpa[Lib.compareBytes,UInt8.lt_iff_toNat_lt]using this
theorem tM:∀{t y z:Bs},Lib.compareBytes t y≤0→Lib.compareBytes y z≤0→bH t z=true→bH t y=true
 | [],y,_,_,_,_=>D5 y
 | a::t,y,[],_,_,h=>by rw[tP]at h;cases h
 | a::t,[],z::zs,h,_,_=>by simp[Lib.compareBytes]at h
 | a::t,c::y,b::z,h1,h2,h3=>by
  rw[qj,Bool.and_eq_true,decide_eq_true_eq]at h3
  obtain⟨rfl,h3⟩:=h3
  simp only[Lib.compareBytes,UInt8.lt_iff_toNat_lt]at h1 h2
  by_cases hc:a.toNat=c.toNat
  ·have hc:=UInt8.toNat.inj hc
   subst hc
   simp only[Nat.lt_irrefl,if_false]at h1 h2
   rw[qj,decide_eq_true rfl,Bool.true_and]
   exact tM h1 h2 h3
  ·exfalso
   split at h1
   ·rename_i h
    rw[if_neg (by omega),if_pos h]at h2
    omega
   ·rw[if_pos (by omega)]at h1
    omega
theorem Bp (t:Bs):∀{L:List Fi},gL L→(∀f∈L,Lib.compareBytes t f.1≤0)→L.takeWhile (fun f=>bH t f.1)=L.filter (fun f=>bH t f.1)
 | [],_,_=>rfl
 | x::r,hs,hg=>by
  have hs':=List.pairwise_cons.1 hs
  rw[List.takeWhile_cons]
  by_cases h:bH t x.1=true
  ·rw[if_pos h,List.filter_cons_of_pos (p:=fun f:Fi=>bH t f.1) h,Bp t hs'.2 (fun f hf=>hg f (List.mem_cons_of_mem _ hf))]
  ·rw[if_neg h,List.filter_cons_of_neg (p:=fun f:Fi=>bH t f.1) h,eq_comm,List.filter_eq_nil_iff]
   intro y hy hb
   have h1:=hs'.1 y hy
   exact h (tM (hg x (List.mem_cons_self ..)) (by unfold cg at h1;omega) hb)
theorem BA (t:Bs):∀{L:List Fi},gL L→cF t L=(L.filter (fun f=>bH t f.1)).map (·.1)
 | [],_=>rfl
 | x::r,hs=>by
  have hs':=List.pairwise_cons.1 hs
  by_cases h:Lib.compareBytes x.1 t<0
  ·have ih:=BA t hs'.2
   have hno:¬bH t x.1=true:=fun hb=>by
    have h1:=tN hb
    have:=ga x.1 t
    omega
   rw[List.filter_cons_of_neg (p:=fun f:Fi=>bH t f.1) hno,←ih]
   unfold cF
   rw[show posF t (x::r)=posF t r+1 by simp only[posF];rw[if_pos h],List.drop_succ_cons]
  ·have hge:∀f∈x::r,Lib.compareBytes t f.1≤0:=fun f hf=>by
    have h0:Lib.compareBytes t x.1≤0:=by have:=ga x.1 t;omega
    rcases List.mem_cons.1 hf with rfl | hf
    ·exact h0
    ·have h1:=hs'.1 f hf
     exact lM _ _ _ h0 (by unfold cg at h1;omega)
   unfold cF
   rw[show posF t (x::r)=0 by simp only[posF];rw[if_neg h],List.drop_zero,Bp t hs hge]
theorem ast {L fs:List Fi} (hs:gL L) (hp:L.Perm fs) (t:Bs):dX t fs=cF t L:=by
 rw[BA t hs]
 refine A7 (vP _ .nil) ?_ (fun x=>?_)
 ·exact List.pairwise_map.2 ((List.Pairwise.filter _ hs).imp (fun h=>h))
 ·unfold dX
  rw[vO]
  simp only[List.not_mem_nil,false_or,List.mem_map,List.mem_filter]
  constructor
  ·rintro⟨f,⟨h1,h2⟩,rfl⟩;exact⟨f,⟨hp.mem_iff.2 h1,h2⟩,rfl⟩
  ·rintro⟨f,⟨h1,h2⟩,rfl⟩;exact⟨f,⟨hp.mem_iff.1 h1,h2⟩,rfl⟩
def fq (p:Bs):Bs:=(p.drop 8).take 2++p.drop 11
def fL (p:Bs):Bool:=decide (p.length=49)&&decide (p.getD 10 0=47)&&dr (fq p)
theorem wo {c:UInt8} (h:fv c=true):c≠47:=fun e=>by subst e;exact absurd h (by decide)
theorem ald {a b:UInt8} {m:Bs} (ha:a≠47) (hb:b≠47):Lib.replace (a::b::47::m) [47] [] 1=a::b::m:=by
 have hi:Lib.index (a::b::47::m) [47]=((2:Nat):Int):=by
  rw[Lib.index_one]
  simp[Lib.indexByte,ha,hb]
 have hc:Lib.count (a::b::47::m) [47]=m.count 47+1:=by
  rw[Lib.count_one]
  simp[List.count_cons,ha,hb]
 unfold Lib.replace
 rw[if_neg (by decide)]
 have hn:Lib.replaceNum (a::b::47::m) [47] 1=1:=by
  unfold Lib.replaceNum
  rw[hc,if_neg (by omega)];rfl
 rw[hn,Lib.replaceK_hit _ _ _ _ 2 hi]
 rfl
theorem Hk {p:Bs} (h:bH bU p=true):fL p=gA p∧(fL p=true→fq p=bt p):=by
 have h1:gA p=true→fL p=true:=fun hn=>by
  unfold gA at hn
  rw[Bool.and_eq_true,decide_eq_true_eq]at hn
  obtain⟨h2,h3⟩:=hn
  have h40:=(mi h2).1
  generalize bt p=n at *
  match n,h40 with
  | a::b::m,h40=>
   have hc:fq (dM (a::b::m))=a::b::m:=by simp[fq,dM,bU]
   rw[←h3]
   unfold fL
   rw[hc,h2]
   have hm:m.length=38:=by simpa using h40
   simp[dM,bU,hm]
 have h2:fL p=true→gA p=true∧fq p=bt p:=fun hc=>by
  unfold fL at hc
  rw[Bool.and_eq_true,Bool.and_eq_true,decide_eq_true_eq,decide_eq_true_eq]at hc
  obtain⟨⟨hl,hg⟩,hid⟩:=hc
  have ht:p.take 8=bU:=(of_decide_eq_true h).2
  have hp:p=bU++p.drop 8:=by rw[←ht];exact(List.take_append_drop 8 p).symm
  have hq:(p.drop 8).length=41:=by rw[List.length_drop];omega
  generalize p.drop 8=q at *
  subst hp
  match q,hq with
  | a::b::c::m,hq=>
   have hc:c=47:=by simpa[bU]using hg
   subst hc
   have hcut:fq (bU++a::b::47::m)=a::b::m:=by simp[fq,bU]
   rw[hcut]at hid ⊢
   have hx:(a::b::m).all fv=true:=by
    unfold dr gW at hid
    rw[Bool.and_eq_true,Bool.and_eq_true]at hid
    exact hid.1.1
   simp only[List.all_cons,Bool.and_eq_true]at hx
   have hn:bt (bU++a::b::47::m)=a::b::m:=by
    unfold bt
    rw[show(bU++a::b::47::m).drop 8=a::b::47::m from rfl]
    exact ald (wo hx.1) (wo hx.2.1)
   refine⟨?_,hn.symm⟩
   unfold gA
   rw[hn,hid]
   simp[dM]
 refine⟨?_,fun hc=>(h2 hc).2⟩
 cases hc:fL p with
 | true=>exact(h2 hc).1.symm
 | false=>
  cases hn:gA p with
  | true=>rw[h1 hn]at hc;cases hc
  | false=>rfl
def eS (ps:List Bs):List Bs:=(ps.filter fL).map fq
theorem xB:∀{ps:List Bs},(∀p∈ps,bH bU p=true)→eS ps=cL ps
 | [],_=>rfl
 | p::r,h=>by
  obtain⟨h1,h2⟩:=Hk (h p (List.mem_cons_self ..))
  have ih:=xB (ps:=r) (fun q hq=>h q (List.mem_cons_of_mem _ hq))
  unfold eS cL at ih ⊢
  cases hc:fL p with
  | true=>
   rw[List.filter_cons_of_pos hc,List.filter_cons_of_pos (by rw[←h1];exact hc),List.map_cons,List.map_cons,ih,h2 hc]
  | false=>
   rw[List.filter_cons_of_neg (by rw[hc];simp),List.filter_cons_of_neg (by rw[←h1,hc];simp),ih]
def cH (p:Bs) (fs:List Fi):Option Bs:=((fs.filter (fun f=>decide (f.1=p))).map (·.2)).head?
theorem J0 {L fs:List Fi} (hs:gL L) (hp:L.Perm fs) (p:Bs):cH p fs=getF p L:=by
 unfold cH
 rw[Zj hp hs p]
 cases getF p L<;>rfl
theorem Us (s:Bs) (h:Ob.fg s≠0):Ob.bt (Ob.fg s)≠[]:=by
 unfold Ob.fg at h ⊢
 (repeat' split)<;>first | decide | skip
 simp_all
theorem HR {s:Bs} (h:(Ob.fa s).2.2=0):Ob.eD (Ob.fa s).1 (Ob.fa s).2.1=0:=by
 unfold Ob.fa at h ⊢
 split at h
 ·simp at h
 ·split at h
  ·simp at h
  ·split at h
   ·simp at h
   ·split at h
    ·simp at h
    ·split at h
     ·simp at h
     ·rename_i h1 h2 h3 h4 h5
      rw[if_neg h1,if_neg h2,if_neg h3,if_neg h4,if_neg h5]
      simp only
      unfold Ob.eD
      rw[if_neg (Us _ h2),if_neg (by omega)]
def mg (id:Bs) (x:Int×Bs×Int):Int×Bs×Int:=if x.2.2≠0 then(0,[],x.2.2)else if Sh.dI (Sh.fS (Ob.fD x.1 x.2.1))=id then(x.1,x.2.1,0)else(0,[],5)
theorem BD {s:Bs} (h:(cU s).2.2=0):Ob.eD (cU s).1 (cU s).2.1=0:=by
 unfold cU at h ⊢
 split at h
 ·rename_i h1
  exact absurd (Int.natCast_eq_zero.1 h) h1
 ·split at h
  ·simp at h
  ·rename_i h1 h2
   rw[if_neg h1,if_neg h2]
   exact HR h
theorem Y5 (id s:Bs):mg id (cU s)=mh id (cU s):=by
 unfold mg mh
 by_cases h:(cU s).2.2=0
 ·have h':¬(cU s).2.2≠0:=fun h'=>h' h
  rw[if_neg h',if_neg h']
  unfold lY
  rw[if_pos (BD h)]
 ·rw[if_pos h,if_pos h]
open Eng Ob Pk
set_option maxRecDepth 10000
theorem ahw (s t:Bs) (hs:s.length≤9223372036854775807) (ht:t.length≤9223372036854775807):aM Tryz.prog 85 [.str s,.str t] (.bool (bH t s)):=by
 refine Cod.ahx (fun E R hN hR=>?_)
 by_cases h:t.length≤s.length
 ·have hi:(t.length:Int)≤(s.length:Int):=by omega
  refine au hi ?_
  refine bF hi ?_
  refine hR.ro ⟨rfl,?_⟩
  simp[bH,h]
 ·have hi:¬(t.length:Int)≤(s.length:Int):=by omega
  refine au hi ?_
  refine bF hi ?_
  exact hR.ro ⟨rfl,by simp[bH,h]⟩
abbrev Za (o:Option Bs):AV:=.ai [.str (o.getD []),.bool o.isSome]
theorem ahL (fs:List Fi) (p:Bs) (hl:fs.length≤100000):aM Tryz.prog 43 [.ro 2 (bn fs),.str p] (Za (cH p fs)):=by
 refine Cod.ahM (fun E R hN hR=>?_)
 refine au @bR ?_
 refine aZ hN (fun k:Nat=>⟨[(1,.str p),(8,.ro 2 (bn fs)),(9,.int .i64 fs.length),(10,.int .i64 k)],[]⟩) (fun k=>k≤fs.length∧(fs.take k).filter (fun f=>decide (f.1=p))=[]) (fun k=>fs.length-k) 0 (.le vV) ⟨Nat.zero_le _,rfl⟩ ?_
 rintro k R1 ⟨hk,hno⟩ hR1
 by_cases hlt:k<fs.length
 ·have hsn:=dp aX fs hlt
  have hsp:fs=fs.take k++fs.getD k aX::fs.drop (k+1):=by
   have hdr:fs.drop k=fs.getD k aX::fs.drop (k+1):=by
    rw[List.getD_eq_getElem?_getD,List.getElem?_eq_getElem hlt];exact List.drop_eq_getElem_cons hlt
   rw[←hdr,List.take_append_drop]
  have yes:(fs.getD k aX).1=p→cH p fs=some (fs.getD k aX).2:=fun h=>by
   unfold cH
   rw[hsp,List.filter_append,hno,List.nil_append,←hsp,List.filter_cons_of_pos (by simpa using h)]
   rfl
  refine bo @bR @fj ?_
  refine kW (fun he=>?_) (fun he=>?_)
  ·rw[yes he]at hR
   refine wW ?_
   exact hR.ro ⟨rfl,rfl⟩
  ·refine wW ?_
   exact hR1 (k+1) _ (by omega) ⟨by omega,by rw[hsn,List.filter_append,hno,List.filter_cons_of_neg (by simpa using he)];rfl⟩ (.le vV)
 ·obtain rfl:k=fs.length:=by omega
  rw[List.take_of_length_le (Nat.le_refl _)]at hno
  have:cH p fs=none:=by unfold cH;rw[hno];rfl
  rw[this]at hR
  refine wW ?_
  exact hR.ro ⟨rfl,rfl⟩
theorem xy {x s:Bs} (h:¬x=s) (hl:Op.bytesLess s x=true):Op.bytesLess x s=false:=by
 rw[j5,decide_eq_true_eq]at hl
 rw[j5,decide_eq_false_iff_not]
 have:=ga s x
 omega
theorem xz {x s:Bs} (h:¬x=s) (hl:Op.bytesLess s x=false):Op.bytesLess x s=true:=by
 rw[j5,decide_eq_false_iff_not]at hl
 rw[j5,decide_eq_true_eq]
 have h1:=ga s x
 have h2:=qv x s
 have h3:Lib.compareBytes x s≠0:=fun e=>h (jS e)
 omega
theorem yx (s:Bs):∀l:List Bs,(putP s l).length≤l.length+1
 | []=>by simp[putP]
 | x::r=>by
  have:=yx s r
  unfold putP
  split
  ·simp
  ·split
   ·simp
   ·simp only[List.length_cons];omega
set_option maxHeartbeats 1000000 in
theorem ah8 (l:List Bs) (s:Bs) (hl:l.length≤100000):aM Tryz.prog 86 [.ro 1 (bc l),.str s] (.ro 1 (bc (putP s l))):=by
 refine Cod.ah9 (fun E R hN hR=>?_)
 refine au @cE ?_
 refine aZ hN (fun q:Nat×List Bs×Bool=>⟨[(1,.str s),(5,.sl 228009 0 q.2.1.length),(6,.bool q.2.2),(10,.ro 1 (bc l)),(11,.int .i64 l.length),(12,.int .i64 q.1)],[(228009,.arr 1 (bc q.2.1))]⟩)
  (fun q=>q.1≤l.length∧q.2.1.length≤q.1+1∧(q.2.2=true→q.2.1++l.drop q.1=putP s l)∧(q.2.2=false→q.2.1=l.take q.1∧putP s l=l.take q.1++putP s (l.drop q.1))) (fun q=>l.length-q.1) (0,[],false) (.le ?_) ⟨Nat.zero_le _,by simp,by simp,by simp⟩ ?_
 ·simp(disch:=omega)only[go_sem,simprocAttr,List.length_nil,mK]
 rintro⟨k,o,d⟩ R1 ⟨hk,hol,hd1,hd0⟩ hR1
 simp only at hk hol hd1 hd0
 by_cases hlt:k<l.length
 ·have hdr:l.drop k=l.getD k []::l.drop (k+1):=by
   rw[List.getD_eq_getElem?_getD,List.getElem?_eq_getElem hlt];exact List.drop_eq_getElem_cons hlt
  have hsn:=dp [] l hlt
  have next:∀(o':List Bs) (d':Bool),o'.length≤k+2→(d'=true→o'++l.drop (k+1)=putP s l)→(d'=false→o'=l.take (k+1)∧putP s l=l.take (k+1)++putP s (l.drop (k+1))) →
      ∀st',Wk st' ⟨[(1,.str s),(5,.sl 228009 0 o'.length),(6,.bool d'),(10,.ro 1 (bc l)),(11,.int .i64 l.length),(12,.int .i64 ((k+1:Nat):Int))],[(228009,.arr 1 (bc o'))]⟩→R1.ap st':=fun o' d' h1 h2 h3 st' hw=>
   hR1 (k+1,o',d') _ (by simp only;omega) ⟨by simp only;omega,h1,h2,h3⟩ hw
  have hall:=kl o
  have halls:=kl (o++[s])
  rw[List.length_append,List.length_singleton]at halls
  cases d with
  | true=>
   have e1:=hd1 rfl
   rw[hdr]at e1
   generalize hx:l.getD k []=x at *
   have fin:∀st',Wk st' ⟨[(1,.str s),(5,.sl 228009 0 (o++[x]).length),(6,.bool true),(10,.ro 1 (bc l)),(11,.int .i64 l.length),(12,.int .i64 ((k+1:Nat):Int))],[(228009,.arr 1 (bc (o++[x])))]⟩→R1.ap st':=
    next (o++[x]) true (by rw[List.length_append,List.length_singleton];omega) (fun _=>by rw[List.append_assoc];exact e1) (fun h=>by cases h)
   rw[List.length_append,List.length_singleton]at fin
   by_cases he:x=s
   ·subst he
    refine dE @cE @gj hx @Cod.mo ?_
    refine c8 hN ?_
    refine wW ?_
    refine gG ?_
    rw[hall,iG]
    exact⟨⟨gF,by omega⟩,fin _ (.le vV)⟩
   ·refine cO @cE @gj hx he @Cod.mo ?_
    refine c8 hN ?_
    refine au he ?_
    refine bF he ?_
    rw[hall,iG]
    exact⟨⟨gF,by omega⟩,fin _ (.le vV)⟩
  | false=>
   obtain⟨e1,e2⟩:=hd0 rfl
   rw[hdr]at e2
   generalize hx:l.getD k []=x at *
   have hok:o.length=k:=by rw[e1,List.length_take];omega
   by_cases he:x=s
   ·subst he
    have fin:∀st',Wk st' ⟨[(1,.str x),(5,.sl 228009 0 (o++[x]).length),(6,.bool true),(10,.ro 1 (bc l)),(11,.int .i64 l.length),(12,.int .i64 ((k+1:Nat):Int))],[(228009,.arr 1 (bc (o++[x])))]⟩→R1.ap st':=
     next (o++[x]) true (by rw[List.length_append,List.length_singleton];omega) (fun _=>by rw[e2,e1,putP,if_pos rfl,List.append_assoc];rfl) (fun h=>by cases h)
    rw[List.length_append,List.length_singleton]at fin
    refine dE @cE @gj hx @Cod.mo ?_
    refine c8 hN ?_
    refine wW ?_
    refine gG ?_
    rw[hall,iG]
    exact⟨⟨gF,by omega⟩,fin _ (.le vV)⟩
   ·cases hlx:Op.bytesLess s x with
    | true=>
     have fin:∀st',Wk st' ⟨[(1,.str s),(5,.sl 228009 0 (o++[s]++[x]).length),(6,.bool true),(10,.ro 1 (bc l)),(11,.int .i64 l.length),(12,.int .i64 ((k+1:Nat):Int))],[(228009,.arr 1 (bc (o++[s]++[x])))]⟩→R1.ap st':=
      next (o++[s]++[x]) true (by rw[List.length_append,List.length_append,List.length_singleton,List.length_singleton];omega) (fun _=>by rw[e2,e1,putP,if_neg he,if_pos hlx,List.append_assoc,List.append_assoc];rfl) (fun h=>by cases h)
     rw[List.length_append,List.length_append,List.length_singleton,List.length_singleton]at fin
     refine lz @cE @gj hx he hlx @Cod.mo ?_
     refine c8 hN ?_
     simp(disch:=omega)only[go_sem,simprocAttr,he,xy he hlx]
     (repeat(first | refine ff ?_ | refine fc ?_ | refine fe ?_)<;>simp(disch:=omega)only[go_sem,simprocAttr,he,xy he hlx])
     rw[hall,iG,halls,iG]
     exact⟨⟨gF,by omega⟩,⟨gF,by omega⟩,fin _ (.le vV)⟩
    | false=>
     have fin:∀st',Wk st' ⟨[(1,.str s),(5,.sl 228009 0 (o++[x]).length),(6,.bool false),(10,.ro 1 (bc l)),(11,.int .i64 l.length),(12,.int .i64 ((k+1:Nat):Int))],[(228009,.arr 1 (bc (o++[x])))]⟩→R1.ap st':=
      next (o++[x]) false (by rw[List.length_append,List.length_singleton];omega) (fun h=>by cases h) (fun _=>⟨by rw[hsn,e1],by rw[e2,hsn,putP,if_neg he,if_neg (by rw[hlx];simp),List.append_assoc];rfl⟩)
     rw[List.length_append,List.length_singleton]at fin
     refine lz @cE @gj hx he hlx @Cod.mo ?_
     refine c8 hN ?_
     simp(disch:=omega)only[go_sem,simprocAttr,he,xz he hlx]
     (repeat(first | refine ff ?_ | refine fc ?_ | refine fe ?_)<;>simp(disch:=omega)only[go_sem,simprocAttr,he,xz he hlx])
     rw[hall,iG]
     exact⟨⟨gF,by omega⟩,fin _ (.le vV)⟩
 ·obtain rfl:k=l.length:=by omega
  rw[List.drop_eq_nil_of_le (Nat.le_refl _),List.take_of_length_le (Nat.le_refl _)]at *
  have hall:=kl o
  cases d with
  | true=>
   have e1:=hd1 rfl
   rw[List.append_nil]at e1
   rw[←e1]at hR
   refine au @cE ?_
   exact hR.wk (h':=[]) (r':=.ro 1 (bc o)) (ar':=[.undef,.undef]) rfl (.bw 228009 (.le (dA hall))) ⟨rfl,rfl⟩
  | false=>
   obtain⟨e1,e2⟩:=hd0 rfl
   have e3:putP s l=o++[s]:=by rw[e2,e1];rfl
   rw[e3]at hR
   refine au @cE ?_
   rw[hall,iG]
   have halls:=kl (o++[s])
   rw[List.length_append,List.length_singleton]at halls
   exact⟨⟨gF,by omega⟩,hR.wk (h':=[]) (r':=.ro 1 (bc (o++[s]))) (ar':=[.undef,.undef]) rfl (.bw 228009 (.le (dA halls))) ⟨rfl,rfl⟩⟩
theorem Bz (t:Bs) (fs:List Fi):(dX t fs).length≤fs.length:=by
 have key:∀(l acc:List Bs),(l.foldl (fun o p=>putP p o) acc).length≤acc.length+l.length:=by
  intro l
  induction l with
  | nil=>intro acc;simp
  | cons p r ih=>
   intro acc
   have h1:=ih (putP p acc)
   have h2:=yx p acc
   rw[List.foldl_cons,List.length_cons]
   omega
 have h1:=key ((fs.filter (fun f=>bH t f.1)).map (·.1)) []
 have h2:((fs.filter (fun f=>bH t f.1)).map (·.1)).length≤fs.length:=by rw[List.length_map];exact List.length_filter_le ..
 unfold dX
 rw[List.length_nil]at h1
 omega
theorem asf {t:Bs} (l:List Fi) {f:Fi} (h:bH t f.1=true):dX t (l++[f])=putP f.1 (dX t l):=by
 unfold dX
 rw[List.filter_append,List.filter_cons_of_pos (p:=fun f:Fi=>bH t f.1) h,List.filter_nil,List.map_append,List.foldl_append]
 rfl
theorem ase {t:Bs} (l:List Fi) {f:Fi} (h:bH t f.1=false):dX t (l++[f])=dX t l:=by
 unfold dX
 rw[List.filter_append,List.filter_cons_of_neg (p:=fun f:Fi=>bH t f.1) (by rw[h];simp),List.filter_nil,List.append_nil]
theorem aiH (fs:List Fi) (t:Bs) (hl:fs.length≤10000) (ht:t.length≤9223372036854775807) (hp:∀f∈fs,f.1.length≤9223372036854775807):aM Tryz.prog 45 [.ro 2 (bn fs),.str t] (.ro 1 (bc (dX t fs))):=by
 refine Cod.aiI (fun E R hN hR=>?_)
 refine au @bR ?_
 refine aZ hN (fun k:Nat=>⟨[(1,.str t),(5,.ro 1 (bc (dX t (fs.take k)))),(9,.ro 2 (bn fs)),(10,.int .i64 fs.length),(11,.int .i64 k)],[]⟩) (fun k=>k≤fs.length) (fun k=>fs.length-k) 0
  (.bw 227008 (.le (by simp(disch:=omega)only[go_sem,simprocAttr,List.take_zero,show dX t []=[]from rfl,mK]))) (Nat.zero_le _) ?_
 rintro k R1 hk hR1
 by_cases hlt:k<fs.length
 ·have hsn:=dp aX fs hlt
  have hul:=Bz t (fs.take k)
  rw[List.length_take]at hul
  have hx:=hp _ (gV aX hlt)
  have yes:bH t (fs.getD k aX).1=true→dX t (fs.take (k+1))=putP (fs.getD k aX).1 (dX t (fs.take k)):=fun h=>by rw[hsn,asf _ h]
  have no:bH t (fs.getD k aX).1=false→dX t (fs.take (k+1))=dX t (fs.take k):=fun h=>by rw[hsn,ase _ h]
  obtain⟨U,hU⟩:∃U,U=dX t (fs.take k):=⟨_,rfl⟩
  rw[←hU]at yes no hul
  rw[←hU]
  refine bo @bR @fj ?_
  refine aA (ahw _ t hx ht) rfl rfl ?_
  cases hb:bH t (fs.getD k aX).1 with
  | true=>
   refine wW ?_
   refine aA (ah8 U (fs.getD k aX).1 (by omega)) rfl rfl ?_
   refine wW ?_
   exact hR1 (k+1) _ (by omega) (by omega) (.le (by rw[yes hb];exact vV))
  | false=>
   refine wW ?_
   exact hR1 (k+1) _ (by omega) (by omega) (.le (by rw[no hb];exact vV))
 ·obtain rfl:k=fs.length:=by omega
  rw[List.take_of_length_le (Nat.le_refl _)]
  refine au @bR ?_
  exact hR.ro ⟨rfl,rfl⟩
theorem Mc (c:UInt8):fv c=(decide (48≤c.toNat∧c.toNat≤57)||decide (97≤c.toNat∧c.toNat≤102)):=by
 unfold fv iO
 by_cases h1:48≤c.toNat∧c.toNat≤57
 ·rw[if_pos h1,decide_eq_true h1,decide_eq_true (by omega)];rfl
 ·rw[if_neg h1,decide_eq_false h1]
  by_cases h2:97≤c.toNat∧c.toNat≤102
  ·rw[if_pos h2,decide_eq_true h2,decide_eq_true (by omega)];rfl
  ·rw[if_neg h2,decide_eq_false h2,decide_eq_false (by omega)];rfl
set_option maxHeartbeats 1000000 in
theorem Z3 (s:Bs) (hs:s.length≤9223372036854775806):aM Tryz.prog 42 [.str s] (.bool (gW s)):=by
 refine Cod.Z4 (fun E R hN hR=>?_)
 refine wW ?_
 refine aZ hN (fun k:Nat=>⟨[(0,.str s),(3,.int .i64 k)],[]⟩) (fun k=>k≤s.length∧(s.take k).all fv=true) (fun k=>s.length-k) 0 (.le vV) ⟨Nat.zero_le _,rfl⟩ ?_
 rintro k R1 ⟨hk,hall⟩ hR1
 by_cases hlt:k<s.length
 ·have hsn:=dp 0 s hlt
  have hm:=gV 0 hlt
  have hi:=Mc (s.getD k 0)
  have yes:fv (s.getD k 0)=true→∀st',Wk st' ⟨[(0,.str s),(3,.int .i64 ((k+1:Nat):Int))],[]⟩→R1.ap st':=fun h st' hw=>
   hR1 (k+1) _ (by omega) ⟨by omega,by rw[hsn,List.all_append,hall,List.all_cons,h];rfl⟩ hw
  have bad:∀{h},fv (s.getD k 0)=false→R h (.bool false) [.undef]:=fun h=>hR.ro ⟨rfl,by rw[gW,rP hm h];rfl⟩
  have hc:=(s.getD k 0).toNat_lt
  have good:(48≤(s.getD k 0).toNat∧(s.getD k 0).toNat≤57)∨(97≤(s.getD k 0).toNat∧(s.getD k 0).toNat≤102)→fv (s.getD k 0)=true:=fun h=>by
   rw[hi,Bool.or_eq_true,decide_eq_true_eq,decide_eq_true_eq];exact h
  have evil:¬((48≤(s.getD k 0).toNat∧(s.getD k 0).toNat≤57)∨(97≤(s.getD k 0).toNat∧(s.getD k 0).toNat≤102))→fv (s.getD k 0)=false:=fun h=>by
   rw[hi,Bool.or_eq_false_iff,decide_eq_false_iff_not,decide_eq_false_iff_not];exact⟨fun h1=>h (.inl h1),fun h1=>h (.inr h1)⟩
  clear hi
  by_cases h1:48≤(s.getD k 0).toNat
  ·by_cases h2:(s.getD k 0).toNat≤57
   ·refine bo h1 h2 ?_
    refine dS h1 h2 ?_
    exact yes (good (by omega)) _ (.le vV)
   ·by_cases h3:97≤(s.getD k 0).toNat
    ·by_cases h4:(s.getD k 0).toNat≤102
     ·refine dE h1 h2 h3 h4 ?_
      refine kR h1 h2 h3 h4 ?_
      exact yes (good (by omega)) _ (.le vV)
     ·refine dE h1 h2 h3 h4 ?_
      refine kR h1 h2 h3 h4 ?_
      exact bad (evil (by omega))
    ·refine cN h1 h2 h3 ?_
     refine fK h1 h2 h3 ?_
     exact bad (evil (by omega))
  ·refine au h1 ?_
   refine bF h1 ?_
   exact bad (evil (by omega))
 ·obtain rfl:k=s.length:=by omega
  rw[List.take_of_length_le (Nat.le_refl _)]at hall
  by_cases h2:s.length%2=0
  ·have hm:(s.length:Int)%2=0:=by omega
   refine au hm ?_
   exact hR.ro ⟨rfl,by rw[gW,hall,decide_eq_true h2];rfl⟩
  ·have hm:¬(s.length:Int)%2=0:=by omega
   refine au hm ?_
   exact hR.ro ⟨rfl,by rw[gW,decide_eq_false h2];simp⟩
theorem sf (s:Bs) (hs:s.length≤9223372036854775806):aM Tryz.prog 16 [.str s] (.bool (dr s)):=by
 refine Cod.ai4 (fun E R hN hR=>?_)
 unfold dr at hR
 by_cases h40:s.length=40
 ·have hi:(s.length:Int)=40:=by omega
  rw[decide_eq_true h40,Bool.and_true]at hR
  refine au hi ?_
  refine cn (cP vV (Z3 s hs) vV rfl rfl ?_)
  refine wW ?_
  exact hR.ro ⟨rfl,rfl⟩
 ·have hi:¬(s.length:Int)=40:=by omega
  rw[decide_eq_false h40,Bool.and_false]at hR
  refine au hi ?_
  refine bF hi ?_
  exact hR.ro ⟨rfl,rfl⟩
theorem sg (s:Bs) (h2:2≤s.length) (hs:s.length≤1000000):aM Tryz.prog 17 [.str s] (.str (dM s)):=by
 refine Cod.ajo (fun E R hN hR=>?_)
 have hi:(2:Int)≤(s.length:Int):=by omega
 refine au hi ?_
 exact hR.ro ⟨rfl,by rw[dM,bU];simp⟩
theorem zF (s:Bs) (hs:s.length≤1000000):aM Tryz.prog 15 [.str s] (fI (cU s)):=by
 refine Cod.ajS (fun E R hN hR=>?_)
 have h1:=ahr s 0 65536 hs (Nat.zero_le _) (Nat.le_refl _)
 rw[List.drop_zero]at h1
 have hz:=tf s 65536
 unfold cU at hR
 generalize fX s 65536=Z at *
 obtain⟨t,n,e⟩:=Z
 simp only at hR hz
 refine wW ?_
 refine aA h1 rfl rfl ?_
 by_cases he:e=0
 ·subst he
  by_cases hn:n=s.length
  ·subst hn
   rw[if_neg (by simp),if_neg (by simp)]at hR
   have hdc:=akX t (by omega)
   generalize fa t=x at *
   obtain⟨k,d,e⟩:=x
   unfold fI ee at hdc hR
   refine wW ?_
   refine aA hdc rfl rfl ?_
   refine wW ?_
   exact hR.ro ⟨rfl,rfl⟩
  ·rw[if_neg (by simp),if_pos hn]at hR
   have hi:¬(n:Int)=(s.length:Int):=by omega
   refine au hi ?_
   exact hR.ro ⟨rfl,rfl⟩
 ·rw[if_pos he]at hR
  have hi:¬(e:Int)=0:=by omega
  refine au hi ?_
  exact hR.ro ⟨rfl,rfl⟩
def ak2 (id:Bs):Option Bs→Int×Bs×Int
 | none=>(0,[],7)
 | some d=>mg id (cU d)
def oQ (id:Bs) (fs:List Fi):Int×Bs×Int:=if dr id=true then ak2 id (cH (dM id) fs)else(0,[],4)
theorem look_eq {L fs:List Fi} (hs:gL L) (hp:L.Perm fs) (id:Bs):oQ id fs=l6 id L:=by
 unfold oQ l6
 rw[J0 hs hp]
 by_cases h:dr id=true
 ·rw[if_pos h,if_pos h]
  cases getF (dM id) L with
  | none=>rfl
  | some d=>exact Y5 id d
 ·rw[if_neg h,if_neg h]
theorem J1 {p d:Bs} {fs:List Fi} (h:cH p fs=some d):∃f∈fs,f.2=d:=by
 unfold cH at h
 have h1:=List.mem_of_head? h
 obtain⟨f,hf,rfl⟩:=List.mem_map.1 h1
 exact⟨f,(List.mem_filter.1 hf).1,rfl⟩
set_option maxHeartbeats 1000000 in
theorem ajG (fs:List Fi) (id:Bs) (hl:fs.length≤100000) (hd:∀f∈fs,f.2.length≤1000000) (hi:id.length≤140737488351232):aM Tryz.prog 18 [.ro 2 (bn fs),.str id] (fI (oQ id fs)):=by
 refine Cod.ajH (fun E R hN hR=>?_)
 unfold oQ at hR
 have h1:=sf id (by omega)
 refine wW ?_
 by_cases hid:dr id=true
 rotate_left
 ·rw[if_neg hid]at hR
  have hid:dr id=false:=by simpa using hid
  rw[hid]at h1
  refine aA h1 rfl rfl ?_
  refine wW ?_
  exact hR.ro ⟨rfl,rfl⟩
 rw[if_pos hid]at hR
 rw[hid]at h1
 have h40:=(mi hid).1
 refine aA h1 rfl rfl ?_
 refine wW ?_
 refine aA (sg id (by omega) (by omega)) rfl rfl ?_
 refine wW ?_
 have h2:=ahL fs (dM id) hl
 refine aA h2 rfl rfl ?_
 cases hg:cH (dM id) fs with
 | none=>
  rw[hg]at hR
  simp(disch:=first | omega | (simp only[Lx];omega))only[go_sem,simprocAttr,Option.getD_none,Option.isSome_none]
  exact hR.ro ⟨rfl,rfl⟩
 | some d=>
  rw[hg]at hR
  obtain⟨f,hf,hfd⟩:=J1 hg
  have hdl:=hd f hf
  rw[hfd]at hdl
  have h3:=zF d hdl
  have hul:=BE d
  have hkr:=Ut d
  have hck:(cU d).2.2=0→eD (cU d).1 (cU d).2.1=0:=BD
  have hR:cJ (fun h r _=>h=[]∧r=fI (mg id (cU d))) R:=hR
  obtain⟨x,hx⟩:∃x,x=cU d:=⟨_,rfl⟩
  rw[←hx]at hR hul h3 hck hkr
  clear hx
  obtain⟨k,t,e⟩:=x
  unfold mg at hR
  simp only at hR hul hck hkr
  unfold fI ee at h3
  simp only at h3
  simp(disch:=first | omega | (simp only[Lx];omega))only[go_sem,simprocAttr,Option.getD_some,Option.isSome_some]
  refine aA h3 rfl rfl ?_
  by_cases he:e=0
  ·subst he
   rw[if_neg (by simp)]at hR
   have hrid:=alK k t (by omega) (by omega) (uK (hck rfl))
   unfold ee at hrid
   refine wW ?_
   refine aA hrid rfl rfl ?_
   generalize Sh.dI (Sh.fS (fD k t))=is at *
   by_cases hx:is=id
   ·rw[if_pos hx]at hR
    simp(disch:=first | omega | (simp only[Lx];omega))only[go_sem,simprocAttr,hx]
    exact hR.ro ⟨rfl,rfl⟩
   ·rw[if_neg hx]at hR
    simp(disch:=first | omega | (simp only[Lx];omega))only[go_sem,simprocAttr,hx]
    exact hR.ro ⟨rfl,rfl⟩
  ·rw[if_pos he]at hR
   simp(disch:=first | omega | (simp only[Lx];omega))only[go_sem,simprocAttr,he]
   exact hR.ro ⟨rfl,rfl⟩
theorem V0 (ps:List Bs) {p:Bs} (h:fL p=true):eS (ps++[p])=eS ps++[fq p]:=by
 unfold eS;rw[List.filter_append,List.filter_cons_of_pos h,List.filter_nil,List.map_append];rfl
theorem VZ (ps:List Bs) {p:Bs} (h:fL p=false):eS (ps++[p])=eS ps:=by
 unfold eS;rw[List.filter_append,List.filter_cons_of_neg (by rw[h];simp),List.filter_nil,List.append_nil]
theorem VY (ps:List Bs):(eS ps).length≤ps.length:=by
 unfold eS;rw[List.length_map];exact List.length_filter_le ..
set_option maxHeartbeats 1000000 in
theorem ajj (fs:List Fi) (hl:fs.length≤10000) (hp:∀f∈fs,f.1.length≤9223372036854775807):aM Tryz.prog 21 [.ro 2 (bn fs)] (.ro 1 (bc (eS (dX bU fs)))):=by
 refine Cod.ajk (fun E R hN hR=>?_)
 refine wW ?_
 refine aA (aiH fs bU hl (by decide) hp) rfl rfl ?_
 have hul:=Bz bU fs
 generalize dX bU fs=U at *
 refine au @cE ?_
 refine aZ hN (fun k:Nat=>⟨[(3,.sl 234006 0 (eS (U.take k)).length),(8,.ro 1 (bc U)),(9,.int .i64 U.length),(10,.int .i64 k)],[(234006,.arr 1 (bc (eS (U.take k))))]⟩) (fun k=>k≤U.length) (fun k=>U.length-k) 0
  (.le (by simp(disch:=first | omega | (simp only[Lx];omega))only[go_sem,simprocAttr,List.take_zero,mK,show eS []=[]from rfl,List.length_nil])) (Nat.zero_le _) ?_
 rintro k R1 hk hR1
 by_cases hlt:k<U.length
 ·have hsn:=dp [] U hlt
  have hsl:=VY (U.take k)
  rw[List.length_take]at hsl
  obtain⟨O,hO⟩:∃O,O=eS (U.take k):=⟨_,rfl⟩
  obtain⟨p,hpe⟩:∃p,p=U.getD k []:=⟨_,rfl⟩
  rw[←hpe]at hsn
  have no:fL p=false→∀st',Wk st' ⟨[(3,.sl 234006 0 O.length),(8,.ro 1 (bc U)),(9,.int .i64 U.length),(10,.int .i64 ((k+1:Nat):Int))],[(234006,.arr 1 (bc O))]⟩→R1.ap st':=fun h st' hw=>
   hR1 (k+1) _ (by omega) (by omega) (by rw[hsn,VZ _ h,←hO];exact hw)
  have yes:fL p=true→∀st',Wk st' ⟨[(3,.sl 234006 0 (O++[fq p]).length),(8,.ro 1 (bc U)),(9,.int .i64 U.length),(10,.int .i64 ((k+1:Nat):Int))],[(234006,.arr 1 (bc (O++[fq p])))]⟩→R1.ap st':=fun h st' hw=>
   hR1 (k+1) _ (by omega) (by omega) (by rw[hsn,V0 _ h,←hO];exact hw)
  rw[←hO]at hsl
  rw[←hO]
  have hall:=kl O
  unfold fL at no yes
  by_cases hpl:p.length=49
  rotate_left
  ·have hi:¬(p.length:Int)=49:=by omega
   simp(disch:=first | omega | (simp only[Lx];omega))only[go_sem,simprocAttr,cE,gj,←hpe,hi]
   (repeat(first | refine ff ?_ | refine fc ?_ | refine fe ?_)<;>simp(disch:=first | omega | (simp only[Lx];omega))only[go_sem,simprocAttr,cE,gj,←hpe,hi])
   exact no (by rw[decide_eq_false hpl];rfl) _ (.le vV)
  have hi:(p.length:Int)=49:=by omega
  rw[decide_eq_true hpl,Bool.true_and]at no yes
  have hcut:(p.take 10).drop 8=(p.drop 8).take 2:=by rw[List.drop_take]
  by_cases hg:p.getD 10 0=47
  rotate_left
  ·have hgn:¬(p.getD 10 0).toNat=47:=fun e=>hg (UInt8.toNat.inj e)
   simp(disch:=first | omega | (simp only[Lx];omega))only[go_sem,simprocAttr,cE,gj,←hpe,hi,hgn]
   (repeat(first | refine ff ?_ | refine fc ?_ | refine fe ?_)<;>simp(disch:=first | omega | (simp only[Lx];omega))only[go_sem,simprocAttr,cE,gj,←hpe,hi,hgn])
   exact no (by rw[decide_eq_false hg];rfl) _ (.le vV)
  rw[decide_eq_true hg,Bool.true_and]at no yes
  have hrid:=sf (fq p) (by unfold fq;rw[List.length_append,List.length_take,List.length_drop,List.length_drop];omega)
  unfold fq at hrid
  simp(disch:=first | omega | (simp only[Lx];omega))only[go_sem,simprocAttr,cE,gj,←hpe,hi,hg]
  (repeat(first | refine ff ?_ | refine fc ?_ | refine fe ?_)<;>simp(disch:=first | omega | (simp only[Lx];omega))only[go_sem,simprocAttr,cE,gj,←hpe,hi,hg])
  refine cn (cP vV hrid vV rfl rfl ?_)
  unfold fq at no yes
  cases hid:dr ((p.drop 8).take 2++p.drop 11)with
  | true=>
   refine au hi ?_
   rw[hall,iG]
   exact⟨⟨gF,by omega⟩,yes hid _ (.le (by rw[List.length_append,List.length_singleton];exact vV))⟩
  | false=>
   refine wW ?_
   exact no hid _ (.le vV)
 ·obtain rfl:k=U.length:=by omega
  rw[List.take_of_length_le (Nat.le_refl _)]
  have hall:=kl (eS U)
  refine au @cE ?_
  exact hR.wk (h':=[]) (r':=.ro 1 (bc (eS U))) (ar':=[.undef]) rfl (.bw 234006 (.le (dA hall))) ⟨rfl,rfl⟩
theorem air (xs ys:List Bs) (h1:xs.length≤1000000) (h2:ys.length≤1000000):aM Tryz.prog 19 [.ro 1 (bc xs),.ro 1 (bc ys)] (.bool (decide (xs=ys))):=by
 refine Cod.ais (fun E R hN hR=>?_)
 by_cases hl:xs.length=ys.length
 rotate_left
 ·have hi:¬(xs.length:Int)=(ys.length:Int):=by omega
  refine bo @cE hi ?_
  exact hR.ro ⟨rfl,by rw[decide_eq_false (fun e=>hl (by rw[e]))]⟩
 have hi:(xs.length:Int)=(ys.length:Int):=by omega
 refine bo @cE hi ?_
 refine aZ hN (fun k:Nat=>⟨[(0,.ro 1 (bc xs)),(1,.ro 1 (bc ys)),(12,.int .i64 xs.length),(13,.int .i64 k)],[]⟩) (fun k=>k≤xs.length∧xs.take k=ys.take k) (fun k=>xs.length-k) 0 (.le (dA hi)) ⟨by omega,by simp⟩ ?_
 rintro k R2 ⟨hk,hc⟩ hR2
 by_cases hlt:k<xs.length
 ·have e1:=dp [] xs hlt
  have e2:=dp [] ys (by omega:k<ys.length)
  refine bo @cE @gj ?_
  refine kW (fun he=>?_) (fun he=>?_)
  ·refine wW ?_
   refine hR.ro ⟨rfl,?_⟩
   rw[decide_eq_false (fun e=>he (by rw[e]))]
  ·have he:=Decidable.not_not.1 he
   refine wW ?_
   exact hR2 (k+1) _ (by omega) ⟨by omega,by rw[e1,e2,hc,he]⟩ (.le vV)
 ·obtain rfl:k=xs.length:=by omega
  have:xs=ys:=by rw[List.take_of_length_le (by omega),List.take_of_length_le (by omega)]at hc;exact hc
  refine wW ?_
  exact hR.ro ⟨rfl,by rw[decide_eq_true this]⟩
theorem Wq (L:List Fi) (n:Nat) (hs:gn L) (hl:L.length≤100000) (hc:∀f∈L,f.1.length≤200):aM Tryz.prog 20 [iD L n] (.ro 1 (bc (cL (cF bU L)))):=by
 refine A0 ?_
 have hm:∀{h:HP} {r:AV} {ar:List AV},(h=[(213034,.arr 1 (bc (cL (cF bU L))))]∧r=.sl 213034 0 (cL (cF bU L)).length∧ar=[.undef])→∃h2 r2 as2,as2.length=ar.length∧Wk ⟨(0,r)::numbered 1 ar,h⟩ ⟨(0,r2)::numbered 1 as2,h2⟩∧(h2=[]∧r2=.ro 1 (bc (cL (cF bU L)))):=by
  rintro h r ar ⟨rfl,rfl,rfl⟩
  exact⟨[],.ro 1 (bc (cL (cF bU L))),[.undef],rfl,.bw 213034 (.le (dA @kl)),rfl,rfl⟩
 intro X0 ρ w vs h1 hA h2 h3 h4
 refine(Wp L n hs hl hc X0 ρ w vs h1 hA h2 h3 h4).mono ?_
 rintro e w' ⟨v,h',r,ρ',ar,q1,q2,q3⟩
 exact⟨v,h',r,ρ',ar,q1,hm q2,q3⟩
set_option maxHeartbeats 4000000 in
theorem WN (fs:List Fi) (id raw:Bs) (hb:BO fs) (hi:id.length≤140737488351232) (hw:raw.length≤140737488351232):aM Tryz.prog 4 [.ro 2 (bn fs),.str id,.str raw] (.bool true):=by
 refine Cod.WO (fun E R hN hR=>?_)
 have hsh:=apc fs 30 (by have:=hb.1;omega) (by decide) (fun f hf=>(hb.2 f hf).2)
 rw[show((30:Nat):Int)=30 from rfl]at hsh
 have hG1:=ape fs 30
 have hG2:∀f∈jx fs 30,f.1.length≤140737488351232∧f.2.length≤400:=fun f hf=>by
  obtain⟨h1,g,hg,h2⟩:=apf hf
  exact⟨by rw[h2];exact(hb.2 g hg).1,h1⟩
 generalize jx fs 30=G at *
 have hfw:=vw raw 400 (by omega) (by decide)
 rw[show((400:Nat):Int)=400 from rfl]at hfw
 have hrl:(raw.take 400).length≤400:=by rw[List.length_take];omega
 generalize raw.take 400=w at *
 refine wW ?_
 refine aU [] hsh trivial (fun _=>rfl) ?_
 rintro h' v ar ⟨rfl,rfl,rfl⟩
 refine cN @kO @bR @qL ?_
 refine kC ⟨[(0,.ro 2 (bn G)),(1,.str id),(2,.str raw),(21,.str raw)],[]⟩ (.bw 216012 (.le (dA @JB))) rfl ?_
 refine aA hfw rfl rfl ?_
 refine wW ?_
 refine iK (aqm G (by omega) (fun f hf=>(hG2 f hf).1) (fun f hf=>Nat.le_trans (hG2 f hf).2 (by decide))) rfl ?_
 rintro h' v ar ⟨rfl,L,hL,hs,hcase⟩
 have hLl:=hL.length_eq
 have hun:=xJ w (by omega)
 have hrun:=zF w (by omega)
 have hpa:=l7 id hi
 have hrid:=sf id (by omega)
 obtain⟨u,hu⟩:∃u,u=cU w:=⟨_,rfl⟩
 rw[←hu]at hun hrun
 clear hu
 obtain⟨uk,ud,ue⟩:=u
 unfold fI ee at hun hrun
 simp only at hun hrun
 rcases hcase with⟨hok,n,rfl⟩ | ⟨hno,rfl⟩
 ·have hcl:∀f∈L,f.1.length≤200:=fun f hf=>by
   have:=hok.1 f hf
   unfold gb at this
   rw[Bool.and_eq_true,Bool.and_eq_true]at this
   exact of_decide_eq_true this.1.1
  have hd:∀f∈L,f.2.length≤1000000:=fun f hf=>Nat.le_trans (hG2 f (hL.mem_iff.1 hf)).2 (by decide)
  have hr1:=Xj L n id hs (by omega) hd hi
  have hr2:=ajG G id (by omega) (fun f hf=>Nat.le_trans (hG2 f hf).2 (by decide)) hi
  rw[look_eq hok.2.1 hL id]at hr2
  have hl1:=Wq L n hs (by omega) hcl
  have hl2:=ajj G (by omega) (fun f hf=>by have:=(hG2 f hf).1;omega)
  rw[ast hok.2.1 hL bU,xB (fun p hp=>(BB hp).1)]at hl2
  have hl3:=air (cL (cF bU L)) (cL (cF bU L)) (by have:=rI (cF bU L);have:=pP bU L;omega) (by have:=rI (cF bU L);have:=pP bU L;omega)
  rw[decide_eq_true rfl]at hl3
  generalize cL (cF bU L)=U at *
  obtain⟨x,hx⟩:∃x,x=l6 id L:=⟨_,rfl⟩
  rw[←hx]at hr1 hr2
  clear hx
  obtain⟨xk,xd,xe⟩:=x
  unfold fI ee at hr1 hr2
  simp only at hr1 hr2
  refine⟨rfl,rfl,?_⟩
  refine wW ?_
  by_cases hid:dr id=true
  ·rw[if_pos hid]at hpa
   rw[hid]at hrid
   have h40:=(mi hid).1
   refine aA hpa rfl rfl ?_
   refine wW ?_
   refine aA hun rfl rfl ?_
   refine wW ?_
   refine aA hrun rfl rfl ?_
   refine wW ?_
   refine aA nn rfl rfl ?_
   refine wW ?_
   refine gG ?_
   refine cn (cP vV hrid vV rfl rfl ?_)
   refine wW ?_
   refine gG ?_
   refine cn (cP vV hrid vV rfl rfl ?_)
   refine wW ?_
   refine gG ?_
   refine cn (cP vV (sg id (by omega) (by omega)) vV rfl rfl ?_)
   refine wW ?_
   refine gG ?_
   refine cn (cP vV hrid vV rfl rfl ?_)
   refine wW ?_
   refine gG ?_
   refine aA hr1 rfl rfl ?_
   refine wW ?_
   refine aA hr2 rfl rfl ?_
   refine wW ?_
   refine gG ?_
   refine cn (cP vV hl1 vV rfl rfl ?_)
   refine wW ?_
   refine gG ?_
   refine cn (cP vV hl2 vV rfl rfl ?_)
   refine wW ?_
   refine gG ?_
   refine cn (cP vV hl3 vV rfl rfl ?_)
   refine wW ?_
   refine gG ?_
   exact hR.ro ⟨rfl,rfl⟩
  ·rw[if_neg hid]at hpa
   have hid:dr id=false:=by simpa using hid
   rw[hid]at hrid
   refine aA hpa rfl rfl ?_
   refine wW ?_
   refine aA hun rfl rfl ?_
   refine wW ?_
   refine aA hrun rfl rfl ?_
   refine wW ?_
   refine aA nn rfl rfl ?_
   refine wW ?_
   refine gG ?_
   refine cn (cP vV hrid vV rfl rfl ?_)
   refine wW ?_
   refine gG ?_
   refine cn (cP vV hrid vV rfl rfl ?_)
   refine wW ?_
   refine gG ?_
   refine cn (cP vV hrid vV rfl rfl ?_)
   refine wW ?_
   refine gG ?_
   refine aA hr1 rfl rfl ?_
   refine wW ?_
   refine aA hr2 rfl rfl ?_
   refine wW ?_
   refine gG ?_
   refine cn (cP vV hl1 vV rfl rfl ?_)
   refine wW ?_
   refine gG ?_
   refine cn (cP vV hl2 vV rfl rfl ?_)
   refine wW ?_
   refine gG ?_
   refine cn (cP vV hl3 vV rfl rfl ?_)
   refine wW ?_
   refine gG ?_
   exact hR.ro ⟨rfl,rfl⟩
 ·refine⟨rfl,rfl,?_⟩
  refine wW ?_
  by_cases hid:dr id=true
  ·rw[if_pos hid]at hpa
   rw[hid]at hrid
   have h40:=(mi hid).1
   refine aA hpa rfl rfl ?_
   refine wW ?_
   refine aA hun rfl rfl ?_
   refine wW ?_
   refine aA hrun rfl rfl ?_
   refine wW ?_
   refine aA nn rfl rfl ?_
   refine wW ?_
   refine gG ?_
   refine cn (cP vV hrid vV rfl rfl ?_)
   refine wW ?_
   refine gG ?_
   refine cn (cP vV hrid vV rfl rfl ?_)
   refine wW ?_
   refine gG ?_
   refine cn (cP vV (sg id (by omega) (by omega)) vV rfl rfl ?_)
   refine wW ?_
   refine gG ?_
   refine cn (cP vV hrid vV rfl rfl ?_)
   refine wW ?_
   refine gG ?_
   exact hR.ro ⟨rfl,rfl⟩
  ·rw[if_neg hid]at hpa
   have hid:dr id=false:=by simpa using hid
   rw[hid]at hrid
   refine aA hpa rfl rfl ?_
   refine wW ?_
   refine aA hun rfl rfl ?_
   refine wW ?_
   refine aA hrun rfl rfl ?_
   refine wW ?_
   refine aA nn rfl rfl ?_
   refine wW ?_
   refine gG ?_
   refine cn (cP vV hrid vV rfl rfl ?_)
   refine wW ?_
   refine gG ?_
   refine cn (cP vV hrid vV rfl rfl ?_)
   refine wW ?_
   refine gG ?_
   refine cn (cP vV hrid vV rfl rfl ?_)
   refine wW ?_
   refine gG ?_
   exact hR.ro ⟨rfl,rfl⟩
end Go.Proofs.YtlkmppkcbhodaaaGreatDoor.Ls
