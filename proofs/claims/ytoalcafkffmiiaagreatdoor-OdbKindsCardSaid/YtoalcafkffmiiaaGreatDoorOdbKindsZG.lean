/- The proof, part 33 of 42. -/
import Derived.Test.YtoalcafkffmiiaaGreatDoorOdbKindsU
import Derived.Test.YtoalcafkffmiiaaGreatDoorOdbKindsZF
import Derived.Lib.SlicesCompact
set_option linter.all false
namespace Go.Proofs.YtoalcafkffmiiaaGreatDoor.Ls
open Eng
set_option maxRecDepth 10000
theorem zX:∀x y:Bs,x<y↔Lib.compareBytes x y<0
 | [],[]=>by simp[Lib.compareBytes]
 | [],_::_=>by simp[Lib.compareBytes]
 | _::_,[]=>by simp[Lib.compareBytes]
 | a::x,b::y=>by
  rw[List.cons_lt_cons_iff,zX x y]
  simp only[Lib.compareBytes]
  by_cases h1:a<b
  ·simp[h1]
  ·by_cases h2:b<a
   ·have:¬a=b:=fun e=>by subst e;exact h1 h2
    simp[h1,h2,this]
   ·have:a=b:=by
     simp only[UInt8.lt_iff_toNat_lt]at h1 h2
     exact UInt8.toNat.inj (by omega)
    simp[this]
theorem qe (x y:Bs):x≤y↔Lib.compareBytes x y≤0:=by
 have h:x≤y↔¬y<x:=Iff.rfl
 rw[h,zX]
 have:=gH x y
 omega
abbrev uI (l:List Bs):List Bs:=l.mergeSort fun x y=>decide (x≤y)
theorem alJ (l:List Bs):(uI l).Pairwise (fun a b=>Lib.compareBytes a b≤0):=by
 have h:=List.pairwise_mergeSort (le:=fun x y:Bs=>decide (x≤y))
  (fun a b c h1 h2=>by
   rw[decide_eq_true_eq,qe]at *
   exact kz a b c h1 h2)
  (fun a b=>by
   rw[Bool.or_eq_true,decide_eq_true_eq,decide_eq_true_eq,qe,qe]
   have:=gH a b
   omega) l
 exact h.imp (fun h=>by rwa[decide_eq_true_eq,qe]at h)
theorem rQ (l:List Bs) (i:Nat):(l.toArray[i]!)=l.getD i []:=by
 rw[List.getD_eq_getElem?_getD,getElem!_def]
 simp only[List.getElem?_toArray]
 cases l[i]?<;>rfl
theorem Co {l:List Bs} (h:l.Pairwise (fun a b=>Lib.compareBytes a b≤0)) {i j:Nat} (hij:i<j) (hj:j<l.length):Lib.compareBytes (l.getD i []) (l.getD j [])≤0:=by
 have:=List.pairwise_iff_getElem.1 h i j (by omega) hj hij
 rwa[List.getD_eq_getElem?_getD,List.getD_eq_getElem?_getD,List.getElem?_eq_getElem hj,List.getElem?_eq_getElem (by omega:i<l.length)]
theorem wQ {l:List Bs} (h:l.Pairwise (fun a b=>Lib.compareBytes a b≤0)):∀m,m≤l.length→iq (Lib.compactUpTo l.toArray m)∧(∀x,x∈Lib.compactUpTo l.toArray m↔x∈l.take m)∧∀x∈Lib.compactUpTo l.toArray m,0<m∧Lib.compareBytes x (l.getD (m-1) [])≤0
 | 0,_=>⟨.nil,fun x=>by simp[Lib.compactUpTo],fun x hx=>by simp[Lib.compactUpTo]at hx⟩
 | m+1,hm=>by
  obtain⟨h1,h2,h3⟩:=wQ h m (by omega)
  have hsn:l.take (m+1)=l.take m++[l.getD m []]:=by
   rw[List.take_succ,List.getD_eq_getElem?_getD,List.getElem?_eq_getElem (by omega:m<l.length)];rfl
  rw[Lib.compactUpTo_succ,rQ]
  have hk:Lib.keeps l.toArray m=decide (m=0∨l.getD m []≠l.getD (m-1) []):=by
   unfold Lib.keeps
   rw[rQ,rQ]
  by_cases hkm:m=0∨l.getD m []≠l.getD (m-1) []
  ·rw[hk,decide_eq_true hkm,if_pos rfl]
   refine⟨?_,fun x=>?_,fun x hx=>⟨by omega,?_⟩⟩
   ·unfold iq
    rw[List.pairwise_append]
    refine⟨h1,List.pairwise_singleton _ _,fun x hx y hy=>?_⟩
    rw[List.mem_singleton]at hy
    subst hy
    obtain⟨h4,h5⟩:=h3 x hx
    have h6:=Co h (i:=m-1) (j:=m) (by omega) (by omega)
    have h7:Lib.compareBytes (l.getD (m-1) []) (l.getD m [])≠0:=fun e=>by
     rcases hkm with h0 | h0
     ·omega
     ·exact h0 (kC e).symm
    exact sb h5 (by omega)
   ·rw[hsn,List.mem_append,List.mem_append,h2]
   ·rw[show m+1-1=m by omega]
    rcases List.mem_append.1 hx with hx | hx
    ·obtain⟨h4,h5⟩:=h3 x hx
     exact kz _ _ _ h5 (Co h (by omega) (by omega))
    ·rw[List.mem_singleton]at hx
     rw[hx,lH];omega
  ·rw[hk,decide_eq_false hkm,if_neg (by simp),List.append_nil]
   have h0:m≠0:=fun e=>hkm (.inl e)
   have he:l.getD m []=l.getD (m-1) []:=Decidable.not_not.1 (fun e=>hkm (.inr e))
   refine⟨h1,fun x=>?_,fun x hx=>⟨by omega,?_⟩⟩
   ·rw[h2,hsn,List.mem_append,List.mem_singleton]
    constructor
    ·exact .inl
    ·rintro(hx | rfl)
     ·exact hx
     ·rw[he]
      have hl:m-1<(l.take m).length:=by rw[List.length_take];omega
      have h:=List.getElem_mem hl
      have e:(l.take m)[m-1]=l.getD (m-1) []:=by
       rw[List.getElem_take,List.getD_eq_getElem?_getD,List.getElem?_eq_getElem (by omega:m-1<l.length)];rfl
      rwa[e]at h
   ·rw[show m+1-1=m by omega,he]
    exact(h3 x hx).2
theorem I8 {l:List Bs} (h:l.Pairwise (fun a b=>Lib.compareBytes a b≤0)):iq (Lib.compact l)∧∀x,x∈Lib.compact l↔x∈l:=by
 obtain⟨h1,h2,_⟩:=wQ h l.length (Nat.le_refl _)
 refine⟨h1,fun x=>?_⟩
 have:=h2 x
 rwa[List.take_of_length_le (Nat.le_refl _)]at this
def jo (l:List Bs):List Bs:=Lib.compact (uI l)
theorem aeu (l:List Bs) (x:Bs):x∈jo l↔x∈l:=((I8 (alJ l)).2 x).trans List.mem_mergeSort
open Eng
set_option maxRecDepth 10000
theorem yM:∀i,i<16→∀j,j<16→i<j→(Sh.je.getD i 0).toNat<(Sh.je.getD j 0).toNat:=by decide +kernel
theorem yO:∀a b:Bs,Lib.compareBytes a b<0→a.length=b.length→Lib.compareBytes (Sh.bZ a) (Sh.bZ b)<0
 | [],[],h,_=>by simp[Lib.compareBytes]at h
 | [],_::_,_,h=>by simp at h
 | _::_,[],_,h=>by simp at h
 | x::a,y::b,h,hl=>by
  have e:∀(c:UInt8) (r:Bs),Sh.bZ (c::r)=Sh.je.getD (c.toNat/16) 0::Sh.je.getD (c.toNat%16) 0::Sh.bZ r:=fun _ _=>rfl
  have hx:=x.toNat_lt
  have hy:=y.toNat_lt
  rw[e,e]
  simp only[Lib.compareBytes,UInt8.lt_iff_toNat_lt]at h ⊢
  by_cases h1:x.toNat<y.toNat
  ·by_cases h2:x.toNat/16<y.toNat/16
   ·rw[if_pos (yM _ (by omega) _ (by omega) h2)];omega
   ·have h3:x.toNat/16=y.toNat/16:=by omega
    rw[h3,if_neg (Nat.lt_irrefl _),if_neg (Nat.lt_irrefl _),if_pos (yM _ (by omega) _ (by omega) (by omega))];omega
  ·rw[if_neg h1]at h
   by_cases h2:y.toNat<x.toNat
   ·rw[if_pos h2]at h;omega
   ·rw[if_neg h2]at h
    have h3:x.toNat=y.toNat:=by omega
    rw[h3,if_neg (Nat.lt_irrefl _),if_neg (Nat.lt_irrefl _),if_neg (Nat.lt_irrefl _),if_neg (Nat.lt_irrefl _)]
    exact yO a b h (by simpa using hl)
theorem yL:∀k,k<16→jg (Sh.je.getD k 0)=true:=by decide +kernel
theorem yN:∀t:Bs,(Sh.bZ t).all jg=true
 | []=>rfl
 | c::r=>by
  have e:Sh.bZ (c::r)=Sh.je.getD (c.toNat/16) 0::Sh.je.getD (c.toNat%16) 0::Sh.bZ r:=rfl
  have hc:=c.toNat_lt
  rw[e,List.all_cons,List.all_cons,yN r,yL _ (by omega),yL _ (by omega)]
  rfl
theorem P8 {t:Bs} (h:t.length=20):cH (Sh.bZ t)=true:=by
 have h1:=Sh.yP t
 unfold cH jP
 rw[yN,Bool.true_and,Bool.and_eq_true,decide_eq_true_eq,decide_eq_true_eq]
 omega
theorem y8 {s:Bs} (h:cH s=true):s.length=40∧s.all jg=true:=by
 unfold cH jP at h
 rw[Bool.and_eq_true,Bool.and_eq_true,decide_eq_true_eq,decide_eq_true_eq]at h
 exact⟨h.2,h.1.1⟩
abbrev Rw:=Bs×Nat×Nat
abbrev dw:Rw:=([],0,0)
def iR (r:Rw):AV:=.agg [.str r.1,.int .i64 (r.2.1:Nat),.int .u32 (r.2.2:Nat)]
def eu (L:List Rw):List AV:=L.map iR
theorem jX {L:List Rw} {i:Nat} (h:i<L.length):nth (eu L) i=.agg [.str (L.getD i dw).1,.int .i64 ((L.getD i dw).2.1:Nat),.int .u32 ((L.getD i dw).2.2:Nat)]:=by
 simp[nth,eu,iR,List.getD_eq_getElem?_getD,h]
theorem eI (L:List Rw):(eu L).length=L.length:=by simp[eu]
theorem ai4 {L:List Rw}:(eu L).all aQ=true:=by simp[eu,iR,aQ,cellsOf,isCell]
theorem ai3 {L:List Rw} {a:Bs} {b c:Nat}:eu L++[.agg [.str a,.int .i64 (b:Nat),.int .u32 (c:Nat)]]=eu (L++[(a,b,c)]):=by simp[eu,iR]
theorem ai5:eu []=[]:=(rfl)
theorem BJ (L:List Rw):aG (eu L) 0 L.length=eu L:=by
 unfold aG
 rw[List.drop_zero,List.take_of_length_le (by rw[eI];omega)]
def cf (s:Bs) (o n:Nat):Bs:=(s.drop o).take n
theorem iy {s:Bs} {o n:Nat} (h:o+n≤s.length):(cf s o n).length=n:=by unfold cf;rw[List.length_take,List.length_drop];omega
theorem ek (s:Bs) (o n:Nat):(s.drop o).take n=cf s o n:=rfl
def cR (s:Bs) (i:Nat):Nat:=if i=0 then 0 else cv (cf s (4+4*i) 4)
def cF (s:Bs) (k:Nat):List AV:=(List.range 257).map fun i=>.int .i64 ((if i≤k then cR s i else 0:Nat):Int)
theorem sL (s:Bs) (i:Nat):cR s i<4294967296:=by
 unfold cR
 split
 ·omega
 ·exact mS (n:=4) (by unfold cf;rw[List.length_take];omega)
theorem jd (s:Bs) (k:Nat):(cF s k).length=257:=by simp[cF]
theorem nh (s:Bs) (k:Nat) {i:Nat} (h:i<257):(cF s k).getD i .undef=.int .i64 ((if i≤k then cR s i else 0:Nat):Int):=by
 unfold cF
 rw[List.getD_eq_getElem?_getD,List.getElem?_map,List.getElem?_range h];rfl
theorem Nl (s:Bs) {k:Nat} (h:k<256):(cF s k).set (k+1) (.int .i64 (cR s (k+1):Nat))=cF s (k+1):=by
 apply List.ext_getElem?
 intro j
 rw[List.getElem?_set,jd]
 unfold cF
 rw[List.getElem?_map,List.getElem?_map]
 by_cases hx:k+1=j
 ·subst hx
  rw[if_pos rfl,if_pos (by omega),List.getElem?_range (by omega)]
  simp
 ·rw[if_neg hx]
  by_cases hj:j<257
  ·rw[List.getElem?_range hj]
   simp only[Option.map_some]
   by_cases h1:j≤k
   ·rw[if_pos h1,if_pos (by omega)]
   ·rw[if_neg h1,if_neg (by omega)]
  ·rw[List.getElem?_eq_none (by simp;omega)];rfl
theorem x7 {id:Nat} {s:Bs} {k:Nat}:(cF s k).map (killC id)=cF s k:=by simp[cF,killC]
theorem Nj {id sz:Nat} {es:List AV} {s:Bs} {k:Nat}:(cF s k).map (bQ id sz es)=cF s k:=by simp[cF,bQ]
theorem Nk {s:Bs} {k:Nat}:(cF s k).all noRefC=true:=by simp[cF,noRefC]
theorem gM {a b:AV} {xs:List AV} {i:Nat} (h:i<xs.length):((a::(xs++[b])).drop (1+i)).getD 0 .undef=xs.getD i .undef:=by
 rw[Nat.add_comm,List.drop_succ_cons,List.getD_eq_getElem?_getD,List.getElem?_drop,Nat.add_zero,List.getElem?_append_left h,List.getD_eq_getElem?_getD]
theorem gN {a b:AV} {xs:List AV} {i:Nat} (h:i<xs.length):0<((a::(xs++[b])).drop (1+i)).length:=by simp;omega
theorem Oo {a b v:AV} {xs:List AV} {i:Nat} (h:i<xs.length):bU (a::(xs++[b])) (1+i) [v]=a::(xs.set i v++[b]):=by
 unfold bU
 rw[Nat.add_comm 1 i,List.take_succ_cons,show i+1+[v].length=(i+1)+1 by simp,List.drop_succ_cons,List.take_append_of_le_length (by omega),List.drop_append_of_le_length (by omega),List.set_eq_take_append_cons_drop,if_pos h]
 simp
def ep (s:Bs) (n:Nat):Nat:=s.length-40-(1032+28*n)
def fE (s:Bs) (k:Nat):Bs:=cf s (1032+20*k) 20
def o4 (s:Bs) (k:Nat):Nat:=((fE s k).getD 0 0).toNat
def lG (s:Bs) (k:Nat):Prop:=(0<k∧Op.bytesLess (cf s (1012+20*k) 20) (fE s k)=false)∨k<cR s (o4 s k)∨cR s (o4 s k+1)≤k
def fy (s:Bs) (n k:Nat):Nat:=cv (cf s (1032+24*n+4*k) 4)
def ju (s:Bs) (n k:Nat):Nat:=if 2147483648≤fy s n k then cv (cf (cf s (1032+28*n) (ep s n)) (8*(fy s n k-2147483648)) 8)else fy s n k
open Classical in
noncomputable def gu (s:Bs) (n j:Nat):Except Int Rw:=
 if lG s j then .error 3
 else if 2147483648≤fy s n j∧ep s n/8≤fy s n j-2147483648 then .error 3
 else if 1099511627776<ju s n j then .error 2
 else .ok (Sh.bZ (fE s j),ju s n j,cv (cf s (1032+20*n+4*j) 4))
noncomputable def rowsP (s:Bs) (n:Nat):Nat→Except Int (List Rw)
 | 0=>.ok []
 | k+1=>match rowsP s n k with
  | .error e=>.error e
  | .ok l=>match gu s n k with
   | .error e=>.error e
   | .ok r=>.ok (l++[r])
theorem BK {s:Bs} {n:Nat} {e:Int}:∀{m k:Nat},k≤m→rowsP s n k=.error e→rowsP s n m=.error e
 | 0,k,h,h1=>by
  obtain rfl:k=0:=by omega
  exact h1
 | m+1,k,h,h1=>by
  by_cases hk:k=m+1
  ·subst hk;exact h1
  ·unfold rowsP
   rw[BK (by omega:k≤m) h1]
theorem nP {s:Bs} {n:Nat}:∀{k:Nat} {l:List Rw},rowsP s n k=.ok l→l.length=k
 | 0,l,h=>by
  unfold rowsP at h
  cases h;rfl
 | k+1,l,h=>by
  unfold rowsP at h
  cases h1:rowsP s n k with
  | error e=>rw[h1]at h;cases h
  | ok l'=>
   rw[h1]at h
   cases h2:gu s n k with
   | error e=>rw[h2]at h;cases h
   | ok r=>
    rw[h2]at h
    cases h
    rw[List.length_append,nP h1];rfl
def x6 (s:Bs):Prop:=∀i,i<256→cR s i≤cR s (i+1)
open Classical in
noncomputable def dT (s:Bs):Except Int (List Rw×Bs):=
 let n:=cR s 256
 if s.length<1072 then .error 6
 else if s.take 8≠[255,116,79,99,0,0,0,2]then .error 3
 else if ¬x6 s then .error 3
 else if 1000<n then .error 2
 else if s.length<1072+28*n then .error 6
 else if ep s n%8≠0 then .error 3
 else match rowsP s n n with
  | .error e=>.error e
  | .ok l=>if Sh.fg (s.take (s.length-20))≠s.drop (s.length-20)then .error 5 else .ok (l,Sh.bZ (cf s (s.length-40) 20))
abbrev aX (s:Bs) (p:List Rw×Bs):AV:=.aA (.agg (.ro 3 (eu p.1)::(cF s 256++[.str p.2])))
def parseA (s:Bs):Except Int (List Rw×Bs)→AV
 | .error e=>.ai [.lit (.pointer none),.int .i64 e]
 | .ok p=>.ai [aX s p,.int .i64 0]
set_option maxHeartbeats 4000000 in
theorem aqH (s:Bs) (hs:s.length≤100000):aO Tryz.prog 34 [.str s] (parseA s (dT s)):=by
 refine Cod.aqI (fun E R hN hR=>?_)
 have bad:∀{h} (e:Int),dT s=.error e→R h (.ai [.lit (.pointer none),.int .i64 e]) [.undef]:=fun e he=>hR.ro ⟨rfl,by rw[he];rfl⟩
 by_cases h0:s.length<1072
 ·refine wW ?_
  exact bad 6 (by unfold dT;rw[if_pos h0])
 by_cases h1:s.take 8=[255,116,79,99,0,0,0,2]
 rotate_left
 ·refine aw h1 ?_
  exact bad 3 (by unfold dT;rw[if_neg h0,if_pos h1])
 refine aw h1 ?_
 refine bm hN (fun k:Nat=>⟨[(0,.str s),(4,.ab 240019 0),(20,.int .i64 k)],[(240019,.var (.aq::(cF s k++[.str []])))]⟩) (fun k=>k≤256∧∀i,i<k→cR s i≤cR s (i+1)) (fun k=>256-k) 0 (.le (by simp(disch:=first | omega | (simp only[Lx];omega))only[go_sem,simprocAttr];rfl)) ⟨by omega,fun i h=>by omega⟩ ?_
 rintro k R1 ⟨hk,hmono⟩ hR1
 by_cases hlt:k<256
 ·have e1:((8:Int)+4*(k:Int)).toNat=8+4*k:=by omega
  have e2:((12:Int)+4*(k:Int)).toNat=12+4*k:=by omega
  have e3:12+4*k-(8+4*k)=4:=by omega
  have hb:=lY (cf s (8+4*k) 4) (by rw[iy (by omega)];omega)
  have hfe:cv (cf s (8+4*k) 4)=cR s (k+1):=by
   unfold cR
   rw[if_neg (by omega),show 4+4*(k+1)=8+4*k by omega]
  rw[hfe]at hb
  have hl:=sL s (k+1)
  have hl2:=sL s k
  have hst:=Nl s hlt
  have hfl:=jd s k
  have hfl1:=jd s (k+1)
  have hg0:=nh s (k+1) (i:=k) (by omega)
  have hg1:=nh s (k+1) (i:=k+1) (by omega)
  rw[if_pos (by omega)]at hg0 hg1
  refine dW e1 e2 e3 @ek ?_
  refine aC hb rfl rfl ?_
  have e4:((k:Int)+1).toNat=k+1:=by omega
  simp(disch:=first | omega | (simp only[Lx];omega))only[go_sem,simprocAttr,gM,gN,Oo,Nat.mul_one,e4,hst,hg0,hg1]
  by_cases hm:cR s k≤cR s (k+1)
  ·have hi:¬((cR s (k+1):Nat):Int)<(cR s k:Nat):=by omega
   refine aw hi ?_
   refine hR1 (k+1) _ (by omega) ⟨by omega,fun i h=>?_⟩ (.le vV)
   rcases Nat.lt_succ_iff_lt_or_eq.1 h with h | rfl
   ·exact hmono i h
   ·exact hm
  ·have hi:((cR s (k+1):Nat):Int)<(cR s k:Nat):=by omega
   refine aw hi ?_
   exact bad 3 (by unfold dT;rw[if_neg h0,if_neg (fun h=>h h1),if_pos (fun h=>hm (h k hlt))])
 ·obtain rfl:k=256:=by omega
  have hok:x6 s:=fun i h=>hmono i h
  have hl:=sL s 256
  have hfl:=jd s 256
  have hg:=nh s 256 (i:=256) (by omega)
  rw[if_pos (by omega)]at hg
  obtain⟨n,hn⟩:∃n,n=cR s 256:=⟨_,rfl⟩
  rw[←hn]at hl hg
  have hb0:dT s=(if 1000<n then .error 2
   else if s.length<1072+28*n then .error 6
   else if ep s n%8≠0 then .error 3
   else match rowsP s n n with
    | .error e=>.error e
    | .ok l=>if Sh.fg (s.take (s.length-20))≠s.drop (s.length-20)then .error 5 else .ok (l,Sh.bZ (cf s (s.length-40) 20))):=by
   unfold dT
   rw[if_neg h0,if_neg (fun h=>h h1),if_neg (fun h=>h hok),←hn]
  have hd0:((cF s 256++[AV.str []]).drop 256).getD 0 .undef=.int .i64 n:=by
   rw[←hg,List.getD_eq_getElem?_getD,List.getElem?_drop,Nat.add_zero,List.getElem?_append_left (by omega),List.getD_eq_getElem?_getD]
  have hd1:0<((cF s 256++[AV.str []]).drop 256).length:=by simp;omega
  refine bc hd0 hd1 ?_
  by_cases g1:1000<n
  ·have hi:(1000:Int)<(n:Int):=by omega
   refine aw hi ?_
   exact bad 2 (by rw[hb0,if_pos g1])
  have hi:¬(1000:Int)<(n:Int):=by omega
  rw[if_neg g1]at hb0
  refine aw hi ?_
  by_cases g2:s.length<1072+28*n
  ·refine wW ?_
   exact bad 6 (by rw[hb0,if_pos g2])
  rw[if_neg g2]at hb0
  have ea:((1032:Int)+28*(n:Int)).toNat=1032+28*n:=by omega
  have eb:((s.length:Int)-40).toNat-(1032+28*n)=ep s n:=by unfold ep;omega
  have efl:(cf s (1032+28*n) (ep s n)).length=ep s n:=iy (by unfold ep;omega)
  refine dW ea eb @ek efl ?_
  by_cases g3:ep s n%8=0
  rotate_left
  ·have hi:¬((ep s n:Nat):Int)%8=0:=by omega
   refine bc efl hi ?_
   exact bad 3 (by rw[hb0,if_pos g3])
  have hi:((ep s n:Nat):Int)%8=0:=by omega
  rw[if_neg (fun h=>h g3)]at hb0
  refine bc efl hi ?_
  obtain⟨F,hF⟩:∃F,F=cf s (1032+28*n) (ep s n):=⟨_,rfl⟩
  rw[←hF]at efl
  rw[←hF]
  have hn1:n≤1000:=by omega
  refine bm hN (fun p:Nat×List Rw=>⟨[(0,.str s),(4,.ab 240019 0),(6,.int .i64 n),(7,.str F),(80,.int .i64 n),(81,.int .i64 p.1)],[(240019,.var (.sl 240196 0 p.2.length::(cF s 256++[.str []]))),(240196,.arr 3 (eu p.2))]⟩)
   (fun p=>p.1≤n∧rowsP s n p.1=.ok p.2) (fun p=>n-p.1) (0,[]) (.kY 240019 0 240196 3 (.aq::(cF s 256++[.str []])) rfl rfl rfl (.le (by simp(disch:=first | omega | (simp only[Lx];omega))only[go_sem,simprocAttr,List.map_cons,List.map_append,x7,List.set_cons_zero,ai5]))) ⟨by omega,rfl⟩ ?_
  rintro⟨k,l⟩ R2 ⟨hk2,hrows⟩ hR2
  simp only at hk2 hrows
  have hll:=nP hrows
  by_cases hlt2:k<n
  ·have hrb:1032+20*k+20≤s.length:=by omega
   have c1:((1032:Int)+20*(k:Int)).toNat=1032+20*k:=by omega
   have c2:((1032:Int)+20*(k:Int)+20).toNat-(1032+20*k)=20:=by omega
   have hrl:=iy hrb
   change (fE s k).length=20 at hrl
   have hrw:cf s (1032+20*k) 20=fE s k:=rfl
   obtain⟨raw,hraw⟩:∃raw,raw=fE s k:=⟨_,rfl⟩
   have hch:(raw.getD 0 0).toNat=o4 s k:=by rw[hraw];rfl
   rw[←hraw]at hrl hrw
   have hcb:=(raw.getD 0 0).toNat_lt
   obtain⟨c,hc⟩:∃c,c=o4 s k:=⟨_,rfl⟩
   rw[hch,←hc]at hcb
   rw[←hc]at hch
   have hf0:=nh s 256 (i:=c) (by omega)
   have hf1:=nh s 256 (i:=c+1) (by omega)
   rw[if_pos (by omega)]at hf0 hf1
   have badr:∀{h} (e:Int),gu s n k=.error e→R h (.ai [.lit (.pointer none),.int .i64 e]) [.undef]:=fun e he=>bad e (by
    have h1:rowsP s n (k+1)=.error e:=by unfold rowsP;rw[hrows];simp only[he]
    rw[hb0,BK (by omega:k+1≤n) h1])
   have bad3:∀{h},lG s k→R h (.ai [.lit (.pointer none),.int .i64 3]) [.undef]:=fun h=>badr 3 (by unfold gu;rw[if_pos h])
   refine dW c1 c2 @ek hrw ?_
   have c3:((1032:Int)+20*(k:Int)-20).toNat=1012+20*k:=by omega
   have c4:1032+20*k-(1012+20*k)=20:=by omega
   have c5:((c:Int)+1).toNat=c+1:=by omega
   obtain⟨prev,hprev⟩:∃prev,prev=cf s (1012+20*k) 20:=⟨_,rfl⟩
   obtain⟨fc,hfc⟩:∃fc,fc=cR s c:=⟨_,rfl⟩
   obtain⟨fd,hfd⟩:∃fd,fd=cR s (c+1):=⟨_,rfl⟩
   rw[←hfc]at hf0
   rw[←hfd]at hf1
   have hbr:lG s k↔(0<k∧Op.bytesLess prev raw=false)∨k<fc∨fd≤k:=by
    unfold lG;rw[←hc,←hraw,←hprev,←hfc,←hfd]
   by_cases hA:0<k∧Op.bytesLess prev raw=false
   ·have hi:(0:Int)<(k:Int):=by omega
    have hA2:=hA.2
    simp(disch:=first | omega | (simp only[Lx];omega))only[go_sem,simprocAttr,hi,c1,c3,c4,ek,←hprev,hA2,Bool.not_false,Bool.not_true]
    (repeat(first | refine dk ?_ | refine di ?_ | refine dj ?_)<;>simp(disch:=first | omega | (simp only[Lx];omega))only[go_sem,simprocAttr,hi,c1,c3,c4,ek,←hprev,hA2,Bool.not_false,Bool.not_true])
    exact bad3 (hbr.2 (.inl hA))
   have hsel:(¬(0:Int)<(k:Int)∧¬(0:Int)<(k:Int))∨((0:Int)<(k:Int)∧Op.bytesLess prev raw=true):=by
    by_cases h:0<k
    ·exact .inr ⟨by omega,by
      cases h2:Op.bytesLess prev raw with
      | true=>rfl
      | false=>exact absurd ⟨h,h2⟩ hA⟩
    ·exact .inl ⟨by omega,by omega⟩
   by_cases hB:k<fc
   ·have hiB:(k:Int)<(fc:Int):=by omega
    rcases hsel with⟨hi,hA2⟩ | ⟨hi,hA2⟩
    ·simp(disch:=first | omega | (simp only[Lx];omega))only[go_sem,simprocAttr,hi,c1,c3,c4,c5,ek,←hprev,Bool.not_false,Bool.not_true,gM,gN,Nat.mul_one,hch,hf0,hf1]
     (repeat(first | refine dk ?_ | refine di ?_ | refine dj ?_)<;>simp(disch:=first | omega | (simp only[Lx];omega))only[go_sem,simprocAttr,hi,c1,c3,c4,c5,ek,←hprev,Bool.not_false,Bool.not_true,gM,gN,Nat.mul_one,hch,hf0,hf1])
     exact bad3 (hbr.2 (.inr (.inl hB)))
    ·simp(disch:=first | omega | (simp only[Lx];omega))only[go_sem,simprocAttr,hi,hA2,c1,c3,c4,c5,ek,←hprev,Bool.not_false,Bool.not_true,gM,gN,Nat.mul_one,hch,hf0,hf1]
     (repeat(first | refine dk ?_ | refine di ?_ | refine dj ?_)<;>simp(disch:=first | omega | (simp only[Lx];omega))only[go_sem,simprocAttr,hi,hA2,c1,c3,c4,c5,ek,←hprev,Bool.not_false,Bool.not_true,gM,gN,Nat.mul_one,hch,hf0,hf1])
     exact bad3 (hbr.2 (.inr (.inl hB)))
   have hiB:¬(k:Int)<(fc:Int):=by omega
   by_cases hC:fd≤k
   ·have hiC:(fd:Int)≤(k:Int):=by omega
    rcases hsel with⟨hi,hA2⟩ | ⟨hi,hA2⟩
    ·simp(disch:=first | omega | (simp only[Lx];omega))only[go_sem,simprocAttr,hi,hiB,hiC,c1,c3,c4,c5,ek,←hprev,Bool.not_false,Bool.not_true,gM,gN,Nat.mul_one,hch,hf0,hf1]
     (repeat(first | refine dk ?_ | refine di ?_ | refine dj ?_)<;>simp(disch:=first | omega | (simp only[Lx];omega))only[go_sem,simprocAttr,hi,hiB,hiC,c1,c3,c4,c5,ek,←hprev,Bool.not_false,Bool.not_true,gM,gN,Nat.mul_one,hch,hf0,hf1])
     exact bad3 (hbr.2 (.inr (.inr hC)))
    ·simp(disch:=first | omega | (simp only[Lx];omega))only[go_sem,simprocAttr,hi,hiB,hiC,hA2,c1,c3,c4,c5,ek,←hprev,Bool.not_false,Bool.not_true,gM,gN,Nat.mul_one,hch,hf0,hf1]
     (repeat(first | refine dk ?_ | refine di ?_ | refine dj ?_)<;>simp(disch:=first | omega | (simp only[Lx];omega))only[go_sem,simprocAttr,hi,hiB,hiC,hA2,c1,c3,c4,c5,ek,←hprev,Bool.not_false,Bool.not_true,gM,gN,Nat.mul_one,hch,hf0,hf1])
     exact bad3 (hbr.2 (.inr (.inr hC)))
   have hiC:¬(fd:Int)≤(k:Int):=by omega
   rcases hsel with⟨hi,hA2⟩ | ⟨hi,hA2⟩
   all_goals
    simp(disch:=first | omega | (simp only[Lx];omega))only[go_sem,simprocAttr,hi,hiB,hiC,hA2,c1,c3,c4,c5,ek,←hprev,Bool.not_false,Bool.not_true,gM,gN,Nat.mul_one,hch,hf0,hf1]
    (repeat(first | refine dk ?_ | refine di ?_ | refine dj ?_)<;>simp(disch:=first | omega | (simp only[Lx];omega))only[go_sem,simprocAttr,hi,hiB,hiC,hA2,c1,c3,c4,c5,ek,←hprev,Bool.not_false,Bool.not_true,gM,gN,Nat.mul_one,hch,hf0,hf1])
    have d1:((1032:Int)+24*(n:Int)+4*(k:Int)).toNat=1032+24*n+4*k:=by omega
    have d2:((1032:Int)+24*(n:Int)+4*(k:Int)+4).toNat-(1032+24*n+4*k)=4:=by omega
    have d3:((1032:Int)+20*(n:Int)+4*(k:Int)).toNat=1032+20*n+4*k:=by omega
    have d4:((1032:Int)+20*(n:Int)+4*(k:Int)+4).toNat-(1032+20*n+4*k)=4:=by omega
    have hbn:=lY (cf s (1032+24*n+4*k) 4) (by rw[iy (by omega)];omega)
    have hbc:=lY (cf s (1032+20*n+4*k) 4) (by rw[iy (by omega)];omega)
    have hnl:fy s n k<4294967296:=mS (n:=4) (by rw[iy (by omega)];omega)
    have hcl:cv (cf s (1032+20*n+4*k) 4)<4294967296:=mS (n:=4) (by rw[iy (by omega)];omega)
    rw[d1,d2]
    refine aC hbn rfl rfl ?_
    change fy s n k<4294967296 at hnl
    rw[show cv (cf s (1032+24*n+4*k) 4)=fy s n k from rfl]
    have hnb:¬lG s k:=fun h=>by
     rcases hbr.1 h with h | h | h
     ·exact hA h
     ·exact hB h
     ·exact hC h
    have hpl:ju s n k=if 2147483648≤fy s n k then cv (cf F (8*(fy s n k-2147483648)) 8)else fy s n k:=by unfold ju;rw[←hF]
    have hrp:gu s n k=(if 2147483648≤fy s n k∧ep s n/8≤fy s n k-2147483648 then .error 3
     else if 1099511627776<ju s n k then .error 2
     else .ok (Sh.bZ raw,ju s n k,cv (cf s (1032+20*n+4*k) 4))):=by unfold gu;rw[if_neg hnb,hraw]
    obtain⟨q,hq⟩:∃q,q=fy s n k:=⟨_,rfl⟩
    obtain⟨cr,hcr⟩:∃cr,cr=cv (cf s (1032+20*n+4*k) 4):=⟨_,rfl⟩
    rw[←hq]at hnl hpl hrp
    rw[←hcr]at hcl hrp hbc
    rw[←hq]
    have hpb:ju s n k<18446744073709551616:=by
     rw[hpl]
     split
     ·exact Nat.lt_of_lt_of_le (mS (n:=8) (by unfold cf;rw[List.length_take];exact Nat.min_le_left ..)) (by decide)
     ·omega
    refine wW ?_
    refine fV (y:=Cod.De) hN (fun _:Unit=>⟨[(0,.str s),(4,.ab 240019 0),(6,.int .i64 n),(7,.str F),(8,.int .i64 k),(9,.str raw),(10,.int .u64 (ju s n k:Nat)),(80,.int .i64 n),(81,.int .i64 k)],[(240019,.var (.sl 240196 0 l.length::(cF s 256++[.str []]))),(240196,.arr 3 (eu l))]⟩) (fun _=>¬(2147483648≤q∧ep s n/8≤q-2147483648)) (fun R3 hR3=>?_) ?_
    ·by_cases hf:2147483648≤q
     ·have hif:(2147483648:Int)≤(q:Int):=by omega
      rw[if_pos hf]at hpl
      refine aw hif ?_
      obtain⟨j,hj⟩:∃j,j=q-2147483648:=⟨_,rfl⟩
      have e1:((q:Int)-2147483648)=(j:Int):=by omega
      by_cases hg:ep s n/8≤j
      ·have hig:((ep s n:Nat):Int)/8≤(j:Int):=by omega
       refine dz e1 efl hig ?_
       exact badr 3 (by rw[hrp,if_pos ⟨hf,by omega⟩])
      ·have hig:¬((ep s n:Nat):Int)/8≤(j:Int):=by omega
       have h8:=lY (cf F (8*j) 8) (by rw[iy (by omega)];omega)
       have d5:((8:Int)*(j:Int)).toNat=8*j:=by omega
       have d6:((8:Int)*(j:Int)+8).toNat-8*j=8:=by omega
       refine rl e1 efl hig d5 d6 @ek ?_
       refine aC h8 rfl rfl ?_
       rw[←hj]at hpl
       rw[←hpl]
       refine wW ?_
       exact hR3 () _ (fun h=>hg (by omega)) (.le vV)
     ·have hif:¬(2147483648:Int)≤(q:Int):=by omega
      rw[if_neg hf]at hpl
      refine aw hif ?_
      exact hR3 () _ (fun h=>hf h.1) (.le (by rw[hpl];exact vV))
    ·intro _ hng
     rw[if_neg hng]at hrp
     obtain⟨pl,hpl2⟩:∃pl,pl=ju s n k:=⟨_,rfl⟩
     rw[←hpl2]at hrp
     rw[←hpl2]
     by_cases hbig:1099511627776<pl
     ·have hib:(1099511627776:Int)<(pl:Int):=by omega
      refine aw hib ?_
      exact badr 2 (by rw[hrp,if_pos hbig])
     ·have hib:¬(1099511627776:Int)<(pl:Int):=by omega
      rw[if_neg hbig]at hrp
      have hhex:=Sh.nn raw (by omega)
      refine dW hib d3 d4 @ek ?_
      refine aC hhex rfl rfl ?_
      refine wW ?_
      refine aC hbc rfl rfl ?_
      refine aw @eI ?_
      rw[BJ,ai3]
      refine⟨⟨ai4,by omega⟩,hR2 (k+1,l++[(Sh.bZ raw,pl,cr)]) _ (by simp only;omega) ⟨by simp only;omega,by simp only;unfold rowsP;rw[hrows];simp only[hrp]⟩ (.le (by rw[List.length_append,List.length_singleton];simp(disch:=first | omega | (simp only[Lx];omega))only[go_sem,simprocAttr,List.map_append,x7,List.map_cons,List.map_nil]))⟩
  ·obtain rfl:k=n:=by omega
   rw[hrows]at hb0
   simp only at hb0
   have m1:((s.length:Int)-20).toNat=s.length-20:=by omega
   have m2:((s.length:Int)-40).toNat=s.length-40:=by omega
   have m3:s.length-20-(s.length-40)=20:=by omega
   have l6:=Sh.uT (s.take (s.length-20)) (by rw[List.length_take];omega)
   have hhx:=Sh.nn (cf s (s.length-40) 20) (by rw[iy (by omega)];omega)
   refine aw m1 ?_
   refine aC l6 rfl rfl ?_
   by_cases hsh:Sh.fg (s.take (s.length-20))=s.drop (s.length-20)
   ·refine jD hsh m1 m2 m3 @ek ?_
    refine aC hhx rfl rfl ?_
    have htk:(cF s 256++[AV.str []]).take 257=cF s 256:=List.take_left' hfl
    obtain⟨sm,hsm⟩:∃sm,sm=Sh.bZ (cf s (s.length-40) 20):=⟨_,rfl⟩
    rw[←hsm]at hb0
    rw[←hsm]
    simp(disch:=first | omega | (simp only[Lx];omega))only[go_sem,simprocAttr,htk,List.append_nil]
    have hb1:dT s=.ok (l,sm):=by rw[hb0,if_neg (fun h=>h hsh)]
    refine hR.wk (h':=[]) (r':=.ai [aX s (l,sm),.int .i64 0]) (ar':=[.undef]) rfl (.bG 240196 (.lZ 0 0 240019 [.ab 240019 0,.int .i64 0] (.ro 3 (eu l)::(cF s 256++[.str sm])) vV (by rfl) ?_ ?_ (.le ?_))) ⟨rfl,by rw[hb1];rfl⟩
    ·simp(disch:=first | omega | (simp only[Lx];omega))only[go_sem,simprocAttr,List.map_append,Nj,BJ,eI]
    ·simp[noRefC,Nk]
    ·simp(disch:=first | omega | (simp only[Lx];omega))only[go_sem,simprocAttr,aX]
   ·refine aw hsh ?_
    exact bad 5 (by rw[hb0,if_pos hsh])
abbrev kf (L:List Rw):List Fi:=L.map fun r=>(r.1,[])
theorem p9 (L:List Rw):(kf L).length=L.length:=List.length_map ..
theorem p8 (L:List Rw) (i:Nat):((kf L).getD i aW).1=(L.getD i dw).1:=by
 rw[List.getD_eq_getElem?_getD,List.getD_eq_getElem?_getD,List.getElem?_map]
 cases L[i]?<;>rfl
theorem apt (s:Bs) (p:List Rw×Bs):aO Tryz.prog 36 [aX s p] (.int .i64 p.1.length):=by
 refine Cod.apu (fun E R hN hR=>?_)
 refine aw @eI ?_
 exact hR.ro ⟨rfl,rfl⟩
theorem aqM (s:Bs) (p:List Rw×Bs):aO Tryz.prog 38 [aX s p] (.str p.2):=by
 refine Cod.aqN (fun E R hN hR=>?_)
 have h:(cF s 256++[AV.str p.2]).getD 257 .undef=.str p.2:=by rw[List.getD_eq_getElem?_getD,List.getElem?_append_right (by rw[jd];omega),jd];rfl
 have hl:=jd s 256
 refine aw h ?_
 exact hR.ro ⟨rfl,rfl⟩
theorem aoS (r:Rw) (t:Bs):aO Tryz.prog 79 [iR r,.str t] (.int .i64 (Lib.compareBytes r.1 t)):=by
 refine Cod.aoT (fun E R hN hR=>?_)
 simp(disch:=omega)only[go_sem,simprocAttr,iR]
 refine aC (si r.1 t) rfl rfl ?_
 refine wW ?_
 exact hR.ro ⟨rfl,rfl⟩
abbrev ym (f:Nat):Value:=.func (.func f) #[] #[]
theorem BN (f:Nat) (hf:callable Tryz.prog f=true) (hsp:∀(r:Rw) (t:Bs),aO Tryz.prog f [iR r,.str t] (.int .i64 (Lib.compareBytes r.1 t))) (L:List Rw) (t:Bs) (hs:du (kf L)) (hl:L.length≤100000) :
    aO Tryz.prog 78 [.ro 3 (eu L),.str t,.lit (ym f)] (gO t (kf L)):=by
 refine Cod.ajk (fun E R hN hR=>?_)
 have hp:=nH t (kf L)
 have hkl:=p9 L
 refine aw @eI ?_
 refine bm hN (fun p:Nat×Nat=>⟨[(0,.ro 3 (eu L)),(1,.str t),(2,.lit (ym f)),(8,.int .i64 L.length),(9,.int .i64 p.1),(10,.int .i64 p.2)],[]⟩) (fun p=>p.1≤posF t (kf L)∧posF t (kf L)≤p.2∧p.2≤L.length) (fun p=>p.2-p.1) (0,L.length) (.le vV) ⟨Nat.zero_le _,by omega,Nat.le_refl _⟩ ?_
 rintro⟨i,j⟩ R1 ⟨h1,h2,h3⟩ hR1
 simp only at h1 h2 h3
 by_cases hlt:i<j
 ·have hm:IntKind.i64.wrap (((i:Int)+(j:Int)).fdiv (2^min 1 64))=(((i+j)/2:Nat):Int):=by
   rw[show(2:Int)^min 1 64=2 from rfl,Int.fdiv_eq_ediv_of_nonneg _ (by decide)]
   rw[eU ⟨by omega,by omega⟩]
   omega
  have hk:(i+j)/2<L.length:=by omega
  have hpi:=uh t hs (k:=(i+j)/2) (by omega)
  obtain⟨k,hk0⟩:∃k,k=(i+j)/2:=⟨_,rfl⟩
  rw[←hk0]at hm hk hpi
  rw[p8]at hpi
  have hik:i≤k:=by omega
  have hkj:k<j:=by omega
  clear hk0
  refine dz @eI hm @jX ?_
  refine sD hf ?_
  refine aC (hsp (L.getD k dw) t) rfl rfl ?_
  generalize Lib.compareBytes (L.getD k dw).1 t=c at *
  by_cases hc:c<0
  ·refine aw hc ?_
   exact hR1 (k+1,j) _ (by simp only;omega) ⟨by simp only;omega,by simp only;omega,h3⟩ (.le vV)
  ·refine aw hc ?_
   exact hR1 (i,k) _ (by simp only;omega) ⟨h1,by simp only;omega,by simp only;omega⟩ (.le vV)
 ·obtain rfl:i=j:=by omega
  obtain rfl:i=posF t (kf L):=by omega
  by_cases hlt:posF t (kf L)<L.length
  ·have hi:((posF t (kf L):Nat):Int)<(L.length:Int):=by omega
   have hz:∀a:Bs,(Lib.compareBytes a t=0)↔a=t:=fun a=>⟨kC,fun e=>by rw[e];exact lH t⟩
   have hz:=hz (L.getD (posF t (kf L)) dw).1
   refine dz @eI hi @jX ?_
   refine jN @eI hi @jX ?_
   refine yw hf ?_
   refine jJ (by simp(disch:=first | omega | (simp only[Lx];omega))only[go_sem,simprocAttr,iR]) (hsp (L.getD (posF t (kf L)) dw) t) vV rfl rfl ?_
   have hfo:∀b:Bool,decide (Lib.compareBytes (L.getD (posF t (kf L)) dw).1 t=0)=b→gO t (kf L)=.ai [.int .i64 (posF t (kf L):Nat),.bool b]:=by
    intro b hb
    unfold gO
    rw[p8,←hb,decide_eq_decide.2 (⟨fun h=>hz.2 h.2,fun h=>⟨by omega,hz.1 h⟩⟩:(posF t (kf L)<(kf L).length∧(L.getD (posF t (kf L)) dw).1=t)↔Lib.compareBytes (L.getD (posF t (kf L)) dw).1 t=0)]
   generalize Lib.compareBytes (L.getD (posF t (kf L)) dw).1 t=c at *
   by_cases hc:c=0
   ·refine aw hc ?_
    refine bW hc ?_
    exact hR.ro ⟨rfl,(hfo true (by simp[hc])).symm⟩
   ·refine aw hc ?_
    refine bW hc ?_
    exact hR.ro ⟨rfl,(hfo false (by simp[hc])).symm⟩
  ·refine bc @eI hlt ?_
   refine ft @eI hlt ?_
   refine yv ?_
   refine aw hlt ?_
   refine bW hlt ?_
   exact hR.ro ⟨rfl,by unfold gO;rw[decide_eq_false (fun h:_∧_=>hlt (by have:=h.1;omega))]⟩
abbrev fw (t:Bs) (L:List Rw):List Bs:=bS t (kf L)
set_option maxHeartbeats 1000000 in
theorem apH (s:Bs) (p:List Rw×Bs) (t:Bs) (hs:du (kf p.1)) (hl:p.1.length≤100000) (ht:t.length≤9223372036854775807) (hp:∀r∈p.1,r.1.length≤9223372036854775807) :
    aO Tryz.prog 41 [aX s p,.str t] (.ro 1 (aL (fw t p.1))):=by
 refine Cod.apI (fun E R hN hR=>?_)
 have hfl:=jd s 256
 obtain⟨L,sm⟩:=p
 simp only at hs hl hp hR ⊢
 refine wW ?_
 refine aC (BN _ (by kernel_rfl) aoS L t hs hl) rfl rfl ?_
 have hpl:=nH t (kf L)
 have hkl:=p9 L
 obtain⟨o,ho⟩:∃o,o=posF t (kf L):=⟨_,rfl⟩
 unfold fw bS at hR
 rw[←ho]at hpl hR
 simp(disch:=first | omega | (simp only[Lx];omega))only[go_sem,simprocAttr,←ho]
 obtain⟨D,hD⟩:∃D,D=(kf L).drop o:=⟨_,rfl⟩
 have hDl:D.length=L.length-o:=by rw[hD,List.length_drop,hkl]
 rw[←hD]at hR
 refine bm hN (fun k:Nat=>⟨[(0,aX s (L,sm)),(1,.str t),(5,.sl 243048 0 (D.take k).length),(6,.int .i64 ((o+k:Nat):Int))],[(243048,.arr 1 (aL ((D.take k).map (·.1))))]⟩)
  (fun k=>k≤D.length∧(D.take k).all (fun f=>bw t f.1)=true) (fun k=>D.length-k) 0 (.nil 5 243048 1 rfl (.le (by simp(disch:=first | omega | (simp only[Lx];omega))only[go_sem,simprocAttr,ob,List.take_zero,List.map_nil,List.length_nil,Nat.add_zero]))) ⟨Nat.zero_le _,by simp⟩ ?_
 rintro k R1 ⟨hk,hall⟩ hR1
 have htl:(D.take k).length=k:=by rw[List.length_take];omega
 have hsub:aG (aL ((D.take k).map (·.1))) 0 k=aL ((D.take k).map (·.1)):=by
  unfold aG
  rw[List.drop_zero,List.take_of_length_le (by rw[bO,List.length_map,htl];omega)]
 have fin:(D.length≤k∨bw t (D.getD k aW).1=false)→D.takeWhile (fun f=>bw t f.1)=D.take k:=fun h=>uZ aW hall h
 by_cases hlt:k<D.length
 ·have hsn:=eT aW D hlt
  have hgd:(L.getD (o+k) dw).1=(D.getD k aW).1:=by rw[hD,xB,p8]
  have hmem:(L.getD (o+k) dw).1.length≤9223372036854775807:=hp _ (eE dw (by omega))
  rw[hgd]at hmem
  have hi:((o+k:Nat):Int)<(L.length:Int):=by omega
  rw[htl]
  refine dW @eI hi @jX hgd ?_
  refine pJ @eI hi @jX hgd ?_
  refine l3 (jJ vV (uE _ t hmem ht) vV rfl rfl ?_)
  generalize hx:D.getD k aW=x at *
  by_cases hb:bw t x.1=true
  ·simp(disch:=first | omega | (simp only[Lx];omega))only[go_sem,simprocAttr,hb,eI,jX,hgd,bO,List.length_map,htl]
   rw[hsub,oa]
   refine⟨⟨fI,by omega⟩,hR1 (k+1) _ (by omega) ⟨by omega,by rw[hsn,List.all_append,hall];simp[hb]⟩ (.le ?_)⟩
   rw[hsn,List.length_append,htl,List.map_append]
   simp(disch:=first | omega | (simp only[Lx];omega))only[go_sem,simprocAttr,List.map_cons,List.map_nil,List.length_singleton]
  ·have hb:bw t x.1=false:=by simpa using hb
   rw[fin (.inr hb)]at hR
   refine aw hb ?_
   exact hR.wk (h':=[]) (r':=.ro 1 (aL ((D.take k).map (·.1)))) (ar':=[.undef,.undef]) rfl (.bG 243048 (.le (by simp(disch:=first | omega | (simp only[Lx];omega))only[go_sem,simprocAttr,bO,List.length_map,htl,fI,hsub]))) ⟨rfl,rfl⟩
 ·have hi:¬((o+k:Nat):Int)<(L.length:Int):=by omega
  rw[fin (.inl (by omega))]at hR
  have hDk:D.take k=D:=List.take_of_length_le (by omega)
  rw[hDk]at hsub hR htl
  rw[hDk,htl]
  refine bc @eI hi ?_
  refine ft @eI hi ?_
  exact hR.wk (h':=[]) (r':=.ro 1 (aL (D.map (·.1)))) (ar':=[.undef,.undef]) rfl (.bG 243048 (.le (by simp(disch:=first | omega | (simp only[Lx];omega))only[go_sem,simprocAttr,bO,List.length_map,htl,fI,hsub]))) ⟨rfl,rfl⟩
end Go.Proofs.YtoalcafkffmiiaaGreatDoor.Ls
