/- The proof, part 33 of 42. -/
import Derived.Test.YtoalcafkffmiiaaGreatDoorOdbSureU
import Derived.Test.YtoalcafkffmiiaaGreatDoorOdbSureZF
import Derived.Lib.SlicesCompact
set_option linter.all false
namespace Go.Proofs.YtoalcafkffmiiaaGreatDoor.Ls
open Eng
set_option maxRecDepth 10000
theorem Ap:∀x y:Bs,x<y↔Lib.compareBytes x y<0
 | [],[]=>by simp[Lib.compareBytes]
 | [],_::_=>by simp[Lib.compareBytes]
 | _::_,[]=>by simp[Lib.compareBytes]
 | a::x,b::y=>by
  rw[List.cons_lt_cons_iff,Ap x y]
  simp only[Lib.compareBytes]
  by_cases h1:a<b
  ·simp[h1]
  ·by_cases h2:b<a
   ·have:¬a=b:=fun e=>by subst e;exact h1 h2
    simp[h1,h2,this]
   ·have:a=b:=by
     simp only[UInt8.lt_iff_toNat_lt]at h1 h2
     exact UInt8.toNat.inj (by omega)
    simp[this]
theorem qu (x y:Bs):x≤y↔Lib.compareBytes x y≤0:=by
 have h:x≤y↔¬y<x:=Iff.rfl
 rw[h,Ap]
 have:=gT x y
 omega
abbrev uY (l:List Bs):List Bs:=l.mergeSort fun x y=>decide (x≤y)
theorem anW (l:List Bs):(uY l).Pairwise (fun a b=>Lib.compareBytes a b≤0):=by
 have h:=List.pairwise_mergeSort (le:=fun x y:Bs=>decide (x≤y))
  (fun a b c h1 h2=>by
   rw[decide_eq_true_eq,qu]at *
   exact kN a b c h1 h2)
  (fun a b=>by
   rw[Bool.or_eq_true,decide_eq_true_eq,decide_eq_true_eq,qu,qu]
   have:=gT a b
   omega) l
 exact h.imp (fun h=>by rwa[decide_eq_true_eq,qu]at h)
theorem rZ (l:List Bs) (i:Nat):(l.toArray[i]!)=l.getD i []:=by
 rw[List.getD_eq_getElem?_getD,getElem!_def]
 simp only[List.getElem?_toArray]
 cases l[i]?<;>rfl
theorem CZ {l:List Bs} (h:l.Pairwise (fun a b=>Lib.compareBytes a b≤0)) {i j:Nat} (hij:i<j) (hj:j<l.length):Lib.compareBytes (l.getD i []) (l.getD j [])≤0:=by
 have:=List.pairwise_iff_getElem.1 h i j (by omega) hj hij
 rwa[List.getD_eq_getElem?_getD,List.getD_eq_getElem?_getD,List.getElem?_eq_getElem hj,List.getElem?_eq_getElem (by omega:i<l.length)]
theorem xm {l:List Bs} (h:l.Pairwise (fun a b=>Lib.compareBytes a b≤0)):∀m,m≤l.length→iH (Lib.compactUpTo l.toArray m)∧(∀x,x∈Lib.compactUpTo l.toArray m↔x∈l.take m)∧∀x∈Lib.compactUpTo l.toArray m,0<m∧Lib.compareBytes x (l.getD (m-1) [])≤0
 | 0,_=>⟨.nil,fun x=>by simp[Lib.compactUpTo],fun x hx=>by simp[Lib.compactUpTo]at hx⟩
 | m+1,hm=>by
  obtain⟨h1,h2,h3⟩:=xm h m (by omega)
  have hsn:l.take (m+1)=l.take m++[l.getD m []]:=by
   rw[List.take_succ,List.getD_eq_getElem?_getD,List.getElem?_eq_getElem (by omega:m<l.length)];rfl
  rw[Lib.compactUpTo_succ,rZ]
  have hk:Lib.keeps l.toArray m=decide (m=0∨l.getD m []≠l.getD (m-1) []):=by
   unfold Lib.keeps
   rw[rZ,rZ]
  by_cases hkm:m=0∨l.getD m []≠l.getD (m-1) []
  ·rw[hk,decide_eq_true hkm,if_pos rfl]
   refine⟨?_,fun x=>?_,fun x hx=>⟨by omega,?_⟩⟩
   ·unfold iH
    rw[List.pairwise_append]
    refine⟨h1,List.pairwise_singleton _ _,fun x hx y hy=>?_⟩
    rw[List.mem_singleton]at hy
    subst hy
    obtain⟨h4,h5⟩:=h3 x hx
    have h6:=CZ h (i:=m-1) (j:=m) (by omega) (by omega)
    have h7:Lib.compareBytes (l.getD (m-1) []) (l.getD m [])≠0:=fun e=>by
     rcases hkm with h0 | h0
     ·omega
     ·exact h0 (kO e).symm
    exact sn h5 (by omega)
   ·rw[hsn,List.mem_append,List.mem_append,h2]
   ·rw[show m+1-1=m by omega]
    rcases List.mem_append.1 hx with hx | hx
    ·obtain⟨h4,h5⟩:=h3 x hx
     exact kN _ _ _ h5 (CZ h (by omega) (by omega))
    ·rw[List.mem_singleton]at hx
     rw[hx,lU];omega
  ·rw[hk,decide_eq_false hkm,if_neg (by simp),List.append_nil]
   have h0:m≠0:=fun e=>hkm (.inl e)
   have he:l.getD m []=l.getD (m-1) []:=Decidable.not_not.1 (fun e=>hkm (.inr e))
   refine⟨h1,fun x=>?_,fun x hx=>⟨by omega,?_⟩⟩
   ·rw[h2,hsn,List.mem_append,List.mem_singleton]
    constructor
    ·exact .inl
    ·rintro(hx | rfl)
     ·exact hx
     ·rw[he]
      have hl:m-1<(l.take m).length:=by rw[List.length_take];omega
      have h:=List.getElem_mem hl
      have e:(l.take m)[m-1]=l.getD (m-1) []:=by
       rw[List.getElem_take,List.getD_eq_getElem?_getD,List.getElem?_eq_getElem (by omega:m-1<l.length)];rfl
      rwa[e]at h
   ·rw[show m+1-1=m by omega,he]
    exact(h3 x hx).2
theorem JL {l:List Bs} (h:l.Pairwise (fun a b=>Lib.compareBytes a b≤0)):iH (Lib.compact l)∧∀x,x∈Lib.compact l↔x∈l:=by
 obtain⟨h1,h2,_⟩:=xm h l.length (Nat.le_refl _)
 refine⟨h1,fun x=>?_⟩
 have:=h2 x
 rwa[List.take_of_length_le (Nat.le_refl _)]at this
def jC (l:List Bs):List Bs:=Lib.compact (uY l)
theorem aeI (l:List Bs) (x:Bs):x∈jC l↔x∈l:=((JL (anW l)).2 x).trans List.mem_mergeSort
open Eng
set_option maxRecDepth 10000
theorem zb:∀i,i<16→∀j,j<16→i<j→(Sh.fC.getD i 0).toNat<(Sh.fC.getD j 0).toNat:=by decide +kernel
theorem ze:∀a b:Bs,Lib.compareBytes a b<0→a.length=b.length→Lib.compareBytes (Sh.bP a) (Sh.bP b)<0
 | [],[],h,_=>by simp[Lib.compareBytes]at h
 | [],_::_,_,h=>by simp at h
 | _::_,[],_,h=>by simp at h
 | x::a,y::b,h,hl=>by
  have e:∀(c:UInt8) (r:Bs),Sh.bP (c::r)=Sh.fC.getD (c.toNat/16) 0::Sh.fC.getD (c.toNat%16) 0::Sh.bP r:=fun _ _=>rfl
  have hx:=x.toNat_lt
  have hy:=y.toNat_lt
  rw[e,e]
  simp only[Lib.compareBytes,UInt8.lt_iff_toNat_lt]at h ⊢
  by_cases h1:x.toNat<y.toNat
  ·by_cases h2:x.toNat/16<y.toNat/16
   ·rw[if_pos (zb _ (by omega) _ (by omega) h2)];omega
   ·have h3:x.toNat/16=y.toNat/16:=by omega
    rw[h3,if_neg (Nat.lt_irrefl _),if_neg (Nat.lt_irrefl _),if_pos (zb _ (by omega) _ (by omega) (by omega))];omega
  ·rw[if_neg h1]at h
   by_cases h2:y.toNat<x.toNat
   ·rw[if_pos h2]at h;omega
   ·rw[if_neg h2]at h
    have h3:x.toNat=y.toNat:=by omega
    rw[h3,if_neg (Nat.lt_irrefl _),if_neg (Nat.lt_irrefl _),if_neg (Nat.lt_irrefl _),if_neg (Nat.lt_irrefl _)]
    exact ze a b h (by simpa using hl)
theorem za:∀k,k<16→ju (Sh.fC.getD k 0)=true:=by decide +kernel
theorem zc:∀t:Bs,(Sh.bP t).all ju=true
 | []=>rfl
 | c::r=>by
  have e:Sh.bP (c::r)=Sh.fC.getD (c.toNat/16) 0::Sh.fC.getD (c.toNat%16) 0::Sh.bP r:=rfl
  have hc:=c.toNat_lt
  rw[e,List.all_cons,List.all_cons,zc r,za _ (by omega),za _ (by omega)]
  rfl
theorem QM {t:Bs} (h:t.length=20):cL (Sh.bP t)=true:=by
 have h1:=Sh.tn t
 unfold cL jZ
 rw[zc,Bool.true_and,Bool.and_eq_true,decide_eq_true_eq,decide_eq_true_eq]
 omega
theorem zu {s:Bs} (h:cL s=true):s.length=40∧s.all ju=true:=by
 unfold cL jZ at h
 rw[Bool.and_eq_true,Bool.and_eq_true,decide_eq_true_eq,decide_eq_true_eq]at h
 exact⟨h.2,h.1.1⟩
abbrev Rw:=Bs×Nat×Nat
abbrev dG:Rw:=([],0,0)
def jg (r:Rw):AV:=.agg [.str r.1,.int .i64 (r.2.1:Nat),.int .u32 (r.2.2:Nat)]
def eG (L:List Rw):List AV:=L.map jg
theorem ke {L:List Rw} {i:Nat} (h:i<L.length):nth (eG L) i=.agg [.str (L.getD i dG).1,.int .i64 ((L.getD i dG).2.1:Nat),.int .u32 ((L.getD i dG).2.2:Nat)]:=by
 simp[nth,eG,jg,List.getD_eq_getElem?_getD,h]
theorem eT (L:List Rw):(eG L).length=L.length:=by simp[eG]
theorem ajS {L:List Rw}:(eG L).all aP=true:=by simp[eG,jg,aP,cellsOf,isCell]
theorem ajR {L:List Rw} {a:Bs} {b c:Nat}:eG L++[.agg [.str a,.int .i64 (b:Nat),.int .u32 (c:Nat)]]=eG (L++[(a,b,c)]):=by simp[eG,jg]
theorem ajT:eG []=[]:=(rfl)
theorem B6 (L:List Rw):aI (eG L) 0 L.length=eG L:=by
 unfold aI
 rw[List.drop_zero,List.take_of_length_le (by rw[eT];omega)]
def cg (s:Bs) (o n:Nat):Bs:=(s.drop o).take n
theorem iM {s:Bs} {o n:Nat} (h:o+n≤s.length):(cg s o n).length=n:=by unfold cg;rw[List.length_take,List.length_drop];omega
theorem eC (s:Bs) (o n:Nat):(s.drop o).take n=cg s o n:=rfl
def cT (s:Bs) (i:Nat):Nat:=if i=0 then 0 else cz (cg s (4+4*i) 4)
def cJ (s:Bs) (k:Nat):List AV:=(List.range 257).map fun i=>.int .i64 ((if i≤k then cT s i else 0:Nat):Int)
theorem sV (s:Bs) (i:Nat):cT s i<4294967296:=by
 unfold cT
 split
 ·omega
 ·exact nk (n:=4) (by unfold cg;rw[List.length_take];omega)
theorem js (s:Bs) (k:Nat):(cJ s k).length=257:=by simp[cJ]
theorem nA (s:Bs) (k:Nat) {i:Nat} (h:i<257):(cJ s k).getD i .undef=.int .i64 ((if i≤k then cT s i else 0:Nat):Int):=by
 unfold cJ
 rw[List.getD_eq_getElem?_getD,List.getElem?_map,List.getElem?_range h];rfl
theorem N2 (s:Bs) {k:Nat} (h:k<256):(cJ s k).set (k+1) (.int .i64 (cT s (k+1):Nat))=cJ s (k+1):=by
 apply List.ext_getElem?
 intro j
 rw[List.getElem?_set,js]
 unfold cJ
 rw[List.getElem?_map,List.getElem?_map]
 by_cases hx:k+1=j
 ·subst hx
  rw[if_pos rfl,if_pos (by omega),List.getElem?_range (by omega)]
  simp
 ·rw[if_neg hx]
  by_cases hj:j<257
  ·rw[List.getElem?_range hj]
   simp only[Option.map_some]
   by_cases h1:j≤k
   ·rw[if_pos h1,if_pos (by omega)]
   ·rw[if_neg h1,if_neg (by omega)]
  ·rw[List.getElem?_eq_none (by simp;omega)];rfl
theorem yw {id:Nat} {s:Bs} {k:Nat}:(cJ s k).map (killC id)=cJ s k:=by simp[cJ,killC]
theorem N0 {id sz:Nat} {es:List AV} {s:Bs} {k:Nat}:(cJ s k).map (bS id sz es)=cJ s k:=by simp[cJ,bS]
theorem N1 {s:Bs} {k:Nat}:(cJ s k).all noRefC=true:=by simp[cJ,noRefC]
theorem gY {a b:AV} {xs:List AV} {i:Nat} (h:i<xs.length):((a::(xs++[b])).drop (1+i)).getD 0 .undef=xs.getD i .undef:=by
 rw[Nat.add_comm,List.drop_succ_cons,List.getD_eq_getElem?_getD,List.getElem?_drop,Nat.add_zero,List.getElem?_append_left h,List.getD_eq_getElem?_getD]
theorem gZ {a b:AV} {xs:List AV} {i:Nat} (h:i<xs.length):0<((a::(xs++[b])).drop (1+i)).length:=by simp;omega
theorem O8 {a b v:AV} {xs:List AV} {i:Nat} (h:i<xs.length):bW (a::(xs++[b])) (1+i) [v]=a::(xs.set i v++[b]):=by
 unfold bW
 rw[Nat.add_comm 1 i,List.take_succ_cons,show i+1+[v].length=(i+1)+1 by simp,List.drop_succ_cons,List.take_append_of_le_length (by omega),List.drop_append_of_le_length (by omega),List.set_eq_take_append_cons_drop,if_pos h]
 simp
def eE (s:Bs) (n:Nat):Nat:=s.length-40-(1032+28*n)
def fJ (s:Bs) (k:Nat):Bs:=cg s (1032+20*k) 20
def pw (s:Bs) (k:Nat):Nat:=((fJ s k).getD 0 0).toNat
def lT (s:Bs) (k:Nat):Prop:=(0<k∧Op.bytesLess (cg s (1012+20*k) 20) (fJ s k)=false)∨k<cT s (pw s k)∨cT s (pw s k+1)≤k
def fG (s:Bs) (n k:Nat):Nat:=cz (cg s (1032+24*n+4*k) 4)
def jH (s:Bs) (n k:Nat):Nat:=if 2147483648≤fG s n k then cz (cg (cg s (1032+28*n) (eE s n)) (8*(fG s n k-2147483648)) 8)else fG s n k
open Classical in
noncomputable def gI (s:Bs) (n j:Nat):Except Int Rw:=
 if lT s j then .error 3
 else if 2147483648≤fG s n j∧eE s n/8≤fG s n j-2147483648 then .error 3
 else if 1099511627776<jH s n j then .error 2
 else .ok (Sh.bP (fJ s j),jH s n j,cz (cg s (1032+20*n+4*j) 4))
noncomputable def rowsP (s:Bs) (n:Nat):Nat→Except Int (List Rw)
 | 0=>.ok []
 | k+1=>match rowsP s n k with
  | .error e=>.error e
  | .ok l=>match gI s n k with
   | .error e=>.error e
   | .ok r=>.ok (l++[r])
theorem B7 {s:Bs} {n:Nat} {e:Int}:∀{m k:Nat},k≤m→rowsP s n k=.error e→rowsP s n m=.error e
 | 0,k,h,h1=>by
  obtain rfl:k=0:=by omega
  exact h1
 | m+1,k,h,h1=>by
  by_cases hk:k=m+1
  ·subst hk;exact h1
  ·unfold rowsP
   rw[B7 (by omega:k≤m) h1]
theorem oe {s:Bs} {n:Nat}:∀{k:Nat} {l:List Rw},rowsP s n k=.ok l→l.length=k
 | 0,l,h=>by
  unfold rowsP at h
  cases h;rfl
 | k+1,l,h=>by
  unfold rowsP at h
  cases h1:rowsP s n k with
  | error e=>rw[h1]at h;cases h
  | ok l'=>
   rw[h1]at h
   cases h2:gI s n k with
   | error e=>rw[h2]at h;cases h
   | ok r=>
    rw[h2]at h
    cases h
    rw[List.length_append,oe h1];rfl
def yv (s:Bs):Prop:=∀i,i<256→cT s i≤cT s (i+1)
open Classical in
noncomputable def ed (s:Bs):Except Int (List Rw×Bs):=
 let n:=cT s 256
 if s.length<1072 then .error 6
 else if s.take 8≠[255,116,79,99,0,0,0,2]then .error 3
 else if ¬yv s then .error 3
 else if 1000<n then .error 2
 else if s.length<1072+28*n then .error 6
 else if eE s n%8≠0 then .error 3
 else match rowsP s n n with
  | .error e=>.error e
  | .ok l=>if Sh.eh (s.take (s.length-20))≠s.drop (s.length-20)then .error 5 else .ok (l,Sh.bP (cg s (s.length-40) 20))
abbrev aM (s:Bs) (p:List Rw×Bs):AV:=.aA (.agg (.ro 3 (eG p.1)::(cJ s 256++[.str p.2])))
def parseA (s:Bs):Except Int (List Rw×Bs)→AV
 | .error e=>.ai [.lit (.pointer none),.int .i64 e]
 | .ok p=>.ai [aM s p,.int .i64 0]
set_option maxHeartbeats 4000000 in
theorem asZ (s:Bs) (hs:s.length≤100000):aN Tryz.prog 34 [.str s] (parseA s (ed s)):=by
 refine Cod.as0 (fun E R hN hR=>?_)
 have bad:∀{h} (e:Int),ed s=.error e→R h (.ai [.lit (.pointer none),.int .i64 e]) [.undef]:=fun e he=>hR.ro ⟨rfl,by rw[he];rfl⟩
 by_cases h0:s.length<1072
 ·refine wW ?_
  exact bad 6 (by unfold ed;rw[if_pos h0])
 by_cases h1:s.take 8=[255,116,79,99,0,0,0,2]
 rotate_left
 ·refine az h1 ?_
  exact bad 3 (by unfold ed;rw[if_neg h0,if_pos h1])
 refine az h1 ?_
 refine ba hN (fun k:Nat=>⟨[(0,.str s),(4,.ab 240019 0),(20,.int .i64 k)],[(240019,.var (.aq::(cJ s k++[.str []])))]⟩) (fun k=>k≤256∧∀i,i<k→cT s i≤cT s (i+1)) (fun k=>256-k) 0 (.le (by simp(disch:=first | omega | (simp only[Lx];omega))only[go_sem,simprocAttr];rfl)) ⟨by omega,fun i h=>by omega⟩ ?_
 rintro k R1 ⟨hk,hmono⟩ hR1
 by_cases hlt:k<256
 ·have e1:((8:Int)+4*(k:Int)).toNat=8+4*k:=by omega
  have e2:((12:Int)+4*(k:Int)).toNat=12+4*k:=by omega
  have e3:12+4*k-(8+4*k)=4:=by omega
  have hb:=mg (cg s (8+4*k) 4) (by rw[iM (by omega)];omega)
  have hfe:cz (cg s (8+4*k) 4)=cT s (k+1):=by
   unfold cT
   rw[if_neg (by omega),show 4+4*(k+1)=8+4*k by omega]
  rw[hfe]at hb
  have hl:=sV s (k+1)
  have hl2:=sV s k
  have hst:=N2 s hlt
  have hfl:=js s k
  have hfl1:=js s (k+1)
  have hg0:=nA s (k+1) (i:=k) (by omega)
  have hg1:=nA s (k+1) (i:=k+1) (by omega)
  rw[if_pos (by omega)]at hg0 hg1
  refine eo e1 e2 e3 @eC ?_
  refine aC hb rfl rfl ?_
  have e4:((k:Int)+1).toNat=k+1:=by omega
  simp(disch:=first | omega | (simp only[Lx];omega))only[go_sem,simprocAttr,gY,gZ,O8,Nat.mul_one,e4,hst,hg0,hg1]
  by_cases hm:cT s k≤cT s (k+1)
  ·have hi:¬((cT s (k+1):Nat):Int)<(cT s k:Nat):=by omega
   refine az hi ?_
   refine hR1 (k+1) _ (by omega) ⟨by omega,fun i h=>?_⟩ (.le vV)
   rcases Nat.lt_succ_iff_lt_or_eq.1 h with h | rfl
   ·exact hmono i h
   ·exact hm
  ·have hi:((cT s (k+1):Nat):Int)<(cT s k:Nat):=by omega
   refine az hi ?_
   exact bad 3 (by unfold ed;rw[if_neg h0,if_neg (fun h=>h h1),if_pos (fun h=>hm (h k hlt))])
 ·obtain rfl:k=256:=by omega
  have hok:yv s:=fun i h=>hmono i h
  have hl:=sV s 256
  have hfl:=js s 256
  have hg:=nA s 256 (i:=256) (by omega)
  rw[if_pos (by omega)]at hg
  obtain⟨n,hn⟩:∃n,n=cT s 256:=⟨_,rfl⟩
  rw[←hn]at hl hg
  have hb0:ed s=(if 1000<n then .error 2
   else if s.length<1072+28*n then .error 6
   else if eE s n%8≠0 then .error 3
   else match rowsP s n n with
    | .error e=>.error e
    | .ok l=>if Sh.eh (s.take (s.length-20))≠s.drop (s.length-20)then .error 5 else .ok (l,Sh.bP (cg s (s.length-40) 20))):=by
   unfold ed
   rw[if_neg h0,if_neg (fun h=>h h1),if_neg (fun h=>h hok),←hn]
  have hd0:((cJ s 256++[AV.str []]).drop 256).getD 0 .undef=.int .i64 n:=by
   rw[←hg,List.getD_eq_getElem?_getD,List.getElem?_drop,Nat.add_zero,List.getElem?_append_left (by omega),List.getD_eq_getElem?_getD]
  have hd1:0<((cJ s 256++[AV.str []]).drop 256).length:=by simp;omega
  refine bc hd0 hd1 ?_
  by_cases g1:1000<n
  ·have hi:(1000:Int)<(n:Int):=by omega
   refine az hi ?_
   exact bad 2 (by rw[hb0,if_pos g1])
  have hi:¬(1000:Int)<(n:Int):=by omega
  rw[if_neg g1]at hb0
  refine az hi ?_
  by_cases g2:s.length<1072+28*n
  ·refine wW ?_
   exact bad 6 (by rw[hb0,if_pos g2])
  rw[if_neg g2]at hb0
  have ea:((1032:Int)+28*(n:Int)).toNat=1032+28*n:=by omega
  have eb:((s.length:Int)-40).toNat-(1032+28*n)=eE s n:=by unfold eE;omega
  have efl:(cg s (1032+28*n) (eE s n)).length=eE s n:=iM (by unfold eE;omega)
  refine eo ea eb @eC efl ?_
  by_cases g3:eE s n%8=0
  rotate_left
  ·have hi:¬((eE s n:Nat):Int)%8=0:=by omega
   refine bc efl hi ?_
   exact bad 3 (by rw[hb0,if_pos g3])
  have hi:((eE s n:Nat):Int)%8=0:=by omega
  rw[if_neg (fun h=>h g3)]at hb0
  refine bc efl hi ?_
  obtain⟨F,hF⟩:∃F,F=cg s (1032+28*n) (eE s n):=⟨_,rfl⟩
  rw[←hF]at efl
  rw[←hF]
  have hn1:n≤1000:=by omega
  refine ba hN (fun p:Nat×List Rw=>⟨[(0,.str s),(4,.ab 240019 0),(6,.int .i64 n),(7,.str F),(80,.int .i64 n),(81,.int .i64 p.1)],[(240019,.var (.sl 240196 0 p.2.length::(cJ s 256++[.str []]))),(240196,.arr 3 (eG p.2))]⟩)
   (fun p=>p.1≤n∧rowsP s n p.1=.ok p.2) (fun p=>n-p.1) (0,[]) (.lk 240019 0 240196 3 (.aq::(cJ s 256++[.str []])) rfl rfl rfl (.le (by simp(disch:=first | omega | (simp only[Lx];omega))only[go_sem,simprocAttr,List.map_cons,List.map_append,yw,List.set_cons_zero,ajT]))) ⟨by omega,rfl⟩ ?_
  rintro⟨k,l⟩ R2 ⟨hk2,hrows⟩ hR2
  simp only at hk2 hrows
  have hll:=oe hrows
  by_cases hlt2:k<n
  ·have hrb:1032+20*k+20≤s.length:=by omega
   have c1:((1032:Int)+20*(k:Int)).toNat=1032+20*k:=by omega
   have c2:((1032:Int)+20*(k:Int)+20).toNat-(1032+20*k)=20:=by omega
   have hrl:=iM hrb
   change (fJ s k).length=20 at hrl
   have hrw:cg s (1032+20*k) 20=fJ s k:=rfl
   obtain⟨raw,hraw⟩:∃raw,raw=fJ s k:=⟨_,rfl⟩
   have hch:(raw.getD 0 0).toNat=pw s k:=by rw[hraw];rfl
   rw[←hraw]at hrl hrw
   have hcb:=(raw.getD 0 0).toNat_lt
   obtain⟨c,hc⟩:∃c,c=pw s k:=⟨_,rfl⟩
   rw[hch,←hc]at hcb
   rw[←hc]at hch
   have hf0:=nA s 256 (i:=c) (by omega)
   have hf1:=nA s 256 (i:=c+1) (by omega)
   rw[if_pos (by omega)]at hf0 hf1
   have badr:∀{h} (e:Int),gI s n k=.error e→R h (.ai [.lit (.pointer none),.int .i64 e]) [.undef]:=fun e he=>bad e (by
    have h1:rowsP s n (k+1)=.error e:=by unfold rowsP;rw[hrows];simp only[he]
    rw[hb0,B7 (by omega:k+1≤n) h1])
   have bad3:∀{h},lT s k→R h (.ai [.lit (.pointer none),.int .i64 3]) [.undef]:=fun h=>badr 3 (by unfold gI;rw[if_pos h])
   refine eo c1 c2 @eC hrw ?_
   have c3:((1032:Int)+20*(k:Int)-20).toNat=1012+20*k:=by omega
   have c4:1032+20*k-(1012+20*k)=20:=by omega
   have c5:((c:Int)+1).toNat=c+1:=by omega
   obtain⟨prev,hprev⟩:∃prev,prev=cg s (1012+20*k) 20:=⟨_,rfl⟩
   obtain⟨fc,hfc⟩:∃fc,fc=cT s c:=⟨_,rfl⟩
   obtain⟨fd,hfd⟩:∃fd,fd=cT s (c+1):=⟨_,rfl⟩
   rw[←hfc]at hf0
   rw[←hfd]at hf1
   have hbr:lT s k↔(0<k∧Op.bytesLess prev raw=false)∨k<fc∨fd≤k:=by
    unfold lT;rw[←hc,←hraw,←hprev,←hfc,←hfd]
   by_cases hA:0<k∧Op.bytesLess prev raw=false
   ·have hi:(0:Int)<(k:Int):=by omega
    have hA2:=hA.2
    simp(disch:=first | omega | (simp only[Lx];omega))only[go_sem,simprocAttr,hi,c1,c3,c4,eC,←hprev,hA2,Bool.not_false,Bool.not_true]
    (repeat(first | refine du ?_ | refine dq ?_ | refine dr ?_)<;>simp(disch:=first | omega | (simp only[Lx];omega))only[go_sem,simprocAttr,hi,c1,c3,c4,eC,←hprev,hA2,Bool.not_false,Bool.not_true])
    exact bad3 (hbr.2 (.inl hA))
   have hsel:(¬(0:Int)<(k:Int)∧¬(0:Int)<(k:Int))∨((0:Int)<(k:Int)∧Op.bytesLess prev raw=true):=by
    by_cases h:0<k
    ·exact .inr ⟨by omega,by
      cases h2:Op.bytesLess prev raw with
      | true=>rfl
      | false=>exact absurd ⟨h,h2⟩ hA⟩
    ·exact .inl ⟨by omega,by omega⟩
   by_cases hB:k<fc
   ·have hiB:(k:Int)<(fc:Int):=by omega
    rcases hsel with⟨hi,hA2⟩ | ⟨hi,hA2⟩
    ·simp(disch:=first | omega | (simp only[Lx];omega))only[go_sem,simprocAttr,hi,c1,c3,c4,c5,eC,←hprev,Bool.not_false,Bool.not_true,gY,gZ,Nat.mul_one,hch,hf0,hf1]
     (repeat(first | refine du ?_ | refine dq ?_ | refine dr ?_)<;>simp(disch:=first | omega | (simp only[Lx];omega))only[go_sem,simprocAttr,hi,c1,c3,c4,c5,eC,←hprev,Bool.not_false,Bool.not_true,gY,gZ,Nat.mul_one,hch,hf0,hf1])
     exact bad3 (hbr.2 (.inr (.inl hB)))
    ·simp(disch:=first | omega | (simp only[Lx];omega))only[go_sem,simprocAttr,hi,hA2,c1,c3,c4,c5,eC,←hprev,Bool.not_false,Bool.not_true,gY,gZ,Nat.mul_one,hch,hf0,hf1]
     (repeat(first | refine du ?_ | refine dq ?_ | refine dr ?_)<;>simp(disch:=first | omega | (simp only[Lx];omega))only[go_sem,simprocAttr,hi,hA2,c1,c3,c4,c5,eC,←hprev,Bool.not_false,Bool.not_true,gY,gZ,Nat.mul_one,hch,hf0,hf1])
     exact bad3 (hbr.2 (.inr (.inl hB)))
   have hiB:¬(k:Int)<(fc:Int):=by omega
   by_cases hC:fd≤k
   ·have hiC:(fd:Int)≤(k:Int):=by omega
    rcases hsel with⟨hi,hA2⟩ | ⟨hi,hA2⟩
    ·simp(disch:=first | omega | (simp only[Lx];omega))only[go_sem,simprocAttr,hi,hiB,hiC,c1,c3,c4,c5,eC,←hprev,Bool.not_false,Bool.not_true,gY,gZ,Nat.mul_one,hch,hf0,hf1]
     (repeat(first | refine du ?_ | refine dq ?_ | refine dr ?_)<;>simp(disch:=first | omega | (simp only[Lx];omega))only[go_sem,simprocAttr,hi,hiB,hiC,c1,c3,c4,c5,eC,←hprev,Bool.not_false,Bool.not_true,gY,gZ,Nat.mul_one,hch,hf0,hf1])
     exact bad3 (hbr.2 (.inr (.inr hC)))
    ·simp(disch:=first | omega | (simp only[Lx];omega))only[go_sem,simprocAttr,hi,hiB,hiC,hA2,c1,c3,c4,c5,eC,←hprev,Bool.not_false,Bool.not_true,gY,gZ,Nat.mul_one,hch,hf0,hf1]
     (repeat(first | refine du ?_ | refine dq ?_ | refine dr ?_)<;>simp(disch:=first | omega | (simp only[Lx];omega))only[go_sem,simprocAttr,hi,hiB,hiC,hA2,c1,c3,c4,c5,eC,←hprev,Bool.not_false,Bool.not_true,gY,gZ,Nat.mul_one,hch,hf0,hf1])
     exact bad3 (hbr.2 (.inr (.inr hC)))
   have hiC:¬(fd:Int)≤(k:Int):=by omega
   rcases hsel with⟨hi,hA2⟩ | ⟨hi,hA2⟩
   all_goals
    simp(disch:=first | omega | (simp only[Lx];omega))only[go_sem,simprocAttr,hi,hiB,hiC,hA2,c1,c3,c4,c5,eC,←hprev,Bool.not_false,Bool.not_true,gY,gZ,Nat.mul_one,hch,hf0,hf1]
    (repeat(first | refine du ?_ | refine dq ?_ | refine dr ?_)<;>simp(disch:=first | omega | (simp only[Lx];omega))only[go_sem,simprocAttr,hi,hiB,hiC,hA2,c1,c3,c4,c5,eC,←hprev,Bool.not_false,Bool.not_true,gY,gZ,Nat.mul_one,hch,hf0,hf1])
    have d1:((1032:Int)+24*(n:Int)+4*(k:Int)).toNat=1032+24*n+4*k:=by omega
    have d2:((1032:Int)+24*(n:Int)+4*(k:Int)+4).toNat-(1032+24*n+4*k)=4:=by omega
    have d3:((1032:Int)+20*(n:Int)+4*(k:Int)).toNat=1032+20*n+4*k:=by omega
    have d4:((1032:Int)+20*(n:Int)+4*(k:Int)+4).toNat-(1032+20*n+4*k)=4:=by omega
    have hbn:=mg (cg s (1032+24*n+4*k) 4) (by rw[iM (by omega)];omega)
    have hbc:=mg (cg s (1032+20*n+4*k) 4) (by rw[iM (by omega)];omega)
    have hnl:fG s n k<4294967296:=nk (n:=4) (by rw[iM (by omega)];omega)
    have hcl:cz (cg s (1032+20*n+4*k) 4)<4294967296:=nk (n:=4) (by rw[iM (by omega)];omega)
    rw[d1,d2]
    refine aC hbn rfl rfl ?_
    change fG s n k<4294967296 at hnl
    rw[show cz (cg s (1032+24*n+4*k) 4)=fG s n k from rfl]
    have hnb:¬lT s k:=fun h=>by
     rcases hbr.1 h with h | h | h
     ·exact hA h
     ·exact hB h
     ·exact hC h
    have hpl:jH s n k=if 2147483648≤fG s n k then cz (cg F (8*(fG s n k-2147483648)) 8)else fG s n k:=by unfold jH;rw[←hF]
    have hrp:gI s n k=(if 2147483648≤fG s n k∧eE s n/8≤fG s n k-2147483648 then .error 3
     else if 1099511627776<jH s n k then .error 2
     else .ok (Sh.bP raw,jH s n k,cz (cg s (1032+20*n+4*k) 4))):=by unfold gI;rw[if_neg hnb,hraw]
    obtain⟨q,hq⟩:∃q,q=fG s n k:=⟨_,rfl⟩
    obtain⟨cr,hcr⟩:∃cr,cr=cz (cg s (1032+20*n+4*k) 4):=⟨_,rfl⟩
    rw[←hq]at hnl hpl hrp
    rw[←hcr]at hcl hrp hbc
    rw[←hq]
    have hpb:jH s n k<18446744073709551616:=by
     rw[hpl]
     split
     ·exact Nat.lt_of_lt_of_le (nk (n:=8) (by unfold cg;rw[List.length_take];exact Nat.min_le_left ..)) (by decide)
     ·omega
    refine wW ?_
    refine gK (y:=Cod.DV) hN (fun _:Unit=>⟨[(0,.str s),(4,.ab 240019 0),(6,.int .i64 n),(7,.str F),(8,.int .i64 k),(9,.str raw),(10,.int .u64 (jH s n k:Nat)),(80,.int .i64 n),(81,.int .i64 k)],[(240019,.var (.sl 240196 0 l.length::(cJ s 256++[.str []]))),(240196,.arr 3 (eG l))]⟩) (fun _=>¬(2147483648≤q∧eE s n/8≤q-2147483648)) (fun R3 hR3=>?_) ?_
    ·by_cases hf:2147483648≤q
     ·have hif:(2147483648:Int)≤(q:Int):=by omega
      rw[if_pos hf]at hpl
      refine az hif ?_
      obtain⟨j,hj⟩:∃j,j=q-2147483648:=⟨_,rfl⟩
      have e1:((q:Int)-2147483648)=(j:Int):=by omega
      by_cases hg:eE s n/8≤j
      ·have hig:((eE s n:Nat):Int)/8≤(j:Int):=by omega
       refine dy e1 efl hig ?_
       exact badr 3 (by rw[hrp,if_pos ⟨hf,by omega⟩])
      ·have hig:¬((eE s n:Nat):Int)/8≤(j:Int):=by omega
       have h8:=mg (cg F (8*j) 8) (by rw[iM (by omega)];omega)
       have d5:((8:Int)*(j:Int)).toNat=8*j:=by omega
       have d6:((8:Int)*(j:Int)+8).toNat-8*j=8:=by omega
       refine oK e1 efl hig d5 d6 @eC ?_
       refine aC h8 rfl rfl ?_
       rw[←hj]at hpl
       rw[←hpl]
       refine wW ?_
       exact hR3 () _ (fun h=>hg (by omega)) (.le vV)
     ·have hif:¬(2147483648:Int)≤(q:Int):=by omega
      rw[if_neg hf]at hpl
      refine az hif ?_
      exact hR3 () _ (fun h=>hf h.1) (.le (by rw[hpl];exact vV))
    ·intro _ hng
     rw[if_neg hng]at hrp
     obtain⟨pl,hpl2⟩:∃pl,pl=jH s n k:=⟨_,rfl⟩
     rw[←hpl2]at hrp
     rw[←hpl2]
     by_cases hbig:1099511627776<pl
     ·have hib:(1099511627776:Int)<(pl:Int):=by omega
      refine az hib ?_
      exact badr 2 (by rw[hrp,if_pos hbig])
     ·have hib:¬(1099511627776:Int)<(pl:Int):=by omega
      rw[if_neg hbig]at hrp
      have hhex:=Sh.nF raw (by omega)
      refine eo hib d3 d4 @eC ?_
      refine aC hhex rfl rfl ?_
      refine wW ?_
      refine aC hbc rfl rfl ?_
      refine az @eT ?_
      rw[B6,ajR]
      refine⟨⟨ajS,by omega⟩,hR2 (k+1,l++[(Sh.bP raw,pl,cr)]) _ (by simp only;omega) ⟨by simp only;omega,by simp only;unfold rowsP;rw[hrows];simp only[hrp]⟩ (.le (by rw[List.length_append,List.length_singleton];simp(disch:=first | omega | (simp only[Lx];omega))only[go_sem,simprocAttr,List.map_append,yw,List.map_cons,List.map_nil]))⟩
  ·obtain rfl:k=n:=by omega
   rw[hrows]at hb0
   simp only at hb0
   have m1:((s.length:Int)-20).toNat=s.length-20:=by omega
   have m2:((s.length:Int)-40).toNat=s.length-40:=by omega
   have m3:s.length-20-(s.length-40)=20:=by omega
   have mq:=Sh.vb (s.take (s.length-20)) (by rw[List.length_take];omega)
   have hhx:=Sh.nF (cg s (s.length-40) 20) (by rw[iM (by omega)];omega)
   refine az m1 ?_
   refine aC mq rfl rfl ?_
   by_cases hsh:Sh.eh (s.take (s.length-20))=s.drop (s.length-20)
   ·refine dz hsh m1 m2 m3 @eC ?_
    refine aC hhx rfl rfl ?_
    have htk:(cJ s 256++[AV.str []]).take 257=cJ s 256:=List.take_left' hfl
    obtain⟨sm,hsm⟩:∃sm,sm=Sh.bP (cg s (s.length-40) 20):=⟨_,rfl⟩
    rw[←hsm]at hb0
    rw[←hsm]
    simp(disch:=first | omega | (simp only[Lx];omega))only[go_sem,simprocAttr,htk,List.append_nil]
    have hb1:ed s=.ok (l,sm):=by rw[hb0,if_neg (fun h=>h hsh)]
    refine hR.wk (h':=[]) (r':=.ai [aM s (l,sm),.int .i64 0]) (ar':=[.undef]) rfl (.bH 240196 (.mh 0 0 240019 [.ab 240019 0,.int .i64 0] (.ro 3 (eG l)::(cJ s 256++[.str sm])) vV (by rfl) ?_ ?_ (.le ?_))) ⟨rfl,by rw[hb1];rfl⟩
    ·simp(disch:=first | omega | (simp only[Lx];omega))only[go_sem,simprocAttr,List.map_append,N0,B6,eT]
    ·simp[noRefC,N1]
    ·simp(disch:=first | omega | (simp only[Lx];omega))only[go_sem,simprocAttr,aM]
   ·refine az hsh ?_
    exact bad 5 (by rw[hb0,if_pos hsh])
abbrev kf (L:List Rw):List Fi:=L.map fun r=>(r.1,[])
theorem qp (L:List Rw):(kf L).length=L.length:=List.length_map ..
theorem qo (L:List Rw) (i:Nat):((kf L).getD i aX).1=(L.getD i dG).1:=by
 rw[List.getD_eq_getElem?_getD,List.getD_eq_getElem?_getD,List.getElem?_map]
 cases L[i]?<;>rfl
theorem arI (s:Bs) (p:List Rw×Bs):aN Tryz.prog 36 [aM s p] (.int .i64 p.1.length):=by
 refine Cod.arJ (fun E R hN hR=>?_)
 refine az @eT ?_
 exact hR.ro ⟨rfl,rfl⟩
theorem as5 (s:Bs) (p:List Rw×Bs):aN Tryz.prog 38 [aM s p] (.str p.2):=by
 refine Cod.as6 (fun E R hN hR=>?_)
 have h:(cJ s 256++[AV.str p.2]).getD 257 .undef=.str p.2:=by rw[List.getD_eq_getElem?_getD,List.getElem?_append_right (by rw[js];omega),js];rfl
 have hl:=js s 256
 refine az h ?_
 exact hR.ro ⟨rfl,rfl⟩
theorem aq4 (r:Rw) (t:Bs):aN Tryz.prog 79 [jg r,.str t] (.int .i64 (Lib.compareBytes r.1 t)):=by
 refine Cod.aq5 (fun E R hN hR=>?_)
 simp(disch:=omega)only[go_sem,simprocAttr,jg]
 refine aC (sA r.1 t) rfl rfl ?_
 refine wW ?_
 exact hR.ro ⟨rfl,rfl⟩
abbrev yH (f:Nat):Value:=.func (.func f) #[] #[]
theorem Cb (f:Nat) (hf:callable Tryz.prog f=true) (hsp:∀(r:Rw) (t:Bs),aN Tryz.prog f [jg r,.str t] (.int .i64 (Lib.compareBytes r.1 t))) (L:List Rw) (t:Bs) (hs:dY (kf L)) (hl:L.length≤100000) :
    aN Tryz.prog 78 [.ro 3 (eG L),.str t,.lit (yH f)] (hU t (kf L)):=by
 refine Cod.aks (fun E R hN hR=>?_)
 have hp:=nY t (kf L)
 have hkl:=qp L
 refine az @eT ?_
 refine ba hN (fun p:Nat×Nat=>⟨[(0,.ro 3 (eG L)),(1,.str t),(2,.lit (yH f)),(8,.int .i64 L.length),(9,.int .i64 p.1),(10,.int .i64 p.2)],[]⟩) (fun p=>p.1≤posF t (kf L)∧posF t (kf L)≤p.2∧p.2≤L.length) (fun p=>p.2-p.1) (0,L.length) (.le vV) ⟨Nat.zero_le _,by omega,Nat.le_refl _⟩ ?_
 rintro⟨i,j⟩ R1 ⟨h1,h2,h3⟩ hR1
 simp only at h1 h2 h3
 by_cases hlt:i<j
 ·have hm:IntKind.i64.wrap (((i:Int)+(j:Int)).fdiv (2^min 1 64))=(((i+j)/2:Nat):Int):=by
   rw[show(2:Int)^min 1 64=2 from rfl,Int.fdiv_eq_ediv_of_nonneg _ (by decide)]
   rw[eW ⟨by omega,by omega⟩]
   omega
  have hk:(i+j)/2<L.length:=by omega
  have hpi:=ux t hs (k:=(i+j)/2) (by omega)
  obtain⟨k,hk0⟩:∃k,k=(i+j)/2:=⟨_,rfl⟩
  rw[←hk0]at hm hk hpi
  rw[qo]at hpi
  have hik:i≤k:=by omega
  have hkj:k<j:=by omega
  clear hk0
  refine dy @eT hm @ke ?_
  refine sO hf ?_
  refine aC (hsp (L.getD k dG) t) rfl rfl ?_
  generalize Lib.compareBytes (L.getD k dG).1 t=c at *
  by_cases hc:c<0
  ·refine az hc ?_
   exact hR1 (k+1,j) _ (by simp only;omega) ⟨by simp only;omega,by simp only;omega,h3⟩ (.le vV)
  ·refine az hc ?_
   exact hR1 (i,k) _ (by simp only;omega) ⟨h1,by simp only;omega,by simp only;omega⟩ (.le vV)
 ·obtain rfl:i=j:=by omega
  obtain rfl:i=posF t (kf L):=by omega
  by_cases hlt:posF t (kf L)<L.length
  ·have hi:((posF t (kf L):Nat):Int)<(L.length:Int):=by omega
   have hz:∀a:Bs,(Lib.compareBytes a t=0)↔a=t:=fun a=>⟨kO,fun e=>by rw[e];exact lU t⟩
   have hz:=hz (L.getD (posF t (kf L)) dG).1
   refine dy @eT hi @ke ?_
   refine jY @eT hi @ke ?_
   refine yQ hf ?_
   refine jU (by simp(disch:=first | omega | (simp only[Lx];omega))only[go_sem,simprocAttr,jg]) (hsp (L.getD (posF t (kf L)) dG) t) vV rfl rfl ?_
   have hfo:∀b:Bool,decide (Lib.compareBytes (L.getD (posF t (kf L)) dG).1 t=0)=b→hU t (kf L)=.ai [.int .i64 (posF t (kf L):Nat),.bool b]:=by
    intro b hb
    unfold hU
    rw[qo,←hb,decide_eq_decide.2 (⟨fun h=>hz.2 h.2,fun h=>⟨by omega,hz.1 h⟩⟩:(posF t (kf L)<(kf L).length∧(L.getD (posF t (kf L)) dG).1=t)↔Lib.compareBytes (L.getD (posF t (kf L)) dG).1 t=0)]
   generalize Lib.compareBytes (L.getD (posF t (kf L)) dG).1 t=c at *
   by_cases hc:c=0
   ·refine az hc ?_
    refine cm hc ?_
    exact hR.ro ⟨rfl,(hfo true (by simp[hc])).symm⟩
   ·refine az hc ?_
    refine cm hc ?_
    exact hR.ro ⟨rfl,(hfo false (by simp[hc])).symm⟩
  ·refine bc @eT hlt ?_
   refine gB @eT hlt ?_
   refine yP ?_
   refine az hlt ?_
   refine cm hlt ?_
   exact hR.ro ⟨rfl,by unfold hU;rw[decide_eq_false (fun h:_∧_=>hlt (by have:=h.1;omega))]⟩
abbrev fE (t:Bs) (L:List Rw):List Bs:=bU t (kf L)
set_option maxHeartbeats 1000000 in
theorem arW (s:Bs) (p:List Rw×Bs) (t:Bs) (hs:dY (kf p.1)) (hl:p.1.length≤100000) (ht:t.length≤9223372036854775807) (hp:∀r∈p.1,r.1.length≤9223372036854775807) :
    aN Tryz.prog 41 [aM s p,.str t] (.ro 1 (aO (fE t p.1))):=by
 refine Cod.arX (fun E R hN hR=>?_)
 have hfl:=js s 256
 obtain⟨L,sm⟩:=p
 simp only at hs hl hp hR ⊢
 refine wW ?_
 refine aC (Cb _ (by kernel_rfl) aq4 L t hs hl) rfl rfl ?_
 have hpl:=nY t (kf L)
 have hkl:=qp L
 obtain⟨o,ho⟩:∃o,o=posF t (kf L):=⟨_,rfl⟩
 unfold fE bU at hR
 rw[←ho]at hpl hR
 simp(disch:=first | omega | (simp only[Lx];omega))only[go_sem,simprocAttr,←ho]
 obtain⟨D,hD⟩:∃D,D=(kf L).drop o:=⟨_,rfl⟩
 have hDl:D.length=L.length-o:=by rw[hD,List.length_drop,hkl]
 rw[←hD]at hR
 refine ba hN (fun k:Nat=>⟨[(0,aM s (L,sm)),(1,.str t),(5,.sl 243048 0 (D.take k).length),(6,.int .i64 ((o+k:Nat):Int))],[(243048,.arr 1 (aO ((D.take k).map (·.1))))]⟩)
  (fun k=>k≤D.length∧(D.take k).all (fun f=>bw t f.1)=true) (fun k=>D.length-k) 0 (.nil 5 243048 1 rfl (.le (by simp(disch:=first | omega | (simp only[Lx];omega))only[go_sem,simprocAttr,oB,List.take_zero,List.map_nil,List.length_nil,Nat.add_zero]))) ⟨Nat.zero_le _,by simp⟩ ?_
 rintro k R1 ⟨hk,hall⟩ hR1
 have htl:(D.take k).length=k:=by rw[List.length_take];omega
 have hsub:aI (aO ((D.take k).map (·.1))) 0 k=aO ((D.take k).map (·.1)):=by
  unfold aI
  rw[List.drop_zero,List.take_of_length_le (by rw[bQ,List.length_map,htl];omega)]
 have fin:(D.length≤k∨bw t (D.getD k aX).1=false)→D.takeWhile (fun f=>bw t f.1)=D.take k:=fun h=>vh aX hall h
 by_cases hlt:k<D.length
 ·have hsn:=fh aX D hlt
  have hgd:(L.getD (o+k) dG).1=(D.getD k aX).1:=by rw[hD,xV,qo]
  have hmem:(L.getD (o+k) dG).1.length≤9223372036854775807:=hp _ (eP dG (by omega))
  rw[hgd]at hmem
  have hi:((o+k:Nat):Int)<(L.length:Int):=by omega
  rw[htl]
  refine eo @eT hi @ke hgd ?_
  refine pZ @eT hi @ke hgd ?_
  refine mi (jU vV (uU _ t hmem ht) vV rfl rfl ?_)
  generalize hx:D.getD k aX=x at *
  by_cases hb:bw t x.1=true
  ·simp(disch:=first | omega | (simp only[Lx];omega))only[go_sem,simprocAttr,hb,eT,ke,hgd,bQ,List.length_map,htl]
   rw[hsub,mO]
   refine⟨⟨fN,by omega⟩,hR1 (k+1) _ (by omega) ⟨by omega,by rw[hsn,List.all_append,hall];simp[hb]⟩ (.le ?_)⟩
   rw[hsn,List.length_append,htl,List.map_append]
   simp(disch:=first | omega | (simp only[Lx];omega))only[go_sem,simprocAttr,List.map_cons,List.map_nil,List.length_singleton]
  ·have hb:bw t x.1=false:=by simpa using hb
   rw[fin (.inr hb)]at hR
   refine az hb ?_
   exact hR.wk (h':=[]) (r':=.ro 1 (aO ((D.take k).map (·.1)))) (ar':=[.undef,.undef]) rfl (.bH 243048 (.le (by simp(disch:=first | omega | (simp only[Lx];omega))only[go_sem,simprocAttr,bQ,List.length_map,htl,fN,hsub]))) ⟨rfl,rfl⟩
 ·have hi:¬((o+k:Nat):Int)<(L.length:Int):=by omega
  rw[fin (.inl (by omega))]at hR
  have hDk:D.take k=D:=List.take_of_length_le (by omega)
  rw[hDk]at hsub hR htl
  rw[hDk,htl]
  refine bc @eT hi ?_
  refine gB @eT hi ?_
  exact hR.wk (h':=[]) (r':=.ro 1 (aO (D.map (·.1)))) (ar':=[.undef,.undef]) rfl (.bH 243048 (.le (by simp(disch:=first | omega | (simp only[Lx];omega))only[go_sem,simprocAttr,bQ,List.length_map,htl,fN,hsub]))) ⟨rfl,rfl⟩
end Go.Proofs.YtoalcafkffmiiaaGreatDoor.Ls
