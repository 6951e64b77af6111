/- The proof, part 36 of 42. -/
import Derived.Test.YtoalcafkffmiiaaGreatDoorOdbSureZH
import Derived.Test.YtoalcafkffmiiaaGreatDoorOdbSureZI
import Derived.Shelf.Strings.Repeat
set_option linter.all false
namespace Go.Proofs.YtoalcafkffmiiaaGreatDoor.Ls
open Eng
set_option maxRecDepth 10000
def cY (t:Bs) (ps:List bD):List Bs:=ps.flatMap fun p=>fE t p.2.2.1
theorem Un (t:Bs) (ps:List bD) (p:bD):cY t (ps++[p])=cY t ps++fE t p.2.2.1:=by unfold cY;simp
def iG (ps:List bD):Prop:=∀p∈ps,p.2.2.1.length≤1000∧iH (p.2.2.1.map (·.1))∧∀r∈p.2.2.1,cL r.1=true
theorem tL {L:List Rw} (h:iH (L.map (·.1))):iI (kf L):=by
 unfold iI kf
 unfold iH at h
 rw[List.pairwise_map]at h ⊢
 exact h
theorem Aw (t:Bs) (L:List Rw):(fE t L).length≤L.length:=by
 have:=lD t (kf L)
 rwa[qp]at this
theorem tA (t:Bs):∀{ps:List bD},iG ps→(cY t ps).length≤1000*ps.length
 | [],_=>by simp[cY]
 | p::r,h=>by
  have h1:=tA t (ps:=r) (fun q hq=>h q (List.mem_cons_of_mem _ hq))
  have h2:=Aw t p.2.2.1
  have h3:=(h p (List.mem_cons_self ..)).1
  unfold cY at *
  rw[List.flatMap_cons,List.length_append,List.length_cons]
  omega
theorem ahh {ps:List bD} (h:iG ps) (k:Nat):iG (ps.take k):=fun p hp=>h p (List.mem_of_mem_take hp)
theorem aoI {l m:List Bs}:aO l++aO m=aO (l++m):=by simp[aO]
theorem u9 (l:List Bs):aI (aO l) 0 l.length=aO l:=by
 unfold aI
 rw[List.drop_zero,List.take_of_length_le (by rw[bQ];omega)]
def jb (t:Bs) (L:List Fi):List Bs:=(cZ (bU eR L)).filter (bw t)
def ka (t:Bs) (L:List Fi) (ps:List bD):List Bs:=jC (jb t L++cY t ps)
theorem xl (l:List Bs):∀m,(Lib.compactUpTo l.toArray m).length≤m
 | 0=>by simp[Lib.compactUpTo]
 | m+1=>by
  have:=xl l m
  rw[Lib.compactUpTo_succ,List.length_append]
  split<;>simp<;>omega
theorem sx (l:List Bs):(Lib.compact l).length≤l.length:=by
 have:=xl l l.toArray.size
 unfold Lib.compact
 simpa using this
theorem A9 (l:List Bs):(jC l).length≤l.length:=by
 have h1:=sx (uY l)
 rwa[List.length_mergeSort]at h1
theorem ab1 (t:Bs) {L:List Fi} {ps:List bD} (hl:L.length≤100) (hps:iG ps) (hpl:ps.length≤100):(ka t L ps).length≤1000000:=by
 have h1:=A9 (jb t L++cY t ps)
 have h2:=tA t hps
 have h3:(jb t L).length≤L.length:=by
  have a:=List.length_filter_le (bw t) (cZ (bU eR L))
  have b:=tY (bU eR L)
  have c:=lD eR L
  unfold jb;omega
 have h4:1000*ps.length≤1000*100:=Nat.mul_le_mul_left _ hpl
 rw[List.length_append]at h1
 unfold ka
 omega
set_option maxHeartbeats 4000000 in
theorem aeh (L:List Fi) (n:Nat) (ps:List bD) (t:Bs) (hs:dY L) (hl:L.length≤100) (hc:∀f∈L,f.1.length≤200) (hps:iG ps) (hpl:ps.length≤100) (ht:t.length≤140737488351232) :
    Eng.Spec Tryz.prog 11 [] [il L n ps,.str t] (fun h r ar=>h=[(247042,.arr 1 (aO (gb (sortL (jb t L++cY t ps)))))]∧r=.sl 247042 0 (ka t L ps).length∧ar=[.undef,.undef]):=by
 refine Cod.aeH (fun E R hN hR=>?_)
 refine wW ?_
 refine bj [] (aaF L n hs (by omega) hc) trivial (fun _=>rfl) ?_
 rintro h' v ar ⟨rfl,rfl,rfl⟩
 have hul:=lD eR L
 have hll:=tY (bU eR L)
 have hlm:∀x∈cZ (bU eR L),x.length=40:=fun x hx=>aak hx
 unfold ka jb at hR
 generalize cZ (bU eR L)=U at *
 refine dy @bQ @fN @C6 ?_
 refine ba hN (fun k:Nat=>⟨[(0,il L n ps),(1,.str t),(5,.sl 247026 0 ((U.take k).filter (bw t)).length),(14,.ro 1 (aO U)),(15,.int .i64 U.length),(16,.int .i64 k)],[(247026,.arr 1 (aO ((U.take k).filter (bw t))))]⟩) (fun k=>k≤U.length) (fun k=>U.length-k) 0
  (.bH 213034 (.nil 5 247026 1 rfl (.le (by simp(disch:=omega)only[go_sem,simprocAttr,List.take_zero,oB,List.filter_nil,List.length_nil,u9])))) (Nat.zero_le _) ?_
 rintro k R1 hk hR1
 have hfl:((U.take k).filter (bw t)).length≤k:=by
  have:=List.length_filter_le (bw t) (U.take k)
  rw[List.length_take]at this;omega
 by_cases hlt:k<U.length
 ·have hsn:=fh [] U hlt
  have hm:=hlm _ (eP [] hlt)
  have hb:=uU (U.getD k []) t (by omega) (by omega)
  refine bc @bQ @nT ?_
  refine aC hb rfl rfl ?_
  cases hbb:bw t (U.getD k [])with
  | false=>
   refine wW ?_
   exact hR1 (k+1) _ (by omega) (by omega) (.le (by rw[hsn,List.filter_append,List.filter_cons_of_neg (by rw[hbb];simp),List.filter_nil,List.append_nil];exact vV))
  | true=>
   obtain⟨O,hO⟩:∃O,O=(U.take k).filter (bw t):=⟨_,rfl⟩
   rw[←hO]at hfl
   rw[←hO]
   refine az @bQ ?_
   rw[u9,mO]
   refine⟨⟨fN,by omega⟩,hR1 (k+1) _ (by omega) (by omega) (.le (by rw[hsn,List.filter_append,List.filter_cons_of_pos hbb,List.filter_nil,←hO,List.length_append,List.length_singleton];exact vV))⟩
 ·obtain rfl:k=U.length:=by omega
  rw[List.take_of_length_le (Nat.le_refl _)]at hfl
  rw[List.take_of_length_le (Nat.le_refl _)]
  generalize U.filter (bw t)=O at *
  refine bc @bQ @jF ?_
  have htk:∀k,(cY t (ps.take k)).length≤1000*ps.length:=fun k=>by
   have h1:=tA t (ahh hps k)
   rw[List.length_take]at h1
   have:1000*min k ps.length≤1000*ps.length:=Nat.mul_le_mul_left _ (Nat.min_le_right ..)
   omega
  refine ba hN (fun k:Nat=>⟨[(1,.str t),(5,.sl 247042 0 (O++cY t (ps.take k)).length),(31,.ro 2 (dP ps)),(32,.int .i64 ps.length),(33,.int .i64 k)],[(247042,.arr 1 (aO (O++cY t (ps.take k))))]⟩) (fun k=>k≤ps.length) (fun k=>ps.length-k) 0
   (.jf 247026 247042 rfl rfl (.le (by simp(disch:=omega)only[go_sem,simprocAttr,List.take_zero,cY,List.flatMap_nil,List.append_nil]))) (Nat.zero_le _) ?_
  rintro k R2 hk hR2
  have hpk:=htk k
  by_cases hlt:k<ps.length
  ·have hsn:=fh iZ ps hlt
   obtain⟨p,hp⟩:∃p,p=ps.getD k iZ:=⟨_,rfl⟩
   obtain⟨g1,g2,g3⟩:=hps p (by rw[hp];exact eP iZ hlt)
   have hml:=Aw t p.2.2.1
   have hx:=arW p.2.1 p.2.2 t (tL g2).ow (by omega) (by omega) (fun r hr=>by have:=(zu (g3 r hr)).1;omega)
   have hin:=Un t (ps.take k) p
   rw[←hp]at hsn
   rw[←hsn]at hin
   obtain⟨Q,hQ⟩:∃Q,Q=O++cY t (ps.take k):=⟨_,rfl⟩
   have hQl:Q.length=O.length+(cY t (ps.take k)).length:=by rw[hQ,List.length_append]
   rw[←hQ]
   simp(disch:=omega)only[go_sem,simprocAttr,jF,AX,←hp]
   refine aC hx rfl rfl ?_
   have hnx:cY t (ps.take (k+1))=cY t (ps.take k)++fE t p.2.2.1:=hin
   obtain⟨M,hM⟩:∃M,M=fE t p.2.2.1:=⟨_,rfl⟩
   rw[←hM]at hnx hml
   rw[←hM]
   refine az @bQ ?_
   rw[u9,aoI]
   refine⟨⟨fN,fN,by omega⟩,hR2 (k+1) _ (by omega) (by omega) (.le (by rw[hnx,←List.append_assoc,←hQ,List.length_append];exact vV))⟩
  ·obtain rfl:k=ps.length:=by omega
   rw[List.take_of_length_le (Nat.le_refl _)]at hpk
   rw[List.take_of_length_le (Nat.le_refl _)]
   obtain⟨Z,hZ⟩:∃Z,Z=O++cY t ps:=⟨_,rfl⟩
   have hZl:Z.length=O.length+(cY t ps).length:=by rw[hZ,List.length_append]
   have hZb:Z.length≤1000000:=by
    have:1000*ps.length≤1000*100:=Nat.mul_le_mul_left _ hpl
    omega
   rw[←hZ]at hR
   rw[←hZ]
   refine az @jF ?_
   refine pq (n:=1) [5] vV vV rfl (am6 247042 Z hZb) ?_
   rintro h' v ar ⟨rfl,rfl,rfl⟩
   have hsl:(sortL Z).length=Z.length:=List.length_mergeSort _
   have hcl:=sx (sortL Z)
   have hco:=am5 247042 (sortL Z) (by omega) hcl
   rw[hsl]at hco hcl
   refine wW ?_
   refine pq (n:=1) [5] vV vV rfl hco ?_
   rintro h' v ar ⟨rfl,rfl,rfl⟩
   have hpl2:(gb (sortL Z)).length=Z.length:=by unfold gb;rw[List.length_append,List.length_replicate];omega
   refine wW ?_
   exact hR.wk (h':=[(247042,.arr 1 (aO (gb (sortL Z))))]) (r':=.sl 247042 0 (jC Z).length) (ar':=[.undef,.undef]) rfl (.le (by simp(disch:=omega)only[go_sem,simprocAttr,show(jC Z).length=(Lib.compact (sortL Z)).length from rfl])) ⟨rfl,rfl,rfl⟩
theorem af8 (Z:List Bs):aI (aO (gb (sortL Z))) 0 (jC Z).length=aO (jC Z):=by
 show aI (aO (gb (sortL Z))) 0 (Lib.compact (sortL Z)).length=aO (Lib.compact (sortL Z))
 unfold aI gb aO
 rw[List.drop_zero,List.map_append,List.take_left' (List.length_map ..)]
theorem af7 (Z:List Bs):(gb (sortL Z)).length=Z.length∧(jC Z).length≤Z.length:=by
 have hsl:(sortL Z).length=Z.length:=List.length_mergeSort _
 have hcl:=sx (sortL Z)
 refine⟨?_,A9 Z⟩
 unfold gb;rw[List.length_append,List.length_replicate];omega
open Eng
set_option maxRecDepth 10000
theorem Ai:∀a b:Bs,Op.bytesLess a b=decide (Lib.compareBytes a b = -1)
 | [],[]=>rfl
 | [],_::_=>rfl
 | _::_,[]=>rfl
 | x::r,y::t=>by
  have ih:=Ai r t
  rw[Op.bytesLess,Lib.compareBytes,ih]
  by_cases h1:x<y
  ·simp[h1]
  ·by_cases h2:y<x
   ·have:¬x=y:=fun e=>by subst e;exact h1 h2
    simp[h1,h2,this]
   ·have:x=y:=by
     simp only[UInt8.lt_iff_toNat_lt]at h1 h2
     exact UInt8.toNat.inj (by omega)
    simp[this]
theorem od {s:Bs} {n:Nat}:∀{k:Nat} {l:List Rw},rowsP s n k=.ok l→∀j,j<k→gI s n j=.ok (l.getD j dG)
 | 0,l,_,j,hj=>by omega
 | k+1,l,h,j,hj=>by
  unfold rowsP at h
  cases h1:rowsP s n k with
  | error e=>rw[h1]at h;cases h
  | ok l'=>
   have hl:=oe h1
   rw[h1]at h
   cases h2:gI s n k with
   | error e=>rw[h2]at h;cases h
   | ok r=>
    rw[h2]at h
    cases h
    rcases Nat.lt_succ_iff_lt_or_eq.1 hj with hjk | rfl
    ·rw[od h1 j hjk,List.getD_eq_getElem?_getD,List.getD_eq_getElem?_getD,List.getElem?_append_left (by omega)]
    ·rw[h2,List.getD_eq_getElem?_getD,List.getElem?_append_right (by omega),hl,Nat.sub_self];rfl
theorem q7 {s:Bs} {n j:Nat} {r:Rw} (h:gI s n j=.ok r):¬lT s j∧r.1=Sh.bP (fJ s j)∧r.2.1≤1099511627776:=by
 unfold gI at h
 split at h
 ·cases h
 ·rename_i hb
  split at h
  ·cases h
  ·split at h
   ·cases h
   ·cases h
    exact⟨hb,rfl,by simp only;omega⟩
theorem Bp:∀{l:List Bs},(∀i,i+1<l.length→Lib.compareBytes (l.getD i []) (l.getD (i+1) [])<0)→iH l
 | [],_=>.nil
 | [x],_=>List.pairwise_singleton _ _
 | x::y::r,h=>by
  have ih:=Bp (l:=y::r) (fun i hi=>by simpa using h (i+1) (by simpa using hi))
  have h0:Lib.compareBytes x y<0:=by simpa using h 0 (by simp)
  refine List.pairwise_cons.2 ⟨fun z hz=>?_,ih⟩
  rcases List.mem_cons.1 hz with rfl | hz
  ·exact h0
  ·have:=(List.pairwise_cons.1 ih).1 z hz
   exact xf h0 (by omega)
theorem Av (l:List Rw) (i:Nat):(l.map (·.1)).getD i []=(l.getD i dG).1:=by
 rw[List.getD_eq_getElem?_getD,List.getD_eq_getElem?_getD,List.getElem?_map]
 cases l[i]?<;>rfl
theorem aga {s:Bs} {x:List Rw×Bs} (h:ed s=.ok x):x.1.length≤1000∧iH (x.1.map (·.1))∧∀r∈x.1,cL r.1=true:=by
 unfold ed at h
 simp only at h
 split at h
 ·cases h
 rename_i h0
 split at h
 ·cases h
 split at h
 ·cases h
 split at h
 ·cases h
 rename_i hn
 split at h
 ·cases h
 rename_i hlen
 split at h
 ·cases h
 split at h
 ·cases h
 rename_i l hl
 split at h
 ·cases h
 cases h
 have hll:=oe hl
 have hraw:∀j,j<cT s 256→(fJ s j).length=20:=fun j hj=>iM (by omega)
 refine⟨by simp only;omega,Bp (fun i hi=>?_),fun r hr=>?_⟩
 ·simp only[List.length_map]at hi
  rw[Av,Av]
  obtain⟨_,e1,_⟩:=q7 (od hl i (by omega))
  obtain⟨b2,e2,_⟩:=q7 (od hl (i+1) (by omega))
  rw[e1,e2]
  have h1:Op.bytesLess (fJ s i) (fJ s (i+1))=true:=by
   have:cg s (1012+20*(i+1)) 20=fJ s i:=by unfold fJ;rw[show 1012+20*(i+1)=1032+20*i by omega]
   cases hb:Op.bytesLess (fJ s i) (fJ s (i+1))with
   | true=>rfl
   | false=>exact absurd (.inl ⟨by omega,by rw[this];exact hb⟩) b2
  rw[Ai,decide_eq_true_eq]at h1
  exact ze _ _ (by omega) (by rw[hraw i (by omega),hraw (i+1) (by omega)])
 ·obtain⟨j,hj,rfl⟩:=List.mem_iff_getElem.1 hr
  obtain⟨_,e1,_⟩:=q7 (od hl j (by simp only at hj;omega))
  simp only at hj e1
  rw[List.getD_eq_getElem?_getD,List.getElem?_eq_getElem hj]at e1
  simp only[Option.getD_some]at e1
  rw[e1]
  exact QM (hraw j (by omega))
theorem Bo {L:List Fi} {U:List Bs}:∀{k:Nat} {ps:List bD},packsP L U k=.ok ps→iG ps
 | 0,ps,h=>by
  unfold packsP at h
  cases h
  intro p hp;simp at hp
 | k+1,ps,h=>by
  unfold packsP at h
  cases h1:packsP L U k with
  | error e=>rw[h1]at h;cases h
  | ok l'=>
   have ih:=Bo h1
   rw[h1]at h
   cases h2:stepP L (U.getD k [])with
   | error e=>rw[h2]at h;cases h
   | ok r=>
    rw[h2]at h
    cases r with
    | none=>cases h;exact ih
    | some r=>
     cases h
     intro p hp
     rcases List.mem_append.1 hp with hp | hp
     ·exact ih p hp
     ·rw[List.mem_singleton]at hp
      subst hp
      unfold stepP at h2
      split at h2
      ·cases h2
      ·split at h2
       ·cases h2
       ·rename_i x hx
        split at h2
        ·cases h2
        ·split at h2
         ·cases h2
         ·split at h2
          ·cases h2
          ·split at h2
           ·cases h2
           ·cases h2
            exact aga hx
theorem AY {L:List Fi} {ps:List bD} (h:iq L=.ok ps):iG ps∧ps.length≤L.length:=by
 have h1:=uv h
 have h2:=lD eS L
 exact⟨Bo h,by omega⟩
theorem acH {L:List Fi} {e:Int} (h:iq L=.error e):e≠0:=by
 unfold iq at h
 generalize (bU eS L).length=k at h
 induction k with
 | zero=>unfold packsP at h;cases h
 | succ k ih=>
  unfold packsP at h
  cases h1:packsP L (bU eS L) k with
  | error e'=>
   rw[h1]at h
   cases h
   exact ih h1
  | ok l'=>
   rw[h1]at h
   cases h2:stepP L ((bU eS L).getD k [])with
   | ok r=>
    rw[h2]at h
    cases r<;>cases h
   | error e'=>
    rw[h2]at h
    cases h
    unfold stepP at h2
    split at h2
    ·cases h2
    ·split at h2
     ·rename_i hx
      cases h2
      exact Bq hx
     ·split at h2
      ·cases h2;decide
      ·split at h2
       ·rename_i hc
        cases h2;exact hc
       ·split at h2
        ·cases h2;decide
        ·split at h2
         ·cases h2;decide
         ·cases h2
theorem Oc (t:Bs) (n:Nat) (ht:t.length≤30000000000000000000) (hn:n≤100000):aN Tryz.prog 30 [.str t,.int .i64 n] (.str (t.take n)):=by
 refine Cod.Ol (fun E R hN hR=>?_)
 by_cases h:n<t.length
 ·have hi:(n:Int)<(t.length:Int):=by omega
  refine az hi ?_
  exact hR.ro ⟨rfl,rfl⟩
 ·rw[List.take_of_length_le (by omega)]at hR
  have hi:¬(n:Int)<(t.length:Int):=by omega
  refine az hi ?_
  exact hR.ro ⟨rfl,rfl⟩
theorem N3 (fs:List Fi) (n:Nat) (hl:fs.length*32≤140737488355328) (hn:n≤1000):Eng.Spec Tryz.prog 29 [] [.ro 2 (bo fs),.int .i64 n] (fun h r ar=>h=[(216012,.arr 2 (bo (fs.take n)))]∧r=.sl 216012 0 (fs.take n).length∧ar=[.undef,.undef]):=by
 refine Cod.Oa (fun E R hN hR=>?_)
 by_cases h:n<fs.length
 ·have hi:(n:Int)<(fs.length:Int):=by omega
  have htl:(fs.take n).length=n:=by rw[List.length_take];omega
  rw[htl]at hR
  refine eo @bV hi @Oo htl ?_
  exact⟨⟨mb,by omega⟩,hR.wk (h':=[(216012,.arr 2 (bo (fs.take n)))]) (r':=.sl 216012 0 n) (ar':=[.undef,.undef]) rfl (.le vV) ⟨rfl,rfl,rfl⟩⟩
 ·have hi:¬(n:Int)<(fs.length:Int):=by omega
  rw[List.take_of_length_le (by omega)]at hR
  refine bc @bV hi ?_
  exact⟨⟨mb,by omega⟩,hR.wk (h':=[(216012,.arr 2 (bo fs))]) (r':=.sl 216012 0 fs.length) (ar':=[.undef,.undef]) rfl (.le vV) ⟨rfl,rfl,rfl⟩⟩
theorem Ot {A D:List Fi} {g x:Fi}:(bo (A++g::D)).set A.length (.agg [.str x.1,.str x.2])=bo (A++[x]++D):=by
 unfold bo
 rw[List.map_append,List.set_append_right _ _ (by rw[List.length_map];exact Nat.le_refl _),List.length_map,Nat.sub_self]
 simp[dm]
def gn (f:Fi):Fi:=(f.1,f.2.take 3000)
def kn (fs:List Fi) (n:Nat):List Fi:=(fs.take n).map gn
theorem amw (fs:List Fi) (n:Nat) (hl:fs.length*32≤140737488355328) (hn:n≤1000) (hd:∀f∈fs,f.2.length≤140737488351232):Eng.Spec Tryz.prog 8 [] [.ro 2 (bo fs),.int .i64 n] (fun h r ar=>h=[(216012,.arr 2 (bo (kn fs n)))]∧r=.sl 216012 0 (kn fs n).length∧ar=[.undef,.undef]):=by
 refine Cod.amx (fun E R hN hR=>?_)
 refine wW ?_
 refine bj [] (N3 fs n hl hn) trivial (fun _=>rfl) ?_
 rintro h' v ar ⟨rfl,rfl,rfl⟩
 unfold kn at hR
 have hdg:∀f∈fs.take n,f.2.length≤140737488351232:=fun f hf=>hd f (List.mem_of_mem_take hf)
 have hgl:(fs.take n).length≤1000:=by rw[List.length_take];omega
 obtain⟨G,hG⟩:∃G,G=fs.take n:=⟨_,rfl⟩
 rw[←hG]at hR hdg hgl
 simp(disch:=first | omega | (simp only[Lx];omega))only[go_sem,simprocAttr,mb,bV,sW,←hG]
 refine ba hN (fun k:Nat=>⟨[(5,.sl 216012 0 G.length),(11,.int .i64 G.length),(12,.int .i64 k)],[(216012,.arr 2 (bo ((G.take k).map gn++G.drop k)))]⟩) (fun k=>k≤G.length) (fun k=>G.length-k) 0 (.le (by simp(disch:=first | omega | (simp only[Lx];omega))only[go_sem,simprocAttr,List.take_zero,List.drop_zero,List.map_nil,List.nil_append])) (Nat.zero_le _) ?_
 rintro k R1 hk hR1
 by_cases hlt:k<G.length
 ·have hL:((G.take k).map gn++G.drop k).length=G.length:=by rw[List.length_append,List.length_map,List.length_take,List.length_drop];omega
  have hg:((G.take k).map gn++G.drop k).getD k aX=G.getD k aX:=by
   rw[List.getD_eq_getElem?_getD,List.getElem?_append_right (by rw[List.length_map,List.length_take];omega),List.length_map,List.length_take,Nat.min_eq_left hk,Nat.sub_self,List.getElem?_drop,Nat.add_zero,←List.getD_eq_getElem?_getD]
  have hm:=hdg _ (eP aX hlt)
  have hf:=Oc (G.getD k aX).2 3000 (by omega) (by decide)
  rw[show((3000:Nat):Int)=3000 from rfl]at hf
  refine eo @bV hL @fH hg ?_
  refine aC hf rfl rfl ?_
  refine eo @bV hL @fH hg ?_
  have hdr:G.drop k=G.getD k aX::G.drop (k+1):=by
   rw[List.getD_eq_getElem?_getD,List.getElem?_eq_getElem hlt];exact List.drop_eq_getElem_cons hlt
  have hal:((G.take k).map gn).length=k:=by rw[List.length_map,List.length_take];omega
  have hst:(bo ((G.take k).map gn++G.drop k)).set k (.agg [.str (G.getD k aX).1,.str ((G.getD k aX).2.take 3000)])=bo ((G.take k).map gn++[gn (G.getD k aX)]++G.drop (k+1)):=by
   have h:=Ot (A:=(G.take k).map gn) (D:=G.drop (k+1)) (g:=G.getD k aX) (x:=gn (G.getD k aX))
   rw[hal,←hdr]at h
   exact h
  refine hR1 (k+1) _ (by omega) (by omega) (.le ?_)
  rw[hst,fh aX G hlt,List.map_append]
  simp(disch:=first | omega | (simp only[Lx];omega))only[go_sem,simprocAttr,List.map_cons,List.map_nil]
 ·obtain rfl:k=G.length:=by omega
  rw[List.length_map]at hR
  simp(disch:=first | omega | (simp only[Lx];omega))only[go_sem,simprocAttr,bV,List.append_nil]
  exact hR.wk (h':=[(216012,.arr 2 (bo (G.map gn)))]) (r':=.sl 216012 0 G.length) (ar':=[.undef,.undef]) rfl (.le vV) ⟨rfl,rfl,rfl⟩
theorem amy (fs:List Fi) (n:Nat):(kn fs n).length≤n:=by unfold kn;rw[List.length_map,List.length_take];omega
theorem amz {fs:List Fi} {n:Nat} {f:Fi} (h:f∈kn fs n):f.2.length≤3000∧∃g∈fs,f.1=g.1:=by
 obtain⟨g,hg,rfl⟩:=List.mem_map.1 h
 refine⟨?_,g,List.mem_of_mem_take hg,rfl⟩
 unfold gn
 rw[List.length_take];omega
theorem Oq (L:List Fi):aI (bo L) 0 L.length=bo L:=by
 unfold aI
 rw[List.drop_zero,List.take_of_length_le (by rw[bV];omega)]
def D2 (fs:List Fi):Prop:=fs.length*32≤140737488351232∧∀f∈fs,f.1.length≤140737488351232∧f.2.length≤140737488351232
theorem ab6:lM []:=⟨fun f h=>(by simp at h),.nil,fun f h=>(by simp at h)⟩
theorem aaO (n:Nat) (id:Bs) (hi:id.length≤1000) (hid:cL id=true):aN Tryz.prog 44 [dR [] n,.str id] (.ai [.agg [.int .i64 0,.str []],.int .i64 7]):=by
 refine Cod.Ao (fun E R hN hR=>?_)
 have hpa:=tZ id (by omega)
 rw[if_pos hid]at hpa
 have hg:aN Tryz.prog 33 [dR [] n,.str (gF id)] (.ai [.str [],.int .i64 7]):=rk [] n (gF id) .nil (by simp)
 refine wW ?_
 refine aC hpa rfl rfl ?_
 refine wW ?_
 refine aC hg rfl rfl ?_
 refine wW ?_
 exact hR.ro ⟨rfl,rfl⟩
theorem adA (n:Nat) (id:Bs) (hi:id.length≤1000) (hid:cL id=true):aN Tryz.prog 12 [il [] n [],.str id] (.ai [.agg [.int .i64 0,.str []],.int .i64 7]):=by
 refine Cod.A5 (fun E R hN hR=>?_)
 have hr:=aaO n id hi hid
 refine wW ?_
 refine aC hr rfl rfl ?_
 simp(disch:=omega)only[go_sem,simprocAttr,jF,List.length_nil]
 refine ba hN (fun _:Unit=>⟨[(1,.str id),(4,.ab 249004 0),(28,.ro 2 (dP [])),(29,.int .i64 0),(30,.int .i64 0)],[(249004,.var [.int .i64 0,.str []])]⟩) (fun _=>True) (fun _=>0) () (.le vV) trivial ?_
 rintro _ R1 _ hR1
 refine wW ?_
 exact hR.wk (h':=[]) (r':=.ai [.agg [.int .i64 0,.str []],.int .i64 7]) (ar':=[.undef,.undef]) rfl (.le vV) ⟨rfl,rfl⟩
def eZ:Bs:=[111,98,106,101,99,116,115,47,112,97,99,107,47,112,97,99,107,45,101,54,57,100,101,50,57,98,98,50,100,49,100,54,52,51,52,98,56,98,50,57,97,101,55,55,53,97,100,56,99,50,101,52,56,99,53,51,57,49,46,105,100,120]
def ES:Bs:=[101,54,57,100,101,50,57,98,98,50,100,49,100,54,52,51,52,98,56,98,50,57,97,101,55,55,53,97,100,56,99,50,101,52,56,99,53,51,57,49]
theorem Gl:iq [(eZ,[])]=.error 6:=by
 have hu:bU eS [(eZ,[])]=[eZ]:=by decide +kernel
 have hp:ed []=.error 6:=by unfold ed;rw[if_pos (by decide)]
 have hs:stepP [(eZ,[])] eZ=.error 6:=by
  unfold stepP
  rw[if_neg (by decide +kernel),show((getF eZ [(eZ,[])]).getD [])=[]by decide +kernel,hp]
 unfold iq
 rw[hu]
 show packsP [(eZ,[])] [eZ] 1=_
 unfold packsP
 rw[show packsP [(eZ,[])] [eZ] 0=.ok []from rfl]
 simp only[List.getD_cons_zero,hs]
theorem afP:iq []=.ok []:=by
 unfold iq
 show packsP [] [] 0=_
 rfl
theorem o7:aN Tryz.prog 9 [] (.bool true):=by
 refine Cod.Gk (fun E R hN hR=>?_)
 have hn1:=uX [(eZ,[])] (by decide) (fun f hf=>by rw[List.mem_singleton]at hf;subst hf;decide) (fun f hf=>by rw[List.mem_singleton]at hf;subst hf;decide)
 have hn2:Eng.Spec Tryz.prog 7 [] [.aq] (AQ []):=an1 (.cons (.one (.nil 2)) .nil) (uX [] (by decide) (fun f hf=>by simp at hf) (fun f hf=>by simp at hf))
 refine wW ?_
 refine kM ⟨[(13,.ro 2 (bo [(eZ,[])]))],[]⟩ (.bH 252013 (.le (by simp(disch:=first | omega | (simp only[Lx];omega))only[go_sem,simprocAttr];rfl))) rfl ?_
 refine gS hn1 rfl ?_
 rintro h' v ar ⟨rfl,L,hL,hs,hcase⟩
 obtain rfl:L=[(eZ,[])]:=List.perm_singleton.1 hL
 have hok:lM [(eZ,[])]:=by
  refine⟨fun f hf=>?_,List.pairwise_singleton _ _,fun f hf=>?_⟩
  ·rw[List.mem_singleton]at hf
   subst hf
   decide +kernel
  ·rw[List.mem_singleton]at hf
   subst hf
   exact apQ _ _
 rcases hcase with⟨_,n,rfl⟩ | ⟨hno,_⟩
 rotate_left
 ·exact absurd hok hno
 refine⟨rfl,rfl,?_⟩
 have ho1:=uk [(eZ,[])] n hs (by decide) (fun f hf=>by rw[List.mem_singleton]at hf;subst hf;decide) (fun f hf=>by rw[List.mem_singleton]at hf;subst hf;decide)
 rw[Gl]at ho1
 refine wW ?_
 refine gG ?_
 refine aC ho1 rfl rfl ?_
 simp(disch:=first | omega | (simp only[Lx];omega))only[go_sem,simprocAttr,lp]
 refine gS hn2 rfl ?_
 rintro h' v ar ⟨rfl,L,hL,hs2,hcase⟩
 obtain rfl:L=[]:=hL.eq_nil
 rcases hcase with⟨_,m,rfl⟩ | ⟨hno,_⟩
 rotate_left
 ·exact absurd ab6 hno
 refine⟨rfl,rfl,?_⟩
 have ho2:=uk [] m hs2 (by decide) (fun f hf=>by simp at hf) (fun f hf=>by simp at hf)
 rw[afP]at ho2
 have hg:=adA m ES (by decide) (by decide +kernel)
 refine wW ?_
 refine aC ho2 rfl rfl ?_
 simp(disch:=first | omega | (simp only[Lx];omega))only[go_sem,simprocAttr,lp]
 refine gG ?_
 refine aC hg rfl rfl ?_
 refine wW ?_
 refine gG ?_
 exact hR.wk (h':=[]) (r':=.bool true) (ar':=[]) rfl (.le vV) ⟨rfl,rfl⟩
end Go.Proofs.YtoalcafkffmiiaaGreatDoor.Ls
namespace Go.Proofs.YtoalcafkffmiiaaGreatDoor.Ls
open Eng
set_option maxRecDepth 10000
theorem Dq (t:Bs):∀{L:List Fi},iI L→(∀f∈L,Lib.compareBytes t f.1≤0)→L.takeWhile (fun f=>bw t f.1)=L.filter (fun f=>bw t f.1)
 | [],_,_=>rfl
 | x::r,hs,hg=>by
  have hs':=List.pairwise_cons.1 hs
  rw[List.takeWhile_cons]
  by_cases h:bw t x.1=true
  ·rw[if_pos h,List.filter_cons_of_pos (p:=fun f:Fi=>bw t f.1) h,Dq t hs'.2 (fun f hf=>hg f (List.mem_cons_of_mem _ hf))]
  ·rw[if_neg h,List.filter_cons_of_neg (p:=fun f:Fi=>bw t f.1) h,eq_comm,List.filter_eq_nil_iff]
   intro y hy hb
   have h1:=hs'.1 y hy
   exact h (wv (hg x (List.mem_cons_self ..)) (by unfold b7 at h1;omega) hb)
theorem Dy (t:Bs):∀{L:List Fi},iI L→bU t L=(L.filter (fun f=>bw t f.1)).map (·.1)
 | [],_=>rfl
 | x::r,hs=>by
  have hs':=List.pairwise_cons.1 hs
  by_cases h:Lib.compareBytes x.1 t<0
  ·have ih:=Dy t hs'.2
   have hno:¬bw t x.1=true:=fun hb=>by
    have h1:=wx hb
    have:=gT x.1 t
    omega
   rw[List.filter_cons_of_neg (p:=fun f:Fi=>bw t f.1) hno,←ih]
   unfold bU
   rw[show posF t (x::r)=posF t r+1 by simp only[posF];rw[if_pos h],List.drop_succ_cons]
  ·have hge:∀f∈x::r,Lib.compareBytes t f.1≤0:=fun f hf=>by
    have h0:Lib.compareBytes t x.1≤0:=by have:=gT x.1 t;omega
    rcases List.mem_cons.1 hf with rfl | hf
    ·exact h0
    ·have h1:=hs'.1 f hf
     exact kN _ _ _ h0 (by unfold b7 at h1;omega)
   unfold bU
   rw[show posF t (x::r)=0 by simp only[posF];rw[if_neg h],List.drop_zero,Dq t hs hge]
theorem abt (t:Bs) {l:List Rw} (h:iH (l.map (·.1))):fE t l=(l.map (·.1)).filter (bw t):=by
 unfold fE
 rw[Dy t (tL h),List.filter_map,List.filter_map,List.map_map]
 rfl
theorem aaj {ps:List Bs} {x:Bs} (h:x∈cZ ps):cL x=true:=by
 obtain⟨p,hp,rfl⟩:=List.mem_map.1 h
 have:=(List.mem_filter.1 hp).2
 unfold j4 at this
 rw[Bool.and_eq_true]at this
 exact this.1
theorem ab0 {t:Bs} {L:List Fi} {ps:List bD} (h:iG ps) {x:Bs} (hx:x∈ka t L ps):cL x=true:=by
 unfold ka at hx
 rw[aeI,List.mem_append]at hx
 rcases hx with hx | hx
 ·exact aaj ((List.mem_filter.1 hx).1)
 ·unfold cY at hx
  obtain⟨p,hp,hx⟩:=List.mem_flatMap.1 hx
  rw[abt t (h p hp).2.1]at hx
  obtain⟨r,hr,rfl⟩:=List.mem_map.1 ((List.mem_filter.1 hx).1)
  exact(h p hp).2.2 r hr
section
variable {l:List Bs} (hl:∀x∈l,cL x=true) (hs:iH l)
include hl
include hs
end
end Go.Proofs.YtoalcafkffmiiaaGreatDoor.Ls
