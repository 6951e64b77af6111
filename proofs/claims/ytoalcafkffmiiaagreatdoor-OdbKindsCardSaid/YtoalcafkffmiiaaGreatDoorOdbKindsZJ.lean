/- The proof, part 36 of 42. -/
import Derived.Test.YtoalcafkffmiiaaGreatDoorOdbKindsZH
import Derived.Test.YtoalcafkffmiiaaGreatDoorOdbKindsZI
import Derived.Shelf.Strings.Repeat
set_option linter.all false
namespace Go.Proofs.YtoalcafkffmiiaaGreatDoor.Ls
open Eng
set_option maxRecDepth 10000
def cL (t:Bs) (ps:List bx):List Bs:=ps.flatMap fun p=>fw t p.2.2.1
theorem TI (t:Bs) (ps:List bx) (p:bx):cL t (ps++[p])=cL t ps++fw t p.2.2.1:=by unfold cL;simp
def gz (ps:List bx):Prop:=∀p∈ps,p.2.2.1.length≤1000∧iq (p.2.2.1.map (·.1))∧∀r∈p.2.2.1,cH r.1=true
theorem tB {L:List Rw} (h:iq (L.map (·.1))):ir (kf L):=by
 unfold ir kf
 unfold iq at h
 rw[List.pairwise_map]at h ⊢
 exact h
theorem z8 (t:Bs) (L:List Rw):(fw t L).length≤L.length:=by
 have:=lp t (kf L)
 rwa[p9]at this
theorem tk (t:Bs):∀{ps:List bx},gz ps→(cL t ps).length≤1000*ps.length
 | [],_=>by simp[cL]
 | p::r,h=>by
  have h1:=tk t (ps:=r) (fun q hq=>h q (List.mem_cons_of_mem _ hq))
  have h2:=z8 t p.2.2.1
  have h3:=(h p (List.mem_cons_self ..)).1
  unfold cL at *
  rw[List.flatMap_cons,List.length_append,List.length_cons]
  omega
theorem ag2 {ps:List bx} (h:gz ps) (k:Nat):gz (ps.take k):=fun p hp=>h p (List.mem_of_mem_take hp)
theorem amw {l m:List Bs}:aL l++aL m=aL (l++m):=by simp[aL]
theorem uR (l:List Bs):aG (aL l) 0 l.length=aL l:=by
 unfold aG
 rw[List.drop_zero,List.take_of_length_le (by rw[bO];omega)]
def gY (t:Bs) (L:List Fi):List Bs:=(cX (bS eG L)).filter (bw t)
def gq (t:Bs) (L:List Fi) (ps:List bx):List Bs:=jo (gY t L++cL t ps)
theorem wP (l:List Bs):∀m,(Lib.compactUpTo l.toArray m).length≤m
 | 0=>by simp[Lib.compactUpTo]
 | m+1=>by
  have:=wP l m
  rw[Lib.compactUpTo_succ,List.length_append]
  split<;>simp<;>omega
theorem sg (l:List Bs):(Lib.compact l).length≤l.length:=by
 have:=wP l l.toArray.size
 unfold Lib.compact
 simpa using this
theorem AN (l:List Bs):(jo l).length≤l.length:=by
 have h1:=sg (uI l)
 rwa[List.length_mergeSort]at h1
theorem abl (t:Bs) {L:List Fi} {ps:List bx} (hl:L.length≤100) (hps:gz ps) (hpl:ps.length≤100):(gq t L ps).length≤1000000:=by
 have h1:=AN (gY t L++cL t ps)
 have h2:=tk t hps
 have h3:(gY t L).length≤L.length:=by
  have a:=List.length_filter_le (bw t) (cX (bS eG L))
  have b:=tN (bS eG L)
  have c:=lp eG L
  unfold gY;omega
 have h4:1000*ps.length≤1000*100:=Nat.mul_le_mul_left _ hpl
 rw[List.length_append]at h1
 unfold gq
 omega
set_option maxHeartbeats 4000000 in
theorem ad2 (L:List Fi) (n:Nat) (ps:List bx) (t:Bs) (hs:du L) (hl:L.length≤100) (hc:∀f∈L,f.1.length≤200) (hps:gz ps) (hpl:ps.length≤100) (ht:t.length≤140737488351232) :
    Eng.Spec Tryz.prog 11 [] [eY L n ps,.str t] (fun h r ar=>h=[(247042,.arr 1 (aL (fC (sortL (gY t L++cL t ps)))))]∧r=.sl 247042 0 (gq t L ps).length∧ar=[.undef,.undef]):=by
 refine Cod.aet (fun E R hN hR=>?_)
 refine wW ?_
 refine bf [] (Z1 L n hs (by omega) hc) trivial (fun _=>rfl) ?_
 rintro h' v ar ⟨rfl,rfl,rfl⟩
 have hul:=lp eG L
 have hll:=tN (bS eG L)
 have hlm:∀x∈cX (bS eG L),x.length=40:=fun x hx=>ZG hx
 unfold gq gY at hR
 generalize cX (bS eG L)=U at *
 refine dz @bO @fI @amx ?_
 refine bm hN (fun k:Nat=>⟨[(0,eY L n ps),(1,.str t),(5,.sl 247026 0 ((U.take k).filter (bw t)).length),(14,.ro 1 (aL U)),(15,.int .i64 U.length),(16,.int .i64 k)],[(247026,.arr 1 (aL ((U.take k).filter (bw t))))]⟩) (fun k=>k≤U.length) (fun k=>U.length-k) 0
  (.bG 213034 (.nil 5 247026 1 rfl (.le (by simp(disch:=omega)only[go_sem,simprocAttr,List.take_zero,ob,List.filter_nil,List.length_nil,uR])))) (Nat.zero_le _) ?_
 rintro k R1 hk hR1
 have hfl:((U.take k).filter (bw t)).length≤k:=by
  have:=List.length_filter_le (bw t) (U.take k)
  rw[List.length_take]at this;omega
 by_cases hlt:k<U.length
 ·have hsn:=eT [] U hlt
  have hm:=hlm _ (eE [] hlt)
  have hb:=uE (U.getD k []) t (by omega) (by omega)
  refine bc @bO @nC ?_
  refine aC hb rfl rfl ?_
  cases hbb:bw t (U.getD k [])with
  | false=>
   refine wW ?_
   exact hR1 (k+1) _ (by omega) (by omega) (.le (by rw[hsn,List.filter_append,List.filter_cons_of_neg (by rw[hbb];simp),List.filter_nil,List.append_nil];exact vV))
  | true=>
   obtain⟨O,hO⟩:∃O,O=(U.take k).filter (bw t):=⟨_,rfl⟩
   rw[←hO]at hfl
   rw[←hO]
   refine aw @bO ?_
   rw[uR,oa]
   refine⟨⟨fI,by omega⟩,hR1 (k+1) _ (by omega) (by omega) (.le (by rw[hsn,List.filter_append,List.filter_cons_of_pos hbb,List.filter_nil,←hO,List.length_append,List.length_singleton];exact vV))⟩
 ·obtain rfl:k=U.length:=by omega
  rw[List.take_of_length_le (Nat.le_refl _)]at hfl
  rw[List.take_of_length_le (Nat.le_refl _)]
  generalize U.filter (bw t)=O at *
  refine bc @bO @js ?_
  have htk:∀k,(cL t (ps.take k)).length≤1000*ps.length:=fun k=>by
   have h1:=tk t (ag2 hps k)
   rw[List.length_take]at h1
   have:1000*min k ps.length≤1000*ps.length:=Nat.mul_le_mul_left _ (Nat.min_le_right ..)
   omega
  refine bm hN (fun k:Nat=>⟨[(1,.str t),(5,.sl 247042 0 (O++cL t (ps.take k)).length),(31,.ro 2 (dI ps)),(32,.int .i64 ps.length),(33,.int .i64 k)],[(247042,.arr 1 (aL (O++cL t (ps.take k))))]⟩) (fun k=>k≤ps.length) (fun k=>ps.length-k) 0
   (.jw 247026 247042 rfl rfl (.le (by simp(disch:=omega)only[go_sem,simprocAttr,List.take_zero,cL,List.flatMap_nil,List.append_nil]))) (Nat.zero_le _) ?_
  rintro k R2 hk hR2
  have hpk:=htk k
  by_cases hlt:k<ps.length
  ·have hsn:=eT iK ps hlt
   obtain⟨p,hp⟩:∃p,p=ps.getD k iK:=⟨_,rfl⟩
   obtain⟨g1,g2,g3⟩:=hps p (by rw[hp];exact eE iK hlt)
   have hml:=z8 t p.2.2.1
   have hx:=apH p.2.1 p.2.2 t (tB g2).nW (by omega) (by omega) (fun r hr=>by have:=(y8 (g3 r hr)).1;omega)
   have hin:=TI t (ps.take k) p
   rw[←hp]at hsn
   rw[←hsn]at hin
   obtain⟨Q,hQ⟩:∃Q,Q=O++cL t (ps.take k):=⟨_,rfl⟩
   have hQl:Q.length=O.length+(cL t (ps.take k)).length:=by rw[hQ,List.length_append]
   rw[←hQ]
   simp(disch:=omega)only[go_sem,simprocAttr,js,Av,←hp]
   refine aC hx rfl rfl ?_
   have hnx:cL t (ps.take (k+1))=cL t (ps.take k)++fw t p.2.2.1:=hin
   obtain⟨M,hM⟩:∃M,M=fw t p.2.2.1:=⟨_,rfl⟩
   rw[←hM]at hnx hml
   rw[←hM]
   refine aw @bO ?_
   rw[uR,amw]
   refine⟨⟨fI,fI,by omega⟩,hR2 (k+1) _ (by omega) (by omega) (.le (by rw[hnx,←List.append_assoc,←hQ,List.length_append];exact vV))⟩
  ·obtain rfl:k=ps.length:=by omega
   rw[List.take_of_length_le (Nat.le_refl _)]at hpk
   rw[List.take_of_length_le (Nat.le_refl _)]
   obtain⟨Z,hZ⟩:∃Z,Z=O++cL t ps:=⟨_,rfl⟩
   have hZl:Z.length=O.length+(cL t ps).length:=by rw[hZ,List.length_append]
   have hZb:Z.length≤1000000:=by
    have:1000*ps.length≤1000*100:=Nat.mul_le_mul_left _ hpl
    omega
   rw[←hZ]at hR
   rw[←hZ]
   refine aw @js ?_
   refine oX (n:=1) [5] vV vV rfl (akS 247042 Z hZb) ?_
   rintro h' v ar ⟨rfl,rfl,rfl⟩
   have hsl:(sortL Z).length=Z.length:=List.length_mergeSort _
   have hcl:=sg (sortL Z)
   have hco:=akR 247042 (sortL Z) (by omega) hcl
   rw[hsl]at hco hcl
   refine wW ?_
   refine oX (n:=1) [5] vV vV rfl hco ?_
   rintro h' v ar ⟨rfl,rfl,rfl⟩
   have hpl2:(fC (sortL Z)).length=Z.length:=by unfold fC;rw[List.length_append,List.length_replicate];omega
   refine wW ?_
   exact hR.wk (h':=[(247042,.arr 1 (aL (fC (sortL Z))))]) (r':=.sl 247042 0 (jo Z).length) (ar':=[.undef,.undef]) rfl (.le (by simp(disch:=omega)only[go_sem,simprocAttr,show(jo Z).length=(Lib.compact (sortL Z)).length from rfl])) ⟨rfl,rfl,rfl⟩
theorem afT (Z:List Bs):aG (aL (fC (sortL Z))) 0 (jo Z).length=aL (jo Z):=by
 show aG (aL (fC (sortL Z))) 0 (Lib.compact (sortL Z)).length=aL (Lib.compact (sortL Z))
 unfold aG fC aL
 rw[List.drop_zero,List.map_append,List.take_left' (List.length_map ..)]
theorem afS (Z:List Bs):(fC (sortL Z)).length=Z.length∧(jo Z).length≤Z.length:=by
 have hsl:(sortL Z).length=Z.length:=List.length_mergeSort _
 have hcl:=sg (sortL Z)
 refine⟨?_,AN Z⟩
 unfold fC;rw[List.length_append,List.length_replicate];omega
theorem aes (L:List Fi) (n:Nat) (ps:List bx) (t:Bs) (hs:du L) (hl:L.length≤100) (hc:∀f∈L,f.1.length≤200) (hps:gz ps) (hpl:ps.length≤100) (ht:t.length≤140737488351232) :
    aO Tryz.prog 11 [eY L n ps,.str t] (.ro 1 (aL (gq t L ps))):=by
 refine uO ?_
 have hm:∀{h:HP} {r:AV} {ar:List AV},(h=[(247042,.arr 1 (aL (fC (sortL (gY t L++cL t ps)))))]∧r=.sl 247042 0 (gq t L ps).length∧ar=[.undef,.undef])→∃h2 r2 as2,as2.length=ar.length∧Wk ⟨(0,r)::numbered 1 ar,h⟩ ⟨(0,r2)::numbered 1 as2,h2⟩∧(h2=[]∧r2=.ro 1 (aL (gq t L ps))):=by
  rintro h r ar ⟨rfl,rfl,rfl⟩
  have h1:=afT (gY t L++cL t ps)
  have h2:=afS (gY t L++cL t ps)
  unfold gq
  generalize jo (gY t L++cL t ps)=O at *
  generalize fC (sortL (gY t L++cL t ps))=A at *
  exact⟨[],.ro 1 (aL O),[.undef,.undef],rfl,.bG 247042 (.le (an7 @bO @fI h1 h2)),rfl,rfl⟩
 intro X0 ρ w vs h1 hA h2 h3 h4
 refine(ad2 L n ps t hs hl hc hps hpl ht X0 ρ w vs h1 hA h2 h3 h4).mono ?_
 rintro e w' ⟨v,h',r,ρ',ar,q1,q2,q3⟩
 exact⟨v,h',r,ρ',ar,q1,hm q2,q3⟩
open Eng
set_option maxRecDepth 10000
theorem zP:∀a b:Bs,Op.bytesLess a b=decide (Lib.compareBytes a b = -1)
 | [],[]=>rfl
 | [],_::_=>rfl
 | _::_,[]=>rfl
 | x::r,y::t=>by
  have ih:=zP r t
  rw[Op.bytesLess,Lib.compareBytes,ih]
  by_cases h1:x<y
  ·simp[h1]
  ·by_cases h2:y<x
   ·have:¬x=y:=fun e=>by subst e;exact h1 h2
    simp[h1,h2,this]
   ·have:x=y:=by
     simp only[UInt8.lt_iff_toNat_lt]at h1 h2
     exact UInt8.toNat.inj (by omega)
    simp[this]
theorem nN {s:Bs} {n:Nat}:∀{k:Nat} {l:List Rw},rowsP s n k=.ok l→∀j,j<k→gu s n j=.ok (l.getD j dw)
 | 0,l,_,j,hj=>by omega
 | k+1,l,h,j,hj=>by
  unfold rowsP at h
  cases h1:rowsP s n k with
  | error e=>rw[h1]at h;cases h
  | ok l'=>
   have hl:=nP h1
   rw[h1]at h
   cases h2:gu s n k with
   | error e=>rw[h2]at h;cases h
   | ok r=>
    rw[h2]at h
    cases h
    rcases Nat.lt_succ_iff_lt_or_eq.1 hj with hjk | rfl
    ·rw[nN h1 j hjk,List.getD_eq_getElem?_getD,List.getD_eq_getElem?_getD,List.getElem?_append_left (by omega)]
    ·rw[h2,List.getD_eq_getElem?_getD,List.getElem?_append_right (by omega),hl,Nat.sub_self];rfl
theorem qN {s:Bs} {n j:Nat} {r:Rw} (h:gu s n j=.ok r):¬lG s j∧r.1=Sh.bZ (fE s j)∧r.2.1≤1099511627776:=by
 unfold gu at h
 split at h
 ·cases h
 ·rename_i hb
  split at h
  ·cases h
  ·split at h
   ·cases h
   ·cases h
    exact⟨hb,rfl,by simp only;omega⟩
theorem A7:∀{l:List Bs},(∀i,i+1<l.length→Lib.compareBytes (l.getD i []) (l.getD (i+1) [])<0)→iq l
 | [],_=>.nil
 | [x],_=>List.pairwise_singleton _ _
 | x::y::r,h=>by
  have ih:=A7 (l:=y::r) (fun i hi=>by simpa using h (i+1) (by simpa using hi))
  have h0:Lib.compareBytes x y<0:=by simpa using h 0 (by simp)
  refine List.pairwise_cons.2 ⟨fun z hz=>?_,ih⟩
  rcases List.mem_cons.1 hz with rfl | hz
  ·exact h0
  ·have:=(List.pairwise_cons.1 ih).1 z hz
   exact wK h0 (by omega)
theorem z7 (l:List Rw) (i:Nat):(l.map (·.1)).getD i []=(l.getD i dw).1:=by
 rw[List.getD_eq_getElem?_getD,List.getD_eq_getElem?_getD,List.getElem?_map]
 cases l[i]?<;>rfl
theorem afV {s:Bs} {x:List Rw×Bs} (h:dT s=.ok x):x.1.length≤1000∧iq (x.1.map (·.1))∧∀r∈x.1,cH r.1=true:=by
 unfold dT at h
 simp only at h
 split at h
 ·cases h
 rename_i h0
 split at h
 ·cases h
 split at h
 ·cases h
 split at h
 ·cases h
 rename_i hn
 split at h
 ·cases h
 rename_i hlen
 split at h
 ·cases h
 split at h
 ·cases h
 rename_i l hl
 split at h
 ·cases h
 cases h
 have hll:=nP hl
 have hraw:∀j,j<cR s 256→(fE s j).length=20:=fun j hj=>iy (by omega)
 refine⟨by simp only;omega,A7 (fun i hi=>?_),fun r hr=>?_⟩
 ·simp only[List.length_map]at hi
  rw[z7,z7]
  obtain⟨_,e1,_⟩:=qN (nN hl i (by omega))
  obtain⟨b2,e2,_⟩:=qN (nN hl (i+1) (by omega))
  rw[e1,e2]
  have h1:Op.bytesLess (fE s i) (fE s (i+1))=true:=by
   have:cf s (1012+20*(i+1)) 20=fE s i:=by unfold fE;rw[show 1012+20*(i+1)=1032+20*i by omega]
   cases hb:Op.bytesLess (fE s i) (fE s (i+1))with
   | true=>rfl
   | false=>exact absurd (.inl ⟨by omega,by rw[this];exact hb⟩) b2
  rw[zP,decide_eq_true_eq]at h1
  exact yO _ _ (by omega) (by rw[hraw i (by omega),hraw (i+1) (by omega)])
 ·obtain⟨j,hj,rfl⟩:=List.mem_iff_getElem.1 hr
  obtain⟨_,e1,_⟩:=qN (nN hl j (by simp only at hj;omega))
  simp only at hj e1
  rw[List.getD_eq_getElem?_getD,List.getElem?_eq_getElem hj]at e1
  simp only[Option.getD_some]at e1
  rw[e1]
  exact P8 (hraw j (by omega))
theorem A6 {L:List Fi} {U:List Bs}:∀{k:Nat} {ps:List bx},packsP L U k=.ok ps→gz ps
 | 0,ps,h=>by
  unfold packsP at h
  cases h
  intro p hp;simp at hp
 | k+1,ps,h=>by
  unfold packsP at h
  cases h1:packsP L U k with
  | error e=>rw[h1]at h;cases h
  | ok l'=>
   have ih:=A6 h1
   rw[h1]at h
   cases h2:stepP L (U.getD k [])with
   | error e=>rw[h2]at h;cases h
   | ok r=>
    rw[h2]at h
    cases r with
    | none=>cases h;exact ih
    | some r=>
     cases h
     intro p hp
     rcases List.mem_append.1 hp with hp | hp
     ·exact ih p hp
     ·rw[List.mem_singleton]at hp
      subst hp
      unfold stepP at h2
      split at h2
      ·cases h2
      ·split at h2
       ·cases h2
       ·rename_i x hx
        split at h2
        ·cases h2
        ·split at h2
         ·cases h2
         ·split at h2
          ·cases h2
          ·split at h2
           ·cases h2
           ·cases h2
            exact afV hx
theorem Aw {L:List Fi} {ps:List bx} (h:gW L=.ok ps):gz ps∧ps.length≤L.length:=by
 have h1:=uf h
 have h2:=lp eH L
 exact⟨A6 h,by omega⟩
theorem ab0 {L:List Fi} {e:Int} (h:gW L=.error e):e≠0:=by
 unfold gW at h
 generalize (bS eH L).length=k at h
 induction k with
 | zero=>unfold packsP at h;cases h
 | succ k ih=>
  unfold packsP at h
  cases h1:packsP L (bS eH L) k with
  | error e'=>
   rw[h1]at h
   cases h
   exact ih h1
  | ok l'=>
   rw[h1]at h
   cases h2:stepP L ((bS eH L).getD k [])with
   | ok r=>
    rw[h2]at h
    cases r<;>cases h
   | error e'=>
    rw[h2]at h
    cases h
    unfold stepP at h2
    split at h2
    ·cases h2
    ·split at h2
     ·rename_i hx
      cases h2
      exact A8 hx
     ·split at h2
      ·cases h2;decide
      ·split at h2
       ·rename_i hc
        cases h2;exact hc
       ·split at h2
        ·cases h2;decide
        ·split at h2
         ·cases h2;decide
         ·cases h2
theorem Nw (t:Bs) (n:Nat) (ht:t.length≤30000000000000000000) (hn:n≤100000):aO Tryz.prog 30 [.str t,.int .i64 n] (.str (t.take n)):=by
 refine Cod.ND (fun E R hN hR=>?_)
 by_cases h:n<t.length
 ·have hi:(n:Int)<(t.length:Int):=by omega
  refine aw hi ?_
  exact hR.ro ⟨rfl,rfl⟩
 ·rw[List.take_of_length_le (by omega)]at hR
  have hi:¬(n:Int)<(t.length:Int):=by omega
  refine aw hi ?_
  exact hR.ro ⟨rfl,rfl⟩
theorem Nn (fs:List Fi) (n:Nat) (hl:fs.length*32≤140737488355328) (hn:n≤1000):Eng.Spec Tryz.prog 29 [] [.ro 2 (bn fs),.int .i64 n] (fun h r ar=>h=[(216012,.arr 2 (bn (fs.take n)))]∧r=.sl 216012 0 (fs.take n).length∧ar=[.undef,.undef]):=by
 refine Cod.Nv (fun E R hN hR=>?_)
 by_cases h:n<fs.length
 ·have hi:(n:Int)<(fs.length:Int):=by omega
  have htl:(fs.take n).length=n:=by rw[List.length_take];omega
  rw[htl]at hR
  refine dW @bT hi @NG htl ?_
  exact⟨⟨lU,by omega⟩,hR.wk (h':=[(216012,.arr 2 (bn (fs.take n)))]) (r':=.sl 216012 0 n) (ar':=[.undef,.undef]) rfl (.le vV) ⟨rfl,rfl,rfl⟩⟩
 ·have hi:¬(n:Int)<(fs.length:Int):=by omega
  rw[List.take_of_length_le (by omega)]at hR
  refine bc @bT hi ?_
  exact⟨⟨lU,by omega⟩,hR.wk (h':=[(216012,.arr 2 (bn fs))]) (r':=.sl 216012 0 fs.length) (ar':=[.undef,.undef]) rfl (.le vV) ⟨rfl,rfl,rfl⟩⟩
theorem NI {A D:List Fi} {g x:Fi}:(bn (A++g::D)).set A.length (.agg [.str x.1,.str x.2])=bn (A++[x]++D):=by
 unfold bn
 rw[List.map_append,List.set_append_right _ _ (by rw[List.length_map];exact Nat.le_refl _),List.length_map,Nat.sub_self]
 simp[dh]
def ga (f:Fi):Fi:=(f.1,f.2.take 3000)
def j8 (fs:List Fi) (n:Nat):List Fi:=(fs.take n).map ga
theorem aki (fs:List Fi) (n:Nat) (hl:fs.length*32≤140737488355328) (hn:n≤1000) (hd:∀f∈fs,f.2.length≤140737488351232):Eng.Spec Tryz.prog 8 [] [.ro 2 (bn fs),.int .i64 n] (fun h r ar=>h=[(216012,.arr 2 (bn (j8 fs n)))]∧r=.sl 216012 0 (j8 fs n).length∧ar=[.undef,.undef]):=by
 refine Cod.akj (fun E R hN hR=>?_)
 refine wW ?_
 refine bf [] (Nn fs n hl hn) trivial (fun _=>rfl) ?_
 rintro h' v ar ⟨rfl,rfl,rfl⟩
 unfold j8 at hR
 have hdg:∀f∈fs.take n,f.2.length≤140737488351232:=fun f hf=>hd f (List.mem_of_mem_take hf)
 have hgl:(fs.take n).length≤1000:=by rw[List.length_take];omega
 obtain⟨G,hG⟩:∃G,G=fs.take n:=⟨_,rfl⟩
 rw[←hG]at hR hdg hgl
 simp(disch:=first | omega | (simp only[Lx];omega))only[go_sem,simprocAttr,lU,bT,sM,←hG]
 refine bm hN (fun k:Nat=>⟨[(5,.sl 216012 0 G.length),(11,.int .i64 G.length),(12,.int .i64 k)],[(216012,.arr 2 (bn ((G.take k).map ga++G.drop k)))]⟩) (fun k=>k≤G.length) (fun k=>G.length-k) 0 (.le (by simp(disch:=first | omega | (simp only[Lx];omega))only[go_sem,simprocAttr,List.take_zero,List.drop_zero,List.map_nil,List.nil_append])) (Nat.zero_le _) ?_
 rintro k R1 hk hR1
 by_cases hlt:k<G.length
 ·have hL:((G.take k).map ga++G.drop k).length=G.length:=by rw[List.length_append,List.length_map,List.length_take,List.length_drop];omega
  have hg:((G.take k).map ga++G.drop k).getD k aW=G.getD k aW:=by
   rw[List.getD_eq_getElem?_getD,List.getElem?_append_right (by rw[List.length_map,List.length_take];omega),List.length_map,List.length_take,Nat.min_eq_left hk,Nat.sub_self,List.getElem?_drop,Nat.add_zero,←List.getD_eq_getElem?_getD]
  have hm:=hdg _ (eE aW hlt)
  have hf:=Nw (G.getD k aW).2 3000 (by omega) (by decide)
  rw[show((3000:Nat):Int)=3000 from rfl]at hf
  refine dW @bT hL @fA hg ?_
  refine aC hf rfl rfl ?_
  refine dW @bT hL @fA hg ?_
  have hdr:G.drop k=G.getD k aW::G.drop (k+1):=by
   rw[List.getD_eq_getElem?_getD,List.getElem?_eq_getElem hlt];exact List.drop_eq_getElem_cons hlt
  have hal:((G.take k).map ga).length=k:=by rw[List.length_map,List.length_take];omega
  have hst:(bn ((G.take k).map ga++G.drop k)).set k (.agg [.str (G.getD k aW).1,.str ((G.getD k aW).2.take 3000)])=bn ((G.take k).map ga++[ga (G.getD k aW)]++G.drop (k+1)):=by
   have h:=NI (A:=(G.take k).map ga) (D:=G.drop (k+1)) (g:=G.getD k aW) (x:=ga (G.getD k aW))
   rw[hal,←hdr]at h
   exact h
  refine hR1 (k+1) _ (by omega) (by omega) (.le ?_)
  rw[hst,eT aW G hlt,List.map_append]
  simp(disch:=first | omega | (simp only[Lx];omega))only[go_sem,simprocAttr,List.map_cons,List.map_nil]
 ·obtain rfl:k=G.length:=by omega
  rw[List.length_map]at hR
  simp(disch:=first | omega | (simp only[Lx];omega))only[go_sem,simprocAttr,bT,List.append_nil]
  exact hR.wk (h':=[(216012,.arr 2 (bn (G.map ga)))]) (r':=.sl 216012 0 G.length) (ar':=[.undef,.undef]) rfl (.le vV) ⟨rfl,rfl,rfl⟩
theorem akk (fs:List Fi) (n:Nat):(j8 fs n).length≤n:=by unfold j8;rw[List.length_map,List.length_take];omega
theorem akl {fs:List Fi} {n:Nat} {f:Fi} (h:f∈j8 fs n):f.2.length≤3000∧∃g∈fs,f.1=g.1:=by
 obtain⟨g,hg,rfl⟩:=List.mem_map.1 h
 refine⟨?_,g,List.mem_of_mem_take hg,rfl⟩
 unfold ga
 rw[List.length_take];omega
theorem NH (L:List Fi):aG (bn L) 0 L.length=bn L:=by
 unfold aG
 rw[List.drop_zero,List.take_of_length_le (by rw[bT];omega)]
def Dm (fs:List Fi):Prop:=fs.length*32≤140737488351232∧∀f∈fs,f.1.length≤140737488351232∧f.2.length≤140737488351232
theorem abq:lz []:=⟨fun f h=>(by simp at h),.nil,fun f h=>(by simp at h)⟩
theorem aaa (n:Nat) (id:Bs) (hi:id.length≤1000) (hid:cH id=true):aO Tryz.prog 44 [dK [] n,.str id] (.ai [.agg [.int .i64 0,.str []],.int .i64 7]):=by
 refine Cod.zW (fun E R hN hR=>?_)
 have hpa:=tP id (by omega)
 rw[if_pos hid]at hpa
 have hg:aO Tryz.prog 33 [dK [] n,.str (gr id)] (.ai [.str [],.int .i64 7]):=qX [] n (gr id) .nil (by simp)
 refine wW ?_
 refine aC hpa rfl rfl ?_
 refine wW ?_
 refine aC hg rfl rfl ?_
 refine wW ?_
 exact hR.ro ⟨rfl,rfl⟩
theorem ac9 (n:Nat) (id:Bs) (hi:id.length≤1000) (hid:cH id=true):aO Tryz.prog 12 [eY [] n [],.str id] (.ai [.agg [.int .i64 0,.str []],.int .i64 7]):=by
 refine Cod.AF (fun E R hN hR=>?_)
 have hr:=aaa n id hi hid
 refine wW ?_
 refine aC hr rfl rfl ?_
 simp(disch:=omega)only[go_sem,simprocAttr,js,List.length_nil]
 refine bm hN (fun _:Unit=>⟨[(1,.str id),(4,.ab 249004 0),(28,.ro 2 (dI [])),(29,.int .i64 0),(30,.int .i64 0)],[(249004,.var [.int .i64 0,.str []])]⟩) (fun _=>True) (fun _=>0) () (.le vV) trivial ?_
 rintro _ R1 _ hR1
 refine wW ?_
 exact hR.wk (h':=[]) (r':=.ai [.agg [.int .i64 0,.str []],.int .i64 7]) (ar':=[.undef,.undef]) rfl (.le vV) ⟨rfl,rfl⟩
def eN:Bs:=[111,98,106,101,99,116,115,47,112,97,99,107,47,112,97,99,107,45,101,54,57,100,101,50,57,98,98,50,100,49,100,54,52,51,52,98,56,98,50,57,97,101,55,55,53,97,100,56,99,50,101,52,56,99,53,51,57,49,46,105,100,120]
def Eb:Bs:=[101,54,57,100,101,50,57,98,98,50,100,49,100,54,52,51,52,98,56,98,50,57,97,101,55,55,53,97,100,56,99,50,101,52,56,99,53,51,57,49]
theorem FE:gW [(eN,[])]=.error 6:=by
 have hu:bS eH [(eN,[])]=[eN]:=by decide +kernel
 have hp:dT []=.error 6:=by unfold dT;rw[if_pos (by decide)]
 have hs:stepP [(eN,[])] eN=.error 6:=by
  unfold stepP
  rw[if_neg (by decide +kernel),show((getF eN [(eN,[])]).getD [])=[]by decide +kernel,hp]
 unfold gW
 rw[hu]
 show packsP [(eN,[])] [eN] 1=_
 unfold packsP
 rw[show packsP [(eN,[])] [eN] 0=.ok []from rfl]
 simp only[List.getD_cons_zero,hs]
theorem afB:gW []=.ok []:=by
 unfold gW
 show packsP [] [] 0=_
 rfl
theorem oK:aO Tryz.prog 9 [] (.bool true):=by
 refine Cod.FD (fun E R hN hR=>?_)
 have hn1:=uH [(eN,[])] (by decide) (fun f hf=>by rw[List.mem_singleton]at hf;subst hf;decide) (fun f hf=>by rw[List.mem_singleton]at hf;subst hf;decide)
 have hn2:Eng.Spec Tryz.prog 7 [] [.aq] (Ap []):=alO (.cons (.one (.nil 2)) .nil) (uH [] (by decide) (fun f hf=>by simp at hf) (fun f hf=>by simp at hf))
 refine wW ?_
 refine ky ⟨[(13,.ro 2 (bn [(eN,[])]))],[]⟩ (.bG 252013 (.le (by simp(disch:=first | omega | (simp only[Lx];omega))only[go_sem,simprocAttr];rfl))) rfl ?_
 refine gF hn1 rfl ?_
 rintro h' v ar ⟨rfl,L,hL,hs,hcase⟩
 obtain rfl:L=[(eN,[])]:=List.perm_singleton.1 hL
 have hok:lz [(eN,[])]:=by
  refine⟨fun f hf=>?_,List.pairwise_singleton _ _,fun f hf=>?_⟩
  ·rw[List.mem_singleton]at hf
   subst hf
   decide +kernel
  ·rw[List.mem_singleton]at hf
   subst hf
   exact anI _ _
 rcases hcase with⟨_,n,rfl⟩ | ⟨hno,_⟩
 rotate_left
 ·exact absurd hok hno
 refine⟨rfl,rfl,?_⟩
 have ho1:=tZ [(eN,[])] n hs (by decide) (fun f hf=>by rw[List.mem_singleton]at hf;subst hf;decide) (fun f hf=>by rw[List.mem_singleton]at hf;subst hf;decide)
 rw[FE]at ho1
 refine wW ?_
 refine gG ?_
 refine aC ho1 rfl rfl ?_
 simp(disch:=first | omega | (simp only[Lx];omega))only[go_sem,simprocAttr,k8]
 refine gF hn2 rfl ?_
 rintro h' v ar ⟨rfl,L,hL,hs2,hcase⟩
 obtain rfl:L=[]:=hL.eq_nil
 rcases hcase with⟨_,m,rfl⟩ | ⟨hno,_⟩
 rotate_left
 ·exact absurd abq hno
 refine⟨rfl,rfl,?_⟩
 have ho2:=tZ [] m hs2 (by decide) (fun f hf=>by simp at hf) (fun f hf=>by simp at hf)
 rw[afB]at ho2
 have hg:=ac9 m Eb (by decide) (by decide +kernel)
 refine wW ?_
 refine aC ho2 rfl rfl ?_
 simp(disch:=first | omega | (simp only[Lx];omega))only[go_sem,simprocAttr,k8]
 refine gG ?_
 refine aC hg rfl rfl ?_
 refine wW ?_
 refine gG ?_
 exact hR.wk (h':=[]) (r':=.bool true) (ar':=[]) rfl (.le vV) ⟨rfl,rfl⟩
end Go.Proofs.YtoalcafkffmiiaaGreatDoor.Ls
namespace Go.Proofs.YtoalcafkffmiiaaGreatDoor.Ls
open Eng
set_option maxRecDepth 10000
theorem CK (t:Bs):∀{L:List Fi},ir L→(∀f∈L,Lib.compareBytes t f.1≤0)→L.takeWhile (fun f=>bw t f.1)=L.filter (fun f=>bw t f.1)
 | [],_,_=>rfl
 | x::r,hs,hg=>by
  have hs':=List.pairwise_cons.1 hs
  rw[List.takeWhile_cons]
  by_cases h:bw t x.1=true
  ·rw[if_pos h,List.filter_cons_of_pos (p:=fun f:Fi=>bw t f.1) h,CK t hs'.2 (fun f hf=>hg f (List.mem_cons_of_mem _ hf))]
  ·rw[if_neg h,List.filter_cons_of_neg (p:=fun f:Fi=>bw t f.1) h,eq_comm,List.filter_eq_nil_iff]
   intro y hy hb
   have h1:=hs'.1 y hy
   exact h (vY (hg x (List.mem_cons_self ..)) (by unfold b7 at h1;omega) hb)
theorem CS (t:Bs):∀{L:List Fi},ir L→bS t L=(L.filter (fun f=>bw t f.1)).map (·.1)
 | [],_=>rfl
 | x::r,hs=>by
  have hs':=List.pairwise_cons.1 hs
  by_cases h:Lib.compareBytes x.1 t<0
  ·have ih:=CS t hs'.2
   have hno:¬bw t x.1=true:=fun hb=>by
    have h1:=vZ hb
    have:=gH x.1 t
    omega
   rw[List.filter_cons_of_neg (p:=fun f:Fi=>bw t f.1) hno,←ih]
   unfold bS
   rw[show posF t (x::r)=posF t r+1 by simp only[posF];rw[if_pos h],List.drop_succ_cons]
  ·have hge:∀f∈x::r,Lib.compareBytes t f.1≤0:=fun f hf=>by
    have h0:Lib.compareBytes t x.1≤0:=by have:=gH x.1 t;omega
    rcases List.mem_cons.1 hf with rfl | hf
    ·exact h0
    ·have h1:=hs'.1 f hf
     exact kz _ _ _ h0 (by unfold b7 at h1;omega)
   unfold bS
   rw[show posF t (x::r)=0 by simp only[posF];rw[if_neg h],List.drop_zero,CK t hs hge]
theorem aaN (t:Bs) {l:List Rw} (h:iq (l.map (·.1))):fw t l=(l.map (·.1)).filter (bw t):=by
 unfold fw
 rw[CS t (tB h),List.filter_map,List.filter_map,List.map_map]
 rfl
theorem ZF {ps:List Bs} {x:Bs} (h:x∈cX ps):cH x=true:=by
 obtain⟨p,hp,rfl⟩:=List.mem_map.1 h
 have:=(List.mem_filter.1 hp).2
 unfold jQ at this
 rw[Bool.and_eq_true]at this
 exact this.1
theorem abk {t:Bs} {L:List Fi} {ps:List bx} (h:gz ps) {x:Bs} (hx:x∈gq t L ps):cH x=true:=by
 unfold gq at hx
 rw[aeu,List.mem_append]at hx
 rcases hx with hx | hx
 ·exact ZF ((List.mem_filter.1 hx).1)
 ·unfold cL at hx
  obtain⟨p,hp,hx⟩:=List.mem_flatMap.1 hx
  rw[aaN t (h p hp).2.1]at hx
  obtain⟨r,hr,rfl⟩:=List.mem_map.1 ((List.mem_filter.1 hx).1)
  exact(h p hp).2.2 r hr
section
variable {l:List Bs} (hl:∀x∈l,cH x=true) (hs:iq l)
include hl
include hs
end
end Go.Proofs.YtoalcafkffmiiaaGreatDoor.Ls
