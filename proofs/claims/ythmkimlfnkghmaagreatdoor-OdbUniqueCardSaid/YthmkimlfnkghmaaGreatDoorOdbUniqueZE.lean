/- The proof, part 31 of 32. -/
import Derived.Test.YthmkimlfnkghmaaGreatDoorOdbUniqueZC
import Derived.Test.YthmkimlfnkghmaaGreatDoorOdbUniqueZD
import Derived.Shelf.Strings.Repeat
set_option linter.all false
namespace Go.Proofs.YthmkimlfnkghmaaGreatDoor.Ls
open Eng
set_option maxRecDepth 10000
def inPacks (t:Bs) (ps:List PkT):List Bs:=ps.flatMap fun p=>matchP t p.2.2.1
theorem inPacks_snoc (t:Bs) (ps:List PkT) (p:PkT):inPacks t (ps++[p])=inPacks t ps++matchP t p.2.2.1:=by unfold inPacks;simp
def PksOK (ps:List PkT):Prop:=∀p∈ps,p.2.2.1.length≤1000∧StrictB (p.2.2.1.map (·.1))∧∀r∈p.2.2.1,idB r.1=true
theorem kf_srt {L:List Rw} (h:StrictB (L.map (·.1))):StrictF (kf L):=by
 unfold StrictF kf
 unfold StrictB at h
 rw[List.pairwise_map]at h ⊢
 exact h
theorem match_len (t:Bs) (L:List Rw):(matchP t L).length≤L.length:=by
 have:=under_len t (kf L)
 rwa[kf_len]at this
theorem inPacks_len (t:Bs):∀{ps:List PkT},PksOK ps→(inPacks t ps).length≤1000*ps.length
 | [],_=>by simp[inPacks]
 | p::r,h=>by
  have h1:=inPacks_len t (ps:=r) (fun q hq=>h q (List.mem_cons_of_mem _ hq))
  have h2:=match_len t p.2.2.1
  have h3:=(h p (List.mem_cons_self ..)).1
  unfold inPacks at *
  rw[List.flatMap_cons,List.length_append,List.length_cons]
  omega
theorem pks_take {ps:List PkT} (h:PksOK ps) (k:Nat):PksOK (ps.take k):=fun p hp=>h p (List.mem_of_mem_take hp)
theorem strs_app2 {l m:List Bs}:strsA l++strsA m=strsA (l++m):=by simp[strsA]
theorem strs_suball (l:List Bs):sub3 (strsA l) 0 l.length=strsA l:=by
 unfold sub3
 rw[List.drop_zero,List.take_of_length_le (by rw[strs_len];omega)]
def ownP (t:Bs) (L:List Fi):List Bs:=(listP (underF objB L)).filter (begB t)
def namesP (t:Bs) (L:List Fi) (ps:List PkT):List Bs:=onceL (ownP t L++inPacks t ps)
theorem compact_len (l:List Bs):∀m,(Lib.compactUpTo l.toArray m).length≤m
 | 0=>by simp[Lib.compactUpTo]
 | m+1=>by
  have:=compact_len l m
  rw[Lib.compactUpTo_succ,List.length_append]
  split<;>simp<;>omega
theorem compact_le (l:List Bs):(Lib.compact l).length≤l.length:=by
 have:=compact_len l l.toArray.size
 unfold Lib.compact
 simpa using this
theorem once_len (l:List Bs):(onceL l).length≤l.length:=by
 have h1:=compact_le (sortB l)
 rwa[List.length_mergeSort]at h1
theorem names_len (t:Bs) {L:List Fi} {ps:List PkT} (hl:L.length≤100) (hps:PksOK ps) (hpl:ps.length≤100):(namesP t L ps).length≤1000000:=by
 have h1:=once_len (ownP t L++inPacks t ps)
 have h2:=inPacks_len t hps
 have h3:(ownP t L).length≤L.length:=by
  have a:=List.length_filter_le (begB t) (listP (underF objB L))
  have b:=list_len (underF objB L)
  have c:=under_len objB L
  unfold ownP;omega
 have h4:1000*ps.length≤1000*100:=Nat.mul_le_mul_left _ hpl
 rw[List.length_append]at h1
 unfold namesP
 omega
set_option maxHeartbeats 4000000 in
theorem onames_ok (L:List Fi) (n:Nat) (ps:List PkT) (t:Bs) (hs:Srt L) (hl:L.length≤100) (hc:∀f∈L,f.1.length≤200) (hps:PksOK ps) (hpl:ps.length≤100) (ht:t.length≤1000000) :
    SpecR Tryz.prog 8 [odbA L n ps,.str t] (.ro 1 (strsA (namesP t L ps))):=by
 refine Cod.onames_spec (fun E R hN hR=>?_)
 simp(disch:=first | omega | (simp only[Lx];omega))only[go_sem,simprocAttr]
 refine call_win [] (llist_ok L n hs (by omega) hc) trivial (fun _=>rfl) ?_
 rintro h' v ar ⟨rfl,rfl,rfl⟩
 have hul:=under_len objB L
 have hll:=list_len (underF objB L)
 have hlm:∀x∈listP (underF objB L),x.length=40:=fun x hx=>list_mem hx
 unfold namesP ownP at hR
 generalize listP (underF objB L)=U at *
 simp(disch:=first | omega | (simp only[Lx];omega))only[go_sem,simprocAttr,strs_len,strs_cells,strs_fl]
 refine vcW_loop hN (fun k:Nat=>⟨[(0,odbA L n ps),(1,.str t),(5,.sl 247026 0 ((U.take k).filter (begB t)).length),(14,.ro 1 (strsA U)),(15,.int .i64 U.length),(16,.int .i64 k)],[(247026,.arr 1 (strsA ((U.take k).filter (begB t))))]⟩) (fun k=>k≤U.length) (fun k=>U.length-k) 0
  (.frz 213034 (.nil 5 247026 1 rfl (.le (by simp(disch:=first | omega | (simp only[Lx];omega))only[go_sem,simprocAttr,List.take_zero,strs_nil,List.filter_nil,List.length_nil,strs_suball])))) (Nat.zero_le _) ?_
 rintro k R1 hk hR1
 have hfl:((U.take k).filter (begB t)).length≤k:=by
  have:=List.length_filter_le (begB t) (U.take k)
  rw[List.length_take]at this;omega
 by_cases hlt:k<U.length
 ·have hsn:=take_snoc [] U hlt
  have hm:=hlm _ (getD_mem [] hlt)
  have hb:=shasprefix_ok (U.getD k []) t (by omega) (by omega)
  simp(disch:=first | omega | (simp only[Lx];omega))only[go_sem,simprocAttr,strs_len,nth_strs]
  refine call_ro hb rfl rfl ?_
  cases hbb:begB t (U.getD k [])with
  | false=>
   simp(disch:=first | omega | (simp only[Lx];omega))only[go_sem,simprocAttr]
   exact hR1 (k+1) _ (by omega) (by omega) (.le (by rw[hsn,List.filter_append,List.filter_cons_of_neg (by rw[hbb];simp),List.filter_nil,List.append_nil];simp(disch:=first | omega | (simp only[Lx];omega))only[go_sem,simprocAttr]))
  | true=>
   obtain⟨O,hO⟩:∃O,O=(U.take k).filter (begB t):=⟨_,rfl⟩
   rw[←hO]at hfl
   rw[←hO]
   simp(disch:=first | omega | (simp only[Lx];omega))only[go_sem,simprocAttr,strs_len]
   rw[strs_suball,strs_app]
   refine⟨⟨strs_cells,by omega⟩,hR1 (k+1) _ (by omega) (by omega) (.le (by rw[hsn,List.filter_append,List.filter_cons_of_pos hbb,List.filter_nil,←hO,List.length_append,List.length_singleton];simp(disch:=first | omega | (simp only[Lx];omega))only[go_sem,simprocAttr]))⟩
 ·obtain rfl:k=U.length:=by omega
  rw[List.take_of_length_le (Nat.le_refl _)]at hfl
  rw[List.take_of_length_le (Nat.le_refl _)]
  generalize U.filter (begB t)=O at *
  simp(disch:=first | omega | (simp only[Lx];omega))only[go_sem,simprocAttr,strs_len,packsA_len]
  have htk:∀k,(inPacks t (ps.take k)).length≤1000*ps.length:=fun k=>by
   have h1:=inPacks_len t (pks_take hps k)
   rw[List.length_take]at h1
   have:1000*min k ps.length≤1000*ps.length:=Nat.mul_le_mul_left _ (Nat.min_le_right ..)
   omega
  refine vcW_loop hN (fun k:Nat=>⟨[(1,.str t),(5,.sl 247042 0 (O++inPacks t (ps.take k)).length),(31,.ro 2 (packsA ps)),(32,.int .i64 ps.length),(33,.int .i64 k)],[(247042,.arr 1 (strsA (O++inPacks t (ps.take k))))]⟩) (fun k=>k≤ps.length) (fun k=>ps.length-k) 0
   (.ren 247026 247042 rfl rfl (.le (by simp(disch:=first | omega | (simp only[Lx];omega))only[go_sem,simprocAttr,List.take_zero,inPacks,List.flatMap_nil,List.append_nil]))) (Nat.zero_le _) ?_
  rintro k R2 hk hR2
  have hpk:=htk k
  by_cases hlt:k<ps.length
  ·have hsn:=take_snoc noPk ps hlt
   obtain⟨p,hp⟩:∃p,p=ps.getD k noPk:=⟨_,rfl⟩
   obtain⟨g1,g2,g3⟩:=hps p (by rw[hp];exact getD_mem noPk hlt)
   have hml:=match_len t p.2.2.1
   have hx:=xmatch_ok p.2.1 p.2.2 t (kf_srt g2).srt (by omega) (by omega) (fun r hr=>by have:=(id_all (g3 r hr)).1;omega)
   have hin:=inPacks_snoc t (ps.take k) p
   rw[←hp]at hsn
   rw[←hsn]at hin
   obtain⟨Q,hQ⟩:∃Q,Q=O++inPacks t (ps.take k):=⟨_,rfl⟩
   have hQl:Q.length=O.length+(inPacks t (ps.take k)).length:=by rw[hQ,List.length_append]
   rw[←hQ]
   simp(disch:=first | omega | (simp only[Lx];omega))only[go_sem,simprocAttr,packsA_len,nth_packs,←hp]
   refine call_ro hx rfl rfl ?_
   have hnx:inPacks t (ps.take (k+1))=inPacks t (ps.take k)++matchP t p.2.2.1:=hin
   obtain⟨M,hM⟩:∃M,M=matchP t p.2.2.1:=⟨_,rfl⟩
   rw[←hM]at hnx hml
   rw[←hM]
   simp(disch:=first | omega | (simp only[Lx];omega))only[go_sem,simprocAttr,strs_len]
   rw[strs_suball,strs_app2]
   refine⟨⟨strs_cells,strs_cells,by omega⟩,hR2 (k+1) _ (by omega) (by omega) (.le (by rw[hnx,←List.append_assoc,←hQ,List.length_append];simp(disch:=first | omega | (simp only[Lx];omega))only[go_sem,simprocAttr]))⟩
  ·obtain rfl:k=ps.length:=by omega
   rw[List.take_of_length_le (Nat.le_refl _)]at hpk
   rw[List.take_of_length_le (Nat.le_refl _)]
   obtain⟨Z,hZ⟩:∃Z,Z=O++inPacks t ps:=⟨_,rfl⟩
   have hZl:Z.length=O.length+(inPacks t ps).length:=by rw[hZ,List.length_append]
   have hZb:Z.length≤1000000:=by
    have:1000*ps.length≤1000*100:=Nat.mul_le_mul_left _ hpl
    omega
   rw[←hZ]at hR
   rw[←hZ]
   simp(disch:=first | omega | (simp only[Lx];omega))only[go_sem,simprocAttr,packsA_len]
   refine call_all (n:=1) [5] (by simp(disch:=first | omega | (simp only[Lx];omega))only[go_sem,simprocAttr]) (by simp(disch:=first | omega | (simp only[Lx];omega))only[go_sem,simprocAttr]) rfl (slsort_ok 247042 Z hZb) ?_
   rintro h' v ar ⟨rfl,rfl,rfl⟩
   have hsl:(sortL Z).length=Z.length:=List.length_mergeSort _
   have hcl:=compact_le (sortL Z)
   have hco:=slcompact_ok 247042 (sortL Z) (by omega) hcl
   rw[hsl]at hco hcl
   simp(disch:=first | omega | (simp only[Lx];omega))only[go_sem,simprocAttr]
   refine call_all (n:=1) [5] (by simp(disch:=first | omega | (simp only[Lx];omega))only[go_sem,simprocAttr]) (by simp(disch:=first | omega | (simp only[Lx];omega))only[go_sem,simprocAttr]) rfl hco ?_
   rintro h' v ar ⟨rfl,rfl,rfl⟩
   have hsub:sub3 (strsA (padL (sortL Z))) 0 (Lib.compact (sortL Z)).length=strsA (onceL Z):=by
    unfold sub3 padL strsA
    rw[List.drop_zero,List.map_append,List.take_left' (List.length_map ..)];rfl
   have hpl2:(padL (sortL Z)).length=Z.length:=by unfold padL;rw[List.length_append,List.length_replicate];omega
   simp(disch:=first | omega | (simp only[Lx];omega))only[go_sem,simprocAttr]
   exact hR.wk (h':=[]) (r':=.ro 1 (strsA (onceL Z))) (ar':=[.undef,.undef]) rfl (.frz 247042 (.le (by simp(disch:=first | omega | (simp only[Lx];omega))only[go_sem,simprocAttr,strs_len,strs_cells,hsub,hpl2]))) ⟨rfl,rfl⟩
end Go.Proofs.YthmkimlfnkghmaaGreatDoor.Ls
namespace Go.Proofs.YthmkimlfnkghmaaGreatDoor.Ls
open Eng
set_option maxRecDepth 10000
theorem lessO_cb:∀a b:Bs,Op.bytesLess a b=decide (Lib.compareBytes a b = -1)
 | [],[]=>rfl
 | [],_::_=>rfl
 | _::_,[]=>rfl
 | x::r,y::t=>by
  have ih:=lessO_cb r t
  rw[Op.bytesLess,Lib.compareBytes,ih]
  by_cases h1:x<y
  ·simp[h1]
  ·by_cases h2:y<x
   ·have:¬x=y:=fun e=>by subst e;exact h1 h2
    simp[h1,h2,this]
   ·have:x=y:=by
     simp only[UInt8.lt_iff_toNat_lt]at h1 h2
     exact UInt8.toNat.inj (by omega)
    simp[this]
theorem rows_get {s:Bs} {n:Nat}:∀{k:Nat} {l:List Rw},rowsP s n k=.ok l→∀j,j<k→rowP s n j=.ok (l.getD j noR)
 | 0,l,_,j,hj=>by omega
 | k+1,l,h,j,hj=>by
  unfold rowsP at h
  cases h1:rowsP s n k with
  | error e=>rw[h1]at h;cases h
  | ok l'=>
   have hl:=rows_len h1
   rw[h1]at h
   cases h2:rowP s n k with
   | error e=>rw[h2]at h;cases h
   | ok r=>
    rw[h2]at h
    cases h
    rcases Nat.lt_succ_iff_lt_or_eq.1 hj with hjk | rfl
    ·rw[rows_get h1 j hjk,List.getD_eq_getElem?_getD,List.getD_eq_getElem?_getD,List.getElem?_append_left (by omega)]
    ·rw[h2,List.getD_eq_getElem?_getD,List.getElem?_append_right (by omega),hl,Nat.sub_self];rfl
theorem row_ok {s:Bs} {n j:Nat} {r:Rw} (h:rowP s n j=.ok r):¬badR s j∧r.1=Sh.hexOf (rawB s j)∧r.2.1≤1099511627776:=by
 unfold rowP at h
 split at h
 ·cases h
 ·rename_i hb
  split at h
  ·cases h
  ·split at h
   ·cases h
   ·cases h
    exact⟨hb,rfl,by simp only;omega⟩
theorem pair_adj:∀{l:List Bs},(∀i,i+1<l.length→Lib.compareBytes (l.getD i []) (l.getD (i+1) [])<0)→StrictB l
 | [],_=>.nil
 | [x],_=>List.pairwise_singleton _ _
 | x::y::r,h=>by
  have ih:=pair_adj (l:=y::r) (fun i hi=>by simpa using h (i+1) (by simpa using hi))
  have h0:Lib.compareBytes x y<0:=by simpa using h 0 (by simp)
  refine List.pairwise_cons.2 ⟨fun z hz=>?_,ih⟩
  rcases List.mem_cons.1 hz with rfl | hz
  ·exact h0
  ·have:=(List.pairwise_cons.1 ih).1 z hz
   exact cb_lt' h0 (by omega)
theorem map_getD (l:List Rw) (i:Nat):(l.map (·.1)).getD i []=(l.getD i noR).1:=by
 rw[List.getD_eq_getElem?_getD,List.getD_eq_getElem?_getD,List.getElem?_map]
 cases l[i]?<;>rfl
theorem parse_ok {s:Bs} {x:List Rw×Bs} (h:parseP s=.ok x):x.1.length≤1000∧StrictB (x.1.map (·.1))∧∀r∈x.1,idB r.1=true:=by
 unfold parseP at h
 simp only at h
 split at h
 ·cases h
 rename_i h0
 split at h
 ·cases h
 split at h
 ·cases h
 split at h
 ·cases h
 rename_i hn
 split at h
 ·cases h
 rename_i hlen
 split at h
 ·cases h
 split at h
 ·cases h
 rename_i l hl
 split at h
 ·cases h
 cases h
 have hll:=rows_len hl
 have hraw:∀j,j<fanN s 256→(rawB s j).length=20:=fun j hj=>cut_len (by omega)
 refine⟨by simp only;omega,pair_adj (fun i hi=>?_),fun r hr=>?_⟩
 ·simp only[List.length_map]at hi
  rw[map_getD,map_getD]
  obtain⟨_,e1,_⟩:=row_ok (rows_get hl i (by omega))
  obtain⟨b2,e2,_⟩:=row_ok (rows_get hl (i+1) (by omega))
  rw[e1,e2]
  have h1:Op.bytesLess (rawB s i) (rawB s (i+1))=true:=by
   have:cutB s (1012+20*(i+1)) 20=rawB s i:=by unfold rawB;rw[show 1012+20*(i+1)=1032+20*i by omega]
   cases hb:Op.bytesLess (rawB s i) (rawB s (i+1))with
   | true=>rfl
   | false=>exact absurd (.inl ⟨by omega,by rw[this];exact hb⟩) b2
  rw[lessO_cb,decide_eq_true_eq]at h1
  exact hex_cb _ _ (by omega) (by rw[hraw i (by omega),hraw (i+1) (by omega)])
 ·obtain⟨j,hj,rfl⟩:=List.mem_iff_getElem.1 hr
  obtain⟨_,e1,_⟩:=row_ok (rows_get hl j (by simp only at hj;omega))
  simp only at hj e1
  rw[List.getD_eq_getElem?_getD,List.getElem?_eq_getElem hj]at e1
  simp only[Option.getD_some]at e1
  rw[e1]
  exact hex_id (hraw j (by omega))
theorem packs_ok {L:List Fi} {U:List Bs}:∀{k:Nat} {ps:List PkT},packsP L U k=.ok ps→PksOK ps
 | 0,ps,h=>by
  unfold packsP at h
  cases h
  intro p hp;simp at hp
 | k+1,ps,h=>by
  unfold packsP at h
  cases h1:packsP L U k with
  | error e=>rw[h1]at h;cases h
  | ok l'=>
   have ih:=packs_ok h1
   rw[h1]at h
   cases h2:stepP L (U.getD k [])with
   | error e=>rw[h2]at h;cases h
   | ok r=>
    rw[h2]at h
    cases r with
    | none=>cases h;exact ih
    | some r=>
     cases h
     intro p hp
     rcases List.mem_append.1 hp with hp | hp
     ·exact ih p hp
     ·rw[List.mem_singleton]at hp
      subst hp
      unfold stepP at h2
      split at h2
      ·cases h2
      ·split at h2
       ·cases h2
       ·rename_i x hx
        split at h2
        ·cases h2
        ·split at h2
         ·cases h2
         ·split at h2
          ·cases h2
          ·split at h2
           ·cases h2
           ·cases h2
            exact parse_ok hx
theorem odb_ok {L:List Fi} {ps:List PkT} (h:odbP L=.ok ps):PksOK ps∧ps.length≤L.length:=by
 have h1:=packs_len h
 have h2:=under_len packB L
 exact⟨packs_ok h,by omega⟩
theorem odb_ne {L:List Fi} {e:Int} (h:odbP L=.error e):e≠0:=by
 unfold odbP at h
 generalize (underF packB L).length=k at h
 induction k with
 | zero=>unfold packsP at h;cases h
 | succ k ih=>
  unfold packsP at h
  cases h1:packsP L (underF packB L) k with
  | error e'=>
   rw[h1]at h
   cases h
   exact ih h1
  | ok l'=>
   rw[h1]at h
   cases h2:stepP L ((underF packB L).getD k [])with
   | ok r=>
    rw[h2]at h
    cases r<;>cases h
   | error e'=>
    rw[h2]at h
    cases h
    unfold stepP at h2
    split at h2
    ·cases h2
    ·split at h2
     ·rename_i hx
      cases h2
      exact parse_ne hx
     ·split at h2
      ·cases h2;decide
      ·split at h2
       ·rename_i hc
        cases h2;exact hc
       ·split at h2
        ·cases h2;decide
        ·split at h2
         ·cases h2;decide
         ·cases h2
end Go.Proofs.YthmkimlfnkghmaaGreatDoor.Ls
namespace Go.Proofs.YthmkimlfnkghmaaGreatDoor.Ls
open Eng
set_option maxRecDepth 10000
theorem rep_one (c:UInt8):∀n,Lib.repeatL [c] n=List.replicate n c
 | 0=>rfl
 | n+1=>by
  rw[Lib.repeatL,rep_one c n,List.replicate_succ];rfl
theorem repeat_ok (n:Nat) (hn:n≤1000):SpecR Tryz.prog 31 [.str [48],.int .i64 n] (.str (List.replicate n 48)):=by
 rw[←rep_one]
 exact spec_below rfl rfl (fun w=>Tryz.strings_Repeat ⟨#[48]⟩ n w (by omega) (by show 1*n≤_;omega))
def resP (t:Bs) (l:List Bs):Bs×Int:=
 if t.length<4∨idB (t++List.replicate (40-t.length) 48)=false then([],4)
 else match l with
  | []=>([],7)
  | [x]=>(x,0)
  | _=>([],8)
theorem oresolve_ok (L:List Fi) (n:Nat) (ps:List PkT) (t:Bs) (hs:Srt L) (hl:L.length≤100) (hc:∀f∈L,f.1.length≤200) (hps:PksOK ps) (hpl:ps.length≤100) (ht:t.length≤1000) :
    SpecR Tryz.prog 9 [odbA L n ps,.str t] (.tup [.str (resP t (namesP t L ps)).1,.int .i64 (resP t (namesP t L ps)).2]):=by
 refine Cod.oresolve_spec (fun E R hN hR=>?_)
 have hrp:=repeat_ok (40-t.length) (by omega)
 have hns:=onames_ok L n ps t hs hl hc hps hpl (by omega)
 have hmx:max ((40:Int)-(t.length:Int)) 0=((40-t.length:Nat):Int):=by omega
 have hw:=sid_ok (t++List.replicate (40-t.length) 48) (by rw[List.length_append,List.length_replicate];omega)
 have fin:∀{h ar},ar=[AV.undef,AV.undef]→∀(x:Bs) (e:Int),resP t (namesP t L ps)=(x,e)→R h (.tup [.str x,.int .i64 e]) ar:=fun ha x e he=>by subst ha;exact hR.ro ⟨rfl,by rw[he]⟩
 have hnl:=names_len t hl hps hpl
 generalize namesP t L ps=l at *
 simp(disch:=first | omega | (simp only[Lx];omega))only[go_sem,simprocAttr,hmx]
 refine call_ro hrp rfl rfl ?_
 obtain⟨w,hw0⟩:∃w,w=t++List.replicate (40-t.length) 48:=⟨_,rfl⟩
 unfold resP at fin
 rw[←hw0]at hw fin
 by_cases h4:t.length<4
 ·simp(disch:=first | omega | (simp only[Lx];omega))only[go_sem,simprocAttr,h4,←hw0]
  (repeat(first | refine gskip_of ?_ | refine gcskip_of ?_ | refine gopen_of ?_)<;>simp(disch:=first | omega | (simp only[Lx];omega))only[go_sem,simprocAttr,h4,←hw0])
  exact fin rfl [] 4 (by rw[if_pos (.inl h4)])
 ·simp(disch:=first | omega | (simp only[Lx];omega))only[go_sem,simprocAttr,h4,←hw0]
  (repeat(first | refine gskip_of ?_ | refine gcskip_of ?_ | refine gopen_of ?_)<;>simp(disch:=first | omega | (simp only[Lx];omega))only[go_sem,simprocAttr,h4,←hw0])
  refine gcyes_of (callT_ro (by simp(disch:=first | omega | (simp only[Lx];omega))only[go_sem,simprocAttr]) hw (by simp(disch:=first | omega | (simp only[Lx];omega))only[go_sem,simprocAttr]) rfl rfl ?_)
  cases hid:idB w with
  | false=>
   simp(disch:=first | omega | (simp only[Lx];omega))only[go_sem,simprocAttr]
   (repeat(first | refine gskip_of ?_ | refine gcskip_of ?_ | refine gopen_of ?_)<;>simp(disch:=first | omega | (simp only[Lx];omega))only[go_sem,simprocAttr])
   exact fin rfl [] 4 (by rw[if_pos (.inr hid)])
  | true=>
   rw[if_neg (by rw[hid];simp;omega)]at fin
   simp(disch:=first | omega | (simp only[Lx];omega))only[go_sem,simprocAttr]
   (repeat(first | refine gskip_of ?_ | refine gcskip_of ?_ | refine gopen_of ?_)<;>simp(disch:=first | omega | (simp only[Lx];omega))only[go_sem,simprocAttr])
   refine call_ro hns rfl rfl ?_
   rcases l with _ | ⟨x,_ | ⟨y,r⟩⟩
   ·simp(disch:=first | omega | (simp only[Lx];omega))only[go_sem,simprocAttr,strs_len,List.length_nil]
    exact fin rfl [] 7 rfl
   ·have h0:nth (strsA [x]) 0=.str x:=rfl
    simp(disch:=first | omega | (simp only[Lx];omega))only[go_sem,simprocAttr,strs_len,List.length_cons,List.length_nil,h0]
    exact fin rfl x 0 rfl
   ·have e1:¬(((x::y::r).length:Nat):Int)=0:=by simp;omega
    have e2:¬(((x::y::r).length:Nat):Int)=1:=by simp;omega
    have e3:(x::y::r).length≤9223372036854775807:=by omega
    have hz:=strs_len (x::y::r)
    simp(disch:=first | omega | (simp only[Lx];omega))only[go_sem,simprocAttr,hz,e1,e2]
    exact fin rfl [] 8 rfl
end Go.Proofs.YthmkimlfnkghmaaGreatDoor.Ls
namespace Go.Proofs.YthmkimlfnkghmaaGreatDoor.Ls
open Eng
set_option maxRecDepth 10000
theorem fewO_ok (t:Bs) (n:Nat) (ht:t.length≤30000000000000000000) (hn:n≤100000):SpecR Tryz.prog 16 [.str t,.int .i64 n] (.str (t.take n)):=by
 refine Cod.few_spec (fun E R hN hR=>?_)
 by_cases h:n<t.length
 ·have hi:(n:Int)<(t.length:Int):=by omega
  simp(disch:=first | omega | (simp only[Lx];omega))only[go_sem,simprocAttr,hi]
  exact hR.ro ⟨rfl,rfl⟩
 ·rw[List.take_of_length_le (by omega)]at hR
  have hi:¬(n:Int)<(t.length:Int):=by omega
  simp(disch:=first | omega | (simp only[Lx];omega))only[go_sem,simprocAttr,hi]
  exact hR.ro ⟨rfl,rfl⟩
theorem few7O_ok (fs:List Fi) (n:Nat) (hl:fs.length*32≤140737488355328) (hn:n≤1000):Eng.Spec Tryz.prog 15 [] [.ro 2 (filesA fs),.int .i64 n] (fun h r ar=>h=[(216012,.arr 2 (filesA (fs.take n)))]∧r=.sl 216012 0 (fs.take n).length∧ar=[.undef,.undef]):=by
 refine Cod.few7_spec (fun E R hN hR=>?_)
 by_cases h:n<fs.length
 ·have hi:(n:Int)<(fs.length:Int):=by omega
  have htl:(fs.take n).length=n:=by rw[List.length_take];omega
  rw[htl]at hR
  simp(disch:=first | omega | (simp only[Lx];omega))only[go_sem,simprocAttr,filesA_len,hi,filesA_sub,htl]
  exact⟨⟨filesA_cells,by omega⟩,hR.wk (h':=[(216012,.arr 2 (filesA (fs.take n)))]) (r':=.sl 216012 0 n) (ar':=[.undef,.undef]) rfl (.le (by simp(disch:=first | omega | (simp only[Lx];omega))only[go_sem,simprocAttr])) ⟨rfl,rfl,rfl⟩⟩
 ·have hi:¬(n:Int)<(fs.length:Int):=by omega
  rw[List.take_of_length_le (by omega)]at hR
  simp(disch:=first | omega | (simp only[Lx];omega))only[go_sem,simprocAttr,filesA_len,hi]
  exact⟨⟨filesA_cells,by omega⟩,hR.wk (h':=[(216012,.arr 2 (filesA fs))]) (r':=.sl 216012 0 fs.length) (ar':=[.undef,.undef]) rfl (.le (by simp(disch:=first | omega | (simp only[Lx];omega))only[go_sem,simprocAttr])) ⟨rfl,rfl,rfl⟩⟩
theorem filesO_set {A D:List Fi} {g x:Fi}:(filesA (A++g::D)).set A.length (.agg [.str x.1,.str x.2])=filesA (A++[x]++D):=by
 unfold filesA
 rw[List.map_append,List.set_append_right _ _ (by rw[List.length_map];exact Nat.le_refl _),List.length_map,Nat.sub_self]
 simp[fileA]
def cut3F (f:Fi):Fi:=(f.1,f.2.take 3000)
def short3F (fs:List Fi) (n:Nat):List Fi:=(fs.take n).map cut3F
theorem short13_ok (fs:List Fi) (n:Nat) (hl:fs.length*32≤140737488355328) (hn:n≤1000) (hd:∀f∈fs,f.2.length≤140737488351232):Eng.Spec Tryz.prog 5 [] [.ro 2 (filesA fs),.int .i64 n] (fun h r ar=>h=[(216012,.arr 2 (filesA (short3F fs n)))]∧r=.sl 216012 0 (short3F fs n).length∧ar=[.undef,.undef]):=by
 refine Cod.short13_spec (fun E R hN hR=>?_)
 simp(disch:=first | omega | (simp only[Lx];omega))only[go_sem,simprocAttr]
 refine call_win [] (few7O_ok fs n hl hn) trivial (fun _=>rfl) ?_
 rintro h' v ar ⟨rfl,rfl,rfl⟩
 unfold short3F at hR
 have hdg:∀f∈fs.take n,f.2.length≤140737488351232:=fun f hf=>hd f (List.mem_of_mem_take hf)
 have hgl:(fs.take n).length≤1000:=by rw[List.length_take];omega
 obtain⟨G,hG⟩:∃G,G=fs.take n:=⟨_,rfl⟩
 rw[←hG]at hR hdg hgl
 simp(disch:=first | omega | (simp only[Lx];omega))only[go_sem,simprocAttr,filesA_cells,filesA_len,filesA_fl,←hG]
 refine vcW_loop hN (fun k:Nat=>⟨[(5,.sl 216012 0 G.length),(11,.int .i64 G.length),(12,.int .i64 k)],[(216012,.arr 2 (filesA ((G.take k).map cut3F++G.drop k)))]⟩) (fun k=>k≤G.length) (fun k=>G.length-k) 0 (.le (by simp(disch:=first | omega | (simp only[Lx];omega))only[go_sem,simprocAttr,List.take_zero,List.drop_zero,List.map_nil,List.nil_append])) (Nat.zero_le _) ?_
 rintro k R1 hk hR1
 by_cases hlt:k<G.length
 ·have hL:((G.take k).map cut3F++G.drop k).length=G.length:=by rw[List.length_append,List.length_map,List.length_take,List.length_drop];omega
  have hg:((G.take k).map cut3F++G.drop k).getD k noF=G.getD k noF:=by
   rw[List.getD_eq_getElem?_getD,List.getElem?_append_right (by rw[List.length_map,List.length_take];omega),List.length_map,List.length_take,Nat.min_eq_left hk,Nat.sub_self,List.getElem?_drop,Nat.add_zero,←List.getD_eq_getElem?_getD]
  have hm:=hdg _ (getD_mem noF hlt)
  have hf:=fewO_ok (G.getD k noF).2 3000 (by omega) (by decide)
  rw[show((3000:Nat):Int)=3000 from rfl]at hf
  simp(disch:=first | omega | (simp only[Lx];omega))only[go_sem,simprocAttr,filesA_len,hL,nth_files,hg]
  refine call_ro hf rfl rfl ?_
  simp(disch:=first | omega | (simp only[Lx];omega))only[go_sem,simprocAttr,filesA_len,hL,nth_files,hg]
  have hdr:G.drop k=G.getD k noF::G.drop (k+1):=by
   rw[List.getD_eq_getElem?_getD,List.getElem?_eq_getElem hlt];exact List.drop_eq_getElem_cons hlt
  have hal:((G.take k).map cut3F).length=k:=by rw[List.length_map,List.length_take];omega
  have hst:(filesA ((G.take k).map cut3F++G.drop k)).set k (.agg [.str (G.getD k noF).1,.str ((G.getD k noF).2.take 3000)])=filesA ((G.take k).map cut3F++[cut3F (G.getD k noF)]++G.drop (k+1)):=by
   have h:=filesO_set (A:=(G.take k).map cut3F) (D:=G.drop (k+1)) (g:=G.getD k noF) (x:=cut3F (G.getD k noF))
   rw[hal,←hdr]at h
   exact h
  refine hR1 (k+1) _ (by omega) (by omega) (.le ?_)
  rw[hst,take_snoc noF G hlt,List.map_append]
  simp(disch:=first | omega | (simp only[Lx];omega))only[go_sem,simprocAttr,List.map_cons,List.map_nil]
 ·obtain rfl:k=G.length:=by omega
  rw[List.length_map]at hR
  simp(disch:=first | omega | (simp only[Lx];omega))only[go_sem,simprocAttr,filesA_len,List.append_nil]
  exact hR.wk (h':=[(216012,.arr 2 (filesA (G.map cut3F)))]) (r':=.sl 216012 0 G.length) (ar':=[.undef,.undef]) rfl (.le (by simp(disch:=first | omega | (simp only[Lx];omega))only[go_sem,simprocAttr])) ⟨rfl,rfl,rfl⟩
theorem short3_len (fs:List Fi) (n:Nat):(short3F fs n).length≤n:=by unfold short3F;rw[List.length_map,List.length_take];omega
theorem short3_mem {fs:List Fi} {n:Nat} {f:Fi} (h:f∈short3F fs n):f.2.length≤3000∧∃g∈fs,f.1=g.1:=by
 obtain⟨g,hg,rfl⟩:=List.mem_map.1 h
 refine⟨?_,g,List.mem_of_mem_take hg,rfl⟩
 unfold cut3F
 rw[List.length_take];omega
theorem filesO_all (L:List Fi):sub3 (filesA L) 0 L.length=filesA L:=by
 unfold sub3
 rw[List.drop_zero,List.take_of_length_le (by rw[filesA_len];omega)]
def FsO (fs:List Fi):Prop:=fs.length*32≤140737488351232∧∀f∈fs,f.1.length≤140737488351232∧f.2.length≤140737488351232
theorem newO_nil:NewOK []:=⟨fun f h=>(by simp at h),.nil,fun f h=>(by simp at h)⟩
theorem lreadO_nil (n:Nat) (id:Bs) (hi:id.length≤1000) (hid:idB id=true):SpecR Tryz.prog 39 [snapA [] n,.str id] (.tup [.agg [.int .i64 0,.str []],.int .i64 7]):=by
 refine Cod.lread_spec (fun E R hN hR=>?_)
 have hpa:=lpath_ok id (by omega)
 rw[if_pos hid]at hpa
 have hg:SpecR Tryz.prog 20 [snapA [] n,.str (pathP id)] (.tup [.str [],.int .i64 7]):=snget_ok [] n (pathP id) .nil (by simp)
 simp(disch:=first | omega | (simp only[Lx];omega))only[go_sem,simprocAttr]
 refine call_ro hpa rfl rfl ?_
 simp(disch:=first | omega | (simp only[Lx];omega))only[go_sem,simprocAttr]
 refine call_ro hg rfl rfl ?_
 simp(disch:=first | omega | (simp only[Lx];omega))only[go_sem,simprocAttr]
 exact hR.ro ⟨rfl,rfl⟩
theorem ogetO_nil (n:Nat) (id:Bs) (hi:id.length≤1000) (hid:idB id=true):SpecR Tryz.prog 17 [odbA [] n [],.str id] (.tup [.agg [.int .i64 0,.str []],.int .i64 7]):=by
 refine Cod.oget_spec (fun E R hN hR=>?_)
 have hr:=lreadO_nil n id hi hid
 simp(disch:=first | omega | (simp only[Lx];omega))only[go_sem,simprocAttr]
 refine call_ro hr rfl rfl ?_
 simp(disch:=first | omega | (simp only[Lx];omega))only[go_sem,simprocAttr,packsA_len,List.length_nil]
 refine vcW_loop hN (fun _:Unit=>⟨[(1,.str id),(4,.vptr 249004 0),(28,.ro 2 (packsA [])),(29,.int .i64 0),(30,.int .i64 0)],[(249004,.var [.int .i64 0,.str []])]⟩) (fun _=>True) (fun _=>0) () (.le (by simp(disch:=first | omega | (simp only[Lx];omega))only[go_sem,simprocAttr])) trivial ?_
 rintro _ R1 _ hR1
 simp(disch:=first | omega | (simp only[Lx];omega))only[go_sem,simprocAttr]
 exact hR.wk (h':=[]) (r':=.tup [.agg [.int .i64 0,.str []],.int .i64 7]) (ar':=[.undef,.undef]) rfl (.le (by simp(disch:=first | omega | (simp only[Lx];omega))only[go_sem,simprocAttr])) ⟨rfl,rfl⟩
def aidxB:Bs:=[111,98,106,101,99,116,115,47,112,97,99,107,47,112,97,99,107,45,101,54,57,100,101,50,57,98,98,50,100,49,100,54,52,51,52,98,56,98,50,57,97,101,55,55,53,97,100,56,99,50,101,52,56,99,53,51,57,49,46,105,100,120]
def aidB:Bs:=[101,54,57,100,101,50,57,98,98,50,100,49,100,54,52,51,52,98,56,98,50,57,97,101,55,55,53,97,100,56,99,50,101,52,56,99,53,51,57,49]
theorem awake_open:odbP [(aidxB,[])]=.error 6:=by
 have hu:underF packB [(aidxB,[])]=[aidxB]:=by decide +kernel
 have hp:parseP []=.error 6:=by unfold parseP;rw[if_pos (by decide)]
 have hs:stepP [(aidxB,[])] aidxB=.error 6:=by
  unfold stepP
  rw[if_neg (by decide +kernel),show((getF aidxB [(aidxB,[])]).getD [])=[]by decide +kernel,hp]
 unfold odbP
 rw[hu]
 show packsP [(aidxB,[])] [aidxB] 1=_
 unfold packsP
 rw[show packsP [(aidxB,[])] [aidxB] 0=.ok []from rfl]
 simp only[List.getD_cons_zero,hs]
theorem open_nil:odbP []=.ok []:=by
 unfold odbP
 show packsP [] [] 0=_
 rfl
theorem awake13_ok:SpecR Tryz.prog 6 [] (.bool true):=by
 refine Cod.awake13_spec (fun E R hN hR=>?_)
 have hn1:=snew_ok [(aidxB,[])] (by decide) (fun f hf=>by rw[List.mem_singleton]at hf;subst hf;decide) (fun f hf=>by rw[List.mem_singleton]at hf;subst hf;decide)
 have hn2:Eng.Spec Tryz.prog 4 [] [.nilsl] (newP []):=spec_args (.cons (.one (.nil 2)) .nil) (snew_ok [] (by decide) (fun f hf=>by simp at hf) (fun f hf=>by simp at hf))
 simp(disch:=first | omega | (simp only[Lx];omega))only[go_sem,simprocAttr]
 refine call_wk ⟨[(13,.ro 2 (filesA [(aidxB,[])]))],[]⟩ (.frz 252013 (.le (by simp(disch:=first | omega | (simp only[Lx];omega))only[go_sem,simprocAttr];rfl))) rfl ?_
 refine call_ro' hn1 rfl ?_
 rintro h' v ar ⟨rfl,L,hL,hs,hcase⟩
 obtain rfl:L=[(aidxB,[])]:=List.perm_singleton.1 hL
 have hok:NewOK [(aidxB,[])]:=by
  refine⟨fun f hf=>?_,List.pairwise_singleton _ _,fun f hf=>?_⟩
  ·rw[List.mem_singleton]at hf
   subst hf
   decide +kernel
  ·rw[List.mem_singleton]at hf
   subst hf
   exact under_one _ _
 rcases hcase with⟨_,n,rfl⟩ | ⟨hno,_⟩
 rotate_left
 ·exact absurd hok hno
 refine⟨rfl,rfl,?_⟩
 have ho1:=oopen_ok [(aidxB,[])] n hs (by decide) (fun f hf=>by rw[List.mem_singleton]at hf;subst hf;decide) (fun f hf=>by rw[List.mem_singleton]at hf;subst hf;decide)
 rw[awake_open]at ho1
 simp(disch:=first | omega | (simp only[Lx];omega))only[go_sem,simprocAttr]
 (repeat(first | refine gskip_of ?_ | refine gcskip_of ?_ | refine gopen_of ?_)<;>simp(disch:=first | omega | (simp only[Lx];omega))only[go_sem,simprocAttr])
 refine call_ro ho1 rfl rfl ?_
 simp(disch:=first | omega | (simp only[Lx];omega))only[go_sem,simprocAttr,odpA]
 refine call_ro' hn2 rfl ?_
 rintro h' v ar ⟨rfl,L,hL,hs2,hcase⟩
 obtain rfl:L=[]:=hL.eq_nil
 rcases hcase with⟨_,m,rfl⟩ | ⟨hno,_⟩
 rotate_left
 ·exact absurd newO_nil hno
 refine⟨rfl,rfl,?_⟩
 have ho2:=oopen_ok [] m hs2 (by decide) (fun f hf=>by simp at hf) (fun f hf=>by simp at hf)
 rw[open_nil]at ho2
 have hg:=ogetO_nil m aidB (by decide) (by decide +kernel)
 simp(disch:=first | omega | (simp only[Lx];omega))only[go_sem,simprocAttr]
 refine call_ro ho2 rfl rfl ?_
 simp(disch:=first | omega | (simp only[Lx];omega))only[go_sem,simprocAttr,odpA]
 (repeat(first | refine gskip_of ?_ | refine gcskip_of ?_ | refine gopen_of ?_)<;>simp(disch:=first | omega | (simp only[Lx];omega))only[go_sem,simprocAttr])
 refine call_ro hg rfl rfl ?_
 simp(disch:=first | omega | (simp only[Lx];omega))only[go_sem,simprocAttr]
 (repeat(first | refine gskip_of ?_ | refine gcskip_of ?_ | refine gopen_of ?_)<;>simp(disch:=first | omega | (simp only[Lx];omega))only[go_sem,simprocAttr])
 exact hR.wk (h':=[]) (r':=.bool true) (ar':=[]) rfl (.le (by simp(disch:=first | omega | (simp only[Lx];omega))only[go_sem,simprocAttr])) ⟨rfl,rfl⟩
end Go.Proofs.YthmkimlfnkghmaaGreatDoor.Ls
namespace Go.Proofs.YthmkimlfnkghmaaGreatDoor.Ls
open Eng
set_option maxRecDepth 10000
theorem twO_filter (t:Bs):∀{L:List Fi},StrictF L→(∀f∈L,Lib.compareBytes t f.1≤0)→L.takeWhile (fun f=>begB t f.1)=L.filter (fun f=>begB t f.1)
 | [],_,_=>rfl
 | x::r,hs,hg=>by
  have hs':=List.pairwise_cons.1 hs
  rw[List.takeWhile_cons]
  by_cases h:begB t x.1=true
  ·rw[if_pos h,List.filter_cons_of_pos (p:=fun f:Fi=>begB t f.1) h,twO_filter t hs'.2 (fun f hf=>hg f (List.mem_cons_of_mem _ hf))]
  ·rw[if_neg h,List.filter_cons_of_neg (p:=fun f:Fi=>begB t f.1) h,eq_comm,List.filter_eq_nil_iff]
   intro y hy hb
   have h1:=hs'.1 y hy
   exact h (beg_between (hg x (List.mem_cons_self ..)) (by unfold fcmp at h1;omega) hb)
theorem underO_filter (t:Bs):∀{L:List Fi},StrictF L→underF t L=(L.filter (fun f=>begB t f.1)).map (·.1)
 | [],_=>rfl
 | x::r,hs=>by
  have hs':=List.pairwise_cons.1 hs
  by_cases h:Lib.compareBytes x.1 t<0
  ·have ih:=underO_filter t hs'.2
   have hno:¬begB t x.1=true:=fun hb=>by
    have h1:=beg_ge hb
    have:=cb_anti x.1 t
    omega
   rw[List.filter_cons_of_neg (p:=fun f:Fi=>begB t f.1) hno,←ih]
   unfold underF
   rw[show posF t (x::r)=posF t r+1 by simp only[posF];rw[if_pos h],List.drop_succ_cons]
  ·have hge:∀f∈x::r,Lib.compareBytes t f.1≤0:=fun f hf=>by
    have h0:Lib.compareBytes t x.1≤0:=by have:=cb_anti x.1 t;omega
    rcases List.mem_cons.1 hf with rfl | hf
    ·exact h0
    ·have h1:=hs'.1 f hf
     exact cb_trans _ _ _ h0 (by unfold fcmp at h1;omega)
   unfold underF
   rw[show posF t (x::r)=0 by simp only[posF];rw[if_neg h],List.drop_zero,twO_filter t hs hge]
theorem match_filter (t:Bs) {l:List Rw} (h:StrictB (l.map (·.1))):matchP t l=(l.map (·.1)).filter (begB t):=by
 unfold matchP
 rw[underO_filter t (kf_srt h),List.filter_map,List.filter_map,List.map_map]
 rfl
theorem beg_all (l:List Bs):l.filter (begB [])=l:=by
 rw[List.filter_eq_self]
 intro x _
 exact beg_nil x
theorem inPacks_filter (t:Bs):∀{ps:List PkT},PksOK ps→inPacks t ps=(inPacks [] ps).filter (begB t)
 | [],_=>rfl
 | p::r,h=>by
  have ih:=inPacks_filter t (ps:=r) (fun q hq=>h q (List.mem_cons_of_mem _ hq))
  have hp:=(h p (List.mem_cons_self ..)).2.1
  unfold inPacks at *
  rw[List.flatMap_cons,List.flatMap_cons,List.filter_append,←ih,match_filter t hp,match_filter [] hp,beg_all]
theorem names_filter (t:Bs) (L:List Fi) {ps:List PkT} (h:PksOK ps):namesP t L ps=(namesP [] L ps).filter (begB t):=by
 unfold namesP
 rw[←once_filter,List.filter_append,←inPacks_filter t h]
 unfold ownP
 rw[beg_all]
theorem list_id {ps:List Bs} {x:Bs} (h:x∈listP ps):idB x=true:=by
 obtain⟨p,hp,rfl⟩:=List.mem_map.1 h
 have:=(List.mem_filter.1 hp).2
 unfold isNameP at this
 rw[Bool.and_eq_true]at this
 exact this.1
theorem names_id {t:Bs} {L:List Fi} {ps:List PkT} (h:PksOK ps) {x:Bs} (hx:x∈namesP t L ps):idB x=true:=by
 unfold namesP at hx
 rw[once_mem,List.mem_append]at hx
 rcases hx with hx | hx
 ·exact list_id ((List.mem_filter.1 hx).1)
 ·unfold inPacks at hx
  obtain⟨p,hp,hx⟩:=List.mem_flatMap.1 hx
  rw[match_filter t (h p hp).2.1]at hx
  obtain⟨r,hr,rfl⟩:=List.mem_map.1 ((List.mem_filter.1 hx).1)
  exact(h p hp).2.2 r hr
theorem beg_take {m:Nat} {a b:Bs} (ha:a.length=40) (hb:b.length=40) (hm:m≤40):begB (a.take m) b=decide (b.take m=a.take m):=by
 have h:(a.take m).length=m:=by rw[List.length_take];omega
 unfold begB
 rw[h]
 exact decide_eq_decide.2 ⟨fun h=>h.2,fun h=>⟨by omega,h⟩⟩
def alone (l:List Bs) (m k:Nat):Prop:=∀j,j<l.length→j≠k→(l.getD j []).take m≠(l.getD k []).take m
section
variable {l:List Bs} (hl:∀x∈l,idB x=true) (hs:StrictB l)
include hl
theorem id_len {j:Nat} (h:j<l.length):(l.getD j []).length=40:=(id_all (hl _ (getD_mem [] h))).1
theorem res_form {m k:Nat} (hm:4≤m) (hm2:m≤40) (hk:k<l.length) (z:List Bs):resP ((l.getD k []).take m) z=match z with
    | []=>([],7)
    | [x]=>(x,0)
    | _=>([],8):=by
 have h40:=id_len hl hk
 have htl:((l.getD k []).take m).length=m:=by rw[List.length_take];omega
 have hid:idB ((l.getD k []).take m++List.replicate (40-m) 48)=true:=id_fill (hl _ (getD_mem [] hk)) m hm2
 unfold resP
 rw[htl,if_neg (by rw[hid];simp;omega)]
 all_goals(rcases z with _ | ⟨x,_ | ⟨y,r⟩⟩<;>rfl)
theorem res_one {m k:Nat} (hm:4≤m) (hm2:m≤40) (hk:k<l.length) (ha:alone l m k):resP ((l.getD k []).take m) (l.filter (begB ((l.getD k []).take m)))=(l.getD k [],0):=by
 have hb:∀j,j<l.length→begB ((l.getD k []).take m) (l.getD j [])=decide ((l.getD j []).take m=(l.getD k []).take m):=fun j hj=>beg_take (id_len hl hk) (id_len hl hj) hm2
 rw[res_form hl hm hm2 hk,filter_one [] hk (by rw[hb k hk];simp) (fun j hj hjk=>by rw[hb j hj];exact decide_eq_false (ha j hj hjk))]
theorem res_more {m k:Nat} (hm:4≤m) (hm2:m≤40) (hk:k<l.length) (ha:¬alone l m k):resP ((l.getD k []).take m) (l.filter (begB ((l.getD k []).take m)))=([],8):=by
 have hb:∀j,j<l.length→begB ((l.getD k []).take m) (l.getD j [])=decide ((l.getD j []).take m=(l.getD k []).take m):=fun j hj=>beg_take (id_len hl hk) (id_len hl hj) hm2
 unfold alone at ha
 rw[Classical.not_forall]at ha
 obtain⟨j,ha⟩:=ha
 rw[Classical.not_imp]at ha
 obtain⟨hj,ha⟩:=ha
 rw[Classical.not_imp]at ha
 obtain⟨hjk,ha⟩:=ha
 have ha:(l.getD j []).take m=(l.getD k []).take m:=Decidable.not_not.1 ha
 have pk:begB ((l.getD k []).take m) (l.getD k [])=true:=by rw[hb k hk];simp
 have pj:begB ((l.getD k []).take m) (l.getD j [])=true:=by rw[hb j hj];exact decide_eq_true ha
 have h2:2≤(l.filter (begB ((l.getD k []).take m))).length:=by
  rcases Nat.lt_or_ge j k with h | h
  ·exact filter_more [] h hk pj pk
  ·exact filter_more [] (by omega) hj pk pj
 rw[res_form hl hm hm2 hk]
 generalize l.filter (begB ((l.getD k []).take m))=z at *
 rcases z with _ | ⟨x,_ | ⟨y,r⟩⟩
 ·simp at h2
 ·simp at h2
 ·rfl
include hs
theorem alone_40 {k:Nat} (hk:k<l.length):alone l 40 k:=by
 intro j hj hjk e
 rw[List.take_of_length_le (by rw[id_len hl hj];omega),List.take_of_length_le (by rw[id_len hl hk];omega)]at e
 rcases Nat.lt_or_ge j k with h | h
 ·have:=strict_get hs h hk
  rw[e,cb_refl]at this;omega
 ·have:=strict_get hs (show k<j by omega) hj
  rw[e,cb_refl]at this;omega
theorem res_self {k:Nat} (hk:k<l.length):resP (l.getD k []) (l.filter (begB (l.getD k [])))=(l.getD k [],0):=by
 have h:=res_one hl (m:=40) (by decide) (Nat.le_refl _) hk (alone_40 hl hs hk)
 rwa[List.take_of_length_le (by rw[id_len hl hk];omega)]at h
end
end Go.Proofs.YthmkimlfnkghmaaGreatDoor.Ls
namespace Go.Proofs.YthmkimlfnkghmaaGreatDoor.Ls
open Eng
set_option maxRecDepth 10000
set_option maxHeartbeats 8000000 in
theorem odbunique_ok (fs:List Fi) (c:Int) (hb:FsO fs) (hc1:-9223372036854775808≤c) (hc2:c≤9223372036854775807):SpecR Tryz.prog 3 [.ro 2 (filesA fs),.int .i64 c] (.bool true):=by
 refine Cod.odbunique_spec (fun E R hN hR=>?_)
 have hsh:=short13_ok fs 30 (by have:=hb.1;omega) (by decide) (fun f hf=>(hb.2 f hf).2)
 rw[show((30:Nat):Int)=30 from rfl]at hsh
 have hG1:=short3_len fs 30
 have hG2:∀f∈short3F fs 30,f.1.length≤140737488351232∧f.2.length≤3000:=fun f hf=>by
  obtain⟨h1,g,hg,h2⟩:=short3_mem hf
  exact⟨by rw[h2];exact(hb.2 g hg).1,h1⟩
 generalize short3F fs 30=G at *
 have fin:∀{h ar},ar=[AV.undef,AV.undef]→R h (.bool true) ar:=fun ha=>by subst ha;exact hR.ro ⟨rfl,rfl⟩
 simp(disch:=first | omega | (simp only[Lx];omega))only[go_sem,simprocAttr]
 refine call_win [] hsh trivial (fun _=>rfl) ?_
 rintro h' v ar ⟨rfl,rfl,rfl⟩
 simp(disch:=first | omega | (simp only[Lx];omega))only[go_sem,simprocAttr,filesA_cells,filesA_len,filesA_fl]
 refine call_wk ⟨[(1,.int .i64 c),(21,.ro 2 (filesA G))],[]⟩ (.frz 216012 (.le (by simp(disch:=first | omega | (simp only[Lx];omega))only[go_sem,simprocAttr,filesO_all]))) rfl ?_
 refine call_ro' (snew_ok G (by omega) (fun f hf=>(hG2 f hf).1) (fun f hf=>Nat.le_trans (hG2 f hf).2 (by decide))) rfl ?_
 rintro h' v ar ⟨rfl,L,hL,hs,hcase⟩
 have hLl:=hL.length_eq
 rcases hcase with⟨hok,n,rfl⟩ | ⟨hno,rfl⟩
 rotate_left
 ·refine⟨rfl,rfl,?_⟩
  simp(disch:=first | omega | (simp only[Lx];omega))only[go_sem,simprocAttr]
  (repeat(first | refine gskip_of ?_ | refine gcskip_of ?_ | refine gopen_of ?_)<;>simp(disch:=first | omega | (simp only[Lx];omega))only[go_sem,simprocAttr])
  refine call_ro awake13_ok rfl rfl ?_
  simp(disch:=first | omega | (simp only[Lx];omega))only[go_sem,simprocAttr]
  (repeat(first | refine gskip_of ?_ | refine gcskip_of ?_ | refine gopen_of ?_)<;>simp(disch:=first | omega | (simp only[Lx];omega))only[go_sem,simprocAttr])
  exact fin rfl
 refine⟨rfl,rfl,?_⟩
 have hLc:∀f∈L,f.1.length≤200:=fun f hf=>by
  have:=hok.1 f hf
  unfold cleanP at this
  simp only[Bool.and_eq_true,decide_eq_true_eq]at this
  exact this.1.1
 have hLd:∀f∈L,f.2.length≤100000:=fun f hf=>by have:=(hG2 f (hL.mem_iff.1 hf)).2;omega
 have ho:=oopen_ok L n hs (by omega) hLc hLd
 simp(disch:=first | omega | (simp only[Lx];omega))only[go_sem,simprocAttr]
 (repeat(first | refine gskip_of ?_ | refine gcskip_of ?_ | refine gopen_of ?_)<;>simp(disch:=first | omega | (simp only[Lx];omega))only[go_sem,simprocAttr])
 cases hop:odbP L with
 | error e=>
  have he:=odb_ne hop
  rw[hop]at ho
  refine call_ro ho rfl rfl ?_
  simp(disch:=first | omega | (simp only[Lx];omega))only[go_sem,simprocAttr,odpA,he]
  (repeat(first | refine gskip_of ?_ | refine gcskip_of ?_ | refine gopen_of ?_)<;>simp(disch:=first | omega | (simp only[Lx];omega))only[go_sem,simprocAttr,odpA,he])
  refine call_ro awake13_ok rfl rfl ?_
  simp(disch:=first | omega | (simp only[Lx];omega))only[go_sem,simprocAttr,he]
  (repeat(first | refine gskip_of ?_ | refine gcskip_of ?_ | refine gopen_of ?_)<;>simp(disch:=first | omega | (simp only[Lx];omega))only[go_sem,simprocAttr,he])
  exact fin rfl
 | ok ps=>
  obtain⟨hpk,hpl⟩:=odb_ok hop
  rw[hop]at ho
  refine call_ro ho rfl rfl ?_
  obtain⟨m,hm,hm4,hm40⟩:∃m:Nat,max 4 (min c 40)=(m:Int)∧4≤m∧m≤40:=⟨(max 4 (min c 40)).toNat,by omega,by omega,by omega⟩
  have hns:=onames_ok L n ps [] hs (by omega) hLc hpk (by omega) (by decide)
  have hnl:=names_len [] (L:=L) (by omega) hpk (by omega)
  have hid:∀x∈namesP [] L ps,idB x=true:=fun x hx=>names_id hpk hx
  have hst:StrictB (namesP [] L ps):=once_strict _
  have hrs:∀t:Bs,t.length≤1000→SpecR Tryz.prog 9 [odbA L n ps,.str t] (.tup [.str (resP t ((namesP [] L ps).filter (begB t))).1,.int .i64 (resP t ((namesP [] L ps).filter (begB t))).2]):=fun t ht=>by
   rw[←names_filter t L hpk]
   exact oresolve_ok L n ps t hs (by omega) hLc hpk (by omega) ht
  generalize namesP [] L ps=l at *
  simp(disch:=first | omega | (simp only[Lx];omega))only[go_sem,simprocAttr,odpA]
  (repeat(first | refine gskip_of ?_ | refine gcskip_of ?_ | refine gopen_of ?_)<;>simp(disch:=first | omega | (simp only[Lx];omega))only[go_sem,simprocAttr,hm])
  simp(disch:=first | omega | (simp only[Lx];omega))only[go_sem,simprocAttr,hm]
  refine call_ro hns rfl rfl ?_
  have hll:∀j,j<l.length→(l.getD j []).length=40:=fun j hj=>id_len hid hj
  simp(disch:=first | omega | (simp only[Lx];omega))only[go_sem,simprocAttr,strs_len]
  refine vcW_loop hN (fun k:Nat=>⟨[(1,.int .i64 m),(7,odbA L n ps),(9,.ro 1 (strsA l)),(57,.ro 1 (strsA l)),(58,.int .i64 l.length),(59,.int .i64 k)],[]⟩) (fun k=>k≤l.length) (fun k=>l.length-k) 0 (.le (by simp(disch:=first | omega | (simp only[Lx];omega))only[go_sem,simprocAttr])) (Nat.zero_le _) ?_
  rintro k R1 hk hR1
  by_cases hlt:k<l.length
  rotate_left
  ·obtain rfl:k=l.length:=by omega
   simp(disch:=first | omega | (simp only[Lx];omega))only[go_sem,simprocAttr,strs_len]
   refine call_ro awake13_ok rfl rfl ?_
   simp(disch:=first | omega | (simp only[Lx];omega))only[go_sem,simprocAttr]
   exact fin rfl
  have hxl:=hll k hlt
  obtain⟨x,hx⟩:∃x,x=l.getD k []:=⟨_,rfl⟩
  have h1:=res_one hid hm4 hm40 hlt
  have h2:=res_more hid hm4 hm40 hlt
  have h3:=res_self hid hst hlt
  rw[←hx]at h1 h2 h3 hxl
  have hr1:=hrs (x.take m) (by rw[List.length_take];omega)
  have hr2:=hrs x (by omega)
  rw[h3]at hr2
  let al:Nat→Bool:=fun j=>decide (∀i,i<j→i≠k→(l.getD i []).take m≠x.take m)
  simp(disch:=first | omega | (simp only[Lx];omega))only[go_sem,simprocAttr,strs_len,nth_strs,←hx]
  refine vcW_loop hN (fun j:Nat=>⟨[(1,.int .i64 m),(7,odbA L n ps),(9,.ro 1 (strsA l)),(10,.int .i64 k),(11,.str x),(12,.bool (al j)),(57,.ro 1 (strsA l)),(58,.int .i64 l.length),(59,.int .i64 k),(64,.ro 1 (strsA l)),(65,.int .i64 l.length),(66,.int .i64 j)],[]⟩) (fun j=>j≤l.length) (fun j=>l.length-j) 0 (.le (by simp(disch:=first | omega | (simp only[Lx];omega))only[go_sem,simprocAttr];exact(decide_eq_true (fun i h=>by omega)).symm)) (Nat.zero_le _) ?_
  rintro j R2 hj hR2
  by_cases hjl:j<l.length
  ·have hyl:=hll j hjl
   obtain⟨y,hy⟩:∃y,y=l.getD j []:=⟨_,rfl⟩
   rw[←hy]at hyl
   have nx:al (j+1)=(al j&&(decide (j=k)||decide (¬y.take m=x.take m)))→∀b,b=(al j&&(decide (j=k)||decide (¬y.take m=x.take m)))→∀st',Wk st' ⟨[(1,.int .i64 m),(7,odbA L n ps),(9,.ro 1 (strsA l)),(10,.int .i64 k),(11,.str x),(12,.bool b),(57,.ro 1 (strsA l)),(58,.int .i64 l.length),(59,.int .i64 k),(64,.ro 1 (strsA l)),(65,.int .i64 l.length),(66,.int .i64 ((j+1:Nat):Int))],[]⟩→R2.ap st':=fun e b hb st' hw=>
    hR2 (j+1) _ (by omega) (by omega) (by rw[e,←hb];exact hw)
   have nx:=nx (by
    simp only[al]
    rw[←Bool.decide_or,←Bool.decide_and]
    refine decide_eq_decide.2 ⟨fun h=>⟨fun i hi=>h i (by omega),?_⟩,fun h i hi hik=>?_⟩
    ·by_cases hjk:j=k
     ·exact .inl hjk
     ·exact .inr (by rw[hy];exact h j (by omega) hjk)
    ·rcases Nat.lt_succ_iff_lt_or_eq.1 hi with h' | rfl
     ·exact h.1 i h' hik
     ·rcases h.2 with h2 | h2
      ·exact absurd h2 hik
      ·rw[←hy];exact h2)
   cases ha:al j with
   | false=>
    rw[ha]at nx
    simp(disch:=first | omega | (simp only[Lx];omega))only[go_sem,simprocAttr,strs_len,nth_strs,←hy]
    (repeat(first | refine gskip_of ?_ | refine gcskip_of ?_ | refine gopen_of ?_)<;>simp(disch:=first | omega | (simp only[Lx];omega))only[go_sem,simprocAttr,strs_len,nth_strs,←hy])
    exact nx false rfl _ (.le (by simp(disch:=first | omega | (simp only[Lx];omega))only[go_sem,simprocAttr]))
   | true=>
    rw[ha]at nx
    by_cases hkj:k=j
    ·subst hkj
     simp(disch:=first | omega | (simp only[Lx];omega))only[go_sem,simprocAttr,strs_len,nth_strs,←hy]
     (repeat(first | refine gskip_of ?_ | refine gcskip_of ?_ | refine gopen_of ?_)<;>simp(disch:=first | omega | (simp only[Lx];omega))only[go_sem,simprocAttr,strs_len,nth_strs,←hy])
     exact nx true (by simp) _ (.le (by simp(disch:=first | omega | (simp only[Lx];omega))only[go_sem,simprocAttr]))
    ·have hi:¬(k:Int)=(j:Int):=by omega
     simp(disch:=first | omega | (simp only[Lx];omega))only[go_sem,simprocAttr,strs_len,nth_strs,←hy,hi]
     (repeat(first | refine gskip_of ?_ | refine gcskip_of ?_ | refine gopen_of ?_)<;>simp(disch:=first | omega | (simp only[Lx];omega))only[go_sem,simprocAttr,strs_len,nth_strs,←hy,hi])
     exact nx _ (by rw[decide_eq_false (fun h:j=k=>hkj h.symm),Bool.false_or,Bool.true_and]) _ (.le (by simp(disch:=first | omega | (simp only[Lx];omega))only[go_sem,simprocAttr]))
  ·obtain rfl:j=l.length:=by omega
   have hbl:0<k→Op.bytesLess (l.getD (k-1) []) x=true:=fun h0=>by
    have h4:=strict_get hst (show k-1<k by omega) hlt
    have h5:=cb_unit (l.getD (k-1) []) (l.getD k [])
    rw[lessO_cb,decide_eq_true_eq,hx]
    omega
   have hmx:((k:Int)-1).toNat=k-1:=by omega
   have hxe:x≠[]:=fun e=>by rw[e]at hxl;simp at hxl
   have next:∀st',Wk st' ⟨[(1,.int .i64 m),(7,odbA L n ps),(9,.ro 1 (strsA l)),(57,.ro 1 (strsA l)),(58,.int .i64 l.length),(59,.int .i64 ((k+1:Nat):Int))],[]⟩→R1.ap st':=fun st' hw=>hR1 (k+1) _ (by omega) (by omega) hw
   cases ha:al l.length with
   | true=>
    rw[h1 (fun i hi hik=>by rw[←hx];exact of_decide_eq_true ha i hi hik)]at hr1
    simp(disch:=first | omega | (simp only[Lx];omega))only[go_sem,simprocAttr,strs_len]
    refine call_ro hr1 rfl rfl ?_
    simp(disch:=first | omega | (simp only[Lx];omega))only[go_sem,simprocAttr]
    refine call_ro hr2 rfl rfl ?_
    by_cases hk0:0<k
    ·have hi:(0:Int)<(k:Int):=by omega
     have hb2:=hbl hk0
     simp(disch:=first | omega | (simp only[Lx];omega))only[go_sem,simprocAttr,hi]
     (repeat(first | refine gskip_of ?_ | refine gcskip_of ?_ | refine gopen_of ?_)<;>simp(disch:=first | omega | (simp only[Lx];omega))only[go_sem,simprocAttr,hi,strs_len,nth_strs,hmx,hb2,Bool.not_true])
     exact next _ (.le (by simp(disch:=first | omega | (simp only[Lx];omega))only[go_sem,simprocAttr]))
    ·have hi:¬(0:Int)<(k:Int):=by omega
     simp(disch:=first | omega | (simp only[Lx];omega))only[go_sem,simprocAttr,hi]
     (repeat(first | refine gskip_of ?_ | refine gcskip_of ?_ | refine gopen_of ?_)<;>simp(disch:=first | omega | (simp only[Lx];omega))only[go_sem,simprocAttr,hi])
     exact next _ (.le (by simp(disch:=first | omega | (simp only[Lx];omega))only[go_sem,simprocAttr]))
   | false=>
    rw[h2 (fun hal=>by
     have:=decide_eq_true (p:=∀i,i<l.length→i≠k→(l.getD i []).take m≠x.take m) (fun i hi hik=>by rw[hx];exact hal i hi hik)
     exact Bool.noConfusion (ha.symm.trans this))]at hr1
    simp(disch:=first | omega | (simp only[Lx];omega))only[go_sem,simprocAttr,strs_len]
    refine call_ro hr1 rfl rfl ?_
    simp(disch:=first | omega | (simp only[Lx];omega))only[go_sem,simprocAttr]
    refine call_ro hr2 rfl rfl ?_
    by_cases hk0:0<k
    ·have hi:(0:Int)<(k:Int):=by omega
     have hb2:=hbl hk0
     simp(disch:=first | omega | (simp only[Lx];omega))only[go_sem,simprocAttr,hi]
     (repeat(first | refine gskip_of ?_ | refine gcskip_of ?_ | refine gopen_of ?_)<;>simp(disch:=first | omega | (simp only[Lx];omega))only[go_sem,simprocAttr,hi,strs_len,nth_strs,hmx,hb2,Bool.not_true])
     exact next _ (.le (by simp(disch:=first | omega | (simp only[Lx];omega))only[go_sem,simprocAttr]))
    ·have hi:¬(0:Int)<(k:Int):=by omega
     simp(disch:=first | omega | (simp only[Lx];omega))only[go_sem,simprocAttr,hi]
     (repeat(first | refine gskip_of ?_ | refine gcskip_of ?_ | refine gopen_of ?_)<;>simp(disch:=first | omega | (simp only[Lx];omega))only[go_sem,simprocAttr,hi])
     exact next _ (.le (by simp(disch:=first | omega | (simp only[Lx];omega))only[go_sem,simprocAttr]))
end Go.Proofs.YthmkimlfnkghmaaGreatDoor.Ls
