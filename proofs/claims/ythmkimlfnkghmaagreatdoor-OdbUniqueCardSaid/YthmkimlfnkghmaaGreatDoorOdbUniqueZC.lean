/- The proof, part 29 of 32. -/
import Derived.Test.YthmkimlfnkghmaaGreatDoorOdbUniqueZB
import Derived.Shelf.Strings.Prefix
set_option linter.all false
namespace Go.Proofs.YthmkimlfnkghmaaGreatDoor.Ls
open Eng
set_option maxRecDepth 10000
abbrev PkT:=Bs×Bs×(List Rw×Bs)
abbrev noPk:PkT:=([],[],[],[])
def packA (p:PkT):AV:=.agg [.str p.1,idxA p.2.1 p.2.2]
def packsA (ps:List PkT):List AV:=ps.map packA
theorem packsA_len (ps:List PkT):(packsA ps).length=ps.length:=by simp[packsA]
theorem nth_packs {ps:List PkT} {i:Nat} (h:i<ps.length):nth (packsA ps) i=.agg [.str (ps.getD i noPk).1,idxA (ps.getD i noPk).2.1 (ps.getD i noPk).2.2]:=by
 simp[nth,packsA,packA,List.getD_eq_getElem?_getD,h]
theorem packsA_cells {ps:List PkT}:(packsA ps).all cellsOK=true:=by simp[packsA,packA,cellsOK,cellsOf,isCell]
theorem packsA_app {ps:List PkT} {d t:Bs} {x:List Rw×Bs}:packsA ps++[.agg [.str d,idxA t x]]=packsA (ps++[(d,t,x)]):=by simp[packsA,packA]
theorem packsA_nil:packsA []=[]:=(rfl)
theorem packsA_sub (ps:List PkT):sub3 (packsA ps) 0 ps.length=packsA ps:=by
 unfold sub3
 rw[List.drop_zero,List.take_of_length_le (by rw[packsA_len];omega)]
def packB:Bs:=[111,98,106,101,99,116,115,47,112,97,99,107,47,112,97,99,107,45]
def sufI:Bs:=[46,105,100,120]
def sufP:Bs:=[46,112,97,99,107]
def nameB (p:Bs):Bs:=Lib.trimSuffix (p.drop 18) sufI
noncomputable def stepP (L:List Fi) (p:Bs):Except Int (Option PkT):=
 if Lib.hasSuffix (p.drop 18) sufI=false∨idB (nameB p)=false then .ok none
 else match parseP ((getF p L).getD [])with
  | .error e=>.error e
  | .ok x=>match getF (packB++nameB p++sufP) L with
   | none=>.error 7
   | some d=>
    if(cntE d).2≠0 then .error (cntE d).2
    else if(cntE d).1≠(x.1.length:Int)then .error 4
    else if Sh.hexOf (d.drop (d.length-20))≠x.2 then .error 5
    else .ok (some (d,(getF p L).getD [],x))
theorem rows_ne {s:Bs} {n:Nat} {e:Int}:∀{k:Nat},rowsP s n k=.error e→e≠0
 | 0,h=>by unfold rowsP at h;cases h
 | k+1,h=>by
  unfold rowsP at h
  cases h1:rowsP s n k with
  | error e'=>
   rw[h1]at h
   cases h
   exact rows_ne h1
  | ok l'=>
   rw[h1]at h
   cases h2:rowP s n k with
   | error e'=>
    rw[h2]at h
    cases h
    unfold rowP at h2
    split at h2
    ·cases h2;decide
    ·split at h2
     ·cases h2;decide
     ·split at h2
      ·cases h2;decide
      ·cases h2
   | ok r=>rw[h2]at h;cases h
theorem parse_ne {s:Bs} {e:Int} (h:parseP s=.error e):e≠0:=by
 unfold parseP at h
 simp only at h
 split at h
 ·cases h;decide
 ·split at h
  ·cases h;decide
  ·split at h
   ·cases h;decide
   ·split at h
    ·cases h;decide
    ·split at h
     ·cases h;decide
     ·split at h
      ·cases h;decide
      ·split at h
       ·rename_i e' h1
        cases h
        exact rows_ne h1
       ·split at h
        ·cases h;decide
        ·cases h
noncomputable def packsP (L:List Fi) (U:List Bs):Nat→Except Int (List PkT)
 | 0=>.ok []
 | k+1=>match packsP L U k with
  | .error e=>.error e
  | .ok ps=>match stepP L (U.getD k [])with
   | .error e=>.error e
   | .ok none=>.ok ps
   | .ok (some p)=>.ok (ps++[p])
theorem packs_err {L:List Fi} {U:List Bs} {e:Int}:∀{m k:Nat},k≤m→packsP L U k=.error e→packsP L U m=.error e
 | 0,k,h,h1=>by
  obtain rfl:k=0:=by omega
  exact h1
 | m+1,k,h,h1=>by
  by_cases hk:k=m+1
  ·subst hk;exact h1
  ·unfold packsP
   rw[packs_err (by omega:k≤m) h1]
theorem packs_len {L:List Fi} {U:List Bs}:∀{k:Nat} {l:List PkT},packsP L U k=.ok l→l.length≤k
 | 0,l,h=>by
  unfold packsP at h
  cases h;exact Nat.le_refl _
 | k+1,l,h=>by
  unfold packsP at h
  cases h1:packsP L U k with
  | error e=>rw[h1]at h;cases h
  | ok l'=>
   have:=packs_len h1
   rw[h1]at h
   cases h2:stepP L (U.getD k [])with
   | error e=>rw[h2]at h;cases h
   | ok r=>
    rw[h2]at h
    cases r with
    | none=>cases h;omega
    | some r=>
     cases h
     rw[List.length_append,List.length_singleton];omega
noncomputable def odbP (L:List Fi):Except Int (List PkT):=packsP L (underF packB L) (underF packB L).length
abbrev odbA (L:List Fi) (n:Nat) (ps:List PkT):AV:=.elt (.agg [snapA L n,.ro 2 (packsA ps)])
def odpA (L:List Fi) (n:Nat):Except Int (List PkT)→AV
 | .error e=>.tup [.lit (.pointer none),.int .i64 e]
 | .ok ps=>.tup [odbA L n ps,.int .i64 0]
theorem cutsufO_ok (s p:Bs) (hs:s.length≤1000000):SpecR Tryz.prog 18 [.str s,.str p] (.tup [.str (Lib.trimSuffix s p),.bool (Lib.hasSuffix s p)]):=
 spec_same rfl rfl (fun w=>Tryz.strings_CutSuffix ⟨s.toArray⟩ ⟨p.toArray⟩ w (by show s.toArray.size≤_;simp;omega))
theorem get_len {p d:Bs} {L:List Fi} {B:Nat} (h:∀f∈L,f.2.length≤B) (hg:getF p L=some d):d.length≤B:=h _ (get_mem hg)
set_option maxHeartbeats 4000000 in
theorem oopen_ok (L:List Fi) (n:Nat) (hs:Srt L) (hl:L.length≤100000) (hc:∀f∈L,f.1.length≤200) (hd:∀f∈L,f.2.length≤100000) :
    SpecR Tryz.prog 7 [snapA L n] (odpA L n (odbP L)):=by
 refine Cod.oopen_spec (fun E R hN hR=>?_)
 simp(disch:=first | omega | (simp only[Lx];omega))only[go_sem,simprocAttr]
 refine call_ro (under_ok L n packB hs hl (by decide) (fun f hf=>by have:=hc f hf;omega)) rfl rfl ?_
 have hul:=under_len packB L
 have hum:∀p∈underF packB L,p.length≤200∧18≤p.length:=fun p hp=>by
  obtain⟨h1,f,hf,h2⟩:=under_mem hp
  exact⟨by rw[←h2];exact hc f hf,beg_len h1⟩
 unfold odbP at hR
 generalize underF packB L=U at *
 have bad:∀{h} (e:Int),packsP L U U.length=.error e→R h (.tup [.lit (.pointer none),.int .i64 e]) [.undef]:=fun e he=>hR.ro ⟨rfl,by rw[he];rfl⟩
 simp(disch:=first | omega | (simp only[Lx];omega))only[go_sem,simprocAttr,strs_len]
 refine vcW_loop hN (fun p:Nat×List PkT=>⟨[(0,snapA L n),(4,.vptr 246017 0),(19,.ro 1 (strsA U)),(20,.int .i64 U.length),(21,.int .i64 p.1)],[(246017,.var [snapA L n,.sl 246096 0 p.2.length]),(246096,.arr 2 (packsA p.2))]⟩)
  (fun p=>p.1≤U.length∧packsP L U p.1=.ok p.2) (fun p=>U.length-p.1) (0,[]) (.nilV 246017 1 246096 2 [snapA L n,.nilsl] rfl rfl rfl (.le (by simp(disch:=first | omega | (simp only[Lx];omega))only[go_sem,simprocAttr,packsA_nil]))) ⟨by omega,rfl⟩ ?_
 rintro⟨k,ps⟩ R1 ⟨hk,hps⟩ hR1
 simp only at hk hps
 have hpl:=packs_len hps
 by_cases hlt:k<U.length
 ·obtain⟨h1,h2⟩:=hum _ (getD_mem [] hlt)
  have hst:∀r,stepP L (U.getD k [])=r→packsP L U (k+1)=match r with
   | .error e=>.error e
   | .ok none=>.ok ps
   | .ok (some p)=>.ok (ps++[p]):=fun r hr=>by rw[packsP,hps];simp only[hr]
  obtain⟨p,hp⟩:∃p,p=U.getD k []:=⟨_,rfl⟩
  rw[←hp]at h1 h2 hst
  have hi:(18:Int)≤(p.length:Int):=by omega
  have badk:∀{h} (e:Int),stepP L p=.error e→R h (.tup [.lit (.pointer none),.int .i64 e]) [.undef]:=fun e he=>bad e (packs_err (by omega:k+1≤U.length) (hst _ he))
  have skip:stepP L p=.ok none→∀st',Wk st' ⟨[(0,snapA L n),(4,.vptr 246017 0),(19,.ro 1 (strsA U)),(20,.int .i64 U.length),(21,.int .i64 ((k+1:Nat):Int))],[(246017,.var [snapA L n,.sl 246096 0 ps.length]),(246096,.arr 2 (packsA ps))]⟩→R1.ap st':=fun hno st' hw=>
   hR1 (k+1,ps) _ (by simp only;omega) ⟨by simp only;omega,hst _ hno⟩ hw
  have hcs:=cutsufO_ok (p.drop 18) sufI (by rw[List.length_drop];omega)
  have hnl:(nameB p).length≤200:=by
   unfold nameB Lib.trimSuffix
   split
   ·rw[List.length_take,List.length_drop];omega
   ·rw[List.length_drop];omega
  have hsid:=sid_ok (nameB p) (by omega)
  simp(disch:=first | omega | (simp only[Lx];omega))only[go_sem,simprocAttr,strs_len,nth_strs,←hp,hi]
  refine call_ro hcs rfl rfl ?_
  rw[show Lib.trimSuffix (p.drop 18) sufI=nameB p from rfl]
  cases hsf:Lib.hasSuffix (p.drop 18) sufI with
  | false=>
   simp(disch:=first | omega | (simp only[Lx];omega))only[go_sem,simprocAttr]
   (repeat(first | refine gskip_of ?_ | refine gcskip_of ?_ | refine gopen_of ?_)<;>simp(disch:=first | omega | (simp only[Lx];omega))only[go_sem,simprocAttr])
   exact skip (by unfold stepP;rw[if_pos (.inl hsf)]) _ (.le (by simp(disch:=first | omega | (simp only[Lx];omega))only[go_sem,simprocAttr]))
  | true=>
   simp(disch:=first | omega | (simp only[Lx];omega))only[go_sem,simprocAttr]
   (repeat(first | refine gskip_of ?_ | refine gcskip_of ?_ | refine gopen_of ?_)<;>simp(disch:=first | omega | (simp only[Lx];omega))only[go_sem,simprocAttr])
   refine gcyes_of (callT_ro (by simp(disch:=first | omega | (simp only[Lx];omega))only[go_sem,simprocAttr]) hsid (by simp(disch:=first | omega | (simp only[Lx];omega))only[go_sem,simprocAttr]) rfl rfl ?_)
   cases hid:idB (nameB p)with
   | false=>
    simp(disch:=first | omega | (simp only[Lx];omega))only[go_sem,simprocAttr]
    (repeat(first | refine gskip_of ?_ | refine gcskip_of ?_ | refine gopen_of ?_)<;>simp(disch:=first | omega | (simp only[Lx];omega))only[go_sem,simprocAttr])
    exact skip (by unfold stepP;rw[if_pos (.inr hid)]) _ (.le (by simp(disch:=first | omega | (simp only[Lx];omega))only[go_sem,simprocAttr]))
   | true=>
    simp(disch:=first | omega | (simp only[Lx];omega))only[go_sem,simprocAttr]
    (repeat(first | refine gskip_of ?_ | refine gcskip_of ?_ | refine gopen_of ?_)<;>simp(disch:=first | omega | (simp only[Lx];omega))only[go_sem,simprocAttr])
    have hg1:=snget_ok L n p hs hl
    have hg2:SpecR Tryz.prog 20 [snapA L n,.str p] (.tup [.str ((getF p L).getD []),.int .i64 (if(getF p L).isSome then 0 else 7)]):=by
     cases hg:getF p L<;>(rw[hg]at hg1;exact hg1)
    have htl:((getF p L).getD []).length≤100000:=by
     cases hg:getF p L with
     | none=>simp
     | some d=>exact get_len hd hg
    have hsp:stepP L p=(match parseP ((getF p L).getD [])with
        | .error e=>.error e
        | .ok x=>match getF (packB++nameB p++sufP) L with
         | none=>.error 7
         | some d=>
          if(cntE d).2≠0 then .error (cntE d).2
          else if(cntE d).1≠(x.1.length:Int)then .error 4
          else if Sh.hexOf (d.drop (d.length-20))≠x.2 then .error 5
          else .ok (some (d,(getF p L).getD [],x))):=by
     unfold stepP
     rw[if_neg (by rw[hsf,hid];simp)]
    refine call_ro hg2 rfl rfl ?_
    obtain⟨t,ht⟩:∃t,t=(getF p L).getD []:=⟨_,rfl⟩
    rw[←ht]at htl hsp
    rw[←ht]
    have hpa:=xparse_ok t htl
    simp(disch:=first | omega | (simp only[Lx];omega))only[go_sem,simprocAttr]
    cases hpp:parseP t with
    | error e=>
     rw[hpp]at hpa hsp
     refine call_ro hpa rfl rfl ?_
     have he:¬e=0:=parse_ne hpp
     simp(disch:=first | omega | (simp only[Lx];omega))only[go_sem,simprocAttr,parseA,he]
     exact badk e hsp
    | ok x=>
     rw[hpp]at hpa hsp
     simp only at hsp
     refine call_ro hpa rfl rfl ?_
     have hg3:=snget_ok L n (packB++nameB p++sufP) hs hl
     have hbl:(packB++nameB p++sufP).length≤1000:=by rw[List.length_append,List.length_append];have:packB.length=18:=rfl;have:sufP.length=5:=rfl;omega
     obtain⟨q,hq⟩:∃q,q=packB++nameB p++sufP:=⟨_,rfl⟩
     have hq2:111::98::106::101::99::116::115::47::112::97::99::107::47::112::97::99::107::45::(nameB p++[46,112,97,99,107])=q:=by rw[hq];rfl
     rw[←hq]at hg3 hsp hbl
     simp(disch:=first | omega | (simp only[Lx];omega))only[go_sem,simprocAttr,parseA,hq2]
     cases hgd:getF q L with
     | none=>
      rw[hgd]at hg3 hsp
      refine call_ro hg3 rfl rfl ?_
      simp(disch:=first | omega | (simp only[Lx];omega))only[go_sem,simprocAttr]
      exact badk 7 hsp
     | some d=>
      rw[hgd]at hg3 hsp
      simp only at hsp
      have hdl:=get_len hd hgd
      have hcn:=xcount_ok d hdl
      have h32:=@cnt_32 d
      have hln:=xlen_ok t x
      have hsm:=xsum_ok t x
      refine call_ro hg3 rfl rfl ?_
      simp(disch:=first | omega | (simp only[Lx];omega))only[go_sem,simprocAttr]
      refine call_ro hcn rfl rfl ?_
      obtain⟨m,hm⟩:∃m,m=(cntE d).1:=⟨_,rfl⟩
      obtain⟨f,hf⟩:∃f,f=(cntE d).2:=⟨_,rfl⟩
      rw[←hf,←hm]at hsp
      rw[←hf]at h32
      rw[←hf,←hm]
      simp(disch:=first | omega | (simp only[Lx];omega))only[go_sem,simprocAttr]
      by_cases h0:f=0
      rotate_left
      ·rw[if_pos h0]at hsp
       simp(disch:=first | omega | (simp only[Lx];omega))only[go_sem,simprocAttr,h0]
       exact badk f hsp
      ·rw[if_neg (fun h=>h h0)]at hsp
       have h32:=h32 h0
       subst h0
       simp(disch:=first | omega | (simp only[Lx];omega))only[go_sem,simprocAttr]
       refine call_ro hln rfl rfl ?_
       by_cases h3:m=(x.1.length:Int)
       rotate_left
       ·rw[if_pos h3]at hsp
        simp(disch:=first | omega | (simp only[Lx];omega))only[go_sem,simprocAttr,h3]
        exact badk 4 hsp
       ·rw[if_neg (fun h=>h h3)]at hsp
        have e20:((d.length:Int)-20).toNat=d.length-20:=by omega
        have hhx:=Sh.hex_ok (d.drop (d.length-20)) (by rw[List.length_drop];omega)
        simp(disch:=first | omega | (simp only[Lx];omega))only[go_sem,simprocAttr,h3,e20]
        refine call_ro hhx rfl rfl ?_
        simp(disch:=first | omega | (simp only[Lx];omega))only[go_sem,simprocAttr]
        refine call_ro hsm rfl rfl ?_
        by_cases h4:Sh.hexOf (d.drop (d.length-20))=x.2
        rotate_left
        ·rw[if_pos h4]at hsp
         simp(disch:=first | omega | (simp only[Lx];omega))only[go_sem,simprocAttr,h4]
         exact badk 5 hsp
        ·rw[if_neg (fun h=>h h4)]at hsp
         simp(disch:=first | omega | (simp only[Lx];omega))only[go_sem,simprocAttr,h4,packsA_len]
         rw[packsA_sub,packsA_app]
         refine⟨⟨packsA_cells,by omega⟩,hR1 (k+1,ps++[(d,t,x)]) _ (by simp only;omega) ⟨by simp only;omega,hst _ hsp⟩ (.le (by rw[List.length_append,List.length_singleton];simp(disch:=first | omega | (simp only[Lx];omega))only[go_sem,simprocAttr]))⟩
 ·obtain rfl:k=U.length:=by omega
  have hop:odpA L n (packsP L U U.length)=.tup [odbA L n ps,.int .i64 0]:=by rw[hps];rfl
  simp(disch:=first | omega | (simp only[Lx];omega))only[go_sem,simprocAttr,strs_len]
  refine hR.wk (h':=[]) (r':=.tup [odbA L n ps,.int .i64 0]) (ar':=[.undef]) rfl (.frz 246096 (.frzT 0 0 246017 [.vptr 246017 0,.int .i64 0] [snapA L n,.ro 2 (packsA ps)] (by simp(disch:=first | omega | (simp only[Lx];omega))only[go_sem,simprocAttr]) (by rfl) ?_ ?_ (.le ?_))) ⟨rfl,hop.symm⟩
  ·simp(disch:=first | omega | (simp only[Lx];omega))only[go_sem,simprocAttr,packsA_sub,packsA_len]
   done
  ·rfl
  ·simp(disch:=first | omega | (simp only[Lx];omega))only[go_sem,simprocAttr,odbA]
   done
end Go.Proofs.YthmkimlfnkghmaaGreatDoor.Ls
