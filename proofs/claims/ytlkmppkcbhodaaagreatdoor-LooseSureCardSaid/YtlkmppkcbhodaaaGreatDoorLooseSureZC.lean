/- The proof, part 29 of 30. -/
import Derived.Test.YtlkmppkcbhodaaaGreatDoorLooseSureV
import Derived.Test.YtlkmppkcbhodaaaGreatDoorLooseSureY
import Derived.Test.YtlkmppkcbhodaaaGreatDoorLooseSureZB
set_option linter.all false
namespace Go.Proofs.YtlkmppkcbhodaaaGreatDoor.Ls
open Eng Pk Ob
set_option maxRecDepth 10000
def unpackP (s:Bs):Int×Bs×Int:=
 if(zlibS s 65536).2.2≠0 then(0,[],((zlibS s 65536).2.2:Nat))else if(zlibS s 65536).2.1≠s.length then(0,[],3)else decodeP (zlibS s 65536).1
theorem decode_len (s:Bs):(decodeP s).2.1.length≤s.length:=by
 have:=(cutP_len 0 s).2
 unfold decodeP
 (repeat' split)<;>simp[this]
theorem unpack_len (s:Bs):(unpackP s).2.1.length≤65536:=by
 have h1:=(zlib_len s 65536).1
 have h2:=decode_len (zlibS s 65536).1
 unfold unpackP
 split
 ·simp
 ·split
  ·simp
  ·omega
theorem lunpack_ok (s:Bs) (hs:s.length≤1000000):SpecR Tryz.prog 14 [.str s] (decA (unpackP s)):=by
 refine Cod.lunpack_spec (fun E R hN hR=>?_)
 have h1:=zread_ok s 0 65536 hs (Nat.zero_le _) (Nat.le_refl _)
 rw[List.drop_zero]at h1
 have hz:=zlib_len s 65536
 unfold unpackP at hR
 generalize zlibS s 65536=Z at *
 obtain⟨t,n,e⟩:=Z
 simp only at hR hz
 simp(disch:=omega)only[go_sem,simprocAttr]
 refine call_ro h1 rfl rfl ?_
 by_cases he:e=0
 ·subst he
  by_cases hn:n=s.length
  ·subst hn
   rw[if_neg (by simp),if_neg (by simp)]at hR
   have hdc:=decode_ok t (by omega)
   generalize decodeP t=x at *
   obtain⟨k,d,e⟩:=x
   unfold decA objA at hdc hR
   simp(disch:=omega)only[go_sem,simprocAttr]
   refine call_ro hdc rfl rfl ?_
   simp(disch:=omega)only[go_sem,simprocAttr]
   exact hR.ro ⟨rfl,rfl⟩
  ·rw[if_neg (by simp),if_pos hn]at hR
   have hi:¬(n:Int)=(s.length:Int):=by omega
   simp(disch:=omega)only[go_sem,simprocAttr,hi]
   exact hR.ro ⟨rfl,rfl⟩
 ·rw[if_pos he]at hR
  have hi:¬(e:Int)=0:=by omega
  simp(disch:=omega)only[go_sem,simprocAttr,hi]
  exact hR.ro ⟨rfl,rfl⟩
def isP (k:Int) (d:Bs):Bs:=if checkP k d=0 then Sh.hexOf (Sh.sha1 (textP k d))else[]
def openP (id:Bs) (x:Int×Bs×Int):Int×Bs×Int:=if x.2.2≠0 then(0,[],x.2.2)else if isP x.1 x.2.1=id then(x.1,x.2.1,0)else(0,[],5)
def readP (id:Bs):Option Bs→Int×Bs×Int
 | none=>(0,[],7)
 | some d=>openP id (unpackP d)
def lookP (id:Bs) (L:List Fi):Int×Bs×Int:=if idB id=true then readP id (getF (pathP id) L)else(0,[],4)
set_option maxHeartbeats 1000000 in
theorem lread_ok (L:List Fi) (n:Nat) (id:Bs) (hs:Srt L) (hl:L.length≤100000) (hd:∀f∈L,f.2.length≤1000000) (hi:id.length≤140737488351232):SpecR Tryz.prog 11 [snapA L n,.str id] (decA (lookP id L)):=by
 refine Cod.lread_spec (fun E R hN hR=>?_)
 have h1:=lpath_ok id hi
 have h2:=snget_ok L n (pathP id) hs hl
 unfold lookP at hR
 simp(disch:=omega)only[go_sem,simprocAttr]
 by_cases hid:idB id=true
 rotate_left
 ·rw[if_neg hid]at h1 hR
  refine call_ro h1 rfl rfl ?_
  simp(disch:=omega)only[go_sem,simprocAttr]
  exact hR.ro ⟨rfl,rfl⟩
 rw[if_pos hid]at h1 hR
 refine call_ro h1 rfl rfl ?_
 simp(disch:=omega)only[go_sem,simprocAttr]
 cases hg:getF (pathP id) L with
 | none=>
  rw[hg]at h2 hR
  refine call_ro h2 rfl rfl ?_
  simp(disch:=omega)only[go_sem,simprocAttr]
  exact hR.ro ⟨rfl,rfl⟩
 | some d=>
  rw[hg]at h2 hR
  have hdl:=hd _ (get_mem hg)
  have h3:=lunpack_ok d hdl
  have hul:=unpack_len d
  have hR:PostTo (fun h r _=>h=[]∧r=decA (openP id (unpackP d))) R:=hR
  refine call_ro h2 rfl rfl ?_
  obtain⟨x,hx⟩:∃x,x=unpackP d:=⟨_,rfl⟩
  rw[←hx]at hR hul h3
  clear hx
  obtain⟨k,t,e⟩:=x
  unfold openP at hR
  simp only at hR hul
  unfold decA objA at h3
  simp only at h3
  simp(disch:=omega)only[go_sem,simprocAttr]
  refine call_ro h3 rfl rfl ?_
  by_cases he:e=0
  ·subst he
   rw[if_neg (by simp)]at hR
   have h4:=id_ok k t (by omega)
   have hid2:SpecR Tryz.prog 36 [.agg [.int .i64 k,.str t]] (.tup [.str (isP k t),.int .i64 (checkP k t)]):=by
    unfold isP
    unfold idA at h4
    by_cases hc:checkP k t=0
    ·rw[if_pos hc]at h4 ⊢;rw[hc];exact h4
    ·rw[if_neg hc]at h4 ⊢;exact h4
   obtain⟨is,his⟩:∃is,is=isP k t:=⟨_,rfl⟩
   rw[←his]at hR hid2
   simp(disch:=omega)only[go_sem,simprocAttr]
   refine call_ro hid2 rfl rfl ?_
   by_cases hx:is=id
   ·rw[if_pos hx]at hR
    simp(disch:=omega)only[go_sem,simprocAttr,hx]
    exact hR.ro ⟨rfl,rfl⟩
   ·rw[if_neg hx]at hR
    simp(disch:=omega)only[go_sem,simprocAttr,hx]
    exact hR.ro ⟨rfl,rfl⟩
  ·rw[if_pos he]at hR
   simp(disch:=omega)only[go_sem,simprocAttr,he]
   exact hR.ro ⟨rfl,rfl⟩
end Go.Proofs.YtlkmppkcbhodaaaGreatDoor.Ls
namespace Go.Proofs.YtlkmppkcbhodaaaGreatDoor.Ls
open Eng
set_option maxRecDepth 10000
theorem few_ok (t:Bs) (n:Nat) (ht:t.length≤4000000000000000000) (hn:n≤100000):SpecR Tryz.prog 13 [.str t,.int .i64 n] (.str (t.take n)):=by
 refine Cod.few_spec (fun E R hN hR=>?_)
 by_cases h:n<t.length
 ·have hi:(n:Int)<(t.length:Int):=by omega
  simp(disch:=omega)only[go_sem,simprocAttr,hi]
  exact hR.ro ⟨rfl,rfl⟩
 ·rw[List.take_of_length_le (by omega)]at hR
  have hi:¬(n:Int)<(t.length:Int):=by omega
  simp(disch:=omega)only[go_sem,simprocAttr,hi]
  exact hR.ro ⟨rfl,rfl⟩
theorem few7_ok (fs:List Fi) (n:Nat) (hl:fs.length*32≤140737488355328) (hn:n≤1000):Eng.Spec Tryz.prog 28 [] [.ro 2 (filesA fs),.int .i64 n] (fun h r ar=>h=[(216012,.arr 2 (filesA (fs.take n)))]∧r=.sl 216012 0 (fs.take n).length∧ar=[.undef,.undef]):=by
 refine Cod.few7_spec (fun E R hN hR=>?_)
 by_cases h:n<fs.length
 ·have hi:(n:Int)<(fs.length:Int):=by omega
  have htl:(fs.take n).length=n:=by rw[List.length_take];omega
  rw[htl]at hR
  simp(disch:=omega)only[go_sem,simprocAttr,filesA_len,hi,filesA_sub,htl]
  exact⟨⟨filesA_cells,by omega⟩,hR.wk (h':=[(216012,.arr 2 (filesA (fs.take n)))]) (r':=.sl 216012 0 n) (ar':=[.undef,.undef]) rfl (.le (by simp(disch:=omega)only[go_sem,simprocAttr])) ⟨rfl,rfl,rfl⟩⟩
 ·have hi:¬(n:Int)<(fs.length:Int):=by omega
  rw[List.take_of_length_le (by omega)]at hR
  simp(disch:=omega)only[go_sem,simprocAttr,filesA_len,hi]
  exact⟨⟨filesA_cells,by omega⟩,hR.wk (h':=[(216012,.arr 2 (filesA fs))]) (r':=.sl 216012 0 fs.length) (ar':=[.undef,.undef]) rfl (.le (by simp(disch:=omega)only[go_sem,simprocAttr])) ⟨rfl,rfl,rfl⟩⟩
theorem files_set {A D:List Fi} {g x:Fi}:(filesA (A++g::D)).set A.length (.agg [.str x.1,.str x.2])=filesA (A++[x]++D):=by
 unfold filesA
 rw[List.map_append,List.set_append_right _ _ (by rw[List.length_map];exact Nat.le_refl _),List.length_map,Nat.sub_self]
 simp[fileA]
def cutF (f:Fi):Fi:=(f.1,f.2.take 400)
def shortF (fs:List Fi) (n:Nat):List Fi:=(fs.take n).map cutF
theorem short9_ok (fs:List Fi) (n:Nat) (hl:fs.length*32≤140737488355328) (hn:n≤1000) (hd:∀f∈fs,f.2.length≤140737488351232):Eng.Spec Tryz.prog 7 [] [.ro 2 (filesA fs),.int .i64 n] (fun h r ar=>h=[(216012,.arr 2 (filesA (shortF fs n)))]∧r=.sl 216012 0 (shortF fs n).length∧ar=[.undef,.undef]):=by
 refine Cod.short9_spec (fun E R hN hR=>?_)
 simp(disch:=omega)only[go_sem,simprocAttr]
 refine call_win [] (few7_ok fs n hl hn) trivial (fun _=>rfl) ?_
 rintro h' v ar ⟨rfl,rfl,rfl⟩
 unfold shortF at hR
 have hdg:∀f∈fs.take n,f.2.length≤140737488351232:=fun f hf=>hd f (List.mem_of_mem_take hf)
 have hgl:(fs.take n).length≤1000:=by rw[List.length_take];omega
 obtain⟨G,hG⟩:∃G,G=fs.take n:=⟨_,rfl⟩
 rw[←hG]at hR hdg hgl
 simp(disch:=omega)only[go_sem,simprocAttr,filesA_cells,filesA_len,filesA_fl,←hG]
 refine vcW_loop hN (fun k:Nat=>⟨[(5,.sl 216012 0 G.length),(11,.int .i64 G.length),(12,.int .i64 k)],[(216012,.arr 2 (filesA ((G.take k).map cutF++G.drop k)))]⟩) (fun k=>k≤G.length) (fun k=>G.length-k) 0 (.le (by simp(disch:=omega)only[go_sem,simprocAttr,List.take_zero,List.drop_zero,List.map_nil,List.nil_append])) (Nat.zero_le _) ?_
 rintro k R1 hk hR1
 by_cases hlt:k<G.length
 ·have hL:((G.take k).map cutF++G.drop k).length=G.length:=by rw[List.length_append,List.length_map,List.length_take,List.length_drop];omega
  have hg:((G.take k).map cutF++G.drop k).getD k noF=G.getD k noF:=by
   rw[List.getD_eq_getElem?_getD,List.getElem?_append_right (by rw[List.length_map,List.length_take];omega),List.length_map,List.length_take,Nat.min_eq_left hk,Nat.sub_self,List.getElem?_drop,Nat.add_zero,←List.getD_eq_getElem?_getD]
  have hm:=hdg _ (getD_mem noF hlt)
  have hf:=few_ok (G.getD k noF).2 400 (by omega) (by decide)
  rw[show((400:Nat):Int)=400 from rfl]at hf
  simp(disch:=omega)only[go_sem,simprocAttr,filesA_len,hL,nth_files,hg]
  refine call_ro hf rfl rfl ?_
  simp(disch:=omega)only[go_sem,simprocAttr,filesA_len,hL,nth_files,hg]
  have hdr:G.drop k=G.getD k noF::G.drop (k+1):=by
   rw[List.getD_eq_getElem?_getD,List.getElem?_eq_getElem hlt];exact List.drop_eq_getElem_cons hlt
  have hal:((G.take k).map cutF).length=k:=by rw[List.length_map,List.length_take];omega
  have hst:(filesA ((G.take k).map cutF++G.drop k)).set k (.agg [.str (G.getD k noF).1,.str ((G.getD k noF).2.take 400)])=filesA ((G.take k).map cutF++[cutF (G.getD k noF)]++G.drop (k+1)):=by
   have h:=files_set (A:=(G.take k).map cutF) (D:=G.drop (k+1)) (g:=G.getD k noF) (x:=cutF (G.getD k noF))
   rw[hal,←hdr]at h
   exact h
  refine hR1 (k+1) _ (by omega) (by omega) (.le ?_)
  rw[hst,take_snoc noF G hlt,List.map_append]
  simp(disch:=omega)only[go_sem,simprocAttr,List.map_cons,List.map_nil]
 ·obtain rfl:k=G.length:=by omega
  rw[List.length_map]at hR
  simp(disch:=omega)only[go_sem,simprocAttr,filesA_len,List.append_nil]
  exact hR.wk (h':=[(216012,.arr 2 (filesA (G.map cutF)))]) (r':=.sl 216012 0 G.length) (ar':=[.undef,.undef]) rfl (.le (by simp(disch:=omega)only[go_sem,simprocAttr])) ⟨rfl,rfl,rfl⟩
theorem shortF_len (fs:List Fi) (n:Nat):(shortF fs n).length≤n:=by unfold shortF;rw[List.length_map,List.length_take];omega
theorem shortF_mem {fs:List Fi} {n:Nat} {f:Fi} (h:f∈shortF fs n):f.2.length≤400∧∃g∈fs,f.1=g.1:=by
 obtain⟨g,hg,rfl⟩:=List.mem_map.1 h
 refine⟨?_,g,List.mem_of_mem_take hg,rfl⟩
 unfold cutF
 rw[List.length_take];omega
theorem awake9_ok:SpecR Tryz.prog 10 [] (.bool true):=by
 refine Cod.awake9_spec (fun E R hN hR=>?_)
 simp(disch:=omega)only[go_sem,simprocAttr]
 refine call_ro (lpath_ok _ (by decide)) rfl rfl ?_
 rw[if_pos (by decide +kernel)]
 simp(disch:=omega)only[go_sem,simprocAttr]
 refine call_ro (lpath_ok _ (by decide)) rfl rfl ?_
 rw[if_neg (by decide +kernel)]
 simp(disch:=omega)only[go_sem,simprocAttr,pathP,objB]
 (repeat(first | refine gskip_of ?_ | refine gcskip_of ?_ | refine gopen_of ?_)<;>simp(disch:=omega)only[go_sem,simprocAttr,pathP,objB])
 exact hR.ro ⟨rfl,rfl⟩
end Go.Proofs.YtlkmppkcbhodaaaGreatDoor.Ls
namespace Go.Proofs.YtlkmppkcbhodaaaGreatDoor.Ls
open Eng Ob
set_option maxRecDepth 10000
theorem look_ok {id:Bs} {L:List Fi} (h:(lookP id L).2.2=0):Sh.hexOf (Sh.sha1 (textP (lookP id L).1 (lookP id L).2.1))=id∧(lookP id L).2.1.length≤65000:=by
 unfold lookP at h ⊢
 by_cases hid:idB id=true
 rotate_left
 ·rw[if_neg hid]at h;simp at h
 rw[if_pos hid]at h ⊢
 cases hg:getF (pathP id) L with
 | none=>rw[hg]at h;simp[readP]at h
 | some d=>
  rw[hg]at h
  simp only[readP]at h ⊢
  generalize unpackP d=x at *
  unfold openP at h ⊢
  by_cases he:x.2.2=0
  ·rw[if_neg (by simpa using he)]at h ⊢
   by_cases hx:isP x.1 x.2.1=id
   ·rw[if_pos hx]
    unfold isP at hx
    by_cases hc:checkP x.1 x.2.1=0
    ·rw[if_pos hc]at hx
     exact⟨hx,check_len hc⟩
    ·rw[if_neg hc]at hx
     have:=(path_len hid).1
     rw[←hx]at this
     simp at this
   ·rw[if_neg hx]at h;simp at h
  ·rw[if_pos he]at h;simp at h;exact absurd h he
theorem look_no {id:Bs} {L:List Fi} (h:(lookP id L).2.2≠0):(lookP id L).2.1=[]:=by
 unfold lookP at h ⊢
 by_cases hid:idB id=true
 rotate_left
 ·rw[if_neg hid]
 rw[if_pos hid]at h ⊢
 cases hg:getF (pathP id) L with
 | none=>rfl
 | some d=>
  rw[hg]at h
  simp only[readP]at h ⊢
  generalize unpackP d=x at *
  unfold openP at h ⊢
  by_cases he:x.2.2=0
  ·rw[if_neg (by simpa using he)]at h ⊢
   by_cases hx:isP x.1 x.2.1=id
   ·rw[if_pos hx]at h;simp at h
   ·rw[if_neg hx]
  ·rw[if_pos he]
theorem kind_rng (s:Bs):0≤(unpackP s).1∧(unpackP s).1≤4:=by
 have hk:∀t,0≤kindP t∧kindP t≤4:=by
  intro t
  unfold kindP
  (repeat' split)<;>omega
 have hd:∀t,0≤(decodeP t).1∧(decodeP t).1≤4:=by
  intro t
  have:=hk (cutP 32 (cutP 0 t).1).1
  unfold decodeP
  (repeat' split)<;>simp only<;>omega
 unfold unpackP
 split
 ·simp
 ·split
  ·simp
  ·exact hd _
theorem look_rng (id:Bs) (L:List Fi):0≤(lookP id L).1∧(lookP id L).1≤4:=by
 unfold lookP
 split
 ·unfold readP
  split
  ·simp
  ·rename_i d _
   have:=kind_rng d
   unfold openP
   split
   ·simp
   ·split
    ·exact this
    ·simp
 ·simp
theorem files_all (L:List Fi):sub3 (filesA L) 0 L.length=filesA L:=by
 unfold sub3
 rw[List.drop_zero,List.take_of_length_le (by rw[filesA_len];omega)]
theorem strs_all (l:List Bs):sub3 (strsA l) 0 l.length=strsA l:=by
 unfold sub3
 rw[List.drop_zero,List.take_of_length_le (by rw[strs_len];omega)]
def FsB (fs:List Fi):Prop:=fs.length*32≤140737488351232∧∀f∈fs,f.1.length≤140737488351232∧f.2.length≤140737488351232
end Go.Proofs.YtlkmppkcbhodaaaGreatDoor.Ls
namespace Go.Proofs.YtlkmppkcbhodaaaGreatDoor.Ls
open Eng Ob
set_option maxRecDepth 10000
set_option maxHeartbeats 2000000 in
theorem loosesure_ok (fs:List Fi) (id:Bs) (hb:FsB fs) (hi:id.length≤140737488351232):SpecR Tryz.prog 5 [.ro 2 (filesA fs),.str id] (.bool true):=by
 refine Cod.loosesure_spec (fun E R hN hR=>?_)
 have hsh:=short9_ok fs 30 (by have:=hb.1;omega) (by decide) (fun f hf=>(hb.2 f hf).2)
 rw[show((30:Nat):Int)=30 from rfl]at hsh
 have hG1:=shortF_len fs 30
 have hG2:∀f∈shortF fs 30,f.1.length≤140737488351232∧f.2.length≤400:=fun f hf=>by
  obtain⟨h1,g,hg,h2⟩:=shortF_mem hf
  exact⟨by rw[h2];exact(hb.2 g hg).1,h1⟩
 generalize shortF fs 30=G at *
 simp(disch:=omega)only[go_sem,simprocAttr]
 refine call_win [] hsh trivial (fun _=>rfl) ?_
 rintro h' v ar ⟨rfl,rfl,rfl⟩
 simp(disch:=omega)only[go_sem,simprocAttr,filesA_cells,filesA_len,filesA_fl]
 refine call_wk ⟨[(1,.str id),(13,.ro 2 (filesA G))],[]⟩ (.frz 216012 (.le (by simp(disch:=omega)only[go_sem,simprocAttr,files_all]))) rfl ?_
 refine call_ro' (snew_ok G (by omega) (fun f hf=>(hG2 f hf).1) (fun f hf=>Nat.le_trans (hG2 f hf).2 (by decide))) rfl ?_
 rintro h' v ar ⟨rfl,L,hL,hs,hcase⟩
 have hLl:=hL.length_eq
 rcases hcase with⟨hok,n,rfl⟩ | ⟨hno,rfl⟩
 rotate_left
 ·refine⟨rfl,rfl,?_⟩
  simp(disch:=omega)only[go_sem,simprocAttr]
  (repeat(first | refine gskip_of ?_ | refine gcskip_of ?_ | refine gopen_of ?_)<;>simp(disch:=omega)only[go_sem,simprocAttr])
  refine call_ro awake9_ok rfl rfl ?_
  simp(disch:=omega)only[go_sem,simprocAttr]
  (repeat(first | refine gskip_of ?_ | refine gcskip_of ?_ | refine gopen_of ?_)<;>simp(disch:=omega)only[go_sem,simprocAttr])
  exact hR.ro ⟨rfl,rfl⟩
 ·refine⟨rfl,rfl,?_⟩
  have hcl:∀f∈L,f.1.length≤200:=fun f hf=>by
   have:=hok.1 f hf
   unfold cleanP at this
   rw[Bool.and_eq_true,Bool.and_eq_true]at this
   exact of_decide_eq_true this.1.1
  have hd:∀f∈L,f.2.length≤1000000:=fun f hf=>Nat.le_trans (hG2 f (hL.mem_iff.1 hf)).2 (by decide)
  have hll:=list_len (underF objB L)
  have hul:=under_len objB L
  have hlm:∀x∈listP (underF objB L),x.length=40:=fun x hx=>list_mem hx
  have hli:=llist_ok L n hs (by omega) hcl
  obtain⟨U,hU⟩:∃U,U=listP (underF objB L):=⟨_,rfl⟩
  rw[←hU]at hll hlm hli
  clear hU
  simp(disch:=omega)only[go_sem,simprocAttr]
  (repeat(first | refine gskip_of ?_ | refine gcskip_of ?_ | refine gopen_of ?_)<;>simp(disch:=omega)only[go_sem,simprocAttr])
  refine call_win [] hli trivial (fun _=>rfl) ?_
  rintro h' v ar ⟨rfl,rfl,rfl⟩
  simp(disch:=omega)only[go_sem,simprocAttr,strs_len,strs_cells,strs_fl,strs_all]
  rw[strs_app]
  have hUl:(U++[id]).length=U.length+1:=by rw[List.length_append,List.length_singleton]
  have hUm:∀x∈U++[id],x.length≤140737488351232:=fun x hx=>by
   rcases List.mem_append.1 hx with h | h
   ·rw[hlm x h];decide
   ·rw[List.mem_singleton]at h;rw[h];exact hi
  refine vcW_loop hN (fun k:Nat=>⟨[(5,snapA L n),(32,.sl 213034 0 (U.length+1)),(33,.int .i64 ((U.length:Int)+1)),(34,.int .i64 k)],[(213034,.arr 1 (strsA (U++[id])))]⟩) (fun k=>k≤U.length+1) (fun k=>U.length+1-k) 0 (.le (by simp(disch:=omega)only[go_sem,simprocAttr])) (Nat.zero_le _) ?_
  rintro k R1 hk hR1
  by_cases hlt:k<U.length+1
  ·have hxm:=hUm _ (getD_mem [] (by omega:k<(U++[id]).length))
   obtain⟨x,hx⟩:∃x,x=(U++[id]).getD k []:=⟨_,rfl⟩
   rw[←hx]at hxm
   have hr:=lread_ok L n x hs (by omega) hd hxm
   have hk1:=look_ok (id:=x) (L:=L)
   have hk2:=look_rng x L
   have hk3:=look_no (id:=x) (L:=L)
   have next:∀st',Wk st' ⟨[(5,snapA L n),(32,.sl 213034 0 (U.length+1)),(33,.int .i64 ((U.length:Int)+1)),(34,.int .i64 ((k+1:Nat):Int))],[(213034,.arr 1 (strsA (U++[id])))]⟩→R1.ap st':=fun st' hw=>hR1 (k+1) _ (by omega) (by omega) hw
   obtain⟨y,hy⟩:∃y,y=lookP x L:=⟨_,rfl⟩
   rw[←hy]at hr hk1 hk2 hk3
   clear hy
   obtain⟨yk,yd,ye⟩:=y
   simp only at hk1 hk2 hk3
   unfold decA objA at hr
   simp only at hr
   simp(disch:=omega)only[go_sem,simprocAttr,strs_len,hUl,nth_strs,←hx]
   refine call_ro hr rfl rfl ?_
   by_cases he0:ye=0
   ·subst he0
    have hx1:=hk1 rfl
    have hrid:=rid_ok yk yd (by omega) (by omega) hx1.2
    rw[hx1.1]at hrid
    simp(disch:=omega)only[go_sem,simprocAttr]
    (repeat(first | refine gskip_of ?_ | refine gcskip_of ?_ | refine gopen_of ?_)<;>simp(disch:=omega)only[go_sem,simprocAttr])
    refine gcyes_of (callT_ro (by simp(disch:=omega)only[go_sem,simprocAttr,objA]) hrid (by simp(disch:=omega)only[go_sem,simprocAttr]) rfl rfl ?_)
    simp(disch:=omega)only[go_sem,simprocAttr]
    (repeat(first | refine gskip_of ?_ | refine gcskip_of ?_ | refine gopen_of ?_)<;>simp(disch:=omega)only[go_sem,simprocAttr])
    exact next _ (.le (by simp(disch:=omega)only[go_sem,simprocAttr]))
   ·have hd0:=hk3 he0
    subst hd0
    simp(disch:=omega)only[go_sem,simprocAttr,he0]
    (repeat(first | refine gskip_of ?_ | refine gcskip_of ?_ | refine gopen_of ?_)<;>simp(disch:=omega)only[go_sem,simprocAttr,he0])
    exact next _ (.le (by simp(disch:=omega)only[go_sem,simprocAttr]))
  ·obtain rfl:k=U.length+1:=by omega
   simp(disch:=omega)only[go_sem,simprocAttr]
   refine call_ro awake9_ok rfl rfl ?_
   simp(disch:=omega)only[go_sem,simprocAttr]
   exact hR.ro ⟨rfl,rfl⟩
end Go.Proofs.YtlkmppkcbhodaaaGreatDoor.Ls
