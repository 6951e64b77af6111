/- The proof, part 30 of 32. -/
import Derived.Test.YtlkmppkcbhodaaaGreatDoorLooseReadsV
import Derived.Test.YtlkmppkcbhodaaaGreatDoorLooseReadsY
import Derived.Test.YtlkmppkcbhodaaaGreatDoorLooseReadsZC
set_option linter.all false
namespace Go.Proofs.YtlkmppkcbhodaaaGreatDoor.Ls
open Eng Pk Ob
set_option maxRecDepth 10000
def cU (s:Bs):Int×Bs×Int:=
 if(fX s 65536).2.2≠0 then(0,[],((fX s 65536).2.2:Nat))else if(fX s 65536).2.1≠s.length then(0,[],3)else fa (fX s 65536).1
theorem HT (s:Bs):(fa s).2.1.length≤s.length:=by
 have:=(nN 0 s).2
 unfold fa
 (repeat' split)<;>simp[this]
theorem BE (s:Bs):(cU s).2.1.length≤65536:=by
 have h1:=(tf s 65536).1
 have h2:=HT (fX s 65536).1
 unfold cU
 split
 ·simp
 ·split
  ·simp
  ·omega
theorem xJ (s:Bs) (hs:s.length≤1000000):aM Tryz.prog 14 [.str s] (fI (cU s)):=by
 refine Cod.Xv (fun E R hN hR=>?_)
 have h1:=auh s 0 65536 hs (Nat.zero_le _) (Nat.le_refl _)
 rw[List.drop_zero]at h1
 have hz:=tf s 65536
 unfold cU at hR
 generalize fX s 65536=Z at *
 obtain⟨t,n,e⟩:=Z
 simp only at hR hz
 refine wW ?_
 refine aA h1 rfl rfl ?_
 by_cases he:e=0
 ·subst he
  by_cases hn:n=s.length
  ·subst hn
   rw[if_neg (by simp),if_neg (by simp)]at hR
   have hdc:=HU t (by omega)
   generalize fa t=x at *
   obtain⟨k,d,e⟩:=x
   unfold fI ee at hdc hR
   refine wW ?_
   refine aA hdc rfl rfl ?_
   refine wW ?_
   exact hR.ro ⟨rfl,rfl⟩
  ·rw[if_neg (by simp),if_pos hn]at hR
   have hi:¬(n:Int)=(s.length:Int):=by omega
   refine au hi ?_
   exact hR.ro ⟨rfl,rfl⟩
 ·rw[if_pos he]at hR
  have hi:¬(e:Int)=0:=by omega
  refine au hi ?_
  exact hR.ro ⟨rfl,rfl⟩
def lY (k:Int) (d:Bs):Bs:=if eD k d=0 then Sh.dI (Sh.fS (fD k d))else[]
def mh (id:Bs) (x:Int×Bs×Int):Int×Bs×Int:=if x.2.2≠0 then(0,[],x.2.2)else if lY x.1 x.2.1=id then(x.1,x.2.1,0)else(0,[],5)
def readP (id:Bs):Option Bs→Int×Bs×Int
 | none=>(0,[],7)
 | some d=>mh id (cU d)
def l6 (id:Bs) (L:List Fi):Int×Bs×Int:=if dr id=true then readP id (getF (dM id) L)else(0,[],4)
set_option maxHeartbeats 1000000 in
theorem Xj (L:List Fi) (n:Nat) (id:Bs) (hs:gn L) (hl:L.length≤100000) (hd:∀f∈L,f.2.length≤1000000) (hi:id.length≤140737488351232):aM Tryz.prog 11 [iD L n,.str id] (fI (l6 id L)):=by
 refine Cod.Xk (fun E R hN hR=>?_)
 have h1:=l7 id hi
 have h2:=aqv L n (dM id) hs hl
 unfold l6 at hR
 refine wW ?_
 by_cases hid:dr id=true
 rotate_left
 ·rw[if_neg hid]at h1 hR
  refine aA h1 rfl rfl ?_
  refine wW ?_
  exact hR.ro ⟨rfl,rfl⟩
 rw[if_pos hid]at h1 hR
 refine aA h1 rfl rfl ?_
 refine wW ?_
 cases hg:getF (dM id) L with
 | none=>
  rw[hg]at h2 hR
  refine aA h2 rfl rfl ?_
  refine wW ?_
  exact hR.ro ⟨rfl,rfl⟩
 | some d=>
  rw[hg]at h2 hR
  have hdl:=hd _ (get_mem hg)
  have h3:=xJ d hdl
  have hul:=BE d
  have hR:cJ (fun h r _=>h=[]∧r=fI (mh id (cU d))) R:=hR
  refine aA h2 rfl rfl ?_
  obtain⟨x,hx⟩:∃x,x=cU d:=⟨_,rfl⟩
  rw[←hx]at hR hul h3
  clear hx
  obtain⟨k,t,e⟩:=x
  unfold mh at hR
  simp only at hR hul
  unfold fI ee at h3
  simp only at h3
  refine wW ?_
  refine aA h3 rfl rfl ?_
  by_cases he:e=0
  ·subst he
   rw[if_neg (by simp)]at hR
   have h4:=Om k t (by omega)
   have hid2:aM Tryz.prog 36 [.agg [.int .i64 k,.str t]] (.ai [.str (lY k t),.int .i64 (eD k t)]):=by
    unfold lY
    unfold rb at h4
    by_cases hc:eD k t=0
    ·rw[if_pos hc]at h4 ⊢;rw[hc];exact h4
    ·rw[if_neg hc]at h4 ⊢;exact h4
   obtain⟨is,his⟩:∃is,is=lY k t:=⟨_,rfl⟩
   rw[←his]at hR hid2
   refine wW ?_
   refine aA hid2 rfl rfl ?_
   by_cases hx:is=id
   ·rw[if_pos hx]at hR
    refine au hx ?_
    exact hR.ro ⟨rfl,rfl⟩
   ·rw[if_neg hx]at hR
    refine au hx ?_
    exact hR.ro ⟨rfl,rfl⟩
  ·rw[if_pos he]at hR
   refine au he ?_
   exact hR.ro ⟨rfl,rfl⟩
open Eng
set_option maxRecDepth 10000
theorem vw (t:Bs) (n:Nat) (ht:t.length≤4000000000000000000) (hn:n≤100000):aM Tryz.prog 13 [.str t,.int .i64 n] (.str (t.take n)):=by
 refine Cod.Jy (fun E R hN hR=>?_)
 by_cases h:n<t.length
 ·have hi:(n:Int)<(t.length:Int):=by omega
  refine au hi ?_
  exact hR.ro ⟨rfl,rfl⟩
 ·rw[List.take_of_length_le (by omega)]at hR
  have hi:¬(n:Int)<(t.length:Int):=by omega
  refine au hi ?_
  exact hR.ro ⟨rfl,rfl⟩
theorem Jp (fs:List Fi) (n:Nat) (hl:fs.length*32≤140737488355328) (hn:n≤1000):Eng.Spec Tryz.prog 28 [] [.ro 2 (bn fs),.int .i64 n] (fun h r ar=>h=[(216012,.arr 2 (bn (fs.take n)))]∧r=.sl 216012 0 (fs.take n).length∧ar=[.undef,.undef]):=by
 refine Cod.Jq (fun E R hN hR=>?_)
 by_cases h:n<fs.length
 ·have hi:(n:Int)<(fs.length:Int):=by omega
  have htl:(fs.take n).length=n:=by rw[List.length_take];omega
  rw[htl]at hR
  refine dE @bR hi @JA htl ?_
  exact⟨⟨kO,by omega⟩,hR.wk (h':=[(216012,.arr 2 (bn (fs.take n)))]) (r':=.sl 216012 0 n) (ar':=[.undef,.undef]) rfl (.le vV) ⟨rfl,rfl,rfl⟩⟩
 ·have hi:¬(n:Int)<(fs.length:Int):=by omega
  rw[List.take_of_length_le (by omega)]at hR
  refine bo @bR hi ?_
  exact⟨⟨kO,by omega⟩,hR.wk (h':=[(216012,.arr 2 (bn fs))]) (r':=.sl 216012 0 fs.length) (ar':=[.undef,.undef]) rfl (.le vV) ⟨rfl,rfl,rfl⟩⟩
theorem JC {A D:List Fi} {g x:Fi}:(bn (A++g::D)).set A.length (.agg [.str x.1,.str x.2])=bn (A++[x]++D):=by
 unfold bn
 rw[List.map_append,List.set_append_right _ _ (by rw[List.length_map];exact Nat.le_refl _),List.length_map,Nat.sub_self]
 simp[dx]
def gu (f:Fi):Fi:=(f.1,f.2.take 400)
def jx (fs:List Fi) (n:Nat):List Fi:=(fs.take n).map gu
theorem apc (fs:List Fi) (n:Nat) (hl:fs.length*32≤140737488355328) (hn:n≤1000) (hd:∀f∈fs,f.2.length≤140737488351232):Eng.Spec Tryz.prog 7 [] [.ro 2 (bn fs),.int .i64 n] (fun h r ar=>h=[(216012,.arr 2 (bn (jx fs n)))]∧r=.sl 216012 0 (jx fs n).length∧ar=[.undef,.undef]):=by
 refine Cod.apd (fun E R hN hR=>?_)
 refine wW ?_
 refine aU [] (Jp fs n hl hn) trivial (fun _=>rfl) ?_
 rintro h' v ar ⟨rfl,rfl,rfl⟩
 unfold jx at hR
 have hdg:∀f∈fs.take n,f.2.length≤140737488351232:=fun f hf=>hd f (List.mem_of_mem_take hf)
 have hgl:(fs.take n).length≤1000:=by rw[List.length_take];omega
 obtain⟨G,hG⟩:∃G,G=fs.take n:=⟨_,rfl⟩
 rw[←hG]at hR hdg hgl
 simp(disch:=omega)only[go_sem,simprocAttr,kO,bR,qL,←hG]
 refine aZ hN (fun k:Nat=>⟨[(5,.sl 216012 0 G.length),(11,.int .i64 G.length),(12,.int .i64 k)],[(216012,.arr 2 (bn ((G.take k).map gu++G.drop k)))]⟩) (fun k=>k≤G.length) (fun k=>G.length-k) 0 (.le (by simp(disch:=omega)only[go_sem,simprocAttr,List.take_zero,List.drop_zero,List.map_nil,List.nil_append])) (Nat.zero_le _) ?_
 rintro k R1 hk hR1
 by_cases hlt:k<G.length
 ·have hL:((G.take k).map gu++G.drop k).length=G.length:=by rw[List.length_append,List.length_map,List.length_take,List.length_drop];omega
  have hg:((G.take k).map gu++G.drop k).getD k aX=G.getD k aX:=by
   rw[List.getD_eq_getElem?_getD,List.getElem?_append_right (by rw[List.length_map,List.length_take];omega),List.length_map,List.length_take,Nat.min_eq_left hk,Nat.sub_self,List.getElem?_drop,Nat.add_zero,←List.getD_eq_getElem?_getD]
  have hm:=hdg _ (gV aX hlt)
  have hf:=vw (G.getD k aX).2 400 (by omega) (by decide)
  rw[show((400:Nat):Int)=400 from rfl]at hf
  refine dE @bR hL @fj hg ?_
  refine aA hf rfl rfl ?_
  refine dE @bR hL @fj hg ?_
  have hdr:G.drop k=G.getD k aX::G.drop (k+1):=by
   rw[List.getD_eq_getElem?_getD,List.getElem?_eq_getElem hlt];exact List.drop_eq_getElem_cons hlt
  have hal:((G.take k).map gu).length=k:=by rw[List.length_map,List.length_take];omega
  have hst:(bn ((G.take k).map gu++G.drop k)).set k (.agg [.str (G.getD k aX).1,.str ((G.getD k aX).2.take 400)])=bn ((G.take k).map gu++[gu (G.getD k aX)]++G.drop (k+1)):=by
   have h:=JC (A:=(G.take k).map gu) (D:=G.drop (k+1)) (g:=G.getD k aX) (x:=gu (G.getD k aX))
   rw[hal,←hdr]at h
   exact h
  refine hR1 (k+1) _ (by omega) (by omega) (.le ?_)
  rw[hst,dp aX G hlt,List.map_append]
  simp(disch:=omega)only[go_sem,simprocAttr,List.map_cons,List.map_nil]
 ·obtain rfl:k=G.length:=by omega
  rw[List.length_map]at hR
  simp(disch:=omega)only[go_sem,simprocAttr,bR,List.append_nil]
  exact hR.wk (h':=[(216012,.arr 2 (bn (G.map gu)))]) (r':=.sl 216012 0 G.length) (ar':=[.undef,.undef]) rfl (.le vV) ⟨rfl,rfl,rfl⟩
theorem ape (fs:List Fi) (n:Nat):(jx fs n).length≤n:=by unfold jx;rw[List.length_map,List.length_take];omega
theorem apf {fs:List Fi} {n:Nat} {f:Fi} (h:f∈jx fs n):f.2.length≤400∧∃g∈fs,f.1=g.1:=by
 obtain⟨g,hg,rfl⟩:=List.mem_map.1 h
 refine⟨?_,g,List.mem_of_mem_take hg,rfl⟩
 unfold gu
 rw[List.length_take];omega
theorem nn:aM Tryz.prog 10 [] (.bool true):=by
 refine Cod.DB (fun E R hN hR=>?_)
 refine wW ?_
 refine aA (l7 _ (by decide)) rfl rfl ?_
 rw[if_pos (by decide +kernel)]
 refine wW ?_
 refine aA (l7 _ (by decide)) rfl rfl ?_
 rw[if_neg (by decide +kernel)]
 simp(disch:=omega)only[go_sem,simprocAttr,dM,bU]
 (repeat(first | refine ff ?_ | refine fc ?_ | refine fe ?_)<;>simp(disch:=omega)only[go_sem,simprocAttr,dM,bU])
 exact hR.ro ⟨rfl,rfl⟩
open Eng Ob
set_option maxRecDepth 10000
theorem Ut (s:Bs):0≤(cU s).1∧(cU s).1≤4:=by
 have hk:∀t,0≤fg t∧fg t≤4:=by
  intro t
  unfold fg
  (repeat' split)<;>omega
 have hd:∀t,0≤(fa t).1∧(fa t).1≤4:=by
  intro t
  have:=hk (cutP 32 (cutP 0 t).1).1
  unfold fa
  (repeat' split)<;>simp only<;>omega
 unfold cU
 split
 ·simp
 ·split
  ·simp
  ·exact hd _
theorem JB (L:List Fi):aI (bn L) 0 L.length=bn L:=by
 unfold aI
 rw[List.drop_zero,List.take_of_length_le (by rw[bR];omega)]
theorem kl (l:List Bs):aI (bc l) 0 l.length=bc l:=by
 unfold aI
 rw[List.drop_zero,List.take_of_length_le (by rw[cE];omega)]
def BO (fs:List Fi):Prop:=fs.length*32≤140737488351232∧∀f∈fs,f.1.length≤140737488351232∧f.2.length≤140737488351232
end Go.Proofs.YtlkmppkcbhodaaaGreatDoor.Ls
