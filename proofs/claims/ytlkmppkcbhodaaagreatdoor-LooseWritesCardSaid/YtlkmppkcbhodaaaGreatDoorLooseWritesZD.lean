/- The proof, part 30 of 34. -/
import Derived.Test.YtlkmppkcbhodaaaGreatDoorLooseWritesV
import Derived.Test.YtlkmppkcbhodaaaGreatDoorLooseWritesY
import Derived.Test.YtlkmppkcbhodaaaGreatDoorLooseWritesZC
set_option linter.all false
namespace Go.Proofs.YtlkmppkcbhodaaaGreatDoor.Ls
open Eng Pk Ob
set_option maxRecDepth 10000
def iP (s:Bs):Int×Bs×Int:=
 if(fG s 65536).2.2≠0 then(0,[],((fG s 65536).2.2:Nat))else if(fG s 65536).2.1≠s.length then(0,[],3)else jz (fG s 65536).1
theorem I2 (s:Bs):(jz s).2.1.length≤s.length:=by
 have:=(ot 0 s).2
 unfold jz
 (repeat' split)<;>simp[this]
theorem asR (s:Bs):(iP s).2.1.length≤65536:=by
 have h1:=(CB s 65536).1
 have h2:=I2 (fG s 65536).1
 unfold iP
 split
 ·simp
 ·split
  ·simp
  ·omega
theorem yt (s:Bs) (hs:s.length≤1000000):aP Tryz.prog 14 [.str s] (jy (iP s)):=by
 refine Cod.Zs (fun E R hN hR=>?_)
 have h1:=avi s 0 65536 hs (Nat.zero_le _) (Nat.le_refl _)
 rw[List.drop_zero]at h1
 have hz:=CB s 65536
 unfold iP at hR
 generalize fG s 65536=Z at *
 obtain⟨t,n,e⟩:=Z
 simp only at hR hz
 refine wW ?_
 refine aE h1 rfl rfl ?_
 by_cases he:e=0
 ·subst he
  by_cases hn:n=s.length
  ·subst hn
   rw[if_neg (by simp),if_neg (by simp)]at hR
   have hdc:=I3 t (by omega)
   generalize jz t=x at *
   obtain⟨k,d,e⟩:=x
   unfold jy c7 at hdc hR
   refine wW ?_
   refine aE hdc rfl rfl ?_
   refine wW ?_
   exact hR.ro ⟨rfl,rfl⟩
  ·rw[if_neg (by simp),if_pos hn]at hR
   have hi:¬(n:Int)=(s.length:Int):=by omega
   refine aw hi ?_
   exact hR.ro ⟨rfl,rfl⟩
 ·rw[if_pos he]at hR
  have hi:¬(e:Int)=0:=by omega
  refine aw hi ?_
  exact hR.ro ⟨rfl,rfl⟩
def mC (k:Int) (d:Bs):Bs:=if dr k d=0 then Sh.cE (Sh.dN (bM k d))else[]
def mN (id:Bs) (x:Int×Bs×Int):Int×Bs×Int:=if x.2.2≠0 then(0,[],x.2.2)else if mC x.1 x.2.1=id then(x.1,x.2.1,0)else(0,[],5)
def readP (id:Bs):Option Bs→Int×Bs×Int
 | none=>(0,[],7)
 | some d=>mN id (iP d)
def pz (id:Bs) (L:List Fi):Int×Bs×Int:=if iE id=true then readP id (getF (gJ id) L)else(0,[],4)
set_option maxHeartbeats 1000000 in
theorem Zg (L:List Fi) (n:Nat) (id:Bs) (hs:gO L) (hl:L.length≤100000) (hd:∀f∈L,f.2.length≤1000000) (hi:id.length≤140737488351232):aP Tryz.prog 11 [ic L n,.str id] (jy (pz id L)):=by
 refine Cod.Zh (fun E R hN hR=>?_)
 have h1:=pA id hi
 have h2:=aqv L n (gJ id) hs hl
 unfold pz at hR
 refine wW ?_
 by_cases hid:iE id=true
 rotate_left
 ·rw[if_neg hid]at h1 hR
  refine aE h1 rfl rfl ?_
  refine wW ?_
  exact hR.ro ⟨rfl,rfl⟩
 rw[if_pos hid]at h1 hR
 refine aE h1 rfl rfl ?_
 refine wW ?_
 cases hg:getF (gJ id) L with
 | none=>
  rw[hg]at h2 hR
  refine aE h2 rfl rfl ?_
  refine wW ?_
  exact hR.ro ⟨rfl,rfl⟩
 | some d=>
  rw[hg]at h2 hR
  have hdl:=hd _ (get_mem hg)
  have h3:=yt d hdl
  have hul:=asR d
  have hR:cV (fun h r _=>h=[]∧r=jy (mN id (iP d))) R:=hR
  refine aE h2 rfl rfl ?_
  obtain⟨x,hx⟩:∃x,x=iP d:=⟨_,rfl⟩
  rw[←hx]at hR hul h3
  clear hx
  obtain⟨k,t,e⟩:=x
  unfold mN at hR
  simp only at hR hul
  unfold jy c7 at h3
  simp only at h3
  refine wW ?_
  refine aE h3 rfl rfl ?_
  by_cases he:e=0
  ·subst he
   rw[if_neg (by simp)]at hR
   have h4:=xw k t (by omega)
   have hid2:aP Tryz.prog 36 [.agg [.int .i64 k,.str t]] (.aj [.str (mC k t),.int .i64 (dr k t)]):=by
    unfold mC
    unfold ph at h4
    by_cases hc:dr k t=0
    ·rw[if_pos hc]at h4 ⊢;rw[hc];exact h4
    ·rw[if_neg hc]at h4 ⊢;exact h4
   obtain⟨is,his⟩:∃is,is=mC k t:=⟨_,rfl⟩
   rw[←his]at hR hid2
   refine wW ?_
   refine aE hid2 rfl rfl ?_
   by_cases hx:is=id
   ·rw[if_pos hx]at hR
    refine aw hx ?_
    exact hR.ro ⟨rfl,rfl⟩
   ·rw[if_neg hx]at hR
    refine aw hx ?_
    exact hR.ro ⟨rfl,rfl⟩
  ·rw[if_pos he]at hR
   refine aw he ?_
   exact hR.ro ⟨rfl,rfl⟩
open Eng
set_option maxRecDepth 10000
theorem wv (t:Bs) (n:Nat) (ht:t.length≤4000000000000000000) (hn:n≤100000):aP Tryz.prog 13 [.str t,.int .i64 n] (.str (t.take n)):=by
 refine Cod.KB (fun E R hN hR=>?_)
 by_cases h:n<t.length
 ·have hi:(n:Int)<(t.length:Int):=by omega
  refine aw hi ?_
  exact hR.ro ⟨rfl,rfl⟩
 ·rw[List.take_of_length_le (by omega)]at hR
  have hi:¬(n:Int)<(t.length:Int):=by omega
  refine aw hi ?_
  exact hR.ro ⟨rfl,rfl⟩
theorem Ks (fs:List Fi) (n:Nat) (hl:fs.length*32≤140737488355328) (hn:n≤1000):Eng.Spec Tryz.prog 28 [] [.ro 2 (bx fs),.int .i64 n] (fun h r ar=>h=[(216012,.arr 2 (bx (fs.take n)))]∧r=.sl 216012 0 (fs.take n).length∧ar=[.undef,.undef]):=by
 refine Cod.Kt (fun E R hN hR=>?_)
 by_cases h:n<fs.length
 ·have hi:(n:Int)<(fs.length:Int):=by omega
  have htl:(fs.take n).length=n:=by rw[List.length_take];omega
  rw[htl]at hR
  refine ea @cc hi @KF htl ?_
  exact⟨⟨kh,by omega⟩,hR.wk (h':=[(216012,.arr 2 (bx (fs.take n)))]) (r':=.sl 216012 0 n) (ar':=[.undef,.undef]) rfl (.le vV) ⟨rfl,rfl,rfl⟩⟩
 ·have hi:¬(n:Int)<(fs.length:Int):=by omega
  rw[List.take_of_length_le (by omega)]at hR
  refine bH @cc hi ?_
  exact⟨⟨kh,by omega⟩,hR.wk (h':=[(216012,.arr 2 (bx fs))]) (r':=.sl 216012 0 fs.length) (ar':=[.undef,.undef]) rfl (.le vV) ⟨rfl,rfl,rfl⟩⟩
theorem KG {A D:List Fi} {g x:Fi}:(bx (A++g::D)).set A.length (.agg [.str x.1,.str x.2])=bx (A++[x]++D):=by
 unfold bx
 rw[List.map_append,List.set_append_right _ _ (by rw[List.length_map];exact Nat.le_refl _),List.length_map,Nat.sub_self]
 simp[dD]
def gz (f:Fi):Fi:=(f.1,f.2.take 400)
def jN (fs:List Fi) (n:Nat):List Fi:=(fs.take n).map gz
theorem aoU (fs:List Fi) (n:Nat) (hl:fs.length*32≤140737488355328) (hn:n≤1000) (hd:∀f∈fs,f.2.length≤140737488351232):Eng.Spec Tryz.prog 7 [] [.ro 2 (bx fs),.int .i64 n] (fun h r ar=>h=[(216012,.arr 2 (bx (jN fs n)))]∧r=.sl 216012 0 (jN fs n).length∧ar=[.undef,.undef]):=by
 refine Cod.aoV (fun E R hN hR=>?_)
 refine wW ?_
 refine aJ [] (Ks fs n hl hn) trivial (fun _=>rfl) ?_
 rintro h' v ar ⟨rfl,rfl,rfl⟩
 unfold jN at hR
 have hdg:∀f∈fs.take n,f.2.length≤140737488351232:=fun f hf=>hd f (List.mem_of_mem_take hf)
 have hgl:(fs.take n).length≤1000:=by rw[List.length_take];omega
 obtain⟨G,hG⟩:∃G,G=fs.take n:=⟨_,rfl⟩
 rw[←hG]at hR hdg hgl
 simp(disch:=omega)only[go_sem,simprocAttr,kh,cc,oH,←hG]
 refine a7 hN (fun k:Nat=>⟨[(5,.sl 216012 0 G.length),(11,.int .i64 G.length),(12,.int .i64 k)],[(216012,.arr 2 (bx ((G.take k).map gz++G.drop k)))]⟩) (fun k=>k≤G.length) (fun k=>G.length-k) 0 (.le (by simp(disch:=omega)only[go_sem,simprocAttr,List.take_zero,List.drop_zero,List.map_nil,List.nil_append])) (Nat.zero_le _) ?_
 rintro k R1 hk hR1
 by_cases hlt:k<G.length
 ·have hL:((G.take k).map gz++G.drop k).length=G.length:=by rw[List.length_append,List.length_map,List.length_take,List.length_drop];omega
  have hg:((G.take k).map gz++G.drop k).getD k bf=G.getD k bf:=by
   rw[List.getD_eq_getElem?_getD,List.getElem?_append_right (by rw[List.length_map,List.length_take];omega),List.length_map,List.length_take,Nat.min_eq_left hk,Nat.sub_self,List.getElem?_drop,Nat.add_zero,←List.getD_eq_getElem?_getD]
  have hm:=hdg _ (iY bf hlt)
  have hf:=wv (G.getD k bf).2 400 (by omega) (by decide)
  rw[show((400:Nat):Int)=400 from rfl]at hf
  refine ea @cc hL @fP hg ?_
  refine aE hf rfl rfl ?_
  refine ea @cc hL @fP hg ?_
  have hdr:G.drop k=G.getD k bf::G.drop (k+1):=by
   rw[List.getD_eq_getElem?_getD,List.getElem?_eq_getElem hlt];exact List.drop_eq_getElem_cons hlt
  have hal:((G.take k).map gz).length=k:=by rw[List.length_map,List.length_take];omega
  have hst:(bx ((G.take k).map gz++G.drop k)).set k (.agg [.str (G.getD k bf).1,.str ((G.getD k bf).2.take 400)])=bx ((G.take k).map gz++[gz (G.getD k bf)]++G.drop (k+1)):=by
   have h:=KG (A:=(G.take k).map gz) (D:=G.drop (k+1)) (g:=G.getD k bf) (x:=gz (G.getD k bf))
   rw[hal,←hdr]at h
   exact h
  refine hR1 (k+1) _ (by omega) (by omega) (.le ?_)
  rw[hst,dU bf G hlt,List.map_append]
  simp(disch:=omega)only[go_sem,simprocAttr,List.map_cons,List.map_nil]
 ·obtain rfl:k=G.length:=by omega
  rw[List.length_map]at hR
  simp(disch:=omega)only[go_sem,simprocAttr,cc,List.append_nil]
  exact hR.wk (h':=[(216012,.arr 2 (bx (G.map gz)))]) (r':=.sl 216012 0 G.length) (ar':=[.undef,.undef]) rfl (.le vV) ⟨rfl,rfl,rfl⟩
theorem aoW (fs:List Fi) (n:Nat):(jN fs n).length≤n:=by unfold jN;rw[List.length_map,List.length_take];omega
theorem aoX {fs:List Fi} {n:Nat} {f:Fi} (h:f∈jN fs n):f.2.length≤400∧∃g∈fs,f.1=g.1:=by
 obtain⟨g,hg,rfl⟩:=List.mem_map.1 h
 refine⟨?_,g,List.mem_of_mem_take hg,rfl⟩
 unfold gz
 rw[List.length_take];omega
theorem uA:aP Tryz.prog 10 [] (.bool true):=by
 refine Cod.Es (fun E R hN hR=>?_)
 refine wW ?_
 refine aE (pA _ (by decide)) rfl rfl ?_
 rw[if_pos (by decide +kernel)]
 refine wW ?_
 refine aE (pA _ (by decide)) rfl rfl ?_
 rw[if_neg (by decide +kernel)]
 simp(disch:=omega)only[go_sem,simprocAttr,gJ,lM]
 (repeat(first | refine eY ?_ | refine eW ?_ | refine eX ?_)<;>simp(disch:=omega)only[go_sem,simprocAttr,gJ,lM])
 exact hR.ro ⟨rfl,rfl⟩
open Eng Ob
set_option maxRecDepth 10000
theorem rE (L:List Fi):aL (bx L) 0 L.length=bx L:=by
 unfold aL
 rw[List.drop_zero,List.take_of_length_le (by rw[cc];omega)]
def CE (fs:List Fi):Prop:=fs.length*32≤140737488351232∧∀f∈fs,f.1.length≤140737488351232∧f.2.length≤140737488351232
end Go.Proofs.YtlkmppkcbhodaaaGreatDoor.Ls
