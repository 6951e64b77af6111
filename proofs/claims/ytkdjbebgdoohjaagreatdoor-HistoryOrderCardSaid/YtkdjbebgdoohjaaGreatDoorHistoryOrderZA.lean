/- The proof, part 27 of 50. -/
import Derived.Test.YtkdjbebgdoohjaaGreatDoorHistoryOrderN
import Derived.Test.YtkdjbebgdoohjaaGreatDoorHistoryOrderQ
import Derived.Shelf.SlSortCmp.NoneTotal
set_option linter.all false
namespace Go.Proofs.YtkdjbebgdoohjaaGreatDoor.Ls
open Eng Go.Sort Go.RowKit Go.Shelf
set_option maxRecDepth 10000
def fF (x:Fi):List Value:=[.string ⟨x.1.toArray⟩,.string ⟨x.2.toArray⟩]
instance:Inhabited Fi:=⟨aJ⟩
theorem Xw:SWO (ltOf bM) where
 irrefl x:=decide_eq_false (by have:bM x x=0:=j9 x.1;omega)
 trans x y z h1 h2:=by
  have h1:bM x y<0:=of_decide_eq_true h1;have h2:bM y z<0:=of_decide_eq_true h2;exact decide_eq_true (qU (Int.le_of_lt h1) h2)
 ntrans x y z h1 h2:=by
  have h1:¬bM x y<0:=of_decide_eq_false h1;have h2:¬bM y z<0:=of_decide_eq_false h2;have a1:bM y x =-bM x y:=fi x.1 y.1;have a2:bM z y =-bM y z:=fi y.1 z.1;have a3:bM z x =-bM x z:=fi x.1 z.1;have:bM z x<=0:=oK z.1 y.1 x.1 (show bM z y<=0 by omega) (show bM y x<=0 by omega);exact decide_eq_false ZG
theorem yO (fs:List Fi) (i:Nat):(fs.toArray[i]!)=fs.getD i aJ:=by
 rw[ZH,getElem!_def];simp only[List.getElem?_toArray];cases fs[i]?<;>rfl
theorem Aq (x:Fi) (j:Nat):((fF x)[j%2]!)=.string ⟨(if j%2=0 then x.1 else x.2).toArray⟩:=by
 rcases Nat.mod_two_eq_zero_or_one j with h | h<;>rw[h]<;>rfl
theorem IK {X:Nat->Prop} {w:World} {b o cap:Nat} {fs:List Fi} (h:fV X w aV b o cap (flat (fs.map dH))):HoldsK fF 2 w b o fs.toArray:=by
 obtain⟨cur,t,fz,h1,h2,h3,h4,h5⟩:=h;rw[rA]at h4;intro j hj;have hj2:j<2*fs.length:=by rw[size_flatK]at hj;simp at hj;omega
 have hlt:o+j<cur.size:=ZG;have e1:cur[o+j]?=some cur[o+j]:=Array.getElem?_eq_getElem hlt;have hv:=(h5 j _ _ e1 (vA fs j hj2)).Xh;constructor
 ·rw[get_flatK _ _ _ _ (by simpa using(by omega:j<fs.length*2)),Aq,yO]
  show w.cell? _=_
  simp only[World.cell?,h1,e1,Z6,hv];split<;>split<;>first | rfl | (simp_all;done) | skip
 ·simp only[World.frozen?,h1];have:=h2 (o+j) hlt;simpa using this
theorem Dh (w:World) (b o n:Nat) (d:Array Fi) (os:Array Obj) {j:Nat} (hj:j<w.heap.size):(sortWorldK fF 2 w b o n d os).heap[j]?=if b=j then(w.heap[j]?).map (onCells (putCells id o (flatK fF 2 d)))else w.heap[j]?:=by
 have hs:(w.heap.modify b (onCells (putCells id o (flatK fF 2 d)))).size=w.heap.size:=Array.size_modify
 show(w.heap.modify b (onCells (putCells id o (flatK fF 2 d)))++os)[j]?=_
 rw[Array.getElem?_append_left (by rw[hs];exact hj),Array.getElem?_modify]
theorem Nk {X X':Nat->Prop} {w:World} {b o cap n:Nat} {fs L:List Fi} {os:Array Obj} (h:fV X w aV b o cap (flat (fs.map dH))) (hl:L.length=fs.length) :
    fV X' (sortWorldK fF 2 w b o n L.toArray os) aV b o cap (flat (L.map dH)):=by
 obtain⟨cur,t,fz,h1,h2,h3,h4,h5⟩:=h;rw[rA]at h4;have hb:b<w.heap.size:=(Array.getElem?_eq_some_iff.1 h1).1;refine⟨putCells id o (flatK fF 2 L.toArray) cur,t,fz,?_,?_,?_,?_,?_⟩
 ·rw[Dh _ _ _ _ _ _ hb,if_pos rfl,h1];rfl
 ·intro j hj;exact h2 j (by simpa[putCells]using hj)
 ·simpa[putCells]using h3
 ·rw[rA];omega
 ·intro j v a e1 e2
  have hj:j<2*L.length:=by
   have:=(List.getElem?_eq_some_iff.1 e2).1
   rwa[rA]at this
  rw[vA L j hj]at e2;obtain rfl:=Option.some.inj e2;simp only[putCells,Array.getElem?_mapIdx]at e1;rw[Array.getElem?_eq_getElem (by omega:o+j<cur.size)]at e1;simp only[aah,Option.some.injEq]at e1;rw[if_pos ⟨ZG,by rw[size_flatK];simp;omega⟩,show o+j-o=j by omega,get_flatK _ _ _ _ (by simp;omega),Aq,yO]at e1;rw[<-e1];exact .str _ _
theorem Wz {fs:List Fi} {d':Array Fi} (h1:PermIn 0 fs.toArray.size fs.toArray d') (h2:SortedIn (ltOf bM) 0 fs.toArray.size d'):d'.toList.Perm fs/\dE d'.toList:=by
 obtain⟨hs,_,hp⟩:=h1;constructor
 ·have e1:d'.extract 0 fs.toArray.size=d':=by rw[<-hs];exact Array.extract_size
  have e2:fs.toArray.extract 0 fs.toArray.size=fs.toArray:=Array.extract_size;rw[e1,e2]at hp;simpa using hp
 ·unfold dE;rw[abT];intro i j hi hj hij;have:=h2 i j (Z7 _) hij (by rw[<-hs];simpa using hj);simp only[ltOf,decide_eq_false_iff_not]at this;rw[getElem!_pos d' i (by simpa using hi),getElem!_pos d' j (by simpa using hj)]at this;have a:=fi d'[i].1 d'[j].1;unfold bM at this |-;simp only[Array.getElem_toList];omega
theorem Ic (x y:Fi) (W:World):Calls Tryz.prog 22 #[.agg (fF x).toArray,.agg (fF y).toArray] W λe w'=>e=.returned (.int .i64 (bM x y))/\∃q os',w'=grow (W.drewN q) os':=by
 have hcon:∀W',Calls Tryz.prog 48 #[.string ⟨x.1.toArray⟩,.string ⟨y.1.toArray⟩] W' λe w'=>e=.returned (.int .i64 (bM x y))/\w'=W':=λW'=>Tryz.strings_Compare ⟨x.1.toArray⟩ ⟨y.1.toArray⟩ W';unfold fF;generalize bM x y=r at hcon |-
 go_enter Tryz.func22,Tryz.ntmps22
 go_wp2_with (go_at_call 48;refine(hcon _).mono ?_;rintro e w' ⟨rfl,rfl⟩)
 go_ret
 exact⟨rfl,0,_,by rw[alloc_eq_grow,alloc_eq_grow,grow_grow];rfl⟩
abbrev oP:Value:=.func (.func 22) #[] #[]
def fy (s id:Nat) (z:Int) (fs:List Fi):HP:=[(s,.var [.sl id 0 fs.length,.int .i64 z]),(id,.arr 2 (aQ fs))]
theorem tp {s id:Nat} {z:Int} {fs:List Fi} {i:Nat} {W:aC} (h:hget (fy s id z fs) i=some W):(i=s/\W=.var [.sl id 0 fs.length,.int .i64 z])\/(i≠s/\i=id/\W=.arr 2 (aQ fs)):=by
 simp only[fy,hget]at h;split at h
 ·rename_i e;exact .inl ⟨e,(Option.some.inj h).symm⟩
 ·split at h
  ·rename_i e0 e;exact .inr ⟨e0,e,(Option.some.inj h).symm⟩
  ·cases h
theorem qe (s id:Nat) (z:Int) (fs:List Fi):hget (fy s id z fs) s=some (.var [.sl id 0 fs.length,.int .i64 z]):=by simp[fy,hget]
theorem nW {s id:Nat} (hne:id≠s) (z:Int) (fs:List Fi):hget (fy s id z fs) id=some (.arr 2 (aQ fs)):=by simp[fy,hget,hne]
theorem D9 {s id:Nat} (hne:id≠s) {z:Int} {fs L:List Fi} {ρ:Eng.Loc} {b:Nat} (h:aF ρ (fy s id z L) b):aF ρ (fy s id z fs) b:=by
 obtain⟨i,W,M,q1,q2,q3⟩:=h;rcases tp q1 with⟨rfl,rfl⟩ | ⟨_,rfl,rfl⟩;exact⟨i,_,M,qe _ _ _ _,q2,q3⟩;exact⟨i,_,M,nW hne _ _,q2,q3⟩
set_option maxHeartbeats 1000000 in
theorem WA (s id:Nat) (z:Int) (fs:List Fi) (hne:id≠s) (hl:fs.length<=100000):jv Tryz.prog 21 2 (fy s id z fs) [.sl id 0 fs.length,.lit oP,.aa s 0]
    (λh r ar=>∃L:List Fi,L.Perm fs/\dE L/\h=fy s id z L/\r=.ab []/\ar=[.sl id 0 L.length,.lit oP,.aa s 0]):=by
 intro X0 ρ w vs hH hA hX hn hargs
 obtain⟨v0,v1,v2,rfl⟩:∃v0 v1 v2,vs=#[v0,v1,v2]:=by
  rcases vs with⟨l⟩
  match l,hn with
  | [a,b,c],_=>exact⟨a,b,c,rfl⟩
 have a0:=hargs 0 v0 _ rfl rfl;have a1:=(hargs 1 v1 _ rfl rfl).QI;have a2:=hargs 2 v2 _ rfl rfl;subst a1;obtain⟨M,hM,hW⟩:=hH.win id _ (nW hne _ _);have hex:(#[v0,oP,v2]:Array Value).extract 0 2=#[v0,oP]:=rfl;rw[hex]
 cases a0 with
 | sl _ _ _ _ c M' A hM' g1 g2 g3 hA'=>
  obtain rfl:M'=M:=Option.some.inj (hM'.symm.trans hM);obtain⟨w1,w2,w3,w4,w5⟩:=hW;by_cases hfe:fs=[]
  ·subst hfe;refine(AnyF.slices_SortFunc_none Tryz.laysF6 A c _ w).mono ?_;rintro e w' ⟨rfl,rfl⟩;exact⟨.tuple #[],_,.ab [],ρ,_,rfl,⟨[],.refl _,.nil,rfl,rfl,rfl⟩,hH,.ab _ #[] [] rfl (λj v x h=>by simp at h),rfl,hargs,rfl,rfl,rfl,ZM _,λ_ _ _=>rfl,λb hb=>.inr hb⟩
  ·have hpos:0<fs.length:=aby.2 hfe
   cases hb:M'.b with
   | none=>
    rw[hb]at w5;simp only at w5
    omega
   | some b=>
    rw[hb]at w5;simp only at w5
    have hA2:A=some ⟨b,M'.o,none⟩:=by
     rcases hA' with h | h;omega
     ·rw[h,hb];simp
    subst hA2
    have hbs:b<w.heap.size:=by
     obtain⟨cur,t,fz,h1,_⟩:=w5;exact(Array.getElem?_eq_some_iff.1 h1).1
    have e0:fs.length=fs.toArray.size:=by simp
    have key:=AnyQ.slices_SortFunc Tryz.laysF6 2 Tryz.isAgg63 Tryz.sizeOf63 fF (λ_=>rfl) (λx v hv=>by simp[fF]at hv;rcases hv with rfl | rfl<;>rfl) bM Xw 22 #[] b M'.o c fs.toArray w
     (enters_of Tryz.func22 (by kernel_rfl) rfl) (λ_ _ _ _ x y=>Ic x y _) (IK w5) hbs (by simp;omega)
    rw[<-e0]at key;refine Calls.mono key ?_;rintro e w' ⟨rfl,d',n,os,hp,hs,rfl⟩;rw[e0]at hp hs;obtain⟨p1,p2⟩:=Wz hp hs;obtain⟨L,hL⟩:∃L,L=d'.toList:=⟨_,rfl⟩;obtain rfl:d'=L.toArray:=by rw[hL]
    rw[<-hL]at p1 p2;have hlen:L.length=fs.length:=p1.length_eq;have hme:aF ρ (fy s id z fs) b:=⟨id,_,M',nW hne _ _,hM,hb⟩;have hkeep:∀b',b'<w.heap.size->b≠b'->(sortWorldK fF 2 w b M'.o n L.toArray os).heap[b']?=w.heap[b']?:=λb' h1 h2=>by rw[Dh _ _ _ _ _ _ h1,if_neg h2]
    have mono:∀{v:Value} {a:AV},RV (XX X0 ρ (fy s id z fs)) w ρ v a->RV (XX X0 ρ (fy s id z L)) (sortWorldK fF 2 w b M'.o n L.toArray os) ρ v a:=λh=>
     h.mono (λb' h1 h2=>hkeep b' h2 (λe=>h1 (e▸.inr hme))) (λb' _ h1 h2=>h1 (h2.imp (λh=>h) (λh=>D9 hne h))) ρ (λ_ _ h=>h)
    refine⟨.tuple #[],fy s id z L,.ab [],ρ,[.sl id 0 L.length,.lit oP,.aa s 0],rfl,⟨L,p1,p2,rfl,rfl,rfl⟩,⟨?_,?_,?_⟩,.ab _ #[] [] rfl (λj v x h=>by simp at h),rfl,?_,rfl,rfl,rfl,?_,?_,?_⟩
    ·intro i W' h;rcases tp h with⟨rfl,rfl⟩ | ⟨_,rfl,rfl⟩
     ·obtain⟨L1,q1,b1,q2,cur,t,fz,c1,c2,c3,c4,c5⟩:=hH.win i _ (qe _ _ _ _);have hbb:b≠b1:=λe=>hne (hH.cd id i _ _ _ _ b (nW hne _ _) (qe _ _ _ _) hM q1 hb (by rw[q2,e]));refine⟨L1,q1,b1,q2,cur,t,fz,?_,c2,c3,c4,?_⟩
      ·rw[hkeep b1 (Array.getElem?_eq_some_iff.1 c1).1 hbb];exact c1
      ·intro j v a e1 e2;rw[hlen]at e2;exact mono (c5 j v a e1 e2)
     ·refine⟨M',hM,w1,?_,w3,?_,?_⟩
      ·rw[w2,bD,bD,hlen]
      ·intro x hx;obtain⟨f,_,rfl⟩:=aaL.1 hx;rfl
      ·rw[hb];exact Nk w5 hlen
    ·intro i j W1 W2 L1 L2 bb q1 q2 q3 q4 q5 q6
     have conv:∀{i W},hget (fy s id z L) i=some W->∃W',hget (fy s id z fs) i=some W':=by
      intro i W h;rcases tp h with⟨rfl,_⟩ | ⟨_,rfl,_⟩;exact⟨_,qe _ _ _ _⟩;exact⟨_,nW hne _ _⟩
     obtain⟨W1',k1⟩:=conv q1
     obtain⟨W2',k2⟩:=conv q2
     exact hH.cd i j W1' W2' L1 L2 bb k1 k2 q3 q4 q5 q6
    ·intro i W' L' bb q1 q2 q3;rcases tp q1 with⟨rfl,rfl⟩ | ⟨_,rfl,rfl⟩;exact hH.out i _ L' bb (qe _ _ _ _) q2 q3;exact hH.out i _ L' bb (nW hne _ _) q2 q3
    ·intro j v x q1 q2
     match j,q1,q2 with
     | 0,q1,q2=>
      simp at q1 q2;subst q1 q2;rw[hlen]
      exact .sl _ _ _ _ c M' _ hM g1 g2 g3 hA'
     | 1,q1,q2=>
      simp at q1 q2;subst q1 q2
      exact .lit _ _
     | 2,q1,q2=>
      simp at q1 q2;subst q1 q2
      exact mono a2
     | j+3,q1,q2=>simp at q1
    exact size_sortWorldK_c fF 2 w b M'.o n L.toArray os;exact λb' hb' hno=>hkeep b' hb' (λe=>hno (e▸hme));exact λb' h=>.inr (D9 hne h)
end Go.Proofs.YtkdjbebgdoohjaaGreatDoor.Ls
