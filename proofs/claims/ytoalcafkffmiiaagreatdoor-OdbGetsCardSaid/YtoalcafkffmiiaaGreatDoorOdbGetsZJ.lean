/- The proof, part 36 of 43. -/
import Derived.Test.YtoalcafkffmiiaaGreatDoorOdbGetsN
import Derived.Test.YtoalcafkffmiiaaGreatDoorOdbGetsR
import Derived.Shelf.Sort.Plain
import Derived.Shelf.Slices.In.SortNone
import Derived.Shelf.Slices.CompactS
set_option linter.all false
namespace Go.Proofs.YtoalcafkffmiiaaGreatDoor.Ls
open Eng Go.Sort Go.RowKit Go.Shelf
set_option maxRecDepth 10000
theorem wS (l:List Bs):flat (au l)=au l:=by
 unfold flat au;rw[List.flatMap_map]
 induction l with
 | nil=>rfl
 | cons x r ih=>rw[aey,ih];rfl
theorem Gq {l:List Bs} {j:Nat} (h:j<l.length):(au l)[j]?=some (.str (l.getD j [])):=by
 unfold au;rw[List.getElem?_map,List.getElem?_eq_getElem h,acO,List.getElem?_eq_getElem h];rfl
theorem Ae (l:List Bs) (i:Nat):(l.toArray[i]!)=l.getD i []:=by
 rw[acO,getElem!_def];simp only[List.getElem?_toArray];cases l[i]?<;>rfl
theorem aaH {X:Nat->Prop} {w:World} {b o cap:Nat} {l:List Bs} (h:fR X w ba b o cap (flat (au l))):Holds encStr w b o l.toArray:=by
 obtain⟨cur,t,fz,h1,h2,h3,h4,h5⟩:=h;rw[wS]at h4 h5;rw[aZ]at h4;intro j hj;have hj2:j<l.length:=by simpa using hj
 have hlt:o+j<cur.size:=acN;have e1:cur[o+j]?=some cur[o+j]:=Array.getElem?_eq_getElem hlt;have hv:=(h5 j _ _ e1 (Gq hj2)).Gm;constructor
 ·rw[Ae];simp only[World.cell?,h1,e1,adf,hv];rfl
 ·simp only[World.frozen?,h1];have:=h2 (o+j) hlt;simpa using this
theorem ES (w:World) (b o n:Nat) (d:Array Bs) (os:Array Obj) {j:Nat} (hj:j<w.heap.size):(grow (putRow encStr (Sort.ahead w n) b o d) os).heap[j]?=if b=j then(w.heap[j]?).map (onCells (putCells encStr o d))else w.heap[j]?:=by
 have hs:(w.heap.modify b (onCells (putCells encStr o d))).size=w.heap.size:=aft
 show(w.heap.modify b (onCells (putCells encStr o d))++os)[j]?=_
 rw[Array.getElem?_append_left (by rw[hs];exact hj),Array.getElem?_modify]
theorem VZ (w:World) (b o n:Nat) (d:Array Bs) (os:Array Obj):w.heap.size<=(grow (putRow encStr (Sort.ahead w n) b o d) os).heap.size:=by
 have hs:(w.heap.modify b (onCells (putCells encStr o d))).size=w.heap.size:=aft
 show w.heap.size<=(w.heap.modify b (onCells (putCells encStr o d))++os).size
 rw[Array.size_append,hs];omega
theorem Pc {X X':Nat->Prop} {w:World} {b o cap n:Nat} {l L:List Bs} {os:Array Obj} (h:fR X w ba b o cap (flat (au l))) (hl:L.length=l.length) :
    fR X' (grow (putRow encStr (Sort.ahead w n) b o L.toArray) os) ba b o cap (flat (au L)):=by
 obtain⟨cur,t,fz,h1,h2,h3,h4,h5⟩:=h;rw[wS,aZ]at h4;have hb:b<w.heap.size:=(Array.getElem?_eq_some_iff.1 h1).1;rw[wS];refine⟨putCells encStr o L.toArray cur,t,fz,?_,?_,?_,?_,?_⟩
 ·rw[ES _ _ _ _ _ _ hb,if_pos rfl,h1];rfl
 ·intro j hj;exact h2 j (by simpa[putCells]using hj)
 ·simpa[putCells]using h3
 ·rw[aZ];omega
 ·intro j v a e1 e2
  have hj:j<L.length:=by
   have:=(List.getElem?_eq_some_iff.1 e2).1
   rwa[aZ]at this
  rw[Gq hj]at e2;obtain rfl:=Option.some.inj e2;simp only[putCells,Array.getElem?_mapIdx]at e1;rw[Array.getElem?_eq_getElem (by omega:o+j<cur.size)]at e1;simp only[adm,Option.some.injEq]at e1;rw[if_pos ⟨acN,by simp;omega⟩,show o+j-o=j by omega,Ae]at e1;rw[<-e1];exact .str _ _
theorem OI (w:World):grow w #[]=w:=by cases w;simp[grow]
theorem FE {P:Program} {f:Nat} (id:Nat) (l L:List Bs) (R:AV) (rv:Addr->Nat->Value) (hlen:L.length=l.length)
    (hc0:l=[]->∀A cap w,Calls P f #[.slice A 0 cap] w λe w'=>(∃v,e=.returned v/\((R=.af []/\v=.tuple #[])\/(R=.sl id 0 0/\v=.slice A 0 cap)))/\w'=w)
    (hc:∀b o cap w,Holds encStr w b o l.toArray->b<w.heap.size->l.length<=cap->Calls P f #[.slice (some ⟨b,o,none⟩) l.length cap] w λe w'=>e=.returned (rv ⟨b,o,none⟩ cap)/\∃n os,w'=grow (putRow encStr (Sort.ahead w n) b o L.toArray) os)
    (hr:(R=.af []/\∀a c,rv a c=.tuple #[])\/∃k,k<=l.length/\R=.sl id 0 k/\∀a c,rv a c=.slice (some a) k c) :
    jm P f 1 [(id,.arr 1 (au l))] [.sl id 0 l.length,.sl id 0 l.length] (λh r ar=>h=[(id,.arr 1 (au L))]/\r=R/\ar=[.sl id 0 l.length,.sl id 0 l.length]):=by
 intro X0 ρ w vs hH hA hX hn hargs
 obtain⟨v0,v1,rfl⟩:∃v0 v1,vs=#[v0,v1]:=by
  rcases vs with⟨q⟩
  match q,hn with
  | [a,b],_=>exact⟨a,b,rfl⟩
 have a0:=hargs 0 v0 _ rfl rfl;have a1:=hargs 1 v1 _ rfl rfl;have hex:(#[v0,v1]:Array Value).extract 0 1=#[v0]:=rfl;rw[hex];obtain⟨M,hM,hW⟩:=hH.win id (.arr 1 (au l)) (by simp only[hget,if_true]);have hg0:∀l0:List Bs,hget [(id,aG.arr 1 (au l0))] id=some (.arr 1 (au l0)):=λl0=>by simp only[hget,if_true]
 have hwin:∀{l0:List Bs} {i:Nat} {W':aG},hget [(id,aG.arr 1 (au l0))] i=some W'->i=id/\W'=.arr 1 (au l0):=by
  intro l0 i W' h;simp only[hget]at h;split at h
  ·rename_i e;exact⟨e,(Option.some.inj h).symm⟩
  ·cases h
 cases a0 with
 | sl _ _ _ _ c M' A hM' g1 g2 g3 hA'=>
  obtain rfl:M'=M:=Option.some.inj (hM'.symm.trans hM);obtain⟨w1,w2,w3,w4,w5⟩:=hW;by_cases hfe:l=[]
  ·subst hfe;obtain rfl:L=[]:=adV hlen;refine(hc0 rfl A c w).mono ?_;rintro e w' ⟨⟨v,rfl,hv⟩,rfl⟩;refine⟨v,_,R,ρ,_,rfl,⟨rfl,rfl,rfl⟩,hH,?_,rfl,hargs,rfl,rfl,rfl,acT _,λ_ _ _=>rfl,λb hb=>.inr hb⟩;rcases hv with⟨rfl,rfl⟩ | ⟨rfl,rfl⟩;exact .af _ #[] [] rfl (λj v x h=>by simp at h);exact .sl _ _ _ _ c M' A hM g1 g2 g3 hA'
  ·have hpos:0<l.length:=ad4.2 hfe
   cases hb:M'.b with
   | none=>
    rw[hb]at w5;simp only at w5
    omega
   | some b=>
    rw[hb]at w5;simp only[adK]at w5
    have hA2:A=some ⟨b,M'.o,none⟩:=by
     rcases hA' with h | h;omega
     ·rw[h,hb];simp
    have hbs:b<w.heap.size:=by
     obtain⟨cur,t,fz,h1,_⟩:=w5;exact(Array.getElem?_eq_some_iff.1 h1).1
    have key:=hc b M'.o c w (aaH w5) hbs g2;rw[<-hA2]at key;refine key.mono ?_;rintro e w' ⟨rfl,n,os,rfl⟩;have hme:aW ρ [(id,aG.arr 1 (au l))] b:=⟨id,_,M',hg0 l,hM,hb⟩
    have hown:∀{b':Nat},aW ρ [(id,aG.arr 1 (au L))] b'->aW ρ [(id,aG.arr 1 (au l))] b':=by
     rintro b' ⟨i,W',L',q1,q2,q3⟩;obtain⟨rfl,rfl⟩:=hwin q1;exact⟨i,_,L',hg0 l,q2,q3⟩
    have hkeep:∀b',b'<w.heap.size->b≠b'->(grow (putRow encStr (Sort.ahead w n) b M'.o L.toArray) os).heap[b']?=w.heap[b']?:=λb' h1 h2=>by rw[ES _ _ _ _ _ _ h1,if_neg h2]
    refine⟨_,[(id,.arr 1 (au L))],R,ρ,[.sl id 0 l.length,.sl id 0 l.length],rfl,⟨rfl,rfl,rfl⟩,⟨?_,?_,?_⟩,?_,rfl,?_,rfl,rfl,rfl,?_,?_,?_⟩
    ·intro i W' h;obtain⟨rfl,rfl⟩:=hwin h;refine⟨M',hM,w1,?_,w3,?_,?_⟩
     ·rw[w2,aZ,aZ,hlen]
     ·intro x hx;obtain⟨f,_,rfl⟩:=adN.1 hx;rfl
     ·rw[hb];simp only[adK];exact Pc w5 hlen
    ·intro i j W1 W2 L1 L2 bb q1 q2 _ _ _ _;rw[(hwin q1).1,(hwin q2).1]
    ·intro i W' L' bb q1 q2 q3;obtain⟨rfl,rfl⟩:=hwin q1;exact hH.out i _ L' bb (hg0 l) q2 q3
    ·rcases hr with⟨rfl,h⟩ | ⟨k,hk,rfl,h⟩
     ·rw[h];exact .af _ #[] [] rfl (λj v x h=>by simp at h)
     ·rw[h];exact .sl _ _ _ _ c M' _ hM acN acN g3 (.inr (by rw[hb];simp))
    ·intro j v x q1 q2
     match j,q1,q2 with
     | 0,q1,q2=>
      simp at q1 q2;subst q1 q2
      exact .sl _ _ _ _ c M' A hM g1 g2 g3 hA'
     | 1,q1,q2=>
      simp at q1 q2;subst q1 q2
      cases a1 with
      | sl _ _ _ _ c2 M2 A2 hM2 k1 k2 k3 kA=>exact .sl _ _ _ _ c2 M2 A2 hM2 k1 k2 k3 kA
     | j+2,q1,q2=>simp at q1
    exact VZ w b M'.o n L.toArray os;exact λb' hb' hno=>hkeep b' hb' (λe=>hno (e▸hme));exact λb' h=>.inr (hown h)
abbrev sortL (l:List Bs):List Bs:=l.mergeSort λx y=>decide (x<=y)
theorem ZT (id:Nat) (l:List Bs) (hl:l.length<=1000000):jm Tryz.prog 42 1 [(id,.arr 1 (au l))] [.sl id 0 l.length,.sl id 0 l.length] (λh r ar=>h=[(id,.arr 1 (au (sortL l)))]/\r=.af []/\ar=[.sl id 0 l.length,.sl id 0 l.length]):=
 FE id l (sortL l) (.af []) (λ_ _=>.tuple #[]) (aeP l)
  (λ_ A cap w=>(Any.slices_Sort_string_none Tryz.lays190 A cap w).mono λe w' ⟨h1,h2⟩=>⟨⟨_,h1,.inl ⟨rfl,rfl⟩⟩,h2⟩)
  (λb o cap w hH hb _=>Any.slices_Sort_string Tryz.lays190 b o cap l w hH hb acN) (.inl ⟨rfl,λ_ _=>rfl⟩)
def je (l:List Bs):List Bs:=Lib.compact l++List.replicate (l.length-(Lib.compact l).length) []
theorem ZS (id:Nat) (l:List Bs) (hl:l.length<=1000000) (hcl:(Lib.compact l).length<=l.length):jm Tryz.prog 43 1 [(id,.arr 1 (au l))] [.sl id 0 l.length,.sl id 0 l.length] (λh r ar=>h=[(id,.arr 1 (au (je l)))]/\r=.sl id 0 (Lib.compact l).length/\ar=[.sl id 0 l.length,.sl id 0 l.length]):=
 FE id l (je l) (.sl id 0 (Lib.compact l).length) (λa c=>.slice (some a) (Lib.compact l).length c) (by unfold je;rw[acQ,adh];omega)
  (λh A cap w=>by subst h;exact(Any.slices_Compact_string_empty Tryz.lays194 A cap w).mono λe w' ⟨h1,h2⟩=>⟨⟨_,h1,.inr ⟨rfl,rfl⟩⟩,h2⟩)
  (λb o cap w hH hb hc=>(Any.slices_Compact_string Tryz.lays194 b o cap l w hH acN hc).mono λe w' ⟨h1,n,h2⟩=>⟨h1,n,#[],by rw[h2,OI];rfl⟩) (.inr ⟨_,hcl,rfl,λ_ _=>rfl⟩)
end Go.Proofs.YtoalcafkffmiiaaGreatDoor.Ls
