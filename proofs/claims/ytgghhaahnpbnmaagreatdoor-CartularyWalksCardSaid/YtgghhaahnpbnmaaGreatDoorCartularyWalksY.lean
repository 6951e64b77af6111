/- The proof, part 25 of 51. -/
import Derived.Test.YtgghhaahnpbnmaaGreatDoorCartularyWalksX
import Derived.Shelf.RegionOpenPlain
import Derived.WalkKit
import Derived.Deep.LoopGhost
import Derived.Lib.Walk
import Derived.Lib.SliceRun
import Derived.Shelf.SlSortCmp.NoneTotal
set_option linter.all false
namespace Go.Proofs.YtgghhaahnpbnmaaGreatDoor.Ls
open Eng Go.RowKit
set_option maxRecDepth 10000
def mJ (r:Nat):Bool:=decide (r<32)||decide (126<r)
theorem Ll (w:World):PredAt Tryz.prog 66 #[] encR mJ w:=λW r _=>by
 unfold FnGives mJ;by_cases h1:r<32<;>by_cases h2:126<r
 all_goals
  have z1:(r:Int)<32↔r<32:=acB;have z2:(126:Int)<(r:Int)↔126<r:=acB
  go_enter Tryz.func66,Tryz.ntmps66
  go_wp2
  all_goals first | (exfalso;omega) | (go_ret;exact⟨by simp[h1,h2],0,rfl⟩)
def sM (s:Bs):Bool:=decide (0<=Lib.idxFunc mJ true ⟨s.toArray⟩)
abbrev LV:Value:=.func (.func 66) #[] #[]
theorem LD (s:Bs):aw Tryz.prog 65 [.str s,.lit LV] (.bool (sM s)):=
 y7 rfl rfl (λw=>Tryz.strings_ContainsFunc 66 #[] (enters_of Tryz.func66 (by kernel_rfl) rfl) mJ ⟨s.toArray⟩ w (Ll w))
def l3 (p:Bs):Bool:=decide (p=[]\/p=[46]\/p=[46,46])
def gW (s:Bs):Bool:=decide (s.length<=200)&&(splitB 47 s).all (λp=>!l3 p)&&!sM s
theorem Em {α:Type} {p:α->Bool} {l:List α} {x:α} (h:x∈l) (hp:p x=false):l.all p=false:=by
 rw[Bool.eq_false_iff];intro h';rw[acI.1 h' x h]at hp;cases hp
set_option maxHeartbeats 1000000 in
theorem Lm (s:Bs) (hs:s.length<=9223372036854775807):aw Tryz.prog 30 [.str s] (.bool (gW s)):=by
 refine Cod.Ln (λE R hN hrd hR=>?_);by_cases hl:s.length<=200;rotate_left
 ·have hi:(200:Int)<(s.length:Int):=acB;refine ah hi ?_;exact hR.wk (h':=[]) (r':=.bool false) (ar':=[.undef]) rfl (.le vV) ⟨rfl,by simp[gW,hl]⟩
 have hi:¬(200:Int)<(s.length:Int):=acB;refine ah hi ?_;refine ZE hN hrd Sv.ZD (by decide) (s:=s) vV hs [(0,.str s),(2,.aa 202002 0)] (λ_:Unit=>[(202002,.var [.bool false])]) (λk _=>((splitB 47 s).take k).all (λp=>!l3 p)=true) () (.le vV) (by simp) rfl rfl ?_ ?_
 ·rintro E2 k _ R2 hN2 hinv hk hn hr hx;have hwm:=dL [] hk;have htk:=dS [] (splitB 47 s) hk;obtain⟨w,hw⟩:∃w,w=(splitB 47 s).getD k []:=⟨_,rfl⟩;rw[<-hw]at hwm htk;rw[<-hw]
  have bad:∀st',Wk st' ⟨ghost [(0,.str s),(2,.aa 202002 0)],[(202002,.var [.bool false])]⟩->l3 w=true->R2.ap .ret st':=by
   intro st' hwk hno;refine hr st' _ hwk ?_;refine wW ?_;exact hR.wk (h':=[]) (r':=.bool false) (ar':=[.undef]) rfl (.le vV) ⟨rfl,by rw[gW,Em hwm (by rw[hno];rfl)];simp⟩
  by_cases h1:w=[]
  ·subst h1;refine wW ?_;refine gG ?_;exact bad _ (.le vV) rfl
  ·by_cases h2:w=[46]
   ·subst h2;refine wW ?_;refine gG ?_;exact bad _ (.le vV) rfl
   ·by_cases h3:w=[46,46]
    ·subst h3;refine wW ?_;refine gG ?_;exact bad _ (.le vV) rfl
    ·have hp:l3 w=false:=decide_eq_false (by simp[h1,h2,h3]);refine cI h1 h2 h3 ?_;refine lP h1 h2 h3 ?_;exact hn () _ (by rw[htk,aet,hinv];simp[hp]) (.le vV)
 ·rintro _ hall;rw[acF (acG _)]at hall;refine wW ?_;refine aj (LD s) rfl rfl ?_;refine wW ?_;exact hR.wk (h':=[]) (r':=.bool (gW s)) (ar':=[.undef]) rfl (.le (by unfold gW;rw[hall,decide_eq_true hl];exact vV)) ⟨rfl,rfl⟩
open Eng Go.RowKit Go.Shelf Go.Lib
set_option maxRecDepth 10000
theorem N2:∃i0,Tryz.prog.info? 44=some i0/\i0.zero=some (.agg #[.string ⟨#[]⟩,.string ⟨#[]⟩])/\i0.size=2/\i0.bytes=32:=by
 have h:(Tryz.prog.info? 44).map (λi=>(i.zero,i.size,i.bytes))=some (some (.agg #[.string ⟨#[]⟩,.string ⟨#[]⟩]),2,32):=by kernel_rfl
 obtain⟨i,h1,h2⟩:=acE.1 h;simp only[Prod.mk.injEq]at h2;exact⟨i,h1,h2.1,h2.2.1,h2.2.2⟩
set_option maxHeartbeats 2000000 in
theorem Lq (A:Option Addr) (c:Nat) (w:World):Calls Tryz.prog 27 #[.slice A 0 c] w λe w'=>∃v',e=.returned v'/\w'.ownsRow w.heap.size 44 2 v' 0 []/\Below w.heap.size w w':=by
 have q22:∀(w:World) (a:Option Addr) (n c n' c':Nat),(binOp .eql 32 (.slice a n c) (.slice none n' c')).run Tryz.prog w=.ok (.bool a.isNone) w:=λw a n c n' c'=>Lib.run_eql_slice_nil w _ _ a n c n' c' Tryz.underlying32;have u22:∀w,Sem.run Tryz.prog (underlying 32) w=.ok (TypeDesc.slice 44) w:=run_underlying Tryz.underlying32;obtain⟨i0,hi,hz0,hz1,hz2⟩:=N2
 cases A with
 | none=>
  go_enter Tryz.func27,Tryz.ntmps27
  go_wp2
  go_ret
  exact⟨_,rfl,⟨rfl,.inl ⟨rfl,rfl⟩⟩,.refl _ _⟩
 | some ad=>
  go_enter Tryz.func27,Tryz.ntmps27
  go_wp2_with (at_builtin;refine wpList_append_own _ rfl _ _ 32 rfl w.heap.size 44 i0 _ 2 32 Tryz.underlying32 hi hz0 hz1 hz2 rfl (by decide) _ _ _ rfl (World.ownsRow_made w #[] 0 (acG _) (ac5 _) (by simp)) ad 0 c [] rfl ?qc1 ?qc2 ?qc3 ?qc4 ?qc5 ?qc6 ?_)
  case qc1=>rfl
  case qc2=>intro j u hj;simp at hj
  case qc3=>intro u hu;simp at hu
  case qc4=>unfold maxLen;omega
  case qc5=>omega
  case qc6=>simp
  intro v' w1 hown hgrow hnil
  go_wp2
  go_ret
  exact⟨v',rfl,by simpa using hown,((Below.refl _ w).alloc (acG _) _).grown hgrow (by simp) (by intro k hk;simp[Value.ownBlock]at hk;omega)⟩
abbrev wI (fs:List Fi):HP->AV->List AV->Prop:=λh r ar=>h=[(200005,.arr 2 (bK fs))]/\r=.sl 200005 0 fs.length/\ar=[.undef]
theorem Lr:Eng.Spec Tryz.prog 27 [] [.ro 2 (bK [])] (wI []):=by
 intro X0 ρ w vs hH hA hX hn hargs
 obtain⟨v0,rfl⟩:∃v0,vs=#[v0]:=by
  rcases vs with⟨l⟩
  match l,hn with
  | [a],_=>exact⟨a,rfl⟩
 have a0:=hargs 0 v0 _ rfl rfl
 obtain⟨A,c,rfl⟩:∃A c,v0=.slice A 0 c:=by
  cases a0 with
  | ro _ A c sz es vs hc au hlen hcell hrel=>exact⟨A,c,rfl⟩
 refine(Lq A c w).mono ?_;rintro e w' ⟨v',rfl,⟨_,hv⟩,hb⟩
 have fin:∀M:LW,M.sz=2->M.fh=0->(match M.b with
     | none=>M.cap=0
     | some b=>w.heap.size<=b/\gr (XX X0 (bu aW 200005 M) [(200005,.arr 2 [])]) w' aW b M.o (M.cap*2) [])->RV (XX X0 (bu aW 200005 M) [(200005,.arr 2 [])]) w' (bu aW 200005 M) v' (.sl 200005 0 0) ->
     ∃v h' r ρ' ar,Ending.returned v'=.returned v/\wI [] h' r ar/\cD X0 ρ' h' w'/\RV (XX X0 ρ' h') w' ρ' v r/\ar.length=[AV.ro 2 (bK [])].length/\(∀(j:Nat) v x,(#[Value.slice A 0 c]:Array Value)[j]?=some v->ar[j]?=some x->RV (XX X0 ρ' h') w' ρ' v x) /\
      w'.os=w.os/\w'.tape=w.tape/\w'.output=w.output/\w.heap.size<=w'.heap.size/\(∀b,b<w.heap.size->¬aE ρ [] b->w'.heap[b]?=w.heap[b]?)/\(∀b,aE ρ' h' b->w.heap.size<=b\/aE ρ [] b):=by
  intro M m1 m2 m3 m4;have hu:bu aW 200005 M 200005=some M:=by simp[bu]
  have hg:∀{i:Nat} {W:aC},hget [(200005,aC.arr 2 [])] i=some W->i=200005/\W=.arr 2 []:=by
   intro i W h;simp only[hget]at h;split at h
   ·rename_i e;exact⟨e,(Option.some.inj h).symm⟩
   ·cases h
  refine⟨v',[(200005,.arr 2 [])],.sl 200005 0 0,bu aW 200005 M,[.undef],rfl,⟨rfl,rfl,rfl⟩,⟨?_,?_,?_⟩,m4,rfl,?_,hb.os,hb.tape,hb.output,hb.size,λb h _=>hb.block b h,?_⟩
  ·intro i W h;obtain⟨rfl,rfl⟩:=hg h;refine⟨M,hu,m1,by rw[m2];rfl,acB,by simp,?_⟩
   cases hMb:M.b with
   | none=>rw[hMb]at m3;exact m3
   | some b=>rw[hMb]at m3;exact m3.2
  ·intro i j W1 W2 L1 L2 b q1 q2 _ _ _ _;rw[(hg q1).1,(hg q2).1]
  ·intro i W L b q1 q2 q3 hx;obtain⟨rfl,rfl⟩:=hg q1;obtain rfl:=Option.some.inj (hu.symm.trans q2);rw[q3]at m3;have:=hX b hx;omega
  ·intro j v x q1 q2
   match j,q2 with
   | 0,q2=>simp at q2;subst q2;exact .undef _ _
   | j+1,q2=>simp at q2
  ·rintro b ⟨i,W,L,q1,q2,q3⟩;obtain⟨rfl,rfl⟩:=hg q1;obtain rfl:=Option.some.inj (hu.symm.trans q2);rw[q3]at m3;exact .inl m3.1
 rcases hv with⟨rfl,_⟩ | ⟨g,cap,cur,rfl,h1,h2,h3,h4,h5,h6⟩;exact fin ⟨none,0,2,0,0⟩ rfl rfl rfl (.sl _ _ _ _ _ ⟨none,0,2,0,0⟩ _ (by simp[bu]) (by simp) (by simp) (by simp) (.inl rfl));exact fin ⟨some g,0,2,0,cap⟩ rfl rfl ⟨h1,cur,_,(0,0),h2,by intro j _;omega,by simp;omega,by simp,λj v a _ h=>by simp at h⟩ (.sl _ _ _ _ _ ⟨some g,0,2,0,cap⟩ _ (by simp[bu]) (by simp) (by simp) (by simp) (.inr (by simp)))
theorem Lt (fs:List Fi) (hl:fs.length<=100000):Eng.Spec Tryz.prog 27 [] [.ro 2 (bK fs)] (wI fs):=by
 by_cases hf:fs=[]
 ·subst hf;exact Lr
 have hpos:0<fs.length:=aeD.2 hf;refine Cod.Lu (λE R hN hR=>?_);refine ah @cF ?_;exact⟨⟨td,acB⟩,hR.wk (h':=[(200005,.arr 2 (bK fs))]) (r':=.sl 200005 0 fs.length) (ar':=[.undef]) rfl (.le vV) ⟨rfl,rfl,rfl⟩⟩
open Eng Go.Sort Go.RowKit Go.Shelf
set_option maxRecDepth 10000
def fT (x:Fi):List Value:=[.string ⟨x.1.toArray⟩,.string ⟨x.2.toArray⟩]
instance:Inhabited Fi:=⟨bc⟩
theorem aaj:SWO (ltOf b5) where
 irrefl x:=decide_eq_false (by have:b5 x x=0:=p4 x.1;omega)
 trans x y z h1 h2:=by
  have h1:b5 x y<0:=of_decide_eq_true h1;have h2:b5 y z<0:=of_decide_eq_true h2;exact decide_eq_true (Bc (Int.le_of_lt h1) h2)
 ntrans x y z h1 h2:=by
  have h1:¬b5 x y<0:=of_decide_eq_false h1;have h2:¬b5 y z<0:=of_decide_eq_false h2;have a1:b5 y x =-b5 x y:=mG x.1 y.1;have a2:b5 z y =-b5 y z:=mG y.1 z.1;have a3:b5 z x =-b5 x z:=mG x.1 z.1;have:b5 z x<=0:=sB z.1 y.1 x.1 (show b5 z y<=0 by omega) (show b5 y x<=0 by omega);exact decide_eq_false acB
theorem Ai (fs:List Fi) (i:Nat):(fs.toArray[i]!)=fs.getD i bc:=by
 rw[acC,getElem!_def];simp only[List.getElem?_toArray];cases fs[i]?<;>rfl
theorem B5 (x:Fi) (j:Nat):((fT x)[j%2]!)=.string ⟨(if j%2=0 then x.1 else x.2).toArray⟩:=by
 rcases Nat.mod_two_eq_zero_or_one j with h | h<;>rw[h]<;>rfl
theorem K2 {X:Nat->Prop} {w:World} {b o cap:Nat} {fs:List Fi} (h:gr X w aW b o cap (flat (fs.map eF))):HoldsK fT 2 w b o fs.toArray:=by
 obtain⟨cur,t,fz,h1,h2,h3,h4,h5⟩:=h;rw[tk]at h4;intro j hj;have hj2:j<2*fs.length:=by rw[size_flatK]at hj;simp at hj;omega
 have hlt:o+j<cur.size:=acB;have e1:cur[o+j]?=some cur[o+j]:=Array.getElem?_eq_getElem hlt;have hv:=(h5 j _ _ e1 (xt fs j hj2)).Z2;constructor
 ·rw[get_flatK _ _ _ _ (by simpa using(by omega:j<fs.length*2)),B5,Ai]
  show w.cell? _=_
  simp only[World.cell?,h1,e1,ac8,hv];split<;>split<;>first | rfl | (simp_all;done) | skip
 ·simp only[World.frozen?,h1];have:=h2 (o+j) hlt;simpa using this
theorem Fg (w:World) (b o n:Nat) (d:Array Fi) (os:Array Obj) {j:Nat} (hj:j<w.heap.size):(sortWorldK fT 2 w b o n d os).heap[j]?=if b=j then(w.heap[j]?).map (onCells (putCells id o (flatK fT 2 d)))else w.heap[j]?:=by
 have hs:(w.heap.modify b (onCells (putCells id o (flatK fT 2 d)))).size=w.heap.size:=Array.size_modify
 show(w.heap.modify b (onCells (putCells id o (flatK fT 2 d)))++os)[j]?=_
 rw[Array.getElem?_append_left (by rw[hs];exact hj),Array.getElem?_modify]
theorem Qj {X X':Nat->Prop} {w:World} {b o cap n:Nat} {fs L:List Fi} {os:Array Obj} (h:gr X w aW b o cap (flat (fs.map eF))) (hl:L.length=fs.length) :
    gr X' (sortWorldK fT 2 w b o n L.toArray os) aW b o cap (flat (L.map eF)):=by
 obtain⟨cur,t,fz,h1,h2,h3,h4,h5⟩:=h;rw[tk]at h4;have hb:b<w.heap.size:=(Array.getElem?_eq_some_iff.1 h1).1;refine⟨putCells id o (flatK fT 2 L.toArray) cur,t,fz,?_,?_,?_,?_,?_⟩
 ·rw[Fg _ _ _ _ _ _ hb,if_pos rfl,h1];rfl
 ·intro j hj;exact h2 j (by simpa[putCells]using hj)
 ·simpa[putCells]using h3
 ·rw[tk];omega
 ·intro j v a e1 e2
  have hj:j<2*L.length:=by
   have:=(List.getElem?_eq_some_iff.1 e2).1
   rwa[tk]at this
  rw[xt L j hj]at e2;obtain rfl:=Option.some.inj e2;simp only[putCells,Array.getElem?_mapIdx]at e1;rw[Array.getElem?_eq_getElem (by omega:o+j<cur.size)]at e1;simp only[ac7,Option.some.injEq]at e1;rw[if_pos ⟨acB,by rw[size_flatK];simp;omega⟩,show o+j-o=j by omega,get_flatK _ _ _ _ (by simp;omega),B5,Ai]at e1;rw[<-e1];exact .str _ _
theorem Zo {fs:List Fi} {d':Array Fi} (h1:PermIn 0 fs.toArray.size fs.toArray d') (h2:SortedIn (ltOf b5) 0 fs.toArray.size d'):d'.toList.Perm fs/\eB d'.toList:=by
 obtain⟨hs,_,hp⟩:=h1;constructor
 ·have e1:d'.extract 0 fs.toArray.size=d':=by rw[<-hs];exact Array.extract_size
  have e2:fs.toArray.extract 0 fs.toArray.size=fs.toArray:=Array.extract_size;rw[e1,e2]at hp;simpa using hp
 ·unfold eB;rw[ae6];intro i j hi hj hij;have:=h2 i j (ac5 _) hij (by rw[<-hs];simpa using hj);simp only[ltOf,decide_eq_false_iff_not]at this;rw[getElem!_pos d' i (by simpa using hi),getElem!_pos d' j (by simpa using hj)]at this;have a:=mG d'[i].1 d'[j].1;unfold b5 at this |-;simp only[Array.getElem_toList];omega
theorem Kq (x y:Fi) (W:World):Calls Tryz.prog 29 #[.agg (fT x).toArray,.agg (fT y).toArray] W λe w'=>e=.returned (.int .i64 (b5 x y))/\∃q os',w'=grow (W.drewN q) os':=by
 have hcon:∀W',Calls Tryz.prog 63 #[.string ⟨x.1.toArray⟩,.string ⟨y.1.toArray⟩] W' λe w'=>e=.returned (.int .i64 (b5 x y))/\w'=W':=λW'=>Tryz.strings_Compare ⟨x.1.toArray⟩ ⟨y.1.toArray⟩ W';unfold fT;generalize b5 x y=r at hcon |-
 go_enter Tryz.func29,Tryz.ntmps29
 go_wp2_with (go_at_call 63;refine(hcon _).mono ?_;rintro e w' ⟨rfl,rfl⟩)
 go_ret
 exact⟨rfl,0,_,by rw[alloc_eq_grow,alloc_eq_grow,grow_grow];rfl⟩
abbrev p8:Value:=.func (.func 29) #[] #[]
def fM (s id:Nat) (z:Int) (fs:List Fi):HP:=[(s,.var [.sl id 0 fs.length,.int .i64 z]),(id,.arr 2 (bK fs))]
theorem u9 {s id:Nat} {z:Int} {fs:List Fi} {i:Nat} {W:aC} (h:hget (fM s id z fs) i=some W):(i=s/\W=.var [.sl id 0 fs.length,.int .i64 z])\/(i≠s/\i=id/\W=.arr 2 (bK fs)):=by
 simp only[fM,hget]at h;split at h
 ·rename_i e;exact .inl ⟨e,(Option.some.inj h).symm⟩
 ·split at h
  ·rename_i e0 e;exact .inr ⟨e0,e,(Option.some.inj h).symm⟩
  ·cases h
theorem rA (s id:Nat) (z:Int) (fs:List Fi):hget (fM s id z fs) s=some (.var [.sl id 0 fs.length,.int .i64 z]):=by simp[fM,hget]
theorem pb {s id:Nat} (hne:id≠s) (z:Int) (fs:List Fi):hget (fM s id z fs) id=some (.arr 2 (bK fs)):=by simp[fM,hget,hne]
theorem Ge {s id:Nat} (hne:id≠s) {z:Int} {fs L:List Fi} {ρ:Eng.Loc} {b:Nat} (h:aE ρ (fM s id z L) b):aE ρ (fM s id z fs) b:=by
 obtain⟨i,W,M,q1,q2,q3⟩:=h;rcases u9 q1 with⟨rfl,rfl⟩ | ⟨_,rfl,rfl⟩;exact⟨i,_,M,rA _ _ _ _,q2,q3⟩;exact⟨i,_,M,pb hne _ _,q2,q3⟩
set_option maxHeartbeats 1000000 in
theorem Zp (s id:Nat) (z:Int) (fs:List Fi) (hne:id≠s) (hl:fs.length<=100000):jQ Tryz.prog 28 2 (fM s id z fs) [.sl id 0 fs.length,.lit p8,.aa s 0]
    (λh r ar=>∃L:List Fi,L.Perm fs/\eB L/\h=fM s id z L/\r=.ab []/\ar=[.sl id 0 L.length,.lit p8,.aa s 0]):=by
 intro X0 ρ w vs hH hA hX hn hargs
 obtain⟨v0,v1,v2,rfl⟩:∃v0 v1 v2,vs=#[v0,v1,v2]:=by
  rcases vs with⟨l⟩
  match l,hn with
  | [a,b,c],_=>exact⟨a,b,c,rfl⟩
 have a0:=hargs 0 v0 _ rfl rfl;have a1:=(hargs 1 v1 _ rfl rfl).T3;have a2:=hargs 2 v2 _ rfl rfl;subst a1;obtain⟨M,hM,hW⟩:=hH.win id _ (pb hne _ _);have hex:(#[v0,p8,v2]:Array Value).extract 0 2=#[v0,p8]:=rfl;rw[hex]
 cases a0 with
 | sl _ _ _ _ c M' A hM' g1 g2 g3 hA'=>
  obtain rfl:M'=M:=Option.some.inj (hM'.symm.trans hM);obtain⟨w1,w2,w3,w4,w5⟩:=hW;by_cases hfe:fs=[]
  ·subst hfe;refine(AnyF.slices_SortFunc_none Tryz.laysF6 A c _ w).mono ?_;rintro e w' ⟨rfl,rfl⟩;exact⟨.tuple #[],_,.ab [],ρ,_,rfl,⟨[],.refl _,.nil,rfl,rfl,rfl⟩,hH,.ab _ #[] [] rfl (λj v x h=>by simp at h),rfl,hargs,rfl,rfl,rfl,acG _,λ_ _ _=>rfl,λb hb=>.inr hb⟩
  ·have hpos:0<fs.length:=aeD.2 hfe
   cases hb:M'.b with
   | none=>
    rw[hb]at w5;simp only at w5
    omega
   | some b=>
    rw[hb]at w5;simp only at w5
    have hA2:A=some ⟨b,M'.o,none⟩:=by
     rcases hA' with h | h;omega
     ·rw[h,hb];simp
    subst hA2
    have hbs:b<w.heap.size:=by
     obtain⟨cur,t,fz,h1,_⟩:=w5;exact(Array.getElem?_eq_some_iff.1 h1).1
    have e0:fs.length=fs.toArray.size:=by simp
    have key:=AnyQ.slices_SortFunc Tryz.laysF6 2 Tryz.isAgg44 Tryz.sizeOf44 fT (λ_=>rfl) (λx v hv=>by simp[fT]at hv;rcases hv with rfl | rfl<;>rfl) b5 aaj 29 #[] b M'.o c fs.toArray w
     (enters_of Tryz.func29 (by kernel_rfl) rfl) (λ_ _ _ _ x y=>Kq x y _) (K2 w5) hbs (by simp;omega)
    rw[<-e0]at key;refine Calls.mono key ?_;rintro e w' ⟨rfl,d',n,os,hp,hs,rfl⟩;rw[e0]at hp hs;obtain⟨p1,p2⟩:=Zo hp hs;obtain⟨L,hL⟩:∃L,L=d'.toList:=⟨_,rfl⟩;obtain rfl:d'=L.toArray:=by rw[hL]
    rw[<-hL]at p1 p2;have hlen:L.length=fs.length:=p1.length_eq;have hme:aE ρ (fM s id z fs) b:=⟨id,_,M',pb hne _ _,hM,hb⟩;have hkeep:∀b',b'<w.heap.size->b≠b'->(sortWorldK fT 2 w b M'.o n L.toArray os).heap[b']?=w.heap[b']?:=λb' h1 h2=>by rw[Fg _ _ _ _ _ _ h1,if_neg h2]
    have mono:∀{v:Value} {a:AV},RV (XX X0 ρ (fM s id z fs)) w ρ v a->RV (XX X0 ρ (fM s id z L)) (sortWorldK fT 2 w b M'.o n L.toArray os) ρ v a:=λh=>
     h.mono (λb' h1 h2=>hkeep b' h2 (λe=>h1 (e▸.inr hme))) (λb' _ h1 h2=>h1 (h2.imp (λh=>h) (λh=>Ge hne h))) ρ (λ_ _ h=>h)
    refine⟨.tuple #[],fM s id z L,.ab [],ρ,[.sl id 0 L.length,.lit p8,.aa s 0],rfl,⟨L,p1,p2,rfl,rfl,rfl⟩,⟨?_,?_,?_⟩,.ab _ #[] [] rfl (λj v x h=>by simp at h),rfl,?_,rfl,rfl,rfl,?_,?_,?_⟩
    ·intro i W' h;rcases u9 h with⟨rfl,rfl⟩ | ⟨_,rfl,rfl⟩
     ·obtain⟨L1,q1,b1,q2,cur,t,fz,c1,c2,c3,c4,c5⟩:=hH.win i _ (rA _ _ _ _);have hbb:b≠b1:=λe=>hne (hH.cw id i _ _ _ _ b (pb hne _ _) (rA _ _ _ _) hM q1 hb (by rw[q2,e]));refine⟨L1,q1,b1,q2,cur,t,fz,?_,c2,c3,c4,?_⟩
      ·rw[hkeep b1 (Array.getElem?_eq_some_iff.1 c1).1 hbb];exact c1
      ·intro j v a e1 e2;rw[hlen]at e2;exact mono (c5 j v a e1 e2)
     ·refine⟨M',hM,w1,?_,w3,?_,?_⟩
      ·rw[w2,cF,cF,hlen]
      ·intro x hx;obtain⟨f,_,rfl⟩:=adu.1 hx;rfl
      ·rw[hb];exact Qj w5 hlen
    ·intro i j W1 W2 L1 L2 bb q1 q2 q3 q4 q5 q6
     have conv:∀{i W},hget (fM s id z L) i=some W->∃W',hget (fM s id z fs) i=some W':=by
      intro i W h;rcases u9 h with⟨rfl,_⟩ | ⟨_,rfl,_⟩;exact⟨_,rA _ _ _ _⟩;exact⟨_,pb hne _ _⟩
     obtain⟨W1',k1⟩:=conv q1
     obtain⟨W2',k2⟩:=conv q2
     exact hH.cw i j W1' W2' L1 L2 bb k1 k2 q3 q4 q5 q6
    ·intro i W' L' bb q1 q2 q3;rcases u9 q1 with⟨rfl,rfl⟩ | ⟨_,rfl,rfl⟩;exact hH.out i _ L' bb (rA _ _ _ _) q2 q3;exact hH.out i _ L' bb (pb hne _ _) q2 q3
    ·intro j v x q1 q2
     match j,q1,q2 with
     | 0,q1,q2=>
      simp at q1 q2;subst q1 q2;rw[hlen]
      exact .sl _ _ _ _ c M' _ hM g1 g2 g3 hA'
     | 1,q1,q2=>
      simp at q1 q2;subst q1 q2
      exact .lit _ _
     | 2,q1,q2=>
      simp at q1 q2;subst q1 q2
      exact mono a2
     | j+3,q1,q2=>simp at q1
    exact size_sortWorldK_c fT 2 w b M'.o n L.toArray os;exact λb' hb' hno=>hkeep b' hb' (λe=>hno (e▸hme));exact λb' h=>.inr (Ge hne h)
end Go.Proofs.YtgghhaahnpbnmaaGreatDoor.Ls
