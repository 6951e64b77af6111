/- The proof, part 25 of 43. -/
import Derived.Test.YtoalcafkffmiiaaGreatDoorOdbGetsS
import Derived.Shelf.RegionOpenPlain
import Derived.WalkKit
import Derived.Deep.LoopGhost
import Derived.Lib.Walk
import Derived.Lib.SliceRun
set_option linter.all false
namespace Go.Proofs.YtoalcafkffmiiaaGreatDoor.Ls
open Eng Go.RowKit Go.Shelf Go.Lib
set_option maxRecDepth 10000
theorem Nl:∃i0,Tryz.prog.info? 42=some i0/\i0.zero=some (.agg #[.string ⟨#[]⟩,.string ⟨#[]⟩])/\i0.size=2/\i0.bytes=32:=by
 have h:(Tryz.prog.info? 42).map (λi=>(i.zero,i.size,i.bytes))=some (some (.agg #[.string ⟨#[]⟩,.string ⟨#[]⟩]),2,32):=by kernel_rfl
 obtain⟨i,h1,h2⟩:=acR.1 h;simp only[Prod.mk.injEq]at h2;exact⟨i,h1,h2.1,h2.2.1,h2.2.2⟩
set_option maxHeartbeats 2000000 in
theorem KU (A:Option Addr) (c:Nat) (w:World):Calls Tryz.prog 24 #[.slice A 0 c] w λe w'=>∃v',e=.returned v'/\w'.ownsRow w.heap.size 42 2 v' 0 []/\Below w.heap.size w w':=by
 have q22:∀(w:World) (a:Option Addr) (n c n' c':Nat),(binOp .eql 22 (.slice a n c) (.slice none n' c')).run Tryz.prog w=.ok (.bool a.isNone) w:=λw a n c n' c'=>Lib.run_eql_slice_nil w _ _ a n c n' c' Tryz.underlying22;have u22:∀w,Sem.run Tryz.prog (underlying 22) w=.ok (TypeDesc.slice 42) w:=run_underlying Tryz.underlying22;obtain⟨i0,hi,hz0,hz1,hz2⟩:=Nl
 cases A with
 | none=>
  go_enter Tryz.func24,Tryz.ntmps24
  go_wp2
  go_ret
  exact⟨_,rfl,⟨rfl,.inl ⟨rfl,rfl⟩⟩,.refl _ _⟩
 | some ad=>
  go_enter Tryz.func24,Tryz.ntmps24
  go_wp2_with (at_builtin;refine wpList_append_own _ rfl _ _ 22 rfl w.heap.size 42 i0 _ 2 32 Tryz.underlying22 hi hz0 hz1 hz2 rfl (by decide) _ _ _ rfl (World.ownsRow_made w #[] 0 (acT _) (ac9 _) (by simp)) ad 0 c [] rfl ?qc1 ?qc2 ?qc3 ?qc4 ?qc5 ?qc6 ?_)
  case qc1=>rfl
  case qc2=>intro j u hj;simp at hj
  case qc3=>intro u hu;simp at hu
  case qc4=>unfold maxLen;omega
  case qc5=>omega
  case qc6=>simp
  intro v' w1 hown hgrow hnil
  go_wp2
  go_ret
  exact⟨v',rfl,by simpa using hown,((Below.refl _ w).alloc (acT _) _).grown hgrow (by simp) (by intro k hk;simp[Value.ownBlock]at hk;omega)⟩
abbrev vX (fs:List Fi):HP->AV->List AV->Prop:=λh r ar=>h=[(200005,.arr 2 (a8 fs))]/\r=.sl 200005 0 fs.length/\ar=[.undef]
theorem KV:Eng.Spec Tryz.prog 24 [] [.ro 2 (a8 [])] (vX []):=by
 intro X0 ρ w vs hH hA hX hn hargs
 obtain⟨v0,rfl⟩:∃v0,vs=#[v0]:=by
  rcases vs with⟨l⟩
  match l,hn with
  | [a],_=>exact⟨a,rfl⟩
 have a0:=hargs 0 v0 _ rfl rfl
 obtain⟨A,c,rfl⟩:∃A c,v0=.slice A 0 c:=by
  cases a0 with
  | ro _ A c sz es vs hc aA hlen hcell hrel=>exact⟨A,c,rfl⟩
 refine(KU A c w).mono ?_;rintro e w' ⟨v',rfl,⟨_,hv⟩,hb⟩
 have fin:∀M:LW,M.sz=2->M.fV=0->(match M.b with
     | none=>M.cap=0
     | some b=>w.heap.size<=b/\fR (XX X0 (bB ba 200005 M) [(200005,.arr 2 [])]) w' ba b M.o (M.cap*2) [])->RV (XX X0 (bB ba 200005 M) [(200005,.arr 2 [])]) w' (bB ba 200005 M) v' (.sl 200005 0 0) ->
     ∃v h' r ρ' ar,Ending.returned v'=.returned v/\vX [] h' r ar/\dI X0 ρ' h' w'/\RV (XX X0 ρ' h') w' ρ' v r/\ar.length=[AV.ro 2 (a8 [])].length/\(∀(j:Nat) v x,(#[Value.slice A 0 c]:Array Value)[j]?=some v->ar[j]?=some x->RV (XX X0 ρ' h') w' ρ' v x) /\
      w'.os=w.os/\w'.tape=w.tape/\w'.output=w.output/\w.heap.size<=w'.heap.size/\(∀b,b<w.heap.size->¬aW ρ [] b->w'.heap[b]?=w.heap[b]?)/\(∀b,aW ρ' h' b->w.heap.size<=b\/aW ρ [] b):=by
  intro M m1 m2 m3 m4;have hu:bB ba 200005 M 200005=some M:=by simp[bB]
  have hg:∀{i:Nat} {W:aG},hget [(200005,aG.arr 2 [])] i=some W->i=200005/\W=.arr 2 []:=by
   intro i W h;simp only[hget]at h;split at h
   ·rename_i e;exact⟨e,(Option.some.inj h).symm⟩
   ·cases h
  refine⟨v',[(200005,.arr 2 [])],.sl 200005 0 0,bB ba 200005 M,[.undef],rfl,⟨rfl,rfl,rfl⟩,⟨?_,?_,?_⟩,m4,rfl,?_,hb.os,hb.tape,hb.output,hb.size,λb h _=>hb.block b h,?_⟩
  ·intro i W h;obtain⟨rfl,rfl⟩:=hg h;refine⟨M,hu,m1,by rw[m2];rfl,acN,by simp,?_⟩
   cases hMb:M.b with
   | none=>rw[hMb]at m3;exact m3
   | some b=>rw[hMb]at m3;exact m3.2
  ·intro i j W1 W2 L1 L2 b q1 q2 _ _ _ _;rw[(hg q1).1,(hg q2).1]
  ·intro i W L b q1 q2 q3 hx;obtain⟨rfl,rfl⟩:=hg q1;obtain rfl:=Option.some.inj (hu.symm.trans q2);rw[q3]at m3;have:=hX b hx;omega
  ·intro j v x q1 q2
   match j,q2 with
   | 0,q2=>simp at q2;subst q2;exact .undef _ _
   | j+1,q2=>simp at q2
  ·rintro b ⟨i,W,L,q1,q2,q3⟩;obtain⟨rfl,rfl⟩:=hg q1;obtain rfl:=Option.some.inj (hu.symm.trans q2);rw[q3]at m3;exact .inl m3.1
 rcases hv with⟨rfl,_⟩ | ⟨g,cap,cur,rfl,h1,h2,h3,h4,h5,h6⟩;exact fin ⟨none,0,2,0,0⟩ rfl rfl rfl (.sl _ _ _ _ _ ⟨none,0,2,0,0⟩ _ (by simp[bB]) (by simp) (by simp) (by simp) (.inl rfl));exact fin ⟨some g,0,2,0,cap⟩ rfl rfl ⟨h1,cur,_,(0,0),h2,by intro j _;omega,by simp;omega,by simp,λj v a _ h=>by simp at h⟩ (.sl _ _ _ _ _ ⟨some g,0,2,0,cap⟩ _ (by simp[bB]) (by simp) (by simp) (by simp) (.inr (by simp)))
theorem KW (fs:List Fi) (hl:fs.length<=100000):Eng.Spec Tryz.prog 24 [] [.ro 2 (a8 fs)] (vX fs):=by
 by_cases hf:fs=[]
 ·subst hf;exact KV
 have hpos:0<fs.length:=ad4.2 hf;refine Cod.KX (λE R hN hR=>?_);refine ab @bX ?_;exact⟨⟨oJ,acN⟩,hR.wk (h':=[(200005,.arr 2 (a8 fs))]) (r':=.sl 200005 0 fs.length) (ar':=[.undef]) rfl (.le vV) ⟨rfl,rfl,rfl⟩⟩
end Go.Proofs.YtoalcafkffmiiaaGreatDoor.Ls
