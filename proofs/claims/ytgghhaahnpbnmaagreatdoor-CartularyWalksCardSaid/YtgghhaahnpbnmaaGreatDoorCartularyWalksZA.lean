/- The proof, part 27 of 51. -/
import Derived.Test.YtgghhaahnpbnmaaGreatDoorCartularyWalksV
import Derived.Test.YtgghhaahnpbnmaaGreatDoorCartularyWalksW
import Derived.Test.YtgghhaahnpbnmaaGreatDoorCartularyWalksZ
set_option linter.all false
namespace Go.Proofs.YtgghhaahnpbnmaaGreatDoor.Cm
open Eng Ob
set_option maxRecDepth 10000
theorem Ij (s:Bs):0<=Lib.indexAny s [10,0]↔(s.contains 10||s.contains 0)=true:=by
 induction s with
 | nil=>simp[Lib.indexAny]
 | cons b r ih=>
  rw[Lib.indexAny];by_cases hb:[10,0].contains b=true
  ·rw[if_pos hb];simp only[aeJ,afa,afb,aee,beq_iff_eq]at hb;rcases hb with rfl | rfl<;>simp
  ·rw[if_neg hb]
   have e:((b::r).contains 10||(b::r).contains 0)=(r.contains 10||r.contains 0):=by
    simp only[aeJ,afa,afb,aee,beq_iff_eq,not_or]at hb;have h1:(10==b)=false:=by simp;exact λe=>hb.1 e.symm
    have h2:(0==b)=false:=by simp;exact λe=>hb.2 e.symm
    simp only[aeJ,h1,h2,Bool.false_or]
   rw[e,<-ih];have hge:=Lib.indexAny_ge [10,0] r;split
   ·rename_i h;have:=beq_iff_eq.1 h;omega
   ·rename_i h;have:¬Lib.indexAny r [10,0] = -1:=λe=>h (by rw[e];rfl);omega
theorem QS (s:Bs) (hs:s.length<=4294967280):aw Tryz.prog 151 [.str s,.str [10,0]] (.int .i64 (Lib.indexAny s [10,0])):=by
 refine y8 rfl rfl (λw hA=>?_);have au:(⟨s.toArray⟩:ByteArray).size=s.length:=by simp[ByteArray.size]
 by_cases h8:s.length<=8
 ·refine Ik Tryz.lays153 ⟨s.toArray⟩ kU w iH (λw' hb=>hA.stays (λb _ _ _ hg _=>hb.block b (hA.lt hg))) (by decide) acB (λb hb=>?_) (λr w' ha h1 h2=>Yw r w' ha h1 h2)
  show[10,0].contains b=false
  simp only[aeJ,afa,afb,aeT,beq_eq_false_iff_ne];exact⟨λe=>by subst e;revert hb;decide,λe=>by subst e;revert hb;decide⟩
 ·have hz:=Go.zero_of_info (P:=Tryz.prog) (t:=109) (v:=.agg (Array.replicate 256 (.bool false))) (n:=256) (by kernel_rfl);refine(Any.strings_IndexAny_long Tryz.lays153 hz.1 hz.2 ⟨s.toArray⟩ kU w (by decide) acB acB (by decide) (λj b hb=>?_)).mono ?_
  ·have hm:b∈[10,0]:=acS hb;simp only[acW,aeR,or_false]at hm;rcases hm with rfl | rfl<;>decide
  ·rintro e w' ⟨rfl,rfl⟩;exact⟨rfl,((Go.RowKit.Below.refl _ _).alloc (acG _) _).alloc (by simp) _⟩
theorem KA (s:Bs) (hs:s.length<=4294967280):aw Tryz.prog 121 [.str s,.str [10,0]] (.bool (s.contains 10||s.contains 0)):=by
 refine Cod.LF (λE R hN hR=>?_);have hge:=Ij s;refine wW ?_;refine aj (QS s hs) rfl rfl ?_
 cases h:(s.contains 10||s.contains 0)with
 | true=>
  rw[h]at hR;have:=hge.2 h;refine wW ?_
  exact hR.ro ⟨rfl,rfl⟩
 | false=>
  rw[h]at hR;have:¬0<=Lib.indexAny s [10,0]:=λe=>by rw[hge.1 e]at h;cases h
  refine wW ?_;exact hR.ro ⟨rfl,rfl⟩
theorem Lo (s:Bs) (hs:s.length<=9223372036854775807):aw Tryz.prog 82 [.str s] (.bool (qH s)):=by
 refine Cod.Lp (λE R hN hR=>?_);unfold qH at hR
 cases s with
 | nil=>
  refine wW ?_;refine gG ?_
  exact hR.ro ⟨rfl,rfl⟩
 | cons b r=>
  by_cases h1:r.length+1<=100
  ·refine wW ?_;refine gG ?_;refine jt (iv vV (KA (b::r) (by simp;omega)) vV rfl rfl ?_);refine wW ?_;refine hR.ro ⟨rfl,?_⟩;simp[h1]
  ·refine wW ?_;refine gG ?_;refine hR.ro ⟨rfl,?_⟩;simp[h1]
abbrev fX (s:Bs):Bool:=Ls.cd s
theorem o8 (s:Bs) (hs:s.length<=140737488351232):aw Tryz.prog 33 [.str s] (.bool (fX s)):=Ls.o8 s hs
def gL (s:Sg):AV:=.agg [.str s.bZ,.int .i64 s.time,.int .i64 s.cv]
theorem Bu (s:Sg) (hs:s.bZ.length<=9223372036854775807):aw Tryz.prog 52 [gL s] (.bool (fK s)):=by
 refine Cod.LS (λE R hN hR=>?_);have yes:fK s=true->∀h0,R h0 (.bool true) [.undef]:=λh h0=>hR.wk (h':=[]) (r':=.bool true) (ar':=[.undef]) rfl (.le vV) ⟨rfl,by rw[h]⟩;have no:fK s=false->∀h0,R h0 (.bool false) [.undef]:=λh h0=>hR.wk (h':=[]) (r':=.bool false) (ar':=[.undef]) rfl (.le vV) ⟨rfl,by rw[h]⟩;unfold fK at yes no;simp(disch:=omega)only[go_sem,simprocAttr,gL];refine aj (Lo s.bZ hs) rfl rfl ?_
 cases h1:qH s.bZ with
 | false=>
  have no:=no (by simp[h1]);refine wW ?_;refine gG ?_
  exact no _
 | true=>
  by_cases h2:0<=s.time
  ·by_cases h3:s.time<=253402300799
   ·by_cases h4:-840<=s.cv
    ·by_cases h5:s.cv<=840
     ·have yes:=yes (by simp[h1,h2,h3,h4,h5]);refine wW ?_;refine gG ?_;exact yes _
     ·have no:=no (by simp[h1,h2,h3,h4,h5]);refine wW ?_;refine gG ?_;exact no _
    ·have no:=no (by simp[h1,h2,h3,h4]);refine wW ?_;refine gG ?_;exact no _
   ·have no:=no (by simp[h1,h2,h3]);refine wW ?_;refine gG ?_;exact no _
  ·have no:=no (by simp[h1,h2]);refine wW ?_;refine gG ?_;exact no _
theorem zK (n:Int) (h0:-5999<=n) (h1:n<=5999):aw Tryz.prog 54 [.int .i64 n] (.str (gR n)):=by
 refine Cod.acu (λE R hN hR=>?_);have hz:=acs (n.natAbs/60) (n.natAbs%60) acB acB;unfold gR at hR
 have fin:∀(m:Nat) (g:UInt8) (ys:List (Nat×AV)),n.natAbs=m->m<=5999->(if n<0 then(45:UInt8)else 43)=g ->
     vcW Tryz.prog E (.ck Cod.acr) (KQ.post [.tmp 2] 1 R) ⟨(0,.int .i64 (m:Int))::(3,.str [g])::ys,[]⟩:=by
  intro m g ys hm hb hg;rw[hm]at hz hR;rw[hg]at hR;obtain⟨x,hx⟩:∃x:Nat,10000+m/60*100+m%60=x:=⟨_,rfl⟩;have e3:(10000+(m:Int)/60*100+(m:Int)%60)=(x:Int):=acB;rw[hx]at hz
  have hl:1<=(Lib.itoa (x:Int)).length:=by
   have:=congrArg List.length hz;rw[acK]at this;simp[tw]at this;omega
  have hl2:=lU (x:Int) acB acB;refine dU hN ?_;refine ah e3 ?_;refine aj (oJ (x:Int) acB acB) rfl rfl ?_;refine wW ?_;exact hR.ro ⟨rfl,by rw[hz]⟩
 by_cases h:n<0
 ·refine ah @Eng.jn ?_;have:=fin n.natAbs 45 [] rfl acB (by rw[if_pos h]);rw[show((n.natAbs:Nat):Int)=0-n by omega]at this;exact this
 ·refine ah @Eng.jn ?_;have:=fin n.natAbs 43 [(6,.bool false)] rfl acB (by rw[if_neg h]);rw[show((n.natAbs:Nat):Int)=n by omega]at this;exact this
def eC (c:bW):AV:=.agg [.str c.tree,.ro 1 (c.parents.map .str),.str c.cQ.bZ,.int .i64 c.cQ.time,.int .i64 c.cQ.cv,.str c.cR.bZ,.int .i64 c.cR.time,.int .i64 c.cR.cv,.str c.msg]
def aY (c:bW):Int:=if 16<c.parents.length then 2 else if c.parents.all fX=true/\fX c.tree=true/\fK c.cQ=true/\fK c.cR=true then 0 else 4
def pA (c:bW):Prop:=c.tree.length<=140737488351232/\(c.parents.length<=140737488351232/\∀p∈c.parents,p.length<=140737488351232)/\c.cQ.bZ.length<=140737488351232/\c.cR.bZ.length<=140737488351232/\c.msg.length<=140737488351232
theorem xz {α:Type} (d:α):∀(l:List α) {k:Nat},k<l.length->l.getD k d∈l
 | [],k,h=>by simp at h
 | x::r,0,h=>by simp
 | x::r,k+1,h=>by
  have:=xz d r (k:=k) (by simpa using h);simp only[adP];exact acV _ this
theorem mg (c:List Bs) {k:Nat} (h:k<c.length):(c.take (k+1)).all fX=((c.take k).all fX&&fX (c.getD k [])):=by
 rw[zm [] c h,aet];simp
theorem aav {c:List Bs} {k:Nat} (h:(c.take k).all fX=false):c.all fX=false:=by
 rw[<-adE k c,aet,h];rfl
theorem Be (c:bW) (hs:pA c):aw Tryz.prog 20 [eC c] (.int .i64 (aY c)):=by
 refine Cod.KG (λE R hN hR=>?_);obtain⟨s1,⟨s2,s3⟩,s4,s5,s6⟩:=hs;have ret:∀v,aY c=v->∀h0 a,R h0 (.int .i64 v) [a]:=λv h h0 a=>hR.wk (h':=[]) (r':=.int .i64 v) (ar':=[a]) rfl (.le vV) ⟨rfl,by rw[h]⟩;unfold aY at ret;by_cases h1:16<c.parents.length
 ·have ret:=ret 2 (if_pos h1);simp(disch:=omega)only[go_sem,simprocAttr,eC];exact ret _ _
 rw[if_neg h1]at ret;simp(disch:=omega)only[go_sem,simprocAttr,eC];refine aJ hN (λk:Nat=>⟨[(1,.aa 5001 0),(10,.ro 1 (c.parents.map .str)),(11,.int .i64 c.parents.length),(12,.int .i64 k)],[(5001,.var [.str c.tree,.ro 1 (c.parents.map .str),.str c.cQ.bZ,.int .i64 c.cQ.time,.int .i64 c.cQ.cv,.str c.cR.bZ,.int .i64 c.cR.time,.int .i64 c.cR.cv,.str c.msg])]⟩) (λk=>k<=c.parents.length/\(c.parents.take k).all fX=true) (λk=>c.parents.length-k) 0 (.le vV) ⟨acB,by simp⟩ ?_;rintro k R1 ⟨hk,hall⟩ hR1;by_cases hlt:k<c.parents.length
 ·have hp:=s3 (c.parents.getD k []) (xz [] _ hlt);have htk:=mg c.parents hlt;rw[hall,aeU]at htk;refine wW ?_;refine aj (o8 _ acB) rfl rfl ?_
  cases hi:fX (c.parents.getD k [])with
  | false=>
   rw[hi]at htk;have ret:=ret 4 (if_neg (λh=>by rw[aav htk]at h;exact absurd h.1 (by decide)));refine wW ?_
   exact ret _ _
  | true=>
   rw[hi]at htk;refine wW ?_;exact hR1 (k+1) _ acB ⟨acB,htk⟩ (.le vV)
 ·obtain rfl:k=c.parents.length:=acB;rw[acF acB]at hall;have bad:(fX c.tree&&fK c.cQ&&fK c.cR)=false->∀h0 a,R h0 (.int .i64 4) [a]:=λh=>ret 4 (if_neg (λg=>by rw[g.2.1,g.2.2.1,g.2.2.2]at h;cases h));refine wW ?_;refine aj (o8 c.tree acB) rfl rfl ?_
  cases h2:fX c.tree with
  | false=>
   have bad:=bad (by rw[h2];rfl);refine wW ?_;refine gG ?_
   exact bad _ _
  | true=>
   refine wW ?_;refine gG ?_;refine jt (iv (by simp(disch:=omega)only[go_sem,simprocAttr,gL]) (Bu c.cQ acB) vV rfl rfl ?_)
   cases h3:fK c.cQ with
   | false=>
    have bad:=bad (by rw[h2,h3];rfl);refine wW ?_;refine gG ?_
    exact bad _ _
   | true=>
    refine wW ?_;refine gG ?_;refine jt (iv (by simp(disch:=omega)only[go_sem,simprocAttr,gL]) (Bu c.cR acB) vV rfl rfl ?_)
    cases h4:fK c.cR with
    | false=>
     have bad:=bad (by rw[h2,h3,h4];rfl);refine wW ?_
     exact bad _ _
    | true=>
     have ret:=ret 0 (if_pos ⟨hall,h2,h3,h4⟩);refine wW ?_;exact ret _ _
theorem wF {c:bW} (h:aY c=0):c.parents.length<=16/\c.parents.all fX=true/\fX c.tree=true/\fK c.cQ=true/\fK c.cR=true:=by
 unfold aY at h;split at h
 ·cases h
 ·split at h
  ·rename_i h1 h2;exact⟨acB,h2⟩
  ·cases h
end Go.Proofs.YtgghhaahnpbnmaaGreatDoor.Cm
