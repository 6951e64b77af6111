/- The proof, part 29 of 50. -/
import Derived.Test.YtkdjbebgdoohjaaGreatDoorHistoryOrderT
import Derived.Test.YtkdjbebgdoohjaaGreatDoorHistoryOrderV
import Derived.Test.YtkdjbebgdoohjaaGreatDoorHistoryOrderZB
set_option linter.all false
namespace Go.Proofs.YtkdjbebgdoohjaaGreatDoor.Cm
open Eng Ob
set_option maxRecDepth 10000
theorem F4 (s:Bs):0<=Lib.indexAny s [10,0]↔(s.contains 10||s.contains 0)=true:=by
 induction s with
 | nil=>simp[Lib.indexAny]
 | cons b r ih=>
  rw[Lib.indexAny];by_cases hb:[10,0].contains b=true
  ·rw[if_pos hb];simp only[abF,abX,ab1,aaW,beq_iff_eq]at hb;rcases hb with rfl | rfl<;>simp
  ·rw[if_neg hb]
   have e:((b::r).contains 10||(b::r).contains 0)=(r.contains 10||r.contains 0):=by
    simp only[abF,abX,ab1,aaW,beq_iff_eq,not_or]at hb;have h1:(10==b)=false:=by simp;exact λe=>hb.1 e.symm
    have h2:(0==b)=false:=by simp;exact λe=>hb.2 e.symm
    simp only[abF,h1,h2,Bool.false_or]
   rw[e,<-ih];have hge:=Lib.indexAny_ge [10,0] r;split
   ·rename_i h;have:=beq_iff_eq.1 h;omega
   ·rename_i h;have:¬Lib.indexAny r [10,0] = -1:=λe=>h (by rw[e];rfl);omega
theorem NX (s:Bs) (hs:s.length<=4294967280):aw Tryz.prog 175 [.str s,.str [10,0]] (.int .i64 (Lib.indexAny s [10,0])):=by
 refine xR rfl rfl (λw hA=>?_);have au:(⟨s.toArray⟩:ByteArray).size=s.length:=by simp[ByteArray.size]
 by_cases h8:s.length<=8
 ·refine F5 Tryz.lays153 ⟨s.toArray⟩ ko w hV (λw' hb=>hA.stays (λb _ _ _ hg _=>hb.block b (hA.lt hg))) (by decide) ZG (λb hb=>?_) (λr w' ha h1 h2=>VB r w' ha h1 h2)
  show[10,0].contains b=false
  simp only[abF,abX,ab1,abt,beq_eq_false_iff_ne];exact⟨λe=>by subst e;revert hb;decide,λe=>by subst e;revert hb;decide⟩
 ·have hz:=Go.zero_of_info (P:=Tryz.prog) (t:=269) (v:=.agg (Array.replicate 256 (.bool false))) (n:=256) (by kernel_rfl);refine(Any.strings_IndexAny_long Tryz.lays153 hz.1 hz.2 ⟨s.toArray⟩ ko w (by decide) ZG ZG (by decide) (λj b hb=>?_)).mono ?_
  ·have hm:b∈[10,0]:=ZX hb;simp only[ZW,abv,or_false]at hm;rcases hm with rfl | rfl<;>decide
  ·rintro e w' ⟨rfl,rfl⟩;exact⟨rfl,((Go.RowKit.Below.refl _ _).alloc (ZM _) _).alloc (by simp) _⟩
theorem Im (s:Bs) (hs:s.length<=4294967280):aw Tryz.prog 148 [.str s,.str [10,0]] (.bool (s.contains 10||s.contains 0)):=by
 refine Cod.Jh (λE R hN hR=>?_);have hge:=F4 s;refine wW ?_;refine an (NX s hs) rfl rfl ?_
 cases h:(s.contains 10||s.contains 0)with
 | true=>
  rw[h]at hR;have:=hge.2 h;refine wW ?_
  exact hR.ro ⟨rfl,rfl⟩
 | false=>
  rw[h]at hR;have:¬0<=Lib.indexAny s [10,0]:=λe=>by rw[hge.1 e]at h;cases h
  refine wW ?_;exact hR.ro ⟨rfl,rfl⟩
theorem I2 (s:Bs) (hs:s.length<=9223372036854775807):aw Tryz.prog 113 [.str s] (.bool (sf s)):=by
 refine Cod.I3 (λE R hN hR=>?_);unfold sf at hR
 cases s with
 | nil=>
  refine wW ?_;refine gG ?_
  exact hR.ro ⟨rfl,rfl⟩
 | cons b r=>
  by_cases h1:r.length+1<=100
  ·refine wW ?_;refine gG ?_;refine fH (eS vV (Im (b::r) (by simp;omega)) vV rfl rfl ?_);refine wW ?_;refine hR.ro ⟨rfl,?_⟩;simp[h1]
  ·refine wW ?_;refine gG ?_;refine hR.ro ⟨rfl,?_⟩;simp[h1]
abbrev gF (s:Bs):Bool:=Ls.cf s
theorem nU (s:Bs) (hs:s.length<=140737488351232):aw Tryz.prog 32 [.str s] (.bool (gF s)):=Ls.nU s hs
def iD (s:Sg):AV:=.agg [.str s.dj,.int .i64 s.time,.int .i64 s.eH]
theorem zN (s:Sg) (hs:s.dj.length<=9223372036854775807):aw Tryz.prog 71 [iD s] (.bool (iG s)):=by
 refine Cod.Jt (λE R hN hR=>?_);have yes:iG s=true->∀h0,R h0 (.bool true) [.undef]:=λh h0=>hR.wk (h':=[]) (r':=.bool true) (ar':=[.undef]) rfl (.le vV) ⟨rfl,by rw[h]⟩;have no:iG s=false->∀h0,R h0 (.bool false) [.undef]:=λh h0=>hR.wk (h':=[]) (r':=.bool false) (ar':=[.undef]) rfl (.le vV) ⟨rfl,by rw[h]⟩;unfold iG at yes no;simp(disch:=omega)only[go_sem,simprocAttr,iD];refine an (I2 s.dj hs) rfl rfl ?_
 cases h1:sf s.dj with
 | false=>
  have no:=no (by simp[h1]);refine wW ?_;refine gG ?_
  exact no _
 | true=>
  by_cases h2:0<=s.time
  ·by_cases h3:s.time<=253402300799
   ·by_cases h4:-840<=s.eH
    ·by_cases h5:s.eH<=840
     ·have yes:=yes (by simp[h1,h2,h3,h4,h5]);refine wW ?_;refine gG ?_;exact yes _
     ·have no:=no (by simp[h1,h2,h3,h4,h5]);refine wW ?_;refine gG ?_;exact no _
    ·have no:=no (by simp[h1,h2,h3,h4]);refine wW ?_;refine gG ?_;exact no _
   ·have no:=no (by simp[h1,h2,h3]);refine wW ?_;refine gG ?_;exact no _
  ·have no:=no (by simp[h1,h2]);refine wW ?_;refine gG ?_;exact no _
theorem E6 (n:Int) (h0:-5999<=n) (h1:n<=5999):aw Tryz.prog 112 [.int .i64 n] (.str (jX n)):=by
 refine Cod.ZA (λE R hN hR=>?_);have hz:=Zz (n.natAbs/60) (n.natAbs%60) ZG ZG;unfold jX at hR
 have fin:∀(m:Nat) (g:UInt8) (ys:List (Nat×AV)),n.natAbs=m->m<=5999->(if n<0 then(45:UInt8)else 43)=g ->
     vcW Tryz.prog E (.bX Cod.Zy) (KQ.post [.tmp 2] 1 R) ⟨(0,.int .i64 (m:Int))::(3,.str [g])::ys,[]⟩:=by
  intro m g ys hm hb hg;rw[hm]at hz hR;rw[hg]at hR;obtain⟨x,hx⟩:∃x:Nat,10000+m/60*100+m%60=x:=⟨_,rfl⟩;have e3:(10000+(m:Int)/60*100+(m:Int)%60)=(x:Int):=ZG;rw[hx]at hz
  have hl:1<=(Lib.itoa (x:Int)).length:=by
   have:=congrArg List.length hz;rw[ZN]at this;simp[tw]at this;omega
  have hl2:=wc (x:Int) ZG ZG;refine cV hN ?_;refine ah e3 ?_;refine an (px (x:Int) ZG ZG) rfl rfl ?_;refine wW ?_;exact hR.ro ⟨rfl,by rw[hz]⟩
 by_cases h:n<0
 ·refine ah @Eng.jn ?_;have:=fin n.natAbs 45 [] rfl ZG (by rw[if_pos h]);rw[show((n.natAbs:Nat):Int)=0-n by omega]at this;exact this
 ·refine ah @Eng.jn ?_;have:=fin n.natAbs 43 [(6,.bool false)] rfl ZG (by rw[if_neg h]);rw[show((n.natAbs:Nat):Int)=n by omega]at this;exact this
def fj (c:fW):AV:=.agg [.str c.tree,.ro 1 (c.parents.map .str),.str c.eI.dj,.int .i64 c.eI.time,.int .i64 c.eI.eH,.str c.eJ.dj,.int .i64 c.eJ.time,.int .i64 c.eJ.eH,.str c.msg]
def b7 (c:fW):Int:=if 16<c.parents.length then 2 else if c.parents.all gF=true/\gF c.tree=true/\iG c.eI=true/\iG c.eJ=true then 0 else 4
def uc (c:fW):Prop:=c.tree.length<=140737488351232/\(c.parents.length<=140737488351232/\∀p∈c.parents,p.length<=140737488351232)/\c.eI.dj.length<=140737488351232/\c.eJ.dj.length<=140737488351232/\c.msg.length<=140737488351232
theorem A7 {α:Type} (d:α):∀(l:List α) {k:Nat},k<l.length->l.getD k d∈l
 | [],k,h=>by simp at h
 | x::r,0,h=>by simp
 | x::r,k+1,h=>by
  have:=A7 d r (k:=k) (by simpa using h);simp only[aaX];exact Z4 _ this
theorem tI (c:List Bs) {k:Nat} (h:k<c.length):(c.take (k+1)).all gF=((c.take k).all gF&&gF (c.getD k [])):=by
 rw[Es [] c h,aa8];simp
theorem XH {c:List Bs} {k:Nat} (h:(c.take k).all gF=false):c.all gF=false:=by
 rw[<-abi k c,aa8,h];rfl
theorem Io (c:fW) (hs:uc c):aw Tryz.prog 44 [fj c] (.int .i64 (b7 c)):=by
 refine Cod.Ip (λE R hN hR=>?_);obtain⟨s1,⟨s2,s3⟩,s4,s5,s6⟩:=hs;have ret:∀v,b7 c=v->∀h0 a,R h0 (.int .i64 v) [a]:=λv h h0 a=>hR.wk (h':=[]) (r':=.int .i64 v) (ar':=[a]) rfl (.le vV) ⟨rfl,by rw[h]⟩;unfold b7 at ret;by_cases h1:16<c.parents.length
 ·have ret:=ret 2 (if_pos h1);simp(disch:=omega)only[go_sem,simprocAttr,fj];exact ret _ _
 rw[if_neg h1]at ret;simp(disch:=omega)only[go_sem,simprocAttr,fj];refine aP hN (λk:Nat=>⟨[(1,.aa 5001 0),(10,.ro 1 (c.parents.map .str)),(11,.int .i64 c.parents.length),(12,.int .i64 k)],[(5001,.var [.str c.tree,.ro 1 (c.parents.map .str),.str c.eI.dj,.int .i64 c.eI.time,.int .i64 c.eI.eH,.str c.eJ.dj,.int .i64 c.eJ.time,.int .i64 c.eJ.eH,.str c.msg])]⟩) (λk=>k<=c.parents.length/\(c.parents.take k).all gF=true) (λk=>c.parents.length-k) 0 (.le vV) ⟨ZG,by simp⟩ ?_;rintro k R1 ⟨hk,hall⟩ hR1;by_cases hlt:k<c.parents.length
 ·have hp:=s3 (c.parents.getD k []) (A7 [] _ hlt);have htk:=tI c.parents hlt;rw[hall,ab0]at htk;refine wW ?_;refine an (nU _ ZG) rfl rfl ?_
  cases hi:gF (c.parents.getD k [])with
  | false=>
   rw[hi]at htk;have ret:=ret 4 (if_neg (λh=>by rw[XH htk]at h;exact absurd h.1 (by decide)));refine wW ?_
   exact ret _ _
  | true=>
   rw[hi]at htk;refine wW ?_;exact hR1 (k+1) _ ZG ⟨ZG,htk⟩ (.le vV)
 ·obtain rfl:k=c.parents.length:=ZG;rw[ZK ZG]at hall;have bad:(gF c.tree&&iG c.eI&&iG c.eJ)=false->∀h0 a,R h0 (.int .i64 4) [a]:=λh=>ret 4 (if_neg (λg=>by rw[g.2.1,g.2.2.1,g.2.2.2]at h;cases h));refine wW ?_;refine an (nU c.tree ZG) rfl rfl ?_
  cases h2:gF c.tree with
  | false=>
   have bad:=bad (by rw[h2];rfl);refine wW ?_;refine gG ?_
   exact bad _ _
  | true=>
   refine wW ?_;refine gG ?_;refine fH (eS (by simp(disch:=omega)only[go_sem,simprocAttr,iD]) (zN c.eI ZG) vV rfl rfl ?_)
   cases h3:iG c.eI with
   | false=>
    have bad:=bad (by rw[h2,h3];rfl);refine wW ?_;refine gG ?_
    exact bad _ _
   | true=>
    refine wW ?_;refine gG ?_;refine fH (eS (by simp(disch:=omega)only[go_sem,simprocAttr,iD]) (zN c.eJ ZG) vV rfl rfl ?_)
    cases h4:iG c.eJ with
    | false=>
     have bad:=bad (by rw[h2,h3,h4];rfl);refine wW ?_
     exact bad _ _
    | true=>
     have ret:=ret 0 (if_pos ⟨hall,h2,h3,h4⟩);refine wW ?_;exact ret _ _
theorem zF {c:fW} (h:b7 c=0):c.parents.length<=16/\c.parents.all gF=true/\gF c.tree=true/\iG c.eI=true/\iG c.eJ=true:=by
 unfold b7 at h;split at h
 ·cases h
 ·split at h
  ·rename_i h1 h2;exact⟨ZG,h2⟩
  ·cases h
end Go.Proofs.YtkdjbebgdoohjaaGreatDoor.Cm
