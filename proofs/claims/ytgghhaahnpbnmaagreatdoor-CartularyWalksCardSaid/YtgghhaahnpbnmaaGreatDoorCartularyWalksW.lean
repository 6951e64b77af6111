/- The proof, part 23 of 51. -/
import Derived.Test.YtgghhaahnpbnmaaGreatDoorCartularyWalksK
import Derived.Test.YtgghhaahnpbnmaaGreatDoorCartularyWalksQ
import Derived.Test.YtgghhaahnpbnmaaGreatDoorProg
import Derived.KernelRfl
import Derived.Tactics
import Derived.Tactics2
import Derived.Laws.RangeAny
import Derived.Laws.Strings3
import Derived.Deep.LoopGhost
import Derived.Lib.IndexAny
import Derived.Lib.IndexBytes
import Derived.Shelf.Strings.IndexAnyAll
set_option linter.all false
namespace Go.Proofs.YtgghhaahnpbnmaaGreatDoor.Cod
open Eng Eng.Kz
set_option maxRecDepth 100000
abbrev Lp:=Kf.s1 1 Tryz.func82
abbrev LS:=Kf.s1 2 Tryz.func52
abbrev cv:AK:=pk (x:=Kc.code Tryz.prog Tryz.f54 3 [] (Kc.lr 0 [.tmp 2])) _
abbrev acr:AK:=pk (x:=cv.y.y.y) _
abbrev acu:=Kf.s1 3 Tryz.func54
abbrev KG:=Kf.s1 5 Tryz.func20
abbrev XZ:=Kf.k2 9 Tryz.func143
abbrev XY:=Kf.x2 9 Tryz.func143
abbrev X4:=Kf.k1 10 Tryz.func145
abbrev X1:=Kf.x1 10 Tryz.func145
abbrev FC:AK:=pk (x:=Kc.code Tryz.prog Tryz.f144 11 [] (Kc.lr 2 [.cell 4 true 3])) _
abbrev Yj:AK:=pk (x:=FC.y.y.y.y.y.y.y.y.y.y.y.y.y) _
abbrev FD:AK:=pk (x:=FC.y.y.y.y.y.y.y.y.y) _
abbrev Yk:=Kf.k2 11 Tryz.func144
abbrev FE:=Kf.x2 11 Tryz.func144
abbrev parse:AK:=pk (x:=Kc.code Tryz.prog Tryz.f115 12 [] (Kc.dG [2000001] (Kc.lr 0 [.cell 2 true 9,.cell 3 false 1]))) _
abbrev Wg:AK:=pk (x:=parse.x) _
abbrev Wh:AK:=pk (x:=parse.y.y) _
theorem Wi:gS Tryz.prog 115 12000 1 parse [.cell 2 true 9,.cell 3 false 1]:=⟨_,Tryz.func115,by kernel_rfl⟩
theorem Wm {h a0 Post} {V:Value} {t:TypeId} {q:IntKind} {z:Int} (hG:pC Tryz.prog 142 V t (.int q z)) (ht:bP Tryz.prog t=some 1) (hp:zN Tryz.prog Wg 3 Wh 1 [.cell 2 true 9,.cell 3 false 1] V q z [(0,a0)] h Post):Eng.Spec Tryz.prog 115 h [a0] Post:=Zv Wi rfl hG ht [(0,a0)] ⟨rfl,trivial⟩ hp
abbrev LI:=Kf.s1 13 Tryz.func72
abbrev LF:=Kf.s2 63 Tryz.func121
abbrev Rf:=Kf.s2 62 Tryz.func120
open Eng Eng.Kz
set_option maxRecDepth 100000
abbrev LR:=Kf.s1 4 Tryz.func21
abbrev OI:=Kf.s1 6 Tryz.func7
end Go.Proofs.YtgghhaahnpbnmaaGreatDoor.Cod
namespace Go.Proofs.YtgghhaahnpbnmaaGreatDoor.Cm
open Eng
set_option maxRecDepth 1000000
def kU:ByteArray:=⟨#[10,0]⟩
theorem Nt (r:Int) (h:128<=r) (h2:r<=2147483647):∃B:List UInt8,(Utf8.encode r).data.toList=B/\(B.length=2\/B.length=3\/B.length=4)/\∀b∈B,128<=b.toNat:=by
 refine⟨_,rfl,?_⟩;unfold Utf8.encode
 have hc:128<=(if Utf8.valid r then r.toNat else Utf8.runeError)/\(if Utf8.valid r then r.toNat else Utf8.runeError)<=0x10FFFF:=by
  split
  ·rename_i hv;simp[Utf8.valid]at hv;omega
  decide
 generalize (if Utf8.valid r then r.toNat else Utf8.runeError)=c at hc
 simp only;split;omega
 split
 ·refine⟨.inl rfl,λb hb=>?_⟩;simp at hb;rcases hb with rfl | rfl<;>simp[ada]<;>omega
 split
 ·refine⟨.inr (.inl rfl),λb hb=>?_⟩;simp at hb;rcases hb with rfl | rfl | rfl<;>simp[ada]<;>omega
 ·refine⟨.inr (.inr rfl),λb hb=>?_⟩;simp at hb;rcases hb with rfl | rfl | rfl | rfl<;>simp[ada]<;>omega
theorem Pd (s:ByteArray) (i k:Nat) (h:i+k<s.size):s.get! (i+k)=s[i+k]'h:=by
 show s.get! (i+k)=_
 simp[ByteArray.get!,getElem!_pos,h];rfl
theorem Mz (s:ByteArray) (i:Nat) (h:i<s.size) (ha:128<=(s[i]'h).toNat) (k:Nat) (hk:k<(Utf8.decode s i).2):∃hj:i+k<s.size,128<=(s[i+k]'hj).toNat:=by
 have key:k=0\/(i+k<s.size/\(s.get! (i+k)).toNat/64=2):=by
  have h0:¬(s.get! (i+0)).toNat<128:=by rw[get_at s i h];omega
  simp only[Utf8.decode,h0,if_false]at hk;split at hk
  ·rename_i hc;simp at hc
   have:k=0\/k=1:=by
    split at hk<;>simp at hk<;>omega
   rcases this with rfl | rfl;exact .inl rfl;exact .inr hc.2
  split at hk
  ·rename_i hc;simp at hc
   have:k=0\/k=1\/k=2:=by
    split at hk<;>simp at hk<;>omega
   rcases this with rfl | rfl | rfl;exact .inl rfl;exact .inr hc.1.2;exact .inr hc.2
  split at hk
  ·rename_i hc;simp at hc
   have:k=0\/k=1\/k=2\/k=3:=by
    split at hk<;>simp at hk<;>omega
   rcases this with rfl | rfl | rfl | rfl;exact .inl rfl;exact .inr hc.1.1.2;exact .inr hc.1.2;exact .inr hc.2
  ·simp at hk;exact .inl hk
 rcases key with rfl | ⟨h1,h2⟩;exact⟨h,ha⟩
 ·rw[Pd s i k h1]at h2;exact⟨h1,acB⟩
theorem Qr (s:List UInt8) (c:UInt8):aw Tryz.prog 147 [.str s,.int .u8 (c.toNat:Int)] (.int .i64 (Lib.indexByte s c)):=
 lj rfl rfl (λw=>by
  have:=Tryz.strings_IndexByte ⟨s.toArray⟩ (c.toNat:Int) w;rw[show((c.toNat:Int)).toNat.toUInt8=c by simp]at this
  exact this)
theorem abp (r:Int):aw Tryz.prog 148 [.int .i32 r] (.bool (Lib.validRune r)):=
 lj rfl rfl (λw=>Tryz.utf8_ValidRune r w)
theorem Re (r:Int) (h0:128<=r) (h1:r<=2147483647) (hne:r≠65533):aw Tryz.prog 120 [.str [10,0],.int .i32 r] (.int .i64 (-1)):=by
 refine Cod.Rf (λE R hN hR=>?_);obtain⟨B,hB,au,hhi⟩:=Nt r h0 h1;refine wW ?_;refine gG ?_;refine aj (abp r) rfl rfl ?_
 cases hv:Lib.validRune r with
 | false=>
  refine wW ?_
  exact hR.ro ⟨rfl,rfl⟩
 | true=>
  refine ah hB ?_;refine G3 hN 1 rfl (λ_:Unit=>⟨[],[]⟩) (λ_=>False) (λR1 _=>?_) (λ_ h=>h.elim);refine ah hB ?_;refine aJ hN (λ_:Unit=>⟨[(0,.str [10,0]),(1,.int .i32 r),(7,.str B),(8,.int .i64 ((B.length:Int)-1)),(9,.int .i64 ((B.length:Int)-1)),(10,.int .i64 0)],[]⟩) (λ_=>True) (λ_=>0) () (.le vV) trivial ?_;rintro _ R2 _ hR2;by_cases h2:B.length=2
  ·have hb1:128<=(B.getD 1 0).toNat:=by
    match B,h2,hhi with
    | [x,y],_,hhi=>exact hhi y (by simp)
   have hib:aw Tryz.prog 147 [.str [],.int .u8 ((B.getD 1 0).toNat:Int)] (.int .i64 (-1)):=Qr [] (B.getD 1 0);have hn:¬((0:Int)=((B.getD 1 0).toNat:Int)):=acB;refine ah h2 ?_;refine G3 hN 0 rfl (λ_:Unit=>⟨[],[]⟩) (λ_=>False) (λR3 _=>?_) (λ_ h=>h.elim);refine aV @Eng.jn h2 ?_;refine aj hib rfl rfl ?_;refine wW ?_;exact hR.ro ⟨rfl,rfl⟩
  ·refine wW ?_;exact hR.ro ⟨rfl,rfl⟩
theorem Yw (r:Int) (w:World) (hA:iH w) (h0:128<=r) (h1:r<=2147483647) :
    Calls Tryz.prog 120 #[.string kU,.int .i32 r] w λe w'=>e=.returned (.int .i64 (-1))/\Go.RowKit.Below w.heap.size w w':=by
 have hlo:decide (r<128)=false:=decide_eq_false acB;have h00:decide (0<=r)=true:=decide_eq_true acB;by_cases he:r=65533
 ·subst he
  go_enter Tryz.func120,Tryz.ntmps120
  go_wp2
  go_loopg [5,6] 2 (λg _ _ wx=>∃i:Nat,i+g=2/\wx=w.iter kU i)
  case atStart=>exact⟨0,acB,rfl⟩
  case round=>
   obtain⟨i,hig,rfl⟩:=hrel
   cases gk with
   | zero=>
    obtain rfl:i=2:=acB;have hnx:=λty=>run_next_end (P:=Tryz.prog) w kU 2 ty (by show ¬2<2;omega)
    go_wp2
    go_ret
    exact⟨rfl,(Go.RowKit.Below.refl _ _).alloc (acG _) _⟩
   | succ g=>
    have hi:i<kU.size:=by show i<2;omega
    obtain⟨x,hx⟩:∃x:UInt8,kU[i]'hi=x:=⟨_,rfl⟩
    have hx128:x.toNat<128:=by
     have:i=0\/i=1:=acB;rcases this with rfl | rfl
     ·rw[<-hx];show(10:UInt8).toNat<128;decide
     ·rw[<-hx];show(0:UInt8).toNat<128;decide
    have hnx:=λty=>run_next_ascii (P:=Tryz.prog) w kU i ty hi (by rw[hx];exact hx128);rw[hx]at hnx;have hne:((x.toNat:Int)==65533)=false:=beq_eq_false_iff_ne.2 acB
    go_wp2
    go_roundg g
    case measure=>omega
    case rel=>exact⟨i+1,acB,rfl⟩
 ·have:=Re r h0 h1 he (λ_=>False) aW w #[.string kU,.int .i32 r] (lT _ _ _) ⟨hA,λb _ hb=>fI hb⟩ (λ_ h=>h.elim) rfl (λj u y g1 g2=>?_)
  ·refine this.mono ?_;rintro e w' ⟨u,h',r',ρ',as',rfl,⟨rfl,rfl⟩,_,hr,_,_,q1,q2,q3,q4,q5,_⟩;rw[RV.Dn hr];exact⟨rfl,q1,q2,q3,q4,λb hb=>q5 b hb fI⟩
  ·match j,g1,g2 with
   | 0,g1,g2=>
    obtain rfl:=Option.some.inj g1;obtain rfl:=Option.some.inj g2
    exact eS (x:=.str [10,0]) rfl
   | 1,g1,g2=>
    obtain rfl:=Option.some.inj g1;obtain rfl:=Option.some.inj g2
    exact eS (x:=.int .i32 r) rfl
   | j+2,g1,g2=>simp at g2
end Go.Proofs.YtgghhaahnpbnmaaGreatDoor.Cm
namespace Go.Proofs.YtgghhaahnpbnmaaGreatDoor.Cm
open Go.Shelf Go.RowKit Go.Lib Eng
set_option maxRecDepth 1000000
section
variable {P:Program} {ρ:Ren}
theorem U6 (w:World) (k:Nat) (s:ByteArray) (pos:Nat) (ty:TypeId) (hk:w.heap[k]?=some (.stringIter s pos)) (h:pos<s.size) :
    (Instr.next (.pointer (some ⟨k,0,none⟩)) true ty).run P w =
     .ok (.tuple #[.bool true,.int .i64 pos,.int .i32 (Utf8.decode s pos).1]) {w with heap:=w.heap.setIfInBounds k (.stringIter s (pos+(Utf8.decode s pos).2))}:=by
 simp only[Instr.next,getObj,setObj,Sem.run_bind,Sem.run,hk,Result.andThen,h,if_true]
 simp[goInt]
theorem U7 (w:World) (k:Nat) (s:ByteArray) (pos:Nat) (ty:TypeId) (hk:w.heap[k]?=some (.stringIter s pos)) (h:¬pos<s.size) :
    (Instr.next (.pointer (some ⟨k,0,none⟩)) true ty).run P w=.ok (.tuple #[.bool false]) w:=by
 simp[Instr.next,getObj,Sem.run,hk,h]
theorem Eh {s chars:List UInt8} {i:Nat} (h:NoAny s chars i):∀(d:Nat),(∀k,k<d->∀b,s[i+k]?=some b->chars.contains b=false)->NoAny s chars (i+d)
 | 0,_=>h
 | d+1,hd=>by
  intro j b hj hb;by_cases e:j<i+d;exact Eh h d (λk hk=>hd k acB) j b e hb
  ·obtain rfl:j=i+d:=acB;exact hd d acB b hb
set_option maxHeartbeats 8000000 in
theorem Ik (L:Lays.n153 P ρ) (s chars:ByteArray) (w:World) (A:World->Prop) (hA:∀w',Below w.heap.size w w'->A w') (h2:2<=chars.size) (h8:s.size<=8)
    (hhi:∀b:UInt8,128<=b.toNat->chars.data.toList.contains b=false)
    (hru:∀(r:Int) (w':World),A w'->128<=r->r<=2147483647->Calls P (ρ.f 152) #[.string chars,.int .i32 r] w' λe w''=>e=.returned (.int .i64 (-1))/\Below w'.heap.size w' w'') :
    Calls P (ρ.f 153) #[.string s,.string chars] w λe w'=>e=.returned (.int .i64 (Lib.indexAny s.data.toList chars.data.toList))/\Below w.heap.size w w':=by
 have HA:Aside (∀w',Below w.heap.size w w'->A w'):=hA;have HH:Aside (∀b:UInt8,128<=b.toNat->chars.data.toList.contains b=false):=hhi;have HR:Aside (∀(r:Int) (w':World),A w'->128<=r->r<=2147483647->Calls P (ρ.f 152) #[.string chars,.int .i32 r] w' λe w''=>e=.returned (.int .i64 (-1))/\Below w'.heap.size w' w''):=hru;clear hA hhi hru
 have hemp:chars.toList.isEmpty=false:=by
  rw[Lib.toList_data]
  cases h:chars.data.toList with
  | nil=>have:=Lib.size_eq chars;rw[h,ac9]at this;omega
  | cons _ _=>rfl
 have hn1:((chars.size:Int)==1)=false:=beq_eq_false_iff_ne.2 acB;have h8z:decide ((8:Int)<(s.size:Int))=false:=decide_eq_false acB;have t3:=L.t3;have a3:=L.a3;have z3:=L.z3;have v3:=L.v3;have t4:=L.t4;have a4:=L.a4;have z4:=L.z4;have v4:=L.v4;have t5:=L.t5;have a5:=L.a5;have z5:=L.z5;have v5:=L.v5;have t9:=L.t9;have a9:=L.a9;have z9:=L.z9;have v9:=L.v9;have t21:=L.t21;have a21:=L.a21;have z21:=L.z21;have v21:=L.v21;have e152:∀args w,(callFunc (ρ.f 152) args).run P w=.ok (.enter (ρ.f 152) args) w:=enters_of L.f152 (by kernel_rfl) rfl;have e226:∀args w,(callFunc (ρ.f 226) args).run P w=.ok (.enter (ρ.f 226) args) w:=enters_of L.f226 (by kernel_rfl) rfl
 go_enter L.f153,Body.n153_ntmps ρ
 go_wp2_with (go_at_fn (ρ.f 226);refine(Any.strings_shouldUseASCIISet {L with} _ _).mono ?_;rintro e w' ⟨rfl,hw⟩;rw[hw,h8z])
 go_loopg [9,10] s.size (λg _ _ wx=>∃i:Nat,i+g=s.size/\wx.heap[w.heap.size]?=some (.stringIter s i)/\Below w.heap.size w wx/\Lib.NoAny s.data.toList chars.data.toList i)
 case atStart=>exact⟨0,acB,World.iter_heap _ _ _,(Below.refl _ _).alloc (acG _) _,Lib.NoAny.zero _ _⟩
 case round=>
  obtain⟨i,hig,hk,hbw,hno⟩:=hrel;have HN:Aside (Lib.NoAny s.data.toList chars.data.toList i):=hno;have HB:Aside (Below w.heap.size w wr):=hbw;clear hno hbw
  cases gk with
  | zero=>
   obtain rfl:i=s.size:=acB;have hnx:=λty=>U7 (P:=P) wr w.heap.size s s.size ty hk acB
   go_wp2
   go_ret
   exact⟨by rw[Lib.indexAny_none (by rw[<-Lib.size_eq];exact HN.out)];rfl,HB.out⟩
  | succ g=>
   have hi:i<s.size:=acB;have hnx:=λty=>U6 (P:=P) wr w.heap.size s i ty hk hi;have hlt:w.heap.size<wr.heap.size:=(Array.getElem?_eq_some_iff.1 hk).1;obtain⟨x,hx⟩:∃x:UInt8,s[i]'hi=x:=⟨_,rfl⟩;have hxl:s.data.toList[i]?=some x:=by rw[<-hx];exact Lib.data_getElem? s i hi
   obtain⟨W1,hW1⟩:∃W1:World,({wr with heap:=wr.heap.setIfInBounds w.heap.size (.stringIter s (i+(Utf8.decode s i).2))}:World)=W1:=⟨_,rfl⟩
   have hk1:W1.heap[w.heap.size]?=some (.stringIter s (i+(Utf8.decode s i).2)):=by
    rw[<-hW1];simp[hlt]
   have hb1:Below w.heap.size w W1:=by
    rw[<-hW1];refine HB.out.trans ⟨rfl,rfl,rfl,by simp,λk hkk=>?_⟩
    show(wr.heap.setIfInBounds w.heap.size _)[k]?=_
    rw[Array.getElem?_setIfInBounds_ne acB]
   have hs1:W1.heap.size=wr.heap.size:=by rw[<-hW1];simp
   rw[hW1]at hnx;have HB1:Aside (Below w.heap.size w W1):=hb1;have HK1:Aside (W1.heap[w.heap.size]?=some (.stringIter s (i+(Utf8.decode s i).2))):=hk1;clear hb1 hk1;by_cases h128:x.toNat<128
   ·have hd:=decode_ascii s i hi (by rw[hx];exact h128);rw[hx]at hd;rw[hd]at HK1;simp only[hd]at hnx;have Hx:Aside (s.data.toList[i]?=some x):=hxl;clear hxl hx hd hW1;have hcon:=Lib.contains_iff_indexByte chars.data.toList x;have hback:((x.toNat:Int)).toNat.toUInt8=x:=by simp
    cases hin:chars.data.toList.contains x
    ·rw[hin]at hcon;have hlt:¬((0:Int)<=Lib.indexByte chars.data.toList x):=of_decide_eq_false hcon.symm;clear hcon
     go_wp2_with (go_at_fn (ρ.f 152);refine(Any.strings_IndexRune_ascii {L with} _ _ _ acB acB).mono ?_;rintro e w' ⟨rfl,hw⟩;rw[hw,hback])
     go_roundg g
     case measure=>omega
     case rel=>exact⟨i+1,acB,HK1.out,HB1.out,HN.out.succ Hx.out hin⟩
    ·rw[hin]at hcon;have hge:(0:Int)<=Lib.indexByte chars.data.toList x:=of_decide_eq_true hcon.symm;clear hcon
     go_wp2_with (go_at_fn (ρ.f 152);refine(Any.strings_IndexRune_ascii {L with} _ _ _ acB acB).mono ?_;rintro e w' ⟨rfl,hw⟩;rw[hw,hback])
     go_ret
     exact⟨by rw[Lib.indexAny_hit HN.out Hx.out hin];rfl,HB1.out⟩
   ·obtain⟨hr1,hr2⟩:=decode_high s i hi (by rw[hx];omega);have hr3:=decode_le s i;have hcont:=λk=>Mz s i hi (by rw[hx];omega) k
    have hds:i+(Utf8.decode s i).2<=s.size:=by
     obtain⟨h,_⟩:=hcont ((Utf8.decode s i).2-1) acB;omega
    have HN2:Aside (NoAny s.data.toList chars.data.toList (i+(Utf8.decode s i).2)):=by
     refine Eh HN.out _ (λk hk b hb=>?_);obtain⟨hj,h1⟩:=hcont k hk;rw[Lib.data_getElem? s (i+k) hj]at hb;obtain rfl:=Option.some.inj hb;exact HH.out _ h1
    clear hcont hW1 hx hxl;have hc:=HR.out ((Utf8.decode s i).1:Int) W1 (HA.out _ HB1.out) acB acB;generalize hdd:Utf8.decode s i=dd at *
    obtain⟨r,d⟩:=dd;simp only at *
    have HD:Aside (i+d<=s.size/\1<=d):=⟨hds,hr2⟩;clear hds hr2
    go_wp2_with (go_at_fn (ρ.f 152);refine hc.mono ?_;rintro e w' ⟨rfl,hw⟩)
    go_roundg (s.size-(i+d))
    case measure=>have:=HD.out;omega
    case rel=>
     refine⟨i+d,by have:=HD.out;omega,?_,HB1.out.trans (hw.mono acB),HN2.out⟩;rw[hw.block _ acB];exact HK1.out
end
end Go.Proofs.YtgghhaahnpbnmaaGreatDoor.Cm
