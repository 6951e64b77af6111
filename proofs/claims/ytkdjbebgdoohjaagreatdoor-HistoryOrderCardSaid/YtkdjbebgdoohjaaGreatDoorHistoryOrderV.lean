/- The proof, part 22 of 50. -/
import Derived.Test.YtkdjbebgdoohjaaGreatDoorHistoryOrderQ
import Derived.Test.YtkdjbebgdoohjaaGreatDoorHistoryOrderU
import Derived.Test.YtkdjbebgdoohjaaGreatDoorProg
import Derived.KernelRfl
import Derived.Tactics
import Derived.Tactics2
import Derived.Laws.RangeAny
import Derived.Laws.Strings3
import Derived.Deep.LoopGhost
import Derived.Lib.IndexAny
import Derived.Lib.IndexBytes
import Derived.Shelf.Strings.IndexAnyAll
set_option linter.all false
namespace Go.Proofs.YtkdjbebgdoohjaaGreatDoor.Cm
open Eng
set_option maxRecDepth 1000000
def ko:ByteArray:=⟨#[10,0]⟩
theorem KT (r:Int) (h:128<=r) (h2:r<=2147483647):∃B:List UInt8,(Utf8.encode r).data.toList=B/\(B.length=2\/B.length=3\/B.length=4)/\∀b∈B,128<=b.toNat:=by
 refine⟨_,rfl,?_⟩;unfold Utf8.encode
 have hc:128<=(if Utf8.valid r then r.toNat else Utf8.runeError)/\(if Utf8.valid r then r.toNat else Utf8.runeError)<=0x10FFFF:=by
  split
  ·rename_i hv;simp[Utf8.valid]at hv;omega
  decide
 generalize (if Utf8.valid r then r.toNat else Utf8.runeError)=c at hc
 simp only;split;omega
 split
 ·refine⟨.inl rfl,λb hb=>?_⟩;simp at hb;rcases hb with rfl | rfl<;>simp[aaF]<;>omega
 split
 ·refine⟨.inr (.inl rfl),λb hb=>?_⟩;simp at hb;rcases hb with rfl | rfl | rfl<;>simp[aaF]<;>omega
 ·refine⟨.inr (.inr rfl),λb hb=>?_⟩;simp at hb;rcases hb with rfl | rfl | rfl | rfl<;>simp[aaF]<;>omega
theorem Mo (s:ByteArray) (i k:Nat) (h:i+k<s.size):s.get! (i+k)=s[i+k]'h:=by
 show s.get! (i+k)=_
 simp[ByteArray.get!,getElem!_pos,h];rfl
theorem J3 (s:ByteArray) (i:Nat) (h:i<s.size) (ha:128<=(s[i]'h).toNat) (k:Nat) (hk:k<(Utf8.decode s i).2):∃hj:i+k<s.size,128<=(s[i+k]'hj).toNat:=by
 have key:k=0\/(i+k<s.size/\(s.get! (i+k)).toNat/64=2):=by
  have h0:¬(s.get! (i+0)).toNat<128:=by rw[get_at s i h];omega
  simp only[Utf8.decode,h0,if_false]at hk;split at hk
  ·rename_i hc;simp at hc
   have:k=0\/k=1:=by
    split at hk<;>simp at hk<;>omega
   rcases this with rfl | rfl;exact .inl rfl;exact .inr hc.2
  split at hk
  ·rename_i hc;simp at hc
   have:k=0\/k=1\/k=2:=by
    split at hk<;>simp at hk<;>omega
   rcases this with rfl | rfl | rfl;exact .inl rfl;exact .inr hc.1.2;exact .inr hc.2
  split at hk
  ·rename_i hc;simp at hc
   have:k=0\/k=1\/k=2\/k=3:=by
    split at hk<;>simp at hk<;>omega
   rcases this with rfl | rfl | rfl | rfl;exact .inl rfl;exact .inr hc.1.1.2;exact .inr hc.1.2;exact .inr hc.2
  ·simp at hk;exact .inl hk
 rcases key with rfl | ⟨h1,h2⟩;exact⟨h,ha⟩
 ·rw[Mo s i k h1]at h2;exact⟨h1,ZG⟩
theorem Nw (s:List UInt8) (c:UInt8):aw Tryz.prog 210 [.str s,.int .u8 (c.toNat:Int)] (.int .i64 (Lib.indexByte s c)):=
 lC rfl rfl (λw=>by
  have:=Tryz.strings_IndexByte ⟨s.toArray⟩ (c.toNat:Int) w;rw[show((c.toNat:Int)).toNat.toUInt8=c by simp]at this
  exact this)
theorem YJ (r:Int):aw Tryz.prog 211 [.int .i32 r] (.bool (Lib.validRune r)):=
 lC rfl rfl (λw=>Tryz.utf8_ValidRune r w)
theorem Oj (r:Int) (h0:128<=r) (h1:r<=2147483647) (hne:r≠65533):aw Tryz.prog 191 [.str [10,0],.int .i32 r] (.int .i64 (-1)):=by
 refine Cod.Ol (λE R hN hR=>?_);obtain⟨B,hB,au,hhi⟩:=KT r h0 h1;refine wW ?_;refine gG ?_;refine an (YJ r) rfl rfl ?_
 cases hv:Lib.validRune r with
 | false=>
  refine wW ?_
  exact hR.ro ⟨rfl,rfl⟩
 | true=>
  refine ah hB ?_;refine ER hN 1 rfl (λ_:Unit=>⟨[],[]⟩) (λ_=>False) (λR1 _=>?_) (λ_ h=>h.elim);refine ah hB ?_;refine aP hN (λ_:Unit=>⟨[(0,.str [10,0]),(1,.int .i32 r),(7,.str B),(8,.int .i64 ((B.length:Int)-1)),(9,.int .i64 ((B.length:Int)-1)),(10,.int .i64 0)],[]⟩) (λ_=>True) (λ_=>0) () (.le vV) trivial ?_;rintro _ R2 _ hR2;by_cases h2:B.length=2
  ·have hb1:128<=(B.getD 1 0).toNat:=by
    match B,h2,hhi with
    | [x,y],_,hhi=>exact hhi y (by simp)
   have hib:=Nw [] (B.getD 1 0);have hn:¬((0:Int)=((B.getD 1 0).toNat:Int)):=ZG;refine ah h2 ?_;refine ER hN 0 rfl (λ_:Unit=>⟨[],[]⟩) (λ_=>False) (λR3 _=>?_) (λ_ h=>h.elim);refine aE @Eng.jn h2 ?_;refine an hib rfl rfl ?_;simp(disch:=omega)only[go_sem,simprocAttr,Lib.indexByte];exact hR.ro ⟨rfl,rfl⟩
  ·refine wW ?_;exact hR.ro ⟨rfl,rfl⟩
theorem VB (r:Int) (w:World) (hA:hV w) (h0:128<=r) (h1:r<=2147483647) :
    Calls Tryz.prog 191 #[.string ko,.int .i32 r] w λe w'=>e=.returned (.int .i64 (-1))/\Go.RowKit.Below w.heap.size w w':=by
 have hlo:decide (r<128)=false:=decide_eq_false ZG;have h00:decide (0<=r)=true:=decide_eq_true ZG;by_cases he:r=65533
 ·subst he
  go_enter Tryz.func191,Tryz.ntmps191
  go_wp2
  go_loopg [5,6] 2 (λg _ _ wx=>∃i:Nat,i+g=2/\wx=w.iter ko i)
  case atStart=>exact⟨0,ZG,rfl⟩
  case round=>
   obtain⟨i,hig,rfl⟩:=hrel
   cases gk with
   | zero=>
    obtain rfl:i=2:=ZG;have hnx:=λty=>run_next_end (P:=Tryz.prog) w ko 2 ty (by show ¬2<2;omega)
    go_wp2
    go_ret
    exact⟨rfl,(Go.RowKit.Below.refl _ _).alloc (ZM _) _⟩
   | succ g=>
    have hi:i<ko.size:=by show i<2;omega
    obtain⟨x,hx⟩:∃x:UInt8,ko[i]'hi=x:=⟨_,rfl⟩
    have hx128:x.toNat<128:=by
     have:i=0\/i=1:=ZG;rcases this with rfl | rfl
     ·rw[<-hx];show(10:UInt8).toNat<128;decide
     ·rw[<-hx];show(0:UInt8).toNat<128;decide
    have hnx:=λty=>run_next_ascii (P:=Tryz.prog) w ko i ty hi (by rw[hx];exact hx128);rw[hx]at hnx;have hne:((x.toNat:Int)==65533)=false:=beq_eq_false_iff_ne.2 ZG
    go_wp2
    go_roundg g
    case measure=>omega
    case rel=>exact⟨i+1,ZG,rfl⟩
 ·have:=Oj r h0 h1 he (λ_=>False) aV w #[.string ko,.int .i32 r] (l7 _ _ _) ⟨hA,λb _ hb=>gl hb⟩ (λ_ h=>h.elim) rfl (λj u y g1 g2=>?_)
  ·refine this.mono ?_;rintro e w' ⟨u,h',r',ρ',as',rfl,⟨rfl,rfl⟩,_,hr,_,_,q1,q2,q3,q4,q5,_⟩;rw[RV.BM hr];exact⟨rfl,q1,q2,q3,q4,λb hb=>q5 b hb gl⟩
  ·match j,g1,g2 with
   | 0,g1,g2=>
    obtain rfl:=Option.some.inj g1;obtain rfl:=Option.some.inj g2
    exact eD (x:=.str [10,0]) rfl
   | 1,g1,g2=>
    obtain rfl:=Option.some.inj g1;obtain rfl:=Option.some.inj g2
    exact eD (x:=.int .i32 r) rfl
   | j+2,g1,g2=>simp at g2
end Go.Proofs.YtkdjbebgdoohjaaGreatDoor.Cm
namespace Go.Proofs.YtkdjbebgdoohjaaGreatDoor.Cm
open Go.Shelf Go.RowKit Go.Lib Eng
set_option maxRecDepth 1000000
section
variable {P:Program} {ρ:Ren}
theorem RI (w:World) (k:Nat) (s:ByteArray) (pos:Nat) (ty:TypeId) (hk:w.heap[k]?=some (.stringIter s pos)) (h:pos<s.size) :
    (Instr.next (.pointer (some ⟨k,0,none⟩)) true ty).run P w =
     .ok (.tuple #[.bool true,.int .i64 pos,.int .i32 (Utf8.decode s pos).1]) {w with heap:=w.heap.setIfInBounds k (.stringIter s (pos+(Utf8.decode s pos).2))}:=by
 simp only[Instr.next,getObj,setObj,Sem.run_bind,Sem.run,hk,Result.andThen,h,if_true]
 simp[goInt]
theorem RJ (w:World) (k:Nat) (s:ByteArray) (pos:Nat) (ty:TypeId) (hk:w.heap[k]?=some (.stringIter s pos)) (h:¬pos<s.size) :
    (Instr.next (.pointer (some ⟨k,0,none⟩)) true ty).run P w=.ok (.tuple #[.bool false]) w:=by
 simp[Instr.next,getObj,Sem.run,hk,h]
theorem CG {s chars:List UInt8} {i:Nat} (h:NoAny s chars i):∀(d:Nat),(∀k,k<d->∀b,s[i+k]?=some b->chars.contains b=false)->NoAny s chars (i+d)
 | 0,_=>h
 | d+1,hd=>by
  intro j b hj hb;by_cases e:j<i+d;exact CG h d (λk hk=>hd k ZG) j b e hb
  ·obtain rfl:j=i+d:=ZG;exact hd d ZG b hb
set_option maxHeartbeats 8000000 in
theorem F5 (L:Lays.n153 P ρ) (s chars:ByteArray) (w:World) (A:World->Prop) (hA:∀w',Below w.heap.size w w'->A w') (h2:2<=chars.size) (h8:s.size<=8)
    (hhi:∀b:UInt8,128<=b.toNat->chars.data.toList.contains b=false)
    (hru:∀(r:Int) (w':World),A w'->128<=r->r<=2147483647->Calls P (ρ.f 152) #[.string chars,.int .i32 r] w' λe w''=>e=.returned (.int .i64 (-1))/\Below w'.heap.size w' w'') :
    Calls P (ρ.f 153) #[.string s,.string chars] w λe w'=>e=.returned (.int .i64 (Lib.indexAny s.data.toList chars.data.toList))/\Below w.heap.size w w':=by
 have HA:Aside (∀w',Below w.heap.size w w'->A w'):=hA;have HH:Aside (∀b:UInt8,128<=b.toNat->chars.data.toList.contains b=false):=hhi;have HR:Aside (∀(r:Int) (w':World),A w'->128<=r->r<=2147483647->Calls P (ρ.f 152) #[.string chars,.int .i32 r] w' λe w''=>e=.returned (.int .i64 (-1))/\Below w'.heap.size w' w''):=hru;clear hA hhi hru
 have hemp:chars.toList.isEmpty=false:=by
  rw[Lib.toList_data]
  cases h:chars.data.toList with
  | nil=>have:=Lib.size_eq chars;rw[h,aai]at this;omega
  | cons _ _=>rfl
 have hn1:((chars.size:Int)==1)=false:=beq_eq_false_iff_ne.2 ZG;have h8z:decide ((8:Int)<(s.size:Int))=false:=decide_eq_false ZG;have t3:=L.t3;have a3:=L.a3;have z3:=L.z3;have v3:=L.v3;have t4:=L.t4;have a4:=L.a4;have z4:=L.z4;have v4:=L.v4;have t5:=L.t5;have a5:=L.a5;have z5:=L.z5;have v5:=L.v5;have t9:=L.t9;have a9:=L.a9;have z9:=L.z9;have v9:=L.v9;have t21:=L.t21;have a21:=L.a21;have z21:=L.z21;have v21:=L.v21;have e152:∀args w,(callFunc (ρ.f 152) args).run P w=.ok (.enter (ρ.f 152) args) w:=enters_of L.f152 (by kernel_rfl) rfl;have e226:∀args w,(callFunc (ρ.f 226) args).run P w=.ok (.enter (ρ.f 226) args) w:=enters_of L.f226 (by kernel_rfl) rfl
 go_enter L.f153,Body.n153_ntmps ρ
 go_wp2_with (go_at_fn (ρ.f 226);refine(Any.strings_shouldUseASCIISet {L with} _ _).mono ?_;rintro e w' ⟨rfl,hw⟩;rw[hw,h8z])
 go_loopg [9,10] s.size (λg _ _ wx=>∃i:Nat,i+g=s.size/\wx.heap[w.heap.size]?=some (.stringIter s i)/\Below w.heap.size w wx/\Lib.NoAny s.data.toList chars.data.toList i)
 case atStart=>exact⟨0,ZG,World.iter_heap _ _ _,(Below.refl _ _).alloc (ZM _) _,Lib.NoAny.zero _ _⟩
 case round=>
  obtain⟨i,hig,hk,hbw,hno⟩:=hrel;have HN:Aside (Lib.NoAny s.data.toList chars.data.toList i):=hno;have HB:Aside (Below w.heap.size w wr):=hbw;clear hno hbw
  cases gk with
  | zero=>
   obtain rfl:i=s.size:=ZG;have hnx:=λty=>RJ (P:=P) wr w.heap.size s s.size ty hk ZG
   go_wp2
   go_ret
   exact⟨by rw[Lib.indexAny_none (by rw[<-Lib.size_eq];exact HN.out)];rfl,HB.out⟩
  | succ g=>
   have hi:i<s.size:=ZG;have hnx:=λty=>RI (P:=P) wr w.heap.size s i ty hk hi;have hlt:w.heap.size<wr.heap.size:=(Array.getElem?_eq_some_iff.1 hk).1;obtain⟨x,hx⟩:∃x:UInt8,s[i]'hi=x:=⟨_,rfl⟩;have hxl:s.data.toList[i]?=some x:=by rw[<-hx];exact Lib.data_getElem? s i hi
   obtain⟨W1,hW1⟩:∃W1:World,({wr with heap:=wr.heap.setIfInBounds w.heap.size (.stringIter s (i+(Utf8.decode s i).2))}:World)=W1:=⟨_,rfl⟩
   have hk1:W1.heap[w.heap.size]?=some (.stringIter s (i+(Utf8.decode s i).2)):=by
    rw[<-hW1];simp[hlt]
   have hb1:Below w.heap.size w W1:=by
    rw[<-hW1];refine HB.out.trans ⟨rfl,rfl,rfl,by simp,λk hkk=>?_⟩
    show(wr.heap.setIfInBounds w.heap.size _)[k]?=_
    rw[Array.getElem?_setIfInBounds_ne ZG]
   have hs1:W1.heap.size=wr.heap.size:=by rw[<-hW1];simp
   rw[hW1]at hnx;have HB1:Aside (Below w.heap.size w W1):=hb1;have HK1:Aside (W1.heap[w.heap.size]?=some (.stringIter s (i+(Utf8.decode s i).2))):=hk1;clear hb1 hk1;by_cases h128:x.toNat<128
   ·have hd:=decode_ascii s i hi (by rw[hx];exact h128);rw[hx]at hd;rw[hd]at HK1;simp only[hd]at hnx;have Hx:Aside (s.data.toList[i]?=some x):=hxl;clear hxl hx hd hW1;have hcon:=Lib.contains_iff_indexByte chars.data.toList x;have hback:((x.toNat:Int)).toNat.toUInt8=x:=by simp
    cases hin:chars.data.toList.contains x
    ·rw[hin]at hcon;have hlt:¬((0:Int)<=Lib.indexByte chars.data.toList x):=of_decide_eq_false hcon.symm;clear hcon
     go_wp2_with (go_at_fn (ρ.f 152);refine(Any.strings_IndexRune_ascii {L with} _ _ _ ZG ZG).mono ?_;rintro e w' ⟨rfl,hw⟩;rw[hw,hback])
     go_roundg g
     case measure=>omega
     case rel=>exact⟨i+1,ZG,HK1.out,HB1.out,HN.out.succ Hx.out hin⟩
    ·rw[hin]at hcon;have hge:(0:Int)<=Lib.indexByte chars.data.toList x:=of_decide_eq_true hcon.symm;clear hcon
     go_wp2_with (go_at_fn (ρ.f 152);refine(Any.strings_IndexRune_ascii {L with} _ _ _ ZG ZG).mono ?_;rintro e w' ⟨rfl,hw⟩;rw[hw,hback])
     go_ret
     exact⟨by rw[Lib.indexAny_hit HN.out Hx.out hin];rfl,HB1.out⟩
   ·obtain⟨hr1,hr2⟩:=decode_high s i hi (by rw[hx];omega);have hr3:=decode_le s i;have hcont:=λk=>J3 s i hi (by rw[hx];omega) k
    have hds:i+(Utf8.decode s i).2<=s.size:=by
     obtain⟨h,_⟩:=hcont ((Utf8.decode s i).2-1) ZG;omega
    have HN2:Aside (NoAny s.data.toList chars.data.toList (i+(Utf8.decode s i).2)):=by
     refine CG HN.out _ (λk hk b hb=>?_);obtain⟨hj,h1⟩:=hcont k hk;rw[Lib.data_getElem? s (i+k) hj]at hb;obtain rfl:=Option.some.inj hb;exact HH.out _ h1
    clear hcont hW1 hx hxl;have hc:=HR.out ((Utf8.decode s i).1:Int) W1 (HA.out _ HB1.out) ZG ZG;generalize hdd:Utf8.decode s i=dd at *
    obtain⟨r,d⟩:=dd;simp only at *
    have HD:Aside (i+d<=s.size/\1<=d):=⟨hds,hr2⟩;clear hds hr2
    go_wp2_with (go_at_fn (ρ.f 152);refine hc.mono ?_;rintro e w' ⟨rfl,hw⟩)
    go_roundg (s.size-(i+d))
    case measure=>have:=HD.out;omega
    case rel=>
     refine⟨i+d,by have:=HD.out;omega,?_,HB1.out.trans (hw.mono ZG),HN2.out⟩;rw[hw.block _ ZG];exact HK1.out
end
end Go.Proofs.YtkdjbebgdoohjaaGreatDoor.Cm
