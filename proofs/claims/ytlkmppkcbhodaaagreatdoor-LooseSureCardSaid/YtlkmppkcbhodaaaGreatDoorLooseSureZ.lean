/- The proof, part 26 of 30. -/
import Derived.Test.YtlkmppkcbhodaaaGreatDoorLooseSureX
import Derived.Test.YtlkmppkcbhodaaaGreatDoorProg
import Derived.KernelRfl
set_option linter.all false
namespace Go.Proofs.YtlkmppkcbhodaaaGreatDoor.Cod
open Eng Eng.Kz
set_option maxRecDepth 100000
abbrev adlw_5:AK:=.reg [bi 37 .add 7 1,m 7 37] [0,1,6,7,2000000,2000001]
abbrev adlw_9:AK:=.reg [u 123023 23 (.mov (.t 0)),u 123024 24 (.mov (.t 0)),u 123025 25 (.nilc (.t 24)),u 123026 26 (.fldA false 1 1 (.t 25)),u 123027 27 (.ld false 1 (.t 26)),u 123028 28 (.mov (.t 0)),u 123029 29 (.nilc (.t 28)),u 123030 30 (.fldA false 0 1 (.t 29)),u 123031 31 (.ld false 1 (.t 30)),b 32 .add 27 31,.v 33 (.bin .add (.t 32) (.c (.int .u32 1))),.v 34 (.bin .rem (.t 33) (.c (.int .u32 65521))),.v 35 (.nilc (.t 23)),.v 36 (.fldA false 1 1 (.t 35)),.effN false 123000 (.st 1 (.t 36) (.t 34))] [0,1,6,7,2000000,2000001]
abbrev adlw_8:AK:=.seq (.reg [u 123010 10 (.mov (.t 0)),u 123011 11 (.mov (.t 0)),u 123012 12 (.nilc (.t 11)),u 123013 13 (.fldA false 0 1 (.t 12)),u 123014 14 (.ld false 1 (.t 13)),u 123015 15 (.mov (.t 1)),u 123016 16 (.mov (.t 4)),u 123017 17 (.sidx (.t 15) (.t 16)),u 123018 18 (.cvi .u32 (.t 17)),b 19 .add 14 18,.v 20 (.bin .rem (.t 19) (.c (.int .u32 65521))),.v 21 (.nilc (.t 10)),.v 22 (.fldA false 0 1 (.t 21)),.effN false 123000 (.st 1 (.t 22) (.t 20))] [0,1,6,7,2000000,2000001]) adlw_9
abbrev adlw_7:AK:=.seq (.reg [m 9 7,m 4 9] [0,1,4,6,7,2000000,2000001]) adlw_8
abbrev adlw_4:AK:=.seq (.block 1 adlw_7) adlw_5
abbrev adlw_3:AK:=.seq (.cond (.t 8) .skip (.exit 0)) adlw_4
abbrev adlw_2:AK:=.seq (.reg [b 8 .lss 7 6] [0,1,6,7,8,2000000,2000001]) adlw_3
abbrev adlw_L0:AK:=.loop adlw_2
abbrev adlw_0:AK:=.seq (.reg [m 5 1,.v 6 (.len true (.t 5)),k 7 (ci 0)] [0,1,6,7,2000000,2000001]) (.block 0 adlw_L0)
abbrev adlw:AK:=adlw_0
theorem adlw_fn:FnOK Tryz.prog 122 123000 2 adlw []:=⟨_,Tryz.func122,by kernel_rfl⟩
theorem adlw_spec {h:HP} {a0 a1:AV} {Post:HP→AV→List AV→Prop} (hp:HpN Tryz.prog adlw [] 2 [(0,a0),(1,a1),(2000000,a0),(2000001,a1)] h Post):Eng.Spec Tryz.prog 122 h [a0,a1] Post:=spec_fn adlw_fn rfl [(0,a0),(1,a1),(2000000,a0),(2000001,a1)] ⟨rfl,rfl,rfl,rfl,trivial⟩ hp
abbrev adls_1:AK:=.seq (.reg [u 124003 3 (.mov (.t 0)),u 124004 4 (.nilc (.t 3)),u 124005 5 (.fldA false 1 1 (.t 4)),u 124006 6 (.ld false 1 (.t 5)),u 124007 7 (.bin .shl (.t 6) (.c (.int .u64 16))),u 124008 8 (.mov (.t 0)),u 124009 9 (.nilc (.t 8)),u 124010 10 (.fldA false 0 1 (.t 9)),u 124011 11 (.ld false 1 (.t 10)),u 124012 12 (.bin .add (.t 11) (.c (.int .u32 1))),u 124013 13 (.bin .rem (.t 12) (.c (.int .u32 65521))),b 14 .or 7 13,m 2 14] [2,2000000]) .ret
abbrev adls_0:AK:=.seq (.reg [k 2 (.c (.int .u32 0))] [0,2000000]) adls_1
abbrev adls:AK:=adls_0
theorem adls_fn:FnOK Tryz.prog 123 124000 1 adls [.tmp 2]:=⟨_,Tryz.func123,by kernel_rfl⟩
theorem adls_spec {h:HP} {a0:AV} {Post:HP→AV→List AV→Prop} (hp:HpN Tryz.prog adls [.tmp 2] 1 [(0,a0),(2000000,a0)] h Post):Eng.Spec Tryz.prog 123 h [a0] Post:=spec_fn adls_fn rfl [(0,a0),(2000000,a0)] ⟨rfl,rfl,trivial⟩ hp
abbrev adler_3:AK:=.seq (.reg [.cal (some 6) false 125006 123 [(.t 3)],m 2 6] [2]) .ret
abbrev adler_2:AK:=.seq (.reg [m 4 0,.cal (some 5) false 125005 122 [(.t 3),(.t 4)]] [3]) adler_3
abbrev adler_1:AK:=.seq (.reg [.eff 3 false 125003 (.alloc [.int .u32 0,.int .u32 0])] [0,3]) adler_2
abbrev adler_0:AK:=.seq (.reg [k 2 (.c (.int .u32 0))] [0]) adler_1
abbrev adler:AK:=adler_0
theorem adler_fn:FnOK Tryz.prog 72 125000 1 adler [.tmp 2]:=⟨_,Tryz.func72,by kernel_rfl⟩
theorem adler_spec {h:HP} {a0:AV} {Post:HP→AV→List AV→Prop} (hp:HpN Tryz.prog adler [.tmp 2] 1 [(0,a0)] h Post):Eng.Spec Tryz.prog 72 h [a0] Post:=spec_fn adler_fn rfl [(0,a0)] ⟨rfl,trivial⟩ hp
abbrev frombig_3:AK:=.seq (.reg [m 18 3,m 2 18] [2]) .ret
abbrev frombig_9:AK:=.reg [bi 17 .add 7 1,m 7 17] [0,3,6,7]
abbrev frombig_12:AK:=.reg [m 10 3,.v 11 (.bin .shl (.t 10) (.c (.int .u64 8))),m 12 0,m 13 4,.v 14 (.sidx (.t 12) (.t 13)),.v 15 (.cvi .u64 (.t 14)),b 16 .or 11 15,m 3 16] [0,3,6,7]
abbrev frombig_11:AK:=.seq (.reg [m 9 7,m 4 9] [0,3,4,6,7]) frombig_12
abbrev frombig_8:AK:=.seq (.block 1 frombig_11) frombig_9
abbrev frombig_7:AK:=.seq (.cond (.t 8) .skip (.exit 0)) frombig_8
abbrev frombig_6:AK:=.seq (.reg [b 8 .lss 7 6] [0,3,6,7,8]) frombig_7
abbrev frombig_L0:AK:=.loop frombig_6
abbrev frombig_4:AK:=.seq (.reg [m 5 0,.v 6 (.len true (.t 5)),k 7 (ci 0)] [0,3,6,7]) (.block 0 frombig_L0)
abbrev frombig_2:AK:=.seq frombig_4 frombig_3
abbrev frombig_1:AK:=.seq (.reg [k 3 (.c (.int .u64 0))] [0,3]) frombig_2
abbrev frombig_0:AK:=.seq (.reg [k 2 (.c (.int .u64 0))] [0]) frombig_1
abbrev frombig:AK:=frombig_0
theorem frombig_fn:FnOK Tryz.prog 71 126000 1 frombig [.tmp 2]:=⟨_,Tryz.func71,by kernel_rfl⟩
theorem frombig_spec {h:HP} {a0:AV} {Post:HP→AV→List AV→Prop} (hp:HpN Tryz.prog frombig [.tmp 2] 1 [(0,a0)] h Post):Eng.Spec Tryz.prog 71 h [a0] Post:=spec_fn frombig_fn rfl [(0,a0)] ⟨rfl,trivial⟩ hp
abbrev zhead_1:AK:=.seq (.reg [m 5 0,.v 6 (.bin .and (.t 5) (.c (.int .u8 15))),.v 7 (.bin .eql (.t 6) (.c (.int .u8 8))),m 8 7,.gval 9 8 true false 134009 (.mov (.t 0)),.gval 10 8 true false 134010 (.bin .shr (.t 9) (.c (.int .u64 4))),.gval 11 8 true false 134011 (.bin .leq (.t 10) (.c (.int .u8 7))),.v 12 (.pick (.t 8) (.t 11) (.c (.bool false))),m 13 12,.gval 14 13 true false 134014 (.mov (.t 0)),.gval 15 13 true false 134015 (.cvi .i64 (.t 14)),.gval 16 13 true false 134016 (.bin .shl (.t 15) (.c (.int .u64 8))),.gval 17 13 true false 134017 (.mov (.t 1)),.gval 18 13 true false 134018 (.cvi .i64 (.t 17)),.gval 19 13 true false 134019 (.bin .or (.t 16) (.t 18)),.gval 20 13 true false 134020 (.bin .rem (.t 19) (ci 31)),.gval 21 13 true false 134021 (.bin .eql (.t 20) (ci 0)),.v 22 (.pick (.t 13) (.t 21) (.c (.bool false))),m 23 22,.gval 24 23 true false 134024 (.mov (.t 1)),.gval 25 23 true false 134025 (.bin .and (.t 24) (.c (.int .u8 32))),.gval 26 23 true false 134026 (.bin .eql (.t 25) (.c (.int .u8 0))),.v 27 (.pick (.t 23) (.t 26) (.c (.bool false))),m 4 27] [4]) .ret
abbrev zhead_0:AK:=.seq (.reg [k 4 (.c (.bool false))] [0,1]) zhead_1
abbrev zhead:AK:=zhead_0
theorem zhead_fn:FnOK Tryz.prog 69 134000 2 zhead [.tmp 4]:=⟨_,Tryz.func69,by kernel_rfl⟩
theorem zhead_spec {h:HP} {a0 a1:AV} {Post:HP→AV→List AV→Prop} (hp:HpN Tryz.prog zhead [.tmp 4] 2 [(0,a0),(1,a1)] h Post):Eng.Spec Tryz.prog 69 h [a0,a1] Post:=spec_fn zhead_fn rfl [(0,a0),(1,a1)] ⟨rfl,rfl,trivial⟩ hp
abbrev zread_9:AK:=.seq (.reg [m 74 9,m 75 10,bi 76 .add 75 6,m 6 74,m 7 76,k 8 (ci 0)] [6,7,8]) .ret
abbrev zread_12:AK:=.seq (.reg [k 6 (.c (.str [])),k 7 (ci 0),k 8 (ci 5)] [6,7,8]) .ret
abbrev zread_10:AK:=.seq (.reg [m 64 0,m 65 12,m 66 12,bi 67 .add 66 4,.v 68 (.slcS (.t 64) (some (.t 65)) (some (.t 67))),.cal (some 69) false 135069 71 [(.t 68)],.v 70 (.cvi .u32 (.t 69)),m 71 9,.cal (some 72) false 135072 72 [(.t 71)],b 73 .neq 70 72] [9,10,73]) (.cond (.t 73) zread_12 .skip)
abbrev zread_8:AK:=.seq zread_10 zread_9
abbrev zread_15:AK:=.seq (.reg [k 6 (.c (.str [])),k 7 (ci 0),k 8 (ci 6)] [6,7,8]) .ret
abbrev zread_13:AK:=.seq (.reg [m 59 0,.v 60 (.len true (.t 59)),m 61 12,b 62 .sub 60 61,bi 63 .lss 62 4] [0,9,10,12,63]) (.cond (.t 63) zread_15 .skip)
abbrev zread_7:AK:=.seq zread_13 zread_8
abbrev zread_6:AK:=.seq (.reg [m 55 1,bi 56 .add 55 2,m 57 10,b 58 .add 56 57,m 12 58] [0,9,10,12]) zread_7
abbrev zread_18:AK:=.seq (.reg [m 54 11,k 6 (.c (.str [])),k 7 (ci 0),m 8 54] [6,7,8]) .ret
abbrev zread_16:AK:=.seq (.reg [m 52 11,bi 53 .neq 52 0] [0,1,9,10,11,53]) (.cond (.t 53) zread_18 .skip)
abbrev zread_5:AK:=.seq zread_16 zread_6
abbrev zread_4:AK:=.seq (.reg [m 44 0,m 45 1,bi 46 .add 45 2,m 47 2,.cal (some 48) false 135048 70 [(.t 44),(.t 46),(.t 47)],m 43 48,.v 49 (.ext (.t 43) 0),.v 50 (.ext (.t 43) 1),.v 51 (.ext (.t 43) 2),m 9 49,m 10 50,m 11 51] [0,1,9,10,11]) zread_5
abbrev zread_21:AK:=.seq (.reg [k 6 (.c (.str [])),k 7 (ci 0),k 8 (ci 3)] [6,7,8]) .ret
abbrev zread_19:AK:=.seq (.reg [u 135034 34 (.mov (.t 0)),u 135035 35 (.mov (.t 1)),u 135036 36 (.sidx (.t 34) (.t 35)),u 135037 37 (.mov (.t 0)),u 135038 38 (.mov (.t 1)),u 135039 39 (.bin .add (.t 38) (ci 1)),u 135040 40 (.sidx (.t 37) (.t 39)),.cal (some 41) false 135041 69 [(.t 36),(.t 40)],.v 42 (.un .not (.t 41))] [0,1,2,42]) (.cond (.t 42) zread_21 .skip)
abbrev zread_3:AK:=.seq zread_19 zread_4
abbrev zread_24:AK:=.seq (.reg [k 6 (.c (.str [])),k 7 (ci 0),k 8 (ci 6)] [6,7,8]) .ret
abbrev zread_22:AK:=.seq (.reg [m 29 0,.v 30 (.len true (.t 29)),m 31 1,b 32 .sub 30 31,bi 33 .lss 32 2] [0,1,2,33]) (.cond (.t 33) zread_24 .skip)
abbrev zread_2:AK:=.seq zread_22 zread_3
abbrev zread_27:AK:=.seq (.reg [k 6 (.c (.str [])),k 7 (ci 0),k 8 (ci 1)] [6,7,8]) .ret
abbrev zread_25:AK:=.seq (.reg [m 13 1,bi 14 .lss 13 0,m 15 14,.gval 16 15 false false 135016 (.mov (.t 1)),.gval 17 15 false false 135017 (.mov (.t 0)),.gval 18 15 false false 135018 (.len true (.t 17)),.gval 19 15 false false 135019 (.bin .gtr (.t 16) (.t 18)),.v 20 (.pick (.t 15) (.c (.bool true)) (.t 19)),m 21 20,.gval 22 21 false false 135022 (.mov (.t 2)),.gval 23 21 false false 135023 (.bin .lss (.t 22) (ci 0)),.v 24 (.pick (.t 21) (.c (.bool true)) (.t 23)),m 25 24,.gval 26 25 false false 135026 (.mov (.t 2)),.gval 27 25 false false 135027 (.bin .gtr (.t 26) (ci 65536)),.v 28 (.pick (.t 25) (.c (.bool true)) (.t 27))] [0,1,2,28]) (.cond (.t 28) zread_27 .skip)
abbrev zread_1:AK:=.seq zread_25 zread_2
abbrev zread_0:AK:=.seq (.reg [k 6 (.c (.str [])),k 7 (ci 0),k 8 (ci 0)] [0,1,2]) zread_1
abbrev zread:AK:=zread_0
theorem zread_fn:FnOK Tryz.prog 39 135000 3 zread [.tmp 6,.tmp 7,.tmp 8]:=⟨_,Tryz.func39,by kernel_rfl⟩
theorem zread_spec {h:HP} {a0 a1 a2:AV} {Post:HP→AV→List AV→Prop} (hp:HpN Tryz.prog zread [.tmp 6,.tmp 7,.tmp 8] 3 [(0,a0),(1,a1),(2,a2)] h Post):Eng.Spec Tryz.prog 39 h [a0,a1,a2] Post:=spec_fn zread_fn rfl [(0,a0),(1,a1),(2,a2)] ⟨rfl,rfl,rfl,trivial⟩ hp
end Go.Proofs.YtlkmppkcbhodaaaGreatDoor.Cod
namespace Go.Proofs.YtlkmppkcbhodaaaGreatDoor.Pk
open Eng Sh
set_option maxRecDepth 10000
end Go.Proofs.YtlkmppkcbhodaaaGreatDoor.Pk
namespace Go.Proofs.YtlkmppkcbhodaaaGreatDoor.Pk
open Eng Sh
set_option maxRecDepth 10000
def adlF (p:Nat×Nat) (c:UInt8):Nat×Nat:=((p.1+c.toNat)%65521,(p.2+(p.1+c.toNat)%65521)%65521)
def adlS (t:Bs):Nat×Nat:=t.foldl adlF (1,0)
def adlV (t:Bs):Nat:=65536*(adlS t).2+(adlS t).1
theorem adlS_take (t:Bs) {k:Nat} (h:k<t.length):adlS (t.take (k+1))=adlF (adlS (t.take k)) (t.getD k 0):=by
 rw[take_succU t h];simp[adlS]
theorem adlF_lt (p:Nat×Nat) (c:UInt8):(adlF p c).1<65521∧(adlF p c).2<65521:=⟨Nat.mod_lt _ (by decide),Nat.mod_lt _ (by decide)⟩
theorem adlS_lt (t:Bs):(adlS t).1<65521∧(adlS t).2<65521:=by
 have:∀k,k≤t.length→(adlS (t.take k)).1<65521∧(adlS (t.take k)).2<65521:=by
  intro k
  cases k with
  | zero=>intro _;rw[List.take_zero];decide
  | succ k=>intro h;rw[adlS_take t h];exact adlF_lt _ _
 have h:=this t.length (Nat.le_refl _)
 rwa[List.take_of_length_le (Nat.le_refl _)]at h
theorem adlV_lt (t:Bs):adlV t<4294967296:=by
 have:=adlS_lt t
 unfold adlV;omega
def less1 (a:Nat):Nat:=(a+65520)%65521
theorem adlw_ok (t:Bs) (ht:t.length≤1000000000):Eng.Spec Tryz.prog 122 [(125003,.var [.int .u32 0,.int .u32 0])] [.vptr 125003 0,.str t]
    (fun h' v ar=>h'=[(125003,.var [.int .u32 (less1 (adlS t).1:Nat),.int .u32 ((adlS t).2:Nat)])]∧v=.tup []∧ar=[.vptr 125003 0,.str t]):=by
 refine Cod.adlw_spec (fun E R hN hR=>?_)
 simp(disch:=omega)only[go_sem,simprocAttr]
 refine vcW_loop hN (fun k:Nat=>⟨[(0,.vptr 125003 0),(1,.str t),(6,.int .i64 t.length),(7,.int .i64 k),(2000000,.vptr 125003 0),(2000001,.str t)],[(125003,.var [.int .u32 (less1 (adlS (t.take k)).1:Nat),.int .u32 ((adlS (t.take k)).2:Nat)])]⟩) (fun k=>k≤t.length) (fun k=>t.length-k) 0 (.le (by simp(disch:=omega)only[go_sem,simprocAttr];simp[adlS,less1])) (by omega) ?_
 rintro k R1 hk hR1
 by_cases hlt:k<t.length
 ·have hct:=adlS_take t hlt
  have hxl:=adlS_lt (t.take k)
  generalize adlS (t.take k)=x at *
  have hbl:=(t.getD k 0).toNat_lt
  obtain⟨xa,xb⟩:=x
  simp only at hxl
  have hc1:(adlS (t.take (k+1))).1=(xa+(t.getD k 0).toNat)%65521:=by rw[hct];rfl
  have hc2:(adlS (t.take (k+1))).2=(xb+(xa+(t.getD k 0).toNat)%65521)%65521:=by rw[hct];rfl
  generalize hb:(t.getD k 0).toNat=b at *
  have l1:less1 xa<65521:=Nat.mod_lt _ (by decide)
  have e2:(((less1 xa:Nat):Int)+(b:Int)).tmod 65521=((less1 ((xa+b)%65521):Nat):Int):=by
   rw[tmod_pos (by omega)]
   unfold less1
   omega
  have e3:(((xb:Nat):Int)+((less1 ((xa+b)%65521):Nat):Int)+1).tmod 65521=(((xb+(xa+b)%65521)%65521:Nat):Int):=by
   rw[tmod_pos (by omega)]
   unfold less1
   omega
  have l2:less1 ((xa+b)%65521)<65521:=Nat.mod_lt _ (by decide)
  simp(disch:=omega)only[go_sem,simprocAttr,hb,e2,e3]
  exact hR1 (k+1) _ (by omega) (by omega) (.le (by simp(disch:=omega)only[go_sem,simprocAttr,hc1,hc2]))
 ·obtain rfl:k=t.length:=by omega
  rw[List.take_of_length_le (Nat.le_refl _)]
  simp(disch:=omega)only[go_sem,simprocAttr]
  exact hR.le (by simp(disch:=omega)only[go_sem,simprocAttr]) ⟨rfl,rfl,rfl⟩
theorem or_16 {a b:Nat} (ha:a<65536) (hb:b<65536):bits .or .u32 (IntKind.u32.wrap ((b:Int)*2^min 16 32)) (a:Int)=((65536*b+a:Nat):Int):=by
 have h1:((b:Int)*2^min 16 32)=((b*65536:Nat):Int):=by
  rw[show((2:Int)^min 16 32)=65536 by decide];omega
 rw[h1,wrap_u32 (by omega)]
 show IntKind.u32.wrap ((BitVec.ofInt 32 ((b*65536:Nat):Int) ||| BitVec.ofInt 32 (a:Int)).toNat:Int)=_
 rw[BitVec.ofInt_natCast,BitVec.ofInt_natCast,BitVec.toNat_or,BitVec.toNat_ofNat,BitVec.toNat_ofNat,Nat.mod_eq_of_lt (by omega),Nat.mod_eq_of_lt (by omega)]
 have h2:b*65536 ||| a=65536*b+a:=by
  have h3:=Nat.shiftLeft_add_eq_or_of_lt (b:=a) (i:=16) (by omega) b
  rw[Nat.shiftLeft_eq,show(2:Nat)^16=65536 by decide]at h3
  omega
 rw[h2]
 exact wrap_u32 (by omega)
theorem adls_ok (t:Bs):Eng.Spec Tryz.prog 123 [(125003,.var [.int .u32 (less1 (adlS t).1:Nat),.int .u32 ((adlS t).2:Nat)])] [.vptr 125003 0]
    (fun h' v ar=>h'=[(125003,.var [.int .u32 (less1 (adlS t).1:Nat),.int .u32 ((adlS t).2:Nat)])]∧v=.int .u32 (adlV t:Nat)∧ar=[.vptr 125003 0]):=by
 refine Cod.adls_spec (fun E R hN hR=>?_)
 have hl:=adlS_lt t
 unfold adlV at hR
 generalize adlS t=x at *
 obtain⟨xa,xb⟩:=x
 simp only at hl hR ⊢
 have l1:less1 xa<65521:=Nat.mod_lt _ (by decide)
 have e1:(((less1 xa:Nat):Int)+1).tmod 65521=((xa:Nat):Int):=by
  rw[tmod_pos (by omega)]
  unfold less1
  omega
 have e2:=or_16 (a:=xa) (b:=xb) (by omega) (by omega)
 simp(disch:=omega)only[go_sem,simprocAttr,e1,e2]
 exact hR.le (by simp(disch:=omega)only[go_sem,simprocAttr]) ⟨rfl,rfl,rfl⟩
theorem adler_ok (t:Bs) (ht:t.length≤1000000000):SpecR Tryz.prog 72 [.str t] (.int .u32 (adlV t:Nat)):=by
 refine Cod.adler_spec (fun E R hN hR=>?_)
 have hw:=adlw_ok t ht
 have hs:=adls_ok t
 simp(disch:=omega)only[go_sem,simprocAttr]
 refine call_win [(125003,.var [.int .u32 0,.int .u32 0])] hw (by simp(disch:=omega)only[go_sem,simprocAttr]) nofun ?_
 rintro h' v ar ⟨rfl,rfl,rfl⟩
 refine⟨by simp(disch:=omega)only[go_sem,simprocAttr],rfl,?_⟩
 simp(disch:=omega)only[go_sem,simprocAttr]
 refine call_win [(125003,.var [.int .u32 (less1 (adlS t).1:Nat),.int .u32 ((adlS t).2:Nat)])] hs (by simp(disch:=omega)only[go_sem,simprocAttr]) nofun ?_
 rintro h' v ar ⟨rfl,rfl,rfl⟩
 refine⟨by simp(disch:=omega)only[go_sem,simprocAttr],rfl,?_⟩
 simp(disch:=omega)only[go_sem,simprocAttr]
 exact hR.ro ⟨rfl,rfl⟩
end Go.Proofs.YtlkmppkcbhodaaaGreatDoor.Pk
namespace Go.Proofs.YtlkmppkcbhodaaaGreatDoor.Pk
open Eng Sh
set_option maxRecDepth 10000
def bigN (t:Bs):Nat:=t.foldl (fun x c=>256*x+c.toNat) 0
theorem bigN_take (t:Bs) {k:Nat} (h:k<t.length):bigN (t.take (k+1))=256*bigN (t.take k)+(t.getD k 0).toNat:=by
 rw[take_succU t h];simp[bigN]
theorem bigN_lt (t:Bs):∀k,k≤t.length→bigN (t.take k)<256^k
 | 0,_=>by rw[List.take_zero];decide
 | k+1,h=>by
  have ih:=bigN_lt t k (by omega)
  have hb:=(t.getD k 0).toNat_lt
  rw[bigN_take t h,Nat.pow_succ]
  omega
theorem bigN_7 (t:Bs) {k:Nat} (h:k≤t.length) (h7:t.length≤6):bigN (t.take k)<281474976710656:=by
 have h1:=bigN_lt t k h
 have h2:256^k≤256^6:=Nat.pow_le_pow_right (by decide) (by omega)
 exact Nat.lt_of_lt_of_le h1 h2
theorem or_8 {x b:Nat} (hx:x<281474976710656) (hb:b<256):bits .or .u64 (IntKind.u64.wrap ((x:Int)*2^min 8 64)) (b:Int)=((256*x+b:Nat):Int):=by
 have h1:((x:Int)*2^min 8 64)=((x*256:Nat):Int):=by
  rw[show((2:Int)^min 8 64)=256 by decide];omega
 rw[h1,wrap_u64 (by omega)]
 show IntKind.u64.wrap ((BitVec.ofInt 64 ((x*256:Nat):Int) ||| BitVec.ofInt 64 (b:Int)).toNat:Int)=_
 rw[BitVec.ofInt_natCast,BitVec.ofInt_natCast,BitVec.toNat_or,BitVec.toNat_ofNat,BitVec.toNat_ofNat,Nat.mod_eq_of_lt (by omega),Nat.mod_eq_of_lt (by omega)]
 have h2:x*256 ||| b=256*x+b:=by
  have h3:=Nat.shiftLeft_add_eq_or_of_lt (b:=b) (i:=8) (by omega) x
  rw[Nat.shiftLeft_eq,show(2:Nat)^8=256 by decide]at h3
  omega
 rw[h2]
 exact wrap_u64 (by omega)
theorem or_8i {x b:Nat} (hx:x<281474976710656) (hb:b<256):bits .or .i64 (IntKind.i64.wrap ((x:Int)*2^min 8 64)) (b:Int)=((256*x+b:Nat):Int):=by
 have h1:((x:Int)*2^min 8 64)=((x*256:Nat):Int):=by
  rw[show((2:Int)^min 8 64)=256 by decide];omega
 rw[h1,wrap_id (by omega)]
 show IntKind.i64.wrap ((BitVec.ofInt 64 ((x*256:Nat):Int) ||| BitVec.ofInt 64 (b:Int)).toNat:Int)=_
 rw[BitVec.ofInt_natCast,BitVec.ofInt_natCast,BitVec.toNat_or,BitVec.toNat_ofNat,BitVec.toNat_ofNat,Nat.mod_eq_of_lt (by omega),Nat.mod_eq_of_lt (by omega)]
 have h2:x*256 ||| b=256*x+b:=by
  have h3:=Nat.shiftLeft_add_eq_or_of_lt (b:=b) (i:=8) (by omega) x
  rw[Nat.shiftLeft_eq,show(2:Nat)^8=256 by decide]at h3
  omega
 rw[h2]
 exact wrap_id (by omega)
theorem frombig_ok (t:Bs) (ht:t.length≤6):SpecR Tryz.prog 71 [.str t] (.int .u64 (bigN t:Nat)):=by
 refine Cod.frombig_spec (fun E R hN hR=>?_)
 simp(disch:=omega)only[go_sem,simprocAttr]
 refine vcW_loop hN (fun k:Nat=>⟨[(0,.str t),(3,.int .u64 (bigN (t.take k):Nat)),(6,.int .i64 t.length),(7,.int .i64 k)],[]⟩) (fun k=>k≤t.length) (fun k=>t.length-k) 0 (.le (by simp(disch:=omega)only[go_sem,simprocAttr];simp[bigN])) (by omega) ?_
 rintro k R1 hk hR1
 by_cases hlt:k<t.length
 ·have hct:=bigN_take t hlt
  have hxl:=bigN_7 t hk ht
  have hbl:=(t.getD k 0).toNat_lt
  have ho:=or_8 hxl hbl
  generalize bigN (t.take k)=x at *
  simp(disch:=omega)only[go_sem,simprocAttr,ho]
  exact hR1 (k+1) _ (by omega) (by omega) (.le (by simp(disch:=omega)only[go_sem,simprocAttr,hct]))
 ·obtain rfl:k=t.length:=by omega
  rw[List.take_of_length_le (Nat.le_refl _)]
  simp(disch:=omega)only[go_sem,simprocAttr]
  exact hR.ro ⟨rfl,rfl⟩
def headB (a b:Nat):Bool:=decide (a%16=8)&&(decide (a/16≤7)&&(decide ((256*a+b)%31=0)&&decide (b/32%2=0)))
theorem and_32 {b:Nat} (h:b<256):bits .and .u8 (b:Int) 32=((b/32%2*32:Nat):Int):=by
 have:∀b:Nat,b<256→bits .and .u8 (b:Int) 32=((b/32%2*32:Nat):Int):=by decide +kernel
 exact this b h
theorem zhead_ok (a b:UInt8):SpecR Tryz.prog 69 [.int .u8 a.toNat,.int .u8 b.toNat] (.bool (headB a.toNat b.toNat)):=by
 refine Cod.zhead_spec (fun E R hN hR=>?_)
 have ha:=a.toNat_lt
 have hb:=b.toNat_lt
 have e1:=u8_lo a
 have e2:=u8_hi a
 have e3:=or_8i (x:=a.toNat) (b:=b.toNat) (by omega) hb
 have e4:((256*a.toNat+b.toNat:Nat):Int).tmod 31=(((256*a.toNat+b.toNat)%31:Nat):Int):=by rw[tmod_pos (by omega)];omega
 have e5:=and_32 hb
 unfold headB at hR
 generalize a.toNat=x at *
 generalize b.toNat=y at *
 by_cases h1:x%16=8
 ·by_cases h2:x/16≤7
  ·by_cases h3:(256*x+y)%31=0
   ·by_cases h4:y/32%2=0
    ·rw[decide_eq_true h1,decide_eq_true h2,decide_eq_true h3,decide_eq_true h4]at hR
     rw[h1]at e1
     rw[h3]at e4
     rw[h4]at e5
     simp(disch:=omega)only[go_sem,simprocAttr,e1,e2,e3,e4,e5]
     (repeat(first | refine gskip_of ?_ | refine gcskip_of ?_ | refine gopen_of ?_)<;>simp(disch:=omega)only[go_sem,simprocAttr,e1,e2,e3,e4,e5])
     exact hR.ro ⟨rfl,rfl⟩
    ·rw[decide_eq_true h1,decide_eq_true h2,decide_eq_true h3,decide_eq_false h4]at hR
     rw[h1]at e1
     rw[h3]at e4
     rw[show y/32%2=1 by omega]at e5
     simp(disch:=omega)only[go_sem,simprocAttr,e1,e2,e3,e4,e5]
     (repeat(first | refine gskip_of ?_ | refine gcskip_of ?_ | refine gopen_of ?_)<;>simp(disch:=omega)only[go_sem,simprocAttr,e1,e2,e3,e4,e5])
     exact hR.ro ⟨rfl,rfl⟩
   ·rw[decide_eq_true h1,decide_eq_true h2,decide_eq_false h3]at hR
    rw[h1]at e1
    have hi:¬(((256*x+y)%31:Nat):Int)=0:=by omega
    simp(disch:=omega)only[go_sem,simprocAttr,e1,e2,e3,e4,hi]
    (repeat(first | refine gskip_of ?_ | refine gcskip_of ?_ | refine gopen_of ?_)<;>simp(disch:=omega)only[go_sem,simprocAttr,e1,e2,e3,e4,hi])
    exact hR.ro ⟨rfl,rfl⟩
  ·rw[decide_eq_true h1,decide_eq_false h2]at hR
   rw[h1]at e1
   have hi:¬((x/16:Nat):Int)≤7:=by omega
   simp(disch:=omega)only[go_sem,simprocAttr,e1,e2,hi]
   (repeat(first | refine gskip_of ?_ | refine gcskip_of ?_ | refine gopen_of ?_)<;>simp(disch:=omega)only[go_sem,simprocAttr,e1,e2,hi])
   exact hR.ro ⟨rfl,rfl⟩
 ·rw[decide_eq_false h1]at hR
  have hi:¬((x%16:Nat):Int)=8:=by omega
  simp(disch:=omega)only[go_sem,simprocAttr,e1,hi]
  (repeat(first | refine gskip_of ?_ | refine gcskip_of ?_ | refine gopen_of ?_)<;>simp(disch:=omega)only[go_sem,simprocAttr,e1,hi])
  exact hR.ro ⟨rfl,rfl⟩
end Go.Proofs.YtlkmppkcbhodaaaGreatDoor.Pk
namespace Go.Proofs.YtlkmppkcbhodaaaGreatDoor.Cod
open Eng Eng.Kz
set_option maxRecDepth 100000
abbrev bnew_2:AK:=.seq (.reg [m 10 0,m 11 1,m 12 1,.v 13 (.bld [.str [],.int .i64 0,.int .u64 0,.int .i64 0,.int .i64 0] [(0,1,(.t 10)),(1,1,(.t 11)),(4,1,(.t 12))]),.eff 14 false 40014 (.box 5 (.t 13)),m 4 14] [4]) .ret
abbrev bnew_1:AK:=.seq (.reg [m 5 1,m 6 0,.v 7 (.len true (.t 6)),.v 8 (.mm false (.t 5) (.t 7)),.v 9 (.mm true (ci 0) (.t 8)),m 1 9] [0,1]) bnew_2
abbrev bnew_0:AK:=.seq (.reg [k 4 (.c (.lit (.pointer none)))] [0,1]) bnew_1
abbrev bnew:AK:=bnew_0
theorem bnew_fn:FnOK Tryz.prog 119 40000 2 bnew [.tmp 4]:=⟨_,Tryz.func119,by kernel_rfl⟩
theorem bnew_spec {h:HP} {a0 a1:AV} {Post:HP→AV→List AV→Prop} (hp:HpN Tryz.prog bnew [.tmp 4] 2 [(0,a0),(1,a1)] h Post):Eng.Spec Tryz.prog 119 h [a0,a1] Post:=spec_fn bnew_fn rfl [(0,a0),(1,a1)] ⟨rfl,rfl,trivial⟩ hp
abbrev fill_5:AK:=.reg [m 51 0,.v 52 (.nilc (.t 51)),.v 53 (.fldA false 3 1 (.t 52)),.v 54 (.ld false 1 (.t 53)),bi 55 .add 54 8,.v 56 (.nilc (.t 51)),.v 57 (.fldA false 3 1 (.t 56)),.effN false 41000 (.st 1 (.t 57) (.t 55))] [0,1,2000000,2000001]
abbrev fill_4:AK:=.seq (.reg [m 44 0,.v 45 (.nilc (.t 44)),.v 46 (.fldA false 1 1 (.t 45)),.v 47 (.ld false 1 (.t 46)),bi 48 .add 47 1,.v 49 (.nilc (.t 44)),.v 50 (.fldA false 1 1 (.t 49)),.effN false 41000 (.st 1 (.t 50) (.t 48))] [0,1,2000000,2000001]) fill_5
abbrev fill_3:AK:=.seq (.reg [u 41022 22 (.mov (.t 0)),u 41023 23 (.nilc (.t 22)),u 41024 24 (.fldA false 2 1 (.t 23)),u 41025 25 (.ld false 1 (.t 24)),u 41026 26 (.mov (.t 0)),u 41027 27 (.nilc (.t 26)),u 41028 28 (.fldA false 0 1 (.t 27)),u 41029 29 (.ld false 1 (.t 28)),u 41030 30 (.mov (.t 0)),u 41031 31 (.nilc (.t 30)),u 41032 32 (.fldA false 1 1 (.t 31)),u 41033 33 (.ld false 1 (.t 32)),u 41034 34 (.sidx (.t 29) (.t 33)),u 41035 35 (.cvi .u64 (.t 34)),u 41036 36 (.mov (.t 0)),u 41037 37 (.nilc (.t 36)),u 41038 38 (.fldA false 3 1 (.t 37)),u 41039 39 (.ld false 1 (.t 38)),u 41040 40 (.bin .shl (.t 35) (.t 39)),b 41 .or 25 40,.v 42 (.nilc (.t 22)),.v 43 (.fldA false 2 1 (.t 42)),.effN false 41000 (.st 1 (.t 43) (.t 41))] [0,1,2000000,2000001]) fill_4
abbrev fill_6:AK:=.seq (.reg [m 4 0,.v 5 (.nilc (.t 4)),.v 6 (.fldA false 3 1 (.t 5)),.v 7 (.ld false 1 (.t 6)),u 41008 8 (.mov (.t 1)),b 9 .lss 7 8,m 10 9,.gval 11 10 true true 41011 (.mov (.t 0)),.gval 12 10 true true 41012 (.nilc (.t 11)),.gval 13 10 true true 41013 (.fldA false 1 1 (.t 12)),.gval 14 10 true true 41014 (.ld false 1 (.t 13)),.gval 15 10 true true 41015 (.mov (.t 0)),.gval 16 10 true true 41016 (.nilc (.t 15)),.gval 17 10 true true 41017 (.fldA false 0 1 (.t 16)),.gval 18 10 true true 41018 (.ld false 1 (.t 17)),.gval 19 10 true true 41019 (.len true (.t 18)),.gval 20 10 true false 41020 (.bin .lss (.t 14) (.t 19)),.v 21 (.pick (.t 10) (.t 20) (.c (.bool false)))] [0,1,21,2000000,2000001]) (.cond (.t 21) .skip (.exit 0))
abbrev fill_1:AK:=.seq fill_6 (.block 1 fill_3)
abbrev fill_L0:AK:=.loop fill_1
abbrev fill:AK:=(.block 0 fill_L0)
theorem fill_fn:FnOK Tryz.prog 202 41000 2 fill []:=⟨_,Tryz.func202,by kernel_rfl⟩
theorem fill_spec {h:HP} {a0 a1:AV} {Post:HP→AV→List AV→Prop} (hp:HpN Tryz.prog fill [] 2 [(0,a0),(1,a1),(2000000,a0),(2000001,a1)] h Post):Eng.Spec Tryz.prog 202 h [a0,a1] Post:=spec_fn fill_fn rfl [(0,a0),(1,a1),(2000000,a0),(2000001,a1)] ⟨rfl,rfl,rfl,rfl,trivial⟩ hp
abbrev peek_3:AK:=.seq (.reg [u 42015 15 (.mov (.t 0)),u 42016 16 (.nilc (.t 15)),u 42017 17 (.fldA false 2 1 (.t 16)),u 42018 18 (.ld false 1 (.t 17)),u 42019 19 (.mov (.t 1)),u 42020 20 (.bin .shl (.c (.int .u64 1)) (.t 19)),u 42021 21 (.bin .sub (.t 20) (.c (.int .u64 1))),u 42022 22 (.bin .and (.t 18) (.t 21)),u 42023 23 (.cvi .u32 (.t 22)),u 42024 24 (.mov (.t 1)),u 42025 25 (.mov (.t 0)),u 42026 26 (.nilc (.t 25)),u 42027 27 (.fldA false 3 1 (.t 26)),u 42028 28 (.ld false 1 (.t 27)),u 42029 29 (.mm false (.t 24) (.t 28)),u 42004 4 (.mov (.t 23)),m 5 29] [4,5,2000000,2000001]) .ret
abbrev peek_2:AK:=.seq (.reg [m 12 0,m 13 1,.cal (some 14) false 42014 202 [(.t 12),(.t 13)]] [0,1,2000000,2000001]) peek_3
abbrev peek_6:AK:=.seq (.reg [k 4 (.c (.int .u32 0)),k 5 (ci 0)] [4,5,2000000,2000001]) .ret
abbrev peek_4:AK:=.seq (.reg [m 6 1,bi 7 .lss 6 0,m 8 7,.gval 9 8 false false 42009 (.mov (.t 1)),.gval 10 8 false false 42010 (.bin .gtr (.t 9) (ci 32)),.v 11 (.pick (.t 8) (.c (.bool true)) (.t 10))] [0,1,11,2000000,2000001]) (.cond (.t 11) peek_6 .skip)
abbrev peek_1:AK:=.seq peek_4 peek_2
abbrev peek_0:AK:=.seq (.reg [k 4 (.c (.int .u32 0)),k 5 (ci 0)] [0,1,2000000,2000001]) peek_1
abbrev peek:AK:=peek_0
theorem peek_fn:FnOK Tryz.prog 183 42000 2 peek [.tmp 4,.tmp 5]:=⟨_,Tryz.func183,by kernel_rfl⟩
theorem peek_spec {h:HP} {a0 a1:AV} {Post:HP→AV→List AV→Prop} (hp:HpN Tryz.prog peek [.tmp 4,.tmp 5] 2 [(0,a0),(1,a1),(2000000,a0),(2000001,a1)] h Post):Eng.Spec Tryz.prog 183 h [a0,a1] Post:=spec_fn peek_fn rfl [(0,a0),(1,a1),(2000000,a0),(2000001,a1)] ⟨rfl,rfl,rfl,rfl,trivial⟩ hp
abbrev skip_6:AK:=.seq (.reg [k 4 (.c (.bool true))] [4,2000000,2000001]) .ret
abbrev skip_5:AK:=.seq (.reg [m 28 0,.v 29 (.nilc (.t 28)),.v 30 (.fldA false 3 1 (.t 29)),.v 31 (.ld false 1 (.t 30)),m 32 1,b 33 .sub 31 32,.v 34 (.nilc (.t 28)),.v 35 (.fldA false 3 1 (.t 34)),.effN false 43000 (.st 1 (.t 35) (.t 33))] [2000000,2000001]) skip_6
abbrev skip_4:AK:=.seq (.reg [m 20 0,.v 21 (.nilc (.t 20)),.v 22 (.fldA false 2 1 (.t 21)),.v 23 (.ld false 1 (.t 22)),m 24 1,b 25 .shr 23 24,.v 26 (.nilc (.t 20)),.v 27 (.fldA false 2 1 (.t 26)),.effN false 43000 (.st 1 (.t 27) (.t 25))] [0,1,2000000,2000001]) skip_5
abbrev skip_9:AK:=.seq (.reg [k 4 (.c (.bool false))] [4,2000000,2000001]) .ret
abbrev skip_7:AK:=.seq (.reg [m 14 0,.v 15 (.nilc (.t 14)),.v 16 (.fldA false 3 1 (.t 15)),.v 17 (.ld false 1 (.t 16)),m 18 1,b 19 .lss 17 18] [0,1,19,2000000,2000001]) (.cond (.t 19) skip_9 .skip)
abbrev skip_3:AK:=.seq skip_7 skip_4
abbrev skip_2:AK:=.seq (.reg [m 11 0,m 12 1,.cal (some 13) false 43013 202 [(.t 11),(.t 12)]] [0,1,2000000,2000001]) skip_3
abbrev skip_12:AK:=.seq (.reg [k 4 (.c (.bool false))] [4,2000000,2000001]) .ret
abbrev skip_10:AK:=.seq (.reg [m 5 1,bi 6 .lss 5 0,m 7 6,.gval 8 7 false false 43008 (.mov (.t 1)),.gval 9 7 false false 43009 (.bin .gtr (.t 8) (ci 32)),.v 10 (.pick (.t 7) (.c (.bool true)) (.t 9))] [0,1,10,2000000,2000001]) (.cond (.t 10) skip_12 .skip)
abbrev skip_1:AK:=.seq skip_10 skip_2
abbrev skip_0:AK:=.seq (.reg [k 4 (.c (.bool false))] [0,1,2000000,2000001]) skip_1
abbrev skip:AK:=skip_0
theorem skip_fn:FnOK Tryz.prog 184 43000 2 skip [.tmp 4]:=⟨_,Tryz.func184,by kernel_rfl⟩
theorem skip_spec {h:HP} {a0 a1:AV} {Post:HP→AV→List AV→Prop} (hp:HpN Tryz.prog skip [.tmp 4] 2 [(0,a0),(1,a1),(2000000,a0),(2000001,a1)] h Post):Eng.Spec Tryz.prog 184 h [a0,a1] Post:=spec_fn skip_fn rfl [(0,a0),(1,a1),(2000000,a0),(2000001,a1)] ⟨rfl,rfl,rfl,rfl,trivial⟩ hp
abbrev rbits_3:AK:=.seq (.reg [m 18 6,m 4 18,k 5 (.c (.bool true))] [4,5,2000000,2000001]) .ret
abbrev rbits_6:AK:=.seq (.reg [k 4 (.c (.int .u32 0)),k 5 (.c (.bool false))] [4,5,2000000,2000001]) .ret
abbrev rbits_4:AK:=.seq (.reg [m 14 0,m 15 1,.cal (some 16) false 44016 184 [(.t 14),(.t 15)],.v 17 (.un .not (.t 16))] [6,17,2000000,2000001]) (.cond (.t 17) rbits_6 .skip)
abbrev rbits_2:AK:=.seq rbits_4 rbits_3
abbrev rbits_1:AK:=.seq (.reg [m 9 0,m 10 1,.cal (some 11) false 44011 183 [(.t 9),(.t 10)],m 8 11,.v 12 (.ext (.t 8) 0),.v 13 (.ext (.t 8) 1),m 6 12,m 7 13] [0,1,6,2000000,2000001]) rbits_2
abbrev rbits_0:AK:=.seq (.reg [k 4 (.c (.int .u32 0)),k 5 (.c (.bool false))] [0,1,2000000,2000001]) rbits_1
abbrev rbits:AK:=rbits_0
theorem rbits_fn:FnOK Tryz.prog 161 44000 2 rbits [.tmp 4,.tmp 5]:=⟨_,Tryz.func161,by kernel_rfl⟩
theorem rbits_spec {h:HP} {a0 a1:AV} {Post:HP→AV→List AV→Prop} (hp:HpN Tryz.prog rbits [.tmp 4,.tmp 5] 2 [(0,a0),(1,a1),(2000000,a0),(2000001,a1)] h Post):Eng.Spec Tryz.prog 161 h [a0,a1] Post:=spec_fn rbits_fn rfl [(0,a0),(1,a1),(2000000,a0),(2000001,a1)] ⟨rfl,rfl,rfl,rfl,trivial⟩ hp
abbrev ralign_2:AK:=.reg [m 16 0,.v 17 (.nilc (.t 16)),.v 18 (.fldA false 3 1 (.t 17)),.v 19 (.ld false 1 (.t 18)),m 20 2,b 21 .sub 19 20,.v 22 (.nilc (.t 16)),.v 23 (.fldA false 3 1 (.t 22)),.effN false 45000 (.st 1 (.t 23) (.t 21))] [2000000]
abbrev ralign_1:AK:=.seq (.reg [m 8 0,.v 9 (.nilc (.t 8)),.v 10 (.fldA false 2 1 (.t 9)),.v 11 (.ld false 1 (.t 10)),m 12 2,b 13 .shr 11 12,.v 14 (.nilc (.t 8)),.v 15 (.fldA false 2 1 (.t 14)),.effN false 45000 (.st 1 (.t 15) (.t 13))] [0,2,2000000]) ralign_2
abbrev ralign_0:AK:=.seq (.reg [m 3 0,.v 4 (.nilc (.t 3)),.v 5 (.fldA false 3 1 (.t 4)),.v 6 (.ld false 1 (.t 5)),bi 7 .rem 6 8,m 2 7] [0,2,2000000]) ralign_1
abbrev ralign:AK:=ralign_0
theorem ralign_fn:FnOK Tryz.prog 203 45000 1 ralign []:=⟨_,Tryz.func203,by kernel_rfl⟩
theorem ralign_spec {h:HP} {a0:AV} {Post:HP→AV→List AV→Prop} (hp:HpN Tryz.prog ralign [] 1 [(0,a0),(2000000,a0)] h Post):Eng.Spec Tryz.prog 203 h [a0] Post:=spec_fn ralign_fn rfl [(0,a0),(2000000,a0)] ⟨rfl,rfl,trivial⟩ hp
abbrev rbytes_5:AK:=.seq (.reg [m 44 0,.v 45 (.nilc (.t 44)),.v 46 (.fldA false 0 1 (.t 45)),.v 47 (.ld false 1 (.t 46)),m 48 6,m 49 6,m 50 1,b 51 .add 49 50,.v 52 (.slcS (.t 47) (some (.t 48)) (some (.t 51))),m 4 52,k 5 (.c (.bool true))] [4,5,2000000,2000001]) .ret
abbrev rbytes_4:AK:=.seq (.reg [m 32 0,m 33 0,m 34 0,m 35 6,m 36 1,b 37 .add 35 36,.v 38 (.nilc (.t 32)),.v 39 (.fldA false 1 1 (.t 38)),.effN false 46000 (.st 1 (.t 39) (.t 37)),.v 40 (.nilc (.t 33)),.v 41 (.fldA false 2 1 (.t 40)),.effN false 46000 (.st 1 (.t 41) (.c (.int .u64 0))),.v 42 (.nilc (.t 34)),.v 43 (.fldA false 3 1 (.t 42)),.effN false 46000 (.st 1 (.t 43) (ci 0))] [0,1,6,2000000,2000001]) rbytes_5
abbrev rbytes_8:AK:=.seq (.reg [k 4 (.c (.str [])),k 5 (.c (.bool false))] [4,5,2000000,2000001]) .ret
abbrev rbytes_6:AK:=.seq (.reg [m 19 1,bi 20 .lss 19 0,m 21 20,.gval 22 21 false false 46022 (.mov (.t 1)),.gval 23 21 false false 46023 (.mov (.t 0)),.gval 24 21 false false 46024 (.nilc (.t 23)),.gval 25 21 false false 46025 (.fldA false 0 1 (.t 24)),.gval 26 21 false false 46026 (.ld false 1 (.t 25)),.gval 27 21 false false 46027 (.len true (.t 26)),.gval 28 21 false false 46028 (.mov (.t 6)),.gval 29 21 false false 46029 (.bin .sub (.t 27) (.t 28)),.gval 30 21 false false 46030 (.bin .gtr (.t 22) (.t 29)),.v 31 (.pick (.t 21) (.c (.bool true)) (.t 30))] [0,1,6,31,2000000,2000001]) (.cond (.t 31) rbytes_8 .skip)
abbrev rbytes_3:AK:=.seq rbytes_6 rbytes_4
abbrev rbytes_2:AK:=.seq (.reg [u 46009 9 (.mov (.t 0)),u 46010 10 (.nilc (.t 9)),u 46011 11 (.fldA false 1 1 (.t 10)),u 46012 12 (.ld false 1 (.t 11)),u 46013 13 (.mov (.t 0)),u 46014 14 (.nilc (.t 13)),u 46015 15 (.fldA false 3 1 (.t 14)),u 46016 16 (.ld false 1 (.t 15)),u 46017 17 (.bin .quo (.t 16) (ci 8)),b 18 .sub 12 17,m 6 18] [0,1,6,2000000,2000001]) rbytes_3
abbrev rbytes_1:AK:=.seq (.reg [m 7 0,.cal (some 8) false 46008 203 [(.t 7)]] [0,1,2000000,2000001]) rbytes_2
abbrev rbytes_0:AK:=.seq (.reg [k 4 (.c (.str [])),k 5 (.c (.bool false))] [0,1,2000000,2000001]) rbytes_1
abbrev rbytes:AK:=rbytes_0
theorem rbytes_fn:FnOK Tryz.prog 185 46000 2 rbytes [.tmp 4,.tmp 5]:=⟨_,Tryz.func185,by kernel_rfl⟩
theorem rbytes_spec {h:HP} {a0 a1:AV} {Post:HP→AV→List AV→Prop} (hp:HpN Tryz.prog rbytes [.tmp 4,.tmp 5] 2 [(0,a0),(1,a1),(2000000,a0),(2000001,a1)] h Post):Eng.Spec Tryz.prog 185 h [a0,a1] Post:=spec_fn rbytes_fn rfl [(0,a0),(1,a1),(2000000,a0),(2000001,a1)] ⟨rfl,rfl,rfl,rfl,trivial⟩ hp
abbrev rused_1:AK:=.seq (.reg [u 47003 3 (.mov (.t 0)),u 47004 4 (.nilc (.t 3)),u 47005 5 (.fldA false 1 1 (.t 4)),u 47006 6 (.ld false 1 (.t 5)),u 47007 7 (.mov (.t 0)),u 47008 8 (.nilc (.t 7)),u 47009 9 (.fldA false 3 1 (.t 8)),u 47010 10 (.ld false 1 (.t 9)),u 47011 11 (.bin .quo (.t 10) (ci 8)),u 47012 12 (.bin .sub (.t 6) (.t 11)),u 47013 13 (.mov (.t 0)),u 47014 14 (.nilc (.t 13)),u 47015 15 (.fldA false 4 1 (.t 14)),u 47016 16 (.ld false 1 (.t 15)),b 17 .sub 12 16,m 2 17] [2,2000000]) .ret
abbrev rused_0:AK:=.seq (.reg [k 2 (ci 0)] [0,2000000]) rused_1
abbrev rused:AK:=rused_0
theorem rused_fn:FnOK Tryz.prog 121 47000 1 rused [.tmp 2]:=⟨_,Tryz.func121,by kernel_rfl⟩
theorem rused_spec {h:HP} {a0:AV} {Post:HP→AV→List AV→Prop} (hp:HpN Tryz.prog rused [.tmp 2] 1 [(0,a0),(2000000,a0)] h Post):Eng.Spec Tryz.prog 121 h [a0] Post:=spec_fn rused_fn rfl [(0,a0),(2000000,a0)] ⟨rfl,rfl,trivial⟩ hp
abbrev rleft_1:AK:=.seq (.reg [u 48003 3 (.mov (.t 0)),u 48004 4 (.nilc (.t 3)),u 48005 5 (.fldA false 0 1 (.t 4)),u 48006 6 (.ld false 1 (.t 5)),u 48007 7 (.len true (.t 6)),u 48008 8 (.mov (.t 0)),u 48009 9 (.nilc (.t 8)),u 48010 10 (.fldA false 1 1 (.t 9)),u 48011 11 (.ld false 1 (.t 10)),u 48012 12 (.bin .sub (.t 7) (.t 11)),u 48013 13 (.bin .mul (ci 8) (.t 12)),u 48014 14 (.mov (.t 0)),u 48015 15 (.nilc (.t 14)),u 48016 16 (.fldA false 3 1 (.t 15)),u 48017 17 (.ld false 1 (.t 16)),b 18 .add 13 17,m 2 18] [2,2000000]) .ret
abbrev rleft_0:AK:=.seq (.reg [k 2 (ci 0)] [0,2000000]) rleft_1
abbrev rleft:AK:=rleft_0
theorem rleft_fn:FnOK Tryz.prog 187 48000 1 rleft [.tmp 2]:=⟨_,Tryz.func187,by kernel_rfl⟩
theorem rleft_spec {h:HP} {a0:AV} {Post:HP→AV→List AV→Prop} (hp:HpN Tryz.prog rleft [.tmp 2] 1 [(0,a0),(2000000,a0)] h Post):Eng.Spec Tryz.prog 187 h [a0] Post:=spec_fn rleft_fn rfl [(0,a0),(2000000,a0)] ⟨rfl,rfl,trivial⟩ hp
abbrev hnew_7:AK:=.seq (.reg [m 105 4,m 2 105,k 3 (ci 0)] [2,3]) .ret
abbrev hnew_10:AK:=.seq (.reg [k 2 (.c (.lit (.pointer none))),k 3 (ci 4)] [2,3]) .ret
abbrev hnew_8:AK:=.seq (.reg [m 86 7,bi 87 .gtr 86 0,m 88 87,.gval 89 88 true false 49089 (.mov (.t 8)),.gval 90 88 true false 49090 (.bin .gtr (.t 89) (ci 0)),.v 91 (.pick (.t 88) (.t 90) (.c (.bool false))),m 92 91,.gval 93 92 true false 49093 (.mov (.t 8)),.gval 94 92 true false 49094 (.bin .eql (.t 93) (ci 1)),.gval 95 92 true false 49095 (.mov (.t 94)),.gval 96 95 true false 49096 (.mov (.t 4)),.gval 97 95 true false 49097 (.nilc (.t 96)),.gval 98 95 true false 49098 (.fldA true 1 16 (.t 97)),.gval 99 95 true false 49099 (.idxP 16 1 (.t 98) (ci 1)),.gval 100 95 true false 49100 (.ld false 1 (.t 99)),.gval 101 95 true false 49101 (.bin .eql (.t 100) (ci 1)),.gval 102 92 true false 49102 (.pick (.t 95) (.t 101) (.c (.bool false))),.gval 103 92 true false 49103 (.un .not (.t 102)),.v 104 (.pick (.t 92) (.t 103) (.c (.bool false)))] [4,104]) (.cond (.t 104) hnew_10 .skip)
abbrev hnew_6:AK:=.seq hnew_8 hnew_7
abbrev hnew_15:AK:=.reg [m 44 9,bi 45 .add 44 1,m 9 45] [0,4,7,8,9]
abbrev hnew_25:AK:=.reg [bi 85 .add 67 1,m 67 85] [0,4,7,8,9,65,66,67]
abbrev hnew_30:AK:=.reg [m 75 4,m 76 4,.v 77 (.nilc (.t 76)),.v 78 (.fldA false 17 1 (.t 77)),.v 79 (.ld false 1 (.t 78)),m 80 10,.eff 81 false 49081 (.bsl 1 [(.t 80)]),.eff 82 false 49082 (.app 1 8 (.t 79) (.t 81)),.v 83 (.nilc (.t 75)),.v 84 (.fldA false 17 1 (.t 83)),.effN false 49000 (.st 1 (.t 84) (.t 82))] [0,4,7,8,9,65,66,67]
abbrev hnew_28:AK:=.seq (.reg [m 72 11,m 73 9,b 74 .eql 72 73] [0,4,7,8,9,10,65,66,67,74]) (.cond (.t 74) hnew_30 .skip)
abbrev hnew_27:AK:=.seq (.reg [m 69 67,.v 70 (.idxA 1 (.t 65) (.t 67)),.v 71 (.ld false 1 (.t 70)),m 10 69,m 11 71] [0,4,7,8,9,10,11,65,66,67]) hnew_28
abbrev hnew_24:AK:=.seq (.block 5 hnew_27) hnew_25
abbrev hnew_23:AK:=.seq (.cond (.t 68) .skip (.exit 4)) hnew_24
abbrev hnew_22:AK:=.seq (.reg [b 68 .lss 67 66] [0,4,7,8,9,65,66,67,68]) hnew_23
abbrev hnew_L1:AK:=.loop hnew_22
abbrev hnew_20:AK:=.seq (.reg [m 65 0,.v 66 (.len false (.t 65)),k 67 (ci 0)] [0,4,7,8,9,65,66,67]) (.block 4 hnew_L1)
abbrev hnew_34:AK:=.seq (.reg [k 2 (.c (.lit (.pointer none))),k 3 (ci 4)] [2,3]) .ret
abbrev hnew_32:AK:=.seq (.reg [m 63 7,bi 64 .lss 63 0] [0,4,7,8,9,64]) (.cond (.t 64) hnew_34 .skip)
abbrev hnew_19:AK:=.seq hnew_32 hnew_20
abbrev hnew_18:AK:=.seq (.reg [m 55 8,m 56 4,m 57 9,.v 58 (.nilc (.t 56)),.v 59 (.fldA true 1 16 (.t 58)),.v 60 (.idxP 16 1 (.t 59) (.t 57)),.v 61 (.ld false 1 (.t 60)),b 62 .add 55 61,m 8 62] [0,4,7,8,9]) hnew_19
abbrev hnew_17:AK:=.seq (.reg [m 46 7,.v 47 (.bin .mul (ci 2) (.t 46)),m 48 4,m 49 9,.v 50 (.nilc (.t 48)),.v 51 (.fldA true 1 16 (.t 50)),.v 52 (.idxP 16 1 (.t 51) (.t 49)),.v 53 (.ld false 1 (.t 52)),b 54 .sub 47 53,m 7 54] [0,4,7,8,9]) hnew_18
abbrev hnew_14:AK:=.seq (.block 3 hnew_17) hnew_15
abbrev hnew_35:AK:=.seq (.reg [m 42 9,bi 43 .leq 42 15] [0,4,7,8,9,43]) (.cond (.t 43) .skip (.exit 2))
abbrev hnew_13:AK:=.seq hnew_35 hnew_14
abbrev hnew_L0:AK:=.loop hnew_13
abbrev hnew_11:AK:=.seq (.reg [k 9 (ci 1)] [0,4,7,8,9]) (.block 2 hnew_L0)
abbrev hnew_5:AK:=.seq hnew_11 hnew_6
abbrev hnew_4:AK:=.seq (.reg [k 7 (ci 1),k 8 (ci 0)] [0,4,7,8]) hnew_5
abbrev hnew_42:AK:=.reg [bi 41 .add 21 1,m 21 41] [0,4,19,20,21]
abbrev hnew_46:AK:=.reg [m 31 4,u 49032 32 (.mov (.t 6)),u 49033 33 (.nilc (.t 31)),u 49034 34 (.fldA true 1 16 (.t 33)),u 49035 35 (.idxP 16 1 (.t 34) (.t 32)),u 49036 36 (.ld false 1 (.t 35)),u 49037 37 (.bin .add (.t 36) (ci 1)),u 49038 38 (.nilc (.t 31)),u 49039 39 (.fldA true 1 16 (.t 38)),.v 40 (.idxP 16 1 (.t 39) (.t 32)),.effN false 49000 (.st 1 (.t 40) (.t 37))] [0,4,19,20,21]
abbrev hnew_49:AK:=.seq (.reg [k 2 (.c (.lit (.pointer none))),k 3 (ci 1)] [2,3]) .ret
abbrev hnew_47:AK:=.seq (.reg [m 25 6,bi 26 .lss 25 0,m 27 26,.gval 28 27 false false 49028 (.mov (.t 6)),.gval 29 27 false false 49029 (.bin .gtr (.t 28) (ci 15)),.v 30 (.pick (.t 27) (.c (.bool true)) (.t 29))] [0,4,6,19,20,21,30]) (.cond (.t 30) hnew_49 .skip)
abbrev hnew_45:AK:=.seq hnew_47 hnew_46
abbrev hnew_44:AK:=.seq (.reg [.v 23 (.idxA 1 (.t 19) (.t 21)),.v 24 (.ld false 1 (.t 23)),m 6 24] [0,4,6,19,20,21]) hnew_45
abbrev hnew_41:AK:=.seq (.block 1 hnew_44) hnew_42
abbrev hnew_40:AK:=.seq (.cond (.t 22) .skip (.exit 0)) hnew_41
abbrev hnew_39:AK:=.seq (.reg [b 22 .lss 21 20] [0,4,19,20,21,22]) hnew_40
abbrev hnew_L2:AK:=.loop hnew_39
abbrev hnew_37:AK:=.seq (.reg [m 19 0,.v 20 (.len false (.t 19)),k 21 (ci 0)] [0,4,19,20,21]) (.block 0 hnew_L2)
abbrev hnew_3:AK:=.seq hnew_37 hnew_4
abbrev hnew_2:AK:=.seq (.reg [m 15 0,.eff 16 false 49016 (.app 1 8 (.c (.nilsl)) (.t 15)),.v 17 (.bld [.nilsl,.int .i64 0,.int .i64 0,.int .i64 0,.int .i64 0,.int .i64 0,.int .i64 0,.int .i64 0,.int .i64 0,.int .i64 0,.int .i64 0,.int .i64 0,.int .i64 0,.int .i64 0,.int .i64 0,.int .i64 0,.int .i64 0,.nilsl] [(0,1,(.t 16))]),.eff 18 false 49018 (.box 18 (.t 17)),m 4 18] [0,4]) hnew_3
abbrev hnew_53:AK:=.seq (.reg [k 2 (.c (.lit (.pointer none))),k 3 (ci 2)] [2,3]) .ret
abbrev hnew_51:AK:=.seq (.reg [m 12 0,.v 13 (.len false (.t 12)),bi 14 .gtr 13 320] [0,14]) (.cond (.t 14) hnew_53 .skip)
abbrev hnew_1:AK:=.seq hnew_51 hnew_2
abbrev hnew_0:AK:=.seq (.reg [k 2 (.c (.lit (.pointer none))),k 3 (ci 0)] [0]) hnew_1
abbrev hnew:AK:=hnew_0
theorem hnew_fn:FnOK Tryz.prog 176 49000 1 hnew [.tmp 2,.tmp 3]:=⟨_,Tryz.func176,by kernel_rfl⟩
theorem hnew_spec {h:HP} {a0:AV} {Post:HP→AV→List AV→Prop} (hp:HpN Tryz.prog hnew [.tmp 2,.tmp 3] 1 [(0,a0)] h Post):Eng.Spec Tryz.prog 176 h [a0] Post:=spec_fn hnew_fn rfl [(0,a0)] ⟨rfl,trivial⟩ hp
abbrev hread_4:AK:=.seq (.reg [k 4 (ci 0),k 5 (ci 3)] [4,5,2000000,2000001]) .ret
abbrev hread_9:AK:=.reg [m 21 9,bi 22 .add 21 1,m 9 22] [0,1,6,7,8,9,2000000,2000001]
abbrev hread_17:AK:=.seq (.reg [m 72 8,m 73 0,.v 74 (.nilc (.t 73)),.v 75 (.fldA false 17 1 (.t 74)),.v 76 (.ld false 1 (.t 75)),.v 77 (.len false (.t 76)),b 78 .eql 72 77] [0,1,6,7,8,9,78,2000000,2000001]) (.cond (.t 78) (.exit 0) .skip)
abbrev hread_16:AK:=.seq (.reg [m 63 7,m 64 0,m 65 9,.v 66 (.nilc (.t 64)),.v 67 (.fldA true 1 16 (.t 66)),.v 68 (.idxP 16 1 (.t 67) (.t 65)),.v 69 (.ld false 1 (.t 68)),b 70 .add 63 69,.v 71 (.bin .shl (.t 70) (.c (.int .u64 1))),m 7 71] [0,1,6,7,8,9,2000000,2000001]) hread_17
abbrev hread_15:AK:=.seq (.reg [m 55 8,m 56 0,m 57 9,.v 58 (.nilc (.t 56)),.v 59 (.fldA true 1 16 (.t 58)),.v 60 (.idxP 16 1 (.t 59) (.t 57)),.v 61 (.ld false 1 (.t 60)),b 62 .add 55 61,m 8 62] [0,1,6,7,8,9,2000000,2000001]) hread_16
abbrev hread_22:AK:=.seq (.reg [m 46 0,.v 47 (.nilc (.t 46)),.v 48 (.fldA false 17 1 (.t 47)),.v 49 (.ld false 1 (.t 48)),m 50 8,m 51 12,b 52 .add 50 51,.v 53 (.idxA 1 (.t 49) (.t 52)),.v 54 (.ld false 1 (.t 53)),m 4 54,k 5 (ci 0)] [4,5,2000000,2000001]) .ret
abbrev hread_20:AK:=.seq (.reg [m 38 12,m 39 0,m 40 9,.v 41 (.nilc (.t 39)),.v 42 (.fldA true 1 16 (.t 41)),.v 43 (.idxP 16 1 (.t 42) (.t 40)),.v 44 (.ld false 1 (.t 43)),b 45 .lss 38 44] [0,1,6,7,8,9,12,45,2000000,2000001]) (.cond (.t 45) hread_22 .skip)
abbrev hread_19:AK:=.seq (.reg [m 35 6,m 36 7,b 37 .sub 35 36,m 12 37] [0,1,6,7,8,9,12,2000000,2000001]) hread_20
abbrev hread_14:AK:=.seq hread_19 hread_15
abbrev hread_13:AK:=.seq (.reg [m 30 6,.v 31 (.bin .shl (.t 30) (.c (.int .u64 1))),m 32 10,.v 33 (.cvi .i64 (.t 32)),b 34 .or 31 33,m 6 34] [0,1,6,7,8,9,2000000,2000001]) hread_14
abbrev hread_25:AK:=.seq (.reg [k 4 (ci 0),k 5 (ci 6)] [4,5,2000000,2000001]) .ret
abbrev hread_23:AK:=.seq (.reg [m 28 11,.v 29 (.un .not (.t 28))] [0,1,6,7,8,9,10,29,2000000,2000001]) (.cond (.t 29) hread_25 .skip)
abbrev hread_12:AK:=.seq hread_23 hread_13
abbrev hread_11:AK:=.seq (.reg [m 24 1,.cal (some 25) false 50025 161 [(.t 24),(ci 1)],m 23 25,.v 26 (.ext (.t 23) 0),.v 27 (.ext (.t 23) 1),m 10 26,m 11 27] [0,1,6,7,8,9,10,11,2000000,2000001]) hread_12
abbrev hread_8:AK:=.seq (.block 1 hread_11) hread_9
abbrev hread_26:AK:=.seq (.reg [m 19 9,bi 20 .leq 19 15] [0,1,6,7,8,9,20,2000000,2000001]) (.cond (.t 20) .skip (.exit 0))
abbrev hread_7:AK:=.seq hread_26 hread_8
abbrev hread_L0:AK:=.loop hread_7
abbrev hread_5:AK:=.seq (.reg [k 9 (ci 1)] [0,1,6,7,8,9,2000000,2000001]) (.block 0 hread_L0)
abbrev hread_3:AK:=.seq hread_5 hread_4
abbrev hread_2:AK:=.seq (.reg [k 6 (ci 0),k 7 (ci 0),k 8 (ci 0)] [0,1,6,7,8,2000000,2000001]) hread_3
abbrev hread_30:AK:=.seq (.reg [k 4 (ci 0),k 5 (ci 3)] [4,5,2000000,2000001]) .ret
abbrev hread_28:AK:=.seq (.reg [m 13 0,.v 14 (.nilc (.t 13)),.v 15 (.fldA false 17 1 (.t 14)),.v 16 (.ld false 1 (.t 15)),.v 17 (.len false (.t 16)),bi 18 .eql 17 0] [0,1,18,2000000,2000001]) (.cond (.t 18) hread_30 .skip)
abbrev hread_1:AK:=.seq hread_28 hread_2
abbrev hread_0:AK:=.seq (.reg [k 4 (ci 0),k 5 (ci 0)] [0,1,2000000,2000001]) hread_1
abbrev hread:AK:=hread_0
theorem hread_fn:FnOK Tryz.prog 164 50000 2 hread [.tmp 4,.tmp 5]:=⟨_,Tryz.func164,by kernel_rfl⟩
theorem hread_spec {h:HP} {a0 a1:AV} {Post:HP→AV→List AV→Prop} (hp:HpN Tryz.prog hread [.tmp 4,.tmp 5] 2 [(0,a0),(1,a1),(2000000,a0),(2000001,a1)] h Post):Eng.Spec Tryz.prog 164 h [a0,a1] Post:=spec_fn hread_fn rfl [(0,a0),(1,a1),(2000000,a0),(2000001,a1)] ⟨rfl,rfl,rfl,rfl,trivial⟩ hp
end Go.Proofs.YtlkmppkcbhodaaaGreatDoor.Cod
