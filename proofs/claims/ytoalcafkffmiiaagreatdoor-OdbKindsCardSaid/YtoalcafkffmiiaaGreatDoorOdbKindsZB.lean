/- The proof, part 28 of 42. -/
import Derived.Test.YtoalcafkffmiiaaGreatDoorOdbKindsT
import Derived.Test.YtoalcafkffmiiaaGreatDoorProg
import Derived.KernelRfl
set_option linter.all false
namespace Go.Proofs.YtoalcafkffmiiaaGreatDoor.Cod
open Eng Eng.Kz
set_option maxRecDepth 100000
abbrev JA:AK:=.aa [m 33 0,m 34 4,.v 35 (.un .xor (.t 34)),.v 36 (.au (.t 33)),.v 37 (.aj false 0 1 (.t 36)),.an false 120000 (.st 1 (.t 37) (.t 35))] [2000000,2000001]
abbrev JF:AK:=.aa [bi 32 .add 13 1,m 13 32] [0,1,4,12,13,2000000,2000001]
abbrev Jy:AK:=.aa [bi 31 .add 22 1,m 22 31] [0,1,4,12,13,22,2000000,2000001]
abbrev Jz:AK:=.aa [m 24 4,.v 25 (.bin .shr (.t 24) (.c (.int .u64 1))),m 26 4,.v 27 (.bin .and (.t 26) (.c (.int .u32 1))),.v 28 (.un .neg (.t 27)),.v 29 (.bin .and (.c (.int .u32 3988292384)) (.t 28)),b 30 .xor 25 29,m 4 30] [0,1,4,12,13,22,2000000,2000001]
abbrev Jw:AK:=.seq (.block 3 Jz) Jy
abbrev Jv:AK:=.seq (.cond (.t 23) .skip (.exit 2)) Jw
abbrev Ju:AK:=.seq (.aa [bi 23 .lss 22 8] [0,1,4,12,13,22,23,2000000,2000001]) Jv
abbrev JH:AK:=.loop Ju
abbrev Jt:AK:=.seq (.aa [k 22 (ci 0)] [0,1,4,12,13,22,2000000,2000001]) (.block 2 JH)
abbrev Js:AK:=.seq (.aa [m 16 4,m 17 1,m 18 5,.v 19 (.cI (.t 17) (.t 18)),.v 20 (.bh .u32 (.t 19)),b 21 .xor 16 20,m 4 21] [0,1,4,12,13,2000000,2000001]) Jt
abbrev Jr:AK:=.seq (.aa [m 15 13,m 5 15] [0,1,4,5,12,13,2000000,2000001]) Js
abbrev JE:AK:=.seq (.block 1 Jr) JF
abbrev JD:AK:=.seq (.cond (.t 14) .skip (.exit 0)) JE
abbrev JC:AK:=.seq (.aa [b 14 .lss 13 12] [0,1,4,12,13,14,2000000,2000001]) JD
abbrev JG:AK:=.loop JC
abbrev JB:AK:=.seq (.aa [m 11 1,.v 12 (.len true (.t 11)),k 13 (ci 0)] [0,1,4,12,13,2000000,2000001]) (.block 0 JG)
abbrev Jq:AK:=.seq JB JA
abbrev Jp:AK:=.seq (.aa [m 6 0,.v 7 (.au (.t 6)),.v 8 (.aj false 0 1 (.t 7)),.v 9 (.ld false 1 (.t 8)),.v 10 (.un .xor (.t 9)),m 4 10] [0,1,4,2000000,2000001]) Jq
abbrev wV:AK:=Jp
theorem JI:aD Tryz.prog 189 120000 2 wV []:=⟨_,Tryz.func189,by kernel_rfl⟩
theorem JK {h a0 a1 Post} (hp:aI Tryz.prog wV [] 2 [(0,a0),(1,a1),(2000000,a0),(2000001,a1)] h Post):Eng.Spec Tryz.prog 189 h [a0,a1] Post:=aK JI rfl [(0,a0),(1,a1),(2000000,a0),(2000001,a1)] ⟨rfl,rfl,rfl,rfl,trivial⟩ hp
abbrev Jl:AK:=.seq (.aa [m 3 0,.v 4 (.au (.t 3)),.v 5 (.aj false 0 1 (.t 4)),.v 6 (.ld false 1 (.t 5)),m 2 6] [2,2000000]) .ret
abbrev Jk:AK:=.seq (.aa [k 2 (.c (.int .u32 0))] [0,2000000]) Jl
abbrev wU:AK:=Jk
theorem Jn:aD Tryz.prog 190 121000 1 wU [.tmp 2]:=⟨_,Tryz.func190,by kernel_rfl⟩
theorem Jo {h a0 Post} (hp:aI Tryz.prog wU [.tmp 2] 1 [(0,a0),(2000000,a0)] h Post):Eng.Spec Tryz.prog 190 h [a0] Post:=aK Jn rfl [(0,a0),(2000000,a0)] ⟨rfl,rfl,trivial⟩ hp
abbrev Jf:AK:=.seq (.aa [.ao (some 6) false 122006 190 [(.t 3)],m 2 6] [2]) .ret
abbrev Je:AK:=.seq (.aa [m 4 0,.ao (some 5) false 122005 189 [(.t 3),(.t 4)]] [3]) Jf
abbrev Jd:AK:=.seq (.aa [.eff 3 false 122003 (.alloc [.int .u32 0])] [0,3]) Je
abbrev Jc:AK:=.seq (.aa [k 2 (.c (.int .u32 0))] [0]) Jd
abbrev wS:AK:=Jc
theorem Jg:aD Tryz.prog 138 122000 1 wS [.tmp 2]:=⟨_,Tryz.func138,by kernel_rfl⟩
theorem Ji {h a0 Post} (hp:aI Tryz.prog wS [.tmp 2] 1 [(0,a0)] h Post):Eng.Spec Tryz.prog 138 h [a0] Post:=aK Jg rfl [(0,a0)] ⟨rfl,trivial⟩ hp
abbrev DX:AK:=.aa [bi 37 .add 7 1,m 7 37] [0,1,6,7,2000000,2000001]
abbrev D0:AK:=.aa [u 123023 23 (.ah (.t 0)),u 123024 24 (.ah (.t 0)),u 123025 25 (.au (.t 24)),u 123026 26 (.aj false 1 1 (.t 25)),u 123027 27 (.ld false 1 (.t 26)),u 123028 28 (.ah (.t 0)),u 123029 29 (.au (.t 28)),u 123030 30 (.aj false 0 1 (.t 29)),u 123031 31 (.ld false 1 (.t 30)),b 32 .add 27 31,.v 33 (.bin .add (.t 32) (.c (.int .u32 1))),.v 34 (.bin .rem (.t 33) (.c (.int .u32 65521))),.v 35 (.au (.t 23)),.v 36 (.aj false 1 1 (.t 35)),.an false 123000 (.st 1 (.t 36) (.t 34))] [0,1,6,7,2000000,2000001]
abbrev DZ:AK:=.seq (.aa [u 123010 10 (.ah (.t 0)),u 123011 11 (.ah (.t 0)),u 123012 12 (.au (.t 11)),u 123013 13 (.aj false 0 1 (.t 12)),u 123014 14 (.ld false 1 (.t 13)),u 123015 15 (.ah (.t 1)),u 123016 16 (.ah (.t 4)),u 123017 17 (.cI (.t 15) (.t 16)),u 123018 18 (.bh .u32 (.t 17)),b 19 .add 14 18,.v 20 (.bin .rem (.t 19) (.c (.int .u32 65521))),.v 21 (.au (.t 10)),.v 22 (.aj false 0 1 (.t 21)),.an false 123000 (.st 1 (.t 22) (.t 20))] [0,1,6,7,2000000,2000001]) D0
abbrev DY:AK:=.seq (.aa [m 9 7,m 4 9] [0,1,4,6,7,2000000,2000001]) DZ
abbrev DW:AK:=.seq (.block 1 DY) DX
abbrev DV:AK:=.seq (.cond (.t 8) .skip (.exit 0)) DW
abbrev DU:AK:=.seq (.aa [b 8 .lss 7 6] [0,1,6,7,8,2000000,2000001]) DV
abbrev D1:AK:=.loop DU
abbrev DS:AK:=.seq (.aa [m 5 1,.v 6 (.len true (.t 5)),k 7 (ci 0)] [0,1,6,7,2000000,2000001]) (.block 0 D1)
abbrev vB:AK:=DS
theorem D2:aD Tryz.prog 217 123000 2 vB []:=⟨_,Tryz.func217,by kernel_rfl⟩
theorem D4 {h a0 a1 Post} (hp:aI Tryz.prog vB [] 2 [(0,a0),(1,a1),(2000000,a0),(2000001,a1)] h Post):Eng.Spec Tryz.prog 217 h [a0,a1] Post:=aK D2 rfl [(0,a0),(1,a1),(2000000,a0),(2000001,a1)] ⟨rfl,rfl,rfl,rfl,trivial⟩ hp
abbrev DN:AK:=.seq (.aa [u 124003 3 (.ah (.t 0)),u 124004 4 (.au (.t 3)),u 124005 5 (.aj false 1 1 (.t 4)),u 124006 6 (.ld false 1 (.t 5)),u 124007 7 (.bin .shl (.t 6) (.c (.int .u64 16))),u 124008 8 (.ah (.t 0)),u 124009 9 (.au (.t 8)),u 124010 10 (.aj false 0 1 (.t 9)),u 124011 11 (.ld false 1 (.t 10)),u 124012 12 (.bin .add (.t 11) (.c (.int .u32 1))),u 124013 13 (.bin .rem (.t 12) (.c (.int .u32 65521))),b 14 .or 7 13,m 2 14] [2,2000000]) .ret
abbrev DM:AK:=.seq (.aa [k 2 (.c (.int .u32 0))] [0,2000000]) DN
abbrev vA:AK:=DM
theorem DP:aD Tryz.prog 218 124000 1 vA [.tmp 2]:=⟨_,Tryz.func218,by kernel_rfl⟩
theorem DR {h a0 Post} (hp:aI Tryz.prog vA [.tmp 2] 1 [(0,a0),(2000000,a0)] h Post):Eng.Spec Tryz.prog 218 h [a0] Post:=aK DP rfl [(0,a0),(2000000,a0)] ⟨rfl,rfl,trivial⟩ hp
abbrev DI:AK:=.seq (.aa [.ao (some 6) false 125006 218 [(.t 3)],m 2 6] [2]) .ret
abbrev DH:AK:=.seq (.aa [m 4 0,.ao (some 5) false 125005 217 [(.t 3),(.t 4)]] [3]) DI
abbrev DG:AK:=.seq (.aa [.eff 3 false 125003 (.alloc [.int .u32 0,.int .u32 0])] [0,3]) DH
abbrev DF:AK:=.seq (.aa [k 2 (.c (.int .u32 0))] [0]) DG
abbrev vz:AK:=DF
theorem DJ:aD Tryz.prog 181 125000 1 vz [.tmp 2]:=⟨_,Tryz.func181,by kernel_rfl⟩
theorem DL {h a0 Post} (hp:aI Tryz.prog vz [.tmp 2] 1 [(0,a0)] h Post):Eng.Spec Tryz.prog 181 h [a0] Post:=aK DJ rfl [(0,a0)] ⟨rfl,trivial⟩ hp
abbrev OC:AK:=.seq (.aa [m 18 3,m 2 18] [2]) .ret
abbrev OI:AK:=.aa [bi 17 .add 7 1,m 7 17] [0,3,6,7]
abbrev OA:AK:=.aa [m 10 3,.v 11 (.bin .shl (.t 10) (.c (.int .u64 8))),m 12 0,m 13 4,.v 14 (.cI (.t 12) (.t 13)),.v 15 (.bh .u64 (.t 14)),b 16 .or 11 15,m 3 16] [0,3,6,7]
abbrev Oz:AK:=.seq (.aa [m 9 7,m 4 9] [0,3,4,6,7]) OA
abbrev OH:AK:=.seq (.block 1 Oz) OI
abbrev OG:AK:=.seq (.cond (.t 8) .skip (.exit 0)) OH
abbrev OE:AK:=.seq (.aa [b 8 .lss 7 6] [0,3,6,7,8]) OG
abbrev OJ:AK:=.loop OE
abbrev OD:AK:=.seq (.aa [m 5 0,.v 6 (.len true (.t 5)),k 7 (ci 0)] [0,3,6,7]) (.block 0 OJ)
abbrev OB:AK:=.seq OD OC
abbrev Oy:AK:=.seq (.aa [k 3 (.c (.int .u64 0))] [0,3]) OB
abbrev Ox:AK:=.seq (.aa [k 2 (.c (.int .u64 0))] [0]) Oy
abbrev yr:AK:=Ox
theorem OK:aD Tryz.prog 73 126000 1 yr [.tmp 2]:=⟨_,Tryz.func73,by kernel_rfl⟩
theorem OM {h a0 Post} (hp:aI Tryz.prog yr [.tmp 2] 1 [(0,a0)] h Post):Eng.Spec Tryz.prog 73 h [a0] Post:=aK OK rfl [(0,a0)] ⟨rfl,trivial⟩ hp
abbrev aqR:AK:=.seq (.aa [m 5 0,.v 6 (.bin .and (.t 5) (.c (.int .u8 15))),.v 7 (.bin .eql (.t 6) (.c (.int .u8 8))),m 8 7,.af 9 8 true false 134009 (.ah (.t 0)),.af 10 8 true false 134010 (.bin .shr (.t 9) (.c (.int .u64 4))),.af 11 8 true false 134011 (.bin .leq (.t 10) (.c (.int .u8 7))),.v 12 (.pick (.t 8) (.t 11) (.c (.bool false))),m 13 12,.af 14 13 true false 134014 (.ah (.t 0)),.af 15 13 true false 134015 (.bh .i64 (.t 14)),.af 16 13 true false 134016 (.bin .shl (.t 15) (.c (.int .u64 8))),.af 17 13 true false 134017 (.ah (.t 1)),.af 18 13 true false 134018 (.bh .i64 (.t 17)),.af 19 13 true false 134019 (.bin .or (.t 16) (.t 18)),.af 20 13 true false 134020 (.bin .rem (.t 19) (ci 31)),.af 21 13 true false 134021 (.bin .eql (.t 20) (ci 0)),.v 22 (.pick (.t 13) (.t 21) (.c (.bool false))),m 23 22,.af 24 23 true false 134024 (.ah (.t 1)),.af 25 23 true false 134025 (.bin .and (.t 24) (.c (.int .u8 32))),.af 26 23 true false 134026 (.bin .eql (.t 25) (.c (.int .u8 0))),.v 27 (.pick (.t 23) (.t 26) (.c (.bool false))),m 4 27] [4]) .ret
abbrev aqQ:AK:=.seq (.aa [k 4 (.c (.bool false))] [0,1]) aqR
abbrev Dg:AK:=aqQ
theorem aqS:aD Tryz.prog 179 134000 2 Dg [.tmp 4]:=⟨_,Tryz.func179,by kernel_rfl⟩
theorem aqU {h a0 a1 Post} (hp:aI Tryz.prog Dg [.tmp 4] 2 [(0,a0),(1,a1)] h Post):Eng.Spec Tryz.prog 179 h [a0,a1] Post:=aK aqS rfl [(0,a0),(1,a1)] ⟨rfl,rfl,trivial⟩ hp
abbrev aro:AK:=.seq (.aa [m 74 9,m 75 10,bi 76 .add 75 6,m 6 74,m 7 76,k 8 (ci 0)] [6,7,8]) .ret
abbrev aq3:AK:=.seq (.aa [k 6 (.c (.str [])),k 7 (ci 0),k 8 (ci 5)] [6,7,8]) .ret
abbrev aq2:AK:=.seq (.aa [m 64 0,m 65 12,m 66 12,bi 67 .add 66 4,.v 68 (.bH (.t 64) (some (.t 65)) (some (.t 67))),.ao (some 69) false 135069 73 [(.t 68)],.v 70 (.bh .u32 (.t 69)),m 71 9,.ao (some 72) false 135072 181 [(.t 71)],b 73 .neq 70 72] [9,10,73]) (.cond (.t 73) aq3 .skip)
abbrev arn:AK:=.seq aq2 aro
abbrev aq5:AK:=.seq (.aa [k 6 (.c (.str [])),k 7 (ci 0),k 8 (ci 6)] [6,7,8]) .ret
abbrev aq4:AK:=.seq (.aa [m 59 0,.v 60 (.len true (.t 59)),m 61 12,b 62 .sub 60 61,bi 63 .lss 62 4] [0,9,10,12,63]) (.cond (.t 63) aq5 .skip)
abbrev arl:AK:=.seq aq4 arn
abbrev ark:AK:=.seq (.aa [m 55 1,bi 56 .add 55 2,m 57 10,b 58 .add 56 57,m 12 58] [0,9,10,12]) arl
abbrev aq7:AK:=.seq (.aa [m 54 11,k 6 (.c (.str [])),k 7 (ci 0),m 8 54] [6,7,8]) .ret
abbrev aq6:AK:=.seq (.aa [m 52 11,bi 53 .neq 52 0] [0,1,9,10,11,53]) (.cond (.t 53) aq7 .skip)
abbrev arj:AK:=.seq aq6 ark
abbrev ari:AK:=.seq (.aa [m 44 0,m 45 1,bi 46 .add 45 2,m 47 2,.ao (some 48) false 135048 180 [(.t 44),(.t 46),(.t 47)],m 43 48,.v 49 (.ext (.t 43) 0),.v 50 (.ext (.t 43) 1),.v 51 (.ext (.t 43) 2),m 9 49,m 10 50,m 11 51] [0,1,9,10,11]) arj
abbrev ara:AK:=.seq (.aa [k 6 (.c (.str [])),k 7 (ci 0),k 8 (ci 3)] [6,7,8]) .ret
abbrev aq8:AK:=.seq (.aa [u 135034 34 (.ah (.t 0)),u 135035 35 (.ah (.t 1)),u 135036 36 (.cI (.t 34) (.t 35)),u 135037 37 (.ah (.t 0)),u 135038 38 (.ah (.t 1)),u 135039 39 (.bin .add (.t 38) (ci 1)),u 135040 40 (.cI (.t 37) (.t 39)),.ao (some 41) false 135041 179 [(.t 36),(.t 40)],.v 42 (.un .not (.t 41))] [0,1,2,42]) (.cond (.t 42) ara .skip)
abbrev arh:AK:=.seq aq8 ari
abbrev arc:AK:=.seq (.aa [k 6 (.c (.str [])),k 7 (ci 0),k 8 (ci 6)] [6,7,8]) .ret
abbrev arb:AK:=.seq (.aa [m 29 0,.v 30 (.len true (.t 29)),m 31 1,b 32 .sub 30 31,bi 33 .lss 32 2] [0,1,2,33]) (.cond (.t 33) arc .skip)
abbrev aq9:AK:=.seq arb arh
abbrev arf:AK:=.seq (.aa [k 6 (.c (.str [])),k 7 (ci 0),k 8 (ci 1)] [6,7,8]) .ret
abbrev ard:AK:=.seq (.aa [m 13 1,bi 14 .lss 13 0,m 15 14,.af 16 15 false false 135016 (.ah (.t 1)),.af 17 15 false false 135017 (.ah (.t 0)),.af 18 15 false false 135018 (.len true (.t 17)),.af 19 15 false false 135019 (.bin .gtr (.t 16) (.t 18)),.v 20 (.pick (.t 15) (.c (.bool true)) (.t 19)),m 21 20,.af 22 21 false false 135022 (.ah (.t 2)),.af 23 21 false false 135023 (.bin .lss (.t 22) (ci 0)),.v 24 (.pick (.t 21) (.c (.bool true)) (.t 23)),m 25 24,.af 26 25 false false 135026 (.ah (.t 2)),.af 27 25 false false 135027 (.bin .gtr (.t 26) (ci 65536)),.v 28 (.pick (.t 25) (.c (.bool true)) (.t 27))] [0,1,2,28]) (.cond (.t 28) arf .skip)
abbrev aq1:AK:=.seq ard aq9
abbrev aq0:AK:=.seq (.aa [k 6 (.c (.str [])),k 7 (ci 0),k 8 (ci 0)] [0,1,2]) aq1
abbrev Di:AK:=aq0
theorem arp:aD Tryz.prog 132 135000 3 Di [.tmp 6,.tmp 7,.tmp 8]:=⟨_,Tryz.func132,by kernel_rfl⟩
theorem arq {h a0 a1 a2 Post} (hp:aI Tryz.prog Di [.tmp 6,.tmp 7,.tmp 8] 3 [(0,a0),(1,a1),(2,a2)] h Post):Eng.Spec Tryz.prog 132 h [a0,a1,a2] Post:=aK arp rfl [(0,a0),(1,a1),(2,a2)] ⟨rfl,rfl,rfl,trivial⟩ hp
end Go.Proofs.YtoalcafkffmiiaaGreatDoor.Cod
namespace Go.Proofs.YtoalcafkffmiiaaGreatDoor.Pk
open Eng Sh
set_option maxRecDepth 10000
def jY:W:=3988292384#32
def o9 (c:W):W:=(c >>> 1) ^^^ (jY &&& -(c &&& 1#32))
def crcIt (c:W):Nat→W
 | 0=>c
 | i+1=>o9 (crcIt c i)
def pb (c:W) (b:UInt8):W:=crcIt (c ^^^ BitVec.ofNat 32 b.toNat) 8
def jb (c:W) (t:Bs):W:=t.foldl pb c
def tY:W:=4294967295#32
def na (t:Bs):W := ~~~ (jb tY t)
def iP (r B:W):Nat→W
 | 0=>r
 | i+1=>if(iP r B i ^^^ (B >>> i)) &&& 1#32=1#32 then(iP r B i >>> 1) ^^^ jY else iP r B i >>> 1
theorem and_one (y:W):y &&& 1#32=if(y &&& 1#32)=1#32 then 1#32 else 0#32:=by
 split
 ·assumption
 ·rename_i h
  have h1:(y &&& 1#32).toNat=y.toNat%2:=by
   rw[BitVec.toNat_and,show(1#32).toNat=2^1-1 from rfl,Nat.and_two_pow_sub_one_eq_mod]
  apply BitVec.eq_of_toNat_eq
  rw[h1]
  have h2:¬y.toNat%2=1:=fun h3=>h (BitVec.eq_of_toNat_eq (by rw[h1,h3];rfl))
  show y.toNat%2=0
  omega
theorem wT (r B:W):∀i,crcIt (r ^^^ B) i=iP r B i ^^^ (B >>> i)
 | 0=>by simp[crcIt,iP]
 | i+1=>by
  have ih:=wT r B i
  unfold crcIt iP o9
  rw[ih,and_one]
  have hs:(iP r B i ^^^ B >>> i) >>> 1=(iP r B i >>> 1) ^^^ (B >>> (i+1)):=by
   rw[BitVec.ushiftRight_xor_distrib,BitVec.shiftRight_add]
  rw[hs]
  by_cases h:(iP r B i ^^^ B >>> i) &&& 1#32=1#32
  ·rw[if_pos h,if_pos rfl]
   have e:jY &&& -1#32=jY:=by decide
   rw[e,BitVec.xor_assoc,BitVec.xor_comm (B >>> (i+1)),←BitVec.xor_assoc]
  ·rw[if_neg h,if_neg (by decide)]
   have e:jY &&& -0#32=0#32:=by decide
   rw[e,BitVec.xor_zero]
theorem ars (r:W) (b:UInt8):iP r (BitVec.ofNat 32 b.toNat) 8=pb r b:=by
 have h:=wT r (BitVec.ofNat 32 b.toNat) 8
 have e:(BitVec.ofNat 32 b.toNat) >>> 8=0#32:=by
  apply BitVec.eq_of_toNat_eq
  have:=b.toNat_lt
  rw[BitVec.toNat_ushiftRight,BitVec.toNat_ofNat,Nat.mod_eq_of_lt (by omega),Nat.shiftRight_eq_div_pow]
  show b.toNat/256=0
  omega
 rw[e,BitVec.xor_zero]at h
 exact h.symm
theorem Jj (c:W) (t:Bs) {k:Nat} (h:k<t.length):jb c (t.take (k+1))=pb (jb c (t.take k)) (t.getD k 0):=by
 rw[oe t h];simp[jb]
theorem aoA (x:W):IntKind.u32.wrap (0-(x.toNat:Int))=((-x).toNat:Int):=by
 have hx:=x.isLt
 show(0-(x.toNat:Int))%4294967296=_
 rw[BitVec.toNat_neg]
 omega
theorem u8w (b:UInt8):(b.toNat:Int)=((BitVec.ofNat 32 b.toNat).toNat:Int):=by
 have:=b.toNat_lt
 rw[BitVec.toNat_ofNat,Nat.mod_eq_of_lt (by omega)]
theorem JJ (c:W) (t:Bs) (ht:t.length≤1000000000):Eng.Spec Tryz.prog 189 [(122003,.var [.int .u32 c.toNat])] [.ab 122003 0,.str t]
    (fun h' v ar=>h'=[(122003,.var [.int .u32 (~~~ (jb (~~~ c) t)).toNat])]∧v=.ai []∧ar=[.ab 122003 0,.str t]):=by
 refine Cod.JK (fun E R hN hR=>?_)
 have hnot:∀x:W,bits .xor .u32 (if IntKind.u32.signed=true then -1 else IntKind.u32.max) (x.toNat:Int)=((~~~x).toNat:Int):=fun x=>C2 x
 refine aw hnot ?_
 refine bm hN (fun k:Nat=>⟨[(0,.ab 122003 0),(1,.str t),(4,.int .u32 (jb (~~~ c) (t.take k)).toNat),(12,.int .i64 t.length),(13,.int .i64 k),(2000000,.ab 122003 0),(2000001,.str t)],[(122003,.var [.int .u32 c.toNat])]⟩) (fun k=>k≤t.length) (fun k=>t.length-k) 0 (.le (by simp(disch:=omega)only[go_sem,simprocAttr];simp[jb])) (by omega) ?_
 rintro k R1 hk hR1
 by_cases hlt:k<t.length
 ·have hct:=Jj (~~~ c) t hlt
  generalize jb (~~~ c) (t.take k)=x at *
  have hb:=u8w (t.getD k 0)
  have hx:=kh x (BitVec.ofNat 32 (t.getD k 0).toNat)
  rw[←hb]at hx
  have hbl:=(t.getD k 0).toNat_lt
  refine aw hx ?_
  refine bm hN (fun i:Nat=>⟨[(0,.ab 122003 0),(1,.str t),(4,.int .u32 (crcIt (x ^^^ BitVec.ofNat 32 (t.getD k 0).toNat) i).toNat),(12,.int .i64 t.length),(13,.int .i64 k),(22,.int .i64 i),(2000000,.ab 122003 0),(2000001,.str t)],[(122003,.var [.int .u32 c.toNat])]⟩) (fun i=>i≤8) (fun i=>8-i) 0 (.le (by simp(disch:=omega)only[go_sem,simprocAttr,crcIt])) (by omega) ?_
  rintro i R2 hi hR2
  by_cases hlt8:i<8
  ·have hst:crcIt (x ^^^ BitVec.ofNat 32 (t.getD k 0).toNat) (i+1)=o9 (crcIt (x ^^^ BitVec.ofNat 32 (t.getD k 0).toNat) i):=rfl
   generalize crcIt (x ^^^ BitVec.ofNat 32 (t.getD k 0).toNat) i=y at *
   have e1:(y.toNat:Int).fdiv (2^min 1 32)=(y >>> 1).toNat:=C5 y 1
   have e2:bits .and .u32 y.toNat 1=(y &&& 1#32).toNat:=mE y 1#32
   have e3:=aoA (y &&& 1#32)
   have e4:bits .and .u32 3988292384 (-(y &&& 1#32)).toNat=(jY &&& -(y &&& 1#32)).toNat:=mE jY _
   have e5:=kh (y >>> 1) (jY &&& -(y &&& 1#32))
   refine jD e1 e2 e3 e4 e5 ?_
   exact hR2 (i+1) _ (by omega) (by omega) (.le (by simp(disch:=omega)only[go_sem,simprocAttr,hst,o9]))
  ·obtain rfl:i=8:=by omega
   refine wW ?_
   exact hR1 (k+1) _ (by omega) (by omega) (.le (by simp(disch:=omega)only[go_sem,simprocAttr,hct,pb]))
 ·obtain rfl:k=t.length:=by omega
  rw[List.take_of_length_le (Nat.le_refl _)]
  refine aw hnot ?_
  exact hR.le vV ⟨rfl,rfl,rfl⟩
theorem Jm (c:W):Eng.Spec Tryz.prog 190 [(122003,.var [.int .u32 c.toNat])] [.ab 122003 0] (fun h' v ar=>h'=[(122003,.var [.int .u32 c.toNat])]∧v=.int .u32 c.toNat∧ar=[.ab 122003 0]):=by
 refine Cod.Jo (fun E R hN hR=>?_)
 refine wW ?_
 exact hR.le vV ⟨rfl,rfl,rfl⟩
theorem Jh (t:Bs) (ht:t.length≤1000000000):aO Tryz.prog 138 [.str t] (.int .u32 (na t).toNat):=by
 refine Cod.Ji (fun E R hN hR=>?_)
 have hw:=JJ 0#32 t ht
 rw[show ~~~ (0#32:W)=tY by decide,show ~~~ (jb tY t)=na t from rfl]at hw
 have hs:=Jm (na t)
 refine wW ?_
 refine bf [(122003,.var [.int .u32 (0#32).toNat])] hw vV nofun ?_
 rintro h' v ar ⟨rfl,rfl,rfl⟩
 refine⟨vV,rfl,?_⟩
 refine wW ?_
 refine bf [(122003,.var [.int .u32 (na t).toNat])] hs vV nofun ?_
 rintro h' v ar ⟨rfl,rfl,rfl⟩
 refine⟨vV,rfl,?_⟩
 refine wW ?_
 exact hR.ro ⟨rfl,rfl⟩
open Eng Sh
set_option maxRecDepth 10000
def oC (p:Nat×Nat) (c:UInt8):Nat×Nat:=((p.1+c.toNat)%65521,(p.2+(p.1+c.toNat)%65521)%65521)
def cP (t:Bs):Nat×Nat:=t.foldl oC (1,0)
def ko (t:Bs):Nat:=65536*(cP t).2+(cP t).1
theorem vw (t:Bs) {k:Nat} (h:k<t.length):cP (t.take (k+1))=oC (cP (t.take k)) (t.getD k 0):=by
 rw[oe t h];simp[cP]
theorem DD (p:Nat×Nat) (c:UInt8):(oC p c).1<65521∧(oC p c).2<65521:=⟨Nat.mod_lt _ (by decide),Nat.mod_lt _ (by decide)⟩
theorem rI (t:Bs):(cP t).1<65521∧(cP t).2<65521:=by
 have:∀k,k≤t.length→(cP (t.take k)).1<65521∧(cP (t.take k)).2<65521:=by
  intro k
  cases k with
  | zero=>intro _;rw[List.take_zero];decide
  | succ k=>intro h;rw[vw t h];exact DD _ _
 have h:=this t.length (Nat.le_refl _)
 rwa[List.take_of_length_le (Nat.le_refl _)]at h
theorem DE (t:Bs):ko t<4294967296:=by
 have:=rI t
 unfold ko;omega
def eR (a:Nat):Nat:=(a+65520)%65521
theorem D3 (t:Bs) (ht:t.length≤1000000000):Eng.Spec Tryz.prog 217 [(125003,.var [.int .u32 0,.int .u32 0])] [.ab 125003 0,.str t]
    (fun h' v ar=>h'=[(125003,.var [.int .u32 (eR (cP t).1:Nat),.int .u32 ((cP t).2:Nat)])]∧v=.ai []∧ar=[.ab 125003 0,.str t]):=by
 refine Cod.D4 (fun E R hN hR=>?_)
 refine wW ?_
 refine bm hN (fun k:Nat=>⟨[(0,.ab 125003 0),(1,.str t),(6,.int .i64 t.length),(7,.int .i64 k),(2000000,.ab 125003 0),(2000001,.str t)],[(125003,.var [.int .u32 (eR (cP (t.take k)).1:Nat),.int .u32 ((cP (t.take k)).2:Nat)])]⟩) (fun k=>k≤t.length) (fun k=>t.length-k) 0 (.le (by simp(disch:=omega)only[go_sem,simprocAttr];simp[cP,eR])) (by omega) ?_
 rintro k R1 hk hR1
 by_cases hlt:k<t.length
 ·have hct:=vw t hlt
  have hxl:=rI (t.take k)
  generalize cP (t.take k)=x at *
  have hbl:=(t.getD k 0).toNat_lt
  obtain⟨xa,xb⟩:=x
  simp only at hxl
  have hc1:(cP (t.take (k+1))).1=(xa+(t.getD k 0).toNat)%65521:=by rw[hct];rfl
  have hc2:(cP (t.take (k+1))).2=(xb+(xa+(t.getD k 0).toNat)%65521)%65521:=by rw[hct];rfl
  generalize hb:(t.getD k 0).toNat=b at *
  have l1:eR xa<65521:=Nat.mod_lt _ (by decide)
  have e2:(((eR xa:Nat):Int)+(b:Int)).tmod 65521=((eR ((xa+b)%65521):Nat):Int):=by
   rw[mz (by omega)]
   unfold eR
   omega
  have e3:(((xb:Nat):Int)+((eR ((xa+b)%65521):Nat):Int)+1).tmod 65521=(((xb+(xa+b)%65521)%65521:Nat):Int):=by
   rw[mz (by omega)]
   unfold eR
   omega
  have l2:eR ((xa+b)%65521)<65521:=Nat.mod_lt _ (by decide)
  refine dz hb e2 e3 ?_
  exact hR1 (k+1) _ (by omega) (by omega) (.le (om hc1 hc2))
 ·obtain rfl:k=t.length:=by omega
  rw[List.take_of_length_le (Nat.le_refl _)]
  refine wW ?_
  exact hR.le vV ⟨rfl,rfl,rfl⟩
theorem afG {a b:Nat} (ha:a<65536) (hb:b<65536):bits .or .u32 (IntKind.u32.wrap ((b:Int)*2^min 16 32)) (a:Int)=((65536*b+a:Nat):Int):=by
 have h1:((b:Int)*2^min 16 32)=((b*65536:Nat):Int):=by
  rw[show((2:Int)^min 16 32)=65536 by decide];omega
 rw[h1,wrap_u32 (by omega)]
 show IntKind.u32.wrap ((BitVec.ofInt 32 ((b*65536:Nat):Int) ||| BitVec.ofInt 32 (a:Int)).toNat:Int)=_
 rw[BitVec.ofInt_natCast,BitVec.ofInt_natCast,BitVec.toNat_or,BitVec.toNat_ofNat,BitVec.toNat_ofNat,Nat.mod_eq_of_lt (by omega),Nat.mod_eq_of_lt (by omega)]
 have h2:b*65536 ||| a=65536*b+a:=by
  have h3:=Nat.shiftLeft_add_eq_or_of_lt (b:=a) (i:=16) (by omega) b
  rw[Nat.shiftLeft_eq,show(2:Nat)^16=65536 by decide]at h3
  omega
 rw[h2]
 exact wrap_u32 (by omega)
theorem DQ (t:Bs):Eng.Spec Tryz.prog 218 [(125003,.var [.int .u32 (eR (cP t).1:Nat),.int .u32 ((cP t).2:Nat)])] [.ab 125003 0]
    (fun h' v ar=>h'=[(125003,.var [.int .u32 (eR (cP t).1:Nat),.int .u32 ((cP t).2:Nat)])]∧v=.int .u32 (ko t:Nat)∧ar=[.ab 125003 0]):=by
 refine Cod.DR (fun E R hN hR=>?_)
 have hl:=rI t
 unfold ko at hR
 generalize cP t=x at *
 obtain⟨xa,xb⟩:=x
 simp only at hl hR ⊢
 have l1:eR xa<65521:=Nat.mod_lt _ (by decide)
 have e1:(((eR xa:Nat):Int)+1).tmod 65521=((xa:Nat):Int):=by
  rw[mz (by omega)]
  unfold eR
  omega
 have e2:=afG (a:=xa) (b:=xb) (by omega) (by omega)
 refine bc e1 e2 ?_
 exact hR.le vV ⟨rfl,rfl,rfl⟩
theorem DK (t:Bs) (ht:t.length≤1000000000):aO Tryz.prog 181 [.str t] (.int .u32 (ko t:Nat)):=by
 refine Cod.DL (fun E R hN hR=>?_)
 have hw:=D3 t ht
 have hs:=DQ t
 refine wW ?_
 refine bf [(125003,.var [.int .u32 0,.int .u32 0])] hw vV nofun ?_
 rintro h' v ar ⟨rfl,rfl,rfl⟩
 refine⟨vV,rfl,?_⟩
 refine wW ?_
 refine bf [(125003,.var [.int .u32 (eR (cP t).1:Nat),.int .u32 ((cP t).2:Nat)])] hs vV nofun ?_
 rintro h' v ar ⟨rfl,rfl,rfl⟩
 refine⟨vV,rfl,?_⟩
 refine wW ?_
 exact hR.ro ⟨rfl,rfl⟩
def fX (t:Bs):Nat:=t.foldl (fun x c=>256*x+c.toNat) 0
theorem wa (t:Bs) {k:Nat} (h:k<t.length):fX (t.take (k+1))=256*fX (t.take k)+(t.getD k 0).toNat:=by
 rw[oe t h];simp[fX]
theorem rW (t:Bs):∀k,k≤t.length→fX (t.take k)<256^k
 | 0,_=>by rw[List.take_zero];decide
 | k+1,h=>by
  have ih:=rW t k (by omega)
  have hb:=(t.getD k 0).toNat_lt
  rw[wa t h,Nat.pow_succ]
  omega
theorem Gk (t:Bs) {k:Nat} (h:k≤t.length) (h7:t.length≤6):fX (t.take k)<281474976710656:=by
 have h1:=rW t k h
 have h2:256^k≤256^6:=Nat.pow_le_pow_right (by decide) (by omega)
 exact Nat.lt_of_lt_of_le h1 h2
theorem afI {x b:Nat} (hx:x<281474976710656) (hb:b<256):bits .or .u64 (IntKind.u64.wrap ((x:Int)*2^min 8 64)) (b:Int)=((256*x+b:Nat):Int):=by
 have h1:((x:Int)*2^min 8 64)=((x*256:Nat):Int):=by
  rw[show((2:Int)^min 8 64)=256 by decide];omega
 rw[h1,wrap_u64 (by omega)]
 show IntKind.u64.wrap ((BitVec.ofInt 64 ((x*256:Nat):Int) ||| BitVec.ofInt 64 (b:Int)).toNat:Int)=_
 rw[BitVec.ofInt_natCast,BitVec.ofInt_natCast,BitVec.toNat_or,BitVec.toNat_ofNat,BitVec.toNat_ofNat,Nat.mod_eq_of_lt (by omega),Nat.mod_eq_of_lt (by omega)]
 have h2:x*256 ||| b=256*x+b:=by
  have h3:=Nat.shiftLeft_add_eq_or_of_lt (b:=b) (i:=8) (by omega) x
  rw[Nat.shiftLeft_eq,show(2:Nat)^8=256 by decide]at h3
  omega
 rw[h2]
 exact wrap_u64 (by omega)
theorem afJ {x b:Nat} (hx:x<281474976710656) (hb:b<256):bits .or .i64 (IntKind.i64.wrap ((x:Int)*2^min 8 64)) (b:Int)=((256*x+b:Nat):Int):=by
 have h1:((x:Int)*2^min 8 64)=((x*256:Nat):Int):=by
  rw[show((2:Int)^min 8 64)=256 by decide];omega
 rw[h1,eU (by omega)]
 show IntKind.i64.wrap ((BitVec.ofInt 64 ((x*256:Nat):Int) ||| BitVec.ofInt 64 (b:Int)).toNat:Int)=_
 rw[BitVec.ofInt_natCast,BitVec.ofInt_natCast,BitVec.toNat_or,BitVec.toNat_ofNat,BitVec.toNat_ofNat,Nat.mod_eq_of_lt (by omega),Nat.mod_eq_of_lt (by omega)]
 have h2:x*256 ||| b=256*x+b:=by
  have h3:=Nat.shiftLeft_add_eq_or_of_lt (b:=b) (i:=8) (by omega) x
  rw[Nat.shiftLeft_eq,show(2:Nat)^8=256 by decide]at h3
  omega
 rw[h2]
 exact eU (by omega)
theorem OL (t:Bs) (ht:t.length≤6):aO Tryz.prog 73 [.str t] (.int .u64 (fX t:Nat)):=by
 refine Cod.OM (fun E R hN hR=>?_)
 refine wW ?_
 refine bm hN (fun k:Nat=>⟨[(0,.str t),(3,.int .u64 (fX (t.take k):Nat)),(6,.int .i64 t.length),(7,.int .i64 k)],[]⟩) (fun k=>k≤t.length) (fun k=>t.length-k) 0 (.le (by simp(disch:=omega)only[go_sem,simprocAttr];simp[fX])) (by omega) ?_
 rintro k R1 hk hR1
 by_cases hlt:k<t.length
 ·have hct:=wa t hlt
  have hxl:=Gk t hk ht
  have hbl:=(t.getD k 0).toNat_lt
  have ho:=afI hxl hbl
  generalize fX (t.take k)=x at *
  refine aw ho ?_
  exact hR1 (k+1) _ (by omega) (by omega) (.le (fL hct))
 ·obtain rfl:k=t.length:=by omega
  rw[List.take_of_length_le (Nat.le_refl _)]
  refine wW ?_
  exact hR.ro ⟨rfl,rfl⟩
def nk (a b:Nat):Bool:=decide (a%16=8)&&(decide (a/16≤7)&&(decide ((256*a+b)%31=0)&&decide (b/32%2=0)))
theorem Er {b:Nat} (h:b<256):bits .and .u8 (b:Int) 32=((b/32%2*32:Nat):Int):=by
 have:∀b:Nat,b<256→bits .and .u8 (b:Int) 32=((b/32%2*32:Nat):Int):=by decide +kernel
 exact this b h
theorem aqT (a b:UInt8):aO Tryz.prog 179 [.int .u8 a.toNat,.int .u8 b.toNat] (.bool (nk a.toNat b.toNat)):=by
 refine Cod.aqU (fun E R hN hR=>?_)
 have ha:=a.toNat_lt
 have hb:=b.toNat_lt
 have e1:=CO a
 have e2:=CN a
 have e3:=afJ (x:=a.toNat) (b:=b.toNat) (by omega) hb
 have e4:((256*a.toNat+b.toNat:Nat):Int).tmod 31=(((256*a.toNat+b.toNat)%31:Nat):Int):=by rw[mz (by omega)];omega
 have e5:=Er hb
 unfold nk at hR
 generalize a.toNat=x at *
 generalize b.toNat=y at *
 by_cases h1:x%16=8
 ·by_cases h2:x/16≤7
  ·by_cases h3:(256*x+y)%31=0
   ·by_cases h4:y/32%2=0
    ·rw[decide_eq_true h1,decide_eq_true h2,decide_eq_true h3,decide_eq_true h4]at hR
     rw[h1]at e1
     rw[h3]at e4
     rw[h4]at e5
     refine jD e1 e2 e3 e4 e5 ?_
     refine s4 e1 e2 e3 e4 e5 ?_
     exact hR.ro ⟨rfl,rfl⟩
    ·rw[decide_eq_true h1,decide_eq_true h2,decide_eq_true h3,decide_eq_false h4]at hR
     rw[h1]at e1
     rw[h3]at e4
     rw[show y/32%2=1 by omega]at e5
     refine jD e1 e2 e3 e4 e5 ?_
     refine s4 e1 e2 e3 e4 e5 ?_
     exact hR.ro ⟨rfl,rfl⟩
   ·rw[decide_eq_true h1,decide_eq_true h2,decide_eq_false h3]at hR
    rw[h1]at e1
    have hi:¬(((256*x+y)%31:Nat):Int)=0:=by omega
    refine jD e1 e2 e3 e4 hi ?_
    refine s4 e1 e2 e3 e4 hi ?_
    exact hR.ro ⟨rfl,rfl⟩
  ·rw[decide_eq_true h1,decide_eq_false h2]at hR
   rw[h1]at e1
   have hi:¬((x/16:Nat):Int)≤7:=by omega
   refine dz e1 e2 hi ?_
   refine jN e1 e2 hi ?_
   exact hR.ro ⟨rfl,rfl⟩
 ·rw[decide_eq_false h1]at hR
  have hi:¬((x%16:Nat):Int)=8:=by omega
  refine bc e1 hi ?_
  refine ft e1 hi ?_
  exact hR.ro ⟨rfl,rfl⟩
end Go.Proofs.YtoalcafkffmiiaaGreatDoor.Pk
namespace Go.Proofs.YtoalcafkffmiiaaGreatDoor.Cod
open Eng Eng.Kz
set_option maxRecDepth 100000
abbrev G9:AK:=.seq (.aa [m 10 0,m 11 1,m 12 1,.v 13 (.bD [.str [],.int .i64 0,.int .u64 0,.int .i64 0,.int .i64 0] [(0,1,(.t 10)),(1,1,(.t 11)),(4,1,(.t 12))]),.eff 14 false 40014 (.box 5 (.t 13)),m 4 14] [4]) .ret
abbrev G8:AK:=.seq (.aa [m 5 1,m 6 0,.v 7 (.len true (.t 6)),.v 8 (.mm false (.t 5) (.t 7)),.v 9 (.mm true (ci 0) (.t 8)),m 1 9] [0,1]) G9
abbrev G7:AK:=.seq (.aa [k 4 (.c (.lit (.pointer none)))] [0,1]) G8
abbrev wy:AK:=G7
theorem Ha:aD Tryz.prog 214 40000 2 wy [.tmp 4]:=⟨_,Tryz.func214,by kernel_rfl⟩
theorem Hc {h a0 a1 Post} (hp:aI Tryz.prog wy [.tmp 4] 2 [(0,a0),(1,a1)] h Post):Eng.Spec Tryz.prog 214 h [a0,a1] Post:=aK Ha rfl [(0,a0),(1,a1)] ⟨rfl,rfl,trivial⟩ hp
abbrev NM:AK:=.aa [m 51 0,.v 52 (.au (.t 51)),.v 53 (.aj false 3 1 (.t 52)),.v 54 (.ld false 1 (.t 53)),bi 55 .add 54 8,.v 56 (.au (.t 51)),.v 57 (.aj false 3 1 (.t 56)),.an false 41000 (.st 1 (.t 57) (.t 55))] [0,1,2000000,2000001]
abbrev NL:AK:=.seq (.aa [m 44 0,.v 45 (.au (.t 44)),.v 46 (.aj false 1 1 (.t 45)),.v 47 (.ld false 1 (.t 46)),bi 48 .add 47 1,.v 49 (.au (.t 44)),.v 50 (.aj false 1 1 (.t 49)),.an false 41000 (.st 1 (.t 50) (.t 48))] [0,1,2000000,2000001]) NM
abbrev NK:AK:=.seq (.aa [u 41022 22 (.ah (.t 0)),u 41023 23 (.au (.t 22)),u 41024 24 (.aj false 2 1 (.t 23)),u 41025 25 (.ld false 1 (.t 24)),u 41026 26 (.ah (.t 0)),u 41027 27 (.au (.t 26)),u 41028 28 (.aj false 0 1 (.t 27)),u 41029 29 (.ld false 1 (.t 28)),u 41030 30 (.ah (.t 0)),u 41031 31 (.au (.t 30)),u 41032 32 (.aj false 1 1 (.t 31)),u 41033 33 (.ld false 1 (.t 32)),u 41034 34 (.cI (.t 29) (.t 33)),u 41035 35 (.bh .u64 (.t 34)),u 41036 36 (.ah (.t 0)),u 41037 37 (.au (.t 36)),u 41038 38 (.aj false 3 1 (.t 37)),u 41039 39 (.ld false 1 (.t 38)),u 41040 40 (.bin .shl (.t 35) (.t 39)),b 41 .or 25 40,.v 42 (.au (.t 22)),.v 43 (.aj false 2 1 (.t 42)),.an false 41000 (.st 1 (.t 43) (.t 41))] [0,1,2000000,2000001]) NL
abbrev NN:AK:=.seq (.aa [m 4 0,.v 5 (.au (.t 4)),.v 6 (.aj false 3 1 (.t 5)),.v 7 (.ld false 1 (.t 6)),u 41008 8 (.ah (.t 1)),b 9 .lss 7 8,m 10 9,.af 11 10 true true 41011 (.ah (.t 0)),.af 12 10 true true 41012 (.au (.t 11)),.af 13 10 true true 41013 (.aj false 1 1 (.t 12)),.af 14 10 true true 41014 (.ld false 1 (.t 13)),.af 15 10 true true 41015 (.ah (.t 0)),.af 16 10 true true 41016 (.au (.t 15)),.af 17 10 true true 41017 (.aj false 0 1 (.t 16)),.af 18 10 true true 41018 (.ld false 1 (.t 17)),.af 19 10 true true 41019 (.len true (.t 18)),.af 20 10 true false 41020 (.bin .lss (.t 14) (.t 19)),.v 21 (.pick (.t 10) (.t 20) (.c (.bool false)))] [0,1,21,2000000,2000001]) (.cond (.t 21) .skip (.exit 0))
abbrev NJ:AK:=.seq NN (.block 1 NK)
abbrev NP:AK:=.loop NJ
abbrev fill:AK:=(.block 0 NP)
theorem NQ:aD Tryz.prog 260 41000 2 fill []:=⟨_,Tryz.func260,by kernel_rfl⟩
theorem NR {h a0 a1 Post} (hp:aI Tryz.prog fill [] 2 [(0,a0),(1,a1),(2000000,a0),(2000001,a1)] h Post):Eng.Spec Tryz.prog 260 h [a0,a1] Post:=aK NQ rfl [(0,a0),(1,a1),(2000000,a0),(2000001,a1)] ⟨rfl,rfl,rfl,rfl,trivial⟩ hp
abbrev ags:AK:=.seq (.aa [u 42015 15 (.ah (.t 0)),u 42016 16 (.au (.t 15)),u 42017 17 (.aj false 2 1 (.t 16)),u 42018 18 (.ld false 1 (.t 17)),u 42019 19 (.ah (.t 1)),u 42020 20 (.bin .shl (.c (.int .u64 1)) (.t 19)),u 42021 21 (.bin .sub (.t 20) (.c (.int .u64 1))),u 42022 22 (.bin .and (.t 18) (.t 21)),u 42023 23 (.bh .u32 (.t 22)),u 42024 24 (.ah (.t 1)),u 42025 25 (.ah (.t 0)),u 42026 26 (.au (.t 25)),u 42027 27 (.aj false 3 1 (.t 26)),u 42028 28 (.ld false 1 (.t 27)),u 42029 29 (.mm false (.t 24) (.t 28)),u 42004 4 (.ah (.t 23)),m 5 29] [4,5,2000000,2000001]) .ret
abbrev agr:AK:=.seq (.aa [m 12 0,m 13 1,.ao (some 14) false 42014 260 [(.t 12),(.t 13)]] [0,1,2000000,2000001]) ags
abbrev agu:AK:=.seq (.aa [k 4 (.c (.int .u32 0)),k 5 (ci 0)] [4,5,2000000,2000001]) .ret
abbrev agt:AK:=.seq (.aa [m 6 1,bi 7 .lss 6 0,m 8 7,.af 9 8 false false 42009 (.ah (.t 1)),.af 10 8 false false 42010 (.bin .gtr (.t 9) (ci 32)),.v 11 (.pick (.t 8) (.c (.bool true)) (.t 10))] [0,1,11,2000000,2000001]) (.cond (.t 11) agu .skip)
abbrev agq:AK:=.seq agt agr
abbrev agp:AK:=.seq (.aa [k 4 (.c (.int .u32 0)),k 5 (ci 0)] [0,1,2000000,2000001]) agq
abbrev Be:AK:=agp
theorem agv:aD Tryz.prog 241 42000 2 Be [.tmp 4,.tmp 5]:=⟨_,Tryz.func241,by kernel_rfl⟩
theorem agx {h a0 a1 Post} (hp:aI Tryz.prog Be [.tmp 4,.tmp 5] 2 [(0,a0),(1,a1),(2000000,a0),(2000001,a1)] h Post):Eng.Spec Tryz.prog 241 h [a0,a1] Post:=aK agv rfl [(0,a0),(1,a1),(2000000,a0),(2000001,a1)] ⟨rfl,rfl,rfl,rfl,trivial⟩ hp
abbrev akC:AK:=.seq (.aa [k 4 (.c (.bool true))] [4,2000000,2000001]) .ret
abbrev akB:AK:=.seq (.aa [m 28 0,.v 29 (.au (.t 28)),.v 30 (.aj false 3 1 (.t 29)),.v 31 (.ld false 1 (.t 30)),m 32 1,b 33 .sub 31 32,.v 34 (.au (.t 28)),.v 35 (.aj false 3 1 (.t 34)),.an false 43000 (.st 1 (.t 35) (.t 33))] [2000000,2000001]) akC
abbrev akA:AK:=.seq (.aa [m 20 0,.v 21 (.au (.t 20)),.v 22 (.aj false 2 1 (.t 21)),.v 23 (.ld false 1 (.t 22)),m 24 1,b 25 .shr 23 24,.v 26 (.au (.t 20)),.v 27 (.aj false 2 1 (.t 26)),.an false 43000 (.st 1 (.t 27) (.t 25))] [0,1,2000000,2000001]) akB
abbrev akE:AK:=.seq (.aa [k 4 (.c (.bool false))] [4,2000000,2000001]) .ret
abbrev akD:AK:=.seq (.aa [m 14 0,.v 15 (.au (.t 14)),.v 16 (.aj false 3 1 (.t 15)),.v 17 (.ld false 1 (.t 16)),m 18 1,b 19 .lss 17 18] [0,1,19,2000000,2000001]) (.cond (.t 19) akE .skip)
abbrev akz:AK:=.seq akD akA
abbrev aky:AK:=.seq (.aa [m 11 0,m 12 1,.ao (some 13) false 43013 260 [(.t 11),(.t 12)]] [0,1,2000000,2000001]) akz
abbrev akx:AK:=.seq (.aa [k 4 (.c (.bool false))] [4,2000000,2000001]) .ret
abbrev akw:AK:=.seq (.aa [m 5 1,bi 6 .lss 5 0,m 7 6,.af 8 7 false false 43008 (.ah (.t 1)),.af 9 7 false false 43009 (.bin .gtr (.t 8) (ci 32)),.v 10 (.pick (.t 7) (.c (.bool true)) (.t 9))] [0,1,10,2000000,2000001]) (.cond (.t 10) akx .skip)
abbrev akv:AK:=.seq akw aky
abbrev aku:AK:=.seq (.aa [k 4 (.c (.bool false))] [0,1,2000000,2000001]) akv
abbrev skip:AK:=aku
theorem akF:aD Tryz.prog 242 43000 2 skip [.tmp 4]:=⟨_,Tryz.func242,by kernel_rfl⟩
theorem akH {h a0 a1 Post} (hp:aI Tryz.prog skip [.tmp 4] 2 [(0,a0),(1,a1),(2000000,a0),(2000001,a1)] h Post):Eng.Spec Tryz.prog 242 h [a0,a1] Post:=aK akF rfl [(0,a0),(1,a1),(2000000,a0),(2000001,a1)] ⟨rfl,rfl,rfl,rfl,trivial⟩ hp
abbrev ah1:AK:=.seq (.aa [m 18 6,m 4 18,k 5 (.c (.bool true))] [4,5,2000000,2000001]) .ret
abbrev ah3:AK:=.seq (.aa [k 4 (.c (.int .u32 0)),k 5 (.c (.bool false))] [4,5,2000000,2000001]) .ret
abbrev ah2:AK:=.seq (.aa [m 14 0,m 15 1,.ao (some 16) false 44016 242 [(.t 14),(.t 15)],.v 17 (.un .not (.t 16))] [6,17,2000000,2000001]) (.cond (.t 17) ah3 .skip)
abbrev ah0:AK:=.seq ah2 ah1
abbrev ahZ:AK:=.seq (.aa [m 9 0,m 10 1,.ao (some 11) false 44011 241 [(.t 9),(.t 10)],m 8 11,.v 12 (.ext (.t 8) 0),.v 13 (.ext (.t 8) 1),m 6 12,m 7 13] [0,1,6,2000000,2000001]) ah0
abbrev ahY:AK:=.seq (.aa [k 4 (.c (.int .u32 0)),k 5 (.c (.bool false))] [0,1,2000000,2000001]) ahZ
abbrev Bx:AK:=ahY
theorem ah4:aD Tryz.prog 230 44000 2 Bx [.tmp 4,.tmp 5]:=⟨_,Tryz.func230,by kernel_rfl⟩
theorem ah5 {h a0 a1 Post} (hp:aI Tryz.prog Bx [.tmp 4,.tmp 5] 2 [(0,a0),(1,a1),(2000000,a0),(2000001,a1)] h Post):Eng.Spec Tryz.prog 230 h [a0,a1] Post:=aK ah4 rfl [(0,a0),(1,a1),(2000000,a0),(2000001,a1)] ⟨rfl,rfl,rfl,rfl,trivial⟩ hp
abbrev ahU:AK:=.aa [m 16 0,.v 17 (.au (.t 16)),.v 18 (.aj false 3 1 (.t 17)),.v 19 (.ld false 1 (.t 18)),m 20 2,b 21 .sub 19 20,.v 22 (.au (.t 16)),.v 23 (.aj false 3 1 (.t 22)),.an false 45000 (.st 1 (.t 23) (.t 21))] [2000000]
abbrev ahT:AK:=.seq (.aa [m 8 0,.v 9 (.au (.t 8)),.v 10 (.aj false 2 1 (.t 9)),.v 11 (.ld false 1 (.t 10)),m 12 2,b 13 .shr 11 12,.v 14 (.au (.t 8)),.v 15 (.aj false 2 1 (.t 14)),.an false 45000 (.st 1 (.t 15) (.t 13))] [0,2,2000000]) ahU
abbrev ahS:AK:=.seq (.aa [m 3 0,.v 4 (.au (.t 3)),.v 5 (.aj false 3 1 (.t 4)),.v 6 (.ld false 1 (.t 5)),bi 7 .rem 6 8,m 2 7] [0,2,2000000]) ahT
abbrev Bu:AK:=ahS
theorem ahV:aD Tryz.prog 261 45000 1 Bu []:=⟨_,Tryz.func261,by kernel_rfl⟩
theorem ahX {h a0 Post} (hp:aI Tryz.prog Bu [] 1 [(0,a0),(2000000,a0)] h Post):Eng.Spec Tryz.prog 261 h [a0] Post:=aK ahV rfl [(0,a0),(2000000,a0)] ⟨rfl,rfl,trivial⟩ hp
abbrev aib:AK:=.seq (.aa [m 44 0,.v 45 (.au (.t 44)),.v 46 (.aj false 0 1 (.t 45)),.v 47 (.ld false 1 (.t 46)),m 48 6,m 49 6,m 50 1,b 51 .add 49 50,.v 52 (.bH (.t 47) (some (.t 48)) (some (.t 51))),m 4 52,k 5 (.c (.bool true))] [4,5,2000000,2000001]) .ret
abbrev aia:AK:=.seq (.aa [m 32 0,m 33 0,m 34 0,m 35 6,m 36 1,b 37 .add 35 36,.v 38 (.au (.t 32)),.v 39 (.aj false 1 1 (.t 38)),.an false 46000 (.st 1 (.t 39) (.t 37)),.v 40 (.au (.t 33)),.v 41 (.aj false 2 1 (.t 40)),.an false 46000 (.st 1 (.t 41) (.c (.int .u64 0))),.v 42 (.au (.t 34)),.v 43 (.aj false 3 1 (.t 42)),.an false 46000 (.st 1 (.t 43) (ci 0))] [0,1,6,2000000,2000001]) aib
abbrev aid:AK:=.seq (.aa [k 4 (.c (.str [])),k 5 (.c (.bool false))] [4,5,2000000,2000001]) .ret
abbrev aic:AK:=.seq (.aa [m 19 1,bi 20 .lss 19 0,m 21 20,.af 22 21 false false 46022 (.ah (.t 1)),.af 23 21 false false 46023 (.ah (.t 0)),.af 24 21 false false 46024 (.au (.t 23)),.af 25 21 false false 46025 (.aj false 0 1 (.t 24)),.af 26 21 false false 46026 (.ld false 1 (.t 25)),.af 27 21 false false 46027 (.len true (.t 26)),.af 28 21 false false 46028 (.ah (.t 6)),.af 29 21 false false 46029 (.bin .sub (.t 27) (.t 28)),.af 30 21 false false 46030 (.bin .gtr (.t 22) (.t 29)),.v 31 (.pick (.t 21) (.c (.bool true)) (.t 30))] [0,1,6,31,2000000,2000001]) (.cond (.t 31) aid .skip)
abbrev ah9:AK:=.seq aic aia
abbrev ah8:AK:=.seq (.aa [u 46009 9 (.ah (.t 0)),u 46010 10 (.au (.t 9)),u 46011 11 (.aj false 1 1 (.t 10)),u 46012 12 (.ld false 1 (.t 11)),u 46013 13 (.ah (.t 0)),u 46014 14 (.au (.t 13)),u 46015 15 (.aj false 3 1 (.t 14)),u 46016 16 (.ld false 1 (.t 15)),u 46017 17 (.bin .quo (.t 16) (ci 8)),b 18 .sub 12 17,m 6 18] [0,1,6,2000000,2000001]) ah9
abbrev ah7:AK:=.seq (.aa [m 7 0,.ao (some 8) false 46008 261 [(.t 7)]] [0,1,2000000,2000001]) ah8
abbrev ah6:AK:=.seq (.aa [k 4 (.c (.str [])),k 5 (.c (.bool false))] [0,1,2000000,2000001]) ah7
abbrev Bz:AK:=ah6
theorem aie:aD Tryz.prog 243 46000 2 Bz [.tmp 4,.tmp 5]:=⟨_,Tryz.func243,by kernel_rfl⟩
theorem aif {h a0 a1 Post} (hp:aI Tryz.prog Bz [.tmp 4,.tmp 5] 2 [(0,a0),(1,a1),(2000000,a0),(2000001,a1)] h Post):Eng.Spec Tryz.prog 243 h [a0,a1] Post:=aK aie rfl [(0,a0),(1,a1),(2000000,a0),(2000001,a1)] ⟨rfl,rfl,rfl,rfl,trivial⟩ hp
abbrev ajx:AK:=.seq (.aa [u 47003 3 (.ah (.t 0)),u 47004 4 (.au (.t 3)),u 47005 5 (.aj false 1 1 (.t 4)),u 47006 6 (.ld false 1 (.t 5)),u 47007 7 (.ah (.t 0)),u 47008 8 (.au (.t 7)),u 47009 9 (.aj false 3 1 (.t 8)),u 47010 10 (.ld false 1 (.t 9)),u 47011 11 (.bin .quo (.t 10) (ci 8)),u 47012 12 (.bin .sub (.t 6) (.t 11)),u 47013 13 (.ah (.t 0)),u 47014 14 (.au (.t 13)),u 47015 15 (.aj false 4 1 (.t 14)),u 47016 16 (.ld false 1 (.t 15)),b 17 .sub 12 16,m 2 17] [2,2000000]) .ret
abbrev ajw:AK:=.seq (.aa [k 2 (ci 0)] [0,2000000]) ajx
abbrev BU:AK:=ajw
theorem ajz:aD Tryz.prog 216 47000 1 BU [.tmp 2]:=⟨_,Tryz.func216,by kernel_rfl⟩
theorem ajA {h a0 Post} (hp:aI Tryz.prog BU [.tmp 2] 1 [(0,a0),(2000000,a0)] h Post):Eng.Spec Tryz.prog 216 h [a0] Post:=aK ajz rfl [(0,a0),(2000000,a0)] ⟨rfl,rfl,trivial⟩ hp
abbrev aiF:AK:=.seq (.aa [u 48003 3 (.ah (.t 0)),u 48004 4 (.au (.t 3)),u 48005 5 (.aj false 0 1 (.t 4)),u 48006 6 (.ld false 1 (.t 5)),u 48007 7 (.len true (.t 6)),u 48008 8 (.ah (.t 0)),u 48009 9 (.au (.t 8)),u 48010 10 (.aj false 1 1 (.t 9)),u 48011 11 (.ld false 1 (.t 10)),u 48012 12 (.bin .sub (.t 7) (.t 11)),u 48013 13 (.bin .mul (ci 8) (.t 12)),u 48014 14 (.ah (.t 0)),u 48015 15 (.au (.t 14)),u 48016 16 (.aj false 3 1 (.t 15)),u 48017 17 (.ld false 1 (.t 16)),b 18 .add 13 17,m 2 18] [2,2000000]) .ret
abbrev aiE:AK:=.seq (.aa [k 2 (ci 0)] [0,2000000]) aiF
abbrev BG:AK:=aiE
theorem aiH:aD Tryz.prog 245 48000 1 BG [.tmp 2]:=⟨_,Tryz.func245,by kernel_rfl⟩
theorem aiI {h a0 Post} (hp:aI Tryz.prog BG [.tmp 2] 1 [(0,a0),(2000000,a0)] h Post):Eng.Spec Tryz.prog 245 h [a0] Post:=aK aiH rfl [(0,a0),(2000000,a0)] ⟨rfl,rfl,trivial⟩ hp
abbrev QS:AK:=.seq (.aa [m 105 4,m 2 105,k 3 (ci 0)] [2,3]) .ret
abbrev Qh:AK:=.seq (.aa [k 2 (.c (.lit (.pointer none))),k 3 (ci 4)] [2,3]) .ret
abbrev QU:AK:=.seq (.aa [m 86 7,bi 87 .gtr 86 0,m 88 87,.af 89 88 true false 49089 (.ah (.t 8)),.af 90 88 true false 49090 (.bin .gtr (.t 89) (ci 0)),.v 91 (.pick (.t 88) (.t 90) (.c (.bool false))),m 92 91,.af 93 92 true false 49093 (.ah (.t 8)),.af 94 92 true false 49094 (.bin .eql (.t 93) (ci 1)),.af 95 92 true false 49095 (.ah (.t 94)),.af 96 95 true false 49096 (.ah (.t 4)),.af 97 95 true false 49097 (.au (.t 96)),.af 98 95 true false 49098 (.aj true 1 16 (.t 97)),.af 99 95 true false 49099 (.cU 16 1 (.t 98) (ci 1)),.af 100 95 true false 49100 (.ld false 1 (.t 99)),.af 101 95 true false 49101 (.bin .eql (.t 100) (ci 1)),.af 102 92 true false 49102 (.pick (.t 95) (.t 101) (.c (.bool false))),.af 103 92 true false 49103 (.un .not (.t 102)),.v 104 (.pick (.t 92) (.t 103) (.c (.bool false)))] [4,104]) (.cond (.t 104) Qh .skip)
abbrev QQ:AK:=.seq QU QS
abbrev Ql:AK:=.aa [m 44 9,bi 45 .add 44 1,m 9 45] [0,4,7,8,9]
abbrev Qu:AK:=.aa [bi 85 .add 67 1,m 67 85] [0,4,7,8,9,65,66,67]
abbrev Qy:AK:=.aa [m 75 4,m 76 4,.v 77 (.au (.t 76)),.v 78 (.aj false 17 1 (.t 77)),.v 79 (.ld false 1 (.t 78)),m 80 10,.eff 81 false 49081 (.cm 1 [(.t 80)]),.eff 82 false 49082 (.app 1 8 (.t 79) (.t 81)),.v 83 (.au (.t 75)),.v 84 (.aj false 17 1 (.t 83)),.an false 49000 (.st 1 (.t 84) (.t 82))] [0,4,7,8,9,65,66,67]
abbrev Qw:AK:=.seq (.aa [m 72 11,m 73 9,b 74 .eql 72 73] [0,4,7,8,9,10,65,66,67,74]) (.cond (.t 74) Qy .skip)
abbrev Qv:AK:=.seq (.aa [m 69 67,.v 70 (.aX 1 (.t 65) (.t 67)),.v 71 (.ld false 1 (.t 70)),m 10 69,m 11 71] [0,4,7,8,9,10,11,65,66,67]) Qw
abbrev Qt:AK:=.seq (.block 5 Qv) Qu
abbrev Qs:AK:=.seq (.cond (.t 68) .skip (.exit 4)) Qt
abbrev Qr:AK:=.seq (.aa [b 68 .lss 67 66] [0,4,7,8,9,65,66,67,68]) Qs
abbrev QW:AK:=.loop Qr
abbrev Qq:AK:=.seq (.aa [m 65 0,.v 66 (.len false (.t 65)),k 67 (ci 0)] [0,4,7,8,9,65,66,67]) (.block 4 QW)
abbrev QA:AK:=.seq (.aa [k 2 (.c (.lit (.pointer none))),k 3 (ci 4)] [2,3]) .ret
abbrev Qz:AK:=.seq (.aa [m 63 7,bi 64 .lss 63 0] [0,4,7,8,9,64]) (.cond (.t 64) QA .skip)
abbrev Qo:AK:=.seq Qz Qq
abbrev Qn:AK:=.seq (.aa [m 55 8,m 56 4,m 57 9,.v 58 (.au (.t 56)),.v 59 (.aj true 1 16 (.t 58)),.v 60 (.cU 16 1 (.t 59) (.t 57)),.v 61 (.ld false 1 (.t 60)),b 62 .add 55 61,m 8 62] [0,4,7,8,9]) Qo
abbrev Qm:AK:=.seq (.aa [m 46 7,.v 47 (.bin .mul (ci 2) (.t 46)),m 48 4,m 49 9,.v 50 (.au (.t 48)),.v 51 (.aj true 1 16 (.t 50)),.v 52 (.cU 16 1 (.t 51) (.t 49)),.v 53 (.ld false 1 (.t 52)),b 54 .sub 47 53,m 7 54] [0,4,7,8,9]) Qn
abbrev Qk:AK:=.seq (.block 3 Qm) Ql
abbrev QB:AK:=.seq (.aa [m 42 9,bi 43 .leq 42 15] [0,4,7,8,9,43]) (.cond (.t 43) .skip (.exit 2))
abbrev Qj:AK:=.seq QB Qk
abbrev QV:AK:=.loop Qj
abbrev Qi:AK:=.seq (.aa [k 9 (ci 1)] [0,4,7,8,9]) (.block 2 QV)
abbrev QN:AK:=.seq Qi QQ
abbrev QE:AK:=.seq (.aa [k 7 (ci 1),k 8 (ci 0)] [0,4,7,8]) QN
abbrev QH:AK:=.aa [bi 41 .add 21 1,m 21 41] [0,4,19,20,21]
abbrev QK:AK:=.aa [m 31 4,u 49032 32 (.ah (.t 6)),u 49033 33 (.au (.t 31)),u 49034 34 (.aj true 1 16 (.t 33)),u 49035 35 (.cU 16 1 (.t 34) (.t 32)),u 49036 36 (.ld false 1 (.t 35)),u 49037 37 (.bin .add (.t 36) (ci 1)),u 49038 38 (.au (.t 31)),u 49039 39 (.aj true 1 16 (.t 38)),.v 40 (.cU 16 1 (.t 39) (.t 32)),.an false 49000 (.st 1 (.t 40) (.t 37))] [0,4,19,20,21]
abbrev QM:AK:=.seq (.aa [k 2 (.c (.lit (.pointer none))),k 3 (ci 1)] [2,3]) .ret
abbrev QL:AK:=.seq (.aa [m 25 6,bi 26 .lss 25 0,m 27 26,.af 28 27 false false 49028 (.ah (.t 6)),.af 29 27 false false 49029 (.bin .gtr (.t 28) (ci 15)),.v 30 (.pick (.t 27) (.c (.bool true)) (.t 29))] [0,4,6,19,20,21,30]) (.cond (.t 30) QM .skip)
abbrev QJ:AK:=.seq QL QK
abbrev QI:AK:=.seq (.aa [.v 23 (.aX 1 (.t 19) (.t 21)),.v 24 (.ld false 1 (.t 23)),m 6 24] [0,4,6,19,20,21]) QJ
abbrev QG:AK:=.seq (.block 1 QI) QH
abbrev QF:AK:=.seq (.cond (.t 22) .skip (.exit 0)) QG
abbrev QD:AK:=.seq (.aa [b 22 .lss 21 20] [0,4,19,20,21,22]) QF
abbrev QX:AK:=.loop QD
abbrev QC:AK:=.seq (.aa [m 19 0,.v 20 (.len false (.t 19)),k 21 (ci 0)] [0,4,19,20,21]) (.block 0 QX)
abbrev Qx:AK:=.seq QC QE
abbrev Qp:AK:=.seq (.aa [m 15 0,.eff 16 false 49016 (.app 1 8 (.c (.aq)) (.t 15)),.v 17 (.bD [.aq,.int .i64 0,.int .i64 0,.int .i64 0,.int .i64 0,.int .i64 0,.int .i64 0,.int .i64 0,.int .i64 0,.int .i64 0,.int .i64 0,.int .i64 0,.int .i64 0,.int .i64 0,.int .i64 0,.int .i64 0,.int .i64 0,.aq] [(0,1,(.t 16))]),.eff 18 false 49018 (.box 18 (.t 17)),m 4 18] [0,4]) Qx
abbrev QP:AK:=.seq (.aa [k 2 (.c (.lit (.pointer none))),k 3 (ci 2)] [2,3]) .ret
abbrev QO:AK:=.seq (.aa [m 12 0,.v 13 (.len false (.t 12)),bi 14 .gtr 13 320] [0,14]) (.cond (.t 14) QP .skip)
abbrev Qg:AK:=.seq QO Qp
abbrev Qf:AK:=.seq (.aa [k 2 (.c (.lit (.pointer none))),k 3 (ci 0)] [0]) Qg
abbrev pZ:AK:=Qf
theorem QY:aD Tryz.prog 246 49000 1 pZ [.tmp 2,.tmp 3]:=⟨_,Tryz.func246,by kernel_rfl⟩
theorem QZ {h a0 Post} (hp:aI Tryz.prog pZ [.tmp 2,.tmp 3] 1 [(0,a0)] h Post):Eng.Spec Tryz.prog 246 h [a0] Post:=aK QY rfl [(0,a0)] ⟨rfl,trivial⟩ hp
abbrev Rn:AK:=.seq (.aa [k 4 (ci 0),k 5 (ci 3)] [4,5,2000000,2000001]) .ret
abbrev Rr:AK:=.aa [m 21 9,bi 22 .add 21 1,m 9 22] [0,1,6,7,8,9,2000000,2000001]
abbrev Ra:AK:=.seq (.aa [m 72 8,m 73 0,.v 74 (.au (.t 73)),.v 75 (.aj false 17 1 (.t 74)),.v 76 (.ld false 1 (.t 75)),.v 77 (.len false (.t 76)),b 78 .eql 72 77] [0,1,6,7,8,9,78,2000000,2000001]) (.cond (.t 78) (.exit 0) .skip)
abbrev Q9:AK:=.seq (.aa [m 63 7,m 64 0,m 65 9,.v 66 (.au (.t 64)),.v 67 (.aj true 1 16 (.t 66)),.v 68 (.cU 16 1 (.t 67) (.t 65)),.v 69 (.ld false 1 (.t 68)),b 70 .add 63 69,.v 71 (.bin .shl (.t 70) (.c (.int .u64 1))),m 7 71] [0,1,6,7,8,9,2000000,2000001]) Ra
abbrev Q8:AK:=.seq (.aa [m 55 8,m 56 0,m 57 9,.v 58 (.au (.t 56)),.v 59 (.aj true 1 16 (.t 58)),.v 60 (.cU 16 1 (.t 59) (.t 57)),.v 61 (.ld false 1 (.t 60)),b 62 .add 55 61,m 8 62] [0,1,6,7,8,9,2000000,2000001]) Q9
abbrev Rf:AK:=.seq (.aa [m 46 0,.v 47 (.au (.t 46)),.v 48 (.aj false 17 1 (.t 47)),.v 49 (.ld false 1 (.t 48)),m 50 8,m 51 12,b 52 .add 50 51,.v 53 (.aX 1 (.t 49) (.t 52)),.v 54 (.ld false 1 (.t 53)),m 4 54,k 5 (ci 0)] [4,5,2000000,2000001]) .ret
abbrev Re:AK:=.seq (.aa [m 38 12,m 39 0,m 40 9,.v 41 (.au (.t 39)),.v 42 (.aj true 1 16 (.t 41)),.v 43 (.cU 16 1 (.t 42) (.t 40)),.v 44 (.ld false 1 (.t 43)),b 45 .lss 38 44] [0,1,6,7,8,9,12,45,2000000,2000001]) (.cond (.t 45) Rf .skip)
abbrev Rb:AK:=.seq (.aa [m 35 6,m 36 7,b 37 .sub 35 36,m 12 37] [0,1,6,7,8,9,12,2000000,2000001]) Re
abbrev Q7:AK:=.seq Rb Q8
abbrev Q6:AK:=.seq (.aa [m 30 6,.v 31 (.bin .shl (.t 30) (.c (.int .u64 1))),m 32 10,.v 33 (.bh .i64 (.t 32)),b 34 .or 31 33,m 6 34] [0,1,6,7,8,9,2000000,2000001]) Q7
abbrev Ri:AK:=.seq (.aa [k 4 (ci 0),k 5 (ci 6)] [4,5,2000000,2000001]) .ret
abbrev Rh:AK:=.seq (.aa [m 28 11,.v 29 (.un .not (.t 28))] [0,1,6,7,8,9,10,29,2000000,2000001]) (.cond (.t 29) Ri .skip)
abbrev Q5:AK:=.seq Rh Q6
abbrev Q4:AK:=.seq (.aa [m 24 1,.ao (some 25) false 50025 230 [(.t 24),(ci 1)],m 23 25,.v 26 (.ext (.t 23) 0),.v 27 (.ext (.t 23) 1),m 10 26,m 11 27] [0,1,6,7,8,9,10,11,2000000,2000001]) Q5
abbrev Rq:AK:=.seq (.block 1 Q4) Rr
abbrev Rj:AK:=.seq (.aa [m 19 9,bi 20 .leq 19 15] [0,1,6,7,8,9,20,2000000,2000001]) (.cond (.t 20) .skip (.exit 0))
abbrev Rp:AK:=.seq Rj Rq
abbrev Rs:AK:=.loop Rp
abbrev Ro:AK:=.seq (.aa [k 9 (ci 1)] [0,1,6,7,8,9,2000000,2000001]) (.block 0 Rs)
abbrev Rl:AK:=.seq Ro Rn
abbrev Rc:AK:=.seq (.aa [k 6 (ci 0),k 7 (ci 0),k 8 (ci 0)] [0,1,6,7,8,2000000,2000001]) Rl
abbrev Rm:AK:=.seq (.aa [k 4 (ci 0),k 5 (ci 3)] [4,5,2000000,2000001]) .ret
abbrev Rk:AK:=.seq (.aa [m 13 0,.v 14 (.au (.t 13)),.v 15 (.aj false 17 1 (.t 14)),.v 16 (.ld false 1 (.t 15)),.v 17 (.len false (.t 16)),bi 18 .eql 17 0] [0,1,18,2000000,2000001]) (.cond (.t 18) Rm .skip)
abbrev Q3:AK:=.seq Rk Rc
abbrev Q2:AK:=.seq (.aa [k 4 (ci 0),k 5 (ci 0)] [0,1,2000000,2000001]) Q3
abbrev cT:AK:=Q2
theorem Rt:aD Tryz.prog 234 50000 2 cT [.tmp 4,.tmp 5]:=⟨_,Tryz.func234,by kernel_rfl⟩
theorem Ru {h a0 a1 Post} (hp:aI Tryz.prog cT [.tmp 4,.tmp 5] 2 [(0,a0),(1,a1),(2000000,a0),(2000001,a1)] h Post):Eng.Spec Tryz.prog 234 h [a0,a1] Post:=aK Rt rfl [(0,a0),(1,a1),(2000000,a0),(2000001,a1)] ⟨rfl,rfl,rfl,rfl,trivial⟩ hp
end Go.Proofs.YtoalcafkffmiiaaGreatDoor.Cod
