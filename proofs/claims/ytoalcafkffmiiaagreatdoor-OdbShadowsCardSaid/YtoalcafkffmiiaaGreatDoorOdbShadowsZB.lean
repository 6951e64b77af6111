/- The proof, part 28 of 43. -/
import Derived.Test.YtoalcafkffmiiaaGreatDoorOdbShadowsT
import Derived.Test.YtoalcafkffmiiaaGreatDoorProg
import Derived.KernelRfl
set_option linter.all false
namespace Go.Proofs.YtoalcafkffmiiaaGreatDoor.Cod
open Eng Eng.Kz
set_option maxRecDepth 100000
abbrev Fc:AK:=.aa [bi 37 .add 7 1,m 7 37] [0,1,6,7,2000000,2000001]
abbrev Fg:AK:=.aa [u 123023 23 (.ah (.t 0)),u 123024 24 (.ah (.t 0)),u 123025 25 (.aq (.t 24)),u 123026 26 (.ak false 1 1 (.t 25)),u 123027 27 (.ld false 1 (.t 26)),u 123028 28 (.ah (.t 0)),u 123029 29 (.aq (.t 28)),u 123030 30 (.ak false 0 1 (.t 29)),u 123031 31 (.ld false 1 (.t 30)),b 32 .add 27 31,.v 33 (.bin .add (.t 32) (.c (.int .u32 1))),.v 34 (.bin .rem (.t 33) (.c (.int .u32 65521))),.v 35 (.aq (.t 23)),.v 36 (.ak false 1 1 (.t 35)),.aL false 123000 (.st 1 (.t 36) (.t 34))] [0,1,6,7,2000000,2000001]
abbrev Ff:AK:=.seq (.aa [u 123010 10 (.ah (.t 0)),u 123011 11 (.ah (.t 0)),u 123012 12 (.aq (.t 11)),u 123013 13 (.ak false 0 1 (.t 12)),u 123014 14 (.ld false 1 (.t 13)),u 123015 15 (.ah (.t 1)),u 123016 16 (.ah (.t 4)),u 123017 17 (.b7 (.t 15) (.t 16)),u 123018 18 (.bc .u32 (.t 17)),b 19 .add 14 18,.v 20 (.bin .rem (.t 19) (.c (.int .u32 65521))),.v 21 (.aq (.t 10)),.v 22 (.ak false 0 1 (.t 21)),.aL false 123000 (.st 1 (.t 22) (.t 20))] [0,1,6,7,2000000,2000001]) Fg
abbrev Fe:AK:=.seq (.aa [m 9 7,m 4 9] [0,1,4,6,7,2000000,2000001]) Ff
abbrev Fb:AK:=.seq (.block 1 Fe) Fc
abbrev Fa:AK:=.seq (.cond (.t 8) .skip (.exit 0)) Fb
abbrev E9:AK:=.seq (.aa [b 8 .lss 7 6] [0,1,6,7,8,2000000,2000001]) Fa
abbrev Fh:AK:=.loop E9
abbrev E8:AK:=.seq (.aa [m 5 1,.v 6 (.len true (.t 5)),k 7 (ci 0)] [0,1,6,7,2000000,2000001]) (.block 0 Fh)
abbrev vJ:AK:=E8
theorem Fj:aB Tryz.prog 217 123000 2 vJ []:=⟨_,Tryz.func217,by kernel_rfl⟩
theorem Fl {h a0 a1 Post} (hp:aD Tryz.prog vJ [] 2 [(0,a0),(1,a1),(2000000,a0),(2000001,a1)] h Post):Eng.Spec Tryz.prog 217 h [a0,a1] Post:=aF Fj rfl [(0,a0),(1,a1),(2000000,a0),(2000001,a1)] ⟨rfl,rfl,rfl,rfl,trivial⟩ hp
abbrev EY:AK:=.seq (.aa [u 124003 3 (.ah (.t 0)),u 124004 4 (.aq (.t 3)),u 124005 5 (.ak false 1 1 (.t 4)),u 124006 6 (.ld false 1 (.t 5)),u 124007 7 (.bin .shl (.t 6) (.c (.int .u64 16))),u 124008 8 (.ah (.t 0)),u 124009 9 (.aq (.t 8)),u 124010 10 (.ak false 0 1 (.t 9)),u 124011 11 (.ld false 1 (.t 10)),u 124012 12 (.bin .add (.t 11) (.c (.int .u32 1))),u 124013 13 (.bin .rem (.t 12) (.c (.int .u32 65521))),b 14 .or 7 13,m 2 14] [2,2000000]) .ret
abbrev EX:AK:=.seq (.aa [k 2 (.c (.int .u32 0))] [0,2000000]) EY
abbrev vI:AK:=EX
theorem EZ:aB Tryz.prog 218 124000 1 vI [.tmp 2]:=⟨_,Tryz.func218,by kernel_rfl⟩
theorem E7 {h a0 Post} (hp:aD Tryz.prog vI [.tmp 2] 1 [(0,a0),(2000000,a0)] h Post):Eng.Spec Tryz.prog 218 h [a0] Post:=aF EZ rfl [(0,a0),(2000000,a0)] ⟨rfl,rfl,trivial⟩ hp
abbrev ET:AK:=.seq (.aa [.aj (some 6) false 125006 218 [(.t 3)],m 2 6] [2]) .ret
abbrev ES:AK:=.seq (.aa [m 4 0,.aj (some 5) false 125005 217 [(.t 3),(.t 4)]] [3]) ET
abbrev ER:AK:=.seq (.aa [.eff 3 false 125003 (.alloc [.int .u32 0,.int .u32 0])] [0,3]) ES
abbrev EP:AK:=.seq (.aa [k 2 (.c (.int .u32 0))] [0]) ER
abbrev vH:AK:=EP
theorem EU:aB Tryz.prog 181 125000 1 vH [.tmp 2]:=⟨_,Tryz.func181,by kernel_rfl⟩
theorem EW {h a0 Post} (hp:aD Tryz.prog vH [.tmp 2] 1 [(0,a0)] h Post):Eng.Spec Tryz.prog 181 h [a0] Post:=aF EU rfl [(0,a0)] ⟨rfl,trivial⟩ hp
abbrev Oc:AK:=.seq (.aa [m 18 3,m 2 18] [2]) .ret
abbrev Oi:AK:=.aa [bi 17 .add 7 1,m 7 17] [0,3,6,7]
abbrev N9:AK:=.aa [m 10 3,.v 11 (.bin .shl (.t 10) (.c (.int .u64 8))),m 12 0,m 13 4,.v 14 (.b7 (.t 12) (.t 13)),.v 15 (.bc .u64 (.t 14)),b 16 .or 11 15,m 3 16] [0,3,6,7]
abbrev N8:AK:=.seq (.aa [m 9 7,m 4 9] [0,3,4,6,7]) N9
abbrev Oh:AK:=.seq (.block 1 N8) Oi
abbrev Og:AK:=.seq (.cond (.t 8) .skip (.exit 0)) Oh
abbrev Oe:AK:=.seq (.aa [b 8 .lss 7 6] [0,3,6,7,8]) Og
abbrev Oj:AK:=.loop Oe
abbrev Od:AK:=.seq (.aa [m 5 0,.v 6 (.len true (.t 5)),k 7 (ci 0)] [0,3,6,7]) (.block 0 Oj)
abbrev Oa:AK:=.seq Od Oc
abbrev N7:AK:=.seq (.aa [k 3 (.c (.int .u64 0))] [0,3]) Oa
abbrev N6:AK:=.seq (.aa [k 2 (.c (.int .u64 0))] [0]) N7
abbrev yy:AK:=N6
theorem Ol:aB Tryz.prog 73 126000 1 yy [.tmp 2]:=⟨_,Tryz.func73,by kernel_rfl⟩
theorem Oo {h a0 Post} (hp:aD Tryz.prog yy [.tmp 2] 1 [(0,a0)] h Post):Eng.Spec Tryz.prog 73 h [a0] Post:=aF Ol rfl [(0,a0)] ⟨rfl,trivial⟩ hp
abbrev aoG:AK:=.seq (.aa [m 23 4,.v 24 (.bin .mul (ci 65536) (.t 23)),m 25 3,b 26 .add 24 25,.v 27 (.bc .u32 (.t 26)),m 2 27] [2]) .ret
abbrev aoK:AK:=.aa [m 10 5,bi 11 .add 10 1,m 5 11] [0,3,4,5]
abbrev aoD:AK:=.aa [m 19 4,m 20 3,b 21 .add 19 20,bi 22 .rem 21 65521,m 4 22] [0,3,4,5]
abbrev aoC:AK:=.seq (.aa [m 12 3,m 13 0,m 14 5,.v 15 (.b7 (.t 13) (.t 14)),.v 16 (.bc .i64 (.t 15)),b 17 .add 12 16,bi 18 .rem 17 65521,m 3 18] [0,3,4,5]) aoD
abbrev aoJ:AK:=.seq (.block 1 aoC) aoK
abbrev aoE:AK:=.seq (.aa [m 6 5,m 7 0,.v 8 (.len true (.t 7)),b 9 .lss 6 8] [0,3,4,5,9]) (.cond (.t 9) .skip (.exit 0))
abbrev aoI:AK:=.seq aoE aoJ
abbrev aoL:AK:=.loop aoI
abbrev aoH:AK:=.seq (.aa [k 5 (ci 0)] [0,3,4,5]) (.block 0 aoL)
abbrev aoF:AK:=.seq aoH aoG
abbrev aoB:AK:=.seq (.aa [k 3 (ci 1),k 4 (ci 0)] [0,3,4]) aoF
abbrev aoA:AK:=.seq (.aa [k 2 (.c (.int .u32 0))] [0]) aoB
abbrev Cq:AK:=aoA
theorem aoM:aB Tryz.prog 147 129000 1 Cq [.tmp 2]:=⟨_,Tryz.func147,by kernel_rfl⟩
theorem aoO {h a0 Post} (hp:aD Tryz.prog Cq [.tmp 2] 1 [(0,a0)] h Post):Eng.Spec Tryz.prog 147 h [a0] Post:=aF aoM rfl [(0,a0)] ⟨rfl,trivial⟩ hp
abbrev aqT:AK:=.seq (.aa [m 21 5,.v 22 (.gS (.t 21)),m 4 22] [4]) .ret
abbrev aqX:AK:=.aa [m 11 6,bi 12 .add 11 1,m 6 12] [0,1,5,6]
abbrev aqQ:AK:=.aa [m 19 0,.v 20 (.bin .quo (.t 19) (.c (.int .u64 256))),m 0 20] [0,1,5,6]
abbrev aqP:AK:=.seq (.aa [m 13 5,m 14 0,.v 15 (.bin .rem (.t 14) (.c (.int .u64 256))),.v 16 (.bc .u8 (.t 15)),.eff 17 false 130017 (.ba 1 [(.t 16)]),.eff 18 false 130018 (.app 1 1 (.t 13) (.t 17)),m 5 18] [0,1,5,6]) aqQ
abbrev aqW:AK:=.seq (.block 1 aqP) aqX
abbrev aqR:AK:=.seq (.aa [m 8 6,m 9 1,b 10 .lss 8 9] [0,1,5,6,10]) (.cond (.t 10) .skip (.exit 0))
abbrev aqV:AK:=.seq aqR aqW
abbrev aqY:AK:=.loop aqV
abbrev aqU:AK:=.seq (.aa [k 6 (ci 0)] [0,1,5,6]) (.block 0 aqY)
abbrev aqS:AK:=.seq aqU aqT
abbrev aqO:AK:=.seq (.aa [.eff 7 false 130007 (.ba 1 []),m 5 7] [0,1,5]) aqS
abbrev aqN:AK:=.seq (.aa [k 4 (.c (.str []))] [0,1]) aqO
abbrev CH:AK:=aqN
theorem aqZ:aB Tryz.prog 202 130000 2 CH [.tmp 4]:=⟨_,Tryz.func202,by kernel_rfl⟩
theorem aq1 {h a0 a1 Post} (hp:aD Tryz.prog CH [.tmp 4] 2 [(0,a0),(1,a1)] h Post):Eng.Spec Tryz.prog 202 h [a0,a1] Post:=aF aqZ rfl [(0,a0),(1,a1)] ⟨rfl,rfl,trivial⟩ hp
abbrev af3:AK:=.seq (.aa [m 19 3,.v 20 (.gS (.t 19)),m 2 20] [2]) .ret
abbrev af7:AK:=.aa [m 11 4,bi 12 .sub 11 1,m 4 12] [0,3,4]
abbrev af0:AK:=.aa [m 13 3,m 14 0,m 15 4,.v 16 (.b7 (.t 14) (.t 15)),.eff 17 false 131017 (.ba 1 [(.t 16)]),.eff 18 false 131018 (.app 1 1 (.t 13) (.t 17)),m 3 18] [0,3,4]
abbrev af6:AK:=.seq (.block 1 af0) af7
abbrev af1:AK:=.seq (.aa [m 9 4,bi 10 .geq 9 0] [0,3,4,10]) (.cond (.t 10) .skip (.exit 0))
abbrev af5:AK:=.seq af1 af6
abbrev af8:AK:=.loop af5
abbrev af4:AK:=.seq (.aa [m 6 0,.v 7 (.len true (.t 6)),bi 8 .sub 7 1,m 4 8] [0,3,4]) (.block 0 af8)
abbrev af2:AK:=.seq af4 af3
abbrev afZ:AK:=.seq (.aa [.eff 5 false 131005 (.ba 1 []),m 3 5] [0,3]) af2
abbrev afY:AK:=.seq (.aa [k 2 (.c (.str []))] [0]) afZ
abbrev Bx:AK:=afY
theorem af9:aB Tryz.prog 201 131000 1 Bx [.tmp 2]:=⟨_,Tryz.func201,by kernel_rfl⟩
theorem agb {h a0 Post} (hp:aD Tryz.prog Bx [.tmp 2] 1 [(0,a0)] h Post):Eng.Spec Tryz.prog 201 h [a0] Post:=aF af9 rfl [(0,a0)] ⟨rfl,trivial⟩ hp
abbrev aoW:AK:=.seq (.aa [m 5 0,m 6 1,.aj (some 7) false 132007 202 [(.t 5),(.t 6)],.aj (some 8) false 132008 201 [(.t 7)],m 4 8] [4]) .ret
abbrev aoV:AK:=.seq (.aa [k 4 (.c (.str []))] [0,1]) aoW
abbrev Ct:AK:=aoV
theorem aoX:aB Tryz.prog 146 132000 2 Ct [.tmp 4]:=⟨_,Tryz.func146,by kernel_rfl⟩
theorem aoZ {h a0 a1 Post} (hp:aD Tryz.prog Ct [.tmp 4] 2 [(0,a0),(1,a1)] h Post):Eng.Spec Tryz.prog 146 h [a0,a1] Post:=aF aoX rfl [(0,a0),(1,a1)] ⟨rfl,rfl,trivial⟩ hp
abbrev aAv:AK:=.seq (.aa [m 5 0,.v 6 (.bin .and (.t 5) (.c (.int .u8 15))),.v 7 (.bin .eql (.t 6) (.c (.int .u8 8))),m 8 7,.af 9 8 true false 134009 (.ah (.t 0)),.af 10 8 true false 134010 (.bin .shr (.t 9) (.c (.int .u64 4))),.af 11 8 true false 134011 (.bin .leq (.t 10) (.c (.int .u8 7))),.v 12 (.pick (.t 8) (.t 11) (.c (.bool false))),m 13 12,.af 14 13 true false 134014 (.ah (.t 0)),.af 15 13 true false 134015 (.bc .i64 (.t 14)),.af 16 13 true false 134016 (.bin .shl (.t 15) (.c (.int .u64 8))),.af 17 13 true false 134017 (.ah (.t 1)),.af 18 13 true false 134018 (.bc .i64 (.t 17)),.af 19 13 true false 134019 (.bin .or (.t 16) (.t 18)),.af 20 13 true false 134020 (.bin .rem (.t 19) (ci 31)),.af 21 13 true false 134021 (.bin .eql (.t 20) (ci 0)),.v 22 (.pick (.t 13) (.t 21) (.c (.bool false))),m 23 22,.af 24 23 true false 134024 (.ah (.t 1)),.af 25 23 true false 134025 (.bin .and (.t 24) (.c (.int .u8 32))),.af 26 23 true false 134026 (.bin .eql (.t 25) (.c (.int .u8 0))),.v 27 (.pick (.t 23) (.t 26) (.c (.bool false))),m 4 27] [4]) .ret
abbrev aAu:AK:=.seq (.aa [k 4 (.c (.bool false))] [0,1]) aAv
abbrev Ew:AK:=aAu
theorem aAw:aB Tryz.prog 179 134000 2 Ew [.tmp 4]:=⟨_,Tryz.func179,by kernel_rfl⟩
theorem aAy {h a0 a1 Post} (hp:aD Tryz.prog Ew [.tmp 4] 2 [(0,a0),(1,a1)] h Post):Eng.Spec Tryz.prog 179 h [a0,a1] Post:=aF aAw rfl [(0,a0),(1,a1)] ⟨rfl,rfl,trivial⟩ hp
abbrev aAY:AK:=.seq (.aa [m 74 9,m 75 10,bi 76 .add 75 6,m 6 74,m 7 76,k 8 (ci 0)] [6,7,8]) .ret
abbrev aAG:AK:=.seq (.aa [k 6 (.c (.str [])),k 7 (ci 0),k 8 (ci 5)] [6,7,8]) .ret
abbrev aAF:AK:=.seq (.aa [m 64 0,m 65 12,m 66 12,bi 67 .add 66 4,.v 68 (.bA (.t 64) (some (.t 65)) (some (.t 67))),.aj (some 69) false 135069 73 [(.t 68)],.v 70 (.bc .u32 (.t 69)),m 71 9,.aj (some 72) false 135072 181 [(.t 71)],b 73 .neq 70 72] [9,10,73]) (.cond (.t 73) aAG .skip)
abbrev aAX:AK:=.seq aAF aAY
abbrev aAI:AK:=.seq (.aa [k 6 (.c (.str [])),k 7 (ci 0),k 8 (ci 6)] [6,7,8]) .ret
abbrev aAH:AK:=.seq (.aa [m 59 0,.v 60 (.len true (.t 59)),m 61 12,b 62 .sub 60 61,bi 63 .lss 62 4] [0,9,10,12,63]) (.cond (.t 63) aAI .skip)
abbrev aAW:AK:=.seq aAH aAX
abbrev aAV:AK:=.seq (.aa [m 55 1,bi 56 .add 55 2,m 57 10,b 58 .add 56 57,m 12 58] [0,9,10,12]) aAW
abbrev aAK:AK:=.seq (.aa [m 54 11,k 6 (.c (.str [])),k 7 (ci 0),m 8 54] [6,7,8]) .ret
abbrev aAJ:AK:=.seq (.aa [m 52 11,bi 53 .neq 52 0] [0,1,9,10,11,53]) (.cond (.t 53) aAK .skip)
abbrev aAU:AK:=.seq aAJ aAV
abbrev aAT:AK:=.seq (.aa [m 44 0,m 45 1,bi 46 .add 45 2,m 47 2,.aj (some 48) false 135048 180 [(.t 44),(.t 46),(.t 47)],m 43 48,.v 49 (.ext (.t 43) 0),.v 50 (.ext (.t 43) 1),.v 51 (.ext (.t 43) 2),m 9 49,m 10 50,m 11 51] [0,1,9,10,11]) aAU
abbrev aAN:AK:=.seq (.aa [k 6 (.c (.str [])),k 7 (ci 0),k 8 (ci 3)] [6,7,8]) .ret
abbrev aAL:AK:=.seq (.aa [u 135034 34 (.ah (.t 0)),u 135035 35 (.ah (.t 1)),u 135036 36 (.b7 (.t 34) (.t 35)),u 135037 37 (.ah (.t 0)),u 135038 38 (.ah (.t 1)),u 135039 39 (.bin .add (.t 38) (ci 1)),u 135040 40 (.b7 (.t 37) (.t 39)),.aj (some 41) false 135041 179 [(.t 36),(.t 40)],.v 42 (.un .not (.t 41))] [0,1,2,42]) (.cond (.t 42) aAN .skip)
abbrev aAS:AK:=.seq aAL aAT
abbrev aAP:AK:=.seq (.aa [k 6 (.c (.str [])),k 7 (ci 0),k 8 (ci 6)] [6,7,8]) .ret
abbrev aAO:AK:=.seq (.aa [m 29 0,.v 30 (.len true (.t 29)),m 31 1,b 32 .sub 30 31,bi 33 .lss 32 2] [0,1,2,33]) (.cond (.t 33) aAP .skip)
abbrev aAM:AK:=.seq aAO aAS
abbrev aAR:AK:=.seq (.aa [k 6 (.c (.str [])),k 7 (ci 0),k 8 (ci 1)] [6,7,8]) .ret
abbrev aAQ:AK:=.seq (.aa [m 13 1,bi 14 .lss 13 0,m 15 14,.af 16 15 false false 135016 (.ah (.t 1)),.af 17 15 false false 135017 (.ah (.t 0)),.af 18 15 false false 135018 (.len true (.t 17)),.af 19 15 false false 135019 (.bin .gtr (.t 16) (.t 18)),.v 20 (.pick (.t 15) (.c (.bool true)) (.t 19)),m 21 20,.af 22 21 false false 135022 (.ah (.t 2)),.af 23 21 false false 135023 (.bin .lss (.t 22) (ci 0)),.v 24 (.pick (.t 21) (.c (.bool true)) (.t 23)),m 25 24,.af 26 25 false false 135026 (.ah (.t 2)),.af 27 25 false false 135027 (.bin .gtr (.t 26) (ci 65536)),.v 28 (.pick (.t 25) (.c (.bool true)) (.t 27))] [0,1,2,28]) (.cond (.t 28) aAR .skip)
abbrev aAE:AK:=.seq aAQ aAM
abbrev aAD:AK:=.seq (.aa [k 6 (.c (.str [])),k 7 (ci 0),k 8 (ci 0)] [0,1,2]) aAE
abbrev Ey:AK:=aAD
theorem aAZ:aB Tryz.prog 132 135000 3 Ey [.tmp 6,.tmp 7,.tmp 8]:=⟨_,Tryz.func132,by kernel_rfl⟩
theorem aA1 {h a0 a1 a2 Post} (hp:aD Tryz.prog Ey [.tmp 6,.tmp 7,.tmp 8] 3 [(0,a0),(1,a1),(2,a2)] h Post):Eng.Spec Tryz.prog 132 h [a0,a1,a2] Post:=aF aAZ rfl [(0,a0),(1,a1),(2,a2)] ⟨rfl,rfl,rfl,trivial⟩ hp
abbrev amQ:AK:=.seq (.aa [m 5 0,bi 6 .rem 5 16,bi 7 .eql 6 8,m 8 7,.af 9 8 true false 136009 (.ah (.t 0)),.af 10 8 true false 136010 (.bin .quo (.t 9) (ci 16)),.af 11 8 true false 136011 (.bin .leq (.t 10) (ci 7)),.v 12 (.pick (.t 8) (.t 11) (.c (.bool false))),m 13 12,.af 14 13 true false 136014 (.ah (.t 0)),.af 15 13 true false 136015 (.bin .mul (ci 256) (.t 14)),.af 16 13 true false 136016 (.ah (.t 1)),.af 17 13 true false 136017 (.bin .add (.t 15) (.t 16)),.af 18 13 true false 136018 (.bin .rem (.t 17) (ci 31)),.af 19 13 true false 136019 (.bin .eql (.t 18) (ci 0)),.v 20 (.pick (.t 13) (.t 19) (.c (.bool false))),m 21 20,.af 22 21 true false 136022 (.ah (.t 1)),.af 23 21 true false 136023 (.bin .quo (.t 22) (ci 32)),.af 24 21 true false 136024 (.bin .rem (.t 23) (ci 2)),.af 25 21 true false 136025 (.bin .eql (.t 24) (ci 0)),.v 26 (.pick (.t 21) (.t 25) (.c (.bool false))),m 4 26] [4]) .ret
abbrev amP:AK:=.seq (.aa [k 4 (.c (.bool false))] [0,1]) amQ
abbrev Ce:AK:=amP
theorem amR:aB Tryz.prog 144 136000 2 Ce [.tmp 4]:=⟨_,Tryz.func144,by kernel_rfl⟩
theorem amT {h a0 a1 Post} (hp:aD Tryz.prog Ce [.tmp 4] 2 [(0,a0),(1,a1)] h Post):Eng.Spec Tryz.prog 144 h [a0,a1] Post:=aF amR rfl [(0,a0),(1,a1)] ⟨rfl,rfl,trivial⟩ hp
abbrev ang:AK:=.seq (.aa [m 73 9,m 74 10,bi 75 .add 74 6,m 6 73,m 7 75,k 8 (ci 0)] [6,7,8]) .ret
abbrev amX:AK:=.seq (.aa [k 6 (.c (.str [])),k 7 (ci 0),k 8 (ci 5)] [6,7,8]) .ret
abbrev amW:AK:=.seq (.aa [u 137066 66 (.ah (.t 12)),u 137067 67 (.bA (.t 66) none (some (ci 4))),m 68 9,.aj (some 69) false 137069 147 [(.t 68)],.v 70 (.bc .u64 (.t 69)),.aj (some 71) false 137071 146 [(.t 70),(ci 4)],b 72 .neq 67 71] [9,10,72]) (.cond (.t 72) amX .skip)
abbrev anf:AK:=.seq amW ang
abbrev amZ:AK:=.seq (.aa [k 6 (.c (.str [])),k 7 (ci 0),k 8 (ci 6)] [6,7,8]) .ret
abbrev amY:AK:=.seq (.aa [m 63 12,.v 64 (.len true (.t 63)),bi 65 .lss 64 4] [9,10,12,65]) (.cond (.t 65) amZ .skip)
abbrev ane:AK:=.seq amY anf
abbrev anc:AK:=.seq (.aa [m 57 0,m 58 1,bi 59 .add 58 2,m 60 10,b 61 .add 59 60,.v 62 (.bA (.t 57) (some (.t 61)) none),m 12 62] [9,10,12]) ane
abbrev am1:AK:=.seq (.aa [m 56 11,k 6 (.c (.str [])),k 7 (ci 0),m 8 56] [6,7,8]) .ret
abbrev am0:AK:=.seq (.aa [m 54 11,bi 55 .neq 54 0] [0,1,9,10,11,55]) (.cond (.t 55) am1 .skip)
abbrev anb:AK:=.seq am0 anc
abbrev ana:AK:=.seq (.aa [m 46 0,m 47 1,bi 48 .add 47 2,m 49 2,.aj (some 50) false 137050 145 [(.t 46),(.t 48),(.t 49)],m 45 50,.v 51 (.ext (.t 45) 0),.v 52 (.ext (.t 45) 1),.v 53 (.ext (.t 45) 2),m 9 51,m 10 52,m 11 53] [0,1,9,10,11]) anb
abbrev am4:AK:=.seq (.aa [k 6 (.c (.str [])),k 7 (ci 0),k 8 (ci 3)] [6,7,8]) .ret
abbrev am2:AK:=.seq (.aa [u 137034 34 (.ah (.t 0)),u 137035 35 (.ah (.t 1)),u 137036 36 (.b7 (.t 34) (.t 35)),u 137037 37 (.bc .i64 (.t 36)),u 137038 38 (.ah (.t 0)),u 137039 39 (.ah (.t 1)),u 137040 40 (.bin .add (.t 39) (ci 1)),u 137041 41 (.b7 (.t 38) (.t 40)),u 137042 42 (.bc .i64 (.t 41)),.aj (some 43) false 137043 144 [(.t 37),(.t 42)],.v 44 (.un .not (.t 43))] [0,1,2,44]) (.cond (.t 44) am4 .skip)
abbrev am9:AK:=.seq am2 ana
abbrev am6:AK:=.seq (.aa [k 6 (.c (.str [])),k 7 (ci 0),k 8 (ci 6)] [6,7,8]) .ret
abbrev am5:AK:=.seq (.aa [m 29 0,.v 30 (.len true (.t 29)),m 31 1,b 32 .sub 30 31,bi 33 .lss 32 2] [0,1,2,33]) (.cond (.t 33) am6 .skip)
abbrev am3:AK:=.seq am5 am9
abbrev am8:AK:=.seq (.aa [k 6 (.c (.str [])),k 7 (ci 0),k 8 (ci 1)] [6,7,8]) .ret
abbrev am7:AK:=.seq (.aa [m 13 1,bi 14 .lss 13 0,m 15 14,.af 16 15 false false 137016 (.ah (.t 1)),.af 17 15 false false 137017 (.ah (.t 0)),.af 18 15 false false 137018 (.len true (.t 17)),.af 19 15 false false 137019 (.bin .gtr (.t 16) (.t 18)),.v 20 (.pick (.t 15) (.c (.bool true)) (.t 19)),m 21 20,.af 22 21 false false 137022 (.ah (.t 2)),.af 23 21 false false 137023 (.bin .lss (.t 22) (ci 0)),.v 24 (.pick (.t 21) (.c (.bool true)) (.t 23)),m 25 24,.af 26 25 false false 137026 (.ah (.t 2)),.af 27 25 false false 137027 (.bin .gtr (.t 26) (ci 65536)),.v 28 (.pick (.t 25) (.c (.bool true)) (.t 27))] [0,1,2,28]) (.cond (.t 28) am8 .skip)
abbrev amV:AK:=.seq am7 am3
abbrev amU:AK:=.seq (.aa [k 6 (.c (.str [])),k 7 (ci 0),k 8 (ci 0)] [0,1,2]) amV
abbrev Cf:AK:=amU
theorem anh:aB Tryz.prog 93 137000 3 Cf [.tmp 6,.tmp 7,.tmp 8]:=⟨_,Tryz.func93,by kernel_rfl⟩
theorem anj {h a0 a1 a2 Post} (hp:aD Tryz.prog Cf [.tmp 6,.tmp 7,.tmp 8] 3 [(0,a0),(1,a1),(2,a2)] h Post):Eng.Spec Tryz.prog 93 h [a0,a1,a2] Post:=aF anh rfl [(0,a0),(1,a1),(2,a2)] ⟨rfl,rfl,rfl,trivial⟩ hp
end Go.Proofs.YtoalcafkffmiiaaGreatDoor.Cod
namespace Go.Proofs.YtoalcafkffmiiaaGreatDoor.Pk
open Eng Sh
set_option maxRecDepth 10000
def afC:W:=3988292384#32
def Kp (c:W):W:=(c >>> 1) ^^^ (afC &&& -(c &&& 1#32))
def crcIt (c:W):Nat->W
 | 0=>c
 | i+1=>Kp (crcIt c i)
def Kq (c:W) (b:UInt8):W:=crcIt (c ^^^ BitVec.ofNat 32 b.toNat) 8
def Kr (c:W) (t:Bs):W:=t.foldl Kq c
def ad6:W:=4294967295#32
def Ks (t:Bs):W := ~~~ (Kr ad6 t)
open Eng Sh
set_option maxRecDepth 10000
def oC (p:Nat×Nat) (c:UInt8):Nat×Nat:=((p.1+c.toNat)%65521,(p.2+(p.1+c.toNat)%65521)%65521)
def cz (t:Bs):Nat×Nat:=t.foldl oC (1,0)
def gR (t:Bs):Nat:=65536*(cz t).2+(cz t).1
theorem rK (t:Bs) {k:Nat} (h:k<t.length):cz (t.take (k+1))=oC (cz (t.take k)) (t.getD k 0):=by
 rw[lK t h];simp[cz]
theorem EO (p:Nat×Nat) (c:UInt8):(oC p c).1<65521/\(oC p c).2<65521:=⟨aCD _ (by decide),aCD _ (by decide)⟩
theorem mU (t:Bs):(cz t).1<65521/\(cz t).2<65521:=by
 have:∀k,k<=t.length->(cz (t.take k)).1<65521/\(cz (t.take k)).2<65521:=by
  intro k
  cases k with
  | zero=>intro _;rw[aB1];decide
  | succ k=>intro h;rw[rK t h];exact EO _ _
 have h:=this t.length (aA9 _)
 rwa[aA7 (aA9 _)]at h
theorem vG (t:Bs):gR t<4294967296:=by
 have:=mU t;unfold gR;omega
def fP (a:Nat):Nat:=(a+65520)%65521
theorem Fk (t:Bs) (ht:t.length<=1000000000):Eng.Spec Tryz.prog 217 [(125003,.var [.int .u32 0,.int .u32 0])] [.ab 125003 0,.str t]
    (λh' v ar=>h'=[(125003,.var [.int .u32 (fP (cz t).1:Nat),.int .u32 ((cz t).2:Nat)])]/\v=.ai []/\ar=[.ab 125003 0,.str t]):=by
 refine Cod.Fl (λE R hN hR=>?_);refine wW ?_;refine aZ hN (λk:Nat=>⟨[(0,.ab 125003 0),(1,.str t),(6,.int .i64 t.length),(7,.int .i64 k),(2000000,.ab 125003 0),(2000001,.str t)],[(125003,.var [.int .u32 (fP (cz (t.take k)).1:Nat),.int .u32 ((cz (t.take k)).2:Nat)])]⟩) (λk=>k<=t.length) (λk=>t.length-k) 0 (.le (by simp(disch:=omega)only[go_sem,simprocAttr];simp[cz,fP])) aA4 ?_;rintro k R1 hk hR1;by_cases hlt:k<t.length
 ·have hct:=rK t hlt;have hxl:=mU (t.take k);generalize cz (t.take k)=x at *
  have hbl:=(t.getD k 0).toNat_lt;obtain⟨xa,xb⟩:=x;simp only at hxl;have hc1:(cz (t.take (k+1))).1=(xa+(t.getD k 0).toNat)%65521:=by rw[hct];rfl
  have hc2:(cz (t.take (k+1))).2=(xb+(xa+(t.getD k 0).toNat)%65521)%65521:=by rw[hct];rfl
  generalize hb:(t.getD k 0).toNat=b at *
  have l1:fP xa<65521:=aCD _ (by decide)
  have e2:(((fP xa:Nat):Int)+(b:Int)).tmod 65521=((fP ((xa+b)%65521):Nat):Int):=by
   rw[iD aA4];unfold fP;omega
  have e3:(((xb:Nat):Int)+((fP ((xa+b)%65521):Nat):Int)+1).tmod 65521=(((xb+(xa+b)%65521)%65521:Nat):Int):=by
   rw[iD aA4];unfold fP;omega
  have l2:fP ((xa+b)%65521)<65521:=aCD _ (by decide);refine ct hb e2 e3 ?_;exact hR1 (k+1) _ aA4 aA4 (.le (jZ hc1 hc2))
 ·obtain rfl:k=t.length:=aA4;rw[aA7 (aA9 _)];refine wW ?_;exact hR.le vV ⟨rfl,rfl,rfl⟩
theorem aeN {a b:Nat} (ha:a<65536) (hb:b<65536):bits .or .u32 (IntKind.u32.wrap ((b:Int)*2^min 16 32)) (a:Int)=((65536*b+a:Nat):Int):=by
 have h1:((b:Int)*2^min 16 32)=((b*65536:Nat):Int):=by
  rw[show((2:Int)^min 16 32)=65536 by decide];omega
 rw[h1,wrap_u32 aA4]
 show IntKind.u32.wrap ((BitVec.ofInt 32 ((b*65536:Nat):Int) ||| BitVec.ofInt 32 (a:Int)).toNat:Int)=_
 rw[aBl,aBl,aCw,aBm,aBm,aBh aA4,aBh aA4]
 have h2:b*65536 ||| a=65536*b+a:=by
  have h3:=aBU (b:=a) (i:=16) aA4 b;rw[aB8,show(2:Nat)^16=65536 by decide]at h3;omega
 rw[h2];exact wrap_u32 aA4
theorem E6 (t:Bs):Eng.Spec Tryz.prog 218 [(125003,.var [.int .u32 (fP (cz t).1:Nat),.int .u32 ((cz t).2:Nat)])] [.ab 125003 0]
    (λh' v ar=>h'=[(125003,.var [.int .u32 (fP (cz t).1:Nat),.int .u32 ((cz t).2:Nat)])]/\v=.int .u32 (gR t:Nat)/\ar=[.ab 125003 0]):=by
 refine Cod.E7 (λE R hN hR=>?_);have hl:=mU t;unfold gR at hR;generalize cz t=x at *
 obtain⟨xa,xb⟩:=x;simp only at hl hR |-;have l1:fP xa<65521:=aCD _ (by decide)
 have e1:(((fP xa:Nat):Int)+1).tmod 65521=((xa:Nat):Int):=by
  rw[iD aA4];unfold fP;omega
 have e2:=aeN (a:=xa) (b:=xb) aA4 aA4;refine bl e1 e2 ?_;exact hR.le vV ⟨rfl,rfl,rfl⟩
theorem EV (t:Bs) (ht:t.length<=1000000000):aJ Tryz.prog 181 [.str t] (.int .u32 (gR t:Nat)):=by
 refine Cod.EW (λE R hN hR=>?_);have hw:=Fk t ht;have hs:=E6 t;refine wW ?_;refine aR [(125003,.var [.int .u32 0,.int .u32 0])] hw vV nofun ?_;rintro h' v ar ⟨rfl,rfl,rfl⟩;refine⟨vV,rfl,?_⟩;refine wW ?_;refine aR [(125003,.var [.int .u32 (fP (cz t).1:Nat),.int .u32 ((cz t).2:Nat)])] hs vV nofun ?_;rintro h' v ar ⟨rfl,rfl,rfl⟩;refine⟨vV,rfl,?_⟩;refine wW ?_;exact hR.ro ⟨rfl,rfl⟩
theorem aoN (t:Bs) (ht:t.length<=1000000000):aJ Tryz.prog 147 [.str t] (.int .u32 (gR t:Nat)):=by
 refine Cod.aoO (λE R hN hR=>?_);refine wW ?_;refine aZ hN (λk:Nat=>⟨[(0,.str t),(3,.int .i64 ((cz (t.take k)).1:Nat)),(4,.int .i64 ((cz (t.take k)).2:Nat)),(5,.int .i64 k)],[]⟩) (λk=>k<=t.length) (λk=>t.length-k) 0 (.le (by simp(disch:=omega)only[go_sem,simprocAttr];simp[cz])) aA4 ?_;rintro k R1 hk hR1;by_cases hlt:k<t.length
 ·have hct:=rK t hlt;have hxl:=mU (t.take k);generalize cz (t.take k)=x at *
  have hbl:=(t.getD k 0).toNat_lt;obtain⟨xa,xb⟩:=x;simp only at hxl;have hc1:(cz (t.take (k+1))).1=(xa+(t.getD k 0).toNat)%65521:=by rw[hct];rfl
  have hc2:(cz (t.take (k+1))).2=(xb+(xa+(t.getD k 0).toNat)%65521)%65521:=by rw[hct];rfl
  generalize hb:(t.getD k 0).toNat=b at *
  have e1:((xa:Int)+(b:Int)).tmod 65521=(((xa+b)%65521:Nat):Int):=by rw[iD aA4];omega
  have e2:((xb:Int)+(((xa+b)%65521:Nat):Int)).tmod 65521=(((xb+(xa+b)%65521)%65521:Nat):Int):=by rw[iD aA4];omega
  refine ct hb e1 e2 ?_;exact hR1 (k+1) _ aA4 aA4 (.le (jZ hc1 hc2))
 ·obtain rfl:k=t.length:=aA4;rw[aA7 (aA9 _)];have hl:=mU t;unfold gR at hR;generalize cz t=x at *
  obtain⟨xa,xb⟩:=x;simp only at hl hR |-;have e1:(65536:Int)*(xb:Int)+(xa:Int)=((65536*xb+xa:Nat):Int):=aA4;refine au e1 ?_;exact hR.ro ⟨rfl,rfl⟩
def fJ (t:Bs):Nat:=t.foldl (λx c=>256*x+c.toNat) 0
theorem wg (t:Bs) {k:Nat} (h:k<t.length):fJ (t.take (k+1))=256*fJ (t.take k)+(t.getD k 0).toNat:=by
 rw[lK t h];simp[fJ]
theorem r7 (t:Bs):∀k,k<=t.length->fJ (t.take k)<256^k
 | 0,_=>by rw[aB1];decide
 | k+1,h=>by
  have ih:=r7 t k aA4;have hb:=(t.getD k 0).toNat_lt;rw[wg t h,aCf];omega
theorem Ht (t:Bs) {k:Nat} (h:k<=t.length) (h7:t.length<=6):fJ (t.take k)<281474976710656:=by
 have h1:=r7 t k h;have h2:256^k<=256^6:=aBg (by decide) aA4;exact aBi h1 h2
theorem aeO {x b:Nat} (hx:x<281474976710656) (hb:b<256):bits .or .u64 (IntKind.u64.wrap ((x:Int)*2^min 8 64)) (b:Int)=((256*x+b:Nat):Int):=by
 have h1:((x:Int)*2^min 8 64)=((x*256:Nat):Int):=by
  rw[show((2:Int)^min 8 64)=256 by decide];omega
 rw[h1,wrap_u64 aA4]
 show IntKind.u64.wrap ((BitVec.ofInt 64 ((x*256:Nat):Int) ||| BitVec.ofInt 64 (b:Int)).toNat:Int)=_
 rw[aBl,aBl,aCw,aBm,aBm,aBh aA4,aBh aA4]
 have h2:x*256 ||| b=256*x+b:=by
  have h3:=aBU (b:=b) (i:=8) aA4 x;rw[aB8,show(2:Nat)^8=256 by decide]at h3;omega
 rw[h2];exact wrap_u64 aA4
theorem aeP {x b:Nat} (hx:x<281474976710656) (hb:b<256):bits .or .i64 (IntKind.i64.wrap ((x:Int)*2^min 8 64)) (b:Int)=((256*x+b:Nat):Int):=by
 have h1:((x:Int)*2^min 8 64)=((x*256:Nat):Int):=by
  rw[show((2:Int)^min 8 64)=256 by decide];omega
 rw[h1,jx aA4]
 show IntKind.i64.wrap ((BitVec.ofInt 64 ((x*256:Nat):Int) ||| BitVec.ofInt 64 (b:Int)).toNat:Int)=_
 rw[aBl,aBl,aCw,aBm,aBm,aBh aA4,aBh aA4]
 have h2:x*256 ||| b=256*x+b:=by
  have h3:=aBU (b:=b) (i:=8) aA4 x;rw[aB8,show(2:Nat)^8=256 by decide]at h3;omega
 rw[h2];exact jx aA4
theorem Om (t:Bs) (ht:t.length<=6):aJ Tryz.prog 73 [.str t] (.int .u64 (fJ t:Nat)):=by
 refine Cod.Oo (λE R hN hR=>?_);refine wW ?_;refine aZ hN (λk:Nat=>⟨[(0,.str t),(3,.int .u64 (fJ (t.take k):Nat)),(6,.int .i64 t.length),(7,.int .i64 k)],[]⟩) (λk=>k<=t.length) (λk=>t.length-k) 0 (.le (by simp(disch:=omega)only[go_sem,simprocAttr];simp[fJ])) aA4 ?_;rintro k R1 hk hR1;by_cases hlt:k<t.length
 ·have hct:=wg t hlt;have hxl:=Ht t hk ht;have hbl:=(t.getD k 0).toNat_lt;have ho:=aeO hxl hbl;generalize fJ (t.take k)=x at *
  refine au ho ?_;exact hR1 (k+1) _ aA4 aA4 (.le (eM hct))
 ·obtain rfl:k=t.length:=aA4;rw[aA7 (aA9 _)];refine wW ?_;exact hR.ro ⟨rfl,rfl⟩
def ga (x n:Nat):Bs:=(List.range n).map λi=>UInt8.ofNat (x/256^i%256)
theorem z7 (x n:Nat):(ga x n).length=n:=by simp[ga]
theorem Zu (x n:Nat):ga x (n+1)=ga x n++[UInt8.ofNat (x/256^n%256)]:=by simp[ga,aCv]
theorem aq0 (x n:Nat) (hx:x<9223372036854775808) (hn:n<=1000):aJ Tryz.prog 202 [.int .u64 x,.int .i64 n] (.str (ga x n)):=by
 refine Cod.aq1 (λE R hN hR=>?_);refine wW ?_;refine aZ hN (λk:Nat=>⟨[(0,.int .u64 (x/256^k:Nat)),(1,.int .i64 n),(5,.sl 130007 0 k),(6,.int .i64 k)],[(130007,.arr 1 ((ga x k).map ub))]⟩) (λk=>k<=n) (λk=>n-k) 0 (.le (by simp(disch:=omega)only[go_sem,simprocAttr];simp[ga])) aA4 ?_;rintro k R1 hk hR1;have hl:=z7 x k;by_cases hlt:k<n
 ·have hct:=Zu x k;have hd:x/256^k<=x:=aC2 _ _;have hR1':=λst'=>hR1 (k+1) st' aA4 aA4;have hp:x/256^(k+1)=x/256^k/256:=by rw[aCf,aCF]
  rw[hp]at hR1' ;generalize x/256^k=x1 at *
  have e1:((x1:Nat):Int).tmod 256=((x1%256:Nat):Int):=by rw[iD aA4];omega
  have e2:((x1:Nat):Int).tdiv 256=((x1/256:Nat):Int):=by rw[kL aA4];omega
  have e3:((x1%256:Nat):Int)=((UInt8.ofNat (x1%256)).toNat:Int):=by rw[aCi];omega
  have hu:=(UInt8.ofNat (x1%256)).toNat_lt;rw[e3]at e1;generalize UInt8.ofNat (x1%256)=c at *
  refine bl e1 e2 ?_;exact hR1' _ (.le (by rw[hct];simp(disch:=omega)only[go_sem,simprocAttr];simp[ub]))
 ·obtain rfl:k=n:=aA4;refine wW ?_;exact hR.wk (h':=[]) (r':=.str (ga x k)) (ar':=[.undef,.undef]) rfl (.le vV) ⟨rfl,rfl⟩
theorem ap7 (t:Bs) {k:Nat} (h:k<t.length):t.reverse.take (k+1)=t.reverse.take k++[t.getD (t.length-1-k) 0]:=by
 rw[lK t.reverse (by simpa using h),aA5,List.getElem?_reverse h,aA5]
theorem aga (t:Bs) (ht:t.length<=1000000):aJ Tryz.prog 201 [.str t] (.str t.reverse):=by
 refine Cod.agb (λE R hN hR=>?_);refine wW ?_;refine aZ hN (λk:Nat=>⟨[(0,.str t),(3,.sl 131005 0 k),(4,.int .i64 ((t.length:Int)-1-(k:Int)))],[(131005,.arr 1 ((t.reverse.take k).map ub))]⟩) (λk=>k<=t.length) (λk=>t.length-k) 0 (.le vV) aA4 ?_;rintro k R1 hk hR1;have hl:(t.reverse.take k).length=k:=by rw[aBa,aCW];omega
 by_cases hlt:k<t.length
 ·have hct:=ap7 t hlt;have ei:(t.length:Int)-1-(k:Int)=((t.length-1-k:Nat):Int):=aA4;have ei2:(t.length:Int)-1-(k:Int)-1=(t.length:Int)-1-((k+1:Nat):Int):=aA4;have hu:=(t.getD (t.length-1-k) 0).toNat_lt;rw[ei];refine wW ?_;refine hR1 (k+1) _ aA4 aA4 (.le ?_);rw[hct,show((t.length:Int)-1-((k+1:Nat):Int))=((t.length-1-k:Nat):Int)-1 by omega];refine wW ?_;simp[ub]
 ·obtain rfl:k=t.length:=aA4;rw[aA7 (by rw[aCW];omega)]at hl |-;have ei:(t.length:Int)-1-(t.length:Int) = -1:=aA4;rw[ei];refine wW ?_;exact hR.wk (h':=[]) (r':=.str t.reverse) (ar':=[.undef]) rfl (.le vV) ⟨rfl,rfl⟩
theorem aoY (x n:Nat) (hx:x<9223372036854775808) (hn:n<=1000):aJ Tryz.prog 146 [.int .u64 x,.int .i64 n] (.str (ga x n).reverse):=by
 refine Cod.aoZ (λE R hN hR=>?_);have h1:=aq0 x n hx hn;have h2:=aga (ga x n) (by rw[z7];omega);refine wW ?_;refine aw h1 rfl rfl ?_;refine wW ?_;refine aw h2 rfl rfl ?_;refine wW ?_;exact hR.ro ⟨rfl,rfl⟩
theorem Hu (u:Bs) (hu:u.length=4) (v:Nat) (hv:v<4294967296):fJ u=v↔u=(ga v 4).reverse:=by
 obtain⟨a,b,c,d,rfl⟩:∃a b c d,u=[a,b,c,d]:=by
  match u,hu with
  | [a,b,c,d],_=>exact⟨a,b,c,d,rfl⟩
 have ha:=a.toNat_lt;have hb:=b.toNat_lt;have hc:=c.toNat_lt;have hd:=d.toNat_lt;have e1:fJ [a,b,c,d]=256*(256*(256*a.toNat+b.toNat)+c.toNat)+d.toNat:=by simp[fJ]
 have e2:(ga v 4).reverse=[UInt8.ofNat (v/16777216%256),UInt8.ofNat (v/65536%256),UInt8.ofNat (v/256%256),UInt8.ofNat (v%256)]:=by simp[ga,aCv]
 rw[e1,e2];constructor
 ·intro h;have f:∀(x:UInt8) (n:Nat),x.toNat=n->x=UInt8.ofNat n:=λx n h=>by rw[<-h,aC6]
  rw[f a _ (show a.toNat=v/16777216%256 by omega),f b _ (show b.toNat=v/65536%256 by omega),f c _ (show c.toNat=v/256%256 by omega),f d _ (show d.toNat=v%256 by omega)]
 ·intro h;simp only[List.cons.injEq,and_true]at h;obtain⟨rfl,rfl,rfl,rfl⟩:=h;simp only[aCi];omega
def jF (a b:Nat):Bool:=decide (a%16=8)&&(decide (a/16<=7)&&(decide ((256*a+b)%31=0)&&decide (b/32%2=0)))
theorem FI {b:Nat} (h:b<256):bits .and .u8 (b:Int) 32=((b/32%2*32:Nat):Int):=by
 have:∀b:Nat,b<256->bits .and .u8 (b:Int) 32=((b/32%2*32:Nat):Int):=by decide +kernel
 exact this b h
theorem aAx (a b:UInt8):aJ Tryz.prog 179 [.int .u8 a.toNat,.int .u8 b.toNat] (.bool (jF a.toNat b.toNat)):=by
 refine Cod.aAy (λE R hN hR=>?_);have ha:=a.toNat_lt;have hb:=b.toNat_lt;have e1:=D8 a;have e2:=D7 a;have e3:=aeP (x:=a.toNat) (b:=b.toNat) aA4 hb;have e4:((256*a.toNat+b.toNat:Nat):Int).tmod 31=(((256*a.toNat+b.toNat)%31:Nat):Int):=by rw[iD aA4];omega
 have e5:=FI hb;unfold jF at hR;generalize a.toNat=x at *
 generalize b.toNat=y at *
 by_cases h1:x%16=8
 ·by_cases h2:x/16<=7
  ·by_cases h3:(256*x+y)%31=0
   ·by_cases h4:y/32%2=0
    ·rw[decide_eq_true h1,decide_eq_true h2,decide_eq_true h3,decide_eq_true h4]at hR;rw[h1]at e1;rw[h3]at e4;rw[h4]at e5;refine cW e1 e2 e3 e4 e5 ?_;refine ns e1 e2 e3 e4 e5 ?_;exact hR.ro ⟨rfl,rfl⟩
    ·rw[decide_eq_true h1,decide_eq_true h2,decide_eq_true h3,decide_eq_false h4]at hR;rw[h1]at e1;rw[h3]at e4;rw[show y/32%2=1 by omega]at e5;refine cW e1 e2 e3 e4 e5 ?_;refine ns e1 e2 e3 e4 e5 ?_;exact hR.ro ⟨rfl,rfl⟩
   ·rw[decide_eq_true h1,decide_eq_true h2,decide_eq_false h3]at hR;rw[h1]at e1;have hi:¬(((256*x+y)%31:Nat):Int)=0:=aA4;refine cW e1 e2 e3 e4 hi ?_;refine ns e1 e2 e3 e4 hi ?_;exact hR.ro ⟨rfl,rfl⟩
  ·rw[decide_eq_true h1,decide_eq_false h2]at hR;rw[h1]at e1;have hi:¬((x/16:Nat):Int)<=7:=aA4;refine ct e1 e2 hi ?_;refine fx e1 e2 hi ?_;exact hR.ro ⟨rfl,rfl⟩
 ·rw[decide_eq_false h1]at hR;have hi:¬((x%16:Nat):Int)=8:=aA4;refine bl e1 hi ?_;refine dI e1 hi ?_;exact hR.ro ⟨rfl,rfl⟩
theorem amS (x y:Nat) (hx:x<256) (hy:y<256):aJ Tryz.prog 144 [.int .i64 x,.int .i64 y] (.bool (jF x y)):=by
 refine Cod.amT (λE R hN hR=>?_);have e1:(x:Int).tmod 16=((x%16:Nat):Int):=by rw[iD aA4];omega
 have e2:(x:Int).tdiv 16=((x/16:Nat):Int):=by rw[kL aA4];omega
 have e4:(256*(x:Int)+(y:Int)).tmod 31=(((256*x+y)%31:Nat):Int):=by rw[iD aA4];omega
 have e5:(y:Int).tdiv 32=((y/32:Nat):Int):=by rw[kL aA4];omega
 have e6:((y/32:Nat):Int).tmod 2=((y/32%2:Nat):Int):=by rw[iD aA4];omega
 unfold jF at hR;by_cases h1:x%16=8
 ·by_cases h2:x/16<=7
  ·by_cases h3:(256*x+y)%31=0
   ·by_cases h4:y/32%2=0
    ·rw[decide_eq_true h1,decide_eq_true h2,decide_eq_true h3,decide_eq_true h4]at hR;rw[h1]at e1;rw[h3]at e4;rw[h4]at e6;refine cW e1 e2 e4 e5 e6 ?_;refine ns e1 e2 e4 e5 e6 ?_;exact hR.ro ⟨rfl,rfl⟩
    ·rw[decide_eq_true h1,decide_eq_true h2,decide_eq_true h3,decide_eq_false h4]at hR;rw[h1]at e1;rw[h3]at e4;rw[show y/32%2=1 by omega]at e6;refine cW e1 e2 e4 e5 e6 ?_;refine ns e1 e2 e4 e5 e6 ?_;exact hR.ro ⟨rfl,rfl⟩
   ·rw[decide_eq_true h1,decide_eq_true h2,decide_eq_false h3]at hR;rw[h1]at e1;have hi:¬(((256*x+y)%31:Nat):Int)=0:=aA4;refine dq e1 e2 e4 hi ?_;refine lj e1 e2 e4 hi ?_;exact hR.ro ⟨rfl,rfl⟩
  ·rw[decide_eq_true h1,decide_eq_false h2]at hR;rw[h1]at e1;have hi:¬((x/16:Nat):Int)<=7:=aA4;refine ct e1 e2 hi ?_;refine fx e1 e2 hi ?_;exact hR.ro ⟨rfl,rfl⟩
 ·rw[decide_eq_false h1]at hR;have hi:¬((x%16:Nat):Int)=8:=aA4;refine bl e1 hi ?_;refine dI e1 hi ?_;exact hR.ro ⟨rfl,rfl⟩
end Go.Proofs.YtoalcafkffmiiaaGreatDoor.Pk
namespace Go.Proofs.YtoalcafkffmiiaaGreatDoor.Cod
open Eng Eng.Kz
set_option maxRecDepth 100000
abbrev Iq:AK:=.seq (.aa [m 10 0,m 11 1,m 12 1,.v 13 (.bJ [.str [],.int .i64 0,.int .u64 0,.int .i64 0,.int .i64 0] [(0,1,(.t 10)),(1,1,(.t 11)),(4,1,(.t 12))]),.eff 14 false 40014 (.box 5 (.t 13)),m 4 14] [4]) .ret
abbrev Ip:AK:=.seq (.aa [m 5 1,m 6 0,.v 7 (.len true (.t 6)),.v 8 (.mm false (.t 5) (.t 7)),.v 9 (.mm true (ci 0) (.t 8)),m 1 9] [0,1]) Iq
abbrev Io:AK:=.seq (.aa [k 4 (.c (.lit (.pointer none)))] [0,1]) Ip
abbrev wD:AK:=Io
theorem Ir:aB Tryz.prog 214 40000 2 wD [.tmp 4]:=⟨_,Tryz.func214,by kernel_rfl⟩
theorem Iu {h a0 a1 Post} (hp:aD Tryz.prog wD [.tmp 4] 2 [(0,a0),(1,a1)] h Post):Eng.Spec Tryz.prog 214 h [a0,a1] Post:=aF Ir rfl [(0,a0),(1,a1)] ⟨rfl,rfl,trivial⟩ hp
abbrev Nb:AK:=.aa [m 51 0,.v 52 (.aq (.t 51)),.v 53 (.ak false 3 1 (.t 52)),.v 54 (.ld false 1 (.t 53)),bi 55 .add 54 8,.v 56 (.aq (.t 51)),.v 57 (.ak false 3 1 (.t 56)),.aL false 41000 (.st 1 (.t 57) (.t 55))] [0,1,2000000,2000001]
abbrev Na:AK:=.seq (.aa [m 44 0,.v 45 (.aq (.t 44)),.v 46 (.ak false 1 1 (.t 45)),.v 47 (.ld false 1 (.t 46)),bi 48 .add 47 1,.v 49 (.aq (.t 44)),.v 50 (.ak false 1 1 (.t 49)),.aL false 41000 (.st 1 (.t 50) (.t 48))] [0,1,2000000,2000001]) Nb
abbrev M9:AK:=.seq (.aa [u 41022 22 (.ah (.t 0)),u 41023 23 (.aq (.t 22)),u 41024 24 (.ak false 2 1 (.t 23)),u 41025 25 (.ld false 1 (.t 24)),u 41026 26 (.ah (.t 0)),u 41027 27 (.aq (.t 26)),u 41028 28 (.ak false 0 1 (.t 27)),u 41029 29 (.ld false 1 (.t 28)),u 41030 30 (.ah (.t 0)),u 41031 31 (.aq (.t 30)),u 41032 32 (.ak false 1 1 (.t 31)),u 41033 33 (.ld false 1 (.t 32)),u 41034 34 (.b7 (.t 29) (.t 33)),u 41035 35 (.bc .u64 (.t 34)),u 41036 36 (.ah (.t 0)),u 41037 37 (.aq (.t 36)),u 41038 38 (.ak false 3 1 (.t 37)),u 41039 39 (.ld false 1 (.t 38)),u 41040 40 (.bin .shl (.t 35) (.t 39)),b 41 .or 25 40,.v 42 (.aq (.t 22)),.v 43 (.ak false 2 1 (.t 42)),.aL false 41000 (.st 1 (.t 43) (.t 41))] [0,1,2000000,2000001]) Na
abbrev Nc:AK:=.seq (.aa [m 4 0,.v 5 (.aq (.t 4)),.v 6 (.ak false 3 1 (.t 5)),.v 7 (.ld false 1 (.t 6)),u 41008 8 (.ah (.t 1)),b 9 .lss 7 8,m 10 9,.af 11 10 true true 41011 (.ah (.t 0)),.af 12 10 true true 41012 (.aq (.t 11)),.af 13 10 true true 41013 (.ak false 1 1 (.t 12)),.af 14 10 true true 41014 (.ld false 1 (.t 13)),.af 15 10 true true 41015 (.ah (.t 0)),.af 16 10 true true 41016 (.aq (.t 15)),.af 17 10 true true 41017 (.ak false 0 1 (.t 16)),.af 18 10 true true 41018 (.ld false 1 (.t 17)),.af 19 10 true true 41019 (.len true (.t 18)),.af 20 10 true false 41020 (.bin .lss (.t 14) (.t 19)),.v 21 (.pick (.t 10) (.t 20) (.c (.bool false)))] [0,1,21,2000000,2000001]) (.cond (.t 21) .skip (.exit 0))
abbrev M8:AK:=.seq Nc (.block 1 M9)
abbrev Nd:AK:=.loop M8
abbrev fill:AK:=(.block 0 Nd)
theorem Nf:aB Tryz.prog 260 41000 2 fill []:=⟨_,Tryz.func260,by kernel_rfl⟩
theorem Ng {h a0 a1 Post} (hp:aD Tryz.prog fill [] 2 [(0,a0),(1,a1),(2000000,a0),(2000001,a1)] h Post):Eng.Spec Tryz.prog 260 h [a0,a1] Post:=aF Nf rfl [(0,a0),(1,a1),(2000000,a0),(2000001,a1)] ⟨rfl,rfl,rfl,rfl,trivial⟩ hp
abbrev afj:AK:=.seq (.aa [u 42015 15 (.ah (.t 0)),u 42016 16 (.aq (.t 15)),u 42017 17 (.ak false 2 1 (.t 16)),u 42018 18 (.ld false 1 (.t 17)),u 42019 19 (.ah (.t 1)),u 42020 20 (.bin .shl (.c (.int .u64 1)) (.t 19)),u 42021 21 (.bin .sub (.t 20) (.c (.int .u64 1))),u 42022 22 (.bin .and (.t 18) (.t 21)),u 42023 23 (.bc .u32 (.t 22)),u 42024 24 (.ah (.t 1)),u 42025 25 (.ah (.t 0)),u 42026 26 (.aq (.t 25)),u 42027 27 (.ak false 3 1 (.t 26)),u 42028 28 (.ld false 1 (.t 27)),u 42029 29 (.mm false (.t 24) (.t 28)),u 42004 4 (.ah (.t 23)),m 5 29] [4,5,2000000,2000001]) .ret
abbrev afi:AK:=.seq (.aa [m 12 0,m 13 1,.aj (some 14) false 42014 260 [(.t 12),(.t 13)]] [0,1,2000000,2000001]) afj
abbrev afl:AK:=.seq (.aa [k 4 (.c (.int .u32 0)),k 5 (ci 0)] [4,5,2000000,2000001]) .ret
abbrev afk:AK:=.seq (.aa [m 6 1,bi 7 .lss 6 0,m 8 7,.af 9 8 false false 42009 (.ah (.t 1)),.af 10 8 false false 42010 (.bin .gtr (.t 9) (ci 32)),.v 11 (.pick (.t 8) (.c (.bool true)) (.t 10))] [0,1,11,2000000,2000001]) (.cond (.t 11) afl .skip)
abbrev afh:AK:=.seq afk afi
abbrev afg:AK:=.seq (.aa [k 4 (.c (.int .u32 0)),k 5 (ci 0)] [0,1,2000000,2000001]) afh
abbrev Bo:AK:=afg
theorem afm:aB Tryz.prog 241 42000 2 Bo [.tmp 4,.tmp 5]:=⟨_,Tryz.func241,by kernel_rfl⟩
theorem afo {h a0 a1 Post} (hp:aD Tryz.prog Bo [.tmp 4,.tmp 5] 2 [(0,a0),(1,a1),(2000000,a0),(2000001,a1)] h Post):Eng.Spec Tryz.prog 241 h [a0,a1] Post:=aF afm rfl [(0,a0),(1,a1),(2000000,a0),(2000001,a1)] ⟨rfl,rfl,rfl,rfl,trivial⟩ hp
abbrev auB:AK:=.seq (.aa [k 4 (.c (.bool true))] [4,2000000,2000001]) .ret
abbrev auA:AK:=.seq (.aa [m 28 0,.v 29 (.aq (.t 28)),.v 30 (.ak false 3 1 (.t 29)),.v 31 (.ld false 1 (.t 30)),m 32 1,b 33 .sub 31 32,.v 34 (.aq (.t 28)),.v 35 (.ak false 3 1 (.t 34)),.aL false 43000 (.st 1 (.t 35) (.t 33))] [2000000,2000001]) auB
abbrev auz:AK:=.seq (.aa [m 20 0,.v 21 (.aq (.t 20)),.v 22 (.ak false 2 1 (.t 21)),.v 23 (.ld false 1 (.t 22)),m 24 1,b 25 .shr 23 24,.v 26 (.aq (.t 20)),.v 27 (.ak false 2 1 (.t 26)),.aL false 43000 (.st 1 (.t 27) (.t 25))] [0,1,2000000,2000001]) auA
abbrev auD:AK:=.seq (.aa [k 4 (.c (.bool false))] [4,2000000,2000001]) .ret
abbrev auC:AK:=.seq (.aa [m 14 0,.v 15 (.aq (.t 14)),.v 16 (.ak false 3 1 (.t 15)),.v 17 (.ld false 1 (.t 16)),m 18 1,b 19 .lss 17 18] [0,1,19,2000000,2000001]) (.cond (.t 19) auD .skip)
abbrev auy:AK:=.seq auC auz
abbrev auw:AK:=.seq (.aa [m 11 0,m 12 1,.aj (some 13) false 43013 260 [(.t 11),(.t 12)]] [0,1,2000000,2000001]) auy
abbrev auv:AK:=.seq (.aa [k 4 (.c (.bool false))] [4,2000000,2000001]) .ret
abbrev auu:AK:=.seq (.aa [m 5 1,bi 6 .lss 5 0,m 7 6,.af 8 7 false false 43008 (.ah (.t 1)),.af 9 7 false false 43009 (.bin .gtr (.t 8) (ci 32)),.v 10 (.pick (.t 7) (.c (.bool true)) (.t 9))] [0,1,10,2000000,2000001]) (.cond (.t 10) auv .skip)
abbrev aut:AK:=.seq auu auw
abbrev aus:AK:=.seq (.aa [k 4 (.c (.bool false))] [0,1,2000000,2000001]) aut
abbrev skip:AK:=aus
theorem auE:aB Tryz.prog 242 43000 2 skip [.tmp 4]:=⟨_,Tryz.func242,by kernel_rfl⟩
theorem auG {h a0 a1 Post} (hp:aD Tryz.prog skip [.tmp 4] 2 [(0,a0),(1,a1),(2000000,a0),(2000001,a1)] h Post):Eng.Spec Tryz.prog 242 h [a0,a1] Post:=aF auE rfl [(0,a0),(1,a1),(2000000,a0),(2000001,a1)] ⟨rfl,rfl,rfl,rfl,trivial⟩ hp
abbrev ao3:AK:=.seq (.aa [m 18 6,m 4 18,k 5 (.c (.bool true))] [4,5,2000000,2000001]) .ret
abbrev ao5:AK:=.seq (.aa [k 4 (.c (.int .u32 0)),k 5 (.c (.bool false))] [4,5,2000000,2000001]) .ret
abbrev ao4:AK:=.seq (.aa [m 14 0,m 15 1,.aj (some 16) false 44016 242 [(.t 14),(.t 15)],.v 17 (.un .not (.t 16))] [6,17,2000000,2000001]) (.cond (.t 17) ao5 .skip)
abbrev ao2:AK:=.seq ao4 ao3
abbrev ao1:AK:=.seq (.aa [m 9 0,m 10 1,.aj (some 11) false 44011 241 [(.t 9),(.t 10)],m 8 11,.v 12 (.ext (.t 8) 0),.v 13 (.ext (.t 8) 1),m 6 12,m 7 13] [0,1,6,2000000,2000001]) ao2
abbrev ao0:AK:=.seq (.aa [k 4 (.c (.int .u32 0)),k 5 (.c (.bool false))] [0,1,2000000,2000001]) ao1
abbrev Cu:AK:=ao0
theorem ao6:aB Tryz.prog 230 44000 2 Cu [.tmp 4,.tmp 5]:=⟨_,Tryz.func230,by kernel_rfl⟩
theorem ao7 {h a0 a1 Post} (hp:aD Tryz.prog Cu [.tmp 4,.tmp 5] 2 [(0,a0),(1,a1),(2000000,a0),(2000001,a1)] h Post):Eng.Spec Tryz.prog 230 h [a0,a1] Post:=aF ao6 rfl [(0,a0),(1,a1),(2000000,a0),(2000001,a1)] ⟨rfl,rfl,rfl,rfl,trivial⟩ hp
abbrev aoR:AK:=.aa [m 16 0,.v 17 (.aq (.t 16)),.v 18 (.ak false 3 1 (.t 17)),.v 19 (.ld false 1 (.t 18)),m 20 2,b 21 .sub 19 20,.v 22 (.aq (.t 16)),.v 23 (.ak false 3 1 (.t 22)),.aL false 45000 (.st 1 (.t 23) (.t 21))] [2000000]
abbrev aoQ:AK:=.seq (.aa [m 8 0,.v 9 (.aq (.t 8)),.v 10 (.ak false 2 1 (.t 9)),.v 11 (.ld false 1 (.t 10)),m 12 2,b 13 .shr 11 12,.v 14 (.aq (.t 8)),.v 15 (.ak false 2 1 (.t 14)),.aL false 45000 (.st 1 (.t 15) (.t 13))] [0,2,2000000]) aoR
abbrev aoP:AK:=.seq (.aa [m 3 0,.v 4 (.aq (.t 3)),.v 5 (.ak false 3 1 (.t 4)),.v 6 (.ld false 1 (.t 5)),bi 7 .rem 6 8,m 2 7] [0,2,2000000]) aoQ
abbrev Cr:AK:=aoP
theorem aoS:aB Tryz.prog 261 45000 1 Cr []:=⟨_,Tryz.func261,by kernel_rfl⟩
theorem aoU {h a0 Post} (hp:aD Tryz.prog Cr [] 1 [(0,a0),(2000000,a0)] h Post):Eng.Spec Tryz.prog 261 h [a0] Post:=aF aoS rfl [(0,a0),(2000000,a0)] ⟨rfl,rfl,trivial⟩ hp
abbrev apd:AK:=.seq (.aa [m 44 0,.v 45 (.aq (.t 44)),.v 46 (.ak false 0 1 (.t 45)),.v 47 (.ld false 1 (.t 46)),m 48 6,m 49 6,m 50 1,b 51 .add 49 50,.v 52 (.bA (.t 47) (some (.t 48)) (some (.t 51))),m 4 52,k 5 (.c (.bool true))] [4,5,2000000,2000001]) .ret
abbrev apc:AK:=.seq (.aa [m 32 0,m 33 0,m 34 0,m 35 6,m 36 1,b 37 .add 35 36,.v 38 (.aq (.t 32)),.v 39 (.ak false 1 1 (.t 38)),.aL false 46000 (.st 1 (.t 39) (.t 37)),.v 40 (.aq (.t 33)),.v 41 (.ak false 2 1 (.t 40)),.aL false 46000 (.st 1 (.t 41) (.c (.int .u64 0))),.v 42 (.aq (.t 34)),.v 43 (.ak false 3 1 (.t 42)),.aL false 46000 (.st 1 (.t 43) (ci 0))] [0,1,6,2000000,2000001]) apd
abbrev apf:AK:=.seq (.aa [k 4 (.c (.str [])),k 5 (.c (.bool false))] [4,5,2000000,2000001]) .ret
abbrev ape:AK:=.seq (.aa [m 19 1,bi 20 .lss 19 0,m 21 20,.af 22 21 false false 46022 (.ah (.t 1)),.af 23 21 false false 46023 (.ah (.t 0)),.af 24 21 false false 46024 (.aq (.t 23)),.af 25 21 false false 46025 (.ak false 0 1 (.t 24)),.af 26 21 false false 46026 (.ld false 1 (.t 25)),.af 27 21 false false 46027 (.len true (.t 26)),.af 28 21 false false 46028 (.ah (.t 6)),.af 29 21 false false 46029 (.bin .sub (.t 27) (.t 28)),.af 30 21 false false 46030 (.bin .gtr (.t 22) (.t 29)),.v 31 (.pick (.t 21) (.c (.bool true)) (.t 30))] [0,1,6,31,2000000,2000001]) (.cond (.t 31) apf .skip)
abbrev apb:AK:=.seq ape apc
abbrev apa:AK:=.seq (.aa [u 46009 9 (.ah (.t 0)),u 46010 10 (.aq (.t 9)),u 46011 11 (.ak false 1 1 (.t 10)),u 46012 12 (.ld false 1 (.t 11)),u 46013 13 (.ah (.t 0)),u 46014 14 (.aq (.t 13)),u 46015 15 (.ak false 3 1 (.t 14)),u 46016 16 (.ld false 1 (.t 15)),u 46017 17 (.bin .quo (.t 16) (ci 8)),b 18 .sub 12 17,m 6 18] [0,1,6,2000000,2000001]) apb
abbrev ao9:AK:=.seq (.aa [m 7 0,.aj (some 8) false 46008 261 [(.t 7)]] [0,1,2000000,2000001]) apa
abbrev ao8:AK:=.seq (.aa [k 4 (.c (.str [])),k 5 (.c (.bool false))] [0,1,2000000,2000001]) ao9
abbrev Cv:AK:=ao8
theorem apg:aB Tryz.prog 243 46000 2 Cv [.tmp 4,.tmp 5]:=⟨_,Tryz.func243,by kernel_rfl⟩
theorem aph {h a0 a1 Post} (hp:aD Tryz.prog Cv [.tmp 4,.tmp 5] 2 [(0,a0),(1,a1),(2000000,a0),(2000001,a1)] h Post):Eng.Spec Tryz.prog 243 h [a0,a1] Post:=aF apg rfl [(0,a0),(1,a1),(2000000,a0),(2000001,a1)] ⟨rfl,rfl,rfl,rfl,trivial⟩ hp
abbrev atg:AK:=.seq (.aa [u 47003 3 (.ah (.t 0)),u 47004 4 (.aq (.t 3)),u 47005 5 (.ak false 1 1 (.t 4)),u 47006 6 (.ld false 1 (.t 5)),u 47007 7 (.ah (.t 0)),u 47008 8 (.aq (.t 7)),u 47009 9 (.ak false 3 1 (.t 8)),u 47010 10 (.ld false 1 (.t 9)),u 47011 11 (.bin .quo (.t 10) (ci 8)),u 47012 12 (.bin .sub (.t 6) (.t 11)),u 47013 13 (.ah (.t 0)),u 47014 14 (.aq (.t 13)),u 47015 15 (.ak false 4 1 (.t 14)),u 47016 16 (.ld false 1 (.t 15)),b 17 .sub 12 16,m 2 17] [2,2000000]) .ret
abbrev atf:AK:=.seq (.aa [k 2 (ci 0)] [0,2000000]) atg
abbrev C7:AK:=atf
theorem ati:aB Tryz.prog 216 47000 1 C7 [.tmp 2]:=⟨_,Tryz.func216,by kernel_rfl⟩
theorem atj {h a0 Post} (hp:aD Tryz.prog C7 [.tmp 2] 1 [(0,a0),(2000000,a0)] h Post):Eng.Spec Tryz.prog 216 h [a0] Post:=aF ati rfl [(0,a0),(2000000,a0)] ⟨rfl,rfl,trivial⟩ hp
abbrev aqJ:AK:=.seq (.aa [u 48003 3 (.ah (.t 0)),u 48004 4 (.aq (.t 3)),u 48005 5 (.ak false 0 1 (.t 4)),u 48006 6 (.ld false 1 (.t 5)),u 48007 7 (.len true (.t 6)),u 48008 8 (.ah (.t 0)),u 48009 9 (.aq (.t 8)),u 48010 10 (.ak false 1 1 (.t 9)),u 48011 11 (.ld false 1 (.t 10)),u 48012 12 (.bin .sub (.t 7) (.t 11)),u 48013 13 (.bin .mul (ci 8) (.t 12)),u 48014 14 (.ah (.t 0)),u 48015 15 (.aq (.t 14)),u 48016 16 (.ak false 3 1 (.t 15)),u 48017 17 (.ld false 1 (.t 16)),b 18 .add 13 17,m 2 18] [2,2000000]) .ret
abbrev aqI:AK:=.seq (.aa [k 2 (ci 0)] [0,2000000]) aqJ
abbrev CG:AK:=aqI
theorem aqL:aB Tryz.prog 245 48000 1 CG [.tmp 2]:=⟨_,Tryz.func245,by kernel_rfl⟩
theorem aqM {h a0 Post} (hp:aD Tryz.prog CG [.tmp 2] 1 [(0,a0),(2000000,a0)] h Post):Eng.Spec Tryz.prog 245 h [a0] Post:=aF aqL rfl [(0,a0),(2000000,a0)] ⟨rfl,rfl,trivial⟩ hp
abbrev Qw:AK:=.seq (.aa [m 105 4,m 2 105,k 3 (ci 0)] [2,3]) .ret
abbrev PW:AK:=.seq (.aa [k 2 (.c (.lit (.pointer none))),k 3 (ci 4)] [2,3]) .ret
abbrev Qx:AK:=.seq (.aa [m 86 7,bi 87 .gtr 86 0,m 88 87,.af 89 88 true false 49089 (.ah (.t 8)),.af 90 88 true false 49090 (.bin .gtr (.t 89) (ci 0)),.v 91 (.pick (.t 88) (.t 90) (.c (.bool false))),m 92 91,.af 93 92 true false 49093 (.ah (.t 8)),.af 94 92 true false 49094 (.bin .eql (.t 93) (ci 1)),.af 95 92 true false 49095 (.ah (.t 94)),.af 96 95 true false 49096 (.ah (.t 4)),.af 97 95 true false 49097 (.aq (.t 96)),.af 98 95 true false 49098 (.ak true 1 16 (.t 97)),.af 99 95 true false 49099 (.dz 16 1 (.t 98) (ci 1)),.af 100 95 true false 49100 (.ld false 1 (.t 99)),.af 101 95 true false 49101 (.bin .eql (.t 100) (ci 1)),.af 102 92 true false 49102 (.pick (.t 95) (.t 101) (.c (.bool false))),.af 103 92 true false 49103 (.un .not (.t 102)),.v 104 (.pick (.t 92) (.t 103) (.c (.bool false)))] [4,104]) (.cond (.t 104) PW .skip)
abbrev Qv:AK:=.seq Qx Qw
abbrev P0:AK:=.aa [m 44 9,bi 45 .add 44 1,m 9 45] [0,4,7,8,9]
abbrev P9:AK:=.aa [bi 85 .add 67 1,m 67 85] [0,4,7,8,9,65,66,67]
abbrev Qd:AK:=.aa [m 75 4,m 76 4,.v 77 (.aq (.t 76)),.v 78 (.ak false 17 1 (.t 77)),.v 79 (.ld false 1 (.t 78)),m 80 10,.eff 81 false 49081 (.ba 1 [(.t 80)]),.eff 82 false 49082 (.app 1 8 (.t 79) (.t 81)),.v 83 (.aq (.t 75)),.v 84 (.ak false 17 1 (.t 83)),.aL false 49000 (.st 1 (.t 84) (.t 82))] [0,4,7,8,9,65,66,67]
abbrev Qb:AK:=.seq (.aa [m 72 11,m 73 9,b 74 .eql 72 73] [0,4,7,8,9,10,65,66,67,74]) (.cond (.t 74) Qd .skip)
abbrev Qa:AK:=.seq (.aa [m 69 67,.v 70 (.aM 1 (.t 65) (.t 67)),.v 71 (.ld false 1 (.t 70)),m 10 69,m 11 71] [0,4,7,8,9,10,11,65,66,67]) Qb
abbrev P8:AK:=.seq (.block 5 Qa) P9
abbrev P7:AK:=.seq (.cond (.t 68) .skip (.exit 4)) P8
abbrev P6:AK:=.seq (.aa [b 68 .lss 67 66] [0,4,7,8,9,65,66,67,68]) P7
abbrev Qz:AK:=.loop P6
abbrev P5:AK:=.seq (.aa [m 65 0,.v 66 (.len false (.t 65)),k 67 (ci 0)] [0,4,7,8,9,65,66,67]) (.block 4 Qz)
abbrev Qf:AK:=.seq (.aa [k 2 (.c (.lit (.pointer none))),k 3 (ci 4)] [2,3]) .ret
abbrev Qe:AK:=.seq (.aa [m 63 7,bi 64 .lss 63 0] [0,4,7,8,9,64]) (.cond (.t 64) Qf .skip)
abbrev P3:AK:=.seq Qe P5
abbrev P2:AK:=.seq (.aa [m 55 8,m 56 4,m 57 9,.v 58 (.aq (.t 56)),.v 59 (.ak true 1 16 (.t 58)),.v 60 (.dz 16 1 (.t 59) (.t 57)),.v 61 (.ld false 1 (.t 60)),b 62 .add 55 61,m 8 62] [0,4,7,8,9]) P3
abbrev P1:AK:=.seq (.aa [m 46 7,.v 47 (.bin .mul (ci 2) (.t 46)),m 48 4,m 49 9,.v 50 (.aq (.t 48)),.v 51 (.ak true 1 16 (.t 50)),.v 52 (.dz 16 1 (.t 51) (.t 49)),.v 53 (.ld false 1 (.t 52)),b 54 .sub 47 53,m 7 54] [0,4,7,8,9]) P2
abbrev PZ:AK:=.seq (.block 3 P1) P0
abbrev Qg:AK:=.seq (.aa [m 42 9,bi 43 .leq 42 15] [0,4,7,8,9,43]) (.cond (.t 43) .skip (.exit 2))
abbrev PY:AK:=.seq Qg PZ
abbrev Qy:AK:=.loop PY
abbrev PX:AK:=.seq (.aa [k 9 (ci 1)] [0,4,7,8,9]) (.block 2 Qy)
abbrev Qs:AK:=.seq PX Qv
abbrev Qj:AK:=.seq (.aa [k 7 (ci 1),k 8 (ci 0)] [0,4,7,8]) Qs
abbrev Qm:AK:=.aa [bi 41 .add 21 1,m 21 41] [0,4,19,20,21]
abbrev Qp:AK:=.aa [m 31 4,u 49032 32 (.ah (.t 6)),u 49033 33 (.aq (.t 31)),u 49034 34 (.ak true 1 16 (.t 33)),u 49035 35 (.dz 16 1 (.t 34) (.t 32)),u 49036 36 (.ld false 1 (.t 35)),u 49037 37 (.bin .add (.t 36) (ci 1)),u 49038 38 (.aq (.t 31)),u 49039 39 (.ak true 1 16 (.t 38)),.v 40 (.dz 16 1 (.t 39) (.t 32)),.aL false 49000 (.st 1 (.t 40) (.t 37))] [0,4,19,20,21]
abbrev Qr:AK:=.seq (.aa [k 2 (.c (.lit (.pointer none))),k 3 (ci 1)] [2,3]) .ret
abbrev Qq:AK:=.seq (.aa [m 25 6,bi 26 .lss 25 0,m 27 26,.af 28 27 false false 49028 (.ah (.t 6)),.af 29 27 false false 49029 (.bin .gtr (.t 28) (ci 15)),.v 30 (.pick (.t 27) (.c (.bool true)) (.t 29))] [0,4,6,19,20,21,30]) (.cond (.t 30) Qr .skip)
abbrev Qo:AK:=.seq Qq Qp
abbrev Qn:AK:=.seq (.aa [.v 23 (.aM 1 (.t 19) (.t 21)),.v 24 (.ld false 1 (.t 23)),m 6 24] [0,4,6,19,20,21]) Qo
abbrev Ql:AK:=.seq (.block 1 Qn) Qm
abbrev Qk:AK:=.seq (.cond (.t 22) .skip (.exit 0)) Ql
abbrev Qi:AK:=.seq (.aa [b 22 .lss 21 20] [0,4,19,20,21,22]) Qk
abbrev QA:AK:=.loop Qi
abbrev Qh:AK:=.seq (.aa [m 19 0,.v 20 (.len false (.t 19)),k 21 (ci 0)] [0,4,19,20,21]) (.block 0 QA)
abbrev Qc:AK:=.seq Qh Qj
abbrev P4:AK:=.seq (.aa [m 15 0,.eff 16 false 49016 (.app 1 8 (.c (.al)) (.t 15)),.v 17 (.bJ [.al,.int .i64 0,.int .i64 0,.int .i64 0,.int .i64 0,.int .i64 0,.int .i64 0,.int .i64 0,.int .i64 0,.int .i64 0,.int .i64 0,.int .i64 0,.int .i64 0,.int .i64 0,.int .i64 0,.int .i64 0,.int .i64 0,.al] [(0,1,(.t 16))]),.eff 18 false 49018 (.box 18 (.t 17)),m 4 18] [0,4]) Qc
abbrev Qu:AK:=.seq (.aa [k 2 (.c (.lit (.pointer none))),k 3 (ci 2)] [2,3]) .ret
abbrev Qt:AK:=.seq (.aa [m 12 0,.v 13 (.len false (.t 12)),bi 14 .gtr 13 320] [0,14]) (.cond (.t 14) Qu .skip)
abbrev PV:AK:=.seq Qt P4
abbrev PU:AK:=.seq (.aa [k 2 (.c (.lit (.pointer none))),k 3 (ci 0)] [0]) PV
abbrev p7:AK:=PU
theorem QB:aB Tryz.prog 246 49000 1 p7 [.tmp 2,.tmp 3]:=⟨_,Tryz.func246,by kernel_rfl⟩
theorem QC {h a0 Post} (hp:aD Tryz.prog p7 [.tmp 2,.tmp 3] 1 [(0,a0)] h Post):Eng.Spec Tryz.prog 246 h [a0] Post:=aF QB rfl [(0,a0)] ⟨rfl,trivial⟩ hp
abbrev Q0:AK:=.seq (.aa [k 4 (ci 0),k 5 (ci 3)] [4,5,2000000,2000001]) .ret
abbrev Q4:AK:=.aa [m 21 9,bi 22 .add 21 1,m 9 22] [0,1,6,7,8,9,2000000,2000001]
abbrev QN:AK:=.seq (.aa [m 72 8,m 73 0,.v 74 (.aq (.t 73)),.v 75 (.ak false 17 1 (.t 74)),.v 76 (.ld false 1 (.t 75)),.v 77 (.len false (.t 76)),b 78 .eql 72 77] [0,1,6,7,8,9,78,2000000,2000001]) (.cond (.t 78) (.exit 0) .skip)
abbrev QM:AK:=.seq (.aa [m 63 7,m 64 0,m 65 9,.v 66 (.aq (.t 64)),.v 67 (.ak true 1 16 (.t 66)),.v 68 (.dz 16 1 (.t 67) (.t 65)),.v 69 (.ld false 1 (.t 68)),b 70 .add 63 69,.v 71 (.bin .shl (.t 70) (.c (.int .u64 1))),m 7 71] [0,1,6,7,8,9,2000000,2000001]) QN
abbrev QL:AK:=.seq (.aa [m 55 8,m 56 0,m 57 9,.v 58 (.aq (.t 56)),.v 59 (.ak true 1 16 (.t 58)),.v 60 (.dz 16 1 (.t 59) (.t 57)),.v 61 (.ld false 1 (.t 60)),b 62 .add 55 61,m 8 62] [0,1,6,7,8,9,2000000,2000001]) QM
abbrev QS:AK:=.seq (.aa [m 46 0,.v 47 (.aq (.t 46)),.v 48 (.ak false 17 1 (.t 47)),.v 49 (.ld false 1 (.t 48)),m 50 8,m 51 12,b 52 .add 50 51,.v 53 (.aM 1 (.t 49) (.t 52)),.v 54 (.ld false 1 (.t 53)),m 4 54,k 5 (ci 0)] [4,5,2000000,2000001]) .ret
abbrev QQ:AK:=.seq (.aa [m 38 12,m 39 0,m 40 9,.v 41 (.aq (.t 39)),.v 42 (.ak true 1 16 (.t 41)),.v 43 (.dz 16 1 (.t 42) (.t 40)),.v 44 (.ld false 1 (.t 43)),b 45 .lss 38 44] [0,1,6,7,8,9,12,45,2000000,2000001]) (.cond (.t 45) QS .skip)
abbrev QO:AK:=.seq (.aa [m 35 6,m 36 7,b 37 .sub 35 36,m 12 37] [0,1,6,7,8,9,12,2000000,2000001]) QQ
abbrev QK:AK:=.seq QO QL
abbrev QJ:AK:=.seq (.aa [m 30 6,.v 31 (.bin .shl (.t 30) (.c (.int .u64 1))),m 32 10,.v 33 (.bc .i64 (.t 32)),b 34 .or 31 33,m 6 34] [0,1,6,7,8,9,2000000,2000001]) QK
abbrev QV:AK:=.seq (.aa [k 4 (ci 0),k 5 (ci 6)] [4,5,2000000,2000001]) .ret
abbrev QU:AK:=.seq (.aa [m 28 11,.v 29 (.un .not (.t 28))] [0,1,6,7,8,9,10,29,2000000,2000001]) (.cond (.t 29) QV .skip)
abbrev QI:AK:=.seq QU QJ
abbrev QH:AK:=.seq (.aa [m 24 1,.aj (some 25) false 50025 230 [(.t 24),(ci 1)],m 23 25,.v 26 (.ext (.t 23) 0),.v 27 (.ext (.t 23) 1),m 10 26,m 11 27] [0,1,6,7,8,9,10,11,2000000,2000001]) QI
abbrev Q3:AK:=.seq (.block 1 QH) Q4
abbrev QW:AK:=.seq (.aa [m 19 9,bi 20 .leq 19 15] [0,1,6,7,8,9,20,2000000,2000001]) (.cond (.t 20) .skip (.exit 0))
abbrev Q2:AK:=.seq QW Q3
abbrev Q6:AK:=.loop Q2
abbrev Q1:AK:=.seq (.aa [k 9 (ci 1)] [0,1,6,7,8,9,2000000,2000001]) (.block 0 Q6)
abbrev QY:AK:=.seq Q1 Q0
abbrev QP:AK:=.seq (.aa [k 6 (ci 0),k 7 (ci 0),k 8 (ci 0)] [0,1,6,7,8,2000000,2000001]) QY
abbrev QZ:AK:=.seq (.aa [k 4 (ci 0),k 5 (ci 3)] [4,5,2000000,2000001]) .ret
abbrev QX:AK:=.seq (.aa [m 13 0,.v 14 (.aq (.t 13)),.v 15 (.ak false 17 1 (.t 14)),.v 16 (.ld false 1 (.t 15)),.v 17 (.len false (.t 16)),bi 18 .eql 17 0] [0,1,18,2000000,2000001]) (.cond (.t 18) QZ .skip)
abbrev QG:AK:=.seq QX QP
abbrev QF:AK:=.seq (.aa [k 4 (ci 0),k 5 (ci 0)] [0,1,2000000,2000001]) QG
abbrev dy:AK:=QF
theorem Q7:aB Tryz.prog 234 50000 2 dy [.tmp 4,.tmp 5]:=⟨_,Tryz.func234,by kernel_rfl⟩
theorem Q8 {h a0 a1 Post} (hp:aD Tryz.prog dy [.tmp 4,.tmp 5] 2 [(0,a0),(1,a1),(2000000,a0),(2000001,a1)] h Post):Eng.Spec Tryz.prog 234 h [a0,a1] Post:=aF Q7 rfl [(0,a0),(1,a1),(2000000,a0),(2000001,a1)] ⟨rfl,rfl,rfl,rfl,trivial⟩ hp
abbrev agn:AK:=.seq (.aa [m 27 3,m 2 27] [2]) .ret
abbrev agr:AK:=.aa [m 11 4,bi 12 .add 11 1,m 4 12] [0,3,4]
abbrev agi:AK:=.aa [m 15 5,bi 16 .add 15 1,m 5 16] [0,3,4,5]
abbrev agj:AK:=.aa [m 17 3,m 18 0,m 19 4,.v 20 (.b7 (.t 18) (.t 19)),m 21 5,b 22 .shr 20 21,.v 23 (.bin .and (.t 22) (.c (.int .u8 1))),.v 24 (.bin .eql (.t 23) (.c (.int .u8 1))),.eff 25 false 51025 (.ba 1 [(.t 24)]),.eff 26 false 51026 (.app 1 1 (.t 17) (.t 25)),m 3 26] [0,3,4,5]
abbrev agh:AK:=.seq (.block 3 agj) agi
abbrev agk:AK:=.seq (.aa [m 13 5,bi 14 .lss 13 8] [0,3,4,5,14]) (.cond (.t 14) .skip (.exit 2))
abbrev agf:AK:=.seq agk agh
abbrev agt:AK:=.loop agf
abbrev age:AK:=.seq (.aa [k 5 (ci 0)] [0,3,4,5]) (.block 2 agt)
abbrev agq:AK:=.seq (.block 1 age) agr
abbrev agl:AK:=.seq (.aa [m 7 4,m 8 0,.v 9 (.len true (.t 8)),b 10 .lss 7 9] [0,3,4,10]) (.cond (.t 10) .skip (.exit 0))
abbrev agp:AK:=.seq agl agq
abbrev ags:AK:=.loop agp
abbrev ago:AK:=.seq (.aa [k 4 (ci 0)] [0,3,4]) (.block 0 ags)
abbrev agm:AK:=.seq ago agn
abbrev agd:AK:=.seq (.aa [.eff 6 false 51006 (.ba 1 []),m 3 6] [0,3]) agm
abbrev agc:AK:=.seq (.aa [k 2 (.c (.al))] [0]) agd
abbrev Bz:AK:=agc
theorem agu:aB Tryz.prog 193 51000 1 Bz [.tmp 2]:=⟨_,Tryz.func193,by kernel_rfl⟩
theorem agw {h a0 Post} (hp:aD Tryz.prog Bz [.tmp 2] 1 [(0,a0)] h Post):Eng.Spec Tryz.prog 193 h [a0] Post:=aF agu rfl [(0,a0)] ⟨rfl,trivial⟩ hp
abbrev agE:AK:=.seq (.aa [m 20 3,m 2 20] [2]) .ret
abbrev agI:AK:=.aa [m 10 4,bi 11 .sub 10 1,m 4 11] [0,3,4]
abbrev agB:AK:=.aa [m 18 3,.v 19 (.bin .add (.t 18) (.c (.int .u32 1))),m 3 19] [0,3,4]
abbrev agA:AK:=.seq (.aa [m 14 0,m 15 4,.v 16 (.aM 1 (.t 14) (.t 15)),.v 17 (.ld false 1 (.t 16))] [0,3,4,17]) (.cond (.t 17) agB .skip)
abbrev agz:AK:=.seq (.aa [m 12 3,.v 13 (.bin .mul (.c (.int .u32 2)) (.t 12)),m 3 13] [0,3,4]) agA
abbrev agH:AK:=.seq (.block 1 agz) agI
abbrev agC:AK:=.seq (.aa [m 8 4,bi 9 .geq 8 0] [0,3,4,9]) (.cond (.t 9) .skip (.exit 0))
abbrev agG:AK:=.seq agC agH
abbrev agJ:AK:=.loop agG
abbrev agF:AK:=.seq (.aa [m 5 0,.v 6 (.len false (.t 5)),bi 7 .sub 6 1,m 4 7] [0,3,4]) (.block 0 agJ)
abbrev agD:AK:=.seq agF agE
abbrev agy:AK:=.seq (.aa [k 3 (.c (.int .u32 0))] [0,3]) agD
abbrev agx:AK:=.seq (.aa [k 2 (.c (.int .u32 0))] [0]) agy
abbrev BA:AK:=agx
theorem agK:aB Tryz.prog 222 52000 1 BA [.tmp 2]:=⟨_,Tryz.func222,by kernel_rfl⟩
theorem agM {h a0 Post} (hp:aD Tryz.prog BA [.tmp 2] 1 [(0,a0)] h Post):Eng.Spec Tryz.prog 222 h [a0] Post:=aF agK rfl [(0,a0)] ⟨rfl,trivial⟩ hp
abbrev agO:AK:=.seq (.aa [m 3 0,bi 4 .add 3 7,bi 5 .quo 4 8,bi 6 .mul 5 8,m 2 6] [2]) .ret
abbrev agN:AK:=.seq (.aa [k 2 (ci 0)] [0]) agO
abbrev BB:AK:=agN
theorem agP:aB Tryz.prog 200 53000 1 BB [.tmp 2]:=⟨_,Tryz.func200,by kernel_rfl⟩
theorem agQ {h a0 Post} (hp:aD Tryz.prog BB [.tmp 2] 1 [(0,a0)] h Post):Eng.Spec Tryz.prog 200 h [a0] Post:=aF agP rfl [(0,a0)] ⟨rfl,trivial⟩ hp
abbrev ahB:AK:=.seq (.aa [k 2 (ci 0)] [2]) .ret
abbrev ahD:AK:=.seq (.aa [k 2 (ci 4)] [2]) .ret
abbrev ahC:AK:=.seq (.aa [m 44 3,bi 45 .gtr 44 32768,m 46 45,.af 47 46 false false 54047 (.ah (.t 3)),.af 48 46 false false 54048 (.bin .lss (.t 47) (ci 32768)),.af 49 46 false false 54049 (.ah (.t 48)),.af 50 49 true false 54050 (.ah (.t 4)),.af 51 49 true false 54051 (.bin .gtr (.t 50) (ci 0)),.af 52 46 false false 54052 (.pick (.t 49) (.t 51) (.c (.bool false))),.af 53 46 false false 54053 (.ah (.t 52)),.af 54 53 true false 54054 (.ah (.t 4)),.af 55 53 true false 54055 (.bin .eql (.t 54) (ci 1)),.af 56 53 true false 54056 (.ah (.t 55)),.af 57 56 true false 54057 (.ah (.t 5)),.af 58 56 true false 54058 (.bin .eql (.t 57) (ci 1)),.af 59 53 true false 54059 (.pick (.t 56) (.t 58) (.c (.bool false))),.af 60 53 true false 54060 (.un .not (.t 59)),.af 61 46 false false 54061 (.pick (.t 53) (.t 60) (.c (.bool false))),.v 62 (.pick (.t 46) (.c (.bool true)) (.t 61))] [62]) (.cond (.t 62) ahD .skip)
abbrev ahy:AK:=.seq ahC ahB
abbrev ahd:AK:=.aa [bi 43 .add 15 1,m 15 43] [3,4,5,13,14,15]
abbrev ahj:AK:=.aa [m 41 5,bi 42 .add 41 1,m 5 42] [3,4,5,13,14,15]
abbrev ahh:AK:=.seq (.aa [m 39 7,bi 40 .eql 39 1] [3,4,5,13,14,15,40]) (.cond (.t 40) ahj .skip)
abbrev aho:AK:=.aa [m 36 3,m 37 8,b 38 .add 36 37,m 3 38] [3,4,5,7,13,14,15]
abbrev aht:AK:=.aa [m 32 9,bi 33 .add 32 1,m 9 33] [3,4,5,7,8,9,13,14,15]
abbrev ahu:AK:=.aa [m 34 8,bi 35 .quo 34 2,m 8 35] [3,4,5,7,8,9,13,14,15]
abbrev ahs:AK:=.seq (.block 3 ahu) aht
abbrev ahv:AK:=.seq (.aa [m 29 9,m 30 7,b 31 .lss 29 30] [3,4,5,7,8,9,13,14,15,31]) (.cond (.t 31) .skip (.exit 2))
abbrev ahr:AK:=.seq ahv ahs
abbrev ahG:AK:=.loop ahr
abbrev ahp:AK:=.seq (.aa [k 9 (ci 0)] [3,4,5,7,8,9,13,14,15]) (.block 2 ahG)
abbrev ahn:AK:=.seq ahp aho
abbrev ahm:AK:=.seq (.aa [k 8 (ci 32768)] [3,4,5,7,8,13,14,15]) ahn
abbrev ahl:AK:=.seq (.aa [m 27 4,bi 28 .add 27 1,m 4 28] [3,4,5,7,13,14,15]) ahm
abbrev ahk:AK:=.seq (.aa [m 25 7,bi 26 .gtr 25 0] [3,4,5,7,13,14,15,26]) (.cond (.t 26) ahl .skip)
abbrev ahg:AK:=.seq ahk ahh
abbrev ahx:AK:=.seq (.aa [k 2 (ci 1)] [2]) .ret
abbrev ahw:AK:=.seq (.aa [m 19 7,bi 20 .lss 19 0,m 21 20,.af 22 21 false false 54022 (.ah (.t 7)),.af 23 21 false false 54023 (.bin .gtr (.t 22) (ci 15)),.v 24 (.pick (.t 21) (.c (.bool true)) (.t 23))] [3,4,5,7,13,14,15,24]) (.cond (.t 24) ahx .skip)
abbrev ahf:AK:=.seq ahw ahg
abbrev ahe:AK:=.seq (.aa [.v 17 (.aM 1 (.t 13) (.t 15)),.v 18 (.ld false 1 (.t 17)),m 7 18] [3,4,5,7,13,14,15]) ahf
abbrev ahc:AK:=.seq (.block 1 ahe) ahd
abbrev ahb:AK:=.seq (.cond (.t 16) .skip (.exit 0)) ahc
abbrev aha:AK:=.seq (.aa [b 16 .lss 15 14] [3,4,5,13,14,15,16]) ahb
abbrev ahF:AK:=.loop aha
abbrev ahE:AK:=.seq (.aa [m 13 0,.v 14 (.len false (.t 13)),k 15 (ci 0)] [3,4,5,13,14,15]) (.block 0 ahF)
abbrev ahq:AK:=.seq ahE ahy
abbrev ahi:AK:=.seq (.aa [k 3 (ci 0),k 4 (ci 0),k 5 (ci 0)] [0,3,4,5]) ahq
abbrev ahA:AK:=.seq (.aa [k 2 (ci 2)] [2]) .ret
abbrev ahz:AK:=.seq (.aa [m 10 0,.v 11 (.len false (.t 10)),bi 12 .gtr 11 320] [0,12]) (.cond (.t 12) ahA .skip)
abbrev ag9:AK:=.seq ahz ahi
abbrev ag8:AK:=.seq (.aa [k 2 (ci 0)] [0]) ag9
abbrev BF:AK:=ag8
theorem ahH:aB Tryz.prog 227 54000 1 BF [.tmp 2]:=⟨_,Tryz.func227,by kernel_rfl⟩
theorem ahI {h a0 Post} (hp:aD Tryz.prog BF [.tmp 2] 1 [(0,a0)] h Post):Eng.Spec Tryz.prog 227 h [a0] Post:=aF ahH rfl [(0,a0)] ⟨rfl,trivial⟩ hp
abbrev aii:AK:=.seq (.aa [m 58 3,m 2 58] [2]) .ret
abbrev ahL:AK:=.aa [m 22 5,bi 23 .add 22 1,m 5 23] [0,3,4,5]
abbrev ahR:AK:=.aa [bi 57 .add 28 1,m 28 57] [0,3,4,5,26,27,28]
abbrev ahZ:AK:=.aa [m 55 4,bi 56 .add 55 1,m 4 56] [0,3,4,5,26,27,28]
abbrev ahY:AK:=.seq (.aa [m 51 3,m 52 6,m 53 8,.v 54 (.aM 1 (.t 51) (.t 52)),.aL false 55000 (.st 1 (.t 54) (.t 53))] [0,3,4,5,26,27,28]) ahZ
abbrev ah4:AK:=.aa [m 41 10,bi 42 .add 41 1,m 10 42] [0,3,4,5,6,8,9,10,26,27,28]
abbrev ah6:AK:=.aa [m 49 9,bi 50 .quo 49 2,m 9 50] [0,3,4,5,6,8,9,10,26,27,28]
abbrev ah5:AK:=.seq (.aa [m 43 9,bi 44 .rem 43 2,bi 45 .eql 44 1,.eff 46 false 55046 (.ba 1 [(.t 45)]),m 47 8,.eff 48 false 55048 (.app 1 1 (.t 46) (.t 47)),m 8 48] [0,3,4,5,6,8,9,10,26,27,28]) ah6
abbrev ah3:AK:=.seq (.block 7 ah5) ah4
abbrev ah7:AK:=.seq (.aa [m 38 10,m 39 5,b 40 .lss 38 39] [0,3,4,5,6,8,9,10,26,27,28,40]) (.cond (.t 40) .skip (.exit 6))
abbrev ah1:AK:=.seq ah7 ah3
abbrev aio:AK:=.loop ah1
abbrev ah0:AK:=.seq (.aa [k 10 (ci 0)] [0,3,4,5,6,8,9,10,26,27,28]) (.block 6 aio)
abbrev ahX:AK:=.seq ah0 ahY
abbrev ahW:AK:=.seq (.aa [m 37 4,m 9 37] [0,3,4,5,6,8,9,26,27,28]) ahX
abbrev ahV:AK:=.seq (.aa [.eff 36 false 55036 (.ba 1 []),m 8 36] [0,3,4,5,6,8,26,27,28]) ahW
abbrev ah8:AK:=.seq (.aa [m 33 7,m 34 5,b 35 .neq 33 34] [0,3,4,5,6,26,27,28,35]) (.cond (.t 35) (.exit 5) .skip)
abbrev ahU:AK:=.seq ah8 ahV
abbrev ahT:AK:=.seq (.aa [m 30 28,.v 31 (.aM 1 (.t 26) (.t 28)),.v 32 (.ld false 1 (.t 31)),m 6 30,m 7 32] [0,3,4,5,6,7,26,27,28]) ahU
abbrev ahQ:AK:=.seq (.block 5 ahT) ahR
abbrev ahP:AK:=.seq (.cond (.t 29) .skip (.exit 4)) ahQ
abbrev ahO:AK:=.seq (.aa [b 29 .lss 28 27] [0,3,4,5,26,27,28,29]) ahP
abbrev ain:AK:=.loop ahO
abbrev ahN:AK:=.seq (.aa [m 26 0,.v 27 (.len false (.t 26)),k 28 (ci 0)] [0,3,4,5,26,27,28]) (.block 4 ain)
abbrev ahM:AK:=.seq (.aa [m 24 4,.v 25 (.bin .mul (ci 2) (.t 24)),m 4 25] [0,3,4,5]) ahN
abbrev ail:AK:=.seq (.block 3 ahM) ahL
abbrev aia:AK:=.seq (.aa [m 20 5,bi 21 .leq 20 15] [0,3,4,5,21]) (.cond (.t 21) .skip (.exit 2))
abbrev aik:AK:=.seq aia ail
abbrev aim:AK:=.loop aik
abbrev aij:AK:=.seq (.aa [k 5 (ci 1)] [0,3,4,5]) (.block 2 aim)
abbrev ah9:AK:=.seq aij aii
abbrev ah2:AK:=.seq (.aa [k 4 (ci 0)] [0,3,4]) ah9
abbrev aif:AK:=.aa [bi 19 .add 14 1,m 14 19] [0,3,13,14]
abbrev aih:AK:=.aa [m 16 3,.eff 17 false 55017 (.ba 1 [(.c (.al))]),.eff 18 false 55018 (.app 1 24 (.t 16) (.t 17)),m 3 18] [0,3,13,14]
abbrev aie:AK:=.seq (.block 1 aih) aif
abbrev aid:AK:=.seq (.cond (.t 15) .skip (.exit 0)) aie
abbrev aic:AK:=.seq (.aa [b 15 .lss 14 13] [0,3,13,14,15]) aid
abbrev aip:AK:=.loop aic
abbrev aib:AK:=.seq (.aa [m 12 0,.v 13 (.len false (.t 12)),k 14 (ci 0)] [0,3,13,14]) (.block 0 aip)
abbrev ahS:AK:=.seq aib ah2
abbrev ahK:AK:=.seq (.aa [.eff 11 false 55011 (.ba 1 []),m 3 11] [0,3]) ahS
abbrev ahJ:AK:=.seq (.aa [k 2 (.c (.al))] [0]) ahK
abbrev BG:AK:=ahJ
theorem aiq:aB Tryz.prog 224 55000 1 BG [.tmp 2]:=⟨_,Tryz.func224,by kernel_rfl⟩
theorem air {h a0 Post} (hp:aD Tryz.prog BG [.tmp 2] 1 [(0,a0)] h Post):Eng.Spec Tryz.prog 224 h [a0] Post:=aF aiq rfl [(0,a0)] ⟨rfl,trivial⟩ hp
abbrev agZ:AK:=.seq (.aa [k 4 (.c (.bool true))] [4]) .ret
abbrev ag4:AK:=.aa [bi 25 .add 13 1,m 13 25] [0,1,12,13]
abbrev agV:AK:=.seq (.aa [k 4 (.c (.bool false))] [4]) .ret
abbrev agU:AK:=.seq (.aa [u 56016 16 (.ah (.t 1)),u 56017 17 (.ah (.t 5)),u 56018 18 (.aM 1 (.t 16) (.t 17)),u 56019 19 (.ld false 1 (.t 18)),u 56020 20 (.ah (.t 0)),u 56021 21 (.ah (.t 5)),u 56022 22 (.aM 1 (.t 20) (.t 21)),u 56023 23 (.ld false 1 (.t 22)),.v 24 (.beq true (.t 19) (.t 23))] [0,1,12,13,24]) (.cond (.t 24) agV .skip)
abbrev agT:AK:=.seq (.aa [m 15 13,m 5 15] [0,1,5,12,13]) agU
abbrev ag3:AK:=.seq (.block 1 agT) ag4
abbrev ag2:AK:=.seq (.cond (.t 14) .skip (.exit 0)) ag3
abbrev ag1:AK:=.seq (.aa [b 14 .lss 13 12] [0,1,12,13,14]) ag2
abbrev ag5:AK:=.loop ag1
abbrev ag0:AK:=.seq (.aa [m 11 1,.v 12 (.len false (.t 11)),k 13 (ci 0)] [0,1,12,13]) (.block 0 ag5)
abbrev agY:AK:=.seq ag0 agZ
abbrev agX:AK:=.seq (.aa [k 4 (.c (.bool false))] [4]) .ret
abbrev agW:AK:=.seq (.aa [m 6 1,.v 7 (.len false (.t 6)),m 8 0,.v 9 (.len false (.t 8)),b 10 .gtr 7 9] [0,1,10]) (.cond (.t 10) agX .skip)
abbrev agS:AK:=.seq agW agY
abbrev agR:AK:=.seq (.aa [k 4 (.c (.bool false))] [0,1]) agS
abbrev BD:AK:=agR
theorem ag6:aB Tryz.prog 259 56000 2 BD [.tmp 4]:=⟨_,Tryz.func259,by kernel_rfl⟩
theorem ag7 {h a0 a1 Post} (hp:aD Tryz.prog BD [.tmp 4] 2 [(0,a0),(1,a1)] h Post):Eng.Spec Tryz.prog 259 h [a0,a1] Post:=aF ag6 rfl [(0,a0),(1,a1)] ⟨rfl,rfl,trivial⟩ hp
abbrev aiO:AK:=.seq (.aa [k 4 (ci 0),k 5 (ci 0),k 6 (ci 3)] [4,5,6]) .ret
abbrev aiv:AK:=.aa [bi 47 .add 33 1,m 33 47] [1,31,32,33]
abbrev aiy:AK:=.seq (.aa [k 4 (ci 0),k 5 (ci 0),k 6 (ci 6)] [4,5,6]) .ret
abbrev aix:AK:=.seq (.aa [m 37 11,.v 38 (.len false (.t 37)),m 39 1,.v 40 (.len false (.t 39)),b 41 .gtr 38 40,m 42 41,.af 43 42 true false 57043 (.ah (.t 11)),.af 44 42 true false 57044 (.ah (.t 1)),.fM 45 42 true false 57045 259 [(.t 43),(.t 44)],.v 46 (.pick (.t 42) (.t 45) (.c (.bool false)))] [1,31,32,33,46]) (.cond (.t 46) aiy .skip)
abbrev aiw:AK:=.seq (.aa [.v 35 (.aM 1 (.t 31) (.t 33)),.v 36 (.ld false 1 (.t 35)),m 11 36] [1,11,31,32,33]) aix
abbrev aiu:AK:=.seq (.block 3 aiw) aiv
abbrev aiR:AK:=.seq (.cond (.t 34) .skip (.exit 2)) aiu
abbrev aiQ:AK:=.seq (.aa [b 34 .lss 33 32] [1,31,32,33,34]) aiR
abbrev aiS:AK:=.loop aiQ
abbrev aiP:AK:=.seq (.aa [m 31 0,.v 32 (.len false (.t 31)),k 33 (ci 0)] [1,31,32,33]) (.block 2 aiS)
abbrev aiN:AK:=.seq aiP aiO
abbrev aiB:AK:=.seq (.aa [k 4 (ci 0),k 5 (ci 0),k 6 (ci 3)] [4,5,6]) .ret
abbrev aiz:AK:=.seq (.aa [m 29 7,.v 30 (.un .not (.t 29))] [0,1,30]) (.cond (.t 30) aiB .skip)
abbrev aiJ:AK:=.seq aiz aiN
abbrev aiG:AK:=.aa [bi 28 .add 14 1,m 14 28] [0,1,7,12,13,14]
abbrev aiM:AK:=.seq (.aa [m 25 8,m 26 9,.v 27 (.len false (.t 26)),m 4 25,m 5 27,k 6 (ci 0)] [4,5,6]) .ret
abbrev aiL:AK:=.seq (.aa [m 22 1,m 23 9,.aj (some 24) false 57024 259 [(.t 22),(.t 23)]] [0,1,7,8,9,12,13,14,24]) (.cond (.t 24) aiM .skip)
abbrev aiK:AK:=.seq (.aa [k 7 (.c (.bool true))] [0,1,7,8,9,12,13,14]) aiL
abbrev aiI:AK:=.seq (.aa [m 19 9,.v 20 (.len false (.t 19)),bi 21 .gtr 20 0] [0,1,7,8,9,12,13,14,21]) (.cond (.t 21) aiK .skip)
abbrev aiH:AK:=.seq (.aa [m 16 14,.v 17 (.aM 1 (.t 12) (.t 14)),.v 18 (.ld false 1 (.t 17)),m 8 16,m 9 18] [0,1,7,8,9,12,13,14]) aiI
abbrev aiF:AK:=.seq (.block 1 aiH) aiG
abbrev aiE:AK:=.seq (.cond (.t 15) .skip (.exit 0)) aiF
abbrev aiD:AK:=.seq (.aa [b 15 .lss 14 13] [0,1,7,12,13,14,15]) aiE
abbrev aiT:AK:=.loop aiD
abbrev aiC:AK:=.seq (.aa [m 12 0,.v 13 (.len false (.t 12)),k 14 (ci 0)] [0,1,7,12,13,14]) (.block 0 aiT)
abbrev aiA:AK:=.seq aiC aiJ
abbrev ait:AK:=.seq (.aa [k 7 (.c (.bool false))] [0,1,7]) aiA
abbrev ais:AK:=.seq (.aa [k 4 (ci 0),k 5 (ci 0),k 6 (ci 0)] [0,1]) ait
abbrev BH:AK:=ais
theorem aiU:aB Tryz.prog 240 57000 2 BH [.tmp 4,.tmp 5,.tmp 6]:=⟨_,Tryz.func240,by kernel_rfl⟩
theorem aiW {h a0 a1 Post} (hp:aD Tryz.prog BH [.tmp 4,.tmp 5,.tmp 6] 2 [(0,a0),(1,a1)] h Post):Eng.Spec Tryz.prog 240 h [a0,a1] Post:=aF aiU rfl [(0,a0),(1,a1)] ⟨rfl,rfl,trivial⟩ hp
end Go.Proofs.YtoalcafkffmiiaaGreatDoor.Cod
