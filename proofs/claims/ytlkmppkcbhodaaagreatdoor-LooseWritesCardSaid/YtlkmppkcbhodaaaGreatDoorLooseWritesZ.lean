/- The proof, part 26 of 34. -/
import Derived.Test.YtlkmppkcbhodaaaGreatDoorLooseWritesX
import Derived.Test.YtlkmppkcbhodaaaGreatDoorProg
import Derived.KernelRfl
set_option linter.all false
namespace Go.Proofs.YtlkmppkcbhodaaaGreatDoor.Cod
open Eng Eng.Kz
set_option maxRecDepth 100000
abbrev C9:AK:=.aa [bi 37 .add 7 1,m 7 37] [0,1,6,7,2000000,2000001]
abbrev Dc:AK:=.aa [u 123023 23 (.ah (.t 0)),u 123024 24 (.ah (.t 0)),u 123025 25 (.ao (.t 24)),u 123026 26 (.ak false 1 1 (.t 25)),u 123027 27 (.ld false 1 (.t 26)),u 123028 28 (.ah (.t 0)),u 123029 29 (.ao (.t 28)),u 123030 30 (.ak false 0 1 (.t 29)),u 123031 31 (.ld false 1 (.t 30)),b 32 .add 27 31,.v 33 (.bin .add (.t 32) (.c (.int .u32 1))),.v 34 (.bin .rem (.t 33) (.c (.int .u32 65521))),.v 35 (.ao (.t 23)),.v 36 (.ak false 1 1 (.t 35)),.aM false 123000 (.st 1 (.t 36) (.t 34))] [0,1,6,7,2000000,2000001]
abbrev Db:AK:=.seq (.aa [u 123010 10 (.ah (.t 0)),u 123011 11 (.ah (.t 0)),u 123012 12 (.ao (.t 11)),u 123013 13 (.ak false 0 1 (.t 12)),u 123014 14 (.ld false 1 (.t 13)),u 123015 15 (.ah (.t 1)),u 123016 16 (.ah (.t 4)),u 123017 17 (.cv (.t 15) (.t 16)),u 123018 18 (.a6 .u32 (.t 17)),b 19 .add 14 18,.v 20 (.bin .rem (.t 19) (.c (.int .u32 65521))),.v 21 (.ao (.t 10)),.v 22 (.ak false 0 1 (.t 21)),.aM false 123000 (.st 1 (.t 22) (.t 20))] [0,1,6,7,2000000,2000001]) Dc
abbrev Da:AK:=.seq (.aa [m 9 7,m 4 9] [0,1,4,6,7,2000000,2000001]) Db
abbrev C8:AK:=.seq (.block 1 Da) C9
abbrev C7:AK:=.seq (.cond (.t 8) .skip (.exit 0)) C8
abbrev C6:AK:=.seq (.aa [b 8 .lss 7 6] [0,1,6,7,8,2000000,2000001]) C7
abbrev Dd:AK:=.loop C6
abbrev C5:AK:=.seq (.aa [m 5 1,.v 6 (.len true (.t 5)),k 7 (ci 0)] [0,1,6,7,2000000,2000001]) (.block 0 Dd)
abbrev ud:AK:=C5
theorem De:aB Tryz.prog 122 123000 2 ud []:=⟨_,Tryz.func122,by kernel_rfl⟩
theorem Dg {h a0 a1 Post} (hp:aD Tryz.prog ud [] 2 [(0,a0),(1,a1),(2000000,a0),(2000001,a1)] h Post):Eng.Spec Tryz.prog 122 h [a0,a1] Post:=aG De rfl [(0,a0),(1,a1),(2000000,a0),(2000001,a1)] ⟨rfl,rfl,rfl,rfl,trivial⟩ hp
abbrev C1:AK:=.seq (.aa [u 124003 3 (.ah (.t 0)),u 124004 4 (.ao (.t 3)),u 124005 5 (.ak false 1 1 (.t 4)),u 124006 6 (.ld false 1 (.t 5)),u 124007 7 (.bin .shl (.t 6) (.c (.int .u64 16))),u 124008 8 (.ah (.t 0)),u 124009 9 (.ao (.t 8)),u 124010 10 (.ak false 0 1 (.t 9)),u 124011 11 (.ld false 1 (.t 10)),u 124012 12 (.bin .add (.t 11) (.c (.int .u32 1))),u 124013 13 (.bin .rem (.t 12) (.c (.int .u32 65521))),b 14 .or 7 13,m 2 14] [2,2000000]) .ret
abbrev C0:AK:=.seq (.aa [k 2 (.c (.int .u32 0))] [0,2000000]) C1
abbrev uc:AK:=C0
theorem C2:aB Tryz.prog 123 124000 1 uc [.tmp 2]:=⟨_,Tryz.func123,by kernel_rfl⟩
theorem C4 {h a0 Post} (hp:aD Tryz.prog uc [.tmp 2] 1 [(0,a0),(2000000,a0)] h Post):Eng.Spec Tryz.prog 123 h [a0] Post:=aG C2 rfl [(0,a0),(2000000,a0)] ⟨rfl,rfl,trivial⟩ hp
abbrev CX:AK:=.seq (.aa [.ai (some 6) false 125006 123 [(.t 3)],m 2 6] [2]) .ret
abbrev CW:AK:=.seq (.aa [m 4 0,.ai (some 5) false 125005 122 [(.t 3),(.t 4)]] [3]) CX
abbrev CV:AK:=.seq (.aa [.eff 3 false 125003 (.alloc [.int .u32 0,.int .u32 0])] [0,3]) CW
abbrev CU:AK:=.seq (.aa [k 2 (.c (.int .u32 0))] [0]) CV
abbrev tZ:AK:=CU
theorem CY:aB Tryz.prog 72 125000 1 tZ [.tmp 2]:=⟨_,Tryz.func72,by kernel_rfl⟩
theorem CZ {h a0 Post} (hp:aD Tryz.prog tZ [.tmp 2] 1 [(0,a0)] h Post):Eng.Spec Tryz.prog 72 h [a0] Post:=aG CY rfl [(0,a0)] ⟨rfl,trivial⟩ hp
abbrev Lt:AK:=.seq (.aa [m 18 3,m 2 18] [2]) .ret
abbrev Lz:AK:=.aa [bi 17 .add 7 1,m 7 17] [0,3,6,7]
abbrev Lq:AK:=.aa [m 10 3,.v 11 (.bin .shl (.t 10) (.c (.int .u64 8))),m 12 0,m 13 4,.v 14 (.cv (.t 12) (.t 13)),.v 15 (.a6 .u64 (.t 14)),b 16 .or 11 15,m 3 16] [0,3,6,7]
abbrev Lp:AK:=.seq (.aa [m 9 7,m 4 9] [0,3,4,6,7]) Lq
abbrev Ly:AK:=.seq (.block 1 Lp) Lz
abbrev Lw:AK:=.seq (.cond (.t 8) .skip (.exit 0)) Ly
abbrev Lv:AK:=.seq (.aa [b 8 .lss 7 6] [0,3,6,7,8]) Lw
abbrev LA:AK:=.loop Lv
abbrev Lu:AK:=.seq (.aa [m 5 0,.v 6 (.len true (.t 5)),k 7 (ci 0)] [0,3,6,7]) (.block 0 LA)
abbrev Lr:AK:=.seq Lu Lt
abbrev Lo:AK:=.seq (.aa [k 3 (.c (.int .u64 0))] [0,3]) Lr
abbrev Ln:AK:=.seq (.aa [k 2 (.c (.int .u64 0))] [0]) Lo
abbrev wQ:AK:=Ln
theorem LB:aB Tryz.prog 71 126000 1 wQ [.tmp 2]:=⟨_,Tryz.func71,by kernel_rfl⟩
theorem LD {h a0 Post} (hp:aD Tryz.prog wQ [.tmp 2] 1 [(0,a0)] h Post):Eng.Spec Tryz.prog 71 h [a0] Post:=aG LB rfl [(0,a0)] ⟨rfl,trivial⟩ hp
abbrev Fe:AK:=.seq (.aa [m 31 5,.v 32 (.dK (.t 31)),m 4 32] [4]) .ret
abbrev Fk:AK:=.aa [bi 30 .add 9 1,m 9 30] [0,1,5,8,9]
abbrev E9:AK:=.aa [m 19 5,m 20 0,m 21 1,bi 22 .sub 21 1,m 23 6,b 24 .sub 22 23,.v 25 (.bin .mul (ci 8) (.t 24)),b 26 .shr 20 25,.v 27 (.a6 .u8 (.t 26)),.eff 28 false 127028 (.a8 1 [(.t 27)]),.eff 29 false 127029 (.app 1 1 (.t 19) (.t 28)),m 5 29] [0,1,5,8,9]
abbrev Fb:AK:=.seq (.aa [m 16 5,.eff 17 false 127017 (.a8 1 [(.c (.int .u8 0))]),.eff 18 false 127018 (.app 1 1 (.t 16) (.t 17)),m 5 18] [0,1,5,8,9]) (.exit 1)
abbrev Fa:AK:=.seq (.aa [m 12 1,m 13 6,b 14 .sub 12 13,bi 15 .gtr 14 8] [0,1,5,6,8,9,15]) (.cond (.t 15) Fb .skip)
abbrev E8:AK:=.seq Fa E9
abbrev E7:AK:=.seq (.aa [m 11 9,m 6 11] [0,1,5,6,8,9]) E8
abbrev Fj:AK:=.seq (.block 1 E7) Fk
abbrev Fh:AK:=.seq (.cond (.t 10) .skip (.exit 0)) Fj
abbrev Fg:AK:=.seq (.aa [b 10 .lss 9 8] [0,1,5,8,9,10]) Fh
abbrev Fl:AK:=.loop Fg
abbrev Ff:AK:=.seq (.aa [m 7 1,.v 8 (.mm true (.t 7) (ci 0)),k 9 (ci 0)] [0,1,5,8,9]) (.block 0 Fl)
abbrev Fc:AK:=.seq Ff Fe
abbrev E6:AK:=.seq (.aa [k 5 (.c (.al))] [0,1,5]) Fc
abbrev EZ:AK:=.seq (.aa [k 4 (.c (.str []))] [0,1]) E6
abbrev uG:AK:=EZ
theorem Fm:aB Tryz.prog 133 127000 2 uG [.tmp 4]:=⟨_,Tryz.func133,by kernel_rfl⟩
theorem Fp {h a0 a1 Post} (hp:aD Tryz.prog uG [.tmp 4] 2 [(0,a0),(1,a1)] h Post):Eng.Spec Tryz.prog 133 h [a0,a1] Post:=aG Fm rfl [(0,a0),(1,a1)] ⟨rfl,rfl,trivial⟩ hp
abbrev aj8:AK:=.seq (.aa [m 23 4,.v 24 (.bin .mul (ci 65536) (.t 23)),m 25 3,b 26 .add 24 25,.v 27 (.a6 .u32 (.t 26)),m 2 27] [2]) .ret
abbrev akc:AK:=.aa [m 10 5,bi 11 .add 10 1,m 5 11] [0,3,4,5]
abbrev aj5:AK:=.aa [m 19 4,m 20 3,b 21 .add 19 20,bi 22 .rem 21 65521,m 4 22] [0,3,4,5]
abbrev aj4:AK:=.seq (.aa [m 12 3,m 13 0,m 14 5,.v 15 (.cv (.t 13) (.t 14)),.v 16 (.a6 .i64 (.t 15)),b 17 .add 12 16,bi 18 .rem 17 65521,m 3 18] [0,3,4,5]) aj5
abbrev akb:AK:=.seq (.block 1 aj4) akc
abbrev aj6:AK:=.seq (.aa [m 6 5,m 7 0,.v 8 (.len true (.t 7)),b 9 .lss 6 8] [0,3,4,5,9]) (.cond (.t 9) .skip (.exit 0))
abbrev aka:AK:=.seq aj6 akb
abbrev akd:AK:=.loop aka
abbrev aj9:AK:=.seq (.aa [k 5 (ci 0)] [0,3,4,5]) (.block 0 akd)
abbrev aj7:AK:=.seq aj9 aj8
abbrev aj3:AK:=.seq (.aa [k 3 (ci 1),k 4 (ci 0)] [0,3,4]) aj7
abbrev aj2:AK:=.seq (.aa [k 2 (.c (.int .u32 0))] [0]) aj3
abbrev Al:AK:=aj2
theorem ake:aB Tryz.prog 52 129000 1 Al [.tmp 2]:=⟨_,Tryz.func52,by kernel_rfl⟩
theorem akf {h a0 Post} (hp:aD Tryz.prog Al [.tmp 2] 1 [(0,a0)] h Post):Eng.Spec Tryz.prog 52 h [a0] Post:=aG ake rfl [(0,a0)] ⟨rfl,trivial⟩ hp
abbrev alU:AK:=.seq (.aa [m 21 5,.v 22 (.dK (.t 21)),m 4 22] [4]) .ret
abbrev alY:AK:=.aa [m 11 6,bi 12 .add 11 1,m 6 12] [0,1,5,6]
abbrev alR:AK:=.aa [m 19 0,.v 20 (.bin .quo (.t 19) (.c (.int .u64 256))),m 0 20] [0,1,5,6]
abbrev alQ:AK:=.seq (.aa [m 13 5,m 14 0,.v 15 (.bin .rem (.t 14) (.c (.int .u64 256))),.v 16 (.a6 .u8 (.t 15)),.eff 17 false 130017 (.a8 1 [(.t 16)]),.eff 18 false 130018 (.app 1 1 (.t 13) (.t 17)),m 5 18] [0,1,5,6]) alR
abbrev alX:AK:=.seq (.block 1 alQ) alY
abbrev alS:AK:=.seq (.aa [m 8 6,m 9 1,b 10 .lss 8 9] [0,1,5,6,10]) (.cond (.t 10) .skip (.exit 0))
abbrev alW:AK:=.seq alS alX
abbrev alZ:AK:=.loop alW
abbrev alV:AK:=.seq (.aa [k 6 (ci 0)] [0,1,5,6]) (.block 0 alZ)
abbrev alT:AK:=.seq alV alU
abbrev alP:AK:=.seq (.aa [.eff 7 false 130007 (.a8 1 []),m 5 7] [0,1,5]) alT
abbrev alO:AK:=.seq (.aa [k 4 (.c (.str []))] [0,1]) alP
abbrev AL:AK:=alO
theorem al0:aB Tryz.prog 101 130000 2 AL [.tmp 4]:=⟨_,Tryz.func101,by kernel_rfl⟩
theorem al2 {h a0 a1 Post} (hp:aD Tryz.prog AL [.tmp 4] 2 [(0,a0),(1,a1)] h Post):Eng.Spec Tryz.prog 101 h [a0,a1] Post:=aG al0 rfl [(0,a0),(1,a1)] ⟨rfl,rfl,trivial⟩ hp
abbrev acj:AK:=.seq (.aa [m 19 3,.v 20 (.dK (.t 19)),m 2 20] [2]) .ret
abbrev aco:AK:=.aa [m 11 4,bi 12 .sub 11 1,m 4 12] [0,3,4]
abbrev acg:AK:=.aa [m 13 3,m 14 0,m 15 4,.v 16 (.cv (.t 14) (.t 15)),.eff 17 false 131017 (.a8 1 [(.t 16)]),.eff 18 false 131018 (.app 1 1 (.t 13) (.t 17)),m 3 18] [0,3,4]
abbrev acn:AK:=.seq (.block 1 acg) aco
abbrev ach:AK:=.seq (.aa [m 9 4,bi 10 .geq 9 0] [0,3,4,10]) (.cond (.t 10) .skip (.exit 0))
abbrev acm:AK:=.seq ach acn
abbrev acp:AK:=.loop acm
abbrev ack:AK:=.seq (.aa [m 6 0,.v 7 (.len true (.t 6)),bi 8 .sub 7 1,m 4 8] [0,3,4]) (.block 0 acp)
abbrev aci:AK:=.seq ack acj
abbrev acf:AK:=.seq (.aa [.eff 5 false 131005 (.a8 1 []),m 3 5] [0,3]) aci
abbrev ace:AK:=.seq (.aa [k 2 (.c (.str []))] [0]) acf
abbrev zq:AK:=ace
theorem acq:aB Tryz.prog 100 131000 1 zq [.tmp 2]:=⟨_,Tryz.func100,by kernel_rfl⟩
theorem acs {h a0 Post} (hp:aD Tryz.prog zq [.tmp 2] 1 [(0,a0)] h Post):Eng.Spec Tryz.prog 100 h [a0] Post:=aG acq rfl [(0,a0)] ⟨rfl,trivial⟩ hp
abbrev akn:AK:=.seq (.aa [m 5 0,m 6 1,.ai (some 7) false 132007 101 [(.t 5),(.t 6)],.ai (some 8) false 132008 100 [(.t 7)],m 4 8] [4]) .ret
abbrev akm:AK:=.seq (.aa [k 4 (.c (.str []))] [0,1]) akn
abbrev Aq:AK:=akm
theorem ako:aB Tryz.prog 51 132000 2 Aq [.tmp 4]:=⟨_,Tryz.func51,by kernel_rfl⟩
theorem akp {h a0 a1 Post} (hp:aD Tryz.prog Aq [.tmp 4] 2 [(0,a0),(1,a1)] h Post):Eng.Spec Tryz.prog 51 h [a0,a1] Post:=aG ako rfl [(0,a0),(1,a1)] ⟨rfl,rfl,trivial⟩ hp
abbrev auN:AK:=.seq (.aa [m 5 0,.v 6 (.bin .and (.t 5) (.c (.int .u8 15))),.v 7 (.bin .eql (.t 6) (.c (.int .u8 8))),m 8 7,.af 9 8 true false 134009 (.ah (.t 0)),.af 10 8 true false 134010 (.bin .shr (.t 9) (.c (.int .u64 4))),.af 11 8 true false 134011 (.bin .leq (.t 10) (.c (.int .u8 7))),.v 12 (.pick (.t 8) (.t 11) (.c (.bool false))),m 13 12,.af 14 13 true false 134014 (.ah (.t 0)),.af 15 13 true false 134015 (.a6 .i64 (.t 14)),.af 16 13 true false 134016 (.bin .shl (.t 15) (.c (.int .u64 8))),.af 17 13 true false 134017 (.ah (.t 1)),.af 18 13 true false 134018 (.a6 .i64 (.t 17)),.af 19 13 true false 134019 (.bin .or (.t 16) (.t 18)),.af 20 13 true false 134020 (.bin .rem (.t 19) (ci 31)),.af 21 13 true false 134021 (.bin .eql (.t 20) (ci 0)),.v 22 (.pick (.t 13) (.t 21) (.c (.bool false))),m 23 22,.af 24 23 true false 134024 (.ah (.t 1)),.af 25 23 true false 134025 (.bin .and (.t 24) (.c (.int .u8 32))),.af 26 23 true false 134026 (.bin .eql (.t 25) (.c (.int .u8 0))),.v 27 (.pick (.t 23) (.t 26) (.c (.bool false))),m 4 27] [4]) .ret
abbrev auM:AK:=.seq (.aa [k 4 (.c (.bool false))] [0,1]) auN
abbrev Cy:AK:=auM
theorem auO:aB Tryz.prog 69 134000 2 Cy [.tmp 4]:=⟨_,Tryz.func69,by kernel_rfl⟩
theorem auQ {h a0 a1 Post} (hp:aD Tryz.prog Cy [.tmp 4] 2 [(0,a0),(1,a1)] h Post):Eng.Spec Tryz.prog 69 h [a0,a1] Post:=aG auO rfl [(0,a0),(1,a1)] ⟨rfl,rfl,trivial⟩ hp
abbrev avg:AK:=.seq (.aa [m 74 9,m 75 10,bi 76 .add 75 6,m 6 74,m 7 76,k 8 (ci 0)] [6,7,8]) .ret
abbrev auY:AK:=.seq (.aa [k 6 (.c (.str [])),k 7 (ci 0),k 8 (ci 5)] [6,7,8]) .ret
abbrev auX:AK:=.seq (.aa [m 64 0,m 65 12,m 66 12,bi 67 .add 66 4,.v 68 (.cy (.t 64) (some (.t 65)) (some (.t 67))),.ai (some 69) false 135069 71 [(.t 68)],.v 70 (.a6 .u32 (.t 69)),m 71 9,.ai (some 72) false 135072 72 [(.t 71)],b 73 .neq 70 72] [9,10,73]) (.cond (.t 73) auY .skip)
abbrev avf:AK:=.seq auX avg
abbrev au0:AK:=.seq (.aa [k 6 (.c (.str [])),k 7 (ci 0),k 8 (ci 6)] [6,7,8]) .ret
abbrev auZ:AK:=.seq (.aa [m 59 0,.v 60 (.len true (.t 59)),m 61 12,b 62 .sub 60 61,bi 63 .lss 62 4] [0,9,10,12,63]) (.cond (.t 63) au0 .skip)
abbrev ave:AK:=.seq auZ avf
abbrev avd:AK:=.seq (.aa [m 55 1,bi 56 .add 55 2,m 57 10,b 58 .add 56 57,m 12 58] [0,9,10,12]) ave
abbrev au2:AK:=.seq (.aa [m 54 11,k 6 (.c (.str [])),k 7 (ci 0),m 8 54] [6,7,8]) .ret
abbrev au1:AK:=.seq (.aa [m 52 11,bi 53 .neq 52 0] [0,1,9,10,11,53]) (.cond (.t 53) au2 .skip)
abbrev avc:AK:=.seq au1 avd
abbrev avb:AK:=.seq (.aa [m 44 0,m 45 1,bi 46 .add 45 2,m 47 2,.ai (some 48) false 135048 70 [(.t 44),(.t 46),(.t 47)],m 43 48,.v 49 (.ext (.t 43) 0),.v 50 (.ext (.t 43) 1),.v 51 (.ext (.t 43) 2),m 9 49,m 10 50,m 11 51] [0,1,9,10,11]) avc
abbrev au5:AK:=.seq (.aa [k 6 (.c (.str [])),k 7 (ci 0),k 8 (ci 3)] [6,7,8]) .ret
abbrev au3:AK:=.seq (.aa [u 135034 34 (.ah (.t 0)),u 135035 35 (.ah (.t 1)),u 135036 36 (.cv (.t 34) (.t 35)),u 135037 37 (.ah (.t 0)),u 135038 38 (.ah (.t 1)),u 135039 39 (.bin .add (.t 38) (ci 1)),u 135040 40 (.cv (.t 37) (.t 39)),.ai (some 41) false 135041 69 [(.t 36),(.t 40)],.v 42 (.un .not (.t 41))] [0,1,2,42]) (.cond (.t 42) au5 .skip)
abbrev ava:AK:=.seq au3 avb
abbrev au7:AK:=.seq (.aa [k 6 (.c (.str [])),k 7 (ci 0),k 8 (ci 6)] [6,7,8]) .ret
abbrev au6:AK:=.seq (.aa [m 29 0,.v 30 (.len true (.t 29)),m 31 1,b 32 .sub 30 31,bi 33 .lss 32 2] [0,1,2,33]) (.cond (.t 33) au7 .skip)
abbrev au4:AK:=.seq au6 ava
abbrev au9:AK:=.seq (.aa [k 6 (.c (.str [])),k 7 (ci 0),k 8 (ci 1)] [6,7,8]) .ret
abbrev au8:AK:=.seq (.aa [m 13 1,bi 14 .lss 13 0,m 15 14,.af 16 15 false false 135016 (.ah (.t 1)),.af 17 15 false false 135017 (.ah (.t 0)),.af 18 15 false false 135018 (.len true (.t 17)),.af 19 15 false false 135019 (.bin .gtr (.t 16) (.t 18)),.v 20 (.pick (.t 15) (.c (.bool true)) (.t 19)),m 21 20,.af 22 21 false false 135022 (.ah (.t 2)),.af 23 21 false false 135023 (.bin .lss (.t 22) (ci 0)),.v 24 (.pick (.t 21) (.c (.bool true)) (.t 23)),m 25 24,.af 26 25 false false 135026 (.ah (.t 2)),.af 27 25 false false 135027 (.bin .gtr (.t 26) (ci 65536)),.v 28 (.pick (.t 25) (.c (.bool true)) (.t 27))] [0,1,2,28]) (.cond (.t 28) au9 .skip)
abbrev auW:AK:=.seq au8 au4
abbrev auV:AK:=.seq (.aa [k 6 (.c (.str [])),k 7 (ci 0),k 8 (ci 0)] [0,1,2]) auW
abbrev CC:AK:=auV
theorem avh:aB Tryz.prog 39 135000 3 CC [.tmp 6,.tmp 7,.tmp 8]:=⟨_,Tryz.func39,by kernel_rfl⟩
theorem avj {h a0 a1 a2 Post} (hp:aD Tryz.prog CC [.tmp 6,.tmp 7,.tmp 8] 3 [(0,a0),(1,a1),(2,a2)] h Post):Eng.Spec Tryz.prog 39 h [a0,a1,a2] Post:=aG avh rfl [(0,a0),(1,a1),(2,a2)] ⟨rfl,rfl,rfl,trivial⟩ hp
abbrev ajq:AK:=.seq (.aa [m 5 0,bi 6 .rem 5 16,bi 7 .eql 6 8,m 8 7,.af 9 8 true false 136009 (.ah (.t 0)),.af 10 8 true false 136010 (.bin .quo (.t 9) (ci 16)),.af 11 8 true false 136011 (.bin .leq (.t 10) (ci 7)),.v 12 (.pick (.t 8) (.t 11) (.c (.bool false))),m 13 12,.af 14 13 true false 136014 (.ah (.t 0)),.af 15 13 true false 136015 (.bin .mul (ci 256) (.t 14)),.af 16 13 true false 136016 (.ah (.t 1)),.af 17 13 true false 136017 (.bin .add (.t 15) (.t 16)),.af 18 13 true false 136018 (.bin .rem (.t 17) (ci 31)),.af 19 13 true false 136019 (.bin .eql (.t 18) (ci 0)),.v 20 (.pick (.t 13) (.t 19) (.c (.bool false))),m 21 20,.af 22 21 true false 136022 (.ah (.t 1)),.af 23 21 true false 136023 (.bin .quo (.t 22) (ci 32)),.af 24 21 true false 136024 (.bin .rem (.t 23) (ci 2)),.af 25 21 true false 136025 (.bin .eql (.t 24) (ci 0)),.v 26 (.pick (.t 21) (.t 25) (.c (.bool false))),m 4 26] [4]) .ret
abbrev ajp:AK:=.seq (.aa [k 4 (.c (.bool false))] [0,1]) ajq
abbrev Ah:AK:=ajp
theorem ajr:aB Tryz.prog 49 136000 2 Ah [.tmp 4]:=⟨_,Tryz.func49,by kernel_rfl⟩
theorem ajt {h a0 a1 Post} (hp:aD Tryz.prog Ah [.tmp 4] 2 [(0,a0),(1,a1)] h Post):Eng.Spec Tryz.prog 49 h [a0,a1] Post:=aG ajr rfl [(0,a0),(1,a1)] ⟨rfl,rfl,trivial⟩ hp
abbrev ajP:AK:=.seq (.aa [m 73 9,m 74 10,bi 75 .add 74 6,m 6 73,m 7 75,k 8 (ci 0)] [6,7,8]) .ret
abbrev ajx:AK:=.seq (.aa [k 6 (.c (.str [])),k 7 (ci 0),k 8 (ci 5)] [6,7,8]) .ret
abbrev ajw:AK:=.seq (.aa [u 137066 66 (.ah (.t 12)),u 137067 67 (.cy (.t 66) none (some (ci 4))),m 68 9,.ai (some 69) false 137069 52 [(.t 68)],.v 70 (.a6 .u64 (.t 69)),.ai (some 71) false 137071 51 [(.t 70),(ci 4)],b 72 .neq 67 71] [9,10,72]) (.cond (.t 72) ajx .skip)
abbrev ajO:AK:=.seq ajw ajP
abbrev ajz:AK:=.seq (.aa [k 6 (.c (.str [])),k 7 (ci 0),k 8 (ci 6)] [6,7,8]) .ret
abbrev ajy:AK:=.seq (.aa [m 63 12,.v 64 (.len true (.t 63)),bi 65 .lss 64 4] [9,10,12,65]) (.cond (.t 65) ajz .skip)
abbrev ajN:AK:=.seq ajy ajO
abbrev ajM:AK:=.seq (.aa [m 57 0,m 58 1,bi 59 .add 58 2,m 60 10,b 61 .add 59 60,.v 62 (.cy (.t 57) (some (.t 61)) none),m 12 62] [9,10,12]) ajN
abbrev ajB:AK:=.seq (.aa [m 56 11,k 6 (.c (.str [])),k 7 (ci 0),m 8 56] [6,7,8]) .ret
abbrev ajA:AK:=.seq (.aa [m 54 11,bi 55 .neq 54 0] [0,1,9,10,11,55]) (.cond (.t 55) ajB .skip)
abbrev ajL:AK:=.seq ajA ajM
abbrev ajK:AK:=.seq (.aa [m 46 0,m 47 1,bi 48 .add 47 2,m 49 2,.ai (some 50) false 137050 50 [(.t 46),(.t 48),(.t 49)],m 45 50,.v 51 (.ext (.t 45) 0),.v 52 (.ext (.t 45) 1),.v 53 (.ext (.t 45) 2),m 9 51,m 10 52,m 11 53] [0,1,9,10,11]) ajL
abbrev ajE:AK:=.seq (.aa [k 6 (.c (.str [])),k 7 (ci 0),k 8 (ci 3)] [6,7,8]) .ret
abbrev ajC:AK:=.seq (.aa [u 137034 34 (.ah (.t 0)),u 137035 35 (.ah (.t 1)),u 137036 36 (.cv (.t 34) (.t 35)),u 137037 37 (.a6 .i64 (.t 36)),u 137038 38 (.ah (.t 0)),u 137039 39 (.ah (.t 1)),u 137040 40 (.bin .add (.t 39) (ci 1)),u 137041 41 (.cv (.t 38) (.t 40)),u 137042 42 (.a6 .i64 (.t 41)),.ai (some 43) false 137043 49 [(.t 37),(.t 42)],.v 44 (.un .not (.t 43))] [0,1,2,44]) (.cond (.t 44) ajE .skip)
abbrev ajJ:AK:=.seq ajC ajK
abbrev ajG:AK:=.seq (.aa [k 6 (.c (.str [])),k 7 (ci 0),k 8 (ci 6)] [6,7,8]) .ret
abbrev ajF:AK:=.seq (.aa [m 29 0,.v 30 (.len true (.t 29)),m 31 1,b 32 .sub 30 31,bi 33 .lss 32 2] [0,1,2,33]) (.cond (.t 33) ajG .skip)
abbrev ajD:AK:=.seq ajF ajJ
abbrev ajI:AK:=.seq (.aa [k 6 (.c (.str [])),k 7 (ci 0),k 8 (ci 1)] [6,7,8]) .ret
abbrev ajH:AK:=.seq (.aa [m 13 1,bi 14 .lss 13 0,m 15 14,.af 16 15 false false 137016 (.ah (.t 1)),.af 17 15 false false 137017 (.ah (.t 0)),.af 18 15 false false 137018 (.len true (.t 17)),.af 19 15 false false 137019 (.bin .gtr (.t 16) (.t 18)),.v 20 (.pick (.t 15) (.c (.bool true)) (.t 19)),m 21 20,.af 22 21 false false 137022 (.ah (.t 2)),.af 23 21 false false 137023 (.bin .lss (.t 22) (ci 0)),.v 24 (.pick (.t 21) (.c (.bool true)) (.t 23)),m 25 24,.af 26 25 false false 137026 (.ah (.t 2)),.af 27 25 false false 137027 (.bin .gtr (.t 26) (ci 65536)),.v 28 (.pick (.t 25) (.c (.bool true)) (.t 27))] [0,1,2,28]) (.cond (.t 28) ajI .skip)
abbrev ajv:AK:=.seq ajH ajD
abbrev aju:AK:=.seq (.aa [k 6 (.c (.str [])),k 7 (ci 0),k 8 (ci 0)] [0,1,2]) ajv
abbrev Ai:AK:=aju
theorem ajQ:aB Tryz.prog 24 137000 3 Ai [.tmp 6,.tmp 7,.tmp 8]:=⟨_,Tryz.func24,by kernel_rfl⟩
theorem ajS {h a0 a1 a2 Post} (hp:aD Tryz.prog Ai [.tmp 6,.tmp 7,.tmp 8] 3 [(0,a0),(1,a1),(2,a2)] h Post):Eng.Spec Tryz.prog 24 h [a0,a1,a2] Post:=aG ajQ rfl [(0,a0),(1,a1),(2,a2)] ⟨rfl,rfl,rfl,trivial⟩ hp
end Go.Proofs.YtlkmppkcbhodaaaGreatDoor.Cod
namespace Go.Proofs.YtlkmppkcbhodaaaGreatDoor.Pk
open Eng Sh
set_option maxRecDepth 10000
open Eng Sh
set_option maxRecDepth 10000
def nE (p:Nat×Nat) (c:UInt8):Nat×Nat:=((p.1+c.toNat)%65521,(p.2+(p.1+c.toNat)%65521)%65521)
def cB (t:Bs):Nat×Nat:=t.foldl nE (1,0)
def cC (t:Bs):Nat:=65536*(cB t).2+(cB t).1
theorem qL (t:Bs) {k:Nat} (h:k<t.length):cB (t.take (k+1))=nE (cB (t.take k)) (t.getD k 0):=by
 rw[kR t h];simp[cB]
theorem CT (p:Nat×Nat) (c:UInt8):(nE p c).1<65521∧(nE p c).2<65521:=⟨Nat.mod_lt _ (by decide),Nat.mod_lt _ (by decide)⟩
theorem ma (t:Bs):(cB t).1<65521∧(cB t).2<65521:=by
 have:∀k,k≤t.length→(cB (t.take k)).1<65521∧(cB (t.take k)).2<65521:=by
  intro k
  cases k with
  | zero=>intro _;rw[List.take_zero];decide
  | succ k=>intro h;rw[qL t h];exact CT _ _
 have h:=this t.length (Nat.le_refl _)
 rwa[List.take_of_length_le (Nat.le_refl _)]at h
theorem mb (t:Bs):cC t<4294967296:=by
 have:=ma t
 unfold cC;omega
def fq (a:Nat):Nat:=(a+65520)%65521
theorem Df (t:Bs) (ht:t.length≤1000000000):Eng.Spec Tryz.prog 122 [(125003,.var [.int .u32 0,.int .u32 0])] [.ab 125003 0,.str t]
    (fun h' v ar=>h'=[(125003,.var [.int .u32 (fq (cB t).1:Nat),.int .u32 ((cB t).2:Nat)])]∧v=.aj []∧ar=[.ab 125003 0,.str t]):=by
 refine Cod.Dg (fun E R hN hR=>?_)
 refine wW ?_
 refine a7 hN (fun k:Nat=>⟨[(0,.ab 125003 0),(1,.str t),(6,.int .i64 t.length),(7,.int .i64 k),(2000000,.ab 125003 0),(2000001,.str t)],[(125003,.var [.int .u32 (fq (cB (t.take k)).1:Nat),.int .u32 ((cB (t.take k)).2:Nat)])]⟩) (fun k=>k≤t.length) (fun k=>t.length-k) 0 (.le (by simp(disch:=omega)only[go_sem,simprocAttr];simp[cB,fq])) (by omega) ?_
 rintro k R1 hk hR1
 by_cases hlt:k<t.length
 ·have hct:=qL t hlt
  have hxl:=ma (t.take k)
  generalize cB (t.take k)=x at *
  have hbl:=(t.getD k 0).toNat_lt
  obtain⟨xa,xb⟩:=x
  simp only at hxl
  have hc1:(cB (t.take (k+1))).1=(xa+(t.getD k 0).toNat)%65521:=by rw[hct];rfl
  have hc2:(cB (t.take (k+1))).2=(xb+(xa+(t.getD k 0).toNat)%65521)%65521:=by rw[hct];rfl
  generalize hb:(t.getD k 0).toNat=b at *
  have l1:fq xa<65521:=Nat.mod_lt _ (by decide)
  have e2:(((fq xa:Nat):Int)+(b:Int)).tmod 65521=((fq ((xa+b)%65521):Nat):Int):=by
   rw[gM (by omega)]
   unfold fq
   omega
  have e3:(((xb:Nat):Int)+((fq ((xa+b)%65521):Nat):Int)+1).tmod 65521=(((xb+(xa+b)%65521)%65521:Nat):Int):=by
   rw[gM (by omega)]
   unfold fq
   omega
  have l2:fq ((xa+b)%65521)<65521:=Nat.mod_lt _ (by decide)
  refine cL hb e2 e3 ?_
  exact hR1 (k+1) _ (by omega) (by omega) (.le (jq hc1 hc2))
 ·obtain rfl:k=t.length:=by omega
  rw[List.take_of_length_le (Nat.le_refl _)]
  refine wW ?_
  exact hR.le vV ⟨rfl,rfl,rfl⟩
theorem abg {a b:Nat} (ha:a<65536) (hb:b<65536):bits .or .u32 (IntKind.u32.wrap ((b:Int)*2^min 16 32)) (a:Int)=((65536*b+a:Nat):Int):=by
 have h1:((b:Int)*2^min 16 32)=((b*65536:Nat):Int):=by
  rw[show((2:Int)^min 16 32)=65536 by decide];omega
 rw[h1,wrap_u32 (by omega)]
 show IntKind.u32.wrap ((BitVec.ofInt 32 ((b*65536:Nat):Int) ||| BitVec.ofInt 32 (a:Int)).toNat:Int)=_
 rw[BitVec.ofInt_natCast,BitVec.ofInt_natCast,BitVec.toNat_or,BitVec.toNat_ofNat,BitVec.toNat_ofNat,Nat.mod_eq_of_lt (by omega),Nat.mod_eq_of_lt (by omega)]
 have h2:b*65536 ||| a=65536*b+a:=by
  have h3:=Nat.shiftLeft_add_eq_or_of_lt (b:=a) (i:=16) (by omega) b
  rw[Nat.shiftLeft_eq,show(2:Nat)^16=65536 by decide]at h3
  omega
 rw[h2]
 exact wrap_u32 (by omega)
theorem C3 (t:Bs):Eng.Spec Tryz.prog 123 [(125003,.var [.int .u32 (fq (cB t).1:Nat),.int .u32 ((cB t).2:Nat)])] [.ab 125003 0]
    (fun h' v ar=>h'=[(125003,.var [.int .u32 (fq (cB t).1:Nat),.int .u32 ((cB t).2:Nat)])]∧v=.int .u32 (cC t:Nat)∧ar=[.ab 125003 0]):=by
 refine Cod.C4 (fun E R hN hR=>?_)
 have hl:=ma t
 unfold cC at hR
 generalize cB t=x at *
 obtain⟨xa,xb⟩:=x
 simp only at hl hR ⊢
 have l1:fq xa<65521:=Nat.mod_lt _ (by decide)
 have e1:(((fq xa:Nat):Int)+1).tmod 65521=((xa:Nat):Int):=by
  rw[gM (by omega)]
  unfold fq
  omega
 have e2:=abg (a:=xa) (b:=xb) (by omega) (by omega)
 refine bH e1 e2 ?_
 exact hR.le vV ⟨rfl,rfl,rfl⟩
theorem ua (t:Bs) (ht:t.length≤1000000000):aP Tryz.prog 72 [.str t] (.int .u32 (cC t:Nat)):=by
 refine Cod.CZ (fun E R hN hR=>?_)
 have hw:=Df t ht
 have hs:=C3 t
 refine wW ?_
 refine aJ [(125003,.var [.int .u32 0,.int .u32 0])] hw vV nofun ?_
 rintro h' v ar ⟨rfl,rfl,rfl⟩
 refine⟨vV,rfl,?_⟩
 refine wW ?_
 refine aJ [(125003,.var [.int .u32 (fq (cB t).1:Nat),.int .u32 ((cB t).2:Nat)])] hs vV nofun ?_
 rintro h' v ar ⟨rfl,rfl,rfl⟩
 refine⟨vV,rfl,?_⟩
 refine wW ?_
 exact hR.ro ⟨rfl,rfl⟩
theorem Am (t:Bs) (ht:t.length≤1000000000):aP Tryz.prog 52 [.str t] (.int .u32 (cC t:Nat)):=by
 refine Cod.akf (fun E R hN hR=>?_)
 refine wW ?_
 refine a7 hN (fun k:Nat=>⟨[(0,.str t),(3,.int .i64 ((cB (t.take k)).1:Nat)),(4,.int .i64 ((cB (t.take k)).2:Nat)),(5,.int .i64 k)],[]⟩) (fun k=>k≤t.length) (fun k=>t.length-k) 0 (.le (by simp(disch:=omega)only[go_sem,simprocAttr];simp[cB])) (by omega) ?_
 rintro k R1 hk hR1
 by_cases hlt:k<t.length
 ·have hct:=qL t hlt
  have hxl:=ma (t.take k)
  generalize cB (t.take k)=x at *
  have hbl:=(t.getD k 0).toNat_lt
  obtain⟨xa,xb⟩:=x
  simp only at hxl
  have hc1:(cB (t.take (k+1))).1=(xa+(t.getD k 0).toNat)%65521:=by rw[hct];rfl
  have hc2:(cB (t.take (k+1))).2=(xb+(xa+(t.getD k 0).toNat)%65521)%65521:=by rw[hct];rfl
  generalize hb:(t.getD k 0).toNat=b at *
  have e1:((xa:Int)+(b:Int)).tmod 65521=(((xa+b)%65521:Nat):Int):=by rw[gM (by omega)];omega
  have e2:((xb:Int)+(((xa+b)%65521:Nat):Int)).tmod 65521=(((xb+(xa+b)%65521)%65521:Nat):Int):=by rw[gM (by omega)];omega
  refine cL hb e1 e2 ?_
  exact hR1 (k+1) _ (by omega) (by omega) (.le (jq hc1 hc2))
 ·obtain rfl:k=t.length:=by omega
  rw[List.take_of_length_le (Nat.le_refl _)]
  have hl:=ma t
  unfold cC at hR
  generalize cB t=x at *
  obtain⟨xa,xb⟩:=x
  simp only at hl hR ⊢
  have e1:(65536:Int)*(xb:Int)+(xa:Int)=((65536*xb+xa:Nat):Int):=by omega
  refine aw e1 ?_
  exact hR.ro ⟨rfl,rfl⟩
def eT (t:Bs):Nat:=t.foldl (fun x c=>256*x+c.toNat) 0
theorem uH (t:Bs) {k:Nat} (h:k<t.length):eT (t.take (k+1))=256*eT (t.take k)+(t.getD k 0).toNat:=by
 rw[kR t h];simp[eT]
theorem qV (t:Bs):∀k,k≤t.length→eT (t.take k)<256^k
 | 0,_=>by rw[List.take_zero];decide
 | k+1,h=>by
  have ih:=qV t k (by omega)
  have hb:=(t.getD k 0).toNat_lt
  rw[uH t h,Nat.pow_succ]
  omega
theorem EY (t:Bs) {k:Nat} (h:k≤t.length) (h7:t.length≤6):eT (t.take k)<281474976710656:=by
 have h1:=qV t k h
 have h2:256^k≤256^6:=Nat.pow_le_pow_right (by decide) (by omega)
 exact Nat.lt_of_lt_of_le h1 h2
theorem abh {x b:Nat} (hx:x<281474976710656) (hb:b<256):bits .or .u64 (IntKind.u64.wrap ((x:Int)*2^min 8 64)) (b:Int)=((256*x+b:Nat):Int):=by
 have h1:((x:Int)*2^min 8 64)=((x*256:Nat):Int):=by
  rw[show((2:Int)^min 8 64)=256 by decide];omega
 rw[h1,wrap_u64 (by omega)]
 show IntKind.u64.wrap ((BitVec.ofInt 64 ((x*256:Nat):Int) ||| BitVec.ofInt 64 (b:Int)).toNat:Int)=_
 rw[BitVec.ofInt_natCast,BitVec.ofInt_natCast,BitVec.toNat_or,BitVec.toNat_ofNat,BitVec.toNat_ofNat,Nat.mod_eq_of_lt (by omega),Nat.mod_eq_of_lt (by omega)]
 have h2:x*256 ||| b=256*x+b:=by
  have h3:=Nat.shiftLeft_add_eq_or_of_lt (b:=b) (i:=8) (by omega) x
  rw[Nat.shiftLeft_eq,show(2:Nat)^8=256 by decide]at h3
  omega
 rw[h2]
 exact wrap_u64 (by omega)
theorem abj {x b:Nat} (hx:x<281474976710656) (hb:b<256):bits .or .i64 (IntKind.i64.wrap ((x:Int)*2^min 8 64)) (b:Int)=((256*x+b:Nat):Int):=by
 have h1:((x:Int)*2^min 8 64)=((x*256:Nat):Int):=by
  rw[show((2:Int)^min 8 64)=256 by decide];omega
 rw[h1,jt (by omega)]
 show IntKind.i64.wrap ((BitVec.ofInt 64 ((x*256:Nat):Int) ||| BitVec.ofInt 64 (b:Int)).toNat:Int)=_
 rw[BitVec.ofInt_natCast,BitVec.ofInt_natCast,BitVec.toNat_or,BitVec.toNat_ofNat,BitVec.toNat_ofNat,Nat.mod_eq_of_lt (by omega),Nat.mod_eq_of_lt (by omega)]
 have h2:x*256 ||| b=256*x+b:=by
  have h3:=Nat.shiftLeft_add_eq_or_of_lt (b:=b) (i:=8) (by omega) x
  rw[Nat.shiftLeft_eq,show(2:Nat)^8=256 by decide]at h3
  omega
 rw[h2]
 exact jt (by omega)
theorem LC (t:Bs) (ht:t.length≤6):aP Tryz.prog 71 [.str t] (.int .u64 (eT t:Nat)):=by
 refine Cod.LD (fun E R hN hR=>?_)
 refine wW ?_
 refine a7 hN (fun k:Nat=>⟨[(0,.str t),(3,.int .u64 (eT (t.take k):Nat)),(6,.int .i64 t.length),(7,.int .i64 k)],[]⟩) (fun k=>k≤t.length) (fun k=>t.length-k) 0 (.le (by simp(disch:=omega)only[go_sem,simprocAttr];simp[eT])) (by omega) ?_
 rintro k R1 hk hR1
 by_cases hlt:k<t.length
 ·have hct:=uH t hlt
  have hxl:=EY t hk ht
  have hbl:=(t.getD k 0).toNat_lt
  have ho:=abh hxl hbl
  generalize eT (t.take k)=x at *
  refine aw ho ?_
  exact hR1 (k+1) _ (by omega) (by omega) (.le (fv hct))
 ·obtain rfl:k=t.length:=by omega
  rw[List.take_of_length_le (Nat.le_refl _)]
  refine wW ?_
  exact hR.ro ⟨rfl,rfl⟩
def bo (x n:Nat):Bs:=(List.range n).map fun i=>UInt8.ofNat (x/256^i%256)
theorem fa (x n:Nat):(bo x n).length=n:=by simp[bo]
theorem yk (x n:Nat):bo x (n+1)=bo x n++[UInt8.ofNat (x/256^n%256)]:=by simp[bo,List.range_succ]
theorem al1 (x n:Nat) (hx:x<9223372036854775808) (hn:n≤1000):aP Tryz.prog 101 [.int .u64 x,.int .i64 n] (.str (bo x n)):=by
 refine Cod.al2 (fun E R hN hR=>?_)
 refine wW ?_
 refine a7 hN (fun k:Nat=>⟨[(0,.int .u64 (x/256^k:Nat)),(1,.int .i64 n),(5,.sl 130007 0 k),(6,.int .i64 k)],[(130007,.arr 1 ((bo x k).map ub))]⟩) (fun k=>k≤n) (fun k=>n-k) 0 (.le (by simp(disch:=omega)only[go_sem,simprocAttr];simp[bo])) (by omega) ?_
 rintro k R1 hk hR1
 have hl:=fa x k
 by_cases hlt:k<n
 ·have hct:=yk x k
  have hd:x/256^k≤x:=Nat.div_le_self _ _
  have hR1':=fun st'=>hR1 (k+1) st' (by omega) (by omega)
  have hp:x/256^(k+1)=x/256^k/256:=by rw[Nat.pow_succ,Nat.div_div_eq_div_mul]
  rw[hp]at hR1' 
  generalize x/256^k=x1 at *
  have e1:((x1:Nat):Int).tmod 256=((x1%256:Nat):Int):=by rw[gM (by omega)];omega
  have e2:((x1:Nat):Int).tdiv 256=((x1/256:Nat):Int):=by rw[jT (by omega)];omega
  have e3:((x1%256:Nat):Int)=((UInt8.ofNat (x1%256)).toNat:Int):=by rw[UInt8.toNat_ofNat'];omega
  have hu:=(UInt8.ofNat (x1%256)).toNat_lt
  rw[e3]at e1
  generalize UInt8.ofNat (x1%256)=c at *
  refine bH e1 e2 ?_
  exact hR1' _ (.le (by rw[hct];simp(disch:=omega)only[go_sem,simprocAttr];simp[ub]))
 ·obtain rfl:k=n:=by omega
  refine wW ?_
  exact hR.wk (h':=[]) (r':=.str (bo x k)) (ar':=[.undef,.undef]) rfl (.le vV) ⟨rfl,rfl⟩
theorem AD (t:Bs) {k:Nat} (h:k<t.length):t.reverse.take (k+1)=t.reverse.take k++[t.getD (t.length-1-k) 0]:=by
 rw[kR t.reverse (by simpa using h),List.getD_eq_getElem?_getD,List.getElem?_reverse h,List.getD_eq_getElem?_getD]
theorem acr (t:Bs) (ht:t.length≤1000000):aP Tryz.prog 100 [.str t] (.str t.reverse):=by
 refine Cod.acs (fun E R hN hR=>?_)
 refine wW ?_
 refine a7 hN (fun k:Nat=>⟨[(0,.str t),(3,.sl 131005 0 k),(4,.int .i64 ((t.length:Int)-1-(k:Int)))],[(131005,.arr 1 ((t.reverse.take k).map ub))]⟩) (fun k=>k≤t.length) (fun k=>t.length-k) 0 (.le vV) (by omega) ?_
 rintro k R1 hk hR1
 have hl:(t.reverse.take k).length=k:=by rw[List.length_take,List.length_reverse];omega
 by_cases hlt:k<t.length
 ·have hct:=AD t hlt
  have ei:(t.length:Int)-1-(k:Int)=((t.length-1-k:Nat):Int):=by omega
  have ei2:(t.length:Int)-1-(k:Int)-1=(t.length:Int)-1-((k+1:Nat):Int):=by omega
  have hu:=(t.getD (t.length-1-k) 0).toNat_lt
  rw[ei]
  refine wW ?_
  refine hR1 (k+1) _ (by omega) (by omega) (.le ?_)
  rw[hct,show((t.length:Int)-1-((k+1:Nat):Int))=((t.length-1-k:Nat):Int)-1 by omega]
  refine wW ?_
  simp[ub]
 ·obtain rfl:k=t.length:=by omega
  rw[List.take_of_length_le (by rw[List.length_reverse];omega)]at hl ⊢
  have ei:(t.length:Int)-1-(t.length:Int) = -1:=by omega
  rw[ei]
  refine wW ?_
  exact hR.wk (h':=[]) (r':=.str t.reverse) (ar':=[.undef]) rfl (.le vV) ⟨rfl,rfl⟩
theorem Ar (x n:Nat) (hx:x<9223372036854775808) (hn:n≤1000):aP Tryz.prog 51 [.int .u64 x,.int .i64 n] (.str (bo x n).reverse):=by
 refine Cod.akp (fun E R hN hR=>?_)
 have h1:=al1 x n hx hn
 have h2:=acr (bo x n) (by rw[fa];omega)
 refine wW ?_
 refine aE h1 rfl rfl ?_
 refine wW ?_
 refine aE h2 rfl rfl ?_
 refine wW ?_
 exact hR.ro ⟨rfl,rfl⟩
theorem uI (u:Bs) (hu:u.length=4) (v:Nat) (hv:v<4294967296):eT u=v↔u=(bo v 4).reverse:=by
 obtain⟨a,b,c,d,rfl⟩:∃a b c d,u=[a,b,c,d]:=by
  match u,hu with
  | [a,b,c,d],_=>exact⟨a,b,c,d,rfl⟩
 have ha:=a.toNat_lt
 have hb:=b.toNat_lt
 have hc:=c.toNat_lt
 have hd:=d.toNat_lt
 have e1:eT [a,b,c,d]=256*(256*(256*a.toNat+b.toNat)+c.toNat)+d.toNat:=by simp[eT]
 have e2:(bo v 4).reverse=[UInt8.ofNat (v/16777216%256),UInt8.ofNat (v/65536%256),UInt8.ofNat (v/256%256),UInt8.ofNat (v%256)]:=by simp[bo,List.range_succ]
 rw[e1,e2]
 constructor
 ·intro h
  have f:∀(x:UInt8) (n:Nat),x.toNat=n→x=UInt8.ofNat n:=fun x n h=>by rw[←h,UInt8.ofNat_toNat]
  rw[f a _ (show a.toNat=v/16777216%256 by omega),f b _ (show b.toNat=v/65536%256 by omega),f c _ (show c.toNat=v/256%256 by omega),f d _ (show d.toNat=v%256 by omega)]
 ·intro h
  simp only[List.cons.injEq,and_true]at h
  obtain⟨rfl,rfl,rfl,rfl⟩:=h
  simp only[UInt8.toNat_ofNat']
  omega
def iC (a b:Nat):Bool:=decide (a%16=8)&&(decide (a/16≤7)&&(decide ((256*a+b)%31=0)&&decide (b/32%2=0)))
theorem Dz {b:Nat} (h:b<256):bits .and .u8 (b:Int) 32=((b/32%2*32:Nat):Int):=by
 have:∀b:Nat,b<256→bits .and .u8 (b:Int) 32=((b/32%2*32:Nat):Int):=by decide +kernel
 exact this b h
theorem auP (a b:UInt8):aP Tryz.prog 69 [.int .u8 a.toNat,.int .u8 b.toNat] (.bool (iC a.toNat b.toNat)):=by
 refine Cod.auQ (fun E R hN hR=>?_)
 have ha:=a.toNat_lt
 have hb:=b.toNat_lt
 have e1:=Ca a
 have e2:=B9 a
 have e3:=abj (x:=a.toNat) (b:=b.toNat) (by omega) hb
 have e4:((256*a.toNat+b.toNat:Nat):Int).tmod 31=(((256*a.toNat+b.toNat)%31:Nat):Int):=by rw[gM (by omega)];omega
 have e5:=Dz hb
 unfold iC at hR
 generalize a.toNat=x at *
 generalize b.toNat=y at *
 by_cases h1:x%16=8
 ·by_cases h2:x/16≤7
  ·by_cases h3:(256*x+y)%31=0
   ·by_cases h4:y/32%2=0
    ·rw[decide_eq_true h1,decide_eq_true h2,decide_eq_true h3,decide_eq_true h4]at hR
     rw[h1]at e1
     rw[h3]at e4
     rw[h4]at e5
     refine cO e1 e2 e3 e4 e5 ?_
     refine my e1 e2 e3 e4 e5 ?_
     exact hR.ro ⟨rfl,rfl⟩
    ·rw[decide_eq_true h1,decide_eq_true h2,decide_eq_true h3,decide_eq_false h4]at hR
     rw[h1]at e1
     rw[h3]at e4
     rw[show y/32%2=1 by omega]at e5
     refine cO e1 e2 e3 e4 e5 ?_
     refine my e1 e2 e3 e4 e5 ?_
     exact hR.ro ⟨rfl,rfl⟩
   ·rw[decide_eq_true h1,decide_eq_true h2,decide_eq_false h3]at hR
    rw[h1]at e1
    have hi:¬(((256*x+y)%31:Nat):Int)=0:=by omega
    refine cO e1 e2 e3 e4 hi ?_
    refine my e1 e2 e3 e4 hi ?_
    exact hR.ro ⟨rfl,rfl⟩
  ·rw[decide_eq_true h1,decide_eq_false h2]at hR
   rw[h1]at e1
   have hi:¬((x/16:Nat):Int)≤7:=by omega
   refine cL e1 e2 hi ?_
   refine fM e1 e2 hi ?_
   exact hR.ro ⟨rfl,rfl⟩
 ·rw[decide_eq_false h1]at hR
  have hi:¬((x%16:Nat):Int)=8:=by omega
  refine bH e1 hi ?_
  refine dY e1 hi ?_
  exact hR.ro ⟨rfl,rfl⟩
theorem ajs (x y:Nat) (hx:x<256) (hy:y<256):aP Tryz.prog 49 [.int .i64 x,.int .i64 y] (.bool (iC x y)):=by
 refine Cod.ajt (fun E R hN hR=>?_)
 have e1:(x:Int).tmod 16=((x%16:Nat):Int):=by rw[gM (by omega)];omega
 have e2:(x:Int).tdiv 16=((x/16:Nat):Int):=by rw[jT (by omega)];omega
 have e4:(256*(x:Int)+(y:Int)).tmod 31=(((256*x+y)%31:Nat):Int):=by rw[gM (by omega)];omega
 have e5:(y:Int).tdiv 32=((y/32:Nat):Int):=by rw[jT (by omega)];omega
 have e6:((y/32:Nat):Int).tmod 2=((y/32%2:Nat):Int):=by rw[gM (by omega)];omega
 unfold iC at hR
 by_cases h1:x%16=8
 ·by_cases h2:x/16≤7
  ·by_cases h3:(256*x+y)%31=0
   ·by_cases h4:y/32%2=0
    ·rw[decide_eq_true h1,decide_eq_true h2,decide_eq_true h3,decide_eq_true h4]at hR
     rw[h1]at e1
     rw[h3]at e4
     rw[h4]at e6
     refine cO e1 e2 e4 e5 e6 ?_
     refine my e1 e2 e4 e5 e6 ?_
     exact hR.ro ⟨rfl,rfl⟩
    ·rw[decide_eq_true h1,decide_eq_true h2,decide_eq_true h3,decide_eq_false h4]at hR
     rw[h1]at e1
     rw[h3]at e4
     rw[show y/32%2=1 by omega]at e6
     refine cO e1 e2 e4 e5 e6 ?_
     refine my e1 e2 e4 e5 e6 ?_
     exact hR.ro ⟨rfl,rfl⟩
   ·rw[decide_eq_true h1,decide_eq_true h2,decide_eq_false h3]at hR
    rw[h1]at e1
    have hi:¬(((256*x+y)%31:Nat):Int)=0:=by omega
    refine ea e1 e2 e4 hi ?_
    refine lv e1 e2 e4 hi ?_
    exact hR.ro ⟨rfl,rfl⟩
  ·rw[decide_eq_true h1,decide_eq_false h2]at hR
   rw[h1]at e1
   have hi:¬((x/16:Nat):Int)≤7:=by omega
   refine cL e1 e2 hi ?_
   refine fM e1 e2 hi ?_
   exact hR.ro ⟨rfl,rfl⟩
 ·rw[decide_eq_false h1]at hR
  have hi:¬((x%16:Nat):Int)=8:=by omega
  refine bH e1 hi ?_
  refine dY e1 hi ?_
  exact hR.ro ⟨rfl,rfl⟩
end Go.Proofs.YtlkmppkcbhodaaaGreatDoor.Pk
namespace Go.Proofs.YtlkmppkcbhodaaaGreatDoor.Cod
open Eng Eng.Kz
set_option maxRecDepth 100000
abbrev Gl:AK:=.seq (.aa [m 10 0,m 11 1,m 12 1,.v 13 (.cM [.str [],.int .i64 0,.int .u64 0,.int .i64 0,.int .i64 0] [(0,1,(.t 10)),(1,1,(.t 11)),(4,1,(.t 12))]),.eff 14 false 40014 (.box 5 (.t 13)),m 4 14] [4]) .ret
abbrev Gk:AK:=.seq (.aa [m 5 1,m 6 0,.v 7 (.len true (.t 6)),.v 8 (.mm false (.t 5) (.t 7)),.v 9 (.mm true (ci 0) (.t 8)),m 1 9] [0,1]) Gl
abbrev Gj:AK:=.seq (.aa [k 4 (.c (.lit (.pointer none)))] [0,1]) Gk
abbrev uX:AK:=Gj
theorem Gm:aB Tryz.prog 119 40000 2 uX [.tmp 4]:=⟨_,Tryz.func119,by kernel_rfl⟩
theorem Gp {h a0 a1 Post} (hp:aD Tryz.prog uX [.tmp 4] 2 [(0,a0),(1,a1)] h Post):Eng.Spec Tryz.prog 119 h [a0,a1] Post:=aG Gm rfl [(0,a0),(1,a1)] ⟨rfl,rfl,trivial⟩ hp
abbrev KK:AK:=.aa [m 51 0,.v 52 (.ao (.t 51)),.v 53 (.ak false 3 1 (.t 52)),.v 54 (.ld false 1 (.t 53)),bi 55 .add 54 8,.v 56 (.ao (.t 51)),.v 57 (.ak false 3 1 (.t 56)),.aM false 41000 (.st 1 (.t 57) (.t 55))] [0,1,2000000,2000001]
abbrev KJ:AK:=.seq (.aa [m 44 0,.v 45 (.ao (.t 44)),.v 46 (.ak false 1 1 (.t 45)),.v 47 (.ld false 1 (.t 46)),bi 48 .add 47 1,.v 49 (.ao (.t 44)),.v 50 (.ak false 1 1 (.t 49)),.aM false 41000 (.st 1 (.t 50) (.t 48))] [0,1,2000000,2000001]) KK
abbrev KI:AK:=.seq (.aa [u 41022 22 (.ah (.t 0)),u 41023 23 (.ao (.t 22)),u 41024 24 (.ak false 2 1 (.t 23)),u 41025 25 (.ld false 1 (.t 24)),u 41026 26 (.ah (.t 0)),u 41027 27 (.ao (.t 26)),u 41028 28 (.ak false 0 1 (.t 27)),u 41029 29 (.ld false 1 (.t 28)),u 41030 30 (.ah (.t 0)),u 41031 31 (.ao (.t 30)),u 41032 32 (.ak false 1 1 (.t 31)),u 41033 33 (.ld false 1 (.t 32)),u 41034 34 (.cv (.t 29) (.t 33)),u 41035 35 (.a6 .u64 (.t 34)),u 41036 36 (.ah (.t 0)),u 41037 37 (.ao (.t 36)),u 41038 38 (.ak false 3 1 (.t 37)),u 41039 39 (.ld false 1 (.t 38)),u 41040 40 (.bin .shl (.t 35) (.t 39)),b 41 .or 25 40,.v 42 (.ao (.t 22)),.v 43 (.ak false 2 1 (.t 42)),.aM false 41000 (.st 1 (.t 43) (.t 41))] [0,1,2000000,2000001]) KJ
abbrev KL:AK:=.seq (.aa [m 4 0,.v 5 (.ao (.t 4)),.v 6 (.ak false 3 1 (.t 5)),.v 7 (.ld false 1 (.t 6)),u 41008 8 (.ah (.t 1)),b 9 .lss 7 8,m 10 9,.af 11 10 true true 41011 (.ah (.t 0)),.af 12 10 true true 41012 (.ao (.t 11)),.af 13 10 true true 41013 (.ak false 1 1 (.t 12)),.af 14 10 true true 41014 (.ld false 1 (.t 13)),.af 15 10 true true 41015 (.ah (.t 0)),.af 16 10 true true 41016 (.ao (.t 15)),.af 17 10 true true 41017 (.ak false 0 1 (.t 16)),.af 18 10 true true 41018 (.ld false 1 (.t 17)),.af 19 10 true true 41019 (.len true (.t 18)),.af 20 10 true false 41020 (.bin .lss (.t 14) (.t 19)),.v 21 (.pick (.t 10) (.t 20) (.c (.bool false)))] [0,1,21,2000000,2000001]) (.cond (.t 21) .skip (.exit 0))
abbrev KH:AK:=.seq KL (.block 1 KI)
abbrev KM:AK:=.loop KH
abbrev fill:AK:=(.block 0 KM)
theorem KO:aB Tryz.prog 202 41000 2 fill []:=⟨_,Tryz.func202,by kernel_rfl⟩
theorem KP {h a0 a1 Post} (hp:aD Tryz.prog fill [] 2 [(0,a0),(1,a1),(2000000,a0),(2000001,a1)] h Post):Eng.Spec Tryz.prog 202 h [a0,a1] Post:=aG KO rfl [(0,a0),(1,a1),(2000000,a0),(2000001,a1)] ⟨rfl,rfl,rfl,rfl,trivial⟩ hp
abbrev abB:AK:=.seq (.aa [u 42015 15 (.ah (.t 0)),u 42016 16 (.ao (.t 15)),u 42017 17 (.ak false 2 1 (.t 16)),u 42018 18 (.ld false 1 (.t 17)),u 42019 19 (.ah (.t 1)),u 42020 20 (.bin .shl (.c (.int .u64 1)) (.t 19)),u 42021 21 (.bin .sub (.t 20) (.c (.int .u64 1))),u 42022 22 (.bin .and (.t 18) (.t 21)),u 42023 23 (.a6 .u32 (.t 22)),u 42024 24 (.ah (.t 1)),u 42025 25 (.ah (.t 0)),u 42026 26 (.ao (.t 25)),u 42027 27 (.ak false 3 1 (.t 26)),u 42028 28 (.ld false 1 (.t 27)),u 42029 29 (.mm false (.t 24) (.t 28)),u 42004 4 (.ah (.t 23)),m 5 29] [4,5,2000000,2000001]) .ret
abbrev abA:AK:=.seq (.aa [m 12 0,m 13 1,.ai (some 14) false 42014 202 [(.t 12),(.t 13)]] [0,1,2000000,2000001]) abB
abbrev abD:AK:=.seq (.aa [k 4 (.c (.int .u32 0)),k 5 (ci 0)] [4,5,2000000,2000001]) .ret
abbrev abC:AK:=.seq (.aa [m 6 1,bi 7 .lss 6 0,m 8 7,.af 9 8 false false 42009 (.ah (.t 1)),.af 10 8 false false 42010 (.bin .gtr (.t 9) (ci 32)),.v 11 (.pick (.t 8) (.c (.bool true)) (.t 10))] [0,1,11,2000000,2000001]) (.cond (.t 11) abD .skip)
abbrev abz:AK:=.seq abC abA
abbrev aby:AK:=.seq (.aa [k 4 (.c (.int .u32 0)),k 5 (ci 0)] [0,1,2000000,2000001]) abz
abbrev zg:AK:=aby
theorem abE:aB Tryz.prog 183 42000 2 zg [.tmp 4,.tmp 5]:=⟨_,Tryz.func183,by kernel_rfl⟩
theorem abG {h a0 a1 Post} (hp:aD Tryz.prog zg [.tmp 4,.tmp 5] 2 [(0,a0),(1,a1),(2000000,a0),(2000001,a1)] h Post):Eng.Spec Tryz.prog 183 h [a0,a1] Post:=aG abE rfl [(0,a0),(1,a1),(2000000,a0),(2000001,a1)] ⟨rfl,rfl,rfl,rfl,trivial⟩ hp
abbrev ape:AK:=.seq (.aa [k 4 (.c (.bool true))] [4,2000000,2000001]) .ret
abbrev apd:AK:=.seq (.aa [m 28 0,.v 29 (.ao (.t 28)),.v 30 (.ak false 3 1 (.t 29)),.v 31 (.ld false 1 (.t 30)),m 32 1,b 33 .sub 31 32,.v 34 (.ao (.t 28)),.v 35 (.ak false 3 1 (.t 34)),.aM false 43000 (.st 1 (.t 35) (.t 33))] [2000000,2000001]) ape
abbrev apc:AK:=.seq (.aa [m 20 0,.v 21 (.ao (.t 20)),.v 22 (.ak false 2 1 (.t 21)),.v 23 (.ld false 1 (.t 22)),m 24 1,b 25 .shr 23 24,.v 26 (.ao (.t 20)),.v 27 (.ak false 2 1 (.t 26)),.aM false 43000 (.st 1 (.t 27) (.t 25))] [0,1,2000000,2000001]) apd
abbrev apg:AK:=.seq (.aa [k 4 (.c (.bool false))] [4,2000000,2000001]) .ret
abbrev apf:AK:=.seq (.aa [m 14 0,.v 15 (.ao (.t 14)),.v 16 (.ak false 3 1 (.t 15)),.v 17 (.ld false 1 (.t 16)),m 18 1,b 19 .lss 17 18] [0,1,19,2000000,2000001]) (.cond (.t 19) apg .skip)
abbrev apb:AK:=.seq apf apc
abbrev apa:AK:=.seq (.aa [m 11 0,m 12 1,.ai (some 13) false 43013 202 [(.t 11),(.t 12)]] [0,1,2000000,2000001]) apb
abbrev ao9:AK:=.seq (.aa [k 4 (.c (.bool false))] [4,2000000,2000001]) .ret
abbrev ao8:AK:=.seq (.aa [m 5 1,bi 6 .lss 5 0,m 7 6,.af 8 7 false false 43008 (.ah (.t 1)),.af 9 7 false false 43009 (.bin .gtr (.t 8) (ci 32)),.v 10 (.pick (.t 7) (.c (.bool true)) (.t 9))] [0,1,10,2000000,2000001]) (.cond (.t 10) ao9 .skip)
abbrev ao7:AK:=.seq ao8 apa
abbrev ao6:AK:=.seq (.aa [k 4 (.c (.bool false))] [0,1,2000000,2000001]) ao7
abbrev skip:AK:=ao6
theorem aph:aB Tryz.prog 184 43000 2 skip [.tmp 4]:=⟨_,Tryz.func184,by kernel_rfl⟩
theorem apj {h a0 a1 Post} (hp:aD Tryz.prog skip [.tmp 4] 2 [(0,a0),(1,a1),(2000000,a0),(2000001,a1)] h Post):Eng.Spec Tryz.prog 184 h [a0,a1] Post:=aG aph rfl [(0,a0),(1,a1),(2000000,a0),(2000001,a1)] ⟨rfl,rfl,rfl,rfl,trivial⟩ hp
abbrev akt:AK:=.seq (.aa [m 18 6,m 4 18,k 5 (.c (.bool true))] [4,5,2000000,2000001]) .ret
abbrev akv:AK:=.seq (.aa [k 4 (.c (.int .u32 0)),k 5 (.c (.bool false))] [4,5,2000000,2000001]) .ret
abbrev aku:AK:=.seq (.aa [m 14 0,m 15 1,.ai (some 16) false 44016 184 [(.t 14),(.t 15)],.v 17 (.un .not (.t 16))] [6,17,2000000,2000001]) (.cond (.t 17) akv .skip)
abbrev aks:AK:=.seq aku akt
abbrev akr:AK:=.seq (.aa [m 9 0,m 10 1,.ai (some 11) false 44011 183 [(.t 9),(.t 10)],m 8 11,.v 12 (.ext (.t 8) 0),.v 13 (.ext (.t 8) 1),m 6 12,m 7 13] [0,1,6,2000000,2000001]) aks
abbrev akq:AK:=.seq (.aa [k 4 (.c (.int .u32 0)),k 5 (.c (.bool false))] [0,1,2000000,2000001]) akr
abbrev Au:AK:=akq
theorem akw:aB Tryz.prog 161 44000 2 Au [.tmp 4,.tmp 5]:=⟨_,Tryz.func161,by kernel_rfl⟩
theorem akx {h a0 a1 Post} (hp:aD Tryz.prog Au [.tmp 4,.tmp 5] 2 [(0,a0),(1,a1),(2000000,a0),(2000001,a1)] h Post):Eng.Spec Tryz.prog 161 h [a0,a1] Post:=aG akw rfl [(0,a0),(1,a1),(2000000,a0),(2000001,a1)] ⟨rfl,rfl,rfl,rfl,trivial⟩ hp
abbrev aki:AK:=.aa [m 16 0,.v 17 (.ao (.t 16)),.v 18 (.ak false 3 1 (.t 17)),.v 19 (.ld false 1 (.t 18)),m 20 2,b 21 .sub 19 20,.v 22 (.ao (.t 16)),.v 23 (.ak false 3 1 (.t 22)),.aM false 45000 (.st 1 (.t 23) (.t 21))] [2000000]
abbrev akh:AK:=.seq (.aa [m 8 0,.v 9 (.ao (.t 8)),.v 10 (.ak false 2 1 (.t 9)),.v 11 (.ld false 1 (.t 10)),m 12 2,b 13 .shr 11 12,.v 14 (.ao (.t 8)),.v 15 (.ak false 2 1 (.t 14)),.aM false 45000 (.st 1 (.t 15) (.t 13))] [0,2,2000000]) aki
abbrev akg:AK:=.seq (.aa [m 3 0,.v 4 (.ao (.t 3)),.v 5 (.ak false 3 1 (.t 4)),.v 6 (.ld false 1 (.t 5)),bi 7 .rem 6 8,m 2 7] [0,2,2000000]) akh
abbrev An:AK:=akg
theorem akj:aB Tryz.prog 203 45000 1 An []:=⟨_,Tryz.func203,by kernel_rfl⟩
theorem akl {h a0 Post} (hp:aD Tryz.prog An [] 1 [(0,a0),(2000000,a0)] h Post):Eng.Spec Tryz.prog 203 h [a0] Post:=aG akj rfl [(0,a0),(2000000,a0)] ⟨rfl,rfl,trivial⟩ hp
abbrev akD:AK:=.seq (.aa [m 44 0,.v 45 (.ao (.t 44)),.v 46 (.ak false 0 1 (.t 45)),.v 47 (.ld false 1 (.t 46)),m 48 6,m 49 6,m 50 1,b 51 .add 49 50,.v 52 (.cy (.t 47) (some (.t 48)) (some (.t 51))),m 4 52,k 5 (.c (.bool true))] [4,5,2000000,2000001]) .ret
abbrev akC:AK:=.seq (.aa [m 32 0,m 33 0,m 34 0,m 35 6,m 36 1,b 37 .add 35 36,.v 38 (.ao (.t 32)),.v 39 (.ak false 1 1 (.t 38)),.aM false 46000 (.st 1 (.t 39) (.t 37)),.v 40 (.ao (.t 33)),.v 41 (.ak false 2 1 (.t 40)),.aM false 46000 (.st 1 (.t 41) (.c (.int .u64 0))),.v 42 (.ao (.t 34)),.v 43 (.ak false 3 1 (.t 42)),.aM false 46000 (.st 1 (.t 43) (ci 0))] [0,1,6,2000000,2000001]) akD
abbrev akF:AK:=.seq (.aa [k 4 (.c (.str [])),k 5 (.c (.bool false))] [4,5,2000000,2000001]) .ret
abbrev akE:AK:=.seq (.aa [m 19 1,bi 20 .lss 19 0,m 21 20,.af 22 21 false false 46022 (.ah (.t 1)),.af 23 21 false false 46023 (.ah (.t 0)),.af 24 21 false false 46024 (.ao (.t 23)),.af 25 21 false false 46025 (.ak false 0 1 (.t 24)),.af 26 21 false false 46026 (.ld false 1 (.t 25)),.af 27 21 false false 46027 (.len true (.t 26)),.af 28 21 false false 46028 (.ah (.t 6)),.af 29 21 false false 46029 (.bin .sub (.t 27) (.t 28)),.af 30 21 false false 46030 (.bin .gtr (.t 22) (.t 29)),.v 31 (.pick (.t 21) (.c (.bool true)) (.t 30))] [0,1,6,31,2000000,2000001]) (.cond (.t 31) akF .skip)
abbrev akB:AK:=.seq akE akC
abbrev akA:AK:=.seq (.aa [u 46009 9 (.ah (.t 0)),u 46010 10 (.ao (.t 9)),u 46011 11 (.ak false 1 1 (.t 10)),u 46012 12 (.ld false 1 (.t 11)),u 46013 13 (.ah (.t 0)),u 46014 14 (.ao (.t 13)),u 46015 15 (.ak false 3 1 (.t 14)),u 46016 16 (.ld false 1 (.t 15)),u 46017 17 (.bin .quo (.t 16) (ci 8)),b 18 .sub 12 17,m 6 18] [0,1,6,2000000,2000001]) akB
abbrev akz:AK:=.seq (.aa [m 7 0,.ai (some 8) false 46008 203 [(.t 7)]] [0,1,2000000,2000001]) akA
abbrev aky:AK:=.seq (.aa [k 4 (.c (.str [])),k 5 (.c (.bool false))] [0,1,2000000,2000001]) akz
abbrev Av:AK:=aky
theorem akG:aB Tryz.prog 185 46000 2 Av [.tmp 4,.tmp 5]:=⟨_,Tryz.func185,by kernel_rfl⟩
theorem akH {h a0 a1 Post} (hp:aD Tryz.prog Av [.tmp 4,.tmp 5] 2 [(0,a0),(1,a1),(2000000,a0),(2000001,a1)] h Post):Eng.Spec Tryz.prog 185 h [a0,a1] Post:=aG akG rfl [(0,a0),(1,a1),(2000000,a0),(2000001,a1)] ⟨rfl,rfl,rfl,rfl,trivial⟩ hp
abbrev anT:AK:=.seq (.aa [u 47003 3 (.ah (.t 0)),u 47004 4 (.ao (.t 3)),u 47005 5 (.ak false 1 1 (.t 4)),u 47006 6 (.ld false 1 (.t 5)),u 47007 7 (.ah (.t 0)),u 47008 8 (.ao (.t 7)),u 47009 9 (.ak false 3 1 (.t 8)),u 47010 10 (.ld false 1 (.t 9)),u 47011 11 (.bin .quo (.t 10) (ci 8)),u 47012 12 (.bin .sub (.t 6) (.t 11)),u 47013 13 (.ah (.t 0)),u 47014 14 (.ao (.t 13)),u 47015 15 (.ak false 4 1 (.t 14)),u 47016 16 (.ld false 1 (.t 15)),b 17 .sub 12 16,m 2 17] [2,2000000]) .ret
abbrev anS:AK:=.seq (.aa [k 2 (ci 0)] [0,2000000]) anT
abbrev Bd:AK:=anS
theorem anV:aB Tryz.prog 121 47000 1 Bd [.tmp 2]:=⟨_,Tryz.func121,by kernel_rfl⟩
theorem anW {h a0 Post} (hp:aD Tryz.prog Bd [.tmp 2] 1 [(0,a0),(2000000,a0)] h Post):Eng.Spec Tryz.prog 121 h [a0] Post:=aG anV rfl [(0,a0),(2000000,a0)] ⟨rfl,rfl,trivial⟩ hp
abbrev alK:AK:=.seq (.aa [u 48003 3 (.ah (.t 0)),u 48004 4 (.ao (.t 3)),u 48005 5 (.ak false 0 1 (.t 4)),u 48006 6 (.ld false 1 (.t 5)),u 48007 7 (.len true (.t 6)),u 48008 8 (.ah (.t 0)),u 48009 9 (.ao (.t 8)),u 48010 10 (.ak false 1 1 (.t 9)),u 48011 11 (.ld false 1 (.t 10)),u 48012 12 (.bin .sub (.t 7) (.t 11)),u 48013 13 (.bin .mul (ci 8) (.t 12)),u 48014 14 (.ah (.t 0)),u 48015 15 (.ao (.t 14)),u 48016 16 (.ak false 3 1 (.t 15)),u 48017 17 (.ld false 1 (.t 16)),b 18 .add 13 17,m 2 18] [2,2000000]) .ret
abbrev alJ:AK:=.seq (.aa [k 2 (ci 0)] [0,2000000]) alK
abbrev AJ:AK:=alJ
theorem alM:aB Tryz.prog 187 48000 1 AJ [.tmp 2]:=⟨_,Tryz.func187,by kernel_rfl⟩
theorem alN {h a0 Post} (hp:aD Tryz.prog AJ [.tmp 2] 1 [(0,a0),(2000000,a0)] h Post):Eng.Spec Tryz.prog 187 h [a0] Post:=aG alM rfl [(0,a0),(2000000,a0)] ⟨rfl,rfl,trivial⟩ hp
abbrev Om:AK:=.seq (.aa [m 105 4,m 2 105,k 3 (ci 0)] [2,3]) .ret
abbrev NI:AK:=.seq (.aa [k 2 (.c (.lit (.pointer none))),k 3 (ci 4)] [2,3]) .ret
abbrev Oo:AK:=.seq (.aa [m 86 7,bi 87 .gtr 86 0,m 88 87,.af 89 88 true false 49089 (.ah (.t 8)),.af 90 88 true false 49090 (.bin .gtr (.t 89) (ci 0)),.v 91 (.pick (.t 88) (.t 90) (.c (.bool false))),m 92 91,.af 93 92 true false 49093 (.ah (.t 8)),.af 94 92 true false 49094 (.bin .eql (.t 93) (ci 1)),.af 95 92 true false 49095 (.ah (.t 94)),.af 96 95 true false 49096 (.ah (.t 4)),.af 97 95 true false 49097 (.ao (.t 96)),.af 98 95 true false 49098 (.ak true 1 16 (.t 97)),.af 99 95 true false 49099 (.ee 16 1 (.t 98) (ci 1)),.af 100 95 true false 49100 (.ld false 1 (.t 99)),.af 101 95 true false 49101 (.bin .eql (.t 100) (ci 1)),.af 102 92 true false 49102 (.pick (.t 95) (.t 101) (.c (.bool false))),.af 103 92 true false 49103 (.un .not (.t 102)),.v 104 (.pick (.t 92) (.t 103) (.c (.bool false)))] [4,104]) (.cond (.t 104) NI .skip)
abbrev Ol:AK:=.seq Oo Om
abbrev NM:AK:=.aa [m 44 9,bi 45 .add 44 1,m 9 45] [0,4,7,8,9]
abbrev NW:AK:=.aa [bi 85 .add 67 1,m 67 85] [0,4,7,8,9,65,66,67]
abbrev N0:AK:=.aa [m 75 4,m 76 4,.v 77 (.ao (.t 76)),.v 78 (.ak false 17 1 (.t 77)),.v 79 (.ld false 1 (.t 78)),m 80 10,.eff 81 false 49081 (.a8 1 [(.t 80)]),.eff 82 false 49082 (.app 1 8 (.t 79) (.t 81)),.v 83 (.ao (.t 75)),.v 84 (.ak false 17 1 (.t 83)),.aM false 49000 (.st 1 (.t 84) (.t 82))] [0,4,7,8,9,65,66,67]
abbrev NY:AK:=.seq (.aa [m 72 11,m 73 9,b 74 .eql 72 73] [0,4,7,8,9,10,65,66,67,74]) (.cond (.t 74) N0 .skip)
abbrev NX:AK:=.seq (.aa [m 69 67,.v 70 (.aY 1 (.t 65) (.t 67)),.v 71 (.ld false 1 (.t 70)),m 10 69,m 11 71] [0,4,7,8,9,10,11,65,66,67]) NY
abbrev NV:AK:=.seq (.block 5 NX) NW
abbrev NU:AK:=.seq (.cond (.t 68) .skip (.exit 4)) NV
abbrev NT:AK:=.seq (.aa [b 68 .lss 67 66] [0,4,7,8,9,65,66,67,68]) NU
abbrev Ot:AK:=.loop NT
abbrev NS:AK:=.seq (.aa [m 65 0,.v 66 (.len false (.t 65)),k 67 (ci 0)] [0,4,7,8,9,65,66,67]) (.block 4 Ot)
abbrev N2:AK:=.seq (.aa [k 2 (.c (.lit (.pointer none))),k 3 (ci 4)] [2,3]) .ret
abbrev N1:AK:=.seq (.aa [m 63 7,bi 64 .lss 63 0] [0,4,7,8,9,64]) (.cond (.t 64) N2 .skip)
abbrev NQ:AK:=.seq N1 NS
abbrev NP:AK:=.seq (.aa [m 55 8,m 56 4,m 57 9,.v 58 (.ao (.t 56)),.v 59 (.ak true 1 16 (.t 58)),.v 60 (.ee 16 1 (.t 59) (.t 57)),.v 61 (.ld false 1 (.t 60)),b 62 .add 55 61,m 8 62] [0,4,7,8,9]) NQ
abbrev NN:AK:=.seq (.aa [m 46 7,.v 47 (.bin .mul (ci 2) (.t 46)),m 48 4,m 49 9,.v 50 (.ao (.t 48)),.v 51 (.ak true 1 16 (.t 50)),.v 52 (.ee 16 1 (.t 51) (.t 49)),.v 53 (.ld false 1 (.t 52)),b 54 .sub 47 53,m 7 54] [0,4,7,8,9]) NP
abbrev NL:AK:=.seq (.block 3 NN) NM
abbrev N3:AK:=.seq (.aa [m 42 9,bi 43 .leq 42 15] [0,4,7,8,9,43]) (.cond (.t 43) .skip (.exit 2))
abbrev NK:AK:=.seq N3 NL
abbrev Oq:AK:=.loop NK
abbrev NJ:AK:=.seq (.aa [k 9 (ci 1)] [0,4,7,8,9]) (.block 2 Oq)
abbrev Oh:AK:=.seq NJ Ol
abbrev N6:AK:=.seq (.aa [k 7 (ci 1),k 8 (ci 0)] [0,4,7,8]) Oh
abbrev N9:AK:=.aa [bi 41 .add 21 1,m 21 41] [0,4,19,20,21]
abbrev Od:AK:=.aa [m 31 4,u 49032 32 (.ah (.t 6)),u 49033 33 (.ao (.t 31)),u 49034 34 (.ak true 1 16 (.t 33)),u 49035 35 (.ee 16 1 (.t 34) (.t 32)),u 49036 36 (.ld false 1 (.t 35)),u 49037 37 (.bin .add (.t 36) (ci 1)),u 49038 38 (.ao (.t 31)),u 49039 39 (.ak true 1 16 (.t 38)),.v 40 (.ee 16 1 (.t 39) (.t 32)),.aM false 49000 (.st 1 (.t 40) (.t 37))] [0,4,19,20,21]
abbrev Og:AK:=.seq (.aa [k 2 (.c (.lit (.pointer none))),k 3 (ci 1)] [2,3]) .ret
abbrev Oe:AK:=.seq (.aa [m 25 6,bi 26 .lss 25 0,m 27 26,.af 28 27 false false 49028 (.ah (.t 6)),.af 29 27 false false 49029 (.bin .gtr (.t 28) (ci 15)),.v 30 (.pick (.t 27) (.c (.bool true)) (.t 29))] [0,4,6,19,20,21,30]) (.cond (.t 30) Og .skip)
abbrev Oc:AK:=.seq Oe Od
abbrev Oa:AK:=.seq (.aa [.v 23 (.aY 1 (.t 19) (.t 21)),.v 24 (.ld false 1 (.t 23)),m 6 24] [0,4,6,19,20,21]) Oc
abbrev N8:AK:=.seq (.block 1 Oa) N9
abbrev N7:AK:=.seq (.cond (.t 22) .skip (.exit 0)) N8
abbrev N5:AK:=.seq (.aa [b 22 .lss 21 20] [0,4,19,20,21,22]) N7
abbrev Ou:AK:=.loop N5
abbrev N4:AK:=.seq (.aa [m 19 0,.v 20 (.len false (.t 19)),k 21 (ci 0)] [0,4,19,20,21]) (.block 0 Ou)
abbrev NZ:AK:=.seq N4 N6
abbrev NR:AK:=.seq (.aa [m 15 0,.eff 16 false 49016 (.app 1 8 (.c (.al)) (.t 15)),.v 17 (.cM [.al,.int .i64 0,.int .i64 0,.int .i64 0,.int .i64 0,.int .i64 0,.int .i64 0,.int .i64 0,.int .i64 0,.int .i64 0,.int .i64 0,.int .i64 0,.int .i64 0,.int .i64 0,.int .i64 0,.int .i64 0,.int .i64 0,.al] [(0,1,(.t 16))]),.eff 18 false 49018 (.box 18 (.t 17)),m 4 18] [0,4]) NZ
abbrev Oj:AK:=.seq (.aa [k 2 (.c (.lit (.pointer none))),k 3 (ci 2)] [2,3]) .ret
abbrev Oi:AK:=.seq (.aa [m 12 0,.v 13 (.len false (.t 12)),bi 14 .gtr 13 320] [0,14]) (.cond (.t 14) Oj .skip)
abbrev NH:AK:=.seq Oi NR
abbrev NG:AK:=.seq (.aa [k 2 (.c (.lit (.pointer none))),k 3 (ci 0)] [0]) NH
abbrev pf:AK:=NG
theorem Ov:aB Tryz.prog 176 49000 1 pf [.tmp 2,.tmp 3]:=⟨_,Tryz.func176,by kernel_rfl⟩
theorem Ow {h a0 Post} (hp:aD Tryz.prog pf [.tmp 2,.tmp 3] 1 [(0,a0)] h Post):Eng.Spec Tryz.prog 176 h [a0] Post:=aG Ov rfl [(0,a0)] ⟨rfl,trivial⟩ hp
abbrev OU:AK:=.seq (.aa [k 4 (ci 0),k 5 (ci 3)] [4,5,2000000,2000001]) .ret
abbrev OY:AK:=.aa [m 21 9,bi 22 .add 21 1,m 9 22] [0,1,6,7,8,9,2000000,2000001]
abbrev OH:AK:=.seq (.aa [m 72 8,m 73 0,.v 74 (.ao (.t 73)),.v 75 (.ak false 17 1 (.t 74)),.v 76 (.ld false 1 (.t 75)),.v 77 (.len false (.t 76)),b 78 .eql 72 77] [0,1,6,7,8,9,78,2000000,2000001]) (.cond (.t 78) (.exit 0) .skip)
abbrev OG:AK:=.seq (.aa [m 63 7,m 64 0,m 65 9,.v 66 (.ao (.t 64)),.v 67 (.ak true 1 16 (.t 66)),.v 68 (.ee 16 1 (.t 67) (.t 65)),.v 69 (.ld false 1 (.t 68)),b 70 .add 63 69,.v 71 (.bin .shl (.t 70) (.c (.int .u64 1))),m 7 71] [0,1,6,7,8,9,2000000,2000001]) OH
abbrev OE:AK:=.seq (.aa [m 55 8,m 56 0,m 57 9,.v 58 (.ao (.t 56)),.v 59 (.ak true 1 16 (.t 58)),.v 60 (.ee 16 1 (.t 59) (.t 57)),.v 61 (.ld false 1 (.t 60)),b 62 .add 55 61,m 8 62] [0,1,6,7,8,9,2000000,2000001]) OG
abbrev OL:AK:=.seq (.aa [m 46 0,.v 47 (.ao (.t 46)),.v 48 (.ak false 17 1 (.t 47)),.v 49 (.ld false 1 (.t 48)),m 50 8,m 51 12,b 52 .add 50 51,.v 53 (.aY 1 (.t 49) (.t 52)),.v 54 (.ld false 1 (.t 53)),m 4 54,k 5 (ci 0)] [4,5,2000000,2000001]) .ret
abbrev OK:AK:=.seq (.aa [m 38 12,m 39 0,m 40 9,.v 41 (.ao (.t 39)),.v 42 (.ak true 1 16 (.t 41)),.v 43 (.ee 16 1 (.t 42) (.t 40)),.v 44 (.ld false 1 (.t 43)),b 45 .lss 38 44] [0,1,6,7,8,9,12,45,2000000,2000001]) (.cond (.t 45) OL .skip)
abbrev OI:AK:=.seq (.aa [m 35 6,m 36 7,b 37 .sub 35 36,m 12 37] [0,1,6,7,8,9,12,2000000,2000001]) OK
abbrev OD:AK:=.seq OI OE
abbrev OC:AK:=.seq (.aa [m 30 6,.v 31 (.bin .shl (.t 30) (.c (.int .u64 1))),m 32 10,.v 33 (.a6 .i64 (.t 32)),b 34 .or 31 33,m 6 34] [0,1,6,7,8,9,2000000,2000001]) OD
abbrev OO:AK:=.seq (.aa [k 4 (ci 0),k 5 (ci 6)] [4,5,2000000,2000001]) .ret
abbrev OM:AK:=.seq (.aa [m 28 11,.v 29 (.un .not (.t 28))] [0,1,6,7,8,9,10,29,2000000,2000001]) (.cond (.t 29) OO .skip)
abbrev OB:AK:=.seq OM OC
abbrev OA:AK:=.seq (.aa [m 24 1,.ai (some 25) false 50025 161 [(.t 24),(ci 1)],m 23 25,.v 26 (.ext (.t 23) 0),.v 27 (.ext (.t 23) 1),m 10 26,m 11 27] [0,1,6,7,8,9,10,11,2000000,2000001]) OB
abbrev OX:AK:=.seq (.block 1 OA) OY
abbrev OP:AK:=.seq (.aa [m 19 9,bi 20 .leq 19 15] [0,1,6,7,8,9,20,2000000,2000001]) (.cond (.t 20) .skip (.exit 0))
abbrev OW:AK:=.seq OP OX
abbrev OZ:AK:=.loop OW
abbrev OV:AK:=.seq (.aa [k 9 (ci 1)] [0,1,6,7,8,9,2000000,2000001]) (.block 0 OZ)
abbrev OS:AK:=.seq OV OU
abbrev OJ:AK:=.seq (.aa [k 6 (ci 0),k 7 (ci 0),k 8 (ci 0)] [0,1,6,7,8,2000000,2000001]) OS
abbrev OT:AK:=.seq (.aa [k 4 (ci 0),k 5 (ci 3)] [4,5,2000000,2000001]) .ret
abbrev OQ:AK:=.seq (.aa [m 13 0,.v 14 (.ao (.t 13)),.v 15 (.ak false 17 1 (.t 14)),.v 16 (.ld false 1 (.t 15)),.v 17 (.len false (.t 16)),bi 18 .eql 17 0] [0,1,18,2000000,2000001]) (.cond (.t 18) OT .skip)
abbrev Oz:AK:=.seq OQ OJ
abbrev Oy:AK:=.seq (.aa [k 4 (ci 0),k 5 (ci 0)] [0,1,2000000,2000001]) Oz
abbrev dv:AK:=Oy
theorem O0:aB Tryz.prog 164 50000 2 dv [.tmp 4,.tmp 5]:=⟨_,Tryz.func164,by kernel_rfl⟩
theorem O1 {h a0 a1 Post} (hp:aD Tryz.prog dv [.tmp 4,.tmp 5] 2 [(0,a0),(1,a1),(2000000,a0),(2000001,a1)] h Post):Eng.Spec Tryz.prog 164 h [a0,a1] Post:=aG O0 rfl [(0,a0),(1,a1),(2000000,a0),(2000001,a1)] ⟨rfl,rfl,rfl,rfl,trivial⟩ hp
abbrev acE:AK:=.seq (.aa [m 27 3,m 2 27] [2]) .ret
abbrev acI:AK:=.aa [m 11 4,bi 12 .add 11 1,m 4 12] [0,3,4]
abbrev acz:AK:=.aa [m 15 5,bi 16 .add 15 1,m 5 16] [0,3,4,5]
abbrev acA:AK:=.aa [m 17 3,m 18 0,m 19 4,.v 20 (.cv (.t 18) (.t 19)),m 21 5,b 22 .shr 20 21,.v 23 (.bin .and (.t 22) (.c (.int .u8 1))),.v 24 (.bin .eql (.t 23) (.c (.int .u8 1))),.eff 25 false 51025 (.a8 1 [(.t 24)]),.eff 26 false 51026 (.app 1 1 (.t 17) (.t 25)),m 3 26] [0,3,4,5]
abbrev acy:AK:=.seq (.block 3 acA) acz
abbrev acB:AK:=.seq (.aa [m 13 5,bi 14 .lss 13 8] [0,3,4,5,14]) (.cond (.t 14) .skip (.exit 2))
abbrev acx:AK:=.seq acB acy
abbrev acK:AK:=.loop acx
abbrev acw:AK:=.seq (.aa [k 5 (ci 0)] [0,3,4,5]) (.block 2 acK)
abbrev acH:AK:=.seq (.block 1 acw) acI
abbrev acC:AK:=.seq (.aa [m 7 4,m 8 0,.v 9 (.len true (.t 8)),b 10 .lss 7 9] [0,3,4,10]) (.cond (.t 10) .skip (.exit 0))
abbrev acG:AK:=.seq acC acH
abbrev acJ:AK:=.loop acG
abbrev acF:AK:=.seq (.aa [k 4 (ci 0)] [0,3,4]) (.block 0 acJ)
abbrev acD:AK:=.seq acF acE
abbrev acv:AK:=.seq (.aa [.eff 6 false 51006 (.a8 1 []),m 3 6] [0,3]) acD
abbrev acu:AK:=.seq (.aa [k 2 (.c (.al))] [0]) acv
abbrev zr:AK:=acu
theorem acL:aB Tryz.prog 92 51000 1 zr [.tmp 2]:=⟨_,Tryz.func92,by kernel_rfl⟩
theorem acN {h a0 Post} (hp:aD Tryz.prog zr [.tmp 2] 1 [(0,a0)] h Post):Eng.Spec Tryz.prog 92 h [a0] Post:=aG acL rfl [(0,a0)] ⟨rfl,trivial⟩ hp
abbrev acV:AK:=.seq (.aa [m 20 3,m 2 20] [2]) .ret
abbrev acZ:AK:=.aa [m 10 4,bi 11 .sub 10 1,m 4 11] [0,3,4]
abbrev acS:AK:=.aa [m 18 3,.v 19 (.bin .add (.t 18) (.c (.int .u32 1))),m 3 19] [0,3,4]
abbrev acR:AK:=.seq (.aa [m 14 0,m 15 4,.v 16 (.aY 1 (.t 14) (.t 15)),.v 17 (.ld false 1 (.t 16))] [0,3,4,17]) (.cond (.t 17) acS .skip)
abbrev acQ:AK:=.seq (.aa [m 12 3,.v 13 (.bin .mul (.c (.int .u32 2)) (.t 12)),m 3 13] [0,3,4]) acR
abbrev acY:AK:=.seq (.block 1 acQ) acZ
abbrev acT:AK:=.seq (.aa [m 8 4,bi 9 .geq 8 0] [0,3,4,9]) (.cond (.t 9) .skip (.exit 0))
abbrev acX:AK:=.seq acT acY
abbrev ac0:AK:=.loop acX
abbrev acW:AK:=.seq (.aa [m 5 0,.v 6 (.len false (.t 5)),bi 7 .sub 6 1,m 4 7] [0,3,4]) (.block 0 ac0)
abbrev acU:AK:=.seq acW acV
abbrev acP:AK:=.seq (.aa [k 3 (.c (.int .u32 0))] [0,3]) acU
abbrev acO:AK:=.seq (.aa [k 2 (.c (.int .u32 0))] [0]) acP
abbrev zt:AK:=acO
theorem ac1:aB Tryz.prog 143 52000 1 zt [.tmp 2]:=⟨_,Tryz.func143,by kernel_rfl⟩
theorem ac3 {h a0 Post} (hp:aD Tryz.prog zt [.tmp 2] 1 [(0,a0)] h Post):Eng.Spec Tryz.prog 143 h [a0] Post:=aG ac1 rfl [(0,a0)] ⟨rfl,trivial⟩ hp
abbrev ac5:AK:=.seq (.aa [m 3 0,bi 4 .add 3 7,bi 5 .quo 4 8,bi 6 .mul 5 8,m 2 6] [2]) .ret
abbrev ac4:AK:=.seq (.aa [k 2 (ci 0)] [0]) ac5
abbrev zu:AK:=ac4
theorem ac6:aB Tryz.prog 99 53000 1 zu [.tmp 2]:=⟨_,Tryz.func99,by kernel_rfl⟩
theorem ac7 {h a0 Post} (hp:aD Tryz.prog zu [.tmp 2] 1 [(0,a0)] h Post):Eng.Spec Tryz.prog 99 h [a0] Post:=aG ac6 rfl [(0,a0)] ⟨rfl,trivial⟩ hp
abbrev adU:AK:=.seq (.aa [k 2 (ci 0)] [2]) .ret
abbrev adW:AK:=.seq (.aa [k 2 (ci 4)] [2]) .ret
abbrev adV:AK:=.seq (.aa [m 44 3,bi 45 .gtr 44 32768,m 46 45,.af 47 46 false false 54047 (.ah (.t 3)),.af 48 46 false false 54048 (.bin .lss (.t 47) (ci 32768)),.af 49 46 false false 54049 (.ah (.t 48)),.af 50 49 true false 54050 (.ah (.t 4)),.af 51 49 true false 54051 (.bin .gtr (.t 50) (ci 0)),.af 52 46 false false 54052 (.pick (.t 49) (.t 51) (.c (.bool false))),.af 53 46 false false 54053 (.ah (.t 52)),.af 54 53 true false 54054 (.ah (.t 4)),.af 55 53 true false 54055 (.bin .eql (.t 54) (ci 1)),.af 56 53 true false 54056 (.ah (.t 55)),.af 57 56 true false 54057 (.ah (.t 5)),.af 58 56 true false 54058 (.bin .eql (.t 57) (ci 1)),.af 59 53 true false 54059 (.pick (.t 56) (.t 58) (.c (.bool false))),.af 60 53 true false 54060 (.un .not (.t 59)),.af 61 46 false false 54061 (.pick (.t 53) (.t 60) (.c (.bool false))),.v 62 (.pick (.t 46) (.c (.bool true)) (.t 61))] [62]) (.cond (.t 62) adW .skip)
abbrev adR:AK:=.seq adV adU
abbrev adw:AK:=.aa [bi 43 .add 15 1,m 15 43] [3,4,5,13,14,15]
abbrev adC:AK:=.aa [m 41 5,bi 42 .add 41 1,m 5 42] [3,4,5,13,14,15]
abbrev adA:AK:=.seq (.aa [m 39 7,bi 40 .eql 39 1] [3,4,5,13,14,15,40]) (.cond (.t 40) adC .skip)
abbrev adH:AK:=.aa [m 36 3,m 37 8,b 38 .add 36 37,m 3 38] [3,4,5,7,13,14,15]
abbrev adM:AK:=.aa [m 32 9,bi 33 .add 32 1,m 9 33] [3,4,5,7,8,9,13,14,15]
abbrev adN:AK:=.aa [m 34 8,bi 35 .quo 34 2,m 8 35] [3,4,5,7,8,9,13,14,15]
abbrev adL:AK:=.seq (.block 3 adN) adM
abbrev adO:AK:=.seq (.aa [m 29 9,m 30 7,b 31 .lss 29 30] [3,4,5,7,8,9,13,14,15,31]) (.cond (.t 31) .skip (.exit 2))
abbrev adK:AK:=.seq adO adL
abbrev adZ:AK:=.loop adK
abbrev adI:AK:=.seq (.aa [k 9 (ci 0)] [3,4,5,7,8,9,13,14,15]) (.block 2 adZ)
abbrev adG:AK:=.seq adI adH
abbrev adF:AK:=.seq (.aa [k 8 (ci 32768)] [3,4,5,7,8,13,14,15]) adG
abbrev adE:AK:=.seq (.aa [m 27 4,bi 28 .add 27 1,m 4 28] [3,4,5,7,13,14,15]) adF
abbrev adD:AK:=.seq (.aa [m 25 7,bi 26 .gtr 25 0] [3,4,5,7,13,14,15,26]) (.cond (.t 26) adE .skip)
abbrev adz:AK:=.seq adD adA
abbrev adQ:AK:=.seq (.aa [k 2 (ci 1)] [2]) .ret
abbrev adP:AK:=.seq (.aa [m 19 7,bi 20 .lss 19 0,m 21 20,.af 22 21 false false 54022 (.ah (.t 7)),.af 23 21 false false 54023 (.bin .gtr (.t 22) (ci 15)),.v 24 (.pick (.t 21) (.c (.bool true)) (.t 23))] [3,4,5,7,13,14,15,24]) (.cond (.t 24) adQ .skip)
abbrev ady:AK:=.seq adP adz
abbrev adx:AK:=.seq (.aa [.v 17 (.aY 1 (.t 13) (.t 15)),.v 18 (.ld false 1 (.t 17)),m 7 18] [3,4,5,7,13,14,15]) ady
abbrev adv:AK:=.seq (.block 1 adx) adw
abbrev adu:AK:=.seq (.cond (.t 16) .skip (.exit 0)) adv
abbrev adt:AK:=.seq (.aa [b 16 .lss 15 14] [3,4,5,13,14,15,16]) adu
abbrev adY:AK:=.loop adt
abbrev adX:AK:=.seq (.aa [m 13 0,.v 14 (.len false (.t 13)),k 15 (ci 0)] [3,4,5,13,14,15]) (.block 0 adY)
abbrev adJ:AK:=.seq adX adR
abbrev adB:AK:=.seq (.aa [k 3 (ci 0),k 4 (ci 0),k 5 (ci 0)] [0,3,4,5]) adJ
abbrev adT:AK:=.seq (.aa [k 2 (ci 2)] [2]) .ret
abbrev adS:AK:=.seq (.aa [m 10 0,.v 11 (.len false (.t 10)),bi 12 .gtr 11 320] [0,12]) (.cond (.t 12) adT .skip)
abbrev ads:AK:=.seq adS adB
abbrev adr:AK:=.seq (.aa [k 2 (ci 0)] [0]) ads
abbrev zz:AK:=adr
theorem ad0:aB Tryz.prog 148 54000 1 zz [.tmp 2]:=⟨_,Tryz.func148,by kernel_rfl⟩
theorem ad1 {h a0 Post} (hp:aD Tryz.prog zz [.tmp 2] 1 [(0,a0)] h Post):Eng.Spec Tryz.prog 148 h [a0] Post:=aG ad0 rfl [(0,a0)] ⟨rfl,trivial⟩ hp
abbrev aeB:AK:=.seq (.aa [m 58 3,m 2 58] [2]) .ret
abbrev ad4:AK:=.aa [m 22 5,bi 23 .add 22 1,m 5 23] [0,3,4,5]
abbrev aea:AK:=.aa [bi 57 .add 28 1,m 28 57] [0,3,4,5,26,27,28]
abbrev aei:AK:=.aa [m 55 4,bi 56 .add 55 1,m 4 56] [0,3,4,5,26,27,28]
abbrev aeh:AK:=.seq (.aa [m 51 3,m 52 6,m 53 8,.v 54 (.aY 1 (.t 51) (.t 52)),.aM false 55000 (.st 1 (.t 54) (.t 53))] [0,3,4,5,26,27,28]) aei
abbrev aen:AK:=.aa [m 41 10,bi 42 .add 41 1,m 10 42] [0,3,4,5,6,8,9,10,26,27,28]
abbrev aep:AK:=.aa [m 49 9,bi 50 .quo 49 2,m 9 50] [0,3,4,5,6,8,9,10,26,27,28]
abbrev aeo:AK:=.seq (.aa [m 43 9,bi 44 .rem 43 2,bi 45 .eql 44 1,.eff 46 false 55046 (.a8 1 [(.t 45)]),m 47 8,.eff 48 false 55048 (.app 1 1 (.t 46) (.t 47)),m 8 48] [0,3,4,5,6,8,9,10,26,27,28]) aep
abbrev aem:AK:=.seq (.block 7 aeo) aen
abbrev aer:AK:=.seq (.aa [m 38 10,m 39 5,b 40 .lss 38 39] [0,3,4,5,6,8,9,10,26,27,28,40]) (.cond (.t 40) .skip (.exit 6))
abbrev aek:AK:=.seq aer aem
abbrev aeH:AK:=.loop aek
abbrev aej:AK:=.seq (.aa [k 10 (ci 0)] [0,3,4,5,6,8,9,10,26,27,28]) (.block 6 aeH)
abbrev aeg:AK:=.seq aej aeh
abbrev aef:AK:=.seq (.aa [m 37 4,m 9 37] [0,3,4,5,6,8,9,26,27,28]) aeg
abbrev aee:AK:=.seq (.aa [.eff 36 false 55036 (.a8 1 []),m 8 36] [0,3,4,5,6,8,26,27,28]) aef
abbrev aes:AK:=.seq (.aa [m 33 7,m 34 5,b 35 .neq 33 34] [0,3,4,5,6,26,27,28,35]) (.cond (.t 35) (.exit 5) .skip)
abbrev aed:AK:=.seq aes aee
abbrev aec:AK:=.seq (.aa [m 30 28,.v 31 (.aY 1 (.t 26) (.t 28)),.v 32 (.ld false 1 (.t 31)),m 6 30,m 7 32] [0,3,4,5,6,7,26,27,28]) aed
abbrev ad9:AK:=.seq (.block 5 aec) aea
abbrev ad8:AK:=.seq (.cond (.t 29) .skip (.exit 4)) ad9
abbrev ad7:AK:=.seq (.aa [b 29 .lss 28 27] [0,3,4,5,26,27,28,29]) ad8
abbrev aeG:AK:=.loop ad7
abbrev ad6:AK:=.seq (.aa [m 26 0,.v 27 (.len false (.t 26)),k 28 (ci 0)] [0,3,4,5,26,27,28]) (.block 4 aeG)
abbrev ad5:AK:=.seq (.aa [m 24 4,.v 25 (.bin .mul (ci 2) (.t 24)),m 4 25] [0,3,4,5]) ad6
abbrev aeE:AK:=.seq (.block 3 ad5) ad4
abbrev aeu:AK:=.seq (.aa [m 20 5,bi 21 .leq 20 15] [0,3,4,5,21]) (.cond (.t 21) .skip (.exit 2))
abbrev aeD:AK:=.seq aeu aeE
abbrev aeF:AK:=.loop aeD
abbrev aeC:AK:=.seq (.aa [k 5 (ci 1)] [0,3,4,5]) (.block 2 aeF)
abbrev aet:AK:=.seq aeC aeB
abbrev ael:AK:=.seq (.aa [k 4 (ci 0)] [0,3,4]) aet
abbrev aez:AK:=.aa [bi 19 .add 14 1,m 14 19] [0,3,13,14]
abbrev aeA:AK:=.aa [m 16 3,.eff 17 false 55017 (.a8 1 [(.c (.al))]),.eff 18 false 55018 (.app 1 24 (.t 16) (.t 17)),m 3 18] [0,3,13,14]
abbrev aey:AK:=.seq (.block 1 aeA) aez
abbrev aex:AK:=.seq (.cond (.t 15) .skip (.exit 0)) aey
abbrev aew:AK:=.seq (.aa [b 15 .lss 14 13] [0,3,13,14,15]) aex
abbrev aeI:AK:=.loop aew
abbrev aev:AK:=.seq (.aa [m 12 0,.v 13 (.len false (.t 12)),k 14 (ci 0)] [0,3,13,14]) (.block 0 aeI)
abbrev aeb:AK:=.seq aev ael
abbrev ad3:AK:=.seq (.aa [.eff 11 false 55011 (.a8 1 []),m 3 11] [0,3]) aeb
abbrev ad2:AK:=.seq (.aa [k 2 (.c (.al))] [0]) ad3
abbrev zB:AK:=ad2
theorem aeJ:aB Tryz.prog 145 55000 1 zB [.tmp 2]:=⟨_,Tryz.func145,by kernel_rfl⟩
theorem aeK {h a0 Post} (hp:aD Tryz.prog zB [.tmp 2] 1 [(0,a0)] h Post):Eng.Spec Tryz.prog 145 h [a0] Post:=aG aeJ rfl [(0,a0)] ⟨rfl,trivial⟩ hp
abbrev adi:AK:=.seq (.aa [k 4 (.c (.bool true))] [4]) .ret
abbrev adn:AK:=.aa [bi 25 .add 13 1,m 13 25] [0,1,12,13]
abbrev ade:AK:=.seq (.aa [k 4 (.c (.bool false))] [4]) .ret
abbrev adb:AK:=.seq (.aa [u 56016 16 (.ah (.t 1)),u 56017 17 (.ah (.t 5)),u 56018 18 (.aY 1 (.t 16) (.t 17)),u 56019 19 (.ld false 1 (.t 18)),u 56020 20 (.ah (.t 0)),u 56021 21 (.ah (.t 5)),u 56022 22 (.aY 1 (.t 20) (.t 21)),u 56023 23 (.ld false 1 (.t 22)),.v 24 (.beq true (.t 19) (.t 23))] [0,1,12,13,24]) (.cond (.t 24) ade .skip)
abbrev ada:AK:=.seq (.aa [m 15 13,m 5 15] [0,1,5,12,13]) adb
abbrev adm:AK:=.seq (.block 1 ada) adn
abbrev adl:AK:=.seq (.cond (.t 14) .skip (.exit 0)) adm
abbrev adk:AK:=.seq (.aa [b 14 .lss 13 12] [0,1,12,13,14]) adl
abbrev ado:AK:=.loop adk
abbrev adj:AK:=.seq (.aa [m 11 1,.v 12 (.len false (.t 11)),k 13 (ci 0)] [0,1,12,13]) (.block 0 ado)
abbrev adh:AK:=.seq adj adi
abbrev adg:AK:=.seq (.aa [k 4 (.c (.bool false))] [4]) .ret
abbrev adf:AK:=.seq (.aa [m 6 1,.v 7 (.len false (.t 6)),m 8 0,.v 9 (.len false (.t 8)),b 10 .gtr 7 9] [0,1,10]) (.cond (.t 10) adg .skip)
abbrev ac9:AK:=.seq adf adh
abbrev ac8:AK:=.seq (.aa [k 4 (.c (.bool false))] [0,1]) ac9
abbrev zx:AK:=ac8
theorem adp:aB Tryz.prog 201 56000 2 zx [.tmp 4]:=⟨_,Tryz.func201,by kernel_rfl⟩
theorem adq {h a0 a1 Post} (hp:aD Tryz.prog zx [.tmp 4] 2 [(0,a0),(1,a1)] h Post):Eng.Spec Tryz.prog 201 h [a0,a1] Post:=aG adp rfl [(0,a0),(1,a1)] ⟨rfl,rfl,trivial⟩ hp
abbrev ae7:AK:=.seq (.aa [k 4 (ci 0),k 5 (ci 0),k 6 (ci 3)] [4,5,6]) .ret
abbrev aeO:AK:=.aa [bi 47 .add 33 1,m 33 47] [1,31,32,33]
abbrev aeR:AK:=.seq (.aa [k 4 (ci 0),k 5 (ci 0),k 6 (ci 6)] [4,5,6]) .ret
abbrev aeQ:AK:=.seq (.aa [m 37 11,.v 38 (.len false (.t 37)),m 39 1,.v 40 (.len false (.t 39)),b 41 .gtr 38 40,m 42 41,.af 43 42 true false 57043 (.ah (.t 11)),.af 44 42 true false 57044 (.ah (.t 1)),.gi 45 42 true false 57045 201 [(.t 43),(.t 44)],.v 46 (.pick (.t 42) (.t 45) (.c (.bool false)))] [1,31,32,33,46]) (.cond (.t 46) aeR .skip)
abbrev aeP:AK:=.seq (.aa [.v 35 (.aY 1 (.t 31) (.t 33)),.v 36 (.ld false 1 (.t 35)),m 11 36] [1,11,31,32,33]) aeQ
abbrev aeN:AK:=.seq (.block 3 aeP) aeO
abbrev afa:AK:=.seq (.cond (.t 34) .skip (.exit 2)) aeN
abbrev ae9:AK:=.seq (.aa [b 34 .lss 33 32] [1,31,32,33,34]) afa
abbrev afb:AK:=.loop ae9
abbrev ae8:AK:=.seq (.aa [m 31 0,.v 32 (.len false (.t 31)),k 33 (ci 0)] [1,31,32,33]) (.block 2 afb)
abbrev ae6:AK:=.seq ae8 ae7
abbrev aeU:AK:=.seq (.aa [k 4 (ci 0),k 5 (ci 0),k 6 (ci 3)] [4,5,6]) .ret
abbrev aeS:AK:=.seq (.aa [m 29 7,.v 30 (.un .not (.t 29))] [0,1,30]) (.cond (.t 30) aeU .skip)
abbrev ae2:AK:=.seq aeS ae6
abbrev aeZ:AK:=.aa [bi 28 .add 14 1,m 14 28] [0,1,7,12,13,14]
abbrev ae5:AK:=.seq (.aa [m 25 8,m 26 9,.v 27 (.len false (.t 26)),m 4 25,m 5 27,k 6 (ci 0)] [4,5,6]) .ret
abbrev ae4:AK:=.seq (.aa [m 22 1,m 23 9,.ai (some 24) false 57024 201 [(.t 22),(.t 23)]] [0,1,7,8,9,12,13,14,24]) (.cond (.t 24) ae5 .skip)
abbrev ae3:AK:=.seq (.aa [k 7 (.c (.bool true))] [0,1,7,8,9,12,13,14]) ae4
abbrev ae1:AK:=.seq (.aa [m 19 9,.v 20 (.len false (.t 19)),bi 21 .gtr 20 0] [0,1,7,8,9,12,13,14,21]) (.cond (.t 21) ae3 .skip)
abbrev ae0:AK:=.seq (.aa [m 16 14,.v 17 (.aY 1 (.t 12) (.t 14)),.v 18 (.ld false 1 (.t 17)),m 8 16,m 9 18] [0,1,7,8,9,12,13,14]) ae1
abbrev aeY:AK:=.seq (.block 1 ae0) aeZ
abbrev aeX:AK:=.seq (.cond (.t 15) .skip (.exit 0)) aeY
abbrev aeW:AK:=.seq (.aa [b 15 .lss 14 13] [0,1,7,12,13,14,15]) aeX
abbrev afc:AK:=.loop aeW
abbrev aeV:AK:=.seq (.aa [m 12 0,.v 13 (.len false (.t 12)),k 14 (ci 0)] [0,1,7,12,13,14]) (.block 0 afc)
abbrev aeT:AK:=.seq aeV ae2
abbrev aeM:AK:=.seq (.aa [k 7 (.c (.bool false))] [0,1,7]) aeT
abbrev aeL:AK:=.seq (.aa [k 4 (ci 0),k 5 (ci 0),k 6 (ci 0)] [0,1]) aeM
abbrev zC:AK:=aeL
theorem afd:aB Tryz.prog 179 57000 2 zC [.tmp 4,.tmp 5,.tmp 6]:=⟨_,Tryz.func179,by kernel_rfl⟩
theorem aff {h a0 a1 Post} (hp:aD Tryz.prog zC [.tmp 4,.tmp 5,.tmp 6] 2 [(0,a0),(1,a1)] h Post):Eng.Spec Tryz.prog 179 h [a0,a1] Post:=aG afd rfl [(0,a0),(1,a1)] ⟨rfl,rfl,trivial⟩ hp
end Go.Proofs.YtlkmppkcbhodaaaGreatDoor.Cod
