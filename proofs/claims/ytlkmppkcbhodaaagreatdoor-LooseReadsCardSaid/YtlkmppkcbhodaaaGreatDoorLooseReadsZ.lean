/- The proof, part 26 of 32. -/
import Derived.Test.YtlkmppkcbhodaaaGreatDoorLooseReadsX
import Derived.Test.YtlkmppkcbhodaaaGreatDoorProg
import Derived.KernelRfl
set_option linter.all false
namespace Go.Proofs.YtlkmppkcbhodaaaGreatDoor.Cod
open Eng Eng.Kz
set_option maxRecDepth 100000
abbrev Cm:AK:=.aa [bi 37 .add 7 1,m 7 37] [0,1,6,7,2000000,2000001]
abbrev Cp:AK:=.aa [u 123023 23 (.ah (.t 0)),u 123024 24 (.ah (.t 0)),u 123025 25 (.aq (.t 24)),u 123026 26 (.an false 1 1 (.t 25)),u 123027 27 (.ld false 1 (.t 26)),u 123028 28 (.ah (.t 0)),u 123029 29 (.aq (.t 28)),u 123030 30 (.an false 0 1 (.t 29)),u 123031 31 (.ld false 1 (.t 30)),b 32 .add 27 31,.v 33 (.bin .add (.t 32) (.c (.int .u32 1))),.v 34 (.bin .rem (.t 33) (.c (.int .u32 65521))),.v 35 (.aq (.t 23)),.v 36 (.an false 1 1 (.t 35)),.aO false 123000 (.st 1 (.t 36) (.t 34))] [0,1,6,7,2000000,2000001]
abbrev Co:AK:=.seq (.aa [u 123010 10 (.ah (.t 0)),u 123011 11 (.ah (.t 0)),u 123012 12 (.aq (.t 11)),u 123013 13 (.an false 0 1 (.t 12)),u 123014 14 (.ld false 1 (.t 13)),u 123015 15 (.ah (.t 1)),u 123016 16 (.ah (.t 4)),u 123017 17 (.b7 (.t 15) (.t 16)),u 123018 18 (.bh .u32 (.t 17)),b 19 .add 14 18,.v 20 (.bin .rem (.t 19) (.c (.int .u32 65521))),.v 21 (.aq (.t 10)),.v 22 (.an false 0 1 (.t 21)),.aO false 123000 (.st 1 (.t 22) (.t 20))] [0,1,6,7,2000000,2000001]) Cp
abbrev Cn:AK:=.seq (.aa [m 9 7,m 4 9] [0,1,4,6,7,2000000,2000001]) Co
abbrev Cl:AK:=.seq (.block 1 Cn) Cm
abbrev Ck:AK:=.seq (.cond (.t 8) .skip (.exit 0)) Cl
abbrev Cj:AK:=.seq (.aa [b 8 .lss 7 6] [0,1,6,7,8,2000000,2000001]) Ck
abbrev Cq:AK:=.loop Cj
abbrev Ci:AK:=.seq (.aa [m 5 1,.v 6 (.len true (.t 5)),k 7 (ci 0)] [0,1,6,7,2000000,2000001]) (.block 0 Cq)
abbrev tq:AK:=Ci
theorem Cr:aD Tryz.prog 122 123000 2 tq []:=⟨_,Tryz.func122,by kernel_rfl⟩
theorem Ct {h a0 a1 Post} (hp:aF Tryz.prog tq [] 2 [(0,a0),(1,a1),(2000000,a0),(2000001,a1)] h Post):Eng.Spec Tryz.prog 122 h [a0,a1] Post:=aG Cr rfl [(0,a0),(1,a1),(2000000,a0),(2000001,a1)] ⟨rfl,rfl,rfl,rfl,trivial⟩ hp
abbrev Ce:AK:=.seq (.aa [u 124003 3 (.ah (.t 0)),u 124004 4 (.aq (.t 3)),u 124005 5 (.an false 1 1 (.t 4)),u 124006 6 (.ld false 1 (.t 5)),u 124007 7 (.bin .shl (.t 6) (.c (.int .u64 16))),u 124008 8 (.ah (.t 0)),u 124009 9 (.aq (.t 8)),u 124010 10 (.an false 0 1 (.t 9)),u 124011 11 (.ld false 1 (.t 10)),u 124012 12 (.bin .add (.t 11) (.c (.int .u32 1))),u 124013 13 (.bin .rem (.t 12) (.c (.int .u32 65521))),b 14 .or 7 13,m 2 14] [2,2000000]) .ret
abbrev Cd:AK:=.seq (.aa [k 2 (.c (.int .u32 0))] [0,2000000]) Ce
abbrev tp:AK:=Cd
theorem Cf:aD Tryz.prog 123 124000 1 tp [.tmp 2]:=⟨_,Tryz.func123,by kernel_rfl⟩
theorem Ch {h a0 Post} (hp:aF Tryz.prog tp [.tmp 2] 1 [(0,a0),(2000000,a0)] h Post):Eng.Spec Tryz.prog 123 h [a0] Post:=aG Cf rfl [(0,a0),(2000000,a0)] ⟨rfl,rfl,trivial⟩ hp
abbrev B9:AK:=.seq (.aa [.al (some 6) false 125006 123 [(.t 3)],m 2 6] [2]) .ret
abbrev B8:AK:=.seq (.aa [m 4 0,.al (some 5) false 125005 122 [(.t 3),(.t 4)]] [3]) B9
abbrev B7:AK:=.seq (.aa [.eff 3 false 125003 (.alloc [.int .u32 0,.int .u32 0])] [0,3]) B8
abbrev B6:AK:=.seq (.aa [k 2 (.c (.int .u32 0))] [0]) B7
abbrev tn:AK:=B6
theorem Ca:aD Tryz.prog 72 125000 1 tn [.tmp 2]:=⟨_,Tryz.func72,by kernel_rfl⟩
theorem Cc {h a0 Post} (hp:aF Tryz.prog tn [.tmp 2] 1 [(0,a0)] h Post):Eng.Spec Tryz.prog 72 h [a0] Post:=aG Ca rfl [(0,a0)] ⟨rfl,trivial⟩ hp
abbrev KC:AK:=.seq (.aa [m 18 3,m 2 18] [2]) .ret
abbrev KI:AK:=.aa [bi 17 .add 7 1,m 7 17] [0,3,6,7]
abbrev KA:AK:=.aa [m 10 3,.v 11 (.bin .shl (.t 10) (.c (.int .u64 8))),m 12 0,m 13 4,.v 14 (.b7 (.t 12) (.t 13)),.v 15 (.bh .u64 (.t 14)),b 16 .or 11 15,m 3 16] [0,3,6,7]
abbrev Ky:AK:=.seq (.aa [m 9 7,m 4 9] [0,3,4,6,7]) KA
abbrev KH:AK:=.seq (.block 1 Ky) KI
abbrev KG:AK:=.seq (.cond (.t 8) .skip (.exit 0)) KH
abbrev KF:AK:=.seq (.aa [b 8 .lss 7 6] [0,3,6,7,8]) KG
abbrev KJ:AK:=.loop KF
abbrev KE:AK:=.seq (.aa [m 5 0,.v 6 (.len true (.t 5)),k 7 (ci 0)] [0,3,6,7]) (.block 0 KJ)
abbrev KB:AK:=.seq KE KC
abbrev Kx:AK:=.seq (.aa [k 3 (.c (.int .u64 0))] [0,3]) KB
abbrev Kw:AK:=.seq (.aa [k 2 (.c (.int .u64 0))] [0]) Kx
abbrev vS:AK:=Kw
theorem KK:aD Tryz.prog 71 126000 1 vS [.tmp 2]:=⟨_,Tryz.func71,by kernel_rfl⟩
theorem KM {h a0 Post} (hp:aF Tryz.prog vS [.tmp 2] 1 [(0,a0)] h Post):Eng.Spec Tryz.prog 71 h [a0] Post:=aG KK rfl [(0,a0)] ⟨rfl,trivial⟩ hp
abbrev ajZ:AK:=.seq (.aa [m 23 4,.v 24 (.bin .mul (ci 65536) (.t 23)),m 25 3,b 26 .add 24 25,.v 27 (.bh .u32 (.t 26)),m 2 27] [2]) .ret
abbrev aj3:AK:=.aa [m 10 5,bi 11 .add 10 1,m 5 11] [0,3,4,5]
abbrev ajW:AK:=.aa [m 19 4,m 20 3,b 21 .add 19 20,bi 22 .rem 21 65521,m 4 22] [0,3,4,5]
abbrev ajV:AK:=.seq (.aa [m 12 3,m 13 0,m 14 5,.v 15 (.b7 (.t 13) (.t 14)),.v 16 (.bh .i64 (.t 15)),b 17 .add 12 16,bi 18 .rem 17 65521,m 3 18] [0,3,4,5]) ajW
abbrev aj2:AK:=.seq (.block 1 ajV) aj3
abbrev ajX:AK:=.seq (.aa [m 6 5,m 7 0,.v 8 (.len true (.t 7)),b 9 .lss 6 8] [0,3,4,5,9]) (.cond (.t 9) .skip (.exit 0))
abbrev aj1:AK:=.seq ajX aj2
abbrev aj4:AK:=.loop aj1
abbrev aj0:AK:=.seq (.aa [k 5 (ci 0)] [0,3,4,5]) (.block 0 aj4)
abbrev ajY:AK:=.seq aj0 ajZ
abbrev ajU:AK:=.seq (.aa [k 3 (ci 1),k 4 (ci 0)] [0,3,4]) ajY
abbrev ajT:AK:=.seq (.aa [k 2 (.c (.int .u32 0))] [0]) ajU
abbrev zG:AK:=ajT
theorem aj5:aD Tryz.prog 52 129000 1 zG [.tmp 2]:=⟨_,Tryz.func52,by kernel_rfl⟩
theorem aj7 {h a0 Post} (hp:aF Tryz.prog zG [.tmp 2] 1 [(0,a0)] h Post):Eng.Spec Tryz.prog 52 h [a0] Post:=aG aj5 rfl [(0,a0)] ⟨rfl,trivial⟩ hp
abbrev ame:AK:=.seq (.aa [m 21 5,.v 22 (.fZ (.t 21)),m 4 22] [4]) .ret
abbrev ami:AK:=.aa [m 11 6,bi 12 .add 11 1,m 6 12] [0,1,5,6]
abbrev ama:AK:=.aa [m 19 0,.v 20 (.bin .quo (.t 19) (.c (.int .u64 256))),m 0 20] [0,1,5,6]
abbrev al9:AK:=.seq (.aa [m 13 5,m 14 0,.v 15 (.bin .rem (.t 14) (.c (.int .u64 256))),.v 16 (.bh .u8 (.t 15)),.eff 17 false 130017 (.a6 1 [(.t 16)]),.eff 18 false 130018 (.app 1 1 (.t 13) (.t 17)),m 5 18] [0,1,5,6]) ama
abbrev amh:AK:=.seq (.block 1 al9) ami
abbrev amc:AK:=.seq (.aa [m 8 6,m 9 1,b 10 .lss 8 9] [0,1,5,6,10]) (.cond (.t 10) .skip (.exit 0))
abbrev amg:AK:=.seq amc amh
abbrev amj:AK:=.loop amg
abbrev amf:AK:=.seq (.aa [k 6 (ci 0)] [0,1,5,6]) (.block 0 amj)
abbrev amd:AK:=.seq amf ame
abbrev al8:AK:=.seq (.aa [.eff 7 false 130007 (.a6 1 []),m 5 7] [0,1,5]) amd
abbrev al7:AK:=.seq (.aa [k 4 (.c (.str []))] [0,1]) al8
abbrev zX:AK:=al7
theorem amk:aD Tryz.prog 101 130000 2 zX [.tmp 4]:=⟨_,Tryz.func101,by kernel_rfl⟩
theorem amm {h a0 a1 Post} (hp:aF Tryz.prog zX [.tmp 4] 2 [(0,a0),(1,a1)] h Post):Eng.Spec Tryz.prog 101 h [a0,a1] Post:=aG amk rfl [(0,a0),(1,a1)] ⟨rfl,rfl,trivial⟩ hp
abbrev aaa:AK:=.seq (.aa [m 19 3,.v 20 (.fZ (.t 19)),m 2 20] [2]) .ret
abbrev aae:AK:=.aa [m 11 4,bi 12 .sub 11 1,m 4 12] [0,3,4]
abbrev Z7:AK:=.aa [m 13 3,m 14 0,m 15 4,.v 16 (.b7 (.t 14) (.t 15)),.eff 17 false 131017 (.a6 1 [(.t 16)]),.eff 18 false 131018 (.app 1 1 (.t 13) (.t 17)),m 3 18] [0,3,4]
abbrev aad:AK:=.seq (.block 1 Z7) aae
abbrev Z8:AK:=.seq (.aa [m 9 4,bi 10 .geq 9 0] [0,3,4,10]) (.cond (.t 10) .skip (.exit 0))
abbrev aac:AK:=.seq Z8 aad
abbrev aaf:AK:=.loop aac
abbrev aab:AK:=.seq (.aa [m 6 0,.v 7 (.len true (.t 6)),bi 8 .sub 7 1,m 4 8] [0,3,4]) (.block 0 aaf)
abbrev Z9:AK:=.seq aab aaa
abbrev Z6:AK:=.seq (.aa [.eff 5 false 131005 (.a6 1 []),m 3 5] [0,3]) Z9
abbrev Z5:AK:=.seq (.aa [k 2 (.c (.str []))] [0]) Z6
abbrev yB:AK:=Z5
theorem aag:aD Tryz.prog 100 131000 1 yB [.tmp 2]:=⟨_,Tryz.func100,by kernel_rfl⟩
theorem aai {h a0 Post} (hp:aF Tryz.prog yB [.tmp 2] 1 [(0,a0)] h Post):Eng.Spec Tryz.prog 100 h [a0] Post:=aG aag rfl [(0,a0)] ⟨rfl,trivial⟩ hp
abbrev akf:AK:=.seq (.aa [m 5 0,m 6 1,.al (some 7) false 132007 101 [(.t 5),(.t 6)],.al (some 8) false 132008 100 [(.t 7)],m 4 8] [4]) .ret
abbrev ake:AK:=.seq (.aa [k 4 (.c (.str []))] [0,1]) akf
abbrev zJ:AK:=ake
theorem akg:aD Tryz.prog 51 132000 2 zJ [.tmp 4]:=⟨_,Tryz.func51,by kernel_rfl⟩
theorem aki {h a0 a1 Post} (hp:aF Tryz.prog zJ [.tmp 4] 2 [(0,a0),(1,a1)] h Post):Eng.Spec Tryz.prog 51 h [a0,a1] Post:=aG akg rfl [(0,a0),(1,a1)] ⟨rfl,rfl,trivial⟩ hp
abbrev atJ:AK:=.seq (.aa [m 5 0,.v 6 (.bin .and (.t 5) (.c (.int .u8 15))),.v 7 (.bin .eql (.t 6) (.c (.int .u8 8))),m 8 7,.af 9 8 true false 134009 (.ah (.t 0)),.af 10 8 true false 134010 (.bin .shr (.t 9) (.c (.int .u64 4))),.af 11 8 true false 134011 (.bin .leq (.t 10) (.c (.int .u8 7))),.v 12 (.pick (.t 8) (.t 11) (.c (.bool false))),m 13 12,.af 14 13 true false 134014 (.ah (.t 0)),.af 15 13 true false 134015 (.bh .i64 (.t 14)),.af 16 13 true false 134016 (.bin .shl (.t 15) (.c (.int .u64 8))),.af 17 13 true false 134017 (.ah (.t 1)),.af 18 13 true false 134018 (.bh .i64 (.t 17)),.af 19 13 true false 134019 (.bin .or (.t 16) (.t 18)),.af 20 13 true false 134020 (.bin .rem (.t 19) (ci 31)),.af 21 13 true false 134021 (.bin .eql (.t 20) (ci 0)),.v 22 (.pick (.t 13) (.t 21) (.c (.bool false))),m 23 22,.af 24 23 true false 134024 (.ah (.t 1)),.af 25 23 true false 134025 (.bin .and (.t 24) (.c (.int .u8 32))),.af 26 23 true false 134026 (.bin .eql (.t 25) (.c (.int .u8 0))),.v 27 (.pick (.t 23) (.t 26) (.c (.bool false))),m 4 27] [4]) .ret
abbrev atI:AK:=.seq (.aa [k 4 (.c (.bool false))] [0,1]) atJ
abbrev BL:AK:=atI
theorem atK:aD Tryz.prog 69 134000 2 BL [.tmp 4]:=⟨_,Tryz.func69,by kernel_rfl⟩
theorem atM {h a0 a1 Post} (hp:aF Tryz.prog BL [.tmp 4] 2 [(0,a0),(1,a1)] h Post):Eng.Spec Tryz.prog 69 h [a0,a1] Post:=aG atK rfl [(0,a0),(1,a1)] ⟨rfl,rfl,trivial⟩ hp
abbrev auf:AK:=.seq (.aa [m 74 9,m 75 10,bi 76 .add 75 6,m 6 74,m 7 76,k 8 (ci 0)] [6,7,8]) .ret
abbrev atV:AK:=.seq (.aa [k 6 (.c (.str [])),k 7 (ci 0),k 8 (ci 5)] [6,7,8]) .ret
abbrev atU:AK:=.seq (.aa [m 64 0,m 65 12,m 66 12,bi 67 .add 66 4,.v 68 (.bX (.t 64) (some (.t 65)) (some (.t 67))),.al (some 69) false 135069 71 [(.t 68)],.v 70 (.bh .u32 (.t 69)),m 71 9,.al (some 72) false 135072 72 [(.t 71)],b 73 .neq 70 72] [9,10,73]) (.cond (.t 73) atV .skip)
abbrev aue:AK:=.seq atU auf
abbrev atX:AK:=.seq (.aa [k 6 (.c (.str [])),k 7 (ci 0),k 8 (ci 6)] [6,7,8]) .ret
abbrev atW:AK:=.seq (.aa [m 59 0,.v 60 (.len true (.t 59)),m 61 12,b 62 .sub 60 61,bi 63 .lss 62 4] [0,9,10,12,63]) (.cond (.t 63) atX .skip)
abbrev aud:AK:=.seq atW aue
abbrev auc:AK:=.seq (.aa [m 55 1,bi 56 .add 55 2,m 57 10,b 58 .add 56 57,m 12 58] [0,9,10,12]) aud
abbrev atZ:AK:=.seq (.aa [m 54 11,k 6 (.c (.str [])),k 7 (ci 0),m 8 54] [6,7,8]) .ret
abbrev atY:AK:=.seq (.aa [m 52 11,bi 53 .neq 52 0] [0,1,9,10,11,53]) (.cond (.t 53) atZ .skip)
abbrev aub:AK:=.seq atY auc
abbrev aua:AK:=.seq (.aa [m 44 0,m 45 1,bi 46 .add 45 2,m 47 2,.al (some 48) false 135048 70 [(.t 44),(.t 46),(.t 47)],m 43 48,.v 49 (.ext (.t 43) 0),.v 50 (.ext (.t 43) 1),.v 51 (.ext (.t 43) 2),m 9 49,m 10 50,m 11 51] [0,1,9,10,11]) aub
abbrev at2:AK:=.seq (.aa [k 6 (.c (.str [])),k 7 (ci 0),k 8 (ci 3)] [6,7,8]) .ret
abbrev at0:AK:=.seq (.aa [u 135034 34 (.ah (.t 0)),u 135035 35 (.ah (.t 1)),u 135036 36 (.b7 (.t 34) (.t 35)),u 135037 37 (.ah (.t 0)),u 135038 38 (.ah (.t 1)),u 135039 39 (.bin .add (.t 38) (ci 1)),u 135040 40 (.b7 (.t 37) (.t 39)),.al (some 41) false 135041 69 [(.t 36),(.t 40)],.v 42 (.un .not (.t 41))] [0,1,2,42]) (.cond (.t 42) at2 .skip)
abbrev at7:AK:=.seq at0 aua
abbrev at4:AK:=.seq (.aa [k 6 (.c (.str [])),k 7 (ci 0),k 8 (ci 6)] [6,7,8]) .ret
abbrev at3:AK:=.seq (.aa [m 29 0,.v 30 (.len true (.t 29)),m 31 1,b 32 .sub 30 31,bi 33 .lss 32 2] [0,1,2,33]) (.cond (.t 33) at4 .skip)
abbrev at1:AK:=.seq at3 at7
abbrev at6:AK:=.seq (.aa [k 6 (.c (.str [])),k 7 (ci 0),k 8 (ci 1)] [6,7,8]) .ret
abbrev at5:AK:=.seq (.aa [m 13 1,bi 14 .lss 13 0,m 15 14,.af 16 15 false false 135016 (.ah (.t 1)),.af 17 15 false false 135017 (.ah (.t 0)),.af 18 15 false false 135018 (.len true (.t 17)),.af 19 15 false false 135019 (.bin .gtr (.t 16) (.t 18)),.v 20 (.pick (.t 15) (.c (.bool true)) (.t 19)),m 21 20,.af 22 21 false false 135022 (.ah (.t 2)),.af 23 21 false false 135023 (.bin .lss (.t 22) (ci 0)),.v 24 (.pick (.t 21) (.c (.bool true)) (.t 23)),m 25 24,.af 26 25 false false 135026 (.ah (.t 2)),.af 27 25 false false 135027 (.bin .gtr (.t 26) (ci 65536)),.v 28 (.pick (.t 25) (.c (.bool true)) (.t 27))] [0,1,2,28]) (.cond (.t 28) at6 .skip)
abbrev atT:AK:=.seq at5 at1
abbrev atS:AK:=.seq (.aa [k 6 (.c (.str [])),k 7 (ci 0),k 8 (ci 0)] [0,1,2]) atT
abbrev BN:AK:=atS
theorem aug:aD Tryz.prog 39 135000 3 BN [.tmp 6,.tmp 7,.tmp 8]:=⟨_,Tryz.func39,by kernel_rfl⟩
theorem aui {h a0 a1 a2 Post} (hp:aF Tryz.prog BN [.tmp 6,.tmp 7,.tmp 8] 3 [(0,a0),(1,a1),(2,a2)] h Post):Eng.Spec Tryz.prog 39 h [a0,a1,a2] Post:=aG aug rfl [(0,a0),(1,a1),(2,a2)] ⟨rfl,rfl,rfl,trivial⟩ hp
abbrev ag0:AK:=.seq (.aa [m 5 0,bi 6 .rem 5 16,bi 7 .eql 6 8,m 8 7,.af 9 8 true false 136009 (.ah (.t 0)),.af 10 8 true false 136010 (.bin .quo (.t 9) (ci 16)),.af 11 8 true false 136011 (.bin .leq (.t 10) (ci 7)),.v 12 (.pick (.t 8) (.t 11) (.c (.bool false))),m 13 12,.af 14 13 true false 136014 (.ah (.t 0)),.af 15 13 true false 136015 (.bin .mul (ci 256) (.t 14)),.af 16 13 true false 136016 (.ah (.t 1)),.af 17 13 true false 136017 (.bin .add (.t 15) (.t 16)),.af 18 13 true false 136018 (.bin .rem (.t 17) (ci 31)),.af 19 13 true false 136019 (.bin .eql (.t 18) (ci 0)),.v 20 (.pick (.t 13) (.t 19) (.c (.bool false))),m 21 20,.af 22 21 true false 136022 (.ah (.t 1)),.af 23 21 true false 136023 (.bin .quo (.t 22) (ci 32)),.af 24 21 true false 136024 (.bin .rem (.t 23) (ci 2)),.af 25 21 true false 136025 (.bin .eql (.t 24) (ci 0)),.v 26 (.pick (.t 21) (.t 25) (.c (.bool false))),m 4 26] [4]) .ret
abbrev agZ:AK:=.seq (.aa [k 4 (.c (.bool false))] [0,1]) ag0
abbrev zk:AK:=agZ
theorem ag1:aD Tryz.prog 49 136000 2 zk [.tmp 4]:=⟨_,Tryz.func49,by kernel_rfl⟩
theorem ag3 {h a0 a1 Post} (hp:aF Tryz.prog zk [.tmp 4] 2 [(0,a0),(1,a1)] h Post):Eng.Spec Tryz.prog 49 h [a0,a1] Post:=aG ag1 rfl [(0,a0),(1,a1)] ⟨rfl,rfl,trivial⟩ hp
abbrev ahp:AK:=.seq (.aa [m 73 9,m 74 10,bi 75 .add 74 6,m 6 73,m 7 75,k 8 (ci 0)] [6,7,8]) .ret
abbrev ag7:AK:=.seq (.aa [k 6 (.c (.str [])),k 7 (ci 0),k 8 (ci 5)] [6,7,8]) .ret
abbrev ag6:AK:=.seq (.aa [u 137066 66 (.ah (.t 12)),u 137067 67 (.bX (.t 66) none (some (ci 4))),m 68 9,.al (some 69) false 137069 52 [(.t 68)],.v 70 (.bh .u64 (.t 69)),.al (some 71) false 137071 51 [(.t 70),(ci 4)],b 72 .neq 67 71] [9,10,72]) (.cond (.t 72) ag7 .skip)
abbrev aho:AK:=.seq ag6 ahp
abbrev ag9:AK:=.seq (.aa [k 6 (.c (.str [])),k 7 (ci 0),k 8 (ci 6)] [6,7,8]) .ret
abbrev ag8:AK:=.seq (.aa [m 63 12,.v 64 (.len true (.t 63)),bi 65 .lss 64 4] [9,10,12,65]) (.cond (.t 65) ag9 .skip)
abbrev ahn:AK:=.seq ag8 aho
abbrev ahm:AK:=.seq (.aa [m 57 0,m 58 1,bi 59 .add 58 2,m 60 10,b 61 .add 59 60,.v 62 (.bX (.t 57) (some (.t 61)) none),m 12 62] [9,10,12]) ahn
abbrev ahb:AK:=.seq (.aa [m 56 11,k 6 (.c (.str [])),k 7 (ci 0),m 8 56] [6,7,8]) .ret
abbrev aha:AK:=.seq (.aa [m 54 11,bi 55 .neq 54 0] [0,1,9,10,11,55]) (.cond (.t 55) ahb .skip)
abbrev ahl:AK:=.seq aha ahm
abbrev ahk:AK:=.seq (.aa [m 46 0,m 47 1,bi 48 .add 47 2,m 49 2,.al (some 50) false 137050 50 [(.t 46),(.t 48),(.t 49)],m 45 50,.v 51 (.ext (.t 45) 0),.v 52 (.ext (.t 45) 1),.v 53 (.ext (.t 45) 2),m 9 51,m 10 52,m 11 53] [0,1,9,10,11]) ahl
abbrev ahe:AK:=.seq (.aa [k 6 (.c (.str [])),k 7 (ci 0),k 8 (ci 3)] [6,7,8]) .ret
abbrev ahc:AK:=.seq (.aa [u 137034 34 (.ah (.t 0)),u 137035 35 (.ah (.t 1)),u 137036 36 (.b7 (.t 34) (.t 35)),u 137037 37 (.bh .i64 (.t 36)),u 137038 38 (.ah (.t 0)),u 137039 39 (.ah (.t 1)),u 137040 40 (.bin .add (.t 39) (ci 1)),u 137041 41 (.b7 (.t 38) (.t 40)),u 137042 42 (.bh .i64 (.t 41)),.al (some 43) false 137043 49 [(.t 37),(.t 42)],.v 44 (.un .not (.t 43))] [0,1,2,44]) (.cond (.t 44) ahe .skip)
abbrev ahj:AK:=.seq ahc ahk
abbrev ahg:AK:=.seq (.aa [k 6 (.c (.str [])),k 7 (ci 0),k 8 (ci 6)] [6,7,8]) .ret
abbrev ahf:AK:=.seq (.aa [m 29 0,.v 30 (.len true (.t 29)),m 31 1,b 32 .sub 30 31,bi 33 .lss 32 2] [0,1,2,33]) (.cond (.t 33) ahg .skip)
abbrev ahd:AK:=.seq ahf ahj
abbrev ahi:AK:=.seq (.aa [k 6 (.c (.str [])),k 7 (ci 0),k 8 (ci 1)] [6,7,8]) .ret
abbrev ahh:AK:=.seq (.aa [m 13 1,bi 14 .lss 13 0,m 15 14,.af 16 15 false false 137016 (.ah (.t 1)),.af 17 15 false false 137017 (.ah (.t 0)),.af 18 15 false false 137018 (.len true (.t 17)),.af 19 15 false false 137019 (.bin .gtr (.t 16) (.t 18)),.v 20 (.pick (.t 15) (.c (.bool true)) (.t 19)),m 21 20,.af 22 21 false false 137022 (.ah (.t 2)),.af 23 21 false false 137023 (.bin .lss (.t 22) (ci 0)),.v 24 (.pick (.t 21) (.c (.bool true)) (.t 23)),m 25 24,.af 26 25 false false 137026 (.ah (.t 2)),.af 27 25 false false 137027 (.bin .gtr (.t 26) (ci 65536)),.v 28 (.pick (.t 25) (.c (.bool true)) (.t 27))] [0,1,2,28]) (.cond (.t 28) ahi .skip)
abbrev ag5:AK:=.seq ahh ahd
abbrev ag4:AK:=.seq (.aa [k 6 (.c (.str [])),k 7 (ci 0),k 8 (ci 0)] [0,1,2]) ag5
abbrev zl:AK:=ag4
theorem ahq:aD Tryz.prog 24 137000 3 zl [.tmp 6,.tmp 7,.tmp 8]:=⟨_,Tryz.func24,by kernel_rfl⟩
theorem ahs {h a0 a1 a2 Post} (hp:aF Tryz.prog zl [.tmp 6,.tmp 7,.tmp 8] 3 [(0,a0),(1,a1),(2,a2)] h Post):Eng.Spec Tryz.prog 24 h [a0,a1,a2] Post:=aG ahq rfl [(0,a0),(1,a1),(2,a2)] ⟨rfl,rfl,rfl,trivial⟩ hp
end Go.Proofs.YtlkmppkcbhodaaaGreatDoor.Cod
namespace Go.Proofs.YtlkmppkcbhodaaaGreatDoor.Pk
open Eng Sh
set_option maxRecDepth 10000
open Eng Sh
set_option maxRecDepth 10000
def na (p:Nat×Nat) (c:UInt8):Nat×Nat:=((p.1+c.toNat)%65521,(p.2+(p.1+c.toNat)%65521)%65521)
def cq (t:Bs):Nat×Nat:=t.foldl na (1,0)
def fY (t:Bs):Nat:=65536*(cq t).2+(cq t).1
theorem p9 (t:Bs) {k:Nat} (h:k<t.length):cq (t.take (k+1))=na (cq (t.take k)) (t.getD k 0):=by
 rw[kn t h];simp[cq]
theorem B5 (p:Nat×Nat) (c:UInt8):(na p c).1<65521∧(na p c).2<65521:=⟨Nat.mod_lt _ (by decide),Nat.mod_lt _ (by decide)⟩
theorem lF (t:Bs):(cq t).1<65521∧(cq t).2<65521:=by
 have:∀k,k≤t.length→(cq (t.take k)).1<65521∧(cq (t.take k)).2<65521:=by
  intro k
  cases k with
  | zero=>intro _;rw[List.take_zero];decide
  | succ k=>intro h;rw[p9 t h];exact B5 _ _
 have h:=this t.length (Nat.le_refl _)
 rwa[List.take_of_length_le (Nat.le_refl _)]at h
theorem tm (t:Bs):fY t<4294967296:=by
 have:=lF t
 unfold fY;omega
def fh (a:Nat):Nat:=(a+65520)%65521
theorem Cs (t:Bs) (ht:t.length≤1000000000):Eng.Spec Tryz.prog 122 [(125003,.var [.int .u32 0,.int .u32 0])] [.ab 125003 0,.str t]
    (fun h' v ar=>h'=[(125003,.var [.int .u32 (fh (cq t).1:Nat),.int .u32 ((cq t).2:Nat)])]∧v=.ai []∧ar=[.ab 125003 0,.str t]):=by
 refine Cod.Ct (fun E R hN hR=>?_)
 refine wW ?_
 refine aZ hN (fun k:Nat=>⟨[(0,.ab 125003 0),(1,.str t),(6,.int .i64 t.length),(7,.int .i64 k),(2000000,.ab 125003 0),(2000001,.str t)],[(125003,.var [.int .u32 (fh (cq (t.take k)).1:Nat),.int .u32 ((cq (t.take k)).2:Nat)])]⟩) (fun k=>k≤t.length) (fun k=>t.length-k) 0 (.le (by simp(disch:=omega)only[go_sem,simprocAttr];simp[cq,fh])) (by omega) ?_
 rintro k R1 hk hR1
 by_cases hlt:k<t.length
 ·have hct:=p9 t hlt
  have hxl:=lF (t.take k)
  generalize cq (t.take k)=x at *
  have hbl:=(t.getD k 0).toNat_lt
  obtain⟨xa,xb⟩:=x
  simp only at hxl
  have hc1:(cq (t.take (k+1))).1=(xa+(t.getD k 0).toNat)%65521:=by rw[hct];rfl
  have hc2:(cq (t.take (k+1))).2=(xb+(xa+(t.getD k 0).toNat)%65521)%65521:=by rw[hct];rfl
  generalize hb:(t.getD k 0).toNat=b at *
  have l1:fh xa<65521:=Nat.mod_lt _ (by decide)
  have e2:(((fh xa:Nat):Int)+(b:Int)).tmod 65521=((fh ((xa+b)%65521):Nat):Int):=by
   rw[gI (by omega)]
   unfold fh
   omega
  have e3:(((xb:Nat):Int)+((fh ((xa+b)%65521):Nat):Int)+1).tmod 65521=(((xb+(xa+b)%65521)%65521:Nat):Int):=by
   rw[gI (by omega)]
   unfold fh
   omega
  have l2:fh ((xa+b)%65521)<65521:=Nat.mod_lt _ (by decide)
  refine cN hb e2 e3 ?_
  exact hR1 (k+1) _ (by omega) (by omega) (.le (jE hc1 hc2))
 ·obtain rfl:k=t.length:=by omega
  rw[List.take_of_length_le (Nat.le_refl _)]
  refine wW ?_
  exact hR.le vV ⟨rfl,rfl,rfl⟩
theorem Zb {a b:Nat} (ha:a<65536) (hb:b<65536):bits .or .u32 (IntKind.u32.wrap ((b:Int)*2^min 16 32)) (a:Int)=((65536*b+a:Nat):Int):=by
 have h1:((b:Int)*2^min 16 32)=((b*65536:Nat):Int):=by
  rw[show((2:Int)^min 16 32)=65536 by decide];omega
 rw[h1,wrap_u32 (by omega)]
 show IntKind.u32.wrap ((BitVec.ofInt 32 ((b*65536:Nat):Int) ||| BitVec.ofInt 32 (a:Int)).toNat:Int)=_
 rw[BitVec.ofInt_natCast,BitVec.ofInt_natCast,BitVec.toNat_or,BitVec.toNat_ofNat,BitVec.toNat_ofNat,Nat.mod_eq_of_lt (by omega),Nat.mod_eq_of_lt (by omega)]
 have h2:b*65536 ||| a=65536*b+a:=by
  have h3:=Nat.shiftLeft_add_eq_or_of_lt (b:=a) (i:=16) (by omega) b
  rw[Nat.shiftLeft_eq,show(2:Nat)^16=65536 by decide]at h3
  omega
 rw[h2]
 exact wrap_u32 (by omega)
theorem Cg (t:Bs):Eng.Spec Tryz.prog 123 [(125003,.var [.int .u32 (fh (cq t).1:Nat),.int .u32 ((cq t).2:Nat)])] [.ab 125003 0]
    (fun h' v ar=>h'=[(125003,.var [.int .u32 (fh (cq t).1:Nat),.int .u32 ((cq t).2:Nat)])]∧v=.int .u32 (fY t:Nat)∧ar=[.ab 125003 0]):=by
 refine Cod.Ch (fun E R hN hR=>?_)
 have hl:=lF t
 unfold fY at hR
 generalize cq t=x at *
 obtain⟨xa,xb⟩:=x
 simp only at hl hR ⊢
 have l1:fh xa<65521:=Nat.mod_lt _ (by decide)
 have e1:(((fh xa:Nat):Int)+1).tmod 65521=((xa:Nat):Int):=by
  rw[gI (by omega)]
  unfold fh
  omega
 have e2:=Zb (a:=xa) (b:=xb) (by omega) (by omega)
 refine bo e1 e2 ?_
 exact hR.le vV ⟨rfl,rfl,rfl⟩
theorem Cb (t:Bs) (ht:t.length≤1000000000):aM Tryz.prog 72 [.str t] (.int .u32 (fY t:Nat)):=by
 refine Cod.Cc (fun E R hN hR=>?_)
 have hw:=Cs t ht
 have hs:=Cg t
 refine wW ?_
 refine aU [(125003,.var [.int .u32 0,.int .u32 0])] hw vV nofun ?_
 rintro h' v ar ⟨rfl,rfl,rfl⟩
 refine⟨vV,rfl,?_⟩
 refine wW ?_
 refine aU [(125003,.var [.int .u32 (fh (cq t).1:Nat),.int .u32 ((cq t).2:Nat)])] hs vV nofun ?_
 rintro h' v ar ⟨rfl,rfl,rfl⟩
 refine⟨vV,rfl,?_⟩
 refine wW ?_
 exact hR.ro ⟨rfl,rfl⟩
theorem aj6 (t:Bs) (ht:t.length≤1000000000):aM Tryz.prog 52 [.str t] (.int .u32 (fY t:Nat)):=by
 refine Cod.aj7 (fun E R hN hR=>?_)
 refine wW ?_
 refine aZ hN (fun k:Nat=>⟨[(0,.str t),(3,.int .i64 ((cq (t.take k)).1:Nat)),(4,.int .i64 ((cq (t.take k)).2:Nat)),(5,.int .i64 k)],[]⟩) (fun k=>k≤t.length) (fun k=>t.length-k) 0 (.le (by simp(disch:=omega)only[go_sem,simprocAttr];simp[cq])) (by omega) ?_
 rintro k R1 hk hR1
 by_cases hlt:k<t.length
 ·have hct:=p9 t hlt
  have hxl:=lF (t.take k)
  generalize cq (t.take k)=x at *
  have hbl:=(t.getD k 0).toNat_lt
  obtain⟨xa,xb⟩:=x
  simp only at hxl
  have hc1:(cq (t.take (k+1))).1=(xa+(t.getD k 0).toNat)%65521:=by rw[hct];rfl
  have hc2:(cq (t.take (k+1))).2=(xb+(xa+(t.getD k 0).toNat)%65521)%65521:=by rw[hct];rfl
  generalize hb:(t.getD k 0).toNat=b at *
  have e1:((xa:Int)+(b:Int)).tmod 65521=(((xa+b)%65521:Nat):Int):=by rw[gI (by omega)];omega
  have e2:((xb:Int)+(((xa+b)%65521:Nat):Int)).tmod 65521=(((xb+(xa+b)%65521)%65521:Nat):Int):=by rw[gI (by omega)];omega
  refine cN hb e1 e2 ?_
  exact hR1 (k+1) _ (by omega) (by omega) (.le (jE hc1 hc2))
 ·obtain rfl:k=t.length:=by omega
  rw[List.take_of_length_le (Nat.le_refl _)]
  have hl:=lF t
  unfold fY at hR
  generalize cq t=x at *
  obtain⟨xa,xb⟩:=x
  simp only at hl hR ⊢
  have e1:(65536:Int)*(xb:Int)+(xa:Int)=((65536*xb+xa:Nat):Int):=by omega
  refine au e1 ?_
  exact hR.ro ⟨rfl,rfl⟩
def eY (t:Bs):Nat:=t.foldl (fun x c=>256*x+c.toNat) 0
theorem tQ (t:Bs) {k:Nat} (h:k<t.length):eY (t.take (k+1))=256*eY (t.take k)+(t.getD k 0).toNat:=by
 rw[kn t h];simp[eY]
theorem qk (t:Bs):∀k,k≤t.length→eY (t.take k)<256^k
 | 0,_=>by rw[List.take_zero];decide
 | k+1,h=>by
  have ih:=qk t k (by omega)
  have hb:=(t.getD k 0).toNat_lt
  rw[tQ t h,Nat.pow_succ]
  omega
theorem Ea (t:Bs) {k:Nat} (h:k≤t.length) (h7:t.length≤6):eY (t.take k)<281474976710656:=by
 have h1:=qk t k h
 have h2:256^k≤256^6:=Nat.pow_le_pow_right (by decide) (by omega)
 exact Nat.lt_of_lt_of_le h1 h2
theorem Zc {x b:Nat} (hx:x<281474976710656) (hb:b<256):bits .or .u64 (IntKind.u64.wrap ((x:Int)*2^min 8 64)) (b:Int)=((256*x+b:Nat):Int):=by
 have h1:((x:Int)*2^min 8 64)=((x*256:Nat):Int):=by
  rw[show((2:Int)^min 8 64)=256 by decide];omega
 rw[h1,wrap_u64 (by omega)]
 show IntKind.u64.wrap ((BitVec.ofInt 64 ((x*256:Nat):Int) ||| BitVec.ofInt 64 (b:Int)).toNat:Int)=_
 rw[BitVec.ofInt_natCast,BitVec.ofInt_natCast,BitVec.toNat_or,BitVec.toNat_ofNat,BitVec.toNat_ofNat,Nat.mod_eq_of_lt (by omega),Nat.mod_eq_of_lt (by omega)]
 have h2:x*256 ||| b=256*x+b:=by
  have h3:=Nat.shiftLeft_add_eq_or_of_lt (b:=b) (i:=8) (by omega) x
  rw[Nat.shiftLeft_eq,show(2:Nat)^8=256 by decide]at h3
  omega
 rw[h2]
 exact wrap_u64 (by omega)
theorem Zd {x b:Nat} (hx:x<281474976710656) (hb:b<256):bits .or .i64 (IntKind.i64.wrap ((x:Int)*2^min 8 64)) (b:Int)=((256*x+b:Nat):Int):=by
 have h1:((x:Int)*2^min 8 64)=((x*256:Nat):Int):=by
  rw[show((2:Int)^min 8 64)=256 by decide];omega
 rw[h1,ji (by omega)]
 show IntKind.i64.wrap ((BitVec.ofInt 64 ((x*256:Nat):Int) ||| BitVec.ofInt 64 (b:Int)).toNat:Int)=_
 rw[BitVec.ofInt_natCast,BitVec.ofInt_natCast,BitVec.toNat_or,BitVec.toNat_ofNat,BitVec.toNat_ofNat,Nat.mod_eq_of_lt (by omega),Nat.mod_eq_of_lt (by omega)]
 have h2:x*256 ||| b=256*x+b:=by
  have h3:=Nat.shiftLeft_add_eq_or_of_lt (b:=b) (i:=8) (by omega) x
  rw[Nat.shiftLeft_eq,show(2:Nat)^8=256 by decide]at h3
  omega
 rw[h2]
 exact ji (by omega)
theorem KL (t:Bs) (ht:t.length≤6):aM Tryz.prog 71 [.str t] (.int .u64 (eY t:Nat)):=by
 refine Cod.KM (fun E R hN hR=>?_)
 refine wW ?_
 refine aZ hN (fun k:Nat=>⟨[(0,.str t),(3,.int .u64 (eY (t.take k):Nat)),(6,.int .i64 t.length),(7,.int .i64 k)],[]⟩) (fun k=>k≤t.length) (fun k=>t.length-k) 0 (.le (by simp(disch:=omega)only[go_sem,simprocAttr];simp[eY])) (by omega) ?_
 rintro k R1 hk hR1
 by_cases hlt:k<t.length
 ·have hct:=tQ t hlt
  have hxl:=Ea t hk ht
  have hbl:=(t.getD k 0).toNat_lt
  have ho:=Zc hxl hbl
  generalize eY (t.take k)=x at *
  refine au ho ?_
  exact hR1 (k+1) _ (by omega) (by omega) (.le (dA hct))
 ·obtain rfl:k=t.length:=by omega
  rw[List.take_of_length_le (Nat.le_refl _)]
  refine wW ?_
  exact hR.ro ⟨rfl,rfl⟩
def fx (x n:Nat):Bs:=(List.range n).map fun i=>UInt8.ofNat (x/256^i%256)
theorem xC (x n:Nat):(fx x n).length=n:=by simp[fx]
theorem V5 (x n:Nat):fx x (n+1)=fx x n++[UInt8.ofNat (x/256^n%256)]:=by simp[fx,List.range_succ]
theorem aml (x n:Nat) (hx:x<9223372036854775808) (hn:n≤1000):aM Tryz.prog 101 [.int .u64 x,.int .i64 n] (.str (fx x n)):=by
 refine Cod.amm (fun E R hN hR=>?_)
 refine wW ?_
 refine aZ hN (fun k:Nat=>⟨[(0,.int .u64 (x/256^k:Nat)),(1,.int .i64 n),(5,.sl 130007 0 k),(6,.int .i64 k)],[(130007,.arr 1 ((fx x k).map ub))]⟩) (fun k=>k≤n) (fun k=>n-k) 0 (.le (by simp(disch:=omega)only[go_sem,simprocAttr];simp[fx])) (by omega) ?_
 rintro k R1 hk hR1
 have hl:=xC x k
 by_cases hlt:k<n
 ·have hct:=V5 x k
  have hd:x/256^k≤x:=Nat.div_le_self _ _
  have hR1':=fun st'=>hR1 (k+1) st' (by omega) (by omega)
  have hp:x/256^(k+1)=x/256^k/256:=by rw[Nat.pow_succ,Nat.div_div_eq_div_mul]
  rw[hp]at hR1' 
  generalize x/256^k=x1 at *
  have e1:((x1:Nat):Int).tmod 256=((x1%256:Nat):Int):=by rw[gI (by omega)];omega
  have e2:((x1:Nat):Int).tdiv 256=((x1/256:Nat):Int):=by rw[jC (by omega)];omega
  have e3:((x1%256:Nat):Int)=((UInt8.ofNat (x1%256)).toNat:Int):=by rw[UInt8.toNat_ofNat'];omega
  have hu:=(UInt8.ofNat (x1%256)).toNat_lt
  rw[e3]at e1
  generalize UInt8.ofNat (x1%256)=c at *
  refine bo e1 e2 ?_
  exact hR1' _ (.le (by rw[hct];simp(disch:=omega)only[go_sem,simprocAttr];simp[ub]))
 ·obtain rfl:k=n:=by omega
  refine wW ?_
  exact hR.wk (h':=[]) (r':=.str (fx x k)) (ar':=[.undef,.undef]) rfl (.le vV) ⟨rfl,rfl⟩
theorem alq (t:Bs) {k:Nat} (h:k<t.length):t.reverse.take (k+1)=t.reverse.take k++[t.getD (t.length-1-k) 0]:=by
 rw[kn t.reverse (by simpa using h),List.getD_eq_getElem?_getD,List.getElem?_reverse h,List.getD_eq_getElem?_getD]
theorem aah (t:Bs) (ht:t.length≤1000000):aM Tryz.prog 100 [.str t] (.str t.reverse):=by
 refine Cod.aai (fun E R hN hR=>?_)
 refine wW ?_
 refine aZ hN (fun k:Nat=>⟨[(0,.str t),(3,.sl 131005 0 k),(4,.int .i64 ((t.length:Int)-1-(k:Int)))],[(131005,.arr 1 ((t.reverse.take k).map ub))]⟩) (fun k=>k≤t.length) (fun k=>t.length-k) 0 (.le vV) (by omega) ?_
 rintro k R1 hk hR1
 have hl:(t.reverse.take k).length=k:=by rw[List.length_take,List.length_reverse];omega
 by_cases hlt:k<t.length
 ·have hct:=alq t hlt
  have ei:(t.length:Int)-1-(k:Int)=((t.length-1-k:Nat):Int):=by omega
  have ei2:(t.length:Int)-1-(k:Int)-1=(t.length:Int)-1-((k+1:Nat):Int):=by omega
  have hu:=(t.getD (t.length-1-k) 0).toNat_lt
  rw[ei]
  refine wW ?_
  refine hR1 (k+1) _ (by omega) (by omega) (.le ?_)
  rw[hct,show((t.length:Int)-1-((k+1:Nat):Int))=((t.length-1-k:Nat):Int)-1 by omega]
  refine wW ?_
  simp[ub]
 ·obtain rfl:k=t.length:=by omega
  rw[List.take_of_length_le (by rw[List.length_reverse];omega)]at hl ⊢
  have ei:(t.length:Int)-1-(t.length:Int) = -1:=by omega
  rw[ei]
  refine wW ?_
  exact hR.wk (h':=[]) (r':=.str t.reverse) (ar':=[.undef]) rfl (.le vV) ⟨rfl,rfl⟩
theorem akh (x n:Nat) (hx:x<9223372036854775808) (hn:n≤1000):aM Tryz.prog 51 [.int .u64 x,.int .i64 n] (.str (fx x n).reverse):=by
 refine Cod.aki (fun E R hN hR=>?_)
 have h1:=aml x n hx hn
 have h2:=aah (fx x n) (by rw[xC];omega)
 refine wW ?_
 refine aA h1 rfl rfl ?_
 refine wW ?_
 refine aA h2 rfl rfl ?_
 refine wW ?_
 exact hR.ro ⟨rfl,rfl⟩
theorem Eb (u:Bs) (hu:u.length=4) (v:Nat) (hv:v<4294967296):eY u=v↔u=(fx v 4).reverse:=by
 obtain⟨a,b,c,d,rfl⟩:∃a b c d,u=[a,b,c,d]:=by
  match u,hu with
  | [a,b,c,d],_=>exact⟨a,b,c,d,rfl⟩
 have ha:=a.toNat_lt
 have hb:=b.toNat_lt
 have hc:=c.toNat_lt
 have hd:=d.toNat_lt
 have e1:eY [a,b,c,d]=256*(256*(256*a.toNat+b.toNat)+c.toNat)+d.toNat:=by simp[eY]
 have e2:(fx v 4).reverse=[UInt8.ofNat (v/16777216%256),UInt8.ofNat (v/65536%256),UInt8.ofNat (v/256%256),UInt8.ofNat (v%256)]:=by simp[fx,List.range_succ]
 rw[e1,e2]
 constructor
 ·intro h
  have f:∀(x:UInt8) (n:Nat),x.toNat=n→x=UInt8.ofNat n:=fun x n h=>by rw[←h,UInt8.ofNat_toNat]
  rw[f a _ (show a.toNat=v/16777216%256 by omega),f b _ (show b.toNat=v/65536%256 by omega),f c _ (show c.toNat=v/256%256 by omega),f d _ (show d.toNat=v%256 by omega)]
 ·intro h
  simp only[List.cons.injEq,and_true]at h
  obtain⟨rfl,rfl,rfl,rfl⟩:=h
  simp only[UInt8.toNat_ofNat']
  omega
def iP (a b:Nat):Bool:=decide (a%16=8)&&(decide (a/16≤7)&&(decide ((256*a+b)%31=0)&&decide (b/32%2=0)))
theorem CK {b:Nat} (h:b<256):bits .and .u8 (b:Int) 32=((b/32%2*32:Nat):Int):=by
 have:∀b:Nat,b<256→bits .and .u8 (b:Int) 32=((b/32%2*32:Nat):Int):=by decide +kernel
 exact this b h
theorem atL (a b:UInt8):aM Tryz.prog 69 [.int .u8 a.toNat,.int .u8 b.toNat] (.bool (iP a.toNat b.toNat)):=by
 refine Cod.atM (fun E R hN hR=>?_)
 have ha:=a.toNat_lt
 have hb:=b.toNat_lt
 have e1:=Bu a
 have e2:=Bt a
 have e3:=Zd (x:=a.toNat) (b:=b.toNat) (by omega) hb
 have e4:((256*a.toNat+b.toNat:Nat):Int).tmod 31=(((256*a.toNat+b.toNat)%31:Nat):Int):=by rw[gI (by omega)];omega
 have e5:=CK hb
 unfold iP at hR
 generalize a.toNat=x at *
 generalize b.toNat=y at *
 by_cases h1:x%16=8
 ·by_cases h2:x/16≤7
  ·by_cases h3:(256*x+y)%31=0
   ·by_cases h4:y/32%2=0
    ·rw[decide_eq_true h1,decide_eq_true h2,decide_eq_true h3,decide_eq_true h4]at hR
     rw[h1]at e1
     rw[h3]at e4
     rw[h4]at e5
     refine cO e1 e2 e3 e4 e5 ?_
     refine lU e1 e2 e3 e4 e5 ?_
     exact hR.ro ⟨rfl,rfl⟩
    ·rw[decide_eq_true h1,decide_eq_true h2,decide_eq_true h3,decide_eq_false h4]at hR
     rw[h1]at e1
     rw[h3]at e4
     rw[show y/32%2=1 by omega]at e5
     refine cO e1 e2 e3 e4 e5 ?_
     refine lU e1 e2 e3 e4 e5 ?_
     exact hR.ro ⟨rfl,rfl⟩
   ·rw[decide_eq_true h1,decide_eq_true h2,decide_eq_false h3]at hR
    rw[h1]at e1
    have hi:¬(((256*x+y)%31:Nat):Int)=0:=by omega
    refine cO e1 e2 e3 e4 hi ?_
    refine lU e1 e2 e3 e4 hi ?_
    exact hR.ro ⟨rfl,rfl⟩
  ·rw[decide_eq_true h1,decide_eq_false h2]at hR
   rw[h1]at e1
   have hi:¬((x/16:Nat):Int)≤7:=by omega
   refine cN e1 e2 hi ?_
   refine fK e1 e2 hi ?_
   exact hR.ro ⟨rfl,rfl⟩
 ·rw[decide_eq_false h1]at hR
  have hi:¬((x%16:Nat):Int)=8:=by omega
  refine bo e1 hi ?_
  refine dS e1 hi ?_
  exact hR.ro ⟨rfl,rfl⟩
theorem ag2 (x y:Nat) (hx:x<256) (hy:y<256):aM Tryz.prog 49 [.int .i64 x,.int .i64 y] (.bool (iP x y)):=by
 refine Cod.ag3 (fun E R hN hR=>?_)
 have e1:(x:Int).tmod 16=((x%16:Nat):Int):=by rw[gI (by omega)];omega
 have e2:(x:Int).tdiv 16=((x/16:Nat):Int):=by rw[jC (by omega)];omega
 have e4:(256*(x:Int)+(y:Int)).tmod 31=(((256*x+y)%31:Nat):Int):=by rw[gI (by omega)];omega
 have e5:(y:Int).tdiv 32=((y/32:Nat):Int):=by rw[jC (by omega)];omega
 have e6:((y/32:Nat):Int).tmod 2=((y/32%2:Nat):Int):=by rw[gI (by omega)];omega
 unfold iP at hR
 by_cases h1:x%16=8
 ·by_cases h2:x/16≤7
  ·by_cases h3:(256*x+y)%31=0
   ·by_cases h4:y/32%2=0
    ·rw[decide_eq_true h1,decide_eq_true h2,decide_eq_true h3,decide_eq_true h4]at hR
     rw[h1]at e1
     rw[h3]at e4
     rw[h4]at e6
     refine cO e1 e2 e4 e5 e6 ?_
     refine lU e1 e2 e4 e5 e6 ?_
     exact hR.ro ⟨rfl,rfl⟩
    ·rw[decide_eq_true h1,decide_eq_true h2,decide_eq_true h3,decide_eq_false h4]at hR
     rw[h1]at e1
     rw[h3]at e4
     rw[show y/32%2=1 by omega]at e6
     refine cO e1 e2 e4 e5 e6 ?_
     refine lU e1 e2 e4 e5 e6 ?_
     exact hR.ro ⟨rfl,rfl⟩
   ·rw[decide_eq_true h1,decide_eq_true h2,decide_eq_false h3]at hR
    rw[h1]at e1
    have hi:¬(((256*x+y)%31:Nat):Int)=0:=by omega
    refine dE e1 e2 e4 hi ?_
    refine kR e1 e2 e4 hi ?_
    exact hR.ro ⟨rfl,rfl⟩
  ·rw[decide_eq_true h1,decide_eq_false h2]at hR
   rw[h1]at e1
   have hi:¬((x/16:Nat):Int)≤7:=by omega
   refine cN e1 e2 hi ?_
   refine fK e1 e2 hi ?_
   exact hR.ro ⟨rfl,rfl⟩
 ·rw[decide_eq_false h1]at hR
  have hi:¬((x%16:Nat):Int)=8:=by omega
  refine bo e1 hi ?_
  refine dS e1 hi ?_
  exact hR.ro ⟨rfl,rfl⟩
end Go.Proofs.YtlkmppkcbhodaaaGreatDoor.Pk
namespace Go.Proofs.YtlkmppkcbhodaaaGreatDoor.Cod
open Eng Eng.Kz
set_option maxRecDepth 100000
abbrev Fa:AK:=.seq (.aa [m 10 0,m 11 1,m 12 1,.v 13 (.bQ [.str [],.int .i64 0,.int .u64 0,.int .i64 0,.int .i64 0] [(0,1,(.t 10)),(1,1,(.t 11)),(4,1,(.t 12))]),.eff 14 false 40014 (.box 5 (.t 13)),m 4 14] [4]) .ret
abbrev E9:AK:=.seq (.aa [m 5 1,m 6 0,.v 7 (.len true (.t 6)),.v 8 (.mm false (.t 5) (.t 7)),.v 9 (.mm true (ci 0) (.t 8)),m 1 9] [0,1]) Fa
abbrev E8:AK:=.seq (.aa [k 4 (.c (.lit (.pointer none)))] [0,1]) E9
abbrev ui:AK:=E8
theorem Fb:aD Tryz.prog 119 40000 2 ui [.tmp 4]:=⟨_,Tryz.func119,by kernel_rfl⟩
theorem Fe {h a0 a1 Post} (hp:aF Tryz.prog ui [.tmp 4] 2 [(0,a0),(1,a1)] h Post):Eng.Spec Tryz.prog 119 h [a0,a1] Post:=aG Fb rfl [(0,a0),(1,a1)] ⟨rfl,rfl,trivial⟩ hp
abbrev JG:AK:=.aa [m 51 0,.v 52 (.aq (.t 51)),.v 53 (.an false 3 1 (.t 52)),.v 54 (.ld false 1 (.t 53)),bi 55 .add 54 8,.v 56 (.aq (.t 51)),.v 57 (.an false 3 1 (.t 56)),.aO false 41000 (.st 1 (.t 57) (.t 55))] [0,1,2000000,2000001]
abbrev JF:AK:=.seq (.aa [m 44 0,.v 45 (.aq (.t 44)),.v 46 (.an false 1 1 (.t 45)),.v 47 (.ld false 1 (.t 46)),bi 48 .add 47 1,.v 49 (.aq (.t 44)),.v 50 (.an false 1 1 (.t 49)),.aO false 41000 (.st 1 (.t 50) (.t 48))] [0,1,2000000,2000001]) JG
abbrev JE:AK:=.seq (.aa [u 41022 22 (.ah (.t 0)),u 41023 23 (.aq (.t 22)),u 41024 24 (.an false 2 1 (.t 23)),u 41025 25 (.ld false 1 (.t 24)),u 41026 26 (.ah (.t 0)),u 41027 27 (.aq (.t 26)),u 41028 28 (.an false 0 1 (.t 27)),u 41029 29 (.ld false 1 (.t 28)),u 41030 30 (.ah (.t 0)),u 41031 31 (.aq (.t 30)),u 41032 32 (.an false 1 1 (.t 31)),u 41033 33 (.ld false 1 (.t 32)),u 41034 34 (.b7 (.t 29) (.t 33)),u 41035 35 (.bh .u64 (.t 34)),u 41036 36 (.ah (.t 0)),u 41037 37 (.aq (.t 36)),u 41038 38 (.an false 3 1 (.t 37)),u 41039 39 (.ld false 1 (.t 38)),u 41040 40 (.bin .shl (.t 35) (.t 39)),b 41 .or 25 40,.v 42 (.aq (.t 22)),.v 43 (.an false 2 1 (.t 42)),.aO false 41000 (.st 1 (.t 43) (.t 41))] [0,1,2000000,2000001]) JF
abbrev JH:AK:=.seq (.aa [m 4 0,.v 5 (.aq (.t 4)),.v 6 (.an false 3 1 (.t 5)),.v 7 (.ld false 1 (.t 6)),u 41008 8 (.ah (.t 1)),b 9 .lss 7 8,m 10 9,.af 11 10 true true 41011 (.ah (.t 0)),.af 12 10 true true 41012 (.aq (.t 11)),.af 13 10 true true 41013 (.an false 1 1 (.t 12)),.af 14 10 true true 41014 (.ld false 1 (.t 13)),.af 15 10 true true 41015 (.ah (.t 0)),.af 16 10 true true 41016 (.aq (.t 15)),.af 17 10 true true 41017 (.an false 0 1 (.t 16)),.af 18 10 true true 41018 (.ld false 1 (.t 17)),.af 19 10 true true 41019 (.len true (.t 18)),.af 20 10 true false 41020 (.bin .lss (.t 14) (.t 19)),.v 21 (.pick (.t 10) (.t 20) (.c (.bool false)))] [0,1,21,2000000,2000001]) (.cond (.t 21) .skip (.exit 0))
abbrev JD:AK:=.seq JH (.block 1 JE)
abbrev JI:AK:=.loop JD
abbrev fill:AK:=(.block 0 JI)
theorem JJ:aD Tryz.prog 202 41000 2 fill []:=⟨_,Tryz.func202,by kernel_rfl⟩
theorem JK {h a0 a1 Post} (hp:aF Tryz.prog fill [] 2 [(0,a0),(1,a1),(2000000,a0),(2000001,a1)] h Post):Eng.Spec Tryz.prog 202 h [a0,a1] Post:=aG JJ rfl [(0,a0),(1,a1),(2000000,a0),(2000001,a1)] ⟨rfl,rfl,rfl,rfl,trivial⟩ hp
abbrev Zt:AK:=.seq (.aa [u 42015 15 (.ah (.t 0)),u 42016 16 (.aq (.t 15)),u 42017 17 (.an false 2 1 (.t 16)),u 42018 18 (.ld false 1 (.t 17)),u 42019 19 (.ah (.t 1)),u 42020 20 (.bin .shl (.c (.int .u64 1)) (.t 19)),u 42021 21 (.bin .sub (.t 20) (.c (.int .u64 1))),u 42022 22 (.bin .and (.t 18) (.t 21)),u 42023 23 (.bh .u32 (.t 22)),u 42024 24 (.ah (.t 1)),u 42025 25 (.ah (.t 0)),u 42026 26 (.aq (.t 25)),u 42027 27 (.an false 3 1 (.t 26)),u 42028 28 (.ld false 1 (.t 27)),u 42029 29 (.mm false (.t 24) (.t 28)),u 42004 4 (.ah (.t 23)),m 5 29] [4,5,2000000,2000001]) .ret
abbrev Zs:AK:=.seq (.aa [m 12 0,m 13 1,.al (some 14) false 42014 202 [(.t 12),(.t 13)]] [0,1,2000000,2000001]) Zt
abbrev Zv:AK:=.seq (.aa [k 4 (.c (.int .u32 0)),k 5 (ci 0)] [4,5,2000000,2000001]) .ret
abbrev Zu:AK:=.seq (.aa [m 6 1,bi 7 .lss 6 0,m 8 7,.af 9 8 false false 42009 (.ah (.t 1)),.af 10 8 false false 42010 (.bin .gtr (.t 9) (ci 32)),.v 11 (.pick (.t 8) (.c (.bool true)) (.t 10))] [0,1,11,2000000,2000001]) (.cond (.t 11) Zv .skip)
abbrev Zr:AK:=.seq Zu Zs
abbrev Zq:AK:=.seq (.aa [k 4 (.c (.int .u32 0)),k 5 (ci 0)] [0,1,2000000,2000001]) Zr
abbrev yr:AK:=Zq
theorem Zw:aD Tryz.prog 183 42000 2 yr [.tmp 4,.tmp 5]:=⟨_,Tryz.func183,by kernel_rfl⟩
theorem Zy {h a0 a1 Post} (hp:aF Tryz.prog yr [.tmp 4,.tmp 5] 2 [(0,a0),(1,a1),(2000000,a0),(2000001,a1)] h Post):Eng.Spec Tryz.prog 183 h [a0,a1] Post:=aG Zw rfl [(0,a0),(1,a1),(2000000,a0),(2000001,a1)] ⟨rfl,rfl,rfl,rfl,trivial⟩ hp
abbrev apw:AK:=.seq (.aa [k 4 (.c (.bool true))] [4,2000000,2000001]) .ret
abbrev apv:AK:=.seq (.aa [m 28 0,.v 29 (.aq (.t 28)),.v 30 (.an false 3 1 (.t 29)),.v 31 (.ld false 1 (.t 30)),m 32 1,b 33 .sub 31 32,.v 34 (.aq (.t 28)),.v 35 (.an false 3 1 (.t 34)),.aO false 43000 (.st 1 (.t 35) (.t 33))] [2000000,2000001]) apw
abbrev apu:AK:=.seq (.aa [m 20 0,.v 21 (.aq (.t 20)),.v 22 (.an false 2 1 (.t 21)),.v 23 (.ld false 1 (.t 22)),m 24 1,b 25 .shr 23 24,.v 26 (.aq (.t 20)),.v 27 (.an false 2 1 (.t 26)),.aO false 43000 (.st 1 (.t 27) (.t 25))] [0,1,2000000,2000001]) apv
abbrev apy:AK:=.seq (.aa [k 4 (.c (.bool false))] [4,2000000,2000001]) .ret
abbrev apx:AK:=.seq (.aa [m 14 0,.v 15 (.aq (.t 14)),.v 16 (.an false 3 1 (.t 15)),.v 17 (.ld false 1 (.t 16)),m 18 1,b 19 .lss 17 18] [0,1,19,2000000,2000001]) (.cond (.t 19) apy .skip)
abbrev apt:AK:=.seq apx apu
abbrev aps:AK:=.seq (.aa [m 11 0,m 12 1,.al (some 13) false 43013 202 [(.t 11),(.t 12)]] [0,1,2000000,2000001]) apt
abbrev apr:AK:=.seq (.aa [k 4 (.c (.bool false))] [4,2000000,2000001]) .ret
abbrev apq:AK:=.seq (.aa [m 5 1,bi 6 .lss 5 0,m 7 6,.af 8 7 false false 43008 (.ah (.t 1)),.af 9 7 false false 43009 (.bin .gtr (.t 8) (ci 32)),.v 10 (.pick (.t 7) (.c (.bool true)) (.t 9))] [0,1,10,2000000,2000001]) (.cond (.t 10) apr .skip)
abbrev apo:AK:=.seq apq aps
abbrev apn:AK:=.seq (.aa [k 4 (.c (.bool false))] [0,1,2000000,2000001]) apo
abbrev skip:AK:=apn
theorem apz:aD Tryz.prog 184 43000 2 skip [.tmp 4]:=⟨_,Tryz.func184,by kernel_rfl⟩
theorem apB {h a0 a1 Post} (hp:aF Tryz.prog skip [.tmp 4] 2 [(0,a0),(1,a1),(2000000,a0),(2000001,a1)] h Post):Eng.Spec Tryz.prog 184 h [a0,a1] Post:=aG apz rfl [(0,a0),(1,a1),(2000000,a0),(2000001,a1)] ⟨rfl,rfl,rfl,rfl,trivial⟩ hp
abbrev akm:AK:=.seq (.aa [m 18 6,m 4 18,k 5 (.c (.bool true))] [4,5,2000000,2000001]) .ret
abbrev ako:AK:=.seq (.aa [k 4 (.c (.int .u32 0)),k 5 (.c (.bool false))] [4,5,2000000,2000001]) .ret
abbrev akn:AK:=.seq (.aa [m 14 0,m 15 1,.al (some 16) false 44016 184 [(.t 14),(.t 15)],.v 17 (.un .not (.t 16))] [6,17,2000000,2000001]) (.cond (.t 17) ako .skip)
abbrev akl:AK:=.seq akn akm
abbrev akk:AK:=.seq (.aa [m 9 0,m 10 1,.al (some 11) false 44011 183 [(.t 9),(.t 10)],m 8 11,.v 12 (.ext (.t 8) 0),.v 13 (.ext (.t 8) 1),m 6 12,m 7 13] [0,1,6,2000000,2000001]) akl
abbrev akj:AK:=.seq (.aa [k 4 (.c (.int .u32 0)),k 5 (.c (.bool false))] [0,1,2000000,2000001]) akk
abbrev zK:AK:=akj
theorem akp:aD Tryz.prog 161 44000 2 zK [.tmp 4,.tmp 5]:=⟨_,Tryz.func161,by kernel_rfl⟩
theorem akq {h a0 a1 Post} (hp:aF Tryz.prog zK [.tmp 4,.tmp 5] 2 [(0,a0),(1,a1),(2000000,a0),(2000001,a1)] h Post):Eng.Spec Tryz.prog 161 h [a0,a1] Post:=aG akp rfl [(0,a0),(1,a1),(2000000,a0),(2000001,a1)] ⟨rfl,rfl,rfl,rfl,trivial⟩ hp
abbrev aka:AK:=.aa [m 16 0,.v 17 (.aq (.t 16)),.v 18 (.an false 3 1 (.t 17)),.v 19 (.ld false 1 (.t 18)),m 20 2,b 21 .sub 19 20,.v 22 (.aq (.t 16)),.v 23 (.an false 3 1 (.t 22)),.aO false 45000 (.st 1 (.t 23) (.t 21))] [2000000]
abbrev aj9:AK:=.seq (.aa [m 8 0,.v 9 (.aq (.t 8)),.v 10 (.an false 2 1 (.t 9)),.v 11 (.ld false 1 (.t 10)),m 12 2,b 13 .shr 11 12,.v 14 (.aq (.t 8)),.v 15 (.an false 2 1 (.t 14)),.aO false 45000 (.st 1 (.t 15) (.t 13))] [0,2,2000000]) aka
abbrev aj8:AK:=.seq (.aa [m 3 0,.v 4 (.aq (.t 3)),.v 5 (.an false 3 1 (.t 4)),.v 6 (.ld false 1 (.t 5)),bi 7 .rem 6 8,m 2 7] [0,2,2000000]) aj9
abbrev zH:AK:=aj8
theorem akb:aD Tryz.prog 203 45000 1 zH []:=⟨_,Tryz.func203,by kernel_rfl⟩
theorem akd {h a0 Post} (hp:aF Tryz.prog zH [] 1 [(0,a0),(2000000,a0)] h Post):Eng.Spec Tryz.prog 203 h [a0] Post:=aG akb rfl [(0,a0),(2000000,a0)] ⟨rfl,rfl,trivial⟩ hp
abbrev akw:AK:=.seq (.aa [m 44 0,.v 45 (.aq (.t 44)),.v 46 (.an false 0 1 (.t 45)),.v 47 (.ld false 1 (.t 46)),m 48 6,m 49 6,m 50 1,b 51 .add 49 50,.v 52 (.bX (.t 47) (some (.t 48)) (some (.t 51))),m 4 52,k 5 (.c (.bool true))] [4,5,2000000,2000001]) .ret
abbrev akv:AK:=.seq (.aa [m 32 0,m 33 0,m 34 0,m 35 6,m 36 1,b 37 .add 35 36,.v 38 (.aq (.t 32)),.v 39 (.an false 1 1 (.t 38)),.aO false 46000 (.st 1 (.t 39) (.t 37)),.v 40 (.aq (.t 33)),.v 41 (.an false 2 1 (.t 40)),.aO false 46000 (.st 1 (.t 41) (.c (.int .u64 0))),.v 42 (.aq (.t 34)),.v 43 (.an false 3 1 (.t 42)),.aO false 46000 (.st 1 (.t 43) (ci 0))] [0,1,6,2000000,2000001]) akw
abbrev aky:AK:=.seq (.aa [k 4 (.c (.str [])),k 5 (.c (.bool false))] [4,5,2000000,2000001]) .ret
abbrev akx:AK:=.seq (.aa [m 19 1,bi 20 .lss 19 0,m 21 20,.af 22 21 false false 46022 (.ah (.t 1)),.af 23 21 false false 46023 (.ah (.t 0)),.af 24 21 false false 46024 (.aq (.t 23)),.af 25 21 false false 46025 (.an false 0 1 (.t 24)),.af 26 21 false false 46026 (.ld false 1 (.t 25)),.af 27 21 false false 46027 (.len true (.t 26)),.af 28 21 false false 46028 (.ah (.t 6)),.af 29 21 false false 46029 (.bin .sub (.t 27) (.t 28)),.af 30 21 false false 46030 (.bin .gtr (.t 22) (.t 29)),.v 31 (.pick (.t 21) (.c (.bool true)) (.t 30))] [0,1,6,31,2000000,2000001]) (.cond (.t 31) aky .skip)
abbrev aku:AK:=.seq akx akv
abbrev akt:AK:=.seq (.aa [u 46009 9 (.ah (.t 0)),u 46010 10 (.aq (.t 9)),u 46011 11 (.an false 1 1 (.t 10)),u 46012 12 (.ld false 1 (.t 11)),u 46013 13 (.ah (.t 0)),u 46014 14 (.aq (.t 13)),u 46015 15 (.an false 3 1 (.t 14)),u 46016 16 (.ld false 1 (.t 15)),u 46017 17 (.bin .quo (.t 16) (ci 8)),b 18 .sub 12 17,m 6 18] [0,1,6,2000000,2000001]) aku
abbrev aks:AK:=.seq (.aa [m 7 0,.al (some 8) false 46008 203 [(.t 7)]] [0,1,2000000,2000001]) akt
abbrev akr:AK:=.seq (.aa [k 4 (.c (.str [])),k 5 (.c (.bool false))] [0,1,2000000,2000001]) aks
abbrev zL:AK:=akr
theorem akz:aD Tryz.prog 185 46000 2 zL [.tmp 4,.tmp 5]:=⟨_,Tryz.func185,by kernel_rfl⟩
theorem akA {h a0 a1 Post} (hp:aF Tryz.prog zL [.tmp 4,.tmp 5] 2 [(0,a0),(1,a1),(2000000,a0),(2000001,a1)] h Post):Eng.Spec Tryz.prog 185 h [a0,a1] Post:=aG akz rfl [(0,a0),(1,a1),(2000000,a0),(2000001,a1)] ⟨rfl,rfl,rfl,rfl,trivial⟩ hp
abbrev aod:AK:=.seq (.aa [u 47003 3 (.ah (.t 0)),u 47004 4 (.aq (.t 3)),u 47005 5 (.an false 1 1 (.t 4)),u 47006 6 (.ld false 1 (.t 5)),u 47007 7 (.ah (.t 0)),u 47008 8 (.aq (.t 7)),u 47009 9 (.an false 3 1 (.t 8)),u 47010 10 (.ld false 1 (.t 9)),u 47011 11 (.bin .quo (.t 10) (ci 8)),u 47012 12 (.bin .sub (.t 6) (.t 11)),u 47013 13 (.ah (.t 0)),u 47014 14 (.aq (.t 13)),u 47015 15 (.an false 4 1 (.t 14)),u 47016 16 (.ld false 1 (.t 15)),b 17 .sub 12 16,m 2 17] [2,2000000]) .ret
abbrev aoc:AK:=.seq (.aa [k 2 (ci 0)] [0,2000000]) aod
abbrev Ap:AK:=aoc
theorem aof:aD Tryz.prog 121 47000 1 Ap [.tmp 2]:=⟨_,Tryz.func121,by kernel_rfl⟩
theorem aog {h a0 Post} (hp:aF Tryz.prog Ap [.tmp 2] 1 [(0,a0),(2000000,a0)] h Post):Eng.Spec Tryz.prog 121 h [a0] Post:=aG aof rfl [(0,a0),(2000000,a0)] ⟨rfl,rfl,trivial⟩ hp
abbrev al3:AK:=.seq (.aa [u 48003 3 (.ah (.t 0)),u 48004 4 (.aq (.t 3)),u 48005 5 (.an false 0 1 (.t 4)),u 48006 6 (.ld false 1 (.t 5)),u 48007 7 (.len true (.t 6)),u 48008 8 (.ah (.t 0)),u 48009 9 (.aq (.t 8)),u 48010 10 (.an false 1 1 (.t 9)),u 48011 11 (.ld false 1 (.t 10)),u 48012 12 (.bin .sub (.t 7) (.t 11)),u 48013 13 (.bin .mul (ci 8) (.t 12)),u 48014 14 (.ah (.t 0)),u 48015 15 (.aq (.t 14)),u 48016 16 (.an false 3 1 (.t 15)),u 48017 17 (.ld false 1 (.t 16)),b 18 .add 13 17,m 2 18] [2,2000000]) .ret
abbrev al2:AK:=.seq (.aa [k 2 (ci 0)] [0,2000000]) al3
abbrev zW:AK:=al2
theorem al5:aD Tryz.prog 187 48000 1 zW [.tmp 2]:=⟨_,Tryz.func187,by kernel_rfl⟩
theorem al6 {h a0 Post} (hp:aF Tryz.prog zW [.tmp 2] 1 [(0,a0),(2000000,a0)] h Post):Eng.Spec Tryz.prog 187 h [a0] Post:=aG al5 rfl [(0,a0),(2000000,a0)] ⟨rfl,rfl,trivial⟩ hp
abbrev MY:AK:=.seq (.aa [m 105 4,m 2 105,k 3 (ci 0)] [2,3]) .ret
abbrev Mm:AK:=.seq (.aa [k 2 (.c (.lit (.pointer none))),k 3 (ci 4)] [2,3]) .ret
abbrev MZ:AK:=.seq (.aa [m 86 7,bi 87 .gtr 86 0,m 88 87,.af 89 88 true false 49089 (.ah (.t 8)),.af 90 88 true false 49090 (.bin .gtr (.t 89) (ci 0)),.v 91 (.pick (.t 88) (.t 90) (.c (.bool false))),m 92 91,.af 93 92 true false 49093 (.ah (.t 8)),.af 94 92 true false 49094 (.bin .eql (.t 93) (ci 1)),.af 95 92 true false 49095 (.ah (.t 94)),.af 96 95 true false 49096 (.ah (.t 4)),.af 97 95 true false 49097 (.aq (.t 96)),.af 98 95 true false 49098 (.an true 1 16 (.t 97)),.af 99 95 true false 49099 (.eG 16 1 (.t 98) (ci 1)),.af 100 95 true false 49100 (.ld false 1 (.t 99)),.af 101 95 true false 49101 (.bin .eql (.t 100) (ci 1)),.af 102 92 true false 49102 (.pick (.t 95) (.t 101) (.c (.bool false))),.af 103 92 true false 49103 (.un .not (.t 102)),.v 104 (.pick (.t 92) (.t 103) (.c (.bool false)))] [4,104]) (.cond (.t 104) Mm .skip)
abbrev MX:AK:=.seq MZ MY
abbrev Mq:AK:=.aa [m 44 9,bi 45 .add 44 1,m 9 45] [0,4,7,8,9]
abbrev MA:AK:=.aa [bi 85 .add 67 1,m 67 85] [0,4,7,8,9,65,66,67]
abbrev ME:AK:=.aa [m 75 4,m 76 4,.v 77 (.aq (.t 76)),.v 78 (.an false 17 1 (.t 77)),.v 79 (.ld false 1 (.t 78)),m 80 10,.eff 81 false 49081 (.a6 1 [(.t 80)]),.eff 82 false 49082 (.app 1 8 (.t 79) (.t 81)),.v 83 (.aq (.t 75)),.v 84 (.an false 17 1 (.t 83)),.aO false 49000 (.st 1 (.t 84) (.t 82))] [0,4,7,8,9,65,66,67]
abbrev MC:AK:=.seq (.aa [m 72 11,m 73 9,b 74 .eql 72 73] [0,4,7,8,9,10,65,66,67,74]) (.cond (.t 74) ME .skip)
abbrev MB:AK:=.seq (.aa [m 69 67,.v 70 (.aP 1 (.t 65) (.t 67)),.v 71 (.ld false 1 (.t 70)),m 10 69,m 11 71] [0,4,7,8,9,10,11,65,66,67]) MC
abbrev Mz:AK:=.seq (.block 5 MB) MA
abbrev My:AK:=.seq (.cond (.t 68) .skip (.exit 4)) Mz
abbrev Mx:AK:=.seq (.aa [b 68 .lss 67 66] [0,4,7,8,9,65,66,67,68]) My
abbrev M1:AK:=.loop Mx
abbrev Mw:AK:=.seq (.aa [m 65 0,.v 66 (.len false (.t 65)),k 67 (ci 0)] [0,4,7,8,9,65,66,67]) (.block 4 M1)
abbrev MG:AK:=.seq (.aa [k 2 (.c (.lit (.pointer none))),k 3 (ci 4)] [2,3]) .ret
abbrev MF:AK:=.seq (.aa [m 63 7,bi 64 .lss 63 0] [0,4,7,8,9,64]) (.cond (.t 64) MG .skip)
abbrev Mt:AK:=.seq MF Mw
abbrev Ms:AK:=.seq (.aa [m 55 8,m 56 4,m 57 9,.v 58 (.aq (.t 56)),.v 59 (.an true 1 16 (.t 58)),.v 60 (.eG 16 1 (.t 59) (.t 57)),.v 61 (.ld false 1 (.t 60)),b 62 .add 55 61,m 8 62] [0,4,7,8,9]) Mt
abbrev Mr:AK:=.seq (.aa [m 46 7,.v 47 (.bin .mul (ci 2) (.t 46)),m 48 4,m 49 9,.v 50 (.aq (.t 48)),.v 51 (.an true 1 16 (.t 50)),.v 52 (.eG 16 1 (.t 51) (.t 49)),.v 53 (.ld false 1 (.t 52)),b 54 .sub 47 53,m 7 54] [0,4,7,8,9]) Ms
abbrev Mp:AK:=.seq (.block 3 Mr) Mq
abbrev MH:AK:=.seq (.aa [m 42 9,bi 43 .leq 42 15] [0,4,7,8,9,43]) (.cond (.t 43) .skip (.exit 2))
abbrev Mo:AK:=.seq MH Mp
abbrev M0:AK:=.loop Mo
abbrev Mn:AK:=.seq (.aa [k 9 (ci 1)] [0,4,7,8,9]) (.block 2 M0)
abbrev MU:AK:=.seq Mn MX
abbrev ML:AK:=.seq (.aa [k 7 (ci 1),k 8 (ci 0)] [0,4,7,8]) MU
abbrev MO:AK:=.aa [bi 41 .add 21 1,m 21 41] [0,4,19,20,21]
abbrev MR:AK:=.aa [m 31 4,u 49032 32 (.ah (.t 6)),u 49033 33 (.aq (.t 31)),u 49034 34 (.an true 1 16 (.t 33)),u 49035 35 (.eG 16 1 (.t 34) (.t 32)),u 49036 36 (.ld false 1 (.t 35)),u 49037 37 (.bin .add (.t 36) (ci 1)),u 49038 38 (.aq (.t 31)),u 49039 39 (.an true 1 16 (.t 38)),.v 40 (.eG 16 1 (.t 39) (.t 32)),.aO false 49000 (.st 1 (.t 40) (.t 37))] [0,4,19,20,21]
abbrev MT:AK:=.seq (.aa [k 2 (.c (.lit (.pointer none))),k 3 (ci 1)] [2,3]) .ret
abbrev MS:AK:=.seq (.aa [m 25 6,bi 26 .lss 25 0,m 27 26,.af 28 27 false false 49028 (.ah (.t 6)),.af 29 27 false false 49029 (.bin .gtr (.t 28) (ci 15)),.v 30 (.pick (.t 27) (.c (.bool true)) (.t 29))] [0,4,6,19,20,21,30]) (.cond (.t 30) MT .skip)
abbrev MQ:AK:=.seq MS MR
abbrev MP:AK:=.seq (.aa [.v 23 (.aP 1 (.t 19) (.t 21)),.v 24 (.ld false 1 (.t 23)),m 6 24] [0,4,6,19,20,21]) MQ
abbrev MN:AK:=.seq (.block 1 MP) MO
abbrev MM:AK:=.seq (.cond (.t 22) .skip (.exit 0)) MN
abbrev MJ:AK:=.seq (.aa [b 22 .lss 21 20] [0,4,19,20,21,22]) MM
abbrev M3:AK:=.loop MJ
abbrev MI:AK:=.seq (.aa [m 19 0,.v 20 (.len false (.t 19)),k 21 (ci 0)] [0,4,19,20,21]) (.block 0 M3)
abbrev MD:AK:=.seq MI ML
abbrev Mu:AK:=.seq (.aa [m 15 0,.eff 16 false 49016 (.app 1 8 (.c (.aj)) (.t 15)),.v 17 (.bQ [.aj,.int .i64 0,.int .i64 0,.int .i64 0,.int .i64 0,.int .i64 0,.int .i64 0,.int .i64 0,.int .i64 0,.int .i64 0,.int .i64 0,.int .i64 0,.int .i64 0,.int .i64 0,.int .i64 0,.int .i64 0,.int .i64 0,.aj] [(0,1,(.t 16))]),.eff 18 false 49018 (.box 18 (.t 17)),m 4 18] [0,4]) MD
abbrev MW:AK:=.seq (.aa [k 2 (.c (.lit (.pointer none))),k 3 (ci 2)] [2,3]) .ret
abbrev MV:AK:=.seq (.aa [m 12 0,.v 13 (.len false (.t 12)),bi 14 .gtr 13 320] [0,14]) (.cond (.t 14) MW .skip)
abbrev Ml:AK:=.seq MV Mu
abbrev Mk:AK:=.seq (.aa [k 2 (.c (.lit (.pointer none))),k 3 (ci 0)] [0]) Ml
abbrev oG:AK:=Mk
theorem M4:aD Tryz.prog 176 49000 1 oG [.tmp 2,.tmp 3]:=⟨_,Tryz.func176,by kernel_rfl⟩
theorem M5 {h a0 Post} (hp:aF Tryz.prog oG [.tmp 2,.tmp 3] 1 [(0,a0)] h Post):Eng.Spec Tryz.prog 176 h [a0] Post:=aG M4 rfl [(0,a0)] ⟨rfl,trivial⟩ hp
abbrev Nt:AK:=.seq (.aa [k 4 (ci 0),k 5 (ci 3)] [4,5,2000000,2000001]) .ret
abbrev Nx:AK:=.aa [m 21 9,bi 22 .add 21 1,m 9 22] [0,1,6,7,8,9,2000000,2000001]
abbrev Ng:AK:=.seq (.aa [m 72 8,m 73 0,.v 74 (.aq (.t 73)),.v 75 (.an false 17 1 (.t 74)),.v 76 (.ld false 1 (.t 75)),.v 77 (.len false (.t 76)),b 78 .eql 72 77] [0,1,6,7,8,9,78,2000000,2000001]) (.cond (.t 78) (.exit 0) .skip)
abbrev Nf:AK:=.seq (.aa [m 63 7,m 64 0,m 65 9,.v 66 (.aq (.t 64)),.v 67 (.an true 1 16 (.t 66)),.v 68 (.eG 16 1 (.t 67) (.t 65)),.v 69 (.ld false 1 (.t 68)),b 70 .add 63 69,.v 71 (.bin .shl (.t 70) (.c (.int .u64 1))),m 7 71] [0,1,6,7,8,9,2000000,2000001]) Ng
abbrev Nd:AK:=.seq (.aa [m 55 8,m 56 0,m 57 9,.v 58 (.aq (.t 56)),.v 59 (.an true 1 16 (.t 58)),.v 60 (.eG 16 1 (.t 59) (.t 57)),.v 61 (.ld false 1 (.t 60)),b 62 .add 55 61,m 8 62] [0,1,6,7,8,9,2000000,2000001]) Nf
abbrev Nk:AK:=.seq (.aa [m 46 0,.v 47 (.aq (.t 46)),.v 48 (.an false 17 1 (.t 47)),.v 49 (.ld false 1 (.t 48)),m 50 8,m 51 12,b 52 .add 50 51,.v 53 (.aP 1 (.t 49) (.t 52)),.v 54 (.ld false 1 (.t 53)),m 4 54,k 5 (ci 0)] [4,5,2000000,2000001]) .ret
abbrev Nj:AK:=.seq (.aa [m 38 12,m 39 0,m 40 9,.v 41 (.aq (.t 39)),.v 42 (.an true 1 16 (.t 41)),.v 43 (.eG 16 1 (.t 42) (.t 40)),.v 44 (.ld false 1 (.t 43)),b 45 .lss 38 44] [0,1,6,7,8,9,12,45,2000000,2000001]) (.cond (.t 45) Nk .skip)
abbrev Nh:AK:=.seq (.aa [m 35 6,m 36 7,b 37 .sub 35 36,m 12 37] [0,1,6,7,8,9,12,2000000,2000001]) Nj
abbrev Nc:AK:=.seq Nh Nd
abbrev Nb:AK:=.seq (.aa [m 30 6,.v 31 (.bin .shl (.t 30) (.c (.int .u64 1))),m 32 10,.v 33 (.bh .i64 (.t 32)),b 34 .or 31 33,m 6 34] [0,1,6,7,8,9,2000000,2000001]) Nc
abbrev Nn:AK:=.seq (.aa [k 4 (ci 0),k 5 (ci 6)] [4,5,2000000,2000001]) .ret
abbrev Nl:AK:=.seq (.aa [m 28 11,.v 29 (.un .not (.t 28))] [0,1,6,7,8,9,10,29,2000000,2000001]) (.cond (.t 29) Nn .skip)
abbrev Na:AK:=.seq Nl Nb
abbrev M9:AK:=.seq (.aa [m 24 1,.al (some 25) false 50025 161 [(.t 24),(ci 1)],m 23 25,.v 26 (.ext (.t 23) 0),.v 27 (.ext (.t 23) 1),m 10 26,m 11 27] [0,1,6,7,8,9,10,11,2000000,2000001]) Na
abbrev Nw:AK:=.seq (.block 1 M9) Nx
abbrev Np:AK:=.seq (.aa [m 19 9,bi 20 .leq 19 15] [0,1,6,7,8,9,20,2000000,2000001]) (.cond (.t 20) .skip (.exit 0))
abbrev Nv:AK:=.seq Np Nw
abbrev Ny:AK:=.loop Nv
abbrev Nu:AK:=.seq (.aa [k 9 (ci 1)] [0,1,6,7,8,9,2000000,2000001]) (.block 0 Ny)
abbrev Nr:AK:=.seq Nu Nt
abbrev Ni:AK:=.seq (.aa [k 6 (ci 0),k 7 (ci 0),k 8 (ci 0)] [0,1,6,7,8,2000000,2000001]) Nr
abbrev Ns:AK:=.seq (.aa [k 4 (ci 0),k 5 (ci 3)] [4,5,2000000,2000001]) .ret
abbrev Nq:AK:=.seq (.aa [m 13 0,.v 14 (.aq (.t 13)),.v 15 (.an false 17 1 (.t 14)),.v 16 (.ld false 1 (.t 15)),.v 17 (.len false (.t 16)),bi 18 .eql 17 0] [0,1,18,2000000,2000001]) (.cond (.t 18) Ns .skip)
abbrev M8:AK:=.seq Nq Ni
abbrev M7:AK:=.seq (.aa [k 4 (ci 0),k 5 (ci 0)] [0,1,2000000,2000001]) M8
abbrev dh:AK:=M7
theorem Nz:aD Tryz.prog 164 50000 2 dh [.tmp 4,.tmp 5]:=⟨_,Tryz.func164,by kernel_rfl⟩
theorem NA {h a0 a1 Post} (hp:aF Tryz.prog dh [.tmp 4,.tmp 5] 2 [(0,a0),(1,a1),(2000000,a0),(2000001,a1)] h Post):Eng.Spec Tryz.prog 164 h [a0,a1] Post:=aG Nz rfl [(0,a0),(1,a1),(2000000,a0),(2000001,a1)] ⟨rfl,rfl,rfl,rfl,trivial⟩ hp
abbrev aat:AK:=.seq (.aa [m 27 3,m 2 27] [2]) .ret
abbrev aax:AK:=.aa [m 11 4,bi 12 .add 11 1,m 4 12] [0,3,4]
abbrev aao:AK:=.aa [m 15 5,bi 16 .add 15 1,m 5 16] [0,3,4,5]
abbrev aap:AK:=.aa [m 17 3,m 18 0,m 19 4,.v 20 (.b7 (.t 18) (.t 19)),m 21 5,b 22 .shr 20 21,.v 23 (.bin .and (.t 22) (.c (.int .u8 1))),.v 24 (.bin .eql (.t 23) (.c (.int .u8 1))),.eff 25 false 51025 (.a6 1 [(.t 24)]),.eff 26 false 51026 (.app 1 1 (.t 17) (.t 25)),m 3 26] [0,3,4,5]
abbrev aan:AK:=.seq (.block 3 aap) aao
abbrev aaq:AK:=.seq (.aa [m 13 5,bi 14 .lss 13 8] [0,3,4,5,14]) (.cond (.t 14) .skip (.exit 2))
abbrev aam:AK:=.seq aaq aan
abbrev aaz:AK:=.loop aam
abbrev aal:AK:=.seq (.aa [k 5 (ci 0)] [0,3,4,5]) (.block 2 aaz)
abbrev aaw:AK:=.seq (.block 1 aal) aax
abbrev aar:AK:=.seq (.aa [m 7 4,m 8 0,.v 9 (.len true (.t 8)),b 10 .lss 7 9] [0,3,4,10]) (.cond (.t 10) .skip (.exit 0))
abbrev aav:AK:=.seq aar aaw
abbrev aay:AK:=.loop aav
abbrev aau:AK:=.seq (.aa [k 4 (ci 0)] [0,3,4]) (.block 0 aay)
abbrev aas:AK:=.seq aau aat
abbrev aak:AK:=.seq (.aa [.eff 6 false 51006 (.a6 1 []),m 3 6] [0,3]) aas
abbrev aaj:AK:=.seq (.aa [k 2 (.c (.aj))] [0]) aak
abbrev yC:AK:=aaj
theorem aaA:aD Tryz.prog 92 51000 1 yC [.tmp 2]:=⟨_,Tryz.func92,by kernel_rfl⟩
theorem aaC {h a0 Post} (hp:aF Tryz.prog yC [.tmp 2] 1 [(0,a0)] h Post):Eng.Spec Tryz.prog 92 h [a0] Post:=aG aaA rfl [(0,a0)] ⟨rfl,trivial⟩ hp
abbrev aaK:AK:=.seq (.aa [m 20 3,m 2 20] [2]) .ret
abbrev aaO:AK:=.aa [m 10 4,bi 11 .sub 10 1,m 4 11] [0,3,4]
abbrev aaH:AK:=.aa [m 18 3,.v 19 (.bin .add (.t 18) (.c (.int .u32 1))),m 3 19] [0,3,4]
abbrev aaG:AK:=.seq (.aa [m 14 0,m 15 4,.v 16 (.aP 1 (.t 14) (.t 15)),.v 17 (.ld false 1 (.t 16))] [0,3,4,17]) (.cond (.t 17) aaH .skip)
abbrev aaF:AK:=.seq (.aa [m 12 3,.v 13 (.bin .mul (.c (.int .u32 2)) (.t 12)),m 3 13] [0,3,4]) aaG
abbrev aaN:AK:=.seq (.block 1 aaF) aaO
abbrev aaI:AK:=.seq (.aa [m 8 4,bi 9 .geq 8 0] [0,3,4,9]) (.cond (.t 9) .skip (.exit 0))
abbrev aaM:AK:=.seq aaI aaN
abbrev aaP:AK:=.loop aaM
abbrev aaL:AK:=.seq (.aa [m 5 0,.v 6 (.len false (.t 5)),bi 7 .sub 6 1,m 4 7] [0,3,4]) (.block 0 aaP)
abbrev aaJ:AK:=.seq aaL aaK
abbrev aaE:AK:=.seq (.aa [k 3 (.c (.int .u32 0))] [0,3]) aaJ
abbrev aaD:AK:=.seq (.aa [k 2 (.c (.int .u32 0))] [0]) aaE
abbrev yD:AK:=aaD
theorem aaQ:aD Tryz.prog 143 52000 1 yD [.tmp 2]:=⟨_,Tryz.func143,by kernel_rfl⟩
theorem aaS {h a0 Post} (hp:aF Tryz.prog yD [.tmp 2] 1 [(0,a0)] h Post):Eng.Spec Tryz.prog 143 h [a0] Post:=aG aaQ rfl [(0,a0)] ⟨rfl,trivial⟩ hp
abbrev aaU:AK:=.seq (.aa [m 3 0,bi 4 .add 3 7,bi 5 .quo 4 8,bi 6 .mul 5 8,m 2 6] [2]) .ret
abbrev aaT:AK:=.seq (.aa [k 2 (ci 0)] [0]) aaU
abbrev yE:AK:=aaT
theorem aaV:aD Tryz.prog 99 53000 1 yE [.tmp 2]:=⟨_,Tryz.func99,by kernel_rfl⟩
theorem aaW {h a0 Post} (hp:aF Tryz.prog yE [.tmp 2] 1 [(0,a0)] h Post):Eng.Spec Tryz.prog 99 h [a0] Post:=aG aaV rfl [(0,a0)] ⟨rfl,trivial⟩ hp
abbrev abJ:AK:=.seq (.aa [k 2 (ci 0)] [2]) .ret
abbrev abL:AK:=.seq (.aa [k 2 (ci 4)] [2]) .ret
abbrev abK:AK:=.seq (.aa [m 44 3,bi 45 .gtr 44 32768,m 46 45,.af 47 46 false false 54047 (.ah (.t 3)),.af 48 46 false false 54048 (.bin .lss (.t 47) (ci 32768)),.af 49 46 false false 54049 (.ah (.t 48)),.af 50 49 true false 54050 (.ah (.t 4)),.af 51 49 true false 54051 (.bin .gtr (.t 50) (ci 0)),.af 52 46 false false 54052 (.pick (.t 49) (.t 51) (.c (.bool false))),.af 53 46 false false 54053 (.ah (.t 52)),.af 54 53 true false 54054 (.ah (.t 4)),.af 55 53 true false 54055 (.bin .eql (.t 54) (ci 1)),.af 56 53 true false 54056 (.ah (.t 55)),.af 57 56 true false 54057 (.ah (.t 5)),.af 58 56 true false 54058 (.bin .eql (.t 57) (ci 1)),.af 59 53 true false 54059 (.pick (.t 56) (.t 58) (.c (.bool false))),.af 60 53 true false 54060 (.un .not (.t 59)),.af 61 46 false false 54061 (.pick (.t 53) (.t 60) (.c (.bool false))),.v 62 (.pick (.t 46) (.c (.bool true)) (.t 61))] [62]) (.cond (.t 62) abL .skip)
abbrev abG:AK:=.seq abK abJ
abbrev abk:AK:=.aa [bi 43 .add 15 1,m 15 43] [3,4,5,13,14,15]
abbrev abq:AK:=.aa [m 41 5,bi 42 .add 41 1,m 5 42] [3,4,5,13,14,15]
abbrev abo:AK:=.seq (.aa [m 39 7,bi 40 .eql 39 1] [3,4,5,13,14,15,40]) (.cond (.t 40) abq .skip)
abbrev abw:AK:=.aa [m 36 3,m 37 8,b 38 .add 36 37,m 3 38] [3,4,5,7,13,14,15]
abbrev abB:AK:=.aa [m 32 9,bi 33 .add 32 1,m 9 33] [3,4,5,7,8,9,13,14,15]
abbrev abC:AK:=.aa [m 34 8,bi 35 .quo 34 2,m 8 35] [3,4,5,7,8,9,13,14,15]
abbrev abA:AK:=.seq (.block 3 abC) abB
abbrev abD:AK:=.seq (.aa [m 29 9,m 30 7,b 31 .lss 29 30] [3,4,5,7,8,9,13,14,15,31]) (.cond (.t 31) .skip (.exit 2))
abbrev abz:AK:=.seq abD abA
abbrev abO:AK:=.loop abz
abbrev abx:AK:=.seq (.aa [k 9 (ci 0)] [3,4,5,7,8,9,13,14,15]) (.block 2 abO)
abbrev abv:AK:=.seq abx abw
abbrev abu:AK:=.seq (.aa [k 8 (ci 32768)] [3,4,5,7,8,13,14,15]) abv
abbrev abt:AK:=.seq (.aa [m 27 4,bi 28 .add 27 1,m 4 28] [3,4,5,7,13,14,15]) abu
abbrev abr:AK:=.seq (.aa [m 25 7,bi 26 .gtr 25 0] [3,4,5,7,13,14,15,26]) (.cond (.t 26) abt .skip)
abbrev abn:AK:=.seq abr abo
abbrev abF:AK:=.seq (.aa [k 2 (ci 1)] [2]) .ret
abbrev abE:AK:=.seq (.aa [m 19 7,bi 20 .lss 19 0,m 21 20,.af 22 21 false false 54022 (.ah (.t 7)),.af 23 21 false false 54023 (.bin .gtr (.t 22) (ci 15)),.v 24 (.pick (.t 21) (.c (.bool true)) (.t 23))] [3,4,5,7,13,14,15,24]) (.cond (.t 24) abF .skip)
abbrev abm:AK:=.seq abE abn
abbrev abl:AK:=.seq (.aa [.v 17 (.aP 1 (.t 13) (.t 15)),.v 18 (.ld false 1 (.t 17)),m 7 18] [3,4,5,7,13,14,15]) abm
abbrev abj:AK:=.seq (.block 1 abl) abk
abbrev abh:AK:=.seq (.cond (.t 16) .skip (.exit 0)) abj
abbrev abg:AK:=.seq (.aa [b 16 .lss 15 14] [3,4,5,13,14,15,16]) abh
abbrev abN:AK:=.loop abg
abbrev abM:AK:=.seq (.aa [m 13 0,.v 14 (.len false (.t 13)),k 15 (ci 0)] [3,4,5,13,14,15]) (.block 0 abN)
abbrev aby:AK:=.seq abM abG
abbrev abp:AK:=.seq (.aa [k 3 (ci 0),k 4 (ci 0),k 5 (ci 0)] [0,3,4,5]) aby
abbrev abI:AK:=.seq (.aa [k 2 (ci 2)] [2]) .ret
abbrev abH:AK:=.seq (.aa [m 10 0,.v 11 (.len false (.t 10)),bi 12 .gtr 11 320] [0,12]) (.cond (.t 12) abI .skip)
abbrev abf:AK:=.seq abH abp
abbrev abe:AK:=.seq (.aa [k 2 (ci 0)] [0]) abf
abbrev yI:AK:=abe
theorem abP:aD Tryz.prog 148 54000 1 yI [.tmp 2]:=⟨_,Tryz.func148,by kernel_rfl⟩
theorem abQ {h a0 Post} (hp:aF Tryz.prog yI [.tmp 2] 1 [(0,a0)] h Post):Eng.Spec Tryz.prog 148 h [a0] Post:=aG abP rfl [(0,a0)] ⟨rfl,trivial⟩ hp
abbrev acr:AK:=.seq (.aa [m 58 3,m 2 58] [2]) .ret
abbrev abT:AK:=.aa [m 22 5,bi 23 .add 22 1,m 5 23] [0,3,4,5]
abbrev abZ:AK:=.aa [bi 57 .add 28 1,m 28 57] [0,3,4,5,26,27,28]
abbrev ab7:AK:=.aa [m 55 4,bi 56 .add 55 1,m 4 56] [0,3,4,5,26,27,28]
abbrev ab6:AK:=.seq (.aa [m 51 3,m 52 6,m 53 8,.v 54 (.aP 1 (.t 51) (.t 52)),.aO false 55000 (.st 1 (.t 54) (.t 53))] [0,3,4,5,26,27,28]) ab7
abbrev acd:AK:=.aa [m 41 10,bi 42 .add 41 1,m 10 42] [0,3,4,5,6,8,9,10,26,27,28]
abbrev acf:AK:=.aa [m 49 9,bi 50 .quo 49 2,m 9 50] [0,3,4,5,6,8,9,10,26,27,28]
abbrev ace:AK:=.seq (.aa [m 43 9,bi 44 .rem 43 2,bi 45 .eql 44 1,.eff 46 false 55046 (.a6 1 [(.t 45)]),m 47 8,.eff 48 false 55048 (.app 1 1 (.t 46) (.t 47)),m 8 48] [0,3,4,5,6,8,9,10,26,27,28]) acf
abbrev acb:AK:=.seq (.block 7 ace) acd
abbrev acg:AK:=.seq (.aa [m 38 10,m 39 5,b 40 .lss 38 39] [0,3,4,5,6,8,9,10,26,27,28,40]) (.cond (.t 40) .skip (.exit 6))
abbrev ab9:AK:=.seq acg acb
abbrev acy:AK:=.loop ab9
abbrev ab8:AK:=.seq (.aa [k 10 (ci 0)] [0,3,4,5,6,8,9,10,26,27,28]) (.block 6 acy)
abbrev ab5:AK:=.seq ab8 ab6
abbrev ab4:AK:=.seq (.aa [m 37 4,m 9 37] [0,3,4,5,6,8,9,26,27,28]) ab5
abbrev ab3:AK:=.seq (.aa [.eff 36 false 55036 (.a6 1 []),m 8 36] [0,3,4,5,6,8,26,27,28]) ab4
abbrev ach:AK:=.seq (.aa [m 33 7,m 34 5,b 35 .neq 33 34] [0,3,4,5,6,26,27,28,35]) (.cond (.t 35) (.exit 5) .skip)
abbrev ab2:AK:=.seq ach ab3
abbrev ab1:AK:=.seq (.aa [m 30 28,.v 31 (.aP 1 (.t 26) (.t 28)),.v 32 (.ld false 1 (.t 31)),m 6 30,m 7 32] [0,3,4,5,6,7,26,27,28]) ab2
abbrev abY:AK:=.seq (.block 5 ab1) abZ
abbrev abX:AK:=.seq (.cond (.t 29) .skip (.exit 4)) abY
abbrev abW:AK:=.seq (.aa [b 29 .lss 28 27] [0,3,4,5,26,27,28,29]) abX
abbrev acx:AK:=.loop abW
abbrev abV:AK:=.seq (.aa [m 26 0,.v 27 (.len false (.t 26)),k 28 (ci 0)] [0,3,4,5,26,27,28]) (.block 4 acx)
abbrev abU:AK:=.seq (.aa [m 24 4,.v 25 (.bin .mul (ci 2) (.t 24)),m 4 25] [0,3,4,5]) abV
abbrev acv:AK:=.seq (.block 3 abU) abT
abbrev acj:AK:=.seq (.aa [m 20 5,bi 21 .leq 20 15] [0,3,4,5,21]) (.cond (.t 21) .skip (.exit 2))
abbrev acu:AK:=.seq acj acv
abbrev acw:AK:=.loop acu
abbrev acs:AK:=.seq (.aa [k 5 (ci 1)] [0,3,4,5]) (.block 2 acw)
abbrev aci:AK:=.seq acs acr
abbrev aca:AK:=.seq (.aa [k 4 (ci 0)] [0,3,4]) aci
abbrev acp:AK:=.aa [bi 19 .add 14 1,m 14 19] [0,3,13,14]
abbrev acq:AK:=.aa [m 16 3,.eff 17 false 55017 (.a6 1 [(.c (.aj))]),.eff 18 false 55018 (.app 1 24 (.t 16) (.t 17)),m 3 18] [0,3,13,14]
abbrev aco:AK:=.seq (.block 1 acq) acp
abbrev acn:AK:=.seq (.cond (.t 15) .skip (.exit 0)) aco
abbrev acm:AK:=.seq (.aa [b 15 .lss 14 13] [0,3,13,14,15]) acn
abbrev acz:AK:=.loop acm
abbrev ack:AK:=.seq (.aa [m 12 0,.v 13 (.len false (.t 12)),k 14 (ci 0)] [0,3,13,14]) (.block 0 acz)
abbrev ab0:AK:=.seq ack aca
abbrev abS:AK:=.seq (.aa [.eff 11 false 55011 (.a6 1 []),m 3 11] [0,3]) ab0
abbrev abR:AK:=.seq (.aa [k 2 (.c (.aj))] [0]) abS
abbrev yJ:AK:=abR
theorem acA:aD Tryz.prog 145 55000 1 yJ [.tmp 2]:=⟨_,Tryz.func145,by kernel_rfl⟩
theorem acB {h a0 Post} (hp:aF Tryz.prog yJ [.tmp 2] 1 [(0,a0)] h Post):Eng.Spec Tryz.prog 145 h [a0] Post:=aG acA rfl [(0,a0)] ⟨rfl,trivial⟩ hp
abbrev aa5:AK:=.seq (.aa [k 4 (.c (.bool true))] [4]) .ret
abbrev aba:AK:=.aa [bi 25 .add 13 1,m 13 25] [0,1,12,13]
abbrev aa1:AK:=.seq (.aa [k 4 (.c (.bool false))] [4]) .ret
abbrev aa0:AK:=.seq (.aa [u 56016 16 (.ah (.t 1)),u 56017 17 (.ah (.t 5)),u 56018 18 (.aP 1 (.t 16) (.t 17)),u 56019 19 (.ld false 1 (.t 18)),u 56020 20 (.ah (.t 0)),u 56021 21 (.ah (.t 5)),u 56022 22 (.aP 1 (.t 20) (.t 21)),u 56023 23 (.ld false 1 (.t 22)),.v 24 (.beq true (.t 19) (.t 23))] [0,1,12,13,24]) (.cond (.t 24) aa1 .skip)
abbrev aaZ:AK:=.seq (.aa [m 15 13,m 5 15] [0,1,5,12,13]) aa0
abbrev aa9:AK:=.seq (.block 1 aaZ) aba
abbrev aa8:AK:=.seq (.cond (.t 14) .skip (.exit 0)) aa9
abbrev aa7:AK:=.seq (.aa [b 14 .lss 13 12] [0,1,12,13,14]) aa8
abbrev abb:AK:=.loop aa7
abbrev aa6:AK:=.seq (.aa [m 11 1,.v 12 (.len false (.t 11)),k 13 (ci 0)] [0,1,12,13]) (.block 0 abb)
abbrev aa4:AK:=.seq aa6 aa5
abbrev aa3:AK:=.seq (.aa [k 4 (.c (.bool false))] [4]) .ret
abbrev aa2:AK:=.seq (.aa [m 6 1,.v 7 (.len false (.t 6)),m 8 0,.v 9 (.len false (.t 8)),b 10 .gtr 7 9] [0,1,10]) (.cond (.t 10) aa3 .skip)
abbrev aaY:AK:=.seq aa2 aa4
abbrev aaX:AK:=.seq (.aa [k 4 (.c (.bool false))] [0,1]) aaY
abbrev yG:AK:=aaX
theorem abc:aD Tryz.prog 201 56000 2 yG [.tmp 4]:=⟨_,Tryz.func201,by kernel_rfl⟩
theorem abd {h a0 a1 Post} (hp:aF Tryz.prog yG [.tmp 4] 2 [(0,a0),(1,a1)] h Post):Eng.Spec Tryz.prog 201 h [a0,a1] Post:=aG abc rfl [(0,a0),(1,a1)] ⟨rfl,rfl,trivial⟩ hp
abbrev acY:AK:=.seq (.aa [k 4 (ci 0),k 5 (ci 0),k 6 (ci 3)] [4,5,6]) .ret
abbrev acF:AK:=.aa [bi 47 .add 33 1,m 33 47] [1,31,32,33]
abbrev acI:AK:=.seq (.aa [k 4 (ci 0),k 5 (ci 0),k 6 (ci 6)] [4,5,6]) .ret
abbrev acH:AK:=.seq (.aa [m 37 11,.v 38 (.len false (.t 37)),m 39 1,.v 40 (.len false (.t 39)),b 41 .gtr 38 40,m 42 41,.af 43 42 true false 57043 (.ah (.t 11)),.af 44 42 true false 57044 (.ah (.t 1)),.dT 45 42 true false 57045 201 [(.t 43),(.t 44)],.v 46 (.pick (.t 42) (.t 45) (.c (.bool false)))] [1,31,32,33,46]) (.cond (.t 46) acI .skip)
abbrev acG:AK:=.seq (.aa [.v 35 (.aP 1 (.t 31) (.t 33)),.v 36 (.ld false 1 (.t 35)),m 11 36] [1,11,31,32,33]) acH
abbrev acE:AK:=.seq (.block 3 acG) acF
abbrev ac1:AK:=.seq (.cond (.t 34) .skip (.exit 2)) acE
abbrev ac0:AK:=.seq (.aa [b 34 .lss 33 32] [1,31,32,33,34]) ac1
abbrev ac2:AK:=.loop ac0
abbrev acZ:AK:=.seq (.aa [m 31 0,.v 32 (.len false (.t 31)),k 33 (ci 0)] [1,31,32,33]) (.block 2 ac2)
abbrev acX:AK:=.seq acZ acY
abbrev acL:AK:=.seq (.aa [k 4 (ci 0),k 5 (ci 0),k 6 (ci 3)] [4,5,6]) .ret
abbrev acJ:AK:=.seq (.aa [m 29 7,.v 30 (.un .not (.t 29))] [0,1,30]) (.cond (.t 30) acL .skip)
abbrev acT:AK:=.seq acJ acX
abbrev acQ:AK:=.aa [bi 28 .add 14 1,m 14 28] [0,1,7,12,13,14]
abbrev acW:AK:=.seq (.aa [m 25 8,m 26 9,.v 27 (.len false (.t 26)),m 4 25,m 5 27,k 6 (ci 0)] [4,5,6]) .ret
abbrev acV:AK:=.seq (.aa [m 22 1,m 23 9,.al (some 24) false 57024 201 [(.t 22),(.t 23)]] [0,1,7,8,9,12,13,14,24]) (.cond (.t 24) acW .skip)
abbrev acU:AK:=.seq (.aa [k 7 (.c (.bool true))] [0,1,7,8,9,12,13,14]) acV
abbrev acS:AK:=.seq (.aa [m 19 9,.v 20 (.len false (.t 19)),bi 21 .gtr 20 0] [0,1,7,8,9,12,13,14,21]) (.cond (.t 21) acU .skip)
abbrev acR:AK:=.seq (.aa [m 16 14,.v 17 (.aP 1 (.t 12) (.t 14)),.v 18 (.ld false 1 (.t 17)),m 8 16,m 9 18] [0,1,7,8,9,12,13,14]) acS
abbrev acP:AK:=.seq (.block 1 acR) acQ
abbrev acO:AK:=.seq (.cond (.t 15) .skip (.exit 0)) acP
abbrev acN:AK:=.seq (.aa [b 15 .lss 14 13] [0,1,7,12,13,14,15]) acO
abbrev ac3:AK:=.loop acN
abbrev acM:AK:=.seq (.aa [m 12 0,.v 13 (.len false (.t 12)),k 14 (ci 0)] [0,1,7,12,13,14]) (.block 0 ac3)
abbrev acK:AK:=.seq acM acT
abbrev acD:AK:=.seq (.aa [k 7 (.c (.bool false))] [0,1,7]) acK
abbrev acC:AK:=.seq (.aa [k 4 (ci 0),k 5 (ci 0),k 6 (ci 0)] [0,1]) acD
abbrev yK:AK:=acC
theorem ac4:aD Tryz.prog 179 57000 2 yK [.tmp 4,.tmp 5,.tmp 6]:=⟨_,Tryz.func179,by kernel_rfl⟩
theorem ac6 {h a0 a1 Post} (hp:aF Tryz.prog yK [.tmp 4,.tmp 5,.tmp 6] 2 [(0,a0),(1,a1)] h Post):Eng.Spec Tryz.prog 179 h [a0,a1] Post:=aG ac4 rfl [(0,a0),(1,a1)] ⟨rfl,rfl,trivial⟩ hp
end Go.Proofs.YtlkmppkcbhodaaaGreatDoor.Cod
