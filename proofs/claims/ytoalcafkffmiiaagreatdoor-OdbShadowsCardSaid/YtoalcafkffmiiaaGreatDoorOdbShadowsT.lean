/- The proof, part 20 of 43. -/
import Derived.Test.YtoalcafkffmiiaaGreatDoorOdbShadowsS
import Derived.Test.YtoalcafkffmiiaaGreatDoorProg
import Derived.KernelRfl
set_option linter.all false
namespace Go.Proofs.YtoalcafkffmiiaaGreatDoor.Cod
open Eng Eng.Kz
set_option maxRecDepth 100000
abbrev ari:AK:=.seq (.aa [m 9 0,m 10 5,b 11 .shl 9 10,m 12 0,m 13 5,.v 14 (.bin .sub (.c (.int .u64 32)) (.t 13)),b 15 .shr 12 14,b 16 .or 11 15,m 4 16] [4]) .ret
abbrev arh:AK:=.seq (.aa [m 6 1,.v 7 (.bc .u64 (.t 6)),.v 8 (.bin .and (.t 7) (.c (.int .u64 31))),m 5 8] [0,5]) ari
abbrev arf:AK:=.seq (.aa [k 4 (.c (.int .u32 0))] [0,1]) arh
abbrev rotl:AK:=arf
theorem arj:aB Tryz.prog 208 101000 2 rotl [.tmp 4]:=⟨_,Tryz.func208,by kernel_rfl⟩
theorem ark {h a0 a1 Post} (hp:aD Tryz.prog rotl [.tmp 4] 2 [(0,a0),(1,a1)] h Post):Eng.Spec Tryz.prog 208 h [a0,a1] Post:=aF arj rfl [(0,a0),(1,a1)] ⟨rfl,rfl,trivial⟩ hp
abbrev ayu:AK:=.seq (.aa [u 102003 3 (.ah (.t 0)),u 102004 4 (.b7 (.t 3) (ci 0)),u 102005 5 (.bc .u32 (.t 4)),u 102006 6 (.bin .shl (.t 5) (.c (.int .u64 24))),u 102007 7 (.ah (.t 0)),u 102008 8 (.b7 (.t 7) (ci 1)),u 102009 9 (.bc .u32 (.t 8)),u 102010 10 (.bin .shl (.t 9) (.c (.int .u64 16))),u 102011 11 (.bin .or (.t 6) (.t 10)),u 102012 12 (.ah (.t 0)),u 102013 13 (.b7 (.t 12) (ci 2)),u 102014 14 (.bc .u32 (.t 13)),u 102015 15 (.bin .shl (.t 14) (.c (.int .u64 8))),u 102016 16 (.bin .or (.t 11) (.t 15)),u 102017 17 (.ah (.t 0)),u 102018 18 (.b7 (.t 17) (ci 3)),u 102019 19 (.bc .u32 (.t 18)),b 20 .or 16 19,m 2 20] [2]) .ret
abbrev ayt:AK:=.seq (.aa [k 2 (.c (.int .u32 0))] [0]) ayu
abbrev word:AK:=ayt
theorem ayv:aB Tryz.prog 207 102000 1 word [.tmp 2]:=⟨_,Tryz.func207,by kernel_rfl⟩
theorem ayx {h a0 Post} (hp:aD Tryz.prog word [.tmp 2] 1 [(0,a0)] h Post):Eng.Spec Tryz.prog 207 h [a0] Post:=aF ayv rfl [(0,a0)] ⟨rfl,trivial⟩ hp
abbrev av9:AK:=.seq (.aa [.eff 1 false 103001 (.ba 1 [(.c (.int .u32 1732584193)),(.c (.int .u32 4023233417)),(.c (.int .u32 2562383102)),(.c (.int .u32 271733878)),(.c (.int .u32 3285377520))]),m 0 1] [0]) .ret
abbrev av8:AK:=.seq (.aa [k 0 (.c (.al))] []) av9
abbrev DG:AK:=av8
theorem awa:aB Tryz.prog 168 103000 0 DG [.tmp 0]:=⟨_,Tryz.func168,by kernel_rfl⟩
theorem awb {h Post} (hp:aD Tryz.prog DG [.tmp 0] 0 [] h Post):Eng.Spec Tryz.prog 168 h [] Post:=aF awa rfl [] trivial hp
abbrev Ia:AK:=.aa [m 142 0,.v 143 (.aM 1 (.t 142) (ci 4)),.v 144 (.ld false 1 (.t 143)),m 145 10,b 146 .add 144 145,.v 147 (.aM 1 (.t 142) (ci 4)),.aL false 104000 (.st 1 (.t 147) (.t 146))] [2000000,2000001,2000002,2000003]
abbrev H9:AK:=.seq (.aa [m 136 0,.v 137 (.aM 1 (.t 136) (ci 3)),.v 138 (.ld false 1 (.t 137)),m 139 9,b 140 .add 138 139,.v 141 (.aM 1 (.t 136) (ci 3)),.aL false 104000 (.st 1 (.t 141) (.t 140))] [0,10,2000000,2000001,2000002,2000003]) Ia
abbrev H8:AK:=.seq (.aa [m 130 0,.v 131 (.aM 1 (.t 130) (ci 2)),.v 132 (.ld false 1 (.t 131)),m 133 8,b 134 .add 132 133,.v 135 (.aM 1 (.t 130) (ci 2)),.aL false 104000 (.st 1 (.t 135) (.t 134))] [0,9,10,2000000,2000001,2000002,2000003]) H9
abbrev H7:AK:=.seq (.aa [m 124 0,.v 125 (.aM 1 (.t 124) (ci 1)),.v 126 (.ld false 1 (.t 125)),m 127 7,b 128 .add 126 127,.v 129 (.aM 1 (.t 124) (ci 1)),.aL false 104000 (.st 1 (.t 129) (.t 128))] [0,8,9,10,2000000,2000001,2000002,2000003]) H8
abbrev wC:AK:=.seq (.aa [m 118 0,.v 119 (.aM 1 (.t 118) (ci 0)),.v 120 (.ld false 1 (.t 119)),m 121 6,b 122 .add 120 121,.v 123 (.aM 1 (.t 118) (ci 0)),.aL false 104000 (.st 1 (.t 123) (.t 122))] [0,7,8,9,10,2000000,2000001,2000002,2000003]) H7
abbrev wz:AK:=.aa [bi 117 .add 66 1,m 66 117] [0,6,7,8,9,10,65,66,2000000,2000001,2000002,2000003]
abbrev sc:AK:=.aa [m 102 6,.aj (some 103) false 104103 208 [(.t 102),(ci 5)],m 104 13,b 105 .add 103 104,m 106 10,b 107 .add 105 106,m 108 14,b 109 .add 107 108,m 110 12,b 111 .add 109 110,m 112 6,m 113 7,.aj (some 114) false 104114 208 [(.t 113),(ci 30)],m 115 8,m 116 9,m 6 111,m 7 112,m 8 114,m 9 115,m 10 116] [0,6,7,8,9,10,65,66,2000000,2000001,2000002,2000003]
abbrev HQ:AK:=.aa [m 79 7,m 80 8,b 81 .and 79 80,m 82 7,.v 83 (.un .xor (.t 82)),m 84 9,b 85 .and 83 84,b 86 .or 81 85,m 13 86,k 14 (.c (.int .u32 1518500249))] [0,6,7,8,9,10,12,13,14,65,66,2000000,2000001,2000002,2000003]
abbrev HS:AK:=.aa [k 14 (.c (.int .u32 1859775393))] [0,6,7,8,9,10,12,13,14,65,66,2000000,2000001,2000002,2000003]
abbrev HV:AK:=.aa [m 91 7,m 92 8,b 93 .and 91 92,m 94 7,m 95 9,b 96 .and 94 95,b 97 .or 93 96,m 98 8,m 99 9,b 100 .and 98 99,b 101 .or 97 100,m 13 101,k 14 (.c (.int .u32 2400959708))] [0,6,7,8,9,10,12,13,14,65,66,2000000,2000001,2000002,2000003]
abbrev HT:AK:=.seq (.aa [bi 90 .eql 76 2,m 89 90] [0,6,7,8,9,10,12,13,14,65,66,89,2000000,2000001,2000002,2000003]) (.cond (.t 89) HV .skip)
abbrev HR:AK:=.seq (.aa [bi 88 .eql 76 1,m 87 88] [0,6,7,8,9,10,12,13,14,65,66,76,87,2000000,2000001,2000002,2000003]) (.cond (.t 87) HS HT)
abbrev HO:AK:=.seq (.aa [bi 78 .eql 76 0,m 77 78] [0,6,7,8,9,10,12,13,14,65,66,76,77,2000000,2000001,2000002,2000003]) (.cond (.t 77) HQ HR)
abbrev wB:AK:=.seq (.aa [m 75 11,bi 76 .quo 75 20] [0,6,7,8,9,10,12,13,14,65,66,76,2000000,2000001,2000002,2000003]) (.block 4 HO)
def wA:AK:=.seq wB (.a8 sc)
abbrev HM:AK:=.seq (.aa [m 70 7,m 71 8,b 72 .xor 70 71,m 73 9,b 74 .xor 72 73,m 13 74,k 14 (.c (.int .u32 3395469782))] [0,6,7,8,9,10,11,12,13,14,65,66,2000000,2000001,2000002,2000003]) wA
abbrev HL:AK:=.seq (.aa [m 68 66,.v 69 (.mr 80 (.t 65) (.t 66)),m 11 68,m 12 69] [0,6,7,8,9,10,11,12,65,66,2000000,2000001,2000002,2000003]) HM
abbrev HK:AK:=.seq (.block 3 HL) wz
abbrev HJ:AK:=.seq (.cond (.t 67) .skip (.exit 2)) HK
abbrev HI:AK:=.seq (.aa [bi 67 .lss 66 80] [0,6,7,8,9,10,65,66,67,2000000,2000001,2000002,2000003]) HJ
abbrev Ic:AK:=.loop HI
abbrev Ib:AK:=.seq (.aa [.v 65 (.ld true 80 (.t 4)),k 66 (ci 0)] [0,6,7,8,9,10,65,66,2000000,2000001,2000002,2000003]) (.block 2 Ic)
abbrev HU:AK:=.seq Ib wC
abbrev HN:AK:=.seq (.aa [u 104050 50 (.ah (.t 0)),u 104051 51 (.aM 1 (.t 50) (ci 0)),u 104052 52 (.ld false 1 (.t 51)),u 104053 53 (.ah (.t 0)),u 104054 54 (.aM 1 (.t 53) (ci 1)),u 104055 55 (.ld false 1 (.t 54)),u 104056 56 (.ah (.t 0)),u 104057 57 (.aM 1 (.t 56) (ci 2)),u 104058 58 (.ld false 1 (.t 57)),u 104059 59 (.ah (.t 0)),u 104060 60 (.aM 1 (.t 59) (ci 3)),u 104061 61 (.ld false 1 (.t 60)),u 104062 62 (.ah (.t 0)),u 104063 63 (.aM 1 (.t 62) (ci 4)),u 104064 64 (.ld false 1 (.t 63)),u 104006 6 (.ah (.t 52)),u 104007 7 (.ah (.t 55)),u 104008 8 (.ah (.t 58)),u 104009 9 (.ah (.t 61)),m 10 64] [0,4,6,7,8,9,10,2000000,2000001,2000002,2000003]) HU
abbrev H0:AK:=.aa [bi 49 .add 15 1,m 15 49] [0,1,4,15,2000000,2000001,2000002,2000003]
abbrev H4:AK:=.aa [m 20 5,m 21 1,m 22 5,.v 23 (.bin .mul (ci 4) (.t 22)),.v 24 (.bA (.t 21) (some (.t 23)) none),.aj (some 25) false 104025 207 [(.t 24)],.v 26 (.dz 80 1 (.t 4) (.t 20)),.aL false 104000 (.st 1 (.t 26) (.t 25))] [0,1,4,15,2000000,2000001,2000002,2000003]
abbrev H6:AK:=.aa [u 104027 27 (.ah (.t 5)),u 104028 28 (.ah (.t 5)),u 104029 29 (.bin .sub (.t 28) (ci 3)),u 104030 30 (.dz 80 1 (.t 4) (.t 29)),u 104031 31 (.ld false 1 (.t 30)),u 104032 32 (.ah (.t 5)),u 104033 33 (.bin .sub (.t 32) (ci 8)),u 104034 34 (.dz 80 1 (.t 4) (.t 33)),u 104035 35 (.ld false 1 (.t 34)),u 104036 36 (.bin .xor (.t 31) (.t 35)),u 104037 37 (.ah (.t 5)),u 104038 38 (.bin .sub (.t 37) (ci 14)),u 104039 39 (.dz 80 1 (.t 4) (.t 38)),u 104040 40 (.ld false 1 (.t 39)),u 104041 41 (.bin .xor (.t 36) (.t 40)),u 104042 42 (.ah (.t 5)),u 104043 43 (.bin .sub (.t 42) (ci 16)),u 104044 44 (.dz 80 1 (.t 4) (.t 43)),u 104045 45 (.ld false 1 (.t 44)),b 46 .xor 41 45,.aj (some 47) false 104047 208 [(.t 46),(ci 1)],.v 48 (.dz 80 1 (.t 4) (.t 27)),.aL false 104000 (.st 1 (.t 48) (.t 47))] [0,1,4,15,2000000,2000001,2000002,2000003]
abbrev H3:AK:=.seq (.aa [m 18 5,bi 19 .lss 18 16] [0,1,4,5,15,19,2000000,2000001,2000002,2000003]) (.cond (.t 19) H4 H6)
abbrev H2:AK:=.seq (.aa [m 17 15,m 5 17] [0,1,4,5,15,2000000,2000001,2000002,2000003]) H3
abbrev HZ:AK:=.seq (.block 1 H2) H0
abbrev HY:AK:=.seq (.cond (.t 16) .skip (.exit 0)) HZ
abbrev HX:AK:=.seq (.aa [bi 16 .lss 15 80] [0,1,4,15,16,2000000,2000001,2000002,2000003]) HY
abbrev Ie:AK:=.loop HX
abbrev HW:AK:=.seq (.aa [k 15 (ci 0)] [0,1,4,15,2000000,2000001,2000002,2000003]) (.block 0 Ie)
abbrev HH:AK:=.seq HW HN
abbrev HG:AK:=.seq (.aa [.eff 4 false 104004 (.alloc [.int .u32 0,.int .u32 0,.int .u32 0,.int .u32 0,.int .u32 0,.int .u32 0,.int .u32 0,.int .u32 0,.int .u32 0,.int .u32 0,.int .u32 0,.int .u32 0,.int .u32 0,.int .u32 0,.int .u32 0,.int .u32 0,.int .u32 0,.int .u32 0,.int .u32 0,.int .u32 0,.int .u32 0,.int .u32 0,.int .u32 0,.int .u32 0,.int .u32 0,.int .u32 0,.int .u32 0,.int .u32 0,.int .u32 0,.int .u32 0,.int .u32 0,.int .u32 0,.int .u32 0,.int .u32 0,.int .u32 0,.int .u32 0,.int .u32 0,.int .u32 0,.int .u32 0,.int .u32 0,.int .u32 0,.int .u32 0,.int .u32 0,.int .u32 0,.int .u32 0,.int .u32 0,.int .u32 0,.int .u32 0,.int .u32 0,.int .u32 0,.int .u32 0,.int .u32 0,.int .u32 0,.int .u32 0,.int .u32 0,.int .u32 0,.int .u32 0,.int .u32 0,.int .u32 0,.int .u32 0,.int .u32 0,.int .u32 0,.int .u32 0,.int .u32 0,.int .u32 0,.int .u32 0,.int .u32 0,.int .u32 0,.int .u32 0,.int .u32 0,.int .u32 0,.int .u32 0,.int .u32 0,.int .u32 0,.int .u32 0,.int .u32 0,.int .u32 0,.int .u32 0,.int .u32 0,.int .u32 0])] [0,1,4,2000000,2000001,2000002,2000003]) HH
abbrev wy:AK:=HG
theorem oT (P:Program) (E:Env) (Q:KQ) (st:St) :
 (vcW P E wA Q st=vcW P E wB (KQ.seq P E (.a8 sc) Q) st):=
 rfl
theorem Ih:aB Tryz.prog 169 104000 2 wy []:=⟨_,Tryz.func169,by kernel_rfl⟩
theorem Ij {h a0 a1 g0 g1 Post} (hp:aD Tryz.prog wy [] 4 [(0,a0),(1,a1),(2000000,a0),(2000001,a1),(2000002,g0),(2000003,g1)] h Post):Eng.gQ Tryz.prog 169 2 h [a0,a1,g0,g1] Post:=avM Ih (Nat.le_of_ble_eq_true rfl) [(0,a0),(1,a1),(2000000,a0),(2000001,a1),(2000002,g0),(2000003,g1)] ⟨rfl,rfl,rfl,rfl,rfl,rfl,trivial⟩ hp
abbrev RQ:AK:=.aa [m 47 0,m 48 1,.v 49 (.aq (.t 47)),.v 50 (.ak false 1 1 (.t 49)),.aL false 105000 (.st 1 (.t 50) (.t 48))] [2000000,2000001,2000002,2000003]
abbrev RW:AK:=.aa [m 45 1,.v 46 (.bA (.t 45) (some (ci 64)) none),m 1 46] [0,1,3,2000000,2000001,2000002,2000003]
abbrev RU:AK:=.seq (.aa [u 105037 37 (.ah (.t 3)),m 38 0,.v 39 (.aq (.t 38)),.v 40 (.ak false 0 1 (.t 39)),.v 41 (.ld false 1 (.t 40)),u 105042 42 (.ah (.t 1)),u 105043 43 (.bA (.t 42) none (some (ci 64))),.dyn (some 44) false 105044 (.t 37) [(.t 41),(.t 43)]] [0,1,3,2000000,2000001,2000002,2000003]) RW
abbrev RM:AK:=.seq (.aa [m 34 1,.v 35 (.len true (.t 34)),bi 36 .geq 35 64] [0,1,3,36,2000000,2000001,2000002,2000003]) (.cond (.t 36) .skip (.exit 0))
abbrev RR:AK:=.seq RM (.block 1 RU)
abbrev RY:AK:=.loop RR
abbrev RP:AK:=.seq (.block 0 RY) RQ
abbrev RO:AK:=.seq (.aa [m 28 0,.v 29 (.aq (.t 28)),.v 30 (.ak false 1 1 (.t 29)),.v 31 (.ld false 1 (.t 30)),m 32 1,b 33 .add 31 32,m 1 33] [0,1,3,2000000,2000001,2000002,2000003]) RP
abbrev tb:AK:=.seq (.aa [m 18 0,.v 19 (.aq (.t 18)),.v 20 (.ak false 2 1 (.t 19)),.v 21 (.ld false 1 (.t 20)),m 22 1,.v 23 (.len true (.t 22)),.v 24 (.bc .u64 (.t 23)),b 25 .add 21 24,.v 26 (.aq (.t 18)),.v 27 (.ak false 2 1 (.t 26)),.aL false 105000 (.st 1 (.t 27) (.t 25))] [0,1,3,2000000,2000001,2000002,2000003]) RO
abbrev RN:AK:=.aa [m 13 0,m 14 2,.eff 15 false 105015 (.app 1 4 (.c (.al)) (.t 14)),.v 16 (.aq (.t 13)),.v 17 (.ak false 0 1 (.t 16)),.aL false 105000 (.st 1 (.t 17) (.t 15))] [0,1,3,2000000,2000001,2000002,2000003]
abbrev zc:AK:=.seq (.aa [m 8 0,.v 9 (.aq (.t 8)),.v 10 (.ak false 0 1 (.t 9)),.v 11 (.ld false 1 (.t 10)),.v 12 (.kG false (.t 11))] [0,1,2,3,12,2000000,2000001,2000002,2000003]) (.cond (.t 12) RN .skip)
def zb:AK:=.seq zc (.a8 tb)
abbrev za:AK:=zb
theorem zd (P:Program) (E:Env) (Q:KQ) (st:St) :
 (vcW P E zb Q st=vcW P E zc (KQ.seq P E (.a8 tb) Q) st):=
 rfl
theorem RZ:aB Tryz.prog 167 105000 4 za []:=⟨_,Tryz.func167,by kernel_rfl⟩
theorem ze {h a0 a1 a2 a3 Post} (hp:aD Tryz.prog za [] 4 [(0,a0),(1,a1),(2,a2),(3,a3),(2000000,a0),(2000001,a1),(2000002,a2),(2000003,a3)] h Post):Eng.Spec Tryz.prog 167 h [a0,a1,a2,a3] Post:=aF RZ rfl [(0,a0),(1,a1),(2,a2),(3,a3),(2000000,a0),(2000001,a1),(2000002,a2),(2000003,a3)] ⟨rfl,rfl,rfl,rfl,rfl,rfl,rfl,rfl,trivial⟩ hp
abbrev Rb:AK:=.seq (.aa [m 90 11,.v 91 (.gS (.t 90)),m 6 91] [6,2000000,2000001,2000002]) .ret
abbrev Ri:AK:=.aa [bi 89 .add 71 1,m 71 89] [11,69,70,71,2000000,2000001,2000002]
abbrev Rk:AK:=.aa [m 75 11,m 76 13,.v 77 (.bin .shr (.t 76) (.c (.int .u64 24))),.v 78 (.bc .u8 (.t 77)),m 79 13,.v 80 (.bin .shr (.t 79) (.c (.int .u64 16))),.v 81 (.bc .u8 (.t 80)),m 82 13,.v 83 (.bin .shr (.t 82) (.c (.int .u64 8))),.v 84 (.bc .u8 (.t 83)),m 85 13,.v 86 (.bc .u8 (.t 85)),.eff 87 false 106087 (.ba 1 [(.t 78),(.t 81),(.t 84),(.t 86)]),.eff 88 false 106088 (.app 1 1 (.t 75) (.t 87)),m 11 88] [11,69,70,71,2000000,2000001,2000002]
abbrev Rj:AK:=.seq (.aa [.v 73 (.aM 1 (.t 69) (.t 71)),.v 74 (.ld false 1 (.t 73)),m 13 74] [11,13,69,70,71,2000000,2000001,2000002]) Rk
abbrev Rh:AK:=.seq (.block 5 Rj) Ri
abbrev Rf:AK:=.seq (.cond (.t 72) .skip (.exit 4)) Rh
abbrev Re:AK:=.seq (.aa [b 72 .lss 71 70] [11,69,70,71,72,2000000,2000001,2000002]) Rf
abbrev RE:AK:=.loop Re
abbrev Rc:AK:=.seq (.aa [.v 68 (.ak false 0 1 (.t 7)),.v 69 (.ld false 1 (.t 68)),.v 70 (.len false (.t 69)),k 71 (ci 0)] [11,69,70,71,2000000,2000001,2000002]) (.block 4 RE)
abbrev RC:AK:=.seq Rc Rb
abbrev RA:AK:=.seq (.aa [k 11 (.c (.al))] [7,11,2000000,2000001,2000002]) RC
abbrev Rz:AK:=.seq (.aa [m 61 8,m 62 9,.v 63 (.gS (.t 62)),b 64 .add 61 63,m 65 1,m 66 2,.aj (some 67) false 106067 167 [(.t 7),(.t 64),(.t 65),(.t 66)]] [7,2000000,2000001,2000002]) RA
abbrev Ro:AK:=.aa [m 48 10,bi 49 .sub 48 8,m 10 49] [0,1,2,7,8,9,10,2000000,2000001,2000002]
abbrev Rp:AK:=.aa [m 50 9,m 51 0,.v 52 (.aq (.t 51)),.v 53 (.ak false 2 1 (.t 52)),.v 54 (.ld false 1 (.t 53)),.v 55 (.bin .mul (.t 54) (.c (.int .u64 8))),m 56 10,b 57 .shr 55 56,.v 58 (.bc .u8 (.t 57)),.eff 59 false 106059 (.ba 1 [(.t 58)]),.eff 60 false 106060 (.app 1 1 (.t 50) (.t 59)),m 9 60] [0,1,2,7,8,9,10,2000000,2000001,2000002]
abbrev Rn:AK:=.seq (.block 3 Rp) Ro
abbrev Rq:AK:=.seq (.aa [m 46 10,bi 47 .geq 46 0] [0,1,2,7,8,9,10,47,2000000,2000001,2000002]) (.cond (.t 47) .skip (.exit 2))
abbrev Rm:AK:=.seq Rq Rn
abbrev RF:AK:=.loop Rm
abbrev Rl:AK:=.seq (.aa [k 10 (ci 56)] [0,1,2,7,8,9,10,2000000,2000001,2000002]) (.block 2 RF)
abbrev Ry:AK:=.seq Rl Rz
abbrev Rx:AK:=.seq (.aa [k 9 (.c (.al))] [0,1,2,7,8,9,2000000,2000001,2000002]) Ry
abbrev Rs:AK:=.aa [m 44 8,.v 45 (.bin .add (.t 44) (.c (.str [0]))),m 8 45] [0,1,2,7,8,2000000,2000001,2000002]
abbrev Rt:AK:=.seq (.aa [m 34 0,.v 35 (.aq (.t 34)),.v 36 (.ak false 1 1 (.t 35)),.v 37 (.ld false 1 (.t 36)),.v 38 (.len true (.t 37)),m 39 8,.v 40 (.len true (.t 39)),b 41 .add 38 40,bi 42 .rem 41 64,bi 43 .neq 42 56] [0,1,2,7,8,43,2000000,2000001,2000002]) (.cond (.t 43) .skip (.exit 0))
abbrev Rr:AK:=.seq Rt (.block 1 Rs)
abbrev RG:AK:=.loop Rr
abbrev Rv:AK:=.seq (.block 0 RG) Rx
abbrev y5:AK:=.seq (.aa [k 8 (.c (.str [128]))] [0,1,2,7,8,2000000,2000001,2000002]) Rv
abbrev Ru:AK:=.aa [.v 33 (.ak false 0 1 (.t 7)),.aL false 106000 (.st 1 (.t 33) (.c (.al)))] [0,1,2,7,2000000,2000001,2000002]
abbrev y7:AK:=.seq (.aa [m 28 0,.v 29 (.aq (.t 28)),.v 30 (.ak false 0 1 (.t 29)),.v 31 (.ld false 1 (.t 30)),.v 32 (.kG false (.t 31))] [0,1,2,7,32,2000000,2000001,2000002]) (.cond (.t 32) Ru .skip)
def ta:AK:=.seq y7 (.a8 y5)
abbrev y8:AK:=.alt [u 106014 14 (.ah (.t 0)),u 106015 15 (.aq (.t 14)),u 106016 16 (.ak false 0 1 (.t 15)),u 106017 17 (.ld false 1 (.t 16)),u 106019 19 (.ah (.t 0)),u 106020 20 (.aq (.t 19)),u 106021 21 (.ak false 1 1 (.t 20)),u 106022 22 (.ld false 1 (.t 21)),u 106023 23 (.ah (.t 0)),u 106024 24 (.aq (.t 23)),u 106025 25 (.ak false 2 1 (.t 24)),u 106026 26 (.ld false 1 (.t 25))] [.eff 18 true 106018 (.app 1 4 (.c (.al)) (.t 17)),.v 27 (.bJ [.al,.str [],.int .u64 0] [(0,1,(.t 18)),(1,1,(.t 22)),(2,1,(.t 26))]),.eff 7 true 106007 (.alloc [.al,.str [],.int .u64 0]),.aL false 106000 (.st 3 (.t 7) (.t 27))] [.eff 7 true 106007 (.alloc [.al,.str [],.int .u64 0]),.eff 18 true 106018 (.app 1 4 (.c (.al)) (.t 17)),.v 27 (.bJ [.al,.str [],.int .u64 0] [(0,1,(.t 18)),(1,1,(.t 22)),(2,1,(.t 26))]),.aL false 106000 (.st 3 (.t 7) (.t 27))] [0,1,2,7,2000000,2000001,2000002]
def y0:AK:=.seq y8 (.a8 ta)
abbrev Ra:AK:=.seq (.aa [k 6 (.c (.str []))] [0,1,2,2000000,2000001,2000002]) y0
abbrev jG:AK:=Ra
theorem y9 (P:Program) (E:Env) (Q:KQ) (st:St) :
 (vcW P E ta Q st=vcW P E y7 (KQ.seq P E (.a8 y5) Q) st) /\
 (vcW P E y0 Q st=vcW P E y8 (KQ.seq P E (.a8 ta) Q) st):=
 ⟨rfl,rfl⟩
theorem RH:aB Tryz.prog 170 106000 3 jG [.tmp 6]:=⟨_,Tryz.func170,by kernel_rfl⟩
theorem RJ {h a0 a1 a2 Post} (hp:aD Tryz.prog jG [.tmp 6] 3 [(0,a0),(1,a1),(2,a2),(2000000,a0),(2000001,a1),(2000002,a2)] h Post):Eng.Spec Tryz.prog 170 h [a0,a1,a2] Post:=aF RH rfl [(0,a0),(1,a1),(2,a2),(2000000,a0),(2000001,a1),(2000002,a2)] ⟨rfl,rfl,rfl,rfl,rfl,rfl,trivial⟩ hp
abbrev Pn:AK:=.aa [m 4 0,.v 5 (.aq (.t 4)),.v 6 (.ak true 0 3 (.t 5)),u 107007 7 (.ah (.t 1)),.aj (some 8) true 107008 168 [],.aj (some 9) false 107009 167 [(.t 6),(.t 7),(.t 8),(.c (.lit (.func (.func 169) #[] #[])))]] [2000000,2000001]
abbrev yO:AK:=Pn
theorem Po:aB Tryz.prog 118 107000 2 yO []:=⟨_,Tryz.func118,by kernel_rfl⟩
theorem Pq {h a0 a1 Post} (hp:aD Tryz.prog yO [] 2 [(0,a0),(1,a1),(2000000,a0),(2000001,a1)] h Post):Eng.Spec Tryz.prog 118 h [a0,a1] Post:=aF Po rfl [(0,a0),(1,a1),(2000000,a0),(2000001,a1)] ⟨rfl,rfl,rfl,rfl,trivial⟩ hp
abbrev Pg:AK:=.seq (.aa [m 3 0,.v 4 (.aq (.t 3)),.v 5 (.ak true 0 3 (.t 4)),.aj (some 6) true 108006 168 [],.aj (some 7) false 108007 170 [(.t 5),(.t 6),(.c (.lit (.func (.func 169) #[] #[])))],m 2 7] [2,2000000]) .ret
abbrev Pf:AK:=.seq (.aa [k 2 (.c (.str []))] [0,2000000]) Pg
abbrev yN:AK:=Pf
theorem Ph:aB Tryz.prog 119 108000 1 yN [.tmp 2]:=⟨_,Tryz.func119,by kernel_rfl⟩
theorem Pm {h a0 Post} (hp:aD Tryz.prog yN [.tmp 2] 1 [(0,a0),(2000000,a0)] h Post):Eng.Spec Tryz.prog 119 h [a0] Post:=aF Ph rfl [(0,a0),(2000000,a0)] ⟨rfl,rfl,trivial⟩ hp
abbrev awz:AK:=.seq (.aa [.aj (some 6) false 109006 119 [(.t 3)],m 2 6] [2]) .ret
abbrev awy:AK:=.seq (.aa [m 4 0,.aj (some 5) false 109005 118 [(.t 3),(.t 4)]] [3]) awz
abbrev awx:AK:=.seq (.aa [.eff 3 false 109003 (.alloc [.al,.str [],.int .u64 0])] [0,3]) awy
abbrev aww:AK:=.seq (.aa [k 2 (.c (.str []))] [0]) awx
abbrev DN:AK:=aww
theorem awA:aB Tryz.prog 74 109000 1 DN [.tmp 2]:=⟨_,Tryz.func74,by kernel_rfl⟩
theorem awB {h a0 Post} (hp:aD Tryz.prog DN [.tmp 2] 1 [(0,a0)] h Post):Eng.Spec Tryz.prog 74 h [a0] Post:=aF awA rfl [(0,a0)] ⟨rfl,trivial⟩ hp
abbrev PB:AK:=.seq (.aa [m 24 3,.v 25 (.gS (.t 24)),m 2 25] [2]) .ret
abbrev PG:AK:=.aa [bi 23 .add 7 1,m 7 23] [0,3,6,7]
abbrev Pz:AK:=.aa [u 110010 10 (.ah (.t 3)),u 110011 11 (.ah (.t 0)),u 110012 12 (.ah (.t 4)),u 110013 13 (.b7 (.t 11) (.t 12)),u 110014 14 (.bin .shr (.t 13) (.c (.int .u64 4))),u 110015 15 (.b7 (.c (.str [48,49,50,51,52,53,54,55,56,57,97,98,99,100,101,102])) (.t 14)),u 110016 16 (.ah (.t 0)),u 110017 17 (.ah (.t 4)),u 110018 18 (.b7 (.t 16) (.t 17)),u 110019 19 (.bin .and (.t 18) (.c (.int .u8 15))),u 110020 20 (.b7 (.c (.str [48,49,50,51,52,53,54,55,56,57,97,98,99,100,101,102])) (.t 19)),.eff 21 false 110021 (.ba 1 [(.t 15),(.t 20)]),.eff 22 false 110022 (.app 1 1 (.t 10) (.t 21)),m 3 22] [0,3,6,7]
abbrev Py:AK:=.seq (.aa [m 9 7,m 4 9] [0,3,4,6,7]) Pz
abbrev PF:AK:=.seq (.block 1 Py) PG
abbrev PE:AK:=.seq (.cond (.t 8) .skip (.exit 0)) PF
abbrev PD:AK:=.seq (.aa [b 8 .lss 7 6] [0,3,6,7,8]) PE
abbrev PH:AK:=.loop PD
abbrev PC:AK:=.seq (.aa [m 5 0,.v 6 (.len true (.t 5)),k 7 (ci 0)] [0,3,6,7]) (.block 0 PH)
abbrev PA:AK:=.seq PC PB
abbrev Px:AK:=.seq (.aa [k 3 (.c (.al))] [0,3]) PA
abbrev Pw:AK:=.seq (.aa [k 2 (.c (.str []))] [0]) Px
abbrev hex:AK:=Pw
theorem PJ:aB Tryz.prog 37 110000 1 hex [.tmp 2]:=⟨_,Tryz.func37,by kernel_rfl⟩
theorem PN {h a0 Post} (hp:aD Tryz.prog hex [.tmp 2] 1 [(0,a0)] h Post):Eng.Spec Tryz.prog 37 h [a0] Post:=aF PJ rfl [(0,a0)] ⟨rfl,trivial⟩ hp
abbrev as5:AK:=.seq (.aa [u 111005 5 (.ah (.t 0)),u 111006 6 (.ah (.t 1)),u 111007 7 (.bin .shl (.t 5) (.t 6)),u 111008 8 (.ah (.t 0)),u 111009 9 (.ah (.t 1)),u 111010 10 (.bin .sub (ci 32) (.t 9)),u 111011 11 (.bin .shr (.t 8) (.t 10)),b 12 .or 7 11,m 4 12] [4]) .ret
abbrev as4:AK:=.seq (.aa [k 4 (.c (.int .u32 0))] [0,1]) as5
abbrev C4:AK:=as4
theorem as6:aB Tryz.prog 90 111000 2 C4 [.tmp 4]:=⟨_,Tryz.func90,by kernel_rfl⟩
theorem as7 {h a0 a1 Post} (hp:aD Tryz.prog C4 [.tmp 4] 2 [(0,a0),(1,a1)] h Post):Eng.Spec Tryz.prog 90 h [a0,a1] Post:=aF as6 rfl [(0,a0),(1,a1)] ⟨rfl,rfl,trivial⟩ hp
abbrev arR:AK:=.seq (.aa [m 33 3,m 2 33] [2]) .ret
abbrev arI:AK:=.aa [m 23 5,bi 24 .sub 23 1,m 5 24] [3,4,5]
abbrev arJ:AK:=.aa [m 25 3,m 26 4,m 27 5,.v 28 (.bin .mul (ci 8) (.t 27)),b 29 .shr 26 28,.v 30 (.bc .u8 (.t 29)),.eff 31 false 112031 (.ba 1 [(.t 30)]),.eff 32 false 112032 (.app 1 1 (.t 25) (.t 31)),m 3 32] [3,4,5]
abbrev arU:AK:=.seq (.block 3 arJ) arI
abbrev arK:AK:=.seq (.aa [m 21 5,bi 22 .geq 21 0] [3,4,5,22]) (.cond (.t 22) .skip (.exit 2))
abbrev arT:AK:=.seq arK arU
abbrev arV:AK:=.loop arT
abbrev arS:AK:=.seq (.aa [k 5 (ci 7)] [3,4,5]) (.block 2 arV)
abbrev arQ:AK:=.seq arS arR
abbrev arP:AK:=.seq (.aa [m 17 0,.v 18 (.len true (.t 17)),.v 19 (.bc .u64 (.t 18)),.v 20 (.bin .mul (.t 19) (.c (.int .u64 8))),m 4 20] [3,4]) arQ
abbrev arM:AK:=.aa [m 14 3,.eff 15 false 112015 (.ba 1 [(.c (.int .u8 0))]),.eff 16 false 112016 (.app 1 1 (.t 14) (.t 15)),m 3 16] [0,3]
abbrev arN:AK:=.seq (.aa [m 10 3,.v 11 (.len false (.t 10)),bi 12 .rem 11 64,bi 13 .neq 12 56] [0,3,13]) (.cond (.t 13) .skip (.exit 0))
abbrev arL:AK:=.seq arN (.block 1 arM)
abbrev arW:AK:=.loop arL
abbrev arO:AK:=.seq (.block 0 arW) arP
abbrev arH:AK:=.seq (.aa [m 6 0,.eff 7 false 112007 (.lI (.t 6)),.eff 8 false 112008 (.ba 1 [(.c (.int .u8 128))]),.eff 9 false 112009 (.app 1 1 (.t 7) (.t 8)),m 3 9] [0,3]) arO
abbrev arG:AK:=.seq (.aa [k 2 (.c (.al))] [0]) arH
abbrev CS:AK:=arG
theorem arX:aB Tryz.prog 88 112000 1 CS [.tmp 2]:=⟨_,Tryz.func88,by kernel_rfl⟩
theorem arZ {h a0 Post} (hp:aD Tryz.prog CS [.tmp 2] 1 [(0,a0)] h Post):Eng.Spec Tryz.prog 88 h [a0] Post:=aF arX rfl [(0,a0)] ⟨rfl,trivial⟩ hp
abbrev atq:AK:=.seq (.aa [m 42 3,m 2 42] [2]) .ret
abbrev atu:AK:=.aa [m 8 4,bi 9 .add 8 4,m 4 9] [0,3,4]
abbrev atn:AK:=.aa [u 113010 10 (.ah (.t 3)),u 113011 11 (.ah (.t 0)),u 113012 12 (.ah (.t 4)),u 113013 13 (.aM 1 (.t 11) (.t 12)),u 113014 14 (.ld false 1 (.t 13)),u 113015 15 (.bc .u32 (.t 14)),u 113016 16 (.bin .mul (.t 15) (.c (.int .u32 16777216))),u 113017 17 (.ah (.t 0)),u 113018 18 (.ah (.t 4)),u 113019 19 (.bin .add (.t 18) (ci 1)),u 113020 20 (.aM 1 (.t 17) (.t 19)),u 113021 21 (.ld false 1 (.t 20)),u 113022 22 (.bc .u32 (.t 21)),u 113023 23 (.bin .mul (.t 22) (.c (.int .u32 65536))),u 113024 24 (.bin .add (.t 16) (.t 23)),u 113025 25 (.ah (.t 0)),u 113026 26 (.ah (.t 4)),u 113027 27 (.bin .add (.t 26) (ci 2)),u 113028 28 (.aM 1 (.t 25) (.t 27)),u 113029 29 (.ld false 1 (.t 28)),u 113030 30 (.bc .u32 (.t 29)),u 113031 31 (.bin .mul (.t 30) (.c (.int .u32 256))),u 113032 32 (.bin .add (.t 24) (.t 31)),u 113033 33 (.ah (.t 0)),u 113034 34 (.ah (.t 4)),u 113035 35 (.bin .add (.t 34) (ci 3)),u 113036 36 (.aM 1 (.t 33) (.t 35)),u 113037 37 (.ld false 1 (.t 36)),u 113038 38 (.bc .u32 (.t 37)),b 39 .add 32 38,.eff 40 false 113040 (.ba 1 [(.t 39)]),.eff 41 false 113041 (.app 1 4 (.t 10) (.t 40)),m 3 41] [0,3,4]
abbrev att:AK:=.seq (.block 1 atn) atu
abbrev ato:AK:=.seq (.aa [m 6 4,bi 7 .lss 6 64] [0,3,4,7]) (.cond (.t 7) .skip (.exit 0))
abbrev ats:AK:=.seq ato att
abbrev atv:AK:=.loop ats
abbrev atr:AK:=.seq (.aa [k 4 (ci 0)] [0,3,4]) (.block 0 atv)
abbrev atp:AK:=.seq atr atq
abbrev atm:AK:=.seq (.aa [.eff 5 false 113005 (.ba 1 []),m 3 5] [0,3]) atp
abbrev atl:AK:=.seq (.aa [k 2 (.c (.al))] [0]) atm
abbrev C9:AK:=atl
theorem atw:aB Tryz.prog 89 113000 1 C9 [.tmp 2]:=⟨_,Tryz.func89,by kernel_rfl⟩
theorem atx {h a0 Post} (hp:aD Tryz.prog C9 [.tmp 2] 1 [(0,a0)] h Post):Eng.Spec Tryz.prog 89 h [a0] Post:=aF atw rfl [(0,a0)] ⟨rfl,trivial⟩ hp
abbrev ars:AK:=.seq (.aa [m 28 3,.v 29 (.gS (.t 28)),m 2 29] [2]) .ret
abbrev arx:AK:=.aa [bi 27 .add 9 1,m 9 27] [3,7,8,9]
abbrev arp:AK:=.aa [m 13 3,m 14 5,.v 15 (.bin .shr (.t 14) (.c (.int .u64 24))),.v 16 (.bc .u8 (.t 15)),m 17 5,.v 18 (.bin .shr (.t 17) (.c (.int .u64 16))),.v 19 (.bc .u8 (.t 18)),m 20 5,.v 21 (.bin .shr (.t 20) (.c (.int .u64 8))),.v 22 (.bc .u8 (.t 21)),m 23 5,.v 24 (.bc .u8 (.t 23)),.eff 25 false 114025 (.ba 1 [(.t 16),(.t 19),(.t 22),(.t 24)]),.eff 26 false 114026 (.app 1 1 (.t 13) (.t 25)),m 3 26] [3,7,8,9]
abbrev aro:AK:=.seq (.aa [.v 11 (.aM 1 (.t 7) (.t 9)),.v 12 (.ld false 1 (.t 11)),m 5 12] [3,5,7,8,9]) arp
abbrev arw:AK:=.seq (.block 1 aro) arx
abbrev arv:AK:=.seq (.cond (.t 10) .skip (.exit 0)) arw
abbrev aru:AK:=.seq (.aa [b 10 .lss 9 8] [3,7,8,9,10]) arv
abbrev ary:AK:=.loop aru
abbrev art:AK:=.seq (.aa [m 7 0,.v 8 (.len false (.t 7)),k 9 (ci 0)] [3,7,8,9]) (.block 0 ary)
abbrev arq:AK:=.seq art ars
abbrev arn:AK:=.seq (.aa [.eff 6 false 114006 (.ba 1 []),m 3 6] [0,3]) arq
abbrev arl:AK:=.seq (.aa [k 2 (.c (.str []))] [0]) arn
abbrev CN:AK:=arl
theorem arz:aB Tryz.prog 91 114000 1 CN [.tmp 2]:=⟨_,Tryz.func91,by kernel_rfl⟩
theorem arB {h a0 Post} (hp:aD Tryz.prog CN [.tmp 2] 1 [(0,a0)] h Post):Eng.Spec Tryz.prog 91 h [a0] Post:=aF arz rfl [(0,a0)] ⟨rfl,trivial⟩ hp
abbrev C0:AK:=.seq (.aa [m 162 4,.aj (some 163) false 115163 91 [(.t 162)],m 2 163] [2]) .ret
abbrev C2:AK:=.aa [m 24 5,bi 25 .add 24 64,m 5 25] [3,4,5]
abbrev CV:AK:=.aa [u 115136 136 (.ah (.t 4)),u 115137 137 (.aM 1 (.t 136) (ci 0)),u 115138 138 (.ld false 1 (.t 137)),u 115139 139 (.ah (.t 8)),u 115140 140 (.bin .add (.t 138) (.t 139)),u 115141 141 (.ah (.t 4)),u 115142 142 (.aM 1 (.t 141) (ci 1)),u 115143 143 (.ld false 1 (.t 142)),u 115144 144 (.ah (.t 9)),u 115145 145 (.bin .add (.t 143) (.t 144)),u 115146 146 (.ah (.t 4)),u 115147 147 (.aM 1 (.t 146) (ci 2)),u 115148 148 (.ld false 1 (.t 147)),u 115149 149 (.ah (.t 10)),u 115150 150 (.bin .add (.t 148) (.t 149)),u 115151 151 (.ah (.t 4)),u 115152 152 (.aM 1 (.t 151) (ci 3)),u 115153 153 (.ld false 1 (.t 152)),u 115154 154 (.ah (.t 11)),u 115155 155 (.bin .add (.t 153) (.t 154)),u 115156 156 (.ah (.t 4)),u 115157 157 (.aM 1 (.t 156) (ci 4)),u 115158 158 (.ld false 1 (.t 157)),u 115159 159 (.ah (.t 12)),u 115160 160 (.bin .add (.t 158) (.t 159)),.eff 161 false 115161 (.ba 1 [(.t 140),(.t 145),(.t 150),(.t 155),(.t 160)]),m 4 161] [3,4,5]
abbrev CW:AK:=.aa [m 80 13,bi 81 .add 80 1,m 13 81] [3,4,5,6,8,9,10,11,12,13]
abbrev asy:AK:=.aa [m 135 16,m 8 135] [3,4,5,6,8,9,10,11,12,13]
abbrev asx:AK:=.seq (.aa [m 134 8,m 9 134] [3,4,5,6,9,10,11,12,13,16]) asy
abbrev asv:AK:=.seq (.aa [m 132 9,.aj (some 133) false 115133 90 [(.t 132),(ci 30)],m 10 133] [3,4,5,6,8,10,11,12,13,16]) asx
abbrev asu:AK:=.seq (.aa [m 131 10,m 11 131] [3,4,5,6,8,9,11,12,13,16]) asv
abbrev ast:AK:=.seq (.aa [m 130 11,m 12 130] [3,4,5,6,8,9,10,12,13,16]) asu
abbrev uF:AK:=.seq (.aa [u 115117 117 (.ah (.t 8)),u 115119 119 (.ah (.t 14)),u 115121 121 (.ah (.t 12)),u 115123 123 (.ah (.t 15)),m 125 6,m 126 13,.v 127 (.aM 1 (.t 125) (.t 126)),.v 128 (.ld false 1 (.t 127)),.aj (some 118) true 115118 90 [(.t 117),(ci 5)],u 115120 120 (.bin .add (.t 118) (.t 119)),u 115122 122 (.bin .add (.t 120) (.t 121)),u 115124 124 (.bin .add (.t 122) (.t 123)),b 129 .add 124 128,m 16 129] [3,4,5,6,8,9,10,11,13,16]) ast
abbrev asA:AK:=.aa [k 15 (.c (.int .u32 1518500249))] [3,4,5,6,8,9,10,11,12,13,14,15]
abbrev asz:AK:=.seq (.aa [m 109 9,m 110 10,b 111 .and 109 110,m 112 9,.v 113 (.bin .xor (.t 112) (.c (.int .u32 4294967295))),m 114 11,b 115 .and 113 114,b 116 .or 111 115,m 14 116] [3,4,5,6,8,9,10,11,12,13,14]) asA
abbrev CY:AK:=.seq (.aa [m 107 13,bi 108 .lss 107 20] [3,4,5,6,8,9,10,11,12,13,14,15,108]) (.cond (.t 108) asz .skip)
def uE:AK:=.seq CY (.a8 uF)
abbrev asC:AK:=.aa [k 15 (.c (.int .u32 1859775393))] [3,4,5,6,8,9,10,11,12,13,14,15]
abbrev asB:AK:=.seq (.aa [m 102 9,m 103 10,b 104 .xor 102 103,m 105 11,b 106 .xor 104 105,m 14 106] [3,4,5,6,8,9,10,11,12,13,14]) asC
abbrev CZ:AK:=.seq (.aa [m 100 13,bi 101 .lss 100 40] [3,4,5,6,8,9,10,11,12,13,14,15,101]) (.cond (.t 101) asB .skip)
def uD:AK:=.seq CZ (.a8 uE)
abbrev asE:AK:=.aa [k 15 (.c (.int .u32 2400959708))] [3,4,5,6,8,9,10,11,12,13,14,15]
abbrev asD:AK:=.seq (.aa [m 89 9,m 90 10,b 91 .and 89 90,m 92 9,m 93 11,b 94 .and 92 93,b 95 .or 91 94,m 96 10,m 97 11,b 98 .and 96 97,b 99 .or 95 98,m 14 99] [3,4,5,6,8,9,10,11,12,13,14]) asE
abbrev C1:AK:=.seq (.aa [m 87 13,bi 88 .lss 87 60] [3,4,5,6,8,9,10,11,12,13,14,15,88]) (.cond (.t 88) asD .skip)
def CX:AK:=.seq C1 (.a8 uD)
abbrev ass:AK:=.seq (.aa [m 82 9,m 83 10,b 84 .xor 82 83,m 85 11,b 86 .xor 84 85,m 14 86,k 15 (.c (.int .u32 3395469782))] [3,4,5,6,8,9,10,11,12,13,14,15]) CX
abbrev asq:AK:=.seq (.block 5 ass) CW
abbrev asF:AK:=.seq (.aa [m 78 13,bi 79 .lss 78 80] [3,4,5,6,8,9,10,11,12,13,79]) (.cond (.t 79) .skip (.exit 4))
abbrev asp:AK:=.seq asF asq
abbrev asR:AK:=.loop asp
abbrev aso:AK:=.seq (.aa [k 13 (ci 0)] [3,4,5,6,8,9,10,11,12,13]) (.block 4 asR)
abbrev asn:AK:=.seq aso CV
abbrev asm:AK:=.seq (.aa [u 115063 63 (.ah (.t 4)),u 115064 64 (.aM 1 (.t 63) (ci 0)),u 115065 65 (.ld false 1 (.t 64)),u 115066 66 (.ah (.t 4)),u 115067 67 (.aM 1 (.t 66) (ci 1)),u 115068 68 (.ld false 1 (.t 67)),u 115069 69 (.ah (.t 4)),u 115070 70 (.aM 1 (.t 69) (ci 2)),u 115071 71 (.ld false 1 (.t 70)),u 115072 72 (.ah (.t 4)),u 115073 73 (.aM 1 (.t 72) (ci 3)),u 115074 74 (.ld false 1 (.t 73)),u 115075 75 (.ah (.t 4)),u 115076 76 (.aM 1 (.t 75) (ci 4)),u 115077 77 (.ld false 1 (.t 76)),u 115008 8 (.ah (.t 65)),u 115009 9 (.ah (.t 68)),u 115010 10 (.ah (.t 71)),u 115011 11 (.ah (.t 74)),m 12 77] [3,4,5,6,8,9,10,11,12]) asn
abbrev asK:AK:=.aa [m 34 7,bi 35 .add 34 1,m 7 35] [3,4,5,6,7]
abbrev asL:AK:=.aa [u 115036 36 (.ah (.t 6)),u 115037 37 (.ah (.t 6)),u 115038 38 (.ah (.t 7)),u 115039 39 (.bin .sub (.t 38) (ci 3)),u 115040 40 (.aM 1 (.t 37) (.t 39)),u 115041 41 (.ld false 1 (.t 40)),u 115042 42 (.ah (.t 6)),u 115043 43 (.ah (.t 7)),u 115044 44 (.bin .sub (.t 43) (ci 8)),u 115045 45 (.aM 1 (.t 42) (.t 44)),u 115046 46 (.ld false 1 (.t 45)),u 115047 47 (.bin .xor (.t 41) (.t 46)),u 115048 48 (.ah (.t 6)),u 115049 49 (.ah (.t 7)),u 115050 50 (.bin .sub (.t 49) (ci 14)),u 115051 51 (.aM 1 (.t 48) (.t 50)),u 115052 52 (.ld false 1 (.t 51)),u 115053 53 (.bin .xor (.t 47) (.t 52)),u 115054 54 (.ah (.t 6)),u 115055 55 (.ah (.t 7)),u 115056 56 (.bin .sub (.t 55) (ci 16)),u 115057 57 (.aM 1 (.t 54) (.t 56)),u 115058 58 (.ld false 1 (.t 57)),b 59 .xor 53 58,.aj (some 60) false 115060 90 [(.t 59),(ci 1)],.eff 61 false 115061 (.ba 1 [(.t 60)]),.eff 62 false 115062 (.app 1 4 (.t 36) (.t 61)),m 6 62] [3,4,5,6,7]
abbrev asI:AK:=.seq (.block 3 asL) asK
abbrev asM:AK:=.seq (.aa [m 32 7,bi 33 .lss 32 80] [3,4,5,6,7,33]) (.cond (.t 33) .skip (.exit 2))
abbrev asH:AK:=.seq asM asI
abbrev asS:AK:=.loop asH
abbrev asG:AK:=.seq (.aa [k 7 (ci 16)] [3,4,5,6,7]) (.block 2 asS)
abbrev asl:AK:=.seq asG asm
abbrev asj:AK:=.seq (.aa [m 26 3,m 27 5,m 28 5,bi 29 .add 28 64,.v 30 (.gN 1 (.t 26) (some (.t 27)) (some (.t 29))),.aj (some 31) false 115031 89 [(.t 30)],m 6 31] [3,4,5,6]) asl
abbrev asP:AK:=.seq (.block 1 asj) C2
abbrev asN:AK:=.seq (.aa [m 20 5,m 21 3,.v 22 (.len false (.t 21)),b 23 .lss 20 22] [3,4,5,23]) (.cond (.t 23) .skip (.exit 0))
abbrev asO:AK:=.seq asN asP
abbrev asQ:AK:=.loop asO
abbrev asJ:AK:=.seq (.aa [k 5 (ci 0)] [3,4,5]) (.block 0 asQ)
abbrev asw:AK:=.seq asJ C0
abbrev asr:AK:=.seq (.aa [.eff 19 false 115019 (.ba 1 [(.c (.int .u32 1732584193)),(.c (.int .u32 4023233417)),(.c (.int .u32 2562383102)),(.c (.int .u32 271733878)),(.c (.int .u32 3285377520))]),m 4 19] [3,4]) asw
abbrev asi:AK:=.seq (.aa [m 17 0,.aj (some 18) false 115018 88 [(.t 17)],m 3 18] [3]) asr
abbrev ash:AK:=.seq (.aa [k 2 (.c (.str []))] [0]) asi
abbrev CU:AK:=ash
theorem iA (P:Program) (E:Env) (Q:KQ) (st:St) :
 (vcW P E uE Q st=vcW P E CY (KQ.seq P E (.a8 uF) Q) st) /\
 (vcW P E uD Q st=vcW P E CZ (KQ.seq P E (.a8 uE) Q) st) /\
 (vcW P E CX Q st=vcW P E C1 (KQ.seq P E (.a8 uD) Q) st):=
 ⟨rfl,rfl,rfl⟩
theorem asT:aB Tryz.prog 48 115000 1 CU [.tmp 2]:=⟨_,Tryz.func48,by kernel_rfl⟩
theorem asV {h a0 Post} (hp:aD Tryz.prog CU [.tmp 2] 1 [(0,a0)] h Post):Eng.Spec Tryz.prog 48 h [a0] Post:=aF asT rfl [(0,a0)] ⟨rfl,trivial⟩ hp
abbrev aqe:AK:=.seq (.aa [m 30 3,m 2 30] [2]) .ret
abbrev aqi:AK:=.aa [m 10 4,bi 11 .add 10 1,m 4 11] [0,3,4]
abbrev aqb:AK:=.aa [u 116015 15 (.ah (.t 3)),u 116016 16 (.ah (.t 5)),u 116017 17 (.bin .quo (.t 16) (.c (.int .u8 16))),u 116018 18 (.ah (.t 5)),u 116019 19 (.bin .quo (.t 18) (.c (.int .u8 16))),u 116020 20 (.bin .add (.t 19) (.c (.int .u8 1))),u 116021 21 (.bA (.c (.str [48,49,50,51,52,53,54,55,56,57,97,98,99,100,101,102])) (some (.t 17)) (some (.t 20))),u 116022 22 (.ah (.t 5)),u 116023 23 (.bin .rem (.t 22) (.c (.int .u8 16))),u 116024 24 (.ah (.t 5)),u 116025 25 (.bin .rem (.t 24) (.c (.int .u8 16))),u 116026 26 (.bin .add (.t 25) (.c (.int .u8 1))),u 116027 27 (.bA (.c (.str [48,49,50,51,52,53,54,55,56,57,97,98,99,100,101,102])) (some (.t 23)) (some (.t 26))),b 28 .add 21 27,b 29 .add 15 28,m 3 29] [0,3,4]
abbrev aqa:AK:=.seq (.aa [m 12 0,m 13 4,.v 14 (.b7 (.t 12) (.t 13)),m 5 14] [0,3,4,5]) aqb
abbrev aqh:AK:=.seq (.block 1 aqa) aqi
abbrev aqc:AK:=.seq (.aa [m 6 4,m 7 0,.v 8 (.len true (.t 7)),b 9 .lss 6 8] [0,3,4,9]) (.cond (.t 9) .skip (.exit 0))
abbrev aqg:AK:=.seq aqc aqh
abbrev aqj:AK:=.loop aqg
abbrev aqf:AK:=.seq (.aa [k 4 (ci 0)] [0,3,4]) (.block 0 aqj)
abbrev aqd:AK:=.seq aqf aqe
abbrev ap9:AK:=.seq (.aa [k 3 (.c (.str []))] [0,3]) aqd
abbrev ap8:AK:=.seq (.aa [k 2 (.c (.str []))] [0]) ap9
abbrev CD:AK:=ap8
theorem aqk:aB Tryz.prog 47 116000 1 CD [.tmp 2]:=⟨_,Tryz.func47,by kernel_rfl⟩
theorem aqm {h a0 Post} (hp:aD Tryz.prog CD [.tmp 2] 1 [(0,a0)] h Post):Eng.Spec Tryz.prog 47 h [a0] Post:=aF aqk rfl [(0,a0)] ⟨rfl,trivial⟩ hp
end Go.Proofs.YtoalcafkffmiiaaGreatDoor.Cod
namespace Go.Proofs.YtoalcafkffmiiaaGreatDoor.Sh
open Eng
set_option maxRecDepth 10000
theorem oE {k:Nat} (hk:k<32):bits .and .u64 (k:Int) 31=k:=by
 show IntKind.u64.wrap ((BitVec.ofInt 64 (k:Int) &&& BitVec.ofInt 64 31).toNat:Int)=_
 rw[aBl,aCC,aBm,aBh aA4,show(BitVec.ofInt 64 31).toNat=2^5-1 by decide,Nat.and_two_pow_sub_one_of_lt_two_pow aA4];exact wrap_u64 aA4
theorem CL (x:W) {k:Nat} (hk:k<32):bits .or .u32 (IntKind.u32.wrap (↑(BitVec.toNat x)*2^k)) ((↑(BitVec.toNat x):Int).fdiv (2^(32-k)))=(x.rotateLeft k).toNat:=by
 rw[lP,ayH,eC,BitVec.rotateLeft_def,aBh hk]
theorem uB (x:W) (k:Nat) (hk:k<32):aJ Tryz.prog 208 [.int .u32 x.toNat,.int .i64 k] (.int .u32 (x.rotateLeft k).toNat):=by
 refine Cod.ark (λE R hN hR=>?_);have h1:=oE hk;refine au h1 ?_;refine hR.ro ⟨rfl,?_⟩;rw[show min k 32=k by omega,show min ((32:Int)-k).toNat 32=32-k by omega,CL x hk]
theorem wT (p:Bs) (i:Nat):((p.getD i 0).toNat:Int)=((fv p i).toNat:Int):=by
 rw[fv,aBm,aBh];have:=(p.getD i 0).toNat_lt;omega
theorem ayw (p:Bs) (hp:4<=p.length):aJ Tryz.prog 207 [.str p] (.int .u32 (j3 p 0).toNat):=by
 refine Cod.ayx (λE R hN hR=>?_);refine bl @wT ox ?_;refine hR.ro ⟨rfl,?_⟩;rw[show min 24 32=24 by rfl,show min 16 32=16 by rfl,show min 8 32=8 by rfl,lP,lP,lP,eC,eC,eC];rfl
theorem z80:(List.replicate 80 0#32).map u32=[.int .u32 0,.int .u32 0,.int .u32 0,.int .u32 0,.int .u32 0,.int .u32 0,.int .u32 0,.int .u32 0,.int .u32 0,.int .u32 0,.int .u32 0,.int .u32 0,.int .u32 0,.int .u32 0,.int .u32 0,.int .u32 0,.int .u32 0,.int .u32 0,.int .u32 0,.int .u32 0,.int .u32 0,.int .u32 0,.int .u32 0,.int .u32 0,.int .u32 0,.int .u32 0,.int .u32 0,.int .u32 0,.int .u32 0,.int .u32 0,.int .u32 0,.int .u32 0,.int .u32 0,.int .u32 0,.int .u32 0,.int .u32 0,.int .u32 0,.int .u32 0,.int .u32 0,.int .u32 0,.int .u32 0,.int .u32 0,.int .u32 0,.int .u32 0,.int .u32 0,.int .u32 0,.int .u32 0,.int .u32 0,.int .u32 0,.int .u32 0,.int .u32 0,.int .u32 0,.int .u32 0,.int .u32 0,.int .u32 0,.int .u32 0,.int .u32 0,.int .u32 0,.int .u32 0,.int .u32 0,.int .u32 0,.int .u32 0,.int .u32 0,.int .u32 0,.int .u32 0,.int .u32 0,.int .u32 0,.int .u32 0,.int .u32 0,.int .u32 0,.int .u32 0,.int .u32 0,.int .u32 0,.int .u32 0,.int .u32 0,.int .u32 0,.int .u32 0,.int .u32 0,.int .u32 0,.int .u32 0]:=by rfl
theorem mE (x:AV) (r:List AV):nth (x::r) 0=x:=(rfl)
theorem mG (x:AV) (r:List AV) (k:Nat):nth (x::r) (k+1)=nth r k:=by simp[nth]
theorem pS {xs:List W} {i:Nat} (h:i<xs.length):(xs.map u32).getD i .undef=.int .u32 (xs.getD i 0#32).toNat:=by
 simp[aA5,h,u32]
theorem LG {xs:List W} {i:Nat} (h:i<xs.length):((xs.map u32).drop i).getD 0 .undef=.int .u32 (xs.getD i 0#32).toNat:=by
 simp[aA5,h,u32]
theorem De {xs:List W} {i:Nat} {y:W} (h:i<xs.length):(xs.map u32).take i++[.int .u32 y.toNat]++(xs.map u32).drop (i+1)=(xs.set i y).map u32:=by
 rw[<-om,<-List.map_take,<-List.map_drop,aCr,if_pos h];simp
abbrev hW (h:H5):List AV:=[.int .u32 h.a.toNat,.int .u32 h.b.toNat,.int .u32 h.c.toNat,.int .u32 h.d.toNat,.int .u32 h.e.toNat]
abbrev de (h:H5) (r:Bs) (n:Int):HP:=[(105900,.var [.sl 105015 0 5,.str r,.int .u64 n]),(105015,.arr 1 (hW h))]
theorem ays (p:Bs) (k:Nat):j3 (p.drop k) 0=j3 p k:=by
 simp[j3,fv,aA5,List.getElem?_drop]
theorem Ii (h:H5) (p r:Bs) (n:Int) (hp:p.length=64):gQ Tryz.prog 169 2 (de h r n) [.sl 105015 0 5,.str p,.ab 105900 0,.ab 105900 0]
    (λh' v ar=>h'=de (cN h p) r n/\v=.ai []/\ar=[.sl 105015 0 5,.str p,.ab 105900 0,.ab 105900 0]):=by
 refine Cod.Ij (λE R hN hR=>?_);simp(disch:=first | omega | (simp only[Lx];omega))only[go_sem,simprocAttr,de,hW]
 refine aZ hN (λi:Nat=>⟨[(0,.sl 105015 0 5),(1,.str p),(4,.ab 104004 0),(15,.int .i64 i),(2000000,.sl 105015 0 5),(2000001,.str p),(2000002,.ab 105900 0),(2000003,.ab 105900 0)],
  [(104004,.var ((sched p i).map u32)),(105900,.var [.sl 105015 0 5,.str r,.int .u64 n]),(105015,.arr 1 (hW h))]⟩) (λi=>i<=80) (λi=>80-i) 0 (.le (by simp(disch:=first | omega | (simp only[Lx];omega))only[go_sem,simprocAttr,Dc,z80];and_intros<;>rfl)) aA4 ?_
 rintro i R1 hi hR1;have hsl:=kC p i;by_cases hlt:i<80
 ·have hss:=nU p i;generalize hw:sched p i=w at *
  by_cases h16:i<16
  ·have hstep:jc p w i=w.set i (j3 p (4*i)):=by unfold jc;rw[if_pos h16]
   rw[hstep]at hss;have hw2:=ayw (p.drop (4*i)) (by rw[aBb];omega);rw[ays]at hw2;have e1:(4*(i:Int)).toNat=4*i:=aA4;refine au e1 ?_;refine aw hw2 rfl rfl ?_;refine bl @De @aBP ?_;exact hR1 (i+1) _ aA4 aA4 (.le (eM hss))
  ·have hstep:jc p w i=w.set i ((w.getD (i-3) 0#32 ^^^ w.getD (i-8) 0#32 ^^^ w.getD (i-14) 0#32 ^^^ w.getD (i-16) 0#32).rotateLeft 1):=by unfold jc;rw[if_neg h16]
   rw[hstep]at hss;have hr:=uB (w.getD (i-3) 0#32 ^^^ w.getD (i-8) 0#32 ^^^ w.getD (i-14) 0#32 ^^^ w.getD (i-16) 0#32) 1 aA4;have e3:((i:Int)-3).toNat=i-3:=aA4;have e8:((i:Int)-8).toNat=i-8:=aA4;have e14:((i:Int)-14).toNat=i-14:=aA4;have e16:((i:Int)-16).toNat=i-16:=aA4;simp(disch:=first | omega | (simp only[Lx];omega))only[go_sem,simprocAttr,e3,e8,e14,e16,aBP,LG,eD]
   refine aw hr rfl rfl ?_;refine bl @De @aBP ?_;exact hR1 (i+1) _ aA4 aA4 (.le (eM hss))
 ·obtain rfl:i=80:=aA4;refine bl @mE @mG ?_;generalize hw:sched p 80=w at *
  refine aZ hN (λi:Nat=>⟨[(0,.sl 105015 0 5),(6,.int .u32 (rounds w h i).a.toNat),(7,.int .u32 (rounds w h i).b.toNat),(8,.int .u32 (rounds w h i).c.toNat),(9,.int .u32 (rounds w h i).d.toNat),(10,.int .u32 (rounds w h i).e.toNat),
   (65,.agg (w.map u32)),(66,.int .i64 i),(2000000,.sl 105015 0 5),(2000001,.str p),(2000002,.ab 105900 0),(2000003,.ab 105900 0)],
   [(105900,.var [.sl 105015 0 5,.str r,.int .u64 n]),(105015,.arr 1 (hW h))]⟩) (λi=>i<=80) (λi=>80-i) 0 (.le (eM @CM)) aA4 ?_
  rintro i R2 hi hR2;by_cases hlt:i<80
  ·have hrs:=rounds_succ w h i;generalize hx:rounds w h i=x at *
   have hst:qP w x i=⟨x.a.rotateLeft 5+gU i x.b x.c x.d+x.e+gW i+w.getD i 0#32,x.a,x.b.rotateLeft 30,x.c,x.d⟩:=rfl
   have rest:∀(f:W) (k:Int),f=gU i x.b x.c x.d->k=((gW i).toNat:Int)->vcW Tryz.prog E Cod.sc (KQ.cN 3 (KQ.seq Tryz.prog E Cod.wz (KQ.fk R2 (KQ.cN 2 (KQ.seq Tryz.prog E Cod.wC (KQ.post [] 4 R))))))
       ⟨[(0,.sl 105015 0 5),(6,.int .u32 x.a.toNat),(7,.int .u32 x.b.toNat),(8,.int .u32 x.c.toNat),(9,.int .u32 x.d.toNat),(10,.int .u32 x.e.toNat),(12,.int .u32 (w.getD i 0#32).toNat),(13,.int .u32 f.toNat),(14,.int .u32 k),
        (65,.agg (w.map u32)),(66,.int .i64 i),(2000000,.sl 105015 0 5),(2000001,.str p),(2000002,.ab 105900 0),(2000003,.ab 105900 0)],[(105900,.var [.sl 105015 0 5,.str r,.int .u64 n]),(105015,.arr 1 (hW h))]⟩:=by
    intro f k hf hk;subst hk;have r5:=uB x.a 5 aA4;have r30:=uB x.b 30 aA4;refine wW ?_;refine aw r5 rfl rfl ?_;refine au ov ?_;refine aw r30 rfl rfl ?_;refine wW ?_;refine hR2 (i+1) _ aA4 aA4 (.le ?_);rw[hrs,hst,<-hf];exact vV
   have hd:(i:Int).tdiv 20=((i/20:Nat):Int):=rfl;have hnot:bits .xor .u32 (if IntKind.u32.signed=true then -1 else IntKind.u32.max) (x.b.toNat:Int)=(~~~x.b).toNat:=ayq x.b
   by_cases h20:i<20
   ·have hq:i/20=0:=aA4;rw[hq]at hd;simp(disch:=first | omega | (simp only[Lx];omega))only[go_sem,simprocAttr,hd,pS,eD,fU,eC,hnot,Cod.oT]
    refine eB hN (rest _ 1518500249 ?_ ?_)
    ·unfold gU;rw[if_pos h20]
    ·unfold gW;rw[if_pos h20];decide
   ·by_cases h40:i<40
    ·have hq:i/20=1:=aA4;rw[hq]at hd;simp(disch:=first | omega | (simp only[Lx];omega))only[go_sem,simprocAttr,hd,pS,eD,fU,eC,hnot,Cod.oT]
     refine eB hN (rest _ 1859775393 ?_ ?_)
     ·unfold gU;rw[if_neg h20,if_pos h40]
     ·unfold gW;rw[if_neg h20,if_pos h40];decide
    ·by_cases h60:i<60
     ·have hq:i/20=2:=aA4;rw[hq]at hd;simp(disch:=first | omega | (simp only[Lx];omega))only[go_sem,simprocAttr,hd,pS,eD,fU,eC,hnot,Cod.oT]
      refine eB hN (rest _ 2400959708 ?_ ?_)
      ·unfold gU;rw[if_neg h20,if_neg h40,if_pos h60]
      ·unfold gW;rw[if_neg h20,if_neg h40,if_pos h60];decide
     ·have hq:i/20=3:=aA4;rw[hq]at hd;simp(disch:=first | omega | (simp only[Lx];omega))only[go_sem,simprocAttr,hd,pS,eD,fU,eC,hnot,Cod.oT]
      refine lN hN _ (.le ?_) (rest (x.b ^^^ x.c ^^^ x.d) 3395469782 ?_ ?_)
      ·exact vV
      ·unfold gU;rw[if_neg h20,if_neg h40,if_neg h60]
      ·unfold gW;rw[if_neg h20,if_neg h40,if_neg h60];decide
  ·obtain rfl:i=80:=aA4;generalize hx:rounds w h 80=x at *
   simp(disch:=first | omega | (simp only[Lx];omega))only[go_sem,simprocAttr,mE,mG,ov,hW]
   exact hR.le (h':=de (h.add x) r n) (by simp(disch:=first | omega | (simp only[Lx];omega))only[go_sem,simprocAttr,H5.add]) ⟨by rw[cN,hw,hx],rfl,rfl⟩
open Eng
set_option maxRecDepth 10000
abbrev FN:AV:=.lit (.func (.func 169) #[] #[])
theorem Ig:callable Tryz.prog 169=true:=by kernel_rfl
theorem Em (h:H5) (r t:Bs) (n:Nat) (ht:r.length+t.length<=9223372036854775807) (hn:n+t.length<=9223372036854775807) {E:Env} {R:HP->AV->List AV->Prop} (hN:E.N<=1000000)
    (hR:cR (λh' v ar=>h'=de (blks ((r++t).length/64) h (r++t)) ((r++t).drop (64*((r++t).length/64))) ((n:Int)+t.length)/\v=.ai []/\ar=[.ab 105900 0,.str t,.undef,FN]) R) :
    vcW Tryz.prog E Cod.tb (KQ.post [] 4 R) ⟨[(0,.ab 105900 0),(1,.str t),(3,FN),(2000000,.ab 105900 0),(2000001,.str t),(2000003,FN)],de h r n⟩:=by
 have en:IntKind.u64.wrap ((n:Int)+(t.length:Int))=(n:Int)+t.length:=wrap_u64 aA4;simp(disch:=first | omega | (simp only[Lx];omega))only[go_sem,simprocAttr,de,hW,en]
 have hl:(r++t).length<=9223372036854775807:=by simp;omega
 generalize hs:r++t=s at *
 refine aZ hN (λj:Nat=>⟨[(0,.ab 105900 0),(1,.str (s.drop (64*j))),(3,FN),(2000000,.ab 105900 0),(2000001,.str t),(2000003,FN)],de (blks j h s) r ((n:Int)+t.length)⟩) (λj=>64*j<=s.length) (λj=>s.length-64*j) 0 (.le (by simp(disch:=first | omega | (simp only[Lx];omega))only[go_sem,simprocAttr,de,hW,blks])) aA4 ?_
 rintro j R1 hj hR1;by_cases hlt:64<=(s.drop (64*j)).length
 ·have hlt':=hlt;rw[aBb]at hlt';have hbo:=wx j h s;generalize hH:blks j h s=H at *
  generalize hu:s.drop (64*j)=u at *
  have hb:=Ii H (u.take 64) r ((n:Int)+t.length) (by rw[aBa];omega);simp(disch:=first | omega | (simp only[Lx];omega))only[go_sem,simprocAttr,de,hW]
  refine sC Ig (oY (n:=2) [0,2000000] vV vV rfl hb ?_);rintro h' v as' ⟨rfl,rfl,rfl⟩;simp(disch:=first | omega | (simp only[Lx];omega))only[go_sem,simprocAttr,de,hW]
  refine hR1 (j+1) _ aA4 aA4 (.le ?_);have hd:s.drop (64*(j+1))=u.drop 64:=by rw[<-hu,aCn];rfl
  rw[hbo,hd];simp(disch:=first | omega | (simp only[Lx];omega))only[go_sem,simprocAttr,de,hW]
 ·have hq:j=s.length/64:=by rw[aBb]at hlt;omega
  simp(disch:=first | omega | (simp only[Lx];omega))only[go_sem,simprocAttr,de,hW]
  refine hR.le ?_ ⟨rfl,rfl,rfl⟩;rw[<-hq];simp(disch:=first | omega | (simp only[Lx];omega))only[go_sem,simprocAttr,de,hW]
theorem ayF (t:Bs) (ht:t.length<=9223372036854775807):Eng.Spec Tryz.prog 167 [(105900,.var [.al,.str [],.int .u64 0])] [.ab 105900 0,.str t,.ro 1 (hW start),FN]
    (λh' v ar=>h'=de (blks (t.length/64) start t) (t.drop (64*(t.length/64))) t.length/\v=.ai []/\ar=[.ab 105900 0,.str t,.undef,FN]):=by
 refine Cod.ze (λE R hN hR=>?_);simp(disch:=omega)only[go_sem,simprocAttr,Cod.zd,hW];refine lN hN _ (.le (by simp(disch:=omega)only[go_sem,simprocAttr,de,hW])) (Em start [] t 0 (by simpa using ht) aA4 hN ?_);intro h' v ar h2 v2 ar2 e1 e2 e3;refine hR h' v ar h2 v2 ar2 e1 e2 ?_;simpa using e3
theorem ayG (h:H5) (r t:Bs) (n:Nat) (hr:r.length+t.length<=9223372036854775807) (hn:n+t.length<=9223372036854775807):Eng.Spec Tryz.prog 167 (de h r n) [.ab 105900 0,.str t,.ro 1 (hW start),FN]
    (λh' v ar=>h'=de (blks ((r++t).length/64) h (r++t)) ((r++t).drop (64*((r++t).length/64))) ((n:Int)+t.length)/\v=.ai []/\ar=[.ab 105900 0,.str t,.undef,FN]):=by
 refine Cod.ze (λE R hN hR=>?_);simp(disch:=omega)only[go_sem,simprocAttr,Cod.zd,hW];refine lN hN _ (.le (by simp(disch:=omega)only[go_sem,simprocAttr,de,hW])) (Em h r t n hr hn hN hR)
theorem b8 (m:Nat):IntKind.u8.wrap (m:Int)=((UInt8.ofNat m).toNat:Int):=by
 show(m:Int)%256=_
 rw[aCi];omega
theorem jV (m k:Nat):(m:Int).fdiv (2^k)=((m >>> k:Nat):Int):=by
 rw[aCS,aBI _ (aC7 (by decide)),aCU,aCL];rfl
theorem vP {xs:Bs} {b:UInt8}:xs.map ub++[.int .u8 b.toNat]=(xs++[b]).map ub:=by simp[ub]
theorem zX (n:Nat) {k:Nat} (hk:k<8):(bh n).getD k 0=UInt8.ofNat ((8*n) >>> (56-8*k)):=by
 have:k=0\/k=1\/k=2\/k=3\/k=4\/k=5\/k=6\/k=7:=aA4;rcases this with rfl | rfl | rfl | rfl | rfl | rfl | rfl | rfl<;>rfl
theorem lK (xs:Bs) {k:Nat} (hk:k<xs.length):xs.take (k+1)=xs.take k++[xs.getD k 0]:=by
 rw[aC5,List.getElem?_eq_getElem hk];simp[aA5,hk]
theorem tW:∀l:List W,(dK l).length=4*l.length
 | []=>rfl
 | x::l=>by
  rw[show dK (x::l)=kN x++dK l from rfl,aA8,tW l];simp[kN];omega
abbrev lJ (h:H5) (r:Bs) (n:Int):HP:=[(106900,.var [.sl 106901 0 5,.str r,.int .u64 n]),(106901,.arr 1 (hW h))]
abbrev xS (h:H5) (r:Bs) (n:Int):HP:=[(106007,.var [.sl 106018 0 5,.str r,.int .u64 n]),(106018,.arr 1 (hW h))]
theorem RI (h:H5) (r:Bs) (n:Nat) (hr:r.length=n%64) (hn:n<=1000000):Eng.Spec Tryz.prog 170 (lJ h r n) [.ab 106900 0,.ro 1 (hW start),FN]
    (λh' v ar=>h'=[]/\v=.str (dK (blks ((r.length+(cG n).length)/64) h (r++cG n)).l)/\ar=[.undef,.undef,.undef]):=by
 refine Cod.RJ (λE R hN hR=>?_);simp(disch:=first | omega | (simp only[Lx];omega))only[go_sem,simprocAttr,Cod.y9,hW]
 refine and_self_iff.2 (eB hN ?_);simp(disch:=first | omega | (simp only[Lx];omega))only[go_sem,simprocAttr,Cod.y9,hW]
 refine eB hN ?_;refine wW ?_
 have hpad:∀k,k<cF n->((r.length:Int)+((k:Int)+1))%64≠56:=by
  intro k hk;unfold cF at hk;omega
 have hpe:((r.length:Int)+((cF n:Nat)+1:Int))%64=56:=by
  unfold cF;omega
 have hpk:cF n<64:=by unfold cF;omega
 refine aZ hN (λk:Nat=>⟨[(0,.ab 106900 0),(1,.ro 1 (hW start)),(2,FN),(7,.ab 106007 0),(8,.str (128::List.replicate k 0))],lJ h r n++xS h r n⟩) (λk=>k<=cF n) (λk=>cF n-k) 0 (.le (by simp(disch:=first | omega | (simp only[Lx];omega))only[go_sem,simprocAttr,hW,aDj])) aA4 ?_
 rintro k R1 hk hR1;by_cases hlt:k<cF n
 ·have hc:=hpad k hlt;have hrep:(128:UInt8)::(List.replicate k 0++[0])=128::List.replicate (k+1) 0:=by rw[aCR]
  simp(disch:=first | omega | (simp only[Lx];omega))only[go_sem,simprocAttr,hW,aBt,hc]
  refine hR1 (k+1) _ aA4 aA4 (.le ?_);simp(disch:=first | omega | (simp only[Lx];omega))only[go_sem,simprocAttr,hW,hrep]
 obtain rfl:k=cF n:=aA4;simp(disch:=first | omega | (simp only[Lx];omega))only[go_sem,simprocAttr,hW,aBt,hpe]
 refine aZ hN (λk:Nat=>⟨[(0,.ab 106900 0),(1,.ro 1 (hW start)),(2,FN),(7,.ab 106007 0),(8,.str (128::List.replicate (cF n) 0)),(9,.sl 106060 0 k),(10,.int .i64 (56-8*(k:Int)))],lJ h r n++xS h r n++[(106060,.arr 1 (((bh n).take k).map ub))]⟩)
  (λk=>k<=8) (λk=>8-k) 0 (.nil 9 106060 1 rfl (.le (by simp(disch:=first | omega | (simp only[Lx];omega))only[go_sem,simprocAttr,hW]))) aA4 ?_
 rintro k R2 hk hR2;by_cases hlt:k<8
 ·have htk:=lK (bh n) (k:=k) hlt;rw[zX n hlt]at htk;have e1:min ((56:Int)-8*k).toNat 64=56-8*k:=aA4;have e2:(n:Int)*8=((8*n:Nat):Int):=aA4;have e3:IntKind.u64.wrap ((n:Int)*8)=((8*n:Nat):Int):=by rw[e2];exact wrap_u64 aA4
  have hll:((bh n).take k).length=k:=by rw[aBa];simp[bh];omega
  have e4:(56:Int)-8*k-8=56-8*((k+1:Nat):Int):=aA4;simp(disch:=first | omega | (simp only[Lx];omega))only[go_sem,simprocAttr,hW,e1,e3]
  refine hR2 (k+1) _ aA4 aA4 (.le ?_);rw[htk,e4];simp(disch:=first | omega | (simp only[Lx];omega))only[go_sem,simprocAttr,hW,jV,b8,vP]
 obtain rfl:k=8:=aA4;have htl:(128:UInt8)::(List.replicate (cF n) 0++List.take 8 (bh n))=cG n:=rfl;have htlen:(cG n).length=9+cF n:=by simp[cG,bh];omega
 simp(disch:=first | omega | (simp only[Lx];omega))only[go_sem,simprocAttr,hW,htl]
 refine j7 ⟨[(7,.ab 105900 0),(64,.str (cG n)),(65,.ro 1 (hW start)),(66,FN)],de h r n⟩ (.iZ 106007 105900 rfl rfl (.iZ 106018 105015 rfl rfl (.le (by simp(disch:=first | omega | (simp only[Lx];omega))only[go_sem,simprocAttr,hW])))) rfl ?_
 refine aR (de h r n) (ayG h r (cG n) n aA4 aA4) vV nofun ?_;rintro h' v as' ⟨rfl,rfl,rfl⟩;rw[aA8];generalize hH:blks ((r.length+(cG n).length)/64) h (r++cG n)=H at *
 have hll:H.l.length=5:=rfl;have hHl:hW H=H.l.map u32:=rfl;generalize H.l=l at *
 refine⟨rfl,rfl,?_⟩;rw[show de H=λr n=>[(105900,.var [.sl 105015 0 5,.str r,.int .u64 n]),(105015,.arr 1 (hW H))]from rfl,hHl];refine wW ?_
 refine aZ hN (λk:Nat=>⟨[(11,.sl 106088 0 (4*k)),(69,.sl 105015 0 5),(70,.int .i64 5),(71,.int .i64 k)],[(105015,.arr 1 (l.map u32)),(106088,.arr 1 ((dK (l.take k)).map ub))]⟩)
  (λk=>k<=5) (λk=>5-k) 0 (.nil 11 106088 1 rfl (.le (by simp(disch:=first | omega | (simp only[Lx];omega))only[go_sem,simprocAttr];rfl))) aA4 ?_
 rintro k R3 hk hR3
 have hol:(dK (l.take k)).length=4*k:=by
  rw[tW,aBa];omega
 by_cases hlt:k<5
 ·have htk:dK (l.take (k+1))=dK (l.take k)++kN (l.getD k 0#32):=by
   rw[aC5,List.getElem?_eq_getElem aA4,dK,dK,List.flatMap_append];simp[aA5,hll,hlt]
  have f24:∀x:Nat,(x:Int).fdiv (2^min 24 32)=((x >>> 24:Nat):Int):=λx=>jV x 24;have f16:∀x:Nat,(x:Int).fdiv (2^min 16 32)=((x >>> 16:Nat):Int):=λx=>jV x 16;have f8:∀x:Nat,(x:Int).fdiv (2^min 8 32)=((x >>> 8:Nat):Int):=λx=>jV x 8;refine ou @qu @om f24 f16 f8 b8 ?_;refine hR3 (k+1) _ aA4 aA4 (.le ?_);rw[htk];simp(disch:=first | omega | (simp only[Lx];omega))only[go_sem,simprocAttr,kN]
  rw[aBG];rfl
 ·obtain rfl:k=5:=aA4;rw[aA7 aA4]at hol |-;refine wW ?_;exact hR.wk (h':=[]) (r':=.str (dK l)) (ar':=[.undef,.undef,.undef]) rfl (.le vV) ⟨rfl,rfl,rfl⟩
theorem DH:Eng.Spec Tryz.prog 168 [] [] (λh' v _=>h'=[(103001,.arr 1 (hW start))]/\v=.sl 103001 0 5):=by
 refine Cod.awb (λE R hN hR=>?_);refine wW ?_;exact hR.le (h':=[(103001,.arr 1 (hW start))]) (by simp(disch:=omega)only[go_sem,simprocAttr];decide) ⟨rfl,rfl⟩
theorem Pp (t:Bs) (ht:t.length<=9223372036854775807):Eng.Spec Tryz.prog 118 [(105900,.var [.al,.str [],.int .u64 0])] [.ab 105900 0,.str t]
    (λh' v ar=>h'=de (blks (t.length/64) start t) (t.drop (64*(t.length/64))) t.length/\v=.ai []/\ar=[.ab 105900 0,.str t]):=by
 refine Cod.Pq (λE R hN hR=>?_);refine wW ?_;refine aR [] DH trivial (λ_=>rfl) ?_;rintro h' v as' ⟨rfl,rfl⟩;refine⟨rfl,rfl,?_⟩;refine wW ?_;refine nf [(105900,.var [.al,.str [],.int .u64 0])] (bs:=[.ab 105900 0,.str t,.ro 1 (hW start),FN]) (by simp(disch:=omega)only[go_sem,simprocAttr,hW]) (ayF t ht) vV nofun ?_;rintro h' v as' ⟨rfl,rfl,rfl⟩;refine⟨by simp(disch:=omega)only[go_sem,simprocAttr,de,hW],rfl,?_⟩;refine wW ?_;exact hR.le (by simp(disch:=omega)only[go_sem,simprocAttr,de,hW]) ⟨rfl,rfl,rfl⟩
theorem Pj (h:H5) (r:Bs) (n:Nat) (hr:r.length=n%64) (hn:n<=1000000):Eng.Spec Tryz.prog 119 (lJ h r n) [.ab 106900 0]
    (λh' v ar=>h'=[]/\v=.str (dK (blks ((r.length+(cG n).length)/64) h (r++cG n)).l)/\ar=[.undef]):=by
 refine Cod.Pm (λE R hN hR=>?_);refine wW ?_;refine aR [] DH trivial (λ_=>rfl) ?_;rintro h' v as' ⟨rfl,rfl⟩;refine⟨rfl,rfl,?_⟩;refine wW ?_;refine nf (lJ h r n) (bs:=[.ab 106900 0,.ro 1 (hW start),FN]) (by simp(disch:=omega)only[go_sem,simprocAttr,hW]) (RI h r n hr hn) vV nofun ?_;rintro h' v as' ⟨rfl,rfl,rfl⟩;refine⟨rfl,rfl,?_⟩;refine wW ?_;exact hR.wk (h':=[]) (r':=.str _) (ar':=[.undef]) rfl (.le vV) ⟨rfl,rfl,rfl⟩
theorem uZ (t:Bs) (ht:t.length<=1000000):aJ Tryz.prog 74 [.str t] (.str (ep t)):=by
 refine Cod.awB (λE R hN hR=>?_);have hsp:=atY t;refine wW ?_;refine j7 ⟨[(3,.ab 105900 0),(4,.str t)],[(105900,.var [.al,.str [],.int .u64 0])]⟩ (.iZ 109003 105900 rfl rfl (.le vV)) rfl ?_;refine aR [(105900,.var [.al,.str [],.int .u64 0])] (Pp t aA4) vV nofun ?_;rintro h' v as' ⟨rfl,rfl,rfl⟩;refine⟨rfl,rfl,?_⟩;refine wW ?_;have hrl:(t.drop (64*(t.length/64))).length=t.length%64:=by rw[aBb];omega
 refine j7 ⟨[(3,.ab 106900 0)],lJ (blks (t.length/64) start t) (t.drop (64*(t.length/64))) t.length⟩ (.iZ 105900 106900 rfl rfl (.iZ 105015 106901 rfl rfl (.le (by simp(disch:=omega)only[go_sem,simprocAttr,de,hW])))) rfl ?_;refine aR (lJ (blks (t.length/64) start t) (t.drop (64*(t.length/64))) t.length) (Pj _ _ t.length hrl ht) vV nofun ?_;rintro h' v as' ⟨rfl,rfl,rfl⟩;refine⟨rfl,rfl,?_⟩;refine wW ?_;refine hR.ro ⟨rfl,?_⟩;rw[hsp,hrl]
theorem yU (t:Bs) (b:UInt8):bW (t++[b])=bW t++mo b:=by simp[bW]
theorem D7 (b:UInt8):(b.toNat:Int).fdiv (2^min 4 8)=((b.toNat/16:Nat):Int):=by
 exact(jV b.toNat 4).trans (by rw[aCS])
theorem D8 (b:UInt8):bits .and .u8 (b.toNat:Int) 15=((b.toNat%16:Nat):Int):=by
 show IntKind.u8.wrap ((BitVec.ofInt 8 (b.toNat:Int) &&& BitVec.ofInt 8 15).toNat:Int)=_
 have hb:=b.toNat_lt;rw[aBl,aCC,aBm,aBh aA4,show(BitVec.ofInt 8 15).toNat=2^4-1 by decide,aBY];exact wrap_u8 aA4
theorem pY (t:Bs) (ht:t.length<=1000000):aJ Tryz.prog 37 [.str t] (.str (bW t)):=by
 refine Cod.PN (λE R hN hR=>?_);refine wW ?_;refine aZ hN (λk:Nat=>⟨[(0,.str t),(3,.sl 110022 0 (2*k)),(6,.int .i64 t.length),(7,.int .i64 k)],[(110022,.arr 1 ((bW (t.take k)).map ub))]⟩) (λk=>k<=t.length) (λk=>t.length-k) 0 (.nil 3 110022 1 rfl (.le (by simp(disch:=omega)only[go_sem,simprocAttr];rfl))) aA4 ?_;rintro k R1 hk hR1;have hhl:(bW (t.take k)).length=2*k:=by rw[s5,aBa];omega
 by_cases hlt:k<t.length
 ·have htk:bW (t.take (k+1))=bW (t.take k)++mo (t.getD k 0):=by rw[lK t hlt,yU]
  generalize hb:t.getD k 0=b at *
  have hb1:=b.toNat_lt;refine ct hb @D7 @D8 ?_;refine hR1 (k+1) _ aA4 aA4 (.le ?_);rw[htk,show 2*(k+1)=2*k+2 by omega];refine wW ?_;rw[aBG];rfl
 ·obtain rfl:k=t.length:=aA4;rw[aA7 aA4]at hhl |-;refine wW ?_;exact hR.wk (h':=[]) (r':=.str (bW t)) (ar':=[.undef]) rfl (.le vV) ⟨rfl,rfl⟩
theorem uH (x:W) (k:Nat) (hk:k<32):aJ Tryz.prog 90 [.int .u32 x.toNat,.int .i64 k] (.int .u32 (x.rotateLeft k).toNat):=by
 refine Cod.as7 (λE R hN hR=>?_);refine wW ?_;refine hR.ro ⟨rfl,?_⟩;rw[show min k 32=k by omega,show min ((32:Int)-k).toNat 32=32-k by omega,CL x hk]
theorem ae8 (t:Bs) (k:Nat):(t++128::List.replicate k 0)++[0]=t++128::List.replicate (k+1) (0:UInt8):=by
 rw[aCR,aB5];rfl
theorem Zd (n:Nat) {k:Nat} (hk:k<8):(bh n).getD k 0=UInt8.ofNat ((8*n) >>> (8*(7-k))):=by
 rw[zX n hk,show 56-8*k=8*(7-k)by omega]
theorem arY (t:Bs) (ht:t.length<=1000000):Eng.Spec Tryz.prog 88 [] [.str t]
    (λh' v _=>h'=[(112007,.arr 1 ((t++cG t.length).map ub))]/\v=.sl 112007 0 (t.length+(cG t.length).length)):=by
 refine Cod.arZ (λE R hN hR=>?_);have hpk:cF t.length<64:=by unfold cF;omega
 have hpad:∀k,k<cF t.length->((t.length:Int)+1+k)%64≠56:=by
  intro k hk;unfold cF at hk;omega
 have hpe:((t.length:Int)+1+(cF t.length:Nat))%64=56:=by
  unfold cF;omega
 refine wW ?_;refine aZ hN (λk:Nat=>⟨[(0,.str t),(3,.sl 112007 0 (t.length+1+k))],[(112007,.arr 1 ((t++128::List.replicate k 0).map ub))]⟩) (λk=>k<=cF t.length) (λk=>cF t.length-k) 0 (.le (by simp(disch:=first | omega | (simp only[Lx];omega))only[go_sem,simprocAttr,aDj])) aA4 ?_
 rintro k R1 hk hR1;by_cases hlt:k<cF t.length
 ·have hc:=hpad k hlt;have ha:=ae8 t k;simp(disch:=first | omega | (simp only[Lx];omega))only[go_sem,simprocAttr,hc,aBt]
  refine hR1 (k+1) _ aA4 aA4 (.le ?_);rw[<-ha,show t.length+1+(k+1)=t.length+1+k+1 by omega];exact vV
 obtain rfl:k=cF t.length:=aA4;have en:IntKind.u64.wrap ((t.length:Int)*8)=((8*t.length:Nat):Int):=by rw[wrap_u64 aA4];omega
 refine bl hpe en ?_
 refine aZ hN (λj:Nat=>⟨[(3,.sl 112007 0 (t.length+1+cF t.length+j)),(4,.int .u64 ((8*t.length:Nat):Int)),(5,.int .i64 (7-(j:Int)))],[(112007,.arr 1 ((t++128::(List.replicate (cF t.length) 0++(bh t.length).take j)).map ub))]⟩)
  (λj=>j<=8) (λj=>8-j) 0 (.le (by simp(disch:=first | omega | (simp only[Lx];omega))only[go_sem,simprocAttr,aBV])) aA4 ?_
 rintro j R2 hj hR2;have hll:((bh t.length).take j).length=j:=by rw[aBa];simp[bh];omega
 by_cases hlt:j<8
 ·have htk:=lK (bh t.length) (k:=j) hlt;rw[Zd t.length hlt]at htk;have e1:min (8*(7-(j:Int))).toNat 64=8*(7-j):=aA4;have e4:(7:Int)-j-1=7-((j+1:Nat):Int):=aA4;have e5:(7:Int)-j=((7-j:Nat):Int):=aA4;simp(disch:=first | omega | (simp only[Lx];omega))only[go_sem,simprocAttr,aBt,hll,e1,jV,b8,vP]
  refine hR2 (j+1) _ aA4 aA4 (.le ?_);rw[htk,e4];simp(disch:=first | omega | (simp only[Lx];omega))only[go_sem,simprocAttr,aB5]
 obtain rfl:j=8:=aA4;have htl:t++(128:UInt8)::(List.replicate (cF t.length) 0++List.take 8 (bh t.length))=t++cG t.length:=rfl;have htlen:(cG t.length).length=9+cF t.length:=by simp[cG,bh];omega
 refine au htl ?_;exact hR.le vV ⟨rfl,by rw[htlen];congr 1;omega⟩
theorem getD_take {α:Type} (d:α) (l:List α) {k i:Nat} (h:i<k):(l.take k).getD i d=l.getD i d:=by
 rw[aA5,aA5,List.getElem?_take_of_lt h]
theorem ayy (p:Bs) (i:Nat):(fv p i <<< 24+fv p (i+1) <<< 16)+fv p (i+2) <<< 8+fv p (i+3)=j3 p i:=by
 have hb:∀k,(fv p k).toNat<256:=λk=>by
  have:=(p.getD k 0).toNat_lt;unfold fv;rw[aBm,aBh]<;>omega
 have h0:=hb i;have h1:=hb (i+1);have h2:=hb (i+2);have h3:=hb (i+3);unfold j3;generalize fv p i=x at *
 generalize fv p (i+1)=y at *
 generalize fv p (i+2)=z at *
 generalize fv p (i+3)=w at *
 apply BitVec.eq_of_toNat_eq;simp only[BitVec.toNat_add,aCw,aDx,aB8];rw[aBh (a:=x.toNat*2^24) aA4,aBh (a:=y.toNat*2^16) aA4,aBh (a:=z.toNat*2^8) aA4];rw[aBh (a:=x.toNat*2^24+y.toNat*2^16) aA4,aBh (a:=x.toNat*2^24+y.toNat*2^16+z.toNat*2^8) aA4,aBh aA4];have e1:=aCM (i:=24) (b:=y.toNat*2^16) aA4 x.toNat;have e2:=aCM (i:=16) (b:=z.toNat*2^8) aA4 (x.toNat*2^8+y.toNat);have e3:=aCM (i:=8) (b:=w.toNat) aA4 (x.toNat*2^16+y.toNat*2^8+z.toNat);rw[aDy (2^24)]at e1;rw[show 2^16*(x.toNat*2^8+y.toNat)=x.toNat*2^24+y.toNat*2^16 by omega]at e2;rw[show 2^8*(x.toNat*2^16+y.toNat*2^8+z.toNat)=x.toNat*2^24+y.toNat*2^16+z.toNat*2^8 by omega]at e3;rw[e3,e2,e1]
theorem ayo (x:W):IntKind.u32.wrap (x.toNat*16777216)=(x <<< 24).toNat:=lP x 24
theorem ayn (x:W):IntKind.u32.wrap (x.toNat*65536)=(x <<< 16).toNat:=lP x 16
theorem ayp (x:W):IntKind.u32.wrap (x.toNat*256)=(x <<< 8).toNat:=lP x 8
def eK (p:Bs) (i:Nat):List W:=(sched p i).take i
theorem Da (p:Bs) {i:Nat} (h:i<=80):(eK p i).length=i:=by
 unfold eK;rw[aBa,kC];omega
theorem Db (p:Bs) {i:Nat} (h:i<80):eK p (i+1)=eK p i++[(sched p (i+1)).getD i 0#32]:=by
 unfold eK;have hl:=kC p i;have hl2:=kC p (i+1);rw[aC5,List.getElem?_eq_getElem aA4]
 have:(sched p (i+1)).take i=(sched p i).take i:=by
  rw[nU];unfold jc;split<;>rw[List.take_set_of_le (aA9 _)]
 rw[this];simp[aA5,hl2,h]
theorem atC (p:Bs) {i:Nat} (h:i<16):(sched p (i+1)).getD i 0#32=j3 p (4*i):=by
 rw[nU];unfold jc;rw[if_pos h];have:i<80:=aA4;simp[aA5,kC,this]
theorem atB (p:Bs) {i:Nat} (h:¬i<16) (h2:i<80):(sched p (i+1)).getD i 0#32=((eK p i).getD (i-3) 0#32 ^^^ (eK p i).getD (i-8) 0#32 ^^^ (eK p i).getD (i-14) 0#32 ^^^ (eK p i).getD (i-16) 0#32).rotateLeft 1:=by
 unfold eK;rw[getD_take _ _ aA4,getD_take _ _ aA4,getD_take _ _ aA4,getD_take _ _ aA4,nU];unfold jc;rw[if_neg h];simp[aA5,kC,h2]
theorem atA (p:Bs):eK p 80=sched p 80:=by
 unfold eK;rw[aA7 (by rw[kC];omega)]
theorem aty (p:Bs) (hp:p.length=64):Eng.Spec Tryz.prog 89 [] [.ro 1 (p.map ub)] (λh' v ar=>h'=[(113005,.arr 1 ((eK p 16).map u32))]/\v=.sl 113005 0 16/\ar=[.undef]):=by
 refine Cod.atx (λE R hN hR=>?_);refine wW ?_;refine aZ hN (λk:Nat=>⟨[(0,.ro 1 (p.map ub)),(3,.sl 113005 0 k),(4,.int .i64 (4*(k:Int)))],[(113005,.arr 1 ((eK p k).map u32))]⟩) (λk=>k<=16) (λk=>16-k) 0 (.le (by simp(disch:=omega)only[go_sem,simprocAttr];rfl)) aA4 ?_;rintro k R1 hk hR1;have hsl:=Da p (i:=k) aA4;by_cases hlt:k<16
 ·have hss:=Db p (i:=k) aA4;rw[atC p hlt]at hss;have hws:=ayy p (4*k);have e0:(4*(k:Int)).toNat=4*k:=aA4;have e1:(4*(k:Int)+1).toNat=4*k+1:=aA4;have e2:(4*(k:Int)+2).toNat=4*k+2:=aA4;have e3:(4*(k:Int)+3).toNat=4*k+3:=aA4;simp(disch:=omega)only[go_sem,simprocAttr,e0,e1,e2,e3,wT,ox,ayo,ayn,ayp,ov,w6,hws,vQ];refine hR1 (k+1) _ aA4 aA4 (.le ?_);rw[hss,show 4*((k+1:Nat):Int)=4*(k:Int)+4 by omega];exact vV
 ·obtain rfl:k=16:=aA4;refine wW ?_;exact hR.le vV ⟨rfl,rfl,rfl⟩
theorem arA (l:List W) (hl:l.length<=1000):aJ Tryz.prog 91 [.ro 1 (l.map u32)] (.str (dK l)):=by
 refine Cod.arB (λE R hN hR=>?_);refine wW ?_;refine aZ hN (λk:Nat=>⟨[(3,.sl 114006 0 (4*k)),(7,.ro 1 (l.map u32)),(8,.int .i64 l.length),(9,.int .i64 k)],[(114006,.arr 1 ((dK (l.take k)).map ub))]⟩) (λk=>k<=l.length) (λk=>l.length-k) 0 (.le (by simp(disch:=omega)only[go_sem,simprocAttr];rfl)) aA4 ?_;rintro k R1 hk hR1;have hol:(dK (l.take k)).length=4*k:=by rw[tW,aBa];omega
 by_cases hlt:k<l.length
 ·have htk:dK (l.take (k+1))=dK (l.take k)++kN (l.getD k 0#32):=by
   rw[aC5,List.getElem?_eq_getElem hlt,dK,dK,List.flatMap_append];simp[aA5,hlt]
  have f24:∀x:Nat,(x:Int).fdiv (2^min 24 32)=((x >>> 24:Nat):Int):=λx=>jV x 24;have f16:∀x:Nat,(x:Int).fdiv (2^min 16 32)=((x >>> 16:Nat):Int):=λx=>jV x 16;have f8:∀x:Nat,(x:Int).fdiv (2^min 8 32)=((x >>> 8:Nat):Int):=λx=>jV x 8;refine ou @qu @om f24 f16 f8 b8 ?_;refine hR1 (k+1) _ aA4 aA4 (.le ?_);rw[htk,show 4*(k+1)=4*k+4 by omega];simp(disch:=omega)only[go_sem,simprocAttr,kN];rw[aBG];rfl
 ·obtain rfl:k=l.length:=aA4;rw[aA7 aA4]at hol |-;refine wW ?_;exact hR.wk (h':=[]) (r':=.str (dK l)) (ar':=[.undef]) rfl (.le vV) ⟨rfl,rfl⟩
theorem Pv (b:UInt8):List.take (b.toNat/16+1-b.toNat/16) (List.drop (b.toNat/16) gw)++List.take (b.toNat%16+1-b.toNat%16) (List.drop (b.toNat%16) gw)=mo b:=by
 have key:∀m:Fin 16,List.take (m.val+1-m.val) (List.drop m.val gw)=[gw.getD m.val 0]:=by decide
 have hb:=b.toNat_lt;have h1:=key ⟨b.toNat/16,aA4⟩;have h2:=key ⟨b.toNat%16,aA4⟩;simp only at h1 h2;rw[h1,h2];rfl
theorem aql (t:Bs) (ht:t.length<=1000000):aJ Tryz.prog 47 [.str t] (.str (bW t)):=by
 refine Cod.aqm (λE R hN hR=>?_);refine wW ?_;refine aZ hN (λk:Nat=>⟨[(0,.str t),(3,.str (bW (t.take k))),(4,.int .i64 k)],[]⟩) (λk=>k<=t.length) (λk=>t.length-k) 0 (.le (by simp(disch:=first | omega | (simp only[Lx];omega))only[go_sem,simprocAttr];rfl)) aA4 ?_
 rintro k R1 hk hR1;have hhl:(bW (t.take k)).length=2*k:=by rw[s5,aBa];omega
 by_cases hlt:k<t.length
 ·have htk:bW (t.take (k+1))=bW (t.take k)++mo (t.getD k 0):=by rw[lK t hlt,yU]
  generalize hb:t.getD k 0=b at *
  have hb1:=b.toNat_lt;have hp:=Pv b;rw[gw]at hp;have e1:((b.toNat:Int)/16+1).toNat=b.toNat/16+1:=aA4;have e2:((b.toNat:Int)/16).toNat=b.toNat/16:=aA4;have e3:((b.toNat:Int)%16+1).toNat=b.toNat%16+1:=aA4;have e4:((b.toNat:Int)%16).toNat=b.toNat%16:=aA4;refine au hb ?_;rw[e1,e2,e3,e4,hp];exact hR1 (k+1) _ aA4 aA4 (.le (eM htk))
 ·obtain rfl:k=t.length:=aA4;rw[aA7 aA4]at hhl |-;refine wW ?_;exact hR.ro ⟨rfl,rfl⟩
theorem asU (t:Bs) (ht:t.length<=100000):aJ Tryz.prog 48 [.str t] (.str (ep t)):=by
 refine Cod.asV (λE R hN hR=>?_);have htl:=DS t.length;have hpl:(t++cG t.length).length=t.length+(cG t.length).length:=aA8
 have htb:(cG t.length).length<=80:=by
  have:cF t.length<64:=by unfold cF;omega
  simp[cG,bh];omega
 have hbz:blks 0 start (t++cG t.length)=start:=rfl;unfold ep at hR;rw[<-hpl]at hR htl;refine wW ?_;refine aR [] (arY t aA4) trivial nofun ?_;rintro h' v as' ⟨rfl,rfl⟩;refine⟨rfl,rfl,?_⟩;rw[<-hpl];have hQl:(t++cG t.length).length<=100080:=aA4;generalize t++cG t.length=Q at *
 refine wW ?_;refine aZ hN (λj:Nat=>⟨[(3,.sl 112007 0 Q.length),(4,.sl 115019 0 5),(5,.int .i64 (64*(j:Int)))],[(112007,.arr 1 (Q.map ub)),(115019,.arr 1 (hW (blks j start Q)))]⟩) (λj=>64*j<=Q.length) (λj=>Q.length-64*j) 0 (.le (by rw[hbz];simp(disch:=omega)only[go_sem,simprocAttr,hW];decide)) aA4 ?_;rintro j R1 hj hR1;by_cases hlt:64*j<Q.length
 ·have hbo:=wx j start Q;generalize hH:blks j start Q=H at *
  have hp:((Q.drop (64*j)).take 64).length=64:=by rw[aBa,aBb];omega
  generalize hpp:(Q.drop (64*j)).take 64=p at *
  have hw:=aty p hp;have e0:(64*(j:Int)).toNat=64*j:=aA4;have e1:(64*(j:Int)+64).toNat=64*j+64:=aA4;have e2:64*j+64-64*j=64:=aA4;refine ct e0 e1 e2 ?_;refine nf [] (bs:=[.ro 1 (p.map ub)]) (eM hpp) hw trivial nofun ?_;rintro h' v as' ⟨rfl,rfl,rfl⟩;refine⟨eM @NM,rfl,?_⟩;refine wW ?_
  refine aZ hN (λi:Nat=>⟨[(3,.sl 112007 0 Q.length),(4,.sl 115019 0 5),(5,.int .i64 (64*(j:Int))),(6,.sl 113005 0 i),(7,.int .i64 i)],[(112007,.arr 1 (Q.map ub)),(115019,.arr 1 (hW H)),(113005,.arr 1 ((eK p i).map u32))]⟩)
   (λi=>16<=i/\i<=80) (λi=>80-i) 16 (.le vV) aA4 ?_
  rintro i R2 ⟨hi0,hi⟩ hR2;have hsl:=Da p hi;by_cases hlt2:i<80
  ·have hss:=Db p hlt2;rw[atB p aA4 hlt2]at hss;have hr:=uH ((eK p i).getD (i-3) 0#32 ^^^ (eK p i).getD (i-8) 0#32 ^^^ (eK p i).getD (i-14) 0#32 ^^^ (eK p i).getD (i-16) 0#32) 1 aA4;have e3:((i:Int)-3).toNat=i-3:=aA4;have e8:((i:Int)-8).toNat=i-8:=aA4;have e14:((i:Int)-14).toNat=i-14:=aA4;have e16:((i:Int)-16).toNat=i-16:=aA4;simp(disch:=omega)only[go_sem,simprocAttr,e3,e8,e14,e16,qu,om,eD];refine aw hr rfl rfl ?_;refine bl @w6 @vQ ?_;exact hR2 (i+1) _ aA4 aA4 (.le (eM hss))
  obtain rfl:i=80:=aA4;rw[atA]at hsl |-;generalize hw2:sched p 80=w at *
  simp(disch:=omega)only[go_sem,simprocAttr,mE,mG,hW]
  refine aZ hN (λi:Nat=>⟨[(3,.sl 112007 0 Q.length),(4,.sl 115019 0 5),(5,.int .i64 (64*(j:Int))),(6,.sl 113005 0 80),(8,.int .u32 (rounds w H i).a.toNat),(9,.int .u32 (rounds w H i).b.toNat),(10,.int .u32 (rounds w H i).c.toNat),(11,.int .u32 (rounds w H i).d.toNat),(12,.int .u32 (rounds w H i).e.toNat),(13,.int .i64 i)],
   [(112007,.arr 1 (Q.map ub)),(115019,.arr 1 (hW H)),(113005,.arr 1 (w.map u32))]⟩) (λi=>i<=80) (λi=>80-i) 0 (.le (eM @CM)) aA4 ?_
  rintro i R3 hi hR3;by_cases hlt3:i<80
  ·have hrs:=rounds_succ w H i;generalize hx:rounds w H i=x at *
   have hst:qP w x i=⟨x.a.rotateLeft 5+gU i x.b x.c x.d+x.e+gW i+w.getD i 0#32,x.a,x.b.rotateLeft 30,x.c,x.d⟩:=rfl;have hnot:bits .xor .u32 (x.b.toNat:Int) 4294967295=(~~~x.b).toNat:=ayr x.b
   have rest:∀(f:W) (k:Int),f=gU i x.b x.c x.d->k=((gW i).toNat:Int)->vcW Tryz.prog E Cod.uF (KQ.cN 5 (KQ.seq Tryz.prog E Cod.CW (KQ.fk R3 (KQ.cN 4 (KQ.seq Tryz.prog E Cod.CV (KQ.cN 1 (KQ.seq Tryz.prog E Cod.C2 (KQ.fk R1 (KQ.cN 0 (KQ.seq Tryz.prog E Cod.C0 (KQ.post [.tmp 2] 1 R)))))))))))
       ⟨[(3,.sl 112007 0 Q.length),(4,.sl 115019 0 5),(5,.int .i64 (64*(j:Int))),(6,.sl 113005 0 80),(8,.int .u32 x.a.toNat),(9,.int .u32 x.b.toNat),(10,.int .u32 x.c.toNat),(11,.int .u32 x.d.toNat),(12,.int .u32 x.e.toNat),(13,.int .i64 i),(14,.int .u32 f.toNat),(15,.int .u32 k)],
        [(112007,.arr 1 (Q.map ub)),(115019,.arr 1 (hW H)),(113005,.arr 1 (w.map u32))]⟩:=by
    intro f k hf hk;subst hk;have r5:=uH x.a 5 aA4;have r30:=uH x.b 30 aA4;refine bl @qu @om ?_;refine aw r5 rfl rfl ?_;refine au ov ?_;refine aw r30 rfl rfl ?_;refine wW ?_;refine hR3 (i+1) _ aA4 aA4 (.le ?_);rw[hrs,hst,<-hf];exact vV
   by_cases h20:i<20
   ·refine cW eD fU eC hnot @Cod.iA ?_;refine eB hN ?_;refine cW eD fU eC hnot @Cod.iA ?_;refine eB hN ?_;refine cW eD fU eC hnot @Cod.iA ?_;refine lN hN _ (.le ?_) (rest (x.b &&& x.c ||| ~~~x.b &&& x.d) 1518500249 ?_ ?_)
    ·exact vV
    ·unfold gU;rw[if_pos h20]
    ·unfold gW;rw[if_pos h20];decide
   ·by_cases h40:i<40
    ·refine cW eD fU eC hnot @Cod.iA ?_;refine eB hN ?_;refine cW eD fU eC hnot @Cod.iA ?_;refine eB hN ?_;refine cW eD fU eC hnot @Cod.iA ?_;refine lN hN _ (.le ?_) (rest (x.b ^^^ x.c ^^^ x.d) 1859775393 ?_ ?_)
     ·exact vV
     ·unfold gU;rw[if_neg h20,if_pos h40]
     ·unfold gW;rw[if_neg h20,if_pos h40];decide
    ·by_cases h60:i<60
     ·refine cW eD fU eC hnot @Cod.iA ?_;refine eB hN ?_;refine cW eD fU eC hnot @Cod.iA ?_;refine eB hN ?_;refine cW eD fU eC hnot @Cod.iA ?_;refine lN hN _ (.le ?_) (rest (x.b &&& x.c ||| x.b &&& x.d ||| x.c &&& x.d) 2400959708 ?_ ?_)
      ·exact vV
      ·unfold gU;rw[if_neg h20,if_neg h40,if_pos h60]
      ·unfold gW;rw[if_neg h20,if_neg h40,if_pos h60];decide
     ·refine cW eD fU eC hnot @Cod.iA ?_;refine eB hN ?_;refine cW eD fU eC hnot @Cod.iA ?_;refine eB hN ?_;refine cW eD fU eC hnot @Cod.iA ?_;refine lN hN _ (.le ?_) (rest (x.b ^^^ x.c ^^^ x.d) 3395469782 ?_ ?_)
      ·exact vV
      ·unfold gU;rw[if_neg h20,if_neg h40,if_neg h60]
      ·unfold gW;rw[if_neg h20,if_neg h40,if_neg h60];decide
  ·obtain rfl:i=80:=aA4;generalize hx:rounds w H 80=x at *
   simp(disch:=omega)only[go_sem,simprocAttr,mE,mG,ov,hW];refine hR1 (j+1) _ aA4 aA4 (.drop 115019 (.iZ 115161 115019 rfl rfl (.le ?_)));rw[hbo,cN,hw2,hx,show 64*((j+1:Nat):Int)=64*(j:Int)+64 by omega];simp(disch:=omega)only[go_sem,simprocAttr,hW,H5.add]
 ·have hq:j=Q.length/64:=aA4;rw[<-hq]at hR;refine wW ?_;refine Je (bs:=[.ro 1 (hW (blks j start Q))]) vV (arA (blks j start Q).l (by simp[H5.l])) rfl ?_;refine wW ?_;exact hR.wk (h':=[]) (r':=.str _) (ar':=[.undef]) rfl (.le vV) ⟨rfl,rfl⟩
end Go.Proofs.YtoalcafkffmiiaaGreatDoor.Sh
