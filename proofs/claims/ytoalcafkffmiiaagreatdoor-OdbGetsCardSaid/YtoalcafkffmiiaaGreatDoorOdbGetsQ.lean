/- The proof, part 17 of 43. -/
import Derived.Test.YtoalcafkffmiiaaGreatDoorOdbGetsK
import Derived.Test.YtoalcafkffmiiaaGreatDoorProg
set_option linter.all false
namespace Go.Proofs.YtoalcafkffmiiaaGreatDoor.Cod
open Eng Eng.Kz
set_option maxRecDepth 100000
abbrev KX:=Kf.s1 200 Tryz.func24
abbrev J5:=Kf.s3 201 Tryz.func70
abbrev KT:=Kf.r1 202 Tryz.func27
abbrev ZU:=Kf.s1 203 Tryz.func7
abbrev abu:=Kf.s2 204 Tryz.func28
abbrev ZV:=Kf.s2 205 Tryz.func33
abbrev abw:=Kf.s1 206 Tryz.func72
abbrev abn:=Kf.s1 207 Tryz.func117
abbrev ZF:=Kf.s1 208 Tryz.func32
abbrev SO:=Kf.s1 209 Tryz.func76
abbrev SU:=Kf.s1 210 Tryz.func81
abbrev DH:=Kf.s2 211 Tryz.func44
abbrev SN:=Kf.s1 213 Tryz.func39
abbrev SD:=Kf.s2 214 Tryz.func77
abbrev Zz:=Kf.s2 215 Tryz.func40
abbrev Ni:=Kf.s2 216 Tryz.func29
abbrev Nk:=Kf.s2 223 Tryz.func30
abbrev Ka:=Kf.s2 224 Tryz.func26
open Eng Eng.Kz
set_option maxRecDepth 100000
abbrev Ub:=Kf.s1 1 Tryz.func183
abbrev KM:=Kf.s1 2 Tryz.func185
abbrev UB:=Kf.s1 3 Tryz.func186
abbrev QX:=Kf.s1 4 Tryz.func184
abbrev MU:=Kf.s1 5 Tryz.func134
abbrev L3:=Kf.s1 6 Tryz.func133
abbrev Uw:=Kf.s1 7 Tryz.func82
abbrev Yy:=Kf.s1 8 Tryz.func17
abbrev Yo:=Kf.s1 9 Tryz.func150
abbrev Fl:AK:=pk (x:=Kc.code Tryz.prog Tryz.f149 10 [] (Kc.lr 0 [.tmp 2])) _
abbrev Xi:AK:=pk (x:=Fl.y.y.y.y) _
abbrev Xj:AK:=pk (x:=Fl.y.y.y.x.y.x) _
abbrev Xl:=Kf.s1 10 Tryz.func149
abbrev YW:=Kf.s1 12 Tryz.func49
abbrev Ym:=Kf.s1 13 Tryz.func13
abbrev XM:=Kf.s1 14 Tryz.func94
abbrev find_spec:=Kf.s2 15 Tryz.func148
abbrev wv:=Kf.s1 16 Tryz.func92
abbrev Zf:=Kf.s2 30 Tryz.func182
abbrev Sc:=Kf.s2 31 Tryz.func219
abbrev Xc:=Kf.s2 225 Tryz.func57
abbrev Xd:=Kf.s2 226 Tryz.func51
abbrev Xh:=Kf.s2 227 Tryz.func53
abbrev Xf:=Kf.s2 228 Tryz.func58
abbrev Xg:=Kf.s2 229 Tryz.func20
abbrev Xm:=Kf.s1 230 Tryz.func50
abbrev Xq:=Kf.s1 231 Tryz.func14
abbrev Xu:=Kf.s1 232 Tryz.func52
abbrev Xs:=Kf.s2 233 Tryz.func15
abbrev Xo:=Kf.s1 234 Tryz.func56
abbrev Wt:=Kf.s1 235 Tryz.func60
end Go.Proofs.YtoalcafkffmiiaaGreatDoor.Cod
