/- The proof, part 16 of 43. -/
import Derived.Test.YtoalcafkffmiiaaGreatDoorOdbGetsK
import Derived.Test.YtoalcafkffmiiaaGreatDoorProg
set_option linter.all false
namespace Go.Proofs.YtoalcafkffmiiaaGreatDoor.Cod
open Eng Eng.Kz
set_option maxRecDepth 100000
abbrev acv:AK:=pk (x:=Kc.code Tryz.prog Tryz.f34 240 [] (Kc.lr 0 [.tmp 2,.tmp 3])) _
abbrev acw:AK:=pk (x:=acv.y.y.y.y.y.y.y.y.y.y.x.y.x.x.y.y.x.x.y.y.y.y.y) _
abbrev acy:=Kf.s1 240 Tryz.func34
abbrev acq:=Kf.s1 241 Tryz.func36
abbrev acA:=Kf.s1 242 Tryz.func38
abbrev acs:=Kf.s2 243 Tryz.func41
abbrev aci:=Kf.s2 244 Tryz.func79
abbrev YM:=Kf.s3 245 Tryz.func78
abbrev UJ:=Kf.s1 246 Tryz.func10
abbrev UD:=Kf.s2 247 Tryz.func11
abbrev UY:=Kf.s2 248 Tryz.func21
abbrev Em:=Kf.s2 249 Tryz.func12
abbrev ack:=Kf.s1 250 Tryz.func35
abbrev ZB:=Kf.s2 251 Tryz.func8
abbrev IP:=Kf.s0 252 Tryz.func9
open Eng Eng.Kz
set_option maxRecDepth 100000
abbrev Ut:=Kf.s1 254 Tryz.func73
abbrev aco:=Kf.s2 260 Tryz.func45
abbrev acn:=Kf.s2 261 Tryz.func83
abbrev Uq:=Kf.s2 262 Tryz.func84
abbrev UI:=Kf.r2 263 Tryz.func46
abbrev Bt:=Kf.k1 255 Tryz.func142
abbrev Br:=Kf.x1 255 Tryz.func142
abbrev Mk:AK:=pk (x:=Kc.code Tryz.prog Tryz.f192 256 [] (Kc.lr 1 [.tmp 2])) _
abbrev Mm:=Kf.k1 256 Tryz.func192
abbrev Ml:=Kf.x1 256 Tryz.func192
abbrev LH:AK:=pk (x:=Kc.code Tryz.prog Tryz.f143 257 [] (Kc.lr 2 [.tmp 4,.tmp 5])) _
abbrev LL:=Kf.k2 257 Tryz.func143
abbrev LJ:=Kf.x2 257 Tryz.func143
abbrev wy:AK:=pk (x:=Kc.code Tryz.prog Tryz.f140 258 [] (Kc.eY [2000001,2000002,2000003,2000004] (Kc.lr 0 [.cell 2 false 1,.cell 3 false 1,.cell 4 false 1,.cell 5 false 1]))) _
abbrev Mn:AK:=pk (x:=wy.x) _
abbrev Mo:AK:=pk (x:=wy.y.y) _
theorem Mp:jA Tryz.prog 140 258000 8 wy [.cell 2 false 1,.cell 3 false 1,.cell 4 false 1,.cell 5 false 1]:=⟨_,Tryz.func140,by kernel_rfl⟩
theorem Mr {h a0 Post} (hI:lZ Tryz.prog 191 4) (hp:rL Tryz.prog [Mn] Mo 191 7 [(.t 2),(.t 3),(.t 4),(.t 5)] 258000 1 [.cell 2 false 1,.cell 3 false 1,.cell 4 false 1,.cell 5 false 1] [(0,a0)] h Post):Eng.Spec Tryz.prog 140 h [a0] Post:=za Mp rfl (adW rfl) (adW rfl) hI [(0,a0)] ⟨rfl,trivial⟩ hp
abbrev ox:AK:=pk (x:=Kc.code Tryz.prog Tryz.f87 259 [] (Kc.eY [2000003,2000004] (Kc.lr 0 [.cell 6 false 1,.cell 7 false 1]))) _
abbrev Lt:AK:=pk (x:=ox.x) _
abbrev Lu:AK:=pk (x:=ox.y.x) _
abbrev Lv:AK:=pk (x:=ox.y.y.y.y) _
abbrev Lw:AK:=pk (x:=ox.y.y.y.y.y.y.x.x.x.y.x.y.y.y) _
abbrev Ly:AK:=pk (x:=ox.y.y.x.x) _
theorem Lz:jA Tryz.prog 87 259000 38 ox [.cell 6 false 1,.cell 7 false 1]:=⟨_,Tryz.func87,by kernel_rfl⟩
theorem LB {h a0 a1 a2 Post} (hI:lZ Tryz.prog 141 2) (hp:rL Tryz.prog [Lt,Lu,(.block 0 Ly)] Lv 141 37 [(.t 6),(.t 7)] 259000 3 [.cell 6 false 1,.cell 7 false 1] [(0,a0),(1,a1),(2,a2)] h Post):Eng.Spec Tryz.prog 87 h [a0,a1,a2] Post:=za Lz rfl (adW rfl) (adW rfl) hI [(0,a0),(1,a1),(2,a2)] ⟨rfl,rfl,rfl,trivial⟩ hp
abbrev V8:=Kf.s2 270 Tryz.func205
abbrev Wa:=Kf.s1 271 Tryz.func158
abbrev EV:AK:=pk (x:=Kc.code Tryz.prog Tryz.f102 272 [] (Kc.lr 0 [.tmp 6,.tmp 7])) _
abbrev V4:AK:=pk (x:=EV.y.y.y.y.y.y.x.x.x.y.x.y.y.y.y.y) _
abbrev V5:AK:=pk (x:=EV.y.y.y.y.y.y.x.x.x.y.x.y.y.y.y.x.y.y.y.y.y.y.y) _
abbrev V7:=Kf.s3 272 Tryz.func102
abbrev yr:AK:=pk (x:=Kc.code Tryz.prog Tryz.f54 273 [273133,273157] (Kc.lr 0 [.tmp 2,.tmp 3,.tmp 4])) _
abbrev Wb:AK:=pk (x:=yr.y.y.y.y.y.y.y.y.y.y.y.y.x.y.x.x.y.x.x.y.y) _
abbrev Wc:AK:=pk (x:=yr.y.y.y.y.y.y.y.y.y.y.y.y.x.y.x.x.y.x.x.y.y.y.y) _
abbrev Wd:AK:=pk (x:=yr.y.y.y.y.y.y.y.y.y.y.y.y.x.y.x.x.y.x.x.y.y.y.y.y.y) _
abbrev Wf:=Kf.s1 273 Tryz.func54 [273133,273157]
abbrev Wm:=Kf.s1 274 Tryz.func18
abbrev Wp:=Kf.s2 275 Tryz.func61
abbrev Wg:=Kf.s2 276 Tryz.func62
abbrev Wq:AK:=pk (x:=Kc.code Tryz.prog Tryz.f63 277 [] (Kc.lr 0 [.cell 6 true 2,.tmp 7])) _
abbrev Wr:AK:=pk (x:=Wq.y.y.y.y.y) _
abbrev E7:=Kf.s3 277 Tryz.func63
abbrev Wi:=Kf.s3 278 Tryz.func23
abbrev Wj:=Kf.s3 279 Tryz.func19
abbrev Wo:=Kf.s3 280 Tryz.func22
abbrev Ux:AK:=pk (x:=Kc.code Tryz.prog Tryz.f16 264 [] (Kc.lr 0 [.tmp 6,.tmp 7])) _
abbrev Uy:AK:=pk (x:=Ux.y.y.y) _
abbrev UA:=Kf.s3 264 Tryz.func16
abbrev Up:=Kf.s3 268 Tryz.func6
end Go.Proofs.YtoalcafkffmiiaaGreatDoor.Cod
