/- The proof, part 37 of 50. -/
import Derived.Test.YtkdjbebgdoohjaaGreatDoorHistoryOrderK
import Derived.Test.YtkdjbebgdoohjaaGreatDoorProg
set_option linter.all false
namespace Go.Proofs.YtkdjbebgdoohjaaGreatDoor.Cod
open Eng Eng.Kz
set_option maxRecDepth 100000
abbrev Zg:AK:=pk (x:=Kc.code Tryz.prog Tryz.f34 240 [] (Kc.lr 0 [.tmp 2,.tmp 3])) _
abbrev Zh:AK:=pk (x:=Zg.y.y.y.y.y.y.y.y.y.y.x.y.x.x.y.y.x.x.y.y.y.y.y) _
abbrev Zj:=Kf.s1 240 Tryz.func34
abbrev Ze:=Kf.s1 241 Tryz.func36
abbrev Zl:=Kf.s1 242 Tryz.func38
abbrev Vg:=Kf.s3 245 Tryz.func102
abbrev SD:=Kf.s1 246 Tryz.func13
abbrev Sq:=Kf.s2 249 Tryz.func42
abbrev Y9:=Kf.s1 250 Tryz.func35
abbrev Wb:=Kf.s2 251 Tryz.func10
open Eng Eng.Kz
set_option maxRecDepth 100000
abbrev Sn:=Kf.s1 254 Tryz.func60
abbrev Zc:=Kf.s2 260 Tryz.func65
abbrev Zb:=Kf.s2 261 Tryz.func103
abbrev Sm:=Kf.s2 262 Tryz.func104
abbrev SC:=Kf.r2 263 Tryz.func66
abbrev zU:=Kf.k1 255 Tryz.func141
abbrev zT:=Kf.x1 255 Tryz.func141
abbrev Ko:AK:=pk (x:=Kc.code Tryz.prog Tryz.f168 256 [] (Kc.lr 1 [.tmp 2])) _
abbrev Kq:=Kf.k1 256 Tryz.func168
abbrev Kp:=Kf.x1 256 Tryz.func168
abbrev JR:AK:=pk (x:=Kc.code Tryz.prog Tryz.f142 257 [] (Kc.lr 2 [.tmp 4,.tmp 5])) _
abbrev JV:=Kf.k2 257 Tryz.func142
abbrev JT:=Kf.x2 257 Tryz.func142
abbrev va:AK:=pk (x:=Kc.code Tryz.prog Tryz.f139 258 [] (Kc.dD [2000001,2000002,2000003,2000004] (Kc.lr 0 [.cell 2 false 1,.cell 3 false 1,.cell 4 false 1,.cell 5 false 1]))) _
abbrev Kr:AK:=pk (x:=va.x) _
abbrev Ks:AK:=pk (x:=va.y.y) _
theorem Kt:gr Tryz.prog 139 258000 8 va [.cell 2 false 1,.cell 3 false 1,.cell 4 false 1,.cell 5 false 1]:=⟨_,Tryz.func139,by kernel_rfl⟩
theorem Kv {h a0 Post} (hI:kL Tryz.prog 167 4) (hp:qz Tryz.prog [Kr] Ks 167 7 [(.t 2),(.t 3),(.t 4),(.t 5)] 258000 1 [.cell 2 false 1,.cell 3 false 1,.cell 4 false 1,.cell 5 false 1] [(0,a0)] h Post):Eng.Spec Tryz.prog 139 h [a0] Post:=xS Kt rfl (aaE rfl) (aaE rfl) hI [(0,a0)] ⟨rfl,trivial⟩ hp
abbrev mY:AK:=pk (x:=Kc.code Tryz.prog Tryz.f107 259 [] (Kc.dD [2000003,2000004] (Kc.lr 0 [.cell 6 false 1,.cell 7 false 1]))) _
abbrev JG:AK:=pk (x:=mY.x) _
abbrev JH:AK:=pk (x:=mY.y.x) _
abbrev JI:AK:=pk (x:=mY.y.y.y.y) _
abbrev JJ:AK:=pk (x:=mY.y.y.y.y.y.y.x.x.x.y.x.y.y.y) _
abbrev JK:AK:=pk (x:=mY.y.y.x.x) _
theorem JL:gr Tryz.prog 107 259000 38 mY [.cell 6 false 1,.cell 7 false 1]:=⟨_,Tryz.func107,by kernel_rfl⟩
theorem JN {h a0 a1 a2 Post} (hI:kL Tryz.prog 140 2) (hp:qz Tryz.prog [JG,JH,(.block 0 JK)] JI 140 37 [(.t 6),(.t 7)] 259000 3 [.cell 6 false 1,.cell 7 false 1] [(0,a0),(1,a1),(2,a2)] h Post):Eng.Spec Tryz.prog 107 h [a0,a1,a2] Post:=xS JL rfl (aaE rfl) (aaE rfl) hI [(0,a0),(1,a1),(2,a2)] ⟨rfl,rfl,rfl,trivial⟩ hp
abbrev Su:AK:=pk (x:=Kc.code Tryz.prog Tryz.f15 264 [] (Kc.lr 0 [.tmp 6,.tmp 7])) _
abbrev Sw:AK:=pk (x:=Su.y.y.y) _
abbrev Sy:=Kf.s3 264 Tryz.func15
abbrev xq:AK:=pk (x:=Kc.code Tryz.prog Tryz.f28 273 [273133,273157] (Kc.lr 0 [.tmp 2,.tmp 3,.tmp 4])) _
abbrev T7:AK:=pk (x:=xq.y.y.y.y.y.y.y.y.y.y.y.y.x.y.x.x.y.x.x.y.y) _
abbrev T8:AK:=pk (x:=xq.y.y.y.y.y.y.y.y.y.y.y.y.x.y.x.x.y.x.x.y.y.y.y) _
abbrev T9:AK:=pk (x:=xq.y.y.y.y.y.y.y.y.y.y.y.y.x.y.x.x.y.x.x.y.y.y.y.y.y) _
abbrev Ub:=Kf.s1 273 Tryz.func28 [273133,273157]
abbrev Ud:=Kf.s1 274 Tryz.func12
end Go.Proofs.YtkdjbebgdoohjaaGreatDoor.Cod
