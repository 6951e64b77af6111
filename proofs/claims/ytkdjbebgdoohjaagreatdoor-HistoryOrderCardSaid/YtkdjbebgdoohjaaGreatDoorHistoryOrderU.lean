/- The proof, part 21 of 50. -/
import Derived.Test.YtkdjbebgdoohjaaGreatDoorHistoryOrderK
import Derived.Test.YtkdjbebgdoohjaaGreatDoorProg
set_option linter.all false
namespace Go.Proofs.YtkdjbebgdoohjaaGreatDoor.Cod
open Eng Eng.Kz
set_option maxRecDepth 100000
abbrev I3:=Kf.s1 1 Tryz.func113
abbrev Jt:=Kf.s1 2 Tryz.func71
abbrev eH:AK:=pk (x:=Kc.code Tryz.prog Tryz.f112 3 [] (Kc.lr 0 [.tmp 2])) _
abbrev Zy:AK:=pk (x:=eH.y.y.y) _
abbrev ZA:=Kf.s1 3 Tryz.func112
abbrev Ip:=Kf.s1 5 Tryz.func44
abbrev UY:=Kf.k2 9 Tryz.func68
abbrev UX:=Kf.x2 9 Tryz.func68
abbrev U2:=Kf.k1 10 Tryz.func70
abbrev UZ:=Kf.x1 10 Tryz.func70
abbrev DE:AK:=pk (x:=Kc.code Tryz.prog Tryz.f69 11 [] (Kc.lr 2 [.cell 4 true 3])) _
abbrev Vh:AK:=pk (x:=DE.y.y.y.y.y.y.y.y.y.y.y.y.y) _
abbrev DF:AK:=pk (x:=DE.y.y.y.y.y.y.y.y.y) _
abbrev Vi:=Kf.k2 11 Tryz.func69
abbrev DG:=Kf.x2 11 Tryz.func69
abbrev parse:AK:=pk (x:=Kc.code Tryz.prog Tryz.f43 12 [] (Kc.dD [2000001] (Kc.lr 0 [.cell 2 true 9,.cell 3 false 1]))) _
abbrev Tc:AK:=pk (x:=parse.x) _
abbrev Td:AK:=pk (x:=parse.y.y) _
theorem Tf:gr Tryz.prog 43 12000 1 parse [.cell 2 true 9,.cell 3 false 1]:=⟨_,Tryz.func43,by kernel_rfl⟩
theorem Tg {h a0 Post} {V:Value} {t:TypeId} {q:IntKind} {z:Int} (hG:oc Tryz.prog 67 V t (.int q z)) (ht:bL Tryz.prog t=some 1) (hp:yt Tryz.prog Tc 3 Td 1 [.cell 2 true 9,.cell 3 false 1] V q z [(0,a0)] h Post):Eng.Spec Tryz.prog 43 h [a0] Post:=WH Tf rfl hG ht [(0,a0)] ⟨rfl,trivial⟩ hp
abbrev Jk:=Kf.s1 13 Tryz.func16
abbrev Jh:=Kf.s2 63 Tryz.func148
abbrev Ol:=Kf.s2 62 Tryz.func191
end Go.Proofs.YtkdjbebgdoohjaaGreatDoor.Cod
