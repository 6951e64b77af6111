/- The proof, part 16 of 50. -/
import Derived.Test.YtkdjbebgdoohjaaGreatDoorHistoryOrderK
import Derived.Test.YtkdjbebgdoohjaaGreatDoorProg
set_option linter.all false
namespace Go.Proofs.YtkdjbebgdoohjaaGreatDoor.Cod
open Eng Eng.Kz
set_option maxRecDepth 100000
abbrev Si:=Kf.s1 1 Tryz.func160
abbrev IX:=Kf.s1 2 Tryz.func162
abbrev Sz:=Kf.s1 3 Tryz.func163
abbrev Pn:=Kf.s1 4 Tryz.func161
abbrev KV:=Kf.s1 5 Tryz.func133
abbrev J6:=Kf.s1 6 Tryz.func132
abbrev Ss:=Kf.s1 7 Tryz.func101
abbrev VK:=Kf.s2 30 Tryz.func96
abbrev Qm:=Kf.s2 31 Tryz.func127
open Eng Eng.Kz
set_option maxRecDepth 100000
abbrev I7:=Kf.s1 200 Tryz.func20
abbrev H8:=Kf.s3 201 Tryz.func51
abbrev I1:=Kf.r1 202 Tryz.func23
abbrev Wu:=Kf.s1 203 Tryz.func11
abbrev Yh:=Kf.s2 204 Tryz.func24
abbrev Wv:=Kf.s2 205 Tryz.func33
abbrev Yj:=Kf.s1 206 Tryz.func59
abbrev Ya:=Kf.s1 207 Tryz.func90
abbrev Wf:=Kf.s1 208 Tryz.func32
abbrev QL:=Kf.s1 209 Tryz.func99
abbrev QP:=Kf.s1 210 Tryz.func100
abbrev QN:=Kf.s2 211 Tryz.func64
abbrev QH:=Kf.s2 214 Tryz.func84
abbrev Wa:=Kf.s2 215 Tryz.func52
abbrev Lf:=Kf.s2 216 Tryz.func18
abbrev Lh:=Kf.s2 223 Tryz.func19
abbrev Ie:=Kf.s2 224 Tryz.func22
abbrev Uh:=Kf.s2 225 Tryz.func53
abbrev Ui:=Kf.s2 226 Tryz.func27
abbrev Um:=Kf.s2 227 Tryz.func25
abbrev Ul:=Kf.s2 228 Tryz.func54
abbrev Uo:=Kf.s1 230 Tryz.func26
abbrev Uf:=Kf.s1 235 Tryz.func55
end Go.Proofs.YtkdjbebgdoohjaaGreatDoor.Cod
