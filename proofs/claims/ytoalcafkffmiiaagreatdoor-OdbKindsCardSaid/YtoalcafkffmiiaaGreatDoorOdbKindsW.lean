/- The proof, part 23 of 42. -/
import Derived.Test.YtoalcafkffmiiaaGreatDoorOdbKindsR
import Derived.Test.YtoalcafkffmiiaaGreatDoorOdbKindsV
set_option linter.all false
namespace Go.Proofs.YtoalcafkffmiiaaGreatDoor.Ls
open Eng Go.RowKit
set_option maxRecDepth 10000
def pd (r:Nat):Bool:=decide (r<32)||decide (126<r)
theorem Iy (w:World):PredAt Tryz.prog 69 #[] encR pd w:=fun W r _=>by
 unfold FnGives pd
 by_cases h1:r<32<;>by_cases h2:126<r
 all_goals
  have z1:(r:Int)<32↔r<32:=by omega
  have z2:(126:Int)<(r:Int)↔126<r:=by omega
  go_enter Tryz.func69,Tryz.ntmps69
  go_wp2
  all_goals first | (exfalso;omega) | (go_ret;exact⟨by simp[h1,h2],0,rfl⟩)
def wX (s:Bs):Bool:=decide (0≤Lib.idxFunc pd true ⟨s.toArray⟩)
abbrev JM:Value:=.func (.func 69) #[] #[]
theorem I9 (s:Bs):aO Tryz.prog 68 [.str s,.lit JM] (.bool (wX s)):=
 Cl rfl rfl (fun w=>Tryz.strings_ContainsFunc 69 #[] (enters_of Tryz.func69 (by kernel_rfl) rfl) pd ⟨s.toArray⟩ w (Iy w))
def qz (p:Bs):Bool:=decide (p=[]∨p=[46]∨p=[46,46])
def fN (s:Bs):Bool:=decide (s.length≤200)&&(splitB 47 s).all (fun p=>!qz p)&&!wX s
theorem Au {α:Type} {p:α→Bool} {l:List α} {x:α} (h:x∈l) (hp:p x=false):l.all p=false:=by
 rw[Bool.eq_false_iff]
 intro h'
 rw[List.all_eq_true.1 h' x h]at hp;cases hp
set_option maxHeartbeats 1000000 in
theorem IK (s:Bs) (hs:s.length≤9223372036854775807):aO Tryz.prog 27 [.str s] (.bool (fN s)):=by
 refine Cod.IL (fun E R hN hrd hR=>?_)
 by_cases hl:s.length≤200
 rotate_left
 ·have hi:(200:Int)<(s.length:Int):=by omega
  refine aw hi ?_
  exact hR.wk (h':=[]) (r':=.bool false) (ar':=[.undef]) rfl (.le vV) ⟨rfl,by simp[fN,hl]⟩
 have hi:¬(200:Int)<(s.length:Int):=by omega
 refine aw hi ?_
 refine alY hN hrd Sv.alX (by decide) (s:=s) vV hs [(0,.str s),(2,.ab 202002 0)] (fun _:Unit=>[(202002,.var [.bool false])]) (fun k _=>((splitB 47 s).take k).all (fun p=>!qz p)=true) () (.le vV) (by simp) rfl rfl ?_ ?_
 ·rintro E2 k _ R2 hN2 hinv hk hn hr hx
  have hwm:=eE [] hk
  have htk:=eT [] (splitB 47 s) hk
  obtain⟨w,hw⟩:∃w,w=(splitB 47 s).getD k []:=⟨_,rfl⟩
  rw[←hw]at hwm htk
  rw[←hw]
  have bad:∀st',Wk st' ⟨ghost [(0,.str s),(2,.ab 202002 0)],[(202002,.var [.bool false])]⟩→qz w=true→R2.ap .ret st':=by
   intro st' hwk hno
   refine hr st' _ hwk ?_
   refine wW ?_
   exact hR.wk (h':=[]) (r':=.bool false) (ar':=[.undef]) rfl (.le vV) ⟨rfl,by rw[fN,Au hwm (by rw[hno];rfl)];simp⟩
  by_cases h1:w=[]
  ·subst h1
   refine wW ?_
   refine gG ?_
   exact bad _ (.le vV) rfl
  ·by_cases h2:w=[46]
   ·subst h2
    refine wW ?_
    refine gG ?_
    exact bad _ (.le vV) rfl
   ·by_cases h3:w=[46,46]
    ·subst h3
     refine wW ?_
     refine gG ?_
     exact bad _ (.le vV) rfl
    ·have hp:qz w=false:=decide_eq_false (by simp[h1,h2,h3])
     refine dz h1 h2 h3 ?_
     refine jN h1 h2 h3 ?_
     exact hn () _ (by rw[htk,List.all_append,hinv];simp[hp]) (.le vV)
 ·rintro _ hall
  rw[List.take_of_length_le (Nat.le_refl _)]at hall
  refine wW ?_
  refine aC (I9 s) rfl rfl ?_
  refine wW ?_
  exact hR.wk (h':=[]) (r':=.bool (fN s)) (ar':=[.undef]) rfl (.le (by unfold fN;rw[hall,decide_eq_true hl];exact vV)) ⟨rfl,rfl⟩
end Go.Proofs.YtoalcafkffmiiaaGreatDoor.Ls
