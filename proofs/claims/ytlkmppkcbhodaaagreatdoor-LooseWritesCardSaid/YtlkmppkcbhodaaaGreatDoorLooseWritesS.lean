/- The proof, part 19 of 34. -/
import Derived.Test.YtlkmppkcbhodaaaGreatDoorLooseWritesQ
import Derived.Test.YtlkmppkcbhodaaaGreatDoorLooseWritesR
set_option linter.all false
namespace Go.Proofs.YtlkmppkcbhodaaaGreatDoor.Ls
open Eng Go.RowKit
set_option maxRecDepth 10000
def oo (r:Nat):Bool:=decide (r<32)||decide (126<r)
theorem HL (w:World):PredAt Tryz.prog 59 #[] encR oo w:=fun W r _=>by
 unfold FnGives oo
 by_cases h1:r<32<;>by_cases h2:126<r
 all_goals
  have z1:(r:Int)<32↔r<32:=by omega
  have z2:(126:Int)<(r:Int)↔126<r:=by omega
  go_enter Tryz.func59,Tryz.ntmps59
  go_wp2
  all_goals first | (exfalso;omega) | (go_ret;exact⟨by simp[h1,h2],0,rfl⟩)
def vB (s:Bs):Bool:=decide (0≤Lib.idxFunc oo true ⟨s.toArray⟩)
abbrev Ip:Value:=.func (.func 59) #[] #[]
theorem Ik (s:Bs):aP Tryz.prog 58 [.str s,.lit Ip] (.bool (vB s)):=
 BD rfl rfl (fun w=>Tryz.strings_ContainsFunc 59 #[] (enters_of Tryz.func59 (by kernel_rfl) rfl) oo ⟨s.toArray⟩ w (HL w))
def pT (p:Bs):Bool:=decide (p=[]∨p=[46]∨p=[46,46])
def gy (s:Bs):Bool:=decide (s.length≤200)&&(splitB 47 s).all (fun p=>!pT p)&&!vB s
theorem sF {α:Type} {p:α→Bool} {l:List α} {x:α} (h:x∈l) (hp:p x=false):l.all p=false:=by
 rw[Bool.eq_false_iff]
 intro h'
 rw[List.all_eq_true.1 h' x h]at hp;cases hp
set_option maxHeartbeats 1000000 in
theorem HX (s:Bs) (hs:s.length≤9223372036854775807):aP Tryz.prog 32 [.str s] (.bool (gy s)):=by
 refine Cod.HY (fun E R hN hrd hR=>?_)
 by_cases hl:s.length≤200
 rotate_left
 ·have hi:(200:Int)<(s.length:Int):=by omega
  refine aw hi ?_
  exact hR.wk (h':=[]) (r':=.bool false) (ar':=[.undef]) rfl (.le vV) ⟨rfl,by simp[gy,hl]⟩
 have hi:¬(200:Int)<(s.length:Int):=by omega
 refine aw hi ?_
 refine aqL hN hrd Sv.aqK (by decide) (s:=s) vV hs [(0,.str s),(2,.ab 202002 0)] (fun _:Unit=>[(202002,.var [.bool false])]) (fun k _=>((splitB 47 s).take k).all (fun p=>!pT p)=true) () (.le vV) (by simp) rfl rfl ?_ ?_
 ·rintro E2 k _ R2 hN2 hinv hk hn hr hx
  have hwm:=iY [] hk
  have htk:=dU [] (splitB 47 s) hk
  obtain⟨w,hw⟩:∃w,w=(splitB 47 s).getD k []:=⟨_,rfl⟩
  rw[←hw]at hwm htk
  rw[←hw]
  have bad:∀st',Wk st' ⟨ghost [(0,.str s),(2,.ab 202002 0)],[(202002,.var [.bool false])]⟩→pT w=true→R2.ap .ret st':=by
   intro st' hwk hno
   refine hr st' _ hwk ?_
   refine wW ?_
   exact hR.wk (h':=[]) (r':=.bool false) (ar':=[.undef]) rfl (.le vV) ⟨rfl,by rw[gy,sF hwm (by rw[hno];rfl)];simp⟩
  by_cases h1:w=[]
  ·subst h1
   refine wW ?_
   refine gG ?_
   exact bad _ (.le vV) rfl
  ·by_cases h2:w=[46]
   ·subst h2
    refine wW ?_
    refine gG ?_
    exact bad _ (.le vV) rfl
   ·by_cases h3:w=[46,46]
    ·subst h3
     refine wW ?_
     refine gG ?_
     exact bad _ (.le vV) rfl
    ·have hp:pT w=false:=decide_eq_false (by simp[h1,h2,h3])
     refine cL h1 h2 h3 ?_
     refine fM h1 h2 h3 ?_
     exact hn () _ (by rw[htk,List.all_append,hinv];simp[hp]) (.le vV)
 ·rintro _ hall
  rw[List.take_of_length_le (Nat.le_refl _)]at hall
  refine wW ?_
  refine aE (Ik s) rfl rfl ?_
  refine wW ?_
  exact hR.wk (h':=[]) (r':=.bool (gy s)) (ar':=[.undef]) rfl (.le (by unfold gy;rw[hall,decide_eq_true hl];exact vV)) ⟨rfl,rfl⟩
end Go.Proofs.YtlkmppkcbhodaaaGreatDoor.Ls
