/- The proof, part 19 of 32. -/
import Derived.Test.YtlkmppkcbhodaaaGreatDoorLooseReadsQ
import Derived.Test.YtlkmppkcbhodaaaGreatDoorLooseReadsR
set_option linter.all false
namespace Go.Proofs.YtlkmppkcbhodaaaGreatDoor.Ls
open Eng Go.RowKit
set_option maxRecDepth 10000
def nK (r:Nat):Bool:=decide (r<32)||decide (126<r)
theorem GF (w:World):PredAt Tryz.prog 59 #[] encR nK w:=fun W r _=>by
 unfold FnGives nK
 by_cases h1:r<32<;>by_cases h2:126<r
 all_goals
  have z1:(r:Int)<32↔r<32:=by omega
  have z2:(126:Int)<(r:Int)↔126<r:=by omega
  go_enter Tryz.func59,Tryz.ntmps59
  go_wp2
  all_goals first | (exfalso;omega) | (go_ret;exact⟨by simp[h1,h2],0,rfl⟩)
def uO (s:Bs):Bool:=decide (0≤Lib.idxFunc nK true ⟨s.toArray⟩)
abbrev Hh:Value:=.func (.func 59) #[] #[]
theorem Hd (s:Bs):aM Tryz.prog 58 [.str s,.lit Hh] (.bool (uO s)):=
 AX rfl rfl (fun w=>Tryz.strings_ContainsFunc 59 #[] (enters_of Tryz.func59 (by kernel_rfl) rfl) nK ⟨s.toArray⟩ w (GF w))
def pn (p:Bs):Bool:=decide (p=[]∨p=[46]∨p=[46,46])
def gb (s:Bs):Bool:=decide (s.length≤200)&&(splitB 47 s).all (fun p=>!pn p)&&!uO s
theorem rP {α:Type} {p:α→Bool} {l:List α} {x:α} (h:x∈l) (hp:p x=false):l.all p=false:=by
 rw[Bool.eq_false_iff]
 intro h'
 rw[List.all_eq_true.1 h' x h]at hp;cases hp
set_option maxHeartbeats 1000000 in
theorem GQ (s:Bs) (hs:s.length≤9223372036854775807):aM Tryz.prog 32 [.str s] (.bool (gb s)):=by
 refine Cod.GR (fun E R hN hrd hR=>?_)
 by_cases hl:s.length≤200
 rotate_left
 ·have hi:(200:Int)<(s.length:Int):=by omega
  refine au hi ?_
  exact hR.wk (h':=[]) (r':=.bool false) (ar':=[.undef]) rfl (.le vV) ⟨rfl,by simp[gb,hl]⟩
 have hi:¬(200:Int)<(s.length:Int):=by omega
 refine au hi ?_
 refine aqK hN hrd Sv.aqJ (by decide) (s:=s) vV hs [(0,.str s),(2,.ab 202002 0)] (fun _:Unit=>[(202002,.var [.bool false])]) (fun k _=>((splitB 47 s).take k).all (fun p=>!pn p)=true) () (.le vV) (by simp) rfl rfl ?_ ?_
 ·rintro E2 k _ R2 hN2 hinv hk hn hr hx
  have hwm:=gV [] hk
  have htk:=dp [] (splitB 47 s) hk
  obtain⟨w,hw⟩:∃w,w=(splitB 47 s).getD k []:=⟨_,rfl⟩
  rw[←hw]at hwm htk
  rw[←hw]
  have bad:∀st',Wk st' ⟨ghost [(0,.str s),(2,.ab 202002 0)],[(202002,.var [.bool false])]⟩→pn w=true→R2.ap .ret st':=by
   intro st' hwk hno
   refine hr st' _ hwk ?_
   refine wW ?_
   exact hR.wk (h':=[]) (r':=.bool false) (ar':=[.undef]) rfl (.le vV) ⟨rfl,by rw[gb,rP hwm (by rw[hno];rfl)];simp⟩
  by_cases h1:w=[]
  ·subst h1
   refine wW ?_
   refine gG ?_
   exact bad _ (.le vV) rfl
  ·by_cases h2:w=[46]
   ·subst h2
    refine wW ?_
    refine gG ?_
    exact bad _ (.le vV) rfl
   ·by_cases h3:w=[46,46]
    ·subst h3
     refine wW ?_
     refine gG ?_
     exact bad _ (.le vV) rfl
    ·have hp:pn w=false:=decide_eq_false (by simp[h1,h2,h3])
     refine cN h1 h2 h3 ?_
     refine fK h1 h2 h3 ?_
     exact hn () _ (by rw[htk,List.all_append,hinv];simp[hp]) (.le vV)
 ·rintro _ hall
  rw[List.take_of_length_le (Nat.le_refl _)]at hall
  refine wW ?_
  refine aA (Hd s) rfl rfl ?_
  refine wW ?_
  exact hR.wk (h':=[]) (r':=.bool (gb s)) (ar':=[.undef]) rfl (.le (by unfold gb;rw[hall,decide_eq_true hl];exact vV)) ⟨rfl,rfl⟩
end Go.Proofs.YtlkmppkcbhodaaaGreatDoor.Ls
