/- The proof, part 25 of 50. -/
import Derived.Test.YtkdjbebgdoohjaaGreatDoorHistoryOrderW
import Derived.Test.YtkdjbebgdoohjaaGreatDoorHistoryOrderX
set_option linter.all false
namespace Go.Proofs.YtkdjbebgdoohjaaGreatDoor.Ls
open Eng Go.RowKit
set_option maxRecDepth 10000
def q7 (r:Nat):Bool:=decide (r<32)||decide (126<r)
theorem IZ (w:World):PredAt Tryz.prog 50 #[] encR q7 w:=λW r _=>by
 unfold FnGives q7;by_cases h1:r<32<;>by_cases h2:126<r
 all_goals
  have z1:(r:Int)<32↔r<32:=ZG;have z2:(126:Int)<(r:Int)↔126<r:=ZG
  go_enter Tryz.func50,Tryz.ntmps50
  go_wp2
  all_goals first | (exfalso;omega) | (go_ret;exact⟨by simp[h1,h2],0,rfl⟩)
def zO (s:Bs):Bool:=decide (0<=Lib.idxFunc q7 true ⟨s.toArray⟩)
abbrev Jv:Value:=.func (.func 50) #[] #[]
theorem Jg (s:Bs):aw Tryz.prog 49 [.str s,.lit Jv] (.bool (zO s)):=
 Ed rfl rfl (λw=>Tryz.strings_ContainsFunc 50 #[] (enters_of Tryz.func50 (by kernel_rfl) rfl) q7 ⟨s.toArray⟩ w (IZ w))
def sM (p:Bs):Bool:=decide (p=[]\/p=[46]\/p=[46,46])
def gQ (s:Bs):Bool:=decide (s.length<=200)&&(splitB 47 s).all (λp=>!sM p)&&!zO s
theorem wO {α:Type} {p:α->Bool} {l:List α} {x:α} (h:x∈l) (hp:p x=false):l.all p=false:=by
 rw[Bool.eq_false_iff];intro h';rw[ZR.1 h' x h]at hp;cases hp
set_option maxHeartbeats 1000000 in
theorem I0 (s:Bs) (hs:s.length<=9223372036854775807):aw Tryz.prog 23 [.str s] (.bool (gQ s)):=by
 refine Cod.I1 (λE R hN hrd hR=>?_);by_cases hl:s.length<=200;rotate_left
 ·have hi:(200:Int)<(s.length:Int):=ZG;refine ah hi ?_;exact hR.wk (h':=[]) (r':=.bool false) (ar':=[.undef]) rfl (.le vV) ⟨rfl,by simp[gQ,hl]⟩
 have hi:¬(200:Int)<(s.length:Int):=ZG;refine ah hi ?_;refine WR hN hrd Sv.WQ (by decide) (s:=s) vV hs [(0,.str s),(2,.aa 202002 0)] (λ_:Unit=>[(202002,.var [.bool false])]) (λk _=>((splitB 47 s).take k).all (λp=>!sM p)=true) () (.le vV) (by simp) rfl rfl ?_ ?_
 ·rintro E2 k _ R2 hN2 hinv hk hn hr hx;have hwm:=eK [] hk;have htk:=fb [] (splitB 47 s) hk;obtain⟨w,hw⟩:∃w,w=(splitB 47 s).getD k []:=⟨_,rfl⟩;rw[<-hw]at hwm htk;rw[<-hw]
  have bad:∀st',Wk st' ⟨ghost [(0,.str s),(2,.aa 202002 0)],[(202002,.var [.bool false])]⟩->sM w=true->R2.ap .ret st':=by
   intro st' hwk hno;refine hr st' _ hwk ?_;refine wW ?_;exact hR.wk (h':=[]) (r':=.bool false) (ar':=[.undef]) rfl (.le vV) ⟨rfl,by rw[gQ,wO hwm (by rw[hno];rfl)];simp⟩
  by_cases h1:w=[]
  ·subst h1;refine wW ?_;refine gG ?_;exact bad _ (.le vV) rfl
  ·by_cases h2:w=[46]
   ·subst h2;refine wW ?_;refine gG ?_;exact bad _ (.le vV) rfl
   ·by_cases h3:w=[46,46]
    ·subst h3;refine wW ?_;refine gG ?_;exact bad _ (.le vV) rfl
    ·have hp:sM w=false:=decide_eq_false (by simp[h1,h2,h3]);refine bU h1 h2 h3 ?_;refine iY h1 h2 h3 ?_;exact hn () _ (by rw[htk,aa8,hinv];simp[hp]) (.le vV)
 ·rintro _ hall;rw[ZK (ZM _)]at hall;refine wW ?_;refine an (Jg s) rfl rfl ?_;refine wW ?_;exact hR.wk (h':=[]) (r':=.bool (gQ s)) (ar':=[.undef]) rfl (.le (by unfold gQ;rw[hall,decide_eq_true hl];exact vV)) ⟨rfl,rfl⟩
end Go.Proofs.YtkdjbebgdoohjaaGreatDoor.Ls
