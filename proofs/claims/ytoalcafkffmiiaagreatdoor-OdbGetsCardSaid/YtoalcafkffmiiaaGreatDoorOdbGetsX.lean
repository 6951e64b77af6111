/- The proof, part 24 of 43. -/
import Derived.Test.YtoalcafkffmiiaaGreatDoorOdbGetsS
import Derived.Test.YtoalcafkffmiiaaGreatDoorOdbGetsW
set_option linter.all false
namespace Go.Proofs.YtoalcafkffmiiaaGreatDoor.Ls
open Eng Go.RowKit
set_option maxRecDepth 10000
def sA (r:Nat):Bool:=decide (r<32)||decide (126<r)
theorem KP (w:World):PredAt Tryz.prog 69 #[] encR sA w:=λW r _=>by
 unfold FnGives sA;by_cases h1:r<32<;>by_cases h2:126<r
 all_goals
  have z1:(r:Int)<32↔r<32:=acN;have z2:(126:Int)<(r:Int)↔126<r:=acN
  go_enter Tryz.func69,Tryz.ntmps69
  go_wp2
  all_goals first | (exfalso;omega) | (go_ret;exact⟨by simp[h1,h2],0,rfl⟩)
def Bm (s:Bs):Bool:=decide (0<=Lib.idxFunc sA true ⟨s.toArray⟩)
abbrev Lh:Value:=.func (.func 69) #[] #[]
theorem K6 (s:Bs):ao Tryz.prog 68 [.str s,.lit Lh] (.bool (Bm s)):=
 y8 rfl rfl (λw=>Tryz.strings_ContainsFunc 69 #[] (enters_of Tryz.func69 (by kernel_rfl) rfl) sA ⟨s.toArray⟩ w (KP w))
def uk (p:Bs):Bool:=decide (p=[]\/p=[46]\/p=[46,46])
def js (s:Bs):Bool:=decide (s.length<=200)&&(splitB 47 s).all (λp=>!uk p)&&!Bm s
theorem xW {α:Type} {p:α->Bool} {l:List α} {x:α} (h:x∈l) (hp:p x=false):l.all p=false:=by
 rw[Bool.eq_false_iff];intro h';rw[acZ.1 h' x h]at hp;cases hp
set_option maxHeartbeats 1000000 in
theorem KR (s:Bs) (hs:s.length<=9223372036854775807):ao Tryz.prog 27 [.str s] (.bool (js s)):=by
 refine Cod.KT (λE R hN hrd hR=>?_);by_cases hl:s.length<=200;rotate_left
 ·have hi:(200:Int)<(s.length:Int):=acN;refine ab hi ?_;exact hR.wk (h':=[]) (r':=.bool false) (ar':=[.undef]) rfl (.le vV) ⟨rfl,by simp[js,hl]⟩
 have hi:¬(200:Int)<(s.length:Int):=acN;refine ab hi ?_;refine aad hN hrd Sv.aac (by decide) (s:=s) vV hs [(0,.str s),(2,.aa 202002 0)] (λ_:Unit=>[(202002,.var [.bool false])]) (λk _=>((splitB 47 s).take k).all (λp=>!uk p)=true) () (.le vV) (by simp) rfl rfl ?_ ?_
 ·rintro E2 k _ R2 hN2 hinv hk hn hr hx;have hwm:=dT [] hk;have htk:=dj [] (splitB 47 s) hk;obtain⟨w,hw⟩:∃w,w=(splitB 47 s).getD k []:=⟨_,rfl⟩;rw[<-hw]at hwm htk;rw[<-hw]
  have bad:∀st',Wk st' ⟨ghost [(0,.str s),(2,.aa 202002 0)],[(202002,.var [.bool false])]⟩->uk w=true->R2.ap .ret st':=by
   intro st' hwk hno;refine hr st' _ hwk ?_;refine wW ?_;exact hR.wk (h':=[]) (r':=.bool false) (ar':=[.undef]) rfl (.le vV) ⟨rfl,by rw[js,xW hwm (by rw[hno];rfl)];simp⟩
  by_cases h1:w=[]
  ·subst h1;refine wW ?_;refine gG ?_;exact bad _ (.le vV) rfl
  ·by_cases h2:w=[46]
   ·subst h2;refine wW ?_;refine gG ?_;exact bad _ (.le vV) rfl
   ·by_cases h3:w=[46,46]
    ·subst h3;refine wW ?_;refine gG ?_;exact bad _ (.le vV) rfl
    ·have hp:uk w=false:=decide_eq_false (by simp[h1,h2,h3]);refine bp h1 h2 h3 ?_;refine gy h1 h2 h3 ?_;exact hn () _ (by rw[htk,adU,hinv];simp[hp]) (.le vV)
 ·rintro _ hall;rw[acP (acT _)]at hall;refine wW ?_;refine ah (K6 s) rfl rfl ?_;refine wW ?_;exact hR.wk (h':=[]) (r':=.bool (js s)) (ar':=[.undef]) rfl (.le (by unfold js;rw[hall,decide_eq_true hl];exact vV)) ⟨rfl,rfl⟩
end Go.Proofs.YtoalcafkffmiiaaGreatDoor.Ls
