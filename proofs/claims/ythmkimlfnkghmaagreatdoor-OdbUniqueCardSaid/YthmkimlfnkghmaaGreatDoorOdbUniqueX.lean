/- The proof, part 24 of 32. -/
import Derived.Test.YthmkimlfnkghmaaGreatDoorOdbUniqueR
import Derived.Test.YthmkimlfnkghmaaGreatDoorOdbUniqueW
set_option linter.all false
namespace Go.Proofs.YthmkimlfnkghmaaGreatDoor.Ls
open Eng Go.RowKit
set_option maxRecDepth 10000
def ctl (r:Nat):Bool:=decide (r<32)||decide (126<r)
theorem clean1_pred (w:World):PredAt Tryz.prog 37 #[] encR ctl w:=fun W r _=>by
 unfold FnGives ctl
 by_cases h1:r<32<;>by_cases h2:126<r
 all_goals
  have z1:(r:Int)<32↔r<32:=by omega
  have z2:(126:Int)<(r:Int)↔126<r:=by omega
  go_enter Tryz.func37,Tryz.ntmps37
  go_wp2
  all_goals first | (exfalso;omega) | (go_ret;exact⟨by simp[h1,h2],0,rfl⟩)
def ctlP (s:Bs):Bool:=decide (0≤Lib.idxFunc ctl true ⟨s.toArray⟩)
abbrev ctlV:Value:=.func (.func 37) #[] #[]
theorem contains_ok (s:Bs):SpecR Tryz.prog 36 [.str s,.lit ctlV] (.bool (ctlP s)):=
 spec_below rfl rfl (fun w=>Tryz.strings_ContainsFunc 37 #[] (enters_of Tryz.func37 (by kernel_rfl) rfl) ctl ⟨s.toArray⟩ w (clean1_pred w))
def partB (p:Bs):Bool:=decide (p=[]∨p=[46]∨p=[46,46])
def cleanP (s:Bs):Bool:=decide (s.length≤200)&&(splitB 47 s).all (fun p=>!partB p)&&!ctlP s
theorem not_all {α:Type} {p:α→Bool} {l:List α} {x:α} (h:x∈l) (hp:p x=false):l.all p=false:=by
 rw[Bool.eq_false_iff]
 intro h'
 rw[List.all_eq_true.1 h' x h]at hp;cases hp
set_option maxHeartbeats 1000000 in
theorem clean_ok (s:Bs) (hs:s.length≤9223372036854775807):SpecR Tryz.prog 13 [.str s] (.bool (cleanP s)):=by
 refine Cod.clean_spec (fun E R hN hrd hR=>?_)
 by_cases hl:s.length≤200
 rotate_left
 ·have hi:(200:Int)<(s.length:Int):=by omega
  simp(disch:=omega)only[go_sem,simprocAttr,hi]
  exact hR.wk (h':=[]) (r':=.bool false) (ar':=[.undef]) rfl (.le (by simp(disch:=omega)only[go_sem,simprocAttr])) ⟨rfl,by simp[cleanP,hl]⟩
 have hi:¬(200:Int)<(s.length:Int):=by omega
 simp(disch:=omega)only[go_sem,simprocAttr,hi]
 refine splitW_of hN hrd Sv.splitSeq_ok (by decide) (s:=s) (by simp(disch:=omega)only[go_sem,simprocAttr]) hs [(0,.str s),(2,.vptr 202002 0)] (fun _:Unit=>[(202002,.var [.bool false])]) (fun k _=>((splitB 47 s).take k).all (fun p=>!partB p)=true) () (.le (by simp(disch:=omega)only[go_sem,simprocAttr])) (by simp) rfl rfl ?_ ?_
 ·rintro E2 k _ R2 hN2 hinv hk hn hr hx
  have hwm:=getD_mem [] hk
  have htk:=take_snoc [] (splitB 47 s) hk
  obtain⟨w,hw⟩:∃w,w=(splitB 47 s).getD k []:=⟨_,rfl⟩
  rw[←hw]at hwm htk
  rw[←hw]
  have bad:∀st',Wk st' ⟨ghost [(0,.str s),(2,.vptr 202002 0)],[(202002,.var [.bool false])]⟩→partB w=true→R2.ap .ret st':=by
   intro st' hwk hno
   refine hr st' _ hwk ?_
   simp(disch:=omega)only[go_sem,simprocAttr]
   exact hR.wk (h':=[]) (r':=.bool false) (ar':=[.undef]) rfl (.le (by simp(disch:=omega)only[go_sem,simprocAttr])) ⟨rfl,by rw[cleanP,not_all hwm (by rw[hno];rfl)];simp⟩
  by_cases h1:w=[]
  ·subst h1
   simp(disch:=omega)only[go_sem,simprocAttr]
   (repeat(first | refine gskip_of ?_ | refine gcskip_of ?_ | refine gopen_of ?_)<;>simp(disch:=omega)only[go_sem,simprocAttr])
   exact bad _ (.le (by simp(disch:=omega)only[go_sem,simprocAttr])) rfl
  ·by_cases h2:w=[46]
   ·subst h2
    simp(disch:=omega)only[go_sem,simprocAttr]
    (repeat(first | refine gskip_of ?_ | refine gcskip_of ?_ | refine gopen_of ?_)<;>simp(disch:=omega)only[go_sem,simprocAttr])
    exact bad _ (.le (by simp(disch:=omega)only[go_sem,simprocAttr])) rfl
   ·by_cases h3:w=[46,46]
    ·subst h3
     simp(disch:=omega)only[go_sem,simprocAttr]
     (repeat(first | refine gskip_of ?_ | refine gcskip_of ?_ | refine gopen_of ?_)<;>simp(disch:=omega)only[go_sem,simprocAttr])
     exact bad _ (.le (by simp(disch:=omega)only[go_sem,simprocAttr])) rfl
    ·have hp:partB w=false:=decide_eq_false (by simp[h1,h2,h3])
     simp(disch:=omega)only[go_sem,simprocAttr,h1,h2,h3]
     (repeat(first | refine gskip_of ?_ | refine gcskip_of ?_ | refine gopen_of ?_)<;>simp(disch:=omega)only[go_sem,simprocAttr,h1,h2,h3])
     exact hn () _ (by rw[htk,List.all_append,hinv];simp[hp]) (.le (by simp(disch:=omega)only[go_sem,simprocAttr]))
 ·rintro _ hall
  rw[List.take_of_length_le (Nat.le_refl _)]at hall
  simp(disch:=omega)only[go_sem,simprocAttr]
  refine call_ro (contains_ok s) rfl rfl ?_
  simp(disch:=omega)only[go_sem,simprocAttr]
  exact hR.wk (h':=[]) (r':=.bool (cleanP s)) (ar':=[.undef]) rfl (.le (by unfold cleanP;rw[hall,decide_eq_true hl];simp(disch:=omega)only[go_sem,simprocAttr])) ⟨rfl,rfl⟩
end Go.Proofs.YthmkimlfnkghmaaGreatDoor.Ls
