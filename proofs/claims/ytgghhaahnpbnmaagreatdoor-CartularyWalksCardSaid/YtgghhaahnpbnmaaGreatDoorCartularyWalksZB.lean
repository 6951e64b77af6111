/- The proof, part 28 of 51. -/
import Derived.Test.YtgghhaahnpbnmaaGreatDoorCartularyWalksJ
import Derived.Test.YtgghhaahnpbnmaaGreatDoorProg
import Derived.KernelRfl
import Derived.Tactics
set_option linter.all false
namespace Go.Proofs.YtgghhaahnpbnmaaGreatDoor.Cm
open Eng
set_option maxRecDepth 100000
def jM:Value:=.iface 245 (.agg #[])
theorem PC (ad:Addr) (w:World):CallsDIn Fence.wide 0 Tryz.prog 142 #[.pointer (some ad)] .returning w λe u' w'=>(∃v,e=.returned v)/\u'=.returning/\w'=w:=by
 refine callsDIn_of_wpSIn Tryz.func142 rfl trivial λc₀ cs hu=>?_;apply wpSIn_seq;apply wpSIn_region;simp[wpOpsSIn,go_sem,recoverD,hu,Tryz.ntmps142,Exit.thenS];refine wpSIn_of_wpIn rfl ?_;refine wpIn_block ?_;refine wpIn_seq ?_;refine wpIn_region ?_;simp[wpOpsIn,Oper.wpIn,Oper.uponIn,Oper.semAt_none,go_sem,Region.wanted,Exit.then]
 refine wpIn_cond_true (by simp[Act.eval,Array.replicate]) ?_;refine wpIn_region ?_;simp[wpOpsIn,Oper.wpIn,Oper.uponIn,Oper.semAt_none,go_sem,Region.wanted,Exit.inBlock,bodyPostS,results,Tryz.results142];exact hu.symm▸rfl
theorem PE (ad:Addr) (w:World) (hst:∀w1,az w w1->∃w2,(Instr.storeAt 24 (.pointer (some ad)) (.int .i64 3)).run Tryz.prog w1=.ok () w2) :
    CallsDIn Fence.wide 0 Tryz.prog 142 #[.pointer (some ad)] (.panicking (bC jM)) w λe u' w'=>
     (∃v,e=.returned v)/\u'=.panicking [{v:=jM,recovered:=true}]/\∃w1,az w w1/\(Instr.storeAt 24 (.pointer (some ad)) (.int .i64 3)).run Tryz.prog w1=.ok () w':=by
 refine callsDIn_of_wpSIn Tryz.func142 rfl trivial λc₀ cs hu=>?_;apply wpSIn_seq;apply wpSIn_region;simp[wpOpsSIn,go_sem,recoverD,hu,bC,jM,Tryz.ntmps142,Exit.thenS];refine wpSIn_of_wpIn rfl ?_;refine wpIn_block ?_;refine wpIn_seq ?_;refine wpIn_region ?_;simp[wpOpsIn,Oper.wpIn,Oper.uponIn,Oper.semAt_none,go_sem,Region.wanted,Exit.then]
 refine wpIn_cond_false (by simp[Act.eval,Array.replicate]) ?_;refine wpIn_seq ?_;refine wpIn_region ?_;simp[wpOpsIn,Oper.wpIn,Oper.uponIn,Oper.semAt_none,go_sem,Region.wanted,Exit.then]
 refine wpIn_cond_true (by simp[Act.eval,Array.replicate]) ?_;refine wpIn_seq ?_;refine wpIn_region ?_;simp[wpOpsIn,Oper.wpIn,Oper.uponIn,Oper.semAt_none,go_sem,Region.wanted,Exit.then]
 obtain⟨w2,h2⟩:=hst _ (az.alloc w (Obj.cells #[] 245));have hs:az w (w.alloc (Obj.cells #[] 245)):=az.alloc w _;generalize w.alloc (Obj.cells #[] 245)=w1 at *
 simp[go_sem]at h2
 cases hc:w1.cell? ad with
 | some val=>
  rw[hc]at h2;by_cases hf:w1.frozen? ad=true
  ·simp[hf]at h2
  ·simp only[hf,if_false,acT]at h2;refine wpIn_region ?_;simp[wpOpsIn,Oper.wpIn,Oper.uponIn,Oper.semAt_none,go_sem,Region.wanted,Exit.inBlock,bodyPostS,results,Tryz.results142,hc,hf]
   exact⟨w1,hs,by simp[hc,hf]⟩
 | none=>
  rw[hc]at h2
  cases hfs:World.farStore Tryz.prog w1 ad (Value.int IntKind.i64 3) (Mode.plain==Mode.atomic)with
  | ok q=>
   refine wpIn_region ?_;simp[wpOpsIn,Oper.wpIn,Oper.uponIn,Oper.semAt_none,go_sem,Region.wanted,Exit.inBlock,bodyPostS,results,Tryz.results142,hc,hfs]
   exact⟨w1,hs,by simp[hc,hfs]⟩
  | error e=>simp[hfs]at h2
theorem PD:pC Tryz.prog 142 jM 24 (.int .i64 3):=⟨PC,PE⟩
theorem xg:bP Tryz.prog 24=some 1:=by kernel_rfl
end Go.Proofs.YtgghhaahnpbnmaaGreatDoor.Cm
