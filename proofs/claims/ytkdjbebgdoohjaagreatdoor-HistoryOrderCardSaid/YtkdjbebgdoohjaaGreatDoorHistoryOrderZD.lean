/- The proof, part 30 of 50. -/
import Derived.Test.YtkdjbebgdoohjaaGreatDoorHistoryOrderJ
import Derived.Test.YtkdjbebgdoohjaaGreatDoorProg
import Derived.KernelRfl
import Derived.Tactics
set_option linter.all false
namespace Go.Proofs.YtkdjbebgdoohjaaGreatDoor.Cm
open Eng
set_option maxRecDepth 100000
def jt:Value:=.iface 184 (.agg #[])
theorem MC (ad:Addr) (w:World):CallsDIn Fence.wide 0 Tryz.prog 67 #[.pointer (some ad)] .returning w λe u' w'=>(∃v,e=.returned v)/\u'=.returning/\w'=w:=by
 refine callsDIn_of_wpSIn Tryz.func67 rfl trivial λc₀ cs hu=>?_;apply wpSIn_seq;apply wpSIn_region;simp[wpOpsSIn,go_sem,recoverD,hu,Tryz.ntmps67,Exit.thenS];refine wpSIn_of_wpIn rfl ?_;refine wpIn_block ?_;refine wpIn_seq ?_;refine wpIn_region ?_;simp[wpOpsIn,Oper.wpIn,Oper.uponIn,Oper.semAt_none,go_sem,Region.wanted,Exit.then]
 refine wpIn_cond_true (by simp[Act.eval,Array.replicate]) ?_;refine wpIn_region ?_;simp[wpOpsIn,Oper.wpIn,Oper.uponIn,Oper.semAt_none,go_sem,Region.wanted,Exit.inBlock,bodyPostS,results,Tryz.results67];exact hu.symm▸rfl
theorem ME (ad:Addr) (w:World) (hst:∀w1,aA w w1->∃w2,(Instr.storeAt 32 (.pointer (some ad)) (.int .i64 3)).run Tryz.prog w1=.ok () w2) :
    CallsDIn Fence.wide 0 Tryz.prog 67 #[.pointer (some ad)] (.panicking (bp jt)) w λe u' w'=>
     (∃v,e=.returned v)/\u'=.panicking [{v:=jt,recovered:=true}]/\∃w1,aA w w1/\(Instr.storeAt 32 (.pointer (some ad)) (.int .i64 3)).run Tryz.prog w1=.ok () w':=by
 refine callsDIn_of_wpSIn Tryz.func67 rfl trivial λc₀ cs hu=>?_;apply wpSIn_seq;apply wpSIn_region;simp[wpOpsSIn,go_sem,recoverD,hu,bp,jt,Tryz.ntmps67,Exit.thenS];refine wpSIn_of_wpIn rfl ?_;refine wpIn_block ?_;refine wpIn_seq ?_;refine wpIn_region ?_;simp[wpOpsIn,Oper.wpIn,Oper.uponIn,Oper.semAt_none,go_sem,Region.wanted,Exit.then]
 refine wpIn_cond_false (by simp[Act.eval,Array.replicate]) ?_;refine wpIn_seq ?_;refine wpIn_region ?_;simp[wpOpsIn,Oper.wpIn,Oper.uponIn,Oper.semAt_none,go_sem,Region.wanted,Exit.then]
 refine wpIn_cond_true (by simp[Act.eval,Array.replicate]) ?_;refine wpIn_seq ?_;refine wpIn_region ?_;simp[wpOpsIn,Oper.wpIn,Oper.uponIn,Oper.semAt_none,go_sem,Region.wanted,Exit.then]
 obtain⟨w2,h2⟩:=hst _ (aA.alloc w (Obj.cells #[] 184));have hs:aA w (w.alloc (Obj.cells #[] 184)):=aA.alloc w _;generalize w.alloc (Obj.cells #[] 184)=w1 at *
 simp[go_sem]at h2
 cases hc:w1.cell? ad with
 | some val=>
  rw[hc]at h2;by_cases hf:w1.frozen? ad=true
  ·simp[hf]at h2
  ·simp only[hf,if_false,ZZ]at h2;refine wpIn_region ?_;simp[wpOpsIn,Oper.wpIn,Oper.uponIn,Oper.semAt_none,go_sem,Region.wanted,Exit.inBlock,bodyPostS,results,Tryz.results67,hc,hf]
   exact⟨w1,hs,by simp[hc,hf]⟩
 | none=>
  rw[hc]at h2
  cases hfs:World.farStore Tryz.prog w1 ad (Value.int IntKind.i64 3) (Mode.plain==Mode.atomic)with
  | ok q=>
   refine wpIn_region ?_;simp[wpOpsIn,Oper.wpIn,Oper.uponIn,Oper.semAt_none,go_sem,Region.wanted,Exit.inBlock,bodyPostS,results,Tryz.results67,hc,hfs]
   exact⟨w1,hs,by simp[hc,hfs]⟩
  | error e=>simp[hfs]at h2
theorem MD:oc Tryz.prog 67 jt 32 (.int .i64 3):=⟨MC,ME⟩
theorem vm:bL Tryz.prog 32=some 1:=by kernel_rfl
end Go.Proofs.YtkdjbebgdoohjaaGreatDoor.Cm
