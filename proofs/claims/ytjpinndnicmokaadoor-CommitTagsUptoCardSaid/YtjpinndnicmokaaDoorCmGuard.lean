/- Commit: the deferred function that recovers. -/
import Derived.Test.YtjpinndnicmokaaDoorEngX
import Derived.Test.YtjpinndnicmokaaDoorProg
import Derived.KernelRfl
import Derived.Tactics
set_option linter.all false
namespace Go.Proofs.YtjpinndnicmokaaDoor.Cm
open Eng
set_option maxRecDepth 100000
/-- what the reader panics with -/
def wrongV : Value := .iface 90 (.agg #[])
theorem guard_idle (ad : Addr) (w : World) : CallsDIn Fence.wide 0 Tryd.prog 50 #[.pointer (some ad)] .returning w fun e u' w' => (∃ v, e = .returned v) ∧ u' = .returning ∧ w' = w := by
  refine callsDIn_of_wpSIn Tryd.func50 rfl trivial fun c₀ cs hu => ?_
  apply wpSIn_seq
  apply wpSIn_region
  simp [wpOpsSIn, go_sem, recoverD, hu, Tryd.ntmps50, Exit.thenS]
  refine wpSIn_of_wpIn rfl ?_
  refine wpIn_block ?_
  refine wpIn_seq ?_
  refine wpIn_region ?_
  simp [wpOpsIn, Oper.wpIn, Oper.uponIn, Oper.semAt_none, go_sem, Region.wanted, Exit.then]
  refine wpIn_cond_true (by simp [Act.eval, Array.replicate]) ?_
  refine wpIn_region ?_
  simp [wpOpsIn, Oper.wpIn, Oper.uponIn, Oper.semAt_none, go_sem, Region.wanted, Exit.inBlock, bodyPostS, results, Tryd.results50]
  exact hu.symm ▸ rfl
theorem guard_recovers (ad : Addr) (w : World) (hst : ∀ w1, Same w w1 → ∃ w2, (Instr.storeAt 28 (.pointer (some ad)) (.int .i64 3)).run Tryd.prog w1 = .ok () w2) :
    CallsDIn Fence.wide 0 Tryd.prog 50 #[.pointer (some ad)] (.panicking (pan wrongV)) w fun e u' w' =>
      (∃ v, e = .returned v) ∧ u' = .panicking [{ v := wrongV, recovered := true }] ∧ ∃ w1, Same w w1 ∧ (Instr.storeAt 28 (.pointer (some ad)) (.int .i64 3)).run Tryd.prog w1 = .ok () w' := by
  refine callsDIn_of_wpSIn Tryd.func50 rfl trivial fun c₀ cs hu => ?_
  apply wpSIn_seq
  apply wpSIn_region
  simp [wpOpsSIn, go_sem, recoverD, hu, pan, wrongV, Tryd.ntmps50, Exit.thenS]
  refine wpSIn_of_wpIn rfl ?_
  refine wpIn_block ?_
  refine wpIn_seq ?_
  refine wpIn_region ?_
  simp [wpOpsIn, Oper.wpIn, Oper.uponIn, Oper.semAt_none, go_sem, Region.wanted, Exit.then]
  refine wpIn_cond_false (by simp [Act.eval, Array.replicate]) ?_
  refine wpIn_seq ?_
  refine wpIn_region ?_
  simp [wpOpsIn, Oper.wpIn, Oper.uponIn, Oper.semAt_none, go_sem, Region.wanted, Exit.then]
  refine wpIn_cond_true (by simp [Act.eval, Array.replicate]) ?_
  refine wpIn_seq ?_
  refine wpIn_region ?_
  simp [wpOpsIn, Oper.wpIn, Oper.uponIn, Oper.semAt_none, go_sem, Region.wanted, Exit.then]
  obtain ⟨w2, h2⟩ := hst _ (Same.alloc w (Obj.cells #[] 90))
  have hs : Same w (w.alloc (Obj.cells #[] 90)) := Same.alloc w _
  generalize w.alloc (Obj.cells #[] 90) = w1 at *
  simp [go_sem] at h2
  cases hc : w1.cell? ad with
  | some val =>
    rw [hc] at h2
    by_cases hf : w1.frozen? ad = true
    · simp [hf] at h2
    · simp only [hf, if_false, Bool.false_eq_true] at h2
      refine wpIn_region ?_
      simp [wpOpsIn, Oper.wpIn, Oper.uponIn, Oper.semAt_none, go_sem, Region.wanted, Exit.inBlock, bodyPostS, results, Tryd.results50, hc, hf]
      exact ⟨w1, hs, by simp [hc, hf]⟩
  | none =>
    rw [hc] at h2
    cases hfs : World.farStore Tryd.prog w1 ad (Value.int IntKind.i64 3) (Mode.plain == Mode.atomic) with
    | ok q =>
      refine wpIn_region ?_
      simp [wpOpsIn, Oper.wpIn, Oper.uponIn, Oper.semAt_none, go_sem, Region.wanted, Exit.inBlock, bodyPostS, results, Tryd.results50, hc, hfs]
      exact ⟨w1, hs, by simp [hc, hfs]⟩
    | error e => simp [hfs] at h2
theorem guard_ok : GuardOK Tryd.prog 50 wrongV 28 (.int .i64 3) := ⟨guard_idle, guard_recovers⟩
theorem errno_sz : szOf Tryd.prog 28 = some 1 := by kernel_rfl
end Go.Proofs.YtjpinndnicmokaaDoor.Cm
