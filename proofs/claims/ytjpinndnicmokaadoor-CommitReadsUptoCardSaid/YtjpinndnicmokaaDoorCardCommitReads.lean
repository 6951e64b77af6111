/- CommitReads returns true for every readable input whose bulk is at most 1048576, and leaves it as it was; under: the listed variables as the program's text lays them. -/
import Derived.Test.YtjpinndnicmokaaDoorRowCommitReads
import Derived.Test.YtjpinndnicmokaaDoorCards
import Derived.Test.YtjpinndnicmokaaDoorTie
import Derived.SevenTiedAt
set_option linter.all false
namespace Go.Proofs.YtjpinndnicmokaaDoor
open Go
theorem commitReads_card : Rows.CommitReadsUptoCardSaid :=
  Claim7.holds_tied_plain_at .later [] [.data, .data, .data, .sentinel, .sentinel] true Rows.commitReadsUptoCard.stood.harness true
    Cm.commitReads_said (fun _ h => by cases h) (by kernel_rfl) (fun _ h => by cases h) commitReadsUpto_row_tie rfl ⟨rfl, rfl⟩ (by kernel_rfl) rfl
    (fun f fn hf hfn => by
      obtain rfl : f = 4 := Option.some.inj ((show Tryd.prog.funcNamed Rows.commitReadsUptoRow.func = some 4 by kernel_rfl).symm.trans hf) |>.symm
      obtain rfl : fn = Tryd.f4 := (Option.some.inj (Tryd.func4.symm.trans hfn)).symm
      exact ⟨by kernel_rfl, fun j t ht => by
        rw [Tryd.params4] at ht
        rcases j with _ | j
        · simp at ht; subst ht; exact (show Tryd.prog.wantsStandIn 9 = false by kernel_rfl)
        simp at ht⟩)
    (by kernel_rfl)
#print axioms commitReads_card
end Go.Proofs.YtjpinndnicmokaaDoor
