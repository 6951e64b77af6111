/- CommitTags returns true for every readable input whose bulk is at most 1048576, and leaves it as it was; under: the listed variables as the program's text lays them. -/
import Derived.Test.YtjpinndnicmokaaDoorRowCommitTags
import Derived.Test.YtjpinndnicmokaaDoorCards
import Derived.Test.YtjpinndnicmokaaDoorTie
import Derived.SevenTiedAt
set_option linter.all false
namespace Go.Proofs.YtjpinndnicmokaaDoor
open Go
theorem commitTags_card : Rows.CommitTagsUptoCardSaid :=
  Claim7.holds_tied_plain_at .later [] [.data, .data, .data, .sentinel, .sentinel] true Rows.commitTagsUptoCard.stood.harness true
    Cm.commitTags_said (fun _ h => by cases h) (by kernel_rfl) (fun _ h => by cases h) commitTagsUpto_row_tie rfl ⟨rfl, rfl⟩ (by kernel_rfl) rfl
    (fun f fn hf hfn => by
      obtain rfl : f = 7 := Option.some.inj ((show Tryd.prog.funcNamed Rows.commitTagsUptoRow.func = some 7 by kernel_rfl).symm.trans hf) |>.symm
      obtain rfl : fn = Tryd.f7 := (Option.some.inj (Tryd.func7.symm.trans hfn)).symm
      exact ⟨by kernel_rfl, fun j t ht => by
        rw [Tryd.params7] at ht
        rcases j with _ | j
        · simp at ht; subst ht; exact (show Tryd.prog.wantsStandIn 45 = false by kernel_rfl)
        rcases j with _ | j
        · simp at ht; subst ht; exact (show Tryd.prog.wantsStandIn 9 = false by kernel_rfl)
        simp at ht⟩)
    (by kernel_rfl)
#print axioms commitTags_card
end Go.Proofs.YtjpinndnicmokaaDoor
