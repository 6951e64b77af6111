/- CommitApart returns true for every readable input, and leaves it as it was; under: the listed variables as the program's text lays them. -/
import Derived.Test.YtjpinndnicmokaaDoorRowCommitApart
import Derived.Test.YtjpinndnicmokaaDoorCards
import Derived.Test.YtjpinndnicmokaaDoorTie
import Derived.SevenTiedAt
set_option linter.all false
namespace Go.Proofs.YtjpinndnicmokaaDoor
open Go
theorem commitApart_card : Rows.CommitApartCardSaid :=
  Claim7.holds_tied_plain_at .later [] [.data, .data, .data, .sentinel, .sentinel] true Rows.commitApartCard.stood.harness true
    Cm.commitApart_said (fun _ h => by cases h) (by kernel_rfl) (fun _ h => by cases h) commitApart_row_tie rfl ⟨rfl, rfl⟩ (by kernel_rfl) rfl
    (fun f fn hf hfn => by
      obtain rfl : f = 8 := Option.some.inj ((show Tryd.prog.funcNamed Rows.commitApartRow.func = some 8 by kernel_rfl).symm.trans hf) |>.symm
      obtain rfl : fn = Tryd.f8 := (Option.some.inj (Tryd.func8.symm.trans hfn)).symm
      exact ⟨by kernel_rfl, fun j t ht => by
        rw [Tryd.params8] at ht
        rcases j with _ | j
        · simp at ht; subst ht; exact (show Tryd.prog.wantsStandIn 26 = false by kernel_rfl)
        rcases j with _ | j
        · simp at ht; subst ht; exact (show Tryd.prog.wantsStandIn 26 = false by kernel_rfl)
        rcases j with _ | j
        · simp at ht; subst ht; exact (show Tryd.prog.wantsStandIn 45 = false by kernel_rfl)
        simp at ht⟩)
    (by kernel_rfl)
#print axioms commitApart_card
end Go.Proofs.YtjpinndnicmokaaDoor
