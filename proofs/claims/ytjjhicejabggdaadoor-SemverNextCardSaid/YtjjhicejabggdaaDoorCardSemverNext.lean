/- SemverNext returns true for every readable input, and leaves it as it was; under: the listed variables as the program's text lays them. -/
import Derived.Test.YtjjhicejabggdaaDoorRowSemverNext
import Derived.Test.YtjjhicejabggdaaDoorCards
import Derived.Test.YtjjhicejabggdaaDoorTie
import Derived.SevenTiedAt
set_option linter.all false
namespace Go.Proofs.YtjjhicejabggdaaDoor
open Go
theorem semverNext_card : Rows.SemverNextCardSaid :=
  Claim7.holds_tied_plain_at .later [] [.data, .pinned] true Rows.semverNextCard.stood.harness false
    Sv.semverNext_said (fun _ h => by cases h) (by kernel_rfl) (fun _ h => by cases h) semverNext_row_tie rfl ⟨rfl, rfl⟩ (by kernel_rfl) rfl
    (fun f fn hf hfn => by
      obtain rfl : f = 4 := Option.some.inj ((show Tryd.prog.funcNamed Rows.semverNextRow.func = some 4 by kernel_rfl).symm.trans hf) |>.symm
      obtain rfl : fn = Tryd.f4 := (Option.some.inj (Tryd.func4.symm.trans hfn)).symm
      exact ⟨by kernel_rfl, fun j t ht => by
        rw [Tryd.params4] at ht
        rcases j with _ | j
        · simp at ht; subst ht; exact (show Tryd.prog.wantsStandIn 9 = false by kernel_rfl)
        rcases j with _ | j
        · simp at ht; subst ht; exact (show Tryd.prog.wantsStandIn 9 = false by kernel_rfl)
        simp at ht⟩)
    (by kernel_rfl)
#print axioms semverNext_card
end Go.Proofs.YtjjhicejabggdaaDoor
