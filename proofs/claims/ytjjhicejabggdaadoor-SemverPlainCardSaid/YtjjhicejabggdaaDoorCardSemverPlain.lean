/- SemverPlain returns true for every readable input, and leaves it as it was; under: the listed variables as the program's text lays them. -/
import Derived.Test.YtjjhicejabggdaaDoorRowSemverPlain
import Derived.Test.YtjjhicejabggdaaDoorCards
import Derived.Test.YtjjhicejabggdaaDoorTie
import Derived.SevenTiedAt
set_option linter.all false
namespace Go.Proofs.YtjjhicejabggdaaDoor
open Go
theorem semverPlain_card : Rows.SemverPlainCardSaid :=
  Claim7.holds_tied_plain_at .later [] [.data, .pinned] true Rows.semverPlainCard.stood.harness false
    Sv.semverPlain_said (fun _ h => by cases h) (by kernel_rfl) (fun _ h => by cases h) semverPlain_row_tie rfl ⟨rfl, rfl⟩ (by kernel_rfl) rfl
    (fun f fn hf hfn => by
      obtain rfl : f = 7 := Option.some.inj ((show Tryd.prog.funcNamed Rows.semverPlainRow.func = some 7 by kernel_rfl).symm.trans hf) |>.symm
      obtain rfl : fn = Tryd.f7 := (Option.some.inj (Tryd.func7.symm.trans hfn)).symm
      exact ⟨by kernel_rfl, fun j t ht => by
        rw [Tryd.params7] at ht
        rcases j with _ | j
        · simp at ht; subst ht; exact (show Tryd.prog.wantsStandIn 9 = false by kernel_rfl)
        simp at ht⟩)
    (by kernel_rfl)
#print axioms semverPlain_card
end Go.Proofs.YtjjhicejabggdaaDoor
