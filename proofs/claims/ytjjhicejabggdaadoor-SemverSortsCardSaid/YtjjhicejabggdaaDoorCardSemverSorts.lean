/- SemverSorts returns true for every readable input, and leaves it as it was; under: the listed variables as the program's text lays them. -/
import Derived.Test.YtjjhicejabggdaaDoorRowSemverSorts
import Derived.Test.YtjjhicejabggdaaDoorCards
import Derived.Test.YtjjhicejabggdaaDoorTie
import Derived.SevenTiedAt
set_option linter.all false
namespace Go.Proofs.YtjjhicejabggdaaDoor
open Go
theorem semverSorts_card : Rows.SemverSortsCardSaid :=
  Claim7.holds_tied_plain_at .later [] [.data, .pinned] true Rows.semverSortsCard.stood.harness false
    Sv.semverSorts_said (fun _ h => by cases h) (by kernel_rfl) (fun _ h => by cases h) semverSorts_row_tie rfl ⟨rfl, rfl⟩ (by kernel_rfl) rfl
    (fun f fn hf hfn => by
      obtain rfl : f = 9 := Option.some.inj ((show Tryd.prog.funcNamed Rows.semverSortsRow.func = some 9 by kernel_rfl).symm.trans hf) |>.symm
      obtain rfl : fn = Tryd.f9 := (Option.some.inj (Tryd.func9.symm.trans hfn)).symm
      exact ⟨by kernel_rfl, fun j t ht => by
        rw [Tryd.params9] at ht
        rcases j with _ | j
        · simp at ht; subst ht; exact (show Tryd.prog.wantsStandIn 36 = false by kernel_rfl)
        simp at ht⟩)
    (by kernel_rfl)
#print axioms semverSorts_card
end Go.Proofs.YtjjhicejabggdaaDoor
