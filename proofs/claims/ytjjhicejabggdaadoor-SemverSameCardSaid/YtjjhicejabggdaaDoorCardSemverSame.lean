/- SemverSame returns true for every readable input, and leaves it as it was; under: the listed variables as the program's text lays them. -/
import Derived.Test.YtjjhicejabggdaaDoorRowSemverSame
import Derived.Test.YtjjhicejabggdaaDoorCards
import Derived.Test.YtjjhicejabggdaaDoorTie
import Derived.SevenTiedAt
set_option linter.all false
namespace Go.Proofs.YtjjhicejabggdaaDoor
open Go
theorem semverSame_card : Rows.SemverSameCardSaid :=
  Claim7.holds_tied_plain_at .later [] [.data, .pinned] true Rows.semverSameCard.stood.harness false
    Sv.semverSame_said (fun _ h => by cases h) (by kernel_rfl) (fun _ h => by cases h) semverSame_row_tie rfl ⟨rfl, rfl⟩ (by kernel_rfl) rfl
    (fun f fn hf hfn => by
      obtain rfl : f = 10 := Option.some.inj ((show Tryd.prog.funcNamed Rows.semverSameRow.func = some 10 by kernel_rfl).symm.trans hf) |>.symm
      obtain rfl : fn = Tryd.f10 := (Option.some.inj (Tryd.func10.symm.trans hfn)).symm
      exact ⟨by kernel_rfl, fun j t ht => by
        rw [Tryd.params10] at ht
        rcases j with _ | j
        · simp at ht; subst ht; exact (show Tryd.prog.wantsStandIn 36 = false by kernel_rfl)
        simp at ht⟩)
    (by kernel_rfl)
#print axioms semverSame_card
end Go.Proofs.YtjjhicejabggdaaDoor
