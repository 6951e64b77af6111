/- PackPlaces returns true for every readable input, and leaves it as it was; under: the listed variables as the program's text lays them. -/
import Derived.Test.YtjoefngnjoofeaaDoorPackPlacesX
import Derived.Test.YtjoefngnjoofeaaDoorCards
import Derived.Test.YtjoefngnjoofeaaDoorTie
import Derived.SevenTiedAt
set_option linter.all false
namespace Go.Proofs.YtjoefngnjoofeaaDoor
open Go
theorem packPlaces_card : Rows.PackPlacesCardSaid :=
 Claim7.holds_tied_plain_at .later [] [.data, .data, .data] true Rows.packPlacesCard.stood.harness true
  Pk.packPlaces_said (fun _ h => by cases h) (by kernel_rfl) (fun _ h => by cases h) packPlaces_row_tie rfl ⟨rfl, rfl⟩ (by kernel_rfl) rfl
  (fun f fn hf hfn => by
   obtain rfl : f = 5 := Option.some.inj ((show Tryd.prog.funcNamed Rows.packPlacesRow.func = some 5 by kernel_rfl).symm.trans hf) |>.symm
   obtain rfl : fn = Tryd.f5 := (Option.some.inj (Tryd.func5.symm.trans hfn)).symm
   exact ⟨by kernel_rfl, fun j t ht => by
    rw [Tryd.params5] at ht
    rcases j with _ | j
    ·simp at ht; subst ht; exact (show Tryd.prog.wantsStandIn 9 = false by kernel_rfl)
    rcases j with _ | j
    ·simp at ht; subst ht; exact (show Tryd.prog.wantsStandIn 30 = false by kernel_rfl)
    simp at ht⟩)
  (by kernel_rfl)
#print axioms packPlaces_card
end Go.Proofs.YtjoefngnjoofeaaDoor
