/- PackBuilds returns true for every readable input, and leaves it as it was; under: the listed variables as the program's text lays them. -/
import Derived.Test.YtjoefngnjoofeaaGreatDoorPackBuildsY
import Derived.Test.YtjoefngnjoofeaaGreatDoorCards
import Derived.Test.YtjoefngnjoofeaaGreatDoorTie
import Derived.SevenTiedAt
set_option linter.all false
namespace Go.Proofs.YtjoefngnjoofeaaGreatDoor
open Go
theorem packBuilds_card : Rows.PackBuildsCardSaid :=
 Claim7.holds_tied_plain_at .later [] [.data, .data, .data] true Rows.packBuildsCard.stood.harness true
  Pk.acL (fun _ h => by cases h) (by kernel_rfl) (fun _ h => by cases h) packBuilds_row_tie rfl ⟨rfl, rfl⟩ (by kernel_rfl) rfl
  (fun f fn hf hfn => by
   obtain rfl : f = 4 := Option.some.inj ((show Tryz.prog.funcNamed Rows.packBuildsRow.func = some 4 by kernel_rfl).symm.trans hf) |>.symm
   obtain rfl : fn = Tryz.f4 := (Option.some.inj (Tryz.func4.symm.trans hfn)).symm
   exact ⟨by kernel_rfl, fun j t ht => by
    rw [Tryz.params4] at ht
    rcases j with _ | j
    ·simp at ht; subst ht; exact (show Tryz.prog.wantsStandIn 45 = false by kernel_rfl)
    simp at ht⟩)
  (by kernel_rfl)
#print axioms packBuilds_card
end Go.Proofs.YtjoefngnjoofeaaGreatDoor
