/- PackReads returns true for every readable input, and leaves it as it was; under: the listed variables as the program's text lays them. -/
import Derived.Test.YtjoefngnjoofeaaGreatDoorPackReadsW
import Derived.Test.YtjoefngnjoofeaaGreatDoorCards
import Derived.Test.YtjoefngnjoofeaaGreatDoorTie
import Derived.SevenTiedAt
set_option linter.all false
namespace Go.Proofs.YtjoefngnjoofeaaGreatDoor
open Go
theorem packReads_card : Rows.PackReadsCardSaid :=
 Claim7.holds_tied_plain_at .later [] [.data, .data, .data] true Rows.packReadsCard.stood.harness true
  Pk.packReads_said (fun _ h => by cases h) (by kernel_rfl) (fun _ h => by cases h) packReads_row_tie rfl ⟨rfl, rfl⟩ (by kernel_rfl) rfl
  (fun f fn hf hfn => by
   obtain rfl : f = 3 := Option.some.inj ((show Tryz.prog.funcNamed Rows.packReadsRow.func = some 3 by kernel_rfl).symm.trans hf) |>.symm
   obtain rfl : fn = Tryz.f3 := (Option.some.inj (Tryz.func3.symm.trans hfn)).symm
   exact ⟨by kernel_rfl, fun j t ht => by
    rw [Tryz.params3] at ht
    rcases j with _ | j
    ·simp at ht; subst ht; exact (show Tryz.prog.wantsStandIn 9 = false by kernel_rfl)
    rcases j with _ | j
    ·simp at ht; subst ht; exact (show Tryz.prog.wantsStandIn 3 = false by kernel_rfl)
    simp at ht⟩)
  (by kernel_rfl)
#print axioms packReads_card
end Go.Proofs.YtjoefngnjoofeaaGreatDoor
