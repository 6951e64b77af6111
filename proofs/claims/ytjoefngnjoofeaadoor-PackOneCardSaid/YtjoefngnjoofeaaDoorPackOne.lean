/- PackOne returns true for every readable input, and leaves it as it was; under: the listed variables as the program's text lays them. -/
import Derived.Test.YtjoefngnjoofeaaDoorPackOneX
import Derived.Test.YtjoefngnjoofeaaDoorCards
import Derived.Test.YtjoefngnjoofeaaDoorTie
import Derived.SevenTiedAt
set_option linter.all false
namespace Go.Proofs.YtjoefngnjoofeaaDoor
open Go
theorem packOne_card : Rows.PackOneCardSaid :=
 Claim7.holds_tied_plain_at .later [] [.data, .data, .data] true Rows.packOneCard.stood.harness true
  Pk.packOne_said (fun _ h => by cases h) (by kernel_rfl) (fun _ h => by cases h) packOne_row_tie rfl ⟨rfl, rfl⟩ (by kernel_rfl) rfl
  (fun f fn hf hfn => by
   obtain rfl : f = 3 := Option.some.inj ((show Tryd.prog.funcNamed Rows.packOneRow.func = some 3 by kernel_rfl).symm.trans hf) |>.symm
   obtain rfl : fn = Tryd.f3 := (Option.some.inj (Tryd.func3.symm.trans hfn)).symm
   exact ⟨by kernel_rfl, fun j t ht => by
    rw [Tryd.params3] at ht
    rcases j with _ | j
    ·simp at ht; subst ht; exact (show Tryd.prog.wantsStandIn 23 = false by kernel_rfl)
    simp at ht⟩)
  (by kernel_rfl)
#print axioms packOne_card
end Go.Proofs.YtjoefngnjoofeaaDoor
