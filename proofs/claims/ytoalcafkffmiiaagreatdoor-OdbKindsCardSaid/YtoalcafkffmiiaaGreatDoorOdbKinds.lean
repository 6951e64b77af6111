/- OdbKinds returns true for every readable input, and leaves it as it was; under: the listed variables as the program's text lays them. -/
import Derived.Test.YtoalcafkffmiiaaGreatDoorOdbKindsZP
import Derived.Test.YtoalcafkffmiiaaGreatDoorCards
import Derived.Test.YtoalcafkffmiiaaGreatDoorTie
import Derived.SevenTiedAt
set_option linter.all false
namespace Go.Proofs.YtoalcafkffmiiaaGreatDoor
open Go
theorem odbKinds_card : Rows.OdbKindsCardSaid :=
 Claim7.holds_tied_plain_at .later [] [.data, .data, .data, .data, .sentinel, .sentinel, .pinned] true Rows.odbKindsCard.stood.harness true
  Ls.abX (fun _ h => by cases h) (by kernel_rfl) (fun _ h => by cases h) odbKinds_row_tie rfl ⟨rfl, rfl⟩ (by kernel_rfl) rfl
  (fun f fn hf hfn => by
   obtain rfl : f = 5 := Option.some.inj ((show Tryz.prog.funcNamed Rows.odbKindsRow.func = some 5 by kernel_rfl).symm.trans hf) |>.symm
   obtain rfl : fn = Tryz.f5 := (Option.some.inj (Tryz.func5.symm.trans hfn)).symm
   exact ⟨by kernel_rfl, fun j t ht => by
    rw [Tryz.params5] at ht
    rcases j with _ | j
    ·simp at ht; subst ht; exact (show Tryz.prog.wantsStandIn 22 = false by kernel_rfl)
    simp at ht⟩)
  (by kernel_rfl)
#print axioms odbKinds_card
end Go.Proofs.YtoalcafkffmiiaaGreatDoor
