/- OdbGets returns true for every readable input, and leaves it as it was; under: the listed variables as the program's text lays them. -/
import Derived.Test.YtoalcafkffmiiaaGreatDoorOdbGetsZQ
import Derived.Test.YtoalcafkffmiiaaGreatDoorCards
import Derived.Test.YtoalcafkffmiiaaGreatDoorTie
import Derived.SevenTiedAt
set_option linter.all false
namespace Go.Proofs.YtoalcafkffmiiaaGreatDoor
open Go
theorem odbGets_card : Rows.OdbGetsCardSaid :=
 Claim7.holds_tied_plain_at .later [] [.data, .data, .data, .data, .sentinel, .sentinel, .pinned] true Rows.odbGetsCard.stood.harness true
  Ls.Uk (fun _ h => by cases h) (by kernel_rfl) (fun _ h => by cases h) odbGets_row_tie rfl ⟨rfl, rfl⟩ (by kernel_rfl) rfl
  (fun f fn hf hfn => by
   obtain rfl : f = 6 := Option.some.inj ((show Tryz.prog.funcNamed Rows.odbGetsRow.func = some 6 by kernel_rfl).symm.trans hf) |>.symm
   obtain rfl : fn = Tryz.f6 := (Option.some.inj (Tryz.func6.symm.trans hfn)).symm
   exact ⟨by kernel_rfl, fun j t ht => by
    rw [Tryz.params6] at ht
    rcases j with _ | j
    ·simp at ht; subst ht; exact (show Tryz.prog.wantsStandIn 22 = false by kernel_rfl)
    rcases j with _ | j
    ·simp at ht; subst ht; exact (show Tryz.prog.wantsStandIn 9 = false by kernel_rfl)
    rcases j with _ | j
    ·simp at ht; subst ht; exact (show Tryz.prog.wantsStandIn 9 = false by kernel_rfl)
    simp at ht⟩)
  (by kernel_rfl)
#print axioms odbGets_card
end Go.Proofs.YtoalcafkffmiiaaGreatDoor
