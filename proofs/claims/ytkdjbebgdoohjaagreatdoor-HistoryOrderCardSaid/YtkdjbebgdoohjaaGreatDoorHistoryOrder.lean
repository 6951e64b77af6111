/- HistoryOrder returns true for every readable input, and leaves it as it was; under: the listed variables as the program's text lays them. -/
import Derived.Test.YtkdjbebgdoohjaaGreatDoorHistoryOrderZX
import Derived.Test.YtkdjbebgdoohjaaGreatDoorCards
import Derived.Test.YtkdjbebgdoohjaaGreatDoorTie
import Derived.SevenTiedAt
set_option linter.all false
namespace Go.Proofs.YtkdjbebgdoohjaaGreatDoor
open Go
theorem historyOrder_card : Rows.HistoryOrderCardSaid :=
 Claim7.holds_tied_plain_at .later [] [.data, .data, .data, .data, .sentinel, .sentinel, .data, .data, .pinned, .pinned] true Rows.historyOrderCard.stood.harness true
  Ls.Ng (fun _ h => by cases h) (by kernel_rfl) (fun _ h => by cases h) historyOrder_row_tie rfl ⟨rfl, rfl⟩ (by kernel_rfl) rfl
  (fun f fn hf hfn => by
   obtain rfl : f = 3 := Option.some.inj ((show Tryz.prog.funcNamed Rows.historyOrderRow.func = some 3 by kernel_rfl).symm.trans hf) |>.symm
   obtain rfl : fn = Tryz.f3 := (Option.some.inj (Tryz.func3.symm.trans hfn)).symm
   exact ⟨by kernel_rfl, fun j t ht => by
    rw [Tryz.params3] at ht
    rcases j with _ | j
    ·simp at ht; subst ht; exact (show Tryz.prog.wantsStandIn 22 = false by kernel_rfl)
    rcases j with _ | j
    ·simp at ht; subst ht; exact (show Tryz.prog.wantsStandIn 9 = false by kernel_rfl)
    simp at ht⟩)
  (by kernel_rfl)
#print axioms historyOrder_card
end Go.Proofs.YtkdjbebgdoohjaaGreatDoor
