/- GraphBusy returns true for every readable input, and leaves it as it was; under: the two listed variables of unicode/utf8 as the program's text lays them. -/
import Derived.Test.YtkeleoneecofhaaDoorGrRowBusy
import Derived.Test.YtkeleoneecofhaaDoorCards
import Derived.Test.YtkeleoneecofhaaDoorTie
import Derived.SevenTiedAt
set_option linter.all false
namespace Go.Proofs.YtkeleoneecofhaaDoor
open Go
theorem graphBusy_card : Rows.GraphBusyCardSaid :=
  Claim7.holds_tied_plain_at .later [] [.data, .pinned] true Rows.graphBusyCard.stood.harness false
    Gr.busy_said (fun _ h => by cases h) (by kernel_rfl) (fun _ h => by cases h) graphBusy_row_tie rfl ⟨rfl, rfl⟩ (by kernel_rfl) rfl
    (fun f fn hf hfn => by
      obtain rfl : f = 4 := Option.some.inj ((show Tryd.prog.funcNamed Rows.graphBusyRow.func = some 4 by kernel_rfl).symm.trans hf) |>.symm
      obtain rfl : fn = Tryd.f4 := (Option.some.inj (Tryd.func4.symm.trans hfn)).symm
      exact ⟨by kernel_rfl, fun j t ht => by
        rw [Tryd.params4] at ht
        have h3 : t = 22 := by
          rcases j with _ | j
          · simpa using ht.symm
          · simp at ht
        subst h3
        exact (show Tryd.prog.wantsStandIn 22 = false by kernel_rfl)⟩)
    (by kernel_rfl)
#print axioms graphBusy_card
end Go.Proofs.YtkeleoneecofhaaDoor
