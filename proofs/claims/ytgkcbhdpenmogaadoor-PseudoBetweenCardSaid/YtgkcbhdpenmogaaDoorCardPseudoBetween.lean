/- PseudoBetween returns true for every readable input, and leaves it as it was; under: the listed variables as the program's text lays them. -/
import Derived.Test.YtgkcbhdpenmogaaDoorRowPseudoBetween
import Derived.Test.YtgkcbhdpenmogaaDoorCards
import Derived.Test.YtgkcbhdpenmogaaDoorTie
import Derived.SevenTiedAt
set_option linter.all false
namespace Go.Proofs.YtgkcbhdpenmogaaDoor
open Go
theorem pseudoBetween_card : Rows.PseudoBetweenCardSaid :=
  Claim7.holds_tied_plain_at .later [] [.data, .data, .data, .data, .pinned] true Rows.pseudoBetweenCard.stood.harness false
    Ps.pseudoBetween_said (fun _ h => by cases h) (by kernel_rfl) (fun _ h => by cases h) pseudoBetween_row_tie rfl ⟨rfl, rfl⟩ (by kernel_rfl) rfl
    (fun f fn hf hfn => by
      obtain rfl : f = 4 := Option.some.inj ((show Tryd.prog.funcNamed Rows.pseudoBetweenRow.func = some 4 by kernel_rfl).symm.trans hf) |>.symm
      obtain rfl : fn = Tryd.f4 := (Option.some.inj (Tryd.func4.symm.trans hfn)).symm
      exact ⟨by kernel_rfl, fun j t ht => by
        rw [Tryd.params4] at ht
        rcases j with _ | j
        · simp at ht; subst ht; exact (show Tryd.prog.wantsStandIn 9 = false by kernel_rfl)
        rcases j with _ | j
        · simp at ht; subst ht; exact (show Tryd.prog.wantsStandIn 3 = false by kernel_rfl)
        rcases j with _ | j
        · simp at ht; subst ht; exact (show Tryd.prog.wantsStandIn 3 = false by kernel_rfl)
        rcases j with _ | j
        · simp at ht; subst ht; exact (show Tryd.prog.wantsStandIn 9 = false by kernel_rfl)
        rcases j with _ | j
        · simp at ht; subst ht; exact (show Tryd.prog.wantsStandIn 9 = false by kernel_rfl)
        simp at ht⟩)
    (by kernel_rfl)
#print axioms pseudoBetween_card
end Go.Proofs.YtgkcbhdpenmogaaDoor
