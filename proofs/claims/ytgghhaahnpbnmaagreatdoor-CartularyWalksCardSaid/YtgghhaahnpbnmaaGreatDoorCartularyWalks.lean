/- CartularyWalks returns true for every readable input, and leaves it as it was; under: the listed variables as the program's text lays them. -/
import Derived.Test.YtgghhaahnpbnmaaGreatDoorCartularyWalksZY
import Derived.Test.YtgghhaahnpbnmaaGreatDoorCards
import Derived.Test.YtgghhaahnpbnmaaGreatDoorTie
import Derived.SevenTiedAt
set_option linter.all false
namespace Go.Proofs.YtgghhaahnpbnmaaGreatDoor
open Go
theorem cartularyWalks_card : Rows.CartularyWalksCardSaid :=
 Claim7.holds_tied_plain_at .later [] [.data, .data, .data, .data, .sentinel, .sentinel, .pinned] true Rows.cartularyWalksCard.stood.harness true
  Ls.KC (fun _ h => by cases h) (by kernel_rfl) (fun _ h => by cases h) cartularyWalks_row_tie rfl ⟨rfl, rfl⟩ (by kernel_rfl) rfl
  (fun f fn hf hfn => by
   obtain rfl : f = 3 := Option.some.inj ((show Tryz.prog.funcNamed Rows.cartularyWalksRow.func = some 3 by kernel_rfl).symm.trans hf) |>.symm
   obtain rfl : fn = Tryz.f3 := (Option.some.inj (Tryz.func3.symm.trans hfn)).symm
   exact ⟨by kernel_rfl, fun j t ht => by
    rw [Tryz.params3] at ht
    rcases j with _ | j
    ·simp at ht; subst ht; exact (show Tryz.prog.wantsStandIn 22 = false by kernel_rfl)
    simp at ht⟩)
  (by kernel_rfl)
#print axioms cartularyWalks_card
end Go.Proofs.YtgghhaahnpbnmaaGreatDoor
