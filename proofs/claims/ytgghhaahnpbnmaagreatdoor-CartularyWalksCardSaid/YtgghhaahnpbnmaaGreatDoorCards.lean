/-
  DERIVED. GIVEN WITH THE SEED: THE CARDS: each row of YtgghhaahnpbnmaaGreatDoorRows.lean that lists a variable, with what it lists TIED to the program's text (the seventh form; the later family's looks); each row that meets fmt, with fmt's text TOLD by the authors' own Lean function (tested against real Go, not proved from fmt's source: count such statements apart). THE CARD IS WHAT COUNTS. Prove the row's statement (the work); the ties are given (YtgghhaahnpbnmaaGreatDoorTie.lean); close each card by the builder's one call (the guide's Derived/Test/ToyasCard.lean, 'card_holds'). Laid BY PROGRAM, IN A SANDBOX (cutbox-door.mjs). By AI agents, Wed Nov 11 2026. No macro, syntax, notation, axiom, sorry.
-/
import Derived.Test.YtgghhaahnpbnmaaGreatDoorRows
import GoSem.ClaimSeven
namespace Go.Proofs.YtgghhaahnpbnmaaGreatDoor
namespace Rows

/-- THE TIED CARD OF 'cartularytop.CartularyWalks'. -/
def cartularyWalksCard : Claim7 := { stood := { row := cartularyWalksRow, standIns := [], harness := (true, "349c308e032bd5a8af9fae53b11801f754a473aac6a9c36058d863efb039913a"), looks := true }, kinds := [], alts := [], laidByText := true, laidKinds := [.data, .data, .data, .data, .sentinel, .sentinel, .pinned], laidTests := true, laidLooks := .later }
def CartularyWalksCardSaid : Prop := Claim7.holds Tryz.pinned (.plain (OpenSpec.ofChange cartularyWalksSpec)) cartularyWalksCard

/-- THE SECOND FORM's CARD OF 'cartularytop.CartularyWalks'. -/
def cartularyWalksUptoCard : Claim7 := { stood := { row := cartularyWalksUptoRow, standIns := [], harness := (true, "349c308e032bd5a8af9fae53b11801f754a473aac6a9c36058d863efb039913a"), looks := true }, kinds := [], alts := [], laidByText := true, laidKinds := [.data, .data, .data, .data, .sentinel, .sentinel, .pinned], laidTests := true, laidLooks := .later }
def CartularyWalksUptoCardSaid : Prop := Claim7.holds Tryz.pinned (.plain (OpenSpec.upto cartularyWalksSpec)) cartularyWalksUptoCard
end Rows
end Go.Proofs.YtgghhaahnpbnmaaGreatDoor
