/-
  DERIVED. GIVEN WITH THE SEED: THE CARDS: each row of YthmkimlfnkghmaaGreatDoorRows.lean that lists a variable, with what it lists TIED to the program's text (the seventh form; the later family's looks); each row that meets fmt, with fmt's text TOLD by the authors' own Lean function (tested against real Go, not proved from fmt's source: count such statements apart). THE CARD IS WHAT COUNTS. Prove the row's statement (the work); the ties are given (YthmkimlfnkghmaaGreatDoorTie.lean); close each card by the builder's one call (the guide's Derived/Test/ToyasCard.lean, 'card_holds'). Laid BY PROGRAM, IN A SANDBOX (cutbox-door.mjs). By AI agents, Wed Nov 11 2026. No macro, syntax, notation, axiom, sorry.
-/
import Derived.Test.YthmkimlfnkghmaaGreatDoorRows
import GoSem.ClaimSeven
namespace Go.Proofs.YthmkimlfnkghmaaGreatDoor
namespace Rows

/-- THE TIED CARD OF 'cartularylaw13.OdbUnique'. -/
def odbUniqueCard : Claim7 := { stood := { row := odbUniqueRow, standIns := [], harness := (true, "399e16178987fa867c5262a5b724781cfdbda649b07e39e933a8f52cfd46b099"), looks := true }, kinds := [], alts := [], laidByText := true, laidKinds := [.data, .data, .data, .data, .sentinel, .sentinel, .pinned], laidTests := true, laidLooks := .later }
def OdbUniqueCardSaid : Prop := Claim7.holds Tryz.pinned (.plain (OpenSpec.ofChange odbUniqueSpec)) odbUniqueCard

/-- THE SECOND FORM's CARD OF 'cartularylaw13.OdbUnique'. -/
def odbUniqueUptoCard : Claim7 := { stood := { row := odbUniqueUptoRow, standIns := [], harness := (true, "399e16178987fa867c5262a5b724781cfdbda649b07e39e933a8f52cfd46b099"), looks := true }, kinds := [], alts := [], laidByText := true, laidKinds := [.data, .data, .data, .data, .sentinel, .sentinel, .pinned], laidTests := true, laidLooks := .later }
def OdbUniqueUptoCardSaid : Prop := Claim7.holds Tryz.pinned (.plain (OpenSpec.upto odbUniqueSpec)) odbUniqueUptoCard
end Rows
end Go.Proofs.YthmkimlfnkghmaaGreatDoor
