/-
  DERIVED. GIVEN WITH THE SEED: THE CARDS: each row of YtjoefngnjoofeaaGreatDoorRows.lean that lists a variable, with what it lists TIED to the program's text (the seventh form; the later family's looks); each row that meets fmt, with fmt's text TOLD by the authors' own Lean function (tested against real Go, not proved from fmt's source: count such statements apart). THE CARD IS WHAT COUNTS. Prove the row's statement (the work); the ties are given (YtjoefngnjoofeaaGreatDoorTie.lean); close each card by the builder's one call (the guide's Derived/Test/ToyasCard.lean, 'card_holds'). Laid BY PROGRAM, IN A SANDBOX (cutbox-door.mjs). By AI agents, Wed Nov 11 2026. No macro, syntax, notation, axiom, sorry.
-/
import Derived.Test.YtjoefngnjoofeaaGreatDoorRows
import GoSem.ClaimSeven
namespace Go.Proofs.YtjoefngnjoofeaaGreatDoor
namespace Rows

/-- THE TIED CARD OF 'cartularylaw11.PackReads'. -/
def packReadsCard : Claim7 := { stood := { row := packReadsRow, standIns := [], harness := (true, "1b0f59b4bb03b860e6e19d5d0503a1b2a9c717031121dc0d462ac90a56b0fe57"), looks := true }, kinds := [], alts := [], laidByText := true, laidKinds := [.data, .data, .data], laidTests := true, laidLooks := .later }
def PackReadsCardSaid : Prop := Claim7.holds Tryz.pinned (.plain (OpenSpec.ofChange packReadsSpec)) packReadsCard

/-- THE TIED CARD OF 'cartularylaw11.PackBuilds'. -/
def packBuildsCard : Claim7 := { stood := { row := packBuildsRow, standIns := [], harness := (true, "1b0f59b4bb03b860e6e19d5d0503a1b2a9c717031121dc0d462ac90a56b0fe57"), looks := true }, kinds := [], alts := [], laidByText := true, laidKinds := [.data, .data, .data], laidTests := true, laidLooks := .later }
def PackBuildsCardSaid : Prop := Claim7.holds Tryz.pinned (.plain (OpenSpec.ofChange packBuildsSpec)) packBuildsCard

/-- THE SECOND FORM's CARD OF 'cartularylaw11.PackReads'. -/
def packReadsUptoCard : Claim7 := { stood := { row := packReadsUptoRow, standIns := [], harness := (true, "1b0f59b4bb03b860e6e19d5d0503a1b2a9c717031121dc0d462ac90a56b0fe57"), looks := true }, kinds := [], alts := [], laidByText := true, laidKinds := [.data, .data, .data], laidTests := true, laidLooks := .later }
def PackReadsUptoCardSaid : Prop := Claim7.holds Tryz.pinned (.plain (OpenSpec.upto packReadsSpec)) packReadsUptoCard

/-- THE SECOND FORM's CARD OF 'cartularylaw11.PackBuilds'. -/
def packBuildsUptoCard : Claim7 := { stood := { row := packBuildsUptoRow, standIns := [], harness := (true, "1b0f59b4bb03b860e6e19d5d0503a1b2a9c717031121dc0d462ac90a56b0fe57"), looks := true }, kinds := [], alts := [], laidByText := true, laidKinds := [.data, .data, .data], laidTests := true, laidLooks := .later }
def PackBuildsUptoCardSaid : Prop := Claim7.holds Tryz.pinned (.plain (OpenSpec.upto packBuildsSpec)) packBuildsUptoCard
end Rows
end Go.Proofs.YtjoefngnjoofeaaGreatDoor
