/-
  DERIVED. GIVEN WITH THE SEED: THE CARDS: each row of YtlkmppkcbhodaaaGreatDoorRows.lean that lists a variable, with what it lists TIED to the program's text (the seventh form; the later family's looks); each row that meets fmt, with fmt's text TOLD by the authors' own Lean function (tested against real Go, not proved from fmt's source: count such statements apart). THE CARD IS WHAT COUNTS. Prove the row's statement (the work); the ties are given (YtlkmppkcbhodaaaGreatDoorTie.lean); close each card by the builder's one call (the guide's Derived/Test/ToyasCard.lean, 'card_holds'). Laid BY PROGRAM, IN A SANDBOX (cutbox-door.mjs). By AI agents, Wed Nov 11 2026. No macro, syntax, notation, axiom, sorry.
-/
import Derived.Test.YtlkmppkcbhodaaaGreatDoorRows
import GoSem.ClaimSeven
namespace Go.Proofs.YtlkmppkcbhodaaaGreatDoor
namespace Rows

/-- THE TIED CARD OF 'cartularylaw09.LooseOnly'. -/
def looseOnlyCard : Claim7 := { stood := { row := looseOnlyRow, standIns := [], harness := (true, "f9b035f6cba0ff3c0150b6809f3ebb125aa91299205c3f8e12b4b0fe12de5d50"), looks := true }, kinds := [], alts := [], laidByText := true, laidKinds := [.data, .data, .data, .data, .sentinel, .sentinel, .pinned], laidTests := true, laidLooks := .later }
def LooseOnlyCardSaid : Prop := Claim7.holds Tryz.pinned (.plain (OpenSpec.ofChange looseOnlySpec)) looseOnlyCard

/-- THE TIED CARD OF 'cartularylaw09.LooseReads'. -/
def looseReadsCard : Claim7 := { stood := { row := looseReadsRow, standIns := [], harness := (true, "f9b035f6cba0ff3c0150b6809f3ebb125aa91299205c3f8e12b4b0fe12de5d50"), looks := true }, kinds := [], alts := [], laidByText := true, laidKinds := [.data, .data, .data, .data, .sentinel, .sentinel, .pinned], laidTests := true, laidLooks := .later }
def LooseReadsCardSaid : Prop := Claim7.holds Tryz.pinned (.plain (OpenSpec.ofChange looseReadsSpec)) looseReadsCard

/-- THE TIED CARD OF 'cartularylaw09.LooseSure'. -/
def looseSureCard : Claim7 := { stood := { row := looseSureRow, standIns := [], harness := (true, "f9b035f6cba0ff3c0150b6809f3ebb125aa91299205c3f8e12b4b0fe12de5d50"), looks := true }, kinds := [], alts := [], laidByText := true, laidKinds := [.data, .data, .data, .data, .sentinel, .sentinel, .pinned], laidTests := true, laidLooks := .later }
def LooseSureCardSaid : Prop := Claim7.holds Tryz.pinned (.plain (OpenSpec.ofChange looseSureSpec)) looseSureCard

/-- THE TIED CARD OF 'cartularylaw09.LooseWrites'. -/
def looseWritesCard : Claim7 := { stood := { row := looseWritesRow, standIns := [], harness := (true, "f9b035f6cba0ff3c0150b6809f3ebb125aa91299205c3f8e12b4b0fe12de5d50"), looks := true }, kinds := [], alts := [], laidByText := true, laidKinds := [.data, .data, .data, .data, .sentinel, .sentinel, .pinned], laidTests := true, laidLooks := .later }
def LooseWritesCardSaid : Prop := Claim7.holds Tryz.pinned (.plain (OpenSpec.ofChange looseWritesSpec)) looseWritesCard

/-- THE SECOND FORM's CARD OF 'cartularylaw09.LooseOnly'. -/
def looseOnlyUptoCard : Claim7 := { stood := { row := looseOnlyUptoRow, standIns := [], harness := (true, "f9b035f6cba0ff3c0150b6809f3ebb125aa91299205c3f8e12b4b0fe12de5d50"), looks := true }, kinds := [], alts := [], laidByText := true, laidKinds := [.data, .data, .data, .data, .sentinel, .sentinel, .pinned], laidTests := true, laidLooks := .later }
def LooseOnlyUptoCardSaid : Prop := Claim7.holds Tryz.pinned (.plain (OpenSpec.upto looseOnlySpec)) looseOnlyUptoCard

/-- THE SECOND FORM's CARD OF 'cartularylaw09.LooseReads'. -/
def looseReadsUptoCard : Claim7 := { stood := { row := looseReadsUptoRow, standIns := [], harness := (true, "f9b035f6cba0ff3c0150b6809f3ebb125aa91299205c3f8e12b4b0fe12de5d50"), looks := true }, kinds := [], alts := [], laidByText := true, laidKinds := [.data, .data, .data, .data, .sentinel, .sentinel, .pinned], laidTests := true, laidLooks := .later }
def LooseReadsUptoCardSaid : Prop := Claim7.holds Tryz.pinned (.plain (OpenSpec.upto looseReadsSpec)) looseReadsUptoCard

/-- THE SECOND FORM's CARD OF 'cartularylaw09.LooseSure'. -/
def looseSureUptoCard : Claim7 := { stood := { row := looseSureUptoRow, standIns := [], harness := (true, "f9b035f6cba0ff3c0150b6809f3ebb125aa91299205c3f8e12b4b0fe12de5d50"), looks := true }, kinds := [], alts := [], laidByText := true, laidKinds := [.data, .data, .data, .data, .sentinel, .sentinel, .pinned], laidTests := true, laidLooks := .later }
def LooseSureUptoCardSaid : Prop := Claim7.holds Tryz.pinned (.plain (OpenSpec.upto looseSureSpec)) looseSureUptoCard

/-- THE SECOND FORM's CARD OF 'cartularylaw09.LooseWrites'. -/
def looseWritesUptoCard : Claim7 := { stood := { row := looseWritesUptoRow, standIns := [], harness := (true, "f9b035f6cba0ff3c0150b6809f3ebb125aa91299205c3f8e12b4b0fe12de5d50"), looks := true }, kinds := [], alts := [], laidByText := true, laidKinds := [.data, .data, .data, .data, .sentinel, .sentinel, .pinned], laidTests := true, laidLooks := .later }
def LooseWritesUptoCardSaid : Prop := Claim7.holds Tryz.pinned (.plain (OpenSpec.upto looseWritesSpec)) looseWritesUptoCard
end Rows
end Go.Proofs.YtlkmppkcbhodaaaGreatDoor
