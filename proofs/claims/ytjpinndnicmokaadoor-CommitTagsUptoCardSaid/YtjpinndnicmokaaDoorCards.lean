/-
  DERIVED. GIVEN WITH THE SEED: THE CARDS: each row of YtjpinndnicmokaaDoorRows.lean that lists a variable, with what it lists TIED to the program's text (the seventh form; the later family's looks); each row that meets fmt, with fmt's text TOLD by the authors' own Lean function (tested against real Go, not proved from fmt's source: count such statements apart). THE CARD IS WHAT COUNTS. Prove the row's statement (the work); the ties are given (YtjpinndnicmokaaDoorTie.lean); close each card by the builder's one call (the guide's Derived/Test/ToyasCard.lean, 'card_holds'). Laid BY PROGRAM, IN A SANDBOX (cutbox-door.mjs). By AI agents, Wed Nov 11 2026. No macro, syntax, notation, axiom, sorry.
-/
import Derived.Test.YtjpinndnicmokaaDoorRows
import GoSem.ClaimSeven
namespace Go.Proofs.YtjpinndnicmokaaDoor
namespace Rows

/-- THE TIED CARD OF 'cartularylaw15.CommitFormats'. -/
def commitFormatsCard : Claim7 := { stood := { row := commitFormatsRow, standIns := [], harness := (true, "a6296d8949863facfec79054a60c2055f60d2bc1d11b19064ba4ef44edaee564"), looks := true }, kinds := [], alts := [], laidByText := true, laidKinds := [.data, .data, .data, .sentinel, .sentinel], laidTests := true, laidLooks := .later }
def CommitFormatsCardSaid : Prop := Claim7.holds Tryd.pinned (.plain (OpenSpec.ofChange commitFormatsSpec)) commitFormatsCard

/-- THE TIED CARD OF 'cartularylaw15.CommitReads'. -/
def commitReadsCard : Claim7 := { stood := { row := commitReadsRow, standIns := [], harness := (true, "a6296d8949863facfec79054a60c2055f60d2bc1d11b19064ba4ef44edaee564"), looks := true }, kinds := [], alts := [], laidByText := true, laidKinds := [.data, .data, .data, .sentinel, .sentinel], laidTests := true, laidLooks := .later }
def CommitReadsCardSaid : Prop := Claim7.holds Tryd.pinned (.plain (OpenSpec.ofChange commitReadsSpec)) commitReadsCard

/-- THE TIED CARD OF 'cartularylaw15.CommitSigns'. -/
def commitSignsCard : Claim7 := { stood := { row := commitSignsRow, standIns := [], harness := (true, "a6296d8949863facfec79054a60c2055f60d2bc1d11b19064ba4ef44edaee564"), looks := true }, kinds := [], alts := [], laidByText := true, laidKinds := [.data, .data, .data, .sentinel, .sentinel], laidTests := true, laidLooks := .later }
def CommitSignsCardSaid : Prop := Claim7.holds Tryd.pinned (.plain (OpenSpec.ofChange commitSignsSpec)) commitSignsCard

/-- THE TIED CARD OF 'cartularylaw15.CommitMessages'. -/
def commitMessagesCard : Claim7 := { stood := { row := commitMessagesRow, standIns := [], harness := (true, "a6296d8949863facfec79054a60c2055f60d2bc1d11b19064ba4ef44edaee564"), looks := true }, kinds := [], alts := [], laidByText := true, laidKinds := [.data, .data, .data, .sentinel, .sentinel], laidTests := true, laidLooks := .later }
def CommitMessagesCardSaid : Prop := Claim7.holds Tryd.pinned (.plain (OpenSpec.ofChange commitMessagesSpec)) commitMessagesCard

/-- THE TIED CARD OF 'cartularylaw15.CommitTags'. -/
def commitTagsCard : Claim7 := { stood := { row := commitTagsRow, standIns := [], harness := (true, "a6296d8949863facfec79054a60c2055f60d2bc1d11b19064ba4ef44edaee564"), looks := true }, kinds := [], alts := [], laidByText := true, laidKinds := [.data, .data, .data, .sentinel, .sentinel], laidTests := true, laidLooks := .later }
def CommitTagsCardSaid : Prop := Claim7.holds Tryd.pinned (.plain (OpenSpec.ofChange commitTagsSpec)) commitTagsCard

/-- THE TIED CARD OF 'cartularylaw15.CommitApart'. -/
def commitApartCard : Claim7 := { stood := { row := commitApartRow, standIns := [], harness := (true, "a6296d8949863facfec79054a60c2055f60d2bc1d11b19064ba4ef44edaee564"), looks := true }, kinds := [], alts := [], laidByText := true, laidKinds := [.data, .data, .data, .sentinel, .sentinel], laidTests := true, laidLooks := .later }
def CommitApartCardSaid : Prop := Claim7.holds Tryd.pinned (.plain (OpenSpec.ofChange commitApartSpec)) commitApartCard

/-- THE SECOND FORM's CARD OF 'cartularylaw15.CommitFormats'. -/
def commitFormatsUptoCard : Claim7 := { stood := { row := commitFormatsUptoRow, standIns := [], harness := (true, "a6296d8949863facfec79054a60c2055f60d2bc1d11b19064ba4ef44edaee564"), looks := true }, kinds := [], alts := [], laidByText := true, laidKinds := [.data, .data, .data, .sentinel, .sentinel], laidTests := true, laidLooks := .later }
def CommitFormatsUptoCardSaid : Prop := Claim7.holds Tryd.pinned (.plain (OpenSpec.upto commitFormatsSpec)) commitFormatsUptoCard

/-- THE SECOND FORM's CARD OF 'cartularylaw15.CommitReads'. -/
def commitReadsUptoCard : Claim7 := { stood := { row := commitReadsUptoRow, standIns := [], harness := (true, "a6296d8949863facfec79054a60c2055f60d2bc1d11b19064ba4ef44edaee564"), looks := true }, kinds := [], alts := [], laidByText := true, laidKinds := [.data, .data, .data, .sentinel, .sentinel], laidTests := true, laidLooks := .later }
def CommitReadsUptoCardSaid : Prop := Claim7.holds Tryd.pinned (.plain (OpenSpec.upto commitReadsSpec)) commitReadsUptoCard

/-- THE SECOND FORM's CARD OF 'cartularylaw15.CommitSigns'. -/
def commitSignsUptoCard : Claim7 := { stood := { row := commitSignsUptoRow, standIns := [], harness := (true, "a6296d8949863facfec79054a60c2055f60d2bc1d11b19064ba4ef44edaee564"), looks := true }, kinds := [], alts := [], laidByText := true, laidKinds := [.data, .data, .data, .sentinel, .sentinel], laidTests := true, laidLooks := .later }
def CommitSignsUptoCardSaid : Prop := Claim7.holds Tryd.pinned (.plain (OpenSpec.upto commitSignsSpec)) commitSignsUptoCard

/-- THE SECOND FORM's CARD OF 'cartularylaw15.CommitMessages'. -/
def commitMessagesUptoCard : Claim7 := { stood := { row := commitMessagesUptoRow, standIns := [], harness := (true, "a6296d8949863facfec79054a60c2055f60d2bc1d11b19064ba4ef44edaee564"), looks := true }, kinds := [], alts := [], laidByText := true, laidKinds := [.data, .data, .data, .sentinel, .sentinel], laidTests := true, laidLooks := .later }
def CommitMessagesUptoCardSaid : Prop := Claim7.holds Tryd.pinned (.plain (OpenSpec.upto commitMessagesSpec)) commitMessagesUptoCard

/-- THE SECOND FORM's CARD OF 'cartularylaw15.CommitTags'. -/
def commitTagsUptoCard : Claim7 := { stood := { row := commitTagsUptoRow, standIns := [], harness := (true, "a6296d8949863facfec79054a60c2055f60d2bc1d11b19064ba4ef44edaee564"), looks := true }, kinds := [], alts := [], laidByText := true, laidKinds := [.data, .data, .data, .sentinel, .sentinel], laidTests := true, laidLooks := .later }
def CommitTagsUptoCardSaid : Prop := Claim7.holds Tryd.pinned (.plain (OpenSpec.upto commitTagsSpec)) commitTagsUptoCard

/-- THE SECOND FORM's CARD OF 'cartularylaw15.CommitApart'. -/
def commitApartUptoCard : Claim7 := { stood := { row := commitApartUptoRow, standIns := [], harness := (true, "a6296d8949863facfec79054a60c2055f60d2bc1d11b19064ba4ef44edaee564"), looks := true }, kinds := [], alts := [], laidByText := true, laidKinds := [.data, .data, .data, .sentinel, .sentinel], laidTests := true, laidLooks := .later }
def CommitApartUptoCardSaid : Prop := Claim7.holds Tryd.pinned (.plain (OpenSpec.upto commitApartSpec)) commitApartUptoCard
end Rows
end Go.Proofs.YtjpinndnicmokaaDoor
