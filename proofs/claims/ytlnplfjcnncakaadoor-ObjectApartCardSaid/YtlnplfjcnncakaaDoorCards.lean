/-
  DERIVED. GIVEN WITH THE SEED: THE CARDS: each row of YtlnplfjcnncakaaDoorRows.lean that lists a variable, with what it lists TIED to the program's text (the seventh form; the later family's looks); each row that meets fmt, with fmt's text TOLD by the authors' own Lean function (tested against real Go, not proved from fmt's source: count such statements apart). THE CARD IS WHAT COUNTS. Prove the row's statement (the work); the ties are given (YtlnplfjcnncakaaDoorTie.lean); close each card by the builder's one call (the guide's Derived/Test/ToyasCard.lean, 'card_holds'). Laid BY PROGRAM, IN A SANDBOX (cutbox-door.mjs). By AI agents, Wed Nov 11 2026. No macro, syntax, notation, axiom, sorry.
-/
import Derived.Test.YtlnplfjcnncakaaDoorRows
import GoSem.ClaimSeven
namespace Go.Proofs.YtlnplfjcnncakaaDoor
namespace Rows

/-- THE TIED CARD OF 'cartularylaw08.ObjectNumbers'. -/
def objectNumbersCard : Claim7 := { stood := { row := objectNumbersRow, standIns := [], harness := (true, "94e85059efd9c0a0abf2af8d237088daa78fd2f7be90edd5b831415ca2331ec5"), looks := true }, kinds := [], alts := [], laidByText := true, laidKinds := [.data, .data, .data, .sentinel, .sentinel], laidTests := true, laidLooks := .later }
def ObjectNumbersCardSaid : Prop := Claim7.holds Tryd.pinned (.plain (OpenSpec.ofChange objectNumbersSpec)) objectNumbersCard

/-- THE TIED CARD OF 'cartularylaw08.ObjectTexts'. -/
def objectTextsCard : Claim7 := { stood := { row := objectTextsRow, standIns := [], harness := (true, "94e85059efd9c0a0abf2af8d237088daa78fd2f7be90edd5b831415ca2331ec5"), looks := true }, kinds := [], alts := [], laidByText := true, laidKinds := [.data, .data, .data, .sentinel, .sentinel], laidTests := true, laidLooks := .later }
def ObjectTextsCardSaid : Prop := Claim7.holds Tryd.pinned (.plain (OpenSpec.ofChange objectTextsSpec)) objectTextsCard

/-- THE TIED CARD OF 'cartularylaw08.ObjectReads'. -/
def objectReadsCard : Claim7 := { stood := { row := objectReadsRow, standIns := [], harness := (true, "94e85059efd9c0a0abf2af8d237088daa78fd2f7be90edd5b831415ca2331ec5"), looks := true }, kinds := [], alts := [], laidByText := true, laidKinds := [.data, .data, .data, .sentinel, .sentinel], laidTests := true, laidLooks := .later }
def ObjectReadsCardSaid : Prop := Claim7.holds Tryd.pinned (.plain (OpenSpec.ofChange objectReadsSpec)) objectReadsCard

/-- THE TIED CARD OF 'cartularylaw08.ObjectApart'. -/
def objectApartCard : Claim7 := { stood := { row := objectApartRow, standIns := [], harness := (true, "94e85059efd9c0a0abf2af8d237088daa78fd2f7be90edd5b831415ca2331ec5"), looks := true }, kinds := [], alts := [], laidByText := true, laidKinds := [.data, .data, .data, .sentinel, .sentinel], laidTests := true, laidLooks := .later }
def ObjectApartCardSaid : Prop := Claim7.holds Tryd.pinned (.plain (OpenSpec.ofChange objectApartSpec)) objectApartCard

/-- THE SECOND FORM's CARD OF 'cartularylaw08.ObjectNumbers'. -/
def objectNumbersUptoCard : Claim7 := { stood := { row := objectNumbersUptoRow, standIns := [], harness := (true, "94e85059efd9c0a0abf2af8d237088daa78fd2f7be90edd5b831415ca2331ec5"), looks := true }, kinds := [], alts := [], laidByText := true, laidKinds := [.data, .data, .data, .sentinel, .sentinel], laidTests := true, laidLooks := .later }
def ObjectNumbersUptoCardSaid : Prop := Claim7.holds Tryd.pinned (.plain (OpenSpec.upto objectNumbersSpec)) objectNumbersUptoCard

/-- THE SECOND FORM's CARD OF 'cartularylaw08.ObjectTexts'. -/
def objectTextsUptoCard : Claim7 := { stood := { row := objectTextsUptoRow, standIns := [], harness := (true, "94e85059efd9c0a0abf2af8d237088daa78fd2f7be90edd5b831415ca2331ec5"), looks := true }, kinds := [], alts := [], laidByText := true, laidKinds := [.data, .data, .data, .sentinel, .sentinel], laidTests := true, laidLooks := .later }
def ObjectTextsUptoCardSaid : Prop := Claim7.holds Tryd.pinned (.plain (OpenSpec.upto objectTextsSpec)) objectTextsUptoCard

/-- THE SECOND FORM's CARD OF 'cartularylaw08.ObjectReads'. -/
def objectReadsUptoCard : Claim7 := { stood := { row := objectReadsUptoRow, standIns := [], harness := (true, "94e85059efd9c0a0abf2af8d237088daa78fd2f7be90edd5b831415ca2331ec5"), looks := true }, kinds := [], alts := [], laidByText := true, laidKinds := [.data, .data, .data, .sentinel, .sentinel], laidTests := true, laidLooks := .later }
def ObjectReadsUptoCardSaid : Prop := Claim7.holds Tryd.pinned (.plain (OpenSpec.upto objectReadsSpec)) objectReadsUptoCard

/-- THE SECOND FORM's CARD OF 'cartularylaw08.ObjectApart'. -/
def objectApartUptoCard : Claim7 := { stood := { row := objectApartUptoRow, standIns := [], harness := (true, "94e85059efd9c0a0abf2af8d237088daa78fd2f7be90edd5b831415ca2331ec5"), looks := true }, kinds := [], alts := [], laidByText := true, laidKinds := [.data, .data, .data, .sentinel, .sentinel], laidTests := true, laidLooks := .later }
def ObjectApartUptoCardSaid : Prop := Claim7.holds Tryd.pinned (.plain (OpenSpec.upto objectApartSpec)) objectApartUptoCard
end Rows
end Go.Proofs.YtlnplfjcnncakaaDoor
