/-
  DERIVED. GIVEN WITH THE SEED: THE CARDS: each row of YtgkcbhdpenmogaaDoorRows.lean that lists a variable, with what it lists TIED to the program's text (the seventh form; the later family's looks); each row that meets fmt, with fmt's text TOLD by the authors' own Lean function (tested against real Go, not proved from fmt's source: count such statements apart). THE CARD IS WHAT COUNTS. Prove the row's statement (the work); the ties are given (YtgkcbhdpenmogaaDoorTie.lean); close each card by the builder's one call (the guide's Derived/Test/ToyasCard.lean, 'card_holds'). Laid BY PROGRAM, IN A SANDBOX (cutbox-door.mjs). By AI agents, Wed Nov 11 2026. No macro, syntax, notation, axiom, sorry.
-/
import Derived.Test.YtgkcbhdpenmogaaDoorRows
import GoSem.ClaimSeven
namespace Go.Proofs.YtgkcbhdpenmogaaDoor
namespace Rows

/-- THE TIED CARD OF 'cartularylaw21.PseudoReads'. -/
def pseudoReadsCard : Claim7 := { stood := { row := pseudoReadsRow, standIns := [], harness := (true, "3d364ce9deee5d9de39e5495417f3e1ad255b71f30c0d83894ce01b81f277c80"), looks := false }, kinds := [], alts := [], laidByText := true, laidKinds := [.data, .data, .data, .data, .pinned], laidTests := true, laidLooks := .later }
def PseudoReadsCardSaid : Prop := Claim7.holds Tryd.pinned (.plain (OpenSpec.ofChange pseudoReadsSpec)) pseudoReadsCard

/-- THE TIED CARD OF 'cartularylaw21.PseudoBetween'. -/
def pseudoBetweenCard : Claim7 := { stood := { row := pseudoBetweenRow, standIns := [], harness := (true, "3d364ce9deee5d9de39e5495417f3e1ad255b71f30c0d83894ce01b81f277c80"), looks := false }, kinds := [], alts := [], laidByText := true, laidKinds := [.data, .data, .data, .data, .pinned], laidTests := true, laidLooks := .later }
def PseudoBetweenCardSaid : Prop := Claim7.holds Tryd.pinned (.plain (OpenSpec.ofChange pseudoBetweenSpec)) pseudoBetweenCard

/-- THE TIED CARD OF 'cartularylaw21.PseudoPlain'. -/
def pseudoPlainCard : Claim7 := { stood := { row := pseudoPlainRow, standIns := [], harness := (true, "3d364ce9deee5d9de39e5495417f3e1ad255b71f30c0d83894ce01b81f277c80"), looks := false }, kinds := [], alts := [], laidByText := true, laidKinds := [.data, .data, .data, .data, .pinned], laidTests := true, laidLooks := .later }
def PseudoPlainCardSaid : Prop := Claim7.holds Tryd.pinned (.plain (OpenSpec.ofChange pseudoPlainSpec)) pseudoPlainCard

/-- THE SECOND FORM's CARD OF 'cartularylaw21.PseudoReads'. -/
def pseudoReadsUptoCard : Claim7 := { stood := { row := pseudoReadsUptoRow, standIns := [], harness := (true, "3d364ce9deee5d9de39e5495417f3e1ad255b71f30c0d83894ce01b81f277c80"), looks := false }, kinds := [], alts := [], laidByText := true, laidKinds := [.data, .data, .data, .data, .pinned], laidTests := true, laidLooks := .later }
def PseudoReadsUptoCardSaid : Prop := Claim7.holds Tryd.pinned (.plain (OpenSpec.upto pseudoReadsSpec)) pseudoReadsUptoCard

/-- THE SECOND FORM's CARD OF 'cartularylaw21.PseudoBetween'. -/
def pseudoBetweenUptoCard : Claim7 := { stood := { row := pseudoBetweenUptoRow, standIns := [], harness := (true, "3d364ce9deee5d9de39e5495417f3e1ad255b71f30c0d83894ce01b81f277c80"), looks := false }, kinds := [], alts := [], laidByText := true, laidKinds := [.data, .data, .data, .data, .pinned], laidTests := true, laidLooks := .later }
def PseudoBetweenUptoCardSaid : Prop := Claim7.holds Tryd.pinned (.plain (OpenSpec.upto pseudoBetweenSpec)) pseudoBetweenUptoCard

/-- THE SECOND FORM's CARD OF 'cartularylaw21.PseudoPlain'. -/
def pseudoPlainUptoCard : Claim7 := { stood := { row := pseudoPlainUptoRow, standIns := [], harness := (true, "3d364ce9deee5d9de39e5495417f3e1ad255b71f30c0d83894ce01b81f277c80"), looks := false }, kinds := [], alts := [], laidByText := true, laidKinds := [.data, .data, .data, .data, .pinned], laidTests := true, laidLooks := .later }
def PseudoPlainUptoCardSaid : Prop := Claim7.holds Tryd.pinned (.plain (OpenSpec.upto pseudoPlainSpec)) pseudoPlainUptoCard
end Rows
end Go.Proofs.YtgkcbhdpenmogaaDoor
