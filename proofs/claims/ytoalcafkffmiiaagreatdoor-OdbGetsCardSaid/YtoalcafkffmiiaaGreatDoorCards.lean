/-
  DERIVED. GIVEN WITH THE SEED: THE CARDS: each row of YtoalcafkffmiiaaGreatDoorRows.lean that lists a variable, with what it lists TIED to the program's text (the seventh form; the later family's looks); each row that meets fmt, with fmt's text TOLD by the authors' own Lean function (tested against real Go, not proved from fmt's source: count such statements apart). THE CARD IS WHAT COUNTS. Prove the row's statement (the work); the ties are given (YtoalcafkffmiiaaGreatDoorTie.lean); close each card by the builder's one call (the guide's Derived/Test/ToyasCard.lean, 'card_holds'). Laid BY PROGRAM, IN A SANDBOX (cutbox-door.mjs). By AI agents, Wed Nov 11 2026. No macro, syntax, notation, axiom, sorry.
-/
import Derived.Test.YtoalcafkffmiiaaGreatDoorRows
import GoSem.ClaimSeven
namespace Go.Proofs.YtoalcafkffmiiaaGreatDoor
namespace Rows

/-- THE TIED CARD OF 'cartularylaw13.OdbSure'. -/
def odbSureCard : Claim7 := { stood := { row := odbSureRow, standIns := [], harness := (true, "9784f588383455bedc2e61d69c973581bcbf62a4944d094e2884c5a2c2191a5b"), looks := true }, kinds := [], alts := [], laidByText := true, laidKinds := [.data, .data, .data, .data, .sentinel, .sentinel, .pinned], laidTests := true, laidLooks := .later }
def OdbSureCardSaid : Prop := Claim7.holds Tryz.pinned (.plain (OpenSpec.ofChange odbSureSpec)) odbSureCard

/-- THE TIED CARD OF 'cartularylaw13.OdbShadows'. -/
def odbShadowsCard : Claim7 := { stood := { row := odbShadowsRow, standIns := [], harness := (true, "9784f588383455bedc2e61d69c973581bcbf62a4944d094e2884c5a2c2191a5b"), looks := true }, kinds := [], alts := [], laidByText := true, laidKinds := [.data, .data, .data, .data, .sentinel, .sentinel, .pinned], laidTests := true, laidLooks := .later }
def OdbShadowsCardSaid : Prop := Claim7.holds Tryz.pinned (.plain (OpenSpec.ofChange odbShadowsSpec)) odbShadowsCard

/-- THE TIED CARD OF 'cartularylaw13.OdbKinds'. -/
def odbKindsCard : Claim7 := { stood := { row := odbKindsRow, standIns := [], harness := (true, "9784f588383455bedc2e61d69c973581bcbf62a4944d094e2884c5a2c2191a5b"), looks := true }, kinds := [], alts := [], laidByText := true, laidKinds := [.data, .data, .data, .data, .sentinel, .sentinel, .pinned], laidTests := true, laidLooks := .later }
def OdbKindsCardSaid : Prop := Claim7.holds Tryz.pinned (.plain (OpenSpec.ofChange odbKindsSpec)) odbKindsCard

/-- THE TIED CARD OF 'cartularylaw13.OdbGets'. -/
def odbGetsCard : Claim7 := { stood := { row := odbGetsRow, standIns := [], harness := (true, "9784f588383455bedc2e61d69c973581bcbf62a4944d094e2884c5a2c2191a5b"), looks := true }, kinds := [], alts := [], laidByText := true, laidKinds := [.data, .data, .data, .data, .sentinel, .sentinel, .pinned], laidTests := true, laidLooks := .later }
def OdbGetsCardSaid : Prop := Claim7.holds Tryz.pinned (.plain (OpenSpec.ofChange odbGetsSpec)) odbGetsCard

/-- THE SECOND FORM's CARD OF 'cartularylaw13.OdbSure'. -/
def odbSureUptoCard : Claim7 := { stood := { row := odbSureUptoRow, standIns := [], harness := (true, "9784f588383455bedc2e61d69c973581bcbf62a4944d094e2884c5a2c2191a5b"), looks := true }, kinds := [], alts := [], laidByText := true, laidKinds := [.data, .data, .data, .data, .sentinel, .sentinel, .pinned], laidTests := true, laidLooks := .later }
def OdbSureUptoCardSaid : Prop := Claim7.holds Tryz.pinned (.plain (OpenSpec.upto odbSureSpec)) odbSureUptoCard

/-- THE SECOND FORM's CARD OF 'cartularylaw13.OdbShadows'. -/
def odbShadowsUptoCard : Claim7 := { stood := { row := odbShadowsUptoRow, standIns := [], harness := (true, "9784f588383455bedc2e61d69c973581bcbf62a4944d094e2884c5a2c2191a5b"), looks := true }, kinds := [], alts := [], laidByText := true, laidKinds := [.data, .data, .data, .data, .sentinel, .sentinel, .pinned], laidTests := true, laidLooks := .later }
def OdbShadowsUptoCardSaid : Prop := Claim7.holds Tryz.pinned (.plain (OpenSpec.upto odbShadowsSpec)) odbShadowsUptoCard

/-- THE SECOND FORM's CARD OF 'cartularylaw13.OdbKinds'. -/
def odbKindsUptoCard : Claim7 := { stood := { row := odbKindsUptoRow, standIns := [], harness := (true, "9784f588383455bedc2e61d69c973581bcbf62a4944d094e2884c5a2c2191a5b"), looks := true }, kinds := [], alts := [], laidByText := true, laidKinds := [.data, .data, .data, .data, .sentinel, .sentinel, .pinned], laidTests := true, laidLooks := .later }
def OdbKindsUptoCardSaid : Prop := Claim7.holds Tryz.pinned (.plain (OpenSpec.upto odbKindsSpec)) odbKindsUptoCard

/-- THE SECOND FORM's CARD OF 'cartularylaw13.OdbGets'. -/
def odbGetsUptoCard : Claim7 := { stood := { row := odbGetsUptoRow, standIns := [], harness := (true, "9784f588383455bedc2e61d69c973581bcbf62a4944d094e2884c5a2c2191a5b"), looks := true }, kinds := [], alts := [], laidByText := true, laidKinds := [.data, .data, .data, .data, .sentinel, .sentinel, .pinned], laidTests := true, laidLooks := .later }
def OdbGetsUptoCardSaid : Prop := Claim7.holds Tryz.pinned (.plain (OpenSpec.upto odbGetsSpec)) odbGetsUptoCard
end Rows
end Go.Proofs.YtoalcafkffmiiaaGreatDoor
