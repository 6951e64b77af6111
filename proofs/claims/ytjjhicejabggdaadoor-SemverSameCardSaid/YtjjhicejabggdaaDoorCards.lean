/-
  DERIVED. GIVEN WITH THE SEED: THE CARDS: each row of YtjjhicejabggdaaDoorRows.lean that lists a variable, with what it lists TIED to the program's text (the seventh form; the later family's looks); each row that meets fmt, with fmt's text TOLD by the authors' own Lean function (tested against real Go, not proved from fmt's source: count such statements apart). THE CARD IS WHAT COUNTS. Prove the row's statement (the work); the ties are given (YtjjhicejabggdaaDoorTie.lean); close each card by the builder's one call (the guide's Derived/Test/ToyasCard.lean, 'card_holds'). Laid BY PROGRAM, IN A SANDBOX (cutbox-door.mjs). By AI agents, Wed Nov 11 2026. No macro, syntax, notation, axiom, sorry.
-/
import Derived.Test.YtjjhicejabggdaaDoorRows
import GoSem.ClaimSeven
namespace Go.Proofs.YtjjhicejabggdaaDoor
namespace Rows

/-- THE TIED CARD OF 'cartularylaw20.SemverTotal'. -/
def semverTotalCard : Claim7 := { stood := { row := semverTotalRow, standIns := [], harness := (true, "b99658429619b17b29d07d272f0797e8604bfc7e89dd7db76de233c166c92dd4"), looks := false }, kinds := [], alts := [], laidByText := true, laidKinds := [.data, .pinned], laidTests := true, laidLooks := .later }
def SemverTotalCardSaid : Prop := Claim7.holds Tryd.pinned (.plain (OpenSpec.ofChange semverTotalSpec)) semverTotalCard

/-- THE TIED CARD OF 'cartularylaw20.SemverNext'. -/
def semverNextCard : Claim7 := { stood := { row := semverNextRow, standIns := [], harness := (true, "b99658429619b17b29d07d272f0797e8604bfc7e89dd7db76de233c166c92dd4"), looks := false }, kinds := [], alts := [], laidByText := true, laidKinds := [.data, .pinned], laidTests := true, laidLooks := .later }
def SemverNextCardSaid : Prop := Claim7.holds Tryd.pinned (.plain (OpenSpec.ofChange semverNextSpec)) semverNextCard

/-- THE TIED CARD OF 'cartularylaw20.SemverOrders'. -/
def semverOrdersCard : Claim7 := { stood := { row := semverOrdersRow, standIns := [], harness := (true, "b99658429619b17b29d07d272f0797e8604bfc7e89dd7db76de233c166c92dd4"), looks := false }, kinds := [], alts := [], laidByText := true, laidKinds := [.data, .pinned], laidTests := true, laidLooks := .later }
def SemverOrdersCardSaid : Prop := Claim7.holds Tryd.pinned (.plain (OpenSpec.ofChange semverOrdersSpec)) semverOrdersCard

/-- THE TIED CARD OF 'cartularylaw20.SemverParses'. -/
def semverParsesCard : Claim7 := { stood := { row := semverParsesRow, standIns := [], harness := (true, "b99658429619b17b29d07d272f0797e8604bfc7e89dd7db76de233c166c92dd4"), looks := false }, kinds := [], alts := [], laidByText := true, laidKinds := [.data, .pinned], laidTests := true, laidLooks := .later }
def SemverParsesCardSaid : Prop := Claim7.holds Tryd.pinned (.plain (OpenSpec.ofChange semverParsesSpec)) semverParsesCard

/-- THE TIED CARD OF 'cartularylaw20.SemverPlain'. -/
def semverPlainCard : Claim7 := { stood := { row := semverPlainRow, standIns := [], harness := (true, "b99658429619b17b29d07d272f0797e8604bfc7e89dd7db76de233c166c92dd4"), looks := false }, kinds := [], alts := [], laidByText := true, laidKinds := [.data, .pinned], laidTests := true, laidLooks := .later }
def SemverPlainCardSaid : Prop := Claim7.holds Tryd.pinned (.plain (OpenSpec.ofChange semverPlainSpec)) semverPlainCard

/-- THE TIED CARD OF 'cartularylaw20.SemverMajor'. -/
def semverMajorCard : Claim7 := { stood := { row := semverMajorRow, standIns := [], harness := (true, "b99658429619b17b29d07d272f0797e8604bfc7e89dd7db76de233c166c92dd4"), looks := false }, kinds := [], alts := [], laidByText := true, laidKinds := [.data, .pinned], laidTests := true, laidLooks := .later }
def SemverMajorCardSaid : Prop := Claim7.holds Tryd.pinned (.plain (OpenSpec.ofChange semverMajorSpec)) semverMajorCard

/-- THE TIED CARD OF 'cartularylaw20.SemverSorts'. -/
def semverSortsCard : Claim7 := { stood := { row := semverSortsRow, standIns := [], harness := (true, "b99658429619b17b29d07d272f0797e8604bfc7e89dd7db76de233c166c92dd4"), looks := false }, kinds := [], alts := [], laidByText := true, laidKinds := [.data, .pinned], laidTests := true, laidLooks := .later }
def SemverSortsCardSaid : Prop := Claim7.holds Tryd.pinned (.plain (OpenSpec.ofChange semverSortsSpec)) semverSortsCard

/-- THE TIED CARD OF 'cartularylaw20.SemverSame'. -/
def semverSameCard : Claim7 := { stood := { row := semverSameRow, standIns := [], harness := (true, "b99658429619b17b29d07d272f0797e8604bfc7e89dd7db76de233c166c92dd4"), looks := false }, kinds := [], alts := [], laidByText := true, laidKinds := [.data, .pinned], laidTests := true, laidLooks := .later }
def SemverSameCardSaid : Prop := Claim7.holds Tryd.pinned (.plain (OpenSpec.ofChange semverSameSpec)) semverSameCard

/-- THE SECOND FORM's CARD OF 'cartularylaw20.SemverTotal'. -/
def semverTotalUptoCard : Claim7 := { stood := { row := semverTotalUptoRow, standIns := [], harness := (true, "b99658429619b17b29d07d272f0797e8604bfc7e89dd7db76de233c166c92dd4"), looks := false }, kinds := [], alts := [], laidByText := true, laidKinds := [.data, .pinned], laidTests := true, laidLooks := .later }
def SemverTotalUptoCardSaid : Prop := Claim7.holds Tryd.pinned (.plain (OpenSpec.upto semverTotalSpec)) semverTotalUptoCard

/-- THE SECOND FORM's CARD OF 'cartularylaw20.SemverNext'. -/
def semverNextUptoCard : Claim7 := { stood := { row := semverNextUptoRow, standIns := [], harness := (true, "b99658429619b17b29d07d272f0797e8604bfc7e89dd7db76de233c166c92dd4"), looks := false }, kinds := [], alts := [], laidByText := true, laidKinds := [.data, .pinned], laidTests := true, laidLooks := .later }
def SemverNextUptoCardSaid : Prop := Claim7.holds Tryd.pinned (.plain (OpenSpec.upto semverNextSpec)) semverNextUptoCard

/-- THE SECOND FORM's CARD OF 'cartularylaw20.SemverOrders'. -/
def semverOrdersUptoCard : Claim7 := { stood := { row := semverOrdersUptoRow, standIns := [], harness := (true, "b99658429619b17b29d07d272f0797e8604bfc7e89dd7db76de233c166c92dd4"), looks := false }, kinds := [], alts := [], laidByText := true, laidKinds := [.data, .pinned], laidTests := true, laidLooks := .later }
def SemverOrdersUptoCardSaid : Prop := Claim7.holds Tryd.pinned (.plain (OpenSpec.upto semverOrdersSpec)) semverOrdersUptoCard

/-- THE SECOND FORM's CARD OF 'cartularylaw20.SemverParses'. -/
def semverParsesUptoCard : Claim7 := { stood := { row := semverParsesUptoRow, standIns := [], harness := (true, "b99658429619b17b29d07d272f0797e8604bfc7e89dd7db76de233c166c92dd4"), looks := false }, kinds := [], alts := [], laidByText := true, laidKinds := [.data, .pinned], laidTests := true, laidLooks := .later }
def SemverParsesUptoCardSaid : Prop := Claim7.holds Tryd.pinned (.plain (OpenSpec.upto semverParsesSpec)) semverParsesUptoCard

/-- THE SECOND FORM's CARD OF 'cartularylaw20.SemverPlain'. -/
def semverPlainUptoCard : Claim7 := { stood := { row := semverPlainUptoRow, standIns := [], harness := (true, "b99658429619b17b29d07d272f0797e8604bfc7e89dd7db76de233c166c92dd4"), looks := false }, kinds := [], alts := [], laidByText := true, laidKinds := [.data, .pinned], laidTests := true, laidLooks := .later }
def SemverPlainUptoCardSaid : Prop := Claim7.holds Tryd.pinned (.plain (OpenSpec.upto semverPlainSpec)) semverPlainUptoCard

/-- THE SECOND FORM's CARD OF 'cartularylaw20.SemverMajor'. -/
def semverMajorUptoCard : Claim7 := { stood := { row := semverMajorUptoRow, standIns := [], harness := (true, "b99658429619b17b29d07d272f0797e8604bfc7e89dd7db76de233c166c92dd4"), looks := false }, kinds := [], alts := [], laidByText := true, laidKinds := [.data, .pinned], laidTests := true, laidLooks := .later }
def SemverMajorUptoCardSaid : Prop := Claim7.holds Tryd.pinned (.plain (OpenSpec.upto semverMajorSpec)) semverMajorUptoCard

/-- THE SECOND FORM's CARD OF 'cartularylaw20.SemverSorts'. -/
def semverSortsUptoCard : Claim7 := { stood := { row := semverSortsUptoRow, standIns := [], harness := (true, "b99658429619b17b29d07d272f0797e8604bfc7e89dd7db76de233c166c92dd4"), looks := false }, kinds := [], alts := [], laidByText := true, laidKinds := [.data, .pinned], laidTests := true, laidLooks := .later }
def SemverSortsUptoCardSaid : Prop := Claim7.holds Tryd.pinned (.plain (OpenSpec.upto semverSortsSpec)) semverSortsUptoCard

/-- THE SECOND FORM's CARD OF 'cartularylaw20.SemverSame'. -/
def semverSameUptoCard : Claim7 := { stood := { row := semverSameUptoRow, standIns := [], harness := (true, "b99658429619b17b29d07d272f0797e8604bfc7e89dd7db76de233c166c92dd4"), looks := false }, kinds := [], alts := [], laidByText := true, laidKinds := [.data, .pinned], laidTests := true, laidLooks := .later }
def SemverSameUptoCardSaid : Prop := Claim7.holds Tryd.pinned (.plain (OpenSpec.upto semverSameSpec)) semverSameUptoCard
end Rows
end Go.Proofs.YtjjhicejabggdaaDoor
