/-
  DERIVED. GIVEN WITH THE SEED: THE CARDS: each row of YtkeleoneecofhaaDoorRows.lean that lists a variable, with what it lists TIED to the program's text (the seventh form; the later family's looks); each row that meets fmt, with fmt's text TOLD by the authors' own Lean function (tested against real Go, not proved from fmt's source: count such statements apart). THE CARD IS WHAT COUNTS. Prove the row's statement (the work); the ties are given (YtkeleoneecofhaaDoorTie.lean); close each card by the builder's one call (the guide's Derived/Test/ToyasCard.lean, 'card_holds'). Laid BY PROGRAM, IN A SANDBOX (cutbox-door.mjs). By AI agents, Wed Nov 11 2026. No macro, syntax, notation, axiom, sorry.
-/
import Derived.Test.YtkeleoneecofhaaDoorRows
import GoSem.ClaimSeven
namespace Go.Proofs.YtkeleoneecofhaaDoor
namespace Rows

/-- THE TIED CARD OF 'cartularylaw18.GraphPlaces'. -/
def graphPlacesCard : Claim7 := { stood := { row := graphPlacesRow, standIns := [], harness := (true, "55280f5a8765e832fd9124153cae7ab7696eebfe2c412893c163477a4fe46312"), looks := false }, kinds := [], alts := [], laidByText := true, laidKinds := [.data, .pinned], laidTests := true, laidLooks := .later }
def GraphPlacesCardSaid : Prop := Claim7.holds Tryd.pinned (.plain (OpenSpec.ofChange graphPlacesSpec)) graphPlacesCard

/-- THE TIED CARD OF 'cartularylaw18.GraphBusy'. -/
def graphBusyCard : Claim7 := { stood := { row := graphBusyRow, standIns := [], harness := (true, "55280f5a8765e832fd9124153cae7ab7696eebfe2c412893c163477a4fe46312"), looks := false }, kinds := [], alts := [], laidByText := true, laidKinds := [.data, .pinned], laidTests := true, laidLooks := .later }
def GraphBusyCardSaid : Prop := Claim7.holds Tryd.pinned (.plain (OpenSpec.ofChange graphBusySpec)) graphBusyCard

/-- THE TIED CARD OF 'cartularylaw18.GraphWays'. -/
def graphWaysCard : Claim7 := { stood := { row := graphWaysRow, standIns := [], harness := (true, "55280f5a8765e832fd9124153cae7ab7696eebfe2c412893c163477a4fe46312"), looks := false }, kinds := [], alts := [], laidByText := true, laidKinds := [.data, .pinned], laidTests := true, laidLooks := .later }
def GraphWaysCardSaid : Prop := Claim7.holds Tryd.pinned (.plain (OpenSpec.ofChange graphWaysSpec)) graphWaysCard

/-- THE TIED CARD OF 'cartularylaw18.GraphApart'. -/
def graphApartCard : Claim7 := { stood := { row := graphApartRow, standIns := [], harness := (true, "55280f5a8765e832fd9124153cae7ab7696eebfe2c412893c163477a4fe46312"), looks := false }, kinds := [], alts := [], laidByText := true, laidKinds := [.data, .pinned], laidTests := true, laidLooks := .later }
def GraphApartCardSaid : Prop := Claim7.holds Tryd.pinned (.plain (OpenSpec.ofChange graphApartSpec)) graphApartCard

/-- THE SECOND FORM's CARD OF 'cartularylaw18.GraphPlaces'. -/
def graphPlacesUptoCard : Claim7 := { stood := { row := graphPlacesUptoRow, standIns := [], harness := (true, "55280f5a8765e832fd9124153cae7ab7696eebfe2c412893c163477a4fe46312"), looks := false }, kinds := [], alts := [], laidByText := true, laidKinds := [.data, .pinned], laidTests := true, laidLooks := .later }
def GraphPlacesUptoCardSaid : Prop := Claim7.holds Tryd.pinned (.plain (OpenSpec.upto graphPlacesSpec)) graphPlacesUptoCard

/-- THE SECOND FORM's CARD OF 'cartularylaw18.GraphBusy'. -/
def graphBusyUptoCard : Claim7 := { stood := { row := graphBusyUptoRow, standIns := [], harness := (true, "55280f5a8765e832fd9124153cae7ab7696eebfe2c412893c163477a4fe46312"), looks := false }, kinds := [], alts := [], laidByText := true, laidKinds := [.data, .pinned], laidTests := true, laidLooks := .later }
def GraphBusyUptoCardSaid : Prop := Claim7.holds Tryd.pinned (.plain (OpenSpec.upto graphBusySpec)) graphBusyUptoCard

/-- THE SECOND FORM's CARD OF 'cartularylaw18.GraphWays'. -/
def graphWaysUptoCard : Claim7 := { stood := { row := graphWaysUptoRow, standIns := [], harness := (true, "55280f5a8765e832fd9124153cae7ab7696eebfe2c412893c163477a4fe46312"), looks := false }, kinds := [], alts := [], laidByText := true, laidKinds := [.data, .pinned], laidTests := true, laidLooks := .later }
def GraphWaysUptoCardSaid : Prop := Claim7.holds Tryd.pinned (.plain (OpenSpec.upto graphWaysSpec)) graphWaysUptoCard

/-- THE SECOND FORM's CARD OF 'cartularylaw18.GraphApart'. -/
def graphApartUptoCard : Claim7 := { stood := { row := graphApartUptoRow, standIns := [], harness := (true, "55280f5a8765e832fd9124153cae7ab7696eebfe2c412893c163477a4fe46312"), looks := false }, kinds := [], alts := [], laidByText := true, laidKinds := [.data, .pinned], laidTests := true, laidLooks := .later }
def GraphApartUptoCardSaid : Prop := Claim7.holds Tryd.pinned (.plain (OpenSpec.upto graphApartSpec)) graphApartUptoCard
end Rows
end Go.Proofs.YtkeleoneecofhaaDoor
