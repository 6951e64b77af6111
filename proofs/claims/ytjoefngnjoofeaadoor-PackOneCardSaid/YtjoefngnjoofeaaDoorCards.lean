/-
  DERIVED. GIVEN WITH THE SEED: THE CARDS: each row of YtjoefngnjoofeaaDoorRows.lean that lists a variable, with what it lists TIED to the program's text (the seventh form; the later family's looks); each row that meets fmt, with fmt's text TOLD by the authors' own Lean function (tested against real Go, not proved from fmt's source: count such statements apart). THE CARD IS WHAT COUNTS. Prove the row's statement (the work); the ties are given (YtjoefngnjoofeaaDoorTie.lean); close each card by the builder's one call (the guide's Derived/Test/ToyasCard.lean, 'card_holds'). Laid BY PROGRAM, IN A SANDBOX (cutbox-door.mjs). By AI agents, Wed Nov 11 2026. No macro, syntax, notation, axiom, sorry.
-/
import Derived.Test.YtjoefngnjoofeaaDoorRows
import GoSem.ClaimSeven
namespace Go.Proofs.YtjoefngnjoofeaaDoor
namespace Rows

/-- THE TIED CARD OF 'cartularylaw11.PackOne'. -/
def packOneCard : Claim7 := { stood := { row := packOneRow, standIns := [], harness := (true, "3a43ac3d6b756040280d9647d38b11a9444ce65e34f9ac7807112e0126e345c8"), looks := true }, kinds := [], alts := [], laidByText := true, laidKinds := [.data, .data, .data], laidTests := true, laidLooks := .later }
def PackOneCardSaid : Prop := Claim7.holds Tryd.pinned (.plain (OpenSpec.ofChange packOneSpec)) packOneCard

/-- THE TIED CARD OF 'cartularylaw11.PackSums'. -/
def packSumsCard : Claim7 := { stood := { row := packSumsRow, standIns := [], harness := (true, "3a43ac3d6b756040280d9647d38b11a9444ce65e34f9ac7807112e0126e345c8"), looks := true }, kinds := [], alts := [], laidByText := true, laidKinds := [.data, .data, .data], laidTests := true, laidLooks := .later }
def PackSumsCardSaid : Prop := Claim7.holds Tryd.pinned (.plain (OpenSpec.ofChange packSumsSpec)) packSumsCard

/-- THE TIED CARD OF 'cartularylaw11.PackPlaces'. -/
def packPlacesCard : Claim7 := { stood := { row := packPlacesRow, standIns := [], harness := (true, "3a43ac3d6b756040280d9647d38b11a9444ce65e34f9ac7807112e0126e345c8"), looks := true }, kinds := [], alts := [], laidByText := true, laidKinds := [.data, .data, .data], laidTests := true, laidLooks := .later }
def PackPlacesCardSaid : Prop := Claim7.holds Tryd.pinned (.plain (OpenSpec.ofChange packPlacesSpec)) packPlacesCard

/-- THE SECOND FORM's CARD OF 'cartularylaw11.PackOne'. -/
def packOneUptoCard : Claim7 := { stood := { row := packOneUptoRow, standIns := [], harness := (true, "3a43ac3d6b756040280d9647d38b11a9444ce65e34f9ac7807112e0126e345c8"), looks := true }, kinds := [], alts := [], laidByText := true, laidKinds := [.data, .data, .data], laidTests := true, laidLooks := .later }
def PackOneUptoCardSaid : Prop := Claim7.holds Tryd.pinned (.plain (OpenSpec.upto packOneSpec)) packOneUptoCard

/-- THE SECOND FORM's CARD OF 'cartularylaw11.PackSums'. -/
def packSumsUptoCard : Claim7 := { stood := { row := packSumsUptoRow, standIns := [], harness := (true, "3a43ac3d6b756040280d9647d38b11a9444ce65e34f9ac7807112e0126e345c8"), looks := true }, kinds := [], alts := [], laidByText := true, laidKinds := [.data, .data, .data], laidTests := true, laidLooks := .later }
def PackSumsUptoCardSaid : Prop := Claim7.holds Tryd.pinned (.plain (OpenSpec.upto packSumsSpec)) packSumsUptoCard

/-- THE SECOND FORM's CARD OF 'cartularylaw11.PackPlaces'. -/
def packPlacesUptoCard : Claim7 := { stood := { row := packPlacesUptoRow, standIns := [], harness := (true, "3a43ac3d6b756040280d9647d38b11a9444ce65e34f9ac7807112e0126e345c8"), looks := true }, kinds := [], alts := [], laidByText := true, laidKinds := [.data, .data, .data], laidTests := true, laidLooks := .later }
def PackPlacesUptoCardSaid : Prop := Claim7.holds Tryd.pinned (.plain (OpenSpec.upto packPlacesSpec)) packPlacesUptoCard
end Rows
end Go.Proofs.YtjoefngnjoofeaaDoor
