/-
  DERIVED. GIVEN WITH THE SEED: THE CARDS: each row of YtcongikpaonliaaDoorRows.lean that lists a variable, with what it lists TIED to the program's text (the seventh form; the later family's looks); each row that meets fmt, with fmt's text TOLD by the authors' own Lean function (tested against real Go, not proved from fmt's source: count such statements apart). THE CARD IS WHAT COUNTS. Prove the row's statement (the work); the ties are given (YtcongikpaonliaaDoorTie.lean); close each card by the builder's one call (the guide's Derived/Test/ToyasCard.lean, 'card_holds'). Laid BY PROGRAM, IN A SANDBOX (cutbox-door.mjs). By AI agents, Wed Nov 11 2026. No macro, syntax, notation, axiom, sorry.
-/
import Derived.Test.YtcongikpaonliaaDoorRows
import GoSem.ClaimSeven
namespace Go.Proofs.YtcongikpaonliaaDoor
namespace Rows

/-- THE TIED CARD OF 'airlinelaw06.PlacesChecks'. -/
def placesChecksCard : Claim7 := { stood := { row := placesChecksRow, standIns := [], harness := (true, "3f62347028535ff915278e497c59c32f7c2e1b663f9d52b97e2ca151e027339a"), looks := false }, kinds := [], alts := [], laidByText := true, laidKinds := [.data, .data, .data], laidTests := true, laidLooks := .later }
def PlacesChecksCardSaid : Prop := Claim7.holds Tryd.pinned (.plain (OpenSpec.ofChange placesChecksSpec)) placesChecksCard

/-- THE TIED CARD OF 'airlinelaw06.PlacesFinds'. -/
def placesFindsCard : Claim7 := { stood := { row := placesFindsRow, standIns := [], harness := (true, "3f62347028535ff915278e497c59c32f7c2e1b663f9d52b97e2ca151e027339a"), looks := false }, kinds := [], alts := [], laidByText := true, laidKinds := [.data, .data, .data], laidTests := true, laidLooks := .later }
def PlacesFindsCardSaid : Prop := Claim7.holds Tryd.pinned (.plain (OpenSpec.ofChange placesFindsSpec)) placesFindsCard

/-- THE TIED CARD OF 'airlinelaw06.PlacesMiles'. -/
def placesMilesCard : Claim7 := { stood := { row := placesMilesRow, standIns := [], harness := (true, "3f62347028535ff915278e497c59c32f7c2e1b663f9d52b97e2ca151e027339a"), looks := false }, kinds := [], alts := [], laidByText := true, laidKinds := [.data, .data, .data], laidTests := true, laidLooks := .later }
def PlacesMilesCardSaid : Prop := Claim7.holds Tryd.pinned (.plain (OpenSpec.ofChange placesMilesSpec)) placesMilesCard

/-- THE TIED CARD OF 'airlinelaw06.PlacesTriangle'. -/
def placesTriangleCard : Claim7 := { stood := { row := placesTriangleRow, standIns := [], harness := (true, "3f62347028535ff915278e497c59c32f7c2e1b663f9d52b97e2ca151e027339a"), looks := false }, kinds := [], alts := [], laidByText := true, laidKinds := [.data, .data, .data], laidTests := true, laidLooks := .later }
def PlacesTriangleCardSaid : Prop := Claim7.holds Tryd.pinned (.plain (OpenSpec.ofChange placesTriangleSpec)) placesTriangleCard

/-- THE TIED CARD OF 'airlinelaw06.PlacesWays'. -/
def placesWaysCard : Claim7 := { stood := { row := placesWaysRow, standIns := [], harness := (true, "3f62347028535ff915278e497c59c32f7c2e1b663f9d52b97e2ca151e027339a"), looks := false }, kinds := [], alts := [], laidByText := true, laidKinds := [.data, .data, .data], laidTests := true, laidLooks := .later }
def PlacesWaysCardSaid : Prop := Claim7.holds Tryd.pinned (.plain (OpenSpec.ofChange placesWaysSpec)) placesWaysCard

/-- THE SECOND FORM's CARD OF 'airlinelaw06.PlacesChecks'. -/
def placesChecksUptoCard : Claim7 := { stood := { row := placesChecksUptoRow, standIns := [], harness := (true, "3f62347028535ff915278e497c59c32f7c2e1b663f9d52b97e2ca151e027339a"), looks := false }, kinds := [], alts := [], laidByText := true, laidKinds := [.data, .data, .data], laidTests := true, laidLooks := .later }
def PlacesChecksUptoCardSaid : Prop := Claim7.holds Tryd.pinned (.plain (OpenSpec.upto placesChecksSpec)) placesChecksUptoCard

/-- THE SECOND FORM's CARD OF 'airlinelaw06.PlacesFinds'. -/
def placesFindsUptoCard : Claim7 := { stood := { row := placesFindsUptoRow, standIns := [], harness := (true, "3f62347028535ff915278e497c59c32f7c2e1b663f9d52b97e2ca151e027339a"), looks := false }, kinds := [], alts := [], laidByText := true, laidKinds := [.data, .data, .data], laidTests := true, laidLooks := .later }
def PlacesFindsUptoCardSaid : Prop := Claim7.holds Tryd.pinned (.plain (OpenSpec.upto placesFindsSpec)) placesFindsUptoCard

/-- THE SECOND FORM's CARD OF 'airlinelaw06.PlacesMiles'. -/
def placesMilesUptoCard : Claim7 := { stood := { row := placesMilesUptoRow, standIns := [], harness := (true, "3f62347028535ff915278e497c59c32f7c2e1b663f9d52b97e2ca151e027339a"), looks := false }, kinds := [], alts := [], laidByText := true, laidKinds := [.data, .data, .data], laidTests := true, laidLooks := .later }
def PlacesMilesUptoCardSaid : Prop := Claim7.holds Tryd.pinned (.plain (OpenSpec.upto placesMilesSpec)) placesMilesUptoCard

/-- THE SECOND FORM's CARD OF 'airlinelaw06.PlacesTriangle'. -/
def placesTriangleUptoCard : Claim7 := { stood := { row := placesTriangleUptoRow, standIns := [], harness := (true, "3f62347028535ff915278e497c59c32f7c2e1b663f9d52b97e2ca151e027339a"), looks := false }, kinds := [], alts := [], laidByText := true, laidKinds := [.data, .data, .data], laidTests := true, laidLooks := .later }
def PlacesTriangleUptoCardSaid : Prop := Claim7.holds Tryd.pinned (.plain (OpenSpec.upto placesTriangleSpec)) placesTriangleUptoCard

/-- THE SECOND FORM's CARD OF 'airlinelaw06.PlacesWays'. -/
def placesWaysUptoCard : Claim7 := { stood := { row := placesWaysUptoRow, standIns := [], harness := (true, "3f62347028535ff915278e497c59c32f7c2e1b663f9d52b97e2ca151e027339a"), looks := false }, kinds := [], alts := [], laidByText := true, laidKinds := [.data, .data, .data], laidTests := true, laidLooks := .later }
def PlacesWaysUptoCardSaid : Prop := Claim7.holds Tryd.pinned (.plain (OpenSpec.upto placesWaysSpec)) placesWaysUptoCard
end Rows
end Go.Proofs.YtcongikpaonliaaDoor
