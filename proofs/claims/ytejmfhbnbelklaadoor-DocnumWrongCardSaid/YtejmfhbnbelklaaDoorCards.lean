/-
  DERIVED. GIVEN WITH THE SEED: THE CARDS: each row of YtejmfhbnbelklaaDoorRows.lean that lists a variable, with what it lists TIED to the program's text (the seventh form; the later family's looks); each row that meets fmt, with fmt's text TOLD by the authors' own Lean function (tested against real Go, not proved from fmt's source: count such statements apart). THE CARD IS WHAT COUNTS. Prove the row's statement (the work); the ties are given (YtejmfhbnbelklaaDoorTie.lean); close each card by the builder's one call (the guide's Derived/Test/ToyasCard.lean, 'card_holds'). Laid BY PROGRAM, IN A SANDBOX (cutbox-door.mjs). By AI agents, Wed Nov 11 2026. No macro, syntax, notation, axiom, sorry.
-/
import Derived.Test.YtejmfhbnbelklaaDoorRows
import GoSem.ClaimSeven
namespace Go.Proofs.YtejmfhbnbelklaaDoor
namespace Rows

/-- THE TIED CARD OF 'airlinelaw37.DocnumTexts'. -/
def docnumTextsCard : Claim7 := { stood := { row := docnumTextsRow, standIns := [], harness := (true, "71d63d6ad32e24013dea055213137f738defbe907bce3041b3155ead9c0cac27"), looks := false }, kinds := [], alts := [], laidByText := true, laidKinds := [.data, .data, .data], laidTests := true, laidLooks := .later }
def DocnumTextsCardSaid : Prop := Claim7.holds Tryd.pinned (.plain (OpenSpec.ofChange docnumTextsSpec)) docnumTextsCard

/-- THE TIED CARD OF 'airlinelaw37.DocnumTells'. -/
def docnumTellsCard : Claim7 := { stood := { row := docnumTellsRow, standIns := [], harness := (true, "71d63d6ad32e24013dea055213137f738defbe907bce3041b3155ead9c0cac27"), looks := false }, kinds := [], alts := [], laidByText := true, laidKinds := [.data, .data, .data], laidTests := true, laidLooks := .later }
def DocnumTellsCardSaid : Prop := Claim7.holds Tryd.pinned (.plain (OpenSpec.ofChange docnumTellsSpec)) docnumTellsCard

/-- THE TIED CARD OF 'airlinelaw37.DocnumBack'. -/
def docnumBackCard : Claim7 := { stood := { row := docnumBackRow, standIns := [], harness := (true, "71d63d6ad32e24013dea055213137f738defbe907bce3041b3155ead9c0cac27"), looks := false }, kinds := [], alts := [], laidByText := true, laidKinds := [.data, .data, .data], laidTests := true, laidLooks := .later }
def DocnumBackCardSaid : Prop := Claim7.holds Tryd.pinned (.plain (OpenSpec.ofChange docnumBackSpec)) docnumBackCard

/-- THE TIED CARD OF 'airlinelaw37.DocnumWrong'. -/
def docnumWrongCard : Claim7 := { stood := { row := docnumWrongRow, standIns := [], harness := (true, "71d63d6ad32e24013dea055213137f738defbe907bce3041b3155ead9c0cac27"), looks := false }, kinds := [], alts := [], laidByText := true, laidKinds := [.data, .data, .data], laidTests := true, laidLooks := .later }
def DocnumWrongCardSaid : Prop := Claim7.holds Tryd.pinned (.plain (OpenSpec.ofChange docnumWrongSpec)) docnumWrongCard

/-- THE SECOND FORM's CARD OF 'airlinelaw37.DocnumTexts'. -/
def docnumTextsUptoCard : Claim7 := { stood := { row := docnumTextsUptoRow, standIns := [], harness := (true, "71d63d6ad32e24013dea055213137f738defbe907bce3041b3155ead9c0cac27"), looks := false }, kinds := [], alts := [], laidByText := true, laidKinds := [.data, .data, .data], laidTests := true, laidLooks := .later }
def DocnumTextsUptoCardSaid : Prop := Claim7.holds Tryd.pinned (.plain (OpenSpec.upto docnumTextsSpec)) docnumTextsUptoCard

/-- THE SECOND FORM's CARD OF 'airlinelaw37.DocnumTells'. -/
def docnumTellsUptoCard : Claim7 := { stood := { row := docnumTellsUptoRow, standIns := [], harness := (true, "71d63d6ad32e24013dea055213137f738defbe907bce3041b3155ead9c0cac27"), looks := false }, kinds := [], alts := [], laidByText := true, laidKinds := [.data, .data, .data], laidTests := true, laidLooks := .later }
def DocnumTellsUptoCardSaid : Prop := Claim7.holds Tryd.pinned (.plain (OpenSpec.upto docnumTellsSpec)) docnumTellsUptoCard

/-- THE SECOND FORM's CARD OF 'airlinelaw37.DocnumBack'. -/
def docnumBackUptoCard : Claim7 := { stood := { row := docnumBackUptoRow, standIns := [], harness := (true, "71d63d6ad32e24013dea055213137f738defbe907bce3041b3155ead9c0cac27"), looks := false }, kinds := [], alts := [], laidByText := true, laidKinds := [.data, .data, .data], laidTests := true, laidLooks := .later }
def DocnumBackUptoCardSaid : Prop := Claim7.holds Tryd.pinned (.plain (OpenSpec.upto docnumBackSpec)) docnumBackUptoCard

/-- THE SECOND FORM's CARD OF 'airlinelaw37.DocnumWrong'. -/
def docnumWrongUptoCard : Claim7 := { stood := { row := docnumWrongUptoRow, standIns := [], harness := (true, "71d63d6ad32e24013dea055213137f738defbe907bce3041b3155ead9c0cac27"), looks := false }, kinds := [], alts := [], laidByText := true, laidKinds := [.data, .data, .data], laidTests := true, laidLooks := .later }
def DocnumWrongUptoCardSaid : Prop := Claim7.holds Tryd.pinned (.plain (OpenSpec.upto docnumWrongSpec)) docnumWrongUptoCard
end Rows
end Go.Proofs.YtejmfhbnbelklaaDoor
