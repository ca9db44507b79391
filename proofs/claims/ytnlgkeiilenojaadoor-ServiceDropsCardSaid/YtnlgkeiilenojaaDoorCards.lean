/-
  DERIVED. GIVEN WITH THE SEED: THE CARDS: each row of YtnlgkeiilenojaaDoorRows.lean that lists a variable, with what it lists TIED to the program's text (the seventh form; the later family's looks); each row that meets fmt, with fmt's text TOLD by the authors' own Lean function (tested against real Go, not proved from fmt's source: count such statements apart). THE CARD IS WHAT COUNTS. Prove the row's statement (the work); the ties are given (YtnlgkeiilenojaaDoorTie.lean); close each card by the builder's one call (the guide's Derived/Test/ToyasCard.lean, 'card_holds'). Laid BY PROGRAM, IN A SANDBOX (cutbox-door.mjs). By AI agents, Wed Nov 11 2026. No macro, syntax, notation, axiom, sorry.
-/
import Derived.Test.YtnlgkeiilenojaaDoorRows
import GoSem.ClaimSeven
namespace Go.Proofs.YtnlgkeiilenojaaDoor
namespace Rows

/-- THE TIED CARD OF 'airlinelaw33.ServiceChecks'. -/
def serviceChecksCard : Claim7 := { stood := { row := serviceChecksRow, standIns := [], harness := (true, "341fce199223dc76b09a19151498d3fbd235e16509e35600a9ab3b5b7b465a09"), looks := false }, kinds := [], alts := [], laidByText := true, laidKinds := [.data, .data, .data], laidTests := true, laidLooks := .later }
def ServiceChecksCardSaid : Prop := Claim7.holds Tryd.pinned (.plain (OpenSpec.ofChange serviceChecksSpec)) serviceChecksCard

/-- THE TIED CARD OF 'airlinelaw33.ServiceAdds'. -/
def serviceAddsCard : Claim7 := { stood := { row := serviceAddsRow, standIns := [], harness := (true, "341fce199223dc76b09a19151498d3fbd235e16509e35600a9ab3b5b7b465a09"), looks := false }, kinds := [], alts := [], laidByText := true, laidKinds := [.data, .data, .data], laidTests := true, laidLooks := .later }
def ServiceAddsCardSaid : Prop := Claim7.holds Tryd.pinned (.plain (OpenSpec.ofChange serviceAddsSpec)) serviceAddsCard

/-- THE TIED CARD OF 'airlinelaw33.ServiceUses'. -/
def serviceUsesCard : Claim7 := { stood := { row := serviceUsesRow, standIns := [], harness := (true, "341fce199223dc76b09a19151498d3fbd235e16509e35600a9ab3b5b7b465a09"), looks := false }, kinds := [], alts := [], laidByText := true, laidKinds := [.data, .data, .data], laidTests := true, laidLooks := .later }
def ServiceUsesCardSaid : Prop := Claim7.holds Tryd.pinned (.plain (OpenSpec.ofChange serviceUsesSpec)) serviceUsesCard

/-- THE TIED CARD OF 'airlinelaw33.ServiceDrops'. -/
def serviceDropsCard : Claim7 := { stood := { row := serviceDropsRow, standIns := [], harness := (true, "341fce199223dc76b09a19151498d3fbd235e16509e35600a9ab3b5b7b465a09"), looks := false }, kinds := [], alts := [], laidByText := true, laidKinds := [.data, .data, .data], laidTests := true, laidLooks := .later }
def ServiceDropsCardSaid : Prop := Claim7.holds Tryd.pinned (.plain (OpenSpec.ofChange serviceDropsSpec)) serviceDropsCard

/-- THE TIED CARD OF 'airlinelaw33.ServiceBack'. -/
def serviceBackCard : Claim7 := { stood := { row := serviceBackRow, standIns := [], harness := (true, "341fce199223dc76b09a19151498d3fbd235e16509e35600a9ab3b5b7b465a09"), looks := false }, kinds := [], alts := [], laidByText := true, laidKinds := [.data, .data, .data], laidTests := true, laidLooks := .later }
def ServiceBackCardSaid : Prop := Claim7.holds Tryd.pinned (.plain (OpenSpec.ofChange serviceBackSpec)) serviceBackCard

/-- THE SECOND FORM's CARD OF 'airlinelaw33.ServiceChecks'. -/
def serviceChecksUptoCard : Claim7 := { stood := { row := serviceChecksUptoRow, standIns := [], harness := (true, "341fce199223dc76b09a19151498d3fbd235e16509e35600a9ab3b5b7b465a09"), looks := false }, kinds := [], alts := [], laidByText := true, laidKinds := [.data, .data, .data], laidTests := true, laidLooks := .later }
def ServiceChecksUptoCardSaid : Prop := Claim7.holds Tryd.pinned (.plain (OpenSpec.upto serviceChecksSpec)) serviceChecksUptoCard

/-- THE SECOND FORM's CARD OF 'airlinelaw33.ServiceAdds'. -/
def serviceAddsUptoCard : Claim7 := { stood := { row := serviceAddsUptoRow, standIns := [], harness := (true, "341fce199223dc76b09a19151498d3fbd235e16509e35600a9ab3b5b7b465a09"), looks := false }, kinds := [], alts := [], laidByText := true, laidKinds := [.data, .data, .data], laidTests := true, laidLooks := .later }
def ServiceAddsUptoCardSaid : Prop := Claim7.holds Tryd.pinned (.plain (OpenSpec.upto serviceAddsSpec)) serviceAddsUptoCard

/-- THE SECOND FORM's CARD OF 'airlinelaw33.ServiceUses'. -/
def serviceUsesUptoCard : Claim7 := { stood := { row := serviceUsesUptoRow, standIns := [], harness := (true, "341fce199223dc76b09a19151498d3fbd235e16509e35600a9ab3b5b7b465a09"), looks := false }, kinds := [], alts := [], laidByText := true, laidKinds := [.data, .data, .data], laidTests := true, laidLooks := .later }
def ServiceUsesUptoCardSaid : Prop := Claim7.holds Tryd.pinned (.plain (OpenSpec.upto serviceUsesSpec)) serviceUsesUptoCard

/-- THE SECOND FORM's CARD OF 'airlinelaw33.ServiceDrops'. -/
def serviceDropsUptoCard : Claim7 := { stood := { row := serviceDropsUptoRow, standIns := [], harness := (true, "341fce199223dc76b09a19151498d3fbd235e16509e35600a9ab3b5b7b465a09"), looks := false }, kinds := [], alts := [], laidByText := true, laidKinds := [.data, .data, .data], laidTests := true, laidLooks := .later }
def ServiceDropsUptoCardSaid : Prop := Claim7.holds Tryd.pinned (.plain (OpenSpec.upto serviceDropsSpec)) serviceDropsUptoCard

/-- THE SECOND FORM's CARD OF 'airlinelaw33.ServiceBack'. -/
def serviceBackUptoCard : Claim7 := { stood := { row := serviceBackUptoRow, standIns := [], harness := (true, "341fce199223dc76b09a19151498d3fbd235e16509e35600a9ab3b5b7b465a09"), looks := false }, kinds := [], alts := [], laidByText := true, laidKinds := [.data, .data, .data], laidTests := true, laidLooks := .later }
def ServiceBackUptoCardSaid : Prop := Claim7.holds Tryd.pinned (.plain (OpenSpec.upto serviceBackSpec)) serviceBackUptoCard
end Rows
end Go.Proofs.YtnlgkeiilenojaaDoor
