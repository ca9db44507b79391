/-
  DERIVED. GIVEN WITH THE SEED: THE CARDS: each row of YtbakkdnhbeldcaaDoorRows.lean that lists a variable, with what it lists TIED to the program's text (the seventh form; the later family's looks); each row that meets fmt, with fmt's text TOLD by the authors' own Lean function (tested against real Go, not proved from fmt's source: count such statements apart). THE CARD IS WHAT COUNTS. Prove the row's statement (the work); the ties are given (YtbakkdnhbeldcaaDoorTie.lean); close each card by the builder's one call (the guide's Derived/Test/ToyasCard.lean, 'card_holds'). Laid BY PROGRAM, IN A SANDBOX (cutbox-door.mjs). By AI agents, Wed Nov 11 2026. No macro, syntax, notation, axiom, sorry.
-/
import Derived.Test.YtbakkdnhbeldcaaDoorRows
import GoSem.ClaimSeven
namespace Go.Proofs.YtbakkdnhbeldcaaDoor
namespace Rows

/-- THE TIED CARD OF 'airlinelaw32.PartyChecks'. -/
def partyChecksCard : Claim7 := { stood := { row := partyChecksRow, standIns := [], harness := (true, "9ed1515cfd5e711989ecdfe9c2844388ef1682ed8d3ef28c642b9e80a221e8d6"), looks := false }, kinds := [], alts := [], laidByText := true, laidKinds := [.data, .data, .data, .data, .pinned], laidTests := true, laidLooks := .later }
def PartyChecksCardSaid : Prop := Claim7.holds Tryd.pinned (.plain (OpenSpec.ofChange partyChecksSpec)) partyChecksCard

/-- THE TIED CARD OF 'airlinelaw32.PartySeats'. -/
def partySeatsCard : Claim7 := { stood := { row := partySeatsRow, standIns := [], harness := (true, "9ed1515cfd5e711989ecdfe9c2844388ef1682ed8d3ef28c642b9e80a221e8d6"), looks := false }, kinds := [], alts := [], laidByText := true, laidKinds := [.data, .data, .data, .data, .pinned], laidTests := true, laidLooks := .later }
def PartySeatsCardSaid : Prop := Claim7.holds Tryd.pinned (.plain (OpenSpec.ofChange partySeatsSpec)) partySeatsCard

/-- THE TIED CARD OF 'airlinelaw32.PartyNames'. -/
def partyNamesCard : Claim7 := { stood := { row := partyNamesRow, standIns := [], harness := (true, "9ed1515cfd5e711989ecdfe9c2844388ef1682ed8d3ef28c642b9e80a221e8d6"), looks := false }, kinds := [], alts := [], laidByText := true, laidKinds := [.data, .data, .data, .data, .pinned], laidTests := true, laidLooks := .later }
def PartyNamesCardSaid : Prop := Claim7.holds Tryd.pinned (.plain (OpenSpec.ofChange partyNamesSpec)) partyNamesCard

/-- THE TIED CARD OF 'airlinelaw32.PartySplits'. -/
def partySplitsCard : Claim7 := { stood := { row := partySplitsRow, standIns := [], harness := (true, "9ed1515cfd5e711989ecdfe9c2844388ef1682ed8d3ef28c642b9e80a221e8d6"), looks := false }, kinds := [], alts := [], laidByText := true, laidKinds := [.data, .data, .data, .data, .pinned], laidTests := true, laidLooks := .later }
def PartySplitsCardSaid : Prop := Claim7.holds Tryd.pinned (.plain (OpenSpec.ofChange partySplitsSpec)) partySplitsCard

/-- THE TIED CARD OF 'airlinelaw32.PartyTexts'. -/
def partyTextsCard : Claim7 := { stood := { row := partyTextsRow, standIns := [], harness := (true, "9ed1515cfd5e711989ecdfe9c2844388ef1682ed8d3ef28c642b9e80a221e8d6"), looks := false }, kinds := [], alts := [], laidByText := true, laidKinds := [.data, .data, .data, .data, .pinned], laidTests := true, laidLooks := .later }
def PartyTextsCardSaid : Prop := Claim7.holds Tryd.pinned (.plain (OpenSpec.ofChange partyTextsSpec)) partyTextsCard

/-- THE SECOND FORM's CARD OF 'airlinelaw32.PartyChecks'. -/
def partyChecksUptoCard : Claim7 := { stood := { row := partyChecksUptoRow, standIns := [], harness := (true, "9ed1515cfd5e711989ecdfe9c2844388ef1682ed8d3ef28c642b9e80a221e8d6"), looks := false }, kinds := [], alts := [], laidByText := true, laidKinds := [.data, .data, .data, .data, .pinned], laidTests := true, laidLooks := .later }
def PartyChecksUptoCardSaid : Prop := Claim7.holds Tryd.pinned (.plain (OpenSpec.upto partyChecksSpec)) partyChecksUptoCard

/-- THE SECOND FORM's CARD OF 'airlinelaw32.PartySeats'. -/
def partySeatsUptoCard : Claim7 := { stood := { row := partySeatsUptoRow, standIns := [], harness := (true, "9ed1515cfd5e711989ecdfe9c2844388ef1682ed8d3ef28c642b9e80a221e8d6"), looks := false }, kinds := [], alts := [], laidByText := true, laidKinds := [.data, .data, .data, .data, .pinned], laidTests := true, laidLooks := .later }
def PartySeatsUptoCardSaid : Prop := Claim7.holds Tryd.pinned (.plain (OpenSpec.upto partySeatsSpec)) partySeatsUptoCard

/-- THE SECOND FORM's CARD OF 'airlinelaw32.PartyNames'. -/
def partyNamesUptoCard : Claim7 := { stood := { row := partyNamesUptoRow, standIns := [], harness := (true, "9ed1515cfd5e711989ecdfe9c2844388ef1682ed8d3ef28c642b9e80a221e8d6"), looks := false }, kinds := [], alts := [], laidByText := true, laidKinds := [.data, .data, .data, .data, .pinned], laidTests := true, laidLooks := .later }
def PartyNamesUptoCardSaid : Prop := Claim7.holds Tryd.pinned (.plain (OpenSpec.upto partyNamesSpec)) partyNamesUptoCard

/-- THE SECOND FORM's CARD OF 'airlinelaw32.PartySplits'. -/
def partySplitsUptoCard : Claim7 := { stood := { row := partySplitsUptoRow, standIns := [], harness := (true, "9ed1515cfd5e711989ecdfe9c2844388ef1682ed8d3ef28c642b9e80a221e8d6"), looks := false }, kinds := [], alts := [], laidByText := true, laidKinds := [.data, .data, .data, .data, .pinned], laidTests := true, laidLooks := .later }
def PartySplitsUptoCardSaid : Prop := Claim7.holds Tryd.pinned (.plain (OpenSpec.upto partySplitsSpec)) partySplitsUptoCard

/-- THE SECOND FORM's CARD OF 'airlinelaw32.PartyTexts'. -/
def partyTextsUptoCard : Claim7 := { stood := { row := partyTextsUptoRow, standIns := [], harness := (true, "9ed1515cfd5e711989ecdfe9c2844388ef1682ed8d3ef28c642b9e80a221e8d6"), looks := false }, kinds := [], alts := [], laidByText := true, laidKinds := [.data, .data, .data, .data, .pinned], laidTests := true, laidLooks := .later }
def PartyTextsUptoCardSaid : Prop := Claim7.holds Tryd.pinned (.plain (OpenSpec.upto partyTextsSpec)) partyTextsUptoCard
end Rows
end Go.Proofs.YtbakkdnhbeldcaaDoor
