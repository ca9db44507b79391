/-
  DERIVED. GIVEN WITH THE SEED: THE CARDS: each row of YtjkclhbckfkeeaaGreatDoorRows.lean that lists a variable, with what it lists TIED to the program's text (the seventh form; the later family's looks); each row that meets fmt, with fmt's text TOLD by the authors' own Lean function (tested against real Go, not proved from fmt's source: count such statements apart). THE CARD IS WHAT COUNTS. Prove the row's statement (the work); the ties are given (YtjkclhbckfkeeaaGreatDoorTie.lean); close each card by the builder's one call (the guide's Derived/Test/ToyasCard.lean, 'card_holds'). Laid BY PROGRAM, IN A SANDBOX (cutbox-door.mjs). By AI agents, Wed Nov 11 2026. No macro, syntax, notation, axiom, sorry.
-/
import Derived.Test.YtjkclhbckfkeeaaGreatDoorRows
import GoSem.ClaimSeven
namespace Go.Proofs.YtjkclhbckfkeeaaGreatDoor
namespace Rows

/-- THE TIED CARD OF 'airlinetop.TopRefunds'. -/
def topRefundsCard : Claim7 := { stood := { row := topRefundsRow, standIns := [], harness := (true, "4029b172c7ecd9392ab9353fef816e4f6ae9b1d601a00d781e654521e355b2c5"), looks := false }, kinds := [], alts := [], laidByText := true, laidKinds := [.data], laidTests := true, laidLooks := .later }
def TopRefundsCardSaid : Prop := Claim7.holds Tryz.pinned (.plain (OpenSpec.ofChange topRefundsSpec)) topRefundsCard

/-- THE TIED CARD OF 'airlinelaw40.IssueTickets'. -/
def issueTicketsCard : Claim7 := { stood := { row := issueTicketsRow, standIns := [], harness := (true, "4029b172c7ecd9392ab9353fef816e4f6ae9b1d601a00d781e654521e355b2c5"), looks := false }, kinds := [], alts := [], laidByText := true, laidKinds := [.data, .data, .data, .data, .pinned], laidTests := true, laidLooks := .later }
def IssueTicketsCardSaid : Prop := Claim7.holds Tryz.pinned (.plain (OpenSpec.ofChange issueTicketsSpec)) issueTicketsCard

/-- THE TIED CARD OF 'airlinelaw40.IssueSound'. -/
def issueSoundCard : Claim7 := { stood := { row := issueSoundRow, standIns := [], harness := (true, "4029b172c7ecd9392ab9353fef816e4f6ae9b1d601a00d781e654521e355b2c5"), looks := false }, kinds := [], alts := [], laidByText := true, laidKinds := [.data, .data, .data, .data, .pinned], laidTests := true, laidLooks := .later }
def IssueSoundCardSaid : Prop := Claim7.holds Tryz.pinned (.plain (OpenSpec.ofChange issueSoundSpec)) issueSoundCard

/-- THE SECOND FORM's CARD OF 'airlinetop.TopRefunds'. -/
def topRefundsUptoCard : Claim7 := { stood := { row := topRefundsUptoRow, standIns := [], harness := (true, "4029b172c7ecd9392ab9353fef816e4f6ae9b1d601a00d781e654521e355b2c5"), looks := false }, kinds := [], alts := [], laidByText := true, laidKinds := [.data], laidTests := true, laidLooks := .later }
def TopRefundsUptoCardSaid : Prop := Claim7.holds Tryz.pinned (.plain (OpenSpec.upto topRefundsSpec)) topRefundsUptoCard

/-- THE SECOND FORM's CARD OF 'airlinelaw40.IssueTickets'. -/
def issueTicketsUptoCard : Claim7 := { stood := { row := issueTicketsUptoRow, standIns := [], harness := (true, "4029b172c7ecd9392ab9353fef816e4f6ae9b1d601a00d781e654521e355b2c5"), looks := false }, kinds := [], alts := [], laidByText := true, laidKinds := [.data, .data, .data, .data, .pinned], laidTests := true, laidLooks := .later }
def IssueTicketsUptoCardSaid : Prop := Claim7.holds Tryz.pinned (.plain (OpenSpec.upto issueTicketsSpec)) issueTicketsUptoCard

/-- THE SECOND FORM's CARD OF 'airlinelaw40.IssueSound'. -/
def issueSoundUptoCard : Claim7 := { stood := { row := issueSoundUptoRow, standIns := [], harness := (true, "4029b172c7ecd9392ab9353fef816e4f6ae9b1d601a00d781e654521e355b2c5"), looks := false }, kinds := [], alts := [], laidByText := true, laidKinds := [.data, .data, .data, .data, .pinned], laidTests := true, laidLooks := .later }
def IssueSoundUptoCardSaid : Prop := Claim7.holds Tryz.pinned (.plain (OpenSpec.upto issueSoundSpec)) issueSoundUptoCard
end Rows
end Go.Proofs.YtjkclhbckfkeeaaGreatDoor
