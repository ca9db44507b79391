/-
  DERIVED. GIVEN WITH THE SEED: THE CARDS: each row of YtffapkiilkeadaaDoorRows.lean that lists a variable, with what it lists TIED to the program's text (the seventh form; the later family's looks); each row that meets fmt, with fmt's text TOLD by the authors' own Lean function (tested against real Go, not proved from fmt's source: count such statements apart). THE CARD IS WHAT COUNTS. Prove the row's statement (the work); the ties are given (YtffapkiilkeadaaDoorTie.lean); close each card by the builder's one call (the guide's Derived/Test/ToyasCard.lean, 'card_holds'). Laid BY PROGRAM, IN A SANDBOX (cutbox-door.mjs). By AI agents, Wed Nov 11 2026. No macro, syntax, notation, axiom, sorry.
-/
import Derived.Test.YtffapkiilkeadaaDoorRows
import GoSem.ClaimSeven
namespace Go.Proofs.YtffapkiilkeadaaDoor
namespace Rows

/-- THE TIED CARD OF 'airlinelaw40.IssueChecks'. -/
def issueChecksCard : Claim7 := { stood := { row := issueChecksRow, standIns := [], harness := (true, "cdafc7b0a7fb8a6eae366a0a719f0e7e81b9080c14a3ad3f4ab1cd3528810265"), looks := false }, kinds := [], alts := [], laidByText := true, laidKinds := [.data, .data, .data, .data, .pinned], laidTests := true, laidLooks := .later }
def IssueChecksCardSaid : Prop := Claim7.holds Tryd.pinned (.plain (OpenSpec.ofChange issueChecksSpec)) issueChecksCard

/-- THE TIED CARD OF 'airlinelaw40.IssueVoids'. -/
def issueVoidsCard : Claim7 := { stood := { row := issueVoidsRow, standIns := [], harness := (true, "cdafc7b0a7fb8a6eae366a0a719f0e7e81b9080c14a3ad3f4ab1cd3528810265"), looks := false }, kinds := [], alts := [], laidByText := true, laidKinds := [.data, .data, .data, .data, .pinned], laidTests := true, laidLooks := .later }
def IssueVoidsCardSaid : Prop := Claim7.holds Tryd.pinned (.plain (OpenSpec.ofChange issueVoidsSpec)) issueVoidsCard

/-- THE TIED CARD OF 'airlinelaw40.IssueSame'. -/
def issueSameCard : Claim7 := { stood := { row := issueSameRow, standIns := [], harness := (true, "cdafc7b0a7fb8a6eae366a0a719f0e7e81b9080c14a3ad3f4ab1cd3528810265"), looks := false }, kinds := [], alts := [], laidByText := true, laidKinds := [.data, .data, .data, .data, .pinned], laidTests := true, laidLooks := .later }
def IssueSameCardSaid : Prop := Claim7.holds Tryd.pinned (.plain (OpenSpec.ofChange issueSameSpec)) issueSameCard

/-- THE SECOND FORM's CARD OF 'airlinelaw40.IssueChecks'. -/
def issueChecksUptoCard : Claim7 := { stood := { row := issueChecksUptoRow, standIns := [], harness := (true, "cdafc7b0a7fb8a6eae366a0a719f0e7e81b9080c14a3ad3f4ab1cd3528810265"), looks := false }, kinds := [], alts := [], laidByText := true, laidKinds := [.data, .data, .data, .data, .pinned], laidTests := true, laidLooks := .later }
def IssueChecksUptoCardSaid : Prop := Claim7.holds Tryd.pinned (.plain (OpenSpec.upto issueChecksSpec)) issueChecksUptoCard

/-- THE SECOND FORM's CARD OF 'airlinelaw40.IssueVoids'. -/
def issueVoidsUptoCard : Claim7 := { stood := { row := issueVoidsUptoRow, standIns := [], harness := (true, "cdafc7b0a7fb8a6eae366a0a719f0e7e81b9080c14a3ad3f4ab1cd3528810265"), looks := false }, kinds := [], alts := [], laidByText := true, laidKinds := [.data, .data, .data, .data, .pinned], laidTests := true, laidLooks := .later }
def IssueVoidsUptoCardSaid : Prop := Claim7.holds Tryd.pinned (.plain (OpenSpec.upto issueVoidsSpec)) issueVoidsUptoCard

/-- THE SECOND FORM's CARD OF 'airlinelaw40.IssueSame'. -/
def issueSameUptoCard : Claim7 := { stood := { row := issueSameUptoRow, standIns := [], harness := (true, "cdafc7b0a7fb8a6eae366a0a719f0e7e81b9080c14a3ad3f4ab1cd3528810265"), looks := false }, kinds := [], alts := [], laidByText := true, laidKinds := [.data, .data, .data, .data, .pinned], laidTests := true, laidLooks := .later }
def IssueSameUptoCardSaid : Prop := Claim7.holds Tryd.pinned (.plain (OpenSpec.upto issueSameSpec)) issueSameUptoCard
end Rows
end Go.Proofs.YtffapkiilkeadaaDoor
