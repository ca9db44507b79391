/-
  DERIVED. GIVEN WITH THE SEED: THE CARDS: each row of YtkdkjbneohdofaaDoorRows.lean that lists a variable, with what it lists TIED to the program's text (the seventh form; the later family's looks); each row that meets fmt, with fmt's text TOLD by the authors' own Lean function (tested against real Go, not proved from fmt's source: count such statements apart). THE CARD IS WHAT COUNTS. Prove the row's statement (the work); the ties are given (YtkdkjbneohdofaaDoorTie.lean); close each card by the builder's one call (the guide's Derived/Test/ToyasCard.lean, 'card_holds'). Laid BY PROGRAM, IN A SANDBOX (cutbox-door.mjs). By AI agents, Wed Nov 11 2026. No macro, syntax, notation, axiom, sorry.
-/
import Derived.Test.YtkdkjbneohdofaaDoorRows
import GoSem.ClaimSeven
namespace Go.Proofs.YtkdkjbneohdofaaDoor
namespace Rows

/-- THE TIED CARD OF 'airlinetop.TopRevenue'. -/
def topRevenueCard : Claim7 := { stood := { row := topRevenueRow, standIns := [], harness := (true, "f7770d7fab61b02a17f63ce1263809442ae1bcc8474fdac138e96a212c4a3ff2"), looks := false }, kinds := [], alts := [], laidByText := true, laidKinds := [.data], laidTests := true, laidLooks := .later }
def TopRevenueCardSaid : Prop := Claim7.holds Tryd.pinned (.plain (OpenSpec.ofChange topRevenueSpec)) topRevenueCard

/-- THE SECOND FORM's CARD OF 'airlinetop.TopRevenue'. -/
def topRevenueUptoCard : Claim7 := { stood := { row := topRevenueUptoRow, standIns := [], harness := (true, "f7770d7fab61b02a17f63ce1263809442ae1bcc8474fdac138e96a212c4a3ff2"), looks := false }, kinds := [], alts := [], laidByText := true, laidKinds := [.data], laidTests := true, laidLooks := .later }
def TopRevenueUptoCardSaid : Prop := Claim7.holds Tryd.pinned (.plain (OpenSpec.upto topRevenueSpec)) topRevenueUptoCard
end Rows
end Go.Proofs.YtkdkjbneohdofaaDoor
