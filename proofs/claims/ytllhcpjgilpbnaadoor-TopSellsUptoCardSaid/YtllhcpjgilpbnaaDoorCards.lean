/-
  DERIVED. GIVEN WITH THE SEED: THE CARDS: each row of YtllhcpjgilpbnaaDoorRows.lean that lists a variable, with what it lists TIED to the program's text (the seventh form; the later family's looks); each row that meets fmt, with fmt's text TOLD by the authors' own Lean function (tested against real Go, not proved from fmt's source: count such statements apart). THE CARD IS WHAT COUNTS. Prove the row's statement (the work); the ties are given (YtllhcpjgilpbnaaDoorTie.lean); close each card by the builder's one call (the guide's Derived/Test/ToyasCard.lean, 'card_holds'). Laid BY PROGRAM, IN A SANDBOX (cutbox-door.mjs). By AI agents, Wed Nov 11 2026. No macro, syntax, notation, axiom, sorry.
-/
import Derived.Test.YtllhcpjgilpbnaaDoorRows
import GoSem.ClaimSeven
namespace Go.Proofs.YtllhcpjgilpbnaaDoor
namespace Rows

/-- THE TIED CARD OF 'airlinetop.TopSells'. -/
def topSellsCard : Claim7 := { stood := { row := topSellsRow, standIns := [], harness := (true, "a9417a9bab077304aeeda9ec5ed1b7592f374ff728107fe0836c81a52ad524b8"), looks := false }, kinds := [], alts := [], laidByText := true, laidKinds := [.data, .data, .data, .data], laidTests := true, laidLooks := .later }
def TopSellsCardSaid : Prop := Claim7.holds Tryd.pinned (.plain (OpenSpec.ofChange topSellsSpec)) topSellsCard

/-- THE SECOND FORM's CARD OF 'airlinetop.TopSells'. -/
def topSellsUptoCard : Claim7 := { stood := { row := topSellsUptoRow, standIns := [], harness := (true, "a9417a9bab077304aeeda9ec5ed1b7592f374ff728107fe0836c81a52ad524b8"), looks := false }, kinds := [], alts := [], laidByText := true, laidKinds := [.data, .data, .data, .data], laidTests := true, laidLooks := .later }
def TopSellsUptoCardSaid : Prop := Claim7.holds Tryd.pinned (.plain (OpenSpec.upto topSellsSpec)) topSellsUptoCard
end Rows
end Go.Proofs.YtllhcpjgilpbnaaDoor
