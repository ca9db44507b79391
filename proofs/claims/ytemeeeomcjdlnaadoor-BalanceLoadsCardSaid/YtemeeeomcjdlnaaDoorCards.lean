/-
  DERIVED. GIVEN WITH THE SEED: THE CARDS: each row of YtemeeeomcjdlnaaDoorRows.lean that lists a variable, with what it lists TIED to the program's text (the seventh form; the later family's looks); each row that meets fmt, with fmt's text TOLD by the authors' own Lean function (tested against real Go, not proved from fmt's source: count such statements apart). THE CARD IS WHAT COUNTS. Prove the row's statement (the work); the ties are given (YtemeeeomcjdlnaaDoorTie.lean); close each card by the builder's one call (the guide's Derived/Test/ToyasCard.lean, 'card_holds'). Laid BY PROGRAM, IN A SANDBOX (cutbox-door.mjs). By AI agents, Wed Nov 11 2026. No macro, syntax, notation, axiom, sorry.
-/
import Derived.Test.YtemeeeomcjdlnaaDoorRows
import GoSem.ClaimSeven
namespace Go.Proofs.YtemeeeomcjdlnaaDoor
namespace Rows

/-- THE TIED CARD OF 'airlinelaw49.BalanceChecks'. -/
def balanceChecksCard : Claim7 := { stood := { row := balanceChecksRow, standIns := [], harness := (true, "ad6017db95dbbd45d98ae905a018cabfd7face8d10b813a099ac471806ed1c77"), looks := false }, kinds := [], alts := [], laidByText := true, laidKinds := [.data, .data, .data], laidTests := true, laidLooks := .later }
def BalanceChecksCardSaid : Prop := Claim7.holds Tryd.pinned (.plain (OpenSpec.ofChange balanceChecksSpec)) balanceChecksCard

/-- THE TIED CARD OF 'airlinelaw49.BalanceFits'. -/
def balanceFitsCard : Claim7 := { stood := { row := balanceFitsRow, standIns := [], harness := (true, "ad6017db95dbbd45d98ae905a018cabfd7face8d10b813a099ac471806ed1c77"), looks := false }, kinds := [], alts := [], laidByText := true, laidKinds := [.data, .data, .data], laidTests := true, laidLooks := .later }
def BalanceFitsCardSaid : Prop := Claim7.holds Tryd.pinned (.plain (OpenSpec.ofChange balanceFitsSpec)) balanceFitsCard

/-- THE TIED CARD OF 'airlinelaw49.BalanceInside'. -/
def balanceInsideCard : Claim7 := { stood := { row := balanceInsideRow, standIns := [], harness := (true, "ad6017db95dbbd45d98ae905a018cabfd7face8d10b813a099ac471806ed1c77"), looks := false }, kinds := [], alts := [], laidByText := true, laidKinds := [.data, .data, .data], laidTests := true, laidLooks := .later }
def BalanceInsideCardSaid : Prop := Claim7.holds Tryd.pinned (.plain (OpenSpec.ofChange balanceInsideSpec)) balanceInsideCard

/-- THE TIED CARD OF 'airlinelaw49.BalanceMiddles'. -/
def balanceMiddlesCard : Claim7 := { stood := { row := balanceMiddlesRow, standIns := [], harness := (true, "ad6017db95dbbd45d98ae905a018cabfd7face8d10b813a099ac471806ed1c77"), looks := false }, kinds := [], alts := [], laidByText := true, laidKinds := [.data, .data, .data], laidTests := true, laidLooks := .later }
def BalanceMiddlesCardSaid : Prop := Claim7.holds Tryd.pinned (.plain (OpenSpec.ofChange balanceMiddlesSpec)) balanceMiddlesCard

/-- THE TIED CARD OF 'airlinelaw49.BalanceLoads'. -/
def balanceLoadsCard : Claim7 := { stood := { row := balanceLoadsRow, standIns := [], harness := (true, "ad6017db95dbbd45d98ae905a018cabfd7face8d10b813a099ac471806ed1c77"), looks := false }, kinds := [], alts := [], laidByText := true, laidKinds := [.data, .data, .data], laidTests := true, laidLooks := .later }
def BalanceLoadsCardSaid : Prop := Claim7.holds Tryd.pinned (.plain (OpenSpec.ofChange balanceLoadsSpec)) balanceLoadsCard

/-- THE SECOND FORM's CARD OF 'airlinelaw49.BalanceChecks'. -/
def balanceChecksUptoCard : Claim7 := { stood := { row := balanceChecksUptoRow, standIns := [], harness := (true, "ad6017db95dbbd45d98ae905a018cabfd7face8d10b813a099ac471806ed1c77"), looks := false }, kinds := [], alts := [], laidByText := true, laidKinds := [.data, .data, .data], laidTests := true, laidLooks := .later }
def BalanceChecksUptoCardSaid : Prop := Claim7.holds Tryd.pinned (.plain (OpenSpec.upto balanceChecksSpec)) balanceChecksUptoCard

/-- THE SECOND FORM's CARD OF 'airlinelaw49.BalanceFits'. -/
def balanceFitsUptoCard : Claim7 := { stood := { row := balanceFitsUptoRow, standIns := [], harness := (true, "ad6017db95dbbd45d98ae905a018cabfd7face8d10b813a099ac471806ed1c77"), looks := false }, kinds := [], alts := [], laidByText := true, laidKinds := [.data, .data, .data], laidTests := true, laidLooks := .later }
def BalanceFitsUptoCardSaid : Prop := Claim7.holds Tryd.pinned (.plain (OpenSpec.upto balanceFitsSpec)) balanceFitsUptoCard

/-- THE SECOND FORM's CARD OF 'airlinelaw49.BalanceInside'. -/
def balanceInsideUptoCard : Claim7 := { stood := { row := balanceInsideUptoRow, standIns := [], harness := (true, "ad6017db95dbbd45d98ae905a018cabfd7face8d10b813a099ac471806ed1c77"), looks := false }, kinds := [], alts := [], laidByText := true, laidKinds := [.data, .data, .data], laidTests := true, laidLooks := .later }
def BalanceInsideUptoCardSaid : Prop := Claim7.holds Tryd.pinned (.plain (OpenSpec.upto balanceInsideSpec)) balanceInsideUptoCard

/-- THE SECOND FORM's CARD OF 'airlinelaw49.BalanceMiddles'. -/
def balanceMiddlesUptoCard : Claim7 := { stood := { row := balanceMiddlesUptoRow, standIns := [], harness := (true, "ad6017db95dbbd45d98ae905a018cabfd7face8d10b813a099ac471806ed1c77"), looks := false }, kinds := [], alts := [], laidByText := true, laidKinds := [.data, .data, .data], laidTests := true, laidLooks := .later }
def BalanceMiddlesUptoCardSaid : Prop := Claim7.holds Tryd.pinned (.plain (OpenSpec.upto balanceMiddlesSpec)) balanceMiddlesUptoCard

/-- THE SECOND FORM's CARD OF 'airlinelaw49.BalanceLoads'. -/
def balanceLoadsUptoCard : Claim7 := { stood := { row := balanceLoadsUptoRow, standIns := [], harness := (true, "ad6017db95dbbd45d98ae905a018cabfd7face8d10b813a099ac471806ed1c77"), looks := false }, kinds := [], alts := [], laidByText := true, laidKinds := [.data, .data, .data], laidTests := true, laidLooks := .later }
def BalanceLoadsUptoCardSaid : Prop := Claim7.holds Tryd.pinned (.plain (OpenSpec.upto balanceLoadsSpec)) balanceLoadsUptoCard
end Rows
end Go.Proofs.YtemeeeomcjdlnaaDoor
