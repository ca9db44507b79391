/-
  DERIVED. GIVEN WITH THE SEED: THE CARDS: each row of YtailckanpheciaaDoorRows.lean that lists a variable, with what it lists TIED to the program's text (the seventh form; the later family's looks); each row that meets fmt, with fmt's text TOLD by the authors' own Lean function (tested against real Go, not proved from fmt's source: count such statements apart). THE CARD IS WHAT COUNTS. Prove the row's statement (the work); the ties are given (YtailckanpheciaaDoorTie.lean); close each card by the builder's one call (the guide's Derived/Test/ToyasCard.lean, 'card_holds'). Laid BY PROGRAM, IN A SANDBOX (cutbox-door.mjs). By AI agents, Wed Nov 11 2026. No macro, syntax, notation, axiom, sorry.
-/
import Derived.Test.YtailckanpheciaaDoorRows
import GoSem.ClaimSeven
namespace Go.Proofs.YtailckanpheciaaDoor
namespace Rows

/-- THE TIED CARD OF 'airlinelaw27.TaxChecks'. -/
def taxChecksCard : Claim7 := { stood := { row := taxChecksRow, standIns := [], harness := (true, "311ea5babb1f05ddb537e24692332be40ea923304fbde484821efedad26782f0"), looks := false }, kinds := [], alts := [], laidByText := true, laidKinds := [.data, .data, .data], laidTests := true, laidLooks := .later }
def TaxChecksCardSaid : Prop := Claim7.holds Tryd.pinned (.plain (OpenSpec.ofChange taxChecksSpec)) taxChecksCard

/-- THE TIED CARD OF 'airlinelaw27.TaxTimes'. -/
def taxTimesCard : Claim7 := { stood := { row := taxTimesRow, standIns := [], harness := (true, "311ea5babb1f05ddb537e24692332be40ea923304fbde484821efedad26782f0"), looks := false }, kinds := [], alts := [], laidByText := true, laidKinds := [.data, .data, .data], laidTests := true, laidLooks := .later }
def TaxTimesCardSaid : Prop := Claim7.holds Tryd.pinned (.plain (OpenSpec.ofChange taxTimesSpec)) taxTimesCard

/-- THE TIED CARD OF 'airlinelaw27.TaxAmounts'. -/
def taxAmountsCard : Claim7 := { stood := { row := taxAmountsRow, standIns := [], harness := (true, "311ea5babb1f05ddb537e24692332be40ea923304fbde484821efedad26782f0"), looks := false }, kinds := [], alts := [], laidByText := true, laidKinds := [.data, .data, .data], laidTests := true, laidLooks := .later }
def TaxAmountsCardSaid : Prop := Claim7.holds Tryd.pinned (.plain (OpenSpec.ofChange taxAmountsSpec)) taxAmountsCard

/-- THE TIED CARD OF 'airlinelaw27.TaxParts'. -/
def taxPartsCard : Claim7 := { stood := { row := taxPartsRow, standIns := [], harness := (true, "311ea5babb1f05ddb537e24692332be40ea923304fbde484821efedad26782f0"), looks := false }, kinds := [], alts := [], laidByText := true, laidKinds := [.data, .data, .data], laidTests := true, laidLooks := .later }
def TaxPartsCardSaid : Prop := Claim7.holds Tryd.pinned (.plain (OpenSpec.ofChange taxPartsSpec)) taxPartsCard

/-- THE TIED CARD OF 'airlinelaw27.TaxSums'. -/
def taxSumsCard : Claim7 := { stood := { row := taxSumsRow, standIns := [], harness := (true, "311ea5babb1f05ddb537e24692332be40ea923304fbde484821efedad26782f0"), looks := false }, kinds := [], alts := [], laidByText := true, laidKinds := [.data, .data, .data], laidTests := true, laidLooks := .later }
def TaxSumsCardSaid : Prop := Claim7.holds Tryd.pinned (.plain (OpenSpec.ofChange taxSumsSpec)) taxSumsCard

/-- THE SECOND FORM's CARD OF 'airlinelaw27.TaxChecks'. -/
def taxChecksUptoCard : Claim7 := { stood := { row := taxChecksUptoRow, standIns := [], harness := (true, "311ea5babb1f05ddb537e24692332be40ea923304fbde484821efedad26782f0"), looks := false }, kinds := [], alts := [], laidByText := true, laidKinds := [.data, .data, .data], laidTests := true, laidLooks := .later }
def TaxChecksUptoCardSaid : Prop := Claim7.holds Tryd.pinned (.plain (OpenSpec.upto taxChecksSpec)) taxChecksUptoCard

/-- THE SECOND FORM's CARD OF 'airlinelaw27.TaxTimes'. -/
def taxTimesUptoCard : Claim7 := { stood := { row := taxTimesUptoRow, standIns := [], harness := (true, "311ea5babb1f05ddb537e24692332be40ea923304fbde484821efedad26782f0"), looks := false }, kinds := [], alts := [], laidByText := true, laidKinds := [.data, .data, .data], laidTests := true, laidLooks := .later }
def TaxTimesUptoCardSaid : Prop := Claim7.holds Tryd.pinned (.plain (OpenSpec.upto taxTimesSpec)) taxTimesUptoCard

/-- THE SECOND FORM's CARD OF 'airlinelaw27.TaxAmounts'. -/
def taxAmountsUptoCard : Claim7 := { stood := { row := taxAmountsUptoRow, standIns := [], harness := (true, "311ea5babb1f05ddb537e24692332be40ea923304fbde484821efedad26782f0"), looks := false }, kinds := [], alts := [], laidByText := true, laidKinds := [.data, .data, .data], laidTests := true, laidLooks := .later }
def TaxAmountsUptoCardSaid : Prop := Claim7.holds Tryd.pinned (.plain (OpenSpec.upto taxAmountsSpec)) taxAmountsUptoCard

/-- THE SECOND FORM's CARD OF 'airlinelaw27.TaxParts'. -/
def taxPartsUptoCard : Claim7 := { stood := { row := taxPartsUptoRow, standIns := [], harness := (true, "311ea5babb1f05ddb537e24692332be40ea923304fbde484821efedad26782f0"), looks := false }, kinds := [], alts := [], laidByText := true, laidKinds := [.data, .data, .data], laidTests := true, laidLooks := .later }
def TaxPartsUptoCardSaid : Prop := Claim7.holds Tryd.pinned (.plain (OpenSpec.upto taxPartsSpec)) taxPartsUptoCard

/-- THE SECOND FORM's CARD OF 'airlinelaw27.TaxSums'. -/
def taxSumsUptoCard : Claim7 := { stood := { row := taxSumsUptoRow, standIns := [], harness := (true, "311ea5babb1f05ddb537e24692332be40ea923304fbde484821efedad26782f0"), looks := false }, kinds := [], alts := [], laidByText := true, laidKinds := [.data, .data, .data], laidTests := true, laidLooks := .later }
def TaxSumsUptoCardSaid : Prop := Claim7.holds Tryd.pinned (.plain (OpenSpec.upto taxSumsSpec)) taxSumsUptoCard
end Rows
end Go.Proofs.YtailckanpheciaaDoor
