/-
  DERIVED. GIVEN WITH THE SEED: THE CARDS: each row of YtopafipomaiabaaDoorRows.lean that lists a variable, with what it lists TIED to the program's text (the seventh form; the later family's looks); each row that meets fmt, with fmt's text TOLD by the authors' own Lean function (tested against real Go, not proved from fmt's source: count such statements apart). THE CARD IS WHAT COUNTS. Prove the row's statement (the work); the ties are given (YtopafipomaiabaaDoorTie.lean); close each card by the builder's one call (the guide's Derived/Test/ToyasCard.lean, 'card_holds'). Laid BY PROGRAM, IN A SANDBOX (cutbox-door.mjs). By AI agents, Wed Nov 11 2026. No macro, syntax, notation, axiom, sorry.
-/
import Derived.Test.YtopafipomaiabaaDoorRows
import GoSem.ClaimSeven
namespace Go.Proofs.YtopafipomaiabaaDoor
namespace Rows

/-- THE TIED CARD OF 'airlinelaw12.CabinChecks'. -/
def cabinChecksCard : Claim7 := { stood := { row := cabinChecksRow, standIns := [], harness := (true, "9122e44e77880477e718d0c8b8d373123e6fdb711bf6b57f9ce3a6e508c0983a"), looks := false }, kinds := [], alts := [], laidByText := true, laidKinds := [.data, .data, .data], laidTests := true, laidLooks := .later }
def CabinChecksCardSaid : Prop := Claim7.holds Tryd.pinned (.plain (OpenSpec.ofChange cabinChecksSpec)) cabinChecksCard

/-- THE TIED CARD OF 'airlinelaw12.CabinFinds'. -/
def cabinFindsCard : Claim7 := { stood := { row := cabinFindsRow, standIns := [], harness := (true, "9122e44e77880477e718d0c8b8d373123e6fdb711bf6b57f9ce3a6e508c0983a"), looks := false }, kinds := [], alts := [], laidByText := true, laidKinds := [.data, .data, .data], laidTests := true, laidLooks := .later }
def CabinFindsCardSaid : Prop := Claim7.holds Tryd.pinned (.plain (OpenSpec.ofChange cabinFindsSpec)) cabinFindsCard

/-- THE TIED CARD OF 'airlinelaw12.CabinLimits'. -/
def cabinLimitsCard : Claim7 := { stood := { row := cabinLimitsRow, standIns := [], harness := (true, "9122e44e77880477e718d0c8b8d373123e6fdb711bf6b57f9ce3a6e508c0983a"), looks := false }, kinds := [], alts := [], laidByText := true, laidKinds := [.data, .data, .data], laidTests := true, laidLooks := .later }
def CabinLimitsCardSaid : Prop := Claim7.holds Tryd.pinned (.plain (OpenSpec.ofChange cabinLimitsSpec)) cabinLimitsCard

/-- THE TIED CARD OF 'airlinelaw12.CabinLikes'. -/
def cabinLikesCard : Claim7 := { stood := { row := cabinLikesRow, standIns := [], harness := (true, "9122e44e77880477e718d0c8b8d373123e6fdb711bf6b57f9ce3a6e508c0983a"), looks := false }, kinds := [], alts := [], laidByText := true, laidKinds := [.data, .data, .data], laidTests := true, laidLooks := .later }
def CabinLikesCardSaid : Prop := Claim7.holds Tryd.pinned (.plain (OpenSpec.ofChange cabinLikesSpec)) cabinLikesCard

/-- THE SECOND FORM's CARD OF 'airlinelaw12.CabinChecks'. -/
def cabinChecksUptoCard : Claim7 := { stood := { row := cabinChecksUptoRow, standIns := [], harness := (true, "9122e44e77880477e718d0c8b8d373123e6fdb711bf6b57f9ce3a6e508c0983a"), looks := false }, kinds := [], alts := [], laidByText := true, laidKinds := [.data, .data, .data], laidTests := true, laidLooks := .later }
def CabinChecksUptoCardSaid : Prop := Claim7.holds Tryd.pinned (.plain (OpenSpec.upto cabinChecksSpec)) cabinChecksUptoCard

/-- THE SECOND FORM's CARD OF 'airlinelaw12.CabinFinds'. -/
def cabinFindsUptoCard : Claim7 := { stood := { row := cabinFindsUptoRow, standIns := [], harness := (true, "9122e44e77880477e718d0c8b8d373123e6fdb711bf6b57f9ce3a6e508c0983a"), looks := false }, kinds := [], alts := [], laidByText := true, laidKinds := [.data, .data, .data], laidTests := true, laidLooks := .later }
def CabinFindsUptoCardSaid : Prop := Claim7.holds Tryd.pinned (.plain (OpenSpec.upto cabinFindsSpec)) cabinFindsUptoCard

/-- THE SECOND FORM's CARD OF 'airlinelaw12.CabinLimits'. -/
def cabinLimitsUptoCard : Claim7 := { stood := { row := cabinLimitsUptoRow, standIns := [], harness := (true, "9122e44e77880477e718d0c8b8d373123e6fdb711bf6b57f9ce3a6e508c0983a"), looks := false }, kinds := [], alts := [], laidByText := true, laidKinds := [.data, .data, .data], laidTests := true, laidLooks := .later }
def CabinLimitsUptoCardSaid : Prop := Claim7.holds Tryd.pinned (.plain (OpenSpec.upto cabinLimitsSpec)) cabinLimitsUptoCard

/-- THE SECOND FORM's CARD OF 'airlinelaw12.CabinLikes'. -/
def cabinLikesUptoCard : Claim7 := { stood := { row := cabinLikesUptoRow, standIns := [], harness := (true, "9122e44e77880477e718d0c8b8d373123e6fdb711bf6b57f9ce3a6e508c0983a"), looks := false }, kinds := [], alts := [], laidByText := true, laidKinds := [.data, .data, .data], laidTests := true, laidLooks := .later }
def CabinLikesUptoCardSaid : Prop := Claim7.holds Tryd.pinned (.plain (OpenSpec.upto cabinLikesSpec)) cabinLikesUptoCard
end Rows
end Go.Proofs.YtopafipomaiabaaDoor
