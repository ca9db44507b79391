/-
  No cell of these rows narrows 'for every input' (looked for: loops, veiled, ifaces, maps, wideKeys, modest, calm, conditions, laid).
  DERIVED. THE GIVEN ROWS OF THIS SEAT. 5 by the template 'for every input the law returns true; each argument reads behind the call as it read before'; 0 by the template 'total and deterministic' (their statements: YthfmdkpfaehpnaaTotals.lean).
  GIVEN WITH THE SEED: the statements are not yours to turn. If you find one false, say at which input.
  Laid BY PROGRAM, IN A SANDBOX (cutbox-rows.mjs): the forced cells as the released guide's own fill.sh prints them over the translation eefd9d86ba64db17… (all of the seat's roots in one cut). By AI agents, Wed Nov 11 2026. No macro, syntax, notation, axiom, sorry.
-/
import Derived.Test.YthfmdkpfaehpnaaChecked
import GoSem.Claim
import GoSem.ClaimJoined
import GoSem.ClaimMapViews
import Derived.JoinedTies
import Derived.KernelRfl
namespace Go.Proofs.Ythfmdkpfaehpnaa
/- THE CELL 'sum', in the pinned program and in every row, IS THE sha256 OF THE DUMP (.gsa) THAT YthfmdkpfaehpnaaProg.lean LOADS. Nothing in Lean hashes anything: it is a label: what it is worth is what the hold of that sum in a sandbox is worth. -/
noncomputable def Try.pinned : Pinned := { name := "ythfmdkpfaehpnaa", sum := "eefd9d86ba64db17928b822bbd88be3e0aabd2981a1d5ed4ad079343ffe2c4b1", checked := Try.checked }
namespace Rows
def none {H : Type} : Left H := { results := [], args := [] }

/-- 'airlinelaw53.LedgerChecks': WHATEVER THE INPUT: true; the input reads as it did. -/
def ledgerChecksSpec : ChangeSpec := { name := "ledgerChecks", fn := fun _ => fun
  | [d1, d2] => { results := [.lit (.bool true)], args := [d1, d2] }
  | _ => none }
def ledgerChecksRow : OpenClaim := { program := "ythfmdkpfaehpnaa", sum := "eefd9d86ba64db17928b822bbd88be3e0aabd2981a1d5ed4ad079343ffe2c4b1", func := "airline/airlinelaw53.LedgerChecks", spec := "ledgerChecks", unfollowed := true, recurses := true, apart := false }
def LedgerChecksSaid : Prop := ledgerChecksRow.holds Try.pinned (OpenSpec.ofChange ledgerChecksSpec)

/-- ITS FALSE NEIGHBOUR: 'it returns false'. Refute it at one input. -/
def ledgerChecksWrong : ChangeSpec := { name := "ledgerChecks", fn := fun _ => fun
  | [d1, d2] => { results := [.lit (.bool false)], args := [d1, d2] }
  | _ => none }
def LedgerChecksWrongFalsely : Prop := ledgerChecksRow.holds Try.pinned (OpenSpec.ofChange ledgerChecksWrong)

/-- 'airlinelaw53.LedgerRuns': WHATEVER THE INPUT: true; the input reads as it did. -/
def ledgerRunsSpec : ChangeSpec := { name := "ledgerRuns", fn := fun _ => fun
  | [d1, d2, d3, d4] => { results := [.lit (.bool true)], args := [d1, d2, d3, d4] }
  | _ => none }
def ledgerRunsRow : OpenClaim := { program := "ythfmdkpfaehpnaa", sum := "eefd9d86ba64db17928b822bbd88be3e0aabd2981a1d5ed4ad079343ffe2c4b1", func := "airline/airlinelaw53.LedgerRuns", spec := "ledgerRuns", unfollowed := true, recurses := true, apart := false }
def LedgerRunsSaid : Prop := ledgerRunsRow.holds Try.pinned (OpenSpec.ofChange ledgerRunsSpec)

/-- ITS FALSE NEIGHBOUR: 'it returns false'. Refute it at one input. -/
def ledgerRunsWrong : ChangeSpec := { name := "ledgerRuns", fn := fun _ => fun
  | [d1, d2, d3, d4] => { results := [.lit (.bool false)], args := [d1, d2, d3, d4] }
  | _ => none }
def LedgerRunsWrongFalsely : Prop := ledgerRunsRow.holds Try.pinned (OpenSpec.ofChange ledgerRunsWrong)

/-- 'airlinelaw53.LedgerBooks': WHATEVER THE INPUT: true; the input reads as it did. -/
def ledgerBooksSpec : ChangeSpec := { name := "ledgerBooks", fn := fun _ => fun
  | [d] => { results := [.lit (.bool true)], args := [d] }
  | _ => none }
def ledgerBooksRow : OpenClaim := { program := "ythfmdkpfaehpnaa", sum := "eefd9d86ba64db17928b822bbd88be3e0aabd2981a1d5ed4ad079343ffe2c4b1", func := "airline/airlinelaw53.LedgerBooks", spec := "ledgerBooks", unfollowed := true, recurses := true, apart := false }
def LedgerBooksSaid : Prop := ledgerBooksRow.holds Try.pinned (OpenSpec.ofChange ledgerBooksSpec)

/-- ITS FALSE NEIGHBOUR: 'it returns false'. Refute it at one input. -/
def ledgerBooksWrong : ChangeSpec := { name := "ledgerBooks", fn := fun _ => fun
  | [d] => { results := [.lit (.bool false)], args := [d] }
  | _ => none }
def LedgerBooksWrongFalsely : Prop := ledgerBooksRow.holds Try.pinned (OpenSpec.ofChange ledgerBooksWrong)

/-- 'airlinelaw53.LedgerReverse': WHATEVER THE INPUT: true; the input reads as it did. -/
def ledgerReverseSpec : ChangeSpec := { name := "ledgerReverse", fn := fun _ => fun
  | [d1, d2, d3] => { results := [.lit (.bool true)], args := [d1, d2, d3] }
  | _ => none }
def ledgerReverseRow : OpenClaim := { program := "ythfmdkpfaehpnaa", sum := "eefd9d86ba64db17928b822bbd88be3e0aabd2981a1d5ed4ad079343ffe2c4b1", func := "airline/airlinelaw53.LedgerReverse", spec := "ledgerReverse", unfollowed := true, recurses := true, apart := false }
def LedgerReverseSaid : Prop := ledgerReverseRow.holds Try.pinned (OpenSpec.ofChange ledgerReverseSpec)

/-- ITS FALSE NEIGHBOUR: 'it returns false'. Refute it at one input. -/
def ledgerReverseWrong : ChangeSpec := { name := "ledgerReverse", fn := fun _ => fun
  | [d1, d2, d3] => { results := [.lit (.bool false)], args := [d1, d2, d3] }
  | _ => none }
def LedgerReverseWrongFalsely : Prop := ledgerReverseRow.holds Try.pinned (OpenSpec.ofChange ledgerReverseWrong)

/-- 'airlinelaw53.LedgerNil': WHATEVER THE INPUT: true; the input reads as it did. -/
def ledgerNilSpec : ChangeSpec := { name := "ledgerNil", fn := fun _ => fun
  | [d1, d2] => { results := [.lit (.bool true)], args := [d1, d2] }
  | _ => none }
def ledgerNilRow : OpenClaim := { program := "ythfmdkpfaehpnaa", sum := "eefd9d86ba64db17928b822bbd88be3e0aabd2981a1d5ed4ad079343ffe2c4b1", func := "airline/airlinelaw53.LedgerNil", spec := "ledgerNil", unfollowed := true, recurses := true, apart := false }
def LedgerNilSaid : Prop := ledgerNilRow.holds Try.pinned (OpenSpec.ofChange ledgerNilSpec)

/-- ITS FALSE NEIGHBOUR: 'it returns false'. Refute it at one input. -/
def ledgerNilWrong : ChangeSpec := { name := "ledgerNil", fn := fun _ => fun
  | [d1, d2] => { results := [.lit (.bool false)], args := [d1, d2] }
  | _ => none }
def LedgerNilWrongFalsely : Prop := ledgerNilRow.holds Try.pinned (OpenSpec.ofChange ledgerNilWrong)

/- THE SECOND FORM. 'bulk': how many values and letters a reading holds, each counted each time it is reached (what is shared counts as often as it is met; a slice's spare places count too). A statement '..UptoSaid' is the law's where the arguments, and the package variables that the reading takes, are together of bulk at most 1048576: NARROWER than '..Said'. Prove '..Said' where nothing that the law and all that it calls make is longer than what came in: it says more and counts as full. Else prove '..UptoSaid'. A law counts once. -/
mutual
def uptoBulk {H : Type} : DataW H → Nat
  | .lit (.string bytes) => bytes.length + 1
  | .lit _ => 1
  | .nil => 1
  | .ptr d => uptoBulk d + 1
  | .slice elems spare => uptoBulkAll elems + uptoBulkAll spare + 1
  | .agg parts => uptoBulkAll parts + 1
  | .iface _ d => uptoBulk d + 1
  | .map entries => uptoBulkEntries entries + 1
  | .held _ => 1
def uptoBulkAll {H : Type} : List (DataW H) → Nat
  | [] => 0
  | d :: r => uptoBulk d + uptoBulkAll r
def uptoBulkEntries {H : Type} : List (Lit × DataW H) → Nat
  | [] => 0
  | x :: r => uptoBulkEntry x + uptoBulkEntries r
def uptoBulkEntry {H : Type} : Lit × DataW H → Nat
  | (.string bytes, d) => bytes.length + uptoBulk d + 1
  | (_, d) => uptoBulk d + 1
 end
def uptoSmall : (H : Type) → List (DataW H) → Bool := fun _ ds => decide (uptoBulkAll ds ≤ 1048576)
def OpenSpec.upto (s : _root_.Go.ChangeSpec) : _root_.Go.OpenSpec := { _root_.Go.OpenSpec.ofChange s with cond := some uptoSmall }

/-- 'airlinelaw53.LedgerChecks', WHERE WHAT IT READS IS OF BULK AT MOST 1048576: true; the input reads as it did. -/
def ledgerChecksUptoRow : OpenClaim := { program := "ythfmdkpfaehpnaa", sum := "eefd9d86ba64db17928b822bbd88be3e0aabd2981a1d5ed4ad079343ffe2c4b1", func := "airline/airlinelaw53.LedgerChecks", spec := "ledgerChecks", unfollowed := true, recurses := true, apart := false, narrowed := true }
def LedgerChecksUptoSaid : Prop := ledgerChecksUptoRow.holds Try.pinned (OpenSpec.upto ledgerChecksSpec)

/-- 'airlinelaw53.LedgerRuns', WHERE WHAT IT READS IS OF BULK AT MOST 1048576: true; the input reads as it did. -/
def ledgerRunsUptoRow : OpenClaim := { program := "ythfmdkpfaehpnaa", sum := "eefd9d86ba64db17928b822bbd88be3e0aabd2981a1d5ed4ad079343ffe2c4b1", func := "airline/airlinelaw53.LedgerRuns", spec := "ledgerRuns", unfollowed := true, recurses := true, apart := false, narrowed := true }
def LedgerRunsUptoSaid : Prop := ledgerRunsUptoRow.holds Try.pinned (OpenSpec.upto ledgerRunsSpec)

/-- 'airlinelaw53.LedgerBooks', WHERE WHAT IT READS IS OF BULK AT MOST 1048576: true; the input reads as it did. -/
def ledgerBooksUptoRow : OpenClaim := { program := "ythfmdkpfaehpnaa", sum := "eefd9d86ba64db17928b822bbd88be3e0aabd2981a1d5ed4ad079343ffe2c4b1", func := "airline/airlinelaw53.LedgerBooks", spec := "ledgerBooks", unfollowed := true, recurses := true, apart := false, narrowed := true }
def LedgerBooksUptoSaid : Prop := ledgerBooksUptoRow.holds Try.pinned (OpenSpec.upto ledgerBooksSpec)

/-- 'airlinelaw53.LedgerReverse', WHERE WHAT IT READS IS OF BULK AT MOST 1048576: true; the input reads as it did. -/
def ledgerReverseUptoRow : OpenClaim := { program := "ythfmdkpfaehpnaa", sum := "eefd9d86ba64db17928b822bbd88be3e0aabd2981a1d5ed4ad079343ffe2c4b1", func := "airline/airlinelaw53.LedgerReverse", spec := "ledgerReverse", unfollowed := true, recurses := true, apart := false, narrowed := true }
def LedgerReverseUptoSaid : Prop := ledgerReverseUptoRow.holds Try.pinned (OpenSpec.upto ledgerReverseSpec)

/-- 'airlinelaw53.LedgerNil', WHERE WHAT IT READS IS OF BULK AT MOST 1048576: true; the input reads as it did. -/
def ledgerNilUptoRow : OpenClaim := { program := "ythfmdkpfaehpnaa", sum := "eefd9d86ba64db17928b822bbd88be3e0aabd2981a1d5ed4ad079343ffe2c4b1", func := "airline/airlinelaw53.LedgerNil", spec := "ledgerNil", unfollowed := true, recurses := true, apart := false, narrowed := true }
def LedgerNilUptoSaid : Prop := ledgerNilUptoRow.holds Try.pinned (OpenSpec.upto ledgerNilSpec)

end Rows
end Go.Proofs.Ythfmdkpfaehpnaa
