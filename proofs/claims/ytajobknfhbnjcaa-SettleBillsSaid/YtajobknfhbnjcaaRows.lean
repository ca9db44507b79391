/-
  No cell of these rows narrows 'for every input' (looked for: loops, veiled, ifaces, maps, wideKeys, modest, calm, conditions, laid).
  DERIVED. THE GIVEN ROWS OF THIS SEAT. 5 by the template 'for every input the law returns true; each argument reads behind the call as it read before'; 0 by the template 'total and deterministic' (their statements: YtajobknfhbnjcaaTotals.lean).
  GIVEN WITH THE SEED: the statements are not yours to turn. If you find one false, say at which input.
  Laid BY PROGRAM, IN A SANDBOX (cutbox-rows.mjs): the forced cells as the released guide's own fill.sh prints them over the translation 33a7b7270aab58f8… (all of the seat's roots in one cut). By AI agents, Wed Nov 11 2026. No macro, syntax, notation, axiom, sorry.
-/
import Derived.Test.YtajobknfhbnjcaaChecked
import GoSem.Claim
import GoSem.ClaimJoined
import GoSem.ClaimMapViews
import Derived.JoinedTies
import Derived.KernelRfl
namespace Go.Proofs.Ytajobknfhbnjcaa
/- THE CELL 'sum', in the pinned program and in every row, IS THE sha256 OF THE DUMP (.gsa) THAT YtajobknfhbnjcaaProg.lean LOADS. Nothing in Lean hashes anything: it is a label: what it is worth is what the hold of that sum in a sandbox is worth. -/
noncomputable def Try.pinned : Pinned := { name := "ytajobknfhbnjcaa", sum := "33a7b7270aab58f81529fac02de876ac5b77b5a67687268c2045b9909bec4dca", checked := Try.checked }
namespace Rows
def none {H : Type} : Left H := { results := [], args := [] }

/-- 'airlinelaw54.SettleNets': WHATEVER THE INPUT: true; the input reads as it did. -/
def settleNetsSpec : ChangeSpec := { name := "settleNets", fn := fun _ => fun
  | [d] => { results := [.lit (.bool true)], args := [d] }
  | _ => none }
def settleNetsRow : OpenClaim := { program := "ytajobknfhbnjcaa", sum := "33a7b7270aab58f81529fac02de876ac5b77b5a67687268c2045b9909bec4dca", func := "airline/airlinelaw54.SettleNets", spec := "settleNets", unfollowed := true, recurses := true, apart := false }
def SettleNetsSaid : Prop := settleNetsRow.holds Try.pinned (OpenSpec.ofChange settleNetsSpec)

/-- ITS FALSE NEIGHBOUR: 'it returns false'. Refute it at one input. -/
def settleNetsWrong : ChangeSpec := { name := "settleNets", fn := fun _ => fun
  | [d] => { results := [.lit (.bool false)], args := [d] }
  | _ => none }
def SettleNetsWrongFalsely : Prop := settleNetsRow.holds Try.pinned (OpenSpec.ofChange settleNetsWrong)

/-- 'airlinelaw54.SettleTransfers': WHATEVER THE INPUT: true; the input reads as it did. -/
def settleTransfersSpec : ChangeSpec := { name := "settleTransfers", fn := fun _ => fun
  | [d] => { results := [.lit (.bool true)], args := [d] }
  | _ => none }
def settleTransfersRow : OpenClaim := { program := "ytajobknfhbnjcaa", sum := "33a7b7270aab58f81529fac02de876ac5b77b5a67687268c2045b9909bec4dca", func := "airline/airlinelaw54.SettleTransfers", spec := "settleTransfers", unfollowed := true, recurses := true, apart := false }
def SettleTransfersSaid : Prop := settleTransfersRow.holds Try.pinned (OpenSpec.ofChange settleTransfersSpec)

/-- ITS FALSE NEIGHBOUR: 'it returns false'. Refute it at one input. -/
def settleTransfersWrong : ChangeSpec := { name := "settleTransfers", fn := fun _ => fun
  | [d] => { results := [.lit (.bool false)], args := [d] }
  | _ => none }
def SettleTransfersWrongFalsely : Prop := settleTransfersRow.holds Try.pinned (OpenSpec.ofChange settleTransfersWrong)

/-- 'airlinelaw54.SettleFew': WHATEVER THE INPUT: true; the input reads as it did. -/
def settleFewSpec : ChangeSpec := { name := "settleFew", fn := fun _ => fun
  | [d] => { results := [.lit (.bool true)], args := [d] }
  | _ => none }
def settleFewRow : OpenClaim := { program := "ytajobknfhbnjcaa", sum := "33a7b7270aab58f81529fac02de876ac5b77b5a67687268c2045b9909bec4dca", func := "airline/airlinelaw54.SettleFew", spec := "settleFew", unfollowed := true, recurses := true, apart := false }
def SettleFewSaid : Prop := settleFewRow.holds Try.pinned (OpenSpec.ofChange settleFewSpec)

/-- ITS FALSE NEIGHBOUR: 'it returns false'. Refute it at one input. -/
def settleFewWrong : ChangeSpec := { name := "settleFew", fn := fun _ => fun
  | [d] => { results := [.lit (.bool false)], args := [d] }
  | _ => none }
def SettleFewWrongFalsely : Prop := settleFewRow.holds Try.pinned (OpenSpec.ofChange settleFewWrong)

/-- 'airlinelaw54.SettleSettles': WHATEVER THE INPUT: true; the input reads as it did. -/
def settleSettlesSpec : ChangeSpec := { name := "settleSettles", fn := fun _ => fun
  | [d1, d2] => { results := [.lit (.bool true)], args := [d1, d2] }
  | _ => none }
def settleSettlesRow : OpenClaim := { program := "ytajobknfhbnjcaa", sum := "33a7b7270aab58f81529fac02de876ac5b77b5a67687268c2045b9909bec4dca", func := "airline/airlinelaw54.SettleSettles", spec := "settleSettles", unfollowed := true, recurses := true, apart := false }
def SettleSettlesSaid : Prop := settleSettlesRow.holds Try.pinned (OpenSpec.ofChange settleSettlesSpec)

/-- ITS FALSE NEIGHBOUR: 'it returns false'. Refute it at one input. -/
def settleSettlesWrong : ChangeSpec := { name := "settleSettles", fn := fun _ => fun
  | [d1, d2] => { results := [.lit (.bool false)], args := [d1, d2] }
  | _ => none }
def SettleSettlesWrongFalsely : Prop := settleSettlesRow.holds Try.pinned (OpenSpec.ofChange settleSettlesWrong)

/-- 'airlinelaw54.SettleBills': WHATEVER THE INPUT: true; the input reads as it did. -/
def settleBillsSpec : ChangeSpec := { name := "settleBills", fn := fun _ => fun
  | [d1, d2] => { results := [.lit (.bool true)], args := [d1, d2] }
  | _ => none }
def settleBillsRow : OpenClaim := { program := "ytajobknfhbnjcaa", sum := "33a7b7270aab58f81529fac02de876ac5b77b5a67687268c2045b9909bec4dca", func := "airline/airlinelaw54.SettleBills", spec := "settleBills", unfollowed := true, recurses := true, apart := false }
def SettleBillsSaid : Prop := settleBillsRow.holds Try.pinned (OpenSpec.ofChange settleBillsSpec)

/-- ITS FALSE NEIGHBOUR: 'it returns false'. Refute it at one input. -/
def settleBillsWrong : ChangeSpec := { name := "settleBills", fn := fun _ => fun
  | [d1, d2] => { results := [.lit (.bool false)], args := [d1, d2] }
  | _ => none }
def SettleBillsWrongFalsely : Prop := settleBillsRow.holds Try.pinned (OpenSpec.ofChange settleBillsWrong)

/- THE SECOND FORM. 'bulk': how many values and letters a reading holds, each counted each time it is reached (what is shared counts as often as it is met; a slice's spare places count too). A statement '..UptoSaid' is the law's where the arguments, and the package variables that the reading takes, are together of bulk at most 1048576: NARROWER than '..Said'. Prove '..Said' where nothing that the law and all that it calls make is longer than what came in: it says more and counts as full. Else prove '..UptoSaid'. A law counts once. -/
mutual
def uptoBulk {H : Type} : DataW H → Nat
  | .lit (.string bytes) => bytes.length + 1
  | .lit _ => 1
  | .nil => 1
  | .ptr d => uptoBulk d + 1
  | .slice elems spare => uptoBulkAll elems + uptoBulkAll spare + 1
  | .agg parts => uptoBulkAll parts + 1
  | .iface _ d => uptoBulk d + 1
  | .map entries => uptoBulkEntries entries + 1
  | .held _ => 1
def uptoBulkAll {H : Type} : List (DataW H) → Nat
  | [] => 0
  | d :: r => uptoBulk d + uptoBulkAll r
def uptoBulkEntries {H : Type} : List (Lit × DataW H) → Nat
  | [] => 0
  | x :: r => uptoBulkEntry x + uptoBulkEntries r
def uptoBulkEntry {H : Type} : Lit × DataW H → Nat
  | (.string bytes, d) => bytes.length + uptoBulk d + 1
  | (_, d) => uptoBulk d + 1
 end
def uptoSmall : (H : Type) → List (DataW H) → Bool := fun _ ds => decide (uptoBulkAll ds ≤ 1048576)
def OpenSpec.upto (s : _root_.Go.ChangeSpec) : _root_.Go.OpenSpec := { _root_.Go.OpenSpec.ofChange s with cond := some uptoSmall }

/-- 'airlinelaw54.SettleNets', WHERE WHAT IT READS IS OF BULK AT MOST 1048576: true; the input reads as it did. -/
def settleNetsUptoRow : OpenClaim := { program := "ytajobknfhbnjcaa", sum := "33a7b7270aab58f81529fac02de876ac5b77b5a67687268c2045b9909bec4dca", func := "airline/airlinelaw54.SettleNets", spec := "settleNets", unfollowed := true, recurses := true, apart := false, narrowed := true }
def SettleNetsUptoSaid : Prop := settleNetsUptoRow.holds Try.pinned (OpenSpec.upto settleNetsSpec)

/-- 'airlinelaw54.SettleTransfers', WHERE WHAT IT READS IS OF BULK AT MOST 1048576: true; the input reads as it did. -/
def settleTransfersUptoRow : OpenClaim := { program := "ytajobknfhbnjcaa", sum := "33a7b7270aab58f81529fac02de876ac5b77b5a67687268c2045b9909bec4dca", func := "airline/airlinelaw54.SettleTransfers", spec := "settleTransfers", unfollowed := true, recurses := true, apart := false, narrowed := true }
def SettleTransfersUptoSaid : Prop := settleTransfersUptoRow.holds Try.pinned (OpenSpec.upto settleTransfersSpec)

/-- 'airlinelaw54.SettleFew', WHERE WHAT IT READS IS OF BULK AT MOST 1048576: true; the input reads as it did. -/
def settleFewUptoRow : OpenClaim := { program := "ytajobknfhbnjcaa", sum := "33a7b7270aab58f81529fac02de876ac5b77b5a67687268c2045b9909bec4dca", func := "airline/airlinelaw54.SettleFew", spec := "settleFew", unfollowed := true, recurses := true, apart := false, narrowed := true }
def SettleFewUptoSaid : Prop := settleFewUptoRow.holds Try.pinned (OpenSpec.upto settleFewSpec)

/-- 'airlinelaw54.SettleSettles', WHERE WHAT IT READS IS OF BULK AT MOST 1048576: true; the input reads as it did. -/
def settleSettlesUptoRow : OpenClaim := { program := "ytajobknfhbnjcaa", sum := "33a7b7270aab58f81529fac02de876ac5b77b5a67687268c2045b9909bec4dca", func := "airline/airlinelaw54.SettleSettles", spec := "settleSettles", unfollowed := true, recurses := true, apart := false, narrowed := true }
def SettleSettlesUptoSaid : Prop := settleSettlesUptoRow.holds Try.pinned (OpenSpec.upto settleSettlesSpec)

/-- 'airlinelaw54.SettleBills', WHERE WHAT IT READS IS OF BULK AT MOST 1048576: true; the input reads as it did. -/
def settleBillsUptoRow : OpenClaim := { program := "ytajobknfhbnjcaa", sum := "33a7b7270aab58f81529fac02de876ac5b77b5a67687268c2045b9909bec4dca", func := "airline/airlinelaw54.SettleBills", spec := "settleBills", unfollowed := true, recurses := true, apart := false, narrowed := true }
def SettleBillsUptoSaid : Prop := settleBillsUptoRow.holds Try.pinned (OpenSpec.upto settleBillsSpec)

end Rows
end Go.Proofs.Ytajobknfhbnjcaa
