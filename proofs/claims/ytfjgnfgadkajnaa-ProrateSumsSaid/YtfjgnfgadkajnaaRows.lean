/-
  No cell of these rows narrows 'for every input' (looked for: loops, veiled, ifaces, maps, wideKeys, modest, calm, conditions, laid).
  DERIVED. THE GIVEN ROWS OF THIS SEAT. 3 by the template 'for every input the law returns true; each argument reads behind the call as it read before'; 0 by the template 'total and deterministic' (their statements: YtfjgnfgadkajnaaTotals.lean).
  GIVEN WITH THE SEED: the statements are not yours to turn. If you find one false, say at which input.
  Laid BY PROGRAM, IN A SANDBOX (cutbox-rows.mjs): the forced cells as the released guide's own fill.sh prints them over the translation 9f973c4789c3c908… (all of the seat's roots in one cut). By AI agents, Wed Nov 11 2026. No macro, syntax, notation, axiom, sorry.
-/
import Derived.Test.YtfjgnfgadkajnaaChecked
import GoSem.Claim
import GoSem.ClaimJoined
import GoSem.ClaimMapViews
import Derived.JoinedTies
import Derived.KernelRfl
namespace Go.Proofs.Ytfjgnfgadkajnaa
/- THE CELL 'sum', in the pinned program and in every row, IS THE sha256 OF THE DUMP (.gsa) THAT YtfjgnfgadkajnaaProg.lean LOADS. Nothing in Lean hashes anything: it is a label: what it is worth is what the hold of that sum in a sandbox is worth. -/
noncomputable def Try.pinned : Pinned := { name := "ytfjgnfgadkajnaa", sum := "9f973c4789c3c90887ef82f93962ea004694bedc908593dc3e1b91ef657eb599", checked := Try.checked }
namespace Rows
def none {H : Type} : Left H := { results := [], args := [] }

/-- 'airlinelaw39.ProrateSums': WHATEVER THE INPUT: true; the input reads as it did. -/
def prorateSumsSpec : ChangeSpec := { name := "prorateSums", fn := fun _ => fun
  | [d1, d2, d3] => { results := [.lit (.bool true)], args := [d1, d2, d3] }
  | _ => none }
def prorateSumsRow : OpenClaim := { program := "ytfjgnfgadkajnaa", sum := "9f973c4789c3c90887ef82f93962ea004694bedc908593dc3e1b91ef657eb599", func := "airline/airlinelaw39.ProrateSums", spec := "prorateSums", inPlace := ["internal/reflectlite.ValueOf", "internal/reflectlite.Swapper", "(internal/reflectlite.Value).Len"], unfollowed := true, recurses := true, named := ["math/bits.divideError", "math/bits.overflowError"], apart := false }
def ProrateSumsSaid : Prop := prorateSumsRow.holds Try.pinned (OpenSpec.ofChange prorateSumsSpec)

/-- ITS FALSE NEIGHBOUR: 'it returns false'. Refute it at one input. -/
def prorateSumsWrong : ChangeSpec := { name := "prorateSums", fn := fun _ => fun
  | [d1, d2, d3] => { results := [.lit (.bool false)], args := [d1, d2, d3] }
  | _ => none }
def ProrateSumsWrongFalsely : Prop := prorateSumsRow.holds Try.pinned (OpenSpec.ofChange prorateSumsWrong)

/-- 'airlinelaw39.ProrateShares': WHATEVER THE INPUT: true; the input reads as it did. -/
def prorateSharesSpec : ChangeSpec := { name := "prorateShares", fn := fun _ => fun
  | [d1, d2] => { results := [.lit (.bool true)], args := [d1, d2] }
  | _ => none }
def prorateSharesRow : OpenClaim := { program := "ytfjgnfgadkajnaa", sum := "9f973c4789c3c90887ef82f93962ea004694bedc908593dc3e1b91ef657eb599", func := "airline/airlinelaw39.ProrateShares", spec := "prorateShares", inPlace := ["internal/reflectlite.ValueOf", "internal/reflectlite.Swapper", "(internal/reflectlite.Value).Len"], unfollowed := true, recurses := true, named := ["math/bits.divideError", "math/bits.overflowError"], apart := false }
def ProrateSharesSaid : Prop := prorateSharesRow.holds Try.pinned (OpenSpec.ofChange prorateSharesSpec)

/-- ITS FALSE NEIGHBOUR: 'it returns false'. Refute it at one input. -/
def prorateSharesWrong : ChangeSpec := { name := "prorateShares", fn := fun _ => fun
  | [d1, d2] => { results := [.lit (.bool false)], args := [d1, d2] }
  | _ => none }
def ProrateSharesWrongFalsely : Prop := prorateSharesRow.holds Try.pinned (OpenSpec.ofChange prorateSharesWrong)

/-- 'airlinelaw39.ProrateTaxes': WHATEVER THE INPUT: true; the input reads as it did. -/
def prorateTaxesSpec : ChangeSpec := { name := "prorateTaxes", fn := fun _ => fun
  | [d] => { results := [.lit (.bool true)], args := [d] }
  | _ => none }
def prorateTaxesRow : OpenClaim := { program := "ytfjgnfgadkajnaa", sum := "9f973c4789c3c90887ef82f93962ea004694bedc908593dc3e1b91ef657eb599", func := "airline/airlinelaw39.ProrateTaxes", spec := "prorateTaxes", inPlace := ["internal/reflectlite.ValueOf", "internal/reflectlite.Swapper", "(internal/reflectlite.Value).Len"], unfollowed := true, recurses := true, named := ["math/bits.divideError", "math/bits.overflowError"], apart := false }
def ProrateTaxesSaid : Prop := prorateTaxesRow.holds Try.pinned (OpenSpec.ofChange prorateTaxesSpec)

/-- ITS FALSE NEIGHBOUR: 'it returns false'. Refute it at one input. -/
def prorateTaxesWrong : ChangeSpec := { name := "prorateTaxes", fn := fun _ => fun
  | [d] => { results := [.lit (.bool false)], args := [d] }
  | _ => none }
def ProrateTaxesWrongFalsely : Prop := prorateTaxesRow.holds Try.pinned (OpenSpec.ofChange prorateTaxesWrong)

/- THE SECOND FORM. 'bulk': how many values and letters a reading holds, each counted each time it is reached (what is shared counts as often as it is met; a slice's spare places count too). A statement '..UptoSaid' is the law's where the arguments, and the package variables that the reading takes, are together of bulk at most 1048576: NARROWER than '..Said'. Prove '..Said' where nothing that the law and all that it calls make is longer than what came in: it says more and counts as full. Else prove '..UptoSaid'. A law counts once. -/
mutual
def uptoBulk {H : Type} : DataW H → Nat
  | .lit (.string bytes) => bytes.length + 1
  | .lit _ => 1
  | .nil => 1
  | .ptr d => uptoBulk d + 1
  | .slice elems spare => uptoBulkAll elems + uptoBulkAll spare + 1
  | .agg parts => uptoBulkAll parts + 1
  | .iface _ d => uptoBulk d + 1
  | .map entries => uptoBulkEntries entries + 1
  | .held _ => 1
def uptoBulkAll {H : Type} : List (DataW H) → Nat
  | [] => 0
  | d :: r => uptoBulk d + uptoBulkAll r
def uptoBulkEntries {H : Type} : List (Lit × DataW H) → Nat
  | [] => 0
  | x :: r => uptoBulkEntry x + uptoBulkEntries r
def uptoBulkEntry {H : Type} : Lit × DataW H → Nat
  | (.string bytes, d) => bytes.length + uptoBulk d + 1
  | (_, d) => uptoBulk d + 1
 end
def uptoSmall : (H : Type) → List (DataW H) → Bool := fun _ ds => decide (uptoBulkAll ds ≤ 1048576)
def OpenSpec.upto (s : _root_.Go.ChangeSpec) : _root_.Go.OpenSpec := { _root_.Go.OpenSpec.ofChange s with cond := some uptoSmall }

/-- 'airlinelaw39.ProrateSums', WHERE WHAT IT READS IS OF BULK AT MOST 1048576: true; the input reads as it did. -/
def prorateSumsUptoRow : OpenClaim := { program := "ytfjgnfgadkajnaa", sum := "9f973c4789c3c90887ef82f93962ea004694bedc908593dc3e1b91ef657eb599", func := "airline/airlinelaw39.ProrateSums", spec := "prorateSums", inPlace := ["internal/reflectlite.ValueOf", "internal/reflectlite.Swapper", "(internal/reflectlite.Value).Len"], unfollowed := true, recurses := true, named := ["math/bits.divideError", "math/bits.overflowError"], apart := false, narrowed := true }
def ProrateSumsUptoSaid : Prop := prorateSumsUptoRow.holds Try.pinned (OpenSpec.upto prorateSumsSpec)

/-- 'airlinelaw39.ProrateShares', WHERE WHAT IT READS IS OF BULK AT MOST 1048576: true; the input reads as it did. -/
def prorateSharesUptoRow : OpenClaim := { program := "ytfjgnfgadkajnaa", sum := "9f973c4789c3c90887ef82f93962ea004694bedc908593dc3e1b91ef657eb599", func := "airline/airlinelaw39.ProrateShares", spec := "prorateShares", inPlace := ["internal/reflectlite.ValueOf", "internal/reflectlite.Swapper", "(internal/reflectlite.Value).Len"], unfollowed := true, recurses := true, named := ["math/bits.divideError", "math/bits.overflowError"], apart := false, narrowed := true }
def ProrateSharesUptoSaid : Prop := prorateSharesUptoRow.holds Try.pinned (OpenSpec.upto prorateSharesSpec)

/-- 'airlinelaw39.ProrateTaxes', WHERE WHAT IT READS IS OF BULK AT MOST 1048576: true; the input reads as it did. -/
def prorateTaxesUptoRow : OpenClaim := { program := "ytfjgnfgadkajnaa", sum := "9f973c4789c3c90887ef82f93962ea004694bedc908593dc3e1b91ef657eb599", func := "airline/airlinelaw39.ProrateTaxes", spec := "prorateTaxes", inPlace := ["internal/reflectlite.ValueOf", "internal/reflectlite.Swapper", "(internal/reflectlite.Value).Len"], unfollowed := true, recurses := true, named := ["math/bits.divideError", "math/bits.overflowError"], apart := false, narrowed := true }
def ProrateTaxesUptoSaid : Prop := prorateTaxesUptoRow.holds Try.pinned (OpenSpec.upto prorateTaxesSpec)

end Rows
end Go.Proofs.Ytfjgnfgadkajnaa
