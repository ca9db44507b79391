/- The statements of the chapter: shares of carriers, taxes. -/
import Derived.Test.YtfjgnfgadkajnaaGreatPr8
namespace Go.Proofs.YtfjgnfgadkajnaaGreat
open Go Go.RowKit
set_option linter.unusedSimpArgs false
set_option linter.unusedVariables false
set_option linter.deprecated false
structure OutF {α : Type} (nm : α → List UInt8) (am : α → Int) (P : NA) (a : List α) (e : Int) : Prop where
  err : e ≠ 0 → a = []
  len : a.length ≤ P.length
  sum : e = 0 → (a.map am).sum = (P.map (·.2)).sum
  fitP : e = 0 → ∀ p ∈ P, -1099511627776 ≤ p.2 ∧ p.2 ≤ 1099511627776
  fitA : ∀ x ∈ a, -1099511627776 ≤ am x ∧ am x ≤ 1099511627776
  rise : ∀ i (h : i < a.length) (h' : i - 1 < a.length), 0 < i → slt (nm a[i - 1]) (nm a[i]) = true
end Go.Proofs.YtfjgnfgadkajnaaGreat
