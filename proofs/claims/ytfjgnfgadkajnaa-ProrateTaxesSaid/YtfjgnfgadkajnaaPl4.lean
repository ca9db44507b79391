/- Texts of airports and countries; zones. -/
import Derived.Test.YtfjgnfgadkajnaaPl2
namespace Go.Proofs.Ytfjgnfgadkajnaa
open Go Go.RowKit
set_option linter.unusedSimpArgs false
set_option linter.unusedVariables false
set_option linter.deprecated false
end Go.Proofs.Ytfjgnfgadkajnaa
/- Small, sameAirport, the sample; what is reached. -/
namespace Go.Proofs.Ytfjgnfgadkajnaa
open Go Go.RowKit
set_option linter.unusedSimpArgs false
set_option linter.unusedVariables false
set_option linter.deprecated false
/-! What is reached: a list of cities with miles. -/
def spots (L : Assoc Int) : List (List V) := L.map fun p => [.str p.1, .int .i64 p.2]
theorem spots_len (L : Assoc Int) : (spots L).length = L.length := List.length_map _
theorem spots_pur (L : Assoc Int) : ∀ r ∈ spots L, V.purs r = true := by intro r hr; obtain ⟨p, _, rfl⟩ := List.mem_map.1 hr; rfl
theorem spots_purT (L : Assoc Int) : (∀ r ∈ spots L, V.purs r = true) ↔ True := iff_true_intro (spots_pur L)
theorem spots_twoT (L : Assoc Int) : (∀ r ∈ spots L, r.length = 2) ↔ True := iff_true_intro fun r hr => by obtain ⟨p, _, rfl⟩ := List.mem_map.1 hr; rfl
attribute [go_sem] spots_len spots_purT spots_twoT
end Go.Proofs.Ytfjgnfgadkajnaa
