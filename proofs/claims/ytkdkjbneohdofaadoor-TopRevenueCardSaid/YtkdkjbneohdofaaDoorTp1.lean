/- The examples of the laws across layers: calendar. -/
import Derived.Test.YtkdkjbneohdofaaDoorT3
import Derived.WalkKit
import Derived.ProofKit
namespace Go.Proofs.YtkdkjbneohdofaaDoor
open Go Go.RowKit
set_option linter.unusedSimpArgs false
set_option linter.unusedVariables false
set_option linter.deprecated false
theorem length_c (w : World) (htab : TabW w) : Calls Tryd.prog 31 #[.int .i64 2026, .int .i64 1] w fun e w' => e = .returned (.int .i64 31) ∧ w = w' := by
  have hc := htab.cell gTab 0 (by decide)
  go_enter Tryd.func31, Tryd.ntmps31
  go_wp2
  go_ret
  exact ⟨rfl, rfl⟩
end Go.Proofs.YtkdkjbneohdofaaDoor
