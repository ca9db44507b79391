/- The arguments of the chapter's laws, opened. -/
import Derived.Test.YtdjeodopibaebaaDoorMo17
import Derived.Test.YtdjeodopibaebaaDoorO2
namespace Go.Proofs.YtdjeodopibaebaaDoor
open Go Go.RowKit
set_option linter.unusedSimpArgs false
set_option linter.unusedVariables false
set_option linter.deprecated false
theorem fits_w {vs : List V} (h : (Sh.i .i32).fits vs) : ∃ x : Int, vs = [.int .i32 x] ∧ (-2147483648 ≤ x ∧ x ≤ 2147483647) := by
  obtain ⟨x, rfl, hx⟩ := h
  refine ⟨x, rfl, ?_⟩
  simp [Lit.wf] at hx
  have h1 : IntKind.i32.min = -2147483648 := by decide
  have h2 : IntKind.i32.max = 2147483647 := by decide
  omega
end Go.Proofs.YtdjeodopibaebaaDoor
