/- Functions on texts, of the program and of the reference: what each computes. -/
import Derived.Test.YtfjgnfgadkajnaaCo
import Derived.Test.YtfjgnfgadkajnaaAv22
import Derived.Lib.ItoaNum
import Derived.Lib.ItoaLen
namespace Go.Proofs.Ytfjgnfgadkajnaa
open Go Go.RowKit
set_option linter.unusedSimpArgs false
set_option linter.unusedVariables false
set_option linter.deprecated false
def UT : Tbl := ⟨fun _ => True, fun _ => False, fun _ _ _ h => h⟩
noncomputable def tNo : Tab
  | _ => gNo
theorem tNo_ok : ∀ f, PureC Try.prog UT f (tNo f) := fun f => by
  unfold tNo
  split
  · exact PureC.no
end Go.Proofs.Ytfjgnfgadkajnaa
