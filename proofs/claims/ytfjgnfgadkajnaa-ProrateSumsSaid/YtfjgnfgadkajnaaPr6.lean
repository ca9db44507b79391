/- Shares and Taxes of the reference. -/
import Derived.Test.YtfjgnfgadkajnaaPr4
namespace Go.Proofs.Ytfjgnfgadkajnaa
open Go Go.RowKit
set_option linter.unusedSimpArgs false
set_option linter.unusedVariables false
set_option linter.deprecated false
end Go.Proofs.Ytfjgnfgadkajnaa
/- Taxes of the reference. -/
namespace Go.Proofs.Ytfjgnfgadkajnaa
open Go Go.RowKit
set_option linter.unusedSimpArgs false
set_option linter.unusedVariables false
set_option linter.deprecated false
end Go.Proofs.Ytfjgnfgadkajnaa
