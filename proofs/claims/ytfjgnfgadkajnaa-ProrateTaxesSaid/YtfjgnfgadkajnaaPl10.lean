/- The reference's Check of places. -/
import Derived.Test.YtfjgnfgadkajnaaPl9
namespace Go.Proofs.Ytfjgnfgadkajnaa
open Go Go.RowKit
set_option linter.unusedSimpArgs false
set_option linter.unusedVariables false
set_option linter.deprecated false
end Go.Proofs.Ytfjgnfgadkajnaa
