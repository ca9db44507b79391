/- The reference's errors of an airport and of a distance. -/
import Derived.Test.YtfjgnfgadkajnaaPl4
namespace Go.Proofs.Ytfjgnfgadkajnaa
open Go Go.RowKit
set_option linter.unusedSimpArgs false
set_option linter.unusedVariables false
set_option linter.deprecated false
end Go.Proofs.Ytfjgnfgadkajnaa
