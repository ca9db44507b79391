/- Split of the reference, walked. -/
import Derived.Test.YtfjgnfgadkajnaaMo8
namespace Go.Proofs.Ytfjgnfgadkajnaa
open Go Go.RowKit
set_option linter.unusedSimpArgs false
set_option linter.unusedVariables false
set_option linter.deprecated false
end Go.Proofs.Ytfjgnfgadkajnaa
