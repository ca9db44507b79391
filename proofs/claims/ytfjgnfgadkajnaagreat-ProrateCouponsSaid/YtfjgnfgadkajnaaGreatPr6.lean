/- Shares and Taxes of the reference. -/
import Derived.Test.YtfjgnfgadkajnaaGreatPr4
namespace Go.Proofs.YtfjgnfgadkajnaaGreat
open Go Go.RowKit
set_option linter.unusedSimpArgs false
set_option linter.unusedVariables false
set_option linter.deprecated false
end Go.Proofs.YtfjgnfgadkajnaaGreat
/- Taxes of the reference. -/
namespace Go.Proofs.YtfjgnfgadkajnaaGreat
open Go Go.RowKit
set_option linter.unusedSimpArgs false
set_option linter.unusedVariables false
set_option linter.deprecated false
end Go.Proofs.YtfjgnfgadkajnaaGreat
