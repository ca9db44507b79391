/- All laws of the chapter with their arguments. -/
import Derived.Test.YtnlgkeiilenojaaDoorSv10
import Derived.Test.YtnlgkeiilenojaaDoorSv8
namespace Go.Proofs.YtnlgkeiilenojaaDoor
open Go Go.RowKit
set_option linter.unusedSimpArgs false
set_option linter.unusedVariables false
set_option linter.deprecated false
end Go.Proofs.YtnlgkeiilenojaaDoor
