/- The statements of the chapter (sums, shares, taxes). -/
import Derived.Test.YtfjgnfgadkajnaaGreatPr7
namespace Go.Proofs.YtfjgnfgadkajnaaGreat
open Go Go.RowKit
set_option linter.unusedSimpArgs false
set_option linter.unusedVariables false
set_option linter.deprecated false
theorem fAw_eq : gOf aUnit fTrue [] = (True, .bool true) := gOf_eq aUnit_inj ()
theorem fRt_eq2 (ps : List Airport) (ds : List Distance) (l : List Want) (q : Quote) : gOf aCo fRt [.agg [.list (ps.map Airport.enc) false, .list (ds.map Distance.enc) false], .list (l.map Want.enc) false, .agg [.list (q.parts.map Part.enc) false, .list (q.pairs.map Two.enc) false, .list (q.taxes.map Charge.enc) false, .int .i64 q.fare, .int .i64 q.total]] = (RtOk ⟨ps, ds⟩ l q, .bool (rtB ⟨ps, ds⟩ l q)) := fRt_eq ps ds l q
theorem fCo_eq2 (ps : List Airport) (ds : List Distance) (l : List Want) (q : Quote) : gOf aCo fCo [.agg [.list (ps.map Airport.enc) false, .list (ds.map Distance.enc) false], .list (l.map Want.enc) false, .agg [.list (q.parts.map Part.enc) false, .list (q.pairs.map Two.enc) false, .list (q.taxes.map Charge.enc) false, .int .i64 q.fare, .int .i64 q.total]] = (COk ⟨ps, ds⟩ l q, shareV (coupM ⟨ps, ds⟩ l q)) := fCo_eq ps ds l q
end Go.Proofs.YtfjgnfgadkajnaaGreat
