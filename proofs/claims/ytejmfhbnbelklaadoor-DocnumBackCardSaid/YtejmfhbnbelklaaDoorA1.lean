/- Contracts of the arithmetic functions of docnum. -/
import Derived.Test.YtejmfhbnbelklaaDoorProg
import Derived.WalkKit
import Derived.Lib.Hide
namespace Go.Proofs.YtejmfhbnbelklaaDoor
open Go Go.RowKit

set_option maxHeartbeats 400000 in
theorem check_any (c s : Int) (w : World) (hc : 0 ≤ c) (hc' : c < 1000) (hs : 0 ≤ s) (hs' : s < 10000000000) :
    Calls Tryd.prog 25 #[.int .i64 c, .int .i64 s] w fun e w' => e = .returned (.int .i64 ((c * 10000000000 + s) % 7)) ∧ w = w' := by
  go_enter Tryd.func25, Tryd.ntmps25
  go_wp2
  go_ret
  exact ⟨rfl, rfl⟩

set_option maxHeartbeats 400000 in
theorem make_ok (c s : Int) (w : World) (hc : 1 ≤ c) (hc' : c < 1000) (hs : 0 ≤ s) (hs' : s < 10000000000) :
    Calls Tryd.prog 12 #[.int .i64 c, .int .i64 s] w fun e w' => e = .returned (.tuple #[.int .i64 ((c * 10000000000 + s) * 10 + (c * 10000000000 + s) % 7), .int .i64 0]) ∧ w = w' := by
  go_enter Tryd.func12, Tryd.ntmps12
  go_wp2_with (go_at_call 25; refine (check_any _ _ _ (by omega) (by omega) (by omega) (by omega)).mono ?_; rintro e w' ⟨rfl, rfl⟩)
  go_ret2
  exact ⟨rfl, rfl⟩

set_option maxHeartbeats 400000 in
theorem make_bad (c s : Int) (w : World) (h : ¬ (1 ≤ c ∧ c < 1000 ∧ 0 ≤ s ∧ s < 10000000000)) :
    Calls Tryd.prog 12 #[.int .i64 c, .int .i64 s] w fun e w' => e = .returned (.tuple #[.int .i64 0, .int .i64 2]) ∧ w = w' := by
  go_enter Tryd.func12, Tryd.ntmps12
  go_wp2
  all_goals (go_ret2; exact ⟨rfl, rfl⟩)
end Go.Proofs.YtejmfhbnbelklaaDoor
