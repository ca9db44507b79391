/- The examples of the laws across layers: the days of a period. -/
import Derived.Test.YtkdkjbneohdofaaDoorTp1
import Derived.RangeFuncNested
import Derived.RangeFuncBound
import Derived.RangeFuncCalls
import Derived.RangeFuncLeaves
import Derived.Shelf.Abstract
import Derived.Shelf.RegionOpen
import Derived.WalkKit
import Derived.OwnWalkIn
import Derived.TacticsInMore
import Derived.LoopNIn
import Derived.LoopIn
namespace Go.Proofs.YtkdkjbneohdofaaDoor
open Go Go.RowKit Go.Shelf
set_option linter.unusedSimpArgs false
set_option linter.unusedVariables false
set_option linter.deprecated false
attribute [local go_sem] Oper.semAt_some
def dayK : Nat → Int
  | 0 => 9497
  | 1 => 9498
  | 2 => 9499
  | 3 => 9500
  | 4 => 9501
  | 5 => 9502
  | 6 => 9503
  | _ => 9504
def wdK : Nat → Int
  | 0 => 3
  | 1 => 4
  | 2 => 5
  | 3 => 6
  | 4 => 0
  | 5 => 1
  | _ => 2
def onK : Nat → Bool
  | 2 => true
  | 3 => true
  | _ => false
theorem lt7 {k : Nat} (h : k < 7) : k = 0 ∨ k = 1 ∨ k = 2 ∨ k = 3 ∨ k = 4 ∨ k = 5 ∨ k = 6 := by omega
theorem weekday_in (F : Fence) (n : Nat) (hf : F.fn 40) (hro : F.round = none) (k : Nat) (hk : k < 7) (w : World) : CallsIn F n Tryd.prog 40 #[.int .i64 (dayK k)] w fun e w' => e = .returned (.int .i64 (wdK k)) ∧ w = w' := by
  rcases lt7 hk with rfl | rfl | rfl | rfl | rfl | rfl | rfl
  all_goals
    dsimp only [dayK, wdK]
    refine callsIn_of_wp Tryd.func40 rfl hf ?_ hro
    simp only [Tryd.ntmps40, List.size_toArray, List.length_cons, List.length_nil, Nat.reduceAdd, Nat.reduceSub, Array.replicate_succ, Array.replicate_zero, List.push_toArray, List.append_toArray, List.nil_append, List.cons_append]
    gi_wp2
    go_ret
    exact ⟨rfl, rfl⟩
theorem on_in (F : Fence) (n : Nat) (hf : F.fn 34) (hf2 : F.fn 40) (hro : F.round = none) (hn : 1 ≤ n) (k : Nat) (hk : k < 7) (w : World) : CallsIn F n Tryd.prog 34 #[.int .i64 96, .int .i64 (dayK k)] w fun e w' => e = .returned (.bool (onK k)) ∧ w = w' := by
  have h1 := weekday_in F (n - 1) hf2 hro k hk
  rcases lt7 hk with rfl | rfl | rfl | rfl | rfl | rfl | rfl
  all_goals
    dsimp only [dayK, wdK, onK] at h1 ⊢
    refine callsIn_of_wp Tryd.func34 rfl hf ?_ hro
    simp only [Tryd.ntmps34, List.size_toArray, List.length_cons, List.length_nil, Nat.reduceAdd, Nat.reduceSub, Array.replicate_succ, Array.replicate_zero, List.push_toArray, List.append_toArray, List.nil_append, List.cons_append]
    gi_wp2_with (gi_at_call 40; refine (h1 _).mono ?_; rintro e w' ⟨rfl, rfl⟩)
    go_ret
    exact ⟨rfl, rfl⟩
theorem pcheck_in (F : Fence) (n : Nat) (hf : F.fn 33) (hro : F.round = none) (w : World) : CallsIn F n Tryd.prog 33 #[.agg #[.int .i64 9497, .int .i64 9503, .int .i64 96]] w fun e w' => e = .returned (.int .i64 0) ∧ w' = w.alloc (.cells #[.int .i64 9497, .int .i64 9503, .int .i64 96] 54) := by
  refine callsIn_of_wp Tryd.func33 rfl hf ?_ hro
  simp only [Tryd.ntmps33, List.size_toArray, List.length_cons, List.length_nil, Nat.reduceAdd, Nat.reduceSub, Array.replicate_succ, Array.replicate_zero, List.push_toArray, List.append_toArray, List.nil_append, List.cons_append]
  gi_wp2
  go_ret
  exact ⟨rfl, rfl⟩
theorem each_in (F : Fence) (n : Nat) (hf : F.fn 22) (hro : F.round = none) (w : World) : CallsIn F n Tryd.prog 22 #[.agg #[.int .i64 9497, .int .i64 9503, .int .i64 96]] w fun e w' => e = .returned (.func (.func 32) #[] #[.pointer (some ⟨w.heap.size, 0, none⟩)]) ∧ w' = w.alloc (.cells #[.int .i64 9497, .int .i64 9503, .int .i64 96] 54) := by
  refine callsIn_of_wp Tryd.func22 rfl hf ?_ hro
  simp only [Tryd.ntmps22, List.size_toArray, List.length_cons, List.length_nil, Nat.reduceAdd, Nat.reduceSub, Array.replicate_succ, Array.replicate_zero, List.push_toArray, List.append_toArray, List.nil_append, List.cons_append]
  gi_wp2
  go_ret
  exact ⟨rfl, rfl⟩
end Go.Proofs.YtkdkjbneohdofaaDoor
