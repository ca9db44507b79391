/- The examples of the laws across layers: the iterator of a period's days. -/
import Derived.Test.YtkdkjbneohdofaaDoorTp2
namespace Go.Proofs.YtkdkjbneohdofaaDoor
open Go Go.RowKit Go.Shelf
set_option linter.unusedSimpArgs false
set_option linter.unusedVariables false
set_option linter.deprecated false
attribute [local go_sem] Oper.semAt_some
def upK : Nat → List Int
  | 0 => []
  | 1 => []
  | 2 => []
  | 3 => [9499]
  | _ => [9499, 9500]
def perO : Obj := .cells #[.int .i64 9497, .int .i64 9503, .int .i64 96] 54 (0, 0)
theorem perO_cell {W : World} {B : Nat} (h : W.heap[B]? = some perO) : W.cell? ⟨B, 0, none⟩ = some (.int .i64 9497) ∧ W.cell? ⟨B, 1, none⟩ = some (.int .i64 9503) ∧ W.cell? ⟨B, 2, none⟩ = some (.int .i64 96) := by
  refine ⟨?_, ?_, ?_⟩ <;> simp [World.cell?, h, perO]
theorem perO_lt {W : World} {B : Nat} (h : W.heap[B]? = some perO) : B < W.heap.size := (Array.getElem?_eq_some_iff.1 h).1
set_option maxRecDepth 100000 in
set_option maxHeartbeats 2000000 in
theorem each1_in (F : Fence) (n : Nat) (h1 : F.fn 32) (h2 : F.fn 33) (h3 : F.fn 34) (h4 : F.fn 40) (hro : F.round = none) (hn : 3 ≤ n) (l Bn : Nat) (J Jx : List Int → World → Prop) (W : World) (hJ : AbidesFrom W.heap.size J)
    (hY : ∀ pre x W1, J pre W1 → pre.length < 2 → YieldAt F (n - 1) Tryd.prog l #[.int .i64 x] W1 fun e W' =>
      (e = .returned (.bool true) ∧ J (pre ++ [x]) W' ∧ W'.heap[Bn]? = W1.heap[Bn]?) ∨ (e = .returned (.bool false) ∧ Jx (pre ++ [x]) W'))
    (hBn : W.heap[Bn]? = some perO) (h0 : J [] W) :
    CallsIn F n Tryd.prog 32 #[.func (.yield l) #[] #[], .pointer (some ⟨Bn, 0, none⟩)] W fun e W' => (∃ v, e = .returned v) ∧
      ((∃ ys, ys = [9499, 9500] ∧ J ys W') ∨ (∃ pre : List Int, True ∧ Jx pre W')) := by
  obtain ⟨c0, c1, c2⟩ := perO_cell hBn
  have hlt := perO_lt hBn
  refine callsIn_of_wp Tryd.func32 rfl h1 ?_ hro
  simp only [Tryd.ntmps32, List.size_toArray, List.length_cons, List.length_nil, Nat.reduceAdd, Nat.reduceSub, Array.replicate_succ, Array.replicate_zero, List.push_toArray, List.append_toArray, List.nil_append, List.cons_append]
  have h1n : 1 ≤ n := by omega
  gi_wp2_with (gi_at_call 33; refine (pcheck_in F (n - 1) h2 hro _).mono ?_; rintro e w' ⟨rfl, rfl⟩)
  gi_loopw [3] (fun p wr => ∃ k : Nat, k ≤ 7 ∧ p = .int .i64 (dayK k) ∧ J (upK k) wr ∧ wr.heap[Bn]? = some perO) (fun p wr => (9504 - intOf p).toNat)
  case atStart =>
    exact ⟨0, by omega, rfl, hJ [] W _ none h0 (World.grownBy_alloc W _ none) (fun r e => by cases e), (Below.heap_alloc W _ Bn hlt).trans hBn⟩
  case round =>
    obtain ⟨k, hk, rfl, hJs, hBr⟩ := hrel
    obtain ⟨b0, b1, b2⟩ := perO_cell hBr
    have hcase : k = 7 ∨ k < 7 := by omega
    rcases hcase with rfl | hk7
    · dsimp only [dayK, upK] at hJs ⊢
      gi_wp2
      go_end0
      exact ⟨⟨_, rfl⟩, .inl hJs⟩
    · have hon := on_in F (n - 1) h3 h4 hro (by omega) k hk7
      rcases lt7 hk7 with rfl | rfl | rfl | rfl | rfl | rfl | rfl
      · dsimp only [dayK, onK, upK] at hon hJs ⊢
        gi_wp2_with (gi_at_call 34; refine (hon _).mono ?_; rintro e w' ⟨rfl, rfl⟩)
        refine ⟨fun _ h => (by cases h), ?_⟩
        gi_wp2
        go_roundw
        case rel => exact ⟨1, by omega, rfl, hJs, hBr⟩
        case measure => decide
      · dsimp only [dayK, onK, upK] at hon hJs ⊢
        gi_wp2_with (gi_at_call 34; refine (hon _).mono ?_; rintro e w' ⟨rfl, rfl⟩)
        refine ⟨fun _ h => (by cases h), ?_⟩
        gi_wp2
        go_roundw
        case rel => exact ⟨2, by omega, rfl, hJs, hBr⟩
        case measure => decide
      · dsimp only [dayK, onK, upK] at hon hJs ⊢
        obtain ⟨fn, tmps, assign, body, hy, hR⟩ := hY [] 9499 wr hJs (by decide)
        gi_wp2_with (gi_at_call 34; refine (hon _).mono ?_; rintro e w' ⟨rfl, rfl⟩)
        refine hR.mono ?_
        rintro e W3 (⟨rfl, hJ3, hk3⟩ | ⟨rfl, hJx3⟩)
        · gi_wp2
          go_roundw
          case rel => exact ⟨3, by omega, rfl, hJ3, hk3.trans hBr⟩
          case measure => decide
        · gi_wp2
          refine bodyPost_ret (results_none rfl _ _ _) rfl ?_
          exact ⟨⟨_, rfl⟩, .inr ⟨_, trivial, hJx3⟩⟩
      · dsimp only [dayK, onK, upK] at hon hJs ⊢
        obtain ⟨fn, tmps, assign, body, hy, hR⟩ := hY [9499] 9500 wr hJs (by decide)
        gi_wp2_with (gi_at_call 34; refine (hon _).mono ?_; rintro e w' ⟨rfl, rfl⟩)
        refine hR.mono ?_
        rintro e W3 (⟨rfl, hJ3, hk3⟩ | ⟨rfl, hJx3⟩)
        · gi_wp2
          go_roundw
          case rel => exact ⟨4, by omega, rfl, hJ3, hk3.trans hBr⟩
          case measure => decide
        · gi_wp2
          refine bodyPost_ret (results_none rfl _ _ _) rfl ?_
          exact ⟨⟨_, rfl⟩, .inr ⟨_, trivial, hJx3⟩⟩
      · dsimp only [dayK, onK, upK] at hon hJs ⊢
        gi_wp2_with (gi_at_call 34; refine (hon _).mono ?_; rintro e w' ⟨rfl, rfl⟩)
        refine ⟨fun _ h => (by cases h), ?_⟩
        gi_wp2
        go_roundw
        case rel => exact ⟨5, by omega, rfl, hJs, hBr⟩
        case measure => decide
      · dsimp only [dayK, onK, upK] at hon hJs ⊢
        gi_wp2_with (gi_at_call 34; refine (hon _).mono ?_; rintro e w' ⟨rfl, rfl⟩)
        refine ⟨fun _ h => (by cases h), ?_⟩
        gi_wp2
        go_roundw
        case rel => exact ⟨6, by omega, rfl, hJs, hBr⟩
        case measure => decide
      · dsimp only [dayK, onK, upK] at hon hJs ⊢
        gi_wp2_with (gi_at_call 34; refine (hon _).mono ?_; rintro e w' ⟨rfl, rfl⟩)
        refine ⟨fun _ h => (by cases h), ?_⟩
        gi_wp2
        go_roundw
        case rel => exact ⟨7, by omega, rfl, hJs, hBr⟩
        case measure => decide
end Go.Proofs.YtkdkjbneohdofaaDoor
