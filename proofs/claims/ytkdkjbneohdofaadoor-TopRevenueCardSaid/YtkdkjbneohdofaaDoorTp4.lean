/- The examples of the laws across layers: the number of a period's days. -/
import Derived.Test.YtkdkjbneohdofaaDoorTp3
namespace Go.Proofs.YtkdkjbneohdofaaDoor
open Go Go.RowKit Go.Shelf
set_option linter.unusedSimpArgs false
set_option linter.unusedVariables false
set_option linter.deprecated false
attribute [local go_sem] Oper.semAt_some
def cnW : List Int → Int := List.foldl (fun s _ => wrap64 (s + 1)) 0
theorem cnW_snoc (pre : List Int) (x : Int) : cnW (pre ++ [x]) = wrap64 (cnW pre + 1) := by simp [cnW]
theorem cellB {W : World} {B : Nat} {v : Value} {t : TypeId} (h : W.heap[B]? = some (.cells #[v] t (0, 0))) : W.cell? ⟨B, 0, none⟩ = some v ∧ W.frozen? ⟨B, 0, none⟩ = false := by
  constructor <;> simp [World.cell?, World.frozen?, h]
theorem cellN (W : World) (v : Value) (t : TypeId) : (W.alloc (.cells #[v] t)).cell? ⟨W.heap.size, 0, none⟩ = some v ∧ (W.alloc (.cells #[v] t)).frozen? ⟨W.heap.size, 0, none⟩ = false := cellB (World.alloc_heap_new W _)
theorem cellA {W : World} {a : Addr} {v : Value} (o : Obj) (h : W.cell? a = some v) : (W.alloc o).cell? a = some v := cell_kept h (World.grownBy_alloc W o none) (fun r e => by cases e)
theorem frozenA {W : World} {a : Addr} {v : Value} (o : Obj) (h : W.cell? a = some v) (hf : W.frozen? a = false) : (W.alloc o).frozen? a = false := (frozen_kept h (World.grownBy_alloc W o none) (fun r e => by cases e)).trans hf
theorem each_stops (F : Fence) (n : Nat) (h1 : F.fn 32) (h2 : F.fn 33) (h3 : F.fn 34) (h4 : F.fn 40) (hro : F.round = none) (hn : 3 ≤ n) (Bn : Nat) (w : World) (hlt : Bn < w.heap.size) (hBn : w.heap[Bn]? = some perO) :
    SeqStopsK F n Tryd.prog 32 #[.pointer (some ⟨Bn, 0, none⟩)] (fun x : Int => #[Value.int .i64 x]) (fun A B => B.heap[Bn]? = A.heap[Bn]?) (fun ys => ys = [9499, 9500]) (fun _ => True) 2 w := fun l J Jx W hW hJ _ hY h0 =>
  each1_in F n h1 h2 h3 h4 hro hn l Bn J Jx W hJ hY ((hW.block Bn hlt).trans hBn) h0
set_option maxRecDepth 100000 in
set_option maxHeartbeats 2000000 in
theorem count_in (F : Fence) (n : Nat) (h0 : F.fn 11) (h1 : F.fn 32) (h2 : F.fn 33) (h3 : F.fn 34) (h4 : F.fn 40) (h5 : F.fn 22) (hro : F.round = none) (hn : 5 ≤ n) (w : World) :
    CallsIn F n Tryd.prog 11 #[.agg #[.int .i64 9497, .int .i64 9503, .int .i64 96]] w fun e W' => e = .returned (.int .i64 2) ∧ Below w.heap.size w W' := by
  have hn1 : 1 ≤ n := by omega
  refine callsIn_of_wp_marks Tryd.func11 rfl h0 ?_ hro
  simp only [Tryd.ntmps11, List.size_toArray, List.length_cons, List.length_nil, Nat.reduceAdd, Nat.reduceSub, Array.replicate_succ, Array.replicate_zero, List.push_toArray, List.append_toArray, List.nil_append, List.cons_append]
  gi_wp2_with (gi_at_call 22; refine (each_in F (n - 1) h5 hro _).mono ?_; rintro e w' ⟨rfl, rfl⟩)
  obtain ⟨w1, hw1⟩ : ∃ w1, w.alloc (.cells #[.int .i64 9497, .int .i64 9503, .int .i64 96] 54) = w1 := ⟨_, rfl⟩
  have hs1 : w1.heap.size = w.heap.size + 1 := by rw [← hw1, World.size_alloc]
  rw [hw1]
  have hs := cellN w1 (.int .i64 0) 3
  rw [hs1] at hs
  obtain ⟨w2, hw2⟩ : ∃ w2, w1.alloc (.cells #[.int .i64 0] 3) = w2 := ⟨_, rfl⟩
  have hs2 : w2.heap.size = w.heap.size + 1 + 1 := by rw [← hw2, World.size_alloc, hs1]
  rw [hw2] at hs ⊢
  have hb : (w2.alloc (.cells #[.int .i64 9497, .int .i64 9503, .int .i64 96] 54)).heap[w.heap.size + 1 + 1]? = some perO := by
    have := World.alloc_heap_new w2 (.cells #[.int .i64 9497, .int .i64 9503, .int .i64 96] 54)
    rw [hs2] at this; exact this
  have hB0 : Below w.heap.size w (w2.alloc (.cells #[.int .i64 9497, .int .i64 9503, .int .i64 96] 54)) := by
    rw [← hw2, ← hw1]
    exact (((Below.refl _ w).alloc (Nat.le_refl _) _).alloc (by simp) _).alloc (by simp; omega) _
  have hs3 : (w2.alloc (.cells #[.int .i64 9497, .int .i64 9503, .int .i64 96] 54)).heap.size = w.heap.size + 1 + 1 + 1 := by rw [World.size_alloc, hs2]
  refine wpIn_rangeFunc_ownF hro hn1 (gf := 32) (lb := #[.pointer (some ⟨w.heap.size + 1 + 1, 0, none⟩)]) rfl h1 (enters_of Tryd.func32 (by kernel_rfl) rfl)
    (each_stops F (n - 1) h1 h2 h3 h4 hro (by omega) (w.heap.size + 1 + 1) _ (by rw [hs3]; omega) hb) (fun h1 h2 => h2.trans h1)
    (fun W l o o' hle _ _ _ => World.putObj_heap_other (by rw [hs3] at hle; omega)) (Below.refl _ _) (fun _ => rfl)
    (fun pre W => (W.cell? ⟨w.heap.size + 1, 0, none⟩ = some (.int .i64 (cnW pre)) ∧ W.frozen? ⟨w.heap.size + 1, 0, none⟩ = false) ∧ Below w.heap.size w W)
    (fun _ _ _ => False)
    (OwnFrom.and (Own.from (fun s A B row hs hg hr => ⟨cell_kept hs.1 hg hr, (frozen_kept hs.1 hg hr).trans hs.2⟩) _) (ownFrom_below (Nat.le_refl _) (by rw [hs3]; omega)))
    (fun _ _ _ _ _ hs _ _ => hs)
    ⟨⟨cellA _ hs.1, frozenA _ hs.1 hs.2⟩, hB0⟩
    (fun x => { tmps := #[.agg #[.int .i64 9497, .int .i64 9503, .int .i64 96], .pointer (some ⟨w.heap.size, 0, none⟩), .int .i64 0, .pointer (some ⟨w.heap.size + 1, 0, none⟩), .agg #[.int .i64 9497, .int .i64 9503, .int .i64 96], .func (.func 32) #[] #[.pointer (some ⟨w.heap.size + 1 + 1, 0, none⟩)], .int .i64 x, undef, undef, undef], defers := [] }) ?assign ?body ?done ?stop
  case assign =>
    intro l x W K hK
    gi_wp2
    simpa using hK
  case body =>
    rintro l pre x W ⟨⟨hc, hf⟩, hB⟩ _
    gi_wp2
    exact ⟨KeepsOthers.setCell _ _ _, Below.heap_setCell W _ _ _ (by simp), ⟨by rw [cnW_snoc]; exact World.cell?_setCell_same' _ _ _ (by rw [hc]; rfl), by rw [World.frozen?_setCell]; exact hf⟩, hB.setCell (p := ⟨w.heap.size + 1, 0, none⟩) (by simp) _⟩
  case done =>
    rintro D ys W hD rfl ⟨⟨hc, _⟩, hB⟩ hK
    rw [show cnW [9499, 9500] = 2 by kernel_rfl] at hc
    gi_wp2
    refine ⟨by simp, .inl ⟨_, _, rfl, run_takeDeferred hK, ?_⟩⟩
    exact ⟨_, results_tmp rfl _ _ _, rfl, hB.trans (belowK_b (w := w) (Nat.le_refl _) W D _ _ (by rw [hs3] at hD; omega) hK rfl rfl)⟩
  case stop =>
    rintro D c pre W _ _ h _
    exact h.elim
end Go.Proofs.YtkdkjbneohdofaaDoor
