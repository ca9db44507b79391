/- Inside, of the program and of the reference; what they have in common. -/
import Derived.Test.YtemeeeomcjdlnaaDoorBa5
namespace Go.Proofs.YtemeeeomcjdlnaaDoor
open Go Go.RowKit
set_option linter.unusedSimpArgs false
set_option linter.unusedVariables false
set_option linter.deprecated false
def sx (l : List Point) (x : Point) (k : Nat) : Int := side (l.getD k Point.zero) (l.getD (nx l.length k) Point.zero) x
theorem sx_at {l : List Point} {x : Point} {k : Nat} (h : k < l.length) : sx l x k = side l[k] (l[nx l.length k]'(nx_lt h)) x := by unfold sx; rw [getD_lt _ _ _ h, getD_lt _ _ _ (nx_lt h)]
theorem sx_k {l : List Point} {x : Point} {i k : Nat} (h : i < l.length) (hkk : nx l.length i = k) (hk : k < l.length) : side l[i] l[k] x = sx l x i := by subst hkk; exact (sx_at h).symm
def insideB (l : List Point) (x : Point) : Bool := fineB x && (List.range l.length).all fun k => !decide (sx l x k = -turn l)
theorem turn_cases (l : List Point) : turn l = 0 ∨ turn l = 1 ∨ turn l = -1 := by
  unfold turn s0 sd
  split
  · rcases side_cases (l.getD 0 Point.zero) (l.getD (nx l.length 0) Point.zero) (l.getD 2 Point.zero) with h | h | h <;> rw [h.2] <;> simp
  · exact .inl rfl
def aIn (x : List Point × Point) : List V := [.list (x.1.map Point.enc) false, .agg x.2.enc]
theorem aIn_inj (a b : List Point × Point) (h : aIn a = aIn b) : a = b := by
  obtain ⟨a_l, a_x⟩ := a
  obtain ⟨b_l, b_x⟩ := b
  simp only [aIn, List.cons.injEq, V.str.injEq, V.int.injEq, V.bool.injEq, V.agg.injEq, V.list.injEq, and_true, true_and] at h
  obtain ⟨h0, h1⟩ := h
  replace h0 := map_inj' Point.inj h0
  subst h0
  replace h1 := Point.inj _ _ h1
  subst h1
  rfl
def ValidL (l : List Point) : Prop := FineL l ∧ turn l ≠ 0
def fIn (x : List Point × Point) : Prop × V := (ValidL x.1, .bool (insideB x.1 x.2))
theorem in_no {l : List Point} {x : Point} (h : fineB x = false) : insideB l x = false := by unfold insideB; rw [h, Bool.false_and]
theorem in_bad {l : List Point} {x : Point} {k : Nat} (hk : k < l.length) (h : sx l x k = -turn l) : insideB l x = false := by
  unfold insideB
  rw [Bool.and_eq_false_iff]
  right
  rw [List.all_eq_false]
  exact ⟨k, List.mem_range.2 hk, by rw [h]; simp⟩
theorem in_all {l : List Point} {x : Point} (hf : fineB x = true) (h : ∀ k, k < l.length → sx l x k ≠ -turn l) : insideB l x = true := by
  unfold insideB
  rw [hf, Bool.true_and, List.all_eq_true]
  intro k hk
  simpa using h k (List.mem_range.1 hk)
theorem fSx_eq (p q : Point) (a b) : gOf aS fS [.agg [.int .i64 p.weight, .int .i64 p.index], .agg [.int .i64 q.weight, .int .i64 q.index], .agg [.int .i64 a, .int .i64 b]] = (fineP p ∧ fineP q ∧ fineP ⟨a, b⟩, .int .i64 (side p q ⟨a, b⟩)) := gOf_eq aS_inj (p, q, ⟨a, b⟩)
noncomputable def trIn : Tab
  | 31 => (gOf aS fS)
  | 29 => (gOf aE fTurn)
  | 28 => (gOf aP fFine)
  | _ => gNo
theorem trIn_ok : ∀ f, PureC Tryd.prog UT f (trIn f) := fun f => by
  unfold trIn
  split
  · exact rside_p
  · exact rconvex_p
  · exact fine_p
  · exact PureC.no
set_option maxHeartbeats 2000000 in
theorem rinside_p : PureC Tryd.prog UT 18 (gOf aIn fIn) := by
  have hG := trIn_ok
  refine PureC.ofArgs aIn_inj Tryd.func18 body18 nm18 res18 ?_
  rintro ⟨l, ⟨xw, xi⟩⟩ hv
  refine ⟨by rw [nt18]; simp [aIn], fun C hN Q hQ => ?_⟩
  rw [nt18] at hN
  unfold c18
  obtain ⟨hv, htn⟩ : ValidL l := hv
  obtain ⟨h3, hl, -⟩ := id hv
  have htc := turn_cases l
  refine aw_seq (aw_region (EF := EF0) hG (by rw [hN]; exact tr18_0) ?_)
  simp only [a18_0, go_sem, ↓reduceIte, Nat.reduceEqDiff, reduceCtorEq, Nat.reduceAdd, Nat.reduceLT, Nat.reduceLeDiff, Nat.reduceBNe, Nat.reduceBEq, Int.reduceToNat, aIn, Point.enc, trIn, fFine_eq]
  refine aw_seq (aw_region (EF := EF0) hG (by rw [hN]; exact tr18_1) ?_)
  simp only [a18_1, go_sem, ↓reduceIte, Nat.reduceEqDiff, reduceCtorEq, Nat.reduceAdd, Nat.reduceLT, Nat.reduceLeDiff, Nat.reduceBNe, Nat.reduceBEq, Int.reduceToNat, fTurn_eq, hv, trIn, fFine_eq]
  (repeat' apply And.intro) <;> (try first | omega | (intros; (repeat' apply And.intro) <;> first | assumption | omega | (simp_all; done)))
  refine aw_seq ?_
  refine aw_seq (aw_region (EF := EF0) hG (by rw [hN]; exact tr18_2) ?_)
  simp only [a18_2, go_sem, ↓reduceIte, Nat.reduceEqDiff, reduceCtorEq, Nat.reduceAdd, Nat.reduceLT, Nat.reduceLeDiff, Nat.reduceBNe, Nat.reduceBEq, Int.reduceToNat, trIn, fFine_eq]
  refine aw_block ?_
  refine aw_loop (α := Nat) (fun i => (i ≤ l.length) ∧ (∀ k, k < i → sx l ⟨xw, xi⟩ k ≠ -turn l)) (fun i => ⟨mkE [(0, V.list (List.map Point.enc l) false), (3, V.ptr 3 0), (5, V.int IntKind.i64 (turn l)), (6, .int .i64 i)], mkH [(3, Ob.box 33 [V.int IntKind.i64 xw, V.int IntKind.i64 xi])]⟩) (fun i => l.length - i) 0 ⟨Nat.zero_le _, fun k hk => absurd hk (Nat.not_lt_zero _)⟩ ?_ ?_
  · refine Le.mk _ _ ?_ ?_ rfl <;> simp only [go_sem, ↓reduceIte, Nat.reduceEqDiff, reduceCtorEq, Nat.reduceAdd, Nat.reduceLT, Nat.reduceLeDiff, Nat.reduceBNe, Nat.reduceBEq, Int.reduceToNat] <;> (repeat' apply And.intro) <;> (try first | rfl | exact wk_frzb rfl rfl rfl | exact wk_fn rfl | exact .nilo _ _ _ rfl rfl)
  · rintro i ⟨hi, hp⟩ KL0 hKL0
    try dsimp only at *
    refine aw_seq ?_
    refine aw_seq (aw_region (EF := EF0) hG (by rw [hN]; exact tr18_3) ?_)
    simp only [a18_3, go_sem, ↓reduceIte, Nat.reduceEqDiff, reduceCtorEq, Nat.reduceAdd, Nat.reduceLT, Nat.reduceLeDiff, Nat.reduceBNe, Nat.reduceBEq, Int.reduceToNat, trIn, fFine_eq]
    (repeat' apply And.intro) <;> (try first | omega | (intros; (repeat' apply And.intro) <;> first | assumption | omega | (simp_all; done)))
    refine aw_cond (b := _) rfl (fun hc3 => ?_) (fun hc3 => ?_)
    · simp only [decide_eq_true_eq, decide_eq_false_iff_not, Bool.and_eq_true, Bool.or_eq_true, Bool.not_eq_true', Bool.not_eq_false', Bool.and_eq_false_iff, Bool.or_eq_false_iff, Int.ofNat_lt, Int.ofNat_le, Nat.not_lt, Nat.not_le, Int.not_lt, Int.not_le] at hc3
      refine aw_skip ?_
      simp only [go_sem, ↓reduceIte, Nat.reduceEqDiff, reduceCtorEq, Nat.reduceAdd, Nat.reduceLT, Nat.reduceLeDiff, Nat.reduceBNe, Nat.reduceBEq, Int.reduceToNat]
      refine aw_seq ?_
      refine aw_block ?_
      obtain ⟨hc3, hfx⟩ := hc3
      have hfp := (fineB_iff _).1 hfx
      obtain ⟨k, hkk⟩ : ∃ k, nx l.length i = k := ⟨_, rfl⟩
      have hk : k < l.length := hkk ▸ nx_lt hc3
      have hsx := sx_k (x := ⟨xw, xi⟩) hc3 hkk hk
      have g1 := fine_mem hv hc3
      have g2 := fine_mem hv hk
      refine aw_seq (aw_regionD (EF := EF0) hG mixed (by rw [hN]; exact tr18_5) ok18_5 ?_)
      simp only [a18_5, d18_5, go_sem, ↓reduceIte, Nat.reduceEqDiff, reduceCtorEq, Nat.reduceAdd, Nat.reduceLT, Nat.reduceLeDiff, Nat.reduceBNe, Nat.reduceBEq, Int.reduceToNat, inI, nx_cast, hkk, getD_mapd _ _ _ _ hc3, hc3, getD_mapd _ _ _ _ hk, hk, Point.enc, fSx_eq, g1, g2, hfp, hsx, trIn, fFine_eq]
      (repeat' apply And.intro) <;> (try first | omega | (intros; (repeat' apply And.intro) <;> first | assumption | omega | (simp_all; done)))
      refine aw_cond (b := _) rfl (fun hb5 => ?_) (fun hb5 => ?_)
      · skip
        refine aw_seq (aw_region (EF := EF0) hG (by rw [hN]; exact tr18_6) ?_)
        simp only [a18_6, go_sem, ↓reduceIte, Nat.reduceEqDiff, reduceCtorEq, Nat.reduceAdd, Nat.reduceLT, Nat.reduceLeDiff, Nat.reduceBNe, Nat.reduceBEq, Int.reduceToNat, trIn, fFine_eq]
        refine aw_ret ?_
        show Q _ _
        refine hQ _ _ (.inl rfl) ?_ ?_ ?_ <;> simp only [outφ, outV, AR.res, go_sem, ↓reduceIte, Nat.reduceEqDiff, reduceCtorEq, Nat.reduceAdd, Nat.reduceLT, Nat.reduceLeDiff, Nat.reduceBNe, Nat.reduceBEq, Int.reduceToNat, fIn]
        rw [in_bad hc3 (of_decide_eq_true hb5)]
      · skip
        refine aw_skip ?_
        simp only [go_sem, ↓reduceIte, Nat.reduceEqDiff, reduceCtorEq, Nat.reduceAdd, Nat.reduceLT, Nat.reduceLeDiff, Nat.reduceBNe, Nat.reduceBEq, Int.reduceToNat]
        refine aw_region (EF := EF0) hG (by rw [hN]; exact tr18_4) ?_
        simp only [a18_4, go_sem, ↓reduceIte, Nat.reduceEqDiff, reduceCtorEq, Nat.reduceAdd, Nat.reduceLT, Nat.reduceLeDiff, Nat.reduceBNe, Nat.reduceBEq, Int.reduceToNat, inI, trIn, fFine_eq]
        (repeat' apply And.intro) <;> (try first | omega | (intros; (repeat' apply And.intro) <;> first | assumption | omega | (simp_all; done)))
        refine hKL0 (i + 1) _ ?_ ?_ ?_
        · (try dsimp only); exact ⟨hc3, all_step hp (of_decide_eq_false hb5)⟩
        · (try dsimp only); omega
        · refine Le.mk _ _ ?_ ?_ rfl <;> simp only [go_sem, ↓reduceIte, Nat.reduceEqDiff, reduceCtorEq, Nat.reduceAdd, Nat.reduceLT, Nat.reduceLeDiff, Nat.reduceBNe, Nat.reduceBEq, Int.reduceToNat] <;> (repeat' apply And.intro) <;> (try first | rfl | exact wk_frzb rfl rfl rfl | exact wk_fn rfl | exact .nilo _ _ _ rfl rfl)
    · simp only [decide_eq_true_eq, decide_eq_false_iff_not, Bool.and_eq_true, Bool.or_eq_true, Bool.not_eq_true', Bool.not_eq_false', Bool.and_eq_false_iff, Bool.or_eq_false_iff, Int.ofNat_lt, Int.ofNat_le, Nat.not_lt, Nat.not_le, Int.not_lt, Int.not_le] at hc3
      refine aw_exit ?_
      simp only [go_sem, ↓reduceIte, Nat.reduceEqDiff, reduceCtorEq, Nat.reduceAdd, Nat.reduceLT, Nat.reduceLeDiff, Nat.reduceBNe, Nat.reduceBEq, Int.reduceToNat]
      by_cases hfx : fineB ⟨xw, xi⟩ = true
      · skip
        refine aw_seq (aw_region (EF := EF0) hG (by rw [hN]; exact tr18_7) ?_)
        simp only [a18_7, go_sem, ↓reduceIte, Nat.reduceEqDiff, reduceCtorEq, Nat.reduceAdd, Nat.reduceLT, Nat.reduceLeDiff, Nat.reduceBNe, Nat.reduceBEq, Int.reduceToNat, hfx, trIn, fFine_eq]
        (repeat' apply And.intro) <;> (try first | omega | (intros; (repeat' apply And.intro) <;> first | assumption | omega | (simp_all; done)))
        refine aw_ret ?_
        show Q _ _
        refine hQ _ _ (.inl rfl) ?_ ?_ ?_ <;> simp only [outφ, outV, AR.res, go_sem, ↓reduceIte, Nat.reduceEqDiff, reduceCtorEq, Nat.reduceAdd, Nat.reduceLT, Nat.reduceLeDiff, Nat.reduceBNe, Nat.reduceBEq, Int.reduceToNat, fIn]
        rw [in_all hfx fun k hk => hp k (by rcases hc3 with h | h; omega; (rw [hfx] at h; cases h))]
      · skip
        refine aw_seq (aw_region (EF := EF0) hG (by rw [hN]; exact tr18_7) ?_)
        simp only [a18_7, go_sem, ↓reduceIte, Nat.reduceEqDiff, reduceCtorEq, Nat.reduceAdd, Nat.reduceLT, Nat.reduceLeDiff, Nat.reduceBNe, Nat.reduceBEq, Int.reduceToNat, hfx, trIn, fFine_eq]
        (repeat' apply And.intro) <;> (try first | omega | (intros; (repeat' apply And.intro) <;> first | assumption | omega | (simp_all; done)))
        refine aw_ret ?_
        show Q _ _
        refine hQ _ _ (.inl rfl) ?_ ?_ ?_ <;> simp only [outφ, outV, AR.res, go_sem, ↓reduceIte, Nat.reduceEqDiff, reduceCtorEq, Nat.reduceAdd, Nat.reduceLT, Nat.reduceLeDiff, Nat.reduceBNe, Nat.reduceBEq, Int.reduceToNat, fIn]
        rw [in_no (Bool.eq_false_iff.2 hfx)]
/-! The program's. -/
def lowP (l : List Point) : Nat → Point
  | 0 => l.getD 0 Point.zero
  | i + 1 => ⟨min (lowP l i).weight (l.getD i Point.zero).weight, min (lowP l i).index (l.getD i Point.zero).index⟩
def highP (l : List Point) : Nat → Point
  | 0 => l.getD 0 Point.zero
  | i + 1 => ⟨max (highP l i).weight (l.getD i Point.zero).weight, max (highP l i).index (l.getD i Point.zero).index⟩
def boxB (l : List Point) (x : Point) : Bool := within x.weight (lowP l l.length).weight (highP l l.length).weight && within x.index (lowP l l.length).index (highP l l.length).index
def leftB (l : List Point) (x : Point) (n : Nat) : Bool := (List.range n).any fun k => decide (0 < sx l x k)
def rightB (l : List Point) (x : Point) (n : Nat) : Bool := (List.range n).any fun k => decide (sx l x k < 0)
def insP (l : List Point) (x : Point) : Bool := boxB l x && (!leftB l x l.length || !rightB l x l.length)
theorem left_succ (l x n) : leftB l x (n + 1) = (leftB l x n || decide (0 < sx l x n)) := by unfold leftB; rw [List.range_succ, List.any_append]; simp
theorem right_succ (l x n) : rightB l x (n + 1) = (rightB l x n || decide (sx l x n < 0)) := by unfold rightB; rw [List.range_succ, List.any_append]; simp
theorem low_fine {l : List Point} (h : FineL l) : ∀ i, i ≤ l.length → fineP (lowP l i)
  | 0, _ => by rw [lowP, getD_lt _ _ _ (by have := h.1; omega)]; exact fine_mem h _
  | i + 1, hi => by
    obtain ⟨a1, a2, a3, a4⟩ := low_fine h i (by omega)
    obtain ⟨b1, b2, b3, b4⟩ := fine_mem h (show i < l.length by omega)
    rw [lowP, getD_lt _ _ _ (by omega)]
    unfold fineP; dsimp only; omega
theorem high_fine {l : List Point} (h : FineL l) : ∀ i, i ≤ l.length → fineP (highP l i)
  | 0, _ => by rw [highP, getD_lt _ _ _ (by have := h.1; omega)]; exact fine_mem h _
  | i + 1, hi => by
    obtain ⟨a1, a2, a3, a4⟩ := high_fine h i (by omega)
    obtain ⟨b1, b2, b3, b4⟩ := fine_mem h (show i < l.length by omega)
    rw [highP, getD_lt _ _ _ (by omega)]
    unfold fineP; dsimp only; omega
theorem box_fine {l : List Point} {x : Point} (h : FineL l) (hb : boxB l x = true) : fineP x := by
  obtain ⟨a1, a2, a3, a4⟩ := low_fine h l.length (Nat.le_refl _)
  obtain ⟨b1, b2, b3, b4⟩ := high_fine h l.length (Nat.le_refl _)
  simp only [boxB, within, Bool.and_eq_true, decide_eq_true_eq] at hb
  unfold fineP; omega
def fInP (x : List Point × Point) : Prop × V := (FineL x.1, .bool (insP x.1 x.2))
noncomputable def tIn : Tab
  | 30 => (gOf aS fS)
  | 23 => (gOf aW fW)
  | _ => gNo
theorem tIn_ok : ∀ f, PureC Tryd.prog UT f (tIn f) := fun f => by
  unfold tIn
  split
  · exact side_p
  · exact within_p
  · exact PureC.no
set_option maxHeartbeats 2000000 in
theorem inside_p0 : PureC Tryd.prog UT 17 (gOf aIn fInP) := by
  have hG := tIn_ok
  refine PureC.ofArgs aIn_inj Tryd.func17 body17 nm17 res17 ?_
  rintro ⟨l, ⟨xw, xi⟩⟩ hv
  refine ⟨by rw [nt17]; simp [aIn], fun C hN Q hQ => ?_⟩
  rw [nt17] at hN
  unfold c17
  replace hv : FineL l := hv
  obtain ⟨h3, hl, -⟩ := id hv
  have q0 : 0 < l.length := by omega
  refine aw_seq (aw_region (EF := EF0) hG (by rw [hN]; exact tr17_0) ?_)
  simp only [a17_0, go_sem, ↓reduceIte, Nat.reduceEqDiff, reduceCtorEq, Nat.reduceAdd, Nat.reduceLT, Nat.reduceLeDiff, Nat.reduceBNe, Nat.reduceBEq, Int.reduceToNat, aIn, Point.enc, tIn, fW_eq]
  refine aw_seq ?_
  refine aw_seq (aw_region (EF := EF0) hG (by rw [hN]; exact tr17_1) ?_)
  simp only [a17_1, go_sem, ↓reduceIte, Nat.reduceEqDiff, reduceCtorEq, Nat.reduceAdd, Nat.reduceLT, Nat.reduceLeDiff, Nat.reduceBNe, Nat.reduceBEq, Int.reduceToNat, tIn, fW_eq]
  refine aw_cond (b := _) rfl (fun h1 => ?_) (fun h1 => ?_)
  · simp only [decide_eq_true_eq, decide_eq_false_iff_not, Bool.and_eq_true, Bool.or_eq_true, Bool.not_eq_true', Bool.not_eq_false', Bool.and_eq_false_iff, Bool.or_eq_false_iff, Int.ofNat_lt, Int.ofNat_le, Nat.not_lt, Nat.not_le, Int.not_lt, Int.not_le] at h1
    refine aw_seq (aw_region (EF := EF0) hG (by rw [hN]; exact tr17_2) ?_)
    simp only [a17_2, go_sem, ↓reduceIte, Nat.reduceEqDiff, reduceCtorEq, Nat.reduceAdd, Nat.reduceLT, Nat.reduceLeDiff, Nat.reduceBNe, Nat.reduceBEq, Int.reduceToNat, tIn, fW_eq]
    exfalso; omega
  · simp only [decide_eq_true_eq, decide_eq_false_iff_not, Bool.and_eq_true, Bool.or_eq_true, Bool.not_eq_true', Bool.not_eq_false', Bool.and_eq_false_iff, Bool.or_eq_false_iff, Int.ofNat_lt, Int.ofNat_le, Nat.not_lt, Nat.not_le, Int.not_lt, Int.not_le] at h1
    refine aw_skip ?_
    simp only [go_sem, ↓reduceIte, Nat.reduceEqDiff, reduceCtorEq, Nat.reduceAdd, Nat.reduceLT, Nat.reduceLeDiff, Nat.reduceBNe, Nat.reduceBEq, Int.reduceToNat]
    refine aw_seq (aw_regionD (EF := EF0) hG mixed (by rw [hN]; exact tr17_3) ok17_3 ?_)
    simp only [a17_3, d17_3, go_sem, ↓reduceIte, Nat.reduceEqDiff, reduceCtorEq, Nat.reduceAdd, Nat.reduceLT, Nat.reduceLeDiff, Nat.reduceBNe, Nat.reduceBEq, Int.reduceToNat, getD_mapd _ _ _ _ q0, q0, Point.enc, tIn, fW_eq]
    (repeat' apply And.intro) <;> (try first | omega | (intros; (repeat' apply And.intro) <;> first | assumption | omega | (simp_all; done)))
    refine aw_seq ?_
    refine aw_seq (aw_region (EF := EF0) hG (by rw [hN]; exact tr17_4) ?_)
    simp only [a17_4, go_sem, ↓reduceIte, Nat.reduceEqDiff, reduceCtorEq, Nat.reduceAdd, Nat.reduceLT, Nat.reduceLeDiff, Nat.reduceBNe, Nat.reduceBEq, Int.reduceToNat, tIn, fW_eq]
    refine aw_block ?_
    refine aw_loop (α := Nat × Point × Point) (fun γ => (γ.1 ≤ l.length) ∧ (γ.2.1 = lowP l γ.1) ∧ (γ.2.2 = highP l γ.1)) (fun γ => ⟨mkE [(0, V.list (List.map Point.enc l) false), (3, V.ptr 3 0), (5, V.ptr 5 0), (6, V.ptr 6 0), (23, V.list (List.map Point.enc l) false), (24, V.int IntKind.i64 ↑l.length), (25, .int .i64 γ.1)], mkH [(3, Ob.box 33 [V.int IntKind.i64 xw, V.int IntKind.i64 xi]), (5, .box 33 [.int .i64 γ.2.1.weight, .int .i64 γ.2.1.index]), (6, .box 33 [.int .i64 γ.2.2.weight, .int .i64 γ.2.2.index])]⟩) (fun γ => l.length - γ.1) (0, l[0], l[0]) ⟨Nat.zero_le _, by rw [lowP, getD_lt _ _ _ q0], by rw [highP, getD_lt _ _ _ q0]⟩ ?_ ?_
    · refine Le.mk _ _ ?_ ?_ rfl <;> simp only [go_sem, ↓reduceIte, Nat.reduceEqDiff, reduceCtorEq, Nat.reduceAdd, Nat.reduceLT, Nat.reduceLeDiff, Nat.reduceBNe, Nat.reduceBEq, Int.reduceToNat] <;> (repeat' apply And.intro) <;> (try first | rfl | exact wk_frzb rfl rfl rfl | exact wk_fn rfl | exact .nilo _ _ _ rfl rfl)
    · rintro ⟨i, a, b⟩ ⟨hi, ha, hb⟩ KL0 hKL0
      try dsimp only at *
      refine aw_seq (aw_region (EF := EF0) hG (by rw [hN]; exact tr17_5) ?_)
      simp only [a17_5, go_sem, ↓reduceIte, Nat.reduceEqDiff, reduceCtorEq, Nat.reduceAdd, Nat.reduceLT, Nat.reduceLeDiff, Nat.reduceBNe, Nat.reduceBEq, Int.reduceToNat, tIn, fW_eq]
      refine aw_seq ?_
      refine aw_cond (b := _) rfl (fun hc5 => ?_) (fun hc5 => ?_)
      · simp only [decide_eq_true_eq, decide_eq_false_iff_not, Bool.and_eq_true, Bool.or_eq_true, Bool.not_eq_true', Bool.not_eq_false', Bool.and_eq_false_iff, Bool.or_eq_false_iff, Int.ofNat_lt, Int.ofNat_le, Nat.not_lt, Nat.not_le, Int.not_lt, Int.not_le] at hc5
        refine aw_skip ?_
        simp only [go_sem, ↓reduceIte, Nat.reduceEqDiff, reduceCtorEq, Nat.reduceAdd, Nat.reduceLT, Nat.reduceLeDiff, Nat.reduceBNe, Nat.reduceBEq, Int.reduceToNat]
        refine aw_seq ?_
        refine aw_block ?_
        refine aw_seq (aw_region (EF := EF0) hG (by rw [hN]; exact tr17_6) ?_)
        simp only [a17_6, go_sem, ↓reduceIte, Nat.reduceEqDiff, reduceCtorEq, Nat.reduceAdd, Nat.reduceLT, Nat.reduceLeDiff, Nat.reduceBNe, Nat.reduceBEq, Int.reduceToNat, getD_mapd _ _ _ _ hc5, hc5, Point.enc, tIn, fW_eq]
        (repeat' apply And.intro) <;> (try first | omega | (intros; (repeat' apply And.intro) <;> first | assumption | omega | (simp_all; done)))
        refine aw_seq (aw_region (EF := EF0) hG (by rw [hN]; exact tr17_7) ?_)
        simp only [a17_7, go_sem, ↓reduceIte, Nat.reduceEqDiff, reduceCtorEq, Nat.reduceAdd, Nat.reduceLT, Nat.reduceLeDiff, Nat.reduceBNe, Nat.reduceBEq, Int.reduceToNat, tIn, fW_eq]
        refine aw_region (EF := EF0) hG (by rw [hN]; exact tr17_8) ?_
        simp only [a17_8, go_sem, ↓reduceIte, Nat.reduceEqDiff, reduceCtorEq, Nat.reduceAdd, Nat.reduceLT, Nat.reduceLeDiff, Nat.reduceBNe, Nat.reduceBEq, Int.reduceToNat, tIn, fW_eq]
        refine aw_region (EF := EF0) hG (by rw [hN]; exact tr17_9) ?_
        simp only [a17_9, go_sem, ↓reduceIte, Nat.reduceEqDiff, reduceCtorEq, Nat.reduceAdd, Nat.reduceLT, Nat.reduceLeDiff, Nat.reduceBNe, Nat.reduceBEq, Int.reduceToNat, inI, tIn, fW_eq]
        (repeat' apply And.intro) <;> (try first | omega | (intros; (repeat' apply And.intro) <;> first | assumption | omega | (simp_all; done)))
        refine hKL0 (i + 1, ⟨min a.weight l[i].weight, min a.index l[i].index⟩, ⟨max b.weight l[i].weight, max b.index l[i].index⟩) _ ?_ ?_ ?_
        · (try dsimp only); refine ⟨hc5, ?_, ?_⟩; (rw [lowP, getD_lt _ _ _ hc5, ha]); (rw [highP, getD_lt _ _ _ hc5, hb])
        · (try dsimp only); omega
        · refine Le.mk _ _ ?_ ?_ rfl <;> simp only [go_sem, ↓reduceIte, Nat.reduceEqDiff, reduceCtorEq, Nat.reduceAdd, Nat.reduceLT, Nat.reduceLeDiff, Nat.reduceBNe, Nat.reduceBEq, Int.reduceToNat] <;> (repeat' apply And.intro) <;> (try first | rfl | exact wk_frzb rfl rfl rfl | exact wk_fn rfl | exact .nilo _ _ _ rfl rfl)
      · simp only [decide_eq_true_eq, decide_eq_false_iff_not, Bool.and_eq_true, Bool.or_eq_true, Bool.not_eq_true', Bool.not_eq_false', Bool.and_eq_false_iff, Bool.or_eq_false_iff, Int.ofNat_lt, Int.ofNat_le, Nat.not_lt, Nat.not_le, Int.not_lt, Int.not_le] at hc5
        refine aw_exit ?_
        simp only [go_sem, ↓reduceIte, Nat.reduceEqDiff, reduceCtorEq, Nat.reduceAdd, Nat.reduceLT, Nat.reduceLeDiff, Nat.reduceBNe, Nat.reduceBEq, Int.reduceToNat]
        refine aw_seq ?_
        have hil : i = l.length := by omega
        subst hil
        refine aw_seq (aw_region (EF := EF0) hG (by rw [hN]; exact tr17_10) ?_)
        simp only [a17_10, go_sem, ↓reduceIte, Nat.reduceEqDiff, reduceCtorEq, Nat.reduceAdd, Nat.reduceLT, Nat.reduceLeDiff, Nat.reduceBNe, Nat.reduceBEq, Int.reduceToNat, tIn, fW_eq]
        (repeat' apply And.intro) <;> (try first | omega | (intros; (repeat' apply And.intro) <;> first | assumption | omega | (simp_all; done)))
        refine aw_cond (b := _) rfl (fun hb10 => ?_) (fun hb10 => ?_)
        · skip
          have hbx : boxB l ⟨xw, xi⟩ = false := by unfold boxB; rw [← ha, ← hb]; revert hb10; cases within xw a.weight b.weight <;> cases within xi a.index b.index <;> simp
          refine aw_seq (aw_region (EF := EF0) hG (by rw [hN]; exact tr17_11) ?_)
          simp only [a17_11, go_sem, ↓reduceIte, Nat.reduceEqDiff, reduceCtorEq, Nat.reduceAdd, Nat.reduceLT, Nat.reduceLeDiff, Nat.reduceBNe, Nat.reduceBEq, Int.reduceToNat, tIn, fW_eq]
          refine aw_ret ?_
          show Q _ _
          refine hQ _ _ (.inl rfl) ?_ ?_ ?_ <;> simp only [outφ, outV, AR.res, go_sem, ↓reduceIte, Nat.reduceEqDiff, reduceCtorEq, Nat.reduceAdd, Nat.reduceLT, Nat.reduceLeDiff, Nat.reduceBNe, Nat.reduceBEq, Int.reduceToNat, fInP]
          unfold insP; rw [hbx, Bool.false_and]
        · skip
          have hbx : boxB l ⟨xw, xi⟩ = true := by unfold boxB; rw [← ha, ← hb]; revert hb10; cases within xw a.weight b.weight <;> cases within xi a.index b.index <;> simp
          refine aw_skip ?_
          simp only [go_sem, ↓reduceIte, Nat.reduceEqDiff, reduceCtorEq, Nat.reduceAdd, Nat.reduceLT, Nat.reduceLeDiff, Nat.reduceBNe, Nat.reduceBEq, Int.reduceToNat]
          have hfp := box_fine hv hbx
          refine aw_seq (aw_region (EF := EF0) hG (by rw [hN]; exact tr17_12) ?_)
          simp only [a17_12, go_sem, ↓reduceIte, Nat.reduceEqDiff, reduceCtorEq, Nat.reduceAdd, Nat.reduceLT, Nat.reduceLeDiff, Nat.reduceBNe, Nat.reduceBEq, Int.reduceToNat, tIn, fW_eq]
          refine aw_seq ?_
          refine aw_seq (aw_region (EF := EF0) hG (by rw [hN]; exact tr17_13) ?_)
          simp only [a17_13, go_sem, ↓reduceIte, Nat.reduceEqDiff, reduceCtorEq, Nat.reduceAdd, Nat.reduceLT, Nat.reduceLeDiff, Nat.reduceBNe, Nat.reduceBEq, Int.reduceToNat, tIn, fW_eq]
          refine aw_block ?_
          refine aw_loop (α := Nat × Bool × Bool) (fun γ => (γ.1 ≤ l.length) ∧ (γ.2.1 = leftB l ⟨xw, xi⟩ γ.1) ∧ (γ.2.2 = rightB l ⟨xw, xi⟩ γ.1)) (fun γ => ⟨mkE [(0, V.list (List.map Point.enc l) false), (3, V.ptr 3 0), (9, .bool γ.2.1), (10, .bool γ.2.2), (70, V.list (List.map Point.enc l) false), (71, V.int IntKind.i64 ↑l.length), (72, .int .i64 γ.1)], mkH [(3, Ob.box 33 [V.int IntKind.i64 xw, V.int IntKind.i64 xi])]⟩) (fun γ => l.length - γ.1) (0, false, false) ⟨Nat.zero_le _, rfl, rfl⟩ ?_ ?_
          · refine Le.mk _ _ ?_ ?_ rfl <;> simp only [go_sem, ↓reduceIte, Nat.reduceEqDiff, reduceCtorEq, Nat.reduceAdd, Nat.reduceLT, Nat.reduceLeDiff, Nat.reduceBNe, Nat.reduceBEq, Int.reduceToNat] <;> (repeat' apply And.intro) <;> (try first | rfl | exact wk_frzb rfl rfl rfl | exact wk_fn rfl | exact .nilo _ _ _ rfl rfl)
          · rintro ⟨j, le, ri⟩ ⟨hj, hle, hri⟩ KL2 hKL2
            try dsimp only at *
            refine aw_seq (aw_region (EF := EF0) hG (by rw [hN]; exact tr17_14) ?_)
            simp only [a17_14, go_sem, ↓reduceIte, Nat.reduceEqDiff, reduceCtorEq, Nat.reduceAdd, Nat.reduceLT, Nat.reduceLeDiff, Nat.reduceBNe, Nat.reduceBEq, Int.reduceToNat, tIn, fW_eq]
            refine aw_seq ?_
            refine aw_cond (b := _) rfl (fun hc14 => ?_) (fun hc14 => ?_)
            · simp only [decide_eq_true_eq, decide_eq_false_iff_not, Bool.and_eq_true, Bool.or_eq_true, Bool.not_eq_true', Bool.not_eq_false', Bool.and_eq_false_iff, Bool.or_eq_false_iff, Int.ofNat_lt, Int.ofNat_le, Nat.not_lt, Nat.not_le, Int.not_lt, Int.not_le] at hc14
              refine aw_skip ?_
              simp only [go_sem, ↓reduceIte, Nat.reduceEqDiff, reduceCtorEq, Nat.reduceAdd, Nat.reduceLT, Nat.reduceLeDiff, Nat.reduceBNe, Nat.reduceBEq, Int.reduceToNat]
              refine aw_seq ?_
              refine aw_block ?_
              refine aw_seq (aw_region (EF := EF0) hG (by rw [hN]; exact tr17_15) ?_)
              simp only [a17_15, go_sem, ↓reduceIte, Nat.reduceEqDiff, reduceCtorEq, Nat.reduceAdd, Nat.reduceLT, Nat.reduceLeDiff, Nat.reduceBNe, Nat.reduceBEq, Int.reduceToNat, getD_mapd _ _ _ _ hc14, hc14, Point.enc, tIn, fW_eq]
              (repeat' apply And.intro) <;> (try first | omega | (intros; (repeat' apply And.intro) <;> first | assumption | omega | (simp_all; done)))
              obtain ⟨k, hkk⟩ : ∃ k, nx l.length j = k := ⟨_, rfl⟩
              have hk : k < l.length := hkk ▸ nx_lt hc14
              have hsx := sx_k (x := ⟨xw, xi⟩) hc14 hkk hk
              have g1 := fine_mem hv hc14
              have g2 := fine_mem hv hk
              refine aw_seq (aw_regionD (EF := EF0) hG mixed (by rw [hN]; exact tr17_16) ok17_16 ?_)
              simp only [a17_16, d17_16, go_sem, ↓reduceIte, Nat.reduceEqDiff, reduceCtorEq, Nat.reduceAdd, Nat.reduceLT, Nat.reduceLeDiff, Nat.reduceBNe, Nat.reduceBEq, Int.reduceToNat, inI, nx_cast, hkk, getD_mapd _ _ _ _ hk, hk, Point.enc, fSx_eq, g1, g2, hfp, hsx, tIn, fW_eq]
              (repeat' apply And.intro) <;> (try first | omega | (intros; (repeat' apply And.intro) <;> first | assumption | omega | (simp_all; done)))
              refine aw_seq (aw_region (EF := EF0) hG (by rw [hN]; exact tr17_17) ?_)
              simp only [a17_17, go_sem, ↓reduceIte, Nat.reduceEqDiff, reduceCtorEq, Nat.reduceAdd, Nat.reduceLT, Nat.reduceLeDiff, Nat.reduceBNe, Nat.reduceBEq, Int.reduceToNat, tIn, fW_eq]
              (repeat' apply And.intro) <;> (try first | omega | (intros; (repeat' apply And.intro) <;> first | assumption | omega | (simp_all; done)))
              refine aw_region (EF := EF0) hG (by rw [hN]; exact tr17_18) ?_
              simp only [a17_18, go_sem, ↓reduceIte, Nat.reduceEqDiff, reduceCtorEq, Nat.reduceAdd, Nat.reduceLT, Nat.reduceLeDiff, Nat.reduceBNe, Nat.reduceBEq, Int.reduceToNat, tIn, fW_eq]
              (repeat' apply And.intro) <;> (try first | omega | (intros; (repeat' apply And.intro) <;> first | assumption | omega | (simp_all; done)))
              refine aw_region (EF := EF0) hG (by rw [hN]; exact tr17_19) ?_
              simp only [a17_19, go_sem, ↓reduceIte, Nat.reduceEqDiff, reduceCtorEq, Nat.reduceAdd, Nat.reduceLT, Nat.reduceLeDiff, Nat.reduceBNe, Nat.reduceBEq, Int.reduceToNat, inI, tIn, fW_eq]
              (repeat' apply And.intro) <;> (try first | omega | (intros; (repeat' apply And.intro) <;> first | assumption | omega | (simp_all; done)))
              refine hKL2 (j + 1, le || decide (0 < sx l ⟨xw, xi⟩ j), ri || decide (sx l ⟨xw, xi⟩ j < 0)) _ ?_ ?_ ?_
              · (try dsimp only); exact ⟨hc14, by rw [left_succ, hle], by rw [right_succ, hri]⟩
              · (try dsimp only); omega
              · refine Le.mk _ _ ?_ ?_ rfl <;> simp only [go_sem, ↓reduceIte, Nat.reduceEqDiff, reduceCtorEq, Nat.reduceAdd, Nat.reduceLT, Nat.reduceLeDiff, Nat.reduceBNe, Nat.reduceBEq, Int.reduceToNat] <;> (repeat' apply And.intro) <;> (try first | rfl | exact wk_frzb rfl rfl rfl | exact wk_fn rfl | exact .nilo _ _ _ rfl rfl)
            · simp only [decide_eq_true_eq, decide_eq_false_iff_not, Bool.and_eq_true, Bool.or_eq_true, Bool.not_eq_true', Bool.not_eq_false', Bool.and_eq_false_iff, Bool.or_eq_false_iff, Int.ofNat_lt, Int.ofNat_le, Nat.not_lt, Nat.not_le, Int.not_lt, Int.not_le] at hc14
              refine aw_exit ?_
              simp only [go_sem, ↓reduceIte, Nat.reduceEqDiff, reduceCtorEq, Nat.reduceAdd, Nat.reduceLT, Nat.reduceLeDiff, Nat.reduceBNe, Nat.reduceBEq, Int.reduceToNat]
              refine aw_seq (aw_region (EF := EF0) hG (by rw [hN]; exact tr17_20) ?_)
              simp only [a17_20, go_sem, ↓reduceIte, Nat.reduceEqDiff, reduceCtorEq, Nat.reduceAdd, Nat.reduceLT, Nat.reduceLeDiff, Nat.reduceBNe, Nat.reduceBEq, Int.reduceToNat, tIn, fW_eq]
              (repeat' apply And.intro) <;> (try first | omega | (intros; (repeat' apply And.intro) <;> first | assumption | omega | (simp_all; done)))
              refine aw_ret ?_
              show Q _ _
              refine hQ _ _ (.inl rfl) ?_ ?_ ?_ <;> simp only [outφ, outV, AR.res, go_sem, ↓reduceIte, Nat.reduceEqDiff, reduceCtorEq, Nat.reduceAdd, Nat.reduceLT, Nat.reduceLeDiff, Nat.reduceBNe, Nat.reduceBEq, Int.reduceToNat, fInP]
              unfold insP; rw [hbx, Bool.true_and, hle, hri, Nat.le_antisymm hj hc14]
/-! What both have in common. -/
def crs (u v : Int × Int) : Int := u.1 * v.2 - u.2 * v.1
end Go.Proofs.YtemeeeomcjdlnaaDoor
