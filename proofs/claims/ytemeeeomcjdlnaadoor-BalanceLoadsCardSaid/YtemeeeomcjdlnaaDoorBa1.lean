/- Points, sides, convexity. -/
import Derived.Test.YtemeeeomcjdlnaaDoorT3
namespace Go.Proofs.YtemeeeomcjdlnaaDoor
open Go Go.RowKit
set_option linter.unusedSimpArgs false
set_option linter.unusedVariables false
set_option linter.deprecated false
structure Bay where
  arm : Int
  max : Int
def Bay.enc (x : Bay) : List V := [.int .i64 x.arm, .int .i64 x.max]
theorem Bay.inj (a b : Bay) (h : a.enc = b.enc) : a = b := by
  obtain ⟨a_arm, a_max⟩ := a
  obtain ⟨b_arm, b_max⟩ := b
  simp only [Bay.enc, List.cons.injEq, V.str.injEq, V.int.injEq, V.bool.injEq, V.agg.injEq, V.list.injEq, and_true, true_and] at h
  obtain ⟨h0, h1⟩ := h
  subst h0
  subst h1
  rfl
def Bay.ok (x : Bay) : Prop := inI x.arm ∧ inI x.max
def Bay.zero : Bay := ⟨0, 0⟩
theorem Bay.rows (l : List Bay) : (∀ r ∈ l.map Bay.enc, r.length = 2) ↔ True := iff_true_intro fun r hr => by obtain ⟨x, _, rfl⟩ := List.mem_map.1 hr; rfl
theorem Bay.purs (l : List Bay) : (∀ r ∈ l.map Bay.enc, V.purs r = true) ↔ True := iff_true_intro fun r hr => by obtain ⟨x, _, rfl⟩ := List.mem_map.1 hr; rfl
attribute [go_sem] Bay.rows Bay.purs
theorem Bay.mapLen (l : List Bay) : (l.map Bay.enc).length = l.length := List.length_map _
structure Point where
  weight : Int
  index : Int
def Point.enc (x : Point) : List V := [.int .i64 x.weight, .int .i64 x.index]
theorem Point.inj (a b : Point) (h : a.enc = b.enc) : a = b := by
  obtain ⟨a_weight, a_index⟩ := a
  obtain ⟨b_weight, b_index⟩ := b
  simp only [Point.enc, List.cons.injEq, V.str.injEq, V.int.injEq, V.bool.injEq, V.agg.injEq, V.list.injEq, and_true, true_and] at h
  obtain ⟨h0, h1⟩ := h
  subst h0
  subst h1
  rfl
def Point.ok (x : Point) : Prop := inI x.weight ∧ inI x.index
def Point.zero : Point := ⟨0, 0⟩
theorem Point.rows (l : List Point) : (∀ r ∈ l.map Point.enc, r.length = 2) ↔ True := iff_true_intro fun r hr => by obtain ⟨x, _, rfl⟩ := List.mem_map.1 hr; rfl
theorem Point.purs (l : List Point) : (∀ r ∈ l.map Point.enc, V.purs r = true) ↔ True := iff_true_intro fun r hr => by obtain ⟨x, _, rfl⟩ := List.mem_map.1 hr; rfl
attribute [go_sem] Point.rows Point.purs
theorem Point.mapLen (l : List Point) : (l.map Point.enc).length = l.length := List.length_map _
structure Trim where
  empty : Int
  index : Int
  bays : List Bay
  envelope : List Point
def Trim.enc (x : Trim) : List V := [.int .i64 x.empty, .int .i64 x.index, .list (x.bays.map Bay.enc) false, .list (x.envelope.map Point.enc) false]
theorem Trim.inj (a b : Trim) (h : a.enc = b.enc) : a = b := by
  obtain ⟨a_empty, a_index, a_bays, a_envelope⟩ := a
  obtain ⟨b_empty, b_index, b_bays, b_envelope⟩ := b
  simp only [Trim.enc, List.cons.injEq, V.str.injEq, V.int.injEq, V.bool.injEq, V.agg.injEq, V.list.injEq, and_true, true_and] at h
  obtain ⟨h0, h1, h2, h3⟩ := h
  subst h0
  subst h1
  replace h2 := map_inj' Bay.inj h2
  subst h2
  replace h3 := map_inj' Point.inj h3
  subst h3
  rfl
def Trim.ok (x : Trim) : Prop := inI x.empty ∧ inI x.index ∧ (x.bays.length ≤ 140737488355328 ∧ ∀ z ∈ x.bays, z.ok) ∧ (x.envelope.length ≤ 140737488355328 ∧ ∀ z ∈ x.envelope, z.ok)
def Trim.zero : Trim := ⟨0, 0, [], []⟩
theorem Trim.rows (l : List Trim) : (∀ r ∈ l.map Trim.enc, r.length = 4) ↔ True := iff_true_intro fun r hr => by obtain ⟨x, _, rfl⟩ := List.mem_map.1 hr; rfl
theorem Trim.purs (l : List Trim) : (∀ r ∈ l.map Trim.enc, V.purs r = true) ↔ True := iff_true_intro fun r hr => by obtain ⟨x, _, rfl⟩ := List.mem_map.1 hr; rfl
attribute [go_sem] Trim.rows Trim.purs
theorem Trim.mapLen (l : List Trim) : (l.map Trim.enc).length = l.length := List.length_map _
def within (n lo hi : Int) : Bool := decide (lo ≤ n) && decide (n ≤ hi)
def aW (x : Int × Int × Int) : List V := [.int .i64 x.1, .int .i64 x.2.1, .int .i64 x.2.2]
theorem aW_inj (a b : Int × Int × Int) (h : aW a = aW b) : a = b := by
  obtain ⟨a_n, a_lo, a_hi⟩ := a
  obtain ⟨b_n, b_lo, b_hi⟩ := b
  simp only [aW, List.cons.injEq, V.str.injEq, V.int.injEq, V.bool.injEq, V.agg.injEq, V.list.injEq, and_true, true_and] at h
  obtain ⟨h0, h1, h2⟩ := h
  subst h0
  subst h1
  subst h2
  rfl
def fW (x : Int × Int × Int) : Prop × V := (True, .bool (within x.1 x.2.1 x.2.2))
theorem fW_eq (a b c) : gOf aW fW [.int .i64 a, .int .i64 b, .int .i64 c] = (True, .bool (within a b c)) := gOf_eq aW_inj (a, b, c)
theorem within_p : PureC Tryd.prog UT 23 (gOf aW fW) := by
  have hG := tNo_ok
  refine PureC.ofArgs aW_inj Tryd.func23 body23 nm23 res23 ?_
  rintro ⟨a, b, c⟩ hv
  refine ⟨by rw [nt23]; simp [aW], fun C hN Q hQ => ?_⟩
  rw [nt23] at hN
  unfold c23
  refine aw_seq (aw_region (EF := EF0) hG (by rw [hN]; exact tr23_0) ?_)
  simp only [a23_0, go_sem, ↓reduceIte, Nat.reduceEqDiff, reduceCtorEq, Nat.reduceAdd, Nat.reduceLT, Nat.reduceLeDiff, Nat.reduceBNe, Nat.reduceBEq, Int.reduceToNat, aW]
  refine aw_seq (aw_region (EF := EF0) hG (by rw [hN]; exact tr23_1) ?_)
  simp only [a23_1, go_sem, ↓reduceIte, Nat.reduceEqDiff, reduceCtorEq, Nat.reduceAdd, Nat.reduceLT, Nat.reduceLeDiff, Nat.reduceBNe, Nat.reduceBEq, Int.reduceToNat]
  (repeat' apply And.intro) <;> (try first | omega | (intros; (repeat' apply And.intro) <;> first | assumption | omega | (simp_all; done)))
  refine aw_ret ?_
  show Q _ _
  refine hQ _ _ (.inl rfl) ?_ ?_ ?_ <;> simp only [outφ, outV, AR.res, go_sem, ↓reduceIte, Nat.reduceEqDiff, reduceCtorEq, Nat.reduceAdd, Nat.reduceLT, Nat.reduceLeDiff, Nat.reduceBNe, Nat.reduceBEq, Int.reduceToNat, fW, within]
theorem rwithin_p : PureC Tryd.prog UT 26 (gOf aW fW) := by
  have hG := tNo_ok
  refine PureC.ofArgs aW_inj Tryd.func26 body26 nm26 res26 ?_
  rintro ⟨a, b, c⟩ hv
  refine ⟨by rw [nt26]; simp [aW], fun C hN Q hQ => ?_⟩
  rw [nt26] at hN
  unfold c26
  refine aw_seq (aw_region (EF := EF0) hG (by rw [hN]; exact tr26_0) ?_)
  simp only [a26_0, go_sem, ↓reduceIte, Nat.reduceEqDiff, reduceCtorEq, Nat.reduceAdd, Nat.reduceLT, Nat.reduceLeDiff, Nat.reduceBNe, Nat.reduceBEq, Int.reduceToNat, aW]
  refine aw_seq (aw_region (EF := EF0) hG (by rw [hN]; exact tr26_1) ?_)
  simp only [a26_1, go_sem, ↓reduceIte, Nat.reduceEqDiff, reduceCtorEq, Nat.reduceAdd, Nat.reduceLT, Nat.reduceLeDiff, Nat.reduceBNe, Nat.reduceBEq, Int.reduceToNat]
  (repeat' apply And.intro) <;> (try first | omega | (intros; (repeat' apply And.intro) <;> first | assumption | omega | (simp_all; done)))
  refine aw_ret ?_
  show Q _ _
  refine hQ _ _ (.inl rfl) ?_ ?_ ?_ <;> simp only [outφ, outV, AR.res, go_sem, ↓reduceIte, Nat.reduceEqDiff, reduceCtorEq, Nat.reduceAdd, Nat.reduceLT, Nat.reduceLeDiff, Nat.reduceBNe, Nat.reduceBEq, Int.reduceToNat, fW, within]
/-! Sides. -/
def sideN (a b x : Point) : Int := (b.weight - a.weight) * (x.index - a.index) - (b.index - a.index) * (x.weight - a.weight)
def side (a b x : Point) : Int := if 0 < sideN a b x then 1 else if sideN a b x < 0 then -1 else 0
theorem side_pos {a b x : Point} (h : 0 < sideN a b x) : side a b x = 1 := if_pos h
theorem side_neg {a b x : Point} (h : sideN a b x < 0) : side a b x = -1 := by unfold side; rw [if_neg (by omega), if_pos h]
theorem side_zero {a b x : Point} (h : ¬ 0 < sideN a b x) (h2 : ¬ sideN a b x < 0) : side a b x = 0 := by unfold side; rw [if_neg h, if_neg h2]
theorem side_cases (a b x : Point) : (0 < sideN a b x ∧ side a b x = 1) ∨ (sideN a b x < 0 ∧ side a b x = -1) ∨ (sideN a b x = 0 ∧ side a b x = 0) := by
  by_cases h : 0 < sideN a b x
  · exact .inl ⟨h, side_pos h⟩
  · by_cases h2 : sideN a b x < 0
    · exact .inr (.inl ⟨h2, side_neg h2⟩)
    · exact .inr (.inr ⟨by omega, side_zero h h2⟩)
def fineP (x : Point) : Prop := 0 ≤ x.weight ∧ x.weight ≤ 20000000 ∧ -20000000000 ≤ x.index ∧ x.index ≤ 20000000000
def aS (x : Point × Point × Point) : List V := [.agg x.1.enc, .agg x.2.1.enc, .agg x.2.2.enc]
theorem aS_inj (a b : Point × Point × Point) (h : aS a = aS b) : a = b := by
  obtain ⟨a_a, a_b, a_x⟩ := a
  obtain ⟨b_a, b_b, b_x⟩ := b
  simp only [aS, List.cons.injEq, V.str.injEq, V.int.injEq, V.bool.injEq, V.agg.injEq, V.list.injEq, and_true, true_and] at h
  obtain ⟨h0, h1, h2⟩ := h
  replace h0 := Point.inj _ _ h0
  subst h0
  replace h1 := Point.inj _ _ h1
  subst h1
  replace h2 := Point.inj _ _ h2
  subst h2
  rfl
def fS (x : Point × Point × Point) : Prop × V := (fineP x.1 ∧ fineP x.2.1 ∧ fineP x.2.2, .int .i64 (side x.1 x.2.1 x.2.2))
theorem fS_eq (a b c d e f) : gOf aS fS [.agg [.int .i64 a, .int .i64 b], .agg [.int .i64 c, .int .i64 d], .agg [.int .i64 e, .int .i64 f]] = (fineP ⟨a, b⟩ ∧ fineP ⟨c, d⟩ ∧ fineP ⟨e, f⟩, .int .i64 (side ⟨a, b⟩ ⟨c, d⟩ ⟨e, f⟩)) := gOf_eq aS_inj (⟨a, b⟩, ⟨c, d⟩, ⟨e, f⟩)
theorem mul_b {u v : Int} (hu : -20000000 ≤ u ∧ u ≤ 20000000) (hv : -40000000000 ≤ v ∧ v ≤ 40000000000) : -800000000000000000 ≤ u * v ∧ u * v ≤ 800000000000000000 := by
  have h : (u * v).natAbs ≤ 20000000 * 40000000000 := by rw [Int.natAbs_mul]; exact Nat.mul_le_mul (by omega) (by omega)
  omega
theorem sideN_b {a b x : Point} (ha : fineP a) (hb : fineP b) (hx : fineP x) : -800000000000000000 ≤ (b.weight - a.weight) * (x.index - a.index) ∧ (b.weight - a.weight) * (x.index - a.index) ≤ 800000000000000000 ∧ -800000000000000000 ≤ (b.index - a.index) * (x.weight - a.weight) ∧ (b.index - a.index) * (x.weight - a.weight) ≤ 800000000000000000 := by
  obtain ⟨a1, a2, a3, a4⟩ := ha
  obtain ⟨b1, b2, b3, b4⟩ := hb
  obtain ⟨x1, x2, x3, x4⟩ := hx
  have h1 := mul_b (u := b.weight - a.weight) (v := x.index - a.index) (by omega) (by omega)
  have h2 := mul_b (u := x.weight - a.weight) (v := b.index - a.index) (by omega) (by omega)
  rw [Int.mul_comm] at h2
  exact ⟨h1.1, h1.2, h2.1, h2.2⟩
theorem side_p : PureC Tryd.prog UT 30 (gOf aS fS) := by
  have hG := tNo_ok
  refine PureC.ofArgs aS_inj Tryd.func30 body30 nm30 res30 ?_
  rintro ⟨⟨a, b⟩, ⟨c, d⟩, ⟨e, f⟩⟩ hv
  refine ⟨by rw [nt30]; simp [aS], fun C hN Q hQ => ?_⟩
  rw [nt30] at hN
  unfold c30
  obtain ⟨ha, hb, hx⟩ : fineP ⟨a, b⟩ ∧ fineP ⟨c, d⟩ ∧ fineP ⟨e, f⟩ := hv
  obtain ⟨m1, m2, m3, m4⟩ := sideN_b ha hb hx
  obtain ⟨a1, a2, a3, a4⟩ := ha
  obtain ⟨b1, b2, b3, b4⟩ := hb
  obtain ⟨x1, x2, x3, x4⟩ := hx
  dsimp only at *
  refine aw_seq (aw_region (EF := EF0) hG (by rw [hN]; exact tr30_0) ?_)
  simp only [a30_0, go_sem, ↓reduceIte, Nat.reduceEqDiff, reduceCtorEq, Nat.reduceAdd, Nat.reduceLT, Nat.reduceLeDiff, Nat.reduceBNe, Nat.reduceBEq, Int.reduceToNat, aS, Point.enc]
  refine aw_seq (aw_region (EF := EF0) hG (by rw [hN]; exact tr30_1) ?_)
  simp only [a30_1, go_sem, ↓reduceIte, Nat.reduceEqDiff, reduceCtorEq, Nat.reduceAdd, Nat.reduceLT, Nat.reduceLeDiff, Nat.reduceBNe, Nat.reduceBEq, Int.reduceToNat, inI]
  (repeat' apply And.intro) <;> (try first | omega | (intros; (repeat' apply And.intro) <;> first | assumption | omega | (simp_all; done)))
  refine aw_seq ?_
  refine aw_block ?_
  refine aw_seq (aw_region (EF := EF0) hG (by rw [hN]; exact tr30_2) ?_)
  simp only [a30_2, go_sem, ↓reduceIte, Nat.reduceEqDiff, reduceCtorEq, Nat.reduceAdd, Nat.reduceLT, Nat.reduceLeDiff, Nat.reduceBNe, Nat.reduceBEq, Int.reduceToNat]
  refine aw_cond (b := _) rfl (fun hb => ?_) (fun hb => ?_)
  · skip
    refine aw_seq (aw_region (EF := EF0) hG (by rw [hN]; exact tr30_3) ?_)
    simp only [a30_3, go_sem, ↓reduceIte, Nat.reduceEqDiff, reduceCtorEq, Nat.reduceAdd, Nat.reduceLT, Nat.reduceLeDiff, Nat.reduceBNe, Nat.reduceBEq, Int.reduceToNat]
    refine aw_ret ?_
    show Q _ _
    refine hQ _ _ (.inl rfl) ?_ ?_ ?_ <;> simp only [outφ, outV, AR.res, go_sem, ↓reduceIte, Nat.reduceEqDiff, reduceCtorEq, Nat.reduceAdd, Nat.reduceLT, Nat.reduceLeDiff, Nat.reduceBNe, Nat.reduceBEq, Int.reduceToNat, fS]
    exact congrArg (V.int .i64) (side_pos (a := ⟨a, b⟩) (b := ⟨c, d⟩) (x := ⟨e, f⟩) (of_decide_eq_true hb)).symm
  · skip
    refine aw_seq (aw_region (EF := EF0) hG (by rw [hN]; exact tr30_4) ?_)
    simp only [a30_4, go_sem, ↓reduceIte, Nat.reduceEqDiff, reduceCtorEq, Nat.reduceAdd, Nat.reduceLT, Nat.reduceLeDiff, Nat.reduceBNe, Nat.reduceBEq, Int.reduceToNat]
    refine aw_cond (b := _) rfl (fun hb4 => ?_) (fun hb4 => ?_)
    · skip
      refine aw_seq (aw_region (EF := EF0) hG (by rw [hN]; exact tr30_5) ?_)
      simp only [a30_5, go_sem, ↓reduceIte, Nat.reduceEqDiff, reduceCtorEq, Nat.reduceAdd, Nat.reduceLT, Nat.reduceLeDiff, Nat.reduceBNe, Nat.reduceBEq, Int.reduceToNat]
      refine aw_ret ?_
      show Q _ _
      refine hQ _ _ (.inl rfl) ?_ ?_ ?_ <;> simp only [outφ, outV, AR.res, go_sem, ↓reduceIte, Nat.reduceEqDiff, reduceCtorEq, Nat.reduceAdd, Nat.reduceLT, Nat.reduceLeDiff, Nat.reduceBNe, Nat.reduceBEq, Int.reduceToNat, fS]
      exact congrArg (V.int .i64) (side_neg (a := ⟨a, b⟩) (b := ⟨c, d⟩) (x := ⟨e, f⟩) (of_decide_eq_true hb4)).symm
    · skip
      refine aw_skip ?_
      simp only [go_sem, ↓reduceIte, Nat.reduceEqDiff, reduceCtorEq, Nat.reduceAdd, Nat.reduceLT, Nat.reduceLeDiff, Nat.reduceBNe, Nat.reduceBEq, Int.reduceToNat]
      refine aw_seq (aw_region (EF := EF0) hG (by rw [hN]; exact tr30_6) ?_)
      simp only [a30_6, go_sem, ↓reduceIte, Nat.reduceEqDiff, reduceCtorEq, Nat.reduceAdd, Nat.reduceLT, Nat.reduceLeDiff, Nat.reduceBNe, Nat.reduceBEq, Int.reduceToNat]
      refine aw_ret ?_
      show Q _ _
      refine hQ _ _ (.inl rfl) ?_ ?_ ?_ <;> simp only [outφ, outV, AR.res, go_sem, ↓reduceIte, Nat.reduceEqDiff, reduceCtorEq, Nat.reduceAdd, Nat.reduceLT, Nat.reduceLeDiff, Nat.reduceBNe, Nat.reduceBEq, Int.reduceToNat, fS]
      exact congrArg (V.int .i64) (side_zero (a := ⟨a, b⟩) (b := ⟨c, d⟩) (x := ⟨e, f⟩) (of_decide_eq_false hb) (of_decide_eq_false hb4)).symm
theorem rside_p : PureC Tryd.prog UT 31 (gOf aS fS) := by
  have hG := tNo_ok
  refine PureC.ofArgs aS_inj Tryd.func31 body31 nm31 res31 ?_
  rintro ⟨⟨a, b⟩, ⟨c, d⟩, ⟨e, f⟩⟩ hv
  refine ⟨by rw [nt31]; simp [aS], fun C hN Q hQ => ?_⟩
  rw [nt31] at hN
  unfold c31
  obtain ⟨ha, hb, hx⟩ : fineP ⟨a, b⟩ ∧ fineP ⟨c, d⟩ ∧ fineP ⟨e, f⟩ := hv
  obtain ⟨m1, m2, m3, m4⟩ := sideN_b ha hb hx
  obtain ⟨a1, a2, a3, a4⟩ := ha
  obtain ⟨b1, b2, b3, b4⟩ := hb
  obtain ⟨x1, x2, x3, x4⟩ := hx
  dsimp only at *
  refine aw_seq (aw_region (EF := EF0) hG (by rw [hN]; exact tr31_0) ?_)
  simp only [a31_0, go_sem, ↓reduceIte, Nat.reduceEqDiff, reduceCtorEq, Nat.reduceAdd, Nat.reduceLT, Nat.reduceLeDiff, Nat.reduceBNe, Nat.reduceBEq, Int.reduceToNat, aS, Point.enc]
  refine aw_seq (aw_region (EF := EF0) hG (by rw [hN]; exact tr31_1) ?_)
  simp only [a31_1, go_sem, ↓reduceIte, Nat.reduceEqDiff, reduceCtorEq, Nat.reduceAdd, Nat.reduceLT, Nat.reduceLeDiff, Nat.reduceBNe, Nat.reduceBEq, Int.reduceToNat, inI]
  (repeat' apply And.intro) <;> (try first | omega | (intros; (repeat' apply And.intro) <;> first | assumption | omega | (simp_all; done)))
  refine aw_seq ?_
  refine aw_seq (aw_region (EF := EF0) hG (by rw [hN]; exact tr31_2) ?_)
  simp only [a31_2, go_sem, ↓reduceIte, Nat.reduceEqDiff, reduceCtorEq, Nat.reduceAdd, Nat.reduceLT, Nat.reduceLeDiff, Nat.reduceBNe, Nat.reduceBEq, Int.reduceToNat]
  refine aw_cond (b := _) rfl (fun hb => ?_) (fun hb => ?_)
  · skip
    refine aw_seq (aw_region (EF := EF0) hG (by rw [hN]; exact tr31_3) ?_)
    simp only [a31_3, go_sem, ↓reduceIte, Nat.reduceEqDiff, reduceCtorEq, Nat.reduceAdd, Nat.reduceLT, Nat.reduceLeDiff, Nat.reduceBNe, Nat.reduceBEq, Int.reduceToNat]
    refine aw_ret ?_
    show Q _ _
    refine hQ _ _ (.inl rfl) ?_ ?_ ?_ <;> simp only [outφ, outV, AR.res, go_sem, ↓reduceIte, Nat.reduceEqDiff, reduceCtorEq, Nat.reduceAdd, Nat.reduceLT, Nat.reduceLeDiff, Nat.reduceBNe, Nat.reduceBEq, Int.reduceToNat, fS]
    exact congrArg (V.int .i64) (side_pos (a := ⟨a, b⟩) (b := ⟨c, d⟩) (x := ⟨e, f⟩) (of_decide_eq_true hb)).symm
  · skip
    refine aw_skip ?_
    simp only [go_sem, ↓reduceIte, Nat.reduceEqDiff, reduceCtorEq, Nat.reduceAdd, Nat.reduceLT, Nat.reduceLeDiff, Nat.reduceBNe, Nat.reduceBEq, Int.reduceToNat]
    refine aw_seq ?_
    refine aw_seq (aw_region (EF := EF0) hG (by rw [hN]; exact tr31_4) ?_)
    simp only [a31_4, go_sem, ↓reduceIte, Nat.reduceEqDiff, reduceCtorEq, Nat.reduceAdd, Nat.reduceLT, Nat.reduceLeDiff, Nat.reduceBNe, Nat.reduceBEq, Int.reduceToNat]
    refine aw_cond (b := _) rfl (fun hb4 => ?_) (fun hb4 => ?_)
    · skip
      refine aw_seq (aw_region (EF := EF0) hG (by rw [hN]; exact tr31_5) ?_)
      simp only [a31_5, go_sem, ↓reduceIte, Nat.reduceEqDiff, reduceCtorEq, Nat.reduceAdd, Nat.reduceLT, Nat.reduceLeDiff, Nat.reduceBNe, Nat.reduceBEq, Int.reduceToNat]
      refine aw_ret ?_
      show Q _ _
      refine hQ _ _ (.inl rfl) ?_ ?_ ?_ <;> simp only [outφ, outV, AR.res, go_sem, ↓reduceIte, Nat.reduceEqDiff, reduceCtorEq, Nat.reduceAdd, Nat.reduceLT, Nat.reduceLeDiff, Nat.reduceBNe, Nat.reduceBEq, Int.reduceToNat, fS]
      exact congrArg (V.int .i64) (side_neg (a := ⟨a, b⟩) (b := ⟨c, d⟩) (x := ⟨e, f⟩) (of_decide_eq_true hb4)).symm
    · skip
      refine aw_skip ?_
      simp only [go_sem, ↓reduceIte, Nat.reduceEqDiff, reduceCtorEq, Nat.reduceAdd, Nat.reduceLT, Nat.reduceLeDiff, Nat.reduceBNe, Nat.reduceBEq, Int.reduceToNat]
      refine aw_seq (aw_region (EF := EF0) hG (by rw [hN]; exact tr31_6) ?_)
      simp only [a31_6, go_sem, ↓reduceIte, Nat.reduceEqDiff, reduceCtorEq, Nat.reduceAdd, Nat.reduceLT, Nat.reduceLeDiff, Nat.reduceBNe, Nat.reduceBEq, Int.reduceToNat]
      refine aw_ret ?_
      show Q _ _
      refine hQ _ _ (.inl rfl) ?_ ?_ ?_ <;> simp only [outφ, outV, AR.res, go_sem, ↓reduceIte, Nat.reduceEqDiff, reduceCtorEq, Nat.reduceAdd, Nat.reduceLT, Nat.reduceLeDiff, Nat.reduceBNe, Nat.reduceBEq, Int.reduceToNat, fS]
      exact congrArg (V.int .i64) (side_zero (a := ⟨a, b⟩) (b := ⟨c, d⟩) (x := ⟨e, f⟩) (of_decide_eq_false hb) (of_decide_eq_false hb4)).symm
def aP (x : Point) : List V := [.agg x.enc]
theorem aP_inj (a b : Point) (h : aP a = aP b) : a = b := by
  simp only [aP, List.cons.injEq, V.str.injEq, V.int.injEq, V.bool.injEq, V.agg.injEq, V.list.injEq, and_true, true_and] at h
  have h0 := h
  replace h0 := Point.inj _ _ h0
  subst h0
  rfl
def fineB (x : Point) : Bool := within x.weight 0 20000000 && within x.index (-20000000000) 20000000000
theorem fineB_iff (x : Point) : fineB x = true ↔ fineP x := by simp only [fineB, within, fineP, Bool.and_eq_true, decide_eq_true_eq]; omega
def fFine (x : Point) : Prop × V := (True, .bool (fineB x))
theorem fFine_eq (a b) : gOf aP fFine [.agg [.int .i64 a, .int .i64 b]] = (True, .bool (fineB ⟨a, b⟩)) := gOf_eq aP_inj (⟨a, b⟩ : Point)
noncomputable def tFine : Tab
  | 26 => (gOf aW fW)
  | _ => gNo
theorem tFine_ok : ∀ f, PureC Tryd.prog UT f (tFine f) := fun f => by
  unfold tFine
  split
  · exact rwithin_p
  · exact PureC.no
theorem fine_p : PureC Tryd.prog UT 28 (gOf aP fFine) := by
  have hG := tFine_ok
  refine PureC.ofArgs aP_inj Tryd.func28 body28 nm28 res28 ?_
  rintro ⟨a, b⟩ hv
  refine ⟨by rw [nt28]; simp [aP], fun C hN Q hQ => ?_⟩
  rw [nt28] at hN
  unfold c28
  refine aw_seq (aw_region (EF := EF0) hG (by rw [hN]; exact tr28_0) ?_)
  simp only [a28_0, go_sem, ↓reduceIte, Nat.reduceEqDiff, reduceCtorEq, Nat.reduceAdd, Nat.reduceLT, Nat.reduceLeDiff, Nat.reduceBNe, Nat.reduceBEq, Int.reduceToNat, aP, Point.enc]
  refine aw_seq (aw_region (EF := EF0) hG (by rw [hN]; exact tr28_1) ?_)
  simp only [a28_1, go_sem, ↓reduceIte, Nat.reduceEqDiff, reduceCtorEq, Nat.reduceAdd, Nat.reduceLT, Nat.reduceLeDiff, Nat.reduceBNe, Nat.reduceBEq, Int.reduceToNat, tFine, fW_eq]
  (repeat' apply And.intro) <;> (try first | omega | (intros; (repeat' apply And.intro) <;> first | assumption | omega | (simp_all; done)))
  refine aw_ret ?_
  show Q _ _
  refine hQ _ _ (.inl rfl) ?_ ?_ ?_ <;> simp only [outφ, outV, AR.res, go_sem, ↓reduceIte, Nat.reduceEqDiff, reduceCtorEq, Nat.reduceAdd, Nat.reduceLT, Nat.reduceLeDiff, Nat.reduceBNe, Nat.reduceBEq, Int.reduceToNat, fFine, fineB]
end Go.Proofs.YtemeeeomcjdlnaaDoor
