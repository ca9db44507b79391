/- Point, of the program and of the reference. -/
import Derived.Test.YtemeeeomcjdlnaaDoorBa4
namespace Go.Proofs.YtemeeeomcjdlnaaDoor
open Go Go.RowKit
set_option linter.unusedSimpArgs false
set_option linter.unusedVariables false
set_option linter.deprecated false
def ptAt (t : Trim) (ls : List Int) : Nat → Point
  | 0 => ⟨t.empty, t.index⟩
  | i + 1 => ⟨(ptAt t ls i).weight + ls.getD i 0, (ptAt t ls i).index + ls.getD i 0 * (t.bays.getD i Bay.zero).arm⟩
def overB (t : Trim) (ls : List Int) (i : Nat) : Bool := decide ((t.bays.getD i Bay.zero).max < ls.getD i 0)
def negB (x : Int) : Bool := decide (x < 0)
def pointOf (t : Trim) (ls : List Int) : Point × Int :=
  if ls.length ≠ t.bays.length then (Point.zero, 2) else if ls.any negB then (Point.zero, 2) else if (List.range ls.length).any (overB t ls) then (Point.zero, 32) else (ptAt t ls ls.length, 0)
def TrimOk (t : Trim) : Prop := (0 ≤ t.empty ∧ t.empty ≤ 1000000) ∧ (-1000000000 ≤ t.index ∧ t.index ≤ 1000000000) ∧ (1 ≤ t.bays.length ∧ t.bays.length ≤ 16) ∧ (∀ b ∈ t.bays, (-1000 ≤ b.arm ∧ b.arm ≤ 1000) ∧ 0 ≤ b.max ∧ b.max ≤ 1000000) ∧ FineL t.envelope ∧ t.envelope.length ≤ 16 ∧ turn t.envelope ≠ 0
theorem pt0 {t : Trim} {ls : List Int} (h : ls.length ≠ t.bays.length) : pointOf t ls = (Point.zero, 2) := if_pos h
theorem pt1 {t : Trim} {ls : List Int} (h : ls.length = t.bays.length) (h2 : ls.any negB = true) : pointOf t ls = (Point.zero, 2) := by unfold pointOf; rw [if_neg (by simpa using h), if_pos h2]
theorem pt2 {t : Trim} {ls : List Int} (h : ls.length = t.bays.length) (h2 : ls.any negB = false) {i : Nat} (hi : i < ls.length) (h3 : overB t ls i = true) : pointOf t ls = (Point.zero, 32) := by
  unfold pointOf; rw [if_neg (by simpa using h), if_neg (by rw [h2]; decide), if_pos (List.any_eq_true.2 ⟨i, List.mem_range.2 hi, h3⟩)]
theorem pt3 {t : Trim} {ls : List Int} (h : ls.length = t.bays.length) (h2 : ls.any negB = false) (h3 : ∀ i, i < ls.length → overB t ls i = false) : pointOf t ls = (ptAt t ls ls.length, 0) := by
  unfold pointOf
  rw [if_neg (by simpa using h), if_neg (by rw [h2]; decide), if_neg]
  rw [Bool.not_eq_true, List.any_eq_false]
  intro x hx
  rw [h3 x (List.mem_range.1 hx)]; decide
theorem arm_b {u v : Int} (hu : 0 ≤ u ∧ u ≤ 1000000) (hv : -1000 ≤ v ∧ v ≤ 1000) : -1000000000 ≤ u * v ∧ u * v ≤ 1000000000 := by
  have h : (u * v).natAbs ≤ 1000000 * 1000 := by rw [Int.natAbs_mul]; exact Nat.mul_le_mul (by omega) (by omega)
  omega
def PtB (p : Point) (i : Nat) : Prop := 0 ≤ p.weight ∧ p.weight ≤ 1000000 + 1000000 * (i : Int) ∧ -1000000000 - 1000000000 * (i : Int) ≤ p.index ∧ p.index ≤ 1000000000 + 1000000000 * (i : Int)
theorem over_no {t : Trim} {ls : List Int} {i : Nat} (hi : i < ls.length) (hb : i < t.bays.length) : overB t ls i = decide (t.bays[i].max < ls[i]) := by unfold overB; rw [getD_lt _ _ _ hi, getD_lt _ _ _ hb]
theorem ptAt_succ {t : Trim} {ls : List Int} {i : Nat} (hi : i < ls.length) (hb : i < t.bays.length) : ptAt t ls (i + 1) = ⟨(ptAt t ls i).weight + ls[i], (ptAt t ls i).index + ls[i] * t.bays[i].arm⟩ := by rw [ptAt, getD_lt _ _ _ hi, getD_lt _ _ _ hb]
def aPl (x : Trim × List Int) : List V := [.agg x.1.enc, .list (ints x.2) false]
theorem aPl_inj (a b : Trim × List Int) (h : aPl a = aPl b) : a = b := by
  obtain ⟨a_t, a_loads⟩ := a
  obtain ⟨b_t, b_loads⟩ := b
  simp only [aPl, List.cons.injEq, V.str.injEq, V.int.injEq, V.bool.injEq, V.agg.injEq, V.list.injEq, and_true, true_and] at h
  obtain ⟨h0, h1⟩ := h
  replace h0 := Trim.inj _ _ h0
  subst h0
  replace h1 := ints_inj h1
  subst h1
  rfl
def fPt (x : Trim × List Int) : Prop × V := (TrimOk x.1 ∧ x.2.length ≤ 1000, .tup [.agg (pointOf x.1 x.2).1.enc, .int .i64 (pointOf x.1 x.2).2])
set_option maxHeartbeats 2000000 in
theorem point_p : PureC Tryd.prog UT 13 (gOf aPl fPt) := by
  have hG := tNo_ok
  refine PureC.ofArgs aPl_inj Tryd.func13 body13 nm13 res13 ?_
  rintro ⟨⟨em, ix, bs, en⟩, ls⟩ hv
  refine ⟨by rw [nt13]; simp [aPl], fun C hN Q hQ => ?_⟩
  rw [nt13] at hN
  unfold c13
  obtain ⟨⟨he, hx, hbl, hbb, -⟩, hll⟩ : TrimOk ⟨em, ix, bs, en⟩ ∧ ls.length ≤ 1000 := hv
  dsimp only at he hx hbl hbb
  refine aw_seq (aw_region (EF := EF0) hG (by rw [hN]; exact tr13_0) ?_)
  simp only [a13_0, go_sem, ↓reduceIte, Nat.reduceEqDiff, reduceCtorEq, Nat.reduceAdd, Nat.reduceLT, Nat.reduceLeDiff, Nat.reduceBNe, Nat.reduceBEq, Int.reduceToNat, aPl, Trim.enc]
  refine aw_seq ?_
  refine aw_seq (aw_region (EF := EF0) hG (by rw [hN]; exact tr13_1) ?_)
  simp only [a13_1, go_sem, ↓reduceIte, Nat.reduceEqDiff, reduceCtorEq, Nat.reduceAdd, Nat.reduceLT, Nat.reduceLeDiff, Nat.reduceBNe, Nat.reduceBEq, Int.reduceToNat]
  refine aw_cond (b := _) rfl (fun hc1 => ?_) (fun hc1 => ?_)
  · simp only [decide_eq_true_eq, decide_eq_false_iff_not, Bool.and_eq_true, Bool.or_eq_true, Bool.not_eq_true', Bool.not_eq_false', Bool.and_eq_false_iff, Bool.or_eq_false_iff, Int.ofNat_lt, Int.ofNat_le, Nat.not_lt, Nat.not_le, Int.not_lt, Int.not_le] at hc1
    refine aw_seq (aw_region (EF := EF0) hG (by rw [hN]; exact tr13_2) ?_)
    simp only [a13_2, go_sem, ↓reduceIte, Nat.reduceEqDiff, reduceCtorEq, Nat.reduceAdd, Nat.reduceLT, Nat.reduceLeDiff, Nat.reduceBNe, Nat.reduceBEq, Int.reduceToNat]
    refine aw_ret ?_
    show Q _ _
    refine hQ _ _ (.inl rfl) ?_ ?_ ?_ <;> simp only [outφ, outV, AR.res, go_sem, ↓reduceIte, Nat.reduceEqDiff, reduceCtorEq, Nat.reduceAdd, Nat.reduceLT, Nat.reduceLeDiff, Nat.reduceBNe, Nat.reduceBEq, Int.reduceToNat, fPt]
    rw [pt0 (show ls.length ≠ (⟨em, ix, bs, en⟩ : Trim).bays.length from fun h => hc1 (congrArg (fun n : Nat => (n : Int)) h))]; rfl
  · simp only [decide_eq_true_eq, decide_eq_false_iff_not, Bool.and_eq_true, Bool.or_eq_true, Bool.not_eq_true', Bool.not_eq_false', Bool.and_eq_false_iff, Bool.or_eq_false_iff, Int.ofNat_lt, Int.ofNat_le, Nat.not_lt, Nat.not_le, Int.not_lt, Int.not_le] at hc1
    have hl : ls.length = (⟨em, ix, bs, en⟩ : Trim).bays.length := by simpa [Int.ofNat_inj] using hc1
    have hl' : ls.length = bs.length := hl
    refine aw_skip ?_
    simp only [go_sem, ↓reduceIte, Nat.reduceEqDiff, reduceCtorEq, Nat.reduceAdd, Nat.reduceLT, Nat.reduceLeDiff, Nat.reduceBNe, Nat.reduceBEq, Int.reduceToNat]
    refine aw_seq ?_
    refine aw_seq (aw_region (EF := EF0) hG (by rw [hN]; exact tr13_3) ?_)
    simp only [a13_3, go_sem, ↓reduceIte, Nat.reduceEqDiff, reduceCtorEq, Nat.reduceAdd, Nat.reduceLT, Nat.reduceLeDiff, Nat.reduceBNe, Nat.reduceBEq, Int.reduceToNat]
    refine aw_block ?_
    refine aw_loop (α := Nat) (fun i => (i ≤ ls.length) ∧ (∀ x ∈ ls.take i, negB x = false)) (fun i => ⟨mkE [(1, V.list (ints ls) false), (2, V.ptr 2 0), (4, V.ptr 4 0), (18, V.list (ints ls) false), (19, V.int IntKind.i64 ↑ls.length), (20, .int .i64 i)], mkH [(2, Ob.box 25 [V.int IntKind.i64 em, V.int IntKind.i64 ix, V.list (List.map Bay.enc bs) false, V.list (List.map Point.enc en) false]), (4, Ob.box 33 [V.int IntKind.i64 0, V.int IntKind.i64 0])]⟩) (fun i => ls.length - i) 0 (by simp) ?_ ?_
    · refine Le.mk _ _ ?_ ?_ rfl <;> simp only [go_sem, ↓reduceIte, Nat.reduceEqDiff, reduceCtorEq, Nat.reduceAdd, Nat.reduceLT, Nat.reduceLeDiff, Nat.reduceBNe, Nat.reduceBEq, Int.reduceToNat] <;> (repeat' apply And.intro) <;> (try first | rfl | exact wk_frzb rfl rfl rfl | exact wk_fn rfl | exact .nilo _ _ _ rfl rfl)
    · rintro i ⟨hi, hp⟩ KL0 hKL0
      try dsimp only at *
      refine aw_seq (aw_region (EF := EF0) hG (by rw [hN]; exact tr13_4) ?_)
      simp only [a13_4, go_sem, ↓reduceIte, Nat.reduceEqDiff, reduceCtorEq, Nat.reduceAdd, Nat.reduceLT, Nat.reduceLeDiff, Nat.reduceBNe, Nat.reduceBEq, Int.reduceToNat]
      refine aw_seq ?_
      refine aw_cond (b := _) rfl (fun hc4 => ?_) (fun hc4 => ?_)
      · simp only [decide_eq_true_eq, decide_eq_false_iff_not, Bool.and_eq_true, Bool.or_eq_true, Bool.not_eq_true', Bool.not_eq_false', Bool.and_eq_false_iff, Bool.or_eq_false_iff, Int.ofNat_lt, Int.ofNat_le, Nat.not_lt, Nat.not_le, Int.not_lt, Int.not_le] at hc4
        refine aw_skip ?_
        simp only [go_sem, ↓reduceIte, Nat.reduceEqDiff, reduceCtorEq, Nat.reduceAdd, Nat.reduceLT, Nat.reduceLeDiff, Nat.reduceBNe, Nat.reduceBEq, Int.reduceToNat]
        refine aw_seq ?_
        refine aw_block ?_
        refine aw_seq (aw_region (EF := EF0) hG (by rw [hN]; exact tr13_5) ?_)
        simp only [a13_5, go_sem, ↓reduceIte, Nat.reduceEqDiff, reduceCtorEq, Nat.reduceAdd, Nat.reduceLT, Nat.reduceLeDiff, Nat.reduceBNe, Nat.reduceBEq, Int.reduceToNat, ints_getD _ _ _ hc4, hc4]
        (repeat' apply And.intro) <;> (try first | omega | (intros; (repeat' apply And.intro) <;> first | assumption | omega | (simp_all; done)))
        refine aw_seq (aw_region (EF := EF0) hG (by rw [hN]; exact tr13_6) ?_)
        simp only [a13_6, go_sem, ↓reduceIte, Nat.reduceEqDiff, reduceCtorEq, Nat.reduceAdd, Nat.reduceLT, Nat.reduceLeDiff, Nat.reduceBNe, Nat.reduceBEq, Int.reduceToNat]
        refine aw_cond (b := _) rfl (fun hb6 => ?_) (fun hb6 => ?_)
        · skip
          refine aw_seq (aw_region (EF := EF0) hG (by rw [hN]; exact tr13_7) ?_)
          simp only [a13_7, go_sem, ↓reduceIte, Nat.reduceEqDiff, reduceCtorEq, Nat.reduceAdd, Nat.reduceLT, Nat.reduceLeDiff, Nat.reduceBNe, Nat.reduceBEq, Int.reduceToNat]
          refine aw_ret ?_
          show Q _ _
          refine hQ _ _ (.inl rfl) ?_ ?_ ?_ <;> simp only [outφ, outV, AR.res, go_sem, ↓reduceIte, Nat.reduceEqDiff, reduceCtorEq, Nat.reduceAdd, Nat.reduceLT, Nat.reduceLeDiff, Nat.reduceBNe, Nat.reduceBEq, Int.reduceToNat, fPt]
          rw [pt1 hl (any_at (p := negB) hc4 hb6)]; rfl
        · skip
          refine aw_skip ?_
          simp only [go_sem, ↓reduceIte, Nat.reduceEqDiff, reduceCtorEq, Nat.reduceAdd, Nat.reduceLT, Nat.reduceLeDiff, Nat.reduceBNe, Nat.reduceBEq, Int.reduceToNat]
          refine aw_region (EF := EF0) hG (by rw [hN]; exact tr13_8) ?_
          simp only [a13_8, go_sem, ↓reduceIte, Nat.reduceEqDiff, reduceCtorEq, Nat.reduceAdd, Nat.reduceLT, Nat.reduceLeDiff, Nat.reduceBNe, Nat.reduceBEq, Int.reduceToNat, inI]
          (repeat' apply And.intro) <;> (try first | omega | (intros; (repeat' apply And.intro) <;> first | assumption | omega | (simp_all; done)))
          refine hKL0 (i + 1) _ ?_ ?_ ?_
          · (try dsimp only); exact ⟨hc4, take_all hc4 hp hb6⟩
          · (try dsimp only); omega
          · refine Le.mk _ _ ?_ ?_ rfl <;> simp only [go_sem, ↓reduceIte, Nat.reduceEqDiff, reduceCtorEq, Nat.reduceAdd, Nat.reduceLT, Nat.reduceLeDiff, Nat.reduceBNe, Nat.reduceBEq, Int.reduceToNat] <;> (repeat' apply And.intro) <;> (try first | rfl | exact wk_frzb rfl rfl rfl | exact wk_fn rfl | exact .nilo _ _ _ rfl rfl)
      · simp only [decide_eq_true_eq, decide_eq_false_iff_not, Bool.and_eq_true, Bool.or_eq_true, Bool.not_eq_true', Bool.not_eq_false', Bool.and_eq_false_iff, Bool.or_eq_false_iff, Int.ofNat_lt, Int.ofNat_le, Nat.not_lt, Nat.not_le, Int.not_lt, Int.not_le] at hc4
        refine aw_exit ?_
        simp only [go_sem, ↓reduceIte, Nat.reduceEqDiff, reduceCtorEq, Nat.reduceAdd, Nat.reduceLT, Nat.reduceLeDiff, Nat.reduceBNe, Nat.reduceBEq, Int.reduceToNat]
        have hneg : ls.any negB = false := any_no (p := negB) hc4 hp
        have hnn : ∀ x ∈ ls, 0 ≤ x := fun x hx => by have := List.any_eq_false.1 hneg x hx; simp [negB] at this; omega
        refine aw_seq (aw_region (EF := EF0) hG (by rw [hN]; exact tr13_9) ?_)
        simp only [a13_9, go_sem, ↓reduceIte, Nat.reduceEqDiff, reduceCtorEq, Nat.reduceAdd, Nat.reduceLT, Nat.reduceLeDiff, Nat.reduceBNe, Nat.reduceBEq, Int.reduceToNat]
        refine aw_seq ?_
        refine aw_seq (aw_region (EF := EF0) hG (by rw [hN]; exact tr13_10) ?_)
        simp only [a13_10, go_sem, ↓reduceIte, Nat.reduceEqDiff, reduceCtorEq, Nat.reduceAdd, Nat.reduceLT, Nat.reduceLeDiff, Nat.reduceBNe, Nat.reduceBEq, Int.reduceToNat]
        refine aw_block ?_
        refine aw_loop (α := Nat × Point) (fun γ => (γ.1 ≤ ls.length) ∧ (γ.2 = ptAt ⟨em, ix, bs, en⟩ ls γ.1) ∧ (∀ j, j < γ.1 → overB ⟨em, ix, bs, en⟩ ls j = false) ∧ (PtB γ.2 γ.1)) (fun γ => ⟨mkE [(2, V.ptr 2 0), (4, V.ptr 4 0), (8, V.ptr 8 0), (33, V.list (ints ls) false), (34, V.int IntKind.i64 ↑ls.length), (35, .int .i64 γ.1)], mkH [(2, Ob.box 25 [V.int IntKind.i64 em, V.int IntKind.i64 ix, V.list (List.map Bay.enc bs) false, V.list (List.map Point.enc en) false]), (4, Ob.box 33 [V.int IntKind.i64 0, V.int IntKind.i64 0]), (8, .box 33 [.int .i64 γ.2.weight, .int .i64 γ.2.index])]⟩) (fun γ => ls.length - γ.1) (0, ⟨em, ix⟩) ⟨Nat.zero_le _, rfl, fun j hj => absurd hj (Nat.not_lt_zero _), by unfold PtB; dsimp only; omega⟩ ?_ ?_
        · refine Le.mk _ _ ?_ ?_ rfl <;> simp only [go_sem, ↓reduceIte, Nat.reduceEqDiff, reduceCtorEq, Nat.reduceAdd, Nat.reduceLT, Nat.reduceLeDiff, Nat.reduceBNe, Nat.reduceBEq, Int.reduceToNat] <;> (repeat' apply And.intro) <;> (try first | rfl | exact wk_frzb rfl rfl rfl | exact wk_fn rfl | exact .nilo _ _ _ rfl rfl)
        · rintro ⟨k, p⟩ ⟨hk, hpt, hov, hpb⟩ KL2 hKL2
          try dsimp only at *
          refine aw_seq (aw_region (EF := EF0) hG (by rw [hN]; exact tr13_11) ?_)
          simp only [a13_11, go_sem, ↓reduceIte, Nat.reduceEqDiff, reduceCtorEq, Nat.reduceAdd, Nat.reduceLT, Nat.reduceLeDiff, Nat.reduceBNe, Nat.reduceBEq, Int.reduceToNat]
          refine aw_seq ?_
          refine aw_cond (b := _) rfl (fun hc11 => ?_) (fun hc11 => ?_)
          · simp only [decide_eq_true_eq, decide_eq_false_iff_not, Bool.and_eq_true, Bool.or_eq_true, Bool.not_eq_true', Bool.not_eq_false', Bool.and_eq_false_iff, Bool.or_eq_false_iff, Int.ofNat_lt, Int.ofNat_le, Nat.not_lt, Nat.not_le, Int.not_lt, Int.not_le] at hc11
            refine aw_skip ?_
            simp only [go_sem, ↓reduceIte, Nat.reduceEqDiff, reduceCtorEq, Nat.reduceAdd, Nat.reduceLT, Nat.reduceLeDiff, Nat.reduceBNe, Nat.reduceBEq, Int.reduceToNat]
            refine aw_seq ?_
            refine aw_block ?_
            refine aw_seq (aw_region (EF := EF0) hG (by rw [hN]; exact tr13_12) ?_)
            simp only [a13_12, go_sem, ↓reduceIte, Nat.reduceEqDiff, reduceCtorEq, Nat.reduceAdd, Nat.reduceLT, Nat.reduceLeDiff, Nat.reduceBNe, Nat.reduceBEq, Int.reduceToNat, ints_getD _ _ _ hc11, hc11]
            (repeat' apply And.intro) <;> (try first | omega | (intros; (repeat' apply And.intro) <;> first | assumption | omega | (simp_all; done)))
            refine aw_seq ?_
            have hkb : k < bs.length := by omega
            refine aw_seq (aw_region (EF := EF0) hG (by rw [hN]; exact tr13_13) ?_)
            simp only [a13_13, go_sem, ↓reduceIte, Nat.reduceEqDiff, reduceCtorEq, Nat.reduceAdd, Nat.reduceLT, Nat.reduceLeDiff, Nat.reduceBNe, Nat.reduceBEq, Int.reduceToNat, getD_mapd _ _ _ _ hkb, hkb, Bay.enc]
            (repeat' apply And.intro) <;> (try first | omega | (intros; (repeat' apply And.intro) <;> first | assumption | omega | (simp_all; done)))
            refine aw_cond (b := _) rfl (fun hb13 => ?_) (fun hb13 => ?_)
            · skip
              refine aw_seq (aw_region (EF := EF0) hG (by rw [hN]; exact tr13_14) ?_)
              simp only [a13_14, go_sem, ↓reduceIte, Nat.reduceEqDiff, reduceCtorEq, Nat.reduceAdd, Nat.reduceLT, Nat.reduceLeDiff, Nat.reduceBNe, Nat.reduceBEq, Int.reduceToNat]
              refine aw_ret ?_
              show Q _ _
              refine hQ _ _ (.inl rfl) ?_ ?_ ?_ <;> simp only [outφ, outV, AR.res, go_sem, ↓reduceIte, Nat.reduceEqDiff, reduceCtorEq, Nat.reduceAdd, Nat.reduceLT, Nat.reduceLeDiff, Nat.reduceBNe, Nat.reduceBEq, Int.reduceToNat, fPt]
              rw [pt2 hl hneg hc11 (by rw [over_no hc11 hkb]; exact hb13)]; rfl
            · skip
              refine aw_skip ?_
              simp only [go_sem, ↓reduceIte, Nat.reduceEqDiff, reduceCtorEq, Nat.reduceAdd, Nat.reduceLT, Nat.reduceLeDiff, Nat.reduceBNe, Nat.reduceBEq, Int.reduceToNat]
              obtain ⟨hm1, hm2, hm3⟩ := hbb _ (List.getElem_mem hkb)
              have hv0 := hnn _ (List.getElem_mem hc11)
              have hvm : ls[k] ≤ bs[k].max := by simpa using hb13
              obtain ⟨b1, b2, b3, b4⟩ := id hpb
              have hab := arm_b (u := ls[k]) (v := bs[k].arm) (by omega) hm1
              refine aw_seq (aw_region (EF := EF0) hG (by rw [hN]; exact tr13_15) ?_)
              simp only [a13_15, go_sem, ↓reduceIte, Nat.reduceEqDiff, reduceCtorEq, Nat.reduceAdd, Nat.reduceLT, Nat.reduceLeDiff, Nat.reduceBNe, Nat.reduceBEq, Int.reduceToNat, inI]
              (repeat' apply And.intro) <;> (try first | omega | (intros; (repeat' apply And.intro) <;> first | assumption | omega | (simp_all; done)))
              refine aw_regionD (EF := EF0) hG mixed (by rw [hN]; exact tr13_16) ok13_16 ?_
              simp only [a13_16, d13_16, go_sem, ↓reduceIte, Nat.reduceEqDiff, reduceCtorEq, Nat.reduceAdd, Nat.reduceLT, Nat.reduceLeDiff, Nat.reduceBNe, Nat.reduceBEq, Int.reduceToNat, inI, getD_mapd _ _ _ _ hkb, hkb, Bay.enc]
              (repeat' apply And.intro) <;> (try first | omega | (intros; (repeat' apply And.intro) <;> first | assumption | omega | (simp_all; done)))
              refine aw_region (EF := EF0) hG (by rw [hN]; exact tr13_17) ?_
              simp only [a13_17, go_sem, ↓reduceIte, Nat.reduceEqDiff, reduceCtorEq, Nat.reduceAdd, Nat.reduceLT, Nat.reduceLeDiff, Nat.reduceBNe, Nat.reduceBEq, Int.reduceToNat, inI]
              (repeat' apply And.intro) <;> (try first | omega | (intros; (repeat' apply And.intro) <;> first | assumption | omega | (simp_all; done)))
              refine hKL2 (k + 1, ⟨p.weight + ls[k], p.index + ls[k] * bs[k].arm⟩) _ ?_ ?_ ?_
              · (try dsimp only); refine ⟨hc11, ?_, all_step hov (by rw [over_no hc11 hkb]; exact hb13), ?_⟩; (rw [ptAt_succ hc11 hkb, hpt]); (unfold PtB; dsimp only; omega)
              · (try dsimp only); omega
              · refine Le.mk _ _ ?_ ?_ rfl <;> simp only [go_sem, ↓reduceIte, Nat.reduceEqDiff, reduceCtorEq, Nat.reduceAdd, Nat.reduceLT, Nat.reduceLeDiff, Nat.reduceBNe, Nat.reduceBEq, Int.reduceToNat] <;> (repeat' apply And.intro) <;> (try first | rfl | exact wk_frzb rfl rfl rfl | exact wk_fn rfl | exact .nilo _ _ _ rfl rfl)
          · simp only [decide_eq_true_eq, decide_eq_false_iff_not, Bool.and_eq_true, Bool.or_eq_true, Bool.not_eq_true', Bool.not_eq_false', Bool.and_eq_false_iff, Bool.or_eq_false_iff, Int.ofNat_lt, Int.ofNat_le, Nat.not_lt, Nat.not_le, Int.not_lt, Int.not_le] at hc11
            refine aw_exit ?_
            simp only [go_sem, ↓reduceIte, Nat.reduceEqDiff, reduceCtorEq, Nat.reduceAdd, Nat.reduceLT, Nat.reduceLeDiff, Nat.reduceBNe, Nat.reduceBEq, Int.reduceToNat]
            refine aw_seq (aw_region (EF := EF0) hG (by rw [hN]; exact tr13_18) ?_)
            simp only [a13_18, go_sem, ↓reduceIte, Nat.reduceEqDiff, reduceCtorEq, Nat.reduceAdd, Nat.reduceLT, Nat.reduceLeDiff, Nat.reduceBNe, Nat.reduceBEq, Int.reduceToNat]
            refine aw_ret ?_
            show Q _ _
            refine hQ _ _ (.inl rfl) ?_ ?_ ?_ <;> simp only [outφ, outV, AR.res, go_sem, ↓reduceIte, Nat.reduceEqDiff, reduceCtorEq, Nat.reduceAdd, Nat.reduceLT, Nat.reduceLeDiff, Nat.reduceBNe, Nat.reduceBEq, Int.reduceToNat, fPt]
            rw [pt3 hl hneg fun j hj => hov j (by omega), hpt, Nat.le_antisymm hk hc11]; rfl
set_option maxHeartbeats 2000000 in
theorem rpoint_p : PureC Tryd.prog UT 14 (gOf aPl fPt) := by
  have hG := tNo_ok
  refine PureC.ofArgs aPl_inj Tryd.func14 body14 nm14 res14 ?_
  rintro ⟨⟨em, ix, bs, en⟩, ls⟩ hv
  refine ⟨by rw [nt14]; simp [aPl], fun C hN Q hQ => ?_⟩
  rw [nt14] at hN
  unfold c14
  obtain ⟨⟨he, hx, hbl, hbb, -⟩, hll⟩ : TrimOk ⟨em, ix, bs, en⟩ ∧ ls.length ≤ 1000 := hv
  dsimp only at he hx hbl hbb
  refine aw_seq (aw_region (EF := EF0) hG (by rw [hN]; exact tr14_0) ?_)
  simp only [a14_0, go_sem, ↓reduceIte, Nat.reduceEqDiff, reduceCtorEq, Nat.reduceAdd, Nat.reduceLT, Nat.reduceLeDiff, Nat.reduceBNe, Nat.reduceBEq, Int.reduceToNat, aPl, Trim.enc]
  refine aw_seq ?_
  refine aw_seq (aw_region (EF := EF0) hG (by rw [hN]; exact tr14_1) ?_)
  simp only [a14_1, go_sem, ↓reduceIte, Nat.reduceEqDiff, reduceCtorEq, Nat.reduceAdd, Nat.reduceLT, Nat.reduceLeDiff, Nat.reduceBNe, Nat.reduceBEq, Int.reduceToNat]
  refine aw_cond (b := _) rfl (fun hc1 => ?_) (fun hc1 => ?_)
  · simp only [decide_eq_true_eq, decide_eq_false_iff_not, Bool.and_eq_true, Bool.or_eq_true, Bool.not_eq_true', Bool.not_eq_false', Bool.and_eq_false_iff, Bool.or_eq_false_iff, Int.ofNat_lt, Int.ofNat_le, Nat.not_lt, Nat.not_le, Int.not_lt, Int.not_le] at hc1
    refine aw_seq (aw_region (EF := EF0) hG (by rw [hN]; exact tr14_2) ?_)
    simp only [a14_2, go_sem, ↓reduceIte, Nat.reduceEqDiff, reduceCtorEq, Nat.reduceAdd, Nat.reduceLT, Nat.reduceLeDiff, Nat.reduceBNe, Nat.reduceBEq, Int.reduceToNat]
    refine aw_ret ?_
    show Q _ _
    refine hQ _ _ (.inl rfl) ?_ ?_ ?_ <;> simp only [outφ, outV, AR.res, go_sem, ↓reduceIte, Nat.reduceEqDiff, reduceCtorEq, Nat.reduceAdd, Nat.reduceLT, Nat.reduceLeDiff, Nat.reduceBNe, Nat.reduceBEq, Int.reduceToNat, fPt]
    rw [pt0 (show ls.length ≠ (⟨em, ix, bs, en⟩ : Trim).bays.length from fun h => hc1 (congrArg (fun n : Nat => (n : Int)) h))]; rfl
  · simp only [decide_eq_true_eq, decide_eq_false_iff_not, Bool.and_eq_true, Bool.or_eq_true, Bool.not_eq_true', Bool.not_eq_false', Bool.and_eq_false_iff, Bool.or_eq_false_iff, Int.ofNat_lt, Int.ofNat_le, Nat.not_lt, Nat.not_le, Int.not_lt, Int.not_le] at hc1
    have hl : ls.length = (⟨em, ix, bs, en⟩ : Trim).bays.length := by simpa [Int.ofNat_inj] using hc1
    have hl' : ls.length = bs.length := hl
    refine aw_skip ?_
    simp only [go_sem, ↓reduceIte, Nat.reduceEqDiff, reduceCtorEq, Nat.reduceAdd, Nat.reduceLT, Nat.reduceLeDiff, Nat.reduceBNe, Nat.reduceBEq, Int.reduceToNat]
    refine aw_seq ?_
    refine aw_seq (aw_region (EF := EF0) hG (by rw [hN]; exact tr14_3) ?_)
    simp only [a14_3, go_sem, ↓reduceIte, Nat.reduceEqDiff, reduceCtorEq, Nat.reduceAdd, Nat.reduceLT, Nat.reduceLeDiff, Nat.reduceBNe, Nat.reduceBEq, Int.reduceToNat]
    refine aw_block ?_
    refine aw_loop (α := Nat) (fun i => (i ≤ ls.length) ∧ (∀ x ∈ ls.take i, negB x = false)) (fun i => ⟨mkE [(1, V.list (ints ls) false), (2, V.ptr 2 0), (4, V.ptr 4 0), (6, .int .i64 i)], mkH [(2, Ob.box 25 [V.int IntKind.i64 em, V.int IntKind.i64 ix, V.list (List.map Bay.enc bs) false, V.list (List.map Point.enc en) false]), (4, Ob.box 33 [V.int IntKind.i64 0, V.int IntKind.i64 0])]⟩) (fun i => ls.length - i) 0 (by simp) ?_ ?_
    · refine Le.mk _ _ ?_ ?_ rfl <;> simp only [go_sem, ↓reduceIte, Nat.reduceEqDiff, reduceCtorEq, Nat.reduceAdd, Nat.reduceLT, Nat.reduceLeDiff, Nat.reduceBNe, Nat.reduceBEq, Int.reduceToNat] <;> (repeat' apply And.intro) <;> (try first | rfl | exact wk_frzb rfl rfl rfl | exact wk_fn rfl | exact .nilo _ _ _ rfl rfl)
    · rintro i ⟨hi, hp⟩ KL0 hKL0
      try dsimp only at *
      refine aw_seq ?_
      refine aw_seq (aw_region (EF := EF0) hG (by rw [hN]; exact tr14_4) ?_)
      simp only [a14_4, go_sem, ↓reduceIte, Nat.reduceEqDiff, reduceCtorEq, Nat.reduceAdd, Nat.reduceLT, Nat.reduceLeDiff, Nat.reduceBNe, Nat.reduceBEq, Int.reduceToNat]
      refine aw_cond (b := _) rfl (fun hc4 => ?_) (fun hc4 => ?_)
      · simp only [decide_eq_true_eq, decide_eq_false_iff_not, Bool.and_eq_true, Bool.or_eq_true, Bool.not_eq_true', Bool.not_eq_false', Bool.and_eq_false_iff, Bool.or_eq_false_iff, Int.ofNat_lt, Int.ofNat_le, Nat.not_lt, Nat.not_le, Int.not_lt, Int.not_le] at hc4
        refine aw_skip ?_
        simp only [go_sem, ↓reduceIte, Nat.reduceEqDiff, reduceCtorEq, Nat.reduceAdd, Nat.reduceLT, Nat.reduceLeDiff, Nat.reduceBNe, Nat.reduceBEq, Int.reduceToNat]
        refine aw_seq ?_
        refine aw_block ?_
        refine aw_seq (aw_region (EF := EF0) hG (by rw [hN]; exact tr14_6) ?_)
        simp only [a14_6, go_sem, ↓reduceIte, Nat.reduceEqDiff, reduceCtorEq, Nat.reduceAdd, Nat.reduceLT, Nat.reduceLeDiff, Nat.reduceBNe, Nat.reduceBEq, Int.reduceToNat, ints_getD _ _ _ hc4, hc4]
        (repeat' apply And.intro) <;> (try first | omega | (intros; (repeat' apply And.intro) <;> first | assumption | omega | (simp_all; done)))
        refine aw_cond (b := _) rfl (fun hb6 => ?_) (fun hb6 => ?_)
        · skip
          refine aw_seq (aw_region (EF := EF0) hG (by rw [hN]; exact tr14_7) ?_)
          simp only [a14_7, go_sem, ↓reduceIte, Nat.reduceEqDiff, reduceCtorEq, Nat.reduceAdd, Nat.reduceLT, Nat.reduceLeDiff, Nat.reduceBNe, Nat.reduceBEq, Int.reduceToNat]
          refine aw_ret ?_
          show Q _ _
          refine hQ _ _ (.inl rfl) ?_ ?_ ?_ <;> simp only [outφ, outV, AR.res, go_sem, ↓reduceIte, Nat.reduceEqDiff, reduceCtorEq, Nat.reduceAdd, Nat.reduceLT, Nat.reduceLeDiff, Nat.reduceBNe, Nat.reduceBEq, Int.reduceToNat, fPt]
          rw [pt1 hl (any_at (p := negB) hc4 hb6)]; rfl
        · skip
          refine aw_skip ?_
          simp only [go_sem, ↓reduceIte, Nat.reduceEqDiff, reduceCtorEq, Nat.reduceAdd, Nat.reduceLT, Nat.reduceLeDiff, Nat.reduceBNe, Nat.reduceBEq, Int.reduceToNat]
          refine aw_region (EF := EF0) hG (by rw [hN]; exact tr14_5) ?_
          simp only [a14_5, go_sem, ↓reduceIte, Nat.reduceEqDiff, reduceCtorEq, Nat.reduceAdd, Nat.reduceLT, Nat.reduceLeDiff, Nat.reduceBNe, Nat.reduceBEq, Int.reduceToNat, inI]
          (repeat' apply And.intro) <;> (try first | omega | (intros; (repeat' apply And.intro) <;> first | assumption | omega | (simp_all; done)))
          refine hKL0 (i + 1) _ ?_ ?_ ?_
          · (try dsimp only); exact ⟨hc4, take_all hc4 hp hb6⟩
          · (try dsimp only); omega
          · refine Le.mk _ _ ?_ ?_ rfl <;> simp only [go_sem, ↓reduceIte, Nat.reduceEqDiff, reduceCtorEq, Nat.reduceAdd, Nat.reduceLT, Nat.reduceLeDiff, Nat.reduceBNe, Nat.reduceBEq, Int.reduceToNat] <;> (repeat' apply And.intro) <;> (try first | rfl | exact wk_frzb rfl rfl rfl | exact wk_fn rfl | exact .nilo _ _ _ rfl rfl)
      · simp only [decide_eq_true_eq, decide_eq_false_iff_not, Bool.and_eq_true, Bool.or_eq_true, Bool.not_eq_true', Bool.not_eq_false', Bool.and_eq_false_iff, Bool.or_eq_false_iff, Int.ofNat_lt, Int.ofNat_le, Nat.not_lt, Nat.not_le, Int.not_lt, Int.not_le] at hc4
        refine aw_exit ?_
        simp only [go_sem, ↓reduceIte, Nat.reduceEqDiff, reduceCtorEq, Nat.reduceAdd, Nat.reduceLT, Nat.reduceLeDiff, Nat.reduceBNe, Nat.reduceBEq, Int.reduceToNat]
        have hneg : ls.any negB = false := any_no (p := negB) hc4 hp
        have hnn : ∀ x ∈ ls, 0 ≤ x := fun x hx => by have := List.any_eq_false.1 hneg x hx; simp [negB] at this; omega
        refine aw_seq (aw_region (EF := EF0) hG (by rw [hN]; exact tr14_8) ?_)
        simp only [a14_8, go_sem, ↓reduceIte, Nat.reduceEqDiff, reduceCtorEq, Nat.reduceAdd, Nat.reduceLT, Nat.reduceLeDiff, Nat.reduceBNe, Nat.reduceBEq, Int.reduceToNat]
        refine aw_seq ?_
        refine aw_seq (aw_region (EF := EF0) hG (by rw [hN]; exact tr14_9) ?_)
        simp only [a14_9, go_sem, ↓reduceIte, Nat.reduceEqDiff, reduceCtorEq, Nat.reduceAdd, Nat.reduceLT, Nat.reduceLeDiff, Nat.reduceBNe, Nat.reduceBEq, Int.reduceToNat]
        refine aw_block ?_
        refine aw_loop (α := Nat × Point) (fun γ => (γ.1 ≤ ls.length) ∧ (γ.2 = ptAt ⟨em, ix, bs, en⟩ ls γ.1) ∧ (∀ j, j < γ.1 → overB ⟨em, ix, bs, en⟩ ls j = false) ∧ (PtB γ.2 γ.1)) (fun γ => ⟨mkE [(1, V.list (ints ls) false), (2, V.ptr 2 0), (4, V.ptr 4 0), (7, V.ptr 7 0), (8, .int .i64 γ.1)], mkH [(2, Ob.box 25 [V.int IntKind.i64 em, V.int IntKind.i64 ix, V.list (List.map Bay.enc bs) false, V.list (List.map Point.enc en) false]), (4, Ob.box 33 [V.int IntKind.i64 0, V.int IntKind.i64 0]), (7, .box 33 [.int .i64 γ.2.weight, .int .i64 γ.2.index])]⟩) (fun γ => ls.length - γ.1) (0, ⟨em, ix⟩) ⟨Nat.zero_le _, rfl, fun j hj => absurd hj (Nat.not_lt_zero _), by unfold PtB; dsimp only; omega⟩ ?_ ?_
        · refine Le.mk _ _ ?_ ?_ rfl <;> simp only [go_sem, ↓reduceIte, Nat.reduceEqDiff, reduceCtorEq, Nat.reduceAdd, Nat.reduceLT, Nat.reduceLeDiff, Nat.reduceBNe, Nat.reduceBEq, Int.reduceToNat] <;> (repeat' apply And.intro) <;> (try first | rfl | exact wk_frzb rfl rfl rfl | exact wk_fn rfl | exact .nilo _ _ _ rfl rfl)
        · rintro ⟨k, p⟩ ⟨hk, hpt, hov, hpb⟩ KL2 hKL2
          try dsimp only at *
          refine aw_seq ?_
          refine aw_seq (aw_region (EF := EF0) hG (by rw [hN]; exact tr14_10) ?_)
          simp only [a14_10, go_sem, ↓reduceIte, Nat.reduceEqDiff, reduceCtorEq, Nat.reduceAdd, Nat.reduceLT, Nat.reduceLeDiff, Nat.reduceBNe, Nat.reduceBEq, Int.reduceToNat]
          refine aw_cond (b := _) rfl (fun hc10 => ?_) (fun hc10 => ?_)
          · simp only [decide_eq_true_eq, decide_eq_false_iff_not, Bool.and_eq_true, Bool.or_eq_true, Bool.not_eq_true', Bool.not_eq_false', Bool.and_eq_false_iff, Bool.or_eq_false_iff, Int.ofNat_lt, Int.ofNat_le, Nat.not_lt, Nat.not_le, Int.not_lt, Int.not_le] at hc10
            refine aw_skip ?_
            simp only [go_sem, ↓reduceIte, Nat.reduceEqDiff, reduceCtorEq, Nat.reduceAdd, Nat.reduceLT, Nat.reduceLeDiff, Nat.reduceBNe, Nat.reduceBEq, Int.reduceToNat]
            refine aw_seq ?_
            refine aw_block ?_
            refine aw_seq ?_
            have hkb : k < bs.length := by omega
            refine aw_seq (aw_regionD (EF := EF0) hG mixed (by rw [hN]; exact tr14_12) ok14_12 ?_)
            simp only [a14_12, d14_12, go_sem, ↓reduceIte, Nat.reduceEqDiff, reduceCtorEq, Nat.reduceAdd, Nat.reduceLT, Nat.reduceLeDiff, Nat.reduceBNe, Nat.reduceBEq, Int.reduceToNat, ints_getD _ _ _ hc10, hc10, getD_mapd _ _ _ _ hkb, hkb, Bay.enc]
            (repeat' apply And.intro) <;> (try first | omega | (intros; (repeat' apply And.intro) <;> first | assumption | omega | (simp_all; done)))
            refine aw_cond (b := _) rfl (fun hb13 => ?_) (fun hb13 => ?_)
            · skip
              refine aw_seq (aw_region (EF := EF0) hG (by rw [hN]; exact tr14_13) ?_)
              simp only [a14_13, go_sem, ↓reduceIte, Nat.reduceEqDiff, reduceCtorEq, Nat.reduceAdd, Nat.reduceLT, Nat.reduceLeDiff, Nat.reduceBNe, Nat.reduceBEq, Int.reduceToNat]
              refine aw_ret ?_
              show Q _ _
              refine hQ _ _ (.inl rfl) ?_ ?_ ?_ <;> simp only [outφ, outV, AR.res, go_sem, ↓reduceIte, Nat.reduceEqDiff, reduceCtorEq, Nat.reduceAdd, Nat.reduceLT, Nat.reduceLeDiff, Nat.reduceBNe, Nat.reduceBEq, Int.reduceToNat, fPt]
              rw [pt2 hl hneg hc10 (by rw [over_no hc10 hkb]; exact hb13)]; rfl
            · skip
              refine aw_skip ?_
              simp only [go_sem, ↓reduceIte, Nat.reduceEqDiff, reduceCtorEq, Nat.reduceAdd, Nat.reduceLT, Nat.reduceLeDiff, Nat.reduceBNe, Nat.reduceBEq, Int.reduceToNat]
              obtain ⟨hm1, hm2, hm3⟩ := hbb _ (List.getElem_mem hkb)
              have hv0 := hnn _ (List.getElem_mem hc10)
              have hvm : ls[k] ≤ bs[k].max := by simpa using hb13
              obtain ⟨b1, b2, b3, b4⟩ := id hpb
              have hab := arm_b (u := ls[k]) (v := bs[k].arm) (by omega) hm1
              refine aw_regionD (EF := EF0) hG mixed (by rw [hN]; exact tr14_14) ok14_14 ?_
              simp only [a14_14, d14_14, go_sem, ↓reduceIte, Nat.reduceEqDiff, reduceCtorEq, Nat.reduceAdd, Nat.reduceLT, Nat.reduceLeDiff, Nat.reduceBNe, Nat.reduceBEq, Int.reduceToNat, inI, ints_getD _ _ _ hc10, hc10, getD_mapd _ _ _ _ hkb, hkb, Bay.enc]
              (repeat' apply And.intro) <;> (try first | omega | (intros; (repeat' apply And.intro) <;> first | assumption | omega | (simp_all; done)))
              refine aw_region (EF := EF0) hG (by rw [hN]; exact tr14_11) ?_
              simp only [a14_11, go_sem, ↓reduceIte, Nat.reduceEqDiff, reduceCtorEq, Nat.reduceAdd, Nat.reduceLT, Nat.reduceLeDiff, Nat.reduceBNe, Nat.reduceBEq, Int.reduceToNat, inI]
              (repeat' apply And.intro) <;> (try first | omega | (intros; (repeat' apply And.intro) <;> first | assumption | omega | (simp_all; done)))
              refine hKL2 (k + 1, ⟨p.weight + ls[k], p.index + ls[k] * bs[k].arm⟩) _ ?_ ?_ ?_
              · (try dsimp only); refine ⟨hc10, ?_, all_step hov (by rw [over_no hc10 hkb]; exact hb13), ?_⟩; (rw [ptAt_succ hc10 hkb, hpt]); (unfold PtB; dsimp only; omega)
              · (try dsimp only); omega
              · refine Le.mk _ _ ?_ ?_ rfl <;> simp only [go_sem, ↓reduceIte, Nat.reduceEqDiff, reduceCtorEq, Nat.reduceAdd, Nat.reduceLT, Nat.reduceLeDiff, Nat.reduceBNe, Nat.reduceBEq, Int.reduceToNat] <;> (repeat' apply And.intro) <;> (try first | rfl | exact wk_frzb rfl rfl rfl | exact wk_fn rfl | exact .nilo _ _ _ rfl rfl)
          · simp only [decide_eq_true_eq, decide_eq_false_iff_not, Bool.and_eq_true, Bool.or_eq_true, Bool.not_eq_true', Bool.not_eq_false', Bool.and_eq_false_iff, Bool.or_eq_false_iff, Int.ofNat_lt, Int.ofNat_le, Nat.not_lt, Nat.not_le, Int.not_lt, Int.not_le] at hc10
            refine aw_exit ?_
            simp only [go_sem, ↓reduceIte, Nat.reduceEqDiff, reduceCtorEq, Nat.reduceAdd, Nat.reduceLT, Nat.reduceLeDiff, Nat.reduceBNe, Nat.reduceBEq, Int.reduceToNat]
            refine aw_seq (aw_region (EF := EF0) hG (by rw [hN]; exact tr14_15) ?_)
            simp only [a14_15, go_sem, ↓reduceIte, Nat.reduceEqDiff, reduceCtorEq, Nat.reduceAdd, Nat.reduceLT, Nat.reduceLeDiff, Nat.reduceBNe, Nat.reduceBEq, Int.reduceToNat]
            refine aw_ret ?_
            show Q _ _
            refine hQ _ _ (.inl rfl) ?_ ?_ ?_ <;> simp only [outφ, outV, AR.res, go_sem, ↓reduceIte, Nat.reduceEqDiff, reduceCtorEq, Nat.reduceAdd, Nat.reduceLT, Nat.reduceLeDiff, Nat.reduceBNe, Nat.reduceBEq, Int.reduceToNat, fPt]
            rw [pt3 hl hneg fun j hj => hov j (by omega), hpt, Nat.le_antisymm hk hc10]; rfl
end Go.Proofs.YtemeeeomcjdlnaaDoor
