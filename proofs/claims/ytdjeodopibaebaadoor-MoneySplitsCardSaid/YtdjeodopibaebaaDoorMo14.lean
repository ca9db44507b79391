/- The chapter's examples; the laws of sums, splits, texts. -/
import Derived.Test.YtdjeodopibaebaaDoorMo13
namespace Go.Proofs.YtdjeodopibaebaaDoor
open Go Go.RowKit
set_option linter.unusedSimpArgs false
set_option linter.unusedVariables false
set_option linter.deprecated false
def aLL (x : List Int × List Int) : List V := [.list (ints x.1) false, .list (ints x.2) false]
theorem aLL_inj (a b : List Int × List Int) (h : aLL a = aLL b) : a = b := by
  obtain ⟨a_a, a_b⟩ := a
  obtain ⟨b_a, b_b⟩ := b
  simp only [aLL, List.cons.injEq, V.str.injEq, V.int.injEq, V.bool.injEq, V.agg.injEq, V.list.injEq, and_true, true_and] at h
  obtain ⟨h0, h1⟩ := h
  replace h0 := ints_inj h0
  subst h0
  replace h1 := ints_inj h1
  subst h1
  rfl
def fSame (x : List Int × List Int) : Prop × V := (x.1.length ≤ 140737488355328 ∧ x.2.length ≤ 140737488355328, .bool (decide (x.1 = x.2)))
theorem fSame_eq (a b : List Int) : gOf aLL fSame [.list (ints a) false, .list (ints b) false] = (a.length ≤ 140737488355328 ∧ b.length ≤ 140737488355328, .bool (decide (a = b))) := gOf_eq aLL_inj (a, b)
theorem same_p : PureC Tryd.prog UT 22 (gOf aLL fSame) := by
  have hG := tNo_ok
  refine PureC.ofArgs aLL_inj Tryd.func22 body22 nm22 res22 ?_
  rintro ⟨a, b⟩ hv
  refine ⟨by rw [nt22]; simp [aLL], fun C hN Q hQ => ?_⟩
  rw [nt22] at hN
  unfold c22
  obtain ⟨ha, hb⟩ : a.length ≤ 140737488355328 ∧ b.length ≤ 140737488355328 := hv
  refine aw_seq (aw_region (EF := EF0) hG (by rw [hN]; exact tr22_0) ?_)
  simp only [a22_0, go_sem, ↓reduceIte, Nat.reduceEqDiff, reduceCtorEq, Nat.reduceAdd, Nat.reduceLT, Nat.reduceLeDiff, Nat.reduceBNe, Nat.reduceBEq, Int.reduceToNat, aLL, tNo]
  refine aw_seq ?_
  refine aw_seq (aw_region (EF := EF0) hG (by rw [hN]; exact tr22_1) ?_)
  simp only [a22_1, go_sem, ↓reduceIte, Nat.reduceEqDiff, reduceCtorEq, Nat.reduceAdd, Nat.reduceLT, Nat.reduceLeDiff, Nat.reduceBNe, Nat.reduceBEq, Int.reduceToNat, tNo]
  refine aw_cond (b := _) rfl (fun hb1 => ?_) (fun hb1 => ?_)
  · skip
    have hne : (a.length : Int) ≠ b.length := by simpa using hb1
    refine aw_seq (aw_region (EF := EF0) hG (by rw [hN]; exact tr22_2) ?_)
    simp only [a22_2, go_sem, ↓reduceIte, Nat.reduceEqDiff, reduceCtorEq, Nat.reduceAdd, Nat.reduceLT, Nat.reduceLeDiff, Nat.reduceBNe, Nat.reduceBEq, Int.reduceToNat, tNo]
    refine aw_ret ?_
    show Q _ _
    refine hQ _ _ (.inl rfl) ?_ ?_ ?_ <;> simp only [outφ, outV, AR.res, go_sem, ↓reduceIte, Nat.reduceEqDiff, reduceCtorEq, Nat.reduceAdd, Nat.reduceLT, Nat.reduceLeDiff, Nat.reduceBNe, Nat.reduceBEq, Int.reduceToNat, fSame]
    rw [decide_eq_false (fun e => hne (by rw [show a = b from e]))]
  · skip
    have hl0 : (a.length : Int) = b.length := by simpa using hb1
    have hl : a.length = b.length := by omega
    refine aw_skip ?_
    try simp only [go_sem, ↓reduceIte, Nat.reduceEqDiff, reduceCtorEq, Nat.reduceAdd, Nat.reduceLT, Nat.reduceLeDiff, Nat.reduceBNe, Nat.reduceBEq, Int.reduceToNat]
    refine aw_seq ?_
    refine aw_seq (aw_region (EF := EF0) hG (by rw [hN]; exact tr22_3) ?_)
    simp only [a22_3, go_sem, ↓reduceIte, Nat.reduceEqDiff, reduceCtorEq, Nat.reduceAdd, Nat.reduceLT, Nat.reduceLeDiff, Nat.reduceBNe, Nat.reduceBEq, Int.reduceToNat, tNo]
    refine aw_block ?_
    refine aw_loop (α := Nat) (fun i => (i ≤ a.length) ∧ (a.take i = b.take i)) (fun i => ⟨mkE [(0, V.list (ints a) false), (1, V.list (ints b) false), (5, .int .i64 i)], mkH []⟩) (fun i => a.length - i) 0 ⟨Nat.zero_le _, rfl⟩ ?_ ?_
    · refine Le.mk _ _ ?_ ?_ rfl <;> simp only [go_sem, ↓reduceIte, Nat.reduceEqDiff, reduceCtorEq, Nat.reduceAdd, Nat.reduceLT, Nat.reduceLeDiff, Nat.reduceBNe, Nat.reduceBEq, Int.reduceToNat] <;> (repeat' apply And.intro) <;> (try first | rfl | exact wk_frzb rfl rfl rfl | exact wk_fn rfl | exact .nilo _ _ _ rfl rfl | exact wk_frzm rfl rfl (fun kv hk => by obtain ⟨_, _, rfl⟩ := List.mem_map.1 hk; rfl))
    · rintro i ⟨hi, hs⟩ KL0 hKL0
      try dsimp only at *
      refine aw_seq ?_
      refine aw_seq (aw_region (EF := EF0) hG (by rw [hN]; exact tr22_4) ?_)
      simp only [a22_4, go_sem, ↓reduceIte, Nat.reduceEqDiff, reduceCtorEq, Nat.reduceAdd, Nat.reduceLT, Nat.reduceLeDiff, Nat.reduceBNe, Nat.reduceBEq, Int.reduceToNat, tNo]
      refine aw_cond (b := _) rfl (fun hc4 => ?_) (fun hc4 => ?_)
      · simp only [decide_eq_true_eq, decide_eq_false_iff_not, Bool.and_eq_true, Bool.or_eq_true, Bool.not_eq_true', Bool.not_eq_false', Bool.and_eq_false_iff, Bool.or_eq_false_iff, Int.ofNat_lt, Int.ofNat_le, Nat.not_lt, Nat.not_le, Int.not_lt, Int.not_le] at hc4
        refine aw_skip ?_
        try simp only [go_sem, ↓reduceIte, Nat.reduceEqDiff, reduceCtorEq, Nat.reduceAdd, Nat.reduceLT, Nat.reduceLeDiff, Nat.reduceBNe, Nat.reduceBEq, Int.reduceToNat]
        refine aw_seq ?_
        refine aw_block ?_
        have hib : i < b.length := by omega
        refine aw_seq (aw_regionD (EF := EF0) hG mixed (by rw [hN]; exact tr22_6) ok22_6 ?_)
        simp only [a22_6, d22_6, go_sem, ↓reduceIte, Nat.reduceEqDiff, reduceCtorEq, Nat.reduceAdd, Nat.reduceLT, Nat.reduceLeDiff, Nat.reduceBNe, Nat.reduceBEq, Int.reduceToNat, ints_getD _ _ _ hc4, hc4, ints_getD _ _ _ hib, hib, tNo]
        (repeat' apply And.intro) <;> (try first | omega | ((fail_if_success (refine (id : AW _ _ _ _ _ → AW _ _ _ _ _) ?_)); (fail_if_success (refine (id : EStep _ _ _ _ _ _ _ → EStep _ _ _ _ _ _ _) ?_)); intros; (repeat' apply And.intro) <;> first | assumption | omega | (simp_all; done)))
        refine aw_cond (b := _) rfl (fun hb6 => ?_) (fun hb6 => ?_)
        · skip
          have hne : a[i] ≠ b[i] := by simpa using hb6
          refine aw_seq (aw_region (EF := EF0) hG (by rw [hN]; exact tr22_7) ?_)
          simp only [a22_7, go_sem, ↓reduceIte, Nat.reduceEqDiff, reduceCtorEq, Nat.reduceAdd, Nat.reduceLT, Nat.reduceLeDiff, Nat.reduceBNe, Nat.reduceBEq, Int.reduceToNat, tNo]
          refine aw_ret ?_
          show Q _ _
          refine hQ _ _ (.inl rfl) ?_ ?_ ?_ <;> simp only [outφ, outV, AR.res, go_sem, ↓reduceIte, Nat.reduceEqDiff, reduceCtorEq, Nat.reduceAdd, Nat.reduceLT, Nat.reduceLeDiff, Nat.reduceBNe, Nat.reduceBEq, Int.reduceToNat, fSame]
          rw [decide_eq_false (fun e => hne (by have e2 : a = b := e; subst e2; rfl))]
        · skip
          have he : a[i] = b[i] := by simpa using hb6
          refine aw_skip ?_
          try simp only [go_sem, ↓reduceIte, Nat.reduceEqDiff, reduceCtorEq, Nat.reduceAdd, Nat.reduceLT, Nat.reduceLeDiff, Nat.reduceBNe, Nat.reduceBEq, Int.reduceToNat]
          refine aw_region (EF := EF0) hG (by rw [hN]; exact tr22_5) ?_
          simp only [a22_5, go_sem, ↓reduceIte, Nat.reduceEqDiff, reduceCtorEq, Nat.reduceAdd, Nat.reduceLT, Nat.reduceLeDiff, Nat.reduceBNe, Nat.reduceBEq, Int.reduceToNat, inI, tNo]
          (repeat' apply And.intro) <;> (try first | omega | ((fail_if_success (refine (id : AW _ _ _ _ _ → AW _ _ _ _ _) ?_)); (fail_if_success (refine (id : EStep _ _ _ _ _ _ _ → EStep _ _ _ _ _ _ _) ?_)); intros; (repeat' apply And.intro) <;> first | assumption | omega | (simp_all; done)))
          refine hKL0 (i + 1) _ ?_ ?_ ?_
          · (try dsimp only); exact ⟨hc4, by rw [take_succ' hc4, take_succ' hib, hs, he]⟩
          · (try dsimp only); omega
          · refine Le.mk _ _ ?_ ?_ rfl <;> simp only [go_sem, ↓reduceIte, Nat.reduceEqDiff, reduceCtorEq, Nat.reduceAdd, Nat.reduceLT, Nat.reduceLeDiff, Nat.reduceBNe, Nat.reduceBEq, Int.reduceToNat] <;> (repeat' apply And.intro) <;> (try first | rfl | exact wk_frzb rfl rfl rfl | exact wk_fn rfl | exact .nilo _ _ _ rfl rfl | exact wk_frzm rfl rfl (fun kv hk => by obtain ⟨_, _, rfl⟩ := List.mem_map.1 hk; rfl))
      · simp only [decide_eq_true_eq, decide_eq_false_iff_not, Bool.and_eq_true, Bool.or_eq_true, Bool.not_eq_true', Bool.not_eq_false', Bool.and_eq_false_iff, Bool.or_eq_false_iff, Int.ofNat_lt, Int.ofNat_le, Nat.not_lt, Nat.not_le, Int.not_lt, Int.not_le] at hc4
        obtain rfl : i = a.length := by omega
        rw [List.take_length, hl, List.take_length] at hs
        refine aw_exit ?_
        simp only [go_sem, ↓reduceIte, Nat.reduceEqDiff, reduceCtorEq, Nat.reduceAdd, Nat.reduceLT, Nat.reduceLeDiff, Nat.reduceBNe, Nat.reduceBEq, Int.reduceToNat]
        refine aw_seq (aw_region (EF := EF0) hG (by rw [hN]; exact tr22_8) ?_)
        simp only [a22_8, go_sem, ↓reduceIte, Nat.reduceEqDiff, reduceCtorEq, Nat.reduceAdd, Nat.reduceLT, Nat.reduceLeDiff, Nat.reduceBNe, Nat.reduceBEq, Int.reduceToNat, tNo]
        refine aw_ret ?_
        show Q _ _
        refine hQ _ _ (.inl rfl) ?_ ?_ ?_ <;> simp only [outφ, outV, AR.res, go_sem, ↓reduceIte, Nat.reduceEqDiff, reduceCtorEq, Nat.reduceAdd, Nat.reduceLT, Nat.reduceLeDiff, Nat.reduceBNe, Nat.reduceBEq, Int.reduceToNat, fSame]
        rw [decide_eq_true hs]
/-! The examples. -/
theorem k_add : gOf aTwo fAdd [.int .i64 250, .int .i64 (-100)] = (True, .tup [.int .i64 150, .int .i64 0]) := gOf_at aTwo_inj (250, -100) rfl trivial (by kernel_rfl)
theorem k_sub : gOf aTwo fSub [.int .i64 (-1099511627776), .int .i64 1] = (True, .tup [.int .i64 0, .int .i64 11]) := gOf_at aTwo_inj (-1099511627776, 1) rfl trivial (by kernel_rfl)
theorem k_per : gOf aTwo fPer [.int .i64 (-1), .int .i64 5000] = (True, .tup [.int .i64 0, .int .i64 0]) := gOf_at aTwo_inj (-1, 5000) rfl ⟨by unfold inI; decide, by unfold inI; decide, fun _ _ => by decide⟩ (by kernel_rfl)
theorem k_up : gOf aTwo fUp [.int .i64 (-101), .int .i64 100] = (True, .tup [.int .i64 (-100), .int .i64 0]) := gOf_at aTwo_inj (-101, 100) rfl (by show inI 100; unfold inI; decide) (by kernel_rfl)
theorem k_spl : gOf aSp fSplit [.int .i64 10000, .list [[.int .i64 1], [.int .i64 1], [.int .i64 1]] false] = (True, .tup [.list [[.int .i64 3334], [.int .i64 3333], [.int .i64 3333]] false, .int .i64 0]) :=
  gOf_at aSp_inj (10000, [1, 1, 1]) rfl ⟨by decide, by unfold inI; decide, fun w hw => by simp at hw; subst hw; unfold inI; decide⟩ (by kernel_rfl)
theorem k_pa1 : gOf aS fPar [.str [48, 46, 48, 53]] = (True, .tup [.int .i64 5, .int .i64 0]) := gOf_at aS_inj [48, 46, 48, 53] rfl (by show (_ : Nat) ≤ _; decide) (by kernel_rfl)
theorem k_pa2 : gOf aS fPar [.str [45, 48, 46, 48, 48]] = (True, .tup [.int .i64 0, .int .i64 3]) := gOf_at aS_inj [45, 48, 46, 48, 48] rfl (by show (_ : Nat) ≤ _; decide) (by kernel_rfl)
theorem k_prn : gOf aI fPrn [.int .i64 (-1250)] = (True, .str [45, 49, 50, 46, 53, 48]) := gOf_at aI_inj (-1250) rfl (by show inI (-1250); unfold inI; decide) (by
  show V.str (prn (-1250)) = _
  have e1 : Lib.decDigits 12 = [49, 50] := by rw [ddN_big (by decide), ddN_small (by decide)]; rfl
  have e2 : Lib.decDigits 50 = [53, 48] := by rw [ddN_big (by decide), ddN_small (by decide)]; rfl
  have : prn (-1250) = [45] ++ Lib.decDigits 12 ++ [46] ++ Lib.decDigits 50 := rfl
  rw [this, e1, e2]
  rfl)
def fKn (_ : Unit) : Prop × V := (True, .bool true)
theorem fKn_eq : gOf aUnit fKn [] = (True, .bool true) := gOf_eq aUnit_inj ()
noncomputable def tKn : Tab
  | 10 => (gOf aTwo fAdd)
  | 12 => (gOf aTwo fSub)
  | 16 => (gOf aTwo fPer)
  | 18 => (gOf aTwo fUp)
  | 20 => (gOf aSp fSplit)
  | 23 => (gOf aS fPar)
  | 25 => (gOf aI fPrn)
  | _ => gNo
theorem tKn_ok : ∀ f, PureC Tryd.prog UT f (tKn f) := fun f => by
  unfold tKn
  split
  · exact add_p
  · exact sub_p
  · exact percent_p
  · exact up_p
  · exact split_p
  · exact parse_p
  · exact print_p
  · exact PureC.no
set_option maxRecDepth 20000 in
theorem knows_p : PureC Tryd.prog UT 9 (gOf aUnit fKn) := by
  have hG := tKn_ok
  refine PureC.ofArgs aUnit_inj Tryd.func9 body9 nm9 res9 ?_
  rintro ⟨⟩ hv
  refine ⟨by rw [nt9]; simp [aUnit], fun C hN Q hQ => ?_⟩
  rw [nt9] at hN
  unfold c9
  refine aw_seq (aw_region (EF := EF0) hG (by rw [hN]; exact tr9_0) ?_)
  simp only [a9_0, go_sem, ↓reduceIte, Nat.reduceEqDiff, reduceCtorEq, Nat.reduceAdd, Nat.reduceLT, Nat.reduceLeDiff, Nat.reduceBNe, Nat.reduceBEq, Int.reduceToNat, aUnit, tKn]
  refine aw_seq (aw_region (EF := EF0) hG (by rw [hN]; exact tr9_1) ?_)
  simp only [a9_1, go_sem, ↓reduceIte, Nat.reduceEqDiff, reduceCtorEq, Nat.reduceAdd, Nat.reduceLT, Nat.reduceLeDiff, Nat.reduceBNe, Nat.reduceBEq, Int.reduceToNat, k_add, tKn]
  (repeat' apply And.intro) <;> (try first | omega | ((fail_if_success (refine (id : AW _ _ _ _ _ → AW _ _ _ _ _) ?_)); (fail_if_success (refine (id : EStep _ _ _ _ _ _ _ → EStep _ _ _ _ _ _ _) ?_)); intros; (repeat' apply And.intro) <;> first | assumption | omega | (simp_all; done)))
  refine aw_seq (aw_region (EF := EF0) hG (by rw [hN]; exact tr9_2) ?_)
  simp only [a9_2, go_sem, ↓reduceIte, Nat.reduceEqDiff, reduceCtorEq, Nat.reduceAdd, Nat.reduceLT, Nat.reduceLeDiff, Nat.reduceBNe, Nat.reduceBEq, Int.reduceToNat, k_sub, tKn]
  (repeat' apply And.intro) <;> (try first | omega | ((fail_if_success (refine (id : AW _ _ _ _ _ → AW _ _ _ _ _) ?_)); (fail_if_success (refine (id : EStep _ _ _ _ _ _ _ → EStep _ _ _ _ _ _ _) ?_)); intros; (repeat' apply And.intro) <;> first | assumption | omega | (simp_all; done)))
  refine aw_seq (aw_region (EF := EF0) hG (by rw [hN]; exact tr9_3) ?_)
  simp only [a9_3, go_sem, ↓reduceIte, Nat.reduceEqDiff, reduceCtorEq, Nat.reduceAdd, Nat.reduceLT, Nat.reduceLeDiff, Nat.reduceBNe, Nat.reduceBEq, Int.reduceToNat, k_per, tKn]
  (repeat' apply And.intro) <;> (try first | omega | ((fail_if_success (refine (id : AW _ _ _ _ _ → AW _ _ _ _ _) ?_)); (fail_if_success (refine (id : EStep _ _ _ _ _ _ _ → EStep _ _ _ _ _ _ _) ?_)); intros; (repeat' apply And.intro) <;> first | assumption | omega | (simp_all; done)))
  refine aw_seq (aw_region (EF := EF0) hG (by rw [hN]; exact tr9_4) ?_)
  simp only [a9_4, go_sem, ↓reduceIte, Nat.reduceEqDiff, reduceCtorEq, Nat.reduceAdd, Nat.reduceLT, Nat.reduceLeDiff, Nat.reduceBNe, Nat.reduceBEq, Int.reduceToNat, k_up, tKn]
  (repeat' apply And.intro) <;> (try first | omega | ((fail_if_success (refine (id : AW _ _ _ _ _ → AW _ _ _ _ _) ?_)); (fail_if_success (refine (id : EStep _ _ _ _ _ _ _ → EStep _ _ _ _ _ _ _) ?_)); intros; (repeat' apply And.intro) <;> first | assumption | omega | (simp_all; done)))
  refine aw_seq (aw_region (EF := EF0) hG (by rw [hN]; exact tr9_5) ?_)
  simp only [a9_5, go_sem, ↓reduceIte, Nat.reduceEqDiff, reduceCtorEq, Nat.reduceAdd, Nat.reduceLT, Nat.reduceLeDiff, Nat.reduceBNe, Nat.reduceBEq, Int.reduceToNat, k_spl, tKn]
  (repeat' apply And.intro) <;> (try first | omega | ((fail_if_success (refine (id : AW _ _ _ _ _ → AW _ _ _ _ _) ?_)); (fail_if_success (refine (id : EStep _ _ _ _ _ _ _ → EStep _ _ _ _ _ _ _) ?_)); intros; (repeat' apply And.intro) <;> first | assumption | omega | (simp_all; done)))
  refine aw_seq (aw_region (EF := EF0) hG (by rw [hN]; exact tr9_6) ?_)
  simp only [a9_6, go_sem, ↓reduceIte, Nat.reduceEqDiff, reduceCtorEq, Nat.reduceAdd, Nat.reduceLT, Nat.reduceLeDiff, Nat.reduceBNe, Nat.reduceBEq, Int.reduceToNat, k_pa1, tKn]
  (repeat' apply And.intro) <;> (try first | omega | ((fail_if_success (refine (id : AW _ _ _ _ _ → AW _ _ _ _ _) ?_)); (fail_if_success (refine (id : EStep _ _ _ _ _ _ _ → EStep _ _ _ _ _ _ _) ?_)); intros; (repeat' apply And.intro) <;> first | assumption | omega | (simp_all; done)))
  refine aw_seq (aw_region (EF := EF0) hG (by rw [hN]; exact tr9_7) ?_)
  simp only [a9_7, go_sem, ↓reduceIte, Nat.reduceEqDiff, reduceCtorEq, Nat.reduceAdd, Nat.reduceLT, Nat.reduceLeDiff, Nat.reduceBNe, Nat.reduceBEq, Int.reduceToNat, k_pa2, tKn]
  (repeat' apply And.intro) <;> (try first | omega | ((fail_if_success (refine (id : AW _ _ _ _ _ → AW _ _ _ _ _) ?_)); (fail_if_success (refine (id : EStep _ _ _ _ _ _ _ → EStep _ _ _ _ _ _ _) ?_)); intros; (repeat' apply And.intro) <;> first | assumption | omega | (simp_all; done)))
  refine aw_seq (aw_region (EF := EF0) hG (by rw [hN]; exact tr9_8) ?_)
  simp (maxSteps := 2000000) only [a9_8, go_sem, ↓reduceIte, Nat.reduceEqDiff, reduceCtorEq, Nat.reduceAdd, Nat.reduceLT, Nat.reduceLeDiff, Nat.reduceBNe, Nat.reduceBEq, Int.reduceToNat, k_prn, tKn]
  (repeat' apply And.intro) <;> (try first | omega | ((fail_if_success (refine (id : AW _ _ _ _ _ → AW _ _ _ _ _) ?_)); (fail_if_success (refine (id : EStep _ _ _ _ _ _ _ → EStep _ _ _ _ _ _ _) ?_)); intros; (repeat' apply And.intro) <;> first | assumption | omega | (simp_all; done)))
  refine aw_ret ?_
  show Q _ _
  refine hQ _ _ (.inl rfl) ?_ ?_ ?_ <;> simp only [outφ, outV, AR.res, go_sem, ↓reduceIte, Nat.reduceEqDiff, reduceCtorEq, Nat.reduceAdd, Nat.reduceLT, Nat.reduceLeDiff, Nat.reduceBNe, Nat.reduceBEq, Int.reduceToNat, fKn]
/-! Sums. -/
def aSums (x : Int × Int × List Int) : List V := [.int .i64 x.1, .int .i64 x.2.1, .list (ints x.2.2) false]
theorem aSums_inj (a b : Int × Int × List Int) (h : aSums a = aSums b) : a = b := by
  obtain ⟨a_a, a_b, a_l⟩ := a
  obtain ⟨b_a, b_b, b_l⟩ := b
  simp only [aSums, List.cons.injEq, V.str.injEq, V.int.injEq, V.bool.injEq, V.agg.injEq, V.list.injEq, and_true, true_and] at h
  obtain ⟨h0, h1, h2⟩ := h
  subst h0
  subst h1
  replace h2 := ints_inj h2
  subst h2
  rfl
def fL1 (x : Int × Int × List Int) : Prop × V := (x.2.2.length ≤ 140737488355328, .bool true)
noncomputable def tL1 : Tab
  | 9 => (gOf aUnit fKn)
  | 10 => (gOf aTwo fAdd)
  | 11 => (gOf aTwo fAdd)
  | 12 => (gOf aTwo fSub)
  | 13 => (gOf aTwo fSub)
  | 14 => (gOf aLi fSum)
  | 15 => (gOf aLi fSum)
  | _ => gNo
theorem tL1_ok : ∀ f, PureC Tryd.prog UT f (tL1 f) := fun f => by
  unfold tL1
  split
  · exact knows_p
  · exact add_p
  · exact radd_p
  · exact sub_p
  · exact rsub_p
  · exact sum_p
  · exact rsum_p
  · exact PureC.no
theorem fSub_eq (a b : Int) : gOf aTwo fSub [.int .i64 a, .int .i64 b] = (True, pairV (addP a (-b))) := gOf_eq aTwo_inj (a, b)
theorem fSum_eq (l : List Int) : gOf aLi fSum [.list (ints l) false] = (l.length ≤ 140737488355328, pairV (sumF 0 l)) := gOf_eq aLi_inj l
theorem law1_p : PureC Tryd.prog UT 3 (gOf aSums fL1) := by
  have hG := tL1_ok
  refine PureC.ofArgs aSums_inj Tryd.func3 body3 nm3 res3 ?_
  rintro ⟨a, b, l⟩ hv
  refine ⟨by rw [nt3]; simp [aSums], fun C hN Q hQ => ?_⟩
  rw [nt3] at hN
  unfold c3
  replace hv : l.length ≤ 140737488355328 := hv
  refine aw_seq (aw_region (EF := EF0) hG (by rw [hN]; exact tr3_0) ?_)
  simp only [a3_0, go_sem, ↓reduceIte, Nat.reduceEqDiff, reduceCtorEq, Nat.reduceAdd, Nat.reduceLT, Nat.reduceLeDiff, Nat.reduceBNe, Nat.reduceBEq, Int.reduceToNat, aSums, tL1, fKn_eq, fAdd_eq, fSub_eq, fSum_eq, pairV, decide_true]
  refine aw_seq ?_
  refine aw_seq (aw_region (EF := EF0) hG (by rw [hN]; exact tr3_1) ?_)
  simp only [a3_1, go_sem, ↓reduceIte, Nat.reduceEqDiff, reduceCtorEq, Nat.reduceAdd, Nat.reduceLT, Nat.reduceLeDiff, Nat.reduceBNe, Nat.reduceBEq, Int.reduceToNat, tL1, fKn_eq, fAdd_eq, fSub_eq, fSum_eq, pairV, decide_true]
  refine aw_cond (b := _) rfl (fun hc1 => ?_) (fun hc1 => ?_)
  · simp only [decide_eq_true_eq, decide_eq_false_iff_not, Bool.and_eq_true, Bool.or_eq_true, Bool.not_eq_true', Bool.not_eq_false', Bool.and_eq_false_iff, Bool.or_eq_false_iff, Int.ofNat_lt, Int.ofNat_le, Nat.not_lt, Nat.not_le, Int.not_lt, Int.not_le] at hc1
    refine aw_seq (aw_region (EF := EF0) hG (by rw [hN]; exact tr3_2) ?_)
    simp only [a3_2, go_sem, ↓reduceIte, Nat.reduceEqDiff, reduceCtorEq, Nat.reduceAdd, Nat.reduceLT, Nat.reduceLeDiff, Nat.reduceBNe, Nat.reduceBEq, Int.reduceToNat, tL1, fKn_eq, fAdd_eq, fSub_eq, fSum_eq, pairV, decide_true]
    (repeat' apply And.intro) <;> (try first | omega | ((fail_if_success (refine (id : AW _ _ _ _ _ → AW _ _ _ _ _) ?_)); (fail_if_success (refine (id : EStep _ _ _ _ _ _ _ → EStep _ _ _ _ _ _ _) ?_)); intros; (repeat' apply And.intro) <;> first | assumption | omega | (simp_all; done)))
    refine aw_ret ?_
    show Q _ _
    refine hQ _ _ (.inl rfl) ?_ ?_ ?_ <;> simp only [outφ, outV, AR.res, go_sem, ↓reduceIte, Nat.reduceEqDiff, reduceCtorEq, Nat.reduceAdd, Nat.reduceLT, Nat.reduceLeDiff, Nat.reduceBNe, Nat.reduceBEq, Int.reduceToNat, fL1]
  · simp only [decide_eq_true_eq, decide_eq_false_iff_not, Bool.and_eq_true, Bool.or_eq_true, Bool.not_eq_true', Bool.not_eq_false', Bool.and_eq_false_iff, Bool.or_eq_false_iff, Int.ofNat_lt, Int.ofNat_le, Nat.not_lt, Nat.not_le, Int.not_lt, Int.not_le] at hc1
    refine aw_skip ?_
    try simp only [go_sem, ↓reduceIte, Nat.reduceEqDiff, reduceCtorEq, Nat.reduceAdd, Nat.reduceLT, Nat.reduceLeDiff, Nat.reduceBNe, Nat.reduceBEq, Int.reduceToNat]
    refine aw_seq (aw_region (EF := EF0) hG (by rw [hN]; exact tr3_3) ?_)
    simp only [a3_3, go_sem, ↓reduceIte, Nat.reduceEqDiff, reduceCtorEq, Nat.reduceAdd, Nat.reduceLT, Nat.reduceLeDiff, Nat.reduceBNe, Nat.reduceBEq, Int.reduceToNat, tL1, fKn_eq, fAdd_eq, fSub_eq, fSum_eq, pairV, decide_true]
    (repeat' apply And.intro) <;> (try first | omega | ((fail_if_success (refine (id : AW _ _ _ _ _ → AW _ _ _ _ _) ?_)); (fail_if_success (refine (id : EStep _ _ _ _ _ _ _ → EStep _ _ _ _ _ _ _) ?_)); intros; (repeat' apply And.intro) <;> first | assumption | omega | (simp_all; done)))
    refine aw_seq (aw_region (EF := EF0) hG (by rw [hN]; exact tr3_4) ?_)
    simp only [a3_4, go_sem, ↓reduceIte, Nat.reduceEqDiff, reduceCtorEq, Nat.reduceAdd, Nat.reduceLT, Nat.reduceLeDiff, Nat.reduceBNe, Nat.reduceBEq, Int.reduceToNat, tL1, fKn_eq, fAdd_eq, fSub_eq, fSum_eq, pairV, decide_true]
    (repeat' apply And.intro) <;> (try first | omega | ((fail_if_success (refine (id : AW _ _ _ _ _ → AW _ _ _ _ _) ?_)); (fail_if_success (refine (id : EStep _ _ _ _ _ _ _ → EStep _ _ _ _ _ _ _) ?_)); intros; (repeat' apply And.intro) <;> first | assumption | omega | (simp_all; done)))
    refine aw_seq (aw_region (EF := EF0) hG (by rw [hN]; exact tr3_5) ?_)
    simp only [a3_5, go_sem, ↓reduceIte, Nat.reduceEqDiff, reduceCtorEq, Nat.reduceAdd, Nat.reduceLT, Nat.reduceLeDiff, Nat.reduceBNe, Nat.reduceBEq, Int.reduceToNat, tL1, fKn_eq, fAdd_eq, fSub_eq, fSum_eq, pairV, decide_true]
    (repeat' apply And.intro) <;> (try first | omega | ((fail_if_success (refine (id : AW _ _ _ _ _ → AW _ _ _ _ _) ?_)); (fail_if_success (refine (id : EStep _ _ _ _ _ _ _ → EStep _ _ _ _ _ _ _) ?_)); intros; (repeat' apply And.intro) <;> first | assumption | omega | (simp_all; done)))
    refine aw_seq (aw_region (EF := EF0) hG (by rw [hN]; exact tr3_6) ?_)
    simp only [a3_6, go_sem, ↓reduceIte, Nat.reduceEqDiff, reduceCtorEq, Nat.reduceAdd, Nat.reduceLT, Nat.reduceLeDiff, Nat.reduceBNe, Nat.reduceBEq, Int.reduceToNat, tL1, fKn_eq, fAdd_eq, fSub_eq, fSum_eq, pairV, decide_true]
    (repeat' apply And.intro) <;> (try first | omega | ((fail_if_success (refine (id : AW _ _ _ _ _ → AW _ _ _ _ _) ?_)); (fail_if_success (refine (id : EStep _ _ _ _ _ _ _ → EStep _ _ _ _ _ _ _) ?_)); intros; (repeat' apply And.intro) <;> first | assumption | omega | (simp_all; done)))
    refine aw_seq (aw_region (EF := EF0) hG (by rw [hN]; exact tr3_7) ?_)
    simp only [a3_7, go_sem, ↓reduceIte, Nat.reduceEqDiff, reduceCtorEq, Nat.reduceAdd, Nat.reduceLT, Nat.reduceLeDiff, Nat.reduceBNe, Nat.reduceBEq, Int.reduceToNat, tL1, fKn_eq, fAdd_eq, fSub_eq, fSum_eq, pairV, decide_true]
    (repeat' apply And.intro) <;> (try first | omega | ((fail_if_success (refine (id : AW _ _ _ _ _ → AW _ _ _ _ _) ?_)); (fail_if_success (refine (id : EStep _ _ _ _ _ _ _ → EStep _ _ _ _ _ _ _) ?_)); intros; (repeat' apply And.intro) <;> first | assumption | omega | (simp_all; done)))
    refine aw_seq (aw_region (EF := EF0) hG (by rw [hN]; exact tr3_8) ?_)
    simp only [a3_8, go_sem, ↓reduceIte, Nat.reduceEqDiff, reduceCtorEq, Nat.reduceAdd, Nat.reduceLT, Nat.reduceLeDiff, Nat.reduceBNe, Nat.reduceBEq, Int.reduceToNat, tL1, fKn_eq, fAdd_eq, fSub_eq, fSum_eq, pairV, decide_true]
    (repeat' apply And.intro) <;> (try first | omega | ((fail_if_success (refine (id : AW _ _ _ _ _ → AW _ _ _ _ _) ?_)); (fail_if_success (refine (id : EStep _ _ _ _ _ _ _ → EStep _ _ _ _ _ _ _) ?_)); intros; (repeat' apply And.intro) <;> first | assumption | omega | (simp_all; done)))
    refine aw_seq (aw_region (EF := EF0) hG (by rw [hN]; exact tr3_9) ?_)
    simp (maxSteps := 2000000) only [a3_9, go_sem, ↓reduceIte, Nat.reduceEqDiff, reduceCtorEq, Nat.reduceAdd, Nat.reduceLT, Nat.reduceLeDiff, Nat.reduceBNe, Nat.reduceBEq, Int.reduceToNat, tL1, fKn_eq, fAdd_eq, fSub_eq, fSum_eq, pairV, decide_true]
    (repeat' apply And.intro) <;> (try first | omega | ((fail_if_success (refine (id : AW _ _ _ _ _ → AW _ _ _ _ _) ?_)); (fail_if_success (refine (id : EStep _ _ _ _ _ _ _ → EStep _ _ _ _ _ _ _) ?_)); intros; (repeat' apply And.intro) <;> first | assumption | omega | (simp_all; done)))
    refine aw_ret ?_
    show Q _ _
    refine hQ _ _ (.inl rfl) ?_ ?_ ?_ <;> simp only [outφ, outV, AR.res, go_sem, ↓reduceIte, Nat.reduceEqDiff, reduceCtorEq, Nat.reduceAdd, Nat.reduceLT, Nat.reduceLeDiff, Nat.reduceBNe, Nat.reduceBEq, Int.reduceToNat, fL1]
end Go.Proofs.YtdjeodopibaebaaDoor
