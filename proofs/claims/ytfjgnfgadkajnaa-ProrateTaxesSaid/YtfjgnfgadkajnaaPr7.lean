/- What is right, what is big, the examples; the shares of components add up. -/
import Derived.Test.YtfjgnfgadkajnaaPr6
import Derived.Test.YtfjgnfgadkajnaaPr1
import Derived.Test.YtfjgnfgadkajnaaT8
namespace Go.Proofs.Ytfjgnfgadkajnaa
open Go Go.RowKit
set_option linter.unusedSimpArgs false
set_option linter.unusedVariables false
set_option linter.deprecated false
def aL2 (x : List Int × List Int) : List V := [.list (ints x.1) false, .list (ints x.2) false]
theorem aL2_inj (a b : List Int × List Int) (h : aL2 a = aL2 b) : a = b := by
  obtain ⟨a_a, a_b⟩ := a
  obtain ⟨b_a, b_b⟩ := b
  simp only [aL2, List.cons.injEq, V.str.injEq, V.int.injEq, V.bool.injEq, V.agg.injEq, V.list.injEq, and_true, true_and] at h
  obtain ⟨h0, h1⟩ := h
  replace h0 := ints_inj h0
  subst h0
  replace h1 := ints_inj h1
  subst h1
  rfl
def fS13 (x : List Int × List Int) : Prop × V := (x.1.length ≤ 140737488355328 ∧ x.2.length ≤ 140737488355328, .bool (decide (x.1 = x.2)))
theorem same13_p : PureC Try.prog UT 15 (gOf aL2 fS13) := by
  have hG := tNo_ok
  refine PureC.ofArgs aL2_inj Try.func15 body15 nm15 res15 ?_
  rintro ⟨a, b⟩ hv
  refine ⟨by rw [nt15]; simp [aL2], fun C hN Q hQ => ?_⟩
  rw [nt15] at hN
  unfold c15
  obtain ⟨ha, hb⟩ : a.length ≤ 140737488355328 ∧ b.length ≤ 140737488355328 := hv
  refine aw_seq (aw_region (EF := EF0) hG (by rw [hN]; exact tr15_0) ?_)
  simp only [a15_0, go_sem, ↓reduceIte, Nat.reduceEqDiff, reduceCtorEq, Nat.reduceAdd, Nat.reduceLT, Nat.reduceLeDiff, Nat.reduceBNe, Nat.reduceBEq, Int.reduceToNat, aL2, tNo]
  refine aw_seq ?_
  refine aw_seq (aw_region (EF := EF0) hG (by rw [hN]; exact tr15_1) ?_)
  simp only [a15_1, go_sem, ↓reduceIte, Nat.reduceEqDiff, reduceCtorEq, Nat.reduceAdd, Nat.reduceLT, Nat.reduceLeDiff, Nat.reduceBNe, Nat.reduceBEq, Int.reduceToNat, tNo]
  refine aw_cond (b := _) rfl (fun hb1 => ?_) (fun hb1 => ?_)
  · skip
    have hne : (a.length : Int) ≠ b.length := by simpa using hb1
    refine aw_seq (aw_region (EF := EF0) hG (by rw [hN]; exact tr15_2) ?_)
    simp only [a15_2, go_sem, ↓reduceIte, Nat.reduceEqDiff, reduceCtorEq, Nat.reduceAdd, Nat.reduceLT, Nat.reduceLeDiff, Nat.reduceBNe, Nat.reduceBEq, Int.reduceToNat, tNo]
    refine aw_ret ?_
    show Q _ _
    refine hQ _ _ (.inl rfl) ?_ ?_ ?_ <;> simp only [outφ, outV, AR.res, go_sem, ↓reduceIte, Nat.reduceEqDiff, reduceCtorEq, Nat.reduceAdd, Nat.reduceLT, Nat.reduceLeDiff, Nat.reduceBNe, Nat.reduceBEq, Int.reduceToNat, fS13]
    rw [decide_eq_false (fun e => hne (by rw [show a = b from e]))]
  · skip
    have hl0 : (a.length : Int) = b.length := by simpa using hb1
    have hl : a.length = b.length := by omega
    refine aw_skip ?_
    try simp only [go_sem, ↓reduceIte, Nat.reduceEqDiff, reduceCtorEq, Nat.reduceAdd, Nat.reduceLT, Nat.reduceLeDiff, Nat.reduceBNe, Nat.reduceBEq, Int.reduceToNat]
    refine aw_seq ?_
    refine aw_seq (aw_region (EF := EF0) hG (by rw [hN]; exact tr15_3) ?_)
    simp only [a15_3, go_sem, ↓reduceIte, Nat.reduceEqDiff, reduceCtorEq, Nat.reduceAdd, Nat.reduceLT, Nat.reduceLeDiff, Nat.reduceBNe, Nat.reduceBEq, Int.reduceToNat, tNo]
    refine aw_block ?_
    refine aw_loop (α := Nat) (fun i => (i ≤ a.length) ∧ (a.take i = b.take i)) (fun i => ⟨mkE [(0, V.list (ints a) false), (1, V.list (ints b) false), (5, .int .i64 i)], mkH []⟩) (fun i => a.length - i) 0 ⟨Nat.zero_le _, rfl⟩ ?_ ?_
    · refine Le.mk _ _ ?_ ?_ rfl <;> simp only [go_sem, ↓reduceIte, Nat.reduceEqDiff, reduceCtorEq, Nat.reduceAdd, Nat.reduceLT, Nat.reduceLeDiff, Nat.reduceBNe, Nat.reduceBEq, Int.reduceToNat] <;> (repeat' apply And.intro) <;> (try first | rfl | exact wk_frzb rfl rfl rfl | exact wk_fn rfl | exact .nilo _ _ _ rfl rfl | exact wk_frzm rfl rfl (fun kv hk => by obtain ⟨_, _, rfl⟩ := List.mem_map.1 hk; rfl))
    · rintro i ⟨hi, hs⟩ KL0 hKL0
      try dsimp only at *
      refine aw_seq ?_
      refine aw_seq (aw_region (EF := EF0) hG (by rw [hN]; exact tr15_4) ?_)
      simp only [a15_4, go_sem, ↓reduceIte, Nat.reduceEqDiff, reduceCtorEq, Nat.reduceAdd, Nat.reduceLT, Nat.reduceLeDiff, Nat.reduceBNe, Nat.reduceBEq, Int.reduceToNat, tNo]
      refine aw_cond (b := _) rfl (fun hc4 => ?_) (fun hc4 => ?_)
      · simp only [decide_eq_true_eq, decide_eq_false_iff_not, Bool.and_eq_true, Bool.or_eq_true, Bool.not_eq_true', Bool.not_eq_false', Bool.and_eq_false_iff, Bool.or_eq_false_iff, Int.ofNat_lt, Int.ofNat_le, Nat.not_lt, Nat.not_le, Int.not_lt, Int.not_le] at hc4
        refine aw_skip ?_
        try simp only [go_sem, ↓reduceIte, Nat.reduceEqDiff, reduceCtorEq, Nat.reduceAdd, Nat.reduceLT, Nat.reduceLeDiff, Nat.reduceBNe, Nat.reduceBEq, Int.reduceToNat]
        refine aw_seq ?_
        refine aw_block ?_
        have hib : i < b.length := by omega
        refine aw_seq (aw_regionD (EF := EF0) hG mixed (by rw [hN]; exact tr15_6) ok15_6 ?_)
        simp only [a15_6, d15_6, go_sem, ↓reduceIte, Nat.reduceEqDiff, reduceCtorEq, Nat.reduceAdd, Nat.reduceLT, Nat.reduceLeDiff, Nat.reduceBNe, Nat.reduceBEq, Int.reduceToNat, ints_getD _ _ _ hc4, hc4, ints_getD _ _ _ hib, hib, tNo]
        (repeat' apply And.intro) <;> (try first | omega | ((fail_if_success (refine (id : AW _ _ _ _ _ → AW _ _ _ _ _) ?_)); (fail_if_success (refine (id : EStep _ _ _ _ _ _ _ → EStep _ _ _ _ _ _ _) ?_)); intros; (repeat' apply And.intro) <;> first | assumption | omega | (simp_all; done)))
        refine aw_cond (b := _) rfl (fun hb6 => ?_) (fun hb6 => ?_)
        · skip
          have hne : a[i] ≠ b[i] := by simpa using hb6
          refine aw_seq (aw_region (EF := EF0) hG (by rw [hN]; exact tr15_7) ?_)
          simp only [a15_7, go_sem, ↓reduceIte, Nat.reduceEqDiff, reduceCtorEq, Nat.reduceAdd, Nat.reduceLT, Nat.reduceLeDiff, Nat.reduceBNe, Nat.reduceBEq, Int.reduceToNat, tNo]
          refine aw_ret ?_
          show Q _ _
          refine hQ _ _ (.inl rfl) ?_ ?_ ?_ <;> simp only [outφ, outV, AR.res, go_sem, ↓reduceIte, Nat.reduceEqDiff, reduceCtorEq, Nat.reduceAdd, Nat.reduceLT, Nat.reduceLeDiff, Nat.reduceBNe, Nat.reduceBEq, Int.reduceToNat, fS13]
          rw [decide_eq_false (fun e => hne (by have e2 : a = b := e; subst e2; rfl))]
        · skip
          have he : a[i] = b[i] := by simpa using hb6
          refine aw_skip ?_
          try simp only [go_sem, ↓reduceIte, Nat.reduceEqDiff, reduceCtorEq, Nat.reduceAdd, Nat.reduceLT, Nat.reduceLeDiff, Nat.reduceBNe, Nat.reduceBEq, Int.reduceToNat]
          refine aw_region (EF := EF0) hG (by rw [hN]; exact tr15_5) ?_
          simp only [a15_5, go_sem, ↓reduceIte, Nat.reduceEqDiff, reduceCtorEq, Nat.reduceAdd, Nat.reduceLT, Nat.reduceLeDiff, Nat.reduceBNe, Nat.reduceBEq, Int.reduceToNat, inI, tNo]
          (repeat' apply And.intro) <;> (try first | omega | ((fail_if_success (refine (id : AW _ _ _ _ _ → AW _ _ _ _ _) ?_)); (fail_if_success (refine (id : EStep _ _ _ _ _ _ _ → EStep _ _ _ _ _ _ _) ?_)); intros; (repeat' apply And.intro) <;> first | assumption | omega | (simp_all; done)))
          refine hKL0 (i + 1) _ ?_ ?_ ?_
          · (try dsimp only); exact ⟨hc4, by rw [take_succ' hc4, take_succ' hib, hs, he]⟩
          · (try dsimp only); omega
          · refine Le.mk _ _ ?_ ?_ rfl <;> simp only [go_sem, ↓reduceIte, Nat.reduceEqDiff, reduceCtorEq, Nat.reduceAdd, Nat.reduceLT, Nat.reduceLeDiff, Nat.reduceBNe, Nat.reduceBEq, Int.reduceToNat] <;> (repeat' apply And.intro) <;> (try first | rfl | exact wk_frzb rfl rfl rfl | exact wk_fn rfl | exact .nilo _ _ _ rfl rfl | exact wk_frzm rfl rfl (fun kv hk => by obtain ⟨_, _, rfl⟩ := List.mem_map.1 hk; rfl))
      · simp only [decide_eq_true_eq, decide_eq_false_iff_not, Bool.and_eq_true, Bool.or_eq_true, Bool.not_eq_true', Bool.not_eq_false', Bool.and_eq_false_iff, Bool.or_eq_false_iff, Int.ofNat_lt, Int.ofNat_le, Nat.not_lt, Nat.not_le, Int.not_lt, Int.not_le] at hc4
        obtain rfl : i = a.length := by omega
        rw [List.take_length, List.take_of_length_le (by omega)] at hs
        refine aw_exit ?_
        simp only [go_sem, ↓reduceIte, Nat.reduceEqDiff, reduceCtorEq, Nat.reduceAdd, Nat.reduceLT, Nat.reduceLeDiff, Nat.reduceBNe, Nat.reduceBEq, Int.reduceToNat]
        refine aw_seq (aw_region (EF := EF0) hG (by rw [hN]; exact tr15_8) ?_)
        simp only [a15_8, go_sem, ↓reduceIte, Nat.reduceEqDiff, reduceCtorEq, Nat.reduceAdd, Nat.reduceLT, Nat.reduceLeDiff, Nat.reduceBNe, Nat.reduceBEq, Int.reduceToNat, tNo]
        refine aw_ret ?_
        show Q _ _
        refine hQ _ _ (.inl rfl) ?_ ?_ ?_ <;> simp only [outφ, outV, AR.res, go_sem, ↓reduceIte, Nat.reduceEqDiff, reduceCtorEq, Nat.reduceAdd, Nat.reduceLT, Nat.reduceLeDiff, Nat.reduceBNe, Nat.reduceBEq, Int.reduceToNat, fS13]
        rw [decide_eq_true hs]
structure PtF (n at' : Int) (X : List Int) (p : Part) : Prop where
  lo : at' ≤ p.from'
  mid : p.from' < p.to'
  hi : p.to' ≤ n
  sg : 0 ≤ p.amount → ∀ k : Nat, p.from' ≤ at' + k → at' + k < p.to' → 0 ≤ X.getD k 0
  sum : ((X.take (p.to' - at').toNat).drop (p.from' - at').toNat).sum = p.amount
/-! The examples. -/
def exP : Places := ⟨[⟨[76, 72, 82], [76, 79, 78], [71, 66], ⟨0, []⟩⟩, ⟨[74, 70, 75], [78, 89, 67], [85, 83], ⟨0, []⟩⟩, ⟨[67, 68, 71], [80, 65, 82], [70, 82], ⟨0, []⟩⟩], [⟨[76, 79, 78], [78, 89, 67], 3458⟩, ⟨[76, 79, 78], [80, 65, 82], 214⟩]⟩
def exS (a b : List UInt8) : Want := ⟨⟨[], 0, 0, a, b, 0, 0⟩, []⟩
def exL : List Want := [exS [74, 70, 75] [76, 72, 82], exS [76, 72, 82] [67, 68, 71]]
def exQ : Quote := ⟨[⟨0, 2, 0, 10000⟩], [], [], 0, 0⟩
def exC (n : Int) : Coupon := ⟨exS [] [], [], 5, n⟩
def exT : Ticket := ⟨0, [], ⟨[], [], []⟩, [exC 1000, exC 2000, exC 500], 0, [], 0, 0⟩
theorem ex_co : gOf aCo fCo [.agg [.list [[.str [76, 72, 82], .str [76, 79, 78], .str [71, 66], .int .i64 0, .list [] false], [.str [74, 70, 75], .str [78, 89, 67], .str [85, 83], .int .i64 0, .list [] false], [.str [67, 68, 71], .str [80, 65, 82], .str [70, 82], .int .i64 0, .list [] false]] false, .list [[.str [76, 79, 78], .str [78, 89, 67], .int .i64 3458], [.str [76, 79, 78], .str [80, 65, 82], .int .i64 214]] false],
    .list [[.str [], .int .i64 0, .int .i64 0, .str [74, 70, 75], .str [76, 72, 82], .int .i64 0, .int .i64 0, .str []], [.str [], .int .i64 0, .int .i64 0, .str [76, 72, 82], .str [67, 68, 71], .int .i64 0, .int .i64 0, .str []]] false,
    .agg [.list [[.int .i64 0, .int .i64 2, .int .i64 0, .int .i64 10000]] false, .list [] false, .list [] false, .int .i64 0, .int .i64 0]] = (True, .tup [.list [[.int .i64 9417], [.int .i64 583]] false, .int .i64 0]) :=
  gOf_at aCo_inj (exP, exL, exQ) rfl ⟨⟨⟨by decide, by decide⟩, by decide⟩, by decide, by decide, fun x hx => by obtain rfl := List.mem_singleton.1 hx; unfold Part.ok inI; decide⟩ (by kernel_rfl)
theorem ex_sh : gOf aShr fShr [.agg [.int .i64 0, .str [], .str [], .str [], .str [], .list [[.str [], .int .i64 0, .int .i64 0, .str [], .str [], .int .i64 0, .int .i64 0, .str [], .str [], .int .i64 5, .int .i64 1000], [.str [], .int .i64 0, .int .i64 0, .str [], .str [], .int .i64 0, .int .i64 0, .str [], .str [], .int .i64 5, .int .i64 2000], [.str [], .int .i64 0, .int .i64 0, .str [], .str [], .int .i64 0, .int .i64 0, .str [], .str [], .int .i64 5, .int .i64 500]] false, .int .i64 0, .list [] false, .int .i64 0, .int .i64 0],
    .list [[.str [66, 65]], [.str [65, 70]], [.str [66, 65]]] false] = (True, .tup [.list [[.str [65, 70], .int .i64 2000], [.str [66, 65], .int .i64 1500]] false, .int .i64 0]) :=
  gOf_at aShr_inj (exT, [[66, 65], [65, 70], [66, 65]]) rfl ⟨by decide, by decide, by decide⟩ (by kernel_rfl)
theorem ex_sm : gOf aL2 fS13 [.list [[.int .i64 9417], [.int .i64 583]] false, .list [[.int .i64 9417], [.int .i64 583]] false] = (True, .bool true) := gOf_at aL2_inj ([9417, 583], [9417, 583]) rfl ⟨by decide, by decide⟩ (by kernel_rfl)
theorem ex_co2 : gNn (gOf aCo fCo) [.agg [.list [[.str [76, 72, 82], .str [76, 79, 78], .str [71, 66], .int .i64 0, .list [] false], [.str [74, 70, 75], .str [78, 89, 67], .str [85, 83], .int .i64 0, .list [] false], [.str [67, 68, 71], .str [80, 65, 82], .str [70, 82], .int .i64 0, .list [] false]] false, .list [[.str [76, 79, 78], .str [78, 89, 67], .int .i64 3458], [.str [76, 79, 78], .str [80, 65, 82], .int .i64 214]] false],
    .list [[.str [], .int .i64 0, .int .i64 0, .str [74, 70, 75], .str [76, 72, 82], .int .i64 0, .int .i64 0, .str []], [.str [], .int .i64 0, .int .i64 0, .str [76, 72, 82], .str [67, 68, 71], .int .i64 0, .int .i64 0, .str []]] false,
    .agg [.list [[.int .i64 0, .int .i64 2, .int .i64 0, .int .i64 10000]] false, .nils, .nils, .int .i64 0, .int .i64 0]] = (True, .tup [.list [[.int .i64 9417], [.int .i64 583]] false, .int .i64 0]) := ex_co
theorem ex_sh2 : gNn (gOf aShr fShr) [.agg [.int .i64 0, .str [], .str [], .str [], .str [], .list [[.str [], .int .i64 0, .int .i64 0, .str [], .str [], .int .i64 0, .int .i64 0, .str [], .str [], .int .i64 5, .int .i64 1000], [.str [], .int .i64 0, .int .i64 0, .str [], .str [], .int .i64 0, .int .i64 0, .str [], .str [], .int .i64 5, .int .i64 2000], [.str [], .int .i64 0, .int .i64 0, .str [], .str [], .int .i64 0, .int .i64 0, .str [], .str [], .int .i64 5, .int .i64 500]] false, .int .i64 0, .nils, .int .i64 0, .int .i64 0],
    .list [[.str [66, 65]], [.str [65, 70]], [.str [66, 65]]] false] = (True, .tup [.list [[.str [65, 70], .int .i64 2000], [.str [66, 65], .int .i64 1500]] false, .int .i64 0]) := ex_sh
noncomputable def tAw39 : Tab
  | 8 => (gNn (gOf aCo fCo))
  | 10 => (gNn (gOf aShr fShr))
  | 15 => (gOf aL2 fS13)
  | _ => gNo
theorem tAw39_ok : ∀ f, PureC Try.prog UT f (tAw39 f) := fun f => by
  unfold tAw39
  split
  · exact coupons_p.nn
  · exact shares_p.nn
  · exact same13_p
  · exact PureC.no
set_option maxHeartbeats 4000000 in
set_option maxRecDepth 20000 in
theorem awake_p39 : PureC Try.prog UT 7 (gOf aUnit fTrue) := by
  have hG := tAw39_ok
  refine PureC.ofArgs aUnit_inj Try.func7 body7 nm7 res7 ?_
  rintro u hv
  refine ⟨by rw [nt7]; simp [aUnit], fun C hN Q hQ => ?_⟩
  rw [nt7] at hN
  unfold c7
  refine aw_seq (aw_region (EF := EF0) hG (by rw [hN]; exact tr7_0) ?_)
  simp only [a7_0, go_sem, ↓reduceIte, Nat.reduceEqDiff, reduceCtorEq, Nat.reduceAdd, Nat.reduceLT, Nat.reduceLeDiff, Nat.reduceBNe, Nat.reduceBEq, Int.reduceToNat, aUnit, tAw39]
  refine aw_seq (aw_region (EF := EF0) hG (by rw [hN]; exact tr7_1) ?_)
  simp only [a7_1, go_sem, ↓reduceIte, Nat.reduceEqDiff, reduceCtorEq, Nat.reduceAdd, Nat.reduceLT, Nat.reduceLeDiff, Nat.reduceBNe, Nat.reduceBEq, Int.reduceToNat, tAw39]
  refine aw_seq (aw_region (EF := EF0) hG (by rw [hN]; exact tr7_2) ?_)
  simp only [a7_2, go_sem, ↓reduceIte, Nat.reduceEqDiff, reduceCtorEq, Nat.reduceAdd, Nat.reduceLT, Nat.reduceLeDiff, Nat.reduceBNe, Nat.reduceBEq, Int.reduceToNat, tAw39]
  refine aw_seq (aw_region (EF := EF0) hG (by rw [hN]; exact tr7_3) ?_)
  simp only [a7_3, go_sem, ↓reduceIte, Nat.reduceEqDiff, reduceCtorEq, Nat.reduceAdd, Nat.reduceLT, Nat.reduceLeDiff, Nat.reduceBNe, Nat.reduceBEq, Int.reduceToNat, ex_co2, tAw39]
  (repeat' apply And.intro) <;> (try first | omega | ((fail_if_success (refine (id : AW _ _ _ _ _ → AW _ _ _ _ _) ?_)); (fail_if_success (refine (id : EStep _ _ _ _ _ _ _ → EStep _ _ _ _ _ _ _) ?_)); intros; (repeat' apply And.intro) <;> first | assumption | omega | (simp_all; done)))
  refine aw_seq (aw_region (EF := EF0) hG (by rw [hN]; exact tr7_4) ?_)
  simp only [a7_4, go_sem, ↓reduceIte, Nat.reduceEqDiff, reduceCtorEq, Nat.reduceAdd, Nat.reduceLT, Nat.reduceLeDiff, Nat.reduceBNe, Nat.reduceBEq, Int.reduceToNat, tAw39]
  refine aw_seq (aw_region (EF := EF0) hG (by rw [hN]; exact tr7_5) ?_)
  simp only [a7_5, go_sem, ↓reduceIte, Nat.reduceEqDiff, reduceCtorEq, Nat.reduceAdd, Nat.reduceLT, Nat.reduceLeDiff, Nat.reduceBNe, Nat.reduceBEq, Int.reduceToNat, ex_sh2, tAw39]
  (repeat' apply And.intro) <;> (try first | omega | ((fail_if_success (refine (id : AW _ _ _ _ _ → AW _ _ _ _ _) ?_)); (fail_if_success (refine (id : EStep _ _ _ _ _ _ _ → EStep _ _ _ _ _ _ _) ?_)); intros; (repeat' apply And.intro) <;> first | assumption | omega | (simp_all; done)))
  refine aw_seq (aw_region (EF := EF0) hG (by rw [hN]; exact tr7_6) ?_)
  simp only [a7_6, go_sem, ↓reduceIte, Nat.reduceEqDiff, reduceCtorEq, Nat.reduceAdd, Nat.reduceLT, Nat.reduceLeDiff, Nat.reduceBNe, Nat.reduceBEq, Int.reduceToNat, ex_sm, tAw39]
  (repeat' apply And.intro) <;> (try first | omega | ((fail_if_success (refine (id : AW _ _ _ _ _ → AW _ _ _ _ _) ?_)); (fail_if_success (refine (id : EStep _ _ _ _ _ _ _ → EStep _ _ _ _ _ _ _) ?_)); intros; (repeat' apply And.intro) <;> first | assumption | omega | (simp_all; done)))
  refine aw_ret ?_
  show Q _ _
  refine hQ _ _ (.inl rfl) ?_ ?_ ?_ <;> simp only [outφ, outV, AR.res, go_sem, ↓reduceIte, Nat.reduceEqDiff, reduceCtorEq, Nat.reduceAdd, Nat.reduceLT, Nat.reduceLeDiff, Nat.reduceBNe, Nat.reduceBEq, Int.reduceToNat, fTrue]
end Go.Proofs.Ytfjgnfgadkajnaa
