/- Same, Big, awake. -/
import Derived.Test.YtnlgkeiilenojaaDoorSv5
namespace Go.Proofs.YtnlgkeiilenojaaDoor
open Go Go.RowKit
set_option linter.unusedSimpArgs false
set_option linter.unusedVariables false
set_option linter.deprecated false
def aTwoB (x : Booking × Booking) : List V := [.agg x.1.enc, .agg x.2.enc]
theorem aTwoB_inj (a b : Booking × Booking) (h : aTwoB a = aTwoB b) : a = b := by
  obtain ⟨a_a, a_b⟩ := a
  obtain ⟨b_a, b_b⟩ := b
  simp only [aTwoB, List.cons.injEq, V.str.injEq, V.int.injEq, V.bool.injEq, V.agg.injEq, V.list.injEq, and_true, true_and] at h
  obtain ⟨h0, h1⟩ := h
  replace h0 := Booking.inj _ _ h0
  subst h0
  replace h1 := Booking.inj _ _ h1
  subst h1
  rfl
/-- Of two equal bookings. -/
def fSameB (x : Booking × Booking) : Prop × V := (x.1.ok ∧ x.1 = x.2, .bool true)
set_option maxHeartbeats 2000000 in
theorem sameB_p : PureC Tryd.prog UT 17 (gOf aTwoB fSameB) := by
  have hG := tNo_ok
  refine PureC.ofArgs aTwoB_inj Tryd.func17 body17 nm17 res17 ?_
  rintro ⟨⟨lo, ps, gr, sg, sv, lm⟩, b2⟩ hv
  refine ⟨by rw [nt17]; simp [aTwoB], fun C hN Q hQ => ?_⟩
  rw [nt17] at hN
  unfold c17
  obtain ⟨⟨hbl, ⟨hpl, hpo⟩, -, ⟨hsl, hso⟩, ⟨hvl, -⟩, -⟩, rfl⟩ : (⟨lo, ps, gr, sg, sv, lm⟩ : Booking).ok ∧ (⟨lo, ps, gr, sg, sv, lm⟩ : Booking) = b2 := hv
  dsimp only at hbl hpl hpo hsl hso hvl
  refine aw_seq (aw_region (EF := EF0) hG (by rw [hN]; exact tr17_0) ?_)
  simp only [a17_0, go_sem, ↓reduceIte, Nat.reduceEqDiff, reduceCtorEq, Nat.reduceAdd, Nat.reduceLT, Nat.reduceLeDiff, Nat.reduceBNe, Nat.reduceBEq, Int.reduceToNat, aTwoB, Booking.enc]
  refine aw_seq ?_
  refine aw_seq (aw_region (EF := EF0) hG (by rw [hN]; exact tr17_1) ?_)
  simp only [a17_1, go_sem, ↓reduceIte, Nat.reduceEqDiff, reduceCtorEq, Nat.reduceAdd, Nat.reduceLT, Nat.reduceLeDiff, Nat.reduceBNe, Nat.reduceBEq, Int.reduceToNat]
  (repeat' apply And.intro) <;> (try first | omega | (intros; (repeat' apply And.intro) <;> first | assumption | omega | (simp_all; done)))
  refine aw_condF rfl ?_
  refine aw_skip ?_
  simp only [go_sem, ↓reduceIte, Nat.reduceEqDiff, reduceCtorEq, Nat.reduceAdd, Nat.reduceLT, Nat.reduceLeDiff, Nat.reduceBNe, Nat.reduceBEq, Int.reduceToNat]
  refine aw_seq ?_
  refine aw_seq (aw_region (EF := EF0) hG (by rw [hN]; exact tr17_3) ?_)
  simp only [a17_3, go_sem, ↓reduceIte, Nat.reduceEqDiff, reduceCtorEq, Nat.reduceAdd, Nat.reduceLT, Nat.reduceLeDiff, Nat.reduceBNe, Nat.reduceBEq, Int.reduceToNat]
  refine aw_block ?_
  refine aw_loop (α := Nat) (fun i => (i ≤ ps.length)) (fun i => ⟨mkE [(2, V.ptr 2 0), (3, V.ptr 3 0), (5, .int .i64 i)], mkH [(2, Ob.box 35 [V.str lo, V.list (List.map Person.enc ps) false, V.int IntKind.i64 gr, V.list (List.map Booked.enc sg) false, V.list (List.map Service.enc sv) false, V.int IntKind.i64 lm]), (3, Ob.box 35 [V.str lo, V.list (List.map Person.enc ps) false, V.int IntKind.i64 gr, V.list (List.map Booked.enc sg) false, V.list (List.map Service.enc sv) false, V.int IntKind.i64 lm])]⟩) (fun i => ps.length - i) 0 (by simp) ?_ ?_
  · refine Le.mk _ _ ?_ ?_ rfl <;> simp only [go_sem, ↓reduceIte, Nat.reduceEqDiff, reduceCtorEq, Nat.reduceAdd, Nat.reduceLT, Nat.reduceLeDiff, Nat.reduceBNe, Nat.reduceBEq, Int.reduceToNat] <;> (repeat' apply And.intro) <;> (try first | rfl | exact wk_frzb rfl rfl rfl | exact wk_fn rfl | exact .nilo _ _ _ rfl rfl)
  · rintro i hi KL0 hKL0
    try dsimp only at *
    refine aw_seq ?_
    refine aw_seq (aw_region (EF := EF0) hG (by rw [hN]; exact tr17_4) ?_)
    simp only [a17_4, go_sem, ↓reduceIte, Nat.reduceEqDiff, reduceCtorEq, Nat.reduceAdd, Nat.reduceLT, Nat.reduceLeDiff, Nat.reduceBNe, Nat.reduceBEq, Int.reduceToNat]
    refine aw_cond (b := _) rfl (fun hc4 => ?_) (fun hc4 => ?_)
    · simp only [decide_eq_true_eq, decide_eq_false_iff_not, Bool.and_eq_true, Bool.or_eq_true, Bool.not_eq_true', Bool.not_eq_false', Bool.and_eq_false_iff, Bool.or_eq_false_iff, Int.ofNat_lt, Int.ofNat_le, Nat.not_lt, Nat.not_le, Int.not_lt, Int.not_le] at hc4
      refine aw_skip ?_
      simp only [go_sem, ↓reduceIte, Nat.reduceEqDiff, reduceCtorEq, Nat.reduceAdd, Nat.reduceLT, Nat.reduceLeDiff, Nat.reduceBNe, Nat.reduceBEq, Int.reduceToNat]
      refine aw_seq ?_
      refine aw_block ?_
      refine aw_seq (aw_regionD (EF := EF0) hG mixed (by rw [hN]; exact tr17_6) ok17_6 ?_)
      simp only [a17_6, d17_6, go_sem, ↓reduceIte, Nat.reduceEqDiff, reduceCtorEq, Nat.reduceAdd, Nat.reduceLT, Nat.reduceLeDiff, Nat.reduceBNe, Nat.reduceBEq, Int.reduceToNat, getD_mapd _ _ _ _ hc4, hc4, Person.enc]
      (repeat' apply And.intro) <;> (try first | omega | (intros; (repeat' apply And.intro) <;> first | assumption | omega | (simp_all; done)))
      refine aw_condF rfl ?_
      refine aw_skip ?_
      simp only [go_sem, ↓reduceIte, Nat.reduceEqDiff, reduceCtorEq, Nat.reduceAdd, Nat.reduceLT, Nat.reduceLeDiff, Nat.reduceBNe, Nat.reduceBEq, Int.reduceToNat]
      refine aw_region (EF := EF0) hG (by rw [hN]; exact tr17_5) ?_
      simp only [a17_5, go_sem, ↓reduceIte, Nat.reduceEqDiff, reduceCtorEq, Nat.reduceAdd, Nat.reduceLT, Nat.reduceLeDiff, Nat.reduceBNe, Nat.reduceBEq, Int.reduceToNat, inI]
      (repeat' apply And.intro) <;> (try first | omega | (intros; (repeat' apply And.intro) <;> first | assumption | omega | (simp_all; done)))
      refine hKL0 (i + 1) _ ?_ ?_ ?_
      · (try dsimp only); first | (refine ⟨?_, ?_⟩ <;> first | omega | assumption) | omega | trivial
      · (try dsimp only); omega
      · refine Le.mk _ _ ?_ ?_ rfl <;> simp only [go_sem, ↓reduceIte, Nat.reduceEqDiff, reduceCtorEq, Nat.reduceAdd, Nat.reduceLT, Nat.reduceLeDiff, Nat.reduceBNe, Nat.reduceBEq, Int.reduceToNat] <;> (repeat' apply And.intro) <;> (try first | rfl | exact wk_frzb rfl rfl rfl | exact wk_fn rfl | exact .nilo _ _ _ rfl rfl)
    · simp only [decide_eq_true_eq, decide_eq_false_iff_not, Bool.and_eq_true, Bool.or_eq_true, Bool.not_eq_true', Bool.not_eq_false', Bool.and_eq_false_iff, Bool.or_eq_false_iff, Int.ofNat_lt, Int.ofNat_le, Nat.not_lt, Nat.not_le, Int.not_lt, Int.not_le] at hc4
      refine aw_exit ?_
      simp only [go_sem, ↓reduceIte, Nat.reduceEqDiff, reduceCtorEq, Nat.reduceAdd, Nat.reduceLT, Nat.reduceLeDiff, Nat.reduceBNe, Nat.reduceBEq, Int.reduceToNat]
      refine aw_seq ?_
      refine aw_seq (aw_region (EF := EF0) hG (by rw [hN]; exact tr17_8) ?_)
      simp only [a17_8, go_sem, ↓reduceIte, Nat.reduceEqDiff, reduceCtorEq, Nat.reduceAdd, Nat.reduceLT, Nat.reduceLeDiff, Nat.reduceBNe, Nat.reduceBEq, Int.reduceToNat]
      refine aw_block ?_
      refine aw_loop (α := Nat) (fun j => (j ≤ sg.length)) (fun j => ⟨mkE [(2, V.ptr 2 0), (3, V.ptr 3 0), (6, .int .i64 j)], mkH [(2, Ob.box 35 [V.str lo, V.list (List.map Person.enc ps) false, V.int IntKind.i64 gr, V.list (List.map Booked.enc sg) false, V.list (List.map Service.enc sv) false, V.int IntKind.i64 lm]), (3, Ob.box 35 [V.str lo, V.list (List.map Person.enc ps) false, V.int IntKind.i64 gr, V.list (List.map Booked.enc sg) false, V.list (List.map Service.enc sv) false, V.int IntKind.i64 lm])]⟩) (fun j => sg.length - j) 0 (by simp) ?_ ?_
      · refine Le.mk _ _ ?_ ?_ rfl <;> simp only [go_sem, ↓reduceIte, Nat.reduceEqDiff, reduceCtorEq, Nat.reduceAdd, Nat.reduceLT, Nat.reduceLeDiff, Nat.reduceBNe, Nat.reduceBEq, Int.reduceToNat] <;> (repeat' apply And.intro) <;> (try first | rfl | exact wk_frzb rfl rfl rfl | exact wk_fn rfl | exact .nilo _ _ _ rfl rfl)
      · rintro j hj KL2 hKL2
        try dsimp only at *
        refine aw_seq ?_
        refine aw_seq (aw_region (EF := EF0) hG (by rw [hN]; exact tr17_9) ?_)
        simp only [a17_9, go_sem, ↓reduceIte, Nat.reduceEqDiff, reduceCtorEq, Nat.reduceAdd, Nat.reduceLT, Nat.reduceLeDiff, Nat.reduceBNe, Nat.reduceBEq, Int.reduceToNat]
        refine aw_cond (b := _) rfl (fun hc9 => ?_) (fun hc9 => ?_)
        · simp only [decide_eq_true_eq, decide_eq_false_iff_not, Bool.and_eq_true, Bool.or_eq_true, Bool.not_eq_true', Bool.not_eq_false', Bool.and_eq_false_iff, Bool.or_eq_false_iff, Int.ofNat_lt, Int.ofNat_le, Nat.not_lt, Nat.not_le, Int.not_lt, Int.not_le] at hc9
          refine aw_skip ?_
          simp only [go_sem, ↓reduceIte, Nat.reduceEqDiff, reduceCtorEq, Nat.reduceAdd, Nat.reduceLT, Nat.reduceLeDiff, Nat.reduceBNe, Nat.reduceBEq, Int.reduceToNat]
          refine aw_seq ?_
          refine aw_block ?_
          refine aw_seq (aw_regionD (EF := EF0) hG mixed (by rw [hN]; exact tr17_11) ok17_11 ?_)
          simp only [a17_11, d17_11, go_sem, ↓reduceIte, Nat.reduceEqDiff, reduceCtorEq, Nat.reduceAdd, Nat.reduceLT, Nat.reduceLeDiff, Nat.reduceBNe, Nat.reduceBEq, Int.reduceToNat, getD_mapd _ _ _ _ hc9, hc9, Booked.enc]
          (repeat' apply And.intro) <;> (try first | omega | (intros; (repeat' apply And.intro) <;> first | assumption | omega | (simp_all; done)))
          refine aw_condF rfl ?_
          refine aw_skip ?_
          simp only [go_sem, ↓reduceIte, Nat.reduceEqDiff, reduceCtorEq, Nat.reduceAdd, Nat.reduceLT, Nat.reduceLeDiff, Nat.reduceBNe, Nat.reduceBEq, Int.reduceToNat]
          refine aw_region (EF := EF0) hG (by rw [hN]; exact tr17_10) ?_
          simp only [a17_10, go_sem, ↓reduceIte, Nat.reduceEqDiff, reduceCtorEq, Nat.reduceAdd, Nat.reduceLT, Nat.reduceLeDiff, Nat.reduceBNe, Nat.reduceBEq, Int.reduceToNat, inI]
          (repeat' apply And.intro) <;> (try first | omega | (intros; (repeat' apply And.intro) <;> first | assumption | omega | (simp_all; done)))
          refine hKL2 (j + 1) _ ?_ ?_ ?_
          · (try dsimp only); first | (refine ⟨?_, ?_⟩ <;> first | omega | assumption) | omega | trivial
          · (try dsimp only); omega
          · refine Le.mk _ _ ?_ ?_ rfl <;> simp only [go_sem, ↓reduceIte, Nat.reduceEqDiff, reduceCtorEq, Nat.reduceAdd, Nat.reduceLT, Nat.reduceLeDiff, Nat.reduceBNe, Nat.reduceBEq, Int.reduceToNat] <;> (repeat' apply And.intro) <;> (try first | rfl | exact wk_frzb rfl rfl rfl | exact wk_fn rfl | exact .nilo _ _ _ rfl rfl)
        · simp only [decide_eq_true_eq, decide_eq_false_iff_not, Bool.and_eq_true, Bool.or_eq_true, Bool.not_eq_true', Bool.not_eq_false', Bool.and_eq_false_iff, Bool.or_eq_false_iff, Int.ofNat_lt, Int.ofNat_le, Nat.not_lt, Nat.not_le, Int.not_lt, Int.not_le] at hc9
          refine aw_exit ?_
          simp only [go_sem, ↓reduceIte, Nat.reduceEqDiff, reduceCtorEq, Nat.reduceAdd, Nat.reduceLT, Nat.reduceLeDiff, Nat.reduceBNe, Nat.reduceBEq, Int.reduceToNat]
          refine aw_seq ?_
          refine aw_seq (aw_region (EF := EF0) hG (by rw [hN]; exact tr17_13) ?_)
          simp only [a17_13, go_sem, ↓reduceIte, Nat.reduceEqDiff, reduceCtorEq, Nat.reduceAdd, Nat.reduceLT, Nat.reduceLeDiff, Nat.reduceBNe, Nat.reduceBEq, Int.reduceToNat]
          refine aw_block ?_
          refine aw_loop (α := Nat) (fun k => (k ≤ sv.length)) (fun k => ⟨mkE [(2, V.ptr 2 0), (3, V.ptr 3 0), (7, .int .i64 k)], mkH [(2, Ob.box 35 [V.str lo, V.list (List.map Person.enc ps) false, V.int IntKind.i64 gr, V.list (List.map Booked.enc sg) false, V.list (List.map Service.enc sv) false, V.int IntKind.i64 lm]), (3, Ob.box 35 [V.str lo, V.list (List.map Person.enc ps) false, V.int IntKind.i64 gr, V.list (List.map Booked.enc sg) false, V.list (List.map Service.enc sv) false, V.int IntKind.i64 lm])]⟩) (fun k => sv.length - k) 0 (by simp) ?_ ?_
          · refine Le.mk _ _ ?_ ?_ rfl <;> simp only [go_sem, ↓reduceIte, Nat.reduceEqDiff, reduceCtorEq, Nat.reduceAdd, Nat.reduceLT, Nat.reduceLeDiff, Nat.reduceBNe, Nat.reduceBEq, Int.reduceToNat] <;> (repeat' apply And.intro) <;> (try first | rfl | exact wk_frzb rfl rfl rfl | exact wk_fn rfl | exact .nilo _ _ _ rfl rfl)
          · rintro k hk KL4 hKL4
            try dsimp only at *
            refine aw_seq ?_
            refine aw_seq (aw_region (EF := EF0) hG (by rw [hN]; exact tr17_14) ?_)
            simp only [a17_14, go_sem, ↓reduceIte, Nat.reduceEqDiff, reduceCtorEq, Nat.reduceAdd, Nat.reduceLT, Nat.reduceLeDiff, Nat.reduceBNe, Nat.reduceBEq, Int.reduceToNat]
            refine aw_cond (b := _) rfl (fun hc14 => ?_) (fun hc14 => ?_)
            · simp only [decide_eq_true_eq, decide_eq_false_iff_not, Bool.and_eq_true, Bool.or_eq_true, Bool.not_eq_true', Bool.not_eq_false', Bool.and_eq_false_iff, Bool.or_eq_false_iff, Int.ofNat_lt, Int.ofNat_le, Nat.not_lt, Nat.not_le, Int.not_lt, Int.not_le] at hc14
              refine aw_skip ?_
              simp only [go_sem, ↓reduceIte, Nat.reduceEqDiff, reduceCtorEq, Nat.reduceAdd, Nat.reduceLT, Nat.reduceLeDiff, Nat.reduceBNe, Nat.reduceBEq, Int.reduceToNat]
              refine aw_seq ?_
              refine aw_block ?_
              refine aw_seq (aw_regionD (EF := EF0) hG mixed (by rw [hN]; exact tr17_16) ok17_16 ?_)
              simp only [a17_16, d17_16, go_sem, ↓reduceIte, Nat.reduceEqDiff, reduceCtorEq, Nat.reduceAdd, Nat.reduceLT, Nat.reduceLeDiff, Nat.reduceBNe, Nat.reduceBEq, Int.reduceToNat, getD_mapd _ _ _ _ hc14, hc14, Service.enc]
              (repeat' apply And.intro) <;> (try first | omega | (intros; (repeat' apply And.intro) <;> first | assumption | omega | (simp_all; done)))
              refine aw_condF rfl ?_
              refine aw_skip ?_
              simp only [go_sem, ↓reduceIte, Nat.reduceEqDiff, reduceCtorEq, Nat.reduceAdd, Nat.reduceLT, Nat.reduceLeDiff, Nat.reduceBNe, Nat.reduceBEq, Int.reduceToNat]
              refine aw_region (EF := EF0) hG (by rw [hN]; exact tr17_15) ?_
              simp only [a17_15, go_sem, ↓reduceIte, Nat.reduceEqDiff, reduceCtorEq, Nat.reduceAdd, Nat.reduceLT, Nat.reduceLeDiff, Nat.reduceBNe, Nat.reduceBEq, Int.reduceToNat, inI]
              (repeat' apply And.intro) <;> (try first | omega | (intros; (repeat' apply And.intro) <;> first | assumption | omega | (simp_all; done)))
              refine hKL4 (k + 1) _ ?_ ?_ ?_
              · (try dsimp only); first | (refine ⟨?_, ?_⟩ <;> first | omega | assumption) | omega | trivial
              · (try dsimp only); omega
              · refine Le.mk _ _ ?_ ?_ rfl <;> simp only [go_sem, ↓reduceIte, Nat.reduceEqDiff, reduceCtorEq, Nat.reduceAdd, Nat.reduceLT, Nat.reduceLeDiff, Nat.reduceBNe, Nat.reduceBEq, Int.reduceToNat] <;> (repeat' apply And.intro) <;> (try first | rfl | exact wk_frzb rfl rfl rfl | exact wk_fn rfl | exact .nilo _ _ _ rfl rfl)
            · simp only [decide_eq_true_eq, decide_eq_false_iff_not, Bool.and_eq_true, Bool.or_eq_true, Bool.not_eq_true', Bool.not_eq_false', Bool.and_eq_false_iff, Bool.or_eq_false_iff, Int.ofNat_lt, Int.ofNat_le, Nat.not_lt, Nat.not_le, Int.not_lt, Int.not_le] at hc14
              refine aw_exit ?_
              simp only [go_sem, ↓reduceIte, Nat.reduceEqDiff, reduceCtorEq, Nat.reduceAdd, Nat.reduceLT, Nat.reduceLeDiff, Nat.reduceBNe, Nat.reduceBEq, Int.reduceToNat]
              refine aw_seq (aw_region (EF := EF0) hG (by rw [hN]; exact tr17_18) ?_)
              simp only [a17_18, go_sem, ↓reduceIte, Nat.reduceEqDiff, reduceCtorEq, Nat.reduceAdd, Nat.reduceLT, Nat.reduceLeDiff, Nat.reduceBNe, Nat.reduceBEq, Int.reduceToNat]
              refine aw_ret ?_
              show Q _ _
              refine hQ _ _ (.inl rfl) ?_ ?_ ?_ <;> simp only [outφ, outV, AR.res, go_sem, ↓reduceIte, Nat.reduceEqDiff, reduceCtorEq, Nat.reduceAdd, Nat.reduceLT, Nat.reduceLeDiff, Nat.reduceBNe, Nat.reduceBEq, Int.reduceToNat, fSameB]
def bigB (b : Booking) : Bool := decide (12 < (b.persons.length : Int)) || decide (8 < (b.segs.length : Int)) || decide (30 < (b.services.length : Int)) || decide (100 < (b.locator.length : Int))
def aBk (x : Booking) : List V := [.agg x.enc]
theorem aBk_inj (a b : Booking) (h : aBk a = aBk b) : a = b := by
  simp only [aBk, List.cons.injEq, V.str.injEq, V.int.injEq, V.bool.injEq, V.agg.injEq, V.list.injEq, and_true, true_and] at h
  have h0 := h
  replace h0 := Booking.inj _ _ h0
  subst h0
  rfl
def fBig (b : Booking) : Prop × V := (b.ok, .bool (bigB b))
theorem fBig_eq (lo ps gr sg sv lm) : gOf aBk fBig [.agg [.str lo, .list (List.map Person.enc ps) false, .int .i64 gr, .list (List.map Booked.enc sg) false, .list (List.map Service.enc sv) false, .int .i64 lm]] = ((⟨lo, ps, gr, sg, sv, lm⟩ : Booking).ok, .bool (bigB ⟨lo, ps, gr, sg, sv, lm⟩)) := gOf_eq aBk_inj (⟨lo, ps, gr, sg, sv, lm⟩ : Booking)
theorem big_p : PureC Tryd.prog UT 14 (gOf aBk fBig) := by
  have hG := tNo_ok
  refine PureC.ofArgs aBk_inj Tryd.func14 body14 nm14 res14 ?_
  rintro ⟨lo, ps, gr, sg, sv, lm⟩ hv
  refine ⟨by rw [nt14]; simp [aBk], fun C hN Q hQ => ?_⟩
  rw [nt14] at hN
  unfold c14
  obtain ⟨hbl, ⟨hpl, hpo⟩, -, ⟨hsl, hso⟩, ⟨hvl, -⟩, -⟩ : (⟨lo, ps, gr, sg, sv, lm⟩ : Booking).ok := hv
  dsimp only at hbl hpl hpo hsl hso hvl
  refine aw_seq (aw_region (EF := EF0) hG (by rw [hN]; exact tr14_0) ?_)
  simp only [a14_0, go_sem, ↓reduceIte, Nat.reduceEqDiff, reduceCtorEq, Nat.reduceAdd, Nat.reduceLT, Nat.reduceLeDiff, Nat.reduceBNe, Nat.reduceBEq, Int.reduceToNat, aBk, Booking.enc]
  refine aw_seq (aw_region (EF := EF0) hG (by rw [hN]; exact tr14_1) ?_)
  simp only [a14_1, go_sem, ↓reduceIte, Nat.reduceEqDiff, reduceCtorEq, Nat.reduceAdd, Nat.reduceLT, Nat.reduceLeDiff, Nat.reduceBNe, Nat.reduceBEq, Int.reduceToNat]
  (repeat' apply And.intro) <;> (try first | omega | (intros; (repeat' apply And.intro) <;> first | assumption | omega | (simp_all; done)))
  refine aw_ret ?_
  show Q _ _
  refine hQ _ _ (.inl rfl) ?_ ?_ ?_ <;> simp only [outφ, outV, AR.res, go_sem, ↓reduceIte, Nat.reduceEqDiff, reduceCtorEq, Nat.reduceAdd, Nat.reduceLT, Nat.reduceLeDiff, Nat.reduceBNe, Nat.reduceBEq, Int.reduceToNat, fBig, bigB]
/-! The chapter's examples. -/
def oW : List UInt8 := [87, 67, 72, 82]
def oB : List UInt8 := [66, 83, 67, 84]
def offs : List Offer := [⟨oW, 1, []⟩, ⟨oB, 2, [[73, 78, 70]]⟩]
def psn : Person := ⟨[83, 77, 73, 84, 72], [74, 79, 72, 78], [65, 68, 84]⟩
def bkd : Booked := ⟨Want.zero, 1, 0⟩
def bk0 : Booking := ⟨[], [psn], 0, [bkd], [], 0⟩
def svW : Service := ⟨oW, 0, 0⟩
def bk1 : Booking := ⟨[], [psn], 0, [bkd], [svW], 0⟩
def offV : V := .list [[.str [87, 67, 72, 82], .int .i64 1, .list [] false], [.str [66, 83, 67, 84], .int .i64 2, .list [[.str [73, 78, 70]]] false]] false
def psnV : V := .list [[.str [83, 77, 73, 84, 72], .str [74, 79, 72, 78], .str [65, 68, 84]]] false
def sgV : V := .list [[.str [], .int .i64 0, .int .i64 0, .str [], .str [], .int .i64 0, .int .i64 0, .str [], .int .i64 1, .int .i64 0]] false
def bk0V : List V := [.str [], psnV, .int .i64 0, sgV, .list [] false, .int .i64 0]
def bk1V : List V := [.str [], psnV, .int .i64 0, sgV, .list [[.str [87, 67, 72, 82], .int .i64 0, .int .i64 0]] false, .int .i64 0]
theorem bk0_ok : bk0.ok := by simp [bk0, psn, bkd, Booking.ok, Person.ok, Booked.ok, Want.ok, Want.zero, Seg.ok, Seg.zero, inI]
theorem bk1_ok : bk1.ok := by simp [bk1, svW, oW, psn, bkd, Booking.ok, Person.ok, Booked.ok, Want.ok, Want.zero, Seg.ok, Seg.zero, Service.ok, inI]
theorem offs_ok : Lens offs := by simp [Lens, offs, oW, oB, Offer.ok, inI]
theorem add_at : gOf aAll fAdd [offV, .agg bk0V, .agg [.str [87, 67, 72, 82], .int .i64 0, .int .i64 0], .int .i64 0] = (True, .tup [.agg bk1V, .int .i64 0]) := gOf_at aAll_inj (offs, bk0, svW, 0) rfl ⟨⟨offs_ok, bk0_ok⟩, by decide⟩ rfl
theorem al_at1 : gOf aAll fAll [offV, .agg bk0V, .agg [.str [87, 67, 72, 82], .int .i64 0, .int .i64 0], .int .i64 1] = (True, .int .i64 9) := gOf_at aAll_inj (offs, bk0, svW, 1) rfl ⟨offs_ok, bk0_ok⟩ rfl
theorem al_at2 : gOf aAll fAll [offV, .agg bk0V, .agg [.str [66, 83, 67, 84], .int .i64 0, .int .i64 0], .int .i64 0] = (True, .int .i64 25) := gOf_at aAll_inj (offs, bk0, ⟨oB, 0, 0⟩, 0) rfl ⟨offs_ok, bk0_ok⟩ rfl
theorem al_at3 : gOf aAll fAll [offV, .agg bk0V, .agg [.str [86, 71, 77, 76], .int .i64 0, .int .i64 0], .int .i64 0] = (True, .int .i64 7) := gOf_at aAll_inj (offs, bk0, ⟨[86, 71, 77, 76], 0, 0⟩, 0) rfl ⟨offs_ok, bk0_ok⟩ rfl
theorem us_at : gOf aUsed fUsed [.list [bk1V] false, .agg [.str [], .int .i64 0, .int .i64 0, .str [], .str [], .int .i64 0, .int .i64 0], .str [87, 67, 72, 82]] = (True, .int .i64 1) := gOf_at aUsed_inj ([bk1], Seg.zero, oW) rfl ⟨by decide, by simp only [List.mem_singleton, forall_eq]; exact ⟨bk1_ok, by decide⟩⟩ rfl
theorem ck_at : gOf aOff fCheck [offV] = (True, .list [] false) := gOf_at aOff_inj offs rfl ⟨by decide, fun o ho => ⟨offs_ok.2 o ho, by revert o; decide⟩⟩ rfl
noncomputable def tAw : Tab
  | 15 => (gOf aAll fAdd)
  | 18 => (gOf aAll fAll)
  | 20 => (gOf aUsed fUsed)
  | 11 => (gOf aOff fCheck)
  | _ => gNo
theorem tAw_ok : ∀ f, PureC Tryd.prog UT f (tAw f) := fun f => by
  unfold tAw
  split
  · exact add_p
  · exact allowed_p
  · exact used_p
  · exact check_p
  · exact PureC.no
set_option maxRecDepth 20000 in
set_option maxHeartbeats 4000000 in
theorem awake_p : PureC Tryd.prog UT 9 (gOf aUnit fTrue) := by
  have hG := tAw_ok
  have e1 := add_at
  have e2 := al_at1
  have e3 := al_at2
  have e4 := al_at3
  have e5 := us_at
  have e6 := ck_at
  simp only [offV, bk0V, bk1V, psnV, sgV] at e1 e2 e3 e4 e5 e6
  refine PureC.ofArgs aUnit_inj Tryd.func9 body9 nm9 res9 ?_
  rintro ⟨⟩ hv
  refine ⟨by rw [nt9]; simp [aUnit], fun C hN Q hQ => ?_⟩
  rw [nt9] at hN
  unfold c9
  refine aw_seq (aw_region (EF := EF0) hG (by rw [hN]; exact tr9_0) ?_)
  simp only [a9_0, go_sem, ↓reduceIte, Nat.reduceEqDiff, reduceCtorEq, Nat.reduceAdd, Nat.reduceLT, Nat.reduceLeDiff, Nat.reduceBNe, Nat.reduceBEq, Int.reduceToNat, aUnit]
  refine aw_seq (aw_region (EF := EF0) hG (by rw [hN]; exact tr9_1) ?_)
  simp only [a9_1, go_sem, ↓reduceIte, Nat.reduceEqDiff, reduceCtorEq, Nat.reduceAdd, Nat.reduceLT, Nat.reduceLeDiff, Nat.reduceBNe, Nat.reduceBEq, Int.reduceToNat]
  refine aw_seq (aw_region (EF := EF0) hG (by rw [hN]; exact tr9_2) ?_)
  simp only [a9_2, go_sem, ↓reduceIte, Nat.reduceEqDiff, reduceCtorEq, Nat.reduceAdd, Nat.reduceLT, Nat.reduceLeDiff, Nat.reduceBNe, Nat.reduceBEq, Int.reduceToNat]
  refine AW.le (s' := ⟨mkE [(0, .bool false), (1, offV), (2, .ptr 2 0)], mkH ([(2, .box 35 bk0V)])⟩) (Le.mk _ _ (by (simp only [go_sem, ↓reduceIte, Nat.reduceEqDiff, reduceCtorEq, Nat.reduceAdd, Nat.reduceLT, Nat.reduceLeDiff, Nat.reduceBNe, Nat.reduceBEq, Int.reduceToNat, offV, bk0V, psnV, sgV]) <;> (repeat' apply And.intro) <;> (try first | exact wk_frzb rfl rfl rfl | rfl | exact wk_fn rfl | exact .nill _ | exact .nilo _ _ _ rfl rfl | exact wk_frz rfl (by simp only [ints_len, nats_len]) rfl (ints_pur _))) (by (simp only [go_sem, ↓reduceIte, Nat.reduceEqDiff, reduceCtorEq, Nat.reduceAdd, Nat.reduceLT, Nat.reduceLeDiff, Nat.reduceBNe, Nat.reduceBEq, Int.reduceToNat, offV, bk0V, psnV, sgV]) <;> (repeat' apply And.intro) <;> (try first | exact wk_frzb rfl rfl rfl | rfl | exact wk_fn rfl | exact .nill _ | exact .nilo _ _ _ rfl rfl | exact wk_frz rfl (by simp only [ints_len, nats_len]) rfl (ints_pur _))) rfl) ?_
  refine aw_seq (aw_region (EF := EF0) hG (by rw [hN]; exact tr9_3) ?_)
  simp only [a9_3, go_sem, ↓reduceIte, Nat.reduceEqDiff, reduceCtorEq, Nat.reduceAdd, Nat.reduceLT, Nat.reduceLeDiff, Nat.reduceBNe, Nat.reduceBEq, Int.reduceToNat, tAw, e1, offV, bk0V, psnV, sgV]
  (repeat' apply And.intro) <;> (try first | omega | (intros; (repeat' apply And.intro) <;> first | assumption | omega | (simp_all; done)))
  refine aw_seq (aw_region (EF := EF0) hG (by rw [hN]; exact tr9_4) ?_)
  simp only [a9_4, go_sem, ↓reduceIte, Nat.reduceEqDiff, reduceCtorEq, Nat.reduceAdd, Nat.reduceLT, Nat.reduceLeDiff, Nat.reduceBNe, Nat.reduceBEq, Int.reduceToNat, tAw, e1, e2, e3, e4, e5, e6]
  (repeat' apply And.intro) <;> (try first | omega | (intros; (repeat' apply And.intro) <;> first | assumption | omega | (simp_all; done)))
  refine aw_ret ?_
  show Q _ _
  refine hQ _ _ (.inl rfl) ?_ ?_ ?_ <;> simp only [outφ, outV, AR.res, go_sem, ↓reduceIte, Nat.reduceEqDiff, reduceCtorEq, Nat.reduceAdd, Nat.reduceLT, Nat.reduceLeDiff, Nat.reduceBNe, Nat.reduceBEq, Int.reduceToNat, fTrue]
end Go.Proofs.YtnlgkeiilenojaaDoor
