/- The reference's Percent, for all amounts. -/
import Derived.Test.YtailckanpheciaaDoorTx7
namespace Go.Proofs.YtailckanpheciaaDoor
open Go Go.RowKit
set_option linter.unusedSimpArgs false
set_option linter.unusedVariables false
set_option linter.deprecated false
theorem fl_neg {a b : Int} (hb : 0 < b) (h : a.tmod b < 0) : a.tdiv b - 1 = a / b ∧ a.tmod b + b = a % b := by
  have h1 := Int.mul_tdiv_add_tmod a b
  have h2 := Int.lt_tmod_of_pos a hb
  have := (Int.ediv_emod_unique (a := a) (b := b) (q := a.tdiv b - 1) (r := a.tmod b + b) hb).2 ⟨by rw [← h1]; grind, by omega, by omega⟩
  exact ⟨this.1.symm, this.2.symm⟩
theorem fl_pos {a b : Int} (hb : 0 < b) (h : ¬ a.tmod b < 0) : a.tdiv b = a / b ∧ a.tmod b = a % b := by
  have h1 := Int.mul_tdiv_add_tmod a b
  have h2 := Int.tmod_lt_of_pos a hb
  have := (Int.ediv_emod_unique (a := a) (b := b) (q := a.tdiv b) (r := a.tmod b) hb).2 ⟨by rw [← h1]; grind, by omega, by omega⟩
  exact ⟨this.1.symm, this.2.symm⟩
def fFl (x : Int × Int) : Prop × V := (-4611686018427387904 ≤ x.1 ∧ x.1 ≤ 4611686018427387904 ∧ 0 < x.2 ∧ x.2 ≤ 1099511627776, pairI (x.1 / x.2, x.1 % x.2))
theorem fFl_eq (a b : Int) : gOf aII fFl [.int .i64 a, .int .i64 b] = (-4611686018427387904 ≤ a ∧ a ≤ 4611686018427387904 ∧ 0 < b ∧ b ≤ 1099511627776, pairI (a / b, a % b)) := gOf_eq aII_inj (a, b)
theorem tdiv_bd {a b : Int} (hb : 0 < b) (h1 : -4611686018427387904 ≤ a) (h2 : a ≤ 4611686018427387904) : -4611686018427387904 ≤ a.tdiv b ∧ a.tdiv b ≤ 4611686018427387904 := by
  have h := Int.natAbs_tdiv a b
  have h3 : a.natAbs / b.natAbs ≤ a.natAbs := Nat.div_le_self _ _
  have h4 : (a.tdiv b).natAbs ≤ a.natAbs := by rw [h]; exact h3
  omega
theorem rfloor_p : PureC Tryd.prog UT 62 (gOf aII fFl) := by
  have hG := tNo_ok
  refine PureC.ofArgs aII_inj Tryd.func62 body62 nm62 res62 ?_
  rintro ⟨a, b⟩ hv
  refine ⟨by rw [nt62]; simp [aII], fun C hN Q hQ => ?_⟩
  rw [nt62] at hN
  unfold c62
  obtain ⟨h1, h2, h3, h4⟩ : -4611686018427387904 ≤ a ∧ a ≤ 4611686018427387904 ∧ 0 < b ∧ b ≤ 1099511627776 := hv
  have hq := tdiv_bd h3 h1 h2
  have hb0 : b ≠ 0 := by omega
  have hm1 := Int.lt_tmod_of_pos a h3
  have hm2 := Int.tmod_lt_of_pos a h3
  refine aw_seq (aw_region (EF := EF0) hG (by rw [hN]; exact tr62_0) ?_)
  simp only [a62_0, go_sem, ↓reduceIte, Nat.reduceEqDiff, reduceCtorEq, Nat.reduceAdd, Nat.reduceLT, Nat.reduceLeDiff, Nat.reduceBNe, Nat.reduceBEq, Int.reduceToNat, aII]
  refine aw_seq (aw_regionD (EF := EF0) hG mixed (by rw [hN]; exact tr62_1) ok62_1 ?_)
  simp only [a62_1, d62_1, go_sem, ↓reduceIte, Nat.reduceEqDiff, reduceCtorEq, Nat.reduceAdd, Nat.reduceLT, Nat.reduceLeDiff, Nat.reduceBNe, Nat.reduceBEq, Int.reduceToNat, hb0]
  (repeat' apply And.intro) <;> (try first | omega | (intros; (repeat' apply And.intro) <;> first | assumption | omega | (simp_all; done)))
  refine aw_seq ?_
  refine aw_seq (aw_region (EF := EF0) hG (by rw [hN]; exact tr62_2) ?_)
  simp only [a62_2, go_sem, ↓reduceIte, Nat.reduceEqDiff, reduceCtorEq, Nat.reduceAdd, Nat.reduceLT, Nat.reduceLeDiff, Nat.reduceBNe, Nat.reduceBEq, Int.reduceToNat]
  refine aw_cond (b := _) rfl (fun hb2 => ?_) (fun hb2 => ?_)
  · skip
    have hfl := fl_neg h3 (of_decide_eq_true hb2)
    refine aw_seq (aw_region (EF := EF0) hG (by rw [hN]; exact tr62_3) ?_)
    simp only [a62_3, go_sem, ↓reduceIte, Nat.reduceEqDiff, reduceCtorEq, Nat.reduceAdd, Nat.reduceLT, Nat.reduceLeDiff, Nat.reduceBNe, Nat.reduceBEq, Int.reduceToNat, inI]
    (repeat' apply And.intro) <;> (try first | omega | (intros; (repeat' apply And.intro) <;> first | assumption | omega | (simp_all; done)))
    refine aw_ret ?_
    show Q _ _
    refine hQ _ _ (.inl rfl) ?_ ?_ ?_ <;> simp only [outφ, outV, AR.res, go_sem, ↓reduceIte, Nat.reduceEqDiff, reduceCtorEq, Nat.reduceAdd, Nat.reduceLT, Nat.reduceLeDiff, Nat.reduceBNe, Nat.reduceBEq, Int.reduceToNat, fFl, pairI]
    rw [hfl.1, hfl.2]
  · skip
    have hfl := fl_pos h3 (of_decide_eq_false hb2)
    refine aw_skip ?_
    try simp only [go_sem, ↓reduceIte, Nat.reduceEqDiff, reduceCtorEq, Nat.reduceAdd, Nat.reduceLT, Nat.reduceLeDiff, Nat.reduceBNe, Nat.reduceBEq, Int.reduceToNat]
    refine aw_seq (aw_region (EF := EF0) hG (by rw [hN]; exact tr62_4) ?_)
    simp only [a62_4, go_sem, ↓reduceIte, Nat.reduceEqDiff, reduceCtorEq, Nat.reduceAdd, Nat.reduceLT, Nat.reduceLeDiff, Nat.reduceBNe, Nat.reduceBEq, Int.reduceToNat]
    refine aw_ret ?_
    show Q _ _
    refine hQ _ _ (.inl rfl) ?_ ?_ ?_ <;> simp only [outφ, outV, AR.res, go_sem, ↓reduceIte, Nat.reduceEqDiff, reduceCtorEq, Nat.reduceAdd, Nat.reduceLT, Nat.reduceLeDiff, Nat.reduceBNe, Nat.reduceBEq, Int.reduceToNat, fFl, pairI]
    rw [hfl.1, hfl.2]
def fAbs (n : Int) : Prop × V := (-4611686018427387904 ≤ n ∧ n ≤ 4611686018427387904, .int .i64 (n.natAbs : Int))
theorem fAbs_eq (n : Int) : gOf aInt fAbs [.int .i64 n] = (-4611686018427387904 ≤ n ∧ n ≤ 4611686018427387904, .int .i64 (n.natAbs : Int)) := gOf_eq aInt_inj n
theorem rsize_p : PureC Tryd.prog UT 63 (gOf aInt fAbs) := by
  have hG := tNo_ok
  refine PureC.ofArgs aInt_inj Tryd.func63 body63 nm63 res63 ?_
  rintro n hv
  refine ⟨by rw [nt63]; simp [aInt], fun C hN Q hQ => ?_⟩
  rw [nt63] at hN
  unfold c63
  obtain ⟨h1, h2⟩ : -4611686018427387904 ≤ n ∧ n ≤ 4611686018427387904 := hv
  refine aw_seq (aw_region (EF := EF0) hG (by rw [hN]; exact tr63_0) ?_)
  simp only [a63_0, go_sem, ↓reduceIte, Nat.reduceEqDiff, reduceCtorEq, Nat.reduceAdd, Nat.reduceLT, Nat.reduceLeDiff, Nat.reduceBNe, Nat.reduceBEq, Int.reduceToNat, aInt]
  refine aw_seq ?_
  refine aw_seq (aw_region (EF := EF0) hG (by rw [hN]; exact tr63_1) ?_)
  simp only [a63_1, go_sem, ↓reduceIte, Nat.reduceEqDiff, reduceCtorEq, Nat.reduceAdd, Nat.reduceLT, Nat.reduceLeDiff, Nat.reduceBNe, Nat.reduceBEq, Int.reduceToNat]
  refine aw_cond (b := _) rfl (fun hb1 => ?_) (fun hb1 => ?_)
  · skip
    refine aw_seq (aw_region (EF := EF0) hG (by rw [hN]; exact tr63_2) ?_)
    simp only [a63_2, go_sem, ↓reduceIte, Nat.reduceEqDiff, reduceCtorEq, Nat.reduceAdd, Nat.reduceLT, Nat.reduceLeDiff, Nat.reduceBNe, Nat.reduceBEq, Int.reduceToNat, inI]
    (repeat' apply And.intro) <;> (try first | omega | (intros; (repeat' apply And.intro) <;> first | assumption | omega | (simp_all; done)))
    refine aw_ret ?_
    show Q _ _
    refine hQ _ _ (.inl rfl) ?_ ?_ ?_ <;> simp only [outφ, outV, AR.res, go_sem, ↓reduceIte, Nat.reduceEqDiff, reduceCtorEq, Nat.reduceAdd, Nat.reduceLT, Nat.reduceLeDiff, Nat.reduceBNe, Nat.reduceBEq, Int.reduceToNat, fAbs]
    rw [show ((n.natAbs : Int)) = -n by have := of_decide_eq_true hb1; omega]
  · skip
    refine aw_skip ?_
    try simp only [go_sem, ↓reduceIte, Nat.reduceEqDiff, reduceCtorEq, Nat.reduceAdd, Nat.reduceLT, Nat.reduceLeDiff, Nat.reduceBNe, Nat.reduceBEq, Int.reduceToNat]
    refine aw_seq (aw_region (EF := EF0) hG (by rw [hN]; exact tr63_3) ?_)
    simp only [a63_3, go_sem, ↓reduceIte, Nat.reduceEqDiff, reduceCtorEq, Nat.reduceAdd, Nat.reduceLT, Nat.reduceLeDiff, Nat.reduceBNe, Nat.reduceBEq, Int.reduceToNat]
    refine aw_ret ?_
    show Q _ _
    refine hQ _ _ (.inl rfl) ?_ ?_ ?_ <;> simp only [outφ, outV, AR.res, go_sem, ↓reduceIte, Nat.reduceEqDiff, reduceCtorEq, Nat.reduceAdd, Nat.reduceLT, Nat.reduceLeDiff, Nat.reduceBNe, Nat.reduceBEq, Int.reduceToNat, fAbs]
    rw [show ((n.natAbs : Int)) = n by have := of_decide_eq_false hb1; omega]
theorem abs_mul {A W : Int} {a w : Int} (h1 : (a.natAbs : Int) = A) (h2 : (w.natAbs : Int) = W) : ((a * w).natAbs : Int) = A * W := by
  rw [Int.natAbs_mul, Int.natCast_mul, h1, h2]
theorem as_bd {a s A : Int} (hA : (a.natAbs : Int) = A) (hs : 0 ≤ s ∧ s < 10000) : -(9999 * A) ≤ a * s ∧ a * s ≤ 9999 * A := by
  have h1 := abs_mul (a := a) (w := s) hA (show (s.natAbs : Int) = s by omega)
  have h2 : A * s ≤ A * 9999 := Int.mul_le_mul_of_nonneg_left (by omega) (by omega)
  omega
theorem per_eq (a w s : Int) : perR a (10000 * w + s) = a * w + (2 * (a * s) + 10000) / 20000 := by
  unfold perR
  rw [show a * (10000 * w + s) = 10000 * (a * w) + a * s by grind]
  omega
/-- Beyond this the result is no amount. -/
theorem per_big {a w s A W : Int} (hA : (a.natAbs : Int) = A) (hW : (w.natAbs : Int) = W) (ha : a ≠ 0) (ha1 : A ≤ 1099511627776) (hs : 0 ≤ s ∧ s < 10000) (hb : 2199023255552 / A < W) : fits (perR a (10000 * w + s)) = false := by
  have hA0 : 0 < A := by omega
  have h1 : 2199023255552 < A * W := by rw [Int.mul_comm]; exact (Int.ediv_lt_iff_lt_mul hA0).1 hb
  have h2 := abs_mul hA hW
  have h3 := as_bd hA hs
  rw [per_eq]
  refine Bool.eq_false_iff.2 fun h => ?_
  have := (fits_iff _).1 h
  omega
theorem per_small {a w A W : Int} (hA : (a.natAbs : Int) = A) (hW : (w.natAbs : Int) = W) (hb : a = 0 ∨ ¬ 2199023255552 / A < W) : -2199023255552 ≤ a * w ∧ a * w ≤ 2199023255552 := by
  by_cases ha : a = 0
  · rw [ha, Int.zero_mul]; decide
  · have hA0 : 0 < A := by omega
    have h1 : W * A ≤ 2199023255552 := (Int.le_ediv_iff_mul_le hA0).1 (by omega)
    have h2 := abs_mul hA hW
    rw [Int.mul_comm] at h1
    omega
noncomputable def trPer : Tab
  | 61 => (gOf aInt fFits)
  | 62 => (gOf aII fFl)
  | 63 => (gOf aInt fAbs)
  | _ => gNo
theorem trPer_ok : ∀ f, PureC Tryd.prog UT f (trPer f) := fun f => by
  unfold trPer
  split
  · exact ramount_p
  · exact rfloor_p
  · exact rsize_p
  · exact PureC.no
def fPerR (x : Int × Int) : Prop × V := (True, pairI (perM x.1 x.2))
theorem fPerR_eq (a h : Int) : gOf aII fPerR [.int .i64 a, .int .i64 h] = (True, pairI (perM a h)) := gOf_eq aII_inj (a, h)
theorem rpercent_p : PureC Tryd.prog UT 38 (gOf aII fPerR) := by
  have hG := trPer_ok
  refine PureC.ofArgs aII_inj Tryd.func38 body38 nm38 res38 ?_
  rintro ⟨a, h⟩ hv
  refine ⟨by rw [nt38]; simp [aII], fun C hN Q hQ => ?_⟩
  rw [nt38] at hN
  unfold c38
  refine aw_seq (aw_region (EF := EF0) hG (by rw [hN]; exact tr38_0) ?_)
  simp only [a38_0, go_sem, ↓reduceIte, Nat.reduceEqDiff, reduceCtorEq, Nat.reduceAdd, Nat.reduceLT, Nat.reduceLeDiff, Nat.reduceBNe, Nat.reduceBEq, Int.reduceToNat, aII, trPer, fFits_eq, fFl_eq, fAbs_eq, pairI]
  refine aw_seq ?_
  by_cases hfa : fits a = true
  · skip
    by_cases hfb : fits h = true
    · skip
      refine aw_seq (aw_region (EF := EF0) hG (by rw [hN]; exact tr38_1) ?_)
      simp only [a38_1, go_sem, ↓reduceIte, Nat.reduceEqDiff, reduceCtorEq, Nat.reduceAdd, Nat.reduceLT, Nat.reduceLeDiff, Nat.reduceBNe, Nat.reduceBEq, Int.reduceToNat, hfa, hfb, trPer, fFits_eq, fFl_eq, fAbs_eq, pairI]
      (repeat' apply And.intro) <;> (try first | omega | (intros; (repeat' apply And.intro) <;> first | assumption | omega | (simp_all; done)))
      refine aw_condF rfl ?_
      refine aw_skip ?_
      try simp only [go_sem, ↓reduceIte, Nat.reduceEqDiff, reduceCtorEq, Nat.reduceAdd, Nat.reduceLT, Nat.reduceLeDiff, Nat.reduceBNe, Nat.reduceBEq, Int.reduceToNat]
      have hba := (fits_iff _).1 hfa
      have hbh := (fits_iff _).1 hfb
      have hdm : 10000 * (h / 10000) + h % 10000 = h := by omega
      have hs0 : 0 ≤ h % 10000 ∧ h % 10000 < 10000 := by omega
      have hw0 : -110000000 ≤ h / 10000 ∧ h / 10000 ≤ 110000000 := by omega
      generalize hw : h / 10000 = w at hdm hw0
      generalize hs : h % 10000 = s at hdm hs0
      generalize hA : (a.natAbs : Int) = A
      generalize hW : (w.natAbs : Int) = W
      have hab := as_bd hA hs0
      have hpe := per_eq a w s
      have hA1 : A ≤ 1099511627776 := by omega
      refine aw_seq (aw_region (EF := EF0) hG (by rw [hN]; exact tr38_3) ?_)
      simp only [a38_3, go_sem, ↓reduceIte, Nat.reduceEqDiff, reduceCtorEq, Nat.reduceAdd, Nat.reduceLT, Nat.reduceLeDiff, Nat.reduceBNe, Nat.reduceBEq, Int.reduceToNat, hw, hs, trPer, fFits_eq, fFl_eq, fAbs_eq, pairI]
      (repeat' apply And.intro) <;> (try first | omega | (intros; (repeat' apply And.intro) <;> first | assumption | omega | (simp_all; done)))
      refine aw_cut (α := Unit) (fun _ => (-2199023255552 ≤ a * w ∧ a * w ≤ 2199023255552)) (fun _ => ⟨mkE [(0, V.int IntKind.i64 a), (6, V.int IntKind.i64 w), (7, V.int IntKind.i64 s)], mkH []⟩) ?_ ?_
      · intro KC4 hKC4
        have hqe : Int.tdiv 2199023255552 A = 2199023255552 / A := Int.tdiv_eq_ediv_of_nonneg (by decide)
        have hq1 : 0 ≤ 2199023255552 / A ∧ 2199023255552 / A ≤ 2199023255552 := ⟨Int.ediv_nonneg (by decide) (by omega), Int.ediv_le_self _ (by decide)⟩
        have hq4 : inI (2199023255552 / A) := by unfold inI; omega
        have hA2 : (!decide (a = 0)) = true → ¬A = 0 := by simp; omega
        refine aw_seq (aw_region (EF := EF0) hG (by rw [hN]; exact tr38_4) ?_)
        simp only [a38_4, go_sem, ↓reduceIte, Nat.reduceEqDiff, reduceCtorEq, Nat.reduceAdd, Nat.reduceLT, Nat.reduceLeDiff, Nat.reduceBNe, Nat.reduceBEq, Int.reduceToNat, hA, hW, hqe, trPer, fFits_eq, fFl_eq, fAbs_eq, pairI]
        (repeat' apply And.intro) <;> (try first | omega | (intros; (repeat' apply And.intro) <;> first | assumption | omega | (simp_all; done)) | (intro hz; exact ⟨hz, hA2 hz, hq4⟩))
        refine aw_cond (b := _) rfl (fun hb4 => ?_) (fun hb4 => ?_)
        · skip
          simp only [Bool.and_eq_true, Bool.not_eq_true', decide_eq_true_eq, decide_eq_false_iff_not] at hb4
          refine aw_seq (aw_region (EF := EF0) hG (by rw [hN]; exact tr38_5) ?_)
          simp only [a38_5, go_sem, ↓reduceIte, Nat.reduceEqDiff, reduceCtorEq, Nat.reduceAdd, Nat.reduceLT, Nat.reduceLeDiff, Nat.reduceBNe, Nat.reduceBEq, Int.reduceToNat, trPer, fFits_eq, fFl_eq, fAbs_eq, pairI]
          refine aw_ret ?_
          show Q _ _
          refine hQ _ _ (.inl rfl) ?_ ?_ ?_ <;> simp only [outφ, outV, AR.res, go_sem, ↓reduceIte, Nat.reduceEqDiff, reduceCtorEq, Nat.reduceAdd, Nat.reduceLT, Nat.reduceLeDiff, Nat.reduceBNe, Nat.reduceBEq, Int.reduceToNat, fPerR, pairI]
          rw [perM_no (by rw [← hdm, per_big hA hW hb4.1 hA1 hs0 hb4.2]; simp)]
        · skip
          simp only [Bool.and_eq_false_iff, Bool.not_eq_false', decide_eq_true_eq, decide_eq_false_iff_not] at hb4
          refine aw_skip ?_
          try simp only [go_sem, ↓reduceIte, Nat.reduceEqDiff, reduceCtorEq, Nat.reduceAdd, Nat.reduceLT, Nat.reduceLeDiff, Nat.reduceBNe, Nat.reduceBEq, Int.reduceToNat]
          refine hKC4 (()) _ ?_ ?_
          · (try dsimp only); exact per_small hA hW hb4
          · refine Le.mk _ _ ?_ ?_ rfl <;> simp only [go_sem, ↓reduceIte, Nat.reduceEqDiff, reduceCtorEq, Nat.reduceAdd, Nat.reduceLT, Nat.reduceLeDiff, Nat.reduceBNe, Nat.reduceBEq, Int.reduceToNat] <;> (repeat' apply And.intro) <;> (try first | rfl | exact wk_frzb rfl rfl rfl | exact wk_fn rfl | exact .nilo _ _ _ rfl rfl)
      · rintro _ hsm
        refine aw_seq (aw_region (EF := EF0) hG (by rw [hN]; exact tr38_6) ?_)
        simp only [a38_6, go_sem, ↓reduceIte, Nat.reduceEqDiff, reduceCtorEq, Nat.reduceAdd, Nat.reduceLT, Nat.reduceLeDiff, Nat.reduceBNe, Nat.reduceBEq, Int.reduceToNat, inI, show 2 * a * s = 2 * (a * s) from Int.mul_assoc _ _ _, trPer, fFits_eq, fFl_eq, fAbs_eq, pairI]
        (repeat' apply And.intro) <;> (try first | omega | (intros; (repeat' apply And.intro) <;> first | assumption | omega | (simp_all; done)))
        refine aw_seq ?_
        have hn0 : -1100000000000 ≤ (2 * (a * s) + 10000) / 20000 ∧ (2 * (a * s) + 10000) / 20000 ≤ 1100000000000 := by omega
        refine aw_seq (aw_region (EF := EF0) hG (by rw [hN]; exact tr38_7) ?_)
        simp only [a38_7, go_sem, ↓reduceIte, Nat.reduceEqDiff, reduceCtorEq, Nat.reduceAdd, Nat.reduceLT, Nat.reduceLeDiff, Nat.reduceBNe, Nat.reduceBEq, Int.reduceToNat, inI, trPer, fFits_eq, fFl_eq, fAbs_eq, pairI]
        (repeat' apply And.intro) <;> (try first | omega | (intros; (repeat' apply And.intro) <;> first | assumption | omega | (simp_all; done)))
        refine aw_cond (b := _) rfl (fun hb7 => ?_) (fun hb7 => ?_)
        · skip
          refine aw_seq (aw_region (EF := EF0) hG (by rw [hN]; exact tr38_8) ?_)
          simp only [a38_8, go_sem, ↓reduceIte, Nat.reduceEqDiff, reduceCtorEq, Nat.reduceAdd, Nat.reduceLT, Nat.reduceLeDiff, Nat.reduceBNe, Nat.reduceBEq, Int.reduceToNat, trPer, fFits_eq, fFl_eq, fAbs_eq, pairI]
          refine aw_ret ?_
          show Q _ _
          refine hQ _ _ (.inl rfl) ?_ ?_ ?_ <;> simp only [outφ, outV, AR.res, go_sem, ↓reduceIte, Nat.reduceEqDiff, reduceCtorEq, Nat.reduceAdd, Nat.reduceLT, Nat.reduceLeDiff, Nat.reduceBNe, Nat.reduceBEq, Int.reduceToNat, fPerR, pairI]
          rw [perM_no (by rw [hfa, hfb, ← hdm, hpe]; simpa using hb7)]
        · skip
          refine aw_skip ?_
          try simp only [go_sem, ↓reduceIte, Nat.reduceEqDiff, reduceCtorEq, Nat.reduceAdd, Nat.reduceLT, Nat.reduceLeDiff, Nat.reduceBNe, Nat.reduceBEq, Int.reduceToNat]
          refine aw_seq (aw_region (EF := EF0) hG (by rw [hN]; exact tr38_9) ?_)
          simp only [a38_9, go_sem, ↓reduceIte, Nat.reduceEqDiff, reduceCtorEq, Nat.reduceAdd, Nat.reduceLT, Nat.reduceLeDiff, Nat.reduceBNe, Nat.reduceBEq, Int.reduceToNat, inI, trPer, fFits_eq, fFl_eq, fAbs_eq, pairI]
          (repeat' apply And.intro) <;> (try first | omega | (intros; (repeat' apply And.intro) <;> first | assumption | omega | (simp_all; done)))
          refine aw_ret ?_
          show Q _ _
          refine hQ _ _ (.inl rfl) ?_ ?_ ?_ <;> simp only [outφ, outV, AR.res, go_sem, ↓reduceIte, Nat.reduceEqDiff, reduceCtorEq, Nat.reduceAdd, Nat.reduceLT, Nat.reduceLeDiff, Nat.reduceBNe, Nat.reduceBEq, Int.reduceToNat, fPerR, pairI]
          rw [perM_yes (by rw [hfa, hfb, ← hdm, hpe]; simpa using hb7), ← hdm, hpe]
    · skip
      replace hfb := Bool.eq_false_iff.2 hfb
      refine aw_seq (aw_region (EF := EF0) hG (by rw [hN]; exact tr38_1) ?_)
      simp only [a38_1, go_sem, ↓reduceIte, Nat.reduceEqDiff, reduceCtorEq, Nat.reduceAdd, Nat.reduceLT, Nat.reduceLeDiff, Nat.reduceBNe, Nat.reduceBEq, Int.reduceToNat, hfa, hfb, trPer, fFits_eq, fFl_eq, fAbs_eq, pairI]
      (repeat' apply And.intro) <;> (try first | omega | (intros; (repeat' apply And.intro) <;> first | assumption | omega | (simp_all; done)))
      refine aw_condT rfl ?_
      refine aw_seq (aw_region (EF := EF0) hG (by rw [hN]; exact tr38_2) ?_)
      simp only [a38_2, go_sem, ↓reduceIte, Nat.reduceEqDiff, reduceCtorEq, Nat.reduceAdd, Nat.reduceLT, Nat.reduceLeDiff, Nat.reduceBNe, Nat.reduceBEq, Int.reduceToNat, trPer, fFits_eq, fFl_eq, fAbs_eq, pairI]
      refine aw_ret ?_
      show Q _ _
      refine hQ _ _ (.inl rfl) ?_ ?_ ?_ <;> simp only [outφ, outV, AR.res, go_sem, ↓reduceIte, Nat.reduceEqDiff, reduceCtorEq, Nat.reduceAdd, Nat.reduceLT, Nat.reduceLeDiff, Nat.reduceBNe, Nat.reduceBEq, Int.reduceToNat, fPerR, pairI]
      rw [perM_no (by rw [hfb]; simp)]
  · skip
    replace hfa := Bool.eq_false_iff.2 hfa
    by_cases hfb : fits h = true
    · skip
      refine aw_seq (aw_region (EF := EF0) hG (by rw [hN]; exact tr38_1) ?_)
      simp only [a38_1, go_sem, ↓reduceIte, Nat.reduceEqDiff, reduceCtorEq, Nat.reduceAdd, Nat.reduceLT, Nat.reduceLeDiff, Nat.reduceBNe, Nat.reduceBEq, Int.reduceToNat, hfa, hfb, trPer, fFits_eq, fFl_eq, fAbs_eq, pairI]
      (repeat' apply And.intro) <;> (try first | omega | (intros; (repeat' apply And.intro) <;> first | assumption | omega | (simp_all; done)))
      refine aw_condT rfl ?_
      refine aw_seq (aw_region (EF := EF0) hG (by rw [hN]; exact tr38_2) ?_)
      simp only [a38_2, go_sem, ↓reduceIte, Nat.reduceEqDiff, reduceCtorEq, Nat.reduceAdd, Nat.reduceLT, Nat.reduceLeDiff, Nat.reduceBNe, Nat.reduceBEq, Int.reduceToNat, trPer, fFits_eq, fFl_eq, fAbs_eq, pairI]
      refine aw_ret ?_
      show Q _ _
      refine hQ _ _ (.inl rfl) ?_ ?_ ?_ <;> simp only [outφ, outV, AR.res, go_sem, ↓reduceIte, Nat.reduceEqDiff, reduceCtorEq, Nat.reduceAdd, Nat.reduceLT, Nat.reduceLeDiff, Nat.reduceBNe, Nat.reduceBEq, Int.reduceToNat, fPerR, pairI]
      rw [perM_no (by rw [hfa]; simp)]
    · skip
      replace hfb := Bool.eq_false_iff.2 hfb
      refine aw_seq (aw_region (EF := EF0) hG (by rw [hN]; exact tr38_1) ?_)
      simp only [a38_1, go_sem, ↓reduceIte, Nat.reduceEqDiff, reduceCtorEq, Nat.reduceAdd, Nat.reduceLT, Nat.reduceLeDiff, Nat.reduceBNe, Nat.reduceBEq, Int.reduceToNat, hfa, hfb, trPer, fFits_eq, fFl_eq, fAbs_eq, pairI]
      (repeat' apply And.intro) <;> (try first | omega | (intros; (repeat' apply And.intro) <;> first | assumption | omega | (simp_all; done)))
      refine aw_condT rfl ?_
      refine aw_seq (aw_region (EF := EF0) hG (by rw [hN]; exact tr38_2) ?_)
      simp only [a38_2, go_sem, ↓reduceIte, Nat.reduceEqDiff, reduceCtorEq, Nat.reduceAdd, Nat.reduceLT, Nat.reduceLeDiff, Nat.reduceBNe, Nat.reduceBEq, Int.reduceToNat, trPer, fFits_eq, fFl_eq, fAbs_eq, pairI]
      refine aw_ret ?_
      show Q _ _
      refine hQ _ _ (.inl rfl) ?_ ?_ ?_ <;> simp only [outφ, outV, AR.res, go_sem, ↓reduceIte, Nat.reduceEqDiff, reduceCtorEq, Nat.reduceAdd, Nat.reduceLT, Nat.reduceLeDiff, Nat.reduceBNe, Nat.reduceBEq, Int.reduceToNat, fPerR, pairI]
      rw [perM_no (by rw [hfa]; simp)]
end Go.Proofs.YtailckanpheciaaDoor
