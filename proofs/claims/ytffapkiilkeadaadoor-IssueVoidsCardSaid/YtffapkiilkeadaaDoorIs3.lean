/- What makes a coupon void; record locators: both. -/
import Derived.Test.YtffapkiilkeadaaDoorIs2
namespace Go.Proofs.YtffapkiilkeadaaDoor
open Go Go.RowKit
set_option linter.unusedSimpArgs false
set_option linter.unusedVariables false
set_option linter.deprecated false
/-! The event that makes a coupon void. -/
def fNx (x : Int × Int) : Prop × V := (x.2 = 10 ∧ 1 ≤ x.1 ∧ x.1 ≤ 8, .int .i64 (if x.1 = 1 then 8 else 0))
theorem fNx_eq (a b : Int) : gOf aTwoN fNx [.int .i64 a, .int .i64 b] = (b = 10 ∧ 1 ≤ a ∧ a ≤ 8, .int .i64 (if a = 1 then 8 else 0)) := gOf_eq aTwoN_inj (a, b)
theorem next_p : PureC Tryd.prog UT 52 (gOf aTwoN fNx) := by
  have hG := tNo_ok
  refine PureC.ofArgs aTwoN_inj Tryd.func52 body52 nm52 res52 ?_
  rintro ⟨s, e⟩ hv
  refine ⟨by rw [nt52]; simp [aTwoN], fun C hN Q hQ => ?_⟩
  rw [nt52] at hN
  unfold c52
  obtain ⟨he, h1, h2⟩ : e = 10 ∧ 1 ≤ s ∧ s ≤ 8 := hv
  subst he
  refine aw_seq (aw_region (EF := EF0) hG (by rw [hN]; exact tr52_0) ?_)
  simp only [a52_0, go_sem, ↓reduceIte, Nat.reduceEqDiff, reduceCtorEq, Nat.reduceAdd, Nat.reduceLT, Nat.reduceLeDiff, Nat.reduceBNe, Nat.reduceBEq, Int.reduceToNat, aTwoN, tNo, Int.reduceEq, decide_false, decide_true, Bool.and_false, Bool.and_true]
  refine aw_seq ?_
  refine aw_seq (aw_region (EF := EF0) hG (by rw [hN]; exact tr52_1) ?_)
  simp only [a52_1, go_sem, ↓reduceIte, Nat.reduceEqDiff, reduceCtorEq, Nat.reduceAdd, Nat.reduceLT, Nat.reduceLeDiff, Nat.reduceBNe, Nat.reduceBEq, Int.reduceToNat, tNo, Int.reduceEq, decide_false, decide_true, Bool.and_false, Bool.and_true]
  refine aw_block ?_
  refine aw_seq (aw_region (EF := EF0) hG (by rw [hN]; exact tr52_2) ?_)
  simp only [a52_2, go_sem, ↓reduceIte, Nat.reduceEqDiff, reduceCtorEq, Nat.reduceAdd, Nat.reduceLT, Nat.reduceLeDiff, Nat.reduceBNe, Nat.reduceBEq, Int.reduceToNat, tNo, Int.reduceEq, decide_false, decide_true, Bool.and_false, Bool.and_true]
  refine aw_condF rfl ?_
  refine aw_seq ?_
  refine aw_seq (aw_region (EF := EF0) hG (by rw [hN]; exact tr52_4) ?_)
  simp only [a52_4, go_sem, ↓reduceIte, Nat.reduceEqDiff, reduceCtorEq, Nat.reduceAdd, Nat.reduceLT, Nat.reduceLeDiff, Nat.reduceBNe, Nat.reduceBEq, Int.reduceToNat, tNo, Int.reduceEq, decide_false, decide_true, Bool.and_false, Bool.and_true]
  refine aw_condF rfl ?_
  refine aw_seq (aw_region (EF := EF0) hG (by rw [hN]; exact tr52_5) ?_)
  simp only [a52_5, go_sem, ↓reduceIte, Nat.reduceEqDiff, reduceCtorEq, Nat.reduceAdd, Nat.reduceLT, Nat.reduceLeDiff, Nat.reduceBNe, Nat.reduceBEq, Int.reduceToNat, tNo, Int.reduceEq, decide_false, decide_true, Bool.and_false, Bool.and_true]
  refine aw_condF rfl ?_
  refine aw_region (EF := EF0) hG (by rw [hN]; exact tr52_6) ?_
  simp only [a52_6, go_sem, ↓reduceIte, Nat.reduceEqDiff, reduceCtorEq, Nat.reduceAdd, Nat.reduceLT, Nat.reduceLeDiff, Nat.reduceBNe, Nat.reduceBEq, Int.reduceToNat, tNo, Int.reduceEq, decide_false, decide_true, Bool.and_false, Bool.and_true]
  refine aw_condF rfl ?_
  refine aw_seq (aw_region (EF := EF0) hG (by rw [hN]; exact tr52_8) ?_)
  simp only [a52_8, go_sem, ↓reduceIte, Nat.reduceEqDiff, reduceCtorEq, Nat.reduceAdd, Nat.reduceLT, Nat.reduceLeDiff, Nat.reduceBNe, Nat.reduceBEq, Int.reduceToNat, tNo, Int.reduceEq, decide_false, decide_true, Bool.and_false, Bool.and_true]
  refine aw_condF rfl ?_
  refine aw_seq (aw_region (EF := EF0) hG (by rw [hN]; exact tr52_10) ?_)
  simp only [a52_10, go_sem, ↓reduceIte, Nat.reduceEqDiff, reduceCtorEq, Nat.reduceAdd, Nat.reduceLT, Nat.reduceLeDiff, Nat.reduceBNe, Nat.reduceBEq, Int.reduceToNat, tNo, Int.reduceEq, decide_false, decide_true, Bool.and_false, Bool.and_true]
  refine aw_condF rfl ?_
  refine aw_seq (aw_region (EF := EF0) hG (by rw [hN]; exact tr52_12) ?_)
  simp only [a52_12, go_sem, ↓reduceIte, Nat.reduceEqDiff, reduceCtorEq, Nat.reduceAdd, Nat.reduceLT, Nat.reduceLeDiff, Nat.reduceBNe, Nat.reduceBEq, Int.reduceToNat, tNo, Int.reduceEq, decide_false, decide_true, Bool.and_false, Bool.and_true]
  refine aw_cond (b := _) rfl (fun hc12 => ?_) (fun hc12 => ?_)
  · simp only [decide_eq_true_eq, decide_eq_false_iff_not, Bool.and_eq_true, Bool.or_eq_true, Bool.not_eq_true', Bool.not_eq_false', Bool.and_eq_false_iff, Bool.or_eq_false_iff, Int.ofNat_lt, Int.ofNat_le, Nat.not_lt, Nat.not_le, Int.not_lt, Int.not_le] at hc12
    refine aw_seq (aw_region (EF := EF0) hG (by rw [hN]; exact tr52_13) ?_)
    simp only [a52_13, go_sem, ↓reduceIte, Nat.reduceEqDiff, reduceCtorEq, Nat.reduceAdd, Nat.reduceLT, Nat.reduceLeDiff, Nat.reduceBNe, Nat.reduceBEq, Int.reduceToNat, tNo, Int.reduceEq, decide_false, decide_true, Bool.and_false, Bool.and_true]
    refine aw_ret ?_
    show Q _ _
    refine hQ _ _ (.inl rfl) ?_ ?_ ?_ <;> simp only [outφ, outV, AR.res, go_sem, ↓reduceIte, Nat.reduceEqDiff, reduceCtorEq, Nat.reduceAdd, Nat.reduceLT, Nat.reduceLeDiff, Nat.reduceBNe, Nat.reduceBEq, Int.reduceToNat, fNx, hc12]
  · simp only [decide_eq_true_eq, decide_eq_false_iff_not, Bool.and_eq_true, Bool.or_eq_true, Bool.not_eq_true', Bool.not_eq_false', Bool.and_eq_false_iff, Bool.or_eq_false_iff, Int.ofNat_lt, Int.ofNat_le, Nat.not_lt, Nat.not_le, Int.not_lt, Int.not_le] at hc12
    refine aw_seq ?_
    refine aw_seq (aw_region (EF := EF0) hG (by rw [hN]; exact tr52_14) ?_)
    simp only [a52_14, go_sem, ↓reduceIte, Nat.reduceEqDiff, reduceCtorEq, Nat.reduceAdd, Nat.reduceLT, Nat.reduceLeDiff, Nat.reduceBNe, Nat.reduceBEq, Int.reduceToNat, tNo, Int.reduceEq, decide_false, decide_true, Bool.and_false, Bool.and_true]
    refine aw_condF rfl ?_
    refine aw_region (EF := EF0) hG (by rw [hN]; exact tr52_15) ?_
    simp only [a52_15, go_sem, ↓reduceIte, Nat.reduceEqDiff, reduceCtorEq, Nat.reduceAdd, Nat.reduceLT, Nat.reduceLeDiff, Nat.reduceBNe, Nat.reduceBEq, Int.reduceToNat, tNo, Int.reduceEq, decide_false, decide_true, Bool.and_false, Bool.and_true]
    refine aw_condF rfl ?_
    refine aw_seq (aw_region (EF := EF0) hG (by rw [hN]; exact tr52_17) ?_)
    simp only [a52_17, go_sem, ↓reduceIte, Nat.reduceEqDiff, reduceCtorEq, Nat.reduceAdd, Nat.reduceLT, Nat.reduceLeDiff, Nat.reduceBNe, Nat.reduceBEq, Int.reduceToNat, tNo, Int.reduceEq, decide_false, decide_true, Bool.and_false, Bool.and_true]
    refine aw_condF rfl ?_
    refine aw_seq (aw_region (EF := EF0) hG (by rw [hN]; exact tr52_19) ?_)
    simp only [a52_19, go_sem, ↓reduceIte, Nat.reduceEqDiff, reduceCtorEq, Nat.reduceAdd, Nat.reduceLT, Nat.reduceLeDiff, Nat.reduceBNe, Nat.reduceBEq, Int.reduceToNat, tNo, Int.reduceEq, decide_false, decide_true, Bool.and_false, Bool.and_true]
    refine aw_condF rfl ?_
    refine aw_skip ?_
    try simp only [go_sem, ↓reduceIte, Nat.reduceEqDiff, reduceCtorEq, Nat.reduceAdd, Nat.reduceLT, Nat.reduceLeDiff, Nat.reduceBNe, Nat.reduceBEq, Int.reduceToNat]
    refine aw_seq (aw_region (EF := EF0) hG (by rw [hN]; exact tr52_21) ?_)
    simp only [a52_21, go_sem, ↓reduceIte, Nat.reduceEqDiff, reduceCtorEq, Nat.reduceAdd, Nat.reduceLT, Nat.reduceLeDiff, Nat.reduceBNe, Nat.reduceBEq, Int.reduceToNat, tNo, Int.reduceEq, decide_false, decide_true, Bool.and_false, Bool.and_true]
    refine aw_ret ?_
    show Q _ _
    refine hQ _ _ (.inl rfl) ?_ ?_ ?_ <;> simp only [outφ, outV, AR.res, go_sem, ↓reduceIte, Nat.reduceEqDiff, reduceCtorEq, Nat.reduceAdd, Nat.reduceLT, Nat.reduceLeDiff, Nat.reduceBNe, Nat.reduceBEq, Int.reduceToNat, fNx, hc12]
theorem rafter_p : PureC Tryd.prog UT 54 (gOf aTwoN fNx) := by
  have hG := tNo_ok
  refine PureC.ofArgs aTwoN_inj Tryd.func54 body54 nm54 res54 ?_
  rintro ⟨s, e⟩ hv
  refine ⟨by rw [nt54]; simp [aTwoN], fun C hN Q hQ => ?_⟩
  rw [nt54] at hN
  unfold c54
  obtain ⟨he, h1, h2⟩ : e = 10 ∧ 1 ≤ s ∧ s ≤ 8 := hv
  subst he
  refine aw_seq (aw_region (EF := EF0) hG (by rw [hN]; exact tr54_0) ?_)
  simp only [a54_0, go_sem, ↓reduceIte, Nat.reduceEqDiff, reduceCtorEq, Nat.reduceAdd, Nat.reduceLT, Nat.reduceLeDiff, Nat.reduceBNe, Nat.reduceBEq, Int.reduceToNat, aTwoN, tNo]
  refine aw_seq ?_
  refine aw_seq (aw_region (EF := EF0) hG (by rw [hN]; exact tr54_1) ?_)
  simp only [a54_1, go_sem, ↓reduceIte, Nat.reduceEqDiff, reduceCtorEq, Nat.reduceAdd, Nat.reduceLT, Nat.reduceLeDiff, Nat.reduceBNe, Nat.reduceBEq, Int.reduceToNat, inI, tNo]
  (repeat' apply And.intro) <;> (try first | omega | ((fail_if_success refine idW ?_); (fail_if_success refine idS ?_); intros; (repeat' apply And.intro) <;> first | assumption | omega | (simp_all; done)))
  refine aw_block ?_
  refine aw_seq (aw_region (EF := EF0) hG (by rw [hN]; exact tr54_2) ?_)
  simp only [a54_2, go_sem, ↓reduceIte, Nat.reduceEqDiff, reduceCtorEq, Nat.reduceAdd, Nat.reduceLT, Nat.reduceLeDiff, Nat.reduceBNe, Nat.reduceBEq, Int.reduceToNat, tNo]
  refine aw_cond (b := _) rfl (fun hb => ?_) (fun hb => ?_)
  · exfalso; simp at hb; omega
  · skip
    refine aw_seq ?_
    refine aw_seq (aw_region (EF := EF0) hG (by rw [hN]; exact tr54_4) ?_)
    simp only [a54_4, go_sem, ↓reduceIte, Nat.reduceEqDiff, reduceCtorEq, Nat.reduceAdd, Nat.reduceLT, Nat.reduceLeDiff, Nat.reduceBNe, Nat.reduceBEq, Int.reduceToNat, tNo]
    refine aw_cond (b := _) rfl (fun hb => ?_) (fun hb => ?_)
    · exfalso; simp at hb; omega
    · skip
      refine aw_seq (aw_region (EF := EF0) hG (by rw [hN]; exact tr54_5) ?_)
      simp only [a54_5, go_sem, ↓reduceIte, Nat.reduceEqDiff, reduceCtorEq, Nat.reduceAdd, Nat.reduceLT, Nat.reduceLeDiff, Nat.reduceBNe, Nat.reduceBEq, Int.reduceToNat, tNo]
      refine aw_cond (b := _) rfl (fun hb => ?_) (fun hb => ?_)
      · exfalso; simp at hb; omega
      · skip
        refine aw_region (EF := EF0) hG (by rw [hN]; exact tr54_6) ?_
        simp only [a54_6, go_sem, ↓reduceIte, Nat.reduceEqDiff, reduceCtorEq, Nat.reduceAdd, Nat.reduceLT, Nat.reduceLeDiff, Nat.reduceBNe, Nat.reduceBEq, Int.reduceToNat, tNo]
        refine aw_cond (b := _) rfl (fun hb => ?_) (fun hb => ?_)
        · exfalso; simp at hb; omega
        · skip
          refine aw_seq (aw_region (EF := EF0) hG (by rw [hN]; exact tr54_8) ?_)
          simp only [a54_8, go_sem, ↓reduceIte, Nat.reduceEqDiff, reduceCtorEq, Nat.reduceAdd, Nat.reduceLT, Nat.reduceLeDiff, Nat.reduceBNe, Nat.reduceBEq, Int.reduceToNat, tNo]
          refine aw_cond (b := _) rfl (fun hb => ?_) (fun hb => ?_)
          · exfalso; simp at hb; omega
          · skip
            refine aw_seq (aw_region (EF := EF0) hG (by rw [hN]; exact tr54_10) ?_)
            simp only [a54_10, go_sem, ↓reduceIte, Nat.reduceEqDiff, reduceCtorEq, Nat.reduceAdd, Nat.reduceLT, Nat.reduceLeDiff, Nat.reduceBNe, Nat.reduceBEq, Int.reduceToNat, tNo]
            refine aw_cond (b := _) rfl (fun hb => ?_) (fun hb => ?_)
            · exfalso; simp at hb; omega
            · skip
              refine aw_seq (aw_region (EF := EF0) hG (by rw [hN]; exact tr54_12) ?_)
              simp only [a54_12, go_sem, ↓reduceIte, Nat.reduceEqDiff, reduceCtorEq, Nat.reduceAdd, Nat.reduceLT, Nat.reduceLeDiff, Nat.reduceBNe, Nat.reduceBEq, Int.reduceToNat, tNo]
              refine aw_cond (b := _) rfl (fun hc12 => ?_) (fun hc12 => ?_)
              · simp only [decide_eq_true_eq, decide_eq_false_iff_not, Bool.and_eq_true, Bool.or_eq_true, Bool.not_eq_true', Bool.not_eq_false', Bool.and_eq_false_iff, Bool.or_eq_false_iff, Int.ofNat_lt, Int.ofNat_le, Nat.not_lt, Nat.not_le, Int.not_lt, Int.not_le] at hc12
                obtain rfl : s = 1 := by omega
                refine aw_seq (aw_region (EF := EF0) hG (by rw [hN]; exact tr54_13) ?_)
                simp only [a54_13, go_sem, ↓reduceIte, Nat.reduceEqDiff, reduceCtorEq, Nat.reduceAdd, Nat.reduceLT, Nat.reduceLeDiff, Nat.reduceBNe, Nat.reduceBEq, Int.reduceToNat, tNo]
                refine aw_ret ?_
                show Q _ _
                refine hQ _ _ (.inl rfl) ?_ ?_ ?_ <;> simp only [outφ, outV, AR.res, go_sem, ↓reduceIte, Nat.reduceEqDiff, reduceCtorEq, Nat.reduceAdd, Nat.reduceLT, Nat.reduceLeDiff, Nat.reduceBNe, Nat.reduceBEq, Int.reduceToNat, fNx]
              · simp only [decide_eq_true_eq, decide_eq_false_iff_not, Bool.and_eq_true, Bool.or_eq_true, Bool.not_eq_true', Bool.not_eq_false', Bool.and_eq_false_iff, Bool.or_eq_false_iff, Int.ofNat_lt, Int.ofNat_le, Nat.not_lt, Nat.not_le, Int.not_lt, Int.not_le] at hc12
                have hs1 : ¬ s = 1 := by omega
                refine aw_seq ?_
                refine aw_seq (aw_region (EF := EF0) hG (by rw [hN]; exact tr54_14) ?_)
                simp only [a54_14, go_sem, ↓reduceIte, Nat.reduceEqDiff, reduceCtorEq, Nat.reduceAdd, Nat.reduceLT, Nat.reduceLeDiff, Nat.reduceBNe, Nat.reduceBEq, Int.reduceToNat, tNo]
                refine aw_cond (b := _) rfl (fun hb => ?_) (fun hb => ?_)
                · exfalso; simp at hb; omega
                · skip
                  refine aw_region (EF := EF0) hG (by rw [hN]; exact tr54_15) ?_
                  simp only [a54_15, go_sem, ↓reduceIte, Nat.reduceEqDiff, reduceCtorEq, Nat.reduceAdd, Nat.reduceLT, Nat.reduceLeDiff, Nat.reduceBNe, Nat.reduceBEq, Int.reduceToNat, tNo]
                  refine aw_cond (b := _) rfl (fun hb => ?_) (fun hb => ?_)
                  · exfalso; simp at hb; omega
                  · skip
                    refine aw_seq (aw_region (EF := EF0) hG (by rw [hN]; exact tr54_17) ?_)
                    simp only [a54_17, go_sem, ↓reduceIte, Nat.reduceEqDiff, reduceCtorEq, Nat.reduceAdd, Nat.reduceLT, Nat.reduceLeDiff, Nat.reduceBNe, Nat.reduceBEq, Int.reduceToNat, tNo]
                    refine aw_cond (b := _) rfl (fun hb => ?_) (fun hb => ?_)
                    · exfalso; simp at hb; omega
                    · skip
                      refine aw_seq (aw_region (EF := EF0) hG (by rw [hN]; exact tr54_19) ?_)
                      simp only [a54_19, go_sem, ↓reduceIte, Nat.reduceEqDiff, reduceCtorEq, Nat.reduceAdd, Nat.reduceLT, Nat.reduceLeDiff, Nat.reduceBNe, Nat.reduceBEq, Int.reduceToNat, tNo]
                      refine aw_cond (b := _) rfl (fun hb => ?_) (fun hb => ?_)
                      · exfalso; simp at hb; omega
                      · skip
                        refine aw_skip ?_
                        try simp only [go_sem, ↓reduceIte, Nat.reduceEqDiff, reduceCtorEq, Nat.reduceAdd, Nat.reduceLT, Nat.reduceLeDiff, Nat.reduceBNe, Nat.reduceBEq, Int.reduceToNat]
                        refine aw_seq (aw_region (EF := EF0) hG (by rw [hN]; exact tr54_21) ?_)
                        simp only [a54_21, go_sem, ↓reduceIte, Nat.reduceEqDiff, reduceCtorEq, Nat.reduceAdd, Nat.reduceLT, Nat.reduceLeDiff, Nat.reduceBNe, Nat.reduceBEq, Int.reduceToNat, tNo]
                        refine aw_ret ?_
                        show Q _ _
                        refine hQ _ _ (.inl rfl) ?_ ?_ ?_ <;> simp only [outφ, outV, AR.res, go_sem, ↓reduceIte, Nat.reduceEqDiff, reduceCtorEq, Nat.reduceAdd, Nat.reduceLT, Nat.reduceLeDiff, Nat.reduceBNe, Nat.reduceBEq, Int.reduceToNat, fNx, hs1]
def fKn (s : Int) : Prop × V := (True, .bool (decide (1 ≤ s) && decide (s ≤ 8)))
theorem fKn_eq (s : Int) : gOf aInt fKn [.int .i64 s] = (True, .bool (decide (1 ≤ s) && decide (s ≤ 8))) := gOf_eq aInt_inj s
theorem rknown_p : PureC Tryd.prog UT 53 (gOf aInt fKn) := by
  have hG := tNo_ok
  refine PureC.ofArgs aInt_inj Tryd.func53 body53 nm53 res53 ?_
  rintro s hv
  refine ⟨by rw [nt53]; simp [aInt], fun C hN Q hQ => ?_⟩
  rw [nt53] at hN
  unfold c53
  refine aw_seq (aw_region (EF := EF0) hG (by rw [hN]; exact tr53_0) ?_)
  simp only [a53_0, go_sem, ↓reduceIte, Nat.reduceEqDiff, reduceCtorEq, Nat.reduceAdd, Nat.reduceLT, Nat.reduceLeDiff, Nat.reduceBNe, Nat.reduceBEq, Int.reduceToNat, aInt]
  refine aw_seq (aw_region (EF := EF0) hG (by rw [hN]; exact tr53_1) ?_)
  simp only [a53_1, go_sem, ↓reduceIte, Nat.reduceEqDiff, reduceCtorEq, Nat.reduceAdd, Nat.reduceLT, Nat.reduceLeDiff, Nat.reduceBNe, Nat.reduceBEq, Int.reduceToNat]
  (repeat' apply And.intro) <;> (try first | omega | ((fail_if_success refine idW ?_); (fail_if_success refine idS ?_); intros; (repeat' apply And.intro) <;> first | assumption | omega | (simp_all; done)))
  refine aw_ret ?_
  show Q _ _
  refine hQ _ _ (.inl rfl) ?_ ?_ ?_ <;> simp only [outφ, outV, AR.res, go_sem, ↓reduceIte, Nat.reduceEqDiff, reduceCtorEq, Nat.reduceAdd, Nat.reduceLT, Nat.reduceLeDiff, Nat.reduceBNe, Nat.reduceBEq, Int.reduceToNat, fKn]
/-- The status behind the event, or the error. -/
def voidM (s : Int) : Int × Int := if s < 1 ∨ 8 < s then (0, 8) else if s = 2 then (0, 28) else if s = 1 then (8, 0) else (0, 27)
def fVn (x : Int × Int) : Prop × V := (x.2 = 10, tupI (voidM x.1))
theorem fVn_eq (a b : Int) : gOf aTwoN fVn [.int .i64 a, .int .i64 b] = (b = 10, tupI (voidM a)) := gOf_eq aTwoN_inj (a, b)
noncomputable def tVn : Tab
  | 52 => (gOf aTwoN fNx)
  | _ => gNo
theorem tVn_ok : ∀ f, PureC Tryd.prog UT f (tVn f) := fun f => by
  unfold tVn
  split
  · exact next_p
  · exact PureC.no
theorem vnext_p : PureC Tryd.prog UT 31 (gOf aTwoN fVn) := by
  have hG := tVn_ok
  refine PureC.ofArgs aTwoN_inj Tryd.func31 body31 nm31 res31 ?_
  rintro ⟨s, e⟩ hv
  refine ⟨by rw [nt31]; simp [aTwoN], fun C hN Q hQ => ?_⟩
  rw [nt31] at hN
  unfold c31
  replace hv : e = 10 := hv
  subst hv
  refine aw_seq (aw_region (EF := EF0) hG (by rw [hN]; exact tr31_0) ?_)
  simp only [a31_0, go_sem, ↓reduceIte, Nat.reduceEqDiff, reduceCtorEq, Nat.reduceAdd, Nat.reduceLT, Nat.reduceLeDiff, Nat.reduceBNe, Nat.reduceBEq, Int.reduceToNat, aTwoN, tVn, fNx_eq]
  refine aw_seq ?_
  refine aw_seq (aw_region (EF := EF0) hG (by rw [hN]; exact tr31_1) ?_)
  simp only [a31_1, go_sem, ↓reduceIte, Nat.reduceEqDiff, reduceCtorEq, Nat.reduceAdd, Nat.reduceLT, Nat.reduceLeDiff, Nat.reduceBNe, Nat.reduceBEq, Int.reduceToNat, tVn, fNx_eq]
  (repeat' apply And.intro) <;> (try first | omega | ((fail_if_success refine idW ?_); (fail_if_success refine idS ?_); intros; (repeat' apply And.intro) <;> first | assumption | omega | (simp_all; done)))
  refine aw_cond (b := _) rfl (fun hb1 => ?_) (fun hb1 => ?_)
  · skip
    have hm : voidM s = (0, 8) := by unfold voidM; rw [if_pos (by simp at hb1; omega)]
    refine aw_seq (aw_region (EF := EF0) hG (by rw [hN]; exact tr31_2) ?_)
    simp only [a31_2, go_sem, ↓reduceIte, Nat.reduceEqDiff, reduceCtorEq, Nat.reduceAdd, Nat.reduceLT, Nat.reduceLeDiff, Nat.reduceBNe, Nat.reduceBEq, Int.reduceToNat, tVn, fNx_eq]
    refine aw_ret ?_
    show Q _ _
    refine hQ _ _ (.inl rfl) ?_ ?_ ?_ <;> simp only [outφ, outV, AR.res, go_sem, ↓reduceIte, Nat.reduceEqDiff, reduceCtorEq, Nat.reduceAdd, Nat.reduceLT, Nat.reduceLeDiff, Nat.reduceBNe, Nat.reduceBEq, Int.reduceToNat, fVn, tupI, hm]
  · skip
    have hb : 1 ≤ s ∧ s ≤ 8 := by simp at hb1; omega
    refine aw_skip ?_
    try simp only [go_sem, ↓reduceIte, Nat.reduceEqDiff, reduceCtorEq, Nat.reduceAdd, Nat.reduceLT, Nat.reduceLeDiff, Nat.reduceBNe, Nat.reduceBEq, Int.reduceToNat]
    refine aw_seq ?_
    refine aw_seq (aw_region (EF := EF0) hG (by rw [hN]; exact tr31_3) ?_)
    simp only [a31_3, go_sem, ↓reduceIte, Nat.reduceEqDiff, reduceCtorEq, Nat.reduceAdd, Nat.reduceLT, Nat.reduceLeDiff, Nat.reduceBNe, Nat.reduceBEq, Int.reduceToNat, tVn, fNx_eq]
    (repeat' apply And.intro) <;> (try first | omega | ((fail_if_success refine idW ?_); (fail_if_success refine idS ?_); intros; (repeat' apply And.intro) <;> first | assumption | omega | (simp_all; done)))
    refine aw_cond (b := _) rfl (fun hb3 => ?_) (fun hb3 => ?_)
    · skip
      have hm : voidM s = (0, 28) := by simp at hb3; unfold voidM; rw [if_neg (by omega), if_pos hb3]
      refine aw_seq (aw_region (EF := EF0) hG (by rw [hN]; exact tr31_4) ?_)
      simp only [a31_4, go_sem, ↓reduceIte, Nat.reduceEqDiff, reduceCtorEq, Nat.reduceAdd, Nat.reduceLT, Nat.reduceLeDiff, Nat.reduceBNe, Nat.reduceBEq, Int.reduceToNat, tVn, fNx_eq]
      refine aw_ret ?_
      show Q _ _
      refine hQ _ _ (.inl rfl) ?_ ?_ ?_ <;> simp only [outφ, outV, AR.res, go_sem, ↓reduceIte, Nat.reduceEqDiff, reduceCtorEq, Nat.reduceAdd, Nat.reduceLT, Nat.reduceLeDiff, Nat.reduceBNe, Nat.reduceBEq, Int.reduceToNat, fVn, tupI, hm]
    · skip
      have hs2 : ¬ s = 2 := by simpa using hb3
      refine aw_skip ?_
      try simp only [go_sem, ↓reduceIte, Nat.reduceEqDiff, reduceCtorEq, Nat.reduceAdd, Nat.reduceLT, Nat.reduceLeDiff, Nat.reduceBNe, Nat.reduceBEq, Int.reduceToNat]
      refine aw_seq ?_
      refine aw_seq (aw_region (EF := EF0) hG (by rw [hN]; exact tr31_5) ?_)
      simp only [a31_5, go_sem, ↓reduceIte, Nat.reduceEqDiff, reduceCtorEq, Nat.reduceAdd, Nat.reduceLT, Nat.reduceLeDiff, Nat.reduceBNe, Nat.reduceBEq, Int.reduceToNat, hb.1, hb.2, tVn, fNx_eq]
      (repeat' apply And.intro) <;> (try first | omega | ((fail_if_success refine idW ?_); (fail_if_success refine idS ?_); intros; (repeat' apply And.intro) <;> first | assumption | omega | (simp_all; done)))
      refine aw_seq (aw_region (EF := EF0) hG (by rw [hN]; exact tr31_6) ?_)
      simp only [a31_6, go_sem, ↓reduceIte, Nat.reduceEqDiff, reduceCtorEq, Nat.reduceAdd, Nat.reduceLT, Nat.reduceLeDiff, Nat.reduceBNe, Nat.reduceBEq, Int.reduceToNat, tVn, fNx_eq]
      refine aw_cond (b := _) rfl (fun hb6 => ?_) (fun hb6 => ?_)
      · skip
        have hs1 : s = 1 := by (by_cases h : s = 1; exact h; simp [h] at hb6)
        subst hs1
        refine aw_seq (aw_region (EF := EF0) hG (by rw [hN]; exact tr31_7) ?_)
        simp only [a31_7, go_sem, ↓reduceIte, Nat.reduceEqDiff, reduceCtorEq, Nat.reduceAdd, Nat.reduceLT, Nat.reduceLeDiff, Nat.reduceBNe, Nat.reduceBEq, Int.reduceToNat, tVn, fNx_eq]
        refine aw_ret ?_
        show Q _ _
        refine hQ _ _ (.inl rfl) ?_ ?_ ?_ <;> simp only [outφ, outV, AR.res, go_sem, ↓reduceIte, Nat.reduceEqDiff, reduceCtorEq, Nat.reduceAdd, Nat.reduceLT, Nat.reduceLeDiff, Nat.reduceBNe, Nat.reduceBEq, Int.reduceToNat, fVn]
        rfl
      · skip
        have hs1 : ¬ s = 1 := fun h => by simp [h] at hb6
        have hm : voidM s = (0, 27) := by unfold voidM; rw [if_neg (by omega), if_neg hs2, if_neg hs1]
        refine aw_skip ?_
        try simp only [go_sem, ↓reduceIte, Nat.reduceEqDiff, reduceCtorEq, Nat.reduceAdd, Nat.reduceLT, Nat.reduceLeDiff, Nat.reduceBNe, Nat.reduceBEq, Int.reduceToNat]
        refine aw_seq (aw_region (EF := EF0) hG (by rw [hN]; exact tr31_8) ?_)
        simp only [a31_8, go_sem, ↓reduceIte, Nat.reduceEqDiff, reduceCtorEq, Nat.reduceAdd, Nat.reduceLT, Nat.reduceLeDiff, Nat.reduceBNe, Nat.reduceBEq, Int.reduceToNat, tVn, fNx_eq]
        refine aw_ret ?_
        show Q _ _
        refine hQ _ _ (.inl rfl) ?_ ?_ ?_ <;> simp only [outφ, outV, AR.res, go_sem, ↓reduceIte, Nat.reduceEqDiff, reduceCtorEq, Nat.reduceAdd, Nat.reduceLT, Nat.reduceLeDiff, Nat.reduceBNe, Nat.reduceBEq, Int.reduceToNat, fVn, tupI, hm]
noncomputable def trVn : Tab
  | 53 => (gOf aInt fKn)
  | 54 => (gOf aTwoN fNx)
  | _ => gNo
theorem trVn_ok : ∀ f, PureC Tryd.prog UT f (trVn f) := fun f => by
  unfold trVn
  split
  · exact rknown_p
  · exact rafter_p
  · exact PureC.no
theorem rvnext_p : PureC Tryd.prog UT 32 (gOf aTwoN fVn) := by
  have hG := trVn_ok
  refine PureC.ofArgs aTwoN_inj Tryd.func32 body32 nm32 res32 ?_
  rintro ⟨s, e⟩ hv
  refine ⟨by rw [nt32]; simp [aTwoN], fun C hN Q hQ => ?_⟩
  rw [nt32] at hN
  unfold c32
  replace hv : e = 10 := hv
  subst hv
  refine aw_seq (aw_region (EF := EF0) hG (by rw [hN]; exact tr32_0) ?_)
  simp only [a32_0, go_sem, ↓reduceIte, Nat.reduceEqDiff, reduceCtorEq, Nat.reduceAdd, Nat.reduceLT, Nat.reduceLeDiff, Nat.reduceBNe, Nat.reduceBEq, Int.reduceToNat, aTwoN, trVn, fNx_eq, fKn_eq]
  refine aw_seq ?_
  refine aw_seq (aw_region (EF := EF0) hG (by rw [hN]; exact tr32_1) ?_)
  simp only [a32_1, go_sem, ↓reduceIte, Nat.reduceEqDiff, reduceCtorEq, Nat.reduceAdd, Nat.reduceLT, Nat.reduceLeDiff, Nat.reduceBNe, Nat.reduceBEq, Int.reduceToNat, trVn, fNx_eq, fKn_eq]
  (repeat' apply And.intro) <;> (try first | omega | ((fail_if_success refine idW ?_); (fail_if_success refine idS ?_); intros; (repeat' apply And.intro) <;> first | assumption | omega | (simp_all; done)))
  refine aw_cond (b := _) rfl (fun hb1 => ?_) (fun hb1 => ?_)
  · skip
    have hm : voidM s = (0, 8) := by unfold voidM; rw [if_pos (by simp at hb1; omega)]
    refine aw_seq (aw_region (EF := EF0) hG (by rw [hN]; exact tr32_2) ?_)
    simp only [a32_2, go_sem, ↓reduceIte, Nat.reduceEqDiff, reduceCtorEq, Nat.reduceAdd, Nat.reduceLT, Nat.reduceLeDiff, Nat.reduceBNe, Nat.reduceBEq, Int.reduceToNat, trVn, fNx_eq, fKn_eq]
    refine aw_ret ?_
    show Q _ _
    refine hQ _ _ (.inl rfl) ?_ ?_ ?_ <;> simp only [outφ, outV, AR.res, go_sem, ↓reduceIte, Nat.reduceEqDiff, reduceCtorEq, Nat.reduceAdd, Nat.reduceLT, Nat.reduceLeDiff, Nat.reduceBNe, Nat.reduceBEq, Int.reduceToNat, fVn, tupI, hm]
  · skip
    have hb : 1 ≤ s ∧ s ≤ 8 := by simp at hb1; omega
    refine aw_skip ?_
    try simp only [go_sem, ↓reduceIte, Nat.reduceEqDiff, reduceCtorEq, Nat.reduceAdd, Nat.reduceLT, Nat.reduceLeDiff, Nat.reduceBNe, Nat.reduceBEq, Int.reduceToNat]
    refine aw_seq ?_
    refine aw_seq (aw_region (EF := EF0) hG (by rw [hN]; exact tr32_3) ?_)
    simp only [a32_3, go_sem, ↓reduceIte, Nat.reduceEqDiff, reduceCtorEq, Nat.reduceAdd, Nat.reduceLT, Nat.reduceLeDiff, Nat.reduceBNe, Nat.reduceBEq, Int.reduceToNat, trVn, fNx_eq, fKn_eq]
    (repeat' apply And.intro) <;> (try first | omega | ((fail_if_success refine idW ?_); (fail_if_success refine idS ?_); intros; (repeat' apply And.intro) <;> first | assumption | omega | (simp_all; done)))
    refine aw_cond (b := _) rfl (fun hb3 => ?_) (fun hb3 => ?_)
    · skip
      have hm : voidM s = (0, 28) := by simp at hb3; unfold voidM; rw [if_neg (by omega), if_pos hb3]
      refine aw_seq (aw_region (EF := EF0) hG (by rw [hN]; exact tr32_4) ?_)
      simp only [a32_4, go_sem, ↓reduceIte, Nat.reduceEqDiff, reduceCtorEq, Nat.reduceAdd, Nat.reduceLT, Nat.reduceLeDiff, Nat.reduceBNe, Nat.reduceBEq, Int.reduceToNat, trVn, fNx_eq, fKn_eq]
      refine aw_ret ?_
      show Q _ _
      refine hQ _ _ (.inl rfl) ?_ ?_ ?_ <;> simp only [outφ, outV, AR.res, go_sem, ↓reduceIte, Nat.reduceEqDiff, reduceCtorEq, Nat.reduceAdd, Nat.reduceLT, Nat.reduceLeDiff, Nat.reduceBNe, Nat.reduceBEq, Int.reduceToNat, fVn, tupI, hm]
    · skip
      have hs2 : ¬ s = 2 := by simpa using hb3
      refine aw_skip ?_
      try simp only [go_sem, ↓reduceIte, Nat.reduceEqDiff, reduceCtorEq, Nat.reduceAdd, Nat.reduceLT, Nat.reduceLeDiff, Nat.reduceBNe, Nat.reduceBEq, Int.reduceToNat]
      refine aw_seq ?_
      refine aw_seq (aw_region (EF := EF0) hG (by rw [hN]; exact tr32_5) ?_)
      simp only [a32_5, go_sem, ↓reduceIte, Nat.reduceEqDiff, reduceCtorEq, Nat.reduceAdd, Nat.reduceLT, Nat.reduceLeDiff, Nat.reduceBNe, Nat.reduceBEq, Int.reduceToNat, hb.1, hb.2, trVn, fNx_eq, fKn_eq]
      (repeat' apply And.intro) <;> (try first | omega | ((fail_if_success refine idW ?_); (fail_if_success refine idS ?_); intros; (repeat' apply And.intro) <;> first | assumption | omega | (simp_all; done)))
      refine aw_cond (b := _) rfl (fun hb5 => ?_) (fun hb5 => ?_)
      · skip
        have hs1 : ¬ s = 1 := fun h => by simp [h] at hb5
        have hm : voidM s = (0, 27) := by unfold voidM; rw [if_neg (by omega), if_neg hs2, if_neg hs1]
        refine aw_seq (aw_region (EF := EF0) hG (by rw [hN]; exact tr32_6) ?_)
        simp only [a32_6, go_sem, ↓reduceIte, Nat.reduceEqDiff, reduceCtorEq, Nat.reduceAdd, Nat.reduceLT, Nat.reduceLeDiff, Nat.reduceBNe, Nat.reduceBEq, Int.reduceToNat, trVn, fNx_eq, fKn_eq]
        refine aw_ret ?_
        show Q _ _
        refine hQ _ _ (.inl rfl) ?_ ?_ ?_ <;> simp only [outφ, outV, AR.res, go_sem, ↓reduceIte, Nat.reduceEqDiff, reduceCtorEq, Nat.reduceAdd, Nat.reduceLT, Nat.reduceLeDiff, Nat.reduceBNe, Nat.reduceBEq, Int.reduceToNat, fVn, tupI, hm]
      · skip
        have hs1 : s = 1 := by (by_cases h : s = 1; exact h; simp [h] at hb5)
        subst hs1
        refine aw_skip ?_
        try simp only [go_sem, ↓reduceIte, Nat.reduceEqDiff, reduceCtorEq, Nat.reduceAdd, Nat.reduceLT, Nat.reduceLeDiff, Nat.reduceBNe, Nat.reduceBEq, Int.reduceToNat]
        refine aw_seq (aw_region (EF := EF0) hG (by rw [hN]; exact tr32_7) ?_)
        simp only [a32_7, go_sem, ↓reduceIte, Nat.reduceEqDiff, reduceCtorEq, Nat.reduceAdd, Nat.reduceLT, Nat.reduceLeDiff, Nat.reduceBNe, Nat.reduceBEq, Int.reduceToNat, trVn, fNx_eq, fKn_eq]
        (repeat' apply And.intro) <;> (try first | omega | ((fail_if_success refine idW ?_); (fail_if_success refine idS ?_); intros; (repeat' apply And.intro) <;> first | assumption | omega | (simp_all; done)))
        refine aw_ret ?_
        show Q _ _
        refine hQ _ _ (.inl rfl) ?_ ?_ ?_ <;> simp only [outφ, outV, AR.res, go_sem, ↓reduceIte, Nat.reduceEqDiff, reduceCtorEq, Nat.reduceAdd, Nat.reduceLT, Nat.reduceLeDiff, Nat.reduceBNe, Nat.reduceBEq, Int.reduceToNat, fVn]
        rfl
end Go.Proofs.YtffapkiilkeadaaDoor
