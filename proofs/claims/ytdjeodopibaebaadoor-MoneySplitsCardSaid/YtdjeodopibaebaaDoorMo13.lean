/- Parse of the reference. -/
import Derived.Test.YtdjeodopibaebaaDoorMo12
namespace Go.Proofs.YtdjeodopibaebaaDoor
open Go Go.RowKit
set_option linter.unusedSimpArgs false
set_option linter.unusedVariables false
set_option linter.deprecated false
/-- The first three of the faults. -/
def badA (t : List UInt8) : Bool := !decide (((t.getD (t.length - 3) 0).toNat : Int) = 46) || (decide (4 < t.length) && decide (((t.getD 0 0).toNat : Int) = 48))
theorem badT_eq {t : List UInt8} (h4 : 4 ≤ t.length) : badT t = (badA t || !allB digB (dig2 t)) := by
  unfold badT badA
  rw [decide_eq_false (show ¬ t.length < 4 by omega)]
  simp only [Bool.false_or, Bool.or_assoc]
theorem dig2_len {t : List UInt8} (h4 : 4 ≤ t.length) : (dig2 t).length + 1 = t.length := by unfold dig2; rw [List.length_append, List.length_take, List.length_drop]; omega
theorem dig2_get {t : List UInt8} {i j : Nat} (h4 : 4 ≤ t.length) (hi : i < t.length) (hr : i < t.length - 3 ∧ j = i ∨ t.length - 3 < i ∧ j + 1 = i) : (dig2 t).getD j 0 = t.getD i 0 := by
  unfold dig2
  have hl : (t.take (t.length - 3)).length = t.length - 3 := by rw [List.length_take]; omega
  rw [List.getD_eq_getElem?_getD, List.getD_eq_getElem?_getD]
  rcases hr with ⟨h1, rfl⟩ | ⟨h1, h2⟩
  · rw [List.getElem?_append_left (by omega), List.getElem?_take, if_pos (by omega)]
  · rw [List.getElem?_append_right (by omega), hl, List.getElem?_drop, show t.length - 2 + (j - (t.length - 3)) = i by omega]
theorem val_zero {t : List UInt8} (h4 : 4 ≤ t.length) (hb : badT t = false) (hv : valD 0 (dig2 t) = 0) : t = [48, 46, 48, 48] := by
  have hd := bad_dig hb
  rw [badT_eq h4] at hb
  have ha := (Bool.or_eq_false_iff.1 hb).1
  unfold badA at ha
  simp only [Bool.or_eq_false_iff, Bool.not_eq_false', decide_eq_true_eq, Bool.and_eq_false_iff, decide_eq_false_iff_not] at ha
  obtain ⟨h1, h2⟩ := ha
  have hlen := dig2_len h4
  obtain ⟨c, l, hcl⟩ := List.exists_cons_of_length_pos (show 0 < (dig2 t).length by omega)
  have hc0 : (dig2 t).getD 0 0 = t.getD 0 0 := dig2_get h4 (by omega) (.inl ⟨by omega, rfl⟩)
  rw [hcl] at hd hv hc0
  have hall : digB (c.toNat : Int) = true ∧ allB digB l = true := by simpa [allB] using hd
  have hcb := digB_iff.1 hall.1
  rw [valD] at hv
  have hm := valD_mono (n := 10 * 0 + ((c.toNat : Int) - 48)) hall.2 (by omega)
  have hc48 : (c.toNat : Int) = 48 := by omega
  have hlen4 : t.length = 4 := by
    rcases h2 with h2 | h2
    · omega
    · have : c = t.getD 0 0 := hc0
      rw [← this] at h2
      exact absurd hc48 h2
  match t, hlen4 with
  | [a, b, x, y], _ =>
    have hb46 : b.toNat = 46 := by have h3 : ((b.toNat : Nat) : Int) = 46 := h1; omega
    have hdd : dig2 [a, b, x, y] = [a, x, y] := rfl
    rw [hdd] at hcl
    injection hcl with e1 e2
    subst e1 e2
    have hxy : digB (x.toNat : Int) = true ∧ digB (y.toNat : Int) = true := by simpa [allB] using hall.2
    have hx := digB_iff.1 hxy.1
    have hy := digB_iff.1 hxy.2
    rw [valD, valD, valD] at hv
    have e0 : a = 48 := UInt8.toNat_inj.1 (by show a.toNat = 48; omega)
    have e1 : b = 46 := UInt8.toNat_inj.1 hb46
    have e2 : x = 48 := UInt8.toNat_inj.1 (by show x.toNat = 48; omega)
    have e3 : y = 48 := UInt8.toNat_inj.1 (by show y.toNat = 48; omega)
    rw [e0, e1, e2, e3]
theorem sgT_inv {s t : List UInt8} (h : sgT s = (-1, t)) : s = 45 :: t := by
  unfold sgT at h
  split at h
  · injection h with _ h; rw [h]
  · injection h with h; omega
theorem neg_zero {s t : List UInt8} {sg : Int} (h : sgT s = (sg, t)) (h3 : sg = 1 ∨ sg = -1) (h4 : 4 ≤ t.length) (hb : badT t = false) : decide (s = [45, 48, 46, 48, 48]) = (decide (valD 0 (dig2 t) = 0) && decide (sg < 0)) := by
  by_cases c : valD 0 (dig2 t) = 0
  · rw [decide_eq_true c, Bool.true_and]
    have ht := val_zero h4 hb c
    subst ht
    rcases h3 with rfl | rfl
    · refine decide_eq_decide.2 ⟨fun e => ?_, fun e => by omega⟩
      subst e; cases h
    · rw [sgT_inv h]; rfl
  · rw [decide_eq_false c, Bool.false_and]
    refine decide_eq_false fun e => c ?_
    subst e
    have : t = [48, 46, 48, 48] := by cases h; rfl
    subst this; rfl
set_option maxHeartbeats 4000000 in
theorem rparse_p : PureC Tryd.prog UT 24 (gOf aS fPar) := by
  have hG := tNo_ok
  refine PureC.ofArgs aS_inj Tryd.func24 body24 nm24 res24 ?_
  rintro s hv
  refine ⟨by rw [nt24]; simp [aS], fun C hN Q hQ => ?_⟩
  rw [nt24] at hN
  unfold c24
  replace hv : s.length ≤ 140737488355328 := hv
  refine aw_seq (aw_region (EF := EF0) hG (by rw [hN]; exact tr24_0) ?_)
  simp only [a24_0, go_sem, ↓reduceIte, Nat.reduceEqDiff, reduceCtorEq, Nat.reduceAdd, Nat.reduceLT, Nat.reduceLeDiff, Nat.reduceBNe, Nat.reduceBEq, Int.reduceToNat, aS, tNo]
  refine aw_seq (aw_region (EF := EF0) hG (by rw [hN]; exact tr24_1) ?_)
  simp only [a24_1, go_sem, ↓reduceIte, Nat.reduceEqDiff, reduceCtorEq, Nat.reduceAdd, Nat.reduceLT, Nat.reduceLeDiff, Nat.reduceBNe, Nat.reduceBEq, Int.reduceToNat, tNo]
  refine aw_cut (α := Int × (List UInt8)) (fun γ => (sgT s = (γ.1, γ.2)) ∧ (γ.2.length ≤ s.length) ∧ (γ.1 = 1 ∨ γ.1 = -1)) (fun γ => ⟨mkE [(4, .int .i64 γ.1), (5, .str γ.2)], mkH []⟩) ?_ ?_
  · intro KC2 hKC2
    refine aw_seq (aw_region (EF := EF0) hG (by rw [hN]; exact tr24_2) ?_)
    simp only [a24_2, go_sem, ↓reduceIte, Nat.reduceEqDiff, reduceCtorEq, Nat.reduceAdd, Nat.reduceLT, Nat.reduceLeDiff, Nat.reduceBNe, Nat.reduceBEq, Int.reduceToNat, tNo]
    (repeat' apply And.intro) <;> (try first | omega | ((fail_if_success (refine (id : AW _ _ _ _ _ → AW _ _ _ _ _) ?_)); (fail_if_success (refine (id : EStep _ _ _ _ _ _ _ → EStep _ _ _ _ _ _ _) ?_)); intros; (repeat' apply And.intro) <;> first | assumption | omega | (simp_all; done)) | (intro h2; refine ⟨h2, Int.le_refl _, ?_⟩; have h4 : 0 < s.length := (by simpa using h2); omega))
    refine aw_cond (b := _) rfl (fun hb2 => ?_) (fun hb2 => ?_)
    · skip
      have hb4 : 0 < s.length ∧ ((s.getD 0 0).toNat : Int) = 45 := by simpa using hb2
      have hb3 : s ≠ [] ∧ ((s.getD 0 0).toNat : Int) = 45 := ⟨List.length_pos_iff.1 hb4.1, hb4.2⟩
      have hlen := hb4.1
      refine aw_regionD (EF := EF0) hG mixed (by rw [hN]; exact tr24_3) ok24_3 ?_
      simp only [a24_3, d24_3, go_sem, ↓reduceIte, Nat.reduceEqDiff, reduceCtorEq, Nat.reduceAdd, Nat.reduceLT, Nat.reduceLeDiff, Nat.reduceBNe, Nat.reduceBEq, Int.reduceToNat, List.take_length, tNo]
      (repeat' apply And.intro) <;> (try first | omega | ((fail_if_success (refine (id : AW _ _ _ _ _ → AW _ _ _ _ _) ?_)); (fail_if_success (refine (id : EStep _ _ _ _ _ _ _ → EStep _ _ _ _ _ _ _) ?_)); intros; (repeat' apply And.intro) <;> first | assumption | omega | (simp_all; done)))
      refine hKC2 (-1, s.drop 1) _ ?_ ?_
      · (try dsimp only); exact ⟨sgT_neg hb3.1 hb3.2, by rw [List.length_drop]; omega, .inr rfl⟩
      · refine Le.mk _ _ ?_ ?_ rfl <;> simp only [go_sem, ↓reduceIte, Nat.reduceEqDiff, reduceCtorEq, Nat.reduceAdd, Nat.reduceLT, Nat.reduceLeDiff, Nat.reduceBNe, Nat.reduceBEq, Int.reduceToNat] <;> (repeat' apply And.intro) <;> (try first | rfl | exact wk_frzb rfl rfl rfl | exact wk_fn rfl | exact .nilo _ _ _ rfl rfl | exact wk_frzm rfl rfl (fun kv hk => by obtain ⟨_, _, rfl⟩ := List.mem_map.1 hk; rfl))
    · skip
      have hb3 : s = [] ∨ ((s.getD 0 0).toNat : Int) ≠ 45 := by simp only [Bool.and_eq_false_iff, decide_eq_false_iff_not] at hb2; rcases hb2 with h | h; exact .inl (List.eq_nil_of_length_eq_zero (by omega)); exact .inr h
      refine aw_skip ?_
      try simp only [go_sem, ↓reduceIte, Nat.reduceEqDiff, reduceCtorEq, Nat.reduceAdd, Nat.reduceLT, Nat.reduceLeDiff, Nat.reduceBNe, Nat.reduceBEq, Int.reduceToNat]
      refine hKC2 (1, s) _ ?_ ?_
      · (try dsimp only); exact ⟨sgT_pos hb3, Nat.le_refl _, .inl rfl⟩
      · refine Le.mk _ _ ?_ ?_ rfl <;> simp only [go_sem, ↓reduceIte, Nat.reduceEqDiff, reduceCtorEq, Nat.reduceAdd, Nat.reduceLT, Nat.reduceLeDiff, Nat.reduceBNe, Nat.reduceBEq, Int.reduceToNat] <;> (repeat' apply And.intro) <;> (try first | rfl | exact wk_frzb rfl rfl rfl | exact wk_fn rfl | exact .nilo _ _ _ rfl rfl | exact wk_frzm rfl rfl (fun kv hk => by obtain ⟨_, _, rfl⟩ := List.mem_map.1 hk; rfl))
  · rintro ⟨sg, t⟩ ⟨h1, h2, h3⟩
    try dsimp only at *
    refine aw_seq ?_
    have e1 : ((t.length : Int) - 3).toNat = t.length - 3 := by omega
    have n3 : decide (4 < (t.length : Int)) = decide (4 < t.length) := decide_eq_decide.2 (by omega)
    by_cases hk4 : 4 ≤ t.length
    · skip
      have hd : ((t.length : Int) < 4) = False := eq_false (by omega)
      have hbT := badT_eq hk4
      refine aw_seq (aw_region (EF := EF0) hG (by rw [hN]; exact tr24_4) ?_)
      simp only [a24_4, go_sem, ↓reduceIte, Nat.reduceEqDiff, reduceCtorEq, Nat.reduceAdd, Nat.reduceLT, Nat.reduceLeDiff, Nat.reduceBNe, Nat.reduceBEq, Int.reduceToNat, inI, tNo, hd, decide_false, e1]
      (repeat' apply And.intro) <;> (try first | omega | ((fail_if_success (refine (id : AW _ _ _ _ _ → AW _ _ _ _ _) ?_)); (fail_if_success (refine (id : EStep _ _ _ _ _ _ _ → EStep _ _ _ _ _ _ _) ?_)); intros; (repeat' apply And.intro) <;> first | assumption | omega | (simp_all; done)))
      refine aw_cond (b := _) rfl (fun hb5 => ?_) (fun hb5 => ?_)
      · skip
        have hbA : badA t = true := by unfold badA; rw [← n3]; exact hb5
        refine aw_seq (aw_region (EF := EF0) hG (by rw [hN]; exact tr24_5) ?_)
        simp only [a24_5, go_sem, ↓reduceIte, Nat.reduceEqDiff, reduceCtorEq, Nat.reduceAdd, Nat.reduceLT, Nat.reduceLeDiff, Nat.reduceBNe, Nat.reduceBEq, Int.reduceToNat, tNo]
        refine aw_ret ?_
        show Q _ _
        refine hQ _ _ (.inl rfl) ?_ ?_ ?_ <;> simp only [outφ, outV, AR.res, go_sem, ↓reduceIte, Nat.reduceEqDiff, reduceCtorEq, Nat.reduceAdd, Nat.reduceLT, Nat.reduceLeDiff, Nat.reduceBNe, Nat.reduceBEq, Int.reduceToNat, fPar]
        unfold parM; rw [h1, hbT, hbA]; rfl
      · skip
        have hbA : badA t = false := by unfold badA; rw [← n3]; exact hb5
        rw [hbA, Bool.false_or] at hbT
        have hdl := dig2_len hk4
        refine aw_skip ?_
        try simp only [go_sem, ↓reduceIte, Nat.reduceEqDiff, reduceCtorEq, Nat.reduceAdd, Nat.reduceLT, Nat.reduceLeDiff, Nat.reduceBNe, Nat.reduceBEq, Int.reduceToNat]
        refine aw_seq (aw_region (EF := EF0) hG (by rw [hN]; exact tr24_6) ?_)
        simp only [a24_6, go_sem, ↓reduceIte, Nat.reduceEqDiff, reduceCtorEq, Nat.reduceAdd, Nat.reduceLT, Nat.reduceLeDiff, Nat.reduceBNe, Nat.reduceBEq, Int.reduceToNat, tNo]
        refine aw_seq ?_
        refine aw_seq (aw_region (EF := EF0) hG (by rw [hN]; exact tr24_7) ?_)
        simp only [a24_7, go_sem, ↓reduceIte, Nat.reduceEqDiff, reduceCtorEq, Nat.reduceAdd, Nat.reduceLT, Nat.reduceLeDiff, Nat.reduceBNe, Nat.reduceBEq, Int.reduceToNat, tNo]
        refine aw_block ?_
        refine aw_loop (α := Nat × Nat × Int) (fun γ => (γ.1 ≤ t.length) ∧ (γ.1 ≤ t.length - 3 ∧ γ.2.1 = γ.1 ∨ t.length - 3 < γ.1 ∧ γ.2.1 + 1 = γ.1) ∧ (allB digB ((dig2 t).take γ.2.1) = true) ∧ (capD 0 (dig2 t) = capD γ.2.2 ((dig2 t).drop γ.2.1)) ∧ (0 ≤ γ.2.2) ∧ (γ.2.2 ≤ 1099511627777)) (fun γ => ⟨mkE [(4, V.int IntKind.i64 sg), (5, V.str t), (6, .int .i64 γ.2.2), (7, .int .i64 γ.1)], mkH []⟩) (fun γ => t.length - γ.1) (0, 0, 0) ⟨Nat.zero_le _, .inl ⟨Nat.zero_le _, rfl⟩, rfl, rfl, Int.le_refl _, by decide⟩ ?_ ?_
        · refine Le.mk _ _ ?_ ?_ rfl <;> simp only [go_sem, ↓reduceIte, Nat.reduceEqDiff, reduceCtorEq, Nat.reduceAdd, Nat.reduceLT, Nat.reduceLeDiff, Nat.reduceBNe, Nat.reduceBEq, Int.reduceToNat] <;> (repeat' apply And.intro) <;> (try first | rfl | exact wk_frzb rfl rfl rfl | exact wk_fn rfl | exact .nilo _ _ _ rfl rfl | exact wk_frzm rfl rfl (fun kv hk => by obtain ⟨_, _, rfl⟩ := List.mem_map.1 hk; rfl))
        · rintro ⟨i, j, n⟩ ⟨hi, hr, hp, g1, g2, g3⟩ KL0 hKL0
          try dsimp only at *
          refine aw_seq ?_
          refine aw_seq (aw_region (EF := EF0) hG (by rw [hN]; exact tr24_8) ?_)
          simp only [a24_8, go_sem, ↓reduceIte, Nat.reduceEqDiff, reduceCtorEq, Nat.reduceAdd, Nat.reduceLT, Nat.reduceLeDiff, Nat.reduceBNe, Nat.reduceBEq, Int.reduceToNat, tNo]
          refine aw_cond (b := _) rfl (fun hc8 => ?_) (fun hc8 => ?_)
          · simp only [decide_eq_true_eq, decide_eq_false_iff_not, Bool.and_eq_true, Bool.or_eq_true, Bool.not_eq_true', Bool.not_eq_false', Bool.and_eq_false_iff, Bool.or_eq_false_iff, Int.ofNat_lt, Int.ofNat_le, Nat.not_lt, Nat.not_le, Int.not_lt, Int.not_le] at hc8
            refine aw_skip ?_
            try simp only [go_sem, ↓reduceIte, Nat.reduceEqDiff, reduceCtorEq, Nat.reduceAdd, Nat.reduceLT, Nat.reduceLeDiff, Nat.reduceBNe, Nat.reduceBEq, Int.reduceToNat]
            refine aw_seq ?_
            refine aw_block ?_
            refine aw_seq ?_
            refine aw_seq (aw_region (EF := EF0) hG (by rw [hN]; exact tr24_10) ?_)
            simp only [a24_10, go_sem, ↓reduceIte, Nat.reduceEqDiff, reduceCtorEq, Nat.reduceAdd, Nat.reduceLT, Nat.reduceLeDiff, Nat.reduceBNe, Nat.reduceBEq, Int.reduceToNat, inI, tNo]
            (repeat' apply And.intro) <;> (try first | omega | ((fail_if_success (refine (id : AW _ _ _ _ _ → AW _ _ _ _ _) ?_)); (fail_if_success (refine (id : EStep _ _ _ _ _ _ _ → EStep _ _ _ _ _ _ _) ?_)); intros; (repeat' apply And.intro) <;> first | assumption | omega | (simp_all; done)))
            refine aw_cond (b := _) rfl (fun hb10 => ?_) (fun hb10 => ?_)
            · skip
              have hik : (i : Int) = (t.length : Int) - 3 := by simpa using hb10
              refine aw_exit ?_
              simp only [go_sem, ↓reduceIte, Nat.reduceEqDiff, reduceCtorEq, Nat.reduceAdd, Nat.reduceLT, Nat.reduceLeDiff, Nat.reduceBNe, Nat.reduceBEq, Int.reduceToNat]
              refine aw_region (EF := EF0) hG (by rw [hN]; exact tr24_9) ?_
              simp only [a24_9, go_sem, ↓reduceIte, Nat.reduceEqDiff, reduceCtorEq, Nat.reduceAdd, Nat.reduceLT, Nat.reduceLeDiff, Nat.reduceBNe, Nat.reduceBEq, Int.reduceToNat, inI, tNo]
              (repeat' apply And.intro) <;> (try first | omega | ((fail_if_success (refine (id : AW _ _ _ _ _ → AW _ _ _ _ _) ?_)); (fail_if_success (refine (id : EStep _ _ _ _ _ _ _ → EStep _ _ _ _ _ _ _) ?_)); intros; (repeat' apply And.intro) <;> first | assumption | omega | (simp_all; done)))
              refine hKL0 (i + 1, j, n) _ ?_ ?_ ?_
              · (try dsimp only); exact ⟨hc8, .inr ⟨by omega, by omega⟩, hp, g1, g2, g3⟩
              · (try dsimp only); omega
              · refine Le.mk _ _ ?_ ?_ rfl <;> simp only [go_sem, ↓reduceIte, Nat.reduceEqDiff, reduceCtorEq, Nat.reduceAdd, Nat.reduceLT, Nat.reduceLeDiff, Nat.reduceBNe, Nat.reduceBEq, Int.reduceToNat] <;> (repeat' apply And.intro) <;> (try first | rfl | exact wk_frzb rfl rfl rfl | exact wk_fn rfl | exact .nilo _ _ _ rfl rfl | exact wk_frzm rfl rfl (fun kv hk => by obtain ⟨_, _, rfl⟩ := List.mem_map.1 hk; rfl))
            · skip
              have hik0 : ¬ ((i : Int) = (t.length : Int) - 3) := by simpa using hb10
              have hij : i < t.length - 3 ∧ j = i ∨ t.length - 3 < i ∧ j + 1 = i := by omega
              have hjl : j < (dig2 t).length := by omega
              have hget := dig2_get hk4 hc8 hij
              have hdr : (dig2 t).drop j = (dig2 t).getD j 0 :: (dig2 t).drop (j + 1) := by rw [List.drop_eq_getElem_cons hjl, List.getD_eq_getElem?_getD, List.getElem?_eq_getElem hjl]; rfl
              obtain ⟨c, hc⟩ : ∃ c, c = ((t.getD i 0).toNat : Int) := ⟨_, rfl⟩
              refine aw_skip ?_
              try simp only [go_sem, ↓reduceIte, Nat.reduceEqDiff, reduceCtorEq, Nat.reduceAdd, Nat.reduceLT, Nat.reduceLeDiff, Nat.reduceBNe, Nat.reduceBEq, Int.reduceToNat]
              refine aw_seq ?_
              refine aw_seq (aw_region (EF := EF0) hG (by rw [hN]; exact tr24_11) ?_)
              simp only [a24_11, go_sem, ↓reduceIte, Nat.reduceEqDiff, reduceCtorEq, Nat.reduceAdd, Nat.reduceLT, Nat.reduceLeDiff, Nat.reduceBNe, Nat.reduceBEq, Int.reduceToNat, ← hc, tNo]
              (repeat' apply And.intro) <;> (try first | omega | ((fail_if_success (refine (id : AW _ _ _ _ _ → AW _ _ _ _ _) ?_)); (fail_if_success (refine (id : EStep _ _ _ _ _ _ _ → EStep _ _ _ _ _ _ _) ?_)); intros; (repeat' apply And.intro) <;> first | assumption | omega | (simp_all; done)))
              refine aw_cond (b := _) rfl (fun hb11 => ?_) (fun hb11 => ?_)
              · skip
                have hdn : digB (((dig2 t).getD j 0).toNat : Int) = false := by rw [hget, ← hc]; unfold digB; simp at hb11 ⊢; omega
                refine aw_seq (aw_region (EF := EF0) hG (by rw [hN]; exact tr24_12) ?_)
                simp only [a24_12, go_sem, ↓reduceIte, Nat.reduceEqDiff, reduceCtorEq, Nat.reduceAdd, Nat.reduceLT, Nat.reduceLeDiff, Nat.reduceBNe, Nat.reduceBEq, Int.reduceToNat, tNo]
                refine aw_ret ?_
                show Q _ _
                refine hQ _ _ (.inl rfl) ?_ ?_ ?_ <;> simp only [outφ, outV, AR.res, go_sem, ↓reduceIte, Nat.reduceEqDiff, reduceCtorEq, Nat.reduceAdd, Nat.reduceLT, Nat.reduceLeDiff, Nat.reduceBNe, Nat.reduceBEq, Int.reduceToNat, fPar]
                unfold parM; rw [h1, hbT, allB_no hjl hdn]; rfl
              · skip
                have hdn : digB (((dig2 t).getD j 0).toNat : Int) = true := by rw [hget, ← hc]; unfold digB; simp at hb11 ⊢; omega
                have hcb : 48 ≤ c ∧ c ≤ 57 := by rw [hget, ← hc] at hdn; unfold digB at hdn; simpa using hdn
                refine aw_skip ?_
                try simp only [go_sem, ↓reduceIte, Nat.reduceEqDiff, reduceCtorEq, Nat.reduceAdd, Nat.reduceLT, Nat.reduceLeDiff, Nat.reduceBNe, Nat.reduceBEq, Int.reduceToNat]
                have hk1 : inK .u8 (c - 48) := inK_u8.2 (by omega)
                have hk2 : inK .i64 (c - 48) := inK_i64.2 (by unfold inI; omega)
                rw [hdr, capD, hget, ← hc] at g1
                refine aw_region (EF := EF0) hG (by rw [hN]; exact tr24_13) ?_
                simp only [a24_13, go_sem, ↓reduceIte, Nat.reduceEqDiff, reduceCtorEq, Nat.reduceAdd, Nat.reduceLT, Nat.reduceLeDiff, Nat.reduceBNe, Nat.reduceBEq, Int.reduceToNat, inI, hk1, hk2, ← hc, tNo]
                (repeat' apply And.intro) <;> (try first | omega | ((fail_if_success (refine (id : AW _ _ _ _ _ → AW _ _ _ _ _) ?_)); (fail_if_success (refine (id : EStep _ _ _ _ _ _ _ → EStep _ _ _ _ _ _ _) ?_)); intros; (repeat' apply And.intro) <;> first | assumption | omega | (simp_all; done)))
                refine aw_region (EF := EF0) hG (by rw [hN]; exact tr24_9) ?_
                simp only [a24_9, go_sem, ↓reduceIte, Nat.reduceEqDiff, reduceCtorEq, Nat.reduceAdd, Nat.reduceLT, Nat.reduceLeDiff, Nat.reduceBNe, Nat.reduceBEq, Int.reduceToNat, inI, tNo]
                (repeat' apply And.intro) <;> (try first | omega | ((fail_if_success (refine (id : AW _ _ _ _ _ → AW _ _ _ _ _) ?_)); (fail_if_success (refine (id : EStep _ _ _ _ _ _ _ → EStep _ _ _ _ _ _ _) ?_)); intros; (repeat' apply And.intro) <;> first | assumption | omega | (simp_all; done)))
                refine hKL0 (i + 1, j + 1, min (10 * n + (c - 48)) 1099511627777) _ ?_ ?_ ?_
                · (try dsimp only); exact ⟨hc8, by omega, allB_step hjl hp hdn, g1, by omega, by omega⟩
                · (try dsimp only); omega
                · refine Le.mk _ _ ?_ ?_ rfl <;> simp only [go_sem, ↓reduceIte, Nat.reduceEqDiff, reduceCtorEq, Nat.reduceAdd, Nat.reduceLT, Nat.reduceLeDiff, Nat.reduceBNe, Nat.reduceBEq, Int.reduceToNat] <;> (repeat' apply And.intro) <;> (try first | rfl | exact wk_frzb rfl rfl rfl | exact wk_fn rfl | exact .nilo _ _ _ rfl rfl | exact wk_frzm rfl rfl (fun kv hk => by obtain ⟨_, _, rfl⟩ := List.mem_map.1 hk; rfl))
          · simp only [decide_eq_true_eq, decide_eq_false_iff_not, Bool.and_eq_true, Bool.or_eq_true, Bool.not_eq_true', Bool.not_eq_false', Bool.and_eq_false_iff, Bool.or_eq_false_iff, Int.ofNat_lt, Int.ofNat_le, Nat.not_lt, Nat.not_le, Int.not_lt, Int.not_le] at hc8
            have hjd : j = (dig2 t).length := by omega
            subst hjd
            rw [List.take_length] at hp
            rw [List.drop_length, capD] at g1
            rw [hp] at hbT
            have hcv := capD_val (n := 0) hp (Int.le_refl 0)
            rw [show min (0 : Int) 1099511627777 = 0 by decide, g1] at hcv
            have hv0 := valD_mono (n := 0) hp (Int.le_refl 0)
            have hnz := neg_zero h1 h3 hk4 hbT
            obtain ⟨v, hvv⟩ : ∃ v, v = valD 0 (dig2 t) := ⟨_, rfl⟩
            rw [← hvv] at hcv hv0 hnz
            refine aw_exit ?_
            simp only [go_sem, ↓reduceIte, Nat.reduceEqDiff, reduceCtorEq, Nat.reduceAdd, Nat.reduceLT, Nat.reduceLeDiff, Nat.reduceBNe, Nat.reduceBEq, Int.reduceToNat]
            refine aw_seq ?_
            refine aw_seq (aw_region (EF := EF0) hG (by rw [hN]; exact tr24_14) ?_)
            simp only [a24_14, go_sem, ↓reduceIte, Nat.reduceEqDiff, reduceCtorEq, Nat.reduceAdd, Nat.reduceLT, Nat.reduceLeDiff, Nat.reduceBNe, Nat.reduceBEq, Int.reduceToNat, tNo]
            (repeat' apply And.intro) <;> (try first | omega | ((fail_if_success (refine (id : AW _ _ _ _ _ → AW _ _ _ _ _) ?_)); (fail_if_success (refine (id : EStep _ _ _ _ _ _ _ → EStep _ _ _ _ _ _ _) ?_)); intros; (repeat' apply And.intro) <;> first | assumption | omega | (simp_all; done)))
            refine aw_cond (b := _) rfl (fun hb14 => ?_) (fun hb14 => ?_)
            · skip
              have hz : decide (s = [45, 48, 46, 48, 48]) = true := by rw [hnz, ← hb14]; congr 2; exact propext ⟨fun h => by omega, fun h => by omega⟩
              refine aw_seq (aw_region (EF := EF0) hG (by rw [hN]; exact tr24_15) ?_)
              simp only [a24_15, go_sem, ↓reduceIte, Nat.reduceEqDiff, reduceCtorEq, Nat.reduceAdd, Nat.reduceLT, Nat.reduceLeDiff, Nat.reduceBNe, Nat.reduceBEq, Int.reduceToNat, tNo]
              refine aw_ret ?_
              show Q _ _
              refine hQ _ _ (.inl rfl) ?_ ?_ ?_ <;> simp only [outφ, outV, AR.res, go_sem, ↓reduceIte, Nat.reduceEqDiff, reduceCtorEq, Nat.reduceAdd, Nat.reduceLT, Nat.reduceLeDiff, Nat.reduceBNe, Nat.reduceBEq, Int.reduceToNat, fPar]
              unfold parM; rw [h1, hbT, hz]; rfl
            · skip
              have hz : decide (s = [45, 48, 46, 48, 48]) = false := by rw [hnz, ← hb14]; congr 2; exact propext ⟨fun h => by omega, fun h => by omega⟩
              have hpm : parM s = if 1099511627776 < v then (0, 11) else (sg * v, 0) := by unfold parM; rw [h1, hbT, hz, ← hvv]; rfl
              refine aw_skip ?_
              try simp only [go_sem, ↓reduceIte, Nat.reduceEqDiff, reduceCtorEq, Nat.reduceAdd, Nat.reduceLT, Nat.reduceLeDiff, Nat.reduceBNe, Nat.reduceBEq, Int.reduceToNat]
              refine aw_seq ?_
              refine aw_seq (aw_region (EF := EF0) hG (by rw [hN]; exact tr24_16) ?_)
              simp only [a24_16, go_sem, ↓reduceIte, Nat.reduceEqDiff, reduceCtorEq, Nat.reduceAdd, Nat.reduceLT, Nat.reduceLeDiff, Nat.reduceBNe, Nat.reduceBEq, Int.reduceToNat, tNo]
              refine aw_cond (b := _) rfl (fun hc16 => ?_) (fun hc16 => ?_)
              · simp only [decide_eq_true_eq, decide_eq_false_iff_not, Bool.and_eq_true, Bool.or_eq_true, Bool.not_eq_true', Bool.not_eq_false', Bool.and_eq_false_iff, Bool.or_eq_false_iff, Int.ofNat_lt, Int.ofNat_le, Nat.not_lt, Nat.not_le, Int.not_lt, Int.not_le] at hc16
                refine aw_seq (aw_region (EF := EF0) hG (by rw [hN]; exact tr24_17) ?_)
                simp only [a24_17, go_sem, ↓reduceIte, Nat.reduceEqDiff, reduceCtorEq, Nat.reduceAdd, Nat.reduceLT, Nat.reduceLeDiff, Nat.reduceBNe, Nat.reduceBEq, Int.reduceToNat, tNo]
                refine aw_ret ?_
                show Q _ _
                refine hQ _ _ (.inl rfl) ?_ ?_ ?_ <;> simp only [outφ, outV, AR.res, go_sem, ↓reduceIte, Nat.reduceEqDiff, reduceCtorEq, Nat.reduceAdd, Nat.reduceLT, Nat.reduceLeDiff, Nat.reduceBNe, Nat.reduceBEq, Int.reduceToNat, fPar]
                rw [hpm, if_pos (by omega)]; rfl
              · simp only [decide_eq_true_eq, decide_eq_false_iff_not, Bool.and_eq_true, Bool.or_eq_true, Bool.not_eq_true', Bool.not_eq_false', Bool.and_eq_false_iff, Bool.or_eq_false_iff, Int.ofNat_lt, Int.ofNat_le, Nat.not_lt, Nat.not_le, Int.not_lt, Int.not_le] at hc16
                have hnv : n = v := by omega
                subst hnv
                refine aw_skip ?_
                try simp only [go_sem, ↓reduceIte, Nat.reduceEqDiff, reduceCtorEq, Nat.reduceAdd, Nat.reduceLT, Nat.reduceLeDiff, Nat.reduceBNe, Nat.reduceBEq, Int.reduceToNat]
                have hsn : -9223372036854775808 ≤ sg * n ∧ sg * n ≤ 9223372036854775807 := by rcases h3 with h | h <;> rw [h] <;> omega
                refine aw_seq (aw_region (EF := EF0) hG (by rw [hN]; exact tr24_18) ?_)
                simp only [a24_18, go_sem, ↓reduceIte, Nat.reduceEqDiff, reduceCtorEq, Nat.reduceAdd, Nat.reduceLT, Nat.reduceLeDiff, Nat.reduceBNe, Nat.reduceBEq, Int.reduceToNat, inI, tNo]
                (repeat' apply And.intro) <;> (try first | omega | ((fail_if_success (refine (id : AW _ _ _ _ _ → AW _ _ _ _ _) ?_)); (fail_if_success (refine (id : EStep _ _ _ _ _ _ _ → EStep _ _ _ _ _ _ _) ?_)); intros; (repeat' apply And.intro) <;> first | assumption | omega | (simp_all; done)))
                refine aw_ret ?_
                show Q _ _
                refine hQ _ _ (.inl rfl) ?_ ?_ ?_ <;> simp only [outφ, outV, AR.res, go_sem, ↓reduceIte, Nat.reduceEqDiff, reduceCtorEq, Nat.reduceAdd, Nat.reduceLT, Nat.reduceLeDiff, Nat.reduceBNe, Nat.reduceBEq, Int.reduceToNat, fPar]
                rw [hpm, if_neg (by omega)]; rfl
    · skip
      have hd : ((t.length : Int) < 4) = True := eq_true (by omega)
      have hpm3 : parM s = (0, 3) := by unfold parM badT; rw [h1, decide_eq_true (show t.length < 4 by omega)]; rfl
      refine aw_seq (aw_region (EF := EF0) hG (by rw [hN]; exact tr24_4) ?_)
      simp only [a24_4, go_sem, ↓reduceIte, Nat.reduceEqDiff, reduceCtorEq, Nat.reduceAdd, Nat.reduceLT, Nat.reduceLeDiff, Nat.reduceBNe, Nat.reduceBEq, Int.reduceToNat, inI, tNo, hd, decide_true, e1]
      (repeat' apply And.intro) <;> (try first | omega | ((fail_if_success (refine (id : AW _ _ _ _ _ → AW _ _ _ _ _) ?_)); (fail_if_success (refine (id : EStep _ _ _ _ _ _ _ → EStep _ _ _ _ _ _ _) ?_)); intros; (repeat' apply And.intro) <;> first | assumption | omega | (simp_all; done)))
      refine aw_condT rfl ?_
      refine aw_seq (aw_region (EF := EF0) hG (by rw [hN]; exact tr24_5) ?_)
      simp only [a24_5, go_sem, ↓reduceIte, Nat.reduceEqDiff, reduceCtorEq, Nat.reduceAdd, Nat.reduceLT, Nat.reduceLeDiff, Nat.reduceBNe, Nat.reduceBEq, Int.reduceToNat, tNo]
      refine aw_ret ?_
      show Q _ _
      refine hQ _ _ (.inl rfl) ?_ ?_ ?_ <;> simp only [outφ, outV, AR.res, go_sem, ↓reduceIte, Nat.reduceEqDiff, reduceCtorEq, Nat.reduceAdd, Nat.reduceLT, Nat.reduceLeDiff, Nat.reduceBNe, Nat.reduceBEq, Int.reduceToNat, fPar]
      rw [hpm3]; rfl
end Go.Proofs.YtdjeodopibaebaaDoor
