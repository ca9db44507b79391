/- The law Middles. -/
import Derived.Test.YtemeeeomcjdlnaaDoorBa12
namespace Go.Proofs.YtemeeeomcjdlnaaDoor
open Go Go.RowKit
set_option linter.unusedSimpArgs false
set_option linter.unusedVariables false
set_option linter.deprecated false
def aTPP (x : Trim × Point × Point) : List V := [.agg x.1.enc, .agg x.2.1.enc, .agg x.2.2.enc]
theorem aTPP_inj (a b : Trim × Point × Point) (h : aTPP a = aTPP b) : a = b := by
  obtain ⟨a_t, a_x, a_y⟩ := a
  obtain ⟨b_t, b_x, b_y⟩ := b
  simp only [aTPP, List.cons.injEq, V.str.injEq, V.int.injEq, V.bool.injEq, V.agg.injEq, V.list.injEq, and_true, true_and] at h
  obtain ⟨h0, h1, h2⟩ := h
  replace h0 := Trim.inj _ _ h0
  subst h0
  replace h1 := Point.inj _ _ h1
  subst h1
  replace h2 := Point.inj _ _ h2
  subst h2
  rfl
theorem half {a : Int} (h : a.tmod 2 = 0) : 2 * a.tdiv 2 = a := by have := Int.mul_tdiv_add_tmod a 2; omega
theorem corner_at {l : List Point} (h : ValidL l) {m : Nat} (hm : m < l.length) : insideB l ⟨l[m].weight, l[m].index⟩ = true := corner_in h hm
def fLaw4 (x : Trim × Point × Point) : Prop × V := (x.1.ok ∧ x.2.1.ok ∧ x.2.2.ok, .bool true)
set_option maxHeartbeats 4000000 in
theorem law4_p : PureC Tryd.prog UT 6 (gOf aTPP fLaw4) := by
  have hG := tL_ok
  refine PureC.ofArgs aTPP_inj Tryd.func6 body6 nm6 res6 ?_
  rintro ⟨⟨em, ix, bs, en⟩, ⟨xw, xi⟩, ⟨yw, yi⟩⟩ hv
  refine ⟨by rw [nt6]; simp [aTPP], fun C hN Q hQ => ?_⟩
  rw [nt6] at hN
  unfold c6
  obtain ⟨hv, hx, hy⟩ : (⟨em, ix, bs, en⟩ : Trim).ok ∧ (⟨xw, xi⟩ : Point).ok ∧ (⟨yw, yi⟩ : Point).ok := hv
  refine aw_seq (aw_region (EF := EF0) hG (by rw [hN]; exact tr6_0) ?_)
  simp only [a6_0, go_sem, ↓reduceIte, Nat.reduceEqDiff, reduceCtorEq, Nat.reduceAdd, Nat.reduceLT, Nat.reduceLeDiff, Nat.reduceBNe, Nat.reduceBEq, Int.reduceToNat, aTPP, Trim.enc, Point.enc, tL, fTrue_eq]
  refine aw_seq ?_
  have hs := fun h => sz_of (t := ⟨em, ix, bs, en⟩) h
  have hln := fun h => chk_len (t := ⟨em, ix, bs, en⟩) (sz_of h)
  by_cases hbg : bigT ⟨em, ix, bs, en⟩ = true
  · skip
    refine aw_seq (aw_region (EF := EF0) hG (by rw [hN]; exact tr6_1) ?_)
    simp only [a6_1, go_sem, ↓reduceIte, Nat.reduceEqDiff, reduceCtorEq, Nat.reduceAdd, Nat.reduceLT, Nat.reduceLeDiff, Nat.reduceBNe, Nat.reduceBEq, Int.reduceToNat, fBig_eq, hv, hbg, fChk_eq, tL, fTrue_eq]
    (repeat' apply And.intro) <;> (try first | omega | (intros; (repeat' apply And.intro) <;> first | assumption | omega | (simp_all; done)))
    refine aw_condT rfl ?_
    refine aw_seq (aw_region (EF := EF0) hG (by rw [hN]; exact tr6_2) ?_)
    simp only [a6_2, go_sem, ↓reduceIte, Nat.reduceEqDiff, reduceCtorEq, Nat.reduceAdd, Nat.reduceLT, Nat.reduceLeDiff, Nat.reduceBNe, Nat.reduceBEq, Int.reduceToNat, tL, fTrue_eq]
    (repeat' apply And.intro) <;> (try first | omega | (intros; (repeat' apply And.intro) <;> first | assumption | omega | (simp_all; done)))
    refine aw_ret ?_
    show Q _ _
    refine hQ _ _ (.inl rfl) ?_ ?_ ?_ <;> simp only [outφ, outV, AR.res, go_sem, ↓reduceIte, Nat.reduceEqDiff, reduceCtorEq, Nat.reduceAdd, Nat.reduceLT, Nat.reduceLeDiff, Nat.reduceBNe, Nat.reduceBEq, Int.reduceToNat, fLaw4]
  · skip
    replace hbg := Bool.eq_false_iff.2 hbg
    replace hs := hs hbg
    replace hln := hln hbg
    refine aw_seq (aw_region (EF := EF0) hG (by rw [hN]; exact tr6_1) ?_)
    simp only [a6_1, go_sem, ↓reduceIte, Nat.reduceEqDiff, reduceCtorEq, Nat.reduceAdd, Nat.reduceLT, Nat.reduceLeDiff, Nat.reduceBNe, Nat.reduceBEq, Int.reduceToNat, fBig_eq, hv, hbg, fChk_eq, tL, fTrue_eq, hs]
    (repeat' apply And.intro) <;> (try first | omega | (intros; (repeat' apply And.intro) <;> first | assumption | omega | (simp_all; done)))
    refine aw_cond (b := _) rfl (fun hb => ?_) (fun hb => ?_)
    · skip
      refine aw_seq (aw_region (EF := EF0) hG (by rw [hN]; exact tr6_2) ?_)
      simp only [a6_2, go_sem, ↓reduceIte, Nat.reduceEqDiff, reduceCtorEq, Nat.reduceAdd, Nat.reduceLT, Nat.reduceLeDiff, Nat.reduceBNe, Nat.reduceBEq, Int.reduceToNat, tL, fTrue_eq]
      (repeat' apply And.intro) <;> (try first | omega | (intros; (repeat' apply And.intro) <;> first | assumption | omega | (simp_all; done)))
      refine aw_ret ?_
      show Q _ _
      refine hQ _ _ (.inl rfl) ?_ ?_ ?_ <;> simp only [outφ, outV, AR.res, go_sem, ↓reduceIte, Nat.reduceEqDiff, reduceCtorEq, Nat.reduceAdd, Nat.reduceLT, Nat.reduceLeDiff, Nat.reduceBNe, Nat.reduceBEq, Int.reduceToNat, fLaw4]
    · skip
      have htr := none_of hb
      have hvl : ValidL en := ⟨htr.2.2.2.2.1, htr.2.2.2.2.2.2⟩
      have hel := hvl.1.2.1
      refine aw_skip ?_
      simp only [go_sem, ↓reduceIte, Nat.reduceEqDiff, reduceCtorEq, Nat.reduceAdd, Nat.reduceLT, Nat.reduceLeDiff, Nat.reduceBNe, Nat.reduceBEq, Int.reduceToNat]
      refine aw_seq ?_
      refine aw_seq (aw_region (EF := EF0) hG (by rw [hN]; exact tr6_3) ?_)
      simp only [a6_3, go_sem, ↓reduceIte, Nat.reduceEqDiff, reduceCtorEq, Nat.reduceAdd, Nat.reduceLT, Nat.reduceLeDiff, Nat.reduceBNe, Nat.reduceBEq, Int.reduceToNat, tL, fTrue_eq]
      refine aw_block ?_
      refine aw_loop (α := Nat) (fun i => (i ≤ en.length)) (fun i => ⟨mkE [(3, V.ptr 3 0), (4, V.ptr 4 0), (5, V.ptr 5 0), (7, .int .i64 i)], mkH [(3, Ob.box 25 [V.int IntKind.i64 em, V.int IntKind.i64 ix, V.list (List.map Bay.enc bs) false, V.list (List.map Point.enc en) false]), (4, Ob.box 33 [V.int IntKind.i64 xw, V.int IntKind.i64 xi]), (5, Ob.box 33 [V.int IntKind.i64 yw, V.int IntKind.i64 yi])]⟩) (fun i => en.length - i) 0 (by simp) ?_ ?_
      · refine Le.mk _ _ ?_ ?_ rfl <;> simp only [go_sem, ↓reduceIte, Nat.reduceEqDiff, reduceCtorEq, Nat.reduceAdd, Nat.reduceLT, Nat.reduceLeDiff, Nat.reduceBNe, Nat.reduceBEq, Int.reduceToNat] <;> (repeat' apply And.intro) <;> (try first | rfl | exact wk_frzb rfl rfl rfl | exact wk_fn rfl | exact .nilo _ _ _ rfl rfl)
      · rintro i hi KL0 hKL0
        try dsimp only at *
        refine aw_seq ?_
        refine aw_seq (aw_region (EF := EF0) hG (by rw [hN]; exact tr6_4) ?_)
        simp only [a6_4, go_sem, ↓reduceIte, Nat.reduceEqDiff, reduceCtorEq, Nat.reduceAdd, Nat.reduceLT, Nat.reduceLeDiff, Nat.reduceBNe, Nat.reduceBEq, Int.reduceToNat, tL, fTrue_eq]
        refine aw_cond (b := _) rfl (fun hc4 => ?_) (fun hc4 => ?_)
        · simp only [decide_eq_true_eq, decide_eq_false_iff_not, Bool.and_eq_true, Bool.or_eq_true, Bool.not_eq_true', Bool.not_eq_false', Bool.and_eq_false_iff, Bool.or_eq_false_iff, Int.ofNat_lt, Int.ofNat_le, Nat.not_lt, Nat.not_le, Int.not_lt, Int.not_le] at hc4
          refine aw_skip ?_
          simp only [go_sem, ↓reduceIte, Nat.reduceEqDiff, reduceCtorEq, Nat.reduceAdd, Nat.reduceLT, Nat.reduceLeDiff, Nat.reduceBNe, Nat.reduceBEq, Int.reduceToNat]
          refine aw_seq ?_
          refine aw_block ?_
          have hci := corner_at hvl hc4
          refine aw_seq (aw_regionD (EF := EF0) hG mixed (by rw [hN]; exact tr6_6) ok6_6 ?_)
          simp only [a6_6, d6_6, go_sem, ↓reduceIte, Nat.reduceEqDiff, reduceCtorEq, Nat.reduceAdd, Nat.reduceLT, Nat.reduceLeDiff, Nat.reduceBNe, Nat.reduceBEq, Int.reduceToNat, getD_mapd _ _ _ _ hc4, hc4, Point.enc, fIn_eq, hvl, hci, tL, fTrue_eq]
          (repeat' apply And.intro) <;> (try first | omega | (intros; (repeat' apply And.intro) <;> first | assumption | omega | (simp_all; done)))
          refine aw_condF rfl ?_
          refine aw_skip ?_
          simp only [go_sem, ↓reduceIte, Nat.reduceEqDiff, reduceCtorEq, Nat.reduceAdd, Nat.reduceLT, Nat.reduceLeDiff, Nat.reduceBNe, Nat.reduceBEq, Int.reduceToNat]
          refine aw_region (EF := EF0) hG (by rw [hN]; exact tr6_5) ?_
          simp only [a6_5, go_sem, ↓reduceIte, Nat.reduceEqDiff, reduceCtorEq, Nat.reduceAdd, Nat.reduceLT, Nat.reduceLeDiff, Nat.reduceBNe, Nat.reduceBEq, Int.reduceToNat, inI, tL, fTrue_eq]
          (repeat' apply And.intro) <;> (try first | omega | (intros; (repeat' apply And.intro) <;> first | assumption | omega | (simp_all; done)))
          refine hKL0 (i + 1) _ ?_ ?_ ?_
          · (try dsimp only); first | (refine ⟨?_, ?_⟩ <;> first | omega | assumption) | omega | trivial
          · (try dsimp only); omega
          · refine Le.mk _ _ ?_ ?_ rfl <;> simp only [go_sem, ↓reduceIte, Nat.reduceEqDiff, reduceCtorEq, Nat.reduceAdd, Nat.reduceLT, Nat.reduceLeDiff, Nat.reduceBNe, Nat.reduceBEq, Int.reduceToNat] <;> (repeat' apply And.intro) <;> (try first | rfl | exact wk_frzb rfl rfl rfl | exact wk_fn rfl | exact .nilo _ _ _ rfl rfl)
        · simp only [decide_eq_true_eq, decide_eq_false_iff_not, Bool.and_eq_true, Bool.or_eq_true, Bool.not_eq_true', Bool.not_eq_false', Bool.and_eq_false_iff, Bool.or_eq_false_iff, Int.ofNat_lt, Int.ofNat_le, Nat.not_lt, Nat.not_le, Int.not_lt, Int.not_le] at hc4
          refine aw_exit ?_
          simp only [go_sem, ↓reduceIte, Nat.reduceEqDiff, reduceCtorEq, Nat.reduceAdd, Nat.reduceLT, Nat.reduceLeDiff, Nat.reduceBNe, Nat.reduceBEq, Int.reduceToNat]
          refine aw_seq ?_
          by_cases h8a : insideB en ⟨xw, xi⟩ = true
          · skip
            by_cases h8b : insideB en ⟨yw, yi⟩ = true
            · skip
              have hbd : insideB en ⟨xw, xi⟩ = true → fineP ⟨xw, xi⟩ ∧ fineP ⟨yw, yi⟩ := fun h => ⟨(fineB_iff _).1 (in_edges hvl h).1, (fineB_iff _).1 (in_edges hvl h8b).1⟩
              simp [h8a, fineP] at hbd
              refine aw_seq (aw_region (EF := EF0) hG (by rw [hN]; exact tr6_8) ?_)
              simp only [a6_8, go_sem, ↓reduceIte, Nat.reduceEqDiff, reduceCtorEq, Nat.reduceAdd, Nat.reduceLT, Nat.reduceLeDiff, Nat.reduceBNe, Nat.reduceBEq, Int.reduceToNat, inI, fIn_eq, hvl, h8a, h8b, tL, fTrue_eq]
              (repeat' apply And.intro) <;> (try first | omega | (intros; (repeat' apply And.intro) <;> first | assumption | omega | (simp_all; done)))
              refine aw_cond (b := _) rfl (fun hb8 => ?_) (fun hb8 => ?_)
              · skip
                refine aw_seq (aw_region (EF := EF0) hG (by rw [hN]; exact tr6_9) ?_)
                simp only [a6_9, go_sem, ↓reduceIte, Nat.reduceEqDiff, reduceCtorEq, Nat.reduceAdd, Nat.reduceLT, Nat.reduceLeDiff, Nat.reduceBNe, Nat.reduceBEq, Int.reduceToNat, tL, fTrue_eq]
                (repeat' apply And.intro) <;> (try first | omega | (intros; (repeat' apply And.intro) <;> first | assumption | omega | (simp_all; done)))
                refine aw_ret ?_
                show Q _ _
                refine hQ _ _ (.inl rfl) ?_ ?_ ?_ <;> simp only [outφ, outV, AR.res, go_sem, ↓reduceIte, Nat.reduceEqDiff, reduceCtorEq, Nat.reduceAdd, Nat.reduceLT, Nat.reduceLeDiff, Nat.reduceBNe, Nat.reduceBEq, Int.reduceToNat, fLaw4]
              · skip
                refine aw_skip ?_
                simp only [go_sem, ↓reduceIte, Nat.reduceEqDiff, reduceCtorEq, Nat.reduceAdd, Nat.reduceLT, Nat.reduceLeDiff, Nat.reduceBNe, Nat.reduceBEq, Int.reduceToNat]
                simp only [Bool.or_eq_false_iff, Bool.not_eq_false', decide_eq_true_eq] at hb8
                obtain ⟨t1, t2⟩ := hb8
                have z1 := half t1
                have z2 := half t2
                have hmid := middle_in (z := ⟨(xw + yw).tdiv 2, (xi + yi).tdiv 2⟩) hvl h8a h8b z1 z2
                refine aw_seq (aw_region (EF := EF0) hG (by rw [hN]; exact tr6_10) ?_)
                simp only [a6_10, go_sem, ↓reduceIte, Nat.reduceEqDiff, reduceCtorEq, Nat.reduceAdd, Nat.reduceLT, Nat.reduceLeDiff, Nat.reduceBNe, Nat.reduceBEq, Int.reduceToNat, inI, fIn_eq, hvl, hmid, tL, fTrue_eq]
                (repeat' apply And.intro) <;> (try first | omega | (intros; (repeat' apply And.intro) <;> first | assumption | omega | (simp_all; done)))
                refine aw_ret ?_
                show Q _ _
                refine hQ _ _ (.inl rfl) ?_ ?_ ?_ <;> simp only [outφ, outV, AR.res, go_sem, ↓reduceIte, Nat.reduceEqDiff, reduceCtorEq, Nat.reduceAdd, Nat.reduceLT, Nat.reduceLeDiff, Nat.reduceBNe, Nat.reduceBEq, Int.reduceToNat, fLaw4]
            · skip
              replace h8b := Bool.eq_false_iff.2 h8b
              refine aw_seq (aw_region (EF := EF0) hG (by rw [hN]; exact tr6_8) ?_)
              simp only [a6_8, go_sem, ↓reduceIte, Nat.reduceEqDiff, reduceCtorEq, Nat.reduceAdd, Nat.reduceLT, Nat.reduceLeDiff, Nat.reduceBNe, Nat.reduceBEq, Int.reduceToNat, inI, fIn_eq, hvl, h8a, h8b, tL, fTrue_eq]
              (repeat' apply And.intro) <;> (try first | omega | (intros; (repeat' apply And.intro) <;> first | assumption | omega | (simp_all; done)))
              refine aw_condT rfl ?_
              refine aw_seq (aw_region (EF := EF0) hG (by rw [hN]; exact tr6_9) ?_)
              simp only [a6_9, go_sem, ↓reduceIte, Nat.reduceEqDiff, reduceCtorEq, Nat.reduceAdd, Nat.reduceLT, Nat.reduceLeDiff, Nat.reduceBNe, Nat.reduceBEq, Int.reduceToNat, tL, fTrue_eq]
              (repeat' apply And.intro) <;> (try first | omega | (intros; (repeat' apply And.intro) <;> first | assumption | omega | (simp_all; done)))
              refine aw_ret ?_
              show Q _ _
              refine hQ _ _ (.inl rfl) ?_ ?_ ?_ <;> simp only [outφ, outV, AR.res, go_sem, ↓reduceIte, Nat.reduceEqDiff, reduceCtorEq, Nat.reduceAdd, Nat.reduceLT, Nat.reduceLeDiff, Nat.reduceBNe, Nat.reduceBEq, Int.reduceToNat, fLaw4]
          · skip
            replace h8a := Bool.eq_false_iff.2 h8a
            by_cases h8b : insideB en ⟨yw, yi⟩ = true
            · skip
              have hbd : insideB en ⟨xw, xi⟩ = true → fineP ⟨xw, xi⟩ ∧ fineP ⟨yw, yi⟩ := fun h => ⟨(fineB_iff _).1 (in_edges hvl h).1, (fineB_iff _).1 (in_edges hvl h8b).1⟩
              simp [h8a, fineP] at hbd
              refine aw_seq (aw_region (EF := EF0) hG (by rw [hN]; exact tr6_8) ?_)
              simp only [a6_8, go_sem, ↓reduceIte, Nat.reduceEqDiff, reduceCtorEq, Nat.reduceAdd, Nat.reduceLT, Nat.reduceLeDiff, Nat.reduceBNe, Nat.reduceBEq, Int.reduceToNat, inI, fIn_eq, hvl, h8a, h8b, tL, fTrue_eq]
              (repeat' apply And.intro) <;> (try first | omega | (intros; (repeat' apply And.intro) <;> first | assumption | omega | (simp_all; done)))
              refine aw_condT rfl ?_
              refine aw_seq (aw_region (EF := EF0) hG (by rw [hN]; exact tr6_9) ?_)
              simp only [a6_9, go_sem, ↓reduceIte, Nat.reduceEqDiff, reduceCtorEq, Nat.reduceAdd, Nat.reduceLT, Nat.reduceLeDiff, Nat.reduceBNe, Nat.reduceBEq, Int.reduceToNat, tL, fTrue_eq]
              (repeat' apply And.intro) <;> (try first | omega | (intros; (repeat' apply And.intro) <;> first | assumption | omega | (simp_all; done)))
              refine aw_ret ?_
              show Q _ _
              refine hQ _ _ (.inl rfl) ?_ ?_ ?_ <;> simp only [outφ, outV, AR.res, go_sem, ↓reduceIte, Nat.reduceEqDiff, reduceCtorEq, Nat.reduceAdd, Nat.reduceLT, Nat.reduceLeDiff, Nat.reduceBNe, Nat.reduceBEq, Int.reduceToNat, fLaw4]
            · skip
              replace h8b := Bool.eq_false_iff.2 h8b
              refine aw_seq (aw_region (EF := EF0) hG (by rw [hN]; exact tr6_8) ?_)
              simp only [a6_8, go_sem, ↓reduceIte, Nat.reduceEqDiff, reduceCtorEq, Nat.reduceAdd, Nat.reduceLT, Nat.reduceLeDiff, Nat.reduceBNe, Nat.reduceBEq, Int.reduceToNat, inI, fIn_eq, hvl, h8a, h8b, tL, fTrue_eq]
              (repeat' apply And.intro) <;> (try first | omega | (intros; (repeat' apply And.intro) <;> first | assumption | omega | (simp_all; done)))
              refine aw_condT rfl ?_
              refine aw_seq (aw_region (EF := EF0) hG (by rw [hN]; exact tr6_9) ?_)
              simp only [a6_9, go_sem, ↓reduceIte, Nat.reduceEqDiff, reduceCtorEq, Nat.reduceAdd, Nat.reduceLT, Nat.reduceLeDiff, Nat.reduceBNe, Nat.reduceBEq, Int.reduceToNat, tL, fTrue_eq]
              (repeat' apply And.intro) <;> (try first | omega | (intros; (repeat' apply And.intro) <;> first | assumption | omega | (simp_all; done)))
              refine aw_ret ?_
              show Q _ _
              refine hQ _ _ (.inl rfl) ?_ ?_ ?_ <;> simp only [outφ, outV, AR.res, go_sem, ↓reduceIte, Nat.reduceEqDiff, reduceCtorEq, Nat.reduceAdd, Nat.reduceLT, Nat.reduceLeDiff, Nat.reduceBNe, Nat.reduceBEq, Int.reduceToNat, fLaw4]
end Go.Proofs.YtemeeeomcjdlnaaDoor
