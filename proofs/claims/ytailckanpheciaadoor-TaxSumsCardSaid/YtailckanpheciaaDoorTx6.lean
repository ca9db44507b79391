/- What the laws of taxes ask for: right. -/
import Derived.Test.YtailckanpheciaaDoorTx5
namespace Go.Proofs.YtailckanpheciaaDoor
open Go Go.RowKit
set_option linter.unusedSimpArgs false
set_option linter.unusedVariables false
set_option linter.deprecated false
theorem fSmall_eq (ps : List Airport) (ds : List Distance) : gOf aP1 fSmall [.agg [.list (ps.map Airport.enc) false, .list (ds.map Distance.enc) false]] = ((⟨ps, ds⟩ : Places).ok, .bool (smallB ⟨ps, ds⟩)) := gOf_eq aP1_inj (⟨ps, ds⟩ : Places)
theorem fChk_eq (ps : List Airport) (ds : List Distance) : gOf aP1 fChk [.agg [.list (ps.map Airport.enc) false, .list (ds.map Distance.enc) false]] = (Sm ⟨ps, ds⟩, .list (faults (chkF ⟨ps, ds⟩)) false) := gOf_eq aP1_inj (⟨ps, ds⟩ : Places)
theorem fFew_eq (l : List Tax) : gOf aTaxes fFew [.list (l.map Tax.enc) false] = (LenT l, .bool (fewB l)) := gOf_eq aTaxes_inj l
theorem fTaxes_eq (l : List Tax) : gOf aTaxes fTaxes [.list (l.map Tax.enc) false] = (SmT l, .list (faults (taxTo l l.length)) false) := gOf_eq aTaxes_inj l
theorem sm_of {ps : List Airport} {ds : List Distance} (h : smallB ⟨ps, ds⟩ = true) (hk : (⟨ps, ds⟩ : Places).ok) : Sm ⟨ps, ds⟩ ∧ LenP ⟨ps, ds⟩ := by
  unfold smallB at h
  simp only [Bool.and_eq_true, Bool.not_eq_true', Bool.or_eq_false_iff, decide_eq_false_iff_not] at h
  obtain ⟨⟨h1, h2⟩, _⟩ := h
  exact ⟨⟨by dsimp only; omega, by dsimp only; omega, hk.1.2⟩, ⟨by dsimp only; omega, by dsimp only; omega⟩⟩
theorem smT_of {l : List Tax} (h : fewB l = true) (hk : LenT l) : SmT l := by
  unfold fewB at h
  simp only [Bool.and_eq_true, Bool.not_eq_true', decide_eq_false_iff_not] at h
  exact ⟨by omega, hk.2⟩
def timeBad (s : Seg) : Bool := decide (s.dep < 0) || decide (52596000 ≤ s.dep) || decide (s.arr < 0) || decide (52596000 ≤ s.arr)
def wrongB (p : Places) (l : List Tax) (segs : List Seg) : Bool := !smallB p || !fewB l || decide (12 < (segs.length : Int)) || decide (0 < ((chkF p).length : Int)) || decide (0 < ((taxTo l l.length).length : Int))
def rightB (p : Places) (l : List Tax) (segs : List Seg) : Bool := !wrongB p l segs && !segs.any timeBad
def aRi (x : Places × List Tax × List Seg) : List V := [.agg x.1.enc, .list (x.2.1.map Tax.enc) false, .list (x.2.2.map Seg.enc) false]
theorem aRi_inj (a b : Places × List Tax × List Seg) (h : aRi a = aRi b) : a = b := by
  obtain ⟨a_p, a_l, a_s⟩ := a
  obtain ⟨b_p, b_l, b_s⟩ := b
  simp only [aRi, List.cons.injEq, V.str.injEq, V.int.injEq, V.bool.injEq, V.agg.injEq, V.list.injEq, and_true, true_and] at h
  obtain ⟨h0, h1, h2⟩ := h
  replace h0 := Places.inj _ _ h0
  subst h0
  replace h1 := map_inj' Tax.inj h1
  subst h1
  replace h2 := map_inj' Seg.inj h2
  subst h2
  rfl
def fRi (x : Places × List Tax × List Seg) : Prop × V := (x.1.ok ∧ LenT x.2.1 ∧ x.2.2.length ≤ 140737488355328, .bool (rightB x.1 x.2.1 x.2.2))
noncomputable def tRi : Tab
  | 31 => (gOf aP1 fSmall)
  | 8 => (gOf aTaxes fFew)
  | 32 => (gOf aP1 fChk)
  | 11 => (gOf aTaxes fTaxes)
  | _ => gNo
theorem tRi_ok : ∀ f, PureC Tryd.prog UT f (tRi f) := fun f => by
  unfold tRi
  split
  · exact small_p
  · exact few_p
  · exact rcheck_p
  · exact rtcheck_p
  · exact PureC.no
set_option maxHeartbeats 4000000 in
theorem right_p6 : PureC Tryd.prog UT 13 (gOf aRi fRi) := by
  have hG := tRi_ok
  refine PureC.ofArgs aRi_inj Tryd.func13 body13 nm13 res13 ?_
  rintro ⟨⟨ps, ds⟩, l, sg⟩ hv
  refine ⟨by rw [nt13]; simp [aRi], fun C hN Q hQ => ?_⟩
  rw [nt13] at hN
  unfold c13
  obtain ⟨hok, hlt, hsl⟩ : (⟨ps, ds⟩ : Places).ok ∧ LenT l ∧ sg.length ≤ 140737488355328 := hv
  have hwr : wrongB ⟨ps, ds⟩ l sg = (!smallB ⟨ps, ds⟩ || !fewB l || decide (12 < (sg.length : Int)) || decide (0 < ((chkF ⟨ps, ds⟩).length : Int)) || decide (0 < ((taxTo l l.length).length : Int))) := rfl
  refine aw_seq (aw_region (EF := EF0) hG (by rw [hN]; exact tr13_0) ?_)
  simp only [a13_0, go_sem, ↓reduceIte, Nat.reduceEqDiff, reduceCtorEq, Nat.reduceAdd, Nat.reduceLT, Nat.reduceLeDiff, Nat.reduceBNe, Nat.reduceBEq, Int.reduceToNat, aRi, Places.enc, tRi]
  refine aw_seq ?_
  by_cases hsm : smallB ⟨ps, ds⟩ = true
  · skip
    have hs := (sm_of hsm hok).1
    by_cases hfw : fewB l = true
    · skip
      have hst := smT_of hfw hlt
      refine aw_seq (aw_region (EF := EF0) hG (by rw [hN]; exact tr13_1) ?_)
      simp only [a13_1, go_sem, ↓reduceIte, Nat.reduceEqDiff, reduceCtorEq, Nat.reduceAdd, Nat.reduceLT, Nat.reduceLeDiff, Nat.reduceBNe, Nat.reduceBEq, Int.reduceToNat, fSmall_eq, hok, fFew_eq, hlt, hsm, hfw, fChk_eq, fTaxes_eq, tRi, hs, hst]
      (repeat' apply And.intro) <;> (try first | omega | (intros; (repeat' apply And.intro) <;> first | assumption | omega | (simp_all; done)))
      refine aw_cond (b := _) rfl (fun hb1 => ?_) (fun hb1 => ?_)
      · skip
        refine aw_seq (aw_region (EF := EF0) hG (by rw [hN]; exact tr13_2) ?_)
        simp only [a13_2, go_sem, ↓reduceIte, Nat.reduceEqDiff, reduceCtorEq, Nat.reduceAdd, Nat.reduceLT, Nat.reduceLeDiff, Nat.reduceBNe, Nat.reduceBEq, Int.reduceToNat, tRi]
        refine aw_ret ?_
        show Q _ _
        refine hQ _ _ (.inl rfl) ?_ ?_ ?_ <;> simp only [outφ, outV, AR.res, go_sem, ↓reduceIte, Nat.reduceEqDiff, reduceCtorEq, Nat.reduceAdd, Nat.reduceLT, Nat.reduceLeDiff, Nat.reduceBNe, Nat.reduceBEq, Int.reduceToNat, fRi, rightB]
        rw [show wrongB ⟨ps, ds⟩ l sg = true by rw [hwr, hsm, hfw]; simpa using hb1]; rfl
      · skip
        refine aw_skip ?_
        try simp only [go_sem, ↓reduceIte, Nat.reduceEqDiff, reduceCtorEq, Nat.reduceAdd, Nat.reduceLT, Nat.reduceLeDiff, Nat.reduceBNe, Nat.reduceBEq, Int.reduceToNat]
        refine aw_seq ?_
        have hw0 : wrongB ⟨ps, ds⟩ l sg = false := by rw [hwr, hsm, hfw]; simpa using hb1
        refine aw_seq (aw_region (EF := EF0) hG (by rw [hN]; exact tr13_3) ?_)
        simp only [a13_3, go_sem, ↓reduceIte, Nat.reduceEqDiff, reduceCtorEq, Nat.reduceAdd, Nat.reduceLT, Nat.reduceLeDiff, Nat.reduceBNe, Nat.reduceBEq, Int.reduceToNat, tRi]
        refine aw_block ?_
        refine aw_loop (α := Nat) (fun i => (i ≤ sg.length) ∧ (∀ s ∈ sg.take i, timeBad s = false)) (fun i => ⟨mkE [(2, V.list (List.map Seg.enc sg) false), (7, .int .i64 i)], mkH []⟩) (fun i => sg.length - i) 0 (by simp) ?_ ?_
        · refine Le.mk _ _ ?_ ?_ rfl <;> simp only [go_sem, ↓reduceIte, Nat.reduceEqDiff, reduceCtorEq, Nat.reduceAdd, Nat.reduceLT, Nat.reduceLeDiff, Nat.reduceBNe, Nat.reduceBEq, Int.reduceToNat] <;> (repeat' apply And.intro) <;> (try first | rfl | exact wk_frzb rfl rfl rfl | exact wk_fn rfl | exact .nilo _ _ _ rfl rfl)
        · rintro i ⟨hi, hp⟩ KL0 hKL0
          try dsimp only at *
          refine aw_seq ?_
          refine aw_seq (aw_region (EF := EF0) hG (by rw [hN]; exact tr13_4) ?_)
          simp only [a13_4, go_sem, ↓reduceIte, Nat.reduceEqDiff, reduceCtorEq, Nat.reduceAdd, Nat.reduceLT, Nat.reduceLeDiff, Nat.reduceBNe, Nat.reduceBEq, Int.reduceToNat, tRi]
          refine aw_cond (b := _) rfl (fun hc4 => ?_) (fun hc4 => ?_)
          · simp only [decide_eq_true_eq, decide_eq_false_iff_not, Bool.and_eq_true, Bool.or_eq_true, Bool.not_eq_true', Bool.not_eq_false', Bool.and_eq_false_iff, Bool.or_eq_false_iff, Int.ofNat_lt, Int.ofNat_le, Nat.not_lt, Nat.not_le, Int.not_lt, Int.not_le] at hc4
            refine aw_skip ?_
            try simp only [go_sem, ↓reduceIte, Nat.reduceEqDiff, reduceCtorEq, Nat.reduceAdd, Nat.reduceLT, Nat.reduceLeDiff, Nat.reduceBNe, Nat.reduceBEq, Int.reduceToNat]
            refine aw_seq ?_
            refine aw_block ?_
            refine aw_seq (aw_region (EF := EF0) hG (by rw [hN]; exact tr13_6) ?_)
            simp only [a13_6, go_sem, ↓reduceIte, Nat.reduceEqDiff, reduceCtorEq, Nat.reduceAdd, Nat.reduceLT, Nat.reduceLeDiff, Nat.reduceBNe, Nat.reduceBEq, Int.reduceToNat, getD_mapd _ _ _ _ hc4, hc4, Seg.enc, tRi]
            (repeat' apply And.intro) <;> (try first | omega | (intros; (repeat' apply And.intro) <;> first | assumption | omega | (simp_all; done)))
            refine aw_cond (b := _) rfl (fun hb6 => ?_) (fun hb6 => ?_)
            · skip
              refine aw_seq (aw_region (EF := EF0) hG (by rw [hN]; exact tr13_7) ?_)
              simp only [a13_7, go_sem, ↓reduceIte, Nat.reduceEqDiff, reduceCtorEq, Nat.reduceAdd, Nat.reduceLT, Nat.reduceLeDiff, Nat.reduceBNe, Nat.reduceBEq, Int.reduceToNat, tRi]
              refine aw_ret ?_
              show Q _ _
              refine hQ _ _ (.inl rfl) ?_ ?_ ?_ <;> simp only [outφ, outV, AR.res, go_sem, ↓reduceIte, Nat.reduceEqDiff, reduceCtorEq, Nat.reduceAdd, Nat.reduceLT, Nat.reduceLeDiff, Nat.reduceBNe, Nat.reduceBEq, Int.reduceToNat, fRi, rightB]
              rw [hw0, any_at (p := timeBad) hc4 hb6]; rfl
            · skip
              refine aw_skip ?_
              try simp only [go_sem, ↓reduceIte, Nat.reduceEqDiff, reduceCtorEq, Nat.reduceAdd, Nat.reduceLT, Nat.reduceLeDiff, Nat.reduceBNe, Nat.reduceBEq, Int.reduceToNat]
              refine aw_region (EF := EF0) hG (by rw [hN]; exact tr13_5) ?_
              simp only [a13_5, go_sem, ↓reduceIte, Nat.reduceEqDiff, reduceCtorEq, Nat.reduceAdd, Nat.reduceLT, Nat.reduceLeDiff, Nat.reduceBNe, Nat.reduceBEq, Int.reduceToNat, inI, tRi]
              (repeat' apply And.intro) <;> (try first | omega | (intros; (repeat' apply And.intro) <;> first | assumption | omega | (simp_all; done)))
              refine hKL0 (i + 1) _ ?_ ?_ ?_
              · (try dsimp only); exact ⟨hc4, take_all hc4 hp hb6⟩
              · (try dsimp only); omega
              · refine Le.mk _ _ ?_ ?_ rfl <;> simp only [go_sem, ↓reduceIte, Nat.reduceEqDiff, reduceCtorEq, Nat.reduceAdd, Nat.reduceLT, Nat.reduceLeDiff, Nat.reduceBNe, Nat.reduceBEq, Int.reduceToNat] <;> (repeat' apply And.intro) <;> (try first | rfl | exact wk_frzb rfl rfl rfl | exact wk_fn rfl | exact .nilo _ _ _ rfl rfl)
          · simp only [decide_eq_true_eq, decide_eq_false_iff_not, Bool.and_eq_true, Bool.or_eq_true, Bool.not_eq_true', Bool.not_eq_false', Bool.and_eq_false_iff, Bool.or_eq_false_iff, Int.ofNat_lt, Int.ofNat_le, Nat.not_lt, Nat.not_le, Int.not_lt, Int.not_le] at hc4
            refine aw_exit ?_
            simp only [go_sem, ↓reduceIte, Nat.reduceEqDiff, reduceCtorEq, Nat.reduceAdd, Nat.reduceLT, Nat.reduceLeDiff, Nat.reduceBNe, Nat.reduceBEq, Int.reduceToNat]
            refine aw_seq (aw_region (EF := EF0) hG (by rw [hN]; exact tr13_8) ?_)
            simp only [a13_8, go_sem, ↓reduceIte, Nat.reduceEqDiff, reduceCtorEq, Nat.reduceAdd, Nat.reduceLT, Nat.reduceLeDiff, Nat.reduceBNe, Nat.reduceBEq, Int.reduceToNat, tRi]
            refine aw_ret ?_
            show Q _ _
            refine hQ _ _ (.inl rfl) ?_ ?_ ?_ <;> simp only [outφ, outV, AR.res, go_sem, ↓reduceIte, Nat.reduceEqDiff, reduceCtorEq, Nat.reduceAdd, Nat.reduceLT, Nat.reduceLeDiff, Nat.reduceBNe, Nat.reduceBEq, Int.reduceToNat, fRi, rightB]
            rw [hw0, any_no (p := timeBad) hc4 hp]; rfl
    · skip
      replace hfw := Bool.eq_false_iff.2 hfw
      refine aw_seq (aw_region (EF := EF0) hG (by rw [hN]; exact tr13_1) ?_)
      simp only [a13_1, go_sem, ↓reduceIte, Nat.reduceEqDiff, reduceCtorEq, Nat.reduceAdd, Nat.reduceLT, Nat.reduceLeDiff, Nat.reduceBNe, Nat.reduceBEq, Int.reduceToNat, fSmall_eq, hok, fFew_eq, hlt, hsm, hfw, fChk_eq, fTaxes_eq, tRi, hs]
      (repeat' apply And.intro) <;> (try first | omega | (intros; (repeat' apply And.intro) <;> first | assumption | omega | (simp_all; done)))
      refine aw_condT rfl ?_
      refine aw_seq (aw_region (EF := EF0) hG (by rw [hN]; exact tr13_2) ?_)
      simp only [a13_2, go_sem, ↓reduceIte, Nat.reduceEqDiff, reduceCtorEq, Nat.reduceAdd, Nat.reduceLT, Nat.reduceLeDiff, Nat.reduceBNe, Nat.reduceBEq, Int.reduceToNat, tRi]
      refine aw_ret ?_
      show Q _ _
      refine hQ _ _ (.inl rfl) ?_ ?_ ?_ <;> simp only [outφ, outV, AR.res, go_sem, ↓reduceIte, Nat.reduceEqDiff, reduceCtorEq, Nat.reduceAdd, Nat.reduceLT, Nat.reduceLeDiff, Nat.reduceBNe, Nat.reduceBEq, Int.reduceToNat, fRi, rightB]
      rw [show wrongB ⟨ps, ds⟩ l sg = true by rw [hwr, hfw]; simp]; rfl
  · skip
    replace hsm := Bool.eq_false_iff.2 hsm
    by_cases hfw : fewB l = true
    · skip
      have hst := smT_of hfw hlt
      refine aw_seq (aw_region (EF := EF0) hG (by rw [hN]; exact tr13_1) ?_)
      simp only [a13_1, go_sem, ↓reduceIte, Nat.reduceEqDiff, reduceCtorEq, Nat.reduceAdd, Nat.reduceLT, Nat.reduceLeDiff, Nat.reduceBNe, Nat.reduceBEq, Int.reduceToNat, fSmall_eq, hok, fFew_eq, hlt, hsm, hfw, fChk_eq, fTaxes_eq, tRi, hst]
      (repeat' apply And.intro) <;> (try first | omega | (intros; (repeat' apply And.intro) <;> first | assumption | omega | (simp_all; done)))
      refine aw_condT rfl ?_
      refine aw_seq (aw_region (EF := EF0) hG (by rw [hN]; exact tr13_2) ?_)
      simp only [a13_2, go_sem, ↓reduceIte, Nat.reduceEqDiff, reduceCtorEq, Nat.reduceAdd, Nat.reduceLT, Nat.reduceLeDiff, Nat.reduceBNe, Nat.reduceBEq, Int.reduceToNat, tRi]
      refine aw_ret ?_
      show Q _ _
      refine hQ _ _ (.inl rfl) ?_ ?_ ?_ <;> simp only [outφ, outV, AR.res, go_sem, ↓reduceIte, Nat.reduceEqDiff, reduceCtorEq, Nat.reduceAdd, Nat.reduceLT, Nat.reduceLeDiff, Nat.reduceBNe, Nat.reduceBEq, Int.reduceToNat, fRi, rightB]
      rw [show wrongB ⟨ps, ds⟩ l sg = true by rw [hwr, hsm]; rfl]; rfl
    · skip
      replace hfw := Bool.eq_false_iff.2 hfw
      refine aw_seq (aw_region (EF := EF0) hG (by rw [hN]; exact tr13_1) ?_)
      simp only [a13_1, go_sem, ↓reduceIte, Nat.reduceEqDiff, reduceCtorEq, Nat.reduceAdd, Nat.reduceLT, Nat.reduceLeDiff, Nat.reduceBNe, Nat.reduceBEq, Int.reduceToNat, fSmall_eq, hok, fFew_eq, hlt, hsm, hfw, fChk_eq, fTaxes_eq, tRi]
      (repeat' apply And.intro) <;> (try first | omega | (intros; (repeat' apply And.intro) <;> first | assumption | omega | (simp_all; done)))
      refine aw_condT rfl ?_
      refine aw_seq (aw_region (EF := EF0) hG (by rw [hN]; exact tr13_2) ?_)
      simp only [a13_2, go_sem, ↓reduceIte, Nat.reduceEqDiff, reduceCtorEq, Nat.reduceAdd, Nat.reduceLT, Nat.reduceLeDiff, Nat.reduceBNe, Nat.reduceBEq, Int.reduceToNat, tRi]
      refine aw_ret ?_
      show Q _ _
      refine hQ _ _ (.inl rfl) ?_ ?_ ?_ <;> simp only [outφ, outV, AR.res, go_sem, ↓reduceIte, Nat.reduceEqDiff, reduceCtorEq, Nat.reduceAdd, Nat.reduceLT, Nat.reduceLeDiff, Nat.reduceBNe, Nat.reduceBEq, Int.reduceToNat, fRi, rightB]
      rw [show wrongB ⟨ps, ds⟩ l sg = true by rw [hwr, hsm]; rfl]; rfl
end Go.Proofs.YtailckanpheciaaDoor
