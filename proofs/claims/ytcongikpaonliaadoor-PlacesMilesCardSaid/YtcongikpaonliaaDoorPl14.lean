/- Way, both. -/
import Derived.Test.YtcongikpaonliaaDoorPl13
namespace Go.Proofs.YtcongikpaonliaaDoor
open Go Go.RowKit
set_option linter.unusedSimpArgs false
set_option linter.unusedVariables false
set_option linter.deprecated false
theorem milesOf_bd {ps ds} (hd : ds.length ≤ 1000) (a b) : 0 ≤ (milesOf ps ds a b).1 ∧ (milesOf ps ds a b).1 ≤ 100000000 := by
  unfold milesOf
  split
  · exact ⟨by decide, by decide⟩
  · cases hg : aget (fixL ds (cityOf ps a)) (cityOf ps b) with
    | none => exact ⟨by decide, by decide⟩
    | some v =>
      have h1 := (fixL_fin hd (cityOf ps a)).inv.get hg
      have h2 := rc_le (ends (cityOf ps a) ds) (fixL ds (cityOf ps a))
      rw [ends_len] at h2
      unfold milesV; dsimp only
      omega
theorem fMiles_eq (ps : List Airport) (ds : List Distance) (a b : List UInt8) : gOf aMi fMiles [.agg [.list (ps.map Airport.enc) false, .list (ds.map Distance.enc) false], .str a, .str b] = (MOk ⟨ps, ds⟩, .tup [.int .i64 (milesOf ps ds a b).1, .int .i64 (milesOf ps ds a b).2]) := gOf_eq aMi_inj (⟨ps, ds⟩, a, b)
def wayR (f : List UInt8 → List UInt8 → Int × Int) : List (List UInt8) → Int → Int × Int
  | x :: y :: cs, s => if (f x y).2 = 0 then wayR f (y :: cs) (s + (f x y).1) else (0, (f x y).2)
  | _, s => (s, 0)
theorem wayR_step {f} {cs : List (List UInt8)} {j : Nat} (h : j + 1 < cs.length) (s : Int) : wayR f (cs.drop j) s = if (f cs[j] cs[j + 1]).2 = 0 then wayR f (cs.drop (j + 1)) (s + (f cs[j] cs[j + 1]).1) else (0, (f cs[j] cs[j + 1]).2) := by
  rw [List.drop_eq_getElem_cons (show j < cs.length by omega), List.drop_eq_getElem_cons h, wayR]
theorem wayR_end {f} {cs : List (List UInt8)} {j : Nat} (h : cs.length ≤ j + 1) (s : Int) : wayR f (cs.drop j) s = (s, 0) := by
  rcases Nat.lt_or_ge j cs.length with h1 | h1
  · rw [List.drop_eq_getElem_cons h1, List.drop_eq_nil_of_le h]; rfl
  · rw [List.drop_eq_nil_of_le h1]; rfl
def wayOf (ps : List Airport) (ds : List Distance) (cs : List (List UInt8)) : Int × Int := wayR (milesOf ps ds) cs 0
def aWay (x : Places × List (List UInt8)) : List V := [.agg x.1.enc, .list (strs x.2) false]
theorem aWay_inj (a b : Places × List (List UInt8)) (h : aWay a = aWay b) : a = b := by
  obtain ⟨a_p, a_cs⟩ := a
  obtain ⟨b_p, b_cs⟩ := b
  simp only [aWay, List.cons.injEq, V.str.injEq, V.int.injEq, V.bool.injEq, V.agg.injEq, V.list.injEq, and_true, true_and] at h
  obtain ⟨h0, h1⟩ := h
  replace h0 := Places.inj _ _ h0
  subst h0
  replace h1 := strs_inj h1
  subst h1
  rfl
def fWay (x : Places × List (List UInt8)) : Prop × V := (MOk x.1 ∧ x.2.length ≤ 1000, .tup [.int .i64 (wayOf x.1.airports x.1.distances x.2).1, .int .i64 (wayOf x.1.airports x.1.distances x.2).2])
noncomputable def tW : Tab
  | 20 => (gOf aMi fMiles)
  | _ => gNo
theorem tW_ok : ∀ f, PureC Tryd.prog UT f (tW f) := fun f => by
  unfold tW
  split
  · exact miles_p
  · exact PureC.no
noncomputable def trW : Tab
  | 21 => (gOf aMi fMiles)
  | _ => gNo
theorem trW_ok : ∀ f, PureC Tryd.prog UT f (trW f) := fun f => by
  unfold trW
  split
  · exact rmiles_p
  · exact PureC.no
set_option maxHeartbeats 2000000 in
theorem way_p : PureC Tryd.prog UT 22 (gOf aWay fWay) := by
  have hG := tW_ok
  refine PureC.ofArgs aWay_inj Tryd.func22 body22 nm22 res22 ?_
  rintro ⟨⟨ps, ds⟩, cs⟩ hv
  refine ⟨by rw [nt22]; simp [aWay], fun C hN Q hQ => ?_⟩
  rw [nt22] at hN
  unfold c22
  obtain ⟨hM, hcl⟩ : MOk ⟨ps, ds⟩ ∧ cs.length ≤ 1000 := hv
  have hd : ds.length ≤ 1000 := hM.2
  refine aw_seq (aw_region (EF := EF0) hG (by rw [hN]; exact tr22_0) ?_)
  simp only [a22_0, go_sem, ↓reduceIte, Nat.reduceEqDiff, reduceCtorEq, Nat.reduceAdd, Nat.reduceLT, Nat.reduceLeDiff, Nat.reduceBNe, Nat.reduceBEq, Int.reduceToNat, aWay, Places.enc, tW]
  refine aw_seq (aw_region (EF := EF0) hG (by rw [hN]; exact tr22_1) ?_)
  simp only [a22_1, go_sem, ↓reduceIte, Nat.reduceEqDiff, reduceCtorEq, Nat.reduceAdd, Nat.reduceLT, Nat.reduceLeDiff, Nat.reduceBNe, Nat.reduceBEq, Int.reduceToNat, tW]
  refine aw_seq ?_
  refine aw_seq (aw_region (EF := EF0) hG (by rw [hN]; exact tr22_2) ?_)
  simp only [a22_2, go_sem, ↓reduceIte, Nat.reduceEqDiff, reduceCtorEq, Nat.reduceAdd, Nat.reduceLT, Nat.reduceLeDiff, Nat.reduceBNe, Nat.reduceBEq, Int.reduceToNat, tW]
  refine aw_block ?_
  refine aw_loop (α := Nat × Int) (fun γ => (wayOf ps ds cs = wayR (milesOf ps ds) (cs.drop γ.1) γ.2) ∧ (0 ≤ γ.2 ∧ γ.2 ≤ 100000000 * (γ.1 : Int)) ∧ (γ.1 ≤ 1000)) (fun γ => ⟨mkE [(1, V.list (strs cs) false), (2, V.ptr 2 0), (6, .int .i64 γ.2), (7, .int .i64 ((γ.1 : Int) + 1))], mkH [(2, Ob.box 25 [V.list (List.map Airport.enc ps) false, V.list (List.map Distance.enc ds) false])]⟩) (fun γ => cs.length - γ.1) (0, 0) ⟨by rw [List.drop_zero]; rfl, ⟨by decide, by decide⟩, by omega⟩ ?_ ?_
  · refine Le.mk _ _ ?_ ?_ rfl <;> simp only [go_sem, ↓reduceIte, Nat.reduceEqDiff, reduceCtorEq, Nat.reduceAdd, Nat.reduceLT, Nat.reduceLeDiff, Nat.reduceBNe, Nat.reduceBEq, Int.reduceToNat] <;> (repeat' apply And.intro) <;> (try first | rfl | exact wk_frzb rfl rfl rfl | exact wk_fn rfl | exact .nilo _ _ _ rfl rfl)
  · rintro ⟨j, s⟩ ⟨hinv, hs, hj⟩ KL0 hKL0
    try dsimp only at *
    refine aw_seq ?_
    refine aw_seq (aw_region (EF := EF0) hG (by rw [hN]; exact tr22_3) ?_)
    simp only [a22_3, go_sem, ↓reduceIte, Nat.reduceEqDiff, reduceCtorEq, Nat.reduceAdd, Nat.reduceLT, Nat.reduceLeDiff, Nat.reduceBNe, Nat.reduceBEq, Int.reduceToNat, tW]
    refine aw_cond (b := _) rfl (fun hc3 => ?_) (fun hc3 => ?_)
    · skip
      have hc3 : j + 1 < cs.length := by simp at hc3; omega
      refine aw_skip ?_
      simp only [go_sem, ↓reduceIte, Nat.reduceEqDiff, reduceCtorEq, Nat.reduceAdd, Nat.reduceLT, Nat.reduceLeDiff, Nat.reduceBNe, Nat.reduceBEq, Int.reduceToNat]
      refine aw_seq ?_
      refine aw_block ?_
      have e1 : ((j : Int) + 1).toNat = j + 1 := by omega
      have e3 : (j : Int) + 1 - 1 = (j : Int) := by omega
      have hj0 : j < cs.length := by omega
      have hbd := milesOf_bd (ps := ps) hd cs[j] cs[j + 1]
      refine aw_seq (aw_regionD (EF := EF0) hG mixed (by rw [hN]; exact tr22_5) ok22_5 ?_)
      simp only [a22_5, d22_5, go_sem, ↓reduceIte, Nat.reduceEqDiff, reduceCtorEq, Nat.reduceAdd, Nat.reduceLT, Nat.reduceLeDiff, Nat.reduceBNe, Nat.reduceBEq, Int.reduceToNat, inI, e1, e3, strs_getD _ _ _ hj0, strs_getD _ _ _ hc3, hj0, hc3, fMiles_eq, hM, tW]
      (repeat' apply And.intro) <;> (try first | omega | (intros; (repeat' apply And.intro) <;> first | assumption | omega | (simp_all; done)))
      refine aw_seq ?_
      refine aw_seq (aw_region (EF := EF0) hG (by rw [hN]; exact tr22_6) ?_)
      simp only [a22_6, go_sem, ↓reduceIte, Nat.reduceEqDiff, reduceCtorEq, Nat.reduceAdd, Nat.reduceLT, Nat.reduceLeDiff, Nat.reduceBNe, Nat.reduceBEq, Int.reduceToNat, tW]
      refine aw_cond (b := _) rfl (fun hb6 => ?_) (fun hb6 => ?_)
      · skip
        refine aw_seq (aw_region (EF := EF0) hG (by rw [hN]; exact tr22_7) ?_)
        simp only [a22_7, go_sem, ↓reduceIte, Nat.reduceEqDiff, reduceCtorEq, Nat.reduceAdd, Nat.reduceLT, Nat.reduceLeDiff, Nat.reduceBNe, Nat.reduceBEq, Int.reduceToNat, tW]
        refine aw_ret ?_
        show Q _ _
        refine hQ _ _ (.inl rfl) ?_ ?_ ?_ <;> simp only [outφ, outV, AR.res, go_sem, ↓reduceIte, Nat.reduceEqDiff, reduceCtorEq, Nat.reduceAdd, Nat.reduceLT, Nat.reduceLeDiff, Nat.reduceBNe, Nat.reduceBEq, Int.reduceToNat, fWay]
        rw [hinv, wayR_step hc3, if_neg (by simpa using hb6)]
      · skip
        refine aw_skip ?_
        simp only [go_sem, ↓reduceIte, Nat.reduceEqDiff, reduceCtorEq, Nat.reduceAdd, Nat.reduceLT, Nat.reduceLeDiff, Nat.reduceBNe, Nat.reduceBEq, Int.reduceToNat]
        refine aw_region (EF := EF0) hG (by rw [hN]; exact tr22_8) ?_
        simp only [a22_8, go_sem, ↓reduceIte, Nat.reduceEqDiff, reduceCtorEq, Nat.reduceAdd, Nat.reduceLT, Nat.reduceLeDiff, Nat.reduceBNe, Nat.reduceBEq, Int.reduceToNat, inI, tW]
        (repeat' apply And.intro) <;> (try first | omega | (intros; (repeat' apply And.intro) <;> first | assumption | omega | (simp_all; done)))
        refine aw_region (EF := EF0) hG (by rw [hN]; exact tr22_4) ?_
        simp only [a22_4, go_sem, ↓reduceIte, Nat.reduceEqDiff, reduceCtorEq, Nat.reduceAdd, Nat.reduceLT, Nat.reduceLeDiff, Nat.reduceBNe, Nat.reduceBEq, Int.reduceToNat, inI, tW]
        (repeat' apply And.intro) <;> (try first | omega | (intros; (repeat' apply And.intro) <;> first | assumption | omega | (simp_all; done)))
        refine hKL0 (j + 1, s + (milesOf ps ds cs[j] cs[j + 1]).1) _ ?_ ?_ ?_
        · (try dsimp only); exact ⟨by rw [hinv, wayR_step hc3, if_pos (by simpa using hb6)], by omega, by omega⟩
        · (try dsimp only); omega
        · refine Le.mk _ _ ?_ ?_ rfl <;> simp only [go_sem, ↓reduceIte, Nat.reduceEqDiff, reduceCtorEq, Nat.reduceAdd, Nat.reduceLT, Nat.reduceLeDiff, Nat.reduceBNe, Nat.reduceBEq, Int.reduceToNat] <;> (repeat' apply And.intro) <;> (try first | rfl | exact wk_frzb rfl rfl rfl | exact wk_fn rfl | exact .nilo _ _ _ rfl rfl)
    · skip
      have hc3 : cs.length ≤ j + 1 := by simp at hc3; omega
      refine aw_exit ?_
      simp only [go_sem, ↓reduceIte, Nat.reduceEqDiff, reduceCtorEq, Nat.reduceAdd, Nat.reduceLT, Nat.reduceLeDiff, Nat.reduceBNe, Nat.reduceBEq, Int.reduceToNat]
      refine aw_seq (aw_region (EF := EF0) hG (by rw [hN]; exact tr22_9) ?_)
      simp only [a22_9, go_sem, ↓reduceIte, Nat.reduceEqDiff, reduceCtorEq, Nat.reduceAdd, Nat.reduceLT, Nat.reduceLeDiff, Nat.reduceBNe, Nat.reduceBEq, Int.reduceToNat, tW]
      refine aw_ret ?_
      show Q _ _
      refine hQ _ _ (.inl rfl) ?_ ?_ ?_ <;> simp only [outφ, outV, AR.res, go_sem, ↓reduceIte, Nat.reduceEqDiff, reduceCtorEq, Nat.reduceAdd, Nat.reduceLT, Nat.reduceLeDiff, Nat.reduceBNe, Nat.reduceBEq, Int.reduceToNat, fWay]
      rw [hinv, wayR_end hc3]
set_option maxHeartbeats 2000000 in
theorem rway_p : PureC Tryd.prog UT 23 (gOf aWay fWay) := by
  have hG := trW_ok
  refine PureC.ofArgs aWay_inj Tryd.func23 body23 nm23 res23 ?_
  rintro ⟨⟨ps, ds⟩, cs⟩ hv
  refine ⟨by rw [nt23]; simp [aWay], fun C hN Q hQ => ?_⟩
  rw [nt23] at hN
  unfold c23
  obtain ⟨hM, hcl⟩ : MOk ⟨ps, ds⟩ ∧ cs.length ≤ 1000 := hv
  have hd : ds.length ≤ 1000 := hM.2
  refine aw_seq (aw_region (EF := EF0) hG (by rw [hN]; exact tr23_0) ?_)
  simp only [a23_0, go_sem, ↓reduceIte, Nat.reduceEqDiff, reduceCtorEq, Nat.reduceAdd, Nat.reduceLT, Nat.reduceLeDiff, Nat.reduceBNe, Nat.reduceBEq, Int.reduceToNat, aWay, Places.enc, trW]
  refine aw_seq (aw_region (EF := EF0) hG (by rw [hN]; exact tr23_1) ?_)
  simp only [a23_1, go_sem, ↓reduceIte, Nat.reduceEqDiff, reduceCtorEq, Nat.reduceAdd, Nat.reduceLT, Nat.reduceLeDiff, Nat.reduceBNe, Nat.reduceBEq, Int.reduceToNat, trW]
  refine aw_seq ?_
  refine aw_seq (aw_region (EF := EF0) hG (by rw [hN]; exact tr23_2) ?_)
  simp only [a23_2, go_sem, ↓reduceIte, Nat.reduceEqDiff, reduceCtorEq, Nat.reduceAdd, Nat.reduceLT, Nat.reduceLeDiff, Nat.reduceBNe, Nat.reduceBEq, Int.reduceToNat, trW]
  refine aw_block ?_
  refine aw_loop (α := Nat × Int) (fun γ => (wayOf ps ds cs = wayR (milesOf ps ds) (cs.drop γ.1) γ.2) ∧ (0 ≤ γ.2 ∧ γ.2 ≤ 100000000 * (γ.1 : Int)) ∧ (γ.1 ≤ 1000)) (fun γ => ⟨mkE [(1, V.list (strs cs) false), (2, V.ptr 2 0), (6, .int .i64 γ.2), (7, .int .i64 γ.1)], mkH [(2, Ob.box 25 [V.list (List.map Airport.enc ps) false, V.list (List.map Distance.enc ds) false])]⟩) (fun γ => cs.length - γ.1) (0, 0) ⟨by rw [List.drop_zero]; rfl, ⟨by decide, by decide⟩, by omega⟩ ?_ ?_
  · refine Le.mk _ _ ?_ ?_ rfl <;> simp only [go_sem, ↓reduceIte, Nat.reduceEqDiff, reduceCtorEq, Nat.reduceAdd, Nat.reduceLT, Nat.reduceLeDiff, Nat.reduceBNe, Nat.reduceBEq, Int.reduceToNat] <;> (repeat' apply And.intro) <;> (try first | rfl | exact wk_frzb rfl rfl rfl | exact wk_fn rfl | exact .nilo _ _ _ rfl rfl)
  · rintro ⟨j, s⟩ ⟨hinv, hs, hj⟩ KL0 hKL0
    try dsimp only at *
    refine aw_seq ?_
    refine aw_seq (aw_region (EF := EF0) hG (by rw [hN]; exact tr23_3) ?_)
    simp only [a23_3, go_sem, ↓reduceIte, Nat.reduceEqDiff, reduceCtorEq, Nat.reduceAdd, Nat.reduceLT, Nat.reduceLeDiff, Nat.reduceBNe, Nat.reduceBEq, Int.reduceToNat, inI, trW]
    (repeat' apply And.intro) <;> (try first | omega | (intros; (repeat' apply And.intro) <;> first | assumption | omega | (simp_all; done)))
    refine aw_cond (b := _) rfl (fun hc3 => ?_) (fun hc3 => ?_)
    · skip
      have hc3 : j + 1 < cs.length := by simp at hc3; omega
      refine aw_skip ?_
      simp only [go_sem, ↓reduceIte, Nat.reduceEqDiff, reduceCtorEq, Nat.reduceAdd, Nat.reduceLT, Nat.reduceLeDiff, Nat.reduceBNe, Nat.reduceBEq, Int.reduceToNat]
      refine aw_seq ?_
      refine aw_block ?_
      have hj0 : j < cs.length := by omega
      have e1 : ((j : Int) + 1).toNat = j + 1 := by omega
      have hbd := milesOf_bd (ps := ps) hd cs[j] cs[j + 1]
      refine aw_seq (aw_regionD (EF := EF0) hG mixed (by rw [hN]; exact tr23_5) ok23_5 ?_)
      simp only [a23_5, d23_5, go_sem, ↓reduceIte, Nat.reduceEqDiff, reduceCtorEq, Nat.reduceAdd, Nat.reduceLT, Nat.reduceLeDiff, Nat.reduceBNe, Nat.reduceBEq, Int.reduceToNat, inI, e1, strs_getD _ _ _ hj0, strs_getD _ _ _ hc3, hj0, hc3, fMiles_eq, hM, trW]
      (repeat' apply And.intro) <;> (try first | omega | (intros; (repeat' apply And.intro) <;> first | assumption | omega | (simp_all; done)))
      refine aw_seq ?_
      refine aw_seq (aw_region (EF := EF0) hG (by rw [hN]; exact tr23_6) ?_)
      simp only [a23_6, go_sem, ↓reduceIte, Nat.reduceEqDiff, reduceCtorEq, Nat.reduceAdd, Nat.reduceLT, Nat.reduceLeDiff, Nat.reduceBNe, Nat.reduceBEq, Int.reduceToNat, trW]
      refine aw_cond (b := _) rfl (fun hb6 => ?_) (fun hb6 => ?_)
      · skip
        refine aw_seq (aw_region (EF := EF0) hG (by rw [hN]; exact tr23_7) ?_)
        simp only [a23_7, go_sem, ↓reduceIte, Nat.reduceEqDiff, reduceCtorEq, Nat.reduceAdd, Nat.reduceLT, Nat.reduceLeDiff, Nat.reduceBNe, Nat.reduceBEq, Int.reduceToNat, trW]
        refine aw_ret ?_
        show Q _ _
        refine hQ _ _ (.inl rfl) ?_ ?_ ?_ <;> simp only [outφ, outV, AR.res, go_sem, ↓reduceIte, Nat.reduceEqDiff, reduceCtorEq, Nat.reduceAdd, Nat.reduceLT, Nat.reduceLeDiff, Nat.reduceBNe, Nat.reduceBEq, Int.reduceToNat, fWay]
        rw [hinv, wayR_step hc3, if_neg (by simpa using hb6)]
      · skip
        refine aw_skip ?_
        simp only [go_sem, ↓reduceIte, Nat.reduceEqDiff, reduceCtorEq, Nat.reduceAdd, Nat.reduceLT, Nat.reduceLeDiff, Nat.reduceBNe, Nat.reduceBEq, Int.reduceToNat]
        refine aw_region (EF := EF0) hG (by rw [hN]; exact tr23_8) ?_
        simp only [a23_8, go_sem, ↓reduceIte, Nat.reduceEqDiff, reduceCtorEq, Nat.reduceAdd, Nat.reduceLT, Nat.reduceLeDiff, Nat.reduceBNe, Nat.reduceBEq, Int.reduceToNat, inI, trW]
        (repeat' apply And.intro) <;> (try first | omega | (intros; (repeat' apply And.intro) <;> first | assumption | omega | (simp_all; done)))
        refine aw_region (EF := EF0) hG (by rw [hN]; exact tr23_4) ?_
        simp only [a23_4, go_sem, ↓reduceIte, Nat.reduceEqDiff, reduceCtorEq, Nat.reduceAdd, Nat.reduceLT, Nat.reduceLeDiff, Nat.reduceBNe, Nat.reduceBEq, Int.reduceToNat, inI, trW]
        (repeat' apply And.intro) <;> (try first | omega | (intros; (repeat' apply And.intro) <;> first | assumption | omega | (simp_all; done)))
        refine hKL0 (j + 1, s + (milesOf ps ds cs[j] cs[j + 1]).1) _ ?_ ?_ ?_
        · (try dsimp only); exact ⟨by rw [hinv, wayR_step hc3, if_pos (by simpa using hb6)], by omega, by omega⟩
        · (try dsimp only); omega
        · refine Le.mk _ _ ?_ ?_ rfl <;> simp only [go_sem, ↓reduceIte, Nat.reduceEqDiff, reduceCtorEq, Nat.reduceAdd, Nat.reduceLT, Nat.reduceLeDiff, Nat.reduceBNe, Nat.reduceBEq, Int.reduceToNat] <;> (repeat' apply And.intro) <;> (try first | rfl | exact wk_frzb rfl rfl rfl | exact wk_fn rfl | exact .nilo _ _ _ rfl rfl)
    · skip
      have hc3 : cs.length ≤ j + 1 := by simp at hc3; omega
      refine aw_exit ?_
      simp only [go_sem, ↓reduceIte, Nat.reduceEqDiff, reduceCtorEq, Nat.reduceAdd, Nat.reduceLT, Nat.reduceLeDiff, Nat.reduceBNe, Nat.reduceBEq, Int.reduceToNat]
      refine aw_seq (aw_region (EF := EF0) hG (by rw [hN]; exact tr23_9) ?_)
      simp only [a23_9, go_sem, ↓reduceIte, Nat.reduceEqDiff, reduceCtorEq, Nat.reduceAdd, Nat.reduceLT, Nat.reduceLeDiff, Nat.reduceBNe, Nat.reduceBEq, Int.reduceToNat, trW]
      refine aw_ret ?_
      show Q _ _
      refine hQ _ _ (.inl rfl) ?_ ?_ ?_ <;> simp only [outφ, outV, AR.res, go_sem, ↓reduceIte, Nat.reduceEqDiff, reduceCtorEq, Nat.reduceAdd, Nat.reduceLT, Nat.reduceLeDiff, Nat.reduceBNe, Nat.reduceBEq, Int.reduceToNat, fWay]
      rw [hinv, wayR_end hc3]
/-- A way is at least as long as the distance of its ends. -/
theorem way_ge {ps ds} (hd : ds.length ≤ 1000) : ∀ (cs : List (List UInt8)) (x y : List UInt8) (s : Int) (n : Int), wayR (milesOf ps ds) (x :: y :: cs) s = (n, 0) → ∃ m, milesOf ps ds x ((x :: y :: cs).getLast (by simp)) = (m, 0) ∧ s + m ≤ n
  | [], x, y, s, n, h => by
    rw [wayR] at h
    split at h
    · rename_i h1
      simp only [wayR, Prod.mk.injEq, and_true] at h
      exact ⟨(milesOf ps ds x y).1, by rw [show [x, y].getLast (by simp) = y from rfl, ← h1], by omega⟩
    · rename_i h1
      exact absurd (congrArg Prod.snd h) h1
  | z :: cs, x, y, s, n, h => by
    rw [wayR] at h
    split at h
    · rename_i h1
      obtain ⟨m, h2, h3⟩ := way_ge hd cs y z _ _ h
      obtain ⟨k, h4, h5⟩ := milesOf_tri hd (show milesOf ps ds x y = ((milesOf ps ds x y).1, 0) by rw [← h1]) h2
      refine ⟨k, ?_, by omega⟩
      rw [List.getLast_cons (by simp)]; exact h4
    · rename_i h1
      exact absurd (congrArg Prod.snd h) h1
end Go.Proofs.YtcongikpaonliaaDoor
