/- Print and Parse invert each other; small, same; the chapter's examples. -/
import Derived.Test.YtbakkdnhbeldcaaDoorPa9
namespace Go.Proofs.YtbakkdnhbeldcaaDoor
open Go Go.RowKit
set_option linter.unusedSimpArgs false
set_option linter.unusedVariables false
set_option linter.deprecated false
theorem last_app (u v : List UInt8) (c : UInt8) (h : c ∉ v) : lastI c (u ++ [c] ++ v) = u.length := by
  unfold lastI
  refine last_uni ?_ _ (by simp) fun j hj hjl e => ?_
  · rw [List.append_assoc, List.getD_eq_getElem?_getD, List.getElem?_append_right (Nat.le_refl _)]; simp
  · rw [List.getD_eq_getElem?_getD, List.getElem?_append_right (by simp; omega)] at e
    have hjv : j - (u ++ [c]).length < v.length := by simp at hjl ⊢; omega
    rw [List.getElem?_eq_getElem hjv] at e
    exact h (by rw [← e]; exact List.getElem_mem hjv)
theorem okF_no : ∀ (s : List UInt8) (p : Bool), okF p s = true → (47 : UInt8) ∉ s
  | [], _, _ => by simp
  | c :: s, p, h => by
    rw [okF] at h
    split at h
    · rename_i e
      have := okF_no s true (Bool.and_eq_true_iff.1 h).2
      subst e
      simp [this]
    · obtain ⟨h1, h2⟩ := Bool.and_eq_true_iff.1 h
      have := okF_no s false h2
      have hc : c ≠ 47 := fun e => by rw [e] at h1; exact absurd h1 (by decide)
      simp [this, Ne.symm hc]
theorem name_no {s : List UInt8} (h : nameB s = true) : (47 : UInt8) ∉ s := okF_no s true (Bool.and_eq_true_iff.1 h).2
theorem code_no {s : List UInt8} (h : codeB s 3 3 = true) : (47 : UInt8) ∉ s ∧ (32 : UInt8) ∉ s := by
  unfold codeB at h
  have h2 := (Bool.and_eq_true_iff.1 h).2
  unfold allB at h2
  rw [List.all_eq_true] at h2
  exact ⟨fun hc => absurd (h2 _ hc) (by decide), fun hc => absurd (h2 _ hc) (by decide)⟩
theorem pr_ok {x : Person} (h : (prT x).2 = 0) : prT x = (x.last ++ [47] ++ x.first ++ [32] ++ x.type', 0) ∧ namB x = true ∧ typB x = true := by
  unfold prT at h ⊢
  split at h
  · rename_i c1
    rw [if_pos c1]
    split at h
    · rename_i c2; rw [if_pos c2]; exact ⟨rfl, c1, c2⟩
    · cases h
  · cases h
theorem par_print {x : Person} (h : (prT x).2 = 0) : parT (prT x).1 = (x, 0) := by
  obtain ⟨e, h1, h2⟩ := pr_ok h
  obtain ⟨la, fi, ty⟩ := x
  unfold namB at h1
  obtain ⟨n1, n2⟩ := Bool.and_eq_true_iff.1 h1
  have m1 := name_no n1
  have m2 := name_no n2
  obtain ⟨m3, m4⟩ := code_no (show codeB ty 3 3 = true from h2)
  dsimp only at m1 m2
  have e1 : lastI 47 (la ++ [47] ++ fi ++ [32] ++ ty) = la.length := by
    rw [List.append_assoc, List.append_assoc]
    exact last_app la (fi ++ ([32] ++ ty)) 47 (by simp [m2, m3])
  have e2 : lastI 32 (la ++ [47] ++ fi ++ [32] ++ ty) = (la ++ [47] ++ fi).length := last_app (la ++ [47] ++ fi) ty 32 m4
  have hl : (la ++ [47] ++ fi).length = la.length + 1 + fi.length := by simp; omega
  rw [hl] at e2
  have e3 : (la ++ [47] ++ fi ++ [32] ++ ty).count 47 = 1 := by
    simp only [List.count_append, List.count_eq_zero.2 m1, List.count_eq_zero.2 m2, List.count_eq_zero.2 m3]
    rfl
  have eX : parX (la ++ [47] ++ fi ++ [32] ++ ty) la.length (la.length + 1 + fi.length) = ⟨la, fi, ty⟩ := by
    unfold parX
    have q1 : (la ++ [47] ++ fi ++ [32] ++ ty).take la.length = la := by simp
    have q2 : (la ++ [47] ++ fi ++ [32] ++ ty).take (la.length + 1 + fi.length) = la ++ [47] ++ fi := by
      rw [List.append_assoc (la ++ [47] ++ fi)]; exact List.take_left' hl
    have q3 : (la ++ [47] ++ fi).drop (la.length + 1) = fi := List.drop_left' (by simp)
    have q4 : (la ++ [47] ++ fi ++ [32] ++ ty).drop (la.length + 1 + fi.length + 1) = ty := List.drop_left' (by simp; omega)
    rw [q1, q2, q3, q4]
  rw [e]
  dsimp only
  unfold parT
  rw [if_neg (by
    unfold badP
    rw [e1, e2, e3, decide_eq_false (by omega : ¬ (((la.length + 1 + fi.length : Nat) : Int) < ((la.length : Nat) : Int)))]; simp), e1, e2]
  rw [Int.toNat_natCast, show ((la.length + 1 + fi.length : Nat) : Int).toNat = la.length + 1 + fi.length from Int.toNat_natCast _, eX, if_pos h]
theorem cut_at {s : List UInt8} {i : Nat} (h : i < s.length) : s.take i ++ [s.getD i 0] ++ s.drop (i + 1) = s := by
  rw [List.getD_eq_getElem?_getD, List.getElem?_eq_getElem h, Option.getD_some, ← take_succ' h, List.take_append_drop]
theorem print_par {s : List UInt8} (h : (parT s).2 = 0) : prT (parT s).1 = (s, 0) := by
  unfold parT at h ⊢
  split at h
  · cases h
  · rename_i c1
    rw [if_neg c1]
    obtain ⟨i, k, hI, hK, _, hik, hkl, hsi, hsk⟩ := good_p (Bool.eq_false_iff.2 c1)
    rw [hI, hK, Int.toNat_natCast, Int.toNat_natCast] at h ⊢
    split at h
    · rename_i c2
      rw [if_pos c2]
      obtain ⟨e, _, _⟩ := pr_ok c2
      dsimp only
      rw [e]
      congr 1
      unfold parX
      dsimp only
      have q1 := cut_at hkl
      have hil : i < (s.take k).length := by rw [List.length_take]; omega
      have q2 := cut_at hil
      rw [hsk] at q1
      rw [List.take_take, Nat.min_eq_left (by omega), show (s.take k).getD i 0 = 47 by rw [List.getD_eq_getElem?_getD, List.getElem?_take, if_pos (by omega), ← List.getD_eq_getElem?_getD]; exact hsi] at q2
      rw [q2]
      exact q1
    · rename_i c2
      exact absurd h c2
/-! small, same. -/
def smB (l : List Person) : Bool := decide ((l.length : Int) ≤ 150)
def fSmall (l : List Person) : Prop × V := (l.length ≤ 140737488355328, .bool (smB l))
theorem fSmall_eq (l : List Person) : gOf aPers fSmall [.list (l.map Person.enc) false] = (l.length ≤ 140737488355328, .bool (smB l)) := gOf_eq aPers_inj l
theorem small_p : PureC Tryd.prog UT 8 (gOf aPers fSmall) := by
  have hG := tNo_ok
  refine PureC.ofArgs aPers_inj Tryd.func8 body8 nm8 res8 ?_
  rintro l hv
  refine ⟨by rw [nt8]; simp [aPers], fun C hN Q hQ => ?_⟩
  rw [nt8] at hN
  unfold c8
  refine aw_seq (aw_region (EF := EF0) hG (by rw [hN]; exact tr8_0) ?_)
  simp only [a8_0, go_sem, ↓reduceIte, Nat.reduceEqDiff, reduceCtorEq, Nat.reduceAdd, Nat.reduceLT, Nat.reduceLeDiff, Nat.reduceBNe, Nat.reduceBEq, Int.reduceToNat, aPers]
  refine aw_seq (aw_region (EF := EF0) hG (by rw [hN]; exact tr8_1) ?_)
  simp only [a8_1, go_sem, ↓reduceIte, Nat.reduceEqDiff, reduceCtorEq, Nat.reduceAdd, Nat.reduceLT, Nat.reduceLeDiff, Nat.reduceBNe, Nat.reduceBEq, Int.reduceToNat]
  refine aw_ret ?_
  show Q _ _
  refine hQ _ _ (.inl rfl) ?_ ?_ ?_ <;> simp only [outφ, outV, AR.res, go_sem, ↓reduceIte, Nat.reduceEqDiff, reduceCtorEq, Nat.reduceAdd, Nat.reduceLT, Nat.reduceLeDiff, Nat.reduceBNe, Nat.reduceBEq, Int.reduceToNat, fSmall]
  exact congrArg V.bool (decide_eq_decide.2 (by omega))
def aTwoP (x : List Person × List Person) : List V := [.list (x.1.map Person.enc) false, .list (x.2.map Person.enc) false]
theorem aTwoP_inj (a b : List Person × List Person) (h : aTwoP a = aTwoP b) : a = b := by
  obtain ⟨a_a, a_b⟩ := a
  obtain ⟨b_a, b_b⟩ := b
  simp only [aTwoP, List.cons.injEq, V.str.injEq, V.int.injEq, V.bool.injEq, V.agg.injEq, V.list.injEq, and_true, true_and] at h
  obtain ⟨h0, h1⟩ := h
  replace h0 := map_inj' Person.inj h0
  subst h0
  replace h1 := map_inj' Person.inj h1
  subst h1
  rfl
def fSameP (x : List Person × List Person) : Prop × V := (x.1.length ≤ 140737488355328 ∧ x.1 = x.2, .bool true)
theorem sameP_p : PureC Tryd.prog UT 17 (gOf aTwoP fSameP) := by
  have hG := tNo_ok
  refine PureC.ofArgs aTwoP_inj Tryd.func17 body17 nm17 res17 ?_
  rintro ⟨l, l2⟩ hv
  refine ⟨by rw [nt17]; simp [aTwoP], fun C hN Q hQ => ?_⟩
  rw [nt17] at hN
  unfold c17
  obtain ⟨hl, rfl⟩ : l.length ≤ 140737488355328 ∧ l = l2 := hv
  refine aw_seq (aw_region (EF := EF0) hG (by rw [hN]; exact tr17_0) ?_)
  simp only [a17_0, go_sem, ↓reduceIte, Nat.reduceEqDiff, reduceCtorEq, Nat.reduceAdd, Nat.reduceLT, Nat.reduceLeDiff, Nat.reduceBNe, Nat.reduceBEq, Int.reduceToNat, aTwoP]
  refine aw_seq ?_
  refine aw_seq (aw_region (EF := EF0) hG (by rw [hN]; exact tr17_1) ?_)
  simp only [a17_1, go_sem, ↓reduceIte, Nat.reduceEqDiff, reduceCtorEq, Nat.reduceAdd, Nat.reduceLT, Nat.reduceLeDiff, Nat.reduceBNe, Nat.reduceBEq, Int.reduceToNat]
  refine aw_condF rfl ?_
  refine aw_skip ?_
  try simp only [go_sem, ↓reduceIte, Nat.reduceEqDiff, reduceCtorEq, Nat.reduceAdd, Nat.reduceLT, Nat.reduceLeDiff, Nat.reduceBNe, Nat.reduceBEq, Int.reduceToNat]
  refine aw_seq ?_
  refine aw_seq (aw_region (EF := EF0) hG (by rw [hN]; exact tr17_3) ?_)
  simp only [a17_3, go_sem, ↓reduceIte, Nat.reduceEqDiff, reduceCtorEq, Nat.reduceAdd, Nat.reduceLT, Nat.reduceLeDiff, Nat.reduceBNe, Nat.reduceBEq, Int.reduceToNat]
  refine aw_block ?_
  refine aw_loop (α := Nat) (fun i => (i ≤ l.length)) (fun i => ⟨mkE [(0, V.list (List.map Person.enc l) false), (1, V.list (List.map Person.enc l) false), (5, .int .i64 i)], mkH []⟩) (fun i => l.length - i) 0 (by simp) ?_ ?_
  · refine Le.mk _ _ ?_ ?_ rfl <;> simp only [go_sem, ↓reduceIte, Nat.reduceEqDiff, reduceCtorEq, Nat.reduceAdd, Nat.reduceLT, Nat.reduceLeDiff, Nat.reduceBNe, Nat.reduceBEq, Int.reduceToNat] <;> (repeat' apply And.intro) <;> (try first | rfl | exact wk_frzb rfl rfl rfl | exact wk_fn rfl | exact .nilo _ _ _ rfl rfl)
  · rintro i hi KL0 hKL0
    try dsimp only at *
    refine aw_seq ?_
    refine aw_seq (aw_region (EF := EF0) hG (by rw [hN]; exact tr17_4) ?_)
    simp only [a17_4, go_sem, ↓reduceIte, Nat.reduceEqDiff, reduceCtorEq, Nat.reduceAdd, Nat.reduceLT, Nat.reduceLeDiff, Nat.reduceBNe, Nat.reduceBEq, Int.reduceToNat]
    refine aw_cond (b := _) rfl (fun hc4 => ?_) (fun hc4 => ?_)
    · simp only [decide_eq_true_eq, decide_eq_false_iff_not, Bool.and_eq_true, Bool.or_eq_true, Bool.not_eq_true', Bool.not_eq_false', Bool.and_eq_false_iff, Bool.or_eq_false_iff, Int.ofNat_lt, Int.ofNat_le, Nat.not_lt, Nat.not_le, Int.not_lt, Int.not_le] at hc4
      refine aw_skip ?_
      try simp only [go_sem, ↓reduceIte, Nat.reduceEqDiff, reduceCtorEq, Nat.reduceAdd, Nat.reduceLT, Nat.reduceLeDiff, Nat.reduceBNe, Nat.reduceBEq, Int.reduceToNat]
      refine aw_seq ?_
      refine aw_block ?_
      refine aw_seq (aw_regionD (EF := EF0) hG mixed (by rw [hN]; exact tr17_6) ok17_6 ?_)
      simp only [a17_6, d17_6, go_sem, ↓reduceIte, Nat.reduceEqDiff, reduceCtorEq, Nat.reduceAdd, Nat.reduceLT, Nat.reduceLeDiff, Nat.reduceBNe, Nat.reduceBEq, Int.reduceToNat, getD_mapd _ _ _ _ hc4, hc4, Person.enc, evBinA, fitKs, fitK, eqVs, eqV]
      (repeat' apply And.intro) <;> (try first | omega | (intros; (repeat' apply And.intro) <;> first | assumption | omega | (simp_all; done)))
      refine aw_condF rfl ?_
      refine aw_skip ?_
      try simp only [go_sem, ↓reduceIte, Nat.reduceEqDiff, reduceCtorEq, Nat.reduceAdd, Nat.reduceLT, Nat.reduceLeDiff, Nat.reduceBNe, Nat.reduceBEq, Int.reduceToNat]
      refine aw_region (EF := EF0) hG (by rw [hN]; exact tr17_5) ?_
      simp only [a17_5, go_sem, ↓reduceIte, Nat.reduceEqDiff, reduceCtorEq, Nat.reduceAdd, Nat.reduceLT, Nat.reduceLeDiff, Nat.reduceBNe, Nat.reduceBEq, Int.reduceToNat, inI]
      (repeat' apply And.intro) <;> (try first | omega | (intros; (repeat' apply And.intro) <;> first | assumption | omega | (simp_all; done)))
      refine hKL0 (i + 1) _ ?_ ?_ ?_
      · (try dsimp only); first | (refine ⟨?_, ?_⟩ <;> first | omega | assumption) | omega | trivial
      · (try dsimp only); omega
      · refine Le.mk _ _ ?_ ?_ rfl <;> simp only [go_sem, ↓reduceIte, Nat.reduceEqDiff, reduceCtorEq, Nat.reduceAdd, Nat.reduceLT, Nat.reduceLeDiff, Nat.reduceBNe, Nat.reduceBEq, Int.reduceToNat] <;> (repeat' apply And.intro) <;> (try first | rfl | exact wk_frzb rfl rfl rfl | exact wk_fn rfl | exact .nilo _ _ _ rfl rfl)
    · simp only [decide_eq_true_eq, decide_eq_false_iff_not, Bool.and_eq_true, Bool.or_eq_true, Bool.not_eq_true', Bool.not_eq_false', Bool.and_eq_false_iff, Bool.or_eq_false_iff, Int.ofNat_lt, Int.ofNat_le, Nat.not_lt, Nat.not_le, Int.not_lt, Int.not_le] at hc4
      refine aw_exit ?_
      simp only [go_sem, ↓reduceIte, Nat.reduceEqDiff, reduceCtorEq, Nat.reduceAdd, Nat.reduceLT, Nat.reduceLeDiff, Nat.reduceBNe, Nat.reduceBEq, Int.reduceToNat]
      refine aw_seq (aw_region (EF := EF0) hG (by rw [hN]; exact tr17_8) ?_)
      simp only [a17_8, go_sem, ↓reduceIte, Nat.reduceEqDiff, reduceCtorEq, Nat.reduceAdd, Nat.reduceLT, Nat.reduceLeDiff, Nat.reduceBNe, Nat.reduceBEq, Int.reduceToNat]
      refine aw_ret ?_
      show Q _ _
      refine hQ _ _ (.inl rfl) ?_ ?_ ?_ <;> simp only [outφ, outV, AR.res, go_sem, ↓reduceIte, Nat.reduceEqDiff, reduceCtorEq, Nat.reduceAdd, Nat.reduceLT, Nat.reduceLeDiff, Nat.reduceBNe, Nat.reduceBEq, Int.reduceToNat, fSameP]
end Go.Proofs.YtbakkdnhbeldcaaDoor
