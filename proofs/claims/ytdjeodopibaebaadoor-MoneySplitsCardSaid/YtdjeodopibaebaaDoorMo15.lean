/- The laws of splits and of texts. -/
import Derived.Test.YtdjeodopibaebaaDoorMo14
namespace Go.Proofs.YtdjeodopibaebaaDoor
open Go Go.RowKit
set_option linter.unusedSimpArgs false
set_option linter.unusedVariables false
set_option linter.deprecated false
theorem giveAll_len (sg : Int) : ∀ (O : List Nat) (left : Int) (xs : List Int), (giveAll sg O left xs).length = xs.length
  | [], _, _ => rfl
  | i :: O, left, xs => by rw [giveAll]; split <;> rw [giveAll_len sg O] <;> simp
theorem splitM_len (a : Int) (l : List Int) : (splitM a l).2.length ≤ l.length := by
  unfold splitM sharesM
  split
  · exact Nat.zero_le _
  · split
    · exact Nat.zero_le _
    · rw [giveAll_len, List.length_map, qsP, List.length_map]; exact Nat.le_refl _
theorem fSplit_eq (a : Int) (l : List Int) : gOf aSp fSplit [.int .i64 a, .list (ints l) false] = (l.length ≤ 1000000 ∧ inI a ∧ ∀ w ∈ l, inI w, shareV (splitM a l)) := gOf_eq aSp_inj (a, l)
def fL3 (x : Int × List Int) : Prop × V := (x.2.length ≤ 140737488355328 ∧ inI x.1 ∧ ∀ w ∈ x.2, inI w, .bool true)
noncomputable def tL3 : Tab
  | 9 => (gOf aUnit fKn)
  | 20 => (gOf aSp fSplit)
  | 21 => (gOf aSp fSplit)
  | 22 => (gOf aLL fSame)
  | _ => gNo
theorem tL3_ok : ∀ f, PureC Tryd.prog UT f (tL3 f) := fun f => by
  unfold tL3
  split
  · exact knows_p
  · exact split_p
  · exact rsplit_p
  · exact same_p
  · exact PureC.no
theorem law3_p : PureC Tryd.prog UT 5 (gOf aSp fL3) := by
  have hG := tL3_ok
  refine PureC.ofArgs aSp_inj Tryd.func5 body5 nm5 res5 ?_
  rintro ⟨a, l⟩ hv
  refine ⟨by rw [nt5]; simp [aSp], fun C hN Q hQ => ?_⟩
  rw [nt5] at hN
  unfold c5
  obtain ⟨h1, h2, h3⟩ : l.length ≤ 140737488355328 ∧ inI a ∧ ∀ w ∈ l, inI w := hv
  refine aw_seq (aw_region (EF := EF0) hG (by rw [hN]; exact tr5_0) ?_)
  simp only [a5_0, go_sem, ↓reduceIte, Nat.reduceEqDiff, reduceCtorEq, Nat.reduceAdd, Nat.reduceLT, Nat.reduceLeDiff, Nat.reduceBNe, Nat.reduceBEq, Int.reduceToNat, aSp, tL3, fKn_eq, fSplit_eq, fSame_eq, shareV, decide_true]
  refine aw_seq ?_
  refine aw_seq (aw_region (EF := EF0) hG (by rw [hN]; exact tr5_1) ?_)
  simp only [a5_1, go_sem, ↓reduceIte, Nat.reduceEqDiff, reduceCtorEq, Nat.reduceAdd, Nat.reduceLT, Nat.reduceLeDiff, Nat.reduceBNe, Nat.reduceBEq, Int.reduceToNat, tL3, fKn_eq, fSplit_eq, fSame_eq, shareV, decide_true]
  refine aw_cond (b := _) rfl (fun hc1 => ?_) (fun hc1 => ?_)
  · simp only [decide_eq_true_eq, decide_eq_false_iff_not, Bool.and_eq_true, Bool.or_eq_true, Bool.not_eq_true', Bool.not_eq_false', Bool.and_eq_false_iff, Bool.or_eq_false_iff, Int.ofNat_lt, Int.ofNat_le, Nat.not_lt, Nat.not_le, Int.not_lt, Int.not_le] at hc1
    refine aw_seq (aw_region (EF := EF0) hG (by rw [hN]; exact tr5_2) ?_)
    simp only [a5_2, go_sem, ↓reduceIte, Nat.reduceEqDiff, reduceCtorEq, Nat.reduceAdd, Nat.reduceLT, Nat.reduceLeDiff, Nat.reduceBNe, Nat.reduceBEq, Int.reduceToNat, tL3, fKn_eq, fSplit_eq, fSame_eq, shareV, decide_true]
    (repeat' apply And.intro) <;> (try first | omega | ((fail_if_success (refine (id : AW _ _ _ _ _ → AW _ _ _ _ _) ?_)); (fail_if_success (refine (id : EStep _ _ _ _ _ _ _ → EStep _ _ _ _ _ _ _) ?_)); intros; (repeat' apply And.intro) <;> first | assumption | omega | (simp_all; done)))
    refine aw_ret ?_
    show Q _ _
    refine hQ _ _ (.inl rfl) ?_ ?_ ?_ <;> simp only [outφ, outV, AR.res, go_sem, ↓reduceIte, Nat.reduceEqDiff, reduceCtorEq, Nat.reduceAdd, Nat.reduceLT, Nat.reduceLeDiff, Nat.reduceBNe, Nat.reduceBEq, Int.reduceToNat, fL3]
  · simp only [decide_eq_true_eq, decide_eq_false_iff_not, Bool.and_eq_true, Bool.or_eq_true, Bool.not_eq_true', Bool.not_eq_false', Bool.and_eq_false_iff, Bool.or_eq_false_iff, Int.ofNat_lt, Int.ofNat_le, Nat.not_lt, Nat.not_le, Int.not_lt, Int.not_le] at hc1
    refine aw_skip ?_
    try simp only [go_sem, ↓reduceIte, Nat.reduceEqDiff, reduceCtorEq, Nat.reduceAdd, Nat.reduceLT, Nat.reduceLeDiff, Nat.reduceBNe, Nat.reduceBEq, Int.reduceToNat]
    have hl6 : l.length ≤ 1000000 := by omega
    have hsl := splitM_len a l
    have hsl2 : (splitM a l).2.length ≤ 140737488355328 := by omega
    refine aw_seq (aw_region (EF := EF0) hG (by rw [hN]; exact tr5_3) ?_)
    simp only [a5_3, go_sem, ↓reduceIte, Nat.reduceEqDiff, reduceCtorEq, Nat.reduceAdd, Nat.reduceLT, Nat.reduceLeDiff, Nat.reduceBNe, Nat.reduceBEq, Int.reduceToNat, hl6, h2, h3, tL3, fKn_eq, fSplit_eq, fSame_eq, shareV, decide_true]
    (repeat' apply And.intro) <;> (try first | omega | ((fail_if_success (refine (id : AW _ _ _ _ _ → AW _ _ _ _ _) ?_)); (fail_if_success (refine (id : EStep _ _ _ _ _ _ _ → EStep _ _ _ _ _ _ _) ?_)); intros; (repeat' apply And.intro) <;> first | assumption | omega | (simp_all; done)))
    refine aw_seq (aw_region (EF := EF0) hG (by rw [hN]; exact tr5_4) ?_)
    simp only [a5_4, go_sem, ↓reduceIte, Nat.reduceEqDiff, reduceCtorEq, Nat.reduceAdd, Nat.reduceLT, Nat.reduceLeDiff, Nat.reduceBNe, Nat.reduceBEq, Int.reduceToNat, hl6, h2, h3, tL3, fKn_eq, fSplit_eq, fSame_eq, shareV, decide_true]
    (repeat' apply And.intro) <;> (try first | omega | ((fail_if_success (refine (id : AW _ _ _ _ _ → AW _ _ _ _ _) ?_)); (fail_if_success (refine (id : EStep _ _ _ _ _ _ _ → EStep _ _ _ _ _ _ _) ?_)); intros; (repeat' apply And.intro) <;> first | assumption | omega | (simp_all; done)))
    refine aw_seq (aw_region (EF := EF0) hG (by rw [hN]; exact tr5_5) ?_)
    simp only [a5_5, go_sem, ↓reduceIte, Nat.reduceEqDiff, reduceCtorEq, Nat.reduceAdd, Nat.reduceLT, Nat.reduceLeDiff, Nat.reduceBNe, Nat.reduceBEq, Int.reduceToNat, hsl2, tL3, fKn_eq, fSplit_eq, fSame_eq, shareV, decide_true]
    refine aw_ret ?_
    show Q _ _
    refine hQ _ _ (.inl rfl) ?_ ?_ ?_ <;> simp only [outφ, outV, AR.res, go_sem, ↓reduceIte, Nat.reduceEqDiff, reduceCtorEq, Nat.reduceAdd, Nat.reduceLT, Nat.reduceLeDiff, Nat.reduceBNe, Nat.reduceBEq, Int.reduceToNat, fL3]
/-! Texts. -/
theorem dch_nat {d : Nat} (h : d < 10) : (dch d).toNat = 48 + d := by
  have : d = 0 ∨ d = 1 ∨ d = 2 ∨ d = 3 ∨ d = 4 ∨ d = 5 ∨ d = 6 ∨ d = 7 ∨ d = 8 ∨ d = 9 := by omega
  rcases this with rfl | rfl | rfl | rfl | rfl | rfl | rfl | rfl | rfl | rfl <;> rfl
theorem dch_dig {d : Nat} (h : d < 10) : digB ((dch d).toNat : Int) = true := digB_iff.2 (by rw [dch_nat h]; omega)
theorem allB_dch {d : Nat} (h : d < 10) : allB digB [dch d] = true := by simp [allB, dch_dig h]
theorem val_dch {d : Nat} (h : d < 10) (m : Int) : valD m [dch d] = 10 * m + d := by rw [valD, valD, dch_nat h]; omega
theorem val_dd (n : Nat) : valD 0 (Lib.decDigits n) = n ∧ allB digB (Lib.decDigits n) = true ∧ 1 ≤ (Lib.decDigits n).length ∧ (1 ≤ n → (((Lib.decDigits n).getD 0 0).toNat : Int) ≠ 48) ∧ (2 ≤ (Lib.decDigits n).length → 1 ≤ n) := by
  induction n using Nat.strongRecOn with
  | ind n ih =>
    by_cases h : n < 10
    · rw [ddN_small h]
      refine ⟨by rw [val_dch h]; omega, allB_dch h, by simp, fun h1 => ?_, fun h2 => by simp at h2⟩
      show ((dch n).toNat : Int) ≠ 48
      rw [dch_nat h]; omega
    · obtain ⟨i1, i2, i3, i4, i5⟩ := ih (n / 10) (by omega)
      rw [ddN_big (n := n) (by omega)]
      refine ⟨by rw [valD_app, i1, val_dch (by omega)]; omega, by rw [allB_app, i2, allB_dch (by omega)]; rfl, by rw [List.length_append]; simp, fun _ => ?_, fun _ => by omega⟩
      have := i4 (by omega)
      rwa [List.getD_eq_getElem?_getD, List.getElem?_append_left (by omega), ← List.getD_eq_getElem?_getD]
theorem two_spec {k : Int} (h0 : 0 ≤ k) (h1 : k < 100) : (two k).length = 2 ∧ allB digB (two k) = true ∧ ∀ m, valD m (two k) = 100 * m + k := by
  obtain ⟨n, rfl⟩ := Int.eq_ofNat_of_zero_le h0
  unfold two
  rw [Int.toNat_natCast]
  by_cases c : n < 10
  · rw [if_pos (by omega), ddN_small c]
    refine ⟨rfl, ?_, fun m => ?_⟩
    · rw [show [(48 : UInt8), dch n] = [48] ++ [dch n] from rfl, allB_app, allB_dch c]; rfl
    · rw [valD, val_dch c, show ((48 : UInt8).toNat : Int) = 48 from rfl]; omega
  · rw [if_neg (by omega), ddN_big (by omega), ddN_small (show n / 10 < 10 by omega)]
    refine ⟨rfl, ?_, fun m => ?_⟩
    · rw [allB_app, allB_dch (by omega), allB_dch (by omega)]; rfl
    · rw [valD_app, val_dch (by omega), val_dch (by omega)]; omega
theorem par_prn (a : Int) : parM (prn a) = if fitB a = true then (a, 0) else (0, 11) := by
  obtain ⟨A, hA⟩ : ∃ A, A = a.natAbs := ⟨_, rfl⟩
  obtain ⟨D, hD⟩ : ∃ D, D = Lib.decDigits (A / 100) := ⟨_, rfl⟩
  obtain ⟨T, hT⟩ : ∃ T, T = two ((A % 100 : Nat) : Int) := ⟨_, rfl⟩
  have hp : prn a = (if a < 0 then [45] else []) ++ D ++ [46] ++ T := by
    unfold prn
    rw [hD, hT, hA, show ((a.natAbs : Int) / 100).toNat = a.natAbs / 100 by omega]
    rfl
  obtain ⟨d1, d2, d3, d4, d5⟩ := val_dd (A / 100)
  rw [← hD] at d1 d2 d3 d4 d5
  obtain ⟨t1, t2, t3⟩ := two_spec (k := ((A % 100 : Nat) : Int)) (by omega) (by omega)
  rw [← hT] at t1 t2 t3
  obtain ⟨t, ht⟩ : ∃ t, t = D ++ [46] ++ T := ⟨_, rfl⟩
  have hl : t.length = D.length + 3 := by rw [ht, List.length_append, List.length_append, t1]; rfl
  have hd2 : dig2 t = D ++ T := by
    unfold dig2
    rw [hl, show D.length + 3 - 3 = D.length by omega, show D.length + 3 - 2 = D.length + 1 by omega, ht]
    congr 1
    · rw [List.append_assoc, List.take_left]
    · rw [show D.length + 1 = (D ++ [46]).length by simp, List.drop_left]
  have hval : valD 0 (dig2 t) = A := by rw [hd2, valD_app, d1, t3]; omega
  have hD0 : t.getD 0 0 = D.getD 0 0 := by rw [ht, List.append_assoc, List.getD_eq_getElem?_getD, List.getElem?_append_left (by omega), ← List.getD_eq_getElem?_getD]
  have hDc : 48 ≤ ((D.getD 0 0).toNat : Int) := by
    have hm : D.getD 0 0 ∈ D := by
      rw [List.getD_eq_getElem?_getD, List.getElem?_eq_getElem (by omega)]; exact List.getElem_mem _
    exact (digB_iff.1 (List.all_eq_true.1 d2 _ hm)).1
  have hbad : badT t = false := by
    unfold badT
    rw [hd2, allB_app, d2, t2, hl, decide_eq_false (by omega), show D.length + 3 - 3 = D.length by omega]
    have h46 : t.getD D.length 0 = 46 := by rw [ht, List.append_assoc, List.getD_eq_getElem?_getD, List.getElem?_append_right (Nat.le_refl _), Nat.sub_self]; rfl
    rw [h46, hD0]
    by_cases c : 4 < D.length + 3
    · have := d4 (d5 (by omega))
      rw [decide_eq_false this, Bool.and_false]; rfl
    · rw [decide_eq_false c]; rfl
  have hsg : sgT (prn a) = (if a < 0 then -1 else 1, t) := by
    rw [hp, ht]
    by_cases c : a < 0
    · rw [if_pos c, if_pos c]; rfl
    · rw [if_neg c, if_neg c, List.nil_append]
      refine sgT_pos (.inr ?_)
      rw [← ht, hD0]; omega
  have hnz := neg_zero hsg (by split <;> simp) (by omega) hbad
  rw [hval] at hnz
  have hz : decide (prn a = [45, 48, 46, 48, 48]) = false := by
    rw [hnz]
    by_cases c : a < 0
    · rw [decide_eq_false (show ¬ ((A : Int) = 0) by omega)]; rfl
    · rw [if_neg c]; simp
  unfold parM
  rw [hsg]
  dsimp only
  rw [hbad, hz, hval, if_neg (by simp)]
  by_cases c : fitB a = true
  · rw [if_pos c]
    have := fitB_bd c
    rw [if_neg (by omega)]
    congr 1
    split <;> omega
  · rw [if_neg c]
    have c2 : ¬ (-1099511627776 ≤ a ∧ a ≤ 1099511627776) := fun h => c ((fits_iff a).2 h)
    rw [if_pos (by omega)]
theorem prn_len (a : Int) (h : inI a) : (prn a).length ≤ 140737488355328 := by
  unfold inI at h
  unfold prn two
  have h1 := dd_len (n := (a.natAbs : Int) / 100) (by omega)
  have h2 := dd_len (n := (a.natAbs : Int) % 100) (by omega)
  simp only [List.length_append]
  split <;> split <;> simp only [List.length_cons, List.length_nil] <;> omega
def aTx (x : Int × List UInt8) : List V := [.int .i64 x.1, .str x.2]
theorem aTx_inj (a b : Int × List UInt8) (h : aTx a = aTx b) : a = b := by
  obtain ⟨a_a, a_s⟩ := a
  obtain ⟨b_a, b_s⟩ := b
  simp only [aTx, List.cons.injEq, V.str.injEq, V.int.injEq, V.bool.injEq, V.agg.injEq, V.list.injEq, and_true, true_and] at h
  obtain ⟨h0, h1⟩ := h
  subst h0
  subst h1
  rfl
def fL4 (x : Int × List UInt8) : Prop × V := (inI x.1 ∧ x.2.length ≤ 140737488355328, .bool true)
noncomputable def tL4 : Tab
  | 9 => (gOf aUnit fKn)
  | 23 => (gOf aS fPar)
  | 24 => (gOf aS fPar)
  | 25 => (gOf aI fPrn)
  | 27 => (gOf aI fPrn)
  | 26 => (gOf aI fFit)
  | _ => gNo
theorem tL4_ok : ∀ f, PureC Tryd.prog UT f (tL4 f) := fun f => by
  unfold tL4
  split
  · exact knows_p
  · exact parse_p
  · exact rparse_p
  · exact print_p
  · exact rprint_p
  · exact amount_p
  · exact PureC.no
theorem law4_p : PureC Tryd.prog UT 6 (gOf aTx fL4) := by
  have hG := tL4_ok
  refine PureC.ofArgs aTx_inj Tryd.func6 body6 nm6 res6 ?_
  rintro ⟨a, s⟩ hv
  refine ⟨by rw [nt6]; simp [aTx], fun C hN Q hQ => ?_⟩
  rw [nt6] at hN
  unfold c6
  obtain ⟨h1, h2⟩ : inI a ∧ s.length ≤ 140737488355328 := hv
  have hpl := prn_len a h1
  have hpp := par_prn a
  refine aw_seq (aw_region (EF := EF0) hG (by rw [hN]; exact tr6_0) ?_)
  simp only [a6_0, go_sem, ↓reduceIte, Nat.reduceEqDiff, reduceCtorEq, Nat.reduceAdd, Nat.reduceLT, Nat.reduceLeDiff, Nat.reduceBNe, Nat.reduceBEq, Int.reduceToNat, aTx, tL4, fKn_eq, fPar_eq, fPrn_eq, fFit_eq, pairV, decide_true]
  refine aw_seq ?_
  refine aw_seq (aw_region (EF := EF0) hG (by rw [hN]; exact tr6_1) ?_)
  simp only [a6_1, go_sem, ↓reduceIte, Nat.reduceEqDiff, reduceCtorEq, Nat.reduceAdd, Nat.reduceLT, Nat.reduceLeDiff, Nat.reduceBNe, Nat.reduceBEq, Int.reduceToNat, tL4, fKn_eq, fPar_eq, fPrn_eq, fFit_eq, pairV, decide_true]
  refine aw_cond (b := _) rfl (fun hc1 => ?_) (fun hc1 => ?_)
  · simp only [decide_eq_true_eq, decide_eq_false_iff_not, Bool.and_eq_true, Bool.or_eq_true, Bool.not_eq_true', Bool.not_eq_false', Bool.and_eq_false_iff, Bool.or_eq_false_iff, Int.ofNat_lt, Int.ofNat_le, Nat.not_lt, Nat.not_le, Int.not_lt, Int.not_le] at hc1
    refine aw_seq (aw_region (EF := EF0) hG (by rw [hN]; exact tr6_2) ?_)
    simp only [a6_2, go_sem, ↓reduceIte, Nat.reduceEqDiff, reduceCtorEq, Nat.reduceAdd, Nat.reduceLT, Nat.reduceLeDiff, Nat.reduceBNe, Nat.reduceBEq, Int.reduceToNat, tL4, fKn_eq, fPar_eq, fPrn_eq, fFit_eq, pairV, decide_true]
    (repeat' apply And.intro) <;> (try first | omega | ((fail_if_success (refine (id : AW _ _ _ _ _ → AW _ _ _ _ _) ?_)); (fail_if_success (refine (id : EStep _ _ _ _ _ _ _ → EStep _ _ _ _ _ _ _) ?_)); intros; (repeat' apply And.intro) <;> first | assumption | omega | (simp_all; done)))
    refine aw_ret ?_
    show Q _ _
    refine hQ _ _ (.inl rfl) ?_ ?_ ?_ <;> simp only [outφ, outV, AR.res, go_sem, ↓reduceIte, Nat.reduceEqDiff, reduceCtorEq, Nat.reduceAdd, Nat.reduceLT, Nat.reduceLeDiff, Nat.reduceBNe, Nat.reduceBEq, Int.reduceToNat, fL4]
  · simp only [decide_eq_true_eq, decide_eq_false_iff_not, Bool.and_eq_true, Bool.or_eq_true, Bool.not_eq_true', Bool.not_eq_false', Bool.and_eq_false_iff, Bool.or_eq_false_iff, Int.ofNat_lt, Int.ofNat_le, Nat.not_lt, Nat.not_le, Int.not_lt, Int.not_le] at hc1
    refine aw_skip ?_
    try simp only [go_sem, ↓reduceIte, Nat.reduceEqDiff, reduceCtorEq, Nat.reduceAdd, Nat.reduceLT, Nat.reduceLeDiff, Nat.reduceBNe, Nat.reduceBEq, Int.reduceToNat]
    refine aw_seq (aw_region (EF := EF0) hG (by rw [hN]; exact tr6_3) ?_)
    simp only [a6_3, go_sem, ↓reduceIte, Nat.reduceEqDiff, reduceCtorEq, Nat.reduceAdd, Nat.reduceLT, Nat.reduceLeDiff, Nat.reduceBNe, Nat.reduceBEq, Int.reduceToNat, h2, tL4, fKn_eq, fPar_eq, fPrn_eq, fFit_eq, pairV, decide_true]
    (repeat' apply And.intro) <;> (try first | omega | ((fail_if_success (refine (id : AW _ _ _ _ _ → AW _ _ _ _ _) ?_)); (fail_if_success (refine (id : EStep _ _ _ _ _ _ _ → EStep _ _ _ _ _ _ _) ?_)); intros; (repeat' apply And.intro) <;> first | assumption | omega | (simp_all; done)))
    refine aw_seq (aw_region (EF := EF0) hG (by rw [hN]; exact tr6_4) ?_)
    simp only [a6_4, go_sem, ↓reduceIte, Nat.reduceEqDiff, reduceCtorEq, Nat.reduceAdd, Nat.reduceLT, Nat.reduceLeDiff, Nat.reduceBNe, Nat.reduceBEq, Int.reduceToNat, h2, tL4, fKn_eq, fPar_eq, fPrn_eq, fFit_eq, pairV, decide_true]
    (repeat' apply And.intro) <;> (try first | omega | ((fail_if_success (refine (id : AW _ _ _ _ _ → AW _ _ _ _ _) ?_)); (fail_if_success (refine (id : EStep _ _ _ _ _ _ _ → EStep _ _ _ _ _ _ _) ?_)); intros; (repeat' apply And.intro) <;> first | assumption | omega | (simp_all; done)))
    refine aw_seq (aw_region (EF := EF0) hG (by rw [hN]; exact tr6_5) ?_)
    simp only [a6_5, go_sem, ↓reduceIte, Nat.reduceEqDiff, reduceCtorEq, Nat.reduceAdd, Nat.reduceLT, Nat.reduceLeDiff, Nat.reduceBNe, Nat.reduceBEq, Int.reduceToNat, h1, hpl, tL4, fKn_eq, fPar_eq, fPrn_eq, fFit_eq, pairV, decide_true]
    refine aw_seq ?_
    by_cases hf : fitB a = true
    · skip
      refine aw_seq (aw_region (EF := EF0) hG (by rw [hN]; exact tr6_6) ?_)
      simp only [a6_6, go_sem, ↓reduceIte, Nat.reduceEqDiff, reduceCtorEq, Nat.reduceAdd, Nat.reduceLT, Nat.reduceLeDiff, Nat.reduceBNe, Nat.reduceBEq, Int.reduceToNat, tL4, fKn_eq, fPar_eq, fPrn_eq, fFit_eq, pairV, decide_true, hpp, hf, if_true]
      (repeat' apply And.intro) <;> (try first | omega | ((fail_if_success (refine (id : AW _ _ _ _ _ → AW _ _ _ _ _) ?_)); (fail_if_success (refine (id : EStep _ _ _ _ _ _ _ → EStep _ _ _ _ _ _ _) ?_)); intros; (repeat' apply And.intro) <;> first | assumption | omega | (simp_all; done)))
      refine aw_condF rfl ?_
      refine aw_skip ?_
      try simp only [go_sem, ↓reduceIte, Nat.reduceEqDiff, reduceCtorEq, Nat.reduceAdd, Nat.reduceLT, Nat.reduceLeDiff, Nat.reduceBNe, Nat.reduceBEq, Int.reduceToNat]
      refine aw_seq (aw_region (EF := EF0) hG (by rw [hN]; exact tr6_8) ?_)
      simp only [a6_8, go_sem, ↓reduceIte, Nat.reduceEqDiff, reduceCtorEq, Nat.reduceAdd, Nat.reduceLT, Nat.reduceLeDiff, Nat.reduceBNe, Nat.reduceBEq, Int.reduceToNat, h1, tL4, fKn_eq, fPar_eq, fPrn_eq, fFit_eq, pairV, decide_true]
      (repeat' apply And.intro) <;> (try first | omega | ((fail_if_success (refine (id : AW _ _ _ _ _ → AW _ _ _ _ _) ?_)); (fail_if_success (refine (id : EStep _ _ _ _ _ _ _ → EStep _ _ _ _ _ _ _) ?_)); intros; (repeat' apply And.intro) <;> first | assumption | omega | (simp_all; done)))
      refine aw_ret ?_
      show Q _ _
      refine hQ _ _ (.inl rfl) ?_ ?_ ?_ <;> simp only [outφ, outV, AR.res, go_sem, ↓reduceIte, Nat.reduceEqDiff, reduceCtorEq, Nat.reduceAdd, Nat.reduceLT, Nat.reduceLeDiff, Nat.reduceBNe, Nat.reduceBEq, Int.reduceToNat, fL4]
    · skip
      replace hf := Bool.eq_false_iff.2 hf
      refine aw_seq (aw_region (EF := EF0) hG (by rw [hN]; exact tr6_6) ?_)
      simp only [a6_6, go_sem, ↓reduceIte, Nat.reduceEqDiff, reduceCtorEq, Nat.reduceAdd, Nat.reduceLT, Nat.reduceLeDiff, Nat.reduceBNe, Nat.reduceBEq, Int.reduceToNat, tL4, fKn_eq, fPar_eq, fPrn_eq, fFit_eq, pairV, decide_true, hpp, hf, Bool.false_eq_true, if_false]
      (repeat' apply And.intro) <;> (try first | omega | ((fail_if_success (refine (id : AW _ _ _ _ _ → AW _ _ _ _ _) ?_)); (fail_if_success (refine (id : EStep _ _ _ _ _ _ _ → EStep _ _ _ _ _ _ _) ?_)); intros; (repeat' apply And.intro) <;> first | assumption | omega | (simp_all; done)))
      refine aw_condF rfl ?_
      refine aw_skip ?_
      try simp only [go_sem, ↓reduceIte, Nat.reduceEqDiff, reduceCtorEq, Nat.reduceAdd, Nat.reduceLT, Nat.reduceLeDiff, Nat.reduceBNe, Nat.reduceBEq, Int.reduceToNat]
      refine aw_seq (aw_region (EF := EF0) hG (by rw [hN]; exact tr6_8) ?_)
      simp only [a6_8, go_sem, ↓reduceIte, Nat.reduceEqDiff, reduceCtorEq, Nat.reduceAdd, Nat.reduceLT, Nat.reduceLeDiff, Nat.reduceBNe, Nat.reduceBEq, Int.reduceToNat, h1, tL4, fKn_eq, fPar_eq, fPrn_eq, fFit_eq, pairV, decide_true]
      (repeat' apply And.intro) <;> (try first | omega | ((fail_if_success (refine (id : AW _ _ _ _ _ → AW _ _ _ _ _) ?_)); (fail_if_success (refine (id : EStep _ _ _ _ _ _ _ → EStep _ _ _ _ _ _ _) ?_)); intros; (repeat' apply And.intro) <;> first | assumption | omega | (simp_all; done)))
      refine aw_ret ?_
      show Q _ _
      refine hQ _ _ (.inl rfl) ?_ ?_ ?_ <;> simp only [outφ, outV, AR.res, go_sem, ↓reduceIte, Nat.reduceEqDiff, reduceCtorEq, Nat.reduceAdd, Nat.reduceLT, Nat.reduceLeDiff, Nat.reduceBNe, Nat.reduceBEq, Int.reduceToNat, fL4]
end Go.Proofs.YtdjeodopibaebaaDoor
