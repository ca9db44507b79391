/- Amounts: what fits, sums and differences, both. -/
import Derived.Test.YtkdkjbneohdofaaDoorT3
namespace Go.Proofs.YtkdkjbneohdofaaDoor
open Go Go.RowKit
set_option linter.unusedSimpArgs false
set_option linter.unusedVariables false
set_option linter.deprecated false
def aI (x : Int) : List V := [.int .i64 x]
theorem aI_inj (a b : Int) (h : aI a = aI b) : a = b := by
  simp only [aI, List.cons.injEq, V.str.injEq, V.int.injEq, V.bool.injEq, V.agg.injEq, V.list.injEq, and_true, true_and] at h
  have h0 := h
  subst h0
  rfl
def aTwo (x : Int × Int) : List V := [.int .i64 x.1, .int .i64 x.2]
theorem aTwo_inj (a b : Int × Int) (h : aTwo a = aTwo b) : a = b := by
  obtain ⟨a_a, a_b⟩ := a
  obtain ⟨b_a, b_b⟩ := b
  simp only [aTwo, List.cons.injEq, V.str.injEq, V.int.injEq, V.bool.injEq, V.agg.injEq, V.list.injEq, and_true, true_and] at h
  obtain ⟨h0, h1⟩ := h
  subst h0
  subst h1
  rfl
def aLi (x : List Int) : List V := [.list (ints x) false]
theorem aLi_inj (a b : List Int) (h : aLi a = aLi b) : a = b := by
  simp only [aLi, List.cons.injEq, V.str.injEq, V.int.injEq, V.bool.injEq, V.agg.injEq, V.list.injEq, and_true, true_and] at h
  have h0 := h
  replace h0 := ints_inj h0
  subst h0
  rfl
def fitB (n : Int) : Bool := decide (-1099511627776 ≤ n) && decide (n ≤ 1099511627776)
def fFit (n : Int) : Prop × V := (True, .bool (fitB n))
theorem fFit_eq (n : Int) : gOf aI fFit [.int .i64 n] = (True, .bool (fitB n)) := gOf_eq aI_inj n
theorem fitB_bd {n : Int} (h : fitB n = true) : -1099511627776 ≤ n ∧ n ≤ 1099511627776 := by
  unfold fitB at h
  simp only [Bool.and_eq_true, decide_eq_true_eq] at h
  exact h
theorem fits_p : PureC Tryd.prog UT 36 (gOf aI fFit) := by
  have hG := tNo_ok
  refine PureC.ofArgs aI_inj Tryd.func36 body36 nm36 res36 ?_
  rintro n hv
  refine ⟨by rw [nt36]; simp [aI], fun C hN Q hQ => ?_⟩
  rw [nt36] at hN
  unfold c36
  refine aw_seq (aw_region (EF := EF0) hG (by rw [hN]; exact tr36_0) ?_)
  simp only [a36_0, go_sem, ↓reduceIte, Nat.reduceEqDiff, reduceCtorEq, Nat.reduceAdd, Nat.reduceLT, Nat.reduceLeDiff, Nat.reduceBNe, Nat.reduceBEq, Int.reduceToNat, aI]
  refine aw_seq (aw_region (EF := EF0) hG (by rw [hN]; exact tr36_1) ?_)
  simp only [a36_1, go_sem, ↓reduceIte, Nat.reduceEqDiff, reduceCtorEq, Nat.reduceAdd, Nat.reduceLT, Nat.reduceLeDiff, Nat.reduceBNe, Nat.reduceBEq, Int.reduceToNat]
  (repeat' apply And.intro) <;> (try first | omega | ((fail_if_success refine idW ?_); (fail_if_success refine idS ?_); intros; (repeat' apply And.intro) <;> first | assumption | omega | (simp_all; done)))
  refine aw_ret ?_
  show Q _ _
  refine hQ _ _ (.inl rfl) ?_ ?_ ?_ <;> simp only [outφ, outV, AR.res, go_sem, ↓reduceIte, Nat.reduceEqDiff, reduceCtorEq, Nat.reduceAdd, Nat.reduceLT, Nat.reduceLeDiff, Nat.reduceBNe, Nat.reduceBEq, Int.reduceToNat, fFit, fitB]
/-- What Add returns. -/
def addP (a b : Int) : Int × Int := if fitB a && fitB b && fitB (a + b) then (a + b, 0) else (0, 11)
/-- What Sum returns, from a sum on. -/
def sumF (n : Int) : List Int → Int × Int
  | [] => (n, 0)
  | x :: l => if fitB x && fitB (n + x) then sumF (n + x) l else (0, 11)
def pairV (y : Int × Int) : V := .tup [.int .i64 y.1, .int .i64 y.2]
def fSum (l : List Int) : Prop × V := (l.length ≤ 140737488355328, pairV (sumF 0 l))
def fAdd (x : Int × Int) : Prop × V := (True, pairV (addP x.1 x.2))
def fSub (x : Int × Int) : Prop × V := (True, pairV (addP x.1 (-x.2)))
theorem fAdd_eq (a b : Int) : gOf aTwo fAdd [.int .i64 a, .int .i64 b] = (True, pairV (addP a b)) := gOf_eq aTwo_inj (a, b)
theorem add_bad {a b : Int} (h : fitB b = false) : addP a (-b) = (0, 11) := by
  have : fitB (-b) = false := by
    unfold fitB at h ⊢
    simp only [Bool.and_eq_false_iff, decide_eq_false_iff_not] at h ⊢
    omega
  unfold addP
  rw [this]; simp
theorem sumF_step {s x : Int} {l : List Int} (hs : fitB s = true) : sumF s (x :: l) = if (addP s x).2 = 0 then sumF (s + x) l else (0, 11) := by
  rw [sumF]
  unfold addP
  rw [hs, Bool.true_and]
  split <;> rfl
theorem add_z {a b : Int} (h : (addP a b).2 = 0) : (addP a b).1 = a + b ∧ fitB (a + b) = true := by
  unfold addP at h ⊢
  split
  · rename_i c; simp only [Bool.and_eq_true] at c; exact ⟨rfl, c.2⟩
  · rename_i c; rw [if_neg c] at h; cases h
theorem add_nz {a b : Int} (h : (addP a b).2 ≠ 0) : (addP a b).2 = 11 := by
  unfold addP at h ⊢
  split
  · rename_i c; rw [if_pos c] at h; exact absurd rfl h
  · rfl
noncomputable def tpS : Tab
  | 36 => (gOf aI fFit)
  | _ => gNo
theorem tpS_ok : ∀ f, PureC Tryd.prog UT f (tpS f) := fun f => by
  unfold tpS
  split
  · exact fits_p
  · exact PureC.no
theorem sumF_go {s x : Int} {l : List Int} (h1 : fitB x = true) (h2 : fitB (s + x) = true) : sumF s (x :: l) = sumF (s + x) l := by rw [sumF, h1, h2]; rfl
theorem sumF_no {s x : Int} {l : List Int} (h : fitB x = false ∨ fitB (s + x) = false) : sumF s (x :: l) = (0, 11) := by
  rw [sumF]
  rcases h with h | h
  · rw [h]; rfl
  · rw [h, Bool.and_false]; rfl
theorem sum_p : PureC Tryd.prog UT 25 (gOf aLi fSum) := by
  have hG := tpS_ok
  refine PureC.ofArgs aLi_inj Tryd.func25 body25 nm25 res25 ?_
  rintro l hv
  refine ⟨by rw [nt25]; simp [aLi], fun C hN Q hQ => ?_⟩
  rw [nt25] at hN
  unfold c25
  replace hv : l.length ≤ 140737488355328 := hv
  refine aw_seq (aw_region (EF := EF0) hG (by rw [hN]; exact tr25_0) ?_)
  simp only [a25_0, go_sem, ↓reduceIte, Nat.reduceEqDiff, reduceCtorEq, Nat.reduceAdd, Nat.reduceLT, Nat.reduceLeDiff, Nat.reduceBNe, Nat.reduceBEq, Int.reduceToNat, aLi, tpS, fFit_eq]
  refine aw_seq (aw_region (EF := EF0) hG (by rw [hN]; exact tr25_1) ?_)
  simp only [a25_1, go_sem, ↓reduceIte, Nat.reduceEqDiff, reduceCtorEq, Nat.reduceAdd, Nat.reduceLT, Nat.reduceLeDiff, Nat.reduceBNe, Nat.reduceBEq, Int.reduceToNat, tpS, fFit_eq]
  refine aw_seq ?_
  refine aw_seq (aw_region (EF := EF0) hG (by rw [hN]; exact tr25_2) ?_)
  simp only [a25_2, go_sem, ↓reduceIte, Nat.reduceEqDiff, reduceCtorEq, Nat.reduceAdd, Nat.reduceLT, Nat.reduceLeDiff, Nat.reduceBNe, Nat.reduceBEq, Int.reduceToNat, tpS, fFit_eq]
  refine aw_block ?_
  refine aw_loop (α := Nat × Int) (fun γ => (γ.1 ≤ l.length) ∧ (sumF 0 l = sumF γ.2 (l.drop γ.1)) ∧ (fitB γ.2 = true)) (fun γ => ⟨mkE [(4, .int .i64 γ.2), (7, V.list (ints l) false), (8, V.int IntKind.i64 ↑l.length), (9, .int .i64 γ.1)], mkH []⟩) (fun γ => l.length - γ.1) (0, 0) ⟨Nat.zero_le _, rfl, rfl⟩ ?_ ?_
  · refine Le.mk _ _ ?_ ?_ rfl <;> simp only [go_sem, ↓reduceIte, Nat.reduceEqDiff, reduceCtorEq, Nat.reduceAdd, Nat.reduceLT, Nat.reduceLeDiff, Nat.reduceBNe, Nat.reduceBEq, Int.reduceToNat] <;> (repeat' apply And.intro) <;> (try first | rfl | exact wk_frzb rfl rfl rfl | exact wk_fn rfl | exact .nilo _ _ _ rfl rfl | exact wk_frzm rfl rfl (fun kv hk => by obtain ⟨_, _, rfl⟩ := List.mem_map.1 hk; rfl))
  · rintro ⟨i, s⟩ ⟨hi, hs, hf⟩ KL0 hKL0
    try dsimp only at *
    refine aw_seq (aw_region (EF := EF0) hG (by rw [hN]; exact tr25_3) ?_)
    simp only [a25_3, go_sem, ↓reduceIte, Nat.reduceEqDiff, reduceCtorEq, Nat.reduceAdd, Nat.reduceLT, Nat.reduceLeDiff, Nat.reduceBNe, Nat.reduceBEq, Int.reduceToNat, tpS, fFit_eq]
    refine aw_seq ?_
    refine aw_cond (b := _) rfl (fun hc3 => ?_) (fun hc3 => ?_)
    · simp only [decide_eq_true_eq, decide_eq_false_iff_not, Bool.and_eq_true, Bool.or_eq_true, Bool.not_eq_true', Bool.not_eq_false', Bool.and_eq_false_iff, Bool.or_eq_false_iff, Int.ofNat_lt, Int.ofNat_le, Nat.not_lt, Nat.not_le, Int.not_lt, Int.not_le] at hc3
      refine aw_skip ?_
      try simp only [go_sem, ↓reduceIte, Nat.reduceEqDiff, reduceCtorEq, Nat.reduceAdd, Nat.reduceLT, Nat.reduceLeDiff, Nat.reduceBNe, Nat.reduceBEq, Int.reduceToNat]
      refine aw_seq ?_
      refine aw_block ?_
      have hd := List.drop_eq_getElem_cons hc3
      rw [hd] at hs
      have hsb := fitB_bd hf
      generalize hxx : l[i] = x at hs
      refine aw_seq (aw_region (EF := EF0) hG (by rw [hN]; exact tr25_4) ?_)
      simp only [a25_4, go_sem, ↓reduceIte, Nat.reduceEqDiff, reduceCtorEq, Nat.reduceAdd, Nat.reduceLT, Nat.reduceLeDiff, Nat.reduceBNe, Nat.reduceBEq, Int.reduceToNat, ints_getD _ _ _ hc3, hc3, hxx, tpS, fFit_eq]
      (repeat' apply And.intro) <;> (try first | omega | ((fail_if_success refine idW ?_); (fail_if_success refine idS ?_); intros; (repeat' apply And.intro) <;> first | assumption | omega | (simp_all; done)))
      refine aw_seq ?_
      refine aw_seq (aw_region (EF := EF0) hG (by rw [hN]; exact tr25_5) ?_)
      simp only [a25_5, go_sem, ↓reduceIte, Nat.reduceEqDiff, reduceCtorEq, Nat.reduceAdd, Nat.reduceLT, Nat.reduceLeDiff, Nat.reduceBNe, Nat.reduceBEq, Int.reduceToNat, inI, tpS, fFit_eq]
      (repeat' apply And.intro) <;> (try first | omega | ((fail_if_success refine idW ?_); (fail_if_success refine idS ?_); intros; (repeat' apply And.intro) <;> first | assumption | omega | (simp_all; done)) | (intro h2; refine ⟨h2, ?_⟩; have hx2 := fitB_bd (by simpa using h2 : fitB x = true); omega))
      refine aw_cond (b := _) rfl (fun hb5 => ?_) (fun hb5 => ?_)
      · skip
        refine aw_seq (aw_region (EF := EF0) hG (by rw [hN]; exact tr25_6) ?_)
        simp only [a25_6, go_sem, ↓reduceIte, Nat.reduceEqDiff, reduceCtorEq, Nat.reduceAdd, Nat.reduceLT, Nat.reduceLeDiff, Nat.reduceBNe, Nat.reduceBEq, Int.reduceToNat, tpS, fFit_eq]
        refine aw_ret ?_
        show Q _ _
        refine hQ _ _ (.inl rfl) ?_ ?_ ?_ <;> simp only [outφ, outV, AR.res, go_sem, ↓reduceIte, Nat.reduceEqDiff, reduceCtorEq, Nat.reduceAdd, Nat.reduceLT, Nat.reduceLeDiff, Nat.reduceBNe, Nat.reduceBEq, Int.reduceToNat, fSum]
        rw [hs, sumF_no (by simpa using hb5)]; rfl
      · skip
        have h3 : fitB x = true ∧ fitB (s + x) = true := by simpa using hb5
        have hx3 := fitB_bd h3.2
        refine aw_skip ?_
        try simp only [go_sem, ↓reduceIte, Nat.reduceEqDiff, reduceCtorEq, Nat.reduceAdd, Nat.reduceLT, Nat.reduceLeDiff, Nat.reduceBNe, Nat.reduceBEq, Int.reduceToNat]
        refine aw_region (EF := EF0) hG (by rw [hN]; exact tr25_7) ?_
        simp only [a25_7, go_sem, ↓reduceIte, Nat.reduceEqDiff, reduceCtorEq, Nat.reduceAdd, Nat.reduceLT, Nat.reduceLeDiff, Nat.reduceBNe, Nat.reduceBEq, Int.reduceToNat, inI, tpS, fFit_eq]
        (repeat' apply And.intro) <;> (try first | omega | ((fail_if_success refine idW ?_); (fail_if_success refine idS ?_); intros; (repeat' apply And.intro) <;> first | assumption | omega | (simp_all; done)))
        refine aw_region (EF := EF0) hG (by rw [hN]; exact tr25_8) ?_
        simp only [a25_8, go_sem, ↓reduceIte, Nat.reduceEqDiff, reduceCtorEq, Nat.reduceAdd, Nat.reduceLT, Nat.reduceLeDiff, Nat.reduceBNe, Nat.reduceBEq, Int.reduceToNat, inI, tpS, fFit_eq]
        (repeat' apply And.intro) <;> (try first | omega | ((fail_if_success refine idW ?_); (fail_if_success refine idS ?_); intros; (repeat' apply And.intro) <;> first | assumption | omega | (simp_all; done)))
        refine hKL0 (i + 1, s + x) _ ?_ ?_ ?_
        · (try dsimp only); exact ⟨hc3, by rw [hs, sumF_go h3.1 h3.2], h3.2⟩
        · (try dsimp only); omega
        · refine Le.mk _ _ ?_ ?_ rfl <;> simp only [go_sem, ↓reduceIte, Nat.reduceEqDiff, reduceCtorEq, Nat.reduceAdd, Nat.reduceLT, Nat.reduceLeDiff, Nat.reduceBNe, Nat.reduceBEq, Int.reduceToNat] <;> (repeat' apply And.intro) <;> (try first | rfl | exact wk_frzb rfl rfl rfl | exact wk_fn rfl | exact .nilo _ _ _ rfl rfl | exact wk_frzm rfl rfl (fun kv hk => by obtain ⟨_, _, rfl⟩ := List.mem_map.1 hk; rfl))
    · simp only [decide_eq_true_eq, decide_eq_false_iff_not, Bool.and_eq_true, Bool.or_eq_true, Bool.not_eq_true', Bool.not_eq_false', Bool.and_eq_false_iff, Bool.or_eq_false_iff, Int.ofNat_lt, Int.ofNat_le, Nat.not_lt, Nat.not_le, Int.not_lt, Int.not_le] at hc3
      refine aw_exit ?_
      simp only [go_sem, ↓reduceIte, Nat.reduceEqDiff, reduceCtorEq, Nat.reduceAdd, Nat.reduceLT, Nat.reduceLeDiff, Nat.reduceBNe, Nat.reduceBEq, Int.reduceToNat]
      have hie : i = l.length := Nat.le_antisymm hi hc3
      subst hie
      rw [List.drop_length, sumF] at hs
      refine aw_seq (aw_region (EF := EF0) hG (by rw [hN]; exact tr25_9) ?_)
      simp only [a25_9, go_sem, ↓reduceIte, Nat.reduceEqDiff, reduceCtorEq, Nat.reduceAdd, Nat.reduceLT, Nat.reduceLeDiff, Nat.reduceBNe, Nat.reduceBEq, Int.reduceToNat, tpS, fFit_eq]
      refine aw_ret ?_
      show Q _ _
      refine hQ _ _ (.inl rfl) ?_ ?_ ?_ <;> simp only [outφ, outV, AR.res, go_sem, ↓reduceIte, Nat.reduceEqDiff, reduceCtorEq, Nat.reduceAdd, Nat.reduceLT, Nat.reduceLeDiff, Nat.reduceBNe, Nat.reduceBEq, Int.reduceToNat, fSum]
      rw [hs]; rfl
theorem addP_sum (a b : Int) : sumF 0 [a, b] = addP a b := by
  unfold sumF sumF sumF addP
  rw [Int.zero_add]
  cases fitB a <;> cases fitB b <;> cases fitB (a + b) <;> simp
theorem fSum_two (a b : Int) : gOf aLi fSum [.list [[.int .i64 a], [.int .i64 b]] false] = (True, pairV (addP a b)) := by
  have h : gOf aLi fSum (aLi [a, b]) = fSum [a, b] := gOf_eq aLi_inj [a, b]
  rw [← addP_sum]
  exact h.trans (by unfold fSum; rw [eq_true (show ([a, b] : List Int).length ≤ 140737488355328 from of_decide_eq_true rfl)])
theorem addN (a b : Int) : addP a (-b) = if fitB a && fitB b && fitB (a - b) then (a - b, 0) else (0, 11) := by
  have : fitB (-b) = fitB b := by
    unfold fitB
    rw [Bool.eq_iff_iff]
    simp only [Bool.and_eq_true, decide_eq_true_eq]
    omega
  unfold addP
  rw [this, ← Int.sub_eq_add_neg]
end Go.Proofs.YtkdkjbneohdofaaDoor
