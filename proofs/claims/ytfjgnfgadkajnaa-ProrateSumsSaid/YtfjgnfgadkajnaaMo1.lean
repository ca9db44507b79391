/- Amounts: what fits, sums and differences, both. -/
import Derived.Test.YtfjgnfgadkajnaaT3
namespace Go.Proofs.Ytfjgnfgadkajnaa
open Go Go.RowKit
set_option linter.unusedSimpArgs false
set_option linter.unusedVariables false
set_option linter.deprecated false
def aI (x : Int) : List V := [.int .i64 x]
theorem aI_inj (a b : Int) (h : aI a = aI b) : a = b := by
  simp only [aI, List.cons.injEq, V.str.injEq, V.int.injEq, V.bool.injEq, V.agg.injEq, V.list.injEq, and_true, true_and] at h
  have h0 := h
  subst h0
  rfl
def aLi (x : List Int) : List V := [.list (ints x) false]
theorem aLi_inj (a b : List Int) (h : aLi a = aLi b) : a = b := by
  simp only [aLi, List.cons.injEq, V.str.injEq, V.int.injEq, V.bool.injEq, V.agg.injEq, V.list.injEq, and_true, true_and] at h
  have h0 := h
  replace h0 := ints_inj h0
  subst h0
  rfl
def fitB (n : Int) : Bool := decide (-1099511627776 ≤ n) && decide (n ≤ 1099511627776)
def fFit (n : Int) : Prop × V := (True, .bool (fitB n))
theorem fFit_eq (n : Int) : gOf aI fFit [.int .i64 n] = (True, .bool (fitB n)) := gOf_eq aI_inj n
theorem fitB_bd {n : Int} (h : fitB n = true) : -1099511627776 ≤ n ∧ n ≤ 1099511627776 := by
  unfold fitB at h
  simp only [Bool.and_eq_true, decide_eq_true_eq] at h
  exact h
theorem fits_p : PureC Try.prog UT 27 (gOf aI fFit) := by
  have hG := tNo_ok
  refine PureC.ofArgs aI_inj Try.func27 body27 nm27 res27 ?_
  rintro n hv
  refine ⟨by rw [nt27]; simp [aI], fun C hN Q hQ => ?_⟩
  rw [nt27] at hN
  unfold c27
  refine aw_seq (aw_region (EF := EF0) hG (by rw [hN]; exact tr27_0) ?_)
  simp only [a27_0, go_sem, ↓reduceIte, Nat.reduceEqDiff, reduceCtorEq, Nat.reduceAdd, Nat.reduceLT, Nat.reduceLeDiff, Nat.reduceBNe, Nat.reduceBEq, Int.reduceToNat, aI]
  refine aw_seq (aw_region (EF := EF0) hG (by rw [hN]; exact tr27_1) ?_)
  simp only [a27_1, go_sem, ↓reduceIte, Nat.reduceEqDiff, reduceCtorEq, Nat.reduceAdd, Nat.reduceLT, Nat.reduceLeDiff, Nat.reduceBNe, Nat.reduceBEq, Int.reduceToNat]
  (repeat' apply And.intro) <;> (try first | omega | ((fail_if_success refine idW ?_); (fail_if_success refine idS ?_); intros; (repeat' apply And.intro) <;> first | assumption | omega | (simp_all; done)))
  refine aw_ret ?_
  show Q _ _
  refine hQ _ _ (.inl rfl) ?_ ?_ ?_ <;> simp only [outφ, outV, AR.res, go_sem, ↓reduceIte, Nat.reduceEqDiff, reduceCtorEq, Nat.reduceAdd, Nat.reduceLT, Nat.reduceLeDiff, Nat.reduceBNe, Nat.reduceBEq, Int.reduceToNat, fFit, fitB]
/-- What Sum returns, from a sum on. -/
def sumF (n : Int) : List Int → Int × Int
  | [] => (n, 0)
  | x :: l => if fitB x && fitB (n + x) then sumF (n + x) l else (0, 11)
def pairV (y : Int × Int) : V := .tup [.int .i64 y.1, .int .i64 y.2]
def fSum (l : List Int) : Prop × V := (l.length ≤ 140737488355328, pairV (sumF 0 l))
noncomputable def tpS : Tab
  | 27 => (gOf aI fFit)
  | _ => gNo
theorem tpS_ok : ∀ f, PureC Try.prog UT f (tpS f) := fun f => by
  unfold tpS
  split
  · exact fits_p
  · exact PureC.no
theorem sumF_go {s x : Int} {l : List Int} (h1 : fitB x = true) (h2 : fitB (s + x) = true) : sumF s (x :: l) = sumF (s + x) l := by rw [sumF, h1, h2]; rfl
theorem sumF_no {s x : Int} {l : List Int} (h : fitB x = false ∨ fitB (s + x) = false) : sumF s (x :: l) = (0, 11) := by
  rw [sumF]
  rcases h with h | h
  · rw [h]; rfl
  · rw [h, Bool.and_false]; rfl
theorem sum_p : PureC Try.prog UT 35 (gOf aLi fSum) := by
  have hG := tpS_ok
  refine PureC.ofArgs aLi_inj Try.func35 body35 nm35 res35 ?_
  rintro l hv
  refine ⟨by rw [nt35]; simp [aLi], fun C hN Q hQ => ?_⟩
  rw [nt35] at hN
  unfold c35
  replace hv : l.length ≤ 140737488355328 := hv
  refine aw_seq (aw_region (EF := EF0) hG (by rw [hN]; exact tr35_0) ?_)
  simp only [a35_0, go_sem, ↓reduceIte, Nat.reduceEqDiff, reduceCtorEq, Nat.reduceAdd, Nat.reduceLT, Nat.reduceLeDiff, Nat.reduceBNe, Nat.reduceBEq, Int.reduceToNat, aLi, tpS, fFit_eq]
  refine aw_seq (aw_region (EF := EF0) hG (by rw [hN]; exact tr35_1) ?_)
  simp only [a35_1, go_sem, ↓reduceIte, Nat.reduceEqDiff, reduceCtorEq, Nat.reduceAdd, Nat.reduceLT, Nat.reduceLeDiff, Nat.reduceBNe, Nat.reduceBEq, Int.reduceToNat, tpS, fFit_eq]
  refine aw_seq ?_
  refine aw_seq (aw_region (EF := EF0) hG (by rw [hN]; exact tr35_2) ?_)
  simp only [a35_2, go_sem, ↓reduceIte, Nat.reduceEqDiff, reduceCtorEq, Nat.reduceAdd, Nat.reduceLT, Nat.reduceLeDiff, Nat.reduceBNe, Nat.reduceBEq, Int.reduceToNat, tpS, fFit_eq]
  refine aw_block ?_
  refine aw_loop (α := Nat × Int) (fun γ => (γ.1 ≤ l.length) ∧ (sumF 0 l = sumF γ.2 (l.drop γ.1)) ∧ (fitB γ.2 = true)) (fun γ => ⟨mkE [(4, .int .i64 γ.2), (7, V.list (ints l) false), (8, V.int IntKind.i64 ↑l.length), (9, .int .i64 γ.1)], mkH []⟩) (fun γ => l.length - γ.1) (0, 0) ⟨Nat.zero_le _, rfl, rfl⟩ ?_ ?_
  · refine Le.mk _ _ ?_ ?_ rfl <;> simp only [go_sem, ↓reduceIte, Nat.reduceEqDiff, reduceCtorEq, Nat.reduceAdd, Nat.reduceLT, Nat.reduceLeDiff, Nat.reduceBNe, Nat.reduceBEq, Int.reduceToNat] <;> (repeat' apply And.intro) <;> (try first | rfl | exact wk_frzb rfl rfl rfl | exact wk_fn rfl | exact .nilo _ _ _ rfl rfl | exact wk_frzm rfl rfl (fun kv hk => by obtain ⟨_, _, rfl⟩ := List.mem_map.1 hk; rfl))
  · rintro ⟨i, s⟩ ⟨hi, hs, hf⟩ KL0 hKL0
    try dsimp only at *
    refine aw_seq (aw_region (EF := EF0) hG (by rw [hN]; exact tr35_3) ?_)
    simp only [a35_3, go_sem, ↓reduceIte, Nat.reduceEqDiff, reduceCtorEq, Nat.reduceAdd, Nat.reduceLT, Nat.reduceLeDiff, Nat.reduceBNe, Nat.reduceBEq, Int.reduceToNat, tpS, fFit_eq]
    refine aw_seq ?_
    refine aw_cond (b := _) rfl (fun hc3 => ?_) (fun hc3 => ?_)
    · simp only [decide_eq_true_eq, decide_eq_false_iff_not, Bool.and_eq_true, Bool.or_eq_true, Bool.not_eq_true', Bool.not_eq_false', Bool.and_eq_false_iff, Bool.or_eq_false_iff, Int.ofNat_lt, Int.ofNat_le, Nat.not_lt, Nat.not_le, Int.not_lt, Int.not_le] at hc3
      refine aw_skip ?_
      try simp only [go_sem, ↓reduceIte, Nat.reduceEqDiff, reduceCtorEq, Nat.reduceAdd, Nat.reduceLT, Nat.reduceLeDiff, Nat.reduceBNe, Nat.reduceBEq, Int.reduceToNat]
      refine aw_seq ?_
      refine aw_block ?_
      have hd := List.drop_eq_getElem_cons hc3
      rw [hd] at hs
      have hsb := fitB_bd hf
      generalize hxx : l[i] = x at hs
      refine aw_seq (aw_region (EF := EF0) hG (by rw [hN]; exact tr35_4) ?_)
      simp only [a35_4, go_sem, ↓reduceIte, Nat.reduceEqDiff, reduceCtorEq, Nat.reduceAdd, Nat.reduceLT, Nat.reduceLeDiff, Nat.reduceBNe, Nat.reduceBEq, Int.reduceToNat, ints_getD _ _ _ hc3, hc3, hxx, tpS, fFit_eq]
      (repeat' apply And.intro) <;> (try first | omega | ((fail_if_success refine idW ?_); (fail_if_success refine idS ?_); intros; (repeat' apply And.intro) <;> first | assumption | omega | (simp_all; done)))
      refine aw_seq ?_
      refine aw_seq (aw_region (EF := EF0) hG (by rw [hN]; exact tr35_5) ?_)
      simp only [a35_5, go_sem, ↓reduceIte, Nat.reduceEqDiff, reduceCtorEq, Nat.reduceAdd, Nat.reduceLT, Nat.reduceLeDiff, Nat.reduceBNe, Nat.reduceBEq, Int.reduceToNat, inI, tpS, fFit_eq]
      (repeat' apply And.intro) <;> (try first | omega | ((fail_if_success refine idW ?_); (fail_if_success refine idS ?_); intros; (repeat' apply And.intro) <;> first | assumption | omega | (simp_all; done)) | (intro h2; refine ⟨h2, ?_⟩; have hx2 := fitB_bd (by simpa using h2 : fitB x = true); omega))
      refine aw_cond (b := _) rfl (fun hb5 => ?_) (fun hb5 => ?_)
      · skip
        refine aw_seq (aw_region (EF := EF0) hG (by rw [hN]; exact tr35_6) ?_)
        simp only [a35_6, go_sem, ↓reduceIte, Nat.reduceEqDiff, reduceCtorEq, Nat.reduceAdd, Nat.reduceLT, Nat.reduceLeDiff, Nat.reduceBNe, Nat.reduceBEq, Int.reduceToNat, tpS, fFit_eq]
        refine aw_ret ?_
        show Q _ _
        refine hQ _ _ (.inl rfl) ?_ ?_ ?_ <;> simp only [outφ, outV, AR.res, go_sem, ↓reduceIte, Nat.reduceEqDiff, reduceCtorEq, Nat.reduceAdd, Nat.reduceLT, Nat.reduceLeDiff, Nat.reduceBNe, Nat.reduceBEq, Int.reduceToNat, fSum]
        rw [hs, sumF_no (by simpa using hb5)]; rfl
      · skip
        have h3 : fitB x = true ∧ fitB (s + x) = true := by simpa using hb5
        have hx3 := fitB_bd h3.2
        refine aw_skip ?_
        try simp only [go_sem, ↓reduceIte, Nat.reduceEqDiff, reduceCtorEq, Nat.reduceAdd, Nat.reduceLT, Nat.reduceLeDiff, Nat.reduceBNe, Nat.reduceBEq, Int.reduceToNat]
        refine aw_region (EF := EF0) hG (by rw [hN]; exact tr35_7) ?_
        simp only [a35_7, go_sem, ↓reduceIte, Nat.reduceEqDiff, reduceCtorEq, Nat.reduceAdd, Nat.reduceLT, Nat.reduceLeDiff, Nat.reduceBNe, Nat.reduceBEq, Int.reduceToNat, inI, tpS, fFit_eq]
        (repeat' apply And.intro) <;> (try first | omega | ((fail_if_success refine idW ?_); (fail_if_success refine idS ?_); intros; (repeat' apply And.intro) <;> first | assumption | omega | (simp_all; done)))
        refine aw_region (EF := EF0) hG (by rw [hN]; exact tr35_8) ?_
        simp only [a35_8, go_sem, ↓reduceIte, Nat.reduceEqDiff, reduceCtorEq, Nat.reduceAdd, Nat.reduceLT, Nat.reduceLeDiff, Nat.reduceBNe, Nat.reduceBEq, Int.reduceToNat, inI, tpS, fFit_eq]
        (repeat' apply And.intro) <;> (try first | omega | ((fail_if_success refine idW ?_); (fail_if_success refine idS ?_); intros; (repeat' apply And.intro) <;> first | assumption | omega | (simp_all; done)))
        refine hKL0 (i + 1, s + x) _ ?_ ?_ ?_
        · (try dsimp only); exact ⟨hc3, by rw [hs, sumF_go h3.1 h3.2], h3.2⟩
        · (try dsimp only); omega
        · refine Le.mk _ _ ?_ ?_ rfl <;> simp only [go_sem, ↓reduceIte, Nat.reduceEqDiff, reduceCtorEq, Nat.reduceAdd, Nat.reduceLT, Nat.reduceLeDiff, Nat.reduceBNe, Nat.reduceBEq, Int.reduceToNat] <;> (repeat' apply And.intro) <;> (try first | rfl | exact wk_frzb rfl rfl rfl | exact wk_fn rfl | exact .nilo _ _ _ rfl rfl | exact wk_frzm rfl rfl (fun kv hk => by obtain ⟨_, _, rfl⟩ := List.mem_map.1 hk; rfl))
    · simp only [decide_eq_true_eq, decide_eq_false_iff_not, Bool.and_eq_true, Bool.or_eq_true, Bool.not_eq_true', Bool.not_eq_false', Bool.and_eq_false_iff, Bool.or_eq_false_iff, Int.ofNat_lt, Int.ofNat_le, Nat.not_lt, Nat.not_le, Int.not_lt, Int.not_le] at hc3
      refine aw_exit ?_
      simp only [go_sem, ↓reduceIte, Nat.reduceEqDiff, reduceCtorEq, Nat.reduceAdd, Nat.reduceLT, Nat.reduceLeDiff, Nat.reduceBNe, Nat.reduceBEq, Int.reduceToNat]
      have hie : i = l.length := Nat.le_antisymm hi hc3
      subst hie
      rw [List.drop_length, sumF] at hs
      refine aw_seq (aw_region (EF := EF0) hG (by rw [hN]; exact tr35_9) ?_)
      simp only [a35_9, go_sem, ↓reduceIte, Nat.reduceEqDiff, reduceCtorEq, Nat.reduceAdd, Nat.reduceLT, Nat.reduceLeDiff, Nat.reduceBNe, Nat.reduceBEq, Int.reduceToNat, tpS, fFit_eq]
      refine aw_ret ?_
      show Q _ _
      refine hQ _ _ (.inl rfl) ?_ ?_ ?_ <;> simp only [outφ, outV, AR.res, go_sem, ↓reduceIte, Nat.reduceEqDiff, reduceCtorEq, Nat.reduceAdd, Nat.reduceLT, Nat.reduceLeDiff, Nat.reduceBNe, Nat.reduceBEq, Int.reduceToNat, fSum]
      rw [hs]; rfl
end Go.Proofs.Ytfjgnfgadkajnaa
