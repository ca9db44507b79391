/- Amounts: what fits, sums and differences, both. -/
import Derived.Test.YtfjgnfgadkajnaaGreatT3
namespace Go.Proofs.YtfjgnfgadkajnaaGreat
open Go Go.RowKit
set_option linter.unusedSimpArgs false
set_option linter.unusedVariables false
set_option linter.deprecated false
def aI (x : Int) : List V := [.int .i64 x]
theorem aI_inj (a b : Int) (h : aI a = aI b) : a = b := by
  simp only [aI, List.cons.injEq, V.str.injEq, V.int.injEq, V.bool.injEq, V.agg.injEq, V.list.injEq, and_true, true_and] at h
  have h0 := h
  subst h0
  rfl
def aLi (x : List Int) : List V := [.list (ints x) false]
theorem aLi_inj (a b : List Int) (h : aLi a = aLi b) : a = b := by
  simp only [aLi, List.cons.injEq, V.str.injEq, V.int.injEq, V.bool.injEq, V.agg.injEq, V.list.injEq, and_true, true_and] at h
  have h0 := h
  replace h0 := ints_inj h0
  subst h0
  rfl
def fitB (n : Int) : Bool := decide (-1099511627776 ≤ n) && decide (n ≤ 1099511627776)
def fFit (n : Int) : Prop × V := (True, .bool (fitB n))
theorem fFit_eq (n : Int) : gOf aI fFit [.int .i64 n] = (True, .bool (fitB n)) := gOf_eq aI_inj n
theorem fitB_bd {n : Int} (h : fitB n = true) : -1099511627776 ≤ n ∧ n ≤ 1099511627776 := by
  unfold fitB at h
  simp only [Bool.and_eq_true, decide_eq_true_eq] at h
  exact h
theorem fits_p : PureC Tryz.prog UT 24 (gOf aI fFit) := by
  have hG := tNo_ok
  refine PureC.ofArgs aI_inj Tryz.func24 body24 nm24 res24 ?_
  rintro n hv
  refine ⟨by rw [nt24]; simp [aI], fun C hN Q hQ => ?_⟩
  rw [nt24] at hN
  unfold c24
  refine aw_seq (aw_region (EF := EF0) hG (by rw [hN]; exact tr24_0) ?_)
  simp only [a24_0, go_sem, simprocAttr, aI]
  refine aw_seq (aw_region (EF := EF0) hG (by rw [hN]; exact tr24_1) ?_)
  simp only [a24_1, go_sem, simprocAttr]
  (repeat' apply And.intro) <;> (try first | omega | ((fail_if_success refine idW ?_); (fail_if_success refine idS ?_); intros; (repeat' apply And.intro) <;> first | assumption | omega | (simp_all; done)))
  refine aw_ret ?_
  show Q _ _
  refine hQ _ _ (.inl rfl) ?_ ?_ ?_ <;> simp only [outφ, outV, AR.res, go_sem, simprocAttr, fFit, fitB]
theorem amount_p : PureC Tryz.prog UT 31 (gOf aI fFit) := by
  have hG := tNo_ok
  refine PureC.ofArgs aI_inj Tryz.func31 body31 nm31 res31 ?_
  rintro n hv
  refine ⟨by rw [nt31]; simp [aI], fun C hN Q hQ => ?_⟩
  rw [nt31] at hN
  unfold c31
  refine aw_seq (aw_region (EF := EF0) hG (by rw [hN]; exact tr31_0) ?_)
  simp only [a31_0, go_sem, simprocAttr, aI]
  refine aw_seq (aw_region (EF := EF0) hG (by rw [hN]; exact tr31_1) ?_)
  simp only [a31_1, go_sem, simprocAttr]
  (repeat' apply And.intro) <;> (try first | omega | ((fail_if_success refine idW ?_); (fail_if_success refine idS ?_); intros; (repeat' apply And.intro) <;> first | assumption | omega | (simp_all; done)))
  refine aw_ret ?_
  show Q _ _
  refine hQ _ _ (.inl rfl) ?_ ?_ ?_ <;> simp only [outφ, outV, AR.res, go_sem, simprocAttr, fFit, fitB]
/-- What Sum returns, from a sum on. -/
def sumF (n : Int) : List Int → Int × Int
  | [] => (n, 0)
  | x :: l => if fitB x && fitB (n + x) then sumF (n + x) l else (0, 11)
def pairV (y : Int × Int) : V := .tup [.int .i64 y.1, .int .i64 y.2]
def fSum (l : List Int) : Prop × V := (l.length ≤ 140737488355328, pairV (sumF 0 l))
noncomputable def tpS : Tab
  | 24 => (gOf aI fFit)
  | _ => gNo
theorem tpS_ok : ∀ f, PureC Tryz.prog UT f (tpS f) := fun f => by
  unfold tpS
  split
  · exact fits_p
  · exact PureC.no
theorem sumF_go {s x : Int} {l : List Int} (h1 : fitB x = true) (h2 : fitB (s + x) = true) : sumF s (x :: l) = sumF (s + x) l := by rw [sumF, h1, h2]; rfl
theorem sumF_no {s x : Int} {l : List Int} (h : fitB x = false ∨ fitB (s + x) = false) : sumF s (x :: l) = (0, 11) := by
  rw [sumF]
  rcases h with h | h
  · rw [h]; rfl
  · rw [h, Bool.and_false]; rfl
theorem sum_p : PureC Tryz.prog UT 49 (gOf aLi fSum) := by
  have hG := tpS_ok
  refine PureC.ofArgs aLi_inj Tryz.func49 body49 nm49 res49 ?_
  rintro l hv
  refine ⟨by rw [nt49]; simp [aLi], fun C hN Q hQ => ?_⟩
  rw [nt49] at hN
  unfold c49
  replace hv : l.length ≤ 140737488355328 := hv
  refine aw_seq (aw_region (EF := EF0) hG (by rw [hN]; exact tr49_0) ?_)
  simp only [a49_0, go_sem, simprocAttr, aLi, tpS, fFit_eq]
  refine aw_seq (aw_region (EF := EF0) hG (by rw [hN]; exact tr49_1) ?_)
  simp only [a49_1, go_sem, simprocAttr, tpS, fFit_eq]
  refine aw_seq ?_
  refine aw_seq (aw_region (EF := EF0) hG (by rw [hN]; exact tr49_2) ?_)
  simp only [a49_2, go_sem, simprocAttr, tpS, fFit_eq]
  refine aw_block ?_
  refine aw_loop (α := Nat × Int) (fun γ => (γ.1 ≤ l.length) ∧ (sumF 0 l = sumF γ.2 (l.drop γ.1)) ∧ (fitB γ.2 = true)) (fun γ => ⟨mkE [(4, .int .i64 γ.2), (7, V.list (ints l) false), (8, V.int IntKind.i64 ↑l.length), (9, .int .i64 γ.1)], mkH []⟩) (fun γ => l.length - γ.1) (0, 0) ⟨Nat.zero_le _, rfl, rfl⟩ ?_ ?_
  · refine Le.mk _ _ ?_ ?_ rfl <;> simp only [go_sem, simprocAttr] <;> (repeat' apply And.intro) <;> (try first | rfl | exact wk_frzb rfl rfl rfl | exact wk_fn rfl | exact .nilo _ _ _ rfl rfl)
  · rintro ⟨i, s⟩ ⟨hi, hs, hf⟩ KL0 hKL0
    try dsimp only at *
    refine aw_seq (aw_region (EF := EF0) hG (by rw [hN]; exact tr49_3) ?_)
    simp only [a49_3, go_sem, simprocAttr, tpS, fFit_eq]
    refine aw_seq ?_
    refine aw_cond (b := _) rfl (fun hc3 => ?_) (fun hc3 => ?_)
    · simp only [hcL] at hc3
      refine aw_skip ?_
      try simp only [go_sem, simprocAttr]
      refine aw_seq ?_
      refine aw_block ?_
      have hd := List.drop_eq_getElem_cons hc3
      rw [hd] at hs
      have hsb := fitB_bd hf
      generalize hxx : l[i] = x at hs
      refine aw_seq (aw_region (EF := EF0) hG (by rw [hN]; exact tr49_4) ?_)
      simp only [a49_4, go_sem, simprocAttr, ints_getD _ _ _ hc3, hc3, hxx, tpS, fFit_eq]
      (repeat' apply And.intro) <;> (try first | omega | ((fail_if_success refine idW ?_); (fail_if_success refine idS ?_); intros; (repeat' apply And.intro) <;> first | assumption | omega | (simp_all; done)))
      refine aw_seq ?_
      refine aw_seq (aw_region (EF := EF0) hG (by rw [hN]; exact tr49_5) ?_)
      simp only [a49_5, go_sem, simprocAttr, inI, tpS, fFit_eq]
      (repeat' apply And.intro) <;> (try first | omega | ((fail_if_success refine idW ?_); (fail_if_success refine idS ?_); intros; (repeat' apply And.intro) <;> first | assumption | omega | (simp_all; done)) | (intro h2; refine ⟨h2, ?_⟩; have hx2 := fitB_bd (by simpa using h2 : fitB x = true); omega))
      refine aw_cond (b := _) rfl (fun hb5 => ?_) (fun hb5 => ?_)
      · skip
        refine aw_seq (aw_region (EF := EF0) hG (by rw [hN]; exact tr49_6) ?_)
        simp only [a49_6, go_sem, simprocAttr, tpS, fFit_eq]
        refine aw_ret ?_
        show Q _ _
        refine hQ _ _ (.inl rfl) ?_ ?_ ?_ <;> simp only [outφ, outV, AR.res, go_sem, simprocAttr, fSum]
        rw [hs, sumF_no (by simpa using hb5)]; rfl
      · skip
        have h3 : fitB x = true ∧ fitB (s + x) = true := by simpa using hb5
        have hx3 := fitB_bd h3.2
        refine aw_skip ?_
        try simp only [go_sem, simprocAttr]
        refine aw_region (EF := EF0) hG (by rw [hN]; exact tr49_7) ?_
        simp only [a49_7, go_sem, simprocAttr, inI, tpS, fFit_eq]
        (repeat' apply And.intro) <;> (try first | omega | ((fail_if_success refine idW ?_); (fail_if_success refine idS ?_); intros; (repeat' apply And.intro) <;> first | assumption | omega | (simp_all; done)))
        refine aw_region (EF := EF0) hG (by rw [hN]; exact tr49_8) ?_
        simp only [a49_8, go_sem, simprocAttr, inI, tpS, fFit_eq]
        (repeat' apply And.intro) <;> (try first | omega | ((fail_if_success refine idW ?_); (fail_if_success refine idS ?_); intros; (repeat' apply And.intro) <;> first | assumption | omega | (simp_all; done)))
        refine hKL0 (i + 1, s + x) _ ?_ ?_ ?_
        · (try dsimp only); exact ⟨hc3, by rw [hs, sumF_go h3.1 h3.2], h3.2⟩
        · (try dsimp only); omega
        · refine Le.mk _ _ ?_ ?_ rfl <;> simp only [go_sem, simprocAttr] <;> (repeat' apply And.intro) <;> (try first | rfl | exact wk_frzb rfl rfl rfl | exact wk_fn rfl | exact .nilo _ _ _ rfl rfl)
    · simp only [hcL] at hc3
      refine aw_exit ?_
      simp only [go_sem, simprocAttr]
      have hie : i = l.length := Nat.le_antisymm hi hc3
      subst hie
      rw [List.drop_length, sumF] at hs
      refine aw_seq (aw_region (EF := EF0) hG (by rw [hN]; exact tr49_9) ?_)
      simp only [a49_9, go_sem, simprocAttr, tpS, fFit_eq]
      refine aw_ret ?_
      show Q _ _
      refine hQ _ _ (.inl rfl) ?_ ?_ ?_ <;> simp only [outφ, outV, AR.res, go_sem, simprocAttr, fSum]
      rw [hs]; rfl
end Go.Proofs.YtfjgnfgadkajnaaGreat
