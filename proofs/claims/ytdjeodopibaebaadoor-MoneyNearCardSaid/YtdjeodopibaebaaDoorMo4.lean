/- size, scale, Percent where nothing is too large, Up, total. -/
import Derived.Test.YtdjeodopibaebaaDoorMo3
namespace Go.Proofs.YtdjeodopibaebaaDoor
open Go Go.RowKit
set_option linter.unusedSimpArgs false
set_option linter.unusedVariables false
set_option linter.deprecated false
theorem size_run (n : Int) (hn : inI n) (w : World) :
    Calls Tryd.prog 30 #[.int .i64 n] w fun e w' => e = .returned (.int .u64 (n.natAbs : Int)) ∧ w = w' := by
  obtain ⟨h1, h2⟩ := hn
  go_enter Tryd.func30, Tryd.ntmps30
  go_wp2_with (fail)
  all_goals go_ret
  · rename_i hs
    refine ⟨?_, rfl⟩
    have : IntKind.u64.wrap (-IntKind.u64.wrap n) = (n.natAbs : Int) := by have := wu_eq; unfold wu at this; rw [this, this]; omega
    exact congrArg (fun x => Ending.returned (Value.int .u64 x)) this
  · rename_i hs
    refine ⟨?_, rfl⟩
    exact congrArg (fun x => Ending.returned (Value.int .u64 x)) (show n = (n.natAbs : Int) by omega)
def gSize : List V → Prop × V
  | [.int .i64 n] => (inI n, .int .u64 (n.natAbs : Int))
  | _ => (False, .any)
theorem size_p : PureC Tryd.prog UT 30 gSize := by
  refine PureC.leaf Tryd.func30 (by kernel_rfl : Tryd.f30.body = some ((Tryd.f30.body).getD .skip)) (by kernel_rfl) fun vs M w cargs hv hB hs ha => ?_
  match vs, hv, hs, ha with
  | [.int .i64 n], hv, hs, ha =>
  have h0 := (ha 0 _ rfl).int_inv
  have h1 := args_one hs
  rw [h0] at h1
  rw [h1]
  refine (size_run n hv w).mono ?_
  rintro e w' ⟨he, rfl⟩
  exact ⟨_, he, fun M' => .int _ _, Below.refl _ _⟩
def gScale : List V → Prop × V
  | [.int .u64 a, .int .u64 b, .int .u64 y] => (0 ≤ a ∧ a < u64m ∧ 0 ≤ b ∧ b < u64m ∧ 0 < y ∧ y < u64m ∧ a * b / u64m < y, .tup [.int .u64 (a * b / y), .int .u64 (a * b % y), .bool true])
  | _ => (False, .any)
noncomputable def tScale : Tab
  | 43 => gMul
  | 44 => gDiv
  | _ => gNo
theorem tScale_ok : ∀ f, PureC Tryd.prog UT f (tScale f) := fun f => by
  unfold tScale
  split
  · exact mul64_p
  · exact div64_p
  · exact PureC.no
theorem scale_p : PureC Tryd.prog UT 29 gScale := by
  have hG := tScale_ok
  refine PureC.of_awQ Tryd.func29 body29 nm29 res29 fun vs hv => ?_
  match vs, hv with
  | [.int .u64 a, .int .u64 b, .int .u64 y], hv =>
  obtain ⟨h1, h2, h3, h4, h5, h6, h10⟩ : 0 ≤ a ∧ a < u64m ∧ 0 ≤ b ∧ b < u64m ∧ 0 < y ∧ y < u64m ∧ a * b / u64m < y := hv
  have hu : (0 : Int) < u64m := by decide
  have h7 : 0 ≤ a * b := Int.mul_nonneg h1 h3
  have h8 : 0 ≤ a * b / u64m := Int.ediv_nonneg h7 (by decide)
  have h9 : 0 ≤ a * b % u64m := Int.emod_nonneg _ (by decide)
  have h11 : a * b % u64m < u64m := Int.emod_lt_of_pos _ hu
  have h12 : a * b / u64m * u64m + a * b % u64m = a * b := by have := Int.mul_ediv_add_emod (a * b) u64m; rw [Int.mul_comm] at this; exact this
  have e2 : decide (y ≤ a * b / u64m) = false := decide_eq_false (by omega)
  refine ⟨by rw [nt29]; simp, fun C hN Q hQ => ?_⟩
  rw [nt29] at hN
  unfold c29
  refine aw_seq (aw_region (EF := EF0) hG (by rw [hN]; exact tr29_0) ?_)
  simp only [a29_0, go_sem, ↓reduceIte, Nat.reduceEqDiff, reduceCtorEq, Nat.reduceAdd, Nat.reduceLT, Nat.reduceLeDiff, Nat.reduceBNe, Nat.reduceBEq, Int.reduceToNat]
  refine aw_seq (aw_region (EF := EF0) hG (by rw [hN]; exact tr29_1) ?_)
  simp only [a29_1, go_sem, ↓reduceIte, Nat.reduceEqDiff, reduceCtorEq, Nat.reduceAdd, Nat.reduceLT, Nat.reduceLeDiff, Nat.reduceBNe, Nat.reduceBEq, Int.reduceToNat, tScale, gMul, h1, h2, h3, h4]
  refine aw_seq ?_
  refine aw_seq (aw_region (EF := EF0) hG (by rw [hN]; exact tr29_2) ?_)
  simp only [a29_2, go_sem, ↓reduceIte, Nat.reduceEqDiff, reduceCtorEq, Nat.reduceAdd, Nat.reduceLT, Nat.reduceLeDiff, Nat.reduceBNe, Nat.reduceBEq, Int.reduceToNat, e2]
  refine aw_condF rfl ?_
  refine aw_skip ?_
  try simp only [go_sem, ↓reduceIte, Nat.reduceEqDiff, reduceCtorEq, Nat.reduceAdd, Nat.reduceLT, Nat.reduceLeDiff, Nat.reduceBNe, Nat.reduceBEq, Int.reduceToNat]
  refine aw_seq (aw_region (EF := EF0) hG (by rw [hN]; exact tr29_4) ?_)
  simp only [a29_4, go_sem, ↓reduceIte, Nat.reduceEqDiff, reduceCtorEq, Nat.reduceAdd, Nat.reduceLT, Nat.reduceLeDiff, Nat.reduceBNe, Nat.reduceBEq, Int.reduceToNat, tScale, gDiv, h6, h8, h9, h10, h11, h12]
  refine aw_seq (aw_region (EF := EF0) hG (by rw [hN]; exact tr29_5) ?_)
  simp only [a29_5, go_sem, ↓reduceIte, Nat.reduceEqDiff, reduceCtorEq, Nat.reduceAdd, Nat.reduceLT, Nat.reduceLeDiff, Nat.reduceBNe, Nat.reduceBEq, Int.reduceToNat]
  refine aw_ret ?_
  show Q _ _
  refine hQ _ _ (.inl rfl) ?_ ?_ ?_ <;> simp only [outφ, outV, AR.res, go_sem, ↓reduceIte, Nat.reduceEqDiff, reduceCtorEq, Nat.reduceAdd, Nat.reduceLT, Nat.reduceLeDiff, Nat.reduceBNe, Nat.reduceBEq, Int.reduceToNat, gScale]
theorem scale_small {a b y : Int} (h0 : 0 ≤ a * b) (h : a * b < u64m) (hy : 0 < y) : a * b / u64m < y := by rw [Int.ediv_eq_zero_of_lt h0 h]; exact hy
/-! Percent. -/
def perR (a h : Int) : Int := (2 * (a * h) + 10000) / 20000
def perM (a h : Int) : Int × Int := if (fitB a && fitB h && fitB (perR a h)) = true then (perR a h, 0) else (0, 11)
theorem fits_iff (n : Int) : fitB n = true ↔ -1099511627776 ≤ n ∧ n ≤ 1099511627776 := by unfold fitB; simp
theorem perM_no {a h : Int} (hf : (fitB a && fitB h && fitB (perR a h)) = false) : perM a h = (0, 11) := by unfold perM; rw [if_neg (by rw [hf]; decide)]
theorem perM_yes {a h : Int} (hf : (fitB a && fitB h && fitB (perR a h)) = true) : perM a h = (perR a h, 0) := by unfold perM; rw [if_pos hf]
def rdP (P : Int) (neg : Bool) : Int := if (decide (5000 < P % 10000) || (decide (P % 10000 = 5000) && !neg)) = true then P / 10000 + 1 else P / 10000
theorem mul_abs (a h : Int) : a * h = if (decide (a < 0) != decide (h < 0)) = true then -((a.natAbs : Int) * h.natAbs) else (a.natAbs : Int) * h.natAbs := by
  by_cases ha : a < 0 <;> by_cases hh : h < 0
  · rw [decide_eq_true ha, decide_eq_true hh, if_neg (by decide), show (a.natAbs : Int) = -a by omega, show (h.natAbs : Int) = -h by omega]; grind
  · rw [decide_eq_true ha, decide_eq_false hh, if_pos (by decide), show (a.natAbs : Int) = -a by omega, show (h.natAbs : Int) = h by omega]; grind
  · rw [decide_eq_false ha, decide_eq_true hh, if_pos (by decide), show (a.natAbs : Int) = a by omega, show (h.natAbs : Int) = -h by omega]; grind
  · rw [decide_eq_false ha, decide_eq_false hh, if_neg (by decide), show (a.natAbs : Int) = a by omega, show (h.natAbs : Int) = h by omega]
theorem perR_rd {a h P : Int} {neg : Bool} (hP : (a.natAbs : Int) * h.natAbs = P) (h0 : 0 ≤ P) (hn : (decide (a < 0) != decide (h < 0)) = neg) : perR a h = if neg = true then -rdP P neg else rdP P neg := by
  have := mul_abs a h
  rw [hn, hP] at this
  unfold perR rdP
  rw [this]
  cases neg
  · simp only [Bool.false_eq_true, if_false, Bool.not_false, Bool.and_true, Bool.or_eq_true, decide_eq_true_eq]
    split <;> omega
  · simp only [if_true, Bool.not_true, Bool.and_false, Bool.or_false, decide_eq_true_eq]
    split <;> omega
theorem rdP_bd {P : Int} {neg : Bool} (h0 : 0 ≤ P) (h1 : P < u64m) : 0 ≤ rdP P neg ∧ rdP P neg ≤ 1844674407370956 := by
  unfold u64m at h1
  unfold rdP
  split <;> omega
theorem per_over {x q : Int} {neg : Bool} (h : x = if neg = true then -q else q) (hq : 1099511627776 < q) : fitB x = false := by
  refine Bool.eq_false_iff.2 fun h1 => ?_
  have h2 := (fits_iff _).1 h1
  split at h <;> omega
theorem per_in {x : Int} (h : -1099511627776 ≤ x ∧ x ≤ 1099511627776) : fitB x = true := (fits_iff _).2 h
def PerOk (a h : Int) : Prop := inI a ∧ inI h ∧ (fitB a = true → fitB h = true → (a.natAbs : Int) * h.natAbs < u64m)
def fPer (x : Int × Int) : Prop × V := (PerOk x.1 x.2, pairV (perM x.1 x.2))
theorem fPer_eq (a h : Int) : gOf aTwo fPer [.int .i64 a, .int .i64 h] = (PerOk a h, pairV (perM a h)) := gOf_eq aTwo_inj (a, h)
theorem inK_u64' {n : Int} (h : 0 ≤ n ∧ n ≤ 18446744073709551615) : inK .u64 n := inK_u64.2 h
noncomputable def tPer : Tab
  | 28 => (gOf aI fFit)
  | 30 => gSize
  | 29 => gScale
  | _ => gNo
theorem tPer_ok : ∀ f, PureC Tryd.prog UT f (tPer f) := fun f => by
  unfold tPer
  split
  · exact fits_p
  · exact size_p
  · exact scale_p
  · exact PureC.no
theorem percent_p : PureC Tryd.prog UT 16 (gOf aTwo fPer) := by
  have hG := tPer_ok
  refine PureC.ofArgs aTwo_inj Tryd.func16 body16 nm16 res16 ?_
  rintro ⟨a, h⟩ hv
  refine ⟨by rw [nt16]; simp [aTwo], fun C hN Q hQ => ?_⟩
  rw [nt16] at hN
  unfold c16
  obtain ⟨hia, hih, hpm⟩ : PerOk a h := hv
  generalize hA : (a.natAbs : Int) = A at hpm
  generalize hH : (h.natAbs : Int) = H at hpm
  generalize hP : A * H = P at hpm
  have hA0 : 0 ≤ A := by omega
  have hH0 : 0 ≤ H := by omega
  have hP0 : 0 ≤ P := hP ▸ Int.mul_nonneg hA0 hH0
  have hA1 : A < u64m := by unfold u64m; have := hia; unfold inI at this; omega
  have hH1 : H < u64m := by unfold u64m; have := hih; unfold inI at this; omega
  have hm0 : (0 : Int) < 10000 := by decide
  have hm1 : (10000 : Int) < u64m := by decide
  generalize hng : (decide (a < 0) != decide (h < 0)) = neg
  have hrd := perR_rd (a := a) (h := h) (P := P) (neg := neg) (by rw [hA, hH, hP]) hP0 hng
  refine aw_seq (aw_region (EF := EF0) hG (by rw [hN]; exact tr16_0) ?_)
  simp only [a16_0, go_sem, ↓reduceIte, Nat.reduceEqDiff, reduceCtorEq, Nat.reduceAdd, Nat.reduceLT, Nat.reduceLeDiff, Nat.reduceBNe, Nat.reduceBEq, Int.reduceToNat, aTwo, tPer, fFit_eq]
  refine aw_seq ?_
  by_cases hfa : fitB a = true
  · skip
    by_cases hfb : fitB h = true
    · skip
      refine aw_seq (aw_region (EF := EF0) hG (by rw [hN]; exact tr16_1) ?_)
      simp only [a16_1, go_sem, ↓reduceIte, Nat.reduceEqDiff, reduceCtorEq, Nat.reduceAdd, Nat.reduceLT, Nat.reduceLeDiff, Nat.reduceBNe, Nat.reduceBEq, Int.reduceToNat, hfa, hfb, tPer, fFit_eq]
      (repeat' apply And.intro) <;> (try first | omega | ((fail_if_success (refine (id : AW _ _ _ _ _ → AW _ _ _ _ _) ?_)); (fail_if_success (refine (id : EStep _ _ _ _ _ _ _ → EStep _ _ _ _ _ _ _) ?_)); intros; (repeat' apply And.intro) <;> first | assumption | omega | (simp_all; done)))
      refine aw_condF rfl ?_
      refine aw_skip ?_
      try simp only [go_sem, ↓reduceIte, Nat.reduceEqDiff, reduceCtorEq, Nat.reduceAdd, Nat.reduceLT, Nat.reduceLeDiff, Nat.reduceBNe, Nat.reduceBEq, Int.reduceToNat]
      have hpu := hpm hfa hfb
      have hbd := rdP_bd (neg := neg) hP0 hpu
      have hsm : P / u64m < 10000 := by rw [← hP] at hpu hP0 ⊢; exact scale_small hP0 hpu hm0
      refine aw_seq (aw_region (EF := EF0) hG (by rw [hN]; exact tr16_3) ?_)
      simp only [a16_3, go_sem, ↓reduceIte, Nat.reduceEqDiff, reduceCtorEq, Nat.reduceAdd, Nat.reduceLT, Nat.reduceLeDiff, Nat.reduceBNe, Nat.reduceBEq, Int.reduceToNat, gSize, gScale, hia, hih, hA, hH, hP, hA0, hA1, hH0, hH1, hpu, hm0, hm1, hsm, tPer, fFit_eq]
      refine aw_seq (aw_region (EF := EF0) hG (by rw [hN]; exact tr16_4) ?_)
      simp only [a16_4, go_sem, ↓reduceIte, Nat.reduceEqDiff, reduceCtorEq, Nat.reduceAdd, Nat.reduceLT, Nat.reduceLeDiff, Nat.reduceBNe, Nat.reduceBEq, Int.reduceToNat, hng, tPer, fFit_eq]
      (repeat' apply And.intro) <;> (try first | omega | ((fail_if_success (refine (id : AW _ _ _ _ _ → AW _ _ _ _ _) ?_)); (fail_if_success (refine (id : EStep _ _ _ _ _ _ _ → EStep _ _ _ _ _ _ _) ?_)); intros; (repeat' apply And.intro) <;> first | assumption | omega | (simp_all; done)))
      refine aw_cut (α := Int) (fun q => (q = rdP P neg)) (fun q => ⟨mkE [(6, .int .u64 q), (8, V.bool true), (9, V.bool neg)], mkH []⟩) ?_ ?_
      · intro KC5 hKC5
        refine aw_seq (aw_region (EF := EF0) hG (by rw [hN]; exact tr16_5) ?_)
        simp only [a16_5, go_sem, ↓reduceIte, Nat.reduceEqDiff, reduceCtorEq, Nat.reduceAdd, Nat.reduceLT, Nat.reduceLeDiff, Nat.reduceBNe, Nat.reduceBEq, Int.reduceToNat, tPer, fFit_eq]
        (repeat' apply And.intro) <;> (try first | omega | ((fail_if_success (refine (id : AW _ _ _ _ _ → AW _ _ _ _ _) ?_)); (fail_if_success (refine (id : EStep _ _ _ _ _ _ _ → EStep _ _ _ _ _ _ _) ?_)); intros; (repeat' apply And.intro) <;> first | assumption | omega | (simp_all; done)))
        refine aw_cond (b := _) rfl (fun hb5 => ?_) (fun hb5 => ?_)
        · skip
          refine aw_region (EF := EF0) hG (by rw [hN]; exact tr16_6) ?_
          simp only [a16_6, go_sem, ↓reduceIte, Nat.reduceEqDiff, reduceCtorEq, Nat.reduceAdd, Nat.reduceLT, Nat.reduceLeDiff, Nat.reduceBNe, Nat.reduceBEq, Int.reduceToNat, inI, inK_u64' (show 0 ≤ P / 10000 + 1 ∧ P / 10000 + 1 ≤ 18446744073709551615 by unfold u64m at hpu; omega), tPer, fFit_eq]
          refine hKC5 (P / 10000 + 1) _ ?_ ?_
          · (try dsimp only); exact (by unfold rdP; rw [if_pos hb5])
          · refine Le.mk _ _ ?_ ?_ rfl <;> simp only [go_sem, ↓reduceIte, Nat.reduceEqDiff, reduceCtorEq, Nat.reduceAdd, Nat.reduceLT, Nat.reduceLeDiff, Nat.reduceBNe, Nat.reduceBEq, Int.reduceToNat] <;> (repeat' apply And.intro) <;> (try first | rfl | exact wk_frzb rfl rfl rfl | exact wk_fn rfl | exact .nilo _ _ _ rfl rfl | exact wk_frzm rfl rfl (fun kv hk => by obtain ⟨_, _, rfl⟩ := List.mem_map.1 hk; rfl))
        · skip
          refine aw_skip ?_
          try simp only [go_sem, ↓reduceIte, Nat.reduceEqDiff, reduceCtorEq, Nat.reduceAdd, Nat.reduceLT, Nat.reduceLeDiff, Nat.reduceBNe, Nat.reduceBEq, Int.reduceToNat]
          refine hKC5 (P / 10000) _ ?_ ?_
          · (try dsimp only); exact (by unfold rdP; rw [if_neg (by rw [hb5]; decide)])
          · refine Le.mk _ _ ?_ ?_ rfl <;> simp only [go_sem, ↓reduceIte, Nat.reduceEqDiff, reduceCtorEq, Nat.reduceAdd, Nat.reduceLT, Nat.reduceLeDiff, Nat.reduceBNe, Nat.reduceBEq, Int.reduceToNat] <;> (repeat' apply And.intro) <;> (try first | rfl | exact wk_frzb rfl rfl rfl | exact wk_fn rfl | exact .nilo _ _ _ rfl rfl | exact wk_frzm rfl rfl (fun kv hk => by obtain ⟨_, _, rfl⟩ := List.mem_map.1 hk; rfl))
      · rintro q hq
        refine aw_seq ?_
        refine aw_seq (aw_region (EF := EF0) hG (by rw [hN]; exact tr16_7) ?_)
        simp only [a16_7, go_sem, ↓reduceIte, Nat.reduceEqDiff, reduceCtorEq, Nat.reduceAdd, Nat.reduceLT, Nat.reduceLeDiff, Nat.reduceBNe, Nat.reduceBEq, Int.reduceToNat, tPer, fFit_eq]
        (repeat' apply And.intro) <;> (try first | omega | ((fail_if_success (refine (id : AW _ _ _ _ _ → AW _ _ _ _ _) ?_)); (fail_if_success (refine (id : EStep _ _ _ _ _ _ _ → EStep _ _ _ _ _ _ _) ?_)); intros; (repeat' apply And.intro) <;> first | assumption | omega | (simp_all; done)))
        refine aw_cond (b := _) rfl (fun hb7 => ?_) (fun hb7 => ?_)
        · skip
          refine aw_seq (aw_region (EF := EF0) hG (by rw [hN]; exact tr16_8) ?_)
          simp only [a16_8, go_sem, ↓reduceIte, Nat.reduceEqDiff, reduceCtorEq, Nat.reduceAdd, Nat.reduceLT, Nat.reduceLeDiff, Nat.reduceBNe, Nat.reduceBEq, Int.reduceToNat, tPer, fFit_eq]
          refine aw_ret ?_
          show Q _ _
          refine hQ _ _ (.inl rfl) ?_ ?_ ?_ <;> simp only [outφ, outV, AR.res, go_sem, ↓reduceIte, Nat.reduceEqDiff, reduceCtorEq, Nat.reduceAdd, Nat.reduceLT, Nat.reduceLeDiff, Nat.reduceBNe, Nat.reduceBEq, Int.reduceToNat, fPer, pairV]
          rw [perM_no (by rw [hfa, hfb, per_over hrd (by rw [← hq]; exact of_decide_eq_true hb7)]; rfl)]
        · skip
          refine aw_skip ?_
          try simp only [go_sem, ↓reduceIte, Nat.reduceEqDiff, reduceCtorEq, Nat.reduceAdd, Nat.reduceLT, Nat.reduceLeDiff, Nat.reduceBNe, Nat.reduceBEq, Int.reduceToNat]
          refine aw_seq ?_
          refine aw_seq (aw_region (EF := EF0) hG (by rw [hN]; exact tr16_9) ?_)
          simp only [a16_9, go_sem, ↓reduceIte, Nat.reduceEqDiff, reduceCtorEq, Nat.reduceAdd, Nat.reduceLT, Nat.reduceLeDiff, Nat.reduceBNe, Nat.reduceBEq, Int.reduceToNat, tPer, fFit_eq]
          refine aw_cond (b := _) rfl (fun hb9 => ?_) (fun hb9 => ?_)
          · skip
            have hk10 : inK .i64 q := inK_i64.2 (by unfold inI; have := of_decide_eq_false hb7; omega)
            refine aw_seq (aw_region (EF := EF0) hG (by rw [hN]; exact tr16_10) ?_)
            simp only [a16_10, go_sem, ↓reduceIte, Nat.reduceEqDiff, reduceCtorEq, Nat.reduceAdd, Nat.reduceLT, Nat.reduceLeDiff, Nat.reduceBNe, Nat.reduceBEq, Int.reduceToNat, inI, hk10, tPer, fFit_eq]
            (repeat' apply And.intro) <;> (try first | omega | ((fail_if_success (refine (id : AW _ _ _ _ _ → AW _ _ _ _ _) ?_)); (fail_if_success (refine (id : EStep _ _ _ _ _ _ _ → EStep _ _ _ _ _ _ _) ?_)); intros; (repeat' apply And.intro) <;> first | assumption | omega | (simp_all; done)) | (have := of_decide_eq_false hb7; omega))
            refine aw_ret ?_
            show Q _ _
            refine hQ _ _ (.inl rfl) ?_ ?_ ?_ <;> simp only [outφ, outV, AR.res, go_sem, ↓reduceIte, Nat.reduceEqDiff, reduceCtorEq, Nat.reduceAdd, Nat.reduceLT, Nat.reduceLeDiff, Nat.reduceBNe, Nat.reduceBEq, Int.reduceToNat, fPer, pairV]
            rw [hb9, if_pos rfl] at hrd; rw [perM_yes (by rw [hfa, hfb, per_in (by have := of_decide_eq_false hb7; rw [hb9] at hq hbd; omega)]; rfl), hrd, ← hb9, ← hq]
          · skip
            refine aw_skip ?_
            try simp only [go_sem, ↓reduceIte, Nat.reduceEqDiff, reduceCtorEq, Nat.reduceAdd, Nat.reduceLT, Nat.reduceLeDiff, Nat.reduceBNe, Nat.reduceBEq, Int.reduceToNat]
            have hk11 : inK .i64 q := inK_i64.2 (by unfold inI; have := of_decide_eq_false hb7; omega)
            refine aw_seq (aw_region (EF := EF0) hG (by rw [hN]; exact tr16_11) ?_)
            simp only [a16_11, go_sem, ↓reduceIte, Nat.reduceEqDiff, reduceCtorEq, Nat.reduceAdd, Nat.reduceLT, Nat.reduceLeDiff, Nat.reduceBNe, Nat.reduceBEq, Int.reduceToNat, hk11, tPer, fFit_eq]
            refine aw_ret ?_
            show Q _ _
            refine hQ _ _ (.inl rfl) ?_ ?_ ?_ <;> simp only [outφ, outV, AR.res, go_sem, ↓reduceIte, Nat.reduceEqDiff, reduceCtorEq, Nat.reduceAdd, Nat.reduceLT, Nat.reduceLeDiff, Nat.reduceBNe, Nat.reduceBEq, Int.reduceToNat, fPer, pairV]
            rw [hb9, if_neg (by decide)] at hrd; rw [perM_yes (by rw [hfa, hfb, per_in (by have := of_decide_eq_false hb7; rw [hb9] at hq hbd; omega)]; rfl), hrd, ← hb9, ← hq]
    · skip
      replace hfb := Bool.eq_false_iff.2 hfb
      refine aw_seq (aw_region (EF := EF0) hG (by rw [hN]; exact tr16_1) ?_)
      simp only [a16_1, go_sem, ↓reduceIte, Nat.reduceEqDiff, reduceCtorEq, Nat.reduceAdd, Nat.reduceLT, Nat.reduceLeDiff, Nat.reduceBNe, Nat.reduceBEq, Int.reduceToNat, hfa, hfb, tPer, fFit_eq]
      (repeat' apply And.intro) <;> (try first | omega | ((fail_if_success (refine (id : AW _ _ _ _ _ → AW _ _ _ _ _) ?_)); (fail_if_success (refine (id : EStep _ _ _ _ _ _ _ → EStep _ _ _ _ _ _ _) ?_)); intros; (repeat' apply And.intro) <;> first | assumption | omega | (simp_all; done)))
      refine aw_condT rfl ?_
      refine aw_seq (aw_region (EF := EF0) hG (by rw [hN]; exact tr16_2) ?_)
      simp only [a16_2, go_sem, ↓reduceIte, Nat.reduceEqDiff, reduceCtorEq, Nat.reduceAdd, Nat.reduceLT, Nat.reduceLeDiff, Nat.reduceBNe, Nat.reduceBEq, Int.reduceToNat, tPer, fFit_eq]
      refine aw_ret ?_
      show Q _ _
      refine hQ _ _ (.inl rfl) ?_ ?_ ?_ <;> simp only [outφ, outV, AR.res, go_sem, ↓reduceIte, Nat.reduceEqDiff, reduceCtorEq, Nat.reduceAdd, Nat.reduceLT, Nat.reduceLeDiff, Nat.reduceBNe, Nat.reduceBEq, Int.reduceToNat, fPer, pairV]
      rw [perM_no (by rw [hfb]; simp)]
  · skip
    replace hfa := Bool.eq_false_iff.2 hfa
    by_cases hfb : fitB h = true
    · skip
      refine aw_seq (aw_region (EF := EF0) hG (by rw [hN]; exact tr16_1) ?_)
      simp only [a16_1, go_sem, ↓reduceIte, Nat.reduceEqDiff, reduceCtorEq, Nat.reduceAdd, Nat.reduceLT, Nat.reduceLeDiff, Nat.reduceBNe, Nat.reduceBEq, Int.reduceToNat, hfa, hfb, tPer, fFit_eq]
      (repeat' apply And.intro) <;> (try first | omega | ((fail_if_success (refine (id : AW _ _ _ _ _ → AW _ _ _ _ _) ?_)); (fail_if_success (refine (id : EStep _ _ _ _ _ _ _ → EStep _ _ _ _ _ _ _) ?_)); intros; (repeat' apply And.intro) <;> first | assumption | omega | (simp_all; done)))
      refine aw_condT rfl ?_
      refine aw_seq (aw_region (EF := EF0) hG (by rw [hN]; exact tr16_2) ?_)
      simp only [a16_2, go_sem, ↓reduceIte, Nat.reduceEqDiff, reduceCtorEq, Nat.reduceAdd, Nat.reduceLT, Nat.reduceLeDiff, Nat.reduceBNe, Nat.reduceBEq, Int.reduceToNat, tPer, fFit_eq]
      refine aw_ret ?_
      show Q _ _
      refine hQ _ _ (.inl rfl) ?_ ?_ ?_ <;> simp only [outφ, outV, AR.res, go_sem, ↓reduceIte, Nat.reduceEqDiff, reduceCtorEq, Nat.reduceAdd, Nat.reduceLT, Nat.reduceLeDiff, Nat.reduceBNe, Nat.reduceBEq, Int.reduceToNat, fPer, pairV]
      rw [perM_no (by rw [hfa]; simp)]
    · skip
      replace hfb := Bool.eq_false_iff.2 hfb
      refine aw_seq (aw_region (EF := EF0) hG (by rw [hN]; exact tr16_1) ?_)
      simp only [a16_1, go_sem, ↓reduceIte, Nat.reduceEqDiff, reduceCtorEq, Nat.reduceAdd, Nat.reduceLT, Nat.reduceLeDiff, Nat.reduceBNe, Nat.reduceBEq, Int.reduceToNat, hfa, hfb, tPer, fFit_eq]
      (repeat' apply And.intro) <;> (try first | omega | ((fail_if_success (refine (id : AW _ _ _ _ _ → AW _ _ _ _ _) ?_)); (fail_if_success (refine (id : EStep _ _ _ _ _ _ _ → EStep _ _ _ _ _ _ _) ?_)); intros; (repeat' apply And.intro) <;> first | assumption | omega | (simp_all; done)))
      refine aw_condT rfl ?_
      refine aw_seq (aw_region (EF := EF0) hG (by rw [hN]; exact tr16_2) ?_)
      simp only [a16_2, go_sem, ↓reduceIte, Nat.reduceEqDiff, reduceCtorEq, Nat.reduceAdd, Nat.reduceLT, Nat.reduceLeDiff, Nat.reduceBNe, Nat.reduceBEq, Int.reduceToNat, tPer, fFit_eq]
      refine aw_ret ?_
      show Q _ _
      refine hQ _ _ (.inl rfl) ?_ ?_ ?_ <;> simp only [outφ, outV, AR.res, go_sem, ↓reduceIte, Nat.reduceEqDiff, reduceCtorEq, Nat.reduceAdd, Nat.reduceLT, Nat.reduceLeDiff, Nat.reduceBNe, Nat.reduceBEq, Int.reduceToNat, fPer, pairV]
      rw [perM_no (by rw [hfa]; simp)]
/-! Up. -/
def upM (a u : Int) : Int × Int :=
  if u < 1 then (0, 2) else if fitB a = true then (if a.tmod u ≤ 0 then (a - a.tmod u, 0) else if 1099511627776 - a < u - a.tmod u then (0, 11) else (a + (u - a.tmod u), 0)) else (0, 11)
def fUp (x : Int × Int) : Prop × V := (inI x.2, pairV (upM x.1 x.2))
theorem fUp_eq (a h : Int) : gOf aTwo fUp [.int .i64 a, .int .i64 h] = (inI h, pairV (upM a h)) := gOf_eq aTwo_inj (a, h)
noncomputable def tUp : Tab
  | 28 => (gOf aI fFit)
  | _ => gNo
theorem tUp_ok : ∀ f, PureC Tryd.prog UT f (tUp f) := fun f => by
  unfold tUp
  split
  · exact fits_p
  · exact PureC.no
theorem up_p : PureC Tryd.prog UT 18 (gOf aTwo fUp) := by
  have hG := tUp_ok
  refine PureC.ofArgs aTwo_inj Tryd.func18 body18 nm18 res18 ?_
  rintro ⟨a, u⟩ hv
  refine ⟨by rw [nt18]; simp [aTwo], fun C hN Q hQ => ?_⟩
  rw [nt18] at hN
  unfold c18
  replace hv : inI u := hv
  have hv2 := hv
  unfold inI at hv2
  have htm : ∀ (h : ¬ u < 1), (a.tmod u).natAbs ≤ a.natAbs ∧ -u < a.tmod u ∧ a.tmod u < u := fun h => by
    have h1 : (a.tmod u).natAbs ≤ a.natAbs := by rw [Int.natAbs_tmod]; exact Nat.mod_le _ _
    have h2 : (a.tmod u).natAbs < u.natAbs := by rw [Int.natAbs_tmod]; exact Nat.mod_lt _ (by omega)
    omega
  refine aw_seq (aw_region (EF := EF0) hG (by rw [hN]; exact tr18_0) ?_)
  simp only [a18_0, go_sem, ↓reduceIte, Nat.reduceEqDiff, reduceCtorEq, Nat.reduceAdd, Nat.reduceLT, Nat.reduceLeDiff, Nat.reduceBNe, Nat.reduceBEq, Int.reduceToNat, aTwo, tUp, fFit_eq]
  refine aw_seq ?_
  refine aw_seq (aw_region (EF := EF0) hG (by rw [hN]; exact tr18_1) ?_)
  simp only [a18_1, go_sem, ↓reduceIte, Nat.reduceEqDiff, reduceCtorEq, Nat.reduceAdd, Nat.reduceLT, Nat.reduceLeDiff, Nat.reduceBNe, Nat.reduceBEq, Int.reduceToNat, tUp, fFit_eq]
  refine aw_cond (b := _) rfl (fun hc1 => ?_) (fun hc1 => ?_)
  · simp only [decide_eq_true_eq, decide_eq_false_iff_not, Bool.and_eq_true, Bool.or_eq_true, Bool.not_eq_true', Bool.not_eq_false', Bool.and_eq_false_iff, Bool.or_eq_false_iff, Int.ofNat_lt, Int.ofNat_le, Nat.not_lt, Nat.not_le, Int.not_lt, Int.not_le] at hc1
    refine aw_seq (aw_region (EF := EF0) hG (by rw [hN]; exact tr18_2) ?_)
    simp only [a18_2, go_sem, ↓reduceIte, Nat.reduceEqDiff, reduceCtorEq, Nat.reduceAdd, Nat.reduceLT, Nat.reduceLeDiff, Nat.reduceBNe, Nat.reduceBEq, Int.reduceToNat, tUp, fFit_eq]
    refine aw_ret ?_
    show Q _ _
    refine hQ _ _ (.inl rfl) ?_ ?_ ?_ <;> simp only [outφ, outV, AR.res, go_sem, ↓reduceIte, Nat.reduceEqDiff, reduceCtorEq, Nat.reduceAdd, Nat.reduceLT, Nat.reduceLeDiff, Nat.reduceBNe, Nat.reduceBEq, Int.reduceToNat, fUp, pairV]
    unfold upM; rw [if_pos (by omega)]
  · simp only [decide_eq_true_eq, decide_eq_false_iff_not, Bool.and_eq_true, Bool.or_eq_true, Bool.not_eq_true', Bool.not_eq_false', Bool.and_eq_false_iff, Bool.or_eq_false_iff, Int.ofNat_lt, Int.ofNat_le, Nat.not_lt, Nat.not_le, Int.not_lt, Int.not_le] at hc1
    have hu1 : ¬ u < 1 := by omega
    refine aw_skip ?_
    try simp only [go_sem, ↓reduceIte, Nat.reduceEqDiff, reduceCtorEq, Nat.reduceAdd, Nat.reduceLT, Nat.reduceLeDiff, Nat.reduceBNe, Nat.reduceBEq, Int.reduceToNat]
    refine aw_seq ?_
    refine aw_seq (aw_region (EF := EF0) hG (by rw [hN]; exact tr18_3) ?_)
    simp only [a18_3, go_sem, ↓reduceIte, Nat.reduceEqDiff, reduceCtorEq, Nat.reduceAdd, Nat.reduceLT, Nat.reduceLeDiff, Nat.reduceBNe, Nat.reduceBEq, Int.reduceToNat, tUp, fFit_eq]
    (repeat' apply And.intro) <;> (try first | omega | ((fail_if_success (refine (id : AW _ _ _ _ _ → AW _ _ _ _ _) ?_)); (fail_if_success (refine (id : EStep _ _ _ _ _ _ _ → EStep _ _ _ _ _ _ _) ?_)); intros; (repeat' apply And.intro) <;> first | assumption | omega | (simp_all; done)))
    refine aw_cond (b := _) rfl (fun hb3 => ?_) (fun hb3 => ?_)
    · skip
      have hf : fitB a = false := by simpa using hb3
      refine aw_seq (aw_region (EF := EF0) hG (by rw [hN]; exact tr18_4) ?_)
      simp only [a18_4, go_sem, ↓reduceIte, Nat.reduceEqDiff, reduceCtorEq, Nat.reduceAdd, Nat.reduceLT, Nat.reduceLeDiff, Nat.reduceBNe, Nat.reduceBEq, Int.reduceToNat, tUp, fFit_eq]
      refine aw_ret ?_
      show Q _ _
      refine hQ _ _ (.inl rfl) ?_ ?_ ?_ <;> simp only [outφ, outV, AR.res, go_sem, ↓reduceIte, Nat.reduceEqDiff, reduceCtorEq, Nat.reduceAdd, Nat.reduceLT, Nat.reduceLeDiff, Nat.reduceBNe, Nat.reduceBEq, Int.reduceToNat, fUp, pairV]
      unfold upM; rw [if_neg hu1, hf]; rfl
    · skip
      have hf : fitB a = true := by simpa using hb3
      have hfb := fitB_bd hf
      obtain ⟨t1, t2, t3⟩ := htm hu1
      have hup : upM a u = if a.tmod u ≤ 0 then (a - a.tmod u, 0) else if 1099511627776 - a < u - a.tmod u then (0, 11) else (a + (u - a.tmod u), 0) := by unfold upM; rw [if_neg hu1, if_pos hf]
      refine aw_skip ?_
      try simp only [go_sem, ↓reduceIte, Nat.reduceEqDiff, reduceCtorEq, Nat.reduceAdd, Nat.reduceLT, Nat.reduceLeDiff, Nat.reduceBNe, Nat.reduceBEq, Int.reduceToNat]
      refine aw_seq (aw_region (EF := EF0) hG (by rw [hN]; exact tr18_5) ?_)
      simp only [a18_5, go_sem, ↓reduceIte, Nat.reduceEqDiff, reduceCtorEq, Nat.reduceAdd, Nat.reduceLT, Nat.reduceLeDiff, Nat.reduceBNe, Nat.reduceBEq, Int.reduceToNat, tUp, fFit_eq]
      (repeat' apply And.intro) <;> (try first | omega | ((fail_if_success (refine (id : AW _ _ _ _ _ → AW _ _ _ _ _) ?_)); (fail_if_success (refine (id : EStep _ _ _ _ _ _ _ → EStep _ _ _ _ _ _ _) ?_)); intros; (repeat' apply And.intro) <;> first | assumption | omega | (simp_all; done)))
      refine aw_seq ?_
      refine aw_seq (aw_region (EF := EF0) hG (by rw [hN]; exact tr18_6) ?_)
      simp only [a18_6, go_sem, ↓reduceIte, Nat.reduceEqDiff, reduceCtorEq, Nat.reduceAdd, Nat.reduceLT, Nat.reduceLeDiff, Nat.reduceBNe, Nat.reduceBEq, Int.reduceToNat, tUp, fFit_eq]
      refine aw_cond (b := _) rfl (fun hc6 => ?_) (fun hc6 => ?_)
      · simp only [decide_eq_true_eq, decide_eq_false_iff_not, Bool.and_eq_true, Bool.or_eq_true, Bool.not_eq_true', Bool.not_eq_false', Bool.and_eq_false_iff, Bool.or_eq_false_iff, Int.ofNat_lt, Int.ofNat_le, Nat.not_lt, Nat.not_le, Int.not_lt, Int.not_le] at hc6
        refine aw_seq (aw_region (EF := EF0) hG (by rw [hN]; exact tr18_7) ?_)
        simp only [a18_7, go_sem, ↓reduceIte, Nat.reduceEqDiff, reduceCtorEq, Nat.reduceAdd, Nat.reduceLT, Nat.reduceLeDiff, Nat.reduceBNe, Nat.reduceBEq, Int.reduceToNat, inI, tUp, fFit_eq]
        (repeat' apply And.intro) <;> (try first | omega | ((fail_if_success (refine (id : AW _ _ _ _ _ → AW _ _ _ _ _) ?_)); (fail_if_success (refine (id : EStep _ _ _ _ _ _ _ → EStep _ _ _ _ _ _ _) ?_)); intros; (repeat' apply And.intro) <;> first | assumption | omega | (simp_all; done)))
        refine aw_ret ?_
        show Q _ _
        refine hQ _ _ (.inl rfl) ?_ ?_ ?_ <;> simp only [outφ, outV, AR.res, go_sem, ↓reduceIte, Nat.reduceEqDiff, reduceCtorEq, Nat.reduceAdd, Nat.reduceLT, Nat.reduceLeDiff, Nat.reduceBNe, Nat.reduceBEq, Int.reduceToNat, fUp, pairV]
        rw [hup, if_pos (by omega)]
      · simp only [decide_eq_true_eq, decide_eq_false_iff_not, Bool.and_eq_true, Bool.or_eq_true, Bool.not_eq_true', Bool.not_eq_false', Bool.and_eq_false_iff, Bool.or_eq_false_iff, Int.ofNat_lt, Int.ofNat_le, Nat.not_lt, Nat.not_le, Int.not_lt, Int.not_le] at hc6
        refine aw_skip ?_
        try simp only [go_sem, ↓reduceIte, Nat.reduceEqDiff, reduceCtorEq, Nat.reduceAdd, Nat.reduceLT, Nat.reduceLeDiff, Nat.reduceBNe, Nat.reduceBEq, Int.reduceToNat]
        refine aw_seq ?_
        refine aw_seq (aw_region (EF := EF0) hG (by rw [hN]; exact tr18_8) ?_)
        simp only [a18_8, go_sem, ↓reduceIte, Nat.reduceEqDiff, reduceCtorEq, Nat.reduceAdd, Nat.reduceLT, Nat.reduceLeDiff, Nat.reduceBNe, Nat.reduceBEq, Int.reduceToNat, inI, tUp, fFit_eq]
        (repeat' apply And.intro) <;> (try first | omega | ((fail_if_success (refine (id : AW _ _ _ _ _ → AW _ _ _ _ _) ?_)); (fail_if_success (refine (id : EStep _ _ _ _ _ _ _ → EStep _ _ _ _ _ _ _) ?_)); intros; (repeat' apply And.intro) <;> first | assumption | omega | (simp_all; done)))
        refine aw_cond (b := _) rfl (fun hc8 => ?_) (fun hc8 => ?_)
        · simp only [decide_eq_true_eq, decide_eq_false_iff_not, Bool.and_eq_true, Bool.or_eq_true, Bool.not_eq_true', Bool.not_eq_false', Bool.and_eq_false_iff, Bool.or_eq_false_iff, Int.ofNat_lt, Int.ofNat_le, Nat.not_lt, Nat.not_le, Int.not_lt, Int.not_le] at hc8
          refine aw_seq (aw_region (EF := EF0) hG (by rw [hN]; exact tr18_9) ?_)
          simp only [a18_9, go_sem, ↓reduceIte, Nat.reduceEqDiff, reduceCtorEq, Nat.reduceAdd, Nat.reduceLT, Nat.reduceLeDiff, Nat.reduceBNe, Nat.reduceBEq, Int.reduceToNat, tUp, fFit_eq]
          refine aw_ret ?_
          show Q _ _
          refine hQ _ _ (.inl rfl) ?_ ?_ ?_ <;> simp only [outφ, outV, AR.res, go_sem, ↓reduceIte, Nat.reduceEqDiff, reduceCtorEq, Nat.reduceAdd, Nat.reduceLT, Nat.reduceLeDiff, Nat.reduceBNe, Nat.reduceBEq, Int.reduceToNat, fUp, pairV]
          rw [hup, if_neg (by omega), if_pos (by omega)]
        · simp only [decide_eq_true_eq, decide_eq_false_iff_not, Bool.and_eq_true, Bool.or_eq_true, Bool.not_eq_true', Bool.not_eq_false', Bool.and_eq_false_iff, Bool.or_eq_false_iff, Int.ofNat_lt, Int.ofNat_le, Nat.not_lt, Nat.not_le, Int.not_lt, Int.not_le] at hc8
          refine aw_skip ?_
          try simp only [go_sem, ↓reduceIte, Nat.reduceEqDiff, reduceCtorEq, Nat.reduceAdd, Nat.reduceLT, Nat.reduceLeDiff, Nat.reduceBNe, Nat.reduceBEq, Int.reduceToNat]
          refine aw_seq (aw_region (EF := EF0) hG (by rw [hN]; exact tr18_10) ?_)
          simp only [a18_10, go_sem, ↓reduceIte, Nat.reduceEqDiff, reduceCtorEq, Nat.reduceAdd, Nat.reduceLT, Nat.reduceLeDiff, Nat.reduceBNe, Nat.reduceBEq, Int.reduceToNat, inI, tUp, fFit_eq]
          (repeat' apply And.intro) <;> (try first | omega | ((fail_if_success (refine (id : AW _ _ _ _ _ → AW _ _ _ _ _) ?_)); (fail_if_success (refine (id : EStep _ _ _ _ _ _ _ → EStep _ _ _ _ _ _ _) ?_)); intros; (repeat' apply And.intro) <;> first | assumption | omega | (simp_all; done)))
          refine aw_ret ?_
          show Q _ _
          refine hQ _ _ (.inl rfl) ?_ ?_ ?_ <;> simp only [outφ, outV, AR.res, go_sem, ↓reduceIte, Nat.reduceEqDiff, reduceCtorEq, Nat.reduceAdd, Nat.reduceLT, Nat.reduceLeDiff, Nat.reduceBNe, Nat.reduceBEq, Int.reduceToNat, fUp, pairV]
          rw [hup, if_neg (by omega), if_neg (by omega)]
end Go.Proofs.YtdjeodopibaebaaDoor
