/- The reference's share, weigh, greatest, size. -/
import Derived.Test.YtfjgnfgadkajnaaGreatMo6
namespace Go.Proofs.YtfjgnfgadkajnaaGreat
open Go Go.RowKit
set_option linter.unusedSimpArgs false
set_option linter.unusedVariables false
set_option linter.deprecated false
def fRsz (n : Int) : Prop × V := (inI n ∧ n ≠ -9223372036854775808, .int .i64 (n.natAbs : Int))
theorem fRsz_eq (n : Int) : gOf aI fRsz [.int .i64 n] = (inI n ∧ n ≠ -9223372036854775808, .int .i64 (n.natAbs : Int)) := gOf_eq aI_inj n
theorem rsize_p : PureC Tryz.prog UT 32 (gOf aI fRsz) := by
  have hG := tNo_ok
  refine PureC.ofArgs aI_inj Tryz.func32 body32 nm32 res32 ?_
  rintro n hv
  refine ⟨by rw [nt32]; simp [aI], fun C hN Q hQ => ?_⟩
  rw [nt32] at hN
  unfold c32
  obtain ⟨h1, h2⟩ : inI n ∧ n ≠ -9223372036854775808 := hv
  unfold inI at h1
  refine aw_seq (aw_region (EF := EF0) hG (by rw [hN]; exact tr32_0) ?_)
  simp only [a32_0, go_sem, simprocAttr, aI]
  refine aw_seq ?_
  refine aw_seq (aw_region (EF := EF0) hG (by rw [hN]; exact tr32_1) ?_)
  simp only [a32_1, go_sem, simprocAttr]
  refine aw_cond (b := _) rfl (fun hc1 => ?_) (fun hc1 => ?_)
  · simp only [hcL] at hc1
    refine aw_seq (aw_region (EF := EF0) hG (by rw [hN]; exact tr32_2) ?_)
    simp only [a32_2, go_sem, simprocAttr, inI]
    (repeat' apply And.intro) <;> (try first | omega | ((fail_if_success refine idW ?_); (fail_if_success refine idS ?_); intros; (repeat' apply And.intro) <;> first | assumption | omega | (simp_all; done)))
    refine aw_ret ?_
    show Q _ _
    refine hQ _ _ (.inl rfl) ?_ ?_ ?_ <;> simp only [outφ, outV, AR.res, go_sem, simprocAttr, fRsz]
    congr 1; omega
  · simp only [hcL] at hc1
    refine aw_skip ?_
    try simp only [go_sem, simprocAttr]
    refine aw_seq (aw_region (EF := EF0) hG (by rw [hN]; exact tr32_3) ?_)
    simp only [a32_3, go_sem, simprocAttr]
    refine aw_ret ?_
    show Q _ _
    refine hQ _ _ (.inl rfl) ?_ ?_ ?_ <;> simp only [outφ, outV, AR.res, go_sem, simprocAttr, fRsz]
    congr 1; omega
/-! The sum of weights. -/
def runW (t : Int) : List Int → Int × Int
  | [] => if t = 0 then (0, 2) else (t, 0)
  | w :: l => if 1099511627776 - t < w then (0, 11) else runW (t + w) l
def wghM (l : List Int) : Int × Int := if l.any (fun w => decide (w < 0)) then (0, 2) else runW 0 l
def fWgh (l : List Int) : Prop × V := (l.length ≤ 140737488355328, pairV (wghM l))
theorem fWgh_eq (l : List Int) : gOf aLi fWgh [.list (ints l) false] = (l.length ≤ 140737488355328, pairV (wghM l)) := gOf_eq aLi_inj l
theorem weigh_p : PureC Tryz.prog UT 30 (gOf aLi fWgh) := by
  have hG := tNo_ok
  refine PureC.ofArgs aLi_inj Tryz.func30 body30 nm30 res30 ?_
  rintro l hv
  refine ⟨by rw [nt30]; simp [aLi], fun C hN Q hQ => ?_⟩
  rw [nt30] at hN
  unfold c30
  replace hv : l.length ≤ 140737488355328 := hv
  refine aw_seq (aw_region (EF := EF0) hG (by rw [hN]; exact tr30_0) ?_)
  simp only [a30_0, go_sem, simprocAttr, aLi, tNo]
  refine aw_seq (aw_region (EF := EF0) hG (by rw [hN]; exact tr30_1) ?_)
  simp only [a30_1, go_sem, simprocAttr, tNo]
  refine aw_seq ?_
  refine aw_seq (aw_region (EF := EF0) hG (by rw [hN]; exact tr30_2) ?_)
  simp only [a30_2, go_sem, simprocAttr, tNo]
  refine aw_block ?_
  refine aw_loop (α := Nat) (fun i => (i ≤ l.length) ∧ (∀ x ∈ l.take i, decide (x < 0) = false)) (fun i => ⟨mkE [(0, V.list (ints l) false), (4, V.int IntKind.i64 0), (5, .int .i64 i)], mkH []⟩) (fun i => l.length - i) 0 ⟨Nat.zero_le _, by simp⟩ ?_ ?_
  · refine Le.mk _ _ ?_ ?_ rfl <;> simp only [go_sem, simprocAttr] <;> (repeat' apply And.intro) <;> (try first | rfl | exact wk_frzb rfl rfl rfl | exact wk_fn rfl | exact .nilo _ _ _ rfl rfl)
  · rintro i ⟨hi, hs⟩ KL0 hKL0
    try dsimp only at *
    refine aw_seq ?_
    refine aw_seq (aw_region (EF := EF0) hG (by rw [hN]; exact tr30_3) ?_)
    simp only [a30_3, go_sem, simprocAttr, tNo]
    refine aw_cond (b := _) rfl (fun hc3 => ?_) (fun hc3 => ?_)
    · simp only [hcL] at hc3
      refine aw_skip ?_
      try simp only [go_sem, simprocAttr]
      refine aw_seq ?_
      refine aw_block ?_
      refine aw_seq (aw_region (EF := EF0) hG (by rw [hN]; exact tr30_5) ?_)
      simp only [a30_5, go_sem, simprocAttr, ints_getD _ _ _ hc3, hc3, tNo]
      (repeat' apply And.intro) <;> (try first | omega | ((fail_if_success refine idW ?_); (fail_if_success refine idS ?_); intros; (repeat' apply And.intro) <;> first | assumption | omega | (simp_all; done)))
      refine aw_cond (b := _) rfl (fun hc5 => ?_) (fun hc5 => ?_)
      · simp only [hcL] at hc5
        refine aw_seq (aw_region (EF := EF0) hG (by rw [hN]; exact tr30_6) ?_)
        simp only [a30_6, go_sem, simprocAttr, tNo]
        refine aw_ret ?_
        show Q _ _
        refine hQ _ _ (.inl rfl) ?_ ?_ ?_ <;> simp only [outφ, outV, AR.res, go_sem, simprocAttr, fWgh]
        unfold wghM; rw [if_pos (any_at hc3 (by simpa using hc5))]; rfl
      · simp only [hcL] at hc5
        refine aw_skip ?_
        try simp only [go_sem, simprocAttr]
        refine aw_region (EF := EF0) hG (by rw [hN]; exact tr30_4) ?_
        simp only [a30_4, go_sem, simprocAttr, inI, tNo]
        (repeat' apply And.intro) <;> (try first | omega | ((fail_if_success refine idW ?_); (fail_if_success refine idS ?_); intros; (repeat' apply And.intro) <;> first | assumption | omega | (simp_all; done)))
        refine hKL0 (i + 1) _ ?_ ?_ ?_
        · (try dsimp only); exact ⟨hc3, fun x hx => by rw [take_succ' hc3] at hx; rcases List.mem_append.1 hx with hx | hx; exact hs x hx; rw [List.mem_singleton.1 hx]; simpa using hc5⟩
        · (try dsimp only); omega
        · refine Le.mk _ _ ?_ ?_ rfl <;> simp only [go_sem, simprocAttr] <;> (repeat' apply And.intro) <;> (try first | rfl | exact wk_frzb rfl rfl rfl | exact wk_fn rfl | exact .nilo _ _ _ rfl rfl)
    · simp only [hcL] at hc3
      have hany := any_no hc3 hs
      have hw : wghM l = runW 0 l := by unfold wghM; rw [hany]; rfl
      have hnn : ∀ x ∈ l, 0 ≤ x := fun x hx => by have := List.any_eq_false.1 hany x hx; simpa using this
      refine aw_exit ?_
      simp only [go_sem, simprocAttr]
      refine aw_seq ?_
      refine aw_seq (aw_region (EF := EF0) hG (by rw [hN]; exact tr30_7) ?_)
      simp only [a30_7, go_sem, simprocAttr, tNo]
      refine aw_block ?_
      refine aw_loop (α := Nat × Int) (fun γ => (γ.1 ≤ l.length) ∧ (runW 0 l = runW γ.2 (l.drop γ.1)) ∧ (0 ≤ γ.2) ∧ (γ.2 ≤ 1099511627776)) (fun γ => ⟨mkE [(0, V.list (ints l) false), (4, .int .i64 γ.2), (6, .int .i64 γ.1)], mkH []⟩) (fun γ => l.length - γ.1) (0, 0) ⟨Nat.zero_le _, rfl, by omega, by omega⟩ ?_ ?_
      · refine Le.mk _ _ ?_ ?_ rfl <;> simp only [go_sem, simprocAttr] <;> (repeat' apply And.intro) <;> (try first | rfl | exact wk_frzb rfl rfl rfl | exact wk_fn rfl | exact .nilo _ _ _ rfl rfl)
      · rintro ⟨j, t⟩ ⟨hj, hr, ht0, ht1⟩ KL2 hKL2
        try dsimp only at *
        refine aw_seq ?_
        refine aw_seq (aw_region (EF := EF0) hG (by rw [hN]; exact tr30_8) ?_)
        simp only [a30_8, go_sem, simprocAttr, tNo]
        refine aw_cond (b := _) rfl (fun hc8 => ?_) (fun hc8 => ?_)
        · simp only [hcL] at hc8
          refine aw_skip ?_
          try simp only [go_sem, simprocAttr]
          refine aw_seq ?_
          refine aw_block ?_
          refine aw_seq ?_
          have hd := List.drop_eq_getElem_cons hc8
          rw [hd, runW] at hr
          have hx0 := hnn l[j] (List.getElem_mem _)
          generalize hxx : l[j] = x at hr hx0
          refine aw_seq (aw_region (EF := EF0) hG (by rw [hN]; exact tr30_10) ?_)
          simp only [a30_10, go_sem, simprocAttr, inI, ints_getD _ _ _ hc8, hc8, hxx, tNo]
          (repeat' apply And.intro) <;> (try first | omega | ((fail_if_success refine idW ?_); (fail_if_success refine idS ?_); intros; (repeat' apply And.intro) <;> first | assumption | omega | (simp_all; done)))
          refine aw_cond (b := _) rfl (fun hc10 => ?_) (fun hc10 => ?_)
          · simp only [hcL] at hc10
            refine aw_seq (aw_region (EF := EF0) hG (by rw [hN]; exact tr30_11) ?_)
            simp only [a30_11, go_sem, simprocAttr, tNo]
            refine aw_ret ?_
            show Q _ _
            refine hQ _ _ (.inl rfl) ?_ ?_ ?_ <;> simp only [outφ, outV, AR.res, go_sem, simprocAttr, fWgh]
            rw [hw, hr, if_pos hc10]; rfl
          · simp only [hcL] at hc10
            rw [if_neg (by omega)] at hr
            refine aw_skip ?_
            try simp only [go_sem, simprocAttr]
            refine aw_region (EF := EF0) hG (by rw [hN]; exact tr30_12) ?_
            simp only [a30_12, go_sem, simprocAttr, inI, ints_getD _ _ _ hc8, hc8, hxx, tNo]
            (repeat' apply And.intro) <;> (try first | omega | ((fail_if_success refine idW ?_); (fail_if_success refine idS ?_); intros; (repeat' apply And.intro) <;> first | assumption | omega | (simp_all; done)))
            refine aw_region (EF := EF0) hG (by rw [hN]; exact tr30_9) ?_
            simp only [a30_9, go_sem, simprocAttr, inI, tNo]
            (repeat' apply And.intro) <;> (try first | omega | ((fail_if_success refine idW ?_); (fail_if_success refine idS ?_); intros; (repeat' apply And.intro) <;> first | assumption | omega | (simp_all; done)))
            refine hKL2 (j + 1, t + x) _ ?_ ?_ ?_
            · (try dsimp only); exact ⟨hc8, hr, by omega, by omega⟩
            · (try dsimp only); omega
            · refine Le.mk _ _ ?_ ?_ rfl <;> simp only [go_sem, simprocAttr] <;> (repeat' apply And.intro) <;> (try first | rfl | exact wk_frzb rfl rfl rfl | exact wk_fn rfl | exact .nilo _ _ _ rfl rfl)
        · simp only [hcL] at hc8
          obtain rfl : j = l.length := by omega
          rw [List.drop_length, runW] at hr
          refine aw_exit ?_
          simp only [go_sem, simprocAttr]
          refine aw_seq ?_
          refine aw_seq (aw_region (EF := EF0) hG (by rw [hN]; exact tr30_13) ?_)
          simp only [a30_13, go_sem, simprocAttr, tNo]
          refine aw_cond (b := _) rfl (fun hc13 => ?_) (fun hc13 => ?_)
          · simp only [hcL] at hc13
            refine aw_seq (aw_region (EF := EF0) hG (by rw [hN]; exact tr30_14) ?_)
            simp only [a30_14, go_sem, simprocAttr, tNo]
            refine aw_ret ?_
            show Q _ _
            refine hQ _ _ (.inl rfl) ?_ ?_ ?_ <;> simp only [outφ, outV, AR.res, go_sem, simprocAttr, fWgh]
            rw [hw, hr, if_pos hc13]; rfl
          · simp only [hcL] at hc13
            refine aw_skip ?_
            try simp only [go_sem, simprocAttr]
            refine aw_seq (aw_region (EF := EF0) hG (by rw [hN]; exact tr30_15) ?_)
            simp only [a30_15, go_sem, simprocAttr, tNo]
            refine aw_ret ?_
            show Q _ _
            refine hQ _ _ (.inl rfl) ?_ ?_ ?_ <;> simp only [outφ, outV, AR.res, go_sem, simprocAttr, fWgh]
            rw [hw, hr, if_neg hc13]; rfl
/-! One share. -/
def aThree (x : Int × Int × Int) : List V := [.int .i64 x.1, .int .i64 x.2.1, .int .i64 x.2.2]
theorem aThree_inj (a b : Int × Int × Int) (h : aThree a = aThree b) : a = b := by
  obtain ⟨a_a, a_b, a_c⟩ := a
  obtain ⟨b_a, b_b, b_c⟩ := b
  simp only [aThree, List.cons.injEq, V.str.injEq, V.int.injEq, V.bool.injEq, V.agg.injEq, V.list.injEq, and_true, true_and] at h
  obtain ⟨h0, h1, h2⟩ := h
  subst h0
  subst h1
  subst h2
  rfl
def fSh (x : Int × Int × Int) : Prop × V := (0 ≤ x.1 ∧ x.1 ≤ 1099511627776 ∧ 0 ≤ x.2.1 ∧ x.2.1 ≤ x.2.2 ∧ 0 < x.2.2 ∧ x.2.2 ≤ 1099511627776, .tup [.int .i64 (x.1 * x.2.1 / x.2.2), .int .i64 (x.1 * x.2.1 % x.2.2)])
theorem fSh_eq (a w s : Int) : gOf aThree fSh [.int .i64 a, .int .i64 w, .int .i64 s] = (0 ≤ a ∧ a ≤ 1099511627776 ∧ 0 ≤ w ∧ w ≤ s ∧ 0 < s ∧ s ≤ 1099511627776, .tup [.int .i64 (a * w / s), .int .i64 (a * w % s)]) := gOf_eq aThree_inj (a, w, s)
def bitK : Nat → Int
  | 0 => 0
  | k + 1 => 2 ^ k
theorem pow_bd {k : Nat} (h : k ≤ 40) : (1 : Int) ≤ 2 ^ k ∧ (2 : Int) ^ k ≤ 1099511627776 := by
  have h1 : (1 : Nat) ≤ 2 ^ k := Nat.one_le_two_pow
  have h2 : (2 : Nat) ^ k ≤ 2 ^ 40 := Nat.pow_le_pow_right (by omega) h
  have e : ((2 : Int) ^ k) = ((2 ^ k : Nat) : Int) := by rw [Int.natCast_pow]; rfl
  rw [e]; omega
theorem pre_step (a : Int) (k : Nat) : a / 2 ^ k - a / 2 ^ k % 2 = 2 * (a / 2 ^ (k + 1)) := by
  have e : a / 2 ^ (k + 1) = a / 2 ^ k / 2 := by rw [Int.pow_succ, Int.ediv_ediv_of_nonneg (Int.pow_nonneg (by decide))]
  rw [e]; omega
theorem bitK_bd {k : Nat} (h : k ≤ 41) : 0 ≤ bitK k ∧ bitK k ≤ 1099511627776 := by
  cases k with
  | zero => exact ⟨Int.le_refl _, by decide⟩
  | succ k => have := pow_bd (show k ≤ 40 by omega); exact ⟨Int.le_trans (by decide) this.1, this.2⟩
theorem bit_half (k : Nat) : (bitK (k + 1)).tdiv 2 = bitK k := by
  cases k with
  | zero => rfl
  | succ k =>
    show ((2 : Int) ^ (k + 1)).tdiv 2 = 2 ^ k
    rw [Int.pow_succ, Int.mul_tdiv_cancel _ (by decide)]
theorem q_le {p w q r s : Int} (h : p * w = q * s + r) (hr : 0 ≤ r) (hp : 0 ≤ p) (hw : w ≤ s) (hs : 0 < s) : q ≤ p := by
  have h1 : p * w ≤ p * s := Int.mul_le_mul_of_nonneg_left hw hp
  exact Int.le_of_mul_le_mul_right (show q * s ≤ p * s by omega) hs
theorem q_nn {p w q r s : Int} (h : p * w = q * s + r) (hr : r < s) (hp : 0 ≤ p) (hw : 0 ≤ w) (hs : 0 < s) : 0 ≤ q := by
  have h1 : 0 ≤ p * w := Int.mul_nonneg hp hw
  by_cases c : q < 0
  · have : (q + 1) * s ≤ 0 := Int.mul_nonpos_of_nonpos_of_nonneg (by omega) (by omega)
    rw [Int.add_mul, Int.one_mul] at this
    omega
  · omega
theorem div_un {x q r s : Int} (h : x = q * s + r) (hr0 : 0 ≤ r) (hr : r < s) : x / s = q ∧ x % s = r := by
  subst h
  have hs : 0 < s := by omega
  rw [Int.add_comm, Int.add_mul_ediv_right _ _ (by omega), Int.add_mul_emod_self_right, Int.ediv_eq_zero_of_lt hr0 hr, Int.emod_eq_of_lt hr0 hr]
  exact ⟨by omega, rfl⟩
theorem share_p : PureC Tryz.prog UT 33 (gOf aThree fSh) := by
  have hG := tNo_ok
  refine PureC.ofArgs aThree_inj Tryz.func33 body33 nm33 res33 ?_
  rintro ⟨a, w, s⟩ hv
  refine ⟨by rw [nt33]; simp [aThree], fun C hN Q hQ => ?_⟩
  rw [nt33] at hN
  unfold c33
  obtain ⟨a0, a1, w0, w1, s0, s1⟩ : 0 ≤ a ∧ a ≤ 1099511627776 ∧ 0 ≤ w ∧ w ≤ s ∧ 0 < s ∧ s ≤ 1099511627776 := hv
  have hst : a / 2 ^ 41 * w = 0 * s + 0 := by rw [Int.ediv_eq_zero_of_lt a0 (Int.lt_of_le_of_lt a1 (by decide))]; simp
  refine aw_seq (aw_region (EF := EF0) hG (by rw [hN]; exact tr33_0) ?_)
  simp only [a33_0, go_sem, simprocAttr, aThree, tNo]
  refine aw_seq (aw_region (EF := EF0) hG (by rw [hN]; exact tr33_1) ?_)
  simp only [a33_1, go_sem, simprocAttr, tNo]
  refine aw_seq ?_
  refine aw_seq (aw_region (EF := EF0) hG (by rw [hN]; exact tr33_2) ?_)
  simp only [a33_2, go_sem, simprocAttr, tNo]
  refine aw_block ?_
  refine aw_loop (α := Nat × Int × Int) (fun γ => (γ.1 ≤ 41) ∧ (a / 2 ^ γ.1 * w = γ.2.1 * s + γ.2.2) ∧ (0 ≤ γ.2.2) ∧ (γ.2.2 < s)) (fun γ => ⟨mkE [(0, V.int IntKind.i64 a), (1, V.int IntKind.i64 w), (2, V.int IntKind.i64 s), (8, .int .i64 γ.2.1), (9, .int .i64 γ.2.2), (10, .int .i64 (bitK γ.1))], mkH []⟩) (fun γ => γ.1) (41, 0, 0) ⟨Nat.le_refl _, hst, Int.le_refl _, s0⟩ ?_ ?_
  · refine Le.mk _ _ ?_ ?_ rfl <;> simp only [go_sem, simprocAttr] <;> (repeat' apply And.intro) <;> (try first | rfl | exact wk_frzb rfl rfl rfl | exact wk_fn rfl | exact .nilo _ _ _ rfl rfl)
  · rintro ⟨k, q, r⟩ ⟨hk, h1, h2, h3⟩ KL0 hKL0
    try dsimp only at *
    refine aw_seq ?_
    refine aw_seq (aw_region (EF := EF0) hG (by rw [hN]; exact tr33_3) ?_)
    simp only [a33_3, go_sem, simprocAttr, tNo]
    refine aw_cond (b := _) rfl (fun hb3 => ?_) (fun hb3 => ?_)
    · skip
      obtain ⟨k, rfl⟩ : ∃ j, k = j + 1 := by cases k with | zero => (simp [bitK] at hb3) | succ k => exact ⟨k, rfl⟩
      have pb := pow_bd (show k ≤ 40 by omega)
      have hp0 : 0 ≤ a / 2 ^ (k + 1) := Int.ediv_nonneg a0 (Int.pow_nonneg (by decide))
      have hpa : a / 2 ^ (k + 1) ≤ a := Int.ediv_le_self _ a0
      have hq1 := q_le h1 h2 hp0 w1 s0
      have hq0 := q_nn h1 h3 hp0 w0 s0
      have hps := pre_step a k
      have hn0 : 0 ≤ a / 2 ^ k := Int.ediv_nonneg a0 (Int.pow_nonneg (by decide))
      have hna : a / 2 ^ k ≤ a := Int.ediv_le_self _ a0
      have htd : a.tdiv (bitK (k + 1)) = a / 2 ^ k := Int.tdiv_eq_ediv_of_nonneg a0
      have htm : (a / 2 ^ k).tmod 2 = a / 2 ^ k % 2 := Int.tmod_eq_emod_of_nonneg hn0
      have hbn : bitK (k + 1) = 0 ↔ False := ⟨fun h => by simp only [bitK] at h; omega, False.elim⟩
      generalize hP : a / 2 ^ (k + 1) = P at *
      generalize hNN : a / 2 ^ k = N at *
      refine aw_skip ?_
      try simp only [go_sem, simprocAttr]
      refine aw_seq ?_
      refine aw_block ?_
      refine aw_seq (aw_region (EF := EF0) hG (by rw [hN]; exact tr33_5) ?_)
      simp only [a33_5, go_sem, simprocAttr, inI, tNo]
      (repeat' apply And.intro) <;> (try first | omega | ((fail_if_success refine idW ?_); (fail_if_success refine idS ?_); intros; (repeat' apply And.intro) <;> first | assumption | omega | (simp_all; done)))
      refine aw_cut (α := Int) (fun b => (b = N % 2)) (fun b => ⟨mkE [(0, V.int IntKind.i64 a), (1, V.int IntKind.i64 w), (2, V.int IntKind.i64 s), (8, V.int IntKind.i64 (2 * q)), (9, .int .i64 (2 * r + b * w)), (10, V.int IntKind.i64 (bitK (k + 1)))], mkH []⟩) ?_ ?_
      · intro KC6 hKC6
        refine aw_seq (aw_region (EF := EF0) hG (by rw [hN]; exact tr33_6) ?_)
        simp only [a33_6, go_sem, simprocAttr, htd, htm, hbn, tNo]
        (repeat' apply And.intro) <;> (try first | omega | ((fail_if_success refine idW ?_); (fail_if_success refine idS ?_); intros; (repeat' apply And.intro) <;> first | assumption | omega | (simp_all; done)))
        refine aw_cond (b := _) rfl (fun hb6 => ?_) (fun hb6 => ?_)
        · skip
          refine aw_region (EF := EF0) hG (by rw [hN]; exact tr33_7) ?_
          simp only [a33_7, go_sem, simprocAttr, inI, tNo]
          (repeat' apply And.intro) <;> (try first | omega | ((fail_if_success refine idW ?_); (fail_if_success refine idS ?_); intros; (repeat' apply And.intro) <;> first | assumption | omega | (simp_all; done)))
          refine hKC6 (1) _ ?_ ?_
          · (try dsimp only); exact (by have h9 : N % 2 = 1 := (by simpa using hb6); omega)
          · refine Le.mk _ _ ?_ ?_ rfl <;> simp only [go_sem, simprocAttr, Int.one_mul] <;> (repeat' apply And.intro) <;> (try first | rfl | exact wk_frzb rfl rfl rfl | exact wk_fn rfl | exact .nilo _ _ _ rfl rfl)
        · skip
          refine aw_skip ?_
          try simp only [go_sem, simprocAttr]
          refine hKC6 (0) _ ?_ ?_
          · (try dsimp only); exact (by have h9 : ¬ N % 2 = 1 := (by simpa using hb6); omega)
          · refine Le.mk _ _ ?_ ?_ rfl <;> simp only [go_sem, simprocAttr, Int.zero_mul, Int.add_zero] <;> (repeat' apply And.intro) <;> (try first | rfl | exact wk_frzb rfl rfl rfl | exact wk_fn rfl | exact .nilo _ _ _ rfl rfl)
      · rintro b hb
        have hb2 : b = 0 ∨ b = 1 := by omega
        have hbw : 0 ≤ b * w ∧ b * w ≤ s := by rcases hb2 with rfl | rfl <;> omega
        have hNw : N * w = 2 * q * s + (2 * r + b * w) := by rw [show N = 2 * P + b by omega, show (2 * P + b) * w = 2 * (P * w) + b * w by grind, h1]; grind
        refine aw_block ?_
        refine aw_loop (α := Int × Int) (fun γ => (N * w = γ.1 * s + γ.2) ∧ (0 ≤ γ.2) ∧ (γ.2 ≤ 3298534883328) ∧ (0 ≤ γ.1)) (fun γ => ⟨mkE [(0, V.int IntKind.i64 a), (1, V.int IntKind.i64 w), (2, V.int IntKind.i64 s), (8, .int .i64 γ.1), (9, .int .i64 γ.2), (10, V.int IntKind.i64 (bitK (k + 1)))], mkH []⟩) (fun γ => γ.2.toNat) (2 * q, 2 * r + b * w) ⟨hNw, by omega, by omega, by omega⟩ ?_ ?_
        · refine Le.mk _ _ ?_ ?_ rfl <;> simp only [go_sem, simprocAttr] <;> (repeat' apply And.intro) <;> (try first | rfl | exact wk_frzb rfl rfl rfl | exact wk_fn rfl | exact .nilo _ _ _ rfl rfl)
        · rintro ⟨q2, r2⟩ ⟨i1, i2, i3, i4⟩ KL2 hKL2
          try dsimp only at *
          refine aw_seq ?_
          refine aw_seq (aw_region (EF := EF0) hG (by rw [hN]; exact tr33_8) ?_)
          simp only [a33_8, go_sem, simprocAttr, tNo]
          refine aw_cond (b := _) rfl (fun hc8 => ?_) (fun hc8 => ?_)
          · simp only [hcL] at hc8
            refine aw_skip ?_
            try simp only [go_sem, simprocAttr]
            refine aw_block ?_
            have hqq := q_le i1 i2 hn0 w1 s0
            refine aw_region (EF := EF0) hG (by rw [hN]; exact tr33_9) ?_
            simp only [a33_9, go_sem, simprocAttr, inI, tNo]
            (repeat' apply And.intro) <;> (try first | omega | ((fail_if_success refine idW ?_); (fail_if_success refine idS ?_); intros; (repeat' apply And.intro) <;> first | assumption | omega | (simp_all; done)))
            refine hKL2 (q2 + 1, r2 - s) _ ?_ ?_ ?_
            · (try dsimp only); exact ⟨by rw [i1, Int.add_mul, Int.one_mul]; omega, by omega, by omega, by omega⟩
            · (try dsimp only); omega
            · refine Le.mk _ _ ?_ ?_ rfl <;> simp only [go_sem, simprocAttr] <;> (repeat' apply And.intro) <;> (try first | rfl | exact wk_frzb rfl rfl rfl | exact wk_fn rfl | exact .nilo _ _ _ rfl rfl)
          · simp only [hcL] at hc8
            refine aw_exit ?_
            simp only [go_sem, simprocAttr]
            have hbk := bitK_bd (show k ≤ 41 by omega)
            refine aw_region (EF := EF0) hG (by rw [hN]; exact tr33_4) ?_
            simp only [a33_4, go_sem, simprocAttr, bit_half, tNo]
            (repeat' apply And.intro) <;> (try first | omega | ((fail_if_success refine idW ?_); (fail_if_success refine idS ?_); intros; (repeat' apply And.intro) <;> first | assumption | omega | (simp_all; done)))
            refine hKL0 (k, q2, r2) _ ?_ ?_ ?_
            · (try dsimp only); exact ⟨by omega, by rw [hNN]; exact i1, i2, by omega⟩
            · (try dsimp only); omega
            · refine Le.mk _ _ ?_ ?_ rfl <;> simp only [go_sem, simprocAttr, bit_half] <;> (repeat' apply And.intro) <;> (try first | rfl | exact wk_frzb rfl rfl rfl | exact wk_fn rfl | exact .nilo _ _ _ rfl rfl)
    · skip
      obtain rfl : k = 0 := by cases k with | zero => rfl | succ k => (have pb := pow_bd (show k ≤ 40 by omega); have h9 : ¬ ((0 : Int) < 2 ^ k) := of_decide_eq_false hb3; omega)
      rw [Int.pow_zero, Int.ediv_one] at h1
      obtain ⟨e1, e2⟩ := div_un h1 h2 h3
      refine aw_exit ?_
      simp only [go_sem, simprocAttr]
      refine aw_seq (aw_region (EF := EF0) hG (by rw [hN]; exact tr33_10) ?_)
      simp only [a33_10, go_sem, simprocAttr, tNo]
      refine aw_ret ?_
      show Q _ _
      refine hQ _ _ (.inl rfl) ?_ ?_ ?_ <;> simp only [outφ, outV, AR.res, go_sem, simprocAttr, fSh]
      rw [e1, e2]
/-! The greatest. -/
def grGo (l : List Int) : Nat → Nat → Nat → Nat
  | 0, _, at' => at'
  | f + 1, i, at' => grGo l f (i + 1) (if l.getD at' 0 < l.getD i 0 then i else at')
def maxAt (l : List Int) : Nat := grGo l l.length 0 0
def fGr (l : List Int) : Prop × V := (l.length ≤ 140737488355328 ∧ l ≠ [], .int .i64 (maxAt l : Int))
theorem fGr_eq (l : List Int) : gOf aLi fGr [.list (ints l) false] = (l.length ≤ 140737488355328 ∧ l ≠ [], .int .i64 (maxAt l : Int)) := gOf_eq aLi_inj l
theorem getD_i {l : List Int} {i : Nat} (h : i < l.length) : l.getD i 0 = l[i] := by rw [List.getD_eq_getElem?_getD, List.getElem?_eq_getElem h]; rfl
/-- The first of the greatest. -/
def IsMax (l : List Int) (n k : Nat) : Prop := (∀ j, j < n → l.getD j 0 ≤ l.getD k 0) ∧ ∀ j, j < k → l.getD j 0 < l.getD k 0
theorem grGo_spec (l : List Int) : ∀ (f i k : Nat), k < i ∨ i = 0 ∧ k = 0 → IsMax l i k → IsMax l (i + f) (grGo l f i k) ∧ (grGo l f i k < i + f ∨ i + f = 0 ∧ grGo l f i k = 0)
  | 0, i, k, hk, h => ⟨h, hk⟩
  | f + 1, i, k, hk, h => by
    rw [grGo, show i + (f + 1) = i + 1 + f by omega]
    refine grGo_spec l f (i + 1) _ (by split <;> omega) ?_
    split
    · rename_i c
      refine ⟨fun j hj => ?_, fun j hj => ?_⟩
      · rcases Nat.lt_or_ge j i with c2 | c2
        · have := h.1 j c2; omega
        · obtain rfl : j = i := by omega
          exact Int.le_refl _
      · have := h.1 j hj; omega
    · rename_i c
      refine ⟨fun j hj => ?_, h.2⟩
      rcases Nat.lt_or_ge j i with c2 | c2
      · exact h.1 j c2
      · obtain rfl : j = i := by omega
        omega
theorem maxAt_spec (l : List Int) : IsMax l l.length (maxAt l) ∧ (maxAt l < l.length ∨ l.length = 0 ∧ maxAt l = 0) := by
  have := grGo_spec l l.length 0 0 (.inr ⟨rfl, rfl⟩) ⟨fun j hj => by omega, fun j hj => by omega⟩
  rw [Nat.zero_add] at this
  exact this
theorem isMax_un {l : List Int} {n k m : Nat} (hk : k < n) (hm : m < n) (h1 : IsMax l n k) (h2 : IsMax l n m) : k = m := by
  rcases Nat.lt_or_ge k m with c | c
  · have a1 := h2.2 k c
    have a2 := h1.1 m hm
    omega
  · rcases Nat.lt_or_ge m k with c2 | c2
    · have a1 := h1.2 m c2
      have a2 := h2.1 k hk
      omega
    · omega
theorem greatest_p : PureC Tryz.prog UT 34 (gOf aLi fGr) := by
  have hG := tNo_ok
  refine PureC.ofArgs aLi_inj Tryz.func34 body34 nm34 res34 ?_
  rintro l hv
  refine ⟨by rw [nt34]; simp [aLi], fun C hN Q hQ => ?_⟩
  rw [nt34] at hN
  unfold c34
  obtain ⟨hv, hne⟩ : l.length ≤ 140737488355328 ∧ l ≠ [] := hv
  have hpos : 0 < l.length := List.length_pos_iff.2 hne
  refine aw_seq (aw_region (EF := EF0) hG (by rw [hN]; exact tr34_0) ?_)
  simp only [a34_0, go_sem, simprocAttr, aLi, tNo]
  refine aw_seq (aw_region (EF := EF0) hG (by rw [hN]; exact tr34_1) ?_)
  simp only [a34_1, go_sem, simprocAttr, tNo]
  refine aw_seq ?_
  refine aw_seq (aw_region (EF := EF0) hG (by rw [hN]; exact tr34_2) ?_)
  simp only [a34_2, go_sem, simprocAttr, tNo]
  refine aw_block ?_
  refine aw_loop (α := Nat × Nat) (fun γ => (γ.1 ≤ l.length) ∧ (γ.2 < l.length) ∧ (maxAt l = grGo l (l.length - γ.1) γ.1 γ.2)) (fun γ => ⟨mkE [(0, V.list (ints l) false), (3, .int .i64 γ.2), (4, .int .i64 γ.1)], mkH []⟩) (fun γ => l.length - γ.1) (0, 0) ⟨Nat.zero_le _, hpos, rfl⟩ ?_ ?_
  · refine Le.mk _ _ ?_ ?_ rfl <;> simp only [go_sem, simprocAttr] <;> (repeat' apply And.intro) <;> (try first | rfl | exact wk_frzb rfl rfl rfl | exact wk_fn rfl | exact .nilo _ _ _ rfl rfl)
  · rintro ⟨i, k⟩ ⟨hi, hk, hs⟩ KL0 hKL0
    try dsimp only at *
    refine aw_seq ?_
    refine aw_seq (aw_region (EF := EF0) hG (by rw [hN]; exact tr34_3) ?_)
    simp only [a34_3, go_sem, simprocAttr, tNo]
    refine aw_cond (b := _) rfl (fun hc3 => ?_) (fun hc3 => ?_)
    · simp only [hcL] at hc3
      refine aw_skip ?_
      try simp only [go_sem, simprocAttr]
      refine aw_seq ?_
      refine aw_block ?_
      have hst : l.length - i = l.length - (i + 1) + 1 := by omega
      rw [hst, grGo, getD_i hc3, getD_i hk] at hs
      refine aw_seq (aw_regionD (EF := EF0) hG mixed (by rw [hN]; exact tr34_5) ok34_5 ?_)
      simp only [a34_5, d34_5, go_sem, simprocAttr, ints_getD _ _ _ hc3, ints_getD _ _ _ hk, hc3, hk, tNo]
      (repeat' apply And.intro) <;> (try first | omega | ((fail_if_success refine idW ?_); (fail_if_success refine idS ?_); intros; (repeat' apply And.intro) <;> first | assumption | omega | (simp_all; done)))
      refine aw_cond (b := _) rfl (fun hc5 => ?_) (fun hc5 => ?_)
      · simp only [hcL] at hc5
        rw [if_pos hc5] at hs
        refine aw_region (EF := EF0) hG (by rw [hN]; exact tr34_6) ?_
        simp only [a34_6, go_sem, simprocAttr, tNo]
        refine aw_region (EF := EF0) hG (by rw [hN]; exact tr34_4) ?_
        simp only [a34_4, go_sem, simprocAttr, inI, tNo]
        (repeat' apply And.intro) <;> (try first | omega | ((fail_if_success refine idW ?_); (fail_if_success refine idS ?_); intros; (repeat' apply And.intro) <;> first | assumption | omega | (simp_all; done)))
        refine hKL0 (i + 1, i) _ ?_ ?_ ?_
        · (try dsimp only); exact ⟨hc3, hc3, hs⟩
        · (try dsimp only); omega
        · refine Le.mk _ _ ?_ ?_ rfl <;> simp only [go_sem, simprocAttr] <;> (repeat' apply And.intro) <;> (try first | rfl | exact wk_frzb rfl rfl rfl | exact wk_fn rfl | exact .nilo _ _ _ rfl rfl)
      · simp only [hcL] at hc5
        rw [if_neg (by omega)] at hs
        refine aw_skip ?_
        try simp only [go_sem, simprocAttr]
        refine aw_region (EF := EF0) hG (by rw [hN]; exact tr34_4) ?_
        simp only [a34_4, go_sem, simprocAttr, inI, tNo]
        (repeat' apply And.intro) <;> (try first | omega | ((fail_if_success refine idW ?_); (fail_if_success refine idS ?_); intros; (repeat' apply And.intro) <;> first | assumption | omega | (simp_all; done)))
        refine hKL0 (i + 1, k) _ ?_ ?_ ?_
        · (try dsimp only); exact ⟨hc3, hk, hs⟩
        · (try dsimp only); omega
        · refine Le.mk _ _ ?_ ?_ rfl <;> simp only [go_sem, simprocAttr] <;> (repeat' apply And.intro) <;> (try first | rfl | exact wk_frzb rfl rfl rfl | exact wk_fn rfl | exact .nilo _ _ _ rfl rfl)
    · simp only [hcL] at hc3
      obtain rfl : i = l.length := by omega
      rw [Nat.sub_self, grGo] at hs
      refine aw_exit ?_
      simp only [go_sem, simprocAttr]
      refine aw_seq (aw_region (EF := EF0) hG (by rw [hN]; exact tr34_7) ?_)
      simp only [a34_7, go_sem, simprocAttr, tNo]
      refine aw_ret ?_
      show Q _ _
      refine hQ _ _ (.inl rfl) ?_ ?_ ?_ <;> simp only [outφ, outV, AR.res, go_sem, simprocAttr, fGr, hs]
end Go.Proofs.YtfjgnfgadkajnaaGreat
/- Split of the reference: the same shares. -/
namespace Go.Proofs.YtfjgnfgadkajnaaGreat
open Go Go.RowKit
set_option linter.unusedSimpArgs false
set_option linter.unusedVariables false
set_option linter.deprecated false
/-- One more to each of these. -/
def giveS : List Nat → List Int → List Int
  | [], xs => xs
  | i :: os, xs => giveS os (xs.set i (xs.getD i 0 + 1))
theorem giveS_len : ∀ (O : List Nat) (xs : List Int), (giveS O xs).length = xs.length
  | [], _ => rfl
  | i :: O, xs => by rw [giveS, giveS_len O, List.length_set]
theorem giveAll_none (sg : Int) : ∀ (O : List Nat) (left : Int) (xs : List Int), left ≤ 0 → giveAll sg O left xs = xs
  | [], _, _, _ => rfl
  | i :: O, left, xs, h => by rw [giveAll, if_neg (by omega)]; exact giveAll_none sg O left xs h
theorem map_sg_set (sg : Int) (xs : List Int) (i : Nat) (hi : i < xs.length) : (xs.map fun q => sg * q).set i ((xs.map fun q => sg * q).getD i 0 + sg * 1) = (xs.set i (xs.getD i 0 + 1)).map fun q => sg * q := by
  rw [List.map_set]
  congr 1
  rw [getD_i (by rw [List.length_map]; exact hi), List.getElem_map, getD_i hi, Int.mul_add]
theorem giveAll_S (sg : Int) : ∀ (O : List Nat) (k : Nat) (xs : List Int), (∀ i ∈ O, i < xs.length) → k ≤ O.length → giveAll sg O k (xs.map fun q => sg * q) = (giveS (O.take k) xs).map fun q => sg * q
  | O, 0, xs, _, _ => by rw [giveAll_none _ _ _ _ (by omega)]; rfl
  | [], k + 1, xs, _, h => by simp at h
  | i :: O, k + 1, xs, h, hk => by
    rw [giveAll, if_pos (by omega), map_sg_set sg xs i (h i (List.mem_cons_self ..)), List.take_succ_cons, giveS, show ((k + 1 : Nat) : Int) - 1 = k by omega]
    exact giveAll_S sg O k _ (fun j hj => by rw [List.length_set]; exact h j (List.mem_cons_of_mem _ hj)) (by simpa using hk)
/-- What the reference does with what remains. -/
def pickR : Nat → List Int → List Int → List Int
  | 0, _, xs => xs
  | k + 1, rs, xs => pickR k (rs.set (maxAt rs) (-1)) (xs.set (maxAt rs) (xs.getD (maxAt rs) 0 + 1))
/-- The rests when some were taken. -/
def Taken (R rs : List Int) (O : List Nat) : Prop := rs.length = R.length ∧ ∀ j, j < R.length → rs.getD j 0 = if j ∈ O then R.getD j 0 else -1
theorem pickR_S {R : List Int} (hR : ∀ x ∈ R, 0 ≤ x) : ∀ (O : List Nat) (k : Nat) (rs xs : List Int), SortT (fr R) O → (∀ i ∈ O, i < R.length) → Taken R rs O → k ≤ O.length → pickR k rs xs = giveS (O.take k) xs
  | O, 0, rs, xs, _, _, _, _ => rfl
  | [], k + 1, rs, xs, _, _, _, h => by simp at h
  | i :: O, k + 1, rs, xs, hs, hO, hT, hk => by
    obtain ⟨s1, s2⟩ := List.pairwise_cons.1 hs
    have hi := hO i (List.mem_cons_self ..)
    have h0 : 0 ≤ R.getD i 0 := by rw [getD_i hi]; exact hR _ (List.getElem_mem hi)
    have hval : ∀ j, j < R.length → rs.getD j 0 ≤ R.getD i 0 ∧ (j < i → rs.getD j 0 < R.getD i 0) := fun j hj => by
      rw [hT.2 j hj]
      by_cases c : j ∈ i :: O
      · rw [if_pos c]
        rcases List.mem_cons.1 c with rfl | c
        · exact ⟨Int.le_refl _, fun h => by omega⟩
        · have := s1 j c
          unfold Tb fr at this
          exact ⟨by omega, fun h => by omega⟩
      · rw [if_neg c]; exact ⟨by omega, fun _ => by omega⟩
    have hii : rs.getD i 0 = R.getD i 0 := by rw [hT.2 i hi, if_pos (List.mem_cons_self ..)]
    have hmax : IsMax rs rs.length i := ⟨fun j hj => by rw [hii]; exact (hval j (hT.1 ▸ hj)).1, fun j hj => by rw [hii]; exact (hval j (by omega)).2 hj⟩
    obtain ⟨m1, m2⟩ := maxAt_spec rs
    have hm : maxAt rs = i := isMax_un (l := rs) (n := rs.length) (by have := hT.1; omega) (by have := hT.1; omega) m1 hmax
    rw [pickR, hm, List.take_succ_cons, giveS]
    have hni : i ∉ O := fun h => Tb.irr (s1 i h)
    refine pickR_S hR O k _ _ s2 (fun j hj => hO j (List.mem_cons_of_mem _ hj)) ⟨by rw [List.length_set]; exact hT.1, fun j hj => ?_⟩ (by simpa using hk)
    rw [List.getD_eq_getElem?_getD, List.getElem?_set]
    by_cases c : i = j
    · subst c
      rw [if_pos rfl, if_pos (by have := hT.1; omega), if_neg hni]; rfl
    · rw [if_neg c, ← List.getD_eq_getElem?_getD, hT.2 j hj]
      by_cases c2 : j ∈ O
      · rw [if_pos c2, if_pos (List.mem_cons_of_mem _ c2)]
      · rw [if_neg c2, if_neg (fun h => by rcases List.mem_cons.1 h with h | h; exact c h.symm; exact c2 h)]
/-- What remains is less than the number of weights. -/
theorem left_lt {A S : Int} (hS : 0 < S) : ∀ {l : List Int}, A * l.sum = S * (qsP A S l).sum + (rsP A S l).sum ∧ 0 ≤ (rsP A S l).sum ∧ (rsP A S l).sum ≤ (l.length : Int) * (S - 1)
  | [] => by simp [qsP, rsP]
  | w :: l => by
    obtain ⟨h1, h2, h3⟩ := left_lt (A := A) hS (l := l)
    have e1 : (qsP A S (w :: l)).sum = A * w / S + (qsP A S l).sum := by simp [qsP]
    have e2 : (rsP A S (w :: l)).sum = A * w % S + (rsP A S l).sum := by simp [rsP]
    have m1 := Int.emod_nonneg (A * w) (show S ≠ 0 by omega)
    have m2 := Int.emod_lt_of_pos (A * w) hS
    have m3 := Int.mul_ediv_add_emod (A * w) S
    rw [e1, e2, List.sum_cons, Int.mul_add, Int.mul_add, List.length_cons]
    refine ⟨by omega, by omega, ?_⟩
    rw [show ((l.length + 1 : Nat) : Int) * (S - 1) = (l.length : Int) * (S - 1) + (S - 1) by rw [Int.natCast_add, Int.add_mul]; simp]
    omega
theorem left_bd {A S : Int} {l : List Int} (hS : 0 < S) (hsum : l.sum = S) (hl : 0 < l.length) : 0 ≤ A - (qsP A S l).sum ∧ A - (qsP A S l).sum < l.length := by
  obtain ⟨h1, h2, h3⟩ := left_lt (A := A) hS (l := l)
  rw [hsum] at h1
  have e : (A - (qsP A S l).sum) * S = (rsP A S l).sum := by rw [Int.sub_mul, Int.mul_comm (qsP A S l).sum S]; omega
  generalize A - (qsP A S l).sum = D at *
  refine ⟨?_, ?_⟩
  · by_cases c : D < 0
    · have : D * S < 0 := Int.mul_neg_of_neg_of_pos c hS
      omega
    · omega
  · refine Int.lt_of_mul_lt_mul_right (a := S) ?_ (by omega)
    have : (l.length : Int) * (S - 1) = (l.length : Int) * S - l.length := by rw [Int.mul_sub]; simp
    omega
/-- The shares, as the reference makes them. -/
theorem shares_ref {a S : Int} {l : List Int} (hS : 0 < S) (hsum : l.sum = S) (hl : 0 < l.length) :
    sharesM a S l = (pickR ((a.natAbs : Int) - (qsP a.natAbs S l).sum).toNat (rsP a.natAbs S l) (qsP a.natAbs S l)).map fun q => sgn a * q := by
  obtain ⟨b1, b2⟩ := left_bd (A := (a.natAbs : Int)) hS hsum hl
  obtain ⟨k, hk⟩ := Int.eq_ofNat_of_zero_le b1
  have hlR : (rsP a.natAbs S l).length = l.length := List.length_map _
  have hlQ : (qsP a.natAbs S l).length = l.length := List.length_map _
  generalize hO : msT (fr (rsP a.natAbs S l)) (List.range' 0 l.length) = O
  have hOp : O.Perm (List.range' 0 l.length) := hO ▸ msT_perm _
  have hOl : O.length = l.length := by rw [hOp.length_eq, List.length_range']
  have hOs : SortT (fr (rsP a.natAbs S l)) O := hO ▸ msT_sort (rng_nodup _ _)
  have hOm : ∀ i ∈ O, i < l.length := fun i hi => by have := rng_mem (hOp.mem_iff.1 hi); omega
  unfold sharesM
  rw [hO, hk, Int.toNat_natCast, giveAll_S _ O k _ (fun i hi => by rw [hlQ]; exact hOm i hi) (by omega)]
  rw [pickR_S (R := rsP a.natAbs S l) (fun x hx => by obtain ⟨w, _, rfl⟩ := List.mem_map.1 hx; exact Int.emod_nonneg _ (by omega)) O k _ _ hOs (fun i hi => by rw [hlR]; exact hOm i hi) ⟨rfl, fun j hj => by rw [if_pos (hOp.mem_iff.2 (by rw [List.mem_range'_1]; omega))]⟩ (by omega)]
end Go.Proofs.YtfjgnfgadkajnaaGreat
