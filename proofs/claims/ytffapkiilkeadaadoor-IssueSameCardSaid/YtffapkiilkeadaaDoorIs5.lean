/- Record locators of the reference. -/
import Derived.Test.YtffapkiilkeadaaDoorIs4
namespace Go.Proofs.YtffapkiilkeadaaDoor
open Go Go.RowKit
set_option linter.unusedSimpArgs false
set_option linter.unusedVariables false
set_option linter.deprecated false
/-- The last characters, and their part of the sum. -/
def ofK (n : Int) : Nat → List UInt8 × Int
  | 0 => ([], 0)
  | k + 1 => (al (n / 32 ^ k % 32) :: (ofK n k).1, (ofK n k).2 + (2 * (4 - k) + 1) * (n / 32 ^ k % 32))
theorem ofK_end (n : Int) : (ofK n 5).1 ++ [al ((ofK n 5).2 % 32)] = ofM n := by
  simp only [ofK, ofM, List.cons_append, List.nil_append]
  have h1 : n / 32 ^ 4 = n / 1048576 := rfl
  have h2 : n / 32 ^ 3 = n / 32768 := rfl
  have h3 : n / 32 ^ 2 = n / 1024 := rfl
  have h4 : n / 32 ^ 1 = n / 32 := rfl
  have h5 : n / 32 ^ 0 = n := by show n / 1 = n; omega
  rw [h1, h2, h3, h4, h5]
  congr 6
  have : ((0 + (2 * (4 - ((0 : Nat) : Int)) + 1) * (n % 32) + (2 * (4 - ((1 : Nat) : Int)) + 1) * (n / 32 % 32) + (2 * (4 - ((2 : Nat) : Int)) + 1) * (n / 1024 % 32) + (2 * (4 - ((3 : Nat) : Int)) + 1) * (n / 32768 % 32) + (2 * (4 - ((4 : Nat) : Int)) + 1) * (n / 1048576 % 32)) % 32) = ((n / 1048576 % 32 + 3 * (n / 32768 % 32) + 5 * (n / 1024 % 32) + 7 * (n / 32 % 32) + 9 * (n % 32)) % 32) := by congr 1; omega
  rw [← this]
theorem lit_sub {m : Int} (h0 : 0 ≤ m) (h1 : m < 32) : (List.take (m + 1).toNat [50, 51, 52, 53, 54, 55, 56, 57, 65, 66, 67, 68, 69, 70, 71, 72, 74, 75, 76, 77, 78, 80, 81, 82, 83, 84, 85, 86, 87, 88, 89, 90]).drop m.toNat = [al m] := by
  show (alpha.take (m + 1).toNat).drop m.toNat = [al m]
  obtain ⟨k, rfl⟩ := Int.eq_ofNat_of_zero_le h0
  have hk : k < alpha.length := by show k < 32; omega
  rw [show ((k : Int) + 1).toNat = k + 1 by omega, Int.toNat_natCast, take_succ' hk, List.drop_append_of_le_length (by rw [List.length_take]; omega), List.drop_eq_nil_of_le (by rw [List.length_take]; omega)]
  show [alpha[k]] = [alpha.getD (k : Int).toNat 0]
  rw [Int.toNat_natCast, List.getD_eq_getElem?_getD, List.getElem?_eq_getElem hk]; rfl
def fOfN (n : Int) : Prop × V := (0 ≤ n ∧ n ≤ 33554431, .tup [.str (ofM n), .int .i64 0])
theorem fOfN_eq (n : Int) : gOf aInt fOfN [.int .i64 n] = (0 ≤ n ∧ n ≤ 33554431, .tup [.str (ofM n), .int .i64 0]) := gOf_eq aInt_inj n
theorem rof_p : PureC Tryd.prog UT 61 (gOf aInt fOfN) := by
  have hG := tNo_ok
  refine PureC.ofArgs aInt_inj Tryd.func61 body61 nm61 res61 ?_
  rintro n hv
  refine ⟨by rw [nt61]; simp [aInt], fun C hN Q hQ => ?_⟩
  rw [nt61] at hN
  unfold c61
  obtain ⟨h0, h1⟩ : 0 ≤ n ∧ n ≤ 33554431 := hv
  refine aw_seq (aw_region (EF := EF0) hG (by rw [hN]; exact tr61_0) ?_)
  simp only [a61_0, go_sem, ↓reduceIte, Nat.reduceEqDiff, reduceCtorEq, Nat.reduceAdd, Nat.reduceLT, Nat.reduceLeDiff, Nat.reduceBNe, Nat.reduceBEq, Int.reduceToNat, aInt, tNo]
  refine aw_seq ?_
  refine aw_seq (aw_region (EF := EF0) hG (by rw [hN]; exact tr61_1) ?_)
  simp only [a61_1, go_sem, ↓reduceIte, Nat.reduceEqDiff, reduceCtorEq, Nat.reduceAdd, Nat.reduceLT, Nat.reduceLeDiff, Nat.reduceBNe, Nat.reduceBEq, Int.reduceToNat, tNo]
  (repeat' apply And.intro) <;> (try first | omega | ((fail_if_success refine idW ?_); (fail_if_success refine idS ?_); intros; (repeat' apply And.intro) <;> first | assumption | omega | (simp_all; done)))
  refine aw_cond (b := _) rfl (fun hb1 => ?_) (fun hb1 => ?_)
  · exfalso; simp only [Bool.or_eq_true, decide_eq_true_eq] at hb1; omega
  · skip
    refine aw_skip ?_
    try simp only [go_sem, ↓reduceIte, Nat.reduceEqDiff, reduceCtorEq, Nat.reduceAdd, Nat.reduceLT, Nat.reduceLeDiff, Nat.reduceBNe, Nat.reduceBEq, Int.reduceToNat]
    refine aw_seq (aw_region (EF := EF0) hG (by rw [hN]; exact tr61_3) ?_)
    simp only [a61_3, go_sem, ↓reduceIte, Nat.reduceEqDiff, reduceCtorEq, Nat.reduceAdd, Nat.reduceLT, Nat.reduceLeDiff, Nat.reduceBNe, Nat.reduceBEq, Int.reduceToNat, tNo]
    refine aw_seq (aw_region (EF := EF0) hG (by rw [hN]; exact tr61_4) ?_)
    simp only [a61_4, go_sem, ↓reduceIte, Nat.reduceEqDiff, reduceCtorEq, Nat.reduceAdd, Nat.reduceLT, Nat.reduceLeDiff, Nat.reduceBNe, Nat.reduceBEq, Int.reduceToNat, tNo]
    refine aw_seq ?_
    refine aw_seq (aw_region (EF := EF0) hG (by rw [hN]; exact tr61_5) ?_)
    simp only [a61_5, go_sem, ↓reduceIte, Nat.reduceEqDiff, reduceCtorEq, Nat.reduceAdd, Nat.reduceLT, Nat.reduceLeDiff, Nat.reduceBNe, Nat.reduceBEq, Int.reduceToNat, tNo]
    refine aw_block ?_
    refine aw_loop (α := Nat × (List UInt8) × Int × Int) (fun γ => (γ.1 ≤ 5) ∧ ((γ.2.1, γ.2.2.1) = ofK n γ.1) ∧ (γ.2.2.2 = n / 32 ^ γ.1) ∧ (0 ≤ γ.2.2.2 ∧ γ.2.2.2 ≤ 33554431) ∧ (0 ≤ γ.2.2.1 ∧ γ.2.2.1 ≤ 279 * (γ.1 : Int)) ∧ (γ.2.1.length = γ.1)) (fun γ => ⟨mkE [(0, .int .i64 γ.2.2.2), (4, .str γ.2.1), (5, .int .i64 γ.2.2.1), (6, .int .i64 (4 - γ.1))], mkH []⟩) (fun γ => 5 - γ.1) (0, [], 0, n) ⟨by omega, rfl, (by show n = n / 1; omega), ⟨h0, h1⟩, ⟨Int.le_refl 0, Int.le_refl 0⟩, rfl⟩ ?_ ?_
    · refine Le.mk _ _ ?_ ?_ rfl <;> simp only [go_sem, ↓reduceIte, Nat.reduceEqDiff, reduceCtorEq, Nat.reduceAdd, Nat.reduceLT, Nat.reduceLeDiff, Nat.reduceBNe, Nat.reduceBEq, Int.reduceToNat] <;> (repeat' apply And.intro) <;> (try first | rfl | exact wk_frzb rfl rfl rfl | exact wk_fn rfl | exact .nilo _ _ _ rfl rfl | exact wk_frzm rfl rfl (fun kv hk => by obtain ⟨_, _, rfl⟩ := List.mem_map.1 hk; rfl))
    · rintro ⟨k, w, c, q⟩ ⟨hk, hw, hq, hqb, hcb, hwl⟩ KL0 hKL0
      try dsimp only at *
      refine aw_seq ?_
      refine aw_seq (aw_region (EF := EF0) hG (by rw [hN]; exact tr61_6) ?_)
      simp only [a61_6, go_sem, ↓reduceIte, Nat.reduceEqDiff, reduceCtorEq, Nat.reduceAdd, Nat.reduceLT, Nat.reduceLeDiff, Nat.reduceBNe, Nat.reduceBEq, Int.reduceToNat, tNo]
      refine aw_cond (b := _) rfl (fun hc6 => ?_) (fun hc6 => ?_)
      · simp only [decide_eq_true_eq, decide_eq_false_iff_not, Bool.and_eq_true, Bool.or_eq_true, Bool.not_eq_true', Bool.not_eq_false', Bool.and_eq_false_iff, Bool.or_eq_false_iff, Int.ofNat_lt, Int.ofNat_le, Nat.not_lt, Nat.not_le, Int.not_lt, Int.not_le] at hc6
        have hk5 : k < 5 := by omega
        have hk6 : 4 - (k : Int) - 1 = 4 - ((k + 1 : Nat) : Int) := by omega
        have htm : q.tmod 32 = q % 32 := Int.tmod_eq_emod_of_nonneg hqb.1
        have htd : q.tdiv 32 = q / 32 := Int.tdiv_eq_ediv_of_nonneg hqb.1
        obtain ⟨m, hm⟩ : ∃ m, m = q % 32 := ⟨_, rfl⟩
        have hmb : 0 ≤ m ∧ m < 32 := by omega
        have hsb := lit_sub hmb.1 hmb.2
        have hmul : 0 ≤ (2 * (4 - (k : Int)) + 1) * m ∧ (2 * (4 - (k : Int)) + 1) * m ≤ 279 := ⟨Int.mul_nonneg (by omega) hmb.1, by have h1 : (2 * (4 - (k : Int)) + 1) * m ≤ 9 * m := Int.mul_le_mul_of_nonneg_right (by omega) hmb.1; omega⟩
        refine aw_skip ?_
        try simp only [go_sem, ↓reduceIte, Nat.reduceEqDiff, reduceCtorEq, Nat.reduceAdd, Nat.reduceLT, Nat.reduceLeDiff, Nat.reduceBNe, Nat.reduceBEq, Int.reduceToNat]
        refine aw_seq ?_
        refine aw_block ?_
        refine aw_seq (aw_region (EF := EF0) hG (by rw [hN]; exact tr61_8) ?_)
        simp only [a61_8, go_sem, ↓reduceIte, Nat.reduceEqDiff, reduceCtorEq, Nat.reduceAdd, Nat.reduceLT, Nat.reduceLeDiff, Nat.reduceBNe, Nat.reduceBEq, Int.reduceToNat, inI, htm, ← hm, hsb, hwl, List.length_append, List.length_cons, List.length_nil, List.cons_append, List.nil_append, tNo]
        (repeat' apply And.intro) <;> (try first | omega | ((fail_if_success refine idW ?_); (fail_if_success refine idS ?_); intros; (repeat' apply And.intro) <;> first | assumption | omega | (simp_all; done)))
        refine aw_seq (aw_region (EF := EF0) hG (by rw [hN]; exact tr61_9) ?_)
        simp only [a61_9, go_sem, ↓reduceIte, Nat.reduceEqDiff, reduceCtorEq, Nat.reduceAdd, Nat.reduceLT, Nat.reduceLeDiff, Nat.reduceBNe, Nat.reduceBEq, Int.reduceToNat, inI, htm, ← hm, tNo]
        (repeat' apply And.intro) <;> (try first | omega | ((fail_if_success refine idW ?_); (fail_if_success refine idS ?_); intros; (repeat' apply And.intro) <;> first | assumption | omega | (simp_all; done)))
        refine aw_region (EF := EF0) hG (by rw [hN]; exact tr61_10) ?_
        simp only [a61_10, go_sem, ↓reduceIte, Nat.reduceEqDiff, reduceCtorEq, Nat.reduceAdd, Nat.reduceLT, Nat.reduceLeDiff, Nat.reduceBNe, Nat.reduceBEq, Int.reduceToNat, htd, tNo]
        (repeat' apply And.intro) <;> (try first | omega | ((fail_if_success refine idW ?_); (fail_if_success refine idS ?_); intros; (repeat' apply And.intro) <;> first | assumption | omega | (simp_all; done)))
        refine aw_region (EF := EF0) hG (by rw [hN]; exact tr61_7) ?_
        simp only [a61_7, go_sem, ↓reduceIte, Nat.reduceEqDiff, reduceCtorEq, Nat.reduceAdd, Nat.reduceLT, Nat.reduceLeDiff, Nat.reduceBNe, Nat.reduceBEq, Int.reduceToNat, inI, tNo]
        (repeat' apply And.intro) <;> (try first | omega | ((fail_if_success refine idW ?_); (fail_if_success refine idS ?_); intros; (repeat' apply And.intro) <;> first | assumption | omega | (simp_all; done)))
        refine hKL0 (k + 1, al m :: w, c + (2 * (4 - (k : Int)) + 1) * m, q / 32) _ ?_ ?_ ?_
        · (try dsimp only); exact ⟨by omega, by rw [ofK, ← hq, ← hm, ← hw], by rw [hq, Int.pow_succ, Int.ediv_ediv_of_nonneg (Int.le_of_lt (pow5 hk5).1)], by omega, by omega, by rw [List.length_cons, hwl]⟩
        · (try dsimp only); omega
        · refine Le.mk _ _ ?_ ?_ rfl <;> simp only [go_sem, ↓reduceIte, Nat.reduceEqDiff, reduceCtorEq, Nat.reduceAdd, Nat.reduceLT, Nat.reduceLeDiff, Nat.reduceBNe, Nat.reduceBEq, Int.reduceToNat, hk6] <;> (repeat' apply And.intro) <;> (try first | rfl | exact wk_frzb rfl rfl rfl | exact wk_fn rfl | exact .nilo _ _ _ rfl rfl | exact wk_frzm rfl rfl (fun kv hk => by obtain ⟨_, _, rfl⟩ := List.mem_map.1 hk; rfl))
      · simp only [decide_eq_true_eq, decide_eq_false_iff_not, Bool.and_eq_true, Bool.or_eq_true, Bool.not_eq_true', Bool.not_eq_false', Bool.and_eq_false_iff, Bool.or_eq_false_iff, Int.ofNat_lt, Int.ofNat_le, Nat.not_lt, Nat.not_le, Int.not_lt, Int.not_le] at hc6
        obtain rfl : k = 5 := by omega
        have hct : c.tmod 32 = c % 32 := Int.tmod_eq_emod_of_nonneg hcb.1
        obtain ⟨m, hm⟩ : ∃ m, m = c % 32 := ⟨_, rfl⟩
        have hmb : 0 ≤ m ∧ m < 32 := by omega
        have hsb := lit_sub hmb.1 hmb.2
        have hend := ofK_end n
        rw [← hw] at hend
        dsimp only at hend
        rw [← hm] at hend
        refine aw_exit ?_
        simp only [go_sem, ↓reduceIte, Nat.reduceEqDiff, reduceCtorEq, Nat.reduceAdd, Nat.reduceLT, Nat.reduceLeDiff, Nat.reduceBNe, Nat.reduceBEq, Int.reduceToNat]
        refine aw_seq (aw_region (EF := EF0) hG (by rw [hN]; exact tr61_11) ?_)
        simp only [a61_11, go_sem, ↓reduceIte, Nat.reduceEqDiff, reduceCtorEq, Nat.reduceAdd, Nat.reduceLT, Nat.reduceLeDiff, Nat.reduceBNe, Nat.reduceBEq, Int.reduceToNat, inI, hct, ← hm, hsb, List.length_append, List.length_cons, List.length_nil, hwl, tNo]
        (repeat' apply And.intro) <;> (try first | omega | ((fail_if_success refine idW ?_); (fail_if_success refine idS ?_); intros; (repeat' apply And.intro) <;> first | assumption | omega | (simp_all; done)))
        refine aw_ret ?_
        show Q _ _
        refine hQ _ _ (.inl rfl) ?_ ?_ ?_ <;> simp only [outφ, outV, AR.res, go_sem, ↓reduceIte, Nat.reduceEqDiff, reduceCtorEq, Nat.reduceAdd, Nat.reduceLT, Nat.reduceLeDiff, Nat.reduceBNe, Nat.reduceBEq, Int.reduceToNat, fOfN, hend]
noncomputable def trNp : Tab
  | 60 => (gOf aU8 fVl)
  | 61 => (gOf aInt fOfN)
  | _ => gNo
theorem trNp_ok : ∀ f, PureC Tryd.prog UT f (trNp f) := fun f => by
  unfold trNp
  split
  · exact rvalue_p
  · exact rof_p
  · exact PureC.no
theorem rnumber_p : PureC Tryd.prog UT 46 (gOf aStr fNp) := by
  have hG := trNp_ok
  refine PureC.ofArgs aStr_inj Tryd.func46 body46 nm46 res46 ?_
  rintro s hv
  refine ⟨by rw [nt46]; simp [aStr], fun C hN Q hQ => ?_⟩
  rw [nt46] at hN
  unfold c46
  replace hv : s.length ≤ 140737488355328 := hv
  refine aw_seq (aw_region (EF := EF0) hG (by rw [hN]; exact tr46_0) ?_)
  simp only [a46_0, go_sem, ↓reduceIte, Nat.reduceEqDiff, reduceCtorEq, Nat.reduceAdd, Nat.reduceLT, Nat.reduceLeDiff, Nat.reduceBNe, Nat.reduceBEq, Int.reduceToNat, aStr, trNp, fOfN_eq]
  refine aw_seq (aw_region (EF := EF0) hG (by rw [hN]; exact tr46_1) ?_)
  simp only [a46_1, go_sem, ↓reduceIte, Nat.reduceEqDiff, reduceCtorEq, Nat.reduceAdd, Nat.reduceLT, Nat.reduceLeDiff, Nat.reduceBNe, Nat.reduceBEq, Int.reduceToNat, trNp, fOfN_eq]
  refine aw_seq ?_
  refine aw_seq (aw_region (EF := EF0) hG (by rw [hN]; exact tr46_2) ?_)
  simp only [a46_2, go_sem, ↓reduceIte, Nat.reduceEqDiff, reduceCtorEq, Nat.reduceAdd, Nat.reduceLT, Nat.reduceLeDiff, Nat.reduceBNe, Nat.reduceBEq, Int.reduceToNat, trNp, fOfN_eq]
  refine aw_block ?_
  refine aw_loop (α := Nat × Int) (fun γ => (γ.1 ≤ s.length) ∧ (γ.1 ≤ 5) ∧ (γ.2 = num5 ((s.take γ.1).map ixA)) ∧ ((∀ c ∈ s.take γ.1, 0 ≤ ixA c)) ∧ (0 ≤ γ.2 ∧ γ.2 < 32 ^ γ.1)) (fun γ => ⟨mkE [(0, V.str s), (4, .int .i64 γ.2), (5, .int .i64 γ.1)], mkH []⟩) (fun γ => 5 - γ.1) (0, 0) ⟨by omega, by omega, rfl, (fun c hc => by simp at hc), ⟨by omega, by decide⟩⟩ ?_ ?_
  · refine Le.mk _ _ ?_ ?_ rfl <;> simp only [go_sem, ↓reduceIte, Nat.reduceEqDiff, reduceCtorEq, Nat.reduceAdd, Nat.reduceLT, Nat.reduceLeDiff, Nat.reduceBNe, Nat.reduceBEq, Int.reduceToNat] <;> (repeat' apply And.intro) <;> (try first | rfl | exact wk_frzb rfl rfl rfl | exact wk_fn rfl | exact .nilo _ _ _ rfl rfl | exact wk_frzm rfl rfl (fun kv hk => by obtain ⟨_, _, rfl⟩ := List.mem_map.1 hk; rfl))
  · rintro ⟨i, n⟩ ⟨hi, hi5, hn, hall, hnb⟩ KL0 hKL0
    try dsimp only at *
    refine aw_seq ?_
    refine aw_seq (aw_region (EF := EF0) hG (by rw [hN]; exact tr46_3) ?_)
    simp only [a46_3, go_sem, ↓reduceIte, Nat.reduceEqDiff, reduceCtorEq, Nat.reduceAdd, Nat.reduceLT, Nat.reduceLeDiff, Nat.reduceBNe, Nat.reduceBEq, Int.reduceToNat, trNp, fOfN_eq]
    (repeat' apply And.intro) <;> (try first | omega | ((fail_if_success refine idW ?_); (fail_if_success refine idS ?_); intros; (repeat' apply And.intro) <;> first | assumption | omega | (simp_all; done)))
    refine aw_cond (b := _) rfl (fun hb3 => ?_) (fun hb3 => ?_)
    · skip
      have hb : i < s.length ∧ i < 5 := by simp at hb3; omega
      obtain ⟨hp0, hp1⟩ := pow5 hb.2
      have hib := ixA_bd s[i]
      have hst := num5_snoc hb.1
      refine aw_skip ?_
      try simp only [go_sem, ↓reduceIte, Nat.reduceEqDiff, reduceCtorEq, Nat.reduceAdd, Nat.reduceLT, Nat.reduceLeDiff, Nat.reduceBNe, Nat.reduceBEq, Int.reduceToNat]
      refine aw_seq ?_
      refine aw_block ?_
      refine aw_seq ?_
      refine aw_seq (aw_region (EF := EF0) hG (by rw [hN]; exact tr46_5) ?_)
      simp only [a46_5, go_sem, ↓reduceIte, Nat.reduceEqDiff, reduceCtorEq, Nat.reduceAdd, Nat.reduceLT, Nat.reduceLeDiff, Nat.reduceBNe, Nat.reduceBEq, Int.reduceToNat, hb.1, fVl_at hb.1, trNp, fOfN_eq]
      (repeat' apply And.intro) <;> (try first | omega | ((fail_if_success refine idW ?_); (fail_if_success refine idS ?_); intros; (repeat' apply And.intro) <;> first | assumption | omega | (simp_all; done)))
      refine aw_cond (b := _) rfl (fun hb5 => ?_) (fun hb5 => ?_)
      · skip
        have hl := locB_neg hb.2 hb.1 (by simpa using hb5)
        refine aw_seq (aw_region (EF := EF0) hG (by rw [hN]; exact tr46_6) ?_)
        simp only [a46_6, go_sem, ↓reduceIte, Nat.reduceEqDiff, reduceCtorEq, Nat.reduceAdd, Nat.reduceLT, Nat.reduceLeDiff, Nat.reduceBNe, Nat.reduceBEq, Int.reduceToNat, trNp, fOfN_eq]
        refine aw_ret ?_
        show Q _ _
        refine hQ _ _ (.inl rfl) ?_ ?_ ?_ <;> simp only [outφ, outV, AR.res, go_sem, ↓reduceIte, Nat.reduceEqDiff, reduceCtorEq, Nat.reduceAdd, Nat.reduceLT, Nat.reduceLeDiff, Nat.reduceBNe, Nat.reduceBEq, Int.reduceToNat, fNp, tupI, numP, hl, Bool.false_eq_true]
      · skip
        have hv0 : 0 ≤ ixA s[i] := by simpa using hb5
        refine aw_skip ?_
        try simp only [go_sem, ↓reduceIte, Nat.reduceEqDiff, reduceCtorEq, Nat.reduceAdd, Nat.reduceLT, Nat.reduceLeDiff, Nat.reduceBNe, Nat.reduceBEq, Int.reduceToNat]
        refine aw_region (EF := EF0) hG (by rw [hN]; exact tr46_7) ?_
        simp only [a46_7, go_sem, ↓reduceIte, Nat.reduceEqDiff, reduceCtorEq, Nat.reduceAdd, Nat.reduceLT, Nat.reduceLeDiff, Nat.reduceBNe, Nat.reduceBEq, Int.reduceToNat, inI, hb.1, fVl_at hb.1, trNp, fOfN_eq]
        (repeat' apply And.intro) <;> (try first | omega | ((fail_if_success refine idW ?_); (fail_if_success refine idS ?_); intros; (repeat' apply And.intro) <;> first | assumption | omega | (simp_all; done)))
        refine aw_region (EF := EF0) hG (by rw [hN]; exact tr46_4) ?_
        simp only [a46_4, go_sem, ↓reduceIte, Nat.reduceEqDiff, reduceCtorEq, Nat.reduceAdd, Nat.reduceLT, Nat.reduceLeDiff, Nat.reduceBNe, Nat.reduceBEq, Int.reduceToNat, inI, trNp, fOfN_eq]
        (repeat' apply And.intro) <;> (try first | omega | ((fail_if_success refine idW ?_); (fail_if_success refine idS ?_); intros; (repeat' apply And.intro) <;> first | assumption | omega | (simp_all; done)))
        refine hKL0 (i + 1, 32 * n + ixA s[i]) _ ?_ ?_ ?_
        · (try dsimp only); exact ⟨hb.1, hb.2, by rw [hst, ← hn], take_all (p := fun c => 0 ≤ ixA c) hb.1 hall hv0, ⟨by omega, by rw [Int.pow_succ]; omega⟩⟩
        · (try dsimp only); omega
        · refine Le.mk _ _ ?_ ?_ rfl <;> simp only [go_sem, ↓reduceIte, Nat.reduceEqDiff, reduceCtorEq, Nat.reduceAdd, Nat.reduceLT, Nat.reduceLeDiff, Nat.reduceBNe, Nat.reduceBEq, Int.reduceToNat] <;> (repeat' apply And.intro) <;> (try first | rfl | exact wk_frzb rfl rfl rfl | exact wk_fn rfl | exact .nilo _ _ _ rfl rfl | exact wk_frzm rfl rfl (fun kv hk => by obtain ⟨_, _, rfl⟩ := List.mem_map.1 hk; rfl))
    · skip
      have hi6 : s.take i = s.take 5 := (by simp only [Bool.and_eq_false_iff, decide_eq_false_iff_not] at hb3; by_cases h : i = 5; (rw [h]); (rw [List.take_of_length_le (by omega), List.take_of_length_le (by omega)]))
      rw [hi6] at hn hall
      have hlr := loc_ref s
      rw [← hn, List.all_eq_true.2 (fun c hc => decide_eq_true (hall c hc)), Bool.true_and] at hlr
      have hp5 : (32 : Int) ^ i ≤ 33554432 := (by rcases (by omega : i = 0 ∨ i = 1 ∨ i = 2 ∨ i = 3 ∨ i = 4 ∨ i = 5) with h | h | h | h | h | h <;> rw [h] <;> decide)
      refine aw_exit ?_
      simp only [go_sem, ↓reduceIte, Nat.reduceEqDiff, reduceCtorEq, Nat.reduceAdd, Nat.reduceLT, Nat.reduceLeDiff, Nat.reduceBNe, Nat.reduceBEq, Int.reduceToNat]
      refine aw_seq (aw_region (EF := EF0) hG (by rw [hN]; exact tr46_8) ?_)
      simp only [a46_8, go_sem, ↓reduceIte, Nat.reduceEqDiff, reduceCtorEq, Nat.reduceAdd, Nat.reduceLT, Nat.reduceLeDiff, Nat.reduceBNe, Nat.reduceBEq, Int.reduceToNat, trNp, fOfN_eq]
      (repeat' apply And.intro) <;> (try first | omega | ((fail_if_success refine idW ?_); (fail_if_success refine idS ?_); intros; (repeat' apply And.intro) <;> first | assumption | omega | (simp_all; done)))
      refine aw_seq ?_
      refine aw_seq (aw_region (EF := EF0) hG (by rw [hN]; exact tr46_9) ?_)
      simp only [a46_9, go_sem, ↓reduceIte, Nat.reduceEqDiff, reduceCtorEq, Nat.reduceAdd, Nat.reduceLT, Nat.reduceLeDiff, Nat.reduceBNe, Nat.reduceBEq, Int.reduceToNat, trNp, fOfN_eq]
      refine aw_cond (b := _) rfl (fun hb9 => ?_) (fun hb9 => ?_)
      · skip
        have hl : locB s = false := by rw [← hlr]; simpa using hb9
        refine aw_seq (aw_region (EF := EF0) hG (by rw [hN]; exact tr46_10) ?_)
        simp only [a46_10, go_sem, ↓reduceIte, Nat.reduceEqDiff, reduceCtorEq, Nat.reduceAdd, Nat.reduceLT, Nat.reduceLeDiff, Nat.reduceBNe, Nat.reduceBEq, Int.reduceToNat, trNp, fOfN_eq]
        refine aw_ret ?_
        show Q _ _
        refine hQ _ _ (.inl rfl) ?_ ?_ ?_ <;> simp only [outφ, outV, AR.res, go_sem, ↓reduceIte, Nat.reduceEqDiff, reduceCtorEq, Nat.reduceAdd, Nat.reduceLT, Nat.reduceLeDiff, Nat.reduceBNe, Nat.reduceBEq, Int.reduceToNat, fNp, tupI, numP, hl, Bool.false_eq_true]
      · skip
        have hl : locB s = true := by rw [← hlr]; simpa using hb9
        refine aw_skip ?_
        try simp only [go_sem, ↓reduceIte, Nat.reduceEqDiff, reduceCtorEq, Nat.reduceAdd, Nat.reduceLT, Nat.reduceLeDiff, Nat.reduceBNe, Nat.reduceBEq, Int.reduceToNat]
        refine aw_seq (aw_region (EF := EF0) hG (by rw [hN]; exact tr46_11) ?_)
        simp only [a46_11, go_sem, ↓reduceIte, Nat.reduceEqDiff, reduceCtorEq, Nat.reduceAdd, Nat.reduceLT, Nat.reduceLeDiff, Nat.reduceBNe, Nat.reduceBEq, Int.reduceToNat, trNp, fOfN_eq]
        refine aw_ret ?_
        show Q _ _
        refine hQ _ _ (.inl rfl) ?_ ?_ ?_ <;> simp only [outφ, outV, AR.res, go_sem, ↓reduceIte, Nat.reduceEqDiff, reduceCtorEq, Nat.reduceAdd, Nat.reduceLT, Nat.reduceLeDiff, Nat.reduceBNe, Nat.reduceBEq, Int.reduceToNat, fNp, tupI, numP, hl, ← hn]
noncomputable def trLr : Tab
  | 46 => (gOf aStr fNp)
  | _ => gNo
theorem trLr_ok : ∀ f, PureC Tryd.prog UT f (trLr f) := fun f => by
  unfold trLr
  split
  · exact rnumber_p
  · exact PureC.no
theorem rlright_p : PureC Tryd.prog UT 25 (gOf aStr fLc) := by
  have hG := trLr_ok
  refine PureC.ofArgs aStr_inj Tryd.func25 body25 nm25 res25 ?_
  rintro s hv
  refine ⟨by rw [nt25]; simp [aStr], fun C hN Q hQ => ?_⟩
  rw [nt25] at hN
  unfold c25
  replace hv : s.length ≤ 140737488355328 := hv
  refine aw_seq (aw_region (EF := EF0) hG (by rw [hN]; exact tr25_0) ?_)
  simp only [a25_0, go_sem, ↓reduceIte, Nat.reduceEqDiff, reduceCtorEq, Nat.reduceAdd, Nat.reduceLT, Nat.reduceLeDiff, Nat.reduceBNe, Nat.reduceBEq, Int.reduceToNat, aStr, trLr, fNp_eq, tupI]
  refine aw_seq (aw_region (EF := EF0) hG (by rw [hN]; exact tr25_1) ?_)
  simp only [a25_1, go_sem, ↓reduceIte, Nat.reduceEqDiff, reduceCtorEq, Nat.reduceAdd, Nat.reduceLT, Nat.reduceLeDiff, Nat.reduceBNe, Nat.reduceBEq, Int.reduceToNat, hv, trLr, fNp_eq, tupI]
  (repeat' apply And.intro) <;> (try first | omega | ((fail_if_success refine idW ?_); (fail_if_success refine idS ?_); intros; (repeat' apply And.intro) <;> first | assumption | omega | (simp_all; done)))
  refine aw_seq (aw_region (EF := EF0) hG (by rw [hN]; exact tr25_2) ?_)
  simp only [a25_2, go_sem, ↓reduceIte, Nat.reduceEqDiff, reduceCtorEq, Nat.reduceAdd, Nat.reduceLT, Nat.reduceLeDiff, Nat.reduceBNe, Nat.reduceBEq, Int.reduceToNat, trLr, fNp_eq, tupI]
  refine aw_ret ?_
  show Q _ _
  refine hQ _ _ (.inl rfl) ?_ ?_ ?_ <;> simp only [outφ, outV, AR.res, go_sem, ↓reduceIte, Nat.reduceEqDiff, reduceCtorEq, Nat.reduceAdd, Nat.reduceLT, Nat.reduceLeDiff, Nat.reduceBNe, Nat.reduceBEq, Int.reduceToNat, fLc]
  unfold numP; split <;> simp_all
end Go.Proofs.YtffapkiilkeadaaDoor
