/- Functions on texts, of the program and of the reference: what each computes. -/
import Derived.Test.YtfjgnfgadkajnaaCo
import Derived.Test.YtfjgnfgadkajnaaAv22
import Derived.Lib.ItoaNum
import Derived.Lib.ItoaLen
namespace Go.Proofs.Ytfjgnfgadkajnaa
open Go Go.RowKit
set_option linter.unusedSimpArgs false
set_option linter.unusedVariables false
set_option linter.deprecated false
def UT : Tbl := ⟨fun _ => True, fun _ => False, fun _ _ _ h => h⟩
/-! What they compute. -/
def capB (c : Int) : Bool := decide (65 ≤ c) && decide (c ≤ 90)
/-- All bytes have a property. -/
def allB (p : Int → Bool) (l : List UInt8) : Bool := l.all fun c => p (c.toNat : Int)
/-- A number in decimal digits. -/
def dec (n : Int) : List UInt8 := Lib.itoa n
theorem allB_step {p : Int → Bool} {s : List UInt8} {i : Nat} (h : i < s.length) (ht : allB p (s.take i) = true) (hp : p ((s.getD i 0).toNat : Int) = true) : allB p (s.take (i + 1)) = true := by
  rw [List.take_succ_eq_append_getElem h]
  rw [List.getD_eq_getElem?_getD, List.getElem?_eq_getElem h] at hp
  simp only [allB, List.all_append, List.all_cons, List.all_nil, Bool.and_true, Bool.and_eq_true] at ht ⊢
  exact ⟨ht, hp⟩
theorem allB_no {p : Int → Bool} {s : List UInt8} {i : Nat} (h : i < s.length) (hp : p ((s.getD i 0).toNat : Int) = false) : allB p s = false := by
  rw [List.getD_eq_getElem?_getD, List.getElem?_eq_getElem h] at hp
  unfold allB
  rw [List.all_eq_false]
  exact ⟨s[i], List.getElem_mem h, by simpa using hp⟩
theorem allB_end {p : Int → Bool} {s : List UInt8} {i : Nat} (h : ¬ i < s.length) (ht : allB p (s.take i) = true) : allB p s = true := by
  rwa [List.take_of_length_le (by omega)] at ht
def dch (d : Nat) : UInt8 := UInt8.ofNat (48 + d)
def tens : List UInt8 := [48, 49, 50, 51, 52, 53, 54, 55, 56, 57]
theorem digit_cut {d : Int} (h0 : 0 ≤ d) (h : d < 10) : (tens.take (d + 1).toNat).drop d.toNat = [dch d.toNat] := by
  have : d = 0 ∨ d = 1 ∨ d = 2 ∨ d = 3 ∨ d = 4 ∨ d = 5 ∨ d = 6 ∨ d = 7 ∨ d = 8 ∨ d = 9 := by omega
  rcases this with rfl | rfl | rfl | rfl | rfl | rfl | rfl | rfl | rfl | rfl <;> rfl
theorem dd_small {n : Int} (h : n < 10) : Lib.decDigits n.toNat = [dch n.toNat] := by rw [Lib.decDigits, dif_pos (by omega)]; rfl
theorem dd_big {n : Int} (h : 10 ≤ n) : Lib.decDigits n.toNat = Lib.decDigits (n / 10).toNat ++ [dch (n % 10).toNat] := by
  rw [Lib.decDigits, dif_neg (by omega), show n.toNat / 10 = (n / 10).toNat by omega, show n.toNat % 10 = (n % 10).toNat by omega]; rfl
theorem dd_len {n : Int} (h : n ≤ 18446744073709551615) : (Lib.decDigits n.toNat).length ≤ 20 := by
  rw [Lib.decDigits_length]; exact Lib.nDigits_le20 _ (by omega)
theorem dec_len {n : Int} (h : inI n) : (dec n).length ≤ 21 := Lib.itoa_length_le n h.1 h.2
/-! The functions. -/
def gByte (p : Int → Bool) : List V → Prop × V
  | [.int .u8 n] => (True, .bool (p n))
  | _ => (False, .any)
noncomputable def tNo : Tab
  | _ => gNo
theorem tNo_ok : ∀ f, PureC Try.prog UT f (tNo f) := fun f => by
  unfold tNo
  split
  · exact PureC.no
set_option maxHeartbeats 1000000 in
theorem rupper_p : PureC Try.prog UT 75 (gByte capB) := by
  have hG := tNo_ok
  refine PureC.of_awQ Try.func75 body75 nm75 res75 fun vs hv => ?_
  match vs, hv with
  | [.int .u8 n], _ =>
  refine ⟨by rw [nt75]; simp, fun C hN Q hQ => ?_⟩
  rw [nt75] at hN
  unfold c75
  refine aw_seq (aw_region (EF := EF0) hG (by rw [hN]; exact tr75_0) ?_)
  simp only [a75_0, go_sem, ↓reduceIte, Nat.reduceEqDiff, reduceCtorEq, Nat.reduceAdd, Nat.reduceLT, Nat.reduceLeDiff, Nat.reduceBNe, Nat.reduceBEq, Int.reduceToNat]
  refine aw_seq (aw_region (EF := EF0) hG (by rw [hN]; exact tr75_1) ?_)
  simp only [a75_1, go_sem, ↓reduceIte, Nat.reduceEqDiff, reduceCtorEq, Nat.reduceAdd, Nat.reduceLT, Nat.reduceLeDiff, Nat.reduceBNe, Nat.reduceBEq, Int.reduceToNat]
  refine aw_ret ?_
  show Q _ _
  refine hQ _ _ (.inl rfl) ?_ ?_ ?_ <;> simp only [outφ, outV, AR.res, go_sem, ↓reduceIte, Nat.reduceEqDiff, reduceCtorEq, Nat.reduceAdd, Nat.reduceLT, Nat.reduceLeDiff, Nat.reduceBNe, Nat.reduceBEq, Int.reduceToNat, gByte, capB]

/-- Capital letters, so many. -/
def gLetters : List V → Prop × V
  | [.str s, .int .i64 n] => (s.length ≤ 140737488355328, .bool (allB capB s && decide ((s.length : Int) = n)))
  | _ => (False, .any)
noncomputable def tLetters : Tab
  | 75 => (gByte capB)
  | _ => gNo
theorem tLetters_ok : ∀ f, PureC Try.prog UT f (tLetters f) := fun f => by
  unfold tLetters
  split
  · exact rupper_p
  · exact PureC.no
set_option maxHeartbeats 1000000 in
theorem rletters_p : PureC Try.prog UT 56 gLetters := by
  have hG := tLetters_ok
  refine PureC.of_awQ Try.func56 body56 nm56 res56 fun vs hv => ?_
  match vs, hv with
  | [.str s, .int .i64 n], hv =>
  replace hv : s.length ≤ 140737488355328 := hv
  refine ⟨by rw [nt56]; simp, fun C hN Q hQ => ?_⟩
  rw [nt56] at hN
  unfold c56
  refine aw_seq (aw_region (EF := EF0) hG (by rw [hN]; exact tr56_0) ?_)
  simp only [a56_0, go_sem, ↓reduceIte, Nat.reduceEqDiff, reduceCtorEq, Nat.reduceAdd, Nat.reduceLT, Nat.reduceLeDiff, Nat.reduceBNe, Nat.reduceBEq, Int.reduceToNat]
  refine aw_seq ?_
  refine aw_seq (aw_region (EF := EF0) hG (by rw [hN]; exact tr56_1) ?_)
  simp only [a56_1, go_sem, ↓reduceIte, Nat.reduceEqDiff, reduceCtorEq, Nat.reduceAdd, Nat.reduceLT, Nat.reduceLeDiff, Nat.reduceBNe, Nat.reduceBEq, Int.reduceToNat]
  refine aw_block ?_
  refine aw_loop (α := Nat) (fun i => i ≤ s.length ∧ allB capB (s.take i) = true) (fun i => ⟨mkE [(0, .str s), (1, .int .i64 n), (5, .int .i64 i)], mkH []⟩) (fun i => s.length - i) 0 ⟨Nat.zero_le _, rfl⟩ ?_ ?_
  · refine Le.mk _ _ ?_ ?_ rfl <;> simp only [go_sem, ↓reduceIte, Nat.reduceEqDiff, reduceCtorEq, Nat.reduceAdd, Nat.reduceLT, Nat.reduceLeDiff, Nat.reduceBNe, Nat.reduceBEq, Int.reduceToNat] <;> (repeat' apply And.intro) <;> (try first | rfl | exact wk_frzb rfl rfl rfl | exact wk_fn rfl | exact .nilo _ _ _ rfl rfl | exact wk_frzm rfl rfl (fun kv hk => by obtain ⟨_, _, rfl⟩ := List.mem_map.1 hk; rfl))
  · rintro i ⟨hi, hp⟩ K hK
    refine aw_seq ?_
    refine aw_seq ?_
    refine aw_region (EF := EF0) hG (by rw [hN]; exact tr56_2) ?_
    simp only [a56_2, go_sem, ↓reduceIte, Nat.reduceEqDiff, reduceCtorEq, Nat.reduceAdd, Nat.reduceLT, Nat.reduceLeDiff, Nat.reduceBNe, Nat.reduceBEq, Int.reduceToNat]
    refine aw_cond (b := _) rfl (fun hc => ?_) (fun hc => ?_)
    · simp only [decide_eq_true_eq, decide_eq_false_iff_not, Bool.and_eq_true, Bool.or_eq_true, Bool.not_eq_true', Bool.not_eq_false', Bool.and_eq_false_iff, Bool.or_eq_false_iff, Int.ofNat_lt, Int.ofNat_le, Nat.not_lt, Nat.not_le, Int.not_lt, Int.not_le] at hc
      refine aw_skip ?_
      simp only [go_sem, ↓reduceIte, Nat.reduceEqDiff, reduceCtorEq, Nat.reduceAdd, Nat.reduceLT, Nat.reduceLeDiff, Nat.reduceBNe, Nat.reduceBEq, Int.reduceToNat]
      refine aw_seq ?_
      refine aw_block ?_
      refine aw_seq ?_
      refine aw_region (EF := EF0) hG (by rw [hN]; exact tr56_4) ?_
      simp only [a56_4, go_sem, ↓reduceIte, Nat.reduceEqDiff, reduceCtorEq, Nat.reduceAdd, Nat.reduceLT, Nat.reduceLeDiff, Nat.reduceBNe, Nat.reduceBEq, Int.reduceToNat, tLetters, gByte, hc]
      refine aw_cond (b := _) rfl (fun hd => ?_) (fun hd => ?_)
      · simp only [decide_eq_true_eq, decide_eq_false_iff_not, Bool.and_eq_true, Bool.or_eq_true, Bool.not_eq_true', Bool.not_eq_false', Bool.and_eq_false_iff, Bool.or_eq_false_iff, Int.ofNat_lt, Int.ofNat_le, Nat.not_lt, Nat.not_le, Int.not_lt, Int.not_le] at hd
        refine aw_seq (aw_region (EF := EF0) hG (by rw [hN]; exact tr56_5) ?_)
        simp only [a56_5, go_sem, ↓reduceIte, Nat.reduceEqDiff, reduceCtorEq, Nat.reduceAdd, Nat.reduceLT, Nat.reduceLeDiff, Nat.reduceBNe, Nat.reduceBEq, Int.reduceToNat]
        refine aw_ret ?_
        show Q _ _
        refine hQ _ _ (.inl rfl) ?_ ?_ ?_ <;> simp only [outφ, outV, AR.res, go_sem, ↓reduceIte, Nat.reduceEqDiff, reduceCtorEq, Nat.reduceAdd, Nat.reduceLT, Nat.reduceLeDiff, Nat.reduceBNe, Nat.reduceBEq, Int.reduceToNat, gLetters]
        rw [allB_no hc hd]
        rfl
      · simp only [decide_eq_true_eq, decide_eq_false_iff_not, Bool.and_eq_true, Bool.or_eq_true, Bool.not_eq_true', Bool.not_eq_false', Bool.and_eq_false_iff, Bool.or_eq_false_iff, Int.ofNat_lt, Int.ofNat_le, Nat.not_lt, Nat.not_le, Int.not_lt, Int.not_le] at hd
        refine aw_skip ?_
        simp only [go_sem, ↓reduceIte, Nat.reduceEqDiff, reduceCtorEq, Nat.reduceAdd, Nat.reduceLT, Nat.reduceLeDiff, Nat.reduceBNe, Nat.reduceBEq, Int.reduceToNat]
        refine aw_region (EF := EF0) hG (by rw [hN]; exact tr56_3) ?_
        simp only [a56_3, go_sem, ↓reduceIte, Nat.reduceEqDiff, reduceCtorEq, Nat.reduceAdd, Nat.reduceLT, Nat.reduceLeDiff, Nat.reduceBNe, Nat.reduceBEq, Int.reduceToNat, inI]
        refine ⟨⟨by omega, by omega⟩, ?_⟩
        refine hK (i + 1) _ ?_ ?_ ?_
        · exact ⟨hc, allB_step hc hp hd⟩
        · omega
        · refine Le.mk _ _ ?_ ?_ rfl <;> simp only [go_sem, ↓reduceIte, Nat.reduceEqDiff, reduceCtorEq, Nat.reduceAdd, Nat.reduceLT, Nat.reduceLeDiff, Nat.reduceBNe, Nat.reduceBEq, Int.reduceToNat] <;> (repeat' apply And.intro) <;> (try first | rfl | exact wk_frzb rfl rfl rfl | exact wk_fn rfl | exact .nilo _ _ _ rfl rfl | exact wk_frzm rfl rfl (fun kv hk => by obtain ⟨_, _, rfl⟩ := List.mem_map.1 hk; rfl))
    · simp only [decide_eq_true_eq, decide_eq_false_iff_not, Bool.and_eq_true, Bool.or_eq_true, Bool.not_eq_true', Bool.not_eq_false', Bool.and_eq_false_iff, Bool.or_eq_false_iff, Int.ofNat_lt, Int.ofNat_le, Nat.not_lt, Nat.not_le, Int.not_lt, Int.not_le] at hc
      refine aw_exit ?_
      simp only [go_sem, ↓reduceIte, Nat.reduceEqDiff, reduceCtorEq, Nat.reduceAdd, Nat.reduceLT, Nat.reduceLeDiff, Nat.reduceBNe, Nat.reduceBEq, Int.reduceToNat]
      refine aw_seq (aw_region (EF := EF0) hG (by rw [hN]; exact tr56_6) ?_)
      simp only [a56_6, go_sem, ↓reduceIte, Nat.reduceEqDiff, reduceCtorEq, Nat.reduceAdd, Nat.reduceLT, Nat.reduceLeDiff, Nat.reduceBNe, Nat.reduceBEq, Int.reduceToNat]
      refine aw_ret ?_
      show Q _ _
      refine hQ _ _ (.inl rfl) ?_ ?_ ?_ <;> simp only [outφ, outV, AR.res, go_sem, ↓reduceIte, Nat.reduceEqDiff, reduceCtorEq, Nat.reduceAdd, Nat.reduceLT, Nat.reduceLeDiff, Nat.reduceBNe, Nat.reduceBEq, Int.reduceToNat, gLetters]
      rw [allB_end (Nat.not_lt.2 hc) hp, Bool.true_and]
def gDigK (k : Nat) : List V → Prop × V
  | [.int .u64 n] => (0 ≤ n ∧ n < 10 ^ k ∧ n ≤ 18446744073709551615, .str (Lib.decDigits n.toNat))
  | _ => (False, .any)
def tDigK : Nat → Tab
  | 0 => fun _ => gNo
  | k + 1 => fun f => if f = 40 then gDigK k else gNo
set_option maxHeartbeats 1000000 in
theorem rdigits_k (k : Nat) (hG : ∀ f, PureC Try.prog UT f (tDigK k f)) : PureC Try.prog UT 40 (gDigK k) := by
  refine PureC.of_awQ Try.func40 body40 nm40 res40 fun vs hv => ?_
  match vs, hv with
  | [.int .u64 n], hv =>
  replace hv : 0 ≤ n ∧ n < 10 ^ k ∧ n ≤ 18446744073709551615 := hv
  obtain ⟨h0, h1, h2⟩ := hv
  refine ⟨by rw [nt40]; simp, fun C hN Q hQ => ?_⟩
  rw [nt40] at hN
  unfold c40
  refine aw_seq (aw_region (EF := EF0) hG (by rw [hN]; exact tr40_0) ?_)
  simp only [a40_0, go_sem, ↓reduceIte, Nat.reduceEqDiff, reduceCtorEq, Nat.reduceAdd, Nat.reduceLT, Nat.reduceLeDiff, Nat.reduceBNe, Nat.reduceBEq, Int.reduceToNat]
  refine aw_seq ?_
  refine aw_seq (aw_region (EF := EF0) hG (by rw [hN]; exact tr40_1) ?_)
  simp only [a40_1, go_sem, ↓reduceIte, Nat.reduceEqDiff, reduceCtorEq, Nat.reduceAdd, Nat.reduceLT, Nat.reduceLeDiff, Nat.reduceBNe, Nat.reduceBEq, Int.reduceToNat]
  refine aw_cond (b := _) rfl (fun hc => ?_) (fun hc => ?_)
  · simp only [decide_eq_true_eq, decide_eq_false_iff_not, Bool.and_eq_true, Bool.or_eq_true, Bool.not_eq_true', Bool.not_eq_false', Bool.and_eq_false_iff, Bool.or_eq_false_iff, Int.ofNat_lt, Int.ofNat_le, Nat.not_lt, Nat.not_le, Int.not_lt, Int.not_le] at hc
    refine aw_seq (aw_region (EF := EF0) hG (by rw [hN]; exact tr40_2) ?_)
    simp only [a40_2, go_sem, ↓reduceIte, Nat.reduceEqDiff, reduceCtorEq, Nat.reduceAdd, Nat.reduceLT, Nat.reduceLeDiff, Nat.reduceBNe, Nat.reduceBEq, Int.reduceToNat, inK_u64]
    (repeat' apply And.intro) <;> (try first | omega | ((fail_if_success refine idW ?_); (fail_if_success refine idS ?_); intros; (repeat' apply And.intro) <;> first | assumption | omega | (simp_all; done)))
    refine aw_ret ?_
    show Q _ _
    refine hQ _ _ (.inl rfl) ?_ ?_ ?_ <;> simp only [outφ, outV, AR.res, go_sem, ↓reduceIte, Nat.reduceEqDiff, reduceCtorEq, Nat.reduceAdd, Nat.reduceLT, Nat.reduceLeDiff, Nat.reduceBNe, Nat.reduceBEq, Int.reduceToNat, gDigK]
    rw [show [48, 49, 50, 51, 52, 53, 54, 55, 56, 57] = tens from rfl, digit_cut h0 (by omega), dd_small hc]
  · simp only [decide_eq_true_eq, decide_eq_false_iff_not, Bool.and_eq_true, Bool.or_eq_true, Bool.not_eq_true', Bool.not_eq_false', Bool.and_eq_false_iff, Bool.or_eq_false_iff, Int.ofNat_lt, Int.ofNat_le, Nat.not_lt, Nat.not_le, Int.not_lt, Int.not_le] at hc
    refine aw_skip ?_
    simp only [go_sem, ↓reduceIte, Nat.reduceEqDiff, reduceCtorEq, Nat.reduceAdd, Nat.reduceLT, Nat.reduceLeDiff, Nat.reduceBNe, Nat.reduceBEq, Int.reduceToNat]
    have hq : (tDigK k 40 [.int .u64 (n / 10)]).1 ∧ (tDigK k 40 [.int .u64 (n / 10)]).2 = .str (Lib.decDigits (n / 10).toNat) := by
      cases k with
      | zero => exfalso; simp at h1; omega
      | succ k =>
        refine ⟨⟨by omega, ?_, by omega⟩, rfl⟩
        rw [Int.pow_succ] at h1
        omega
    have hl := dd_len (n := n / 10) (by omega)
    refine aw_seq (aw_regionD (EF := EF0) hG mixed (by rw [hN]; exact tr40_3) ok40_3 ?_)
    simp only [a40_3, d40_3, go_sem, ↓reduceIte, Nat.reduceEqDiff, reduceCtorEq, Nat.reduceAdd, Nat.reduceLT, Nat.reduceLeDiff, Nat.reduceBNe, Nat.reduceBEq, Int.reduceToNat, inK_u64, hq.1, hq.2]
    rw [show [48, 49, 50, 51, 52, 53, 54, 55, 56, 57] = tens from rfl, digit_cut (by omega : 0 ≤ n % 10) (by omega)]
    (repeat' apply And.intro) <;> (try first | omega | ((fail_if_success refine idW ?_); (fail_if_success refine idS ?_); intros; (repeat' apply And.intro) <;> first | assumption | omega | (simp_all; done)) | (rw [List.length_append]; simp only [List.length_cons, List.length_nil]; omega))
    refine aw_ret ?_
    show Q _ _
    refine hQ _ _ (.inl rfl) ?_ ?_ ?_ <;> simp only [outφ, outV, AR.res, go_sem, ↓reduceIte, Nat.reduceEqDiff, reduceCtorEq, Nat.reduceAdd, Nat.reduceLT, Nat.reduceLeDiff, Nat.reduceBNe, Nat.reduceBEq, Int.reduceToNat, gDigK]
    rw [dd_big hc]
theorem rdigits_all : ∀ k, PureC Try.prog UT 40 (gDigK k)
  | 0 => rdigits_k 0 fun _ => PureC.no
  | k + 1 => rdigits_k (k + 1) fun f => by
    show PureC Try.prog UT f (if f = 40 then gDigK k else gNo)
    by_cases h : f = 40
    · subst h; rw [if_pos rfl]; exact rdigits_all k
    · rw [if_neg h]; exact PureC.no
def gDigits : List V → Prop × V
  | [.int .u64 n] => (0 ≤ n ∧ n ≤ 18446744073709551615, .str (Lib.decDigits n.toNat))
  | _ => (False, .any)
theorem rdigits_p : PureC Try.prog UT 40 gDigits := (rdigits_all 20).sub fun vs hv => by
  match vs, hv with
  | [.int .u64 n], hv => exact ⟨⟨hv.1, Int.lt_of_le_of_lt hv.2 (by decide), hv.2⟩, rfl⟩
def gRDec : List V → Prop × V
  | [.int .i64 n] => (inI n, .str (dec n))
  | _ => (False, .any)
noncomputable def trDec : Tab
  | 40 => gDigits
  | _ => gNo
theorem trDec_ok : ∀ f, PureC Try.prog UT f (trDec f) := fun f => by
  unfold trDec
  split
  · exact rdigits_p
  · exact PureC.no
set_option maxHeartbeats 1000000 in
theorem rdecimal_p : PureC Try.prog UT 23 gRDec := by
  have hG := trDec_ok
  refine PureC.of_awQ Try.func23 body23 nm23 res23 fun vs hv => ?_
  match vs, hv with
  | [.int .i64 n], hv =>
  replace hv : inI n := hv
  obtain ⟨h0, h1⟩ := hv
  refine ⟨by rw [nt23]; simp, fun C hN Q hQ => ?_⟩
  rw [nt23] at hN
  unfold c23
  refine aw_seq (aw_region (EF := EF0) hG (by rw [hN]; exact tr23_0) ?_)
  simp only [a23_0, go_sem, ↓reduceIte, Nat.reduceEqDiff, reduceCtorEq, Nat.reduceAdd, Nat.reduceLT, Nat.reduceLeDiff, Nat.reduceBNe, Nat.reduceBEq, Int.reduceToNat]
  refine aw_seq ?_
  refine aw_seq (aw_region (EF := EF0) hG (by rw [hN]; exact tr23_1) ?_)
  simp only [a23_1, go_sem, ↓reduceIte, Nat.reduceEqDiff, reduceCtorEq, Nat.reduceAdd, Nat.reduceLT, Nat.reduceLeDiff, Nat.reduceBNe, Nat.reduceBEq, Int.reduceToNat]
  refine aw_cond (b := _) rfl (fun hc => ?_) (fun hc => ?_)
  · simp only [decide_eq_true_eq, decide_eq_false_iff_not, Bool.and_eq_true, Bool.or_eq_true, Bool.not_eq_true', Bool.not_eq_false', Bool.and_eq_false_iff, Bool.or_eq_false_iff, Int.ofNat_lt, Int.ofNat_le, Nat.not_lt, Nat.not_le, Int.not_lt, Int.not_le] at hc
    have hl := dd_len (n := -(n + 1) + 1) (by omega)
    refine aw_seq (aw_region (EF := EF0) hG (by rw [hN]; exact tr23_2) ?_)
    simp only [a23_2, go_sem, ↓reduceIte, Nat.reduceEqDiff, reduceCtorEq, Nat.reduceAdd, Nat.reduceLT, Nat.reduceLeDiff, Nat.reduceBNe, Nat.reduceBEq, Int.reduceToNat, inK_u64, inI, trDec, gDigits]
    (repeat' apply And.intro) <;> (try first | omega | ((fail_if_success refine idW ?_); (fail_if_success refine idS ?_); intros; (repeat' apply And.intro) <;> first | assumption | omega | (simp_all; done)))
    refine aw_ret ?_
    show Q _ _
    refine hQ _ _ (.inl rfl) ?_ ?_ ?_ <;> simp only [outφ, outV, AR.res, go_sem, ↓reduceIte, Nat.reduceEqDiff, reduceCtorEq, Nat.reduceAdd, Nat.reduceLT, Nat.reduceLeDiff, Nat.reduceBNe, Nat.reduceBEq, Int.reduceToNat, gRDec, dec, Lib.itoa]
    rw [if_pos hc, show (-(n + 1) + 1).toNat = n.natAbs by omega]
  · simp only [decide_eq_true_eq, decide_eq_false_iff_not, Bool.and_eq_true, Bool.or_eq_true, Bool.not_eq_true', Bool.not_eq_false', Bool.and_eq_false_iff, Bool.or_eq_false_iff, Int.ofNat_lt, Int.ofNat_le, Nat.not_lt, Nat.not_le, Int.not_lt, Int.not_le] at hc
    refine aw_skip ?_
    simp only [go_sem, ↓reduceIte, Nat.reduceEqDiff, reduceCtorEq, Nat.reduceAdd, Nat.reduceLT, Nat.reduceLeDiff, Nat.reduceBNe, Nat.reduceBEq, Int.reduceToNat]
    refine aw_seq (aw_region (EF := EF0) hG (by rw [hN]; exact tr23_3) ?_)
    simp only [a23_3, go_sem, ↓reduceIte, Nat.reduceEqDiff, reduceCtorEq, Nat.reduceAdd, Nat.reduceLT, Nat.reduceLeDiff, Nat.reduceBNe, Nat.reduceBEq, Int.reduceToNat, inK_u64, trDec, gDigits]
    (repeat' apply And.intro) <;> (try first | omega | ((fail_if_success refine idW ?_); (fail_if_success refine idS ?_); intros; (repeat' apply And.intro) <;> first | assumption | omega | (simp_all; done)))
    refine aw_ret ?_
    show Q _ _
    refine hQ _ _ (.inl rfl) ?_ ?_ ?_ <;> simp only [outφ, outV, AR.res, go_sem, ↓reduceIte, Nat.reduceEqDiff, reduceCtorEq, Nat.reduceAdd, Nat.reduceLT, Nat.reduceLeDiff, Nat.reduceBNe, Nat.reduceBEq, Int.reduceToNat, gRDec, dec, Lib.itoa]
    rw [if_neg (by omega)]
end Go.Proofs.Ytfjgnfgadkajnaa
