/- Functions on texts, of the program and of the reference: what each computes. -/
import Derived.Test.YtfjgnfgadkajnaaGreatCo
import Derived.Test.YtfjgnfgadkajnaaGreatAv22
import Derived.Lib.ItoaNum
import Derived.Lib.ItoaLen
namespace Go.Proofs.YtfjgnfgadkajnaaGreat
open Go Go.RowKit
set_option linter.unusedSimpArgs false
set_option linter.unusedVariables false
set_option linter.deprecated false
def UT : Tbl := ⟨fun _ => True, fun _ => False, fun _ _ _ h => h⟩
/-! What they compute. -/
def capB (c : Int) : Bool := decide (65 ≤ c) && decide (c ≤ 90)
/-- All bytes have a property. -/
def allB (p : Int → Bool) (l : List UInt8) : Bool := l.all fun c => p (c.toNat : Int)
/-- A number in decimal digits. -/
def dec (n : Int) : List UInt8 := Lib.itoa n
theorem allB_step {p : Int → Bool} {s : List UInt8} {i : Nat} (h : i < s.length) (ht : allB p (s.take i) = true) (hp : p ((s.getD i 0).toNat : Int) = true) : allB p (s.take (i + 1)) = true := by
  rw [List.take_succ_eq_append_getElem h]
  rw [List.getD_eq_getElem?_getD, List.getElem?_eq_getElem h] at hp
  simp only [allB, List.all_append, List.all_cons, List.all_nil, Bool.and_true, Bool.and_eq_true] at ht ⊢
  exact ⟨ht, hp⟩
theorem allB_no {p : Int → Bool} {s : List UInt8} {i : Nat} (h : i < s.length) (hp : p ((s.getD i 0).toNat : Int) = false) : allB p s = false := by
  rw [List.getD_eq_getElem?_getD, List.getElem?_eq_getElem h] at hp
  unfold allB
  rw [List.all_eq_false]
  exact ⟨s[i], List.getElem_mem h, by simpa using hp⟩
theorem allB_end {p : Int → Bool} {s : List UInt8} {i : Nat} (h : ¬ i < s.length) (ht : allB p (s.take i) = true) : allB p s = true := by
  rwa [List.take_of_length_le (by omega)] at ht
def dch (d : Nat) : UInt8 := UInt8.ofNat (48 + d)
def tens : List UInt8 := [48, 49, 50, 51, 52, 53, 54, 55, 56, 57]
theorem digit_cut {d : Int} (h0 : 0 ≤ d) (h : d < 10) : (tens.take (d + 1).toNat).drop d.toNat = [dch d.toNat] := by
  have : d = 0 ∨ d = 1 ∨ d = 2 ∨ d = 3 ∨ d = 4 ∨ d = 5 ∨ d = 6 ∨ d = 7 ∨ d = 8 ∨ d = 9 := by omega
  rcases this with rfl | rfl | rfl | rfl | rfl | rfl | rfl | rfl | rfl | rfl <;> rfl
theorem dd_small {n : Int} (h : n < 10) : Lib.decDigits n.toNat = [dch n.toNat] := by rw [Lib.decDigits, dif_pos (by omega)]; rfl
theorem dd_big {n : Int} (h : 10 ≤ n) : Lib.decDigits n.toNat = Lib.decDigits (n / 10).toNat ++ [dch (n % 10).toNat] := by
  rw [Lib.decDigits, dif_neg (by omega), show n.toNat / 10 = (n / 10).toNat by omega, show n.toNat % 10 = (n % 10).toNat by omega]; rfl
theorem dd_len {n : Int} (h : n ≤ 18446744073709551615) : (Lib.decDigits n.toNat).length ≤ 20 := by
  rw [Lib.decDigits_length]; exact Lib.nDigits_le20 _ (by omega)
theorem dec_len {n : Int} (h : inI n) : (dec n).length ≤ 21 := Lib.itoa_length_le n h.1 h.2
/-! The functions. -/
def gByte (p : Int → Bool) : List V → Prop × V
  | [.int .u8 n] => (True, .bool (p n))
  | _ => (False, .any)
noncomputable def tNo : Tab
  | _ => gNo
theorem tNo_ok : ∀ f, PureC Tryz.prog UT f (tNo f) := fun f => by
  unfold tNo
  split
  · exact PureC.no
set_option maxHeartbeats 1000000 in
theorem rupper_p : PureC Tryz.prog UT 76 (gByte capB) := by
  have hG := tNo_ok
  refine PureC.of_awQ Tryz.func76 body76 nm76 res76 fun vs hv => ?_
  match vs, hv with
  | [.int .u8 n], _ =>
  refine ⟨by rw [nt76]; simp, fun C hN Q hQ => ?_⟩
  rw [nt76] at hN
  unfold c76
  refine aw_seq (aw_region (EF := EF0) hG (by rw [hN]; exact tr76_0) ?_)
  simp only [a76_0, go_sem, simprocAttr]
  refine aw_seq (aw_region (EF := EF0) hG (by rw [hN]; exact tr76_1) ?_)
  simp only [a76_1, go_sem, simprocAttr]
  refine aw_ret ?_
  show Q _ _
  refine hQ _ _ (.inl rfl) ?_ ?_ ?_ <;> simp only [outφ, outV, AR.res, go_sem, simprocAttr, gByte, capB]

/-- Capital letters, so many. -/
def gLetters : List V → Prop × V
  | [.str s, .int .i64 n] => (s.length ≤ 140737488355328, .bool (allB capB s && decide ((s.length : Int) = n)))
  | _ => (False, .any)
noncomputable def tLetters : Tab
  | 76 => (gByte capB)
  | _ => gNo
theorem tLetters_ok : ∀ f, PureC Tryz.prog UT f (tLetters f) := fun f => by
  unfold tLetters
  split
  · exact rupper_p
  · exact PureC.no
set_option maxHeartbeats 1000000 in
theorem rletters_p : PureC Tryz.prog UT 59 gLetters := by
  have hG := tLetters_ok
  refine PureC.of_awQ Tryz.func59 body59 nm59 res59 fun vs hv => ?_
  match vs, hv with
  | [.str s, .int .i64 n], hv =>
  replace hv : s.length ≤ 140737488355328 := hv
  refine ⟨by rw [nt59]; simp, fun C hN Q hQ => ?_⟩
  rw [nt59] at hN
  unfold c59
  refine aw_seq (aw_region (EF := EF0) hG (by rw [hN]; exact tr59_0) ?_)
  simp only [a59_0, go_sem, simprocAttr]
  refine aw_seq ?_
  refine aw_seq (aw_region (EF := EF0) hG (by rw [hN]; exact tr59_1) ?_)
  simp only [a59_1, go_sem, simprocAttr]
  refine aw_block ?_
  refine aw_loop (α := Nat) (fun i => i ≤ s.length ∧ allB capB (s.take i) = true) (fun i => ⟨mkE [(0, .str s), (1, .int .i64 n), (5, .int .i64 i)], mkH []⟩) (fun i => s.length - i) 0 ⟨Nat.zero_le _, rfl⟩ ?_ ?_
  · refine Le.mk _ _ ?_ ?_ rfl <;> simp only [go_sem, simprocAttr] <;> (repeat' apply And.intro) <;> (try first | rfl | exact wk_frzb rfl rfl rfl | exact wk_fn rfl | exact .nilo _ _ _ rfl rfl)
  · rintro i ⟨hi, hp⟩ K hK
    refine aw_seq ?_
    refine aw_seq ?_
    refine aw_region (EF := EF0) hG (by rw [hN]; exact tr59_2) ?_
    simp only [a59_2, go_sem, simprocAttr]
    refine aw_cond (b := _) rfl (fun hc => ?_) (fun hc => ?_)
    · simp only [hcL] at hc
      refine aw_skip ?_
      simp only [go_sem, simprocAttr]
      refine aw_seq ?_
      refine aw_block ?_
      refine aw_seq ?_
      refine aw_region (EF := EF0) hG (by rw [hN]; exact tr59_4) ?_
      simp only [a59_4, go_sem, simprocAttr, tLetters, gByte, hc]
      refine aw_cond (b := _) rfl (fun hd => ?_) (fun hd => ?_)
      · simp only [hcL] at hd
        refine aw_seq (aw_region (EF := EF0) hG (by rw [hN]; exact tr59_5) ?_)
        simp only [a59_5, go_sem, simprocAttr]
        refine aw_ret ?_
        show Q _ _
        refine hQ _ _ (.inl rfl) ?_ ?_ ?_ <;> simp only [outφ, outV, AR.res, go_sem, simprocAttr, gLetters]
        rw [allB_no hc hd]
        rfl
      · simp only [hcL] at hd
        refine aw_skip ?_
        simp only [go_sem, simprocAttr]
        refine aw_region (EF := EF0) hG (by rw [hN]; exact tr59_3) ?_
        simp only [a59_3, go_sem, simprocAttr, inI]
        refine ⟨⟨by omega, by omega⟩, ?_⟩
        refine hK (i + 1) _ ?_ ?_ ?_
        · exact ⟨hc, allB_step hc hp hd⟩
        · omega
        · refine Le.mk _ _ ?_ ?_ rfl <;> simp only [go_sem, simprocAttr] <;> (repeat' apply And.intro) <;> (try first | rfl | exact wk_frzb rfl rfl rfl | exact wk_fn rfl | exact .nilo _ _ _ rfl rfl)
    · simp only [hcL] at hc
      refine aw_exit ?_
      simp only [go_sem, simprocAttr]
      refine aw_seq (aw_region (EF := EF0) hG (by rw [hN]; exact tr59_6) ?_)
      simp only [a59_6, go_sem, simprocAttr]
      refine aw_ret ?_
      show Q _ _
      refine hQ _ _ (.inl rfl) ?_ ?_ ?_ <;> simp only [outφ, outV, AR.res, go_sem, simprocAttr, gLetters]
      rw [allB_end (Nat.not_lt.2 hc) hp, Bool.true_and]
def gDigK (k : Nat) : List V → Prop × V
  | [.int .u64 n] => (0 ≤ n ∧ n < 10 ^ k ∧ n ≤ 18446744073709551615, .str (Lib.decDigits n.toNat))
  | _ => (False, .any)
def tDigK : Nat → Tab
  | 0 => fun _ => gNo
  | k + 1 => fun f => if f = 45 then gDigK k else gNo
set_option maxHeartbeats 1000000 in
theorem rdigits_k (k : Nat) (hG : ∀ f, PureC Tryz.prog UT f (tDigK k f)) : PureC Tryz.prog UT 45 (gDigK k) := by
  refine PureC.of_awQ Tryz.func45 body45 nm45 res45 fun vs hv => ?_
  match vs, hv with
  | [.int .u64 n], hv =>
  replace hv : 0 ≤ n ∧ n < 10 ^ k ∧ n ≤ 18446744073709551615 := hv
  obtain ⟨h0, h1, h2⟩ := hv
  refine ⟨by rw [nt45]; simp, fun C hN Q hQ => ?_⟩
  rw [nt45] at hN
  unfold c45
  refine aw_seq (aw_region (EF := EF0) hG (by rw [hN]; exact tr45_0) ?_)
  simp only [a45_0, go_sem, simprocAttr]
  refine aw_seq ?_
  refine aw_seq (aw_region (EF := EF0) hG (by rw [hN]; exact tr45_1) ?_)
  simp only [a45_1, go_sem, simprocAttr]
  refine aw_cond (b := _) rfl (fun hc => ?_) (fun hc => ?_)
  · simp only [hcL] at hc
    refine aw_seq (aw_region (EF := EF0) hG (by rw [hN]; exact tr45_2) ?_)
    simp only [a45_2, go_sem, simprocAttr, inK_u64]
    (repeat' apply And.intro) <;> (try first | omega | ((fail_if_success refine idW ?_); (fail_if_success refine idS ?_); intros; (repeat' apply And.intro) <;> first | assumption | omega | (simp_all; done)))
    refine aw_ret ?_
    show Q _ _
    refine hQ _ _ (.inl rfl) ?_ ?_ ?_ <;> simp only [outφ, outV, AR.res, go_sem, simprocAttr, gDigK]
    rw [show [48, 49, 50, 51, 52, 53, 54, 55, 56, 57] = tens from rfl, digit_cut h0 (by omega), dd_small hc]
  · simp only [hcL] at hc
    refine aw_skip ?_
    simp only [go_sem, simprocAttr]
    have hq : (tDigK k 45 [.int .u64 (n / 10)]).1 ∧ (tDigK k 45 [.int .u64 (n / 10)]).2 = .str (Lib.decDigits (n / 10).toNat) := by
      cases k with
      | zero => exfalso; simp at h1; omega
      | succ k =>
        refine ⟨⟨by omega, ?_, by omega⟩, rfl⟩
        rw [Int.pow_succ] at h1
        omega
    have hl := dd_len (n := n / 10) (by omega)
    refine aw_seq (aw_regionD (EF := EF0) hG mixed (by rw [hN]; exact tr45_3) ok45_3 ?_)
    simp only [a45_3, d45_3, go_sem, simprocAttr, inK_u64, hq.1, hq.2]
    rw [show [48, 49, 50, 51, 52, 53, 54, 55, 56, 57] = tens from rfl, digit_cut (by omega : 0 ≤ n % 10) (by omega)]
    (repeat' apply And.intro) <;> (try first | omega | ((fail_if_success refine idW ?_); (fail_if_success refine idS ?_); intros; (repeat' apply And.intro) <;> first | assumption | omega | (simp_all; done)) | (rw [List.length_append]; simp only [List.length_cons, List.length_nil]; omega))
    refine aw_ret ?_
    show Q _ _
    refine hQ _ _ (.inl rfl) ?_ ?_ ?_ <;> simp only [outφ, outV, AR.res, go_sem, simprocAttr, gDigK]
    rw [dd_big hc]
theorem rdigits_all : ∀ k, PureC Tryz.prog UT 45 (gDigK k)
  | 0 => rdigits_k 0 fun _ => PureC.no
  | k + 1 => rdigits_k (k + 1) fun f => by
    show PureC Tryz.prog UT f (if f = 45 then gDigK k else gNo)
    by_cases h : f = 45
    · subst h; rw [if_pos rfl]; exact rdigits_all k
    · rw [if_neg h]; exact PureC.no
def gDigits : List V → Prop × V
  | [.int .u64 n] => (0 ≤ n ∧ n ≤ 18446744073709551615, .str (Lib.decDigits n.toNat))
  | _ => (False, .any)
theorem rdigits_p : PureC Tryz.prog UT 45 gDigits := (rdigits_all 20).sub fun vs hv => by
  match vs, hv with
  | [.int .u64 n], hv => exact ⟨⟨hv.1, Int.lt_of_le_of_lt hv.2 (by decide), hv.2⟩, rfl⟩
def gRDec : List V → Prop × V
  | [.int .i64 n] => (inI n, .str (dec n))
  | _ => (False, .any)
noncomputable def trDec : Tab
  | 45 => gDigits
  | _ => gNo
theorem trDec_ok : ∀ f, PureC Tryz.prog UT f (trDec f) := fun f => by
  unfold trDec
  split
  · exact rdigits_p
  · exact PureC.no
set_option maxHeartbeats 1000000 in
theorem rdecimal_p : PureC Tryz.prog UT 20 gRDec := by
  have hG := trDec_ok
  refine PureC.of_awQ Tryz.func20 body20 nm20 res20 fun vs hv => ?_
  match vs, hv with
  | [.int .i64 n], hv =>
  replace hv : inI n := hv
  obtain ⟨h0, h1⟩ := hv
  refine ⟨by rw [nt20]; simp, fun C hN Q hQ => ?_⟩
  rw [nt20] at hN
  unfold c20
  refine aw_seq (aw_region (EF := EF0) hG (by rw [hN]; exact tr20_0) ?_)
  simp only [a20_0, go_sem, simprocAttr]
  refine aw_seq ?_
  refine aw_seq (aw_region (EF := EF0) hG (by rw [hN]; exact tr20_1) ?_)
  simp only [a20_1, go_sem, simprocAttr]
  refine aw_cond (b := _) rfl (fun hc => ?_) (fun hc => ?_)
  · simp only [hcL] at hc
    have hl := dd_len (n := -(n + 1) + 1) (by omega)
    refine aw_seq (aw_region (EF := EF0) hG (by rw [hN]; exact tr20_2) ?_)
    simp only [a20_2, go_sem, simprocAttr, inK_u64, inI, trDec, gDigits]
    (repeat' apply And.intro) <;> (try first | omega | ((fail_if_success refine idW ?_); (fail_if_success refine idS ?_); intros; (repeat' apply And.intro) <;> first | assumption | omega | (simp_all; done)))
    refine aw_ret ?_
    show Q _ _
    refine hQ _ _ (.inl rfl) ?_ ?_ ?_ <;> simp only [outφ, outV, AR.res, go_sem, simprocAttr, gRDec, dec, Lib.itoa]
    rw [if_pos hc, show (-(n + 1) + 1).toNat = n.natAbs by omega]
  · simp only [hcL] at hc
    refine aw_skip ?_
    simp only [go_sem, simprocAttr]
    refine aw_seq (aw_region (EF := EF0) hG (by rw [hN]; exact tr20_3) ?_)
    simp only [a20_3, go_sem, simprocAttr, inK_u64, trDec, gDigits]
    (repeat' apply And.intro) <;> (try first | omega | ((fail_if_success refine idW ?_); (fail_if_success refine idS ?_); intros; (repeat' apply And.intro) <;> first | assumption | omega | (simp_all; done)))
    refine aw_ret ?_
    show Q _ _
    refine hQ _ _ (.inl rfl) ?_ ?_ ?_ <;> simp only [outφ, outV, AR.res, go_sem, simprocAttr, gRDec, dec, Lib.itoa]
    rw [if_neg (by omega)]
end Go.Proofs.YtfjgnfgadkajnaaGreat
