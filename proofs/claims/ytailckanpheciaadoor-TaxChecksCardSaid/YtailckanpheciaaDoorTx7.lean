/- Percent of an amount, where the product is below 2^64; the reference's for all amounts. -/
import Derived.Test.YtailckanpheciaaDoorTx6
namespace Go.Proofs.YtailckanpheciaaDoor
open Go Go.RowKit
set_option linter.unusedSimpArgs false
set_option linter.unusedVariables false
set_option linter.deprecated false
theorem wrap_u64 (n : Int) : IntKind.u64.wrap n = n % 18446744073709551616 := by
  unfold IntKind.wrap
  simp [IntKind.bits, IntKind.signed]
theorem size_run (n : Int) (hn : inI n) (w : World) :
    Calls Tryd.prog 60 #[.int .i64 n] w fun e w' => e = .returned (.int .u64 (n.natAbs : Int)) ∧ w = w' := by
  obtain ⟨h1, h2⟩ := hn
  go_enter Tryd.func60, Tryd.ntmps60
  go_wp2_with (fail)
  all_goals go_ret
  · rename_i hs
    refine ⟨?_, rfl⟩
    have : IntKind.u64.wrap (-IntKind.u64.wrap n) = (n.natAbs : Int) := by rw [wrap_u64, wrap_u64]; omega
    exact congrArg (fun x => Ending.returned (Value.int .u64 x)) this
  · rename_i hs
    refine ⟨?_, rfl⟩
    exact congrArg (fun x => Ending.returned (Value.int .u64 x)) (show n = (n.natAbs : Int) by omega)
def gSize : List V → Prop × V
  | [.int .i64 n] => (inI n, .int .u64 (n.natAbs : Int))
  | _ => (False, .any)
theorem size_p : PureC Tryd.prog UT 60 gSize := by
  refine PureC.leaf Tryd.func60 (by kernel_rfl : Tryd.f60.body = some ((Tryd.f60.body).getD .skip)) (by kernel_rfl) fun vs M w cargs hv hB hs ha => ?_
  match vs, hv, hs, ha with
  | [.int .i64 n], hv, hs, ha =>
  have h0 := (ha 0 _ rfl).int_inv
  have h1 := args_one hs
  rw [h0] at h1
  rw [h1]
  refine (size_run n hv w).mono ?_
  rintro e w' ⟨he, rfl⟩
  exact ⟨_, he, fun M' => .int _ _, Below.refl _ _⟩
def u64m : Int := 18446744073709551616
def gMul : List V → Prop × V
  | [.int .u64 x, .int .u64 y] => (0 ≤ x ∧ x < u64m ∧ 0 ≤ y ∧ y < u64m, .tup [.int .u64 (x * y / u64m), .int .u64 (x * y % u64m)])
  | _ => (False, .any)
theorem mul64_p : PureC Tryd.prog UT 74 gMul := by
  refine PureC.leaf Tryd.func74 (by kernel_rfl : Tryd.f74.body = some ((Tryd.f74.body).getD .skip)) (by kernel_rfl) fun vs M w cargs hv hB hs ha => ?_
  match vs, hv, hs, ha with
  | [.int .u64 x, .int .u64 y], hv, hs, ha =>
  have h0 := (ha 0 _ rfl).int_inv
  have h2 := (ha 1 _ rfl).int_inv
  have h1 := args_two hs
  rw [h0, h2] at h1
  rw [h1]
  obtain ⟨h3, h4, h5, h6⟩ : 0 ≤ x ∧ x < u64m ∧ 0 ≤ y ∧ y < u64m := hv
  unfold u64m at h4 h6
  obtain ⟨x, rfl⟩ := Int.eq_ofNat_of_zero_le h3
  obtain ⟨y, rfl⟩ := Int.eq_ofNat_of_zero_le h5
  refine (Tryd.bits_Mul64 x y (by omega) (by omega) w).mono ?_
  rintro e w' ⟨he, rfl⟩
  refine ⟨_, he, fun M' => ?_, Below.refl _ _⟩
  refine .tup _ _ rfl fun i v hi => ?_
  match i, hi with
  | 0, hi =>
    obtain rfl : V.int .u64 ((x : Int) * (y : Int) / u64m) = v := by simpa using hi
    rw [show (x : Int) * (y : Int) / u64m = ((x * y / 18446744073709551616 : Nat) : Int) by unfold u64m; rw [Int.natCast_ediv, Int.natCast_mul]; rfl]
    exact .int _ _
  | 1, hi =>
    obtain rfl : V.int .u64 ((x : Int) * (y : Int) % u64m) = v := by simpa using hi
    rw [show (x : Int) * (y : Int) % u64m = ((x * y % 18446744073709551616 : Nat) : Int) by unfold u64m; rw [Int.natCast_emod, Int.natCast_mul]; rfl]
    exact .int _ _
/-! Division of two words, the upper one 0. -/
def gDiv : List V → Prop × V
  | [.int .u64 hi, .int .u64 lo, .int .u64 y] => (hi = 0 ∧ 0 ≤ lo ∧ lo < u64m ∧ 0 < y, .tup [.int .u64 (lo / y), .int .u64 (lo % y)])
  | _ => (False, .any)
theorem div64_p : PureC Tryd.prog UT 75 gDiv := by
  have hG := tNo_ok
  refine PureC.of_awQ Tryd.func75 body75 nm75 res75 fun vs hv => ?_
  match vs, hv with
  | [.int .u64 hi, .int .u64 lo, .int .u64 y], hv =>
  obtain ⟨rfl, h1, h2, h3⟩ : hi = 0 ∧ 0 ≤ lo ∧ lo < u64m ∧ 0 < y := hv
  have hq : inK .u64 (lo / y) := inK_u64.2 ⟨Int.ediv_nonneg h1 (by omega), by unfold u64m at h2; have := Int.ediv_le_self y h1; omega⟩
  have e1 : decide (y = 0) = false := decide_eq_false (by omega)
  have e2 : decide (y ≤ 0) = false := decide_eq_false (by omega)
  refine ⟨by rw [nt75]; simp, fun C hN Q hQ => ?_⟩
  rw [nt75] at hN
  unfold c75
  refine aw_seq (aw_region (EF := EF0) hG (by rw [hN]; exact tr75_0) ?_)
  simp only [a75_0, go_sem, ↓reduceIte, Nat.reduceEqDiff, reduceCtorEq, Nat.reduceAdd, Nat.reduceLT, Nat.reduceLeDiff, Nat.reduceBNe, Nat.reduceBEq, Int.reduceToNat]
  refine aw_seq ?_
  refine aw_seq (aw_region (EF := EF0) hG (by rw [hN]; exact tr75_1) ?_)
  simp only [a75_1, go_sem, ↓reduceIte, Nat.reduceEqDiff, reduceCtorEq, Nat.reduceAdd, Nat.reduceLT, Nat.reduceLeDiff, Nat.reduceBNe, Nat.reduceBEq, Int.reduceToNat, e1]
  refine aw_condF rfl ?_
  refine aw_skip ?_
  try simp only [go_sem, ↓reduceIte, Nat.reduceEqDiff, reduceCtorEq, Nat.reduceAdd, Nat.reduceLT, Nat.reduceLeDiff, Nat.reduceBNe, Nat.reduceBEq, Int.reduceToNat]
  refine aw_seq ?_
  refine aw_seq (aw_region (EF := EF0) hG (by rw [hN]; exact tr75_3) ?_)
  simp only [a75_3, go_sem, ↓reduceIte, Nat.reduceEqDiff, reduceCtorEq, Nat.reduceAdd, Nat.reduceLT, Nat.reduceLeDiff, Nat.reduceBNe, Nat.reduceBEq, Int.reduceToNat, e2]
  refine aw_condF rfl ?_
  refine aw_skip ?_
  try simp only [go_sem, ↓reduceIte, Nat.reduceEqDiff, reduceCtorEq, Nat.reduceAdd, Nat.reduceLT, Nat.reduceLeDiff, Nat.reduceBNe, Nat.reduceBEq, Int.reduceToNat]
  refine aw_seq ?_
  refine aw_seq (aw_region (EF := EF0) hG (by rw [hN]; exact tr75_5) ?_)
  simp only [a75_5, go_sem, ↓reduceIte, Nat.reduceEqDiff, reduceCtorEq, Nat.reduceAdd, Nat.reduceLT, Nat.reduceLeDiff, Nat.reduceBNe, Nat.reduceBEq, Int.reduceToNat]
  refine aw_condT rfl ?_
  refine aw_seq (aw_regionD (EF := EF0) hG mixed (by rw [hN]; exact tr75_6) ok75_6 ?_)
  simp only [a75_6, d75_6, go_sem, ↓reduceIte, Nat.reduceEqDiff, reduceCtorEq, Nat.reduceAdd, Nat.reduceLT, Nat.reduceLeDiff, Nat.reduceBNe, Nat.reduceBEq, Int.reduceToNat, hq, h1, h3]
  refine aw_ret ?_
  show Q _ _
  refine hQ _ _ (.inl rfl) ?_ ?_ ?_ <;> simp only [outφ, outV, AR.res, go_sem, ↓reduceIte, Nat.reduceEqDiff, reduceCtorEq, Nat.reduceAdd, Nat.reduceLT, Nat.reduceLeDiff, Nat.reduceBNe, Nat.reduceBEq, Int.reduceToNat, gDiv]
/-! The quotient of a product below 2^64. -/
def gScale : List V → Prop × V
  | [.int .u64 a, .int .u64 b, .int .u64 y] => (0 ≤ a ∧ a < u64m ∧ 0 ≤ b ∧ b < u64m ∧ a * b < u64m ∧ 0 < y, .tup [.int .u64 (a * b / y), .int .u64 (a * b % y), .bool true])
  | _ => (False, .any)
noncomputable def tScale : Tab
  | 74 => gMul
  | 75 => gDiv
  | _ => gNo
theorem tScale_ok : ∀ f, PureC Tryd.prog UT f (tScale f) := fun f => by
  unfold tScale
  split
  · exact mul64_p
  · exact div64_p
  · exact PureC.no
theorem scale_p : PureC Tryd.prog UT 59 gScale := by
  have hG := tScale_ok
  refine PureC.of_awQ Tryd.func59 body59 nm59 res59 fun vs hv => ?_
  match vs, hv with
  | [.int .u64 a, .int .u64 b, .int .u64 y], hv =>
  obtain ⟨h1, h2, h3, h4, h5, h6⟩ : 0 ≤ a ∧ a < u64m ∧ 0 ≤ b ∧ b < u64m ∧ a * b < u64m ∧ 0 < y := hv
  have h7 : 0 ≤ a * b := Int.mul_nonneg h1 h3
  have h8 : a * b / u64m = 0 := Int.ediv_eq_zero_of_lt h7 h5
  have h9 : a * b % u64m = a * b := Int.emod_eq_of_lt h7 h5
  have e2 : decide (y ≤ 0) = false := decide_eq_false (by omega)
  refine ⟨by rw [nt59]; simp, fun C hN Q hQ => ?_⟩
  rw [nt59] at hN
  unfold c59
  refine aw_seq (aw_region (EF := EF0) hG (by rw [hN]; exact tr59_0) ?_)
  simp only [a59_0, go_sem, ↓reduceIte, Nat.reduceEqDiff, reduceCtorEq, Nat.reduceAdd, Nat.reduceLT, Nat.reduceLeDiff, Nat.reduceBNe, Nat.reduceBEq, Int.reduceToNat]
  refine aw_seq (aw_region (EF := EF0) hG (by rw [hN]; exact tr59_1) ?_)
  simp only [a59_1, go_sem, ↓reduceIte, Nat.reduceEqDiff, reduceCtorEq, Nat.reduceAdd, Nat.reduceLT, Nat.reduceLeDiff, Nat.reduceBNe, Nat.reduceBEq, Int.reduceToNat, tScale, gMul, h1, h2, h3, h4, h8, h9]
  refine aw_seq ?_
  refine aw_seq (aw_region (EF := EF0) hG (by rw [hN]; exact tr59_2) ?_)
  simp only [a59_2, go_sem, ↓reduceIte, Nat.reduceEqDiff, reduceCtorEq, Nat.reduceAdd, Nat.reduceLT, Nat.reduceLeDiff, Nat.reduceBNe, Nat.reduceBEq, Int.reduceToNat, e2]
  refine aw_condF rfl ?_
  refine aw_skip ?_
  try simp only [go_sem, ↓reduceIte, Nat.reduceEqDiff, reduceCtorEq, Nat.reduceAdd, Nat.reduceLT, Nat.reduceLeDiff, Nat.reduceBNe, Nat.reduceBEq, Int.reduceToNat]
  refine aw_seq (aw_region (EF := EF0) hG (by rw [hN]; exact tr59_4) ?_)
  simp only [a59_4, go_sem, ↓reduceIte, Nat.reduceEqDiff, reduceCtorEq, Nat.reduceAdd, Nat.reduceLT, Nat.reduceLeDiff, Nat.reduceBNe, Nat.reduceBEq, Int.reduceToNat, tScale, gDiv, h5, h6, h7]
  refine aw_seq (aw_region (EF := EF0) hG (by rw [hN]; exact tr59_5) ?_)
  simp only [a59_5, go_sem, ↓reduceIte, Nat.reduceEqDiff, reduceCtorEq, Nat.reduceAdd, Nat.reduceLT, Nat.reduceLeDiff, Nat.reduceBNe, Nat.reduceBEq, Int.reduceToNat]
  refine aw_ret ?_
  show Q _ _
  refine hQ _ _ (.inl rfl) ?_ ?_ ?_ <;> simp only [outφ, outV, AR.res, go_sem, ↓reduceIte, Nat.reduceEqDiff, reduceCtorEq, Nat.reduceAdd, Nat.reduceLT, Nat.reduceLeDiff, Nat.reduceBNe, Nat.reduceBEq, Int.reduceToNat, gScale]
/-! Percent. -/
def perR (a h : Int) : Int := (2 * (a * h) + 10000) / 20000
def perM (a h : Int) : Int × Int := if (fits a && fits h && fits (perR a h)) = true then (perR a h, 0) else (0, 11)
theorem perM_no {a h : Int} (hf : (fits a && fits h && fits (perR a h)) = false) : perM a h = (0, 11) := by unfold perM; rw [if_neg (by rw [hf]; decide)]
theorem perM_yes {a h : Int} (hf : (fits a && fits h && fits (perR a h)) = true) : perM a h = (perR a h, 0) := by unfold perM; rw [if_pos hf]
def rdP (P : Int) (neg : Bool) : Int := if (decide (5000 < P % 10000) || (decide (P % 10000 = 5000) && !neg)) = true then P / 10000 + 1 else P / 10000
theorem mul_abs (a h : Int) : a * h = if (decide (a < 0) != decide (h < 0)) = true then -((a.natAbs : Int) * h.natAbs) else (a.natAbs : Int) * h.natAbs := by
  by_cases ha : a < 0 <;> by_cases hh : h < 0
  · rw [decide_eq_true ha, decide_eq_true hh, if_neg (by decide), show (a.natAbs : Int) = -a by omega, show (h.natAbs : Int) = -h by omega]; grind
  · rw [decide_eq_true ha, decide_eq_false hh, if_pos (by decide), show (a.natAbs : Int) = -a by omega, show (h.natAbs : Int) = h by omega]; grind
  · rw [decide_eq_false ha, decide_eq_true hh, if_pos (by decide), show (a.natAbs : Int) = a by omega, show (h.natAbs : Int) = -h by omega]; grind
  · rw [decide_eq_false ha, decide_eq_false hh, if_neg (by decide), show (a.natAbs : Int) = a by omega, show (h.natAbs : Int) = h by omega]
theorem perR_rd {a h P : Int} {neg : Bool} (hP : (a.natAbs : Int) * h.natAbs = P) (h0 : 0 ≤ P) (hn : (decide (a < 0) != decide (h < 0)) = neg) : perR a h = if neg = true then -rdP P neg else rdP P neg := by
  have := mul_abs a h
  rw [hn, hP] at this
  unfold perR rdP
  rw [this]
  cases neg
  · simp only [Bool.false_eq_true, if_false, Bool.not_false, Bool.and_true, Bool.or_eq_true, decide_eq_true_eq]
    split <;> omega
  · simp only [if_true, Bool.not_true, Bool.and_false, Bool.or_false, decide_eq_true_eq]
    split <;> omega
theorem rdP_bd {P : Int} {neg : Bool} (h0 : 0 ≤ P) (h1 : P < u64m) : 0 ≤ rdP P neg ∧ rdP P neg ≤ 1844674407370956 := by
  unfold u64m at h1
  unfold rdP
  split <;> omega
theorem per_over {x q : Int} {neg : Bool} (h : x = if neg = true then -q else q) (hq : 1099511627776 < q) : fits x = false := by
  refine Bool.eq_false_iff.2 fun h1 => ?_
  have h2 := (fits_iff _).1 h1
  split at h <;> omega
theorem per_in {x : Int} (h : -1099511627776 ≤ x ∧ x ≤ 1099511627776) : fits x = true := (fits_iff _).2 h
def PerOk (a h : Int) : Prop := inI a ∧ inI h ∧ (fits a = true → fits h = true → (a.natAbs : Int) * h.natAbs < u64m)
def fPer (x : Int × Int) : Prop × V := (PerOk x.1 x.2, pairI (perM x.1 x.2))
theorem fPer_eq (a h : Int) : gOf aII fPer [.int .i64 a, .int .i64 h] = (PerOk a h, pairI (perM a h)) := gOf_eq aII_inj (a, h)
theorem inK_u64' {n : Int} (h : 0 ≤ n ∧ n ≤ 18446744073709551615) : inK .u64 n := inK_u64.2 h
noncomputable def tPer : Tab
  | 58 => (gOf aInt fFits)
  | 60 => gSize
  | 59 => gScale
  | _ => gNo
theorem tPer_ok : ∀ f, PureC Tryd.prog UT f (tPer f) := fun f => by
  unfold tPer
  split
  · exact fits_p
  · exact size_p
  · exact scale_p
  · exact PureC.no
theorem percent_p : PureC Tryd.prog UT 37 (gOf aII fPer) := by
  have hG := tPer_ok
  refine PureC.ofArgs aII_inj Tryd.func37 body37 nm37 res37 ?_
  rintro ⟨a, h⟩ hv
  refine ⟨by rw [nt37]; simp [aII], fun C hN Q hQ => ?_⟩
  rw [nt37] at hN
  unfold c37
  obtain ⟨hia, hih, hpm⟩ : PerOk a h := hv
  generalize hA : (a.natAbs : Int) = A at hpm
  generalize hH : (h.natAbs : Int) = H at hpm
  generalize hP : A * H = P at hpm
  have hA0 : 0 ≤ A := by omega
  have hH0 : 0 ≤ H := by omega
  have hP0 : 0 ≤ P := hP ▸ Int.mul_nonneg hA0 hH0
  have hA1 : A < u64m := by unfold u64m; have := hia; unfold inI at this; omega
  have hH1 : H < u64m := by unfold u64m; have := hih; unfold inI at this; omega
  have hm0 : (0 : Int) < 10000 := by decide
  generalize hng : (decide (a < 0) != decide (h < 0)) = neg
  have hrd := perR_rd (a := a) (h := h) (P := P) (neg := neg) (by rw [hA, hH, hP]) hP0 hng
  refine aw_seq (aw_region (EF := EF0) hG (by rw [hN]; exact tr37_0) ?_)
  simp only [a37_0, go_sem, ↓reduceIte, Nat.reduceEqDiff, reduceCtorEq, Nat.reduceAdd, Nat.reduceLT, Nat.reduceLeDiff, Nat.reduceBNe, Nat.reduceBEq, Int.reduceToNat, aII, tPer, fFits_eq]
  refine aw_seq ?_
  by_cases hfa : fits a = true
  · skip
    by_cases hfb : fits h = true
    · skip
      refine aw_seq (aw_region (EF := EF0) hG (by rw [hN]; exact tr37_1) ?_)
      simp only [a37_1, go_sem, ↓reduceIte, Nat.reduceEqDiff, reduceCtorEq, Nat.reduceAdd, Nat.reduceLT, Nat.reduceLeDiff, Nat.reduceBNe, Nat.reduceBEq, Int.reduceToNat, hfa, hfb, tPer, fFits_eq]
      (repeat' apply And.intro) <;> (try first | omega | (intros; (repeat' apply And.intro) <;> first | assumption | omega | (simp_all; done)))
      refine aw_condF rfl ?_
      refine aw_skip ?_
      try simp only [go_sem, ↓reduceIte, Nat.reduceEqDiff, reduceCtorEq, Nat.reduceAdd, Nat.reduceLT, Nat.reduceLeDiff, Nat.reduceBNe, Nat.reduceBEq, Int.reduceToNat]
      have hpu := hpm hfa hfb
      have hbd := rdP_bd (neg := neg) hP0 hpu
      refine aw_seq (aw_region (EF := EF0) hG (by rw [hN]; exact tr37_3) ?_)
      simp only [a37_3, go_sem, ↓reduceIte, Nat.reduceEqDiff, reduceCtorEq, Nat.reduceAdd, Nat.reduceLT, Nat.reduceLeDiff, Nat.reduceBNe, Nat.reduceBEq, Int.reduceToNat, gSize, gScale, hia, hih, hA, hH, hP, hA0, hA1, hH0, hH1, hpu, hm0, tPer, fFits_eq]
      refine aw_seq (aw_region (EF := EF0) hG (by rw [hN]; exact tr37_4) ?_)
      simp only [a37_4, go_sem, ↓reduceIte, Nat.reduceEqDiff, reduceCtorEq, Nat.reduceAdd, Nat.reduceLT, Nat.reduceLeDiff, Nat.reduceBNe, Nat.reduceBEq, Int.reduceToNat, hng, tPer, fFits_eq]
      (repeat' apply And.intro) <;> (try first | omega | (intros; (repeat' apply And.intro) <;> first | assumption | omega | (simp_all; done)))
      refine aw_cut (α := Int) (fun q => (q = rdP P neg)) (fun q => ⟨mkE [(6, .int .u64 q), (8, V.bool true), (9, V.bool neg)], mkH []⟩) ?_ ?_
      · intro KC5 hKC5
        refine aw_seq (aw_region (EF := EF0) hG (by rw [hN]; exact tr37_5) ?_)
        simp only [a37_5, go_sem, ↓reduceIte, Nat.reduceEqDiff, reduceCtorEq, Nat.reduceAdd, Nat.reduceLT, Nat.reduceLeDiff, Nat.reduceBNe, Nat.reduceBEq, Int.reduceToNat, tPer, fFits_eq]
        (repeat' apply And.intro) <;> (try first | omega | (intros; (repeat' apply And.intro) <;> first | assumption | omega | (simp_all; done)))
        refine aw_cond (b := _) rfl (fun hb5 => ?_) (fun hb5 => ?_)
        · skip
          refine aw_region (EF := EF0) hG (by rw [hN]; exact tr37_6) ?_
          simp only [a37_6, go_sem, ↓reduceIte, Nat.reduceEqDiff, reduceCtorEq, Nat.reduceAdd, Nat.reduceLT, Nat.reduceLeDiff, Nat.reduceBNe, Nat.reduceBEq, Int.reduceToNat, inI, inK_u64' (show 0 ≤ P / 10000 + 1 ∧ P / 10000 + 1 ≤ 18446744073709551615 by unfold u64m at hpu; omega), tPer, fFits_eq]
          refine hKC5 (P / 10000 + 1) _ ?_ ?_
          · (try dsimp only); exact (by unfold rdP; rw [if_pos hb5])
          · refine Le.mk _ _ ?_ ?_ rfl <;> simp only [go_sem, ↓reduceIte, Nat.reduceEqDiff, reduceCtorEq, Nat.reduceAdd, Nat.reduceLT, Nat.reduceLeDiff, Nat.reduceBNe, Nat.reduceBEq, Int.reduceToNat] <;> (repeat' apply And.intro) <;> (try first | rfl | exact wk_frzb rfl rfl rfl | exact wk_fn rfl | exact .nilo _ _ _ rfl rfl)
        · skip
          refine aw_skip ?_
          try simp only [go_sem, ↓reduceIte, Nat.reduceEqDiff, reduceCtorEq, Nat.reduceAdd, Nat.reduceLT, Nat.reduceLeDiff, Nat.reduceBNe, Nat.reduceBEq, Int.reduceToNat]
          refine hKC5 (P / 10000) _ ?_ ?_
          · (try dsimp only); exact (by unfold rdP; rw [if_neg (by rw [hb5]; decide)])
          · refine Le.mk _ _ ?_ ?_ rfl <;> simp only [go_sem, ↓reduceIte, Nat.reduceEqDiff, reduceCtorEq, Nat.reduceAdd, Nat.reduceLT, Nat.reduceLeDiff, Nat.reduceBNe, Nat.reduceBEq, Int.reduceToNat] <;> (repeat' apply And.intro) <;> (try first | rfl | exact wk_frzb rfl rfl rfl | exact wk_fn rfl | exact .nilo _ _ _ rfl rfl)
      · rintro q hq
        refine aw_seq ?_
        refine aw_seq (aw_region (EF := EF0) hG (by rw [hN]; exact tr37_7) ?_)
        simp only [a37_7, go_sem, ↓reduceIte, Nat.reduceEqDiff, reduceCtorEq, Nat.reduceAdd, Nat.reduceLT, Nat.reduceLeDiff, Nat.reduceBNe, Nat.reduceBEq, Int.reduceToNat, tPer, fFits_eq]
        (repeat' apply And.intro) <;> (try first | omega | (intros; (repeat' apply And.intro) <;> first | assumption | omega | (simp_all; done)))
        refine aw_cond (b := _) rfl (fun hb7 => ?_) (fun hb7 => ?_)
        · skip
          refine aw_seq (aw_region (EF := EF0) hG (by rw [hN]; exact tr37_8) ?_)
          simp only [a37_8, go_sem, ↓reduceIte, Nat.reduceEqDiff, reduceCtorEq, Nat.reduceAdd, Nat.reduceLT, Nat.reduceLeDiff, Nat.reduceBNe, Nat.reduceBEq, Int.reduceToNat, tPer, fFits_eq]
          refine aw_ret ?_
          show Q _ _
          refine hQ _ _ (.inl rfl) ?_ ?_ ?_ <;> simp only [outφ, outV, AR.res, go_sem, ↓reduceIte, Nat.reduceEqDiff, reduceCtorEq, Nat.reduceAdd, Nat.reduceLT, Nat.reduceLeDiff, Nat.reduceBNe, Nat.reduceBEq, Int.reduceToNat, fPer, pairI]
          rw [perM_no (by rw [hfa, hfb, per_over hrd (by rw [← hq]; exact of_decide_eq_true hb7)]; rfl)]
        · skip
          refine aw_skip ?_
          try simp only [go_sem, ↓reduceIte, Nat.reduceEqDiff, reduceCtorEq, Nat.reduceAdd, Nat.reduceLT, Nat.reduceLeDiff, Nat.reduceBNe, Nat.reduceBEq, Int.reduceToNat]
          refine aw_seq ?_
          refine aw_seq (aw_region (EF := EF0) hG (by rw [hN]; exact tr37_9) ?_)
          simp only [a37_9, go_sem, ↓reduceIte, Nat.reduceEqDiff, reduceCtorEq, Nat.reduceAdd, Nat.reduceLT, Nat.reduceLeDiff, Nat.reduceBNe, Nat.reduceBEq, Int.reduceToNat, tPer, fFits_eq]
          refine aw_cond (b := _) rfl (fun hb9 => ?_) (fun hb9 => ?_)
          · skip
            have hk10 : inK .i64 q := inK_i64.2 (by unfold inI; have := of_decide_eq_false hb7; omega)
            refine aw_seq (aw_region (EF := EF0) hG (by rw [hN]; exact tr37_10) ?_)
            simp only [a37_10, go_sem, ↓reduceIte, Nat.reduceEqDiff, reduceCtorEq, Nat.reduceAdd, Nat.reduceLT, Nat.reduceLeDiff, Nat.reduceBNe, Nat.reduceBEq, Int.reduceToNat, inI, hk10, tPer, fFits_eq]
            (repeat' apply And.intro) <;> (try first | omega | (intros; (repeat' apply And.intro) <;> first | assumption | omega | (simp_all; done)) | (have := of_decide_eq_false hb7; omega))
            refine aw_ret ?_
            show Q _ _
            refine hQ _ _ (.inl rfl) ?_ ?_ ?_ <;> simp only [outφ, outV, AR.res, go_sem, ↓reduceIte, Nat.reduceEqDiff, reduceCtorEq, Nat.reduceAdd, Nat.reduceLT, Nat.reduceLeDiff, Nat.reduceBNe, Nat.reduceBEq, Int.reduceToNat, fPer, pairI]
            rw [hb9, if_pos rfl] at hrd; rw [perM_yes (by rw [hfa, hfb, per_in (by have := of_decide_eq_false hb7; rw [hb9] at hq hbd; omega)]; rfl), hrd, ← hb9, ← hq]
          · skip
            refine aw_skip ?_
            try simp only [go_sem, ↓reduceIte, Nat.reduceEqDiff, reduceCtorEq, Nat.reduceAdd, Nat.reduceLT, Nat.reduceLeDiff, Nat.reduceBNe, Nat.reduceBEq, Int.reduceToNat]
            have hk11 : inK .i64 q := inK_i64.2 (by unfold inI; have := of_decide_eq_false hb7; omega)
            refine aw_seq (aw_region (EF := EF0) hG (by rw [hN]; exact tr37_11) ?_)
            simp only [a37_11, go_sem, ↓reduceIte, Nat.reduceEqDiff, reduceCtorEq, Nat.reduceAdd, Nat.reduceLT, Nat.reduceLeDiff, Nat.reduceBNe, Nat.reduceBEq, Int.reduceToNat, hk11, tPer, fFits_eq]
            refine aw_ret ?_
            show Q _ _
            refine hQ _ _ (.inl rfl) ?_ ?_ ?_ <;> simp only [outφ, outV, AR.res, go_sem, ↓reduceIte, Nat.reduceEqDiff, reduceCtorEq, Nat.reduceAdd, Nat.reduceLT, Nat.reduceLeDiff, Nat.reduceBNe, Nat.reduceBEq, Int.reduceToNat, fPer, pairI]
            rw [hb9, if_neg (by decide)] at hrd; rw [perM_yes (by rw [hfa, hfb, per_in (by have := of_decide_eq_false hb7; rw [hb9] at hq hbd; omega)]; rfl), hrd, ← hb9, ← hq]
    · skip
      replace hfb := Bool.eq_false_iff.2 hfb
      refine aw_seq (aw_region (EF := EF0) hG (by rw [hN]; exact tr37_1) ?_)
      simp only [a37_1, go_sem, ↓reduceIte, Nat.reduceEqDiff, reduceCtorEq, Nat.reduceAdd, Nat.reduceLT, Nat.reduceLeDiff, Nat.reduceBNe, Nat.reduceBEq, Int.reduceToNat, hfa, hfb, tPer, fFits_eq]
      (repeat' apply And.intro) <;> (try first | omega | (intros; (repeat' apply And.intro) <;> first | assumption | omega | (simp_all; done)))
      refine aw_condT rfl ?_
      refine aw_seq (aw_region (EF := EF0) hG (by rw [hN]; exact tr37_2) ?_)
      simp only [a37_2, go_sem, ↓reduceIte, Nat.reduceEqDiff, reduceCtorEq, Nat.reduceAdd, Nat.reduceLT, Nat.reduceLeDiff, Nat.reduceBNe, Nat.reduceBEq, Int.reduceToNat, tPer, fFits_eq]
      refine aw_ret ?_
      show Q _ _
      refine hQ _ _ (.inl rfl) ?_ ?_ ?_ <;> simp only [outφ, outV, AR.res, go_sem, ↓reduceIte, Nat.reduceEqDiff, reduceCtorEq, Nat.reduceAdd, Nat.reduceLT, Nat.reduceLeDiff, Nat.reduceBNe, Nat.reduceBEq, Int.reduceToNat, fPer, pairI]
      rw [perM_no (by rw [hfb]; simp)]
  · skip
    replace hfa := Bool.eq_false_iff.2 hfa
    by_cases hfb : fits h = true
    · skip
      refine aw_seq (aw_region (EF := EF0) hG (by rw [hN]; exact tr37_1) ?_)
      simp only [a37_1, go_sem, ↓reduceIte, Nat.reduceEqDiff, reduceCtorEq, Nat.reduceAdd, Nat.reduceLT, Nat.reduceLeDiff, Nat.reduceBNe, Nat.reduceBEq, Int.reduceToNat, hfa, hfb, tPer, fFits_eq]
      (repeat' apply And.intro) <;> (try first | omega | (intros; (repeat' apply And.intro) <;> first | assumption | omega | (simp_all; done)))
      refine aw_condT rfl ?_
      refine aw_seq (aw_region (EF := EF0) hG (by rw [hN]; exact tr37_2) ?_)
      simp only [a37_2, go_sem, ↓reduceIte, Nat.reduceEqDiff, reduceCtorEq, Nat.reduceAdd, Nat.reduceLT, Nat.reduceLeDiff, Nat.reduceBNe, Nat.reduceBEq, Int.reduceToNat, tPer, fFits_eq]
      refine aw_ret ?_
      show Q _ _
      refine hQ _ _ (.inl rfl) ?_ ?_ ?_ <;> simp only [outφ, outV, AR.res, go_sem, ↓reduceIte, Nat.reduceEqDiff, reduceCtorEq, Nat.reduceAdd, Nat.reduceLT, Nat.reduceLeDiff, Nat.reduceBNe, Nat.reduceBEq, Int.reduceToNat, fPer, pairI]
      rw [perM_no (by rw [hfa]; simp)]
    · skip
      replace hfb := Bool.eq_false_iff.2 hfb
      refine aw_seq (aw_region (EF := EF0) hG (by rw [hN]; exact tr37_1) ?_)
      simp only [a37_1, go_sem, ↓reduceIte, Nat.reduceEqDiff, reduceCtorEq, Nat.reduceAdd, Nat.reduceLT, Nat.reduceLeDiff, Nat.reduceBNe, Nat.reduceBEq, Int.reduceToNat, hfa, hfb, tPer, fFits_eq]
      (repeat' apply And.intro) <;> (try first | omega | (intros; (repeat' apply And.intro) <;> first | assumption | omega | (simp_all; done)))
      refine aw_condT rfl ?_
      refine aw_seq (aw_region (EF := EF0) hG (by rw [hN]; exact tr37_2) ?_)
      simp only [a37_2, go_sem, ↓reduceIte, Nat.reduceEqDiff, reduceCtorEq, Nat.reduceAdd, Nat.reduceLT, Nat.reduceLeDiff, Nat.reduceBNe, Nat.reduceBEq, Int.reduceToNat, tPer, fFits_eq]
      refine aw_ret ?_
      show Q _ _
      refine hQ _ _ (.inl rfl) ?_ ?_ ?_ <;> simp only [outφ, outV, AR.res, go_sem, ↓reduceIte, Nat.reduceEqDiff, reduceCtorEq, Nat.reduceAdd, Nat.reduceLT, Nat.reduceLeDiff, Nat.reduceBNe, Nat.reduceBEq, Int.reduceToNat, fPer, pairI]
      rw [perM_no (by rw [hfa]; simp)]
end Go.Proofs.YtailckanpheciaaDoor
